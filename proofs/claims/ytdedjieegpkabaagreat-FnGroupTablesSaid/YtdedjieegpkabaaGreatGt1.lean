/-
  Rules of walks, plain functions and their laws, part 1.
  Conditions: none.
-/
import Derived.WalkKit
import Derived.Below
import Derived.Orders
import Derived.Deep.AppendLies
import Derived.Deep.LoopGhost
import Derived.WalkLawsBesides
import Derived.Laws.Small
import Derived.Laws.StructEq
import Derived.Laws.CopyRow
import Derived.Laws.Tables
import Derived.Laws.MakeOwn
import Derived.Great.BuildSlice
import Derived.DataReads
import Derived.OpenShut
set_option linter.unusedSimpArgs false
set_option linter.unusedVariables false
namespace Go.Proofs.YtdedjieegpkabaaGreat
open Go.RowKit
abbrev zr:=ByteArray.empty
abbrev zq:=ByteArray
theorem za:∀ {p : Prop} [inst : Decidable p], p → decide p = true:=@decide_eq_true
theorem zb.{u_1}:∀ {α : Type u_1} {as bs : List α}, List.length (as ++ bs) = List.length as + List.length bs:=@List.length_append
theorem zc:(!false) = true:=@Bool.not_false
theorem zd:∀ (n : Nat), Int.toNat ↑n = n:=@Int.toNat_natCast
theorem ze:∀ (a b : Bool), ((a && b) = true) = (a = true ∧ b = true):=@Bool.and_eq_true
theorem zf:∀ (n : Nat), n < Nat.succ n:=@Nat.lt_succ_self
theorem zg:∀ {a b c : Int}, a ≤ b → 0 ≤ c → c * a ≤ c * b:=@Int.mul_le_mul_of_nonneg_left
theorem zh.{u_1}:∀ {α : Type u_1} {a : α}, ¬a ∈ []:=@List.not_mem_nil
theorem zi.{u_1}:∀ {α : Type u_1} (as : List α), [] ++ as = as:=@List.nil_append
theorem zj.{u_1}:∀ {α : Type u_1} [inst : BEq α] [LawfulBEq α] {a b : α}, (a == b) = false ↔ a ≠ b:=@beq_eq_false_iff_ne
theorem zk.{u_1}:∀ {α : Type u_1} {l : List α} {n : Nat} (h : n < List.length l), l[n] ∈ l:=@List.getElem_mem
theorem zl.{u_1}:∀ {α : Type u_1} {l : List α} {i : Nat} (h : i < List.length l), l[i]? = some l[i]:=@List.getElem?_eq_getElem
theorem zm:∀ (a b c : Int), a * b * c = a * (b * c):=@Int.mul_assoc
theorem zn:∀ (a : Int) {b : Int}, b ≠ 0 → 0 ≤ a % b:=@Int.emod_nonneg
theorem zo:∀ (a : Int) {b : Int}, 0 < b → a % b < b:=@Int.emod_lt_of_pos
theorem zp:∀ {p : Prop} [inst : Decidable p], decide p = true ↔ p:=@decide_eq_true_iff
def TB:List (Nat×(Array Value→Prop)):=[]
inductive Tr where
  |v (x:Value)
  |sl (els:List (List Tr))
  |mp (kvs:List (Value×Value))
def at2(els:List (List Tr))(i j:Nat):Option Tr:=(els[i]?).bind fun el=>el[j]?
def kvOf(e:MapEntry):Value×Value:=(e.key,e.val)
inductive Rd (ok:Nat→Prop) (w:World):Tr→Value→Prop
  |v (x:Value) (h:x.oneCell'=true):Rd ok w (.v x) x
  |nl (A:Option Addr) (cap:Nat):Rd ok w (.sl []) (.slice A 0 cap)
  |sl (g off n cap sz:Nat) (els:List (List Tr)) (f:Nat→Nat→Value) (hn:n=els.length) (hcap:n≤cap) (hok:ok g)
      (hsz:∀el,el∈els→el.length=sz)
      (hc:∀i j c,at2 els i j=some c→w.cell? ⟨g,off+(i*sz+j),none⟩=some (f i j))
      (hr:∀i j c,at2 els i j=some c→Rd ok w c (f i j)):Rd ok w (.sl els) (.slice (some ⟨g,off,none⟩) n cap)
  |mp (b:Nat) (es:Array MapEntry) (clock:Nat) (hok:ok b) (hb:w.heap[b]?=some (.map es clock)):Rd ok w (.mp (es.toList.map kvOf)) (.map (some b))
theorem Rd.one{ok:Nat→Prop}{w:World}{t:Tr}{x:Value}(h:Rd ok w t x):x.oneCell'=true:=by
 cases h with
 |v x h=>exact h
 |nl A cap=>rfl
 |sl=>rfl
 |mp=>rfl
theorem Rd.mono{ok ok':Nat→Prop}{w w':World}{t:Tr}{x:Value}(h:Rd ok w t x)(hok:∀g,ok g→ok' g)(hw:∀g,ok g→w'.heap[g]?=w.heap[g]?):Rd ok' w' t x:=by
 induction h with
 |v x h=>exact .v x h
 |nl A cap=>exact .nl A cap
 |sl g off n cap sz els f hn hcap hg hsz hc hr ih=>refine .sl g off n cap sz els f hn hcap (hok g hg) hsz (fun i j c h=>?_) ih;rw[World.cell?_of_block (w:=w) (hw g hg)];exact hc i j c h
 |mp b es clock hb hm=>exact .mp b es clock (hok b hb) (by rw[hw b hb];exact hm)
def Tr.flat:Tr→Bool
 | .v _=>true
 | .sl []=>true
 |_=>false
theorem Rd.flat{ok ok':Nat→Prop}{w w':World}{t:Tr}{x:Value}(h:Rd ok w t x)(hf:t.flat=true):Rd ok' w' t x:=by
 cases h with
 |v x h=>exact .v x h
 |nl A cap=>exact .nl A cap
 |sl g off n cap sz els f hn hcap hg hsz hc hr=>
  cases els with
  |nil=>subst hn;exact .nl _ cap
  |cons e es=>simp[Tr.flat]at hf
 |mp b es clock hb hm=>simp[Tr.flat]at hf
inductive RdL (ok:Nat→Prop) (w:World):List Tr→List Value→Prop
  |nil:RdL ok w [] []
  |cons {t x ts xs} (h:Rd ok w t x) (hs:RdL ok w ts xs):RdL ok w (t::ts) (x::xs)
theorem RdL.len{ok:Nat→Prop}{w:World}{ts:List Tr}{xs:List Value}(h:RdL ok w ts xs):ts.length=xs.length:=by
 induction h with
 |nil=>rfl
 |cons h hs ih=>simp[ih]
theorem RdL.mono{ok ok':Nat→Prop}{w w':World}{ts:List Tr}{xs:List Value}(h:RdL ok w ts xs)(hok:∀g,ok g→ok' g)(hw:∀g,ok g→w'.heap[g]?=w.heap[g]?):RdL ok' w' ts xs:=by
 induction h with
 |nil=>exact .nil
 |cons h hs ih=>exact .cons (h.mono hok hw) ih
theorem RdL.flat{ok ok':Nat→Prop}{w w':World}{ts:List Tr}{xs:List Value}(h:RdL ok w ts xs)(hf:ts.all Tr.flat=true):RdL ok' w' ts xs:=by
 induction h with
 |nil=>exact .nil
 |cons h hs ih=>simp only[List.all_cons,ze]at hf;exact .cons (h.flat hf.1) (ih hf.2)
theorem RdL.app{ok:Nat→Prop}{w:World}{ts us:List Tr}{xs ys:List Value}(h:RdL ok w ts xs)(h2:RdL ok w us ys):RdL ok w (ts++us) (xs++ys):=by
 induction h with
 |nil=>exact h2
 |cons h hs ih=>exact .cons h ih
theorem RdL.get{ok:Nat→Prop}{w:World}{ts:List Tr}{xs:List Value}(h:RdL ok w ts xs):∀(j:Nat)(t:Tr),ts[j]?=some t→∃x,xs[j]?=some x∧Rd ok w t x:=by
 induction h with
 |nil=>intro j t h;simp at h
 |cons h hs ih=>
  intro j t hj;cases j with
  |zero=>simp at hj;subst hj;exact⟨_,rfl,h⟩
  |succ j=>simpa using ih j t (by simpa using hj)
theorem RdL.mk{ok:Nat→Prop}{w:World}:∀{ts:List Tr}{xs:List Value},ts.length=xs.length→(∀(j:Nat)(t:Tr),ts[j]?=some t→∃x,xs[j]?=some x∧Rd ok w t x)→RdL ok w ts xs
 |[],[],_,_=>.nil
 |[],_::_,h,_=>by simp at h
 |_::_,[],h,_=>by simp at h
 |t::ts,x::xs,h,hg=>by obtain⟨y,h1,h2⟩:=hg 0 t rfl;simp at h1;subst h1;exact .cons h2 (RdL.mk (by simpa using h) fun (j:Nat) u hj=>by simpa using hg (j+1) u (by simpa using hj))
theorem RdL.one{ok:Nat→Prop}{w:World}{ts:List Tr}{xs:List Value}(h:RdL ok w ts xs):∀x,x∈xs→x.oneCell'=true:=by
 induction h with
 |nil=>intro x h;cases h
 |cons h hs ih=>
  intro x hx;cases hx with
  |head=>exact h.one
  |tail _ hx=>exact ih x hx
theorem RdL.take{ok:Nat→Prop}{w:World}{ts:List Tr}{xs:List Value}(h:RdL ok w ts xs)(n:Nat):RdL ok w (ts.take n) (xs.take n):=by
 induction h generalizing n with
 |nil=>simpa using RdL.nil
 |cons h hs ih=>
  cases n with
  |zero=>exact .nil
  |succ n=>exact .cons h (ih n)
theorem RdL.drop{ok:Nat→Prop}{w:World}{ts:List Tr}{xs:List Value}(h:RdL ok w ts xs)(n:Nat):RdL ok w (ts.drop n) (xs.drop n):=by
 induction h generalizing n with
 |nil=>simpa using RdL.nil
 |cons h hs ih=>
  cases n with
  |zero=>exact .cons h hs
  |succ n=>exact ih n
theorem RdL.set{ok:Nat→Prop}{w:World}{ts:List Tr}{xs:List Value}(h:RdL ok w ts xs)(n:Nat){t:Tr}{x:Value}(hx:Rd ok w t x):RdL ok w (ts.set n t) (xs.set n x):=by
 induction h generalizing n with
 |nil=>simpa using RdL.nil
 |cons h hs ih=>
  cases n with
  |zero=>exact .cons hx hs
  |succ n=>exact .cons h (ih n)
def PeOk(ok:Nat→Prop)(w:World)(cs:List Tr)(y:Value):Prop:=∃g off,ok g∧y=.pointer (some ⟨g,off,none⟩)∧∀j c,cs[j]?=some c→∃u,w.cell? ⟨g,off+j,none⟩=some u∧Rd ok w c u
theorem PeOk.mono{ok ok':Nat→Prop}{w w':World}{cs:List Tr}{y:Value}(h:PeOk ok w cs y)(hok:∀g,ok g→ok' g)(hw:∀g,ok g→w'.heap[g]?=w.heap[g]?):PeOk ok' w' cs y:=by obtain⟨g,off,hg,hy,hc⟩:=h;refine⟨g,off,hok g hg,hy,fun j c hj=>?_⟩;obtain⟨u,h1,h2⟩:=hc j c hj;exact⟨u,by rw[World.cell?_of_block (w:=w) (hw g hg)];exact h1,h2.mono hok hw⟩
inductive PeL (ok:Nat→Prop) (w:World):List (List Tr)→List Value→Prop
  |nil:PeL ok w [] []
  |cons {c y cs ys} (h:PeOk ok w c y) (hs:PeL ok w cs ys):PeL ok w (c::cs) (y::ys)
theorem PeL.mono{ok ok':Nat→Prop}{w w':World}{cs:List (List Tr)}{ys:List Value}(h:PeL ok w cs ys)(hok:∀g,ok g→ok' g)(hw:∀g,ok g→w'.heap[g]?=w.heap[g]?):PeL ok' w' cs ys:=by
 induction h with
 |nil=>exact .nil
 |cons h hs ih=>exact .cons (h.mono hok hw) ih
inductive VwM
  |whole
  |elem (i:Nat)
  |sub (k:Nat)
inductive AV where
  |bot
  |c (t:Tr)
  |ag (cs:List Tr)
  |ow (id:Nat)
  |pt (id off:Nat)
  |po (id sz i off:Nat)
  |pe (cs:List Tr)
  |fn (f:FuncId) (caps:List (List Tr))
  |vw (id:Nat) (els:List (List Tr)) (m:VwM)
  |sf (id sz k:Nat)
  |er (b:Bool)
  |tn
  |tc (x r:AV)
structure Loc where
  blk:Option Nat
  n:Nat
  cap:Nat
inductive Ent where
  |box (cs:List Tr)
  |arr (e:TypeId) (sz:Nat) (els:List (List Tr))
  |pbox (l:Loc) (cs:List Tr)
  |parr (l:Loc) (e:TypeId) (sz:Nat) (els:List (List Tr))
  |mp (b:Nat) (kvs:List (Value×Value))
  |qarr (l:Loc) (e:TypeId) (sz:Nat) (els:List (List Tr))
def Ent.core:Ent→Ent
 | .pbox _ cs=>.box cs
 | .parr _ e sz els=>.arr e sz els
 | .box cs=>.box cs
 | .arr e sz els=>.arr e sz els
 | .mp b kvs=>.mp b kvs
 | .qarr _ e sz els=>.arr e sz els
def Ent.pin:Ent→Bool
 | .pbox _ _=>true
 | .parr _ _ _ _=>true
 | .box _=>false
 | .arr _ _ _=>false
 | .mp _ _=>false
 | .qarr _ _ _ _=>false
def Ent.plain:Ent→Bool
 | .box _=>true
 | .arr _ _ _=>true
 |_=>false
theorem Ent.pin_of_plain{e:Ent}(h:e.plain=true):e.pin=false:=by cases e<;>first|rfl|cases h
def zG(l:Loc):Value:=.slice (l.blk.map fun g=>⟨g,0,none⟩) l.n l.cap
def vwVal(g sz n cap:Nat):VwM→Value
 | .whole=>.slice (some ⟨g,0,none⟩) n cap
 | .elem i=>.pointer (some ⟨g,i*sz,none⟩)
 | .sub k=>.slice (some ⟨g,k*sz,none⟩) (n - k) (cap - k)
def VwOk(ok:Nat→Prop)(l:Loc)(w:World)(els:List (List Tr))(m:VwM)(y:Value):Prop:=
 ∃g sz cap,0<els.length∧els.length≤cap∧0<sz∧(∀el,el∈els→el.length=sz)∧y=vwVal g sz els.length cap m∧
  (l.blk=some g∨(ok g∧∃vs,RdL ok w els.flatten vs∧∀(j:Nat)(u:Value),vs[j]?=some u→w.cell? ⟨g,j,none⟩=some u))
theorem VwOk.mono{ok ok':Nat→Prop}{l l':Loc}{w w':World}{els:List (List Tr)}{m:VwM}{y:Value}(h:VwOk ok l w els m y)(hok:∀g,ok g→ok' g)(hw:∀g,ok g→w'.heap[g]?=w.heap[g]?)(hl:l'=l):VwOk ok' l' w' els m y:=by
 subst hl;obtain⟨g,sz,cap,h1,h2,h3,h4,h5,h6⟩:=h;refine⟨g,sz,cap,h1,h2,h3,h4,h5,?_⟩;rcases h6 with h6|⟨h6,vs,h7,h8⟩
 ·exact .inl h6
 ·refine .inr ⟨hok g h6,vs,h7.mono hok hw,fun j u hj=>?_⟩;rw[World.cell?_of_block (w:=w) (hw g h6)];exact h8 j u hj
def sfVal(l:Loc)(sz k:Nat):Value:=.slice (bif Nat.beq l.cap k then l.blk.map (fun g=>⟨g,0,none⟩) else l.blk.map (fun g=>⟨g,k*sz,none⟩)) (l.n - k) (l.cap - k)
def Rel1(ok:Nat→Prop)(σ:Nat→Loc)(w:World):AV→Value→Prop
 | .bot,_=>True
 | .c t,y=>Rd ok w t y
 | .ag cs,y=>∃vs,y=.agg vs∧RdL ok w cs vs.toList
 | .ow id,y=>y=zG (σ id)
 | .pt id off,y=>∃g,(σ id).blk=some g∧y=.pointer (some ⟨g,off,none⟩)
 | .po id sz i off,y=>∃g,(σ id).blk=some g∧y=.pointer (some ⟨g,i*sz+off,none⟩)
 | .pe cs,y=>∃g off,ok g∧y=.pointer (some ⟨g,off,none⟩)∧∀j c,cs[j]?=some c→∃u,w.cell? ⟨g,off+j,none⟩=some u∧Rd ok w c u
 | .fn f caps,y=>∃vs,y=.func (.func f) #[] vs.toArray∧PeL ok w caps vs
 | .vw id els m,y=>VwOk ok (σ id) w els m y
 | .sf id sz k,y=>y=sfVal (σ id) sz k
 | .er b,y=>(b=true∧y=.nilIface)∨(b=false∧∃t v,y=.iface t v)
 |_,_=>False
def RelL(ok:Nat→Prop)(σ:Nat→Loc)(w:World):AV→List Value→Prop
 | .tn,[]=>True
 | .tc x r,v::vs=>Rel1 ok σ w x v∧RelL ok σ w r vs
 |_,_=>False
def Rel(ok:Nat→Prop)(σ:Nat→Loc)(w:World):AV→Value→Prop
 | .tn,y=>∃vs,y=.tuple vs∧RelL ok σ w .tn vs.toList
 | .tc x r,y=>∃vs,y=.tuple vs∧RelL ok σ w (.tc x r) vs.toList
 |av,y=>Rel1 ok σ w av y
def AV.ment(d:Nat):AV→Bool
 | .ow id=>id / 8==d
 | .pt id _=>id / 8==d
 | .po id _ _ _=>id / 8==d
 | .vw id _ _=>id / 8==d
 | .sf id _ _=>id / 8==d
 | .tc x r=>x.ment d||r.ment d
 |_=>false
theorem Rel1.mono{ok ok':Nat→Prop}{σ σ':Nat→Loc}{w w':World}{av:AV}{y:Value}(d:Nat)(h:Rel1 ok σ w av y)(hok:∀g,ok g→ok' g)(hw:∀g,ok g→w'.heap[g]?=w.heap[g]?)
  (hm:av.ment d=false) (hσ:∀id,id / 8≠d→σ' id=σ id):Rel1 ok' σ' w' av y:=by
 cases av with
 |bot=>trivial
 |c t=>exact Rd.mono h hok hw
 |ag cs=>obtain⟨vs,hy,hr⟩:=h;exact⟨vs,hy,hr.mono hok hw⟩
 |ow id=>have e:=hσ id (by simpa [AV.ment] using hm);show y=_;rw[e];exact h
 |pt id off=>have e:=hσ id (by simpa [AV.ment] using hm);show ∃g,_;rw[e];exact h
 |po id sz i off=>have e:=hσ id (by simpa [AV.ment] using hm);show ∃g,_;rw[e];exact h
 |pe cs=>obtain⟨g,off,hg,hy,hc⟩:=h;refine⟨g,off,hok g hg,hy,fun j c hj=>?_⟩;obtain⟨u,h1,h2⟩:=hc j c hj;exact⟨u,by rw[World.cell?_of_block (w:=w) (hw g hg)];exact h1,h2.mono hok hw⟩
 |fn f caps=>obtain⟨vs,hy,hp⟩:=h;exact⟨vs,hy,hp.mono hok hw⟩
 |er b=>exact h
 |vw id els m=>exact VwOk.mono h hok hw (hσ id (by simpa [AV.ment] using hm))
 |sf id sz k=>have e:=hσ id (by simpa [AV.ment] using hm);show y=_;rw[e];exact h
 |tn=>exact h.elim
 |tc x r=>exact h.elim
theorem RelL.mono{ok ok':Nat→Prop}{σ σ':Nat→Loc}{w w':World}{av:AV}{ys:List Value}(d:Nat)(h:RelL ok σ w av ys)(hok:∀g,ok g→ok' g)(hw:∀g,ok g→w'.heap[g]?=w.heap[g]?)
  (hm:av.ment d=false) (hσ:∀id,id / 8≠d→σ' id=σ id):RelL ok' σ' w' av ys:=by
 induction av generalizing ys with
 |tn=>
  cases ys with
  |nil=>trivial
  |cons y ys=>exact h.elim
 |tc x r _ ih=>
  cases ys with
  |nil=>exact h.elim
  |cons y ys=>simp only[AV.ment,Bool.or_eq_false_iff]at hm;exact⟨h.1.mono d hok hw hm.1 hσ,ih h.2 hm.2⟩
 |_=>cases ys<;>exact (h:False).elim
theorem Rel.mono{ok ok':Nat→Prop}{σ σ':Nat→Loc}{w w':World}{av:AV}{y:Value}(d:Nat)(h:Rel ok σ w av y)(hok:∀g,ok g→ok' g)(hw:∀g,ok g→w'.heap[g]?=w.heap[g]?)
  (hm:av.ment d=false) (hσ:∀id,id / 8≠d→σ' id=σ id):Rel ok' σ' w' av y:=by
 cases av with
 |tn=>obtain⟨vs,hy,hl⟩:=h;exact⟨vs,hy,hl.mono d hok hw hm hσ⟩
 |tc x r=>obtain⟨vs,hy,hl⟩:=h;exact⟨vs,hy,hl.mono d hok hw hm hσ⟩
 |bot=>have h':Rel1 ok σ w (.bot) y:=h;exact h'.mono d hok hw hm hσ
 |c t=>have h':Rel1 ok σ w (.c t) y:=h;exact h'.mono d hok hw hm hσ
 |ag cs=>have h':Rel1 ok σ w (.ag cs) y:=h;exact h'.mono d hok hw hm hσ
 |ow id=>have h':Rel1 ok σ w (.ow id) y:=h;exact h'.mono d hok hw hm hσ
 |pt id off=>have h':Rel1 ok σ w (.pt id off) y:=h;exact h'.mono d hok hw hm hσ
 |po id sz i off=>have h':Rel1 ok σ w (.po id sz i off) y:=h;exact h'.mono d hok hw hm hσ
 |pe cs=>have h':Rel1 ok σ w (.pe cs) y:=h;exact h'.mono d hok hw hm hσ
 |fn f caps=>have h':Rel1 ok σ w (.fn f caps) y:=h;exact h'.mono d hok hw hm hσ
 |er b=>exact h
 |vw id els m=>have h':Rel1 ok σ w (.vw id els m) y:=h;exact h'.mono d hok hw hm hσ
 |sf id sz k=>have h':Rel1 ok σ w (.sf id sz k) y:=h;exact h'.mono d hok hw hm hσ
def qW(ok:Nat→Prop)(w:World)(l:Loc):Ent→Prop
 | .box cs=>∃g arr T,l.blk=some g∧w.heap[g]?=some (.cells arr T (0,0))∧RdL ok w cs arr.toList
 | .arr e sz els=>0<sz∧l.n=els.length∧(∀el,el∈els→el.length=sz)∧∃vs,w.ownsRow 0 e sz (zG l) els.length vs∧RdL ok w els.flatten vs
 | .pbox l0 cs=>l=l0∧∃g arr T,l.blk=some g∧w.heap[g]?=some (.cells arr T (0,0))∧RdL ok w cs arr.toList
 | .parr l0 e sz els=>l=l0∧0<sz∧l.n=els.length∧(∀el,el∈els→el.length=sz)∧∃vs,w.ownsRow 0 e sz (zG l) els.length vs∧RdL ok w els.flatten vs
 | .mp b kvs=>l.blk=some b∧∃es clock,w.heap[b]?=some (.map es clock)∧es.toList.map kvOf=kvs
 | .qarr l0 e sz els=>l=l0∧0<sz∧l.n=els.length∧(∀el,el∈els→el.length=sz)∧∃vs,w.ownsRow 0 e sz (zG l) els.length vs∧RdL ok w els.flatten vs
theorem qW.core{ok:Nat→Prop}{w:World}{l:Loc}{e:Ent}(h:qW ok w l e):qW ok w l e.core:=by
 cases e with
 |box cs=>exact h
 |arr e sz els=>exact h
 |pbox l0 cs=>exact h.2
 |parr l0 e sz els=>exact h.2
 |mp b kvs=>exact h
 |qarr l0 e sz els=>exact h.2
theorem qW.mono_box{ok ok':Nat→Prop}{w w':World}{l:Loc}{cs:List Tr}(h:qW ok w l (.box cs))(hok:∀g,ok g→ok' g)(hw:∀g,ok g→w'.heap[g]?=w.heap[g]?)(hb:∀g,l.blk=some g→w'.heap[g]?=w.heap[g]?):qW ok' w' l (.box cs):=by obtain⟨g,arr,T,h1,h2,h3⟩:=h;exact⟨g,arr,T,h1,by rw[hb g h1];exact h2,h3.mono hok hw⟩
theorem qW.mono_arr{ok ok':Nat→Prop}{w w':World}{l:Loc}{e:TypeId}{sz:Nat}{els:List (List Tr)}(h:qW ok w l (.arr e sz els))(hok:∀g,ok g→ok' g)(hw:∀g,ok g→w'.heap[g]?=w.heap[g]?)(hb:∀g,l.blk=some g→w'.heap[g]?=w.heap[g]?):qW ok' w' l (.arr e sz els):=by
 obtain⟨h0,h1,h2,vs,h3,h4⟩:=h;refine⟨h0,h1,h2,vs,⟨h3.1,?_⟩,h4.mono hok hw⟩;rcases h3.2 with h5|⟨g,cap,cur,h5,h6,h7,h8⟩
 ·exact .inl h5
 ·refine .inr ⟨g,cap,cur,h5,h6,?_,h8⟩;rw[hb g ?_]
  ·exact h7
  ·unfold zG at h5;injection h5 with h9;cases hl:l.blk with
   |none=>rw[hl]at h9;cases h9
   |some q=>rw[hl]at h9;simp at h9;rw[h9]
theorem qW.mono{ok ok':Nat→Prop}{w w':World}{l:Loc}{e:Ent}(h:qW ok w l e)(hok:∀g,ok g→ok' g)(hw:∀g,ok g→w'.heap[g]?=w.heap[g]?)(hb:∀g,l.blk=some g→w'.heap[g]?=w.heap[g]?):qW ok' w' l e:=by
 cases e with
 |box cs=>exact qW.mono_box h hok hw hb
 |arr e sz els=>exact qW.mono_arr h hok hw hb
 |pbox l0 cs=>exact⟨h.1,qW.mono_box h.2 hok hw hb⟩
 |parr l0 e sz els=>exact⟨h.1,qW.mono_arr h.2 hok hw hb⟩
 |qarr l0 e sz els=>exact⟨h.1,qW.mono_arr h.2 hok hw hb⟩
 |mp b kvs=>obtain⟨h1,es,clock,h2,h3⟩:=h;exact⟨h1,es,clock,by rw[hb b h1];exact h2,h3⟩
structure St where
  T:List AV
  E:List (Nat×Ent)
def St.get(s:St)(t:Nat):AV:=(s.T[t]?).getD .bot
def St.ent(s:St)(id:Nat):Option Ent:=s.E.lookup id
def St.entc(s:St)(id:Nat):Option Ent:=(s.ent id).map Ent.core
def zCO(cs:Array Value):Bool:=cs.toList.all Value.oneCell'
def evC:Value→AV
 | .slice none 0 0=>.c (.sl [])
 | .agg cs=>if zCO cs then .ag (cs.toList.map Tr.v) else .bot
 | .tuple _=>.bot
 |v=>.c (.v v)
def St.ev(s:St):Operand→AV
 | .tmp t=>s.get t
 | .const v=>evC v
 | .global _=>.bot
 | .func f=>.c (.v (.func (.func f) #[] #[]))
def St.put(s:St)(d:Nat)(av:AV):St:=⟨s.T.set d av,s.E⟩
def zJG(d:Nat):List (Nat×Ent)→List (Nat×Ent)
 |[]=>[]
 |p::ps=>bif p.1 / 8==d then zJG d ps else p::zJG d ps
def zHz(d:Nat):List AV→List AV
 |[]=>[]
 |x::xs=>(bif x.ment d then .bot else x)::zHz d xs
def St.kill(s:St)(d:Nat):St:=⟨zHz d s.T,zJG d s.E⟩
def AV.shift(d:Nat):AV→AV
 | .ow k=>.ow (d*8+k)
 | .pt k o=>.pt (d*8+k) o
 | .po k z i o=>.po (d*8+k) z i o
 | .vw k els m=>.vw (d*8+k) els m
 | .sf k z i=>.sf (d*8+k) z i
 | .tc x r=>.tc (x.shift d) (r.shift d)
 |av=>av
def zDC(d:Nat):List (Nat×Ent)→List (Nat×Ent)
 |[]=>[]
 |p::ps=>(d*8+p.1,p.2)::zDC d ps
def St.upd(s:St)(d:Nat)(av:AV)(ne:List (Nat×Ent)):St:=⟨(zHz d s.T).set d (av.shift d),zDC d ne++zJG d s.E⟩
def Lb(ok:Nat→Prop)(w:World):Prop:=∀p:Nat×(Array Value→Prop),p∈TB→ok p.1∧∃cs T fz,w.heap[p.1]?=some (.cells cs T fz)∧p.2 cs
theorem Lb.mono{ok ok':Nat→Prop}{w w':World}(h:Lb ok w)(hok:∀g,ok g→ok' g)(hw:∀g,ok g→w'.heap[g]?=w.heap[g]?):Lb ok' w':=by intro p hp;obtain⟨h1,cs,T,fz,h2,h3⟩:=h p hp;exact⟨hok _ h1,cs,T,fz,by rw[hw _ h1];exact h2,h3⟩
structure Core (ok:Nat→Prop) (σ:Nat→Loc) (s:St) (a:Act) (w:World):Prop where
  len:s.T.length≤a.tmps.size
  okL:∀g,ok g→g<w.heap.size
  lib:Lb ok w
  tmp:∀t,Rel ok σ w (s.get t) (a.tmps.getD t undef)
  ent:∀id e,s.ent id=some e→qW ok w (σ id) e
  blk:∀id e g,s.ent id=some e→(σ id).blk=some g→¬ok g∧g<w.heap.size
  inj:∀i j e f g,s.ent i=some e→s.ent j=some f→(σ i).blk=some g→(σ j).blk=some g→i=j
theorem Core.entc{ok:Nat→Prop}{σ:Nat→Loc}{s:St}{a:Act}{w:World}(h:Core ok σ s a w)(id:Nat)(e:Ent)(he:s.entc id=some e):qW ok w (σ id) e:=by
 unfold St.entc at he;cases h1:s.ent id with
 |none=>rw[h1]at he;cases he
 |some f=>rw[h1]at he;injection he with he;subst he;exact (h.ent id f h1).core
theorem zCz{s:St}{id:Nat}{e:Ent}(he:s.entc id=some e):∃f,s.ent id=some f∧f.core=e:=by
 unfold St.entc at he;cases h1:s.ent id with
 |none=>rw[h1]at he;cases he
 |some f=>rw[h1]at he;injection he with he;exact⟨f,rfl,he⟩
structure Fr where
  n:Nat→Prop
  ex:Nat→Prop
structure BelowX (B:Fr) (w w':World):Prop where
  os:w'.os=w.os
  tape:w'.tape=w.tape
  output:w'.output=w.output
  size:w.heap.size≤w'.heap.size
  block:∀k,¬B.n k→¬B.ex k→w'.heap[k]?=w.heap[k]?
theorem BelowX.refl(B:Fr)(w:World):BelowX B w w:=⟨rfl,rfl,rfl,Nat.le_refl _,fun _ _ _=>rfl⟩
theorem BelowX.trans{B:Fr}{a b c:World}(h:BelowX B a b)(k:BelowX B b c):BelowX B a c:=
 ⟨k.os.trans h.os,k.tape.trans h.tape,k.output.trans h.output,Nat.le_trans h.size k.size,fun i hi hx=>(k.block i hi hx).trans (h.block i hi hx)⟩
theorem BelowX.of{B:Fr}{w w':World}(h:Below w.heap.size w w')(hB:∀g,w.heap.size≤g→B.n g):BelowX B w w':=⟨h.os,h.tape,h.output,h.size,fun k hk _=>h.block k (Nat.lt_of_not_le fun hle=>hk (hB k hle))⟩
theorem BelowX.drew{B:Fr}{a w:World}(h:BelowX B a w):BelowX B a w.drew:=⟨h.os,h.tape,h.output,h.size,h.block⟩
theorem BelowX.grown{B:Fr}{a w w':World}{row:Option Nat}(h:BelowX B a w)(hg:w.grownBy w' row)(hB:∀g,w.heap.size≤g→B.n g)(hr:∀k,row=some k→B.n k):BelowX B a w':=
 h.trans ⟨hg.os,hg.tape,hg.output,hg.size,fun k hk _=>hg.block k (Nat.lt_of_not_le fun hle=>hk (hB k hle)) (fun e=>hk (hr k e.symm))⟩
structure R (B:Fr) (w0:World) (ok0 ok:Nat→Prop) (σ:Nat→Loc) (s:St) (a:Act) (w:World):Prop where
  core:Core ok σ s a w
  defers:a.defers=[]
  below:BelowX B w0 w
  base:∀g,w.heap.size≤g→B.n g
  old:∀g,ok0 g→ok g
  fresh:∀g,ok g→ok0 g∨B.n g
  own:∀id e g,s.ent id=some e→(σ id).blk=some g→if e.pin=true then B.ex g else B.n g
structure New (w w':World) (ok ok':Nat→Prop) (σ':Nat→Loc) (av:AV) (ne:List (Nat×Ent)) (v:Value):Prop where
  below:Below w.heap.size w w'
  okM:∀g,ok g→ok' g
  okN:∀g,ok' g→ok g∨w.heap.size≤g
  okL:∀g,ok' g→g<w'.heap.size
  rel:Rel ok' σ' w' av v
  keys:∀id e,ne.lookup id=some e→id<8
  ids:∀e,e≠0→av.ment e=false
  ent:∀id e,ne.lookup id=some e→qW ok' w' (σ' id) e
  blk:∀id e g,ne.lookup id=some e→(σ' id).blk=some g→w.heap.size≤g∧¬ok' g∧g<w'.heap.size
  inj:∀i j e f g,ne.lookup i=some e→ne.lookup j=some f→(σ' i).blk=some g→(σ' j).blk=some g→i=j
  np:∀id e,ne.lookup id=some e→e.pin=false
theorem zBf(s:St)(d t:Nat)(av:AV):(s.put d av).get t=if d=t∧d<s.T.length then av else s.get t:=by
 unfold St.put St.get;simp only[List.getElem?_set];by_cases h:d=t
 ·subst h;by_cases h2:d<s.T.length
  ·simp[h2]
  ·simp[h2]
 ·simp[h]
theorem zJI(a:Act)(d t:Nat)(v:Value):(a.put (some d) v).tmps.getD t undef=if d=t∧d<a.tmps.size then v else a.tmps.getD t undef:=by
 unfold Act.put;simp only[Array.getD_eq_getD_getElem?,Array.getElem?_setIfInBounds];by_cases h:d=t
 ·subst h;by_cases h2:d<a.tmps.size
  ·simp[h2]
  ·simp[h2]
 ·simp[h]
theorem zIq(a:Act)(d:Nat)(v:Value):(a.put (some d) v).tmps.size=a.tmps.size:=by simp[Act.put]
theorem zEc(d:Nat):∀(T:List AV)(t:Nat),((zHz d T)[t]?).getD .bot=(bif ((T[t]?).getD .bot).ment d then AV.bot else (T[t]?).getD .bot)
 |[],t=>by simp[zHz]
 |x::xs,0=>by simp[zHz]
 |x::xs,t+1=>by simpa [zHz] using zEc d xs t
theorem zCx(d:Nat):∀(T:List AV),(zHz d T).length=T.length
 |[]=>rfl
 |x::xs=>by simp[zHz,zCx d xs]
theorem zD1(d:Nat):∀(E:List (Nat×Ent))(id:Nat),(zJG d E).lookup id=if id / 8=d then none else E.lookup id
 |[],id=>by simp[zJG]
 |p::ps,id=>by
  have ih:=zD1 d ps id;simp only[zJG];cases hp:(p.1 / 8==d) with
  |true=>
   simp only[cond_true,ih];by_cases h:id / 8=d
   ·simp[h]
   ·have hne:(id==p.1)=false:=by
     rw[zj];intro e;subst e;exact h (by simpa using hp)
    simp only[h,if_false];obtain⟨p1,p2⟩:=p;simp[List.lookup,hne]
  |false=>
   obtain⟨p1,p2⟩:=p;simp only[cond_false,List.lookup];cases hq:(id==p1) with
   |true=>
    have e:id=p1:=by simpa using hq
    subst e;have:¬id / 8=d:=by simpa using hp
    simp[this]
   |false=>simpa using ih
theorem zDK:∀(xs ys:List (Nat×Ent))(id:Nat),(xs++ys).lookup id=match xs.lookup id with|some e=>some e|none=>ys.lookup id
 |[],ys,id=>by simp
 |(p1,p2)::xs,ys,id=>by
  simp only[List.cons_append,List.lookup];cases h:(id==p1) with
  |true=>rfl
  |false=>exact zDK xs ys id
theorem zDc(d:Nat):∀(ne:List (Nat×Ent))(id:Nat)(e:Ent),(zDC d ne).lookup id=some e→d*8≤id∧ne.lookup (id - d*8)=some e
 |[],id,e,h=>by simp[zDC]at h
 |(p1,p2)::ps,id,e,h=>by
  simp only[zDC,List.lookup]at h ⊢;cases hq:(id==d*8+p1) with
  |true=>
   rw[hq]at h;have e1:id=d*8+p1:=by simpa using hq
   have e2:(id - d*8==p1)=true:=by rw[beq_iff_eq];omega
   rw[e2];exact⟨by omega,h⟩
  |false=>
   rw[hq]at h;obtain⟨h1,h2⟩:=zDc d ps id e h;have e2:(id - d*8==p1)=false:=by rw[zj];rw[zj]at hq;omega
   rw[e2];exact⟨h1,h2⟩
theorem Core.put{ok:Nat→Prop}{σ:Nat→Loc}{s:St}{a:Act}{w:World}(h:Core ok σ s a w){d:Nat}{av:AV}{v:Value}(hr:Rel ok σ w av v):Core ok σ (s.put d av) (a.put (some d) v) w:=by
 refine⟨by rw[zIq];simpa [St.put] using h.len,h.okL,h.lib,fun t=>?_,h.ent,h.blk,h.inj⟩;rw[zBf,zJI];by_cases hd:d=t∧d<s.T.length
 ·rw[if_pos hd,if_pos ⟨hd.1,Nat.lt_of_lt_of_le hd.2 h.len⟩];exact hr
 ·rw[if_neg hd];by_cases hd2:d=t∧d<a.tmps.size
  ·rw[if_pos hd2];have hb:s.get t=.bot:=by
    unfold St.get;rw[List.getElem?_eq_none (by omega)];rfl
   rw[hb];trivial
  ·rw[if_neg hd2];exact h.tmp t
theorem Rel1.shift{ok:Nat→Prop}{σ σ':Nat→Loc}{w:World}{av:AV}{y:Value}(d:Nat)(h:Rel1 ok σ' w av y)(hs:∀k,av.ment (k / 8)=true→σ (d*8+k)=σ' k):Rel1 ok σ w (av.shift d) y:=by
 cases av with
 |ow k=>show y=_;rw[hs k (by simp[AV.ment])];exact h
 |pt k o=>show ∃g,_;rw[hs k (by simp[AV.ment])];exact h
 |po k z i o=>show ∃g,_;rw[hs k (by simp[AV.ment])];exact h
 |tn=>exact h.elim
 |tc x r=>exact h.elim
 |bot=>trivial
 |c t=>exact h
 |ag cs=>exact h
 |pe cs=>exact h
 |fn f caps=>exact h
 |er b=>exact h
 |vw k els m=>show VwOk _ _ _ _ _ _;rw[hs k (by simp[AV.ment])];exact h
 |sf k z i=>show y=_;rw[hs k (by simp[AV.ment])];exact h
theorem RelL.shift{ok:Nat→Prop}{σ σ':Nat→Loc}{w:World}{av:AV}{ys:List Value}(d:Nat)(h:RelL ok σ' w av ys)(hs:∀k,av.ment (k / 8)=true→σ (d*8+k)=σ' k):RelL ok σ w (av.shift d) ys:=by
 induction av generalizing ys with
 |tn=>cases ys<;>exact h
 |tc x r _ ih=>
  cases ys with
  |nil=>exact h.elim
  |cons y ys=>exact⟨h.1.shift d fun k hk=>hs k (by simp[AV.ment,hk]),ih h.2 fun k hk=>hs k (by simp[AV.ment,hk])⟩
 |_=>cases ys<;>exact (h:False).elim
theorem Rel.shift{ok:Nat→Prop}{σ σ':Nat→Loc}{w:World}{av:AV}{y:Value}(d:Nat)(h:Rel ok σ' w av y)(hs:∀k,av.ment (k / 8)=true→σ (d*8+k)=σ' k):Rel ok σ w (av.shift d) y:=by
 cases av with
 |tn=>obtain⟨vs,hy,hl⟩:=h;exact⟨vs,hy,hl.shift d hs⟩
 |tc x r=>obtain⟨vs,hy,hl⟩:=h;exact⟨vs,hy,hl.shift d hs⟩
 |bot=>trivial
 |c t=>exact h
 |ag cs=>exact h
 |pe cs=>exact h
 |fn f caps=>exact h
 |er b=>exact h
 |ow k=>exact Rel1.shift (ok:=ok) (w:=w) (av:=.ow k) d (h:Rel1 ok σ' w (.ow k) y) hs
 |vw k els m=>exact Rel1.shift (ok:=ok) (w:=w) (av:=.vw k els m) d (h:Rel1 ok σ' w (.vw k els m) y) hs
 |sf k z i=>exact Rel1.shift (ok:=ok) (w:=w) (av:=.sf k z i) d (h:Rel1 ok σ' w (.sf k z i) y) hs
 |pt k o=>exact Rel1.shift (ok:=ok) (w:=w) (av:=.pt k o) d (h:Rel1 ok σ' w (.pt k o) y) hs
 |po k z i o=>exact Rel1.shift (ok:=ok) (w:=w) (av:=.po k z i o) d (h:Rel1 ok σ' w (.po k z i o) y) hs
theorem zSR(d:Nat)(av:AV):(bif av.ment d then AV.bot else av).ment d=false:=by cases h:av.ment d<;>simp[AV.ment,h]
theorem Core.upd{ok ok':Nat→Prop}{σ σ':Nat→Loc}{s:St}{a:Act}{w w':World}(h:Core ok σ s a w){d:Nat}{av:AV}{ne:List (Nat×Ent)}{v:Value}(hn:New w w' ok ok' σ' av ne v):
  Core ok' (fun id=>if id / 8=d then σ' (id % 8) else σ id) (s.upd d av ne) (a.put (some d) v) w':=by
 have hw:∀g,ok g→w'.heap[g]?=w.heap[g]?:=fun g hg=>hn.below.block g (h.okL g hg)
 have hσ:∀id,id / 8≠d→(fun id=>if id / 8=d then σ' (id % 8) else σ id) id=σ id:=fun id hid=>by simp[hid]
 have look:∀id e,(s.upd d av ne).ent id=some e→(id / 8=d∧ne.lookup (id % 8)=some e)∨(id / 8≠d∧s.ent id=some e):=by
  intro id e he;unfold St.ent St.upd at he;rw[zDK]at he;cases hs:(zDC d ne).lookup id with
  |some e2=>
   rw[hs]at he;injection he with he;subst he;obtain⟨h1,h2⟩:=zDc d ne id _ hs;have h3:=hn.keys _ _ h2;have h4:id - d*8=id % 8:=by omega
   rw[h4]at h2;exact .inl ⟨by omega,h2⟩
  |none=>
   rw[hs]at he;simp only[zD1]at he;by_cases hd:id / 8=d
   ·simp[hd]at he
   ·rw[if_neg hd]at he;exact .inr ⟨hd,he⟩
 have hsize:∀g,g<w.heap.size→g<w'.heap.size:=fun g hg=>Nat.lt_of_lt_of_le hg hn.below.size;refine⟨?_,hn.okL,h.lib.mono hn.okM hw,fun t=>?_,fun id e he=>?_,fun id e g he hg=>?_,fun i j e f g hi hj h1 h2=>?_⟩
 ·rw[zIq];simpa [St.upd,zCx] using h.len
 ·have hk:(s.upd d av ne).get t=if d=t∧d<s.T.length then av.shift d else (bif (s.get t).ment d then AV.bot else s.get t):=by
   have e:=zBf (s.kill d) d t (av.shift d);unfold St.put St.kill St.get at e;simp only[zCx,zEc]at e;unfold St.upd St.get;exact e
  rw[hk,zJI];by_cases hd:d=t∧d<s.T.length
  ·rw[if_pos hd,if_pos ⟨hd.1,Nat.lt_of_lt_of_le hd.2 h.len⟩];refine hn.rel.shift d fun k hk2=>?_
   have hk0:k / 8=0:=by
    rcases Nat.eq_zero_or_pos (k / 8) with h0|h0
    ·exact h0
    ·rw[hn.ids (k / 8) (by omega)]at hk2;cases hk2
   have e1:(d*8+k) / 8=d:=by omega
   have e2:(d*8+k) % 8=k:=by omega
   simp[e1,e2]
  ·rw[if_neg hd];by_cases hd2:d=t∧d<a.tmps.size
   ·rw[if_pos hd2];have hb:s.get t=.bot:=by
     unfold St.get;rw[List.getElem?_eq_none (by omega)];rfl
    rw[hb];trivial
   ·rw[if_neg hd2];cases hm:(s.get t).ment d with
    |true=>trivial
    |false=>exact (h.tmp t).mono d hn.okM hw hm hσ
 ·rcases look id e he with⟨h1,h2⟩|⟨h1,h2⟩
  ·simpa [h1] using hn.ent _ _ h2
  ·simp only[h1,if_false];exact (h.ent id e h2).mono hn.okM hw fun g hg=>hn.below.block g (h.blk id e g h2 hg).2
 ·rcases look id e he with⟨h1,h2⟩|⟨h1,h2⟩
  ·simp only[h1,if_true]at hg;exact (hn.blk _ _ _ h2 hg).2
  ·simp only[h1,if_false]at hg;obtain⟨h3,h4⟩:=h.blk id e g h2 hg;refine⟨fun h5=>?_,hsize g h4⟩;rcases hn.okN g h5 with h6|h6
   ·exact h3 h6
   ·omega
 ·rcases look i e hi with⟨a1,a2⟩|⟨a1,a2⟩<;>rcases look j f hj with⟨b1,b2⟩|⟨b1,b2⟩
  ·simp only[a1,b1,if_true]at h1 h2;have:=hn.inj _ _ _ _ _ a2 b2 h1 h2;omega
  ·simp only[a1,b1,if_true,if_false]at h1 h2;have x1:=(hn.blk _ _ _ a2 h1).1;have x2:=(h.blk _ _ _ b2 h2).2;omega
  ·simp only[a1,b1,if_true,if_false]at h1 h2;have x1:=(hn.blk _ _ _ b2 h2).1;have x2:=(h.blk _ _ _ a2 h1).2;omega
  ·simp only[a1,b1,if_false]at h1 h2;exact h.inj _ _ _ _ _ a2 b2 h1 h2
theorem R.put{B:Fr}{w0:World}{ok0 ok:Nat→Prop}{σ:Nat→Loc}{s:St}{a:Act}{w:World}(h:R B w0 ok0 ok σ s a w){d:Nat}{av:AV}{v:Value}(hr:Rel ok σ w av v):R B w0 ok0 ok σ (s.put d av) (a.put (some d) v) w:=
 ⟨h.core.put hr,h.defers,h.below,h.base,h.old,h.fresh,h.own⟩
theorem R.upd{B:Fr}{w0:World}{ok0 ok ok':Nat→Prop}{σ σ':Nat→Loc}{s:St}{a:Act}{w w':World}(h:R B w0 ok0 ok σ s a w){d:Nat}{av:AV}{ne:List (Nat×Ent)}{v:Value}(hn:New w w' ok ok' σ' av ne v):
  R B w0 ok0 ok' (fun id=>if id / 8=d then σ' (id % 8) else σ id) (s.upd d av ne) (a.put (some d) v) w':=by
 refine⟨h.core.upd hn,h.defers,h.below.trans (BelowX.of hn.below h.base),fun g hg=>h.base g (Nat.le_trans hn.below.size hg),fun g hg=>hn.okM g (h.old g hg),fun g hg=>?_,fun id e g he hg=>?_⟩
 ·rcases hn.okN g hg with h1|h1
  ·exact h.fresh g h1
  ·exact .inr (h.base g h1)
 ·unfold St.ent St.upd at he;rw[zDK]at he;cases hs:(zDC d ne).lookup id with
  |some e2=>
   rw[hs]at he;injection he with he;subst he;obtain⟨h1,h2⟩:=zDc d ne id _ hs;have h3:=hn.keys _ _ h2;have h4:id - d*8=id % 8:=by omega
   have h5:id / 8=d:=by omega
   rw[h4]at h2;simp only[h5,if_true]at hg;rw[if_neg (by rw[hn.np _ _ h2];decide)];exact h.base _ (hn.blk _ _ _ h2 hg).1
  |none=>
   rw[hs]at he;simp only[zD1]at he;by_cases hd:id / 8=d
   ·simp[hd]at he
   ·rw[if_neg hd]at he;simp only[hd,if_false]at hg;exact h.own id e g he hg
section
variable (P:Program)
def Y0(o:Oper)(s:St)(av:AV):Prop:=
 ∀ok σ a w,Core ok σ s a w→∀K Q,(∀v,Rel ok σ w av v→K (a.put o.dst v) w)→o.wp P a w K Q
def Y1(o:Oper)(s:St)(av:AV)(ne:List (Nat×Ent)):Prop:=
 ∀ok σ a w,Core ok σ s a w→∀K Q,(∀v w' ok' σ',New w w' ok ok' σ' av ne v→K (a.put o.dst v) w')→o.wp P a w K Q
def X(o:Oper)(s s':St):Prop:=
 ∀B w0 ok0 ok σ a w,R B w0 ok0 ok σ s a w→∀K Q,(∀a' w' ok' σ',R B w0 ok0 ok' σ' s' a' w'→K a' w')→o.wp P a w K Q
variable {P}
theorem zB{o:Oper}{s:St}{av:AV}{d:Nat}(hd:o.dst=some d)(h:Y0 P o s av):X P o s (s.put d av):=by
 intro B w0 ok0 ok σ a w hR K Q hK;refine h ok σ a w hR.core K Q fun v hv=>?_
 rw[hd];exact hK _ _ _ _ (hR.put hv)
theorem zFQ{o:Oper}{s:St}{av:AV}{ne:List (Nat×Ent)}{d:Nat}(hd:o.dst=some d)(h:Y1 P o s av ne):X P o s (s.upd d av ne):=by
 intro B w0 ok0 ok σ a w hR K Q hK;refine h ok σ a w hR.core K Q fun v w' ok' σ' hn=>?_
 rw[hd];exact hK _ _ _ _ (hR.upd hn)
variable (P)
def XL(ops:Array Oper)(rest:List Oper)(s:St)(J:St→Prop):Prop:=
 ∀B w0 ok0 ok σ a w,R B w0 ok0 ok σ s a w→∀Q:Exit→Act→World→Prop,(∀s' a' w' ok' σ',J s'→R B w0 ok0 ok' σ' s' a' w'→Q .normal a' w')→wpList P ops Q rest a w
def V(c:Code)(s:St)(J:Exit→St→Prop):Prop:=
 ∀B w0 ok0 ok σ a w,R B w0 ok0 ok σ s a w→c.wp P (fun e a' w'=>∃s' ok' σ',J e s'∧R B w0 ok0 ok' σ' s' a' w') a w
variable {P}
theorem zC{ops:Array Oper}{s:St}{J:St→Prop}(h:J s):XL P ops [] s J:=fun _ _ _ _ _ _ _ hR _ hQ=>hQ _ _ _ _ _ h hR
theorem jA{ops:Array Oper}{o:Oper}{rest:List Oper}{s s':St}{J:St→Prop}(hg:o.guard=none)(h:X P o s s')(hk:XL P ops rest s' J):XL P ops (o::rest) s J:=by
 intro B w0 ok0 ok σ a w hR Q hQ;refine wpList_plain hg fun K hK=>?_
 refine h _ _ _ _ _ _ _ hR K Q fun a' w' ok' σ' hR'=>hK _ _ (hk _ _ _ _ _ _ _ hR' Q hQ)
theorem zT8{ops:Array Oper}{o:Oper}{rest:List Oper}{s s':St}{J:St→Prop}{j t:Nat}{b:Bool}(hg:o.guard=some (j,b))(ht:(ops[j]?).bind (·.dst)=some t)(hb:s.get t=.c (.v (.bool b)))
  (h:X P o s s') (hk:XL P ops rest s' J):XL P ops (o::rest) s J:=by
 intro B w0 ok0 ok σ a w hR Q hQ;refine wpList_step fun K hK=>?_
 have h1:=hR.core.tmp t;rw[hb]at h1;have h2:a.tmps.getD t undef=.bool b:=by have h3:Rd ok w (.v (.bool b)) (a.tmps.getD t undef):=h1;generalize a.tmps.getD t undef=y at*;cases h3;rfl
 have hw:Region.wanted o (yielded ops a.tmps)=true:=by
  have h4:a.tmps[t]?=some (.bool b):=by
   rw[Array.getD_eq_getD_getElem?]at h2;cases h5:a.tmps[t]? with
   |none=>rw[h5]at h2;simp[undef]at h2
   |some y=>rw[h5]at h2;simpa using h2
  simp only[Region.wanted,hg,yielded,ht,Option.bind_some,h4];simp
 rw[if_pos hw];exact h _ _ _ _ _ _ _ hR K Q fun a' w' ok' σ' hR'=>hK _ _ (hk _ _ _ _ _ _ _ hR' Q hQ)
theorem zQ7{ops:Array Oper}{o:Oper}{rest:List Oper}{s:St}{J:St→Prop}{j t d:Nat}{b c:Bool}(hg:o.guard=some (j,b))(ht:(ops[j]?).bind (·.dst)=some t)(hb:s.get t=.c (.v (.bool c)))(hne:c≠b)
  (hd:o.dst=some d) (hk:XL P ops rest (s.put d .tn) J):XL P ops (o::rest) s J:=by
 intro B w0 ok0 ok σ a w hR Q hQ;refine wpList_step fun K hK=>?_
 have h1:=hR.core.tmp t;rw[hb]at h1;have h2:a.tmps.getD t undef=.bool c:=by have h3:Rd ok w (.v (.bool c)) (a.tmps.getD t undef):=h1;generalize a.tmps.getD t undef=y at*;cases h3;rfl
 have hw:¬Region.wanted o (yielded ops a.tmps)=true:=by
  have h4:a.tmps[t]?=some (.bool c):=by
   rw[Array.getD_eq_getD_getElem?]at h2;cases h5:a.tmps[t]? with
   |none=>rw[h5]at h2;simp[undef]at h2
   |some y=>rw[h5]at h2;simpa using h2
  simp only[Region.wanted,hg,yielded,ht,Option.bind_some,h4];simpa using hne
 rw[if_neg hw,hd];exact hK _ _ (hk _ _ _ _ _ _ _ (hR.put (av:=.tn) ⟨#[],rfl,trivial⟩) Q hQ)
theorem zU{ops:Array Oper}{o:Oper}{rest:List Oper}{s:St}{J:St→Prop}{j t d:Nat}{b:Bool}(hg:o.guard=some (j,b))(ht:(ops[j]?).bind (·.dst)=some t)(hb:s.get t=.tn)
  (hd:o.dst=some d) (hk:XL P ops rest (s.put d .tn) J):XL P ops (o::rest) s J:=by
 intro B w0 ok0 ok σ a w hR Q hQ;refine wpList_step fun K hK=>?_
 have h1:=hR.core.tmp t;rw[hb]at h1;obtain⟨vs,h2,_⟩:=h1;have hw:¬Region.wanted o (yielded ops a.tmps)=true:=by
  have h4:a.tmps[t]?=some (.tuple vs)∨a.tmps[t]?=none:=by
   rw[Array.getD_eq_getD_getElem?]at h2;cases h5:a.tmps[t]? with
   |none=>exact .inr rfl
   |some y=>rw[h5]at h2;exact .inl (by simpa using h2)
  simp only[Region.wanted,hg,yielded,ht,Option.bind_some];rcases h4 with h4|h4<;>rw[h4]<;>simp
 rw[if_neg hw,hd];exact hK _ _ (hk _ _ _ _ _ _ _ (hR.put (av:=.tn) ⟨#[],rfl,trivial⟩) Q hQ)
def zMK(J:St→Prop)(K:Exit→St→Prop):Exit→St→Prop
 | .normal,s=>J s
 |e,s=>K e s
def zDl(id:Nat)(K:Exit→St→Prop):Exit→St→Prop
 | .exit id',s=>bif Nat.beq id' id then K .normal s else K (.exit id') s
 |e,s=>K e s
theorem zNo{id:Nat}{ops:Array Oper}{s:St}{J:Exit→St→Prop}(h:XL P ops ops.toList s (J .normal)):V P (.region id ops false) s J:=by intro B w0 ok0 ok σ a w hR;exact wp_region_list (h _ _ _ _ _ _ _ hR _ fun s' a' w' ok' σ' hJ hR'=>⟨s',ok',σ',hJ,hR'⟩)
theorem zAS{x y:Code}{s:St}{J:Exit→St→Prop}(h:V P x s (zMK (fun s'=>V P y s' J) J)):V P (.seq x y) s J:=by
 intro B w0 ok0 ok σ a w hR;refine wp_seq (wp_mono (h _ _ _ _ _ _ _ hR) ?_);rintro e a' w' ⟨s',ok',σ',hJ,hR'⟩;cases e with
 |normal=>exact hJ _ _ _ _ _ _ _ hR'
 |exit id=>exact⟨s',ok',σ',hJ,hR'⟩
 |goto l=>exact⟨s',ok',σ',hJ,hR'⟩
 |ret=>exact⟨s',ok',σ',hJ,hR'⟩
 |panic ch=>exact⟨s',ok',σ',hJ,hR'⟩
 |outgrown=>exact⟨s',ok',σ',hJ,hR'⟩
theorem zIb{c:Code}{s:St}{J J':Exit→St→Prop}(h:V P c s J)(hJ:∀e s',J e s'→J' e s'):V P c s J':=by
 intro B w0 ok0 ok σ a w hR;refine wp_mono (h _ _ _ _ _ _ _ hR) ?_
 rintro e a' w' ⟨s',ok',σ',h1,hR'⟩;exact⟨s',ok',σ',hJ _ _ h1,hR'⟩
theorem V_cut{x y:Code}{s:St}{J:Exit→St→Prop}(M:St→Prop)(h:V P x s (zMK M J))(h2:∀s',M s'→V P y s' J):V P (.seq x y) s J:=
 zAS (zIb h fun e s' hh=>by cases e<;>first|exact h2 _ hh|exact hh)
theorem zKN{ok:Nat→Prop}{σ:Nat→Loc}{s:St}{a:Act}{w:World}(h:Core ok σ s a w){c:Operand}{b:Bool}(hc:s.ev c=.c (.v (.bool b))):a.eval c=.bool b:=by
 cases c with
 |tmp t=>have h1:=h.tmp t;have hc':s.get t=.c (.v (.bool b)):=hc;rw[hc']at h1;have h3:Rd ok w (.v (.bool b)) (a.tmps.getD t undef):=h1;show a.tmps.getD t undef=_;generalize a.tmps.getD t undef=y at*;cases h3;rfl
 |const v=>
  have h1:evC v=.c (.v (.bool b)):=hc;show v=_;unfold evC at h1;split at h1
  ·cases h1
  ·split at h1<;>cases h1
  ·cases h1
  ·injection h1 with h2;injection h2
 |global g=>cases hc
 |func f=>have h1:AV.c (.v (.func (.func f) #[] #[]))=.c (.v (.bool b)):=hc;cases h1
theorem zCQ{c:Operand}{x y:Code}{s:St}{J:Exit→St→Prop}{b:Bool}(hc:s.ev c=.c (.v (.bool b)))(ht:b=true→V P x s J)(hf:b=false→V P y s J):V P (.cond c x y) s J:=by
 intro B w0 ok0 ok σ a w hR;have he:=zKN hR.core hc;cases b with
 |true=>exact wp_cond_true he (ht rfl _ _ _ _ _ _ _ hR)
 |false=>exact wp_cond_false he (hf rfl _ _ _ _ _ _ _ hR)
theorem zAF{id:Nat}{c:Code}{s:St}{J:Exit→St→Prop}(h:V P c s (zDl id J)):V P (.block id c) s J:=by
 intro B w0 ok0 ok σ a w hR;refine wp_block (wp_mono (h _ _ _ _ _ _ _ hR) ?_);rintro e a' w' ⟨s',ok',σ',hJ,hR'⟩;cases e with
 |exit id'=>
  simp only[zDl]at hJ;simp only[Exit.inBlock];by_cases hid:id'=id
  ·rw[if_pos hid];have e:Nat.beq id' id=true:=by rw[hid];exact Nat.beq_refl id
   rw[e]at hJ;exact⟨s',ok',σ',hJ,hR'⟩
  ·rw[if_neg hid];have e:Nat.beq id' id=false:=by
    cases h:Nat.beq id' id with
    |false=>rfl
    |true=>exact absurd (Nat.eq_of_beq_eq_true h) hid
   rw[e]at hJ;exact⟨s',ok',σ',hJ,hR'⟩
 |normal=>exact⟨s',ok',σ',hJ,hR'⟩
 |goto l=>exact⟨s',ok',σ',hJ,hR'⟩
 |ret=>exact⟨s',ok',σ',hJ,hR'⟩
 |panic ch=>exact⟨s',ok',σ',hJ,hR'⟩
 |outgrown=>exact⟨s',ok',σ',hJ,hR'⟩
theorem zCa{s:St}{J:Exit→St→Prop}(h:J .normal s):V P .skip s J:=fun _ _ _ ok σ _ _ hR=>wp_skip ⟨s,ok,σ,h,hR⟩
theorem zEy{id:Nat}{s:St}{J:Exit→St→Prop}(h:J (.exit id) s):V P (.exit id) s J:=fun _ _ _ ok σ _ _ hR=>wp_exit ⟨s,ok,σ,h,hR⟩
theorem zEU{s:St}{J:Exit→St→Prop}(h:J .ret s):V P .ret s J:=fun _ _ _ ok σ _ _ hR=>wp_ret ⟨s,ok,σ,h,hR⟩
theorem zWw{l:Nat}{s:St}{J:Exit→St→Prop}(h:J .normal s):V P (.label l) s J:=fun _ _ _ ok σ _ _ hR=>wp_label ⟨s,ok,σ,h,hR⟩
theorem zE0{c:Code}{s:St}{J:Exit→St→Prop}(I:Nat→St→Prop)(n:Nat)(h0:I n s)(round:∀n s,I n s→V P c s (zMK (fun s'=>∃m,m<n∧I m s') J)):V P (.loop c) s J:=by
 intro B w0 ok0 ok σ a w hR;refine wp_loop_ghost (fun n a w=>∃s ok σ,I n s∧R B w0 ok0 ok σ s a w) n ⟨s,ok,σ,h0,hR⟩ ?_
 rintro n a w ⟨s,ok,σ,hI,hR⟩;refine wp_mono (round n s hI _ _ _ _ _ _ _ hR) ?_
 rintro e a' w' ⟨s',ok',σ',hJ,hR'⟩;cases e with
 |normal=>obtain⟨m,hm,hI'⟩:=hJ;exact⟨m,hm,s',ok',σ',hI',hR'⟩
 |exit id=>exact⟨s',ok',σ',hJ,hR'⟩
 |goto l=>exact⟨s',ok',σ',hJ,hR'⟩
 |ret=>exact⟨s',ok',σ',hJ,hR'⟩
 |panic ch=>exact⟨s',ok',σ',hJ,hR'⟩
 |outgrown=>exact⟨s',ok',σ',hJ,hR'⟩
structure Le (s' s:St):Prop where
  len:s'.T.length≤s.T.length
  get:∀t,s'.get t=.bot∨s'.get t=s.get t
  ent:∀id e,s'.ent id=some e→s.ent id=some e
theorem R.le{B:Fr}{w0:World}{ok0 ok:Nat→Prop}{σ:Nat→Loc}{s s':St}{a:Act}{w:World}(h:R B w0 ok0 ok σ s a w)(hl:Le s' s):R B w0 ok0 ok σ s' a w:=by
 refine⟨⟨Nat.le_trans hl.len h.core.len,h.core.okL,h.core.lib,fun t=>?_,fun id e he=>h.core.ent id e (hl.ent id e he),fun id e g he=>h.core.blk id e g (hl.ent id e he),fun i j e f g hi hj=>h.core.inj i j e f g (hl.ent _ _ hi) (hl.ent _ _ hj)⟩,h.defers,h.below,h.base,h.old,h.fresh,fun id e g he=>h.own id e g (hl.ent id e he)⟩;rcases hl.get t with h1|h1
 ·rw[h1];trivial
 ·rw[h1];exact h.core.tmp t
theorem V_le{c:Code}{s s':St}{J:Exit→St→Prop}(hl:Le s' s)(h:V P c s' J):V P c s J:=fun _ _ _ _ _ _ _ hR=>h _ _ _ _ _ _ _ (hR.le hl)
end
inductive RelA (ok:Nat→Prop) (σ:Nat→Loc) (w:World):List AV→List Value→Prop
  |nil:RelA ok σ w [] []
  |cons {t x ts xs} (h:Rel ok σ w t x) (hs:RelA ok σ w ts xs):RelA ok σ w (t::ts) (x::xs)
theorem RelA.len{ok:Nat→Prop}{σ:Nat→Loc}{w:World}{ts:List AV}{xs:List Value}(h:RelA ok σ w ts xs):ts.length=xs.length:=by
 induction h with
 |nil=>rfl
 |cons h hs ih=>simp[ih]
theorem RelA.get{ok:Nat→Prop}{σ:Nat→Loc}{w:World}{ts:List AV}{xs:List Value}(h:RelA ok σ w ts xs):∀(j:Nat),Rel ok σ w ((ts[j]?).getD .bot) ((xs[j]?).getD undef):=by
 induction h with
 |nil=>intro j;simp;trivial
 |cons h hs ih=>
  intro j;cases j with
  |zero=>simpa using h
  |succ j=>simpa using ih j
section
variable (P:Program)
def zF(f:FuncId)(args:List AV)(av:AV)(ne:List (Nat×Ent)):Prop:=
 ∀ok σ w vs,(∀g,ok g→g<w.heap.size)→Lb ok w→RelA ok σ w args vs→Calls P f vs.toArray w (fun e w'=>∃v ok' σ',e=.returned v∧New w w' ok ok' σ' av ne v)
variable {P}
def out1(s:St)(k t:Nat):AV×List (Nat×Ent):=
 match s.get t with
 | .ow id=>match s.ent id with
  |some (.arr e sz els)=>(.ow k,[(k,.arr e sz els)])
  |_=>(.bot,[])
 | .c x=>(.c x,[])
 | .ag cs=>(.ag cs,[])
 | .pe cs=>(.pe cs,[])
 |_=>(.bot,[])
def zCd:List Nat→Bool
 |[]=>true
 |x::xs=>!xs.contains x&&zCd xs
theorem jN(k j:Nat)(e f:Ent)(h:[(k,e)].lookup j=some f):j=k∧e=f:=by
 simp only[List.lookup]at h;cases hj:(j==k) with
 |true=>rw[hj]at h;exact⟨by simpa using hj,by simpa using h⟩
 |false=>rw[hj]at h;cases h
def loc0:Loc:=⟨none,0,0⟩
theorem zU9{ok:Nat→Prop}{σ σ':Nat→Loc}{s:St}{a:Act}{w:World}(h:Core ok σ s a w)(k t:Nat)(hσ:∀id,s.get t=.ow id→σ' k=σ id):Rel1 ok σ' w (out1 s k t).1 (a.tmps.getD t undef):=by
 have h1:=h.tmp t;unfold out1;cases hg:s.get t with
 |ow id=>
  rw[hg]at h1;cases he:s.ent id with
  |none=>simp only[he];trivial
  |some e=>
   cases e with
   |arr T sz els=>simp only[he];show _=_;rw[hσ id hg];exact h1
   |_=>simp only[he];trivial
 |c x=>rw[hg]at h1;exact h1
 |ag cs=>rw[hg]at h1;exact h1
 |pe cs=>rw[hg]at h1;exact h1
 |fn f caps=>trivial
 |er b=>trivial
 |vw id es m=>trivial
 |sf id z i=>trivial
 |bot=>trivial
 |pt id o=>trivial
 |po id z i o=>trivial
 |tn=>trivial
 |tc x r=>trivial
theorem zTh(s:St)(k t:Nat)(hk:k<8)(e:Nat)(he:e≠0):(out1 s k t).1.ment e=false:=by
 unfold out1;cases hg:s.get t with
 |ow id=>
  cases hq:s.ent id with
  |none=>simp only[hq];rfl
  |some q=>
   cases q with
   |arr T sz els=>simp only[hq];show (k / 8==e)=false;rw[zj];omega
   |_=>simp only[hq];rfl
 |_=>rfl
theorem zTi(s:St)(k t:Nat)(id:Nat)(e:Ent)(h:(out1 s k t).2.lookup id=some e):id=k∧∃j,s.get t=.ow j∧s.ent j=some e∧e.pin=false:=by
 unfold out1 at h;cases hg:s.get t with
 |ow j=>
  rw[hg]at h;cases hq:s.ent j with
  |none=>simp[hq]at h
  |some q=>
   cases q with
   |arr T sz els=>simp only[hq]at h;obtain⟨h1,h2⟩:=jN _ _ _ _ h;subst h2;exact⟨h1,j,rfl,hq,rfl⟩
   |_=>simp[hq]at h
 |_=>rw[hg]at h;simp at h
theorem zHG{ok:Nat→Prop}{σ:Nat→Loc}{w:World}{av:AV}{v:Value}(h:Rel1 ok σ w av v):Rel ok σ w av v:=by
 cases av with
 |tn=>exact h.elim
 |tc x r=>exact h.elim
 |_=>exact h
theorem RelA.init{ok:Nat→Prop}{σ:Nat→Loc}{w:World}{args:List AV}{vs:List Value}(h:RelA ok σ w args vs)(n t:Nat):
  Rel ok σ w (St.get ⟨args++List.replicate (n - args.length) .bot,[]⟩ t) ((vs.toArray++Array.replicate (n - vs.toArray.size) undef).getD t undef):=by
 unfold St.get;by_cases ht:t<args.length
 ·have h1:=h.get t;have hv:t<vs.length:=by rw[←h.len];exact ht
  rw[List.getElem?_append_left ht];simpa [Array.getElem?_append,hv] using h1
 ·rw[List.getElem?_append_right (by omega),List.getElem?_replicate];split<;>exact trivial
end
section
variable {P:Program}
theorem zW5(ok:Nat→Prop)(σ:Nat→Loc)(w:World)(v:Value):Rel ok σ w (evC v) v:=by
 unfold evC;split
 ·exact Rd.nl _ _
 ·rename_i cs;split
  ·rename_i h;refine⟨cs,rfl,?_⟩;have h2:∀x,x∈cs.toList→x.oneCell'=true:=List.all_eq_true.1 h;generalize cs.toList=l at h2;clear h
   induction l with
   |nil=>exact .nil
   |cons x xs ih=>exact .cons (.v x (h2 x (by simp))) (ih fun y hy=>h2 y (by simp[hy]))
  ·trivial
 ·trivial
 ·rename_i x h1 h2 h3;refine Rd.v _ ?_
  cases v with
  |agg cs=>exact (h2 cs rfl).elim
  |tuple vs=>exact (h3 vs rfl).elim
  |_=>rfl
theorem Core.ev{ok:Nat→Prop}{σ:Nat→Loc}{s:St}{a:Act}{w:World}(h:Core ok σ s a w)(x:Operand):Rel ok σ w (s.ev x) (a.eval x):=by
 cases x with
 |tmp t=>exact h.tmp t
 |const v=>exact zW5 ok σ w v
 |global g=>trivial
 |func f=>exact Rd.v _ rfl
theorem Core.exact{ok:Nat→Prop}{σ:Nat→Loc}{s:St}{a:Act}{w:World}(h:Core ok σ s a w){x:Operand}{v:Value}(hx:s.ev x=.c (.v v)):a.eval x=v:=by have h1:=h.ev x;rw[hx]at h1;have h2:Rd ok w (.v v) (a.eval x):=h1;generalize a.eval x=y at*;cases h2;rfl
theorem zKD(ok:Nat→Prop)(w:World)(k:IntKind)(n:Int):Rd ok w (.v (.int k n)) (.int k n):=.v _ rfl
theorem zSq(ok:Nat→Prop)(w:World)(b:Bool):Rd ok w (.v (.bool b)) (.bool b):=.v _ rfl
theorem qS{o:Oper}{s:St}{av:AV}(h:∀ok σ a w,Core ok σ s a w→∃v,(execOp a.eval o).run P w=.ok (.value v) w∧Rel ok σ w av v):Y0 P o s av:=by intro ok σ a w hC K Q hK;obtain⟨v,h1,h2⟩:=h ok σ a w hC;unfold Oper.wp;rw[h1];exact hK v h2
theorem zT6{o:Oper}{s:St}{x:Operand}(ho:o.op=.move x):Y0 P o s (s.ev x):=
 qS fun ok σ a w hC=>⟨a.eval x,by unfold execOp;rw[ho];rfl,hC.ev x⟩
theorem zPM{o:Oper}{s:St}{x:Operand}(ho:o.op=.assign x):Y0 P o s (s.ev x):=
 qS fun ok σ a w hC=>⟨a.eval x,by unfold execOp;rw[ho];rfl,hC.ev x⟩
theorem zQ4{o:Oper}{s:St}{c x y:Operand}{b:Bool}(ho:o.op=.pick c x y)(hc:s.ev c=.c (.v (.bool b))):Y0 P o s (bif b then s.ev x else s.ev y):=
 qS fun ok σ a w hC=>by
  have h1:=hC.exact hc;refine⟨if b then a.eval x else a.eval y,?_,?_⟩
  ·unfold execOp;rw[ho];simp[h1,asBool]
  ·cases b
   ·exact hC.ev y
   ·exact hC.ev x
theorem zBh{o:Oper}{s:St}{x y:Operand}{op:BinOp}{t t2:TypeId}{u v r:Value}(ho:o.op=.binOp op t x y t2)(hx:s.ev x=.c (.v u))(hy:s.ev y=.c (.v v))(hg:∀w,(eqGuard op t x y u v).run P w=.ok () w)
  (h:∀w,(binOp op t u v).run P w=.ok r w) (hr:r.oneCell'=true):Y0 P o s (.c (.v r)):=
 qS fun ok σ a w hC=>by refine⟨r,?_,Rd.v r hr⟩;unfold execOp;rw[ho];simp only[hC.exact hx,hC.exact hy,Sem.run_bind,hg,h,Result.andThen_ok,Sem.run_pure]
theorem zBP(op:BinOp)(t:TypeId)(x y:Operand)(k:IntKind)(a b:Int)(w:World):(eqGuard op t x y (.int k a) (.int k b)).run P w=.ok () w:=by unfold eqGuard;cases op<;>rfl
theorem zNO(op:BinOp)(t:TypeId)(x y:Operand)(a b:Bool)(w:World):(eqGuard op t x y (.bool a) (.bool b)).run P w=.ok () w:=by unfold eqGuard;cases op<;>rfl
theorem zHc(op:BinOp)(t:TypeId)(x y:Operand)(a b:zq)(w:World):(eqGuard op t x y (.string a) (.string b)).run P w=.ok () w:=by unfold eqGuard;cases op<;>rfl
theorem zVj{o:Oper}{s:St}{x y:Operand}{t t2:TypeId}{k:IntKind}{a b:Int}(ho:o.op=.binOp .add t x y t2)(hx:s.ev x=.c (.v (.int k a)))(hy:s.ev y=.c (.v (.int k b))):Y0 P o s (.c (.v (.int k (k.wrap (a+b))))):=
 zBh ho hx hy (zBP _ _ _ _ _ _ _) (fun w=>by simp[binOp,Op.intArith]) rfl
theorem zVd{o:Oper}{s:St}{x y:Operand}{t t2:TypeId}{k:IntKind}{a b:Int}(ho:o.op=.binOp .sub t x y t2)(hx:s.ev x=.c (.v (.int k a)))(hy:s.ev y=.c (.v (.int k b))):Y0 P o s (.c (.v (.int k (k.wrap (a - b))))):=
 zBh ho hx hy (zBP _ _ _ _ _ _ _) (fun w=>by simp[binOp,Op.intArith]) rfl
theorem zVg{o:Oper}{s:St}{x y:Operand}{t t2:TypeId}{k:IntKind}{a b:Int}(ho:o.op=.binOp .mul t x y t2)(hx:s.ev x=.c (.v (.int k a)))(hy:s.ev y=.c (.v (.int k b))):Y0 P o s (.c (.v (.int k (k.wrap (a*b))))):=
 zBh ho hx hy (zBP _ _ _ _ _ _ _) (fun w=>by simp[binOp,Op.intArith]) rfl
theorem zS8{o:Oper}{s:St}{x y:Operand}{t t2:TypeId}{k:IntKind}{a b:Int}(ho:o.op=.binOp .quo t x y t2)(hx:s.ev x=.c (.v (.int k a)))(hy:s.ev y=.c (.v (.int k b)))(h0:b≠0):Y0 P o s (.c (.v (.int k (k.wrap (a.tdiv b))))):=
 zBh ho hx hy (zBP _ _ _ _ _ _ _) (fun w=>by simp[binOp,Op.intDiv,h0]) rfl
theorem zS7{o:Oper}{s:St}{x y:Operand}{t t2:TypeId}{k:IntKind}{a b:Int}(ho:o.op=.binOp .rem t x y t2)(hx:s.ev x=.c (.v (.int k a)))(hy:s.ev y=.c (.v (.int k b)))(h0:b≠0):Y0 P o s (.c (.v (.int k (a.tmod b)))):=
 zBh ho hx hy (zBP _ _ _ _ _ _ _) (fun w=>by simp[binOp,Op.intDiv,h0]) rfl
theorem Y0_eq{o:Oper}{s:St}{x y:Operand}{t t2:TypeId}{k:IntKind}{a b:Int}(ho:o.op=.binOp .eql t x y t2)(hx:s.ev x=.c (.v (.int k a)))(hy:s.ev y=.c (.v (.int k b))):Y0 P o s (.c (.v (.bool (a==b)))):=
 zBh ho hx hy (zBP _ _ _ _ _ _ _) (fun w=>by simp[binOp,Op.intCmp]) rfl
theorem Y0_ne{o:Oper}{s:St}{x y:Operand}{t t2:TypeId}{k:IntKind}{a b:Int}(ho:o.op=.binOp .neq t x y t2)(hx:s.ev x=.c (.v (.int k a)))(hy:s.ev y=.c (.v (.int k b))):Y0 P o s (.c (.v (.bool (a != b)))):=
 zBh ho hx hy (zBP _ _ _ _ _ _ _) (fun w=>by simp[binOp,Op.intCmp]) rfl
theorem Y0_lt{o:Oper}{s:St}{x y:Operand}{t t2:TypeId}{k:IntKind}{a b:Int}(ho:o.op=.binOp .lss t x y t2)(hx:s.ev x=.c (.v (.int k a)))(hy:s.ev y=.c (.v (.int k b))):Y0 P o s (.c (.v (.bool (decide (a<b))))):=
 zBh ho hx hy (zBP _ _ _ _ _ _ _) (fun w=>by simp[binOp,Op.intCmp]) rfl
theorem Y0_le{o:Oper}{s:St}{x y:Operand}{t t2:TypeId}{k:IntKind}{a b:Int}(ho:o.op=.binOp .leq t x y t2)(hx:s.ev x=.c (.v (.int k a)))(hy:s.ev y=.c (.v (.int k b))):Y0 P o s (.c (.v (.bool (decide (a≤b))))):=
 zBh ho hx hy (zBP _ _ _ _ _ _ _) (fun w=>by simp[binOp,Op.intCmp]) rfl
theorem Y0_gt{o:Oper}{s:St}{x y:Operand}{t t2:TypeId}{k:IntKind}{a b:Int}(ho:o.op=.binOp .gtr t x y t2)(hx:s.ev x=.c (.v (.int k a)))(hy:s.ev y=.c (.v (.int k b))):Y0 P o s (.c (.v (.bool (decide (b<a))))):=
 zBh ho hx hy (zBP _ _ _ _ _ _ _) (fun w=>by simp[binOp,Op.intCmp]) rfl
theorem Y0_ge{o:Oper}{s:St}{x y:Operand}{t t2:TypeId}{k:IntKind}{a b:Int}(ho:o.op=.binOp .geq t x y t2)(hx:s.ev x=.c (.v (.int k a)))(hy:s.ev y=.c (.v (.int k b))):Y0 P o s (.c (.v (.bool (decide (b≤a))))):=
 zBh ho hx hy (zBP _ _ _ _ _ _ _) (fun w=>by simp[binOp,Op.intCmp]) rfl
theorem zZA{o:Oper}{s:St}{x y:Operand}{t t2:TypeId}{a b:Bool}(hu:P.underlying t=some .bool)(ho:o.op=.binOp .eql t x y t2)(hx:s.ev x=.c (.v (.bool a)))(hy:s.ev y=.c (.v (.bool b))):Y0 P o s (.c (.v (.bool (a==b)))):=
 zBh ho hx hy (zNO _ _ _ _ _ _) (fun w=>run_eql_bool w t a b hu) rfl
theorem zYr{o:Oper}{s:St}{x y:Operand}{t t2:TypeId}{a b:Bool}(hu:P.underlying t=some .bool)(ho:o.op=.binOp .neq t x y t2)(hx:s.ev x=.c (.v (.bool a)))(hy:s.ev y=.c (.v (.bool b))):Y0 P o s (.c (.v (.bool (a != b)))):=
 zBh ho hx hy (zNO _ _ _ _ _ _) (fun w=>run_neq_bool w t a b hu) rfl
theorem zYz{o:Oper}{s:St}{x y:Operand}{t t2:TypeId}{a b:zq}(ho:o.op=.binOp .eql t x y t2)(hx:s.ev x=.c (.v (.string a)))(hy:s.ev y=.c (.v (.string b))):Y0 P o s (.c (.v (.bool (a.toList==b.toList)))):=
 zBh ho hx hy (zHc _ _ _ _ _ _) (fun w=>by simp[binOp,Op.stringOp]) rfl
theorem zYq{o:Oper}{s:St}{x y:Operand}{t t2:TypeId}{a b:zq}(ho:o.op=.binOp .neq t x y t2)(hx:s.ev x=.c (.v (.string a)))(hy:s.ev y=.c (.v (.string b))):Y0 P o s (.c (.v (.bool (!(a.toList==b.toList))))):=
 zBh ho hx hy (zHc _ _ _ _ _ _) (fun w=>by simp[binOp,Op.stringOp]) rfl
theorem zYu{o:Oper}{s:St}{x y:Operand}{t t2:TypeId}{a b:zq}(ho:o.op=.binOp .lss t x y t2)(hx:s.ev x=.c (.v (.string a)))(hy:s.ev y=.c (.v (.string b))):Y0 P o s (.c (.v (.bool (Op.bytesLess a.toList b.toList)))):=
 zBh ho hx hy (zHc _ _ _ _ _ _) (fun w=>by simp[binOp,Op.stringOp]) rfl
theorem zYx{o:Oper}{s:St}{x y:Operand}{t t2:TypeId}{a b:zq}(ho:o.op=.binOp .geq t x y t2)(hx:s.ev x=.c (.v (.string a)))(hy:s.ev y=.c (.v (.string b))):Y0 P o s (.c (.v (.bool (!(Op.bytesLess a.toList b.toList))))):=
 zBh ho hx hy (zHc _ _ _ _ _ _) (fun w=>by simp[binOp,Op.stringOp]) rfl
theorem zVf{o:Oper}{s:St}{x:Operand}{t:TypeId}{k:IntKind}{a:Int}(ho:o.op=.unOp .neg t x)(hx:s.ev x=.c (.v (.int k a))):Y0 P o s (.c (.v (.int k (k.wrap (0 - a))))):=
 qS fun ok σ ac w hC=>by refine⟨_,?_,zKD _ _ _ _⟩;unfold execOp;rw[ho];simp[hC.exact hx,Op.unary,Op.intArith]
theorem zS9{o:Oper}{s:St}{x:Operand}{t:TypeId}{b:Bool}(ho:o.op=.unOp .not t x)(hx:s.ev x=.c (.v (.bool b))):Y0 P o s (.c (.v (.bool (!b)))):=
 qS fun ok σ ac w hC=>by refine⟨_,?_,zSq _ _ _⟩;unfold execOp;rw[ho];simp[hC.exact hx,Op.unary]
theorem zWo{o:Oper}{s:St}{x:Operand}{src dst:TypeId}{k k2:IntKind}{a:Int}(hs:P.underlying src=some (.int k2))(hd:P.underlying dst=some (.int k))(ho:o.op=.convert src dst x)(hx:s.ev x=.c (.v (.int k2 a))):Y0 P o s (.c (.v (.int k (k.wrap a)))):=
 qS fun ok σ ac w hC=>by refine⟨_,?_,zKD _ _ _ _⟩;unfold execOp;rw[ho];simp[hC.exact hx,convert,run_underlying hs,run_underlying hd,Conv.intToInt]
def AV.nth:Nat→AV→AV
 |0,.tc x _=>x
 |n+1,.tc _ r=>r.nth n
 |_,_=>.bot
theorem zRH{ok:Nat→Prop}{σ:Nat→Loc}{w:World}:∀(n:Nat)(av:AV)(vs:List Value),RelL ok σ w av vs→(av.nth n=.bot)∨∃v,vs[n]?=some v∧Rel1 ok σ w (av.nth n) v
 |0,.tc x r,[],h=>h.elim
 |0,.tc x r,v::vs,h=>.inr ⟨v,rfl,h.1⟩
 |n+1,.tc x r,[],h=>h.elim
 |n+1,.tc x r,v::vs,h=>by simpa [AV.nth] using zRH n r vs h.2
 |0,.tn,_,_=>.inl rfl
 |n+1,.tn,_,_=>.inl rfl
 |0,.bot,vs,h=>by cases vs<;>exact (h:False).elim
 |n+1,.bot,vs,h=>by cases vs<;>exact (h:False).elim
 |0,.c t,vs,h=>by cases vs<;>exact (h:False).elim
 |n+1,.c t,vs,h=>by cases vs<;>exact (h:False).elim
 |0,.ag t,vs,h=>by cases vs<;>exact (h:False).elim
 |n+1,.ag t,vs,h=>by cases vs<;>exact (h:False).elim
 |0,.ow t,vs,h=>by cases vs<;>exact (h:False).elim
 |n+1,.ow t,vs,h=>by cases vs<;>exact (h:False).elim
 |0,.pt t _,vs,h=>by cases vs<;>exact (h:False).elim
 |n+1,.pt t _,vs,h=>by cases vs<;>exact (h:False).elim
 |0,.po t _ _ _,vs,h=>by cases vs<;>exact (h:False).elim
 |n+1,.po t _ _ _,vs,h=>by cases vs<;>exact (h:False).elim
 |0,.pe t,vs,h=>by cases vs<;>exact (h:False).elim
 |n+1,.pe t,vs,h=>by cases vs<;>exact (h:False).elim
theorem zYy{o:Oper}{s:St}{x:Operand}{n:Nat}{y r:AV}(ho:o.op=.extract x n)(hx:s.ev x=.tc y r)(hb:((AV.tc y r).nth n)≠.bot):Y0 P o s ((AV.tc y r).nth n):=
 qS fun ok σ a w hC=>by
  have h1:=hC.ev x;rw[hx]at h1;obtain⟨vs,h2,h3⟩:=h1;rcases zRH n _ _ h3 with h4|⟨v,h4,h5⟩
  ·exact absurd h4 hb
  ·refine⟨v,?_,zHG h5⟩;unfold execOp;rw[ho];have h6:vs[n]?=some v:=by simpa using h4
   simp[h2,Instr.extract,h6]
end
theorem zDr(g o n:Nat):(⟨g,o,none⟩:Addr).add n=⟨g,o+n,none⟩:=by unfold Addr.add;split<;>simp_all
section
variable {P:Program}
theorem zTd{ok:Nat→Prop}{w:World}(hok:∀g,ok g→g<w.heap.size){cs:List Tr}{arr:Array Value}(T:TypeId)(h:RdL ok w cs arr.toList):
  New w (w.alloc (.cells arr T)) ok ok (fun _=>⟨some w.heap.size,0,0⟩) (.pt 0 0) [(0,.box cs)] (.pointer (some ⟨w.heap.size,0,none⟩)):=by
 have hw:∀g,ok g→(w.alloc (.cells arr T)).heap[g]?=w.heap[g]?:=fun g hg=>Below.heap_alloc _ _ _ (hok g hg)
 refine⟨(Below.refl _ _).alloc (Nat.le_refl _) _,fun _ h=>h,fun _ h=>.inl h,fun g hg=>by have:=hok g hg;simp;omega,⟨_,rfl,rfl⟩,fun id e he=>?_,fun e he=>?_,fun id e he=>?_,fun id e g he hg=>?_,fun i j e f g hi hj _ _=>?_,fun id e he=>by obtain⟨_,h2⟩:=jN _ _ _ _ he;subst h2;rfl⟩
 ·obtain⟨h1,_⟩:=jN _ _ _ _ he;omega
 ·show (0 / 8==e)=false;rw[zj];omega
 ·obtain⟨h1,h2⟩:=jN _ _ _ _ he;subst h2;exact⟨w.heap.size,arr,T,rfl,heap_alloc_new w _,h.mono (fun _ h=>h) hw⟩
 ·have e1:w.heap.size=g:=by simpa using hg
  subst e1;exact⟨Nat.le_refl _,fun hg2=>by have:=hok _ hg2;omega,by simp⟩
 ·obtain⟨h1,_⟩:=jN _ _ _ _ hi;obtain⟨h2,_⟩:=jN _ _ _ _ hj;omega
theorem zTe{ok:Nat→Prop}{w:World}(hok:∀g,ok g→g<w.heap.size){els:List (List Tr)}{arr:Array Value}(T:TypeId)(sz:Nat)(hsz:0<sz)(hel:∀el,el∈els→el.length=sz)(hmax:els.length≤maxLen)(h:RdL ok w els.flatten arr.toList)(hlen:arr.size=els.length*sz):
  New w (w.alloc (.cells arr T)) ok ok (fun _=>⟨some w.heap.size,els.length,els.length⟩) (.ow 0) [(0,.arr T sz els)] (.slice (some ⟨w.heap.size,0,none⟩) els.length els.length):=by
 have hw:∀g,ok g→(w.alloc (.cells arr T)).heap[g]?=w.heap[g]?:=fun g hg=>Below.heap_alloc _ _ _ (hok g hg)
 refine⟨(Below.refl _ _).alloc (Nat.le_refl _) _,fun _ h=>h,fun _ h=>.inl h,fun g hg=>by have:=hok g hg;simp;omega,rfl,fun id e he=>?_,fun e he=>?_,fun id e he=>?_,fun id e g he hg=>?_,fun i j e f g hi hj _ _=>?_,fun id e he=>by obtain⟨_,h2⟩:=jN _ _ _ _ he;subst h2;rfl⟩
 ·obtain⟨h1,_⟩:=jN _ _ _ _ he;omega
 ·show (0 / 8==e)=false;rw[zj];omega
 ·obtain⟨h1,h2⟩:=jN _ _ _ _ he;subst h2;refine⟨hsz,rfl,hel,arr.toList,⟨by simpa using hlen,.inr ⟨w.heap.size,els.length,arr,rfl,Nat.zero_le _,heap_alloc_new w _,Nat.le_refl _,hmax,hlen,?_⟩⟩,h.mono (fun _ h=>h) hw⟩;show arr.toList.take (els.length*sz)=arr.toList;rw[←hlen];exact List.take_of_length_le (by simp)
 ·have e1:w.heap.size=g:=by simpa using hg
  subst e1;exact⟨Nat.le_refl _,fun hg2=>by have:=hok _ hg2;omega,by simp⟩
 ·obtain⟨h1,_⟩:=jN _ _ _ _ hi;obtain⟨h2,_⟩:=jN _ _ _ _ hj;omega
theorem zEd{o:Oper}{s:St}{av:AV}{ne:List (Nat×Ent)}(h:∀ok σ a w,Core ok σ s a w→∃v w' σ',(execOp a.eval o).run P w=.ok (.value v) w'∧New w w' ok ok σ' av ne v):Y1 P o s av ne:=by intro ok σ a w hC K Q hK;obtain⟨v,w',σ',h1,h2⟩:=h ok σ a w hC;unfold Oper.wp;rw[h1];exact hK v w' ok σ' h2
theorem zTu{v:Value}(h:v.oneCell'=true):v.cells=#[v]:=by
 cases v with
 |agg cs=>simp[Value.oneCell']at h
 |_=>rfl
theorem zTc(ok:Nat→Prop)(w:World):∀(l:List Value),(l.all Value.oneCell')=true→RdL ok w (l.map Tr.v) l
 |[],_=>.nil
 |x::xs,h=>by simp only[List.all_cons,ze]at h;exact .cons (.v x h.1) (zTc ok w xs h.2)
theorem zJ3{o:Oper}{s:St}{e:TypeId}{z:Value}(ho:o.op=.alloc e)(hz:(P.info? e).bind (·.zero)=some z)(hc:zCO z.cells=true):Y1 P o s (.pt 0 0) [(0,.box (z.cells.toList.map Tr.v))]:=
 zEd fun ok σ a w hC=>by
  cases hi:P.info? e with
  |none=>rw[hi]at hz;cases hz
  |some i=>
   have hz2:i.zero=some z:=by rw[hi]at hz;exact hz
   refine⟨.pointer (some ⟨w.heap.size,0,none⟩),w.alloc (.cells z.cells e),_,?_,zTd hC.okL e (zTc ok w _ hc)⟩;unfold execOp;rw[ho];simp[Instr.alloc,zeroValue,typeInfo,hi,hz2,newVar,newRow]
def zAE:AV→Option (List Tr)
 | .c t=>some [t]
 | .ag cs=>some cs
 |_=>none
theorem zD7{ok:Nat→Prop}{σ:Nat→Loc}{w:World}{av:AV}{y:Value}{cs:List Tr}(h:Rel ok σ w av y)(hc:zAE av=some cs):RdL ok w cs y.cells.toList:=by
 cases av with
 |c t=>have h1:Rd ok w t y:=h;injection hc with hc;subst hc;rw[zTu h1.one];exact .cons h1 .nil
 |ag ds=>obtain⟨vs,hy,hr⟩:=h;injection hc with hc;subst hc hy;exact hr
 |_=>cases hc
theorem zK9{o:Oper}{s:St}{e:TypeId}{x:Operand}{cs:List Tr}(ho:o.op=.box e x)(hx:zAE (s.ev x)=some cs):Y1 P o s (.pt 0 0) [(0,.box cs)]:=
 zEd fun ok σ a w hC=>by refine⟨.pointer (some ⟨w.heap.size,0,none⟩),w.alloc (.cells (a.eval x).cells e),_,?_,zTd hC.okL e (zD7 (hC.ev x) hx)⟩;unfold execOp;rw[ho];simp[Instr.box,newVar,newRow]
def splice{α:Type}(l:List α)(o:Nat)(m:List α):List α:=l.take o++m++l.drop (o+m.length)
theorem zRz{α:Type}(l:List α)(o:Nat):splice l o []=l:=by simp[splice]
theorem zQs{α:Type}(l:List α)(o:Nat)(x:α)(m:List α)(h:o<l.length):splice l o (x::m)=splice (l.set o x) (o+1) m:=by
 unfold splice;apply List.ext_getElem?;intro j;simp only[List.getElem?_append,List.length_take,zb,List.length_cons,List.getElem?_take,List.getElem?_drop,List.length_set,List.getElem?_set,List.length_drop];have e1:min o l.length=o:=by omega
 have e2:min (o+1) l.length=o+1:=by omega
 rw[e1,e2];by_cases h1:j<o
 ·simp only[show j<o+(m.length+1) by omega,h1,show j<o+1+m.length by omega,show j<o+1 by omega,show o≠j by omega,if_true,if_false]
 ·by_cases h2:j=o
  ·subst h2;simp[h];omega
  ·by_cases h3:j<o+1+m.length
   ·have e3:j - o=(j - (o+1))+1:=by omega
    simp only[show j<o+(m.length+1) by omega,h1,h3,show ¬j<o+1 by omega,if_true,if_false,e3,List.getElem?_cons_succ]
   ·simp only[show ¬j<o+(m.length+1) by omega,h3,if_false];have e4:o+(m.length+1)+(j - (o+(m.length+1)))=j:=by omega
    have e5:o+1+m.length+(j - (o+1+m.length))=j:=by omega
    rw[e4,e5,if_neg (by omega)]
theorem RdL.splice{ok:Nat→Prop}{w:World}{ts us:List Tr}{xs ys:List Value}(h:RdL ok w ts xs)(o:Nat)(h2:RdL ok w us ys):RdL ok w (splice ts o us) (splice xs o ys):=by unfold Go.Proofs.YtdedjieegpkabaaGreat.splice;rw[h2.len];exact ((h.take o).app h2).app (h.drop _)
theorem zKo:∀(vs:List Value)(k o:Nat)(cs:Array Value),o+k+vs.length≤cs.size→((vs.zipIdx k).foldl (fun cs (p:Value×Nat)=>cs.setIfInBounds (o+p.2) p.1) cs).toList=splice cs.toList (o+k) vs
 |[],k,o,cs,_=>by simp[zRz]
 |v::vs,k,o,cs,h=>by simp only[List.length_cons]at h;rw[List.zipIdx_cons,List.foldl_cons,zKo vs (k+1) o _ (by simp;omega),zQs _ _ _ _ (by simp;omega)];simp[Nat.add_assoc]
def zKq(place:Nat→Option (Nat×Nat))(cells:List Tr):List (Nat×AV)→Option (List Tr)
 |[]=>some cells
 |(i,av)::rest=>
  match place i,zAE av with
  |some (off,size),some cs=>if cs.length≠size∨off+cs.length>cells.length then none else zKq place (splice cells off cs) rest
  |_,_=>none
inductive RelP (ok:Nat→Prop) (σ:Nat→Loc) (w:World):List (Nat×AV)→List (Nat×Value)→Prop
  |nil:RelP ok σ w [] []
  |cons {i t x ts xs} (h:Rel ok σ w t x) (hs:RelP ok σ w ts xs):RelP ok σ w ((i,t)::ts) ((i,x)::xs)
theorem zEB{α:Type}(l:List α)(o:Nat)(m:List α)(h:o+m.length≤l.length):(splice l o m).length=l.length:=by unfold splice;simp only[zb,List.length_take,List.length_drop];omega
theorem zPC{ok:Nat→Prop}{σ:Nat→Loc}{w:World}(place:Nat→Option (Nat×Nat)){ps:List (Nat×AV)}{qs:List (Nat×Value)}(h:RelP ok σ w ps qs):∀(cells:List Tr)(arr:Array Value)(r:List Tr),RdL ok w cells arr.toList→zKq place cells ps=some r→
  ∃arr',Instr.fill place arr qs=some arr'∧RdL ok w r arr'.toList:=by
 induction h with
 |nil=>intro cells arr r hr hf;injection hf with hf;subst hf;exact⟨arr,rfl,hr⟩
 |@cons i t x ts xs h hs ih=>
  intro cells arr r hr hf;simp only[zKq]at hf;cases hp:place i with
  |none=>simp[hp]at hf
  |some p=>
   obtain⟨off,size⟩:=p;cases hc:zAE t with
   |none=>simp[hp,hc]at hf
   |some cs=>
    simp only[hp,hc]at hf;split at hf
    ·cases hf
    ·rename_i hcond;have h1:=zD7 h hc;have h2:=h1.len;have h3:=hr.len;have hsz:x.cells.size=size∧¬off+x.cells.size>arr.size:=by
      simp at h2 h3;omega
     have hspl:=zKo x.cells.toList 0 off arr (by simp;omega);obtain⟨arr',h4,h5⟩:=ih (splice cells off cs) (x.cells.zipIdx.foldl (fun cs (p:Value×Nat)=>cs.setIfInBounds (off+p.2) p.1) arr) r (by rw[←Array.foldl_toList,Array.toList_zipIdx,hspl];exact hr.splice off h1) hf
     refine⟨arr',?_,h5⟩;simp only[Instr.fill,hp];have hcond2:(decide (x.cells.size≠size)||decide (off+x.cells.size>arr.size))=false:=by simp only[Bool.or_eq_false_iff,decide_eq_false_iff_not];exact⟨by simp[hsz.1],hsz.2⟩
     rw[if_neg (by simpa using hcond2)];exact h4
end
section
variable {P:Program}
def evP(s:St):List (Nat×Operand)→List (Nat×AV)
 |[]=>[]
 |p::ps=>(p.1,s.ev p.2)::evP s ps
theorem zQI{ok:Nat→Prop}{σ:Nat→Loc}{s:St}{a:Act}{w:World}(h:Core ok σ s a w):∀(ps:List (Nat×Operand)),RelP ok σ w (evP s ps) (ps.map fun p=>(p.1,a.eval p.2))
 |[]=>.nil
 |p::ps=>.cons (h.ev p.2) (zQI h ps)
theorem zRe{o:Oper}{s:St}{t:TypeId}{parts:Array (Nat×Operand)}{z:Array Value}{cs:List Tr}(place:Nat→Option (Nat×Nat))(hb:∀ps,P.built t ps=Instr.fill place z ps)(ho:o.op=.build t parts)(hz:zCO z=true)
  (hf:zKq place (z.toList.map Tr.v) (evP s parts.toList)=some cs):Y0 P o s (.ag cs):=
 qS fun ok σ a w hC=>by
  obtain⟨arr,h1,h2⟩:=zPC place (zQI hC parts.toList) _ z cs (zTc ok w _ hz) hf;refine⟨.agg arr,?_,⟨arr,rfl,h2⟩⟩;have h3:=run_build (P:=P) w t (parts.map fun (i,x)=>(i,a.eval x)) arr (by rw[hb];simpa using h1)
  unfold execOp;rw[ho];simp only[Sem.run_bind,h3,Result.andThen_ok,Sem.run_pure]
def jV(s:St):AV→Option (List Tr)
 | .pt id off=>match s.entc id with
  |some (.box cs)=>some (cs.drop off)
  |_=>none
 | .po id sz i off=>match s.entc id with
  |some (.arr _ z els)=>if z=sz then (match els[i]? with
   |some el=>some (el.drop off)
   |none=>none) else none
  |_=>none
 | .pe cs=>some cs
 |_=>none
theorem zMA:∀(els:List (List Tr))(sz i j:Nat)(el:List Tr)(c:Tr),(∀e,e∈els→e.length=sz)→els[i]?=some el→el[j]?=some c→els.flatten[i*sz+j]?=some c
 |[],_,i,_,_,_,_,h,_=>by simp at h
 |e::es,sz,0,j,el,c,hs,h,hc=>by
  simp at h;subst h;rw[List.flatten_cons,Nat.zero_mul,Nat.zero_add,List.getElem?_append_left (by
   rcases Nat.lt_or_ge j e.length with h1|h1
   ·exact h1
   ·rw[List.getElem?_eq_none h1]at hc;cases hc)]
  exact hc
 |e::es,sz,i+1,j,el,c,hs,h,hc=>by
  have hl:e.length=sz:=hs e (by simp);rw[List.flatten_cons,List.getElem?_append_right (by rw[hl,Nat.add_mul];omega)];have e1:(i+1)*sz+j - e.length=i*sz+j:=by rw[hl,Nat.add_mul];omega
  rw[e1];exact zMA es sz i j el c (fun x hx=>hs x (by simp[hx])) (by simpa using h) hc
theorem zJD{w:World}{e:TypeId}{sz:Nat}{l:Loc}{n:Nat}{vs:List Value}(h:w.ownsRow 0 e sz (zG l) n vs){g:Nat}(hg:l.blk=some g):∀j u,vs[j]?=some u→w.cell? ⟨g,j,none⟩=some u:=by intro j u hu;have h1:=h.cells (g:=g) (by simp[zG,hg,Value.ownBlock]) j u hu;rw[zDr]at h1;simpa using h1
theorem zLw{w:World}{e:TypeId}{sz:Nat}{l:Loc}{n:Nat}{vs:List Value}(h:w.ownsRow 0 e sz (zG l) n vs)(hn:0<n):∃g,l.blk=some g:=by
 obtain⟨g,cap,hv,_⟩:=h.form hn;unfold zG at hv;injection hv with h1;cases hb:l.blk with
 |none=>rw[hb]at h1;cases h1
 |some g=>exact⟨g,rfl⟩
theorem zHI{ok:Nat→Prop}{σ:Nat→Loc}{s:St}{a:Act}{w:World}(h:Core ok σ s a w){av:AV}{y:Value}{cs:List Tr}(hr:Rel ok σ w av y)(hm:jV s av=some cs):
  ∃g off,y=.pointer (some ⟨g,off,none⟩)∧∀j c,cs[j]?=some c→∃u,w.cell? ⟨g,off+j,none⟩=some u∧Rd ok w c u:=by
 cases av with
 |pt id off=>
  simp only[jV]at hm;cases he:s.entc id with
  |none=>simp[he]at hm
  |some e=>
   cases e with
   |arr=>simp[he]at hm
   |pbox=>simp[he]at hm
   |parr=>simp[he]at hm
   |mp=>simp[he]at hm
   |qarr=>simp[he]at hm
   |box ds=>
    simp only[he]at hm;injection hm with hm;subst hm;obtain⟨g,h1,h2⟩:=(hr:Rel1 ok σ w (.pt id off) y)
    obtain⟨g2,arr,T,h3,h4,h5⟩:=h.entc id _ he;rw[h1]at h3;injection h3 with h3;subst h3;refine⟨g,off,h2,fun j c hj=>?_⟩;obtain⟨u,h6,h7⟩:=h5.get (off+j) c (by simpa using hj);exact⟨u,by rw[cell_of_row w g _ arr T _ h4];simpa using h6,h7⟩
 |po id sz i off=>
  simp only[jV]at hm;cases he:s.entc id with
  |none=>simp[he]at hm
  |some e=>
   cases e with
   |box=>simp[he]at hm
   |pbox=>simp[he]at hm
   |parr=>simp[he]at hm
   |mp=>simp[he]at hm
   |qarr=>simp[he]at hm
   |arr T z els=>
    simp only[he]at hm;split at hm
    ·rename_i hz;subst hz;cases hi:els[i]? with
     |none=>simp[hi]at hm
     |some el=>
      simp only[hi]at hm;injection hm with hm;subst hm;obtain⟨g,h1,h2⟩:=(hr:Rel1 ok σ w (.po id z i off) y)
      obtain⟨h0,hn,hs,vs,h3,h4⟩:=h.entc id _ he;refine⟨g,i*z+off,h2,fun j c hj=>?_⟩;have h5:=zMA els z i (off+j) el c hs hi (by simpa using hj);obtain⟨u,h6,h7⟩:=h4.get _ c h5;refine⟨u,?_,h7⟩;have h8:=zJD h3 h1 _ u h6;rw[←Nat.add_assoc]at h8;exact h8
    ·cases hm
 |pe ds=>
  obtain⟨g,off,h1,h2,h3⟩:=(hr:Rel1 ok σ w (.pe ds) y)
  simp only[jV]at hm;injection hm with hm;subst hm;exact⟨g,off,h2,h3⟩
 |_=>simp[jV]at hm
def aggD:TypeDesc→Bool
 | .struct _=>true
 | .array _ _=>true
 |_=>false
def zIN(P:Program)(t:TypeId):Prop:=∃d,P.underlying t=some d∧aggD d=false
def wide(P:Program)(t:TypeId)(n:Nat):Prop:=(∃d,P.underlying t=some d∧aggD d=true)∧(P.info? t).map (·.size)=some n
theorem zOp{t:TypeId}{d:TypeDesc}(h:P.underlying t=some d)(w:World):(isAgg t).run P w=.ok (aggD d) w:=by unfold isAgg;simp only[Sem.run_bind,run_underlying h,Result.andThen_ok];cases d<;>rfl
theorem zPl{t:TypeId}(hs:zIN P t){w:World}{g off:Nat}{u:Value}(h:w.cell? ⟨g,off,none⟩=some u):(loadVar t ⟨g,off,none⟩).run P w=.ok u w:=by obtain⟨d,h1,h2⟩:=hs;unfold loadVar;simp only[Sem.run_bind,zOp h1,h2,Result.andThen_ok,Bool.false_eq_true,if_false,run_load,h]
theorem zJA{t:TypeId}{n:Nat}(hs:wide P t n){w:World}{g off:Nat}{vs:List Value}(hl:vs.length=n)(h:∀j u,vs[j]?=some u→w.cell? ⟨g,off+j,none⟩=some u):(loadVar t ⟨g,off,none⟩).run P w=.ok (.agg vs.toArray) w:=by
 obtain⟨⟨d,h1,h2⟩,h3⟩:=hs;have h4:=run_loadCells_list (P:=P) w ⟨g,off,none⟩ vs (fun j u hu=>by rw[zDr];exact h j u hu);cases hi:P.info? t with
 |none=>rw[hi]at h3;simp at h3
 |some i=>
  have h5:i.size=n:=by rw[hi]at h3;simpa using h3
  rw[hl]at h4;unfold loadVar;simp[zOp h1,h2,sizeOf,typeInfo,hi,h5,h4]
theorem qI{o:Oper}{s:St}{t:TypeId}{x:Operand}{c:Tr}{cs:List Tr}(hs:zIN P t)(ho:o.op=.load t x)(hm:jV s (s.ev x)=some (c::cs)):Y0 P o s (.c c):=
 qS fun ok σ a w hC=>by obtain⟨g,off,h1,h2⟩:=zHI hC (hC.ev x) hm;obtain⟨u,h3,h4⟩:=h2 0 c rfl;refine⟨u,?_,h4⟩;unfold execOp;rw[ho];simp only[h1,Instr.loadAt,Instr.sureAddr,Sem.run_bind,Sem.run_pure,Result.andThen_ok,zPl hs (show w.cell? ⟨g,off,none⟩=some u from h3)]
theorem zHM{ok:Nat→Prop}{w:World}(g off:Nat):∀(cs:List Tr)(k:Nat),(∀j c,cs[j]?=some c→∃u,w.cell? ⟨g,off+(k+j),none⟩=some u∧Rd ok w c u)→∃vs,RdL ok w cs vs∧∀j u,vs[j]?=some u→w.cell? ⟨g,off+(k+j),none⟩=some u
 |[],k,_=>⟨[],.nil,fun j u h=>by simp at h⟩
 |c::cs,k,h=>by
  obtain⟨u,h1,h2⟩:=h 0 c rfl;obtain⟨vs,h3,h4⟩:=zHM g off cs (k+1) fun j d hj=>by
   have:=h (j+1) d (by simpa using hj)
   rwa [show k+(j+1)=k+1+j by omega]at this
  refine⟨u::vs,.cons h2 h3,fun j v hv=>?_⟩;cases j with
  |zero=>simp at hv;subst hv;exact h1
  |succ j=>
   have:=h4 j v (by simpa using hv)
   rwa [show k+1+j=k+(j+1) by omega]at this
theorem zRd{o:Oper}{s:St}{t:TypeId}{x:Operand}{n:Nat}{cs:List Tr}(hs:wide P t n)(ho:o.op=.load t x)(hm:jV s (s.ev x)=some cs)(hn:n≤cs.length):Y0 P o s (.ag (cs.take n)):=
 qS fun ok σ a w hC=>by
  obtain⟨g,off,h1,h2⟩:=zHI hC (hC.ev x) hm;obtain⟨vs,h3,h4⟩:=zHM g off (cs.take n) 0 fun j c hj=>by
   have:=h2 j c (by
    rw[List.getElem?_take]at hj;split at hj
    ·exact hj
    ·cases hj)
   simpa using this
  have hl:vs.length=n:=by rw[←h3.len];simp;omega
  have h5:=zJA (P:=P) hs (g:=g) (off:=off) hl (fun j u hu=>by simpa using h4 j u hu);refine⟨.agg vs.toArray,?_,⟨_,rfl,by simpa using h3⟩⟩;unfold execOp;rw[ho];simp only[h1,Instr.loadAt,Instr.sureAddr,Sem.run_bind,Sem.run_pure,Result.andThen_ok,h5]
def AV.adv(n:Nat):AV→AV
 | .pt id off=>.pt id (off+n)
 | .po id sz i off=>.po id sz i (off+n)
 | .pe cs=>.pe (cs.drop n)
 |_=>.bot
theorem zQ3{ok:Nat→Prop}{σ:Nat→Loc}{w:World}{av:AV}{y:Value}(n:Nat)(h:Rel ok σ w av y)(hb:av.adv n≠.bot):∃g off,y=.pointer (some ⟨g,off,none⟩)∧Rel ok σ w (av.adv n) (.pointer (some ⟨g,off+n,none⟩)):=by
 cases av with
 |pt id off=>
  obtain⟨g,h1,h2⟩:=(h:Rel1 ok σ w (.pt id off) y)
  exact⟨g,off,h2,⟨g,h1,rfl⟩⟩
 |po id sz i off=>
  obtain⟨g,h1,h2⟩:=(h:Rel1 ok σ w (.po id sz i off) y)
  exact⟨g,i*sz+off,h2,⟨g,h1,by rw[Nat.add_assoc]⟩⟩
 |pe cs=>
  obtain⟨g,off,h1,h2,h3⟩:=(h:Rel1 ok σ w (.pe cs) y)
  refine⟨g,off,h2,⟨g,off+n,h1,rfl,fun j c hj=>?_⟩⟩;rw[Nat.add_assoc];exact h3 (n+j) c (by simpa using hj)
 |_=>exact absurd rfl hb
theorem zVi{o:Oper}{s:St}{t:TypeId}{x:Operand}{f:Nat}{fields:Array Field}{fd:Field}{n:Nat}(hu:P.underlying t=some (.struct fields))(hfd:fields[f]?=some fd)(hsz:((P.info? fd.type).map (·.size))=some (n+1))(ho:o.op=.fieldAddr t x f)
  (hb:(s.ev x).adv fd.offset≠.bot):Y0 P o s ((s.ev x).adv fd.offset):=
 qS fun ok σ a w hC=>by
  obtain⟨g,off,h1,h2⟩:=zQ3 fd.offset (hC.ev x) hb;refine⟨_,?_,h2⟩;cases hi:P.info? fd.type with
  |none=>rw[hi]at hsz;simp at hsz
  |some i=>
   have h5:i.size=n+1:=by rw[hi]at hsz;simpa using hsz
   unfold execOp;rw[ho];simp[h1,Instr.fieldAt,run_underlying hu,hfd,Instr.sureAddr,fieldPlace,sizeOf,typeInfo,hi,h5,zDr]
theorem zRb{o:Oper}{s:St}{x:Operand}(ho:o.op=.nilCheck x)(hb:(s.ev x).adv 0≠.bot):Y0 P o s (s.ev x):=
 qS fun ok σ a w hC=>by obtain⟨g,off,h1,h2⟩:=zQ3 0 (hC.ev x) hb;refine⟨a.eval x,?_,hC.ev x⟩;unfold execOp;rw[ho];simp only[h1];rfl
theorem zYw{o:Oper}{s:St}{t e:TypeId}{x ix:Operand}{els:List (List Tr)}{el:List Tr}{k:IntKind}{n:Int}(hu:P.underlying t=some (.slice e))(hsz:∃z,(P.info? e).map (·.size)=some z∧z=el.length)(ho:o.op=.indexAddr t x ix)(hx:s.ev x=.c (.sl els))(hi:s.ev ix=.c (.v (.int k n)))
  (h0:0≤n) (he:els[n.toNat]?=some el):Y0 P o s (.pe el):=
 qS fun ok σ a w hC=>by
  have h1:=hC.ev x;rw[hx]at h1;have h2:=hC.exact hi;have hlt:n.toNat<els.length:=by
   rcases Nat.lt_or_ge n.toNat els.length with h|h
   ·exact h
   ·rw[List.getElem?_eq_none h]at he;cases he
  obtain⟨z,hz1,hz2⟩:=hsz;cases hii:P.info? e with
  |none=>rw[hii]at hz1;simp at hz1
  |some i=>
   have h5:i.size=el.length:=by rw[hii]at hz1;simp at hz1;omega
   have h3:Rd ok w (.sl els) (a.eval x):=h1;generalize hax:a.eval x=y at h3;cases h3 with
   |nl A cap=>simp at hlt
   |sl g off m cap sz els f hn hcap hok hs hc hr=>
    have hel:el.length=sz:=hs el (List.mem_of_getElem? he);refine⟨.pointer (some ⟨g,off+n.toNat*el.length,none⟩),?_,⟨g,_,hok,rfl,fun j c hj=>?_⟩⟩
    ·unfold execOp;rw[ho];have hm:n<(m:Int):=by omega
     simp[h2,hax,Instr.indexAt,asIntOf,run_underlying hu,sizeOf,typeInfo,hii,h5,h0,hm,zDr]
    ·have hat:at2 els n.toNat j=some c:=by simp[at2,he,hj]
     refine⟨f n.toNat j,?_,hr _ _ c hat⟩;rw[Nat.add_assoc,hel];exact hc _ _ c hat
theorem zQ5{o:Oper}{s:St}{t e:TypeId}{x ix:Operand}{id T sz:Nat}{els:List (List Tr)}{k:IntKind}{n:Int}(hu:P.underlying t=some (.slice e))(hsz:(P.info? e).map (·.size)=some sz)(ho:o.op=.indexAddr t x ix)(hx:s.ev x=.ow id)(he:s.entc id=some (.arr T sz els))(hi:s.ev ix=.c (.v (.int k n)))
  (h0:0≤n) (hlt:n.toNat<els.length):Y0 P o s (.po id sz n.toNat 0):=
 qS fun ok σ a w hC=>by
  have h1:=hC.ev x;rw[hx]at h1;have h2:=hC.exact hi;obtain⟨h3,hn,hs,vs,h4,h5⟩:=hC.entc id _ he;obtain⟨g,hg⟩:=zLw h4 (by omega);have h6:a.eval x=zG (σ id):=h1;cases hii:P.info? e with
  |none=>rw[hii]at hsz;simp at hsz
  |some i=>
   have h7:i.size=sz:=by rw[hii]at hsz;simpa using hsz
   refine⟨.pointer (some ⟨g,n.toNat*sz,none⟩),?_,⟨g,hg,rfl⟩⟩;unfold execOp;rw[ho];have hm:n<((σ id).n:Int):=by omega
   simp[h2,h6,zG,hg,Instr.indexAt,asIntOf,run_underlying hu,sizeOf,typeInfo,hii,h7,h0,hm,zDr]
end
section
variable {P:Program}
theorem zNF:∀(av:AV),∃N,∀d,N≤d→av.ment d=false
 | .ow id=>⟨id / 8+1,fun d h=>by simp[AV.ment];omega⟩
 | .pt id _=>⟨id / 8+1,fun d h=>by simp[AV.ment];omega⟩
 | .po id _ _ _=>⟨id / 8+1,fun d h=>by simp[AV.ment];omega⟩
 | .tc x r=>by obtain⟨a,ha⟩:=zNF x;obtain⟨b,hb⟩:=zNF r;exact⟨a+b,fun d h=>by simp[AV.ment,ha d (by omega),hb d (by omega)]⟩
 | .bot=>⟨0,fun _ _=>rfl⟩
 | .c _=>⟨0,fun _ _=>rfl⟩
 | .ag _=>⟨0,fun _ _=>rfl⟩
 | .pe _=>⟨0,fun _ _=>rfl⟩
 | .fn _ _=>⟨0,fun _ _=>rfl⟩
 | .vw id _ _=>⟨id / 8+1,fun d h=>by simp[AV.ment];omega⟩
 | .er _=>⟨0,fun _ _=>rfl⟩
 | .sf id _ _=>⟨id / 8+1,fun d h=>by simp[AV.ment];omega⟩
 | .tn=>⟨0,fun _ _=>rfl⟩
theorem Rel.mono0{ok ok':Nat→Prop}{σ:Nat→Loc}{w w':World}{av:AV}{y:Value}(h:Rel ok σ w av y)(hok:∀g,ok g→ok' g)(hw:∀g,ok g→w'.heap[g]?=w.heap[g]?):Rel ok' σ w' av y:=by obtain⟨N,hN⟩:=zNF av;exact h.mono N hok hw (hN N (Nat.le_refl _)) fun _ _=>rfl
theorem R.write{B:Fr}{w0:World}{ok0 ok:Nat→Prop}{σ:Nat→Loc}{s:St}{a:Act}{w:World}(h:R B w0 ok0 ok σ s a w){id:Nat}{e e':Ent}{g:Nat}(he:s.ent id=some e)(hg:(σ id).blk=some g)(arr:Array Value)
  (hcells:∃old T,w.heap[g]?=some (.cells old T (0,0))) (E':List (Nat×Ent)) (hE:∀j,(E'.lookup j)=if j=id then some e' else s.ent j) (hok:(∀q,q≠g→(w.setRow g arr).heap[q]?=w.heap[q]?)→qW ok (w.setRow g arr) (σ id) e') (hpin:e'.pin=e.pin:=by rfl):
  R B w0 ok0 ok σ ⟨s.T,E'⟩ a (w.setRow g arr):=by
 obtain⟨hb1,hb2⟩:=h.core.blk id e g he hg;have hB:=h.own id e g he hg;have hw:∀q,q≠g→(w.setRow g arr).heap[q]?=w.heap[q]?:=fun q hq=>setRow_other w g q arr hq
 have hwok:∀q,ok q→(w.setRow g arr).heap[q]?=w.heap[q]?:=fun q hq=>hw q fun e=>hb1 (e▸hq)
 have hsize:(w.setRow g arr).heap.size=w.heap.size:=by simp[World.setRow]
 have look:∀j f,(St.mk s.T E').ent j=some f→(j=id∧f=e')∨(j≠id∧s.ent j=some f):=by
  intro j f hj;have h1:E'.lookup j=some f:=hj;rw[hE]at h1;split at h1
  ·rename_i hji;exact .inl ⟨hji,by simpa using h1.symm⟩
  ·rename_i hji;exact .inr ⟨hji,h1⟩
 refine⟨⟨h.core.len,fun q hq=>by rw[hsize];exact h.core.okL q hq,h.core.lib.mono (fun _ h=>h) hwok,fun t=>?_,fun j f hj=>?_,fun j f q hj hq=>?_,fun i j f1 f2 q hi hj h1 h2=>?_⟩,h.defers,h.below.trans ?_,by rw[hsize];exact h.base,h.old,h.fresh,fun j f q hj hq=>?_⟩
 ·have h1:=h.core.tmp t;exact h1.mono0 (fun _ h=>h) hwok
 ·rcases look j f hj with⟨rfl,rfl⟩|⟨h1,h2⟩
  ·exact hok hw
  ·refine (h.core.ent j f h2).mono (fun _ h=>h) hwok fun q hq=>hw q fun e1=>?_
   subst e1;exact h1 (h.core.inj _ _ _ _ _ h2 he hq hg)
 ·rw[hsize];rcases look j f hj with⟨rfl,rfl⟩|⟨h1,h2⟩
  ·exact h.core.blk _ _ _ he hq
  ·exact h.core.blk _ _ _ h2 hq
 ·rcases look i f1 hi with⟨a1,a2⟩|⟨a1,a2⟩<;>rcases look j f2 hj with⟨b1,b2⟩|⟨b1,b2⟩
  ·omega
  ·subst a1;exact h.core.inj _ _ _ _ _ he b2 h1 h2
  ·subst b1;exact h.core.inj _ _ _ _ _ a2 he h1 h2
  ·exact h.core.inj _ _ _ _ _ a2 b2 h1 h2
 ·refine⟨rfl,rfl,rfl,by rw[hsize];exact Nat.le_refl _,fun q hq hx=>hw q fun e1=>?_⟩;subst e1;split at hB
  ·exact hx hB
  ·exact hq hB
 ·rcases look j f hj with⟨rfl,rfl⟩|⟨h1,h2⟩
  ·rw[hpin];exact h.own _ _ _ he hq
  ·exact h.own _ _ _ h2 hq
def setE(id:Nat)(e:Ent):List (Nat×Ent)→List (Nat×Ent)
 |[]=>[]
 |p::ps=>bif p.1==id then (id,e)::ps else p::setE id e ps
theorem jX(id:Nat)(e:Ent):∀(E:List (Nat×Ent))(f:Ent),E.lookup id=some f→∀j,(setE id e E).lookup j=if j=id then some e else E.lookup j
 |[],f,h,j=>by simp at h
 |(p1,p2)::ps,f,h,j=>by
  simp only[setE];cases hp:(p1==id) with
  |true=>
   have e1:p1=id:=by simpa using hp
   subst e1;simp only[cond_true,List.lookup];by_cases hj:j=p1
   ·subst hj;simp
   ·have:(j==p1)=false:=by simpa using hj
    simp[this,hj]
  |false=>
   have hne:(id==p1)=false:=by rw[zj]at hp ⊢;exact fun e=>hp e.symm
   simp only[List.lookup,hne]at h;have ih:=jX id e ps f h j;simp only[cond_false,List.lookup];cases hj:(j==p1) with
   |true=>
    have e1:j=p1:=by simpa using hj
    subst e1;have:¬j=id:=by simpa using hp
    simp[this]
   |false=>simpa using ih
theorem zCp:∀(els:List (List Tr))(sz:Nat),(∀e,e∈els→e.length=sz)→els.flatten.length=els.length*sz
 |[],sz,_=>by simp
 |e::es,sz,h=>by rw[List.flatten_cons,zb,zCp es sz (fun x hx=>h x (by simp[hx])),h e (by simp),List.length_cons,Nat.add_mul];omega
theorem zEq:∀(els:List (List Tr))(sz i off:Nat)(el m:List Tr),(∀e,e∈els→e.length=sz)→els[i]?=some el→off+m.length≤el.length→(els.set i (splice el off m)).flatten=splice els.flatten (i*sz+off) m
 |[],_,i,_,_,_,_,h,_=>by simp at h
 |e::es,sz,0,off,el,m,hs,h,hl=>by simp at h;subst h;unfold splice;simp only[List.set_cons_zero,List.flatten_cons,Nat.zero_mul,Nat.zero_add];rw[List.take_append_of_le_length (by omega),List.drop_append_of_le_length hl];simp only[List.append_assoc]
 |e::es,sz,i+1,off,el,m,hs,h,hl=>by
  have he:e.length=sz:=hs e (by simp);have ih:=zEq es sz i off el m (fun x hx=>hs x (by simp[hx])) (by simpa using h) hl;simp only[List.set_cons_succ,List.flatten_cons,ih];unfold splice;have e1:(i+1)*sz+off=e.length+(i*sz+off):=by rw[he,Nat.add_mul];omega
  rw[e1,List.take_append,List.drop_append];have e2:e.length+(i*sz+off) - e.length=i*sz+off:=by omega
  have e3:e.length+(i*sz+off)+m.length - e.length=i*sz+off+m.length:=by omega
  rw[e2,e3,List.take_of_length_le (by omega:e.length≤e.length+(i*sz+off)),List.drop_eq_nil_of_le (by omega:e.length≤e.length+(i*sz+off)+m.length)];simp
theorem zE6{t:TypeId}{w:World}{g off:Nat}{old:Array Value}{T:TypeId}{y:Value}{n:Nat}(hi:(P.info? t).map (·.size)=some n)(hy:y.cells.size=n)(hg:w.heap[g]?=some (.cells old T (0,0)))(hl:off+n≤old.size)(h1:∀v,v∈y.cells.toList→v.oneCell'=true):
  (storeVar t ⟨g,off,none⟩ y).run P w=.ok () (w.setRow g (splice old.toList off y.cells.toList).toArray):=by
 have h2:=run_storeCells_at P g off T y.cells.toList 0 old w hg (by simp;omega) h1;cases hq:P.info? t with
 |none=>rw[hq]at hi;simp at hi
 |some i=>
  have h5:i.size=n:=by rw[hq]at hi;simpa using hi
  unfold storeVar;simp[sizeOf,typeInfo,hq,h5,hy,h2,splice]
theorem zT7{o:Oper}{s:St}{t:TypeId}{x y:Operand}{id off:Nat}{cs vc:List Tr}(ho:o.op=.store t x y)(hd:o.dst=none)(hx:s.ev x=.pt id off)(he:s.ent id=some (.box cs))(hy:zAE (s.ev y)=some vc)(hi:(P.info? t).map (·.size)=some vc.length)(hl:off+vc.length≤cs.length):
  X P o s ⟨s.T,setE id (.box (splice cs off vc)) s.E⟩:=by
 intro B w0 ok0 ok σ a w hR K Q hK;obtain⟨g,arr,T,h1,h2,h3⟩:=hR.core.ent id _ he;have h4:=hR.core.ev x;rw[hx]at h4;obtain⟨g2,h5,h6⟩:=(h4:Rel1 ok σ w (.pt id off) (a.eval x))
 rw[h1]at h5;injection h5 with h5;subst h5;have h7:=zD7 (hR.core.ev y) hy;have h8:=h7.len;have h9:=h3.len;have hrun:=zE6 (P:=P) (w:=w) (g:=g) (off:=off) (y:=a.eval y) hi (by simpa using h8.symm) h2 (by simp at h9;omega) h7.one;unfold Oper.wp execOp;simp only[ho,h6,Instr.storeAt,Instr.sureAddr,Sem.run_bind,Sem.run_pure,Result.andThen_ok,hrun,Oper.upon,hd];refine hK _ _ ok σ (hR.write he h1 _ ⟨arr,T,h2⟩ _ (jX id _ s.E _ he) fun hw=>?_);refine⟨g,_,T,h1,setRow_heap w g arr _ T _ h2,?_⟩;have hmono:∀q,ok q→(w.setRow g (splice arr.toList off (a.eval y).cells.toList).toArray).heap[q]?=w.heap[q]?:=fun q hq=>hw q fun e=>(hR.core.blk id _ g he h1).1 (e▸hq)
 simpa using (h3.splice off h7).mono (fun _ h=>h) hmono
theorem zVk{o:Oper}{s:St}{t:TypeId}{x y:Operand}{id off:Nat}{l:Loc}{cs vc:List Tr}(ho:o.op=.store t x y)(hd:o.dst=none)(hx:s.ev x=.pt id off)(he:s.ent id=some (.pbox l cs))(hy:zAE (s.ev y)=some vc)(hi:(P.info? t).map (·.size)=some vc.length)(hl:off+vc.length≤cs.length):
  X P o s ⟨s.T,setE id (.pbox l (splice cs off vc)) s.E⟩:=by
 intro B w0 ok0 ok σ a w hR K Q hK;obtain⟨h0,g,arr,T,h1,h2,h3⟩:=hR.core.ent id _ he;have h4:=hR.core.ev x;rw[hx]at h4;obtain⟨g2,h5,h6⟩:=(h4:Rel1 ok σ w (.pt id off) (a.eval x))
 rw[h1]at h5;injection h5 with h5;subst h5;have h7:=zD7 (hR.core.ev y) hy;have h8:=h7.len;have h9:=h3.len;have hrun:=zE6 (P:=P) (w:=w) (g:=g) (off:=off) (y:=a.eval y) hi (by simpa using h8.symm) h2 (by simp at h9;omega) h7.one;unfold Oper.wp execOp;simp only[ho,h6,Instr.storeAt,Instr.sureAddr,Sem.run_bind,Sem.run_pure,Result.andThen_ok,hrun,Oper.upon,hd];refine hK _ _ ok σ (hR.write he h1 _ ⟨arr,T,h2⟩ _ (jX id _ s.E _ he) (fun hw=>?_) rfl);refine⟨h0,g,_,T,h1,setRow_heap w g arr _ T _ h2,?_⟩;have hmono:∀q,ok q→(w.setRow g (splice arr.toList off (a.eval y).cells.toList).toArray).heap[q]?=w.heap[q]?:=fun q hq=>hw q fun e=>(hR.core.blk id _ g he h1).1 (e▸hq)
 simpa using (h3.splice off h7).mono (fun _ h=>h) hmono
theorem zKl{α:Type}(l:List α)(n o:Nat)(m:List α)(h:o+m.length≤n)(hn:n≤l.length):(splice l o m).take n=splice (l.take n) o m:=by
 unfold splice;apply List.ext_getElem?;intro j;simp only[List.getElem?_take,List.getElem?_append,List.length_take,zb,List.getElem?_drop];have e1:min o (min n l.length)=o:=by omega
 have e2:min o l.length=o:=by omega
 rw[e1,e2];by_cases h1:j<n
 ·simp only[h1,if_true];by_cases h2:j<o+m.length
  ·simp only[h2,if_true]
  ·simp only[h2,if_false];rw[if_pos (by omega)]
 ·simp only[h1,if_false];rw[if_neg (by omega),if_neg (by omega)]
theorem zNn{o:Oper}{s:St}{t:TypeId}{x y:Operand}{id sz i off T0:Nat}{els:List (List Tr)}{el vc:List Tr}(ho:o.op=.store t x y)(hd:o.dst=none)(hx:s.ev x=.po id sz i off)(he:s.ent id=some (.arr T0 sz els))(hel:els[i]?=some el)(hy:zAE (s.ev y)=some vc)
  (hi:(P.info? t).map (·.size)=some vc.length) (hl:off+vc.length≤el.length):X P o s ⟨s.T,setE id (.arr T0 sz (els.set i (splice el off vc))) s.E⟩:=by
 intro B w0 ok0 ok σ a w hR K Q hK;obtain⟨h0,hn,hs,vs,h1,h2⟩:=hR.core.ent id _ he;have hil:i<els.length:=by
  rcases Nat.lt_or_ge i els.length with h|h
  ·exact h
  ·rw[List.getElem?_eq_none h]at hel;cases hel
 have hsz:el.length=sz:=hs el (List.mem_of_getElem? hel);have h4:=hR.core.ev x;rw[hx]at h4;obtain⟨g,h5,h6⟩:=(h4:Rel1 ok σ w (.po id sz i off) (a.eval x))
 rcases h1.2 with⟨hv,hv0⟩|⟨g2,cap,cur,hv,hb,hg,hnc,hcm,hcs,htake⟩
 ·omega
 ·have hg2:g2=g:=by
   unfold zG at hv;rw[h5]at hv;injection hv with h8;simp at h8;exact h8.symm
  subst hg2;have h7:=zD7 (hR.core.ev y) hy;have h8:=h7.len;have hfit:i*sz+sz≤els.length*sz:=by
   have:=Nat.mul_le_mul_right sz (show i+1≤els.length from hil)
   rwa [Nat.add_mul,Nat.one_mul]at this
  have hfit2:els.length*sz≤cur.size:=by rw[hcs];exact Nat.mul_le_mul_right _ hnc
  have hrun:=zE6 (P:=P) (w:=w) (g:=g2) (off:=i*sz+off) (y:=a.eval y) hi (by simpa using h8.symm) hg (by omega) h7.one;unfold Oper.wp execOp;simp only[ho,h6,Instr.storeAt,Instr.sureAddr,Sem.run_bind,Sem.run_pure,Result.andThen_ok,hrun,Oper.upon,hd];refine hK _ _ ok σ (hR.write he h5 _ ⟨cur,T0,hg⟩ _ (jX id _ s.E _ he) fun hw=>?_);have hmono:∀q,ok q→(w.setRow g2 (splice cur.toList (i*sz+off) (a.eval y).cells.toList).toArray).heap[q]?=w.heap[q]?:=fun q hq=>hw q fun e=>(hR.core.blk id _ g2 he h5).1 (e▸hq)
  have hlen:(splice el off vc).length=sz:=by rw[zEB _ _ _ hl,hsz]
  have hcl:(a.eval y).cells.toList.length=vc.length:=by rw[h8]
  refine⟨h0,by simpa using hn,fun e hm=>?_,splice vs (i*sz+off) (a.eval y).cells.toList,⟨?_,.inr ⟨g2,cap,_,by rw[List.length_set];exact hv,hb,setRow_heap w g2 cur _ T0 _ hg,by simpa using hnc,hcm,?_,?_⟩⟩,?_⟩
  ·rcases List.mem_or_eq_of_mem_set hm with h9|h9
   ·exact hs e h9
   ·rw[h9];exact hlen
  ·rw[zEB _ _ _ (by rw[h1.1,hcl];omega),h1.1,List.length_set]
  ·simp only[List.size_toArray];have hq:cur.toList.length=cur.size:=Array.length_toList;rw[zEB _ _ _ (by rw[hcl,hq];omega),hq,hcs]
  ·simp only[List.length_set];show (splice cur.toList (i*sz+off) (a.eval y).cells.toList).take (els.length*sz)=_;rw[zKl _ _ _ _ (by rw[hcl];omega) (by simpa using hfit2),htake]
  ·rw[zEq els sz i off el vc hs hel hl];exact (h2.splice _ h7).mono (fun _ h=>h) hmono
end
section
variable {P:Program}
def AV.mid(id:Nat):AV→Bool
 | .ow j=>j==id
 | .pt j _=>j==id
 | .po j _ _ _=>j==id
 | .vw j _ _=>j==id
 | .sf j _ _=>j==id
 | .tc x r=>x.mid id||r.mid id
 |_=>false
def zBx(id:Nat):List AV→List AV
 |[]=>[]
 |x::xs=>(bif x.mid id then .bot else x)::zBx id xs
theorem zFq(d:Nat):∀(T:List AV)(t:Nat),((zBx d T)[t]?).getD .bot=(bif ((T[t]?).getD .bot).mid d then AV.bot else (T[t]?).getD .bot)
 |[],t=>by simp[zBx]
 |x::xs,0=>by simp[zBx]
 |x::xs,t+1=>by simpa [zBx] using zFq d xs t
theorem zEL(d:Nat):∀(T:List AV),(zBx d T).length=T.length
 |[]=>rfl
 |x::xs=>by simp[zBx,zEL d xs]
theorem Rel1.mid{ok ok':Nat→Prop}{σ σ':Nat→Loc}{w w':World}{av:AV}{y:Value}(d:Nat)(h:Rel1 ok σ w av y)(hok:∀g,ok g→ok' g)(hw:∀g,ok g→w'.heap[g]?=w.heap[g]?)
  (hm:av.mid d=false) (hσ:∀id,id≠d→σ' id=σ id):Rel1 ok' σ' w' av y:=by
 have hw2:=(zHG h).mono0 (ok':=ok') hok hw;cases av with
 |ow id=>have e:=hσ id (by simpa [AV.mid] using hm);show y=_;rw[e];exact h
 |pt id off=>have e:=hσ id (by simpa [AV.mid] using hm);show ∃g,_;rw[e];exact h
 |po id sz i off=>have e:=hσ id (by simpa [AV.mid] using hm);show ∃g,_;rw[e];exact h
 |tn=>exact h.elim
 |tc x r=>exact h.elim
 |bot=>trivial
 |c t=>exact hw2
 |ag cs=>exact hw2
 |pe cs=>exact hw2
 |fn f caps=>exact hw2
 |er b=>exact hw2
 |vw id els m=>exact VwOk.mono h hok hw (hσ id (by simpa [AV.mid] using hm))
 |sf id z i=>have e:=hσ id (by simpa [AV.mid] using hm);show y=_;rw[e];exact h
theorem RelL.mid{ok ok':Nat→Prop}{σ σ':Nat→Loc}{w w':World}{av:AV}{ys:List Value}(d:Nat)(h:RelL ok σ w av ys)(hok:∀g,ok g→ok' g)(hw:∀g,ok g→w'.heap[g]?=w.heap[g]?)
  (hm:av.mid d=false) (hσ:∀id,id≠d→σ' id=σ id):RelL ok' σ' w' av ys:=by
 induction av generalizing ys with
 |tn=>
  cases ys with
  |nil=>trivial
  |cons y ys=>exact h.elim
 |tc x r _ ih=>
  cases ys with
  |nil=>exact h.elim
  |cons y ys=>simp only[AV.mid,Bool.or_eq_false_iff]at hm;exact⟨h.1.mid d hok hw hm.1 hσ,ih h.2 hm.2⟩
 |_=>cases ys<;>exact (h:False).elim
theorem Rel.mid{ok ok':Nat→Prop}{σ σ':Nat→Loc}{w w':World}{av:AV}{y:Value}(d:Nat)(h:Rel ok σ w av y)(hok:∀g,ok g→ok' g)(hw:∀g,ok g→w'.heap[g]?=w.heap[g]?)
  (hm:av.mid d=false) (hσ:∀id,id≠d→σ' id=σ id):Rel ok' σ' w' av y:=by
 cases av with
 |tn=>obtain⟨vs,hy,hl⟩:=h;exact⟨vs,hy,hl.mid d hok hw hm hσ⟩
 |tc x r=>obtain⟨vs,hy,hl⟩:=h;exact⟨vs,hy,hl.mid d hok hw hm hσ⟩
 |bot=>trivial
 |c t=>exact Rel1.mid (ok:=ok) (σ:=σ) (w:=w) (av:=.c t) d h hok hw hm hσ
 |ag cs=>exact Rel1.mid (ok:=ok) (σ:=σ) (w:=w) (av:=.ag cs) d h hok hw hm hσ
 |pe cs=>exact Rel1.mid (ok:=ok) (σ:=σ) (w:=w) (av:=.pe cs) d h hok hw hm hσ
 |fn f caps=>exact Rel1.mid (ok:=ok) (σ:=σ) (w:=w) (av:=.fn f caps) d h hok hw hm hσ
 |er b=>exact Rel1.mid (ok:=ok) (σ:=σ) (w:=w) (av:=.er b) d h hok hw hm hσ
 |vw id els m=>exact Rel1.mid (ok:=ok) (σ:=σ) (w:=w) (av:=.vw id els m) d h hok hw hm hσ
 |sf id z i=>exact Rel1.mid (ok:=ok) (σ:=σ) (w:=w) (av:=.sf id z i) d h hok hw hm hσ
 |ow id=>exact Rel1.mid (ok:=ok) (σ:=σ) (w:=w) (av:=.ow id) d h hok hw hm hσ
 |pt id off=>exact Rel1.mid (ok:=ok) (σ:=σ) (w:=w) (av:=.pt id off) d h hok hw hm hσ
 |po id sz i off=>exact Rel1.mid (ok:=ok) (σ:=σ) (w:=w) (av:=.po id sz i off) d h hok hw hm hσ
def zBT(s:St):AV→Option (List (List Tr))
 | .c (.sl els)=>some els
 | .ow id=>match s.entc id with
  |some (.arr _ _ els)=>some els
  |_=>none
 |_=>none
theorem zNp{ok:Nat→Prop}{w:World}:∀(cs:List Tr)(f:Nat→Value),(∀j c,cs[j]?=some c→Rd ok w c (f j))→RdL ok w cs ((List.range cs.length).map f)
 |[],f,_=>.nil
 |c::cs,f,h=>by rw[List.length_cons,List.range_succ_eq_map,List.map_cons,List.map_map];exact .cons (h 0 c rfl) (zNp cs (f∘Nat.succ) fun j d hj=>h (j+1) d (by simpa using hj))
theorem zI0:∀(els:List (List Tr))(sz k:Nat)(c:Tr),(∀e,e∈els→e.length=sz)→els.flatten[k]?=some c→at2 els (k / sz) (k % sz)=some c
 |[],_,k,c,_,h=>by simp at h
 |e::es,sz,k,c,hs,h=>by
  have he:e.length=sz:=hs e (by simp);rw[List.flatten_cons]at h;rcases Nat.lt_or_ge k sz with h1|h1
  ·rw[List.getElem?_append_left (by omega)]at h;rw[Nat.div_eq_of_lt h1,Nat.mod_eq_of_lt h1];simpa [at2] using h
  ·rw[List.getElem?_append_right (by omega),he]at h;rcases Nat.eq_zero_or_pos sz with h0|h0
   ·subst h0;have hz:es.flatten=[]:=by
     have:=zCp es 0 (fun x hx=>hs x (by simp[hx]));exact List.eq_nil_of_length_eq_zero (by simpa using this)
    rw[hz]at h;simp at h
   ·have ih:=zI0 es sz (k - sz) c (fun x hx=>hs x (by simp[hx])) h;have e1:k / sz=(k - sz) / sz+1:=Nat.div_eq_sub_div h0 h1;have e2:k % sz=(k - sz) % sz:=Nat.mod_eq_sub_mod h1;rw[e1,e2];simpa [at2] using ih
theorem zIM{ok:Nat→Prop}{σ:Nat→Loc}{s:St}{a:Act}{w:World}(h:Core ok σ s a w){av:AV}{y:Value}{els:List (List Tr)}(hr:Rel ok σ w av y)(he:zBT s av=some els):
  ∃A cap,y=.slice A els.length cap∧els.length≤cap∧(els≠[]→∃g off sz vs,A=some ⟨g,off,none⟩∧(∀e,e∈els→e.length=sz)∧RdL ok w els.flatten vs∧∀j u,vs[j]?=some u→w.cell? ⟨g,off+j,none⟩=some u):=by
 cases av with
 |c t=>
  cases t with
  |v x=>simp[zBT]at he
  |mp x=>simp[zBT]at he
  |sl es=>
   simp only[zBT]at he;injection he with he;subst he;have h1:Rd ok w (.sl es) y:=hr;cases h1 with
   |nl A cap=>exact⟨A,cap,rfl,Nat.zero_le _,fun h=>absurd rfl h⟩
   |sl g off n cap sz els f hn hcap hok hs hc hrr=>
    subst hn;refine⟨_,cap,rfl,hcap,fun _=>⟨g,off,sz,(List.range es.flatten.length).map (fun k=>f (k / sz) (k % sz)),rfl,hs,zNp _ _ fun j c hj=>hrr _ _ c (zI0 es sz j c hs hj),fun j u hu=>?_⟩⟩;have hj:j<es.flatten.length:=by
     rcases Nat.lt_or_ge j es.flatten.length with h2|h2
     ·exact h2
     ·rw[List.getElem?_eq_none (by simpa using h2)]at hu;cases hu
    have hu2:u=f (j / sz) (j % sz):=by rw[List.getElem?_map,List.getElem?_range hj]at hu;simpa using hu.symm
    have h3:=hc _ _ _ (zI0 es sz j _ hs (zl hj));have e1:j / sz*sz+j % sz=j:=by rw[Nat.mul_comm];exact Nat.div_add_mod j sz
    rw[e1]at h3;rw[hu2];exact h3
 |ow id=>
  simp only[zBT]at he;cases hid:s.entc id with
  |none=>simp[hid]at he
  |some e=>
   cases e with
   |box=>simp[hid]at he
   |pbox=>simp[hid]at he
   |parr=>simp[hid]at he
   |mp=>simp[hid]at he
   |qarr=>simp[hid]at he
   |arr T sz es=>
    simp only[hid]at he;injection he with he;subst he;obtain⟨h0,hn,hs,vs,h1,h2⟩:=h.entc id _ hid;have hy:y=zG (σ id):=hr;refine⟨_,(σ id).cap,by rw[hy];unfold zG;rw[hn],?_,fun hne=>?_⟩
    ·rcases h1.2 with⟨_,hv0⟩|⟨g2,cap,cur,hv,hb,hg,hnc,_⟩
     ·omega
     ·unfold zG at hv;injection hv with _ _ h3;omega
    ·obtain⟨g,hg⟩:=zLw h1 (List.length_pos_iff.2 hne);exact⟨g,0,sz,vs,by rw[hg];rfl,hs,h2,fun j u hu=>by rw[Nat.zero_add];exact zJD h1 hg j u hu⟩
 |_=>simp[zBT]at he
theorem zYv{o:Oper}{s:St}{x:Operand}{t e:TypeId}{els:List (List Tr)}(hu:P.underlying t=some (.slice e))(ho:o.op=.call {callee:=.builtin .len,args:=#[x],argTypes:=#[t]})(hx:zBT s (s.ev x)=some els):Y0 P o s (.c (.v (.int .i64 (els.length:Int)))):=
 qS fun ok σ a w hC=>by obtain⟨A,cap,h1,_⟩:=zIM hC (hC.ev x) hx;refine⟨_,?_,zKD _ _ _ _⟩;unfold execOp;rw[ho];simp[resolve,invoke,builtin,h1,Builtin.len_,run_underlying hu,goInt]
theorem zWm{o:Oper}{s:St}{x:Operand}{t:TypeId}{b:zq}(hu:P.underlying t=some .string)(ho:o.op=.call {callee:=.builtin .len,args:=#[x],argTypes:=#[t]})(hx:s.ev x=.c (.v (.string b))):Y0 P o s (.c (.v (.int .i64 (b.size:Int)))):=
 qS fun ok σ a w hC=>by refine⟨_,?_,zKD _ _ _ _⟩;unfold execOp;rw[ho];simp[resolve,invoke,builtin,hC.exact hx,Builtin.len_,run_underlying hu,goInt]
theorem zEx{o:Oper}{s:St}{e:TypeId}(sz:Nat)(hsz:0<sz)(ho:o.op=.assign (.const (.slice none 0 0))∨o.op=.move (.const (.slice none 0 0))):Y1 P o s (.ow 0) [(0,.arr e sz [])]:=
 zEd fun ok σ a w hC=>by
  refine⟨.slice none 0 0,w,fun _=>⟨none,0,0⟩,?_,⟨Below.refl _ _,fun _ h=>h,fun _ h=>.inl h,hC.okL,rfl,fun id e he=>?_,fun e he=>?_,fun id e he=>?_,fun id e g he hg=>by simp at hg,fun i j e f g hi hj h1=>by simp at h1,fun id e he=>by obtain⟨_,h2⟩:=jN _ _ _ _ he;subst h2;rfl⟩⟩
  ·unfold execOp;rcases ho with h|h<;>rw[h]<;>rfl
  ·obtain⟨h1,_⟩:=jN _ _ _ _ he;omega
  ·show (0 / 8==e)=false;rw[zj];omega
  ·obtain⟨h1,h2⟩:=jN _ _ _ _ he;subst h2;exact⟨hsz,rfl,(by intro el h;cases h),[],World.ownsRow_nil w 0 _ sz,RdL.nil⟩
theorem zSL(l:Loc):(zG l).ownBlock=l.blk:=by unfold zG;cases l.blk<;>rfl
theorem zUC{o:Oper}{s:St}{x y:Operand}{t e d id sz bytes:Nat}{z:Value}{els els2:List (List Tr)}(ho:o.op=.call {callee:=.builtin .append,args:=#[x,y],argTypes:=#[t,t]})(hd:o.dst=some d)(ht:P.underlying t=some (.slice e))
  (hi:(P.info? e).map (fun i=>(i.zero,i.size,i.bytes))=some (some z,sz,bytes)) (hzs:z.cells.size=sz) (hx:s.ev x=.ow id) (he:s.ent id=some (.arr e sz els)) (hy:zBT s (s.ev y)=some els2) (h2:∀el,el∈els2→el.length=sz) (hne:els2≠[])
  (hlen:els.length+els2.length≤1099511627776) (hbytes:(els.length+els2.length)*bytes≤140737488355328):X P o s ⟨(zBx id s.T).set d (.ow id),setE id (.arr e sz (els++els2)) s.E⟩:=by
 intro B w0 ok0 ok σ a w hR K Q hK;obtain⟨h0,hn,hs,vs,hown,hrd⟩:=hR.core.ent id _ he;have h3:=hR.core.ev x;rw[hx]at h3;have h4:a.eval x=zG (σ id):=h3;obtain⟨A,cap2,h5,_,h6⟩:=zIM hR.core (hR.core.ev y) hy;obtain⟨g2,off2,sz2,vs2,hA,hs2,hrd2,hc2⟩:=h6 hne;have hm:0<els2.length:=List.length_pos_iff.2 hne;cases hii:P.info? e with
 |none=>rw[hii]at hi;simp at hi
 |some i=>
  have hi2:i.zero=some z∧i.size=sz∧i.bytes=bytes:=by rw[hii]at hi;simpa using hi
  have hl2:vs2.length=els2.length*sz:=by rw[←hrd2.len];exact zCp els2 sz h2
  refine wp_append_lies w x y t ho 0 e i z sz bytes ht hii hi2.1 hi2.2.1 hi2.2.2 hzs h0 (zG (σ id)) els.length vs h4 hown ⟨g2,off2,none⟩ els2.length cap2 vs2 (by rw[h5,hA]) hl2 (fun j u hu=>by rw[zDr];exact hc2 j u hu) hrd2.one hm (by unfold maxLen;omega) hbytes (Nat.zero_le _) w.heap.size rfl ?_
  intro g cap w' hown' hgrow hat hlt;rw[zSL]at hgrow hat;have hwq:∀q,q<w.heap.size→(σ id).blk≠some q→w'.heap[q]?=w.heap[q]?:=fun q hq hne=>hgrow.block q hq fun e=>hne e.symm
  have hwok:∀q,ok q→w'.heap[q]?=w.heap[q]?:=fun q hq=>hwq q (hR.core.okL q hq) fun e1=>(hR.core.blk id _ q he e1).1 hq
  have hsz:w.heap.size≤w'.heap.size:=hgrow.size;have hσ:∀j,j≠id→(fun j=>if j=id then (⟨some g,els.length+els2.length,cap⟩:Loc) else σ j) j=σ j:=fun j hj=>by simp[hj]
  have hB:∀q,(σ id).blk=some q→B.n q:=fun q hq=>by have h7:=hR.own id _ q he hq;rw[if_neg (fun hc=>by cases hc)]at h7;exact h7
  have hgB:B.n g∧¬ok g:=by
   rcases hat with h7|h7
   ·exact⟨hB g h7,(hR.core.blk id _ g he h7).1⟩
   ·rw[h7];exact⟨hR.base _ (Nat.le_refl _),fun hq=>Nat.lt_irrefl _ (hR.core.okL _ hq)⟩
  have look:=jX id (.arr e sz (els++els2)) s.E _ he;have hfar:∀j f q,j≠id→s.ent j=some f→(σ j).blk=some q→q≠g∧(σ id).blk≠some q:=by
   intro j f q hj hf hq;have hne2:(σ id).blk≠some q:=fun e1=>hj (hR.core.inj _ _ _ _ _ hf he hq e1);refine⟨fun e1=>?_,hne2⟩;subst e1;rcases hat with h7|h7
   ·exact hne2 h7
   ·have:=(hR.core.blk j f q hf hq).2;omega
  rw[hd];refine hK _ _ ok (fun j=>if j=id then ⟨some g,els.length+els2.length,cap⟩ else σ j) ⟨⟨?_,fun q hq=>Nat.lt_of_lt_of_le (hR.core.okL q hq) hsz,hR.core.lib.mono (fun _ h=>h) hwok,fun u=>?_,fun j f hj=>?_,fun j f q hj hq=>?_,fun j k f1 f2 q hj hk q1 q2=>?_⟩,hR.defers,hR.below.grown hgrow hR.base hB,fun q hq=>hR.base q (Nat.le_trans hsz hq),hR.old,hR.fresh,fun j f q hj hq=>?_⟩
  ·rw[zIq];simpa [zEL] using hR.core.len
  ·have e0:=zBf ⟨zBx id s.T,s.E⟩ d u (.ow id);have hk:St.get ⟨(zBx id s.T).set d (.ow id),setE id (.arr e sz (els++els2)) s.E⟩ u=if d=u∧d<s.T.length then .ow id else (bif (s.get u).mid id then AV.bot else s.get u):=by
    unfold St.put St.get at e0;simp only[zEL,zFq]at e0;exact e0
   rw[hk,zJI];by_cases hdu:d=u∧d<s.T.length
   ·rw[if_pos hdu,if_pos ⟨hdu.1,Nat.lt_of_lt_of_le hdu.2 hR.core.len⟩];show _=zG _;simp[zG]
   ·rw[if_neg hdu];by_cases hd2:d=u∧d<a.tmps.size
    ·rw[if_pos hd2];have hb:s.get u=.bot:=by
      unfold St.get;rw[List.getElem?_eq_none (by omega)];rfl
     rw[hb];trivial
    ·rw[if_neg hd2];cases hmm:(s.get u).mid id with
     |true=>trivial
     |false=>exact (hR.core.tmp u).mid id (fun _ h=>h) hwok hmm hσ
  ·have h7:(setE id (.arr e sz (els++els2)) s.E).lookup j=some f:=hj;rw[look]at h7;by_cases hji:j=id
   ·rw[if_pos hji]at h7;injection h7 with h7;subst h7;simp only[hji,if_true];refine⟨h0,by simp,fun el hel=>?_,vs++vs2,?_,?_⟩
    ·rcases List.mem_append.1 hel with h8|h8
     ·exact hs el h8
     ·exact h2 el h8
    ·simpa [zG] using hown'
    ·rw[List.flatten_append];exact (hrd.mono (fun _ h=>h) hwok).app (hrd2.mono (fun _ h=>h) hwok)
   ·rw[if_neg hji]at h7;simp only[hji,if_false];refine (hR.core.ent j f h7).mono (fun _ h=>h) hwok fun q hq=>?_
    exact hwq q (hR.core.blk j f q h7 hq).2 (hfar j f q hji h7 hq).2
  ·have h7:(setE id (.arr e sz (els++els2)) s.E).lookup j=some f:=hj;rw[look]at h7;by_cases hji:j=id
   ·simp only[hji,if_true]at hq;have hqg:g=q:=by simpa using hq
    subst hqg;exact⟨hgB.2,hlt⟩
   ·rw[if_neg hji]at h7;simp only[hji,if_false]at hq;obtain⟨h8,h9⟩:=hR.core.blk j f q h7 hq;exact⟨h8,Nat.lt_of_lt_of_le h9 hsz⟩
  ·have h7:(setE id (.arr e sz (els++els2)) s.E).lookup j=some f1:=hj;have h8:(setE id (.arr e sz (els++els2)) s.E).lookup k=some f2:=hk;rw[look]at h7 h8;by_cases hji:j=id
   ·by_cases hki:k=id
    ·omega
    ·rw[if_neg hki]at h8;simp only[hji,if_true]at q1;simp only[hki,if_false]at q2;have hqg:g=q:=by simpa using q1
     subst hqg;exact absurd rfl (hfar k f2 g hki h8 q2).1
   ·rw[if_neg hji]at h7;simp only[hji,if_false]at q1;by_cases hki:k=id
    ·simp only[hki,if_true]at q2;have hqg:g=q:=by simpa using q2
     subst hqg;exact absurd rfl (hfar j f1 g hji h7 q1).1
    ·rw[if_neg hki]at h8;simp only[hki,if_false]at q2;exact hR.core.inj _ _ _ _ _ h7 h8 q1 q2
  ·have h7:(setE id (.arr e sz (els++els2)) s.E).lookup j=some f:=hj;rw[look]at h7;by_cases hji:j=id
   ·simp only[hji,if_true]at hq;have hqg:g=q:=by simpa using hq
    subst hqg;rw[if_pos hji]at h7;injection h7 with h7;subst h7;rw[if_neg (fun hc=>by cases hc)];exact hgB.1
   ·rw[if_neg hji]at h7;simp only[hji,if_false]at hq;exact hR.own j f q h7 hq
theorem zVo{o:Oper}{s:St}{x y:Operand}{t e d id sz bytes:Nat}{z:Value}{els els2:List (List Tr)}(ho:o.op=.call {callee:=.builtin .append,args:=#[x,y],argTypes:=#[t,t]})(hd:o.dst=some d)(ht:P.underlying t=some (.slice e))
  (hi:(P.info? e).map (fun i=>(i.zero,i.size,i.bytes))=some (some z,sz,bytes)) (hzs:z.cells.size=sz) (hx:s.ev x=.ow id) (he:s.ent id=some (.arr e sz els)) (hy:zBT s (s.ev y)=some els2) (h2:∀el,el∈els2→el.length=sz) (hne:els2≠[])
  (hlen:els.length+els2.length≤1099511627776) (hby:bytes≤128):X P o s ⟨(zBx id s.T).set d (.ow id),setE id (.arr e sz (els++els2)) s.E⟩:=
 zUC ho hd ht hi hzs hx he hy h2 hne hlen (by have:=Nat.mul_le_mul hlen hby;omega)
end
section
variable {P:Program}
theorem jM{f:FuncId}{fn:Func}(hf:P.funcs[f]?=some fn)(hn:(fn.name== "runtime.NumGoroutine")=false)(hb:fn.body.isNone=false)(args:Array Value)(w:World):(callFunc f args).run P w=.ok (.enter f args) w:=by
  have h1:¬fn.name= "runtime.NumGoroutine":=by simpa using hn
  have h2:¬fn.body=none:=by intro h;rw[h]at hb;cases hb
  simp[callFunc,hf,h1,h2]
def zFh(s:St):AV→AV
 | .ow id=>match s.entc id with
  |some (.arr _ _ els)=>.c (.sl els)
  |_=>.bot
 | .pt id off=>match s.entc id with
  |some (.box cs)=>.pe (cs.drop off)
  |_=>.bot
 | .po id sz i off=>match jV s (.po id sz i off) with
  |some cs=>.pe cs
  |none=>.bot
 |av=>av
def zOs(ok:Nat→Prop)(σ:Nat→Loc)(s:St)(g:Nat):Prop:=ok g∨∃id e,s.ent id=some e∧(σ id).blk=some g
theorem zGz{ok:Nat→Prop}{σ:Nat→Loc}{s:St}{a:Act}{w:World}(h:Core ok σ s a w){av:AV}{y:Value}(hr:Rel ok σ w av y):Rel (zOs ok σ s) σ w (zFh s av) y:=by
 have hup:∀g,ok g→zOs ok σ s g:=fun g hg=>.inl hg;have same:∀{av:AV},Rel ok σ w av y→Rel (zOs ok σ s) σ w av y:=fun h=>h.mono0 hup fun _ _=>rfl;cases av with
 |ow id=>
  simp only[zFh];cases he:s.entc id with
  |none=>exact trivial
  |some e=>
   cases e with
   |box=>exact trivial
   |pbox=>exact trivial
   |parr=>exact trivial
   |mp=>exact trivial
   |qarr=>exact trivial
   |arr T sz els=>
    simp only;obtain⟨h0,hn,hs,vs,h1,h2⟩:=h.entc id _ he;have hy:y=zG (σ id):=hr;cases hb:(σ id).blk with
    |none=>
     have hz:els=[]:=by
      rcases Nat.eq_zero_or_pos els.length with h3|h3
      ·exact List.eq_nil_of_length_eq_zero h3
      ·obtain⟨g,hg⟩:=zLw h1 h3;rw[hb]at hg;cases hg
     subst hz;rw[hy];unfold zG;rw[hn];exact Rd.nl _ _
    |some g=>
     rw[hy];unfold zG;rw[hb,hn];refine Rd.sl g 0 els.length _ sz els (fun i j=>vs.getD (i*sz+j) undef) rfl ?_ (.inr (by obtain⟨f,hf,_⟩:=zCz he;exact⟨id,f,hf,hb⟩)) hs (fun i j c hc=>?_) (fun i j c hc=>?_)
     ·rcases h1.2 with⟨_,hv0⟩|⟨g2,cap,cur,hv,_,hg,hnc,_⟩
      ·omega
      ·unfold zG at hv;injection hv with _ _ h3;omega
     all_goals
      have hc2:∃el,els[i]?=some el∧el[j]?=some c:=by
       unfold at2 at hc;cases h3:els[i]? with
       |none=>rw[h3]at hc;cases hc
       |some el=>rw[h3]at hc;exact⟨el,rfl,hc⟩
      obtain⟨el,h3,h4⟩:=hc2;obtain⟨u,h5,h6⟩:=h2.get _ c (zMA els sz i j el c hs h3 h4);have h7:vs.getD (i*sz+j) undef=u:=by rw[List.getD_eq_getElem?_getD,h5];rfl
     ·rw[Nat.zero_add,h7];exact zJD h1 hb _ u h5
     ·rw[h7];exact h6.mono hup fun _ _=>rfl
 |pt id off=>
  simp only[zFh];cases he:s.entc id with
  |none=>exact trivial
  |some e=>
   cases e with
   |arr=>exact trivial
   |pbox=>exact trivial
   |parr=>exact trivial
   |mp=>exact trivial
   |qarr=>exact trivial
   |box cs=>
    simp only;obtain⟨g,o2,h1,h2⟩:=zHI h hr (cs:=cs.drop off) (by simp[jV,he]);obtain⟨g2,h3,h4⟩:=(hr:Rel1 ok σ w (.pt id off) y)
    have hgg:g2=g∧off=o2:=by rw[h4]at h1;injection h1 with h1;injection h1 with h1;injection h1 with h5 h6;exact⟨h5,h6⟩
    refine⟨g,o2,.inr (by obtain⟨f,hf,_⟩:=zCz he;exact⟨id,f,hf,by rw[←hgg.1];exact h3⟩),h1,fun j c hj=>?_⟩;obtain⟨u,h5,h6⟩:=h2 j c hj;exact⟨u,h5,h6.mono hup fun _ _=>rfl⟩
 |po id sz i off=>
  simp only[zFh];cases hm:jV s (.po id sz i off) with
  |none=>exact trivial
  |some cs=>
   simp only;obtain⟨g,o2,h1,h2⟩:=zHI h hr hm;obtain⟨g2,h3,h4⟩:=(hr:Rel1 ok σ w (.po id sz i off) y)
   have hgg:g2=g:=by rw[h4]at h1;injection h1 with h1;injection h1 with h1;injection h1 with h5 h6
   have he:∃e,s.ent id=some e:=by
    simp only[jV]at hm;cases he:s.entc id with
    |none=>rw[he]at hm;cases hm
    |some e=>obtain⟨f,hf,_⟩:=zCz he;exact⟨f,hf⟩
   obtain⟨e,he⟩:=he;refine⟨g,o2,.inr ⟨id,e,he,by rw[←hgg];exact h3⟩,h1,fun j c hj=>?_⟩;obtain⟨u,h5,h6⟩:=h2 j c hj;exact⟨u,h5,h6.mono hup fun _ _=>rfl⟩
 |tn=>exact same hr
 |tc x r=>exact same hr
 |bot=>exact same hr
 |c t=>exact same hr
 |ag cs=>exact same hr
 |pe cs=>exact same hr
 |fn f caps=>exact same hr
 |er b=>exact same hr
 |vw id els m=>exact same hr
 |sf id z i=>exact same hr
def AV.flat:AV→Bool
 | .c t=>t.flat
 | .ag cs=>cs.all Tr.flat
 | .pe _=>false
 | .fn _ _=>false
 | .vw _ _ _=>false
 | .tc x r=>x.flat&&r.flat
 |_=>true
def zKp:List (Nat×Ent)→Bool
 |[]=>true
 |(_,.arr _ _ els)::ps=>els.flatten.all Tr.flat&&zKp ps
 |(_,_)::_=>false
theorem Rel1.flat{ok ok':Nat→Prop}{σ:Nat→Loc}{w:World}{av:AV}{y:Value}(h:Rel1 ok σ w av y)(hf:av.flat=true):Rel1 ok' σ w av y:=by
 cases av with
 |c t=>exact Rd.flat h hf
 |ag cs=>obtain⟨vs,h1,h2⟩:=h;exact⟨vs,h1,h2.flat hf⟩
 |pe cs=>cases hf
 |fn f caps=>cases hf
 |vw id els m=>cases hf
 |_=>exact h
theorem RelL.flat{ok ok':Nat→Prop}{σ:Nat→Loc}{w:World}{av:AV}{ys:List Value}(h:RelL ok σ w av ys)(hf:av.flat=true):RelL ok' σ w av ys:=by
 induction av generalizing ys with
 |tn=>cases ys<;>exact h
 |tc x r _ ih=>
  cases ys with
  |nil=>exact h.elim
  |cons y ys=>simp only[AV.flat,ze]at hf;exact⟨h.1.flat hf.1,ih h.2 hf.2⟩
 |_=>cases ys<;>exact (h:False).elim
theorem Rel.flat{ok ok':Nat→Prop}{σ:Nat→Loc}{w:World}{av:AV}{y:Value}(h:Rel ok σ w av y)(hf:av.flat=true):Rel ok' σ w av y:=by
 cases av with
 |tn=>obtain⟨vs,hy,hl⟩:=h;exact⟨vs,hy,hl.flat hf⟩
 |tc x r=>obtain⟨vs,hy,hl⟩:=h;exact⟨vs,hy,hl.flat hf⟩
 |bot=>trivial
 |c t=>exact Rel1.flat (ok:=ok) (σ:=σ) (w:=w) (av:=.c t) h hf
 |ag cs=>exact Rel1.flat (ok:=ok) (σ:=σ) (w:=w) (av:=.ag cs) h hf
 |pe cs=>cases hf
 |fn f caps=>cases hf
 |er b=>exact h
 |vw id els m=>cases hf
 |ow id=>exact h
 |sf id z i=>exact h
 |pt id off=>exact h
 |po id sz i off=>exact h
theorem zNP:∀(ne:List (Nat×Ent)),zKp ne=true→∀id e,ne.lookup id=some e→∃T sz els,e=.arr T sz els∧els.flatten.all Tr.flat=true
 |[],_,id,e,h=>by simp at h
 |(k,.box cs)::ps,hf,id,e,h=>by cases hf
 |(k,.pbox l cs)::ps,hf,id,e,h=>by cases hf
 |(k,.parr l T sz els)::ps,hf,id,e,h=>by cases hf
 |(k,.mp b kvs)::ps,hf,id,e,h=>by cases hf
 |(k,.qarr l T sz els)::ps,hf,id,e,h=>by cases hf
 |(k,.arr T sz els)::ps,hf,id,e,h=>by
  simp only[zKp,ze]at hf;simp only[List.lookup]at h;split at h
  ·injection h with h;exact⟨T,sz,els,h.symm,hf.1⟩
  ·exact zNP ps hf.2 id e h
def evL(s:St):List Operand→List AV
 |[]=>[]
 |x::xs=>s.ev x::evL s xs
def evS(s:St):List Operand→List AV
 |[]=>[]
 |x::xs=>zFh s (s.ev x)::evS s xs
theorem zJK{ok:Nat→Prop}{σ:Nat→Loc}{s:St}{a:Act}{w:World}(h:Core ok σ s a w):∀(xs:List Operand),RelA ok σ w (evL s xs) (xs.map a.eval)
 |[]=>.nil
 |x::xs=>.cons (h.ev x) (zJK h xs)
theorem zTQ{ok:Nat→Prop}{σ:Nat→Loc}{s:St}{a:Act}{w:World}(h:Core ok σ s a w):∀(xs:List Operand),RelA (zOs ok σ s) σ w (evS s xs) (xs.map a.eval)
 |[]=>.nil
 |x::xs=>.cons (zGz h (h.ev x)) (zTQ h xs)
theorem zLt{o:Oper}{a:Act}{w:World}{f:FuncId}{xs:Array Operand}{ts:Array TypeId}(hc:∀args w,(callFunc f args).run P w=.ok (.enter f args) w)(ho:o.op=.call {callee:=.value (.func f),args:=xs,argTypes:=ts}){K:Act→World→Prop}{Q:Exit→Act→World→Prop}
  (h:Calls P f (xs.toList.map a.eval).toArray w (fun e w'=>∃v,e=.returned v∧K (a.put o.dst v) w')):o.wp P a w K Q:=by
 unfold Oper.wp execOp;rw[ho];have e1:xs.map a.eval=(xs.toList.map a.eval).toArray:=by apply Array.ext';rw[Array.toList_map]
 simp only[resolve,Act.eval,Deferred.ofValue,Sem.run_bind,Sem.run_pure,Result.andThen_ok,invoke,hc,e1,Array.append_empty,Array.empty_append,Oper.upon];refine Calls.mono h ?_
 rintro e w' ⟨v,rfl,hK⟩;exact hK
theorem zBz{o:Oper}{s:St}{f:FuncId}{xs:Array Operand}{ts:Array TypeId}{args:List AV}{av:AV}{ne:List (Nat×Ent)}(hS:zF P f args av ne)(hc:∀args w,(callFunc f args).run P w=.ok (.enter f args) w)
  (ho:o.op=.call {callee:=.value (.func f),args:=xs,argTypes:=ts}) (ha:evL s xs.toList=args):Y1 P o s av ne:=by
 intro ok σ a w hC K Q hK;subst ha;refine zLt hc ho (Calls.mono (hS ok σ w _ hC.okL hC.lib (zJK hC xs.toList)) ?_);rintro e w' ⟨v,ok',σ',he,hn⟩;exact⟨v,he,hK v w' ok' σ' hn⟩
theorem zVc{o:Oper}{s:St}{f:FuncId}{xs:Array Operand}{ts:Array TypeId}{args:List AV}{av:AV}{ne:List (Nat×Ent)}(hS:zF P f args av ne)(hc:∀args w,(callFunc f args).run P w=.ok (.enter f args) w)
  (ho:o.op=.call {callee:=.value (.func f),args:=xs,argTypes:=ts}) (ha:evS s xs.toList=args) (hf:av.flat=true) (hf2:zKp ne=true):Y1 P o s av ne:=by
 intro ok σ a w hC K Q hK;subst ha;have hlt:∀g,zOs ok σ s g→g<w.heap.size:=by
  rintro g (hg|⟨id,e,he,hg⟩)
  ·exact hC.okL g hg
  ·exact (hC.blk id e g he hg).2
 refine zLt hc ho (Calls.mono (hS (zOs ok σ s) σ w _ hlt (hC.lib.mono (fun _ h=>.inl h) fun _ _=>rfl) (zTQ hC xs.toList)) ?_);rintro e w' ⟨v,ok',σ',he,hn⟩;refine⟨v,he,hK v w' ok σ' ⟨hn.below,fun _ h=>h,fun _ h=>.inl h,fun g hg=>Nat.lt_of_lt_of_le (hC.okL g hg) hn.below.size,hn.rel.flat hf,hn.keys,hn.ids,fun id e hl=>?_,fun id e g hl hg=>?_,hn.inj,hn.np⟩⟩
 ·obtain⟨T,sz,els,h1,h2⟩:=zNP ne hf2 id e hl;subst h1;obtain⟨a1,a2,a3,vs,a4,a5⟩:=hn.ent id _ hl;exact⟨a1,a2,a3,vs,a4,a5.flat h2⟩
 ·obtain⟨b1,b2,b3⟩:=hn.blk id e g hl hg;exact⟨b1,fun h=>by have:=hC.okL g h;omega,b3⟩
end
inductive Res where
  |r0 (av:AV)
  |r1 (av:AV) (ne:List (Nat×Ent))
  |rb
  |r2 (id:Nat) (e:Ent)
inductive Cd where
  |z
  |a
  |b
  |r (id:Nat)
def Res.app(d:Nat):Res→St→St
 | .r0 av,s=>s.put d av
 | .r1 av ne,s=>⟨s.T.set d (av.shift d),zDC d ne++s.E⟩
 | .rb,s=>s.put d .bot
 | .r2 _ _,s=>s.put d .bot
def rmE(id:Nat):List (Nat×Ent)→List (Nat×Ent)
 |[]=>[]
 |p::ps=>bif p.1==id then rmE id ps else p::rmE id ps
def app1:Cd→Option Nat→Res→St→St
 | .a,some d,r,s=>r.app d s
 | .a,none,.r2 id e,s=>⟨s.T,setE id e s.E⟩
 | .b,some d,_,s=>s.put d .bot
 | .r id,none,_,s=>⟨s.T,rmE id s.E⟩
 | .r _,some d,_,s=>s.put d .bot
 |_,_,_,s=>s
theorem zB1(id:Nat):∀(E:List (Nat×Ent))(j:Nat),(rmE id E).lookup j=if j=id then none else E.lookup j
 |[],j=>by simp[rmE]
 |(p1,p2)::ps,j=>by
  have ih:=zB1 id ps j;simp only[rmE];cases hp:(p1==id) with
  |true=>
   simp only[cond_true,ih];by_cases h:j=id
   ·simp[h]
   ·have hne:(j==p1)=false:=by
     rw[zj];intro e;exact h (e.trans (by simpa using hp))
    simp[h,List.lookup,hne]
  |false=>
   simp only[cond_false,List.lookup];cases hq:(j==p1) with
   |true=>
    have e:j=p1:=by simpa using hq
    subst e;have:¬j=id:=by simpa using hp
    simp[this]
   |false=>simpa using ih
theorem zB0(id:Nat)(e:Ent):∀(E:List (Nat×Ent))(j:Nat),(setE id e E).lookup j=if j=id then (E.lookup id).map (fun _=>e) else E.lookup j
 |[],j=>by simp[setE]
 |(p1,p2)::ps,j=>by
  have ih:=zB0 id e ps j;simp only[setE];cases hp:(p1==id) with
  |true=>
   have e1:p1=id:=by simpa using hp
   subst e1;simp only[cond_true,List.lookup];by_cases h:j=p1
   ·subst h;simp
   ·have hne:(j==p1)=false:=by rw[zj];exact h
    simp[h,hne]
  |false=>
   have hpi:¬id=p1:=fun e2=>by subst e2;simp at hp
   have hpb:(id==p1)=false:=by rw[zj];exact hpi
   simp only[cond_false,List.lookup,hpb];cases hq:(j==p1) with
   |true=>
    have e1:j=p1:=by simpa using hq
    subst e1;have:¬j=id:=fun e2=>hpi e2.symm;simp[this]
   |false=>simpa using ih
def appC:List Cd→List Oper→List Res→St→St
 |c::cs,o::os,r::rs,s=>appC cs os rs (app1 c o.dst r s)
 |c::cs,o::os,[],s=>appC cs os [] (app1 c o.dst .rb s)
 |_,_,_,s=>s
def makes(o:Oper):Bool:=
 match o.op with
 | .alloc _=>true
 | .box _ _=>true
 | .buildSlice _ _ _=>true
 | .makeSlice _ _ _=>true
 | .call _=>true
 |_=>false
def prep:List Oper→St→St
 |[],s=>s
 |o::os,s=>bif makes o then (match o.dst with
  |some d=>prep os (s.kill d)
  |none=>prep os s) else prep os s
def zFr:List (Nat×Ent)→Bool
 |[]=>true
 |p::ps=>decide (p.1<8)&&zFr ps
structure Same (s s':St):Prop where
  T:s.T=s'.T
  ent:∀id,s.ent id=s'.ent id
theorem Same.refl(s:St):Same s s:=⟨rfl,fun _=>rfl⟩
theorem Same.symm{s s':St}(h:Same s s'):Same s' s:=⟨h.T.symm,fun id=>(h.ent id).symm⟩
theorem Same.trans{a b c:St}(h:Same a b)(k:Same b c):Same a c:=⟨h.T.trans k.T,fun id=>(h.ent id).trans (k.ent id)⟩
theorem Same.le{s s':St}(h:Same s s'):Le s s':=⟨by rw[h.T];exact Nat.le_refl _,fun t=>.inr (by unfold St.get;rw[h.T]),fun id e he=>by rw[←h.ent];exact he⟩
theorem Le.refl(s:St):Le s s:=(Same.refl s).le
theorem Le.trans{a b c:St}(h:Le a b)(k:Le b c):Le a c:=
 ⟨Nat.le_trans h.len k.len,fun t=>by
  rcases h.get t with h1|h1
  ·exact .inl h1
  ·rw[h1];rcases k.get t with h2|h2
   ·exact .inl h2
   ·exact .inr h2,fun id e he=>k.ent id e (h.ent id e he)⟩
def Res.ok(r:Res):Bool:=match r with| .r1 _ ne=>zFr ne|_=>true
theorem zSB{d:Nat}{ne:List (Nat×Ent)}(hk:zFr ne=true){id:Nat}(h:id / 8≠d):(zDC d ne).lookup id=none:=by
 cases hl:(zDC d ne).lookup id with
 |none=>rfl
 |some e=>
  obtain⟨h1,h2⟩:=zDc d ne id e hl
  exfalso
  have h3:∀(ne:List (Nat×Ent)),zFr ne=true→∀k e,ne.lookup k=some e→k<8:=by
   intro ne
   induction ne with
   |nil=>intro _ k e h;simp at h
   |cons p ps ih=>
    intro hk k e h;obtain⟨p1,p2⟩:=p;simp only[zFr,ze,decide_eq_true_eq]at hk;simp only[List.lookup]at h;split at h
    ·rename_i hkp;have:k=p1:=by simpa using hkp
     omega
    ·exact ih hk.2 k e h
  have h4:=h3 ne hk _ _ h2;omega
theorem zDq(r:Res)(d:Nat)(s:St)(hr:r.ok=true)(id:Nat)(h:id / 8≠d):(r.app d s).ent id=s.ent id:=by
 cases r with
 |r0 av=>rfl
 |rb=>rfl
 |r2 _ _=>rfl
 |r1 av ne=>unfold Res.app St.ent;simp only;rw[zDK,zSB hr h]
def Res.av(d:Nat):Res→AV
 | .r0 av=>av
 | .r1 av _=>av.shift d
 | .rb=>.bot
 | .r2 _ _=>.bot
theorem zEw(r:Res)(d:Nat)(s:St):(r.app d s).T=s.T.set d (r.av d):=by cases r<;>rfl
theorem zJ0(r:Res)(d:Nat)(s s':St)(id:Nat)(h:s.ent id=s'.ent id):(r.app d s).ent id=(r.app d s').ent id:=by
 cases r with
 |r0 av=>exact h
 |rb=>exact h
 |r2 _ _=>exact h
 |r1 av ne=>
  unfold Res.app St.ent;simp only;rw[zDK,zDK];cases (zDC d ne).lookup id with
  |some e=>rfl
  |none=>exact h
theorem zV8{r:Res}{d:Nat}{s s':St}(h:Same s s'):Same (r.app d s) (r.app d s'):=
 ⟨by rw[zEw,zEw,h.T],fun id=>zJ0 r d s s' id (h.ent id)⟩
theorem zPK{c:Cd}{d:Option Nat}{r:Res}{s s':St}(h:Same s s'):Same (app1 c d r s) (app1 c d r s'):=by
 have hl:∀id,s.E.lookup id=s'.E.lookup id:=h.ent;cases c with
 |z=>cases d<;>exact h
 |b=>
  cases d with
  |none=>exact h
  |some d=>exact⟨by simp[app1,St.put,h.T],h.ent⟩
 |r id=>
  cases d with
  |none=>exact⟨h.T,fun j=>by show (rmE id s.E).lookup j=(rmE id s'.E).lookup j;rw[zB1,zB1,hl]⟩
  |some d=>exact⟨by simp[app1,St.put,h.T],h.ent⟩
 |a=>
  cases d with
  |some d=>exact zV8 h
  |none=>
   cases r with
   |r2 id e=>exact⟨h.T,fun j=>by show (setE id e s.E).lookup j=(setE id e s'.E).lookup j;rw[zB0,zB0,hl,hl]⟩
   |r0 av=>exact h
   |r1 av ne=>exact h
   |rb=>exact h
theorem zV9{r r':Res}{d d':Nat}(hr:r.ok=true)(hr':r'.ok=true)(h:d≠d')(s:St):Same (r'.app d' (r.app d s)) (r.app d (r'.app d' s)):=by
 refine⟨by rw[zEw,zEw,zEw,zEw,List.set_comm _ _ h],fun id=>?_⟩;by_cases h1:id / 8=d
 ·have h2:id / 8≠d':=fun e=>h (h1.symm.trans e);rw[zDq r' d' _ hr' id h2];exact zJ0 r d s (r'.app d' s) id (zDq r' d' s hr' id h2).symm
 ·rw[zDq r d _ hr id h1];exact zJ0 r' d' (r.app d s) s id (zDq r d s hr id h1)
def Ind(od:Option Nat)(r:Res)(od':Option Nat)(r':Res):Prop:=
 r.ok=true∧r'.ok=true∧(match od,od' with
  |some d,some d'=>d≠d'
  |none,some d'=>∀id e,r=.r2 id e→id / 8≠d'
  |some d,none=>∀id e,r'=.r2 id e→id / 8≠d
  |none,none=>∀id e id' e',r=.r2 id e→r'=.r2 id' e'→id≠id')
theorem zSn{r:Res}{d id:Nat}{e:Ent}(hr:r.ok=true)(h:id / 8≠d)(s:St):Same (r.app d ⟨s.T,setE id e s.E⟩) ⟨(r.app d s).T,setE id e (r.app d s).E⟩:=by
 refine⟨by simp only[zEw],fun j=>?_⟩;have e1:∀j,(r.app d s).E.lookup j=(r.app d s).ent j:=fun j=>rfl;have e2:∀j,(St.mk s.T (setE id e s.E)).ent j=(setE id e s.E).lookup j:=fun j=>rfl;have e3:(St.mk (r.app d s).T (setE id e (r.app d s).E)).ent j=(setE id e (r.app d s).E).lookup j:=rfl;rw[e3,zB0,e1,e1,zDq r d s hr id h];by_cases h1:j=id
 ·subst h1;rw[zDq r d _ hr j h,if_pos rfl,e2,zB0,if_pos rfl];rfl
 ·rw[if_neg h1];exact zJ0 r d _ s j (by rw[e2,zB0,if_neg h1];rfl)
theorem zTy{c:Cd}{d d':Option Nat}{r r':Res}(hc:c=.a∨c=.z)(h:c=.a→Ind d r d' r')(s:St):Same (app1 .a d' r' (app1 c d r s)) (app1 c d r (app1 .a d' r' s)):=by
 rcases hc with rfl|rfl
 ·obtain⟨h1,h2,h3⟩:=h rfl;cases d with
  |some d=>
   cases d' with
   |some d'=>exact zV9 h1 h2 h3 s
   |none=>
    cases r' with
    |r2 id e=>exact (zSn h1 (h3 id e rfl) s).symm
    |r0 _=>exact Same.refl _
    |r1 _ _=>exact Same.refl _
    |rb=>exact Same.refl _
  |none=>
   cases d' with
   |some d'=>
    cases r with
    |r2 id e=>exact zSn h2 (h3 id e rfl) s
    |r0 _=>exact Same.refl _
    |r1 _ _=>exact Same.refl _
    |rb=>exact Same.refl _
   |none=>
    cases r with
    |r0 _=>exact Same.refl _
    |r1 _ _=>exact Same.refl _
    |rb=>exact Same.refl _
    |r2 id e=>
     cases r' with
     |r0 _=>exact Same.refl _
     |r1 _ _=>exact Same.refl _
     |rb=>exact Same.refl _
     |r2 id' e'=>
      have hne:=h3 id e id' e' rfl rfl;refine⟨rfl,fun j=>?_⟩;show (setE id' e' (setE id e s.E)).lookup j=(setE id e (setE id' e' s.E)).lookup j;simp only[zB0];by_cases h5:j=id'
      ·subst h5;have:¬j=id:=fun x=>hne x.symm;simp[this]
      ·by_cases h6:j=id
       ·subst h6;simp[h5]
       ·simp[h5,h6]
 ·cases d<;>exact Same.refl _
theorem zK8:∀(cs:List Cd)(l:List Oper)(rs:List Res){s s':St},Same s s'→Same (appC cs l rs s) (appC cs l rs s')
 |[],_,_,_,_,h=>h
 |_::_,[],_,_,_,h=>h
 |c::cs,o::os,[],_,_,h=>zK8 cs os [] (zPK h)
 |c::cs,o::os,r::rs,_,_,h=>zK8 cs os rs (zPK h)
theorem zPJ:∀(cs:List Cd)(l:List Oper)(rs:List Res)(s:St)(r':Res)(d':Option Nat),rs.length=l.length→(∀c,c∈cs→c=.a∨c=.z)→(∀(j:Nat) o r,l[j]?=some o→rs[j]?=some r→cs[j]?=some .a→Ind o.dst r d' r')→Same (app1 .a d' r' (appC cs l rs s)) (appC cs l rs (app1 .a d' r' s))
 |[],_,_,s,_,_,_,_,_=>Same.refl _
 |_::_,[],_,s,_,_,_,_,_=>Same.refl _
 |c::cs,o::os,[],s,r',d',h1,h2,h3=>by simp at h1
 |c::cs,o::os,r::rs,s,r',d',h1,h2,h3=>(zPJ cs os rs _ r' d' (by simpa using h1) (fun x hx=>h2 x (by simp[hx])) fun j p q hp hq hc=>h3 (j+1) p q (by simpa using hp) (by simpa using hq) (by simpa using hc)).trans (zK8 cs os rs (zTy (h2 c (by simp)) (fun hc=>h3 0 o r rfl rfl (by rw[hc];rfl)) s))
def done(L:Nat→Bool):Nat→List Oper→List Cd
 |_,[]=>[]
 |k,_::os=>(bif L k then .a else .z)::done L (k+1) os
theorem zEr{L L':Nat→Bool}:∀(k:Nat)(l:List Oper),(∀j,k≤j→j<k+l.length→L j=L' j)→done L k l=done L' k l
 |_,[],_=>rfl
 |k,o::os,h=>by simp only[done];rw[h k (Nat.le_refl _) (by simp),zEr (k+1) os fun j h1 h2=>h j (by omega) (by simp;omega)]
theorem zMC(L:Nat→Bool):∀(l:List Oper)(k j:Nat) c,(done L k l)[j]?=some c→c=(bif L (k+j) then .a else .z)∧j<l.length
 |[],k,j,c,h=>by simp[done]at h
 |o::os,k,0,c,h=>by simp[done]at h;subst h;exact⟨rfl,by simp⟩
 |o::os,k,j+1,c,h=>by obtain⟨h1,h2⟩:=zMC L os (k+1) j c (by simpa [done] using h);rw[show k+1+j=k+(j+1) by omega]at h1;exact⟨h1,by simp;omega⟩
theorem zTX(L:Nat→Bool):∀(k:Nat)(l:List Oper)(c:Cd),c∈done L k l→c=.a∨c=.z
 |_,[],c,h=>by cases h
 |k,_::os,c,h=>by
  simp only[done,List.mem_cons]at h;rcases h with h|h
  ·cases hL:L k with
   |true=>rw[hL]at h;exact .inl h
   |false=>rw[hL]at h;exact .inr h
  ·exact zTX L (k+1) os c h
theorem zPF{L L':Nat→Bool}(i:Nat)(hi:L i=false)(hi':L' i=true)(hL:∀j,j≠i→L' j=L j):∀(l:List Oper)(k:Nat)(rs:List Res)(s:St)(o:Oper)(r:Res),l[i - k]?=some o→k≤i→rs[i - k]?=some r→rs.length=l.length→
  (∀(j:Nat) p q,l[j]?=some p→rs[j]?=some q→i - k<j→L' (k+j)=true→Ind p.dst q o.dst r)→Same (app1 .a o.dst r (appC (done L k l) l rs s)) (appC (done L' k l) l rs s)
 |[],k,rs,s,o,r,h,_,_,_,_=>by simp at h
 |p::os,k,[],s,o,r,h,hk,hr,hlen,hind=>by simp at hr
 |p::os,k,q::qs,s,o,r,h,hk,hr,hlen,hind=>by
  by_cases hik:i=k
  ·subst hik;simp at h hr;subst h hr;simp only[done,hi,hi',appC,cond_false,cond_true];have e:done L (i+1) os=done L' (i+1) os:=zEr _ _ fun j h1 _=>(hL j (by omega)).symm;rw[e];have e3:app1 .z p.dst q s=s:=by cases p.dst<;>rfl
   rw[e3];exact zPJ _ os qs s q p.dst (by simpa using hlen) (zTX L' (i+1) os) fun j x y hx hy hc=>hind (j+1) x y (by simpa using hx) (by simpa using hy) (by omega) (by
    obtain⟨h1,_⟩:=zMC L' os (i+1) j _ hc;rw[show i+1+j=i+(j+1) by omega]at h1;cases h2:L' (i+(j+1)) with
    |true=>rfl
    |false=>rw[h2]at h1;cases h1)
  ·have e1:i - k=(i - (k+1))+1:=by omega
   rw[e1]at h hr;simp only[done,appC];rw[hL k (fun e=>hik e.symm)];exact zPF i hi hi' hL os (k+1) qs _ o r (by simpa using h) (by omega) (by simpa using hr) (by simpa using hlen) fun j x y hx hy hj hLj=>hind (j+1) x y (by simpa using hx) (by simpa using hy) (by omega) (by rw[show k+(j+1)=k+1+j by omega];exact hLj)
def Res.makes:Res→Bool
 | .r1 _ _=>true
 |_=>false
def OkR(l:List Oper)(rs:List Res):Prop:=∀(j:Nat) o r,l[j]?=some o→rs[j]?=some r→r.ok=true∧(r.makes=true→Go.Proofs.YtdedjieegpkabaaGreat.makes o=true)
theorem zR9(c:Cd)(d:Option Nat)(r:Res)(s:St):(app1 c d r s).T.length=s.T.length:=by cases c<;>cases d<;>cases r<;>simp[app1,zEw,St.put]
theorem zX8{s s':St}(h:Le s s')(d:Nat)(av:AV)(hl:s.T.length=s'.T.length):Le (s.put d av) (s'.put d av):=by
 refine⟨by simp[St.put,hl],fun t=>?_,h.ent⟩;rw[zBf,zBf,hl];by_cases hd:d=t∧d<s'.T.length
 ·simp only[if_pos hd];exact .inr trivial
 ·simp only[if_neg hd];exact h.get t
theorem zV6{s s':St}(h:Le s s')(d:Nat)(T:List AV)(hT:∃av,T=s'.T.set d av)(hl:s.T.length=s'.T.length)(E:List (Nat×Ent))(hE:∀id e,s.ent id=some e→E.lookup id=some e):Le (s.put d .bot) ⟨T,E⟩:=by
 obtain⟨av,rfl⟩:=hT;refine⟨by simp[St.put,hl],fun t=>?_,hE⟩;have h2:=zBf s' d t av;unfold St.put at h2;rw[zBf];by_cases hd:d=t∧d<s.T.length
 ·rw[if_pos hd];exact .inl rfl
 ·rw[if_neg hd];rcases h.get t with h1|h1
  ·exact .inl h1
  ·refine .inr ?_
   rw[h1];have h3:St.get ⟨s'.T.set d av,E⟩ t=St.get ⟨s'.T.set d av,s'.E⟩ t:=rfl;rw[h3,h2,if_neg (by rw[←hl];exact hd)]
def zNt(l:List Oper)(s:St):Prop:=∀(j:Nat) o d,l[j]?=some o→o.dst=some d→makes o=true→∀id,id / 8=d→s.ent id=none
def Dist(l:List Oper):Prop:=∀(i j:Nat) o p d,l[i]?=some o→l[j]?=some p→o.dst=some d→p.dst=some d→i=j
theorem Dist.tail{o:Oper}{l:List Oper}(h:Dist (o::l)):Dist l:=fun i j p q d hp hq h1 h2=>by have:=h (i+1) (j+1) p q d (by simpa using hp) (by simpa using hq) h1 h2;omega
theorem zNt.tail{o:Oper}{l:List Oper}{s:St}(h:zNt (o::l) s):zNt l s:=fun j p d hp=>h (j+1) p d (by simpa using hp)
theorem OkR.tail{o:Oper}{l:List Oper}{r:Res}{rs:List Res}(h:OkR (o::l) (r::rs)):OkR l rs:=fun j p q hp hq=>h (j+1) p q (by simpa using hp) (by simpa using hq)
theorem zKr{r:Res}{d:Nat}{s:St}{id:Nat}{e:Ent}(hr:r.ok=true)(hm:r.makes=true→id / 8≠d)(h:s.ent id=some e):(r.app d s).ent id=some e:=by
 cases r with
 |r0 av=>exact h
 |rb=>exact h
 |r2 _ _=>exact h
 |r1 av ne=>rw[zDq _ _ _ hr _ (hm rfl)];exact h
theorem zNt.step{o:Oper}{l:List Oper}{s:St}(h:zNt (o::l) s)(hd:Dist (o::l))(c:Cd)(r:Res)(hr:r.ok=true):zNt l (app1 c o.dst r s):=by
 intro j p d hp hpd hm id hid;have h1:=h.tail j p d hp hpd hm id hid;have h1':s.E.lookup id=none:=h1;cases hod:o.dst with
 |none=>
  cases c with
  |z=>exact h1
  |b=>exact h1
  |r id2=>show (rmE id2 s.E).lookup id=none;rw[zB1,h1'];split<;>rfl
  |a=>
   cases r with
   |r0 _=>exact h1
   |r1 _ _=>exact h1
   |rb=>exact h1
   |r2 id2 e=>
    show (setE id2 e s.E).lookup id=none;rw[zB0];by_cases he:id=id2
    ·subst he;rw[if_pos rfl,h1'];rfl
    ·rw[if_neg he,h1']
 |some d2=>
  have hne:d2≠d:=fun e=>by have:=hd 0 (j+1) o p d rfl (by simpa using hp) (by rw[hod,e]) hpd;omega
  cases c with
  |z=>exact h1
  |b=>exact h1
  |r id2=>exact h1
  |a=>show (r.app d2 s).ent id=none;rw[zDq r d2 s hr id (by rw[hid];exact fun e=>hne e.symm)];exact h1
theorem zT4(L:Nat→Bool):∀(l:List Oper)(cs:List Cd)(k:Nat)(rs:List Res)(s s':St),Le s s'→s.T.length=s'.T.length→zNt l s→Dist l→OkR l rs→rs.length=l.length→cs.length=l.length→
  (∀(j:Nat) c o r,cs[j]?=some c→l[j]?=some o→rs[j]?=some r→match c with| .a=>L (k+j)=true| .z=>L (k+j)=false| .b=>o.dst=none→∀id e,r≠.r2 id e| .r id=>∀id2 e,r=.r2 id2 e→id2=id)→Le (appC cs l rs s) (appC (done L k l) l rs s')
 |[],cs,k,rs,s,s',h,_,_,_,_,_,hcl,_=>by
  cases cs with
  |nil=>exact h
  |cons c cs=>simp at hcl
 |o::os,[],k,rs,s,s',h,_,_,_,_,_,hcl,_=>by simp at hcl
 |o::os,c::cs,k,[],s,s',h,_,_,_,_,hrl,_,_=>by simp at hrl
 |o::os,c::cs,k,r::rs,s,s',h,hl,hc,hd,hok,hrl,hcl,hcs=>by
  have h0:=hcs 0 c o r rfl rfl rfl;have hr:=(hok 0 o r rfl rfl)
  simp only[appC,done];refine zT4 L os cs (k+1) rs _ _ ?_ (by rw[zR9,zR9];exact hl) (hc.step hd c r hr.1) hd.tail hok.tail (by simpa using hrl) (by simpa using hcl) fun j c2 o2 r2 hj ho2 hr2=>by have:=hcs (j+1) c2 o2 r2 (by simpa using hj) (by simpa using ho2) (by simpa using hr2);rw[show k+1+j=k+(j+1) by omega];exact this
  cases hod:o.dst with
  |none=>
   have hle:∀id e,s.E.lookup id=some e→s'.E.lookup id=some e:=h.ent;by_cases hw:∃id e,r=.r2 id e
   ·obtain⟨id2,e2,rfl⟩:=hw;have right:∀b:Bool,Le ⟨s.T,rmE id2 s.E⟩ (app1 (bif b then .a else .z) none (.r2 id2 e2) s'):=fun b=>by
     refine⟨by cases b<;>exact h.len,fun t=>by cases b<;>exact h.get t,fun id e he=>?_⟩;have he':(rmE id2 s.E).lookup id=some e:=he;rw[zB1]at he';split at he'
     ·cases he'
     ·rename_i hne;cases b with
      |false=>exact hle id e he'
      |true=>show (setE id2 e2 s'.E).lookup id=some e;rw[zB0,if_neg hne];exact hle id e he'
    cases c with
    |z=>have h1:L k=false:=h0;rw[h1];exact h
    |b=>exact absurd rfl (h0 hod id2 e2)
    |r id3=>have h3:id2=id3:=h0 id2 e2 rfl;subst h3;exact right (L k)
    |a=>
     have h1:L k=true:=h0;rw[h1];refine⟨h.len,h.get,fun id e he=>?_⟩;have he':(setE id2 e2 s.E).lookup id=some e:=he;show (setE id2 e2 s'.E).lookup id=some e;rw[zB0]at he' ⊢;by_cases hne:id=id2
     ·rw[if_pos hne]at he' ⊢;cases h5:s.E.lookup id2 with
      |none=>rw[h5]at he';cases he'
      |some x=>rw[h5]at he';rw[hle _ _ h5];exact he'
     ·rw[if_neg hne]at he' ⊢;exact hle id e he'
   ·have e0:∀(c:Cd),(∀id,c≠.r id)→∀s,app1 c none r s=s:=fun c hc s=>by
     cases c with
     |z=>rfl
     |b=>rfl
     |r id=>exact absurd rfl (hc id)
     |a=>
      cases r with
      |r0 _=>rfl
      |r1 _ _=>rfl
      |rb=>rfl
      |r2 id e=>exact absurd ⟨id,e,rfl⟩ hw
    rw[e0 (bif L k then .a else .z) (fun id=>by cases L k<;>(intro h;cases h))];cases c with
    |r id2=>
     refine⟨h.len,h.get,fun id e he=>?_⟩;have he':(rmE id2 s.E).lookup id=some e:=he;rw[zB1]at he';split at he'
     ·cases he'
     ·exact hle id e he'
    |z=>rw[e0 .z (fun id h=>by cases h)];exact h
    |b=>rw[e0 .b (fun id h=>by cases h)];exact h
    |a=>rw[e0 .a (fun id h=>by cases h)];exact h
  |some d=>
   have hclean:∀id e,s.ent id=some e→r.makes=true→id / 8≠d:=fun id e he hm hid=>by have:=hc 0 o d rfl hod (hr.2 hm) id hid;rw[this]at he;cases he
   cases c with
   |z=>have h1:L k=false:=h0;rw[h1];exact h
   |a=>
    have h1:L k=true:=h0;rw[h1];refine⟨?_,fun t=>?_,fun id e he=>?_⟩
    ·show (r.app d s).T.length≤(r.app d s').T.length;rw[zEw,zEw];simp[hl]
    ·have h2:=(zX8 h d (r.av d) hl).get t;show (r.app d s).get t=.bot∨(r.app d s).get t=(r.app d s').get t;unfold St.get at h2 ⊢;rw[zEw,zEw];exact h2
    ·show (r.app d s').ent id=some e;have h3:(r.app d s).ent id=some e:=he;by_cases hid:id / 8=d
     ·cases r with
      |r0 av=>exact h.ent id e h3
      |rb=>exact h.ent id e h3
      |r2 _ _=>exact h.ent id e h3
      |r1 av ne=>
       unfold Res.app St.ent at h3 ⊢;simp only at h3 ⊢;rw[zDK]at h3 ⊢;cases hl2:(zDC d ne).lookup id with
       |some e2=>rw[hl2]at h3;exact h3
       |none=>rw[hl2]at h3;exact h.ent id e h3
     ·rw[zDq r d s hr.1 id hid]at h3;rw[zDq r d s' hr.1 id hid];exact h.ent id e h3
   |b=>
    cases hLk:L k with
    |false=>
     refine⟨by simp[app1,St.put,hl],fun t=>?_,h.ent⟩;show (s.put d .bot).get t=.bot∨(s.put d .bot).get t=s'.get t;rw[zBf];by_cases hdt:d=t∧d<s.T.length
     ·rw[if_pos hdt];exact .inl rfl
     ·rw[if_neg hdt];exact h.get t
    |true=>have h4:=zV6 h d (r.app d s').T ⟨_,zEw r d s'⟩ hl (r.app d s').E fun id e he=>zKr hr.1 (hclean id e he) (h.ent id e he);exact h4
   |r id2=>
    cases hLk:L k with
    |false=>
     refine⟨by simp[app1,St.put,hl],fun t=>?_,h.ent⟩;show (s.put d .bot).get t=.bot∨(s.put d .bot).get t=s'.get t;rw[zBf];by_cases hdt:d=t∧d<s.T.length
     ·rw[if_pos hdt];exact .inl rfl
     ·rw[if_neg hdt];exact h.get t
    |true=>have h4:=zV6 h d (r.app d s').T ⟨_,zEw r d s'⟩ hl (r.app d s').E fun id e he=>zKr hr.1 (hclean id e he) (h.ent id e he);exact h4
theorem R.drew{B:Fr}{w0:World}{ok0 ok:Nat→Prop}{σ:Nat→Loc}{s:St}{a:Act}{w:World}(h:R B w0 ok0 ok σ s a w):R B w0 ok0 ok σ s a {w with drawn:=w.drawn+1}:=by
 have hw:∀g,ok g→({w with drawn:=w.drawn+1}:World).heap[g]?=w.heap[g]?:=fun _ _=>rfl
 exact⟨⟨h.core.len,h.core.okL,h.core.lib.mono (fun _ h=>h) hw,fun t=>(h.core.tmp t).mono0 (fun _ h=>h) hw,fun id e he=>(h.core.ent id e he).mono (fun _ h=>h) hw fun _ _=>rfl,h.core.blk,h.core.inj⟩,h.defers,h.below.drew,h.base,h.old,h.fresh,h.own⟩
theorem R.add{B:Fr}{w0:World}{ok0 ok ok':Nat→Prop}{σ σ':Nat→Loc}{s:St}{a:Act}{w w':World}(h:R B w0 ok0 ok σ s a w){d:Nat}{av:AV}{ne:List (Nat×Ent)}{v:Value}(hn:New w w' ok ok' σ' av ne v)
  (hm:∀t,(s.get t).ment d=false) (he:∀id,id / 8=d→s.ent id=none):
  ∃σ2,R B w0 ok0 ok' σ2 ((Res.r1 av ne).app d s) (a.put (some d) v) w':=by
 refine⟨_,(h.upd hn (d:=d)).le ⟨?_,fun t=>?_,fun id e hh=>?_⟩⟩
 ·simp[Res.app,St.upd,zCx]
 ·refine .inr ?_
  have e1:=zBf s d t (av.shift d);have e2:=zBf (s.kill d) d t (av.shift d);unfold St.put St.get at e1;unfold St.put St.kill St.get at e2;simp only[zCx,zEc]at e2;unfold Res.app St.upd St.get;simp only;rw[e1,e2];have h2:=hm t;unfold St.get at h2;rw[h2];rfl
 ·have h1:(zDC d ne++s.E).lookup id=some e:=hh;show (zDC d ne++zJG d s.E).lookup id=some e;rw[zDK]at h1 ⊢;cases hl:(zDC d ne).lookup id with
  |some e2=>rw[hl]at h1;exact h1
  |none=>
   rw[hl]at h1;simp only at h1 ⊢;rw[zD1];have h3:s.ent id=some e:=h1;by_cases hid:id / 8=d
   ·rw[he id hid]at h3;cases h3
   ·rw[if_neg hid];exact h1
def zKn(ms:List Nat):List Edge→Nat
 |[]=>0
 |e::es=>bif Region.binds .any e then (2 ^e.on|||ms.getD e.on 0)|||zKn ms es else zKn ms es
theorem zH9(ms:List Nat)(k:Nat):∀(es:List Edge),(zKn ms es).testBit k=true→∃e,e∈es∧Region.binds .any e=true∧(e.on=k∨(ms.getD e.on 0).testBit k=true)
 |[],h=>by simp[zKn]at h
 |e::es,h=>by
  simp only[zKn]at h;cases hb:Region.binds .any e with
  |true=>
   rw[hb]at h;simp only[cond_true,Nat.testBit_or,Bool.or_eq_true,Nat.testBit_two_pow,decide_eq_true_eq]at h;rcases h with (h|h)|h
   ·exact⟨e,by simp,hb,.inl h⟩
   ·exact⟨e,by simp,hb,.inr h⟩
   ·obtain⟨f,h1,h2⟩:=zH9 ms k es h;exact⟨f,by simp[h1],h2⟩
  |false=>rw[hb]at h;obtain⟨f,h1,h2⟩:=zH9 ms k es h;exact⟨f,by simp[h1],h2⟩
def lowE(i:Nat):List Edge→Bool
 |[]=>true
 |e::es=>(!Region.binds .any e||decide (e.on<i))&&lowE i es
theorem zQA(i:Nat):∀(es:List Edge),lowE i es=true→∀e,e∈es→Region.binds .any e=true→e.on<i
 |[],_,e,h,_=>by cases h
 |f::es,h,e,he,hb=>by
  simp only[lowE,ze,Bool.or_eq_true,Bool.not_eq_true',decide_eq_true_eq]at h;cases he with
  |head=>
   rcases h.1 with h1|h1
   ·rw[h1]at hb;cases hb
   ·exact h1
  |tail _ he=>exact zQA i es h.2 e he hb
def zHS(m:Nat):Nat→Bool
 |0=>true
 |k+1=>m.testBit k&&zHS m k
theorem zG1(m:Nat):∀(n k:Nat),zHS m n=true→k<n→m.testBit k=true
 |0,_,_,h=>by omega
 |n+1,k,h,hk=>by
  simp only[zHS,ze]at h;rcases Nat.lt_or_ge k n with h1|h1
  ·exact zG1 m n k h.2 h1
  ·have:k=n:=by omega
   rw[this];exact h.1
def chk1(ms:List Nat)(n1:Nat):Nat→List Oper→Bool
 |_,[]=>true
 |i,o::os=>(ms.getD i 0==zKn ms o.after.toList)&&(lowE i o.after.toList&&((decide (i<n1)||zHS (ms.getD i 0) i)&&chk1 ms n1 (i+1) os))
theorem zHd(ms:List Nat)(n1:Nat):∀(l:List Oper)(i:Nat),chk1 ms n1 i l=true→∀(j:Nat) o,l[j]?=some o→ms.getD (i+j) 0=zKn ms o.after.toList∧lowE (i+j) o.after.toList=true∧(i+j<n1∨zHS (ms.getD (i+j) 0) (i+j)=true)
 |[],_,_,j,o,h=>by simp at h
 |p::os,i,h,j,o,hj=>by
  simp only[chk1,ze,beq_iff_eq,Bool.or_eq_true,decide_eq_true_eq]at h;cases j with
  |zero=>simp at hj;subst hj;exact⟨h.1,h.2.1,h.2.2.1⟩
  |succ j=>have:=zHd ms n1 os (i+1) h.2.2.2 j o (by simpa using hj);rw[show i+1+j=i+(j+1) by omega]at this;exact this
def dsts:List Oper→List Nat
 |[]=>[]
 |o::os=>match o.dst with
  |some d=>d::dsts os
  |none=>dsts os
theorem zNW:∀(l:List Oper)(j:Nat) o d,l[j]?=some o→o.dst=some d→d∈dsts l
 |[],j,o,d,h,_=>by simp at h
 |p::os,0,o,d,h,hd=>by simp at h;subst h;simp only[dsts,hd];exact List.mem_cons_self
 |p::os,j+1,o,d,h,hd=>by
  have ih:=zNW os j o d (by simpa using h) hd;simp only[dsts];cases p.dst with
  |none=>exact ih
  |some x=>exact List.mem_cons_of_mem _ ih
theorem zPD:∀(l:List Oper),zCd (dsts l)=true→Dist l
 |[],_=>fun i j o p d h=>by simp at h
 |o::os,h=>by
  have htl:zCd (dsts os)=true∧∀d,o.dst=some d→d∉dsts os:=by
   simp only[dsts]at h;cases hd:o.dst with
   |none=>rw[hd]at h;exact⟨h,fun d hd=>by cases hd⟩
   |some d=>rw[hd]at h;simp only[zCd,ze,Bool.not_eq_true',List.contains_eq_mem,decide_eq_false_iff_not]at h;exact⟨h.2,fun x hx=>by injection hx with hx;subst hx;exact h.1⟩
  have ih:=zPD os htl.1;intro i j p q x hp hq hpx hqx;cases i with
  |zero=>
   cases j with
   |zero=>rfl
   |succ j=>simp at hp;subst hp;exact absurd (zNW os j q x (by simpa using hq) hqx) (htl.2 x hpx)
  |succ i=>
   cases j with
   |zero=>simp at hq;subst hq;exact absurd (zNW os i p x (by simpa using hp) hpx) (htl.2 x hqx)
   |succ j=>have:=ih i j p q x (by simpa using hp) (by simpa using hq) hpx hqx;omega
def chkC(ms:List Nat)(i:Nat):Nat→List Cd→Bool
 |_,[]=>true
 |j,.a::cs=>(ms.getD i 0).testBit j&&chkC ms i (j+1) cs
 |j,.z::cs=>(j==i||(ms.getD j 0).testBit i)&&chkC ms i (j+1) cs
 |j,.b::cs=>chkC ms i (j+1) cs
 |j,.r _::cs=>chkC ms i (j+1) cs
theorem zQQ(ms:List Nat)(i:Nat):∀(cs:List Cd)(k:Nat),chkC ms i k cs=true→∀(j:Nat) c,cs[j]?=some c→match c with| .a=>(ms.getD i 0).testBit (k+j)=true| .z=>k+j=i∨(ms.getD (k+j) 0).testBit i=true|_=>True
 |[],k,_,j,c,h=>by simp at h
 |x::cs,k,h,j,c,hj=>by
  have htl:chkC ms i (k+1) cs=true:=by
   cases x with
   |a=>simp only[chkC,ze]at h;exact h.2
   |z=>simp only[chkC,ze]at h;exact h.2
   |b=>exact h
   |r id=>exact h
  cases j with
  |zero=>
   simp at hj;subst hj;cases x with
   |a=>simp only[chkC,ze]at h;exact h.1
   |z=>simp only[chkC,ze,Bool.or_eq_true,beq_iff_eq]at h;exact h.1
   |b=>trivial
   |r id=>trivial
  |succ j=>have:=zQQ ms i cs (k+1) htl j c (by simpa using hj);rw[show k+1+j=k+(j+1) by omega]at this;exact this
def chk2(ms:List Nat)(n1:Nat):Nat→List (List Cd)→Bool
 |_,[]=>true
 |i,cs::css=>(cs.length==n1)&&(chkC ms i 0 cs&&chk2 ms n1 (i+1) css)
theorem zQR(ms:List Nat)(n1:Nat):∀(css:List (List Cd))(i:Nat),chk2 ms n1 i css=true→∀(j:Nat) cs,css[j]?=some cs→cs.length=n1∧chkC ms (i+j) 0 cs=true
 |[],_,_,j,cs,h=>by simp at h
 |x::css,i,h,j,cs,hj=>by
  simp only[chk2,ze,beq_iff_eq]at h;cases j with
  |zero=>simp at hj;subst hj;exact⟨h.1,h.2.1⟩
  |succ j=>have:=zQR ms n1 css (i+1) h.2.2 j cs (by simpa using hj);rw[show i+1+j=i+(j+1) by omega]at this;exact this
def zGT(l:List Oper)(ms:List Nat)(n1:Nat)(css:List (List Cd)):Bool:=
 chk1 ms n1 0 l&&(decide (n1≤l.length)&&((css.length==n1)&&(chk2 ms n1 0 css&&zCd (dsts (l.take n1)))))
def zJN(j id:Nat):List (List Cd)→Bool
 |[]=>true
 |cs::css=>(match cs[j]? with
  |some .a=>true
  |some .z=>true
  |some (.r id2)=>id2==id
  |_=>false)&&zJN j id css
theorem zR0(j id:Nat):∀(css:List (List Cd)),zJN j id css=true→∀cs,cs∈css→cs[j]?=some .a∨cs[j]?=some .z∨cs[j]?=some (.r id)
 |[],_,cs,h=>by cases h
 |c::css,h,cs,hm=>by
  simp only[zJN,ze]at h;cases hm with
  |head=>
   have h1:=h.1;cases hc:c[j]? with
   |none=>rw[hc]at h1;cases h1
   |some x=>
    rw[hc]at h1;cases x with
    |a=>exact .inl rfl
    |z=>exact .inr (.inl rfl)
    |b=>cases h1
    |r id2=>(have:id2=id:=by simpa using h1);subst this;exact .inr (.inr rfl)
  |tail _ hm=>exact zR0 j id css h.2 cs hm
def mkOk(ms:List Nat)(j id:Nat):Nat→List Oper→Bool
 |_,[]=>true
 |i,o::os=>(match o.dst with|some d=>!(id / 8==d)||(ms.getD j 0).testBit i|none=>true)&&mkOk ms j id (i+1) os
theorem zPx(ms:List Nat)(j id:Nat):∀(l:List Oper)(k:Nat),mkOk ms j id k l=true→∀(i:Nat) o d,l[i]?=some o→o.dst=some d→id / 8≠d∨(ms.getD j 0).testBit (k+i)=true
 |[],k,_,i,o,d,h,_=>by simp at h
 |p::os,k,h,i,o,d,hj,hd=>by
  simp only[mkOk,ze]at h;cases i with
  |zero=>simp at hj;subst hj;have:=h.1;rw[hd]at this;simp only[Bool.or_eq_true,Bool.not_eq_true',zj]at this;exact this
  |succ i=>have:=zPx ms j id os (k+1) h.2 i o d (by simpa using hj) hd;rw[show k+1+i=k+(i+1) by omega]at this;exact this
def zEo(ms:List Nat)(j:Nat)(av:AV):Nat→List Oper→Bool
 |_,[]=>true
 |i,o::os=>(!makes o||((ms.getD j 0).testBit i||(match o.dst with|some d=>!av.ment d|none=>true)))&&zEo ms j av (i+1) os
theorem zOu(ms:List Nat)(j:Nat)(av:AV):∀(l:List Oper)(k:Nat),zEo ms j av k l=true→∀(i:Nat) o d,l[i]?=some o→makes o=true→o.dst=some d→(ms.getD j 0).testBit (k+i)=true∨av.ment d=false
 |[],_,_,i,o,d,h,_,_=>by simp at h
 |p::os,k,h,i,o,d,hi,hm,hd=>by
  simp only[zEo,ze,Bool.or_eq_true,Bool.not_eq_true']at h;cases i with
  |zero=>
   simp at hi;subst hi;rw[hd]at h;rcases h.1 with h1|h1|h1
   ·rw[hm]at h1;cases h1
   ·exact .inl h1
   ·exact .inr (by simpa using h1)
  |succ i=>have:=zOu ms j av os (k+1) h.2 i o d (by simpa using hi) hm hd;rw[show k+1+i=k+(i+1) by omega]at this;exact this
theorem zJC:∀(l:List Oper)(s:St),Le (prep l s) s∧(prep l s).T.length=s.T.length
 |[],s=>⟨Le.refl s,rfl⟩
 |o::os,s=>by
  have kill_le:∀d,Le (s.kill d) s∧(s.kill d).T.length=s.T.length:=fun d=>⟨⟨by simp[St.kill,zCx],fun t=>by
   unfold St.kill St.get;simp only[zEc];cases ((s.T[t]?).getD .bot).ment d with
   |true=>exact .inl rfl
   |false=>exact .inr rfl,fun id e he=>by
   unfold St.kill St.ent at he;simp only[zD1]at he;split at he
   ·cases he
   ·exact he⟩,by simp[St.kill,zCx]⟩
  simp only[prep];cases makes o with
  |false=>exact zJC os s
  |true=>
   cases o.dst with
   |none=>exact zJC os s
   |some d=>obtain⟨h1,h2⟩:=zJC os (s.kill d);exact⟨h1.trans (kill_le d).1,h2.trans (kill_le d).2⟩
theorem zLv:∀(l:List Oper)(s:St)(j:Nat)(o:Oper)(d:Nat),l[j]?=some o→o.dst=some d→makes o=true→(∀t,((prep l s).get t).ment d=false)∧∀id,id / 8=d→(prep l s).ent id=none
 |[],s,j,o,d,h,_,_=>by simp at h
 |p::os,s,j,o,d,hj,hd,hm=>by
  simp only[prep];cases j with
  |succ j=>
   cases makes p with
   |false=>exact zLv os s j o d (by simpa using hj) hd hm
   |true=>
    cases p.dst with
    |none=>exact zLv os s j o d (by simpa using hj) hd hm
    |some d2=>exact zLv os _ j o d (by simpa using hj) hd hm
  |zero=>
   simp at hj;subst hj;rw[hm,hd];simp only[cond_true];have h1:=(zJC os (s.kill d)).1;refine⟨fun t=>?_,fun id hid=>?_⟩
   ·rcases h1.get t with h2|h2
    ·rw[h2];rfl
    ·rw[h2];unfold St.kill St.get;simp only[zEc];exact zSR d _
   ·cases h2:(prep os (s.kill d)).ent id with
    |none=>rfl
    |some e=>have h3:=h1.ent id e h2;unfold St.kill St.ent at h3;simp only[zD1]at h3;rw[if_pos hid]at h3;cases h3
theorem zNh{p:AV→Prop}(hb:p .bot):∀(cs:List Cd)(l:List Oper)(rs:List Res)(s:St),(∀t,p (s.get t))→(∀(j:Nat) o r d,cs[j]?=some .a→l[j]?=some o→rs[j]?=some r→o.dst=some d→p (r.av d))→∀t,p ((appC cs l rs s).get t)
 |[],_,_,s,h,_,t=>h t
 |_::_,[],_,s,h,_,t=>h t
 |c::cs,o::os,rs,s,h,hr,t=>by
  have step:∀(r:Res)(hrr:∀d,c=.a→o.dst=some d→p (r.av d)) t,p ((app1 c o.dst r s).get t):=by
   intro r hrr t;cases hod:o.dst with
   |none=>
    cases c with
    |z=>exact h t
    |b=>exact h t
    |r id=>exact h t
    |a=>cases r<;>exact h t
   |some d=>
    cases c with
    |z=>exact h t
    |r id=>
     show p ((s.put d .bot).get t);rw[zBf];split
     ·exact hb
     ·exact h t
    |b=>
     show p ((s.put d .bot).get t);rw[zBf];split
     ·exact hb
     ·exact h t
    |a=>
     show p ((r.app d s).get t);have h1:=zBf s d t (r.av d);unfold St.put St.get at h1;unfold St.get;rw[zEw,h1];split
     ·exact hrr d rfl hod
     ·exact h t
  cases rs with
  |nil=>exact zNh hb cs os [] _ (step .rb fun d _ _=>hb) (fun j o r d _ _ hrr=>by simp at hrr) t
  |cons r rs=>exact zNh hb cs os rs _ (step r fun d hc hod=>hr 0 o r d (by rw[hc];rfl) rfl rfl hod) (fun j o' r' d hc ho hrr hd=>hr (j+1) o' r' d (by simpa using hc) (by simpa using ho) (by simpa using hrr) hd) t
theorem zNg:∀(cs:List Cd)(l:List Oper)(rs:List Res)(s:St)(id:Nat),s.ent id=none→(∀r,r∈rs→r.ok=true)→(∀(j:Nat) o,cs[j]?=some .a→l[j]?=some o→o.dst≠some (id / 8))→(appC cs l rs s).ent id=none
 |[],_,_,s,_,h0,_,_=>h0
 |_::_,[],_,s,_,h0,_,_=>h0
 |c::cs,o::os,rs,s,id,h0,hok,h=>by
  have h0':s.E.lookup id=none:=h0;have step:∀(r:Res),r.ok=true→(app1 c o.dst r s).ent id=none:=by
   intro r hr;cases hod:o.dst with
   |none=>
    cases c with
    |z=>exact h0
    |b=>exact h0
    |r id2=>show (rmE id2 s.E).lookup id=none;rw[zB1,h0'];split<;>rfl
    |a=>
     cases r with
     |r0 _=>exact h0
     |r1 _ _=>exact h0
     |rb=>exact h0
     |r2 id2 e=>
      show (setE id2 e s.E).lookup id=none;rw[zB0];by_cases he:id=id2
      ·subst he;rw[if_pos rfl,h0'];rfl
      ·rw[if_neg he,h0']
   |some d=>
    cases c with
    |z=>exact h0
    |b=>exact h0
    |r id2=>exact h0
    |a=>refine (zDq r d s hr id fun e=>h 0 o rfl rfl ?_).trans h0;rw[hod,e]
  cases rs with
  |nil=>exact zNg cs os [] _ id (step .rb rfl) (fun r hr=>by cases hr) fun j p hc hp=>h (j+1) p (by simpa using hc) (by simpa using hp)
  |cons r rs=>exact zNg cs os rs _ id (step r (hok r (by simp))) (fun x hx=>hok x (by simp[hx])) fun j p hc hp=>h (j+1) p (by simpa using hc) (by simpa using hp)
def AV.small:AV→Bool
 | .ow k=>decide (k<8)
 | .pt k _=>decide (k<8)
 | .po k _ _ _=>decide (k<8)
 | .vw k _ _=>decide (k<8)
 | .sf k _ _=>decide (k<8)
 | .tc x r=>x.small&&r.small
 |_=>true
theorem zIL{x d:Nat}(h:x≠d):∀(av:AV),av.small=true→(av.shift x).ment d=false
 | .ow k,hs=>by simp[AV.small]at hs;simp[AV.shift,AV.ment];omega
 | .pt k _,hs=>by simp[AV.small]at hs;simp[AV.shift,AV.ment];omega
 | .po k _ _ _,hs=>by simp[AV.small]at hs;simp[AV.shift,AV.ment];omega
 | .vw k _ _,hs=>by simp[AV.small]at hs;simp[AV.shift,AV.ment];omega
 | .sf k _ _,hs=>by simp[AV.small]at hs;simp[AV.shift,AV.ment];omega
 | .tc y r,hs=>by simp only[AV.small,ze]at hs;simp[AV.shift,AV.ment,zIL h y hs.1,zIL h r hs.2]
 | .bot,_=>rfl
 | .c _,_=>rfl
 | .ag _,_=>rfl
 | .pe _,_=>rfl
 | .fn _ _,_=>rfl
 | .er _,_=>rfl
 | .tn,_=>rfl
section
variable (P:Program)
def gsat(ops:Array Oper)(o:Oper)(S:St):Prop:=o.guard=none∨∃j b t,o.guard=some (j,b)∧(ops[j]?).bind (·.dst)=some t∧S.get t=.c (.v (.bool b))
def gun(ops:Array Oper)(o:Oper)(S:St):Prop:=∃j b t,o.guard=some (j,b)∧(ops[j]?).bind (·.dst)=some t∧((∃c,S.get t=.c (.v (.bool c))∧c≠b)∨S.get t=.tn)
def zXY(ops:Array Oper)(o:Oper)(S:St)(ms:List Nat)(l1:List Oper)(j:Nat):Res→Prop
 | .r0 av=>(gsat ops o S∧Y0 P o S av∧zEo ms j av 0 l1=true)∨(gun ops o S∧av=.tn)
 | .r1 av ne=>gsat ops o S∧Y1 P o S av ne∧zFr ne=true∧makes o=true∧av.small=true
 | .rb=>gun ops o S
 | .r2 id e=>gsat ops o S∧∀A,Le S A→X P o A ⟨A.T,setE id e A.E⟩
def W2(l1:List Oper)(ms:List Nat)(css:List (List Cd))(rs:List Res)(j:Nat)(o:Oper):Res→Prop
 | .r2 id _=>o.dst=none∧zJN j id css=true∧mkOk ms j id 0 l1=true∧∀i,i<j→∀e',rs[i]?≠some (.r2 id e')
 |_=>∃d,o.dst=some d
def Dst(l1:List Oper)(ops:Array Oper)(ms:List Nat)(css:List (List Cd))(s0:St)(rs:List Res)(j:Nat):Prop:=
 ∃o r c,l1[j]?=some o∧rs[j]?=some r∧css[j]?=some c∧zXY P ops o (appC c l1 rs s0) ms l1 j r∧W2 l1 ms css rs j o r
variable {P}
theorem zQi{ok:Nat→Prop}{σ:Nat→Loc}{s:St}{a:Act}{w:World}(h:Core ok σ s a w){ops:Array Oper}{j t:Nat}{b:Bool}(ht:(ops[j]?).bind (·.dst)=some t)(hb:s.get t=.c (.v (.bool b))):yielded ops a.tmps j=some b:=by
 have h1:=h.tmp t;rw[hb]at h1;have h2:a.tmps.getD t undef=.bool b:=by have h3:Rd ok w (.v (.bool b)) (a.tmps.getD t undef):=h1;generalize a.tmps.getD t undef=y at*;cases h3;rfl
 have h4:a.tmps[t]?=some (.bool b):=by
  rw[Array.getD_eq_getD_getElem?]at h2;cases h5:a.tmps[t]? with
  |none=>rw[h5]at h2;simp[undef]at h2
  |some y=>rw[h5]at h2;simpa using h2
 simp only[yielded,ht,Option.bind_some,h4]
theorem zEg{ok:Nat→Prop}{σ:Nat→Loc}{s:St}{a:Act}{w:World}(h:Core ok σ s a w){ops:Array Oper}{o:Oper}(hg:gsat ops o s):Region.wanted o (yielded ops a.tmps)=true:=by
 rcases hg with hg|⟨j,b,t,hg,ht,hb⟩
 ·simp[Region.wanted,hg]
 ·simp[Region.wanted,hg,zQi h ht hb]
theorem zOk{ok:Nat→Prop}{σ:Nat→Loc}{s:St}{a:Act}{w:World}(h:Core ok σ s a w){ops:Array Oper}{o:Oper}(hg:gun ops o s):Region.wanted o (yielded ops a.tmps)=false:=by
 obtain⟨j,b,t,hg,ht,⟨c,hb,hne⟩|hb⟩:=hg
 ·simp[Region.wanted,hg,zQi h ht hb,hne]
 ·have h1:=h.tmp t;rw[hb]at h1;obtain⟨vs,h2,_⟩:=h1;have h4:a.tmps[t]?=some (.tuple vs)∨a.tmps[t]?=none:=by
   rw[Array.getD_eq_getD_getElem?]at h2;cases h5:a.tmps[t]? with
   |none=>exact .inr rfl
   |some y=>rw[h5]at h2;exact .inl (by simpa using h2)
  rcases h4 with h4|h4<;>simp[Region.wanted,hg,yielded,ht,h4]
theorem zTE{l:List Oper}{ms:List Nat}{n1:Nat}(hchk:chk1 ms n1 0 l=true):∀(i:Nat),i<l.length→∀k,(ms.getD i 0).testBit k=true→k<i:=by
 intro i
 induction i using Nat.strongRecOn with
 |_ i ih=>
  intro hi k hk;have ho:l[i]?=some l[i]:=zl hi
  obtain⟨h1,h2,_⟩:=zHd ms n1 l 0 hchk i _ ho;rw[Nat.zero_add]at h1 h2;rw[h1]at hk;obtain⟨e,h3,h4,h5⟩:=zH9 ms k _ hk;have h6:=zQA i _ h2 e h3 h4;rcases h5 with h5|h5
  ·omega
  ·have:=ih e.on h6 (by omega) k h5;omega
def left(n:Nat)(L:Nat→Bool):Nat:=(List.range n).countP fun i=>!L i
theorem zPG{p q:Nat→Bool}:∀(l:List Nat),(∀x,q x=true→p x=true)→∀i,i∈l→p i=true→q i=false→l.countP q<l.countP p
 |[],_,i,h,_,_=>by cases h
 |x::xs,hpq,i,h,hp,hq=>by
  rw[List.countP_cons,List.countP_cons];have hle:xs.countP q≤xs.countP p:=List.countP_mono_left fun y _=>hpq y;cases h with
  |head=>rw[hp,hq];simp;omega
  |tail _ h=>
   have:=zPG xs hpq i h hp hq;cases hqx:q x with
   |true=>rw[hpq x hqx];simp;exact this
   |false=>simp;omega
theorem zKJ{n:Nat}{L:Nat→Bool}(h:left n L=0):∀i,i<n→L i=true:=by intro i hi;unfold left at h;rw[List.countP_eq_zero]at h;have:=h i (List.mem_range.2 hi);simpa using this
theorem zEC(listed:Array Bool)(i:Nat)(hi:i<listed.size)(j:Nat):(listed.setIfInBounds i true).getD j false=if j=i then true else listed.getD j false:=by
 simp only[Array.getD_eq_getD_getElem?,Array.getElem?_setIfInBounds];by_cases h:i=j
 ·subst h;simp[hi]
 ·simp[h,Ne.symm h]
theorem zNI{n i:Nat}{listed:Array Bool}(hs:listed.size=n)(hi:i<n)(h0:listed.getD i false=false):left n (fun j=>(listed.setIfInBounds i true).getD j false)<left n (fun j=>listed.getD j false):=by
 refine zPG _ (fun x hx=>?_) i (List.mem_range.2 hi) (by simp only[h0];rfl) ?_
 ·simp only[Bool.not_eq_true']at hx ⊢;rw[zEC listed i (by omega)]at hx;split at hx
  ·cases hx
  ·exact hx
 ·simp only;rw[zEC listed i (by omega)];simp
theorem zD6{l:List Oper}{listed:Array Bool}(hs:listed.size=l.length)(i:Nat):i∈Region.ready .any l.toArray listed↔listed.getD i false=false∧∃o,l[i]?=some o∧∀e,e∈o.after.toList→Region.binds .any e=true→listed.getD e.on false=true:=by
 rw[mem_ready];constructor
 ·rintro⟨h1,o,h2,h3⟩;have hlt:i<l.length:=by
   rcases Nat.lt_or_ge i l.length with h|h
   ·exact h
   ·rw[show l.toArray[i]?=l[i]? by simp,List.getElem?_eq_none h]at h2;cases h2
  refine⟨?_,o,by simpa using h2,fun e he hb=>h3 e (by simpa using he) hb⟩;rw[Array.getD_eq_getD_getElem?]at h1 ⊢;have h4:listed[i]?=some listed[i]:=Array.getElem?_eq_getElem (by omega)
  rw[h4]at h1 ⊢;exact h1
 ·rintro⟨h1,o,h2,h3⟩;have hlt:i<l.length:=by
   rcases Nat.lt_or_ge i l.length with h|h
   ·exact h
   ·rw[List.getElem?_eq_none h]at h2;cases h2
  refine⟨?_,o,by simpa using h2,fun e he hb=>h3 e (by simpa using he) hb⟩;rw[Array.getD_eq_getD_getElem?]at h1 ⊢;have h4:listed[i]?=some listed[i]:=Array.getElem?_eq_getElem (by omega)
  rw[h4]at h1 ⊢;exact h1
section
variable {l:List Oper} {ms:List Nat} {n1:Nat} {Q:Exit→Act→World→Prop}
theorem zFN(hchk:chk1 ms n1 0 l=true){listed:Array Bool}(hs:listed.size=l.length){i:Nat}(hi:i∈Region.ready .any l.toArray listed)(hcl:∀j,listed.getD j false=true→∀k,(ms.getD j 0).testBit k=true→listed.getD k false=true):
  ∀k,(ms.getD i 0).testBit k=true→listed.getD k false=true:=by
 intro k hk;obtain⟨_,o,ho,he⟩:=(zD6 hs i).1 hi;have h1:=(zHd ms n1 l 0 hchk i o ho).1;rw[Nat.zero_add]at h1;rw[h1]at hk;obtain⟨e,h2,h3,h4⟩:=zH9 ms k _ hk;rcases h4 with h4|h4
 ·rw[←h4];exact he e h2 h3
 ·exact hcl e.on (he e h2 h3) k h4
theorem zGJ(hchk:chk1 ms n1 0 l=true){listed:Array Bool}(hs:listed.size=l.length):∀(i:Nat),i<l.length→listed.getD i false=false→Region.ready .any l.toArray listed≠[]:=by
 intro i
 induction i using Nat.strongRecOn with
 |_ i ih=>
  intro hi hl hnil;have ho:l[i]?=some l[i]:=zl hi
  have hlow:=(zHd ms n1 l 0 hchk i _ ho).2.1;rw[Nat.zero_add]at hlow;by_cases hall:∀e,e∈l[i].after.toList→Region.binds .any e=true→listed.getD e.on false=true
  ·have:i∈Region.ready .any l.toArray listed:=(zD6 hs i).2 ⟨hl,_,ho,hall⟩;rw[hnil]at this;cases this
  ·obtain⟨e,h1⟩:=Classical.not_forall.1 hall;have he:e∈l[i].after.toList∧Region.binds .any e=true∧¬listed.getD e.on false=true:=by
    refine⟨?_,?_,?_⟩
    ·exact Classical.byContradiction fun h=>h1 fun h2=>absurd h2 h
    ·exact Classical.byContradiction fun h=>h1 fun _ h2=>absurd h2 h
    ·exact fun h=>h1 fun _ _=>h
   have hlt:=zQA i _ hlow e he.1 he.2.1;exact ih e.on hlt (by omega) (by simpa using he.2.2) hnil
theorem zQm(hchk:chk1 ms n1 0 l=true):∀(fuel k:Nat)(listed:Array Bool)(a:Act)(w:World),n1≤k→listed.size=l.length→(∀j,listed.getD j false=true↔j<k∧j<l.length)→(∀j,listed.getD j false=true→∀m,(ms.getD j 0).testBit m=true→listed.getD m false=true)→l.length≤k+fuel→
  wpList P l.toArray Q (l.drop k) a w→wpAny P .any l.toArray Q fuel listed a w:=by
 intro fuel
 induction fuel with
 |zero=>
  intro k listed a w hk hs hL hcl hf h;have hnil:Region.ready .any l.toArray listed=[]:=by
   rw[List.eq_nil_iff_forall_not_mem];intro i hi;obtain⟨h1,o,h2,_⟩:=(zD6 hs i).1 hi;have hlt:i<l.length:=by
    rcases Nat.lt_or_ge i l.length with h3|h3
    ·exact h3
    ·rw[List.getElem?_eq_none h3]at h2;cases h2
   have:=(hL i).2 ⟨by omega,hlt⟩;rw[this]at h1;cases h1
  rw[List.drop_eq_nil_of_le (by omega)]at h;exact⟨hnil,h⟩
 |succ fuel ih=>
  intro k listed a w hk hs hL hcl hf h;refine⟨fun hnil=>?_,fun i hi=>?_⟩
  ·have hge:l.length≤k:=by
    rcases Nat.lt_or_ge k l.length with h1|h1
    ·exfalso
     refine zGJ hchk hs k h1 ?_ hnil
     cases h2:listed.getD k false with
     |false=>rfl
     |true=>have:=((hL k).1 h2).1;omega
    ·exact h1
   rw[List.drop_eq_nil_of_le hge]at h;exact h
  ·have hbits:=zFN hchk hs hi hcl;obtain⟨h1,o,h2,h3⟩:=(zD6 hs i).1 hi;have hlt:i<l.length:=by
    rcases Nat.lt_or_ge i l.length with h4|h4
    ·exact h4
    ·rw[List.getElem?_eq_none h4]at h2;cases h2
   have hki:k≤i:=by
    rcases Nat.lt_or_ge i k with h4|h4
    ·have:=(hL i).2 ⟨h4,hlt⟩;rw[this]at h1;cases h1
    ·exact h4
   have hik:i=k:=by
    rcases (zHd ms n1 l 0 hchk i o h2).2.2 with h4|h4
    ·omega
    ·rw[Nat.zero_add]at h4;rcases Nat.lt_or_ge k i with h5|h5
     ·have:=hbits k (zG1 _ _ _ h4 h5);have:=((hL k).1 this).1;omega
     ·omega
   subst hik;have hd:l.drop i=o::l.drop (i+1):=by rw[List.drop_eq_getElem_cons hlt];congr 1;rw[zl hlt]at h2;simpa using h2
   rw[hd]at h;have hset:=zEC listed i (by omega);have hL':∀j,(listed.setIfInBounds i true).getD j false=true↔j<i+1∧j<l.length:=by
    intro j;rw[hset];by_cases hj:j=i
    ·simp[hj,hlt]
    ·rw[if_neg hj,hL];constructor<;>intro h<;>exact⟨by omega,h.2⟩
   have hcl':∀j,(listed.setIfInBounds i true).getD j false=true→∀m,(ms.getD j 0).testBit m=true→(listed.setIfInBounds i true).getD m false=true:=by
    intro j hj m hm;rw[hset]at hj ⊢;split
    ·rfl
    ·by_cases hji:j=i
     ·subst hji;exact hbits m hm
     ·rw[if_neg hji]at hj;exact hcl j hj m hm
   have next:=fun a w hh=>ih (i+1) (listed.setIfInBounds i true) a w (by omega) (by simpa using hs) hL' hcl' (by omega) hh
   unfold wpOp;rw[show l.toArray[i]?=l[i]? by simp,h2];simp only[wpList]at h;simp only;split
   ·rename_i hw;rw[if_pos hw]at h;exact h.imp (Oper.wp_mono next) id
   ·rename_i hw;rw[if_neg hw]at h;exact next _ _ h
end
end
section
variable {P:Program}
theorem zZM{l1:List Oper}{ops:Array Oper}{ms:List Nat}{css:List (List Cd)}{s0:St}{rs:List Res}{n1:Nat}(hl:l1.length=n1)(h:∀j,j<n1→Dst P l1 ops ms css s0 rs j):OkR l1 rs:=by
 intro j o r ho hr;have hj:j<n1:=by
  rcases Nat.lt_or_ge j n1 with h1|h1
  ·exact h1
  ·rw[List.getElem?_eq_none (by omega)]at ho;cases ho
 obtain⟨o2,r2,c,h1,h2,h3,h4,h5⟩:=h j hj;rw[ho]at h1;rw[hr]at h2;injection h1 with h1;injection h2 with h2;subst h1 h2;cases r with
 |r0 av=>exact⟨rfl,fun h=>by cases h⟩
 |r1 av ne=>exact⟨h4.2.2.1,fun _=>h4.2.2.2.1⟩
 |rb=>exact⟨rfl,fun h=>by cases h⟩
 |r2 id e=>exact⟨rfl,fun h=>by cases h⟩
theorem zUn{l:List Oper}{ms:List Nat}{n1:Nat}{css:List (List Cd)}{s0:St}{rs:List Res}{Q:Exit→Act→World→Prop}{B:Fr}{w0:World}{ok0:Nat→Prop}(hchk:zGT l ms n1 css=true)(hrs:rs.length=n1)(hD:∀j,j<n1→Dst P (l.take n1) l.toArray ms css s0 rs j)
  (hprep:∀(j:Nat) o d,(l.take n1)[j]?=some o→o.dst=some d→makes o=true→(∀t,(s0.get t).ment d=false)∧∀id,id / 8=d→s0.ent id=none)
  (hfin:∀ok σ a w,R B w0 ok0 ok σ (appC (done (fun _=>true) 0 (l.take n1)) (l.take n1) rs s0) a w→wpList P l.toArray Q (l.drop n1) a w):
  ∀(fuel:Nat)(listed:Array Bool)(ok:Nat→Prop)(σ:Nat→Loc)(a:Act)(w:World),listed.size=l.length→(∀j,n1≤j→listed.getD j false=false)→(∀j,listed.getD j false=true→∀m,(ms.getD j 0).testBit m=true→listed.getD m false=true)→
   left l.length (fun j=>listed.getD j false)≤fuel→R B w0 ok0 ok σ (appC (done (fun j=>listed.getD j false) 0 (l.take n1)) (l.take n1) rs s0) a w→wpAny P .any l.toArray Q fuel listed a w:=by
 simp only[zGT,ze,decide_eq_true_eq,beq_iff_eq]at hchk;obtain⟨hc1,hn1,hcl,hc2,hds⟩:=hchk;have hl1:(l.take n1).length=n1:=by simp;omega
 have hdist:Dist (l.take n1):=zPD _ hds;have hok:=zZM (P:=P) hl1 hD;have hrok:∀r,r∈rs→r.ok=true:=by
  intro r hr;obtain⟨j,hj⟩:=List.getElem?_of_mem hr;have hlt:j<(l.take n1).length:=by
   rcases Nat.lt_or_ge j rs.length with h1|h1
   ·omega
   ·rw[List.getElem?_eq_none h1]at hj;cases hj
  exact (hok j _ r (zl hlt) hj).1
 intro fuel
 induction fuel with
 |zero=>
  intro listed ok σ a w hs hT hcl2 hf hR;have hall:=zKJ (Nat.le_zero.1 hf);have hn:n1=l.length:=by
   rcases Nat.lt_or_ge n1 l.length with h1|h1
   ·have h2:listed.getD n1 false=true:=hall n1 h1;rw[hT n1 (Nat.le_refl _)]at h2;cases h2
   ·omega
  have e:done (fun j=>listed.getD j false) 0 (l.take n1)=done (fun _=>true) 0 (l.take n1):=zEr _ _ fun j _ h1=>hall j (by omega);rw[e]at hR;refine zQm hc1 0 n1 listed a w (Nat.le_refl _) hs (fun j=>⟨fun h1=>?_,fun h1=>hall j h1.2⟩) hcl2 (by omega) (hfin ok σ a w hR);rcases Nat.lt_or_ge j n1 with h2|h2
  ·exact⟨h2,by omega⟩
  ·rw[hT j h2]at h1;cases h1
 |succ fuel ih=>
  intro listed ok σ a w hs hT hcl2 hf hR;by_cases hall:∀j,j<n1→listed.getD j false=true
  ·have e:done (fun j=>listed.getD j false) 0 (l.take n1)=done (fun _=>true) 0 (l.take n1):=zEr _ _ fun j _ h1=>hall j (by omega);rw[e]at hR;refine zQm hc1 (fuel+1) n1 listed a w (Nat.le_refl _) hs (fun j=>⟨fun h1=>?_,fun h1=>hall j h1.1⟩) hcl2 ?_ (hfin ok σ a w hR)
   ·rcases Nat.lt_or_ge j n1 with h2|h2
    ·exact⟨h2,by omega⟩
    ·rw[hT j h2]at h1;cases h1
   ·have h1:l.length - n1≤left l.length (fun j=>listed.getD j false):=by
     unfold left;have e2:List.range l.length=List.range n1++(List.range (l.length - n1)).map (fun x=>n1+x):=by rw[←List.range_add];congr 1;omega
     rw[e2,List.countP_append];have e3:List.countP (fun i=>!listed.getD i false) ((List.range (l.length - n1)).map (fun x=>n1+x))=l.length - n1:=by
      have h2:List.countP (fun i=>!listed.getD i false) ((List.range (l.length - n1)).map (fun x=>n1+x))=((List.range (l.length - n1)).map (fun x=>n1+x)).length:=by rw[List.countP_eq_length];intro x hx;obtain⟨y,_,rfl⟩:=List.mem_map.1 hx;simp only[hT (n1+y) (by omega),zc]
      rw[h2];simp
     rw[e3];omega
    omega
  ·obtain⟨i0,hi0⟩:=Classical.not_forall.1 hall;have hi0lt:i0<n1:=Classical.byContradiction fun h=>hi0 fun h2=>absurd h2 h;have hi0n:listed.getD i0 false=false:=by
    cases h:listed.getD i0 false with
    |false=>rfl
    |true=>exact absurd (fun _=>h) hi0
   refine⟨fun hnil=>absurd hnil (zGJ hc1 hs i0 (by omega) hi0n),fun i hi=>?_⟩;have hbits:=zFN hc1 hs hi hcl2;obtain⟨h1,o,h2,h3⟩:=(zD6 hs i).1 hi;have hlt:i<l.length:=by
    rcases Nat.lt_or_ge i l.length with h4|h4
    ·exact h4
    ·rw[List.getElem?_eq_none h4]at h2;cases h2
   have hin1:i<n1:=by
    rcases (zHd ms n1 l 0 hc1 i o h2).2.2 with h4|h4
    ·omega
    ·rw[Nat.zero_add]at h4;rcases Nat.lt_or_ge i n1 with h5|h5
     ·exact h5
     ·have:=hbits i0 (zG1 _ _ _ h4 (by omega));rw[hi0n]at this;cases this
   have ho1:(l.take n1)[i]?=some o:=by rw[List.getElem?_take,if_pos hin1];exact h2
   obtain⟨o2,r,c,e1,e2,e3,hstep,hw⟩:=hD i hin1;rw[ho1]at e1;injection e1 with e1;subst e1;obtain⟨hclen,hcc⟩:=zQR ms n1 css 0 hc2 i c e3;rw[Nat.zero_add]at hcc
   -- the state on which the operation may lean
   have hlean:Le (appC c (l.take n1) rs s0) (appC (done (fun j=>listed.getD j false) 0 (l.take n1)) (l.take n1) rs s0):=by
    refine zT4 (fun j=>listed.getD j false) (l.take n1) c 0 rs s0 s0 (Le.refl _) rfl (fun j p x hp hx hm id hid=>(hprep j p x hp hx hm).2 id hid) hdist hok (by omega) (by omega) fun j cd o' r' hj ho' hr'=>?_
    have h4:=zQQ ms i c 0 hcc j cd hj;have hcol:∀id e,r'=.r2 id e→c[j]?=some .a∨c[j]?=some .z∨c[j]?=some (.r id):=by
     intro id e he;have hjn:j<n1:=by
      rcases Nat.lt_or_ge j rs.length with h5|h5
      ·omega
      ·rw[List.getElem?_eq_none h5]at hr';cases hr'
     obtain⟨o3,r3,c3,f1,f2,f3,f4,f5⟩:=hD j hjn;rw[hr']at f2;injection f2 with f2;subst f2 he;exact zR0 j id css f5.2.1 c (List.mem_of_getElem? e3)
    cases cd with
    |a=>simp only[Nat.zero_add]at h4 ⊢;exact hbits j h4
    |z=>
     simp only[Nat.zero_add]at h4 ⊢;cases h5:listed.getD j false with
     |false=>rfl
     |true=>
      rcases h4 with h4|h4
      ·subst h4;rw[h1]at h5;cases h5
      ·have:=hcl2 j h5 i h4;rw[h1]at this;cases this
    |b=>intro _ id e he;rcases hcol id e he with h5|h5|h5<;>(rw[hj]at h5;cases h5)
    |r id2=>
     intro id e he;rcases hcol id e he with h5|h5|h5
     ·rw[hj]at h5;cases h5
     ·rw[hj]at h5;cases h5
     ·rw[hj]at h5;injection h5 with h5;injection h5 with h5;exact h5.symm
   have hS:=(hR.le hlean).core;have hset:=zEC listed i (by omega);have hL':∀j,j≠i→(listed.setIfInBounds i true).getD j false=listed.getD j false:=fun j hj=>by rw[hset,if_neg hj]
   have hLi:(listed.setIfInBounds i true).getD i false=true:=by rw[hset,if_pos rfl]
   have hcl':∀j,(listed.setIfInBounds i true).getD j false=true→∀m,(ms.getD j 0).testBit m=true→(listed.setIfInBounds i true).getD m false=true:=by
    intro j hj m hm;rw[hset]at hj ⊢;split
    ·rfl
    ·by_cases hji:j=i
     ·subst hji;exact hbits m hm
     ·rw[if_neg hji]at hj;exact hcl2 j hj m hm
   have hleft:=zNI hs hlt h1;have hlen2:rs.length=(l.take n1).length:=by omega
   have hsame:=zPF (L:=fun j=>listed.getD j false) (L':=fun j=>(listed.setIfInBounds i true).getD j false) i h1 hLi hL' (l.take n1) 0 rs s0 o r (by simpa using ho1) (Nat.zero_le _) (by simpa using e2) hlen2 (fun j p q hp hq hji hLj=>by
    rw[Nat.sub_zero]at hji;rw[Nat.zero_add]at hLj;have hLj:listed.getD j false=true:=by rw[←hL' j (by omega)];exact hLj
    have hjn:j<n1:=by
     rcases Nat.lt_or_ge j rs.length with h5|h5
     ·omega
     ·rw[List.getElem?_eq_none h5]at hq;cases hq
    obtain⟨o3,r3,c3,f1,f2,f3,f4,f5⟩:=hD j hjn;rw[hq]at f2;injection f2 with f2;subst f2;rw[hp]at f1;injection f1 with f1;subst f1;refine⟨hrok q (List.mem_of_getElem? hq),hrok r (List.mem_of_getElem? e2),?_⟩;cases hpd:p.dst with
    |some d=>
     cases hod:o.dst with
     |some d'=>intro e;subst e;have:=hdist j i p o d hp ho1 hpd hod;omega
     |none=>
      intro id e he;subst he;rcases zPx ms i id _ 0 hw.2.2.1 j p d hp hpd with h5|h5
      ·exact h5
      ·rw[Nat.zero_add]at h5;have:=zTE hc1 i hlt j h5;omega
    |none=>
     cases hod:o.dst with
     |some d'=>
      intro id e he;subst he;rcases zPx ms j id _ 0 f5.2.2.1 i o d' ho1 hod with h5|h5
      ·exact h5
      ·rw[Nat.zero_add]at h5;have:=hcl2 j hLj i h5;rw[h1]at this;cases this
     |none=>
      intro id e id' e' he he' hid;subst he he' hid;rcases Nat.lt_or_ge j i with h5|h5
      ·exact hw.2.2.2 j h5 e hq
      ·exact f5.2.2.2 i (by omega) e' e2)
   have next:=fun ok σ a w hh=>ih (listed.setIfInBounds i true) ok σ a w (by simpa using hs) (fun j hj=>by rw[hL' j (by omega)];exact hT j hj) hcl' (by omega) hh
   unfold wpOp;rw[show l.toArray[i]?=l[i]? by simp,h2];simp only;cases r with
   |r0 av=>
    obtain⟨d,hd⟩:∃d,o.dst=some d:=hw;rw[hd]at hsame;have hsame:Same ((Res.r0 av).app d _) _:=hsame;rcases hstep with⟨hg,hY,hm⟩|⟨hg,rfl⟩
    case inr=>rw[zOk hS hg,if_neg (by simp),hd];exact next _ _ _ _ ((hR.put (av:=.tn) ⟨#[],rfl,trivial⟩).le (hsame.symm.le))
    rw[if_pos (zEg hS hg)];refine .inl (hY ok σ a w hS _ Q fun v hv=>?_);rw[hd];exact next _ _ _ _ ((hR.put hv).le (hsame.symm.le))
   |r1 av ne=>
    obtain⟨hg,hY,hk,hm,hsm⟩:=hstep;obtain⟨d,hd⟩:∃d,o.dst=some d:=hw;rw[hd]at hsame;have hsame:Same ((Res.r1 av ne).app d _) _:=hsame;rw[if_pos (zEg hS hg)];refine .inl (hY ok σ a w hS _ Q fun v w' ok' σ' hn=>?_);rw[hd];obtain⟨p1,p2⟩:=hprep i o d ho1 hd hm;obtain⟨σ2,hR2⟩:=hR.add hn (d:=d) (by
     refine zNh (p:=fun av=>av.ment d=false) rfl _ _ _ _ p1 fun j p q x hc hp hq hx=>?_
     obtain⟨hcj,_⟩:=zMC _ _ _ _ _ hc;rw[Nat.zero_add]at hcj;have hLj:listed.getD j false=true:=by
      cases h5:listed.getD j false with
      |true=>rfl
      |false=>rw[h5]at hcj;cases hcj
     have hjn:j<n1:=by
      rcases Nat.lt_or_ge j n1 with h5|h5
      ·exact h5
      ·rw[hT j h5]at hLj;cases hLj
     have hxd:x≠d:=fun e=>by subst e;have:=hdist j i p o x hp ho1 hx hd;subst this;rw[h1]at hLj;cases hLj
     obtain⟨o3,r3,c3,f1,f2,f3,f4,f5⟩:=hD j hjn;rw[hq]at f2;injection f2 with f2;subst f2;cases q with
     |rb=>rfl
     |r2 _ _=>rfl
     |r0 av2=>
      rcases f4 with f4|⟨_,f4⟩
      ·rcases zOu ms j av2 _ 0 f4.2.2 i o d ho1 hm hd with h5|h5
       ·rw[Nat.zero_add]at h5;have:=hcl2 j hLj i h5;rw[h1]at this;cases this
       ·exact h5
      ·rw[f4];rfl
     |r1 av2 ne2=>exact zIL hxd av2 f4.2.2.2.2) (fun id hid=>by
     refine zNg _ _ _ _ _ (p2 id hid) hrok fun j p hc hp hpd=>?_
     obtain⟨hcj,_⟩:=zMC _ _ _ _ _ hc;rw[Nat.zero_add]at hcj;have:=hdist j i p o d hp ho1 (by rw[hpd,hid]) hd;subst this;rw[h1]at hcj;cases hcj)
    exact next _ _ _ _ (hR2.le (hsame.symm.le))
   |r2 id e=>obtain⟨hg,hY⟩:=hstep;obtain⟨hd,_⟩:=hw;rw[hd]at hsame;have hsame:Same (⟨_,setE id e _⟩:St) _:=hsame;rw[if_pos (zEg hS hg)];exact .inl (hY _ hlean B w0 ok0 ok σ a w hR _ Q fun a' w' ok' σ' h'=>next _ _ _ _ (h'.le hsame.symm.le))
   |rb=>obtain⟨d,hd⟩:∃d,o.dst=some d:=hw;rw[hd]at hsame;have hsame:Same (Res.rb.app d _) _:=hsame;rw[zOk hS hstep,if_neg (by simp),hd];exact next _ _ _ _ ((hR.put (av:=.bot) trivial).le (hsame.symm.le))
end
section
variable {P:Program}
theorem zNf:∀(cs:List Cd)(l:List Oper)(rs more:List Res)(s:St),(∀k,rs.length≤k→cs[k]?≠some .a)→appC cs l rs s=appC cs l (rs++more) s
 |[],_,_,_,s,_=>by simp[appC]
 |c::cs,[],rs,more,s,_=>by cases rs<;>cases more<;>simp[appC]
 |c::cs,o::os,r::rs,more,s,h=>by simp only[List.cons_append,appC];exact zNf cs os rs more _ fun k hk=>by simpa using h (k+1) (by simpa using hk)
 |c::cs,o::os,[],more,s,h=>by
  have h0:=h 0 (Nat.le_refl _);have e:∀r,app1 c o.dst r s=app1 c o.dst .rb s:=fun r=>by
   cases c with
   |a=>exact absurd rfl h0
   |z=>cases o.dst<;>rfl
   |b=>cases o.dst<;>rfl
   |r id=>cases o.dst<;>rfl
  have ih:=fun more=>zNf cs os [] more (app1 c o.dst .rb s) fun k hk=>by simpa using h (k+1) (Nat.zero_le _)
  cases more with
  |nil=>simp
  |cons m more=>simp only[zi,appC];rw[e m];simpa using ih more
def fin:List Oper→List Res→St→St
 |o::os,r::rs,s=>fin os rs (app1 .a o.dst r s)
 |_,_,s=>s
theorem zVH:∀(l:List Oper)(rs:List Res)(k:Nat)(s:St),rs.length=l.length→appC (done (fun _=>true) k l) l rs s=fin l rs s
 |[],[],_,s,_=>rfl
 |[],_::_,_,s,h=>by simp at h
 |_::_,[],_,s,h=>by simp at h
 |o::os,r::rs,k,s,h=>by simp only[done,cond_true,appC,fin];rw[zVH os rs (k+1) _ (by simpa using h)]
variable (P)
def DL(l:List Oper)(ms:List Nat)(n1:Nat)(css:List (List Cd))(s0:St)(rs:List Res)(K:St→Prop):Prop:=
 zGT l ms n1 css=true→∃more,(rs++more).length=n1∧(∀j,rs.length≤j→j<n1→Dst P (l.take n1) l.toArray ms css s0 (rs++more) j)∧K (fin (l.take n1) (rs++more) s0)
variable {P}
theorem zQa{l:List Oper}{ms:List Nat}{n1:Nat}{css:List (List Cd)}{s0:St}{rs:List Res}{K:St→Prop}(hn:rs.length=n1)(h:K (fin (l.take n1) rs s0)):DL P l ms n1 css s0 rs K:=
 fun _=>⟨[],by simpa using hn,fun j h1 h2=>by omega,by simpa using h⟩
theorem zMI{l:List Oper}{ms:List Nat}{n1:Nat}{css:List (List Cd)}{s0:St}{rs:List Res}{K:St→Prop}(o:Oper)(c:List Cd)(r:Res)(hlt:rs.length<n1)(ho:l[rs.length]?=some o)(hc:css[rs.length]?=some c)
  (hst:zXY P l.toArray o (appC c (l.take n1) rs s0) ms (l.take n1) rs.length r) (hw:W2 (l.take n1) ms css rs rs.length o r) (h:DL P l ms n1 css s0 (rs++[r]) K):DL P l ms n1 css s0 rs K:=by
 intro hchk;obtain⟨more,h1,h2,h3⟩:=h hchk;simp only[zGT,ze,decide_eq_true_eq,beq_iff_eq]at hchk;obtain⟨hc1,hn1,hcl,hc2,hds⟩:=hchk;have e:rs++[r]++more=rs++r::more:=by simp
 rw[e]at h1 h2 h3;refine⟨r::more,h1,fun j hj1 hj2=>?_,h3⟩;by_cases hj:j=rs.length
 ·subst hj;refine⟨o,r,c,by rw[List.getElem?_take,if_pos hlt];exact ho,by simp,hc,?_,?_⟩
  rotate_left
  ·cases r with
   |r2 id e=>obtain⟨w1,w2,w3,w4⟩:=hw;exact⟨w1,w2,w3,fun i hi e'=>by rw[List.getElem?_append_left hi];exact w4 i hi e'⟩
   |r0 _=>exact hw
   |r1 _ _=>exact hw
   |rb=>exact hw
  rw[←zNf]
  ·exact hst
  ·intro k hk hck;have h4:=zQQ ms _ c 0 (zQR ms n1 css 0 hc2 _ c hc).2 k .a hck;simp only[Nat.zero_add]at h4;have:=zTE hc1 rs.length (by omega) k h4;omega
 ·exact h2 j (by simp;omega) hj2
theorem DL_0{l:List Oper}{ms:List Nat}{n1:Nat}{css:List (List Cd)}{s0:St}{rs:List Res}{K:St→Prop}{o:Oper}{c:List Cd}{av:AV}(hlt:rs.length<n1)(ho:l[rs.length]?=some o)(hc:css[rs.length]?=some c)(hg:gsat l.toArray o (appC c (l.take n1) rs s0))
  (hm:zEo ms rs.length av 0 (l.take n1)=true) (hY:Y0 P o (appC c (l.take n1) rs s0) av) (hd:∃d,o.dst=some d) (h:DL P l ms n1 css s0 (rs++[.r0 av]) K):DL P l ms n1 css s0 rs K:=
 zMI o c (.r0 av) hlt ho hc (.inl ⟨hg,hY,hm⟩) hd h
theorem DL_1{l:List Oper}{ms:List Nat}{n1:Nat}{css:List (List Cd)}{s0:St}{rs:List Res}{K:St→Prop}{o:Oper}{c:List Cd}{av:AV}{ne:List (Nat×Ent)}(hlt:rs.length<n1)(ho:l[rs.length]?=some o)(hc:css[rs.length]?=some c)(hg:gsat l.toArray o (appC c (l.take n1) rs s0))
  (hm:zFr ne=true∧makes o=true∧av.small=true) (hY:Y1 P o (appC c (l.take n1) rs s0) av ne) (hd:∃d,o.dst=some d) (h:DL P l ms n1 css s0 (rs++[.r1 av ne]) K):DL P l ms n1 css s0 rs K:=
 zMI o c (.r1 av ne) hlt ho hc ⟨hg,hY,hm⟩ hd h
def zF2(id:Nat):List Res→Bool
 |[]=>true
 | .r2 id2 _::rs=>!(id2==id)&&zF2 id rs
 |_::rs=>zF2 id rs
theorem zOy(id:Nat):∀(rs:List Res),zF2 id rs=true→∀(i:Nat) e',rs[i]?≠some (.r2 id e')
 |[],_,i,e',h=>by simp at h
 |r::rs,h,0,e',he=>by simp at he;subst he;simp[zF2]at h
 |r::rs,h,i+1,e',he=>by
  refine zOy id rs ?_ i e' (by simpa using he)
  cases r with
  |r2 _ _=>simp only[zF2,ze]at h;exact h.2
  |r0 _=>exact h
  |r1 _ _=>exact h
  |rb=>exact h
theorem DL_2{l:List Oper}{ms:List Nat}{n1:Nat}{css:List (List Cd)}{s0:St}{rs:List Res}{K:St→Prop}{o:Oper}{c:List Cd}{id:Nat}{e:Ent}(hlt:rs.length<n1)(ho:l[rs.length]?=some o)(hc:css[rs.length]?=some c)(hg:gsat l.toArray o (appC c (l.take n1) rs s0))
  (hY:∀A,Le (appC c (l.take n1) rs s0) A→X P o A ⟨A.T,setE id e A.E⟩) (hd:o.dst=none) (h1:zJN rs.length id css=true) (h2:mkOk ms rs.length id 0 (l.take n1)=true) (h3:zF2 id rs=true) (h:DL P l ms n1 css s0 (rs++[.r2 id e]) K):DL P l ms n1 css s0 rs K:=
 zMI o c (.r2 id e) hlt ho hc ⟨hg,hY⟩ ⟨hd,h1,h2,fun i _ e'=>zOy id rs h3 i e'⟩ h
theorem zK{ops:Array Oper}{o:Oper}{S:St}(h:o.guard=none):gsat ops o S:=.inl h
theorem zTl{ops:Array Oper}{o:Oper}{S:St}{j t:Nat}{b:Bool}(h:o.guard=some (j,b))(ht:(ops[j]?).bind (·.dst)=some t)(hb:S.get t=.c (.v (.bool b))):gsat ops o S:=.inr ⟨j,b,t,h,ht,hb⟩
theorem zUr{ops:Array Oper}{o:Oper}{S:St}{j t:Nat}{b c:Bool}(h:o.guard=some (j,b))(ht:(ops[j]?).bind (·.dst)=some t)(hb:S.get t=.c (.v (.bool c)))(hne:c≠b):gun ops o S:=⟨j,b,t,h,ht,.inl ⟨c,hb,hne⟩⟩
theorem zY3{ops:Array Oper}{o:Oper}{S:St}{j t:Nat}{b:Bool}(h:o.guard=some (j,b))(ht:(ops[j]?).bind (·.dst)=some t)(hb:S.get t=.tn):gun ops o S:=⟨j,b,t,h,ht,.inr hb⟩
theorem DL_t{l:List Oper}{ms:List Nat}{n1:Nat}{css:List (List Cd)}{s0:St}{rs:List Res}{K:St→Prop}{o:Oper}{c:List Cd}(hlt:rs.length<n1)(ho:l[rs.length]?=some o)(hc:css[rs.length]?=some c)(hg:gun l.toArray o (appC c (l.take n1) rs s0))(hd:∃d,o.dst=some d)
  (h:DL P l ms n1 css s0 (rs++[.r0 .tn]) K):DL P l ms n1 css s0 rs K:=
 zMI o c (.r0 .tn) hlt ho hc (.inr ⟨hg,rfl⟩) hd h
theorem zVs{id:Nat}{l:List Oper}{s:St}{J:Exit→St→Prop}(ms:List Nat)(n1:Nat)(css:List (List Cd))(hm:P.follows .mixedOrders=true)(hchk:zGT l ms n1 css=true)
  (h:DL P l ms n1 css (prep (l.take n1) s) [] (fun s'=>XL P l.toArray (l.drop n1) s' (J .normal))):V P (.region id l.toArray true) s J:=by
 intro B w0 ok0 ok σ a w hR;obtain⟨rs,h1,h2,h3⟩:=h hchk;rw[zi]at h1 h2 h3;have hR2:=(hR.le (zJC (l.take n1) s).1).drew;have hn1:n1≤l.length:=by simp only[zGT,ze,decide_eq_true_eq]at hchk;exact hchk.2.1
 refine wp_region_any hm ?_
 have hrep:∀j,(Array.replicate l.toArray.size false).getD j false=false:=by intro j;rw[Array.getD_eq_getD_getElem?,Array.getElem?_replicate];split<;>rfl
 have hnone:done (fun j=>(Array.replicate l.toArray.size false).getD j false) 0 (l.take n1)=done (fun _=>false) 0 (l.take n1):=zEr _ _ fun j _ _=>hrep j;have hz:∀(l:List Oper)(rs:List Res)(k:Nat)(s:St),appC (done (fun _=>false) k l) l rs s=s:=by
  intro l
  induction l with
  |nil=>intro rs k s;simp[done,appC]
  |cons o os ih=>
   intro rs k s;have e:∀r,app1 .z o.dst r s=s:=fun r=>by cases o.dst<;>rfl
   cases rs with
   |nil=>simp only[done,cond_false,appC,e];exact ih [] (k+1) s
   |cons r rs=>simp only[done,cond_false,appC,e];exact ih rs (k+1) s
 refine zUn (B:=B) (w0:=w0) (ok0:=ok0) hchk h1 (fun j hj=>h2 j (Nat.zero_le _) hj) (fun j o d ho hd hm=>zLv _ s j o d ho hd hm) (fun ok σ a w hR'=>?_) l.toArray.size _ ok σ a _ (by simp) (fun j _=>hrep j) (fun j hj=>by rw[hrep j]at hj;cases hj) ?_ ?_
 ·rw[zVH _ _ _ _ (by rw[h1];simp;omega)]at hR';exact h3 _ _ _ _ _ _ _ hR' _ fun s' a' w' ok' σ' hJ hR''=>⟨s',ok',σ',hJ,hR''⟩
 ·unfold left;refine Nat.le_trans List.countP_le_length ?_
  simp
 ·rw[hnone,hz];exact hR2
end
section
variable {P:Program}
inductive RS where
  |t (x:Nat)
  |w (x n:Nat)
def Fits(P:Program):RS→ResultVar→Prop
 | .t x,.tmp y=>x=y
 | .w x n,.cell y ty=>x=y∧wide P ty n
 |_,_=>False
inductive FitsL (P:Program):List RS→List ResultVar→Prop
  |nil:FitsL P [] []
  |cons {r v rs vs} (h:Fits P r v) (hs:FitsL P rs vs):FitsL P (r::rs) (v::vs)
def okS(s:St):RS→Bool
 | .t _=>true
 | .w x n=>match jV s (s.get x) with
  |some cs=>decide (n≤cs.length)
  |none=>false
def okSL(s:St):List RS→Bool
 |[]=>true
 |r::rs=>okS s r&&okSL s rs
def outS(s:St)(k:Nat):RS→AV×List (Nat×Ent)
 | .t x=>out1 s k x
 | .w x n=>match jV s (s.get x) with
  |some cs=>(.ag (cs.take n),[])
  |none=>(.bot,[])
def zDj(s:St):Nat→List RS→AV×List (Nat×Ent)
 |_,[]=>(.tn,[])
 |k,r::rs=>(.tc (outS s k r).1 (zDj s (k+1) rs).1,(outS s k r).2++(zDj s (k+1) rs).2)
def zPr(s:St):List RS→AV×List (Nat×Ent)
 |[r]=>outS s 0 r
 |rs=>zDj s 0 rs
def zFo(s:St):List RS→List Nat
 |[]=>[]
 | .t x::rs=>(match s.get x with
  | .ow id=>id::zFo s rs
  |_=>zFo s rs)
 | .w _ _::rs=>zFo s rs
def locS(σ:Nat→Loc)(s:St):RS→Loc
 | .t x=>match s.get x with
  | .ow id=>σ id
  |_=>loc0
 | .w _ _=>loc0
def zMz(σ:Nat→Loc)(s:St)(rs:List RS)(k:Nat):Loc:=
 match rs[k]? with
 |some r=>locS σ s r
 |none=>loc0
def zPn(tmps:Array Value):ResultVar→Sem Value
 | .tmp t=>pure (tmps.getD t undef)
 | .cell a t=>do loadVar t (←asAddr (tmps.getD a undef))
inductive RunAll (P:Program) (tmps:Array Value) (w:World):List ResultVar→List Value→Prop
  |nil:RunAll P tmps w [] []
  |cons {r v rs vs} (h:(zPn tmps r).run P w=.ok v w) (hs:RunAll P tmps w rs vs):RunAll P tmps w (r::rs) (v::vs)
theorem RunAll.run{tmps:Array Value}{w:World}{rs:List ResultVar}{vs:List Value}(h:RunAll P tmps w rs vs):(rs.mapM (zPn tmps)).run P w=.ok vs w:=by
 induction h with
 |nil=>simp
 |cons h hs ih=>rw[List.mapM_cons];simp only[Sem.run_bind,Sem.run_pure,Result.andThen_ok,h,ih]
theorem RunAll.len{tmps:Array Value}{w:World}{rs:List ResultVar}{vs:List Value}(h:RunAll P tmps w rs vs):rs.length=vs.length:=by
 induction h with
 |nil=>rfl
 |cons h hs ih=>simp[ih]
theorem zRE{fn:Func}{rs:List ResultVar}{vs:List Value}{tmps:Array Value}{w:World}(h:fn.results=rs.toArray)(hr:RunAll P tmps w rs vs):(results fn tmps).run P w=.ok (if h:vs.length=1 then vs[0] else .tuple vs.toArray) w:=by
 unfold results;rw[h];simp only[List.mapM_toArray];rw[Sem.run_bind];have e:∀{α β:Type}(f:α→β)(x:Sem α),(f<$>x)=(x>>=fun y=>pure (f y)):=fun _ _=>rfl;rw[e,Sem.run_bind];refine (congrArg (fun r=>Result.andThen (Result.andThen r _) _) hr.run).trans ?_
 simp only[Result.andThen_ok,Sem.run_pure];congr 1
theorem zPm{ok:Nat→Prop}{σ:Nat→Loc}{s:St}{a:Act}{w:World}(h:Core ok σ s a w){σ':Nat→Loc}:∀{rs:List RS}{vs:List ResultVar}(k:Nat),FitsL P rs vs→okSL s rs=true→(∀(j:Nat) r,rs[j]?=some r→σ' (k+j)=locS σ s r)→
  ∃xs,RunAll P a.tmps w vs xs∧RelL ok σ' w (zDj s k rs).1 xs
 |[],_,k,.nil,_,_=>⟨[],.nil,trivial⟩
 | .t x::rs,_,k,.cons (v:=.tmp y) hf hs,hok,hσ=>by
  obtain rfl:x=y:=hf;obtain⟨xs,h1,h2⟩:=zPm h (k+1) hs (by simpa [okSL,okS] using hok) (fun j r hj=>by have:=hσ (j+1) r (by simpa using hj);rw[show k+1+j=k+(j+1) by omega];exact this)
  refine⟨a.tmps.getD x undef::xs,.cons (by simp[zPn]) h1,?_,h2⟩;refine zU9 h k x fun id hg=>?_
  have h3:=hσ 0 (.t x) rfl;simp only[locS,hg]at h3;exact h3
 | .w x n::rs,_,k,.cons (v:=.cell y ty) hf hs,hok,hσ=>by
  obtain⟨rfl,hwd⟩:=hf;simp only[okSL,okS,ze]at hok;obtain⟨xs,h1,h2⟩:=zPm h (k+1) hs hok.2 (fun j r hj=>by have:=hσ (j+1) r (by simpa using hj);rw[show k+1+j=k+(j+1) by omega];exact this)
  cases hm:jV s (s.get x) with
  |none=>rw[hm]at hok;simp at hok
  |some cs=>
   rw[hm]at hok;have hn:n≤cs.length:=by simpa using hok.1
   obtain⟨g,off,h3,h4⟩:=zHI h (h.tmp x) hm;obtain⟨us,h5,h6⟩:=zHM g off (cs.take n) 0 fun j c hj=>by
    have:=h4 j c (by
     rw[List.getElem?_take]at hj;split at hj
     ·exact hj
     ·cases hj)
    simpa using this
   have hl:us.length=n:=by rw[←h5.len];simp;omega
   have h7:=zJA (P:=P) hwd (g:=g) (off:=off) hl (fun j u hu=>by simpa using h6 j u hu);refine⟨.agg us.toArray::xs,.cons ?_ h1,?_,h2⟩
   ·simp only[zPn,h3,asAddr,Sem.run_bind,Sem.run_pure,Result.andThen_ok,h7]
   ·simp only[outS,hm];exact⟨_,rfl,by simpa using h5⟩
theorem zNA(s:St):∀(rs:List RS)(k:Nat),k+rs.length≤8→∀e,e≠0→(zDj s k rs).1.ment e=false
 |[],_,_,_,_=>rfl
 |r::rs,k,hk,e,he=>by
  simp only[List.length_cons]at hk;have h1:(outS s k r).1.ment e=false:=by
   cases r with
   |t x=>exact zTh s k x (by omega) e he
   |w x n=>simp only[outS];cases jV s (s.get x)<;>rfl
  simp only[zDj,AV.ment,h1,zNA s rs (k+1) (by omega) e he,Bool.or_self]
theorem zNB(s:St):∀(rs:List RS)(k id:Nat)(e:Ent),(zDj s k rs).2.lookup id=some e→k≤id∧id<k+rs.length∧∃x j,rs[id - k]?=some (.t x)∧s.get x=.ow j∧s.ent j=some e∧e.pin=false
 |[],k,id,e,h=>by simp[zDj]at h
 |r::rs,k,id,e,h=>by
  simp only[zDj,zDK]at h;cases h1:(outS s k r).2.lookup id with
  |some f=>
   rw[h1]at h;injection h with h;subst h;cases r with
   |t x=>obtain⟨e1,j,h2,h3⟩:=zTi s k x id f h1;subst e1;exact⟨Nat.le_refl _,by simp,x,j,by simp,h2,h3⟩
   |w x n=>simp only[outS]at h1;cases hm:jV s (s.get x)<;>simp[hm]at h1
  |none=>rw[h1]at h;obtain⟨a1,a2,u,j,a3,a4⟩:=zNB s rs (k+1) id e h;refine⟨by omega,by simp;omega,u,j,?_,a4⟩;rw[show id - k=(id - (k+1))+1 by omega];simpa using a3
theorem zKG(s:St):∀(rs:List RS)(j x id:Nat),rs[j]?=some (.t x)→s.get x=.ow id→id∈zFo s rs
 |[],j,x,id,h,_=>by simp at h
 |r::rs,0,x,id,h,hg=>by simp at h;subst h;simp[zFo,hg]
 | .t y::rs,j+1,x,id,h,hg=>by
  have:=zKG s rs j x id (by simpa using h) hg;unfold zFo;split
  ·exact List.mem_cons_of_mem _ this
  ·exact this
 | .w y n::rs,j+1,x,id,h,hg=>zKG s rs j x id (by simpa using h) hg
theorem zOr(s:St):∀(rs:List RS),zCd (zFo s rs)=true→∀(i j x y id:Nat),rs[i]?=some (.t x)→rs[j]?=some (.t y)→s.get x=.ow id→s.get y=.ow id→i=j
 |[],_,i,j,x,y,id,h,_,_,_=>by simp at h
 |r::rs,hn,i,j,x,y,id,hi,hj,gx,gy=>by
  have hn2:zCd (zFo s rs)=true:=by
   cases r with
   |w z n=>exact hn
   |t z=>
    unfold zFo at hn;split at hn
    ·simp only[zCd,ze]at hn;exact hn.2
    ·exact hn
  have clash:∀(k z:Nat),r=.t z→s.get z=.ow id→∀u,rs[k]?=some (.t u)→s.get u=.ow id→False:=by intro k z hr hz u hu hgu;subst hr;have hm:=zKG s rs k u id hu hgu;simp only[zFo,hz,zCd,ze,Bool.not_eq_true',List.contains_eq_mem,decide_eq_false_iff_not]at hn;exact hn.1 hm
  cases i with
  |zero=>
   cases j with
   |zero=>rfl
   |succ j=>exact (clash j x (by simpa using hi) gx y (by simpa using hj) gy).elim
  |succ i=>
   cases j with
   |zero=>exact (clash i y (by simpa using hj) gy x (by simpa using hi) gx).elim
   |succ j=>have:=zOr s rs hn2 i j x y id (by simpa using hi) (by simpa using hj) gx gy;omega
def Post(rs:List RS)(av:AV)(ne:List (Nat×Ent))(e:Exit)(s:St):Prop:=(e=.normal∨e=.ret)∧zCd (zFo s rs)=true∧okSL s rs=true∧zPr s rs=(av,ne)
structure NewX (B:Fr) (w w':World) (ok ok':Nat→Prop) (σ':Nat→Loc) (av:AV) (ne:List (Nat×Ent)) (v:Value):Prop where
  below:BelowX B w w'
  okM:∀g,ok g→ok' g
  okN:∀g,ok' g→ok g∨w.heap.size≤g
  okL:∀g,ok' g→g<w'.heap.size
  rel:Rel ok' σ' w' av v
  keys:∀id e,ne.lookup id=some e→id<8
  ids:∀e,e≠0→av.ment e=false
  ent:∀id e,ne.lookup id=some e→qW ok' w' (σ' id) e
  blk:∀id e g,ne.lookup id=some e→(σ' id).blk=some g→w.heap.size≤g∧¬ok' g∧g<w'.heap.size
  inj:∀i j e f g,ne.lookup i=some e→ne.lookup j=some f→(σ' i).blk=some g→(σ' j).blk=some g→i=j
  np:∀id e,ne.lookup id=some e→e.pin=false
def Ent.pinned(l:Loc):Ent→Ent
 | .box cs=>.pbox l cs
 | .arr T sz els=>.parr l T sz els
 |e=>e
def pinE(σ:Nat→Loc):List (Nat×Ent)→List (Nat×Ent)
 |[]=>[]
 |(k,e)::ps=>(k,e.pinned (σ k))::pinE σ ps
theorem zKF(σ:Nat→Loc):∀(E:List (Nat×Ent))(id:Nat),(pinE σ E).lookup id=(E.lookup id).map (Ent.pinned (σ id))
 |[],id=>rfl
 |(k,e)::ps,id=>by
  simp only[pinE,List.lookup];cases h:id==k with
  |true=>
   have:id=k:=by simpa using h
   subst this;rfl
  |false=>exact zKF σ ps id
theorem zKE{ok:Nat→Prop}{w:World}{l:Loc}{e:Ent}(h:qW ok w l e)(hp:e.plain=true):qW ok w l (e.pinned l):=by
 cases e with
 |box cs=>exact⟨rfl,h⟩
 |arr T sz els=>exact⟨rfl,h⟩
 |pbox l0 cs=>cases hp
 |parr l0 T sz els=>cases hp
 |mp b kvs=>cases hp
 |qarr l0 T sz els=>cases hp
theorem zTg{ok:Nat→Prop}{w:World}{l l0:Loc}{e:Ent}(h:qW ok w l (e.pinned l0))(hp:e.plain=true):l=l0∧qW ok w l e:=by
 cases e with
 |box cs=>exact h
 |arr T sz els=>exact h
 |pbox l1 cs=>cases hp
 |parr l1 T sz els=>cases hp
 |mp b kvs=>cases hp
 |qarr l0 T sz els=>cases hp
theorem zIX{l:Loc}{e:Ent}(hp:e.plain=true):(e.pinned l).pin=true:=by
 cases e with
 |box cs=>rfl
 |arr T sz els=>rfl
 |pbox l0 cs=>cases hp
 |parr l0 T sz els=>cases hp
 |mp b kvs=>cases hp
 |qarr l0 T sz els=>cases hp
def exOf(σ:Nat→Loc)(E0:List (Nat×Ent))(g:Nat):Prop:=∃id e,E0.lookup id=some e∧(σ id).blk=some g
structure Held (ok:Nat→Prop) (σ:Nat→Loc) (w:World) (E0:List (Nat×Ent)):Prop where
  ent:∀id e,E0.lookup id=some e→qW ok w (σ id) e∧e.plain=true
  blk:∀id e g,E0.lookup id=some e→(σ id).blk=some g→¬ok g∧g<w.heap.size
  inj:∀i j e f g,E0.lookup i=some e→E0.lookup j=some f→(σ i).blk=some g→(σ j).blk=some g→i=j
def zFy(P:Program)(f:FuncId)(args:List AV)(E0:List (Nat×Ent))(av:AV)(ne E1:List (Nat×Ent)):Prop:=
 ∀ok σ w vs,(∀g,ok g→g<w.heap.size)→Lb ok w→RelA ok σ w args vs→Held ok σ w E0→Calls P f vs.toArray w (fun e w'=>∃v ok' σ',e=.returned v∧NewX ⟨fun g=>w.heap.size≤g,exOf σ E0⟩ w w' ok ok' σ' av ne v∧∀id e,E1.lookup id=some e→qW ok' w' (σ id) e)
def HasE(s:St):List (Nat×Ent)→Prop
 |[]=>True
 |(k,e)::ps=>s.ent k=some e∧HasE s ps
theorem zKd(s:St):∀(E:List (Nat×Ent))(id:Nat)(e:Ent),HasE s E→E.lookup id=some e→s.ent id=some e
 |[],id,e,_,h=>by simp at h
 |(k,f)::ps,id,e,hs,h=>by
  simp only[List.lookup]at h;cases hk:id==k with
  |true=>
   have:id=k:=by simpa using hk
   subst this;rw[hk]at h;injection h with h;subst h;exact hs.1
  |false=>rw[hk]at h;exact zKd s ps id e hs.2 h
def zEn:List (Nat×Ent)→Bool
 |[]=>true
 |p::ps=>p.2.plain&&zEn ps
theorem zEK:∀(E:List (Nat×Ent))(id:Nat)(e:Ent),zEn E=true→E.lookup id=some e→e.plain=true
 |[],id,e,_,h=>by simp at h
 |(k,f)::ps,id,e,hs,h=>by
  simp only[zEn,ze,Bool.not_eq_true']at hs;simp only[List.lookup]at h;cases hk:id==k with
  |true=>rw[hk]at h;injection h with h;subst h;exact hs.1
  |false=>rw[hk]at h;exact zEK ps id e hs.2 h
def zXZ(rs:List RS)(av:AV)(ne Ep:List (Nat×Ent))(e:Exit)(s:St):Prop:=Post rs av ne e s∧HasE s Ep
theorem RelA.initE{ok:Nat→Prop}{σ:Nat→Loc}{w:World}{args:List AV}{vs:List Value}(E:List (Nat×Ent))(h:RelA ok σ w args vs)(n t:Nat):
  Rel ok σ w (St.get ⟨args++List.replicate (n - args.length) .bot,E⟩ t) ((vs.toArray++Array.replicate (n - vs.toArray.size) undef).getD t undef):=h.init n t
def zWB(P:Program)(f:FuncId)(σ:Nat→Loc)(args:List AV)(E0:List (Nat×Ent))(av:AV)(ne E1:List (Nat×Ent)):Prop:=
 ∀ok w vs,(∀g,ok g→g<w.heap.size)→Lb ok w→RelA ok σ w args vs→Held ok σ w E0→Calls P f vs.toArray w (fun e w'=>∃v ok' σ',e=.returned v∧NewX ⟨fun g=>w.heap.size≤g,exOf σ E0⟩ w w' ok ok' σ' av ne v∧∀id e,E1.lookup id=some e→qW ok' w' (σ id) e)
theorem zNu{f:FuncId}{fn:Func}{c:Code}{σ:Nat→Loc}{args:List AV}{E0 E1:List (Nat×Ent)}{av:AV}{ne:List (Nat×Ent)}{rs:List RS}{vs:List ResultVar}(hf:P.funcs[f]?=some fn)(hb:fn.body=some c)(hvs:fn.results=vs.toArray)(hfit:FitsL P rs vs)(hl:rs.length≤8)(n:Nat)(hn:fn.ntmps=n)
  (hnp:zEn E1=true) (h:V P c ⟨args++List.replicate (n - args.length) .bot,pinE σ E0⟩ (zXZ rs av ne (pinE σ E1))):zWB P f σ args E0 av ne E1:=by
 intro ok w zs hok hlib hargs hheld;refine calls_of_wp hf hb ?_
 subst hn;have look0:∀id e,(pinE σ E0).lookup id=some e→∃f,E0.lookup id=some f∧e=f.pinned (σ id):=by
  intro id e he;rw[zKF]at he;cases h1:E0.lookup id with
  |none=>rw[h1]at he;cases he
  |some f=>rw[h1]at he;injection he with he;exact⟨f,rfl,he.symm⟩
 have hR:R ⟨fun g=>w.heap.size≤g,exOf σ E0⟩ w ok ok σ ⟨args++List.replicate (fn.ntmps - args.length) .bot,pinE σ E0⟩ {tmps:=zs.toArray++Array.replicate (fn.ntmps - zs.toArray.size) undef,defers:=[]} w:=by
  refine⟨⟨?_,hok,hlib,fun t=>hargs.initE _ fn.ntmps t,fun id e he=>?_,fun id e g he hg=>?_,fun i j e f g hi hj h1 h2=>?_⟩,rfl,BelowX.refl _ _,fun _ h=>h,fun g hg=>hg,fun g hg=>.inl hg,fun id e g he hg=>?_⟩
  ·simp[hargs.len]
  ·obtain⟨f,h1,rfl⟩:=look0 id e he;obtain⟨h2,h3⟩:=hheld.ent id f h1;exact zKE h2 h3
  ·obtain⟨f,h1,rfl⟩:=look0 id e he;exact hheld.blk id f g h1 hg
  ·obtain⟨f1,a1,rfl⟩:=look0 i e hi;obtain⟨f2,a2,rfl⟩:=look0 j f hj;exact hheld.inj i j f1 f2 g a1 a2 h1 h2
  ·obtain⟨f,h1,rfl⟩:=look0 id e he;obtain⟨h2,h3⟩:=hheld.ent id f h1;rw[if_pos (zIX h3)];exact⟨id,f,h1,hg⟩
 refine wp_mono (h _ _ _ _ _ _ _ hR) ?_
 rintro e a' w' ⟨s',ok',σ',⟨⟨he,hd,hoks,ho⟩,hE⟩,hR'⟩;have hσk:∀(j:Nat) r,rs[j]?=some r→zMz σ' s' rs (0+j)=locS σ' s' r:=fun j r hj=>by unfold zMz;rw[Nat.zero_add,hj]
 obtain⟨xs,hrun,hrel⟩:=zPm (σ':=zMz σ' s' rs) hR'.core 0 hfit hoks hσk;have hlen:rs.length=vs.length:=by
  clear hrel hrun hσk ho hoks hd h hl hvs
  induction hfit with
  |nil=>rfl
  |cons _ _ ih=>simp[ih]
 have hres:=zRE hvs hrun;have hne2:∀id e,ne.lookup id=some e→(zDj s' 0 rs).2.lookup id=some e:=by
  intro id e hh
  match rs,ho with
  |[r],ho=>have h2:outS s' 0 r=(av,ne):=ho;show ((outS s' 0 r).2++[]).lookup id=some e;rw[List.append_nil,h2];exact hh
  |[],ho=>have h2:zDj s' 0 []=(av,ne):=ho;rw[h2];exact hh
  |r1::r2::rs,ho=>have h2:zDj s' 0 (r1::r2::rs)=(av,ne):=ho;rw[h2];exact hh
 have look:∀id e,ne.lookup id=some e→id<8∧∃x j,rs[id]?=some (.t x)∧s'.get x=.ow j∧s'.ent j=some e∧zMz σ' s' rs id=σ' j∧e.pin=false:=by
  intro id e hh;obtain⟨_,h2,x,j,h3,h4,h5,h7⟩:=zNB s' rs 0 id e (hne2 id e hh);have h6:rs[id]?=some (.t x):=h3
  refine⟨by omega,x,j,h6,h4,h5,?_,h7⟩;unfold zMz;rw[h6];simp only[locS,h4]
 obtain⟨v,hv,hvr⟩:∃v,(results fn a'.tmps).run P w'=.ok v w'∧Rel ok' (zMz σ' s' rs) w' av v:=by
  refine⟨_,hres,?_⟩;have hxl:=hrun.len
  match rs,ho,hrel with
  |[r],ho,hrel=>
   have h2:outS s' 0 r=(av,ne):=ho;have h1:xs.length=1:=by rw[←hxl,←hlen];rfl
   rw[dif_pos h1]
   match xs,h1,hrel with
   |[x],_,hrel=>
    have h3:=hrel.1;have h4:(outS s' 0 r).1=av:=by rw[h2]
    rw[h4]at h3;exact zHG h3
  |[],ho,hrel=>
   have h2:zDj s' 0 []=(av,ne):=ho;have h1:¬xs.length=1:=by rw[←hxl,←hlen];simp
   rw[dif_neg h1];have h4:av=.tn:=by
    have h5:(zDj s' 0 []).1=av:=by rw[h2]
    exact h5.symm
   subst h4;exact⟨_,rfl,hrel⟩
  |r1::r2::rs,ho,hrel=>
   have h2:zDj s' 0 (r1::r2::rs)=(av,ne):=ho;have h1:¬xs.length=1:=by rw[←hxl,←hlen];simp
   rw[dif_neg h1];have h4:av=.tc (outS s' 0 r1).1 (zDj s' 1 (r2::rs)).1:=by
    have h5:(zDj s' 0 (r1::r2::rs)).1=av:=by rw[h2]
    exact h5.symm
   subst h4;exact⟨_,rfl,hrel⟩
 have hment:∀e,e≠0→av.ment e=false:=by
  intro e he;have h1:=zNA s' rs 0 (by omega) e he
  match rs,ho,h1 with
  |[r],ho,h1=>have h2:outS s' 0 r=(av,ne):=ho;have h3:((outS s' 0 r).1.ment e||AV.ment e .tn)=false:=h1;rw[h2]at h3;simpa [AV.ment] using h3
  |[],ho,h1=>have h2:zDj s' 0 []=(av,ne):=ho;rw[h2]at h1;exact h1
  |r1::r2::rs,ho,h1=>have h2:zDj s' 0 (r1::r2::rs)=(av,ne):=ho;rw[h2]at h1;exact h1
 have hnew:NewX ⟨fun g=>w.heap.size≤g,exOf σ E0⟩ w w' ok ok' (zMz σ' s' rs) av ne v:=by
  refine⟨hR'.below,hR'.old,hR'.fresh,hR'.core.okL,hvr,fun id e he=>(look id e he).1,hment,fun id e he=>?_,fun id e g he hg=>?_,fun i j e f g hi hj h1 h2=>?_,fun id e he=>?_⟩
  ·obtain⟨_,t,j,h3,h4,h5,h6,_⟩:=look id e he;rw[h6];exact hR'.core.ent j e h5
  ·obtain⟨_,t,j,h3,h4,h5,h6,h7⟩:=look id e he;rw[h6]at hg;have h8:=hR'.own j e g h5 hg;rw[if_neg (by rw[h7];decide)]at h8;exact⟨h8,hR'.core.blk j e g h5 hg⟩
  ·obtain⟨_,t,p,a3,a4,a5,a6,_⟩:=look i e hi;obtain⟨_,u,q,b3,b4,b5,b6,_⟩:=look j f hj;rw[a6]at h1;rw[b6]at h2;have e1:=hR'.core.inj p q e f g a5 b5 h1 h2;subst e1;exact zOr s' rs hd i j t u p a3 b3 a4 b4
  ·obtain⟨_,t,j,h3,h4,h5,h6,h7⟩:=look id e he;exact h7
 have hend:∀id e,E1.lookup id=some e→qW ok' w' (σ id) e:=by
  intro id e he;have h1:(pinE σ E1).lookup id=some (e.pinned (σ id)):=by rw[zKF,he];rfl
  have h2:=hR'.core.ent id _ (zKd s' _ id _ hE h1);have h3:=zEK E1 id e hnp he;obtain⟨h4,h5⟩:=zTg h2 h3;rw[h4]at h5;exact h5
 have hpost:bodyPost P fn (fun e w'=>∃v ok' σ',e=.returned v∧NewX ⟨fun g=>w.heap.size≤g,exOf σ E0⟩ w w' ok ok' σ' av ne v∧∀id e,E1.lookup id=some e→qW ok' w' (σ id) e) .ret a' w':=⟨hR'.defers,v,hv,v,ok',_,rfl,hnew,hend⟩
 rcases he with rfl|rfl
 ·exact hpost
 ·exact hpost
theorem zIB{f:FuncId}{fn:Func}{c:Code}{args:List AV}{E0 E1:List (Nat×Ent)}{av:AV}{ne:List (Nat×Ent)}{rs:List RS}{vs:List ResultVar}(hf:P.funcs[f]?=some fn)(hb:fn.body=some c)(hvs:fn.results=vs.toArray)(hfit:FitsL P rs vs)(hl:rs.length≤8)(n:Nat)(hn:fn.ntmps=n)
  (hnp:zEn E1=true) (h:∀σ,V P c ⟨args++List.replicate (n - args.length) .bot,pinE σ E0⟩ (zXZ rs av ne (pinE σ E1))):zFy P f args E0 av ne E1:=
 fun ok σ w zs hok hlib hargs hheld=>zNu hf hb hvs hfit hl n hn hnp (h σ) ok w zs hok hlib hargs hheld
theorem qP{f:FuncId}{fn:Func}{c:Code}{args:List AV}{av:AV}{ne:List (Nat×Ent)}{rs:List RS}{vs:List ResultVar}(hf:P.funcs[f]?=some fn)(hb:fn.body=some c)(hvs:fn.results=vs.toArray)(hfit:FitsL P rs vs)(hl:rs.length≤8)(n:Nat)(hn:fn.ntmps=n)
  (h:V P c ⟨args++List.replicate (n - args.length) .bot,[]⟩ (Post rs av ne)):zF P f args av ne:=by
 have h2:zFy P f args [] av ne []:=zIB hf hb hvs hfit hl n hn rfl fun σ=>zIb h fun e s hp=>⟨hp,trivial⟩
 intro ok σ w zs hok hlib hargs;refine Calls.mono (h2 ok σ w zs hok hlib hargs ⟨fun id e h=>by simp at h,fun id e g h=>by simp at h,fun i j e f g h=>by simp at h⟩) ?_
 rintro e w' ⟨v,ok',σ',he,hn,_⟩;have hb:Below w.heap.size w w':=⟨hn.below.os,hn.below.tape,hn.below.output,hn.below.size,fun k hk=>hn.below.block k (Nat.not_le_of_lt hk) fun⟨id,e,h,_⟩=>by simp at h⟩
 exact⟨v,ok',σ',he,hb,hn.okM,hn.okN,hn.okL,hn.rel,hn.keys,hn.ids,hn.ent,hn.blk,hn.inj,hn.np⟩
end
theorem zJg{n:Int}(h:n.natAbs<9223372036854775808):IntKind.i64.wrap n=n:=by rw[IntKind.wrap_i64];omega
def w64:Int→Int
 | .ofNat m=>bif Nat.blt m 9223372036854775808 then .ofNat m else IntKind.i64.wrap (.ofNat m)
 | .negSucc m=>bif Nat.blt m 9223372036854775807 then .negSucc m else IntKind.i64.wrap (.negSucc m)
theorem zID:(n:Int)→w64 n=IntKind.i64.wrap n
 | .ofNat m=>by
  show (bif Nat.blt m 9223372036854775808 then Int.ofNat m else IntKind.i64.wrap (.ofNat m))=_;cases h:Nat.blt m 9223372036854775808 with
  |false=>exact cond_false _ _
  |true=>rw[cond_true];exact (zJg (by have:=Nat.ble_eq.mp (show Nat.ble (m+1) 9223372036854775808=true from h);rw[Int.natAbs_ofNat'];omega)).symm
 | .negSucc m=>by
  show (bif Nat.blt m 9223372036854775807 then Int.negSucc m else IntKind.i64.wrap (.negSucc m))=_;cases h:Nat.blt m 9223372036854775807 with
  |false=>exact cond_false _ _
  |true=>rw[cond_true];exact (zJg (by have:=Nat.ble_eq.mp (show Nat.ble (m+1) 9223372036854775807=true from h);rw[Int.natAbs_negSucc];omega)).symm
theorem zA{n:Int}(h:-9223372036854775808≤n∧n≤9223372036854775807):w64 n=n:=by rw[zID,IntKind.wrap_i64];omega
def FU:Nat:=1000000000
def ltI:Int→Int→Bool
 | .ofNat a,.ofNat b=>Nat.blt a b
 | .ofNat _,.negSucc _=>false
 | .negSucc _,.ofNat _=>true
 | .negSucc a,.negSucc b=>Nat.blt b a
def leI:Int→Int→Bool
 | .ofNat a,.ofNat b=>Nat.ble a b
 | .ofNat _,.negSucc _=>false
 | .negSucc _,.ofNat _=>true
 | .negSucc a,.negSucc b=>Nat.ble b a
theorem zV(a b:Int):ltI a b=decide (a<b):=by rw[Bool.eq_iff_iff,zp];cases a<;>cases b<;>simp only[ltI,Nat.blt,Nat.ble_eq,Bool.false_eq_true,false_iff,true_iff,Int.ofNat_eq_natCast]<;>omega
theorem jL(a b:Int):leI a b=decide (a≤b):=by rw[Bool.eq_iff_iff,zp];cases a<;>cases b<;>simp only[leI,Nat.ble_eq,Bool.false_eq_true,false_iff,true_iff,Int.ofNat_eq_natCast]<;>omega
def mxI(a b:Int):Int:=bif ltI a b then b else a
def mnI(a b:Int):Int:=bif ltI b a then b else a
def getI{α:Type}(xs:List α)(i:Int):Option α:=bif leI 0 i then xs[i.toNat]? else none
theorem zBl{α:Type}{xs:List α}{i:Int}{x:α}(h:getI xs i=some x):0≤i∧xs[i.toNat]?=some x:=by
 unfold getI at h;rw[jL]at h;cases hd:decide (0≤i) with
 |false=>rw[hd]at h;cases h
 |true=>rw[hd]at h;exact⟨by simpa using hd,h⟩
def eqI:Int→Int→Bool
 | .ofNat a,.ofNat b=>Nat.beq a b
 | .ofNat _,.negSucc _=>false
 | .negSucc _,.ofNat _=>false
 | .negSucc a,.negSucc b=>Nat.beq a b
theorem zBF(a b:Int):eqI a b=(a==b):=by rw[Bool.eq_iff_iff,beq_iff_eq];cases a<;>cases b<;>simp only[eqI,Nat.beq_eq,Bool.false_eq_true,false_iff,Int.ofNat_eq_natCast]<;>omega
def shrI(k:IntKind)(a b:Int):Int:=a.fdiv (2 ^(min b.toNat k.bits))
def shlI(k:IntKind)(a b:Int):Int:=k.wrap (a*2 ^(min b.toNat k.bits))
def andI(k:IntKind)(a b:Int):Int:=k.wrap (BitVec.ofInt k.bits a&&& BitVec.ofInt k.bits b).toNat
def orI(k:IntKind)(a b:Int):Int:=k.wrap (BitVec.ofInt k.bits a|||BitVec.ofInt k.bits b).toNat
def xorI(k:IntKind)(a b:Int):Int:=k.wrap (BitVec.ofInt k.bits a ^^^BitVec.ofInt k.bits b).toNat
def slc(n:Nat)(l h:Int):Option Unit:=bif leI 0 l&&(leI l h&&leI h n) then some () else none
def subl{α:Type}(xs:List α)(l h:Int):List α:=(xs.drop l.toNat).take (h.toNat - l.toNat)
def nz(b:Int):Option Unit:=bif eqI b 0 then none else some ()
theorem zH8{b:Int}{u:Unit}(h:nz b=some u):b≠0:=by unfold nz at h;intro e;subst e;cases h
def mk(l c:Int):Option Unit:=bif leI 0 l&&(leI l c&&leI c 1099511627776) then some () else none
theorem zTD{l c:Int}{u:Unit}(h:mk l c=some u):0≤l∧l≤c∧c≤1099511627776:=by
 unfold mk at h;cases hb:(leI 0 l&&(leI l c&&leI c 1099511627776)) with
 |false=>rw[hb]at h;cases h
 |true=>simpa [jL] using hb
def room(n:Nat):Option Unit:=bif Nat.ble n 1099511627776 then some () else none
theorem zEF{n:Nat}{u:Unit}(h:room n=some u):n≤1099511627776:=by
 unfold room at h;cases hb:Nat.ble n 1099511627776 with
 |false=>rw[hb]at h;cases h
 |true=>exact Nat.le_of_ble_eq_true hb
theorem zI{α β:Type}{x:Option α}{f:α→Option β}{r:β}(h:x.bind f=some r):∃y,x=some y∧f y=some r:=by
 cases x with
 |none=>cases h
 |some y=>exact⟨y,rfl,h⟩
def fN{α:Type}(m:Nat)(f:Nat→α):α:=Nat.casesOn (motive:=fun _=>α) m (f 0) (fun k=>f (k+1))
theorem zVJ{α:Type}(m:Nat)(f:Nat→α):fN m f=f m:=by cases m<;>rfl
def sI{α:Type}(x:Int)(f:Int→α):α:=Int.casesOn (motive:=fun _=>α) x (fun m=>fN m fun m=>f (.ofNat m)) (fun m=>fN m fun m=>f (.negSucc m))
theorem zP{α:Type}(x:Int)(f:Int→α):sI x f=f x:=by
 cases x with
 |ofNat m=>exact zVJ m (fun m=>f (.ofNat m))
 |negSucc m=>exact zVJ m (fun m=>f (.negSucc m))
theorem zE3{β:Type}{x:Int}{f:Int→Option β}{r:β}(h:sI x f=some r):∃y,x=y∧f y=some r:=⟨x,rfl,by rw[←zP x f];exact h⟩
theorem zBw{α:Type}{c:Bool}{x y:Option α}{r:α}(h:(bif c then x else y)=some r)(hc:c=true):x=some r:=by subst hc;exact h
theorem zBE{α:Type}{c:Bool}{x y:Option α}{r:α}(h:(bif c then x else y)=some r)(hc:c=false):y=some r:=by subst hc;exact h
theorem qB{α:Type}{x y:α}(h:some x=some y):x=y:=by injection h
section
variable {P:Program}
@[reducible] def I (n:Int):AV:=.c (.v (.int .i64 n))
@[reducible] def Bo (b:Bool):AV:=.c (.v (.bool b))
@[reducible] def Ti (n:Int):Tr:=.v (.int .i64 n)
@[reducible] def Tb (b:Bool):Tr:=.v (.bool b)
theorem zCP{o:Oper}{s:St}{x y:Operand}{t t2:TypeId}{a b:Int}(ho:o.op=.binOp .add t x y t2)(hx:s.ev x=.c (.v (.int .i64 a)))(hy:s.ev y=.c (.v (.int .i64 b))):Y0 P o s (I (w64 (a+b))):=by rw[zID];exact zVj ho hx hy
theorem zNj{o:Oper}{s:St}{x y:Operand}{t t2:TypeId}{a b:Int}(ho:o.op=.binOp .sub t x y t2)(hx:s.ev x=.c (.v (.int .i64 a)))(hy:s.ev y=.c (.v (.int .i64 b))):Y0 P o s (I (w64 (a - b))):=by rw[zID];exact zVd ho hx hy
theorem zNl{o:Oper}{s:St}{x y:Operand}{t t2:TypeId}{a b:Int}(ho:o.op=.binOp .mul t x y t2)(hx:s.ev x=.c (.v (.int .i64 a)))(hy:s.ev y=.c (.v (.int .i64 b))):Y0 P o s (I (w64 (a*b))):=by rw[zID];exact zVg ho hx hy
theorem zNk{o:Oper}{s:St}{x y:Operand}{t t2:TypeId}{a b:Int}(ho:o.op=.binOp .quo t x y t2)(hx:s.ev x=.c (.v (.int .i64 a)))(hy:s.ev y=.c (.v (.int .i64 b)))(h0:b≠0):Y0 P o s (I (w64 (a.tdiv b))):=by rw[zID];exact zS8 ho hx hy h0
theorem zRc{o:Oper}{s:St}{x:Operand}{t:TypeId}{a:Int}(ho:o.op=.unOp .neg t x)(hx:s.ev x=.c (.v (.int .i64 a))):Y0 P o s (I (w64 (0 - a))):=by rw[zID];exact zVf ho hx
theorem zDF{o:Oper}{s:St}{x y:Operand}{t t2:TypeId}{k:IntKind}{a b:Int}(ho:o.op=.binOp .lss t x y t2)(hx:s.ev x=.c (.v (.int k a)))(hy:s.ev y=.c (.v (.int k b))):Y0 P o s (Bo (ltI a b)):=by rw[zV];exact Y0_lt ho hx hy
theorem zSb{o:Oper}{s:St}{x y:Operand}{t t2:TypeId}{k:IntKind}{a b:Int}(ho:o.op=.binOp .leq t x y t2)(hx:s.ev x=.c (.v (.int k a)))(hy:s.ev y=.c (.v (.int k b))):Y0 P o s (Bo (leI a b)):=by rw[jL];exact Y0_le ho hx hy
theorem zSc{o:Oper}{s:St}{x y:Operand}{t t2:TypeId}{k:IntKind}{a b:Int}(ho:o.op=.binOp .gtr t x y t2)(hx:s.ev x=.c (.v (.int k a)))(hy:s.ev y=.c (.v (.int k b))):Y0 P o s (Bo (ltI b a)):=by rw[zV];exact Y0_gt ho hx hy
theorem zNm{o:Oper}{s:St}{x y:Operand}{t t2:TypeId}{k:IntKind}{a b:Int}(ho:o.op=.binOp .geq t x y t2)(hx:s.ev x=.c (.v (.int k a)))(hy:s.ev y=.c (.v (.int k b))):Y0 P o s (Bo (leI b a)):=by rw[jL];exact Y0_ge ho hx hy
theorem zIa{o:Oper}{s:St}{x y:Operand}{t t2:TypeId}{k:IntKind}{a b:Int}(ho:o.op=.binOp .eql t x y t2)(hx:s.ev x=.c (.v (.int k a)))(hy:s.ev y=.c (.v (.int k b))):Y0 P o s (Bo (eqI a b)):=by rw[zBF];exact Y0_eq ho hx hy
theorem zSa{o:Oper}{s:St}{x y:Operand}{t t2:TypeId}{k:IntKind}{a b:Int}(ho:o.op=.binOp .neq t x y t2)(hx:s.ev x=.c (.v (.int k a)))(hy:s.ev y=.c (.v (.int k b))):Y0 P o s (Bo (!eqI a b)):=by rw[zBF];exact Y0_ne ho hx hy
theorem zDS{α:Type}{c:α→List Tr}{xs:List α}{o:Oper}{s:St}{x:Operand}{t e:TypeId}(hu:P.underlying t=some (.slice e))(ho:o.op=.call {callee:=.builtin .len,args:=#[x],argTypes:=#[t]})(hx:zBT s (s.ev x)=some (xs.map c)):Y0 P o s (I (xs.length:Int)):=by have h:=zYv (P:=P) hu ho hx;rw[List.length_map]at h;exact h
theorem zJ4{α:Type}{c:α→List Tr}{xs:List α}{v:α}{o:Oper}{s:St}{t e:TypeId}{x ix:Operand}{n:Int}(hu:P.underlying t=some (.slice e))(hsz:(P.info? e).map (·.size)=some (c v).length)(ho:o.op=.indexAddr t x ix)(hx:s.ev x=.c (.sl (xs.map c)))(hi:s.ev ix=.c (.v (.int .i64 n)))
  (he:getI xs n=some v):Y0 P o s (.pe (c v)):=by
 obtain⟨h1,h2⟩:=zBl he;exact zYw hu ⟨_,hsz,rfl⟩ ho hx hi h1 (by rw[List.getElem?_map,h2];rfl)
theorem zDL{α:Type}{c:α→List Tr}{xs:List α}{v:α}{o:Oper}{s:St}{t e:TypeId}{x ix:Operand}{id T sz:Nat}{n:Int}(hu:P.underlying t=some (.slice e))(hsz:(P.info? e).map (·.size)=some sz)(ho:o.op=.indexAddr t x ix)(hx:s.ev x=.ow id)(he:s.entc id=some (.arr T sz (xs.map c)))
  (hi:s.ev ix=.c (.v (.int .i64 n))) (hv:getI xs n=some v):Y0 P o s (.po id sz n.toNat 0):=by
 obtain⟨h1,h2⟩:=zBl hv;refine zQ5 hu hsz ho hx he hi h1 ?_
 rw[List.length_map];rcases Nat.lt_or_ge n.toNat xs.length with h|h
 ·exact h
 ·rw[List.getElem?_eq_none h]at h2;cases h2
theorem memM{α:Type}{c:α→List Tr}{xs:List α}{v:α}{s:St}{id sz T off:Nat}{n:Int}(he:s.entc id=some (.arr T sz (xs.map c)))(hv:getI xs n=some v):jV s (.po id sz n.toNat off)=some ((c v).drop off):=by obtain⟨h1,h2⟩:=zBl hv;unfold jV;simp[he,h2]
theorem zEe{α:Type}{c:α→List Tr}{xs:List α}{v:α}{o:Oper}{s:St}{t:TypeId}{x:Operand}{id sz T off:Nat}{n:Int}{d:Tr}{ds:List Tr}(hs:zIN P t)(ho:o.op=.load t x)(hx:s.ev x=.po id sz n.toNat off)(he:s.entc id=some (.arr T sz (xs.map c)))(hv:getI xs n=some v)
  (hd:(c v).drop off=d::ds):Y0 P o s (.c d):=
 qI hs ho (by rw[hx,memM he hv,hd])
theorem zTz{α:Type}{c:α→List Tr}{xs:List α}{v:α}{o:Oper}{s:St}{t:TypeId}{x:Operand}{id sz T off m:Nat}{n:Int}{cs:List Tr}(hs:wide P t m)(ho:o.op=.load t x)(hx:s.ev x=.po id sz n.toNat off)(he:s.entc id=some (.arr T sz (xs.map c)))(hv:getI xs n=some v)
  (hd:(c v).drop off=cs) (hm:m≤cs.length):Y0 P o s (.ag (cs.take m)):=
 zRd hs ho (by rw[hx,memM he hv,hd]) hm
theorem zEf{α:Type}{c:α→List Tr}{xs ys:List α}{o:Oper}{s:St}{x y:Operand}{t e d id sz bytes:Nat}{z:Value}(ho:o.op=.call {callee:=.builtin .append,args:=#[x,y],argTypes:=#[t,t]})(hd:o.dst=some d)(ht:P.underlying t=some (.slice e))
  (hi:(P.info? e).map (fun i=>(i.zero,i.size,i.bytes))=some (some z,sz,bytes)) (hzs:z.cells.size=sz) (hx:s.ev x=.ow id) (he:s.ent id=some (.arr e sz (xs.map c))) (hy:zBT s (s.ev y)=some (ys.map c)) (hc:∀v,(c v).length=sz) (hne:ys≠[])
  (hr:xs.length+ys.length≤1099511627776) (hby:bytes≤128):X P o s ⟨(zBx id s.T).set d (.ow id),setE id (.arr e sz ((xs++ys).map c)) s.E⟩:=by
 rw[List.map_append];refine zVo ho hd ht hi hzs hx he hy (fun el hel=>?_) (by simpa using hne) (by simpa using hr) hby;obtain⟨v,_,rfl⟩:=List.mem_map.1 hel;exact hc v
theorem zHe{α:Type}{c:α→List Tr}{xs:List α}{v u:α}{o:Oper}{s:St}{t:TypeId}{x y:Operand}{id sz off T0:Nat}{n:Int}{vc:List Tr}(ho:o.op=.store t x y)(hd:o.dst=none)(hx:s.ev x=.po id sz n.toNat off)(he:s.ent id=some (.arr T0 sz (xs.map c)))(hv:getI xs n=some v)
  (hy:zAE (s.ev y)=some vc) (hi:(P.info? t).map (·.size)=some vc.length) (hl:off+vc.length≤(c v).length) (hu:splice (c v) off vc=c u):X P o s ⟨s.T,setE id (.arr T0 sz ((xs.set n.toNat u).map c)) s.E⟩:=by
 obtain⟨h1,h2⟩:=zBl hv;rw[List.map_set,←hu];exact zNn ho hd hx he (by rw[List.getElem?_map,h2];rfl) hy hi hl
def zFO:List Bool→List AV→List AV
 |b::bs,x::xs=>(bif b then x else .bot)::zFO bs xs
 |_,_=>[]
def zOx(ids:List Nat):List (Nat×Ent)→List (Nat×Ent)
 |[]=>[]
 |p::ps=>bif ids.elem p.1 then p::zOx ids ps else zOx ids ps
def St.keep(s:St)(m:List Bool)(ids:List Nat):St:=⟨zFO m s.T,zOx ids s.E⟩
theorem zKL:∀(m:List Bool)(T:List AV)(t:Nat),((zFO m T)[t]?).getD .bot=.bot∨((zFO m T)[t]?).getD .bot=(T[t]?).getD .bot
 |[],T,t=>by simp[zFO]
 |_::_,[],t=>by simp[zFO]
 |b::bs,x::xs,0=>by cases b<;>simp[zFO]
 |b::bs,x::xs,t+1=>by simpa [zFO] using zKL bs xs t
theorem zKK:∀(m:List Bool)(T:List AV),(zFO m T).length≤T.length
 |[],T=>by simp[zFO]
 |_::_,[]=>by simp[zFO]
 |b::bs,x::xs=>by simpa [zFO] using zKK bs xs
theorem zIZ(ids:List Nat):∀(E:List (Nat×Ent))(id:Nat)(e:Ent),(zOx ids E).lookup id=some e→ids.elem id=true∧E.lookup id=some e
 |[],id,e,h=>by simp[zOx]at h
 |(p1,p2)::ps,id,e,h=>by
  simp only[zOx]at h;cases hb:ids.elem p1 with
  |true=>
   rw[hb]at h;simp only[cond_true,List.lookup]at h ⊢;split
   ·rename_i hq;rw[hq]at h;have:id=p1:=by simpa using hq
    subst this;exact⟨hb,h⟩
   ·rename_i hq;rw[hq]at h;exact zIZ ids ps id e h
  |false=>
   rw[hb]at h;obtain⟨h0,h1⟩:=zIZ ids ps id e h;refine⟨h0,?_⟩;simp only[List.lookup];split
   ·rename_i hq;have:id=p1:=by simpa using hq
    subst this;rw[hb]at h0;cases h0
   ·exact h1
theorem zLy(m:List Bool)(ids:List Nat)(s:St):Le (s.keep m ids) s:=
 ⟨zKK m s.T,fun t=>zKL m s.T t,fun id e h=>(zIZ ids s.E id e h).2⟩
theorem zF8(m:List Bool)(ids:List Nat){c:Code}{s s':St}{J:Exit→St→Prop}(h:s.keep m ids=s')(hv:V P c s' J):V P c s J:=by subst h;exact V_le (zLy m ids s) hv
end
section
variable {P:Program}
theorem zCr{ops:Array Oper}{rest:List Oper}{s:St}{J:St→Prop}(c:Bool)(h1:c=true→XL P ops rest s J)(h2:c=false→XL P ops rest s J):XL P ops rest s J:=by
 cases c with
 |true=>exact h1 rfl
 |false=>exact h2 rfl
theorem zT9{ops:Array Oper}{rest:List Oper}{s s1:St}{J:St→Prop}(m:List Bool)(ids:List Nat)(h:XL P ops rest s (fun s'=>s'.keep m ids=s1))(hj:J s1):XL P ops rest s J:=by
 intro B w0 ok0 ok σ a w hR Q hQ;refine h _ _ _ _ _ _ _ hR Q fun s' a' w' ok' σ' hs hR'=>?_
 subst hs;exact hQ _ a' w' ok' σ' hj (hR'.le (zLy m ids s'))
theorem zDB{id:Nat}{ops:Array Oper}{s s1:St}{J:Exit→St→Prop}(m:List Bool)(ids:List Nat)(h:XL P ops ops.toList s (fun s'=>s'.keep m ids=s1))(hj:J .normal s1):V P (.region id ops false) s J:=zNo (zT9 m ids h hj)
theorem zO{id:Nat}{ops:Array Oper}{y:Code}{s s1:St}{J:Exit→St→Prop}(m:List Bool)(ids:List Nat)(h:XL P ops ops.toList s (fun s'=>s'.keep m ids=s1))(hv:V P y s1 J):V P (.seq (.region id ops false) y) s J:=zAS (zDB m ids h hv)
def frz1(id:Nat)(t:AV):AV→AV
 | .ow k=>bif k==id then t else .ow k
 | .pt k o=>bif k==id then .bot else .pt k o
 | .po k z i o=>bif k==id then .bot else .po k z i o
 | .tc _ _=>.bot
 |av=>av
def St.frz(s:St)(id:Nat)(els:List (List Tr)):St:=⟨s.T.map (frz1 id (.c (.sl els))),rmE id s.E⟩
theorem zW4(s:St)(id:Nat)(els:List (List Tr))(t:Nat):(s.frz id els).get t=frz1 id (.c (.sl els)) (s.get t):=by unfold St.frz St.get;simp only[List.getElem?_map];cases s.T[t]?<;>rfl
theorem zJJ(s:St)(id:Nat)(els:List (List Tr))(j:Nat)(e:Ent)(h:(s.frz id els).ent j=some e):j≠id∧s.ent j=some e:=by
 have h2:(rmE id s.E).lookup j=some e:=h;rw[zB1]at h2;split at h2
 ·cases h2
 ·rename_i hne;exact⟨hne,h2⟩
theorem zVv{B:Fr}{w0:World}{ok0 ok:Nat→Prop}{σ:Nat→Loc}{s:St}{a:Act}{w:World}(hR:R B w0 ok0 ok σ s a w)(id:Nat){T sz:Nat}{els:List (List Tr)}(he:s.ent id=some (.arr T sz els)):R B w0 ok0 (fun g=>ok g∨(σ id).blk=some g) σ (s.frz id els) a w:=by
 have hup:∀g,ok g→ok g∨(σ id).blk=some g:=fun g hg=>.inl hg;refine⟨⟨by simpa [St.frz] using hR.core.len,fun g hg=>?_,hR.core.lib.mono hup (fun _ _=>rfl),fun t=>?_,fun j e hj=>?_,fun j e g hj hg=>?_,fun i j e f g hi hj h1 h2=>?_⟩,hR.defers,hR.below,hR.base,fun g hg=>.inl (hR.old g hg),fun g hg=>?_,fun j e g hj hg=>hR.own j e g (zJJ s id els j e hj).2 hg⟩
 ·rcases hg with hg|hg
  ·exact hR.core.okL g hg
  ·exact (hR.core.blk id _ g he hg).2
 ·rw[zW4];have h1:=hR.core.tmp t;generalize s.get t=av at h1;have same:Rel (fun g=>ok g∨(σ id).blk=some g) σ w av (a.tmps.getD t undef):=h1.mono0 hup fun _ _=>rfl;cases av with
  |ow k=>
   simp only[frz1];cases hk:k==id with
   |false=>exact same
   |true=>
    have e1:k=id:=by simpa using hk
    subst e1;have hle:Le ⟨s.T,[(k,.arr T sz els)]⟩ s:=⟨Nat.le_refl _,fun t=>.inr rfl,fun j e hj=>by
     unfold St.ent at hj;simp only[List.lookup]at hj;split at hj
     ·rename_i hjk;have:j=k:=by simpa using hjk
      subst this;injection hj with hj;subst hj;exact he
     ·cases hj⟩
    have h2:=zGz (hR.le hle).core h1;have e2:zFh ⟨s.T,[(k,.arr T sz els)]⟩ (.ow k)=.c (.sl els):=by simp[zFh,St.entc,St.ent,List.lookup,Ent.core]
    rw[e2]at h2;refine h2.mono0 (fun g hg=>?_) fun _ _=>rfl;rcases hg with hg|⟨j,e,hj,hg⟩
    ·exact .inl hg
    ·refine .inr ?_
     unfold St.ent at hj;simp only[List.lookup]at hj;split at hj
     ·rename_i hjk;have:j=k:=by simpa using hjk
      subst this;exact hg
     ·cases hj
  |pt k o=>
   simp only[frz1];cases k==id with
   |false=>exact same
   |true=>exact trivial
  |po k z i o=>
   simp only[frz1];cases k==id with
   |false=>exact same
   |true=>exact trivial
  |tc x r=>exact trivial
  |tn=>exact same
  |bot=>exact same
  |c t=>exact same
  |ag cs=>exact same
  |pe cs=>exact same
  |fn f caps=>exact same
  |er b=>exact same
  |vw id els m=>exact same
  |sf id z i=>exact same
 ·obtain⟨_,h2⟩:=zJJ s id els j e hj;exact (hR.core.ent j e h2).mono hup (fun _ _=>rfl) fun _ _=>rfl
 ·obtain⟨h1,h2⟩:=zJJ s id els j e hj;obtain⟨h3,h4⟩:=hR.core.blk j e g h2 hg;refine⟨fun h5=>?_,h4⟩;rcases h5 with h5|h5
  ·exact h3 h5
  ·exact h1 (hR.core.inj _ _ _ _ _ h2 he hg h5)
 ·exact hR.core.inj i j e f g (zJJ s id els i e hi).2 (zJJ s id els j f hj).2 h1 h2
 ·rcases hg with hg|hg
  ·exact hR.fresh g hg
  ·exact .inr (hR.own id _ g he hg)
theorem zUE{ops:Array Oper}{rest:List Oper}{s s1:St}{J:St→Prop}(id:Nat){T sz:Nat}{els:List (List Tr)}(he:s.ent id=some (.arr T sz els))(hs:s.frz id els=s1)(h:XL P ops rest s1 J):XL P ops rest s J:=by subst hs;exact fun _ _ _ _ _ _ _ hR Q hQ=>h _ _ _ _ _ _ _ (zVv hR id he) Q hQ
theorem zXE{l:List Oper}{ms:List Nat}{n1:Nat}{css:List (List Cd)}{s0:St}{rs:List Res}{K K':St→Prop}(h:DL P l ms n1 css s0 rs K)(hK:∀s,K s→K' s):DL P l ms n1 css s0 rs K':=by intro hchk;obtain⟨more,h1,h2,h3⟩:=h hchk;exact⟨more,h1,h2,hK _ h3⟩
theorem zSe{id:Nat}{l:List Oper}{s s1:St}{J:Exit→St→Prop}(ms:List Nat)(n1:Nat)(css:List (List Cd))(m:List Bool)(ids:List Nat)(hm:P.follows .mixedOrders=true)(hchk:zGT l ms n1 css=true)
  (h:DL P l ms n1 css (prep (l.take n1) s) [] (fun s'=>XL P l.toArray (l.drop n1) s' (fun s''=>s''.keep m ids=s1))) (hj:J .normal s1):V P (.region id l.toArray true) s J:=
 zVs ms n1 css hm hchk (zXE h fun s' hs=>zT9 m ids hs hj)
theorem zWu{id:Nat}{l:List Oper}{y:Code}{s s1:St}{J:Exit→St→Prop}(ms:List Nat)(n1:Nat)(css:List (List Cd))(m:List Bool)(ids:List Nat)(hm:P.follows .mixedOrders=true)(hchk:zGT l ms n1 css=true)
  (h:DL P l ms n1 css (prep (l.take n1) s) [] (fun s'=>XL P l.toArray (l.drop n1) s' (fun s''=>s''.keep m ids=s1))) (hv:V P y s1 J):V P (.seq (.region id l.toArray true) y) s J:=zAS (zSe ms n1 css m ids hm hchk h hv)
theorem zBG{o:Oper}{s:St}{c x y:Operand}{b p q:Bool}(ho:o.op=.pick c x y)(hc:s.ev c=.c (.v (.bool b)))(hb:b=true)(hx:s.ev x=.c (.v (.bool p))):Y0 P o s (Bo (bif b then p else q)):=by subst hb;have h:=zQ4 (P:=P) ho hc;rw[cond_true,hx]at h;exact h
theorem zCA{o:Oper}{s:St}{c x y:Operand}{b p q:Bool}(ho:o.op=.pick c x y)(hc:s.ev c=.c (.v (.bool b)))(hb:b=false)(hy:s.ev y=.c (.v (.bool q))):Y0 P o s (Bo (bif b then p else q)):=by subst hb;have h:=zQ4 (P:=P) ho hc;rw[cond_false,hy]at h;exact h
theorem zO0{z:Array Value}(hz:zCO z=true)(n:Nat):(madeCells z n).toList.all Value.oneCell'=true:=by
 unfold madeCells;rw[List.all_eq_true];intro x hx;simp only[Array.toList_map,List.mem_map]at hx;obtain⟨k,_,rfl⟩:=hx;rcases Nat.lt_or_ge (k % z.size) z.size with h|h
 ·rw[getElem!_pos z _ h];exact (List.all_eq_true.1 hz) _ (by simp)
 ·rw[getElem!_neg z _ (by omega)];rfl
def zEm:Nat→List (Nat×AV)→Option (List (List Tr))
 |_,[]=>some []
 |k,(i,av)::r=>bif Nat.beq i k then (match zAE av,zEm (k+1) r with
  |some cs,some es=>some (cs::es)
  |_,_=>none) else none
theorem zNR(sz:Nat):∀(ps:List (Nat×AV))(k:Nat)(els:List (List Tr))(pre post:List Tr),zEm k ps=some els→(∀e,e∈els→e.length=sz)→pre.length=k*sz→post.length=els.length*sz→zKq (fun i=>some (i*sz,sz)) (pre++post) ps=some (pre++els.flatten)
 |[],k,els,pre,post,h,hs,h1,h2=>by simp only[zEm]at h;injection h with h;subst h;have:post=[]:=List.eq_nil_of_length_eq_zero (by simpa using h2);subst this;rfl
 |(i,av)::r,k,els,pre,post,h,hs,h1,h2=>by
  simp only[zEm]at h;cases hb:Nat.beq i k with
  |false=>rw[hb]at h;cases h
  |true=>
   have hik:i=k:=Nat.eq_of_beq_eq_true hb;subst hik;rw[hb]at h;simp only[cond_true]at h;split at h
   ·rename_i cs es hc he;injection h with h;subst h;have hl:cs.length=sz:=hs cs (by simp);simp only[List.length_cons,Nat.add_mul,Nat.one_mul]at h2;simp only[zKq,hc];rw[if_neg (by simp only[zb];omega)];have e:splice (pre++post) (i*sz) cs=(pre++cs)++post.drop sz:=by
     unfold splice;rw[←h1,List.take_left,hl,List.drop_append,List.drop_eq_nil_of_le (by omega)];rw[show pre.length+sz - pre.length=sz by omega];simp
    rw[e,zNR sz r (i+1) es (pre++cs) (post.drop sz) he (fun x hx=>hs x (by simp[hx])) (by simp[hl,h1,Nat.add_mul]) (by simp;omega)];simp
   ·cases h
theorem zEM{o:Oper}{s:St}{t e sz n:Nat}{z:Value}{parts:Array (Nat×Operand)}{els:List (List Tr)}(ht:P.underlying t=some (.slice e))(hi:(P.info? e).map (fun i=>(i.zero,i.size))=some (some z,sz))(hz:zCO z.cells=true)(hsz:0<sz)(ho:o.op=.buildSlice t n parts)
  (hp:zEm 0 (evP s parts.toList)=some els) (hn:els.length=n) (hs:∀e,e∈els→e.length=sz) (hmax:n*sz≤16777216) (hpos:0<n):Y1 P o s (.ow 0) [(0,.arr e sz els)]:=
 zEd fun ok σ a w hC=>by
  cases hii:P.info? e with
  |none=>rw[hii]at hi;simp at hi
  |some i=>
   have hi2:i.zero=some z∧i.size=sz:=by rw[hii]at hi;simpa using hi
   have hzall:=zO0 hz (n*sz);have hzl:(madeCells z.cells (n*sz)).toList.length=n*sz:=by rw[Array.length_toList];exact size_madeCells _ _
   have hf:=zNR sz (evP s parts.toList) 0 els [] ((madeCells z.cells (n*sz)).toList.map Tr.v) hp hs (by simp) (by simp only[List.length_map,hzl,hn]);obtain⟨arr,h1,h2⟩:=zPC (fun i=>some (i*sz,sz)) (zQI hC parts.toList) _ (madeCells z.cells (n*sz)) _ (zTc ok w _ hzall) (by simpa using hf);have h3:arr.size=els.length*sz:=by have:=h2.len;rw[zCp els sz hs]at this;simpa using this.symm
   have hml:els.length≤maxLen:=by have:n≤n*sz:=Nat.le_mul_of_pos_right n hsz;unfold maxLen;omega
   have hpos2:¬n*sz=0:=by have:=Nat.mul_pos hpos hsz;omega
   have hrun:=run_buildSlice (P:=P) w t e n (parts.map fun (i,x)=>(i,a.eval x)) arr i z ht hii hi2.1 (by rw[hi2.2];omega) (by rw[hi2.2];exact hpos2) (by rw[hi2.2,Array.toList_map];exact h1)
   have hnew:=zTe (ok:=ok) (w:=w) hC.okL e sz hsz hs hml h2 h3;rw[hn]at hnew;refine⟨_,_,_,?_,hnew⟩;unfold execOp;rw[ho];simp only[Sem.run_bind,hrun,Result.andThen_ok,Sem.run_pure]
theorem zCq{o:Oper}{s:St}{t e sz:Nat}{parts:Array (Nat×Operand)}(ht:P.underlying t=some (.slice e))(hi:(P.info? e).map (·.size)=some sz)(hsz:0<sz)(ho:o.op=.buildSlice t 0 parts)(hp:parts=#[]):Y1 P o s (.ow 0) [(0,.arr e sz [])]:=
 zEd fun ok σ a w hC=>by
  subst hp;cases hii:P.info? e with
  |none=>rw[hii]at hi;simp at hi
  |some i=>
   have hi2:i.size=sz:=by rw[hii]at hi;simpa using hi
   refine⟨_,_,_,?_,zTe (ok:=ok) (w:=w) (els:=[]) (arr:=#[]) hC.okL e sz hsz (by intro el h;cases h) (Nat.zero_le _) RdL.nil (by simp)⟩;unfold execOp;rw[ho];simp[Instr.buildSlice,run_underlying ht,sizeOf,typeInfo,hii,Instr.fill,newRow];congr 2;exact Array.eq_empty_of_size_eq_zero (by simp)
end
section
variable {P:Program}
theorem zH{ops:Array Oper}{o:Oper}{rest:List Oper}{s s':St}{J:St→Prop}{j t:Nat}{b:Bool}(c:Bool)(hg:o.guard=some (j,b))(ht:(ops[j]?).bind (·.dst)=some t)(hb:s.get t=.c (.v (.bool c)))(hc:c=b)
  (h:X P o s s') (hk:XL P ops rest s' J):XL P ops (o::rest) s J:=by
 subst hc;exact zT8 hg ht hb h hk
theorem qE{ops:Array Oper}{o:Oper}{rest:List Oper}{s:St}{J:St→Prop}{j t d:Nat}(c:Bool)(hg:o.guard=some (j,true))(ht:(ops[j]?).bind (·.dst)=some t)(hb:s.get t=.c (.v (.bool c)))(hc:c=false)
  (hd:o.dst=some d) (hk:XL P ops rest (s.put d .tn) J):XL P ops (o::rest) s J:=by
 subst hc;exact zQ7 hg ht hb (by decide) hd hk
theorem jW{ops:Array Oper}{o:Oper}{rest:List Oper}{s:St}{J:St→Prop}{j t d:Nat}(c:Bool)(hg:o.guard=some (j,false))(ht:(ops[j]?).bind (·.dst)=some t)(hb:s.get t=.c (.v (.bool c)))(hc:c=true)
  (hd:o.dst=some d) (hk:XL P ops rest (s.put d .tn) J):XL P ops (o::rest) s J:=by
 subst hc;exact zQ7 hg ht hb (by decide) hd hk
theorem zD{o:Oper}{s:St}{x:Operand}(av:AV)(ho:o.op=.move x)(hx:s.ev x=av):Y0 P o s av:=hx▸zT6 ho
theorem zE{o:Oper}{s:St}{x:Operand}(av:AV)(ho:o.op=.assign x)(hx:s.ev x=av):Y0 P o s av:=hx▸zPM ho
theorem zWA{o:Oper}{s:St}{x:Operand}{n:Nat}(y r av:AV)(ho:o.op=.extract x n)(hx:s.ev x=.tc y r)(hav:(AV.tc y r).nth n=av)(hb:av≠.bot):Y0 P o s av:=by subst hav;exact zYy ho hx hb
theorem zNs{o:Oper}{s:St}{x:Operand}(av:AV)(ho:o.op=.nilCheck x)(hx:s.ev x=av)(hb:av.adv 0≠.bot):Y0 P o s av:=by subst hx;exact zRb ho hb
theorem zAG{o:Oper}{s:St}{t:TypeId}{x:Operand}{f:Nat}{fields:Array Field}{fd:Field}{n:Nat}(av:AV)(hu:P.underlying t=some (.struct fields))(hfd:fields[f]?=some fd)(hsz:((P.info? fd.type).map (·.size))=some (n+1))(ho:o.op=.fieldAddr t x f)
  (hav:(s.ev x).adv fd.offset=av) (hb:av≠.bot):Y0 P o s av:=by
 subst hav;exact zVi hu hfd hsz ho hb
theorem zFS{o:Oper}{s:St}{t:TypeId}{x:Operand}{n:Nat}{cs:List Tr}(ds:List Tr)(hs:wide P t n)(ho:o.op=.load t x)(hm:jV s (s.ev x)=some cs)(hn:n≤cs.length)(hd:cs.take n=ds):Y0 P o s (.ag ds):=by subst hd;exact zRd hs ho hm hn
theorem zRi{α:Type}{c:α→List Tr}{xs:List α}{v:α}{o:Oper}{s:St}{t:TypeId}{x:Operand}{id sz T off m:Nat}{n:Int}(ds:List Tr)(hs:wide P t m)(ho:o.op=.load t x)(hx:s.ev x=.po id sz n.toNat off)(he:s.entc id=some (.arr T sz (xs.map c)))(hv:getI xs n=some v)
  (hm:m≤((c v).drop off).length) (hd:((c v).drop off).take m=ds):Y0 P o s (.ag ds):=by
 subst hd;exact zTz hs ho hx he hv rfl hm
theorem zMH{o:Oper}{s:St}{t:TypeId}{x y:Operand}{id off:Nat}{cs vc:List Tr}(ds:List Tr)(ho:o.op=.store t x y)(hd:o.dst=none)(hx:s.ev x=.pt id off)(he:s.ent id=some (.box cs))(hy:zAE (s.ev y)=some vc)(hi:(P.info? t).map (·.size)=some vc.length)(hl:off+vc.length≤cs.length)(hs:splice cs off vc=ds):
  X P o s ⟨s.T,setE id (.box ds) s.E⟩:=by
 subst hs;exact zT7 ho hd hx he hy hi hl
theorem zVz{l:Loc}{o:Oper}{s:St}{t:TypeId}{x y:Operand}{id off:Nat}{cs vc:List Tr}(ds:List Tr)(ho:o.op=.store t x y)(hd:o.dst=none)(hx:s.ev x=.pt id off)(he:s.ent id=some (.pbox l cs))(hy:zAE (s.ev y)=some vc)(hi:(P.info? t).map (·.size)=some vc.length)(hl:off+vc.length≤cs.length)(hs:splice cs off vc=ds):
  X P o s ⟨s.T,setE id (.pbox l ds) s.E⟩:=by
 subst hs;exact zVk ho hd hx he hy hi hl
theorem zYo{o:Oper}{s:St}{x y:Operand}{t t2:TypeId}{k k2:IntKind}{a b:Int}(ho:o.op=.binOp .shr t x y t2)(hx:s.ev x=.c (.v (.int k a)))(hy:s.ev y=.c (.v (.int k2 b)))(h0:¬b<0):Y0 P o s (.c (.v (.int k (shrI k a b)))):=
 zBh ho hx hy (fun w=>by unfold eqGuard;rfl) (fun w=>by simp[binOp,Op.shift,h0,shrI]) rfl
theorem zYp{o:Oper}{s:St}{x y:Operand}{t t2:TypeId}{k k2:IntKind}{a b:Int}(ho:o.op=.binOp .shl t x y t2)(hx:s.ev x=.c (.v (.int k a)))(hy:s.ev y=.c (.v (.int k2 b)))(h0:¬b<0):Y0 P o s (.c (.v (.int k (shlI k a b)))):=
 zBh ho hx hy (fun w=>by unfold eqGuard;rfl) (fun w=>by simp[binOp,Op.shift,h0,shlI]) rfl
theorem zZB{o:Oper}{s:St}{x y:Operand}{t t2:TypeId}{k:IntKind}{a b:Int}(ho:o.op=.binOp .and t x y t2)(hx:s.ev x=.c (.v (.int k a)))(hy:s.ev y=.c (.v (.int k b))):Y0 P o s (.c (.v (.int k (andI k a b)))):=
 zBh ho hx hy (zBP _ _ _ _ _ _ _) (fun w=>by simp[binOp,Op.intBits,andI]) rfl
theorem Y0_or{o:Oper}{s:St}{x y:Operand}{t t2:TypeId}{k:IntKind}{a b:Int}(ho:o.op=.binOp .or t x y t2)(hx:s.ev x=.c (.v (.int k a)))(hy:s.ev y=.c (.v (.int k b))):Y0 P o s (.c (.v (.int k (orI k a b)))):=
 zBh ho hx hy (zBP _ _ _ _ _ _ _) (fun w=>by simp[binOp,Op.intBits,orI]) rfl
theorem zYn{o:Oper}{s:St}{x y:Operand}{t t2:TypeId}{k:IntKind}{a b:Int}(ho:o.op=.binOp .xor t x y t2)(hx:s.ev x=.c (.v (.int k a)))(hy:s.ev y=.c (.v (.int k b))):Y0 P o s (.c (.v (.int k (xorI k a b)))):=
 zBh ho hx hy (zBP _ _ _ _ _ _ _) (fun w=>by simp[binOp,Op.intBits,xorI]) rfl
theorem zHT{c:Code}{s s1:St}{J:Exit→St→Prop}(m:List Bool)(ids:List Nat)(h1:V P c s (zMK (fun s'=>s'.keep m ids=s1) J))(h2:J .normal s1):V P c s J:=by
 intro B w0 ok0 ok σ a w hR;refine wp_mono (h1 _ _ _ _ _ _ _ hR) ?_
 rintro e a' w' ⟨s',ok',σ',hJ,hR'⟩;cases e with
 |normal=>have hk:s'.keep m ids=s1:=hJ;subst hk;exact⟨_,ok',σ',h2,hR'.le (zLy m ids s')⟩
 |exit id=>exact⟨s',ok',σ',hJ,hR'⟩
 |goto l=>exact⟨s',ok',σ',hJ,hR'⟩
 |ret=>exact⟨s',ok',σ',hJ,hR'⟩
 |panic ch=>exact⟨s',ok',σ',hJ,hR'⟩
 |outgrown=>exact⟨s',ok',σ',hJ,hR'⟩
theorem zZG{x y:Code}{s s1:St}{J:Exit→St→Prop}(m:List Bool)(ids:List Nat)(h1:V P x s (zMK (fun s'=>s'.keep m ids=s1) J))(h2:V P y s1 J):V P (.seq x y) s J:=by refine zAS (zHT (s1:=s1) m ids (zIb h1 fun e s' h=>?_) h2);cases e<;>exact h
def zVy(P:Program)(op:BinOp)(t:TypeId):Prop:=∀(a0 a1 a2 b0 b1 b2:Int)(x y:Operand)(w:World),(eqGuard op t x y (.agg #[.int .i64 a0,.int .i64 a1,.int .i64 a2]) (.agg #[.int .i64 b0,.int .i64 b1,.int .i64 b2])).run P w=.ok () w∧(binOp op t (.agg #[.int .i64 a0,.int .i64 a1,.int .i64 a2]) (.agg #[.int .i64 b0,.int .i64 b1,.int .i64 b2])).run P w=.ok (.bool (match op with| .neq=>!((a0==b0)&&((a1==b1)&&(a2==b2)))|_=>((a0==b0)&&((a1==b1)&&(a2==b2))))) w
theorem ag3{ok:Nat→Prop}{σ:Nat→Loc}{w:World}{y:Value}{a0 a1 a2:Int}(h:Rel ok σ w (.ag [Ti a0,Ti a1,Ti a2]) y):y=(.agg #[.int .i64 a0,.int .i64 a1,.int .i64 a2]):=by
 obtain⟨vs,rfl,hr⟩:=h;obtain⟨l⟩:=vs;cases hr with
 |cons p1 q1=>
 cases p1;cases q1 with
 |cons p2 q2=>
 cases p2;cases q2 with
 |cons p3 q3=>
 cases p3;cases q3;rfl
theorem zWn{o:Oper}{s:St}{x y:Operand}{t t2:TypeId}{a0 a1 a2 b0 b1 b2:Int}(h:zVy P .eql t)(ho:o.op=.binOp .eql t x y t2)(hx:s.ev x=.ag [Ti a0,Ti a1,Ti a2])(hy:s.ev y=.ag [Ti b0,Ti b1,Ti b2]):Y0 P o s (Bo (((a0==b0)&&((a1==b1)&&(a2==b2))))):=
 qS fun ok σ a w hC=>by have h1:=hC.ev x;rw[hx]at h1;have h2:=hC.ev y;rw[hy]at h2;obtain⟨h3,h4⟩:=h a0 a1 a2 b0 b1 b2 x y w;refine⟨_,?_,zSq _ _ _⟩;unfold execOp;rw[ho];simp only[ag3 h1,ag3 h2,Sem.run_bind,h3,h4,Result.andThen_ok,Sem.run_pure]
theorem DE_0{l:List Oper}{ms:List Nat}{n1:Nat}{css:List (List Cd)}{s0:St}{rs:List Res}{K:St→Prop}{o:Oper}{c:List Cd}(j:Nat)(av:AV)(hj:rs.length=j)(hlt:Nat.blt j n1=true)(ho:l[j]?=some o)(hc:css[j]?=some c)(hg:gsat l.toArray o (appC c (l.take n1) rs s0))
  (hm:zEo ms j av 0 (l.take n1)=true) (hY:Y0 P o (appC c (l.take n1) rs s0) av) (d:Nat) (hd:o.dst=some d) (h:DL P l ms n1 css s0 (rs++[.r0 av]) K):DL P l ms n1 css s0 rs K:=by
 subst hj;exact DL_0 (Nat.le_of_ble_eq_true hlt) ho hc hg hm hY ⟨d,hd⟩ h
theorem DE_1{l:List Oper}{ms:List Nat}{n1:Nat}{css:List (List Cd)}{s0:St}{rs:List Res}{K:St→Prop}{o:Oper}{c:List Cd}{av:AV}{ne:List (Nat×Ent)}(j:Nat)(hj:rs.length=j)(hlt:Nat.blt j n1=true)(ho:l[j]?=some o)(hc:css[j]?=some c)(hg:gsat l.toArray o (appC c (l.take n1) rs s0))
  (hY:Y1 P o (appC c (l.take n1) rs s0) av ne) (h1:zFr ne=true) (h2:makes o=true) (h3:av.small=true) (d:Nat) (hd:o.dst=some d) (h:DL P l ms n1 css s0 (rs++[.r1 av ne]) K):DL P l ms n1 css s0 rs K:=by
 subst hj;exact DL_1 (Nat.le_of_ble_eq_true hlt) ho hc hg ⟨h1,h2,h3⟩ hY ⟨d,hd⟩ h
theorem zTP{S A:St}(h:Le S A)(x:Operand):S.ev x=.bot∨S.ev x=A.ev x:=by
 cases x with
 |tmp t=>exact h.get t
 |const v=>exact .inr rfl
 |global g=>exact .inr rfl
 |func f=>exact .inr rfl
theorem zSd{o:Oper}{S:St}{t:TypeId}{x y:Operand}{id off:Nat}{cs vc cs2:List Tr}(ho:o.op=.store t x y)(hd:o.dst=none)(hx:S.ev x=.pt id off)(he:S.ent id=some (.box cs))(hy:zAE (S.ev y)=some vc)(hi:(P.info? t).map (·.size)=some vc.length)(hl:off+vc.length≤cs.length)(hs:splice cs off vc=cs2):
  ∀A,Le S A→X P o A ⟨A.T,setE id (.box cs2) A.E⟩:=by
 intro A hA;subst hs;refine zT7 ho hd ?_ (hA.ent _ _ he) ?_ hi hl
 ·rcases zTP hA x with h|h
  ·rw[hx]at h;cases h
  ·rw[←h];exact hx
 ·rcases zTP hA y with h|h
  ·rw[h]at hy;simp[zAE]at hy
  ·rw[←h];exact hy
theorem DE_2{l:List Oper}{ms:List Nat}{n1:Nat}{css:List (List Cd)}{s0:St}{rs:List Res}{K:St→Prop}{o:Oper}{c:List Cd}{t:TypeId}{x y:Operand}{off:Nat}{cs vc:List Tr}(j id:Nat)(cs2:List Tr)(hj:rs.length=j)(hlt:Nat.blt j n1=true)(ho:l[j]?=some o)(hc:css[j]?=some c)(hg:gsat l.toArray o (appC c (l.take n1) rs s0))
  (hop:o.op=.store t x y) (hd:o.dst=none) (hx:(appC c (l.take n1) rs s0).ev x=.pt id off) (he:(appC c (l.take n1) rs s0).ent id=some (.box cs)) (hy:zAE ((appC c (l.take n1) rs s0).ev y)=some vc) (hi:(P.info? t).map (·.size)=some vc.length) (hl:off+vc.length≤cs.length) (hs:splice cs off vc=cs2)
  (h1:zJN j id css=true) (h2:mkOk ms j id 0 (l.take n1)=true) (h3:zF2 id rs=true) (h:DL P l ms n1 css s0 (rs++[.r2 id (.box cs2)]) K):DL P l ms n1 css s0 rs K:=by
 subst hj;exact DL_2 (Nat.le_of_ble_eq_true hlt) ho hc hg (zSd hop hd hx he hy hi hl hs) hd h1 h2 h3 h
theorem zYt{o:Oper}{s:St}{x y:Operand}{t:Array TypeId}{a b:Int}(ho:o.op=.call {callee:=.builtin .max,args:=#[x,y],argTypes:=t})(hx:s.ev x=.c (.v (.int .i64 a)))(hy:s.ev y=.c (.v (.int .i64 b))):Y0 P o s (I (mxI a b)):=
 qS fun ok σ ac w hC=>by
  refine⟨_,?_,zKD _ _ _ _⟩;unfold execOp;rw[ho];have h1:=hC.exact hx;have h2:=hC.exact hy;have h3:=run_max_int2 (P:=P) w t o.type .i64 .i64 a b;have e:mxI a b=(if b>a then b else a):=by rw[mxI,zV];by_cases h:a<b<;>simp[h]
  rw[e];simp[resolve,invoke,builtin,h1,h2,h3]
theorem zYs{o:Oper}{s:St}{x y:Operand}{t:Array TypeId}{a b:Int}(ho:o.op=.call {callee:=.builtin .min,args:=#[x,y],argTypes:=t})(hx:s.ev x=.c (.v (.int .i64 a)))(hy:s.ev y=.c (.v (.int .i64 b))):Y0 P o s (I (mnI a b)):=
 qS fun ok σ ac w hC=>by
  refine⟨_,?_,zKD _ _ _ _⟩;unfold execOp;rw[ho];have h1:=hC.exact hx;have h2:=hC.exact hy;have h3:=run_min_int2 (P:=P) w t o.type .i64 .i64 a b;have e:mnI a b=(if b<a then b else a):=by rw[mnI,zV];by_cases h:b<a<;>simp[h]
  rw[e];simp[resolve,invoke,builtin,h1,h2,h3]
theorem zRF(l:List Tr):∀(n j:Nat),j<n*l.length→(List.replicate n l).flatten[j]?=l[j % l.length]?
 |0,j,h=>by simp at h
 |n+1,j,h=>by
  rw[List.replicate_succ,List.flatten_cons];rcases Nat.lt_or_ge j l.length with h1|h1
  ·rw[List.getElem?_append_left h1,Nat.mod_eq_of_lt h1]
  ·rw[List.getElem?_append_right h1,zRF l n (j - l.length) (by rw[Nat.add_mul]at h;omega),←Nat.mod_eq_sub_mod h1]
theorem zWV(ok:Nat→Prop)(w:World){z:Array Value}(hz:zCO z=true)(n m:Nat)(hnm:n≤m)(hpos:0<z.size):RdL ok w (List.replicate n (z.toList.map Tr.v)).flatten ((madeCells z (m*z.size)).toList.take (n*z.size)):=by
 have hl:(z.toList.map Tr.v).length=z.size:=by simp
 have hle:n*z.size≤m*z.size:=Nat.mul_le_mul_right _ hnm;refine RdL.mk ?_ fun j t ht=>?_
 ·rw[zCp _ z.size (fun e he=>by rw[(List.mem_replicate.1 he).2];exact hl)];simp[size_madeCells];rw[Nat.min_eq_left hnm]
 ·have hj:j<n*z.size:=by
   rcases Nat.lt_or_ge j (n*z.size) with h|h
   ·exact h
   ·rw[List.getElem?_eq_none (by rw[zCp _ z.size (fun e he=>by rw[(List.mem_replicate.1 he).2];exact hl)];simpa using h)]at ht;cases ht
  rw[zRF _ n j (by rw[hl];exact hj),hl,List.getElem?_map]at ht;have hmod:j % z.size<z.size:=Nat.mod_lt _ hpos;have hzj:z.toList[j % z.size]?=some z[j % z.size]:=by rw[Array.getElem?_toList];exact Array.getElem?_eq_getElem hmod
  rw[hzj]at ht;injection ht with ht;subst ht;refine⟨z[j % z.size],?_,Rd.v _ ((List.all_eq_true.1 hz) _ (by simp))⟩;rw[List.getElem?_take,if_pos hj];unfold madeCells;rw[Array.toList_map,List.getElem?_map];have:(Array.range (m*z.size)).toList[j]?=some j:=by rw[Array.getElem?_toList,Array.getElem?_range];simp;omega
  rw[this];simp[hmod]
theorem zT5{α:Type}{c:α→List Tr}{zx:α}{o:Oper}{s:St}{t e sz bytes:Nat}{z:Value}{x y:Operand}{l k:Int}(ht:P.underlying t=some (.slice e))(hi:(P.info? e).map (fun i=>(i.zero,i.size,i.bytes))=some (some z,sz,bytes))(hz:zCO z.cells=true)(hzs:z.cells.size=sz)(hsz:0<sz)
  (hc:z.cells.toList.map Tr.v=c zx) (ho:o.op=.makeSlice t x y) (hx:s.ev x=.c (.v (.int .i64 l))) (hy:s.ev y=.c (.v (.int .i64 k))) (hr:0≤l∧l≤k∧k≤1099511627776) (hby:bytes≤128):Y1 P o s (.ow 0) [(0,.arr e sz ((List.replicate l.toNat zx).map c))]:=
 zEd fun ok σ a w hC=>by
  obtain⟨h0,h1,h2⟩:=hr;cases hii:P.info? e with
  |none=>rw[hii]at hi;simp at hi
  |some i=>
   have hi2:i.zero=some z∧i.size=sz∧i.bytes=bytes:=by rw[hii]at hi;simpa using hi
   have hbytes:(i.bytes:Int)*k≤281474976710656:=by
    rw[hi2.2.2];have h3:bytes*k.toNat≤128*1099511627776:=Nat.mul_le_mul hby (by omega);have h4:((bytes*k.toNat:Nat):Int)=(bytes:Int)*k:=by rw[Int.natCast_mul,Int.toNat_of_nonneg (by omega)]
    omega
   have hrun:=run_make (P:=P) w t e i z ht hii hi2.1 .i64 .i64 l k h0 h1 hbytes (by omega);rw[hi2.2.1]at hrun;have hmap:(List.replicate l.toNat zx).map c=List.replicate l.toNat (z.cells.toList.map Tr.v):=by rw[List.map_replicate,hc]
   have hw:∀g,ok g→(w.alloc (.cells (madeCells z.cells (k.toNat*sz)) e)).heap[g]?=w.heap[g]?:=fun g hg=>Below.heap_alloc _ _ _ (hC.okL g hg)
   have hlz:(z.cells.toList.map Tr.v).length=sz:=by simp[hzs]
   refine⟨.slice (some ⟨w.heap.size,0,none⟩) l.toNat k.toNat,w.alloc (.cells (madeCells z.cells (k.toNat*sz)) e),fun _=>⟨some w.heap.size,l.toNat,k.toNat⟩,?_,⟨(Below.refl _ _).alloc (Nat.le_refl _) _,fun _ h=>h,fun _ h=>.inl h,fun g hg=>by have:=hC.okL g hg;simp;omega,rfl,fun id e he=>?_,fun e he=>?_,fun id e he=>?_,fun id e g he hg=>?_,fun i j e f g hi hj _ _=>?_,fun id e he=>by obtain⟨_,q2⟩:=jN _ _ _ _ he;subst q2;rfl⟩⟩
   ·unfold execOp;rw[ho];simp only[hC.exact hx,hC.exact hy,Sem.run_bind,hrun,Result.andThen_ok,Sem.run_pure]
   ·obtain⟨h1,_⟩:=jN _ _ _ _ he;omega
   ·show (0 / 8==e)=false;rw[zj];omega
   ·obtain⟨q1,q2⟩:=jN _ _ _ _ he;subst q2;rw[hmap];refine⟨hsz,by simp,fun el hel=>by rw[(List.mem_replicate.1 hel).2];exact hlz,(madeCells z.cells (k.toNat*sz)).toList.take (l.toNat*sz),⟨?_,.inr ⟨w.heap.size,k.toNat,madeCells z.cells (k.toNat*sz),by simp[zG],Nat.zero_le _,heap_alloc_new w _,by simp;omega,by unfold maxLen;omega,size_madeCells _ _,by simp⟩⟩,?_⟩
    ·have:l.toNat*sz≤k.toNat*sz:=Nat.mul_le_mul_right _ (by omega);simp[size_madeCells];rw[Nat.min_eq_left (by omega:l.toNat≤k.toNat)]
    ·have:=zWV ok w hz l.toNat k.toNat (by omega) (by omega);rw[hzs]at this;exact this.mono (fun _ h=>h) hw
   ·have e1:w.heap.size=g:=by simpa using hg
    subst e1;exact⟨Nat.le_refl _,fun hg2=>by have:=hC.okL _ hg2;omega,by simp⟩
   ·obtain⟨h1,_⟩:=jN _ _ _ _ hi;obtain⟨h2,_⟩:=jN _ _ _ _ hj;omega
theorem zXT{α:Type}{c:α→List Tr}(hc:∀x,(c x).all Tr.flat=true):∀(xs:List α),(xs.map c).flatten.all Tr.flat=true
 |[]=>rfl
 |x::xs=>by rw[List.map_cons,List.flatten_cons,List.all_append,hc x,zXT hc xs];rfl
theorem zD2{α:Type}{c:α→List Tr}{xs:List α}{k T sz:Nat}{ne:List (Nat×Ent)}(hc:∀x,(c x).all Tr.flat=true)(h:zKp ne=true):zKp ((k,.arr T sz (xs.map c))::ne)=true:=by simp only[zKp,zXT hc,h,Bool.and_self]
theorem zTv{f:FuncId}{args:List AV}{vs:List Value}{w:World}(hS:zF P f args (Bo true) [])(hv:RelA (fun g=>g<w.heap.size) (fun _=>loc0) w args vs)(hl:Lb (fun g=>g<w.heap.size) w:=by intro p hp;simp[TB]at hp):Calls P f vs.toArray w fun e w'=>e=.returned (.bool true)∧Below w.heap.size w w':=by
 refine (hS (fun g=>g<w.heap.size) (fun _=>loc0) w vs (fun _ h=>h) hl hv).mono ?_
 rintro e w' ⟨v,ok',σ',rfl,hn⟩;have h:=hn.rel;have h2:Rd ok' w' (.v (.bool true)) v:=h;cases h2;exact⟨rfl,hn.below⟩
end
def renI(m:List (Nat×Nat))(k:Nat):Nat:=(m.lookup k).getD k
def AV.ren(m:List (Nat×Nat)):AV→AV
 | .ow k=>.ow (renI m k)
 | .pt k o=>.pt (renI m k) o
 | .po k z i o=>.po (renI m k) z i o
 | .vw k els v=>.vw (renI m k) els v
 | .sf k z i=>.sf (renI m k) z i
 | .tc _ _=>.bot
 | .tn=>.bot
 |av=>av
def renL(m:List (Nat×Nat)):List AV→List AV
 |[]=>[]
 |a::asq=>a.ren m::renL m asq
def reE(old e:Ent):Ent:=bif old.pin then (match old with
 | .pbox l _=>e.pinned l
 | .parr l _ _ _=>e.pinned l
 |_=>e) else e
def Ent.row:Ent→Bool
 | .box _=>false
 | .arr _ _ _=>true
 | .pbox _ _=>false
 | .parr _ _ _ _=>true
 | .mp _ _=>false
 | .qarr _ _ _ _=>true
def updE(m:List (Nat×Nat)):List (Nat×Ent)→List (Nat×Ent)→List (Nat×Ent)
 |E,[]=>E
 |E,(k,e)::ps=>setE (renI m k) (reE ((E.lookup (renI m k)).getD e) e) (updE m E ps)
def zIY(m:List (Nat×Nat))(s:St):List (Nat×Ent)→Prop
 |[]=>True
 |(k,e)::ps=>s.entc (renI m k)=some e∧zIY m s ps
def zCR:List (Nat×Ent)→List Nat
 |[]=>[]
 |(k,_)::ps=>k::zCR ps
def zRG(m:List (Nat×Nat))(E0:List (Nat×Ent)):Bool:=zCd ((zCR E0).map (renI m))
theorem zA3(m:List (Nat×Nat))(s:St):∀(E0:List (Nat×Ent))(id:Nat)(e:Ent),zIY m s E0→E0.lookup id=some e→s.entc (renI m id)=some e
 |[],id,e,_,h=>by simp at h
 |(k,f)::ps,id,e,hs,h=>by
  simp only[List.lookup]at h;cases hk:id==k with
  |true=>
   have:id=k:=by simpa using hk
   subst this;rw[hk]at h;injection h with h;subst h;exact hs.1
  |false=>rw[hk]at h;exact zA3 m s ps id e hs.2 h
theorem zCy:∀(E0:List (Nat×Ent))(id:Nat)(e:Ent),E0.lookup id=some e→id∈zCR E0
 |[],id,e,h=>by simp at h
 |(k,f)::ps,id,e,h=>by
  simp only[List.lookup]at h;cases hk:id==k with
  |true=>
   have:id=k:=by simpa using hk
   subst this;exact List.mem_cons_self
  |false=>rw[hk]at h;exact List.mem_cons_of_mem _ (zCy ps id e h)
theorem zKI:∀(E0:List (Nat×Ent))(id:Nat),id∈zCR E0→∃e,E0.lookup id=some e
 |[],id,h=>by cases h
 |(q1,q2)::ps,id,h=>by
  by_cases hq:id=q1
  ·subst hq;exact⟨q2,by simp[List.lookup]⟩
  ·have:(id==q1)=false:=by rw[zj];exact hq
   rcases List.mem_cons.1 h with h2|h2
   ·exact absurd h2 hq
   ·obtain⟨f,hf⟩:=zKI ps id h2;exact⟨f,by simp only[List.lookup,this];exact hf⟩
theorem zKH(f:Nat→Nat):∀(l:List Nat),zCd (l.map f)=true→∀i,i∈l→∀j,j∈l→f i=f j→i=j
 |[],_,i,hi,_,_,_=>by cases hi
 |x::xs,h,i,hi,j,hj,hf=>by
  simp only[List.map_cons,zCd,ze,Bool.not_eq_true',List.contains_eq_mem,decide_eq_false_iff_not]at h;obtain⟨h1,h2⟩:=h;rcases List.mem_cons.1 hi with a1|a1<;>rcases List.mem_cons.1 hj with b1|b1
  ·rw[a1,b1]
  ·subst a1;exact absurd (List.mem_map.2 ⟨j,b1,hf.symm⟩) h1
  ·subst b1;exact absurd (List.mem_map.2 ⟨i,a1,hf⟩) h1
  ·exact zKH f xs h2 i a1 j b1 hf
section
variable {P:Program}
theorem zWJ{ok:Nat→Prop}{σ:Nat→Loc}{w:World}{m:List (Nat×Nat)}{av:AV}{y:Value}(h:Rel ok σ w (av.ren m) y)(hb:∀x r,av≠.tc x r)(hb2:av≠.tn):Rel ok (fun k=>σ (renI m k)) w av y:=by
 cases av with
 |bot=>trivial
 |c t=>exact h
 |ag cs=>exact h
 |ow id=>exact h
 |pt id off=>exact h
 |po id sz i off=>exact h
 |pe cs=>exact h
 |fn f caps=>exact h
 |er b=>exact h
 |vw id els v=>exact h
 |sf id z i=>exact h
 |tn=>exact absurd rfl hb2
 |tc x r=>exact absurd rfl (hb x r)
def zND:List AV→Bool
 |[]=>true
 | .tc _ _::_=>false
 | .tn::_=>false
 |_::asq=>zND asq
theorem zMv{ok:Nat→Prop}{σ:Nat→Loc}{w:World}{m:List (Nat×Nat)}:∀{args:List AV}{vs:List Value},zND args=true→RelA ok σ w (renL m args) vs→RelA ok (fun k=>σ (renI m k)) w args vs
 |[],_,_,.nil=>.nil
 |a::asq,_,ht,.cons h hs=>by
  have h1:(∀x r,a≠.tc x r)∧a≠.tn∧zND asq=true:=by
   cases a with
   |tc x r=>cases ht
   |tn=>cases ht
   |_=>exact⟨(fun _ _ h=>by cases h),(fun h=>by cases h),ht⟩
  exact .cons (zWJ h h1.1 h1.2.1) (zMv h1.2.2 hs)
theorem zWK(old e:Ent)(he:e.plain=true):(reE old e).pin=old.pin:=by
 cases old with
 |box cs=>exact Ent.pin_of_plain he
 |arr T sz els=>exact Ent.pin_of_plain he
 |mp b kvs=>exact Ent.pin_of_plain he
 |qarr l0 T sz els=>exact Ent.pin_of_plain he
 |pbox l cs=>exact zIX he
 |parr l T sz els=>exact zIX he
theorem zOm(m:List (Nat×Nat))(E:List (Nat×Ent)):∀(E1:List (Nat×Ent)),zCd ((zCR E1).map (renI m))=true→(∀k e,E1.lookup k=some e→∃f,E.lookup (renI m k)=some f)→∀j,(updE m E E1).lookup j=match E1.find? (fun p=>renI m p.1==j) with
      |some p=>some (reE ((E.lookup j).getD p.2) p.2)
      |none=>E.lookup j
  |[],_,_,j=>rfl
  |(k,e)::ps,hn,hx,j=>by
    have hn2:zCd ((zCR ps).map (renI m))=true:=by simp only[zCR,List.map_cons,zCd,ze]at hn;exact hn.2
    have hn1:renI m k∉(zCR ps).map (renI m):=by simp only[zCR,List.map_cons,zCd,ze,Bool.not_eq_true',List.contains_eq_mem,decide_eq_false_iff_not]at hn;exact hn.1
    have ih:=zOm m E ps hn2 (fun k2 e2 h2=>by
      by_cases hk:k2=k
      · subst hk
        exact absurd (List.mem_map.2 ⟨k2,zCy ps k2 e2 h2,rfl⟩) hn1
      · refine hx k2 e2 ?_
        have:(k2==k)=false:=by rw[zj];exact hk
        simp only[List.lookup,this];exact h2)
    have hself:(updE m E ps).lookup (renI m k)=E.lookup (renI m k):=by
      rw[ih];have hf:ps.find? (fun p=>renI m p.1==renI m k)=none:=by
        rw[List.find?_eq_none];intro p hp hh;have hh:renI m p.1=renI m k:=by simpa using hh
        have:p.1∈zCR ps:=by
          clear ih hn hx hn1 hn2
          induction ps with
          |nil=>cases hp
          |cons q qs ihq=>
            obtain⟨q1,q2⟩:=q;rcases List.mem_cons.1 hp with h1|h1
            · subst h1;exact List.mem_cons_self
            · exact List.mem_cons_of_mem _ (ihq h1)
        exact hn1 (List.mem_map.2 ⟨p.1,this,hh⟩)
      rw[hf]
    obtain⟨f,hf⟩:=hx k e (by simp[List.lookup]);have look:=jX (renI m k) (reE ((E.lookup (renI m k)).getD e) e) (updE m E ps) f (by rw[hself,hf]);simp only[updE];rw[look j,List.find?_cons];by_cases hj:j=renI m k
    · subst hj
      simp
    · have:(renI m k==j)=false:=by rw[zj];exact fun h=>hj h.symm
      rw[if_neg hj,this,ih]
theorem zPB(m:List (Nat×Nat)):∀(E1:List (Nat×Ent))(j:Nat)(p:Nat×Ent),zCd ((zCR E1).map (renI m))=true→E1.find? (fun p=>renI m p.1==j)=some p→E1.lookup p.1=some p.2∧renI m p.1=j
 |[],j,p,_,h=>by simp at h
 |(k,e)::ps,j,p,hn,h=>by
  rw[List.find?_cons]at h;cases hk:renI m k==j with
  |true=>simp only[hk]at h;injection h with h;subst h;exact⟨by simp[List.lookup],by simpa using hk⟩
  |false=>
   simp only[hk]at h;have hn2:zCd ((zCR ps).map (renI m))=true:=by simp only[zCR,List.map_cons,zCd,ze]at hn;exact hn.2
   have hn1:renI m k∉(zCR ps).map (renI m):=by simp only[zCR,List.map_cons,zCd,ze,Bool.not_eq_true',List.contains_eq_mem,decide_eq_false_iff_not]at hn;exact hn.1
   obtain⟨h1,h2⟩:=zPB m ps j p hn2 h;have:(p.1==k)=false:=by rw[zj];intro e1;exact hn1 (List.mem_map.2 ⟨p.1,zCy ps _ _ h1,by rw[e1]⟩)
   exact⟨by simp only[List.lookup,this];exact h1,h2⟩
theorem zX6{ok:Nat→Prop}{w:World}{l:Loc}{old e:Ent}{ok0:Nat→Prop}{w0:World}(ho:qW ok0 w0 l old)(h:qW ok w l e)(he:e.plain=true):qW ok w l (reE old e):=by
 cases old with
 |box cs=>exact h
 |arr T sz els=>exact h
 |mp b kvs=>exact h
 |qarr l0 T sz els=>exact h
 |pbox l0 cs=>obtain⟨rfl,_⟩:=ho;exact zKE h he
 |parr l0 T sz els=>obtain⟨rfl,_⟩:=ho;exact zKE h he
theorem R.ref{B:Fr}{w0:World}{ok0 ok ok':Nat→Prop}{σ σ':Nat→Loc}{s:St}{a:Act}{w w':World}(h:R B w0 ok0 ok σ s a w){m:List (Nat×Nat)}{E0 E1:List (Nat×Ent)}{av:AV}{ne:List (Nat×Ent)}{v:Value}
  (hm:zIY m s E0) (hk:zCR E1=zCR E0) (hr:zRG m E0=true) (hp:zEn E1=true) (hn:NewX ⟨fun g=>w.heap.size≤g,exOf (fun k=>σ (renI m k)) E0⟩ w w' ok ok' σ' av ne v) (hE:∀id e,E1.lookup id=some e→qW ok' w' (σ (renI m id)) e):
  R B w0 ok0 ok' (fun id=>σ id) ⟨s.T,updE m s.E E1⟩ a w'∧∀id e g,(St.mk s.T (updE m s.E E1)).ent id=some e→(σ id).blk=some g→g<w.heap.size:=by
 have hsz:=hn.below.size;have key0:∀k e,E1.lookup k=some e→∃f,E0.lookup k=some f:=by intro k e hke;have h1:=zCy E1 k e hke;rw[hk]at h1;exact zKI E0 k h1
 have hold:∀k e,E1.lookup k=some e→∃f,s.E.lookup (renI m k)=some f:=by intro k e hke;obtain⟨f0,hf0⟩:=key0 k e hke;obtain⟨f,hf,_⟩:=zCz (zA3 m s E0 k f0 hm hf0);exact⟨f,hf⟩
 have hr1:zCd ((zCR E1).map (renI m))=true:=by rw[hk];exact hr
 have look:=zOm m s.E E1 hr1 hold
 -- an entry behind the call
 have cases_:∀j f,(St.mk s.T (updE m s.E E1)).ent j=some f→(∃k e old,E1.lookup k=some e∧renI m k=j∧s.ent j=some old∧f=reE old e)∨((∀k e,E1.lookup k=some e→renI m k≠j)∧s.ent j=some f):=by
  intro j f hj;have h1:(updE m s.E E1).lookup j=some f:=hj;rw[look]at h1;cases hfd:E1.find? (fun p=>renI m p.1==j) with
  |some p=>rw[hfd]at h1;obtain⟨h2,h3⟩:=zPB m E1 j p hr1 hfd;obtain⟨old,hold1⟩:=hold p.1 p.2 h2;rw[h3]at hold1;rw[hold1]at h1;injection h1 with h1;exact .inl ⟨p.1,p.2,old,h2,h3,hold1,h1.symm⟩
  |none=>
   rw[hfd]at h1;refine .inr ⟨fun k e hke hkj=>?_,h1⟩;rw[List.find?_eq_none]at hfd;have hmem:∀(L:List (Nat×Ent)),L.lookup k=some e→(k,e)∈L:=by
    intro L
    induction L with
    |nil=>intro h;simp at h
    |cons q qs ih=>
     intro h;obtain⟨q1,q2⟩:=q;simp only[List.lookup]at h;cases hq:k==q1 with
     |true=>
      rw[hq]at h;injection h with h;have:k=q1:=by simpa using hq
      subst this;subst h;exact List.mem_cons_self
     |false=>rw[hq]at h;exact List.mem_cons_of_mem _ (ih h)
   exact hfd (k,e) (hmem E1 hke) (by simpa using hkj)
 have exE:∀g,exOf (fun k=>σ (renI m k)) E0 g→∃k f0,E0.lookup k=some f0∧(σ (renI m k)).blk=some g:=fun g ⟨k,f0,h1,h2⟩=>⟨k,f0,h1,h2⟩
 have exNot:∀g,ok g→¬exOf (fun k=>σ (renI m k)) E0 g:=by intro g hg hx;obtain⟨k,f0,h1,h2⟩:=exE g hx;obtain⟨f,hf,_⟩:=zCz (zA3 m s E0 k f0 hm h1);exact (h.core.blk _ f g hf h2).1 hg
 have hwok:∀g,ok g→w'.heap[g]?=w.heap[g]?:=fun g hg=>hn.below.block g (Nat.not_le_of_lt (h.core.okL g hg)) (exNot g hg)
 have entOld:∀j f,(St.mk s.T (updE m s.E E1)).ent j=some f→∃old,s.ent j=some old∧f.pin=old.pin:=by
  intro j f hj;rcases cases_ j f hj with⟨k,e,old,h1,h2,h3,rfl⟩|⟨_,h2⟩
  ·exact⟨old,h3,zWK old e (zEK E1 k e hp h1)⟩
  ·exact⟨f,h2,rfl⟩
 refine⟨?_,fun j f g hj hg=>by obtain⟨old,h1,_⟩:=entOld j f hj;exact (h.core.blk j old g h1 hg).2⟩;refine⟨⟨h.core.len,hn.okL,h.core.lib.mono hn.okM hwok,fun t=>(h.core.tmp t).mono0 hn.okM hwok,fun j f hj=>?_,fun j f g hj hg=>?_,fun i j f1 f2 g hi hj h1 h2=>?_⟩,h.defers,?_,fun g hg=>h.base g (Nat.le_trans hsz hg),fun g hg=>hn.okM g (h.old g hg),fun g hg=>?_,fun j f g hj hg=>?_⟩
 ·rcases cases_ j f hj with⟨k,e,old,h1,h2,h3,rfl⟩|⟨h1,h2⟩
  ·have h4:=hE k e h1;rw[h2]at h4;exact zX6 (h.core.ent j old h3) h4 (zEK E1 k e hp h1)
  ·refine (h.core.ent j f h2).mono hn.okM hwok fun g hg=>hn.below.block g (Nat.not_le_of_lt (h.core.blk j f g h2 hg).2) fun hx=>?_
   obtain⟨k,f0,h3,h4⟩:=exE g hx;obtain⟨f2,hf2,_⟩:=zCz (zA3 m s E0 k f0 hm h3);have h5:=h.core.inj _ _ _ _ _ h2 hf2 hg h4
   -- k is a key of E1 too
   have h6:=zCy E0 k f0 h3;rw[←hk]at h6;have h7:=zKI E1 k h6;obtain⟨e1,he1⟩:=h7;exact h1 k e1 he1 h5.symm
 ·obtain⟨old,h1,h2⟩:=entOld j f hj;obtain⟨h3,h4⟩:=h.core.blk j old g h1 hg;refine⟨fun h5=>?_,Nat.lt_of_lt_of_le h4 hsz⟩;rcases hn.okN g h5 with h6|h6
  ·exact h3 h6
  ·omega
 ·obtain⟨o1,a1,_⟩:=entOld i f1 hi;obtain⟨o2,a2,_⟩:=entOld j f2 hj;exact h.core.inj i j o1 o2 g a1 a2 h1 h2
 ·refine h.below.trans ⟨hn.below.os,hn.below.tape,hn.below.output,hn.below.size,fun k hk1 hk2=>?_⟩;refine hn.below.block k (fun hle=>hk1 (h.base k hle)) fun hx=>?_
  obtain⟨k2,f0,h3,h4⟩:=exE k hx;obtain⟨f2,hf2,_⟩:=zCz (zA3 m s E0 k2 f0 hm h3);have h5:=h.own _ f2 k hf2 h4;split at h5
  ·exact hk2 h5
  ·exact hk1 h5
 ·rcases hn.okN g hg with h1|h1
  ·exact h.fresh g h1
  ·exact .inr (h.base g h1)
 ·obtain⟨old,h1,h2⟩:=entOld j f hj;rw[h2];exact h.own j old g h1 hg
theorem R.updN{B:Fr}{w0:World}{ok0 ok:Nat→Prop}{σ σ':Nat→Loc}{s:St}{a:Act}{w:World}(h:R B w0 ok0 ok σ s a w){d N:Nat}{av:AV}{ne:List (Nat×Ent)}{v:Value}
  (hsm:∀id e g,s.ent id=some e→(σ id).blk=some g→g<N) (hBN:∀g,N≤g→B.n g) (hrel:Rel ok σ' w av v) (hkeys:∀id e,ne.lookup id=some e→id<8) (hids:∀e,e≠0→av.ment e=false) (hent:∀id e,ne.lookup id=some e→qW ok w (σ' id) e)
  (hblk:∀id e g,ne.lookup id=some e→(σ' id).blk=some g→N≤g∧¬ok g∧g<w.heap.size) (hinj:∀i j e f g,ne.lookup i=some e→ne.lookup j=some f→(σ' i).blk=some g→(σ' j).blk=some g→i=j) (hnp:∀id e,ne.lookup id=some e→e.pin=false):
  R B w0 ok0 ok (fun id=>if id / 8=d then σ' (id % 8) else σ id) (s.upd d av ne) (a.put (some d) v) w:=by
 have hσ:∀id,id / 8≠d→(fun id=>if id / 8=d then σ' (id % 8) else σ id) id=σ id:=fun id hid=>by simp[hid]
 have look:∀id e,(s.upd d av ne).ent id=some e→(id / 8=d∧ne.lookup (id % 8)=some e)∨(id / 8≠d∧s.ent id=some e):=by
  intro id e he;unfold St.ent St.upd at he;rw[zDK]at he;cases hs:(zDC d ne).lookup id with
  |some e2=>
   rw[hs]at he;injection he with he;subst he;obtain⟨h1,h2⟩:=zDc d ne id _ hs;have h3:=hkeys _ _ h2;have h4:id - d*8=id % 8:=by omega
   rw[h4]at h2;exact .inl ⟨by omega,h2⟩
  |none=>
   rw[hs]at he;simp only[zD1]at he;by_cases hd:id / 8=d
   ·simp[hd]at he
   ·rw[if_neg hd]at he;exact .inr ⟨hd,he⟩
 refine⟨⟨?_,h.core.okL,h.core.lib,fun t=>?_,fun id e he=>?_,fun id e g he hg=>?_,fun i j e f g hi hj h1 h2=>?_⟩,h.defers,h.below,h.base,h.old,h.fresh,fun id e g he hg=>?_⟩
 ·rw[zIq];simpa [St.upd,zCx] using h.core.len
 ·have hk:(s.upd d av ne).get t=if d=t∧d<s.T.length then av.shift d else (bif (s.get t).ment d then AV.bot else s.get t):=by
   have e:=zBf (s.kill d) d t (av.shift d);unfold St.put St.kill St.get at e;simp only[zCx,zEc]at e;unfold St.upd St.get;exact e
  rw[hk,zJI];by_cases hd:d=t∧d<s.T.length
  ·rw[if_pos hd,if_pos ⟨hd.1,Nat.lt_of_lt_of_le hd.2 h.core.len⟩];refine hrel.shift d fun k hk2=>?_
   have hk0:k / 8=0:=by
    rcases Nat.eq_zero_or_pos (k / 8) with h0|h0
    ·exact h0
    ·rw[hids (k / 8) (by omega)]at hk2;cases hk2
   have e1:(d*8+k) / 8=d:=by omega
   have e2:(d*8+k) % 8=k:=by omega
   simp[e1,e2]
  ·rw[if_neg hd];by_cases hd2:d=t∧d<a.tmps.size
   ·rw[if_pos hd2];have hb:s.get t=.bot:=by
     unfold St.get;rw[List.getElem?_eq_none (by omega)];rfl
    rw[hb];trivial
   ·rw[if_neg hd2];cases hm:(s.get t).ment d with
    |true=>trivial
    |false=>exact (h.core.tmp t).mono d (fun _ h=>h) (fun _ _=>rfl) hm hσ
 ·rcases look id e he with⟨h1,h2⟩|⟨h1,h2⟩
  ·simpa [h1] using hent _ _ h2
  ·simp only[h1,if_false];exact h.core.ent id e h2
 ·rcases look id e he with⟨h1,h2⟩|⟨h1,h2⟩
  ·simp only[h1,if_true]at hg;exact (hblk _ _ _ h2 hg).2
  ·simp only[h1,if_false]at hg;exact h.core.blk id e g h2 hg
 ·rcases look i e hi with⟨a1,a2⟩|⟨a1,a2⟩<;>rcases look j f hj with⟨b1,b2⟩|⟨b1,b2⟩
  ·simp only[a1,b1,if_true]at h1 h2;have:=hinj _ _ _ _ _ a2 b2 h1 h2;omega
  ·simp only[a1,b1,if_true,if_false]at h1 h2;have x1:=(hblk _ _ _ a2 h1).1;have x2:=hsm _ _ _ b2 h2;omega
  ·simp only[a1,b1,if_true,if_false]at h1 h2;have x1:=(hblk _ _ _ b2 h2).1;have x2:=hsm _ _ _ a2 h1;omega
  ·simp only[a1,b1,if_false]at h1 h2;exact h.core.inj _ _ _ _ _ a2 b2 h1 h2
 ·rcases look id e he with⟨h1,h2⟩|⟨h1,h2⟩
  ·simp only[h1,if_true]at hg;rw[hnp _ _ h2,if_neg (by decide)];exact hBN _ (hblk _ _ _ h2 hg).1
  ·simp only[h1,if_false]at hg;exact h.own id e g h2 hg
theorem zVn{o:Oper}{s:St}{f:FuncId}{xs:Array Operand}{ts:Array TypeId}{args:List AV}{E0 E1:List (Nat×Ent)}{av:AV}{ne E':List (Nat×Ent)}(m:List (Nat×Nat))(d:Nat)(hS:∀ok σ (a:Act) w,Core ok σ s a w→zWB P f (fun k=>σ (renI m k)) args E0 av ne E1)(hc:∀args w,(callFunc f args).run P w=.ok (.enter f args) w)
  (ho:o.op=.call {callee:=.value (.func f),args:=xs,argTypes:=ts}) (hd:o.dst=some d) (ha:evL s xs.toList=renL m args) (ht:zND args=true) (hm:zIY m s E0) (hk:zCR E1=zCR E0) (hr:zRG m E0=true) (hp:zEn E1=true) (hp0:zEn E0=true) (he:updE m s.E E1=E'):
  X P o s ((St.mk s.T E').upd d av ne):=by
 intro B w0 ok0 ok σ a w hR K Q hK;subst he;have hheld:Held ok (fun k=>σ (renI m k)) w E0:=by
  refine⟨fun id e he=>?_,fun id e g he hg=>?_,fun i j e f g hi hj h1 h2=>?_⟩
  ·exact⟨hR.core.entc _ _ (zA3 m s E0 id e hm he),zEK E0 id e hp0 he⟩
  ·obtain⟨f,hf,_⟩:=zCz (zA3 m s E0 id e hm he);exact hR.core.blk _ f g hf hg
  ·obtain⟨f1,hf1,_⟩:=zCz (zA3 m s E0 i e hm hi);obtain⟨f2,hf2,_⟩:=zCz (zA3 m s E0 j f hm hj);exact zKH (renI m) _ hr i (zCy E0 i e hi) j (zCy E0 j f hj) (hR.core.inj _ _ _ _ _ hf1 hf2 h1 h2)
 refine zLt hc ho (Calls.mono (hS ok σ a w hR.core ok w _ hR.core.okL hR.core.lib (zMv ht (ha▸zJK hR.core xs.toList)) hheld) ?_);rintro e w' ⟨v,ok',σ',he,hn,hE⟩;obtain⟨hR2,hsm⟩:=hR.ref hm hk hr hp hn hE;refine⟨v,he,?_⟩;rw[hd];exact hK _ _ _ _ (hR2.updN hsm hR.base hn.rel hn.keys hn.ids hn.ent hn.blk hn.inj hn.np)
theorem zWp{o:Oper}{s:St}{f:FuncId}{xs:Array Operand}{ts:Array TypeId}{args:List AV}{E0 E1:List (Nat×Ent)}{av:AV}{ne E':List (Nat×Ent)}(m:List (Nat×Nat))(d:Nat)(hS:zFy P f args E0 av ne E1)(hc:∀args w,(callFunc f args).run P w=.ok (.enter f args) w)
  (ho:o.op=.call {callee:=.value (.func f),args:=xs,argTypes:=ts}) (hd:o.dst=some d) (ha:evL s xs.toList=renL m args) (ht:zND args=true) (hm:zIY m s E0) (hk:zCR E1=zCR E0) (hr:zRG m E0=true) (hp:zEn E1=true) (hp0:zEn E0=true) (he:updE m s.E E1=E'):
  X P o s ((St.mk s.T E').upd d av ne):=
 zVn m d (fun _ σ _ _ _=>fun ok w vs h1 h2 h3 h4=>hS ok _ w vs h1 h2 h3 h4) hc ho hd ha ht hm hk hr hp hp0 he
end
def zIV(ms:List Nat)(mask:Nat):Nat→List Nat
 |0=>[]
 |k+1=>bif (!mask.testBit k)&&((ms.getD k 0&&& mask)==ms.getD k 0) then k::zIV ms mask k else zIV ms mask k
theorem zIU(ms:List Nat)(mask:Nat):∀(n i:Nat),i<n→mask.testBit i=false→(∀j,(ms.getD i 0).testBit j=true→mask.testBit j=true)→i∈zIV ms mask n
 |0,i,h,_,_=>by omega
 |k+1,i,h,h1,h2=>by
  simp only[zIV];by_cases hk:i=k
  ·subst hk;have e:(ms.getD i 0&&& mask)=ms.getD i 0:=by
    apply Nat.eq_of_testBit_eq;intro j;rw[Nat.testBit_and];cases hj:(ms.getD i 0).testBit j with
    |false=>rfl
    |true=>rw[h2 j hj];rfl
   rw[h1,e];simp
  ·have ih:=zIU ms mask k i (by omega) h1 h2;cases (!mask.testBit k)&&((ms.getD k 0&&& mask)==ms.getD k 0) with
   |true=>exact List.mem_cons_of_mem _ ih
   |false=>exact ih
section
variable (P:Program)
variable {P}
theorem zVm{o:Oper}{s:St}{f:FuncId}{xs:Array Operand}{ts:Array TypeId}{args:List AV}{E0 E1:List (Nat×Ent)}{av:AV}{ne E':List (Nat×Ent)}(m:List (Nat×Nat))(hS:zFy P f args E0 av ne E1)(hc:∀args w,(callFunc f args).run P w=.ok (.enter f args) w)
  (ho:o.op=.call {callee:=.value (.func f),args:=xs,argTypes:=ts}) (hd:o.dst=none) (ha:evL s xs.toList=renL m args) (ht:zND args=true) (hm:zIY m s E0) (hk:zCR E1=zCR E0) (hr:zRG m E0=true) (hp:zEn E1=true) (hp0:zEn E0=true) (he:updE m s.E E1=E'):
  X P o s (St.mk s.T E'):=by
 intro B w0 ok0 ok σ a w hR K Q hK;subst he;have hheld:Held ok (fun k=>σ (renI m k)) w E0:=by
  refine⟨fun id e he=>?_,fun id e g he hg=>?_,fun i j e f g hi hj h1 h2=>?_⟩
  ·exact⟨hR.core.entc _ _ (zA3 m s E0 id e hm he),zEK E0 id e hp0 he⟩
  ·obtain⟨f,hf,_⟩:=zCz (zA3 m s E0 id e hm he);exact hR.core.blk _ f g hf hg
  ·obtain⟨f1,hf1,_⟩:=zCz (zA3 m s E0 i e hm hi);obtain⟨f2,hf2,_⟩:=zCz (zA3 m s E0 j f hm hj);exact zKH (renI m) _ hr i (zCy E0 i e hi) j (zCy E0 j f hj) (hR.core.inj _ _ _ _ _ hf1 hf2 h1 h2)
 refine zLt hc ho (Calls.mono (hS ok (fun k=>σ (renI m k)) w _ hR.core.okL hR.core.lib (zMv ht (ha▸zJK hR.core xs.toList)) hheld) ?_);rintro e w' ⟨v,ok',σ',he,hn,hE⟩;obtain⟨hR2,_⟩:=hR.ref hm hk hr hp hn hE;refine⟨v,he,?_⟩;rw[hd];exact hK _ _ _ _ hR2
end
def zNr(kd:IntKind)(w:World)(a:Option Addr)(len cap:Nat)(zs:List Int):Prop:=
 (a=none∧len=0∧cap=0∧zs=[])∨
 ∃g:Addr,a=some g∧len≤cap∧cap≤maxLen∧zs.length=cap∧(∀i,i<zs.length→w.cell? (g.add i)=some (.int kd (zs.getD i 0)))∧(∀n∈zs,(Lit.int kd n).wf=true)
theorem zX5{kd:IntKind}{w:World}{a:Option Addr}{len cap:Nat}{zs:List Int}(h:zNr kd w a len cap zs)(c:Int→List Tr)(hc:∀x,c x=[.v (.int kd x)]):Rd (fun g=>g<w.heap.size) w (.sl ((zs.take len).map c)) (.slice a len cap):=by
 rcases h with⟨rfl,rfl,rfl,rfl⟩|⟨g,rfl,hl,hm,hz,hcell,hwf⟩
 ·exact .nl _ _
 ·rcases Nat.eq_zero_or_pos len with h0|h0
  ·subst h0;simpa using Rd.nl _ _
  ·have h1:=hcell 0 (by omega);have h2:g.add 0=g:=rfl;rw[h2]at h1;have hs:g.spot=none:=World.cell?_spot h1;obtain⟨b,o,sp⟩:=g;simp only at hs;subst hs;have hb:b<w.heap.size:=by
    unfold World.cell? at h1;simp only at h1;rcases Nat.lt_or_ge b w.heap.size with h3|h3
    ·exact h3
    ·rw[Array.getElem?_eq_none h3]at h1;cases h1
   have hat:∀i j c',at2 ((zs.take len).map c) i j=some c'→i<len∧j=0∧c'=.v (.int kd (zs.getD i 0)):=by
    intro i j c' hh;unfold at2 at hh;rw[List.getElem?_map]at hh;have hi:i<len:=by
     rcases Nat.lt_or_ge i len with h3|h3
     ·exact h3
     ·rw[List.getElem?_eq_none (by simp;omega)]at hh;cases hh
    have hzi:(zs.take len)[i]?=some (zs.getD i 0):=by
     rw[List.getElem?_take,if_pos hi,List.getD_eq_getElem?_getD];have:i<zs.length:=by omega
     rw[zl this];rfl
    rw[hzi]at hh;simp only[Option.map_some,Option.bind_some,hc]at hh;cases j with
    |zero=>simp at hh;exact⟨hi,rfl,hh.symm⟩
    |succ j=>simp at hh
   refine .sl b o len cap 1 _ (fun i j=>.int kd (zs.getD i 0)) (by simp;omega) hl hb (fun el hel=>?_) (fun i j c' hh=>?_) (fun i j c' hh=>?_)
   ·obtain⟨x,_,rfl⟩:=List.mem_map.1 hel;rw[hc];rfl
   ·obtain⟨h3,h4,_⟩:=hat i j c' hh;subst h4;have h5:=hcell i (by omega);rw[zDr]at h5;simpa using h5
   ·obtain⟨h3,h4,h5⟩:=hat i j c' hh;rw[h5];exact .v _ rfl
theorem zRI{kd:IntKind}{w:World}{σ:Nat→Loc}{a:Option Addr}{len cap:Nat}{zs:List Int}{args:List AV}{vs:List Value}(h:zNr kd w a len cap zs)(c:Int→List Tr)(hc:∀x,c x=[.v (.int kd x)])(hs:RelA (fun g=>g<w.heap.size) σ w args vs):
  RelA (fun g=>g<w.heap.size) σ w (.c (.sl ((zs.take len).map c))::args) (.slice a len cap::vs):=.cons (zX5 h c hc) hs
theorem zUX{w:World}{a:Option Addr}{len cap:Nat}{zs:List Int}(h:zNr .u8 w a len cap zs):∀x∈zs.take len,0≤x∧x≤255:=by
 intro x hx;have hx:=List.mem_of_mem_take hx;rcases h with⟨_,_,_,rfl⟩|⟨g,_,_,_,_,_,hwf⟩
 ·cases hx
 ·exact bounds_u8 (hwf x hx)
section
variable {P:Program}
theorem zQu{n:Nat}{l h:Int}{u:Unit}(hh:slc n l h=some u):0≤l∧l≤h∧h≤n:=by
 unfold slc at hh;cases hb:(leI 0 l&&(leI l h&&leI h n)) with
 |false=>rw[hb]at hh;cases hh
 |true=>simpa [jL] using hb
theorem zFn{k:IntKind}{n:Int}{y:Nat}{code:BoundsCode}(h0:0≤n)(h1:n≤y)(w:World):(Instr.sliceBound (.int k n) y code).run P w=.ok n.toNat w:=by unfold Instr.sliceBound;simp[asIntOf,h0,h1]
theorem zWL{ok:Nat→Prop}{w:World}{els:List (List Tr)}{A:Option Addr}{n cap sz:Nat}(h:Rd ok w (.sl els) (.slice A n cap))(hs:∀el,el∈els→el.length=sz){l h':Nat}(h1:l≤h')(h2:h'≤els.length):
  Rd ok w (.sl ((els.drop l).take (h' - l))) (.slice (if cap=l then A else A.map (·.add (l*sz))) (h' - l) (cap - l)):=by
 cases h with
 |nl A cap=>
  have e1:l=0:=by simp at h2;omega
  have e2:h'=0:=by simp at h2;omega
  subst e1 e2;simpa using Rd.nl _ _
 |sl g off n cap sz2 els f hn hcap hok hsz hc hr=>
  rcases Nat.eq_zero_or_pos (h' - l) with h0|h0
  ·rw[h0];simpa using Rd.nl _ _
  ·have hlen:els≠[]:=by intro e;subst e;simp at h2;omega
   have hcl:¬cap=l:=by omega
   rw[if_neg hcl];have hz:sz2=sz:=by obtain⟨e,he⟩:=List.exists_mem_of_ne_nil els hlen;rw[←hsz e he,hs e he]
   subst hz;have hat:∀i j c,at2 ((els.drop l).take (h' - l)) i j=some c→at2 els (l+i) j=some c:=by
    intro i j c hh;unfold at2 at hh ⊢;rw[List.getElem?_take]at hh;split at hh
    ·rw[List.getElem?_drop]at hh;exact hh
    ·cases hh
   have ha:(Option.map (fun x:Addr=>x.add (l*sz2)) (some ⟨g,off,none⟩))=some ⟨g,off+l*sz2,none⟩:=by rw[Option.map_some,zDr]
   rw[ha];refine .sl g (off+l*sz2) (h' - l) (cap - l) sz2 _ (fun i j=>f (l+i) j) ?_ (by omega) hok (fun el hel=>hsz el (List.mem_of_mem_drop (List.mem_of_mem_take hel))) (fun i j c hh=>?_) (fun i j c hh=>hr _ _ _ (hat i j c hh))
   ·simp;omega
   ·have h3:=hc _ _ _ (hat i j c hh);have e:off+l*sz2+(i*sz2+j)=off+((l+i)*sz2+j):=by rw[Nat.add_mul];omega
    rw[e];exact h3
theorem zVe{α:Type}{c:α→List Tr}{xs:List α}{o:Oper}{s:St}{t e sz:Nat}{x:Operand}{lo hi:Option Operand}{l h:Int}(hu:P.underlying t=some (.slice e))(hsz:(P.info? e).map (·.size)=some sz)(hc:∀v,(c v).length=sz)(ho:o.op=.slice t x lo hi none)
  (hx:s.ev x=.c (.sl (xs.map c))) (hlo:∀y,lo=some y→∃k,s.ev y=.c (.v (.int k l))) (hlo0:lo=none→l=0) (hhi:∀y,hi=some y→∃k,s.ev y=.c (.v (.int k h))) (hhi0:hi=none→h=(xs.length:Int)) (hb:0≤l∧l≤h∧h≤xs.length):Y0 P o s (.c (.sl ((subl xs l h).map c))):=
 qS fun ok σ a w hC=>by
  obtain⟨b1,b2,b3⟩:=hb;have h1:=hC.ev x;rw[hx]at h1;have h2:Rd ok w (.sl (xs.map c)) (a.eval x):=h1;generalize hv:a.eval x=v at h2;obtain⟨A,n,cap,rfl,hn,hcap⟩:∃A n cap,v=.slice A n cap∧n=xs.length∧n≤cap:=by
   generalize hT:Tr.sl (xs.map c)=T at h2;cases h2 with
   |v y hy=>cases hT
   |mp b es clock hb hm=>cases hT
   |nl A cap=>
    injection hT with hT;have:xs=[]:=by simpa using hT
    subst this;exact⟨A,0,cap,rfl,rfl,Nat.zero_le _⟩
   |sl g off n cap sz els f hn hcap hok hsz hc hr=>injection hT with hT;subst hT;exact⟨_,n,cap,rfl,by rw[hn];simp,hcap⟩
  have h3:=zWL (sz:=sz) h2 (fun el hel=>by obtain⟨y,_,rfl⟩:=List.mem_map.1 hel;exact hc y) (l:=l.toNat) (h':=h.toNat) (by omega) (by simp;omega);have e1:((xs.map c).drop l.toNat).take (h.toNat - l.toNat)=(subl xs l h).map c:=by unfold subl;rw[←List.map_drop,←List.map_take]
  rw[e1]at h3;refine⟨_,?_,h3⟩;have eL:(lo.map a.eval)=none∧l=0∨∃k,lo.map a.eval=some (.int k l):=by
   cases lo with
   |none=>exact .inl ⟨rfl,hlo0 rfl⟩
   |some y=>obtain⟨k,hk⟩:=hlo y rfl;exact .inr ⟨k,by simp[hC.exact hk]⟩
  have eH:(hi.map a.eval)=none∧h=(n:Int)∨∃k,hi.map a.eval=some (.int k h):=by
   cases hi with
   |none=>exact .inl ⟨rfl,by rw[hhi0 rfl,hn]⟩
   |some y=>obtain⟨k,hk⟩:=hhi y rfl;exact .inr ⟨k,by simp[hC.exact hk]⟩
  have hbounds:∀w,(Instr.sliceBounds true n cap (lo.map a.eval) (hi.map a.eval) none).run P w=.ok (l.toNat,h.toNat,cap) w:=by
   intro w;unfold Instr.sliceBounds;rcases eL with⟨e2,e3⟩|⟨k,e2⟩<;>rcases eH with⟨e4,e5⟩|⟨k2,e4⟩
   ·subst e3 e5;simp[e2,e4]
   ·subst e3;simp only[e2,e4,Sem.run_bind,Sem.run_pure,Result.andThen_ok,zFn (P:=P) (k:=k2) (n:=h) (y:=cap) (by omega) (by omega)];rfl
   ·subst e5;simp only[e2,e4,Sem.run_bind,Sem.run_pure,Result.andThen_ok,zFn (P:=P) (k:=k) (n:=l) (y:=n) b1 (by omega)];simp
   ·simp only[e2,e4,Sem.run_bind,Sem.run_pure,Result.andThen_ok,zFn (P:=P) (k:=k2) (n:=h) (y:=cap) (by omega) (by omega),zFn (P:=P) (k:=k) (n:=l) (y:=h.toNat) b1 (by omega)]
  cases hii:P.info? e with
  |none=>rw[hii]at hsz;cases hsz
  |some i=>
   have hi2:i.size=sz:=by rw[hii]at hsz;simpa using hsz
   unfold execOp;rw[ho];simp[hv,Instr.sliceAt,Instr.slice,run_underlying hu,hbounds,sizeOf,typeInfo,hii,hi2]
theorem zUD{o:Oper}{s:St}{x y:Operand}{t e d id sz bytes:Nat}{z:Value}{els:List (List Tr)}(ho:o.op=.call {callee:=.builtin .append,args:=#[x,y],argTypes:=#[t,t]})(hd:o.dst=some d)(ht:P.underlying t=some (.slice e))
  (hi:(P.info? e).map (fun i=>(i.zero,i.size,i.bytes))=some (some z,sz,bytes)) (hx:s.ev x=.ow id) (he:s.ent id=some (.arr e sz els)) (hy:zBT s (s.ev y)=some []):X P o s ⟨(zBx id s.T).set d (.ow id),setE id (.arr e sz (els++[])) s.E⟩:=by
 intro B w0 ok0 ok σ a w hR K Q hK;have h3:=hR.core.ev x;rw[hx]at h3;have h4:a.eval x=zG (σ id):=h3;obtain⟨A,cap2,h5,_,_⟩:=zIM hR.core (hR.core.ev y) hy;obtain⟨h0,hn,hs,vs,hown,hrd⟩:=hR.core.ent id _ he;have hle:(σ id).n≤(σ id).cap:=by
  rcases hown.2 with⟨hv,hv0⟩|⟨g,cap,cur,hv,_,_,hnc,_⟩
  ·omega
  ·unfold zG at hv;injection hv with _ q1 q2;omega
 cases hii:P.info? e with
 |none=>rw[hii]at hi;simp at hi
 |some i=>
  have hi2:i.size=sz:=by rw[hii]at hi;simp at hi;exact hi.2.1
  have hrun:(Builtin.append_ #[t,t] o.type #[zG (σ id),.slice A 0 cap2]).run P w=.ok (zG (σ id)) w:=by
   unfold Builtin.append_ zG;cases A<;>cases (σ id).blk<;>simp[run_underlying ht,sizeOf,typeInfo,hii,hi2,Builtin.lenOf,Builtin.firstCells,hle,loadCells,loadCellsFrom,storeCells]
  unfold Oper.wp execOp;simp only[ho,resolve,invoke,builtin,Sem.run_bind,Sem.run_pure,Result.andThen_ok,List.map_toArray,List.map_cons,List.map_nil,h4,h5,List.length_nil,hrun,Oper.upon,hd];refine hK _ _ ok σ ((hR.put (d:=d) (av:=.ow id) (v:=zG (σ id)) rfl).le ⟨by simp[St.put,zEL],fun u=>?_,fun j f hj=>?_⟩)
  ·have e0:=zBf ⟨zBx id s.T,s.E⟩ d u (.ow id);have e1:=zBf s d u (.ow id);unfold St.put St.get at e0 e1;unfold St.get St.put;simp only[zEL,zFq]at e0;rw[e0,e1];split
   ·exact .inr rfl
   ·cases ((s.T[u]?).getD .bot).mid id with
    |true=>exact .inl rfl
    |false=>exact .inr rfl
  ·have h7:(setE id (.arr e sz (els++[])) s.E).lookup j=some f:=hj;rw[jX id _ s.E _ he,List.append_nil]at h7;show s.ent j=some f;split at h7
   ·rename_i hji;subst hji;rw[he];exact h7
   ·exact h7
theorem zPN{α:Type}{c:α→List Tr}{xs ys:List α}{o:Oper}{s:St}{x y:Operand}{t e d id sz bytes:Nat}{z:Value}(ho:o.op=.call {callee:=.builtin .append,args:=#[x,y],argTypes:=#[t,t]})(hd:o.dst=some d)(ht:P.underlying t=some (.slice e))
  (hi:(P.info? e).map (fun i=>(i.zero,i.size,i.bytes))=some (some z,sz,bytes)) (hzs:z.cells.size=sz) (hx:s.ev x=.ow id) (he:s.ent id=some (.arr e sz (xs.map c))) (hy:zBT s (s.ev y)=some (ys.map c)) (hc:∀v,(c v).length=sz)
  (hr:xs.length+ys.length≤1099511627776) (hby:bytes≤128):X P o s ⟨(zBx id s.T).set d (.ow id),setE id (.arr e sz ((xs++ys).map c)) s.E⟩:=by
 cases ys with
 |nil=>have:=zUD ho hd ht hi hx he (by simpa using hy);simpa using this
 |cons v vs=>exact zEf ho hd ht hi hzs hx he hy hc (by simp) hr hby
end
end Go.Proofs.YtdedjieegpkabaaGreat
