/-
  Rules of walks, plain functions and their laws, part 1.
  Conditions: none.
-/
import Derived.WalkKit
import Derived.Lib.ItoaNum
import Derived.Below
import Derived.Orders
import Derived.Deep.AppendLies
import Derived.Deep.LoopGhost
import Derived.WalkLawsBesides
import Derived.Laws.Small
import Derived.Laws.StructEq
import Derived.Laws.CopyRow
import Derived.Laws.Tables
import Derived.Laws.MakeOwn
import Derived.Lib.Join
import Derived.Laws.FloatArith
import Derived.Lib.SplitLaws
import Derived.Lib.FieldsP
import Derived.Lib.CutLaws
import Derived.Lib.AtoiAllCases
import Derived.Laws.Externs
set_option linter.unusedSimpArgs false
set_option linter.unusedVariables false
namespace Go.Proofs.YtnjhhbcccgbbnaaGreatDoor
open Go.RowKit
abbrev qe:=ByteArray.empty
abbrev qd:=ByteArray
theorem za.{u_1}:∀ {α : Sort u_1} (a b : α), (bif true then a else b) = a:=@cond_true
theorem zb:∀ {p : Prop} [inst : Decidable p], p → decide p = true:=@decide_eq_true
theorem zc:∀ {p : Prop} [inst : Decidable p], ¬p → decide p = false:=@decide_eq_false
theorem zd.{u_1}:∀ {α : Type u_1} {as bs : List α}, List.length (as ++ bs) = List.length as + List.length bs:=@List.length_append
theorem ze.{u_1}:∀ {α : Type u_1} {a : α} {as : List α}, List.length (a :: as) = List.length as + 1:=@List.length_cons
theorem zf:(!false) = true:=@Bool.not_false
theorem zg:∀ (n : Nat), Int.toNat ↑n = n:=@Int.toNat_natCast
theorem zh:∀ (a b : Bool), ((a && b) = true) = (a = true ∧ b = true):=@Bool.and_eq_true
theorem zi:∀ (n : Nat), n < Nat.succ n:=@Nat.lt_succ_self
theorem zj.{u_1}:∀ {α : Type u_1} {b : α} {l : List α} {a : α}, a ∈ b :: l ↔ a = b ∨ a ∈ l:=@List.mem_cons
theorem zk.{u_1}:∀ {α : Type u_1} {a : α} {l : List α}, a ∈ a :: l:=@List.mem_cons_self
theorem zl.{u_1}:∀ {α : Type u_1} (y : α) {a : α} {l : List α}, a ∈ l → a ∈ y :: l:=@List.mem_cons_of_mem
theorem zm.{u_1}:∀ {α : Type u_1} {a : α} {s t : List α}, a ∈ s ++ t ↔ a ∈ s ∨ a ∈ t:=@List.mem_append
theorem zn:∀ {a b c : Int}, a ≤ b → 0 ≤ c → c * a ≤ c * b:=@Int.mul_le_mul_of_nonneg_left
theorem zo.{u_1}:∀ {α : Type u_1} {a : α}, ¬a ∈ []:=@List.not_mem_nil
theorem zp.{u_1,u_2}:∀ {α : Type u_1} {β : Type u_2} {f : α → β}, List.map f [] = []:=@List.map_nil
theorem zq.{u_1}:∀ {α : Type u_1} (as : List α), [] ++ as = as:=@List.nil_append
theorem zr.{u_1}:∀ {α : Type u_1} [inst : BEq α] [LawfulBEq α] {a b : α}, (a == b) = false ↔ a ≠ b:=@beq_eq_false_iff_ne
theorem zt.{u_1}:∀ {α : Type u_1} {l : List α} {n : Nat} (h : n < List.length l), l[n] ∈ l:=@List.getElem_mem
theorem zu.{u_1}:∀ {α : Type u_1} {l : List α} {i : Nat} (h : i < List.length l), l[i]? = some l[i]:=@List.getElem?_eq_getElem
theorem zw:∀ (a b c : Int), a * b * c = a * (b * c):=@Int.mul_assoc
theorem zy:∀ (a : Int) {b : Int}, b ≠ 0 → 0 ≤ a % b:=@Int.emod_nonneg
theorem zz:∀ (a : Int) {b : Int}, 0 < b → a % b < b:=@Int.emod_lt_of_pos
theorem qa:∀ {p : Prop} [inst : Decidable p], decide p = true ↔ p:=@decide_eq_true_iff
theorem qc.{u_1}:∀ {α : Type u_1} {a b : α}, a ∈ [b] ↔ a = b:=@List.mem_singleton
def TB:List (Nat×(Array Value→Prop)):=[(0,fun cs=>cs=(Go.Lib.pow10Tab.map fun z=>Value.int .u64 z).toArray),(2,fun cs=>∃m,cs[0]?=some (.int .i64 m)),(3,fun cs=>∃te pe,cs[0]?=some (.iface te pe)),(4,fun cs=>∃te pe,cs[0]?=some (.iface te pe))]
inductive Tr where
  |v (x:Value)
  |sl (els:List (List Tr))
  |mp (kvs:List (Value×Value))
def at2(els:List (List Tr))(i j:Nat):Option Tr:=(els[i]?).bind fun el=>el[j]?
def kvOf(e:MapEntry):Value×Value:=(e.key,e.val)
inductive Rd (ok:Nat→Prop) (w:World):Tr→Value→Prop
  |v (x:Value) (h:x.oneCell'=true):Rd ok w (.v x) x
  |nl (A:Option Addr) (cap:Nat):Rd ok w (.sl []) (.slice A 0 cap)
  |sl (g off n cap sz:Nat) (els:List (List Tr)) (f:Nat→Nat→Value) (hn:n=els.length) (hcap:n≤cap) (hok:ok g)
      (hsz:∀el,el∈els→el.length=sz)
      (hc:∀i j c,at2 els i j=some c→w.cell? ⟨g,off+(i*sz+j),none⟩=some (f i j))
      (hr:∀i j c,at2 els i j=some c→Rd ok w c (f i j)):Rd ok w (.sl els) (.slice (some ⟨g,off,none⟩) n cap)
  |mp (b:Nat) (es:Array MapEntry) (clock:Nat) (hok:ok b) (hb:w.heap[b]?=some (.map es clock)):Rd ok w (.mp (es.toList.map kvOf)) (.map (some b))
theorem Rd.one{ok:Nat→Prop}{w:World}{t:Tr}{x:Value}(h:Rd ok w t x):x.oneCell'=true:=by
 cases h with
 |v x h=>exact h
 |nl A cap=>rfl
 |sl=>rfl
 |mp=>rfl
theorem Rd.mono{ok ok':Nat→Prop}{w w':World}{t:Tr}{x:Value}(h:Rd ok w t x)(hok:∀g,ok g→ok' g)(hw:∀g,ok g→w'.heap[g]?=w.heap[g]?):Rd ok' w' t x:=by
 induction h with
 |v x h=>exact .v x h
 |nl A cap=>exact .nl A cap
 |sl g off n cap sz els f hn hcap hg hsz hc hr ih=>refine .sl g off n cap sz els f hn hcap (hok g hg) hsz (fun i j c h=>?_) ih;rw[World.cell?_of_block (w:=w) (hw g hg)];exact hc i j c h
 |mp b es clock hb hm=>exact .mp b es clock (hok b hb) (by rw[hw b hb];exact hm)
def Tr.flat:Tr→Bool
 | .v _=>true
 | .sl []=>true
 |_=>false
theorem Rd.flat{ok ok':Nat→Prop}{w w':World}{t:Tr}{x:Value}(h:Rd ok w t x)(hf:t.flat=true):Rd ok' w' t x:=by
 cases h with
 |v x h=>exact .v x h
 |nl A cap=>exact .nl A cap
 |sl g off n cap sz els f hn hcap hg hsz hc hr=>
  cases els with
  |nil=>subst hn;exact .nl _ cap
  |cons e es=>simp[Tr.flat]at hf
 |mp b es clock hb hm=>simp[Tr.flat]at hf
inductive RdL (ok:Nat→Prop) (w:World):List Tr→List Value→Prop
  |nil:RdL ok w [] []
  |cons {t x ts xs} (h:Rd ok w t x) (hs:RdL ok w ts xs):RdL ok w (t::ts) (x::xs)
theorem RdL.len{ok:Nat→Prop}{w:World}{ts:List Tr}{xs:List Value}(h:RdL ok w ts xs):ts.length=xs.length:=by
 induction h with
 |nil=>rfl
 |cons h hs ih=>simp[ih]
theorem RdL.mono{ok ok':Nat→Prop}{w w':World}{ts:List Tr}{xs:List Value}(h:RdL ok w ts xs)(hok:∀g,ok g→ok' g)(hw:∀g,ok g→w'.heap[g]?=w.heap[g]?):RdL ok' w' ts xs:=by
 induction h with
 |nil=>exact .nil
 |cons h hs ih=>exact .cons (h.mono hok hw) ih
theorem RdL.flat{ok ok':Nat→Prop}{w w':World}{ts:List Tr}{xs:List Value}(h:RdL ok w ts xs)(hf:ts.all Tr.flat=true):RdL ok' w' ts xs:=by
 induction h with
 |nil=>exact .nil
 |cons h hs ih=>simp only[List.all_cons,zh]at hf;exact .cons (h.flat hf.1) (ih hf.2)
theorem RdL.app{ok:Nat→Prop}{w:World}{ts us:List Tr}{xs ys:List Value}(h:RdL ok w ts xs)(h2:RdL ok w us ys):RdL ok w (ts++us) (xs++ys):=by
 induction h with
 |nil=>exact h2
 |cons h hs ih=>exact .cons h ih
theorem RdL.get{ok:Nat→Prop}{w:World}{ts:List Tr}{xs:List Value}(h:RdL ok w ts xs):∀(j:Nat)(t:Tr),ts[j]?=some t→∃x,xs[j]?=some x∧Rd ok w t x:=by
 induction h with
 |nil=>intro j t h;simp at h
 |cons h hs ih=>
  intro j t hj;cases j with
  |zero=>simp at hj;subst hj;exact⟨_,rfl,h⟩
  |succ j=>simpa using ih j t (by simpa using hj)
theorem RdL.mk{ok:Nat→Prop}{w:World}:∀{ts:List Tr}{xs:List Value},ts.length=xs.length→(∀(j:Nat)(t:Tr),ts[j]?=some t→∃x,xs[j]?=some x∧Rd ok w t x)→RdL ok w ts xs
 |[],[],_,_=>.nil
 |[],_::_,h,_=>by simp at h
 |_::_,[],h,_=>by simp at h
 |t::ts,x::xs,h,hg=>by obtain⟨y,h1,h2⟩:=hg 0 t rfl;simp at h1;subst h1;exact .cons h2 (RdL.mk (by simpa using h) fun (j:Nat) u hj=>by simpa using hg (j+1) u (by simpa using hj))
theorem RdL.one{ok:Nat→Prop}{w:World}{ts:List Tr}{xs:List Value}(h:RdL ok w ts xs):∀x,x∈xs→x.oneCell'=true:=by
 induction h with
 |nil=>intro x h;cases h
 |cons h hs ih=>
  intro x hx;cases hx with
  |head=>exact h.one
  |tail _ hx=>exact ih x hx
theorem RdL.take{ok:Nat→Prop}{w:World}{ts:List Tr}{xs:List Value}(h:RdL ok w ts xs)(n:Nat):RdL ok w (ts.take n) (xs.take n):=by
 induction h generalizing n with
 |nil=>simpa using RdL.nil
 |cons h hs ih=>
  cases n with
  |zero=>exact .nil
  |succ n=>exact .cons h (ih n)
theorem RdL.drop{ok:Nat→Prop}{w:World}{ts:List Tr}{xs:List Value}(h:RdL ok w ts xs)(n:Nat):RdL ok w (ts.drop n) (xs.drop n):=by
 induction h generalizing n with
 |nil=>simpa using RdL.nil
 |cons h hs ih=>
  cases n with
  |zero=>exact .cons h hs
  |succ n=>exact ih n
theorem RdL.set{ok:Nat→Prop}{w:World}{ts:List Tr}{xs:List Value}(h:RdL ok w ts xs)(n:Nat){t:Tr}{x:Value}(hx:Rd ok w t x):RdL ok w (ts.set n t) (xs.set n x):=by
 induction h generalizing n with
 |nil=>simpa using RdL.nil
 |cons h hs ih=>
  cases n with
  |zero=>exact .cons hx hs
  |succ n=>exact .cons h (ih n)
def PeOk(ok:Nat→Prop)(w:World)(cs:List Tr)(y:Value):Prop:=∃g off,ok g∧y=.pointer (some ⟨g,off,none⟩)∧∀j c,cs[j]?=some c→∃u,w.cell? ⟨g,off+j,none⟩=some u∧Rd ok w c u
theorem PeOk.mono{ok ok':Nat→Prop}{w w':World}{cs:List Tr}{y:Value}(h:PeOk ok w cs y)(hok:∀g,ok g→ok' g)(hw:∀g,ok g→w'.heap[g]?=w.heap[g]?):PeOk ok' w' cs y:=by obtain⟨g,off,hg,hy,hc⟩:=h;refine⟨g,off,hok g hg,hy,fun j c hj=>?_⟩;obtain⟨u,h1,h2⟩:=hc j c hj;exact⟨u,by rw[World.cell?_of_block (w:=w) (hw g hg)];exact h1,h2.mono hok hw⟩
inductive PeL (ok:Nat→Prop) (w:World):List (List Tr)→List Value→Prop
  |nil:PeL ok w [] []
  |cons {c y cs ys} (h:PeOk ok w c y) (hs:PeL ok w cs ys):PeL ok w (c::cs) (y::ys)
theorem PeL.mono{ok ok':Nat→Prop}{w w':World}{cs:List (List Tr)}{ys:List Value}(h:PeL ok w cs ys)(hok:∀g,ok g→ok' g)(hw:∀g,ok g→w'.heap[g]?=w.heap[g]?):PeL ok' w' cs ys:=by
 induction h with
 |nil=>exact .nil
 |cons h hs ih=>exact .cons (h.mono hok hw) ih
inductive VwM
  |whole
  |elem (i:Nat)
  |sub (k:Nat)
inductive AV where
  |bot
  |c (t:Tr)
  |ag (cs:List Tr)
  |ow (id:Nat)
  |pt (id off:Nat)
  |po (id sz i off:Nat)
  |pe (cs:List Tr)
  |fn (f:FuncId) (caps:List (List Tr))
  |vw (id:Nat) (els:List (List Tr)) (m:VwM)
  |sf (id sz k:Nat)
  |er (b:Bool)
  |tn
  |tc (x r:AV)
structure Loc where
  blk:Option Nat
  n:Nat
  cap:Nat
inductive Ent where
  |box (cs:List Tr)
  |arr (e:TypeId) (sz:Nat) (els:List (List Tr))
  |pbox (l:Loc) (cs:List Tr)
  |parr (l:Loc) (e:TypeId) (sz:Nat) (els:List (List Tr))
  |mp (b:Nat) (kvs:List (Value×Value))
  |qarr (l:Loc) (e:TypeId) (sz:Nat) (els:List (List Tr))
def Ent.core:Ent→Ent
 | .pbox _ cs=>.box cs
 | .parr _ e sz els=>.arr e sz els
 | .box cs=>.box cs
 | .arr e sz els=>.arr e sz els
 | .mp b kvs=>.mp b kvs
 | .qarr _ e sz els=>.arr e sz els
def Ent.pin:Ent→Bool
 | .pbox _ _=>true
 | .parr _ _ _ _=>true
 | .box _=>false
 | .arr _ _ _=>false
 | .mp _ _=>false
 | .qarr _ _ _ _=>false
def Ent.plain:Ent→Bool
 | .box _=>true
 | .arr _ _ _=>true
 |_=>false
theorem Ent.pin_of_plain{e:Ent}(h:e.plain=true):e.pin=false:=by cases e<;>first|rfl|cases h
def zK(l:Loc):Value:=.slice (l.blk.map fun g=>⟨g,0,none⟩) l.n l.cap
def z3a(g sz n cap:Nat):VwM→Value
 | .whole=>.slice (some ⟨g,0,none⟩) n cap
 | .elem i=>.pointer (some ⟨g,i*sz,none⟩)
 | .sub k=>.slice (some ⟨g,k*sz,none⟩) (n - k) (cap - k)
def VwOk(ok:Nat→Prop)(l:Loc)(w:World)(els:List (List Tr))(m:VwM)(y:Value):Prop:=
 ∃g sz cap,0<els.length∧els.length≤cap∧0<sz∧(∀el,el∈els→el.length=sz)∧y=z3a g sz els.length cap m∧
  (l.blk=some g∨(ok g∧∃vs,RdL ok w els.flatten vs∧∀(j:Nat)(u:Value),vs[j]?=some u→w.cell? ⟨g,j,none⟩=some u))
theorem VwOk.mono{ok ok':Nat→Prop}{l l':Loc}{w w':World}{els:List (List Tr)}{m:VwM}{y:Value}(h:VwOk ok l w els m y)(hok:∀g,ok g→ok' g)(hw:∀g,ok g→w'.heap[g]?=w.heap[g]?)(hl:l'=l):VwOk ok' l' w' els m y:=by
 subst hl;obtain⟨g,sz,cap,h1,h2,h3,h4,h5,h6⟩:=h;refine⟨g,sz,cap,h1,h2,h3,h4,h5,?_⟩;rcases h6 with h6|⟨h6,vs,h7,h8⟩
 ·exact .inl h6
 ·refine .inr ⟨hok g h6,vs,h7.mono hok hw,fun j u hj=>?_⟩;rw[World.cell?_of_block (w:=w) (hw g h6)];exact h8 j u hj
def zPA(l:Loc)(sz k:Nat):Value:=.slice (bif Nat.beq l.cap k then l.blk.map (fun g=>⟨g,0,none⟩) else l.blk.map (fun g=>⟨g,k*sz,none⟩)) (l.n - k) (l.cap - k)
def Rel1(ok:Nat→Prop)(σ:Nat→Loc)(w:World):AV→Value→Prop
 | .bot,_=>True
 | .c t,y=>Rd ok w t y
 | .ag cs,y=>∃vs,y=.agg vs∧RdL ok w cs vs.toList
 | .ow id,y=>y=zK (σ id)
 | .pt id off,y=>∃g,(σ id).blk=some g∧y=.pointer (some ⟨g,off,none⟩)
 | .po id sz i off,y=>∃g,(σ id).blk=some g∧y=.pointer (some ⟨g,i*sz+off,none⟩)
 | .pe cs,y=>∃g off,ok g∧y=.pointer (some ⟨g,off,none⟩)∧∀j c,cs[j]?=some c→∃u,w.cell? ⟨g,off+j,none⟩=some u∧Rd ok w c u
 | .fn f caps,y=>∃vs,y=.func (.func f) #[] vs.toArray∧PeL ok w caps vs
 | .vw id els m,y=>VwOk ok (σ id) w els m y
 | .sf id sz k,y=>y=zPA (σ id) sz k
 | .er b,y=>(b=true∧y=.nilIface)∨(b=false∧∃t v,y=.iface t v)
 |_,_=>False
def RelL(ok:Nat→Prop)(σ:Nat→Loc)(w:World):AV→List Value→Prop
 | .tn,[]=>True
 | .tc x r,v::vs=>Rel1 ok σ w x v∧RelL ok σ w r vs
 |_,_=>False
def Rel(ok:Nat→Prop)(σ:Nat→Loc)(w:World):AV→Value→Prop
 | .tn,y=>∃vs,y=.tuple vs∧RelL ok σ w .tn vs.toList
 | .tc x r,y=>∃vs,y=.tuple vs∧RelL ok σ w (.tc x r) vs.toList
 |av,y=>Rel1 ok σ w av y
def AV.ment(d:Nat):AV→Bool
 | .ow id=>id / 8==d
 | .pt id _=>id / 8==d
 | .po id _ _ _=>id / 8==d
 | .vw id _ _=>id / 8==d
 | .sf id _ _=>id / 8==d
 | .tc x r=>x.ment d||r.ment d
 |_=>false
theorem Rel1.mono{ok ok':Nat→Prop}{σ σ':Nat→Loc}{w w':World}{av:AV}{y:Value}(d:Nat)(h:Rel1 ok σ w av y)(hok:∀g,ok g→ok' g)(hw:∀g,ok g→w'.heap[g]?=w.heap[g]?)
  (hm:av.ment d=false) (hσ:∀id,id / 8≠d→σ' id=σ id):Rel1 ok' σ' w' av y:=by
 cases av with
 |bot=>trivial
 |c t=>exact Rd.mono h hok hw
 |ag cs=>obtain⟨vs,hy,hr⟩:=h;exact⟨vs,hy,hr.mono hok hw⟩
 |ow id=>have e:=hσ id (by simpa [AV.ment] using hm);show y=_;rw[e];exact h
 |pt id off=>have e:=hσ id (by simpa [AV.ment] using hm);show ∃g,_;rw[e];exact h
 |po id sz i off=>have e:=hσ id (by simpa [AV.ment] using hm);show ∃g,_;rw[e];exact h
 |pe cs=>obtain⟨g,off,hg,hy,hc⟩:=h;refine⟨g,off,hok g hg,hy,fun j c hj=>?_⟩;obtain⟨u,h1,h2⟩:=hc j c hj;exact⟨u,by rw[World.cell?_of_block (w:=w) (hw g hg)];exact h1,h2.mono hok hw⟩
 |fn f caps=>obtain⟨vs,hy,hp⟩:=h;exact⟨vs,hy,hp.mono hok hw⟩
 |er b=>exact h
 |vw id els m=>exact VwOk.mono h hok hw (hσ id (by simpa [AV.ment] using hm))
 |sf id sz k=>have e:=hσ id (by simpa [AV.ment] using hm);show y=_;rw[e];exact h
 |tn=>exact h.elim
 |tc x r=>exact h.elim
theorem RelL.mono{ok ok':Nat→Prop}{σ σ':Nat→Loc}{w w':World}{av:AV}{ys:List Value}(d:Nat)(h:RelL ok σ w av ys)(hok:∀g,ok g→ok' g)(hw:∀g,ok g→w'.heap[g]?=w.heap[g]?)
  (hm:av.ment d=false) (hσ:∀id,id / 8≠d→σ' id=σ id):RelL ok' σ' w' av ys:=by
 induction av generalizing ys with
 |tn=>
  cases ys with
  |nil=>trivial
  |cons y ys=>exact h.elim
 |tc x r _ ih=>
  cases ys with
  |nil=>exact h.elim
  |cons y ys=>simp only[AV.ment,Bool.or_eq_false_iff]at hm;exact⟨h.1.mono d hok hw hm.1 hσ,ih h.2 hm.2⟩
 |_=>cases ys<;>exact (h:False).elim
theorem Rel.mono{ok ok':Nat→Prop}{σ σ':Nat→Loc}{w w':World}{av:AV}{y:Value}(d:Nat)(h:Rel ok σ w av y)(hok:∀g,ok g→ok' g)(hw:∀g,ok g→w'.heap[g]?=w.heap[g]?)
  (hm:av.ment d=false) (hσ:∀id,id / 8≠d→σ' id=σ id):Rel ok' σ' w' av y:=by
 cases av with
 |tn=>obtain⟨vs,hy,hl⟩:=h;exact⟨vs,hy,hl.mono d hok hw hm hσ⟩
 |tc x r=>obtain⟨vs,hy,hl⟩:=h;exact⟨vs,hy,hl.mono d hok hw hm hσ⟩
 |bot=>have h':Rel1 ok σ w (.bot) y:=h;exact h'.mono d hok hw hm hσ
 |c t=>have h':Rel1 ok σ w (.c t) y:=h;exact h'.mono d hok hw hm hσ
 |ag cs=>have h':Rel1 ok σ w (.ag cs) y:=h;exact h'.mono d hok hw hm hσ
 |ow id=>have h':Rel1 ok σ w (.ow id) y:=h;exact h'.mono d hok hw hm hσ
 |pt id off=>have h':Rel1 ok σ w (.pt id off) y:=h;exact h'.mono d hok hw hm hσ
 |po id sz i off=>have h':Rel1 ok σ w (.po id sz i off) y:=h;exact h'.mono d hok hw hm hσ
 |pe cs=>have h':Rel1 ok σ w (.pe cs) y:=h;exact h'.mono d hok hw hm hσ
 |fn f caps=>have h':Rel1 ok σ w (.fn f caps) y:=h;exact h'.mono d hok hw hm hσ
 |er b=>exact h
 |vw id els m=>have h':Rel1 ok σ w (.vw id els m) y:=h;exact h'.mono d hok hw hm hσ
 |sf id sz k=>have h':Rel1 ok σ w (.sf id sz k) y:=h;exact h'.mono d hok hw hm hσ
def zCN(ok:Nat→Prop)(w:World)(l:Loc):Ent→Prop
 | .box cs=>∃g arr T,l.blk=some g∧w.heap[g]?=some (.cells arr T (0,0))∧RdL ok w cs arr.toList
 | .arr e sz els=>0<sz∧l.n=els.length∧(∀el,el∈els→el.length=sz)∧∃vs,w.ownsRow 0 e sz (zK l) els.length vs∧RdL ok w els.flatten vs
 | .pbox l0 cs=>l=l0∧∃g arr T,l.blk=some g∧w.heap[g]?=some (.cells arr T (0,0))∧RdL ok w cs arr.toList
 | .parr l0 e sz els=>l=l0∧0<sz∧l.n=els.length∧(∀el,el∈els→el.length=sz)∧∃vs,w.ownsRow 0 e sz (zK l) els.length vs∧RdL ok w els.flatten vs
 | .mp b kvs=>l.blk=some b∧∃es clock,w.heap[b]?=some (.map es clock)∧es.toList.map kvOf=kvs
 | .qarr l0 e sz els=>l=l0∧0<sz∧l.n=els.length∧(∀el,el∈els→el.length=sz)∧∃vs,w.ownsRow 0 e sz (zK l) els.length vs∧RdL ok w els.flatten vs
theorem zCN.core{ok:Nat→Prop}{w:World}{l:Loc}{e:Ent}(h:zCN ok w l e):zCN ok w l e.core:=by
 cases e with
 |box cs=>exact h
 |arr e sz els=>exact h
 |pbox l0 cs=>exact h.2
 |parr l0 e sz els=>exact h.2
 |mp b kvs=>exact h
 |qarr l0 e sz els=>exact h.2
theorem zCN.mono_box{ok ok':Nat→Prop}{w w':World}{l:Loc}{cs:List Tr}(h:zCN ok w l (.box cs))(hok:∀g,ok g→ok' g)(hw:∀g,ok g→w'.heap[g]?=w.heap[g]?)(hb:∀g,l.blk=some g→w'.heap[g]?=w.heap[g]?):zCN ok' w' l (.box cs):=by obtain⟨g,arr,T,h1,h2,h3⟩:=h;exact⟨g,arr,T,h1,by rw[hb g h1];exact h2,h3.mono hok hw⟩
theorem zCN.mono_arr{ok ok':Nat→Prop}{w w':World}{l:Loc}{e:TypeId}{sz:Nat}{els:List (List Tr)}(h:zCN ok w l (.arr e sz els))(hok:∀g,ok g→ok' g)(hw:∀g,ok g→w'.heap[g]?=w.heap[g]?)(hb:∀g,l.blk=some g→w'.heap[g]?=w.heap[g]?):zCN ok' w' l (.arr e sz els):=by
 obtain⟨h0,h1,h2,vs,h3,h4⟩:=h;refine⟨h0,h1,h2,vs,⟨h3.1,?_⟩,h4.mono hok hw⟩;rcases h3.2 with h5|⟨g,cap,cur,h5,h6,h7,h8⟩
 ·exact .inl h5
 ·refine .inr ⟨g,cap,cur,h5,h6,?_,h8⟩;rw[hb g ?_]
  ·exact h7
  ·unfold zK at h5;injection h5 with h9;cases hl:l.blk with
   |none=>rw[hl]at h9;cases h9
   |some q=>rw[hl]at h9;simp at h9;rw[h9]
theorem zCN.mono{ok ok':Nat→Prop}{w w':World}{l:Loc}{e:Ent}(h:zCN ok w l e)(hok:∀g,ok g→ok' g)(hw:∀g,ok g→w'.heap[g]?=w.heap[g]?)(hb:∀g,l.blk=some g→w'.heap[g]?=w.heap[g]?):zCN ok' w' l e:=by
 cases e with
 |box cs=>exact zCN.mono_box h hok hw hb
 |arr e sz els=>exact zCN.mono_arr h hok hw hb
 |pbox l0 cs=>exact⟨h.1,zCN.mono_box h.2 hok hw hb⟩
 |parr l0 e sz els=>exact⟨h.1,zCN.mono_arr h.2 hok hw hb⟩
 |qarr l0 e sz els=>exact⟨h.1,zCN.mono_arr h.2 hok hw hb⟩
 |mp b kvs=>obtain⟨h1,es,clock,h2,h3⟩:=h;exact⟨h1,es,clock,by rw[hb b h1];exact h2,h3⟩
structure St where
  T:List AV
  E:List (Nat×Ent)
def St.get(s:St)(t:Nat):AV:=(s.T[t]?).getD .bot
def St.ent(s:St)(id:Nat):Option Ent:=s.E.lookup id
def St.entc(s:St)(id:Nat):Option Ent:=(s.ent id).map Ent.core
def zEc(cs:Array Value):Bool:=cs.toList.all Value.oneCell'
def evC:Value→AV
 | .slice none 0 0=>.c (.sl [])
 | .agg cs=>if zEc cs then .ag (cs.toList.map Tr.v) else .bot
 | .tuple _=>.bot
 |v=>.c (.v v)
def St.ev(s:St):Operand→AV
 | .tmp t=>s.get t
 | .const v=>evC v
 | .global _=>.bot
 | .func f=>.c (.v (.func (.func f) #[] #[]))
def St.put(s:St)(d:Nat)(av:AV):St:=⟨s.T.set d av,s.E⟩
def zP5(d:Nat):List (Nat×Ent)→List (Nat×Ent)
 |[]=>[]
 |p::ps=>bif p.1 / 8==d then zP5 d ps else p::zP5 d ps
def zNc(d:Nat):List AV→List AV
 |[]=>[]
 |x::xs=>(bif x.ment d then .bot else x)::zNc d xs
def St.kill(s:St)(d:Nat):St:=⟨zNc d s.T,zP5 d s.E⟩
def AV.shift(d:Nat):AV→AV
 | .ow k=>.ow (d*8+k)
 | .pt k o=>.pt (d*8+k) o
 | .po k z i o=>.po (d*8+k) z i o
 | .vw k els m=>.vw (d*8+k) els m
 | .sf k z i=>.sf (d*8+k) z i
 | .tc x r=>.tc (x.shift d) (r.shift d)
 |av=>av
def zFQ(d:Nat):List (Nat×Ent)→List (Nat×Ent)
 |[]=>[]
 |p::ps=>(d*8+p.1,p.2)::zFQ d ps
def St.upd(s:St)(d:Nat)(av:AV)(ne:List (Nat×Ent)):St:=⟨(zNc d s.T).set d (av.shift d),zFQ d ne++zP5 d s.E⟩
def Lb(ok:Nat→Prop)(w:World):Prop:=∀p:Nat×(Array Value→Prop),p∈TB→ok p.1∧∃cs T fz,w.heap[p.1]?=some (.cells cs T fz)∧p.2 cs
theorem Lb.mono{ok ok':Nat→Prop}{w w':World}(h:Lb ok w)(hok:∀g,ok g→ok' g)(hw:∀g,ok g→w'.heap[g]?=w.heap[g]?):Lb ok' w':=by intro p hp;obtain⟨h1,cs,T,fz,h2,h3⟩:=h p hp;exact⟨hok _ h1,cs,T,fz,by rw[hw _ h1];exact h2,h3⟩
structure Core (ok:Nat→Prop) (σ:Nat→Loc) (s:St) (a:Act) (w:World):Prop where
  len:s.T.length≤a.tmps.size
  okL:∀g,ok g→g<w.heap.size
  lib:Lb ok w
  tmp:∀t,Rel ok σ w (s.get t) (a.tmps.getD t undef)
  ent:∀id e,s.ent id=some e→zCN ok w (σ id) e
  blk:∀id e g,s.ent id=some e→(σ id).blk=some g→¬ok g∧g<w.heap.size
  inj:∀i j e f g,s.ent i=some e→s.ent j=some f→(σ i).blk=some g→(σ j).blk=some g→i=j
theorem Core.entc{ok:Nat→Prop}{σ:Nat→Loc}{s:St}{a:Act}{w:World}(h:Core ok σ s a w)(id:Nat)(e:Ent)(he:s.entc id=some e):zCN ok w (σ id) e:=by
 unfold St.entc at he;cases h1:s.ent id with
 |none=>rw[h1]at he;cases he
 |some f=>rw[h1]at he;injection he with he;subst he;exact (h.ent id f h1).core
theorem zFM{s:St}{id:Nat}{e:Ent}(he:s.entc id=some e):∃f,s.ent id=some f∧f.core=e:=by
 unfold St.entc at he;cases h1:s.ent id with
 |none=>rw[h1]at he;cases he
 |some f=>rw[h1]at he;injection he with he;exact⟨f,rfl,he⟩
structure Fr where
  n:Nat→Prop
  ex:Nat→Prop
structure BelowX (B:Fr) (w w':World):Prop where
  os:w'.os=w.os
  tape:w'.tape=w.tape
  output:w'.output=w.output
  size:w.heap.size≤w'.heap.size
  block:∀k,¬B.n k→¬B.ex k→w'.heap[k]?=w.heap[k]?
theorem BelowX.refl(B:Fr)(w:World):BelowX B w w:=⟨rfl,rfl,rfl,Nat.le_refl _,fun _ _ _=>rfl⟩
theorem BelowX.trans{B:Fr}{a b c:World}(h:BelowX B a b)(k:BelowX B b c):BelowX B a c:=
 ⟨k.os.trans h.os,k.tape.trans h.tape,k.output.trans h.output,Nat.le_trans h.size k.size,fun i hi hx=>(k.block i hi hx).trans (h.block i hi hx)⟩
theorem BelowX.of{B:Fr}{w w':World}(h:Below w.heap.size w w')(hB:∀g,w.heap.size≤g→B.n g):BelowX B w w':=⟨h.os,h.tape,h.output,h.size,fun k hk _=>h.block k (Nat.lt_of_not_le fun hle=>hk (hB k hle))⟩
theorem BelowX.drew{B:Fr}{a w:World}(h:BelowX B a w):BelowX B a w.drew:=⟨h.os,h.tape,h.output,h.size,h.block⟩
theorem BelowX.grown{B:Fr}{a w w':World}{row:Option Nat}(h:BelowX B a w)(hg:w.grownBy w' row)(hB:∀g,w.heap.size≤g→B.n g)(hr:∀k,row=some k→B.n k):BelowX B a w':=
 h.trans ⟨hg.os,hg.tape,hg.output,hg.size,fun k hk _=>hg.block k (Nat.lt_of_not_le fun hle=>hk (hB k hle)) (fun e=>hk (hr k e.symm))⟩
structure R (B:Fr) (w0:World) (ok0 ok:Nat→Prop) (σ:Nat→Loc) (s:St) (a:Act) (w:World):Prop where
  core:Core ok σ s a w
  defers:a.defers=[]
  below:BelowX B w0 w
  base:∀g,w.heap.size≤g→B.n g
  old:∀g,ok0 g→ok g
  fresh:∀g,ok g→ok0 g∨B.n g
  own:∀id e g,s.ent id=some e→(σ id).blk=some g→if e.pin=true then B.ex g else B.n g
structure New (w w':World) (ok ok':Nat→Prop) (σ':Nat→Loc) (av:AV) (ne:List (Nat×Ent)) (v:Value):Prop where
  below:Below w.heap.size w w'
  okM:∀g,ok g→ok' g
  okN:∀g,ok' g→ok g∨w.heap.size≤g
  okL:∀g,ok' g→g<w'.heap.size
  rel:Rel ok' σ' w' av v
  keys:∀id e,ne.lookup id=some e→id<8
  ids:∀e,e≠0→av.ment e=false
  ent:∀id e,ne.lookup id=some e→zCN ok' w' (σ' id) e
  blk:∀id e g,ne.lookup id=some e→(σ' id).blk=some g→w.heap.size≤g∧¬ok' g∧g<w'.heap.size
  inj:∀i j e f g,ne.lookup i=some e→ne.lookup j=some f→(σ' i).blk=some g→(σ' j).blk=some g→i=j
  np:∀id e,ne.lookup id=some e→e.pin=false
theorem zCu(s:St)(d t:Nat)(av:AV):(s.put d av).get t=if d=t∧d<s.T.length then av else s.get t:=by
 unfold St.put St.get;simp only[List.getElem?_set];by_cases h:d=t
 ·subst h;by_cases h2:d<s.T.length
  ·simp[h2]
  ·simp[h2]
 ·simp[h]
theorem zMU(a:Act)(d t:Nat)(v:Value):(a.put (some d) v).tmps.getD t undef=if d=t∧d<a.tmps.size then v else a.tmps.getD t undef:=by
 unfold Act.put;simp only[Array.getD_eq_getD_getElem?,Array.getElem?_setIfInBounds];by_cases h:d=t
 ·subst h;by_cases h2:d<a.tmps.size
  ·simp[h2]
  ·simp[h2]
 ·simp[h]
theorem zMA(a:Act)(d:Nat)(v:Value):(a.put (some d) v).tmps.size=a.tmps.size:=by simp[Act.put]
theorem zIH(d:Nat):∀(T:List AV)(t:Nat),((zNc d T)[t]?).getD .bot=(bif ((T[t]?).getD .bot).ment d then AV.bot else (T[t]?).getD .bot)
 |[],t=>by simp[zNc]
 |x::xs,0=>by simp[zNc]
 |x::xs,t+1=>by simpa [zNc] using zIH d xs t
theorem zFK(d:Nat):∀(T:List AV),(zNc d T).length=T.length
 |[]=>rfl
 |x::xs=>by simp[zNc,zFK d xs]
theorem zFg(d:Nat):∀(E:List (Nat×Ent))(id:Nat),(zP5 d E).lookup id=if id / 8=d then none else E.lookup id
 |[],id=>by simp[zP5]
 |p::ps,id=>by
  have ih:=zFg d ps id;simp only[zP5];cases hp:(p.1 / 8==d) with
  |true=>
   simp only[za,ih];by_cases h:id / 8=d
   ·simp[h]
   ·have hne:(id==p.1)=false:=by
     rw[zr];intro e;subst e;exact h (by simpa using hp)
    simp only[h,if_false];obtain⟨p1,p2⟩:=p;simp[List.lookup,hne]
  |false=>
   obtain⟨p1,p2⟩:=p;simp only[cond_false,List.lookup];cases hq:(id==p1) with
   |true=>
    have e:id=p1:=by simpa using hq
    subst e;have:¬id / 8=d:=by simpa using hp
    simp[this]
   |false=>simpa using ih
theorem zF0:∀(xs ys:List (Nat×Ent))(id:Nat),(xs++ys).lookup id=match xs.lookup id with|some e=>some e|none=>ys.lookup id
 |[],ys,id=>by simp
 |(p1,p2)::xs,ys,id=>by
  simp only[List.cons_append,List.lookup];cases h:(id==p1) with
  |true=>rfl
  |false=>exact zF0 xs ys id
theorem zFw(d:Nat):∀(ne:List (Nat×Ent))(id:Nat)(e:Ent),(zFQ d ne).lookup id=some e→d*8≤id∧ne.lookup (id - d*8)=some e
 |[],id,e,h=>by simp[zFQ]at h
 |(p1,p2)::ps,id,e,h=>by
  simp only[zFQ,List.lookup]at h ⊢;cases hq:(id==d*8+p1) with
  |true=>
   rw[hq]at h;have e1:id=d*8+p1:=by simpa using hq
   have e2:(id - d*8==p1)=true:=by rw[beq_iff_eq];omega
   rw[e2];exact⟨by omega,h⟩
  |false=>
   rw[hq]at h;obtain⟨h1,h2⟩:=zFw d ps id e h;have e2:(id - d*8==p1)=false:=by rw[zr];rw[zr]at hq;omega
   rw[e2];exact⟨h1,h2⟩
theorem Core.put{ok:Nat→Prop}{σ:Nat→Loc}{s:St}{a:Act}{w:World}(h:Core ok σ s a w){d:Nat}{av:AV}{v:Value}(hr:Rel ok σ w av v):Core ok σ (s.put d av) (a.put (some d) v) w:=by
 refine⟨by rw[zMA];simpa [St.put] using h.len,h.okL,h.lib,fun t=>?_,h.ent,h.blk,h.inj⟩;rw[zCu,zMU];by_cases hd:d=t∧d<s.T.length
 ·rw[if_pos hd,if_pos ⟨hd.1,Nat.lt_of_lt_of_le hd.2 h.len⟩];exact hr
 ·rw[if_neg hd];by_cases hd2:d=t∧d<a.tmps.size
  ·rw[if_pos hd2];have hb:s.get t=.bot:=by
    unfold St.get;rw[List.getElem?_eq_none (by omega)];rfl
   rw[hb];trivial
  ·rw[if_neg hd2];exact h.tmp t
theorem Rel1.shift{ok:Nat→Prop}{σ σ':Nat→Loc}{w:World}{av:AV}{y:Value}(d:Nat)(h:Rel1 ok σ' w av y)(hs:∀k,av.ment (k / 8)=true→σ (d*8+k)=σ' k):Rel1 ok σ w (av.shift d) y:=by
 cases av with
 |ow k=>show y=_;rw[hs k (by simp[AV.ment])];exact h
 |pt k o=>show ∃g,_;rw[hs k (by simp[AV.ment])];exact h
 |po k z i o=>show ∃g,_;rw[hs k (by simp[AV.ment])];exact h
 |tn=>exact h.elim
 |tc x r=>exact h.elim
 |bot=>trivial
 |c t=>exact h
 |ag cs=>exact h
 |pe cs=>exact h
 |fn f caps=>exact h
 |er b=>exact h
 |vw k els m=>show VwOk _ _ _ _ _ _;rw[hs k (by simp[AV.ment])];exact h
 |sf k z i=>show y=_;rw[hs k (by simp[AV.ment])];exact h
theorem RelL.shift{ok:Nat→Prop}{σ σ':Nat→Loc}{w:World}{av:AV}{ys:List Value}(d:Nat)(h:RelL ok σ' w av ys)(hs:∀k,av.ment (k / 8)=true→σ (d*8+k)=σ' k):RelL ok σ w (av.shift d) ys:=by
 induction av generalizing ys with
 |tn=>cases ys<;>exact h
 |tc x r _ ih=>
  cases ys with
  |nil=>exact h.elim
  |cons y ys=>exact⟨h.1.shift d fun k hk=>hs k (by simp[AV.ment,hk]),ih h.2 fun k hk=>hs k (by simp[AV.ment,hk])⟩
 |_=>cases ys<;>exact (h:False).elim
theorem Rel.shift{ok:Nat→Prop}{σ σ':Nat→Loc}{w:World}{av:AV}{y:Value}(d:Nat)(h:Rel ok σ' w av y)(hs:∀k,av.ment (k / 8)=true→σ (d*8+k)=σ' k):Rel ok σ w (av.shift d) y:=by
 cases av with
 |tn=>obtain⟨vs,hy,hl⟩:=h;exact⟨vs,hy,hl.shift d hs⟩
 |tc x r=>obtain⟨vs,hy,hl⟩:=h;exact⟨vs,hy,hl.shift d hs⟩
 |bot=>trivial
 |c t=>exact h
 |ag cs=>exact h
 |pe cs=>exact h
 |fn f caps=>exact h
 |er b=>exact h
 |ow k=>exact Rel1.shift (ok:=ok) (w:=w) (av:=.ow k) d (h:Rel1 ok σ' w (.ow k) y) hs
 |vw k els m=>exact Rel1.shift (ok:=ok) (w:=w) (av:=.vw k els m) d (h:Rel1 ok σ' w (.vw k els m) y) hs
 |sf k z i=>exact Rel1.shift (ok:=ok) (w:=w) (av:=.sf k z i) d (h:Rel1 ok σ' w (.sf k z i) y) hs
 |pt k o=>exact Rel1.shift (ok:=ok) (w:=w) (av:=.pt k o) d (h:Rel1 ok σ' w (.pt k o) y) hs
 |po k z i o=>exact Rel1.shift (ok:=ok) (w:=w) (av:=.po k z i o) d (h:Rel1 ok σ' w (.po k z i o) y) hs
theorem z0j(d:Nat)(av:AV):(bif av.ment d then AV.bot else av).ment d=false:=by cases h:av.ment d<;>simp[AV.ment,h]
theorem Core.upd{ok ok':Nat→Prop}{σ σ':Nat→Loc}{s:St}{a:Act}{w w':World}(h:Core ok σ s a w){d:Nat}{av:AV}{ne:List (Nat×Ent)}{v:Value}(hn:New w w' ok ok' σ' av ne v):
  Core ok' (fun id=>if id / 8=d then σ' (id % 8) else σ id) (s.upd d av ne) (a.put (some d) v) w':=by
 have hw:∀g,ok g→w'.heap[g]?=w.heap[g]?:=fun g hg=>hn.below.block g (h.okL g hg)
 have hσ:∀id,id / 8≠d→(fun id=>if id / 8=d then σ' (id % 8) else σ id) id=σ id:=fun id hid=>by simp[hid]
 have look:∀id e,(s.upd d av ne).ent id=some e→(id / 8=d∧ne.lookup (id % 8)=some e)∨(id / 8≠d∧s.ent id=some e):=by
  intro id e he;unfold St.ent St.upd at he;rw[zF0]at he;cases hs:(zFQ d ne).lookup id with
  |some e2=>
   rw[hs]at he;injection he with he;subst he;obtain⟨h1,h2⟩:=zFw d ne id _ hs;have h3:=hn.keys _ _ h2;have h4:id - d*8=id % 8:=by omega
   rw[h4]at h2;exact .inl ⟨by omega,h2⟩
  |none=>
   rw[hs]at he;simp only[zFg]at he;by_cases hd:id / 8=d
   ·simp[hd]at he
   ·rw[if_neg hd]at he;exact .inr ⟨hd,he⟩
 have hsize:∀g,g<w.heap.size→g<w'.heap.size:=fun g hg=>Nat.lt_of_lt_of_le hg hn.below.size;refine⟨?_,hn.okL,h.lib.mono hn.okM hw,fun t=>?_,fun id e he=>?_,fun id e g he hg=>?_,fun i j e f g hi hj h1 h2=>?_⟩
 ·rw[zMA];simpa [St.upd,zFK] using h.len
 ·have hk:(s.upd d av ne).get t=if d=t∧d<s.T.length then av.shift d else (bif (s.get t).ment d then AV.bot else s.get t):=by
   have e:=zCu (s.kill d) d t (av.shift d);unfold St.put St.kill St.get at e;simp only[zFK,zIH]at e;unfold St.upd St.get;exact e
  rw[hk,zMU];by_cases hd:d=t∧d<s.T.length
  ·rw[if_pos hd,if_pos ⟨hd.1,Nat.lt_of_lt_of_le hd.2 h.len⟩];refine hn.rel.shift d fun k hk2=>?_
   have hk0:k / 8=0:=by
    rcases Nat.eq_zero_or_pos (k / 8) with h0|h0
    ·exact h0
    ·rw[hn.ids (k / 8) (by omega)]at hk2;cases hk2
   have e1:(d*8+k) / 8=d:=by omega
   have e2:(d*8+k) % 8=k:=by omega
   simp[e1,e2]
  ·rw[if_neg hd];by_cases hd2:d=t∧d<a.tmps.size
   ·rw[if_pos hd2];have hb:s.get t=.bot:=by
     unfold St.get;rw[List.getElem?_eq_none (by omega)];rfl
    rw[hb];trivial
   ·rw[if_neg hd2];cases hm:(s.get t).ment d with
    |true=>trivial
    |false=>exact (h.tmp t).mono d hn.okM hw hm hσ
 ·rcases look id e he with⟨h1,h2⟩|⟨h1,h2⟩
  ·simpa [h1] using hn.ent _ _ h2
  ·simp only[h1,if_false];exact (h.ent id e h2).mono hn.okM hw fun g hg=>hn.below.block g (h.blk id e g h2 hg).2
 ·rcases look id e he with⟨h1,h2⟩|⟨h1,h2⟩
  ·simp only[h1,if_true]at hg;exact (hn.blk _ _ _ h2 hg).2
  ·simp only[h1,if_false]at hg;obtain⟨h3,h4⟩:=h.blk id e g h2 hg;refine⟨fun h5=>?_,hsize g h4⟩;rcases hn.okN g h5 with h6|h6
   ·exact h3 h6
   ·omega
 ·rcases look i e hi with⟨a1,a2⟩|⟨a1,a2⟩<;>rcases look j f hj with⟨b1,b2⟩|⟨b1,b2⟩
  ·simp only[a1,b1,if_true]at h1 h2;have:=hn.inj _ _ _ _ _ a2 b2 h1 h2;omega
  ·simp only[a1,b1,if_true,if_false]at h1 h2;have x1:=(hn.blk _ _ _ a2 h1).1;have x2:=(h.blk _ _ _ b2 h2).2;omega
  ·simp only[a1,b1,if_true,if_false]at h1 h2;have x1:=(hn.blk _ _ _ b2 h2).1;have x2:=(h.blk _ _ _ a2 h1).2;omega
  ·simp only[a1,b1,if_false]at h1 h2;exact h.inj _ _ _ _ _ a2 b2 h1 h2
theorem R.put{B:Fr}{w0:World}{ok0 ok:Nat→Prop}{σ:Nat→Loc}{s:St}{a:Act}{w:World}(h:R B w0 ok0 ok σ s a w){d:Nat}{av:AV}{v:Value}(hr:Rel ok σ w av v):R B w0 ok0 ok σ (s.put d av) (a.put (some d) v) w:=
 ⟨h.core.put hr,h.defers,h.below,h.base,h.old,h.fresh,h.own⟩
theorem R.upd{B:Fr}{w0:World}{ok0 ok ok':Nat→Prop}{σ σ':Nat→Loc}{s:St}{a:Act}{w w':World}(h:R B w0 ok0 ok σ s a w){d:Nat}{av:AV}{ne:List (Nat×Ent)}{v:Value}(hn:New w w' ok ok' σ' av ne v):
  R B w0 ok0 ok' (fun id=>if id / 8=d then σ' (id % 8) else σ id) (s.upd d av ne) (a.put (some d) v) w':=by
 refine⟨h.core.upd hn,h.defers,h.below.trans (BelowX.of hn.below h.base),fun g hg=>h.base g (Nat.le_trans hn.below.size hg),fun g hg=>hn.okM g (h.old g hg),fun g hg=>?_,fun id e g he hg=>?_⟩
 ·rcases hn.okN g hg with h1|h1
  ·exact h.fresh g h1
  ·exact .inr (h.base g h1)
 ·unfold St.ent St.upd at he;rw[zF0]at he;cases hs:(zFQ d ne).lookup id with
  |some e2=>
   rw[hs]at he;injection he with he;subst he;obtain⟨h1,h2⟩:=zFw d ne id _ hs;have h3:=hn.keys _ _ h2;have h4:id - d*8=id % 8:=by omega
   have h5:id / 8=d:=by omega
   rw[h4]at h2;simp only[h5,if_true]at hg;rw[if_neg (by rw[hn.np _ _ h2];decide)];exact h.base _ (hn.blk _ _ _ h2 hg).1
  |none=>
   rw[hs]at he;simp only[zFg]at he;by_cases hd:id / 8=d
   ·simp[hd]at he
   ·rw[if_neg hd]at he;simp only[hd,if_false]at hg;exact h.own id e g he hg
section
variable (P:Program)
def Y0(o:Oper)(s:St)(av:AV):Prop:=
 ∀ok σ a w,Core ok σ s a w→∀K Q,(∀v,Rel ok σ w av v→K (a.put o.dst v) w)→o.wp P a w K Q
def Y1(o:Oper)(s:St)(av:AV)(ne:List (Nat×Ent)):Prop:=
 ∀ok σ a w,Core ok σ s a w→∀K Q,(∀v w' ok' σ',New w w' ok ok' σ' av ne v→K (a.put o.dst v) w')→o.wp P a w K Q
def X(o:Oper)(s s':St):Prop:=
 ∀B w0 ok0 ok σ a w,R B w0 ok0 ok σ s a w→∀K Q,(∀a' w' ok' σ',R B w0 ok0 ok' σ' s' a' w'→K a' w')→o.wp P a w K Q
variable {P}
theorem zAn{o:Oper}{s:St}{av:AV}{d:Nat}(hd:o.dst=some d)(h:Y0 P o s av):X P o s (s.put d av):=by
 intro B w0 ok0 ok σ a w hR K Q hK;refine h ok σ a w hR.core K Q fun v hv=>?_
 rw[hd];exact hK _ _ _ _ (hR.put hv)
theorem zE1{o:Oper}{s:St}{av:AV}{ne:List (Nat×Ent)}{d:Nat}(hd:o.dst=some d)(h:Y1 P o s av ne):X P o s (s.upd d av ne):=by
 intro B w0 ok0 ok σ a w hR K Q hK;refine h ok σ a w hR.core K Q fun v w' ok' σ' hn=>?_
 rw[hd];exact hK _ _ _ _ (hR.upd hn)
variable (P)
def XL(ops:Array Oper)(rest:List Oper)(s:St)(J:St→Prop):Prop:=
 ∀B w0 ok0 ok σ a w,R B w0 ok0 ok σ s a w→∀Q:Exit→Act→World→Prop,(∀s' a' w' ok' σ',J s'→R B w0 ok0 ok' σ' s' a' w'→Q .normal a' w')→wpList P ops Q rest a w
def V(c:Code)(s:St)(J:Exit→St→Prop):Prop:=
 ∀B w0 ok0 ok σ a w,R B w0 ok0 ok σ s a w→c.wp P (fun e a' w'=>∃s' ok' σ',J e s'∧R B w0 ok0 ok' σ' s' a' w') a w
variable {P}
theorem qN{ops:Array Oper}{s:St}{J:St→Prop}(h:J s):XL P ops [] s J:=fun _ _ _ _ _ _ _ hR _ hQ=>hQ _ _ _ _ _ h hR
theorem zB2{ops:Array Oper}{o:Oper}{rest:List Oper}{s s':St}{J:St→Prop}(hg:o.guard=none)(h:X P o s s')(hk:XL P ops rest s' J):XL P ops (o::rest) s J:=by
 intro B w0 ok0 ok σ a w hR Q hQ;refine wpList_plain hg fun K hK=>?_
 refine h _ _ _ _ _ _ _ hR K Q fun a' w' ok' σ' hR'=>hK _ _ (hk _ _ _ _ _ _ _ hR' Q hQ)
theorem z27{ops:Array Oper}{o:Oper}{rest:List Oper}{s s':St}{J:St→Prop}{j t:Nat}{b:Bool}(hg:o.guard=some (j,b))(ht:(ops[j]?).bind (·.dst)=some t)(hb:s.get t=.c (.v (.bool b)))
  (h:X P o s s') (hk:XL P ops rest s' J):XL P ops (o::rest) s J:=by
 intro B w0 ok0 ok σ a w hR Q hQ;refine wpList_step fun K hK=>?_
 have h1:=hR.core.tmp t;rw[hb]at h1;have h2:a.tmps.getD t undef=.bool b:=by have h3:Rd ok w (.v (.bool b)) (a.tmps.getD t undef):=h1;generalize a.tmps.getD t undef=y at*;cases h3;rfl
 have hw:Region.wanted o (yielded ops a.tmps)=true:=by
  have h4:a.tmps[t]?=some (.bool b):=by
   rw[Array.getD_eq_getD_getElem?]at h2;cases h5:a.tmps[t]? with
   |none=>rw[h5]at h2;simp[undef]at h2
   |some y=>rw[h5]at h2;simpa using h2
  simp only[Region.wanted,hg,yielded,ht,Option.bind_some,h4];simp
 rw[if_pos hw];exact h _ _ _ _ _ _ _ hR K Q fun a' w' ok' σ' hR'=>hK _ _ (hk _ _ _ _ _ _ _ hR' Q hQ)
theorem z29{ops:Array Oper}{o:Oper}{rest:List Oper}{s:St}{J:St→Prop}{j t d:Nat}{b c:Bool}(hg:o.guard=some (j,b))(ht:(ops[j]?).bind (·.dst)=some t)(hb:s.get t=.c (.v (.bool c)))(hne:c≠b)
  (hd:o.dst=some d) (hk:XL P ops rest (s.put d .tn) J):XL P ops (o::rest) s J:=by
 intro B w0 ok0 ok σ a w hR Q hQ;refine wpList_step fun K hK=>?_
 have h1:=hR.core.tmp t;rw[hb]at h1;have h2:a.tmps.getD t undef=.bool c:=by have h3:Rd ok w (.v (.bool c)) (a.tmps.getD t undef):=h1;generalize a.tmps.getD t undef=y at*;cases h3;rfl
 have hw:¬Region.wanted o (yielded ops a.tmps)=true:=by
  have h4:a.tmps[t]?=some (.bool c):=by
   rw[Array.getD_eq_getD_getElem?]at h2;cases h5:a.tmps[t]? with
   |none=>rw[h5]at h2;simp[undef]at h2
   |some y=>rw[h5]at h2;simpa using h2
  simp only[Region.wanted,hg,yielded,ht,Option.bind_some,h4];simpa using hne
 rw[if_neg hw,hd];exact hK _ _ (hk _ _ _ _ _ _ _ (hR.put (av:=.tn) ⟨#[],rfl,trivial⟩) Q hQ)
theorem z5y{ops:Array Oper}{o:Oper}{rest:List Oper}{s:St}{J:St→Prop}{j t d:Nat}{b:Bool}(hg:o.guard=some (j,b))(ht:(ops[j]?).bind (·.dst)=some t)(hb:s.get t=.tn)
  (hd:o.dst=some d) (hk:XL P ops rest (s.put d .tn) J):XL P ops (o::rest) s J:=by
 intro B w0 ok0 ok σ a w hR Q hQ;refine wpList_step fun K hK=>?_
 have h1:=hR.core.tmp t;rw[hb]at h1;obtain⟨vs,h2,_⟩:=h1;have hw:¬Region.wanted o (yielded ops a.tmps)=true:=by
  have h4:a.tmps[t]?=some (.tuple vs)∨a.tmps[t]?=none:=by
   rw[Array.getD_eq_getD_getElem?]at h2;cases h5:a.tmps[t]? with
   |none=>exact .inr rfl
   |some y=>rw[h5]at h2;exact .inl (by simpa using h2)
  simp only[Region.wanted,hg,yielded,ht,Option.bind_some];rcases h4 with h4|h4<;>rw[h4]<;>simp
 rw[if_neg hw,hd];exact hK _ _ (hk _ _ _ _ _ _ _ (hR.put (av:=.tn) ⟨#[],rfl,trivial⟩) Q hQ)
def zOh(J:St→Prop)(K:Exit→St→Prop):Exit→St→Prop
 | .normal,s=>J s
 |e,s=>K e s
def zGJ(id:Nat)(K:Exit→St→Prop):Exit→St→Prop
 | .exit id',s=>bif Nat.beq id' id then K .normal s else K (.exit id') s
 |e,s=>K e s
theorem q7{id:Nat}{ops:Array Oper}{s:St}{J:Exit→St→Prop}(h:XL P ops ops.toList s (J .normal)):V P (.region id ops false) s J:=by intro B w0 ok0 ok σ a w hR;exact wp_region_list (h _ _ _ _ _ _ _ hR _ fun s' a' w' ok' σ' hJ hR'=>⟨s',ok',σ',hJ,hR'⟩)
theorem zV{x y:Code}{s:St}{J:Exit→St→Prop}(h:V P x s (zOh (fun s'=>V P y s' J) J)):V P (.seq x y) s J:=by
 intro B w0 ok0 ok σ a w hR;refine wp_seq (wp_mono (h _ _ _ _ _ _ _ hR) ?_);rintro e a' w' ⟨s',ok',σ',hJ,hR'⟩;cases e with
 |normal=>exact hJ _ _ _ _ _ _ _ hR'
 |exit id=>exact⟨s',ok',σ',hJ,hR'⟩
 |goto l=>exact⟨s',ok',σ',hJ,hR'⟩
 |ret=>exact⟨s',ok',σ',hJ,hR'⟩
 |panic ch=>exact⟨s',ok',σ',hJ,hR'⟩
 |outgrown=>exact⟨s',ok',σ',hJ,hR'⟩
theorem z6B{c:Code}{s:St}{J J':Exit→St→Prop}(h:V P c s J)(hJ:∀e s',J e s'→J' e s'):V P c s J':=by
 intro B w0 ok0 ok σ a w hR;refine wp_mono (h _ _ _ _ _ _ _ hR) ?_
 rintro e a' w' ⟨s',ok',σ',h1,hR'⟩;exact⟨s',ok',σ',hJ _ _ h1,hR'⟩
theorem z3F{ok:Nat→Prop}{σ:Nat→Loc}{s:St}{a:Act}{w:World}(h:Core ok σ s a w){c:Operand}{b:Bool}(hc:s.ev c=.c (.v (.bool b))):a.eval c=.bool b:=by
 cases c with
 |tmp t=>have h1:=h.tmp t;have hc':s.get t=.c (.v (.bool b)):=hc;rw[hc']at h1;have h3:Rd ok w (.v (.bool b)) (a.tmps.getD t undef):=h1;show a.tmps.getD t undef=_;generalize a.tmps.getD t undef=y at*;cases h3;rfl
 |const v=>
  have h1:evC v=.c (.v (.bool b)):=hc;show v=_;unfold evC at h1;split at h1
  ·cases h1
  ·split at h1<;>cases h1
  ·cases h1
  ·injection h1 with h2;injection h2
 |global g=>cases hc
 |func f=>have h1:AV.c (.v (.func (.func f) #[] #[]))=.c (.v (.bool b)):=hc;cases h1
theorem zLI{c:Operand}{x y:Code}{s:St}{J:Exit→St→Prop}{b:Bool}(hc:s.ev c=.c (.v (.bool b)))(ht:b=true→V P x s J)(hf:b=false→V P y s J):V P (.cond c x y) s J:=by
 intro B w0 ok0 ok σ a w hR;have he:=z3F hR.core hc;cases b with
 |true=>exact wp_cond_true he (ht rfl _ _ _ _ _ _ _ hR)
 |false=>exact wp_cond_false he (hf rfl _ _ _ _ _ _ _ hR)
theorem qA{id:Nat}{c:Code}{s:St}{J:Exit→St→Prop}(h:V P c s (zGJ id J)):V P (.block id c) s J:=by
 intro B w0 ok0 ok σ a w hR;refine wp_block (wp_mono (h _ _ _ _ _ _ _ hR) ?_);rintro e a' w' ⟨s',ok',σ',hJ,hR'⟩;cases e with
 |exit id'=>
  simp only[zGJ]at hJ;simp only[Exit.inBlock];by_cases hid:id'=id
  ·rw[if_pos hid];have e:Nat.beq id' id=true:=by rw[hid];exact Nat.beq_refl id
   rw[e]at hJ;exact⟨s',ok',σ',hJ,hR'⟩
  ·rw[if_neg hid];have e:Nat.beq id' id=false:=by
    cases h:Nat.beq id' id with
    |false=>rfl
    |true=>exact absurd (Nat.eq_of_beq_eq_true h) hid
   rw[e]at hJ;exact⟨s',ok',σ',hJ,hR'⟩
 |normal=>exact⟨s',ok',σ',hJ,hR'⟩
 |goto l=>exact⟨s',ok',σ',hJ,hR'⟩
 |ret=>exact⟨s',ok',σ',hJ,hR'⟩
 |panic ch=>exact⟨s',ok',σ',hJ,hR'⟩
 |outgrown=>exact⟨s',ok',σ',hJ,hR'⟩
theorem qV{s:St}{J:Exit→St→Prop}(h:J .normal s):V P .skip s J:=fun _ _ _ ok σ _ _ hR=>wp_skip ⟨s,ok,σ,h,hR⟩
theorem zFU{id:Nat}{s:St}{J:Exit→St→Prop}(h:J (.exit id) s):V P (.exit id) s J:=fun _ _ _ ok σ _ _ hR=>wp_exit ⟨s,ok,σ,h,hR⟩
theorem zBW{s:St}{J:Exit→St→Prop}(h:J .ret s):V P .ret s J:=fun _ _ _ ok σ _ _ hR=>wp_ret ⟨s,ok,σ,h,hR⟩
theorem z7e{l:Nat}{s:St}{J:Exit→St→Prop}(h:J .normal s):V P (.label l) s J:=fun _ _ _ ok σ _ _ hR=>wp_label ⟨s,ok,σ,h,hR⟩
theorem zMe{c:Code}{s:St}{J:Exit→St→Prop}(I:Nat→St→Prop)(n:Nat)(h0:I n s)(round:∀n s,I n s→V P c s (zOh (fun s'=>∃m,m<n∧I m s') J)):V P (.loop c) s J:=by
 intro B w0 ok0 ok σ a w hR;refine wp_loop_ghost (fun n a w=>∃s ok σ,I n s∧R B w0 ok0 ok σ s a w) n ⟨s,ok,σ,h0,hR⟩ ?_
 rintro n a w ⟨s,ok,σ,hI,hR⟩;refine wp_mono (round n s hI _ _ _ _ _ _ _ hR) ?_
 rintro e a' w' ⟨s',ok',σ',hJ,hR'⟩;cases e with
 |normal=>obtain⟨m,hm,hI'⟩:=hJ;exact⟨m,hm,s',ok',σ',hI',hR'⟩
 |exit id=>exact⟨s',ok',σ',hJ,hR'⟩
 |goto l=>exact⟨s',ok',σ',hJ,hR'⟩
 |ret=>exact⟨s',ok',σ',hJ,hR'⟩
 |panic ch=>exact⟨s',ok',σ',hJ,hR'⟩
 |outgrown=>exact⟨s',ok',σ',hJ,hR'⟩
structure Le (s' s:St):Prop where
  len:s'.T.length≤s.T.length
  get:∀t,s'.get t=.bot∨s'.get t=s.get t
  ent:∀id e,s'.ent id=some e→s.ent id=some e
theorem R.le{B:Fr}{w0:World}{ok0 ok:Nat→Prop}{σ:Nat→Loc}{s s':St}{a:Act}{w:World}(h:R B w0 ok0 ok σ s a w)(hl:Le s' s):R B w0 ok0 ok σ s' a w:=by
 refine⟨⟨Nat.le_trans hl.len h.core.len,h.core.okL,h.core.lib,fun t=>?_,fun id e he=>h.core.ent id e (hl.ent id e he),fun id e g he=>h.core.blk id e g (hl.ent id e he),fun i j e f g hi hj=>h.core.inj i j e f g (hl.ent _ _ hi) (hl.ent _ _ hj)⟩,h.defers,h.below,h.base,h.old,h.fresh,fun id e g he=>h.own id e g (hl.ent id e he)⟩;rcases hl.get t with h1|h1
 ·rw[h1];trivial
 ·rw[h1];exact h.core.tmp t
theorem V_le{c:Code}{s s':St}{J:Exit→St→Prop}(hl:Le s' s)(h:V P c s' J):V P c s J:=fun _ _ _ _ _ _ _ hR=>h _ _ _ _ _ _ _ (hR.le hl)
end
inductive RelA (ok:Nat→Prop) (σ:Nat→Loc) (w:World):List AV→List Value→Prop
  |nil:RelA ok σ w [] []
  |cons {t x ts xs} (h:Rel ok σ w t x) (hs:RelA ok σ w ts xs):RelA ok σ w (t::ts) (x::xs)
theorem RelA.len{ok:Nat→Prop}{σ:Nat→Loc}{w:World}{ts:List AV}{xs:List Value}(h:RelA ok σ w ts xs):ts.length=xs.length:=by
 induction h with
 |nil=>rfl
 |cons h hs ih=>simp[ih]
theorem RelA.get{ok:Nat→Prop}{σ:Nat→Loc}{w:World}{ts:List AV}{xs:List Value}(h:RelA ok σ w ts xs):∀(j:Nat),Rel ok σ w ((ts[j]?).getD .bot) ((xs[j]?).getD undef):=by
 induction h with
 |nil=>intro j;simp;trivial
 |cons h hs ih=>
  intro j;cases j with
  |zero=>simpa using h
  |succ j=>simpa using ih j
section
variable (P:Program)
def zH(f:FuncId)(args:List AV)(av:AV)(ne:List (Nat×Ent)):Prop:=
 ∀ok σ w vs,(∀g,ok g→g<w.heap.size)→Lb ok w→RelA ok σ w args vs→Calls P f vs.toArray w (fun e w'=>∃v ok' σ',e=.returned v∧New w w' ok ok' σ' av ne v)
variable {P}
def out1(s:St)(k t:Nat):AV×List (Nat×Ent):=
 match s.get t with
 | .ow id=>match s.ent id with
  |some (.arr e sz els)=>(.ow k,[(k,.arr e sz els)])
  |_=>(.bot,[])
 | .c x=>(.c x,[])
 | .ag cs=>(.ag cs,[])
 | .pe cs=>(.pe cs,[])
 |_=>(.bot,[])
def zEa:List Nat→Bool
 |[]=>true
 |x::xs=>!xs.contains x&&zEa xs
theorem zAR(k j:Nat)(e f:Ent)(h:[(k,e)].lookup j=some f):j=k∧e=f:=by
 simp only[List.lookup]at h;cases hj:(j==k) with
 |true=>rw[hj]at h;exact⟨by simpa using hj,by simpa using h⟩
 |false=>rw[hj]at h;cases h
def loc0:Loc:=⟨none,0,0⟩
theorem z4R{ok:Nat→Prop}{σ σ':Nat→Loc}{s:St}{a:Act}{w:World}(h:Core ok σ s a w)(k t:Nat)(hσ:∀id,s.get t=.ow id→σ' k=σ id):Rel1 ok σ' w (out1 s k t).1 (a.tmps.getD t undef):=by
 have h1:=h.tmp t;unfold out1;cases hg:s.get t with
 |ow id=>
  rw[hg]at h1;cases he:s.ent id with
  |none=>simp only[he];trivial
  |some e=>
   cases e with
   |arr T sz els=>simp only[he];show _=_;rw[hσ id hg];exact h1
   |_=>simp only[he];trivial
 |c x=>rw[hg]at h1;exact h1
 |ag cs=>rw[hg]at h1;exact h1
 |pe cs=>rw[hg]at h1;exact h1
 |fn f caps=>trivial
 |er b=>trivial
 |vw id es m=>trivial
 |sf id z i=>trivial
 |bot=>trivial
 |pt id o=>trivial
 |po id z i o=>trivial
 |tn=>trivial
 |tc x r=>trivial
theorem z2u(s:St)(k t:Nat)(hk:k<8)(e:Nat)(he:e≠0):(out1 s k t).1.ment e=false:=by
 unfold out1;cases hg:s.get t with
 |ow id=>
  cases hq:s.ent id with
  |none=>simp only[hq];rfl
  |some q=>
   cases q with
   |arr T sz els=>simp only[hq];show (k / 8==e)=false;rw[zr];omega
   |_=>simp only[hq];rfl
 |_=>rfl
theorem z2v(s:St)(k t:Nat)(id:Nat)(e:Ent)(h:(out1 s k t).2.lookup id=some e):id=k∧∃j,s.get t=.ow j∧s.ent j=some e∧e.pin=false:=by
 unfold out1 at h;cases hg:s.get t with
 |ow j=>
  rw[hg]at h;cases hq:s.ent j with
  |none=>simp[hq]at h
  |some q=>
   cases q with
   |arr T sz els=>simp only[hq]at h;obtain⟨h1,h2⟩:=zAR _ _ _ _ h;subst h2;exact⟨h1,j,rfl,hq,rfl⟩
   |_=>simp[hq]at h
 |_=>rw[hg]at h;simp at h
theorem zMN{ok:Nat→Prop}{σ:Nat→Loc}{w:World}{av:AV}{v:Value}(h:Rel1 ok σ w av v):Rel ok σ w av v:=by
 cases av with
 |tn=>exact h.elim
 |tc x r=>exact h.elim
 |_=>exact h
theorem RelA.init{ok:Nat→Prop}{σ:Nat→Loc}{w:World}{args:List AV}{vs:List Value}(h:RelA ok σ w args vs)(n t:Nat):
  Rel ok σ w (St.get ⟨args++List.replicate (n - args.length) .bot,[]⟩ t) ((vs.toArray++Array.replicate (n - vs.toArray.size) undef).getD t undef):=by
 unfold St.get;by_cases ht:t<args.length
 ·have h1:=h.get t;have hv:t<vs.length:=by rw[←h.len];exact ht
  rw[List.getElem?_append_left ht];simpa [Array.getElem?_append,hv] using h1
 ·rw[List.getElem?_append_right (by omega),List.getElem?_replicate];split<;>exact trivial
end
section
variable {P:Program}
theorem z6t(ok:Nat→Prop)(σ:Nat→Loc)(w:World)(v:Value):Rel ok σ w (evC v) v:=by
 unfold evC;split
 ·exact Rd.nl _ _
 ·rename_i cs;split
  ·rename_i h;refine⟨cs,rfl,?_⟩;have h2:∀x,x∈cs.toList→x.oneCell'=true:=List.all_eq_true.1 h;generalize cs.toList=l at h2;clear h
   induction l with
   |nil=>exact .nil
   |cons x xs ih=>exact .cons (.v x (h2 x (by simp))) (ih fun y hy=>h2 y (by simp[hy]))
  ·trivial
 ·trivial
 ·rename_i x h1 h2 h3;refine Rd.v _ ?_
  cases v with
  |agg cs=>exact (h2 cs rfl).elim
  |tuple vs=>exact (h3 vs rfl).elim
  |_=>rfl
theorem Core.ev{ok:Nat→Prop}{σ:Nat→Loc}{s:St}{a:Act}{w:World}(h:Core ok σ s a w)(x:Operand):Rel ok σ w (s.ev x) (a.eval x):=by
 cases x with
 |tmp t=>exact h.tmp t
 |const v=>exact z6t ok σ w v
 |global g=>trivial
 |func f=>exact Rd.v _ rfl
theorem Core.exact{ok:Nat→Prop}{σ:Nat→Loc}{s:St}{a:Act}{w:World}(h:Core ok σ s a w){x:Operand}{v:Value}(hx:s.ev x=.c (.v v)):a.eval x=v:=by have h1:=h.ev x;rw[hx]at h1;have h2:Rd ok w (.v v) (a.eval x):=h1;generalize a.eval x=y at*;cases h2;rfl
theorem zIY(ok:Nat→Prop)(w:World)(k:IntKind)(n:Int):Rd ok w (.v (.int k n)) (.int k n):=.v _ rfl
theorem zMu(ok:Nat→Prop)(w:World)(b:Bool):Rd ok w (.v (.bool b)) (.bool b):=.v _ rfl
theorem qI{o:Oper}{s:St}{av:AV}(h:∀ok σ a w,Core ok σ s a w→∃v,(execOp a.eval o).run P w=.ok (.value v) w∧Rel ok σ w av v):Y0 P o s av:=by intro ok σ a w hC K Q hK;obtain⟨v,h1,h2⟩:=h ok σ a w hC;unfold Oper.wp;rw[h1];exact hK v h2
theorem z7P{o:Oper}{s:St}{x:Operand}(ho:o.op=.move x):Y0 P o s (s.ev x):=
 qI fun ok σ a w hC=>⟨a.eval x,by unfold execOp;rw[ho];rfl,hC.ev x⟩
theorem zXE{o:Oper}{s:St}{x:Operand}(ho:o.op=.assign x):Y0 P o s (s.ev x):=
 qI fun ok σ a w hC=>⟨a.eval x,by unfold execOp;rw[ho];rfl,hC.ev x⟩
theorem zYb{o:Oper}{s:St}{c x y:Operand}{b:Bool}(ho:o.op=.pick c x y)(hc:s.ev c=.c (.v (.bool b))):Y0 P o s (bif b then s.ev x else s.ev y):=
 qI fun ok σ a w hC=>by
  have h1:=hC.exact hc;refine⟨if b then a.eval x else a.eval y,?_,?_⟩
  ·unfold execOp;rw[ho];simp[h1,asBool]
  ·cases b
   ·exact hC.ev y
   ·exact hC.ev x
theorem zD8{o:Oper}{s:St}{x y:Operand}{op:BinOp}{t t2:TypeId}{u v r:Value}(ho:o.op=.binOp op t x y t2)(hx:s.ev x=.c (.v u))(hy:s.ev y=.c (.v v))(hg:∀w,(eqGuard op t x y u v).run P w=.ok () w)
  (h:∀w,(binOp op t u v).run P w=.ok r w) (hr:r.oneCell'=true):Y0 P o s (.c (.v r)):=
 qI fun ok σ a w hC=>by refine⟨r,?_,Rd.v r hr⟩;unfold execOp;rw[ho];simp only[hC.exact hx,hC.exact hy,Sem.run_bind,hg,h,Result.andThen_ok,Sem.run_pure]
theorem zCt(op:BinOp)(t:TypeId)(x y:Operand)(k:IntKind)(a b:Int)(w:World):(eqGuard op t x y (.int k a) (.int k b)).run P w=.ok () w:=by unfold eqGuard;cases op<;>rfl
theorem zUT(op:BinOp)(t:TypeId)(x y:Operand)(a b:Bool)(w:World):(eqGuard op t x y (.bool a) (.bool b)).run P w=.ok () w:=by unfold eqGuard;cases op<;>rfl
theorem zKE(op:BinOp)(t:TypeId)(x y:Operand)(a b:qd)(w:World):(eqGuard op t x y (.string a) (.string b)).run P w=.ok () w:=by unfold eqGuard;cases op<;>rfl
theorem z5s{o:Oper}{s:St}{x y:Operand}{t t2:TypeId}{k:IntKind}{a b:Int}(ho:o.op=.binOp .add t x y t2)(hx:s.ev x=.c (.v (.int k a)))(hy:s.ev y=.c (.v (.int k b))):Y0 P o s (.c (.v (.int k (k.wrap (a+b))))):=
 zD8 ho hx hy (zCt _ _ _ _ _ _ _) (fun w=>by simp[binOp,Op.intArith]) rfl
theorem z58{o:Oper}{s:St}{x y:Operand}{t t2:TypeId}{k:IntKind}{a b:Int}(ho:o.op=.binOp .sub t x y t2)(hx:s.ev x=.c (.v (.int k a)))(hy:s.ev y=.c (.v (.int k b))):Y0 P o s (.c (.v (.int k (k.wrap (a - b))))):=
 zD8 ho hx hy (zCt _ _ _ _ _ _ _) (fun w=>by simp[binOp,Op.intArith]) rfl
theorem z5d{o:Oper}{s:St}{x y:Operand}{t t2:TypeId}{k:IntKind}{a b:Int}(ho:o.op=.binOp .mul t x y t2)(hx:s.ev x=.c (.v (.int k a)))(hy:s.ev y=.c (.v (.int k b))):Y0 P o s (.c (.v (.int k (k.wrap (a*b))))):=
 zD8 ho hx hy (zCt _ _ _ _ _ _ _) (fun w=>by simp[binOp,Op.intArith]) rfl
theorem z1D{o:Oper}{s:St}{x y:Operand}{t t2:TypeId}{k:IntKind}{a b:Int}(ho:o.op=.binOp .quo t x y t2)(hx:s.ev x=.c (.v (.int k a)))(hy:s.ev y=.c (.v (.int k b)))(h0:b≠0):Y0 P o s (.c (.v (.int k (k.wrap (a.tdiv b))))):=
 zD8 ho hx hy (zCt _ _ _ _ _ _ _) (fun w=>by simp[binOp,Op.intDiv,h0]) rfl
theorem zBE{o:Oper}{s:St}{x y:Operand}{t t2:TypeId}{k:IntKind}{a b:Int}(ho:o.op=.binOp .rem t x y t2)(hx:s.ev x=.c (.v (.int k a)))(hy:s.ev y=.c (.v (.int k b)))(h0:b≠0):Y0 P o s (.c (.v (.int k (a.tmod b)))):=
 zD8 ho hx hy (zCt _ _ _ _ _ _ _) (fun w=>by simp[binOp,Op.intDiv,h0]) rfl
theorem Y0_eq{o:Oper}{s:St}{x y:Operand}{t t2:TypeId}{k:IntKind}{a b:Int}(ho:o.op=.binOp .eql t x y t2)(hx:s.ev x=.c (.v (.int k a)))(hy:s.ev y=.c (.v (.int k b))):Y0 P o s (.c (.v (.bool (a==b)))):=
 zD8 ho hx hy (zCt _ _ _ _ _ _ _) (fun w=>by simp[binOp,Op.intCmp]) rfl
theorem Y0_ne{o:Oper}{s:St}{x y:Operand}{t t2:TypeId}{k:IntKind}{a b:Int}(ho:o.op=.binOp .neq t x y t2)(hx:s.ev x=.c (.v (.int k a)))(hy:s.ev y=.c (.v (.int k b))):Y0 P o s (.c (.v (.bool (a != b)))):=
 zD8 ho hx hy (zCt _ _ _ _ _ _ _) (fun w=>by simp[binOp,Op.intCmp]) rfl
theorem Y0_lt{o:Oper}{s:St}{x y:Operand}{t t2:TypeId}{k:IntKind}{a b:Int}(ho:o.op=.binOp .lss t x y t2)(hx:s.ev x=.c (.v (.int k a)))(hy:s.ev y=.c (.v (.int k b))):Y0 P o s (.c (.v (.bool (decide (a<b))))):=
 zD8 ho hx hy (zCt _ _ _ _ _ _ _) (fun w=>by simp[binOp,Op.intCmp]) rfl
theorem Y0_le{o:Oper}{s:St}{x y:Operand}{t t2:TypeId}{k:IntKind}{a b:Int}(ho:o.op=.binOp .leq t x y t2)(hx:s.ev x=.c (.v (.int k a)))(hy:s.ev y=.c (.v (.int k b))):Y0 P o s (.c (.v (.bool (decide (a≤b))))):=
 zD8 ho hx hy (zCt _ _ _ _ _ _ _) (fun w=>by simp[binOp,Op.intCmp]) rfl
theorem Y0_gt{o:Oper}{s:St}{x y:Operand}{t t2:TypeId}{k:IntKind}{a b:Int}(ho:o.op=.binOp .gtr t x y t2)(hx:s.ev x=.c (.v (.int k a)))(hy:s.ev y=.c (.v (.int k b))):Y0 P o s (.c (.v (.bool (decide (b<a))))):=
 zD8 ho hx hy (zCt _ _ _ _ _ _ _) (fun w=>by simp[binOp,Op.intCmp]) rfl
theorem Y0_ge{o:Oper}{s:St}{x y:Operand}{t t2:TypeId}{k:IntKind}{a b:Int}(ho:o.op=.binOp .geq t x y t2)(hx:s.ev x=.c (.v (.int k a)))(hy:s.ev y=.c (.v (.int k b))):Y0 P o s (.c (.v (.bool (decide (b≤a))))):=
 zD8 ho hx hy (zCt _ _ _ _ _ _ _) (fun w=>by simp[binOp,Op.intCmp]) rfl
theorem z97{o:Oper}{s:St}{x y:Operand}{t t2:TypeId}{a b:Bool}(hu:P.underlying t=some .bool)(ho:o.op=.binOp .eql t x y t2)(hx:s.ev x=.c (.v (.bool a)))(hy:s.ev y=.c (.v (.bool b))):Y0 P o s (.c (.v (.bool (a==b)))):=
 zD8 ho hx hy (zUT _ _ _ _ _ _) (fun w=>run_eql_bool w t a b hu) rfl
theorem z90{o:Oper}{s:St}{x y:Operand}{t t2:TypeId}{a b:Bool}(hu:P.underlying t=some .bool)(ho:o.op=.binOp .neq t x y t2)(hx:s.ev x=.c (.v (.bool a)))(hy:s.ev y=.c (.v (.bool b))):Y0 P o s (.c (.v (.bool (a != b)))):=
 zD8 ho hx hy (zUT _ _ _ _ _ _) (fun w=>run_neq_bool w t a b hu) rfl
theorem zLG{o:Oper}{s:St}{x y:Operand}{t t2:TypeId}{a b:qd}(ho:o.op=.binOp .eql t x y t2)(hx:s.ev x=.c (.v (.string a)))(hy:s.ev y=.c (.v (.string b))):Y0 P o s (.c (.v (.bool (a.toList==b.toList)))):=
 zD8 ho hx hy (zKE _ _ _ _ _ _) (fun w=>by simp[binOp,Op.stringOp]) rfl
theorem z9Z{o:Oper}{s:St}{x y:Operand}{t t2:TypeId}{a b:qd}(ho:o.op=.binOp .neq t x y t2)(hx:s.ev x=.c (.v (.string a)))(hy:s.ev y=.c (.v (.string b))):Y0 P o s (.c (.v (.bool (!(a.toList==b.toList))))):=
 zD8 ho hx hy (zKE _ _ _ _ _ _) (fun w=>by simp[binOp,Op.stringOp]) rfl
theorem z92{o:Oper}{s:St}{x y:Operand}{t t2:TypeId}{a b:qd}(ho:o.op=.binOp .lss t x y t2)(hx:s.ev x=.c (.v (.string a)))(hy:s.ev y=.c (.v (.string b))):Y0 P o s (.c (.v (.bool (Op.bytesLess a.toList b.toList)))):=
 zD8 ho hx hy (zKE _ _ _ _ _ _) (fun w=>by simp[binOp,Op.stringOp]) rfl
theorem z95{o:Oper}{s:St}{x y:Operand}{t t2:TypeId}{a b:qd}(ho:o.op=.binOp .geq t x y t2)(hx:s.ev x=.c (.v (.string a)))(hy:s.ev y=.c (.v (.string b))):Y0 P o s (.c (.v (.bool (!(Op.bytesLess a.toList b.toList))))):=
 zD8 ho hx hy (zKE _ _ _ _ _ _) (fun w=>by simp[binOp,Op.stringOp]) rfl
theorem z5p{o:Oper}{s:St}{x y:Operand}{t t2:TypeId}{a b:qd}(ho:o.op=.binOp .add t x y t2)(hx:s.ev x=.c (.v (.string a)))(hy:s.ev y=.c (.v (.string b)))(h:a.size+b.size≤9223372036854775807):Y0 P o s (.c (.v (.string (a++b)))):=
 zD8 ho hx hy (zKE _ _ _ _ _ _) (fun w=>by
  have h2:¬((a.size+b.size:Nat):Int)>IntKind.i64.max:=by
   have:IntKind.i64.max=9223372036854775807:=by decide
   rw[this];omega
  simp only[binOp,Op.stringOp];rw[if_neg h2];rfl) rfl
theorem z5b{o:Oper}{s:St}{x:Operand}{t:TypeId}{k:IntKind}{a:Int}(ho:o.op=.unOp .neg t x)(hx:s.ev x=.c (.v (.int k a))):Y0 P o s (.c (.v (.int k (k.wrap (0 - a))))):=
 qI fun ok σ ac w hC=>by refine⟨_,?_,zIY _ _ _ _⟩;unfold execOp;rw[ho];simp[hC.exact hx,Op.unary,Op.intArith]
theorem z9Y{o:Oper}{s:St}{x:Operand}{t:TypeId}{b:Bool}(ho:o.op=.unOp .not t x)(hx:s.ev x=.c (.v (.bool b))):Y0 P o s (.c (.v (.bool (!b)))):=
 qI fun ok σ ac w hC=>by refine⟨_,?_,zMu _ _ _⟩;unfold execOp;rw[ho];simp[hC.exact hx,Op.unary]
theorem zYc{o:Oper}{s:St}{x:Operand}{src dst:TypeId}{k k2:IntKind}{a:Int}(hs:P.underlying src=some (.int k2))(hd:P.underlying dst=some (.int k))(ho:o.op=.convert src dst x)(hx:s.ev x=.c (.v (.int k2 a))):Y0 P o s (.c (.v (.int k (k.wrap a)))):=
 qI fun ok σ ac w hC=>by refine⟨_,?_,zIY _ _ _ _⟩;unfold execOp;rw[ho];simp[hC.exact hx,convert,run_underlying hs,run_underlying hd,Conv.intToInt]
def AV.nth:Nat→AV→AV
 |0,.tc x _=>x
 |n+1,.tc _ r=>r.nth n
 |_,_=>.bot
theorem zZT{ok:Nat→Prop}{σ:Nat→Loc}{w:World}:∀(n:Nat)(av:AV)(vs:List Value),RelL ok σ w av vs→(av.nth n=.bot)∨∃v,vs[n]?=some v∧Rel1 ok σ w (av.nth n) v
 |0,.tc x r,[],h=>h.elim
 |0,.tc x r,v::vs,h=>.inr ⟨v,rfl,h.1⟩
 |n+1,.tc x r,[],h=>h.elim
 |n+1,.tc x r,v::vs,h=>by simpa [AV.nth] using zZT n r vs h.2
 |0,.tn,_,_=>.inl rfl
 |n+1,.tn,_,_=>.inl rfl
 |0,.bot,vs,h=>by cases vs<;>exact (h:False).elim
 |n+1,.bot,vs,h=>by cases vs<;>exact (h:False).elim
 |0,.c t,vs,h=>by cases vs<;>exact (h:False).elim
 |n+1,.c t,vs,h=>by cases vs<;>exact (h:False).elim
 |0,.ag t,vs,h=>by cases vs<;>exact (h:False).elim
 |n+1,.ag t,vs,h=>by cases vs<;>exact (h:False).elim
 |0,.ow t,vs,h=>by cases vs<;>exact (h:False).elim
 |n+1,.ow t,vs,h=>by cases vs<;>exact (h:False).elim
 |0,.pt t _,vs,h=>by cases vs<;>exact (h:False).elim
 |n+1,.pt t _,vs,h=>by cases vs<;>exact (h:False).elim
 |0,.po t _ _ _,vs,h=>by cases vs<;>exact (h:False).elim
 |n+1,.po t _ _ _,vs,h=>by cases vs<;>exact (h:False).elim
 |0,.pe t,vs,h=>by cases vs<;>exact (h:False).elim
 |n+1,.pe t,vs,h=>by cases vs<;>exact (h:False).elim
theorem z96{o:Oper}{s:St}{x:Operand}{n:Nat}{y r:AV}(ho:o.op=.extract x n)(hx:s.ev x=.tc y r)(hb:((AV.tc y r).nth n)≠.bot):Y0 P o s ((AV.tc y r).nth n):=
 qI fun ok σ a w hC=>by
  have h1:=hC.ev x;rw[hx]at h1;obtain⟨vs,h2,h3⟩:=h1;rcases zZT n _ _ h3 with h4|⟨v,h4,h5⟩
  ·exact absurd h4 hb
  ·refine⟨v,?_,zMN h5⟩;unfold execOp;rw[ho];have h6:vs[n]?=some v:=by simpa using h4
   simp[h2,Instr.extract,h6]
end
theorem zCm(g o n:Nat):(⟨g,o,none⟩:Addr).add n=⟨g,o+n,none⟩:=by unfold Addr.add;split<;>simp_all
section
variable {P:Program}
theorem z2e{ok:Nat→Prop}{w:World}(hok:∀g,ok g→g<w.heap.size){cs:List Tr}{arr:Array Value}(T:TypeId)(h:RdL ok w cs arr.toList):
  New w (w.alloc (.cells arr T)) ok ok (fun _=>⟨some w.heap.size,0,0⟩) (.pt 0 0) [(0,.box cs)] (.pointer (some ⟨w.heap.size,0,none⟩)):=by
 have hw:∀g,ok g→(w.alloc (.cells arr T)).heap[g]?=w.heap[g]?:=fun g hg=>Below.heap_alloc _ _ _ (hok g hg)
 refine⟨(Below.refl _ _).alloc (Nat.le_refl _) _,fun _ h=>h,fun _ h=>.inl h,fun g hg=>by have:=hok g hg;simp;omega,⟨_,rfl,rfl⟩,fun id e he=>?_,fun e he=>?_,fun id e he=>?_,fun id e g he hg=>?_,fun i j e f g hi hj _ _=>?_,fun id e he=>by obtain⟨_,h2⟩:=zAR _ _ _ _ he;subst h2;rfl⟩
 ·obtain⟨h1,_⟩:=zAR _ _ _ _ he;omega
 ·show (0 / 8==e)=false;rw[zr];omega
 ·obtain⟨h1,h2⟩:=zAR _ _ _ _ he;subst h2;exact⟨w.heap.size,arr,T,rfl,heap_alloc_new w _,h.mono (fun _ h=>h) hw⟩
 ·have e1:w.heap.size=g:=by simpa using hg
  subst e1;exact⟨Nat.le_refl _,fun hg2=>by have:=hok _ hg2;omega,by simp⟩
 ·obtain⟨h1,_⟩:=zAR _ _ _ _ hi;obtain⟨h2,_⟩:=zAR _ _ _ _ hj;omega
theorem z2f{ok:Nat→Prop}{w:World}(hok:∀g,ok g→g<w.heap.size){els:List (List Tr)}{arr:Array Value}(T:TypeId)(sz:Nat)(hsz:0<sz)(hel:∀el,el∈els→el.length=sz)(hmax:els.length≤maxLen)(h:RdL ok w els.flatten arr.toList)(hlen:arr.size=els.length*sz):
  New w (w.alloc (.cells arr T)) ok ok (fun _=>⟨some w.heap.size,els.length,els.length⟩) (.ow 0) [(0,.arr T sz els)] (.slice (some ⟨w.heap.size,0,none⟩) els.length els.length):=by
 have hw:∀g,ok g→(w.alloc (.cells arr T)).heap[g]?=w.heap[g]?:=fun g hg=>Below.heap_alloc _ _ _ (hok g hg)
 refine⟨(Below.refl _ _).alloc (Nat.le_refl _) _,fun _ h=>h,fun _ h=>.inl h,fun g hg=>by have:=hok g hg;simp;omega,rfl,fun id e he=>?_,fun e he=>?_,fun id e he=>?_,fun id e g he hg=>?_,fun i j e f g hi hj _ _=>?_,fun id e he=>by obtain⟨_,h2⟩:=zAR _ _ _ _ he;subst h2;rfl⟩
 ·obtain⟨h1,_⟩:=zAR _ _ _ _ he;omega
 ·show (0 / 8==e)=false;rw[zr];omega
 ·obtain⟨h1,h2⟩:=zAR _ _ _ _ he;subst h2;refine⟨hsz,rfl,hel,arr.toList,⟨by simpa using hlen,.inr ⟨w.heap.size,els.length,arr,rfl,Nat.zero_le _,heap_alloc_new w _,Nat.le_refl _,hmax,hlen,?_⟩⟩,h.mono (fun _ h=>h) hw⟩;show arr.toList.take (els.length*sz)=arr.toList;rw[←hlen];exact List.take_of_length_le (by simp)
 ·have e1:w.heap.size=g:=by simpa using hg
  subst e1;exact⟨Nat.le_refl _,fun hg2=>by have:=hok _ hg2;omega,by simp⟩
 ·obtain⟨h1,_⟩:=zAR _ _ _ _ hi;obtain⟨h2,_⟩:=zAR _ _ _ _ hj;omega
theorem zIJ{o:Oper}{s:St}{av:AV}{ne:List (Nat×Ent)}(h:∀ok σ a w,Core ok σ s a w→∃v w' σ',(execOp a.eval o).run P w=.ok (.value v) w'∧New w w' ok ok σ' av ne v):Y1 P o s av ne:=by intro ok σ a w hC K Q hK;obtain⟨v,w',σ',h1,h2⟩:=h ok σ a w hC;unfold Oper.wp;rw[h1];exact hK v w' ok σ' h2
theorem z3Q{v:Value}(h:v.oneCell'=true):v.cells=#[v]:=by
 cases v with
 |agg cs=>simp[Value.oneCell']at h
 |_=>rfl
theorem z2d(ok:Nat→Prop)(w:World):∀(l:List Value),(l.all Value.oneCell')=true→RdL ok w (l.map Tr.v) l
 |[],_=>.nil
 |x::xs,h=>by simp only[List.all_cons,zh]at h;exact .cons (.v x h.1) (z2d ok w xs h.2)
theorem z55{o:Oper}{s:St}{e:TypeId}{z:Value}(ho:o.op=.alloc e)(hz:(P.info? e).bind (·.zero)=some z)(hc:zEc z.cells=true):Y1 P o s (.pt 0 0) [(0,.box (z.cells.toList.map Tr.v))]:=
 zIJ fun ok σ a w hC=>by
  cases hi:P.info? e with
  |none=>rw[hi]at hz;cases hz
  |some i=>
   have hz2:i.zero=some z:=by rw[hi]at hz;exact hz
   refine⟨.pointer (some ⟨w.heap.size,0,none⟩),w.alloc (.cells z.cells e),_,?_,z2e hC.okL e (z2d ok w _ hc)⟩;unfold execOp;rw[ho];simp[Instr.alloc,zeroValue,typeInfo,hi,hz2,newVar,newRow]
def zDa:AV→Option (List Tr)
 | .c t=>some [t]
 | .ag cs=>some cs
 |_=>none
theorem zHL{ok:Nat→Prop}{σ:Nat→Loc}{w:World}{av:AV}{y:Value}{cs:List Tr}(h:Rel ok σ w av y)(hc:zDa av=some cs):RdL ok w cs y.cells.toList:=by
 cases av with
 |c t=>have h1:Rd ok w t y:=h;injection hc with hc;subst hc;rw[z3Q h1.one];exact .cons h1 .nil
 |ag ds=>obtain⟨vs,hy,hr⟩:=h;injection hc with hc;subst hc hy;exact hr
 |_=>cases hc
theorem z9U{o:Oper}{s:St}{e:TypeId}{x:Operand}{cs:List Tr}(ho:o.op=.box e x)(hx:zDa (s.ev x)=some cs):Y1 P o s (.pt 0 0) [(0,.box cs)]:=
 zIJ fun ok σ a w hC=>by refine⟨.pointer (some ⟨w.heap.size,0,none⟩),w.alloc (.cells (a.eval x).cells e),_,?_,z2e hC.okL e (zHL (hC.ev x) hx)⟩;unfold execOp;rw[ho];simp[Instr.box,newVar,newRow]
def splice{α:Type}(l:List α)(o:Nat)(m:List α):List α:=l.take o++m++l.drop (o+m.length)
theorem zTZ{α:Type}(l:List α)(o:Nat):splice l o []=l:=by simp[splice]
theorem zZB{α:Type}(l:List α)(o:Nat)(x:α)(m:List α)(h:o<l.length):splice l o (x::m)=splice (l.set o x) (o+1) m:=by
 unfold splice;apply List.ext_getElem?;intro j;simp only[List.getElem?_append,List.length_take,zd,ze,List.getElem?_take,List.getElem?_drop,List.length_set,List.getElem?_set,List.length_drop];have e1:min o l.length=o:=by omega
 have e2:min (o+1) l.length=o+1:=by omega
 rw[e1,e2];by_cases h1:j<o
 ·simp only[show j<o+(m.length+1) by omega,h1,show j<o+1+m.length by omega,show j<o+1 by omega,show o≠j by omega,if_true,if_false]
 ·by_cases h2:j=o
  ·subst h2;simp[h];omega
  ·by_cases h3:j<o+1+m.length
   ·have e3:j - o=(j - (o+1))+1:=by omega
    simp only[show j<o+(m.length+1) by omega,h1,h3,show ¬j<o+1 by omega,if_true,if_false,e3,List.getElem?_cons_succ]
   ·simp only[show ¬j<o+(m.length+1) by omega,h3,if_false];have e4:o+(m.length+1)+(j - (o+(m.length+1)))=j:=by omega
    have e5:o+1+m.length+(j - (o+1+m.length))=j:=by omega
    rw[e4,e5,if_neg (by omega)]
theorem RdL.splice{ok:Nat→Prop}{w:World}{ts us:List Tr}{xs ys:List Value}(h:RdL ok w ts xs)(o:Nat)(h2:RdL ok w us ys):RdL ok w (splice ts o us) (splice xs o ys):=by unfold Go.Proofs.YtnjhhbcccgbbnaaGreatDoor.splice;rw[h2.len];exact ((h.take o).app h2).app (h.drop _)
theorem zRV:∀(vs:List Value)(k o:Nat)(cs:Array Value),o+k+vs.length≤cs.size→((vs.zipIdx k).foldl (fun cs (p:Value×Nat)=>cs.setIfInBounds (o+p.2) p.1) cs).toList=splice cs.toList (o+k) vs
 |[],k,o,cs,_=>by simp[zTZ]
 |v::vs,k,o,cs,h=>by simp only[ze]at h;rw[List.zipIdx_cons,List.foldl_cons,zRV vs (k+1) o _ (by simp;omega),zZB _ _ _ _ (by simp;omega)];simp[Nat.add_assoc]
def zRY(place:Nat→Option (Nat×Nat))(cells:List Tr):List (Nat×AV)→Option (List Tr)
 |[]=>some cells
 |(i,av)::rest=>
  match place i,zDa av with
  |some (off,size),some cs=>if cs.length≠size∨off+cs.length>cells.length then none else zRY place (splice cells off cs) rest
  |_,_=>none
inductive RelP (ok:Nat→Prop) (σ:Nat→Loc) (w:World):List (Nat×AV)→List (Nat×Value)→Prop
  |nil:RelP ok σ w [] []
  |cons {i t x ts xs} (h:Rel ok σ w t x) (hs:RelP ok σ w ts xs):RelP ok σ w ((i,t)::ts) ((i,x)::xs)
theorem zG1{α:Type}(l:List α)(o:Nat)(m:List α)(h:o+m.length≤l.length):(splice l o m).length=l.length:=by unfold splice;simp only[zd,List.length_take,List.length_drop];omega
theorem zWn{ok:Nat→Prop}{σ:Nat→Loc}{w:World}(place:Nat→Option (Nat×Nat)){ps:List (Nat×AV)}{qs:List (Nat×Value)}(h:RelP ok σ w ps qs):∀(cells:List Tr)(arr:Array Value)(r:List Tr),RdL ok w cells arr.toList→zRY place cells ps=some r→
  ∃arr',Instr.fill place arr qs=some arr'∧RdL ok w r arr'.toList:=by
 induction h with
 |nil=>intro cells arr r hr hf;injection hf with hf;subst hf;exact⟨arr,rfl,hr⟩
 |@cons i t x ts xs h hs ih=>
  intro cells arr r hr hf;simp only[zRY]at hf;cases hp:place i with
  |none=>simp[hp]at hf
  |some p=>
   obtain⟨off,size⟩:=p;cases hc:zDa t with
   |none=>simp[hp,hc]at hf
   |some cs=>
    simp only[hp,hc]at hf;split at hf
    ·cases hf
    ·rename_i hcond;have h1:=zHL h hc;have h2:=h1.len;have h3:=hr.len;have hsz:x.cells.size=size∧¬off+x.cells.size>arr.size:=by
      simp at h2 h3;omega
     have hspl:=zRV x.cells.toList 0 off arr (by simp;omega);obtain⟨arr',h4,h5⟩:=ih (splice cells off cs) (x.cells.zipIdx.foldl (fun cs (p:Value×Nat)=>cs.setIfInBounds (off+p.2) p.1) arr) r (by rw[←Array.foldl_toList,Array.toList_zipIdx,hspl];exact hr.splice off h1) hf
     refine⟨arr',?_,h5⟩;simp only[Instr.fill,hp];have hcond2:(decide (x.cells.size≠size)||decide (off+x.cells.size>arr.size))=false:=by simp only[Bool.or_eq_false_iff,decide_eq_false_iff_not];exact⟨by simp[hsz.1],hsz.2⟩
     rw[if_neg (by simpa using hcond2)];exact h4
end
section
variable {P:Program}
def evP(s:St):List (Nat×Operand)→List (Nat×AV)
 |[]=>[]
 |p::ps=>(p.1,s.ev p.2)::evP s ps
theorem zYM{ok:Nat→Prop}{σ:Nat→Loc}{s:St}{a:Act}{w:World}(h:Core ok σ s a w):∀(ps:List (Nat×Operand)),RelP ok σ w (evP s ps) (ps.map fun p=>(p.1,a.eval p.2))
 |[]=>.nil
 |p::ps=>.cons (h.ev p.2) (zYM h ps)
theorem zBj{o:Oper}{s:St}{t:TypeId}{parts:Array (Nat×Operand)}{z:Array Value}{cs:List Tr}(place:Nat→Option (Nat×Nat))(hb:∀ps,P.built t ps=Instr.fill place z ps)(ho:o.op=.build t parts)(hz:zEc z=true)
  (hf:zRY place (z.toList.map Tr.v) (evP s parts.toList)=some cs):Y0 P o s (.ag cs):=
 qI fun ok σ a w hC=>by
  obtain⟨arr,h1,h2⟩:=zWn place (zYM hC parts.toList) _ z cs (z2d ok w _ hz) hf;refine⟨.agg arr,?_,⟨arr,rfl,h2⟩⟩;have h3:=run_build (P:=P) w t (parts.map fun (i,x)=>(i,a.eval x)) arr (by rw[hb];simpa using h1)
  unfold execOp;rw[ho];simp only[Sem.run_bind,h3,Result.andThen_ok,Sem.run_pure]
def zBi(s:St):AV→Option (List Tr)
 | .pt id off=>match s.entc id with
  |some (.box cs)=>some (cs.drop off)
  |_=>none
 | .po id sz i off=>match s.entc id with
  |some (.arr _ z els)=>if z=sz then (match els[i]? with
   |some el=>some (el.drop off)
   |none=>none) else none
  |_=>none
 | .pe cs=>some cs
 |_=>none
theorem zKy:∀(els:List (List Tr))(sz i j:Nat)(el:List Tr)(c:Tr),(∀e,e∈els→e.length=sz)→els[i]?=some el→el[j]?=some c→els.flatten[i*sz+j]?=some c
 |[],_,i,_,_,_,_,h,_=>by simp at h
 |e::es,sz,0,j,el,c,hs,h,hc=>by
  simp at h;subst h;rw[List.flatten_cons,Nat.zero_mul,Nat.zero_add,List.getElem?_append_left (by
   rcases Nat.lt_or_ge j e.length with h1|h1
   ·exact h1
   ·rw[List.getElem?_eq_none h1]at hc;cases hc)]
  exact hc
 |e::es,sz,i+1,j,el,c,hs,h,hc=>by
  have hl:e.length=sz:=hs e (by simp);rw[List.flatten_cons,List.getElem?_append_right (by rw[hl,Nat.add_mul];omega)];have e1:(i+1)*sz+j - e.length=i*sz+j:=by rw[hl,Nat.add_mul];omega
  rw[e1];exact zKy es sz i j el c (fun x hx=>hs x (by simp[hx])) (by simpa using h) hc
theorem zMR{w:World}{e:TypeId}{sz:Nat}{l:Loc}{n:Nat}{vs:List Value}(h:w.ownsRow 0 e sz (zK l) n vs){g:Nat}(hg:l.blk=some g):∀j u,vs[j]?=some u→w.cell? ⟨g,j,none⟩=some u:=by intro j u hu;have h1:=h.cells (g:=g) (by simp[zK,hg,Value.ownBlock]) j u hu;rw[zCm]at h1;simpa using h1
theorem zMw{w:World}{e:TypeId}{sz:Nat}{l:Loc}{n:Nat}{vs:List Value}(h:w.ownsRow 0 e sz (zK l) n vs)(hn:0<n):∃g,l.blk=some g:=by
 obtain⟨g,cap,hv,_⟩:=h.form hn;unfold zK at hv;injection hv with h1;cases hb:l.blk with
 |none=>rw[hb]at h1;cases h1
 |some g=>exact⟨g,rfl⟩
theorem zMS{ok:Nat→Prop}{σ:Nat→Loc}{s:St}{a:Act}{w:World}(h:Core ok σ s a w){av:AV}{y:Value}{cs:List Tr}(hr:Rel ok σ w av y)(hm:zBi s av=some cs):
  ∃g off,y=.pointer (some ⟨g,off,none⟩)∧∀j c,cs[j]?=some c→∃u,w.cell? ⟨g,off+j,none⟩=some u∧Rd ok w c u:=by
 cases av with
 |pt id off=>
  simp only[zBi]at hm;cases he:s.entc id with
  |none=>simp[he]at hm
  |some e=>
   cases e with
   |arr=>simp[he]at hm
   |pbox=>simp[he]at hm
   |parr=>simp[he]at hm
   |mp=>simp[he]at hm
   |qarr=>simp[he]at hm
   |box ds=>
    simp only[he]at hm;injection hm with hm;subst hm;obtain⟨g,h1,h2⟩:=(hr:Rel1 ok σ w (.pt id off) y)
    obtain⟨g2,arr,T,h3,h4,h5⟩:=h.entc id _ he;rw[h1]at h3;injection h3 with h3;subst h3;refine⟨g,off,h2,fun j c hj=>?_⟩;obtain⟨u,h6,h7⟩:=h5.get (off+j) c (by simpa using hj);exact⟨u,by rw[cell_of_row w g _ arr T _ h4];simpa using h6,h7⟩
 |po id sz i off=>
  simp only[zBi]at hm;cases he:s.entc id with
  |none=>simp[he]at hm
  |some e=>
   cases e with
   |box=>simp[he]at hm
   |pbox=>simp[he]at hm
   |parr=>simp[he]at hm
   |mp=>simp[he]at hm
   |qarr=>simp[he]at hm
   |arr T z els=>
    simp only[he]at hm;split at hm
    ·rename_i hz;subst hz;cases hi:els[i]? with
     |none=>simp[hi]at hm
     |some el=>
      simp only[hi]at hm;injection hm with hm;subst hm;obtain⟨g,h1,h2⟩:=(hr:Rel1 ok σ w (.po id z i off) y)
      obtain⟨h0,hn,hs,vs,h3,h4⟩:=h.entc id _ he;refine⟨g,i*z+off,h2,fun j c hj=>?_⟩;have h5:=zKy els z i (off+j) el c hs hi (by simpa using hj);obtain⟨u,h6,h7⟩:=h4.get _ c h5;refine⟨u,?_,h7⟩;have h8:=zMR h3 h1 _ u h6;rw[←Nat.add_assoc]at h8;exact h8
    ·cases hm
 |pe ds=>
  obtain⟨g,off,h1,h2,h3⟩:=(hr:Rel1 ok σ w (.pe ds) y)
  simp only[zBi]at hm;injection hm with hm;subst hm;exact⟨g,off,h2,h3⟩
 |_=>simp[zBi]at hm
def aggD:TypeDesc→Bool
 | .struct _=>true
 | .array _ _=>true
 |_=>false
def zQR(P:Program)(t:TypeId):Prop:=∃d,P.underlying t=some d∧aggD d=false
def wide(P:Program)(t:TypeId)(n:Nat):Prop:=(∃d,P.underlying t=some d∧aggD d=true)∧(P.info? t).map (·.size)=some n
theorem zQ3{t:TypeId}{d:TypeDesc}(h:P.underlying t=some d)(w:World):(isAgg t).run P w=.ok (aggD d) w:=by unfold isAgg;simp only[Sem.run_bind,run_underlying h,Result.andThen_ok];cases d<;>rfl
theorem zXq{t:TypeId}(hs:zQR P t){w:World}{g off:Nat}{u:Value}(h:w.cell? ⟨g,off,none⟩=some u):(loadVar t ⟨g,off,none⟩).run P w=.ok u w:=by obtain⟨d,h1,h2⟩:=hs;unfold loadVar;simp only[Sem.run_bind,zQ3 h1,h2,Result.andThen_ok,Bool.false_eq_true,if_false,run_load,h]
theorem zKl{t:TypeId}{n:Nat}(hs:wide P t n){w:World}{g off:Nat}{vs:List Value}(hl:vs.length=n)(h:∀j u,vs[j]?=some u→w.cell? ⟨g,off+j,none⟩=some u):(loadVar t ⟨g,off,none⟩).run P w=.ok (.agg vs.toArray) w:=by
 obtain⟨⟨d,h1,h2⟩,h3⟩:=hs;have h4:=run_loadCells_list (P:=P) w ⟨g,off,none⟩ vs (fun j u hu=>by rw[zCm];exact h j u hu);cases hi:P.info? t with
 |none=>rw[hi]at h3;simp at h3
 |some i=>
  have h5:i.size=n:=by rw[hi]at h3;simpa using h3
  rw[hl]at h4;unfold loadVar;simp[zQ3 h1,h2,sizeOf,typeInfo,hi,h5,h4]
theorem zMd{o:Oper}{s:St}{t:TypeId}{x:Operand}{c:Tr}{cs:List Tr}(hs:zQR P t)(ho:o.op=.load t x)(hm:zBi s (s.ev x)=some (c::cs)):Y0 P o s (.c c):=
 qI fun ok σ a w hC=>by obtain⟨g,off,h1,h2⟩:=zMS hC (hC.ev x) hm;obtain⟨u,h3,h4⟩:=h2 0 c rfl;refine⟨u,?_,h4⟩;unfold execOp;rw[ho];simp only[h1,Instr.loadAt,Instr.sureAddr,Sem.run_bind,Sem.run_pure,Result.andThen_ok,zXq hs (show w.cell? ⟨g,off,none⟩=some u from h3)]
theorem zIs{ok:Nat→Prop}{w:World}(g off:Nat):∀(cs:List Tr)(k:Nat),(∀j c,cs[j]?=some c→∃u,w.cell? ⟨g,off+(k+j),none⟩=some u∧Rd ok w c u)→∃vs,RdL ok w cs vs∧∀j u,vs[j]?=some u→w.cell? ⟨g,off+(k+j),none⟩=some u
 |[],k,_=>⟨[],.nil,fun j u h=>by simp at h⟩
 |c::cs,k,h=>by
  obtain⟨u,h1,h2⟩:=h 0 c rfl;obtain⟨vs,h3,h4⟩:=zIs g off cs (k+1) fun j d hj=>by
   have:=h (j+1) d (by simpa using hj)
   rwa [show k+(j+1)=k+1+j by omega]at this
  refine⟨u::vs,.cons h2 h3,fun j v hv=>?_⟩;cases j with
  |zero=>simp at hv;subst hv;exact h1
  |succ j=>
   have:=h4 j v (by simpa using hv)
   rwa [show k+1+j=k+(j+1) by omega]at this
theorem z0L{o:Oper}{s:St}{t:TypeId}{x:Operand}{n:Nat}{cs:List Tr}(hs:wide P t n)(ho:o.op=.load t x)(hm:zBi s (s.ev x)=some cs)(hn:n≤cs.length):Y0 P o s (.ag (cs.take n)):=
 qI fun ok σ a w hC=>by
  obtain⟨g,off,h1,h2⟩:=zMS hC (hC.ev x) hm;obtain⟨vs,h3,h4⟩:=zIs g off (cs.take n) 0 fun j c hj=>by
   have:=h2 j c (by
    rw[List.getElem?_take]at hj;split at hj
    ·exact hj
    ·cases hj)
   simpa using this
  have hl:vs.length=n:=by rw[←h3.len];simp;omega
  have h5:=zKl (P:=P) hs (g:=g) (off:=off) hl (fun j u hu=>by simpa using h4 j u hu);refine⟨.agg vs.toArray,?_,⟨_,rfl,by simpa using h3⟩⟩;unfold execOp;rw[ho];simp only[h1,Instr.loadAt,Instr.sureAddr,Sem.run_bind,Sem.run_pure,Result.andThen_ok,h5]
def AV.adv(n:Nat):AV→AV
 | .pt id off=>.pt id (off+n)
 | .po id sz i off=>.po id sz i (off+n)
 | .pe cs=>.pe (cs.drop n)
 |_=>.bot
theorem zY9{ok:Nat→Prop}{σ:Nat→Loc}{w:World}{av:AV}{y:Value}(n:Nat)(h:Rel ok σ w av y)(hb:av.adv n≠.bot):∃g off,y=.pointer (some ⟨g,off,none⟩)∧Rel ok σ w (av.adv n) (.pointer (some ⟨g,off+n,none⟩)):=by
 cases av with
 |pt id off=>
  obtain⟨g,h1,h2⟩:=(h:Rel1 ok σ w (.pt id off) y)
  exact⟨g,off,h2,⟨g,h1,rfl⟩⟩
 |po id sz i off=>
  obtain⟨g,h1,h2⟩:=(h:Rel1 ok σ w (.po id sz i off) y)
  exact⟨g,i*sz+off,h2,⟨g,h1,by rw[Nat.add_assoc]⟩⟩
 |pe cs=>
  obtain⟨g,off,h1,h2,h3⟩:=(h:Rel1 ok σ w (.pe cs) y)
  refine⟨g,off,h2,⟨g,off+n,h1,rfl,fun j c hj=>?_⟩⟩;rw[Nat.add_assoc];exact h3 (n+j) c (by simpa using hj)
 |_=>exact absurd rfl hb
theorem z5o{o:Oper}{s:St}{t:TypeId}{x:Operand}{f:Nat}{fields:Array Field}{fd:Field}{n:Nat}(hu:P.underlying t=some (.struct fields))(hfd:fields[f]?=some fd)(hsz:((P.info? fd.type).map (·.size))=some (n+1))(ho:o.op=.fieldAddr t x f)
  (hb:(s.ev x).adv fd.offset≠.bot):Y0 P o s ((s.ev x).adv fd.offset):=
 qI fun ok σ a w hC=>by
  obtain⟨g,off,h1,h2⟩:=zY9 fd.offset (hC.ev x) hb;refine⟨_,?_,h2⟩;cases hi:P.info? fd.type with
  |none=>rw[hi]at hsz;simp at hsz
  |some i=>
   have h5:i.size=n+1:=by rw[hi]at hsz;simpa using hsz
   unfold execOp;rw[ho];simp[h1,Instr.fieldAt,run_underlying hu,hfd,Instr.sureAddr,fieldPlace,sizeOf,typeInfo,hi,h5,zCm]
theorem z0K{o:Oper}{s:St}{x:Operand}(ho:o.op=.nilCheck x)(hb:(s.ev x).adv 0≠.bot):Y0 P o s (s.ev x):=
 qI fun ok σ a w hC=>by obtain⟨g,off,h1,h2⟩:=zY9 0 (hC.ev x) hb;refine⟨a.eval x,?_,hC.ev x⟩;unfold execOp;rw[ho];simp only[h1];rfl
theorem z94{o:Oper}{s:St}{t e:TypeId}{x ix:Operand}{els:List (List Tr)}{el:List Tr}{k:IntKind}{n:Int}(hu:P.underlying t=some (.slice e))(hsz:∃z,(P.info? e).map (·.size)=some z∧z=el.length)(ho:o.op=.indexAddr t x ix)(hx:s.ev x=.c (.sl els))(hi:s.ev ix=.c (.v (.int k n)))
  (h0:0≤n) (he:els[n.toNat]?=some el):Y0 P o s (.pe el):=
 qI fun ok σ a w hC=>by
  have h1:=hC.ev x;rw[hx]at h1;have h2:=hC.exact hi;have hlt:n.toNat<els.length:=by
   rcases Nat.lt_or_ge n.toNat els.length with h|h
   ·exact h
   ·rw[List.getElem?_eq_none h]at he;cases he
  obtain⟨z,hz1,hz2⟩:=hsz;cases hii:P.info? e with
  |none=>rw[hii]at hz1;simp at hz1
  |some i=>
   have h5:i.size=el.length:=by rw[hii]at hz1;simp at hz1;omega
   have h3:Rd ok w (.sl els) (a.eval x):=h1;generalize hax:a.eval x=y at h3;cases h3 with
   |nl A cap=>simp at hlt
   |sl g off m cap sz els f hn hcap hok hs hc hr=>
    have hel:el.length=sz:=hs el (List.mem_of_getElem? he);refine⟨.pointer (some ⟨g,off+n.toNat*el.length,none⟩),?_,⟨g,_,hok,rfl,fun j c hj=>?_⟩⟩
    ·unfold execOp;rw[ho];have hm:n<(m:Int):=by omega
     simp[h2,hax,Instr.indexAt,asIntOf,run_underlying hu,sizeOf,typeInfo,hii,h5,h0,hm,zCm]
    ·have hat:at2 els n.toNat j=some c:=by simp[at2,he,hj]
     refine⟨f n.toNat j,?_,hr _ _ c hat⟩;rw[Nat.add_assoc,hel];exact hc _ _ c hat
theorem z7U{o:Oper}{s:St}{t e:TypeId}{x ix:Operand}{id T sz:Nat}{els:List (List Tr)}{k:IntKind}{n:Int}(hu:P.underlying t=some (.slice e))(hsz:(P.info? e).map (·.size)=some sz)(ho:o.op=.indexAddr t x ix)(hx:s.ev x=.ow id)(he:s.entc id=some (.arr T sz els))(hi:s.ev ix=.c (.v (.int k n)))
  (h0:0≤n) (hlt:n.toNat<els.length):Y0 P o s (.po id sz n.toNat 0):=
 qI fun ok σ a w hC=>by
  have h1:=hC.ev x;rw[hx]at h1;have h2:=hC.exact hi;obtain⟨h3,hn,hs,vs,h4,h5⟩:=hC.entc id _ he;obtain⟨g,hg⟩:=zMw h4 (by omega);have h6:a.eval x=zK (σ id):=h1;cases hii:P.info? e with
  |none=>rw[hii]at hsz;simp at hsz
  |some i=>
   have h7:i.size=sz:=by rw[hii]at hsz;simpa using hsz
   refine⟨.pointer (some ⟨g,n.toNat*sz,none⟩),?_,⟨g,hg,rfl⟩⟩;unfold execOp;rw[ho];have hm:n<((σ id).n:Int):=by omega
   simp[h2,h6,zK,hg,Instr.indexAt,asIntOf,run_underlying hu,sizeOf,typeInfo,hii,h7,h0,hm,zCm]
end
section
variable {P:Program}
theorem zUJ:∀(av:AV),∃N,∀d,N≤d→av.ment d=false
 | .ow id=>⟨id / 8+1,fun d h=>by simp[AV.ment];omega⟩
 | .pt id _=>⟨id / 8+1,fun d h=>by simp[AV.ment];omega⟩
 | .po id _ _ _=>⟨id / 8+1,fun d h=>by simp[AV.ment];omega⟩
 | .tc x r=>by obtain⟨a,ha⟩:=zUJ x;obtain⟨b,hb⟩:=zUJ r;exact⟨a+b,fun d h=>by simp[AV.ment,ha d (by omega),hb d (by omega)]⟩
 | .bot=>⟨0,fun _ _=>rfl⟩
 | .c _=>⟨0,fun _ _=>rfl⟩
 | .ag _=>⟨0,fun _ _=>rfl⟩
 | .pe _=>⟨0,fun _ _=>rfl⟩
 | .fn _ _=>⟨0,fun _ _=>rfl⟩
 | .vw id _ _=>⟨id / 8+1,fun d h=>by simp[AV.ment];omega⟩
 | .er _=>⟨0,fun _ _=>rfl⟩
 | .sf id _ _=>⟨id / 8+1,fun d h=>by simp[AV.ment];omega⟩
 | .tn=>⟨0,fun _ _=>rfl⟩
theorem Rel.mono0{ok ok':Nat→Prop}{σ:Nat→Loc}{w w':World}{av:AV}{y:Value}(h:Rel ok σ w av y)(hok:∀g,ok g→ok' g)(hw:∀g,ok g→w'.heap[g]?=w.heap[g]?):Rel ok' σ w' av y:=by obtain⟨N,hN⟩:=zUJ av;exact h.mono N hok hw (hN N (Nat.le_refl _)) fun _ _=>rfl
theorem R.write{B:Fr}{w0:World}{ok0 ok:Nat→Prop}{σ:Nat→Loc}{s:St}{a:Act}{w:World}(h:R B w0 ok0 ok σ s a w){id:Nat}{e e':Ent}{g:Nat}(he:s.ent id=some e)(hg:(σ id).blk=some g)(arr:Array Value)
  (hcells:∃old T,w.heap[g]?=some (.cells old T (0,0))) (E':List (Nat×Ent)) (hE:∀j,(E'.lookup j)=if j=id then some e' else s.ent j) (hok:(∀q,q≠g→(w.setRow g arr).heap[q]?=w.heap[q]?)→zCN ok (w.setRow g arr) (σ id) e') (hpin:e'.pin=e.pin:=by rfl):
  R B w0 ok0 ok σ ⟨s.T,E'⟩ a (w.setRow g arr):=by
 obtain⟨hb1,hb2⟩:=h.core.blk id e g he hg;have hB:=h.own id e g he hg;have hw:∀q,q≠g→(w.setRow g arr).heap[q]?=w.heap[q]?:=fun q hq=>setRow_other w g q arr hq
 have hwok:∀q,ok q→(w.setRow g arr).heap[q]?=w.heap[q]?:=fun q hq=>hw q fun e=>hb1 (e▸hq)
 have hsize:(w.setRow g arr).heap.size=w.heap.size:=by simp[World.setRow]
 have look:∀j f,(St.mk s.T E').ent j=some f→(j=id∧f=e')∨(j≠id∧s.ent j=some f):=by
  intro j f hj;have h1:E'.lookup j=some f:=hj;rw[hE]at h1;split at h1
  ·rename_i hji;exact .inl ⟨hji,by simpa using h1.symm⟩
  ·rename_i hji;exact .inr ⟨hji,h1⟩
 refine⟨⟨h.core.len,fun q hq=>by rw[hsize];exact h.core.okL q hq,h.core.lib.mono (fun _ h=>h) hwok,fun t=>?_,fun j f hj=>?_,fun j f q hj hq=>?_,fun i j f1 f2 q hi hj h1 h2=>?_⟩,h.defers,h.below.trans ?_,by rw[hsize];exact h.base,h.old,h.fresh,fun j f q hj hq=>?_⟩
 ·have h1:=h.core.tmp t;exact h1.mono0 (fun _ h=>h) hwok
 ·rcases look j f hj with⟨rfl,rfl⟩|⟨h1,h2⟩
  ·exact hok hw
  ·refine (h.core.ent j f h2).mono (fun _ h=>h) hwok fun q hq=>hw q fun e1=>?_
   subst e1;exact h1 (h.core.inj _ _ _ _ _ h2 he hq hg)
 ·rw[hsize];rcases look j f hj with⟨rfl,rfl⟩|⟨h1,h2⟩
  ·exact h.core.blk _ _ _ he hq
  ·exact h.core.blk _ _ _ h2 hq
 ·rcases look i f1 hi with⟨a1,a2⟩|⟨a1,a2⟩<;>rcases look j f2 hj with⟨b1,b2⟩|⟨b1,b2⟩
  ·omega
  ·subst a1;exact h.core.inj _ _ _ _ _ he b2 h1 h2
  ·subst b1;exact h.core.inj _ _ _ _ _ a2 he h1 h2
  ·exact h.core.inj _ _ _ _ _ a2 b2 h1 h2
 ·refine⟨rfl,rfl,rfl,by rw[hsize];exact Nat.le_refl _,fun q hq hx=>hw q fun e1=>?_⟩;subst e1;split at hB
  ·exact hx hB
  ·exact hq hB
 ·rcases look j f hj with⟨rfl,rfl⟩|⟨h1,h2⟩
  ·rw[hpin];exact h.own _ _ _ he hq
  ·exact h.own _ _ _ h2 hq
def setE(id:Nat)(e:Ent):List (Nat×Ent)→List (Nat×Ent)
 |[]=>[]
 |p::ps=>bif p.1==id then (id,e)::ps else p::setE id e ps
theorem zDS(id:Nat)(e:Ent):∀(E:List (Nat×Ent))(f:Ent),E.lookup id=some f→∀j,(setE id e E).lookup j=if j=id then some e else E.lookup j
 |[],f,h,j=>by simp at h
 |(p1,p2)::ps,f,h,j=>by
  simp only[setE];cases hp:(p1==id) with
  |true=>
   have e1:p1=id:=by simpa using hp
   subst e1;simp only[za,List.lookup];by_cases hj:j=p1
   ·subst hj;simp
   ·have:(j==p1)=false:=by simpa using hj
    simp[this,hj]
  |false=>
   have hne:(id==p1)=false:=by rw[zr]at hp ⊢;exact fun e=>hp e.symm
   simp only[List.lookup,hne]at h;have ih:=zDS id e ps f h j;simp only[cond_false,List.lookup];cases hj:(j==p1) with
   |true=>
    have e1:j=p1:=by simpa using hj
    subst e1;have:¬j=id:=by simpa using hp
    simp[this]
   |false=>simpa using ih
theorem zEO:∀(els:List (List Tr))(sz:Nat),(∀e,e∈els→e.length=sz)→els.flatten.length=els.length*sz
 |[],sz,_=>by simp
 |e::es,sz,h=>by rw[List.flatten_cons,zd,zEO es sz (fun x hx=>h x (by simp[hx])),h e (by simp),ze,Nat.add_mul];omega
theorem zMX:∀(els:List (List Tr))(sz i off:Nat)(el m:List Tr),(∀e,e∈els→e.length=sz)→els[i]?=some el→off+m.length≤el.length→(els.set i (splice el off m)).flatten=splice els.flatten (i*sz+off) m
 |[],_,i,_,_,_,_,h,_=>by simp at h
 |e::es,sz,0,off,el,m,hs,h,hl=>by simp at h;subst h;unfold splice;simp only[List.set_cons_zero,List.flatten_cons,Nat.zero_mul,Nat.zero_add];rw[List.take_append_of_le_length (by omega),List.drop_append_of_le_length hl];simp only[List.append_assoc]
 |e::es,sz,i+1,off,el,m,hs,h,hl=>by
  have he:e.length=sz:=hs e (by simp);have ih:=zMX es sz i off el m (fun x hx=>hs x (by simp[hx])) (by simpa using h) hl;simp only[List.set_cons_succ,List.flatten_cons,ih];unfold splice;have e1:(i+1)*sz+off=e.length+(i*sz+off):=by rw[he,Nat.add_mul];omega
  rw[e1,List.take_append,List.drop_append];have e2:e.length+(i*sz+off) - e.length=i*sz+off:=by omega
  have e3:e.length+(i*sz+off)+m.length - e.length=i*sz+off+m.length:=by omega
  rw[e2,e3,List.take_of_length_le (by omega:e.length≤e.length+(i*sz+off)),List.drop_eq_nil_of_le (by omega:e.length≤e.length+(i*sz+off)+m.length)];simp
theorem zKk{t:TypeId}{w:World}{g off:Nat}{old:Array Value}{T:TypeId}{y:Value}{n:Nat}(hi:(P.info? t).map (·.size)=some n)(hy:y.cells.size=n)(hg:w.heap[g]?=some (.cells old T (0,0)))(hl:off+n≤old.size)(h1:∀v,v∈y.cells.toList→v.oneCell'=true):
  (storeVar t ⟨g,off,none⟩ y).run P w=.ok () (w.setRow g (splice old.toList off y.cells.toList).toArray):=by
 have h2:=run_storeCells_at P g off T y.cells.toList 0 old w hg (by simp;omega) h1;cases hq:P.info? t with
 |none=>rw[hq]at hi;simp at hi
 |some i=>
  have h5:i.size=n:=by rw[hq]at hi;simpa using hi
  unfold storeVar;simp[sizeOf,typeInfo,hq,h5,hy,h2,splice]
theorem z26{o:Oper}{s:St}{t:TypeId}{x y:Operand}{id off:Nat}{cs vc:List Tr}(ho:o.op=.store t x y)(hd:o.dst=none)(hx:s.ev x=.pt id off)(he:s.ent id=some (.box cs))(hy:zDa (s.ev y)=some vc)(hi:(P.info? t).map (·.size)=some vc.length)(hl:off+vc.length≤cs.length):
  X P o s ⟨s.T,setE id (.box (splice cs off vc)) s.E⟩:=by
 intro B w0 ok0 ok σ a w hR K Q hK;obtain⟨g,arr,T,h1,h2,h3⟩:=hR.core.ent id _ he;have h4:=hR.core.ev x;rw[hx]at h4;obtain⟨g2,h5,h6⟩:=(h4:Rel1 ok σ w (.pt id off) (a.eval x))
 rw[h1]at h5;injection h5 with h5;subst h5;have h7:=zHL (hR.core.ev y) hy;have h8:=h7.len;have h9:=h3.len;have hrun:=zKk (P:=P) (w:=w) (g:=g) (off:=off) (y:=a.eval y) hi (by simpa using h8.symm) h2 (by simp at h9;omega) h7.one;unfold Oper.wp execOp;simp only[ho,h6,Instr.storeAt,Instr.sureAddr,Sem.run_bind,Sem.run_pure,Result.andThen_ok,hrun,Oper.upon,hd];refine hK _ _ ok σ (hR.write he h1 _ ⟨arr,T,h2⟩ _ (zDS id _ s.E _ he) fun hw=>?_);refine⟨g,_,T,h1,setRow_heap w g arr _ T _ h2,?_⟩;have hmono:∀q,ok q→(w.setRow g (splice arr.toList off (a.eval y).cells.toList).toArray).heap[q]?=w.heap[q]?:=fun q hq=>hw q fun e=>(hR.core.blk id _ g he h1).1 (e▸hq)
 simpa using (h3.splice off h7).mono (fun _ h=>h) hmono
theorem z5t{o:Oper}{s:St}{t:TypeId}{x y:Operand}{id off:Nat}{l:Loc}{cs vc:List Tr}(ho:o.op=.store t x y)(hd:o.dst=none)(hx:s.ev x=.pt id off)(he:s.ent id=some (.pbox l cs))(hy:zDa (s.ev y)=some vc)(hi:(P.info? t).map (·.size)=some vc.length)(hl:off+vc.length≤cs.length):
  X P o s ⟨s.T,setE id (.pbox l (splice cs off vc)) s.E⟩:=by
 intro B w0 ok0 ok σ a w hR K Q hK;obtain⟨h0,g,arr,T,h1,h2,h3⟩:=hR.core.ent id _ he;have h4:=hR.core.ev x;rw[hx]at h4;obtain⟨g2,h5,h6⟩:=(h4:Rel1 ok σ w (.pt id off) (a.eval x))
 rw[h1]at h5;injection h5 with h5;subst h5;have h7:=zHL (hR.core.ev y) hy;have h8:=h7.len;have h9:=h3.len;have hrun:=zKk (P:=P) (w:=w) (g:=g) (off:=off) (y:=a.eval y) hi (by simpa using h8.symm) h2 (by simp at h9;omega) h7.one;unfold Oper.wp execOp;simp only[ho,h6,Instr.storeAt,Instr.sureAddr,Sem.run_bind,Sem.run_pure,Result.andThen_ok,hrun,Oper.upon,hd];refine hK _ _ ok σ (hR.write he h1 _ ⟨arr,T,h2⟩ _ (zDS id _ s.E _ he) (fun hw=>?_) rfl);refine⟨h0,g,_,T,h1,setRow_heap w g arr _ T _ h2,?_⟩;have hmono:∀q,ok q→(w.setRow g (splice arr.toList off (a.eval y).cells.toList).toArray).heap[q]?=w.heap[q]?:=fun q hq=>hw q fun e=>(hR.core.blk id _ g he h1).1 (e▸hq)
 simpa using (h3.splice off h7).mono (fun _ h=>h) hmono
theorem zRT{α:Type}(l:List α)(n o:Nat)(m:List α)(h:o+m.length≤n)(hn:n≤l.length):(splice l o m).take n=splice (l.take n) o m:=by
 unfold splice;apply List.ext_getElem?;intro j;simp only[List.getElem?_take,List.getElem?_append,List.length_take,zd,List.getElem?_drop];have e1:min o (min n l.length)=o:=by omega
 have e2:min o l.length=o:=by omega
 rw[e1,e2];by_cases h1:j<n
 ·simp only[h1,if_true];by_cases h2:j<o+m.length
  ·simp only[h2,if_true]
  ·simp only[h2,if_false];rw[if_pos (by omega)]
 ·simp only[h1,if_false];rw[if_neg (by omega),if_neg (by omega)]
theorem z5u{o:Oper}{s:St}{t:TypeId}{x y:Operand}{id sz i off T0:Nat}{els:List (List Tr)}{el vc:List Tr}(ho:o.op=.store t x y)(hd:o.dst=none)(hx:s.ev x=.po id sz i off)(he:s.ent id=some (.arr T0 sz els))(hel:els[i]?=some el)(hy:zDa (s.ev y)=some vc)
  (hi:(P.info? t).map (·.size)=some vc.length) (hl:off+vc.length≤el.length):X P o s ⟨s.T,setE id (.arr T0 sz (els.set i (splice el off vc))) s.E⟩:=by
 intro B w0 ok0 ok σ a w hR K Q hK;obtain⟨h0,hn,hs,vs,h1,h2⟩:=hR.core.ent id _ he;have hil:i<els.length:=by
  rcases Nat.lt_or_ge i els.length with h|h
  ·exact h
  ·rw[List.getElem?_eq_none h]at hel;cases hel
 have hsz:el.length=sz:=hs el (List.mem_of_getElem? hel);have h4:=hR.core.ev x;rw[hx]at h4;obtain⟨g,h5,h6⟩:=(h4:Rel1 ok σ w (.po id sz i off) (a.eval x))
 rcases h1.2 with⟨hv,hv0⟩|⟨g2,cap,cur,hv,hb,hg,hnc,hcm,hcs,htake⟩
 ·omega
 ·have hg2:g2=g:=by
   unfold zK at hv;rw[h5]at hv;injection hv with h8;simp at h8;exact h8.symm
  subst hg2;have h7:=zHL (hR.core.ev y) hy;have h8:=h7.len;have hfit:i*sz+sz≤els.length*sz:=by
   have:=Nat.mul_le_mul_right sz (show i+1≤els.length from hil)
   rwa [Nat.add_mul,Nat.one_mul]at this
  have hfit2:els.length*sz≤cur.size:=by rw[hcs];exact Nat.mul_le_mul_right _ hnc
  have hrun:=zKk (P:=P) (w:=w) (g:=g2) (off:=i*sz+off) (y:=a.eval y) hi (by simpa using h8.symm) hg (by omega) h7.one;unfold Oper.wp execOp;simp only[ho,h6,Instr.storeAt,Instr.sureAddr,Sem.run_bind,Sem.run_pure,Result.andThen_ok,hrun,Oper.upon,hd];refine hK _ _ ok σ (hR.write he h5 _ ⟨cur,T0,hg⟩ _ (zDS id _ s.E _ he) fun hw=>?_);have hmono:∀q,ok q→(w.setRow g2 (splice cur.toList (i*sz+off) (a.eval y).cells.toList).toArray).heap[q]?=w.heap[q]?:=fun q hq=>hw q fun e=>(hR.core.blk id _ g2 he h5).1 (e▸hq)
  have hlen:(splice el off vc).length=sz:=by rw[zG1 _ _ _ hl,hsz]
  have hcl:(a.eval y).cells.toList.length=vc.length:=by rw[h8]
  refine⟨h0,by simpa using hn,fun e hm=>?_,splice vs (i*sz+off) (a.eval y).cells.toList,⟨?_,.inr ⟨g2,cap,_,by rw[List.length_set];exact hv,hb,setRow_heap w g2 cur _ T0 _ hg,by simpa using hnc,hcm,?_,?_⟩⟩,?_⟩
  ·rcases List.mem_or_eq_of_mem_set hm with h9|h9
   ·exact hs e h9
   ·rw[h9];exact hlen
  ·rw[zG1 _ _ _ (by rw[h1.1,hcl];omega),h1.1,List.length_set]
  ·simp only[List.size_toArray];have hq:cur.toList.length=cur.size:=Array.length_toList;rw[zG1 _ _ _ (by rw[hcl,hq];omega),hq,hcs]
  ·simp only[List.length_set];show (splice cur.toList (i*sz+off) (a.eval y).cells.toList).take (els.length*sz)=_;rw[zRT _ _ _ _ (by rw[hcl];omega) (by simpa using hfit2),htake]
  ·rw[zMX els sz i off el vc hs hel hl];exact (h2.splice _ h7).mono (fun _ h=>h) hmono
end
section
variable {P:Program}
def AV.mid(id:Nat):AV→Bool
 | .ow j=>j==id
 | .pt j _=>j==id
 | .po j _ _ _=>j==id
 | .vw j _ _=>j==id
 | .sf j _ _=>j==id
 | .tc x r=>x.mid id||r.mid id
 |_=>false
def zEM(id:Nat):List AV→List AV
 |[]=>[]
 |x::xs=>(bif x.mid id then .bot else x)::zEM id xs
theorem zKB(d:Nat):∀(T:List AV)(t:Nat),((zEM d T)[t]?).getD .bot=(bif ((T[t]?).getD .bot).mid d then AV.bot else (T[t]?).getD .bot)
 |[],t=>by simp[zEM]
 |x::xs,0=>by simp[zEM]
 |x::xs,t+1=>by simpa [zEM] using zKB d xs t
theorem zFk(d:Nat):∀(T:List AV),(zEM d T).length=T.length
 |[]=>rfl
 |x::xs=>by simp[zEM,zFk d xs]
theorem Rel1.mid{ok ok':Nat→Prop}{σ σ':Nat→Loc}{w w':World}{av:AV}{y:Value}(d:Nat)(h:Rel1 ok σ w av y)(hok:∀g,ok g→ok' g)(hw:∀g,ok g→w'.heap[g]?=w.heap[g]?)
  (hm:av.mid d=false) (hσ:∀id,id≠d→σ' id=σ id):Rel1 ok' σ' w' av y:=by
 have hw2:=(zMN h).mono0 (ok':=ok') hok hw;cases av with
 |ow id=>have e:=hσ id (by simpa [AV.mid] using hm);show y=_;rw[e];exact h
 |pt id off=>have e:=hσ id (by simpa [AV.mid] using hm);show ∃g,_;rw[e];exact h
 |po id sz i off=>have e:=hσ id (by simpa [AV.mid] using hm);show ∃g,_;rw[e];exact h
 |tn=>exact h.elim
 |tc x r=>exact h.elim
 |bot=>trivial
 |c t=>exact hw2
 |ag cs=>exact hw2
 |pe cs=>exact hw2
 |fn f caps=>exact hw2
 |er b=>exact hw2
 |vw id els m=>exact VwOk.mono h hok hw (hσ id (by simpa [AV.mid] using hm))
 |sf id z i=>have e:=hσ id (by simpa [AV.mid] using hm);show y=_;rw[e];exact h
theorem RelL.mid{ok ok':Nat→Prop}{σ σ':Nat→Loc}{w w':World}{av:AV}{ys:List Value}(d:Nat)(h:RelL ok σ w av ys)(hok:∀g,ok g→ok' g)(hw:∀g,ok g→w'.heap[g]?=w.heap[g]?)
  (hm:av.mid d=false) (hσ:∀id,id≠d→σ' id=σ id):RelL ok' σ' w' av ys:=by
 induction av generalizing ys with
 |tn=>
  cases ys with
  |nil=>trivial
  |cons y ys=>exact h.elim
 |tc x r _ ih=>
  cases ys with
  |nil=>exact h.elim
  |cons y ys=>simp only[AV.mid,Bool.or_eq_false_iff]at hm;exact⟨h.1.mid d hok hw hm.1 hσ,ih h.2 hm.2⟩
 |_=>cases ys<;>exact (h:False).elim
theorem Rel.mid{ok ok':Nat→Prop}{σ σ':Nat→Loc}{w w':World}{av:AV}{y:Value}(d:Nat)(h:Rel ok σ w av y)(hok:∀g,ok g→ok' g)(hw:∀g,ok g→w'.heap[g]?=w.heap[g]?)
  (hm:av.mid d=false) (hσ:∀id,id≠d→σ' id=σ id):Rel ok' σ' w' av y:=by
 cases av with
 |tn=>obtain⟨vs,hy,hl⟩:=h;exact⟨vs,hy,hl.mid d hok hw hm hσ⟩
 |tc x r=>obtain⟨vs,hy,hl⟩:=h;exact⟨vs,hy,hl.mid d hok hw hm hσ⟩
 |bot=>trivial
 |c t=>exact Rel1.mid (ok:=ok) (σ:=σ) (w:=w) (av:=.c t) d h hok hw hm hσ
 |ag cs=>exact Rel1.mid (ok:=ok) (σ:=σ) (w:=w) (av:=.ag cs) d h hok hw hm hσ
 |pe cs=>exact Rel1.mid (ok:=ok) (σ:=σ) (w:=w) (av:=.pe cs) d h hok hw hm hσ
 |fn f caps=>exact Rel1.mid (ok:=ok) (σ:=σ) (w:=w) (av:=.fn f caps) d h hok hw hm hσ
 |er b=>exact Rel1.mid (ok:=ok) (σ:=σ) (w:=w) (av:=.er b) d h hok hw hm hσ
 |vw id els m=>exact Rel1.mid (ok:=ok) (σ:=σ) (w:=w) (av:=.vw id els m) d h hok hw hm hσ
 |sf id z i=>exact Rel1.mid (ok:=ok) (σ:=σ) (w:=w) (av:=.sf id z i) d h hok hw hm hσ
 |ow id=>exact Rel1.mid (ok:=ok) (σ:=σ) (w:=w) (av:=.ow id) d h hok hw hm hσ
 |pt id off=>exact Rel1.mid (ok:=ok) (σ:=σ) (w:=w) (av:=.pt id off) d h hok hw hm hσ
 |po id sz i off=>exact Rel1.mid (ok:=ok) (σ:=σ) (w:=w) (av:=.po id sz i off) d h hok hw hm hσ
def zCX(s:St):AV→Option (List (List Tr))
 | .c (.sl els)=>some els
 | .ow id=>match s.entc id with
  |some (.arr _ _ els)=>some els
  |_=>none
 |_=>none
theorem zVG{ok:Nat→Prop}{w:World}:∀(cs:List Tr)(f:Nat→Value),(∀j c,cs[j]?=some c→Rd ok w c (f j))→RdL ok w cs ((List.range cs.length).map f)
 |[],f,_=>.nil
 |c::cs,f,h=>by rw[ze,List.range_succ_eq_map,List.map_cons,List.map_map];exact .cons (h 0 c rfl) (zVG cs (f∘Nat.succ) fun j d hj=>h (j+1) d (by simpa using hj))
theorem zKx:∀(els:List (List Tr))(sz k:Nat)(c:Tr),(∀e,e∈els→e.length=sz)→els.flatten[k]?=some c→at2 els (k / sz) (k % sz)=some c
 |[],_,k,c,_,h=>by simp at h
 |e::es,sz,k,c,hs,h=>by
  have he:e.length=sz:=hs e (by simp);rw[List.flatten_cons]at h;rcases Nat.lt_or_ge k sz with h1|h1
  ·rw[List.getElem?_append_left (by omega)]at h;rw[Nat.div_eq_of_lt h1,Nat.mod_eq_of_lt h1];simpa [at2] using h
  ·rw[List.getElem?_append_right (by omega),he]at h;rcases Nat.eq_zero_or_pos sz with h0|h0
   ·subst h0;have hz:es.flatten=[]:=by
     have:=zEO es 0 (fun x hx=>hs x (by simp[hx]));exact List.eq_nil_of_length_eq_zero (by simpa using this)
    rw[hz]at h;simp at h
   ·have ih:=zKx es sz (k - sz) c (fun x hx=>hs x (by simp[hx])) h;have e1:k / sz=(k - sz) / sz+1:=Nat.div_eq_sub_div h0 h1;have e2:k % sz=(k - sz) % sz:=Nat.mod_eq_sub_mod h1;rw[e1,e2];simpa [at2] using ih
theorem zIP{ok:Nat→Prop}{σ:Nat→Loc}{s:St}{a:Act}{w:World}(h:Core ok σ s a w){av:AV}{y:Value}{els:List (List Tr)}(hr:Rel ok σ w av y)(he:zCX s av=some els):
  ∃A cap,y=.slice A els.length cap∧els.length≤cap∧(els≠[]→∃g off sz vs,A=some ⟨g,off,none⟩∧(∀e,e∈els→e.length=sz)∧RdL ok w els.flatten vs∧∀j u,vs[j]?=some u→w.cell? ⟨g,off+j,none⟩=some u):=by
 cases av with
 |c t=>
  cases t with
  |v x=>simp[zCX]at he
  |mp x=>simp[zCX]at he
  |sl es=>
   simp only[zCX]at he;injection he with he;subst he;have h1:Rd ok w (.sl es) y:=hr;cases h1 with
   |nl A cap=>exact⟨A,cap,rfl,Nat.zero_le _,fun h=>absurd rfl h⟩
   |sl g off n cap sz els f hn hcap hok hs hc hrr=>
    subst hn;refine⟨_,cap,rfl,hcap,fun _=>⟨g,off,sz,(List.range es.flatten.length).map (fun k=>f (k / sz) (k % sz)),rfl,hs,zVG _ _ fun j c hj=>hrr _ _ c (zKx es sz j c hs hj),fun j u hu=>?_⟩⟩;have hj:j<es.flatten.length:=by
     rcases Nat.lt_or_ge j es.flatten.length with h2|h2
     ·exact h2
     ·rw[List.getElem?_eq_none (by simpa using h2)]at hu;cases hu
    have hu2:u=f (j / sz) (j % sz):=by rw[List.getElem?_map,List.getElem?_range hj]at hu;simpa using hu.symm
    have h3:=hc _ _ _ (zKx es sz j _ hs (zu hj));have e1:j / sz*sz+j % sz=j:=by rw[Nat.mul_comm];exact Nat.div_add_mod j sz
    rw[e1]at h3;rw[hu2];exact h3
 |ow id=>
  simp only[zCX]at he;cases hid:s.entc id with
  |none=>simp[hid]at he
  |some e=>
   cases e with
   |box=>simp[hid]at he
   |pbox=>simp[hid]at he
   |parr=>simp[hid]at he
   |mp=>simp[hid]at he
   |qarr=>simp[hid]at he
   |arr T sz es=>
    simp only[hid]at he;injection he with he;subst he;obtain⟨h0,hn,hs,vs,h1,h2⟩:=h.entc id _ hid;have hy:y=zK (σ id):=hr;refine⟨_,(σ id).cap,by rw[hy];unfold zK;rw[hn],?_,fun hne=>?_⟩
    ·rcases h1.2 with⟨_,hv0⟩|⟨g2,cap,cur,hv,hb,hg,hnc,_⟩
     ·omega
     ·unfold zK at hv;injection hv with _ _ h3;omega
    ·obtain⟨g,hg⟩:=zMw h1 (List.length_pos_iff.2 hne);exact⟨g,0,sz,vs,by rw[hg];rfl,hs,h2,fun j u hu=>by rw[Nat.zero_add];exact zMR h1 hg j u hu⟩
 |_=>simp[zCX]at he
theorem z93{o:Oper}{s:St}{x:Operand}{t e:TypeId}{els:List (List Tr)}(hu:P.underlying t=some (.slice e))(ho:o.op=.call {callee:=.builtin .len,args:=#[x],argTypes:=#[t]})(hx:zCX s (s.ev x)=some els):Y0 P o s (.c (.v (.int .i64 (els.length:Int)))):=
 qI fun ok σ a w hC=>by obtain⟨A,cap,h1,_⟩:=zIP hC (hC.ev x) hx;refine⟨_,?_,zIY _ _ _ _⟩;unfold execOp;rw[ho];simp[resolve,invoke,builtin,h1,Builtin.len_,run_underlying hu,goInt]
theorem z7Q{o:Oper}{s:St}{x:Operand}{t:TypeId}{b:qd}(hu:P.underlying t=some .string)(ho:o.op=.call {callee:=.builtin .len,args:=#[x],argTypes:=#[t]})(hx:s.ev x=.c (.v (.string b))):Y0 P o s (.c (.v (.int .i64 (b.size:Int)))):=
 qI fun ok σ a w hC=>by refine⟨_,?_,zIY _ _ _ _⟩;unfold execOp;rw[ho];simp[resolve,invoke,builtin,hC.exact hx,Builtin.len_,run_underlying hu,goInt]
theorem zRK{o:Oper}{s:St}{e:TypeId}(sz:Nat)(hsz:0<sz)(ho:o.op=.assign (.const (.slice none 0 0))∨o.op=.move (.const (.slice none 0 0))):Y1 P o s (.ow 0) [(0,.arr e sz [])]:=
 zIJ fun ok σ a w hC=>by
  refine⟨.slice none 0 0,w,fun _=>⟨none,0,0⟩,?_,⟨Below.refl _ _,fun _ h=>h,fun _ h=>.inl h,hC.okL,rfl,fun id e he=>?_,fun e he=>?_,fun id e he=>?_,fun id e g he hg=>by simp at hg,fun i j e f g hi hj h1=>by simp at h1,fun id e he=>by obtain⟨_,h2⟩:=zAR _ _ _ _ he;subst h2;rfl⟩⟩
  ·unfold execOp;rcases ho with h|h<;>rw[h]<;>rfl
  ·obtain⟨h1,_⟩:=zAR _ _ _ _ he;omega
  ·show (0 / 8==e)=false;rw[zr];omega
  ·obtain⟨h1,h2⟩:=zAR _ _ _ _ he;subst h2;exact⟨hsz,rfl,(by intro el h;cases h),[],World.ownsRow_nil w 0 _ sz,RdL.nil⟩
theorem z0f(l:Loc):(zK l).ownBlock=l.blk:=by unfold zK;cases l.blk<;>rfl
theorem z3Y{o:Oper}{s:St}{x y:Operand}{t e d id sz bytes:Nat}{z:Value}{els els2:List (List Tr)}(ho:o.op=.call {callee:=.builtin .append,args:=#[x,y],argTypes:=#[t,t]})(hd:o.dst=some d)(ht:P.underlying t=some (.slice e))
  (hi:(P.info? e).map (fun i=>(i.zero,i.size,i.bytes))=some (some z,sz,bytes)) (hzs:z.cells.size=sz) (hx:s.ev x=.ow id) (he:s.ent id=some (.arr e sz els)) (hy:zCX s (s.ev y)=some els2) (h2:∀el,el∈els2→el.length=sz) (hne:els2≠[])
  (hlen:els.length+els2.length≤1099511627776) (hbytes:(els.length+els2.length)*bytes≤140737488355328):X P o s ⟨(zEM id s.T).set d (.ow id),setE id (.arr e sz (els++els2)) s.E⟩:=by
 intro B w0 ok0 ok σ a w hR K Q hK;obtain⟨h0,hn,hs,vs,hown,hrd⟩:=hR.core.ent id _ he;have h3:=hR.core.ev x;rw[hx]at h3;have h4:a.eval x=zK (σ id):=h3;obtain⟨A,cap2,h5,_,h6⟩:=zIP hR.core (hR.core.ev y) hy;obtain⟨g2,off2,sz2,vs2,hA,hs2,hrd2,hc2⟩:=h6 hne;have hm:0<els2.length:=List.length_pos_iff.2 hne;cases hii:P.info? e with
 |none=>rw[hii]at hi;simp at hi
 |some i=>
  have hi2:i.zero=some z∧i.size=sz∧i.bytes=bytes:=by rw[hii]at hi;simpa using hi
  have hl2:vs2.length=els2.length*sz:=by rw[←hrd2.len];exact zEO els2 sz h2
  refine wp_append_lies w x y t ho 0 e i z sz bytes ht hii hi2.1 hi2.2.1 hi2.2.2 hzs h0 (zK (σ id)) els.length vs h4 hown ⟨g2,off2,none⟩ els2.length cap2 vs2 (by rw[h5,hA]) hl2 (fun j u hu=>by rw[zCm];exact hc2 j u hu) hrd2.one hm (by unfold maxLen;omega) hbytes (Nat.zero_le _) w.heap.size rfl ?_
  intro g cap w' hown' hgrow hat hlt;rw[z0f]at hgrow hat;have hwq:∀q,q<w.heap.size→(σ id).blk≠some q→w'.heap[q]?=w.heap[q]?:=fun q hq hne=>hgrow.block q hq fun e=>hne e.symm
  have hwok:∀q,ok q→w'.heap[q]?=w.heap[q]?:=fun q hq=>hwq q (hR.core.okL q hq) fun e1=>(hR.core.blk id _ q he e1).1 hq
  have hsz:w.heap.size≤w'.heap.size:=hgrow.size;have hσ:∀j,j≠id→(fun j=>if j=id then (⟨some g,els.length+els2.length,cap⟩:Loc) else σ j) j=σ j:=fun j hj=>by simp[hj]
  have hB:∀q,(σ id).blk=some q→B.n q:=fun q hq=>by have h7:=hR.own id _ q he hq;rw[if_neg (fun hc=>by cases hc)]at h7;exact h7
  have hgB:B.n g∧¬ok g:=by
   rcases hat with h7|h7
   ·exact⟨hB g h7,(hR.core.blk id _ g he h7).1⟩
   ·rw[h7];exact⟨hR.base _ (Nat.le_refl _),fun hq=>Nat.lt_irrefl _ (hR.core.okL _ hq)⟩
  have look:=zDS id (.arr e sz (els++els2)) s.E _ he;have hfar:∀j f q,j≠id→s.ent j=some f→(σ j).blk=some q→q≠g∧(σ id).blk≠some q:=by
   intro j f q hj hf hq;have hne2:(σ id).blk≠some q:=fun e1=>hj (hR.core.inj _ _ _ _ _ hf he hq e1);refine⟨fun e1=>?_,hne2⟩;subst e1;rcases hat with h7|h7
   ·exact hne2 h7
   ·have:=(hR.core.blk j f q hf hq).2;omega
  rw[hd];refine hK _ _ ok (fun j=>if j=id then ⟨some g,els.length+els2.length,cap⟩ else σ j) ⟨⟨?_,fun q hq=>Nat.lt_of_lt_of_le (hR.core.okL q hq) hsz,hR.core.lib.mono (fun _ h=>h) hwok,fun u=>?_,fun j f hj=>?_,fun j f q hj hq=>?_,fun j k f1 f2 q hj hk q1 q2=>?_⟩,hR.defers,hR.below.grown hgrow hR.base hB,fun q hq=>hR.base q (Nat.le_trans hsz hq),hR.old,hR.fresh,fun j f q hj hq=>?_⟩
  ·rw[zMA];simpa [zFk] using hR.core.len
  ·have e0:=zCu ⟨zEM id s.T,s.E⟩ d u (.ow id);have hk:St.get ⟨(zEM id s.T).set d (.ow id),setE id (.arr e sz (els++els2)) s.E⟩ u=if d=u∧d<s.T.length then .ow id else (bif (s.get u).mid id then AV.bot else s.get u):=by
    unfold St.put St.get at e0;simp only[zFk,zKB]at e0;exact e0
   rw[hk,zMU];by_cases hdu:d=u∧d<s.T.length
   ·rw[if_pos hdu,if_pos ⟨hdu.1,Nat.lt_of_lt_of_le hdu.2 hR.core.len⟩];show _=zK _;simp[zK]
   ·rw[if_neg hdu];by_cases hd2:d=u∧d<a.tmps.size
    ·rw[if_pos hd2];have hb:s.get u=.bot:=by
      unfold St.get;rw[List.getElem?_eq_none (by omega)];rfl
     rw[hb];trivial
    ·rw[if_neg hd2];cases hmm:(s.get u).mid id with
     |true=>trivial
     |false=>exact (hR.core.tmp u).mid id (fun _ h=>h) hwok hmm hσ
  ·have h7:(setE id (.arr e sz (els++els2)) s.E).lookup j=some f:=hj;rw[look]at h7;by_cases hji:j=id
   ·rw[if_pos hji]at h7;injection h7 with h7;subst h7;simp only[hji,if_true];refine⟨h0,by simp,fun el hel=>?_,vs++vs2,?_,?_⟩
    ·rcases List.mem_append.1 hel with h8|h8
     ·exact hs el h8
     ·exact h2 el h8
    ·simpa [zK] using hown'
    ·rw[List.flatten_append];exact (hrd.mono (fun _ h=>h) hwok).app (hrd2.mono (fun _ h=>h) hwok)
   ·rw[if_neg hji]at h7;simp only[hji,if_false];refine (hR.core.ent j f h7).mono (fun _ h=>h) hwok fun q hq=>?_
    exact hwq q (hR.core.blk j f q h7 hq).2 (hfar j f q hji h7 hq).2
  ·have h7:(setE id (.arr e sz (els++els2)) s.E).lookup j=some f:=hj;rw[look]at h7;by_cases hji:j=id
   ·simp only[hji,if_true]at hq;have hqg:g=q:=by simpa using hq
    subst hqg;exact⟨hgB.2,hlt⟩
   ·rw[if_neg hji]at h7;simp only[hji,if_false]at hq;obtain⟨h8,h9⟩:=hR.core.blk j f q h7 hq;exact⟨h8,Nat.lt_of_lt_of_le h9 hsz⟩
  ·have h7:(setE id (.arr e sz (els++els2)) s.E).lookup j=some f1:=hj;have h8:(setE id (.arr e sz (els++els2)) s.E).lookup k=some f2:=hk;rw[look]at h7 h8;by_cases hji:j=id
   ·by_cases hki:k=id
    ·omega
    ·rw[if_neg hki]at h8;simp only[hji,if_true]at q1;simp only[hki,if_false]at q2;have hqg:g=q:=by simpa using q1
     subst hqg;exact absurd rfl (hfar k f2 g hki h8 q2).1
   ·rw[if_neg hji]at h7;simp only[hji,if_false]at q1;by_cases hki:k=id
    ·simp only[hki,if_true]at q2;have hqg:g=q:=by simpa using q2
     subst hqg;exact absurd rfl (hfar j f1 g hji h7 q1).1
    ·rw[if_neg hki]at h8;simp only[hki,if_false]at q2;exact hR.core.inj _ _ _ _ _ h7 h8 q1 q2
  ·have h7:(setE id (.arr e sz (els++els2)) s.E).lookup j=some f:=hj;rw[look]at h7;by_cases hji:j=id
   ·simp only[hji,if_true]at hq;have hqg:g=q:=by simpa using hq
    subst hqg;rw[if_pos hji]at h7;injection h7 with h7;subst h7;rw[if_neg (fun hc=>by cases hc)];exact hgB.1
   ·rw[if_neg hji]at h7;simp only[hji,if_false]at hq;exact hR.own j f q h7 hq
theorem z5x{o:Oper}{s:St}{x y:Operand}{t e d id sz bytes:Nat}{z:Value}{els els2:List (List Tr)}(ho:o.op=.call {callee:=.builtin .append,args:=#[x,y],argTypes:=#[t,t]})(hd:o.dst=some d)(ht:P.underlying t=some (.slice e))
  (hi:(P.info? e).map (fun i=>(i.zero,i.size,i.bytes))=some (some z,sz,bytes)) (hzs:z.cells.size=sz) (hx:s.ev x=.ow id) (he:s.ent id=some (.arr e sz els)) (hy:zCX s (s.ev y)=some els2) (h2:∀el,el∈els2→el.length=sz) (hne:els2≠[])
  (hlen:els.length+els2.length≤1099511627776) (hby:bytes≤128):X P o s ⟨(zEM id s.T).set d (.ow id),setE id (.arr e sz (els++els2)) s.E⟩:=
 z3Y ho hd ht hi hzs hx he hy h2 hne hlen (by have:=Nat.mul_le_mul hlen hby;omega)
end
section
variable {P:Program}
theorem zEP{f:FuncId}{fn:Func}(hf:P.funcs[f]?=some fn)(hn:(fn.name== "runtime.NumGoroutine")=false)(hb:fn.body.isNone=false)(args:Array Value)(w:World):(callFunc f args).run P w=.ok (.enter f args) w:=by
  have h1:¬fn.name= "runtime.NumGoroutine":=by simpa using hn
  have h2:¬fn.body=none:=by intro h;rw[h]at hb;cases hb
  simp[callFunc,hf,h1,h2]
def zLz(s:St):AV→AV
 | .ow id=>match s.entc id with
  |some (.arr _ _ els)=>.c (.sl els)
  |_=>.bot
 | .pt id off=>match s.entc id with
  |some (.box cs)=>.pe (cs.drop off)
  |_=>.bot
 | .po id sz i off=>match zBi s (.po id sz i off) with
  |some cs=>.pe cs
  |none=>.bot
 |av=>av
def zWb(ok:Nat→Prop)(σ:Nat→Loc)(s:St)(g:Nat):Prop:=ok g∨∃id e,s.ent id=some e∧(σ id).blk=some g
theorem zOz{ok:Nat→Prop}{σ:Nat→Loc}{s:St}{a:Act}{w:World}(h:Core ok σ s a w){av:AV}{y:Value}(hr:Rel ok σ w av y):Rel (zWb ok σ s) σ w (zLz s av) y:=by
 have hup:∀g,ok g→zWb ok σ s g:=fun g hg=>.inl hg;have same:∀{av:AV},Rel ok σ w av y→Rel (zWb ok σ s) σ w av y:=fun h=>h.mono0 hup fun _ _=>rfl;cases av with
 |ow id=>
  simp only[zLz];cases he:s.entc id with
  |none=>exact trivial
  |some e=>
   cases e with
   |box=>exact trivial
   |pbox=>exact trivial
   |parr=>exact trivial
   |mp=>exact trivial
   |qarr=>exact trivial
   |arr T sz els=>
    simp only;obtain⟨h0,hn,hs,vs,h1,h2⟩:=h.entc id _ he;have hy:y=zK (σ id):=hr;cases hb:(σ id).blk with
    |none=>
     have hz:els=[]:=by
      rcases Nat.eq_zero_or_pos els.length with h3|h3
      ·exact List.eq_nil_of_length_eq_zero h3
      ·obtain⟨g,hg⟩:=zMw h1 h3;rw[hb]at hg;cases hg
     subst hz;rw[hy];unfold zK;rw[hn];exact Rd.nl _ _
    |some g=>
     rw[hy];unfold zK;rw[hb,hn];refine Rd.sl g 0 els.length _ sz els (fun i j=>vs.getD (i*sz+j) undef) rfl ?_ (.inr (by obtain⟨f,hf,_⟩:=zFM he;exact⟨id,f,hf,hb⟩)) hs (fun i j c hc=>?_) (fun i j c hc=>?_)
     ·rcases h1.2 with⟨_,hv0⟩|⟨g2,cap,cur,hv,_,hg,hnc,_⟩
      ·omega
      ·unfold zK at hv;injection hv with _ _ h3;omega
     all_goals
      have hc2:∃el,els[i]?=some el∧el[j]?=some c:=by
       unfold at2 at hc;cases h3:els[i]? with
       |none=>rw[h3]at hc;cases hc
       |some el=>rw[h3]at hc;exact⟨el,rfl,hc⟩
      obtain⟨el,h3,h4⟩:=hc2;obtain⟨u,h5,h6⟩:=h2.get _ c (zKy els sz i j el c hs h3 h4);have h7:vs.getD (i*sz+j) undef=u:=by rw[List.getD_eq_getElem?_getD,h5];rfl
     ·rw[Nat.zero_add,h7];exact zMR h1 hb _ u h5
     ·rw[h7];exact h6.mono hup fun _ _=>rfl
 |pt id off=>
  simp only[zLz];cases he:s.entc id with
  |none=>exact trivial
  |some e=>
   cases e with
   |arr=>exact trivial
   |pbox=>exact trivial
   |parr=>exact trivial
   |mp=>exact trivial
   |qarr=>exact trivial
   |box cs=>
    simp only;obtain⟨g,o2,h1,h2⟩:=zMS h hr (cs:=cs.drop off) (by simp[zBi,he]);obtain⟨g2,h3,h4⟩:=(hr:Rel1 ok σ w (.pt id off) y)
    have hgg:g2=g∧off=o2:=by rw[h4]at h1;injection h1 with h1;injection h1 with h1;injection h1 with h5 h6;exact⟨h5,h6⟩
    refine⟨g,o2,.inr (by obtain⟨f,hf,_⟩:=zFM he;exact⟨id,f,hf,by rw[←hgg.1];exact h3⟩),h1,fun j c hj=>?_⟩;obtain⟨u,h5,h6⟩:=h2 j c hj;exact⟨u,h5,h6.mono hup fun _ _=>rfl⟩
 |po id sz i off=>
  simp only[zLz];cases hm:zBi s (.po id sz i off) with
  |none=>exact trivial
  |some cs=>
   simp only;obtain⟨g,o2,h1,h2⟩:=zMS h hr hm;obtain⟨g2,h3,h4⟩:=(hr:Rel1 ok σ w (.po id sz i off) y)
   have hgg:g2=g:=by rw[h4]at h1;injection h1 with h1;injection h1 with h1;injection h1 with h5 h6
   have he:∃e,s.ent id=some e:=by
    simp only[zBi]at hm;cases he:s.entc id with
    |none=>rw[he]at hm;cases hm
    |some e=>obtain⟨f,hf,_⟩:=zFM he;exact⟨f,hf⟩
   obtain⟨e,he⟩:=he;refine⟨g,o2,.inr ⟨id,e,he,by rw[←hgg];exact h3⟩,h1,fun j c hj=>?_⟩;obtain⟨u,h5,h6⟩:=h2 j c hj;exact⟨u,h5,h6.mono hup fun _ _=>rfl⟩
 |tn=>exact same hr
 |tc x r=>exact same hr
 |bot=>exact same hr
 |c t=>exact same hr
 |ag cs=>exact same hr
 |pe cs=>exact same hr
 |fn f caps=>exact same hr
 |er b=>exact same hr
 |vw id els m=>exact same hr
 |sf id z i=>exact same hr
def AV.flat:AV→Bool
 | .c t=>t.flat
 | .ag cs=>cs.all Tr.flat
 | .pe _=>false
 | .fn _ _=>false
 | .vw _ _ _=>false
 | .tc x r=>x.flat&&r.flat
 |_=>true
def zRW:List (Nat×Ent)→Bool
 |[]=>true
 |(_,.arr _ _ els)::ps=>els.flatten.all Tr.flat&&zRW ps
 |(_,_)::_=>false
theorem Rel1.flat{ok ok':Nat→Prop}{σ:Nat→Loc}{w:World}{av:AV}{y:Value}(h:Rel1 ok σ w av y)(hf:av.flat=true):Rel1 ok' σ w av y:=by
 cases av with
 |c t=>exact Rd.flat h hf
 |ag cs=>obtain⟨vs,h1,h2⟩:=h;exact⟨vs,h1,h2.flat hf⟩
 |pe cs=>cases hf
 |fn f caps=>cases hf
 |vw id els m=>cases hf
 |_=>exact h
theorem RelL.flat{ok ok':Nat→Prop}{σ:Nat→Loc}{w:World}{av:AV}{ys:List Value}(h:RelL ok σ w av ys)(hf:av.flat=true):RelL ok' σ w av ys:=by
 induction av generalizing ys with
 |tn=>cases ys<;>exact h
 |tc x r _ ih=>
  cases ys with
  |nil=>exact h.elim
  |cons y ys=>simp only[AV.flat,zh]at hf;exact⟨h.1.flat hf.1,ih h.2 hf.2⟩
 |_=>cases ys<;>exact (h:False).elim
theorem Rel.flat{ok ok':Nat→Prop}{σ:Nat→Loc}{w:World}{av:AV}{y:Value}(h:Rel ok σ w av y)(hf:av.flat=true):Rel ok' σ w av y:=by
 cases av with
 |tn=>obtain⟨vs,hy,hl⟩:=h;exact⟨vs,hy,hl.flat hf⟩
 |tc x r=>obtain⟨vs,hy,hl⟩:=h;exact⟨vs,hy,hl.flat hf⟩
 |bot=>trivial
 |c t=>exact Rel1.flat (ok:=ok) (σ:=σ) (w:=w) (av:=.c t) h hf
 |ag cs=>exact Rel1.flat (ok:=ok) (σ:=σ) (w:=w) (av:=.ag cs) h hf
 |pe cs=>cases hf
 |fn f caps=>cases hf
 |er b=>exact h
 |vw id els m=>cases hf
 |ow id=>exact h
 |sf id z i=>exact h
 |pt id off=>exact h
 |po id sz i off=>exact h
theorem zUY:∀(ne:List (Nat×Ent)),zRW ne=true→∀id e,ne.lookup id=some e→∃T sz els,e=.arr T sz els∧els.flatten.all Tr.flat=true
 |[],_,id,e,h=>by simp at h
 |(k,.box cs)::ps,hf,id,e,h=>by cases hf
 |(k,.pbox l cs)::ps,hf,id,e,h=>by cases hf
 |(k,.parr l T sz els)::ps,hf,id,e,h=>by cases hf
 |(k,.mp b kvs)::ps,hf,id,e,h=>by cases hf
 |(k,.qarr l T sz els)::ps,hf,id,e,h=>by cases hf
 |(k,.arr T sz els)::ps,hf,id,e,h=>by
  simp only[zRW,zh]at hf;simp only[List.lookup]at h;split at h
  ·injection h with h;exact⟨T,sz,els,h.symm,hf.1⟩
  ·exact zUY ps hf.2 id e h
def evL(s:St):List Operand→List AV
 |[]=>[]
 |x::xs=>s.ev x::evL s xs
def evS(s:St):List Operand→List AV
 |[]=>[]
 |x::xs=>zLz s (s.ev x)::evS s xs
theorem zSl{ok:Nat→Prop}{σ:Nat→Loc}{s:St}{a:Act}{w:World}(h:Core ok σ s a w):∀(xs:List Operand),RelA ok σ w (evL s xs) (xs.map a.eval)
 |[]=>.nil
 |x::xs=>.cons (h.ev x) (zSl h xs)
theorem z2H{ok:Nat→Prop}{σ:Nat→Loc}{s:St}{a:Act}{w:World}(h:Core ok σ s a w):∀(xs:List Operand),RelA (zWb ok σ s) σ w (evS s xs) (xs.map a.eval)
 |[]=>.nil
 |x::xs=>.cons (zOz h (h.ev x)) (z2H h xs)
theorem zSe{o:Oper}{a:Act}{w:World}{f:FuncId}{xs:Array Operand}{ts:Array TypeId}(hc:∀args w,(callFunc f args).run P w=.ok (.enter f args) w)(ho:o.op=.call {callee:=.value (.func f),args:=xs,argTypes:=ts}){K:Act→World→Prop}{Q:Exit→Act→World→Prop}
  (h:Calls P f (xs.toList.map a.eval).toArray w (fun e w'=>∃v,e=.returned v∧K (a.put o.dst v) w')):o.wp P a w K Q:=by
 unfold Oper.wp execOp;rw[ho];have e1:xs.map a.eval=(xs.toList.map a.eval).toArray:=by apply Array.ext';rw[Array.toList_map]
 simp only[resolve,Act.eval,Deferred.ofValue,Sem.run_bind,Sem.run_pure,Result.andThen_ok,invoke,hc,e1,Array.append_empty,Array.empty_append,Oper.upon];refine Calls.mono h ?_
 rintro e w' ⟨v,rfl,hK⟩;exact hK
theorem zSr{o:Oper}{s:St}{f:FuncId}{xs:Array Operand}{ts:Array TypeId}{args:List AV}{av:AV}{ne:List (Nat×Ent)}(hS:zH P f args av ne)(hc:∀args w,(callFunc f args).run P w=.ok (.enter f args) w)
  (ho:o.op=.call {callee:=.value (.func f),args:=xs,argTypes:=ts}) (ha:evL s xs.toList=args):Y1 P o s av ne:=by
 intro ok σ a w hC K Q hK;subst ha;refine zSe hc ho (Calls.mono (hS ok σ w _ hC.okL hC.lib (zSl hC xs.toList)) ?_);rintro e w' ⟨v,ok',σ',he,hn⟩;exact⟨v,he,hK v w' ok' σ' hn⟩
theorem zVE{o:Oper}{s:St}{f:FuncId}{xs:Array Operand}{ts:Array TypeId}{args:List AV}{av:AV}{ne:List (Nat×Ent)}(hS:zH P f args av ne)(hc:∀args w,(callFunc f args).run P w=.ok (.enter f args) w)
  (ho:o.op=.call {callee:=.value (.func f),args:=xs,argTypes:=ts}) (ha:evS s xs.toList=args) (hf:av.flat=true) (hf2:zRW ne=true):Y1 P o s av ne:=by
 intro ok σ a w hC K Q hK;subst ha;have hlt:∀g,zWb ok σ s g→g<w.heap.size:=by
  rintro g (hg|⟨id,e,he,hg⟩)
  ·exact hC.okL g hg
  ·exact (hC.blk id e g he hg).2
 refine zSe hc ho (Calls.mono (hS (zWb ok σ s) σ w _ hlt (hC.lib.mono (fun _ h=>.inl h) fun _ _=>rfl) (z2H hC xs.toList)) ?_);rintro e w' ⟨v,ok',σ',he,hn⟩;refine⟨v,he,hK v w' ok σ' ⟨hn.below,fun _ h=>h,fun _ h=>.inl h,fun g hg=>Nat.lt_of_lt_of_le (hC.okL g hg) hn.below.size,hn.rel.flat hf,hn.keys,hn.ids,fun id e hl=>?_,fun id e g hl hg=>?_,hn.inj,hn.np⟩⟩
 ·obtain⟨T,sz,els,h1,h2⟩:=zUY ne hf2 id e hl;subst h1;obtain⟨a1,a2,a3,vs,a4,a5⟩:=hn.ent id _ hl;exact⟨a1,a2,a3,vs,a4,a5.flat h2⟩
 ·obtain⟨b1,b2,b3⟩:=hn.blk id e g hl hg;exact⟨b1,fun h=>by have:=hC.okL g h;omega,b3⟩
end
inductive Res where
  |r0 (av:AV)
  |r1 (av:AV) (ne:List (Nat×Ent))
  |rb
  |r2 (id:Nat) (e:Ent)
inductive Cd where
  |z
  |a
  |b
  |r (id:Nat)
def Res.app(d:Nat):Res→St→St
 | .r0 av,s=>s.put d av
 | .r1 av ne,s=>⟨s.T.set d (av.shift d),zFQ d ne++s.E⟩
 | .rb,s=>s.put d .bot
 | .r2 _ _,s=>s.put d .bot
def rmE(id:Nat):List (Nat×Ent)→List (Nat×Ent)
 |[]=>[]
 |p::ps=>bif p.1==id then rmE id ps else p::rmE id ps
def app1:Cd→Option Nat→Res→St→St
 | .a,some d,r,s=>r.app d s
 | .a,none,.r2 id e,s=>⟨s.T,setE id e s.E⟩
 | .b,some d,_,s=>s.put d .bot
 | .r id,none,_,s=>⟨s.T,rmE id s.E⟩
 | .r _,some d,_,s=>s.put d .bot
 |_,_,_,s=>s
theorem zEr(id:Nat):∀(E:List (Nat×Ent))(j:Nat),(rmE id E).lookup j=if j=id then none else E.lookup j
 |[],j=>by simp[rmE]
 |(p1,p2)::ps,j=>by
  have ih:=zEr id ps j;simp only[rmE];cases hp:(p1==id) with
  |true=>
   simp only[za,ih];by_cases h:j=id
   ·simp[h]
   ·have hne:(j==p1)=false:=by
     rw[zr];intro e;exact h (e.trans (by simpa using hp))
    simp[h,List.lookup,hne]
  |false=>
   simp only[cond_false,List.lookup];cases hq:(j==p1) with
   |true=>
    have e:j=p1:=by simpa using hq
    subst e;have:¬j=id:=by simpa using hp
    simp[this]
   |false=>simpa using ih
theorem zDY(id:Nat)(e:Ent):∀(E:List (Nat×Ent))(j:Nat),(setE id e E).lookup j=if j=id then (E.lookup id).map (fun _=>e) else E.lookup j
 |[],j=>by simp[setE]
 |(p1,p2)::ps,j=>by
  have ih:=zDY id e ps j;simp only[setE];cases hp:(p1==id) with
  |true=>
   have e1:p1=id:=by simpa using hp
   subst e1;simp only[za,List.lookup];by_cases h:j=p1
   ·subst h;simp
   ·have hne:(j==p1)=false:=by rw[zr];exact h
    simp[h,hne]
  |false=>
   have hpi:¬id=p1:=fun e2=>by subst e2;simp at hp
   have hpb:(id==p1)=false:=by rw[zr];exact hpi
   simp only[cond_false,List.lookup,hpb];cases hq:(j==p1) with
   |true=>
    have e1:j=p1:=by simpa using hq
    subst e1;have:¬j=id:=fun e2=>hpi e2.symm;simp[this]
   |false=>simpa using ih
def appC:List Cd→List Oper→List Res→St→St
 |c::cs,o::os,r::rs,s=>appC cs os rs (app1 c o.dst r s)
 |c::cs,o::os,[],s=>appC cs os [] (app1 c o.dst .rb s)
 |_,_,_,s=>s
def makes(o:Oper):Bool:=
 match o.op with
 | .alloc _=>true
 | .box _ _=>true
 | .buildSlice _ _ _=>true
 | .makeSlice _ _ _=>true
 | .call _=>true
 |_=>false
def prep:List Oper→St→St
 |[],s=>s
 |o::os,s=>bif makes o then (match o.dst with
  |some d=>prep os (s.kill d)
  |none=>prep os s) else prep os s
def zHE:List (Nat×Ent)→Bool
 |[]=>true
 |p::ps=>decide (p.1<8)&&zHE ps
structure Same (s s':St):Prop where
  T:s.T=s'.T
  ent:∀id,s.ent id=s'.ent id
theorem Same.refl(s:St):Same s s:=⟨rfl,fun _=>rfl⟩
theorem Same.symm{s s':St}(h:Same s s'):Same s' s:=⟨h.T.symm,fun id=>(h.ent id).symm⟩
theorem Same.trans{a b c:St}(h:Same a b)(k:Same b c):Same a c:=⟨h.T.trans k.T,fun id=>(h.ent id).trans (k.ent id)⟩
theorem Same.le{s s':St}(h:Same s s'):Le s s':=⟨by rw[h.T];exact Nat.le_refl _,fun t=>.inr (by unfold St.get;rw[h.T]),fun id e he=>by rw[←h.ent];exact he⟩
theorem Le.refl(s:St):Le s s:=(Same.refl s).le
theorem Le.trans{a b c:St}(h:Le a b)(k:Le b c):Le a c:=
 ⟨Nat.le_trans h.len k.len,fun t=>by
  rcases h.get t with h1|h1
  ·exact .inl h1
  ·rw[h1];rcases k.get t with h2|h2
   ·exact .inl h2
   ·exact .inr h2,fun id e he=>k.ent id e (h.ent id e he)⟩
def Res.ok(r:Res):Bool:=match r with| .r1 _ ne=>zHE ne|_=>true
theorem z06{d:Nat}{ne:List (Nat×Ent)}(hk:zHE ne=true){id:Nat}(h:id / 8≠d):(zFQ d ne).lookup id=none:=by
 cases hl:(zFQ d ne).lookup id with
 |none=>rfl
 |some e=>
  obtain⟨h1,h2⟩:=zFw d ne id e hl
  exfalso
  have h3:∀(ne:List (Nat×Ent)),zHE ne=true→∀k e,ne.lookup k=some e→k<8:=by
   intro ne
   induction ne with
   |nil=>intro _ k e h;simp at h
   |cons p ps ih=>
    intro hk k e h;obtain⟨p1,p2⟩:=p;simp only[zHE,zh,decide_eq_true_eq]at hk;simp only[List.lookup]at h;split at h
    ·rename_i hkp;have:k=p1:=by simpa using hkp
     omega
    ·exact ih hk.2 k e h
  have h4:=h3 ne hk _ _ h2;omega
theorem zGO(r:Res)(d:Nat)(s:St)(hr:r.ok=true)(id:Nat)(h:id / 8≠d):(r.app d s).ent id=s.ent id:=by
 cases r with
 |r0 av=>rfl
 |rb=>rfl
 |r2 _ _=>rfl
 |r1 av ne=>unfold Res.app St.ent;simp only;rw[zF0,z06 hr h]
def Res.av(d:Nat):Res→AV
 | .r0 av=>av
 | .r1 av _=>av.shift d
 | .rb=>.bot
 | .r2 _ _=>.bot
theorem zI6(r:Res)(d:Nat)(s:St):(r.app d s).T=s.T.set d (r.av d):=by cases r<;>rfl
theorem zPs(r:Res)(d:Nat)(s s':St)(id:Nat)(h:s.ent id=s'.ent id):(r.app d s).ent id=(r.app d s').ent id:=by
 cases r with
 |r0 av=>exact h
 |rb=>exact h
 |r2 _ _=>exact h
 |r1 av ne=>
  unfold Res.app St.ent;simp only;rw[zF0,zF0];cases (zFQ d ne).lookup id with
  |some e=>rfl
  |none=>exact h
theorem z5X{r:Res}{d:Nat}{s s':St}(h:Same s s'):Same (r.app d s) (r.app d s'):=
 ⟨by rw[zI6,zI6,h.T],fun id=>zPs r d s s' id (h.ent id)⟩
theorem zXB{c:Cd}{d:Option Nat}{r:Res}{s s':St}(h:Same s s'):Same (app1 c d r s) (app1 c d r s'):=by
 have hl:∀id,s.E.lookup id=s'.E.lookup id:=h.ent;cases c with
 |z=>cases d<;>exact h
 |b=>
  cases d with
  |none=>exact h
  |some d=>exact⟨by simp[app1,St.put,h.T],h.ent⟩
 |r id=>
  cases d with
  |none=>exact⟨h.T,fun j=>by show (rmE id s.E).lookup j=(rmE id s'.E).lookup j;rw[zEr,zEr,hl]⟩
  |some d=>exact⟨by simp[app1,St.put,h.T],h.ent⟩
 |a=>
  cases d with
  |some d=>exact z5X h
  |none=>
   cases r with
   |r2 id e=>exact⟨h.T,fun j=>by show (setE id e s.E).lookup j=(setE id e s'.E).lookup j;rw[zDY,zDY,hl,hl]⟩
   |r0 av=>exact h
   |r1 av ne=>exact h
   |rb=>exact h
theorem z5Y{r r':Res}{d d':Nat}(hr:r.ok=true)(hr':r'.ok=true)(h:d≠d')(s:St):Same (r'.app d' (r.app d s)) (r.app d (r'.app d' s)):=by
 refine⟨by rw[zI6,zI6,zI6,zI6,List.set_comm _ _ h],fun id=>?_⟩;by_cases h1:id / 8=d
 ·have h2:id / 8≠d':=fun e=>h (h1.symm.trans e);rw[zGO r' d' _ hr' id h2];exact zPs r d s (r'.app d' s) id (zGO r' d' s hr' id h2).symm
 ·rw[zGO r d _ hr id h1];exact zPs r' d' (r.app d s) s id (zGO r d s hr id h1)
def Ind(od:Option Nat)(r:Res)(od':Option Nat)(r':Res):Prop:=
 r.ok=true∧r'.ok=true∧(match od,od' with
  |some d,some d'=>d≠d'
  |none,some d'=>∀id e,r=.r2 id e→id / 8≠d'
  |some d,none=>∀id e,r'=.r2 id e→id / 8≠d
  |none,none=>∀id e id' e',r=.r2 id e→r'=.r2 id' e'→id≠id')
theorem z1a{r:Res}{d id:Nat}{e:Ent}(hr:r.ok=true)(h:id / 8≠d)(s:St):Same (r.app d ⟨s.T,setE id e s.E⟩) ⟨(r.app d s).T,setE id e (r.app d s).E⟩:=by
 refine⟨by simp only[zI6],fun j=>?_⟩;have e1:∀j,(r.app d s).E.lookup j=(r.app d s).ent j:=fun j=>rfl;have e2:∀j,(St.mk s.T (setE id e s.E)).ent j=(setE id e s.E).lookup j:=fun j=>rfl;have e3:(St.mk (r.app d s).T (setE id e (r.app d s).E)).ent j=(setE id e (r.app d s).E).lookup j:=rfl;rw[e3,zDY,e1,e1,zGO r d s hr id h];by_cases h1:j=id
 ·subst h1;rw[zGO r d _ hr j h,if_pos rfl,e2,zDY,if_pos rfl];rfl
 ·rw[if_neg h1];exact zPs r d _ s j (by rw[e2,zDY,if_neg h1];rfl)
theorem z3U{c:Cd}{d d':Option Nat}{r r':Res}(hc:c=.a∨c=.z)(h:c=.a→Ind d r d' r')(s:St):Same (app1 .a d' r' (app1 c d r s)) (app1 c d r (app1 .a d' r' s)):=by
 rcases hc with rfl|rfl
 ·obtain⟨h1,h2,h3⟩:=h rfl;cases d with
  |some d=>
   cases d' with
   |some d'=>exact z5Y h1 h2 h3 s
   |none=>
    cases r' with
    |r2 id e=>exact (z1a h1 (h3 id e rfl) s).symm
    |r0 _=>exact Same.refl _
    |r1 _ _=>exact Same.refl _
    |rb=>exact Same.refl _
  |none=>
   cases d' with
   |some d'=>
    cases r with
    |r2 id e=>exact z1a h2 (h3 id e rfl) s
    |r0 _=>exact Same.refl _
    |r1 _ _=>exact Same.refl _
    |rb=>exact Same.refl _
   |none=>
    cases r with
    |r0 _=>exact Same.refl _
    |r1 _ _=>exact Same.refl _
    |rb=>exact Same.refl _
    |r2 id e=>
     cases r' with
     |r0 _=>exact Same.refl _
     |r1 _ _=>exact Same.refl _
     |rb=>exact Same.refl _
     |r2 id' e'=>
      have hne:=h3 id e id' e' rfl rfl;refine⟨rfl,fun j=>?_⟩;show (setE id' e' (setE id e s.E)).lookup j=(setE id e (setE id' e' s.E)).lookup j;simp only[zDY];by_cases h5:j=id'
      ·subst h5;have:¬j=id:=fun x=>hne x.symm;simp[this]
      ·by_cases h6:j=id
       ·subst h6;simp[h5]
       ·simp[h5,h6]
 ·cases d<;>exact Same.refl _
theorem zRJ:∀(cs:List Cd)(l:List Oper)(rs:List Res){s s':St},Same s s'→Same (appC cs l rs s) (appC cs l rs s')
 |[],_,_,_,_,h=>h
 |_::_,[],_,_,_,h=>h
 |c::cs,o::os,[],_,_,h=>zRJ cs os [] (zXB h)
 |c::cs,o::os,r::rs,_,_,h=>zRJ cs os rs (zXB h)
theorem zXA:∀(cs:List Cd)(l:List Oper)(rs:List Res)(s:St)(r':Res)(d':Option Nat),rs.length=l.length→(∀c,c∈cs→c=.a∨c=.z)→(∀(j:Nat) o r,l[j]?=some o→rs[j]?=some r→cs[j]?=some .a→Ind o.dst r d' r')→Same (app1 .a d' r' (appC cs l rs s)) (appC cs l rs (app1 .a d' r' s))
 |[],_,_,s,_,_,_,_,_=>Same.refl _
 |_::_,[],_,s,_,_,_,_,_=>Same.refl _
 |c::cs,o::os,[],s,r',d',h1,h2,h3=>by simp at h1
 |c::cs,o::os,r::rs,s,r',d',h1,h2,h3=>(zXA cs os rs _ r' d' (by simpa using h1) (fun x hx=>h2 x (by simp[hx])) fun j p q hp hq hc=>h3 (j+1) p q (by simpa using hp) (by simpa using hq) (by simpa using hc)).trans (zRJ cs os rs (z3U (h2 c (by simp)) (fun hc=>h3 0 o r rfl rfl (by rw[hc];rfl)) s))
def done(L:Nat→Bool):Nat→List Oper→List Cd
 |_,[]=>[]
 |k,_::os=>(bif L k then .a else .z)::done L (k+1) os
theorem zI4{L L':Nat→Bool}:∀(k:Nat)(l:List Oper),(∀j,k≤j→j<k+l.length→L j=L' j)→done L k l=done L' k l
 |_,[],_=>rfl
 |k,o::os,h=>by simp only[done];rw[h k (Nat.le_refl _) (by simp),zI4 (k+1) os fun j h1 h2=>h j (by omega) (by simp;omega)]
theorem zSm(L:Nat→Bool):∀(l:List Oper)(k j:Nat) c,(done L k l)[j]?=some c→c=(bif L (k+j) then .a else .z)∧j<l.length
 |[],k,j,c,h=>by simp[done]at h
 |o::os,k,0,c,h=>by simp[done]at h;subst h;exact⟨rfl,by simp⟩
 |o::os,k,j+1,c,h=>by obtain⟨h1,h2⟩:=zSm L os (k+1) j c (by simpa [done] using h);rw[show k+1+j=k+(j+1) by omega]at h1;exact⟨h1,by simp;omega⟩
theorem z2O(L:Nat→Bool):∀(k:Nat)(l:List Oper)(c:Cd),c∈done L k l→c=.a∨c=.z
 |_,[],c,h=>by cases h
 |k,_::os,c,h=>by
  simp only[done,zj]at h;rcases h with h|h
  ·cases hL:L k with
   |true=>rw[hL]at h;exact .inl h
   |false=>rw[hL]at h;exact .inr h
  ·exact z2O L (k+1) os c h
theorem zWr{L L':Nat→Bool}(i:Nat)(hi:L i=false)(hi':L' i=true)(hL:∀j,j≠i→L' j=L j):∀(l:List Oper)(k:Nat)(rs:List Res)(s:St)(o:Oper)(r:Res),l[i - k]?=some o→k≤i→rs[i - k]?=some r→rs.length=l.length→
  (∀(j:Nat) p q,l[j]?=some p→rs[j]?=some q→i - k<j→L' (k+j)=true→Ind p.dst q o.dst r)→Same (app1 .a o.dst r (appC (done L k l) l rs s)) (appC (done L' k l) l rs s)
 |[],k,rs,s,o,r,h,_,_,_,_=>by simp at h
 |p::os,k,[],s,o,r,h,hk,hr,hlen,hind=>by simp at hr
 |p::os,k,q::qs,s,o,r,h,hk,hr,hlen,hind=>by
  by_cases hik:i=k
  ·subst hik;simp at h hr;subst h hr;simp only[done,hi,hi',appC,cond_false,za];have e:done L (i+1) os=done L' (i+1) os:=zI4 _ _ fun j h1 _=>(hL j (by omega)).symm;rw[e];have e3:app1 .z p.dst q s=s:=by cases p.dst<;>rfl
   rw[e3];exact zXA _ os qs s q p.dst (by simpa using hlen) (z2O L' (i+1) os) fun j x y hx hy hc=>hind (j+1) x y (by simpa using hx) (by simpa using hy) (by omega) (by
    obtain⟨h1,_⟩:=zSm L' os (i+1) j _ hc;rw[show i+1+j=i+(j+1) by omega]at h1;cases h2:L' (i+(j+1)) with
    |true=>rfl
    |false=>rw[h2]at h1;cases h1)
  ·have e1:i - k=(i - (k+1))+1:=by omega
   rw[e1]at h hr;simp only[done,appC];rw[hL k (fun e=>hik e.symm)];exact zWr i hi hi' hL os (k+1) qs _ o r (by simpa using h) (by omega) (by simpa using hr) (by simpa using hlen) fun j x y hx hy hj hLj=>hind (j+1) x y (by simpa using hx) (by simpa using hy) (by omega) (by rw[show k+(j+1)=k+1+j by omega];exact hLj)
def Res.makes:Res→Bool
 | .r1 _ _=>true
 |_=>false
def OkR(l:List Oper)(rs:List Res):Prop:=∀(j:Nat) o r,l[j]?=some o→rs[j]?=some r→r.ok=true∧(r.makes=true→Go.Proofs.YtnjhhbcccgbbnaaGreatDoor.makes o=true)
theorem z0G(c:Cd)(d:Option Nat)(r:Res)(s:St):(app1 c d r s).T.length=s.T.length:=by cases c<;>cases d<;>cases r<;>simp[app1,zI6,St.put]
theorem z8X{s s':St}(h:Le s s')(d:Nat)(av:AV)(hl:s.T.length=s'.T.length):Le (s.put d av) (s'.put d av):=by
 refine⟨by simp[St.put,hl],fun t=>?_,h.ent⟩;rw[zCu,zCu,hl];by_cases hd:d=t∧d<s'.T.length
 ·simp only[if_pos hd];exact .inr trivial
 ·simp only[if_neg hd];exact h.get t
theorem z5V{s s':St}(h:Le s s')(d:Nat)(T:List AV)(hT:∃av,T=s'.T.set d av)(hl:s.T.length=s'.T.length)(E:List (Nat×Ent))(hE:∀id e,s.ent id=some e→E.lookup id=some e):Le (s.put d .bot) ⟨T,E⟩:=by
 obtain⟨av,rfl⟩:=hT;refine⟨by simp[St.put,hl],fun t=>?_,hE⟩;have h2:=zCu s' d t av;unfold St.put at h2;rw[zCu];by_cases hd:d=t∧d<s.T.length
 ·rw[if_pos hd];exact .inl rfl
 ·rw[if_neg hd];rcases h.get t with h1|h1
  ·exact .inl h1
  ·refine .inr ?_
   rw[h1];have h3:St.get ⟨s'.T.set d av,E⟩ t=St.get ⟨s'.T.set d av,s'.E⟩ t:=rfl;rw[h3,h2,if_neg (by rw[←hl];exact hd)]
def zVJ(l:List Oper)(s:St):Prop:=∀(j:Nat) o d,l[j]?=some o→o.dst=some d→makes o=true→∀id,id / 8=d→s.ent id=none
def Dist(l:List Oper):Prop:=∀(i j:Nat) o p d,l[i]?=some o→l[j]?=some p→o.dst=some d→p.dst=some d→i=j
theorem Dist.tail{o:Oper}{l:List Oper}(h:Dist (o::l)):Dist l:=fun i j p q d hp hq h1 h2=>by have:=h (i+1) (j+1) p q d (by simpa using hp) (by simpa using hq) h1 h2;omega
theorem zVJ.tail{o:Oper}{l:List Oper}{s:St}(h:zVJ (o::l) s):zVJ l s:=fun j p d hp=>h (j+1) p d (by simpa using hp)
theorem OkR.tail{o:Oper}{l:List Oper}{r:Res}{rs:List Res}(h:OkR (o::l) (r::rs)):OkR l rs:=fun j p q hp hq=>h (j+1) p q (by simpa using hp) (by simpa using hq)
theorem zR3{r:Res}{d:Nat}{s:St}{id:Nat}{e:Ent}(hr:r.ok=true)(hm:r.makes=true→id / 8≠d)(h:s.ent id=some e):(r.app d s).ent id=some e:=by
 cases r with
 |r0 av=>exact h
 |rb=>exact h
 |r2 _ _=>exact h
 |r1 av ne=>rw[zGO _ _ _ hr _ (hm rfl)];exact h
theorem zVJ.step{o:Oper}{l:List Oper}{s:St}(h:zVJ (o::l) s)(hd:Dist (o::l))(c:Cd)(r:Res)(hr:r.ok=true):zVJ l (app1 c o.dst r s):=by
 intro j p d hp hpd hm id hid;have h1:=h.tail j p d hp hpd hm id hid;have h1':s.E.lookup id=none:=h1;cases hod:o.dst with
 |none=>
  cases c with
  |z=>exact h1
  |b=>exact h1
  |r id2=>show (rmE id2 s.E).lookup id=none;rw[zEr,h1'];split<;>rfl
  |a=>
   cases r with
   |r0 _=>exact h1
   |r1 _ _=>exact h1
   |rb=>exact h1
   |r2 id2 e=>
    show (setE id2 e s.E).lookup id=none;rw[zDY];by_cases he:id=id2
    ·subst he;rw[if_pos rfl,h1'];rfl
    ·rw[if_neg he,h1']
 |some d2=>
  have hne:d2≠d:=fun e=>by have:=hd 0 (j+1) o p d rfl (by simpa using hp) (by rw[hod,e]) hpd;omega
  cases c with
  |z=>exact h1
  |b=>exact h1
  |r id2=>exact h1
  |a=>show (r.app d2 s).ent id=none;rw[zGO r d2 s hr id (by rw[hid];exact fun e=>hne e.symm)];exact h1
theorem z2Y(L:Nat→Bool):∀(l:List Oper)(cs:List Cd)(k:Nat)(rs:List Res)(s s':St),Le s s'→s.T.length=s'.T.length→zVJ l s→Dist l→OkR l rs→rs.length=l.length→cs.length=l.length→
  (∀(j:Nat) c o r,cs[j]?=some c→l[j]?=some o→rs[j]?=some r→match c with| .a=>L (k+j)=true| .z=>L (k+j)=false| .b=>o.dst=none→∀id e,r≠.r2 id e| .r id=>∀id2 e,r=.r2 id2 e→id2=id)→Le (appC cs l rs s) (appC (done L k l) l rs s')
 |[],cs,k,rs,s,s',h,_,_,_,_,_,hcl,_=>by
  cases cs with
  |nil=>exact h
  |cons c cs=>simp at hcl
 |o::os,[],k,rs,s,s',h,_,_,_,_,_,hcl,_=>by simp at hcl
 |o::os,c::cs,k,[],s,s',h,_,_,_,_,hrl,_,_=>by simp at hrl
 |o::os,c::cs,k,r::rs,s,s',h,hl,hc,hd,hok,hrl,hcl,hcs=>by
  have h0:=hcs 0 c o r rfl rfl rfl;have hr:=(hok 0 o r rfl rfl)
  simp only[appC,done];refine z2Y L os cs (k+1) rs _ _ ?_ (by rw[z0G,z0G];exact hl) (hc.step hd c r hr.1) hd.tail hok.tail (by simpa using hrl) (by simpa using hcl) fun j c2 o2 r2 hj ho2 hr2=>by have:=hcs (j+1) c2 o2 r2 (by simpa using hj) (by simpa using ho2) (by simpa using hr2);rw[show k+1+j=k+(j+1) by omega];exact this
  cases hod:o.dst with
  |none=>
   have hle:∀id e,s.E.lookup id=some e→s'.E.lookup id=some e:=h.ent;by_cases hw:∃id e,r=.r2 id e
   ·obtain⟨id2,e2,rfl⟩:=hw;have right:∀b:Bool,Le ⟨s.T,rmE id2 s.E⟩ (app1 (bif b then .a else .z) none (.r2 id2 e2) s'):=fun b=>by
     refine⟨by cases b<;>exact h.len,fun t=>by cases b<;>exact h.get t,fun id e he=>?_⟩;have he':(rmE id2 s.E).lookup id=some e:=he;rw[zEr]at he';split at he'
     ·cases he'
     ·rename_i hne;cases b with
      |false=>exact hle id e he'
      |true=>show (setE id2 e2 s'.E).lookup id=some e;rw[zDY,if_neg hne];exact hle id e he'
    cases c with
    |z=>have h1:L k=false:=h0;rw[h1];exact h
    |b=>exact absurd rfl (h0 hod id2 e2)
    |r id3=>have h3:id2=id3:=h0 id2 e2 rfl;subst h3;exact right (L k)
    |a=>
     have h1:L k=true:=h0;rw[h1];refine⟨h.len,h.get,fun id e he=>?_⟩;have he':(setE id2 e2 s.E).lookup id=some e:=he;show (setE id2 e2 s'.E).lookup id=some e;rw[zDY]at he' ⊢;by_cases hne:id=id2
     ·rw[if_pos hne]at he' ⊢;cases h5:s.E.lookup id2 with
      |none=>rw[h5]at he';cases he'
      |some x=>rw[h5]at he';rw[hle _ _ h5];exact he'
     ·rw[if_neg hne]at he' ⊢;exact hle id e he'
   ·have e0:∀(c:Cd),(∀id,c≠.r id)→∀s,app1 c none r s=s:=fun c hc s=>by
     cases c with
     |z=>rfl
     |b=>rfl
     |r id=>exact absurd rfl (hc id)
     |a=>
      cases r with
      |r0 _=>rfl
      |r1 _ _=>rfl
      |rb=>rfl
      |r2 id e=>exact absurd ⟨id,e,rfl⟩ hw
    rw[e0 (bif L k then .a else .z) (fun id=>by cases L k<;>(intro h;cases h))];cases c with
    |r id2=>
     refine⟨h.len,h.get,fun id e he=>?_⟩;have he':(rmE id2 s.E).lookup id=some e:=he;rw[zEr]at he';split at he'
     ·cases he'
     ·exact hle id e he'
    |z=>rw[e0 .z (fun id h=>by cases h)];exact h
    |b=>rw[e0 .b (fun id h=>by cases h)];exact h
    |a=>rw[e0 .a (fun id h=>by cases h)];exact h
  |some d=>
   have hclean:∀id e,s.ent id=some e→r.makes=true→id / 8≠d:=fun id e he hm hid=>by have:=hc 0 o d rfl hod (hr.2 hm) id hid;rw[this]at he;cases he
   cases c with
   |z=>have h1:L k=false:=h0;rw[h1];exact h
   |a=>
    have h1:L k=true:=h0;rw[h1];refine⟨?_,fun t=>?_,fun id e he=>?_⟩
    ·show (r.app d s).T.length≤(r.app d s').T.length;rw[zI6,zI6];simp[hl]
    ·have h2:=(z8X h d (r.av d) hl).get t;show (r.app d s).get t=.bot∨(r.app d s).get t=(r.app d s').get t;unfold St.get at h2 ⊢;rw[zI6,zI6];exact h2
    ·show (r.app d s').ent id=some e;have h3:(r.app d s).ent id=some e:=he;by_cases hid:id / 8=d
     ·cases r with
      |r0 av=>exact h.ent id e h3
      |rb=>exact h.ent id e h3
      |r2 _ _=>exact h.ent id e h3
      |r1 av ne=>
       unfold Res.app St.ent at h3 ⊢;simp only at h3 ⊢;rw[zF0]at h3 ⊢;cases hl2:(zFQ d ne).lookup id with
       |some e2=>rw[hl2]at h3;exact h3
       |none=>rw[hl2]at h3;exact h.ent id e h3
     ·rw[zGO r d s hr.1 id hid]at h3;rw[zGO r d s' hr.1 id hid];exact h.ent id e h3
   |b=>
    cases hLk:L k with
    |false=>
     refine⟨by simp[app1,St.put,hl],fun t=>?_,h.ent⟩;show (s.put d .bot).get t=.bot∨(s.put d .bot).get t=s'.get t;rw[zCu];by_cases hdt:d=t∧d<s.T.length
     ·rw[if_pos hdt];exact .inl rfl
     ·rw[if_neg hdt];exact h.get t
    |true=>have h4:=z5V h d (r.app d s').T ⟨_,zI6 r d s'⟩ hl (r.app d s').E fun id e he=>zR3 hr.1 (hclean id e he) (h.ent id e he);exact h4
   |r id2=>
    cases hLk:L k with
    |false=>
     refine⟨by simp[app1,St.put,hl],fun t=>?_,h.ent⟩;show (s.put d .bot).get t=.bot∨(s.put d .bot).get t=s'.get t;rw[zCu];by_cases hdt:d=t∧d<s.T.length
     ·rw[if_pos hdt];exact .inl rfl
     ·rw[if_neg hdt];exact h.get t
    |true=>have h4:=z5V h d (r.app d s').T ⟨_,zI6 r d s'⟩ hl (r.app d s').E fun id e he=>zR3 hr.1 (hclean id e he) (h.ent id e he);exact h4
theorem R.drew{B:Fr}{w0:World}{ok0 ok:Nat→Prop}{σ:Nat→Loc}{s:St}{a:Act}{w:World}(h:R B w0 ok0 ok σ s a w):R B w0 ok0 ok σ s a {w with drawn:=w.drawn+1}:=by
 have hw:∀g,ok g→({w with drawn:=w.drawn+1}:World).heap[g]?=w.heap[g]?:=fun _ _=>rfl
 exact⟨⟨h.core.len,h.core.okL,h.core.lib.mono (fun _ h=>h) hw,fun t=>(h.core.tmp t).mono0 (fun _ h=>h) hw,fun id e he=>(h.core.ent id e he).mono (fun _ h=>h) hw fun _ _=>rfl,h.core.blk,h.core.inj⟩,h.defers,h.below.drew,h.base,h.old,h.fresh,h.own⟩
theorem R.add{B:Fr}{w0:World}{ok0 ok ok':Nat→Prop}{σ σ':Nat→Loc}{s:St}{a:Act}{w w':World}(h:R B w0 ok0 ok σ s a w){d:Nat}{av:AV}{ne:List (Nat×Ent)}{v:Value}(hn:New w w' ok ok' σ' av ne v)
  (hm:∀t,(s.get t).ment d=false) (he:∀id,id / 8=d→s.ent id=none):
  ∃σ2,R B w0 ok0 ok' σ2 ((Res.r1 av ne).app d s) (a.put (some d) v) w':=by
 refine⟨_,(h.upd hn (d:=d)).le ⟨?_,fun t=>?_,fun id e hh=>?_⟩⟩
 ·simp[Res.app,St.upd,zFK]
 ·refine .inr ?_
  have e1:=zCu s d t (av.shift d);have e2:=zCu (s.kill d) d t (av.shift d);unfold St.put St.get at e1;unfold St.put St.kill St.get at e2;simp only[zFK,zIH]at e2;unfold Res.app St.upd St.get;simp only;rw[e1,e2];have h2:=hm t;unfold St.get at h2;rw[h2];rfl
 ·have h1:(zFQ d ne++s.E).lookup id=some e:=hh;show (zFQ d ne++zP5 d s.E).lookup id=some e;rw[zF0]at h1 ⊢;cases hl:(zFQ d ne).lookup id with
  |some e2=>rw[hl]at h1;exact h1
  |none=>
   rw[hl]at h1;simp only at h1 ⊢;rw[zFg];have h3:s.ent id=some e:=h1;by_cases hid:id / 8=d
   ·rw[he id hid]at h3;cases h3
   ·rw[if_neg hid];exact h1
def zRU(ms:List Nat):List Edge→Nat
 |[]=>0
 |e::es=>bif Region.binds .any e then (2 ^e.on|||ms.getD e.on 0)|||zRU ms es else zRU ms es
theorem zMx(ms:List Nat)(k:Nat):∀(es:List Edge),(zRU ms es).testBit k=true→∃e,e∈es∧Region.binds .any e=true∧(e.on=k∨(ms.getD e.on 0).testBit k=true)
 |[],h=>by simp[zRU]at h
 |e::es,h=>by
  simp only[zRU]at h;cases hb:Region.binds .any e with
  |true=>
   rw[hb]at h;simp only[za,Nat.testBit_or,Bool.or_eq_true,Nat.testBit_two_pow,decide_eq_true_eq]at h;rcases h with (h|h)|h
   ·exact⟨e,by simp,hb,.inl h⟩
   ·exact⟨e,by simp,hb,.inr h⟩
   ·obtain⟨f,h1,h2⟩:=zMx ms k es h;exact⟨f,by simp[h1],h2⟩
  |false=>rw[hb]at h;obtain⟨f,h1,h2⟩:=zMx ms k es h;exact⟨f,by simp[h1],h2⟩
def lowE(i:Nat):List Edge→Bool
 |[]=>true
 |e::es=>(!Region.binds .any e||decide (e.on<i))&&lowE i es
theorem zYE(i:Nat):∀(es:List Edge),lowE i es=true→∀e,e∈es→Region.binds .any e=true→e.on<i
 |[],_,e,h,_=>by cases h
 |f::es,h,e,he,hb=>by
  simp only[lowE,zh,Bool.or_eq_true,Bool.not_eq_true',decide_eq_true_eq]at h;cases he with
  |head=>
   rcases h.1 with h1|h1
   ·rw[h1]at hb;cases hb
   ·exact h1
  |tail _ he=>exact zYE i es h.2 e he hb
def zMc(m:Nat):Nat→Bool
 |0=>true
 |k+1=>m.testBit k&&zMc m k
theorem zLF(m:Nat):∀(n k:Nat),zMc m n=true→k<n→m.testBit k=true
 |0,_,_,h=>by omega
 |n+1,k,h,hk=>by
  simp only[zMc,zh]at h;rcases Nat.lt_or_ge k n with h1|h1
  ·exact zLF m n k h.2 h1
  ·have:k=n:=by omega
   rw[this];exact h.1
def chk1(ms:List Nat)(n1:Nat):Nat→List Oper→Bool
 |_,[]=>true
 |i,o::os=>(ms.getD i 0==zRU ms o.after.toList)&&(lowE i o.after.toList&&((decide (i<n1)||zMc (ms.getD i 0) i)&&chk1 ms n1 (i+1) os))
theorem zNF(ms:List Nat)(n1:Nat):∀(l:List Oper)(i:Nat),chk1 ms n1 i l=true→∀(j:Nat) o,l[j]?=some o→ms.getD (i+j) 0=zRU ms o.after.toList∧lowE (i+j) o.after.toList=true∧(i+j<n1∨zMc (ms.getD (i+j) 0) (i+j)=true)
 |[],_,_,j,o,h=>by simp at h
 |p::os,i,h,j,o,hj=>by
  simp only[chk1,zh,beq_iff_eq,Bool.or_eq_true,decide_eq_true_eq]at h;cases j with
  |zero=>simp at hj;subst hj;exact⟨h.1,h.2.1,h.2.2.1⟩
  |succ j=>have:=zNF ms n1 os (i+1) h.2.2.2 j o (by simpa using hj);rw[show i+1+j=i+(j+1) by omega]at this;exact this
def dsts:List Oper→List Nat
 |[]=>[]
 |o::os=>match o.dst with
  |some d=>d::dsts os
  |none=>dsts os
theorem zU4:∀(l:List Oper)(j:Nat) o d,l[j]?=some o→o.dst=some d→d∈dsts l
 |[],j,o,d,h,_=>by simp at h
 |p::os,0,o,d,h,hd=>by simp at h;subst h;simp only[dsts,hd];exact zk
 |p::os,j+1,o,d,h,hd=>by
  have ih:=zU4 os j o d (by simpa using h) hd;simp only[dsts];cases p.dst with
  |none=>exact ih
  |some x=>exact zl _ ih
theorem zWp:∀(l:List Oper),zEa (dsts l)=true→Dist l
 |[],_=>fun i j o p d h=>by simp at h
 |o::os,h=>by
  have htl:zEa (dsts os)=true∧∀d,o.dst=some d→d∉dsts os:=by
   simp only[dsts]at h;cases hd:o.dst with
   |none=>rw[hd]at h;exact⟨h,fun d hd=>by cases hd⟩
   |some d=>rw[hd]at h;simp only[zEa,zh,Bool.not_eq_true',List.contains_eq_mem,decide_eq_false_iff_not]at h;exact⟨h.2,fun x hx=>by injection hx with hx;subst hx;exact h.1⟩
  have ih:=zWp os htl.1;intro i j p q x hp hq hpx hqx;cases i with
  |zero=>
   cases j with
   |zero=>rfl
   |succ j=>simp at hp;subst hp;exact absurd (zU4 os j q x (by simpa using hq) hqx) (htl.2 x hpx)
  |succ i=>
   cases j with
   |zero=>simp at hq;subst hq;exact absurd (zU4 os i p x (by simpa using hp) hpx) (htl.2 x hqx)
   |succ j=>have:=ih i j p q x (by simpa using hp) (by simpa using hq) hpx hqx;omega
def chkC(ms:List Nat)(i:Nat):Nat→List Cd→Bool
 |_,[]=>true
 |j,.a::cs=>(ms.getD i 0).testBit j&&chkC ms i (j+1) cs
 |j,.z::cs=>(j==i||(ms.getD j 0).testBit i)&&chkC ms i (j+1) cs
 |j,.b::cs=>chkC ms i (j+1) cs
 |j,.r _::cs=>chkC ms i (j+1) cs
theorem zYW(ms:List Nat)(i:Nat):∀(cs:List Cd)(k:Nat),chkC ms i k cs=true→∀(j:Nat) c,cs[j]?=some c→match c with| .a=>(ms.getD i 0).testBit (k+j)=true| .z=>k+j=i∨(ms.getD (k+j) 0).testBit i=true|_=>True
 |[],k,_,j,c,h=>by simp at h
 |x::cs,k,h,j,c,hj=>by
  have htl:chkC ms i (k+1) cs=true:=by
   cases x with
   |a=>simp only[chkC,zh]at h;exact h.2
   |z=>simp only[chkC,zh]at h;exact h.2
   |b=>exact h
   |r id=>exact h
  cases j with
  |zero=>
   simp at hj;subst hj;cases x with
   |a=>simp only[chkC,zh]at h;exact h.1
   |z=>simp only[chkC,zh,Bool.or_eq_true,beq_iff_eq]at h;exact h.1
   |b=>trivial
   |r id=>trivial
  |succ j=>have:=zYW ms i cs (k+1) htl j c (by simpa using hj);rw[show k+1+j=k+(j+1) by omega]at this;exact this
def chk2(ms:List Nat)(n1:Nat):Nat→List (List Cd)→Bool
 |_,[]=>true
 |i,cs::css=>(cs.length==n1)&&(chkC ms i 0 cs&&chk2 ms n1 (i+1) css)
theorem zYX(ms:List Nat)(n1:Nat):∀(css:List (List Cd))(i:Nat),chk2 ms n1 i css=true→∀(j:Nat) cs,css[j]?=some cs→cs.length=n1∧chkC ms (i+j) 0 cs=true
 |[],_,_,j,cs,h=>by simp at h
 |x::css,i,h,j,cs,hj=>by
  simp only[chk2,zh,beq_iff_eq]at h;cases j with
  |zero=>simp at hj;subst hj;exact⟨h.1,h.2.1⟩
  |succ j=>have:=zYX ms n1 css (i+1) h.2.2 j cs (by simpa using hj);rw[show i+1+j=i+(j+1) by omega]at this;exact this
def zJS(l:List Oper)(ms:List Nat)(n1:Nat)(css:List (List Cd)):Bool:=
 chk1 ms n1 0 l&&(decide (n1≤l.length)&&((css.length==n1)&&(chk2 ms n1 0 css&&zEa (dsts (l.take n1)))))
def zPd(j id:Nat):List (List Cd)→Bool
 |[]=>true
 |cs::css=>(match cs[j]? with
  |some .a=>true
  |some .z=>true
  |some (.r id2)=>id2==id
  |_=>false)&&zPd j id css
theorem zZx(j id:Nat):∀(css:List (List Cd)),zPd j id css=true→∀cs,cs∈css→cs[j]?=some .a∨cs[j]?=some .z∨cs[j]?=some (.r id)
 |[],_,cs,h=>by cases h
 |c::css,h,cs,hm=>by
  simp only[zPd,zh]at h;cases hm with
  |head=>
   have h1:=h.1;cases hc:c[j]? with
   |none=>rw[hc]at h1;cases h1
   |some x=>
    rw[hc]at h1;cases x with
    |a=>exact .inl rfl
    |z=>exact .inr (.inl rfl)
    |b=>cases h1
    |r id2=>(have:id2=id:=by simpa using h1);subst this;exact .inr (.inr rfl)
  |tail _ hm=>exact zZx j id css h.2 cs hm
def mkOk(ms:List Nat)(j id:Nat):Nat→List Oper→Bool
 |_,[]=>true
 |i,o::os=>(match o.dst with|some d=>!(id / 8==d)||(ms.getD j 0).testBit i|none=>true)&&mkOk ms j id (i+1) os
theorem zYC(ms:List Nat)(j id:Nat):∀(l:List Oper)(k:Nat),mkOk ms j id k l=true→∀(i:Nat) o d,l[i]?=some o→o.dst=some d→id / 8≠d∨(ms.getD j 0).testBit (k+i)=true
 |[],k,_,i,o,d,h,_=>by simp at h
 |p::os,k,h,i,o,d,hj,hd=>by
  simp only[mkOk,zh]at h;cases i with
  |zero=>simp at hj;subst hj;have:=h.1;rw[hd]at this;simp only[Bool.or_eq_true,Bool.not_eq_true',zr]at this;exact this
  |succ i=>have:=zYC ms j id os (k+1) h.2 i o d (by simpa using hj) hd;rw[show k+1+i=k+(i+1) by omega]at this;exact this
def zG6(ms:List Nat)(j:Nat)(av:AV):Nat→List Oper→Bool
 |_,[]=>true
 |i,o::os=>(!makes o||((ms.getD j 0).testBit i||(match o.dst with|some d=>!av.ment d|none=>true)))&&zG6 ms j av (i+1) os
theorem zWd(ms:List Nat)(j:Nat)(av:AV):∀(l:List Oper)(k:Nat),zG6 ms j av k l=true→∀(i:Nat) o d,l[i]?=some o→makes o=true→o.dst=some d→(ms.getD j 0).testBit (k+i)=true∨av.ment d=false
 |[],_,_,i,o,d,h,_,_=>by simp at h
 |p::os,k,h,i,o,d,hi,hm,hd=>by
  simp only[zG6,zh,Bool.or_eq_true,Bool.not_eq_true']at h;cases i with
  |zero=>
   simp at hi;subst hi;rw[hd]at h;rcases h.1 with h1|h1|h1
   ·rw[hm]at h1;cases h1
   ·exact .inl h1
   ·exact .inr (by simpa using h1)
  |succ i=>have:=zWd ms j av os (k+1) h.2 i o d (by simpa using hi) hm hd;rw[show k+1+i=k+(i+1) by omega]at this;exact this
theorem zPY:∀(l:List Oper)(s:St),Le (prep l s) s∧(prep l s).T.length=s.T.length
 |[],s=>⟨Le.refl s,rfl⟩
 |o::os,s=>by
  have kill_le:∀d,Le (s.kill d) s∧(s.kill d).T.length=s.T.length:=fun d=>⟨⟨by simp[St.kill,zFK],fun t=>by
   unfold St.kill St.get;simp only[zIH];cases ((s.T[t]?).getD .bot).ment d with
   |true=>exact .inl rfl
   |false=>exact .inr rfl,fun id e he=>by
   unfold St.kill St.ent at he;simp only[zFg]at he;split at he
   ·cases he
   ·exact he⟩,by simp[St.kill,zFK]⟩
  simp only[prep];cases makes o with
  |false=>exact zPY os s
  |true=>
   cases o.dst with
   |none=>exact zPY os s
   |some d=>obtain⟨h1,h2⟩:=zPY os (s.kill d);exact⟨h1.trans (kill_le d).1,h2.trans (kill_le d).2⟩
theorem zSg:∀(l:List Oper)(s:St)(j:Nat)(o:Oper)(d:Nat),l[j]?=some o→o.dst=some d→makes o=true→(∀t,((prep l s).get t).ment d=false)∧∀id,id / 8=d→(prep l s).ent id=none
 |[],s,j,o,d,h,_,_=>by simp at h
 |p::os,s,j,o,d,hj,hd,hm=>by
  simp only[prep];cases j with
  |succ j=>
   cases makes p with
   |false=>exact zSg os s j o d (by simpa using hj) hd hm
   |true=>
    cases p.dst with
    |none=>exact zSg os s j o d (by simpa using hj) hd hm
    |some d2=>exact zSg os _ j o d (by simpa using hj) hd hm
  |zero=>
   simp at hj;subst hj;rw[hm,hd];simp only[za];have h1:=(zPY os (s.kill d)).1;refine⟨fun t=>?_,fun id hid=>?_⟩
   ·rcases h1.get t with h2|h2
    ·rw[h2];rfl
    ·rw[h2];unfold St.kill St.get;simp only[zIH];exact z0j d _
   ·cases h2:(prep os (s.kill d)).ent id with
    |none=>rfl
    |some e=>have h3:=h1.ent id e h2;unfold St.kill St.ent at h3;simp only[zFg]at h3;rw[if_pos hid]at h3;cases h3
theorem zUz{p:AV→Prop}(hb:p .bot):∀(cs:List Cd)(l:List Oper)(rs:List Res)(s:St),(∀t,p (s.get t))→(∀(j:Nat) o r d,cs[j]?=some .a→l[j]?=some o→rs[j]?=some r→o.dst=some d→p (r.av d))→∀t,p ((appC cs l rs s).get t)
 |[],_,_,s,h,_,t=>h t
 |_::_,[],_,s,h,_,t=>h t
 |c::cs,o::os,rs,s,h,hr,t=>by
  have step:∀(r:Res)(hrr:∀d,c=.a→o.dst=some d→p (r.av d)) t,p ((app1 c o.dst r s).get t):=by
   intro r hrr t;cases hod:o.dst with
   |none=>
    cases c with
    |z=>exact h t
    |b=>exact h t
    |r id=>exact h t
    |a=>cases r<;>exact h t
   |some d=>
    cases c with
    |z=>exact h t
    |r id=>
     show p ((s.put d .bot).get t);rw[zCu];split
     ·exact hb
     ·exact h t
    |b=>
     show p ((s.put d .bot).get t);rw[zCu];split
     ·exact hb
     ·exact h t
    |a=>
     show p ((r.app d s).get t);have h1:=zCu s d t (r.av d);unfold St.put St.get at h1;unfold St.get;rw[zI6,h1];split
     ·exact hrr d rfl hod
     ·exact h t
  cases rs with
  |nil=>exact zUz hb cs os [] _ (step .rb fun d _ _=>hb) (fun j o r d _ _ hrr=>by simp at hrr) t
  |cons r rs=>exact zUz hb cs os rs _ (step r fun d hc hod=>hr 0 o r d (by rw[hc];rfl) rfl rfl hod) (fun j o' r' d hc ho hrr hd=>hr (j+1) o' r' d (by simpa using hc) (by simpa using ho) (by simpa using hrr) hd) t
theorem zUy:∀(cs:List Cd)(l:List Oper)(rs:List Res)(s:St)(id:Nat),s.ent id=none→(∀r,r∈rs→r.ok=true)→(∀(j:Nat) o,cs[j]?=some .a→l[j]?=some o→o.dst≠some (id / 8))→(appC cs l rs s).ent id=none
 |[],_,_,s,_,h0,_,_=>h0
 |_::_,[],_,s,_,h0,_,_=>h0
 |c::cs,o::os,rs,s,id,h0,hok,h=>by
  have h0':s.E.lookup id=none:=h0;have step:∀(r:Res),r.ok=true→(app1 c o.dst r s).ent id=none:=by
   intro r hr;cases hod:o.dst with
   |none=>
    cases c with
    |z=>exact h0
    |b=>exact h0
    |r id2=>show (rmE id2 s.E).lookup id=none;rw[zEr,h0'];split<;>rfl
    |a=>
     cases r with
     |r0 _=>exact h0
     |r1 _ _=>exact h0
     |rb=>exact h0
     |r2 id2 e=>
      show (setE id2 e s.E).lookup id=none;rw[zDY];by_cases he:id=id2
      ·subst he;rw[if_pos rfl,h0'];rfl
      ·rw[if_neg he,h0']
   |some d=>
    cases c with
    |z=>exact h0
    |b=>exact h0
    |r id2=>exact h0
    |a=>refine (zGO r d s hr id fun e=>h 0 o rfl rfl ?_).trans h0;rw[hod,e]
  cases rs with
  |nil=>exact zUy cs os [] _ id (step .rb rfl) (fun r hr=>by cases hr) fun j p hc hp=>h (j+1) p (by simpa using hc) (by simpa using hp)
  |cons r rs=>exact zUy cs os rs _ id (step r (hok r (by simp))) (fun x hx=>hok x (by simp[hx])) fun j p hc hp=>h (j+1) p (by simpa using hc) (by simpa using hp)
def AV.small:AV→Bool
 | .ow k=>decide (k<8)
 | .pt k _=>decide (k<8)
 | .po k _ _ _=>decide (k<8)
 | .vw k _ _=>decide (k<8)
 | .sf k _ _=>decide (k<8)
 | .tc x r=>x.small&&r.small
 |_=>true
theorem zNv{x d:Nat}(h:x≠d):∀(av:AV),av.small=true→(av.shift x).ment d=false
 | .ow k,hs=>by simp[AV.small]at hs;simp[AV.shift,AV.ment];omega
 | .pt k _,hs=>by simp[AV.small]at hs;simp[AV.shift,AV.ment];omega
 | .po k _ _ _,hs=>by simp[AV.small]at hs;simp[AV.shift,AV.ment];omega
 | .vw k _ _,hs=>by simp[AV.small]at hs;simp[AV.shift,AV.ment];omega
 | .sf k _ _,hs=>by simp[AV.small]at hs;simp[AV.shift,AV.ment];omega
 | .tc y r,hs=>by simp only[AV.small,zh]at hs;simp[AV.shift,AV.ment,zNv h y hs.1,zNv h r hs.2]
 | .bot,_=>rfl
 | .c _,_=>rfl
 | .ag _,_=>rfl
 | .pe _,_=>rfl
 | .fn _ _,_=>rfl
 | .er _,_=>rfl
 | .tn,_=>rfl
section
variable (P:Program)
def gsat(ops:Array Oper)(o:Oper)(S:St):Prop:=o.guard=none∨∃j b t,o.guard=some (j,b)∧(ops[j]?).bind (·.dst)=some t∧S.get t=.c (.v (.bool b))
def gun(ops:Array Oper)(o:Oper)(S:St):Prop:=∃j b t,o.guard=some (j,b)∧(ops[j]?).bind (·.dst)=some t∧((∃c,S.get t=.c (.v (.bool c))∧c≠b)∨S.get t=.tn)
def z8L(ops:Array Oper)(o:Oper)(S:St)(ms:List Nat)(l1:List Oper)(j:Nat):Res→Prop
 | .r0 av=>(gsat ops o S∧Y0 P o S av∧zG6 ms j av 0 l1=true)∨(gun ops o S∧av=.tn)
 | .r1 av ne=>gsat ops o S∧Y1 P o S av ne∧zHE ne=true∧makes o=true∧av.small=true
 | .rb=>gun ops o S
 | .r2 id e=>gsat ops o S∧∀A,Le S A→X P o A ⟨A.T,setE id e A.E⟩
def W2(l1:List Oper)(ms:List Nat)(css:List (List Cd))(rs:List Res)(j:Nat)(o:Oper):Res→Prop
 | .r2 id _=>o.dst=none∧zPd j id css=true∧mkOk ms j id 0 l1=true∧∀i,i<j→∀e',rs[i]?≠some (.r2 id e')
 |_=>∃d,o.dst=some d
def Dst(l1:List Oper)(ops:Array Oper)(ms:List Nat)(css:List (List Cd))(s0:St)(rs:List Res)(j:Nat):Prop:=
 ∃o r c,l1[j]?=some o∧rs[j]?=some r∧css[j]?=some c∧z8L P ops o (appC c l1 rs s0) ms l1 j r∧W2 l1 ms css rs j o r
variable {P}
theorem zYp{ok:Nat→Prop}{σ:Nat→Loc}{s:St}{a:Act}{w:World}(h:Core ok σ s a w){ops:Array Oper}{j t:Nat}{b:Bool}(ht:(ops[j]?).bind (·.dst)=some t)(hb:s.get t=.c (.v (.bool b))):yielded ops a.tmps j=some b:=by
 have h1:=h.tmp t;rw[hb]at h1;have h2:a.tmps.getD t undef=.bool b:=by have h3:Rd ok w (.v (.bool b)) (a.tmps.getD t undef):=h1;generalize a.tmps.getD t undef=y at*;cases h3;rfl
 have h4:a.tmps[t]?=some (.bool b):=by
  rw[Array.getD_eq_getD_getElem?]at h2;cases h5:a.tmps[t]? with
  |none=>rw[h5]at h2;simp[undef]at h2
  |some y=>rw[h5]at h2;simpa using h2
 simp only[yielded,ht,Option.bind_some,h4]
theorem zG0{ok:Nat→Prop}{σ:Nat→Loc}{s:St}{a:Act}{w:World}(h:Core ok σ s a w){ops:Array Oper}{o:Oper}(hg:gsat ops o s):Region.wanted o (yielded ops a.tmps)=true:=by
 rcases hg with hg|⟨j,b,t,hg,ht,hb⟩
 ·simp[Region.wanted,hg]
 ·simp[Region.wanted,hg,zYp h ht hb]
theorem zW1{ok:Nat→Prop}{σ:Nat→Loc}{s:St}{a:Act}{w:World}(h:Core ok σ s a w){ops:Array Oper}{o:Oper}(hg:gun ops o s):Region.wanted o (yielded ops a.tmps)=false:=by
 obtain⟨j,b,t,hg,ht,⟨c,hb,hne⟩|hb⟩:=hg
 ·simp[Region.wanted,hg,zYp h ht hb,hne]
 ·have h1:=h.tmp t;rw[hb]at h1;obtain⟨vs,h2,_⟩:=h1;have h4:a.tmps[t]?=some (.tuple vs)∨a.tmps[t]?=none:=by
   rw[Array.getD_eq_getD_getElem?]at h2;cases h5:a.tmps[t]? with
   |none=>exact .inr rfl
   |some y=>rw[h5]at h2;exact .inl (by simpa using h2)
  rcases h4 with h4|h4<;>simp[Region.wanted,hg,yielded,ht,h4]
theorem z1w{l:List Oper}{ms:List Nat}{n1:Nat}(hchk:chk1 ms n1 0 l=true):∀(i:Nat),i<l.length→∀k,(ms.getD i 0).testBit k=true→k<i:=by
 intro i
 induction i using Nat.strongRecOn with
 |_ i ih=>
  intro hi k hk;have ho:l[i]?=some l[i]:=zu hi
  obtain⟨h1,h2,_⟩:=zNF ms n1 l 0 hchk i _ ho;rw[Nat.zero_add]at h1 h2;rw[h1]at hk;obtain⟨e,h3,h4,h5⟩:=zMx ms k _ hk;have h6:=zYE i _ h2 e h3 h4;rcases h5 with h5|h5
  ·omega
  ·have:=ih e.on h6 (by omega) k h5;omega
def left(n:Nat)(L:Nat→Bool):Nat:=(List.range n).countP fun i=>!L i
theorem zWt{p q:Nat→Bool}:∀(l:List Nat),(∀x,q x=true→p x=true)→∀i,i∈l→p i=true→q i=false→l.countP q<l.countP p
 |[],_,i,h,_,_=>by cases h
 |x::xs,hpq,i,h,hp,hq=>by
  rw[List.countP_cons,List.countP_cons];have hle:xs.countP q≤xs.countP p:=List.countP_mono_left fun y _=>hpq y;cases h with
  |head=>rw[hp,hq];simp;omega
  |tail _ h=>
   have:=zWt xs hpq i h hp hq;cases hqx:q x with
   |true=>rw[hpq x hqx];simp;exact this
   |false=>simp;omega
theorem zMy{n:Nat}{L:Nat→Bool}(h:left n L=0):∀i,i<n→L i=true:=by intro i hi;unfold left at h;rw[List.countP_eq_zero]at h;have:=h i (List.mem_range.2 hi);simpa using this
theorem zFb(listed:Array Bool)(i:Nat)(hi:i<listed.size)(j:Nat):(listed.setIfInBounds i true).getD j false=if j=i then true else listed.getD j false:=by
 simp only[Array.getD_eq_getD_getElem?,Array.getElem?_setIfInBounds];by_cases h:i=j
 ·subst h;simp[hi]
 ·simp[h,Ne.symm h]
theorem zP4{n i:Nat}{listed:Array Bool}(hs:listed.size=n)(hi:i<n)(h0:listed.getD i false=false):left n (fun j=>(listed.setIfInBounds i true).getD j false)<left n (fun j=>listed.getD j false):=by
 refine zWt _ (fun x hx=>?_) i (List.mem_range.2 hi) (by simp only[h0];rfl) ?_
 ·simp only[Bool.not_eq_true']at hx ⊢;rw[zFb listed i (by omega)]at hx;split at hx
  ·cases hx
  ·exact hx
 ·simp only;rw[zFb listed i (by omega)];simp
theorem zEd{l:List Oper}{listed:Array Bool}(hs:listed.size=l.length)(i:Nat):i∈Region.ready .any l.toArray listed↔listed.getD i false=false∧∃o,l[i]?=some o∧∀e,e∈o.after.toList→Region.binds .any e=true→listed.getD e.on false=true:=by
 rw[mem_ready];constructor
 ·rintro⟨h1,o,h2,h3⟩;have hlt:i<l.length:=by
   rcases Nat.lt_or_ge i l.length with h|h
   ·exact h
   ·rw[show l.toArray[i]?=l[i]? by simp,List.getElem?_eq_none h]at h2;cases h2
  refine⟨?_,o,by simpa using h2,fun e he hb=>h3 e (by simpa using he) hb⟩;rw[Array.getD_eq_getD_getElem?]at h1 ⊢;have h4:listed[i]?=some listed[i]:=Array.getElem?_eq_getElem (by omega)
  rw[h4]at h1 ⊢;exact h1
 ·rintro⟨h1,o,h2,h3⟩;have hlt:i<l.length:=by
   rcases Nat.lt_or_ge i l.length with h|h
   ·exact h
   ·rw[List.getElem?_eq_none h]at h2;cases h2
  refine⟨?_,o,by simpa using h2,fun e he hb=>h3 e (by simpa using he) hb⟩;rw[Array.getD_eq_getD_getElem?]at h1 ⊢;have h4:listed[i]?=some listed[i]:=Array.getElem?_eq_getElem (by omega)
  rw[h4]at h1 ⊢;exact h1
section
variable {l:List Oper} {ms:List Nat} {n1:Nat} {Q:Exit→Act→World→Prop}
theorem zHD(hchk:chk1 ms n1 0 l=true){listed:Array Bool}(hs:listed.size=l.length){i:Nat}(hi:i∈Region.ready .any l.toArray listed)(hcl:∀j,listed.getD j false=true→∀k,(ms.getD j 0).testBit k=true→listed.getD k false=true):
  ∀k,(ms.getD i 0).testBit k=true→listed.getD k false=true:=by
 intro k hk;obtain⟨_,o,ho,he⟩:=(zEd hs i).1 hi;have h1:=(zNF ms n1 l 0 hchk i o ho).1;rw[Nat.zero_add]at h1;rw[h1]at hk;obtain⟨e,h2,h3,h4⟩:=zMx ms k _ hk;rcases h4 with h4|h4
 ·rw[←h4];exact he e h2 h3
 ·exact hcl e.on (he e h2 h3) k h4
theorem zIO(hchk:chk1 ms n1 0 l=true){listed:Array Bool}(hs:listed.size=l.length):∀(i:Nat),i<l.length→listed.getD i false=false→Region.ready .any l.toArray listed≠[]:=by
 intro i
 induction i using Nat.strongRecOn with
 |_ i ih=>
  intro hi hl hnil;have ho:l[i]?=some l[i]:=zu hi
  have hlow:=(zNF ms n1 l 0 hchk i _ ho).2.1;rw[Nat.zero_add]at hlow;by_cases hall:∀e,e∈l[i].after.toList→Region.binds .any e=true→listed.getD e.on false=true
  ·have:i∈Region.ready .any l.toArray listed:=(zEd hs i).2 ⟨hl,_,ho,hall⟩;rw[hnil]at this;cases this
  ·obtain⟨e,h1⟩:=Classical.not_forall.1 hall;have he:e∈l[i].after.toList∧Region.binds .any e=true∧¬listed.getD e.on false=true:=by
    refine⟨?_,?_,?_⟩
    ·exact Classical.byContradiction fun h=>h1 fun h2=>absurd h2 h
    ·exact Classical.byContradiction fun h=>h1 fun _ h2=>absurd h2 h
    ·exact fun h=>h1 fun _ _=>h
   have hlt:=zYE i _ hlow e he.1 he.2.1;exact ih e.on hlt (by omega) (by simpa using he.2.2) hnil
theorem zYu(hchk:chk1 ms n1 0 l=true):∀(fuel k:Nat)(listed:Array Bool)(a:Act)(w:World),n1≤k→listed.size=l.length→(∀j,listed.getD j false=true↔j<k∧j<l.length)→(∀j,listed.getD j false=true→∀m,(ms.getD j 0).testBit m=true→listed.getD m false=true)→l.length≤k+fuel→
  wpList P l.toArray Q (l.drop k) a w→wpAny P .any l.toArray Q fuel listed a w:=by
 intro fuel
 induction fuel with
 |zero=>
  intro k listed a w hk hs hL hcl hf h;have hnil:Region.ready .any l.toArray listed=[]:=by
   rw[List.eq_nil_iff_forall_not_mem];intro i hi;obtain⟨h1,o,h2,_⟩:=(zEd hs i).1 hi;have hlt:i<l.length:=by
    rcases Nat.lt_or_ge i l.length with h3|h3
    ·exact h3
    ·rw[List.getElem?_eq_none h3]at h2;cases h2
   have:=(hL i).2 ⟨by omega,hlt⟩;rw[this]at h1;cases h1
  rw[List.drop_eq_nil_of_le (by omega)]at h;exact⟨hnil,h⟩
 |succ fuel ih=>
  intro k listed a w hk hs hL hcl hf h;refine⟨fun hnil=>?_,fun i hi=>?_⟩
  ·have hge:l.length≤k:=by
    rcases Nat.lt_or_ge k l.length with h1|h1
    ·exfalso
     refine zIO hchk hs k h1 ?_ hnil
     cases h2:listed.getD k false with
     |false=>rfl
     |true=>have:=((hL k).1 h2).1;omega
    ·exact h1
   rw[List.drop_eq_nil_of_le hge]at h;exact h
  ·have hbits:=zHD hchk hs hi hcl;obtain⟨h1,o,h2,h3⟩:=(zEd hs i).1 hi;have hlt:i<l.length:=by
    rcases Nat.lt_or_ge i l.length with h4|h4
    ·exact h4
    ·rw[List.getElem?_eq_none h4]at h2;cases h2
   have hki:k≤i:=by
    rcases Nat.lt_or_ge i k with h4|h4
    ·have:=(hL i).2 ⟨h4,hlt⟩;rw[this]at h1;cases h1
    ·exact h4
   have hik:i=k:=by
    rcases (zNF ms n1 l 0 hchk i o h2).2.2 with h4|h4
    ·omega
    ·rw[Nat.zero_add]at h4;rcases Nat.lt_or_ge k i with h5|h5
     ·have:=hbits k (zLF _ _ _ h4 h5);have:=((hL k).1 this).1;omega
     ·omega
   subst hik;have hd:l.drop i=o::l.drop (i+1):=by rw[List.drop_eq_getElem_cons hlt];congr 1;rw[zu hlt]at h2;simpa using h2
   rw[hd]at h;have hset:=zFb listed i (by omega);have hL':∀j,(listed.setIfInBounds i true).getD j false=true↔j<i+1∧j<l.length:=by
    intro j;rw[hset];by_cases hj:j=i
    ·simp[hj,hlt]
    ·rw[if_neg hj,hL];constructor<;>intro h<;>exact⟨by omega,h.2⟩
   have hcl':∀j,(listed.setIfInBounds i true).getD j false=true→∀m,(ms.getD j 0).testBit m=true→(listed.setIfInBounds i true).getD m false=true:=by
    intro j hj m hm;rw[hset]at hj ⊢;split
    ·rfl
    ·by_cases hji:j=i
     ·subst hji;exact hbits m hm
     ·rw[if_neg hji]at hj;exact hcl j hj m hm
   have next:=fun a w hh=>ih (i+1) (listed.setIfInBounds i true) a w (by omega) (by simpa using hs) hL' hcl' (by omega) hh
   unfold wpOp;rw[show l.toArray[i]?=l[i]? by simp,h2];simp only[wpList]at h;simp only;split
   ·rename_i hw;rw[if_pos hw]at h;exact h.imp (Oper.wp_mono next) id
   ·rename_i hw;rw[if_neg hw]at h;exact next _ _ h
end
end
section
variable {P:Program}
theorem z9g{l1:List Oper}{ops:Array Oper}{ms:List Nat}{css:List (List Cd)}{s0:St}{rs:List Res}{n1:Nat}(hl:l1.length=n1)(h:∀j,j<n1→Dst P l1 ops ms css s0 rs j):OkR l1 rs:=by
 intro j o r ho hr;have hj:j<n1:=by
  rcases Nat.lt_or_ge j n1 with h1|h1
  ·exact h1
  ·rw[List.getElem?_eq_none (by omega)]at ho;cases ho
 obtain⟨o2,r2,c,h1,h2,h3,h4,h5⟩:=h j hj;rw[ho]at h1;rw[hr]at h2;injection h1 with h1;injection h2 with h2;subst h1 h2;cases r with
 |r0 av=>exact⟨rfl,fun h=>by cases h⟩
 |r1 av ne=>exact⟨h4.2.2.1,fun _=>h4.2.2.2.1⟩
 |rb=>exact⟨rfl,fun h=>by cases h⟩
 |r2 id e=>exact⟨rfl,fun h=>by cases h⟩
theorem z4a{l:List Oper}{ms:List Nat}{n1:Nat}{css:List (List Cd)}{s0:St}{rs:List Res}{Q:Exit→Act→World→Prop}{B:Fr}{w0:World}{ok0:Nat→Prop}(hchk:zJS l ms n1 css=true)(hrs:rs.length=n1)(hD:∀j,j<n1→Dst P (l.take n1) l.toArray ms css s0 rs j)
  (hprep:∀(j:Nat) o d,(l.take n1)[j]?=some o→o.dst=some d→makes o=true→(∀t,(s0.get t).ment d=false)∧∀id,id / 8=d→s0.ent id=none)
  (hfin:∀ok σ a w,R B w0 ok0 ok σ (appC (done (fun _=>true) 0 (l.take n1)) (l.take n1) rs s0) a w→wpList P l.toArray Q (l.drop n1) a w):
  ∀(fuel:Nat)(listed:Array Bool)(ok:Nat→Prop)(σ:Nat→Loc)(a:Act)(w:World),listed.size=l.length→(∀j,n1≤j→listed.getD j false=false)→(∀j,listed.getD j false=true→∀m,(ms.getD j 0).testBit m=true→listed.getD m false=true)→
   left l.length (fun j=>listed.getD j false)≤fuel→R B w0 ok0 ok σ (appC (done (fun j=>listed.getD j false) 0 (l.take n1)) (l.take n1) rs s0) a w→wpAny P .any l.toArray Q fuel listed a w:=by
 simp only[zJS,zh,decide_eq_true_eq,beq_iff_eq]at hchk;obtain⟨hc1,hn1,hcl,hc2,hds⟩:=hchk;have hl1:(l.take n1).length=n1:=by simp;omega
 have hdist:Dist (l.take n1):=zWp _ hds;have hok:=z9g (P:=P) hl1 hD;have hrok:∀r,r∈rs→r.ok=true:=by
  intro r hr;obtain⟨j,hj⟩:=List.getElem?_of_mem hr;have hlt:j<(l.take n1).length:=by
   rcases Nat.lt_or_ge j rs.length with h1|h1
   ·omega
   ·rw[List.getElem?_eq_none h1]at hj;cases hj
  exact (hok j _ r (zu hlt) hj).1
 intro fuel
 induction fuel with
 |zero=>
  intro listed ok σ a w hs hT hcl2 hf hR;have hall:=zMy (Nat.le_zero.1 hf);have hn:n1=l.length:=by
   rcases Nat.lt_or_ge n1 l.length with h1|h1
   ·have h2:listed.getD n1 false=true:=hall n1 h1;rw[hT n1 (Nat.le_refl _)]at h2;cases h2
   ·omega
  have e:done (fun j=>listed.getD j false) 0 (l.take n1)=done (fun _=>true) 0 (l.take n1):=zI4 _ _ fun j _ h1=>hall j (by omega);rw[e]at hR;refine zYu hc1 0 n1 listed a w (Nat.le_refl _) hs (fun j=>⟨fun h1=>?_,fun h1=>hall j h1.2⟩) hcl2 (by omega) (hfin ok σ a w hR);rcases Nat.lt_or_ge j n1 with h2|h2
  ·exact⟨h2,by omega⟩
  ·rw[hT j h2]at h1;cases h1
 |succ fuel ih=>
  intro listed ok σ a w hs hT hcl2 hf hR;by_cases hall:∀j,j<n1→listed.getD j false=true
  ·have e:done (fun j=>listed.getD j false) 0 (l.take n1)=done (fun _=>true) 0 (l.take n1):=zI4 _ _ fun j _ h1=>hall j (by omega);rw[e]at hR;refine zYu hc1 (fuel+1) n1 listed a w (Nat.le_refl _) hs (fun j=>⟨fun h1=>?_,fun h1=>hall j h1.1⟩) hcl2 ?_ (hfin ok σ a w hR)
   ·rcases Nat.lt_or_ge j n1 with h2|h2
    ·exact⟨h2,by omega⟩
    ·rw[hT j h2]at h1;cases h1
   ·have h1:l.length - n1≤left l.length (fun j=>listed.getD j false):=by
     unfold left;have e2:List.range l.length=List.range n1++(List.range (l.length - n1)).map (fun x=>n1+x):=by rw[←List.range_add];congr 1;omega
     rw[e2,List.countP_append];have e3:List.countP (fun i=>!listed.getD i false) ((List.range (l.length - n1)).map (fun x=>n1+x))=l.length - n1:=by
      have h2:List.countP (fun i=>!listed.getD i false) ((List.range (l.length - n1)).map (fun x=>n1+x))=((List.range (l.length - n1)).map (fun x=>n1+x)).length:=by rw[List.countP_eq_length];intro x hx;obtain⟨y,_,rfl⟩:=List.mem_map.1 hx;simp only[hT (n1+y) (by omega),zf]
      rw[h2];simp
     rw[e3];omega
    omega
  ·obtain⟨i0,hi0⟩:=Classical.not_forall.1 hall;have hi0lt:i0<n1:=Classical.byContradiction fun h=>hi0 fun h2=>absurd h2 h;have hi0n:listed.getD i0 false=false:=by
    cases h:listed.getD i0 false with
    |false=>rfl
    |true=>exact absurd (fun _=>h) hi0
   refine⟨fun hnil=>absurd hnil (zIO hc1 hs i0 (by omega) hi0n),fun i hi=>?_⟩;have hbits:=zHD hc1 hs hi hcl2;obtain⟨h1,o,h2,h3⟩:=(zEd hs i).1 hi;have hlt:i<l.length:=by
    rcases Nat.lt_or_ge i l.length with h4|h4
    ·exact h4
    ·rw[List.getElem?_eq_none h4]at h2;cases h2
   have hin1:i<n1:=by
    rcases (zNF ms n1 l 0 hc1 i o h2).2.2 with h4|h4
    ·omega
    ·rw[Nat.zero_add]at h4;rcases Nat.lt_or_ge i n1 with h5|h5
     ·exact h5
     ·have:=hbits i0 (zLF _ _ _ h4 (by omega));rw[hi0n]at this;cases this
   have ho1:(l.take n1)[i]?=some o:=by rw[List.getElem?_take,if_pos hin1];exact h2
   obtain⟨o2,r,c,e1,e2,e3,hstep,hw⟩:=hD i hin1;rw[ho1]at e1;injection e1 with e1;subst e1;obtain⟨hclen,hcc⟩:=zYX ms n1 css 0 hc2 i c e3;rw[Nat.zero_add]at hcc
   -- the state on which the operation may lean
   have hlean:Le (appC c (l.take n1) rs s0) (appC (done (fun j=>listed.getD j false) 0 (l.take n1)) (l.take n1) rs s0):=by
    refine z2Y (fun j=>listed.getD j false) (l.take n1) c 0 rs s0 s0 (Le.refl _) rfl (fun j p x hp hx hm id hid=>(hprep j p x hp hx hm).2 id hid) hdist hok (by omega) (by omega) fun j cd o' r' hj ho' hr'=>?_
    have h4:=zYW ms i c 0 hcc j cd hj;have hcol:∀id e,r'=.r2 id e→c[j]?=some .a∨c[j]?=some .z∨c[j]?=some (.r id):=by
     intro id e he;have hjn:j<n1:=by
      rcases Nat.lt_or_ge j rs.length with h5|h5
      ·omega
      ·rw[List.getElem?_eq_none h5]at hr';cases hr'
     obtain⟨o3,r3,c3,f1,f2,f3,f4,f5⟩:=hD j hjn;rw[hr']at f2;injection f2 with f2;subst f2 he;exact zZx j id css f5.2.1 c (List.mem_of_getElem? e3)
    cases cd with
    |a=>simp only[Nat.zero_add]at h4 ⊢;exact hbits j h4
    |z=>
     simp only[Nat.zero_add]at h4 ⊢;cases h5:listed.getD j false with
     |false=>rfl
     |true=>
      rcases h4 with h4|h4
      ·subst h4;rw[h1]at h5;cases h5
      ·have:=hcl2 j h5 i h4;rw[h1]at this;cases this
    |b=>intro _ id e he;rcases hcol id e he with h5|h5|h5<;>(rw[hj]at h5;cases h5)
    |r id2=>
     intro id e he;rcases hcol id e he with h5|h5|h5
     ·rw[hj]at h5;cases h5
     ·rw[hj]at h5;cases h5
     ·rw[hj]at h5;injection h5 with h5;injection h5 with h5;exact h5.symm
   have hS:=(hR.le hlean).core;have hset:=zFb listed i (by omega);have hL':∀j,j≠i→(listed.setIfInBounds i true).getD j false=listed.getD j false:=fun j hj=>by rw[hset,if_neg hj]
   have hLi:(listed.setIfInBounds i true).getD i false=true:=by rw[hset,if_pos rfl]
   have hcl':∀j,(listed.setIfInBounds i true).getD j false=true→∀m,(ms.getD j 0).testBit m=true→(listed.setIfInBounds i true).getD m false=true:=by
    intro j hj m hm;rw[hset]at hj ⊢;split
    ·rfl
    ·by_cases hji:j=i
     ·subst hji;exact hbits m hm
     ·rw[if_neg hji]at hj;exact hcl2 j hj m hm
   have hleft:=zP4 hs hlt h1;have hlen2:rs.length=(l.take n1).length:=by omega
   have hsame:=zWr (L:=fun j=>listed.getD j false) (L':=fun j=>(listed.setIfInBounds i true).getD j false) i h1 hLi hL' (l.take n1) 0 rs s0 o r (by simpa using ho1) (Nat.zero_le _) (by simpa using e2) hlen2 (fun j p q hp hq hji hLj=>by
    rw[Nat.sub_zero]at hji;rw[Nat.zero_add]at hLj;have hLj:listed.getD j false=true:=by rw[←hL' j (by omega)];exact hLj
    have hjn:j<n1:=by
     rcases Nat.lt_or_ge j rs.length with h5|h5
     ·omega
     ·rw[List.getElem?_eq_none h5]at hq;cases hq
    obtain⟨o3,r3,c3,f1,f2,f3,f4,f5⟩:=hD j hjn;rw[hq]at f2;injection f2 with f2;subst f2;rw[hp]at f1;injection f1 with f1;subst f1;refine⟨hrok q (List.mem_of_getElem? hq),hrok r (List.mem_of_getElem? e2),?_⟩;cases hpd:p.dst with
    |some d=>
     cases hod:o.dst with
     |some d'=>intro e;subst e;have:=hdist j i p o d hp ho1 hpd hod;omega
     |none=>
      intro id e he;subst he;rcases zYC ms i id _ 0 hw.2.2.1 j p d hp hpd with h5|h5
      ·exact h5
      ·rw[Nat.zero_add]at h5;have:=z1w hc1 i hlt j h5;omega
    |none=>
     cases hod:o.dst with
     |some d'=>
      intro id e he;subst he;rcases zYC ms j id _ 0 f5.2.2.1 i o d' ho1 hod with h5|h5
      ·exact h5
      ·rw[Nat.zero_add]at h5;have:=hcl2 j hLj i h5;rw[h1]at this;cases this
     |none=>
      intro id e id' e' he he' hid;subst he he' hid;rcases Nat.lt_or_ge j i with h5|h5
      ·exact hw.2.2.2 j h5 e hq
      ·exact f5.2.2.2 i (by omega) e' e2)
   have next:=fun ok σ a w hh=>ih (listed.setIfInBounds i true) ok σ a w (by simpa using hs) (fun j hj=>by rw[hL' j (by omega)];exact hT j hj) hcl' (by omega) hh
   unfold wpOp;rw[show l.toArray[i]?=l[i]? by simp,h2];simp only;cases r with
   |r0 av=>
    obtain⟨d,hd⟩:∃d,o.dst=some d:=hw;rw[hd]at hsame;have hsame:Same ((Res.r0 av).app d _) _:=hsame;rcases hstep with⟨hg,hY,hm⟩|⟨hg,rfl⟩
    case inr=>rw[zW1 hS hg,if_neg (by simp),hd];exact next _ _ _ _ ((hR.put (av:=.tn) ⟨#[],rfl,trivial⟩).le (hsame.symm.le))
    rw[if_pos (zG0 hS hg)];refine .inl (hY ok σ a w hS _ Q fun v hv=>?_);rw[hd];exact next _ _ _ _ ((hR.put hv).le (hsame.symm.le))
   |r1 av ne=>
    obtain⟨hg,hY,hk,hm,hsm⟩:=hstep;obtain⟨d,hd⟩:∃d,o.dst=some d:=hw;rw[hd]at hsame;have hsame:Same ((Res.r1 av ne).app d _) _:=hsame;rw[if_pos (zG0 hS hg)];refine .inl (hY ok σ a w hS _ Q fun v w' ok' σ' hn=>?_);rw[hd];obtain⟨p1,p2⟩:=hprep i o d ho1 hd hm;obtain⟨σ2,hR2⟩:=hR.add hn (d:=d) (by
     refine zUz (p:=fun av=>av.ment d=false) rfl _ _ _ _ p1 fun j p q x hc hp hq hx=>?_
     obtain⟨hcj,_⟩:=zSm _ _ _ _ _ hc;rw[Nat.zero_add]at hcj;have hLj:listed.getD j false=true:=by
      cases h5:listed.getD j false with
      |true=>rfl
      |false=>rw[h5]at hcj;cases hcj
     have hjn:j<n1:=by
      rcases Nat.lt_or_ge j n1 with h5|h5
      ·exact h5
      ·rw[hT j h5]at hLj;cases hLj
     have hxd:x≠d:=fun e=>by subst e;have:=hdist j i p o x hp ho1 hx hd;subst this;rw[h1]at hLj;cases hLj
     obtain⟨o3,r3,c3,f1,f2,f3,f4,f5⟩:=hD j hjn;rw[hq]at f2;injection f2 with f2;subst f2;cases q with
     |rb=>rfl
     |r2 _ _=>rfl
     |r0 av2=>
      rcases f4 with f4|⟨_,f4⟩
      ·rcases zWd ms j av2 _ 0 f4.2.2 i o d ho1 hm hd with h5|h5
       ·rw[Nat.zero_add]at h5;have:=hcl2 j hLj i h5;rw[h1]at this;cases this
       ·exact h5
      ·rw[f4];rfl
     |r1 av2 ne2=>exact zNv hxd av2 f4.2.2.2.2) (fun id hid=>by
     refine zUy _ _ _ _ _ (p2 id hid) hrok fun j p hc hp hpd=>?_
     obtain⟨hcj,_⟩:=zSm _ _ _ _ _ hc;rw[Nat.zero_add]at hcj;have:=hdist j i p o d hp ho1 (by rw[hpd,hid]) hd;subst this;rw[h1]at hcj;cases hcj)
    exact next _ _ _ _ (hR2.le (hsame.symm.le))
   |r2 id e=>obtain⟨hg,hY⟩:=hstep;obtain⟨hd,_⟩:=hw;rw[hd]at hsame;have hsame:Same (⟨_,setE id e _⟩:St) _:=hsame;rw[if_pos (zG0 hS hg)];exact .inl (hY _ hlean B w0 ok0 ok σ a w hR _ Q fun a' w' ok' σ' h'=>next _ _ _ _ (h'.le hsame.symm.le))
   |rb=>obtain⟨d,hd⟩:∃d,o.dst=some d:=hw;rw[hd]at hsame;have hsame:Same (Res.rb.app d _) _:=hsame;rw[zW1 hS hstep,if_neg (by simp),hd];exact next _ _ _ _ ((hR.put (av:=.bot) trivial).le (hsame.symm.le))
end
section
variable {P:Program}
theorem zUx:∀(cs:List Cd)(l:List Oper)(rs more:List Res)(s:St),(∀k,rs.length≤k→cs[k]?≠some .a)→appC cs l rs s=appC cs l (rs++more) s
 |[],_,_,_,s,_=>by simp[appC]
 |c::cs,[],rs,more,s,_=>by cases rs<;>cases more<;>simp[appC]
 |c::cs,o::os,r::rs,more,s,h=>by simp only[List.cons_append,appC];exact zUx cs os rs more _ fun k hk=>by simpa using h (k+1) (by simpa using hk)
 |c::cs,o::os,[],more,s,h=>by
  have h0:=h 0 (Nat.le_refl _);have e:∀r,app1 c o.dst r s=app1 c o.dst .rb s:=fun r=>by
   cases c with
   |a=>exact absurd rfl h0
   |z=>cases o.dst<;>rfl
   |b=>cases o.dst<;>rfl
   |r id=>cases o.dst<;>rfl
  have ih:=fun more=>zUx cs os [] more (app1 c o.dst .rb s) fun k hk=>by simpa using h (k+1) (Nat.zero_le _)
  cases more with
  |nil=>simp
  |cons m more=>simp only[zq,appC];rw[e m];simpa using ih more
def fin:List Oper→List Res→St→St
 |o::os,r::rs,s=>fin os rs (app1 .a o.dst r s)
 |_,_,s=>s
theorem z4m:∀(l:List Oper)(rs:List Res)(k:Nat)(s:St),rs.length=l.length→appC (done (fun _=>true) k l) l rs s=fin l rs s
 |[],[],_,s,_=>rfl
 |[],_::_,_,s,h=>by simp at h
 |_::_,[],_,s,h=>by simp at h
 |o::os,r::rs,k,s,h=>by simp only[done,za,appC,fin];rw[z4m os rs (k+1) _ (by simpa using h)]
variable (P)
def DL(l:List Oper)(ms:List Nat)(n1:Nat)(css:List (List Cd))(s0:St)(rs:List Res)(K:St→Prop):Prop:=
 zJS l ms n1 css=true→∃more,(rs++more).length=n1∧(∀j,rs.length≤j→j<n1→Dst P (l.take n1) l.toArray ms css s0 (rs++more) j)∧K (fin (l.take n1) (rs++more) s0)
variable {P}
theorem z1J{l:List Oper}{ms:List Nat}{n1:Nat}{css:List (List Cd)}{s0:St}{rs:List Res}{K:St→Prop}(hn:rs.length=n1)(h:K (fin (l.take n1) rs s0)):DL P l ms n1 css s0 rs K:=
 fun _=>⟨[],by simpa using hn,fun j h1 h2=>by omega,by simpa using h⟩
theorem zSu{l:List Oper}{ms:List Nat}{n1:Nat}{css:List (List Cd)}{s0:St}{rs:List Res}{K:St→Prop}(o:Oper)(c:List Cd)(r:Res)(hlt:rs.length<n1)(ho:l[rs.length]?=some o)(hc:css[rs.length]?=some c)
  (hst:z8L P l.toArray o (appC c (l.take n1) rs s0) ms (l.take n1) rs.length r) (hw:W2 (l.take n1) ms css rs rs.length o r) (h:DL P l ms n1 css s0 (rs++[r]) K):DL P l ms n1 css s0 rs K:=by
 intro hchk;obtain⟨more,h1,h2,h3⟩:=h hchk;simp only[zJS,zh,decide_eq_true_eq,beq_iff_eq]at hchk;obtain⟨hc1,hn1,hcl,hc2,hds⟩:=hchk;have e:rs++[r]++more=rs++r::more:=by simp
 rw[e]at h1 h2 h3;refine⟨r::more,h1,fun j hj1 hj2=>?_,h3⟩;by_cases hj:j=rs.length
 ·subst hj;refine⟨o,r,c,by rw[List.getElem?_take,if_pos hlt];exact ho,by simp,hc,?_,?_⟩
  rotate_left
  ·cases r with
   |r2 id e=>obtain⟨w1,w2,w3,w4⟩:=hw;exact⟨w1,w2,w3,fun i hi e'=>by rw[List.getElem?_append_left hi];exact w4 i hi e'⟩
   |r0 _=>exact hw
   |r1 _ _=>exact hw
   |rb=>exact hw
  rw[←zUx]
  ·exact hst
  ·intro k hk hck;have h4:=zYW ms _ c 0 (zYX ms n1 css 0 hc2 _ c hc).2 k .a hck;simp only[Nat.zero_add]at h4;have:=z1w hc1 rs.length (by omega) k h4;omega
 ·exact h2 j (by simp;omega) hj2
theorem DL_0{l:List Oper}{ms:List Nat}{n1:Nat}{css:List (List Cd)}{s0:St}{rs:List Res}{K:St→Prop}{o:Oper}{c:List Cd}{av:AV}(hlt:rs.length<n1)(ho:l[rs.length]?=some o)(hc:css[rs.length]?=some c)(hg:gsat l.toArray o (appC c (l.take n1) rs s0))
  (hm:zG6 ms rs.length av 0 (l.take n1)=true) (hY:Y0 P o (appC c (l.take n1) rs s0) av) (hd:∃d,o.dst=some d) (h:DL P l ms n1 css s0 (rs++[.r0 av]) K):DL P l ms n1 css s0 rs K:=
 zSu o c (.r0 av) hlt ho hc (.inl ⟨hg,hY,hm⟩) hd h
theorem DL_1{l:List Oper}{ms:List Nat}{n1:Nat}{css:List (List Cd)}{s0:St}{rs:List Res}{K:St→Prop}{o:Oper}{c:List Cd}{av:AV}{ne:List (Nat×Ent)}(hlt:rs.length<n1)(ho:l[rs.length]?=some o)(hc:css[rs.length]?=some c)(hg:gsat l.toArray o (appC c (l.take n1) rs s0))
  (hm:zHE ne=true∧makes o=true∧av.small=true) (hY:Y1 P o (appC c (l.take n1) rs s0) av ne) (hd:∃d,o.dst=some d) (h:DL P l ms n1 css s0 (rs++[.r1 av ne]) K):DL P l ms n1 css s0 rs K:=
 zSu o c (.r1 av ne) hlt ho hc ⟨hg,hY,hm⟩ hd h
def zJR(id:Nat):List Res→Bool
 |[]=>true
 | .r2 id2 _::rs=>!(id2==id)&&zJR id rs
 |_::rs=>zJR id rs
theorem zWk(id:Nat):∀(rs:List Res),zJR id rs=true→∀(i:Nat) e',rs[i]?≠some (.r2 id e')
 |[],_,i,e',h=>by simp at h
 |r::rs,h,0,e',he=>by simp at he;subst he;simp[zJR]at h
 |r::rs,h,i+1,e',he=>by
  refine zWk id rs ?_ i e' (by simpa using he)
  cases r with
  |r2 _ _=>simp only[zJR,zh]at h;exact h.2
  |r0 _=>exact h
  |r1 _ _=>exact h
  |rb=>exact h
theorem DL_2{l:List Oper}{ms:List Nat}{n1:Nat}{css:List (List Cd)}{s0:St}{rs:List Res}{K:St→Prop}{o:Oper}{c:List Cd}{id:Nat}{e:Ent}(hlt:rs.length<n1)(ho:l[rs.length]?=some o)(hc:css[rs.length]?=some c)(hg:gsat l.toArray o (appC c (l.take n1) rs s0))
  (hY:∀A,Le (appC c (l.take n1) rs s0) A→X P o A ⟨A.T,setE id e A.E⟩) (hd:o.dst=none) (h1:zPd rs.length id css=true) (h2:mkOk ms rs.length id 0 (l.take n1)=true) (h3:zJR id rs=true) (h:DL P l ms n1 css s0 (rs++[.r2 id e]) K):DL P l ms n1 css s0 rs K:=
 zSu o c (.r2 id e) hlt ho hc ⟨hg,hY⟩ ⟨hd,h1,h2,fun i _ e'=>zWk id rs h3 i e'⟩ h
theorem zL{ops:Array Oper}{o:Oper}{S:St}(h:o.guard=none):gsat ops o S:=.inl h
theorem z3A{ops:Array Oper}{o:Oper}{S:St}{j t:Nat}{b:Bool}(h:o.guard=some (j,b))(ht:(ops[j]?).bind (·.dst)=some t)(hb:S.get t=.c (.v (.bool b))):gsat ops o S:=.inr ⟨j,b,t,h,ht,hb⟩
theorem z4d{ops:Array Oper}{o:Oper}{S:St}{j t:Nat}{b c:Bool}(h:o.guard=some (j,b))(ht:(ops[j]?).bind (·.dst)=some t)(hb:S.get t=.c (.v (.bool c)))(hne:c≠b):gun ops o S:=⟨j,b,t,h,ht,.inl ⟨c,hb,hne⟩⟩
theorem z8x{ops:Array Oper}{o:Oper}{S:St}{j t:Nat}{b:Bool}(h:o.guard=some (j,b))(ht:(ops[j]?).bind (·.dst)=some t)(hb:S.get t=.tn):gun ops o S:=⟨j,b,t,h,ht,.inr hb⟩
theorem DL_t{l:List Oper}{ms:List Nat}{n1:Nat}{css:List (List Cd)}{s0:St}{rs:List Res}{K:St→Prop}{o:Oper}{c:List Cd}(hlt:rs.length<n1)(ho:l[rs.length]?=some o)(hc:css[rs.length]?=some c)(hg:gun l.toArray o (appC c (l.take n1) rs s0))(hd:∃d,o.dst=some d)
  (h:DL P l ms n1 css s0 (rs++[.r0 .tn]) K):DL P l ms n1 css s0 rs K:=
 zSu o c (.r0 .tn) hlt ho hc (.inr ⟨hg,rfl⟩) hd h
theorem z1H{id:Nat}{l:List Oper}{s:St}{J:Exit→St→Prop}(ms:List Nat)(n1:Nat)(css:List (List Cd))(hm:P.follows .mixedOrders=true)(hchk:zJS l ms n1 css=true)
  (h:DL P l ms n1 css (prep (l.take n1) s) [] (fun s'=>XL P l.toArray (l.drop n1) s' (J .normal))):V P (.region id l.toArray true) s J:=by
 intro B w0 ok0 ok σ a w hR;obtain⟨rs,h1,h2,h3⟩:=h hchk;rw[zq]at h1 h2 h3;have hR2:=(hR.le (zPY (l.take n1) s).1).drew;have hn1:n1≤l.length:=by simp only[zJS,zh,decide_eq_true_eq]at hchk;exact hchk.2.1
 refine wp_region_any hm ?_
 have hrep:∀j,(Array.replicate l.toArray.size false).getD j false=false:=by intro j;rw[Array.getD_eq_getD_getElem?,Array.getElem?_replicate];split<;>rfl
 have hnone:done (fun j=>(Array.replicate l.toArray.size false).getD j false) 0 (l.take n1)=done (fun _=>false) 0 (l.take n1):=zI4 _ _ fun j _ _=>hrep j;have hz:∀(l:List Oper)(rs:List Res)(k:Nat)(s:St),appC (done (fun _=>false) k l) l rs s=s:=by
  intro l
  induction l with
  |nil=>intro rs k s;simp[done,appC]
  |cons o os ih=>
   intro rs k s;have e:∀r,app1 .z o.dst r s=s:=fun r=>by cases o.dst<;>rfl
   cases rs with
   |nil=>simp only[done,cond_false,appC,e];exact ih [] (k+1) s
   |cons r rs=>simp only[done,cond_false,appC,e];exact ih rs (k+1) s
 refine z4a (B:=B) (w0:=w0) (ok0:=ok0) hchk h1 (fun j hj=>h2 j (Nat.zero_le _) hj) (fun j o d ho hd hm=>zSg _ s j o d ho hd hm) (fun ok σ a w hR'=>?_) l.toArray.size _ ok σ a _ (by simp) (fun j _=>hrep j) (fun j hj=>by rw[hrep j]at hj;cases hj) ?_ ?_
 ·rw[z4m _ _ _ _ (by rw[h1];simp;omega)]at hR';exact h3 _ _ _ _ _ _ _ hR' _ fun s' a' w' ok' σ' hJ hR''=>⟨s',ok',σ',hJ,hR''⟩
 ·unfold left;refine Nat.le_trans List.countP_le_length ?_
  simp
 ·rw[hnone,hz];exact hR2
end
section
variable {P:Program}
inductive RS where
  |t (x:Nat)
  |w (x n:Nat)
def Fits(P:Program):RS→ResultVar→Prop
 | .t x,.tmp y=>x=y
 | .w x n,.cell y ty=>x=y∧wide P ty n
 |_,_=>False
inductive FitsL (P:Program):List RS→List ResultVar→Prop
  |nil:FitsL P [] []
  |cons {r v rs vs} (h:Fits P r v) (hs:FitsL P rs vs):FitsL P (r::rs) (v::vs)
def okS(s:St):RS→Bool
 | .t _=>true
 | .w x n=>match zBi s (s.get x) with
  |some cs=>decide (n≤cs.length)
  |none=>false
def okSL(s:St):List RS→Bool
 |[]=>true
 |r::rs=>okS s r&&okSL s rs
def outS(s:St)(k:Nat):RS→AV×List (Nat×Ent)
 | .t x=>out1 s k x
 | .w x n=>match zBi s (s.get x) with
  |some cs=>(.ag (cs.take n),[])
  |none=>(.bot,[])
def zGG(s:St):Nat→List RS→AV×List (Nat×Ent)
 |_,[]=>(.tn,[])
 |k,r::rs=>(.tc (outS s k r).1 (zGG s (k+1) rs).1,(outS s k r).2++(zGG s (k+1) rs).2)
def zSh(s:St):List RS→AV×List (Nat×Ent)
 |[r]=>outS s 0 r
 |rs=>zGG s 0 rs
def zIl(s:St):List RS→List Nat
 |[]=>[]
 | .t x::rs=>(match s.get x with
  | .ow id=>id::zIl s rs
  |_=>zIl s rs)
 | .w _ _::rs=>zIl s rs
def locS(σ:Nat→Loc)(s:St):RS→Loc
 | .t x=>match s.get x with
  | .ow id=>σ id
  |_=>loc0
 | .w _ _=>loc0
def zUC(σ:Nat→Loc)(s:St)(rs:List RS)(k:Nat):Loc:=
 match rs[k]? with
 |some r=>locS σ s r
 |none=>loc0
def zXs(tmps:Array Value):ResultVar→Sem Value
 | .tmp t=>pure (tmps.getD t undef)
 | .cell a t=>do loadVar t (←asAddr (tmps.getD a undef))
inductive RunAll (P:Program) (tmps:Array Value) (w:World):List ResultVar→List Value→Prop
  |nil:RunAll P tmps w [] []
  |cons {r v rs vs} (h:(zXs tmps r).run P w=.ok v w) (hs:RunAll P tmps w rs vs):RunAll P tmps w (r::rs) (v::vs)
theorem RunAll.run{tmps:Array Value}{w:World}{rs:List ResultVar}{vs:List Value}(h:RunAll P tmps w rs vs):(rs.mapM (zXs tmps)).run P w=.ok vs w:=by
 induction h with
 |nil=>simp
 |cons h hs ih=>rw[List.mapM_cons];simp only[Sem.run_bind,Sem.run_pure,Result.andThen_ok,h,ih]
theorem RunAll.len{tmps:Array Value}{w:World}{rs:List ResultVar}{vs:List Value}(h:RunAll P tmps w rs vs):rs.length=vs.length:=by
 induction h with
 |nil=>rfl
 |cons h hs ih=>simp[ih]
theorem zZO{fn:Func}{rs:List ResultVar}{vs:List Value}{tmps:Array Value}{w:World}(h:fn.results=rs.toArray)(hr:RunAll P tmps w rs vs):(results fn tmps).run P w=.ok (if h:vs.length=1 then vs[0] else .tuple vs.toArray) w:=by
 unfold results;rw[h];simp only[List.mapM_toArray];rw[Sem.run_bind];have e:∀{α β:Type}(f:α→β)(x:Sem α),(f<$>x)=(x>>=fun y=>pure (f y)):=fun _ _=>rfl;rw[e,Sem.run_bind];refine (congrArg (fun r=>Result.andThen (Result.andThen r _) _) hr.run).trans ?_
 simp only[Result.andThen_ok,Sem.run_pure];congr 1
theorem zXr{ok:Nat→Prop}{σ:Nat→Loc}{s:St}{a:Act}{w:World}(h:Core ok σ s a w){σ':Nat→Loc}:∀{rs:List RS}{vs:List ResultVar}(k:Nat),FitsL P rs vs→okSL s rs=true→(∀(j:Nat) r,rs[j]?=some r→σ' (k+j)=locS σ s r)→
  ∃xs,RunAll P a.tmps w vs xs∧RelL ok σ' w (zGG s k rs).1 xs
 |[],_,k,.nil,_,_=>⟨[],.nil,trivial⟩
 | .t x::rs,_,k,.cons (v:=.tmp y) hf hs,hok,hσ=>by
  obtain rfl:x=y:=hf;obtain⟨xs,h1,h2⟩:=zXr h (k+1) hs (by simpa [okSL,okS] using hok) (fun j r hj=>by have:=hσ (j+1) r (by simpa using hj);rw[show k+1+j=k+(j+1) by omega];exact this)
  refine⟨a.tmps.getD x undef::xs,.cons (by simp[zXs]) h1,?_,h2⟩;refine z4R h k x fun id hg=>?_
  have h3:=hσ 0 (.t x) rfl;simp only[locS,hg]at h3;exact h3
 | .w x n::rs,_,k,.cons (v:=.cell y ty) hf hs,hok,hσ=>by
  obtain⟨rfl,hwd⟩:=hf;simp only[okSL,okS,zh]at hok;obtain⟨xs,h1,h2⟩:=zXr h (k+1) hs hok.2 (fun j r hj=>by have:=hσ (j+1) r (by simpa using hj);rw[show k+1+j=k+(j+1) by omega];exact this)
  cases hm:zBi s (s.get x) with
  |none=>rw[hm]at hok;simp at hok
  |some cs=>
   rw[hm]at hok;have hn:n≤cs.length:=by simpa using hok.1
   obtain⟨g,off,h3,h4⟩:=zMS h (h.tmp x) hm;obtain⟨us,h5,h6⟩:=zIs g off (cs.take n) 0 fun j c hj=>by
    have:=h4 j c (by
     rw[List.getElem?_take]at hj;split at hj
     ·exact hj
     ·cases hj)
    simpa using this
   have hl:us.length=n:=by rw[←h5.len];simp;omega
   have h7:=zKl (P:=P) hwd (g:=g) (off:=off) hl (fun j u hu=>by simpa using h6 j u hu);refine⟨.agg us.toArray::xs,.cons ?_ h1,?_,h2⟩
   ·simp only[zXs,h3,asAddr,Sem.run_bind,Sem.run_pure,Result.andThen_ok,h7]
   ·simp only[outS,hm];exact⟨_,rfl,by simpa using h5⟩
theorem zUD(s:St):∀(rs:List RS)(k:Nat),k+rs.length≤8→∀e,e≠0→(zGG s k rs).1.ment e=false
 |[],_,_,_,_=>rfl
 |r::rs,k,hk,e,he=>by
  simp only[ze]at hk;have h1:(outS s k r).1.ment e=false:=by
   cases r with
   |t x=>exact z2u s k x (by omega) e he
   |w x n=>simp only[outS];cases zBi s (s.get x)<;>rfl
  simp only[zGG,AV.ment,h1,zUD s rs (k+1) (by omega) e he,Bool.or_self]
theorem zUE(s:St):∀(rs:List RS)(k id:Nat)(e:Ent),(zGG s k rs).2.lookup id=some e→k≤id∧id<k+rs.length∧∃x j,rs[id - k]?=some (.t x)∧s.get x=.ow j∧s.ent j=some e∧e.pin=false
 |[],k,id,e,h=>by simp[zGG]at h
 |r::rs,k,id,e,h=>by
  simp only[zGG,zF0]at h;cases h1:(outS s k r).2.lookup id with
  |some f=>
   rw[h1]at h;injection h with h;subst h;cases r with
   |t x=>obtain⟨e1,j,h2,h3⟩:=z2v s k x id f h1;subst e1;exact⟨Nat.le_refl _,by simp,x,j,by simp,h2,h3⟩
   |w x n=>simp only[outS]at h1;cases hm:zBi s (s.get x)<;>simp[hm]at h1
  |none=>rw[h1]at h;obtain⟨a1,a2,u,j,a3,a4⟩:=zUE s rs (k+1) id e h;refine⟨by omega,by simp;omega,u,j,?_,a4⟩;rw[show id - k=(id - (k+1))+1 by omega];simpa using a3
theorem zQa(s:St):∀(rs:List RS)(j x id:Nat),rs[j]?=some (.t x)→s.get x=.ow id→id∈zIl s rs
 |[],j,x,id,h,_=>by simp at h
 |r::rs,0,x,id,h,hg=>by simp at h;subst h;simp[zIl,hg]
 | .t y::rs,j+1,x,id,h,hg=>by
  have:=zQa s rs j x id (by simpa using h) hg;unfold zIl;split
  ·exact zl _ this
  ·exact this
 | .w y n::rs,j+1,x,id,h,hg=>zQa s rs j x id (by simpa using h) hg
theorem zWa(s:St):∀(rs:List RS),zEa (zIl s rs)=true→∀(i j x y id:Nat),rs[i]?=some (.t x)→rs[j]?=some (.t y)→s.get x=.ow id→s.get y=.ow id→i=j
 |[],_,i,j,x,y,id,h,_,_,_=>by simp at h
 |r::rs,hn,i,j,x,y,id,hi,hj,gx,gy=>by
  have hn2:zEa (zIl s rs)=true:=by
   cases r with
   |w z n=>exact hn
   |t z=>
    unfold zIl at hn;split at hn
    ·simp only[zEa,zh]at hn;exact hn.2
    ·exact hn
  have clash:∀(k z:Nat),r=.t z→s.get z=.ow id→∀u,rs[k]?=some (.t u)→s.get u=.ow id→False:=by intro k z hr hz u hu hgu;subst hr;have hm:=zQa s rs k u id hu hgu;simp only[zIl,hz,zEa,zh,Bool.not_eq_true',List.contains_eq_mem,decide_eq_false_iff_not]at hn;exact hn.1 hm
  cases i with
  |zero=>
   cases j with
   |zero=>rfl
   |succ j=>exact (clash j x (by simpa using hi) gx y (by simpa using hj) gy).elim
  |succ i=>
   cases j with
   |zero=>exact (clash i y (by simpa using hj) gy x (by simpa using hi) gx).elim
   |succ j=>have:=zWa s rs hn2 i j x y id (by simpa using hi) (by simpa using hj) gx gy;omega
def Post(rs:List RS)(av:AV)(ne:List (Nat×Ent))(e:Exit)(s:St):Prop:=(e=.normal∨e=.ret)∧zEa (zIl s rs)=true∧okSL s rs=true∧zSh s rs=(av,ne)
structure NewX (B:Fr) (w w':World) (ok ok':Nat→Prop) (σ':Nat→Loc) (av:AV) (ne:List (Nat×Ent)) (v:Value):Prop where
  below:BelowX B w w'
  okM:∀g,ok g→ok' g
  okN:∀g,ok' g→ok g∨w.heap.size≤g
  okL:∀g,ok' g→g<w'.heap.size
  rel:Rel ok' σ' w' av v
  keys:∀id e,ne.lookup id=some e→id<8
  ids:∀e,e≠0→av.ment e=false
  ent:∀id e,ne.lookup id=some e→zCN ok' w' (σ' id) e
  blk:∀id e g,ne.lookup id=some e→(σ' id).blk=some g→w.heap.size≤g∧¬ok' g∧g<w'.heap.size
  inj:∀i j e f g,ne.lookup i=some e→ne.lookup j=some f→(σ' i).blk=some g→(σ' j).blk=some g→i=j
  np:∀id e,ne.lookup id=some e→e.pin=false
def Ent.pinned(l:Loc):Ent→Ent
 | .box cs=>.pbox l cs
 | .arr T sz els=>.parr l T sz els
 |e=>e
def pinE(σ:Nat→Loc):List (Nat×Ent)→List (Nat×Ent)
 |[]=>[]
 |(k,e)::ps=>(k,e.pinned (σ k))::pinE σ ps
theorem zQ8(σ:Nat→Loc):∀(E:List (Nat×Ent))(id:Nat),(pinE σ E).lookup id=(E.lookup id).map (Ent.pinned (σ id))
 |[],id=>rfl
 |(k,e)::ps,id=>by
  simp only[pinE,List.lookup];cases h:id==k with
  |true=>
   have:id=k:=by simpa using h
   subst this;rfl
  |false=>exact zQ8 σ ps id
theorem zQ7{ok:Nat→Prop}{w:World}{l:Loc}{e:Ent}(h:zCN ok w l e)(hp:e.plain=true):zCN ok w l (e.pinned l):=by
 cases e with
 |box cs=>exact⟨rfl,h⟩
 |arr T sz els=>exact⟨rfl,h⟩
 |pbox l0 cs=>cases hp
 |parr l0 T sz els=>cases hp
 |mp b kvs=>cases hp
 |qarr l0 T sz els=>cases hp
theorem z2t{ok:Nat→Prop}{w:World}{l l0:Loc}{e:Ent}(h:zCN ok w l (e.pinned l0))(hp:e.plain=true):l=l0∧zCN ok w l e:=by
 cases e with
 |box cs=>exact h
 |arr T sz els=>exact h
 |pbox l1 cs=>cases hp
 |parr l1 T sz els=>cases hp
 |mp b kvs=>cases hp
 |qarr l0 T sz els=>cases hp
theorem zOJ{l:Loc}{e:Ent}(hp:e.plain=true):(e.pinned l).pin=true:=by
 cases e with
 |box cs=>rfl
 |arr T sz els=>rfl
 |pbox l0 cs=>cases hp
 |parr l0 T sz els=>cases hp
 |mp b kvs=>cases hp
 |qarr l0 T sz els=>cases hp
def exOf(σ:Nat→Loc)(E0:List (Nat×Ent))(g:Nat):Prop:=∃id e,E0.lookup id=some e∧(σ id).blk=some g
structure Held (ok:Nat→Prop) (σ:Nat→Loc) (w:World) (E0:List (Nat×Ent)):Prop where
  ent:∀id e,E0.lookup id=some e→zCN ok w (σ id) e∧e.plain=true
  blk:∀id e g,E0.lookup id=some e→(σ id).blk=some g→¬ok g∧g<w.heap.size
  inj:∀i j e f g,E0.lookup i=some e→E0.lookup j=some f→(σ i).blk=some g→(σ j).blk=some g→i=j
def zFE(P:Program)(f:FuncId)(args:List AV)(E0:List (Nat×Ent))(av:AV)(ne E1:List (Nat×Ent)):Prop:=
 ∀ok σ w vs,(∀g,ok g→g<w.heap.size)→Lb ok w→RelA ok σ w args vs→Held ok σ w E0→Calls P f vs.toArray w (fun e w'=>∃v ok' σ',e=.returned v∧NewX ⟨fun g=>w.heap.size≤g,exOf σ E0⟩ w w' ok ok' σ' av ne v∧∀id e,E1.lookup id=some e→zCN ok' w' (σ id) e)
def HasE(s:St):List (Nat×Ent)→Prop
 |[]=>True
 |(k,e)::ps=>s.ent k=some e∧HasE s ps
theorem zNG(s:St):∀(E:List (Nat×Ent))(id:Nat)(e:Ent),HasE s E→E.lookup id=some e→s.ent id=some e
 |[],id,e,_,h=>by simp at h
 |(k,f)::ps,id,e,hs,h=>by
  simp only[List.lookup]at h;cases hk:id==k with
  |true=>
   have:id=k:=by simpa using hk
   subst this;rw[hk]at h;injection h with h;subst h;exact hs.1
  |false=>rw[hk]at h;exact zNG s ps id e hs.2 h
def zI2:List (Nat×Ent)→Bool
 |[]=>true
 |p::ps=>p.2.plain&&zI2 ps
theorem zG5:∀(E:List (Nat×Ent))(id:Nat)(e:Ent),zI2 E=true→E.lookup id=some e→e.plain=true
 |[],id,e,_,h=>by simp at h
 |(k,f)::ps,id,e,hs,h=>by
  simp only[zI2,zh,Bool.not_eq_true']at hs;simp only[List.lookup]at h;cases hk:id==k with
  |true=>rw[hk]at h;injection h with h;subst h;exact hs.1
  |false=>rw[hk]at h;exact zG5 ps id e hs.2 h
def z8N(rs:List RS)(av:AV)(ne Ep:List (Nat×Ent))(e:Exit)(s:St):Prop:=Post rs av ne e s∧HasE s Ep
theorem RelA.initE{ok:Nat→Prop}{σ:Nat→Loc}{w:World}{args:List AV}{vs:List Value}(E:List (Nat×Ent))(h:RelA ok σ w args vs)(n t:Nat):
  Rel ok σ w (St.get ⟨args++List.replicate (n - args.length) .bot,E⟩ t) ((vs.toArray++Array.replicate (n - vs.toArray.size) undef).getD t undef):=h.init n t
def z6I(P:Program)(f:FuncId)(σ:Nat→Loc)(args:List AV)(E0:List (Nat×Ent))(av:AV)(ne E1:List (Nat×Ent)):Prop:=
 ∀ok w vs,(∀g,ok g→g<w.heap.size)→Lb ok w→RelA ok σ w args vs→Held ok σ w E0→Calls P f vs.toArray w (fun e w'=>∃v ok' σ',e=.returned v∧NewX ⟨fun g=>w.heap.size≤g,exOf σ E0⟩ w w' ok ok' σ' av ne v∧∀id e,E1.lookup id=some e→zCN ok' w' (σ id) e)
theorem zVK{f:FuncId}{fn:Func}{c:Code}{σ:Nat→Loc}{args:List AV}{E0 E1:List (Nat×Ent)}{av:AV}{ne:List (Nat×Ent)}{rs:List RS}{vs:List ResultVar}(hf:P.funcs[f]?=some fn)(hb:fn.body=some c)(hvs:fn.results=vs.toArray)(hfit:FitsL P rs vs)(hl:rs.length≤8)(n:Nat)(hn:fn.ntmps=n)
  (hnp:zI2 E1=true) (h:V P c ⟨args++List.replicate (n - args.length) .bot,pinE σ E0⟩ (z8N rs av ne (pinE σ E1))):z6I P f σ args E0 av ne E1:=by
 intro ok w zs hok hlib hargs hheld;refine calls_of_wp hf hb ?_
 subst hn;have look0:∀id e,(pinE σ E0).lookup id=some e→∃f,E0.lookup id=some f∧e=f.pinned (σ id):=by
  intro id e he;rw[zQ8]at he;cases h1:E0.lookup id with
  |none=>rw[h1]at he;cases he
  |some f=>rw[h1]at he;injection he with he;exact⟨f,rfl,he.symm⟩
 have hR:R ⟨fun g=>w.heap.size≤g,exOf σ E0⟩ w ok ok σ ⟨args++List.replicate (fn.ntmps - args.length) .bot,pinE σ E0⟩ {tmps:=zs.toArray++Array.replicate (fn.ntmps - zs.toArray.size) undef,defers:=[]} w:=by
  refine⟨⟨?_,hok,hlib,fun t=>hargs.initE _ fn.ntmps t,fun id e he=>?_,fun id e g he hg=>?_,fun i j e f g hi hj h1 h2=>?_⟩,rfl,BelowX.refl _ _,fun _ h=>h,fun g hg=>hg,fun g hg=>.inl hg,fun id e g he hg=>?_⟩
  ·simp[hargs.len]
  ·obtain⟨f,h1,rfl⟩:=look0 id e he;obtain⟨h2,h3⟩:=hheld.ent id f h1;exact zQ7 h2 h3
  ·obtain⟨f,h1,rfl⟩:=look0 id e he;exact hheld.blk id f g h1 hg
  ·obtain⟨f1,a1,rfl⟩:=look0 i e hi;obtain⟨f2,a2,rfl⟩:=look0 j f hj;exact hheld.inj i j f1 f2 g a1 a2 h1 h2
  ·obtain⟨f,h1,rfl⟩:=look0 id e he;obtain⟨h2,h3⟩:=hheld.ent id f h1;rw[if_pos (zOJ h3)];exact⟨id,f,h1,hg⟩
 refine wp_mono (h _ _ _ _ _ _ _ hR) ?_
 rintro e a' w' ⟨s',ok',σ',⟨⟨he,hd,hoks,ho⟩,hE⟩,hR'⟩;have hσk:∀(j:Nat) r,rs[j]?=some r→zUC σ' s' rs (0+j)=locS σ' s' r:=fun j r hj=>by unfold zUC;rw[Nat.zero_add,hj]
 obtain⟨xs,hrun,hrel⟩:=zXr (σ':=zUC σ' s' rs) hR'.core 0 hfit hoks hσk;have hlen:rs.length=vs.length:=by
  clear hrel hrun hσk ho hoks hd h hl hvs
  induction hfit with
  |nil=>rfl
  |cons _ _ ih=>simp[ih]
 have hres:=zZO hvs hrun;have hne2:∀id e,ne.lookup id=some e→(zGG s' 0 rs).2.lookup id=some e:=by
  intro id e hh
  match rs,ho with
  |[r],ho=>have h2:outS s' 0 r=(av,ne):=ho;show ((outS s' 0 r).2++[]).lookup id=some e;rw[List.append_nil,h2];exact hh
  |[],ho=>have h2:zGG s' 0 []=(av,ne):=ho;rw[h2];exact hh
  |r1::r2::rs,ho=>have h2:zGG s' 0 (r1::r2::rs)=(av,ne):=ho;rw[h2];exact hh
 have look:∀id e,ne.lookup id=some e→id<8∧∃x j,rs[id]?=some (.t x)∧s'.get x=.ow j∧s'.ent j=some e∧zUC σ' s' rs id=σ' j∧e.pin=false:=by
  intro id e hh;obtain⟨_,h2,x,j,h3,h4,h5,h7⟩:=zUE s' rs 0 id e (hne2 id e hh);have h6:rs[id]?=some (.t x):=h3
  refine⟨by omega,x,j,h6,h4,h5,?_,h7⟩;unfold zUC;rw[h6];simp only[locS,h4]
 obtain⟨v,hv,hvr⟩:∃v,(results fn a'.tmps).run P w'=.ok v w'∧Rel ok' (zUC σ' s' rs) w' av v:=by
  refine⟨_,hres,?_⟩;have hxl:=hrun.len
  match rs,ho,hrel with
  |[r],ho,hrel=>
   have h2:outS s' 0 r=(av,ne):=ho;have h1:xs.length=1:=by rw[←hxl,←hlen];rfl
   rw[dif_pos h1]
   match xs,h1,hrel with
   |[x],_,hrel=>
    have h3:=hrel.1;have h4:(outS s' 0 r).1=av:=by rw[h2]
    rw[h4]at h3;exact zMN h3
  |[],ho,hrel=>
   have h2:zGG s' 0 []=(av,ne):=ho;have h1:¬xs.length=1:=by rw[←hxl,←hlen];simp
   rw[dif_neg h1];have h4:av=.tn:=by
    have h5:(zGG s' 0 []).1=av:=by rw[h2]
    exact h5.symm
   subst h4;exact⟨_,rfl,hrel⟩
  |r1::r2::rs,ho,hrel=>
   have h2:zGG s' 0 (r1::r2::rs)=(av,ne):=ho;have h1:¬xs.length=1:=by rw[←hxl,←hlen];simp
   rw[dif_neg h1];have h4:av=.tc (outS s' 0 r1).1 (zGG s' 1 (r2::rs)).1:=by
    have h5:(zGG s' 0 (r1::r2::rs)).1=av:=by rw[h2]
    exact h5.symm
   subst h4;exact⟨_,rfl,hrel⟩
 have hment:∀e,e≠0→av.ment e=false:=by
  intro e he;have h1:=zUD s' rs 0 (by omega) e he
  match rs,ho,h1 with
  |[r],ho,h1=>have h2:outS s' 0 r=(av,ne):=ho;have h3:((outS s' 0 r).1.ment e||AV.ment e .tn)=false:=h1;rw[h2]at h3;simpa [AV.ment] using h3
  |[],ho,h1=>have h2:zGG s' 0 []=(av,ne):=ho;rw[h2]at h1;exact h1
  |r1::r2::rs,ho,h1=>have h2:zGG s' 0 (r1::r2::rs)=(av,ne):=ho;rw[h2]at h1;exact h1
 have hnew:NewX ⟨fun g=>w.heap.size≤g,exOf σ E0⟩ w w' ok ok' (zUC σ' s' rs) av ne v:=by
  refine⟨hR'.below,hR'.old,hR'.fresh,hR'.core.okL,hvr,fun id e he=>(look id e he).1,hment,fun id e he=>?_,fun id e g he hg=>?_,fun i j e f g hi hj h1 h2=>?_,fun id e he=>?_⟩
  ·obtain⟨_,t,j,h3,h4,h5,h6,_⟩:=look id e he;rw[h6];exact hR'.core.ent j e h5
  ·obtain⟨_,t,j,h3,h4,h5,h6,h7⟩:=look id e he;rw[h6]at hg;have h8:=hR'.own j e g h5 hg;rw[if_neg (by rw[h7];decide)]at h8;exact⟨h8,hR'.core.blk j e g h5 hg⟩
  ·obtain⟨_,t,p,a3,a4,a5,a6,_⟩:=look i e hi;obtain⟨_,u,q,b3,b4,b5,b6,_⟩:=look j f hj;rw[a6]at h1;rw[b6]at h2;have e1:=hR'.core.inj p q e f g a5 b5 h1 h2;subst e1;exact zWa s' rs hd i j t u p a3 b3 a4 b4
  ·obtain⟨_,t,j,h3,h4,h5,h6,h7⟩:=look id e he;exact h7
 have hend:∀id e,E1.lookup id=some e→zCN ok' w' (σ id) e:=by
  intro id e he;have h1:(pinE σ E1).lookup id=some (e.pinned (σ id)):=by rw[zQ8,he];rfl
  have h2:=hR'.core.ent id _ (zNG s' _ id _ hE h1);have h3:=zG5 E1 id e hnp he;obtain⟨h4,h5⟩:=z2t h2 h3;rw[h4]at h5;exact h5
 have hpost:bodyPost P fn (fun e w'=>∃v ok' σ',e=.returned v∧NewX ⟨fun g=>w.heap.size≤g,exOf σ E0⟩ w w' ok ok' σ' av ne v∧∀id e,E1.lookup id=some e→zCN ok' w' (σ id) e) .ret a' w':=⟨hR'.defers,v,hv,v,ok',_,rfl,hnew,hend⟩
 rcases he with rfl|rfl
 ·exact hpost
 ·exact hpost
theorem zNf{f:FuncId}{fn:Func}{c:Code}{args:List AV}{E0 E1:List (Nat×Ent)}{av:AV}{ne:List (Nat×Ent)}{rs:List RS}{vs:List ResultVar}(hf:P.funcs[f]?=some fn)(hb:fn.body=some c)(hvs:fn.results=vs.toArray)(hfit:FitsL P rs vs)(hl:rs.length≤8)(n:Nat)(hn:fn.ntmps=n)
  (hnp:zI2 E1=true) (h:∀σ,V P c ⟨args++List.replicate (n - args.length) .bot,pinE σ E0⟩ (z8N rs av ne (pinE σ E1))):zFE P f args E0 av ne E1:=
 fun ok σ w zs hok hlib hargs hheld=>zVK hf hb hvs hfit hl n hn hnp (h σ) ok w zs hok hlib hargs hheld
theorem zEA{f:FuncId}{fn:Func}{c:Code}{args:List AV}{av:AV}{ne:List (Nat×Ent)}{rs:List RS}{vs:List ResultVar}(hf:P.funcs[f]?=some fn)(hb:fn.body=some c)(hvs:fn.results=vs.toArray)(hfit:FitsL P rs vs)(hl:rs.length≤8)(n:Nat)(hn:fn.ntmps=n)
  (h:V P c ⟨args++List.replicate (n - args.length) .bot,[]⟩ (Post rs av ne)):zH P f args av ne:=by
 have h2:zFE P f args [] av ne []:=zNf hf hb hvs hfit hl n hn rfl fun σ=>z6B h fun e s hp=>⟨hp,trivial⟩
 intro ok σ w zs hok hlib hargs;refine Calls.mono (h2 ok σ w zs hok hlib hargs ⟨fun id e h=>by simp at h,fun id e g h=>by simp at h,fun i j e f g h=>by simp at h⟩) ?_
 rintro e w' ⟨v,ok',σ',he,hn,_⟩;have hb:Below w.heap.size w w':=⟨hn.below.os,hn.below.tape,hn.below.output,hn.below.size,fun k hk=>hn.below.block k (Nat.not_le_of_lt hk) fun⟨id,e,h,_⟩=>by simp at h⟩
 exact⟨v,ok',σ',he,hb,hn.okM,hn.okN,hn.okL,hn.rel,hn.keys,hn.ids,hn.ent,hn.blk,hn.inj,hn.np⟩
end
theorem zMr{n:Int}(h:n.natAbs<9223372036854775808):IntKind.i64.wrap n=n:=by rw[IntKind.wrap_i64];omega
def w64:Int→Int
 | .ofNat m=>bif Nat.blt m 9223372036854775808 then .ofNat m else IntKind.i64.wrap (.ofNat m)
 | .negSucc m=>bif Nat.blt m 9223372036854775807 then .negSucc m else IntKind.i64.wrap (.negSucc m)
theorem zNj:(n:Int)→w64 n=IntKind.i64.wrap n
 | .ofNat m=>by
  show (bif Nat.blt m 9223372036854775808 then Int.ofNat m else IntKind.i64.wrap (.ofNat m))=_;cases h:Nat.blt m 9223372036854775808 with
  |false=>exact cond_false _ _
  |true=>rw[za];exact (zMr (by have:=Nat.ble_eq.mp (show Nat.ble (m+1) 9223372036854775808=true from h);rw[Int.natAbs_ofNat'];omega)).symm
 | .negSucc m=>by
  show (bif Nat.blt m 9223372036854775807 then Int.negSucc m else IntKind.i64.wrap (.negSucc m))=_;cases h:Nat.blt m 9223372036854775807 with
  |false=>exact cond_false _ _
  |true=>rw[za];exact (zMr (by have:=Nat.ble_eq.mp (show Nat.ble (m+1) 9223372036854775807=true from h);rw[Int.natAbs_negSucc];omega)).symm
theorem zB{n:Int}(h:-9223372036854775808≤n∧n≤9223372036854775807):w64 n=n:=by rw[zNj,IntKind.wrap_i64];omega
def FU:Nat:=1000000000
def ltI:Int→Int→Bool
 | .ofNat a,.ofNat b=>Nat.blt a b
 | .ofNat _,.negSucc _=>false
 | .negSucc _,.ofNat _=>true
 | .negSucc a,.negSucc b=>Nat.blt b a
def leI:Int→Int→Bool
 | .ofNat a,.ofNat b=>Nat.ble a b
 | .ofNat _,.negSucc _=>false
 | .negSucc _,.ofNat _=>true
 | .negSucc a,.negSucc b=>Nat.ble b a
theorem zS(a b:Int):ltI a b=decide (a<b):=by rw[Bool.eq_iff_iff,qa];cases a<;>cases b<;>simp only[ltI,Nat.blt,Nat.ble_eq,Bool.false_eq_true,false_iff,true_iff,Int.ofNat_eq_natCast]<;>omega
theorem qK(a b:Int):leI a b=decide (a≤b):=by rw[Bool.eq_iff_iff,qa];cases a<;>cases b<;>simp only[leI,Nat.ble_eq,Bool.false_eq_true,false_iff,true_iff,Int.ofNat_eq_natCast]<;>omega
def mxI(a b:Int):Int:=bif ltI a b then b else a
def mnI(a b:Int):Int:=bif ltI b a then b else a
def getI{α:Type}(xs:List α)(i:Int):Option α:=bif leI 0 i then xs[i.toNat]? else none
theorem zFm{α:Type}{xs:List α}{i:Int}{x:α}(h:getI xs i=some x):0≤i∧xs[i.toNat]?=some x:=by
 unfold getI at h;rw[qK]at h;cases hd:decide (0≤i) with
 |false=>rw[hd]at h;cases h
 |true=>rw[hd]at h;exact⟨by simpa using hd,h⟩
def eqI:Int→Int→Bool
 | .ofNat a,.ofNat b=>Nat.beq a b
 | .ofNat _,.negSucc _=>false
 | .negSucc _,.ofNat _=>false
 | .negSucc a,.negSucc b=>Nat.beq a b
theorem zBD(a b:Int):eqI a b=(a==b):=by rw[Bool.eq_iff_iff,beq_iff_eq];cases a<;>cases b<;>simp only[eqI,Nat.beq_eq,Bool.false_eq_true,false_iff,Int.ofNat_eq_natCast]<;>omega
def shrI(k:IntKind)(a b:Int):Int:=a.fdiv (2 ^(min b.toNat k.bits))
def shlI(k:IntKind)(a b:Int):Int:=k.wrap (a*2 ^(min b.toNat k.bits))
def andI(k:IntKind)(a b:Int):Int:=k.wrap (BitVec.ofInt k.bits a&&& BitVec.ofInt k.bits b).toNat
def orI(k:IntKind)(a b:Int):Int:=k.wrap (BitVec.ofInt k.bits a|||BitVec.ofInt k.bits b).toNat
def xorI(k:IntKind)(a b:Int):Int:=k.wrap (BitVec.ofInt k.bits a ^^^BitVec.ofInt k.bits b).toNat
def slc(n:Nat)(l h:Int):Option Unit:=bif leI 0 l&&(leI l h&&leI h n) then some () else none
def subl{α:Type}(xs:List α)(l h:Int):List α:=(xs.drop l.toNat).take (h.toNat - l.toNat)
def nz(b:Int):Option Unit:=bif eqI b 0 then none else some ()
theorem zPZ{b:Int}{u:Unit}(h:nz b=some u):b≠0:=by unfold nz at h;intro e;subst e;cases h
def mk(l c:Int):Option Unit:=bif leI 0 l&&(leI l c&&leI c 1099511627776) then some () else none
theorem z69{l c:Int}{u:Unit}(h:mk l c=some u):0≤l∧l≤c∧c≤1099511627776:=by
 unfold mk at h;cases hb:(leI 0 l&&(leI l c&&leI c 1099511627776)) with
 |false=>rw[hb]at h;cases h
 |true=>simpa [qK] using hb
def room(n:Nat):Option Unit:=bif Nat.ble n 1099511627776 then some () else none
theorem zDd{n:Nat}{u:Unit}(h:room n=some u):n≤1099511627776:=by
 unfold room at h;cases hb:Nat.ble n 1099511627776 with
 |false=>rw[hb]at h;cases h
 |true=>exact Nat.le_of_ble_eq_true hb
theorem zA{α β:Type}{x:Option α}{f:α→Option β}{r:β}(h:x.bind f=some r):∃y,x=some y∧f y=some r:=by
 cases x with
 |none=>cases h
 |some y=>exact⟨y,rfl,h⟩
def fN{α:Type}(m:Nat)(f:Nat→α):α:=Nat.casesOn (motive:=fun _=>α) m (f 0) (fun k=>f (k+1))
theorem z8F{α:Type}(m:Nat)(f:Nat→α):fN m f=f m:=by cases m<;>rfl
def sI{α:Type}(x:Int)(f:Int→α):α:=Int.casesOn (motive:=fun _=>α) x (fun m=>fN m fun m=>f (.ofNat m)) (fun m=>fN m fun m=>f (.negSucc m))
theorem zO{α:Type}(x:Int)(f:Int→α):sI x f=f x:=by
 cases x with
 |ofNat m=>exact z8F m (fun m=>f (.ofNat m))
 |negSucc m=>exact z8F m (fun m=>f (.negSucc m))
theorem zEL{β:Type}{x:Int}{f:Int→Option β}{r:β}(h:sI x f=some r):∃y,x=y∧f y=some r:=⟨x,rfl,by rw[←zO x f];exact h⟩
theorem zCW{α:Type}{c:Bool}{x y:Option α}{r:α}(h:(bif c then x else y)=some r)(hc:c=true):x=some r:=by subst hc;exact h
theorem jB{α:Type}{c:Bool}{x y:Option α}{r:α}(h:(bif c then x else y)=some r)(hc:c=false):y=some r:=by subst hc;exact h
theorem zD{α:Type}{x y:α}(h:some x=some y):x=y:=by injection h
section
variable {P:Program}
@[reducible] def I (n:Int):AV:=.c (.v (.int .i64 n))
@[reducible] def Bo (b:Bool):AV:=.c (.v (.bool b))
@[reducible] def Ti (n:Int):Tr:=.v (.int .i64 n)
@[reducible] def Tb (b:Bool):Tr:=.v (.bool b)
theorem z5r{o:Oper}{s:St}{x y:Operand}{t t2:TypeId}{a b:Int}(ho:o.op=.binOp .add t x y t2)(hx:s.ev x=.c (.v (.int .i64 a)))(hy:s.ev y=.c (.v (.int .i64 b))):Y0 P o s (I (w64 (a+b))):=by rw[zNj];exact z5s ho hx hy
theorem z57{o:Oper}{s:St}{x y:Operand}{t t2:TypeId}{a b:Int}(ho:o.op=.binOp .sub t x y t2)(hx:s.ev x=.c (.v (.int .i64 a)))(hy:s.ev y=.c (.v (.int .i64 b))):Y0 P o s (I (w64 (a - b))):=by rw[zNj];exact z58 ho hx hy
theorem z5c{o:Oper}{s:St}{x y:Operand}{t t2:TypeId}{a b:Int}(ho:o.op=.binOp .mul t x y t2)(hx:s.ev x=.c (.v (.int .i64 a)))(hy:s.ev y=.c (.v (.int .i64 b))):Y0 P o s (I (w64 (a*b))):=by rw[zNj];exact z5d ho hx hy
theorem jM{o:Oper}{s:St}{x y:Operand}{t t2:TypeId}{a b:Int}(ho:o.op=.binOp .quo t x y t2)(hx:s.ev x=.c (.v (.int .i64 a)))(hy:s.ev y=.c (.v (.int .i64 b)))(h0:b≠0):Y0 P o s (I (w64 (a.tdiv b))):=by rw[zNj];exact z1D ho hx hy h0
theorem z5a{o:Oper}{s:St}{x:Operand}{t:TypeId}{a:Int}(ho:o.op=.unOp .neg t x)(hx:s.ev x=.c (.v (.int .i64 a))):Y0 P o s (I (w64 (0 - a))):=by rw[zNj];exact z5b ho hx
theorem z5f{o:Oper}{s:St}{x y:Operand}{t t2:TypeId}{k:IntKind}{a b:Int}(ho:o.op=.binOp .lss t x y t2)(hx:s.ev x=.c (.v (.int k a)))(hy:s.ev y=.c (.v (.int k b))):Y0 P o s (Bo (ltI a b)):=by rw[zS];exact Y0_lt ho hx hy
theorem z5i{o:Oper}{s:St}{x y:Operand}{t t2:TypeId}{k:IntKind}{a b:Int}(ho:o.op=.binOp .leq t x y t2)(hx:s.ev x=.c (.v (.int k a)))(hy:s.ev y=.c (.v (.int k b))):Y0 P o s (Bo (leI a b)):=by rw[qK];exact Y0_le ho hx hy
theorem z5l{o:Oper}{s:St}{x y:Operand}{t t2:TypeId}{k:IntKind}{a b:Int}(ho:o.op=.binOp .gtr t x y t2)(hx:s.ev x=.c (.v (.int k a)))(hy:s.ev y=.c (.v (.int k b))):Y0 P o s (Bo (ltI b a)):=by rw[zS];exact Y0_gt ho hx hy
theorem z5m{o:Oper}{s:St}{x y:Operand}{t t2:TypeId}{k:IntKind}{a b:Int}(ho:o.op=.binOp .geq t x y t2)(hx:s.ev x=.c (.v (.int k a)))(hy:s.ev y=.c (.v (.int k b))):Y0 P o s (Bo (leI b a)):=by rw[qK];exact Y0_ge ho hx hy
theorem zRM{o:Oper}{s:St}{x y:Operand}{t t2:TypeId}{k:IntKind}{a b:Int}(ho:o.op=.binOp .eql t x y t2)(hx:s.ev x=.c (.v (.int k a)))(hy:s.ev y=.c (.v (.int k b))):Y0 P o s (Bo (eqI a b)):=by rw[zBD];exact Y0_eq ho hx hy
theorem z59{o:Oper}{s:St}{x y:Operand}{t t2:TypeId}{k:IntKind}{a b:Int}(ho:o.op=.binOp .neq t x y t2)(hx:s.ev x=.c (.v (.int k a)))(hy:s.ev y=.c (.v (.int k b))):Y0 P o s (Bo (!eqI a b)):=by rw[zBD];exact Y0_ne ho hx hy
theorem zHy{α:Type}{c:α→List Tr}{xs:List α}{o:Oper}{s:St}{x:Operand}{t e:TypeId}(hu:P.underlying t=some (.slice e))(ho:o.op=.call {callee:=.builtin .len,args:=#[x],argTypes:=#[t]})(hx:zCX s (s.ev x)=some (xs.map c)):Y0 P o s (I (xs.length:Int)):=by have h:=z93 (P:=P) hu ho hx;rw[List.length_map]at h;exact h
theorem jD{α:Type}{c:α→List Tr}{xs:List α}{v:α}{o:Oper}{s:St}{t e:TypeId}{x ix:Operand}{n:Int}(hu:P.underlying t=some (.slice e))(hsz:(P.info? e).map (·.size)=some (c v).length)(ho:o.op=.indexAddr t x ix)(hx:s.ev x=.c (.sl (xs.map c)))(hi:s.ev ix=.c (.v (.int .i64 n)))
  (he:getI xs n=some v):Y0 P o s (.pe (c v)):=by
 obtain⟨h1,h2⟩:=zFm he;exact z94 hu ⟨_,hsz,rfl⟩ ho hx hi h1 (by rw[List.getElem?_map,h2];rfl)
theorem zKR{α:Type}{c:α→List Tr}{xs:List α}{v:α}{o:Oper}{s:St}{t e:TypeId}{x ix:Operand}{id T sz:Nat}{n:Int}(hu:P.underlying t=some (.slice e))(hsz:(P.info? e).map (·.size)=some sz)(ho:o.op=.indexAddr t x ix)(hx:s.ev x=.ow id)(he:s.entc id=some (.arr T sz (xs.map c)))
  (hi:s.ev ix=.c (.v (.int .i64 n))) (hv:getI xs n=some v):Y0 P o s (.po id sz n.toNat 0):=by
 obtain⟨h1,h2⟩:=zFm hv;refine z7U hu hsz ho hx he hi h1 ?_
 rw[List.length_map];rcases Nat.lt_or_ge n.toNat xs.length with h|h
 ·exact h
 ·rw[List.getElem?_eq_none h]at h2;cases h2
theorem memM{α:Type}{c:α→List Tr}{xs:List α}{v:α}{s:St}{id sz T off:Nat}{n:Int}(he:s.entc id=some (.arr T sz (xs.map c)))(hv:getI xs n=some v):zBi s (.po id sz n.toNat off)=some ((c v).drop off):=by obtain⟨h1,h2⟩:=zFm hv;unfold zBi;simp[he,h2]
theorem zRL{α:Type}{c:α→List Tr}{xs:List α}{v:α}{o:Oper}{s:St}{t:TypeId}{x:Operand}{id sz T off:Nat}{n:Int}{d:Tr}{ds:List Tr}(hs:zQR P t)(ho:o.op=.load t x)(hx:s.ev x=.po id sz n.toNat off)(he:s.entc id=some (.arr T sz (xs.map c)))(hv:getI xs n=some v)
  (hd:(c v).drop off=d::ds):Y0 P o s (.c d):=
 zMd hs ho (by rw[hx,memM he hv,hd])
theorem z3V{α:Type}{c:α→List Tr}{xs:List α}{v:α}{o:Oper}{s:St}{t:TypeId}{x:Operand}{id sz T off m:Nat}{n:Int}{cs:List Tr}(hs:wide P t m)(ho:o.op=.load t x)(hx:s.ev x=.po id sz n.toNat off)(he:s.entc id=some (.arr T sz (xs.map c)))(hv:getI xs n=some v)
  (hd:(c v).drop off=cs) (hm:m≤cs.length):Y0 P o s (.ag (cs.take m)):=
 z0L hs ho (by rw[hx,memM he hv,hd]) hm
theorem zEI{α:Type}{c:α→List Tr}{xs ys:List α}{o:Oper}{s:St}{x y:Operand}{t e d id sz bytes:Nat}{z:Value}(ho:o.op=.call {callee:=.builtin .append,args:=#[x,y],argTypes:=#[t,t]})(hd:o.dst=some d)(ht:P.underlying t=some (.slice e))
  (hi:(P.info? e).map (fun i=>(i.zero,i.size,i.bytes))=some (some z,sz,bytes)) (hzs:z.cells.size=sz) (hx:s.ev x=.ow id) (he:s.ent id=some (.arr e sz (xs.map c))) (hy:zCX s (s.ev y)=some (ys.map c)) (hc:∀v,(c v).length=sz) (hne:ys≠[])
  (hr:xs.length+ys.length≤1099511627776) (hby:bytes≤128):X P o s ⟨(zEM id s.T).set d (.ow id),setE id (.arr e sz ((xs++ys).map c)) s.E⟩:=by
 rw[List.map_append];refine z5x ho hd ht hi hzs hx he hy (fun el hel=>?_) (by simpa using hne) (by simpa using hr) hby;obtain⟨v,_,rfl⟩:=List.mem_map.1 hel;exact hc v
theorem zXF{α:Type}{c:α→List Tr}{xs:List α}{v u:α}{o:Oper}{s:St}{t:TypeId}{x y:Operand}{id sz off T0:Nat}{n:Int}{vc:List Tr}(ho:o.op=.store t x y)(hd:o.dst=none)(hx:s.ev x=.po id sz n.toNat off)(he:s.ent id=some (.arr T0 sz (xs.map c)))(hv:getI xs n=some v)
  (hy:zDa (s.ev y)=some vc) (hi:(P.info? t).map (·.size)=some vc.length) (hl:off+vc.length≤(c v).length) (hu:splice (c v) off vc=c u):X P o s ⟨s.T,setE id (.arr T0 sz ((xs.set n.toNat u).map c)) s.E⟩:=by
 obtain⟨h1,h2⟩:=zFm hv;rw[List.map_set,←hu];exact z5u ho hd hx he (by rw[List.getElem?_map,h2];rfl) hy hi hl
def zIn:List Bool→List AV→List AV
 |b::bs,x::xs=>(bif b then x else .bot)::zIn bs xs
 |_,_=>[]
def zWh(ids:List Nat):List (Nat×Ent)→List (Nat×Ent)
 |[]=>[]
 |p::ps=>bif ids.elem p.1 then p::zWh ids ps else zWh ids ps
def St.keep(s:St)(m:List Bool)(ids:List Nat):St:=⟨zIn m s.T,zWh ids s.E⟩
theorem zQi:∀(m:List Bool)(T:List AV)(t:Nat),((zIn m T)[t]?).getD .bot=.bot∨((zIn m T)[t]?).getD .bot=(T[t]?).getD .bot
 |[],T,t=>by simp[zIn]
 |_::_,[],t=>by simp[zIn]
 |b::bs,x::xs,0=>by cases b<;>simp[zIn]
 |b::bs,x::xs,t+1=>by simpa [zIn] using zQi bs xs t
theorem zQh:∀(m:List Bool)(T:List AV),(zIn m T).length≤T.length
 |[],T=>by simp[zIn]
 |_::_,[]=>by simp[zIn]
 |b::bs,x::xs=>by simpa [zIn] using zQh bs xs
theorem zON(ids:List Nat):∀(E:List (Nat×Ent))(id:Nat)(e:Ent),(zWh ids E).lookup id=some e→ids.elem id=true∧E.lookup id=some e
 |[],id,e,h=>by simp[zWh]at h
 |(p1,p2)::ps,id,e,h=>by
  simp only[zWh]at h;cases hb:ids.elem p1 with
  |true=>
   rw[hb]at h;simp only[za,List.lookup]at h ⊢;split
   ·rename_i hq;rw[hq]at h;have:id=p1:=by simpa using hq
    subst this;exact⟨hb,h⟩
   ·rename_i hq;rw[hq]at h;exact zON ids ps id e h
  |false=>
   rw[hb]at h;obtain⟨h0,h1⟩:=zON ids ps id e h;refine⟨h0,?_⟩;simp only[List.lookup];split
   ·rename_i hq;have:id=p1:=by simpa using hq
    subst this;rw[hb]at h0;cases h0
   ·exact h1
theorem zIm(m:List Bool)(ids:List Nat)(s:St):Le (s.keep m ids) s:=
 ⟨zQh m s.T,fun t=>zQi m s.T t,fun id e h=>(zON ids s.E id e h).2⟩
theorem jV(m:List Bool)(ids:List Nat){c:Code}{s s':St}{J:Exit→St→Prop}(h:s.keep m ids=s')(hv:V P c s' J):V P c s J:=by subst h;exact V_le (zIm m ids s) hv
end
end Go.Proofs.YtnjhhbcccgbbnaaGreatDoor
namespace Go.Proofs.YtnjhhbcccgbbnaaGreatDoor
def getB(b:qd)(i:Int):Option Int:=if 0≤i∧i<b.size then some (((b.data.toList[i.toNat]?).getD 0).toNat:Int) else none
def zHa(xs:List Int):qd:=xs.foldl (fun r n=>r.push (UInt8.ofNat n.toNat)) qe
def catR(a b:qd):Option Unit:=if a.size+b.size≤9223372036854775807 then some () else none
def zR(n:Int):Option qd:=if -9223372036854775808≤n∧n≤9223372036854775807 then some ⟨(Go.Lib.itoa n).toArray⟩ else none
def zDZ(xs:List qd)(sep:qd):Option qd:=
 if xs.length≤140737488355328∧(Go.Lib.join (xs.map (·.data.toList)) sep.data.toList).length≤140737488355328 then some ⟨(Go.Lib.join (xs.map (·.data.toList)) sep.data.toList).toArray⟩ else none
def cpN(n k1 k2:Nat):Nat:=Nat.min (n - k2) (n - k1)
def zLS{α:Type}(l:List α)(k1 k2:Nat):List α:=splice l k1 ((l.drop k2).take (cpN l.length k1 k2))
section
variable {κ ν:Type} [DecidableEq κ]
def ixM(a:κ):List κ→Option Nat
 |[]=>none
 |k::ks=>if a=k then some 0 else (ixM a ks).map (·+1)
def mGet(a:κ):List (κ×ν)→Option ν
 |[]=>none
 |p::ps=>if a=p.1 then some p.2 else mGet a ps
def mPut(a:κ)(v:ν):List (κ×ν)→List (κ×ν)
 |[]=>[(a,v)]
 |p::ps=>if a=p.1 then (a,v)::ps else p::mPut a v ps
def mHas(a:κ)(m:List (κ×ν)):Bool:=(mGet a m).isSome
def mAt(a:κ)(m:List (κ×ν))(z:ν):ν:=(mGet a m).getD z
end
def elO{α ρ:Type}(o:Option α)(a:ρ)(f:α→ρ):ρ:=match o with
 |none=>a
 |some x=>f x
end Go.Proofs.YtnjhhbcccgbbnaaGreatDoor
namespace Go.Proofs.YtnjhhbcccgbbnaaGreatDoor
open Ieee
theorem zJL(n:Nat):∀(t r:Nat),r*r≤n→n<(r+2 ^t)*(r+2 ^t)→Datum.rootFrom n t r*Datum.rootFrom n t r≤n∧n<(Datum.rootFrom n t r+1)*(Datum.rootFrom n t r+1)
 |0,r,h1,h2=>⟨h1,h2⟩
 |t+1,r,h1,h2=>by
  have e1:r+1<<<t=r+2 ^t:=by rw[Nat.shiftLeft_eq,Nat.one_mul]
  have e2:r+2 ^(t+1)=(r+2 ^t)+2 ^t:=by rw[Nat.pow_succ];omega
  unfold Datum.rootFrom;simp only[e1];split
  ·rename_i h;exact zJL n t _ h (by rw[e2]at h2;exact h2)
  ·rename_i h;exact zJL n t _ h1 (by omega)
theorem zSj{n k:Nat}(h1:2 ^k≤n)(h2:n<2 ^(k+1)):n.log2=k:=by
 have h0:n≠0:=by have:=Nat.two_pow_pos k;omega
 have a:=(Nat.le_log2 h0).2 h1;have b:=(Nat.log2_lt h0).2 h2;omega
theorem z4l{l x B:Nat}(h:l≤1076)(hx:x≤2*B):l*B+x≤2047*B:=by have h2:(l+2)*B≤2047*B:=Nat.mul_le_mul_right _ (by omega);rw[Nat.add_mul]at h2;omega
theorem z6r(j:Nat):(2 ^53) / 2 ^(j+1)=(2 ^52) / 2 ^j:=by
 have h:∀a:Nat,(a*2) / 2 ^(j+1)=a / 2 ^j:=fun a=>by rw[Nat.pow_succ,Nat.mul_div_mul_right _ _ (by decide)]
 exact h (2 ^52)
theorem fl_pl(l:Nat):((l+1022:Nat):Int) - 1074=(l:Int) - 52:=by omega
theorem z6p{n l:Nat}(hl:n.log2=l)(h0:n≠0)(hb:l≤52):double.nearest false n 0=(l+1022)*2 ^52+n*2 ^(52 - l):=by
 have e1:double.leastPlace=-1074:=by decide
 have e2:double.binade=2 ^52:=by decide
 have e3:double.infRung=2047*2 ^52:=by decide
 have e4:((double.fractionBits:Nat):Int)=52:=by decide
 have hn:n*2 ^(52 - l)<2 ^53:=by
  have h:=(Nat.log2_lt (k:=l+1) h0).1 (by omega);have h2:(2:Nat) ^53=2 ^(l+1)*2 ^(52 - l):=by rw[←Nat.pow_add];congr 1;omega
  rw[h2];exact Nat.mul_lt_mul_of_pos_right h (Nat.two_pow_pos _)
 unfold Format.nearest;rw[if_neg h0];dsimp only;rw[e1,e2,e3,e4,hl];have m1:max ((0:Int)+(l:Int) - 52) (-1074)=(l:Int) - 52:=by omega
 rw[m1];have m2:((0:Int) - ((l:Int) - 52)).toNat=52 - l:=by omega
 have m3:((l:Int) - 52 - 0).toNat=0:=by omega
 have m4:((l:Int) - 52 - -1074).toNat=l+1022:=by omega
 rw[m2,m3,m4];have m5:Toward.even.cut false (n<<<(52 - l)) 0=n*2 ^(52 - l):=by unfold Toward.cut;rw[Nat.zero_min,Nat.shiftLeft_eq,Nat.shiftLeft_eq];simp[Nat.mod_one]
 rw[m5];unfold Format.word;rw[if_neg (by decide),Nat.min_eq_left];have p52:(2:Nat) ^52=4503599627370496:=by decide
 have p53:(2:Nat) ^53=9007199254740992:=by decide
 rw[p53]at hn;rw[p52];exact z4l (by omega) (Nat.le_of_lt hn)
theorem zYK{c k:Nat}(h1:2 ^52≤k)(h2:k<2 ^53)(hc:c≤2000):double.read (c*2 ^52+k)=.number false k ((c:Int) - 1074):=by
 have e1:double.leastPlace=-1074:=by decide
 have e2:double.binade=4503599627370496:=by decide
 have e3:double.infRung=2047*4503599627370496:=by decide
 have e4:double.signWeight=2048*4503599627370496:=by decide
 have p52:(2:Nat) ^52=4503599627370496:=by decide
 have p53:(2:Nat) ^53=2*4503599627370496:=by decide
 unfold Format.read;dsimp only;rw[e1,e2,e3,e4];rw[p52]at h1 ⊢;rw[p53]at h2;have q0:c*4503599627370496≤2000*4503599627370496:=Nat.mul_le_mul_right _ hc;have q1:(c*4503599627370496+k) / (2048*4503599627370496)=0:=Nat.div_eq_of_lt (by omega);have q2:(c*4503599627370496+k) % (2048*4503599627370496)=c*4503599627370496+k:=Nat.mod_eq_of_lt (by omega);rw[q1,q2,if_neg (by omega),if_pos (by omega)];have q3:(c*4503599627370496+k) / 4503599627370496=c+1:=by omega
 have q4:(c*4503599627370496+k) % 4503599627370496=k - 4503599627370496:=by omega
 rw[q3,q4];have q5:4503599627370496+(k - 4503599627370496)=k:=by omega
 have q6:(-1074:Int)+((c+1 - 1:Nat):Int)=(c:Int) - 1074:=by omega
 rw[q5,q6];rfl
theorem zZs{m j:Nat}(hm:m≠0)(h:m.log2=52)(hj:j≤54):(Datum.number false m (-(j:Int))).toInt .zero=some ((m / 2 ^j:Nat):Int):=by
 have e1:(-(j:Int)).toNat=0:=by omega
 have e2:(-(-(j:Int))).toNat=j:=by omega
 show some (signed false (Toward.zero.cut false (m<<<(-(j:Int)).toNat) (-(-(j:Int))).toNat) 0)=_;rw[e1,e2];unfold signed;unfold Toward.cut;dsimp only;rw[Nat.shiftLeft_zero,Nat.shiftLeft_zero,h,Nat.min_eq_left (show j≤52+2 by omega)];simp[Nat.shiftLeft_eq]
theorem z6q{k:Nat}(hk1:28≤k)(hk2:k≤54):(double.read ((1076 - k)*2 ^52+2 ^53)).toInt .zero=some ((2 ^53 / 2 ^(k - 2):Nat):Int):=by
 have hz:(1076 - k)*2 ^52+2 ^53=(1077 - k)*2 ^52+2 ^52:=by rw[show 1077 - k=(1076 - k)+1 by omega,Nat.succ_mul,Nat.add_assoc,←Nat.two_mul,←Nat.mul_comm (2 ^52) 2,←Nat.pow_succ]
 rw[hz,zYK (Nat.le_refl _) (Nat.pow_lt_pow_right (by decide) (by decide)) (by omega)];have:((1077 - k:Nat):Int) - 1074=-((k - 3:Nat):Int):=by omega
 rw[this,zZs (Nat.ne_of_gt (Nat.two_pow_pos _)) (zSj (Nat.le_refl _) (Nat.pow_lt_pow_right (by decide) (by decide))) (by omega)];rw[show k - 2=(k - 3)+1 by omega,z6r]
theorem z4k{g k:Nat}(h1:2 ^55≤g)(h2:g<2 ^56)(hk1:28≤k)(hk2:k≤54):∃e,e≤1∧(g % 8=0→e=0)∧(double.read (double.nearest false g (-(k:Int) - 1))).toInt .zero=some (((g / 8+e) / 2 ^(k - 2):Nat):Int):=by
 have e1:double.leastPlace=-1074:=by decide
 have e2:double.binade=2 ^52:=by decide
 have e3:double.infRung=2047*2 ^52:=by decide
 have e4:((double.fractionBits:Nat):Int)=52:=by decide
 have hl:g.log2=55:=zSj h1 h2;have h0:g≠0:=by intro h;rw[h]at h1;exact absurd h1 (by decide)
 have hc:∃e,e≤1∧(g % 8=0→e=0)∧Toward.even.cut false g 3=g / 8+e:=by
  unfold Toward.cut;have m0:(1:Nat)<<<min 3 (g.log2+2)=8:=by rw[hl];decide
  rw[m0];refine⟨_,?_,?_,rfl⟩
  ·exact Bool.toNat_le _
  ·intro h;simp[h]
 obtain⟨e,he1,he2,hc⟩:=hc;refine⟨e,he1,he2,?_⟩;have hw:double.nearest false g (-(k:Int) - 1)=(1076 - k)*2 ^52+(g / 8+e):=by
  unfold Format.nearest;rw[if_neg h0];dsimp only;rw[e1,e2,e3,e4,hl];have m1:max (-(k:Int) - 1+((55:Nat):Int) - 52) (-1074)=2 - (k:Int):=by omega
  rw[m1];have m2:(-(k:Int) - 1 - (2 - (k:Int))).toNat=0:=by omega
  have m3:(2 - (k:Int) - (-(k:Int) - 1)).toNat=3:=by omega
  have m4:(2 - (k:Int) - -1074).toNat=1076 - k:=by omega
  rw[m2,m3,m4,Nat.shiftLeft_zero,hc];unfold Format.word;rw[if_neg (by decide),Nat.min_eq_left];have p52:(2:Nat) ^52=4503599627370496:=by decide
  have p56:(2:Nat) ^56=16*4503599627370496:=by decide
  rw[p56]at h2;rw[p52];exact z4l (Nat.sub_le _ _) (by clear e3 e2 e1 hc hl;omega)
 rw[hw];have p52:(2:Nat) ^52=4503599627370496:=by decide
 have p53:(2:Nat) ^53=2*4503599627370496:=by decide
 have p55:(2:Nat) ^55=8*4503599627370496:=by decide
 have p56:(2:Nat) ^56=16*4503599627370496:=by decide
 rw[p55]at h1;rw[p56]at h2;by_cases hx:g / 8+e<2 ^53
 ·have ha:2 ^52≤g / 8+e:=by omega
  rw[zYK ha hx (by omega)];have:((1076 - k:Nat):Int) - 1074=-((k - 2:Nat):Int):=by omega
  rw[this];exact zZs (by rw[p52]at ha;omega) (zSj ha hx) (by omega)
 ·have hy:g / 8+e=2 ^53:=by
   omega
  rw[hy];exact z6q hk1 hk2
def z2D(b:Nat):Option Nat:=FloatKind.f64.format.sqrt b
theorem z6T{n:Nat}(h0:1≤n)(hb:n<2 ^53):∃b t:Nat,z2D (floatOfInt .f64 (n:Int))=some b∧floatToIntVal .f64 b .i64=some (t:Int)∧t≤134217728∧∀s:Nat,s*s=n→t=s:=by
 have hn0:n≠0:=by omega
 obtain⟨l,hl⟩:∃l,n.log2=l:=⟨_,rfl⟩
 have hl2:l≤52:=by have:=(Nat.log2_lt hn0).2 hb;omega
 have hlo:2 ^l≤n:=(Nat.le_log2 hn0).1 (by omega);have hhi:n<2 ^(l+1):=(Nat.log2_lt hn0).1 (by omega);have hw:floatOfInt .f64 (n:Int)=(l+1022)*2 ^52+n*2 ^(52 - l):=by rw[←z6p hl hn0 hl2];show double.nearest (decide ((n:Int)<0)) (n:Int).natAbs 0=_;rw[zc (by omega)];rfl
 obtain⟨m,hm⟩:∃m,n*2 ^(52 - l)=m:=⟨_,rfl⟩
 have hm1:2 ^52≤m:=by rw[←hm,show (2:Nat) ^52=2 ^l*2 ^(52 - l) by rw[←Nat.pow_add];congr 1;omega];exact Nat.mul_le_mul_right _ hlo
 have hm2:m<2 ^53:=by rw[←hm,show (2:Nat) ^53=2 ^(l+1)*2 ^(52 - l) by rw[←Nat.pow_add];congr 1;omega];exact Nat.mul_lt_mul_of_pos_right hhi (Nat.two_pow_pos _)
 have hr:double.read (floatOfInt .f64 (n:Int))=.number false m ((l:Int) - 52):=by rw[hw,hm,zYK hm1 hm2 (Nat.le_trans (Nat.add_le_add_right hl2 _) (by decide)),fl_pl]
 have hml:m.log2=52:=zSj hm1 hm2;have hm0:m≠0:=by intro h;rw[h]at hm1;exact absurd hm1 (by decide)
 -- how many places
 obtain⟨k,more,hk,hmo,hk1,hk2⟩:∃k more:Nat,2*54 - 52+(((l:Int) - 52 - ((2*54 - 52:Nat):Int)) % 2).toNat=more∧52 - l+more=2*k∧28≤k∧k≤54:=by refine⟨(52 - l+(2*54 - 52+(((l:Int) - 52 - ((2*54 - 52:Nat):Int)) % 2).toNat)) / 2,_,rfl,?_,?_,?_⟩<;>omega
 have hmore:more=56∨more=57:=by omega
 obtain⟨N,hN⟩:∃N,m<<<more=N:=⟨_,rfl⟩
 have hNm:N=m*2 ^more:=by rw[←hN,Nat.shiftLeft_eq]
 have hN2:N=n*2 ^(2*k):=by rw[hNm,←hm,Nat.mul_assoc,←Nat.pow_add,hmo]
 have hN0:N≠0:=by rw[hN2];exact Nat.ne_of_gt (Nat.mul_pos (by omega) (Nat.two_pow_pos _))
 obtain⟨q,hq⟩:∃q,Datum.rootFrom N (N.log2 / 2+1) 0=q:=⟨_,rfl⟩
 have hsq:=zJL N (N.log2 / 2+1) 0 (by omega) (by rw[Nat.zero_add,←Nat.pow_add];refine Nat.lt_of_lt_of_le ((Nat.log2_lt hN0).1 (zi _)) (Nat.pow_le_pow_right (by decide) (by omega)))
 rw[hq]at hsq;have hNlo:2 ^108≤N:=by
  rw[hNm];have:(2:Nat) ^108=2 ^52*2 ^56:=by decide
  rw[this];exact Nat.mul_le_mul hm1 (Nat.pow_le_pow_right (by decide) (by omega))
 have hNhi:N<2 ^110:=by
  rw[hNm];have:(2:Nat) ^110=2 ^53*2 ^57:=by decide
  rw[this];exact Nat.lt_of_lt_of_le (Nat.mul_lt_mul_of_pos_right hm2 (Nat.two_pow_pos _)) (Nat.mul_le_mul_left _ (Nat.pow_le_pow_right (by decide) (by omega)))
 have hq1:2 ^54≤q:=by
  apply Nat.le_of_not_lt;intro h;have:(q+1)*(q+1)≤2 ^54*2 ^54:=Nat.mul_le_mul h h;have e:(2:Nat) ^54*2 ^54=2 ^108:=by decide
  omega
 have hq2:q<2 ^55:=by
  apply Nat.lt_of_not_le;intro h;have:2 ^55*2 ^55≤q*q:=Nat.mul_le_mul h h;have e:(2:Nat) ^55*2 ^55=2 ^110:=by decide
  omega
 obtain⟨g,hg⟩:∃g,2*q+(q*q != N).toNat=g:=⟨_,rfl⟩
 have hgq:2*q≤g∧g≤2*q+1:=by have:=Bool.toNat_le (q*q != N);omega
 have hroot:(Datum.number false m ((l:Int) - 52)).root 54=some (.number false g (-(k:Int) - 1)):=by unfold Datum.root;simp only[hml];rw[if_neg hm0,if_neg (by decide)];rw[hk,hN,hq,hg];congr 2;omega
 have p54:(2:Nat) ^54=18014398509481984:=by decide
 have p55:(2:Nat) ^55=36028797018963968:=by decide
 have p56:(2:Nat) ^56=72057594037927936:=by decide
 obtain⟨e,he1,he2,ht⟩:=z4k (g:=g) (k:=k) (by rw[p54]at hq1;rw[p55];omega) (by rw[p55]at hq2;rw[p56];omega) hk1 hk2;obtain⟨t,hte⟩:∃t:Nat,(g / 8+e) / 2 ^(k - 2)=t:=⟨_,rfl⟩
 rw[hte]at ht;refine⟨double.nearest false g (-(k:Int) - 1),t,?_,?_,?_,?_⟩
 ·show ((double.read (floatOfInt .f64 (n:Int))).root (52+2)).map double.write=_;rw[hr,hroot];rfl
 ·have hle:t≤9007199254740992:=by
   rw[←hte];refine Nat.le_trans (Nat.div_le_self _ _) ?_
   rw[p55]at hq2;omega
  unfold floatToIntVal;show (match (double.read (double.nearest false g (-(k:Int) - 1))).toInt .zero with|some n=>if IntKind.i64.min≤n∧n≤IntKind.i64.max then some n else none|none=>none)=_;rw[ht];show (if IntKind.i64.min≤(t:Int)∧(t:Int)≤IntKind.i64.max then some (t:Int) else none)=_;have a1:IntKind.i64.min=-9223372036854775808:=by decide
  have a2:IntKind.i64.max=9223372036854775807:=by decide
  rw[if_pos (by rw[a1,a2];omega)]
 ·rw[←hte];have hg8:g / 8+e≤9007199254740992:=by
   rw[p55]at hq2;omega
  refine Nat.le_trans (Nat.div_le_div hg8 (Nat.pow_le_pow_right (show 0<2 by decide) (show 26≤k - 2 by omega)) (by decide)) ?_
  decide
 ·intro s hs;have hqs:q=s*2 ^k:=by
   have hN3:N=(s*2 ^k)*(s*2 ^k):=by rw[hN2,←hs,show 2*k=k+k by omega,Nat.pow_add];simp only[Nat.mul_assoc,Nat.mul_left_comm]
   rw[hN3]at hsq;have h1:¬s*2 ^k<q:=fun h=>by have:=Nat.mul_self_lt_mul_self h;omega
   have h2:¬q+1≤s*2 ^k:=fun h=>by have:=Nat.mul_le_mul h h;omega
   omega
  have hgs:g=s*2 ^(k - 2)*8:=by
   have h2:N=q*q:=by rw[hqs,hN2,←hs,show 2*k=k+k by omega,Nat.pow_add];simp only[Nat.mul_assoc,Nat.mul_left_comm]
   have h3:(q*q != N)=false:=by rw[h2];simp
   rw[←hg,h3,hqs];have:(2:Nat) ^k=2 ^(k - 2)*4:=by rw[show (4:Nat)=2 ^2 by decide,←Nat.pow_add];congr 1;omega
   rw[this,Bool.toNat_false,Nat.add_zero];rw[show 2*(s*(2 ^(k - 2)*4))=s*2 ^(k - 2)*8 by rw[←Nat.mul_assoc s];omega]
  have e0:e=0:=he2 (by rw[hgs];exact Nat.mul_mod_left _ _);rw[←hte,e0,hgs,Nat.add_zero,Nat.mul_div_cancel _ (by decide),Nat.mul_div_cancel _ (Nat.two_pow_pos _)]
end Go.Proofs.YtnjhhbcccgbbnaaGreatDoor
namespace Go.Proofs.YtnjhhbcccgbbnaaGreatDoor
def zCx(s sep:qd):Option (List qd):=if s.size<4294967281∧1≤sep.size then some (Go.Lib.splitB sep 0 (Go.Lib.countB s sep) s) else none
def zBp(p:Nat→Bool)(s:qd):Option (List qd):=if s.size≤4294967296 then some (Go.Lib.goFieldsP p s) else none
def zBK(s:qd):Option (Int×Bool):=if s.size≤281474976710656 then (match Go.Lib.atoiAll s.data.toList with
 | .ok v=>some (v,true)
 | .syntax=>some (0,false)
 | .range=>some (Go.Lib.atoiSat s.data.toList,false)) else none
def pOf(f:Int→Option Bool)(n:Nat):Bool:=(f (n:Int)).getD false
end Go.Proofs.YtnjhhbcccgbbnaaGreatDoor
