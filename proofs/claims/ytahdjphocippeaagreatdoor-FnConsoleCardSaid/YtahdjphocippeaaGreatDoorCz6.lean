/-
  Rules of walks, plain functions and their laws, part 6.
  Conditions: none.
-/
import Derived.Test.YtahdjphocippeaaGreatDoorRows
import Derived.Test.YtahdjphocippeaaGreatDoorCz5
set_option linter.unusedSimpArgs false
set_option linter.unusedVariables false
namespace Go.Proofs.YtahdjphocippeaaGreatDoor
open Go.RowKit
noncomputable section
abbrev τF:=Int×Int×Int
abbrev τM:=Int×Int×Int×Int
abbrev τI:=Int×(Nat→τF)
abbrev τS:=Int×qf×(List τF)
theorem CtU{β:Type}(t:T qh β)(k:Nat){f:FuncId}{fn:Func}{c:Code}{args:List AV}{o:Option β}{r:β}(g:β→AV)(hf:Tryz.prog.funcs[f]?=some fn)(hb:fn.body=some c)(hvs:fn.results=[ResultVar.tmp k].toArray)(h:o=some r)
  (hO:OF qh t o c ⟨args++List.replicate (fn.ntmps - args.length) .bot,[]⟩ [.t k] (fun r=>(g r,[]))=(OF qh t o c ⟨args++List.replicate (fn.ntmps - args.length) .bot,[]⟩ [.t k] (fun r=>(g r,[]))).rf:=by kernel_rfl):zC qh f args (g r) []:=
 CtT t (fun r=>(g r,[])) (rs:=[.t k]) (vs:=[.tmp k]) hf hb hvs (.cons rfl FitsL.nil) h hO
@[reducible] def q78 (F:Nat→Int×Int×Int) (tl:List Tr):List Tr:=Ti ((F 0).1)::Ti ((F 0).2.1)::Ti ((F 0).2.2)::Ti ((F 1).1)::Ti ((F 1).2.1)::Ti ((F 1).2.2)::Ti ((F 2).1)::Ti ((F 2).2.1)::Ti ((F 2).2.2)::Ti ((F 3).1)::Ti ((F 3).2.1)::Ti ((F 3).2.2)::Ti ((F 4).1)::Ti ((F 4).2.1)::Ti ((F 4).2.2)::Ti ((F 5).1)::Ti ((F 5).2.1)::Ti ((F 5).2.2)::Ti ((F 6).1)::Ti ((F 6).2.1)::Ti ((F 6).2.2)::Ti ((F 7).1)::Ti ((F 7).2.1)::Ti ((F 7).2.2)::Ti ((F 8).1)::Ti ((F 8).2.1)::Ti ((F 8).2.2)::Ti ((F 9).1)::Ti ((F 9).2.1)::Ti ((F 9).2.2)::Ti ((F 10).1)::Ti ((F 10).2.1)::Ti ((F 10).2.2)::Ti ((F 11).1)::Ti ((F 11).2.1)::Ti ((F 11).2.2)::Ti ((F 12).1)::Ti ((F 12).2.1)::Ti ((F 12).2.2)::Ti ((F 13).1)::Ti ((F 13).2.1)::Ti ((F 13).2.2)::Ti ((F 14).1)::Ti ((F 14).2.1)::Ti ((F 14).2.2)::Ti ((F 15).1)::Ti ((F 15).2.1)::Ti ((F 15).2.2)::Ti ((F 16).1)::Ti ((F 16).2.1)::Ti ((F 16).2.2)::Ti ((F 17).1)::Ti ((F 17).2.1)::Ti ((F 17).2.2)::Ti ((F 18).1)::Ti ((F 18).2.1)::Ti ((F 18).2.2)::Ti ((F 19).1)::Ti ((F 19).2.1)::Ti ((F 19).2.2)::Ti ((F 20).1)::Ti ((F 20).2.1)::Ti ((F 20).2.2)::Ti ((F 21).1)::Ti ((F 21).2.1)::Ti ((F 21).2.2)::Ti ((F 22).1)::Ti ((F 22).2.1)::Ti ((F 22).2.2)::Ti ((F 23).1)::Ti ((F 23).2.1)::Ti ((F 23).2.2)::Ti ((F 24).1)::Ti ((F 24).2.1)::Ti ((F 24).2.2)::Ti ((F 25).1)::Ti ((F 25).2.1)::Ti ((F 25).2.2)::tl
def c9(x:qf):List Tr:=[.v (.string x)]
def c42(x:τF):List Tr:=[Ti x.1,Ti x.2.1,Ti x.2.2]
def c53(x:τS):List Tr:=[Ti x.1,.v (.string x.2.1),.sl (x.2.2.map c42)]
def c3(x:Int):List Tr:=[Ti x]
def c5(x:Int):List Tr:=[.v (.int .u8 x)]
def c181(x:(Int×Int)):List Tr:=[Ti x.1,Ti x.2]
def c184(x:(Int×Int)):List Tr:=[Ti x.1,Ti x.2]
def c62(x:τI):List Tr:=(Ti x.1::q78 (x.2) [])
def ct3:CT Int:=⟨c3,1,fun _=>rfl⟩
def ct5:CT Int:=⟨c5,1,fun _=>rfl⟩
def ct9:CT qf:=⟨c9,1,fun _=>rfl⟩
def ct42:CT τF:=⟨c42,3,fun _=>rfl⟩
def ct53:CT τS:=⟨c53,3,fun _=>rfl⟩
def ct62:CT τI:=⟨c62,79,fun _=>rfl⟩
def zGk:CT (Int×Int):=⟨c181,2,fun _=>rfl⟩
def zHY:CT (Int×Int):=⟨c184,2,fun _=>rfl⟩
def zv3:Value:=.int .i64 0
def zv5:Value:=.int .u8 0
def zv42:Value:=.agg #[.int .i64 0,.int .i64 0,.int .i64 0]
theorem zf42:(Tryz.prog.info? 42).bind (·.zero)=some zv42:=by kernel_rfl
def z4t:Value:=.agg #[.string qg,.slice none 0 0,.int .i64 0,.int .i64 0,.int .i64 0,.int .i64 0]
theorem z9J:(Tryz.prog.info? 111).bind (·.zero)=some z4t:=by kernel_rfl
theorem iz3:(Tryz.prog.info? 3).map (fun i=>(i.zero,i.size))=some (some zv3,1):=by kernel_rfl
theorem iz5:(Tryz.prog.info? 5).map (fun i=>(i.zero,i.size))=some (some zv5,1):=by kernel_rfl
theorem izb3:(Tryz.prog.info? 3).map (fun i=>(i.zero,i.size,i.bytes))=some (some zv3,1,8):=by kernel_rfl
theorem sc3:zJk qh 3:=⟨_,Tryz.underlying3,rfl⟩
theorem sc9:zJk qh 9:=⟨_,Tryz.underlying9,rfl⟩
theorem sc22:zJk qh 22:=⟨_,Tryz.underlying22,rfl⟩
theorem sc37:zJk qh 37:=⟨_,Tryz.underlying37,rfl⟩
theorem z9X:zJk qh 162:=⟨_,Tryz.underlying162,rfl⟩
theorem sz3:(Tryz.prog.info? 3).map (·.size)=some 1:=by kernel_rfl
theorem sz9:(Tryz.prog.info? 9).map (·.size)=some 1:=by kernel_rfl
theorem sz22:(Tryz.prog.info? 22).map (·.size)=some 1:=by kernel_rfl
theorem sz37:(Tryz.prog.info? 37).map (·.size)=some 1:=by kernel_rfl
theorem sz42:(Tryz.prog.info? 42).map (·.size)=some 3:=by kernel_rfl
theorem zWt:(Tryz.prog.info? 111).map (·.size)=some 6:=by kernel_rfl
theorem z9T:(Tryz.prog.info? 162).map (·.size)=some 1:=by kernel_rfl
theorem wd42:wide qh 42 3:=⟨⟨_,Tryz.underlying42,rfl⟩,by kernel_rfl⟩
theorem wd98:wide qh 98 5:=⟨⟨_,Tryz.underlying98,rfl⟩,by kernel_rfl⟩
theorem z9O:wide qh 111 6:=⟨⟨_,Tryz.underlying111,rfl⟩,by kernel_rfl⟩
theorem zFY:wide qh 120 4:=⟨⟨_,Tryz.underlying120,rfl⟩,by kernel_rfl⟩
theorem wd159:wide qh 159 12:=⟨⟨_,Tryz.underlying159,rfl⟩,by kernel_rfl⟩
theorem wd223:wide qh 223 3:=⟨⟨_,Tryz.underlying223,rfl⟩,by kernel_rfl⟩
def pl42:Nat→Option (Nat×Nat):=fun i=>(#[(0,1),(1,1),(2,1)]:Array (Nat×Nat))[i]?
theorem bt42:∀ps,Tryz.prog.built 42 ps=Instr.fill pl42 #[.int .i64 0,.int .i64 0,.int .i64 0] ps:=fun ps=>by kernel_rfl
def pl53:Nat→Option (Nat×Nat):=fun i=>(#[(0,1),(1,1),(2,1)]:Array (Nat×Nat))[i]?
theorem bt53:∀ps,Tryz.prog.built 53 ps=Instr.fill pl53 #[.int .i64 0,.string qg,.slice none 0 0] ps:=fun ps=>by kernel_rfl
def pl56:Nat→Option (Nat×Nat):=fun i=>(#[(0,3),(3,1)]:Array (Nat×Nat))[i]?
theorem bt56:∀ps,Tryz.prog.built 56 ps=Instr.fill pl56 #[.int .i64 0,.string qg,.slice none 0 0,.slice none 0 0] ps:=fun ps=>by kernel_rfl
def pl62:Nat→Option (Nat×Nat):=fun i=>(#[(0,1),(1,78)]:Array (Nat×Nat))[i]?
theorem bt62:∀ps,Tryz.prog.built 62 ps=Instr.fill pl62 #[.int .i64 0,.int .i64 0,.int .i64 0,.int .i64 0,.int .i64 0,.int .i64 0,.int .i64 0,.int .i64 0,.int .i64 0,.int .i64 0,.int .i64 0,.int .i64 0,.int .i64 0,.int .i64 0,.int .i64 0,.int .i64 0,.int .i64 0,.int .i64 0,.int .i64 0,.int .i64 0,.int .i64 0,.int .i64 0,.int .i64 0,.int .i64 0,.int .i64 0,.int .i64 0,.int .i64 0,.int .i64 0,.int .i64 0,.int .i64 0,.int .i64 0,.int .i64 0,.int .i64 0,.int .i64 0,.int .i64 0,.int .i64 0,.int .i64 0,.int .i64 0,.int .i64 0,.int .i64 0,.int .i64 0,.int .i64 0,.int .i64 0,.int .i64 0,.int .i64 0,.int .i64 0,.int .i64 0,.int .i64 0,.int .i64 0,.int .i64 0,.int .i64 0,.int .i64 0,.int .i64 0,.int .i64 0,.int .i64 0,.int .i64 0,.int .i64 0,.int .i64 0,.int .i64 0,.int .i64 0,.int .i64 0,.int .i64 0,.int .i64 0,.int .i64 0,.int .i64 0,.int .i64 0,.int .i64 0,.int .i64 0,.int .i64 0,.int .i64 0,.int .i64 0,.int .i64 0,.int .i64 0,.int .i64 0,.int .i64 0,.int .i64 0,.int .i64 0,.int .i64 0,.int .i64 0] ps:=fun ps=>by kernel_rfl
def pl65:Nat→Option (Nat×Nat):=fun i=>(#[(0,79),(79,1),(80,1)]:Array (Nat×Nat))[i]?
theorem bt65:∀ps,Tryz.prog.built 65 ps=Instr.fill pl65 #[.int .i64 0,.int .i64 0,.int .i64 0,.int .i64 0,.int .i64 0,.int .i64 0,.int .i64 0,.int .i64 0,.int .i64 0,.int .i64 0,.int .i64 0,.int .i64 0,.int .i64 0,.int .i64 0,.int .i64 0,.int .i64 0,.int .i64 0,.int .i64 0,.int .i64 0,.int .i64 0,.int .i64 0,.int .i64 0,.int .i64 0,.int .i64 0,.int .i64 0,.int .i64 0,.int .i64 0,.int .i64 0,.int .i64 0,.int .i64 0,.int .i64 0,.int .i64 0,.int .i64 0,.int .i64 0,.int .i64 0,.int .i64 0,.int .i64 0,.int .i64 0,.int .i64 0,.int .i64 0,.int .i64 0,.int .i64 0,.int .i64 0,.int .i64 0,.int .i64 0,.int .i64 0,.int .i64 0,.int .i64 0,.int .i64 0,.int .i64 0,.int .i64 0,.int .i64 0,.int .i64 0,.int .i64 0,.int .i64 0,.int .i64 0,.int .i64 0,.int .i64 0,.int .i64 0,.int .i64 0,.int .i64 0,.int .i64 0,.int .i64 0,.int .i64 0,.int .i64 0,.int .i64 0,.int .i64 0,.int .i64 0,.int .i64 0,.int .i64 0,.int .i64 0,.int .i64 0,.int .i64 0,.int .i64 0,.int .i64 0,.int .i64 0,.int .i64 0,.int .i64 0,.int .i64 0,.slice none 0 0,.slice none 0 0] ps:=fun ps=>by kernel_rfl
def pl70:Nat→Option (Nat×Nat):=fun i=>(#[(0,1),(1,1),(2,1)]:Array (Nat×Nat))[i]?
theorem bt70:∀ps,Tryz.prog.built 70 ps=Instr.fill pl70 #[.slice none 0 0,.int .i64 0,.int .u64 0] ps:=fun ps=>by kernel_rfl
def zWy:Nat→Option (Nat×Nat):=fun i=>(#[(0,1),(1,1),(2,3),(5,1)]:Array (Nat×Nat))[i]?
theorem z0z:∀ps,Tryz.prog.built 111 ps=Instr.fill zWy #[.string qg,.slice none 0 0,.int .i64 0,.int .i64 0,.int .i64 0,.int .i64 0] ps:=fun ps=>by kernel_rfl
def zD6:Nat→Option (Nat×Nat):=fun i=>(#[(0,1),(1,1),(2,1),(3,1)]:Array (Nat×Nat))[i]?
theorem zDf:∀ps,Tryz.prog.built 120 ps=Instr.fill zD6 #[.int .i64 0,.int .i64 0,.int .i64 0,.int .i64 0] ps:=fun ps=>by kernel_rfl
def z90:Nat→Option (Nat×Nat):=fun i=>(#[(0,1),(1,1),(2,1),(3,1),(4,4),(8,4)]:Array (Nat×Nat))[i]?
theorem bt159:∀ps,Tryz.prog.built 159 ps=Instr.fill z90 #[.int .i64 0,.int .i64 0,.int .i64 0,.int .i64 0,.int .i64 0,.int .i64 0,.int .i64 0,.int .i64 0,.int .i64 0,.int .i64 0,.int .i64 0,.int .i64 0] ps:=fun ps=>by kernel_rfl
def z9Z:Nat→Option (Nat×Nat):=fun i=>(#[(0,1),(1,1)]:Array (Nat×Nat))[i]?
theorem bt164:∀ps,Tryz.prog.built 164 ps=Instr.fill z9Z #[.slice none 0 0,.map none] ps:=fun ps=>by kernel_rfl
def zKD:Nat→Option (Nat×Nat):=fun i=>(#[(0,1),(1,1)]:Array (Nat×Nat))[i]?
theorem zMJ:∀ps,Tryz.prog.built 181 ps=Instr.fill zKD #[.int .i64 0,.int .i64 0] ps:=fun ps=>by kernel_rfl
def z3S:Nat→Option (Nat×Nat):=fun i=>(#[(0,1),(1,1)]:Array (Nat×Nat))[i]?
theorem z7A:∀ps,Tryz.prog.built 184 ps=Instr.fill z3S #[.int .i64 0,.int .i64 0] ps:=fun ps=>by kernel_rfl
def z9Y:Nat→Option (Nat×Nat):=fun i=>(#[(0,1),(1,1),(2,1)]:Array (Nat×Nat))[i]?
theorem bt223:∀ps,Tryz.prog.built 223 ps=Instr.fill z9Y #[.int .i64 0,.int .i64 0,.int .i64 0] ps:=fun ps=>by kernel_rfl
theorem zXO:zX7 qh .eql 42:=by
 intro a0 a1 a2 b0 b1 b2 x y w;have hg:(eqGuard .eql 42 x y (.agg #[.int .i64 a0,.int .i64 a1,.int .i64 a2]) (.agg #[.int .i64 b0,.int .i64 b1,.int .i64 b2])).run qh w=.ok () w:=by simp[eqGuard,(by kernel_rfl:Tryz.prog.eqGuardType Tryz.prog.depth 42=false)]
 have hf:(Tryz.prog.fieldsOf 42).toList=(match Tryz.prog.underlying 42 with|some (.struct fs)=>fs.toList|_=>[]):=by kernel_rfl
 refine⟨hg,?_⟩;rw[run_eql_struct,run_equalIn_agg (d:=9999) (ht:=by kernel_rfl) (hp:=by kernel_rfl),hf,Tryz.underlying42];by_cases h0:a0=b0<;>by_cases h1:a1=b1<;>by_cases h2:a2=b2<;>simp[Op.eqFields,part,go_sem,h0,h1,h2]
theorem zXE:zX7 qh .neq 42:=by
 intro a0 a1 a2 b0 b1 b2 x y w;have hg:(eqGuard .neq 42 x y (.agg #[.int .i64 a0,.int .i64 a1,.int .i64 a2]) (.agg #[.int .i64 b0,.int .i64 b1,.int .i64 b2])).run qh w=.ok () w:=by simp[eqGuard,(by kernel_rfl:Tryz.prog.eqGuardType Tryz.prog.depth 42=false)]
 have hf:(Tryz.prog.fieldsOf 42).toList=(match Tryz.prog.underlying 42 with|some (.struct fs)=>fs.toList|_=>[]):=by kernel_rfl
 refine⟨hg,?_⟩;rw[run_neq_struct,run_equalIn_agg (d:=9999) (ht:=by kernel_rfl) (hp:=by kernel_rfl),hf,Tryz.underlying42];by_cases h0:a0=b0<;>by_cases h1:a1=b1<;>by_cases h2:a2=b2<;>simp[Op.eqFields,part,go_sem,h0,h1,h2]
theorem qAu:z7m qh .eql 184:=by
 intro a0 a1 b0 b1 x y w;have hg:(eqGuard .eql 184 x y (.agg #[.int .i64 a0,.int .i64 a1]) (.agg #[.int .i64 b0,.int .i64 b1])).run qh w=.ok () w:=by simp[eqGuard,(by kernel_rfl:Tryz.prog.eqGuardType Tryz.prog.depth 184=false)]
 have hf:(Tryz.prog.fieldsOf 184).toList=(match Tryz.prog.underlying 184 with|some (.struct fs)=>fs.toList|_=>[]):=by kernel_rfl
 refine⟨hg,?_⟩;rw[run_eql_struct,run_equalIn_agg (d:=9999) (ht:=by kernel_rfl) (hp:=by kernel_rfl),hf,Tryz.underlying184];by_cases h0:a0=b0<;>by_cases h1:a1=b1<;>simp[Op.eqFields,part,go_sem,h0,h1]
def zEw(x:qf):Value:=.string x
def zGT(x:qf):Value:=.string x
def kv156(p:qf×qf):Value×Value:=(zEw p.1,zGT p.2)
theorem kt156:KeyT qh 9 zEw:=by
 refine z6E (.string) Tryz.underlying9 (fun b a w=>?_) (fun a b=>?_) (fun a=>?_)
 ·exact MapKept.run_checkKey Tryz.underlying9 (by simp[MapKept.IsKey,zEw]) b 9999
 ·simp[zEw,Instr.sameNow,z7H]
 ·simp[zEw,Instr.sameBits,z7H]
theorem zHU:MpOk qh 156 zEw zGT qg:=⟨9,9,Tryz.underlying156,kt156,by kernel_rfl,fun _=>rfl⟩
def zXP(x:τF):Value:=.agg #[.int .i64 x.1,.int .i64 x.2.1,.int .i64 x.2.2]
def z3h(x:Int):Value:=.int .i64 x
def zEt(p:τF×Int):Value×Value:=(zXP p.1,z3h p.2)
theorem kt162:KeyT qh 42 zXP:=by
 have hf:(Tryz.prog.fieldsOf 42).toList=(match Tryz.prog.underlying 42 with|some (.struct fs)=>fs.toList|_=>[]):=by kernel_rfl
 refine z6F _ Tryz.underlying42 (fun b a w=>?_) (fun a b w=>?_) (fun _ _=>rfl) (fun a=>?_)
 ·obtain⟨a0,a1,a2⟩:=a;have hi:∀(b:Bool)(a:Int)(w:World),(Instr.checkKey b 9999 3 (.int .i64 a)).run qh w=.ok () w:=fun b a w=>MapKept.run_checkKey Tryz.underlying3 (by simp[MapKept.IsKey]) b 9998;show (Instr.checkKey b (9998+1+1) _ (.agg #[.int .i64 a0,.int .i64 a1,.int .i64 a2])).run _ w=_;unfold Instr.checkKey;simp[part,go_sem,hi]
 ·obtain⟨a0,a1,a2⟩:=a;obtain⟨b0,b1,b2⟩:=b;unfold zXP;rw[show Op.equal 42=Op.equalIn 10000 42 from rfl,run_equalIn_agg (d:=9999) (ht:=by kernel_rfl) (hp:=by kernel_rfl),hf,Tryz.underlying42];by_cases h0:a0=b0<;>by_cases h1:a1=b1<;>by_cases h2:a2=b2<;>simp[Op.eqFields,part,go_sem,h0,h1,h2]
 ·obtain⟨a0,a1,a2⟩:=a;exact z4e 9999 [a0,a1,a2]
theorem z94:MpOk qh 162 zXP z3h 0:=⟨42,3,Tryz.underlying162,kt162,by kernel_rfl,fun _=>rfl⟩
def zSH(a0:qf)(a1:qf):=fC zI0 (zAB a0 a1) fun _=>zJI
def zBP(a0:Int):=fC zGe (qS a0) fun _=>zHM
def zVI(a0:List qf)(a1:qf):=fC zRf (zCs a0 a1) fun _=>zTR
theorem zRl:CfW qh 64:=cfW Tryz.func64
noncomputable def zSr(vs1:qf)(b2:Int):T qh (List qf):=
 .n1 (nilN 9 1 (by decide))<|
 .n1 (nilN 9 1 (by decide))<|
 .loop (fun n X_1=>zBA b2 vs1 n X_1.1 X_1.2.1 X_1.2.2) ((0,0,([]:List qf))) (mb 34 227) [40] (fun s X_1 γ=>s.pc (mb 34 227) [40] [(6,I X_1.1),(7,I X_1.2.1)] [(40,.arr 9 1 (X_1.2.2.map c9))]) (fun X_1=>
 .cond (ltI X_1.2.1 ((vs1.size:Int))) (.op0 (idxs vs1 X_1.2.1) fun e9=>
 .cond (eqI e9 b2) (.op0 (zEJ vs1 X_1.1 X_1.2.1) fun u11=>.n1 bsl<|.opx (app ct9 X_1.2.2 ([vs1.extract (Int.toNat X_1.1) (Int.toNat X_1.2.1)])) fun u12=>
 .frc (w64 (X_1.2.1+1)) fun vfrom13=>
 .frc (w64 (X_1.2.1+1)) fun i14=>.ret (.inl ((vfrom13,i14,X_1.2.2++([vs1.extract (Int.toNat X_1.1) (Int.toNat X_1.2.1)])))))<|
 .frc (w64 (X_1.2.1+1)) fun i15=>.ret (.inl ((X_1.1,i15,X_1.2.2))))<|.ret (.inr ((X_1.1,X_1.2.2)))) (mb 34 97) [40] (fun s o7 γ=>s.pc (mb 34 97) [40] [(6,I o7.1)] [(40,.arr 9 1 (o7.2.map c9))]) fun o7=>
 .op0 (zEJ vs1 o7.1 ((vs1.size:Int))) fun u16=>.n1 bsl<|.opx (app ct9 o7.2 ([vs1.extract (Int.toNat o7.1) (Int.toNat ((vs1.size:Int)))])) fun u17=>
 .lt (o7.2++([vs1.extract (Int.toNat o7.1) (Int.toNat ((vs1.size:Int)))])) fun l18=>.ret l18
theorem zTX{vs1:qf}{b2:Int}{r:List qf}(h:zBJ vs1 b2=some r):zC qh 64 [.c (.v (.string vs1)),.c (.v (.int .u8 b2))] (.ow 0) [(0,.arr 9 1 (r.map c9))]:=CtT (zSr vs1 b2) (fun r=>(.ow 0,[(0,.arr 9 1 (r.map c9))])) (rs:=[.t 4]) (vs:=[.tmp 4]) Tryz.func64 rfl rfl (.cons rfl FitsL.nil) h
def zH7(vs1:qf)(b2:Int):=fC zRl (zBJ vs1 b2) fun _=>zTX
theorem zRj:CfW qh 46:=cfW Tryz.func46
noncomputable def zSp(vs1:qf)(bytes2:Int)(most3:Int):T qh (((List qf)×Bool)):=
 .n1 (nilN 9 1 (by decide))<|
 .dn<|.joinC (.seqT (.cond (ltI bytes2 ((vs1.size:Int))) (.ret true) (.seqT (.cond (!(vs1.toList==((⟨#[]⟩:qf)).toList)) (.op0 (idxs vs1 (w64 (((vs1.size:Int)) - 1))) fun e6=>.ret (!eqI e6 10)) (.ret false)) fun b7=>.ret b7)) fun b8=>.ret b8) (mb 37 16777221) [] (fun s q_1 γ=>s.pc (mb 37 16777221) [] [(24,Bo q_1)] []) fun q_1=>
 .cond q_1 (.n1 (nilN 9 1 (by decide))<|
 .late (frzH 48)<|.ret ((([]:List qf),false)))<|.op1 (zH7 vs1 10) fun y10=>
 .n0 (lenM ct9 y10)<|.hint (frzH 208)<|.op0 (slice ct9 y10 0 (w64 (((y10.length:Int)) - 1))) fun u11=>
 .n0 (lenM ct9 (subl y10 0 (w64 (((y10.length:Int)) - 1))))<|
 .lt (leI (((subl y10 0 (w64 (((y10.length:Int)) - 1))).length:Int)) most3) fun t12=>.ret ((subl y10 0 (w64 (((y10.length:Int)) - 1)),t12))
theorem zTV{vs1:qf}{bytes2:Int}{most3:Int}{r:((List qf)×Bool)}(h:zEK vs1 bytes2 most3=some r):zC qh 46 [.c (.v (.string vs1)),I bytes2,I most3] (.tc (.c (.sl (r.1.map c9))) (.tc (Bo r.2) .tn)) []:=CtT (zSp vs1 bytes2 most3) (fun r=>(.tc (.c (.sl (r.1.map c9))) (.tc (Bo r.2) .tn),[])) (rs:=[.t 6,.t 7]) (vs:=[.tmp 6,.tmp 7]) Tryz.func46 rfl rfl (.cons rfl (.cons rfl FitsL.nil)) h
def zVL(vs1:qf)(bytes2:Int)(most3:Int):=fC zRj (zEK vs1 bytes2 most3) fun _=>zTV
theorem zWY:CfW qh 47:=cfW Tryz.func47
noncomputable def zXj:T qh ((τS×(List τS))):=
 .n0 (bld pl53 bt53)<|.n0 (bld pl56 bt56)<|
 .ret (((-23,qg,([]:List τF)),([]:List τS)))
theorem zYH{r:(τS×(List τS))}(h:zF4=some r):zC qh 47 [] (.pt 0 0) [(0,.box [Ti r.1.1,.v (.string r.1.2.1),.v (.slice none 0 0),.v (.slice none 0 0)])]:=CbT (zXj) 0 (fun r=>[Ti r.1.1,.v (.string r.1.2.1),.v (.slice none 0 0),.v (.slice none 0 0)]) Tryz.func47 rfl rfl h
def zZ8:=fC zWY (zF4) fun _=>zYH
theorem zRh:CfW qh 89:=cfW Tryz.func89
noncomputable def zSn(word1:qf):T qh ((qf×Bool)):=
 .lt (word1.toList==((⟨#[100,105,115,99]⟩:qf)).toList) fun t2=>.cond t2 (
 .ret (((⟨#[110]⟩:qf),true)))<|
 .cond (word1.toList==((⟨#[115,101,116]⟩:qf)).toList) (
 .ret (((⟨#[108,102]⟩:qf),true)))<|.join (
 .lt (word1.toList==((⟨#[112,114,105,109,101]⟩:qf)).toList) fun t6=>.cond t6 (.ret t6)<|
 .lt (word1.toList==((⟨#[118,97,108,117,101]⟩:qf)).toList) fun t8=>.ret t8) (mb 27 528) [] (fun s j5 γ=>s.pc (mb 27 528) [] [(9,Bo j5)] []) fun j5=>
 .cond j5 (
 .ret (((⟨#[108,110]⟩:qf),true)))<|
 .cond (word1.toList==((⟨#[109,117,108]⟩:qf)).toList) (
 .ret (((⟨#[108,108,108]⟩:qf),true)))<|
 .cond (word1.toList==((⟨#[112,111,119]⟩:qf)).toList) (
 .ret (((⟨#[108,108,110]⟩:qf),true)))<|
 .lt (word1.toList==((⟨#[115,97,109,101]⟩:qf)).toList) fun t12=>.cond t12 (
 .ret (((⟨#[108,108]⟩:qf),true)))<|.join (
 .lt (word1.toList==((⟨#[102,114,101,101]⟩:qf)).toList) fun t15=>.cond t15 (.ret t15)<|
 .lt (word1.toList==((⟨#[115,104,111,119]⟩:qf)).toList) fun t17=>.cond t17 (.ret t17)<|
 .lt (word1.toList==((⟨#[105,110,100,101,120]⟩:qf)).toList) fun t19=>.cond t19 (.ret t19)<|
 .lt (word1.toList==((⟨#[111,114,100,101,114]⟩:qf)).toList) fun t21=>.cond t21 (.ret t21)<|
 .lt (word1.toList==((⟨#[103,101,110,117,115]⟩:qf)).toList) fun t23=>.ret t23) (mb 27 262160) [] (fun s j14 γ=>s.pc (mb 27 262160) [] [(18,Bo j14)] []) fun j14=>
 .cond j14 (
 .ret (((⟨#[108]⟩:qf),true)))<|
 .lt (word1.toList==((⟨#[110,97,109,101,115]⟩:qf)).toList) fun t25=>.cond t25 (.cond t25 (
 .ret (((⟨#[]⟩:qf),true)))<|
 .ret (((⟨#[]⟩:qf),false)))<|
 .lt (word1.toList==((⟨#[117,110,100,111]⟩:qf)).toList) fun t28=>.cond t28 (
 .ret (((⟨#[]⟩:qf),true)))<|
 .ret (((⟨#[]⟩:qf),false))
theorem zTT{word1:qf}{r:(qf×Bool)}(h:zDa word1=some r):zC qh 89 [.c (.v (.string word1))] (.tc (.c (.v (.string r.1))) (.tc (Bo r.2) .tn)) []:=CtT (zSn word1) (fun r=>(.tc (.c (.v (.string r.1))) (.tc (Bo r.2) .tn),[])) (rs:=[.t 2,.t 3]) (vs:=[.tmp 2,.tmp 3]) Tryz.func89 rfl rfl (.cons rfl (.cons rfl FitsL.nil)) h
def zVK(word1:qf):=fC zRh (zDa word1) fun _=>zTT
theorem zQI:CfW qh 90:=cfW Tryz.func90
noncomputable def zRC(w1:qf):T qh Bool:=
 .pl<|.joinC (.seqT (.cond (eqI ((w1.size:Int)) 1) (.op0 (idxs w1 0) fun e3=>.ret (leI 97 e3)) (.ret false)) fun b4=>.seqT (.cond b4 (.op0 (idxs w1 0) fun e6=>.ret (leI e6 122)) (.ret false)) fun b7=>.ret (b4,b7)) (mb 16 4) [] (fun s q_1 γ=>s.pc (mb 16 4) [] [(2,Bo q_1.2)] []) fun q_1=>
 .ret q_1.2
theorem zRV{w1:qf}{r:Bool}(h:zAS w1=some r):zC qh 90 [.c (.v (.string w1))] (Bo r) []:=CtU (zRC w1) 2 (fun r=>Bo r) Tryz.func90 rfl rfl h
def zSJ(w1:qf):=fC zQI (zAS w1) fun _=>zRV
theorem zQQ:CfW qh 136:=cfW Tryz.func136
noncomputable def zRK(vs1:qf)(first2:Int)(last3:Int):T qh ((qf×Bool)):=
 .pl<|.dn<|.joinC (.seqT (.cond (ltI ((vs1.size:Int)) 2) (.ret true) (.op0 (idxs vs1 0) fun e5=>.ret (!eqI e5 first2))) fun b6=>.seqT (.cond b6 (.ret true) (.op0 (idxs vs1 (w64 (((vs1.size:Int)) - 1))) fun e8=>.ret (!eqI e8 last3))) fun b9=>.ret (b6,b9)) (mb 31 33554433) [] (fun s q_1 γ=>s.pc (mb 31 33554433) [] [(25,Bo q_1.2)] []) fun q_1=>
 .cond q_1.2 (
 .ret (((⟨#[]⟩:qf),false)))<|.op0 (zEJ vs1 1 (w64 (((vs1.size:Int)) - 1))) fun u11=>
 .ret ((vs1.extract (Int.toNat 1) (Int.toNat (w64 (((vs1.size:Int)) - 1))),true))
theorem zR3{vs1:qf}{first2:Int}{last3:Int}{r:(qf×Bool)}(h:zBn vs1 first2 last3=some r):zC qh 136 [.c (.v (.string vs1)),.c (.v (.int .u8 first2)),.c (.v (.int .u8 last3))] (.tc (.c (.v (.string r.1))) (.tc (Bo r.2) .tn)) []:=CtT (zRK vs1 first2 last3) (fun r=>(.tc (.c (.v (.string r.1))) (.tc (Bo r.2) .tn),[])) (rs:=[.t 6,.t 7]) (vs:=[.tmp 6,.tmp 7]) Tryz.func136 rfl rfl (.cons rfl (.cons rfl FitsL.nil)) h
def zSP(vs1:qf)(first2:Int)(last3:Int):=fC zQQ (zBn vs1 first2 last3) fun _=>zR3
theorem zZN:CfW qh 93:=cfW Tryz.func93
noncomputable def zZt(vn1:Int)(lo2:Int)(hi3:Int):T qh Bool:=
 .pl<|.joinC (.selB (leI lo2 vn1) true [] fun w_2=>.ret w_2) (mb 15 64) [] (fun s q_3 γ=>s.pc (mb 15 64) [] [(6,Bo (bif q_3 then (leI vn1 hi3) else false))] []) fun q_3=>
 .ret (bif q_3 then (leI vn1 hi3) else false)
theorem z0J{vn1:Int}{lo2:Int}{hi3:Int}{r:Bool}(h:zBZ vn1 lo2 hi3=some r):zC qh 93 [I vn1,I lo2,I hi3] (Bo r) []:=CtU (zZt vn1 lo2 hi3) 6 (fun r=>Bo r) Tryz.func93 rfl rfl h
def zFT(vn1:Int)(lo2:Int)(hi3:Int):=fC zZN (zBZ vn1 lo2 hi3) fun _=>z0J
theorem zU9:CfW qh 138:=cfW Tryz.func138
noncomputable def zV9(vs1:qf):T qh Int:=
 .pl<|.dn<|.joinC (.op1 (zFT ((vs1.size:Int)) 1 10) fun y2=>.seqT (.cond (!y2) (.ret true) (.op0 (idxs vs1 0) fun e4=>.selB (eqI e4 48) true [] fun w_4=>.ret (bif w_4 then (ltI 1 ((vs1.size:Int))) else false))) fun b6=>.ret (y2,b6)) (mb 44 262145) [] (fun s q_7 γ=>s.pc (mb 44 262145) [] [(18,Bo q_7.2)] []) fun q_7=>
 .cond q_7.2 (
 .ret (-1))<|
 .loopS (fun n X_6=>zBb vs1 n X_6.1 X_6.2) ((0,0)) (mb 44 25) [] (fun s X_6 γ=>s.pc (mb 44 25) [] [(3,I X_6.1),(4,I X_6.2)] []) (fun X_6=>
 .cond (ltI X_6.2 ((vs1.size:Int))) (.pl<|.dn<|.dn<|.joinC (.op0 (idxs vs1 X_6.2) fun e13=>.seqT (.cond (ltI e13 48) (.ret true) (.op0 (idxs vs1 X_6.2) fun e15=>.ret (ltI 57 e15))) fun b16=>.ret (e13,b16)) (mb 44 17179869209) [] (fun s q_5 γ=>s.pc (mb 44 17179869209) [] [(34,Bo q_5.2)] []) fun q_5=>
 .cond q_5.2 (
 .ret (.early (-1)))<|.op0 (idxs vs1 X_6.2) fun e18=>.n0 au<|.n0 au<|
 .frc (w64 ((w64 (10*X_6.1))+(IntKind.i64.wrap (IntKind.u8.wrap (e18 - 48))))) fun vn19=>
 .frc (w64 (X_6.2+1)) fun i20=>.ret (.again ((vn19,i20))))<|.ret (.done X_6.1)) (mb 44 8) [] (fun s o11 γ=>s.pc (mb 44 8) [] [(3,I o11)] []) (fun r=>r) fun o11=>
 .ret o11
theorem zVx{vs1:qf}{r:Int}(h:zGF vs1=some r):zC qh 138 [.c (.v (.string vs1))] (I r) []:=CtU (zV9 vs1) 2 (fun r=>I r) Tryz.func138 rfl rfl h
theorem zW6:∀args w,(callFunc 92 args).run qh w=.ok (.enter 92 args) w:=qW Tryz.func92 kk kk
set_option maxRecDepth 100000 in
set_option maxHeartbeats 400000 in
theorem zYQ{vs1:qf}{r:(Int×Bool)}(h:zBc vs1=some r):zC qh 92 [.c (.v (.string vs1))] (.tc (I r.1) (.tc (Bo r.2) .tn)) []:=by
  refine zAl (rs:=[.t 2,.t 3]) (vs:=[.tmp 2,.tmp 3]) Tryz.func92 rfl rfl (.cons rfl (.cons rfl FitsL.nil)) (by decide) 36 rfl ?_
  unfold zBc at h;show V _ _ ⟨.c (.v (.string vs1))::bt 35 [],[]⟩ _;refine jI (mb 36 1) [] (s1:=⟨.c (.v (.string vs1))::bt 35 [],[]⟩) ?_ ?_
  ·refine L0 rfl rfl (zG (I 0) rfl kk) ?_
   refine L0 rfl rfl (zG (Bo false) rfl kk) ?_
   refine zJ ?_
   kernel_rfl
  obtain⟨b4,hb4,h⟩:=zT h;refine jI (mb 36 17) [] (s1:=⟨.c (.v (.string vs1))::bt 3 (Bo b4::bt 31 []),[]⟩) ?_ ?_
  ·refine L0 rfl rfl (zK (.c (.v (.string vs1))) rfl kk) ?_
   refine L0 rfl rfl (zZY (b:=vs1) Tryz.underlying9 rfl kk) ?_
   refine L0 rfl rfl (zQ9 (k:=.i64) (a:=(vs1.size:Int)) (b:=1) rfl kk kk) ?_
   refine L0 rfl rfl (zK (Bo (ltI 1 ((vs1.size:Int)))) rfl kk) ?_
   refine zBa (ltI 1 ((vs1.size:Int))) (fun hc2=>?_) (fun hc2=>?_)
   ·have hb4:=zCZ hb4 hc2;obtain⟨e3,he3,hb4⟩:=zT hb4;have hb4:=zZ hb4;refine zD _ rfl rfl kk hc2 (zB rfl (zK (.c (.v (.string vs1))) rfl kk)) ?_
    refine zD _ rfl rfl kk hc2 (zB rfl (zZZ (b:=vs1) (k:=.i64) (n:=0) (v:=e3) Tryz.underlying9 rfl kk kk he3)) ?_
    refine zD _ rfl rfl kk hc2 (zB rfl (zJD (k:=.u8) (a:=e3) (b:=45) rfl kk kk)) ?_
    refine zW rfl (zB rfl (zLF (b:=ltI 1 ((vs1.size:Int))) (p:=eqI e3 45) rfl kk hc2 kk hb4)) ?_
    refine L0 rfl rfl (zG (Bo b4) rfl kk) ?_
    refine zJ ?_
    kernel_rfl
   ·have hb4:=zZ (zB7 hb4 hc2);refine zY _ rfl rfl kk hc2 rfl ?_
    refine zY _ rfl rfl kk hc2 rfl ?_
    refine zY _ rfl rfl kk hc2 rfl ?_
    refine zW rfl (zB rfl (zLG (b:=ltI 1 ((vs1.size:Int))) (p:=false) rfl kk hc2 kk hb4)) ?_
    refine L0 rfl rfl (zG (Bo b4) rfl kk) ?_
    refine zJ ?_
    kernel_rfl
  obtain⟨j5,hj5,h⟩:=zT h;refine qB6 (mb 36 17) [] (s1:=⟨.c (.v (.string j5))::bt 3 (Bo b4::bt 31 []),[]⟩) ?_ ?_
  ·clear h;have h:=hj5;clear hj5;refine jI (mb 36 16401) [] (s1:=⟨.c (.v (.string vs1))::bt 3 (Bo b4::bt 9 (Bo b4::bt 21 [])),[]⟩) ?_ ?_
   ·refine L0 rfl rfl (zK (Bo b4) rfl kk) ?_
    refine zJ ?_
    kernel_rfl
   refine zD4 rfl (fun hc6=>?_) (fun hc6=>?_)
   ·have h:=zCZ h hc6;obtain⟨u7,hu7,h⟩:=zT h;refine z1K (mb 36 17) [] (s1:=⟨.c (.v (.string (vs1.extract (Int.toNat 1) (Int.toNat ((vs1.size:Int))))))::bt 3 (Bo b4::bt 31 []),[]⟩) ?_ ?_
    ·refine L0 rfl rfl (zK (.c (.v (.string vs1))) rfl kk) ?_
     refine L0 rfl rfl (zX3 (b:=vs1) (l:=1) (h:=(vs1.size:Int)) Tryz.underlying9 rfl kk (fun y hy=>by cases hy;exact⟨.i64,kk⟩) (fun hh=>by cases hh) (fun y hy=>by cases hy) (fun _=>rfl) (zJi hu7)) ?_
     refine L0 rfl rfl (zG (.c (.v (.string (vs1.extract (Int.toNat 1) (Int.toNat ((vs1.size:Int))))))) rfl kk) ?_
     refine zJ ?_
     kernel_rfl
    obtain rfl:=zZ h;show St.keep _ _ _=_;rfl
   ·have h:=zB7 h hc6;refine zEl ?_
    obtain rfl:=zZ h;show St.keep _ _ _=_;rfl
  obtain⟨y8,hy8,h⟩:=zT h;refine jI (mb 36 48) [] (s1:=⟨bt 4 (Bo b4::I y8::bt 30 []),[]⟩) ?_ ?_
  ·refine L0 rfl rfl (zK (.c (.v (.string j5))) rfl kk) ?_
   refine L1 rfl rfl (zC2 (zVx hy8) zU9 rfl kk) ?_
   refine L0 rfl rfl (zG (I y8) rfl kk) ?_
   refine zJ ?_
   kernel_rfl
  refine zD7 ?_
  obtain⟨t12,ht12,h⟩:=zT h;have ht12:=zZ ht12;refine jI (mb 36 2147483696) [] (s1:=⟨bt 4 (Bo b4::I y8::bt 25 (Bo t12::bt 4 [])),[]⟩) ?_ ?_
  ·refine L0 rfl rfl (zK (I y8) rfl kk) ?_
   refine L0 rfl rfl (zH2 (k:=.i64) (a:=y8) (b:=0) rfl kk kk) ?_
   refine L0 rfl rfl (zK (Bo (ltI y8 0)) rfl kk) ?_
   refine zBa (ltI y8 0) (fun hc9=>?_) (fun hc9=>?_)
   ·refine qV _ rfl rfl kk hc9 rfl ?_
    refine qV _ rfl rfl kk hc9 rfl ?_
    refine qK rfl rfl kk rfl ?_
    refine qK rfl rfl kk rfl ?_
    refine qV _ rfl rfl kk hc9 rfl ?_
    refine zW rfl (zB rfl (zAt (b:=ltI y8 0) (p:=true) (q:=bif b4 then (eqI y8 0) else false) rfl kk hc9 kk)) ?_
    refine L0 rfl rfl (zK (Bo (bif (ltI y8 0) then true else (bif b4 then (eqI y8 0) else false))) rfl kk) ?_
    refine zBa (bif (ltI y8 0) then true else (bif b4 then (eqI y8 0) else false)) (fun hc11=>?_) (fun hc11=>?_)
    ·refine qV _ rfl rfl kk hc11 rfl ?_
     refine qV _ rfl rfl kk hc11 rfl ?_
     refine zW rfl (zB rfl (zAt (b:=bif (ltI y8 0) then true else (bif b4 then (eqI y8 0) else false)) (p:=true) (q:=ltI 1000000 y8) rfl kk hc11 kk)) ?_
     refine zJ ?_
     subst ht12
     kernel_rfl
    ·refine zD _ rfl rfl kk hc11 (zB rfl (zK (I y8) rfl kk)) ?_
     refine zD _ rfl rfl kk hc11 (zB rfl (zQ9 (k:=.i64) (a:=y8) (b:=1000000) rfl kk kk)) ?_
     refine zW rfl (zB rfl (zB9 (b:=bif (ltI y8 0) then true else (bif b4 then (eqI y8 0) else false)) (p:=true) (q:=ltI 1000000 y8) rfl kk hc11 kk)) ?_
     refine zJ ?_
     subst ht12
     kernel_rfl
   ·refine zD _ rfl rfl kk hc9 (zB rfl (zK (Bo b4) rfl kk)) ?_
    refine zD _ rfl rfl kk hc9 (zB rfl (zK (Bo b4) rfl kk)) ?_
    refine zBa b4 (fun hc10=>?_) (fun hc10=>?_)
    ·refine zD _ rfl rfl kk hc10 (zB rfl (zK (I y8) rfl kk)) ?_
     refine zD _ rfl rfl kk hc10 (zB rfl (zJD (k:=.i64) (a:=y8) (b:=0) rfl kk kk)) ?_
     refine zD _ rfl rfl kk hc9 (zB rfl (zAt (b:=b4) (p:=eqI y8 0) (q:=false) rfl kk hc10 kk)) ?_
     refine zW rfl (zB rfl (zB9 (b:=ltI y8 0) (p:=true) (q:=bif b4 then (eqI y8 0) else false) rfl kk hc9 kk)) ?_
     refine L0 rfl rfl (zK (Bo (bif (ltI y8 0) then true else (bif b4 then (eqI y8 0) else false))) rfl kk) ?_
     refine zBa (bif (ltI y8 0) then true else (bif b4 then (eqI y8 0) else false)) (fun hc11=>?_) (fun hc11=>?_)
     ·refine qV _ rfl rfl kk hc11 rfl ?_
      refine qV _ rfl rfl kk hc11 rfl ?_
      refine zW rfl (zB rfl (zAt (b:=bif (ltI y8 0) then true else (bif b4 then (eqI y8 0) else false)) (p:=true) (q:=ltI 1000000 y8) rfl kk hc11 kk)) ?_
      refine zJ ?_
      subst ht12
      kernel_rfl
     ·refine zD _ rfl rfl kk hc11 (zB rfl (zK (I y8) rfl kk)) ?_
      refine zD _ rfl rfl kk hc11 (zB rfl (zQ9 (k:=.i64) (a:=y8) (b:=1000000) rfl kk kk)) ?_
      refine zW rfl (zB rfl (zB9 (b:=bif (ltI y8 0) then true else (bif b4 then (eqI y8 0) else false)) (p:=true) (q:=ltI 1000000 y8) rfl kk hc11 kk)) ?_
      refine zJ ?_
      subst ht12
      kernel_rfl
    ·refine zY _ rfl rfl kk hc10 rfl ?_
     refine zY _ rfl rfl kk hc10 rfl ?_
     refine zD _ rfl rfl kk hc9 (zB rfl (zB9 (b:=b4) (p:=eqI y8 0) (q:=false) rfl kk hc10 kk)) ?_
     refine zW rfl (zB rfl (zB9 (b:=ltI y8 0) (p:=true) (q:=bif b4 then (eqI y8 0) else false) rfl kk hc9 kk)) ?_
     refine L0 rfl rfl (zK (Bo (bif (ltI y8 0) then true else (bif b4 then (eqI y8 0) else false))) rfl kk) ?_
     refine zBa (bif (ltI y8 0) then true else (bif b4 then (eqI y8 0) else false)) (fun hc11=>?_) (fun hc11=>?_)
     ·refine qV _ rfl rfl kk hc11 rfl ?_
      refine qV _ rfl rfl kk hc11 rfl ?_
      refine zW rfl (zB rfl (zAt (b:=bif (ltI y8 0) then true else (bif b4 then (eqI y8 0) else false)) (p:=true) (q:=ltI 1000000 y8) rfl kk hc11 kk)) ?_
      refine zJ ?_
      subst ht12
      kernel_rfl
     ·refine zD _ rfl rfl kk hc11 (zB rfl (zK (I y8) rfl kk)) ?_
      refine zD _ rfl rfl kk hc11 (zB rfl (zQ9 (k:=.i64) (a:=y8) (b:=1000000) rfl kk kk)) ?_
      refine zW rfl (zB rfl (zB9 (b:=bif (ltI y8 0) then true else (bif b4 then (eqI y8 0) else false)) (p:=true) (q:=ltI 1000000 y8) rfl kk hc11 kk)) ?_
      refine zJ ?_
      subst ht12
      kernel_rfl
  refine zD4 rfl (fun hc13=>?_) (fun hc13=>?_)
  ·have h:=zCZ h hc13;refine jI (mb 36 12) [] (s1:=⟨.bot::.bot::I 0::Bo false::bt 32 [],[]⟩) ?_ ?_
   ·refine L0 rfl rfl (zG (I 0) rfl kk) ?_
    refine L0 rfl rfl (zG (Bo false) rfl kk) ?_
    refine zJ ?_
    kernel_rfl
   refine zEh ?_
   obtain rfl:=zZ h;show Post _ _ _ _ _;exact⟨.inr rfl,rfl,rfl,rfl⟩
  ·have h:=zB7 h hc13;refine zEl ?_
   show V _ _ _ _;refine zD7 ?_
   refine jI (mb 36 4294967328) [] (s1:=⟨bt 5 (I y8::bt 26 (Bo b4::bt 3 [])),[]⟩) ?_ ?_
   ·refine L0 rfl rfl (zK (Bo b4) rfl kk) ?_
    refine zJ ?_
    kernel_rfl
   refine zD4 rfl (fun hc14=>?_) (fun hc14=>?_)
   ·have h:=zCZ h hc14;obtain⟨t15,ht15,h⟩:=zQo h;refine jI (mb 36 12) [] (s1:=⟨.bot::.bot::I t15::Bo true::bt 32 [],[]⟩) ?_ ?_
    ·refine L0 rfl rfl (zK (I y8) rfl kk) ?_
     refine L0 rfl rfl (zUy (a:=y8) rfl kk) ?_
     refine L0 rfl rfl (zG (I (w64 (0 - y8))) rfl kk) ?_
     refine L0 rfl rfl (zG (Bo true) rfl kk) ?_
     refine zJ ?_
     subst ht15
     kernel_rfl
    refine zEh ?_
    obtain rfl:=zZ h;show Post _ _ _ _ _;exact⟨.inr rfl,rfl,rfl,rfl⟩
   ·have h:=zB7 h hc14;refine zEl ?_
    show V _ _ _ _;refine jI (mb 36 12) [] (s1:=⟨.bot::.bot::I y8::Bo true::bt 32 [],[]⟩) ?_ ?_
    ·refine L0 rfl rfl (zK (I y8) rfl kk) ?_
     refine L0 rfl rfl (zG (I y8) rfl kk) ?_
     refine L0 rfl rfl (zG (Bo true) rfl kk) ?_
     refine zJ ?_
     kernel_rfl
    refine zEh ?_
    obtain rfl:=zZ h;show Post _ _ _ _ _;exact⟨.inr rfl,rfl,rfl,rfl⟩
def zPB(vs1:qf):=fC zW6 (zBc vs1) fun _=>zYQ
theorem zUg:CfW qh 137:=cfW Tryz.func137
noncomputable def zVg(vs1:qf)(b2:Int)(count3:Int):T qh (List Int):=
 .n1 (nilN 3 1 (by decide))<|
 .op1 (zH7 vs1 b2) fun y4=>
 .n0 (lenM ct9 y4)<|
 .cond (!eqI ((y4.length:Int)) count3) (.n1 (nilN 3 1 (by decide))<|
 .ret (([]:List Int)))<|.n1 (nilN 3 1 (by decide))<|
 .n0 (lenM ct9 y4)<|
 .loopS (fun n X_1=>zAp y4 n X_1.1 X_1.2) ((0,([]:List Int))) (mb 39 7340288) [64,120] (fun s X_1 γ=>s.pc (mb 39 7340288) [64,120] [(22,I X_1.1)] [(64,.arr 3 1 (X_1.2.map c3))]) (fun X_1=>
 .cond (ltI X_1.1 ((y4.length:Int))) (.op0 (zBF ct9 y4 X_1.1) fun e11=>.op0 (ldo ct9 y4 X_1.1) fun e12=>
 .op1 (zPB e12) fun y13=>
 .cond (!y13.2) (.n1 (nilN 3 1 (by decide))<|
 .ret (.early (([]:List Int))))<|.n1 bsl<|.opx (app ct3 X_1.2 ([y13.1])) fun u15=>
 .frc (w64 (X_1.1+1)) fun t16=>.ret (.again ((t16,X_1.2++([y13.1])))))<|.ret (.done X_1.2)) (mb 39 256) [64] (fun s o9 γ=>s.pc (mb 39 256) [64] [] [(64,.arr 3 1 (o9.map c3))]) (fun r=>r) fun o9=>
 .ret o9
theorem zWE{vs1:qf}{b2:Int}{count3:Int}{r:List Int}(h:zCI vs1 b2 count3=some r):zC qh 137 [.c (.v (.string vs1)),.c (.v (.int .u8 b2)),I count3] (.ow 0) [(0,.arr 3 1 (r.map c3))]:=CtT (zVg vs1 b2 count3) (fun r=>(.ow 0,[(0,.arr 3 1 (r.map c3))])) (rs:=[.t 6]) (vs:=[.tmp 6]) Tryz.func137 rfl rfl (.cons rfl FitsL.nil) h
def zWk(vs1:qf)(b2:Int)(count3:Int):=fC zUg (zCI vs1 b2 count3) fun _=>zWE
theorem zUf:CfW qh 91:=cfW Tryz.func91
noncomputable def zVf(vs1:qf):T qh ((τF×Bool)):=
 .op1 (zSP vs1 40 41) fun y2=>
 .op1 (zWk y2.1 44 3) fun y3=>
 .dn<|.joinC (.selB (!y2.2) false [.z (lenM ct3 y3)] fun w_4=>.ret w_4) (mb 32 1048644) [104,16] (fun s q_5 γ=>s.pc (mb 32 1048644) [104,16] [(20,Bo (bif q_5 then true else (!eqI ((y3.length:Int)) 3)))] []) fun q_5=>
 .cond (bif q_5 then true else (!eqI ((y3.length:Int)) 3)) (.n0 (bld pl42 bt42)<|
 .ret (((0,0,0),false)))<|.draw 10 []<|.op0 (zBF ct3 y3 0) fun e6=>.op0 (ldo ct3 y3 0) fun e7=>.op0 (zBF ct3 y3 1) fun e8=>.op0 (ldo ct3 y3 1) fun e9=>.op0 (zBF ct3 y3 2) fun e10=>.op0 (ldo ct3 y3 2) fun e11=>.n0 (bld pl42 bt42)<|
 .ret (((e7,e9,e11),true))
theorem zWD{vs1:qf}{r:(τF×Bool)}(h:zCH vs1=some r):zC qh 91 [.c (.v (.string vs1))] (.tc (.ag [Ti r.1.1,Ti r.1.2.1,Ti r.1.2.2]) (.tc (Bo r.2) .tn)) []:=CtT (zVf vs1) (fun r=>(.tc (.ag [Ti r.1.1,Ti r.1.2.1,Ti r.1.2.2]) (.tc (Bo r.2) .tn),[])) (rs:=[.w 2 3,.t 3]) (vs:=[.cell 2 42,.tmp 3]) Tryz.func91 rfl rfl (.cons ⟨rfl,wd42⟩ (.cons rfl FitsL.nil)) h
def zWj(vs1:qf):=fC zUf (zCH vs1) fun _=>zWD
theorem zU3:CfW qh 65:=cfW Tryz.func65
noncomputable def zV3(t1:qf):T qh ((qf×((List qf)×τF×Int)×Bool)):=
 .op1 (zH7 t1 32) fun y2=>
 .op0 (zBF ct9 y2 0) fun e3=>.op0 (ldo ct9 y2 0) fun e4=>.op1 (zVK e4) fun y5=>
 .dn<|.joinC (.selB (!y5.2) false [.z (lenM ct9 y2)] fun w_52=>.ret w_52) (mb 89 536871400) [48,96,24] (fun s q_105 γ=>s.pc (mb 89 536871400) [48,96,24] [(29,Bo (bif q_105 then true else (!eqI ((y2.length:Int)) (w64 (((y5.1.size:Int))+1)))))] []) fun q_105=>
 .lt (bif q_105 then true else (!eqI ((y2.length:Int)) (w64 (((y5.1.size:Int))+1)))) fun t7=>.cond t7 (.draw 2 []<|
 .late (zYa 24 0)<|.ret (((⟨#[]⟩:qf),(([]:List qf),(0,0,0),0),false)))<|
 .hint (nilH 90000 9 1)<|.loop (fun n X_104=>jG y2 y5 n X_104.1 X_104.2.1 X_104.2.2.1 X_104.2.2.2.1 X_104.2.2.2.2.1 X_104.2.2.2.2.2.1 X_104.2.2.2.2.2.2) ((y5.2,0,([]:List qf),0,0,0,0)) (mb 89 1000) [90000,48,96,24] (fun s X_104 γ=>s.pc (mb 89 1000) [90000,48,96,24] [(8,Bo X_104.1),(9,I X_104.2.1)] [(90000,.qarr (γ 90000) 9 1 (X_104.2.2.1.map c9)),(48,.box [.v (zF (γ 90000)),Ti X_104.2.2.2.1,Ti X_104.2.2.2.2.1,Ti X_104.2.2.2.2.2.1,Ti X_104.2.2.2.2.2.2])]) (fun X_104=>
 .cond (ltI X_104.2.1 ((y5.1.size:Int))) (.op0 (zBF ct9 y2 (w64 (X_104.2.1+1))) fun e19=>.op0 (ldo ct9 y2 (w64 (X_104.2.1+1))) fun e20=>.op1 (zSJ e20) fun y21=>
 .op0 (idxs y5.1 X_104.2.1) fun e22=>
 .cond (eqI e22 108) (.draw 8 []<|.op0 (zBF ct9 y2 (w64 (X_104.2.1+1))) fun e24=>.op0 (ldo ct9 y2 (w64 (X_104.2.1+1))) fun e25=>.n1 bsl<|.late (zPQ 59 90000)<|.opx (app ct9 X_104.2.2.1 ([e25])) fun u26=>.late (pinH 66 90000)<|
 .joinC (.selB X_104.1 true [] fun w_98=>.ret w_98) (mb 89 1000) [90000,48,96,24] (fun s q_99 γ=>s.pc (mb 89 1000) [90000,48,96,24] [(8,Bo (bif q_99 then y21 else false))] [(90000,.qarr (γ 90000) 9 1 ((X_104.2.2.1++([e25])).map c9)),(48,.box [.v (zF (γ 90000)),Ti X_104.2.2.2.1,Ti X_104.2.2.2.2.1,Ti X_104.2.2.2.2.2.1,Ti X_104.2.2.2.2.2.2])]) fun q_99=>
 .frc (w64 (X_104.2.1+1)) fun i28=>.ret (.inl ((bif q_99 then y21 else false,i28,X_104.2.2.1++([e25]),X_104.2.2.2.1,X_104.2.2.2.2.1,X_104.2.2.2.2.2.1,X_104.2.2.2.2.2.2))))<|
 .cond (eqI e22 102) (.op0 (zBF ct9 y2 (w64 (X_104.2.1+1))) fun e30=>.op0 (ldo ct9 y2 (w64 (X_104.2.1+1))) fun e31=>.op1 (zWj e31) fun y32=>
 .joinC (.selB X_104.1 true [] fun w_100=>.ret w_100) (mb 89 1000) [90000,48,96,24] (fun s q_101 γ=>s.pc (mb 89 1000) [90000,48,96,24] [(8,Bo (bif q_101 then y32.2 else false))] [(90000,.qarr (γ 90000) 9 1 (X_104.2.2.1.map c9)),(48,.box [.v (zF (γ 90000)),Ti y32.1.1,Ti y32.1.2.1,Ti y32.1.2.2,Ti X_104.2.2.2.2.2.2])]) fun q_101=>
 .frc (w64 (X_104.2.1+1)) fun i34=>.ret (.inl ((bif q_101 then y32.2 else false,i34,X_104.2.2.1,y32.1.1,y32.1.2.1,y32.1.2.2,X_104.2.2.2.2.2.2))))<|.op0 (zBF ct9 y2 (w64 (X_104.2.1+1))) fun e35=>.op0 (ldo ct9 y2 (w64 (X_104.2.1+1))) fun e36=>.op1 (zPB e36) fun y37=>
 .joinC (.selB X_104.1 true [] fun w_102=>.ret w_102) (mb 89 1000) [90000,48,96,24] (fun s q_103 γ=>s.pc (mb 89 1000) [90000,48,96,24] [(8,Bo (bif q_103 then y37.2 else false))] [(90000,.qarr (γ 90000) 9 1 (X_104.2.2.1.map c9)),(48,.box [.v (zF (γ 90000)),Ti X_104.2.2.2.1,Ti X_104.2.2.2.2.1,Ti X_104.2.2.2.2.2.1,Ti y37.1])]) fun q_103=>
 .frc (w64 (X_104.2.1+1)) fun i39=>.ret (.inl ((bif q_103 then y37.2 else false,i39,X_104.2.2.1,X_104.2.2.2.1,X_104.2.2.2.2.1,X_104.2.2.2.2.2.1,y37.1))))<|.ret (.inr ((X_104.1,X_104.2.2.1,X_104.2.2.2.1,X_104.2.2.2.2.1,X_104.2.2.2.2.2.1,X_104.2.2.2.2.2.2)))) (mb 89 360) [90000,48,96,24] (fun s o17 γ=>s.pc (mb 89 360) [90000,48,96,24] [(8,Bo o17.1)] [(90000,.qarr (γ 90000) 9 1 (o17.2.1.map c9)),(48,.box [.v (zF (γ 90000)),Ti o17.2.2.1,Ti o17.2.2.2.1,Ti o17.2.2.2.2.1,Ti o17.2.2.2.2.2])]) fun o17=>
 .hint (z3a 90000 48 0)<|.draw 7 [(6,24)]<|.op0 (zBF ct9 y2 0) fun e40=>.op0 (ldo ct9 y2 0) fun e41=>
 .ret ((e41,(o17.2.1,(o17.2.2.1,o17.2.2.2.1,o17.2.2.2.2.1),o17.2.2.2.2.2),o17.1))
theorem zVr{t1:qf}{r:(qf×((List qf)×τF×Int)×Bool)}(h:qL t1=some r):zC qh 65 [.c (.v (.string t1))] (.tc (.c (.v (.string r.1))) (.tc (.ag [.sl (r.2.1.1.map c9),Ti r.2.1.2.1.1,Ti r.2.1.2.1.2.1,Ti r.2.1.2.1.2.2,Ti r.2.1.2.2]) (.tc (Bo r.2.2) .tn))) []:=CtT (zV3 t1) (fun r=>(.tc (.c (.v (.string r.1))) (.tc (.ag [.sl (r.2.1.1.map c9),Ti r.2.1.2.1.1,Ti r.2.1.2.1.2.1,Ti r.2.1.2.1.2.2,Ti r.2.1.2.2]) (.tc (Bo r.2.2) .tn)),[])) (rs:=[.t 2,.w 3 5,.t 4]) (vs:=[.tmp 2,.cell 3 98,.tmp 4]) Tryz.func65 rfl rfl (.cons rfl (.cons ⟨rfl,wd98⟩ (.cons rfl FitsL.nil))) h
def zWe(t1:qf):=fC zU3 (qL t1) fun _=>zVr
theorem zW0:CfW qh 94:=cfW Tryz.func94
noncomputable def zXl(a1:Int)(vm2:Int):T qh Int:=
 .op0 (remF .i64 a1 vm2) fun z3=>
 .frc (Int.tmod a1 vm2) fun vr4=>
 .cond (ltI vr4 0) (
 .frc (w64 (vr4+vm2)) fun vr6=>
 .ret vr6)<|
 .ret vr4
theorem zYJ{a1:Int}{vm2:Int}{r:Int}(h:jS a1 vm2=some r):zC qh 94 [I a1,I vm2] (I r) []:=CtU (zXl a1 vm2) 4 (fun r=>I r) Tryz.func94 rfl rfl h
def zBT(a1:Int)(vm2:Int):=fC zW0 (jS a1 vm2) fun _=>zYJ
theorem zU6:CfW qh 66:=cfW Tryz.func66
noncomputable def zV6(d1:Int):T qh Bool:=
 .pl<|.joinC (.op1 (zFT d1 (-2000) (-3)) fun y2=>.seqT (.cond y2 (.op1 (zBT d1 4) fun y4=>.ret (ltI y4 2)) (.ret false)) fun b5=>.ret (y2,b5)) (mb 10 4) [] (fun s q_1 γ=>s.pc (mb 10 4) [] [(2,Bo q_1.2)] []) fun q_1=>
 .ret q_1.2
theorem zVu{d1:Int}{r:Bool}(h:zCh d1=some r):zC qh 66 [I d1] (Bo r) []:=CtU (zV6 d1) 2 (fun r=>Bo r) Tryz.func66 rfl rfl h
def zMP(d1:Int):=fC zU6 (zCh d1) fun _=>zVu
theorem zNG:CfW qh 67:=cfW Tryz.func67
noncomputable def zNh(x1:(τS×(List τS)))(vs2:τS):T qh ((qf×(τS×(List τS)))):=
 .pl<|.joinC (.drawM false 11 [1,2,3,6,7,14,15,30,31,32,33,34,35,38,39,46,47,62,63,96,97,98,99,102,103,110,111,126,127,224,225,226,227,230,231,238,239,254,255,480,481,482,483,486,487,494,495,510,511,992,993,994,995,998,999,1006,1007,1022,1023,2046,2047] [1,1,0,1,1,1,0,1,1,0,0,0,1,2]<|.n0 au<|.n0 au<|.n1 bsl<|.late (zPQ 9 90003)<|.opx (app ct53 x1.2 ([x1.1])) fun u3=>.n0 au<|.late (pinH 15 90003)<|.ret u3) (mb 22 9) [24,80000,90003] (fun s q_1 γ=>s.pc (mb 22 9) [24,80000,90003] [] [(80000,s.pbx 80000 [Ti x1.1.1,.v (.string x1.1.2.1),.sl (x1.1.2.2.map c42),.v (zF (γ 90003))]),(90003,.qarr (γ 90003) 53 3 ((x1.2++([x1.1])).map c53))]) fun q_1=>
 .n0 au<|
 .ret (((⟨#[111,107]⟩:qf),(vs2,x1.2++([x1.1]))))
theorem zOG{x1:(τS×(List τS))}{vs2:τS}{r:(qf×(τS×(List τS)))}(h:jQ x1 vs2=some r):zKb qh 67 [.pt 80000 0,.ag [Ti vs2.1,.v (.string vs2.2.1),.sl (vs2.2.2.map c42)]] 90003 53 3 (fun l=>[(80000,.box [Ti x1.1.1,.v (.string x1.1.2.1),.sl (x1.1.2.2.map c42),.v (zF (l))])]) (x1.2.map c53) (.v (.string r.1)) (fun l=>[(80000,.box [Ti r.2.1.1,.v (.string r.2.1.2.1),.sl (r.2.1.2.2.map c42),.v (zF (l))])]) (r.2.2.map c53):=CqT (zNh x1 vs2) 90003 53 3 (fun r=>.v (.string r.1)) (fun r l=>[(80000,.box [Ti r.2.1.1,.v (.string r.2.1.2.1),.sl (r.2.1.2.2.map c42),.v (zF (l))])]) (fun r=>r.2.2.map c53) (rs:=.t 4) (vs:=.tmp 4) Tryz.func67 rfl rfl (.cons rfl FitsL.nil) h
def zEI(x1:(τS×(List τS)))(vs2:τS):=fQ zNG (jQ x1 vs2) 80000 4 90003 53 3 (fun _ _ h=>zOG h)
theorem zUa:CfW qh 133:=cfW Tryz.func133
noncomputable def zVa(vn1:Int):T qh Bool:=
 .op1 (zFT vn1 (-1000000) 1000000) fun y2=>
 .ret y2
theorem zVy{vn1:Int}{r:Bool}(h:zBI vn1=some r):zC qh 133 [I vn1] (Bo r) []:=CtU (zVa vn1) 2 (fun r=>Bo r) Tryz.func133 rfl rfl h
def zD5(vn1:Int):=fC zUa (zBI vn1) fun _=>zVy
theorem zUh:CfW qh 85:=cfW Tryz.func85
noncomputable def zVh(f1:τF):T qh Bool:=
 .pl<|.joinC (.op1 (zD5 f1.1) fun y2=>.seqT (.cond y2 (.op1 (zD5 f1.2.1) fun y4=>.ret y4) (.ret false)) fun b5=>.seqT (.cond b5 (.op1 (zD5 f1.2.2) fun y7=>.ret y7) (.ret false)) fun b8=>.ret (y2,b5,b8)) (mb 16 4) [] (fun s q_1 γ=>s.pc (mb 16 4) [] [(2,Bo q_1.2.2)] []) fun q_1=>
 .ret q_1.2.2
theorem zWF{f1:τF}{r:Bool}(h:zEB f1=some r):zC qh 85 [.ag [Ti f1.1,Ti f1.2.1,Ti f1.2.2]] (Bo r) []:=CtU (zVh f1) 2 (fun r=>Bo r) Tryz.func85 rfl rfl h
def zMR(f1:τF):=fC zUh (zEB f1) fun _=>zWF
theorem zUi:CfW qh 69:=cfW Tryz.func69
noncomputable def zVi(f1:τF):T qh Int:=
 .frc (w64 ((w64 (f1.2.1*f1.2.1)) - (w64 ((w64 (4*f1.1))*f1.2.2)))) fun t2=>.ret t2
theorem zWG{f1:τF}{r:Int}(h:qX f1=some r):zC qh 69 [.ag [Ti f1.1,Ti f1.2.1,Ti f1.2.2]] (I r) []:=CtU (zVi f1) 2 (fun r=>I r) Tryz.func69 rfl rfl h
def zBQ(f1:τF):=fC zUi (qX f1) fun _=>zWG
theorem zNL:CfW qh 139:=cfW Tryz.func139
noncomputable def zNm(f1:τF):T qh Bool:=
 .pl<|.joinC (.op1 (zMR f1) fun y2=>.seqT (.cond y2 (.op1 (zBQ f1) fun y4=>.ret (ltI y4 0)) (.ret false)) fun b5=>.selB b5 true [] fun w_2=>.ret (y2,b5,w_2)) (mb 15 4) [] (fun s q_3 γ=>s.pc (mb 15 4) [] [(2,Bo (bif q_3.2.2 then (ltI 0 f1.1) else false))] []) fun q_3=>
 .ret (bif q_3.2.2 then (ltI 0 f1.1) else false)
theorem zOL{f1:τF}{r:Bool}(h:zA1 f1=some r):zC qh 139 [.ag [Ti f1.1,Ti f1.2.1,Ti f1.2.2]] (Bo r) []:=CtU (zNm f1) 2 (fun r=>Bo r) Tryz.func139 rfl rfl h
def zDX(f1:τF):=fC zNL (zA1 f1) fun _=>zOL
theorem zU2:CfW qh 95:=cfW Tryz.func95
noncomputable def zV2(f1:τF):T qh Bool:=
 .pl<|.joinC (.op1 (zDX f1) fun y2=>.seqT (.cond y2 (.op1 (zBQ f1) fun y4=>.ret (leI (-2000) y4)) (.ret false)) fun b5=>.ret (y2,b5)) (mb 10 4) [] (fun s q_1 γ=>s.pc (mb 10 4) [] [(2,Bo q_1.2)] []) fun q_1=>
 .ret q_1.2
theorem zVq{f1:τF}{r:Bool}(h:zD0 f1=some r):zC qh 95 [.ag [Ti f1.1,Ti f1.2.1,Ti f1.2.2]] (Bo r) []:=CtU (zV2 f1) 2 (fun r=>Bo r) Tryz.func95 rfl rfl h
def zMN(f1:τF):=fC zU2 (zD0 f1) fun _=>zVq
theorem zUc:CfW qh 215:=cfW Tryz.func215
noncomputable def zVc(a1:Int)(b2:Int):T qh Int:=
 .cond (ltI b2 a1) (
 .ret a1)<|
 .ret b2
theorem zWA{a1:Int}{b2:Int}{r:Int}(h:zD1 a1 b2=some r):zC qh 215 [I a1,I b2] (I r) []:=CtU (zVc a1 b2) 4 (fun r=>I r) Tryz.func215 rfl rfl h
def zMQ(a1:Int)(b2:Int):=fC zUc (zD1 a1 b2) fun _=>zWA
theorem zW4:CfW qh 178:=cfW Tryz.func178
noncomputable def zXp(vn1:Int):T qh Int:=
 .op1 (zMQ vn1 (w64 (0 - vn1))) fun y2=>
 .ret y2
theorem zYO{vn1:Int}{r:Int}(h:zDj vn1=some r):zC qh 178 [I vn1] (I r) []:=CtU (zXp vn1) 2 (fun r=>I r) Tryz.func178 rfl rfl h
def zJE(vn1:Int):=fC zW4 (zDj vn1) fun _=>zYO
theorem zW1:CfW qh 140:=cfW Tryz.func140
noncomputable def zXm(a1:Int)(b2:Int):T qh Int:=
 .op1 (zJE a1) fun y3=>.op1 (zJE b2) fun y4=>
 .loop (fun n X_1=>zBR n X_1.1 X_1.2) ((y3,y4)) (mb 16 3) [] (fun s X_1 γ=>s.pc (mb 16 3) [] [(0,I X_1.1),(1,I X_1.2)] []) (fun X_1=>
 .cond (!eqI X_1.2 0) (.draw 6 []<|.op0 (remF .i64 X_1.1 X_1.2) fun z10=>
 .frc (Int.tmod X_1.1 X_1.2) fun b11=>.ret (.inl ((X_1.2,b11))))<|.ret (.inr X_1.1)) (mb 16 1) [] (fun s o8 γ=>s.pc (mb 16 1) [] [(0,I o8)] []) fun o8=>
 .ret o8
theorem zYK{a1:Int}{b2:Int}{r:Int}(h:zAo a1 b2=some r):zC qh 140 [I a1,I b2] (I r) []:=CtU (zXm a1 b2) 4 (fun r=>I r) Tryz.func140 rfl rfl h
def zDt(a1:Int)(b2:Int):=fC zW1 (zAo a1 b2) fun _=>zYK
theorem zOj:CfW qh 96:=cfW Tryz.func96
noncomputable def zPV(f1:τF):T qh Int:=
 .draw 9 []<|.op1 (zDt f1.1 f1.2.1) fun y2=>.op1 (zDt y2 f1.2.2) fun y3=>
 .ret y3
theorem zPd{f1:τF}{r:Int}(h:zAD f1=some r):zC qh 96 [.ag [Ti f1.1,Ti f1.2.1,Ti f1.2.2]] (I r) []:=CtU (zPV f1) 2 (fun r=>I r) Tryz.func96 rfl rfl h
def zGE(f1:τF):=fC zOj (zAD f1) fun _=>zPd
theorem zUj:CfW qh 68:=cfW Tryz.func68
noncomputable def zVj(f1:τF):T qh Bool:=
 .pl<|.joinC (.op1 (zMN f1) fun y2=>.seqT (.cond y2 (.op1 (zGE f1) fun y4=>.ret (eqI y4 1)) (.ret false)) fun b5=>.ret (y2,b5)) (mb 10 4) [] (fun s q_1 γ=>s.pc (mb 10 4) [] [(2,Bo q_1.2)] []) fun q_1=>
 .ret q_1.2
theorem zWH{f1:τF}{r:Bool}(h:zEC f1=some r):zC qh 68 [.ag [Ti f1.1,Ti f1.2.1,Ti f1.2.2]] (Bo r) []:=CtU (zVj f1) 2 (fun r=>Bo r) Tryz.func68 rfl rfl h
def zWl(f1:τF):=fC zUj (zEC f1) fun _=>zWH
theorem zZM:∀args w,(callFunc 141 args).run qh w=.ok (.enter 141 args) w:=qW Tryz.func141 kk kk
set_option maxRecDepth 100000 in
set_option maxHeartbeats 400000 in
theorem z0I{f1:τF}{r:Bool}(h:zDO f1=some r):zC qh 141 [.ag [Ti f1.1,Ti f1.2.1,Ti f1.2.2]] (Bo r) []:=by
  refine zAl (rs:=[.t 2]) (vs:=[.tmp 2]) Tryz.func141 rfl rfl (.cons rfl FitsL.nil) (by decide) 35 rfl ?_
  unfold zDO at h;show V _ _ ⟨.ag [Ti f1.1,Ti f1.2.1,Ti f1.2.2]::bt 34 [],[]⟩ _;refine jI (mb 35 2) [8] (s1:=⟨.bot::.pt 8 0::bt 33 [],[(8,.box [Ti f1.1,Ti f1.2.1,Ti f1.2.2])]⟩) ?_ ?_
  ·refine L1 rfl rfl (zUw (cs:=[Ti f1.1,Ti f1.2.1,Ti f1.2.2]) rfl kk) ?_
   refine L0 rfl rfl (zG (Bo false) rfl kk) ?_
   refine zJ ?_
   kernel_rfl
  obtain⟨t6,ht6,h⟩:=zT h;have ht6:=zZ ht6;refine jI (mb 35 4) [] (s1:=⟨.bot::.bot::Bo t6::bt 32 [],[]⟩) ?_ ?_
  ·refine L0 rfl rfl (zA8 (.pt 8 0) Tryz.underlying42 rfl sz3 rfl kk (by intro hh;cases hh)) ?_
   refine L0 rfl rfl (zAG (c:=Ti f1.1) (cs:=[Ti f1.2.1,Ti f1.2.2]) sc3 rfl kk) ?_
   refine L0 rfl rfl (zUy (a:=f1.1) rfl kk) ?_
   refine L0 rfl rfl (zA8 (.pt 8 1) Tryz.underlying42 rfl sz3 rfl kk (by intro hh;cases hh)) ?_
   refine L0 rfl rfl (zAG (c:=Ti f1.2.1) (cs:=[Ti f1.2.2]) sc3 rfl kk) ?_
   refine L0 rfl rfl (zH2 (k:=.i64) (a:=w64 (0 - f1.1)) (b:=f1.2.1) rfl kk kk) ?_
   refine L0 rfl rfl (zK (Bo (ltI (w64 (0 - f1.1)) f1.2.1)) rfl kk) ?_
   refine zBa (ltI (w64 (0 - f1.1)) f1.2.1) (fun hc2=>?_) (fun hc2=>?_)
   ·refine zD _ rfl rfl kk hc2 (zB rfl (zA8 (.pt 8 1) Tryz.underlying42 rfl sz3 rfl kk (by intro hh;cases hh))) ?_
    refine zD _ rfl rfl kk hc2 (zB rfl (zAG (c:=Ti f1.2.1) (cs:=[Ti f1.2.2]) sc3 rfl kk)) ?_
    refine zD _ rfl rfl kk hc2 (zB rfl (zA8 (.pt 8 0) Tryz.underlying42 rfl sz3 rfl kk (by intro hh;cases hh))) ?_
    refine zD _ rfl rfl kk hc2 (zB rfl (zAG (c:=Ti f1.1) (cs:=[Ti f1.2.1,Ti f1.2.2]) sc3 rfl kk)) ?_
    refine zD _ rfl rfl kk hc2 (zB rfl (z2e (k:=.i64) (a:=f1.2.1) (b:=f1.1) rfl kk kk)) ?_
    refine zW rfl (zB rfl (zAt (b:=ltI (w64 (0 - f1.1)) f1.2.1) (p:=leI f1.2.1 f1.1) (q:=false) rfl kk hc2 kk)) ?_
    refine L0 rfl rfl (zK (Bo (bif (ltI (w64 (0 - f1.1)) f1.2.1) then (leI f1.2.1 f1.1) else false)) rfl kk) ?_
    refine zBa (bif (ltI (w64 (0 - f1.1)) f1.2.1) then (leI f1.2.1 f1.1) else false) (fun hc3=>?_) (fun hc3=>?_)
    ·refine zD _ rfl rfl kk hc3 (zB rfl (zA8 (.pt 8 0) Tryz.underlying42 rfl sz3 rfl kk (by intro hh;cases hh))) ?_
     refine zD _ rfl rfl kk hc3 (zB rfl (zAG (c:=Ti f1.1) (cs:=[Ti f1.2.1,Ti f1.2.2]) sc3 rfl kk)) ?_
     refine zD _ rfl rfl kk hc3 (zB rfl (zA8 (.pt 8 2) Tryz.underlying42 rfl sz3 rfl kk (by intro hh;cases hh))) ?_
     refine zD _ rfl rfl kk hc3 (zB rfl (zAG (c:=Ti f1.2.2) (cs:=[]) sc3 rfl kk)) ?_
     refine zD _ rfl rfl kk hc3 (zB rfl (zH2 (k:=.i64) (a:=f1.1) (b:=f1.2.2) rfl kk kk)) ?_
     refine zD _ rfl rfl kk hc3 (zB rfl (zK (Bo (ltI f1.1 f1.2.2)) rfl kk)) ?_
     refine zBa (ltI f1.1 f1.2.2) (fun hc4=>?_) (fun hc4=>?_)
     ·refine qV _ rfl rfl kk hc4 rfl ?_
      refine qV _ rfl rfl kk hc4 rfl ?_
      refine qV _ rfl rfl kk hc4 rfl ?_
      refine qV _ rfl rfl kk hc4 rfl ?_
      refine qV _ rfl rfl kk hc4 rfl ?_
      refine qV _ rfl rfl kk hc4 rfl ?_
      refine qK rfl rfl kk rfl ?_
      refine qK rfl rfl kk rfl ?_
      refine qK rfl rfl kk rfl ?_
      refine qV _ rfl rfl kk hc4 rfl ?_
      refine zD _ rfl rfl kk hc3 (zB rfl (zAt (b:=ltI f1.1 f1.2.2) (p:=true) (q:=bif (eqI f1.1 f1.2.2) then (leI 0 f1.2.1) else false) rfl kk hc4 kk)) ?_
      refine zW rfl (zB rfl (zAt (b:=bif (ltI (w64 (0 - f1.1)) f1.2.1) then (leI f1.2.1 f1.1) else false) (p:=bif (ltI f1.1 f1.2.2) then true else (bif (eqI f1.1 f1.2.2) then (leI 0 f1.2.1) else false)) (q:=false) rfl kk hc3 kk)) ?_
      refine L0 rfl rfl (zG (Bo (bif (bif (ltI (w64 (0 - f1.1)) f1.2.1) then (leI f1.2.1 f1.1) else false) then (bif (ltI f1.1 f1.2.2) then true else (bif (eqI f1.1 f1.2.2) then (leI 0 f1.2.1) else false)) else false)) rfl kk) ?_
      refine zJ ?_
      subst ht6
      kernel_rfl
     ·refine zD _ rfl rfl kk hc4 (zB rfl (zA8 (.pt 8 0) Tryz.underlying42 rfl sz3 rfl kk (by intro hh;cases hh))) ?_
      refine zD _ rfl rfl kk hc4 (zB rfl (zAG (c:=Ti f1.1) (cs:=[Ti f1.2.1,Ti f1.2.2]) sc3 rfl kk)) ?_
      refine zD _ rfl rfl kk hc4 (zB rfl (zA8 (.pt 8 2) Tryz.underlying42 rfl sz3 rfl kk (by intro hh;cases hh))) ?_
      refine zD _ rfl rfl kk hc4 (zB rfl (zAG (c:=Ti f1.2.2) (cs:=[]) sc3 rfl kk)) ?_
      refine zD _ rfl rfl kk hc4 (zB rfl (zJD (k:=.i64) (a:=f1.1) (b:=f1.2.2) rfl kk kk)) ?_
      refine zD _ rfl rfl kk hc4 (zB rfl (zK (Bo (eqI f1.1 f1.2.2)) rfl kk)) ?_
      refine zBa (eqI f1.1 f1.2.2) (fun hc5=>?_) (fun hc5=>?_)
      ·refine zD _ rfl rfl kk hc5 (zB rfl (zA8 (.pt 8 1) Tryz.underlying42 rfl sz3 rfl kk (by intro hh;cases hh))) ?_
       refine zD _ rfl rfl kk hc5 (zB rfl (zAG (c:=Ti f1.2.1) (cs:=[Ti f1.2.2]) sc3 rfl kk)) ?_
       refine zD _ rfl rfl kk hc5 (zB rfl (zVA (k:=.i64) (a:=f1.2.1) (b:=0) rfl kk kk)) ?_
       refine zD _ rfl rfl kk hc4 (zB rfl (zAt (b:=eqI f1.1 f1.2.2) (p:=leI 0 f1.2.1) (q:=false) rfl kk hc5 kk)) ?_
       refine zD _ rfl rfl kk hc3 (zB rfl (zB9 (b:=ltI f1.1 f1.2.2) (p:=true) (q:=bif (eqI f1.1 f1.2.2) then (leI 0 f1.2.1) else false) rfl kk hc4 kk)) ?_
       refine zW rfl (zB rfl (zAt (b:=bif (ltI (w64 (0 - f1.1)) f1.2.1) then (leI f1.2.1 f1.1) else false) (p:=bif (ltI f1.1 f1.2.2) then true else (bif (eqI f1.1 f1.2.2) then (leI 0 f1.2.1) else false)) (q:=false) rfl kk hc3 kk)) ?_
       refine L0 rfl rfl (zG (Bo (bif (bif (ltI (w64 (0 - f1.1)) f1.2.1) then (leI f1.2.1 f1.1) else false) then (bif (ltI f1.1 f1.2.2) then true else (bif (eqI f1.1 f1.2.2) then (leI 0 f1.2.1) else false)) else false)) rfl kk) ?_
       refine zJ ?_
       subst ht6
       kernel_rfl
      ·refine zY _ rfl rfl kk hc5 rfl ?_
       refine zY _ rfl rfl kk hc5 rfl ?_
       refine zY _ rfl rfl kk hc5 rfl ?_
       refine zD _ rfl rfl kk hc4 (zB rfl (zB9 (b:=eqI f1.1 f1.2.2) (p:=leI 0 f1.2.1) (q:=false) rfl kk hc5 kk)) ?_
       refine zD _ rfl rfl kk hc3 (zB rfl (zB9 (b:=ltI f1.1 f1.2.2) (p:=true) (q:=bif (eqI f1.1 f1.2.2) then (leI 0 f1.2.1) else false) rfl kk hc4 kk)) ?_
       refine zW rfl (zB rfl (zAt (b:=bif (ltI (w64 (0 - f1.1)) f1.2.1) then (leI f1.2.1 f1.1) else false) (p:=bif (ltI f1.1 f1.2.2) then true else (bif (eqI f1.1 f1.2.2) then (leI 0 f1.2.1) else false)) (q:=false) rfl kk hc3 kk)) ?_
       refine L0 rfl rfl (zG (Bo (bif (bif (ltI (w64 (0 - f1.1)) f1.2.1) then (leI f1.2.1 f1.1) else false) then (bif (ltI f1.1 f1.2.2) then true else (bif (eqI f1.1 f1.2.2) then (leI 0 f1.2.1) else false)) else false)) rfl kk) ?_
       refine zJ ?_
       subst ht6
       kernel_rfl
    ·refine zY _ rfl rfl kk hc3 rfl ?_
     refine zY _ rfl rfl kk hc3 rfl ?_
     refine zY _ rfl rfl kk hc3 rfl ?_
     refine zY _ rfl rfl kk hc3 rfl ?_
     refine zY _ rfl rfl kk hc3 rfl ?_
     refine zY _ rfl rfl kk hc3 rfl ?_
     refine qK rfl rfl kk rfl ?_
     refine qK rfl rfl kk rfl ?_
     refine qK rfl rfl kk rfl ?_
     refine qK rfl rfl kk rfl ?_
     refine qK rfl rfl kk rfl ?_
     refine qK rfl rfl kk rfl ?_
     refine qK rfl rfl kk rfl ?_
     refine qK rfl rfl kk rfl ?_
     refine qK rfl rfl kk rfl ?_
     refine qK rfl rfl kk rfl ?_
     refine zY _ rfl rfl kk hc3 rfl ?_
     refine zW rfl (zB rfl (zB9 (b:=bif (ltI (w64 (0 - f1.1)) f1.2.1) then (leI f1.2.1 f1.1) else false) (p:=bif (ltI f1.1 f1.2.2) then true else (bif (eqI f1.1 f1.2.2) then (leI 0 f1.2.1) else false)) (q:=false) rfl kk hc3 kk)) ?_
     refine L0 rfl rfl (zG (Bo (bif (bif (ltI (w64 (0 - f1.1)) f1.2.1) then (leI f1.2.1 f1.1) else false) then (bif (ltI f1.1 f1.2.2) then true else (bif (eqI f1.1 f1.2.2) then (leI 0 f1.2.1) else false)) else false)) rfl kk) ?_
     refine zJ ?_
     subst ht6
     kernel_rfl
   ·refine zY _ rfl rfl kk hc2 rfl ?_
    refine zY _ rfl rfl kk hc2 rfl ?_
    refine zY _ rfl rfl kk hc2 rfl ?_
    refine zY _ rfl rfl kk hc2 rfl ?_
    refine zY _ rfl rfl kk hc2 rfl ?_
    refine zW rfl (zB rfl (zB9 (b:=ltI (w64 (0 - f1.1)) f1.2.1) (p:=leI f1.2.1 f1.1) (q:=false) rfl kk hc2 kk)) ?_
    refine L0 rfl rfl (zK (Bo (bif (ltI (w64 (0 - f1.1)) f1.2.1) then (leI f1.2.1 f1.1) else false)) rfl kk) ?_
    refine zBa (bif (ltI (w64 (0 - f1.1)) f1.2.1) then (leI f1.2.1 f1.1) else false) (fun hc3=>?_) (fun hc3=>?_)
    ·refine zD _ rfl rfl kk hc3 (zB rfl (zA8 (.pt 8 0) Tryz.underlying42 rfl sz3 rfl kk (by intro hh;cases hh))) ?_
     refine zD _ rfl rfl kk hc3 (zB rfl (zAG (c:=Ti f1.1) (cs:=[Ti f1.2.1,Ti f1.2.2]) sc3 rfl kk)) ?_
     refine zD _ rfl rfl kk hc3 (zB rfl (zA8 (.pt 8 2) Tryz.underlying42 rfl sz3 rfl kk (by intro hh;cases hh))) ?_
     refine zD _ rfl rfl kk hc3 (zB rfl (zAG (c:=Ti f1.2.2) (cs:=[]) sc3 rfl kk)) ?_
     refine zD _ rfl rfl kk hc3 (zB rfl (zH2 (k:=.i64) (a:=f1.1) (b:=f1.2.2) rfl kk kk)) ?_
     refine zD _ rfl rfl kk hc3 (zB rfl (zK (Bo (ltI f1.1 f1.2.2)) rfl kk)) ?_
     refine zBa (ltI f1.1 f1.2.2) (fun hc4=>?_) (fun hc4=>?_)
     ·refine qV _ rfl rfl kk hc4 rfl ?_
      refine qV _ rfl rfl kk hc4 rfl ?_
      refine qV _ rfl rfl kk hc4 rfl ?_
      refine qV _ rfl rfl kk hc4 rfl ?_
      refine qV _ rfl rfl kk hc4 rfl ?_
      refine qV _ rfl rfl kk hc4 rfl ?_
      refine qK rfl rfl kk rfl ?_
      refine qK rfl rfl kk rfl ?_
      refine qK rfl rfl kk rfl ?_
      refine qV _ rfl rfl kk hc4 rfl ?_
      refine zD _ rfl rfl kk hc3 (zB rfl (zAt (b:=ltI f1.1 f1.2.2) (p:=true) (q:=bif (eqI f1.1 f1.2.2) then (leI 0 f1.2.1) else false) rfl kk hc4 kk)) ?_
      refine zW rfl (zB rfl (zAt (b:=bif (ltI (w64 (0 - f1.1)) f1.2.1) then (leI f1.2.1 f1.1) else false) (p:=bif (ltI f1.1 f1.2.2) then true else (bif (eqI f1.1 f1.2.2) then (leI 0 f1.2.1) else false)) (q:=false) rfl kk hc3 kk)) ?_
      refine L0 rfl rfl (zG (Bo (bif (bif (ltI (w64 (0 - f1.1)) f1.2.1) then (leI f1.2.1 f1.1) else false) then (bif (ltI f1.1 f1.2.2) then true else (bif (eqI f1.1 f1.2.2) then (leI 0 f1.2.1) else false)) else false)) rfl kk) ?_
      refine zJ ?_
      subst ht6
      kernel_rfl
     ·refine zD _ rfl rfl kk hc4 (zB rfl (zA8 (.pt 8 0) Tryz.underlying42 rfl sz3 rfl kk (by intro hh;cases hh))) ?_
      refine zD _ rfl rfl kk hc4 (zB rfl (zAG (c:=Ti f1.1) (cs:=[Ti f1.2.1,Ti f1.2.2]) sc3 rfl kk)) ?_
      refine zD _ rfl rfl kk hc4 (zB rfl (zA8 (.pt 8 2) Tryz.underlying42 rfl sz3 rfl kk (by intro hh;cases hh))) ?_
      refine zD _ rfl rfl kk hc4 (zB rfl (zAG (c:=Ti f1.2.2) (cs:=[]) sc3 rfl kk)) ?_
      refine zD _ rfl rfl kk hc4 (zB rfl (zJD (k:=.i64) (a:=f1.1) (b:=f1.2.2) rfl kk kk)) ?_
      refine zD _ rfl rfl kk hc4 (zB rfl (zK (Bo (eqI f1.1 f1.2.2)) rfl kk)) ?_
      refine zBa (eqI f1.1 f1.2.2) (fun hc5=>?_) (fun hc5=>?_)
      ·refine zD _ rfl rfl kk hc5 (zB rfl (zA8 (.pt 8 1) Tryz.underlying42 rfl sz3 rfl kk (by intro hh;cases hh))) ?_
       refine zD _ rfl rfl kk hc5 (zB rfl (zAG (c:=Ti f1.2.1) (cs:=[Ti f1.2.2]) sc3 rfl kk)) ?_
       refine zD _ rfl rfl kk hc5 (zB rfl (zVA (k:=.i64) (a:=f1.2.1) (b:=0) rfl kk kk)) ?_
       refine zD _ rfl rfl kk hc4 (zB rfl (zAt (b:=eqI f1.1 f1.2.2) (p:=leI 0 f1.2.1) (q:=false) rfl kk hc5 kk)) ?_
       refine zD _ rfl rfl kk hc3 (zB rfl (zB9 (b:=ltI f1.1 f1.2.2) (p:=true) (q:=bif (eqI f1.1 f1.2.2) then (leI 0 f1.2.1) else false) rfl kk hc4 kk)) ?_
       refine zW rfl (zB rfl (zAt (b:=bif (ltI (w64 (0 - f1.1)) f1.2.1) then (leI f1.2.1 f1.1) else false) (p:=bif (ltI f1.1 f1.2.2) then true else (bif (eqI f1.1 f1.2.2) then (leI 0 f1.2.1) else false)) (q:=false) rfl kk hc3 kk)) ?_
       refine L0 rfl rfl (zG (Bo (bif (bif (ltI (w64 (0 - f1.1)) f1.2.1) then (leI f1.2.1 f1.1) else false) then (bif (ltI f1.1 f1.2.2) then true else (bif (eqI f1.1 f1.2.2) then (leI 0 f1.2.1) else false)) else false)) rfl kk) ?_
       refine zJ ?_
       subst ht6
       kernel_rfl
      ·refine zY _ rfl rfl kk hc5 rfl ?_
       refine zY _ rfl rfl kk hc5 rfl ?_
       refine zY _ rfl rfl kk hc5 rfl ?_
       refine zD _ rfl rfl kk hc4 (zB rfl (zB9 (b:=eqI f1.1 f1.2.2) (p:=leI 0 f1.2.1) (q:=false) rfl kk hc5 kk)) ?_
       refine zD _ rfl rfl kk hc3 (zB rfl (zB9 (b:=ltI f1.1 f1.2.2) (p:=true) (q:=bif (eqI f1.1 f1.2.2) then (leI 0 f1.2.1) else false) rfl kk hc4 kk)) ?_
       refine zW rfl (zB rfl (zAt (b:=bif (ltI (w64 (0 - f1.1)) f1.2.1) then (leI f1.2.1 f1.1) else false) (p:=bif (ltI f1.1 f1.2.2) then true else (bif (eqI f1.1 f1.2.2) then (leI 0 f1.2.1) else false)) (q:=false) rfl kk hc3 kk)) ?_
       refine L0 rfl rfl (zG (Bo (bif (bif (ltI (w64 (0 - f1.1)) f1.2.1) then (leI f1.2.1 f1.1) else false) then (bif (ltI f1.1 f1.2.2) then true else (bif (eqI f1.1 f1.2.2) then (leI 0 f1.2.1) else false)) else false)) rfl kk) ?_
       refine zJ ?_
       subst ht6
       kernel_rfl
    ·refine zY _ rfl rfl kk hc3 rfl ?_
     refine zY _ rfl rfl kk hc3 rfl ?_
     refine zY _ rfl rfl kk hc3 rfl ?_
     refine zY _ rfl rfl kk hc3 rfl ?_
     refine zY _ rfl rfl kk hc3 rfl ?_
     refine zY _ rfl rfl kk hc3 rfl ?_
     refine qK rfl rfl kk rfl ?_
     refine qK rfl rfl kk rfl ?_
     refine qK rfl rfl kk rfl ?_
     refine qK rfl rfl kk rfl ?_
     refine qK rfl rfl kk rfl ?_
     refine qK rfl rfl kk rfl ?_
     refine qK rfl rfl kk rfl ?_
     refine qK rfl rfl kk rfl ?_
     refine qK rfl rfl kk rfl ?_
     refine qK rfl rfl kk rfl ?_
     refine zY _ rfl rfl kk hc3 rfl ?_
     refine zW rfl (zB rfl (zB9 (b:=bif (ltI (w64 (0 - f1.1)) f1.2.1) then (leI f1.2.1 f1.1) else false) (p:=bif (ltI f1.1 f1.2.2) then true else (bif (eqI f1.1 f1.2.2) then (leI 0 f1.2.1) else false)) (q:=false) rfl kk hc3 kk)) ?_
     refine L0 rfl rfl (zG (Bo (bif (bif (ltI (w64 (0 - f1.1)) f1.2.1) then (leI f1.2.1 f1.1) else false) then (bif (ltI f1.1 f1.2.2) then true else (bif (eqI f1.1 f1.2.2) then (leI 0 f1.2.1) else false)) else false)) rfl kk) ?_
     refine zJ ?_
     subst ht6
     kernel_rfl
  refine zEh ?_
  obtain rfl:=zZ h;show Post _ _ _ _ _;exact⟨.inr rfl,rfl,rfl,rfl⟩
def zKd(f1:τF):=fC zZM (zDO f1) fun _=>z0I
theorem zQK:CfW qh 179:=cfW Tryz.func179
noncomputable def zRE(f1:τF):T qh Int:=
 .draw 20 []<|.op1 (zBT (w64 (f1.1 - f1.2.1)) (w64 (2*f1.1))) fun y2=>.op0 (quoF .i64 (w64 ((w64 (f1.1 - f1.2.1)) - y2)) (w64 (2*f1.1))) fun z3=>
 .frc (w64 (Int.tdiv (w64 ((w64 (f1.1 - f1.2.1)) - y2)) (w64 (2*f1.1)))) fun t4=>.ret t4
theorem zRX{f1:τF}{r:Int}(h:zEx f1=some r):zC qh 179 [.ag [Ti f1.1,Ti f1.2.1,Ti f1.2.2]] (I r) []:=CtU (zRE f1) 2 (fun r=>I r) Tryz.func179 rfl rfl h
def zSK(f1:τF):=fC zQK (zEx f1) fun _=>zRX
theorem zU4:CfW qh 142:=cfW Tryz.func142
noncomputable def zV4(f1:τF):T qh (τM):=
 .op1 (zSK f1) fun y2=>
 .cond (!eqI y2 0) (.n0 (bld zD6 zDf)<|
 .ret ((1,y2,0,1)))<|.op1 (zKd f1) fun y4=>
 .cond y4 (.n0 (bld zD6 zDf)<|
 .ret ((1,0,0,1)))<|.n0 (bld zD6 zDf)<|
 .ret ((0,-1,1,0))
theorem zVs{f1:τF}{r:τM}(h:zDz f1=some r):zC qh 142 [.ag [Ti f1.1,Ti f1.2.1,Ti f1.2.2]] (.ag [Ti r.1,Ti r.2.1,Ti r.2.2.1,Ti r.2.2.2]) []:=CtT (zV4 f1) (fun r=>(.ag [Ti r.1,Ti r.2.1,Ti r.2.2.1,Ti r.2.2.2],[])) (rs:=[.w 2 4]) (vs:=[.cell 2 120]) Tryz.func142 rfl rfl (.cons ⟨rfl,zFY⟩ FitsL.nil) h
def zWf(f1:τF):=fC zU4 (zDz f1) fun _=>zVs
theorem zRo:CfW qh 130:=cfW Tryz.func130
noncomputable def zSu(f1:τF)(x2:Int)(y3:Int):T qh Int:=
 .frc (w64 ((w64 ((w64 ((w64 (f1.1*x2))*x2))+(w64 ((w64 (f1.2.1*x2))*y3))))+(w64 ((w64 (f1.2.2*y3))*y3)))) fun t4=>.ret t4
theorem zT0{f1:τF}{x2:Int}{y3:Int}{r:Int}(h:zBK f1 x2 y3=some r):zC qh 130 [.ag [Ti f1.1,Ti f1.2.1,Ti f1.2.2],I x2,I y3] (I r) []:=CtU (zSu f1 x2 y3) 6 (fun r=>I r) Tryz.func130 rfl rfl h
def zEZ(f1:τF)(x2:Int)(y3:Int):=fC zRo (zBK f1 x2 y3) fun _=>zT0
theorem zRp:CfW qh 131:=cfW Tryz.func131
noncomputable def zSv(f1:τF)(x2:Int)(y3:Int)(u4:Int)(v5:Int):T qh Int:=
 .frc (w64 ((w64 ((w64 ((w64 ((w64 (2*f1.1))*x2))*u4))+(w64 (f1.2.1*(w64 ((w64 (x2*v5))+(w64 (y3*u4))))))))+(w64 ((w64 ((w64 (2*f1.2.2))*y3))*v5)))) fun t6=>.ret t6
theorem zT1{f1:τF}{x2:Int}{y3:Int}{u4:Int}{v5:Int}{r:Int}(h:zDc f1 x2 y3 u4 v5=some r):zC qh 131 [.ag [Ti f1.1,Ti f1.2.1,Ti f1.2.2],I x2,I y3,I u4,I v5] (I r) []:=CtU (zSv f1 x2 y3 u4 v5) 10 (fun r=>I r) Tryz.func131 rfl rfl h
def zKe(f1:τF)(x2:Int)(y3:Int)(u4:Int)(v5:Int):=fC zRp (zDc f1 x2 y3 u4 v5) fun _=>zT1
theorem zW8:CfW qh 83:=cfW Tryz.func83
noncomputable def zXs(f1:τF)(vm2:τM):T qh (τF):=
 .draw 23 []<|.op1 (zEZ f1 vm2.1 vm2.2.2.1) fun y3=>.op1 (zKe f1 vm2.1 vm2.2.2.1 vm2.2.1 vm2.2.2.2) fun y4=>.op1 (zEZ f1 vm2.2.1 vm2.2.2.2) fun y5=>.n0 (bld pl42 bt42)<|
 .ret ((y3,y4,y5))
theorem zYS{f1:τF}{vm2:τM}{r:τF}(h:zDk f1 vm2=some r):zC qh 83 [.ag [Ti f1.1,Ti f1.2.1,Ti f1.2.2],.ag [Ti vm2.1,Ti vm2.2.1,Ti vm2.2.2.1,Ti vm2.2.2.2]] (.ag [Ti r.1,Ti r.2.1,Ti r.2.2]) []:=CtT (zXs f1 vm2) (fun r=>(.ag [Ti r.1,Ti r.2.1,Ti r.2.2],[])) (rs:=[.w 4 3]) (vs:=[.cell 4 42]) Tryz.func83 rfl rfl (.cons ⟨rfl,wd42⟩ FitsL.nil) h
def zPC(f1:τF)(vm2:τM):=fC zW8 (zDk f1 vm2) fun _=>zYS
theorem zW5:CfW qh 132:=cfW Tryz.func132
noncomputable def zXq(vm1:τM)(vn2:τM):T qh (τM):=
 .n0 (bld zD6 zDf)<|
 .frc (w64 ((w64 (vm1.1*vn2.1))+(w64 (vm1.2.1*vn2.2.2.1)))) fun f3=>.frc (w64 ((w64 (vm1.1*vn2.2.1))+(w64 (vm1.2.1*vn2.2.2.2)))) fun f4=>.frc (w64 ((w64 (vm1.2.2.1*vn2.1))+(w64 (vm1.2.2.2*vn2.2.2.1)))) fun f5=>.frc (w64 ((w64 (vm1.2.2.1*vn2.2.1))+(w64 (vm1.2.2.2*vn2.2.2.2)))) fun f6=>.ret ((f3,f4,f5,f6))
theorem zYP{vm1:τM}{vn2:τM}{r:τM}(h:qJ vm1 vn2=some r):zC qh 132 [.ag [Ti vm1.1,Ti vm1.2.1,Ti vm1.2.2.1,Ti vm1.2.2.2],.ag [Ti vn2.1,Ti vn2.2.1,Ti vn2.2.2.1,Ti vn2.2.2.2]] (.ag [Ti r.1,Ti r.2.1,Ti r.2.2.1,Ti r.2.2.2]) []:=CtT (zXq vm1 vn2) (fun r=>(.ag [Ti r.1,Ti r.2.1,Ti r.2.2.1,Ti r.2.2.2],[])) (rs:=[.w 4 4]) (vs:=[.cell 4 120]) Tryz.func132 rfl rfl (.cons ⟨rfl,zFY⟩ FitsL.nil) h
def zDW(vm1:τM)(vn2:τM):=fC zW5 (qJ vm1 vn2) fun _=>zYP
theorem zQJ:CfW qh 98:=cfW Tryz.func98
noncomputable def zRD(f1:τF):T qh ((τF×τM)):=
 .n0 (bld zD6 zDf)<|
 .loop (fun n X_1=>zCt n X_1.1 X_1.2.1 X_1.2.2.1 X_1.2.2.2.1 X_1.2.2.2.2.1 X_1.2.2.2.2.2.1 X_1.2.2.2.2.2.2) ((1,0,0,1,f1.1,f1.2.1,f1.2.2)) (mb 20 30) [32,24,16,8] (fun s X_1 γ=>s.pc (mb 20 30) [32,24,16,8] [] [(32,.box [Ti X_1.1,Ti X_1.2.1,Ti X_1.2.2.1,Ti X_1.2.2.2.1]),(8,.box [Ti X_1.2.2.2.2.1,Ti X_1.2.2.2.2.2.1,Ti X_1.2.2.2.2.2.2])]) (fun X_1=>
 .op1 (zKd ((X_1.2.2.2.2.1,X_1.2.2.2.2.2.1,X_1.2.2.2.2.2.2))) fun y11=>
 .cond (!y11) (.op1 (zWf ((X_1.2.2.2.2.1,X_1.2.2.2.2.2.1,X_1.2.2.2.2.2.2))) fun y13=>
 .draw 6 []<|.op1 (zPC ((X_1.2.2.2.2.1,X_1.2.2.2.2.2.1,X_1.2.2.2.2.2.2)) y13) fun y14=>.op1 (zDW ((X_1.1,X_1.2.1,X_1.2.2.1,X_1.2.2.2.1)) y13) fun y15=>
 .ret (.inl ((y15.1,y15.2.1,y15.2.2.1,y15.2.2.2,y14.1,y14.2.1,y14.2.2))))<|.ret (.inr ((X_1.1,X_1.2.1,X_1.2.2.1,X_1.2.2.2.1,X_1.2.2.2.2.1,X_1.2.2.2.2.2.1,X_1.2.2.2.2.2.2)))) (mb 20 30) [32,24,16,8] (fun s o10 γ=>s.pc (mb 20 30) [32,24,16,8] [] [(32,.box [Ti o10.1,Ti o10.2.1,Ti o10.2.2.1,Ti o10.2.2.2.1]),(8,.box [Ti o10.2.2.2.2.1,Ti o10.2.2.2.2.2.1,Ti o10.2.2.2.2.2.2])]) fun o10=>
 .draw 3 [(2,16)]<|
 .ret ((o10.2.2.2.2,(o10.1,o10.2.1,o10.2.2.1,o10.2.2.2.1)))
theorem zRW{f1:τF}{r:(τF×τM)}(h:qI f1=some r):zC qh 98 [.ag [Ti f1.1,Ti f1.2.1,Ti f1.2.2]] (.tc (.ag [Ti r.1.1,Ti r.1.2.1,Ti r.1.2.2]) (.tc (.ag [Ti r.2.1,Ti r.2.2.1,Ti r.2.2.2.1,Ti r.2.2.2.2]) .tn)) []:=CtT (zRD f1) (fun r=>(.tc (.ag [Ti r.1.1,Ti r.1.2.1,Ti r.1.2.2]) (.tc (.ag [Ti r.2.1,Ti r.2.2.1,Ti r.2.2.2.1,Ti r.2.2.2.2]) .tn),[])) (rs:=[.w 2 3,.w 3 4]) (vs:=[.cell 2 42,.cell 3 120]) Tryz.func98 rfl rfl (.cons ⟨rfl,wd42⟩ (.cons ⟨rfl,zFY⟩ FitsL.nil)) h
def zC5(f1:τF):=fC zQJ (qI f1) fun _=>zRW
theorem zRi:CfW qh 71:=cfW Tryz.func71
noncomputable def zSo(f1:τF):T qh (τF):=
 .op1 (zC5 f1) fun y2=>
 .ret y2.1
theorem zTU{f1:τF}{r:τF}(h:jR f1=some r):zC qh 71 [.ag [Ti f1.1,Ti f1.2.1,Ti f1.2.2]] (.ag [Ti r.1,Ti r.2.1,Ti r.2.2]) []:=CtT (zSo f1) (fun r=>(.ag [Ti r.1,Ti r.2.1,Ti r.2.2],[])) (rs:=[.w 2 3]) (vs:=[.cell 2 42]) Tryz.func71 rfl rfl (.cons ⟨rfl,wd42⟩ FitsL.nil) h
def zDE(f1:τF):=fC zRi (jR f1) fun _=>zTU
theorem zKR:CfW qh 97:=cfW Tryz.func97
noncomputable def zLJ(vs1:τS)(name2:qf):T qh Int:=
 .loopS (fun n X_1=>zAO name2 vs1 n X_1) 0 (mb 21 38) [16] (fun s X_1 γ=>s.pc (mb 21 38) [16] [(5,I X_1)] []) (fun X_1=>
 .cond (ltI X_1 ((vs1.2.1.size:Int))) (.draw 7 []<|.op0 (idxs vs1.2.1 X_1) fun e7=>.op0 (idxs name2 0) fun e8=>
 .cond (eqI e7 e8) (
 .ret (.early X_1))<|
 .frc (w64 (X_1+1)) fun i10=>.ret (.again i10))<|.ret (.done (()))) (mb 21 0) [] (fun s o5 γ=>s.pc (mb 21 0) [] [] []) (fun r=>r) fun o5=>
 .ret (-1)
theorem zLZ{vs1:τS}{name2:qf}{r:Int}(h:zAu vs1 name2=some r):zC qh 97 [.ag [Ti vs1.1,.v (.string vs1.2.1),.sl (vs1.2.2.map c42)],.c (.v (.string name2))] (I r) []:=CtU (zLJ vs1 name2) 4 (fun r=>I r) Tryz.func97 rfl rfl h
def zEn(vs1:τS)(name2:qf):=fC zKR (zAu vs1 name2) fun _=>zLZ
theorem zLg:CfW qh 70:=cfW Tryz.func70
noncomputable def zMV(x1:(τS×(List τS)))(vn2:qf)(f3:τF):T qh ((qf×(τS×(List τS)))):=
 .n0 au<|
 .n1 bsl0<|.opx (app ct42 (([]:List τF)) x1.1.2.2) fun u4=>
 .op1 (zEn x1.1 vn2) fun y5=>
 .cond (leI 0 y5) (.op0 (zBF ct42 ((([]:List τF))++x1.1.2.2) y5) fun e7=>.opx (sto ct42 ((([]:List τF))++x1.1.2.2) y5 fun e8=>f3) fun e8=>
 .lt (((([]:List τF))++x1.1.2.2).set (Int.toNat (y5)) f3) fun l9=>.hint (frzH 120)<|.n0 (bld pl53 bt53)<|.opx (zEI x1 ((x1.1.1,x1.1.2.1,l9))) fun y10=>
 .ret ((y10.1,y10.2)))<|.n0 (lenM ct42 ((([]:List τF))++x1.1.2.2))<|
 .lt (leI 8 ((((([]:List τF))++x1.1.2.2).length:Int))) fun t11=>.cond t11 (
 .ret (((⟨#[110,111]⟩:qf),x1)))<|
 .loop (fun n X_3=>zAm f3 vn2 x1 n X_3) 0 (mb 83 1443) [120,56,40,80000,90003] (fun s X_3 γ=>s.pc (mb 83 1443) [120,56,40,80000,90003] [(10,I X_3)] [(80000,s.pbx 80000 [Ti x1.1.1,.v (.string x1.1.2.1),.sl (x1.1.2.2.map c42),.v (zF (γ 90003))]),(90003,.qarr (γ 90003) 53 3 (x1.2.map c53))]) (fun X_3=>
 .dn<|.joinC (.draw 14 []<|.seqT (.cond (ltI X_3 ((x1.1.2.1.size:Int))) (.op0 (idxs x1.1.2.1 X_3) fun e17=>.op0 (idxs vn2 0) fun e18=>.ret (ltI e17 e18)) (.ret false)) fun b19=>.ret b19) (mb 83 4503599627371939) [120,56,40,80000,90003] (fun s q_1 γ=>s.pc (mb 83 4503599627371939) [120,56,40,80000,90003] [(52,Bo q_1)] [(80000,s.pbx 80000 [Ti x1.1.1,.v (.string x1.1.2.1),.sl (x1.1.2.2.map c42),.v (zF (γ 90003))]),(90003,.qarr (γ 90003) 53 3 (x1.2.map c53))]) fun q_1=>
 .cond q_1 (
 .frc (w64 (X_3+1)) fun k21=>.ret (.inl k21))<|.ret (.inr X_3)) (mb 83 1443) [120,56,40,80000,90003] (fun s o15 γ=>s.pc (mb 83 1443) [120,56,40,80000,90003] [(10,I o15)] [(80000,s.pbx 80000 [Ti x1.1.1,.v (.string x1.1.2.1),.sl (x1.1.2.2.map c42),.v (zF (γ 90003))]),(90003,.qarr (γ 90003) 53 3 (x1.2.map c53))]) fun o15=>
 .joinC (.drawM false 10 [1,2,3,7,8,9,10,11,15,24,25,26,27,31,32,33,34,35,39,40,41,42,43,47,56,57,58,59,63,96,97,98,99,103,104,105,106,107,111,120,121,122,123,127,128,129,130,131,135,136,137,138,139,143,152,153,154,155,159,160,161,162,163,167,168,169,170,171,175,184,185,186,187,191,224,225,226,227,231,232,233,234,235,239,248,249,250,251,255,480,481,482,483,487,488,489,490,491,495,504,505,506,507,511,1016,1017,1018,1019,1023] [1,1,0,1,0,1,1,1,0,0,0,1]<|.opx (shr ct42 ((([]:List τF))++x1.1.2.2) o15) fun u22=>.n1 bsl<|.op0 (slice ct42 x1.1.2.2 o15 ((x1.1.2.2.length:Int))) fun u23=>.opx (app ct42 ([f3]) (subl x1.1.2.2 o15 ((x1.1.2.2.length:Int)))) fun u24=>.opx (app ct42 (subl ((([]:List τF))++x1.1.2.2) 0 o15) (([f3])++(subl x1.1.2.2 o15 ((x1.1.2.2.length:Int))))) fun u25=>.ret (u22,u23,u24,u25)) (mb 83 1411) [120,56,80000,90003] (fun s q_2 γ=>s.pc (mb 83 1411) [120,56,80000,90003] [] [(120,.arr 42 3 (((subl ((([]:List τF))++x1.1.2.2) 0 o15)++(([f3])++(subl x1.1.2.2 o15 ((x1.1.2.2.length:Int))))).map c42)),(80000,s.pbx 80000 [Ti x1.1.1,.v (.string x1.1.2.1),.sl (x1.1.2.2.map c42),.v (zF (γ 90003))]),(90003,.qarr (γ 90003) 53 3 (x1.2.map c53))]) fun q_2=>
 .lt ((subl ((([]:List τF))++x1.1.2.2) 0 o15)++(([f3])++(subl x1.1.2.2 o15 ((x1.1.2.2.length:Int))))) fun l26=>.hint (frzH 120)<|.draw 16 []<|.op0 (zEJ x1.1.2.1 0 o15) fun u27=>.op0 (cat (x1.1.2.1.extract (Int.toNat 0) (Int.toNat o15)) vn2) fun u28=>.op0 (zEJ x1.1.2.1 o15 ((x1.1.2.1.size:Int))) fun u29=>.op0 (cat ((x1.1.2.1.extract (Int.toNat 0) (Int.toNat o15))++vn2) (x1.1.2.1.extract (Int.toNat o15) (Int.toNat ((x1.1.2.1.size:Int))))) fun u30=>.n0 (bld pl53 bt53)<|.opx (zEI x1 ((x1.1.1,((x1.1.2.1.extract (Int.toNat 0) (Int.toNat o15))++vn2)++(x1.1.2.1.extract (Int.toNat o15) (Int.toNat ((x1.1.2.1.size:Int)))),l26))) fun y31=>
 .ret ((y31.1,y31.2))
theorem zMh{x1:(τS×(List τS))}{vn2:qf}{f3:τF}{r:(qf×(τS×(List τS)))}(h:jW x1 vn2 f3=some r):zKb qh 70 [.pt 80000 0,.c (.v (.string vn2)),.ag [Ti f3.1,Ti f3.2.1,Ti f3.2.2]] 90003 53 3 (fun l=>[(80000,.box [Ti x1.1.1,.v (.string x1.1.2.1),.sl (x1.1.2.2.map c42),.v (zF (l))])]) (x1.2.map c53) (.v (.string r.1)) (fun l=>[(80000,.box [Ti r.2.1.1,.v (.string r.2.1.2.1),.sl (r.2.1.2.2.map c42),.v (zF (l))])]) (r.2.2.map c53):=CqT (zMV x1 vn2 f3) 90003 53 3 (fun r=>.v (.string r.1)) (fun r l=>[(80000,.box [Ti r.2.1.1,.v (.string r.2.1.2.1),.sl (r.2.1.2.2.map c42),.v (zF (l))])]) (fun r=>r.2.2.map c53) (rs:=.t 6) (vs:=.tmp 6) Tryz.func70 rfl rfl (.cons rfl FitsL.nil) h
def zDr(x1:(τS×(List τS)))(vn2:qf)(f3:τF):=fQ zLg (jW x1 vn2 f3) 80000 4 90003 53 3 (fun _ _ h=>zMh h)
theorem zRk:CfW qh 143:=cfW Tryz.func143
noncomputable def zSq(vn1:Int):T qh Bool:=
 .cond (ltI vn1 2) (
 .ret false)<|
 .loopS (fun n X_1=>zDP vn1 n X_1) 2 (mb 17 9) [] (fun s X_1 γ=>s.pc (mb 17 9) [] [(3,I X_1)] []) (fun X_1=>
 .cond (leI (w64 (X_1*X_1)) vn1) (.op0 (remF .i64 vn1 X_1) fun z7=>
 .cond (eqI (Int.tmod vn1 X_1) 0) (
 .ret (.early false))<|
 .frc (w64 (X_1+1)) fun d9=>.ret (.again d9))<|.ret (.done (()))) (mb 17 0) [] (fun s o5 γ=>s.pc (mb 17 0) [] [] []) (fun r=>r) fun o5=>
 .ret true
theorem zTW{vn1:Int}{r:Bool}(h:zEL vn1=some r):zC qh 143 [I vn1] (Bo r) []:=CtU (zSq vn1) 2 (fun r=>Bo r) Tryz.func143 rfl rfl h
def zVM(vn1:Int):=fC zRk (zEL vn1) fun _=>zTW
theorem zRm:CfW qh 99:=cfW Tryz.func99
noncomputable def zSs(p1:Int):T qh Bool:=
 .pl<|.joinC (.op1 (zFT p1 2 10000) fun y2=>.seqT (.cond y2 (.op1 (zVM p1) fun y4=>.ret y4) (.ret false)) fun b5=>.ret (y2,b5)) (mb 9 4) [] (fun s q_1 γ=>s.pc (mb 9 4) [] [(2,Bo q_1.2)] []) fun q_1=>
 .ret q_1.2
theorem zTY{p1:Int}{r:Bool}(h:zF6 p1=some r):zC qh 99 [I p1] (Bo r) []:=CtU (zSs p1) 2 (fun r=>Bo r) Tryz.func99 rfl rfl h
def zVN(p1:Int):=fC zRm (zF6 p1) fun _=>zTY
theorem zUd:CfW qh 100:=cfW Tryz.func100
noncomputable def zVd(d1:Int)(p2:Int):T qh ((τF×Bool)):=
 .loopS (fun n X_1=>zDb d1 p2 n X_1) 0 (mb 38 83) [32] (fun s X_1 γ=>s.pc (mb 38 83) [32] [(6,I X_1)] []) (fun X_1=>
 .cond (leI X_1 p2) (.op0 (remF .i64 (w64 ((w64 (X_1*X_1)) - d1)) (w64 (4*p2))) fun z7=>
 .cond (eqI (Int.tmod (w64 ((w64 (X_1*X_1)) - d1)) (w64 (4*p2))) 0) (.op0 (quoF .i64 (w64 ((w64 (X_1*X_1)) - d1)) (w64 (4*p2))) fun z9=>.n0 (bld pl42 bt42)<|
 .frc (w64 (Int.tdiv (w64 ((w64 (X_1*X_1)) - d1)) (w64 (4*p2)))) fun f10=>.draw 5 [(4,32)]<|.op1 (zGE ((p2,X_1,f10))) fun y11=>
 .ret (.early (((p2,X_1,f10),eqI y11 1))))<|
 .frc (w64 (X_1+1)) fun b12=>.ret (.again b12))<|.ret (.done (()))) (mb 38 16) [32] (fun s o5 γ=>s.pc (mb 38 16) [32] [] []) (fun r=>r) fun o5=>
 .n0 (bld pl42 bt42)<|
 .ret (((0,0,0),false))
theorem zWB{d1:Int}{p2:Int}{r:(τF×Bool)}(h:zGG d1 p2=some r):zC qh 100 [I d1,I p2] (.tc (.ag [Ti r.1.1,Ti r.1.2.1,Ti r.1.2.2]) (.tc (Bo r.2) .tn)) []:=CtT (zVd d1 p2) (fun r=>(.tc (.ag [Ti r.1.1,Ti r.1.2.1,Ti r.1.2.2]) (.tc (Bo r.2) .tn),[])) (rs:=[.w 4 3,.t 5]) (vs:=[.cell 4 42,.tmp 5]) Tryz.func100 rfl rfl (.cons ⟨rfl,wd42⟩ (.cons rfl FitsL.nil)) h
def zWi(d1:Int)(p2:Int):=fC zUd (zGG d1 p2) fun _=>zWB
theorem zNN:CfW qh 72:=cfW Tryz.func72
noncomputable def zNo(d1:Int)(p2:Int):T qh ((τF×Bool)):=
 .pl<|.dn<|.joinC (.op1 (zMP d1) fun y3=>.seqT (.cond (!y3) (.ret true) (.op1 (zVN p2) fun y5=>.ret (!y5))) fun b6=>.ret (y3,b6)) (mb 28 32787) [32] (fun s q_1 γ=>s.pc (mb 28 32787) [32] [(15,Bo q_1.2)] []) fun q_1=>
 .cond q_1.2 (.n0 (bld pl42 bt42)<|
 .ret (((0,0,0),false)))<|.op1 (zWi d1 p2) fun y8=>
 .cond (!y8.2) (.n0 (bld pl42 bt42)<|
 .ret (((0,0,0),false)))<|.op1 (zDE y8.1) fun y10=>
 .ret ((y10,true))
theorem zON{d1:Int}{p2:Int}{r:(τF×Bool)}(h:zDS d1 p2=some r):zC qh 72 [I d1,I p2] (.tc (.ag [Ti r.1.1,Ti r.1.2.1,Ti r.1.2.2]) (.tc (Bo r.2) .tn)) []:=CtT (zNo d1 p2) (fun r=>(.tc (.ag [Ti r.1.1,Ti r.1.2.1,Ti r.1.2.2]) (.tc (Bo r.2) .tn),[])) (rs:=[.w 4 3,.t 5]) (vs:=[.cell 4 42,.tmp 5]) Tryz.func72 rfl rfl (.cons ⟨rfl,wd42⟩ (.cons rfl FitsL.nil)) h
def zPF(d1:Int)(p2:Int):=fC zNN (zDS d1 p2) fun _=>zON
theorem zLi:CfW qh 73:=cfW Tryz.func73
noncomputable def zMX(x1:(τS×(List τS)))(vn2:qf):T qh ((qf×(τS×(List τS)))):=
 .n0 au<|
 .op1 (zEn x1.1 vn2) fun y3=>
 .cond (ltI y3 0) (
 .ret (((⟨#[110,111]⟩:qf),x1)))<|.pl<|.joinC (.drawM false 11 [1,2,3,6,7,8,9,10,11,14,15,30,31,63,64,65,66,67,70,71,72,73,74,75,78,79,94,95,127,192,193,194,195,198,199,200,201,202,203,206,207,222,223,255,256,257,258,259,262,263,264,265,266,267,270,271,286,287,319,320,321,322,323,326,327,328,329,330,331,334,335,350,351,383,448,449,450,451,454,455,456,457,458,459,462,463,478,479,511,768,769,770,771,774,775,776,777,778,779,782,783,798,799,831,832,833,834,835,838,839,840,841,842,843,846,847,862,863,895,960,961,962,963,966,967,968,969,970,971,974,975,990,991,1023,1984,1985,1986,1987,1990,1991,1992,1993,1994,1995,1998,1999,2014,2015,2047] [0,1,1,1,0,0,1,1,1,1,0,0,1]<|.n1 bsl0<|.op0 (slice ct42 x1.1.2.2 0 y3) fun u5=>.opx (app ct42 (([]:List τF)) (subl x1.1.2.2 0 y3)) fun u6=>.op0 (slice ct42 x1.1.2.2 (w64 (y3+1)) ((x1.1.2.2.length:Int))) fun u7=>.opx (app ct42 ((([]:List τF))++(subl x1.1.2.2 0 y3)) (subl x1.1.2.2 (w64 (y3+1)) ((x1.1.2.2.length:Int)))) fun u8=>.ret (u5,u6,u7,u8)) (mb 45 225) [136,40,80000,90003] (fun s q_1 γ=>s.pc (mb 45 225) [136,40,80000,90003] [(7,.ow 136)] [(136,.arr 42 3 ((((([]:List τF))++(subl x1.1.2.2 0 y3))++(subl x1.1.2.2 (w64 (y3+1)) ((x1.1.2.2.length:Int)))).map c42)),(80000,s.pbx 80000 [Ti x1.1.1,.v (.string x1.1.2.1),.sl (x1.1.2.2.map c42),.v (zF (γ 90003))]),(90003,.qarr (γ 90003) 53 3 (x1.2.map c53))]) fun q_1=>
 .lt (((([]:List τF))++(subl x1.1.2.2 0 y3))++(subl x1.1.2.2 (w64 (y3+1)) ((x1.1.2.2.length:Int)))) fun l9=>.hint (frzH 136)<|.draw 15 []<|.op0 (zEJ x1.1.2.1 0 y3) fun u10=>.op0 (zEJ x1.1.2.1 (w64 (y3+1)) ((x1.1.2.1.size:Int))) fun u11=>.op0 (cat (x1.1.2.1.extract (Int.toNat 0) (Int.toNat y3)) (x1.1.2.1.extract (Int.toNat (w64 (y3+1))) (Int.toNat ((x1.1.2.1.size:Int))))) fun u12=>.n0 (bld pl53 bt53)<|.opx (zEI x1 ((x1.1.1,(x1.1.2.1.extract (Int.toNat 0) (Int.toNat y3))++(x1.1.2.1.extract (Int.toNat (w64 (y3+1))) (Int.toNat ((x1.1.2.1.size:Int)))),l9))) fun y13=>
 .ret ((y13.1,y13.2))
theorem zMj{x1:(τS×(List τS))}{vn2:qf}{r:(qf×(τS×(List τS)))}(h:zBV x1 vn2=some r):zKb qh 73 [.pt 80000 0,.c (.v (.string vn2))] 90003 53 3 (fun l=>[(80000,.box [Ti x1.1.1,.v (.string x1.1.2.1),.sl (x1.1.2.2.map c42),.v (zF (l))])]) (x1.2.map c53) (.v (.string r.1)) (fun l=>[(80000,.box [Ti r.2.1.1,.v (.string r.2.1.2.1),.sl (r.2.1.2.2.map c42),.v (zF (l))])]) (r.2.2.map c53):=CqT (zMX x1 vn2) 90003 53 3 (fun r=>.v (.string r.1)) (fun r l=>[(80000,.box [Ti r.2.1.1,.v (.string r.2.1.2.1),.sl (r.2.1.2.2.map c42),.v (zF (l))])]) (fun r=>r.2.2.map c53) (rs:=.t 4) (vs:=.tmp 4) Tryz.func73 rfl rfl (.cons rfl FitsL.nil) h
def zN4(x1:(τS×(List τS)))(vn2:qf):=fQ zLi (zBV x1 vn2) 80000 4 90003 53 3 (fun _ _ h=>zMj h)
theorem zLf:CfW qh 74:=cfW Tryz.func74
noncomputable def zMU(x1:(τS×(List τS))):T qh ((qf×(τS×(List τS)))):=
 .n0 au<|.late (seeH 7 90003)<|.n0 (lenM ct53 x1.2)<|
 .cond (eqI ((x1.2.length:Int)) 0) (
 .ret (((⟨#[110,111]⟩:qf),x1)))<|.n0 au<|.late (seeH 15 90003)<|.op0 (zBF ct53 x1.2 (w64 (((x1.2.length:Int)) - 1))) fun e3=>.op0 (ldo ct53 x1.2 (w64 (((x1.2.length:Int)) - 1))) fun e4=>.n0 au<|
 .n0 au<|.late (zPQ 26 90003)<|.opx (shr ct53 x1.2 (w64 (((x1.2.length:Int)) - 1))) fun u5=>.n0 au<|.late (pinH 29 90003)<|
 .ret (((⟨#[111,107]⟩:qf),(e4,subl x1.2 0 (w64 (((x1.2.length:Int)) - 1)))))
theorem zMg{x1:(τS×(List τS))}{r:(qf×(τS×(List τS)))}(h:zBv x1=some r):zKb qh 74 [.pt 80000 0] 90003 53 3 (fun l=>[(80000,.box [Ti x1.1.1,.v (.string x1.1.2.1),.sl (x1.1.2.2.map c42),.v (zF (l))])]) (x1.2.map c53) (.v (.string r.1)) (fun l=>[(80000,.box [Ti r.2.1.1,.v (.string r.2.1.2.1),.sl (r.2.1.2.2.map c42),.v (zF (l))])]) (r.2.2.map c53):=CqT (zMU x1) 90003 53 3 (fun r=>.v (.string r.1)) (fun r l=>[(80000,.box [Ti r.2.1.1,.v (.string r.2.1.2.1),.sl (r.2.1.2.2.map c42),.v (zF (l))])]) (fun r=>r.2.2.map c53) (rs:=.t 2) (vs:=.tmp 2) Tryz.func74 rfl rfl (.cons rfl FitsL.nil) h
def zN2(x1:(τS×(List τS))):=fQ zLf (zBv x1) 80000 4 90003 53 3 (fun _ _ h=>zMg h)
theorem zRt:CfW qh 180:=cfW Tryz.func180
noncomputable def zSz(g1:τF)(a2:Int):T qh ((Int×Int)):=
 .loopS (fun n X_4=>zDR a2 g1 n X_4) 1 (mb 45 70) [16] (fun s X_4 γ=>s.pc (mb 45 70) [16] [(6,I X_4)] []) (fun X_4=>
 .cond (leI X_4 100) (
 .loopS (fun n X_3=>zDQ a2 g1 X_4 n X_3) 0 (mb 45 198) [16] (fun s X_3 γ=>s.pc (mb 45 198) [16] [(7,I X_3)] []) (fun X_3=>
 .cond (leI X_3 X_4) (
 .loopS (fun n X_2=>zCw a2 g1 X_4 X_3 n X_2) 0 (mb 45 454) [16] (fun s X_2 γ=>s.pc (mb 45 454) [16] [(8,I X_2)] []) (fun X_2=>
 .cond (leI X_2 X_4) (.pl<|.dn<|.joinC (.op1 (zMQ X_3 X_2) fun y15=>.seqT (.cond (eqI y15 X_4) (.op1 (zDt X_3 X_2) fun y17=>.ret (eqI y17 1)) (.ret false)) fun b18=>.seqT (.cond b18 (.op1 (zEZ g1 X_3 X_2) fun y20=>.op1 (zDt y20 a2) fun y21=>.ret (eqI y21 1)) (.ret false)) fun b22=>.ret (y15,b18,b22)) (mb 45 4398046511558) [16] (fun s q_1 γ=>s.pc (mb 45 4398046511558) [16] [(42,Bo q_1.2.2)] []) fun q_1=>
 .cond q_1.2.2 (
 .ret (.early ((X_3,X_2))))<|
 .frc (w64 (X_2+1)) fun y24=>.ret (.again y24))<|.ret (.done (()))) (mb 45 198) [16] (fun s o13 γ=>s.pc (mb 45 198) [16] [] []) (.early) fun o13=>
 .frc (w64 (X_3+1)) fun x25=>.ret (.again x25))<|.ret (.done (()))) (mb 45 70) [16] (fun s o9 γ=>s.pc (mb 45 70) [16] [] []) (.early) fun o9=>
 .frc (w64 (X_4+1)) fun k26=>.ret (.again k26))<|.ret (.done (()))) (mb 45 0) [] (fun s o5 γ=>s.pc (mb 45 0) [] [] []) (fun r=>r) fun o5=>
 .ret ((1,0))
theorem zT5{g1:τF}{a2:Int}{r:(Int×Int)}(h:zCx g1 a2=some r):zC qh 180 [.ag [Ti g1.1,Ti g1.2.1,Ti g1.2.2],I a2] (.tc (I r.1) (.tc (I r.2) .tn)) []:=CtT (zSz g1 a2) (fun r=>(.tc (I r.1) (.tc (I r.2) .tn),[])) (rs:=[.t 4,.t 5]) (vs:=[.tmp 4,.tmp 5]) Tryz.func180 rfl rfl (.cons rfl (.cons rfl FitsL.nil)) h
def zVQ(g1:τF)(a2:Int):=fC zRt (zCx g1 a2) fun _=>zT5
theorem zUb:CfW qh 251:=cfW Tryz.func251
noncomputable def zVb(vn1:Int):T qh Int:=
 .cond (ltI 0 vn1) (
 .ret 1)<|
 .cond (ltI vn1 0) (
 .ret (-1))<|
 .ret 0
theorem zVz{vn1:Int}{r:Int}(h:zIG vn1=some r):zC qh 251 [I vn1] (I r) []:=CtU (zVb vn1) 2 (fun r=>I r) Tryz.func251 rfl rfl h
def zWh(vn1:Int):=fC zUb (zIG vn1) fun _=>zVz
theorem zOg:CfW qh 217:=cfW Tryz.func217
noncomputable def zPS(a1:Int)(vm2:Int):T qh Int:=
 .op1 (zBT a1 vm2) fun y3=>
 .loop (fun n X_1=>zC7 vm2 n X_1.1 X_1.2.1 X_1.2.2.1 X_1.2.2.2) ((vm2,y3,0,1)) (mb 36 482) [] (fun s X_1 γ=>s.pc (mb 36 482) [] [(5,I X_1.1),(6,I X_1.2.1),(7,I X_1.2.2.1),(8,I X_1.2.2.2)] []) (fun X_1=>
 .cond (!eqI X_1.2.1 0) (.op0 (quoF .i64 X_1.1 X_1.2.1) fun z11=>
 .frc (w64 (Int.tdiv X_1.1 X_1.2.1)) fun q12=>
 .frc (w64 (X_1.1 - (w64 (q12*X_1.2.1)))) fun next13=>
 .frc (w64 (X_1.2.2.1 - (w64 (q12*X_1.2.2.2)))) fun y14=>.ret (.inl ((X_1.2.1,next13,X_1.2.2.2,y14))))<|.ret (.inr ((X_1.1,X_1.2.2.1)))) (mb 36 162) [] (fun s o9 γ=>s.pc (mb 36 162) [] [(5,I o9.1),(7,I o9.2)] []) fun o9=>
 .cond (!eqI o9.1 1) (
 .ret (-1))<|.op1 (zBT o9.2 vm2) fun y16=>
 .ret y16
theorem zP9{a1:Int}{vm2:Int}{r:Int}(h:zCm a1 vm2=some r):zC qh 217 [I a1,I vm2] (I r) []:=CtU (zPS a1 vm2) 4 (fun r=>I r) Tryz.func217 rfl rfl h
def zI6(a1:Int)(vm2:Int):=fC zOg (zCm a1 vm2) fun _=>zP9
theorem zQN:CfW qh 216:=cfW Tryz.func216
noncomputable def zRH(a1:Int)(b2:Int):T qh (τF):=
 .op1 (zDt a1 b2) fun y3=>
 .cond (eqI b2 0) (.op1 (zWh a1) fun y5=>
 .ret ((y3,y5,0)))<|.draw 9 []<|.op0 (quoF .i64 a1 y3) fun z6=>.op1 (zJE b2) fun y7=>.op0 (quoF .i64 y7 y3) fun z8=>.op1 (zI6 (w64 (Int.tdiv a1 y3)) (w64 (Int.tdiv y7 y3))) fun y9=>
 .draw 12 []<|.op0 (quoF .i64 (w64 (y3 - (w64 (a1*y9)))) b2) fun z10=>
 .frc (w64 (Int.tdiv (w64 (y3 - (w64 (a1*y9)))) b2)) fun t11=>.ret ((y3,y9,t11))
theorem zR0{a1:Int}{b2:Int}{r:τF}(h:zDv a1 b2=some r):zC qh 216 [I a1,I b2] (.tc (I r.1) (.tc (I r.2.1) (.tc (I r.2.2) .tn))) []:=CtT (zRH a1 b2) (fun r=>(.tc (I r.1) (.tc (I r.2.1) (.tc (I r.2.2) .tn)),[])) (rs:=[.t 4,.t 5,.t 6]) (vs:=[.tmp 4,.tmp 5,.tmp 6]) Tryz.func216 rfl rfl (.cons rfl (.cons rfl (.cons rfl FitsL.nil))) h
def zSN(a1:Int)(b2:Int):=fC zQN (zDv a1 b2) fun _=>zR0
theorem zNF:CfW qh 181:=cfW Tryz.func181
noncomputable def zNg(f1:τF)(x2:Int)(y3:Int):T qh ((τF×τM)):=
 .op1 (zSN x2 y3) fun y4=>
 .op1 (zEZ f1 x2 y3) fun y5=>
 .frc (w64 (0 - y4.2.2)) fun q6=>.op1 (zKe f1 x2 y3 q6 y4.2.1) fun y7=>
 .op1 (zBT y7 (w64 (2*y5))) fun y8=>.op0 (quoF .i64 (w64 (y8 - y7)) (w64 (2*y5))) fun z9=>
 .frc (w64 (Int.tdiv (w64 (y8 - y7)) (w64 (2*y5)))) fun t10=>.n0 (bld zD6 zDf)<|
 .frc (w64 (q6+(w64 (x2*t10)))) fun f11=>.frc (w64 (y4.2.1+(w64 (y3*t10)))) fun f12=>
 .frc (w64 (y7+(w64 ((w64 (2*y5))*t10)))) fun b13=>.draw 14 [(13,48)]<|.op1 (zBQ f1) fun y14=>.op0 (quoF .i64 (w64 ((w64 (b13*b13)) - y14)) (w64 (4*y5))) fun z15=>.n0 (bld pl42 bt42)<|
 .frc (w64 (Int.tdiv (w64 ((w64 (b13*b13)) - y14)) (w64 (4*y5)))) fun f16=>.ret (((y5,b13,f16),(x2,f11,y3,f12)))
theorem zOF{f1:τF}{x2:Int}{y3:Int}{r:(τF×τM)}(h:zAz f1 x2 y3=some r):zC qh 181 [.ag [Ti f1.1,Ti f1.2.1,Ti f1.2.2],I x2,I y3] (.tc (.ag [Ti r.1.1,Ti r.1.2.1,Ti r.1.2.2]) (.tc (.ag [Ti r.2.1,Ti r.2.2.1,Ti r.2.2.2.1,Ti r.2.2.2.2]) .tn)) []:=CtT (zNg f1 x2 y3) (fun r=>(.tc (.ag [Ti r.1.1,Ti r.1.2.1,Ti r.1.2.2]) (.tc (.ag [Ti r.2.1,Ti r.2.2.1,Ti r.2.2.2.1,Ti r.2.2.2.2]) .tn),[])) (rs:=[.w 6 3,.w 7 4]) (vs:=[.cell 6 42,.cell 7 120]) Tryz.func181 rfl rfl (.cons ⟨rfl,wd42⟩ (.cons ⟨rfl,zFY⟩ FitsL.nil)) h
def zOy(f1:τF)(x2:Int)(y3:Int):=fC zNF (zAz f1 x2 y3) fun _=>zOF
theorem zQM:CfW qh 182:=cfW Tryz.func182
noncomputable def zRG(a1:Int)(vm2:Int)(b3:Int)(vn4:Int):T qh ((Int×Int×Bool)):=
 .op1 (zDt vm2 vn4) fun y5=>
 .op0 (remF .i64 (w64 (b3 - a1)) y5) fun z6=>
 .cond (!eqI (Int.tmod (w64 (b3 - a1)) y5) 0) (
 .ret ((0,0,false)))<|.draw 18 []<|.op0 (quoF .i64 (w64 (b3 - a1)) y5) fun z8=>.op0 (quoF .i64 vm2 y5) fun z9=>.op0 (quoF .i64 vn4 y5) fun z10=>.op1 (zI6 (w64 (Int.tdiv vm2 y5)) (w64 (Int.tdiv vn4 y5))) fun y11=>.op0 (quoF .i64 vn4 y5) fun z12=>.op1 (zBT (w64 ((w64 (Int.tdiv (w64 (b3 - a1)) y5))*y11)) (w64 (Int.tdiv vn4 y5))) fun y13=>
 .op0 (quoF .i64 vm2 y5) fun z14=>
 .frc (w64 ((w64 (Int.tdiv vm2 y5))*vn4)) fun all15=>.op1 (zBT (w64 (a1+(w64 (vm2*y13)))) all15) fun y16=>
 .ret ((y16,all15,true))
theorem zRZ{a1:Int}{vm2:Int}{b3:Int}{vn4:Int}{r:(Int×Int×Bool)}(h:zDJ a1 vm2 b3 vn4=some r):zC qh 182 [I a1,I vm2,I b3,I vn4] (.tc (I r.1) (.tc (I r.2.1) (.tc (Bo r.2.2) .tn))) []:=CtT (zRG a1 vm2 b3 vn4) (fun r=>(.tc (I r.1) (.tc (I r.2.1) (.tc (Bo r.2.2) .tn)),[])) (rs:=[.t 8,.t 9,.t 10]) (vs:=[.tmp 8,.tmp 9,.tmp 10]) Tryz.func182 rfl rfl (.cons rfl (.cons rfl (.cons rfl FitsL.nil))) h
def zSM(a1:Int)(vm2:Int)(b3:Int)(vn4:Int):=fC zQM (zDJ a1 vm2 b3 vn4) fun _=>zRZ
theorem zRr:CfW qh 183:=cfW Tryz.func183
noncomputable def zSx(t1:Int):T qh (τM):=
 .n0 (bld zD6 zDf)<|
 .ret ((1,t1,0,1))
theorem zT3{t1:Int}{r:τM}(h:zEO t1=some r):zC qh 183 [I t1] (.ag [Ti r.1,Ti r.2.1,Ti r.2.2.1,Ti r.2.2.2]) []:=CtT (zSx t1) (fun r=>(.ag [Ti r.1,Ti r.2.1,Ti r.2.2.1,Ti r.2.2.2],[])) (rs:=[.w 2 4]) (vs:=[.cell 2 120]) Tryz.func183 rfl rfl (.cons ⟨rfl,zFY⟩ FitsL.nil) h
def zKf(t1:Int):=fC zRr (zEO t1) fun _=>zT3
theorem zRq:CfW qh 144:=cfW Tryz.func144
noncomputable def zSw(f1:τF)(g2:τF):T qh ((τF×τF×τM×τM)):=
 .op1 (zC5 f1) fun y3=>
 .op1 (zC5 g2) fun y4=>
 .op1 (zVQ y4.1 y3.1.1) fun y5=>
 .op1 (zOy y4.1 y5.1 y5.2) fun y6=>
 .op1 (zDW y4.2 y6.2) fun y7=>
 .draw 22 []<|.op1 (zBT y3.1.2.1 (w64 (2*y3.1.1))) fun y8=>.op1 (zSM y8 (w64 (2*y3.1.1)) y6.1.2.1 (w64 (2*y6.1.1))) fun y9=>
 .draw 11 []<|.op0 (quoF .i64 (w64 (y9.1 - y3.1.2.1)) (w64 (2*y3.1.1))) fun z10=>.op1 (zKf (w64 (Int.tdiv (w64 (y9.1 - y3.1.2.1)) (w64 (2*y3.1.1))))) fun y11=>.op1 (zDW y3.2 y11) fun y12=>
 .draw 11 []<|.op0 (quoF .i64 (w64 (y9.1 - y6.1.2.1)) (w64 (2*y6.1.1))) fun z13=>.op1 (zKf (w64 (Int.tdiv (w64 (y9.1 - y6.1.2.1)) (w64 (2*y6.1.1))))) fun y14=>.op1 (zDW y7 y14) fun y15=>
 .draw 14 []<|.op1 (zBQ y3.1) fun y16=>.op0 (quoF .i64 (w64 ((w64 (y9.1*y9.1)) - y16)) (w64 ((w64 (4*y3.1.1))*y6.1.1))) fun z17=>
 .frc (w64 (Int.tdiv (w64 ((w64 (y9.1*y9.1)) - y16)) (w64 ((w64 (4*y3.1.1))*y6.1.1)))) fun cc18=>.draw 21 [(18,32),(19,40),(20,48)]<|.n0 (bld pl42 bt42)<|.n0 (bld pl42 bt42)<|
 .frc (w64 (y3.1.1*cc18)) fun f19=>.frc (w64 (y6.1.1*cc18)) fun f20=>.ret (((y3.1.1,y9.1,f20),(y6.1.1,y9.1,f19),y12,y15))
theorem zT2{f1:τF}{g2:τF}{r:(τF×τF×τM×τM)}(h:zCv f1 g2=some r):zC qh 144 [.ag [Ti f1.1,Ti f1.2.1,Ti f1.2.2],.ag [Ti g2.1,Ti g2.2.1,Ti g2.2.2]] (.tc (.ag [Ti r.1.1,Ti r.1.2.1,Ti r.1.2.2]) (.tc (.ag [Ti r.2.1.1,Ti r.2.1.2.1,Ti r.2.1.2.2]) (.tc (.ag [Ti r.2.2.1.1,Ti r.2.2.1.2.1,Ti r.2.2.1.2.2.1,Ti r.2.2.1.2.2.2]) (.tc (.ag [Ti r.2.2.2.1,Ti r.2.2.2.2.1,Ti r.2.2.2.2.2.1,Ti r.2.2.2.2.2.2]) .tn)))) []:=CtT (zSw f1 g2) (fun r=>(.tc (.ag [Ti r.1.1,Ti r.1.2.1,Ti r.1.2.2]) (.tc (.ag [Ti r.2.1.1,Ti r.2.1.2.1,Ti r.2.1.2.2]) (.tc (.ag [Ti r.2.2.1.1,Ti r.2.2.1.2.1,Ti r.2.2.1.2.2.1,Ti r.2.2.1.2.2.2]) (.tc (.ag [Ti r.2.2.2.1,Ti r.2.2.2.2.1,Ti r.2.2.2.2.2.1,Ti r.2.2.2.2.2.2]) .tn))),[])) (rs:=[.w 4 3,.w 5 3,.w 6 4,.w 7 4]) (vs:=[.cell 4 42,.cell 5 42,.cell 6 120,.cell 7 120]) Tryz.func144 rfl rfl (.cons ⟨rfl,wd42⟩ (.cons ⟨rfl,wd42⟩ (.cons ⟨rfl,zFY⟩ (.cons ⟨rfl,zFY⟩ FitsL.nil)))) h
def zVO(f1:τF)(g2:τF):=fC zRq (zCv f1 g2) fun _=>zT2
theorem zQR:CfW qh 145:=cfW Tryz.func145
noncomputable def zRL(a1:τF)(e2:τF):T qh (τF):=
 .draw 13 []<|.op0 (quoF .i64 a1.2.2 e2.1) fun z3=>.n0 (bld pl42 bt42)<|
 .frc (w64 (a1.1*e2.1)) fun f4=>.frc (w64 (Int.tdiv a1.2.2 e2.1)) fun f5=>.ret ((f4,a1.2.1,f5))
theorem zR4{a1:τF}{e2:τF}{r:τF}(h:zEy a1 e2=some r):zC qh 145 [.ag [Ti a1.1,Ti a1.2.1,Ti a1.2.2],.ag [Ti e2.1,Ti e2.2.1,Ti e2.2.2]] (.ag [Ti r.1,Ti r.2.1,Ti r.2.2]) []:=CtT (zRL a1 e2) (fun r=>(.ag [Ti r.1,Ti r.2.1,Ti r.2.2],[])) (rs:=[.w 4 3]) (vs:=[.cell 4 42]) Tryz.func145 rfl rfl (.cons ⟨rfl,wd42⟩ FitsL.nil) h
def zSQ(a1:τF)(e2:τF):=fC zQR (zEy a1 e2) fun _=>zR4
theorem zWa:CfW qh 101:=cfW Tryz.func101
noncomputable def zXu(f1:τF)(g2:τF):T qh (τF):=
 .op1 (zVO f1 g2) fun y3=>
 .op1 (zSQ y3.1 y3.2.1) fun y4=>.op1 (zDE y4) fun y5=>
 .ret y5
theorem zYU{f1:τF}{g2:τF}{r:τF}(h:zA2 f1 g2=some r):zC qh 101 [.ag [Ti f1.1,Ti f1.2.1,Ti f1.2.2],.ag [Ti g2.1,Ti g2.2.1,Ti g2.2.2]] (.ag [Ti r.1,Ti r.2.1,Ti r.2.2]) []:=CtT (zXu f1 g2) (fun r=>(.ag [Ti r.1,Ti r.2.1,Ti r.2.2],[])) (rs:=[.w 4 3]) (vs:=[.cell 4 42]) Tryz.func101 rfl rfl (.cons ⟨rfl,wd42⟩ FitsL.nil) h
def zGy(f1:τF)(g2:τF):=fC zWa (zA2 f1 g2) fun _=>zYU
theorem zNK:CfW qh 184:=cfW Tryz.func184
noncomputable def zNl(f1:τF):T qh (τF):=
 .n0 (bld pl42 bt42)<|
 .frc (w64 (0 - f1.2.1)) fun f2=>.ret ((f1.1,f2,f1.2.2))
theorem zOK{f1:τF}{r:τF}(h:zEF f1=some r):zC qh 184 [.ag [Ti f1.1,Ti f1.2.1,Ti f1.2.2]] (.ag [Ti r.1,Ti r.2.1,Ti r.2.2]) []:=CtT (zNl f1) (fun r=>(.ag [Ti r.1,Ti r.2.1,Ti r.2.2],[])) (rs:=[.w 2 3]) (vs:=[.cell 2 42]) Tryz.func184 rfl rfl (.cons ⟨rfl,wd42⟩ FitsL.nil) h
def zPA(f1:τF):=fC zNK (zEF f1) fun _=>zOK
theorem zOk:CfW qh 146:=cfW Tryz.func146
noncomputable def zPW(f1:τF):T qh (τF):=
 .op1 (zPA f1) fun y2=>.op1 (zDE y2) fun y3=>
 .ret y3
theorem zPe{f1:τF}{r:τF}(h:zDe f1=some r):zC qh 146 [.ag [Ti f1.1,Ti f1.2.1,Ti f1.2.2]] (.ag [Ti r.1,Ti r.2.1,Ti r.2.2]) []:=CtT (zPW f1) (fun r=>(.ag [Ti r.1,Ti r.2.1,Ti r.2.2],[])) (rs:=[.w 2 3]) (vs:=[.cell 2 42]) Tryz.func146 rfl rfl (.cons ⟨rfl,wd42⟩ FitsL.nil) h
def zQe(f1:τF):=fC zOk (zDe f1) fun _=>zPe
theorem zW9:CfW qh 147:=cfW Tryz.func147
noncomputable def zXt(d1:Int):T qh (τF):=
 .op1 (zBT d1 2) fun y2=>
 .n0 dvN<|.n0 (bld pl42 bt42)<|
 .frc (w64 (Int.tdiv (w64 (y2 - d1)) 4)) fun f3=>.ret ((1,y2,f3))
theorem zYT{d1:Int}{r:τF}(h:zE3 d1=some r):zC qh 147 [I d1] (.ag [Ti r.1,Ti r.2.1,Ti r.2.2]) []:=CtT (zXt d1) (fun r=>(.ag [Ti r.1,Ti r.2.1,Ti r.2.2],[])) (rs:=[.w 2 3]) (vs:=[.cell 2 42]) Tryz.func147 rfl rfl (.cons ⟨rfl,wd42⟩ FitsL.nil) h
def zPD(d1:Int):=fC zW9 (zE3 d1) fun _=>zYT
theorem zRs:CfW qh 102:=cfW Tryz.func102
noncomputable def zSy(f1:τF)(k2:Int):T qh (τF):=
 .op1 (zDE f1) fun y3=>
 .join (
 .cond (ltI k2 0) (.op1 (zQe y3) fun y6=>
 .frc (w64 (0 - k2)) fun k7=>.ret (k7,y6.1,y6.2.1,y6.2.2))<|.ret (k2,y3.1,y3.2.1,y3.2.2)) (mb 31 22) [32,16] (fun s j4 γ=>s.pc (mb 31 22) [32,16] [(1,I j4.1)] [(16,.box [Ti j4.2.1,Ti j4.2.2.1,Ti j4.2.2.2])]) fun j4=>
 .op1 (zBQ j4.2) fun y8=>.op1 (zPD y8) fun y9=>
 .loop (fun n X_1=>zBx n X_1.1 X_1.2.1 X_1.2.2.1 X_1.2.2.2.1 X_1.2.2.2.2.1 X_1.2.2.2.2.2.1 X_1.2.2.2.2.2.2) ((j4.1,y9.1,y9.2.1,y9.2.2,j4.2.1,j4.2.2.1,j4.2.2.2)) (mb 31 54) [40,32,16] (fun s X_1 γ=>s.pc (mb 31 54) [40,32,16] [(1,I X_1.1)] [(40,.box [Ti X_1.2.1,Ti X_1.2.2.1,Ti X_1.2.2.2.1]),(16,.box [Ti X_1.2.2.2.2.1,Ti X_1.2.2.2.2.2.1,Ti X_1.2.2.2.2.2.2])]) (fun X_1=>
 .cond (ltI 0 X_1.1) (.pl<|.dn<|.join (.n0 dvN<|
 .cond (eqI (Int.tmod X_1.1 2) 1) (.op1 (zGy ((X_1.2.1,X_1.2.2.1,X_1.2.2.2.1)) ((X_1.2.2.2.2.1,X_1.2.2.2.2.2.1,X_1.2.2.2.2.2.2))) fun y22=>
 .ret (y22.1,y22.2.1,y22.2.2))<|.ret (X_1.2.1,X_1.2.2.1,X_1.2.2.2.1)) (mb 31 54) [40,32,16] (fun s j20 γ=>s.pc (mb 31 54) [40,32,16] [] [(40,.box [Ti j20.1,Ti j20.2.1,Ti j20.2.2])]) fun j20=>
 .op1 (zGy ((X_1.2.2.2.2.1,X_1.2.2.2.2.2.1,X_1.2.2.2.2.2.2)) ((X_1.2.2.2.2.1,X_1.2.2.2.2.2.1,X_1.2.2.2.2.2.2))) fun y23=>
 .n0 dvN<|
 .frc (w64 (Int.tdiv X_1.1 2)) fun k24=>.ret (.inl ((k24,j20.1,j20.2.1,j20.2.2,y23.1,y23.2.1,y23.2.2))))<|.ret (.inr ((X_1.2.1,X_1.2.2.1,X_1.2.2.2.1)))) (mb 31 48) [40,32] (fun s o18 γ=>s.pc (mb 31 48) [40,32] [] [(40,.box [Ti o18.1,Ti o18.2.1,Ti o18.2.2])]) fun o18=>
 .ret o18
theorem zT4{f1:τF}{k2:Int}{r:τF}(h:zDd f1 k2=some r):zC qh 102 [.ag [Ti f1.1,Ti f1.2.1,Ti f1.2.2],I k2] (.ag [Ti r.1,Ti r.2.1,Ti r.2.2]) []:=CtT (zSy f1 k2) (fun r=>(.ag [Ti r.1,Ti r.2.1,Ti r.2.2],[])) (rs:=[.w 4 3]) (vs:=[.cell 4 42]) Tryz.func102 rfl rfl (.cons ⟨rfl,wd42⟩ FitsL.nil) h
def zVP(f1:τF)(k2:Int):=fC zRs (zDd f1 k2) fun _=>zT4
theorem zMI:∀args w,(callFunc 51 args).run qh w=.ok (.enter 51 args) w:=qW Tryz.func51 kk kk
set_option maxRecDepth 100000 in
set_option maxHeartbeats 400000 in
theorem zPb:∀(n:Nat){vn1:Int}{r:qf},zA0 n vn1=some r→zC qh 51 [I vn1] (.c (.v (.string r))) []:=by
  intro n
  induction n with
  |zero=>intro vn1 r h;cases h
  |succ n ih=>
   intro vn1 r h;refine zAl (rs:=[.t 2]) (vs:=[.tmp 2]) Tryz.func51 rfl rfl (.cons rfl FitsL.nil) (by decide) 20 rfl ?_
   rw[zA0]at h;show V _ _ ⟨I vn1::bt 19 [],[]⟩ _;refine jI (mb 20 1) [] (s1:=⟨I vn1::bt 19 [],[]⟩) ?_ ?_
   ·refine L0 rfl rfl (zG (.c (.v (.string ((⟨#[]⟩:qf))))) rfl kk) ?_
    refine zJ ?_
    kernel_rfl
   refine zD7 ?_
   refine jI (mb 20 17) [] (s1:=⟨I vn1::bt 3 (Bo (ltI vn1 10)::bt 15 []),[]⟩) ?_ ?_
   ·refine L0 rfl rfl (zK (I vn1) rfl kk) ?_
    refine L0 rfl rfl (zH2 (k:=.i64) (a:=vn1) (b:=10) rfl kk kk) ?_
    refine zJ ?_
    kernel_rfl
   refine zD4 rfl (fun hc2=>?_) (fun hc2=>?_)
   ·have h:=zCZ h hc2;refine jI (mb 20 4) [] (s1:=⟨.bot::.bot::.c (.v (.string (zAy ([IntKind.u8.wrap (w64 (48+vn1))]))))::bt 17 [],[]⟩) ?_ ?_
    ·refine L0 rfl rfl (zK (I vn1) rfl kk) ?_
     refine L0 rfl rfl (zFn (a:=48) (b:=vn1) rfl kk kk) ?_
     refine L0 rfl rfl (zZ0 (k2:=.i64) (a:=w64 (48+vn1)) Tryz.underlying3 Tryz.underlying5 rfl kk) ?_
     refine L1 rfl rfl (zHH (z:=zv5) (els:=[IntKind.u8.wrap (w64 (48+vn1))].map c5) Tryz.underlying28 iz5 rfl (by decide) rfl kk rfl (by simp[c5]) (by decide) (by decide)) ?_
     refine L0 rfl rfl (z2h (c:=c5) (fun _=>rfl) ([IntKind.u8.wrap (w64 (48+vn1))]) Tryz.underlying28 Tryz.underlying5 Tryz.underlying9 rfl kk) ?_
     refine L0 rfl rfl (zG (.c (.v (.string (zAy ([IntKind.u8.wrap (w64 (48+vn1))]))))) rfl kk) ?_
     refine zJ ?_
     kernel_rfl
    refine zEh ?_
    obtain rfl:=zZ h;show Post _ _ _ _ _;exact⟨.inr rfl,rfl,rfl,rfl⟩
   ·have h:=zB7 h hc2;refine zEl ?_
    show V _ _ _ _;obtain⟨y3,hy3,h⟩:=zT h;obtain⟨u4,hu4,h⟩:=zT h;refine z4A [0,1,3,0,8,24,56,120,248,511,1023] 11 [[.z,.z,.z,.b,.b,.b,.b,.b,.b,.z,.z],[.a,.z,.z,.b,.b,.b,.b,.b,.b,.z,.z],[.a,.a,.z,.b,.b,.b,.b,.b,.b,.z,.z],[.b,.b,.b,.z,.z,.z,.z,.z,.z,.z,.z],[.b,.b,.b,.a,.z,.z,.z,.z,.z,.z,.z],[.b,.b,.b,.a,.a,.z,.z,.z,.z,.z,.z],[.b,.b,.b,.a,.a,.a,.z,.z,.z,.z,.z],[.b,.b,.b,.a,.a,.a,.a,.z,.z,.z,.z],[.b,.b,.b,.a,.a,.a,.a,.a,.z,.z,.z],[.a,.a,.a,.a,.a,.a,.a,.a,.a,.z,.z],[.a,.a,.a,.a,.a,.a,.a,.a,.a,.a,.z]] (mb 20 4) [] (s1:=⟨.bot::.bot::.c (.v (.string (y3++(zAy ([IntKind.u8.wrap (w64 (48+(Int.tmod vn1 10)))])))))::bt 17 [],[]⟩) kk kk ?_ ?_
    ·refine DE_0 0 (I vn1) kk rfl rfl rfl (jM rfl) kk (zK (I vn1) rfl kk) 10 rfl ?_
     refine DE_0 1 (I (w64 (Int.tdiv vn1 10))) kk rfl rfl rfl (jM rfl) kk (zUx (a:=vn1) (b:=10) rfl kk kk (by decide)) 11 rfl ?_
     refine DE_1 2 kk rfl rfl rfl (jM rfl) (zC2 (ih hy3) zMI rfl kk) rfl rfl rfl 12 rfl ?_
     refine DE_0 3 (I vn1) kk rfl rfl rfl (jM rfl) kk (zK (I vn1) rfl kk) 13 rfl ?_
     refine DE_0 4 (I (Int.tmod vn1 10)) kk rfl rfl rfl (jM rfl) kk (z2b (k:=.i64) (a:=vn1) (b:=10) rfl kk kk (by decide)) 14 rfl ?_
     refine DE_0 5 (I (w64 (48+(Int.tmod vn1 10)))) kk rfl rfl rfl (jM rfl) kk (zFn (a:=48) (b:=Int.tmod vn1 10) rfl kk kk) 15 rfl ?_
     refine DE_0 6 (.c (.v (.int .u8 (IntKind.u8.wrap (w64 (48+(Int.tmod vn1 10))))))) kk rfl rfl rfl (jM rfl) kk (zZ0 (k2:=.i64) (a:=w64 (48+(Int.tmod vn1 10))) Tryz.underlying3 Tryz.underlying5 rfl kk) 16 rfl ?_
     refine DE_1 7 kk rfl rfl rfl (jM rfl) (zHH (z:=zv5) (els:=[IntKind.u8.wrap (w64 (48+(Int.tmod vn1 10)))].map c5) Tryz.underlying28 iz5 rfl (by decide) rfl kk rfl (by simp[c5]) (by decide) (by decide)) rfl rfl rfl 17 rfl ?_
     refine DE_0 8 (.c (.v (.string (zAy ([IntKind.u8.wrap (w64 (48+(Int.tmod vn1 10)))]))))) kk rfl rfl rfl (jM rfl) kk (z2h (c:=c5) (fun _=>rfl) ([IntKind.u8.wrap (w64 (48+(Int.tmod vn1 10)))]) Tryz.underlying28 Tryz.underlying5 Tryz.underlying9 rfl kk) 18 rfl ?_
     refine DE_0 9 (.c (.v (.string (y3++(zAy ([IntKind.u8.wrap (w64 (48+(Int.tmod vn1 10)))])))))) kk rfl rfl rfl (jM rfl) kk (z2g (a:=y3) (b:=zAy ([IntKind.u8.wrap (w64 (48+(Int.tmod vn1 10)))])) rfl kk kk (zQ3 hu4)) 19 rfl ?_
     refine DE_0 10 (.c (.v (.string (y3++(zAy ([IntKind.u8.wrap (w64 (48+(Int.tmod vn1 10)))])))))) kk rfl rfl rfl (jM rfl) kk (zG (.c (.v (.string (y3++(zAy ([IntKind.u8.wrap (w64 (48+(Int.tmod vn1 10)))])))))) rfl kk) 2 rfl ?_
     refine zZ4 kk ?_
     refine zJ ?_
     kernel_rfl
    refine zEh ?_
    obtain rfl:=zZ h;show Post _ _ _ _ _;exact⟨.inr rfl,rfl,rfl,rfl⟩
theorem zYM{vn1:Int}{r:qf}(h:zA0 FU vn1=some r):zC qh 51 [I vn1] (.c (.v (.string r))) []:=zPb FU h
def zFq(vn1:Int):=fC zMI (zA0 FU vn1) fun _=>zYM
theorem zW3:CfW qh 36:=cfW Tryz.func36
noncomputable def zXo(vn1:Int):T qh qf:=
 .cond (ltI vn1 0) (.op1 (zFq (w64 (0 - vn1))) fun y3=>.op0 (cat ((⟨#[45]⟩:qf)) y3) fun u4=>
 .ret (((⟨#[45]⟩:qf))++y3))<|.op1 (zFq vn1) fun y5=>
 .ret y5
theorem zYN{vn1:Int}{r:qf}(h:jD vn1=some r):zC qh 36 [I vn1] (.c (.v (.string r))) []:=CtU (zXo vn1) 2 (fun r=>.c (.v (.string r))) Tryz.func36 rfl rfl h
def zBU(vn1:Int):=fC zW3 (jD vn1) fun _=>zYN
theorem zUe:CfW qh 54:=cfW Tryz.func54
noncomputable def zVe(f1:τF):T qh qf:=
 .draw 16 []<|.op1 (zBU f1.1) fun y2=>.op0 (cat ((⟨#[40]⟩:qf)) y2) fun u3=>.op0 (cat (((⟨#[40]⟩:qf))++y2) ((⟨#[44]⟩:qf))) fun u4=>.op1 (zBU f1.2.1) fun y5=>.op0 (cat ((((⟨#[40]⟩:qf))++y2)++((⟨#[44]⟩:qf))) y5) fun u6=>.op0 (cat (((((⟨#[40]⟩:qf))++y2)++((⟨#[44]⟩:qf)))++y5) ((⟨#[44]⟩:qf))) fun u7=>.op1 (zBU f1.2.2) fun y8=>.op0 (cat ((((((⟨#[40]⟩:qf))++y2)++((⟨#[44]⟩:qf)))++y5)++((⟨#[44]⟩:qf))) y8) fun u9=>.op0 (cat (((((((⟨#[40]⟩:qf))++y2)++((⟨#[44]⟩:qf)))++y5)++((⟨#[44]⟩:qf)))++y8) ((⟨#[41]⟩:qf))) fun u10=>
 .ret ((((((((⟨#[40]⟩:qf))++y2)++((⟨#[44]⟩:qf)))++y5)++((⟨#[44]⟩:qf)))++y8)++((⟨#[41]⟩:qf)))
theorem zWC{f1:τF}{r:qf}(h:zAV f1=some r):zC qh 54 [.ag [Ti f1.1,Ti f1.2.1,Ti f1.2.2]] (.c (.v (.string r))) []:=CtU (zVe f1) 2 (fun r=>.c (.v (.string r))) Tryz.func54 rfl rfl h
def zCj(f1:τF):=fC zUe (zAV f1) fun _=>zWC
theorem zWZ:CfW qh 134:=cfW Tryz.func134
noncomputable def zXk(d1:Int):T qh (List τF):=
 .n1 (nilN 42 3 (by decide))<|
 .n1 (nilN 42 3 (by decide))<|
 .loop (fun n X_3=>zC3 d1 n X_3.1 X_3.2) ((1,([]:List τF))) (mb 47 25) [24] (fun s X_3 γ=>s.pc (mb 47 25) [24] [(4,I X_3.1)] [(24,.arr 42 3 (X_3.2.map c42))]) (fun X_3=>
 .cond (leI (w64 ((w64 (3*X_3.1))*X_3.1)) (w64 (0 - d1))) (
 .frc (w64 (1 - X_3.1)) fun b7=>.loop (fun n X_2=>zBw X_3.1 d1 n X_2.1 X_2.2) ((b7,X_3.2)) (mb 47 57) [24] (fun s X_2 γ=>s.pc (mb 47 57) [24] [(5,I X_2.1)] [(24,.arr 42 3 (X_2.2.map c42))]) (fun X_2=>
 .cond (leI X_2.1 X_3.1) (.op0 (quoF .i64 (w64 ((w64 (X_2.1*X_2.1)) - d1)) (w64 (4*X_3.1))) fun z13=>.n0 (bld pl42 bt42)<|
 .frc (w64 (Int.tdiv (w64 ((w64 (X_2.1*X_2.1)) - d1)) (w64 (4*X_3.1)))) fun f14=>.joinC (.op1 (zBQ ((X_3.1,X_2.1,f14))) fun y15=>.seqT (.cond (eqI y15 d1) (.op1 (zKd ((X_3.1,X_2.1,f14))) fun y17=>.ret y17) (.ret false)) fun b18=>.ret (y15,b18)) (mb 47 2199023255673) [48,24] (fun s q_1 γ=>s.pc (mb 47 2199023255673) [48,24] [(41,Bo q_1.2)] []) fun q_1=>
 .cond q_1.2 (.n1 bsl<|.opx (app ct42 X_2.2 ([(X_3.1,X_2.1,f14)])) fun u20=>
 .frc (w64 (X_2.1+1)) fun b21=>.ret (.inl ((b21,X_2.2++([(X_3.1,X_2.1,f14)])))))<|
 .frc (w64 (X_2.1+1)) fun b22=>.ret (.inl ((b22,X_2.2))))<|.ret (.inr X_2.2)) (mb 47 25) [24] (fun s o11 γ=>s.pc (mb 47 25) [24] [] [(24,.arr 42 3 (o11.map c42))]) fun o11=>
 .frc (w64 (X_3.1+1)) fun a23=>.ret (.inl ((a23,o11))))<|.ret (.inr X_3.2)) (mb 47 8) [24] (fun s o5 γ=>s.pc (mb 47 8) [24] [] [(24,.arr 42 3 (o5.map c42))]) fun o5=>
 .ret o5
theorem zYI{d1:Int}{r:List τF}(h:zF5 d1=some r):zC qh 134 [I d1] (.ow 0) [(0,.arr 42 3 (r.map c42))]:=CtT (zXk d1) (fun r=>(.ow 0,[(0,.arr 42 3 (r.map c42))])) (rs:=[.t 2]) (vs:=[.tmp 2]) Tryz.func134 rfl rfl (.cons rfl FitsL.nil) h
def zZ9(d1:Int):=fC zWZ (zF5 d1) fun _=>zYI
theorem zU5:CfW qh 86:=cfW Tryz.func86
noncomputable def zV5(d1:Int):T qh (List τF):=
 .n1 (nilN 42 3 (by decide))<|
 .n1 (nilN 42 3 (by decide))<|
 .op1 (zZ9 d1) fun y2=>.n0 (lenM ct42 y2)<|
 .loop (fun n X_1=>zAn y2 n X_1.1 X_1.2) ((0,([]:List τF))) (mb 22 904) [56,24] (fun s X_1 γ=>s.pc (mb 22 904) [56,24] [(9,I X_1.1)] [(24,.arr 42 3 (X_1.2.map c42))]) (fun X_1=>
 .cond (ltI X_1.1 ((y2.length:Int))) (.op0 (zBF ct42 y2 X_1.1) fun e8=>.op0 (ldo ct42 y2 X_1.1) fun e9=>
 .op1 (zGE e9) fun y10=>
 .cond (eqI y10 1) (.n1 bsl<|.opx (app ct42 X_1.2 ([e9])) fun u12=>
 .frc (w64 (X_1.1+1)) fun t13=>.ret (.inl ((t13,X_1.2++([e9])))))<|
 .frc (w64 (X_1.1+1)) fun t14=>.ret (.inl ((t14,X_1.2))))<|.ret (.inr X_1.2)) (mb 22 8) [24] (fun s o6 γ=>s.pc (mb 22 8) [24] [] [(24,.arr 42 3 (o6.map c42))]) fun o6=>
 .ret o6
theorem zVt{d1:Int}{r:List τF}(h:zCG d1=some r):zC qh 86 [I d1] (.ow 0) [(0,.arr 42 3 (r.map c42))]:=CtT (zV5 d1) (fun r=>(.ow 0,[(0,.arr 42 3 (r.map c42))])) (rs:=[.t 2]) (vs:=[.tmp 2]) Tryz.func86 rfl rfl (.cons rfl FitsL.nil) h
def zMO(d1:Int):=fC zU5 (zCG d1) fun _=>zVt
theorem zRn:CfW qh 103:=cfW Tryz.func103
noncomputable def zSt(l1:List τF)(f2:τF):T qh Int:=
 .n0 (lenM ct42 l1)<|
 .loopS (fun n X_1=>zCR f2 l1 n X_1) 0 (mb 19 904) [24] (fun s X_1 γ=>s.pc (mb 19 904) [24] [(9,I X_1)] []) (fun X_1=>
 .cond (ltI X_1 ((l1.length:Int))) (.op0 (idxM ct42 l1 X_1) fun e7=>
 .n0 (eqg3 zXO)<|
 .lt (((e7.1==f2.1)&&((e7.2.1==f2.2.1)&&(e7.2.2==f2.2.2)))) fun t8=>.cond t8 (
 .ret (.early X_1))<|
 .frc (w64 (X_1+1)) fun t10=>.ret (.again t10))<|.ret (.done (()))) (mb 19 0) [] (fun s o5 γ=>s.pc (mb 19 0) [] [] []) (fun r=>r) fun o5=>
 .ret (-1)
theorem zTZ{l1:List τF}{f2:τF}{r:Int}(h:zEN l1 f2=some r):zC qh 103 [.c (.sl (l1.map c42)),.ag [Ti f2.1,Ti f2.2.1,Ti f2.2.2]] (I r) []:=CtU (zSt l1 f2) 4 (fun r=>I r) Tryz.func103 rfl rfl h
def zVE(l1:List τF)(f2:τF):=fCs zRn (zEN l1 f2) (fun _=>zTZ) fun _=>rfl
theorem zRu:CfW qh 104:=cfW Tryz.func104
noncomputable def zTA(f1:τF):T qh Int:=
 .op1 (zDE f1) fun y2=>
 .loop (fun n X_1=>zCS y2 n X_1.1 X_1.2.1 X_1.2.2.1 X_1.2.2.2) ((1,y2.1,y2.2.1,y2.2.2)) (mb 20 26) [32,8] (fun s X_1 γ=>s.pc (mb 20 26) [32,8] [(3,I X_1.1)] [(32,.box [Ti X_1.2.1,Ti X_1.2.2.1,Ti X_1.2.2.2])]) (fun X_1=>
 .draw 5 []<|.op1 (zBQ y2) fun y9=>.op1 (zPD y9) fun y10=>.n0 (neg3 zXE)<|
 .cond (!((X_1.2.1==y10.1)&&((X_1.2.2.1==y10.2.1)&&(X_1.2.2.2==y10.2.2)))) (.op1 (zGy ((X_1.2.1,X_1.2.2.1,X_1.2.2.2)) y2) fun y12=>
 .frc (w64 (X_1.1+1)) fun k13=>.ret (.inl ((k13,y12.1,y12.2.1,y12.2.2))))<|.ret (.inr X_1.1)) (mb 20 8) [] (fun s o8 γ=>s.pc (mb 20 8) [] [(3,I o8)] []) fun o8=>
 .ret o8
theorem zT6{f1:τF}{r:Int}(h:zEP f1=some r):zC qh 104 [.ag [Ti f1.1,Ti f1.2.1,Ti f1.2.2]] (I r) []:=CtU (zTA f1) 2 (fun r=>I r) Tryz.func104 rfl rfl h
def zVR(f1:τF):=fC zRu (zEP f1) fun _=>zT6
theorem zRv:CfW qh 149:=cfW Tryz.func149
noncomputable def zTB(f1:τF):T qh Int:=
 .op1 (zBQ f1) fun y2=>
 .loopS (fun n X_1028=>zF8 f1 y2 n X_1028) 1 (mb 42 26) [8] (fun s X_1028 γ=>s.pc (mb 42 26) [8] [(4,I X_1028)] []) (fun X_1028=>
 .loopS (fun n X_1027=>zF7 f1 X_1028 y2 n X_1027) 0 (mb 42 58) [8] (fun s X_1027 γ=>s.pc (mb 42 58) [8] [(5,I X_1027)] []) (fun X_1027=>
 .cond (leI X_1027 X_1028) (
 .loopS (fun n X_1026=>zFD f1 X_1028 X_1027 y2 n X_1026) 0 (mb 42 122) [8] (fun s X_1026 γ=>s.pc (mb 42 122) [8] [(6,I X_1026)] []) (fun X_1026=>
 .cond (leI X_1026 X_1028) (.op1 (zEZ f1 X_1027 X_1026) fun y14=>
 .joinC (.selB (eqI X_1027 X_1028) false [] fun w_1024=>.seqT (.cond (bif w_1024 then true else (eqI X_1026 X_1028)) (.op1 (zDt y14 (w64 (2*y2))) fun y17=>.ret (eqI y17 1)) (.ret false)) fun b18=>.ret (w_1024,b18)) (mb 42 1099511628026) [8] (fun s q_1025 γ=>s.pc (mb 42 1099511628026) [8] [(40,Bo q_1025.2)] []) fun q_1025=>
 .cond q_1025.2 (
 .ret (.early y14))<|
 .frc (w64 (X_1026+1)) fun y20=>.ret (.again y20))<|.ret (.done (()))) (mb 42 58) [8] (fun s o12 γ=>s.pc (mb 42 58) [8] [] []) (.early) fun o12=>
 .frc (w64 (X_1027+1)) fun x21=>.ret (.again x21))<|.ret (.done (()))) (mb 42 26) [8] (fun s o8 γ=>s.pc (mb 42 26) [8] [] []) (.early) fun o8=>
 .frc (w64 (X_1028+1)) fun vr22=>.ret (.again vr22)) [] [] (fun _ _ _=>⟨[],[]⟩) (fun r=>r) fun _=>.fail
theorem zT7{f1:τF}{r:Int}(h:zHQ f1=some r):zC qh 149 [.ag [Ti f1.1,Ti f1.2.1,Ti f1.2.2]] (I r) []:=CtU (zTB f1) 2 (fun r=>I r) Tryz.func149 rfl rfl h
def zVS(f1:τF):=fC zRv (zHQ f1) fun _=>zT7
theorem zOh:CfW qh 252:=cfW Tryz.func252
noncomputable def zPT(vn1:Int):T qh (List Int):=
 .n1 (nilN 3 1 (by decide))<|
 .n1 (nilN 3 1 (by decide))<|
 .loop (fun n X_2=>zEk n X_2.1 X_2.2.1 X_2.2.2) ((vn1,2,([]:List Int))) (mb 30 25) [24] (fun s X_2 γ=>s.pc (mb 30 25) [24] [(0,I X_2.1),(4,I X_2.2.1)] [(24,.arr 3 1 (X_2.2.2.map c3))]) (fun X_2=>
 .cond (leI (w64 (X_2.2.1*X_2.2.1)) X_2.1) (.loop (fun n X_1=>zEM X_2.2.1 n X_1.1 X_1.2) ((X_2.1,X_2.2.2)) (mb 30 25) [24] (fun s X_1 γ=>s.pc (mb 30 25) [24] [(0,I X_1.1)] [(24,.arr 3 1 (X_1.2.map c3))]) (fun X_1=>
 .op0 (remF .i64 X_1.1 X_2.2.1) fun z12=>
 .cond (eqI (Int.tmod X_1.1 X_2.2.1) 0) (.n1 bsl<|.opx (app ct3 X_1.2 ([X_2.2.1])) fun u14=>
 .op0 (quoF .i64 X_1.1 X_2.2.1) fun z15=>
 .frc (w64 (Int.tdiv X_1.1 X_2.2.1)) fun vn16=>.ret (.inl ((vn16,X_1.2++([X_2.2.1])))))<|.ret (.inr ((X_1.1,X_1.2)))) (mb 30 25) [24] (fun s o11 γ=>s.pc (mb 30 25) [24] [(0,I o11.1)] [(24,.arr 3 1 (o11.2.map c3))]) fun o11=>
 .frc (w64 (X_2.2.1+1)) fun d17=>.ret (.inl ((o11.1,d17,o11.2))))<|.ret (.inr ((X_2.1,X_2.2.2)))) (mb 30 9) [24] (fun s o6 γ=>s.pc (mb 30 9) [24] [(0,I o6.1)] [(24,.arr 3 1 (o6.2.map c3))]) fun o6=>
 .cond (ltI 1 o6.1) (.n1 bsl<|.opx (app ct3 o6.2 ([o6.1])) fun u19=>
 .ret (o6.2++([o6.1])))<|
 .ret o6.2
theorem zPa{vn1:Int}{r:List Int}(h:zFz vn1=some r):zC qh 252 [I vn1] (.ow 0) [(0,.arr 3 1 (r.map c3))]:=CtT (zPT vn1) (fun r=>(.ow 0,[(0,.arr 3 1 (r.map c3))])) (rs:=[.t 2]) (vs:=[.tmp 2]) Tryz.func252 rfl rfl (.cons rfl FitsL.nil) h
def zQc(vn1:Int):=fC zOh (zFz vn1) fun _=>zPa
theorem zW2:CfW qh 253:=cfW Tryz.func253
noncomputable def zXn(l1:List Int)(vn2:Int):T qh (List Int):=
 .n1 (nilN 3 1 (by decide))<|
 .loop (fun n X_3=>zG7 l1 vn2 n X_3) 0 (mb 48 35) [] (fun s X_3 γ=>s.pc (mb 48 35) [] [(5,I X_3)] []) (fun X_3=>
 .dn<|.joinC (.n0 (lenM ct3 l1)<|.seqT (.cond (ltI X_3 ((l1.length:Int))) (.op0 (idxM ct3 l1 X_3) fun e7=>.ret (ltI e7 vn2)) (.ret false)) fun b8=>.ret b8) (mb 48 262179) [] (fun s q_1 γ=>s.pc (mb 48 262179) [] [(18,Bo q_1)] []) fun q_1=>
 .cond q_1 (
 .frc (w64 (X_3+1)) fun k10=>.ret (.inl k10))<|.ret (.inr X_3)) (mb 48 35) [] (fun s o5 γ=>s.pc (mb 48 35) [] [(5,I o5)] []) fun o5=>
 .dn<|.joinC (.n0 (lenM ct3 l1)<|.seqT (.cond (ltI o5 ((l1.length:Int))) (.op0 (idxM ct3 l1 o5) fun e12=>.ret (eqI e12 vn2)) (.ret false)) fun b13=>.ret b13) (mb 48 4294967331) [] (fun s q_2 γ=>s.pc (mb 48 4294967331) [] [(32,Bo q_2)] []) fun q_2=>
 .cond q_2 (
 .ret l1)<|.n1 bsl0<|.op0 (slice ct3 l1 0 o5) fun u15=>.opx (app ct3 (([]:List Int)) (subl l1 0 o5)) fun u16=>
 .n1 bsl<|.opx (app ct3 ((([]:List Int))++(subl l1 0 o5)) ([vn2])) fun u17=>
 .op0 (slice ct3 l1 o5 ((l1.length:Int))) fun u18=>.opx (app ct3 (((([]:List Int))++(subl l1 0 o5))++([vn2])) (subl l1 o5 ((l1.length:Int)))) fun u19=>
 .lt ((((([]:List Int))++(subl l1 0 o5))++([vn2]))++(subl l1 o5 ((l1.length:Int)))) fun l20=>.late (frzH 272)<|.ret l20
theorem zYL{l1:List Int}{vn2:Int}{r:List Int}(h:zIn l1 vn2=some r):zC qh 253 [.c (.sl (l1.map c3)),I vn2] (.c (.sl (r.map c3))) []:=CtU (zXn l1 vn2) 4 (fun r=>.c (.sl (r.map c3))) Tryz.func253 rfl rfl h
def zZa(l1:List Int)(vn2:Int):=fC zW2 (zIn l1 vn2) fun _=>zYL
theorem zQL:CfW qh 218:=cfW Tryz.func218
noncomputable def zRF(vn1:Int):T qh (List Int):=
 .n1 (nilN 3 1 (by decide))<|
 .n1 (nilN 3 1 (by decide))<|
 .op1 (zQc vn1) fun y2=>.n0 (lenM ct3 y2)<|
 .hint (frzH 24)<|.loop (fun n X_1=>zFC y2 n X_1.1 X_1.2) ((([]:List Int),0)) (mb 18 904) [56] (fun s X_1 γ=>s.pc (mb 18 904) [56] [(3,.c (.sl (X_1.1.map c3))),(9,I X_1.2)] []) (fun X_1=>
 .cond (ltI X_1.2 ((y2.length:Int))) (.op0 (zBF ct3 y2 X_1.2) fun e8=>.op0 (ldo ct3 y2 X_1.2) fun e9=>
 .op1 (zZa X_1.1 e9) fun y10=>
 .frc (w64 (X_1.2+1)) fun t11=>.ret (.inl ((y10,t11))))<|.ret (.inr X_1.1)) (mb 18 8) [] (fun s o6 γ=>s.pc (mb 18 8) [] [(3,.c (.sl (o6.map c3)))] []) fun o6=>
 .ret o6
theorem zRY{vn1:Int}{r:List Int}(h:zG6 vn1=some r):zC qh 218 [I vn1] (.c (.sl (r.map c3))) []:=CtU (zRF vn1) 2 (fun r=>.c (.sl (r.map c3))) Tryz.func218 rfl rfl h
def zSL(vn1:Int):=fC zQL (zG6 vn1) fun _=>zRY
theorem zWb:CfW qh 185:=cfW Tryz.func185
noncomputable def zXv(d1:Int):T qh (List (Int×Int)):=
 .n1 (nilN 181 2 (by decide))<|
 .n1 (nilN 181 2 (by decide))<|
 .op1 (zSL (w64 (0 - d1))) fun y2=>.n0 (lenM ct3 y2)<|
 .loop (fun n X_6=>zEz d1 y2 n X_6.1 X_6.2) ((0,([]:List (Int×Int)))) (mb 69 3593) [24] (fun s X_6 γ=>s.pc (mb 69 3593) [24] [(11,I X_6.1)] [(24,.arr 181 2 (X_6.2.map c181))]) (fun X_6=>
 .cond (ltI X_6.1 ((y2.length:Int))) (.op0 (idxM ct3 y2 X_6.1) fun e8=>
 .cond (ltI 2 e8) (.n0 (bld zKD zMJ)<|.n1 bsl<|.opx (app zGk X_6.2 ([(1,e8)])) fun u10=>
 .frc (w64 (X_6.1+1)) fun t11=>.ret (.inl ((t11,X_6.2++([(1,e8)])))))<|
 .frc (w64 (X_6.1+1)) fun t12=>.ret (.inl ((t12,X_6.2))))<|.ret (.inr X_6.2)) (mb 69 9) [24] (fun s o6 γ=>s.pc (mb 69 9) [24] [] [(24,.arr 181 2 (o6.map c181))]) fun o6=>
 .n0 dvN<|
 .cond (!eqI (Int.tmod d1 2) 0) (
 .ret o6)<|.n0 dvN<|
 .frc (w64 (Int.tdiv (w64 (0 - d1)) 4)) fun vn14=>.n0 dvN<|
 .cond (eqI (Int.tmod vn14 4) 3) (
 .ret o6)<|.joinC (.n0 dvN<|.selB (eqI (Int.tmod vn14 4) 1) false [.z dvN] fun w_4=>.ret w_4) (mb 69 34359738440) [24] (fun s q_5 γ=>s.pc (mb 69 34359738440) [24] [(35,Bo (bif q_5 then true else (eqI (Int.tmod vn14 8) 4)))] []) fun q_5=>
 .lt (bif q_5 then true else (eqI (Int.tmod vn14 8) 4)) fun t17=>.cond t17 (.n0 (bld zKD zMJ)<|.n1 bsl<|.opx (app zGk o6 ([(2,0)])) fun u19=>
 .ret (o6++([(2,0)])))<|.n0 dvN<|
 .cond (eqI (Int.tmod vn14 8) 2) (.n0 (bld zKD zMJ)<|.n1 bsl<|.opx (app zGk o6 ([(4,0)])) fun u21=>
 .ret (o6++([(4,0)])))<|.n0 dvN<|
 .cond (eqI (Int.tmod vn14 8) 6) (.n0 (bld zKD zMJ)<|.n1 bsl<|.opx (app zGk o6 ([(3,0)])) fun u23=>
 .ret (o6++([(3,0)])))<|.n0 (bld zKD zMJ)<|.n0 (bld zKD zMJ)<|.n1 bsl<|.opx (app zGk o6 ([(2,0),(3,0)])) fun u24=>
 .ret (o6++([(2,0),(3,0)]))
theorem zYV{d1:Int}{r:List (Int×Int)}(h:zIp d1=some r):zC qh 185 [I d1] (.ow 0) [(0,.arr 181 2 (r.map c181))]:=CtT (zXv d1) (fun r=>(.ow 0,[(0,.arr 181 2 (r.map c181))])) (rs:=[.t 2]) (vs:=[.tmp 2]) Tryz.func185 rfl rfl (.cons rfl FitsL.nil) h
def zZc(d1:Int):=fC zWb (zIp d1) fun _=>zYV
theorem zWW:CfW qh 254:=cfW Tryz.func254
noncomputable def zXh(vs1:τF):T qh Bool:=
 .pl<|.joinC (.selB (eqI vs1.1 0) false [] fun w_2=>.ret w_2) (mb 11 4) [] (fun s q_3 γ=>s.pc (mb 11 4) [] [(2,Bo (bif q_3 then true else (eqI vs1.1 1)))] []) fun q_3=>
 .ret (bif q_3 then true else (eqI vs1.1 1))
theorem zYF{vs1:τF}{r:Bool}(h:zIm vs1=some r):zC qh 254 [.ag [Ti vs1.1,Ti vs1.2.1,Ti vs1.2.2]] (Bo r) []:=CtU (zXh vs1) 2 (fun r=>Bo r) Tryz.func254 rfl rfl h
def zZ7(vs1:τF):=fC zWW (zIm vs1) fun _=>zYF
theorem zWV:CfW qh 220:=cfW Tryz.func220
noncomputable def zXg(a1:Int):T qh Int:=
 .op1 (zBT a1 8) fun y2=>
 .cond (eqI y2 1) (.cond (eqI y2 1) (
 .ret 1)<|
 .cond (eqI y2 3) (.cond (eqI y2 3) (
 .ret (-1))<|
 .ret 0)<|
 .cond (eqI y2 5) (
 .ret (-1))<|
 .ret 0)<|
 .cond (eqI y2 7) (
 .ret 1)<|
 .cond (eqI y2 3) (.cond (eqI y2 3) (
 .ret (-1))<|
 .ret 0)<|
 .cond (eqI y2 5) (
 .ret (-1))<|
 .ret 0
theorem zYE{a1:Int}{r:Int}(h:zGs a1=some r):zC qh 220 [I a1] (I r) []:=CtU (zXg a1) 2 (fun r=>I r) Tryz.func220 rfl rfl h
def zOz(a1:Int):=fC zWV (zGs a1) fun _=>zYE
theorem zLe:CfW qh 255:=cfW Tryz.func255
noncomputable def zMT(vs1:τF):T qh (τF):=
 .op1 (zFT vs1.1 0 (w64 (vs1.2.1 - 1))) fun y2=>
 .cond (!y2) (.op1 (zBT vs1.1 vs1.2.1) fun y4=>
 .ret ((y4,vs1.2.1,vs1.2.2)))<|.n0 dvN<|
 .cond (eqI (Int.tmod vs1.1 2) 0) (.n0 dvN<|
 .frc (w64 (Int.tdiv vs1.1 2)) fun f6=>.draw 7 []<|.op1 (zOz vs1.2.1) fun y7=>
 .frc (w64 (vs1.2.2*y7)) fun f8=>
 .ret ((f6,vs1.2.1,f8)))<|.join (.joinC (.n0 dvN<|.selB (eqI (Int.tmod vs1.1 4) 3) true [.z dvN] fun w_8=>.ret w_8) (mb 56 8198) [16,8] (fun s q_9 γ=>s.pc (mb 56 8198) [16,8] [(13,Bo (bif q_9 then (eqI (Int.tmod vs1.2.1 4) 3) else false))] []) fun q_9=>
 .lt (bif q_9 then (eqI (Int.tmod vs1.2.1 4) 3) else false) fun t11=>.cond t11 (
 .frc (w64 (0 - vs1.2.2)) fun f13=>.ret f13)<|.ret vs1.2.2) (mb 56 6) [16,8] (fun s j9 γ=>s.pc (mb 56 6) [16,8] [] [(8,.box [Ti vs1.1,Ti vs1.2.1,Ti j9])]) fun j9=>
 .ret ((vs1.2.1,vs1.1,j9))
theorem zMf{vs1:τF}{r:τF}(h:zFA vs1=some r):zC qh 255 [.ag [Ti vs1.1,Ti vs1.2.1,Ti vs1.2.2]] (.ag [Ti r.1,Ti r.2.1,Ti r.2.2]) []:=CtT (zMT vs1) (fun r=>(.ag [Ti r.1,Ti r.2.1,Ti r.2.2],[])) (rs:=[.w 2 3]) (vs:=[.cell 2 223]) Tryz.func255 rfl rfl (.cons ⟨rfl,wd223⟩ FitsL.nil) h
def zN7(vs1:τF):=fC zLe (zFA vs1) fun _=>zMf
theorem zQH:CfW qh 219:=cfW Tryz.func219
noncomputable def zRB(a1:Int)(vn2:Int):T qh Int:=
 .n0 (bld z9Y bt223)<|
 .loop (fun n X_6=>zFB n X_6.1 X_6.2.1 X_6.2.2) ((a1,vn2,1)) (mb 24 32) [40] (fun s X_6 γ=>s.pc (mb 24 32) [40] [] [(40,.box [Ti X_6.1,Ti X_6.2.1,Ti X_6.2.2])]) (fun X_6=>
 .op1 (zZ7 ((X_6.1,X_6.2.1,X_6.2.2))) fun y8=>
 .cond (!y8) (.op1 (zN7 ((X_6.1,X_6.2.1,X_6.2.2))) fun y10=>
 .ret (.inl ((y10.1,y10.2.1,y10.2.2))))<|.ret (.inr ((X_6.1,X_6.2.1,X_6.2.2)))) (mb 24 32) [40] (fun s o7 γ=>s.pc (mb 24 32) [40] [] [(40,.box [Ti o7.1,Ti o7.2.1,Ti o7.2.2])]) fun o7=>
 .dn<|.joinC (.selB (eqI o7.1 0) true [] fun w_4=>.ret w_4) (mb 24 2097184) [40] (fun s q_5 γ=>s.pc (mb 24 2097184) [40] [(21,Bo (bif q_5 then (ltI 1 o7.2.1) else false))] []) fun q_5=>
 .cond (bif q_5 then (ltI 1 o7.2.1) else false) (
 .ret 0)<|
 .ret o7.2.2
theorem zRU{a1:Int}{vn2:Int}{r:Int}(h:zG5 a1 vn2=some r):zC qh 219 [I a1,I vn2] (I r) []:=CtU (zRB a1 vn2) 4 (fun r=>I r) Tryz.func219 rfl rfl h
def zSI(a1:Int)(vn2:Int):=fC zQH (zG5 a1 vn2) fun _=>zRU
theorem zZP:CfW qh 186:=cfW Tryz.func186
noncomputable def zZv(x1:(Int×Int))(vn2:Int):T qh Int:=
 .cond (eqI x1.1 1) (.op1 (zSI vn2 x1.2) fun y4=>
 .ret y4)<|.n0 dvN<|
 .cond (eqI (Int.tmod vn2 2) 0) (
 .ret 0)<|.op1 (zBT vn2 4) fun y6=>.op1 (zOz vn2) fun y7=>
 .frc (w64 (2 - y6)) fun delta8=>
 .cond (eqI x1.1 2) (
 .ret delta8)<|
 .cond (eqI x1.1 3) (
 .ret y7)<|
 .frc (w64 (delta8*y7)) fun t11=>.ret t11
theorem z0L{x1:(Int×Int)}{vn2:Int}{r:Int}(h:zKB x1 vn2=some r):zC qh 186 [.ag [Ti x1.1,Ti x1.2],I vn2] (I r) []:=CtU (zZv x1 vn2) 4 (fun r=>I r) Tryz.func186 rfl rfl h
def z1R(x1:(Int×Int))(vn2:Int):=fC zZP (zKB x1 vn2) fun _=>z0L
theorem zUk:CfW qh 148:=cfW Tryz.func148
noncomputable def zVk(d1:Int)(vn2:Int):T qh (List Int):=
 .n1 (nilN 3 1 (by decide))<|
 .n1 (nilN 3 1 (by decide))<|
 .op1 (zZc d1) fun y3=>.n0 (lenM zGk y3)<|
 .loop (fun n X_1=>zGA vn2 y3 n X_1.1 X_1.2) ((0,([]:List Int))) (mb 23 3618) [72,40] (fun s X_1 γ=>s.pc (mb 23 3618) [72,40] [(11,I X_1.1)] [(40,.arr 3 1 (X_1.2.map c3))]) (fun X_1=>
 .cond (ltI X_1.1 ((y3.length:Int))) (.op0 (zBF zGk y3 X_1.1) fun e9=>.op0 (ldo zGk y3 X_1.1) fun e10=>
 .op1 (z1R e10 vn2) fun y11=>.n1 bsl<|.opx (app ct3 X_1.2 ([y11])) fun u12=>
 .frc (w64 (X_1.1+1)) fun t13=>.ret (.inl ((t13,X_1.2++([y11])))))<|.ret (.inr X_1.2)) (mb 23 32) [40] (fun s o7 γ=>s.pc (mb 23 32) [40] [] [(40,.arr 3 1 (o7.map c3))]) fun o7=>
 .ret o7
theorem zWI{d1:Int}{vn2:Int}{r:List Int}(h:zIH d1 vn2=some r):zC qh 148 [I d1,I vn2] (.ow 0) [(0,.arr 3 1 (r.map c3))]:=CtT (zVk d1 vn2) (fun r=>(.ow 0,[(0,.arr 3 1 (r.map c3))])) (rs:=[.t 4]) (vs:=[.tmp 4]) Tryz.func148 rfl rfl (.cons rfl FitsL.nil) h
def zWm(d1:Int)(vn2:Int):=fC zUk (zIH d1 vn2) fun _=>zWI
theorem zZO:CfW qh 105:=cfW Tryz.func105
noncomputable def zZu(f1:τF):T qh (List Int):=
 .n1 (nilN 3 1 (by decide))<|
 .draw 7 []<|.op1 (zBQ f1) fun y2=>.op1 (zDE f1) fun y3=>.op1 (zVS y3) fun y4=>.op1 (zWm y2 y4) fun y5=>
 .ret y5
theorem z0K{f1:τF}{r:List Int}(h:zFP f1=some r):zC qh 105 [.ag [Ti f1.1,Ti f1.2.1,Ti f1.2.2]] (.ow 0) [(0,.arr 3 1 (r.map c3))]:=CtT (zZu f1) (fun r=>(.ow 0,[(0,.arr 3 1 (r.map c3))])) (rs:=[.t 2]) (vs:=[.tmp 2]) Tryz.func105 rfl rfl (.cons rfl FitsL.nil) h
def z1Q(f1:τF):=fC zZO (zFP f1) fun _=>z0K
theorem zRg:CfW qh 150:=cfW Tryz.func150
noncomputable def zSm(vn1:Int):T qh Bool:=
 .op1 (zFT vn1 1 10000) fun y2=>
 .ret y2
theorem zTS{vn1:Int}{r:Bool}(h:zF3 vn1=some r):zC qh 150 [I vn1] (Bo r) []:=CtU (zSm vn1) 2 (fun r=>Bo r) Tryz.func150 rfl rfl h
def zVJ(vn1:Int):=fC zRg (zF3 vn1) fun _=>zTS
theorem zU8:CfW qh 187:=cfW Tryz.func187
noncomputable def zV8(vn1:Int):T qh Int:=
 .loop (fun n X_1=>zCl vn1 n X_1.1 X_1.2) ((0,1000000000)) (mb 23 25) [] (fun s X_1 γ=>s.pc (mb 23 25) [] [(3,I X_1.1),(4,I X_1.2)] []) (fun X_1=>
 .cond (ltI X_1.1 X_1.2) (.n0 dvN<|
 .frc (w64 (Int.tdiv (w64 ((w64 (X_1.1+X_1.2))+1)) 2)) fun mid7=>
 .cond (leI (w64 (mid7*mid7)) vn1) (
 .ret (.inl ((mid7,X_1.2))))<|
 .frc (w64 (mid7 - 1)) fun hi9=>.ret (.inl ((X_1.1,hi9))))<|.ret (.inr X_1.1)) (mb 23 8) [] (fun s o5 γ=>s.pc (mb 23 8) [] [(3,I o5)] []) fun o5=>
 .ret o5
theorem zVw{vn1:Int}{r:Int}(h:zEr vn1=some r):zC qh 187 [I vn1] (I r) []:=CtU (zV8 vn1) 2 (fun r=>I r) Tryz.func187 rfl rfl h
def zWg(vn1:Int):=fC zU8 (zEr vn1) fun _=>zVw
theorem zWU:CfW qh 188:=cfW Tryz.func188
noncomputable def zXf(l1:List (Int×Int))(p2:(Int×Int)):T qh Bool:=
 .n0 (lenM zHY l1)<|
 .loopS (fun n X_1=>zDI l1 p2 n X_1) 0 (mb 17 904) [24] (fun s X_1 γ=>s.pc (mb 17 904) [24] [(9,I X_1)] []) (fun X_1=>
 .cond (ltI X_1 ((l1.length:Int))) (.op0 (idxM zHY l1 X_1) fun e7=>
 .n0 (eqg2 qAu)<|
 .cond (((e7.1==p2.1)&&(e7.2==p2.2))) (
 .ret (.early true))<|
 .frc (w64 (X_1+1)) fun t9=>.ret (.again t9))<|.ret (.done (()))) (mb 17 0) [] (fun s o5 γ=>s.pc (mb 17 0) [] [] []) (fun r=>r) fun o5=>
 .ret false
theorem zYD{l1:List (Int×Int)}{p2:(Int×Int)}{r:Bool}(h:zDi l1 p2=some r):zC qh 188 [.c (.sl (l1.map c184)),.ag [Ti p2.1,Ti p2.2]] (Bo r) []:=CtU (zXf l1 p2) 4 (fun r=>Bo r) Tryz.func188 rfl rfl h
def zZ6(l1:List (Int×Int))(p2:(Int×Int)):=fC zWU (zDi l1 p2) fun _=>zYD
theorem zWT:CfW qh 189:=cfW Tryz.func189
noncomputable def zXe(l1:List (Int×Int))(p2:(Int×Int)):T qh (List (Int×Int)):=
 .n1 (nilN 184 2 (by decide))<|
 .loop (fun n X_2=>zDH l1 p2 n X_2) 0 (mb 57 41) [24] (fun s X_2 γ=>s.pc (mb 57 41) [24] [(5,I X_2)] []) (fun X_2=>
 .dn<|.joinC (.draw 34 []<|.n0 (lenM zHY l1)<|.seqT (.cond (ltI X_2 ((l1.length:Int))) (.op0 (idxM zHY l1 X_2) fun e7=>.seqT (.cond (ltI e7.1 p2.1) (.ret true) (.op0 (idxM zHY l1 X_2) fun e9=>.seqT (.cond (eqI e9.1 p2.1) (.op0 (idxM zHY l1 X_2) fun e11=>.ret (ltI e11.2 p2.2)) (.ret false)) fun b12=>.ret b12)) fun b13=>.ret b13) (.ret false)) fun b14=>.ret b14) (mb 57 1099511627817) [24] (fun s q_1 γ=>s.pc (mb 57 1099511627817) [24] [(40,Bo q_1)] []) fun q_1=>
 .cond q_1 (
 .frc (w64 (X_2+1)) fun k16=>.ret (.inl k16))<|.ret (.inr X_2)) (mb 57 41) [24] (fun s o5 γ=>s.pc (mb 57 41) [24] [(5,I o5)] []) fun o5=>
 .n1 bsl0<|.op0 (slice zHY l1 0 o5) fun u17=>.opx (app zHY (([]:List (Int×Int))) (subl l1 0 o5)) fun u18=>
 .n1 bsl<|.opx (app zHY ((([]:List (Int×Int)))++(subl l1 0 o5)) ([p2])) fun u19=>
 .op0 (slice zHY l1 o5 ((l1.length:Int))) fun u20=>.opx (app zHY (((([]:List (Int×Int)))++(subl l1 0 o5))++([p2])) (subl l1 o5 ((l1.length:Int)))) fun u21=>
 .lt ((((([]:List (Int×Int)))++(subl l1 0 o5))++([p2]))++(subl l1 o5 ((l1.length:Int)))) fun l22=>.ret l22
theorem zYC{l1:List (Int×Int)}{p2:(Int×Int)}{r:List (Int×Int)}(h:zE1 l1 p2=some r):zC qh 189 [.c (.sl (l1.map c184)),.ag [Ti p2.1,Ti p2.2]] (.ow 0) [(0,.arr 184 2 (r.map c184))]:=CtT (zXe l1 p2) (fun r=>(.ow 0,[(0,.arr 184 2 (r.map c184))])) (rs:=[.t 4]) (vs:=[.tmp 4]) Tryz.func189 rfl rfl (.cons rfl FitsL.nil) h
def zZ5(l1:List (Int×Int))(p2:(Int×Int)):=fC zWT (zE1 l1 p2) fun _=>zYC
theorem zZL:CfW qh 151:=cfW Tryz.func151
noncomputable def zZs(f1:τF)(vn2:Int):T qh (List (Int×Int)):=
 .n1 (nilN 184 2 (by decide))<|
 .op1 (zBQ f1) fun y3=>
 .n1 (nilN 184 2 (by decide))<|
 .hint (frzH 48)<|.loop (fun n X_3=>zD9 f1 vn2 y3 n X_3.1 X_3.2) ((0,([]:List (Int×Int)))) (mb 108 230) [16] (fun s X_3 γ=>s.pc (mb 108 230) [16] [(6,.c (.sl (X_3.2.map c184))),(7,I X_3.1)] []) (fun X_3=>
 .lt (leI (w64 ((w64 ((w64 (0 - y3))*X_3.1))*X_3.1)) (w64 ((w64 (4*f1.1))*vn2))) fun t8=>.cond t8 (.op1 (zWg (w64 ((w64 ((w64 (y3*X_3.1))*X_3.1))+(w64 ((w64 (4*f1.1))*vn2))))) fun y10=>
 .lt (!eqI (w64 (y10*y10)) (w64 ((w64 ((w64 (y3*X_3.1))*X_3.1))+(w64 ((w64 (4*f1.1))*vn2))))) fun t11=>.cond t11 (
 .frc (w64 (X_3.1+1)) fun y13=>.ret (.inl ((y13,X_3.2))))<|.n1 bsl<|.n0 (lenM ct3 ([X_3.1,w64 (0 - X_3.1)]))<|
 .frc ((([X_3.1,w64 (0 - X_3.1)]).length:Int)) fun t14=>.loop (fun n X_2=>zBl f1 t14 vn2 y10 y3 X_3.1 n X_2.1 X_2.2) ((X_3.2,0)) (mb 108 8070450532247929318) [480,16] (fun s X_2 γ=>s.pc (mb 108 8070450532247929318) [480,16] [(6,.c (.sl (X_2.1.map c184))),(62,I X_2.2)] []) (fun X_2=>
 .cond (ltI X_2.2 t14) (.op0 (zBF ct3 ([X_3.1,w64 (0 - X_3.1)]) X_2.2) fun e20=>.op0 (ldo ct3 ([X_3.1,w64 (0 - X_3.1)]) X_2.2) fun e21=>
 .n1 bsl<|.n0 (lenM ct3 ([y10,w64 (0 - y10)]))<|
 .frc ((([y10,w64 (0 - y10)]).length:Int)) fun t22=>.loop (fun n X_1=>zAR e21 f1 t14 X_2.2 t22 vn2 y10 y3 X_3.1 n X_1.1 X_1.2) ((X_2.1,0)) (mb 108 4140141123043187492326) [552,480,16] (fun s X_1 γ=>s.pc (mb 108 4140141123043187492326) [552,480,16] [(6,.c (.sl (X_1.1.map c184))),(71,I X_1.2)] []) (fun X_1=>
 .cond (ltI X_1.2 t22) (.op0 (zBF ct3 ([y10,w64 (0 - y10)]) X_1.2) fun e28=>.op0 (ldo ct3 ([y10,w64 (0 - y10)]) X_1.2) fun e29=>
 .op0 (remF .i64 (w64 (e29 - (w64 (f1.2.1*e21)))) (w64 (2*f1.1))) fun z30=>
 .lt (eqI (Int.tmod (w64 (e29 - (w64 (f1.2.1*e21)))) (w64 (2*f1.1))) 0) fun t31=>.cond t31 (.op0 (quoF .i64 (w64 (e29 - (w64 (f1.2.1*e21)))) (w64 (2*f1.1))) fun z33=>.n0 (bld z3S z7A)<|
 .frc (w64 (Int.tdiv (w64 (e29 - (w64 (f1.2.1*e21)))) (w64 (2*f1.1)))) fun f34=>.op1 (zZ6 X_1.1 ((f34,e21))) fun y35=>
 .cond (!y35) (.op1 (zZ5 X_1.1 ((f34,e21))) fun y37=>
 .hint (frzH 832)<|
 .frc (w64 (X_1.2+1)) fun t38=>.ret (.inl ((y37,t38))))<|
 .frc (w64 (X_1.2+1)) fun t39=>.ret (.inl ((X_1.1,t39))))<|
 .frc (w64 (X_1.2+1)) fun t40=>.ret (.inl ((X_1.1,t40))))<|.ret (.inr X_1.1)) (mb 108 8070450532247929318) [480,16] (fun s o26 γ=>s.pc (mb 108 8070450532247929318) [480,16] [(6,.c (.sl (o26.map c184)))] []) fun o26=>
 .frc (w64 (X_2.2+1)) fun t41=>.ret (.inl ((o26,t41))))<|.ret (.inr X_2.1)) (mb 108 230) [16] (fun s o18 γ=>s.pc (mb 108 230) [16] [(6,.c (.sl (o18.map c184)))] []) fun o18=>
 .frc (w64 (X_3.1+1)) fun y42=>.ret (.inl ((y42,o18))))<|.ret (.inr X_3.2)) (mb 108 64) [] (fun s o7 γ=>s.pc (mb 108 64) [] [(6,.c (.sl (o7.map c184)))] []) fun o7=>
 .ret o7
theorem z0H{f1:τF}{vn2:Int}{r:List (Int×Int)}(h:zFO f1 vn2=some r):zC qh 151 [.ag [Ti f1.1,Ti f1.2.1,Ti f1.2.2],I vn2] (.c (.sl (r.map c184))) []:=CtU (zZs f1 vn2) 4 (fun r=>.c (.sl (r.map c184))) Tryz.func151 rfl rfl h
def z1P(f1:τF)(vn2:Int):=fC zZL (zFO f1 vn2) fun _=>z0H
theorem zGf:CfW qh 106:=cfW Tryz.func106
noncomputable def zGo(f1:τF)(vn2:Int):T qh ((Int×Bool)):=
 .pl<|.dn<|.joinC (.op1 (zMN f1) fun y3=>.seqT (.cond (!y3) (.ret true) (.op1 (zVJ vn2) fun y5=>.ret (!y5))) fun b6=>.ret (y3,b6)) (mb 18 8198) [16] (fun s q_1 γ=>s.pc (mb 18 8198) [16] [(13,Bo q_1.2)] []) fun q_1=>
 .cond q_1.2 (
 .ret ((0,false)))<|.op1 (z1P f1 vn2) fun y8=>.n0 (lenM zHY y8)<|
 .ret (((y8.length:Int),true))
theorem zGq{f1:τF}{vn2:Int}{r:(Int×Bool)}(h:zA3 f1 vn2=some r):zC qh 106 [.ag [Ti f1.1,Ti f1.2.1,Ti f1.2.2],I vn2] (.tc (I r.1) (.tc (Bo r.2) .tn)) []:=CtT (zGo f1 vn2) (fun r=>(.tc (I r.1) (.tc (Bo r.2) .tn),[])) (rs:=[.t 4,.t 5]) (vs:=[.tmp 4,.tmp 5]) Tryz.func106 rfl rfl (.cons rfl (.cons rfl FitsL.nil)) h
def zGz(f1:τF)(vn2:Int):=fC zGf (zA3 f1 vn2) fun _=>zGq
theorem zW7:CfW qh 221:=cfW Tryz.func221
noncomputable def zXr(vm1:τM):T qh Int:=
 .frc (w64 ((w64 (vm1.1*vm1.2.2.2)) - (w64 (vm1.2.1*vm1.2.2.1)))) fun t2=>.ret t2
theorem zYR{vm1:τM}{r:Int}(h:zIo vm1=some r):zC qh 221 [.ag [Ti vm1.1,Ti vm1.2.1,Ti vm1.2.2.1,Ti vm1.2.2.2]] (I r) []:=CtU (zXr vm1) 2 (fun r=>I r) Tryz.func221 rfl rfl h
def zZb(vm1:τM):=fC zW7 (zIo vm1) fun _=>zYR
theorem zOi:CfW qh 190:=cfW Tryz.func190
noncomputable def zPU(vm1:τM):T qh (τM):=
 .op1 (zZb vm1) fun y2=>
 .n0 (bld zD6 zDf)<|
 .frc (w64 (y2*vm1.2.2.2)) fun f3=>.frc (w64 ((w64 (0 - y2))*vm1.2.1)) fun f4=>.frc (w64 ((w64 (0 - y2))*vm1.2.2.1)) fun f5=>.frc (w64 (y2*vm1.1)) fun f6=>.ret ((f3,f4,f5,f6))
theorem zPc{vm1:τM}{r:τM}(h:zE2 vm1=some r):zC qh 190 [.ag [Ti vm1.1,Ti vm1.2.1,Ti vm1.2.2.1,Ti vm1.2.2.2]] (.ag [Ti r.1,Ti r.2.1,Ti r.2.2.1,Ti r.2.2.2]) []:=CtT (zPU vm1) (fun r=>(.ag [Ti r.1,Ti r.2.1,Ti r.2.2.1,Ti r.2.2.2],[])) (rs:=[.w 2 4]) (vs:=[.cell 2 120]) Tryz.func190 rfl rfl (.cons ⟨rfl,zFY⟩ FitsL.nil) h
def zQd(vm1:τM):=fC zOi (zE2 vm1) fun _=>zPc
theorem zQP:CfW qh 191:=cfW Tryz.func191
noncomputable def zRJ(vm1:τM):T qh Bool:=
 .pl<|.joinC (.op1 (zD5 vm1.1) fun y2=>.seqT (.cond y2 (.op1 (zD5 vm1.2.1) fun y4=>.ret y4) (.ret false)) fun b5=>.seqT (.cond b5 (.op1 (zD5 vm1.2.2.1) fun y7=>.ret y7) (.ret false)) fun b8=>.seqT (.cond b8 (.op1 (zD5 vm1.2.2.2) fun y10=>.ret y10) (.ret false)) fun b11=>.ret (y2,b5,b8,b11)) (mb 21 4) [] (fun s q_1 γ=>s.pc (mb 21 4) [] [(2,Bo q_1.2.2.2)] []) fun q_1=>
 .ret q_1.2.2.2
theorem zR2{vm1:τM}{r:Bool}(h:zDw vm1=some r):zC qh 191 [.ag [Ti vm1.1,Ti vm1.2.1,Ti vm1.2.2.1,Ti vm1.2.2.2]] (Bo r) []:=CtU (zRJ vm1) 2 (fun r=>Bo r) Tryz.func191 rfl rfl h
def zSO(vm1:τM):=fC zQP (zDw vm1) fun _=>zR2
theorem zHb:CfW qh 152:=cfW Tryz.func152
noncomputable def zHy(f1:τF)(g2:τF):T qh ((τM×Bool)):=
 .pl<|.dn<|.joinC (.op1 (zDX f1) fun y3=>.seqT (.cond (!y3) (.ret true) (.op1 (zDX g2) fun y5=>.ret (!y5))) fun b6=>.ret (y3,b6)) (mb 44 262172) [32,24,16] (fun s q_2 γ=>s.pc (mb 44 262172) [32,24,16] [(18,Bo q_2.2)] []) fun q_2=>
 .cond q_2.2 (.n0 (bld zD6 zDf)<|
 .ret (((0,0,0,0),false)))<|.op1 (zC5 f1) fun y8=>
 .op1 (zC5 g2) fun y9=>
 .draw 5 []<|.op1 (zQd y9.2) fun y10=>.op1 (zDW y8.2 y10) fun y11=>
 .dn<|.joinC (.n0 (neg3 zXE)<|.seqT (.cond (!((y8.1.1==y9.1.1)&&((y8.1.2.1==y9.1.2.1)&&(y8.1.2.2==y9.1.2.2)))) (.ret true) (.op1 (zSO y11) fun y13=>.ret (!y13))) fun b14=>.ret b14) (mb 44 2199023256592) [80,32] (fun s q_1 γ=>s.pc (mb 44 2199023256592) [80,32] [(41,Bo q_1)] []) fun q_1=>
 .cond q_1 (.n0 (bld zD6 zDf)<|
 .ret (((0,0,0,0),false)))<|
 .ret ((y11,true))
theorem zID{f1:τF}{g2:τF}{r:(τM×Bool)}(h:zBL f1 g2=some r):zC qh 152 [.ag [Ti f1.1,Ti f1.2.1,Ti f1.2.2],.ag [Ti g2.1,Ti g2.2.1,Ti g2.2.2]] (.tc (.ag [Ti r.1.1,Ti r.1.2.1,Ti r.1.2.2.1,Ti r.1.2.2.2]) (.tc (Bo r.2) .tn)) []:=CtT (zHy f1 g2) (fun r=>(.tc (.ag [Ti r.1.1,Ti r.1.2.1,Ti r.1.2.2.1,Ti r.1.2.2.2]) (.tc (Bo r.2) .tn),[])) (rs:=[.w 4 4,.t 5]) (vs:=[.cell 4 120,.tmp 5]) Tryz.func152 rfl rfl (.cons ⟨rfl,zFY⟩ (.cons rfl FitsL.nil)) h
def zIK(f1:τF)(g2:τF):=fC zHb (zBL f1 g2) fun _=>zID
theorem zKW:CfW qh 154:=cfW Tryz.func154
noncomputable def zLO(vm1:τM):T qh qf:=
 .draw 21 []<|.op1 (zBU vm1.1) fun y2=>.op0 (cat ((⟨#[91]⟩:qf)) y2) fun u3=>.op0 (cat (((⟨#[91]⟩:qf))++y2) ((⟨#[44]⟩:qf))) fun u4=>.op1 (zBU vm1.2.1) fun y5=>.op0 (cat ((((⟨#[91]⟩:qf))++y2)++((⟨#[44]⟩:qf))) y5) fun u6=>.op0 (cat (((((⟨#[91]⟩:qf))++y2)++((⟨#[44]⟩:qf)))++y5) ((⟨#[59]⟩:qf))) fun u7=>.op1 (zBU vm1.2.2.1) fun y8=>.op0 (cat ((((((⟨#[91]⟩:qf))++y2)++((⟨#[44]⟩:qf)))++y5)++((⟨#[59]⟩:qf))) y8) fun u9=>.op0 (cat (((((((⟨#[91]⟩:qf))++y2)++((⟨#[44]⟩:qf)))++y5)++((⟨#[59]⟩:qf)))++y8) ((⟨#[44]⟩:qf))) fun u10=>.op1 (zBU vm1.2.2.2) fun y11=>.op0 (cat ((((((((⟨#[91]⟩:qf))++y2)++((⟨#[44]⟩:qf)))++y5)++((⟨#[59]⟩:qf)))++y8)++((⟨#[44]⟩:qf))) y11) fun u12=>.op0 (cat (((((((((⟨#[91]⟩:qf))++y2)++((⟨#[44]⟩:qf)))++y5)++((⟨#[59]⟩:qf)))++y8)++((⟨#[44]⟩:qf)))++y11) ((⟨#[93]⟩:qf))) fun u13=>
 .ret ((((((((((⟨#[91]⟩:qf))++y2)++((⟨#[44]⟩:qf)))++y5)++((⟨#[59]⟩:qf)))++y8)++((⟨#[44]⟩:qf)))++y11)++((⟨#[93]⟩:qf)))
theorem zL4{vm1:τM}{r:qf}(h:zAw vm1=some r):zC qh 154 [.ag [Ti vm1.1,Ti vm1.2.1,Ti vm1.2.2.1,Ti vm1.2.2.2]] (.c (.v (.string r))) []:=CtU (zLO vm1) 2 (fun r=>.c (.v (.string r))) Tryz.func154 rfl rfl h
def zEo(vm1:τM):=fC zKW (zAw vm1) fun _=>zL4
theorem zU7:CfW qh 153:=cfW Tryz.func153
noncomputable def zV7(l1:List qf):T qh qf:=
 .n0 (lenM ct9 l1)<|
 .loop (fun n X_1=>zBY l1 n X_1.1 X_1.2) (((⟨#[]⟩:qf),0)) (mb 22 456) [] (fun s X_1 γ=>s.pc (mb 22 456) [] [(3,.c (.v (.string X_1.1))),(8,I X_1.2)] []) (fun X_1=>
 .cond (ltI X_1.2 ((l1.length:Int))) (.op0 (idxM ct9 l1 X_1.2) fun e7=>
 .cond (ltI 0 X_1.2) (.op0 (cat X_1.1 ((⟨#[32]⟩:qf))) fun u9=>
 .op0 (cat (X_1.1++((⟨#[32]⟩:qf))) e7) fun u10=>
 .frc (w64 (X_1.2+1)) fun t11=>.ret (.inl (((X_1.1++((⟨#[32]⟩:qf)))++e7,t11))))<|.op0 (cat X_1.1 e7) fun u12=>
 .frc (w64 (X_1.2+1)) fun t13=>.ret (.inl ((X_1.1++e7,t13))))<|.ret (.inr X_1.1)) (mb 22 8) [] (fun s o5 γ=>s.pc (mb 22 8) [] [(3,.c (.v (.string o5)))] []) fun o5=>
 .ret o5
theorem zVv{l1:List qf}{r:qf}(h:zEA l1=some r):zC qh 153 [.c (.sl (l1.map c9))] (.c (.v (.string r))) []:=CtU (zV7 l1) 2 (fun r=>.c (.v (.string r))) Tryz.func153 rfl rfl h
def zMK(l1:List qf):=fCs zU7 (zEA l1) (fun _=>zVv) fun _=>rfl
theorem zGC:CfW qh 107:=cfW Tryz.func107
noncomputable def zGK(f1:τF)(g2:τF):T qh ((qf×Bool)):=
 .op1 (zIK f1 g2) fun y3=>
 .cond (!y3.2) (
 .ret (((⟨#[]⟩:qf),false)))<|.draw 10 []<|.op1 (zCj f1) fun y5=>.op1 (zCj g2) fun y6=>.op1 (zEo y3.1) fun y7=>.n1 bsl<|.op1 (zMK ([(⟨#[101,113,117,105,118,97,108,101,110,116]⟩:qf),y5,y6,y7])) fun y8=>
 .ret ((y8,true))
theorem zGN{f1:τF}{g2:τF}{r:(qf×Bool)}(h:zAI f1 g2=some r):zC qh 107 [.ag [Ti f1.1,Ti f1.2.1,Ti f1.2.2],.ag [Ti g2.1,Ti g2.2.1,Ti g2.2.2]] (.tc (.c (.v (.string r.1))) (.tc (Bo r.2) .tn)) []:=CtT (zGK f1 g2) (fun r=>(.tc (.c (.v (.string r.1))) (.tc (Bo r.2) .tn),[])) (rs:=[.t 4,.t 5]) (vs:=[.tmp 4,.tmp 5]) Tryz.func107 rfl rfl (.cons rfl (.cons rfl FitsL.nil)) h
def zGY(f1:τF)(g2:τF):=fC zGC (zAI f1 g2) fun _=>zGN
theorem zGW:CfW qh 108:=cfW Tryz.func108
noncomputable def zG1(f1:τF)(g2:τF):T qh ((qf×Bool)):=
 .pl<|.dn<|.joinC (.op1 (zDX f1) fun y3=>.seqT (.cond (!y3) (.ret true) (.op1 (zDX g2) fun y5=>.ret (!y5))) fun b6=>.ret (y3,b6)) (mb 45 131084) [24,16] (fun s q_1 γ=>s.pc (mb 45 131084) [24,16] [(17,Bo q_1.2)] []) fun q_1=>
 .cond q_1.2 (
 .ret (((⟨#[]⟩:qf),false)))<|.op1 (zC5 f1) fun y8=>
 .op1 (zC5 g2) fun y9=>
 .n0 (eqg3 zXO)<|
 .lt (((y8.1.1==y9.1.1)&&((y8.1.2.1==y9.1.2.1)&&(y8.1.2.2==y9.1.2.2)))) fun t10=>.cond t10 (
 .ret (((⟨#[]⟩:qf),false)))<|.draw 16 []<|.op1 (zCj f1) fun y12=>.op1 (zEo y8.2) fun y13=>.op1 (zCj y8.1) fun y14=>.op1 (zCj g2) fun y15=>.op1 (zEo y9.2) fun y16=>.op1 (zCj y9.1) fun y17=>.n1 bsl<|.op1 (zMK ([(⟨#[100,105,102,102,101,114,101,110,116]⟩:qf),y12,y13,y14,y15,y16,y17])) fun y18=>
 .ret ((y18,true))
theorem zG3{f1:τF}{g2:τF}{r:(qf×Bool)}(h:zAT f1 g2=some r):zC qh 108 [.ag [Ti f1.1,Ti f1.2.1,Ti f1.2.2],.ag [Ti g2.1,Ti g2.2.1,Ti g2.2.2]] (.tc (.c (.v (.string r.1))) (.tc (Bo r.2) .tn)) []:=CtT (zG1 f1 g2) (fun r=>(.tc (.c (.v (.string r.1))) (.tc (Bo r.2) .tn),[])) (rs:=[.t 4,.t 5]) (vs:=[.tmp 4,.tmp 5]) Tryz.func108 rfl rfl (.cons rfl (.cons rfl FitsL.nil)) h
def zGi(f1:τF)(g2:τF):=fC zGW (zAT f1 g2) fun _=>zG3
theorem zNH:CfW qh 75:=cfW Tryz.func75
noncomputable def zNi(x1:(τS×(List τS)))(word2:qf)(w3:((List qf)×τF×Int)):T qh ((qf×(τS×(List τS)))):=
 .n0 au<|
 .n1 (nilN 42 3 (by decide))<|
 .pl<|.join (.joinC (.selB (word2.toList==((⟨#[109,117,108]⟩:qf)).toList) false [] fun w_4=>.ret w_4) (mb 167 2147484579) [64,56,40,80000,90003] (fun s q_5 γ=>s.pc (mb 167 2147484579) [64,56,40,80000,90003] [(31,Bo (bif q_5 then true else (word2.toList==((⟨#[112,111,119]⟩:qf)).toList)))] [(80000,s.pbx 80000 [Ti x1.1.1,.v (.string x1.1.2.1),.sl (x1.1.2.2.map c42),.v (zF (γ 90003))]),(90003,.qarr (γ 90003) 53 3 (x1.2.map c53))]) fun q_5=>
 .lt (bif q_5 then true else (word2.toList==((⟨#[112,111,119]⟩:qf)).toList)) fun t6=>.cond t6 (.op0 (slice ct9 w3.1 1 ((w3.1.length:Int))) fun u8=>
 .ret (subl w3.1 1 ((w3.1.length:Int))))<|.ret w3.1) (mb 167 931) [64,56,40,80000,90003] (fun s j4 γ=>s.pc (mb 167 931) [64,56,40,80000,90003] [(9,.c (.sl (j4.map c9)))] [(80000,s.pbx 80000 [Ti x1.1.1,.v (.string x1.1.2.1),.sl (x1.1.2.2.map c42),.v (zF (γ 90003))]),(90003,.qarr (γ 90003) 53 3 (x1.2.map c53))]) fun j4=>
 .n0 (lenM ct9 j4)<|
 .loopS (fun n X_7=>jJ j4 w3 word2 x1 n X_7.1 X_7.2) ((0,([]:List τF))) (mb 167 240518168995) [64,56,40,80000,90003] (fun s X_7 γ=>s.pc (mb 167 240518168995) [64,56,40,80000,90003] [(37,I X_7.1)] [(64,.arr 42 3 (X_7.2.map c42)),(80000,s.pbx 80000 [Ti x1.1.1,.v (.string x1.1.2.1),.sl (x1.1.2.2.map c42),.v (zF (γ 90003))]),(90003,.qarr (γ 90003) 53 3 (x1.2.map c53))]) (fun X_7=>
 .cond (ltI X_7.1 ((j4.length:Int))) (.op0 (idxM ct9 j4 X_7.1) fun e14=>
 .op1 (zEn x1.1 e14) fun y15=>
 .cond (ltI y15 0) (
 .ret (.early (((⟨#[110,111]⟩:qf),x1))))<|.op0 (idxM ct42 x1.1.2.2 y15) fun e17=>.n1 bsl<|.opx (app ct42 X_7.2 ([e17])) fun u18=>
 .frc (w64 (X_7.1+1)) fun t19=>.ret (.again ((t19,X_7.2++([e17])))))<|.ret (.done X_7.2)) (mb 167 419) [64,56,40,80000,90003] (fun s o12 γ=>s.pc (mb 167 419) [64,56,40,80000,90003] [] [(64,.arr 42 3 (o12.map c42)),(80000,s.pbx 80000 [Ti x1.1.1,.v (.string x1.1.2.1),.sl (x1.1.2.2.map c42),.v (zF (γ 90003))]),(90003,.qarr (γ 90003) 53 3 (x1.2.map c53))]) (fun r=>r) fun o12=>
 .cond (word2.toList==((⟨#[109,117,108]⟩:qf)).toList) (.draw 12 []<|.op0 (idxM ct9 w3.1 0) fun e21=>.op0 (zBF ct42 o12 0) fun e22=>.op0 (ldo ct42 o12 0) fun e23=>.op0 (zBF ct42 o12 1) fun e24=>.op0 (ldo ct42 o12 1) fun e25=>.op1 (zGy e23 e25) fun y26=>.opx (zDr x1 e21 y26) fun y27=>
 .ret ((y27.1,y27.2)))<|
 .cond (word2.toList==((⟨#[112,111,119]⟩:qf)).toList) (.draw 11 []<|.op0 (idxM ct9 w3.1 0) fun e29=>.op0 (zBF ct42 o12 0) fun e30=>.op0 (ldo ct42 o12 0) fun e31=>.op1 (zVP e31 w3.2.2) fun y32=>.opx (zDr x1 e29 y32) fun y33=>
 .ret ((y33.1,y33.2)))<|
 .lt (word2.toList==((⟨#[115,104,111,119]⟩:qf)).toList) fun t34=>.cond t34 (.op0 (zBF ct42 o12 0) fun e36=>.op0 (ldo ct42 o12 0) fun e37=>.op1 (zCj e37) fun y38=>
 .ret ((y38,x1)))<|
 .lt (word2.toList==((⟨#[105,110,100,101,120]⟩:qf)).toList) fun t39=>.cond t39 (.draw 9 []<|.op1 (zMO x1.1.1) fun y41=>.op0 (zBF ct42 o12 0) fun e42=>.op0 (ldo ct42 o12 0) fun e43=>.op1 (zVE y41 e43) fun y44=>.op1 (zFq y44) fun y45=>
 .ret ((y45,x1)))<|
 .lt (word2.toList==((⟨#[111,114,100,101,114]⟩:qf)).toList) fun t46=>.cond t46 (.op0 (zBF ct42 o12 0) fun e48=>.op0 (ldo ct42 o12 0) fun e49=>.op1 (zVR e49) fun y50=>.op1 (zFq y50) fun y51=>
 .ret ((y51,x1)))<|
 .lt (word2.toList==((⟨#[103,101,110,117,115]⟩:qf)).toList) fun t52=>.cond t52 (
 .op0 (zBF ct42 o12 0) fun e54=>.op0 (ldo ct42 o12 0) fun e55=>.op1 (z1Q e55) fun y56=>.n0 (lenM ct3 y56)<|
 .loop (fun n X_6=>zAY x1 y56 n X_6.1 X_6.2) (((⟨#[]⟩:qf),0)) (mb 167 72692156019487586799426948609089536) [904,80000,90003] (fun s X_6 γ=>s.pc (mb 167 72692156019487586799426948609089536) [904,80000,90003] [(13,.c (.v (.string X_6.1))),(115,I X_6.2)] [(80000,s.pbx 80000 [Ti x1.1.1,.v (.string x1.1.2.1),.sl (x1.1.2.2.map c42),.v (zF (γ 90003))]),(90003,.qarr (γ 90003) 53 3 (x1.2.map c53))]) (fun X_6=>
 .cond (ltI X_6.2 ((y56.length:Int))) (.op0 (zBF ct3 y56 X_6.2) fun e62=>.op0 (ldo ct3 y56 X_6.2) fun e63=>
 .cond (ltI 0 e63) (.op0 (cat X_6.1 ((⟨#[43]⟩:qf))) fun u65=>
 .frc (w64 (X_6.2+1)) fun t66=>.ret (.inl ((X_6.1++((⟨#[43]⟩:qf)),t66))))<|.op0 (cat X_6.1 ((⟨#[45]⟩:qf))) fun u67=>
 .frc (w64 (X_6.2+1)) fun t68=>.ret (.inl ((X_6.1++((⟨#[45]⟩:qf)),t68))))<|.ret (.inr X_6.1)) (mb 167 8192) [80000,90003] (fun s o60 γ=>s.pc (mb 167 8192) [80000,90003] [(13,.c (.v (.string o60)))] [(80000,s.pbx 80000 [Ti x1.1.1,.v (.string x1.1.2.1),.sl (x1.1.2.2.map c42),.v (zF (γ 90003))]),(90003,.qarr (γ 90003) 53 3 (x1.2.map c53))]) fun o60=>
 .ret ((o60,x1)))<|
 .lt (word2.toList==((⟨#[118,97,108,117,101]⟩:qf)).toList) fun t69=>.cond t69 (.draw 11 []<|.op0 (zBF ct42 o12 0) fun e71=>.op0 (ldo ct42 o12 0) fun e72=>.op1 (zGz e72 w3.2.2) fun y73=>
 .cond (!y73.2) (
 .ret (((⟨#[110,111]⟩:qf),x1)))<|.op1 (zFq y73.1) fun y75=>
 .ret ((y75,x1)))<|.draw 12 []<|.op0 (zBF ct42 o12 0) fun e76=>.op0 (ldo ct42 o12 0) fun e77=>.op0 (zBF ct42 o12 1) fun e78=>.op0 (ldo ct42 o12 1) fun e79=>.op1 (zGY e77 e79) fun y80=>
 .cond (!y80.2) (.draw 12 []<|.op0 (zBF ct42 o12 0) fun e82=>.op0 (ldo ct42 o12 0) fun e83=>.op0 (zBF ct42 o12 1) fun e84=>.op0 (ldo ct42 o12 1) fun e85=>.op1 (zGi e83 e85) fun y86=>
 .cond (!y86.2) (
 .ret (((⟨#[110,111]⟩:qf),x1)))<|
 .ret ((y86.1,x1)))<|
 .cond (!y80.2) (
 .ret (((⟨#[110,111]⟩:qf),x1)))<|
 .ret ((y80.1,x1))
theorem zOH{x1:(τS×(List τS))}{word2:qf}{w3:((List qf)×τF×Int)}{r:(qf×(τS×(List τS)))}(h:qE x1 word2 w3=some r):zKb qh 75 [.pt 80000 0,.c (.v (.string word2)),.ag [.sl (w3.1.map c9),Ti w3.2.1.1,Ti w3.2.1.2.1,Ti w3.2.1.2.2,Ti w3.2.2]] 90003 53 3 (fun l=>[(80000,.box [Ti x1.1.1,.v (.string x1.1.2.1),.sl (x1.1.2.2.map c42),.v (zF (l))])]) (x1.2.map c53) (.v (.string r.1)) (fun l=>[(80000,.box [Ti r.2.1.1,.v (.string r.2.1.2.1),.sl (r.2.1.2.2.map c42),.v (zF (l))])]) (r.2.2.map c53):=CqT (zNi x1 word2 w3) 90003 53 3 (fun r=>.v (.string r.1)) (fun r l=>[(80000,.box [Ti r.2.1.1,.v (.string r.2.1.2.1),.sl (r.2.1.2.2.map c42),.v (zF (l))])]) (fun r=>r.2.2.map c53) (rs:=.t 6) (vs:=.tmp 6) Tryz.func75 rfl rfl (.cons rfl FitsL.nil) h
def zOw(x1:(τS×(List τS)))(word2:qf)(w3:((List qf)×τF×Int)):=fQ zNH (qE x1 word2 w3) 80000 4 90003 53 3 (fun _ _ h=>zOH h)
theorem zLh:CfW qh 48:=cfW Tryz.func48
noncomputable def zMW(x1:(τS×(List τS)))(t2:qf):T qh ((qf×(τS×(List τS)))):=
 .op1 (zWe t2) fun y3=>
 .cond (!y3.2.2) (
 .ret (((⟨#[119,104,97,116]⟩:qf),x1)))<|.n0 au<|
 .cond (y3.1.toList==((⟨#[100,105,115,99]⟩:qf)).toList) (.op1 (zMP y3.2.1.2.2) fun y6=>
 .cond (!y6) (
 .ret (((⟨#[110,111]⟩:qf),x1)))<|.n0 (bld pl53 bt53)<|.late (z9s 33)<|.opx (zEI x1 ((y3.2.1.2.2,qg,([]:List τF)))) fun y8=>
 .ret ((y8.1,y8.2)))<|
 .cond (y3.1.toList==((⟨#[115,101,116]⟩:qf)).toList) (.dn<|.joinC (.draw 12 []<|.op1 (zWl y3.2.1.2.1) fun y10=>.seqT (.cond (!y10) (.ret true) (.op1 (zBQ y3.2.1.2.1) fun y12=>.ret (!eqI y12 x1.1.1))) fun b13=>.ret (y10,b13)) (mb 100 281474976710721) [48,80000,90003] (fun s q_1 γ=>s.pc (mb 100 281474976710721) [48,80000,90003] [(48,Bo q_1.2)] [(80000,s.pbx 80000 [Ti x1.1.1,.v (.string x1.1.2.1),.sl (x1.1.2.2.map c42),.v (zF (γ 90003))]),(90003,.qarr (γ 90003) 53 3 (x1.2.map c53))]) fun q_1=>
 .cond q_1.2 (
 .ret (((⟨#[110,111]⟩:qf),x1)))<|.draw 8 []<|.op0 (idxM ct9 y3.2.1.1 0) fun e15=>.op1 (zDE y3.2.1.2.1) fun y16=>.opx (zDr x1 e15 y16) fun y17=>
 .ret ((y17.1,y17.2)))<|
 .lt (y3.1.toList==((⟨#[112,114,105,109,101]⟩:qf)).toList) fun t18=>.cond t18 (.op1 (zPF x1.1.1 y3.2.1.2.2) fun y20=>
 .cond (!y20.2) (
 .ret (((⟨#[110,111]⟩:qf),x1)))<|.draw 6 []<|.op0 (idxM ct9 y3.2.1.1 0) fun e22=>.opx (zDr x1 e22 y20.1) fun y23=>
 .ret ((y23.1,y23.2)))<|
 .lt (y3.1.toList==((⟨#[102,114,101,101]⟩:qf)).toList) fun t24=>.cond t24 (.op0 (idxM ct9 y3.2.1.1 0) fun e26=>.opx (zN4 x1 e26) fun y27=>
 .ret ((y27.1,y27.2)))<|
 .lt (y3.1.toList==((⟨#[110,97,109,101,115]⟩:qf)).toList) fun t28=>.cond t28 (
 .cond (x1.1.2.1.toList==((⟨#[]⟩:qf)).toList) (
 .ret (((⟨#[110,111,110,101]⟩:qf),x1)))<|
 .ret ((x1.1.2.1,x1)))<|
 .lt (y3.1.toList==((⟨#[117,110,100,111]⟩:qf)).toList) fun t31=>.cond t31 (.opx (zN2 x1) fun y33=>
 .ret ((y33.1,y33.2)))<|.opx (zOw x1 y3.1 y3.2.1) fun y34=>
 .ret ((y34.1,y34.2))
theorem zMi{x1:(τS×(List τS))}{t2:qf}{r:(qf×(τS×(List τS)))}(h:zN x1 t2=some r):zKb qh 48 [.pt 80000 0,.c (.v (.string t2))] 90003 53 3 (fun l=>[(80000,.box [Ti x1.1.1,.v (.string x1.1.2.1),.sl (x1.1.2.2.map c42),.v (zF (l))])]) (x1.2.map c53) (.v (.string r.1)) (fun l=>[(80000,.box [Ti r.2.1.1,.v (.string r.2.1.2.1),.sl (r.2.1.2.2.map c42),.v (zF (l))])]) (r.2.2.map c53):=CqT (zMW x1 t2) 90003 53 3 (fun r=>.v (.string r.1)) (fun r l=>[(80000,.box [Ti r.2.1.1,.v (.string r.2.1.2.1),.sl (r.2.1.2.2.map c42),.v (zF (l))])]) (fun r=>r.2.2.map c53) (rs:=.t 4) (vs:=.tmp 4) Tryz.func48 rfl rfl (.cons rfl FitsL.nil) h
def zN3(x1:(τS×(List τS)))(t2:qf):=fQ zLh (zN x1 t2) 80000 4 90003 53 3 (fun _ _ h=>zMi h)
theorem zWX:CfW qh 32:=cfW Tryz.func32
noncomputable def zXi(script1:qf):T qh (((τS×(List τS))×(List qf)×Bool)):=
 .n1 (nilN 9 1 (by decide))<|
 .op1 (zVL script1 2000 60) fun y2=>
 .op1 (zZ8) fun y3=>
 .cond (!y2.2) (.n1 (nilN 9 1 (by decide))<|
 .late (zYa 128 2)<|.late (zYa 128 3)<|.late (z60 128)<|.ret ((((y3.1.1,y3.1.2.1,([]:List τF)),([]:List τS)),([]:List qf),false)))<|.n1 (nilN 9 1 (by decide))<|
 .n0 (lenM ct9 y2.1)<|
 .hint (zYa 128 2)<|.hint (nilH 90003 53 3)<|.loop (fun n X_1=>zCk y2 n X_1.1 X_1.2.1 X_1.2.2.1 X_1.2.2.2.1 X_1.2.2.2.2.1 X_1.2.2.2.2.2) ((0,([]:List τS),([]:List qf),y3.1.1,y3.1.2.1,([]:List τF))) (mb 35 7340416) [90003,64,128] (fun s X_1 γ=>s.pc (mb 35 7340416) [90003,64,128] [(22,I X_1.1)] [(90003,.qarr (γ 90003) 53 3 (X_1.2.1.map c53)),(64,.arr 9 1 (X_1.2.2.1.map c9)),(128,.box [Ti X_1.2.2.2.1,.v (.string X_1.2.2.2.2.1),.sl (X_1.2.2.2.2.2.map c42),.v (zF (γ 90003))])]) (fun X_1=>
 .cond (ltI X_1.1 ((y2.1.length:Int))) (.op0 (idxM ct9 y2.1 X_1.1) fun e14=>
 .opx (zN3 (((X_1.2.2.2.1,X_1.2.2.2.2.1,X_1.2.2.2.2.2),X_1.2.1)) e14) fun y15=>.n1 bsl<|.opx (app ct9 X_1.2.2.1 ([y15.1])) fun u16=>
 .frc (w64 (X_1.1+1)) fun t17=>.ret (.inl ((t17,y15.2.2,X_1.2.2.1++([y15.1]),y15.2.1.1,y15.2.1.2.1,y15.2.1.2.2))))<|.ret (.inr ((X_1.2.1,X_1.2.2.1,X_1.2.2.2.1,X_1.2.2.2.2.1,X_1.2.2.2.2.2)))) (mb 35 384) [90003,64,128] (fun s o12 γ=>s.pc (mb 35 384) [90003,64,128] [] [(90003,.qarr (γ 90003) 53 3 (o12.1.map c53)),(64,.arr 9 1 (o12.2.1.map c9)),(128,.box [Ti o12.2.2.1,.v (.string o12.2.2.2.1),.sl (o12.2.2.2.2.map c42),.v (zF (γ 90003))])]) fun o12=>
 .late (z3a 90003 128 3)<|.late (z60 128)<|.ret (((o12.2.2,o12.1),o12.2.1,true))
theorem zYG{script1:qf}{r:((τS×(List τS))×(List qf)×Bool)}(h:zCF script1=some r):zC qh 32 [.c (.v (.string script1))] (.tc (.pe [Ti r.1.1.1,.v (.string r.1.1.2.1),.sl (r.1.1.2.2.map c42),.sl (r.1.2.map c53)]) (.tc (.ow 1) (.tc (Bo r.2.2) .tn))) [(1,.arr 9 1 (r.2.1.map c9))]:=CtT (zXi script1) (fun r=>(.tc (.pe [Ti r.1.1.1,.v (.string r.1.1.2.1),.sl (r.1.1.2.2.map c42),.sl (r.1.2.map c53)]) (.tc (.ow 1) (.tc (Bo r.2.2) .tn)),[(1,.arr 9 1 (r.2.1.map c9))])) (rs:=[.t 2,.t 3,.t 4]) (vs:=[.tmp 2,.tmp 3,.tmp 4]) Tryz.func32 rfl rfl (.cons rfl (.cons rfl (.cons rfl FitsL.nil))) h
def zGx(script1:qf):=fC zWX (zCF script1) fun _=>zYG
theorem zKX:CfW qh 9:=cfW Tryz.func9
noncomputable def zLP(script1:qf):T qh (((List τF)×Bool)):=
 .n1 (nilN 42 3 (by decide))<|
 .op1 (zGx script1) fun y2=>
 .n1 bsl0<|.n0 au<|.opx (app ct42 (([]:List τF)) y2.1.1.2.2) fun u3=>
 .ret (((([]:List τF))++y2.1.1.2.2,y2.2.2))
theorem zL5{script1:qf}{r:((List τF)×Bool)}(h:zCb script1=some r):zC qh 9 [.c (.v (.string script1))] (.tc (.ow 0) (.tc (Bo r.2) .tn)) [(0,.arr 42 3 (r.1.map c42))]:=CtT (zLP script1) (fun r=>(.tc (.ow 0) (.tc (Bo r.2) .tn),[(0,.arr 42 3 (r.1.map c42))])) (rs:=[.t 2,.t 3]) (vs:=[.tmp 2,.tmp 3]) Tryz.func9 rfl rfl (.cons rfl (.cons rfl FitsL.nil)) h
def zMA(script1:qf):=fC zKX (zCb script1) fun _=>zL5
theorem zFW:CfW qh 111:=cfW Tryz.func111
noncomputable def zFZ(vs1:qf)(suffix2:qf):T qh Bool:=
 .pl<|.joinC (.seqT (.cond (leI ((suffix2.size:Int)) ((vs1.size:Int))) (.op0 (zEJ vs1 (w64 (((vs1.size:Int)) - ((suffix2.size:Int)))) ((vs1.size:Int))) fun u4=>.ret ((vs1.extract (Int.toNat (w64 (((vs1.size:Int)) - ((suffix2.size:Int))))) (Int.toNat ((vs1.size:Int)))).toList==suffix2.toList)) (.ret false)) fun b5=>.ret b5) (mb 21 16) [] (fun s q_1 γ=>s.pc (mb 21 16) [] [(4,Bo q_1)] []) fun q_1=>
 .ret q_1
theorem zF1{vs1:qf}{suffix2:qf}{r:Bool}(h:qO vs1 suffix2=some r):zC qh 111 [.c (.v (.string vs1)),.c (.v (.string suffix2))] (Bo r) []:=CtU (zFZ vs1 suffix2) 4 (fun r=>Bo r) Tryz.func111 rfl rfl h
def zDY(vs1:qf)(suffix2:qf):=fC zFW (qO vs1 suffix2) fun _=>zF1
theorem zFJ:CfW qh 110:=cfW Tryz.func110
noncomputable def zFU(vs1:qf)(suffix2:qf):T qh qf:=
 .op1 (zDY vs1 suffix2) fun y3=>
 .cond y3 (.op0 (zEJ vs1 0 (w64 (((vs1.size:Int)) - ((suffix2.size:Int))))) fun u5=>
 .ret (vs1.extract (Int.toNat 0) (Int.toNat (w64 (((vs1.size:Int)) - ((suffix2.size:Int)))))))<|
 .ret vs1
theorem zFV{vs1:qf}{suffix2:qf}{r:qf}(h:jP vs1 suffix2=some r):zC qh 110 [.c (.v (.string vs1)),.c (.v (.string suffix2))] (.c (.v (.string r))) []:=CtU (zFU vs1 suffix2) 4 (fun r=>.c (.v (.string r))) Tryz.func110 rfl rfl h
def zFX(vs1:qf)(suffix2:qf):=fC zFJ (jP vs1 suffix2) fun _=>zFV
theorem zJV:CfW qh 77:=cfW Tryz.func77
noncomputable def zJ6(vs1:qf)(suffix2:qf):T qh qf:=
 .op1 (zFX vs1 suffix2) fun y3=>
 .ret y3
theorem zJl{vs1:qf}{suffix2:qf}{r:qf}(h:zCL vs1 suffix2=some r):zC qh 77 [.c (.v (.string vs1)),.c (.v (.string suffix2))] (.c (.v (.string r))) []:=CtU (zJ6 vs1 suffix2) 4 (fun r=>.c (.v (.string r))) Tryz.func77 rfl rfl h
def zKc(vs1:qf)(suffix2:qf):=fC zJV (zCL vs1 suffix2) fun _=>zJl
theorem zKQ:CfW qh 78:=cfW Tryz.func78
noncomputable def zLI(vs1:qf)(suffix2:qf):T qh Bool:=
 .op1 (zDY vs1 suffix2) fun y3=>
 .ret y3
theorem zLY{vs1:qf}{suffix2:qf}{r:Bool}(h:zC6 vs1 suffix2=some r):zC qh 78 [.c (.v (.string vs1)),.c (.v (.string suffix2))] (Bo r) []:=CtU (zLI vs1 suffix2) 4 (fun r=>Bo r) Tryz.func78 rfl rfl h
def zLz(vs1:qf)(suffix2:qf):=fC zKQ (zC6 vs1 suffix2) fun _=>zLY
theorem zRx:CfW qh 49:=cfW Tryz.func49
noncomputable def zTE(vs1:qf):T qh (((List qf)×Bool)):=
 .n1 (nilN 9 1 (by decide))<|
 .cond (vs1.toList==((⟨#[]⟩:qf)).toList) (.n1 bsl0<|
 .ret ((([]:List qf),true)))<|.op1 (zKc vs1 ((⟨#[10]⟩:qf))) fun y3=>.op1 (zSH y3 ((⟨#[10]⟩:qf))) fun y4=>.op1 (zLz vs1 ((⟨#[10]⟩:qf))) fun y5=>
 .ret ((y4,y5))
theorem zT9{vs1:qf}{r:((List qf)×Bool)}(h:zDA vs1=some r):zC qh 49 [.c (.v (.string vs1))] (.tc (.ow 0) (.tc (Bo r.2) .tn)) [(0,.arr 9 1 (r.1.map c9))]:=CtT (zTE vs1) (fun r=>(.tc (.ow 0) (.tc (Bo r.2) .tn),[(0,.arr 9 1 (r.1.map c9))])) (rs:=[.t 2,.t 3]) (vs:=[.tmp 2,.tmp 3]) Tryz.func49 rfl rfl (.cons rfl (.cons rfl FitsL.nil)) h
def zVV(vs1:qf):=fC zRx (zDA vs1) fun _=>zT9
theorem zOp:∀args w,(callFunc 112 args).run qh w=.ok (.enter 112 args) w:=qW Tryz.func112 kk kk
set_option maxRecDepth 100000 in
set_option maxHeartbeats 400000 in
theorem zPk{word1:qf}{r:(qf×Bool)}(h:zCo word1=some r):zC qh 112 [.c (.v (.string word1))] (.tc (.c (.v (.string r.1))) (.tc (Bo r.2) .tn)) []:=by
  refine zAl (rs:=[.t 2,.t 3]) (vs:=[.tmp 2,.tmp 3]) Tryz.func112 rfl rfl (.cons rfl (.cons rfl FitsL.nil)) (by decide) 17 rfl ?_
  unfold zCo at h;show V _ _ ⟨.c (.v (.string word1))::bt 16 [],[]⟩ _;refine jI (mb 17 1) [] (s1:=⟨.c (.v (.string word1))::bt 16 [],[]⟩) ?_ ?_
  ·refine L0 rfl rfl (zG (.c (.v (.string ((⟨#[]⟩:qf))))) rfl kk) ?_
   refine L0 rfl rfl (zG (Bo false) rfl kk) ?_
   refine zJ ?_
   kernel_rfl
  obtain⟨l2,hl2,h⟩:=zT h;have hl2:=zZ hl2;refine z3z (fun mb7=>⟨.c (.v (.string word1))::bt 3 (.c (.v (.map (some mb7)))::bt 12 []),[(56,.mp mb7 (l2.map kv156))]⟩) (mb 17 17) [56] ?_ ?_
  ·refine z1I rfl rfl rfl fun mb7=>?_
   refine zW rfl (zFK (κ:=qf) (ν:=qf) (ek:=zEw) (ev:=zGT) (z:=qg) (m:=([]:List (qf×qf))) (a:=(⟨#[100,105,115,99]⟩:qf)) (u:=(⟨#[110]⟩:qf)) (id:=56) (b:=mb7) zHU (.inr rfl) rfl kk kk kk kk) ?_
   refine zW rfl (zFK (κ:=qf) (ν:=qf) (ek:=zEw) (ev:=zGT) (z:=qg) (m:=mPut ((⟨#[100,105,115,99]⟩:qf)) ((⟨#[110]⟩:qf)) (([]:List (qf×qf)))) (a:=(⟨#[115,101,116]⟩:qf)) (u:=(⟨#[65,102]⟩:qf)) (id:=56) (b:=mb7) zHU (.inr rfl) rfl kk kk kk kk) ?_
   refine zW rfl (zFK (κ:=qf) (ν:=qf) (ek:=zEw) (ev:=zGT) (z:=qg) (m:=mPut ((⟨#[115,101,116]⟩:qf)) ((⟨#[65,102]⟩:qf)) (mPut ((⟨#[100,105,115,99]⟩:qf)) ((⟨#[110]⟩:qf)) (([]:List (qf×qf))))) (a:=(⟨#[112,114,105,109,101]⟩:qf)) (u:=(⟨#[65,110]⟩:qf)) (id:=56) (b:=mb7) zHU (.inr rfl) rfl kk kk kk kk) ?_
   refine zW rfl (zFK (κ:=qf) (ν:=qf) (ek:=zEw) (ev:=zGT) (z:=qg) (m:=mPut ((⟨#[112,114,105,109,101]⟩:qf)) ((⟨#[65,110]⟩:qf)) (mPut ((⟨#[115,101,116]⟩:qf)) ((⟨#[65,102]⟩:qf)) (mPut ((⟨#[100,105,115,99]⟩:qf)) ((⟨#[110]⟩:qf)) (([]:List (qf×qf)))))) (a:=(⟨#[109,117,108]⟩:qf)) (u:=(⟨#[65,65,65]⟩:qf)) (id:=56) (b:=mb7) zHU (.inr rfl) rfl kk kk kk kk) ?_
   refine zW rfl (zFK (κ:=qf) (ν:=qf) (ek:=zEw) (ev:=zGT) (z:=qg) (m:=mPut ((⟨#[109,117,108]⟩:qf)) ((⟨#[65,65,65]⟩:qf)) (mPut ((⟨#[112,114,105,109,101]⟩:qf)) ((⟨#[65,110]⟩:qf)) (mPut ((⟨#[115,101,116]⟩:qf)) ((⟨#[65,102]⟩:qf)) (mPut ((⟨#[100,105,115,99]⟩:qf)) ((⟨#[110]⟩:qf)) (([]:List (qf×qf))))))) (a:=(⟨#[112,111,119]⟩:qf)) (u:=(⟨#[65,65,110]⟩:qf)) (id:=56) (b:=mb7) zHU (.inr rfl) rfl kk kk kk kk) ?_
   refine zW rfl (zFK (κ:=qf) (ν:=qf) (ek:=zEw) (ev:=zGT) (z:=qg) (m:=mPut ((⟨#[112,111,119]⟩:qf)) ((⟨#[65,65,110]⟩:qf)) (mPut ((⟨#[109,117,108]⟩:qf)) ((⟨#[65,65,65]⟩:qf)) (mPut ((⟨#[112,114,105,109,101]⟩:qf)) ((⟨#[65,110]⟩:qf)) (mPut ((⟨#[115,101,116]⟩:qf)) ((⟨#[65,102]⟩:qf)) (mPut ((⟨#[100,105,115,99]⟩:qf)) ((⟨#[110]⟩:qf)) (([]:List (qf×qf)))))))) (a:=(⟨#[102,114,101,101]⟩:qf)) (u:=(⟨#[65]⟩:qf)) (id:=56) (b:=mb7) zHU (.inr rfl) rfl kk kk kk kk) ?_
   refine zW rfl (zFK (κ:=qf) (ν:=qf) (ek:=zEw) (ev:=zGT) (z:=qg) (m:=mPut ((⟨#[102,114,101,101]⟩:qf)) ((⟨#[65]⟩:qf)) (mPut ((⟨#[112,111,119]⟩:qf)) ((⟨#[65,65,110]⟩:qf)) (mPut ((⟨#[109,117,108]⟩:qf)) ((⟨#[65,65,65]⟩:qf)) (mPut ((⟨#[112,114,105,109,101]⟩:qf)) ((⟨#[65,110]⟩:qf)) (mPut ((⟨#[115,101,116]⟩:qf)) ((⟨#[65,102]⟩:qf)) (mPut ((⟨#[100,105,115,99]⟩:qf)) ((⟨#[110]⟩:qf)) (([]:List (qf×qf))))))))) (a:=(⟨#[115,104,111,119]⟩:qf)) (u:=(⟨#[65]⟩:qf)) (id:=56) (b:=mb7) zHU (.inr rfl) rfl kk kk kk kk) ?_
   refine zW rfl (zFK (κ:=qf) (ν:=qf) (ek:=zEw) (ev:=zGT) (z:=qg) (m:=mPut ((⟨#[115,104,111,119]⟩:qf)) ((⟨#[65]⟩:qf)) (mPut ((⟨#[102,114,101,101]⟩:qf)) ((⟨#[65]⟩:qf)) (mPut ((⟨#[112,111,119]⟩:qf)) ((⟨#[65,65,110]⟩:qf)) (mPut ((⟨#[109,117,108]⟩:qf)) ((⟨#[65,65,65]⟩:qf)) (mPut ((⟨#[112,114,105,109,101]⟩:qf)) ((⟨#[65,110]⟩:qf)) (mPut ((⟨#[115,101,116]⟩:qf)) ((⟨#[65,102]⟩:qf)) (mPut ((⟨#[100,105,115,99]⟩:qf)) ((⟨#[110]⟩:qf)) (([]:List (qf×qf)))))))))) (a:=(⟨#[105,110,100,101,120]⟩:qf)) (u:=(⟨#[65]⟩:qf)) (id:=56) (b:=mb7) zHU (.inr rfl) rfl kk kk kk kk) ?_
   refine zW rfl (zFK (κ:=qf) (ν:=qf) (ek:=zEw) (ev:=zGT) (z:=qg) (m:=mPut ((⟨#[105,110,100,101,120]⟩:qf)) ((⟨#[65]⟩:qf)) (mPut ((⟨#[115,104,111,119]⟩:qf)) ((⟨#[65]⟩:qf)) (mPut ((⟨#[102,114,101,101]⟩:qf)) ((⟨#[65]⟩:qf)) (mPut ((⟨#[112,111,119]⟩:qf)) ((⟨#[65,65,110]⟩:qf)) (mPut ((⟨#[109,117,108]⟩:qf)) ((⟨#[65,65,65]⟩:qf)) (mPut ((⟨#[112,114,105,109,101]⟩:qf)) ((⟨#[65,110]⟩:qf)) (mPut ((⟨#[115,101,116]⟩:qf)) ((⟨#[65,102]⟩:qf)) (mPut ((⟨#[100,105,115,99]⟩:qf)) ((⟨#[110]⟩:qf)) (([]:List (qf×qf))))))))))) (a:=(⟨#[111,114,100,101,114]⟩:qf)) (u:=(⟨#[65]⟩:qf)) (id:=56) (b:=mb7) zHU (.inr rfl) rfl kk kk kk kk) ?_
   refine zW rfl (zFK (κ:=qf) (ν:=qf) (ek:=zEw) (ev:=zGT) (z:=qg) (m:=mPut ((⟨#[111,114,100,101,114]⟩:qf)) ((⟨#[65]⟩:qf)) (mPut ((⟨#[105,110,100,101,120]⟩:qf)) ((⟨#[65]⟩:qf)) (mPut ((⟨#[115,104,111,119]⟩:qf)) ((⟨#[65]⟩:qf)) (mPut ((⟨#[102,114,101,101]⟩:qf)) ((⟨#[65]⟩:qf)) (mPut ((⟨#[112,111,119]⟩:qf)) ((⟨#[65,65,110]⟩:qf)) (mPut ((⟨#[109,117,108]⟩:qf)) ((⟨#[65,65,65]⟩:qf)) (mPut ((⟨#[112,114,105,109,101]⟩:qf)) ((⟨#[65,110]⟩:qf)) (mPut ((⟨#[115,101,116]⟩:qf)) ((⟨#[65,102]⟩:qf)) (mPut ((⟨#[100,105,115,99]⟩:qf)) ((⟨#[110]⟩:qf)) (([]:List (qf×qf)))))))))))) (a:=(⟨#[103,101,110,117,115]⟩:qf)) (u:=(⟨#[65]⟩:qf)) (id:=56) (b:=mb7) zHU (.inr rfl) rfl kk kk kk kk) ?_
   refine zW rfl (zFK (κ:=qf) (ν:=qf) (ek:=zEw) (ev:=zGT) (z:=qg) (m:=mPut ((⟨#[103,101,110,117,115]⟩:qf)) ((⟨#[65]⟩:qf)) (mPut ((⟨#[111,114,100,101,114]⟩:qf)) ((⟨#[65]⟩:qf)) (mPut ((⟨#[105,110,100,101,120]⟩:qf)) ((⟨#[65]⟩:qf)) (mPut ((⟨#[115,104,111,119]⟩:qf)) ((⟨#[65]⟩:qf)) (mPut ((⟨#[102,114,101,101]⟩:qf)) ((⟨#[65]⟩:qf)) (mPut ((⟨#[112,111,119]⟩:qf)) ((⟨#[65,65,110]⟩:qf)) (mPut ((⟨#[109,117,108]⟩:qf)) ((⟨#[65,65,65]⟩:qf)) (mPut ((⟨#[112,114,105,109,101]⟩:qf)) ((⟨#[65,110]⟩:qf)) (mPut ((⟨#[115,101,116]⟩:qf)) ((⟨#[65,102]⟩:qf)) (mPut ((⟨#[100,105,115,99]⟩:qf)) ((⟨#[110]⟩:qf)) (([]:List (qf×qf))))))))))))) (a:=(⟨#[118,97,108,117,101]⟩:qf)) (u:=(⟨#[65,110]⟩:qf)) (id:=56) (b:=mb7) zHU (.inr rfl) rfl kk kk kk kk) ?_
   refine zW rfl (zFK (κ:=qf) (ν:=qf) (ek:=zEw) (ev:=zGT) (z:=qg) (m:=mPut ((⟨#[118,97,108,117,101]⟩:qf)) ((⟨#[65,110]⟩:qf)) (mPut ((⟨#[103,101,110,117,115]⟩:qf)) ((⟨#[65]⟩:qf)) (mPut ((⟨#[111,114,100,101,114]⟩:qf)) ((⟨#[65]⟩:qf)) (mPut ((⟨#[105,110,100,101,120]⟩:qf)) ((⟨#[65]⟩:qf)) (mPut ((⟨#[115,104,111,119]⟩:qf)) ((⟨#[65]⟩:qf)) (mPut ((⟨#[102,114,101,101]⟩:qf)) ((⟨#[65]⟩:qf)) (mPut ((⟨#[112,111,119]⟩:qf)) ((⟨#[65,65,110]⟩:qf)) (mPut ((⟨#[109,117,108]⟩:qf)) ((⟨#[65,65,65]⟩:qf)) (mPut ((⟨#[112,114,105,109,101]⟩:qf)) ((⟨#[65,110]⟩:qf)) (mPut ((⟨#[115,101,116]⟩:qf)) ((⟨#[65,102]⟩:qf)) (mPut ((⟨#[100,105,115,99]⟩:qf)) ((⟨#[110]⟩:qf)) (([]:List (qf×qf)))))))))))))) (a:=(⟨#[115,97,109,101]⟩:qf)) (u:=(⟨#[65,65]⟩:qf)) (id:=56) (b:=mb7) zHU (.inr rfl) rfl kk kk kk kk) ?_
   refine zW rfl (zFK (κ:=qf) (ν:=qf) (ek:=zEw) (ev:=zGT) (z:=qg) (m:=mPut ((⟨#[115,97,109,101]⟩:qf)) ((⟨#[65,65]⟩:qf)) (mPut ((⟨#[118,97,108,117,101]⟩:qf)) ((⟨#[65,110]⟩:qf)) (mPut ((⟨#[103,101,110,117,115]⟩:qf)) ((⟨#[65]⟩:qf)) (mPut ((⟨#[111,114,100,101,114]⟩:qf)) ((⟨#[65]⟩:qf)) (mPut ((⟨#[105,110,100,101,120]⟩:qf)) ((⟨#[65]⟩:qf)) (mPut ((⟨#[115,104,111,119]⟩:qf)) ((⟨#[65]⟩:qf)) (mPut ((⟨#[102,114,101,101]⟩:qf)) ((⟨#[65]⟩:qf)) (mPut ((⟨#[112,111,119]⟩:qf)) ((⟨#[65,65,110]⟩:qf)) (mPut ((⟨#[109,117,108]⟩:qf)) ((⟨#[65,65,65]⟩:qf)) (mPut ((⟨#[112,114,105,109,101]⟩:qf)) ((⟨#[65,110]⟩:qf)) (mPut ((⟨#[115,101,116]⟩:qf)) ((⟨#[65,102]⟩:qf)) (mPut ((⟨#[100,105,115,99]⟩:qf)) ((⟨#[110]⟩:qf)) (([]:List (qf×qf))))))))))))))) (a:=(⟨#[110,97,109,101,115]⟩:qf)) (u:=(⟨#[]⟩:qf)) (id:=56) (b:=mb7) zHU (.inr rfl) rfl kk kk kk kk) ?_
   refine zW rfl (zFK (κ:=qf) (ν:=qf) (ek:=zEw) (ev:=zGT) (z:=qg) (m:=mPut ((⟨#[110,97,109,101,115]⟩:qf)) ((⟨#[]⟩:qf)) (mPut ((⟨#[115,97,109,101]⟩:qf)) ((⟨#[65,65]⟩:qf)) (mPut ((⟨#[118,97,108,117,101]⟩:qf)) ((⟨#[65,110]⟩:qf)) (mPut ((⟨#[103,101,110,117,115]⟩:qf)) ((⟨#[65]⟩:qf)) (mPut ((⟨#[111,114,100,101,114]⟩:qf)) ((⟨#[65]⟩:qf)) (mPut ((⟨#[105,110,100,101,120]⟩:qf)) ((⟨#[65]⟩:qf)) (mPut ((⟨#[115,104,111,119]⟩:qf)) ((⟨#[65]⟩:qf)) (mPut ((⟨#[102,114,101,101]⟩:qf)) ((⟨#[65]⟩:qf)) (mPut ((⟨#[112,111,119]⟩:qf)) ((⟨#[65,65,110]⟩:qf)) (mPut ((⟨#[109,117,108]⟩:qf)) ((⟨#[65,65,65]⟩:qf)) (mPut ((⟨#[112,114,105,109,101]⟩:qf)) ((⟨#[65,110]⟩:qf)) (mPut ((⟨#[115,101,116]⟩:qf)) ((⟨#[65,102]⟩:qf)) (mPut ((⟨#[100,105,115,99]⟩:qf)) ((⟨#[110]⟩:qf)) (([]:List (qf×qf)))))))))))))))) (a:=(⟨#[117,110,100,111]⟩:qf)) (u:=(⟨#[]⟩:qf)) (id:=56) (b:=mb7) zHU (.inr rfl) rfl kk kk kk kk) ?_
   refine L0 rfl rfl (zK (.c (.v (.map (some mb7)))) rfl kk) ?_
   refine L0 rfl rfl (zG (.c (.v (.map (some mb7)))) rfl kk) ?_
   refine zJ ?_
   subst hl2;exact⟨mb7,by kernel_rfl⟩
  intro mb7;refine jI (mb 17 96) [] (s1:=⟨bt 5 (.c (.v (.string (mAt word1 l2 qg)))::Bo (mHas word1 l2)::bt 10 []),[]⟩) ?_ ?_
  ·refine L0 rfl rfl (zK (.c (.v (.map (some mb7)))) rfl kk) ?_
   refine L0 rfl rfl (zK (.c (.v (.string word1))) rfl kk) ?_
   refine L0 rfl rfl (z4h (κ:=qf) (ν:=qf) (ek:=zEw) (ev:=zGT) (z:=qg) (m:=l2) (a:=word1) (id:=56) (b:=mb7) zHU rfl kk kk kk) ?_
   refine L0 rfl rfl (zK (.tc (.c (.v (.string (mAt word1 l2 qg)))) (.tc (Bo (mHas word1 l2)) .tn)) rfl kk) ?_
   refine L0 rfl rfl (zH6 (n:=0) (.c (.v (.string (mAt word1 l2 qg)))) (.tc (Bo (mHas word1 l2)) .tn) (.c (.v (.string (mAt word1 l2 qg)))) rfl kk kk (by intro hh;cases hh)) ?_
   refine L0 rfl rfl (zH6 (n:=1) (.c (.v (.string (mAt word1 l2 qg)))) (.tc (Bo (mHas word1 l2)) .tn) (Bo (mHas word1 l2)) rfl kk kk (by intro hh;cases hh)) ?_
   refine L0 rfl rfl (zG (.c (.v (.string (mAt word1 l2 qg)))) rfl kk) ?_
   refine L0 rfl rfl (zG (Bo (mHas word1 l2)) rfl kk) ?_
   refine zJ ?_
   kernel_rfl
  refine jI (mb 17 12) [] (s1:=⟨.bot::.bot::.c (.v (.string (mAt word1 l2 qg)))::Bo (mHas word1 l2)::bt 13 [],[]⟩) ?_ ?_
  ·refine L0 rfl rfl (zK (.c (.v (.string (mAt word1 l2 qg)))) rfl kk) ?_
   refine L0 rfl rfl (zK (Bo (mHas word1 l2)) rfl kk) ?_
   refine L0 rfl rfl (zG (.c (.v (.string (mAt word1 l2 qg)))) rfl kk) ?_
   refine L0 rfl rfl (zG (Bo (mHas word1 l2)) rfl kk) ?_
   refine zJ ?_
   kernel_rfl
  refine zEh ?_
  obtain rfl:=zZ h;show Post _ _ _ _ _;exact⟨.inr rfl,rfl,rfl,rfl⟩
theorem zUn:CfW qh 113:=cfW Tryz.func113
noncomputable def zVn(w1:qf):T qh ((Int×Bool)):=
 .pl<|.dn<|.joinC (.seqT (.cond (!eqI ((w1.size:Int)) 1) (.ret true) (.op0 (idxs w1 0) fun e3=>.ret (ltI e3 97))) fun b4=>.seqT (.cond b4 (.ret true) (.op0 (idxs w1 0) fun e6=>.ret (ltI 122 e6))) fun b7=>.ret (b4,b7)) (mb 21 65537) [] (fun s q_1 γ=>s.pc (mb 21 65537) [] [(16,Bo q_1.2)] []) fun q_1=>
 .cond q_1.2 (
 .ret ((0,false)))<|.op0 (idxs w1 0) fun e9=>.n0 au<|.n0 au<|
 .frc (IntKind.i64.wrap (IntKind.u8.wrap (e9 - 97))) fun t10=>.ret ((t10,true))
theorem zWL{w1:qf}{r:(Int×Bool)}(h:zD2 w1=some r):zC qh 113 [.c (.v (.string w1))] (.tc (I r.1) (.tc (Bo r.2) .tn)) []:=CtT (zVn w1) (fun r=>(.tc (I r.1) (.tc (Bo r.2) .tn),[])) (rs:=[.t 2,.t 3]) (vs:=[.tmp 2,.tmp 3]) Tryz.func113 rfl rfl (.cons rfl (.cons rfl FitsL.nil)) h
theorem zNR:∀args w,(callFunc 158 args).run qh w=.ok (.enter 158 args) w:=qW Tryz.func158 kk kk
set_option maxRecDepth 100000 in
set_option maxHeartbeats 400000 in
theorem zOR{vs1:qf}{r:List Int}(h:zBB vs1=some r):zC qh 158 [.c (.v (.string vs1))] (.ow 0) [(0,.arr 3 1 (r.map c3))]:=by
  refine zAl (rs:=[.t 2]) (vs:=[.tmp 2]) Tryz.func158 rfl rfl (.cons rfl FitsL.nil) (by decide) 30 rfl ?_
  unfold zBB at h;show V _ _ ⟨.c (.v (.string vs1))::bt 29 [],[]⟩ _;refine jI (mb 30 1) [] (s1:=⟨.c (.v (.string vs1))::bt 29 [],[]⟩) ?_ ?_
  ·refine L1 rfl rfl (z2a (e:=3) 1 (by decide) (.inl rfl)) ?_
   refine zJ ?_
   kernel_rfl
  refine jI (mb 30 9) [64] (s1:=⟨.c (.v (.string vs1))::.bot::.bot::.ow 64::bt 26 [],[(64,.arr 3 1 ((([]:List Int)).map c3))]⟩) ?_ ?_
  ·refine L1 rfl rfl (zN0 Tryz.underlying37 sz3 (by decide) rfl rfl) ?_
   refine L0 rfl rfl (zG (.ow 64) rfl kk) ?_
   refine zJ ?_
   kernel_rfl
  refine zD7 ?_
  obtain⟨y2,hy2,h⟩:=zT h;refine jI (mb 30 7176) [80,64] (s1:=⟨bt 3 (.ow 64::bt 6 (.ow 80::I ((y2.length:Int))::I 0::bt 17 [])),[(80,.arr 9 1 (y2.map c9)),(64,.arr 3 1 ((([]:List Int)).map c3))]⟩) ?_ ?_
  ·refine L0 rfl rfl (zK (.c (.v (.string vs1))) rfl kk) ?_
   refine L1 rfl rfl (zC2 (zIC hy2) zJW rfl kk) ?_
   refine L0 rfl rfl (zLH (c:=c9) (xs:=y2) Tryz.underlying49 rfl kk) ?_
   refine L0 rfl rfl (zK (I 0) rfl kk) ?_
   refine zJ ?_
   kernel_rfl
  obtain⟨qo6,hLo6,hko6⟩:=zT h;refine V_toS (q:=qo6) (S:=fun o6=>⟨bt 3 (.ow 64::bt 26 []),[(64,.arr 3 1 (o6.map c3))]⟩) (mb 30 8) [64] ?_ ?_
  ·refine zEc (zVB (fun n s=>∃(t3:Int) (l4:List Int),s.keep (mb 30 7176) [80,64]=(⟨bt 3 (.ow 64::bt 6 (.ow 80::I ((y2.length:Int))::I t3::bt 17 [])),[(80,.arr 9 1 (y2.map c9)),(64,.arr 3 1 (l4.map c3))]⟩:St)∧qR y2 n t3 l4=some qo6) FU ⟨_,_,by rfl,hLo6⟩ ?_);clear hLo6;rintro n s ⟨t3,l4,hs,h⟩;refine zZ2 _ _ hs ?_
   clear hs;cases n with
   |zero=>cases h
   |succ n=>
    rw[qR]at h;refine jI (mb 30 15368) [80,64] (s1:=⟨bt 3 (.ow 64::bt 6 (.ow 80::I ((y2.length:Int))::I t3::Bo (ltI t3 ((y2.length:Int)))::bt 16 [])),[(80,.arr 9 1 (y2.map c9)),(64,.arr 3 1 (l4.map c3))]⟩) ?_ ?_
    ·refine L0 rfl rfl (zH2 (k:=.i64) (a:=t3) (b:=(y2.length:Int)) rfl kk kk) ?_
     refine zJ ?_
     kernel_rfl
    refine zD7 ?_
    refine zD4 rfl (fun hc7=>?_) (fun hc7=>?_)
    ·have h:=zCZ h hc7;refine zEl ?_
     show V _ _ _ _;refine zD7 ?_
     refine zEc ?_
     obtain⟨e8,he8,h⟩:=zT h;obtain⟨e9,he9,h⟩:=zT h;refine jI (mb 30 7208) [80,64] (s1:=⟨bt 3 (.ow 64::.bot::.c (.v (.string e9))::bt 4 (.ow 80::I ((y2.length:Int))::I t3::bt 17 [])),[(80,.arr 9 1 (y2.map c9)),(64,.arr 3 1 (l4.map c3))]⟩) ?_ ?_
     ·refine L0 rfl rfl (zUz (c:=c9) (xs:=y2) (v:=e8) (id:=80) (T:=9) (sz:=1) (n:=t3) Tryz.underlying49 sz9 rfl kk kk kk he8) ?_
      refine L0 rfl rfl (zQ8 (c:=c9) (xs:=y2) (v:=e9) (id:=80) (sz:=1) (T:=9) (off:=0) (n:=t3) (d:=.v (.string e9)) (ds:=[]) sc9 rfl kk kk he9 kk) ?_
      refine L0 rfl rfl (zG (.c (.v (.string e9))) rfl kk) ?_
      refine zJ ?_
      kernel_rfl
     obtain⟨y10,hy10,h⟩:=zT h;refine jI (mb 30 7368) [80,64] (s1:=⟨bt 3 (.ow 64::.bot::.bot::I y10.1::.er y10.2::.bot::.bot::.ow 80::I ((y2.length:Int))::I t3::bt 17 []),[(80,.arr 9 1 (y2.map c9)),(64,.arr 3 1 (l4.map c3))]⟩) ?_ ?_
     ·refine L0 rfl rfl (zK (.c (.v (.string e9))) rfl kk) ?_
      refine L1 rfl rfl (zC2 (zJm hy10) zJJ rfl kk) ?_
      refine L0 rfl rfl (zK (.tc (I y10.1) (.tc (.er y10.2) .tn)) rfl kk) ?_
      refine L0 rfl rfl (zH6 (n:=0) (I y10.1) (.tc (.er y10.2) .tn) (I y10.1) rfl kk kk (by intro hh;cases hh)) ?_
      refine L0 rfl rfl (zH6 (n:=1) (I y10.1) (.tc (.er y10.2) .tn) (.er y10.2) rfl kk kk (by intro hh;cases hh)) ?_
      refine L0 rfl rfl (zG (I y10.1) rfl kk) ?_
      refine L0 rfl rfl (zG (.er y10.2) rfl kk) ?_
      refine zJ ?_
      kernel_rfl
     refine zD7 ?_
     refine jI (mb 30 4201544) [80,64] (s1:=⟨bt 3 (.ow 64::.bot::.bot::I y10.1::bt 3 (.ow 80::I ((y2.length:Int))::I t3::bt 9 (Bo (!y10.2)::bt 7 []))),[(80,.arr 9 1 (y2.map c9)),(64,.arr 3 1 (l4.map c3))]⟩) ?_ ?_
     ·refine L0 rfl rfl (zK (.er y10.2) rfl kk) ?_
      refine L0 rfl rfl (z8s (b:=y10.2) Tryz.underlying78 rfl kk) ?_
      refine zJ ?_
      kernel_rfl
     refine zD4 rfl (fun hc11=>?_) (fun hc11=>?_)
     ·have h:=zCZ h hc11;refine jI (mb 30 4) [184] (s1:=⟨.bot::.bot::.ow 184::bt 27 [],[(184,.arr 3 1 ((([]:List Int)).map c3))]⟩) ?_ ?_
      ·refine L1 rfl rfl (zN0 Tryz.underlying37 sz3 (by decide) rfl rfl) ?_
       refine L0 rfl rfl (zG (.ow 184) rfl kk) ?_
       refine zJ ?_
       kernel_rfl
      refine zEh ?_
      obtain rfl:=zZ h;have h:=hko6;obtain rfl:=zZ h;show Post _ _ _ _ _;exact⟨.inr rfl,rfl,rfl,rfl⟩
     ·have h:=zB7 h hc11;refine zEl ?_
      show V _ _ _ _;obtain⟨u12,hu12,h⟩:=zT h;refine z1K (mb 30 7176) [80,64] (s1:=⟨bt 3 (.ow 64::bt 6 (.ow 80::I ((y2.length:Int))::I t3::bt 17 [])),[(80,.arr 9 1 (y2.map c9)),(64,.arr 3 1 ((l4++([y10.1])).map c3))]⟩) ?_ ?_
      ·refine L0 rfl rfl (zK (.ow 64) rfl kk) ?_
       refine L0 rfl rfl (zK (I y10.1) rfl kk) ?_
       refine L1 rfl rfl (zHH (z:=zv3) (els:=[y10.1].map c3) Tryz.underlying37 iz3 rfl (by decide) rfl kk rfl (by simp[c3]) (by decide) (by decide)) ?_
       refine zW rfl (zQa (c:=c3) (xs:=l4) (ys:=[y10.1]) (id:=64) (z:=zv3) rfl rfl Tryz.underlying37 izb3 rfl kk kk kk (fun _=>rfl) (by simp) (zKn hu12) (by decide)) ?_
       refine L0 rfl rfl (zG (.ow 64) rfl kk) ?_
       refine zJ ?_
       kernel_rfl
      show V _ _ _ _;obtain⟨t13,ht13,h⟩:=zQo h;refine z1K (mb 30 7176) [80,64] (s1:=⟨bt 3 (.ow 64::bt 6 (.ow 80::I ((y2.length:Int))::I t13::bt 17 [])),[(80,.arr 9 1 (y2.map c9)),(64,.arr 3 1 ((l4++([y10.1])).map c3))]⟩) ?_ ?_
      ·refine L0 rfl rfl (zFn (a:=t3) (b:=1) rfl kk kk) ?_
       refine L0 rfl rfl (zK (I (w64 (t3+1))) rfl kk) ?_
       refine zJ ?_
       subst ht13
       kernel_rfl
      exact⟨n,Nat.lt_succ_self n,_,_,by rfl,h⟩
    ·have h:=zB7 h hc7;refine zVC ?_
     obtain rfl:=zZ h;exact⟨_,rfl,by rfl⟩
  rintro o6 rfl;have h:=hko6;clear hko6;show V _ _ _ _;refine jI (mb 30 4) [64] (s1:=⟨.bot::.bot::.ow 64::bt 27 [],[(64,.arr 3 1 (o6.map c3))]⟩) ?_ ?_
  ·refine L0 rfl rfl (zK (.ow 64) rfl kk) ?_
   refine L0 rfl rfl (zG (.ow 64) rfl kk) ?_
   refine zJ ?_
   kernel_rfl
  refine zEh ?_
  obtain rfl:=zZ h;show Post _ _ _ _ _;exact⟨.inr rfl,rfl,rfl,rfl⟩
def zPH(vs1:qf):=fC zNR (zBB vs1) fun _=>zOR
theorem zHZ:CfW qh 60:=cfW Tryz.func60
noncomputable def zNt(list1:List Int):T qh Bool:=
 .n0 (lenM ct3 list1)<|
 .loopS (fun n X_34=>zCN list1 n X_34) 0 (mb 18 224) [] (fun s X_34 γ=>s.pc (mb 18 224) [] [(7,I X_34)] []) (fun X_34=>
 .cond (ltI X_34 ((list1.length:Int))) (.op0 (idxM ct3 list1 X_34) fun e6=>
 .joinC (.selB (ltI e6 (-1000000)) false [] fun w_32=>.ret w_32) (mb 18 65760) [] (fun s q_33 γ=>s.pc (mb 18 65760) [] [(16,Bo (bif q_33 then true else (ltI 1000000 e6)))] []) fun q_33=>
 .cond (bif q_33 then true else (ltI 1000000 e6)) (
 .ret (.early false))<|
 .frc (w64 (X_34+1)) fun t9=>.ret (.again t9))<|.ret (.done (()))) (mb 18 0) [] (fun s o4 γ=>s.pc (mb 18 0) [] [] []) (fun r=>r) fun o4=>
 .ret true
theorem zHd{list1:List Int}{r:Bool}(h:zBC list1=some r):zC qh 60 [.c (.sl (list1.map c3))] (Bo r) []:=CtU (zNt list1) 2 (fun r=>Bo r) Tryz.func60 rfl rfl h
def zHr(list1:List Int):=fCs zHZ (zBC list1) (fun _=>zHd) fun _=>rfl
theorem zUp:CfW qh 41:=cfW Tryz.func41
noncomputable def zVp(f1:τF):T qh Bool:=
 .n1 bsl<|.op1 (zHr ([f1.1,f1.2.1,f1.2.2])) fun y2=>
 .ret y2
theorem zWN{f1:τF}{r:Bool}(h:zCi f1=some r):zC qh 41 [.ag [Ti f1.1,Ti f1.2.1,Ti f1.2.2]] (Bo r) []:=CtU (zVp f1) 2 (fun r=>Bo r) Tryz.func41 rfl rfl h
def zIL(f1:τF):=fC zUp (zCi f1) fun _=>zWN
theorem zQY:CfW qh 121:=cfW Tryz.func121
noncomputable def zRQ(f1:τF):T qh qf:=
 .draw 16 []<|.op1 (zBP f1.1) fun y2=>.op0 (cat ((⟨#[40]⟩:qf)) y2) fun u3=>.op0 (cat (((⟨#[40]⟩:qf))++y2) ((⟨#[44]⟩:qf))) fun u4=>.op1 (zBP f1.2.1) fun y5=>.op0 (cat ((((⟨#[40]⟩:qf))++y2)++((⟨#[44]⟩:qf))) y5) fun u6=>.op0 (cat (((((⟨#[40]⟩:qf))++y2)++((⟨#[44]⟩:qf)))++y5) ((⟨#[44]⟩:qf))) fun u7=>.op1 (zBP f1.2.2) fun y8=>.op0 (cat ((((((⟨#[40]⟩:qf))++y2)++((⟨#[44]⟩:qf)))++y5)++((⟨#[44]⟩:qf))) y8) fun u9=>.op0 (cat (((((((⟨#[40]⟩:qf))++y2)++((⟨#[44]⟩:qf)))++y5)++((⟨#[44]⟩:qf)))++y8) ((⟨#[41]⟩:qf))) fun u10=>
 .ret ((((((((⟨#[40]⟩:qf))++y2)++((⟨#[44]⟩:qf)))++y5)++((⟨#[44]⟩:qf)))++y8)++((⟨#[41]⟩:qf)))
theorem zRb{f1:τF}{r:qf}(h:zAC f1=some r):zC qh 121 [.ag [Ti f1.1,Ti f1.2.1,Ti f1.2.2]] (.c (.v (.string r))) []:=CtU (zRQ f1) 2 (fun r=>.c (.v (.string r))) Tryz.func121 rfl rfl h
def zBo(f1:τF):=fC zQY (zAC f1) fun _=>zRb
theorem zOr:CfW qh 114:=cfW Tryz.func114
noncomputable def zP4(vs1:qf):T qh ((τF×Bool)):=
 .op1 (zPH vs1) fun y2=>
 .n0 (lenM ct3 y2)<|
 .cond (!eqI ((y2.length:Int)) 3) (.n0 (bld pl42 bt42)<|
 .ret (((0,0,0),false)))<|.draw 11 []<|.op0 (zBF ct3 y2 0) fun e4=>.op0 (ldo ct3 y2 0) fun e5=>.op0 (zBF ct3 y2 1) fun e6=>.op0 (ldo ct3 y2 1) fun e7=>.op0 (zBF ct3 y2 2) fun e8=>.op0 (ldo ct3 y2 2) fun e9=>.n0 (bld pl42 bt42)<|
 .dn<|.joinC (.op1 (zIL ((e5,e7,e9))) fun y10=>.seqT (.cond (!y10) (.ret true) (.op1 (zBo ((e5,e7,e9))) fun y12=>.ret (!(y12.toList==vs1.toList)))) fun b13=>.ret (y10,b13)) (mb 33 1073741860) [40,16] (fun s q_1 γ=>s.pc (mb 33 1073741860) [40,16] [(30,Bo q_1.2)] []) fun q_1=>
 .cond q_1.2 (.n0 (bld pl42 bt42)<|
 .ret (((0,0,0),false)))<|
 .ret (((e5,e7,e9),true))
theorem zPm{vs1:qf}{r:(τF×Bool)}(h:zCD vs1=some r):zC qh 114 [.c (.v (.string vs1))] (.tc (.ag [Ti r.1.1,Ti r.1.2.1,Ti r.1.2.2]) (.tc (Bo r.2) .tn)) []:=CtT (zP4 vs1) (fun r=>(.tc (.ag [Ti r.1.1,Ti r.1.2.1,Ti r.1.2.2]) (.tc (Bo r.2) .tn),[])) (rs:=[.w 2 3,.t 3]) (vs:=[.cell 2 42,.tmp 3]) Tryz.func114 rfl rfl (.cons ⟨rfl,wd42⟩ (.cons rfl FitsL.nil)) h
theorem zQW:∀args w,(callFunc 115 args).run qh w=.ok (.enter 115 args) w:=qW Tryz.func115 kk kk
set_option maxRecDepth 100000 in
set_option maxHeartbeats 400000 in
theorem zR9{w1:qf}{r:(Int×Bool)}(h:zDK w1=some r):zC qh 115 [.c (.v (.string w1))] (.tc (I r.1) (.tc (Bo r.2) .tn)) []:=by
  refine zAl (rs:=[.t 2,.t 3]) (vs:=[.tmp 2,.tmp 3]) Tryz.func115 rfl rfl (.cons rfl (.cons rfl FitsL.nil)) (by decide) 25 rfl ?_
  unfold zDK at h;show V _ _ ⟨.c (.v (.string w1))::bt 24 [],[]⟩ _;refine jI (mb 25 1) [] (s1:=⟨.c (.v (.string w1))::bt 24 [],[]⟩) ?_ ?_
  ·refine L0 rfl rfl (zG (I 0) rfl kk) ?_
   refine L0 rfl rfl (zG (Bo false) rfl kk) ?_
   refine zJ ?_
   kernel_rfl
  obtain⟨y2,hy2,h⟩:=zT h;refine jI (mb 25 49) [] (s1:=⟨.c (.v (.string w1))::bt 3 (I y2.1::.er y2.2::bt 19 []),[]⟩) ?_ ?_
  ·refine L0 rfl rfl (zK (.c (.v (.string w1))) rfl kk) ?_
   refine L1 rfl rfl (zC2 (zJm hy2) zJJ rfl kk) ?_
   refine L0 rfl rfl (zK (.tc (I y2.1) (.tc (.er y2.2) .tn)) rfl kk) ?_
   refine L0 rfl rfl (zH6 (n:=0) (I y2.1) (.tc (.er y2.2) .tn) (I y2.1) rfl kk kk (by intro hh;cases hh)) ?_
   refine L0 rfl rfl (zH6 (n:=1) (I y2.1) (.tc (.er y2.2) .tn) (.er y2.2) rfl kk kk (by intro hh;cases hh)) ?_
   refine L0 rfl rfl (zG (I y2.1) rfl kk) ?_
   refine L0 rfl rfl (zG (.er y2.2) rfl kk) ?_
   refine zJ ?_
   kernel_rfl
  obtain⟨b5,hb5,h⟩:=zT h;obtain⟨b8,hb8,h⟩:=zT h;refine jI (mb 25 12) [] (s1:=⟨.bot::.bot::I y2.1::Bo b8::bt 21 [],[]⟩) ?_ ?_
  ·refine L0 rfl rfl (zK (I y2.1) rfl kk) ?_
   refine L0 rfl rfl (zK (.er y2.2) rfl kk) ?_
   refine L0 rfl rfl (z8t (b:=y2.2) Tryz.underlying78 rfl kk) ?_
   refine L0 rfl rfl (zK (Bo y2.2) rfl kk) ?_
   refine zBa y2.2 (fun hc3=>?_) (fun hc3=>?_)
   ·have hb5:=zCZ hb5 hc3;obtain⟨y4,hy4,hb5⟩:=zT hb5;have hb5:=zZ hb5;refine zD _ rfl rfl kk hc3 (zB rfl (zK (I y2.1) rfl kk)) ?_
    refine zD _ rfl rfl kk hc3 (zE9 rfl (zHH (z:=zv3) (els:=[y2.1].map c3) Tryz.underlying37 iz3 rfl (by decide) rfl kk rfl (by simp[c3]) (by decide) (by decide))) ?_
    refine zD _ rfl rfl kk hc3 (zE9 rfl (z1E (zHd hy4) zHZ rfl kk rfl rfl)) ?_
    refine zW rfl (zB rfl (zLF (b:=y2.2) (p:=y4) rfl kk hc3 kk hb5)) ?_
    refine L0 rfl rfl (zK (Bo b5) rfl kk) ?_
    refine zBa b5 (fun hc6=>?_) (fun hc6=>?_)
    ·have hb8:=zCZ hb8 hc6;obtain⟨y7,hy7,hb8⟩:=zT hb8;have hb8:=zZ hb8;refine zD _ rfl rfl kk hc6 (zB rfl (zK (I y2.1) rfl kk)) ?_
     refine zD _ rfl rfl kk hc6 (zE9 rfl (zC2 (zHM hy7) zGe rfl kk)) ?_
     refine zD _ rfl rfl kk hc6 (zB rfl (zK (.c (.v (.string w1))) rfl kk)) ?_
     refine zD _ rfl rfl kk hc6 (zB rfl (z2f (a:=y7) (b:=w1) rfl kk kk)) ?_
     refine zW rfl (zB rfl (zLF (b:=b5) (p:=y7.toList==w1.toList) rfl kk hc6 kk hb8)) ?_
     refine L0 rfl rfl (zG (I y2.1) rfl kk) ?_
     refine L0 rfl rfl (zG (Bo b8) rfl kk) ?_
     refine zJ ?_
     kernel_rfl
    ·have hb8:=zZ (zB7 hb8 hc6);refine zY _ rfl rfl kk hc6 rfl ?_
     refine zY _ rfl rfl kk hc6 rfl ?_
     refine zY _ rfl rfl kk hc6 rfl ?_
     refine zY _ rfl rfl kk hc6 rfl ?_
     refine zW rfl (zB rfl (zLG (b:=b5) (p:=false) rfl kk hc6 kk hb8)) ?_
     refine L0 rfl rfl (zG (I y2.1) rfl kk) ?_
     refine L0 rfl rfl (zG (Bo b8) rfl kk) ?_
     refine zJ ?_
     kernel_rfl
   ·have hb5:=zZ (zB7 hb5 hc3);refine zY _ rfl rfl kk hc3 rfl ?_
    refine zY _ rfl rfl kk hc3 rfl ?_
    refine zY _ rfl rfl kk hc3 rfl ?_
    refine zW rfl (zB rfl (zLG (b:=y2.2) (p:=false) rfl kk hc3 kk hb5)) ?_
    refine L0 rfl rfl (zK (Bo b5) rfl kk) ?_
    refine zBa b5 (fun hc6=>?_) (fun hc6=>?_)
    ·have hb8:=zCZ hb8 hc6;obtain⟨y7,hy7,hb8⟩:=zT hb8;have hb8:=zZ hb8;refine zD _ rfl rfl kk hc6 (zB rfl (zK (I y2.1) rfl kk)) ?_
     refine zD _ rfl rfl kk hc6 (zE9 rfl (zC2 (zHM hy7) zGe rfl kk)) ?_
     refine zD _ rfl rfl kk hc6 (zB rfl (zK (.c (.v (.string w1))) rfl kk)) ?_
     refine zD _ rfl rfl kk hc6 (zB rfl (z2f (a:=y7) (b:=w1) rfl kk kk)) ?_
     refine zW rfl (zB rfl (zLF (b:=b5) (p:=y7.toList==w1.toList) rfl kk hc6 kk hb8)) ?_
     refine L0 rfl rfl (zG (I y2.1) rfl kk) ?_
     refine L0 rfl rfl (zG (Bo b8) rfl kk) ?_
     refine zJ ?_
     kernel_rfl
    ·have hb8:=zZ (zB7 hb8 hc6);refine zY _ rfl rfl kk hc6 rfl ?_
     refine zY _ rfl rfl kk hc6 rfl ?_
     refine zY _ rfl rfl kk hc6 rfl ?_
     refine zY _ rfl rfl kk hc6 rfl ?_
     refine zW rfl (zB rfl (zLG (b:=b5) (p:=false) rfl kk hc6 kk hb8)) ?_
     refine L0 rfl rfl (zG (I y2.1) rfl kk) ?_
     refine L0 rfl rfl (zG (Bo b8) rfl kk) ?_
     refine zJ ?_
     kernel_rfl
  refine zEh ?_
  obtain rfl:=zZ h;show Post _ _ _ _ _;exact⟨.inr rfl,rfl,rfl,rfl⟩
theorem zQU:∀args w,(callFunc 79 args).run qh w=.ok (.enter 79 args) w:=qW Tryz.func79 kk kk
set_option maxRecDepth 100000 in
set_option maxHeartbeats 400000 in
theorem zR7{vs1:qf}{r:((qf×(List Int)×τF×Int)×Bool)}(h:zM vs1=some r):zC qh 79 [.c (.v (.string vs1))] (.tc (.ag [.v (.string r.1.1),.sl (r.1.2.1.map c3),Ti r.1.2.2.1.1,Ti r.1.2.2.1.2.1,Ti r.1.2.2.1.2.2,Ti r.1.2.2.2]) (.tc (Bo r.2) .tn)) []:=by
  refine zAl (rs:=[.w 2 6,.t 3]) (vs:=[.cell 2 111,.tmp 3]) Tryz.func79 rfl rfl (.cons ⟨rfl,z9O⟩ (.cons rfl FitsL.nil)) (by decide) 77 rfl ?_
  unfold zM at h;show V _ _ ⟨.c (.v (.string vs1))::bt 76 [],[]⟩ _;refine jI (mb 77 5) [16] (s1:=⟨.c (.v (.string vs1))::.bot::.pt 16 0::bt 74 [],[(16,.box [.v (.string qg),.v (.slice none 0 0),Ti 0,Ti 0,Ti 0,Ti 0])]⟩) ?_ ?_
  ·refine L1 rfl rfl (zOu (z:=z4t) rfl z9J rfl) ?_
   refine L0 rfl rfl (zG (Bo false) rfl kk) ?_
   refine zJ ?_
   kernel_rfl
  obtain⟨y2,hy2,h⟩:=zT h;refine jI (mb 77 20) [96,16] (s1:=⟨.bot::.bot::.pt 16 0::.bot::.ow 96::bt 72 [],[(96,.arr 9 1 (y2.map c9)),(16,.box [.v (.string qg),.v (.slice none 0 0),Ti 0,Ti 0,Ti 0,Ti 0])]⟩) ?_ ?_
  ·refine L0 rfl rfl (zK (.c (.v (.string vs1))) rfl kk) ?_
   refine L1 rfl rfl (zC2 (zJI hy2) zI0 rfl kk) ?_
   refine L0 rfl rfl (zG (.ow 96) rfl kk) ?_
   refine zJ ?_
   kernel_rfl
  obtain⟨e3,he3,h⟩:=zT h;obtain⟨e4,he4,h⟩:=zT h;refine jI (mb 77 52) [40,96,16] (s1:=⟨.bot::.bot::.pt 16 0::.bot::.ow 96::.pt 40 0::bt 71 [],[(40,.box [.v (.string e4),.v (.slice none 0 0),Ti 0,Ti 0,Ti 0,Ti 0]),(96,.arr 9 1 (y2.map c9)),(16,.box [.v (.string qg),.v (.slice none 0 0),Ti 0,Ti 0,Ti 0,Ti 0])]⟩) ?_ ?_
  ·refine L0 rfl rfl (zK (.ow 96) rfl kk) ?_
   refine L0 rfl rfl (zUz (c:=c9) (xs:=y2) (v:=e3) (id:=96) (T:=9) (sz:=1) (n:=0) Tryz.underlying49 sz9 rfl kk kk kk he3) ?_
   refine L0 rfl rfl (zQ8 (c:=c9) (xs:=y2) (v:=e4) (id:=96) (sz:=1) (T:=9) (off:=0) (n:=0) (d:=.v (.string e4)) (ds:=[]) sc9 rfl kk kk he4 kk) ?_
   refine L0 rfl rfl (zH3 (cs:=[.v (.string e4),.v (.slice none 0 0),Ti 0,Ti 0,Ti 0,Ti 0]) zWy z0z rfl rfl kk) ?_
   refine L1 rfl rfl (zOu (z:=z4t) rfl z9J rfl) ?_
   refine zW rfl (zFp (id:=40) (off:=0) (cs:=[.v (.string qg),.v (.slice none 0 0),Ti 0,Ti 0,Ti 0,Ti 0]) (vc:=[.v (.string e4),.v (.slice none 0 0),Ti 0,Ti 0,Ti 0,Ti 0]) [.v (.string e4),.v (.slice none 0 0),Ti 0,Ti 0,Ti 0,Ti 0] rfl rfl kk kk kk zWt (Nat.le_of_ble_eq_true rfl) kk) ?_
   refine zJ ?_
   kernel_rfl
  obtain⟨y5,hy5,h⟩:=zT h;refine jI (mb 77 244) [40,96,16] (s1:=⟨.bot::.bot::.pt 16 0::.bot::.ow 96::.pt 40 0::.c (.v (.string y5.1))::Bo y5.2::bt 69 [],[(40,.box [.v (.string e4),.v (.slice none 0 0),Ti 0,Ti 0,Ti 0,Ti 0]),(96,.arr 9 1 (y2.map c9)),(16,.box [.v (.string qg),.v (.slice none 0 0),Ti 0,Ti 0,Ti 0,Ti 0])]⟩) ?_ ?_
  ·refine L0 rfl rfl (zA8 (.pt 40 0) Tryz.underlying111 rfl sz9 rfl kk (by intro hh;cases hh)) ?_
   refine L0 rfl rfl (zAG (c:=.v (.string e4)) (cs:=[.v (.slice none 0 0),Ti 0,Ti 0,Ti 0,Ti 0]) sc9 rfl kk) ?_
   refine L1 rfl rfl (zC2 (zPk hy5) zOp rfl kk) ?_
   refine L0 rfl rfl (zK (.tc (.c (.v (.string y5.1))) (.tc (Bo y5.2) .tn)) rfl kk) ?_
   refine L0 rfl rfl (zH6 (n:=0) (.c (.v (.string y5.1))) (.tc (Bo y5.2) .tn) (.c (.v (.string y5.1))) rfl kk kk (by intro hh;cases hh)) ?_
   refine L0 rfl rfl (zH6 (n:=1) (.c (.v (.string y5.1))) (.tc (Bo y5.2) .tn) (Bo y5.2) rfl kk kk (by intro hh;cases hh)) ?_
   refine L0 rfl rfl (zG (.c (.v (.string y5.1))) rfl kk) ?_
   refine L0 rfl rfl (zG (Bo y5.2) rfl kk) ?_
   refine zJ ?_
   kernel_rfl
  refine zD7 ?_
  obtain⟨t7,ht7,h⟩:=zT h;have ht7:=zZ ht7;refine jI (mb 77 4294967412) [40,96,16] (s1:=⟨.bot::.bot::.pt 16 0::.bot::.ow 96::.pt 40 0::.c (.v (.string y5.1))::bt 25 (Bo t7::bt 44 []),[(40,.box [.v (.string e4),.v (.slice none 0 0),Ti 0,Ti 0,Ti 0,Ti 0]),(96,.arr 9 1 (y2.map c9)),(16,.box [.v (.string qg),.v (.slice none 0 0),Ti 0,Ti 0,Ti 0,Ti 0])]⟩) ?_ ?_
  ·refine L0 rfl rfl (zK (Bo y5.2) rfl kk) ?_
   refine L0 rfl rfl (zQ7 (b:=y5.2) rfl kk) ?_
   refine L0 rfl rfl (zK (Bo (!y5.2)) rfl kk) ?_
   refine zBa (!y5.2) (fun hc6=>?_) (fun hc6=>?_)
   ·refine qV _ rfl rfl kk hc6 rfl ?_
    refine qV _ rfl rfl kk hc6 rfl ?_
    refine qV _ rfl rfl kk hc6 rfl ?_
    refine qV _ rfl rfl kk hc6 rfl ?_
    refine qV _ rfl rfl kk hc6 rfl ?_
    refine qV _ rfl rfl kk hc6 rfl ?_
    refine zW rfl (zB rfl (zAt (b:=!y5.2) (p:=true) (q:=!eqI ((y2.length:Int)) (w64 (((y5.1.size:Int))+1))) rfl kk hc6 kk)) ?_
    refine zJ ?_
    subst ht7
    kernel_rfl
   ·refine zD _ rfl rfl kk hc6 (zB rfl (zK (.ow 96) rfl kk)) ?_
    refine zD _ rfl rfl kk hc6 (zB rfl (zLH (c:=c9) (xs:=y2) Tryz.underlying49 rfl kk)) ?_
    refine zD _ rfl rfl kk hc6 (zB rfl (zK (.c (.v (.string y5.1))) rfl kk)) ?_
    refine zD _ rfl rfl kk hc6 (zB rfl (zZY (b:=y5.1) Tryz.underlying9 rfl kk)) ?_
    refine zD _ rfl rfl kk hc6 (zB rfl (zFn (a:=(y5.1.size:Int)) (b:=1) rfl kk kk)) ?_
    refine zD _ rfl rfl kk hc6 (zB rfl (z2d (k:=.i64) (a:=(y2.length:Int)) (b:=w64 (((y5.1.size:Int))+1)) rfl kk kk)) ?_
    refine zW rfl (zB rfl (zB9 (b:=!y5.2) (p:=true) (q:=!eqI ((y2.length:Int)) (w64 (((y5.1.size:Int))+1))) rfl kk hc6 kk)) ?_
    refine zJ ?_
    subst ht7
    kernel_rfl
  refine zD4 rfl (fun hc8=>?_) (fun hc8=>?_)
  ·have h:=zCZ h hc8;refine jI (mb 77 12) [16] (s1:=⟨.bot::.bot::.pt 16 0::Bo false::bt 73 [],[(16,.box [.v (.string qg),.v (.slice none 0 0),Ti 0,Ti 0,Ti 0,Ti 0])]⟩) ?_ ?_
   ·refine L0 rfl rfl (zH3 (cs:=[.v (.string qg),.v (.slice none 0 0),Ti 0,Ti 0,Ti 0,Ti 0]) zWy z0z rfl rfl kk) ?_
    refine zW rfl (zFp (id:=16) (off:=0) (cs:=[.v (.string qg),.v (.slice none 0 0),Ti 0,Ti 0,Ti 0,Ti 0]) (vc:=[.v (.string qg),.v (.slice none 0 0),Ti 0,Ti 0,Ti 0,Ti 0]) [.v (.string qg),.v (.slice none 0 0),Ti 0,Ti 0,Ti 0,Ti 0] rfl rfl kk kk kk zWt (Nat.le_of_ble_eq_true rfl) kk) ?_
    refine L0 rfl rfl (zG (Bo false) rfl kk) ?_
    refine zJ ?_
    kernel_rfl
   refine zSg 16 1 (cs:=[.v (.string qg),.v (.slice none 0 0),Ti 0,Ti 0,Ti 0,Ti 0]) (s1:=⟨.bot::.bot::.pt 16 0::Bo false::bt 73 [],[(16,.box [.v (.string qg),.sl ((([]:List Int)).map c3),Ti 0,Ti 0,Ti 0,Ti 0])]⟩) kk kk kk ?_
   refine zEh ?_
   obtain rfl:=zZ h;show Post _ _ _ _ _;exact⟨.inr rfl,rfl,rfl,rfl⟩
  ·have h:=zB7 h hc8;refine zEl ?_
   show V _ _ _ _;refine zD7 ?_
   obtain⟨u9,hu9,h⟩:=zT h;obtain⟨t10,ht10,h⟩:=zQo h;refine jI (mb 77 240518168676) [40,16] (s1:=⟨.bot::.bot::.pt 16 0::.bot::.bot::.pt 40 0::.c (.v (.string y5.1))::bt 28 (.c (.sl ((subl y2 1 ((y2.length:Int))).map c9))::I t10::I 0::bt 39 []),[(40,.box [.v (.string e4),.v (.slice none 0 0),Ti 0,Ti 0,Ti 0,Ti 0]),(16,.box [.v (.string qg),.v (.slice none 0 0),Ti 0,Ti 0,Ti 0,Ti 0])]⟩) ?_ ?_
   ·refine L0 rfl rfl (zK (.ow 96) rfl kk) ?_
    refine zX6 96 (T:=9) (sz:=1) (els:=y2.map c9) (s1:=⟨.bot::.bot::.pt 16 0::.bot::.c (.sl (y2.map c9))::.pt 40 0::.c (.v (.string y5.1))::bt 25 (Bo t7::.bot::.c (.sl (y2.map c9))::bt 42 []),[(40,.box [.v (.string e4),.v (.slice none 0 0),Ti 0,Ti 0,Ti 0,Ti 0]),(16,.box [.v (.string qg),.v (.slice none 0 0),Ti 0,Ti 0,Ti 0,Ti 0])]⟩) kk kk ?_
    refine L0 rfl rfl (z1F (c:=c9) (xs:=y2) (l:=1) (h:=(y2.length:Int)) Tryz.underlying49 sz9 (fun _=>rfl) rfl kk (fun y hy=>by cases hy;exact⟨.i64,kk⟩) (fun hh=>by cases hh) (fun y hy=>by cases hy) (fun _=>rfl) (zJi hu9)) ?_
    refine L0 rfl rfl (zLH (c:=c9) (xs:=subl y2 1 ((y2.length:Int))) Tryz.underlying49 rfl kk) ?_
    refine L0 rfl rfl (zK (I 0) rfl kk) ?_
    refine zJ ?_
    subst ht10
    kernel_rfl
   refine z7c 42 3 1 kk (by decide) ?_
   refine V_gen (fun γ:Nat→Loc=>⟨.bot::.bot::.pt 16 0::.bot::.bot::.pt 40 0::.c (.v (.string y5.1))::bt 28 (.c (.sl ((subl y2 1 ((y2.length:Int))).map c9))::I t10::I 0::bt 39 []),[(42,.qarr (γ 42) 3 1 ((([]:List Int)).map c3)),(40,.box [.v (.string e4),.v (zF (γ 42)),Ti 0,Ti 0,Ti 0,Ti 0]),(16,.box [.v (.string qg),.v (.slice none 0 0),Ti 0,Ti 0,Ti 0,Ti 0])]⟩) (fun _=>loc0) kk fun γ=>?_
   obtain⟨qo18,hLo18,hko18⟩:=zT h;refine qB3 (q:=qo18) (S:=fun o18 (γ:Nat→Loc)=>⟨.bot::.bot::.pt 16 0::.bot::.bot::.pt 40 0::bt 71 [],[(42,.qarr (γ 42) 3 1 (o18.1.map c3)),(40,.box [.v (.string e4),.v (zF (γ 42)),Ti o18.2.1,Ti o18.2.2.1,Ti o18.2.2.2.1,Ti o18.2.2.2.2]),(16,.box [.v (.string qg),.v (.slice none 0 0),Ti 0,Ti 0,Ti 0,Ti 0])]⟩) (mb 77 36) [42,40,16] ?_ ?_
   ·refine zEc (zVB (fun n s=>∃(t11:Int) (l12:List Int) (f13:Int) (f14:Int) (f15:Int) (f16:Int),∃γ:Nat→Loc,s.keep (mb 77 240518168676) [42,40,16]=(⟨.bot::.bot::.pt 16 0::.bot::.bot::.pt 40 0::.c (.v (.string y5.1))::bt 28 (.c (.sl ((subl y2 1 ((y2.length:Int))).map c9))::I t10::I t11::bt 39 []),[(42,.qarr (γ 42) 3 1 (l12.map c3)),(40,.box [.v (.string e4),.v (zF (γ 42)),Ti f13,Ti f14,Ti f15,Ti f16]),(16,.box [.v (.string qg),.v (.slice none 0 0),Ti 0,Ti 0,Ti 0,Ti 0])]⟩:St)∧jC e4 t10 y2 y5 n t11 l12 f13 f14 f15 f16=some qo18) FU ⟨_,_,_,_,_,_,γ,by rfl,hLo18⟩ ?_);clear hLo18;rintro n s ⟨t11,l12,f13,f14,f15,f16,γ,hs,h⟩;refine zZ2 _ _ hs ?_
    clear hs;cases n with
    |zero=>cases h
    |succ n=>
     rw[jC]at h;refine zEb (fun γ:Nat→Loc=>⟨.bot::.bot::.pt 16 0::.bot::.bot::.pt 40 0::.c (.v (.string y5.1))::bt 28 (.c (.sl ((subl y2 1 ((y2.length:Int))).map c9))::I t10::I t11::Bo (ltI t11 t10)::bt 38 []),[(42,.qarr (γ 42) 3 1 (l12.map c3)),(40,.box [.v (.string e4),.v (zF (γ 42)),Ti f13,Ti f14,Ti f15,Ti f16]),(16,.box [.v (.string qg),.v (.slice none 0 0),Ti 0,Ti 0,Ti 0,Ti 0])]⟩) (mb 77 515396075620) [42,40,16] ?_ ?_
     ·refine L0 rfl rfl (zH2 (k:=.i64) (a:=t11) (b:=t10) rfl kk kk) ?_
      refine zJ ?_
      exact⟨γ,by kernel_rfl⟩
     intro γ;refine zD7 ?_
     refine zD4 rfl (fun hc19=>?_) (fun hc19=>?_)
     ·have h:=zCZ h hc19;refine zEl ?_
      show V _ _ _ _;refine zD7 ?_
      refine zEc ?_
      obtain⟨e20,he20,h⟩:=zT h;refine zEb (fun γ:Nat→Loc=>⟨.bot::.bot::.pt 16 0::.bot::.bot::.pt 40 0::.c (.v (.string y5.1))::.bot::I t11::.c (.v (.string e20))::bt 25 (.c (.sl ((subl y2 1 ((y2.length:Int))).map c9))::I t10::I t11::bt 39 []),[(42,.qarr (γ 42) 3 1 (l12.map c3)),(40,.box [.v (.string e4),.v (zF (γ 42)),Ti f13,Ti f14,Ti f15,Ti f16]),(16,.box [.v (.string qg),.v (.slice none 0 0),Ti 0,Ti 0,Ti 0,Ti 0])]⟩) (mb 77 240518169444) [42,40,16] ?_ ?_
      ·refine L0 rfl rfl (zK (I t11) rfl kk) ?_
       refine L0 rfl rfl (zSf (c:=c9) (xs:=subl y2 1 ((y2.length:Int))) (v:=e20) (n:=t11) Tryz.underlying49 sz9 rfl kk kk he20) ?_
       refine L0 rfl rfl (zAG (c:=.v (.string e20)) (cs:=[]) sc9 rfl kk) ?_
       refine L0 rfl rfl (zG (I t11) rfl kk) ?_
       refine L0 rfl rfl (zG (.c (.v (.string e20))) rfl kk) ?_
       refine zJ ?_
       exact⟨γ,by kernel_rfl⟩
      intro γ;refine zD7 ?_
      obtain⟨e21,he21,h⟩:=zT h;refine zEb (fun γ:Nat→Loc=>⟨.bot::.bot::.pt 16 0::.bot::.bot::.pt 40 0::.c (.v (.string y5.1))::.bot::.bot::.c (.v (.string e20))::bt 25 (.c (.sl ((subl y2 1 ((y2.length:Int))).map c9))::I t10::I t11::bt 6 (.c (.v (.int .u8 e21))::bt 32 [])),[(42,.qarr (γ 42) 3 1 (l12.map c3)),(40,.box [.v (.string e4),.v (zF (γ 42)),Ti f13,Ti f14,Ti f15,Ti f16]),(16,.box [.v (.string qg),.v (.slice none 0 0),Ti 0,Ti 0,Ti 0,Ti 0])]⟩) (mb 77 17832704213604) [42,40,16] ?_ ?_
      ·refine L0 rfl rfl (zK (.c (.v (.string y5.1))) rfl kk) ?_
       refine L0 rfl rfl (zK (I t11) rfl kk) ?_
       refine L0 rfl rfl (zZZ (b:=y5.1) (k:=.i64) (n:=t11) (v:=e21) Tryz.underlying9 rfl kk kk he21) ?_
       refine zJ ?_
       exact⟨γ,by kernel_rfl⟩
      intro γ;refine zEc ?_
      refine zEb (fun γ:Nat→Loc=>⟨.bot::.bot::.pt 16 0::.bot::.bot::.pt 40 0::.c (.v (.string y5.1))::.bot::.bot::.c (.v (.string e20))::bt 25 (.c (.sl ((subl y2 1 ((y2.length:Int))).map c9))::I t10::I t11::bt 6 (.c (.v (.int .u8 e21))::bt 6 (Bo (eqI e21 65)::bt 25 []))),[(42,.qarr (γ 42) 3 1 (l12.map c3)),(40,.box [.v (.string e4),.v (zF (γ 42)),Ti f13,Ti f14,Ti f15,Ti f16]),(16,.box [.v (.string qg),.v (.slice none 0 0),Ti 0,Ti 0,Ti 0,Ti 0])]⟩) (mb 77 2269632517898852) [42,40,16] ?_ ?_
      ·refine L0 rfl rfl (zJD (k:=.u8) (a:=e21) (b:=65) rfl kk kk) ?_
       refine L0 rfl rfl (zG (Bo (eqI e21 65)) rfl kk) ?_
       refine zJ ?_
       exact⟨γ,by kernel_rfl⟩
      intro γ;refine zD4 rfl (fun hc22=>?_) (fun hc22=>?_)
      ·have h:=zCZ h hc22;refine zEb (fun γ:Nat→Loc=>⟨.bot::.bot::.pt 16 0::.bot::.bot::.pt 40 0::.c (.v (.string y5.1))::.bot::.bot::.c (.v (.string e20))::bt 25 (.c (.sl ((subl y2 1 ((y2.length:Int))).map c9))::I t10::I t11::bt 39 []),[(42,.qarr (γ 42) 3 1 (l12.map c3)),(40,.box [.v (.string e4),.v (zF (γ 42)),Ti f13,Ti f14,Ti f15,Ti f16]),(16,.box [.v (.string qg),.v (.slice none 0 0),Ti 0,Ti 0,Ti 0,Ti 0])]⟩) (mb 77 240518169188) [42,40,16] ?_ ?_
       ·refine L0 rfl rfl (zG (I 0) rfl kk) ?_
        refine zJ ?_
        exact⟨γ,by kernel_rfl⟩
       intro γ;obtain⟨y23,hy23,h⟩:=zT h;refine zEb (fun γ:Nat→Loc=>⟨.bot::.bot::.pt 16 0::.bot::.bot::.pt 40 0::.c (.v (.string y5.1))::Bo y23.2::.bot::.bot::I y23.1::bt 24 (.c (.sl ((subl y2 1 ((y2.length:Int))).map c9))::I t10::I t11::bt 39 []),[(42,.qarr (γ 42) 3 1 (l12.map c3)),(40,.box [.v (.string e4),.v (zF (γ 42)),Ti f13,Ti f14,Ti f15,Ti f16]),(16,.box [.v (.string qg),.v (.slice none 0 0),Ti 0,Ti 0,Ti 0,Ti 0])]⟩) (mb 77 240518169828) [42,40,16] ?_ ?_
       ·refine L0 rfl rfl (zK (.c (.v (.string e20))) rfl kk) ?_
        refine L1 rfl rfl (zC2 (zWL hy23) zUn rfl kk) ?_
        refine L0 rfl rfl (zK (.tc (I y23.1) (.tc (Bo y23.2) .tn)) rfl kk) ?_
        refine L0 rfl rfl (zH6 (n:=0) (I y23.1) (.tc (Bo y23.2) .tn) (I y23.1) rfl kk kk (by intro hh;cases hh)) ?_
        refine L0 rfl rfl (zH6 (n:=1) (I y23.1) (.tc (Bo y23.2) .tn) (Bo y23.2) rfl kk kk (by intro hh;cases hh)) ?_
        refine L0 rfl rfl (zG (I y23.1) rfl kk) ?_
        refine L0 rfl rfl (zG (Bo y23.2) rfl kk) ?_
        refine zJ ?_
        exact⟨γ,by kernel_rfl⟩
       intro γ;obtain⟨u24,hu24,h⟩:=zT h;refine zN1 (fun γ:Nat→Loc=>⟨.bot::.bot::.pt 16 0::.bot::.bot::.pt 40 0::.c (.v (.string y5.1))::Bo y23.2::bt 27 (.c (.sl ((subl y2 1 ((y2.length:Int))).map c9))::I t10::I t11::bt 39 []),[(42,.qarr (γ 42) 3 1 ((l12++([y23.1])).map c3)),(40,.box [.v (.string e4),.v (zF (γ 42)),Ti f13,Ti f14,Ti f15,Ti f16]),(16,.box [.v (.string qg),.v (.slice none 0 0),Ti 0,Ti 0,Ti 0,Ti 0])]⟩) (mb 77 240518168804) [42,40,16] ?_ ?_
       ·refine L0 rfl rfl (zA8 (.pt 40 1) Tryz.underlying111 rfl sz37 rfl kk (by intro hh;cases hh)) ?_
        refine L0 rfl rfl (zAG (c:=.v (zF (γ 42))) (cs:=[Ti f13,Ti f14,Ti f15,Ti f16]) sc37 rfl kk) ?_
        refine L0 rfl rfl (zK (I y23.1) rfl kk) ?_
        refine L1 rfl rfl (zHH (z:=zv3) (els:=[y23.1].map c3) Tryz.underlying37 iz3 rfl (by decide) rfl kk rfl (by simp[c3]) (by decide) (by decide)) ?_
        refine z4n 59 42 (l:=γ 42) (T:=3) (sz:=1) (els:=l12.map c3) kk kk ?_
        refine zW rfl (zQa (c:=c3) (xs:=l12) (ys:=[y23.1]) (id:=42) (z:=zv3) rfl rfl Tryz.underlying37 izb3 rfl kk kk kk (fun _=>rfl) (by simp) (zKn hu24) (by decide)) ?_
        refine L0 rfl rfl (zA8 (.pt 40 1) Tryz.underlying111 rfl sz37 rfl kk (by intro hh;cases hh)) ?_
        refine z8z 62 42 (T:=3) (sz:=1) (els:=(l12++([y23.1])).map c3) kk kk fun lq1=>?_
        refine zW rfl (zFp (id:=40) (off:=1) (cs:=[.v (.string e4),.v (zF (γ 42)),Ti f13,Ti f14,Ti f15,Ti f16]) (vc:=[.v (zF (lq1))]) [.v (.string e4),.v (zF (lq1)),Ti f13,Ti f14,Ti f15,Ti f16] rfl rfl kk kk kk sz37 (Nat.le_of_ble_eq_true rfl) kk) ?_
        refine zJ ?_
        exact⟨(fun i=>if i=42 then lq1 else γ i),by kernel_rfl⟩
       intro γ;show V _ _ _ _;refine zEb (fun γ:Nat→Loc=>⟨.bot::.bot::.pt 16 0::.bot::.bot::.pt 40 0::.c (.v (.string y5.1))::bt 28 (.c (.sl ((subl y2 1 ((y2.length:Int))).map c9))::I t10::I t11::bt 35 (Bo (!y23.2)::bt 3 [])),[(42,.qarr (γ 42) 3 1 ((l12++([y23.1])).map c3)),(40,.box [.v (.string e4),.v (zF (γ 42)),Ti f13,Ti f14,Ti f15,Ti f16]),(16,.box [.v (.string qg),.v (.slice none 0 0),Ti 0,Ti 0,Ti 0,Ti 0])]⟩) (mb 77 9444732965979808596068) [42,40,16] ?_ ?_
       ·refine L0 rfl rfl (zK (Bo y23.2) rfl kk) ?_
        refine L0 rfl rfl (zQ7 (b:=y23.2) rfl kk) ?_
        refine zJ ?_
        exact⟨γ,by kernel_rfl⟩
       intro γ;refine zD4 rfl (fun hc25=>?_) (fun hc25=>?_)
       ·have h:=zCZ h hc25;refine zEb (fun γ:Nat→Loc=>⟨.bot::.bot::.pt 16 0::Bo false::bt 73 [],[(42,.qarr (γ 42) 3 1 ((l12++([y23.1])).map c3)),(16,.box [.v (.string qg),.v (.slice none 0 0),Ti 0,Ti 0,Ti 0,Ti 0])]⟩) (mb 77 12) [42,16] ?_ ?_
        ·refine L0 rfl rfl (zH3 (cs:=[.v (.string qg),.v (.slice none 0 0),Ti 0,Ti 0,Ti 0,Ti 0]) zWy z0z rfl rfl kk) ?_
         refine zW rfl (zFp (id:=16) (off:=0) (cs:=[.v (.string qg),.v (.slice none 0 0),Ti 0,Ti 0,Ti 0,Ti 0]) (vc:=[.v (.string qg),.v (.slice none 0 0),Ti 0,Ti 0,Ti 0,Ti 0]) [.v (.string qg),.v (.slice none 0 0),Ti 0,Ti 0,Ti 0,Ti 0] rfl rfl kk kk kk zWt (Nat.le_of_ble_eq_true rfl) kk) ?_
         refine L0 rfl rfl (zG (Bo false) rfl kk) ?_
         refine zJ ?_
         exact⟨γ,by kernel_rfl⟩
        intro γ;refine zSg 16 1 (cs:=[.v (.string qg),.v (.slice none 0 0),Ti 0,Ti 0,Ti 0,Ti 0]) (s1:=⟨.bot::.bot::.pt 16 0::Bo false::bt 73 [],[(42,.qarr (γ 42) 3 1 ((l12++([y23.1])).map c3)),(16,.box [.v (.string qg),.sl ((([]:List Int)).map c3),Ti 0,Ti 0,Ti 0,Ti 0])]⟩) kk kk kk ?_
        refine zEh ?_
        obtain rfl:=zZ h;have h:=hko18;obtain rfl:=zZ h;show Post _ _ _ _ _;exact⟨.inr rfl,rfl,rfl,rfl⟩
       ·have h:=zB7 h hc25;refine zEl ?_
        show V _ _ _ _;obtain⟨t26,ht26,h⟩:=zQo h;refine zN1 (fun γ:Nat→Loc=>⟨.bot::.bot::.pt 16 0::.bot::.bot::.pt 40 0::.c (.v (.string y5.1))::bt 28 (.c (.sl ((subl y2 1 ((y2.length:Int))).map c9))::I t10::I t26::bt 39 []),[(42,.qarr (γ 42) 3 1 ((l12++([y23.1])).map c3)),(40,.box [.v (.string e4),.v (zF (γ 42)),Ti f13,Ti f14,Ti f15,Ti f16]),(16,.box [.v (.string qg),.v (.slice none 0 0),Ti 0,Ti 0,Ti 0,Ti 0])]⟩) (mb 77 240518168676) [42,40,16] ?_ ?_
        ·refine L0 rfl rfl (zFn (a:=t11) (b:=1) rfl kk kk) ?_
         refine L0 rfl rfl (zK (I (w64 (t11+1))) rfl kk) ?_
         refine zJ ?_
         subst ht26;exact⟨γ,by kernel_rfl⟩
        intro γ;exact⟨n,Nat.lt_succ_self n,_,_,_,_,_,_,γ,by rfl,h⟩
      ·have h:=zB7 h hc22;refine zEb (fun γ:Nat→Loc=>⟨.bot::.bot::.pt 16 0::.bot::.bot::.pt 40 0::.c (.v (.string y5.1))::.bot::.bot::.c (.v (.string e20))::bt 25 (.c (.sl ((subl y2 1 ((y2.length:Int))).map c9))::I t10::I t11::bt 26 (Bo (eqI e21 102)::bt 12 [])),[(42,.qarr (γ 42) 3 1 (l12.map c3)),(40,.box [.v (.string e4),.v (zF (γ 42)),Ti f13,Ti f14,Ti f15,Ti f16]),(16,.box [.v (.string qg),.v (.slice none 0 0),Ti 0,Ti 0,Ti 0,Ti 0])]⟩) (mb 77 18446744314227720804) [42,40,16] ?_ ?_
       ·refine L0 rfl rfl (zJD (k:=.u8) (a:=e21) (b:=102) rfl kk kk) ?_
        refine L0 rfl rfl (zG (Bo (eqI e21 102)) rfl kk) ?_
        refine zJ ?_
        exact⟨γ,by kernel_rfl⟩
       intro γ;refine zD4 rfl (fun hc27=>?_) (fun hc27=>?_)
       ·have h:=zCZ h hc27;obtain⟨y28,hy28,h⟩:=zT h;refine zN1 (fun γ:Nat→Loc=>⟨.bot::.bot::.pt 16 0::.bot::.bot::.pt 40 0::.c (.v (.string y5.1))::Bo y28.2::bt 27 (.c (.sl ((subl y2 1 ((y2.length:Int))).map c9))::I t10::I t11::bt 39 []),[(42,.qarr (γ 42) 3 1 (l12.map c3)),(40,.box [.v (.string e4),.v (zF (γ 42)),Ti y28.1.1,Ti y28.1.2.1,Ti y28.1.2.2,Ti f16]),(16,.box [.v (.string qg),.v (.slice none 0 0),Ti 0,Ti 0,Ti 0,Ti 0])]⟩) (mb 77 240518168804) [42,40,16] ?_ ?_
        ·refine L0 rfl rfl (zK (.c (.v (.string e20))) rfl kk) ?_
         refine L1 rfl rfl (zC2 (zPm hy28) zOr rfl kk) ?_
         refine L0 rfl rfl (zK (.tc (.ag [Ti y28.1.1,Ti y28.1.2.1,Ti y28.1.2.2]) (.tc (Bo y28.2) .tn)) rfl kk) ?_
         refine L0 rfl rfl (zH6 (n:=0) (.ag [Ti y28.1.1,Ti y28.1.2.1,Ti y28.1.2.2]) (.tc (Bo y28.2) .tn) (.ag [Ti y28.1.1,Ti y28.1.2.1,Ti y28.1.2.2]) rfl kk kk (by intro hh;cases hh)) ?_
         refine L0 rfl rfl (zH6 (n:=1) (.ag [Ti y28.1.1,Ti y28.1.2.1,Ti y28.1.2.2]) (.tc (Bo y28.2) .tn) (Bo y28.2) rfl kk kk (by intro hh;cases hh)) ?_
         refine L0 rfl rfl (zA8 (.pt 40 2) Tryz.underlying111 rfl sz42 rfl kk (by intro hh;cases hh)) ?_
         refine zW rfl (zFp (id:=40) (off:=2) (cs:=[.v (.string e4),.v (zF (γ 42)),Ti f13,Ti f14,Ti f15,Ti f16]) (vc:=[Ti y28.1.1,Ti y28.1.2.1,Ti y28.1.2.2]) [.v (.string e4),.v (zF (γ 42)),Ti y28.1.1,Ti y28.1.2.1,Ti y28.1.2.2,Ti f16] rfl rfl kk kk kk sz42 (Nat.le_of_ble_eq_true rfl) kk) ?_
         refine L0 rfl rfl (zG (Bo y28.2) rfl kk) ?_
         refine zJ ?_
         exact⟨γ,by kernel_rfl⟩
        intro γ;show V _ _ _ _;refine zEb (fun γ:Nat→Loc=>⟨.bot::.bot::.pt 16 0::.bot::.bot::.pt 40 0::.c (.v (.string y5.1))::bt 28 (.c (.sl ((subl y2 1 ((y2.length:Int))).map c9))::I t10::I t11::bt 35 (Bo (!y28.2)::bt 3 [])),[(42,.qarr (γ 42) 3 1 (l12.map c3)),(40,.box [.v (.string e4),.v (zF (γ 42)),Ti y28.1.1,Ti y28.1.2.1,Ti y28.1.2.2,Ti f16]),(16,.box [.v (.string qg),.v (.slice none 0 0),Ti 0,Ti 0,Ti 0,Ti 0])]⟩) (mb 77 9444732965979808596068) [42,40,16] ?_ ?_
        ·refine L0 rfl rfl (zK (Bo y28.2) rfl kk) ?_
         refine L0 rfl rfl (zQ7 (b:=y28.2) rfl kk) ?_
         refine zJ ?_
         exact⟨γ,by kernel_rfl⟩
        intro γ;refine zD4 rfl (fun hc29=>?_) (fun hc29=>?_)
        ·have h:=zCZ h hc29;refine zEb (fun γ:Nat→Loc=>⟨.bot::.bot::.pt 16 0::Bo false::bt 73 [],[(42,.qarr (γ 42) 3 1 (l12.map c3)),(16,.box [.v (.string qg),.v (.slice none 0 0),Ti 0,Ti 0,Ti 0,Ti 0])]⟩) (mb 77 12) [42,16] ?_ ?_
         ·refine L0 rfl rfl (zH3 (cs:=[.v (.string qg),.v (.slice none 0 0),Ti 0,Ti 0,Ti 0,Ti 0]) zWy z0z rfl rfl kk) ?_
          refine zW rfl (zFp (id:=16) (off:=0) (cs:=[.v (.string qg),.v (.slice none 0 0),Ti 0,Ti 0,Ti 0,Ti 0]) (vc:=[.v (.string qg),.v (.slice none 0 0),Ti 0,Ti 0,Ti 0,Ti 0]) [.v (.string qg),.v (.slice none 0 0),Ti 0,Ti 0,Ti 0,Ti 0] rfl rfl kk kk kk zWt (Nat.le_of_ble_eq_true rfl) kk) ?_
          refine L0 rfl rfl (zG (Bo false) rfl kk) ?_
          refine zJ ?_
          exact⟨γ,by kernel_rfl⟩
         intro γ;refine zSg 16 1 (cs:=[.v (.string qg),.v (.slice none 0 0),Ti 0,Ti 0,Ti 0,Ti 0]) (s1:=⟨.bot::.bot::.pt 16 0::Bo false::bt 73 [],[(42,.qarr (γ 42) 3 1 (l12.map c3)),(16,.box [.v (.string qg),.sl ((([]:List Int)).map c3),Ti 0,Ti 0,Ti 0,Ti 0])]⟩) kk kk kk ?_
         refine zEh ?_
         obtain rfl:=zZ h;have h:=hko18;obtain rfl:=zZ h;show Post _ _ _ _ _;exact⟨.inr rfl,rfl,rfl,rfl⟩
        ·have h:=zB7 h hc29;refine zEl ?_
         show V _ _ _ _;obtain⟨t30,ht30,h⟩:=zQo h;refine zN1 (fun γ:Nat→Loc=>⟨.bot::.bot::.pt 16 0::.bot::.bot::.pt 40 0::.c (.v (.string y5.1))::bt 28 (.c (.sl ((subl y2 1 ((y2.length:Int))).map c9))::I t10::I t30::bt 39 []),[(42,.qarr (γ 42) 3 1 (l12.map c3)),(40,.box [.v (.string e4),.v (zF (γ 42)),Ti y28.1.1,Ti y28.1.2.1,Ti y28.1.2.2,Ti f16]),(16,.box [.v (.string qg),.v (.slice none 0 0),Ti 0,Ti 0,Ti 0,Ti 0])]⟩) (mb 77 240518168676) [42,40,16] ?_ ?_
         ·refine L0 rfl rfl (zFn (a:=t11) (b:=1) rfl kk kk) ?_
          refine L0 rfl rfl (zK (I (w64 (t11+1))) rfl kk) ?_
          refine zJ ?_
          subst ht30;exact⟨γ,by kernel_rfl⟩
         intro γ;exact⟨n,Nat.lt_succ_self n,_,_,_,_,_,_,γ,by rfl,h⟩
       ·have h:=zB7 h hc27;obtain⟨y31,hy31,h⟩:=zT h;refine zN1 (fun γ:Nat→Loc=>⟨.bot::.bot::.pt 16 0::.bot::.bot::.pt 40 0::.c (.v (.string y5.1))::Bo y31.2::bt 27 (.c (.sl ((subl y2 1 ((y2.length:Int))).map c9))::I t10::I t11::bt 39 []),[(42,.qarr (γ 42) 3 1 (l12.map c3)),(40,.box [.v (.string e4),.v (zF (γ 42)),Ti f13,Ti f14,Ti f15,Ti y31.1]),(16,.box [.v (.string qg),.v (.slice none 0 0),Ti 0,Ti 0,Ti 0,Ti 0])]⟩) (mb 77 240518168804) [42,40,16] ?_ ?_
        ·refine L0 rfl rfl (zK (.c (.v (.string e20))) rfl kk) ?_
         refine L1 rfl rfl (zC2 (zR9 hy31) zQW rfl kk) ?_
         refine L0 rfl rfl (zK (.tc (I y31.1) (.tc (Bo y31.2) .tn)) rfl kk) ?_
         refine L0 rfl rfl (zH6 (n:=0) (I y31.1) (.tc (Bo y31.2) .tn) (I y31.1) rfl kk kk (by intro hh;cases hh)) ?_
         refine L0 rfl rfl (zH6 (n:=1) (I y31.1) (.tc (Bo y31.2) .tn) (Bo y31.2) rfl kk kk (by intro hh;cases hh)) ?_
         refine L0 rfl rfl (zA8 (.pt 40 5) Tryz.underlying111 rfl sz3 rfl kk (by intro hh;cases hh)) ?_
         refine zW rfl (zFp (id:=40) (off:=5) (cs:=[.v (.string e4),.v (zF (γ 42)),Ti f13,Ti f14,Ti f15,Ti f16]) (vc:=[Ti y31.1]) [.v (.string e4),.v (zF (γ 42)),Ti f13,Ti f14,Ti f15,Ti y31.1] rfl rfl kk kk kk sz3 (Nat.le_of_ble_eq_true rfl) kk) ?_
         refine L0 rfl rfl (zG (Bo y31.2) rfl kk) ?_
         refine zJ ?_
         exact⟨γ,by kernel_rfl⟩
        intro γ;show V _ _ _ _;refine zEb (fun γ:Nat→Loc=>⟨.bot::.bot::.pt 16 0::.bot::.bot::.pt 40 0::.c (.v (.string y5.1))::bt 28 (.c (.sl ((subl y2 1 ((y2.length:Int))).map c9))::I t10::I t11::bt 35 (Bo (!y31.2)::bt 3 [])),[(42,.qarr (γ 42) 3 1 (l12.map c3)),(40,.box [.v (.string e4),.v (zF (γ 42)),Ti f13,Ti f14,Ti f15,Ti y31.1]),(16,.box [.v (.string qg),.v (.slice none 0 0),Ti 0,Ti 0,Ti 0,Ti 0])]⟩) (mb 77 9444732965979808596068) [42,40,16] ?_ ?_
        ·refine L0 rfl rfl (zK (Bo y31.2) rfl kk) ?_
         refine L0 rfl rfl (zQ7 (b:=y31.2) rfl kk) ?_
         refine zJ ?_
         exact⟨γ,by kernel_rfl⟩
        intro γ;refine zD4 rfl (fun hc32=>?_) (fun hc32=>?_)
        ·have h:=zCZ h hc32;refine zEb (fun γ:Nat→Loc=>⟨.bot::.bot::.pt 16 0::Bo false::bt 73 [],[(42,.qarr (γ 42) 3 1 (l12.map c3)),(16,.box [.v (.string qg),.v (.slice none 0 0),Ti 0,Ti 0,Ti 0,Ti 0])]⟩) (mb 77 12) [42,16] ?_ ?_
         ·refine L0 rfl rfl (zH3 (cs:=[.v (.string qg),.v (.slice none 0 0),Ti 0,Ti 0,Ti 0,Ti 0]) zWy z0z rfl rfl kk) ?_
          refine zW rfl (zFp (id:=16) (off:=0) (cs:=[.v (.string qg),.v (.slice none 0 0),Ti 0,Ti 0,Ti 0,Ti 0]) (vc:=[.v (.string qg),.v (.slice none 0 0),Ti 0,Ti 0,Ti 0,Ti 0]) [.v (.string qg),.v (.slice none 0 0),Ti 0,Ti 0,Ti 0,Ti 0] rfl rfl kk kk kk zWt (Nat.le_of_ble_eq_true rfl) kk) ?_
          refine L0 rfl rfl (zG (Bo false) rfl kk) ?_
          refine zJ ?_
          exact⟨γ,by kernel_rfl⟩
         intro γ;refine zSg 16 1 (cs:=[.v (.string qg),.v (.slice none 0 0),Ti 0,Ti 0,Ti 0,Ti 0]) (s1:=⟨.bot::.bot::.pt 16 0::Bo false::bt 73 [],[(42,.qarr (γ 42) 3 1 (l12.map c3)),(16,.box [.v (.string qg),.sl ((([]:List Int)).map c3),Ti 0,Ti 0,Ti 0,Ti 0])]⟩) kk kk kk ?_
         refine zEh ?_
         obtain rfl:=zZ h;have h:=hko18;obtain rfl:=zZ h;show Post _ _ _ _ _;exact⟨.inr rfl,rfl,rfl,rfl⟩
        ·have h:=zB7 h hc32;refine zEl ?_
         show V _ _ _ _;obtain⟨t33,ht33,h⟩:=zQo h;refine zN1 (fun γ:Nat→Loc=>⟨.bot::.bot::.pt 16 0::.bot::.bot::.pt 40 0::.c (.v (.string y5.1))::bt 28 (.c (.sl ((subl y2 1 ((y2.length:Int))).map c9))::I t10::I t33::bt 39 []),[(42,.qarr (γ 42) 3 1 (l12.map c3)),(40,.box [.v (.string e4),.v (zF (γ 42)),Ti f13,Ti f14,Ti f15,Ti y31.1]),(16,.box [.v (.string qg),.v (.slice none 0 0),Ti 0,Ti 0,Ti 0,Ti 0])]⟩) (mb 77 240518168676) [42,40,16] ?_ ?_
         ·refine L0 rfl rfl (zFn (a:=t11) (b:=1) rfl kk kk) ?_
          refine L0 rfl rfl (zK (I (w64 (t11+1))) rfl kk) ?_
          refine zJ ?_
          subst ht33;exact⟨γ,by kernel_rfl⟩
         intro γ;exact⟨n,Nat.lt_succ_self n,_,_,_,_,_,_,γ,by rfl,h⟩
     ·have h:=zB7 h hc19;refine zVC ?_
      obtain rfl:=zZ h;exact⟨_,rfl,γ,by rfl⟩
   rintro o18 rfl γ;have h:=hko18;clear hko18;show V _ _ _ _;refine qB5 42 40 1 (l:=γ 42) (T:=3) (sz:=1) (els:=o18.1.map c3) (cs:=[.v (.string e4),.v (zF (γ 42)),Ti o18.2.1,Ti o18.2.2.1,Ti o18.2.2.2.1,Ti o18.2.2.2.2]) (s1:=⟨.bot::.bot::.pt 16 0::.bot::.bot::.pt 40 0::bt 71 [],[(40,.box [.v (.string e4),.sl (o18.1.map c3),Ti o18.2.1,Ti o18.2.2.1,Ti o18.2.2.2.1,Ti o18.2.2.2.2]),(16,.box [.v (.string qg),.v (.slice none 0 0),Ti 0,Ti 0,Ti 0,Ti 0])]⟩) kk kk kk kk ?_
   refine jI (mb 77 12) [16] (s1:=⟨.bot::.bot::.pt 16 0::Bo true::bt 73 [],[(16,.box [.v (.string e4),.sl (o18.1.map c3),Ti o18.2.1,Ti o18.2.2.1,Ti o18.2.2.2.1,Ti o18.2.2.2.2])]⟩) ?_ ?_
   ·refine L0 rfl rfl (zHs (cs:=[.v (.string e4),.sl (o18.1.map c3),Ti o18.2.1,Ti o18.2.2.1,Ti o18.2.2.2.1,Ti o18.2.2.2.2]) [.v (.string e4),.sl (o18.1.map c3),Ti o18.2.1,Ti o18.2.2.1,Ti o18.2.2.2.1,Ti o18.2.2.2.2] z9O rfl kk (Nat.le_of_ble_eq_true rfl) kk) ?_
    refine zW rfl (zFp (id:=16) (off:=0) (cs:=[.v (.string qg),.v (.slice none 0 0),Ti 0,Ti 0,Ti 0,Ti 0]) (vc:=[.v (.string e4),.sl (o18.1.map c3),Ti o18.2.1,Ti o18.2.2.1,Ti o18.2.2.2.1,Ti o18.2.2.2.2]) [.v (.string e4),.sl (o18.1.map c3),Ti o18.2.1,Ti o18.2.2.1,Ti o18.2.2.2.1,Ti o18.2.2.2.2] rfl rfl kk kk kk zWt (Nat.le_of_ble_eq_true rfl) kk) ?_
    refine L0 rfl rfl (zG (Bo true) rfl kk) ?_
    refine zJ ?_
    kernel_rfl
   refine zEh ?_
   obtain rfl:=zZ h;show Post _ _ _ _ _;exact⟨.inr rfl,rfl,rfl,rfl⟩
def zSS(vs1:qf):=fC zQU (zM vs1) fun _=>zR7
end
end Go.Proofs.YtahdjphocippeaaGreatDoor
