/-
  Rules of walks, plain functions and their laws, part 5.
  Conditions: none.
-/
import Derived.Test.YtahdjphocippeaaGreatDoorRows
import Derived.Test.YtahdjphocippeaaGreatDoorDi4
set_option linter.unusedSimpArgs false
set_option linter.unusedVariables false
namespace Go.Proofs.YtahdjphocippeaaGreatDoor
open Go.RowKit
abbrev τF:=Int×Int×Int
abbrev τM:=Int×Int×Int×Int
abbrev τI:=Int×(Nat→τF)
abbrev τS:=Int×ByteArray×(List τF)
theorem CtU {β:Type} (t:T Tryz.prog β) (k:Nat) {f:FuncId} {fn:Func} {c:Code} {args:List AV} {o:Option β} {r:β} (g:β→AV) (hf:Tryz.prog.funcs[f]?=some fn) (hb:fn.body=some c) (hvs:fn.results=[ResultVar.tmp k].toArray) (h:o=some r)
  (hO:OF Tryz.prog t o c ⟨args++List.replicate (fn.ntmps - args.length) .bot,[]⟩ [.t k] (fun r=>(g r,[]))=(OF Tryz.prog t o c ⟨args++List.replicate (fn.ntmps - args.length) .bot,[]⟩ [.t k] (fun r=>(g r,[]))).rf:=by kernel_rfl):zD Tryz.prog f args (g r) []:=
 CtT t (fun r=>(g r,[])) (rs:=[.t k]) (vs:=[.tmp k]) hf hb hvs (.cons rfl FitsL.nil) h hO
@[reducible] def q78 (F:Nat→Int×Int×Int) (tl:List Tr):List Tr:=Ti ((F 0).1)::Ti ((F 0).2.1)::Ti ((F 0).2.2)::Ti ((F 1).1)::Ti ((F 1).2.1)::Ti ((F 1).2.2)::Ti ((F 2).1)::Ti ((F 2).2.1)::Ti ((F 2).2.2)::Ti ((F 3).1)::Ti ((F 3).2.1)::Ti ((F 3).2.2)::Ti ((F 4).1)::Ti ((F 4).2.1)::Ti ((F 4).2.2)::Ti ((F 5).1)::Ti ((F 5).2.1)::Ti ((F 5).2.2)::Ti ((F 6).1)::Ti ((F 6).2.1)::Ti ((F 6).2.2)::Ti ((F 7).1)::Ti ((F 7).2.1)::Ti ((F 7).2.2)::Ti ((F 8).1)::Ti ((F 8).2.1)::Ti ((F 8).2.2)::Ti ((F 9).1)::Ti ((F 9).2.1)::Ti ((F 9).2.2)::Ti ((F 10).1)::Ti ((F 10).2.1)::Ti ((F 10).2.2)::Ti ((F 11).1)::Ti ((F 11).2.1)::Ti ((F 11).2.2)::Ti ((F 12).1)::Ti ((F 12).2.1)::Ti ((F 12).2.2)::Ti ((F 13).1)::Ti ((F 13).2.1)::Ti ((F 13).2.2)::Ti ((F 14).1)::Ti ((F 14).2.1)::Ti ((F 14).2.2)::Ti ((F 15).1)::Ti ((F 15).2.1)::Ti ((F 15).2.2)::Ti ((F 16).1)::Ti ((F 16).2.1)::Ti ((F 16).2.2)::Ti ((F 17).1)::Ti ((F 17).2.1)::Ti ((F 17).2.2)::Ti ((F 18).1)::Ti ((F 18).2.1)::Ti ((F 18).2.2)::Ti ((F 19).1)::Ti ((F 19).2.1)::Ti ((F 19).2.2)::Ti ((F 20).1)::Ti ((F 20).2.1)::Ti ((F 20).2.2)::Ti ((F 21).1)::Ti ((F 21).2.1)::Ti ((F 21).2.2)::Ti ((F 22).1)::Ti ((F 22).2.1)::Ti ((F 22).2.2)::Ti ((F 23).1)::Ti ((F 23).2.1)::Ti ((F 23).2.2)::Ti ((F 24).1)::Ti ((F 24).2.1)::Ti ((F 24).2.2)::Ti ((F 25).1)::Ti ((F 25).2.1)::Ti ((F 25).2.2)::tl
def c9 (x:ByteArray):List Tr:=[.v (.string x)]
def c42 (x:τF):List Tr:=[Ti x.1,Ti x.2.1,Ti x.2.2]
def c53 (x:τS):List Tr:=[Ti x.1,.v (.string x.2.1),.sl (x.2.2.map c42)]
def c3 (x:Int):List Tr:=[Ti x]
def c5 (x:Int):List Tr:=[.v (.int .u8 x)]
def c181 (x:(Int×Int)):List Tr:=[Ti x.1,Ti x.2]
def c184 (x:(Int×Int)):List Tr:=[Ti x.1,Ti x.2]
def c62 (x:τI):List Tr:=(Ti x.1::q78 (x.2) [])
def ct3:CT Int:=⟨c3,1,fun _=>rfl⟩
def ct9:CT ByteArray:=⟨c9,1,fun _=>rfl⟩
def ct42:CT τF:=⟨c42,3,fun _=>rfl⟩
def ct53:CT τS:=⟨c53,3,fun _=>rfl⟩
def ct62:CT τI:=⟨c62,79,fun _=>rfl⟩
def zFs:CT (Int×Int):=⟨c181,2,fun _=>rfl⟩
def zG5:CT (Int×Int):=⟨c184,2,fun _=>rfl⟩
def zv3:Value:=.int .i64 0
def zv5:Value:=.int .u8 0
def zv42:Value:=.agg #[.int .i64 0,.int .i64 0,.int .i64 0]
theorem zf42:(Tryz.prog.info? 42).bind (·.zero)=some zv42:=by kernel_rfl
def z1S:Value:=.agg #[.string ByteArray.empty,.slice none 0 0,.int .i64 0,.int .i64 0,.int .i64 0,.int .i64 0]
theorem z5O:(Tryz.prog.info? 111).bind (·.zero)=some z1S:=by kernel_rfl
theorem iz3:(Tryz.prog.info? 3).map (fun i=>(i.zero,i.size))=some (some zv3,1):=by kernel_rfl
theorem iz5:(Tryz.prog.info? 5).map (fun i=>(i.zero,i.size))=some (some zv5,1):=by kernel_rfl
theorem izb3:(Tryz.prog.info? 3).map (fun i=>(i.zero,i.size,i.bytes))=some (some zv3,1,8):=by kernel_rfl
theorem sc3:zIg Tryz.prog 3:=⟨_,Tryz.underlying3,rfl⟩
theorem sc9:zIg Tryz.prog 9:=⟨_,Tryz.underlying9,rfl⟩
theorem sc22:zIg Tryz.prog 22:=⟨_,Tryz.underlying22,rfl⟩
theorem sc37:zIg Tryz.prog 37:=⟨_,Tryz.underlying37,rfl⟩
theorem z54:zIg Tryz.prog 162:=⟨_,Tryz.underlying162,rfl⟩
theorem sz3:(Tryz.prog.info? 3).map (·.size)=some 1:=by kernel_rfl
theorem sz9:(Tryz.prog.info? 9).map (·.size)=some 1:=by kernel_rfl
theorem sz22:(Tryz.prog.info? 22).map (·.size)=some 1:=by kernel_rfl
theorem sz37:(Tryz.prog.info? 37).map (·.size)=some 1:=by kernel_rfl
theorem sz42:(Tryz.prog.info? 42).map (·.size)=some 3:=by kernel_rfl
theorem zUO:(Tryz.prog.info? 111).map (·.size)=some 6:=by kernel_rfl
theorem z5Y:(Tryz.prog.info? 162).map (·.size)=some 1:=by kernel_rfl
theorem wd42:wide Tryz.prog 42 3:=⟨⟨_,Tryz.underlying42,rfl⟩,by kernel_rfl⟩
theorem wd98:wide Tryz.prog 98 5:=⟨⟨_,Tryz.underlying98,rfl⟩,by kernel_rfl⟩
theorem z5T:wide Tryz.prog 111 6:=⟨⟨_,Tryz.underlying111,rfl⟩,by kernel_rfl⟩
theorem zFE:wide Tryz.prog 120 4:=⟨⟨_,Tryz.underlying120,rfl⟩,by kernel_rfl⟩
theorem wd159:wide Tryz.prog 159 12:=⟨⟨_,Tryz.underlying159,rfl⟩,by kernel_rfl⟩
theorem wd223:wide Tryz.prog 223 3:=⟨⟨_,Tryz.underlying223,rfl⟩,by kernel_rfl⟩
def pl42:Nat→Option (Nat×Nat):=fun i=>(#[(0,1),(1,1),(2,1)]:Array (Nat×Nat))[i]?
theorem bt42:∀ps,Tryz.prog.built 42 ps=Instr.fill pl42 #[.int .i64 0,.int .i64 0,.int .i64 0] ps:=fun ps=>by kernel_rfl
def pl53:Nat→Option (Nat×Nat):=fun i=>(#[(0,1),(1,1),(2,1)]:Array (Nat×Nat))[i]?
theorem bt53:∀ps,Tryz.prog.built 53 ps=Instr.fill pl53 #[.int .i64 0,.string ByteArray.empty,.slice none 0 0] ps:=fun ps=>by kernel_rfl
def pl56:Nat→Option (Nat×Nat):=fun i=>(#[(0,3),(3,1)]:Array (Nat×Nat))[i]?
theorem bt56:∀ps,Tryz.prog.built 56 ps=Instr.fill pl56 #[.int .i64 0,.string ByteArray.empty,.slice none 0 0,.slice none 0 0] ps:=fun ps=>by kernel_rfl
def pl62:Nat→Option (Nat×Nat):=fun i=>(#[(0,1),(1,78)]:Array (Nat×Nat))[i]?
theorem bt62:∀ps,Tryz.prog.built 62 ps=Instr.fill pl62 #[.int .i64 0,.int .i64 0,.int .i64 0,.int .i64 0,.int .i64 0,.int .i64 0,.int .i64 0,.int .i64 0,.int .i64 0,.int .i64 0,.int .i64 0,.int .i64 0,.int .i64 0,.int .i64 0,.int .i64 0,.int .i64 0,.int .i64 0,.int .i64 0,.int .i64 0,.int .i64 0,.int .i64 0,.int .i64 0,.int .i64 0,.int .i64 0,.int .i64 0,.int .i64 0,.int .i64 0,.int .i64 0,.int .i64 0,.int .i64 0,.int .i64 0,.int .i64 0,.int .i64 0,.int .i64 0,.int .i64 0,.int .i64 0,.int .i64 0,.int .i64 0,.int .i64 0,.int .i64 0,.int .i64 0,.int .i64 0,.int .i64 0,.int .i64 0,.int .i64 0,.int .i64 0,.int .i64 0,.int .i64 0,.int .i64 0,.int .i64 0,.int .i64 0,.int .i64 0,.int .i64 0,.int .i64 0,.int .i64 0,.int .i64 0,.int .i64 0,.int .i64 0,.int .i64 0,.int .i64 0,.int .i64 0,.int .i64 0,.int .i64 0,.int .i64 0,.int .i64 0,.int .i64 0,.int .i64 0,.int .i64 0,.int .i64 0,.int .i64 0,.int .i64 0,.int .i64 0,.int .i64 0,.int .i64 0,.int .i64 0,.int .i64 0,.int .i64 0,.int .i64 0,.int .i64 0] ps:=fun ps=>by kernel_rfl
def pl65:Nat→Option (Nat×Nat):=fun i=>(#[(0,79),(79,1),(80,1)]:Array (Nat×Nat))[i]?
theorem bt65:∀ps,Tryz.prog.built 65 ps=Instr.fill pl65 #[.int .i64 0,.int .i64 0,.int .i64 0,.int .i64 0,.int .i64 0,.int .i64 0,.int .i64 0,.int .i64 0,.int .i64 0,.int .i64 0,.int .i64 0,.int .i64 0,.int .i64 0,.int .i64 0,.int .i64 0,.int .i64 0,.int .i64 0,.int .i64 0,.int .i64 0,.int .i64 0,.int .i64 0,.int .i64 0,.int .i64 0,.int .i64 0,.int .i64 0,.int .i64 0,.int .i64 0,.int .i64 0,.int .i64 0,.int .i64 0,.int .i64 0,.int .i64 0,.int .i64 0,.int .i64 0,.int .i64 0,.int .i64 0,.int .i64 0,.int .i64 0,.int .i64 0,.int .i64 0,.int .i64 0,.int .i64 0,.int .i64 0,.int .i64 0,.int .i64 0,.int .i64 0,.int .i64 0,.int .i64 0,.int .i64 0,.int .i64 0,.int .i64 0,.int .i64 0,.int .i64 0,.int .i64 0,.int .i64 0,.int .i64 0,.int .i64 0,.int .i64 0,.int .i64 0,.int .i64 0,.int .i64 0,.int .i64 0,.int .i64 0,.int .i64 0,.int .i64 0,.int .i64 0,.int .i64 0,.int .i64 0,.int .i64 0,.int .i64 0,.int .i64 0,.int .i64 0,.int .i64 0,.int .i64 0,.int .i64 0,.int .i64 0,.int .i64 0,.int .i64 0,.int .i64 0,.slice none 0 0,.slice none 0 0] ps:=fun ps=>by kernel_rfl
def zUS:Nat→Option (Nat×Nat):=fun i=>(#[(0,1),(1,1),(2,3),(5,1)]:Array (Nat×Nat))[i]?
theorem zYI:∀ps,Tryz.prog.built 111 ps=Instr.fill zUS #[.string ByteArray.empty,.slice none 0 0,.int .i64 0,.int .i64 0,.int .i64 0,.int .i64 0] ps:=fun ps=>by kernel_rfl
def zDT:Nat→Option (Nat×Nat):=fun i=>(#[(0,1),(1,1),(2,1),(3,1)]:Array (Nat×Nat))[i]?
theorem zDc:∀ps,Tryz.prog.built 120 ps=Instr.fill zDT #[.int .i64 0,.int .i64 0,.int .i64 0,.int .i64 0] ps:=fun ps=>by kernel_rfl
def z57:Nat→Option (Nat×Nat):=fun i=>(#[(0,1),(1,1),(2,1),(3,1),(4,4),(8,4)]:Array (Nat×Nat))[i]?
theorem bt159:∀ps,Tryz.prog.built 159 ps=Instr.fill z57 #[.int .i64 0,.int .i64 0,.int .i64 0,.int .i64 0,.int .i64 0,.int .i64 0,.int .i64 0,.int .i64 0,.int .i64 0,.int .i64 0,.int .i64 0,.int .i64 0] ps:=fun ps=>by kernel_rfl
def z56:Nat→Option (Nat×Nat):=fun i=>(#[(0,1),(1,1)]:Array (Nat×Nat))[i]?
theorem bt164:∀ps,Tryz.prog.built 164 ps=Instr.fill z56 #[.slice none 0 0,.map none] ps:=fun ps=>by kernel_rfl
def zIv:Nat→Option (Nat×Nat):=fun i=>(#[(0,1),(1,1)]:Array (Nat×Nat))[i]?
theorem zKU:∀ps,Tryz.prog.built 181 ps=Instr.fill zIv #[.int .i64 0,.int .i64 0] ps:=fun ps=>by kernel_rfl
def zZu:Nat→Option (Nat×Nat):=fun i=>(#[(0,1),(1,1)]:Array (Nat×Nat))[i]?
theorem z3X:∀ps,Tryz.prog.built 184 ps=Instr.fill zZu #[.int .i64 0,.int .i64 0] ps:=fun ps=>by kernel_rfl
def z55:Nat→Option (Nat×Nat):=fun i=>(#[(0,1),(1,1),(2,1)]:Array (Nat×Nat))[i]?
theorem bt223:∀ps,Tryz.prog.built 223 ps=Instr.fill z55 #[.int .i64 0,.int .i64 0,.int .i64 0] ps:=fun ps=>by kernel_rfl
theorem zU6:zUp Tryz.prog .eql 42:=by
 intro a0 a1 a2 b0 b1 b2 x y w;have hg:(eqGuard .eql 42 x y (.agg #[.int .i64 a0,.int .i64 a1,.int .i64 a2]) (.agg #[.int .i64 b0,.int .i64 b1,.int .i64 b2])).run Tryz.prog w=.ok () w:=by simp[eqGuard,(by kernel_rfl:Tryz.prog.eqGuardType Tryz.prog.depth 42=false)]
 have hf:(Tryz.prog.fieldsOf 42).toList=(match Tryz.prog.underlying 42 with|some (.struct fs)=>fs.toList|_=>[]):=by kernel_rfl
 refine⟨hg,?_⟩;rw[run_eql_struct,run_equalIn_agg (d:=9999) (ht:=by kernel_rfl) (hp:=by kernel_rfl),hf,Tryz.underlying42];by_cases h0:a0=b0<;>by_cases h1:a1=b1<;>by_cases h2:a2=b2<;>simp[Op.eqFields,part,go_sem,h0,h1,h2]
theorem zZx:zUp Tryz.prog .neq 42:=by
 intro a0 a1 a2 b0 b1 b2 x y w;have hg:(eqGuard .neq 42 x y (.agg #[.int .i64 a0,.int .i64 a1,.int .i64 a2]) (.agg #[.int .i64 b0,.int .i64 b1,.int .i64 b2])).run Tryz.prog w=.ok () w:=by simp[eqGuard,(by kernel_rfl:Tryz.prog.eqGuardType Tryz.prog.depth 42=false)]
 have hf:(Tryz.prog.fieldsOf 42).toList=(match Tryz.prog.underlying 42 with|some (.struct fs)=>fs.toList|_=>[]):=by kernel_rfl
 refine⟨hg,?_⟩;rw[run_neq_struct,run_equalIn_agg (d:=9999) (ht:=by kernel_rfl) (hp:=by kernel_rfl),hf,Tryz.underlying42];by_cases h0:a0=b0<;>by_cases h1:a1=b1<;>by_cases h2:a2=b2<;>simp[Op.eqFields,part,go_sem,h0,h1,h2]
theorem z6r:z4F Tryz.prog .eql 184:=by
 intro a0 a1 b0 b1 x y w;have hg:(eqGuard .eql 184 x y (.agg #[.int .i64 a0,.int .i64 a1]) (.agg #[.int .i64 b0,.int .i64 b1])).run Tryz.prog w=.ok () w:=by simp[eqGuard,(by kernel_rfl:Tryz.prog.eqGuardType Tryz.prog.depth 184=false)]
 have hf:(Tryz.prog.fieldsOf 184).toList=(match Tryz.prog.underlying 184 with|some (.struct fs)=>fs.toList|_=>[]):=by kernel_rfl
 refine⟨hg,?_⟩;rw[run_eql_struct,run_equalIn_agg (d:=9999) (ht:=by kernel_rfl) (hp:=by kernel_rfl),hf,Tryz.underlying184];by_cases h0:a0=b0<;>by_cases h1:a1=b1<;>simp[Op.eqFields,part,go_sem,h0,h1]
def zEE (x:ByteArray):Value:=.string x
def zF6 (x:ByteArray):Value:=.string x
def kv156 (p:ByteArray×ByteArray):Value×Value:=(zEE p.1,zF6 p.2)
theorem kt156:KeyT Tryz.prog 9 zEE:=by
 refine z2W (.string) Tryz.underlying9 (fun b a w=>?_) (fun a b=>?_) (fun a=>?_)
 ·exact MapKept.run_checkKey Tryz.underlying9 (by simp[MapKept.IsKey,zEE]) b 9999
 ·simp[zEE,Instr.sameNow,z34]
 ·simp[zEE,Instr.sameBits,z34]
theorem zG0:MpOk Tryz.prog 156 zEE zF6 ByteArray.empty:=⟨9,9,Tryz.underlying156,kt156,by kernel_rfl,fun _=>rfl⟩
def zU7 (x:τF):Value:=.agg #[.int .i64 x.1,.int .i64 x.2.1,.int .i64 x.2.2]
def z0O (x:Int):Value:=.int .i64 x
def zED (p:τF×Int):Value×Value:=(zU7 p.1,z0O p.2)
theorem kt162:KeyT Tryz.prog 42 zU7:=by
 have hf:(Tryz.prog.fieldsOf 42).toList=(match Tryz.prog.underlying 42 with|some (.struct fs)=>fs.toList|_=>[]):=by kernel_rfl
 refine z2X _ Tryz.underlying42 (fun b a w=>?_) (fun a b w=>?_) (fun _ _=>rfl) (fun a=>?_)
 ·obtain⟨a0,a1,a2⟩:=a;have hi:∀(b:Bool) (a:Int) (w:World),(Instr.checkKey b 9999 3 (.int .i64 a)).run Tryz.prog w=.ok () w:=fun b a w=>MapKept.run_checkKey Tryz.underlying3 (by simp[MapKept.IsKey]) b 9998;show (Instr.checkKey b (9998+1+1) _ (.agg #[.int .i64 a0,.int .i64 a1,.int .i64 a2])).run _ w=_;unfold Instr.checkKey;simp[part,go_sem,hi]
 ·obtain⟨a0,a1,a2⟩:=a;obtain⟨b0,b1,b2⟩:=b;unfold zU7;rw[show Op.equal 42=Op.equalIn 10000 42 from rfl,run_equalIn_agg (d:=9999) (ht:=by kernel_rfl) (hp:=by kernel_rfl),hf,Tryz.underlying42];by_cases h0:a0=b0<;>by_cases h1:a1=b1<;>by_cases h2:a2=b2<;>simp[Op.eqFields,part,go_sem,h0,h1,h2]
 ·obtain⟨a0,a1,a2⟩:=a;exact z1H 9999 [a0,a1,a2]
theorem z5a:MpOk Tryz.prog 162 zU7 z0O 0:=⟨42,3,Tryz.underlying162,kt162,by kernel_rfl,fun _=>rfl⟩
def zPo (a0:ByteArray) (a1:ByteArray):=fC zH2 (jW a0 a1) fun _=>zIL
def zAk (a0:Int):=fC zFn (qJ a0) fun _=>zGS
def zS5 (a0:List ByteArray) (a1:ByteArray):=fC zPX (zCK a0 a1) fun _=>zQt
theorem zP3:CfW Tryz.prog 64:=cfW Tryz.func64
noncomputable def zQ2 (vs1:ByteArray) (b2:Int):T Tryz.prog (List ByteArray):=
 .n1 (nilN 9 1 (by decide))<|
 .n1 (nilN 9 1 (by decide))<|
 .loop (fun n X_1=>zA5 b2 vs1 n X_1.1 X_1.2.1 X_1.2.2) ((0,0,([]:List ByteArray))) (mb 34 227) [40] (fun s X_1 γ=>s.pc (mb 34 227) [40] [(6,I X_1.1),(7,I X_1.2.1)] [(40,.arr 9 1 (X_1.2.2.map c9))]) (fun X_1=>
 .cond (ltI X_1.2.1 ((vs1.size:Int))) (.op0 (idxs vs1 X_1.2.1) fun e9=>
 .cond (eqI e9 b2) (.op0 (zHi vs1 X_1.1 X_1.2.1) fun u11=>.n1 bsl<|.opx (app ct9 X_1.2.2 ([vs1.extract (Int.toNat X_1.1) (Int.toNat X_1.2.1)])) fun u12=>
 .frc (w64 (X_1.2.1+1)) fun vfrom13=>
 .frc (w64 (X_1.2.1+1)) fun i14=>.ret (.inl ((vfrom13,i14,X_1.2.2++([vs1.extract (Int.toNat X_1.1) (Int.toNat X_1.2.1)])))))<|
 .frc (w64 (X_1.2.1+1)) fun i15=>.ret (.inl ((X_1.1,i15,X_1.2.2))))<|.ret (.inr ((X_1.1,X_1.2.2)))) (mb 34 97) [40] (fun s o7 γ=>s.pc (mb 34 97) [40] [(6,I o7.1)] [(40,.arr 9 1 (o7.2.map c9))]) fun o7=>
 .op0 (zHi vs1 o7.1 ((vs1.size:Int))) fun u16=>.n1 bsl<|.opx (app ct9 o7.2 ([vs1.extract (Int.toNat o7.1) (Int.toNat ((vs1.size:Int)))])) fun u17=>
 .lt (o7.2++([vs1.extract (Int.toNat o7.1) (Int.toNat ((vs1.size:Int)))])) fun l18=>.ret l18
theorem zQz {vs1:ByteArray} {b2:Int} {r:List ByteArray} (h:zAd vs1 b2=some r):zD Tryz.prog 64 [.c (.v (.string vs1)),.c (.v (.int .u8 b2))] (.ow 0) [(0,.arr 9 1 (r.map c9))]:=CtT (zQ2 vs1 b2) (fun r=>(.ow 0,[(0,.arr 9 1 (r.map c9))])) (rs:=[.t 4]) (vs:=[.tmp 4]) Tryz.func64 rfl rfl (.cons rfl FitsL.nil) h
def zGe (vs1:ByteArray) (b2:Int):=fC zP3 (zAd vs1 b2) fun _=>zQz
theorem zP1:CfW Tryz.prog 46:=cfW Tryz.func46
noncomputable def zQ0 (vs1:ByteArray) (bytes2:Int) (most3:Int):T Tryz.prog (((List ByteArray)×Bool)):=
 .n1 (nilN 9 1 (by decide))<|
 .dn<|.joinC (.seqT (.cond (ltI bytes2 ((vs1.size:Int))) (.ret true) (.seqT (.cond (!(vs1.toList==((⟨#[]⟩:ByteArray)).toList)) (.op0 (idxs vs1 (w64 (((vs1.size:Int)) - 1))) fun e6=>.ret (!eqI e6 10)) (.ret false)) fun b7=>.ret b7)) fun b8=>.ret b8) (mb 37 16777221) [] (fun s q_1 γ=>s.pc (mb 37 16777221) [] [(24,Bo q_1)] []) fun q_1=>
 .cond q_1 (.n1 (nilN 9 1 (by decide))<|
 .late (frzH 48)<|.ret ((([]:List ByteArray),false)))<|.op1 (zGe vs1 10) fun y10=>
 .n0 (lenM ct9 y10)<|.hint (frzH 208)<|.op0 (slice ct9 y10 0 (w64 (((y10.length:Int)) - 1))) fun u11=>
 .n0 (lenM ct9 (subl y10 0 (w64 (((y10.length:Int)) - 1))))<|
 .lt (leI (((subl y10 0 (w64 (((y10.length:Int)) - 1))).length:Int)) most3) fun t12=>.ret ((subl y10 0 (w64 (((y10.length:Int)) - 1)),t12))
theorem zQx {vs1:ByteArray} {bytes2:Int} {most3:Int} {r:((List ByteArray)×Bool)} (h:zDY vs1 bytes2 most3=some r):zD Tryz.prog 46 [.c (.v (.string vs1)),I bytes2,I most3] (.tc (.c (.sl (r.1.map c9))) (.tc (Bo r.2) .tn)) []:=CtT (zQ0 vs1 bytes2 most3) (fun r=>(.tc (.c (.sl (r.1.map c9))) (.tc (Bo r.2) .tn),[])) (rs:=[.t 6,.t 7]) (vs:=[.tmp 6,.tmp 7]) Tryz.func46 rfl rfl (.cons rfl (.cons rfl FitsL.nil)) h
def zS8 (vs1:ByteArray) (bytes2:Int) (most3:Int):=fC zP1 (zDY vs1 bytes2 most3) fun _=>zQx
theorem zTh:CfW Tryz.prog 47:=cfW Tryz.func47
noncomputable def zVA:T Tryz.prog ((τS×(List τS))):=
 .n0 (bld pl53 bt53)<|.n0 (bld pl56 bt56)<|
 .ret (((-23,ByteArray.empty,([]:List τF)),([]:List τS)))
theorem zVY {r:(τS×(List τS))} (h:zEf=some r):zD Tryz.prog 47 [] (.pt 0 0) [(0,.box [Ti r.1.1,.v (.string r.1.2.1),.v (.slice none 0 0),.v (.slice none 0 0)])]:=CbT (zVA) 0 (fun r=>[Ti r.1.1,.v (.string r.1.2.1),.v (.slice none 0 0),.v (.slice none 0 0)]) Tryz.func47 rfl rfl h
def zWq:=fC zTh (zEf) fun _=>zVY
theorem zPZ:CfW Tryz.prog 89:=cfW Tryz.func89
noncomputable def zQY (word1:ByteArray):T Tryz.prog ((ByteArray×Bool)):=
 .lt (word1.toList==((⟨#[100,105,115,99]⟩:ByteArray)).toList) fun t2=>.cond t2 (
 .ret (((⟨#[110]⟩:ByteArray),true)))<|
 .cond (word1.toList==((⟨#[115,101,116]⟩:ByteArray)).toList) (
 .ret (((⟨#[108,102]⟩:ByteArray),true)))<|.join (
 .lt (word1.toList==((⟨#[112,114,105,109,101]⟩:ByteArray)).toList) fun t6=>.cond t6 (.ret t6)<|
 .lt (word1.toList==((⟨#[118,97,108,117,101]⟩:ByteArray)).toList) fun t8=>.ret t8) (mb 27 528) [] (fun s j5 γ=>s.pc (mb 27 528) [] [(9,Bo j5)] []) fun j5=>
 .cond j5 (
 .ret (((⟨#[108,110]⟩:ByteArray),true)))<|
 .cond (word1.toList==((⟨#[109,117,108]⟩:ByteArray)).toList) (
 .ret (((⟨#[108,108,108]⟩:ByteArray),true)))<|
 .cond (word1.toList==((⟨#[112,111,119]⟩:ByteArray)).toList) (
 .ret (((⟨#[108,108,110]⟩:ByteArray),true)))<|
 .lt (word1.toList==((⟨#[115,97,109,101]⟩:ByteArray)).toList) fun t12=>.cond t12 (
 .ret (((⟨#[108,108]⟩:ByteArray),true)))<|.join (
 .lt (word1.toList==((⟨#[102,114,101,101]⟩:ByteArray)).toList) fun t15=>.cond t15 (.ret t15)<|
 .lt (word1.toList==((⟨#[115,104,111,119]⟩:ByteArray)).toList) fun t17=>.cond t17 (.ret t17)<|
 .lt (word1.toList==((⟨#[105,110,100,101,120]⟩:ByteArray)).toList) fun t19=>.cond t19 (.ret t19)<|
 .lt (word1.toList==((⟨#[111,114,100,101,114]⟩:ByteArray)).toList) fun t21=>.cond t21 (.ret t21)<|
 .lt (word1.toList==((⟨#[103,101,110,117,115]⟩:ByteArray)).toList) fun t23=>.ret t23) (mb 27 262160) [] (fun s j14 γ=>s.pc (mb 27 262160) [] [(18,Bo j14)] []) fun j14=>
 .cond j14 (
 .ret (((⟨#[108]⟩:ByteArray),true)))<|
 .lt (word1.toList==((⟨#[110,97,109,101,115]⟩:ByteArray)).toList) fun t25=>.cond t25 (.cond t25 (
 .ret (((⟨#[]⟩:ByteArray),true)))<|
 .ret (((⟨#[]⟩:ByteArray),false)))<|
 .lt (word1.toList==((⟨#[117,110,100,111]⟩:ByteArray)).toList) fun t28=>.cond t28 (
 .ret (((⟨#[]⟩:ByteArray),true)))<|
 .ret (((⟨#[]⟩:ByteArray),false))
theorem zQv {word1:ByteArray} {r:(ByteArray×Bool)} (h:zCk word1=some r):zD Tryz.prog 89 [.c (.v (.string word1))] (.tc (.c (.v (.string r.1))) (.tc (Bo r.2) .tn)) []:=CtT (zQY word1) (fun r=>(.tc (.c (.v (.string r.1))) (.tc (Bo r.2) .tn),[])) (rs:=[.t 2,.t 3]) (vs:=[.tmp 2,.tmp 3]) Tryz.func89 rfl rfl (.cons rfl (.cons rfl FitsL.nil)) h
def zS7 (word1:ByteArray):=fC zPZ (zCk word1) fun _=>zQv
theorem zNu:CfW Tryz.prog 90:=cfW Tryz.func90
noncomputable def zOo (w1:ByteArray):T Tryz.prog Bool:=
 .pl<|.joinC (.seqT (.cond (eqI ((w1.size:Int)) 1) (.op0 (idxs w1 0) fun e3=>.ret (leI 97 e3)) (.ret false)) fun b4=>.seqT (.cond b4 (.op0 (idxs w1 0) fun e6=>.ret (leI e6 122)) (.ret false)) fun b7=>.ret (b4,b7)) (mb 16 4) [] (fun s q_1 γ=>s.pc (mb 16 4) [] [(2,Bo q_1.2)] []) fun q_1=>
 .ret q_1.2
theorem zPF {w1:ByteArray} {r:Bool} (h:jY w1=some r):zD Tryz.prog 90 [.c (.v (.string w1))] (Bo r) []:=CtU (zOo w1) 2 (fun r=>Bo r) Tryz.func90 rfl rfl h
def zPq (w1:ByteArray):=fC zNu (jY w1) fun _=>zPF
theorem zOB:CfW Tryz.prog 136:=cfW Tryz.func136
noncomputable def zOv (vs1:ByteArray) (first2:Int) (last3:Int):T Tryz.prog ((ByteArray×Bool)):=
 .pl<|.dn<|.joinC (.seqT (.cond (ltI ((vs1.size:Int)) 2) (.ret true) (.op0 (idxs vs1 0) fun e5=>.ret (!eqI e5 first2))) fun b6=>.seqT (.cond b6 (.ret true) (.op0 (idxs vs1 (w64 (((vs1.size:Int)) - 1))) fun e8=>.ret (!eqI e8 last3))) fun b9=>.ret (b6,b9)) (mb 31 33554433) [] (fun s q_1 γ=>s.pc (mb 31 33554433) [] [(25,Bo q_1.2)] []) fun q_1=>
 .cond q_1.2 (
 .ret (((⟨#[]⟩:ByteArray),false)))<|.op0 (zHi vs1 1 (w64 (((vs1.size:Int)) - 1))) fun u11=>
 .ret ((vs1.extract (Int.toNat 1) (Int.toNat (w64 (((vs1.size:Int)) - 1))),true))
theorem zPM {vs1:ByteArray} {first2:Int} {last3:Int} {r:(ByteArray×Bool)} (h:zBU vs1 first2 last3=some r):zD Tryz.prog 136 [.c (.v (.string vs1)),.c (.v (.int .u8 first2)),.c (.v (.int .u8 last3))] (.tc (.c (.v (.string r.1))) (.tc (Bo r.2) .tn)) []:=CtT (zOv vs1 first2 last3) (fun r=>(.tc (.c (.v (.string r.1))) (.tc (Bo r.2) .tn),[])) (rs:=[.t 6,.t 7]) (vs:=[.tmp 6,.tmp 7]) Tryz.func136 rfl rfl (.cons rfl (.cons rfl FitsL.nil)) h
def zPw (vs1:ByteArray) (first2:Int) (last3:Int):=fC zOB (zBU vs1 first2 last3) fun _=>zPM
theorem zW4:CfW Tryz.prog 93:=cfW Tryz.func93
noncomputable def zXL (vn1:Int) (lo2:Int) (hi3:Int):T Tryz.prog Bool:=
 .pl<|.joinC (.selB (leI lo2 vn1) true [] fun w_2=>.ret w_2) (mb 15 64) [] (fun s q_3 γ=>s.pc (mb 15 64) [] [(6,Bo (bif q_3 then (leI vn1 hi3) else false))] []) fun q_3=>
 .ret (bif q_3 then (leI vn1 hi3) else false)
theorem zX0 {vn1:Int} {lo2:Int} {hi3:Int} {r:Bool} (h:zAu vn1 lo2 hi3=some r):zD Tryz.prog 93 [I vn1,I lo2,I hi3] (Bo r) []:=CtU (zXL vn1 lo2 hi3) 6 (fun r=>Bo r) Tryz.func93 rfl rfl h
def zE3 (vn1:Int) (lo2:Int) (hi3:Int):=fC zW4 (zAu vn1 lo2 hi3) fun _=>zX0
theorem zRz:CfW Tryz.prog 138:=cfW Tryz.func138
noncomputable def zSw (vs1:ByteArray):T Tryz.prog Int:=
 .pl<|.dn<|.joinC (.op1 (zE3 ((vs1.size:Int)) 1 10) fun y2=>.seqT (.cond (!y2) (.ret true) (.op0 (idxs vs1 0) fun e4=>.selB (eqI e4 48) true [] fun w_4=>.ret (bif w_4 then (ltI 1 ((vs1.size:Int))) else false))) fun b6=>.ret (y2,b6)) (mb 44 262145) [] (fun s q_7 γ=>s.pc (mb 44 262145) [] [(18,Bo q_7.2)] []) fun q_7=>
 .cond q_7.2 (
 .ret (-1))<|
 .loopS (fun n X_6=>zBI vs1 n X_6.1 X_6.2) ((0,0)) (mb 44 25) [] (fun s X_6 γ=>s.pc (mb 44 25) [] [(3,I X_6.1),(4,I X_6.2)] []) (fun X_6=>
 .cond (ltI X_6.2 ((vs1.size:Int))) (.pl<|.dn<|.dn<|.joinC (.op0 (idxs vs1 X_6.2) fun e13=>.seqT (.cond (ltI e13 48) (.ret true) (.op0 (idxs vs1 X_6.2) fun e15=>.ret (ltI 57 e15))) fun b16=>.ret (e13,b16)) (mb 44 17179869209) [] (fun s q_5 γ=>s.pc (mb 44 17179869209) [] [(34,Bo q_5.2)] []) fun q_5=>
 .cond q_5.2 (
 .ret (.early (-1)))<|.op0 (idxs vs1 X_6.2) fun e18=>.n0 au<|.n0 au<|
 .frc (w64 ((w64 (10*X_6.1))+(IntKind.i64.wrap (IntKind.u8.wrap (e18 - 48))))) fun vn19=>
 .frc (w64 (X_6.2+1)) fun i20=>.ret (.again ((vn19,i20))))<|.ret (.done X_6.1)) (mb 44 8) [] (fun s o11 γ=>s.pc (mb 44 8) [] [(3,I o11)] []) (fun r=>r) fun o11=>
 .ret o11
theorem zTT {vs1:ByteArray} {r:Int} (h:zFQ vs1=some r):zD Tryz.prog 138 [.c (.v (.string vs1))] (I r) []:=CtU (zSw vs1) 2 (fun r=>I r) Tryz.func138 rfl rfl h
theorem zTp:∀args w,(callFunc 92 args).run Tryz.prog w=.ok (.enter 92 args) w:=jD Tryz.func92 kk kk
set_option maxRecDepth 100000 in
set_option maxHeartbeats 400000 in
theorem zV7 {vs1:ByteArray} {r:(Int×Bool)} (h:zBK vs1=some r):zD Tryz.prog 92 [.c (.v (.string vs1))] (.tc (I r.1) (.tc (Bo r.2) .tn)) []:=by
  refine zAj (rs:=[.t 2,.t 3]) (vs:=[.tmp 2,.tmp 3]) Tryz.func92 rfl rfl (.cons rfl (.cons rfl FitsL.nil)) (by decide) 36 rfl ?_
  unfold zBK at h;show V _ _ ⟨.c (.v (.string vs1))::bt 35 [],[]⟩ _;refine qZ (mb 36 1) [] (s1:=⟨.c (.v (.string vs1))::bt 35 [],[]⟩) ?_ ?_
  ·refine L0 rfl rfl (zF (I 0) rfl kk) ?_
   refine L0 rfl rfl (zF (Bo false) rfl kk) ?_
   refine zI ?_
   kernel_rfl
  obtain⟨b4,hb4,h⟩:=zV h;refine qZ (mb 36 17) [] (s1:=⟨.c (.v (.string vs1))::bt 3 (Bo b4::bt 31 []),[]⟩) ?_ ?_
  ·refine L0 rfl rfl (zJ (.c (.v (.string vs1))) rfl kk) ?_
   refine L0 rfl rfl (zWe (b:=vs1) Tryz.underlying9 rfl kk) ?_
   refine L0 rfl rfl (zOS (k:=.i64) (a:=(vs1.size:Int)) (b:=1) rfl kk kk) ?_
   refine L0 rfl rfl (zJ (Bo (ltI 1 ((vs1.size:Int)))) rfl kk) ?_
   refine zBC (ltI 1 ((vs1.size:Int))) (fun hc2=>?_) (fun hc2=>?_)
   ·have hb4:=zBy hb4 hc2;obtain⟨e3,he3,hb4⟩:=zV hb4;have hb4:=zU hb4;refine zC _ rfl rfl kk hc2 (zB rfl (zJ (.c (.v (.string vs1))) rfl kk)) ?_
    refine zC _ rfl rfl kk hc2 (zB rfl (zWf (b:=vs1) (k:=.i64) (n:=0) (v:=e3) Tryz.underlying9 rfl kk kk he3)) ?_
    refine zC _ rfl rfl kk hc2 (zB rfl (zIG (k:=.u8) (a:=e3) (b:=45) rfl kk kk)) ?_
    refine zQ rfl (zB rfl (zJi (b:=ltI 1 ((vs1.size:Int))) (p:=eqI e3 45) rfl kk hc2 kk hb4)) ?_
    refine L0 rfl rfl (zF (Bo b4) rfl kk) ?_
    refine zI ?_
    kernel_rfl
   ·have hb4:=zU (zBR hb4 hc2);refine zT _ rfl rfl kk hc2 rfl ?_
    refine zT _ rfl rfl kk hc2 rfl ?_
    refine zT _ rfl rfl kk hc2 rfl ?_
    refine zQ rfl (zB rfl (zJj (b:=ltI 1 ((vs1.size:Int))) (p:=false) rfl kk hc2 kk hb4)) ?_
    refine L0 rfl rfl (zF (Bo b4) rfl kk) ?_
    refine zI ?_
    kernel_rfl
  obtain⟨j5,hj5,h⟩:=zV h;refine z74 (mb 36 17) [] (s1:=⟨.c (.v (.string j5))::bt 3 (Bo b4::bt 31 []),[]⟩) ?_ ?_
  ·clear h;have h:=hj5;clear hj5;refine qZ (mb 36 16401) [] (s1:=⟨.c (.v (.string vs1))::bt 3 (Bo b4::bt 9 (Bo b4::bt 21 [])),[]⟩) ?_ ?_
   ·refine L0 rfl rfl (zJ (Bo b4) rfl kk) ?_
    refine zI ?_
    kernel_rfl
   refine zDO rfl (fun hc6=>?_) (fun hc6=>?_)
   ·have h:=zBy h hc6;obtain⟨u7,hu7,h⟩:=zV h;refine zYQ (mb 36 17) [] (s1:=⟨.c (.v (.string (vs1.extract (Int.toNat 1) (Int.toNat ((vs1.size:Int))))))::bt 3 (Bo b4::bt 31 []),[]⟩) ?_ ?_
    ·refine L0 rfl rfl (zJ (.c (.v (.string vs1))) rfl kk) ?_
     refine L0 rfl rfl (zUl (b:=vs1) (l:=1) (h:=(vs1.size:Int)) Tryz.underlying9 rfl kk (fun y hy=>by cases hy;exact⟨.i64,kk⟩) (fun hh=>by cases hh) (fun y hy=>by cases hy) (fun _=>rfl) (zIe hu7)) ?_
     refine L0 rfl rfl (zF (.c (.v (.string (vs1.extract (Int.toNat 1) (Int.toNat ((vs1.size:Int))))))) rfl kk) ?_
     refine zI ?_
     kernel_rfl
    obtain rfl:=zU h;show St.keep _ _ _=_;rfl
   ·have h:=zBR h hc6;refine zEx ?_
    obtain rfl:=zU h;show St.keep _ _ _=_;rfl
  obtain⟨y8,hy8,h⟩:=zV h;refine qZ (mb 36 48) [] (s1:=⟨bt 4 (Bo b4::I y8::bt 30 []),[]⟩) ?_ ?_
  ·refine L0 rfl rfl (zJ (.c (.v (.string j5))) rfl kk) ?_
   refine L1 rfl rfl (zCA (zTT hy8) zRz rfl kk) ?_
   refine L0 rfl rfl (zF (I y8) rfl kk) ?_
   refine zI ?_
   kernel_rfl
  refine zDI ?_
  obtain⟨t12,ht12,h⟩:=zV h;have ht12:=zU ht12;refine qZ (mb 36 2147483696) [] (s1:=⟨bt 4 (Bo b4::I y8::bt 25 (Bo t12::bt 4 [])),[]⟩) ?_ ?_
  ·refine L0 rfl rfl (zJ (I y8) rfl kk) ?_
   refine L0 rfl rfl (zG9 (k:=.i64) (a:=y8) (b:=0) rfl kk kk) ?_
   refine L0 rfl rfl (zJ (Bo (ltI y8 0)) rfl kk) ?_
   refine zBC (ltI y8 0) (fun hc9=>?_) (fun hc9=>?_)
   ·refine qM _ rfl rfl kk hc9 rfl ?_
    refine qM _ rfl rfl kk hc9 rfl ?_
    refine qE rfl rfl kk rfl ?_
    refine qE rfl rfl kk rfl ?_
    refine qM _ rfl rfl kk hc9 rfl ?_
    refine zQ rfl (zB rfl (zA1 (b:=ltI y8 0) (p:=true) (q:=bif b4 then (eqI y8 0) else false) rfl kk hc9 kk)) ?_
    refine L0 rfl rfl (zJ (Bo (bif (ltI y8 0) then true else (bif b4 then (eqI y8 0) else false))) rfl kk) ?_
    refine zBC (bif (ltI y8 0) then true else (bif b4 then (eqI y8 0) else false)) (fun hc11=>?_) (fun hc11=>?_)
    ·refine qM _ rfl rfl kk hc11 rfl ?_
     refine qM _ rfl rfl kk hc11 rfl ?_
     refine zQ rfl (zB rfl (zA1 (b:=bif (ltI y8 0) then true else (bif b4 then (eqI y8 0) else false)) (p:=true) (q:=ltI 1000000 y8) rfl kk hc11 kk)) ?_
     refine zI ?_
     subst ht12
     kernel_rfl
    ·refine zC _ rfl rfl kk hc11 (zB rfl (zJ (I y8) rfl kk)) ?_
     refine zC _ rfl rfl kk hc11 (zB rfl (zOS (k:=.i64) (a:=y8) (b:=1000000) rfl kk kk)) ?_
     refine zQ rfl (zB rfl (zBB (b:=bif (ltI y8 0) then true else (bif b4 then (eqI y8 0) else false)) (p:=true) (q:=ltI 1000000 y8) rfl kk hc11 kk)) ?_
     refine zI ?_
     subst ht12
     kernel_rfl
   ·refine zC _ rfl rfl kk hc9 (zB rfl (zJ (Bo b4) rfl kk)) ?_
    refine zC _ rfl rfl kk hc9 (zB rfl (zJ (Bo b4) rfl kk)) ?_
    refine zBC b4 (fun hc10=>?_) (fun hc10=>?_)
    ·refine zC _ rfl rfl kk hc10 (zB rfl (zJ (I y8) rfl kk)) ?_
     refine zC _ rfl rfl kk hc10 (zB rfl (zIG (k:=.i64) (a:=y8) (b:=0) rfl kk kk)) ?_
     refine zC _ rfl rfl kk hc9 (zB rfl (zA1 (b:=b4) (p:=eqI y8 0) (q:=false) rfl kk hc10 kk)) ?_
     refine zQ rfl (zB rfl (zBB (b:=ltI y8 0) (p:=true) (q:=bif b4 then (eqI y8 0) else false) rfl kk hc9 kk)) ?_
     refine L0 rfl rfl (zJ (Bo (bif (ltI y8 0) then true else (bif b4 then (eqI y8 0) else false))) rfl kk) ?_
     refine zBC (bif (ltI y8 0) then true else (bif b4 then (eqI y8 0) else false)) (fun hc11=>?_) (fun hc11=>?_)
     ·refine qM _ rfl rfl kk hc11 rfl ?_
      refine qM _ rfl rfl kk hc11 rfl ?_
      refine zQ rfl (zB rfl (zA1 (b:=bif (ltI y8 0) then true else (bif b4 then (eqI y8 0) else false)) (p:=true) (q:=ltI 1000000 y8) rfl kk hc11 kk)) ?_
      refine zI ?_
      subst ht12
      kernel_rfl
     ·refine zC _ rfl rfl kk hc11 (zB rfl (zJ (I y8) rfl kk)) ?_
      refine zC _ rfl rfl kk hc11 (zB rfl (zOS (k:=.i64) (a:=y8) (b:=1000000) rfl kk kk)) ?_
      refine zQ rfl (zB rfl (zBB (b:=bif (ltI y8 0) then true else (bif b4 then (eqI y8 0) else false)) (p:=true) (q:=ltI 1000000 y8) rfl kk hc11 kk)) ?_
      refine zI ?_
      subst ht12
      kernel_rfl
    ·refine zT _ rfl rfl kk hc10 rfl ?_
     refine zT _ rfl rfl kk hc10 rfl ?_
     refine zC _ rfl rfl kk hc9 (zB rfl (zBB (b:=b4) (p:=eqI y8 0) (q:=false) rfl kk hc10 kk)) ?_
     refine zQ rfl (zB rfl (zBB (b:=ltI y8 0) (p:=true) (q:=bif b4 then (eqI y8 0) else false) rfl kk hc9 kk)) ?_
     refine L0 rfl rfl (zJ (Bo (bif (ltI y8 0) then true else (bif b4 then (eqI y8 0) else false))) rfl kk) ?_
     refine zBC (bif (ltI y8 0) then true else (bif b4 then (eqI y8 0) else false)) (fun hc11=>?_) (fun hc11=>?_)
     ·refine qM _ rfl rfl kk hc11 rfl ?_
      refine qM _ rfl rfl kk hc11 rfl ?_
      refine zQ rfl (zB rfl (zA1 (b:=bif (ltI y8 0) then true else (bif b4 then (eqI y8 0) else false)) (p:=true) (q:=ltI 1000000 y8) rfl kk hc11 kk)) ?_
      refine zI ?_
      subst ht12
      kernel_rfl
     ·refine zC _ rfl rfl kk hc11 (zB rfl (zJ (I y8) rfl kk)) ?_
      refine zC _ rfl rfl kk hc11 (zB rfl (zOS (k:=.i64) (a:=y8) (b:=1000000) rfl kk kk)) ?_
      refine zQ rfl (zB rfl (zBB (b:=bif (ltI y8 0) then true else (bif b4 then (eqI y8 0) else false)) (p:=true) (q:=ltI 1000000 y8) rfl kk hc11 kk)) ?_
      refine zI ?_
      subst ht12
      kernel_rfl
  refine zDO rfl (fun hc13=>?_) (fun hc13=>?_)
  ·have h:=zBy h hc13;refine qZ (mb 36 12) [] (s1:=⟨.bot::.bot::I 0::Bo false::bt 32 [],[]⟩) ?_ ?_
   ·refine L0 rfl rfl (zF (I 0) rfl kk) ?_
    refine L0 rfl rfl (zF (Bo false) rfl kk) ?_
    refine zI ?_
    kernel_rfl
   refine zE2 ?_
   obtain rfl:=zU h;show Post _ _ _ _ _;exact⟨.inr rfl,rfl,rfl,rfl⟩
  ·have h:=zBR h hc13;refine zEx ?_
   show V _ _ _ _;refine zDI ?_
   refine qZ (mb 36 4294967328) [] (s1:=⟨bt 5 (I y8::bt 26 (Bo b4::bt 3 [])),[]⟩) ?_ ?_
   ·refine L0 rfl rfl (zJ (Bo b4) rfl kk) ?_
    refine zI ?_
    kernel_rfl
   refine zDO rfl (fun hc14=>?_) (fun hc14=>?_)
   ·have h:=zBy h hc14;obtain⟨t15,ht15,h⟩:=zO9 h;refine qZ (mb 36 12) [] (s1:=⟨.bot::.bot::I t15::Bo true::bt 32 [],[]⟩) ?_ ?_
    ·refine L0 rfl rfl (zJ (I y8) rfl kk) ?_
     refine L0 rfl rfl (zSX (a:=y8) rfl kk) ?_
     refine L0 rfl rfl (zF (I (w64 (0 - y8))) rfl kk) ?_
     refine L0 rfl rfl (zF (Bo true) rfl kk) ?_
     refine zI ?_
     subst ht15
     kernel_rfl
    refine zE2 ?_
    obtain rfl:=zU h;show Post _ _ _ _ _;exact⟨.inr rfl,rfl,rfl,rfl⟩
   ·have h:=zBR h hc14;refine zEx ?_
    show V _ _ _ _;refine qZ (mb 36 12) [] (s1:=⟨.bot::.bot::I y8::Bo true::bt 32 [],[]⟩) ?_ ?_
    ·refine L0 rfl rfl (zJ (I y8) rfl kk) ?_
     refine L0 rfl rfl (zF (I y8) rfl kk) ?_
     refine L0 rfl rfl (zF (Bo true) rfl kk) ?_
     refine zI ?_
     kernel_rfl
    refine zE2 ?_
    obtain rfl:=zU h;show Post _ _ _ _ _;exact⟨.inr rfl,rfl,rfl,rfl⟩
def zMq (vs1:ByteArray):=fC zTp (zBK vs1) fun _=>zV7
theorem zSG:CfW Tryz.prog 137:=cfW Tryz.func137
noncomputable def zTD (vs1:ByteArray) (b2:Int) (count3:Int):T Tryz.prog (List Int):=
 .n1 (nilN 3 1 (by decide))<|
 .op1 (zGe vs1 b2) fun y4=>
 .n0 (lenM ct9 y4)<|
 .cond (!eqI ((y4.length:Int)) count3) (.n1 (nilN 3 1 (by decide))<|
 .ret (([]:List Int)))<|.n1 (nilN 3 1 (by decide))<|
 .n0 (lenM ct9 y4)<|
 .loopS (fun n X_1=>zAY y4 n X_1.1 X_1.2) ((0,([]:List Int))) (mb 39 7340288) [64,120] (fun s X_1 γ=>s.pc (mb 39 7340288) [64,120] [(22,I X_1.1)] [(64,.arr 3 1 (X_1.2.map c3))]) (fun X_1=>
 .cond (ltI X_1.1 ((y4.length:Int))) (.op0 (zBH ct9 y4 X_1.1) fun e11=>.op0 (ldo ct9 y4 X_1.1) fun e12=>
 .op1 (zMq e12) fun y13=>
 .cond (!y13.2) (.n1 (nilN 3 1 (by decide))<|
 .ret (.early (([]:List Int))))<|.n1 bsl<|.opx (app ct3 X_1.2 ([y13.1])) fun u15=>
 .frc (w64 (X_1.1+1)) fun t16=>.ret (.again ((t16,X_1.2++([y13.1])))))<|.ret (.done X_1.2)) (mb 39 256) [64] (fun s o9 γ=>s.pc (mb 39 256) [64] [] [(64,.arr 3 1 (o9.map c3))]) (fun r=>r) fun o9=>
 .ret o9
theorem zT0 {vs1:ByteArray} {b2:Int} {count3:Int} {r:List Int} (h:zBb vs1 b2 count3=some r):zD Tryz.prog 137 [.c (.v (.string vs1)),.c (.v (.int .u8 b2)),I count3] (.ow 0) [(0,.arr 3 1 (r.map c3))]:=CtT (zTD vs1 b2 count3) (fun r=>(.ow 0,[(0,.arr 3 1 (r.map c3))])) (rs:=[.t 6]) (vs:=[.tmp 6]) Tryz.func137 rfl rfl (.cons rfl FitsL.nil) h
def zUE (vs1:ByteArray) (b2:Int) (count3:Int):=fC zSG (zBb vs1 b2 count3) fun _=>zT0
theorem zSF:CfW Tryz.prog 91:=cfW Tryz.func91
noncomputable def zTC (vs1:ByteArray):T Tryz.prog ((τF×Bool)):=
 .op1 (zPw vs1 40 41) fun y2=>
 .op1 (zUE y2.1 44 3) fun y3=>
 .dn<|.joinC (.selB (!y2.2) false [.z (lenM ct3 y3)] fun w_4=>.ret w_4) (mb 32 1048644) [104,16] (fun s q_5 γ=>s.pc (mb 32 1048644) [104,16] [(20,Bo (bif q_5 then true else (!eqI ((y3.length:Int)) 3)))] []) fun q_5=>
 .cond (bif q_5 then true else (!eqI ((y3.length:Int)) 3)) (.n0 (bld pl42 bt42)<|
 .ret (((0,0,0),false)))<|.draw 10 []<|.op0 (zBH ct3 y3 0) fun e6=>.op0 (ldo ct3 y3 0) fun e7=>.op0 (zBH ct3 y3 1) fun e8=>.op0 (ldo ct3 y3 1) fun e9=>.op0 (zBH ct3 y3 2) fun e10=>.op0 (ldo ct3 y3 2) fun e11=>.n0 (bld pl42 bt42)<|
 .ret (((e7,e9,e11),true))
theorem zTZ {vs1:ByteArray} {r:(τF×Bool)} (h:zBa vs1=some r):zD Tryz.prog 91 [.c (.v (.string vs1))] (.tc (.ag [Ti r.1.1,Ti r.1.2.1,Ti r.1.2.2]) (.tc (Bo r.2) .tn)) []:=CtT (zTC vs1) (fun r=>(.tc (.ag [Ti r.1.1,Ti r.1.2.1,Ti r.1.2.2]) (.tc (Bo r.2) .tn),[])) (rs:=[.w 2 3,.t 3]) (vs:=[.cell 2 42,.tmp 3]) Tryz.func91 rfl rfl (.cons ⟨rfl,wd42⟩ (.cons rfl FitsL.nil)) h
def zUD (vs1:ByteArray):=fC zSF (zBa vs1) fun _=>zTZ
theorem zRt:CfW Tryz.prog 65:=cfW Tryz.func65
noncomputable def zSq (t1:ByteArray):T Tryz.prog ((ByteArray×((List ByteArray)×τF×Int)×Bool)):=
 .op1 (zGe t1 32) fun y2=>
 .op0 (zBH ct9 y2 0) fun e3=>.op0 (ldo ct9 y2 0) fun e4=>.op1 (zS7 e4) fun y5=>
 .dn<|.joinC (.selB (!y5.2) false [.z (lenM ct9 y2)] fun w_52=>.ret w_52) (mb 89 536871400) [48,96,24] (fun s q_105 γ=>s.pc (mb 89 536871400) [48,96,24] [(29,Bo (bif q_105 then true else (!eqI ((y2.length:Int)) (w64 (((y5.1.size:Int))+1)))))] []) fun q_105=>
 .lt (bif q_105 then true else (!eqI ((y2.length:Int)) (w64 (((y5.1.size:Int))+1)))) fun t7=>.cond t7 (.draw 2 []<|
 .late (zVs 24 0)<|.ret (((⟨#[]⟩:ByteArray),(([]:List ByteArray),(0,0,0),0),false)))<|
 .hint (nilH 90000 9 1)<|.loop (fun n X_104=>qY y2 y5 n X_104.1 X_104.2.1 X_104.2.2.1 X_104.2.2.2.1 X_104.2.2.2.2.1 X_104.2.2.2.2.2.1 X_104.2.2.2.2.2.2) ((y5.2,0,([]:List ByteArray),0,0,0,0)) (mb 89 1000) [90000,48,96,24] (fun s X_104 γ=>s.pc (mb 89 1000) [90000,48,96,24] [(8,Bo X_104.1),(9,I X_104.2.1)] [(90000,.qarr (γ 90000) 9 1 (X_104.2.2.1.map c9)),(48,.box [.v (zE (γ 90000)),Ti X_104.2.2.2.1,Ti X_104.2.2.2.2.1,Ti X_104.2.2.2.2.2.1,Ti X_104.2.2.2.2.2.2])]) (fun X_104=>
 .cond (ltI X_104.2.1 ((y5.1.size:Int))) (.op0 (zBH ct9 y2 (w64 (X_104.2.1+1))) fun e19=>.op0 (ldo ct9 y2 (w64 (X_104.2.1+1))) fun e20=>.op1 (zPq e20) fun y21=>
 .op0 (idxs y5.1 X_104.2.1) fun e22=>
 .cond (eqI e22 108) (.draw 8 []<|.op0 (zBH ct9 y2 (w64 (X_104.2.1+1))) fun e24=>.op0 (ldo ct9 y2 (w64 (X_104.2.1+1))) fun e25=>.n1 bsl<|.late (zNE 59 90000)<|.opx (app ct9 X_104.2.2.1 ([e25])) fun u26=>.late (pinH 66 90000)<|
 .joinC (.selB X_104.1 true [] fun w_98=>.ret w_98) (mb 89 1000) [90000,48,96,24] (fun s q_99 γ=>s.pc (mb 89 1000) [90000,48,96,24] [(8,Bo (bif q_99 then y21 else false))] [(90000,.qarr (γ 90000) 9 1 ((X_104.2.2.1++([e25])).map c9)),(48,.box [.v (zE (γ 90000)),Ti X_104.2.2.2.1,Ti X_104.2.2.2.2.1,Ti X_104.2.2.2.2.2.1,Ti X_104.2.2.2.2.2.2])]) fun q_99=>
 .frc (w64 (X_104.2.1+1)) fun i28=>.ret (.inl ((bif q_99 then y21 else false,i28,X_104.2.2.1++([e25]),X_104.2.2.2.1,X_104.2.2.2.2.1,X_104.2.2.2.2.2.1,X_104.2.2.2.2.2.2))))<|
 .cond (eqI e22 102) (.op0 (zBH ct9 y2 (w64 (X_104.2.1+1))) fun e30=>.op0 (ldo ct9 y2 (w64 (X_104.2.1+1))) fun e31=>.op1 (zUD e31) fun y32=>
 .joinC (.selB X_104.1 true [] fun w_100=>.ret w_100) (mb 89 1000) [90000,48,96,24] (fun s q_101 γ=>s.pc (mb 89 1000) [90000,48,96,24] [(8,Bo (bif q_101 then y32.2 else false))] [(90000,.qarr (γ 90000) 9 1 (X_104.2.2.1.map c9)),(48,.box [.v (zE (γ 90000)),Ti y32.1.1,Ti y32.1.2.1,Ti y32.1.2.2,Ti X_104.2.2.2.2.2.2])]) fun q_101=>
 .frc (w64 (X_104.2.1+1)) fun i34=>.ret (.inl ((bif q_101 then y32.2 else false,i34,X_104.2.2.1,y32.1.1,y32.1.2.1,y32.1.2.2,X_104.2.2.2.2.2.2))))<|.op0 (zBH ct9 y2 (w64 (X_104.2.1+1))) fun e35=>.op0 (ldo ct9 y2 (w64 (X_104.2.1+1))) fun e36=>.op1 (zMq e36) fun y37=>
 .joinC (.selB X_104.1 true [] fun w_102=>.ret w_102) (mb 89 1000) [90000,48,96,24] (fun s q_103 γ=>s.pc (mb 89 1000) [90000,48,96,24] [(8,Bo (bif q_103 then y37.2 else false))] [(90000,.qarr (γ 90000) 9 1 (X_104.2.2.1.map c9)),(48,.box [.v (zE (γ 90000)),Ti X_104.2.2.2.1,Ti X_104.2.2.2.2.1,Ti X_104.2.2.2.2.2.1,Ti y37.1])]) fun q_103=>
 .frc (w64 (X_104.2.1+1)) fun i39=>.ret (.inl ((bif q_103 then y37.2 else false,i39,X_104.2.2.1,X_104.2.2.2.1,X_104.2.2.2.2.1,X_104.2.2.2.2.2.1,y37.1))))<|.ret (.inr ((X_104.1,X_104.2.2.1,X_104.2.2.2.1,X_104.2.2.2.2.1,X_104.2.2.2.2.2.1,X_104.2.2.2.2.2.2)))) (mb 89 360) [90000,48,96,24] (fun s o17 γ=>s.pc (mb 89 360) [90000,48,96,24] [(8,Bo o17.1)] [(90000,.qarr (γ 90000) 9 1 (o17.2.1.map c9)),(48,.box [.v (zE (γ 90000)),Ti o17.2.2.1,Ti o17.2.2.2.1,Ti o17.2.2.2.2.1,Ti o17.2.2.2.2.2])]) fun o17=>
 .hint (z0H 90000 48 0)<|.draw 7 [(6,24)]<|.op0 (zBH ct9 y2 0) fun e40=>.op0 (ldo ct9 y2 0) fun e41=>
 .ret ((e41,(o17.2.1,(o17.2.2.1,o17.2.2.2.1,o17.2.2.2.2.1),o17.2.2.2.2.2),o17.1))
theorem zTN {t1:ByteArray} {r:(ByteArray×((List ByteArray)×τF×Int)×Bool)} (h:qF t1=some r):zD Tryz.prog 65 [.c (.v (.string t1))] (.tc (.c (.v (.string r.1))) (.tc (.ag [.sl (r.2.1.1.map c9),Ti r.2.1.2.1.1,Ti r.2.1.2.1.2.1,Ti r.2.1.2.1.2.2,Ti r.2.1.2.2]) (.tc (Bo r.2.2) .tn))) []:=CtT (zSq t1) (fun r=>(.tc (.c (.v (.string r.1))) (.tc (.ag [.sl (r.2.1.1.map c9),Ti r.2.1.2.1.1,Ti r.2.1.2.1.2.1,Ti r.2.1.2.1.2.2,Ti r.2.1.2.2]) (.tc (Bo r.2.2) .tn)),[])) (rs:=[.t 2,.w 3 5,.t 4]) (vs:=[.tmp 2,.cell 3 98,.tmp 4]) Tryz.func65 rfl rfl (.cons rfl (.cons ⟨rfl,wd98⟩ (.cons rfl FitsL.nil))) h
def zTx (t1:ByteArray):=fC zRt (qF t1) fun _=>zTN
theorem zTj:CfW Tryz.prog 94:=cfW Tryz.func94
noncomputable def zVC (a1:Int) (vm2:Int):T Tryz.prog Int:=
 .op0 (remF .i64 a1 vm2) fun z3=>
 .frc (Int.tmod a1 vm2) fun vr4=>
 .cond (ltI vr4 0) (
 .frc (w64 (vr4+vm2)) fun vr6=>
 .ret vr6)<|
 .ret vr4
theorem zV0 {a1:Int} {vm2:Int} {r:Int} (h:jG a1 vm2=some r):zD Tryz.prog 94 [I a1,I vm2] (I r) []:=CtU (zVC a1 vm2) 4 (fun r=>I r) Tryz.func94 rfl rfl h
def zAp (a1:Int) (vm2:Int):=fC zTj (jG a1 vm2) fun _=>zV0
theorem zRw:CfW Tryz.prog 66:=cfW Tryz.func66
noncomputable def zSt (d1:Int):T Tryz.prog Bool:=
 .pl<|.joinC (.op1 (zE3 d1 (-2000) (-3)) fun y2=>.seqT (.cond y2 (.op1 (zAp d1 4) fun y4=>.ret (ltI y4 2)) (.ret false)) fun b5=>.ret (y2,b5)) (mb 10 4) [] (fun s q_1 γ=>s.pc (mb 10 4) [] [(2,Bo q_1.2)] []) fun q_1=>
 .ret q_1.2
theorem zTQ {d1:Int} {r:Bool} (h:zCC d1=some r):zD Tryz.prog 66 [I d1] (Bo r) []:=CtU (zSt d1) 2 (fun r=>Bo r) Tryz.func66 rfl rfl h
def zKY (d1:Int):=fC zRw (zCC d1) fun _=>zTQ
theorem zLG:CfW Tryz.prog 67:=cfW Tryz.func67
noncomputable def zLa (x1:(τS×(List τS))) (vs2:τS):T Tryz.prog ((ByteArray×(τS×(List τS)))):=
 .pl<|.joinC (.drawM false 11 [1,2,3,6,7,14,15,30,31,32,33,34,35,38,39,46,47,62,63,96,97,98,99,102,103,110,111,126,127,224,225,226,227,230,231,238,239,254,255,480,481,482,483,486,487,494,495,510,511,992,993,994,995,998,999,1006,1007,1022,1023,2046,2047] [1,1,0,1,1,1,0,1,1,0,0,0,1,2]<|.n0 au<|.n0 au<|.n1 bsl<|.late (zNE 9 90003)<|.opx (app ct53 x1.2 ([x1.1])) fun u3=>.n0 au<|.late (pinH 15 90003)<|.ret u3) (mb 22 9) [24,80000,90003] (fun s q_1 γ=>s.pc (mb 22 9) [24,80000,90003] [] [(80000,s.pbx 80000 [Ti x1.1.1,.v (.string x1.1.2.1),.sl (x1.1.2.2.map c42),.v (zE (γ 90003))]),(90003,.qarr (γ 90003) 53 3 ((x1.2++([x1.1])).map c53))]) fun q_1=>
 .n0 au<|
 .ret (((⟨#[111,107]⟩:ByteArray),(vs2,x1.2++([x1.1]))))
theorem zLv {x1:(τS×(List τS))} {vs2:τS} {r:(ByteArray×(τS×(List τS)))} (h:jE x1 vs2=some r):zJT Tryz.prog 67 [.pt 80000 0,.ag [Ti vs2.1,.v (.string vs2.2.1),.sl (vs2.2.2.map c42)]] 90003 53 3 (fun l=>[(80000,.box [Ti x1.1.1,.v (.string x1.1.2.1),.sl (x1.1.2.2.map c42),.v (zE (l))])]) (x1.2.map c53) (.v (.string r.1)) (fun l=>[(80000,.box [Ti r.2.1.1,.v (.string r.2.1.2.1),.sl (r.2.1.2.2.map c42),.v (zE (l))])]) (r.2.2.map c53):=CqT (zLa x1 vs2) 90003 53 3 (fun r=>.v (.string r.1)) (fun r l=>[(80000,.box [Ti r.2.1.1,.v (.string r.2.1.2.1),.sl (r.2.1.2.2.map c42),.v (zE (l))])]) (fun r=>r.2.2.map c53) (rs:=.t 4) (vs:=.tmp 4) Tryz.func67 rfl rfl (.cons rfl FitsL.nil) h
def zDV (x1:(τS×(List τS))) (vs2:τS):=fQ zLG (jE x1 vs2) 80000 4 90003 53 3 (fun _ _ h=>zLv h)
theorem zSA:CfW Tryz.prog 133:=cfW Tryz.func133
noncomputable def zSx (vn1:Int):T Tryz.prog Bool:=
 .op1 (zE3 vn1 (-1000000) 1000000) fun y2=>
 .ret y2
theorem zTU {vn1:Int} {r:Bool} (h:zAc vn1=some r):zD Tryz.prog 133 [I vn1] (Bo r) []:=CtU (zSx vn1) 2 (fun r=>Bo r) Tryz.func133 rfl rfl h
def zCf (vn1:Int):=fC zSA (zAc vn1) fun _=>zTU
theorem zSH:CfW Tryz.prog 85:=cfW Tryz.func85
noncomputable def zTE (f1:τF):T Tryz.prog Bool:=
 .pl<|.joinC (.op1 (zCf f1.1) fun y2=>.seqT (.cond y2 (.op1 (zCf f1.2.1) fun y4=>.ret y4) (.ret false)) fun b5=>.seqT (.cond b5 (.op1 (zCf f1.2.2) fun y7=>.ret y7) (.ret false)) fun b8=>.ret (y2,b5,b8)) (mb 16 4) [] (fun s q_1 γ=>s.pc (mb 16 4) [] [(2,Bo q_1.2.2)] []) fun q_1=>
 .ret q_1.2.2
theorem zT1 {f1:τF} {r:Bool} (h:zEB f1=some r):zD Tryz.prog 85 [.ag [Ti f1.1,Ti f1.2.1,Ti f1.2.2]] (Bo r) []:=CtU (zTE f1) 2 (fun r=>Bo r) Tryz.func85 rfl rfl h
def zUF (f1:τF):=fC zSH (zEB f1) fun _=>zT1
theorem zSI:CfW Tryz.prog 69:=cfW Tryz.func69
noncomputable def zTF (f1:τF):T Tryz.prog Int:=
 .frc (w64 ((w64 (f1.2.1*f1.2.1)) - (w64 ((w64 (4*f1.1))*f1.2.2)))) fun t2=>.ret t2
theorem zT2 {f1:τF} {r:Int} (h:qN f1=some r):zD Tryz.prog 69 [.ag [Ti f1.1,Ti f1.2.1,Ti f1.2.2]] (I r) []:=CtU (zTF f1) 2 (fun r=>I r) Tryz.func69 rfl rfl h
def zAl (f1:τF):=fC zSI (qN f1) fun _=>zT2
theorem zLJ:CfW Tryz.prog 139:=cfW Tryz.func139
noncomputable def zLd (f1:τF):T Tryz.prog Bool:=
 .pl<|.joinC (.op1 (zUF f1) fun y2=>.seqT (.cond y2 (.op1 (zAl f1) fun y4=>.ret (ltI y4 0)) (.ret false)) fun b5=>.selB b5 true [] fun w_2=>.ret (y2,b5,w_2)) (mb 15 4) [] (fun s q_3 γ=>s.pc (mb 15 4) [] [(2,Bo (bif q_3.2.2 then (ltI 0 f1.1) else false))] []) fun q_3=>
 .ret (bif q_3.2.2 then (ltI 0 f1.1) else false)
theorem zLy {f1:τF} {r:Bool} (h:zAF f1=some r):zD Tryz.prog 139 [.ag [Ti f1.1,Ti f1.2.1,Ti f1.2.2]] (Bo r) []:=CtU (zLd f1) 2 (fun r=>Bo r) Tryz.func139 rfl rfl h
def zCa (f1:τF):=fC zLJ (zAF f1) fun _=>zLy
theorem zRs:CfW Tryz.prog 95:=cfW Tryz.func95
noncomputable def zSp (f1:τF):T Tryz.prog Bool:=
 .pl<|.joinC (.op1 (zCa f1) fun y2=>.seqT (.cond y2 (.op1 (zAl f1) fun y4=>.ret (leI (-2000) y4)) (.ret false)) fun b5=>.ret (y2,b5)) (mb 10 4) [] (fun s q_1 γ=>s.pc (mb 10 4) [] [(2,Bo q_1.2)] []) fun q_1=>
 .ret q_1.2
theorem zTM {f1:τF} {r:Bool} (h:zCc f1=some r):zD Tryz.prog 95 [.ag [Ti f1.1,Ti f1.2.1,Ti f1.2.2]] (Bo r) []:=CtU (zSp f1) 2 (fun r=>Bo r) Tryz.func95 rfl rfl h
def zKX (f1:τF):=fC zRs (zCc f1) fun _=>zTM
theorem zSC:CfW Tryz.prog 215:=cfW Tryz.func215
noncomputable def zSz (a1:Int) (b2:Int):T Tryz.prog Int:=
 .cond (ltI b2 a1) (
 .ret a1)<|
 .ret b2
theorem zTW {a1:Int} {b2:Int} {r:Int} (h:zCd a1 b2=some r):zD Tryz.prog 215 [I a1,I b2] (I r) []:=CtU (zSz a1 b2) 4 (fun r=>I r) Tryz.func215 rfl rfl h
def zKZ (a1:Int) (b2:Int):=fC zSC (zCd a1 b2) fun _=>zTW
theorem zTn:CfW Tryz.prog 178:=cfW Tryz.func178
noncomputable def zVG (vn1:Int):T Tryz.prog Int:=
 .op1 (zKZ vn1 (w64 (0 - vn1))) fun y2=>
 .ret y2
theorem zV5 {vn1:Int} {r:Int} (h:zCs vn1=some r):zD Tryz.prog 178 [I vn1] (I r) []:=CtU (zVG vn1) 2 (fun r=>I r) Tryz.func178 rfl rfl h
def zIH (vn1:Int):=fC zTn (zCs vn1) fun _=>zV5
theorem zTk:CfW Tryz.prog 140:=cfW Tryz.func140
noncomputable def zVD (a1:Int) (b2:Int):T Tryz.prog Int:=
 .op1 (zIH a1) fun y3=>.op1 (zIH b2) fun y4=>
 .loop (fun n X_1=>zAm n X_1.1 X_1.2) ((y3,y4)) (mb 16 3) [] (fun s X_1 γ=>s.pc (mb 16 3) [] [(0,I X_1.1),(1,I X_1.2)] []) (fun X_1=>
 .cond (!eqI X_1.2 0) (.draw 6 []<|.op0 (remF .i64 X_1.1 X_1.2) fun z10=>
 .frc (Int.tmod X_1.1 X_1.2) fun b11=>.ret (.inl ((X_1.2,b11))))<|.ret (.inr X_1.1)) (mb 16 1) [] (fun s o8 γ=>s.pc (mb 16 1) [] [(0,I o8)] []) fun o8=>
 .ret o8
theorem zV1 {a1:Int} {b2:Int} {r:Int} (h:zAX a1 b2=some r):zD Tryz.prog 140 [I a1,I b2] (I r) []:=CtU (zVD a1 b2) 4 (fun r=>I r) Tryz.func140 rfl rfl h
def zDB (a1:Int) (b2:Int):=fC zTk (zAX a1 b2) fun _=>zV1
theorem zM5:CfW Tryz.prog 96:=cfW Tryz.func96
noncomputable def zNJ (f1:τF):T Tryz.prog Int:=
 .draw 9 []<|.op1 (zDB f1.1 f1.2.1) fun y2=>.op1 (zDB y2 f1.2.2) fun y3=>
 .ret y3
theorem zN1 {f1:τF} {r:Int} (h:jO f1=some r):zD Tryz.prog 96 [.ag [Ti f1.1,Ti f1.2.1,Ti f1.2.2]] (I r) []:=CtU (zNJ f1) 2 (fun r=>I r) Tryz.func96 rfl rfl h
def zFP (f1:τF):=fC zM5 (jO f1) fun _=>zN1
theorem zSJ:CfW Tryz.prog 68:=cfW Tryz.func68
noncomputable def zTG (f1:τF):T Tryz.prog Bool:=
 .pl<|.joinC (.op1 (zKX f1) fun y2=>.seqT (.cond y2 (.op1 (zFP f1) fun y4=>.ret (eqI y4 1)) (.ret false)) fun b5=>.ret (y2,b5)) (mb 10 4) [] (fun s q_1 γ=>s.pc (mb 10 4) [] [(2,Bo q_1.2)] []) fun q_1=>
 .ret q_1.2
theorem zT3 {f1:τF} {r:Bool} (h:zDL f1=some r):zD Tryz.prog 68 [.ag [Ti f1.1,Ti f1.2.1,Ti f1.2.2]] (Bo r) []:=CtU (zTG f1) 2 (fun r=>Bo r) Tryz.func68 rfl rfl h
def zUG (f1:τF):=fC zSJ (zDL f1) fun _=>zT3
theorem zW3:∀args w,(callFunc 141 args).run Tryz.prog w=.ok (.enter 141 args) w:=jD Tryz.func141 kk kk
set_option maxRecDepth 100000 in
set_option maxHeartbeats 400000 in
theorem zXZ {f1:τF} {r:Bool} (h:zC3 f1=some r):zD Tryz.prog 141 [.ag [Ti f1.1,Ti f1.2.1,Ti f1.2.2]] (Bo r) []:=by
  refine zAj (rs:=[.t 2]) (vs:=[.tmp 2]) Tryz.func141 rfl rfl (.cons rfl FitsL.nil) (by decide) 35 rfl ?_
  unfold zC3 at h;show V _ _ ⟨.ag [Ti f1.1,Ti f1.2.1,Ti f1.2.2]::bt 34 [],[]⟩ _;refine qZ (mb 35 2) [8] (s1:=⟨.bot::.pt 8 0::bt 33 [],[(8,.box [Ti f1.1,Ti f1.2.1,Ti f1.2.2])]⟩) ?_ ?_
  ·refine L1 rfl rfl (zSV (cs:=[Ti f1.1,Ti f1.2.1,Ti f1.2.2]) rfl kk) ?_
   refine L0 rfl rfl (zF (Bo false) rfl kk) ?_
   refine zI ?_
   kernel_rfl
  obtain⟨t6,ht6,h⟩:=zV h;have ht6:=zU ht6;refine qZ (mb 35 4) [] (s1:=⟨.bot::.bot::Bo t6::bt 32 [],[]⟩) ?_ ?_
  ·refine L0 rfl rfl (zAJ (.pt 8 0) Tryz.underlying42 rfl sz3 rfl kk (by intro hh;cases hh)) ?_
   refine L0 rfl rfl (jR (c:=Ti f1.1) (cs:=[Ti f1.2.1,Ti f1.2.2]) sc3 rfl kk) ?_
   refine L0 rfl rfl (zSX (a:=f1.1) rfl kk) ?_
   refine L0 rfl rfl (zAJ (.pt 8 1) Tryz.underlying42 rfl sz3 rfl kk (by intro hh;cases hh)) ?_
   refine L0 rfl rfl (jR (c:=Ti f1.2.1) (cs:=[Ti f1.2.2]) sc3 rfl kk) ?_
   refine L0 rfl rfl (zG9 (k:=.i64) (a:=w64 (0 - f1.1)) (b:=f1.2.1) rfl kk kk) ?_
   refine L0 rfl rfl (zJ (Bo (ltI (w64 (0 - f1.1)) f1.2.1)) rfl kk) ?_
   refine zBC (ltI (w64 (0 - f1.1)) f1.2.1) (fun hc2=>?_) (fun hc2=>?_)
   ·refine zC _ rfl rfl kk hc2 (zB rfl (zAJ (.pt 8 1) Tryz.underlying42 rfl sz3 rfl kk (by intro hh;cases hh))) ?_
    refine zC _ rfl rfl kk hc2 (zB rfl (jR (c:=Ti f1.2.1) (cs:=[Ti f1.2.2]) sc3 rfl kk)) ?_
    refine zC _ rfl rfl kk hc2 (zB rfl (zAJ (.pt 8 0) Tryz.underlying42 rfl sz3 rfl kk (by intro hh;cases hh))) ?_
    refine zC _ rfl rfl kk hc2 (zB rfl (jR (c:=Ti f1.1) (cs:=[Ti f1.2.1,Ti f1.2.2]) sc3 rfl kk)) ?_
    refine zC _ rfl rfl kk hc2 (zB rfl (zZX (k:=.i64) (a:=f1.2.1) (b:=f1.1) rfl kk kk)) ?_
    refine zQ rfl (zB rfl (zA1 (b:=ltI (w64 (0 - f1.1)) f1.2.1) (p:=leI f1.2.1 f1.1) (q:=false) rfl kk hc2 kk)) ?_
    refine L0 rfl rfl (zJ (Bo (bif (ltI (w64 (0 - f1.1)) f1.2.1) then (leI f1.2.1 f1.1) else false)) rfl kk) ?_
    refine zBC (bif (ltI (w64 (0 - f1.1)) f1.2.1) then (leI f1.2.1 f1.1) else false) (fun hc3=>?_) (fun hc3=>?_)
    ·refine zC _ rfl rfl kk hc3 (zB rfl (zAJ (.pt 8 0) Tryz.underlying42 rfl sz3 rfl kk (by intro hh;cases hh))) ?_
     refine zC _ rfl rfl kk hc3 (zB rfl (jR (c:=Ti f1.1) (cs:=[Ti f1.2.1,Ti f1.2.2]) sc3 rfl kk)) ?_
     refine zC _ rfl rfl kk hc3 (zB rfl (zAJ (.pt 8 2) Tryz.underlying42 rfl sz3 rfl kk (by intro hh;cases hh))) ?_
     refine zC _ rfl rfl kk hc3 (zB rfl (jR (c:=Ti f1.2.2) (cs:=[]) sc3 rfl kk)) ?_
     refine zC _ rfl rfl kk hc3 (zB rfl (zG9 (k:=.i64) (a:=f1.1) (b:=f1.2.2) rfl kk kk)) ?_
     refine zC _ rfl rfl kk hc3 (zB rfl (zJ (Bo (ltI f1.1 f1.2.2)) rfl kk)) ?_
     refine zBC (ltI f1.1 f1.2.2) (fun hc4=>?_) (fun hc4=>?_)
     ·refine qM _ rfl rfl kk hc4 rfl ?_
      refine qM _ rfl rfl kk hc4 rfl ?_
      refine qM _ rfl rfl kk hc4 rfl ?_
      refine qM _ rfl rfl kk hc4 rfl ?_
      refine qM _ rfl rfl kk hc4 rfl ?_
      refine qM _ rfl rfl kk hc4 rfl ?_
      refine qE rfl rfl kk rfl ?_
      refine qE rfl rfl kk rfl ?_
      refine qE rfl rfl kk rfl ?_
      refine qM _ rfl rfl kk hc4 rfl ?_
      refine zC _ rfl rfl kk hc3 (zB rfl (zA1 (b:=ltI f1.1 f1.2.2) (p:=true) (q:=bif (eqI f1.1 f1.2.2) then (leI 0 f1.2.1) else false) rfl kk hc4 kk)) ?_
      refine zQ rfl (zB rfl (zA1 (b:=bif (ltI (w64 (0 - f1.1)) f1.2.1) then (leI f1.2.1 f1.1) else false) (p:=bif (ltI f1.1 f1.2.2) then true else (bif (eqI f1.1 f1.2.2) then (leI 0 f1.2.1) else false)) (q:=false) rfl kk hc3 kk)) ?_
      refine L0 rfl rfl (zF (Bo (bif (bif (ltI (w64 (0 - f1.1)) f1.2.1) then (leI f1.2.1 f1.1) else false) then (bif (ltI f1.1 f1.2.2) then true else (bif (eqI f1.1 f1.2.2) then (leI 0 f1.2.1) else false)) else false)) rfl kk) ?_
      refine zI ?_
      subst ht6
      kernel_rfl
     ·refine zC _ rfl rfl kk hc4 (zB rfl (zAJ (.pt 8 0) Tryz.underlying42 rfl sz3 rfl kk (by intro hh;cases hh))) ?_
      refine zC _ rfl rfl kk hc4 (zB rfl (jR (c:=Ti f1.1) (cs:=[Ti f1.2.1,Ti f1.2.2]) sc3 rfl kk)) ?_
      refine zC _ rfl rfl kk hc4 (zB rfl (zAJ (.pt 8 2) Tryz.underlying42 rfl sz3 rfl kk (by intro hh;cases hh))) ?_
      refine zC _ rfl rfl kk hc4 (zB rfl (jR (c:=Ti f1.2.2) (cs:=[]) sc3 rfl kk)) ?_
      refine zC _ rfl rfl kk hc4 (zB rfl (zIG (k:=.i64) (a:=f1.1) (b:=f1.2.2) rfl kk kk)) ?_
      refine zC _ rfl rfl kk hc4 (zB rfl (zJ (Bo (eqI f1.1 f1.2.2)) rfl kk)) ?_
      refine zBC (eqI f1.1 f1.2.2) (fun hc5=>?_) (fun hc5=>?_)
      ·refine zC _ rfl rfl kk hc5 (zB rfl (zAJ (.pt 8 1) Tryz.underlying42 rfl sz3 rfl kk (by intro hh;cases hh))) ?_
       refine zC _ rfl rfl kk hc5 (zB rfl (jR (c:=Ti f1.2.1) (cs:=[Ti f1.2.2]) sc3 rfl kk)) ?_
       refine zC _ rfl rfl kk hc5 (zB rfl (zSZ (k:=.i64) (a:=f1.2.1) (b:=0) rfl kk kk)) ?_
       refine zC _ rfl rfl kk hc4 (zB rfl (zA1 (b:=eqI f1.1 f1.2.2) (p:=leI 0 f1.2.1) (q:=false) rfl kk hc5 kk)) ?_
       refine zC _ rfl rfl kk hc3 (zB rfl (zBB (b:=ltI f1.1 f1.2.2) (p:=true) (q:=bif (eqI f1.1 f1.2.2) then (leI 0 f1.2.1) else false) rfl kk hc4 kk)) ?_
       refine zQ rfl (zB rfl (zA1 (b:=bif (ltI (w64 (0 - f1.1)) f1.2.1) then (leI f1.2.1 f1.1) else false) (p:=bif (ltI f1.1 f1.2.2) then true else (bif (eqI f1.1 f1.2.2) then (leI 0 f1.2.1) else false)) (q:=false) rfl kk hc3 kk)) ?_
       refine L0 rfl rfl (zF (Bo (bif (bif (ltI (w64 (0 - f1.1)) f1.2.1) then (leI f1.2.1 f1.1) else false) then (bif (ltI f1.1 f1.2.2) then true else (bif (eqI f1.1 f1.2.2) then (leI 0 f1.2.1) else false)) else false)) rfl kk) ?_
       refine zI ?_
       subst ht6
       kernel_rfl
      ·refine zT _ rfl rfl kk hc5 rfl ?_
       refine zT _ rfl rfl kk hc5 rfl ?_
       refine zT _ rfl rfl kk hc5 rfl ?_
       refine zC _ rfl rfl kk hc4 (zB rfl (zBB (b:=eqI f1.1 f1.2.2) (p:=leI 0 f1.2.1) (q:=false) rfl kk hc5 kk)) ?_
       refine zC _ rfl rfl kk hc3 (zB rfl (zBB (b:=ltI f1.1 f1.2.2) (p:=true) (q:=bif (eqI f1.1 f1.2.2) then (leI 0 f1.2.1) else false) rfl kk hc4 kk)) ?_
       refine zQ rfl (zB rfl (zA1 (b:=bif (ltI (w64 (0 - f1.1)) f1.2.1) then (leI f1.2.1 f1.1) else false) (p:=bif (ltI f1.1 f1.2.2) then true else (bif (eqI f1.1 f1.2.2) then (leI 0 f1.2.1) else false)) (q:=false) rfl kk hc3 kk)) ?_
       refine L0 rfl rfl (zF (Bo (bif (bif (ltI (w64 (0 - f1.1)) f1.2.1) then (leI f1.2.1 f1.1) else false) then (bif (ltI f1.1 f1.2.2) then true else (bif (eqI f1.1 f1.2.2) then (leI 0 f1.2.1) else false)) else false)) rfl kk) ?_
       refine zI ?_
       subst ht6
       kernel_rfl
    ·refine zT _ rfl rfl kk hc3 rfl ?_
     refine zT _ rfl rfl kk hc3 rfl ?_
     refine zT _ rfl rfl kk hc3 rfl ?_
     refine zT _ rfl rfl kk hc3 rfl ?_
     refine zT _ rfl rfl kk hc3 rfl ?_
     refine zT _ rfl rfl kk hc3 rfl ?_
     refine qE rfl rfl kk rfl ?_
     refine qE rfl rfl kk rfl ?_
     refine qE rfl rfl kk rfl ?_
     refine qE rfl rfl kk rfl ?_
     refine qE rfl rfl kk rfl ?_
     refine qE rfl rfl kk rfl ?_
     refine qE rfl rfl kk rfl ?_
     refine qE rfl rfl kk rfl ?_
     refine qE rfl rfl kk rfl ?_
     refine qE rfl rfl kk rfl ?_
     refine zT _ rfl rfl kk hc3 rfl ?_
     refine zQ rfl (zB rfl (zBB (b:=bif (ltI (w64 (0 - f1.1)) f1.2.1) then (leI f1.2.1 f1.1) else false) (p:=bif (ltI f1.1 f1.2.2) then true else (bif (eqI f1.1 f1.2.2) then (leI 0 f1.2.1) else false)) (q:=false) rfl kk hc3 kk)) ?_
     refine L0 rfl rfl (zF (Bo (bif (bif (ltI (w64 (0 - f1.1)) f1.2.1) then (leI f1.2.1 f1.1) else false) then (bif (ltI f1.1 f1.2.2) then true else (bif (eqI f1.1 f1.2.2) then (leI 0 f1.2.1) else false)) else false)) rfl kk) ?_
     refine zI ?_
     subst ht6
     kernel_rfl
   ·refine zT _ rfl rfl kk hc2 rfl ?_
    refine zT _ rfl rfl kk hc2 rfl ?_
    refine zT _ rfl rfl kk hc2 rfl ?_
    refine zT _ rfl rfl kk hc2 rfl ?_
    refine zT _ rfl rfl kk hc2 rfl ?_
    refine zQ rfl (zB rfl (zBB (b:=ltI (w64 (0 - f1.1)) f1.2.1) (p:=leI f1.2.1 f1.1) (q:=false) rfl kk hc2 kk)) ?_
    refine L0 rfl rfl (zJ (Bo (bif (ltI (w64 (0 - f1.1)) f1.2.1) then (leI f1.2.1 f1.1) else false)) rfl kk) ?_
    refine zBC (bif (ltI (w64 (0 - f1.1)) f1.2.1) then (leI f1.2.1 f1.1) else false) (fun hc3=>?_) (fun hc3=>?_)
    ·refine zC _ rfl rfl kk hc3 (zB rfl (zAJ (.pt 8 0) Tryz.underlying42 rfl sz3 rfl kk (by intro hh;cases hh))) ?_
     refine zC _ rfl rfl kk hc3 (zB rfl (jR (c:=Ti f1.1) (cs:=[Ti f1.2.1,Ti f1.2.2]) sc3 rfl kk)) ?_
     refine zC _ rfl rfl kk hc3 (zB rfl (zAJ (.pt 8 2) Tryz.underlying42 rfl sz3 rfl kk (by intro hh;cases hh))) ?_
     refine zC _ rfl rfl kk hc3 (zB rfl (jR (c:=Ti f1.2.2) (cs:=[]) sc3 rfl kk)) ?_
     refine zC _ rfl rfl kk hc3 (zB rfl (zG9 (k:=.i64) (a:=f1.1) (b:=f1.2.2) rfl kk kk)) ?_
     refine zC _ rfl rfl kk hc3 (zB rfl (zJ (Bo (ltI f1.1 f1.2.2)) rfl kk)) ?_
     refine zBC (ltI f1.1 f1.2.2) (fun hc4=>?_) (fun hc4=>?_)
     ·refine qM _ rfl rfl kk hc4 rfl ?_
      refine qM _ rfl rfl kk hc4 rfl ?_
      refine qM _ rfl rfl kk hc4 rfl ?_
      refine qM _ rfl rfl kk hc4 rfl ?_
      refine qM _ rfl rfl kk hc4 rfl ?_
      refine qM _ rfl rfl kk hc4 rfl ?_
      refine qE rfl rfl kk rfl ?_
      refine qE rfl rfl kk rfl ?_
      refine qE rfl rfl kk rfl ?_
      refine qM _ rfl rfl kk hc4 rfl ?_
      refine zC _ rfl rfl kk hc3 (zB rfl (zA1 (b:=ltI f1.1 f1.2.2) (p:=true) (q:=bif (eqI f1.1 f1.2.2) then (leI 0 f1.2.1) else false) rfl kk hc4 kk)) ?_
      refine zQ rfl (zB rfl (zA1 (b:=bif (ltI (w64 (0 - f1.1)) f1.2.1) then (leI f1.2.1 f1.1) else false) (p:=bif (ltI f1.1 f1.2.2) then true else (bif (eqI f1.1 f1.2.2) then (leI 0 f1.2.1) else false)) (q:=false) rfl kk hc3 kk)) ?_
      refine L0 rfl rfl (zF (Bo (bif (bif (ltI (w64 (0 - f1.1)) f1.2.1) then (leI f1.2.1 f1.1) else false) then (bif (ltI f1.1 f1.2.2) then true else (bif (eqI f1.1 f1.2.2) then (leI 0 f1.2.1) else false)) else false)) rfl kk) ?_
      refine zI ?_
      subst ht6
      kernel_rfl
     ·refine zC _ rfl rfl kk hc4 (zB rfl (zAJ (.pt 8 0) Tryz.underlying42 rfl sz3 rfl kk (by intro hh;cases hh))) ?_
      refine zC _ rfl rfl kk hc4 (zB rfl (jR (c:=Ti f1.1) (cs:=[Ti f1.2.1,Ti f1.2.2]) sc3 rfl kk)) ?_
      refine zC _ rfl rfl kk hc4 (zB rfl (zAJ (.pt 8 2) Tryz.underlying42 rfl sz3 rfl kk (by intro hh;cases hh))) ?_
      refine zC _ rfl rfl kk hc4 (zB rfl (jR (c:=Ti f1.2.2) (cs:=[]) sc3 rfl kk)) ?_
      refine zC _ rfl rfl kk hc4 (zB rfl (zIG (k:=.i64) (a:=f1.1) (b:=f1.2.2) rfl kk kk)) ?_
      refine zC _ rfl rfl kk hc4 (zB rfl (zJ (Bo (eqI f1.1 f1.2.2)) rfl kk)) ?_
      refine zBC (eqI f1.1 f1.2.2) (fun hc5=>?_) (fun hc5=>?_)
      ·refine zC _ rfl rfl kk hc5 (zB rfl (zAJ (.pt 8 1) Tryz.underlying42 rfl sz3 rfl kk (by intro hh;cases hh))) ?_
       refine zC _ rfl rfl kk hc5 (zB rfl (jR (c:=Ti f1.2.1) (cs:=[Ti f1.2.2]) sc3 rfl kk)) ?_
       refine zC _ rfl rfl kk hc5 (zB rfl (zSZ (k:=.i64) (a:=f1.2.1) (b:=0) rfl kk kk)) ?_
       refine zC _ rfl rfl kk hc4 (zB rfl (zA1 (b:=eqI f1.1 f1.2.2) (p:=leI 0 f1.2.1) (q:=false) rfl kk hc5 kk)) ?_
       refine zC _ rfl rfl kk hc3 (zB rfl (zBB (b:=ltI f1.1 f1.2.2) (p:=true) (q:=bif (eqI f1.1 f1.2.2) then (leI 0 f1.2.1) else false) rfl kk hc4 kk)) ?_
       refine zQ rfl (zB rfl (zA1 (b:=bif (ltI (w64 (0 - f1.1)) f1.2.1) then (leI f1.2.1 f1.1) else false) (p:=bif (ltI f1.1 f1.2.2) then true else (bif (eqI f1.1 f1.2.2) then (leI 0 f1.2.1) else false)) (q:=false) rfl kk hc3 kk)) ?_
       refine L0 rfl rfl (zF (Bo (bif (bif (ltI (w64 (0 - f1.1)) f1.2.1) then (leI f1.2.1 f1.1) else false) then (bif (ltI f1.1 f1.2.2) then true else (bif (eqI f1.1 f1.2.2) then (leI 0 f1.2.1) else false)) else false)) rfl kk) ?_
       refine zI ?_
       subst ht6
       kernel_rfl
      ·refine zT _ rfl rfl kk hc5 rfl ?_
       refine zT _ rfl rfl kk hc5 rfl ?_
       refine zT _ rfl rfl kk hc5 rfl ?_
       refine zC _ rfl rfl kk hc4 (zB rfl (zBB (b:=eqI f1.1 f1.2.2) (p:=leI 0 f1.2.1) (q:=false) rfl kk hc5 kk)) ?_
       refine zC _ rfl rfl kk hc3 (zB rfl (zBB (b:=ltI f1.1 f1.2.2) (p:=true) (q:=bif (eqI f1.1 f1.2.2) then (leI 0 f1.2.1) else false) rfl kk hc4 kk)) ?_
       refine zQ rfl (zB rfl (zA1 (b:=bif (ltI (w64 (0 - f1.1)) f1.2.1) then (leI f1.2.1 f1.1) else false) (p:=bif (ltI f1.1 f1.2.2) then true else (bif (eqI f1.1 f1.2.2) then (leI 0 f1.2.1) else false)) (q:=false) rfl kk hc3 kk)) ?_
       refine L0 rfl rfl (zF (Bo (bif (bif (ltI (w64 (0 - f1.1)) f1.2.1) then (leI f1.2.1 f1.1) else false) then (bif (ltI f1.1 f1.2.2) then true else (bif (eqI f1.1 f1.2.2) then (leI 0 f1.2.1) else false)) else false)) rfl kk) ?_
       refine zI ?_
       subst ht6
       kernel_rfl
    ·refine zT _ rfl rfl kk hc3 rfl ?_
     refine zT _ rfl rfl kk hc3 rfl ?_
     refine zT _ rfl rfl kk hc3 rfl ?_
     refine zT _ rfl rfl kk hc3 rfl ?_
     refine zT _ rfl rfl kk hc3 rfl ?_
     refine zT _ rfl rfl kk hc3 rfl ?_
     refine qE rfl rfl kk rfl ?_
     refine qE rfl rfl kk rfl ?_
     refine qE rfl rfl kk rfl ?_
     refine qE rfl rfl kk rfl ?_
     refine qE rfl rfl kk rfl ?_
     refine qE rfl rfl kk rfl ?_
     refine qE rfl rfl kk rfl ?_
     refine qE rfl rfl kk rfl ?_
     refine qE rfl rfl kk rfl ?_
     refine qE rfl rfl kk rfl ?_
     refine zT _ rfl rfl kk hc3 rfl ?_
     refine zQ rfl (zB rfl (zBB (b:=bif (ltI (w64 (0 - f1.1)) f1.2.1) then (leI f1.2.1 f1.1) else false) (p:=bif (ltI f1.1 f1.2.2) then true else (bif (eqI f1.1 f1.2.2) then (leI 0 f1.2.1) else false)) (q:=false) rfl kk hc3 kk)) ?_
     refine L0 rfl rfl (zF (Bo (bif (bif (ltI (w64 (0 - f1.1)) f1.2.1) then (leI f1.2.1 f1.1) else false) then (bif (ltI f1.1 f1.2.2) then true else (bif (eqI f1.1 f1.2.2) then (leI 0 f1.2.1) else false)) else false)) rfl kk) ?_
     refine zI ?_
     subst ht6
     kernel_rfl
  refine zE2 ?_
  obtain rfl:=zU h;show Post _ _ _ _ _;exact⟨.inr rfl,rfl,rfl,rfl⟩
def zJV (f1:τF):=fC zW3 (zC3 f1) fun _=>zXZ
theorem zNw:CfW Tryz.prog 179:=cfW Tryz.func179
noncomputable def zOq (f1:τF):T Tryz.prog Int:=
 .draw 20 []<|.op1 (zAp (w64 (f1.1 - f1.2.1)) (w64 (2*f1.1))) fun y2=>.op0 (quoF .i64 (w64 ((w64 (f1.1 - f1.2.1)) - y2)) (w64 (2*f1.1))) fun z3=>
 .frc (w64 (Int.tdiv (w64 ((w64 (f1.1 - f1.2.1)) - y2)) (w64 (2*f1.1)))) fun t4=>.ret t4
theorem zPH {f1:τF} {r:Int} (h:zEG f1=some r):zD Tryz.prog 179 [.ag [Ti f1.1,Ti f1.2.1,Ti f1.2.2]] (I r) []:=CtU (zOq f1) 2 (fun r=>I r) Tryz.func179 rfl rfl h
def zPr (f1:τF):=fC zNw (zEG f1) fun _=>zPH
theorem zRu:CfW Tryz.prog 142:=cfW Tryz.func142
noncomputable def zSr (f1:τF):T Tryz.prog (τM):=
 .op1 (zPr f1) fun y2=>
 .cond (!eqI y2 0) (.n0 (bld zDT zDc)<|
 .ret ((1,y2,0,1)))<|.op1 (zJV f1) fun y4=>
 .cond y4 (.n0 (bld zDT zDc)<|
 .ret ((1,0,0,1)))<|.n0 (bld zDT zDc)<|
 .ret ((0,-1,1,0))
theorem zTO {f1:τF} {r:τM} (h:zDJ f1=some r):zD Tryz.prog 142 [.ag [Ti f1.1,Ti f1.2.1,Ti f1.2.2]] (.ag [Ti r.1,Ti r.2.1,Ti r.2.2.1,Ti r.2.2.2]) []:=CtT (zSr f1) (fun r=>(.ag [Ti r.1,Ti r.2.1,Ti r.2.2.1,Ti r.2.2.2],[])) (rs:=[.w 2 4]) (vs:=[.cell 2 120]) Tryz.func142 rfl rfl (.cons ⟨rfl,zFE⟩ FitsL.nil) h
def zTy (f1:τF):=fC zRu (zDJ f1) fun _=>zTO
theorem zP6:CfW Tryz.prog 130:=cfW Tryz.func130
noncomputable def zQ5 (f1:τF) (x2:Int) (y3:Int):T Tryz.prog Int:=
 .frc (w64 ((w64 ((w64 ((w64 (f1.1*x2))*x2))+(w64 ((w64 (f1.2.1*x2))*y3))))+(w64 ((w64 (f1.2.2*y3))*y3)))) fun t4=>.ret t4
theorem zRC {f1:τF} {x2:Int} {y3:Int} {r:Int} (h:zBJ f1 x2 y3=some r):zD Tryz.prog 130 [.ag [Ti f1.1,Ti f1.2.1,Ti f1.2.2],I x2,I y3] (I r) []:=CtU (zQ5 f1 x2 y3) 6 (fun r=>I r) Tryz.func130 rfl rfl h
def zDf (f1:τF) (x2:Int) (y3:Int):=fC zP6 (zBJ f1 x2 y3) fun _=>zRC
theorem zP7:CfW Tryz.prog 131:=cfW Tryz.func131
noncomputable def zQ6 (f1:τF) (x2:Int) (y3:Int) (u4:Int) (v5:Int):T Tryz.prog Int:=
 .frc (w64 ((w64 ((w64 ((w64 ((w64 (2*f1.1))*x2))*u4))+(w64 (f1.2.1*(w64 ((w64 (x2*v5))+(w64 (y3*u4))))))))+(w64 ((w64 ((w64 (2*f1.2.2))*y3))*v5)))) fun t6=>.ret t6
theorem zRD {f1:τF} {x2:Int} {y3:Int} {u4:Int} {v5:Int} {r:Int} (h:zD2 f1 x2 y3 u4 v5=some r):zD Tryz.prog 131 [.ag [Ti f1.1,Ti f1.2.1,Ti f1.2.2],I x2,I y3,I u4,I v5] (I r) []:=CtU (zQ6 f1 x2 y3 u4 v5) 10 (fun r=>I r) Tryz.func131 rfl rfl h
def zJW (f1:τF) (x2:Int) (y3:Int) (u4:Int) (v5:Int):=fC zP7 (zD2 f1 x2 y3 u4 v5) fun _=>zRD
theorem zTr:CfW Tryz.prog 83:=cfW Tryz.func83
noncomputable def zVJ (f1:τF) (vm2:τM):T Tryz.prog (τF):=
 .draw 23 []<|.op1 (zDf f1 vm2.1 vm2.2.2.1) fun y3=>.op1 (zJW f1 vm2.1 vm2.2.2.1 vm2.2.1 vm2.2.2.2) fun y4=>.op1 (zDf f1 vm2.2.1 vm2.2.2.2) fun y5=>.n0 (bld pl42 bt42)<|
 .ret ((y3,y4,y5))
theorem zV9 {f1:τF} {vm2:τM} {r:τF} (h:zFz f1 vm2=some r):zD Tryz.prog 83 [.ag [Ti f1.1,Ti f1.2.1,Ti f1.2.2],.ag [Ti vm2.1,Ti vm2.2.1,Ti vm2.2.2.1,Ti vm2.2.2.2]] (.ag [Ti r.1,Ti r.2.1,Ti r.2.2]) []:=CtT (zVJ f1 vm2) (fun r=>(.ag [Ti r.1,Ti r.2.1,Ti r.2.2],[])) (rs:=[.w 4 3]) (vs:=[.cell 4 42]) Tryz.func83 rfl rfl (.cons ⟨rfl,wd42⟩ FitsL.nil) h
def zWu (f1:τF) (vm2:τM):=fC zTr (zFz f1 vm2) fun _=>zV9
theorem zTo:CfW Tryz.prog 132:=cfW Tryz.func132
noncomputable def zVH (vm1:τM) (vn2:τM):T Tryz.prog (τM):=
 .n0 (bld zDT zDc)<|
 .frc (w64 ((w64 (vm1.1*vn2.1))+(w64 (vm1.2.1*vn2.2.2.1)))) fun f3=>.frc (w64 ((w64 (vm1.1*vn2.2.1))+(w64 (vm1.2.1*vn2.2.2.2)))) fun f4=>.frc (w64 ((w64 (vm1.2.2.1*vn2.1))+(w64 (vm1.2.2.2*vn2.2.2.1)))) fun f5=>.frc (w64 ((w64 (vm1.2.2.1*vn2.2.1))+(w64 (vm1.2.2.2*vn2.2.2.2)))) fun f6=>.ret ((f3,f4,f5,f6))
theorem zV6 {vm1:τM} {vn2:τM} {r:τM} (h:qP vm1 vn2=some r):zD Tryz.prog 132 [.ag [Ti vm1.1,Ti vm1.2.1,Ti vm1.2.2.1,Ti vm1.2.2.2],.ag [Ti vn2.1,Ti vn2.2.1,Ti vn2.2.2.1,Ti vn2.2.2.2]] (.ag [Ti r.1,Ti r.2.1,Ti r.2.2.1,Ti r.2.2.2]) []:=CtT (zVH vm1 vn2) (fun r=>(.ag [Ti r.1,Ti r.2.1,Ti r.2.2.1,Ti r.2.2.2],[])) (rs:=[.w 4 4]) (vs:=[.cell 4 120]) Tryz.func132 rfl rfl (.cons ⟨rfl,zFE⟩ FitsL.nil) h
def zFA (vm1:τM) (vn2:τM):=fC zTo (qP vm1 vn2) fun _=>zV6
theorem zNv:CfW Tryz.prog 98:=cfW Tryz.func98
noncomputable def zOp (f1:τF):T Tryz.prog ((τF×τM)):=
 .n0 (bld zDT zDc)<|
 .loop (fun n X_1=>zCL n X_1.1 X_1.2.1 X_1.2.2.1 X_1.2.2.2.1 X_1.2.2.2.2.1 X_1.2.2.2.2.2.1 X_1.2.2.2.2.2.2) ((1,0,0,1,f1.1,f1.2.1,f1.2.2)) (mb 20 30) [32,24,16,8] (fun s X_1 γ=>s.pc (mb 20 30) [32,24,16,8] [] [(32,.box [Ti X_1.1,Ti X_1.2.1,Ti X_1.2.2.1,Ti X_1.2.2.2.1]),(8,.box [Ti X_1.2.2.2.2.1,Ti X_1.2.2.2.2.2.1,Ti X_1.2.2.2.2.2.2])]) (fun X_1=>
 .op1 (zJV ((X_1.2.2.2.2.1,X_1.2.2.2.2.2.1,X_1.2.2.2.2.2.2))) fun y11=>
 .cond (!y11) (.op1 (zTy ((X_1.2.2.2.2.1,X_1.2.2.2.2.2.1,X_1.2.2.2.2.2.2))) fun y13=>
 .draw 6 []<|.op1 (zWu ((X_1.2.2.2.2.1,X_1.2.2.2.2.2.1,X_1.2.2.2.2.2.2)) y13) fun y14=>.op1 (zFA ((X_1.1,X_1.2.1,X_1.2.2.1,X_1.2.2.2.1)) y13) fun y15=>
 .ret (.inl ((y15.1,y15.2.1,y15.2.2.1,y15.2.2.2,y14.1,y14.2.1,y14.2.2))))<|.ret (.inr ((X_1.1,X_1.2.1,X_1.2.2.1,X_1.2.2.2.1,X_1.2.2.2.2.1,X_1.2.2.2.2.2.1,X_1.2.2.2.2.2.2)))) (mb 20 30) [32,24,16,8] (fun s o10 γ=>s.pc (mb 20 30) [32,24,16,8] [] [(32,.box [Ti o10.1,Ti o10.2.1,Ti o10.2.2.1,Ti o10.2.2.2.1]),(8,.box [Ti o10.2.2.2.2.1,Ti o10.2.2.2.2.2.1,Ti o10.2.2.2.2.2.2])]) fun o10=>
 .draw 3 [(2,16)]<|
 .ret ((o10.2.2.2.2,(o10.1,o10.2.1,o10.2.2.1,o10.2.2.2.1)))
theorem zPG {f1:τF} {r:(τF×τM)} (h:qD f1=some r):zD Tryz.prog 98 [.ag [Ti f1.1,Ti f1.2.1,Ti f1.2.2]] (.tc (.ag [Ti r.1.1,Ti r.1.2.1,Ti r.1.2.2]) (.tc (.ag [Ti r.2.1,Ti r.2.2.1,Ti r.2.2.2.1,Ti r.2.2.2.2]) .tn)) []:=CtT (zOp f1) (fun r=>(.tc (.ag [Ti r.1.1,Ti r.1.2.1,Ti r.1.2.2]) (.tc (.ag [Ti r.2.1,Ti r.2.2.1,Ti r.2.2.2.1,Ti r.2.2.2.2]) .tn),[])) (rs:=[.w 2 3,.w 3 4]) (vs:=[.cell 2 42,.cell 3 120]) Tryz.func98 rfl rfl (.cons ⟨rfl,wd42⟩ (.cons ⟨rfl,zFE⟩ FitsL.nil)) h
def zBt (f1:τF):=fC zNv (qD f1) fun _=>zPG
theorem zP0:CfW Tryz.prog 71:=cfW Tryz.func71
noncomputable def zQZ (f1:τF):T Tryz.prog (τF):=
 .op1 (zBt f1) fun y2=>
 .ret y2.1
theorem zQw {f1:τF} {r:τF} (h:jF f1=some r):zD Tryz.prog 71 [.ag [Ti f1.1,Ti f1.2.1,Ti f1.2.2]] (.ag [Ti r.1,Ti r.2.1,Ti r.2.2]) []:=CtT (zQZ f1) (fun r=>(.ag [Ti r.1,Ti r.2.1,Ti r.2.2],[])) (rs:=[.w 2 3]) (vs:=[.cell 2 42]) Tryz.func71 rfl rfl (.cons ⟨rfl,wd42⟩ FitsL.nil) h
def zCT (f1:τF):=fC zP0 (jF f1) fun _=>zQw
theorem zJI:CfW Tryz.prog 97:=cfW Tryz.func97
noncomputable def zJl (vs1:τS) (name2:ByteArray):T Tryz.prog Int:=
 .loopS (fun n X_1=>jV name2 vs1 n X_1) 0 (mb 21 38) [16] (fun s X_1 γ=>s.pc (mb 21 38) [16] [(5,I X_1)] []) (fun X_1=>
 .cond (ltI X_1 ((vs1.2.1.size:Int))) (.draw 7 []<|.op0 (idxs vs1.2.1 X_1) fun e7=>.op0 (idxs name2 0) fun e8=>
 .cond (eqI e7 e8) (
 .ret (.early X_1))<|
 .frc (w64 (X_1+1)) fun i10=>.ret (.again i10))<|.ret (.done (()))) (mb 21 0) [] (fun s o5 γ=>s.pc (mb 21 0) [] [] []) (fun r=>r) fun o5=>
 .ret (-1)
theorem zJt {vs1:τS} {name2:ByteArray} {r:Int} (h:zA2 vs1 name2=some r):zD Tryz.prog 97 [.ag [Ti vs1.1,.v (.string vs1.2.1),.sl (vs1.2.2.map c42)],.c (.v (.string name2))] (I r) []:=CtU (zJl vs1 name2) 4 (fun r=>I r) Tryz.func97 rfl rfl h
def zDw (vs1:τS) (name2:ByteArray):=fC zJI (zA2 vs1 name2) fun _=>zJt
theorem zKC:CfW Tryz.prog 70:=cfW Tryz.func70
noncomputable def zK4 (x1:(τS×(List τS))) (vn2:ByteArray) (f3:τF):T Tryz.prog ((ByteArray×(τS×(List τS)))):=
 .n0 au<|
 .n1 bsl0<|.opx (app ct42 (([]:List τF)) x1.1.2.2) fun u4=>
 .op1 (zDw x1.1 vn2) fun y5=>
 .cond (leI 0 y5) (.op0 (zBH ct42 ((([]:List τF))++x1.1.2.2) y5) fun e7=>.opx (sto ct42 ((([]:List τF))++x1.1.2.2) y5 fun e8=>f3) fun e8=>
 .lt (((([]:List τF))++x1.1.2.2).set (Int.toNat (y5)) f3) fun l9=>.hint (frzH 120)<|.n0 (bld pl53 bt53)<|.opx (zDV x1 ((x1.1.1,x1.1.2.1,l9))) fun y10=>
 .ret ((y10.1,y10.2)))<|.n0 (lenM ct42 ((([]:List τF))++x1.1.2.2))<|
 .lt (leI 8 ((((([]:List τF))++x1.1.2.2).length:Int))) fun t11=>.cond t11 (
 .ret (((⟨#[110,111]⟩:ByteArray),x1)))<|
 .loop (fun n X_3=>zAV f3 vn2 x1 n X_3) 0 (mb 83 1443) [120,56,40,80000,90003] (fun s X_3 γ=>s.pc (mb 83 1443) [120,56,40,80000,90003] [(10,I X_3)] [(80000,s.pbx 80000 [Ti x1.1.1,.v (.string x1.1.2.1),.sl (x1.1.2.2.map c42),.v (zE (γ 90003))]),(90003,.qarr (γ 90003) 53 3 (x1.2.map c53))]) (fun X_3=>
 .dn<|.joinC (.draw 14 []<|.seqT (.cond (ltI X_3 ((x1.1.2.1.size:Int))) (.op0 (idxs x1.1.2.1 X_3) fun e17=>.op0 (idxs vn2 0) fun e18=>.ret (ltI e17 e18)) (.ret false)) fun b19=>.ret b19) (mb 83 4503599627371939) [120,56,40,80000,90003] (fun s q_1 γ=>s.pc (mb 83 4503599627371939) [120,56,40,80000,90003] [(52,Bo q_1)] [(80000,s.pbx 80000 [Ti x1.1.1,.v (.string x1.1.2.1),.sl (x1.1.2.2.map c42),.v (zE (γ 90003))]),(90003,.qarr (γ 90003) 53 3 (x1.2.map c53))]) fun q_1=>
 .cond q_1 (
 .frc (w64 (X_3+1)) fun k21=>.ret (.inl k21))<|.ret (.inr X_3)) (mb 83 1443) [120,56,40,80000,90003] (fun s o15 γ=>s.pc (mb 83 1443) [120,56,40,80000,90003] [(10,I o15)] [(80000,s.pbx 80000 [Ti x1.1.1,.v (.string x1.1.2.1),.sl (x1.1.2.2.map c42),.v (zE (γ 90003))]),(90003,.qarr (γ 90003) 53 3 (x1.2.map c53))]) fun o15=>
 .joinC (.drawM false 10 [1,2,3,7,8,9,10,11,15,24,25,26,27,31,32,33,34,35,39,40,41,42,43,47,56,57,58,59,63,96,97,98,99,103,104,105,106,107,111,120,121,122,123,127,128,129,130,131,135,136,137,138,139,143,152,153,154,155,159,160,161,162,163,167,168,169,170,171,175,184,185,186,187,191,224,225,226,227,231,232,233,234,235,239,248,249,250,251,255,480,481,482,483,487,488,489,490,491,495,504,505,506,507,511,1016,1017,1018,1019,1023] [1,1,0,1,0,1,1,1,0,0,0,1]<|.opx (shr ct42 ((([]:List τF))++x1.1.2.2) o15) fun u22=>.n1 bsl<|.op0 (slice ct42 x1.1.2.2 o15 ((x1.1.2.2.length:Int))) fun u23=>.opx (app ct42 ([f3]) (subl x1.1.2.2 o15 ((x1.1.2.2.length:Int)))) fun u24=>.opx (app ct42 (subl ((([]:List τF))++x1.1.2.2) 0 o15) (([f3])++(subl x1.1.2.2 o15 ((x1.1.2.2.length:Int))))) fun u25=>.ret (u22,u23,u24,u25)) (mb 83 1411) [120,56,80000,90003] (fun s q_2 γ=>s.pc (mb 83 1411) [120,56,80000,90003] [] [(120,.arr 42 3 (((subl ((([]:List τF))++x1.1.2.2) 0 o15)++(([f3])++(subl x1.1.2.2 o15 ((x1.1.2.2.length:Int))))).map c42)),(80000,s.pbx 80000 [Ti x1.1.1,.v (.string x1.1.2.1),.sl (x1.1.2.2.map c42),.v (zE (γ 90003))]),(90003,.qarr (γ 90003) 53 3 (x1.2.map c53))]) fun q_2=>
 .lt ((subl ((([]:List τF))++x1.1.2.2) 0 o15)++(([f3])++(subl x1.1.2.2 o15 ((x1.1.2.2.length:Int))))) fun l26=>.hint (frzH 120)<|.draw 16 []<|.op0 (zHi x1.1.2.1 0 o15) fun u27=>.op0 (cat (x1.1.2.1.extract (Int.toNat 0) (Int.toNat o15)) vn2) fun u28=>.op0 (zHi x1.1.2.1 o15 ((x1.1.2.1.size:Int))) fun u29=>.op0 (cat ((x1.1.2.1.extract (Int.toNat 0) (Int.toNat o15))++vn2) (x1.1.2.1.extract (Int.toNat o15) (Int.toNat ((x1.1.2.1.size:Int))))) fun u30=>.n0 (bld pl53 bt53)<|.opx (zDV x1 ((x1.1.1,((x1.1.2.1.extract (Int.toNat 0) (Int.toNat o15))++vn2)++(x1.1.2.1.extract (Int.toNat o15) (Int.toNat ((x1.1.2.1.size:Int)))),l26))) fun y31=>
 .ret ((y31.1,y31.2))
theorem zKl {x1:(τS×(List τS))} {vn2:ByteArray} {f3:τF} {r:(ByteArray×(τS×(List τS)))} (h:jJ x1 vn2 f3=some r):zJT Tryz.prog 70 [.pt 80000 0,.c (.v (.string vn2)),.ag [Ti f3.1,Ti f3.2.1,Ti f3.2.2]] 90003 53 3 (fun l=>[(80000,.box [Ti x1.1.1,.v (.string x1.1.2.1),.sl (x1.1.2.2.map c42),.v (zE (l))])]) (x1.2.map c53) (.v (.string r.1)) (fun l=>[(80000,.box [Ti r.2.1.1,.v (.string r.2.1.2.1),.sl (r.2.1.2.2.map c42),.v (zE (l))])]) (r.2.2.map c53):=CqT (zK4 x1 vn2 f3) 90003 53 3 (fun r=>.v (.string r.1)) (fun r l=>[(80000,.box [Ti r.2.1.1,.v (.string r.2.1.2.1),.sl (r.2.1.2.2.map c42),.v (zE (l))])]) (fun r=>r.2.2.map c53) (rs:=.t 6) (vs:=.tmp 6) Tryz.func70 rfl rfl (.cons rfl FitsL.nil) h
def zDA (x1:(τS×(List τS))) (vn2:ByteArray) (f3:τF):=fQ zKC (jJ x1 vn2 f3) 80000 4 90003 53 3 (fun _ _ h=>zKl h)
theorem zP2:CfW Tryz.prog 143:=cfW Tryz.func143
noncomputable def zQ1 (vn1:Int):T Tryz.prog Bool:=
 .cond (ltI vn1 2) (
 .ret false)<|
 .loopS (fun n X_1=>zC4 vn1 n X_1) 2 (mb 17 9) [] (fun s X_1 γ=>s.pc (mb 17 9) [] [(3,I X_1)] []) (fun X_1=>
 .cond (leI (w64 (X_1*X_1)) vn1) (.op0 (remF .i64 vn1 X_1) fun z7=>
 .cond (eqI (Int.tmod vn1 X_1) 0) (
 .ret (.early false))<|
 .frc (w64 (X_1+1)) fun d9=>.ret (.again d9))<|.ret (.done (()))) (mb 17 0) [] (fun s o5 γ=>s.pc (mb 17 0) [] [] []) (fun r=>r) fun o5=>
 .ret true
theorem zQy {vn1:Int} {r:Bool} (h:zDZ vn1=some r):zD Tryz.prog 143 [I vn1] (Bo r) []:=CtU (zQ1 vn1) 2 (fun r=>Bo r) Tryz.func143 rfl rfl h
def zS9 (vn1:Int):=fC zP2 (zDZ vn1) fun _=>zQy
theorem zP4:CfW Tryz.prog 99:=cfW Tryz.func99
noncomputable def zQ3 (p1:Int):T Tryz.prog Bool:=
 .pl<|.joinC (.op1 (zE3 p1 2 10000) fun y2=>.seqT (.cond y2 (.op1 (zS9 p1) fun y4=>.ret y4) (.ret false)) fun b5=>.ret (y2,b5)) (mb 9 4) [] (fun s q_1 γ=>s.pc (mb 9 4) [] [(2,Bo q_1.2)] []) fun q_1=>
 .ret q_1.2
theorem zRA {p1:Int} {r:Bool} (h:zEh p1=some r):zD Tryz.prog 99 [I p1] (Bo r) []:=CtU (zQ3 p1) 2 (fun r=>Bo r) Tryz.func99 rfl rfl h
def zSa (p1:Int):=fC zP4 (zEh p1) fun _=>zRA
theorem zSD:CfW Tryz.prog 100:=cfW Tryz.func100
noncomputable def zTA (d1:Int) (p2:Int):T Tryz.prog ((τF×Bool)):=
 .loopS (fun n X_1=>zCl d1 p2 n X_1) 0 (mb 38 83) [32] (fun s X_1 γ=>s.pc (mb 38 83) [32] [(6,I X_1)] []) (fun X_1=>
 .cond (leI X_1 p2) (.op0 (remF .i64 (w64 ((w64 (X_1*X_1)) - d1)) (w64 (4*p2))) fun z7=>
 .cond (eqI (Int.tmod (w64 ((w64 (X_1*X_1)) - d1)) (w64 (4*p2))) 0) (.op0 (quoF .i64 (w64 ((w64 (X_1*X_1)) - d1)) (w64 (4*p2))) fun z9=>.n0 (bld pl42 bt42)<|
 .frc (w64 (Int.tdiv (w64 ((w64 (X_1*X_1)) - d1)) (w64 (4*p2)))) fun f10=>.draw 5 [(4,32)]<|.op1 (zFP ((p2,X_1,f10))) fun y11=>
 .ret (.early (((p2,X_1,f10),eqI y11 1))))<|
 .frc (w64 (X_1+1)) fun b12=>.ret (.again b12))<|.ret (.done (()))) (mb 38 16) [32] (fun s o5 γ=>s.pc (mb 38 16) [32] [] []) (fun r=>r) fun o5=>
 .n0 (bld pl42 bt42)<|
 .ret (((0,0,0),false))
theorem zTX {d1:Int} {p2:Int} {r:(τF×Bool)} (h:zFR d1 p2=some r):zD Tryz.prog 100 [I d1,I p2] (.tc (.ag [Ti r.1.1,Ti r.1.2.1,Ti r.1.2.2]) (.tc (Bo r.2) .tn)) []:=CtT (zTA d1 p2) (fun r=>(.tc (.ag [Ti r.1.1,Ti r.1.2.1,Ti r.1.2.2]) (.tc (Bo r.2) .tn),[])) (rs:=[.w 4 3,.t 5]) (vs:=[.cell 4 42,.tmp 5]) Tryz.func100 rfl rfl (.cons ⟨rfl,wd42⟩ (.cons rfl FitsL.nil)) h
def zUC (d1:Int) (p2:Int):=fC zSD (zFR d1 p2) fun _=>zTX
theorem zLK:CfW Tryz.prog 72:=cfW Tryz.func72
noncomputable def zLe (d1:Int) (p2:Int):T Tryz.prog ((τF×Bool)):=
 .pl<|.dn<|.joinC (.op1 (zKY d1) fun y3=>.seqT (.cond (!y3) (.ret true) (.op1 (zSa p2) fun y5=>.ret (!y5))) fun b6=>.ret (y3,b6)) (mb 28 32787) [32] (fun s q_1 γ=>s.pc (mb 28 32787) [32] [(15,Bo q_1.2)] []) fun q_1=>
 .cond q_1.2 (.n0 (bld pl42 bt42)<|
 .ret (((0,0,0),false)))<|.op1 (zUC d1 p2) fun y8=>
 .cond (!y8.2) (.n0 (bld pl42 bt42)<|
 .ret (((0,0,0),false)))<|.op1 (zCT y8.1) fun y10=>
 .ret ((y10,true))
theorem zLz {d1:Int} {p2:Int} {r:(τF×Bool)} (h:zC7 d1 p2=some r):zD Tryz.prog 72 [I d1,I p2] (.tc (.ag [Ti r.1.1,Ti r.1.2.1,Ti r.1.2.2]) (.tc (Bo r.2) .tn)) []:=CtT (zLe d1 p2) (fun r=>(.tc (.ag [Ti r.1.1,Ti r.1.2.1,Ti r.1.2.2]) (.tc (Bo r.2) .tn),[])) (rs:=[.w 4 3,.t 5]) (vs:=[.cell 4 42,.tmp 5]) Tryz.func72 rfl rfl (.cons ⟨rfl,wd42⟩ (.cons rfl FitsL.nil)) h
def zMs (d1:Int) (p2:Int):=fC zLK (zC7 d1 p2) fun _=>zLz
theorem zKE:CfW Tryz.prog 73:=cfW Tryz.func73
noncomputable def zK6 (x1:(τS×(List τS))) (vn2:ByteArray):T Tryz.prog ((ByteArray×(τS×(List τS)))):=
 .n0 au<|
 .op1 (zDw x1.1 vn2) fun y3=>
 .cond (ltI y3 0) (
 .ret (((⟨#[110,111]⟩:ByteArray),x1)))<|.pl<|.joinC (.drawM false 11 [1,2,3,6,7,8,9,10,11,14,15,30,31,63,64,65,66,67,70,71,72,73,74,75,78,79,94,95,127,192,193,194,195,198,199,200,201,202,203,206,207,222,223,255,256,257,258,259,262,263,264,265,266,267,270,271,286,287,319,320,321,322,323,326,327,328,329,330,331,334,335,350,351,383,448,449,450,451,454,455,456,457,458,459,462,463,478,479,511,768,769,770,771,774,775,776,777,778,779,782,783,798,799,831,832,833,834,835,838,839,840,841,842,843,846,847,862,863,895,960,961,962,963,966,967,968,969,970,971,974,975,990,991,1023,1984,1985,1986,1987,1990,1991,1992,1993,1994,1995,1998,1999,2014,2015,2047] [0,1,1,1,0,0,1,1,1,1,0,0,1]<|.n1 bsl0<|.op0 (slice ct42 x1.1.2.2 0 y3) fun u5=>.opx (app ct42 (([]:List τF)) (subl x1.1.2.2 0 y3)) fun u6=>.op0 (slice ct42 x1.1.2.2 (w64 (y3+1)) ((x1.1.2.2.length:Int))) fun u7=>.opx (app ct42 ((([]:List τF))++(subl x1.1.2.2 0 y3)) (subl x1.1.2.2 (w64 (y3+1)) ((x1.1.2.2.length:Int)))) fun u8=>.ret (u5,u6,u7,u8)) (mb 45 225) [136,40,80000,90003] (fun s q_1 γ=>s.pc (mb 45 225) [136,40,80000,90003] [(7,.ow 136)] [(136,.arr 42 3 ((((([]:List τF))++(subl x1.1.2.2 0 y3))++(subl x1.1.2.2 (w64 (y3+1)) ((x1.1.2.2.length:Int)))).map c42)),(80000,s.pbx 80000 [Ti x1.1.1,.v (.string x1.1.2.1),.sl (x1.1.2.2.map c42),.v (zE (γ 90003))]),(90003,.qarr (γ 90003) 53 3 (x1.2.map c53))]) fun q_1=>
 .lt (((([]:List τF))++(subl x1.1.2.2 0 y3))++(subl x1.1.2.2 (w64 (y3+1)) ((x1.1.2.2.length:Int)))) fun l9=>.hint (frzH 136)<|.draw 15 []<|.op0 (zHi x1.1.2.1 0 y3) fun u10=>.op0 (zHi x1.1.2.1 (w64 (y3+1)) ((x1.1.2.1.size:Int))) fun u11=>.op0 (cat (x1.1.2.1.extract (Int.toNat 0) (Int.toNat y3)) (x1.1.2.1.extract (Int.toNat (w64 (y3+1))) (Int.toNat ((x1.1.2.1.size:Int))))) fun u12=>.n0 (bld pl53 bt53)<|.opx (zDV x1 ((x1.1.1,(x1.1.2.1.extract (Int.toNat 0) (Int.toNat y3))++(x1.1.2.1.extract (Int.toNat (w64 (y3+1))) (Int.toNat ((x1.1.2.1.size:Int)))),l9))) fun y13=>
 .ret ((y13.1,y13.2))
theorem zKn {x1:(τS×(List τS))} {vn2:ByteArray} {r:(ByteArray×(τS×(List τS)))} (h:zAq x1 vn2=some r):zJT Tryz.prog 73 [.pt 80000 0,.c (.v (.string vn2))] 90003 53 3 (fun l=>[(80000,.box [Ti x1.1.1,.v (.string x1.1.2.1),.sl (x1.1.2.2.map c42),.v (zE (l))])]) (x1.2.map c53) (.v (.string r.1)) (fun l=>[(80000,.box [Ti r.2.1.1,.v (.string r.2.1.2.1),.sl (r.2.1.2.2.map c42),.v (zE (l))])]) (r.2.2.map c53):=CqT (zK6 x1 vn2) 90003 53 3 (fun r=>.v (.string r.1)) (fun r l=>[(80000,.box [Ti r.2.1.1,.v (.string r.2.1.2.1),.sl (r.2.1.2.2.map c42),.v (zE (l))])]) (fun r=>r.2.2.map c53) (rs:=.t 4) (vs:=.tmp 4) Tryz.func73 rfl rfl (.cons rfl FitsL.nil) h
def zL0 (x1:(τS×(List τS))) (vn2:ByteArray):=fQ zKE (zAq x1 vn2) 80000 4 90003 53 3 (fun _ _ h=>zKn h)
theorem zKB:CfW Tryz.prog 74:=cfW Tryz.func74
noncomputable def zK3 (x1:(τS×(List τS))):T Tryz.prog ((ByteArray×(τS×(List τS)))):=
 .n0 au<|.late (seeH 7 90003)<|.n0 (lenM ct53 x1.2)<|
 .cond (eqI ((x1.2.length:Int)) 0) (
 .ret (((⟨#[110,111]⟩:ByteArray),x1)))<|.n0 au<|.late (seeH 15 90003)<|.op0 (zBH ct53 x1.2 (w64 (((x1.2.length:Int)) - 1))) fun e3=>.op0 (ldo ct53 x1.2 (w64 (((x1.2.length:Int)) - 1))) fun e4=>.n0 au<|
 .n0 au<|.late (zNE 26 90003)<|.opx (shr ct53 x1.2 (w64 (((x1.2.length:Int)) - 1))) fun u5=>.n0 au<|.late (pinH 29 90003)<|
 .ret (((⟨#[111,107]⟩:ByteArray),(e4,subl x1.2 0 (w64 (((x1.2.length:Int)) - 1)))))
theorem zKk {x1:(τS×(List τS))} {r:(ByteArray×(τS×(List τS)))} (h:zB0 x1=some r):zJT Tryz.prog 74 [.pt 80000 0] 90003 53 3 (fun l=>[(80000,.box [Ti x1.1.1,.v (.string x1.1.2.1),.sl (x1.1.2.2.map c42),.v (zE (l))])]) (x1.2.map c53) (.v (.string r.1)) (fun l=>[(80000,.box [Ti r.2.1.1,.v (.string r.2.1.2.1),.sl (r.2.1.2.2.map c42),.v (zE (l))])]) (r.2.2.map c53):=CqT (zK3 x1) 90003 53 3 (fun r=>.v (.string r.1)) (fun r l=>[(80000,.box [Ti r.2.1.1,.v (.string r.2.1.2.1),.sl (r.2.1.2.2.map c42),.v (zE (l))])]) (fun r=>r.2.2.map c53) (rs:=.t 2) (vs:=.tmp 2) Tryz.func74 rfl rfl (.cons rfl FitsL.nil) h
def zLY (x1:(τS×(List τS))):=fQ zKB (zB0 x1) 80000 4 90003 53 3 (fun _ _ h=>zKk h)
theorem zPb:CfW Tryz.prog 180:=cfW Tryz.func180
noncomputable def zQa (g1:τF) (a2:Int):T Tryz.prog ((Int×Int)):=
 .loopS (fun n X_4=>zC6 a2 g1 n X_4) 1 (mb 45 70) [16] (fun s X_4 γ=>s.pc (mb 45 70) [16] [(6,I X_4)] []) (fun X_4=>
 .cond (leI X_4 100) (
 .loopS (fun n X_3=>zC5 a2 g1 X_4 n X_3) 0 (mb 45 198) [16] (fun s X_3 γ=>s.pc (mb 45 198) [16] [(7,I X_3)] []) (fun X_3=>
 .cond (leI X_3 X_4) (
 .loopS (fun n X_2=>zCN a2 g1 X_4 X_3 n X_2) 0 (mb 45 454) [16] (fun s X_2 γ=>s.pc (mb 45 454) [16] [(8,I X_2)] []) (fun X_2=>
 .cond (leI X_2 X_4) (.pl<|.dn<|.joinC (.op1 (zKZ X_3 X_2) fun y15=>.seqT (.cond (eqI y15 X_4) (.op1 (zDB X_3 X_2) fun y17=>.ret (eqI y17 1)) (.ret false)) fun b18=>.seqT (.cond b18 (.op1 (zDf g1 X_3 X_2) fun y20=>.op1 (zDB y20 a2) fun y21=>.ret (eqI y21 1)) (.ret false)) fun b22=>.ret (y15,b18,b22)) (mb 45 4398046511558) [16] (fun s q_1 γ=>s.pc (mb 45 4398046511558) [16] [(42,Bo q_1.2.2)] []) fun q_1=>
 .cond q_1.2.2 (
 .ret (.early ((X_3,X_2))))<|
 .frc (w64 (X_2+1)) fun y24=>.ret (.again y24))<|.ret (.done (()))) (mb 45 198) [16] (fun s o13 γ=>s.pc (mb 45 198) [16] [] []) (.early) fun o13=>
 .frc (w64 (X_3+1)) fun x25=>.ret (.again x25))<|.ret (.done (()))) (mb 45 70) [16] (fun s o9 γ=>s.pc (mb 45 70) [16] [] []) (.early) fun o9=>
 .frc (w64 (X_4+1)) fun k26=>.ret (.again k26))<|.ret (.done (()))) (mb 45 0) [] (fun s o5 γ=>s.pc (mb 45 0) [] [] []) (fun r=>r) fun o5=>
 .ret ((1,0))
theorem zRH {g1:τF} {a2:Int} {r:(Int×Int)} (h:zCO g1 a2=some r):zD Tryz.prog 180 [.ag [Ti g1.1,Ti g1.2.1,Ti g1.2.2],I a2] (.tc (I r.1) (.tc (I r.2) .tn)) []:=CtT (zQa g1 a2) (fun r=>(.tc (I r.1) (.tc (I r.2) .tn),[])) (rs:=[.t 4,.t 5]) (vs:=[.tmp 4,.tmp 5]) Tryz.func180 rfl rfl (.cons rfl (.cons rfl FitsL.nil)) h
def zSd (g1:τF) (a2:Int):=fC zPb (zCO g1 a2) fun _=>zRH
theorem zSB:CfW Tryz.prog 251:=cfW Tryz.func251
noncomputable def zSy (vn1:Int):T Tryz.prog Int:=
 .cond (ltI 0 vn1) (
 .ret 1)<|
 .cond (ltI vn1 0) (
 .ret (-1))<|
 .ret 0
theorem zTV {vn1:Int} {r:Int} (h:zHG vn1=some r):zD Tryz.prog 251 [I vn1] (I r) []:=CtU (zSy vn1) 2 (fun r=>I r) Tryz.func251 rfl rfl h
def zUB (vn1:Int):=fC zSB (zHG vn1) fun _=>zTV
theorem zM2:CfW Tryz.prog 217:=cfW Tryz.func217
noncomputable def zNG (a1:Int) (vm2:Int):T Tryz.prog Int:=
 .op1 (zAp a1 vm2) fun y3=>
 .loop (fun n X_1=>zBu vm2 n X_1.1 X_1.2.1 X_1.2.2.1 X_1.2.2.2) ((vm2,y3,0,1)) (mb 36 482) [] (fun s X_1 γ=>s.pc (mb 36 482) [] [(5,I X_1.1),(6,I X_1.2.1),(7,I X_1.2.2.1),(8,I X_1.2.2.2)] []) (fun X_1=>
 .cond (!eqI X_1.2.1 0) (.op0 (quoF .i64 X_1.1 X_1.2.1) fun z11=>
 .frc (w64 (Int.tdiv X_1.1 X_1.2.1)) fun q12=>
 .frc (w64 (X_1.1 - (w64 (q12*X_1.2.1)))) fun next13=>
 .frc (w64 (X_1.2.2.1 - (w64 (q12*X_1.2.2.2)))) fun y14=>.ret (.inl ((X_1.2.1,next13,X_1.2.2.2,y14))))<|.ret (.inr ((X_1.1,X_1.2.2.1)))) (mb 36 162) [] (fun s o9 γ=>s.pc (mb 36 162) [] [(5,I o9.1),(7,I o9.2)] []) fun o9=>
 .cond (!eqI o9.1 1) (
 .ret (-1))<|.op1 (zAp o9.2 vm2) fun y16=>
 .ret y16
theorem zNX {a1:Int} {vm2:Int} {r:Int} (h:zCF a1 vm2=some r):zD Tryz.prog 217 [I a1,I vm2] (I r) []:=CtU (zNG a1 vm2) 4 (fun r=>I r) Tryz.func217 rfl rfl h
def zH8 (a1:Int) (vm2:Int):=fC zM2 (zCF a1 vm2) fun _=>zNX
theorem zNz:CfW Tryz.prog 216:=cfW Tryz.func216
noncomputable def zOt (a1:Int) (b2:Int):T Tryz.prog (τF):=
 .op1 (zDB a1 b2) fun y3=>
 .cond (eqI b2 0) (.op1 (zUB a1) fun y5=>
 .ret ((y3,y5,0)))<|.draw 9 []<|.op0 (quoF .i64 a1 y3) fun z6=>.op1 (zIH b2) fun y7=>.op0 (quoF .i64 y7 y3) fun z8=>.op1 (zH8 (w64 (Int.tdiv a1 y3)) (w64 (Int.tdiv y7 y3))) fun y9=>
 .draw 12 []<|.op0 (quoF .i64 (w64 (y3 - (w64 (a1*y9)))) b2) fun z10=>
 .frc (w64 (Int.tdiv (w64 (y3 - (w64 (a1*y9)))) b2)) fun t11=>.ret ((y3,y9,t11))
theorem zPK {a1:Int} {b2:Int} {r:τF} (h:zDE a1 b2=some r):zD Tryz.prog 216 [I a1,I b2] (.tc (I r.1) (.tc (I r.2.1) (.tc (I r.2.2) .tn))) []:=CtT (zOt a1 b2) (fun r=>(.tc (I r.1) (.tc (I r.2.1) (.tc (I r.2.2) .tn)),[])) (rs:=[.t 4,.t 5,.t 6]) (vs:=[.tmp 4,.tmp 5,.tmp 6]) Tryz.func216 rfl rfl (.cons rfl (.cons rfl (.cons rfl FitsL.nil))) h
def zPu (a1:Int) (b2:Int):=fC zNz (zDE a1 b2) fun _=>zPK
theorem zLF:CfW Tryz.prog 181:=cfW Tryz.func181
noncomputable def zL9 (f1:τF) (x2:Int) (y3:Int):T Tryz.prog ((τF×τM)):=
 .op1 (zPu x2 y3) fun y4=>
 .op1 (zDf f1 x2 y3) fun y5=>
 .frc (w64 (0 - y4.2.2)) fun q6=>.op1 (zJW f1 x2 y3 q6 y4.2.1) fun y7=>
 .op1 (zAp y7 (w64 (2*y5))) fun y8=>.op0 (quoF .i64 (w64 (y8 - y7)) (w64 (2*y5))) fun z9=>
 .frc (w64 (Int.tdiv (w64 (y8 - y7)) (w64 (2*y5)))) fun t10=>.n0 (bld zDT zDc)<|
 .frc (w64 (q6+(w64 (x2*t10)))) fun f11=>.frc (w64 (y4.2.1+(w64 (y3*t10)))) fun f12=>
 .frc (w64 (y7+(w64 ((w64 (2*y5))*t10)))) fun b13=>.draw 14 [(13,48)]<|.op1 (zAl f1) fun y14=>.op0 (quoF .i64 (w64 ((w64 (b13*b13)) - y14)) (w64 (4*y5))) fun z15=>.n0 (bld pl42 bt42)<|
 .frc (w64 (Int.tdiv (w64 ((w64 (b13*b13)) - y14)) (w64 (4*y5)))) fun f16=>.ret (((y5,b13,f16),(x2,f11,y3,f12)))
theorem zLu {f1:τF} {x2:Int} {y3:Int} {r:(τF×τM)} (h:zA4 f1 x2 y3=some r):zD Tryz.prog 181 [.ag [Ti f1.1,Ti f1.2.1,Ti f1.2.2],I x2,I y3] (.tc (.ag [Ti r.1.1,Ti r.1.2.1,Ti r.1.2.2]) (.tc (.ag [Ti r.2.1,Ti r.2.2.1,Ti r.2.2.2.1,Ti r.2.2.2.2]) .tn)) []:=CtT (zL9 f1 x2 y3) (fun r=>(.tc (.ag [Ti r.1.1,Ti r.1.2.1,Ti r.1.2.2]) (.tc (.ag [Ti r.2.1,Ti r.2.2.1,Ti r.2.2.2.1,Ti r.2.2.2.2]) .tn),[])) (rs:=[.w 6 3,.w 7 4]) (vs:=[.cell 6 42,.cell 7 120]) Tryz.func181 rfl rfl (.cons ⟨rfl,wd42⟩ (.cons ⟨rfl,zFE⟩ FitsL.nil)) h
def zMn (f1:τF) (x2:Int) (y3:Int):=fC zLF (zA4 f1 x2 y3) fun _=>zLu
theorem zNy:CfW Tryz.prog 182:=cfW Tryz.func182
noncomputable def zOs (a1:Int) (vm2:Int) (b3:Int) (vn4:Int):T Tryz.prog ((Int×Int×Bool)):=
 .op1 (zDB vm2 vn4) fun y5=>
 .op0 (remF .i64 (w64 (b3 - a1)) y5) fun z6=>
 .cond (!eqI (Int.tmod (w64 (b3 - a1)) y5) 0) (
 .ret ((0,0,false)))<|.draw 18 []<|.op0 (quoF .i64 (w64 (b3 - a1)) y5) fun z8=>.op0 (quoF .i64 vm2 y5) fun z9=>.op0 (quoF .i64 vn4 y5) fun z10=>.op1 (zH8 (w64 (Int.tdiv vm2 y5)) (w64 (Int.tdiv vn4 y5))) fun y11=>.op0 (quoF .i64 vn4 y5) fun z12=>.op1 (zAp (w64 ((w64 (Int.tdiv (w64 (b3 - a1)) y5))*y11)) (w64 (Int.tdiv vn4 y5))) fun y13=>
 .op0 (quoF .i64 vm2 y5) fun z14=>
 .frc (w64 ((w64 (Int.tdiv vm2 y5))*vn4)) fun all15=>.op1 (zAp (w64 (a1+(w64 (vm2*y13)))) all15) fun y16=>
 .ret ((y16,all15,true))
theorem zPJ {a1:Int} {vm2:Int} {b3:Int} {vn4:Int} {r:(Int×Int×Bool)} (h:zCX a1 vm2 b3 vn4=some r):zD Tryz.prog 182 [I a1,I vm2,I b3,I vn4] (.tc (I r.1) (.tc (I r.2.1) (.tc (Bo r.2.2) .tn))) []:=CtT (zOs a1 vm2 b3 vn4) (fun r=>(.tc (I r.1) (.tc (I r.2.1) (.tc (Bo r.2.2) .tn)),[])) (rs:=[.t 8,.t 9,.t 10]) (vs:=[.tmp 8,.tmp 9,.tmp 10]) Tryz.func182 rfl rfl (.cons rfl (.cons rfl (.cons rfl FitsL.nil))) h
def zPt (a1:Int) (vm2:Int) (b3:Int) (vn4:Int):=fC zNy (zCX a1 vm2 b3 vn4) fun _=>zPJ
theorem zP9:CfW Tryz.prog 183:=cfW Tryz.func183
noncomputable def zQ8 (t1:Int):T Tryz.prog (τM):=
 .n0 (bld zDT zDc)<|
 .ret ((1,t1,0,1))
theorem zRF {t1:Int} {r:τM} (h:zD3 t1=some r):zD Tryz.prog 183 [I t1] (.ag [Ti r.1,Ti r.2.1,Ti r.2.2.1,Ti r.2.2.2]) []:=CtT (zQ8 t1) (fun r=>(.ag [Ti r.1,Ti r.2.1,Ti r.2.2.1,Ti r.2.2.2],[])) (rs:=[.w 2 4]) (vs:=[.cell 2 120]) Tryz.func183 rfl rfl (.cons ⟨rfl,zFE⟩ FitsL.nil) h
def zJX (t1:Int):=fC zP9 (zD3 t1) fun _=>zRF
theorem zP8:CfW Tryz.prog 144:=cfW Tryz.func144
noncomputable def zQ7 (f1:τF) (g2:τF):T Tryz.prog ((τF×τF×τM×τM)):=
 .op1 (zBt f1) fun y3=>
 .op1 (zBt g2) fun y4=>
 .op1 (zSd y4.1 y3.1.1) fun y5=>
 .op1 (zMn y4.1 y5.1 y5.2) fun y6=>
 .op1 (zFA y4.2 y6.2) fun y7=>
 .draw 22 []<|.op1 (zAp y3.1.2.1 (w64 (2*y3.1.1))) fun y8=>.op1 (zPt y8 (w64 (2*y3.1.1)) y6.1.2.1 (w64 (2*y6.1.1))) fun y9=>
 .draw 11 []<|.op0 (quoF .i64 (w64 (y9.1 - y3.1.2.1)) (w64 (2*y3.1.1))) fun z10=>.op1 (zJX (w64 (Int.tdiv (w64 (y9.1 - y3.1.2.1)) (w64 (2*y3.1.1))))) fun y11=>.op1 (zFA y3.2 y11) fun y12=>
 .draw 11 []<|.op0 (quoF .i64 (w64 (y9.1 - y6.1.2.1)) (w64 (2*y6.1.1))) fun z13=>.op1 (zJX (w64 (Int.tdiv (w64 (y9.1 - y6.1.2.1)) (w64 (2*y6.1.1))))) fun y14=>.op1 (zFA y7 y14) fun y15=>
 .draw 14 []<|.op1 (zAl y3.1) fun y16=>.op0 (quoF .i64 (w64 ((w64 (y9.1*y9.1)) - y16)) (w64 ((w64 (4*y3.1.1))*y6.1.1))) fun z17=>
 .frc (w64 (Int.tdiv (w64 ((w64 (y9.1*y9.1)) - y16)) (w64 ((w64 (4*y3.1.1))*y6.1.1)))) fun cc18=>.draw 21 [(18,32),(19,40),(20,48)]<|.n0 (bld pl42 bt42)<|.n0 (bld pl42 bt42)<|
 .frc (w64 (y3.1.1*cc18)) fun f19=>.frc (w64 (y6.1.1*cc18)) fun f20=>.ret (((y3.1.1,y9.1,f20),(y6.1.1,y9.1,f19),y12,y15))
theorem zRE {f1:τF} {g2:τF} {r:(τF×τF×τM×τM)} (h:zCM f1 g2=some r):zD Tryz.prog 144 [.ag [Ti f1.1,Ti f1.2.1,Ti f1.2.2],.ag [Ti g2.1,Ti g2.2.1,Ti g2.2.2]] (.tc (.ag [Ti r.1.1,Ti r.1.2.1,Ti r.1.2.2]) (.tc (.ag [Ti r.2.1.1,Ti r.2.1.2.1,Ti r.2.1.2.2]) (.tc (.ag [Ti r.2.2.1.1,Ti r.2.2.1.2.1,Ti r.2.2.1.2.2.1,Ti r.2.2.1.2.2.2]) (.tc (.ag [Ti r.2.2.2.1,Ti r.2.2.2.2.1,Ti r.2.2.2.2.2.1,Ti r.2.2.2.2.2.2]) .tn)))) []:=CtT (zQ7 f1 g2) (fun r=>(.tc (.ag [Ti r.1.1,Ti r.1.2.1,Ti r.1.2.2]) (.tc (.ag [Ti r.2.1.1,Ti r.2.1.2.1,Ti r.2.1.2.2]) (.tc (.ag [Ti r.2.2.1.1,Ti r.2.2.1.2.1,Ti r.2.2.1.2.2.1,Ti r.2.2.1.2.2.2]) (.tc (.ag [Ti r.2.2.2.1,Ti r.2.2.2.2.1,Ti r.2.2.2.2.2.1,Ti r.2.2.2.2.2.2]) .tn))),[])) (rs:=[.w 4 3,.w 5 3,.w 6 4,.w 7 4]) (vs:=[.cell 4 42,.cell 5 42,.cell 6 120,.cell 7 120]) Tryz.func144 rfl rfl (.cons ⟨rfl,wd42⟩ (.cons ⟨rfl,wd42⟩ (.cons ⟨rfl,zFE⟩ (.cons ⟨rfl,zFE⟩ FitsL.nil)))) h
def zSb (f1:τF) (g2:τF):=fC zP8 (zCM f1 g2) fun _=>zRE
theorem zOC:CfW Tryz.prog 145:=cfW Tryz.func145
noncomputable def zOw (a1:τF) (e2:τF):T Tryz.prog (τF):=
 .draw 13 []<|.op0 (quoF .i64 a1.2.2 e2.1) fun z3=>.n0 (bld pl42 bt42)<|
 .frc (w64 (a1.1*e2.1)) fun f4=>.frc (w64 (Int.tdiv a1.2.2 e2.1)) fun f5=>.ret ((f4,a1.2.1,f5))
theorem zPN {a1:τF} {e2:τF} {r:τF} (h:zEH a1 e2=some r):zD Tryz.prog 145 [.ag [Ti a1.1,Ti a1.2.1,Ti a1.2.2],.ag [Ti e2.1,Ti e2.2.1,Ti e2.2.2]] (.ag [Ti r.1,Ti r.2.1,Ti r.2.2]) []:=CtT (zOw a1 e2) (fun r=>(.ag [Ti r.1,Ti r.2.1,Ti r.2.2],[])) (rs:=[.w 4 3]) (vs:=[.cell 4 42]) Tryz.func145 rfl rfl (.cons ⟨rfl,wd42⟩ FitsL.nil) h
def zPx (a1:τF) (e2:τF):=fC zOC (zEH a1 e2) fun _=>zPN
theorem zTt:CfW Tryz.prog 101:=cfW Tryz.func101
noncomputable def zVL (f1:τF) (g2:τF):T Tryz.prog (τF):=
 .op1 (zSb f1 g2) fun y3=>
 .op1 (zPx y3.1 y3.2.1) fun y4=>.op1 (zCT y4) fun y5=>
 .ret y5
theorem zVb {f1:τF} {g2:τF} {r:τF} (h:zAG f1 g2=some r):zD Tryz.prog 101 [.ag [Ti f1.1,Ti f1.2.1,Ti f1.2.2],.ag [Ti g2.1,Ti g2.2.1,Ti g2.2.2]] (.ag [Ti r.1,Ti r.2.1,Ti r.2.2]) []:=CtT (zVL f1 g2) (fun r=>(.ag [Ti r.1,Ti r.2.1,Ti r.2.2],[])) (rs:=[.w 4 3]) (vs:=[.cell 4 42]) Tryz.func101 rfl rfl (.cons ⟨rfl,wd42⟩ FitsL.nil) h
def zGF (f1:τF) (g2:τF):=fC zTt (zAG f1 g2) fun _=>zVb
theorem zLI:CfW Tryz.prog 184:=cfW Tryz.func184
noncomputable def zLc (f1:τF):T Tryz.prog (τF):=
 .n0 (bld pl42 bt42)<|
 .frc (w64 (0 - f1.2.1)) fun f2=>.ret ((f1.1,f2,f1.2.2))
theorem zLx {f1:τF} {r:τF} (h:zDQ f1=some r):zD Tryz.prog 184 [.ag [Ti f1.1,Ti f1.2.1,Ti f1.2.2]] (.ag [Ti r.1,Ti r.2.1,Ti r.2.2]) []:=CtT (zLc f1) (fun r=>(.ag [Ti r.1,Ti r.2.1,Ti r.2.2],[])) (rs:=[.w 2 3]) (vs:=[.cell 2 42]) Tryz.func184 rfl rfl (.cons ⟨rfl,wd42⟩ FitsL.nil) h
def zMp (f1:τF):=fC zLI (zDQ f1) fun _=>zLx
theorem zM6:CfW Tryz.prog 146:=cfW Tryz.func146
noncomputable def zNK (f1:τF):T Tryz.prog (τF):=
 .op1 (zMp f1) fun y2=>.op1 (zCT y2) fun y3=>
 .ret y3
theorem zN2 {f1:τF} {r:τF} (h:zCn f1=some r):zD Tryz.prog 146 [.ag [Ti f1.1,Ti f1.2.1,Ti f1.2.2]] (.ag [Ti r.1,Ti r.2.1,Ti r.2.2]) []:=CtT (zNK f1) (fun r=>(.ag [Ti r.1,Ti r.2.1,Ti r.2.2],[])) (rs:=[.w 2 3]) (vs:=[.cell 2 42]) Tryz.func146 rfl rfl (.cons ⟨rfl,wd42⟩ FitsL.nil) h
def zOX (f1:τF):=fC zM6 (zCn f1) fun _=>zN2
theorem zTs:CfW Tryz.prog 147:=cfW Tryz.func147
noncomputable def zVK (d1:Int):T Tryz.prog (τF):=
 .op1 (zAp d1 2) fun y2=>
 .n0 dvN<|.n0 (bld pl42 bt42)<|
 .frc (w64 (Int.tdiv (w64 (y2 - d1)) 4)) fun f3=>.ret ((1,y2,f3))
theorem zVa {d1:Int} {r:τF} (h:zDi d1=some r):zD Tryz.prog 147 [I d1] (.ag [Ti r.1,Ti r.2.1,Ti r.2.2]) []:=CtT (zVK d1) (fun r=>(.ag [Ti r.1,Ti r.2.1,Ti r.2.2],[])) (rs:=[.w 2 3]) (vs:=[.cell 2 42]) Tryz.func147 rfl rfl (.cons ⟨rfl,wd42⟩ FitsL.nil) h
def zMr (d1:Int):=fC zTs (zDi d1) fun _=>zVa
theorem zPa:CfW Tryz.prog 102:=cfW Tryz.func102
noncomputable def zQ9 (f1:τF) (k2:Int):T Tryz.prog (τF):=
 .op1 (zCT f1) fun y3=>
 .join (
 .cond (ltI k2 0) (.op1 (zOX y3) fun y6=>
 .frc (w64 (0 - k2)) fun k7=>.ret (k7,y6.1,y6.2.1,y6.2.2))<|.ret (k2,y3.1,y3.2.1,y3.2.2)) (mb 31 22) [32,16] (fun s j4 γ=>s.pc (mb 31 22) [32,16] [(1,I j4.1)] [(16,.box [Ti j4.2.1,Ti j4.2.2.1,Ti j4.2.2.2])]) fun j4=>
 .op1 (zAl j4.2) fun y8=>.op1 (zMr y8) fun y9=>
 .loop (fun n X_1=>zB2 n X_1.1 X_1.2.1 X_1.2.2.1 X_1.2.2.2.1 X_1.2.2.2.2.1 X_1.2.2.2.2.2.1 X_1.2.2.2.2.2.2) ((j4.1,y9.1,y9.2.1,y9.2.2,j4.2.1,j4.2.2.1,j4.2.2.2)) (mb 31 54) [40,32,16] (fun s X_1 γ=>s.pc (mb 31 54) [40,32,16] [(1,I X_1.1)] [(40,.box [Ti X_1.2.1,Ti X_1.2.2.1,Ti X_1.2.2.2.1]),(16,.box [Ti X_1.2.2.2.2.1,Ti X_1.2.2.2.2.2.1,Ti X_1.2.2.2.2.2.2])]) (fun X_1=>
 .cond (ltI 0 X_1.1) (.pl<|.dn<|.join (.n0 dvN<|
 .cond (eqI (Int.tmod X_1.1 2) 1) (.op1 (zGF ((X_1.2.1,X_1.2.2.1,X_1.2.2.2.1)) ((X_1.2.2.2.2.1,X_1.2.2.2.2.2.1,X_1.2.2.2.2.2.2))) fun y22=>
 .ret (y22.1,y22.2.1,y22.2.2))<|.ret (X_1.2.1,X_1.2.2.1,X_1.2.2.2.1)) (mb 31 54) [40,32,16] (fun s j20 γ=>s.pc (mb 31 54) [40,32,16] [] [(40,.box [Ti j20.1,Ti j20.2.1,Ti j20.2.2])]) fun j20=>
 .op1 (zGF ((X_1.2.2.2.2.1,X_1.2.2.2.2.2.1,X_1.2.2.2.2.2.2)) ((X_1.2.2.2.2.1,X_1.2.2.2.2.2.1,X_1.2.2.2.2.2.2))) fun y23=>
 .n0 dvN<|
 .frc (w64 (Int.tdiv X_1.1 2)) fun k24=>.ret (.inl ((k24,j20.1,j20.2.1,j20.2.2,y23.1,y23.2.1,y23.2.2))))<|.ret (.inr ((X_1.2.1,X_1.2.2.1,X_1.2.2.2.1)))) (mb 31 48) [40,32] (fun s o18 γ=>s.pc (mb 31 48) [40,32] [] [(40,.box [Ti o18.1,Ti o18.2.1,Ti o18.2.2])]) fun o18=>
 .ret o18
theorem zRG {f1:τF} {k2:Int} {r:τF} (h:zCm f1 k2=some r):zD Tryz.prog 102 [.ag [Ti f1.1,Ti f1.2.1,Ti f1.2.2],I k2] (.ag [Ti r.1,Ti r.2.1,Ti r.2.2]) []:=CtT (zQ9 f1 k2) (fun r=>(.ag [Ti r.1,Ti r.2.1,Ti r.2.2],[])) (rs:=[.w 4 3]) (vs:=[.cell 4 42]) Tryz.func102 rfl rfl (.cons ⟨rfl,wd42⟩ FitsL.nil) h
def zSc (f1:τF) (k2:Int):=fC zPa (zCm f1 k2) fun _=>zRG
theorem zKT:∀args w,(callFunc 51 args).run Tryz.prog w=.ok (.enter 51 args) w:=jD Tryz.func51 kk kk
set_option maxRecDepth 100000 in
set_option maxHeartbeats 400000 in
theorem zNZ:∀(n:Nat) {vn1:Int} {r:ByteArray},zAE n vn1=some r→zD Tryz.prog 51 [I vn1] (.c (.v (.string r))) []:=by
  intro n
  induction n with
  |zero=>intro vn1 r h;cases h
  |succ n ih=>
   intro vn1 r h;refine zAj (rs:=[.t 2]) (vs:=[.tmp 2]) Tryz.func51 rfl rfl (.cons rfl FitsL.nil) (by decide) 20 rfl ?_
   rw[zAE]at h;show V _ _ ⟨I vn1::bt 19 [],[]⟩ _;refine qZ (mb 20 1) [] (s1:=⟨I vn1::bt 19 [],[]⟩) ?_ ?_
   ·refine L0 rfl rfl (zF (.c (.v (.string ((⟨#[]⟩:ByteArray))))) rfl kk) ?_
    refine zI ?_
    kernel_rfl
   refine zDI ?_
   refine qZ (mb 20 17) [] (s1:=⟨I vn1::bt 3 (Bo (ltI vn1 10)::bt 15 []),[]⟩) ?_ ?_
   ·refine L0 rfl rfl (zJ (I vn1) rfl kk) ?_
    refine L0 rfl rfl (zG9 (k:=.i64) (a:=vn1) (b:=10) rfl kk kk) ?_
    refine zI ?_
    kernel_rfl
   refine zDO rfl (fun hc2=>?_) (fun hc2=>?_)
   ·have h:=zBy h hc2;refine qZ (mb 20 4) [] (s1:=⟨.bot::.bot::.c (.v (.string (zCz ([IntKind.u8.wrap (w64 (48+vn1))]))))::bt 17 [],[]⟩) ?_ ?_
    ·refine L0 rfl rfl (zJ (I vn1) rfl kk) ?_
     refine L0 rfl rfl (zEw (a:=48) (b:=vn1) rfl kk kk) ?_
     refine L0 rfl rfl (zWh (k2:=.i64) (a:=w64 (48+vn1)) Tryz.underlying3 Tryz.underlying5 rfl kk) ?_
     refine L1 rfl rfl (zGO (z:=zv5) (els:=[IntKind.u8.wrap (w64 (48+vn1))].map c5) Tryz.underlying28 iz5 rfl (by decide) rfl kk rfl (by simp[c5]) (by decide) (by decide)) ?_
     refine L0 rfl rfl (z3m (c:=c5) (fun _=>rfl) ([IntKind.u8.wrap (w64 (48+vn1))]) Tryz.underlying28 Tryz.underlying5 Tryz.underlying9 rfl kk) ?_
     refine L0 rfl rfl (zF (.c (.v (.string (zCz ([IntKind.u8.wrap (w64 (48+vn1))]))))) rfl kk) ?_
     refine zI ?_
     kernel_rfl
    refine zE2 ?_
    obtain rfl:=zU h;show Post _ _ _ _ _;exact⟨.inr rfl,rfl,rfl,rfl⟩
   ·have h:=zBR h hc2;refine zEx ?_
    show V _ _ _ _;obtain⟨y3,hy3,h⟩:=zV h;obtain⟨u4,hu4,h⟩:=zV h;refine z07 [0,1,3,0,8,24,56,120,248,511,1023] 11 [[.z,.z,.z,.b,.b,.b,.b,.b,.b,.z,.z],[.a,.z,.z,.b,.b,.b,.b,.b,.b,.z,.z],[.a,.a,.z,.b,.b,.b,.b,.b,.b,.z,.z],[.b,.b,.b,.z,.z,.z,.z,.z,.z,.z,.z],[.b,.b,.b,.a,.z,.z,.z,.z,.z,.z,.z],[.b,.b,.b,.a,.a,.z,.z,.z,.z,.z,.z],[.b,.b,.b,.a,.a,.a,.z,.z,.z,.z,.z],[.b,.b,.b,.a,.a,.a,.a,.z,.z,.z,.z],[.b,.b,.b,.a,.a,.a,.a,.a,.z,.z,.z],[.a,.a,.a,.a,.a,.a,.a,.a,.a,.z,.z],[.a,.a,.a,.a,.a,.a,.a,.a,.a,.a,.z]] (mb 20 4) [] (s1:=⟨.bot::.bot::.c (.v (.string (y3++(zCz ([IntKind.u8.wrap (w64 (48+(Int.tmod vn1 10)))])))))::bt 17 [],[]⟩) kk kk ?_ ?_
    ·refine DE_0 0 (I vn1) kk rfl rfl rfl (jB rfl) kk (zJ (I vn1) rfl kk) 10 rfl ?_
     refine DE_0 1 (I (w64 (Int.tdiv vn1 10))) kk rfl rfl rfl (jB rfl) kk (zSW (a:=vn1) (b:=10) rfl kk kk (by decide)) 11 rfl ?_
     refine DE_1 2 kk rfl rfl rfl (jB rfl) (zCA (ih hy3) zKT rfl kk) rfl rfl rfl 12 rfl ?_
     refine DE_0 3 (I vn1) kk rfl rfl rfl (jB rfl) kk (zJ (I vn1) rfl kk) 13 rfl ?_
     refine DE_0 4 (I (Int.tmod vn1 10)) kk rfl rfl rfl (jB rfl) kk (zZU (k:=.i64) (a:=vn1) (b:=10) rfl kk kk (by decide)) 14 rfl ?_
     refine DE_0 5 (I (w64 (48+(Int.tmod vn1 10)))) kk rfl rfl rfl (jB rfl) kk (zEw (a:=48) (b:=Int.tmod vn1 10) rfl kk kk) 15 rfl ?_
     refine DE_0 6 (.c (.v (.int .u8 (IntKind.u8.wrap (w64 (48+(Int.tmod vn1 10))))))) kk rfl rfl rfl (jB rfl) kk (zWh (k2:=.i64) (a:=w64 (48+(Int.tmod vn1 10))) Tryz.underlying3 Tryz.underlying5 rfl kk) 16 rfl ?_
     refine DE_1 7 kk rfl rfl rfl (jB rfl) (zGO (z:=zv5) (els:=[IntKind.u8.wrap (w64 (48+(Int.tmod vn1 10)))].map c5) Tryz.underlying28 iz5 rfl (by decide) rfl kk rfl (by simp[c5]) (by decide) (by decide)) rfl rfl rfl 17 rfl ?_
     refine DE_0 8 (.c (.v (.string (zCz ([IntKind.u8.wrap (w64 (48+(Int.tmod vn1 10)))]))))) kk rfl rfl rfl (jB rfl) kk (z3m (c:=c5) (fun _=>rfl) ([IntKind.u8.wrap (w64 (48+(Int.tmod vn1 10)))]) Tryz.underlying28 Tryz.underlying5 Tryz.underlying9 rfl kk) 18 rfl ?_
     refine DE_0 9 (.c (.v (.string (y3++(zCz ([IntKind.u8.wrap (w64 (48+(Int.tmod vn1 10)))])))))) kk rfl rfl rfl (jB rfl) kk (z3l (a:=y3) (b:=zCz ([IntKind.u8.wrap (w64 (48+(Int.tmod vn1 10)))])) rfl kk kk (zUd hu4)) 19 rfl ?_
     refine DE_0 10 (.c (.v (.string (y3++(zCz ([IntKind.u8.wrap (w64 (48+(Int.tmod vn1 10)))])))))) kk rfl rfl rfl (jB rfl) kk (zF (.c (.v (.string (y3++(zCz ([IntKind.u8.wrap (w64 (48+(Int.tmod vn1 10)))])))))) rfl kk) 2 rfl ?_
     refine zWl kk ?_
     refine zI ?_
     kernel_rfl
    refine zE2 ?_
    obtain rfl:=zU h;show Post _ _ _ _ _;exact⟨.inr rfl,rfl,rfl,rfl⟩
theorem zV3 {vn1:Int} {r:ByteArray} (h:zAE FU vn1=some r):zD Tryz.prog 51 [I vn1] (.c (.v (.string r))) []:=zNZ FU h
def zEz (vn1:Int):=fC zKT (zAE FU vn1) fun _=>zV3
theorem zTm:CfW Tryz.prog 36:=cfW Tryz.func36
noncomputable def zVF (vn1:Int):T Tryz.prog ByteArray:=
 .cond (ltI vn1 0) (.op1 (zEz (w64 (0 - vn1))) fun y3=>.op0 (cat ((⟨#[45]⟩:ByteArray)) y3) fun u4=>
 .ret (((⟨#[45]⟩:ByteArray))++y3))<|.op1 (zEz vn1) fun y5=>
 .ret y5
theorem zV4 {vn1:Int} {r:ByteArray} (h:zAn vn1=some r):zD Tryz.prog 36 [I vn1] (.c (.v (.string r))) []:=CtU (zVF vn1) 2 (fun r=>.c (.v (.string r))) Tryz.func36 rfl rfl h
def zDC (vn1:Int):=fC zTm (zAn vn1) fun _=>zV4
theorem zSE:CfW Tryz.prog 54:=cfW Tryz.func54
noncomputable def zTB (f1:τF):T Tryz.prog ByteArray:=
 .draw 16 []<|.op1 (zDC f1.1) fun y2=>.op0 (cat ((⟨#[40]⟩:ByteArray)) y2) fun u3=>.op0 (cat (((⟨#[40]⟩:ByteArray))++y2) ((⟨#[44]⟩:ByteArray))) fun u4=>.op1 (zDC f1.2.1) fun y5=>.op0 (cat ((((⟨#[40]⟩:ByteArray))++y2)++((⟨#[44]⟩:ByteArray))) y5) fun u6=>.op0 (cat (((((⟨#[40]⟩:ByteArray))++y2)++((⟨#[44]⟩:ByteArray)))++y5) ((⟨#[44]⟩:ByteArray))) fun u7=>.op1 (zDC f1.2.2) fun y8=>.op0 (cat ((((((⟨#[40]⟩:ByteArray))++y2)++((⟨#[44]⟩:ByteArray)))++y5)++((⟨#[44]⟩:ByteArray))) y8) fun u9=>.op0 (cat (((((((⟨#[40]⟩:ByteArray))++y2)++((⟨#[44]⟩:ByteArray)))++y5)++((⟨#[44]⟩:ByteArray)))++y8) ((⟨#[41]⟩:ByteArray))) fun u10=>
 .ret ((((((((⟨#[40]⟩:ByteArray))++y2)++((⟨#[44]⟩:ByteArray)))++y5)++((⟨#[44]⟩:ByteArray)))++y8)++((⟨#[41]⟩:ByteArray)))
theorem zTY {f1:τF} {r:ByteArray} (h:zAe f1=some r):zD Tryz.prog 54 [.ag [Ti f1.1,Ti f1.2.1,Ti f1.2.2]] (.c (.v (.string r))) []:=CtU (zTB f1) 2 (fun r=>.c (.v (.string r))) Tryz.func54 rfl rfl h
def zCg (f1:τF):=fC zSE (zAe f1) fun _=>zTY
theorem zTi:CfW Tryz.prog 134:=cfW Tryz.func134
noncomputable def zVB (d1:Int):T Tryz.prog (List τF):=
 .n1 (nilN 42 3 (by decide))<|
 .n1 (nilN 42 3 (by decide))<|
 .loop (fun n X_3=>zBr d1 n X_3.1 X_3.2) ((1,([]:List τF))) (mb 47 25) [24] (fun s X_3 γ=>s.pc (mb 47 25) [24] [(4,I X_3.1)] [(24,.arr 42 3 (X_3.2.map c42))]) (fun X_3=>
 .cond (leI (w64 ((w64 (3*X_3.1))*X_3.1)) (w64 (0 - d1))) (
 .frc (w64 (1 - X_3.1)) fun b7=>.loop (fun n X_2=>zB1 X_3.1 d1 n X_2.1 X_2.2) ((b7,X_3.2)) (mb 47 57) [24] (fun s X_2 γ=>s.pc (mb 47 57) [24] [(5,I X_2.1)] [(24,.arr 42 3 (X_2.2.map c42))]) (fun X_2=>
 .cond (leI X_2.1 X_3.1) (.op0 (quoF .i64 (w64 ((w64 (X_2.1*X_2.1)) - d1)) (w64 (4*X_3.1))) fun z13=>.n0 (bld pl42 bt42)<|
 .frc (w64 (Int.tdiv (w64 ((w64 (X_2.1*X_2.1)) - d1)) (w64 (4*X_3.1)))) fun f14=>.joinC (.op1 (zAl ((X_3.1,X_2.1,f14))) fun y15=>.seqT (.cond (eqI y15 d1) (.op1 (zJV ((X_3.1,X_2.1,f14))) fun y17=>.ret y17) (.ret false)) fun b18=>.ret (y15,b18)) (mb 47 2199023255673) [48,24] (fun s q_1 γ=>s.pc (mb 47 2199023255673) [48,24] [(41,Bo q_1.2)] []) fun q_1=>
 .cond q_1.2 (.n1 bsl<|.opx (app ct42 X_2.2 ([(X_3.1,X_2.1,f14)])) fun u20=>
 .frc (w64 (X_2.1+1)) fun b21=>.ret (.inl ((b21,X_2.2++([(X_3.1,X_2.1,f14)])))))<|
 .frc (w64 (X_2.1+1)) fun b22=>.ret (.inl ((b22,X_2.2))))<|.ret (.inr X_2.2)) (mb 47 25) [24] (fun s o11 γ=>s.pc (mb 47 25) [24] [] [(24,.arr 42 3 (o11.map c42))]) fun o11=>
 .frc (w64 (X_3.1+1)) fun a23=>.ret (.inl ((a23,o11))))<|.ret (.inr X_3.2)) (mb 47 8) [24] (fun s o5 γ=>s.pc (mb 47 8) [24] [] [(24,.arr 42 3 (o5.map c42))]) fun o5=>
 .ret o5
theorem zVZ {d1:Int} {r:List τF} (h:zEg d1=some r):zD Tryz.prog 134 [I d1] (.ow 0) [(0,.arr 42 3 (r.map c42))]:=CtT (zVB d1) (fun r=>(.ow 0,[(0,.arr 42 3 (r.map c42))])) (rs:=[.t 2]) (vs:=[.tmp 2]) Tryz.func134 rfl rfl (.cons rfl FitsL.nil) h
def zWr (d1:Int):=fC zTi (zEg d1) fun _=>zVZ
theorem zRv:CfW Tryz.prog 86:=cfW Tryz.func86
noncomputable def zSs (d1:Int):T Tryz.prog (List τF):=
 .n1 (nilN 42 3 (by decide))<|
 .n1 (nilN 42 3 (by decide))<|
 .op1 (zWr d1) fun y2=>.n0 (lenM ct42 y2)<|
 .loop (fun n X_1=>zAW y2 n X_1.1 X_1.2) ((0,([]:List τF))) (mb 22 904) [56,24] (fun s X_1 γ=>s.pc (mb 22 904) [56,24] [(9,I X_1.1)] [(24,.arr 42 3 (X_1.2.map c42))]) (fun X_1=>
 .cond (ltI X_1.1 ((y2.length:Int))) (.op0 (zBH ct42 y2 X_1.1) fun e8=>.op0 (ldo ct42 y2 X_1.1) fun e9=>
 .op1 (zFP e9) fun y10=>
 .cond (eqI y10 1) (.n1 bsl<|.opx (app ct42 X_1.2 ([e9])) fun u12=>
 .frc (w64 (X_1.1+1)) fun t13=>.ret (.inl ((t13,X_1.2++([e9])))))<|
 .frc (w64 (X_1.1+1)) fun t14=>.ret (.inl ((t14,X_1.2))))<|.ret (.inr X_1.2)) (mb 22 8) [24] (fun s o6 γ=>s.pc (mb 22 8) [24] [] [(24,.arr 42 3 (o6.map c42))]) fun o6=>
 .ret o6
theorem zTP {d1:Int} {r:List τF} (h:zCB d1=some r):zD Tryz.prog 86 [I d1] (.ow 0) [(0,.arr 42 3 (r.map c42))]:=CtT (zSs d1) (fun r=>(.ow 0,[(0,.arr 42 3 (r.map c42))])) (rs:=[.t 2]) (vs:=[.tmp 2]) Tryz.func86 rfl rfl (.cons rfl FitsL.nil) h
def zTz (d1:Int):=fC zRv (zCB d1) fun _=>zTP
theorem zP5:CfW Tryz.prog 103:=cfW Tryz.func103
noncomputable def zQ4 (l1:List τF) (f2:τF):T Tryz.prog Int:=
 .n0 (lenM ct42 l1)<|
 .loopS (fun n X_1=>zBi f2 l1 n X_1) 0 (mb 19 904) [24] (fun s X_1 γ=>s.pc (mb 19 904) [24] [(9,I X_1)] []) (fun X_1=>
 .cond (ltI X_1 ((l1.length:Int))) (.op0 (idxM ct42 l1 X_1) fun e7=>
 .n0 (eqg3 zU6)<|
 .lt (((e7.1==f2.1)&&((e7.2.1==f2.2.1)&&(e7.2.2==f2.2.2)))) fun t8=>.cond t8 (
 .ret (.early X_1))<|
 .frc (w64 (X_1+1)) fun t10=>.ret (.again t10))<|.ret (.done (()))) (mb 19 0) [] (fun s o5 γ=>s.pc (mb 19 0) [] [] []) (fun r=>r) fun o5=>
 .ret (-1)
theorem zRB {l1:List τF} {f2:τF} {r:Int} (h:zD1 l1 f2=some r):zD Tryz.prog 103 [.c (.sl (l1.map c42)),.ag [Ti f2.1,Ti f2.2.1,Ti f2.2.2]] (I r) []:=CtU (zQ4 l1 f2) 4 (fun r=>I r) Tryz.func103 rfl rfl h
def zS2 (l1:List τF) (f2:τF):=fCs zP5 (zD1 l1 f2) (fun _=>zRB) fun _=>rfl
theorem zPc:CfW Tryz.prog 104:=cfW Tryz.func104
noncomputable def zQb (f1:τF):T Tryz.prog Int:=
 .op1 (zCT f1) fun y2=>
 .loop (fun n X_1=>zBj y2 n X_1.1 X_1.2.1 X_1.2.2.1 X_1.2.2.2) ((1,y2.1,y2.2.1,y2.2.2)) (mb 20 26) [32,8] (fun s X_1 γ=>s.pc (mb 20 26) [32,8] [(3,I X_1.1)] [(32,.box [Ti X_1.2.1,Ti X_1.2.2.1,Ti X_1.2.2.2])]) (fun X_1=>
 .draw 5 []<|.op1 (zAl y2) fun y9=>.op1 (zMr y9) fun y10=>.n0 (neg3 zZx)<|
 .cond (!((X_1.2.1==y10.1)&&((X_1.2.2.1==y10.2.1)&&(X_1.2.2.2==y10.2.2)))) (.op1 (zGF ((X_1.2.1,X_1.2.2.1,X_1.2.2.2)) y2) fun y12=>
 .frc (w64 (X_1.1+1)) fun k13=>.ret (.inl ((k13,y12.1,y12.2.1,y12.2.2))))<|.ret (.inr X_1.1)) (mb 20 8) [] (fun s o8 γ=>s.pc (mb 20 8) [] [(3,I o8)] []) fun o8=>
 .ret o8
theorem zRI {f1:τF} {r:Int} (h:zD4 f1=some r):zD Tryz.prog 104 [.ag [Ti f1.1,Ti f1.2.1,Ti f1.2.2]] (I r) []:=CtU (zQb f1) 2 (fun r=>I r) Tryz.func104 rfl rfl h
def zSe (f1:τF):=fC zPc (zD4 f1) fun _=>zRI
theorem zPd:CfW Tryz.prog 149:=cfW Tryz.func149
noncomputable def zQc (f1:τF):T Tryz.prog Int:=
 .op1 (zAl f1) fun y2=>
 .loopS (fun n X_1028=>zEj f1 y2 n X_1028) 1 (mb 42 26) [8] (fun s X_1028 γ=>s.pc (mb 42 26) [8] [(4,I X_1028)] []) (fun X_1028=>
 .loopS (fun n X_1027=>zEi f1 X_1028 y2 n X_1027) 0 (mb 42 58) [8] (fun s X_1027 γ=>s.pc (mb 42 58) [8] [(5,I X_1027)] []) (fun X_1027=>
 .cond (leI X_1027 X_1028) (
 .loopS (fun n X_1026=>zEN f1 X_1028 X_1027 y2 n X_1026) 0 (mb 42 122) [8] (fun s X_1026 γ=>s.pc (mb 42 122) [8] [(6,I X_1026)] []) (fun X_1026=>
 .cond (leI X_1026 X_1028) (.op1 (zDf f1 X_1027 X_1026) fun y14=>
 .joinC (.selB (eqI X_1027 X_1028) false [] fun w_1024=>.seqT (.cond (bif w_1024 then true else (eqI X_1026 X_1028)) (.op1 (zDB y14 (w64 (2*y2))) fun y17=>.ret (eqI y17 1)) (.ret false)) fun b18=>.ret (w_1024,b18)) (mb 42 1099511628026) [8] (fun s q_1025 γ=>s.pc (mb 42 1099511628026) [8] [(40,Bo q_1025.2)] []) fun q_1025=>
 .cond q_1025.2 (
 .ret (.early y14))<|
 .frc (w64 (X_1026+1)) fun y20=>.ret (.again y20))<|.ret (.done (()))) (mb 42 58) [8] (fun s o12 γ=>s.pc (mb 42 58) [8] [] []) (.early) fun o12=>
 .frc (w64 (X_1027+1)) fun x21=>.ret (.again x21))<|.ret (.done (()))) (mb 42 26) [8] (fun s o8 γ=>s.pc (mb 42 26) [8] [] []) (.early) fun o8=>
 .frc (w64 (X_1028+1)) fun vr22=>.ret (.again vr22)) [] [] (fun _ _ _=>⟨[],[]⟩) (fun r=>r) fun _=>.fail
theorem zRJ {f1:τF} {r:Int} (h:zGW f1=some r):zD Tryz.prog 149 [.ag [Ti f1.1,Ti f1.2.1,Ti f1.2.2]] (I r) []:=CtU (zQc f1) 2 (fun r=>I r) Tryz.func149 rfl rfl h
def zSf (f1:τF):=fC zPd (zGW f1) fun _=>zRJ
theorem zM3:CfW Tryz.prog 252:=cfW Tryz.func252
noncomputable def zNH (vn1:Int):T Tryz.prog (List Int):=
 .n1 (nilN 3 1 (by decide))<|
 .n1 (nilN 3 1 (by decide))<|
 .loop (fun n X_2=>zDv n X_2.1 X_2.2.1 X_2.2.2) ((vn1,2,([]:List Int))) (mb 30 25) [24] (fun s X_2 γ=>s.pc (mb 30 25) [24] [(0,I X_2.1),(4,I X_2.2.1)] [(24,.arr 3 1 (X_2.2.2.map c3))]) (fun X_2=>
 .cond (leI (w64 (X_2.2.1*X_2.2.1)) X_2.1) (.loop (fun n X_1=>zD0 X_2.2.1 n X_1.1 X_1.2) ((X_2.1,X_2.2.2)) (mb 30 25) [24] (fun s X_1 γ=>s.pc (mb 30 25) [24] [(0,I X_1.1)] [(24,.arr 3 1 (X_1.2.map c3))]) (fun X_1=>
 .op0 (remF .i64 X_1.1 X_2.2.1) fun z12=>
 .cond (eqI (Int.tmod X_1.1 X_2.2.1) 0) (.n1 bsl<|.opx (app ct3 X_1.2 ([X_2.2.1])) fun u14=>
 .op0 (quoF .i64 X_1.1 X_2.2.1) fun z15=>
 .frc (w64 (Int.tdiv X_1.1 X_2.2.1)) fun vn16=>.ret (.inl ((vn16,X_1.2++([X_2.2.1])))))<|.ret (.inr ((X_1.1,X_1.2)))) (mb 30 25) [24] (fun s o11 γ=>s.pc (mb 30 25) [24] [(0,I o11.1)] [(24,.arr 3 1 (o11.2.map c3))]) fun o11=>
 .frc (w64 (X_2.2.1+1)) fun d17=>.ret (.inl ((o11.1,d17,o11.2))))<|.ret (.inr ((X_2.1,X_2.2.2)))) (mb 30 9) [24] (fun s o6 γ=>s.pc (mb 30 9) [24] [(0,I o6.1)] [(24,.arr 3 1 (o6.2.map c3))]) fun o6=>
 .cond (ltI 1 o6.1) (.n1 bsl<|.opx (app ct3 o6.2 ([o6.1])) fun u19=>
 .ret (o6.2++([o6.1])))<|
 .ret o6.2
theorem zNY {vn1:Int} {r:List Int} (h:zFJ vn1=some r):zD Tryz.prog 252 [I vn1] (.ow 0) [(0,.arr 3 1 (r.map c3))]:=CtT (zNH vn1) (fun r=>(.ow 0,[(0,.arr 3 1 (r.map c3))])) (rs:=[.t 2]) (vs:=[.tmp 2]) Tryz.func252 rfl rfl (.cons rfl FitsL.nil) h
def zOV (vn1:Int):=fC zM3 (zFJ vn1) fun _=>zNY
theorem zTl:CfW Tryz.prog 253:=cfW Tryz.func253
noncomputable def zVE (l1:List Int) (vn2:Int):T Tryz.prog (List Int):=
 .n1 (nilN 3 1 (by decide))<|
 .loop (fun n X_3=>zFi l1 vn2 n X_3) 0 (mb 48 35) [] (fun s X_3 γ=>s.pc (mb 48 35) [] [(5,I X_3)] []) (fun X_3=>
 .dn<|.joinC (.n0 (lenM ct3 l1)<|.seqT (.cond (ltI X_3 ((l1.length:Int))) (.op0 (idxM ct3 l1 X_3) fun e7=>.ret (ltI e7 vn2)) (.ret false)) fun b8=>.ret b8) (mb 48 262179) [] (fun s q_1 γ=>s.pc (mb 48 262179) [] [(18,Bo q_1)] []) fun q_1=>
 .cond q_1 (
 .frc (w64 (X_3+1)) fun k10=>.ret (.inl k10))<|.ret (.inr X_3)) (mb 48 35) [] (fun s o5 γ=>s.pc (mb 48 35) [] [(5,I o5)] []) fun o5=>
 .dn<|.joinC (.n0 (lenM ct3 l1)<|.seqT (.cond (ltI o5 ((l1.length:Int))) (.op0 (idxM ct3 l1 o5) fun e12=>.ret (eqI e12 vn2)) (.ret false)) fun b13=>.ret b13) (mb 48 4294967331) [] (fun s q_2 γ=>s.pc (mb 48 4294967331) [] [(32,Bo q_2)] []) fun q_2=>
 .cond q_2 (
 .ret l1)<|.n1 bsl0<|.op0 (slice ct3 l1 0 o5) fun u15=>.opx (app ct3 (([]:List Int)) (subl l1 0 o5)) fun u16=>
 .n1 bsl<|.opx (app ct3 ((([]:List Int))++(subl l1 0 o5)) ([vn2])) fun u17=>
 .op0 (slice ct3 l1 o5 ((l1.length:Int))) fun u18=>.opx (app ct3 (((([]:List Int))++(subl l1 0 o5))++([vn2])) (subl l1 o5 ((l1.length:Int)))) fun u19=>
 .lt ((((([]:List Int))++(subl l1 0 o5))++([vn2]))++(subl l1 o5 ((l1.length:Int)))) fun l20=>.late (frzH 272)<|.ret l20
theorem zV2 {l1:List Int} {vn2:Int} {r:List Int} (h:zHr l1 vn2=some r):zD Tryz.prog 253 [.c (.sl (l1.map c3)),I vn2] (.c (.sl (r.map c3))) []:=CtU (zVE l1 vn2) 4 (fun r=>.c (.sl (r.map c3))) Tryz.func253 rfl rfl h
def zWs (l1:List Int) (vn2:Int):=fC zTl (zHr l1 vn2) fun _=>zV2
theorem zNx:CfW Tryz.prog 218:=cfW Tryz.func218
noncomputable def zOr (vn1:Int):T Tryz.prog (List Int):=
 .n1 (nilN 3 1 (by decide))<|
 .n1 (nilN 3 1 (by decide))<|
 .op1 (zOV vn1) fun y2=>.n0 (lenM ct3 y2)<|
 .hint (frzH 24)<|.loop (fun n X_1=>zEM y2 n X_1.1 X_1.2) ((([]:List Int),0)) (mb 18 904) [56] (fun s X_1 γ=>s.pc (mb 18 904) [56] [(3,.c (.sl (X_1.1.map c3))),(9,I X_1.2)] []) (fun X_1=>
 .cond (ltI X_1.2 ((y2.length:Int))) (.op0 (zBH ct3 y2 X_1.2) fun e8=>.op0 (ldo ct3 y2 X_1.2) fun e9=>
 .op1 (zWs X_1.1 e9) fun y10=>
 .frc (w64 (X_1.2+1)) fun t11=>.ret (.inl ((y10,t11))))<|.ret (.inr X_1.1)) (mb 18 8) [] (fun s o6 γ=>s.pc (mb 18 8) [] [(3,.c (.sl (o6.map c3)))] []) fun o6=>
 .ret o6
theorem zPI {vn1:Int} {r:List Int} (h:zFh vn1=some r):zD Tryz.prog 218 [I vn1] (.c (.sl (r.map c3))) []:=CtU (zOr vn1) 2 (fun r=>.c (.sl (r.map c3))) Tryz.func218 rfl rfl h
def zPs (vn1:Int):=fC zNx (zFh vn1) fun _=>zPI
theorem zTu:CfW Tryz.prog 185:=cfW Tryz.func185
noncomputable def zVM (d1:Int):T Tryz.prog (List (Int×Int)):=
 .n1 (nilN 181 2 (by decide))<|
 .n1 (nilN 181 2 (by decide))<|
 .op1 (zPs (w64 (0 - d1))) fun y2=>.n0 (lenM ct3 y2)<|
 .loop (fun n X_6=>zEI d1 y2 n X_6.1 X_6.2) ((0,([]:List (Int×Int)))) (mb 69 3593) [24] (fun s X_6 γ=>s.pc (mb 69 3593) [24] [(11,I X_6.1)] [(24,.arr 181 2 (X_6.2.map c181))]) (fun X_6=>
 .cond (ltI X_6.1 ((y2.length:Int))) (.op0 (idxM ct3 y2 X_6.1) fun e8=>
 .cond (ltI 2 e8) (.n0 (bld zIv zKU)<|.n1 bsl<|.opx (app zFs X_6.2 ([(1,e8)])) fun u10=>
 .frc (w64 (X_6.1+1)) fun t11=>.ret (.inl ((t11,X_6.2++([(1,e8)])))))<|
 .frc (w64 (X_6.1+1)) fun t12=>.ret (.inl ((t12,X_6.2))))<|.ret (.inr X_6.2)) (mb 69 9) [24] (fun s o6 γ=>s.pc (mb 69 9) [24] [] [(24,.arr 181 2 (o6.map c181))]) fun o6=>
 .n0 dvN<|
 .cond (!eqI (Int.tmod d1 2) 0) (
 .ret o6)<|.n0 dvN<|
 .frc (w64 (Int.tdiv (w64 (0 - d1)) 4)) fun vn14=>.n0 dvN<|
 .cond (eqI (Int.tmod vn14 4) 3) (
 .ret o6)<|.joinC (.n0 dvN<|.selB (eqI (Int.tmod vn14 4) 1) false [.z dvN] fun w_4=>.ret w_4) (mb 69 34359738440) [24] (fun s q_5 γ=>s.pc (mb 69 34359738440) [24] [(35,Bo (bif q_5 then true else (eqI (Int.tmod vn14 8) 4)))] []) fun q_5=>
 .lt (bif q_5 then true else (eqI (Int.tmod vn14 8) 4)) fun t17=>.cond t17 (.n0 (bld zIv zKU)<|.n1 bsl<|.opx (app zFs o6 ([(2,0)])) fun u19=>
 .ret (o6++([(2,0)])))<|.n0 dvN<|
 .cond (eqI (Int.tmod vn14 8) 2) (.n0 (bld zIv zKU)<|.n1 bsl<|.opx (app zFs o6 ([(4,0)])) fun u21=>
 .ret (o6++([(4,0)])))<|.n0 dvN<|
 .cond (eqI (Int.tmod vn14 8) 6) (.n0 (bld zIv zKU)<|.n1 bsl<|.opx (app zFs o6 ([(3,0)])) fun u23=>
 .ret (o6++([(3,0)])))<|.n0 (bld zIv zKU)<|.n0 (bld zIv zKU)<|.n1 bsl<|.opx (app zFs o6 ([(2,0),(3,0)])) fun u24=>
 .ret (o6++([(2,0),(3,0)]))
theorem zVc {d1:Int} {r:List (Int×Int)} (h:zHt d1=some r):zD Tryz.prog 185 [I d1] (.ow 0) [(0,.arr 181 2 (r.map c181))]:=CtT (zVM d1) (fun r=>(.ow 0,[(0,.arr 181 2 (r.map c181))])) (rs:=[.t 2]) (vs:=[.tmp 2]) Tryz.func185 rfl rfl (.cons rfl FitsL.nil) h
def zWv (d1:Int):=fC zTu (zHt d1) fun _=>zVc
theorem zTf:CfW Tryz.prog 254:=cfW Tryz.func254
noncomputable def zUy (vs1:τF):T Tryz.prog Bool:=
 .pl<|.joinC (.selB (eqI vs1.1 0) false [] fun w_2=>.ret w_2) (mb 11 4) [] (fun s q_3 γ=>s.pc (mb 11 4) [] [(2,Bo (bif q_3 then true else (eqI vs1.1 1)))] []) fun q_3=>
 .ret (bif q_3 then true else (eqI vs1.1 1))
theorem zVW {vs1:τF} {r:Bool} (h:zHq vs1=some r):zD Tryz.prog 254 [.ag [Ti vs1.1,Ti vs1.2.1,Ti vs1.2.2]] (Bo r) []:=CtU (zUy vs1) 2 (fun r=>Bo r) Tryz.func254 rfl rfl h
def zWo (vs1:τF):=fC zTf (zHq vs1) fun _=>zVW
theorem zTe:CfW Tryz.prog 220:=cfW Tryz.func220
noncomputable def zUx (a1:Int):T Tryz.prog Int:=
 .op1 (zAp a1 8) fun y2=>
 .cond (eqI y2 1) (.cond (eqI y2 1) (
 .ret 1)<|
 .cond (eqI y2 3) (.cond (eqI y2 3) (
 .ret (-1))<|
 .ret 0)<|
 .cond (eqI y2 5) (
 .ret (-1))<|
 .ret 0)<|
 .cond (eqI y2 7) (
 .ret 1)<|
 .cond (eqI y2 3) (.cond (eqI y2 3) (
 .ret (-1))<|
 .ret 0)<|
 .cond (eqI y2 5) (
 .ret (-1))<|
 .ret 0
theorem zVV {a1:Int} {r:Int} (h:zFy a1=some r):zD Tryz.prog 220 [I a1] (I r) []:=CtU (zUx a1) 2 (fun r=>I r) Tryz.func220 rfl rfl h
def zMo (a1:Int):=fC zTe (zFy a1) fun _=>zVV
theorem zKA:CfW Tryz.prog 255:=cfW Tryz.func255
noncomputable def zK2 (vs1:τF):T Tryz.prog (τF):=
 .op1 (zE3 vs1.1 0 (w64 (vs1.2.1 - 1))) fun y2=>
 .cond (!y2) (.op1 (zAp vs1.1 vs1.2.1) fun y4=>
 .ret ((y4,vs1.2.1,vs1.2.2)))<|.n0 dvN<|
 .cond (eqI (Int.tmod vs1.1 2) 0) (.n0 dvN<|
 .frc (w64 (Int.tdiv vs1.1 2)) fun f6=>.draw 7 []<|.op1 (zMo vs1.2.1) fun y7=>
 .frc (w64 (vs1.2.2*y7)) fun f8=>
 .ret ((f6,vs1.2.1,f8)))<|.join (.joinC (.n0 dvN<|.selB (eqI (Int.tmod vs1.1 4) 3) true [.z dvN] fun w_8=>.ret w_8) (mb 56 8198) [16,8] (fun s q_9 γ=>s.pc (mb 56 8198) [16,8] [(13,Bo (bif q_9 then (eqI (Int.tmod vs1.2.1 4) 3) else false))] []) fun q_9=>
 .lt (bif q_9 then (eqI (Int.tmod vs1.2.1 4) 3) else false) fun t11=>.cond t11 (
 .frc (w64 (0 - vs1.2.2)) fun f13=>.ret f13)<|.ret vs1.2.2) (mb 56 6) [16,8] (fun s j9 γ=>s.pc (mb 56 6) [16,8] [] [(8,.box [Ti vs1.1,Ti vs1.2.1,Ti j9])]) fun j9=>
 .ret ((vs1.2.1,vs1.1,j9))
theorem zKj {vs1:τF} {r:τF} (h:zEK vs1=some r):zD Tryz.prog 255 [.ag [Ti vs1.1,Ti vs1.2.1,Ti vs1.2.2]] (.ag [Ti r.1,Ti r.2.1,Ti r.2.2]) []:=CtT (zK2 vs1) (fun r=>(.ag [Ti r.1,Ti r.2.1,Ti r.2.2],[])) (rs:=[.w 2 3]) (vs:=[.cell 2 223]) Tryz.func255 rfl rfl (.cons ⟨rfl,wd223⟩ FitsL.nil) h
def zL2 (vs1:τF):=fC zKA (zEK vs1) fun _=>zKj
theorem zNt:CfW Tryz.prog 219:=cfW Tryz.func219
noncomputable def zOn (a1:Int) (vn2:Int):T Tryz.prog Int:=
 .n0 (bld z55 bt223)<|
 .loop (fun n X_6=>zEL n X_6.1 X_6.2.1 X_6.2.2) ((a1,vn2,1)) (mb 24 32) [40] (fun s X_6 γ=>s.pc (mb 24 32) [40] [] [(40,.box [Ti X_6.1,Ti X_6.2.1,Ti X_6.2.2])]) (fun X_6=>
 .op1 (zWo ((X_6.1,X_6.2.1,X_6.2.2))) fun y8=>
 .cond (!y8) (.op1 (zL2 ((X_6.1,X_6.2.1,X_6.2.2))) fun y10=>
 .ret (.inl ((y10.1,y10.2.1,y10.2.2))))<|.ret (.inr ((X_6.1,X_6.2.1,X_6.2.2)))) (mb 24 32) [40] (fun s o7 γ=>s.pc (mb 24 32) [40] [] [(40,.box [Ti o7.1,Ti o7.2.1,Ti o7.2.2])]) fun o7=>
 .dn<|.joinC (.selB (eqI o7.1 0) true [] fun w_4=>.ret w_4) (mb 24 2097184) [40] (fun s q_5 γ=>s.pc (mb 24 2097184) [40] [(21,Bo (bif q_5 then (ltI 1 o7.2.1) else false))] []) fun q_5=>
 .cond (bif q_5 then (ltI 1 o7.2.1) else false) (
 .ret 0)<|
 .ret o7.2.2
theorem zPE {a1:Int} {vn2:Int} {r:Int} (h:zFg a1 vn2=some r):zD Tryz.prog 219 [I a1,I vn2] (I r) []:=CtU (zOn a1 vn2) 4 (fun r=>I r) Tryz.func219 rfl rfl h
def zPp (a1:Int) (vn2:Int):=fC zNt (zFg a1 vn2) fun _=>zPE
theorem zW6:CfW Tryz.prog 186:=cfW Tryz.func186
noncomputable def zXN (x1:(Int×Int)) (vn2:Int):T Tryz.prog Int:=
 .cond (eqI x1.1 1) (.op1 (zPp vn2 x1.2) fun y4=>
 .ret y4)<|.n0 dvN<|
 .cond (eqI (Int.tmod vn2 2) 0) (
 .ret 0)<|.op1 (zAp vn2 4) fun y6=>.op1 (zMo vn2) fun y7=>
 .frc (w64 (2 - y6)) fun delta8=>
 .cond (eqI x1.1 2) (
 .ret delta8)<|
 .cond (eqI x1.1 3) (
 .ret y7)<|
 .frc (w64 (delta8*y7)) fun t11=>.ret t11
theorem zX2 {x1:(Int×Int)} {vn2:Int} {r:Int} (h:zIt x1 vn2=some r):zD Tryz.prog 186 [.ag [Ti x1.1,Ti x1.2],I vn2] (I r) []:=CtU (zXN x1 vn2) 4 (fun r=>I r) Tryz.func186 rfl rfl h
def zYW (x1:(Int×Int)) (vn2:Int):=fC zW6 (zIt x1 vn2) fun _=>zX2
theorem zSK:CfW Tryz.prog 148:=cfW Tryz.func148
noncomputable def zTH (d1:Int) (vn2:Int):T Tryz.prog (List Int):=
 .n1 (nilN 3 1 (by decide))<|
 .n1 (nilN 3 1 (by decide))<|
 .op1 (zWv d1) fun y3=>.n0 (lenM zFs y3)<|
 .loop (fun n X_1=>zFK vn2 y3 n X_1.1 X_1.2) ((0,([]:List Int))) (mb 23 3618) [72,40] (fun s X_1 γ=>s.pc (mb 23 3618) [72,40] [(11,I X_1.1)] [(40,.arr 3 1 (X_1.2.map c3))]) (fun X_1=>
 .cond (ltI X_1.1 ((y3.length:Int))) (.op0 (zBH zFs y3 X_1.1) fun e9=>.op0 (ldo zFs y3 X_1.1) fun e10=>
 .op1 (zYW e10 vn2) fun y11=>.n1 bsl<|.opx (app ct3 X_1.2 ([y11])) fun u12=>
 .frc (w64 (X_1.1+1)) fun t13=>.ret (.inl ((t13,X_1.2++([y11])))))<|.ret (.inr X_1.2)) (mb 23 32) [40] (fun s o7 γ=>s.pc (mb 23 32) [40] [] [(40,.arr 3 1 (o7.map c3))]) fun o7=>
 .ret o7
theorem zT4 {d1:Int} {vn2:Int} {r:List Int} (h:zHH d1 vn2=some r):zD Tryz.prog 148 [I d1,I vn2] (.ow 0) [(0,.arr 3 1 (r.map c3))]:=CtT (zTH d1 vn2) (fun r=>(.ow 0,[(0,.arr 3 1 (r.map c3))])) (rs:=[.t 4]) (vs:=[.tmp 4]) Tryz.func148 rfl rfl (.cons rfl FitsL.nil) h
def zUH (d1:Int) (vn2:Int):=fC zSK (zHH d1 vn2) fun _=>zT4
theorem zW5:CfW Tryz.prog 105:=cfW Tryz.func105
noncomputable def zXM (f1:τF):T Tryz.prog (List Int):=
 .n1 (nilN 3 1 (by decide))<|
 .draw 7 []<|.op1 (zAl f1) fun y2=>.op1 (zCT f1) fun y3=>.op1 (zSf y3) fun y4=>.op1 (zUH y2 y4) fun y5=>
 .ret y5
theorem zX1 {f1:τF} {r:List Int} (h:zEZ f1=some r):zD Tryz.prog 105 [.ag [Ti f1.1,Ti f1.2.1,Ti f1.2.2]] (.ow 0) [(0,.arr 3 1 (r.map c3))]:=CtT (zXM f1) (fun r=>(.ow 0,[(0,.arr 3 1 (r.map c3))])) (rs:=[.t 2]) (vs:=[.tmp 2]) Tryz.func105 rfl rfl (.cons rfl FitsL.nil) h
def zYV (f1:τF):=fC zW5 (zEZ f1) fun _=>zX1
theorem zPY:CfW Tryz.prog 150:=cfW Tryz.func150
noncomputable def zQX (vn1:Int):T Tryz.prog Bool:=
 .op1 (zE3 vn1 1 10000) fun y2=>
 .ret y2
theorem zQu {vn1:Int} {r:Bool} (h:zEe vn1=some r):zD Tryz.prog 150 [I vn1] (Bo r) []:=CtU (zQX vn1) 2 (fun r=>Bo r) Tryz.func150 rfl rfl h
def zS6 (vn1:Int):=fC zPY (zEe vn1) fun _=>zQu
theorem zRy:CfW Tryz.prog 187:=cfW Tryz.func187
noncomputable def zSv (vn1:Int):T Tryz.prog Int:=
 .loop (fun n X_1=>zCE vn1 n X_1.1 X_1.2) ((0,1000000000)) (mb 23 25) [] (fun s X_1 γ=>s.pc (mb 23 25) [] [(3,I X_1.1),(4,I X_1.2)] []) (fun X_1=>
 .cond (ltI X_1.1 X_1.2) (.n0 dvN<|
 .frc (w64 (Int.tdiv (w64 ((w64 (X_1.1+X_1.2))+1)) 2)) fun mid7=>
 .cond (leI (w64 (mid7*mid7)) vn1) (
 .ret (.inl ((mid7,X_1.2))))<|
 .frc (w64 (mid7 - 1)) fun hi9=>.ret (.inl ((X_1.1,hi9))))<|.ret (.inr X_1.1)) (mb 23 8) [] (fun s o5 γ=>s.pc (mb 23 8) [] [(3,I o5)] []) fun o5=>
 .ret o5
theorem zTS {vn1:Int} {r:Int} (h:zEA vn1=some r):zD Tryz.prog 187 [I vn1] (I r) []:=CtU (zSv vn1) 2 (fun r=>I r) Tryz.func187 rfl rfl h
def zUA (vn1:Int):=fC zRy (zEA vn1) fun _=>zTS
theorem zTd:CfW Tryz.prog 188:=cfW Tryz.func188
noncomputable def zUw (l1:List (Int×Int)) (p2:(Int×Int)):T Tryz.prog Bool:=
 .n0 (lenM zG5 l1)<|
 .loopS (fun n X_1=>zCW l1 p2 n X_1) 0 (mb 17 904) [24] (fun s X_1 γ=>s.pc (mb 17 904) [24] [(9,I X_1)] []) (fun X_1=>
 .cond (ltI X_1 ((l1.length:Int))) (.op0 (idxM zG5 l1 X_1) fun e7=>
 .n0 (eqg2 z6r)<|
 .cond (((e7.1==p2.1)&&(e7.2==p2.2))) (
 .ret (.early true))<|
 .frc (w64 (X_1+1)) fun t9=>.ret (.again t9))<|.ret (.done (()))) (mb 17 0) [] (fun s o5 γ=>s.pc (mb 17 0) [] [] []) (fun r=>r) fun o5=>
 .ret false
theorem zVU {l1:List (Int×Int)} {p2:(Int×Int)} {r:Bool} (h:zCq l1 p2=some r):zD Tryz.prog 188 [.c (.sl (l1.map c184)),.ag [Ti p2.1,Ti p2.2]] (Bo r) []:=CtU (zUw l1 p2) 4 (fun r=>Bo r) Tryz.func188 rfl rfl h
def zWn (l1:List (Int×Int)) (p2:(Int×Int)):=fC zTd (zCq l1 p2) fun _=>zVU
theorem zTc:CfW Tryz.prog 189:=cfW Tryz.func189
noncomputable def zUv (l1:List (Int×Int)) (p2:(Int×Int)):T Tryz.prog (List (Int×Int)):=
 .n1 (nilN 184 2 (by decide))<|
 .loop (fun n X_2=>zCV l1 p2 n X_2) 0 (mb 57 41) [24] (fun s X_2 γ=>s.pc (mb 57 41) [24] [(5,I X_2)] []) (fun X_2=>
 .dn<|.joinC (.draw 34 []<|.n0 (lenM zG5 l1)<|.seqT (.cond (ltI X_2 ((l1.length:Int))) (.op0 (idxM zG5 l1 X_2) fun e7=>.seqT (.cond (ltI e7.1 p2.1) (.ret true) (.op0 (idxM zG5 l1 X_2) fun e9=>.seqT (.cond (eqI e9.1 p2.1) (.op0 (idxM zG5 l1 X_2) fun e11=>.ret (ltI e11.2 p2.2)) (.ret false)) fun b12=>.ret b12)) fun b13=>.ret b13) (.ret false)) fun b14=>.ret b14) (mb 57 1099511627817) [24] (fun s q_1 γ=>s.pc (mb 57 1099511627817) [24] [(40,Bo q_1)] []) fun q_1=>
 .cond q_1 (
 .frc (w64 (X_2+1)) fun k16=>.ret (.inl k16))<|.ret (.inr X_2)) (mb 57 41) [24] (fun s o5 γ=>s.pc (mb 57 41) [24] [(5,I o5)] []) fun o5=>
 .n1 bsl0<|.op0 (slice zG5 l1 0 o5) fun u17=>.opx (app zG5 (([]:List (Int×Int))) (subl l1 0 o5)) fun u18=>
 .n1 bsl<|.opx (app zG5 ((([]:List (Int×Int)))++(subl l1 0 o5)) ([p2])) fun u19=>
 .op0 (slice zG5 l1 o5 ((l1.length:Int))) fun u20=>.opx (app zG5 (((([]:List (Int×Int)))++(subl l1 0 o5))++([p2])) (subl l1 o5 ((l1.length:Int)))) fun u21=>
 .lt ((((([]:List (Int×Int)))++(subl l1 0 o5))++([p2]))++(subl l1 o5 ((l1.length:Int)))) fun l22=>.ret l22
theorem zVT {l1:List (Int×Int)} {p2:(Int×Int)} {r:List (Int×Int)} (h:zDg l1 p2=some r):zD Tryz.prog 189 [.c (.sl (l1.map c184)),.ag [Ti p2.1,Ti p2.2]] (.ow 0) [(0,.arr 184 2 (r.map c184))]:=CtT (zUv l1 p2) (fun r=>(.ow 0,[(0,.arr 184 2 (r.map c184))])) (rs:=[.t 4]) (vs:=[.tmp 4]) Tryz.func189 rfl rfl (.cons rfl FitsL.nil) h
def zWm (l1:List (Int×Int)) (p2:(Int×Int)):=fC zTc (zDg l1 p2) fun _=>zVT
theorem zW2:CfW Tryz.prog 151:=cfW Tryz.func151
noncomputable def zXK (f1:τF) (vn2:Int):T Tryz.prog (List (Int×Int)):=
 .n1 (nilN 184 2 (by decide))<|
 .op1 (zAl f1) fun y3=>
 .n1 (nilN 184 2 (by decide))<|
 .hint (frzH 48)<|.loop (fun n X_3=>zCj f1 vn2 y3 n X_3.1 X_3.2) ((0,([]:List (Int×Int)))) (mb 108 230) [16] (fun s X_3 γ=>s.pc (mb 108 230) [16] [(6,.c (.sl (X_3.2.map c184))),(7,I X_3.1)] []) (fun X_3=>
 .lt (leI (w64 ((w64 ((w64 (0 - y3))*X_3.1))*X_3.1)) (w64 ((w64 (4*f1.1))*vn2))) fun t8=>.cond t8 (.op1 (zUA (w64 ((w64 ((w64 (y3*X_3.1))*X_3.1))+(w64 ((w64 (4*f1.1))*vn2))))) fun y10=>
 .lt (!eqI (w64 (y10*y10)) (w64 ((w64 ((w64 (y3*X_3.1))*X_3.1))+(w64 ((w64 (4*f1.1))*vn2))))) fun t11=>.cond t11 (
 .frc (w64 (X_3.1+1)) fun y13=>.ret (.inl ((y13,X_3.2))))<|.n1 bsl<|.n0 (lenM ct3 ([X_3.1,w64 (0 - X_3.1)]))<|
 .frc ((([X_3.1,w64 (0 - X_3.1)]).length:Int)) fun t14=>.loop (fun n X_2=>zBT f1 t14 vn2 y10 y3 X_3.1 n X_2.1 X_2.2) ((X_3.2,0)) (mb 108 8070450532247929318) [480,16] (fun s X_2 γ=>s.pc (mb 108 8070450532247929318) [480,16] [(6,.c (.sl (X_2.1.map c184))),(62,I X_2.2)] []) (fun X_2=>
 .cond (ltI X_2.2 t14) (.op0 (zBH ct3 ([X_3.1,w64 (0 - X_3.1)]) X_2.2) fun e20=>.op0 (ldo ct3 ([X_3.1,w64 (0 - X_3.1)]) X_2.2) fun e21=>
 .n1 bsl<|.n0 (lenM ct3 ([y10,w64 (0 - y10)]))<|
 .frc ((([y10,w64 (0 - y10)]).length:Int)) fun t22=>.loop (fun n X_1=>jX e21 f1 t14 X_2.2 t22 vn2 y10 y3 X_3.1 n X_1.1 X_1.2) ((X_2.1,0)) (mb 108 4140141123043187492326) [552,480,16] (fun s X_1 γ=>s.pc (mb 108 4140141123043187492326) [552,480,16] [(6,.c (.sl (X_1.1.map c184))),(71,I X_1.2)] []) (fun X_1=>
 .cond (ltI X_1.2 t22) (.op0 (zBH ct3 ([y10,w64 (0 - y10)]) X_1.2) fun e28=>.op0 (ldo ct3 ([y10,w64 (0 - y10)]) X_1.2) fun e29=>
 .op0 (remF .i64 (w64 (e29 - (w64 (f1.2.1*e21)))) (w64 (2*f1.1))) fun z30=>
 .lt (eqI (Int.tmod (w64 (e29 - (w64 (f1.2.1*e21)))) (w64 (2*f1.1))) 0) fun t31=>.cond t31 (.op0 (quoF .i64 (w64 (e29 - (w64 (f1.2.1*e21)))) (w64 (2*f1.1))) fun z33=>.n0 (bld zZu z3X)<|
 .frc (w64 (Int.tdiv (w64 (e29 - (w64 (f1.2.1*e21)))) (w64 (2*f1.1)))) fun f34=>.op1 (zWn X_1.1 ((f34,e21))) fun y35=>
 .cond (!y35) (.op1 (zWm X_1.1 ((f34,e21))) fun y37=>
 .hint (frzH 832)<|
 .frc (w64 (X_1.2+1)) fun t38=>.ret (.inl ((y37,t38))))<|
 .frc (w64 (X_1.2+1)) fun t39=>.ret (.inl ((X_1.1,t39))))<|
 .frc (w64 (X_1.2+1)) fun t40=>.ret (.inl ((X_1.1,t40))))<|.ret (.inr X_1.1)) (mb 108 8070450532247929318) [480,16] (fun s o26 γ=>s.pc (mb 108 8070450532247929318) [480,16] [(6,.c (.sl (o26.map c184)))] []) fun o26=>
 .frc (w64 (X_2.2+1)) fun t41=>.ret (.inl ((o26,t41))))<|.ret (.inr X_2.1)) (mb 108 230) [16] (fun s o18 γ=>s.pc (mb 108 230) [16] [(6,.c (.sl (o18.map c184)))] []) fun o18=>
 .frc (w64 (X_3.1+1)) fun y42=>.ret (.inl ((y42,o18))))<|.ret (.inr X_3.2)) (mb 108 64) [] (fun s o7 γ=>s.pc (mb 108 64) [] [(6,.c (.sl (o7.map c184)))] []) fun o7=>
 .ret o7
theorem zXY {f1:τF} {vn2:Int} {r:List (Int×Int)} (h:zEY f1 vn2=some r):zD Tryz.prog 151 [.ag [Ti f1.1,Ti f1.2.1,Ti f1.2.2],I vn2] (.c (.sl (r.map c184))) []:=CtU (zXK f1 vn2) 4 (fun r=>.c (.sl (r.map c184))) Tryz.func151 rfl rfl h
def zYU (f1:τF) (vn2:Int):=fC zW2 (zEY f1 vn2) fun _=>zXY
theorem zFo:CfW Tryz.prog 106:=cfW Tryz.func106
noncomputable def zFu (f1:τF) (vn2:Int):T Tryz.prog ((Int×Bool)):=
 .pl<|.dn<|.joinC (.op1 (zKX f1) fun y3=>.seqT (.cond (!y3) (.ret true) (.op1 (zS6 vn2) fun y5=>.ret (!y5))) fun b6=>.ret (y3,b6)) (mb 18 8198) [16] (fun s q_1 γ=>s.pc (mb 18 8198) [16] [(13,Bo q_1.2)] []) fun q_1=>
 .cond q_1.2 (
 .ret ((0,false)))<|.op1 (zYU f1 vn2) fun y8=>.n0 (lenM zG5 y8)<|
 .ret (((y8.length:Int),true))
theorem zFw {f1:τF} {vn2:Int} {r:(Int×Bool)} (h:zAH f1 vn2=some r):zD Tryz.prog 106 [.ag [Ti f1.1,Ti f1.2.1,Ti f1.2.2],I vn2] (.tc (I r.1) (.tc (Bo r.2) .tn)) []:=CtT (zFu f1 vn2) (fun r=>(.tc (I r.1) (.tc (Bo r.2) .tn),[])) (rs:=[.t 4,.t 5]) (vs:=[.tmp 4,.tmp 5]) Tryz.func106 rfl rfl (.cons rfl (.cons rfl FitsL.nil)) h
def zGG (f1:τF) (vn2:Int):=fC zFo (zAH f1 vn2) fun _=>zFw
theorem zTq:CfW Tryz.prog 221:=cfW Tryz.func221
noncomputable def zVI (vm1:τM):T Tryz.prog Int:=
 .frc (w64 ((w64 (vm1.1*vm1.2.2.2)) - (w64 (vm1.2.1*vm1.2.2.1)))) fun t2=>.ret t2
theorem zV8 {vm1:τM} {r:Int} (h:zHs vm1=some r):zD Tryz.prog 221 [.ag [Ti vm1.1,Ti vm1.2.1,Ti vm1.2.2.1,Ti vm1.2.2.2]] (I r) []:=CtU (zVI vm1) 2 (fun r=>I r) Tryz.func221 rfl rfl h
def zWt (vm1:τM):=fC zTq (zHs vm1) fun _=>zV8
theorem zM4:CfW Tryz.prog 190:=cfW Tryz.func190
noncomputable def zNI (vm1:τM):T Tryz.prog (τM):=
 .op1 (zWt vm1) fun y2=>
 .n0 (bld zDT zDc)<|
 .frc (w64 (y2*vm1.2.2.2)) fun f3=>.frc (w64 ((w64 (0 - y2))*vm1.2.1)) fun f4=>.frc (w64 ((w64 (0 - y2))*vm1.2.2.1)) fun f5=>.frc (w64 (y2*vm1.1)) fun f6=>.ret ((f3,f4,f5,f6))
theorem zN0 {vm1:τM} {r:τM} (h:zDh vm1=some r):zD Tryz.prog 190 [.ag [Ti vm1.1,Ti vm1.2.1,Ti vm1.2.2.1,Ti vm1.2.2.2]] (.ag [Ti r.1,Ti r.2.1,Ti r.2.2.1,Ti r.2.2.2]) []:=CtT (zNI vm1) (fun r=>(.ag [Ti r.1,Ti r.2.1,Ti r.2.2.1,Ti r.2.2.2],[])) (rs:=[.w 2 4]) (vs:=[.cell 2 120]) Tryz.func190 rfl rfl (.cons ⟨rfl,zFE⟩ FitsL.nil) h
def zOW (vm1:τM):=fC zM4 (zDh vm1) fun _=>zN0
theorem zOA:CfW Tryz.prog 191:=cfW Tryz.func191
noncomputable def zOu (vm1:τM):T Tryz.prog Bool:=
 .pl<|.joinC (.op1 (zCf vm1.1) fun y2=>.seqT (.cond y2 (.op1 (zCf vm1.2.1) fun y4=>.ret y4) (.ret false)) fun b5=>.seqT (.cond b5 (.op1 (zCf vm1.2.2.1) fun y7=>.ret y7) (.ret false)) fun b8=>.seqT (.cond b8 (.op1 (zCf vm1.2.2.2) fun y10=>.ret y10) (.ret false)) fun b11=>.ret (y2,b5,b8,b11)) (mb 21 4) [] (fun s q_1 γ=>s.pc (mb 21 4) [] [(2,Bo q_1.2.2.2)] []) fun q_1=>
 .ret q_1.2.2.2
theorem zPL {vm1:τM} {r:Bool} (h:zDF vm1=some r):zD Tryz.prog 191 [.ag [Ti vm1.1,Ti vm1.2.1,Ti vm1.2.2.1,Ti vm1.2.2.2]] (Bo r) []:=CtU (zOu vm1) 2 (fun r=>Bo r) Tryz.func191 rfl rfl h
def zPv (vm1:τM):=fC zOA (zDF vm1) fun _=>zPL
theorem zGi:CfW Tryz.prog 152:=cfW Tryz.func152
noncomputable def zHA (f1:τF) (g2:τF):T Tryz.prog ((τM×Bool)):=
 .pl<|.dn<|.joinC (.op1 (zCa f1) fun y3=>.seqT (.cond (!y3) (.ret true) (.op1 (zCa g2) fun y5=>.ret (!y5))) fun b6=>.ret (y3,b6)) (mb 44 262172) [32,24,16] (fun s q_2 γ=>s.pc (mb 44 262172) [32,24,16] [(18,Bo q_2.2)] []) fun q_2=>
 .cond q_2.2 (.n0 (bld zDT zDc)<|
 .ret (((0,0,0,0),false)))<|.op1 (zBt f1) fun y8=>
 .op1 (zBt g2) fun y9=>
 .draw 5 []<|.op1 (zOW y9.2) fun y10=>.op1 (zFA y8.2 y10) fun y11=>
 .dn<|.joinC (.n0 (neg3 zZx)<|.seqT (.cond (!((y8.1.1==y9.1.1)&&((y8.1.2.1==y9.1.2.1)&&(y8.1.2.2==y9.1.2.2)))) (.ret true) (.op1 (zPv y11) fun y13=>.ret (!y13))) fun b14=>.ret b14) (mb 44 2199023256592) [80,32] (fun s q_1 γ=>s.pc (mb 44 2199023256592) [80,32] [(41,Bo q_1)] []) fun q_1=>
 .cond q_1 (.n0 (bld zDT zDc)<|
 .ret (((0,0,0,0),false)))<|
 .ret ((y11,true))
theorem zHE {f1:τF} {g2:τF} {r:(τM×Bool)} (h:zAf f1 g2=some r):zD Tryz.prog 152 [.ag [Ti f1.1,Ti f1.2.1,Ti f1.2.2],.ag [Ti g2.1,Ti g2.2.1,Ti g2.2.2]] (.tc (.ag [Ti r.1.1,Ti r.1.2.1,Ti r.1.2.2.1,Ti r.1.2.2.2]) (.tc (Bo r.2) .tn)) []:=CtT (zHA f1 g2) (fun r=>(.tc (.ag [Ti r.1.1,Ti r.1.2.1,Ti r.1.2.2.1,Ti r.1.2.2.2]) (.tc (Bo r.2) .tn),[])) (rs:=[.w 4 4,.t 5]) (vs:=[.cell 4 120,.tmp 5]) Tryz.func152 rfl rfl (.cons ⟨rfl,zFE⟩ (.cons rfl FitsL.nil)) h
def zHL (f1:τF) (g2:τF):=fC zGi (zAf f1 g2) fun _=>zHE
theorem zJJ:CfW Tryz.prog 154:=cfW Tryz.func154
noncomputable def zJm (vm1:τM):T Tryz.prog ByteArray:=
 .draw 21 []<|.op1 (zDC vm1.1) fun y2=>.op0 (cat ((⟨#[91]⟩:ByteArray)) y2) fun u3=>.op0 (cat (((⟨#[91]⟩:ByteArray))++y2) ((⟨#[44]⟩:ByteArray))) fun u4=>.op1 (zDC vm1.2.1) fun y5=>.op0 (cat ((((⟨#[91]⟩:ByteArray))++y2)++((⟨#[44]⟩:ByteArray))) y5) fun u6=>.op0 (cat (((((⟨#[91]⟩:ByteArray))++y2)++((⟨#[44]⟩:ByteArray)))++y5) ((⟨#[59]⟩:ByteArray))) fun u7=>.op1 (zDC vm1.2.2.1) fun y8=>.op0 (cat ((((((⟨#[91]⟩:ByteArray))++y2)++((⟨#[44]⟩:ByteArray)))++y5)++((⟨#[59]⟩:ByteArray))) y8) fun u9=>.op0 (cat (((((((⟨#[91]⟩:ByteArray))++y2)++((⟨#[44]⟩:ByteArray)))++y5)++((⟨#[59]⟩:ByteArray)))++y8) ((⟨#[44]⟩:ByteArray))) fun u10=>.op1 (zDC vm1.2.2.2) fun y11=>.op0 (cat ((((((((⟨#[91]⟩:ByteArray))++y2)++((⟨#[44]⟩:ByteArray)))++y5)++((⟨#[59]⟩:ByteArray)))++y8)++((⟨#[44]⟩:ByteArray))) y11) fun u12=>.op0 (cat (((((((((⟨#[91]⟩:ByteArray))++y2)++((⟨#[44]⟩:ByteArray)))++y5)++((⟨#[59]⟩:ByteArray)))++y8)++((⟨#[44]⟩:ByteArray)))++y11) ((⟨#[93]⟩:ByteArray))) fun u13=>
 .ret ((((((((((⟨#[91]⟩:ByteArray))++y2)++((⟨#[44]⟩:ByteArray)))++y5)++((⟨#[59]⟩:ByteArray)))++y8)++((⟨#[44]⟩:ByteArray)))++y11)++((⟨#[93]⟩:ByteArray)))
theorem zJu {vm1:τM} {r:ByteArray} (h:zA3 vm1=some r):zD Tryz.prog 154 [.ag [Ti vm1.1,Ti vm1.2.1,Ti vm1.2.2.1,Ti vm1.2.2.2]] (.c (.v (.string r))) []:=CtU (zJm vm1) 2 (fun r=>.c (.v (.string r))) Tryz.func154 rfl rfl h
def zDx (vm1:τM):=fC zJJ (zA3 vm1) fun _=>zJu
theorem zRx:CfW Tryz.prog 153:=cfW Tryz.func153
noncomputable def zSu (l1:List ByteArray):T Tryz.prog ByteArray:=
 .n0 (lenM ct9 l1)<|
 .loop (fun n X_1=>zAt l1 n X_1.1 X_1.2) (((⟨#[]⟩:ByteArray),0)) (mb 22 456) [] (fun s X_1 γ=>s.pc (mb 22 456) [] [(3,.c (.v (.string X_1.1))),(8,I X_1.2)] []) (fun X_1=>
 .cond (ltI X_1.2 ((l1.length:Int))) (.op0 (idxM ct9 l1 X_1.2) fun e7=>
 .cond (ltI 0 X_1.2) (.op0 (cat X_1.1 ((⟨#[32]⟩:ByteArray))) fun u9=>
 .op0 (cat (X_1.1++((⟨#[32]⟩:ByteArray))) e7) fun u10=>
 .frc (w64 (X_1.2+1)) fun t11=>.ret (.inl (((X_1.1++((⟨#[32]⟩:ByteArray)))++e7,t11))))<|.op0 (cat X_1.1 e7) fun u12=>
 .frc (w64 (X_1.2+1)) fun t13=>.ret (.inl ((X_1.1++e7,t13))))<|.ret (.inr X_1.1)) (mb 22 8) [] (fun s o5 γ=>s.pc (mb 22 8) [] [(3,.c (.v (.string o5)))] []) fun o5=>
 .ret o5
theorem zTR {l1:List ByteArray} {r:ByteArray} (h:zDK l1=some r):zD Tryz.prog 153 [.c (.sl (l1.map c9))] (.c (.v (.string r))) []:=CtU (zSu l1) 2 (fun r=>.c (.v (.string r))) Tryz.func153 rfl rfl h
def zKV (l1:List ByteArray):=fCs zRx (zDK l1) (fun _=>zTR) fun _=>rfl
theorem zFN:CfW Tryz.prog 107:=cfW Tryz.func107
noncomputable def zFV (f1:τF) (g2:τF):T Tryz.prog ((ByteArray×Bool)):=
 .op1 (zHL f1 g2) fun y3=>
 .cond (!y3.2) (
 .ret (((⟨#[]⟩:ByteArray),false)))<|.draw 10 []<|.op1 (zCg f1) fun y5=>.op1 (zCg g2) fun y6=>.op1 (zDx y3.1) fun y7=>.n1 bsl<|.op1 (zKV ([(⟨#[101,113,117,105,118,97,108,101,110,116]⟩:ByteArray),y5,y6,y7])) fun y8=>
 .ret ((y8,true))
theorem zFY {f1:τF} {g2:τF} {r:(ByteArray×Bool)} (h:jS f1 g2=some r):zD Tryz.prog 107 [.ag [Ti f1.1,Ti f1.2.1,Ti f1.2.2],.ag [Ti g2.1,Ti g2.2.1,Ti g2.2.2]] (.tc (.c (.v (.string r.1))) (.tc (Bo r.2) .tn)) []:=CtT (zFV f1 g2) (fun r=>(.tc (.c (.v (.string r.1))) (.tc (Bo r.2) .tn),[])) (rs:=[.t 4,.t 5]) (vs:=[.tmp 4,.tmp 5]) Tryz.func107 rfl rfl (.cons rfl (.cons rfl FitsL.nil)) h
def zF9 (f1:τF) (g2:τF):=fC zFN (jS f1 g2) fun _=>zFY
theorem zF7:CfW Tryz.prog 108:=cfW Tryz.func108
noncomputable def zFc (f1:τF) (g2:τF):T Tryz.prog ((ByteArray×Bool)):=
 .pl<|.dn<|.joinC (.op1 (zCa f1) fun y3=>.seqT (.cond (!y3) (.ret true) (.op1 (zCa g2) fun y5=>.ret (!y5))) fun b6=>.ret (y3,b6)) (mb 45 131084) [24,16] (fun s q_1 γ=>s.pc (mb 45 131084) [24,16] [(17,Bo q_1.2)] []) fun q_1=>
 .cond q_1.2 (
 .ret (((⟨#[]⟩:ByteArray),false)))<|.op1 (zBt f1) fun y8=>
 .op1 (zBt g2) fun y9=>
 .n0 (eqg3 zU6)<|
 .lt (((y8.1.1==y9.1.1)&&((y8.1.2.1==y9.1.2.1)&&(y8.1.2.2==y9.1.2.2)))) fun t10=>.cond t10 (
 .ret (((⟨#[]⟩:ByteArray),false)))<|.draw 16 []<|.op1 (zCg f1) fun y12=>.op1 (zDx y8.2) fun y13=>.op1 (zCg y8.1) fun y14=>.op1 (zCg g2) fun y15=>.op1 (zDx y9.2) fun y16=>.op1 (zCg y9.1) fun y17=>.n1 bsl<|.op1 (zKV ([(⟨#[100,105,102,102,101,114,101,110,116]⟩:ByteArray),y12,y13,y14,y15,y16,y17])) fun y18=>
 .ret ((y18,true))
theorem zFe {f1:τF} {g2:τF} {r:(ByteArray×Bool)} (h:jZ f1 g2=some r):zD Tryz.prog 108 [.ag [Ti f1.1,Ti f1.2.1,Ti f1.2.2],.ag [Ti g2.1,Ti g2.2.1,Ti g2.2.2]] (.tc (.c (.v (.string r.1))) (.tc (Bo r.2) .tn)) []:=CtT (zFc f1 g2) (fun r=>(.tc (.c (.v (.string r.1))) (.tc (Bo r.2) .tn),[])) (rs:=[.t 4,.t 5]) (vs:=[.tmp 4,.tmp 5]) Tryz.func108 rfl rfl (.cons rfl (.cons rfl FitsL.nil)) h
def zFq (f1:τF) (g2:τF):=fC zF7 (jZ f1 g2) fun _=>zFe
theorem zLH:CfW Tryz.prog 75:=cfW Tryz.func75
noncomputable def zLb (x1:(τS×(List τS))) (word2:ByteArray) (w3:((List ByteArray)×τF×Int)):T Tryz.prog ((ByteArray×(τS×(List τS)))):=
 .n0 au<|
 .n1 (nilN 42 3 (by decide))<|
 .pl<|.join (.joinC (.selB (word2.toList==((⟨#[109,117,108]⟩:ByteArray)).toList) false [] fun w_4=>.ret w_4) (mb 167 2147484579) [64,56,40,80000,90003] (fun s q_5 γ=>s.pc (mb 167 2147484579) [64,56,40,80000,90003] [(31,Bo (bif q_5 then true else (word2.toList==((⟨#[112,111,119]⟩:ByteArray)).toList)))] [(80000,s.pbx 80000 [Ti x1.1.1,.v (.string x1.1.2.1),.sl (x1.1.2.2.map c42),.v (zE (γ 90003))]),(90003,.qarr (γ 90003) 53 3 (x1.2.map c53))]) fun q_5=>
 .lt (bif q_5 then true else (word2.toList==((⟨#[112,111,119]⟩:ByteArray)).toList)) fun t6=>.cond t6 (.op0 (slice ct9 w3.1 1 ((w3.1.length:Int))) fun u8=>
 .ret (subl w3.1 1 ((w3.1.length:Int))))<|.ret w3.1) (mb 167 931) [64,56,40,80000,90003] (fun s j4 γ=>s.pc (mb 167 931) [64,56,40,80000,90003] [(9,.c (.sl (j4.map c9)))] [(80000,s.pbx 80000 [Ti x1.1.1,.v (.string x1.1.2.1),.sl (x1.1.2.2.map c42),.v (zE (γ 90003))]),(90003,.qarr (γ 90003) 53 3 (x1.2.map c53))]) fun j4=>
 .n0 (lenM ct9 j4)<|
 .loopS (fun n X_7=>jA j4 w3 word2 x1 n X_7.1 X_7.2) ((0,([]:List τF))) (mb 167 240518168995) [64,56,40,80000,90003] (fun s X_7 γ=>s.pc (mb 167 240518168995) [64,56,40,80000,90003] [(37,I X_7.1)] [(64,.arr 42 3 (X_7.2.map c42)),(80000,s.pbx 80000 [Ti x1.1.1,.v (.string x1.1.2.1),.sl (x1.1.2.2.map c42),.v (zE (γ 90003))]),(90003,.qarr (γ 90003) 53 3 (x1.2.map c53))]) (fun X_7=>
 .cond (ltI X_7.1 ((j4.length:Int))) (.op0 (idxM ct9 j4 X_7.1) fun e14=>
 .op1 (zDw x1.1 e14) fun y15=>
 .cond (ltI y15 0) (
 .ret (.early (((⟨#[110,111]⟩:ByteArray),x1))))<|.op0 (idxM ct42 x1.1.2.2 y15) fun e17=>.n1 bsl<|.opx (app ct42 X_7.2 ([e17])) fun u18=>
 .frc (w64 (X_7.1+1)) fun t19=>.ret (.again ((t19,X_7.2++([e17])))))<|.ret (.done X_7.2)) (mb 167 419) [64,56,40,80000,90003] (fun s o12 γ=>s.pc (mb 167 419) [64,56,40,80000,90003] [] [(64,.arr 42 3 (o12.map c42)),(80000,s.pbx 80000 [Ti x1.1.1,.v (.string x1.1.2.1),.sl (x1.1.2.2.map c42),.v (zE (γ 90003))]),(90003,.qarr (γ 90003) 53 3 (x1.2.map c53))]) (fun r=>r) fun o12=>
 .cond (word2.toList==((⟨#[109,117,108]⟩:ByteArray)).toList) (.draw 12 []<|.op0 (idxM ct9 w3.1 0) fun e21=>.op0 (zBH ct42 o12 0) fun e22=>.op0 (ldo ct42 o12 0) fun e23=>.op0 (zBH ct42 o12 1) fun e24=>.op0 (ldo ct42 o12 1) fun e25=>.op1 (zGF e23 e25) fun y26=>.opx (zDA x1 e21 y26) fun y27=>
 .ret ((y27.1,y27.2)))<|
 .cond (word2.toList==((⟨#[112,111,119]⟩:ByteArray)).toList) (.draw 11 []<|.op0 (idxM ct9 w3.1 0) fun e29=>.op0 (zBH ct42 o12 0) fun e30=>.op0 (ldo ct42 o12 0) fun e31=>.op1 (zSc e31 w3.2.2) fun y32=>.opx (zDA x1 e29 y32) fun y33=>
 .ret ((y33.1,y33.2)))<|
 .lt (word2.toList==((⟨#[115,104,111,119]⟩:ByteArray)).toList) fun t34=>.cond t34 (.op0 (zBH ct42 o12 0) fun e36=>.op0 (ldo ct42 o12 0) fun e37=>.op1 (zCg e37) fun y38=>
 .ret ((y38,x1)))<|
 .lt (word2.toList==((⟨#[105,110,100,101,120]⟩:ByteArray)).toList) fun t39=>.cond t39 (.draw 9 []<|.op1 (zTz x1.1.1) fun y41=>.op0 (zBH ct42 o12 0) fun e42=>.op0 (ldo ct42 o12 0) fun e43=>.op1 (zS2 y41 e43) fun y44=>.op1 (zEz y44) fun y45=>
 .ret ((y45,x1)))<|
 .lt (word2.toList==((⟨#[111,114,100,101,114]⟩:ByteArray)).toList) fun t46=>.cond t46 (.op0 (zBH ct42 o12 0) fun e48=>.op0 (ldo ct42 o12 0) fun e49=>.op1 (zSe e49) fun y50=>.op1 (zEz y50) fun y51=>
 .ret ((y51,x1)))<|
 .lt (word2.toList==((⟨#[103,101,110,117,115]⟩:ByteArray)).toList) fun t52=>.cond t52 (
 .op0 (zBH ct42 o12 0) fun e54=>.op0 (ldo ct42 o12 0) fun e55=>.op1 (zYV e55) fun y56=>.n0 (lenM ct3 y56)<|
 .loop (fun n X_6=>zAC x1 y56 n X_6.1 X_6.2) (((⟨#[]⟩:ByteArray),0)) (mb 167 72692156019487586799426948609089536) [904,80000,90003] (fun s X_6 γ=>s.pc (mb 167 72692156019487586799426948609089536) [904,80000,90003] [(13,.c (.v (.string X_6.1))),(115,I X_6.2)] [(80000,s.pbx 80000 [Ti x1.1.1,.v (.string x1.1.2.1),.sl (x1.1.2.2.map c42),.v (zE (γ 90003))]),(90003,.qarr (γ 90003) 53 3 (x1.2.map c53))]) (fun X_6=>
 .cond (ltI X_6.2 ((y56.length:Int))) (.op0 (zBH ct3 y56 X_6.2) fun e62=>.op0 (ldo ct3 y56 X_6.2) fun e63=>
 .cond (ltI 0 e63) (.op0 (cat X_6.1 ((⟨#[43]⟩:ByteArray))) fun u65=>
 .frc (w64 (X_6.2+1)) fun t66=>.ret (.inl ((X_6.1++((⟨#[43]⟩:ByteArray)),t66))))<|.op0 (cat X_6.1 ((⟨#[45]⟩:ByteArray))) fun u67=>
 .frc (w64 (X_6.2+1)) fun t68=>.ret (.inl ((X_6.1++((⟨#[45]⟩:ByteArray)),t68))))<|.ret (.inr X_6.1)) (mb 167 8192) [80000,90003] (fun s o60 γ=>s.pc (mb 167 8192) [80000,90003] [(13,.c (.v (.string o60)))] [(80000,s.pbx 80000 [Ti x1.1.1,.v (.string x1.1.2.1),.sl (x1.1.2.2.map c42),.v (zE (γ 90003))]),(90003,.qarr (γ 90003) 53 3 (x1.2.map c53))]) fun o60=>
 .ret ((o60,x1)))<|
 .lt (word2.toList==((⟨#[118,97,108,117,101]⟩:ByteArray)).toList) fun t69=>.cond t69 (.draw 11 []<|.op0 (zBH ct42 o12 0) fun e71=>.op0 (ldo ct42 o12 0) fun e72=>.op1 (zGG e72 w3.2.2) fun y73=>
 .cond (!y73.2) (
 .ret (((⟨#[110,111]⟩:ByteArray),x1)))<|.op1 (zEz y73.1) fun y75=>
 .ret ((y75,x1)))<|.draw 12 []<|.op0 (zBH ct42 o12 0) fun e76=>.op0 (ldo ct42 o12 0) fun e77=>.op0 (zBH ct42 o12 1) fun e78=>.op0 (ldo ct42 o12 1) fun e79=>.op1 (zF9 e77 e79) fun y80=>
 .cond (!y80.2) (.draw 12 []<|.op0 (zBH ct42 o12 0) fun e82=>.op0 (ldo ct42 o12 0) fun e83=>.op0 (zBH ct42 o12 1) fun e84=>.op0 (ldo ct42 o12 1) fun e85=>.op1 (zFq e83 e85) fun y86=>
 .cond (!y86.2) (
 .ret (((⟨#[110,111]⟩:ByteArray),x1)))<|
 .ret ((y86.1,x1)))<|
 .cond (!y80.2) (
 .ret (((⟨#[110,111]⟩:ByteArray),x1)))<|
 .ret ((y80.1,x1))
theorem zLw {x1:(τS×(List τS))} {word2:ByteArray} {w3:((List ByteArray)×τF×Int)} {r:(ByteArray×(τS×(List τS)))} (h:qA x1 word2 w3=some r):zJT Tryz.prog 75 [.pt 80000 0,.c (.v (.string word2)),.ag [.sl (w3.1.map c9),Ti w3.2.1.1,Ti w3.2.1.2.1,Ti w3.2.1.2.2,Ti w3.2.2]] 90003 53 3 (fun l=>[(80000,.box [Ti x1.1.1,.v (.string x1.1.2.1),.sl (x1.1.2.2.map c42),.v (zE (l))])]) (x1.2.map c53) (.v (.string r.1)) (fun l=>[(80000,.box [Ti r.2.1.1,.v (.string r.2.1.2.1),.sl (r.2.1.2.2.map c42),.v (zE (l))])]) (r.2.2.map c53):=CqT (zLb x1 word2 w3) 90003 53 3 (fun r=>.v (.string r.1)) (fun r l=>[(80000,.box [Ti r.2.1.1,.v (.string r.2.1.2.1),.sl (r.2.1.2.2.map c42),.v (zE (l))])]) (fun r=>r.2.2.map c53) (rs:=.t 6) (vs:=.tmp 6) Tryz.func75 rfl rfl (.cons rfl FitsL.nil) h
def zMl (x1:(τS×(List τS))) (word2:ByteArray) (w3:((List ByteArray)×τF×Int)):=fQ zLH (qA x1 word2 w3) 80000 4 90003 53 3 (fun _ _ h=>zLw h)
theorem zKD:CfW Tryz.prog 48:=cfW Tryz.func48
noncomputable def zK5 (x1:(τS×(List τS))) (t2:ByteArray):T Tryz.prog ((ByteArray×(τS×(List τS)))):=
 .op1 (zTx t2) fun y3=>
 .cond (!y3.2.2) (
 .ret (((⟨#[119,104,97,116]⟩:ByteArray),x1)))<|.n0 au<|
 .cond (y3.1.toList==((⟨#[100,105,115,99]⟩:ByteArray)).toList) (.op1 (zKY y3.2.1.2.2) fun y6=>
 .cond (!y6) (
 .ret (((⟨#[110,111]⟩:ByteArray),x1)))<|.n0 (bld pl53 bt53)<|.late (z5v 33)<|.opx (zDV x1 ((y3.2.1.2.2,ByteArray.empty,([]:List τF)))) fun y8=>
 .ret ((y8.1,y8.2)))<|
 .cond (y3.1.toList==((⟨#[115,101,116]⟩:ByteArray)).toList) (.dn<|.joinC (.draw 12 []<|.op1 (zUG y3.2.1.2.1) fun y10=>.seqT (.cond (!y10) (.ret true) (.op1 (zAl y3.2.1.2.1) fun y12=>.ret (!eqI y12 x1.1.1))) fun b13=>.ret (y10,b13)) (mb 100 281474976710721) [48,80000,90003] (fun s q_1 γ=>s.pc (mb 100 281474976710721) [48,80000,90003] [(48,Bo q_1.2)] [(80000,s.pbx 80000 [Ti x1.1.1,.v (.string x1.1.2.1),.sl (x1.1.2.2.map c42),.v (zE (γ 90003))]),(90003,.qarr (γ 90003) 53 3 (x1.2.map c53))]) fun q_1=>
 .cond q_1.2 (
 .ret (((⟨#[110,111]⟩:ByteArray),x1)))<|.draw 8 []<|.op0 (idxM ct9 y3.2.1.1 0) fun e15=>.op1 (zCT y3.2.1.2.1) fun y16=>.opx (zDA x1 e15 y16) fun y17=>
 .ret ((y17.1,y17.2)))<|
 .lt (y3.1.toList==((⟨#[112,114,105,109,101]⟩:ByteArray)).toList) fun t18=>.cond t18 (.op1 (zMs x1.1.1 y3.2.1.2.2) fun y20=>
 .cond (!y20.2) (
 .ret (((⟨#[110,111]⟩:ByteArray),x1)))<|.draw 6 []<|.op0 (idxM ct9 y3.2.1.1 0) fun e22=>.opx (zDA x1 e22 y20.1) fun y23=>
 .ret ((y23.1,y23.2)))<|
 .lt (y3.1.toList==((⟨#[102,114,101,101]⟩:ByteArray)).toList) fun t24=>.cond t24 (.op0 (idxM ct9 y3.2.1.1 0) fun e26=>.opx (zL0 x1 e26) fun y27=>
 .ret ((y27.1,y27.2)))<|
 .lt (y3.1.toList==((⟨#[110,97,109,101,115]⟩:ByteArray)).toList) fun t28=>.cond t28 (
 .cond (x1.1.2.1.toList==((⟨#[]⟩:ByteArray)).toList) (
 .ret (((⟨#[110,111,110,101]⟩:ByteArray),x1)))<|
 .ret ((x1.1.2.1,x1)))<|
 .lt (y3.1.toList==((⟨#[117,110,100,111]⟩:ByteArray)).toList) fun t31=>.cond t31 (.opx (zLY x1) fun y33=>
 .ret ((y33.1,y33.2)))<|.opx (zMl x1 y3.1 y3.2.1) fun y34=>
 .ret ((y34.1,y34.2))
theorem zKm {x1:(τS×(List τS))} {t2:ByteArray} {r:(ByteArray×(τS×(List τS)))} (h:zK x1 t2=some r):zJT Tryz.prog 48 [.pt 80000 0,.c (.v (.string t2))] 90003 53 3 (fun l=>[(80000,.box [Ti x1.1.1,.v (.string x1.1.2.1),.sl (x1.1.2.2.map c42),.v (zE (l))])]) (x1.2.map c53) (.v (.string r.1)) (fun l=>[(80000,.box [Ti r.2.1.1,.v (.string r.2.1.2.1),.sl (r.2.1.2.2.map c42),.v (zE (l))])]) (r.2.2.map c53):=CqT (zK5 x1 t2) 90003 53 3 (fun r=>.v (.string r.1)) (fun r l=>[(80000,.box [Ti r.2.1.1,.v (.string r.2.1.2.1),.sl (r.2.1.2.2.map c42),.v (zE (l))])]) (fun r=>r.2.2.map c53) (rs:=.t 4) (vs:=.tmp 4) Tryz.func48 rfl rfl (.cons rfl FitsL.nil) h
def zLZ (x1:(τS×(List τS))) (t2:ByteArray):=fQ zKD (zK x1 t2) 80000 4 90003 53 3 (fun _ _ h=>zKm h)
theorem zTg:CfW Tryz.prog 32:=cfW Tryz.func32
noncomputable def zUz (script1:ByteArray):T Tryz.prog (((τS×(List τS))×(List ByteArray)×Bool)):=
 .n1 (nilN 9 1 (by decide))<|
 .op1 (zS8 script1 2000 60) fun y2=>
 .op1 (zWq) fun y3=>
 .cond (!y2.2) (.n1 (nilN 9 1 (by decide))<|
 .late (zVs 128 2)<|.late (zVs 128 3)<|.late (z2o 128)<|.ret ((((y3.1.1,y3.1.2.1,([]:List τF)),([]:List τS)),([]:List ByteArray),false)))<|.n1 (nilN 9 1 (by decide))<|
 .n0 (lenM ct9 y2.1)<|
 .hint (zVs 128 2)<|.hint (nilH 90003 53 3)<|.loop (fun n X_1=>zCD y2 n X_1.1 X_1.2.1 X_1.2.2.1 X_1.2.2.2.1 X_1.2.2.2.2.1 X_1.2.2.2.2.2) ((0,([]:List τS),([]:List ByteArray),y3.1.1,y3.1.2.1,([]:List τF))) (mb 35 7340416) [90003,64,128] (fun s X_1 γ=>s.pc (mb 35 7340416) [90003,64,128] [(22,I X_1.1)] [(90003,.qarr (γ 90003) 53 3 (X_1.2.1.map c53)),(64,.arr 9 1 (X_1.2.2.1.map c9)),(128,.box [Ti X_1.2.2.2.1,.v (.string X_1.2.2.2.2.1),.sl (X_1.2.2.2.2.2.map c42),.v (zE (γ 90003))])]) (fun X_1=>
 .cond (ltI X_1.1 ((y2.1.length:Int))) (.op0 (idxM ct9 y2.1 X_1.1) fun e14=>
 .opx (zLZ (((X_1.2.2.2.1,X_1.2.2.2.2.1,X_1.2.2.2.2.2),X_1.2.1)) e14) fun y15=>.n1 bsl<|.opx (app ct9 X_1.2.2.1 ([y15.1])) fun u16=>
 .frc (w64 (X_1.1+1)) fun t17=>.ret (.inl ((t17,y15.2.2,X_1.2.2.1++([y15.1]),y15.2.1.1,y15.2.1.2.1,y15.2.1.2.2))))<|.ret (.inr ((X_1.2.1,X_1.2.2.1,X_1.2.2.2.1,X_1.2.2.2.2.1,X_1.2.2.2.2.2)))) (mb 35 384) [90003,64,128] (fun s o12 γ=>s.pc (mb 35 384) [90003,64,128] [] [(90003,.qarr (γ 90003) 53 3 (o12.1.map c53)),(64,.arr 9 1 (o12.2.1.map c9)),(128,.box [Ti o12.2.2.1,.v (.string o12.2.2.2.1),.sl (o12.2.2.2.2.map c42),.v (zE (γ 90003))])]) fun o12=>
 .late (z0H 90003 128 3)<|.late (z2o 128)<|.ret (((o12.2.2,o12.1),o12.2.1,true))
theorem zVX {script1:ByteArray} {r:((τS×(List τS))×(List ByteArray)×Bool)} (h:zCr script1=some r):zD Tryz.prog 32 [.c (.v (.string script1))] (.tc (.pe [Ti r.1.1.1,.v (.string r.1.1.2.1),.sl (r.1.1.2.2.map c42),.sl (r.1.2.map c53)]) (.tc (.ow 1) (.tc (Bo r.2.2) .tn))) [(1,.arr 9 1 (r.2.1.map c9))]:=CtT (zUz script1) (fun r=>(.tc (.pe [Ti r.1.1.1,.v (.string r.1.1.2.1),.sl (r.1.1.2.2.map c42),.sl (r.1.2.map c53)]) (.tc (.ow 1) (.tc (Bo r.2.2) .tn)),[(1,.arr 9 1 (r.2.1.map c9))])) (rs:=[.t 2,.t 3,.t 4]) (vs:=[.tmp 2,.tmp 3,.tmp 4]) Tryz.func32 rfl rfl (.cons rfl (.cons rfl (.cons rfl FitsL.nil))) h
def zWp (script1:ByteArray):=fC zTg (zCr script1) fun _=>zVX
theorem zE8:CfW Tryz.prog 111:=cfW Tryz.func111
noncomputable def zEa (vs1:ByteArray) (suffix2:ByteArray):T Tryz.prog Bool:=
 .pl<|.joinC (.seqT (.cond (leI ((suffix2.size:Int)) ((vs1.size:Int))) (.op0 (zHi vs1 (w64 (((vs1.size:Int)) - ((suffix2.size:Int)))) ((vs1.size:Int))) fun u4=>.ret ((vs1.extract (Int.toNat (w64 (((vs1.size:Int)) - ((suffix2.size:Int))))) (Int.toNat ((vs1.size:Int)))).toList==suffix2.toList)) (.ret false)) fun b5=>.ret b5) (mb 21 16) [] (fun s q_1 γ=>s.pc (mb 21 16) [] [(4,Bo q_1)] []) fun q_1=>
 .ret q_1
theorem zEc {vs1:ByteArray} {suffix2:ByteArray} {r:Bool} (h:qQ vs1 suffix2=some r):zD Tryz.prog 111 [.c (.v (.string vs1)),.c (.v (.string suffix2))] (Bo r) []:=CtU (zEa vs1 suffix2) 4 (fun r=>Bo r) Tryz.func111 rfl rfl h
def zCb (vs1:ByteArray) (suffix2:ByteArray):=fC zE8 (qQ vs1 suffix2) fun _=>zEc
theorem zET:CfW Tryz.prog 110:=cfW Tryz.func110
noncomputable def zE5 (vs1:ByteArray) (suffix2:ByteArray):T Tryz.prog ByteArray:=
 .op1 (zCb vs1 suffix2) fun y3=>
 .cond y3 (.op0 (zHi vs1 0 (w64 (((vs1.size:Int)) - ((suffix2.size:Int))))) fun u5=>
 .ret (vs1.extract (Int.toNat 0) (Int.toNat (w64 (((vs1.size:Int)) - ((suffix2.size:Int)))))))<|
 .ret vs1
theorem zE7 {vs1:ByteArray} {suffix2:ByteArray} {r:ByteArray} (h:zAA vs1 suffix2=some r):zD Tryz.prog 110 [.c (.v (.string vs1)),.c (.v (.string suffix2))] (.c (.v (.string r))) []:=CtU (zE5 vs1 suffix2) 4 (fun r=>.c (.v (.string r))) Tryz.func110 rfl rfl h
def zE9 (vs1:ByteArray) (suffix2:ByteArray):=fC zET (zAA vs1 suffix2) fun _=>zE7
theorem zIW:CfW Tryz.prog 77:=cfW Tryz.func77
noncomputable def zI4 (vs1:ByteArray) (suffix2:ByteArray):T Tryz.prog ByteArray:=
 .op1 (zE9 vs1 suffix2) fun y3=>
 .ret y3
theorem zIh {vs1:ByteArray} {suffix2:ByteArray} {r:ByteArray} (h:zC2 vs1 suffix2=some r):zD Tryz.prog 77 [.c (.v (.string vs1)),.c (.v (.string suffix2))] (.c (.v (.string r))) []:=CtU (zI4 vs1 suffix2) 4 (fun r=>.c (.v (.string r))) Tryz.func77 rfl rfl h
def zJU (vs1:ByteArray) (suffix2:ByteArray):=fC zIW (zC2 vs1 suffix2) fun _=>zIh
theorem zJH:CfW Tryz.prog 78:=cfW Tryz.func78
noncomputable def zJk (vs1:ByteArray) (suffix2:ByteArray):T Tryz.prog Bool:=
 .op1 (zCb vs1 suffix2) fun y3=>
 .ret y3
theorem zJs {vs1:ByteArray} {suffix2:ByteArray} {r:Bool} (h:zCh vs1 suffix2=some r):zD Tryz.prog 78 [.c (.v (.string vs1)),.c (.v (.string suffix2))] (Bo r) []:=CtU (zJk vs1 suffix2) 4 (fun r=>Bo r) Tryz.func78 rfl rfl h
def zKN (vs1:ByteArray) (suffix2:ByteArray):=fC zJH (zCh vs1 suffix2) fun _=>zJs
theorem zPf:CfW Tryz.prog 49:=cfW Tryz.func49
noncomputable def zQf (vs1:ByteArray):T Tryz.prog (((List ByteArray)×Bool)):=
 .n1 (nilN 9 1 (by decide))<|
 .cond (vs1.toList==((⟨#[]⟩:ByteArray)).toList) (.n1 bsl0<|
 .ret ((([]:List ByteArray),true)))<|.op1 (zJU vs1 ((⟨#[10]⟩:ByteArray))) fun y3=>.op1 (zPo y3 ((⟨#[10]⟩:ByteArray))) fun y4=>.op1 (zKN vs1 ((⟨#[10]⟩:ByteArray))) fun y5=>
 .ret ((y4,y5))
theorem zRL {vs1:ByteArray} {r:((List ByteArray)×Bool)} (h:zD6 vs1=some r):zD Tryz.prog 49 [.c (.v (.string vs1))] (.tc (.ow 0) (.tc (Bo r.2) .tn)) [(0,.arr 9 1 (r.1.map c9))]:=CtT (zQf vs1) (fun r=>(.tc (.ow 0) (.tc (Bo r.2) .tn),[(0,.arr 9 1 (r.1.map c9))])) (rs:=[.t 2,.t 3]) (vs:=[.tmp 2,.tmp 3]) Tryz.func49 rfl rfl (.cons rfl (.cons rfl FitsL.nil)) h
def zSi (vs1:ByteArray):=fC zPf (zD6 vs1) fun _=>zRL
theorem zMc:∀args w,(callFunc 112 args).run Tryz.prog w=.ok (.enter 112 args) w:=jD Tryz.func112 kk kk
set_option maxRecDepth 100000 in
set_option maxHeartbeats 400000 in
theorem zN8 {word1:ByteArray} {r:(ByteArray×Bool)} (h:zCG word1=some r):zD Tryz.prog 112 [.c (.v (.string word1))] (.tc (.c (.v (.string r.1))) (.tc (Bo r.2) .tn)) []:=by
  refine zAj (rs:=[.t 2,.t 3]) (vs:=[.tmp 2,.tmp 3]) Tryz.func112 rfl rfl (.cons rfl (.cons rfl FitsL.nil)) (by decide) 17 rfl ?_
  unfold zCG at h;show V _ _ ⟨.c (.v (.string word1))::bt 16 [],[]⟩ _;refine qZ (mb 17 1) [] (s1:=⟨.c (.v (.string word1))::bt 16 [],[]⟩) ?_ ?_
  ·refine L0 rfl rfl (zF (.c (.v (.string ((⟨#[]⟩:ByteArray))))) rfl kk) ?_
   refine L0 rfl rfl (zF (Bo false) rfl kk) ?_
   refine zI ?_
   kernel_rfl
  obtain⟨l2,hl2,h⟩:=zV h;have hl2:=zU hl2;refine z06 (fun mb7=>⟨.c (.v (.string word1))::bt 3 (.c (.v (.map (some mb7)))::bt 12 []),[(56,.mp mb7 (l2.map kv156))]⟩) (mb 17 17) [56] ?_ ?_
  ·refine zYP rfl rfl rfl fun mb7=>?_
   refine zQ rfl (zEU (κ:=ByteArray) (ν:=ByteArray) (ek:=zEE) (ev:=zF6) (z:=ByteArray.empty) (m:=([]:List (ByteArray×ByteArray))) (a:=(⟨#[100,105,115,99]⟩:ByteArray)) (u:=(⟨#[110]⟩:ByteArray)) (id:=56) (b:=mb7) zG0 (.inr rfl) rfl kk kk kk kk) ?_
   refine zQ rfl (zEU (κ:=ByteArray) (ν:=ByteArray) (ek:=zEE) (ev:=zF6) (z:=ByteArray.empty) (m:=mPut ((⟨#[100,105,115,99]⟩:ByteArray)) ((⟨#[110]⟩:ByteArray)) (([]:List (ByteArray×ByteArray)))) (a:=(⟨#[115,101,116]⟩:ByteArray)) (u:=(⟨#[65,102]⟩:ByteArray)) (id:=56) (b:=mb7) zG0 (.inr rfl) rfl kk kk kk kk) ?_
   refine zQ rfl (zEU (κ:=ByteArray) (ν:=ByteArray) (ek:=zEE) (ev:=zF6) (z:=ByteArray.empty) (m:=mPut ((⟨#[115,101,116]⟩:ByteArray)) ((⟨#[65,102]⟩:ByteArray)) (mPut ((⟨#[100,105,115,99]⟩:ByteArray)) ((⟨#[110]⟩:ByteArray)) (([]:List (ByteArray×ByteArray))))) (a:=(⟨#[112,114,105,109,101]⟩:ByteArray)) (u:=(⟨#[65,110]⟩:ByteArray)) (id:=56) (b:=mb7) zG0 (.inr rfl) rfl kk kk kk kk) ?_
   refine zQ rfl (zEU (κ:=ByteArray) (ν:=ByteArray) (ek:=zEE) (ev:=zF6) (z:=ByteArray.empty) (m:=mPut ((⟨#[112,114,105,109,101]⟩:ByteArray)) ((⟨#[65,110]⟩:ByteArray)) (mPut ((⟨#[115,101,116]⟩:ByteArray)) ((⟨#[65,102]⟩:ByteArray)) (mPut ((⟨#[100,105,115,99]⟩:ByteArray)) ((⟨#[110]⟩:ByteArray)) (([]:List (ByteArray×ByteArray)))))) (a:=(⟨#[109,117,108]⟩:ByteArray)) (u:=(⟨#[65,65,65]⟩:ByteArray)) (id:=56) (b:=mb7) zG0 (.inr rfl) rfl kk kk kk kk) ?_
   refine zQ rfl (zEU (κ:=ByteArray) (ν:=ByteArray) (ek:=zEE) (ev:=zF6) (z:=ByteArray.empty) (m:=mPut ((⟨#[109,117,108]⟩:ByteArray)) ((⟨#[65,65,65]⟩:ByteArray)) (mPut ((⟨#[112,114,105,109,101]⟩:ByteArray)) ((⟨#[65,110]⟩:ByteArray)) (mPut ((⟨#[115,101,116]⟩:ByteArray)) ((⟨#[65,102]⟩:ByteArray)) (mPut ((⟨#[100,105,115,99]⟩:ByteArray)) ((⟨#[110]⟩:ByteArray)) (([]:List (ByteArray×ByteArray))))))) (a:=(⟨#[112,111,119]⟩:ByteArray)) (u:=(⟨#[65,65,110]⟩:ByteArray)) (id:=56) (b:=mb7) zG0 (.inr rfl) rfl kk kk kk kk) ?_
   refine zQ rfl (zEU (κ:=ByteArray) (ν:=ByteArray) (ek:=zEE) (ev:=zF6) (z:=ByteArray.empty) (m:=mPut ((⟨#[112,111,119]⟩:ByteArray)) ((⟨#[65,65,110]⟩:ByteArray)) (mPut ((⟨#[109,117,108]⟩:ByteArray)) ((⟨#[65,65,65]⟩:ByteArray)) (mPut ((⟨#[112,114,105,109,101]⟩:ByteArray)) ((⟨#[65,110]⟩:ByteArray)) (mPut ((⟨#[115,101,116]⟩:ByteArray)) ((⟨#[65,102]⟩:ByteArray)) (mPut ((⟨#[100,105,115,99]⟩:ByteArray)) ((⟨#[110]⟩:ByteArray)) (([]:List (ByteArray×ByteArray)))))))) (a:=(⟨#[102,114,101,101]⟩:ByteArray)) (u:=(⟨#[65]⟩:ByteArray)) (id:=56) (b:=mb7) zG0 (.inr rfl) rfl kk kk kk kk) ?_
   refine zQ rfl (zEU (κ:=ByteArray) (ν:=ByteArray) (ek:=zEE) (ev:=zF6) (z:=ByteArray.empty) (m:=mPut ((⟨#[102,114,101,101]⟩:ByteArray)) ((⟨#[65]⟩:ByteArray)) (mPut ((⟨#[112,111,119]⟩:ByteArray)) ((⟨#[65,65,110]⟩:ByteArray)) (mPut ((⟨#[109,117,108]⟩:ByteArray)) ((⟨#[65,65,65]⟩:ByteArray)) (mPut ((⟨#[112,114,105,109,101]⟩:ByteArray)) ((⟨#[65,110]⟩:ByteArray)) (mPut ((⟨#[115,101,116]⟩:ByteArray)) ((⟨#[65,102]⟩:ByteArray)) (mPut ((⟨#[100,105,115,99]⟩:ByteArray)) ((⟨#[110]⟩:ByteArray)) (([]:List (ByteArray×ByteArray))))))))) (a:=(⟨#[115,104,111,119]⟩:ByteArray)) (u:=(⟨#[65]⟩:ByteArray)) (id:=56) (b:=mb7) zG0 (.inr rfl) rfl kk kk kk kk) ?_
   refine zQ rfl (zEU (κ:=ByteArray) (ν:=ByteArray) (ek:=zEE) (ev:=zF6) (z:=ByteArray.empty) (m:=mPut ((⟨#[115,104,111,119]⟩:ByteArray)) ((⟨#[65]⟩:ByteArray)) (mPut ((⟨#[102,114,101,101]⟩:ByteArray)) ((⟨#[65]⟩:ByteArray)) (mPut ((⟨#[112,111,119]⟩:ByteArray)) ((⟨#[65,65,110]⟩:ByteArray)) (mPut ((⟨#[109,117,108]⟩:ByteArray)) ((⟨#[65,65,65]⟩:ByteArray)) (mPut ((⟨#[112,114,105,109,101]⟩:ByteArray)) ((⟨#[65,110]⟩:ByteArray)) (mPut ((⟨#[115,101,116]⟩:ByteArray)) ((⟨#[65,102]⟩:ByteArray)) (mPut ((⟨#[100,105,115,99]⟩:ByteArray)) ((⟨#[110]⟩:ByteArray)) (([]:List (ByteArray×ByteArray)))))))))) (a:=(⟨#[105,110,100,101,120]⟩:ByteArray)) (u:=(⟨#[65]⟩:ByteArray)) (id:=56) (b:=mb7) zG0 (.inr rfl) rfl kk kk kk kk) ?_
   refine zQ rfl (zEU (κ:=ByteArray) (ν:=ByteArray) (ek:=zEE) (ev:=zF6) (z:=ByteArray.empty) (m:=mPut ((⟨#[105,110,100,101,120]⟩:ByteArray)) ((⟨#[65]⟩:ByteArray)) (mPut ((⟨#[115,104,111,119]⟩:ByteArray)) ((⟨#[65]⟩:ByteArray)) (mPut ((⟨#[102,114,101,101]⟩:ByteArray)) ((⟨#[65]⟩:ByteArray)) (mPut ((⟨#[112,111,119]⟩:ByteArray)) ((⟨#[65,65,110]⟩:ByteArray)) (mPut ((⟨#[109,117,108]⟩:ByteArray)) ((⟨#[65,65,65]⟩:ByteArray)) (mPut ((⟨#[112,114,105,109,101]⟩:ByteArray)) ((⟨#[65,110]⟩:ByteArray)) (mPut ((⟨#[115,101,116]⟩:ByteArray)) ((⟨#[65,102]⟩:ByteArray)) (mPut ((⟨#[100,105,115,99]⟩:ByteArray)) ((⟨#[110]⟩:ByteArray)) (([]:List (ByteArray×ByteArray))))))))))) (a:=(⟨#[111,114,100,101,114]⟩:ByteArray)) (u:=(⟨#[65]⟩:ByteArray)) (id:=56) (b:=mb7) zG0 (.inr rfl) rfl kk kk kk kk) ?_
   refine zQ rfl (zEU (κ:=ByteArray) (ν:=ByteArray) (ek:=zEE) (ev:=zF6) (z:=ByteArray.empty) (m:=mPut ((⟨#[111,114,100,101,114]⟩:ByteArray)) ((⟨#[65]⟩:ByteArray)) (mPut ((⟨#[105,110,100,101,120]⟩:ByteArray)) ((⟨#[65]⟩:ByteArray)) (mPut ((⟨#[115,104,111,119]⟩:ByteArray)) ((⟨#[65]⟩:ByteArray)) (mPut ((⟨#[102,114,101,101]⟩:ByteArray)) ((⟨#[65]⟩:ByteArray)) (mPut ((⟨#[112,111,119]⟩:ByteArray)) ((⟨#[65,65,110]⟩:ByteArray)) (mPut ((⟨#[109,117,108]⟩:ByteArray)) ((⟨#[65,65,65]⟩:ByteArray)) (mPut ((⟨#[112,114,105,109,101]⟩:ByteArray)) ((⟨#[65,110]⟩:ByteArray)) (mPut ((⟨#[115,101,116]⟩:ByteArray)) ((⟨#[65,102]⟩:ByteArray)) (mPut ((⟨#[100,105,115,99]⟩:ByteArray)) ((⟨#[110]⟩:ByteArray)) (([]:List (ByteArray×ByteArray)))))))))))) (a:=(⟨#[103,101,110,117,115]⟩:ByteArray)) (u:=(⟨#[65]⟩:ByteArray)) (id:=56) (b:=mb7) zG0 (.inr rfl) rfl kk kk kk kk) ?_
   refine zQ rfl (zEU (κ:=ByteArray) (ν:=ByteArray) (ek:=zEE) (ev:=zF6) (z:=ByteArray.empty) (m:=mPut ((⟨#[103,101,110,117,115]⟩:ByteArray)) ((⟨#[65]⟩:ByteArray)) (mPut ((⟨#[111,114,100,101,114]⟩:ByteArray)) ((⟨#[65]⟩:ByteArray)) (mPut ((⟨#[105,110,100,101,120]⟩:ByteArray)) ((⟨#[65]⟩:ByteArray)) (mPut ((⟨#[115,104,111,119]⟩:ByteArray)) ((⟨#[65]⟩:ByteArray)) (mPut ((⟨#[102,114,101,101]⟩:ByteArray)) ((⟨#[65]⟩:ByteArray)) (mPut ((⟨#[112,111,119]⟩:ByteArray)) ((⟨#[65,65,110]⟩:ByteArray)) (mPut ((⟨#[109,117,108]⟩:ByteArray)) ((⟨#[65,65,65]⟩:ByteArray)) (mPut ((⟨#[112,114,105,109,101]⟩:ByteArray)) ((⟨#[65,110]⟩:ByteArray)) (mPut ((⟨#[115,101,116]⟩:ByteArray)) ((⟨#[65,102]⟩:ByteArray)) (mPut ((⟨#[100,105,115,99]⟩:ByteArray)) ((⟨#[110]⟩:ByteArray)) (([]:List (ByteArray×ByteArray))))))))))))) (a:=(⟨#[118,97,108,117,101]⟩:ByteArray)) (u:=(⟨#[65,110]⟩:ByteArray)) (id:=56) (b:=mb7) zG0 (.inr rfl) rfl kk kk kk kk) ?_
   refine zQ rfl (zEU (κ:=ByteArray) (ν:=ByteArray) (ek:=zEE) (ev:=zF6) (z:=ByteArray.empty) (m:=mPut ((⟨#[118,97,108,117,101]⟩:ByteArray)) ((⟨#[65,110]⟩:ByteArray)) (mPut ((⟨#[103,101,110,117,115]⟩:ByteArray)) ((⟨#[65]⟩:ByteArray)) (mPut ((⟨#[111,114,100,101,114]⟩:ByteArray)) ((⟨#[65]⟩:ByteArray)) (mPut ((⟨#[105,110,100,101,120]⟩:ByteArray)) ((⟨#[65]⟩:ByteArray)) (mPut ((⟨#[115,104,111,119]⟩:ByteArray)) ((⟨#[65]⟩:ByteArray)) (mPut ((⟨#[102,114,101,101]⟩:ByteArray)) ((⟨#[65]⟩:ByteArray)) (mPut ((⟨#[112,111,119]⟩:ByteArray)) ((⟨#[65,65,110]⟩:ByteArray)) (mPut ((⟨#[109,117,108]⟩:ByteArray)) ((⟨#[65,65,65]⟩:ByteArray)) (mPut ((⟨#[112,114,105,109,101]⟩:ByteArray)) ((⟨#[65,110]⟩:ByteArray)) (mPut ((⟨#[115,101,116]⟩:ByteArray)) ((⟨#[65,102]⟩:ByteArray)) (mPut ((⟨#[100,105,115,99]⟩:ByteArray)) ((⟨#[110]⟩:ByteArray)) (([]:List (ByteArray×ByteArray)))))))))))))) (a:=(⟨#[115,97,109,101]⟩:ByteArray)) (u:=(⟨#[65,65]⟩:ByteArray)) (id:=56) (b:=mb7) zG0 (.inr rfl) rfl kk kk kk kk) ?_
   refine zQ rfl (zEU (κ:=ByteArray) (ν:=ByteArray) (ek:=zEE) (ev:=zF6) (z:=ByteArray.empty) (m:=mPut ((⟨#[115,97,109,101]⟩:ByteArray)) ((⟨#[65,65]⟩:ByteArray)) (mPut ((⟨#[118,97,108,117,101]⟩:ByteArray)) ((⟨#[65,110]⟩:ByteArray)) (mPut ((⟨#[103,101,110,117,115]⟩:ByteArray)) ((⟨#[65]⟩:ByteArray)) (mPut ((⟨#[111,114,100,101,114]⟩:ByteArray)) ((⟨#[65]⟩:ByteArray)) (mPut ((⟨#[105,110,100,101,120]⟩:ByteArray)) ((⟨#[65]⟩:ByteArray)) (mPut ((⟨#[115,104,111,119]⟩:ByteArray)) ((⟨#[65]⟩:ByteArray)) (mPut ((⟨#[102,114,101,101]⟩:ByteArray)) ((⟨#[65]⟩:ByteArray)) (mPut ((⟨#[112,111,119]⟩:ByteArray)) ((⟨#[65,65,110]⟩:ByteArray)) (mPut ((⟨#[109,117,108]⟩:ByteArray)) ((⟨#[65,65,65]⟩:ByteArray)) (mPut ((⟨#[112,114,105,109,101]⟩:ByteArray)) ((⟨#[65,110]⟩:ByteArray)) (mPut ((⟨#[115,101,116]⟩:ByteArray)) ((⟨#[65,102]⟩:ByteArray)) (mPut ((⟨#[100,105,115,99]⟩:ByteArray)) ((⟨#[110]⟩:ByteArray)) (([]:List (ByteArray×ByteArray))))))))))))))) (a:=(⟨#[110,97,109,101,115]⟩:ByteArray)) (u:=(⟨#[]⟩:ByteArray)) (id:=56) (b:=mb7) zG0 (.inr rfl) rfl kk kk kk kk) ?_
   refine zQ rfl (zEU (κ:=ByteArray) (ν:=ByteArray) (ek:=zEE) (ev:=zF6) (z:=ByteArray.empty) (m:=mPut ((⟨#[110,97,109,101,115]⟩:ByteArray)) ((⟨#[]⟩:ByteArray)) (mPut ((⟨#[115,97,109,101]⟩:ByteArray)) ((⟨#[65,65]⟩:ByteArray)) (mPut ((⟨#[118,97,108,117,101]⟩:ByteArray)) ((⟨#[65,110]⟩:ByteArray)) (mPut ((⟨#[103,101,110,117,115]⟩:ByteArray)) ((⟨#[65]⟩:ByteArray)) (mPut ((⟨#[111,114,100,101,114]⟩:ByteArray)) ((⟨#[65]⟩:ByteArray)) (mPut ((⟨#[105,110,100,101,120]⟩:ByteArray)) ((⟨#[65]⟩:ByteArray)) (mPut ((⟨#[115,104,111,119]⟩:ByteArray)) ((⟨#[65]⟩:ByteArray)) (mPut ((⟨#[102,114,101,101]⟩:ByteArray)) ((⟨#[65]⟩:ByteArray)) (mPut ((⟨#[112,111,119]⟩:ByteArray)) ((⟨#[65,65,110]⟩:ByteArray)) (mPut ((⟨#[109,117,108]⟩:ByteArray)) ((⟨#[65,65,65]⟩:ByteArray)) (mPut ((⟨#[112,114,105,109,101]⟩:ByteArray)) ((⟨#[65,110]⟩:ByteArray)) (mPut ((⟨#[115,101,116]⟩:ByteArray)) ((⟨#[65,102]⟩:ByteArray)) (mPut ((⟨#[100,105,115,99]⟩:ByteArray)) ((⟨#[110]⟩:ByteArray)) (([]:List (ByteArray×ByteArray)))))))))))))))) (a:=(⟨#[117,110,100,111]⟩:ByteArray)) (u:=(⟨#[]⟩:ByteArray)) (id:=56) (b:=mb7) zG0 (.inr rfl) rfl kk kk kk kk) ?_
   refine L0 rfl rfl (zJ (.c (.v (.map (some mb7)))) rfl kk) ?_
   refine L0 rfl rfl (zF (.c (.v (.map (some mb7)))) rfl kk) ?_
   refine zI ?_
   subst hl2;exact⟨mb7,by kernel_rfl⟩
  intro mb7;refine qZ (mb 17 96) [] (s1:=⟨bt 5 (.c (.v (.string (mAt word1 l2 ByteArray.empty)))::Bo (mHas word1 l2)::bt 10 []),[]⟩) ?_ ?_
  ·refine L0 rfl rfl (zJ (.c (.v (.map (some mb7)))) rfl kk) ?_
   refine L0 rfl rfl (zJ (.c (.v (.string word1))) rfl kk) ?_
   refine L0 rfl rfl (z1J (κ:=ByteArray) (ν:=ByteArray) (ek:=zEE) (ev:=zF6) (z:=ByteArray.empty) (m:=l2) (a:=word1) (id:=56) (b:=mb7) zG0 rfl kk kk kk) ?_
   refine L0 rfl rfl (zJ (.tc (.c (.v (.string (mAt word1 l2 ByteArray.empty)))) (.tc (Bo (mHas word1 l2)) .tn)) rfl kk) ?_
   refine L0 rfl rfl (zGd (n:=0) (.c (.v (.string (mAt word1 l2 ByteArray.empty)))) (.tc (Bo (mHas word1 l2)) .tn) (.c (.v (.string (mAt word1 l2 ByteArray.empty)))) rfl kk kk (by intro hh;cases hh)) ?_
   refine L0 rfl rfl (zGd (n:=1) (.c (.v (.string (mAt word1 l2 ByteArray.empty)))) (.tc (Bo (mHas word1 l2)) .tn) (Bo (mHas word1 l2)) rfl kk kk (by intro hh;cases hh)) ?_
   refine L0 rfl rfl (zF (.c (.v (.string (mAt word1 l2 ByteArray.empty)))) rfl kk) ?_
   refine L0 rfl rfl (zF (Bo (mHas word1 l2)) rfl kk) ?_
   refine zI ?_
   kernel_rfl
  refine qZ (mb 17 12) [] (s1:=⟨.bot::.bot::.c (.v (.string (mAt word1 l2 ByteArray.empty)))::Bo (mHas word1 l2)::bt 13 [],[]⟩) ?_ ?_
  ·refine L0 rfl rfl (zJ (.c (.v (.string (mAt word1 l2 ByteArray.empty)))) rfl kk) ?_
   refine L0 rfl rfl (zJ (Bo (mHas word1 l2)) rfl kk) ?_
   refine L0 rfl rfl (zF (.c (.v (.string (mAt word1 l2 ByteArray.empty)))) rfl kk) ?_
   refine L0 rfl rfl (zF (Bo (mHas word1 l2)) rfl kk) ?_
   refine zI ?_
   kernel_rfl
  refine zE2 ?_
  obtain rfl:=zU h;show Post _ _ _ _ _;exact⟨.inr rfl,rfl,rfl,rfl⟩
theorem zSM:CfW Tryz.prog 113:=cfW Tryz.func113
noncomputable def zTJ (w1:ByteArray):T Tryz.prog ((Int×Bool)):=
 .pl<|.dn<|.joinC (.seqT (.cond (!eqI ((w1.size:Int)) 1) (.ret true) (.op0 (idxs w1 0) fun e3=>.ret (ltI e3 97))) fun b4=>.seqT (.cond b4 (.ret true) (.op0 (idxs w1 0) fun e6=>.ret (ltI 122 e6))) fun b7=>.ret (b4,b7)) (mb 21 65537) [] (fun s q_1 γ=>s.pc (mb 21 65537) [] [(16,Bo q_1.2)] []) fun q_1=>
 .cond q_1.2 (
 .ret ((0,false)))<|.op0 (idxs w1 0) fun e9=>.n0 au<|.n0 au<|
 .frc (IntKind.i64.wrap (IntKind.u8.wrap (e9 - 97))) fun t10=>.ret ((t10,true))
theorem zT6 {w1:ByteArray} {r:(Int×Bool)} (h:zCe w1=some r):zD Tryz.prog 113 [.c (.v (.string w1))] (.tc (I r.1) (.tc (Bo r.2) .tn)) []:=CtT (zTJ w1) (fun r=>(.tc (I r.1) (.tc (Bo r.2) .tn),[])) (rs:=[.t 2,.t 3]) (vs:=[.tmp 2,.tmp 3]) Tryz.func113 rfl rfl (.cons rfl (.cons rfl FitsL.nil)) h
theorem zLO:∀args w,(callFunc 158 args).run Tryz.prog w=.ok (.enter 158 args) w:=jD Tryz.func158 kk kk
set_option maxRecDepth 100000 in
set_option maxHeartbeats 400000 in
theorem zMD {vs1:ByteArray} {r:List Int} (h:zA6 vs1=some r):zD Tryz.prog 158 [.c (.v (.string vs1))] (.ow 0) [(0,.arr 3 1 (r.map c3))]:=by
  refine zAj (rs:=[.t 2]) (vs:=[.tmp 2]) Tryz.func158 rfl rfl (.cons rfl FitsL.nil) (by decide) 30 rfl ?_
  unfold zA6 at h;show V _ _ ⟨.c (.v (.string vs1))::bt 29 [],[]⟩ _;refine qZ (mb 30 1) [] (s1:=⟨.c (.v (.string vs1))::bt 29 [],[]⟩) ?_ ?_
  ·refine L1 rfl rfl (zZT (e:=3) 1 (by decide) (.inl rfl)) ?_
   refine zI ?_
   kernel_rfl
  refine qZ (mb 30 9) [64] (s1:=⟨.c (.v (.string vs1))::.bot::.bot::.ow 64::bt 26 [],[(64,.arr 3 1 ((([]:List Int)).map c3))]⟩) ?_ ?_
  ·refine L1 rfl rfl (zLW Tryz.underlying37 sz3 (by decide) rfl rfl) ?_
   refine L0 rfl rfl (zF (.ow 64) rfl kk) ?_
   refine zI ?_
   kernel_rfl
  refine zDI ?_
  obtain⟨y2,hy2,h⟩:=zV h;refine qZ (mb 30 7176) [80,64] (s1:=⟨bt 3 (.ow 64::bt 6 (.ow 80::I ((y2.length:Int))::I 0::bt 17 [])),[(80,.arr 9 1 (y2.map c9)),(64,.arr 3 1 ((([]:List Int)).map c3))]⟩) ?_ ?_
  ·refine L0 rfl rfl (zJ (.c (.v (.string vs1))) rfl kk) ?_
   refine L1 rfl rfl (zCA (zHD hy2) zIX rfl kk) ?_
   refine L0 rfl rfl (zMj (c:=c9) (xs:=y2) Tryz.underlying49 rfl kk) ?_
   refine L0 rfl rfl (zJ (I 0) rfl kk) ?_
   refine zI ?_
   kernel_rfl
  obtain⟨qo6,hLo6,hko6⟩:=zV h;refine V_toS (q:=qo6) (S:=fun o6=>⟨bt 3 (.ow 64::bt 26 []),[(64,.arr 3 1 (o6.map c3))]⟩) (mb 30 8) [64] ?_ ?_
  ·refine zDq (zS0 (fun n s=>∃(t3:Int) (l4:List Int),s.keep (mb 30 7176) [80,64]=(⟨bt 3 (.ow 64::bt 6 (.ow 80::I ((y2.length:Int))::I t3::bt 17 [])),[(80,.arr 9 1 (y2.map c9)),(64,.arr 3 1 (l4.map c3))]⟩:St)∧qI y2 n t3 l4=some qo6) FU ⟨_,_,by rfl,hLo6⟩ ?_);clear hLo6;rintro n s ⟨t3,l4,hs,h⟩;refine zZ0 _ _ hs ?_
   clear hs;cases n with
   |zero=>cases h
   |succ n=>
    rw[qI]at h;refine qZ (mb 30 15368) [80,64] (s1:=⟨bt 3 (.ow 64::bt 6 (.ow 80::I ((y2.length:Int))::I t3::Bo (ltI t3 ((y2.length:Int)))::bt 16 [])),[(80,.arr 9 1 (y2.map c9)),(64,.arr 3 1 (l4.map c3))]⟩) ?_ ?_
    ·refine L0 rfl rfl (zG9 (k:=.i64) (a:=t3) (b:=(y2.length:Int)) rfl kk kk) ?_
     refine zI ?_
     kernel_rfl
    refine zDI ?_
    refine zDO rfl (fun hc7=>?_) (fun hc7=>?_)
    ·have h:=zBy h hc7;refine zEx ?_
     show V _ _ _ _;refine zDI ?_
     refine zDq ?_
     obtain⟨e8,he8,h⟩:=zV h;obtain⟨e9,he9,h⟩:=zV h;refine qZ (mb 30 7208) [80,64] (s1:=⟨bt 3 (.ow 64::.bot::.c (.v (.string e9))::bt 4 (.ow 80::I ((y2.length:Int))::I t3::bt 17 [])),[(80,.arr 9 1 (y2.map c9)),(64,.arr 3 1 (l4.map c3))]⟩) ?_ ?_
     ·refine L0 rfl rfl (zSY (c:=c9) (xs:=y2) (v:=e8) (id:=80) (T:=9) (sz:=1) (n:=t3) Tryz.underlying49 sz9 rfl kk kk kk he8) ?_
      refine L0 rfl rfl (zOR (c:=c9) (xs:=y2) (v:=e9) (id:=80) (sz:=1) (T:=9) (off:=0) (n:=t3) (d:=.v (.string e9)) (ds:=[]) sc9 rfl kk kk he9 kk) ?_
      refine L0 rfl rfl (zF (.c (.v (.string e9))) rfl kk) ?_
      refine zI ?_
      kernel_rfl
     obtain⟨y10,hy10,h⟩:=zV h;refine qZ (mb 30 7368) [80,64] (s1:=⟨bt 3 (.ow 64::.bot::.bot::I y10.1::.er y10.2::.bot::.bot::.ow 80::I ((y2.length:Int))::I t3::bt 17 []),[(80,.arr 9 1 (y2.map c9)),(64,.arr 3 1 (l4.map c3))]⟩) ?_ ?_
     ·refine L0 rfl rfl (zJ (.c (.v (.string e9))) rfl kk) ?_
      refine L1 rfl rfl (zCA (zIi hy10) zIM rfl kk) ?_
      refine L0 rfl rfl (zJ (.tc (I y10.1) (.tc (.er y10.2) .tn)) rfl kk) ?_
      refine L0 rfl rfl (zGd (n:=0) (I y10.1) (.tc (.er y10.2) .tn) (I y10.1) rfl kk kk (by intro hh;cases hh)) ?_
      refine L0 rfl rfl (zGd (n:=1) (I y10.1) (.tc (.er y10.2) .tn) (.er y10.2) rfl kk kk (by intro hh;cases hh)) ?_
      refine L0 rfl rfl (zF (I y10.1) rfl kk) ?_
      refine L0 rfl rfl (zF (.er y10.2) rfl kk) ?_
      refine zI ?_
      kernel_rfl
     refine zDI ?_
     refine qZ (mb 30 4201544) [80,64] (s1:=⟨bt 3 (.ow 64::.bot::.bot::I y10.1::bt 3 (.ow 80::I ((y2.length:Int))::I t3::bt 9 (Bo (!y10.2)::bt 7 []))),[(80,.arr 9 1 (y2.map c9)),(64,.arr 3 1 (l4.map c3))]⟩) ?_ ?_
     ·refine L0 rfl rfl (zJ (.er y10.2) rfl kk) ?_
      refine L0 rfl rfl (z5B (b:=y10.2) Tryz.underlying78 rfl kk) ?_
      refine zI ?_
      kernel_rfl
     refine zDO rfl (fun hc11=>?_) (fun hc11=>?_)
     ·have h:=zBy h hc11;refine qZ (mb 30 4) [184] (s1:=⟨.bot::.bot::.ow 184::bt 27 [],[(184,.arr 3 1 ((([]:List Int)).map c3))]⟩) ?_ ?_
      ·refine L1 rfl rfl (zLW Tryz.underlying37 sz3 (by decide) rfl rfl) ?_
       refine L0 rfl rfl (zF (.ow 184) rfl kk) ?_
       refine zI ?_
       kernel_rfl
      refine zE2 ?_
      obtain rfl:=zU h;have h:=hko6;obtain rfl:=zU h;show Post _ _ _ _ _;exact⟨.inr rfl,rfl,rfl,rfl⟩
     ·have h:=zBR h hc11;refine zEx ?_
      show V _ _ _ _;obtain⟨u12,hu12,h⟩:=zV h;refine zYQ (mb 30 7176) [80,64] (s1:=⟨bt 3 (.ow 64::bt 6 (.ow 80::I ((y2.length:Int))::I t3::bt 17 [])),[(80,.arr 9 1 (y2.map c9)),(64,.arr 3 1 ((l4++([y10.1])).map c3))]⟩) ?_ ?_
      ·refine L0 rfl rfl (zJ (.ow 64) rfl kk) ?_
       refine L0 rfl rfl (zJ (I y10.1) rfl kk) ?_
       refine L1 rfl rfl (zGO (z:=zv3) (els:=[y10.1].map c3) Tryz.underlying37 iz3 rfl (by decide) rfl kk rfl (by simp[c3]) (by decide) (by decide)) ?_
       refine zQ rfl (zOT (c:=c3) (xs:=l4) (ys:=[y10.1]) (id:=64) (z:=zv3) rfl rfl Tryz.underlying37 izb3 rfl kk kk kk (fun _=>rfl) (by simp) (zJ2 hu12) (by decide)) ?_
       refine L0 rfl rfl (zF (.ow 64) rfl kk) ?_
       refine zI ?_
       kernel_rfl
      show V _ _ _ _;obtain⟨t13,ht13,h⟩:=zO9 h;refine zYQ (mb 30 7176) [80,64] (s1:=⟨bt 3 (.ow 64::bt 6 (.ow 80::I ((y2.length:Int))::I t13::bt 17 [])),[(80,.arr 9 1 (y2.map c9)),(64,.arr 3 1 ((l4++([y10.1])).map c3))]⟩) ?_ ?_
      ·refine L0 rfl rfl (zEw (a:=t3) (b:=1) rfl kk kk) ?_
       refine L0 rfl rfl (zJ (I (w64 (t3+1))) rfl kk) ?_
       refine zI ?_
       subst ht13
       kernel_rfl
      exact⟨n,Nat.lt_succ_self n,_,_,by rfl,h⟩
    ·have h:=zBR h hc7;refine zWj ?_
     obtain rfl:=zU h;exact⟨_,rfl,by rfl⟩
  rintro o6 rfl;have h:=hko6;clear hko6;show V _ _ _ _;refine qZ (mb 30 4) [64] (s1:=⟨.bot::.bot::.ow 64::bt 27 [],[(64,.arr 3 1 (o6.map c3))]⟩) ?_ ?_
  ·refine L0 rfl rfl (zJ (.ow 64) rfl kk) ?_
   refine L0 rfl rfl (zF (.ow 64) rfl kk) ?_
   refine zI ?_
   kernel_rfl
  refine zE2 ?_
  obtain rfl:=zU h;show Post _ _ _ _ _;exact⟨.inr rfl,rfl,rfl,rfl⟩
def zMu (vs1:ByteArray):=fC zLO (zA6 vs1) fun _=>zMD
theorem zG6:CfW Tryz.prog 60:=cfW Tryz.func60
noncomputable def zLj (list1:List Int):T Tryz.prog Bool:=
 .n0 (lenM ct3 list1)<|
 .loopS (fun n X_34=>zBg list1 n X_34) 0 (mb 18 224) [] (fun s X_34 γ=>s.pc (mb 18 224) [] [(7,I X_34)] []) (fun X_34=>
 .cond (ltI X_34 ((list1.length:Int))) (.op0 (idxM ct3 list1 X_34) fun e6=>
 .joinC (.selB (ltI e6 (-1000000)) false [] fun w_32=>.ret w_32) (mb 18 65760) [] (fun s q_33 γ=>s.pc (mb 18 65760) [] [(16,Bo (bif q_33 then true else (ltI 1000000 e6)))] []) fun q_33=>
 .cond (bif q_33 then true else (ltI 1000000 e6)) (
 .ret (.early false))<|
 .frc (w64 (X_34+1)) fun t9=>.ret (.again t9))<|.ret (.done (()))) (mb 18 0) [] (fun s o4 γ=>s.pc (mb 18 0) [] [] []) (fun r=>r) fun o4=>
 .ret true
theorem zGk {list1:List Int} {r:Bool} (h:zA7 list1=some r):zD Tryz.prog 60 [.c (.sl (list1.map c3))] (Bo r) []:=CtU (zLj list1) 2 (fun r=>Bo r) Tryz.func60 rfl rfl h
def zGu (list1:List Int):=fCs zG6 (zA7 list1) (fun _=>zGk) fun _=>rfl
theorem zSO:CfW Tryz.prog 41:=cfW Tryz.func41
noncomputable def zTL (f1:τF):T Tryz.prog Bool:=
 .n1 bsl<|.op1 (zGu ([f1.1,f1.2.1,f1.2.2])) fun y2=>
 .ret y2
theorem zT8 {f1:τF} {r:Bool} (h:zDM f1=some r):zD Tryz.prog 41 [.ag [Ti f1.1,Ti f1.2.1,Ti f1.2.2]] (Bo r) []:=CtU (zTL f1) 2 (fun r=>Bo r) Tryz.func41 rfl rfl h
def zK0 (f1:τF):=fC zSO (zDM f1) fun _=>zT8
theorem zOI:CfW Tryz.prog 121:=cfW Tryz.func121
noncomputable def zPA (f1:τF):T Tryz.prog ByteArray:=
 .draw 16 []<|.op1 (zAk f1.1) fun y2=>.op0 (cat ((⟨#[40]⟩:ByteArray)) y2) fun u3=>.op0 (cat (((⟨#[40]⟩:ByteArray))++y2) ((⟨#[44]⟩:ByteArray))) fun u4=>.op1 (zAk f1.2.1) fun y5=>.op0 (cat ((((⟨#[40]⟩:ByteArray))++y2)++((⟨#[44]⟩:ByteArray))) y5) fun u6=>.op0 (cat (((((⟨#[40]⟩:ByteArray))++y2)++((⟨#[44]⟩:ByteArray)))++y5) ((⟨#[44]⟩:ByteArray))) fun u7=>.op1 (zAk f1.2.2) fun y8=>.op0 (cat ((((((⟨#[40]⟩:ByteArray))++y2)++((⟨#[44]⟩:ByteArray)))++y5)++((⟨#[44]⟩:ByteArray))) y8) fun u9=>.op0 (cat (((((((⟨#[40]⟩:ByteArray))++y2)++((⟨#[44]⟩:ByteArray)))++y5)++((⟨#[44]⟩:ByteArray)))++y8) ((⟨#[41]⟩:ByteArray))) fun u10=>
 .ret ((((((((⟨#[40]⟩:ByteArray))++y2)++((⟨#[44]⟩:ByteArray)))++y5)++((⟨#[44]⟩:ByteArray)))++y8)++((⟨#[41]⟩:ByteArray)))
theorem zPT {f1:τF} {r:ByteArray} (h:jN f1=some r):zD Tryz.prog 121 [.ag [Ti f1.1,Ti f1.2.1,Ti f1.2.2]] (.c (.v (.string r))) []:=CtU (zPA f1) 2 (fun r=>.c (.v (.string r))) Tryz.func121 rfl rfl h
def zBV (f1:τF):=fC zOI (jN f1) fun _=>zPT
theorem zMe:CfW Tryz.prog 114:=cfW Tryz.func114
noncomputable def zNR (vs1:ByteArray):T Tryz.prog ((τF×Bool)):=
 .op1 (zMu vs1) fun y2=>
 .n0 (lenM ct3 y2)<|
 .cond (!eqI ((y2.length:Int)) 3) (.n0 (bld pl42 bt42)<|
 .ret (((0,0,0),false)))<|.draw 11 []<|.op0 (zBH ct3 y2 0) fun e4=>.op0 (ldo ct3 y2 0) fun e5=>.op0 (zBH ct3 y2 1) fun e6=>.op0 (ldo ct3 y2 1) fun e7=>.op0 (zBH ct3 y2 2) fun e8=>.op0 (ldo ct3 y2 2) fun e9=>.n0 (bld pl42 bt42)<|
 .dn<|.joinC (.op1 (zK0 ((e5,e7,e9))) fun y10=>.seqT (.cond (!y10) (.ret true) (.op1 (zBV ((e5,e7,e9))) fun y12=>.ret (!(y12.toList==vs1.toList)))) fun b13=>.ret (y10,b13)) (mb 33 1073741860) [40,16] (fun s q_1 γ=>s.pc (mb 33 1073741860) [40,16] [(30,Bo q_1.2)] []) fun q_1=>
 .cond q_1.2 (.n0 (bld pl42 bt42)<|
 .ret (((0,0,0),false)))<|
 .ret (((e5,e7,e9),true))
theorem zNa {vs1:ByteArray} {r:(τF×Bool)} (h:zB8 vs1=some r):zD Tryz.prog 114 [.c (.v (.string vs1))] (.tc (.ag [Ti r.1.1,Ti r.1.2.1,Ti r.1.2.2]) (.tc (Bo r.2) .tn)) []:=CtT (zNR vs1) (fun r=>(.tc (.ag [Ti r.1.1,Ti r.1.2.1,Ti r.1.2.2]) (.tc (Bo r.2) .tn),[])) (rs:=[.w 2 3,.t 3]) (vs:=[.cell 2 42,.tmp 3]) Tryz.func114 rfl rfl (.cons ⟨rfl,wd42⟩ (.cons rfl FitsL.nil)) h
theorem zOG:∀args w,(callFunc 115 args).run Tryz.prog w=.ok (.enter 115 args) w:=jD Tryz.func115 kk kk
set_option maxRecDepth 100000 in
set_option maxHeartbeats 400000 in
theorem zPR {w1:ByteArray} {r:(Int×Bool)} (h:zCY w1=some r):zD Tryz.prog 115 [.c (.v (.string w1))] (.tc (I r.1) (.tc (Bo r.2) .tn)) []:=by
  refine zAj (rs:=[.t 2,.t 3]) (vs:=[.tmp 2,.tmp 3]) Tryz.func115 rfl rfl (.cons rfl (.cons rfl FitsL.nil)) (by decide) 25 rfl ?_
  unfold zCY at h;show V _ _ ⟨.c (.v (.string w1))::bt 24 [],[]⟩ _;refine qZ (mb 25 1) [] (s1:=⟨.c (.v (.string w1))::bt 24 [],[]⟩) ?_ ?_
  ·refine L0 rfl rfl (zF (I 0) rfl kk) ?_
   refine L0 rfl rfl (zF (Bo false) rfl kk) ?_
   refine zI ?_
   kernel_rfl
  obtain⟨y2,hy2,h⟩:=zV h;refine qZ (mb 25 49) [] (s1:=⟨.c (.v (.string w1))::bt 3 (I y2.1::.er y2.2::bt 19 []),[]⟩) ?_ ?_
  ·refine L0 rfl rfl (zJ (.c (.v (.string w1))) rfl kk) ?_
   refine L1 rfl rfl (zCA (zIi hy2) zIM rfl kk) ?_
   refine L0 rfl rfl (zJ (.tc (I y2.1) (.tc (.er y2.2) .tn)) rfl kk) ?_
   refine L0 rfl rfl (zGd (n:=0) (I y2.1) (.tc (.er y2.2) .tn) (I y2.1) rfl kk kk (by intro hh;cases hh)) ?_
   refine L0 rfl rfl (zGd (n:=1) (I y2.1) (.tc (.er y2.2) .tn) (.er y2.2) rfl kk kk (by intro hh;cases hh)) ?_
   refine L0 rfl rfl (zF (I y2.1) rfl kk) ?_
   refine L0 rfl rfl (zF (.er y2.2) rfl kk) ?_
   refine zI ?_
   kernel_rfl
  obtain⟨b5,hb5,h⟩:=zV h;obtain⟨b8,hb8,h⟩:=zV h;refine qZ (mb 25 12) [] (s1:=⟨.bot::.bot::I y2.1::Bo b8::bt 21 [],[]⟩) ?_ ?_
  ·refine L0 rfl rfl (zJ (I y2.1) rfl kk) ?_
   refine L0 rfl rfl (zJ (.er y2.2) rfl kk) ?_
   refine L0 rfl rfl (z5C (b:=y2.2) Tryz.underlying78 rfl kk) ?_
   refine L0 rfl rfl (zJ (Bo y2.2) rfl kk) ?_
   refine zBC y2.2 (fun hc3=>?_) (fun hc3=>?_)
   ·have hb5:=zBy hb5 hc3;obtain⟨y4,hy4,hb5⟩:=zV hb5;have hb5:=zU hb5;refine zC _ rfl rfl kk hc3 (zB rfl (zJ (I y2.1) rfl kk)) ?_
    refine zC _ rfl rfl kk hc3 (zEJ rfl (zGO (z:=zv3) (els:=[y2.1].map c3) Tryz.underlying37 iz3 rfl (by decide) rfl kk rfl (by simp[c3]) (by decide) (by decide))) ?_
    refine zC _ rfl rfl kk hc3 (zEJ rfl (zYL (zGk hy4) zG6 rfl kk rfl rfl)) ?_
    refine zQ rfl (zB rfl (zJi (b:=y2.2) (p:=y4) rfl kk hc3 kk hb5)) ?_
    refine L0 rfl rfl (zJ (Bo b5) rfl kk) ?_
    refine zBC b5 (fun hc6=>?_) (fun hc6=>?_)
    ·have hb8:=zBy hb8 hc6;obtain⟨y7,hy7,hb8⟩:=zV hb8;have hb8:=zU hb8;refine zC _ rfl rfl kk hc6 (zB rfl (zJ (I y2.1) rfl kk)) ?_
     refine zC _ rfl rfl kk hc6 (zEJ rfl (zCA (zGS hy7) zFn rfl kk)) ?_
     refine zC _ rfl rfl kk hc6 (zB rfl (zJ (.c (.v (.string w1))) rfl kk)) ?_
     refine zC _ rfl rfl kk hc6 (zB rfl (zZY (a:=y7) (b:=w1) rfl kk kk)) ?_
     refine zQ rfl (zB rfl (zJi (b:=b5) (p:=y7.toList==w1.toList) rfl kk hc6 kk hb8)) ?_
     refine L0 rfl rfl (zF (I y2.1) rfl kk) ?_
     refine L0 rfl rfl (zF (Bo b8) rfl kk) ?_
     refine zI ?_
     kernel_rfl
    ·have hb8:=zU (zBR hb8 hc6);refine zT _ rfl rfl kk hc6 rfl ?_
     refine zT _ rfl rfl kk hc6 rfl ?_
     refine zT _ rfl rfl kk hc6 rfl ?_
     refine zT _ rfl rfl kk hc6 rfl ?_
     refine zQ rfl (zB rfl (zJj (b:=b5) (p:=false) rfl kk hc6 kk hb8)) ?_
     refine L0 rfl rfl (zF (I y2.1) rfl kk) ?_
     refine L0 rfl rfl (zF (Bo b8) rfl kk) ?_
     refine zI ?_
     kernel_rfl
   ·have hb5:=zU (zBR hb5 hc3);refine zT _ rfl rfl kk hc3 rfl ?_
    refine zT _ rfl rfl kk hc3 rfl ?_
    refine zT _ rfl rfl kk hc3 rfl ?_
    refine zQ rfl (zB rfl (zJj (b:=y2.2) (p:=false) rfl kk hc3 kk hb5)) ?_
    refine L0 rfl rfl (zJ (Bo b5) rfl kk) ?_
    refine zBC b5 (fun hc6=>?_) (fun hc6=>?_)
    ·have hb8:=zBy hb8 hc6;obtain⟨y7,hy7,hb8⟩:=zV hb8;have hb8:=zU hb8;refine zC _ rfl rfl kk hc6 (zB rfl (zJ (I y2.1) rfl kk)) ?_
     refine zC _ rfl rfl kk hc6 (zEJ rfl (zCA (zGS hy7) zFn rfl kk)) ?_
     refine zC _ rfl rfl kk hc6 (zB rfl (zJ (.c (.v (.string w1))) rfl kk)) ?_
     refine zC _ rfl rfl kk hc6 (zB rfl (zZY (a:=y7) (b:=w1) rfl kk kk)) ?_
     refine zQ rfl (zB rfl (zJi (b:=b5) (p:=y7.toList==w1.toList) rfl kk hc6 kk hb8)) ?_
     refine L0 rfl rfl (zF (I y2.1) rfl kk) ?_
     refine L0 rfl rfl (zF (Bo b8) rfl kk) ?_
     refine zI ?_
     kernel_rfl
    ·have hb8:=zU (zBR hb8 hc6);refine zT _ rfl rfl kk hc6 rfl ?_
     refine zT _ rfl rfl kk hc6 rfl ?_
     refine zT _ rfl rfl kk hc6 rfl ?_
     refine zT _ rfl rfl kk hc6 rfl ?_
     refine zQ rfl (zB rfl (zJj (b:=b5) (p:=false) rfl kk hc6 kk hb8)) ?_
     refine L0 rfl rfl (zF (I y2.1) rfl kk) ?_
     refine L0 rfl rfl (zF (Bo b8) rfl kk) ?_
     refine zI ?_
     kernel_rfl
  refine zE2 ?_
  obtain rfl:=zU h;show Post _ _ _ _ _;exact⟨.inr rfl,rfl,rfl,rfl⟩
theorem zOE:∀args w,(callFunc 79 args).run Tryz.prog w=.ok (.enter 79 args) w:=jD Tryz.func79 kk kk
set_option maxRecDepth 100000 in
set_option maxHeartbeats 400000 in
theorem zPP {vs1:ByteArray} {r:((ByteArray×(List Int)×τF×Int)×Bool)} (h:zM vs1=some r):zD Tryz.prog 79 [.c (.v (.string vs1))] (.tc (.ag [.v (.string r.1.1),.sl (r.1.2.1.map c3),Ti r.1.2.2.1.1,Ti r.1.2.2.1.2.1,Ti r.1.2.2.1.2.2,Ti r.1.2.2.2]) (.tc (Bo r.2) .tn)) []:=by
  refine zAj (rs:=[.w 2 6,.t 3]) (vs:=[.cell 2 111,.tmp 3]) Tryz.func79 rfl rfl (.cons ⟨rfl,z5T⟩ (.cons rfl FitsL.nil)) (by decide) 77 rfl ?_
  unfold zM at h;show V _ _ ⟨.c (.v (.string vs1))::bt 76 [],[]⟩ _;refine qZ (mb 77 5) [16] (s1:=⟨.c (.v (.string vs1))::.bot::.pt 16 0::bt 74 [],[(16,.box [.v (.string ByteArray.empty),.v (.slice none 0 0),Ti 0,Ti 0,Ti 0,Ti 0])]⟩) ?_ ?_
  ·refine L1 rfl rfl (zMh (z:=z1S) rfl z5O rfl) ?_
   refine L0 rfl rfl (zF (Bo false) rfl kk) ?_
   refine zI ?_
   kernel_rfl
  obtain⟨y2,hy2,h⟩:=zV h;refine qZ (mb 77 20) [96,16] (s1:=⟨.bot::.bot::.pt 16 0::.bot::.ow 96::bt 72 [],[(96,.arr 9 1 (y2.map c9)),(16,.box [.v (.string ByteArray.empty),.v (.slice none 0 0),Ti 0,Ti 0,Ti 0,Ti 0])]⟩) ?_ ?_
  ·refine L0 rfl rfl (zJ (.c (.v (.string vs1))) rfl kk) ?_
   refine L1 rfl rfl (zCA (zIL hy2) zH2 rfl kk) ?_
   refine L0 rfl rfl (zF (.ow 96) rfl kk) ?_
   refine zI ?_
   kernel_rfl
  obtain⟨e3,he3,h⟩:=zV h;obtain⟨e4,he4,h⟩:=zV h;refine qZ (mb 77 52) [40,96,16] (s1:=⟨.bot::.bot::.pt 16 0::.bot::.ow 96::.pt 40 0::bt 71 [],[(40,.box [.v (.string e4),.v (.slice none 0 0),Ti 0,Ti 0,Ti 0,Ti 0]),(96,.arr 9 1 (y2.map c9)),(16,.box [.v (.string ByteArray.empty),.v (.slice none 0 0),Ti 0,Ti 0,Ti 0,Ti 0])]⟩) ?_ ?_
  ·refine L0 rfl rfl (zJ (.ow 96) rfl kk) ?_
   refine L0 rfl rfl (zSY (c:=c9) (xs:=y2) (v:=e3) (id:=96) (T:=9) (sz:=1) (n:=0) Tryz.underlying49 sz9 rfl kk kk kk he3) ?_
   refine L0 rfl rfl (zOR (c:=c9) (xs:=y2) (v:=e4) (id:=96) (sz:=1) (T:=9) (off:=0) (n:=0) (d:=.v (.string e4)) (ds:=[]) sc9 rfl kk kk he4 kk) ?_
   refine L0 rfl rfl (zGa (cs:=[.v (.string e4),.v (.slice none 0 0),Ti 0,Ti 0,Ti 0,Ti 0]) zUS zYI rfl rfl kk) ?_
   refine L1 rfl rfl (zMh (z:=z1S) rfl z5O rfl) ?_
   refine zQ rfl (zEy (id:=40) (off:=0) (cs:=[.v (.string ByteArray.empty),.v (.slice none 0 0),Ti 0,Ti 0,Ti 0,Ti 0]) (vc:=[.v (.string e4),.v (.slice none 0 0),Ti 0,Ti 0,Ti 0,Ti 0]) [.v (.string e4),.v (.slice none 0 0),Ti 0,Ti 0,Ti 0,Ti 0] rfl rfl kk kk kk zUO (Nat.le_of_ble_eq_true rfl) kk) ?_
   refine zI ?_
   kernel_rfl
  obtain⟨y5,hy5,h⟩:=zV h;refine qZ (mb 77 244) [40,96,16] (s1:=⟨.bot::.bot::.pt 16 0::.bot::.ow 96::.pt 40 0::.c (.v (.string y5.1))::Bo y5.2::bt 69 [],[(40,.box [.v (.string e4),.v (.slice none 0 0),Ti 0,Ti 0,Ti 0,Ti 0]),(96,.arr 9 1 (y2.map c9)),(16,.box [.v (.string ByteArray.empty),.v (.slice none 0 0),Ti 0,Ti 0,Ti 0,Ti 0])]⟩) ?_ ?_
  ·refine L0 rfl rfl (zAJ (.pt 40 0) Tryz.underlying111 rfl sz9 rfl kk (by intro hh;cases hh)) ?_
   refine L0 rfl rfl (jR (c:=.v (.string e4)) (cs:=[.v (.slice none 0 0),Ti 0,Ti 0,Ti 0,Ti 0]) sc9 rfl kk) ?_
   refine L1 rfl rfl (zCA (zN8 hy5) zMc rfl kk) ?_
   refine L0 rfl rfl (zJ (.tc (.c (.v (.string y5.1))) (.tc (Bo y5.2) .tn)) rfl kk) ?_
   refine L0 rfl rfl (zGd (n:=0) (.c (.v (.string y5.1))) (.tc (Bo y5.2) .tn) (.c (.v (.string y5.1))) rfl kk kk (by intro hh;cases hh)) ?_
   refine L0 rfl rfl (zGd (n:=1) (.c (.v (.string y5.1))) (.tc (Bo y5.2) .tn) (Bo y5.2) rfl kk kk (by intro hh;cases hh)) ?_
   refine L0 rfl rfl (zF (.c (.v (.string y5.1))) rfl kk) ?_
   refine L0 rfl rfl (zF (Bo y5.2) rfl kk) ?_
   refine zI ?_
   kernel_rfl
  refine zDI ?_
  obtain⟨t7,ht7,h⟩:=zV h;have ht7:=zU ht7;refine qZ (mb 77 4294967412) [40,96,16] (s1:=⟨.bot::.bot::.pt 16 0::.bot::.ow 96::.pt 40 0::.c (.v (.string y5.1))::bt 25 (Bo t7::bt 44 []),[(40,.box [.v (.string e4),.v (.slice none 0 0),Ti 0,Ti 0,Ti 0,Ti 0]),(96,.arr 9 1 (y2.map c9)),(16,.box [.v (.string ByteArray.empty),.v (.slice none 0 0),Ti 0,Ti 0,Ti 0,Ti 0])]⟩) ?_ ?_
  ·refine L0 rfl rfl (zJ (Bo y5.2) rfl kk) ?_
   refine L0 rfl rfl (zOQ (b:=y5.2) rfl kk) ?_
   refine L0 rfl rfl (zJ (Bo (!y5.2)) rfl kk) ?_
   refine zBC (!y5.2) (fun hc6=>?_) (fun hc6=>?_)
   ·refine qM _ rfl rfl kk hc6 rfl ?_
    refine qM _ rfl rfl kk hc6 rfl ?_
    refine qM _ rfl rfl kk hc6 rfl ?_
    refine qM _ rfl rfl kk hc6 rfl ?_
    refine qM _ rfl rfl kk hc6 rfl ?_
    refine qM _ rfl rfl kk hc6 rfl ?_
    refine zQ rfl (zB rfl (zA1 (b:=!y5.2) (p:=true) (q:=!eqI ((y2.length:Int)) (w64 (((y5.1.size:Int))+1))) rfl kk hc6 kk)) ?_
    refine zI ?_
    subst ht7
    kernel_rfl
   ·refine zC _ rfl rfl kk hc6 (zB rfl (zJ (.ow 96) rfl kk)) ?_
    refine zC _ rfl rfl kk hc6 (zB rfl (zMj (c:=c9) (xs:=y2) Tryz.underlying49 rfl kk)) ?_
    refine zC _ rfl rfl kk hc6 (zB rfl (zJ (.c (.v (.string y5.1))) rfl kk)) ?_
    refine zC _ rfl rfl kk hc6 (zB rfl (zWe (b:=y5.1) Tryz.underlying9 rfl kk)) ?_
    refine zC _ rfl rfl kk hc6 (zB rfl (zEw (a:=(y5.1.size:Int)) (b:=1) rfl kk kk)) ?_
    refine zC _ rfl rfl kk hc6 (zB rfl (zZW (k:=.i64) (a:=(y2.length:Int)) (b:=w64 (((y5.1.size:Int))+1)) rfl kk kk)) ?_
    refine zQ rfl (zB rfl (zBB (b:=!y5.2) (p:=true) (q:=!eqI ((y2.length:Int)) (w64 (((y5.1.size:Int))+1))) rfl kk hc6 kk)) ?_
    refine zI ?_
    subst ht7
    kernel_rfl
  refine zDO rfl (fun hc8=>?_) (fun hc8=>?_)
  ·have h:=zBy h hc8;refine qZ (mb 77 12) [16] (s1:=⟨.bot::.bot::.pt 16 0::Bo false::bt 73 [],[(16,.box [.v (.string ByteArray.empty),.v (.slice none 0 0),Ti 0,Ti 0,Ti 0,Ti 0])]⟩) ?_ ?_
   ·refine L0 rfl rfl (zGa (cs:=[.v (.string ByteArray.empty),.v (.slice none 0 0),Ti 0,Ti 0,Ti 0,Ti 0]) zUS zYI rfl rfl kk) ?_
    refine zQ rfl (zEy (id:=16) (off:=0) (cs:=[.v (.string ByteArray.empty),.v (.slice none 0 0),Ti 0,Ti 0,Ti 0,Ti 0]) (vc:=[.v (.string ByteArray.empty),.v (.slice none 0 0),Ti 0,Ti 0,Ti 0,Ti 0]) [.v (.string ByteArray.empty),.v (.slice none 0 0),Ti 0,Ti 0,Ti 0,Ti 0] rfl rfl kk kk kk zUO (Nat.le_of_ble_eq_true rfl) kk) ?_
    refine L0 rfl rfl (zF (Bo false) rfl kk) ?_
    refine zI ?_
    kernel_rfl
   refine zQT 16 1 (cs:=[.v (.string ByteArray.empty),.v (.slice none 0 0),Ti 0,Ti 0,Ti 0,Ti 0]) (s1:=⟨.bot::.bot::.pt 16 0::Bo false::bt 73 [],[(16,.box [.v (.string ByteArray.empty),.sl ((([]:List Int)).map c3),Ti 0,Ti 0,Ti 0,Ti 0])]⟩) kk kk kk ?_
   refine zE2 ?_
   obtain rfl:=zU h;show Post _ _ _ _ _;exact⟨.inr rfl,rfl,rfl,rfl⟩
  ·have h:=zBR h hc8;refine zEx ?_
   show V _ _ _ _;refine zDI ?_
   obtain⟨u9,hu9,h⟩:=zV h;obtain⟨t10,ht10,h⟩:=zO9 h;refine qZ (mb 77 240518168676) [40,16] (s1:=⟨.bot::.bot::.pt 16 0::.bot::.bot::.pt 40 0::.c (.v (.string y5.1))::bt 28 (.c (.sl ((subl y2 1 ((y2.length:Int))).map c9))::I t10::I 0::bt 39 []),[(40,.box [.v (.string e4),.v (.slice none 0 0),Ti 0,Ti 0,Ti 0,Ti 0]),(16,.box [.v (.string ByteArray.empty),.v (.slice none 0 0),Ti 0,Ti 0,Ti 0,Ti 0])]⟩) ?_ ?_
   ·refine L0 rfl rfl (zJ (.ow 96) rfl kk) ?_
    refine zUo 96 (T:=9) (sz:=1) (els:=y2.map c9) (s1:=⟨.bot::.bot::.pt 16 0::.bot::.c (.sl (y2.map c9))::.pt 40 0::.c (.v (.string y5.1))::bt 25 (Bo t7::.bot::.c (.sl (y2.map c9))::bt 42 []),[(40,.box [.v (.string e4),.v (.slice none 0 0),Ti 0,Ti 0,Ti 0,Ti 0]),(16,.box [.v (.string ByteArray.empty),.v (.slice none 0 0),Ti 0,Ti 0,Ti 0,Ti 0])]⟩) kk kk ?_
    refine L0 rfl rfl (zYM (c:=c9) (xs:=y2) (l:=1) (h:=(y2.length:Int)) Tryz.underlying49 sz9 (fun _=>rfl) rfl kk (fun y hy=>by cases hy;exact⟨.i64,kk⟩) (fun hh=>by cases hh) (fun y hy=>by cases hy) (fun _=>rfl) (zIe hu9)) ?_
    refine L0 rfl rfl (zMj (c:=c9) (xs:=subl y2 1 ((y2.length:Int))) Tryz.underlying49 rfl kk) ?_
    refine L0 rfl rfl (zJ (I 0) rfl kk) ?_
    refine zI ?_
    subst ht10
    kernel_rfl
   refine z3w 42 3 1 kk (by decide) ?_
   refine V_gen (fun γ:Nat→Loc=>⟨.bot::.bot::.pt 16 0::.bot::.bot::.pt 40 0::.c (.v (.string y5.1))::bt 28 (.c (.sl ((subl y2 1 ((y2.length:Int))).map c9))::I t10::I 0::bt 39 []),[(42,.qarr (γ 42) 3 1 ((([]:List Int)).map c3)),(40,.box [.v (.string e4),.v (zE (γ 42)),Ti 0,Ti 0,Ti 0,Ti 0]),(16,.box [.v (.string ByteArray.empty),.v (.slice none 0 0),Ti 0,Ti 0,Ti 0,Ti 0])]⟩) (fun _=>loc0) kk fun γ=>?_
   obtain⟨qo18,hLo18,hko18⟩:=zV h;refine z7Z (q:=qo18) (S:=fun o18 (γ:Nat→Loc)=>⟨.bot::.bot::.pt 16 0::.bot::.bot::.pt 40 0::bt 71 [],[(42,.qarr (γ 42) 3 1 (o18.1.map c3)),(40,.box [.v (.string e4),.v (zE (γ 42)),Ti o18.2.1,Ti o18.2.2.1,Ti o18.2.2.2.1,Ti o18.2.2.2.2]),(16,.box [.v (.string ByteArray.empty),.v (.slice none 0 0),Ti 0,Ti 0,Ti 0,Ti 0])]⟩) (mb 77 36) [42,40,16] ?_ ?_
   ·refine zDq (zS0 (fun n s=>∃(t11:Int) (l12:List Int) (f13:Int) (f14:Int) (f15:Int) (f16:Int),∃γ:Nat→Loc,s.keep (mb 77 240518168676) [42,40,16]=(⟨.bot::.bot::.pt 16 0::.bot::.bot::.pt 40 0::.c (.v (.string y5.1))::bt 28 (.c (.sl ((subl y2 1 ((y2.length:Int))).map c9))::I t10::I t11::bt 39 []),[(42,.qarr (γ 42) 3 1 (l12.map c3)),(40,.box [.v (.string e4),.v (zE (γ 42)),Ti f13,Ti f14,Ti f15,Ti f16]),(16,.box [.v (.string ByteArray.empty),.v (.slice none 0 0),Ti 0,Ti 0,Ti 0,Ti 0])]⟩:St)∧qV e4 t10 y2 y5 n t11 l12 f13 f14 f15 f16=some qo18) FU ⟨_,_,_,_,_,_,γ,by rfl,hLo18⟩ ?_);clear hLo18;rintro n s ⟨t11,l12,f13,f14,f15,f16,γ,hs,h⟩;refine zZ0 _ _ hs ?_
    clear hs;cases n with
    |zero=>cases h
    |succ n=>
     rw[qV]at h;refine zDp (fun γ:Nat→Loc=>⟨.bot::.bot::.pt 16 0::.bot::.bot::.pt 40 0::.c (.v (.string y5.1))::bt 28 (.c (.sl ((subl y2 1 ((y2.length:Int))).map c9))::I t10::I t11::Bo (ltI t11 t10)::bt 38 []),[(42,.qarr (γ 42) 3 1 (l12.map c3)),(40,.box [.v (.string e4),.v (zE (γ 42)),Ti f13,Ti f14,Ti f15,Ti f16]),(16,.box [.v (.string ByteArray.empty),.v (.slice none 0 0),Ti 0,Ti 0,Ti 0,Ti 0])]⟩) (mb 77 515396075620) [42,40,16] ?_ ?_
     ·refine L0 rfl rfl (zG9 (k:=.i64) (a:=t11) (b:=t10) rfl kk kk) ?_
      refine zI ?_
      exact⟨γ,by kernel_rfl⟩
     intro γ;refine zDI ?_
     refine zDO rfl (fun hc19=>?_) (fun hc19=>?_)
     ·have h:=zBy h hc19;refine zEx ?_
      show V _ _ _ _;refine zDI ?_
      refine zDq ?_
      obtain⟨e20,he20,h⟩:=zV h;refine zDp (fun γ:Nat→Loc=>⟨.bot::.bot::.pt 16 0::.bot::.bot::.pt 40 0::.c (.v (.string y5.1))::.bot::I t11::.c (.v (.string e20))::bt 25 (.c (.sl ((subl y2 1 ((y2.length:Int))).map c9))::I t10::I t11::bt 39 []),[(42,.qarr (γ 42) 3 1 (l12.map c3)),(40,.box [.v (.string e4),.v (zE (γ 42)),Ti f13,Ti f14,Ti f15,Ti f16]),(16,.box [.v (.string ByteArray.empty),.v (.slice none 0 0),Ti 0,Ti 0,Ti 0,Ti 0])]⟩) (mb 77 240518169444) [42,40,16] ?_ ?_
      ·refine L0 rfl rfl (zJ (I t11) rfl kk) ?_
       refine L0 rfl rfl (zWg (c:=c9) (xs:=subl y2 1 ((y2.length:Int))) (v:=e20) (n:=t11) Tryz.underlying49 sz9 rfl kk kk he20) ?_
       refine L0 rfl rfl (jR (c:=.v (.string e20)) (cs:=[]) sc9 rfl kk) ?_
       refine L0 rfl rfl (zF (I t11) rfl kk) ?_
       refine L0 rfl rfl (zF (.c (.v (.string e20))) rfl kk) ?_
       refine zI ?_
       exact⟨γ,by kernel_rfl⟩
      intro γ;refine zDI ?_
      obtain⟨e21,he21,h⟩:=zV h;refine zDp (fun γ:Nat→Loc=>⟨.bot::.bot::.pt 16 0::.bot::.bot::.pt 40 0::.c (.v (.string y5.1))::.bot::.bot::.c (.v (.string e20))::bt 25 (.c (.sl ((subl y2 1 ((y2.length:Int))).map c9))::I t10::I t11::bt 6 (.c (.v (.int .u8 e21))::bt 32 [])),[(42,.qarr (γ 42) 3 1 (l12.map c3)),(40,.box [.v (.string e4),.v (zE (γ 42)),Ti f13,Ti f14,Ti f15,Ti f16]),(16,.box [.v (.string ByteArray.empty),.v (.slice none 0 0),Ti 0,Ti 0,Ti 0,Ti 0])]⟩) (mb 77 17832704213604) [42,40,16] ?_ ?_
      ·refine L0 rfl rfl (zJ (.c (.v (.string y5.1))) rfl kk) ?_
       refine L0 rfl rfl (zJ (I t11) rfl kk) ?_
       refine L0 rfl rfl (zWf (b:=y5.1) (k:=.i64) (n:=t11) (v:=e21) Tryz.underlying9 rfl kk kk he21) ?_
       refine zI ?_
       exact⟨γ,by kernel_rfl⟩
      intro γ;refine zDq ?_
      refine zDp (fun γ:Nat→Loc=>⟨.bot::.bot::.pt 16 0::.bot::.bot::.pt 40 0::.c (.v (.string y5.1))::.bot::.bot::.c (.v (.string e20))::bt 25 (.c (.sl ((subl y2 1 ((y2.length:Int))).map c9))::I t10::I t11::bt 6 (.c (.v (.int .u8 e21))::bt 6 (Bo (eqI e21 65)::bt 25 []))),[(42,.qarr (γ 42) 3 1 (l12.map c3)),(40,.box [.v (.string e4),.v (zE (γ 42)),Ti f13,Ti f14,Ti f15,Ti f16]),(16,.box [.v (.string ByteArray.empty),.v (.slice none 0 0),Ti 0,Ti 0,Ti 0,Ti 0])]⟩) (mb 77 2269632517898852) [42,40,16] ?_ ?_
      ·refine L0 rfl rfl (zIG (k:=.u8) (a:=e21) (b:=65) rfl kk kk) ?_
       refine L0 rfl rfl (zF (Bo (eqI e21 65)) rfl kk) ?_
       refine zI ?_
       exact⟨γ,by kernel_rfl⟩
      intro γ;refine zDO rfl (fun hc22=>?_) (fun hc22=>?_)
      ·have h:=zBy h hc22;refine zDp (fun γ:Nat→Loc=>⟨.bot::.bot::.pt 16 0::.bot::.bot::.pt 40 0::.c (.v (.string y5.1))::.bot::.bot::.c (.v (.string e20))::bt 25 (.c (.sl ((subl y2 1 ((y2.length:Int))).map c9))::I t10::I t11::bt 39 []),[(42,.qarr (γ 42) 3 1 (l12.map c3)),(40,.box [.v (.string e4),.v (zE (γ 42)),Ti f13,Ti f14,Ti f15,Ti f16]),(16,.box [.v (.string ByteArray.empty),.v (.slice none 0 0),Ti 0,Ti 0,Ti 0,Ti 0])]⟩) (mb 77 240518169188) [42,40,16] ?_ ?_
       ·refine L0 rfl rfl (zF (I 0) rfl kk) ?_
        refine zI ?_
        exact⟨γ,by kernel_rfl⟩
       intro γ;obtain⟨y23,hy23,h⟩:=zV h;refine zDp (fun γ:Nat→Loc=>⟨.bot::.bot::.pt 16 0::.bot::.bot::.pt 40 0::.c (.v (.string y5.1))::Bo y23.2::.bot::.bot::I y23.1::bt 24 (.c (.sl ((subl y2 1 ((y2.length:Int))).map c9))::I t10::I t11::bt 39 []),[(42,.qarr (γ 42) 3 1 (l12.map c3)),(40,.box [.v (.string e4),.v (zE (γ 42)),Ti f13,Ti f14,Ti f15,Ti f16]),(16,.box [.v (.string ByteArray.empty),.v (.slice none 0 0),Ti 0,Ti 0,Ti 0,Ti 0])]⟩) (mb 77 240518169828) [42,40,16] ?_ ?_
       ·refine L0 rfl rfl (zJ (.c (.v (.string e20))) rfl kk) ?_
        refine L1 rfl rfl (zCA (zT6 hy23) zSM rfl kk) ?_
        refine L0 rfl rfl (zJ (.tc (I y23.1) (.tc (Bo y23.2) .tn)) rfl kk) ?_
        refine L0 rfl rfl (zGd (n:=0) (I y23.1) (.tc (Bo y23.2) .tn) (I y23.1) rfl kk kk (by intro hh;cases hh)) ?_
        refine L0 rfl rfl (zGd (n:=1) (I y23.1) (.tc (Bo y23.2) .tn) (Bo y23.2) rfl kk kk (by intro hh;cases hh)) ?_
        refine L0 rfl rfl (zF (I y23.1) rfl kk) ?_
        refine L0 rfl rfl (zF (Bo y23.2) rfl kk) ?_
        refine zI ?_
        exact⟨γ,by kernel_rfl⟩
       intro γ;obtain⟨u24,hu24,h⟩:=zV h;refine zLX (fun γ:Nat→Loc=>⟨.bot::.bot::.pt 16 0::.bot::.bot::.pt 40 0::.c (.v (.string y5.1))::Bo y23.2::bt 27 (.c (.sl ((subl y2 1 ((y2.length:Int))).map c9))::I t10::I t11::bt 39 []),[(42,.qarr (γ 42) 3 1 ((l12++([y23.1])).map c3)),(40,.box [.v (.string e4),.v (zE (γ 42)),Ti f13,Ti f14,Ti f15,Ti f16]),(16,.box [.v (.string ByteArray.empty),.v (.slice none 0 0),Ti 0,Ti 0,Ti 0,Ti 0])]⟩) (mb 77 240518168804) [42,40,16] ?_ ?_
       ·refine L0 rfl rfl (zAJ (.pt 40 1) Tryz.underlying111 rfl sz37 rfl kk (by intro hh;cases hh)) ?_
        refine L0 rfl rfl (jR (c:=.v (zE (γ 42))) (cs:=[Ti f13,Ti f14,Ti f15,Ti f16]) sc37 rfl kk) ?_
        refine L0 rfl rfl (zJ (I y23.1) rfl kk) ?_
        refine L1 rfl rfl (zGO (z:=zv3) (els:=[y23.1].map c3) Tryz.underlying37 iz3 rfl (by decide) rfl kk rfl (by simp[c3]) (by decide) (by decide)) ?_
        refine z1P 59 42 (l:=γ 42) (T:=3) (sz:=1) (els:=l12.map c3) kk kk ?_
        refine zQ rfl (zOT (c:=c3) (xs:=l12) (ys:=[y23.1]) (id:=42) (z:=zv3) rfl rfl Tryz.underlying37 izb3 rfl kk kk kk (fun _=>rfl) (by simp) (zJ2 hu24) (by decide)) ?_
        refine L0 rfl rfl (zAJ (.pt 40 1) Tryz.underlying111 rfl sz37 rfl kk (by intro hh;cases hh)) ?_
        refine z5I 62 42 (T:=3) (sz:=1) (els:=(l12++([y23.1])).map c3) kk kk fun lq1=>?_
        refine zQ rfl (zEy (id:=40) (off:=1) (cs:=[.v (.string e4),.v (zE (γ 42)),Ti f13,Ti f14,Ti f15,Ti f16]) (vc:=[.v (zE (lq1))]) [.v (.string e4),.v (zE (lq1)),Ti f13,Ti f14,Ti f15,Ti f16] rfl rfl kk kk kk sz37 (Nat.le_of_ble_eq_true rfl) kk) ?_
        refine zI ?_
        exact⟨(fun i=>if i=42 then lq1 else γ i),by kernel_rfl⟩
       intro γ;show V _ _ _ _;refine zDp (fun γ:Nat→Loc=>⟨.bot::.bot::.pt 16 0::.bot::.bot::.pt 40 0::.c (.v (.string y5.1))::bt 28 (.c (.sl ((subl y2 1 ((y2.length:Int))).map c9))::I t10::I t11::bt 35 (Bo (!y23.2)::bt 3 [])),[(42,.qarr (γ 42) 3 1 ((l12++([y23.1])).map c3)),(40,.box [.v (.string e4),.v (zE (γ 42)),Ti f13,Ti f14,Ti f15,Ti f16]),(16,.box [.v (.string ByteArray.empty),.v (.slice none 0 0),Ti 0,Ti 0,Ti 0,Ti 0])]⟩) (mb 77 9444732965979808596068) [42,40,16] ?_ ?_
       ·refine L0 rfl rfl (zJ (Bo y23.2) rfl kk) ?_
        refine L0 rfl rfl (zOQ (b:=y23.2) rfl kk) ?_
        refine zI ?_
        exact⟨γ,by kernel_rfl⟩
       intro γ;refine zDO rfl (fun hc25=>?_) (fun hc25=>?_)
       ·have h:=zBy h hc25;refine zDp (fun γ:Nat→Loc=>⟨.bot::.bot::.pt 16 0::Bo false::bt 73 [],[(42,.qarr (γ 42) 3 1 ((l12++([y23.1])).map c3)),(16,.box [.v (.string ByteArray.empty),.v (.slice none 0 0),Ti 0,Ti 0,Ti 0,Ti 0])]⟩) (mb 77 12) [42,16] ?_ ?_
        ·refine L0 rfl rfl (zGa (cs:=[.v (.string ByteArray.empty),.v (.slice none 0 0),Ti 0,Ti 0,Ti 0,Ti 0]) zUS zYI rfl rfl kk) ?_
         refine zQ rfl (zEy (id:=16) (off:=0) (cs:=[.v (.string ByteArray.empty),.v (.slice none 0 0),Ti 0,Ti 0,Ti 0,Ti 0]) (vc:=[.v (.string ByteArray.empty),.v (.slice none 0 0),Ti 0,Ti 0,Ti 0,Ti 0]) [.v (.string ByteArray.empty),.v (.slice none 0 0),Ti 0,Ti 0,Ti 0,Ti 0] rfl rfl kk kk kk zUO (Nat.le_of_ble_eq_true rfl) kk) ?_
         refine L0 rfl rfl (zF (Bo false) rfl kk) ?_
         refine zI ?_
         exact⟨γ,by kernel_rfl⟩
        intro γ;refine zQT 16 1 (cs:=[.v (.string ByteArray.empty),.v (.slice none 0 0),Ti 0,Ti 0,Ti 0,Ti 0]) (s1:=⟨.bot::.bot::.pt 16 0::Bo false::bt 73 [],[(42,.qarr (γ 42) 3 1 ((l12++([y23.1])).map c3)),(16,.box [.v (.string ByteArray.empty),.sl ((([]:List Int)).map c3),Ti 0,Ti 0,Ti 0,Ti 0])]⟩) kk kk kk ?_
        refine zE2 ?_
        obtain rfl:=zU h;have h:=hko18;obtain rfl:=zU h;show Post _ _ _ _ _;exact⟨.inr rfl,rfl,rfl,rfl⟩
       ·have h:=zBR h hc25;refine zEx ?_
        show V _ _ _ _;obtain⟨t26,ht26,h⟩:=zO9 h;refine zLX (fun γ:Nat→Loc=>⟨.bot::.bot::.pt 16 0::.bot::.bot::.pt 40 0::.c (.v (.string y5.1))::bt 28 (.c (.sl ((subl y2 1 ((y2.length:Int))).map c9))::I t10::I t26::bt 39 []),[(42,.qarr (γ 42) 3 1 ((l12++([y23.1])).map c3)),(40,.box [.v (.string e4),.v (zE (γ 42)),Ti f13,Ti f14,Ti f15,Ti f16]),(16,.box [.v (.string ByteArray.empty),.v (.slice none 0 0),Ti 0,Ti 0,Ti 0,Ti 0])]⟩) (mb 77 240518168676) [42,40,16] ?_ ?_
        ·refine L0 rfl rfl (zEw (a:=t11) (b:=1) rfl kk kk) ?_
         refine L0 rfl rfl (zJ (I (w64 (t11+1))) rfl kk) ?_
         refine zI ?_
         subst ht26;exact⟨γ,by kernel_rfl⟩
        intro γ;exact⟨n,Nat.lt_succ_self n,_,_,_,_,_,_,γ,by rfl,h⟩
      ·have h:=zBR h hc22;refine zDp (fun γ:Nat→Loc=>⟨.bot::.bot::.pt 16 0::.bot::.bot::.pt 40 0::.c (.v (.string y5.1))::.bot::.bot::.c (.v (.string e20))::bt 25 (.c (.sl ((subl y2 1 ((y2.length:Int))).map c9))::I t10::I t11::bt 26 (Bo (eqI e21 102)::bt 12 [])),[(42,.qarr (γ 42) 3 1 (l12.map c3)),(40,.box [.v (.string e4),.v (zE (γ 42)),Ti f13,Ti f14,Ti f15,Ti f16]),(16,.box [.v (.string ByteArray.empty),.v (.slice none 0 0),Ti 0,Ti 0,Ti 0,Ti 0])]⟩) (mb 77 18446744314227720804) [42,40,16] ?_ ?_
       ·refine L0 rfl rfl (zIG (k:=.u8) (a:=e21) (b:=102) rfl kk kk) ?_
        refine L0 rfl rfl (zF (Bo (eqI e21 102)) rfl kk) ?_
        refine zI ?_
        exact⟨γ,by kernel_rfl⟩
       intro γ;refine zDO rfl (fun hc27=>?_) (fun hc27=>?_)
       ·have h:=zBy h hc27;obtain⟨y28,hy28,h⟩:=zV h;refine zLX (fun γ:Nat→Loc=>⟨.bot::.bot::.pt 16 0::.bot::.bot::.pt 40 0::.c (.v (.string y5.1))::Bo y28.2::bt 27 (.c (.sl ((subl y2 1 ((y2.length:Int))).map c9))::I t10::I t11::bt 39 []),[(42,.qarr (γ 42) 3 1 (l12.map c3)),(40,.box [.v (.string e4),.v (zE (γ 42)),Ti y28.1.1,Ti y28.1.2.1,Ti y28.1.2.2,Ti f16]),(16,.box [.v (.string ByteArray.empty),.v (.slice none 0 0),Ti 0,Ti 0,Ti 0,Ti 0])]⟩) (mb 77 240518168804) [42,40,16] ?_ ?_
        ·refine L0 rfl rfl (zJ (.c (.v (.string e20))) rfl kk) ?_
         refine L1 rfl rfl (zCA (zNa hy28) zMe rfl kk) ?_
         refine L0 rfl rfl (zJ (.tc (.ag [Ti y28.1.1,Ti y28.1.2.1,Ti y28.1.2.2]) (.tc (Bo y28.2) .tn)) rfl kk) ?_
         refine L0 rfl rfl (zGd (n:=0) (.ag [Ti y28.1.1,Ti y28.1.2.1,Ti y28.1.2.2]) (.tc (Bo y28.2) .tn) (.ag [Ti y28.1.1,Ti y28.1.2.1,Ti y28.1.2.2]) rfl kk kk (by intro hh;cases hh)) ?_
         refine L0 rfl rfl (zGd (n:=1) (.ag [Ti y28.1.1,Ti y28.1.2.1,Ti y28.1.2.2]) (.tc (Bo y28.2) .tn) (Bo y28.2) rfl kk kk (by intro hh;cases hh)) ?_
         refine L0 rfl rfl (zAJ (.pt 40 2) Tryz.underlying111 rfl sz42 rfl kk (by intro hh;cases hh)) ?_
         refine zQ rfl (zEy (id:=40) (off:=2) (cs:=[.v (.string e4),.v (zE (γ 42)),Ti f13,Ti f14,Ti f15,Ti f16]) (vc:=[Ti y28.1.1,Ti y28.1.2.1,Ti y28.1.2.2]) [.v (.string e4),.v (zE (γ 42)),Ti y28.1.1,Ti y28.1.2.1,Ti y28.1.2.2,Ti f16] rfl rfl kk kk kk sz42 (Nat.le_of_ble_eq_true rfl) kk) ?_
         refine L0 rfl rfl (zF (Bo y28.2) rfl kk) ?_
         refine zI ?_
         exact⟨γ,by kernel_rfl⟩
        intro γ;show V _ _ _ _;refine zDp (fun γ:Nat→Loc=>⟨.bot::.bot::.pt 16 0::.bot::.bot::.pt 40 0::.c (.v (.string y5.1))::bt 28 (.c (.sl ((subl y2 1 ((y2.length:Int))).map c9))::I t10::I t11::bt 35 (Bo (!y28.2)::bt 3 [])),[(42,.qarr (γ 42) 3 1 (l12.map c3)),(40,.box [.v (.string e4),.v (zE (γ 42)),Ti y28.1.1,Ti y28.1.2.1,Ti y28.1.2.2,Ti f16]),(16,.box [.v (.string ByteArray.empty),.v (.slice none 0 0),Ti 0,Ti 0,Ti 0,Ti 0])]⟩) (mb 77 9444732965979808596068) [42,40,16] ?_ ?_
        ·refine L0 rfl rfl (zJ (Bo y28.2) rfl kk) ?_
         refine L0 rfl rfl (zOQ (b:=y28.2) rfl kk) ?_
         refine zI ?_
         exact⟨γ,by kernel_rfl⟩
        intro γ;refine zDO rfl (fun hc29=>?_) (fun hc29=>?_)
        ·have h:=zBy h hc29;refine zDp (fun γ:Nat→Loc=>⟨.bot::.bot::.pt 16 0::Bo false::bt 73 [],[(42,.qarr (γ 42) 3 1 (l12.map c3)),(16,.box [.v (.string ByteArray.empty),.v (.slice none 0 0),Ti 0,Ti 0,Ti 0,Ti 0])]⟩) (mb 77 12) [42,16] ?_ ?_
         ·refine L0 rfl rfl (zGa (cs:=[.v (.string ByteArray.empty),.v (.slice none 0 0),Ti 0,Ti 0,Ti 0,Ti 0]) zUS zYI rfl rfl kk) ?_
          refine zQ rfl (zEy (id:=16) (off:=0) (cs:=[.v (.string ByteArray.empty),.v (.slice none 0 0),Ti 0,Ti 0,Ti 0,Ti 0]) (vc:=[.v (.string ByteArray.empty),.v (.slice none 0 0),Ti 0,Ti 0,Ti 0,Ti 0]) [.v (.string ByteArray.empty),.v (.slice none 0 0),Ti 0,Ti 0,Ti 0,Ti 0] rfl rfl kk kk kk zUO (Nat.le_of_ble_eq_true rfl) kk) ?_
          refine L0 rfl rfl (zF (Bo false) rfl kk) ?_
          refine zI ?_
          exact⟨γ,by kernel_rfl⟩
         intro γ;refine zQT 16 1 (cs:=[.v (.string ByteArray.empty),.v (.slice none 0 0),Ti 0,Ti 0,Ti 0,Ti 0]) (s1:=⟨.bot::.bot::.pt 16 0::Bo false::bt 73 [],[(42,.qarr (γ 42) 3 1 (l12.map c3)),(16,.box [.v (.string ByteArray.empty),.sl ((([]:List Int)).map c3),Ti 0,Ti 0,Ti 0,Ti 0])]⟩) kk kk kk ?_
         refine zE2 ?_
         obtain rfl:=zU h;have h:=hko18;obtain rfl:=zU h;show Post _ _ _ _ _;exact⟨.inr rfl,rfl,rfl,rfl⟩
        ·have h:=zBR h hc29;refine zEx ?_
         show V _ _ _ _;obtain⟨t30,ht30,h⟩:=zO9 h;refine zLX (fun γ:Nat→Loc=>⟨.bot::.bot::.pt 16 0::.bot::.bot::.pt 40 0::.c (.v (.string y5.1))::bt 28 (.c (.sl ((subl y2 1 ((y2.length:Int))).map c9))::I t10::I t30::bt 39 []),[(42,.qarr (γ 42) 3 1 (l12.map c3)),(40,.box [.v (.string e4),.v (zE (γ 42)),Ti y28.1.1,Ti y28.1.2.1,Ti y28.1.2.2,Ti f16]),(16,.box [.v (.string ByteArray.empty),.v (.slice none 0 0),Ti 0,Ti 0,Ti 0,Ti 0])]⟩) (mb 77 240518168676) [42,40,16] ?_ ?_
         ·refine L0 rfl rfl (zEw (a:=t11) (b:=1) rfl kk kk) ?_
          refine L0 rfl rfl (zJ (I (w64 (t11+1))) rfl kk) ?_
          refine zI ?_
          subst ht30;exact⟨γ,by kernel_rfl⟩
         intro γ;exact⟨n,Nat.lt_succ_self n,_,_,_,_,_,_,γ,by rfl,h⟩
       ·have h:=zBR h hc27;obtain⟨y31,hy31,h⟩:=zV h;refine zLX (fun γ:Nat→Loc=>⟨.bot::.bot::.pt 16 0::.bot::.bot::.pt 40 0::.c (.v (.string y5.1))::Bo y31.2::bt 27 (.c (.sl ((subl y2 1 ((y2.length:Int))).map c9))::I t10::I t11::bt 39 []),[(42,.qarr (γ 42) 3 1 (l12.map c3)),(40,.box [.v (.string e4),.v (zE (γ 42)),Ti f13,Ti f14,Ti f15,Ti y31.1]),(16,.box [.v (.string ByteArray.empty),.v (.slice none 0 0),Ti 0,Ti 0,Ti 0,Ti 0])]⟩) (mb 77 240518168804) [42,40,16] ?_ ?_
        ·refine L0 rfl rfl (zJ (.c (.v (.string e20))) rfl kk) ?_
         refine L1 rfl rfl (zCA (zPR hy31) zOG rfl kk) ?_
         refine L0 rfl rfl (zJ (.tc (I y31.1) (.tc (Bo y31.2) .tn)) rfl kk) ?_
         refine L0 rfl rfl (zGd (n:=0) (I y31.1) (.tc (Bo y31.2) .tn) (I y31.1) rfl kk kk (by intro hh;cases hh)) ?_
         refine L0 rfl rfl (zGd (n:=1) (I y31.1) (.tc (Bo y31.2) .tn) (Bo y31.2) rfl kk kk (by intro hh;cases hh)) ?_
         refine L0 rfl rfl (zAJ (.pt 40 5) Tryz.underlying111 rfl sz3 rfl kk (by intro hh;cases hh)) ?_
         refine zQ rfl (zEy (id:=40) (off:=5) (cs:=[.v (.string e4),.v (zE (γ 42)),Ti f13,Ti f14,Ti f15,Ti f16]) (vc:=[Ti y31.1]) [.v (.string e4),.v (zE (γ 42)),Ti f13,Ti f14,Ti f15,Ti y31.1] rfl rfl kk kk kk sz3 (Nat.le_of_ble_eq_true rfl) kk) ?_
         refine L0 rfl rfl (zF (Bo y31.2) rfl kk) ?_
         refine zI ?_
         exact⟨γ,by kernel_rfl⟩
        intro γ;show V _ _ _ _;refine zDp (fun γ:Nat→Loc=>⟨.bot::.bot::.pt 16 0::.bot::.bot::.pt 40 0::.c (.v (.string y5.1))::bt 28 (.c (.sl ((subl y2 1 ((y2.length:Int))).map c9))::I t10::I t11::bt 35 (Bo (!y31.2)::bt 3 [])),[(42,.qarr (γ 42) 3 1 (l12.map c3)),(40,.box [.v (.string e4),.v (zE (γ 42)),Ti f13,Ti f14,Ti f15,Ti y31.1]),(16,.box [.v (.string ByteArray.empty),.v (.slice none 0 0),Ti 0,Ti 0,Ti 0,Ti 0])]⟩) (mb 77 9444732965979808596068) [42,40,16] ?_ ?_
        ·refine L0 rfl rfl (zJ (Bo y31.2) rfl kk) ?_
         refine L0 rfl rfl (zOQ (b:=y31.2) rfl kk) ?_
         refine zI ?_
         exact⟨γ,by kernel_rfl⟩
        intro γ;refine zDO rfl (fun hc32=>?_) (fun hc32=>?_)
        ·have h:=zBy h hc32;refine zDp (fun γ:Nat→Loc=>⟨.bot::.bot::.pt 16 0::Bo false::bt 73 [],[(42,.qarr (γ 42) 3 1 (l12.map c3)),(16,.box [.v (.string ByteArray.empty),.v (.slice none 0 0),Ti 0,Ti 0,Ti 0,Ti 0])]⟩) (mb 77 12) [42,16] ?_ ?_
         ·refine L0 rfl rfl (zGa (cs:=[.v (.string ByteArray.empty),.v (.slice none 0 0),Ti 0,Ti 0,Ti 0,Ti 0]) zUS zYI rfl rfl kk) ?_
          refine zQ rfl (zEy (id:=16) (off:=0) (cs:=[.v (.string ByteArray.empty),.v (.slice none 0 0),Ti 0,Ti 0,Ti 0,Ti 0]) (vc:=[.v (.string ByteArray.empty),.v (.slice none 0 0),Ti 0,Ti 0,Ti 0,Ti 0]) [.v (.string ByteArray.empty),.v (.slice none 0 0),Ti 0,Ti 0,Ti 0,Ti 0] rfl rfl kk kk kk zUO (Nat.le_of_ble_eq_true rfl) kk) ?_
          refine L0 rfl rfl (zF (Bo false) rfl kk) ?_
          refine zI ?_
          exact⟨γ,by kernel_rfl⟩
         intro γ;refine zQT 16 1 (cs:=[.v (.string ByteArray.empty),.v (.slice none 0 0),Ti 0,Ti 0,Ti 0,Ti 0]) (s1:=⟨.bot::.bot::.pt 16 0::Bo false::bt 73 [],[(42,.qarr (γ 42) 3 1 (l12.map c3)),(16,.box [.v (.string ByteArray.empty),.sl ((([]:List Int)).map c3),Ti 0,Ti 0,Ti 0,Ti 0])]⟩) kk kk kk ?_
         refine zE2 ?_
         obtain rfl:=zU h;have h:=hko18;obtain rfl:=zU h;show Post _ _ _ _ _;exact⟨.inr rfl,rfl,rfl,rfl⟩
        ·have h:=zBR h hc32;refine zEx ?_
         show V _ _ _ _;obtain⟨t33,ht33,h⟩:=zO9 h;refine zLX (fun γ:Nat→Loc=>⟨.bot::.bot::.pt 16 0::.bot::.bot::.pt 40 0::.c (.v (.string y5.1))::bt 28 (.c (.sl ((subl y2 1 ((y2.length:Int))).map c9))::I t10::I t33::bt 39 []),[(42,.qarr (γ 42) 3 1 (l12.map c3)),(40,.box [.v (.string e4),.v (zE (γ 42)),Ti f13,Ti f14,Ti f15,Ti y31.1]),(16,.box [.v (.string ByteArray.empty),.v (.slice none 0 0),Ti 0,Ti 0,Ti 0,Ti 0])]⟩) (mb 77 240518168676) [42,40,16] ?_ ?_
         ·refine L0 rfl rfl (zEw (a:=t11) (b:=1) rfl kk kk) ?_
          refine L0 rfl rfl (zJ (I (w64 (t11+1))) rfl kk) ?_
          refine zI ?_
          subst ht33;exact⟨γ,by kernel_rfl⟩
         intro γ;exact⟨n,Nat.lt_succ_self n,_,_,_,_,_,_,γ,by rfl,h⟩
     ·have h:=zBR h hc19;refine zWj ?_
      obtain rfl:=zU h;exact⟨_,rfl,γ,by rfl⟩
   rintro o18 rfl γ;have h:=hko18;clear hko18;show V _ _ _ _;refine z73 42 40 1 (l:=γ 42) (T:=3) (sz:=1) (els:=o18.1.map c3) (cs:=[.v (.string e4),.v (zE (γ 42)),Ti o18.2.1,Ti o18.2.2.1,Ti o18.2.2.2.1,Ti o18.2.2.2.2]) (s1:=⟨.bot::.bot::.pt 16 0::.bot::.bot::.pt 40 0::bt 71 [],[(40,.box [.v (.string e4),.sl (o18.1.map c3),Ti o18.2.1,Ti o18.2.2.1,Ti o18.2.2.2.1,Ti o18.2.2.2.2]),(16,.box [.v (.string ByteArray.empty),.v (.slice none 0 0),Ti 0,Ti 0,Ti 0,Ti 0])]⟩) kk kk kk kk ?_
   refine qZ (mb 77 12) [16] (s1:=⟨.bot::.bot::.pt 16 0::Bo true::bt 73 [],[(16,.box [.v (.string e4),.sl (o18.1.map c3),Ti o18.2.1,Ti o18.2.2.1,Ti o18.2.2.2.1,Ti o18.2.2.2.2])]⟩) ?_ ?_
   ·refine L0 rfl rfl (zGv (cs:=[.v (.string e4),.sl (o18.1.map c3),Ti o18.2.1,Ti o18.2.2.1,Ti o18.2.2.2.1,Ti o18.2.2.2.2]) [.v (.string e4),.sl (o18.1.map c3),Ti o18.2.1,Ti o18.2.2.1,Ti o18.2.2.2.1,Ti o18.2.2.2.2] z5T rfl kk (Nat.le_of_ble_eq_true rfl) kk) ?_
    refine zQ rfl (zEy (id:=16) (off:=0) (cs:=[.v (.string ByteArray.empty),.v (.slice none 0 0),Ti 0,Ti 0,Ti 0,Ti 0]) (vc:=[.v (.string e4),.sl (o18.1.map c3),Ti o18.2.1,Ti o18.2.2.1,Ti o18.2.2.2.1,Ti o18.2.2.2.2]) [.v (.string e4),.sl (o18.1.map c3),Ti o18.2.1,Ti o18.2.2.1,Ti o18.2.2.2.1,Ti o18.2.2.2.2] rfl rfl kk kk kk zUO (Nat.le_of_ble_eq_true rfl) kk) ?_
    refine L0 rfl rfl (zF (Bo true) rfl kk) ?_
    refine zI ?_
    kernel_rfl
   refine zE2 ?_
   obtain rfl:=zU h;show Post _ _ _ _ _;exact⟨.inr rfl,rfl,rfl,rfl⟩
def zPz (vs1:ByteArray):=fC zOE (zM vs1) fun _=>zPP
end Go.Proofs.YtahdjphocippeaaGreatDoor
