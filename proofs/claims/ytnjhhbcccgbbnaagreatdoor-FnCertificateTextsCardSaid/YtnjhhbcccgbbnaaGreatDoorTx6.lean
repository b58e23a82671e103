/-
  Rules of walks, plain functions and their laws, part 6.
  Conditions: none.
-/
import Derived.Test.YtnjhhbcccgbbnaaGreatDoorRows
import Derived.Test.YtnjhhbcccgbbnaaGreatDoorTx5
set_option linter.unusedSimpArgs false
set_option linter.unusedVariables false
namespace Go.Proofs.YtnjhhbcccgbbnaaGreatDoor
open Go.RowKit
set_option maxRecDepth 100000
set_option maxHeartbeats 400000
noncomputable section
abbrev τF:=Int×Int×Int
abbrev τM:=Int×Int×Int×Int
theorem CtU{β:Type}(t:T qg β)(k:Nat){f:FuncId}{fn:Func}{c:Code}{args:List AV}{o:Option β}{r:β}(g:β→AV)(hf:Tryz.prog.funcs[f]?=some fn)(hb:fn.body=some c)(hvs:fn.results=[ResultVar.tmp k].toArray)(h:o=some r)
  (hO:OF qg t o c ⟨args++List.replicate (fn.ntmps - args.length) .bot,[]⟩ [.t k] (fun r=>(g r,[]))=(OF qg t o c ⟨args++List.replicate (fn.ntmps - args.length) .bot,[]⟩ [.t k] (fun r=>(g r,[]))).rf:=by kernel_rfl):zH qg f args (g r) []:=
 CtT t (fun r=>(g r,[])) (rs:=[.t k]) (vs:=[.tmp k]) hf hb hvs (.cons rfl FitsL.nil) h hO
@[reducible] def q78 (F:Nat→Int×Int×Int) (tl:List Tr):List Tr:=Ti ((F 0).1)::Ti ((F 0).2.1)::Ti ((F 0).2.2)::Ti ((F 1).1)::Ti ((F 1).2.1)::Ti ((F 1).2.2)::Ti ((F 2).1)::Ti ((F 2).2.1)::Ti ((F 2).2.2)::Ti ((F 3).1)::Ti ((F 3).2.1)::Ti ((F 3).2.2)::Ti ((F 4).1)::Ti ((F 4).2.1)::Ti ((F 4).2.2)::Ti ((F 5).1)::Ti ((F 5).2.1)::Ti ((F 5).2.2)::Ti ((F 6).1)::Ti ((F 6).2.1)::Ti ((F 6).2.2)::Ti ((F 7).1)::Ti ((F 7).2.1)::Ti ((F 7).2.2)::Ti ((F 8).1)::Ti ((F 8).2.1)::Ti ((F 8).2.2)::Ti ((F 9).1)::Ti ((F 9).2.1)::Ti ((F 9).2.2)::Ti ((F 10).1)::Ti ((F 10).2.1)::Ti ((F 10).2.2)::Ti ((F 11).1)::Ti ((F 11).2.1)::Ti ((F 11).2.2)::Ti ((F 12).1)::Ti ((F 12).2.1)::Ti ((F 12).2.2)::Ti ((F 13).1)::Ti ((F 13).2.1)::Ti ((F 13).2.2)::Ti ((F 14).1)::Ti ((F 14).2.1)::Ti ((F 14).2.2)::Ti ((F 15).1)::Ti ((F 15).2.1)::Ti ((F 15).2.2)::Ti ((F 16).1)::Ti ((F 16).2.1)::Ti ((F 16).2.2)::Ti ((F 17).1)::Ti ((F 17).2.1)::Ti ((F 17).2.2)::Ti ((F 18).1)::Ti ((F 18).2.1)::Ti ((F 18).2.2)::Ti ((F 19).1)::Ti ((F 19).2.1)::Ti ((F 19).2.2)::Ti ((F 20).1)::Ti ((F 20).2.1)::Ti ((F 20).2.2)::Ti ((F 21).1)::Ti ((F 21).2.1)::Ti ((F 21).2.2)::Ti ((F 22).1)::Ti ((F 22).2.1)::Ti ((F 22).2.2)::Ti ((F 23).1)::Ti ((F 23).2.1)::Ti ((F 23).2.2)::Ti ((F 24).1)::Ti ((F 24).2.1)::Ti ((F 24).2.2)::Ti ((F 25).1)::Ti ((F 25).2.1)::Ti ((F 25).2.2)::tl
def c5(x:Int):List Tr:=[.v (.int .u8 x)]
def c3(x:Int):List Tr:=[Ti x]
def c25(x:τF):List Tr:=[Ti x.1,Ti x.2.1,Ti x.2.2]
def c9(x:qe):List Tr:=[.v (.string x)]
def c85(x:(Int×Int)):List Tr:=[Ti x.1,Ti x.2]
def c61(x:τM):List Tr:=[Ti x.1,Ti x.2.1,Ti x.2.2.1,Ti x.2.2.2]
def c50(x:List Int):List Tr:=[.sl (x.map c3)]
def ct3:CT Int:=⟨c3,1,fun _=>rfl⟩
def ct5:CT Int:=⟨c5,1,fun _=>rfl⟩
def ct9:CT qe:=⟨c9,1,fun _=>rfl⟩
def ct25:CT τF:=⟨c25,3,fun _=>rfl⟩
def ct50:CT (List Int):=⟨c50,1,fun _=>rfl⟩
def ct61:CT τM:=⟨c61,4,fun _=>rfl⟩
def ct85:CT (Int×Int):=⟨c85,2,fun _=>rfl⟩
def zv3:Value:=.int .i64 0
def zv5:Value:=.int .u8 0
def zv25:Value:=.agg #[.int .i64 0,.int .i64 0,.int .i64 0]
def zv61:Value:=.agg #[.int .i64 0,.int .i64 0,.int .i64 0,.int .i64 0]
theorem iz3:(Tryz.prog.info? 3).map (fun i=>(i.zero,i.size))=some (some zv3,1):=by kernel_rfl
theorem iz5:(Tryz.prog.info? 5).map (fun i=>(i.zero,i.size))=some (some zv5,1):=by kernel_rfl
theorem iz25:(Tryz.prog.info? 25).map (fun i=>(i.zero,i.size))=some (some zv25,3):=by kernel_rfl
theorem iz61:(Tryz.prog.info? 61).map (fun i=>(i.zero,i.size))=some (some zv61,4):=by kernel_rfl
theorem izb3:(Tryz.prog.info? 3).map (fun i=>(i.zero,i.size,i.bytes))=some (some zv3,1,8):=by kernel_rfl
theorem izb25:(Tryz.prog.info? 25).map (fun i=>(i.zero,i.size,i.bytes))=some (some zv25,3,24):=by kernel_rfl
theorem izb61:(Tryz.prog.info? 61).map (fun i=>(i.zero,i.size,i.bytes))=some (some zv61,4,32):=by kernel_rfl
theorem sc3:zPZ qg 3:=⟨_,Tryz.underlying3,rfl⟩
theorem sc9:zPZ qg 9:=⟨_,Tryz.underlying9,rfl⟩
theorem sz3:(Tryz.prog.info? 3).map (·.size)=some 1:=by kernel_rfl
theorem sz9:(Tryz.prog.info? 9).map (·.size)=some 1:=by kernel_rfl
theorem sz25:(Tryz.prog.info? 25).map (·.size)=some 3:=by kernel_rfl
theorem sz61:(Tryz.prog.info? 61).map (·.size)=some 4:=by kernel_rfl
theorem wd25:wide qg 25 3:=⟨⟨_,Tryz.underlying25,rfl⟩,by kernel_rfl⟩
theorem wd61:wide qg 61 4:=⟨⟨_,Tryz.underlying61,rfl⟩,by kernel_rfl⟩
theorem wd75:wide qg 75 4:=⟨⟨_,Tryz.underlying75,rfl⟩,by kernel_rfl⟩
theorem wd97:wide qg 97 2:=⟨⟨_,Tryz.underlying97,rfl⟩,by kernel_rfl⟩
theorem wd106:wide qg 106 3:=⟨⟨_,Tryz.underlying106,rfl⟩,by kernel_rfl⟩
theorem wd141:wide qg 141 12:=⟨⟨_,Tryz.underlying141,rfl⟩,by kernel_rfl⟩
theorem wd173:wide qg 173 9:=⟨⟨_,Tryz.underlying173,rfl⟩,by kernel_rfl⟩
def pl25:Nat→Option (Nat×Nat):=fun i=>(#[(0,1),(1,1),(2,1)]:Array (Nat×Nat))[i]?
theorem bt25:∀ps,Tryz.prog.built 25 ps=Instr.fill pl25 #[.int .i64 0,.int .i64 0,.int .i64 0] ps:=fun ps=>by kernel_rfl
def pl57:Nat→Option (Nat×Nat):=fun i=>(#[(0,1),(1,1),(2,1)]:Array (Nat×Nat))[i]?
theorem bt57:∀ps,Tryz.prog.built 57 ps=Instr.fill pl57 #[.slice none 0 0,.int .i64 0,.int .u64 0] ps:=fun ps=>by kernel_rfl
def pl61:Nat→Option (Nat×Nat):=fun i=>(#[(0,1),(1,1),(2,1),(3,1)]:Array (Nat×Nat))[i]?
theorem bt61:∀ps,Tryz.prog.built 61 ps=Instr.fill pl61 #[.int .i64 0,.int .i64 0,.int .i64 0,.int .i64 0] ps:=fun ps=>by kernel_rfl
def pl75:Nat→Option (Nat×Nat):=fun i=>(#[(0,1),(1,1),(2,1),(3,1)]:Array (Nat×Nat))[i]?
theorem bt75:∀ps,Tryz.prog.built 75 ps=Instr.fill pl75 #[.string qf,.slice none 0 0,.slice none 0 0,.slice none 0 0] ps:=fun ps=>by kernel_rfl
def pl85:Nat→Option (Nat×Nat):=fun i=>(#[(0,1),(1,1)]:Array (Nat×Nat))[i]?
theorem bt85:∀ps,Tryz.prog.built 85 ps=Instr.fill pl85 #[.int .i64 0,.int .i64 0] ps:=fun ps=>by kernel_rfl
def pl97:Nat→Option (Nat×Nat):=fun i=>(#[(0,1),(1,1)]:Array (Nat×Nat))[i]?
theorem bt97:∀ps,Tryz.prog.built 97 ps=Instr.fill pl97 #[.int .i64 0,.int .i64 0] ps:=fun ps=>by kernel_rfl
def z8F:Nat→Option (Nat×Nat):=fun i=>(#[(0,1),(1,1),(2,1),(3,1),(4,4),(8,4)]:Array (Nat×Nat))[i]?
theorem bt141:∀ps,Tryz.prog.built 141 ps=Instr.fill z8F #[.int .i64 0,.int .i64 0,.int .i64 0,.int .i64 0,.int .i64 0,.int .i64 0,.int .i64 0,.int .i64 0,.int .i64 0,.int .i64 0,.int .i64 0,.int .i64 0] ps:=fun ps=>by kernel_rfl
def z48:Nat→Option (Nat×Nat):=fun i=>some (i*1,1)
theorem z8Q:∀ps,Tryz.prog.built 172 ps=Instr.fill z48 #[.int .i64 0,.int .i64 0,.int .i64 0] ps:=fun ps=>by kernel_rfl
def z8E:Nat→Option (Nat×Nat):=fun i=>some (i*3,3)
theorem bt173:∀ps,Tryz.prog.built 173 ps=Instr.fill z8E #[.int .i64 0,.int .i64 0,.int .i64 0,.int .i64 0,.int .i64 0,.int .i64 0,.int .i64 0,.int .i64 0,.int .i64 0] ps:=fun ps=>by kernel_rfl
theorem zWo:zXF qg .eql 25:=by
 intro a0 a1 a2 b0 b1 b2 x y w;have hg:(eqGuard .eql 25 x y (.agg #[.int .i64 a0,.int .i64 a1,.int .i64 a2]) (.agg #[.int .i64 b0,.int .i64 b1,.int .i64 b2])).run qg w=.ok () w:=by simp[eqGuard,(by kernel_rfl:Tryz.prog.eqGuardType Tryz.prog.depth 25=false)]
 have hf:(Tryz.prog.fieldsOf 25).toList=(match Tryz.prog.underlying 25 with|some (.struct fs)=>fs.toList|_=>[]):=by kernel_rfl
 refine⟨hg,?_⟩;rw[run_eql_struct,run_equalIn_agg (d:=9999) (ht:=by kernel_rfl) (hp:=by kernel_rfl),hf,Tryz.underlying25];by_cases h0:a0=b0<;>by_cases h1:a1=b1<;>by_cases h2:a2=b2<;>simp[Op.eqFields,part,go_sem,h0,h1,h2]
theorem zZb:zXF qg .neq 25:=by
 intro a0 a1 a2 b0 b1 b2 x y w;have hg:(eqGuard .neq 25 x y (.agg #[.int .i64 a0,.int .i64 a1,.int .i64 a2]) (.agg #[.int .i64 b0,.int .i64 b1,.int .i64 b2])).run qg w=.ok () w:=by simp[eqGuard,(by kernel_rfl:Tryz.prog.eqGuardType Tryz.prog.depth 25=false)]
 have hf:(Tryz.prog.fieldsOf 25).toList=(match Tryz.prog.underlying 25 with|some (.struct fs)=>fs.toList|_=>[]):=by kernel_rfl
 refine⟨hg,?_⟩;rw[run_neq_struct,run_equalIn_agg (d:=9999) (ht:=by kernel_rfl) (hp:=by kernel_rfl),hf,Tryz.underlying25];by_cases h0:a0=b0<;>by_cases h1:a1=b1<;>by_cases h2:a2=b2<;>simp[Op.eqFields,part,go_sem,h0,h1,h2]
theorem eqg85:z6T qg .eql 85:=by
 intro a0 a1 b0 b1 x y w;have hg:(eqGuard .eql 85 x y (.agg #[.int .i64 a0,.int .i64 a1]) (.agg #[.int .i64 b0,.int .i64 b1])).run qg w=.ok () w:=by simp[eqGuard,(by kernel_rfl:Tryz.prog.eqGuardType Tryz.prog.depth 85=false)]
 have hf:(Tryz.prog.fieldsOf 85).toList=(match Tryz.prog.underlying 85 with|some (.struct fs)=>fs.toList|_=>[]):=by kernel_rfl
 refine⟨hg,?_⟩;rw[run_eql_struct,run_equalIn_agg (d:=9999) (ht:=by kernel_rfl) (hp:=by kernel_rfl),hf,Tryz.underlying85];by_cases h0:a0=b0<;>by_cases h1:a1=b1<;>simp[Op.eqFields,part,go_sem,h0,h1]
def zHR(x:qe):Value:=.string x
def zKV(x:qe):Value:=.string x
def kv170(p:qe×qe):Value×Value:=(zHR p.1,zKV p.2)
theorem kt170:KeyT qg 9 zHR:=by
 refine z4p (.string) Tryz.underlying9 (fun b a w=>?_) (fun a b=>?_) (fun a=>?_)
 ·exact MapKept.run_checkKey Tryz.underlying9 (by simp[MapKept.IsKey,zHR]) b 9999
 ·simp[zHR,Instr.sameNow,z5i]
 ·simp[zHR,Instr.sameBits,z5i]
theorem zMk:MpOk qg 170 zHR zKV qf:=⟨9,9,Tryz.underlying170,kt170,by kernel_rfl,fun _=>rfl⟩
def zRf(a0:qe)(a1:qe):=fC zJO (zAG a0 a1) fun _=>zKU
def zD9(a0:Int):=fC zKW (zR a0) fun _=>zKz
theorem z0G:CfW qg 5:=cfW Tryz.func5
noncomputable def z07(code1:List Int)(more2:List Int):T qg Bool:=
 .pl<|.joinC (.n0 (lenM ct5 code1)<|.selB (ltI 1048576 ((code1.length:Int))) false [.z (lenM ct5 more2),.z (lenM ct5 code1)] fun w_2=>.ret w_2) (mb 16 16) [] (fun s q_3 γ=>s.pc (mb 16 16) [] [(4,Bo (bif q_3 then true else (ltI (w64 (1048576 - ((code1.length:Int)))) ((more2.length:Int)))))] []) fun q_3=>
 .lt (bif q_3 then true else (ltI (w64 (1048576 - ((code1.length:Int)))) ((more2.length:Int)))) fun t4=>.ret t4
theorem z0i{code1:List Int}{more2:List Int}{r:Bool}(h:zE2 code1 more2=some r):zH qg 5 [.c (.sl (code1.map c5)),.c (.sl (more2.map c5))] (Bo r) []:=CtU (z07 code1 more2) 4 (fun r=>Bo r) Tryz.func5 rfl rfl h
def z1k(code1:List Int)(more2:List Int):=fC z0G (zE2 code1 more2) fun _=>z0i
theorem zN3:CfW qg 130:=cfW Tryz.func130
noncomputable def zNq(cc1:((List Int)×Int×Int)):T qg ((Int×((List Int)×Int×Int))):=
 .pl<|
 .pl<|.join (.draw 10 []<|.n0 au<|.n0 au<|.n0 (lenM ct5 cc1.1)<|
 .cond (ltI cc1.2.1 ((cc1.1.length:Int))) (.draw 12 []<|.n0 au<|.n0 au<|.op0 (idxM ct5 cc1.1 cc1.2.1) fun e4=>.n0 au<|
 .frc (IntKind.i64.wrap e4) fun b5=>.ret b5)<|.ret 0) (mb 62 9) [80000] (fun s j2 γ=>s.pc (mb 62 9) [80000] [(3,I j2)] []) fun j2=>
 .n0 au<|.n0 au<|
 .frc (w64 (cc1.2.1+1)) fun f6=>.n0 au<|.n0 au<|.n0 au<|.n0 au<|.n0 au<|.n0 au<|
 .frc (IntKind.u64.wrap ((IntKind.u64.wrap ((IntKind.u64.wrap (cc1.2.2*6364136223846793005))+(IntKind.u64.wrap j2)))+1442695040888963407)) fun f7=>.draw 10 []<|.n0 au<|.n0 au<|.n0 (lenM ct5 cc1.1)<|
 .cond (leI f6 ((cc1.1.length:Int))) (
 .ret ((j2,(cc1.1,f6,f7))))<|.n0 au<|.n0 dvN<|.n0 au<|.n0 au<|
 .frc (IntKind.i64.wrap (andI .u64 (shrI .u64 f7 40) 255)) fun t9=>.ret ((t9,(cc1.1,f6,f7)))
theorem zOJ{cc1:((List Int)×Int×Int)}{r:(Int×((List Int)×Int×Int))}(h:zCm cc1=some r):zES qg 130 [.pt 80000 0] [(80000,.box [.sl (cc1.1.map c5),Ti cc1.2.1,.v (.int .u64 cc1.2.2)])] (I r.1) [] [(80000,.box [.sl (r.2.1.map c5),Ti r.2.2.1,.v (.int .u64 r.2.2.2)])]:=CrT (zNq cc1) (fun r=>(I r.1,[])) (fun r=>[(80000,.box [.sl (r.2.1.map c5),Ti r.2.2.1,.v (.int .u64 r.2.2.2)])]) (rs:=[.t 2]) (vs:=[.tmp 2]) Tryz.func130 rfl rfl (.cons rfl FitsL.nil) h
def zIQ(cc1:((List Int)×Int×Int)):=fR zN3 (zCm cc1) fun _=>zOJ
theorem zN2:CfW qg 63:=cfW Tryz.func63
noncomputable def zNp(cc1:((List Int)×Int×Int))(vn2:Int):T qg ((Int×((List Int)×Int×Int))):=
 .cond (leI vn2 1) (
 .ret ((0,cc1)))<|.opx (zIQ cc1) fun y4=>
 .cond (ltI 200 vn2) (.opx (zIQ y4.2) fun y6=>
 .frc (w64 ((w64 (y4.1*256))+y6.1)) fun x7=>.op0 (remF .i64 x7 vn2) fun z8=>
 .frc (Int.tmod x7 vn2) fun t9=>.ret ((t9,y6.2)))<|.op0 (remF .i64 y4.1 vn2) fun z10=>
 .frc (Int.tmod y4.1 vn2) fun t11=>.ret ((t11,y4.2))
theorem zOI{cc1:((List Int)×Int×Int)}{vn2:Int}{r:(Int×((List Int)×Int×Int))}(h:zA cc1 vn2=some r):zES qg 63 [.pt 80000 0,I vn2] [(80000,.box [.sl (cc1.1.map c5),Ti cc1.2.1,.v (.int .u64 cc1.2.2)])] (I r.1) [] [(80000,.box [.sl (r.2.1.map c5),Ti r.2.2.1,.v (.int .u64 r.2.2.2)])]:=CrT (zNp cc1 vn2) (fun r=>(I r.1,[])) (fun r=>[(80000,.box [.sl (r.2.1.map c5),Ti r.2.2.1,.v (.int .u64 r.2.2.2)])]) (rs:=[.t 4]) (vs:=[.tmp 4]) Tryz.func63 rfl rfl (.cons rfl FitsL.nil) h
def zC(cc1:((List Int)×Int×Int))(vn2:Int):=fR zN2 (zA cc1 vn2) fun _=>zOI
theorem zM5:CfW qg 62:=cfW Tryz.func62
noncomputable def zMx(cc1:((List Int)×Int×Int))(list2:List Int):T qg ((Int×((List Int)×Int×Int))):=
 .n0 (lenM ct3 list2)<|.opx (zC cc1 ((list2.length:Int))) fun y3=>.op0 (idxM ct3 list2 y3.1) fun e4=>
 .ret ((e4,y3.2))
theorem zNJ{cc1:((List Int)×Int×Int)}{list2:List Int}{r:(Int×((List Int)×Int×Int))}(h:qT cc1 list2=some r):zES qg 62 [.pt 80000 0,.c (.sl (list2.map c3))] [(80000,.box [.sl (cc1.1.map c5),Ti cc1.2.1,.v (.int .u64 cc1.2.2)])] (I r.1) [] [(80000,.box [.sl (r.2.1.map c5),Ti r.2.2.1,.v (.int .u64 r.2.2.2)])]:=CrT (zMx cc1 list2) (fun r=>(I r.1,[])) (fun r=>[(80000,.box [.sl (r.2.1.map c5),Ti r.2.2.1,.v (.int .u64 r.2.2.2)])]) (rs:=[.t 4]) (vs:=[.tmp 4]) Tryz.func62 rfl rfl (.cons rfl FitsL.nil) h
def zA8(cc1:((List Int)×Int×Int))(list2:List Int):=fR zM5 (qT cc1 list2) fun _=>zNJ
theorem zLb:CfW qg 231:=cfW Tryz.func231
noncomputable def zMN(cc1:((List Int)×Int×Int)):T qg ((Int×((List Int)×Int×Int))):=
 .opx (zC cc1 12) fun y2=>
 .cond (eqI y2.1 0) (.n1 bsl<|.hint (frzH 64)<|.opx (zA8 y2.2 ([0,1,-1,1000000,-1000000,1000001,-1000001,-9223372036854775808,9223372036854775807,999983,999999,1000])) fun y4=>
 .ret ((y4.1,y4.2)))<|.join (
 .cond (eqI y2.1 1) (.ret (eqI y2.1 1))<|
 .ret (eqI y2.1 2)) (mb 32 1041) [80000] (fun s j5 γ=>s.pc (mb 32 1041) [80000] [(10,Bo j5)] []) fun j5=>
 .cond j5 (.opx (zC y2.2 50000) fun y8=>.opx (zC y8.2 20) fun y9=>.opx (zC y9.2 2) fun y10=>
 .frc (w64 ((w64 (y8.1*(w64 (1+y9.1))))*(w64 (1 - (w64 (2*y10.1)))))) fun t11=>.ret ((t11,y10.2)))<|.join (
 .cond (eqI y2.1 3) (.ret (eqI y2.1 3))<|
 .ret (eqI y2.1 4)) (mb 32 16777217) [80000] (fun s j12 γ=>s.pc (mb 32 16777217) [80000] [(24,Bo j12)] []) fun j12=>
 .cond j12 (.opx (zC y2.2 2000) fun y15=>
 .ret ((y15.1,y15.2)))<|.opx (zC y2.2 121) fun y16=>
 .frc (w64 (y16.1 - 40)) fun t17=>.ret ((t17,y16.2))
theorem zMX{cc1:((List Int)×Int×Int)}{r:(Int×((List Int)×Int×Int))}(h:zBM cc1=some r):zES qg 231 [.pt 80000 0] [(80000,.box [.sl (cc1.1.map c5),Ti cc1.2.1,.v (.int .u64 cc1.2.2)])] (I r.1) [] [(80000,.box [.sl (r.2.1.map c5),Ti r.2.2.1,.v (.int .u64 r.2.2.2)])]:=CrT (zMN cc1) (fun r=>(I r.1,[])) (fun r=>[(80000,.box [.sl (r.2.1.map c5),Ti r.2.2.1,.v (.int .u64 r.2.2.2)])]) (rs:=[.t 2]) (vs:=[.tmp 2]) Tryz.func231 rfl rfl (.cons rfl FitsL.nil) h
def zFO(cc1:((List Int)×Int×Int)):=fR zLb (zBM cc1) fun _=>zMX
theorem zN4:CfW qg 175:=cfW Tryz.func175
noncomputable def zNr(cc1:((List Int)×Int×Int)):T qg ((τF×((List Int)×Int×Int))):=
 .opx (zC cc1 14) fun y2=>
 .cond (eqI y2.1 0) (.opx (zFO y2.2) fun y4=>.opx (zFO y4.2) fun y5=>.opx (zFO y5.2) fun y6=>.n0 (bld pl25 bt25)<|
 .ret (((y4.1,y5.1,y6.1),y6.2)))<|
 .cond (eqI y2.1 1) (.n1 bsl<|.hint (frzH 168)<|.opx (zA8 y2.2 ([2,3,-1,0,1000])) fun y8=>
 .opx (zC y8.2 20) fun y9=>.opx (zC y9.2 21) fun y10=>.opx (zC y10.2 20) fun y11=>.n0 (bld pl25 bt25)<|
 .frc (w64 (y8.1*y9.1)) fun f12=>.frc (w64 (y8.1*(w64 (y10.1 - 10)))) fun f13=>.frc (w64 (y8.1*y11.1)) fun f14=>.ret (((f12,f13,f14),y11.2)))<|
 .cond (eqI y2.1 2) (.opx (zC y2.2 2000) fun y16=>.opx (zC y16.2 3000) fun y17=>.opx (zC y17.2 2000) fun y18=>.n0 (bld pl25 bt25)<|
 .frc (w64 (y17.1 - 1500)) fun f19=>.ret (((y16.1,f19,y18.1),y18.2)))<|
 .cond (eqI y2.1 3) (.opx (zC y2.2 21) fun y21=>.opx (zC y21.2 21) fun y22=>.opx (zC y22.2 21) fun y23=>.n0 (bld pl25 bt25)<|
 .frc (w64 (y21.1 - 10)) fun f24=>.frc (w64 (y22.1 - 10)) fun f25=>.frc (w64 (y23.1 - 10)) fun f26=>.ret (((f24,f25,f26),y23.2)))<|.opx (zC y2.2 25) fun y27=>.opx (zC y27.2 40) fun y28=>
 .frc (w64 (1+y27.1)) fun a29=>.opx (zC y28.2 (w64 (2*a29))) fun y30=>
 .frc (w64 ((w64 (y30.1 - a29))+1)) fun b31=>.op0 (quoF .i64 (w64 ((w64 (b31*b31))+(w64 (4*a29)))) (w64 (4*a29))) fun z32=>.n0 (bld pl25 bt25)<|
 .frc (w64 ((w64 (Int.tdiv (w64 ((w64 (b31*b31))+(w64 (4*a29)))) (w64 (4*a29))))+y28.1)) fun f33=>.ret (((a29,b31,f33),y30.2))
theorem zOK{cc1:((List Int)×Int×Int)}{r:(τF×((List Int)×Int×Int))}(h:zDq cc1=some r):zES qg 175 [.pt 80000 0] [(80000,.box [.sl (cc1.1.map c5),Ti cc1.2.1,.v (.int .u64 cc1.2.2)])] (.ag [Ti r.1.1,Ti r.1.2.1,Ti r.1.2.2]) [] [(80000,.box [.sl (r.2.1.map c5),Ti r.2.2.1,.v (.int .u64 r.2.2.2)])]:=CrT (zNr cc1) (fun r=>(.ag [Ti r.1.1,Ti r.1.2.1,Ti r.1.2.2],[])) (fun r=>[(80000,.box [.sl (r.2.1.map c5),Ti r.2.2.1,.v (.int .u64 r.2.2.2)])]) (rs:=[.w 2 3]) (vs:=[.cell 2 25]) Tryz.func175 rfl rfl (.cons ⟨rfl,wd25⟩ FitsL.nil) h
def zPA(cc1:((List Int)×Int×Int)):=fR zN4 (zDq cc1) fun _=>zOK
theorem zVv:CfW qg 128:=cfW Tryz.func128
noncomputable def zXM(a1:Int)(vm2:Int):T qg Int:=
 .op0 (remF .i64 a1 vm2) fun z3=>
 .frc (Int.tmod a1 vm2) fun vr4=>
 .cond (ltI vr4 0) (
 .frc (w64 (vr4+vm2)) fun vr6=>
 .ret vr6)<|
 .ret vr4
theorem zX6{a1:Int}{vm2:Int}{r:Int}(h:jF a1 vm2=some r):zH qg 128 [I a1,I vm2] (I r) []:=CtU (zXM a1 vm2) 4 (fun r=>I r) Tryz.func128 rfl rfl h
def zAn(a1:Int)(vm2:Int):=fC zVv (jF a1 vm2) fun _=>zX6
theorem zUQ:CfW qg 129:=cfW Tryz.func129
noncomputable def zVL(a1:Int)(b2:Int):T qg Int:=
 .cond (ltI b2 a1) (
 .ret a1)<|
 .ret b2
theorem zVc{a1:Int}{b2:Int}{r:Int}(h:zCY a1 b2=some r):zH qg 129 [I a1,I b2] (I r) []:=CtU (zVL a1 b2) 4 (fun r=>I r) Tryz.func129 rfl rfl h
def zIi(a1:Int)(b2:Int):=fC zUQ (zCY a1 b2) fun _=>zVc
theorem zN5:CfW qg 61:=cfW Tryz.func61
noncomputable def zNs(cc1:((List Int)×Int×Int)):T qg ((Int×((List Int)×Int×Int))):=
 .opx (zC cc1 16) fun y2=>
 .cond (eqI y2.1 0) (.n1 bsl<|.hint (frzH 72)<|.opx (zA8 y2.2 ([-3,-4,-2000,-1999,-1996,-1995,-163,-2001,-2003,-2004,0,1,5,-1,-2,-5,-9223372036854775808])) fun y4=>
 .ret ((y4.1,y4.2)))<|.join (
 .cond (eqI y2.1 1) (.ret (eqI y2.1 1))<|
 .ret (eqI y2.1 2)) (mb 42 2081) [80000] (fun s j5 γ=>s.pc (mb 42 2081) [80000] [(11,Bo j5)] []) fun j5=>
 .cond j5 (.opx (zC y2.2 1998) fun y8=>
 .frc (w64 ((-3) - y8.1)) fun d9=>.op1 (zAn d9 4) fun y10=>
 .cond (ltI 1 y10) (.op1 (zIi (-2000) (w64 (d9 - 2))) fun y12=>
 .ret ((y12,y8.2)))<|
 .ret ((d9,y8.2)))<|.join (
 .cond (eqI y2.1 3) (.ret (eqI y2.1 3))<|
 .cond (eqI y2.1 4) (.ret (eqI y2.1 4))<|
 .ret (eqI y2.1 5)) (mb 42 16777249) [80000] (fun s j13 γ=>s.pc (mb 42 16777249) [80000] [(24,Bo j13)] []) fun j13=>
 .cond j13 (.n1 bsl<|.hint (frzH 232)<|.opx (zA8 y2.2 ([-84,-420,-231,-260,-455,-520,-660,-1155,-1320,-1380,-1428,-1540,-399,-1092,-1560,-1785])) fun y17=>
 .ret ((y17.1,y17.2)))<|.join (
 .cond (eqI y2.1 6) (.ret (eqI y2.1 6))<|
 .ret (eqI y2.1 7)) (mb 42 2147483649) [80000] (fun s j18 γ=>s.pc (mb 42 2147483649) [80000] [(31,Bo j18)] []) fun j18=>
 .cond j18 (.opx (zC y2.2 60) fun y21=>
 .frc (w64 ((-4)*(w64 (1+y21.1)))) fun t22=>.ret ((t22,y21.2)))<|.opx (zC y2.2 50) fun y23=>
 .frc (w64 ((-3) - (w64 (4*y23.1)))) fun t24=>.ret ((t24,y23.2))
theorem zOL{cc1:((List Int)×Int×Int)}{r:(Int×((List Int)×Int×Int))}(h:zDr cc1=some r):zES qg 61 [.pt 80000 0] [(80000,.box [.sl (cc1.1.map c5),Ti cc1.2.1,.v (.int .u64 cc1.2.2)])] (I r.1) [] [(80000,.box [.sl (r.2.1.map c5),Ti r.2.2.1,.v (.int .u64 r.2.2.2)])]:=CrT (zNs cc1) (fun r=>(I r.1,[])) (fun r=>[(80000,.box [.sl (r.2.1.map c5),Ti r.2.2.1,.v (.int .u64 r.2.2.2)])]) (rs:=[.t 2]) (vs:=[.tmp 2]) Tryz.func61 rfl rfl (.cons rfl FitsL.nil) h
def zPB(cc1:((List Int)×Int×Int)):=fR zN5 (zDr cc1) fun _=>zOL
theorem zY5:CfW qg 159:=cfW Tryz.func159
noncomputable def zYy(vn1:Int)(lo2:Int)(hi3:Int):T qg Bool:=
 .pl<|.joinC (.selB (leI lo2 vn1) true [] fun w_2=>.ret w_2) (mb 15 64) [] (fun s q_3 γ=>s.pc (mb 15 64) [] [(6,Bo (bif q_3 then (leI vn1 hi3) else false))] []) fun q_3=>
 .ret (bif q_3 then (leI vn1 hi3) else false)
theorem zZL{vn1:Int}{lo2:Int}{hi3:Int}{r:Bool}(h:qP vn1 lo2 hi3=some r):zH qg 159 [I vn1,I lo2,I hi3] (Bo r) []:=CtU (zYy vn1 lo2 hi3) 6 (fun r=>Bo r) Tryz.func159 rfl rfl h
def zEZ(vn1:Int)(lo2:Int)(hi3:Int):=fC zY5 (qP vn1 lo2 hi3) fun _=>zZL
theorem zUJ:CfW qg 89:=cfW Tryz.func89
noncomputable def zVE(d1:Int):T qg Bool:=
 .pl<|.joinC (.op1 (zEZ d1 (-2000) (-3)) fun y2=>.seqT (.cond y2 (.op1 (zAn d1 4) fun y4=>.ret (ltI y4 2)) (.ret false)) fun b5=>.ret (y2,b5)) (mb 10 4) [] (fun s q_1 γ=>s.pc (mb 10 4) [] [(2,Bo q_1.2)] []) fun q_1=>
 .ret q_1.2
theorem zV5{d1:Int}{r:Bool}(h:zBD d1=some r):zH qg 89 [I d1] (Bo r) []:=CtU (zVE d1) 2 (fun r=>Bo r) Tryz.func89 rfl rfl h
def zIh(d1:Int):=fC zUJ (zBD d1) fun _=>zV5
theorem zKB:CfW qg 163:=cfW Tryz.func163
noncomputable def zK7(cc1:((List Int)×Int×Int)):T qg ((Int×((List Int)×Int×Int))):=
 .opx (zPB cc1) fun y2=>
 .op1 (zIh y2.1) fun y3=>
 .cond (!y3) (
 .ret ((-23,y2.2)))<|
 .ret ((y2.1,y2.2))
theorem zKb{cc1:((List Int)×Int×Int)}{r:(Int×((List Int)×Int×Int))}(h:jM cc1=some r):zES qg 163 [.pt 80000 0] [(80000,.box [.sl (cc1.1.map c5),Ti cc1.2.1,.v (.int .u64 cc1.2.2)])] (I r.1) [] [(80000,.box [.sl (r.2.1.map c5),Ti r.2.2.1,.v (.int .u64 r.2.2.2)])]:=CrT (zK7 cc1) (fun r=>(I r.1,[])) (fun r=>[(80000,.box [.sl (r.2.1.map c5),Ti r.2.2.1,.v (.int .u64 r.2.2.2)])]) (rs:=[.t 2]) (vs:=[.tmp 2]) Tryz.func163 rfl rfl (.cons rfl FitsL.nil) h
def zCN(cc1:((List Int)×Int×Int)):=fR zKB (jM cc1) fun _=>zKb
theorem zUV:CfW qg 90:=cfW Tryz.func90
noncomputable def zVQ(f1:τF):T qg Int:=
 .frc (w64 ((w64 (f1.2.1*f1.2.1)) - (w64 ((w64 (4*f1.1))*f1.2.2)))) fun t2=>.ret t2
theorem zVh{f1:τF}{r:Int}(h:qO f1=some r):zH qg 90 [.ag [Ti f1.1,Ti f1.2.1,Ti f1.2.2]] (I r) []:=CtU (zVQ f1) 2 (fun r=>I r) Tryz.func90 rfl rfl h
def zAC(f1:τF):=fC zUV (qO f1) fun _=>zVh
theorem zY4:CfW qg 97:=cfW Tryz.func97
theorem zZK{f1:τF}{r:Bool}(h:zBc f1=some r):zH qg 97 [.ag [Ti f1.1,Ti f1.2.1,Ti f1.2.2]] (Bo r) []:=by
 refine CtW [2] Tryz.func97 rfl rfl 35 ?_
 unfold zBc at h;refine VE ?_
 obtain⟨t6,ht6,h⟩:=zD h;have ht6:=zF ht6;refine zEi (mb 35 4) [] (s1:=⟨.bot::.bot::Bo t6::bt 32 [],[]⟩) ?_ ?_
 ·refine YR 7 ?_
  refine zAZ (ltI (w64 (0 - f1.1)) f1.2.1) (fun hc2=>?_) (fun hc2=>?_)
  ·refine YQ hc2 ?_
   refine YR 7 ?_
   refine zAZ (bif (ltI (w64 (0 - f1.1)) f1.2.1) then (leI f1.2.1 f1.1) else false) (fun hc3=>?_) (fun hc3=>?_)
   ·refine YQ hc3 ?_ (by rw[hc2];kernel_rfl)
    refine YR 6 ?_
    refine zAZ (ltI f1.1 f1.2.2) (fun hc4=>?_) (fun hc4=>?_)
    ·refine YQ hc4 ?_
     exact YE (by rw[←ht6];(try rw[hc3]);(try rw[hc2]);(try rw[hc4]);kernel_rfl)
    ·refine YQ hc4 ?_
     refine YR 6 ?_
     refine zAZ (eqI f1.1 f1.2.2) (fun hc5=>?_) (fun hc5=>?_)
     ·refine YQ hc5 ?_
      exact YE (by rw[←ht6];(try rw[hc3]);(try rw[hc2]);(try rw[hc4]);(try rw[hc5]);kernel_rfl)
     ·refine YQ hc5 ?_
      exact YE (by rw[←ht6];(try rw[hc3]);(try rw[hc2]);(try rw[hc4]);(try rw[hc5]);kernel_rfl)
   ·refine YQ hc3 ?_ (by rw[hc2];kernel_rfl)
    exact YE (by rw[←ht6];(try rw[hc3]);(try rw[hc2]);kernel_rfl)
  ·refine YQ hc2 ?_
   refine YR 7 ?_
   refine zAZ (bif (ltI (w64 (0 - f1.1)) f1.2.1) then (leI f1.2.1 f1.1) else false) (fun hc3=>?_) (fun hc3=>?_)
   ·refine YQ hc3 ?_ (by rw[hc2];kernel_rfl)
    refine YR 6 ?_
    refine zAZ (ltI f1.1 f1.2.2) (fun hc4=>?_) (fun hc4=>?_)
    ·refine YQ hc4 ?_
     exact YE (by rw[←ht6];(try rw[hc3]);(try rw[hc2]);(try rw[hc4]);kernel_rfl)
    ·refine YQ hc4 ?_
     refine YR 6 ?_
     refine zAZ (eqI f1.1 f1.2.2) (fun hc5=>?_) (fun hc5=>?_)
     ·refine YQ hc5 ?_
      exact YE (by rw[←ht6];(try rw[hc3]);(try rw[hc2]);(try rw[hc4]);(try rw[hc5]);kernel_rfl)
     ·refine YQ hc5 ?_
      exact YE (by rw[←ht6];(try rw[hc3]);(try rw[hc2]);(try rw[hc4]);(try rw[hc5]);kernel_rfl)
   ·refine YQ hc3 ?_ (by rw[hc2];kernel_rfl)
    exact YE (by rw[←ht6];(try rw[hc3]);(try rw[hc2]);kernel_rfl)
 cases h;exact zCI VT
def zFm(f1:τF):=fC zY4 (zBc f1) fun _=>zZK
theorem zVu:CfW qg 232:=cfW Tryz.func232
noncomputable def zXL(d1:Int):T qg (List τF):=
 .n1 (nilN 25 3 (by decide))<|
 .n1 (nilN 25 3 (by decide))<|
 .loop (fun n X_3=>zE6 d1 n X_3.1 X_3.2) ((1,([]:List τF))) (mb 47 25) [24] (fun s X_3 γ=>s.pc (mb 47 25) [24] [(4,I X_3.1)] [(24,.arr 25 3 (X_3.2.map c25))]) (fun X_3=>
 .cond (leI (w64 ((w64 (3*X_3.1))*X_3.1)) (w64 (0 - d1))) (
 .frc (w64 (1 - X_3.1)) fun b7=>.loop (fun n X_2=>zCO X_3.1 d1 n X_2.1 X_2.2) ((b7,X_3.2)) (mb 47 57) [24] (fun s X_2 γ=>s.pc (mb 47 57) [24] [(5,I X_2.1)] [(24,.arr 25 3 (X_2.2.map c25))]) (fun X_2=>
 .cond (leI X_2.1 X_3.1) (.op0 (quoF .i64 (w64 ((w64 (X_2.1*X_2.1)) - d1)) (w64 (4*X_3.1))) fun z13=>.n0 (bld pl25 bt25)<|
 .frc (w64 (Int.tdiv (w64 ((w64 (X_2.1*X_2.1)) - d1)) (w64 (4*X_3.1)))) fun f14=>.joinC (.op1 (zAC ((X_3.1,X_2.1,f14))) fun y15=>.seqT (.cond (eqI y15 d1) (.op1 (zFm ((X_3.1,X_2.1,f14))) fun y17=>.ret y17) (.ret false)) fun b18=>.ret (y15,b18)) (mb 47 2199023255673) [48,24] (fun s q_1 γ=>s.pc (mb 47 2199023255673) [48,24] [(41,Bo q_1.2)] []) fun q_1=>
 .cond q_1.2 (.n1 bsl<|.opx (app ct25 X_2.2 ([(X_3.1,X_2.1,f14)])) fun u20=>
 .frc (w64 (X_2.1+1)) fun b21=>.ret (.inl ((b21,X_2.2++([(X_3.1,X_2.1,f14)])))))<|
 .frc (w64 (X_2.1+1)) fun b22=>.ret (.inl ((b22,X_2.2))))<|.ret (.inr X_2.2)) (mb 47 25) [24] (fun s o11 γ=>s.pc (mb 47 25) [24] [] [(24,.arr 25 3 (o11.map c25))]) fun o11=>
 .frc (w64 (X_3.1+1)) fun a23=>.ret (.inl ((a23,o11))))<|.ret (.inr X_3.2)) (mb 47 8) [24] (fun s o5 γ=>s.pc (mb 47 8) [24] [] [(24,.arr 25 3 (o5.map c25))]) fun o5=>
 .ret o5
theorem zX5{d1:Int}{r:List τF}(h:zHX d1=some r):zH qg 232 [I d1] (.ow 0) [(0,.arr 25 3 (r.map c25))]:=CtT (zXL d1) (fun r=>(.ow 0,[(0,.arr 25 3 (r.map c25))])) (rs:=[.t 2]) (vs:=[.tmp 2]) Tryz.func232 rfl rfl (.cons rfl FitsL.nil) h
def zYn(d1:Int):=fC zVu (zHX d1) fun _=>zX5
theorem zVz:CfW qg 219:=cfW Tryz.func219
noncomputable def zXR(vn1:Int):T qg Int:=
 .op1 (zIi vn1 (w64 (0 - vn1))) fun y2=>
 .ret y2
theorem zXb{vn1:Int}{r:Int}(h:zAS vn1=some r):zH qg 219 [I vn1] (I r) []:=CtU (zXR vn1) 2 (fun r=>I r) Tryz.func219 rfl rfl h
def zB7(vn1:Int):=fC zVz (zAS vn1) fun _=>zXb
theorem zVw:CfW qg 199:=cfW Tryz.func199
noncomputable def zXN(a1:Int)(b2:Int):T qg Int:=
 .op1 (zB7 a1) fun y3=>.op1 (zB7 b2) fun y4=>
 .loop (fun n X_1=>jO n X_1.1 X_1.2) ((y3,y4)) (mb 16 3) [] (fun s X_1 γ=>s.pc (mb 16 3) [] [(0,I X_1.1),(1,I X_1.2)] []) (fun X_1=>
 .cond (!eqI X_1.2 0) (.draw 6 []<|.op0 (remF .i64 X_1.1 X_1.2) fun z10=>
 .frc (Int.tmod X_1.1 X_1.2) fun b11=>.ret (.inl ((X_1.2,b11))))<|.ret (.inr X_1.1)) (mb 16 1) [] (fun s o8 γ=>s.pc (mb 16 1) [] [(0,I o8)] []) fun o8=>
 .ret o8
theorem zX7{a1:Int}{b2:Int}{r:Int}(h:zAR a1 b2=some r):zH qg 199 [I a1,I b2] (I r) []:=CtU (zXN a1 b2) 4 (fun r=>I r) Tryz.func199 rfl rfl h
def zEA(a1:Int)(b2:Int):=fC zVw (zAR a1 b2) fun _=>zX7
theorem zOq:CfW qg 150:=cfW Tryz.func150
noncomputable def zPS(f1:τF):T qg Int:=
 .draw 9 []<|.op1 (zEA f1.1 f1.2.1) fun y2=>.op1 (zEA y2 f1.2.2) fun y3=>
 .ret y3
theorem zP6{f1:τF}{r:Int}(h:zAH f1=some r):zH qg 150 [.ag [Ti f1.1,Ti f1.2.1,Ti f1.2.2]] (I r) []:=CtU (zPS f1) 2 (fun r=>I r) Tryz.func150 rfl rfl h
def zGa(f1:τF):=fC zOq (zAH f1) fun _=>zP6
theorem zUH:CfW qg 177:=cfW Tryz.func177
noncomputable def zVC(d1:Int):T qg (List τF):=
 .n1 (nilN 25 3 (by decide))<|
 .n1 (nilN 25 3 (by decide))<|
 .op1 (zYn d1) fun y2=>.n0 (lenM ct25 y2)<|
 .loop (fun n X_1=>zDR y2 n X_1.1 X_1.2) ((0,([]:List τF))) (mb 22 904) [56,24] (fun s X_1 γ=>s.pc (mb 22 904) [56,24] [(9,I X_1.1)] [(24,.arr 25 3 (X_1.2.map c25))]) (fun X_1=>
 .cond (ltI X_1.1 ((y2.length:Int))) (.op0 (zBi ct25 y2 X_1.1) fun e8=>.op0 (ldo ct25 y2 X_1.1) fun e9=>
 .op1 (zGa e9) fun y10=>
 .cond (eqI y10 1) (.n1 bsl<|.opx (app ct25 X_1.2 ([e9])) fun u12=>
 .frc (w64 (X_1.1+1)) fun t13=>.ret (.inl ((t13,X_1.2++([e9])))))<|
 .frc (w64 (X_1.1+1)) fun t14=>.ret (.inl ((t14,X_1.2))))<|.ret (.inr X_1.2)) (mb 22 8) [24] (fun s o6 γ=>s.pc (mb 22 8) [24] [] [(24,.arr 25 3 (o6.map c25))]) fun o6=>
 .ret o6
theorem zV3{d1:Int}{r:List τF}(h:zFR d1=some r):zH qg 177 [I d1] (.ow 0) [(0,.arr 25 3 (r.map c25))]:=CtT (zVC d1) (fun r=>(.ow 0,[(0,.arr 25 3 (r.map c25))])) (rs:=[.t 2]) (vs:=[.tmp 2]) Tryz.func177 rfl rfl (.cons rfl FitsL.nil) h
def zWL(d1:Int):=fC zUH (zFR d1) fun _=>zV3
theorem zKg:CfW qg 91:=cfW Tryz.func91
noncomputable def zKq(cc1:((List Int)×Int×Int))(d2:Int):T qg ((τF×((List Int)×Int×Int))):=
 .op1 (zWL d2) fun y3=>
 .n0 (lenM ct25 y3)<|.opx (zC cc1 ((y3.length:Int))) fun y4=>.op0 (zBi ct25 y3 y4.1) fun e5=>.op0 (ldo ct25 y3 y4.1) fun e6=>
 .ret ((e6,y4.2))
theorem zLB{cc1:((List Int)×Int×Int)}{d2:Int}{r:(τF×((List Int)×Int×Int))}(h:zAK cc1 d2=some r):zES qg 91 [.pt 80000 0,I d2] [(80000,.box [.sl (cc1.1.map c5),Ti cc1.2.1,.v (.int .u64 cc1.2.2)])] (.ag [Ti r.1.1,Ti r.1.2.1,Ti r.1.2.2]) [] [(80000,.box [.sl (r.2.1.map c5),Ti r.2.2.1,.v (.int .u64 r.2.2.2)])]:=CrT (zKq cc1 d2) (fun r=>(.ag [Ti r.1.1,Ti r.1.2.1,Ti r.1.2.2],[])) (fun r=>[(80000,.box [.sl (r.2.1.map c5),Ti r.2.2.1,.v (.int .u64 r.2.2.2)])]) (rs:=[.w 4 3]) (vs:=[.cell 4 25]) Tryz.func91 rfl rfl (.cons ⟨rfl,wd25⟩ FitsL.nil) h
def zCk(cc1:((List Int)×Int×Int))(d2:Int):=fR zKg (zAK cc1 d2) fun _=>zLB
theorem zWA:CfW qg 100:=cfW Tryz.func100
noncomputable def zXS(vm1:τM)(vn2:τM):T qg (τM):=
 .n0 (bld pl61 bt61)<|
 .frc (w64 ((w64 (vm1.1*vn2.1))+(w64 (vm1.2.1*vn2.2.2.1)))) fun f3=>.frc (w64 ((w64 (vm1.1*vn2.2.1))+(w64 (vm1.2.1*vn2.2.2.2)))) fun f4=>.frc (w64 ((w64 (vm1.2.2.1*vn2.1))+(w64 (vm1.2.2.2*vn2.2.2.1)))) fun f5=>.frc (w64 ((w64 (vm1.2.2.1*vn2.2.1))+(w64 (vm1.2.2.2*vn2.2.2.2)))) fun f6=>.ret ((f3,f4,f5,f6))
theorem zXc{vm1:τM}{vn2:τM}{r:τM}(h:zV vm1 vn2=some r):zH qg 100 [.ag [Ti vm1.1,Ti vm1.2.1,Ti vm1.2.2.1,Ti vm1.2.2.2],.ag [Ti vn2.1,Ti vn2.2.1,Ti vn2.2.2.1,Ti vn2.2.2.2]] (.ag [Ti r.1,Ti r.2.1,Ti r.2.2.1,Ti r.2.2.2]) []:=CtT (zXS vm1 vn2) (fun r=>(.ag [Ti r.1,Ti r.2.1,Ti r.2.2.1,Ti r.2.2.2],[])) (rs:=[.w 4 4]) (vs:=[.cell 4 61]) Tryz.func100 rfl rfl (.cons ⟨rfl,wd61⟩ FitsL.nil) h
def zC2(vm1:τM)(vn2:τM):=fC zWA (zV vm1 vn2) fun _=>zXc
theorem zLa:CfW qg 176:=cfW Tryz.func176
noncomputable def zMM(cc1:((List Int)×Int×Int)):T qg ((τM×((List Int)×Int×Int))):=
 .n0 (bld pl61 bt61)<|
 .opx (zC cc1 6) fun y2=>
 .loop (fun n X_1=>jZ n X_1.1 X_1.2.1 X_1.2.2.1 X_1.2.2.2.1 X_1.2.2.2.2.1 X_1.2.2.2.2.2.1 X_1.2.2.2.2.2.2.1 X_1.2.2.2.2.2.2.2) ((y2.1,1,0,0,1,y2.2.1,y2.2.2.1,y2.2.2.2)) (mb 34 29) [24,16,80000] (fun s X_1 γ=>s.pc (mb 34 29) [24,16,80000] [(4,I X_1.1)] [(24,.box [Ti X_1.2.1,Ti X_1.2.2.1,Ti X_1.2.2.2.1,Ti X_1.2.2.2.2.1]),(80000,s.pbx 80000 [.sl (X_1.2.2.2.2.2.1.map c5),Ti X_1.2.2.2.2.2.2.1,.v (.int .u64 X_1.2.2.2.2.2.2.2)])]) (fun X_1=>
 .cond (ltI 0 X_1.1) (.opx (zC ((X_1.2.2.2.2.2.1,X_1.2.2.2.2.2.2.1,X_1.2.2.2.2.2.2.2)) 9) fun y14=>
 .frc (w64 (y14.1 - 4)) fun t15=>.opx (zC y14.2 3) fun y16=>
 .cond (eqI y16.1 0) (.n0 (bld pl61 bt61)<|.op1 (zC2 ((X_1.2.1,X_1.2.2.1,X_1.2.2.2.1,X_1.2.2.2.2.1)) ((1,t15,0,1))) fun y18=>
 .frc (w64 (X_1.1 - 1)) fun k19=>.ret (.inl ((k19,y18.1,y18.2.1,y18.2.2.1,y18.2.2.2,y16.2.1,y16.2.2.1,y16.2.2.2))))<|
 .cond (eqI y16.1 1) (.n0 (bld pl61 bt61)<|.op1 (zC2 ((X_1.2.1,X_1.2.2.1,X_1.2.2.2.1,X_1.2.2.2.2.1)) ((1,0,t15,1))) fun y21=>
 .frc (w64 (X_1.1 - 1)) fun k22=>.ret (.inl ((k22,y21.1,y21.2.1,y21.2.2.1,y21.2.2.2,y16.2.1,y16.2.2.1,y16.2.2.2))))<|.n0 (bld pl61 bt61)<|.op1 (zC2 ((X_1.2.1,X_1.2.2.1,X_1.2.2.2.1,X_1.2.2.2.2.1)) ((0,-1,1,0))) fun y23=>
 .frc (w64 (X_1.1 - 1)) fun k24=>.ret (.inl ((k24,y23.1,y23.2.1,y23.2.2.1,y23.2.2.2,y16.2.1,y16.2.2.1,y16.2.2.2))))<|.ret (.inr ((X_1.2.1,X_1.2.2.1,X_1.2.2.2.1,X_1.2.2.2.2.1,X_1.2.2.2.2.2.1,X_1.2.2.2.2.2.2.1,X_1.2.2.2.2.2.2.2)))) (mb 34 12) [24,16,80000] (fun s o12 γ=>s.pc (mb 34 12) [24,16,80000] [] [(24,.box [Ti o12.1,Ti o12.2.1,Ti o12.2.2.1,Ti o12.2.2.2.1]),(80000,s.pbx 80000 [.sl (o12.2.2.2.2.1.map c5),Ti o12.2.2.2.2.2.1,.v (.int .u64 o12.2.2.2.2.2.2)])]) fun o12=>
 .ret (((o12.1,o12.2.1,o12.2.2.1,o12.2.2.2.1),o12.2.2.2.2))
theorem zMW{cc1:((List Int)×Int×Int)}{r:(τM×((List Int)×Int×Int))}(h:zDC cc1=some r):zES qg 176 [.pt 80000 0] [(80000,.box [.sl (cc1.1.map c5),Ti cc1.2.1,.v (.int .u64 cc1.2.2)])] (.ag [Ti r.1.1,Ti r.1.2.1,Ti r.1.2.2.1,Ti r.1.2.2.2]) [] [(80000,.box [.sl (r.2.1.map c5),Ti r.2.2.1,.v (.int .u64 r.2.2.2)])]:=CrT (zMM cc1) (fun r=>(.ag [Ti r.1.1,Ti r.1.2.1,Ti r.1.2.2.1,Ti r.1.2.2.2],[])) (fun r=>[(80000,.box [.sl (r.2.1.map c5),Ti r.2.2.1,.v (.int .u64 r.2.2.2)])]) (rs:=[.w 2 4]) (vs:=[.cell 2 61]) Tryz.func176 rfl rfl (.cons ⟨rfl,wd61⟩ FitsL.nil) h
def zMe(cc1:((List Int)×Int×Int)):=fR zLa (zDC cc1) fun _=>zMW
theorem zRY:CfW qg 185:=cfW Tryz.func185
noncomputable def zSR(f1:τF)(x2:Int)(y3:Int):T qg Int:=
 .frc (w64 ((w64 ((w64 ((w64 (f1.1*x2))*x2))+(w64 ((w64 (f1.2.1*x2))*y3))))+(w64 ((w64 (f1.2.2*y3))*y3)))) fun t4=>.ret t4
theorem zSr{f1:τF}{x2:Int}{y3:Int}{r:Int}(h:zAb f1 x2 y3=some r):zH qg 185 [.ag [Ti f1.1,Ti f1.2.1,Ti f1.2.2],I x2,I y3] (I r) []:=CtU (zSR f1 x2 y3) 6 (fun r=>I r) Tryz.func185 rfl rfl h
def zET(f1:τF)(x2:Int)(y3:Int):=fC zRY (zAb f1 x2 y3) fun _=>zSr
theorem zRZ:CfW qg 186:=cfW Tryz.func186
noncomputable def zSS(f1:τF)(x2:Int)(y3:Int)(u4:Int)(v5:Int):T qg Int:=
 .frc (w64 ((w64 ((w64 ((w64 ((w64 (2*f1.1))*x2))*u4))+(w64 (f1.2.1*(w64 ((w64 (x2*v5))+(w64 (y3*u4))))))))+(w64 ((w64 ((w64 (2*f1.2.2))*y3))*v5)))) fun t6=>.ret t6
theorem zSs{f1:τF}{x2:Int}{y3:Int}{u4:Int}{v5:Int}{r:Int}(h:zEN f1 x2 y3 u4 v5=some r):zH qg 186 [.ag [Ti f1.1,Ti f1.2.1,Ti f1.2.2],I x2,I y3,I u4,I v5] (I r) []:=CtU (zSS f1 x2 y3 u4 v5) 10 (fun r=>I r) Tryz.func186 rfl rfl h
def zLn(f1:τF)(x2:Int)(y3:Int)(u4:Int)(v5:Int):=fC zRZ (zEN f1 x2 y3 u4 v5) fun _=>zSs
theorem zWD:CfW qg 99:=cfW Tryz.func99
noncomputable def zXU(f1:τF)(vm2:τM):T qg (τF):=
 .draw 23 []<|.op1 (zET f1 vm2.1 vm2.2.2.1) fun y3=>.op1 (zLn f1 vm2.1 vm2.2.2.1 vm2.2.1 vm2.2.2.2) fun y4=>.op1 (zET f1 vm2.2.1 vm2.2.2.2) fun y5=>.n0 (bld pl25 bt25)<|
 .ret ((y3,y4,y5))
theorem zXf{f1:τF}{vm2:τM}{r:τF}(h:zCZ f1 vm2=some r):zH qg 99 [.ag [Ti f1.1,Ti f1.2.1,Ti f1.2.2],.ag [Ti vm2.1,Ti vm2.2.1,Ti vm2.2.2.1,Ti vm2.2.2.2]] (.ag [Ti r.1,Ti r.2.1,Ti r.2.2]) []:=CtT (zXU f1 vm2) (fun r=>(.ag [Ti r.1,Ti r.2.1,Ti r.2.2],[])) (rs:=[.w 4 3]) (vs:=[.cell 4 25]) Tryz.func99 rfl rfl (.cons ⟨rfl,wd25⟩ FitsL.nil) h
def zGU(f1:τF)(vm2:τM):=fC zWD (zCZ f1 vm2) fun _=>zXf
theorem zUO:CfW qg 79:=cfW Tryz.func79
noncomputable def zVJ(vn1:Int):T qg Bool:=
 .op1 (zEZ vn1 (-1000000) 1000000) fun y2=>
 .ret y2
theorem zVa{vn1:Int}{r:Bool}(h:zAA vn1=some r):zH qg 79 [I vn1] (Bo r) []:=CtU (zVJ vn1) 2 (fun r=>Bo r) Tryz.func79 rfl rfl h
def zBm(vn1:Int):=fC zUO (zAA vn1) fun _=>zVa
theorem zUU:CfW qg 96:=cfW Tryz.func96
noncomputable def zVP(f1:τF):T qg Bool:=
 .pl<|.joinC (.op1 (zBm f1.1) fun y2=>.seqT (.cond y2 (.op1 (zBm f1.2.1) fun y4=>.ret y4) (.ret false)) fun b5=>.seqT (.cond b5 (.op1 (zBm f1.2.2) fun y7=>.ret y7) (.ret false)) fun b8=>.ret (y2,b5,b8)) (mb 16 4) [] (fun s q_1 γ=>s.pc (mb 16 4) [] [(2,Bo q_1.2.2)] []) fun q_1=>
 .ret q_1.2.2
theorem zVg{f1:τF}{r:Bool}(h:zDP f1=some r):zH qg 96 [.ag [Ti f1.1,Ti f1.2.1,Ti f1.2.2]] (Bo r) []:=CtU (zVP f1) 2 (fun r=>Bo r) Tryz.func96 rfl rfl h
def zGm(f1:τF):=fC zUU (zDP f1) fun _=>zVg
theorem zM4:CfW qg 88:=cfW Tryz.func88
noncomputable def zMw(cc1:((List Int)×Int×Int))(f2:τF):T qg ((τF×((List Int)×Int×Int))):=
 .pl<|.joinC (.drawL [1,1,0,0,1,1]<|.opx (zMe cc1) fun y3=>.op1 (zGU f2 y3.1) fun y4=>.ret (y3,y4)) (mb 15 56) [40,32,24,80000] (fun s q_1 γ=>s.pc (mb 15 56) [40,32,24,80000] [(5,.pt 40 0)] [(40,.box [Ti q_1.2.1,Ti q_1.2.2.1,Ti q_1.2.2.2]),(80000,s.pbx 80000 [.sl (q_1.1.2.1.map c5),Ti q_1.1.2.2.1,.v (.int .u64 q_1.1.2.2.2)])]) fun q_1=>
 .op1 (zGm q_1.2) fun y5=>
 .cond (!y5) (
 .ret ((f2,q_1.1.2)))<|
 .ret ((q_1.2,q_1.1.2))
theorem zNI{cc1:((List Int)×Int×Int)}{f2:τF}{r:(τF×((List Int)×Int×Int))}(h:jV cc1 f2=some r):zES qg 88 [.pt 80000 0,.ag [Ti f2.1,Ti f2.2.1,Ti f2.2.2]] [(80000,.box [.sl (cc1.1.map c5),Ti cc1.2.1,.v (.int .u64 cc1.2.2)])] (.ag [Ti r.1.1,Ti r.1.2.1,Ti r.1.2.2]) [] [(80000,.box [.sl (r.2.1.map c5),Ti r.2.2.1,.v (.int .u64 r.2.2.2)])]:=CrT (zMw cc1 f2) (fun r=>(.ag [Ti r.1.1,Ti r.1.2.1,Ti r.1.2.2],[])) (fun r=>[(80000,.box [.sl (r.2.1.map c5),Ti r.2.2.1,.v (.int .u64 r.2.2.2)])]) (rs:=[.w 4 3]) (vs:=[.cell 4 25]) Tryz.func88 rfl rfl (.cons ⟨rfl,wd25⟩ FitsL.nil) h
def zCX(cc1:((List Int)×Int×Int))(f2:τF):=fR zM4 (jV cc1 f2) fun _=>zNI
theorem zKC:CfW qg 87:=cfW Tryz.func87
noncomputable def zK8(cc1:((List Int)×Int×Int)):T qg ((τF×((List Int)×Int×Int))):=
 .opx (zC cc1 12) fun y2=>
 .cond (eqI y2.1 0) (.opx (zPA y2.2) fun y4=>
 .ret ((y4.1,y4.2)))<|
 .cond (eqI y2.1 1) (.opx (zCN y2.2) fun y6=>.opx (zCk y6.2 y6.1) fun y7=>
 .opx (zC y7.2 5) fun y8=>
 .frc (w64 (1+y8.1)) fun k9=>.n0 (bld pl25 bt25)<|.opx (zCX y8.2 ((w64 (k9*y7.1.1),w64 (k9*y7.1.2.1),w64 (k9*y7.1.2.2)))) fun y10=>
 .ret ((y10.1,y10.2)))<|
 .cond (eqI y2.1 2) (.opx (zC y2.2 1000000) fun y12=>.opx (zC y12.2 1000001) fun y13=>.opx (zC y13.2 750001) fun y14=>.n0 (bld pl25 bt25)<|
 .frc (w64 (1+y12.1)) fun f15=>.frc (w64 (250000+y14.1)) fun f16=>.ret (((f15,y13.1,f16),y14.2)))<|.opx (zCN y2.2) fun y17=>.opx (zCk y17.2 y17.1) fun y18=>.opx (zCX y18.2 y18.1) fun y19=>
 .ret ((y19.1,y19.2))
theorem zKc{cc1:((List Int)×Int×Int)}{r:(τF×((List Int)×Int×Int))}(h:jW cc1=some r):zES qg 87 [.pt 80000 0] [(80000,.box [.sl (cc1.1.map c5),Ti cc1.2.1,.v (.int .u64 cc1.2.2)])] (.ag [Ti r.1.1,Ti r.1.2.1,Ti r.1.2.2]) [] [(80000,.box [.sl (r.2.1.map c5),Ti r.2.2.1,.v (.int .u64 r.2.2.2)])]:=CrT (zK8 cc1) (fun r=>(.ag [Ti r.1.1,Ti r.1.2.1,Ti r.1.2.2],[])) (fun r=>[(80000,.box [.sl (r.2.1.map c5),Ti r.2.2.1,.v (.int .u64 r.2.2.2)])]) (rs:=[.w 2 3]) (vs:=[.cell 2 25]) Tryz.func87 rfl rfl (.cons ⟨rfl,wd25⟩ FitsL.nil) h
def zDd(cc1:((List Int)×Int×Int)):=fR zKC (jW cc1) fun _=>zKc
theorem zN7:CfW qg 45:=cfW Tryz.func45
noncomputable def zNu(f1:τF):T qg Bool:=
 .pl<|.joinC (.op1 (zGm f1) fun y2=>.seqT (.cond y2 (.op1 (zAC f1) fun y4=>.ret (ltI y4 0)) (.ret false)) fun b5=>.selB b5 true [] fun w_2=>.ret (y2,b5,w_2)) (mb 15 4) [] (fun s q_3 γ=>s.pc (mb 15 4) [] [(2,Bo (bif q_3.2.2 then (ltI 0 f1.1) else false))] []) fun q_3=>
 .ret (bif q_3.2.2 then (ltI 0 f1.1) else false)
theorem zOO{f1:τF}{r:Bool}(h:jU f1=some r):zH qg 45 [.ag [Ti f1.1,Ti f1.2.1,Ti f1.2.2]] (Bo r) []:=CtU (zNu f1) 2 (fun r=>Bo r) Tryz.func45 rfl rfl h
def zBS(f1:τF):=fC zN7 (jU f1) fun _=>zOO
theorem zPx:CfW qg 184:=cfW Tryz.func184
noncomputable def zQd(f1:τF):T qg Int:=
 .draw 20 []<|.op1 (zAn (w64 (f1.1 - f1.2.1)) (w64 (2*f1.1))) fun y2=>.op0 (quoF .i64 (w64 ((w64 (f1.1 - f1.2.1)) - y2)) (w64 (2*f1.1))) fun z3=>
 .frc (w64 (Int.tdiv (w64 ((w64 (f1.1 - f1.2.1)) - y2)) (w64 (2*f1.1)))) fun t4=>.ret t4
theorem zQv{f1:τF}{r:Int}(h:zFZ f1=some r):zH qg 184 [.ag [Ti f1.1,Ti f1.2.1,Ti f1.2.2]] (I r) []:=CtU (zQd f1) 2 (fun r=>I r) Tryz.func184 rfl rfl h
def zRg(f1:τF):=fC zPx (zFZ f1) fun _=>zQv
theorem zUG:CfW qg 98:=cfW Tryz.func98
noncomputable def zVB(f1:τF):T qg (τM):=
 .op1 (zRg f1) fun y2=>
 .cond (!eqI y2 0) (.n0 (bld pl61 bt61)<|
 .ret ((1,y2,0,1)))<|.op1 (zFm f1) fun y4=>
 .cond y4 (.n0 (bld pl61 bt61)<|
 .ret ((1,0,0,1)))<|.n0 (bld pl61 bt61)<|
 .ret ((0,-1,1,0))
theorem zV2{f1:τF}{r:τM}(h:zEf f1=some r):zH qg 98 [.ag [Ti f1.1,Ti f1.2.1,Ti f1.2.2]] (.ag [Ti r.1,Ti r.2.1,Ti r.2.2.1,Ti r.2.2.2]) []:=CtT (zVB f1) (fun r=>(.ag [Ti r.1,Ti r.2.1,Ti r.2.2.1,Ti r.2.2.2],[])) (rs:=[.w 2 4]) (vs:=[.cell 2 61]) Tryz.func98 rfl rfl (.cons ⟨rfl,wd61⟩ FitsL.nil) h
def zWK(f1:τF):=fC zUG (zEf f1) fun _=>zV2
theorem zPw:CfW qg 46:=cfW Tryz.func46
noncomputable def zQc(f1:τF):T qg ((τF×τM)):=
 .n0 (bld pl61 bt61)<|
 .loop (fun n X_1=>zDZ n X_1.1 X_1.2.1 X_1.2.2.1 X_1.2.2.2.1 X_1.2.2.2.2.1 X_1.2.2.2.2.2.1 X_1.2.2.2.2.2.2) ((1,0,0,1,f1.1,f1.2.1,f1.2.2)) (mb 20 30) [32,24,16,8] (fun s X_1 γ=>s.pc (mb 20 30) [32,24,16,8] [] [(32,.box [Ti X_1.1,Ti X_1.2.1,Ti X_1.2.2.1,Ti X_1.2.2.2.1]),(8,.box [Ti X_1.2.2.2.2.1,Ti X_1.2.2.2.2.2.1,Ti X_1.2.2.2.2.2.2])]) (fun X_1=>
 .op1 (zFm ((X_1.2.2.2.2.1,X_1.2.2.2.2.2.1,X_1.2.2.2.2.2.2))) fun y11=>
 .cond (!y11) (.op1 (zWK ((X_1.2.2.2.2.1,X_1.2.2.2.2.2.1,X_1.2.2.2.2.2.2))) fun y13=>
 .draw 6 []<|.op1 (zGU ((X_1.2.2.2.2.1,X_1.2.2.2.2.2.1,X_1.2.2.2.2.2.2)) y13) fun y14=>.op1 (zC2 ((X_1.1,X_1.2.1,X_1.2.2.1,X_1.2.2.2.1)) y13) fun y15=>
 .ret (.inl ((y15.1,y15.2.1,y15.2.2.1,y15.2.2.2,y14.1,y14.2.1,y14.2.2))))<|.ret (.inr ((X_1.1,X_1.2.1,X_1.2.2.1,X_1.2.2.2.1,X_1.2.2.2.2.1,X_1.2.2.2.2.2.1,X_1.2.2.2.2.2.2)))) (mb 20 30) [32,24,16,8] (fun s o10 γ=>s.pc (mb 20 30) [32,24,16,8] [] [(32,.box [Ti o10.1,Ti o10.2.1,Ti o10.2.2.1,Ti o10.2.2.2.1]),(8,.box [Ti o10.2.2.2.2.1,Ti o10.2.2.2.2.2.1,Ti o10.2.2.2.2.2.2])]) fun o10=>
 .draw 3 [(2,16)]<|
 .ret ((o10.2.2.2.2,(o10.1,o10.2.1,o10.2.2.1,o10.2.2.2.1)))
theorem zQu{f1:τF}{r:(τF×τM)}(h:qH f1=some r):zH qg 46 [.ag [Ti f1.1,Ti f1.2.1,Ti f1.2.2]] (.tc (.ag [Ti r.1.1,Ti r.1.2.1,Ti r.1.2.2]) (.tc (.ag [Ti r.2.1,Ti r.2.2.1,Ti r.2.2.2.1,Ti r.2.2.2.2]) .tn)) []:=CtT (zQc f1) (fun r=>(.tc (.ag [Ti r.1.1,Ti r.1.2.1,Ti r.1.2.2]) (.tc (.ag [Ti r.2.1,Ti r.2.2.1,Ti r.2.2.2.1,Ti r.2.2.2.2]) .tn),[])) (rs:=[.w 2 3,.w 3 4]) (vs:=[.cell 2 25,.cell 3 61]) Tryz.func46 rfl rfl (.cons ⟨rfl,wd25⟩ (.cons ⟨rfl,wd61⟩ FitsL.nil)) h
def zCJ(f1:τF):=fC zPw (qH f1) fun _=>zQu
theorem zWC:CfW qg 188:=cfW Tryz.func188
noncomputable def zXT(vm1:τM):T qg Int:=
 .frc (w64 ((w64 (vm1.1*vm1.2.2.2)) - (w64 (vm1.2.1*vm1.2.2.1)))) fun t2=>.ret t2
theorem zXe{vm1:τM}{r:Int}(h:zGC vm1=some r):zH qg 188 [.ag [Ti vm1.1,Ti vm1.2.1,Ti vm1.2.2.1,Ti vm1.2.2.2]] (I r) []:=CtU (zXT vm1) 2 (fun r=>I r) Tryz.func188 rfl rfl h
def zPF(vm1:τM):=fC zWC (zGC vm1) fun _=>zXe
theorem zOp:CfW qg 104:=cfW Tryz.func104
noncomputable def zPR(vm1:τM):T qg (τM):=
 .op1 (zPF vm1) fun y2=>
 .n0 (bld pl61 bt61)<|
 .frc (w64 (y2*vm1.2.2.2)) fun f3=>.frc (w64 ((w64 (0 - y2))*vm1.2.1)) fun f4=>.frc (w64 ((w64 (0 - y2))*vm1.2.2.1)) fun f5=>.frc (w64 (y2*vm1.1)) fun f6=>.ret ((f3,f4,f5,f6))
theorem zP5{vm1:τM}{r:τM}(h:zCS vm1=some r):zH qg 104 [.ag [Ti vm1.1,Ti vm1.2.1,Ti vm1.2.2.1,Ti vm1.2.2.2]] (.ag [Ti r.1,Ti r.2.1,Ti r.2.2.1,Ti r.2.2.2]) []:=CtT (zPR vm1) (fun r=>(.ag [Ti r.1,Ti r.2.1,Ti r.2.2.1,Ti r.2.2.2],[])) (rs:=[.w 2 4]) (vs:=[.cell 2 61]) Tryz.func104 rfl rfl (.cons ⟨rfl,wd61⟩ FitsL.nil) h
def zFL(vm1:τM):=fC zOp (zCS vm1) fun _=>zP5
theorem zQD:CfW qg 105:=cfW Tryz.func105
noncomputable def zQj(vm1:τM):T qg Bool:=
 .pl<|.joinC (.op1 (zBm vm1.1) fun y2=>.seqT (.cond y2 (.op1 (zBm vm1.2.1) fun y4=>.ret y4) (.ret false)) fun b5=>.seqT (.cond b5 (.op1 (zBm vm1.2.2.1) fun y7=>.ret y7) (.ret false)) fun b8=>.seqT (.cond b8 (.op1 (zBm vm1.2.2.2) fun y10=>.ret y10) (.ret false)) fun b11=>.ret (y2,b5,b8,b11)) (mb 21 4) [] (fun s q_1 γ=>s.pc (mb 21 4) [] [(2,Bo q_1.2.2.2)] []) fun q_1=>
 .ret q_1.2.2.2
theorem zRB{vm1:τM}{r:Bool}(h:zCv vm1=some r):zH qg 105 [.ag [Ti vm1.1,Ti vm1.2.1,Ti vm1.2.2.1,Ti vm1.2.2.2]] (Bo r) []:=CtU (zQj vm1) 2 (fun r=>Bo r) Tryz.func105 rfl rfl h
def zHO(vm1:τM):=fC zQD (zCv vm1) fun _=>zRB
theorem zID:CfW qg 51:=cfW Tryz.func51
noncomputable def zIW(f1:τF)(g2:τF):T qg ((τM×Bool)):=
 .pl<|.dn<|.joinC (.op1 (zBS f1) fun y3=>.seqT (.cond (!y3) (.ret true) (.op1 (zBS g2) fun y5=>.ret (!y5))) fun b6=>.ret (y3,b6)) (mb 44 262172) [32,24,16] (fun s q_2 γ=>s.pc (mb 44 262172) [32,24,16] [(18,Bo q_2.2)] []) fun q_2=>
 .cond q_2.2 (.n0 (bld pl61 bt61)<|
 .ret (((0,0,0,0),false)))<|.op1 (zCJ f1) fun y8=>
 .op1 (zCJ g2) fun y9=>
 .draw 5 []<|.op1 (zFL y9.2) fun y10=>.op1 (zC2 y8.2 y10) fun y11=>
 .dn<|.joinC (.n0 (neg3 zZb)<|.seqT (.cond (!((y8.1.1==y9.1.1)&&((y8.1.2.1==y9.1.2.1)&&(y8.1.2.2==y9.1.2.2)))) (.ret true) (.op1 (zHO y11) fun y13=>.ret (!y13))) fun b14=>.ret b14) (mb 44 2199023256592) [80,32] (fun s q_1 γ=>s.pc (mb 44 2199023256592) [80,32] [(41,Bo q_1)] []) fun q_1=>
 .cond q_1 (.n0 (bld pl61 bt61)<|
 .ret (((0,0,0,0),false)))<|
 .ret ((y11,true))
theorem zI0{f1:τF}{g2:τF}{r:(τM×Bool)}(h:zBW f1 g2=some r):zH qg 51 [.ag [Ti f1.1,Ti f1.2.1,Ti f1.2.2],.ag [Ti g2.1,Ti g2.2.1,Ti g2.2.2]] (.tc (.ag [Ti r.1.1,Ti r.1.2.1,Ti r.1.2.2.1,Ti r.1.2.2.2]) (.tc (Bo r.2) .tn)) []:=CtT (zIW f1 g2) (fun r=>(.tc (.ag [Ti r.1.1,Ti r.1.2.1,Ti r.1.2.2.1,Ti r.1.2.2.2]) (.tc (Bo r.2) .tn),[])) (rs:=[.w 4 4,.t 5]) (vs:=[.cell 4 61,.tmp 5]) Tryz.func51 rfl rfl (.cons ⟨rfl,wd61⟩ (.cons rfl FitsL.nil)) h
def zIl(f1:τF)(g2:τF):=fC zID (zBW f1 g2) fun _=>zI0
theorem zMn:CfW qg 73:=cfW Tryz.func73
theorem zP3:∀(n:Nat){vn1:Int}{r:qe},zB3 n vn1=some r→zH qg 73 [I vn1] (.c (.v (.string r))) []:=by
 intro n
 induction n with
 |zero=>intro vn1 r h;cases h
 |succ n ih=>
  intro vn1 r h;refine CtW [2] Tryz.func73 rfl rfl 20 ?_
  rw[zB3]at h;show V _ _ ⟨I vn1::bt 19 [],[]⟩ _;refine VE ?_
  refine qB ?_
  refine VE ?_
  refine VC h (fun h=>?_) (fun h=>?_)
  ·refine VS ?_
   refine YR 2 ?_
   refine L0 rfl rfl (zYg (k2:=.i64) (a:=w64 (48+vn1)) Tryz.underlying3 Tryz.underlying5 rfl kk) ?_
   refine L1 rfl rfl (zFk (z:=zv5) (els:=[IntKind.u8.wrap (w64 (48+vn1))].map c5) Tryz.underlying22 iz5 rfl (by decide) rfl kk rfl (by simp[c5]) (by decide) (by decide)) ?_
   refine L0 rfl rfl (z1d (c:=c5) (fun _=>rfl) ([IntKind.u8.wrap (w64 (48+vn1))]) Tryz.underlying22 Tryz.underlying5 Tryz.underlying9 rfl kk) ?_
   refine YF ?_
   cases h;exact zCI VT
  ·refine jC ?_
   show V _ _ _ _;obtain⟨y3,hy3,h⟩:=zD h;obtain⟨u4,hu4,h⟩:=zD h;refine VDS [0,1,3,0,8,24,56,120,248,511,1023] 11 (cdm 11 [174720,174721,174725,42,106,362,1386,5482,21866,87381,349525]) ?_
   refine ER 1 ?_
   refine E0 1 rfl rfl (jI (a:=vn1) (b:=10) rfl kk kk (by decide)) ?_
   refine EK 0 (ih hy3) zMn ?_
   refine ER 1 ?_
   refine E0 4 rfl rfl (zAo (k:=.i64) (a:=vn1) (b:=10) rfl kk kk (by decide)) ?_
   refine ER 1 ?_
   refine E0 6 rfl rfl (zYg (k2:=.i64) (a:=w64 (48+(Int.tmod vn1 10))) Tryz.underlying3 Tryz.underlying5 rfl kk) ?_
   refine E1 7 rfl rfl (zFk (z:=zv5) (els:=[IntKind.u8.wrap (w64 (48+(Int.tmod vn1 10)))].map c5) Tryz.underlying22 iz5 rfl (by decide) rfl kk rfl (by simp[c5]) (by decide) (by decide)) ?_
   refine E0 8 rfl rfl (z1d (c:=c5) (fun _=>rfl) ([IntKind.u8.wrap (w64 (48+(Int.tmod vn1 10)))]) Tryz.underlying22 Tryz.underlying5 Tryz.underlying9 rfl kk) ?_
   refine E0 9 rfl rfl (z6D (a:=y3) (b:=zCj ([IntKind.u8.wrap (w64 (48+(Int.tmod vn1 10)))])) rfl kk kk (zWw hu4)) ?_
   refine EF 1 ?_
   cases h;exact zCI VT
theorem zX9{vn1:Int}{r:qe}(h:zB3 FU vn1=some r):zH qg 73 [I vn1] (.c (.v (.string r))) []:=zP3 FU h
def zKJ(vn1:Int):=fC zMn (zB3 FU vn1) fun _=>zX9
theorem zVy:CfW qg 60:=cfW Tryz.func60
noncomputable def zXP(vn1:Int):T qg qe:=
 .cond (ltI vn1 0) (.op1 (zKJ (w64 (0 - vn1))) fun y3=>.op0 (cat ((⟨#[45]⟩:qe)) y3) fun u4=>
 .ret (((⟨#[45]⟩:qe))++y3))<|.op1 (zKJ vn1) fun y5=>
 .ret y5
theorem zXa{vn1:Int}{r:qe}(h:zU vn1=some r):zH qg 60 [I vn1] (.c (.v (.string r))) []:=CtU (zXP vn1) 2 (fun r=>.c (.v (.string r))) Tryz.func60 rfl rfl h
def jL(vn1:Int):=fC zVy (zU vn1) fun _=>zXa
theorem zUR:CfW qg 48:=cfW Tryz.func48
noncomputable def zVM(f1:τF):T qg qe:=
 .draw 16 []<|.op1 (jL f1.1) fun y2=>.op0 (cat ((⟨#[40]⟩:qe)) y2) fun u3=>.op0 (cat (((⟨#[40]⟩:qe))++y2) ((⟨#[44]⟩:qe))) fun u4=>.op1 (jL f1.2.1) fun y5=>.op0 (cat ((((⟨#[40]⟩:qe))++y2)++((⟨#[44]⟩:qe))) y5) fun u6=>.op0 (cat (((((⟨#[40]⟩:qe))++y2)++((⟨#[44]⟩:qe)))++y5) ((⟨#[44]⟩:qe))) fun u7=>.op1 (jL f1.2.2) fun y8=>.op0 (cat ((((((⟨#[40]⟩:qe))++y2)++((⟨#[44]⟩:qe)))++y5)++((⟨#[44]⟩:qe))) y8) fun u9=>.op0 (cat (((((((⟨#[40]⟩:qe))++y2)++((⟨#[44]⟩:qe)))++y5)++((⟨#[44]⟩:qe)))++y8) ((⟨#[41]⟩:qe))) fun u10=>
 .ret ((((((((⟨#[40]⟩:qe))++y2)++((⟨#[44]⟩:qe)))++y5)++((⟨#[44]⟩:qe)))++y8)++((⟨#[41]⟩:qe)))
theorem zVd{f1:τF}{r:qe}(h:jS f1=some r):zH qg 48 [.ag [Ti f1.1,Ti f1.2.1,Ti f1.2.2]] (.c (.v (.string r))) []:=CtU (zVM f1) 2 (fun r=>.c (.v (.string r))) Tryz.func48 rfl rfl h
def zBE(f1:τF):=fC zUR (jS f1) fun _=>zVd
theorem zLd:CfW qg 49:=cfW Tryz.func49
noncomputable def zMP(vm1:τM):T qg qe:=
 .draw 21 []<|.op1 (jL vm1.1) fun y2=>.op0 (cat ((⟨#[91]⟩:qe)) y2) fun u3=>.op0 (cat (((⟨#[91]⟩:qe))++y2) ((⟨#[44]⟩:qe))) fun u4=>.op1 (jL vm1.2.1) fun y5=>.op0 (cat ((((⟨#[91]⟩:qe))++y2)++((⟨#[44]⟩:qe))) y5) fun u6=>.op0 (cat (((((⟨#[91]⟩:qe))++y2)++((⟨#[44]⟩:qe)))++y5) ((⟨#[59]⟩:qe))) fun u7=>.op1 (jL vm1.2.2.1) fun y8=>.op0 (cat ((((((⟨#[91]⟩:qe))++y2)++((⟨#[44]⟩:qe)))++y5)++((⟨#[59]⟩:qe))) y8) fun u9=>.op0 (cat (((((((⟨#[91]⟩:qe))++y2)++((⟨#[44]⟩:qe)))++y5)++((⟨#[59]⟩:qe)))++y8) ((⟨#[44]⟩:qe))) fun u10=>.op1 (jL vm1.2.2.2) fun y11=>.op0 (cat ((((((((⟨#[91]⟩:qe))++y2)++((⟨#[44]⟩:qe)))++y5)++((⟨#[59]⟩:qe)))++y8)++((⟨#[44]⟩:qe))) y11) fun u12=>.op0 (cat (((((((((⟨#[91]⟩:qe))++y2)++((⟨#[44]⟩:qe)))++y5)++((⟨#[59]⟩:qe)))++y8)++((⟨#[44]⟩:qe)))++y11) ((⟨#[93]⟩:qe))) fun u13=>
 .ret ((((((((((⟨#[91]⟩:qe))++y2)++((⟨#[44]⟩:qe)))++y5)++((⟨#[59]⟩:qe)))++y8)++((⟨#[44]⟩:qe)))++y11)++((⟨#[93]⟩:qe)))
theorem zMZ{vm1:τM}{r:qe}(h:zAT vm1=some r):zH qg 49 [.ag [Ti vm1.1,Ti vm1.2.1,Ti vm1.2.2.1,Ti vm1.2.2.2]] (.c (.v (.string r))) []:=CtU (zMP vm1) 2 (fun r=>.c (.v (.string r))) Tryz.func49 rfl rfl h
def zEH(vm1:τM):=fC zLd (zAT vm1) fun _=>zMZ
theorem zUL:CfW qg 47:=cfW Tryz.func47
noncomputable def zVG(l1:List qe):T qg qe:=
 .n0 (lenM ct9 l1)<|
 .loop (fun n X_1=>zBd l1 n X_1.1 X_1.2) (((⟨#[]⟩:qe),0)) (mb 22 456) [] (fun s X_1 γ=>s.pc (mb 22 456) [] [(3,.c (.v (.string X_1.1))),(8,I X_1.2)] []) (fun X_1=>
 .cond (ltI X_1.2 ((l1.length:Int))) (.op0 (idxM ct9 l1 X_1.2) fun e7=>
 .cond (ltI 0 X_1.2) (.op0 (cat X_1.1 ((⟨#[32]⟩:qe))) fun u9=>
 .op0 (cat (X_1.1++((⟨#[32]⟩:qe))) e7) fun u10=>
 .frc (w64 (X_1.2+1)) fun t11=>.ret (.inl (((X_1.1++((⟨#[32]⟩:qe)))++e7,t11))))<|.op0 (cat X_1.1 e7) fun u12=>
 .frc (w64 (X_1.2+1)) fun t13=>.ret (.inl ((X_1.1++e7,t13))))<|.ret (.inr X_1.1)) (mb 22 8) [] (fun s o5 γ=>s.pc (mb 22 8) [] [(3,.c (.v (.string o5)))] []) fun o5=>
 .ret o5
theorem zV7{l1:List qe}{r:qe}(h:j0 l1=some r):zH qg 47 [.c (.sl (l1.map c9))] (.c (.v (.string r))) []:=CtU (zVG l1) 2 (fun r=>.c (.v (.string r))) Tryz.func47 rfl rfl h
def zC1(l1:List qe):=fCs zUL (j0 l1) (fun _=>zV7) fun _=>rfl
theorem zG6:CfW qg 10:=cfW Tryz.func10
noncomputable def zGo(f1:τF)(g2:τF):T qg ((qe×Bool)):=
 .op1 (zIl f1 g2) fun y3=>
 .cond (!y3.2) (
 .ret (((⟨#[]⟩:qe),false)))<|.draw 10 []<|.op1 (zBE f1) fun y5=>.op1 (zBE g2) fun y6=>.op1 (zEH y3.1) fun y7=>.n1 bsl<|.op1 (zC1 ([(⟨#[101,113,117,105,118,97,108,101,110,116]⟩:qe),y5,y6,y7])) fun y8=>
 .ret ((y8,true))
theorem zGr{f1:τF}{g2:τF}{r:(qe×Bool)}(h:zA2 f1 g2=some r):zH qg 10 [.ag [Ti f1.1,Ti f1.2.1,Ti f1.2.2],.ag [Ti g2.1,Ti g2.2.1,Ti g2.2.2]] (.tc (.c (.v (.string r.1))) (.tc (Bo r.2) .tn)) []:=CtT (zGo f1 g2) (fun r=>(.tc (.c (.v (.string r.1))) (.tc (Bo r.2) .tn),[])) (rs:=[.t 4,.t 5]) (vs:=[.tmp 4,.tmp 5]) Tryz.func10 rfl rfl (.cons rfl (.cons rfl FitsL.nil)) h
def zHC(f1:τF)(g2:τF):=fC zG6 (zA2 f1 g2) fun _=>zGr
theorem zOo:CfW qg 38:=cfW Tryz.func38
noncomputable def zPQ(cc1:((List Int)×Int×Int))(vn2:Int):T qg ((Bool×((List Int)×Int×Int))):=
 .opx (zC cc1 vn2) fun y3=>
 .ret ((eqI y3.1 0,y3.2))
theorem zP4{cc1:((List Int)×Int×Int)}{vn2:Int}{r:(Bool×((List Int)×Int×Int))}(h:q9 cc1 vn2=some r):zES qg 38 [.pt 80000 0,I vn2] [(80000,.box [.sl (cc1.1.map c5),Ti cc1.2.1,.v (.int .u64 cc1.2.2)])] (Bo r.1) [] [(80000,.box [.sl (r.2.1.map c5),Ti r.2.2.1,.v (.int .u64 r.2.2.2)])]:=CrT (zPQ cc1 vn2) (fun r=>(Bo r.1,[])) (fun r=>[(80000,.box [.sl (r.2.1.map c5),Ti r.2.2.1,.v (.int .u64 r.2.2.2)])]) (rs:=[.t 4]) (vs:=[.tmp 4]) Tryz.func38 rfl rfl (.cons rfl FitsL.nil) h
def zAh(cc1:((List Int)×Int×Int))(vn2:Int):=fR zOo (q9 cc1 vn2) fun _=>zP4
theorem zJP:CfW qg 92:=cfW Tryz.func92
noncomputable def zJ5(cc1:((List Int)×Int×Int)):T qg ((τF×((List Int)×Int×Int))):=
 .opx (zAh cc1 12) fun y2=>
 .cond y2.1 (.opx (zDd y2.2) fun y4=>
 .ret ((y4.1,y4.2)))<|.opx (zCN y2.2) fun y5=>.opx (zCk y5.2 y5.1) fun y6=>
 .opx (zAh y6.2 2) fun y7=>
 .cond y7.1 (.opx (zCX y7.2 y6.1) fun y9=>
 .ret ((y9.1,y9.2)))<|
 .ret ((y6.1,y7.2))
theorem zJi{cc1:((List Int)×Int×Int)}{r:(τF×((List Int)×Int×Int))}(h:zAL cc1=some r):zES qg 92 [.pt 80000 0] [(80000,.box [.sl (cc1.1.map c5),Ti cc1.2.1,.v (.int .u64 cc1.2.2)])] (.ag [Ti r.1.1,Ti r.1.2.1,Ti r.1.2.2]) [] [(80000,.box [.sl (r.2.1.map c5),Ti r.2.2.1,.v (.int .u64 r.2.2.2)])]:=CrT (zJ5 cc1) (fun r=>(.ag [Ti r.1.1,Ti r.1.2.1,Ti r.1.2.2],[])) (fun r=>[(80000,.box [.sl (r.2.1.map c5),Ti r.2.2.1,.v (.int .u64 r.2.2.2)])]) (rs:=[.w 2 3]) (vs:=[.cell 2 25]) Tryz.func92 rfl rfl (.cons ⟨rfl,wd25⟩ FitsL.nil) h
def zE5(cc1:((List Int)×Int×Int)):=fR zJP (zAL cc1) fun _=>zJi
theorem zUD:CfW qg 124:=cfW Tryz.func124
noncomputable def zUy(f1:τF):T qg Bool:=
 .pl<|.joinC (.op1 (zBS f1) fun y2=>.seqT (.cond y2 (.op1 (zAC f1) fun y4=>.ret (leI (-2000) y4)) (.ret false)) fun b5=>.ret (y2,b5)) (mb 10 4) [] (fun s q_1 γ=>s.pc (mb 10 4) [] [(2,Bo q_1.2)] []) fun q_1=>
 .ret q_1.2
theorem zVZ{f1:τF}{r:Bool}(h:zEC f1=some r):zH qg 124 [.ag [Ti f1.1,Ti f1.2.1,Ti f1.2.2]] (Bo r) []:=CtU (zUy f1) 2 (fun r=>Bo r) Tryz.func124 rfl rfl h
def zIg(f1:τF):=fC zUD (zEC f1) fun _=>zVZ
theorem zUZ:CfW qg 72:=cfW Tryz.func72
noncomputable def zVU(f1:τF):T qg Bool:=
 .pl<|.joinC (.op1 (zIg f1) fun y2=>.seqT (.cond y2 (.op1 (zGa f1) fun y4=>.ret (eqI y4 1)) (.ret false)) fun b5=>.ret (y2,b5)) (mb 10 4) [] (fun s q_1 γ=>s.pc (mb 10 4) [] [(2,Bo q_1.2)] []) fun q_1=>
 .ret q_1.2
theorem zVl{f1:τF}{r:Bool}(h:zC0 f1=some r):zH qg 72 [.ag [Ti f1.1,Ti f1.2.1,Ti f1.2.2]] (Bo r) []:=CtU (zVU f1) 2 (fun r=>Bo r) Tryz.func72 rfl rfl h
def zFY(f1:τF):=fC zUZ (zC0 f1) fun _=>zVl
theorem zI9:CfW qg 40:=cfW Tryz.func40
noncomputable def zIn(cc1:((List Int)×Int×Int)):T qg ((τF×τF×((List Int)×Int×Int))):=
 .opx (zE5 cc1) fun y2=>
 .dn<|.joinC (.op1 (zFY y2.1) fun y3=>.seqT (.cond (!y3) (.ret ((true,y2.2))) (.opx (zAh y2.2 16) fun y5=>.ret ((y5.1,y5.2)))) fun b6=>.ret (y3,b6)) (mb 30 16413) [32,24,16,80000] (fun s q_3 γ=>s.pc (mb 30 16413) [32,24,16,80000] [(14,Bo q_3.2.1)] [(80000,s.pbx 80000 [.sl (q_3.2.2.1.map c5),Ti q_3.2.2.2.1,.v (.int .u64 q_3.2.2.2.2)])]) fun q_3=>
 .cond q_3.2.1 (.joinC (.drawL [1,1,0,1,1]<|.opx (zE5 q_3.2.2) fun y8=>.ret y8) (mb 30 12) [24,16,80000] (fun s q_1 γ=>s.pc (mb 30 12) [24,16,80000] [] [(24,.box [Ti q_1.1.1,Ti q_1.1.2.1,Ti q_1.1.2.2]),(16,.box [Ti y2.1.1,Ti y2.1.2.1,Ti y2.1.2.2]),(80000,s.pbx 80000 [.sl (q_1.2.1.map c5),Ti q_1.2.2.1,.v (.int .u64 q_1.2.2.2)])]) fun q_1=>
 .ret ((y2.1,q_1.1,q_1.2)))<|.op1 (zAC y2.1) fun y9=>.opx (zCk q_3.2.2 y9) fun y10=>
 .opx (zAh y10.2 2) fun y11=>
 .cond y11.1 (.joinC (.drawL [1,1,1,0,1,1]<|.opx (zCX y11.2 y10.1) fun y13=>.ret y13) (mb 30 12) [24,16,80000] (fun s q_2 γ=>s.pc (mb 30 12) [24,16,80000] [] [(24,.box [Ti q_2.1.1,Ti q_2.1.2.1,Ti q_2.1.2.2]),(16,.box [Ti y2.1.1,Ti y2.1.2.1,Ti y2.1.2.2]),(80000,s.pbx 80000 [.sl (q_2.2.1.map c5),Ti q_2.2.2.1,.v (.int .u64 q_2.2.2.2)])]) fun q_2=>
 .ret ((y2.1,q_2.1,q_2.2)))<|.draw 3 [(2,16)]<|
 .ret ((y2.1,y10.1,y11.2))
theorem zIy{cc1:((List Int)×Int×Int)}{r:(τF×τF×((List Int)×Int×Int))}(h:zAV cc1=some r):zES qg 40 [.pt 80000 0] [(80000,.box [.sl (cc1.1.map c5),Ti cc1.2.1,.v (.int .u64 cc1.2.2)])] (.tc (.ag [Ti r.1.1,Ti r.1.2.1,Ti r.1.2.2]) (.tc (.ag [Ti r.2.1.1,Ti r.2.1.2.1,Ti r.2.1.2.2]) .tn)) [] [(80000,.box [.sl (r.2.2.1.map c5),Ti r.2.2.2.1,.v (.int .u64 r.2.2.2.2)])]:=CrT (zIn cc1) (fun r=>(.tc (.ag [Ti r.1.1,Ti r.1.2.1,Ti r.1.2.2]) (.tc (.ag [Ti r.2.1.1,Ti r.2.1.2.1,Ti r.2.1.2.2]) .tn),[])) (fun r=>[(80000,.box [.sl (r.2.2.1.map c5),Ti r.2.2.2.1,.v (.int .u64 r.2.2.2.2)])]) (rs:=[.w 2 3,.w 3 3]) (vs:=[.cell 2 25,.cell 3 25]) Tryz.func40 rfl rfl (.cons ⟨rfl,wd25⟩ (.cons ⟨rfl,wd25⟩ FitsL.nil)) h
def zFl(cc1:((List Int)×Int×Int)):=fR zI9 (zAV cc1) fun _=>zIy
theorem zGx:CfW qg 8:=cfW Tryz.func8
noncomputable def zHD(f1:τF)(g2:τF):T qg ((qe×Bool)):=
 .pl<|.dn<|.joinC (.op1 (zBS f1) fun y3=>.seqT (.cond (!y3) (.ret true) (.op1 (zBS g2) fun y5=>.ret (!y5))) fun b6=>.ret (y3,b6)) (mb 45 131084) [24,16] (fun s q_1 γ=>s.pc (mb 45 131084) [24,16] [(17,Bo q_1.2)] []) fun q_1=>
 .cond q_1.2 (
 .ret (((⟨#[]⟩:qe),false)))<|.op1 (zCJ f1) fun y8=>
 .op1 (zCJ g2) fun y9=>
 .n0 (eqg3 zWo)<|
 .lt (((y8.1.1==y9.1.1)&&((y8.1.2.1==y9.1.2.1)&&(y8.1.2.2==y9.1.2.2)))) fun t10=>.cond t10 (
 .ret (((⟨#[]⟩:qe),false)))<|.draw 16 []<|.op1 (zBE f1) fun y12=>.op1 (zEH y8.2) fun y13=>.op1 (zBE y8.1) fun y14=>.op1 (zBE g2) fun y15=>.op1 (zEH y9.2) fun y16=>.op1 (zBE y9.1) fun y17=>.n1 bsl<|.op1 (zC1 ([(⟨#[100,105,102,102,101,114,101,110,116]⟩:qe),y12,y13,y14,y15,y16,y17])) fun y18=>
 .ret ((y18,true))
theorem zHF{f1:τF}{g2:τF}{r:(qe×Bool)}(h:zAd f1 g2=some r):zH qg 8 [.ag [Ti f1.1,Ti f1.2.1,Ti f1.2.2],.ag [Ti g2.1,Ti g2.2.1,Ti g2.2.2]] (.tc (.c (.v (.string r.1))) (.tc (Bo r.2) .tn)) []:=CtT (zHD f1 g2) (fun r=>(.tc (.c (.v (.string r.1))) (.tc (Bo r.2) .tn),[])) (rs:=[.t 4,.t 5]) (vs:=[.tmp 4,.tmp 5]) Tryz.func8 rfl rfl (.cons rfl (.cons rfl FitsL.nil)) h
def zHP(f1:τF)(g2:τF):=fC zGx (zAd f1 g2) fun _=>zHF
theorem zRP:CfW qg 151:=cfW Tryz.func151
noncomputable def zSI(f1:τF):T qg (τF):=
 .op1 (zCJ f1) fun y2=>
 .ret y2.1
theorem zSi{f1:τF}{r:τF}(h:zAU f1=some r):zH qg 151 [.ag [Ti f1.1,Ti f1.2.1,Ti f1.2.2]] (.ag [Ti r.1,Ti r.2.1,Ti r.2.2]) []:=CtT (zSI f1) (fun r=>(.ag [Ti r.1,Ti r.2.1,Ti r.2.2],[])) (rs:=[.w 2 3]) (vs:=[.cell 2 25]) Tryz.func151 rfl rfl (.cons ⟨rfl,wd25⟩ FitsL.nil) h
def zEz(f1:τF):=fC zRP (zAU f1) fun _=>zSi
theorem zM3:CfW qg 195:=cfW Tryz.func195
noncomputable def zMv(cc1:((List Int)×Int×Int))(f2:τF):T qg ((Int×((List Int)×Int×Int))):=
 .opx (zC cc1 8) fun y3=>
 .cond (eqI y3.1 0) (.n1 bsl<|.hint (frzH 96)<|.opx (zA8 y3.2 ([0,1,-1,10000,10001,4611686018427387904])) fun y5=>
 .ret ((y5.1,y5.2)))<|.join (
 .cond (eqI y3.1 1) (.ret (eqI y3.1 1))<|
 .ret (eqI y3.1 2)) (mb 49 16649) [24,80000] (fun s j6 γ=>s.pc (mb 49 16649) [24,80000] [(14,Bo j6)] []) fun j6=>
 .cond j6 (.opx (zC y3.2 200) fun y9=>
 .frc (w64 (1+y9.1)) fun t10=>.ret ((t10,y9.2)))<|
 .cond (eqI y3.1 3) (.opx (zC y3.2 10000) fun y12=>
 .frc (w64 (1+y12.1)) fun t13=>.ret ((t13,y12.2)))<|.op1 (zIg f2) fun y14=>
 .cond (!y14) (.opx (zC y3.2 50) fun y16=>
 .frc (w64 (1+y16.1)) fun t17=>.ret ((t17,y16.2)))<|.op1 (zEz f2) fun y18=>
 .joinC (.drawM true 7 [1,2,3,6,7,14,15,16,17,18,19,22,23,30,31,54,55,62,63,118,119,126,127] [1,1,0,1,1,0,1,0,1]<|.opx (zC y3.2 13) fun y19=>.opx (zC y19.2 13) fun y20=>.op1 (zET y18 (w64 (y19.1 - 6)) (w64 (y20.1 - 6))) fun y21=>.ret (y19,y20,y21)) (mb 49 65) [80000] (fun s q_1 γ=>s.pc (mb 49 65) [80000] [(6,I q_1.2.2)] [(80000,s.pbx 80000 [.sl (q_1.2.1.2.1.map c5),Ti q_1.2.1.2.2.1,.v (.int .u64 q_1.2.1.2.2.2)])]) fun q_1=>
 .opx (zAh q_1.2.1.2 4) fun y22=>
 .cond y22.1 (.n1 bsl<|.hint (frzH 360)<|.opx (zA8 y22.2 ([4,9,25,2,3])) fun y24=>
 .frc (w64 (q_1.2.2*y24.1)) fun vn25=>
 .ret ((vn25,y24.2)))<|
 .ret ((q_1.2.2,y22.2))
theorem zNH{cc1:((List Int)×Int×Int)}{f2:τF}{r:(Int×((List Int)×Int×Int))}(h:zCR cc1 f2=some r):zES qg 195 [.pt 80000 0,.ag [Ti f2.1,Ti f2.2.1,Ti f2.2.2]] [(80000,.box [.sl (cc1.1.map c5),Ti cc1.2.1,.v (.int .u64 cc1.2.2)])] (I r.1) [] [(80000,.box [.sl (r.2.1.map c5),Ti r.2.2.1,.v (.int .u64 r.2.2.2)])]:=CrT (zMv cc1 f2) (fun r=>(I r.1,[])) (fun r=>[(80000,.box [.sl (r.2.1.map c5),Ti r.2.2.1,.v (.int .u64 r.2.2.2)])]) (rs:=[.t 4]) (vs:=[.tmp 4]) Tryz.func195 rfl rfl (.cons rfl FitsL.nil) h
def zNh(cc1:((List Int)×Int×Int))(f2:τF):=fR zM3 (zCR cc1 f2) fun _=>zNH
theorem zL8:CfW qg 121:=cfW Tryz.func121
noncomputable def zMK(cc1:((List Int)×Int×Int)):T qg ((τF×Int×((List Int)×Int×Int))):=
 .opx (zCN cc1) fun y2=>.opx (zCk y2.2 y2.1) fun y3=>.opx (zCX y3.2 y3.1) fun y4=>
 .join (.opx (zC y4.2 12) fun y6=>
 .cond (eqI y6.1 0) (.opx (zDd y6.2) fun y8=>
 .ret (y8.1.1,y8.1.2.1,y8.1.2.2,y8.2.1,y8.2.2.1,y8.2.2.2))<|
 .cond (eqI y6.1 1) (.opx (zC y6.2 4) fun y10=>.n0 (bld pl25 bt25)<|
 .ret (3,y10.1,3,y10.2.1,y10.2.2.1,y10.2.2.2))<|
 .cond (eqI y6.1 2) (.opx (zC y6.2 2) fun y12=>.opx (zC y12.2 2) fun y13=>.n0 (bld pl25 bt25)<|
 .frc (w64 (1+y12.1)) fun f14=>.frc (w64 (1+y13.1)) fun f15=>.ret (f14,0,f15,y13.2.1,y13.2.2.1,y13.2.2.2))<|.ret (y4.1.1,y4.1.2.1,y4.1.2.2,y6.2.1,y6.2.2.1,y6.2.2.2)) (mb 35 21) [32,16,80000] (fun s j5 γ=>s.pc (mb 35 21) [32,16,80000] [] [(32,.box [Ti j5.1,Ti j5.2.1,Ti j5.2.2.1]),(80000,s.pbx 80000 [.sl (j5.2.2.2.1.map c5),Ti j5.2.2.2.2.1,.v (.int .u64 j5.2.2.2.2.2)])]) fun j5=>
 .joinC (.drawL [1,1,1,0,1,1]<|.opx (zNh j5.2.2.2 ((j5.1,j5.2.1,j5.2.2.1))) fun y16=>.ret y16) (mb 35 12) [16,80000] (fun s q_1 γ=>s.pc (mb 35 12) [16,80000] [(3,I q_1.1)] [(16,.box [Ti j5.1,Ti j5.2.1,Ti j5.2.2.1]),(80000,s.pbx 80000 [.sl (q_1.2.1.map c5),Ti q_1.2.2.1,.v (.int .u64 q_1.2.2.2)])]) fun q_1=>
 .ret (((j5.1,j5.2.1,j5.2.2.1),q_1.1,q_1.2))
theorem zMU{cc1:((List Int)×Int×Int)}{r:(τF×Int×((List Int)×Int×Int))}(h:zCE cc1=some r):zES qg 121 [.pt 80000 0] [(80000,.box [.sl (cc1.1.map c5),Ti cc1.2.1,.v (.int .u64 cc1.2.2)])] (.tc (.ag [Ti r.1.1,Ti r.1.2.1,Ti r.1.2.2]) (.tc (I r.2.1) .tn)) [] [(80000,.box [.sl (r.2.2.1.map c5),Ti r.2.2.2.1,.v (.int .u64 r.2.2.2.2)])]:=CrT (zMK cc1) (fun r=>(.tc (.ag [Ti r.1.1,Ti r.1.2.1,Ti r.1.2.2]) (.tc (I r.2.1) .tn),[])) (fun r=>[(80000,.box [.sl (r.2.2.1.map c5),Ti r.2.2.2.1,.v (.int .u64 r.2.2.2.2)])]) (rs:=[.w 2 3,.t 3]) (vs:=[.cell 2 25,.tmp 3]) Tryz.func121 rfl rfl (.cons ⟨rfl,wd25⟩ (.cons rfl FitsL.nil)) h
def zMc(cc1:((List Int)×Int×Int)):=fR zL8 (zCE cc1) fun _=>zMU
theorem zRN:CfW qg 125:=cfW Tryz.func125
noncomputable def zSG(vn1:Int):T qg Bool:=
 .op1 (zEZ vn1 1 10000) fun y2=>
 .ret y2
theorem zSg{vn1:Int}{r:Bool}(h:zC5 vn1=some r):zH qg 125 [I vn1] (Bo r) []:=CtU (zSG vn1) 2 (fun r=>Bo r) Tryz.func125 rfl rfl h
def zLk(vn1:Int):=fC zRN (zC5 vn1) fun _=>zSg
theorem zUM:CfW qg 200:=cfW Tryz.func200
noncomputable def zVH(vn1:Int):T qg Int:=
 .loop (fun n X_1=>zDS vn1 n X_1.1 X_1.2) ((0,1000000000)) (mb 23 25) [] (fun s X_1 γ=>s.pc (mb 23 25) [] [(3,I X_1.1),(4,I X_1.2)] []) (fun X_1=>
 .cond (ltI X_1.1 X_1.2) (.n0 dvN<|
 .frc (w64 (Int.tdiv (w64 ((w64 (X_1.1+X_1.2))+1)) 2)) fun mid7=>
 .cond (leI (w64 (mid7*mid7)) vn1) (
 .ret (.inl ((mid7,X_1.2))))<|
 .frc (w64 (mid7 - 1)) fun hi9=>.ret (.inl ((X_1.1,hi9))))<|.ret (.inr X_1.1)) (mb 23 8) [] (fun s o5 γ=>s.pc (mb 23 8) [] [(3,I o5)] []) fun o5=>
 .ret o5
theorem zV8{vn1:Int}{r:Int}(h:zDN vn1=some r):zH qg 200 [I vn1] (I r) []:=CtU (zVH vn1) 2 (fun r=>I r) Tryz.func200 rfl rfl h
def zGl(vn1:Int):=fC zUM (zDN vn1) fun _=>zV8
theorem zVt:CfW qg 201:=cfW Tryz.func201
noncomputable def zXK(l1:List (Int×Int))(p2:(Int×Int)):T qg Bool:=
 .n0 (lenM ct85 l1)<|
 .loopS (fun n X_1=>zDi l1 p2 n X_1) 0 (mb 17 904) [24] (fun s X_1 γ=>s.pc (mb 17 904) [24] [(9,I X_1)] []) (fun X_1=>
 .cond (ltI X_1 ((l1.length:Int))) (.op0 (idxM ct85 l1 X_1) fun e7=>
 .n0 (eqg2 eqg85)<|
 .cond (((e7.1==p2.1)&&(e7.2==p2.2))) (
 .ret (.early true))<|
 .frc (w64 (X_1+1)) fun t9=>.ret (.again t9))<|.ret (.done (()))) (mb 17 0) [] (fun s o5 γ=>s.pc (mb 17 0) [] [] []) (fun r=>r) fun o5=>
 .ret false
theorem zX4{l1:List (Int×Int)}{p2:(Int×Int)}{r:Bool}(h:zE1 l1 p2=some r):zH qg 201 [.c (.sl (l1.map c85)),.ag [Ti p2.1,Ti p2.2]] (Bo r) []:=CtU (zXK l1 p2) 4 (fun r=>Bo r) Tryz.func201 rfl rfl h
def zYm(l1:List (Int×Int))(p2:(Int×Int)):=fC zVt (zE1 l1 p2) fun _=>zX4
theorem zVs:CfW qg 202:=cfW Tryz.func202
noncomputable def zXJ(l1:List (Int×Int))(p2:(Int×Int)):T qg (List (Int×Int)):=
 .n1 (nilN 85 2 (by decide))<|
 .loop (fun n X_2=>zDh l1 p2 n X_2) 0 (mb 57 41) [24] (fun s X_2 γ=>s.pc (mb 57 41) [24] [(5,I X_2)] []) (fun X_2=>
 .dn<|.joinC (.draw 34 []<|.n0 (lenM ct85 l1)<|.seqT (.cond (ltI X_2 ((l1.length:Int))) (.op0 (idxM ct85 l1 X_2) fun e7=>.seqT (.cond (ltI e7.1 p2.1) (.ret true) (.op0 (idxM ct85 l1 X_2) fun e9=>.seqT (.cond (eqI e9.1 p2.1) (.op0 (idxM ct85 l1 X_2) fun e11=>.ret (ltI e11.2 p2.2)) (.ret false)) fun b12=>.ret b12)) fun b13=>.ret b13) (.ret false)) fun b14=>.ret b14) (mb 57 1099511627817) [24] (fun s q_1 γ=>s.pc (mb 57 1099511627817) [24] [(40,Bo q_1)] []) fun q_1=>
 .cond q_1 (
 .frc (w64 (X_2+1)) fun k16=>.ret (.inl k16))<|.ret (.inr X_2)) (mb 57 41) [24] (fun s o5 γ=>s.pc (mb 57 41) [24] [(5,I o5)] []) fun o5=>
 .n1 bsl0<|.op0 (slice ct85 l1 0 o5) fun u17=>.opx (app ct85 (([]:List (Int×Int))) (subl l1 0 o5)) fun u18=>
 .n1 bsl<|.opx (app ct85 ((([]:List (Int×Int)))++(subl l1 0 o5)) ([p2])) fun u19=>
 .op0 (slice ct85 l1 o5 ((l1.length:Int))) fun u20=>.opx (app ct85 (((([]:List (Int×Int)))++(subl l1 0 o5))++([p2])) (subl l1 o5 ((l1.length:Int)))) fun u21=>
 .lt ((((([]:List (Int×Int)))++(subl l1 0 o5))++([p2]))++(subl l1 o5 ((l1.length:Int)))) fun l22=>.ret l22
theorem zX3{l1:List (Int×Int)}{p2:(Int×Int)}{r:List (Int×Int)}(h:zFD l1 p2=some r):zH qg 202 [.c (.sl (l1.map c85)),.ag [Ti p2.1,Ti p2.2]] (.ow 0) [(0,.arr 85 2 (r.map c85))]:=CtT (zXJ l1 p2) (fun r=>(.ow 0,[(0,.arr 85 2 (r.map c85))])) (rs:=[.t 4]) (vs:=[.tmp 4]) Tryz.func202 rfl rfl (.cons rfl FitsL.nil) h
def zYl(l1:List (Int×Int))(p2:(Int×Int)):=fC zVs (zFD l1 p2) fun _=>zX3
theorem zY3:CfW qg 127:=cfW Tryz.func127
noncomputable def zYx(f1:τF)(vn2:Int):T qg (List (Int×Int)):=
 .n1 (nilN 85 2 (by decide))<|
 .op1 (zAC f1) fun y3=>
 .n1 (nilN 85 2 (by decide))<|
 .hint (frzH 48)<|.loop (fun n X_3=>zEJ f1 vn2 y3 n X_3.1 X_3.2) ((0,([]:List (Int×Int)))) (mb 108 230) [16] (fun s X_3 γ=>s.pc (mb 108 230) [16] [(6,.c (.sl (X_3.2.map c85))),(7,I X_3.1)] []) (fun X_3=>
 .lt (leI (w64 ((w64 ((w64 (0 - y3))*X_3.1))*X_3.1)) (w64 ((w64 (4*f1.1))*vn2))) fun t8=>.cond t8 (.op1 (zGl (w64 ((w64 ((w64 (y3*X_3.1))*X_3.1))+(w64 ((w64 (4*f1.1))*vn2))))) fun y10=>
 .lt (!eqI (w64 (y10*y10)) (w64 ((w64 ((w64 (y3*X_3.1))*X_3.1))+(w64 ((w64 (4*f1.1))*vn2))))) fun t11=>.cond t11 (
 .frc (w64 (X_3.1+1)) fun y13=>.ret (.inl ((y13,X_3.2))))<|.n1 bsl<|.n0 (lenM ct3 ([X_3.1,w64 (0 - X_3.1)]))<|
 .frc ((([X_3.1,w64 (0 - X_3.1)]).length:Int)) fun t14=>.loop (fun n X_2=>zCG f1 t14 vn2 y10 y3 X_3.1 n X_2.1 X_2.2) ((X_3.2,0)) (mb 108 8070450532247929318) [480,16] (fun s X_2 γ=>s.pc (mb 108 8070450532247929318) [480,16] [(6,.c (.sl (X_2.1.map c85))),(62,I X_2.2)] []) (fun X_2=>
 .cond (ltI X_2.2 t14) (.op0 (zBi ct3 ([X_3.1,w64 (0 - X_3.1)]) X_2.2) fun e20=>.op0 (ldo ct3 ([X_3.1,w64 (0 - X_3.1)]) X_2.2) fun e21=>
 .n1 bsl<|.n0 (lenM ct3 ([y10,w64 (0 - y10)]))<|
 .frc ((([y10,w64 (0 - y10)]).length:Int)) fun t22=>.loop (fun n X_1=>zAa e21 f1 t14 X_2.2 t22 vn2 y10 y3 X_3.1 n X_1.1 X_1.2) ((X_2.1,0)) (mb 108 4140141123043187492326) [552,480,16] (fun s X_1 γ=>s.pc (mb 108 4140141123043187492326) [552,480,16] [(6,.c (.sl (X_1.1.map c85))),(71,I X_1.2)] []) (fun X_1=>
 .cond (ltI X_1.2 t22) (.op0 (zBi ct3 ([y10,w64 (0 - y10)]) X_1.2) fun e28=>.op0 (ldo ct3 ([y10,w64 (0 - y10)]) X_1.2) fun e29=>
 .op0 (remF .i64 (w64 (e29 - (w64 (f1.2.1*e21)))) (w64 (2*f1.1))) fun z30=>
 .lt (eqI (Int.tmod (w64 (e29 - (w64 (f1.2.1*e21)))) (w64 (2*f1.1))) 0) fun t31=>.cond t31 (.op0 (quoF .i64 (w64 (e29 - (w64 (f1.2.1*e21)))) (w64 (2*f1.1))) fun z33=>.n0 (bld pl85 bt85)<|
 .frc (w64 (Int.tdiv (w64 (e29 - (w64 (f1.2.1*e21)))) (w64 (2*f1.1)))) fun f34=>.op1 (zYm X_1.1 ((f34,e21))) fun y35=>
 .cond (!y35) (.op1 (zYl X_1.1 ((f34,e21))) fun y37=>
 .hint (frzH 832)<|
 .frc (w64 (X_1.2+1)) fun t38=>.ret (.inl ((y37,t38))))<|
 .frc (w64 (X_1.2+1)) fun t39=>.ret (.inl ((X_1.1,t39))))<|
 .frc (w64 (X_1.2+1)) fun t40=>.ret (.inl ((X_1.1,t40))))<|.ret (.inr X_1.1)) (mb 108 8070450532247929318) [480,16] (fun s o26 γ=>s.pc (mb 108 8070450532247929318) [480,16] [(6,.c (.sl (o26.map c85)))] []) fun o26=>
 .frc (w64 (X_2.2+1)) fun t41=>.ret (.inl ((o26,t41))))<|.ret (.inr X_2.1)) (mb 108 230) [16] (fun s o18 γ=>s.pc (mb 108 230) [16] [(6,.c (.sl (o18.map c85)))] []) fun o18=>
 .frc (w64 (X_3.1+1)) fun y42=>.ret (.inl ((y42,o18))))<|.ret (.inr X_3.2)) (mb 108 64) [] (fun s o7 γ=>s.pc (mb 108 64) [] [(6,.c (.sl (o7.map c85)))] []) fun o7=>
 .ret o7
theorem zZJ{f1:τF}{vn2:Int}{r:List (Int×Int)}(h:zGt f1 vn2=some r):zH qg 127 [.ag [Ti f1.1,Ti f1.2.1,Ti f1.2.2],I vn2] (.c (.sl (r.map c85))) []:=CtU (zYx f1 vn2) 4 (fun r=>.c (.sl (r.map c85))) Tryz.func127 rfl rfl h
def z0W(f1:τF)(vn2:Int):=fC zY3 (zGt f1 vn2) fun _=>zZJ
theorem zM2:CfW qg 126:=cfW Tryz.func126
noncomputable def zMu(l1:List (Int×Int)):T qg (List (Int×Int)):=
 .n1 (nilN 85 2 (by decide))<|
 .n1 (nilN 85 2 (by decide))<|
 .n0 (lenM ct85 l1)<|
 .loop (fun n X_1=>zAj l1 n X_1.1 X_1.2) ((0,([]:List (Int×Int)))) (mb 24 456) [24] (fun s X_1 γ=>s.pc (mb 24 456) [24] [(8,I X_1.1)] [(24,.arr 85 2 (X_1.2.map c85))]) (fun X_1=>
 .cond (ltI X_1.1 ((l1.length:Int))) (.op0 (idxM ct85 l1 X_1.1) fun e7=>
 .op1 (zEA e7.1 e7.2) fun y8=>
 .cond (eqI y8 1) (.n1 bsl<|.opx (app ct85 X_1.2 ([e7])) fun u10=>
 .frc (w64 (X_1.1+1)) fun t11=>.ret (.inl ((t11,X_1.2++([e7])))))<|
 .frc (w64 (X_1.1+1)) fun t12=>.ret (.inl ((t12,X_1.2))))<|.ret (.inr X_1.2)) (mb 24 8) [24] (fun s o5 γ=>s.pc (mb 24 8) [24] [] [(24,.arr 85 2 (o5.map c85))]) fun o5=>
 .ret o5
theorem zNG{l1:List (Int×Int)}{r:List (Int×Int)}(h:zE0 l1=some r):zH qg 126 [.c (.sl (l1.map c85))] (.ow 0) [(0,.arr 85 2 (r.map c85))]:=CtT (zMu l1) (fun r=>(.ow 0,[(0,.arr 85 2 (r.map c85))])) (rs:=[.t 2]) (vs:=[.tmp 2]) Tryz.func126 rfl rfl (.cons rfl FitsL.nil) h
def zNi(l1:List (Int×Int)):=fC zM2 (zE0 l1) fun _=>zNG
theorem zJQ:CfW qg 59:=cfW Tryz.func59
noncomputable def zJ6(f1:τF)(vn2:Int):T qg (((List (Int×Int))×Bool)):=
 .n1 (nilN 85 2 (by decide))<|
 .dn<|.joinC (.op1 (zIg f1) fun y3=>.seqT (.cond (!y3) (.ret true) (.op1 (zLk vn2) fun y5=>.ret (!y5))) fun b6=>.ret (y3,b6)) (mb 18 8198) [16] (fun s q_1 γ=>s.pc (mb 18 8198) [16] [(13,Bo q_1.2)] []) fun q_1=>
 .cond q_1.2 (.n1 (nilN 85 2 (by decide))<|
 .ret ((([]:List (Int×Int)),false)))<|.op1 (z0W f1 vn2) fun y8=>.op1 (zNi y8) fun y9=>
 .ret ((y9,true))
theorem zJj{f1:τF}{vn2:Int}{r:((List (Int×Int))×Bool)}(h:zA6 f1 vn2=some r):zH qg 59 [.ag [Ti f1.1,Ti f1.2.1,Ti f1.2.2],I vn2] (.tc (.ow 0) (.tc (Bo r.2) .tn)) [(0,.arr 85 2 (r.1.map c85))]:=CtT (zJ6 f1 vn2) (fun r=>(.tc (.ow 0) (.tc (Bo r.2) .tn),[(0,.arr 85 2 (r.1.map c85))])) (rs:=[.t 4,.t 5]) (vs:=[.tmp 4,.tmp 5]) Tryz.func59 rfl rfl (.cons rfl (.cons rfl FitsL.nil)) h
def zKN(f1:τF)(vn2:Int):=fC zJQ (zA6 f1 vn2) fun _=>zJj
theorem zIa:CfW qg 15:=cfW Tryz.func15
noncomputable def zIo(f1:τF)(vn2:Int):T qg ((qe×Bool)):=
 .op1 (zKN f1 vn2) fun y3=>
 .dn<|.joinC (.selB (!y3.2) false [.z (lenM ct85 y3.1)] fun w_4=>.ret w_4) (mb 37 1048646) [88,16] (fun s q_5 γ=>s.pc (mb 37 1048646) [88,16] [(20,Bo (bif q_5 then true else (eqI ((y3.1.length:Int)) 0)))] []) fun q_5=>
 .cond (bif q_5 then true else (eqI ((y3.1.length:Int)) 0)) (
 .ret (((⟨#[]⟩:qe),false)))<|.draw 18 []<|.op1 (zBE f1) fun y6=>.op1 (jL vn2) fun y7=>.op0 (zBi ct85 y3.1 0) fun e8=>.op0 (ldo ct85 y3.1 0) fun e9=>.op1 (jL e9.1) fun y10=>.op0 (zBi ct85 y3.1 0) fun e11=>.op0 (ldo ct85 y3.1 0) fun e12=>.op1 (jL e12.2) fun y13=>.n1 bsl<|.op1 (zC1 ([(⟨#[118,97,108,117,101]⟩:qe),y6,y7,y10,y13])) fun y14=>
 .ret ((y14,true))
theorem zIz{f1:τF}{vn2:Int}{r:(qe×Bool)}(h:zBe f1 vn2=some r):zH qg 15 [.ag [Ti f1.1,Ti f1.2.1,Ti f1.2.2],I vn2] (.tc (.c (.v (.string r.1))) (.tc (Bo r.2) .tn)) []:=CtT (zIo f1 vn2) (fun r=>(.tc (.c (.v (.string r.1))) (.tc (Bo r.2) .tn),[])) (rs:=[.t 4,.t 5]) (vs:=[.tmp 4,.tmp 5]) Tryz.func15 rfl rfl (.cons rfl (.cons rfl FitsL.nil)) h
def zJ0(f1:τF)(vn2:Int):=fC zIa (zBe f1 vn2) fun _=>zIz
theorem zOn:CfW qg 204:=cfW Tryz.func204
noncomputable def zPP(vn1:Int):T qg (List Int):=
 .n1 (nilN 3 1 (by decide))<|
 .n1 (nilN 3 1 (by decide))<|
 .loop (fun n X_2=>zCD n X_2.1 X_2.2.1 X_2.2.2) ((vn1,2,([]:List Int))) (mb 30 25) [24] (fun s X_2 γ=>s.pc (mb 30 25) [24] [(0,I X_2.1),(4,I X_2.2.1)] [(24,.arr 3 1 (X_2.2.2.map c3))]) (fun X_2=>
 .cond (leI (w64 (X_2.2.1*X_2.2.1)) X_2.1) (.loop (fun n X_1=>zC7 X_2.2.1 n X_1.1 X_1.2) ((X_2.1,X_2.2.2)) (mb 30 25) [24] (fun s X_1 γ=>s.pc (mb 30 25) [24] [(0,I X_1.1)] [(24,.arr 3 1 (X_1.2.map c3))]) (fun X_1=>
 .op0 (remF .i64 X_1.1 X_2.2.1) fun z12=>
 .cond (eqI (Int.tmod X_1.1 X_2.2.1) 0) (.n1 bsl<|.opx (app ct3 X_1.2 ([X_2.2.1])) fun u14=>
 .op0 (quoF .i64 X_1.1 X_2.2.1) fun z15=>
 .frc (w64 (Int.tdiv X_1.1 X_2.2.1)) fun vn16=>.ret (.inl ((vn16,X_1.2++([X_2.2.1])))))<|.ret (.inr ((X_1.1,X_1.2)))) (mb 30 25) [24] (fun s o11 γ=>s.pc (mb 30 25) [24] [(0,I o11.1)] [(24,.arr 3 1 (o11.2.map c3))]) fun o11=>
 .frc (w64 (X_2.2.1+1)) fun d17=>.ret (.inl ((o11.1,d17,o11.2))))<|.ret (.inr ((X_2.1,X_2.2.2)))) (mb 30 9) [24] (fun s o6 γ=>s.pc (mb 30 9) [24] [(0,I o6.1)] [(24,.arr 3 1 (o6.2.map c3))]) fun o6=>
 .cond (ltI 1 o6.1) (.n1 bsl<|.opx (app ct3 o6.2 ([o6.1])) fun u19=>
 .ret (o6.2++([o6.1])))<|
 .ret o6.2
theorem zP2{vn1:Int}{r:List Int}(h:zEM vn1=some r):zH qg 204 [I vn1] (.ow 0) [(0,.arr 3 1 (r.map c3))]:=CtT (zPP vn1) (fun r=>(.ow 0,[(0,.arr 3 1 (r.map c3))])) (rs:=[.t 2]) (vs:=[.tmp 2]) Tryz.func204 rfl rfl (.cons rfl FitsL.nil) h
def zQW(vn1:Int):=fC zOn (zEM vn1) fun _=>zP2
theorem zVx:CfW qg 205:=cfW Tryz.func205
noncomputable def zXO(l1:List Int)(vn2:Int):T qg (List Int):=
 .n1 (nilN 3 1 (by decide))<|
 .loop (fun n X_3=>zDk l1 vn2 n X_3) 0 (mb 48 35) [] (fun s X_3 γ=>s.pc (mb 48 35) [] [(5,I X_3)] []) (fun X_3=>
 .dn<|.joinC (.n0 (lenM ct3 l1)<|.seqT (.cond (ltI X_3 ((l1.length:Int))) (.op0 (idxM ct3 l1 X_3) fun e7=>.ret (ltI e7 vn2)) (.ret false)) fun b8=>.ret b8) (mb 48 262179) [] (fun s q_1 γ=>s.pc (mb 48 262179) [] [(18,Bo q_1)] []) fun q_1=>
 .cond q_1 (
 .frc (w64 (X_3+1)) fun k10=>.ret (.inl k10))<|.ret (.inr X_3)) (mb 48 35) [] (fun s o5 γ=>s.pc (mb 48 35) [] [(5,I o5)] []) fun o5=>
 .dn<|.joinC (.n0 (lenM ct3 l1)<|.seqT (.cond (ltI o5 ((l1.length:Int))) (.op0 (idxM ct3 l1 o5) fun e12=>.ret (eqI e12 vn2)) (.ret false)) fun b13=>.ret b13) (mb 48 4294967331) [] (fun s q_2 γ=>s.pc (mb 48 4294967331) [] [(32,Bo q_2)] []) fun q_2=>
 .cond q_2 (
 .ret l1)<|.n1 bsl0<|.op0 (slice ct3 l1 0 o5) fun u15=>.opx (app ct3 (([]:List Int)) (subl l1 0 o5)) fun u16=>
 .n1 bsl<|.opx (app ct3 ((([]:List Int))++(subl l1 0 o5)) ([vn2])) fun u17=>
 .op0 (slice ct3 l1 o5 ((l1.length:Int))) fun u18=>.opx (app ct3 (((([]:List Int))++(subl l1 0 o5))++([vn2])) (subl l1 o5 ((l1.length:Int)))) fun u19=>
 .lt ((((([]:List Int))++(subl l1 0 o5))++([vn2]))++(subl l1 o5 ((l1.length:Int)))) fun l20=>.late (frzH 272)<|.ret l20
theorem zX8{l1:List Int}{vn2:Int}{r:List Int}(h:zGA l1 vn2=some r):zH qg 205 [.c (.sl (l1.map c3)),I vn2] (.c (.sl (r.map c3))) []:=CtU (zXO l1 vn2) 4 (fun r=>.c (.sl (r.map c3))) Tryz.func205 rfl rfl h
def zYo(l1:List Int)(vn2:Int):=fC zVx (zGA l1 vn2) fun _=>zX8
theorem zPz:CfW qg 134:=cfW Tryz.func134
noncomputable def zQf(vn1:Int):T qg (List Int):=
 .n1 (nilN 3 1 (by decide))<|
 .n1 (nilN 3 1 (by decide))<|
 .op1 (zQW vn1) fun y2=>.n0 (lenM ct3 y2)<|
 .hint (frzH 24)<|.loop (fun n X_1=>zCQ y2 n X_1.1 X_1.2) ((([]:List Int),0)) (mb 18 904) [56] (fun s X_1 γ=>s.pc (mb 18 904) [56] [(3,.c (.sl (X_1.1.map c3))),(9,I X_1.2)] []) (fun X_1=>
 .cond (ltI X_1.2 ((y2.length:Int))) (.op0 (zBi ct3 y2 X_1.2) fun e8=>.op0 (ldo ct3 y2 X_1.2) fun e9=>
 .op1 (zYo X_1.1 e9) fun y10=>
 .frc (w64 (X_1.2+1)) fun t11=>.ret (.inl ((y10,t11))))<|.ret (.inr X_1.1)) (mb 18 8) [] (fun s o6 γ=>s.pc (mb 18 8) [] [(3,.c (.sl (o6.map c3)))] []) fun o6=>
 .ret o6
theorem zQx{vn1:Int}{r:List Int}(h:zB2 vn1=some r):zH qg 134 [I vn1] (.c (.sl (r.map c3))) []:=CtU (zQf vn1) 2 (fun r=>.c (.sl (r.map c3))) Tryz.func134 rfl rfl h
def zK2(vn1:Int):=fC zPz (zB2 vn1) fun _=>zQx
theorem zN1:CfW qg 135:=cfW Tryz.func135
noncomputable def zNo(vn1:Int)(p2:Int):T qg Int:=
 .loop (fun n X_1=>zC8 p2 n X_1.1 X_1.2) ((vn1,0)) (mb 16 35) [] (fun s X_1 γ=>s.pc (mb 16 35) [] [(0,I X_1.1),(5,I X_1.2)] []) (fun X_1=>
 .op0 (remF .i64 X_1.1 p2) fun z7=>
 .cond (eqI (Int.tmod X_1.1 p2) 0) (.op0 (quoF .i64 X_1.1 p2) fun z9=>
 .frc (w64 (Int.tdiv X_1.1 p2)) fun vn10=>
 .frc (w64 (X_1.2+1)) fun k11=>.ret (.inl ((vn10,k11))))<|.ret (.inr X_1.2)) (mb 16 32) [] (fun s o6 γ=>s.pc (mb 16 32) [] [(5,I o6)] []) fun o6=>
 .ret o6
theorem zOH{vn1:Int}{p2:Int}{r:Int}(h:jT vn1 p2=some r):zH qg 135 [I vn1,I p2] (I r) []:=CtU (zNo vn1 p2) 4 (fun r=>I r) Tryz.func135 rfl rfl h
def zIS(vn1:Int)(p2:Int):=fC zN1 (jT vn1 p2) fun _=>zOH
theorem zOl:CfW qg 136:=cfW Tryz.func136
noncomputable def zPN(d1:Int)(vn2:Int):T qg Bool:=
 .loopS (fun n X_1=>zBK d1 vn2 n X_1) 0 (mb 21 35) [] (fun s X_1 γ=>s.pc (mb 21 35) [] [(5,I X_1)] []) (fun X_1=>
 .cond (ltI X_1 (w64 (2*vn2))) (.op0 (remF .i64 (w64 ((w64 (X_1*X_1)) - d1)) (w64 (4*vn2))) fun z7=>
 .lt (eqI (Int.tmod (w64 ((w64 (X_1*X_1)) - d1)) (w64 (4*vn2))) 0) fun t8=>.cond t8 (
 .ret (.early true))<|
 .frc (w64 (X_1+1)) fun b10=>.ret (.again b10))<|.ret (.done (()))) (mb 21 0) [] (fun s o5 γ=>s.pc (mb 21 0) [] [] []) (fun r=>r) fun o5=>
 .ret false
theorem zP0{d1:Int}{vn2:Int}{r:Bool}(h:zEI d1 vn2=some r):zH qg 136 [I d1,I vn2] (Bo r) []:=CtU (zPN d1 vn2) 4 (fun r=>Bo r) Tryz.func136 rfl rfl h
def zQV(d1:Int)(vn2:Int):=fC zOl (zEI d1 vn2) fun _=>zP0
theorem zJS:CfW qg 65:=cfW Tryz.func65
noncomputable def zJ8(d1:Int)(vn2:Int):T qg ((Int×Bool)):=
 .pl<|.dn<|.joinC (.op1 (zIh d1) fun y3=>.seqT (.cond (!y3) (.ret true) (.op1 (zLk vn2) fun y5=>.ret (!y5))) fun b6=>.ret (y3,b6)) (mb 36 32771) [] (fun s q_3 γ=>s.pc (mb 36 32771) [] [(15,Bo q_3.2)] []) fun q_3=>
 .cond q_3.2 (
 .ret ((0,false)))<|.op1 (zK2 vn2) fun y8=>.n0 (lenM ct3 y8)<|
 .loopS (fun n X_2=>zAW d1 vn2 y8 n X_2) 0 (mb 36 917507) [] (fun s X_2 γ=>s.pc (mb 36 917507) [] [(19,I X_2)] []) (fun X_2=>
 .cond (ltI X_2 ((y8.length:Int))) (.op0 (idxM ct3 y8 X_2) fun e13=>
 .joinC (.op1 (zIS vn2 e13) fun y14=>.n0 dvN<|.seqT (.cond (eqI (Int.tmod y14 2) 1) (.op1 (zQV d1 e13) fun y16=>.ret (!y16)) (.ret false)) fun b17=>.ret (y14,b17)) (mb 36 8590852227) [] (fun s q_1 γ=>s.pc (mb 36 8590852227) [] [(33,Bo q_1.2)] []) fun q_1=>
 .cond q_1.2 (
 .ret (.early ((e13,true))))<|
 .frc (w64 (X_2+1)) fun t19=>.ret (.again t19))<|.ret (.done (()))) (mb 36 0) [] (fun s o11 γ=>s.pc (mb 36 0) [] [] []) (fun r=>r) fun o11=>
 .ret ((0,false))
theorem zJl{d1:Int}{vn2:Int}{r:(Int×Bool)}(h:zBs d1 vn2=some r):zH qg 65 [I d1,I vn2] (.tc (I r.1) (.tc (Bo r.2) .tn)) []:=CtT (zJ8 d1 vn2) (fun r=>(.tc (I r.1) (.tc (Bo r.2) .tn),[])) (rs:=[.t 4,.t 5]) (vs:=[.tmp 4,.tmp 5]) Tryz.func65 rfl rfl (.cons rfl (.cons rfl FitsL.nil)) h
def zKP(d1:Int)(vn2:Int):=fC zJS (zBs d1 vn2) fun _=>zJl
theorem zG5:CfW qg 18:=cfW Tryz.func18
noncomputable def zGn(d1:Int)(vn2:Int):T qg ((qe×Bool)):=
 .op1 (zKP d1 vn2) fun y3=>
 .dn<|.joinC (.selB (!y3.2) false [] fun w_4=>.ret w_4) (mb 28 524355) [] (fun s q_5 γ=>s.pc (mb 28 524355) [] [(19,Bo (bif q_5 then true else (ltI 2500 y3.1)))] []) fun q_5=>
 .cond (bif q_5 then true else (ltI 2500 y3.1)) (
 .ret (((⟨#[]⟩:qe),false)))<|.op1 (jL d1) fun y6=>.op1 (jL vn2) fun y7=>.op1 (jL y3.1) fun y8=>.n1 bsl<|.op1 (zC1 ([(⟨#[111,98,115,116,114,117,99,116,105,111,110]⟩:qe),y6,y7,y8])) fun y9=>
 .ret ((y9,true))
theorem zGq{d1:Int}{vn2:Int}{r:(qe×Bool)}(h:zA1 d1 vn2=some r):zH qg 18 [I d1,I vn2] (.tc (.c (.v (.string r.1))) (.tc (Bo r.2) .tn)) []:=CtT (zGn d1 vn2) (fun r=>(.tc (.c (.v (.string r.1))) (.tc (Bo r.2) .tn),[])) (rs:=[.t 4,.t 5]) (vs:=[.tmp 4,.tmp 5]) Tryz.func18 rfl rfl (.cons rfl (.cons rfl FitsL.nil)) h
def zHB(d1:Int)(vn2:Int):=fC zG5 (zA1 d1 vn2) fun _=>zGq
theorem zWE:CfW qg 145:=cfW Tryz.func145
noncomputable def zXV(f1:τF)(g2:τF):T qg Bool:=
 .pl<|.joinC (.draw 14 []<|.op1 (zFY f1) fun y3=>.seqT (.cond y3 (.op1 (zFY g2) fun y5=>.ret y5) (.ret false)) fun b6=>.seqT (.cond b6 (.op1 (zAC f1) fun y8=>.op1 (zAC g2) fun y9=>.ret (eqI y8 y9)) (.ret false)) fun b10=>.ret (y3,b6,b10)) (mb 18 16) [] (fun s q_1 γ=>s.pc (mb 18 16) [] [(4,Bo q_1.2.2)] []) fun q_1=>
 .ret q_1.2.2
theorem zXg{f1:τF}{g2:τF}{r:Bool}(h:zDE f1 g2=some r):zH qg 145 [.ag [Ti f1.1,Ti f1.2.1,Ti f1.2.2],.ag [Ti g2.1,Ti g2.2.1,Ti g2.2.2]] (Bo r) []:=CtU (zXV f1 g2) 4 (fun r=>Bo r) Tryz.func145 rfl rfl h
def zKK(f1:τF)(g2:τF):=fC zWE (zDE f1 g2) fun _=>zXg
theorem zR4:CfW qg 250:=cfW Tryz.func250
noncomputable def zSX(g1:τF)(a2:Int):T qg ((Int×Int)):=
 .loopS (fun n X_4=>zDt a2 g1 n X_4) 1 (mb 45 70) [16] (fun s X_4 γ=>s.pc (mb 45 70) [16] [(6,I X_4)] []) (fun X_4=>
 .cond (leI X_4 100) (
 .loopS (fun n X_3=>zDs a2 g1 X_4 n X_3) 0 (mb 45 198) [16] (fun s X_3 γ=>s.pc (mb 45 198) [16] [(7,I X_3)] []) (fun X_3=>
 .cond (leI X_3 X_4) (
 .loopS (fun n X_2=>zD2 a2 g1 X_4 X_3 n X_2) 0 (mb 45 454) [16] (fun s X_2 γ=>s.pc (mb 45 454) [16] [(8,I X_2)] []) (fun X_2=>
 .cond (leI X_2 X_4) (.pl<|.dn<|.joinC (.op1 (zIi X_3 X_2) fun y15=>.seqT (.cond (eqI y15 X_4) (.op1 (zEA X_3 X_2) fun y17=>.ret (eqI y17 1)) (.ret false)) fun b18=>.seqT (.cond b18 (.op1 (zET g1 X_3 X_2) fun y20=>.op1 (zEA y20 a2) fun y21=>.ret (eqI y21 1)) (.ret false)) fun b22=>.ret (y15,b18,b22)) (mb 45 4398046511558) [16] (fun s q_1 γ=>s.pc (mb 45 4398046511558) [16] [(42,Bo q_1.2.2)] []) fun q_1=>
 .cond q_1.2.2 (
 .ret (.early ((X_3,X_2))))<|
 .frc (w64 (X_2+1)) fun y24=>.ret (.again y24))<|.ret (.done (()))) (mb 45 198) [16] (fun s o13 γ=>s.pc (mb 45 198) [16] [] []) (.early) fun o13=>
 .frc (w64 (X_3+1)) fun x25=>.ret (.again x25))<|.ret (.done (()))) (mb 45 70) [16] (fun s o9 γ=>s.pc (mb 45 70) [16] [] []) (.early) fun o9=>
 .frc (w64 (X_4+1)) fun k26=>.ret (.again k26))<|.ret (.done (()))) (mb 45 0) [] (fun s o5 γ=>s.pc (mb 45 0) [] [] []) (fun r=>r) fun o5=>
 .ret ((1,0))
theorem zSx{g1:τF}{a2:Int}{r:(Int×Int)}(h:zD3 g1 a2=some r):zH qg 250 [.ag [Ti g1.1,Ti g1.2.1,Ti g1.2.2],I a2] (.tc (I r.1) (.tc (I r.2) .tn)) []:=CtT (zSX g1 a2) (fun r=>(.tc (I r.1) (.tc (I r.2) .tn),[])) (rs:=[.t 4,.t 5]) (vs:=[.tmp 4,.tmp 5]) Tryz.func250 rfl rfl (.cons rfl (.cons rfl FitsL.nil)) h
def zUp(g1:τF)(a2:Int):=fC zR4 (zD3 g1 a2) fun _=>zSx
theorem zUP:CfW qg 293:=cfW Tryz.func293
noncomputable def zVK(vn1:Int):T qg Int:=
 .cond (ltI 0 vn1) (
 .ret 1)<|
 .cond (ltI vn1 0) (
 .ret (-1))<|
 .ret 0
theorem zVb{vn1:Int}{r:Int}(h:zI3 vn1=some r):zH qg 293 [I vn1] (I r) []:=CtU (zVK vn1) 2 (fun r=>I r) Tryz.func293 rfl rfl h
def zWO(vn1:Int):=fC zUP (zI3 vn1) fun _=>zVb
theorem zOm:CfW qg 279:=cfW Tryz.func279
noncomputable def zPO(a1:Int)(vm2:Int):T qg Int:=
 .op1 (zAn a1 vm2) fun y3=>
 .loop (fun n X_1=>zDA vm2 n X_1.1 X_1.2.1 X_1.2.2.1 X_1.2.2.2) ((vm2,y3,0,1)) (mb 36 482) [] (fun s X_1 γ=>s.pc (mb 36 482) [] [(5,I X_1.1),(6,I X_1.2.1),(7,I X_1.2.2.1),(8,I X_1.2.2.2)] []) (fun X_1=>
 .cond (!eqI X_1.2.1 0) (.op0 (quoF .i64 X_1.1 X_1.2.1) fun z11=>
 .frc (w64 (Int.tdiv X_1.1 X_1.2.1)) fun q12=>
 .frc (w64 (X_1.1 - (w64 (q12*X_1.2.1)))) fun next13=>
 .frc (w64 (X_1.2.2.1 - (w64 (q12*X_1.2.2.2)))) fun y14=>.ret (.inl ((X_1.2.1,next13,X_1.2.2.2,y14))))<|.ret (.inr ((X_1.1,X_1.2.2.1)))) (mb 36 162) [] (fun s o9 γ=>s.pc (mb 36 162) [] [(5,I o9.1),(7,I o9.2)] []) fun o9=>
 .cond (!eqI o9.1 1) (
 .ret (-1))<|.op1 (zAn o9.2 vm2) fun y16=>
 .ret y16
theorem zP1{a1:Int}{vm2:Int}{r:Int}(h:zDT a1 vm2=some r):zH qg 279 [I a1,I vm2] (I r) []:=CtU (zPO a1 vm2) 4 (fun r=>I r) Tryz.func279 rfl rfl h
def zJZ(a1:Int)(vm2:Int):=fC zOm (zDT a1 vm2) fun _=>zP1
theorem zQB:CfW qg 278:=cfW Tryz.func278
noncomputable def zQh(a1:Int)(b2:Int):T qg (τF):=
 .op1 (zEA a1 b2) fun y3=>
 .cond (eqI b2 0) (.op1 (zWO a1) fun y5=>
 .ret ((y3,y5,0)))<|.draw 9 []<|.op0 (quoF .i64 a1 y3) fun z6=>.op1 (zB7 b2) fun y7=>.op0 (quoF .i64 y7 y3) fun z8=>.op1 (zJZ (w64 (Int.tdiv a1 y3)) (w64 (Int.tdiv y7 y3))) fun y9=>
 .draw 12 []<|.op0 (quoF .i64 (w64 (y3 - (w64 (a1*y9)))) b2) fun z10=>
 .frc (w64 (Int.tdiv (w64 (y3 - (w64 (a1*y9)))) b2)) fun t11=>.ret ((y3,y9,t11))
theorem zQz{a1:Int}{b2:Int}{r:τF}(h:zE8 a1 b2=some r):zH qg 278 [I a1,I b2] (.tc (I r.1) (.tc (I r.2.1) (.tc (I r.2.2) .tn))) []:=CtT (zQh a1 b2) (fun r=>(.tc (I r.1) (.tc (I r.2.1) (.tc (I r.2.2) .tn)),[])) (rs:=[.t 4,.t 5,.t 6]) (vs:=[.tmp 4,.tmp 5,.tmp 6]) Tryz.func278 rfl rfl (.cons rfl (.cons rfl (.cons rfl FitsL.nil))) h
def zRi(a1:Int)(b2:Int):=fC zQB (zE8 a1 b2) fun _=>zQz
theorem zN0:CfW qg 251:=cfW Tryz.func251
noncomputable def zNn(f1:τF)(x2:Int)(y3:Int):T qg ((τF×τM)):=
 .op1 (zRi x2 y3) fun y4=>
 .op1 (zET f1 x2 y3) fun y5=>
 .frc (w64 (0 - y4.2.2)) fun q6=>.op1 (zLn f1 x2 y3 q6 y4.2.1) fun y7=>
 .op1 (zAn y7 (w64 (2*y5))) fun y8=>.op0 (quoF .i64 (w64 (y8 - y7)) (w64 (2*y5))) fun z9=>
 .frc (w64 (Int.tdiv (w64 (y8 - y7)) (w64 (2*y5)))) fun t10=>.n0 (bld pl61 bt61)<|
 .frc (w64 (q6+(w64 (x2*t10)))) fun f11=>.frc (w64 (y4.2.1+(w64 (y3*t10)))) fun f12=>
 .frc (w64 (y7+(w64 ((w64 (2*y5))*t10)))) fun b13=>.draw 14 [(13,48)]<|.op1 (zAC f1) fun y14=>.op0 (quoF .i64 (w64 ((w64 (b13*b13)) - y14)) (w64 (4*y5))) fun z15=>.n0 (bld pl25 bt25)<|
 .frc (w64 (Int.tdiv (w64 ((w64 (b13*b13)) - y14)) (w64 (4*y5)))) fun f16=>.ret (((y5,b13,f16),(x2,f11,y3,f12)))
theorem zOG{f1:τF}{x2:Int}{y3:Int}{r:(τF×τM)}(h:zBO f1 x2 y3=some r):zH qg 251 [.ag [Ti f1.1,Ti f1.2.1,Ti f1.2.2],I x2,I y3] (.tc (.ag [Ti r.1.1,Ti r.1.2.1,Ti r.1.2.2]) (.tc (.ag [Ti r.2.1,Ti r.2.2.1,Ti r.2.2.2.1,Ti r.2.2.2.2]) .tn)) []:=CtT (zNn f1 x2 y3) (fun r=>(.tc (.ag [Ti r.1.1,Ti r.1.2.1,Ti r.1.2.2]) (.tc (.ag [Ti r.2.1,Ti r.2.2.1,Ti r.2.2.2.1,Ti r.2.2.2.2]) .tn),[])) (rs:=[.w 6 3,.w 7 4]) (vs:=[.cell 6 25,.cell 7 61]) Tryz.func251 rfl rfl (.cons ⟨rfl,wd25⟩ (.cons ⟨rfl,wd61⟩ FitsL.nil)) h
def zPC(f1:τF)(x2:Int)(y3:Int):=fC zN0 (zBO f1 x2 y3) fun _=>zOG
theorem zQA:CfW qg 252:=cfW Tryz.func252
noncomputable def zQg(a1:Int)(vm2:Int)(b3:Int)(vn4:Int):T qg ((Int×Int×Bool)):=
 .op1 (zEA vm2 vn4) fun y5=>
 .op0 (remF .i64 (w64 (b3 - a1)) y5) fun z6=>
 .cond (!eqI (Int.tmod (w64 (b3 - a1)) y5) 0) (
 .ret ((0,0,false)))<|.draw 18 []<|.op0 (quoF .i64 (w64 (b3 - a1)) y5) fun z8=>.op0 (quoF .i64 vm2 y5) fun z9=>.op0 (quoF .i64 vn4 y5) fun z10=>.op1 (zJZ (w64 (Int.tdiv vm2 y5)) (w64 (Int.tdiv vn4 y5))) fun y11=>.op0 (quoF .i64 vn4 y5) fun z12=>.op1 (zAn (w64 ((w64 (Int.tdiv (w64 (b3 - a1)) y5))*y11)) (w64 (Int.tdiv vn4 y5))) fun y13=>
 .op0 (quoF .i64 vm2 y5) fun z14=>
 .frc (w64 ((w64 (Int.tdiv vm2 y5))*vn4)) fun all15=>.op1 (zAn (w64 (a1+(w64 (vm2*y13)))) all15) fun y16=>
 .ret ((y16,all15,true))
theorem zQy{a1:Int}{vm2:Int}{b3:Int}{vn4:Int}{r:(Int×Int×Bool)}(h:zDj a1 vm2 b3 vn4=some r):zH qg 252 [I a1,I vm2,I b3,I vn4] (.tc (I r.1) (.tc (I r.2.1) (.tc (Bo r.2.2) .tn))) []:=CtT (zQg a1 vm2 b3 vn4) (fun r=>(.tc (I r.1) (.tc (I r.2.1) (.tc (Bo r.2.2) .tn)),[])) (rs:=[.t 8,.t 9,.t 10]) (vs:=[.tmp 8,.tmp 9,.tmp 10]) Tryz.func252 rfl rfl (.cons rfl (.cons rfl (.cons rfl FitsL.nil))) h
def zRh(a1:Int)(vm2:Int)(b3:Int)(vn4:Int):=fC zQA (zDj a1 vm2 b3 vn4) fun _=>zQy
theorem zR1:CfW qg 253:=cfW Tryz.func253
noncomputable def zSU(t1:Int):T qg (τM):=
 .n0 (bld pl61 bt61)<|
 .ret ((1,t1,0,1))
theorem zSu{t1:Int}{r:τM}(h:zEn t1=some r):zH qg 253 [I t1] (.ag [Ti r.1,Ti r.2.1,Ti r.2.2.1,Ti r.2.2.2]) []:=CtT (zSU t1) (fun r=>(.ag [Ti r.1,Ti r.2.1,Ti r.2.2.1,Ti r.2.2.2],[])) (rs:=[.w 2 4]) (vs:=[.cell 2 61]) Tryz.func253 rfl rfl (.cons ⟨rfl,wd61⟩ FitsL.nil) h
def zLp(t1:Int):=fC zR1 (zEn t1) fun _=>zSu
theorem zR0:CfW qg 209:=cfW Tryz.func209
noncomputable def zST(f1:τF)(g2:τF):T qg ((τF×τF×τM×τM)):=
 .op1 (zCJ f1) fun y3=>
 .op1 (zCJ g2) fun y4=>
 .op1 (zUp y4.1 y3.1.1) fun y5=>
 .op1 (zPC y4.1 y5.1 y5.2) fun y6=>
 .op1 (zC2 y4.2 y6.2) fun y7=>
 .draw 22 []<|.op1 (zAn y3.1.2.1 (w64 (2*y3.1.1))) fun y8=>.op1 (zRh y8 (w64 (2*y3.1.1)) y6.1.2.1 (w64 (2*y6.1.1))) fun y9=>
 .draw 11 []<|.op0 (quoF .i64 (w64 (y9.1 - y3.1.2.1)) (w64 (2*y3.1.1))) fun z10=>.op1 (zLp (w64 (Int.tdiv (w64 (y9.1 - y3.1.2.1)) (w64 (2*y3.1.1))))) fun y11=>.op1 (zC2 y3.2 y11) fun y12=>
 .draw 11 []<|.op0 (quoF .i64 (w64 (y9.1 - y6.1.2.1)) (w64 (2*y6.1.1))) fun z13=>.op1 (zLp (w64 (Int.tdiv (w64 (y9.1 - y6.1.2.1)) (w64 (2*y6.1.1))))) fun y14=>.op1 (zC2 y7 y14) fun y15=>
 .draw 14 []<|.op1 (zAC y3.1) fun y16=>.op0 (quoF .i64 (w64 ((w64 (y9.1*y9.1)) - y16)) (w64 ((w64 (4*y3.1.1))*y6.1.1))) fun z17=>
 .frc (w64 (Int.tdiv (w64 ((w64 (y9.1*y9.1)) - y16)) (w64 ((w64 (4*y3.1.1))*y6.1.1)))) fun cc18=>.draw 21 [(18,32),(19,40),(20,48)]<|.n0 (bld pl25 bt25)<|.n0 (bld pl25 bt25)<|
 .frc (w64 (y3.1.1*cc18)) fun f19=>.frc (w64 (y6.1.1*cc18)) fun f20=>.ret (((y3.1.1,y9.1,f20),(y6.1.1,y9.1,f19),y12,y15))
theorem zSt{f1:τF}{g2:τF}{r:(τF×τF×τM×τM)}(h:zC9 f1 g2=some r):zH qg 209 [.ag [Ti f1.1,Ti f1.2.1,Ti f1.2.2],.ag [Ti g2.1,Ti g2.2.1,Ti g2.2.2]] (.tc (.ag [Ti r.1.1,Ti r.1.2.1,Ti r.1.2.2]) (.tc (.ag [Ti r.2.1.1,Ti r.2.1.2.1,Ti r.2.1.2.2]) (.tc (.ag [Ti r.2.2.1.1,Ti r.2.2.1.2.1,Ti r.2.2.1.2.2.1,Ti r.2.2.1.2.2.2]) (.tc (.ag [Ti r.2.2.2.1,Ti r.2.2.2.2.1,Ti r.2.2.2.2.2.1,Ti r.2.2.2.2.2.2]) .tn)))) []:=CtT (zST f1 g2) (fun r=>(.tc (.ag [Ti r.1.1,Ti r.1.2.1,Ti r.1.2.2]) (.tc (.ag [Ti r.2.1.1,Ti r.2.1.2.1,Ti r.2.1.2.2]) (.tc (.ag [Ti r.2.2.1.1,Ti r.2.2.1.2.1,Ti r.2.2.1.2.2.1,Ti r.2.2.1.2.2.2]) (.tc (.ag [Ti r.2.2.2.1,Ti r.2.2.2.2.1,Ti r.2.2.2.2.2.1,Ti r.2.2.2.2.2.2]) .tn))),[])) (rs:=[.w 4 3,.w 5 3,.w 6 4,.w 7 4]) (vs:=[.cell 4 25,.cell 5 25,.cell 6 61,.cell 7 61]) Tryz.func209 rfl rfl (.cons ⟨rfl,wd25⟩ (.cons ⟨rfl,wd25⟩ (.cons ⟨rfl,wd61⟩ (.cons ⟨rfl,wd61⟩ FitsL.nil)))) h
def zLo(f1:τF)(g2:τF):=fC zR0 (zC9 f1 g2) fun _=>zSt
theorem zQG:CfW qg 210:=cfW Tryz.func210
noncomputable def zQm(a1:τF)(e2:τF):T qg (τF):=
 .draw 13 []<|.op0 (quoF .i64 a1.2.2 e2.1) fun z3=>.n0 (bld pl25 bt25)<|
 .frc (w64 (a1.1*e2.1)) fun f4=>.frc (w64 (Int.tdiv a1.2.2 e2.1)) fun f5=>.ret ((f4,a1.2.1,f5))
theorem zRE{a1:τF}{e2:τF}{r:τF}(h:zCw a1 e2=some r):zH qg 210 [.ag [Ti a1.1,Ti a1.2.1,Ti a1.2.2],.ag [Ti e2.1,Ti e2.2.1,Ti e2.2.2]] (.ag [Ti r.1,Ti r.2.1,Ti r.2.2]) []:=CtT (zQm a1 e2) (fun r=>(.ag [Ti r.1,Ti r.2.1,Ti r.2.2],[])) (rs:=[.w 4 3]) (vs:=[.cell 4 25]) Tryz.func210 rfl rfl (.cons ⟨rfl,wd25⟩ FitsL.nil) h
def zK4(a1:τF)(e2:τF):=fC zQG (zCw a1 e2) fun _=>zRE
theorem zR2:CfW qg 146:=cfW Tryz.func146
noncomputable def zSV(f1:τF)(g2:τF):T qg ((τF×(List Int))):=
 .n1 (nilN 3 1 (by decide))<|
 .op1 (zLo f1 g2) fun y3=>
 .op1 (zK4 y3.1 y3.2.1) fun y4=>
 .op1 (zCJ y4) fun y5=>
 .draw 6 []<|.op1 (zFL y3.2.2.1) fun y6=>.op1 (zFL y3.2.2.2) fun y7=>.op1 (zFL y5.2) fun y8=>
 .op1 (mkF ct3 ((0:Int)) 8 8) fun u9=>
 .loop (fun n X_1=>zCT y3 y4 y5 y6 y7 y8 n X_1.1 X_1.2) ((0,List.replicate (Int.toNat (8)) ((0:Int)))) (mb 126 32720) [344,96,88,80,72,64,56,48,32] (fun s X_1 γ=>s.pc (mb 126 32720) [344,96,88,80,72,64,56,48,32] [(14,I X_1.1)] [(344,.arr 3 1 (X_1.2.map c3))]) (fun X_1=>
 .cond (ltI X_1.1 4) (.draw 12 []<|
 .join (
 .cond (leI 2 X_1.1) (.draw 6 []<|
 .ret (y6.2.1,y6.2.2.2))<|.ret (y6.1,y6.2.2.1)) (mb 126 524240) [344,96,88,80,72,64,56,48,32] (fun s j15 γ=>s.pc (mb 126 524240) [344,96,88,80,72,64,56,48,32] [(15,I j15.1),(16,I j15.2)] []) fun j15=>
 .join (.n0 dvN<|
 .cond (eqI (Int.tmod X_1.1 2) 1) (.draw 6 []<|
 .ret (y7.2.1,y7.2.2.2))<|.ret (y7.1,y7.2.2.1)) (mb 126 524240) [344,96,88,80,72,64,56,48,32] (fun s j17 γ=>s.pc (mb 126 524240) [344,96,88,80,72,64,56,48,32] [(17,I j17.1),(18,I j17.2)] []) fun j17=>
 .draw 32 []<|
 .frc (w64 ((w64 (j15.1*j17.1)) - (w64 ((w64 (y4.2.2*j15.2))*j17.2)))) fun p19=>.frc (w64 ((w64 ((w64 ((w64 (y3.1.1*j15.1))*j17.2))+(w64 ((w64 (y3.2.1.1*j15.2))*j17.1))))+(w64 ((w64 (y4.2.1*j15.2))*j17.2)))) fun q20=>.op0 (zBi ct3 X_1.2 X_1.1) fun e21=>.opx (sto ct3 X_1.2 X_1.1 fun e22=>w64 ((w64 (y8.1*p19))+(w64 (y8.2.1*q20)))) fun e22=>
 .lt (X_1.2.set (Int.toNat (X_1.1)) (w64 ((w64 (y8.1*p19))+(w64 (y8.2.1*q20))))) fun l23=>.op0 (zBi ct3 l23 (w64 (4+X_1.1))) fun e24=>.opx (sto ct3 l23 (w64 (4+X_1.1)) fun e25=>w64 ((w64 (y8.2.2.1*p19))+(w64 (y8.2.2.2*q20)))) fun e25=>
 .lt (l23.set (Int.toNat (w64 (4+X_1.1))) (w64 ((w64 (y8.2.2.1*p19))+(w64 (y8.2.2.2*q20))))) fun l26=>
 .frc (w64 (X_1.1+1)) fun i27=>.ret (.inl ((i27,l26))))<|.ret (.inr X_1.2)) (mb 126 10256) [344,88,32] (fun s o13 γ=>s.pc (mb 126 10256) [344,88,32] [] [(344,.arr 3 1 (o13.map c3))]) fun o13=>
 .ret ((y5.1,o13))
theorem zSv{f1:τF}{g2:τF}{r:(τF×(List Int))}(h:zEO f1 g2=some r):zH qg 146 [.ag [Ti f1.1,Ti f1.2.1,Ti f1.2.2],.ag [Ti g2.1,Ti g2.2.1,Ti g2.2.2]] (.tc (.ag [Ti r.1.1,Ti r.1.2.1,Ti r.1.2.2]) (.tc (.ow 1) .tn)) [(1,.arr 3 1 (r.2.map c3))]:=CtT (zSV f1 g2) (fun r=>(.tc (.ag [Ti r.1.1,Ti r.1.2.1,Ti r.1.2.2]) (.tc (.ow 1) .tn),[(1,.arr 3 1 (r.2.map c3))])) (rs:=[.w 4 3,.t 5]) (vs:=[.cell 4 25,.tmp 5]) Tryz.func146 rfl rfl (.cons ⟨rfl,wd25⟩ (.cons rfl FitsL.nil)) h
def zUo(f1:τF)(g2:τF):=fC zR2 (zEO f1 g2) fun _=>zSv
theorem zMo:CfW qg 147:=cfW Tryz.func147
noncomputable def zXQ(l1:List Int)(lo2:Int)(hi3:Int):T qg Bool:=
 .n0 (lenM ct3 l1)<|
 .loopS (fun n X_1=>zCu hi3 l1 lo2 n X_1) 0 (mb 21 3590) [] (fun s X_1 γ=>s.pc (mb 21 3590) [] [(11,I X_1)] []) (fun X_1=>
 .cond (ltI X_1 ((l1.length:Int))) (.op0 (idxM ct3 l1 X_1) fun e8=>
 .op1 (zEZ e8 lo2 hi3) fun y9=>
 .cond (!y9) (
 .ret (.early false))<|
 .frc (w64 (X_1+1)) fun t11=>.ret (.again t11))<|.ret (.done (()))) (mb 21 0) [] (fun s o6 γ=>s.pc (mb 21 0) [] [] []) (fun r=>r) fun o6=>
 .ret true
theorem zOM{l1:List Int}{lo2:Int}{hi3:Int}{r:Bool}(h:zBq l1 lo2 hi3=some r):zH qg 147 [.c (.sl (l1.map c3)),I lo2,I hi3] (Bo r) []:=CtU (zXQ l1 lo2 hi3) 6 (fun r=>Bo r) Tryz.func147 rfl rfl h
def zYp(l1:List Int)(lo2:Int)(hi3:Int):=fC zMo (zBq l1 lo2 hi3) fun _=>zOM
def zYj(l1:List Int)(lo2:Int)(hi3:Int):=fCs zMo (zBq l1 lo2 hi3) (fun _=>zOM) fun _=>rfl
theorem zIc:CfW qg 70:=cfW Tryz.func70
noncomputable def zIq(f1:τF)(g2:τF):T qg ((τF×(List Int)×Bool)):=
 .n1 (nilN 3 1 (by decide))<|
 .op1 (zKK f1 g2) fun y3=>
 .cond (!y3) (.n0 (bld pl25 bt25)<|.n1 (nilN 3 1 (by decide))<|
 .ret (((0,0,0),([]:List Int),false)))<|.op1 (zUo f1 g2) fun y5=>
 .op1 (zYj y5.2 (-1000000) 1000000) fun y6=>
 .cond (!y6) (.n0 (bld pl25 bt25)<|.n1 (nilN 3 1 (by decide))<|
 .ret (((0,0,0),([]:List Int),false)))<|
 .ret ((y5.1,y5.2,true))
theorem zJB{f1:τF}{g2:τF}{r:(τF×(List Int)×Bool)}(h:zAr f1 g2=some r):zH qg 70 [.ag [Ti f1.1,Ti f1.2.1,Ti f1.2.2],.ag [Ti g2.1,Ti g2.2.1,Ti g2.2.2]] (.tc (.ag [Ti r.1.1,Ti r.1.2.1,Ti r.1.2.2]) (.tc (.ow 1) (.tc (Bo r.2.2) .tn))) [(1,.arr 3 1 (r.2.1.map c3))]:=CtT (zIq f1 g2) (fun r=>(.tc (.ag [Ti r.1.1,Ti r.1.2.1,Ti r.1.2.2]) (.tc (.ow 1) (.tc (Bo r.2.2) .tn)),[(1,.arr 3 1 (r.2.1.map c3))])) (rs:=[.w 4 3,.t 5,.t 6]) (vs:=[.cell 4 25,.tmp 5,.tmp 6]) Tryz.func70 rfl rfl (.cons ⟨rfl,wd25⟩ (.cons rfl (.cons rfl FitsL.nil))) h
def zJ2(f1:τF)(g2:τF):=fC zIc (zAr f1 g2) fun _=>zJB
theorem zHM:CfW qg 22:=cfW Tryz.func22
noncomputable def zHU(f1:τF)(g2:τF):T qg ((qe×Bool)):=
 .op1 (zJ2 f1 g2) fun y3=>
 .cond (!y3.2.2) (
 .ret (((⟨#[]⟩:qe),false)))<|.draw 8 []<|.op1 (zBE f1) fun y5=>.op1 (zBE g2) fun y6=>.op1 (zBE y3.1) fun y7=>.n1 bsl<|
 .lt ([(⟨#[99,111,109,112,111,115,105,116,101]⟩:qe),y5,y6,y7]) fun l8=>.n0 (lenM ct3 y3.2.1)<|
 .loop (fun n X_1=>zAQ y3 n X_1.1 X_1.2) ((0,l8)) (mb 42 1879048704) [216,121] (fun s X_1 γ=>s.pc (mb 42 1879048704) [216,121] [(30,I X_1.1)] [(216,.arr 9 1 (X_1.2.map c9))]) (fun X_1=>
 .cond (ltI X_1.1 ((y3.2.1.length:Int))) (.op0 (zBi ct3 y3.2.1 X_1.1) fun e14=>.op0 (ldo ct3 y3.2.1 X_1.1) fun e15=>
 .op1 (jL e15) fun y16=>.n1 bsl<|.opx (app ct9 X_1.2 ([y16])) fun u17=>
 .frc (w64 (X_1.1+1)) fun t18=>.ret (.inl ((t18,X_1.2++([y16])))))<|.ret (.inr X_1.2)) (mb 42 512) [216] (fun s o12 γ=>s.pc (mb 42 512) [216] [] [(216,.arr 9 1 (o12.map c9))]) fun o12=>
 .op1 (zC1 o12) fun y19=>
 .ret ((y19,true))
theorem zHW{f1:τF}{g2:τF}{r:(qe×Bool)}(h:jQ f1 g2=some r):zH qg 22 [.ag [Ti f1.1,Ti f1.2.1,Ti f1.2.2],.ag [Ti g2.1,Ti g2.2.1,Ti g2.2.2]] (.tc (.c (.v (.string r.1))) (.tc (Bo r.2) .tn)) []:=CtT (zHU f1 g2) (fun r=>(.tc (.c (.v (.string r.1))) (.tc (Bo r.2) .tn),[])) (rs:=[.t 4,.t 5]) (vs:=[.tmp 4,.tmp 5]) Tryz.func22 rfl rfl (.cons rfl (.cons rfl FitsL.nil)) h
def zH1(f1:τF)(g2:τF):=fC zHM (jQ f1 g2) fun _=>zHW
theorem zWF:CfW qg 152:=cfW Tryz.func152
noncomputable def zXW(d1:Int):T qg (τF):=
 .op1 (zAn d1 2) fun y2=>
 .n0 dvN<|.n0 (bld pl25 bt25)<|
 .frc (w64 (Int.tdiv (w64 (y2 - d1)) 4)) fun f3=>.ret ((1,y2,f3))
theorem zXh{d1:Int}{r:τF}(h:zDF d1=some r):zH qg 152 [I d1] (.ag [Ti r.1,Ti r.2.1,Ti r.2.2]) []:=CtT (zXW d1) (fun r=>(.ag [Ti r.1,Ti r.2.1,Ti r.2.2],[])) (rs:=[.w 2 3]) (vs:=[.cell 2 25]) Tryz.func152 rfl rfl (.cons ⟨rfl,wd25⟩ FitsL.nil) h
def zKL(d1:Int):=fC zWF (zDF d1) fun _=>zXh
theorem zWG:CfW qg 153:=cfW Tryz.func153
noncomputable def zXX(f1:τF)(g2:τF):T qg (τF):=
 .op1 (zLo f1 g2) fun y3=>
 .op1 (zK4 y3.1 y3.2.1) fun y4=>.op1 (zEz y4) fun y5=>
 .ret y5
theorem zXi{f1:τF}{g2:τF}{r:τF}(h:zB4 f1 g2=some r):zH qg 153 [.ag [Ti f1.1,Ti f1.2.1,Ti f1.2.2],.ag [Ti g2.1,Ti g2.2.1,Ti g2.2.2]] (.ag [Ti r.1,Ti r.2.1,Ti r.2.2]) []:=CtT (zXX f1 g2) (fun r=>(.ag [Ti r.1,Ti r.2.1,Ti r.2.2],[])) (rs:=[.w 4 3]) (vs:=[.cell 4 25]) Tryz.func153 rfl rfl (.cons ⟨rfl,wd25⟩ FitsL.nil) h
def zKM(f1:τF)(g2:τF):=fC zWG (zB4 f1 g2) fun _=>zXi
theorem zR5:CfW qg 74:=cfW Tryz.func74
noncomputable def zSY(f1:τF):T qg Int:=
 .op1 (zEz f1) fun y2=>
 .loop (fun n X_1=>zCn y2 n X_1.1 X_1.2.1 X_1.2.2.1 X_1.2.2.2) ((1,y2.1,y2.2.1,y2.2.2)) (mb 20 26) [32,8] (fun s X_1 γ=>s.pc (mb 20 26) [32,8] [(3,I X_1.1)] [(32,.box [Ti X_1.2.1,Ti X_1.2.2.1,Ti X_1.2.2.2])]) (fun X_1=>
 .draw 5 []<|.op1 (zAC y2) fun y9=>.op1 (zKL y9) fun y10=>.n0 (neg3 zZb)<|
 .cond (!((X_1.2.1==y10.1)&&((X_1.2.2.1==y10.2.1)&&(X_1.2.2.2==y10.2.2)))) (.op1 (zKM ((X_1.2.1,X_1.2.2.1,X_1.2.2.2)) y2) fun y12=>
 .frc (w64 (X_1.1+1)) fun k13=>.ret (.inl ((k13,y12.1,y12.2.1,y12.2.2))))<|.ret (.inr X_1.1)) (mb 20 8) [] (fun s o8 γ=>s.pc (mb 20 8) [] [(3,I o8)] []) fun o8=>
 .ret o8
theorem zSy{f1:τF}{r:Int}(h:zEo f1=some r):zH qg 74 [.ag [Ti f1.1,Ti f1.2.1,Ti f1.2.2]] (I r) []:=CtU (zSY f1) 2 (fun r=>I r) Tryz.func74 rfl rfl h
def zUq(f1:τF):=fC zR5 (zEo f1) fun _=>zSy
theorem zIb:CfW qg 24:=cfW Tryz.func24
noncomputable def zIp(f1:τF):T qg ((qe×Bool)):=
 .op1 (zFY f1) fun y2=>
 .cond (!y2) (
 .ret (((⟨#[]⟩:qe),false)))<|.draw 9 []<|.op1 (zBE f1) fun y4=>.op1 (zUq f1) fun y5=>.op1 (zKJ y5) fun y6=>.n1 bsl<|.op1 (zC1 ([(⟨#[111,114,100,101,114]⟩:qe),y4,y6])) fun y7=>
 .ret ((y7,true))
theorem zJA{f1:τF}{r:(qe×Bool)}(h:zAq f1=some r):zH qg 24 [.ag [Ti f1.1,Ti f1.2.1,Ti f1.2.2]] (.tc (.c (.v (.string r.1))) (.tc (Bo r.2) .tn)) []:=CtT (zIp f1) (fun r=>(.tc (.c (.v (.string r.1))) (.tc (Bo r.2) .tn),[])) (rs:=[.t 2,.t 3]) (vs:=[.tmp 2,.tmp 3]) Tryz.func24 rfl rfl (.cons rfl (.cons rfl FitsL.nil)) h
def zJ1(f1:τF):=fC zIb (zAq f1) fun _=>zJA
theorem zUI:CfW qg 162:=cfW Tryz.func162
noncomputable def zVD(vm1:τM)(vn2:τM):T qg Bool:=
 .cond (!eqI vm1.1 vn2.1) (
 .ret (ltI vm1.1 vn2.1))<|
 .cond (!eqI vm1.2.1 vn2.2.1) (
 .ret (ltI vm1.2.1 vn2.2.1))<|
 .cond (!eqI vm1.2.2.1 vn2.2.2.1) (
 .ret (ltI vm1.2.2.1 vn2.2.2.1))<|
 .ret (ltI vm1.2.2.2 vn2.2.2.2)
theorem zV4{vm1:τM}{vn2:τM}{r:Bool}(h:zGd vm1 vn2=some r):zH qg 162 [.ag [Ti vm1.1,Ti vm1.2.1,Ti vm1.2.2.1,Ti vm1.2.2.2],.ag [Ti vn2.1,Ti vn2.2.1,Ti vn2.2.2.1,Ti vn2.2.2.2]] (Bo r) []:=CtU (zVD vm1 vn2) 4 (fun r=>Bo r) Tryz.func162 rfl rfl h
def zWM(vm1:τM)(vn2:τM):=fC zUI (zGd vm1 vn2) fun _=>zV4
theorem zL7:CfW qg 81:=cfW Tryz.func81
noncomputable def zMJ(f1:τF):T qg (List τM):=
 .n1 (nilN 61 4 (by decide))<|
 .op1 (zGa f1) fun y2=>
 .draw 13 []<|.op0 (quoF .i64 f1.1 y2) fun z3=>.op0 (quoF .i64 f1.2.1 y2) fun z4=>.op0 (quoF .i64 f1.2.2 y2) fun z5=>.n0 (bld pl25 bt25)<|
 .frc (w64 (Int.tdiv f1.1 y2)) fun f6=>.frc (w64 (Int.tdiv f1.2.1 y2)) fun f7=>.frc (w64 (Int.tdiv f1.2.2 y2)) fun f8=>.op1 (zAC ((f6,f7,f8))) fun y9=>
 .n1 (nilN 61 4 (by decide))<|
 .loop (fun n X_4=>jX f6 f7 f8 y9 n X_4.1 X_4.2) ((-2,([]:List τM))) (mb 101 114) [40,8] (fun s X_4 γ=>s.pc (mb 101 114) [40,8] [(6,I X_4.1)] [(40,.arr 61 4 (X_4.2.map c61))]) (fun X_4=>
 .cond (leI X_4.1 2) (
 .loop (fun n X_3=>jJ f6 f7 f8 X_4.1 y9 n X_3.1 X_3.2) ((-1,X_4.2)) (mb 101 242) [40,8] (fun s X_3 γ=>s.pc (mb 101 242) [40,8] [(7,I X_3.1)] [(40,.arr 61 4 (X_3.2.map c61))]) (fun X_3=>
 .cond (leI X_3.1 1) (
 .lt (!eqI (w64 ((w64 (X_4.1*X_4.1)) - (w64 ((w64 (y9*X_3.1))*X_3.1)))) 4) fun t20=>.cond t20 (
 .frc (w64 (X_3.1+1)) fun u22=>.ret (.inl ((u22,X_3.2))))<|.n0 dvN<|.n0 dvN<|.n0 (bld pl61 bt61)<|
 .frc (w64 (Int.tdiv (w64 (X_4.1 - (w64 (f7*X_3.1)))) 2)) fun f23=>.frc (w64 ((w64 (0 - f8))*X_3.1)) fun f24=>.frc (w64 (f6*X_3.1)) fun f25=>.frc (w64 (Int.tdiv (w64 (X_4.1+(w64 (f7*X_3.1)))) 2)) fun f26=>.n0 (lenM ct61 X_3.2)<|
 .n1 bsl<|.opx (app ct61 X_3.2 ([(f23,f24,f25,f26)])) fun u27=>
 .loop (fun n X_2=>zAp f23 f24 f25 f26 f6 f7 f8 X_4.1 X_3.1 y9 n X_2.1 X_2.2) (((X_3.2.length:Int),X_3.2++([(f23,f24,f25,f26)]))) (mb 101 1010) [64,40,8] (fun s X_2 γ=>s.pc (mb 101 1010) [64,40,8] [(9,I X_2.1)] [(40,.arr 61 4 (X_2.2.map c61))]) (fun X_2=>
 .dn<|.joinC (.draw 11 []<|.seqT (.cond (ltI 0 X_2.1) (.op0 (zBi ct61 X_2.2 (w64 (X_2.1 - 1))) fun e33=>.op0 (ldo ct61 X_2.2 (w64 (X_2.1 - 1))) fun e34=>.op1 (zWM ((f23,f24,f25,f26)) e34) fun y35=>.ret y35) (.ret false)) fun b36=>.ret b36) (mb 101 38685626227668133590598642) [64,40,8] (fun s q_1 γ=>s.pc (mb 101 38685626227668133590598642) [64,40,8] [(85,Bo q_1)] []) fun q_1=>
 .cond q_1 (.op0 (zBi ct61 X_2.2 (w64 (X_2.1 - 1))) fun e38=>.op0 (ldo ct61 X_2.2 (w64 (X_2.1 - 1))) fun e39=>.op0 (zBi ct61 X_2.2 X_2.1) fun e40=>.opx (sto ct61 X_2.2 X_2.1 fun e41=>e39) fun e41=>
 .frc (w64 (X_2.1 - 1)) fun vat42=>.ret (.inl ((vat42,X_2.2.set (Int.toNat (X_2.1)) e39))))<|.ret (.inr ((X_2.1,X_2.2)))) (mb 101 1010) [64,40,8] (fun s o31 γ=>s.pc (mb 101 1010) [64,40,8] [(9,I o31.1)] [(40,.arr 61 4 (o31.2.map c61))]) fun o31=>
 .op0 (zBi ct61 o31.2 o31.1) fun e43=>.opx (sto ct61 o31.2 o31.1 fun e44=>(f23,f24,f25,f26)) fun e44=>
 .frc (w64 (X_3.1+1)) fun u45=>.ret (.inl ((u45,o31.2.set (Int.toNat (o31.1)) ((f23,f24,f25,f26))))))<|.ret (.inr X_3.2)) (mb 101 114) [40,8] (fun s o18 γ=>s.pc (mb 101 114) [40,8] [] [(40,.arr 61 4 (o18.map c61))]) fun o18=>
 .frc (w64 (X_4.1+1)) fun t46=>.ret (.inl ((t46,o18))))<|.ret (.inr X_4.2)) (mb 101 32) [40] (fun s o13 γ=>s.pc (mb 101 32) [40] [] [(40,.arr 61 4 (o13.map c61))]) fun o13=>
 .ret o13
theorem zMT{f1:τF}{r:List τM}(h:zBL f1=some r):zH qg 81 [.ag [Ti f1.1,Ti f1.2.1,Ti f1.2.2]] (.ow 0) [(0,.arr 61 4 (r.map c61))]:=CtT (zMJ f1) (fun r=>(.ow 0,[(0,.arr 61 4 (r.map c61))])) (rs:=[.t 2]) (vs:=[.tmp 2]) Tryz.func81 rfl rfl (.cons rfl FitsL.nil) h
def zMg(f1:τF):=fC zL7 (zBL f1) fun _=>zMT
theorem zKA:CfW qg 154:=cfW Tryz.func154
noncomputable def zK6(cc1:((List Int)×Int×Int)):T qg ((Int×((List Int)×Int×Int))):=
 .opx (zC cc1 10) fun y2=>
 .cond (eqI y2.1 0) (.n1 bsl<|.hint (frzH 72)<|.opx (zA8 y2.2 ([4,9,1000,1001,0,-3,5,997,1004,996,2,1099511627776])) fun y4=>
 .ret ((y4.1,y4.2)))<|.join (
 .cond (eqI y2.1 1) (.ret (eqI y2.1 1))<|
 .ret (eqI y2.1 2)) (mb 26 2049) [80000] (fun s j5 γ=>s.pc (mb 26 2049) [80000] [(11,Bo j5)] []) fun j5=>
 .cond j5 (.n1 bsl<|.hint (frzH 120)<|.opx (zA8 y2.2 ([5,8,12,13,60,136,221,229,257,316,401,520,780,840,924])) fun y8=>
 .ret ((y8.1,y8.2)))<|.opx (zC y2.2 240) fun y9=>
 .frc (w64 (5+(w64 (4*y9.1)))) fun d10=>.opx (zAh y9.2 2) fun y11=>
 .cond y11.1 (
 .frc (w64 (d10 - 1)) fun d13=>
 .ret ((d13,y11.2)))<|
 .ret ((d10,y11.2))
theorem zKa{cc1:((List Int)×Int×Int)}{r:(Int×((List Int)×Int×Int))}(h:zCK cc1=some r):zES qg 154 [.pt 80000 0] [(80000,.box [.sl (cc1.1.map c5),Ti cc1.2.1,.v (.int .u64 cc1.2.2)])] (I r.1) [] [(80000,.box [.sl (r.2.1.map c5),Ti r.2.2.1,.v (.int .u64 r.2.2.2)])]:=CrT (zK6 cc1) (fun r=>(I r.1,[])) (fun r=>[(80000,.box [.sl (r.2.1.map c5),Ti r.2.2.1,.v (.int .u64 r.2.2.2)])]) (rs:=[.t 2]) (vs:=[.tmp 2]) Tryz.func154 rfl rfl (.cons rfl FitsL.nil) h
def zKn(cc1:((List Int)×Int×Int)):=fR zKA (zCK cc1) fun _=>zKa
theorem zPy:CfW qg 215:=cfW Tryz.func215
noncomputable def zQe(vn1:Int):T qg Bool:=
 .cond (ltI vn1 0) (
 .ret false)<|.op1 (zGl vn1) fun y3=>
 .ret (eqI (w64 (y3*y3)) vn1)
theorem zQw{vn1:Int}{r:Bool}(h:zE7 vn1=some r):zH qg 215 [I vn1] (Bo r) []:=CtU (zQe vn1) 2 (fun r=>Bo r) Tryz.func215 rfl rfl h
def zK1(vn1:Int):=fC zPy (zE7 vn1) fun _=>zQw
theorem zUY:CfW qg 157:=cfW Tryz.func157
noncomputable def zVT(d1:Int):T qg Bool:=
 .pl<|.joinC (.op1 (zEZ d1 5 1000) fun y2=>.seqT (.cond y2 (.op1 (zAn d1 4) fun y4=>.ret (ltI y4 2)) (.ret false)) fun b5=>.seqT (.cond b5 (.op1 (zK1 d1) fun y7=>.ret (!y7)) (.ret false)) fun b8=>.ret (y2,b5,b8)) (mb 15 4) [] (fun s q_1 γ=>s.pc (mb 15 4) [] [(2,Bo q_1.2.2)] []) fun q_1=>
 .ret q_1.2.2
theorem zVk{d1:Int}{r:Bool}(h:zBl d1=some r):zH qg 157 [I d1] (Bo r) []:=CtU (zVT d1) 2 (fun r=>Bo r) Tryz.func157 rfl rfl h
def zIk(d1:Int):=fC zUY (zBl d1) fun _=>zVk
theorem zHt:CfW qg 164:=cfW Tryz.func164
noncomputable def zHy(cc1:((List Int)×Int×Int)):T qg ((Int×((List Int)×Int×Int))):=
 .opx (zKn cc1) fun y2=>
 .op1 (zIk y2.1) fun y3=>
 .cond (!y3) (
 .ret ((136,y2.2)))<|
 .ret ((y2.1,y2.2))
theorem zIA{cc1:((List Int)×Int×Int)}{r:(Int×((List Int)×Int×Int))}(h:zBJ cc1=some r):zES qg 164 [.pt 80000 0] [(80000,.box [.sl (cc1.1.map c5),Ti cc1.2.1,.v (.int .u64 cc1.2.2)])] (I r.1) [] [(80000,.box [.sl (r.2.1.map c5),Ti r.2.2.1,.v (.int .u64 r.2.2.2)])]:=CrT (zHy cc1) (fun r=>(I r.1,[])) (fun r=>[(80000,.box [.sl (r.2.1.map c5),Ti r.2.2.1,.v (.int .u64 r.2.2.2)])]) (rs:=[.t 2]) (vs:=[.tmp 2]) Tryz.func164 rfl rfl (.cons rfl FitsL.nil) h
def zIE(cc1:((List Int)×Int×Int)):=fR zHt (zBJ cc1) fun _=>zIA
theorem zY6:CfW qg 257:=cfW Tryz.func257
noncomputable def zYz(d1:Int):T qg Bool:=
 .pl<|.joinC (.op1 (zBm d1) fun y2=>.seqT (.cond y2 (.op1 (zAn d1 4) fun y4=>.ret (ltI y4 2)) (.ret false)) fun b5=>.seqT (.cond b5 (.op1 (zK1 d1) fun y7=>.ret (!y7)) (.ret false)) fun b8=>.ret (y2,b5,b8)) (mb 15 4) [] (fun s q_1 γ=>s.pc (mb 15 4) [] [(2,Bo q_1.2.2)] []) fun q_1=>
 .ret q_1.2.2
theorem zZM{d1:Int}{r:Bool}(h:zLQ d1=some r):zH qg 257 [I d1] (Bo r) []:=CtU (zYz d1) 2 (fun r=>Bo r) Tryz.func257 rfl rfl h
def z0X(d1:Int):=fC zY6 (zLQ d1) fun _=>zZM
theorem zKh:CfW qg 216:=cfW Tryz.func216
noncomputable def zKr(d1:Int):T qg ((τF×Bool)):=
 .op1 (z0X d1) fun y2=>
 .cond (!y2) (.n0 (bld pl25 bt25)<|
 .ret (((0,0,0),false)))<|.op1 (zAn d1 2) fun y4=>
 .n0 dvN<|.n0 (bld pl25 bt25)<|
 .frc (w64 (Int.tdiv (w64 (y4 - d1)) 4)) fun f5=>.ret (((1,y4,f5),true))
theorem zLC{d1:Int}{r:(τF×Bool)}(h:zEp d1=some r):zH qg 216 [I d1] (.tc (.ag [Ti r.1.1,Ti r.1.2.1,Ti r.1.2.2]) (.tc (Bo r.2) .tn)) []:=CtT (zKr d1) (fun r=>(.tc (.ag [Ti r.1.1,Ti r.1.2.1,Ti r.1.2.2]) (.tc (Bo r.2) .tn),[])) (rs:=[.w 2 3,.t 3]) (vs:=[.cell 2 25,.tmp 3]) Tryz.func216 rfl rfl (.cons ⟨rfl,wd25⟩ (.cons rfl FitsL.nil)) h
def zLr(d1:Int):=fC zKh (zEp d1) fun _=>zLC
theorem zY7:CfW qg 258:=cfW Tryz.func258
noncomputable def zZA(f1:τF):T qg Bool:=
 .op1 (zAC f1) fun y2=>.op1 (zGl y2) fun y3=>
 .op1 (zB7 f1.1) fun y4=>
 .frc (w64 (2*y4)) fun a5=>.joinC (.selB (ltI 0 f1.2.1) true [] fun w_4=>.selB (bif w_4 then (leI f1.2.1 y3) else false) true [] fun w_5=>.selB (bif w_5 then (ltI (w64 (y3 - f1.2.1)) a5) else false) true [] fun w_6=>.ret (w_4,w_5,w_6)) (mb 37 4) [] (fun s q_7 γ=>s.pc (mb 37 4) [] [(2,Bo (bif q_7.2.2 then (leI a5 (w64 (y3+f1.2.1))) else false))] []) fun q_7=>
 .lt (bif q_7.2.2 then (leI a5 (w64 (y3+f1.2.1))) else false) fun t9=>.ret t9
theorem zZN{f1:τF}{r:Bool}(h:zLR f1=some r):zH qg 258 [.ag [Ti f1.1,Ti f1.2.1,Ti f1.2.2]] (Bo r) []:=CtU (zZA f1) 2 (fun r=>Bo r) Tryz.func258 rfl rfl h
def z0Y(f1:τF):=fC zY7 (zLR f1) fun _=>zZN
theorem zUX:CfW qg 281:=cfW Tryz.func281
noncomputable def zVS(f1:τF):T qg Bool:=
 .pl<|.joinC (.op1 (zGm f1) fun y2=>.seqT (.cond y2 (.op1 (zAC f1) fun y4=>.op1 (zIk y4) fun y5=>.ret y5) (.ret false)) fun b6=>.ret (y2,b6)) (mb 10 4) [] (fun s q_1 γ=>s.pc (mb 10 4) [] [(2,Bo q_1.2)] []) fun q_1=>
 .ret q_1.2
theorem zVj{f1:τF}{r:Bool}(h:zI4 f1=some r):zH qg 281 [.ag [Ti f1.1,Ti f1.2.1,Ti f1.2.2]] (Bo r) []:=CtU (zVS f1) 2 (fun r=>Bo r) Tryz.func281 rfl rfl h
def zWQ(f1:τF):=fC zUX (zI4 f1) fun _=>zVj
theorem zUW:CfW qg 218:=cfW Tryz.func218
noncomputable def zVR(f1:τF):T qg (τM):=
 .op1 (zAC f1) fun y2=>.op1 (zGl y2) fun y3=>
 .op1 (zB7 f1.2.2) fun y4=>
 .pl<|.join (
 .cond (ltI y3 y4) (
 .ret y4)<|.ret y3) (mb 36 54) [16,8] (fun s j5 γ=>s.pc (mb 36 54) [16,8] [(5,I j5)] []) fun j5=>
 .op1 (zAn (w64 (j5+f1.2.1)) (w64 (2*y4))) fun y7=>
 .frc (w64 (j5 - y7)) fun b8=>.op0 (quoF .i64 (w64 (f1.2.1+b8)) (w64 (2*f1.2.2))) fun z9=>.n0 (bld pl61 bt61)<|
 .frc (w64 (Int.tdiv (w64 (f1.2.1+b8)) (w64 (2*f1.2.2)))) fun f10=>.ret ((0,-1,1,f10))
theorem zVi{f1:τF}{r:τM}(h:zGf f1=some r):zH qg 218 [.ag [Ti f1.1,Ti f1.2.1,Ti f1.2.2]] (.ag [Ti r.1,Ti r.2.1,Ti r.2.2.1,Ti r.2.2.2]) []:=CtT (zVR f1) (fun r=>(.ag [Ti r.1,Ti r.2.1,Ti r.2.2.1,Ti r.2.2.2],[])) (rs:=[.w 2 4]) (vs:=[.cell 2 61]) Tryz.func218 rfl rfl (.cons ⟨rfl,wd61⟩ FitsL.nil) h
def zMr(f1:τF):=fC zUW (zGf f1) fun _=>zVi
theorem zQI:CfW qg 259:=cfW Tryz.func259
noncomputable def zQo(f1:τF):T qg ((τF×τM×Bool)):=
 .op1 (zWQ f1) fun y2=>
 .cond (!y2) (.n0 (bld pl25 bt25)<|.n0 (bld pl61 bt61)<|
 .ret (((0,0,0),(0,0,0,0),false)))<|.op1 (zMr f1) fun y4=>
 .op1 (zGU f1 y4) fun y5=>
 .dn<|.joinC (.op1 (zGm y5) fun y6=>.seqT (.cond (!y6) (.ret true) (.op1 (zHO y4) fun y8=>.ret (!y8))) fun b9=>.ret (y6,b9)) (mb 29 16777324) [48,40,24,16] (fun s q_1 γ=>s.pc (mb 29 16777324) [48,40,24,16] [(24,Bo q_1.2)] []) fun q_1=>
 .cond q_1.2 (.n0 (bld pl25 bt25)<|.n0 (bld pl61 bt61)<|
 .ret (((0,0,0),(0,0,0,0),false)))<|.draw 3 [(2,16)]<|
 .ret ((y5,y4,true))
theorem zRG{f1:τF}{r:(τF×τM×Bool)}(h:zHI f1=some r):zH qg 259 [.ag [Ti f1.1,Ti f1.2.1,Ti f1.2.2]] (.tc (.ag [Ti r.1.1,Ti r.1.2.1,Ti r.1.2.2]) (.tc (.ag [Ti r.2.1.1,Ti r.2.1.2.1,Ti r.2.1.2.2.1,Ti r.2.1.2.2.2]) (.tc (Bo r.2.2) .tn))) []:=CtT (zQo f1) (fun r=>(.tc (.ag [Ti r.1.1,Ti r.1.2.1,Ti r.1.2.2]) (.tc (.ag [Ti r.2.1.1,Ti r.2.1.2.1,Ti r.2.1.2.2.1,Ti r.2.1.2.2.2]) (.tc (Bo r.2.2) .tn)),[])) (rs:=[.w 2 3,.w 3 4,.t 4]) (vs:=[.cell 2 25,.cell 3 61,.tmp 4]) Tryz.func259 rfl rfl (.cons ⟨rfl,wd25⟩ (.cons ⟨rfl,wd61⟩ (.cons rfl FitsL.nil))) h
def zRl(f1:τF):=fC zQI (zHI f1) fun _=>zRG
theorem zQF:CfW qg 217:=cfW Tryz.func217
noncomputable def zQl(f1:τF):T qg ((τF×τM×Bool)):=
 .n0 (bld pl61 bt61)<|
 .loopS (fun n X_1=>zF6 n X_1.1 X_1.2.1 X_1.2.2.1 X_1.2.2.2.1 X_1.2.2.2.2.1 X_1.2.2.2.2.2.1 X_1.2.2.2.2.2.2) ((1,0,0,1,f1.1,f1.2.1,f1.2.2)) (mb 34 46) [40,24,16,8] (fun s X_1 γ=>s.pc (mb 34 46) [40,24,16,8] [] [(40,.box [Ti X_1.1,Ti X_1.2.1,Ti X_1.2.2.1,Ti X_1.2.2.2.1]),(8,.box [Ti X_1.2.2.2.2.1,Ti X_1.2.2.2.2.2.1,Ti X_1.2.2.2.2.2.2])]) (fun X_1=>
 .op1 (z0Y ((X_1.2.2.2.2.1,X_1.2.2.2.2.2.1,X_1.2.2.2.2.2.2))) fun y11=>
 .cond (!y11) (.op1 (zRl ((X_1.2.2.2.2.1,X_1.2.2.2.2.2.1,X_1.2.2.2.2.2.2))) fun y13=>
 .cond (!y13.2.2) (.n0 (bld pl25 bt25)<|.n0 (bld pl61 bt61)<|
 .ret (.early (((0,0,0),(0,0,0,0),false))))<|.draw 4 []<|.op1 (zC2 ((X_1.1,X_1.2.1,X_1.2.2.1,X_1.2.2.2.1)) y13.2.1) fun y15=>
 .op1 (zHO y15) fun y16=>
 .cond (!y16) (.n0 (bld pl25 bt25)<|.n0 (bld pl61 bt61)<|
 .ret (.early (((0,0,0),(0,0,0,0),false))))<|.ret (.again ((y15.1,y15.2.1,y15.2.2.1,y15.2.2.2,y13.1.1,y13.1.2.1,y13.1.2.2))))<|.ret (.done ((X_1.1,X_1.2.1,X_1.2.2.1,X_1.2.2.2.1,X_1.2.2.2.2.1,X_1.2.2.2.2.2.1,X_1.2.2.2.2.2.2)))) (mb 34 46) [40,24,16,8] (fun s o10 γ=>s.pc (mb 34 46) [40,24,16,8] [] [(40,.box [Ti o10.1,Ti o10.2.1,Ti o10.2.2.1,Ti o10.2.2.2.1]),(8,.box [Ti o10.2.2.2.2.1,Ti o10.2.2.2.2.2.1,Ti o10.2.2.2.2.2.2])]) (fun r=>r) fun o10=>
 .draw 3 [(2,16)]<|
 .ret ((o10.2.2.2.2,(o10.1,o10.2.1,o10.2.2.1,o10.2.2.2.1),true))
theorem zRD{f1:τF}{r:(τF×τM×Bool)}(h:zHH f1=some r):zH qg 217 [.ag [Ti f1.1,Ti f1.2.1,Ti f1.2.2]] (.tc (.ag [Ti r.1.1,Ti r.1.2.1,Ti r.1.2.2]) (.tc (.ag [Ti r.2.1.1,Ti r.2.1.2.1,Ti r.2.1.2.2.1,Ti r.2.1.2.2.2]) (.tc (Bo r.2.2) .tn))) []:=CtT (zQl f1) (fun r=>(.tc (.ag [Ti r.1.1,Ti r.1.2.1,Ti r.1.2.2]) (.tc (.ag [Ti r.2.1.1,Ti r.2.1.2.1,Ti r.2.1.2.2.1,Ti r.2.1.2.2.2]) (.tc (Bo r.2.2) .tn)),[])) (rs:=[.w 2 3,.w 3 4,.t 4]) (vs:=[.cell 2 25,.cell 3 61,.tmp 4]) Tryz.func217 rfl rfl (.cons ⟨rfl,wd25⟩ (.cons ⟨rfl,wd61⟩ (.cons rfl FitsL.nil))) h
def zRj(f1:τF):=fC zQF (zHH f1) fun _=>zRD
theorem zRO:CfW qg 220:=cfW Tryz.func220
noncomputable def zSH(x1:(Int×Int)):T qg Bool:=
 .pl<|.joinC (.op1 (zEZ x1.1 (-100000000) 100000000) fun y2=>.seqT (.cond y2 (.op1 (zBm x1.2) fun y4=>.ret y4) (.ret false)) fun b5=>.ret (y2,b5)) (mb 11 4) [] (fun s q_1 γ=>s.pc (mb 11 4) [] [(2,Bo q_1.2)] []) fun q_1=>
 .ret q_1.2
theorem zSh{x1:(Int×Int)}{r:Bool}(h:zHj x1=some r):zH qg 220 [.ag [Ti x1.1,Ti x1.2]] (Bo r) []:=CtU (zSH x1) 2 (fun r=>Bo r) Tryz.func220 rfl rfl h
def zUj(x1:(Int×Int)):=fC zRO (zHj x1) fun _=>zSh
theorem zUE:CfW qg 158:=cfW Tryz.func158
noncomputable def zUz(d1:Int):T qg (((Int×Int)×Bool)):=
 .op1 (zLr d1) fun y2=>
 .op1 (zRj y2.1) fun y3=>
 .n0 (bld pl61 bt61)<|
 .loopS (fun n X_2=>zFy y3 n X_2.1 X_2.2.1 X_2.2.2.1 X_2.2.2.2.1 X_2.2.2.2.2.1 X_2.2.2.2.2.2.1 X_2.2.2.2.2.2.2) ((y3.1.1,y3.1.2.1,y3.1.2.2,1,0,0,1)) (mb 74 212) [56,48,32,16] (fun s X_2 γ=>s.pc (mb 74 212) [56,48,32,16] [] [(56,.box [Ti X_2.1,Ti X_2.2.1,Ti X_2.2.2.1]),(48,.box [Ti X_2.2.2.2.1,Ti X_2.2.2.2.2.1,Ti X_2.2.2.2.2.2.1,Ti X_2.2.2.2.2.2.2])]) (fun X_2=>
 .op1 (zMr ((X_2.1,X_2.2.1,X_2.2.2.1))) fun y13=>
 .draw 6 []<|.op1 (zGU ((X_2.1,X_2.2.1,X_2.2.2.1)) y13) fun y14=>.op1 (zC2 ((X_2.2.2.2.1,X_2.2.2.2.2.1,X_2.2.2.2.2.2.1,X_2.2.2.2.2.2.2)) y13) fun y15=>
 .dn<|.joinC (.op1 (zB7 y15.1) fun y16=>.seqT (.cond (ltI 1000000000 y16) (.ret true) (.op1 (zB7 y15.2.1) fun y18=>.ret (ltI 1000000000 y18))) fun b19=>.seqT (.cond b19 (.ret true) (.op1 (zB7 y15.2.2.1) fun y21=>.ret (ltI 1000000000 y21))) fun b22=>.seqT (.cond b22 (.ret true) (.op1 (zB7 y15.2.2.2) fun y24=>.ret (ltI 1000000000 y24))) fun b25=>.ret (y16,b19,b22,b25)) (mb 74 4503599627370708) [56,48,32,16] (fun s q_1 γ=>s.pc (mb 74 4503599627370708) [56,48,32,16] [(52,Bo q_1.2.2.2)] []) fun q_1=>
 .cond q_1.2.2.2 (.n0 (bld pl97 bt97)<|
 .ret (.early (((0,0),false))))<|.n0 (eqg3 zWo)<|
 .lt (((y14.1==y3.1.1)&&((y14.2.1==y3.1.2.1)&&(y14.2.2==y3.1.2.2)))) fun t27=>.cond t27 (.ret (.done ((y15.1,y15.2.1,y15.2.2.1,y15.2.2.2))))<|
 .ret (.again ((y14.1,y14.2.1,y14.2.2,y15.1,y15.2.1,y15.2.2.1,y15.2.2.2)))) (mb 74 84) [48,32,16] (fun s o12 γ=>s.pc (mb 74 84) [48,32,16] [] [(48,.box [Ti o12.1,Ti o12.2.1,Ti o12.2.2.1,Ti o12.2.2.2])]) (fun r=>r) fun o12=>
 .draw 14 []<|.op1 (zB7 (w64 (o12.1+o12.2.2.2))) fun y29=>.op0 (quoF .i64 o12.2.2.1 y3.1.1) fun z30=>.op1 (zB7 (w64 (Int.tdiv o12.2.2.1 y3.1.1))) fun y31=>.n0 (bld pl97 bt97)<|
 .draw 3 []<|.op1 (zUj ((y29,y31))) fun y32=>
 .ret (((y29,y31),y32))
theorem zV0{d1:Int}{r:((Int×Int)×Bool)}(h:zI2 d1=some r):zH qg 158 [I d1] (.tc (.ag [Ti r.1.1,Ti r.1.2]) (.tc (Bo r.2) .tn)) []:=CtT (zUz d1) (fun r=>(.tc (.ag [Ti r.1.1,Ti r.1.2]) (.tc (Bo r.2) .tn),[])) (rs:=[.w 2 2,.t 3]) (vs:=[.cell 2 97,.tmp 3]) Tryz.func158 rfl rfl (.cons ⟨rfl,wd97⟩ (.cons rfl FitsL.nil)) h
def zWI(d1:Int):=fC zUE (zI2 d1) fun _=>zV0
theorem zQH:CfW qg 78:=cfW Tryz.func78
noncomputable def zQn(d1:Int):T qg (((Int×Int)×Bool)):=
 .op1 (zIk d1) fun y2=>
 .cond (!y2) (.n0 (bld pl97 bt97)<|
 .ret (((0,0),false)))<|.op1 (zWI d1) fun y4=>
 .cond (!y4.2) (.n0 (bld pl97 bt97)<|
 .ret (((0,0),false)))<|
 .ret ((y4.1,true))
theorem zRF{d1:Int}{r:((Int×Int)×Bool)}(h:zCH d1=some r):zH qg 78 [I d1] (.tc (.ag [Ti r.1.1,Ti r.1.2]) (.tc (Bo r.2) .tn)) []:=CtT (zQn d1) (fun r=>(.tc (.ag [Ti r.1.1,Ti r.1.2]) (.tc (Bo r.2) .tn),[])) (rs:=[.w 2 2,.t 3]) (vs:=[.cell 2 97,.tmp 3]) Tryz.func78 rfl rfl (.cons ⟨rfl,wd97⟩ (.cons rfl FitsL.nil)) h
def zRk(d1:Int):=fC zQH (zCH d1) fun _=>zRF
theorem zJR:CfW qg 27:=cfW Tryz.func27
noncomputable def zJ7(d1:Int):T qg ((qe×Bool)):=
 .op1 (zRk d1) fun y2=>
 .dn<|.joinC (.seqT (.cond (!y2.2) (.ret true) (.op1 (zBm y2.1.1) fun y4=>.ret (!y4))) fun b5=>.ret b5) (mb 29 262161) [32] (fun s q_1 γ=>s.pc (mb 29 262161) [32] [(18,Bo q_1)] []) fun q_1=>
 .cond q_1 (
 .ret (((⟨#[]⟩:qe),false)))<|.draw 12 []<|.op1 (jL d1) fun y7=>.op1 (jL y2.1.1) fun y8=>.op1 (jL y2.1.2) fun y9=>.n1 bsl<|.op1 (zC1 ([(⟨#[115,111,108,117,116,105,111,110]⟩:qe),y7,y8,y9])) fun y10=>
 .ret ((y10,true))
theorem zJk{d1:Int}{r:(qe×Bool)}(h:qU d1=some r):zH qg 27 [I d1] (.tc (.c (.v (.string r.1))) (.tc (Bo r.2) .tn)) []:=CtT (zJ7 d1) (fun r=>(.tc (.c (.v (.string r.1))) (.tc (Bo r.2) .tn),[])) (rs:=[.t 2,.t 3]) (vs:=[.tmp 2,.tmp 3]) Tryz.func27 rfl rfl (.cons rfl (.cons rfl FitsL.nil)) h
def zKO(d1:Int):=fC zJR (qU d1) fun _=>zJk
theorem zL9:CfW qg 165:=cfW Tryz.func165
noncomputable def zML(cc1:((List Int)×Int×Int))(t2:qe)(vwith3:qe):T qg ((qe×((List Int)×Int×Int))):=
 .opx (zC cc1 2) fun y4=>
 .frc (w64 (1+y4.1)) fun vn5=>.loop (fun n X_34=>jY vwith3 n X_34.1 X_34.2.1 X_34.2.2.1 X_34.2.2.2.1 X_34.2.2.2.2) ((t2,vn5,y4.2.1,y4.2.2.1,y4.2.2.2)) (mb 68 135) [80000] (fun s X_34 γ=>s.pc (mb 68 135) [80000] [(1,.c (.v (.string X_34.1))),(7,I X_34.2.1)] [(80000,s.pbx 80000 [.sl (X_34.2.2.1.map c5),Ti X_34.2.2.2.1,.v (.int .u64 X_34.2.2.2.2)])]) (fun X_34=>
 .dn<|.joinC (.selB (ltI 0 X_34.2.1) true [] fun w_32=>.ret w_32) (mb 68 524423) [80000] (fun s q_33 γ=>s.pc (mb 68 524423) [80000] [(19,Bo (bif q_33 then (ltI 0 ((X_34.1.size:Int))) else false))] []) fun q_33=>
 .cond (bif q_33 then (ltI 0 ((X_34.1.size:Int))) else false) (.opx (zC ((X_34.2.2.1,X_34.2.2.2.1,X_34.2.2.2.2)) ((X_34.1.size:Int))) fun y15=>
 .opx (zC y15.2 ((vwith3.size:Int))) fun y16=>.op0 (idxs vwith3 y16.1) fun e17=>.n1 bsl<|.n0 (b2s ct5 (fun _=>rfl) (([e17])))<|
 .opx (zC y16.2 3) fun y18=>
 .cond (eqI y18.1 0) (.draw 10 []<|.op0 (zHE X_34.1 0 y15.1) fun u20=>.op0 (cat (X_34.1.extract (Int.toNat 0) (Int.toNat y15.1)) (zCj ([e17]))) fun u21=>.op0 (zHE X_34.1 y15.1 ((X_34.1.size:Int))) fun u22=>.op0 (cat ((X_34.1.extract (Int.toNat 0) (Int.toNat y15.1))++(zCj ([e17]))) (X_34.1.extract (Int.toNat y15.1) (Int.toNat ((X_34.1.size:Int))))) fun u23=>
 .frc (w64 (X_34.2.1 - 1)) fun vn24=>.ret (.inl ((((X_34.1.extract (Int.toNat 0) (Int.toNat y15.1))++(zCj ([e17])))++(X_34.1.extract (Int.toNat y15.1) (Int.toNat ((X_34.1.size:Int)))),vn24,y18.2.1,y18.2.2.1,y18.2.2.2))))<|
 .cond (eqI y18.1 1) (.draw 11 []<|.op0 (zHE X_34.1 0 y15.1) fun u26=>.op0 (cat (X_34.1.extract (Int.toNat 0) (Int.toNat y15.1)) (zCj ([e17]))) fun u27=>.op0 (zHE X_34.1 (w64 (y15.1+1)) ((X_34.1.size:Int))) fun u28=>.op0 (cat ((X_34.1.extract (Int.toNat 0) (Int.toNat y15.1))++(zCj ([e17]))) (X_34.1.extract (Int.toNat (w64 (y15.1+1))) (Int.toNat ((X_34.1.size:Int))))) fun u29=>
 .frc (w64 (X_34.2.1 - 1)) fun vn30=>.ret (.inl ((((X_34.1.extract (Int.toNat 0) (Int.toNat y15.1))++(zCj ([e17])))++(X_34.1.extract (Int.toNat (w64 (y15.1+1))) (Int.toNat ((X_34.1.size:Int)))),vn30,y18.2.1,y18.2.2.1,y18.2.2.2))))<|.draw 9 []<|.op0 (zHE X_34.1 0 y15.1) fun u31=>.op0 (zHE X_34.1 (w64 (y15.1+1)) ((X_34.1.size:Int))) fun u32=>.op0 (cat (X_34.1.extract (Int.toNat 0) (Int.toNat y15.1)) (X_34.1.extract (Int.toNat (w64 (y15.1+1))) (Int.toNat ((X_34.1.size:Int))))) fun u33=>
 .frc (w64 (X_34.2.1 - 1)) fun vn34=>.ret (.inl (((X_34.1.extract (Int.toNat 0) (Int.toNat y15.1))++(X_34.1.extract (Int.toNat (w64 (y15.1+1))) (Int.toNat ((X_34.1.size:Int)))),vn34,y18.2.1,y18.2.2.1,y18.2.2.2))))<|.ret (.inr ((X_34.1,X_34.2.2.1,X_34.2.2.2.1,X_34.2.2.2.2)))) (mb 68 2) [80000] (fun s o12 γ=>s.pc (mb 68 2) [80000] [(1,.c (.v (.string o12.1)))] [(80000,s.pbx 80000 [.sl (o12.2.1.map c5),Ti o12.2.2.1,.v (.int .u64 o12.2.2.2)])]) fun o12=>
 .ret ((o12.1,o12.2))
theorem zMV{cc1:((List Int)×Int×Int)}{t2:qe}{vwith3:qe}{r:(qe×((List Int)×Int×Int))}(h:zDB cc1 t2 vwith3=some r):zES qg 165 [.pt 80000 0,.c (.v (.string t2)),.c (.v (.string vwith3))] [(80000,.box [.sl (cc1.1.map c5),Ti cc1.2.1,.v (.int .u64 cc1.2.2)])] (.c (.v (.string r.1))) [] [(80000,.box [.sl (r.2.1.map c5),Ti r.2.2.1,.v (.int .u64 r.2.2.2)])]:=CrT (zML cc1 t2 vwith3) (fun r=>(.c (.v (.string r.1)),[])) (fun r=>[(80000,.box [.sl (r.2.1.map c5),Ti r.2.2.1,.v (.int .u64 r.2.2.2)])]) (rs:=[.t 6]) (vs:=[.tmp 6]) Tryz.func165 rfl rfl (.cons rfl FitsL.nil) h
def zMd(cc1:((List Int)×Int×Int))(t2:qe)(vwith3:qe):=fR zL9 (zDB cc1 t2 vwith3) fun _=>zMV
theorem zQC:CfW qg 166:=cfW Tryz.func166
noncomputable def zQi(cc1:((List Int)×Int×Int))(list2:List qe):T qg ((qe×((List Int)×Int×Int))):=
 .n0 (lenM ct9 list2)<|.opx (zC cc1 ((list2.length:Int))) fun y3=>.op0 (idxM ct9 list2 y3.1) fun e4=>
 .ret ((e4,y3.2))
theorem zRA{cc1:((List Int)×Int×Int)}{list2:List qe}{r:(qe×((List Int)×Int×Int))}(h:zDl cc1 list2=some r):zES qg 166 [.pt 80000 0,.c (.sl (list2.map c9))] [(80000,.box [.sl (cc1.1.map c5),Ti cc1.2.1,.v (.int .u64 cc1.2.2)])] (.c (.v (.string r.1))) [] [(80000,.box [.sl (r.2.1.map c5),Ti r.2.2.1,.v (.int .u64 r.2.2.2)])]:=CrT (zQi cc1 list2) (fun r=>(.c (.v (.string r.1)),[])) (fun r=>[(80000,.box [.sl (r.2.1.map c5),Ti r.2.2.1,.v (.int .u64 r.2.2.2)])]) (rs:=[.t 4]) (vs:=[.tmp 4]) Tryz.func166 rfl rfl (.cons rfl FitsL.nil) h
def zRe(cc1:((List Int)×Int×Int))(list2:List qe):=fR zQC (zDl cc1 list2) fun _=>zRA
theorem zIC:CfW qg 82:=cfW Tryz.func82
noncomputable def zIV(cc1:((List Int)×Int×Int)):T qg ((qe×((List Int)×Int×Int))):=
 .pl<|
 .pl<|.join (.opx (zC cc1 9) fun y3=>
 .cond (eqI y3.1 0) (.opx (zDd y3.2) fun y5=>
 .joinC (.drawL [1,1,1,0,0,1,1,1,1]<|.opx (zCX y5.2 y5.1) fun y6=>.op1 (zHC y5.1 y6.1) fun y7=>.ret (y6,y7)) (mb 138 9) [80000] (fun s q_1 γ=>s.pc (mb 138 9) [80000] [(3,.c (.v (.string q_1.2.1)))] [(80000,s.pbx 80000 [.sl (q_1.1.2.1.map c5),Ti q_1.1.2.2.1,.v (.int .u64 q_1.1.2.2.2)])]) fun q_1=>
 .ret (q_1.2.1,q_1.1.2.1,q_1.1.2.2.1,q_1.1.2.2.2))<|
 .cond (eqI y3.1 1) (.opx (zFl y3.2) fun y9=>
 .op1 (zHP y9.1 y9.2.1) fun y10=>
 .ret (y10.1,y9.2.2.1,y9.2.2.2.1,y9.2.2.2.2))<|
 .cond (eqI y3.1 2) (.opx (zMc y3.2) fun y12=>
 .op1 (zJ0 y12.1 y12.2.1) fun y13=>
 .ret (y13.1,y12.2.2.1,y12.2.2.2.1,y12.2.2.2.2))<|
 .cond (eqI y3.1 3) (.opx (zCN y3.2) fun y15=>.opx (zC y15.2 400) fun y16=>.op1 (zHB y15.1 (w64 (1+y16.1))) fun y17=>
 .ret (y17.1,y16.2.1,y16.2.2.1,y16.2.2.2))<|
 .cond (eqI y3.1 4) (.opx (zFl y3.2) fun y19=>
 .op1 (zH1 y19.1 y19.2.1) fun y20=>
 .ret (y20.1,y19.2.2.1,y19.2.2.2.1,y19.2.2.2.2))<|
 .cond (eqI y3.1 5) (.opx (zE5 y3.2) fun y22=>.op1 (zJ1 y22.1) fun y23=>
 .ret (y23.1,y22.2.1,y22.2.2.1,y22.2.2.2))<|
 .cond (eqI y3.1 6) (.op1 (jL (-23)) fun y25=>.opx (zC y3.2 9) fun y26=>.op1 (jL (w64 (1+y26.1))) fun y27=>.opx (zC y26.2 9) fun y28=>.op1 (jL y28.1) fun y29=>.n1 bsl<|.op1 (zC1 ([(⟨#[114,111,111,116]⟩:qe),y25,y27,y29])) fun y30=>
 .ret (y30,y28.2.1,y28.2.2.1,y28.2.2.2))<|
 .cond (eqI y3.1 7) (.opx (zDd y3.2) fun y32=>
 .op1 (zBS y32.1) fun y33=>
 .cond y33 (.op1 (zMg y32.1) fun y35=>
 .op1 (zBE y32.1) fun y36=>.n0 (lenM ct61 y35)<|.opx (zC y32.2 ((y35.length:Int))) fun y37=>.op0 (zBi ct61 y35 y37.1) fun e38=>.op0 (ldo ct61 y35 y37.1) fun e39=>.op1 (zEH e39) fun y40=>.n1 bsl<|.op1 (zC1 ([(⟨#[97,117,116,111,109,111,114,112,104]⟩:qe),y36,y40])) fun y41=>
 .ret (y41,y37.2.1,y37.2.2.1,y37.2.2.2))<|.ret ((⟨#[]⟩:qe),y32.2.1,y32.2.2.1,y32.2.2.2))<|.opx (zIE y3.2) fun y42=>.op1 (zKO y42.1) fun y43=>
 .ret (y43.1,y42.2.1,y42.2.2.1,y42.2.2.2)) (mb 138 9) [80000] (fun s j2 γ=>s.pc (mb 138 9) [80000] [(3,.c (.v (.string j2.1)))] [(80000,s.pbx 80000 [.sl (j2.2.1.map c5),Ti j2.2.2.1,.v (.int .u64 j2.2.2.2)])]) fun j2=>
 .join (
 .cond (j2.1.toList==((⟨#[]⟩:qe)).toList) (
 .ret ((⟨#[111,114,100,101,114,32,40,50,44,49,44,51,41,32,51]⟩:qe)))<|.ret j2.1) (mb 138 9) [80000] (fun s j44 γ=>s.pc (mb 138 9) [80000] [(3,.c (.v (.string j44)))] []) fun j44=>
 .opx (zAh j2.2 4) fun y46=>
 .cond y46.1 (.opx (zMd y46.2 j44 ((⟨#[40,41,44,59,91,93,45,48,49,50,51,32,97]⟩:qe))) fun y48=>
 .ret ((y48.1,y48.2)))<|.opx (zAh y46.2 6) fun y49=>
 .cond y49.1 (.n1 bsl<|.hint (frzH 1072)<|.opx (zRe y49.2 ([(⟨#[32]⟩:qe),(⟨#[32,49]⟩:qe),(⟨#[48]⟩:qe),(⟨#[10]⟩:qe)])) fun y51=>.op0 (cat j44 y51.1) fun u52=>
 .ret ((j44++y51.1,y51.2)))<|
 .ret ((j44,y49.2))
theorem zIZ{cc1:((List Int)×Int×Int)}{r:(qe×((List Int)×Int×Int))}(h:zAg cc1=some r):zES qg 82 [.pt 80000 0] [(80000,.box [.sl (cc1.1.map c5),Ti cc1.2.1,.v (.int .u64 cc1.2.2)])] (.c (.v (.string r.1))) [] [(80000,.box [.sl (r.2.1.map c5),Ti r.2.2.1,.v (.int .u64 r.2.2.2)])]:=CrT (zIV cc1) (fun r=>(.c (.v (.string r.1)),[])) (fun r=>[(80000,.box [.sl (r.2.1.map c5),Ti r.2.2.1,.v (.int .u64 r.2.2.2)])]) (rs:=[.t 2]) (vs:=[.tmp 2]) Tryz.func82 rfl rfl (.cons rfl FitsL.nil) h
def zFX(cc1:((List Int)×Int×Int)):=fR zIC (zAg cc1) fun _=>zIZ
theorem zHL:CfW qg 30:=cfW Tryz.func30
noncomputable def zHT(code1:List Int):T qg qe:=
 .n0 (bld pl57 bt57)<|
 .opx (zFX ((code1,0,0))) fun y2=>
 .ret y2.1
theorem zHV{code1:List Int}{r:qe}(h:zAP code1=some r):zH qg 30 [.c (.sl (code1.map c5))] (.c (.v (.string r))) []:=CtU (zHT code1) 2 (fun r=>.c (.v (.string r))) Tryz.func30 rfl rfl h
def zEl(code1:List Int):=fC zHL (zAP code1) fun _=>zHV
theorem zR6:CfW qg 107:=cfW Tryz.func107
theorem zSz{kind1:qe}{r:qe}(h:zEq kind1=some r):zH qg 107 [.c (.v (.string kind1))] (.c (.v (.string r))) []:=by
 refine CtW [2] Tryz.func107 rfl rfl 9 ?_
 unfold zEq at h;refine VE ?_
 obtain⟨l2,hl2,h⟩:=zD h;have hl2:=zF hl2;refine z7l (fun mb4=>⟨.c (.v (.string kind1))::.bot::.bot::.c (.v (.map (some mb4)))::bt 5 [],[(32,.mp mb4 (l2.map kv170))]⟩) (mb 9 9) [32] ?_ ?_
 ·refine z6N rfl rfl rfl fun mb4=>?_
  refine zDz rfl (zKH (κ:=qe) (ν:=qe) (ek:=zHR) (ev:=zKV) (z:=qf) (m:=([]:List (qe×qe))) (a:=(⟨#[101,113,117,105,118,97,108,101,110,116]⟩:qe)) (u:=(⟨#[102,102,109]⟩:qe)) (id:=32) (b:=mb4) zMk (.inr rfl) rfl kk kk kk kk) ?_
  refine zDz rfl (zKH (κ:=qe) (ν:=qe) (ek:=zHR) (ev:=zKV) (z:=qf) (m:=mPut ((⟨#[101,113,117,105,118,97,108,101,110,116]⟩:qe)) ((⟨#[102,102,109]⟩:qe)) (([]:List (qe×qe)))) (a:=(⟨#[100,105,102,102,101,114,101,110,116]⟩:qe)) (u:=(⟨#[102,109,102,102,109,102]⟩:qe)) (id:=32) (b:=mb4) zMk (.inr rfl) rfl kk kk kk kk) ?_
  refine zDz rfl (zKH (κ:=qe) (ν:=qe) (ek:=zHR) (ev:=zKV) (z:=qf) (m:=mPut ((⟨#[100,105,102,102,101,114,101,110,116]⟩:qe)) ((⟨#[102,109,102,102,109,102]⟩:qe)) (mPut ((⟨#[101,113,117,105,118,97,108,101,110,116]⟩:qe)) ((⟨#[102,102,109]⟩:qe)) (([]:List (qe×qe))))) (a:=(⟨#[118,97,108,117,101]⟩:qe)) (u:=(⟨#[102,110,110,110]⟩:qe)) (id:=32) (b:=mb4) zMk (.inr rfl) rfl kk kk kk kk) ?_
  refine zDz rfl (zKH (κ:=qe) (ν:=qe) (ek:=zHR) (ev:=zKV) (z:=qf) (m:=mPut ((⟨#[118,97,108,117,101]⟩:qe)) ((⟨#[102,110,110,110]⟩:qe)) (mPut ((⟨#[100,105,102,102,101,114,101,110,116]⟩:qe)) ((⟨#[102,109,102,102,109,102]⟩:qe)) (mPut ((⟨#[101,113,117,105,118,97,108,101,110,116]⟩:qe)) ((⟨#[102,102,109]⟩:qe)) (([]:List (qe×qe)))))) (a:=(⟨#[111,98,115,116,114,117,99,116,105,111,110]⟩:qe)) (u:=(⟨#[110,110,110]⟩:qe)) (id:=32) (b:=mb4) zMk (.inr rfl) rfl kk kk kk kk) ?_
  refine zDz rfl (zKH (κ:=qe) (ν:=qe) (ek:=zHR) (ev:=zKV) (z:=qf) (m:=mPut ((⟨#[111,98,115,116,114,117,99,116,105,111,110]⟩:qe)) ((⟨#[110,110,110]⟩:qe)) (mPut ((⟨#[118,97,108,117,101]⟩:qe)) ((⟨#[102,110,110,110]⟩:qe)) (mPut ((⟨#[100,105,102,102,101,114,101,110,116]⟩:qe)) ((⟨#[102,109,102,102,109,102]⟩:qe)) (mPut ((⟨#[101,113,117,105,118,97,108,101,110,116]⟩:qe)) ((⟨#[102,102,109]⟩:qe)) (([]:List (qe×qe))))))) (a:=(⟨#[99,111,109,112,111,115,105,116,101]⟩:qe)) (u:=(⟨#[102,102,102,110,110,110,110,110,110,110,110]⟩:qe)) (id:=32) (b:=mb4) zMk (.inr rfl) rfl kk kk kk kk) ?_
  refine zDz rfl (zKH (κ:=qe) (ν:=qe) (ek:=zHR) (ev:=zKV) (z:=qf) (m:=mPut ((⟨#[99,111,109,112,111,115,105,116,101]⟩:qe)) ((⟨#[102,102,102,110,110,110,110,110,110,110,110]⟩:qe)) (mPut ((⟨#[111,98,115,116,114,117,99,116,105,111,110]⟩:qe)) ((⟨#[110,110,110]⟩:qe)) (mPut ((⟨#[118,97,108,117,101]⟩:qe)) ((⟨#[102,110,110,110]⟩:qe)) (mPut ((⟨#[100,105,102,102,101,114,101,110,116]⟩:qe)) ((⟨#[102,109,102,102,109,102]⟩:qe)) (mPut ((⟨#[101,113,117,105,118,97,108,101,110,116]⟩:qe)) ((⟨#[102,102,109]⟩:qe)) (([]:List (qe×qe)))))))) (a:=(⟨#[111,114,100,101,114]⟩:qe)) (u:=(⟨#[102,110]⟩:qe)) (id:=32) (b:=mb4) zMk (.inr rfl) rfl kk kk kk kk) ?_
  refine zDz rfl (zKH (κ:=qe) (ν:=qe) (ek:=zHR) (ev:=zKV) (z:=qf) (m:=mPut ((⟨#[111,114,100,101,114]⟩:qe)) ((⟨#[102,110]⟩:qe)) (mPut ((⟨#[99,111,109,112,111,115,105,116,101]⟩:qe)) ((⟨#[102,102,102,110,110,110,110,110,110,110,110]⟩:qe)) (mPut ((⟨#[111,98,115,116,114,117,99,116,105,111,110]⟩:qe)) ((⟨#[110,110,110]⟩:qe)) (mPut ((⟨#[118,97,108,117,101]⟩:qe)) ((⟨#[102,110,110,110]⟩:qe)) (mPut ((⟨#[100,105,102,102,101,114,101,110,116]⟩:qe)) ((⟨#[102,109,102,102,109,102]⟩:qe)) (mPut ((⟨#[101,113,117,105,118,97,108,101,110,116]⟩:qe)) ((⟨#[102,102,109]⟩:qe)) (([]:List (qe×qe))))))))) (a:=(⟨#[114,111,111,116]⟩:qe)) (u:=(⟨#[110,110,110]⟩:qe)) (id:=32) (b:=mb4) zMk (.inr rfl) rfl kk kk kk kk) ?_
  refine zDz rfl (zKH (κ:=qe) (ν:=qe) (ek:=zHR) (ev:=zKV) (z:=qf) (m:=mPut ((⟨#[114,111,111,116]⟩:qe)) ((⟨#[110,110,110]⟩:qe)) (mPut ((⟨#[111,114,100,101,114]⟩:qe)) ((⟨#[102,110]⟩:qe)) (mPut ((⟨#[99,111,109,112,111,115,105,116,101]⟩:qe)) ((⟨#[102,102,102,110,110,110,110,110,110,110,110]⟩:qe)) (mPut ((⟨#[111,98,115,116,114,117,99,116,105,111,110]⟩:qe)) ((⟨#[110,110,110]⟩:qe)) (mPut ((⟨#[118,97,108,117,101]⟩:qe)) ((⟨#[102,110,110,110]⟩:qe)) (mPut ((⟨#[100,105,102,102,101,114,101,110,116]⟩:qe)) ((⟨#[102,109,102,102,109,102]⟩:qe)) (mPut ((⟨#[101,113,117,105,118,97,108,101,110,116]⟩:qe)) ((⟨#[102,102,109]⟩:qe)) (([]:List (qe×qe)))))))))) (a:=(⟨#[97,117,116,111,109,111,114,112,104]⟩:qe)) (u:=(⟨#[102,109]⟩:qe)) (id:=32) (b:=mb4) zMk (.inr rfl) rfl kk kk kk kk) ?_
  refine zDz rfl (zKH (κ:=qe) (ν:=qe) (ek:=zHR) (ev:=zKV) (z:=qf) (m:=mPut ((⟨#[97,117,116,111,109,111,114,112,104]⟩:qe)) ((⟨#[102,109]⟩:qe)) (mPut ((⟨#[114,111,111,116]⟩:qe)) ((⟨#[110,110,110]⟩:qe)) (mPut ((⟨#[111,114,100,101,114]⟩:qe)) ((⟨#[102,110]⟩:qe)) (mPut ((⟨#[99,111,109,112,111,115,105,116,101]⟩:qe)) ((⟨#[102,102,102,110,110,110,110,110,110,110,110]⟩:qe)) (mPut ((⟨#[111,98,115,116,114,117,99,116,105,111,110]⟩:qe)) ((⟨#[110,110,110]⟩:qe)) (mPut ((⟨#[118,97,108,117,101]⟩:qe)) ((⟨#[102,110,110,110]⟩:qe)) (mPut ((⟨#[100,105,102,102,101,114,101,110,116]⟩:qe)) ((⟨#[102,109,102,102,109,102]⟩:qe)) (mPut ((⟨#[101,113,117,105,118,97,108,101,110,116]⟩:qe)) ((⟨#[102,102,109]⟩:qe)) (([]:List (qe×qe))))))))))) (a:=(⟨#[115,111,108,117,116,105,111,110]⟩:qe)) (u:=(⟨#[110,110,110]⟩:qe)) (id:=32) (b:=mb4) zMk (.inr rfl) rfl kk kk kk kk) ?_
  refine XR 2 ?_
  refine qR ?_
  subst hl2;exact⟨mb4,by kernel_rfl⟩
 intro mb4;refine VS ?_
 refine YR 2 ?_
 refine L0 rfl rfl (z5y (κ:=qe) (ν:=qe) (ek:=zHR) (ev:=zKV) (z:=qf) (m:=l2) (a:=kind1) (id:=32) (b:=mb4) zMk rfl kk kk kk) ?_
 refine YF ?_
 cases h;exact zCI VT
theorem zNa:CfW qg 190:=cfW Tryz.func190
theorem zOR{vs1:qe}{r:List Int}(h:zAl vs1=some r):zH qg 190 [.c (.v (.string vs1))] (.ow 0) [(0,.arr 3 1 (r.map c3))]:=by
 refine CtW [2] Tryz.func190 rfl rfl 30 ?_
 unfold zAl at h;refine VS ?_
 refine L1 rfl rfl (z1b (e:=3) 1 (by decide) (.inl rfl)) ?_
 refine YF ?_
 refine VS ?_
 refine L1 rfl rfl (zNf Tryz.underlying50 sz3 (by decide) rfl rfl) ?_
 refine YF ?_
 refine qB ?_
 obtain⟨y2,hy2,h⟩:=zD h;refine VS ?_
 refine YK 1 (zIY hy2) zKf ?_
 refine L0 rfl rfl (zOz (c:=c9) (xs:=y2) Tryz.underlying45 rfl kk) ?_
 refine YF ?_
 obtain⟨qo6,hLo6,hko6⟩:=zD h;refine V_toS (q:=qo6) (S:=fun o6=>⟨bt 3 (.ow 64::bt 26 []),[(64,.arr 3 1 (o6.map c3))]⟩) (mb 30 8) [64] ?_ ?_
 ·refine qM (zYi (fun n s=>∃(t3:Int) (l4:List Int),s.keep (mb 30 7176) [80,64]=(⟨bt 3 (.ow 64::bt 6 (.ow 80::I ((y2.length:Int))::I t3::bt 17 [])),[(80,.arr 9 1 (y2.map c9)),(64,.arr 3 1 (l4.map c3))]⟩:St)∧qY y2 n t3 l4=some qo6) FU ⟨_,_,kk,hLo6⟩ ?_);clear hLo6;rintro n s ⟨t3,l4,hs,h⟩;refine zAN _ _ hs ?_
  clear hs;cases n with
  |zero=>cases h
  |succ n=>
   rw[qY]at h;refine VE ?_
   refine qB ?_
   refine VC h (fun h=>?_) (fun h=>?_)
   ·refine jC ?_
    show V _ _ _ _;refine qB ?_
    refine qM ?_
    obtain⟨e8,he8,h⟩:=zD h;obtain⟨e9,he9,h⟩:=zD h;refine VS ?_
    refine L0 rfl rfl (zUd (c:=c9) (xs:=y2) (v:=e8) (id:=80) (T:=9) (sz:=1) (n:=t3) Tryz.underlying45 sz9 rfl kk kk kk he8) ?_
    refine L0 rfl rfl (zQR (c:=c9) (xs:=y2) (v:=e9) (id:=80) (sz:=1) (T:=9) (off:=0) (n:=t3) (d:=.v (.string e9)) (ds:=[]) sc9 rfl kk kk he9 kk) ?_
    refine YF ?_
    obtain⟨y10,hy10,h⟩:=zD h;refine VS ?_
    refine YK 1 (zLA hy10) zKX ?_
    refine YF ?_
    refine qB ?_
    refine VS ?_
    refine YR 1 ?_
    refine L0 rfl rfl (z7b (b:=y10.2) Tryz.underlying163 rfl kk) ?_
    refine YF ?_
    refine VC h (fun h=>?_) (fun h=>?_)
    ·refine VS ?_
     refine L1 rfl rfl (zNf Tryz.underlying50 sz3 (by decide) rfl rfl) ?_
     refine YF ?_
     refine zCI ?_
     obtain rfl:=zF h;have h:=hko6;obtain rfl:=zF h;exact VT
    ·refine jC ?_
     show V _ _ _ _;obtain⟨u12,hu12,h⟩:=zD h;refine qX ?_
     refine YR 2 ?_
     refine L1 rfl rfl (zFk (z:=zv3) (els:=[y10.1].map c3) Tryz.underlying50 iz3 rfl (by decide) rfl kk rfl (by simp[c3]) (by decide) (by decide)) ?_
     refine zDz rfl (zJY (c:=c3) (xs:=l4) (ys:=[y10.1]) (id:=64) (z:=zv3) rfl rfl Tryz.underlying50 izb3 rfl kk kk kk (fun _=>rfl) (by simp) (zJG hu12) (by decide)) ?_
     refine YF ?_
     show V _ _ _ _;obtain⟨t13,ht13,h⟩:=zFM h;refine z8S (mb 30 7176) [80,64] (s1:=⟨bt 3 (.ow 64::bt 6 (.ow 80::I ((y2.length:Int))::I t13::bt 17 [])),[(80,.arr 9 1 (y2.map c9)),(64,.arr 3 1 ((l4++([y10.1])).map c3))]⟩) ?_ ?_
     ·refine XR 2 ?_
      refine qR ?_
      subst ht13
      kernel_rfl
     exact⟨n,Nat.lt_succ_self n,_,_,kk,h⟩
   ·refine zHN ?_
    obtain rfl:=zF h;exact⟨_,rfl,kk⟩
 rintro o6 rfl;have h:=hko6;clear hko6;show V _ _ _ _;refine VE ?_
 cases h;exact zCI VT
def zIT(vs1:qe):=fC zNa (zAl vs1) fun _=>zOR
theorem zCW:CfW qg 77:=cfW Tryz.func77
noncomputable def zNz(list1:List Int):T qg Bool:=
 .n0 (lenM ct3 list1)<|
 .loopS (fun n X_34=>zCf list1 n X_34) 0 (mb 18 224) [] (fun s X_34 γ=>s.pc (mb 18 224) [] [(7,I X_34)] []) (fun X_34=>
 .cond (ltI X_34 ((list1.length:Int))) (.op0 (idxM ct3 list1 X_34) fun e6=>
 .joinC (.selB (ltI e6 (-1000000)) false [] fun w_32=>.ret w_32) (mb 18 65760) [] (fun s q_33 γ=>s.pc (mb 18 65760) [] [(16,Bo (bif q_33 then true else (ltI 1000000 e6)))] []) fun q_33=>
 .cond (bif q_33 then true else (ltI 1000000 e6)) (
 .ret (.early false))<|
 .frc (w64 (X_34+1)) fun t9=>.ret (.again t9))<|.ret (.done (()))) (mb 18 0) [] (fun s o4 γ=>s.pc (mb 18 0) [] [] []) (fun r=>r) fun o4=>
 .ret true
theorem zCl{list1:List Int}{r:Bool}(h:qK list1=some r):zH qg 77 [.c (.sl (list1.map c3))] (Bo r) []:=CtU (zNz list1) 2 (fun r=>Bo r) Tryz.func77 rfl rfl h
def zIR(list1:List Int):=fCs zCW (qK list1) (fun _=>zCl) fun _=>rfl
theorem zU2:CfW qg 119:=cfW Tryz.func119
noncomputable def zVX(f1:τF):T qg Bool:=
 .n1 bsl<|.op1 (zIR ([f1.1,f1.2.1,f1.2.2])) fun y2=>
 .ret y2
theorem zVo{f1:τF}{r:Bool}(h:zEg f1=some r):zH qg 119 [.ag [Ti f1.1,Ti f1.2.1,Ti f1.2.2]] (Bo r) []:=CtU (zVX f1) 2 (fun r=>Bo r) Tryz.func119 rfl rfl h
def zMs(f1:τF):=fC zU2 (zEg f1) fun _=>zVo
theorem zQL:CfW qg 43:=cfW Tryz.func43
noncomputable def zQq(f1:τF):T qg qe:=
 .draw 16 []<|.op1 (zD9 f1.1) fun y2=>.op0 (cat ((⟨#[40]⟩:qe)) y2) fun u3=>.op0 (cat (((⟨#[40]⟩:qe))++y2) ((⟨#[44]⟩:qe))) fun u4=>.op1 (zD9 f1.2.1) fun y5=>.op0 (cat ((((⟨#[40]⟩:qe))++y2)++((⟨#[44]⟩:qe))) y5) fun u6=>.op0 (cat (((((⟨#[40]⟩:qe))++y2)++((⟨#[44]⟩:qe)))++y5) ((⟨#[44]⟩:qe))) fun u7=>.op1 (zD9 f1.2.2) fun y8=>.op0 (cat ((((((⟨#[40]⟩:qe))++y2)++((⟨#[44]⟩:qe)))++y5)++((⟨#[44]⟩:qe))) y8) fun u9=>.op0 (cat (((((((⟨#[40]⟩:qe))++y2)++((⟨#[44]⟩:qe)))++y5)++((⟨#[44]⟩:qe)))++y8) ((⟨#[41]⟩:qe))) fun u10=>
 .ret ((((((((⟨#[40]⟩:qe))++y2)++((⟨#[44]⟩:qe)))++y5)++((⟨#[44]⟩:qe)))++y8)++((⟨#[41]⟩:qe)))
theorem zRJ{f1:τF}{r:qe}(h:jE f1=some r):zH qg 43 [.ag [Ti f1.1,Ti f1.2.1,Ti f1.2.2]] (.c (.v (.string r))) []:=CtU (zQq f1) 2 (fun r=>.c (.v (.string r))) Tryz.func43 rfl rfl h
def zRm(f1:τF):=fC zQL (jE f1) fun _=>zRJ
theorem zOt:CfW qg 108:=cfW Tryz.func108
noncomputable def zPV(vs1:qe):T qg ((τF×Bool)):=
 .op1 (zIT vs1) fun y2=>
 .n0 (lenM ct3 y2)<|
 .cond (!eqI ((y2.length:Int)) 3) (.n0 (bld pl25 bt25)<|
 .ret (((0,0,0),false)))<|.draw 11 []<|.op0 (zBi ct3 y2 0) fun e4=>.op0 (ldo ct3 y2 0) fun e5=>.op0 (zBi ct3 y2 1) fun e6=>.op0 (ldo ct3 y2 1) fun e7=>.op0 (zBi ct3 y2 2) fun e8=>.op0 (ldo ct3 y2 2) fun e9=>.n0 (bld pl25 bt25)<|
 .dn<|.joinC (.op1 (zMs ((e5,e7,e9))) fun y10=>.seqT (.cond (!y10) (.ret true) (.op1 (zRm ((e5,e7,e9))) fun y12=>.ret (!(y12.toList==vs1.toList)))) fun b13=>.ret (y10,b13)) (mb 33 1073741860) [40,16] (fun s q_1 γ=>s.pc (mb 33 1073741860) [40,16] [(30,Bo q_1.2)] []) fun q_1=>
 .cond q_1.2 (.n0 (bld pl25 bt25)<|
 .ret (((0,0,0),false)))<|
 .ret (((e5,e7,e9),true))
theorem zP9{vs1:qe}{r:(τF×Bool)}(h:zCV vs1=some r):zH qg 108 [.c (.v (.string vs1))] (.tc (.ag [Ti r.1.1,Ti r.1.2.1,Ti r.1.2.2]) (.tc (Bo r.2) .tn)) []:=CtT (zPV vs1) (fun r=>(.tc (.ag [Ti r.1.1,Ti r.1.2.1,Ti r.1.2.2]) (.tc (Bo r.2) .tn),[])) (rs:=[.w 2 3,.t 3]) (vs:=[.cell 2 25,.tmp 3]) Tryz.func108 rfl rfl (.cons ⟨rfl,wd25⟩ (.cons rfl FitsL.nil)) h
theorem zQO:CfW qg 94:=cfW Tryz.func94
noncomputable def zQt(vm1:τM):T qg Bool:=
 .n1 bsl<|.op1 (zIR ([vm1.1,vm1.2.1,vm1.2.2.1,vm1.2.2.2])) fun y2=>
 .ret y2
theorem zRM{vm1:τM}{r:Bool}(h:zX vm1=some r):zH qg 94 [.ag [Ti vm1.1,Ti vm1.2.1,Ti vm1.2.2.1,Ti vm1.2.2.2]] (Bo r) []:=CtU (zQt vm1) 2 (fun r=>Bo r) Tryz.func94 rfl rfl h
def zRo(vm1:τM):=fC zQO (zX vm1) fun _=>zRM
theorem zN8:CfW qg 44:=cfW Tryz.func44
noncomputable def zNv(vm1:τM):T qg qe:=
 .draw 21 []<|.op1 (zD9 vm1.1) fun y2=>.op0 (cat ((⟨#[91]⟩:qe)) y2) fun u3=>.op0 (cat (((⟨#[91]⟩:qe))++y2) ((⟨#[44]⟩:qe))) fun u4=>.op1 (zD9 vm1.2.1) fun y5=>.op0 (cat ((((⟨#[91]⟩:qe))++y2)++((⟨#[44]⟩:qe))) y5) fun u6=>.op0 (cat (((((⟨#[91]⟩:qe))++y2)++((⟨#[44]⟩:qe)))++y5) ((⟨#[59]⟩:qe))) fun u7=>.op1 (zD9 vm1.2.2.1) fun y8=>.op0 (cat ((((((⟨#[91]⟩:qe))++y2)++((⟨#[44]⟩:qe)))++y5)++((⟨#[59]⟩:qe))) y8) fun u9=>.op0 (cat (((((((⟨#[91]⟩:qe))++y2)++((⟨#[44]⟩:qe)))++y5)++((⟨#[59]⟩:qe)))++y8) ((⟨#[44]⟩:qe))) fun u10=>.op1 (zD9 vm1.2.2.2) fun y11=>.op0 (cat ((((((((⟨#[91]⟩:qe))++y2)++((⟨#[44]⟩:qe)))++y5)++((⟨#[59]⟩:qe)))++y8)++((⟨#[44]⟩:qe))) y11) fun u12=>.op0 (cat (((((((((⟨#[91]⟩:qe))++y2)++((⟨#[44]⟩:qe)))++y5)++((⟨#[59]⟩:qe)))++y8)++((⟨#[44]⟩:qe)))++y11) ((⟨#[93]⟩:qe))) fun u13=>
 .ret ((((((((((⟨#[91]⟩:qe))++y2)++((⟨#[44]⟩:qe)))++y5)++((⟨#[59]⟩:qe)))++y8)++((⟨#[44]⟩:qe)))++y11)++((⟨#[93]⟩:qe)))
theorem zOP{vm1:τM}{r:qe}(h:zBQ vm1=some r):zH qg 44 [.ag [Ti vm1.1,Ti vm1.2.1,Ti vm1.2.2.1,Ti vm1.2.2.2]] (.c (.v (.string r))) []:=CtU (zNv vm1) 2 (fun r=>.c (.v (.string r))) Tryz.func44 rfl rfl h
def zPG(vm1:τM):=fC zN8 (zBQ vm1) fun _=>zOP
theorem zMa:CfW qg 109:=cfW Tryz.func109
noncomputable def zNB(vs1:qe):T qg ((τM×Bool)):=
 .op1 (zIT vs1) fun y2=>
 .n0 (lenM ct3 y2)<|
 .cond (!eqI ((y2.length:Int)) 4) (.n0 (bld pl61 bt61)<|
 .ret (((0,0,0,0),false)))<|.draw 14 []<|.op0 (zBi ct3 y2 0) fun e4=>.op0 (ldo ct3 y2 0) fun e5=>.op0 (zBi ct3 y2 1) fun e6=>.op0 (ldo ct3 y2 1) fun e7=>.op0 (zBi ct3 y2 2) fun e8=>.op0 (ldo ct3 y2 2) fun e9=>.op0 (zBi ct3 y2 3) fun e10=>.op0 (ldo ct3 y2 3) fun e11=>.n0 (bld pl61 bt61)<|
 .dn<|.joinC (.op1 (zRo ((e5,e7,e9,e11))) fun y12=>.seqT (.cond (!y12) (.ret true) (.op1 (zPG ((e5,e7,e9,e11))) fun y14=>.ret (!(y14.toList==vs1.toList)))) fun b15=>.ret (y12,b15)) (mb 36 8589934628) [40,16] (fun s q_1 γ=>s.pc (mb 36 8589934628) [40,16] [(33,Bo q_1.2)] []) fun q_1=>
 .cond q_1.2 (.n0 (bld pl61 bt61)<|
 .ret (((0,0,0,0),false)))<|
 .ret (((e5,e7,e9,e11),true))
theorem zNO{vs1:qe}{r:(τM×Bool)}(h:zB9 vs1=some r):zH qg 109 [.c (.v (.string vs1))] (.tc (.ag [Ti r.1.1,Ti r.1.2.1,Ti r.1.2.2.1,Ti r.1.2.2.2]) (.tc (Bo r.2) .tn)) []:=CtT (zNB vs1) (fun r=>(.tc (.ag [Ti r.1.1,Ti r.1.2.1,Ti r.1.2.2.1,Ti r.1.2.2.2]) (.tc (Bo r.2) .tn),[])) (rs:=[.w 2 4,.t 3]) (vs:=[.cell 2 61,.tmp 3]) Tryz.func109 rfl rfl (.cons ⟨rfl,wd61⟩ (.cons rfl FitsL.nil)) h
theorem zQK:CfW qg 110:=cfW Tryz.func110
theorem zRI{w1:qe}{r:(Int×Bool)}(h:zEa w1=some r):zH qg 110 [.c (.v (.string w1))] (.tc (I r.1) (.tc (Bo r.2) .tn)) []:=by
 refine CtW [2,3] Tryz.func110 rfl rfl 25 ?_
 unfold zEa at h;refine VE ?_
 obtain⟨y2,hy2,h⟩:=zD h;refine VS ?_
 refine YK 1 (zLA hy2) zKX ?_
 refine YF ?_
 obtain⟨b5,hb5,h⟩:=zD h;obtain⟨b8,hb8,h⟩:=zD h;refine zEi (mb 25 12) [] (s1:=⟨.bot::.bot::I y2.1::Bo b8::bt 21 [],[]⟩) ?_ ?_
 ·refine YR 2 ?_
  refine L0 rfl rfl (z7c (b:=y2.2) Tryz.underlying163 rfl kk) ?_
  refine YR 1 ?_
  refine zAZ y2.2 (fun hc3=>?_) (fun hc3=>?_)
  ·have hb5:=zDI hb5 hc3;obtain⟨y4,hy4,hb5⟩:=zD hb5;have hb5:=zF hb5;refine YQ hc3 ?_
   refine YR 1 ?_
   refine YT (zGR rfl (zFk (z:=zv3) (els:=[y2.1].map c3) Tryz.underlying50 iz3 rfl (by decide) rfl kk rfl (by simp[c3]) (by decide) (by decide))) ?_
   refine YT (zGR rfl (z0P (zCl hy4) zCW rfl kk rfl rfl)) ?_
   refine YR 2 ?_
   refine zAZ b5 (fun hc6=>?_) (fun hc6=>?_)
   ·have hb8:=zDI hb8 hc6;obtain⟨y7,hy7,hb8⟩:=zD hb8;have hb8:=zF hb8;refine YQ hc6 ?_ (by rw[←hb5];(try rw[←hb8]);(try rw[hc3]);kernel_rfl)
    refine YK 1 (zKz hy7) zKW ?_
    exact YE (by rw[←hb8];(try rw[hc3]);(try rw[hc6]);kernel_rfl)
   ·have hb8:=zF (jK hb8 hc6);refine YQ hc6 ?_ (by rw[←hb5];(try rw[←hb8]);(try rw[hc3]);kernel_rfl)
    exact YE (by rw[←hb8];(try rw[hc3]);(try rw[hc6]);kernel_rfl)
  ·have hb5:=zF (jK hb5 hc3);refine YQ hc3 ?_
   refine YR 5 ?_
   subst hb5;have hc6:false=false:=rfl;have hb8:=zF (jK hb8 hc6);exact YE (by rw[←hb8];(try rw[hc3]);kernel_rfl)
 cases h;exact zCI VT
theorem zR8:CfW qg 52:=cfW Tryz.func52
theorem zTB{vs1:qe}{r:((qe×(List τF)×(List τM)×(List Int))×Bool)}(h:zAx vs1=some r):zH qg 52 [.c (.v (.string vs1))] (.tc (.ag [.v (.string r.1.1),.sl (r.1.2.1.map c25),.sl (r.1.2.2.1.map c61),.sl (r.1.2.2.2.map c3)]) (.tc (Bo r.2) .tn)) []:=by
 refine zGk (rs:=[.w 2 4,.t 3]) (vs:=[.cell 2 75,.tmp 3]) Tryz.func52 rfl rfl (.cons ⟨rfl,wd75⟩ (.cons rfl FitsL.nil)) (by decide) 92 rfl ?_
 unfold zAx at h;refine VE ?_
 obtain⟨y2,hy2,h⟩:=zD h;refine VS ?_
 refine YK 1 (zKU hy2) zJO ?_
 refine YF ?_
 obtain⟨e3,he3,h⟩:=zD h;obtain⟨e4,he4,h⟩:=zD h;refine VS ?_
 refine YR 1 ?_
 refine L0 rfl rfl (zUd (c:=c9) (xs:=y2) (v:=e3) (id:=136) (T:=9) (sz:=1) (n:=0) Tryz.underlying45 sz9 rfl kk kk kk he3) ?_
 refine L0 rfl rfl (zQR (c:=c9) (xs:=y2) (v:=e4) (id:=136) (sz:=1) (T:=9) (off:=0) (n:=0) (d:=.v (.string e4)) (ds:=[]) sc9 rfl kk kk he4 kk) ?_
 refine L0 rfl rfl (zGQ (cs:=[.v (.string e4),.v (.slice none 0 0),.v (.slice none 0 0),.v (.slice none 0 0)]) pl75 bt75 rfl rfl kk) ?_
 refine YF ?_
 obtain⟨y5,hy5,h⟩:=zD h;refine VS ?_
 refine YK 2 (zSz hy5) zR6 ?_
 refine YF ?_
 refine qB ?_
 obtain⟨t7,ht7,h⟩:=zD h;have ht7:=zF ht7;refine zEi (mb 92 17179869300) [40,136,16] (s1:=⟨.bot::.bot::.pt 16 0::.bot::.ow 136::.pt 40 0::.c (.v (.string y5))::bt 27 (Bo t7::bt 57 []),[(40,.box [.v (.string e4),.v (.slice none 0 0),.v (.slice none 0 0),.v (.slice none 0 0)]),(136,.arr 9 1 (y2.map c9)),(16,.box [.v (.string qf),.v (.slice none 0 0),.v (.slice none 0 0),.v (.slice none 0 0)])]⟩) ?_ ?_
 ·refine YR 3 ?_
  refine zAZ (y5.toList==((⟨#[]⟩:qe)).toList) (fun hc6=>?_) (fun hc6=>?_)
  ·refine YQ hc6 ?_
   exact YE (by rw[←ht7];(try rw[hc6]);kernel_rfl)
  ·refine YQ hc6 ?_
   refine YR 1 ?_
   refine YT (zGi rfl (zOz (c:=c9) (xs:=y2) Tryz.underlying45 rfl kk)) ?_
   exact YE (by rw[←ht7];(try rw[hc6]);kernel_rfl)
 refine VC h (fun h=>?_) (fun h=>?_)
 ·refine VS ?_
  refine L0 rfl rfl (zGQ (cs:=[.v (.string qf),.v (.slice none 0 0),.v (.slice none 0 0),.v (.slice none 0 0)]) pl75 bt75 rfl rfl kk) ?_
  refine YF ?_
  refine zF5 16 1 (cs:=[.v (.string qf),.v (.slice none 0 0),.v (.slice none 0 0),.v (.slice none 0 0)]) kk kk rfl ?_
  refine zF5 16 2 (cs:=[.v (.string qf),.sl ((([]:List τF)).map c25),.v (.slice none 0 0),.v (.slice none 0 0)]) kk kk rfl ?_
  refine zF5 16 3 (cs:=[.v (.string qf),.sl ((([]:List τF)).map c25),.sl ((([]:List τM)).map c61),.v (.slice none 0 0)]) kk kk rfl ?_
  cases h;exact zCI VT
 ·refine jC ?_
  show V _ _ _ _;refine qB ?_
  obtain⟨u9,hu9,h⟩:=zD h;obtain⟨t10,ht10,h⟩:=zFM h;refine zEi (mb 92 962072674404) [40,16] (s1:=⟨.bot::.bot::.pt 16 0::.bot::.bot::.pt 40 0::.c (.v (.string y5))::bt 30 (.c (.sl ((subl y2 1 ((y2.length:Int))).map c9))::I t10::I 0::bt 52 []),[(40,.box [.v (.string e4),.v (.slice none 0 0),.v (.slice none 0 0),.v (.slice none 0 0)]),(16,.box [.v (.string qf),.v (.slice none 0 0),.v (.slice none 0 0),.v (.slice none 0 0)])]⟩) ?_ ?_
  ·refine YR 1 ?_
   refine z3m 136 (T:=9) (sz:=1) (els:=y2.map c9) kk rfl ?_
   refine L0 rfl rfl (zOy (c:=c9) (xs:=y2) (l:=1) (h:=(y2.length:Int)) Tryz.underlying45 sz9 (fun _=>rfl) rfl kk (fun y hy=>by cases hy;exact⟨.i64,kk⟩) (fun hh=>by cases hh) (fun y hy=>by cases hy) (fun _=>rfl) (zHb hu9)) ?_
   refine L0 rfl rfl (zOz (c:=c9) (xs:=subl y2 1 ((y2.length:Int))) Tryz.underlying45 rfl kk) ?_
   refine YR 1 ?_
   refine qR ?_
   subst ht10
   kernel_rfl
  refine zUe 42 25 3 kk (by decide) ?_
  refine zUe 43 61 4 kk (by decide) ?_
  refine zUe 44 3 1 kk (by decide) ?_
  refine V_gen (fun γ:Nat→Loc=>⟨.bot::.bot::.pt 16 0::.bot::.bot::.pt 40 0::.c (.v (.string y5))::bt 30 (.c (.sl ((subl y2 1 ((y2.length:Int))).map c9))::I t10::I 0::bt 52 []),[(44,.qarr (γ 44) 3 1 ((([]:List Int)).map c3)),(43,.qarr (γ 43) 61 4 ((([]:List τM)).map c61)),(42,.qarr (γ 42) 25 3 ((([]:List τF)).map c25)),(40,.box [.v (.string e4),.v (zG (γ 42)),.v (zG (γ 43)),.v (zG (γ 44))]),(16,.box [.v (.string qf),.v (.slice none 0 0),.v (.slice none 0 0),.v (.slice none 0 0)])]⟩) (fun _=>loc0) kk fun γ=>?_
  obtain⟨qo16,hLo16,hko16⟩:=zD h;refine z9e (q:=qo16) (S:=fun o16 (γ:Nat→Loc)=>⟨.bot::.bot::.pt 16 0::.bot::.bot::.pt 40 0::bt 86 [],[(44,.qarr (γ 44) 3 1 (o16.1.map c3)),(43,.qarr (γ 43) 61 4 (o16.2.1.map c61)),(42,.qarr (γ 42) 25 3 (o16.2.2.map c25)),(40,.box [.v (.string e4),.v (zG (γ 42)),.v (zG (γ 43)),.v (zG (γ 44))]),(16,.box [.v (.string qf),.v (.slice none 0 0),.v (.slice none 0 0),.v (.slice none 0 0)])]⟩) (mb 92 36) [44,43,42,40,16] ?_ ?_
  ·refine qM (zYi (fun n s=>∃(t11:Int) (l12:List τF) (l13:List τM) (l14:List Int),∃γ:Nat→Loc,s.keep (mb 92 962072674404) [44,43,42,40,16]=(⟨.bot::.bot::.pt 16 0::.bot::.bot::.pt 40 0::.c (.v (.string y5))::bt 30 (.c (.sl ((subl y2 1 ((y2.length:Int))).map c9))::I t10::I t11::bt 52 []),[(44,.qarr (γ 44) 3 1 (l14.map c3)),(43,.qarr (γ 43) 61 4 (l13.map c61)),(42,.qarr (γ 42) 25 3 (l12.map c25)),(40,.box [.v (.string e4),.v (zG (γ 42)),.v (zG (γ 43)),.v (zG (γ 44))]),(16,.box [.v (.string qf),.v (.slice none 0 0),.v (.slice none 0 0),.v (.slice none 0 0)])]⟩:St)∧qW e4 t10 y2 y5 n t11 l12 l13 l14=some qo16) FU ⟨_,_,_,_,γ,kk,hLo16⟩ ?_);clear hLo16;rintro n s ⟨t11,l12,l13,l14,γ,hs,h⟩;refine zAN _ _ hs ?_
   clear hs;cases n with
   |zero=>cases h
   |succ n=>
    rw[qW]at h;refine zE4 (fun γ:Nat→Loc=>⟨.bot::.bot::.pt 16 0::.bot::.bot::.pt 40 0::.c (.v (.string y5))::bt 30 (.c (.sl ((subl y2 1 ((y2.length:Int))).map c9))::I t10::I t11::Bo (ltI t11 t10)::bt 51 []),[(44,.qarr (γ 44) 3 1 (l14.map c3)),(43,.qarr (γ 43) 61 4 (l13.map c61)),(42,.qarr (γ 42) 25 3 (l12.map c25)),(40,.box [.v (.string e4),.v (zG (γ 42)),.v (zG (γ 43)),.v (zG (γ 44))]),(16,.box [.v (.string qf),.v (.slice none 0 0),.v (.slice none 0 0),.v (.slice none 0 0)])]⟩) (mb 92 2061584302180) [44,43,42,40,16] ?_ ?_
    ·refine XR 1 ?_
     refine qR ?_
     exact⟨γ,by kernel_rfl⟩
    intro γ;refine qB ?_
    refine VC h (fun h=>?_) (fun h=>?_)
    ·refine jC ?_
     show V _ _ _ _;refine qB ?_
     refine qM ?_
     obtain⟨e18,he18,h⟩:=zD h;refine zE4 (fun γ:Nat→Loc=>⟨.bot::.bot::.pt 16 0::.bot::.bot::.pt 40 0::.c (.v (.string y5))::I t11::.c (.v (.string e18))::bt 28 (.c (.sl ((subl y2 1 ((y2.length:Int))).map c9))::I t10::I t11::bt 52 []),[(44,.qarr (γ 44) 3 1 (l14.map c3)),(43,.qarr (γ 43) 61 4 (l13.map c61)),(42,.qarr (γ 42) 25 3 (l12.map c25)),(40,.box [.v (.string e4),.v (zG (γ 42)),.v (zG (γ 43)),.v (zG (γ 44))]),(16,.box [.v (.string qf),.v (.slice none 0 0),.v (.slice none 0 0),.v (.slice none 0 0)])]⟩) (mb 92 962072674788) [44,43,42,40,16] ?_ ?_
     ·refine XR 1 ?_
      refine L0 rfl rfl (q8 (c:=c9) (xs:=subl y2 1 ((y2.length:Int))) (v:=e18) (n:=t11) Tryz.underlying45 sz9 rfl kk kk he18) ?_
      refine XR 3 ?_
      refine qR ?_
      exact⟨γ,by kernel_rfl⟩
     intro γ;refine zE4 (fun γ:Nat→Loc=>⟨.bot::.bot::.pt 16 0::.bot::.bot::.pt 40 0::.c (.v (.string y5))::I t11::.c (.v (.string e18))::bt 28 (.c (.sl ((subl y2 1 ((y2.length:Int))).map c9))::I t10::I t11::bt 52 []),[(44,.qarr (γ 44) 3 1 (l14.map c3)),(43,.qarr (γ 43) 61 4 (l13.map c61)),(42,.qarr (γ 42) 25 3 (l12.map c25)),(40,.box [.v (.string e4),.v (zG (γ 42)),.v (zG (γ 43)),.v (zG (γ 44))]),(16,.box [.v (.string qf),.v (.slice none 0 0),.v (.slice none 0 0),.v (.slice none 0 0)])]⟩) (mb 92 962072674788) [44,43,42,40,16] ?_ ?_
     ·refine XR 1 ?_
      refine qR ?_
      exact⟨γ,by kernel_rfl⟩
     intro γ;refine qB ?_
     obtain⟨e19,he19,h⟩:=zD h;refine zE4 (fun γ:Nat→Loc=>⟨.bot::.bot::.pt 16 0::.bot::.bot::.pt 40 0::.c (.v (.string y5))::.bot::.c (.v (.string e18))::bt 28 (.c (.sl ((subl y2 1 ((y2.length:Int))).map c9))::I t10::I t11::bt 6 (.c (.v (.int .u8 e19))::bt 45 [])),[(44,.qarr (γ 44) 3 1 (l14.map c3)),(43,.qarr (γ 43) 61 4 (l13.map c61)),(42,.qarr (γ 42) 25 3 (l12.map c25)),(40,.box [.v (.string e4),.v (zG (γ 42)),.v (zG (γ 43)),.v (zG (γ 44))]),(16,.box [.v (.string qf),.v (.slice none 0 0),.v (.slice none 0 0),.v (.slice none 0 0)])]⟩) (mb 92 71330816852324) [44,43,42,40,16] ?_ ?_
     ·refine XR 2 ?_
      refine L0 rfl rfl (zYe (b:=y5) (k:=.i64) (n:=t11) (v:=e19) Tryz.underlying9 rfl kk kk he19) ?_
      refine qR ?_
      exact⟨γ,by kernel_rfl⟩
     intro γ;refine qM ?_
     refine zE4 (fun γ:Nat→Loc=>⟨.bot::.bot::.pt 16 0::.bot::.bot::.pt 40 0::.c (.v (.string y5))::.bot::.c (.v (.string e18))::bt 28 (.c (.sl ((subl y2 1 ((y2.length:Int))).map c9))::I t10::I t11::bt 6 (.c (.v (.int .u8 e19))::bt 12 (Bo (eqI e19 102)::bt 32 []))),[(44,.qarr (γ 44) 3 1 (l14.map c3)),(43,.qarr (γ 43) 61 4 (l13.map c61)),(42,.qarr (γ 42) 25 3 (l12.map c25)),(40,.box [.v (.string e4),.v (zG (γ 42)),.v (zG (γ 43)),.v (zG (γ 44))]),(16,.box [.v (.string qf),.v (.slice none 0 0),.v (.slice none 0 0),.v (.slice none 0 0)])]⟩) (mb 92 576532083120275812) [44,43,42,40,16] ?_ ?_
     ·refine L0 rfl rfl (zYf (k:=.u8) (a:=e19) (b:=102) rfl kk kk) ?_
      refine XR 1 ?_
      refine qR ?_
      exact⟨γ,by kernel_rfl⟩
     intro γ;refine VC h (fun h=>?_) (fun h=>?_)
     ·obtain⟨y21,hy21,h⟩:=zD h;refine zE4 (fun γ:Nat→Loc=>⟨.bot::.bot::.pt 16 0::.bot::.bot::.pt 40 0::.c (.v (.string y5))::bt 3 (.pt 80 0::Bo y21.2::bt 25 (.c (.sl ((subl y2 1 ((y2.length:Int))).map c9))::I t10::I t11::bt 52 [])),[(80,.box [Ti y21.1.1,Ti y21.1.2.1,Ti y21.1.2.2]),(44,.qarr (γ 44) 3 1 (l14.map c3)),(43,.qarr (γ 43) 61 4 (l13.map c61)),(42,.qarr (γ 42) 25 3 (l12.map c25)),(40,.box [.v (.string e4),.v (zG (γ 42)),.v (zG (γ 43)),.v (zG (γ 44))]),(16,.box [.v (.string qf),.v (.slice none 0 0),.v (.slice none 0 0),.v (.slice none 0 0)])]⟩) (mb 92 962072677476) [80,44,43,42,40,16] ?_ ?_
      ·refine XR 1 ?_
       refine XC (zP9 hy21) zOt rfl rfl rfl ?_
       refine XR 6 ?_
       refine qR ?_
       exact⟨γ,by kernel_rfl⟩
      intro γ;obtain⟨u22,hu22,h⟩:=zD h;refine zNg (fun γ:Nat→Loc=>⟨.bot::.bot::.pt 16 0::.bot::.bot::.pt 40 0::.c (.v (.string y5))::.bot::.bot::Bo y21.2::bt 27 (.c (.sl ((subl y2 1 ((y2.length:Int))).map c9))::I t10::I t11::bt 52 []),[(44,.qarr (γ 44) 3 1 (l14.map c3)),(43,.qarr (γ 43) 61 4 (l13.map c61)),(42,.qarr (γ 42) 25 3 ((l12++([y21.1])).map c25)),(40,.box [.v (.string e4),.v (zG (γ 42)),.v (zG (γ 43)),.v (zG (γ 44))]),(16,.box [.v (.string qf),.v (.slice none 0 0),.v (.slice none 0 0),.v (.slice none 0 0)])]⟩) (mb 92 962072674916) [44,43,42,40,16] ?_ ?_
      ·refine XR 3 ?_
       refine L1 rfl rfl (zFk (z:=zv25) (els:=[y21.1].map c25) Tryz.underlying39 iz25 rfl (by decide) rfl kk rfl (by simp[c25]) (by decide) (by decide)) ?_
       refine zQS 67 42 (l:=γ 42) (T:=25) (sz:=3) (els:=l12.map c25) kk kk ?_
       refine zDz rfl (zJY (c:=c25) (xs:=l12) (ys:=[y21.1]) (id:=42) (z:=zv25) rfl rfl Tryz.underlying39 izb25 rfl kk kk kk (fun _=>rfl) (by simp) (zJG hu22) (by decide)) ?_
       refine XR 2 ?_
       refine zYh 70 42 (T:=25) (sz:=3) (els:=(l12++([y21.1])).map c25) kk kk fun lq1=>?_
       refine XR 2 ?_
       refine qR ?_
       exact⟨(fun i=>if i=42 then lq1 else γ i),by kernel_rfl⟩
      intro γ;show V _ _ _ _;refine zE4 (fun γ:Nat→Loc=>⟨.bot::.bot::.pt 16 0::.bot::.bot::.pt 40 0::.c (.v (.string y5))::bt 30 (.c (.sl ((subl y2 1 ((y2.length:Int))).map c9))::I t10::I t11::bt 48 (Bo (!y21.2)::bt 3 [])),[(44,.qarr (γ 44) 3 1 (l14.map c3)),(43,.qarr (γ 43) 61 4 (l13.map c61)),(42,.qarr (γ 42) 25 3 ((l12++([y21.1])).map c25)),(40,.box [.v (.string e4),.v (zG (γ 42)),.v (zG (γ 43)),.v (zG (γ 44))]),(16,.box [.v (.string qf),.v (.slice none 0 0),.v (.slice none 0 0),.v (.slice none 0 0)])]⟩) (mb 92 309485009821346030797455460) [44,43,42,40,16] ?_ ?_
      ·refine XR 2 ?_
       refine qR ?_
       exact⟨γ,by kernel_rfl⟩
      intro γ;refine VC h (fun h=>?_) (fun h=>?_)
      ·refine zE4 (fun γ:Nat→Loc=>⟨.bot::.bot::.pt 16 0::Bo false::bt 88 [],[(44,.qarr (γ 44) 3 1 (l14.map c3)),(43,.qarr (γ 43) 61 4 (l13.map c61)),(42,.qarr (γ 42) 25 3 ((l12++([y21.1])).map c25)),(16,.box [.v (.string qf),.v (.slice none 0 0),.v (.slice none 0 0),.v (.slice none 0 0)])]⟩) (mb 92 12) [44,43,42,16] ?_ ?_
       ·refine L0 rfl rfl (zGQ (cs:=[.v (.string qf),.v (.slice none 0 0),.v (.slice none 0 0),.v (.slice none 0 0)]) pl75 bt75 rfl rfl kk) ?_
        refine XR 2 ?_
        refine qR ?_
        exact⟨γ,by kernel_rfl⟩
       intro γ;refine zF5 16 1 (cs:=[.v (.string qf),.v (.slice none 0 0),.v (.slice none 0 0),.v (.slice none 0 0)]) kk kk rfl ?_
       refine zF5 16 2 (cs:=[.v (.string qf),.sl ((([]:List τF)).map c25),.v (.slice none 0 0),.v (.slice none 0 0)]) kk kk rfl ?_
       refine zF5 16 3 (cs:=[.v (.string qf),.sl ((([]:List τF)).map c25),.sl ((([]:List τM)).map c61),.v (.slice none 0 0)]) kk kk rfl ?_
       refine zCI ?_
       obtain rfl:=zF h;have h:=hko16;obtain rfl:=zF h;exact VT
      ·refine jC ?_
       show V _ _ _ _;obtain⟨t24,ht24,h⟩:=zFM h;refine zNg (fun γ:Nat→Loc=>⟨.bot::.bot::.pt 16 0::.bot::.bot::.pt 40 0::.c (.v (.string y5))::bt 30 (.c (.sl ((subl y2 1 ((y2.length:Int))).map c9))::I t10::I t24::bt 52 []),[(44,.qarr (γ 44) 3 1 (l14.map c3)),(43,.qarr (γ 43) 61 4 (l13.map c61)),(42,.qarr (γ 42) 25 3 ((l12++([y21.1])).map c25)),(40,.box [.v (.string e4),.v (zG (γ 42)),.v (zG (γ 43)),.v (zG (γ 44))]),(16,.box [.v (.string qf),.v (.slice none 0 0),.v (.slice none 0 0),.v (.slice none 0 0)])]⟩) (mb 92 962072674404) [44,43,42,40,16] ?_ ?_
       ·refine XR 2 ?_
        refine qR ?_
        subst ht24;exact⟨γ,by kernel_rfl⟩
       intro γ;exact⟨n,Nat.lt_succ_self n,_,_,_,_,γ,kk,h⟩
     ·refine zE4 (fun γ:Nat→Loc=>⟨.bot::.bot::.pt 16 0::.bot::.bot::.pt 40 0::.c (.v (.string y5))::.bot::.c (.v (.string e18))::bt 28 (.c (.sl ((subl y2 1 ((y2.length:Int))).map c9))::I t10::I t11::bt 33 (Bo (eqI e19 109)::bt 18 [])),[(44,.qarr (γ 44) 3 1 (l14.map c3)),(43,.qarr (γ 43) 61 4 (l13.map c61)),(42,.qarr (γ 42) 25 3 (l12.map c25)),(40,.box [.v (.string e4),.v (zG (γ 42)),.v (zG (γ 43)),.v (zG (γ 44))]),(16,.box [.v (.string qf),.v (.slice none 0 0),.v (.slice none 0 0),.v (.slice none 0 0)])]⟩) (mb 92 9444732966701363102052) [44,43,42,40,16] ?_ ?_
      ·refine L0 rfl rfl (zYf (k:=.u8) (a:=e19) (b:=109) rfl kk kk) ?_
       refine XR 1 ?_
       refine qR ?_
       exact⟨γ,by kernel_rfl⟩
      intro γ;refine VC h (fun h=>?_) (fun h=>?_)
      ·obtain⟨y26,hy26,h⟩:=zD h;refine zE4 (fun γ:Nat→Loc=>⟨.bot::.bot::.pt 16 0::.bot::.bot::.pt 40 0::.c (.v (.string y5))::bt 5 (.pt 96 0::Bo y26.2::bt 23 (.c (.sl ((subl y2 1 ((y2.length:Int))).map c9))::I t10::I t11::bt 52 [])),[(96,.box [Ti y26.1.1,Ti y26.1.2.1,Ti y26.1.2.2.1,Ti y26.1.2.2.2]),(44,.qarr (γ 44) 3 1 (l14.map c3)),(43,.qarr (γ 43) 61 4 (l13.map c61)),(42,.qarr (γ 42) 25 3 (l12.map c25)),(40,.box [.v (.string e4),.v (zG (γ 42)),.v (zG (γ 43)),.v (zG (γ 44))]),(16,.box [.v (.string qf),.v (.slice none 0 0),.v (.slice none 0 0),.v (.slice none 0 0)])]⟩) (mb 92 962072686692) [96,44,43,42,40,16] ?_ ?_
       ·refine XR 1 ?_
        refine XC (zNO hy26) zMa rfl rfl rfl ?_
        refine XR 6 ?_
        refine qR ?_
        exact⟨γ,by kernel_rfl⟩
       intro γ;obtain⟨u27,hu27,h⟩:=zD h;refine zNg (fun γ:Nat→Loc=>⟨.bot::.bot::.pt 16 0::.bot::.bot::.pt 40 0::.c (.v (.string y5))::.bot::.bot::Bo y26.2::bt 27 (.c (.sl ((subl y2 1 ((y2.length:Int))).map c9))::I t10::I t11::bt 52 []),[(44,.qarr (γ 44) 3 1 (l14.map c3)),(43,.qarr (γ 43) 61 4 ((l13++([y26.1])).map c61)),(42,.qarr (γ 42) 25 3 (l12.map c25)),(40,.box [.v (.string e4),.v (zG (γ 42)),.v (zG (γ 43)),.v (zG (γ 44))]),(16,.box [.v (.string qf),.v (.slice none 0 0),.v (.slice none 0 0),.v (.slice none 0 0)])]⟩) (mb 92 962072674916) [44,43,42,40,16] ?_ ?_
       ·refine XR 3 ?_
        refine L1 rfl rfl (zFk (z:=zv61) (els:=[y26.1].map c61) Tryz.underlying73 iz61 rfl (by decide) rfl kk rfl (by simp[c61]) (by decide) (by decide)) ?_
        refine zQS 81 43 (l:=γ 43) (T:=61) (sz:=4) (els:=l13.map c61) kk kk ?_
        refine zDz rfl (zJY (c:=c61) (xs:=l13) (ys:=[y26.1]) (id:=43) (z:=zv61) rfl rfl Tryz.underlying73 izb61 rfl kk kk kk (fun _=>rfl) (by simp) (zJG hu27) (by decide)) ?_
        refine XR 2 ?_
        refine zYh 84 43 (T:=61) (sz:=4) (els:=(l13++([y26.1])).map c61) kk kk fun lq1=>?_
        refine XR 2 ?_
        refine qR ?_
        exact⟨(fun i=>if i=43 then lq1 else γ i),by kernel_rfl⟩
       intro γ;show V _ _ _ _;refine zE4 (fun γ:Nat→Loc=>⟨.bot::.bot::.pt 16 0::.bot::.bot::.pt 40 0::.c (.v (.string y5))::bt 30 (.c (.sl ((subl y2 1 ((y2.length:Int))).map c9))::I t10::I t11::bt 48 (Bo (!y26.2)::bt 3 [])),[(44,.qarr (γ 44) 3 1 (l14.map c3)),(43,.qarr (γ 43) 61 4 ((l13++([y26.1])).map c61)),(42,.qarr (γ 42) 25 3 (l12.map c25)),(40,.box [.v (.string e4),.v (zG (γ 42)),.v (zG (γ 43)),.v (zG (γ 44))]),(16,.box [.v (.string qf),.v (.slice none 0 0),.v (.slice none 0 0),.v (.slice none 0 0)])]⟩) (mb 92 309485009821346030797455460) [44,43,42,40,16] ?_ ?_
       ·refine XR 2 ?_
        refine qR ?_
        exact⟨γ,by kernel_rfl⟩
       intro γ;refine VC h (fun h=>?_) (fun h=>?_)
       ·refine zE4 (fun γ:Nat→Loc=>⟨.bot::.bot::.pt 16 0::Bo false::bt 88 [],[(44,.qarr (γ 44) 3 1 (l14.map c3)),(43,.qarr (γ 43) 61 4 ((l13++([y26.1])).map c61)),(42,.qarr (γ 42) 25 3 (l12.map c25)),(16,.box [.v (.string qf),.v (.slice none 0 0),.v (.slice none 0 0),.v (.slice none 0 0)])]⟩) (mb 92 12) [44,43,42,16] ?_ ?_
        ·refine L0 rfl rfl (zGQ (cs:=[.v (.string qf),.v (.slice none 0 0),.v (.slice none 0 0),.v (.slice none 0 0)]) pl75 bt75 rfl rfl kk) ?_
         refine XR 2 ?_
         refine qR ?_
         exact⟨γ,by kernel_rfl⟩
        intro γ;refine zF5 16 1 (cs:=[.v (.string qf),.v (.slice none 0 0),.v (.slice none 0 0),.v (.slice none 0 0)]) kk kk rfl ?_
        refine zF5 16 2 (cs:=[.v (.string qf),.sl ((([]:List τF)).map c25),.v (.slice none 0 0),.v (.slice none 0 0)]) kk kk rfl ?_
        refine zF5 16 3 (cs:=[.v (.string qf),.sl ((([]:List τF)).map c25),.sl ((([]:List τM)).map c61),.v (.slice none 0 0)]) kk kk rfl ?_
        refine zCI ?_
        obtain rfl:=zF h;have h:=hko16;obtain rfl:=zF h;exact VT
       ·refine jC ?_
        show V _ _ _ _;obtain⟨t29,ht29,h⟩:=zFM h;refine zNg (fun γ:Nat→Loc=>⟨.bot::.bot::.pt 16 0::.bot::.bot::.pt 40 0::.c (.v (.string y5))::bt 30 (.c (.sl ((subl y2 1 ((y2.length:Int))).map c9))::I t10::I t29::bt 52 []),[(44,.qarr (γ 44) 3 1 (l14.map c3)),(43,.qarr (γ 43) 61 4 ((l13++([y26.1])).map c61)),(42,.qarr (γ 42) 25 3 (l12.map c25)),(40,.box [.v (.string e4),.v (zG (γ 42)),.v (zG (γ 43)),.v (zG (γ 44))]),(16,.box [.v (.string qf),.v (.slice none 0 0),.v (.slice none 0 0),.v (.slice none 0 0)])]⟩) (mb 92 962072674404) [44,43,42,40,16] ?_ ?_
        ·refine XR 2 ?_
         refine qR ?_
         subst ht29;exact⟨γ,by kernel_rfl⟩
        intro γ;exact⟨n,Nat.lt_succ_self n,_,_,_,_,γ,kk,h⟩
      ·obtain⟨y30,hy30,h⟩:=zD h;refine zE4 (fun γ:Nat→Loc=>⟨.bot::.bot::.pt 16 0::.bot::.bot::.pt 40 0::.c (.v (.string y5))::bt 7 (I y30.1::Bo y30.2::bt 21 (.c (.sl ((subl y2 1 ((y2.length:Int))).map c9))::I t10::I t11::bt 52 [])),[(44,.qarr (γ 44) 3 1 (l14.map c3)),(43,.qarr (γ 43) 61 4 (l13.map c61)),(42,.qarr (γ 42) 25 3 (l12.map c25)),(40,.box [.v (.string e4),.v (zG (γ 42)),.v (zG (γ 43)),.v (zG (γ 44))]),(16,.box [.v (.string qf),.v (.slice none 0 0),.v (.slice none 0 0),.v (.slice none 0 0)])]⟩) (mb 92 962072723556) [44,43,42,40,16] ?_ ?_
       ·refine XR 1 ?_
        refine XC (zRI hy30) zQK rfl rfl rfl ?_
        refine XR 5 ?_
        refine qR ?_
        exact⟨γ,by kernel_rfl⟩
       intro γ;obtain⟨u31,hu31,h⟩:=zD h;refine zNg (fun γ:Nat→Loc=>⟨.bot::.bot::.pt 16 0::.bot::.bot::.pt 40 0::.c (.v (.string y5))::.bot::.bot::Bo y30.2::bt 27 (.c (.sl ((subl y2 1 ((y2.length:Int))).map c9))::I t10::I t11::bt 52 []),[(44,.qarr (γ 44) 3 1 ((l14++([y30.1])).map c3)),(43,.qarr (γ 43) 61 4 (l13.map c61)),(42,.qarr (γ 42) 25 3 (l12.map c25)),(40,.box [.v (.string e4),.v (zG (γ 42)),.v (zG (γ 43)),.v (zG (γ 44))]),(16,.box [.v (.string qf),.v (.slice none 0 0),.v (.slice none 0 0),.v (.slice none 0 0)])]⟩) (mb 92 962072674916) [44,43,42,40,16] ?_ ?_
       ·refine XR 3 ?_
        refine L1 rfl rfl (zFk (z:=zv3) (els:=[y30.1].map c3) Tryz.underlying50 iz3 rfl (by decide) rfl kk rfl (by simp[c3]) (by decide) (by decide)) ?_
        refine zQS 53 44 (l:=γ 44) (T:=3) (sz:=1) (els:=l14.map c3) kk kk ?_
        refine zDz rfl (zJY (c:=c3) (xs:=l14) (ys:=[y30.1]) (id:=44) (z:=zv3) rfl rfl Tryz.underlying50 izb3 rfl kk kk kk (fun _=>rfl) (by simp) (zJG hu31) (by decide)) ?_
        refine XR 2 ?_
        refine zYh 56 44 (T:=3) (sz:=1) (els:=(l14++([y30.1])).map c3) kk kk fun lq1=>?_
        refine XR 2 ?_
        refine qR ?_
        exact⟨(fun i=>if i=44 then lq1 else γ i),by kernel_rfl⟩
       intro γ;show V _ _ _ _;refine zE4 (fun γ:Nat→Loc=>⟨.bot::.bot::.pt 16 0::.bot::.bot::.pt 40 0::.c (.v (.string y5))::bt 30 (.c (.sl ((subl y2 1 ((y2.length:Int))).map c9))::I t10::I t11::bt 48 (Bo (!y30.2)::bt 3 [])),[(44,.qarr (γ 44) 3 1 ((l14++([y30.1])).map c3)),(43,.qarr (γ 43) 61 4 (l13.map c61)),(42,.qarr (γ 42) 25 3 (l12.map c25)),(40,.box [.v (.string e4),.v (zG (γ 42)),.v (zG (γ 43)),.v (zG (γ 44))]),(16,.box [.v (.string qf),.v (.slice none 0 0),.v (.slice none 0 0),.v (.slice none 0 0)])]⟩) (mb 92 309485009821346030797455460) [44,43,42,40,16] ?_ ?_
       ·refine XR 2 ?_
        refine qR ?_
        exact⟨γ,by kernel_rfl⟩
       intro γ;refine VC h (fun h=>?_) (fun h=>?_)
       ·refine zE4 (fun γ:Nat→Loc=>⟨.bot::.bot::.pt 16 0::Bo false::bt 88 [],[(44,.qarr (γ 44) 3 1 ((l14++([y30.1])).map c3)),(43,.qarr (γ 43) 61 4 (l13.map c61)),(42,.qarr (γ 42) 25 3 (l12.map c25)),(16,.box [.v (.string qf),.v (.slice none 0 0),.v (.slice none 0 0),.v (.slice none 0 0)])]⟩) (mb 92 12) [44,43,42,16] ?_ ?_
        ·refine L0 rfl rfl (zGQ (cs:=[.v (.string qf),.v (.slice none 0 0),.v (.slice none 0 0),.v (.slice none 0 0)]) pl75 bt75 rfl rfl kk) ?_
         refine XR 2 ?_
         refine qR ?_
         exact⟨γ,by kernel_rfl⟩
        intro γ;refine zF5 16 1 (cs:=[.v (.string qf),.v (.slice none 0 0),.v (.slice none 0 0),.v (.slice none 0 0)]) kk kk rfl ?_
        refine zF5 16 2 (cs:=[.v (.string qf),.sl ((([]:List τF)).map c25),.v (.slice none 0 0),.v (.slice none 0 0)]) kk kk rfl ?_
        refine zF5 16 3 (cs:=[.v (.string qf),.sl ((([]:List τF)).map c25),.sl ((([]:List τM)).map c61),.v (.slice none 0 0)]) kk kk rfl ?_
        refine zCI ?_
        obtain rfl:=zF h;have h:=hko16;obtain rfl:=zF h;exact VT
       ·refine jC ?_
        show V _ _ _ _;obtain⟨t33,ht33,h⟩:=zFM h;refine zNg (fun γ:Nat→Loc=>⟨.bot::.bot::.pt 16 0::.bot::.bot::.pt 40 0::.c (.v (.string y5))::bt 30 (.c (.sl ((subl y2 1 ((y2.length:Int))).map c9))::I t10::I t33::bt 52 []),[(44,.qarr (γ 44) 3 1 ((l14++([y30.1])).map c3)),(43,.qarr (γ 43) 61 4 (l13.map c61)),(42,.qarr (γ 42) 25 3 (l12.map c25)),(40,.box [.v (.string e4),.v (zG (γ 42)),.v (zG (γ 43)),.v (zG (γ 44))]),(16,.box [.v (.string qf),.v (.slice none 0 0),.v (.slice none 0 0),.v (.slice none 0 0)])]⟩) (mb 92 962072674404) [44,43,42,40,16] ?_ ?_
        ·refine XR 2 ?_
         refine qR ?_
         subst ht33;exact⟨γ,by kernel_rfl⟩
        intro γ;exact⟨n,Nat.lt_succ_self n,_,_,_,_,γ,kk,h⟩
    ·refine zHN ?_
     obtain rfl:=zF h;exact⟨_,rfl,γ,kk⟩
  rintro o16 rfl γ;have h:=hko16;clear hko16;show V _ _ _ _;refine z1f 42 40 1 (l:=γ 42) (T:=25) (sz:=3) (els:=o16.2.2.map c25) (cs:=[.v (.string e4),.v (zG (γ 42)),.v (zG (γ 43)),.v (zG (γ 44))]) (s1:=⟨.bot::.bot::.pt 16 0::.bot::.bot::.pt 40 0::bt 86 [],[(44,.qarr (γ 44) 3 1 (o16.1.map c3)),(43,.qarr (γ 43) 61 4 (o16.2.1.map c61)),(40,.box [.v (.string e4),.sl (o16.2.2.map c25),.v (zG (γ 43)),.v (zG (γ 44))]),(16,.box [.v (.string qf),.v (.slice none 0 0),.v (.slice none 0 0),.v (.slice none 0 0)])]⟩) kk kk kk kk ?_
  refine z1f 43 40 2 (l:=γ 43) (T:=61) (sz:=4) (els:=o16.2.1.map c61) (cs:=[.v (.string e4),.sl (o16.2.2.map c25),.v (zG (γ 43)),.v (zG (γ 44))]) (s1:=⟨.bot::.bot::.pt 16 0::.bot::.bot::.pt 40 0::bt 86 [],[(44,.qarr (γ 44) 3 1 (o16.1.map c3)),(40,.box [.v (.string e4),.sl (o16.2.2.map c25),.sl (o16.2.1.map c61),.v (zG (γ 44))]),(16,.box [.v (.string qf),.v (.slice none 0 0),.v (.slice none 0 0),.v (.slice none 0 0)])]⟩) kk kk kk kk ?_
  refine z1f 44 40 3 (l:=γ 44) (T:=3) (sz:=1) (els:=o16.1.map c3) (cs:=[.v (.string e4),.sl (o16.2.2.map c25),.sl (o16.2.1.map c61),.v (zG (γ 44))]) (s1:=⟨.bot::.bot::.pt 16 0::.bot::.bot::.pt 40 0::bt 86 [],[(40,.box [.v (.string e4),.sl (o16.2.2.map c25),.sl (o16.2.1.map c61),.sl (o16.1.map c3)]),(16,.box [.v (.string qf),.v (.slice none 0 0),.v (.slice none 0 0),.v (.slice none 0 0)])]⟩) kk kk kk kk ?_
  refine VE ?_
  cases h;exact zCI VT
def zLu(vs1:qe):=fC zR8 (zAx vs1) fun _=>zTB
theorem zNc:CfW qg 187:=cfW Tryz.func187
noncomputable def zOA(vm1:τM):T qg Int:=
 .frc (w64 ((w64 (vm1.1*vm1.2.2.2)) - (w64 (vm1.2.1*vm1.2.2.1)))) fun t2=>.ret t2
theorem zOT{vm1:τM}{r:Int}(h:zA0 vm1=some r):zH qg 187 [.ag [Ti vm1.1,Ti vm1.2.1,Ti vm1.2.2.1,Ti vm1.2.2.2]] (I r) []:=CtU (zOA vm1) 2 (fun r=>I r) Tryz.func187 rfl rfl h
def zPK(vm1:τM):=fC zNc (zA0 vm1) fun _=>zOT
end
noncomputable section
theorem zKZ:CfW qg 113:=cfW Tryz.func113
noncomputable def zS7(f1:τF)(x2:Int)(y3:Int):T qg Int:=
 .frc (w64 ((w64 ((w64 ((w64 (f1.1*x2))*x2))+(w64 ((w64 (f1.2.1*x2))*y3))))+(w64 ((w64 (f1.2.2*y3))*y3)))) fun t4=>.ret t4
theorem zLJ{f1:τF}{x2:Int}{y3:Int}{r:Int}(h:zBA f1 x2 y3=some r):zH qg 113 [.ag [Ti f1.1,Ti f1.2.1,Ti f1.2.2],I x2,I y3] (I r) []:=CtU (zS7 f1 x2 y3) 6 (fun r=>I r) Tryz.func113 rfl rfl h
def zHw(f1:τF)(x2:Int)(y3:Int):=fC zKZ (zBA f1 x2 y3) fun _=>zLJ
theorem zNd:CfW qg 234:=cfW Tryz.func234
noncomputable def zOB(f1:τF)(x2:Int)(y3:Int)(u4:Int)(v5:Int):T qg Int:=
 .frc (w64 ((w64 ((w64 ((w64 ((w64 (2*f1.1))*x2))*u4))+(w64 (f1.2.1*(w64 ((w64 (x2*v5))+(w64 (y3*u4))))))))+(w64 ((w64 ((w64 (2*f1.2.2))*y3))*v5)))) fun t6=>.ret t6
theorem zOU{f1:τF}{x2:Int}{y3:Int}{u4:Int}{v5:Int}{r:Int}(h:zBR f1 x2 y3 u4 v5=some r):zH qg 234 [.ag [Ti f1.1,Ti f1.2.1,Ti f1.2.2],I x2,I y3,I u4,I v5] (I r) []:=CtU (zOB f1 x2 y3 u4 v5) 10 (fun r=>I r) Tryz.func234 rfl rfl h
def zPL(f1:τF)(x2:Int)(y3:Int)(u4:Int)(v5:Int):=fC zNd (zBR f1 x2 y3 u4 v5) fun _=>zOU
theorem zJV:CfW qg 180:=cfW Tryz.func180
noncomputable def zJb(f1:τF)(vm2:τM):T qg (τF):=
 .draw 23 []<|.op1 (zHw f1 vm2.1 vm2.2.2.1) fun y3=>.op1 (zPL f1 vm2.1 vm2.2.2.1 vm2.2.1 vm2.2.2.2) fun y4=>.op1 (zHw f1 vm2.2.1 vm2.2.2.2) fun y5=>.n0 (bld pl25 bt25)<|
 .ret ((y3,y4,y5))
theorem zJo{f1:τF}{vm2:τM}{r:τF}(h:qC f1 vm2=some r):zH qg 180 [.ag [Ti f1.1,Ti f1.2.1,Ti f1.2.2],.ag [Ti vm2.1,Ti vm2.2.1,Ti vm2.2.2.1,Ti vm2.2.2.2]] (.ag [Ti r.1,Ti r.2.1,Ti r.2.2]) []:=CtT (zJb f1 vm2) (fun r=>(.ag [Ti r.1,Ti r.2.1,Ti r.2.2],[])) (rs:=[.w 4 3]) (vs:=[.cell 4 25]) Tryz.func180 rfl rfl (.cons ⟨rfl,wd25⟩ FitsL.nil) h
def zDM(f1:τF)(vm2:τM):=fC zJV (qC f1 vm2) fun _=>zJo
theorem zF4:CfW qg 111:=cfW Tryz.func111
noncomputable def zS1(f1:τF)(vm2:τM)(g3:τF):T qg Bool:=
 .pl<|.joinC (.draw 11 []<|.op1 (zPK vm2) fun y4=>.seqT (.cond (eqI y4 1) (.op1 (zDM f1 vm2) fun y6=>.n0 (eqg3 zWo)<|.ret (((y6.1==g3.1)&&((y6.2.1==g3.2.1)&&(y6.2.2==g3.2.2))))) (.ret false)) fun b7=>.ret (y4,b7)) (mb 17 64) [] (fun s q_1 γ=>s.pc (mb 17 64) [] [(6,Bo q_1.2)] []) fun q_1=>
 .ret q_1.2
theorem zFw{f1:τF}{vm2:τM}{g3:τF}{r:Bool}(h:zBw f1 vm2 g3=some r):zH qg 111 [.ag [Ti f1.1,Ti f1.2.1,Ti f1.2.2],.ag [Ti vm2.1,Ti vm2.2.1,Ti vm2.2.2.1,Ti vm2.2.2.2],.ag [Ti g3.1,Ti g3.2.1,Ti g3.2.2]] (Bo r) []:=CtU (zS1 f1 vm2 g3) 6 (fun r=>Bo r) Tryz.func111 rfl rfl h
theorem zOv:CfW qg 120:=cfW Tryz.func120
noncomputable def zPX(f1:τF):T qg Int:=
 .frc (w64 ((w64 (f1.2.1*f1.2.1)) - (w64 ((w64 (4*f1.1))*f1.2.2)))) fun t2=>.ret t2
theorem zPb{f1:τF}{r:Int}(h:zY f1=some r):zH qg 120 [.ag [Ti f1.1,Ti f1.2.1,Ti f1.2.2]] (I r) []:=CtU (zPX f1) 2 (fun r=>I r) Tryz.func120 rfl rfl h
def zDV(f1:τF):=fC zOv (zY f1) fun _=>zPb
theorem zFd:CfW qg 54:=cfW Tryz.func54
noncomputable def zNx(f1:τF):T qg Bool:=
 .pl<|.joinC (.op1 (zMs f1) fun y2=>.seqT (.cond y2 (.op1 (zDV f1) fun y4=>.ret (ltI y4 0)) (.ret false)) fun b5=>.selB b5 true [] fun w_2=>.ret (y2,b5,w_2)) (mb 15 4) [] (fun s q_3 γ=>s.pc (mb 15 4) [] [(2,Bo (bif q_3.2.2 then (ltI 0 f1.1) else false))] []) fun q_3=>
 .ret (bif q_3.2.2 then (ltI 0 f1.1) else false)
theorem zFx{f1:τF}{r:Bool}(h:zN f1=some r):zH qg 54 [.ag [Ti f1.1,Ti f1.2.1,Ti f1.2.2]] (Bo r) []:=CtU (zNx f1) 2 (fun r=>Bo r) Tryz.func54 rfl rfl h
def zPI(f1:τF):=fC zFd (zN f1) fun _=>zFx
theorem zGV:CfW qg 192:=cfW Tryz.func192
noncomputable def zKv(f1:τF):T qg Bool:=
 .pl<|.joinC (.selB (ltI (w64 (0 - f1.1)) f1.2.1) true [] fun w_2=>.ret w_2) (mb 16 4) [] (fun s q_3 γ=>s.pc (mb 16 4) [] [(2,Bo (bif q_3 then (leI f1.2.1 f1.1) else false))] []) fun q_3=>
 .lt (bif q_3 then (leI f1.2.1 f1.1) else false) fun t3=>.ret t3
theorem zGs{f1:τF}{r:Bool}(h:qQ f1=some r):zH qg 192 [.ag [Ti f1.1,Ti f1.2.1,Ti f1.2.2]] (Bo r) []:=CtU (zKv f1) 2 (fun r=>Bo r) Tryz.func192 rfl rfl h
def zLv(f1:τF):=fC zGV (qQ f1) fun _=>zGs
theorem zDJ:CfW qg 112:=cfW Tryz.func112
theorem zDa{f1:τF}{r:Bool}(h:qA f1=some r):zH qg 112 [.ag [Ti f1.1,Ti f1.2.1,Ti f1.2.2]] (Bo r) []:=by
 refine CtW [2] Tryz.func112 rfl rfl 24 ?_
 unfold qA at h;refine VE ?_
 obtain⟨y2,hy2,h⟩:=zD h;obtain⟨t6,ht6,h⟩:=zD h;have ht6:=zF ht6;refine zEi (mb 24 4) [] (s1:=⟨.bot::.bot::Bo t6::bt 21 [],[]⟩) ?_ ?_
 ·refine YK 1 (zGs hy2) zGV ?_
  refine YR 1 ?_
  refine zAZ y2 (fun hc3=>?_) (fun hc3=>?_)
  ·refine YQ hc3 ?_
   refine YR 6 ?_
   refine zAZ (ltI f1.1 f1.2.2) (fun hc4=>?_) (fun hc4=>?_)
   ·refine YQ hc4 ?_
    exact YE (by rw[←ht6];(try rw[hc4]);(try rw[hc3]);kernel_rfl)
   ·refine YQ hc4 ?_
    refine YR 6 ?_
    refine zAZ (eqI f1.1 f1.2.2) (fun hc5=>?_) (fun hc5=>?_)
    ·refine YQ hc5 ?_
     exact YE (by rw[←ht6];(try rw[hc4]);(try rw[hc5]);(try rw[hc3]);kernel_rfl)
    ·refine YQ hc5 ?_
     exact YE (by rw[←ht6];(try rw[hc4]);(try rw[hc5]);(try rw[hc3]);kernel_rfl)
  ·refine YQ hc3 ?_
   exact YE (by rw[←ht6];(try rw[hc3]);kernel_rfl)
 cases h;exact zCI VT
def zGW(f1:τF):=fC zDJ (qA f1) fun _=>zDa
theorem zQ8:CfW qg 118:=cfW Tryz.func118
noncomputable def z0b(vn1:Int):T qg Int:=
 .n0 au<|.n0 au<|
 .frc (mxI vn1 (w64 (0 - (mxI vn1 (-9223372036854775807))))) fun t2=>.ret t2
theorem zTI{vn1:Int}{r:Int}(h:zEE vn1=some r):zH qg 118 [I vn1] (I r) []:=CtU (z0b vn1) 2 (fun r=>I r) Tryz.func118 rfl rfl h
def zUx(vn1:Int):=fC zQ8 (zEE vn1) fun _=>zTI
theorem zQ7:CfW qg 114:=cfW Tryz.func114
noncomputable def z0a(a1:Int)(b2:Int):T qg Int:=
 .loop (fun n X_1=>zBX n X_1.1 X_1.2) ((a1,b2)) (mb 13 3) [] (fun s X_1 γ=>s.pc (mb 13 3) [] [(0,I X_1.1),(1,I X_1.2)] []) (fun X_1=>
 .cond (!eqI X_1.2 0) (.draw 6 []<|.op0 (remF .i64 X_1.1 X_1.2) fun z8=>
 .frc (Int.tmod X_1.1 X_1.2) fun b9=>.ret (.inl ((X_1.2,b9))))<|.ret (.inr X_1.1)) (mb 13 1) [] (fun s o6 γ=>s.pc (mb 13 1) [] [(0,I o6)] []) fun o6=>
 .op1 (zUx o6) fun y10=>
 .ret y10
theorem zTG{a1:Int}{b2:Int}{r:Int}(h:zED a1 b2=some r):zH qg 114 [I a1,I b2] (I r) []:=CtU (z0a a1 b2) 4 (fun r=>I r) Tryz.func114 rfl rfl h
def zKS(a1:Int)(b2:Int):=fC zQ7 (zED a1 b2) fun _=>zTG
theorem z0I:CfW qg 137:=cfW Tryz.func137
noncomputable def z09(a1:Int)(vm2:Int):T qg Int:=
 .op0 (remF .i64 a1 vm2) fun z3=>
 .frc (Int.tmod a1 vm2) fun vr4=>
 .cond (ltI vr4 0) (
 .frc (w64 (vr4+vm2)) fun vr6=>
 .ret vr6)<|
 .ret vr4
theorem z0k{a1:Int}{vm2:Int}{r:Int}(h:zAy a1 vm2=some r):zH qg 137 [I a1,I vm2] (I r) []:=CtU (z09 a1 vm2) 4 (fun r=>I r) Tryz.func137 rfl rfl h
def zFA(a1:Int)(vm2:Int):=fC z0I (zAy a1 vm2) fun _=>z0k
theorem zKD:CfW qg 66:=cfW Tryz.func66
noncomputable def zK9(d1:Int):T qg Bool:=
 .pl<|.joinC (.selB (leI (-2000) d1) true [] fun w_2=>.seqT (.cond (bif w_2 then (leI d1 (-3)) else false) (.op1 (zFA d1 4) fun y4=>.ret (leI y4 1)) (.ret false)) fun b5=>.ret (w_2,b5)) (mb 14 4) [] (fun s q_3 γ=>s.pc (mb 14 4) [] [(2,Bo q_3.2)] []) fun q_3=>
 .ret q_3.2
theorem zKd{d1:Int}{r:Bool}(h:q7 d1=some r):zH qg 66 [I d1] (Bo r) []:=CtU (zK9 d1) 2 (fun r=>Bo r) Tryz.func66 rfl rfl h
def zKo(d1:Int):=fC zKD (q7 d1) fun _=>zKd
theorem zRb:CfW qg 193:=cfW Tryz.func193
noncomputable def zS3(vn1:Int):T qg Bool:=
 .cond (ltI vn1 2) (
 .ret false)<|
 .loopS (fun n X_1=>zBy vn1 n X_1) 2 (mb 17 9) [] (fun s X_1 γ=>s.pc (mb 17 9) [] [(3,I X_1)] []) (fun X_1=>
 .cond (leI (w64 (X_1*X_1)) vn1) (.op0 (remF .i64 vn1 X_1) fun z7=>
 .cond (eqI (Int.tmod vn1 X_1) 0) (
 .ret (.early false))<|
 .frc (w64 (X_1+1)) fun p9=>.ret (.again p9))<|.ret (.done (()))) (mb 17 0) [] (fun s o5 γ=>s.pc (mb 17 0) [] [] []) (fun r=>r) fun o5=>
 .ret true
theorem zTE{vn1:Int}{r:Bool}(h:jP vn1=some r):zH qg 193 [I vn1] (Bo r) []:=CtU (zS3 vn1) 2 (fun r=>Bo r) Tryz.func193 rfl rfl h
def zUu(vn1:Int):=fC zRb (jP vn1) fun _=>zTE
theorem zQN:CfW qg 132:=cfW Tryz.func132
noncomputable def zQs(vn1:Int)(p2:Int):T qg Int:=
 .loop (fun n X_1=>zB8 p2 n X_1.1 X_1.2) ((vn1,0)) (mb 16 35) [] (fun s X_1 γ=>s.pc (mb 16 35) [] [(0,I X_1.1),(5,I X_1.2)] []) (fun X_1=>
 .op0 (remF .i64 X_1.1 p2) fun z7=>
 .cond (eqI (Int.tmod X_1.1 p2) 0) (
 .frc (w64 (X_1.2+1)) fun k9=>.op0 (quoF .i64 X_1.1 p2) fun z10=>
 .frc (w64 (Int.tdiv X_1.1 p2)) fun vn11=>.ret (.inl ((vn11,k9))))<|.ret (.inr X_1.2)) (mb 16 32) [] (fun s o6 γ=>s.pc (mb 16 32) [] [(5,I o6)] []) fun o6=>
 .ret o6
theorem zRL{vn1:Int}{p2:Int}{r:Int}(h:zAI vn1 p2=some r):zH qg 132 [I vn1,I p2] (I r) []:=CtU (zQs vn1 p2) 4 (fun r=>I r) Tryz.func132 rfl rfl h
def zRn(vn1:Int)(p2:Int):=fC zQN (zAI vn1 p2) fun _=>zRL
theorem zH0:CfW qg 133:=cfW Tryz.func133
noncomputable def zH9(d1:Int)(vn2:Int):T qg (List Int):=
 .n1 (nilN 3 1 (by decide))<|
 .n1 bsl0<|
 .loop (fun n X_1=>zP d1 vn2 n X_1.1 X_1.2) ((0,([]:List Int))) (mb 28 99) [56] (fun s X_1 γ=>s.pc (mb 28 99) [56] [(6,I X_1.1)] [(56,.arr 3 1 (X_1.2.map c3))]) (fun X_1=>
 .cond (ltI X_1.1 (w64 (2*vn2))) (.op0 (remF .i64 (w64 ((w64 (X_1.1*X_1.1)) - d1)) (w64 (4*vn2))) fun z8=>
 .lt (eqI (Int.tmod (w64 ((w64 (X_1.1*X_1.1)) - d1)) (w64 (4*vn2))) 0) fun t9=>.cond t9 (.n1 bsl<|.opx (app ct3 X_1.2 ([X_1.1])) fun u11=>
 .frc (w64 (X_1.1+1)) fun b12=>.ret (.inl ((b12,X_1.2++([X_1.1])))))<|
 .frc (w64 (X_1.1+1)) fun b13=>.ret (.inl ((b13,X_1.2))))<|.ret (.inr X_1.2)) (mb 28 32) [56] (fun s o6 γ=>s.pc (mb 28 32) [56] [] [(56,.arr 3 1 (o6.map c3))]) fun o6=>
 .ret o6
theorem zHg{d1:Int}{vn2:Int}{r:List Int}(h:qN d1 vn2=some r):zH qg 133 [I d1,I vn2] (.ow 0) [(0,.arr 3 1 (r.map c3))]:=CtT (zH9 d1 vn2) (fun r=>(.ow 0,[(0,.arr 3 1 (r.map c3))])) (rs:=[.t 4]) (vs:=[.tmp 4]) Tryz.func133 rfl rfl (.cons rfl FitsL.nil) h
def zHv(d1:Int)(vn2:Int):=fC zH0 (qN d1 vn2) fun _=>zHg
theorem zKk:CfW qg 115:=cfW Tryz.func115
noncomputable def zKu(d1:Int)(vn2:Int)(p3:Int):T qg Bool:=
 .pl<|.joinC (.op1 (zKo d1) fun y4=>.selB y4 true [] fun w_3=>.selB (bif w_3 then (leI 1 vn2) else false) true [] fun w_4=>.seqT (.cond (bif w_4 then (leI p3 2500) else false) (.op1 (zUu p3) fun y8=>.ret y8) (.ret false)) fun b9=>.seqT (.cond b9 (.op1 (zRn vn2 p3) fun y11=>.n0 dvN<|.ret (eqI (Int.tmod y11 2) 1)) (.ret false)) fun b12=>.seqT (.cond b12 (.op1 (zHv d1 p3) fun y14=>.n0 (lenM ct3 y14)<|.ret (eqI ((y14.length:Int)) 0)) (.ret false)) fun b15=>.ret (y4,w_3,w_4,b9,b12,b15)) (mb 35 64) [] (fun s q_5 γ=>s.pc (mb 35 64) [] [(6,Bo q_5.2.2.2.2.2)] []) fun q_5=>
 .ret q_5.2.2.2.2.2
theorem zLF{d1:Int}{vn2:Int}{p3:Int}{r:Bool}(h:zDw d1 vn2 p3=some r):zH qg 115 [I d1,I vn2,I p3] (Bo r) []:=CtU (zKu d1 vn2 p3) 6 (fun r=>Bo r) Tryz.func115 rfl rfl h
theorem zM8:CfW qg 196:=cfW Tryz.func196
noncomputable def zMz(f1:τF):T qg Bool:=
 .pl<|.joinC (.op1 (zPI f1) fun y2=>.seqT (.cond y2 (.op1 (zDV f1) fun y4=>.ret (leI (-2000) y4)) (.ret false)) fun b5=>.ret (y2,b5)) (mb 10 4) [] (fun s q_1 γ=>s.pc (mb 10 4) [] [(2,Bo q_1.2)] []) fun q_1=>
 .ret q_1.2
theorem zNM{f1:τF}{r:Bool}(h:jA f1=some r):zH qg 196 [.ag [Ti f1.1,Ti f1.2.1,Ti f1.2.2]] (Bo r) []:=CtU (zMz f1) 2 (fun r=>Bo r) Tryz.func196 rfl rfl h
def zNl(f1:τF):=fC zM8 (jA f1) fun _=>zNM
theorem zLf:CfW qg 206:=cfW Tryz.func206
noncomputable def zMR(f1:τF):T qg Int:=
 .draw 9 []<|.op1 (zKS f1.2.1 f1.2.2) fun y2=>.op1 (zKS f1.1 y2) fun y3=>
 .ret y3
theorem zM1{f1:τF}{r:Int}(h:zDD f1=some r):zH qg 206 [.ag [Ti f1.1,Ti f1.2.1,Ti f1.2.2]] (I r) []:=CtU (zMR f1) 2 (fun r=>I r) Tryz.func206 rfl rfl h
def zMi(f1:τF):=fC zLf (zDD f1) fun _=>zM1
theorem zM9:CfW qg 148:=cfW Tryz.func148
noncomputable def zNA(f1:τF):T qg Bool:=
 .pl<|.joinC (.op1 (zNl f1) fun y2=>.seqT (.cond y2 (.op1 (zMi f1) fun y4=>.ret (eqI y4 1)) (.ret false)) fun b5=>.ret (y2,b5)) (mb 10 4) [] (fun s q_1 γ=>s.pc (mb 10 4) [] [(2,Bo q_1.2)] []) fun q_1=>
 .ret q_1.2
theorem zNN{f1:τF}{r:Bool}(h:zZ f1=some r):zH qg 148 [.ag [Ti f1.1,Ti f1.2.1,Ti f1.2.2]] (Bo r) []:=CtU (zNA f1) 2 (fun r=>Bo r) Tryz.func148 rfl rfl h
def zFe(f1:τF):=fC zM9 (zZ f1) fun _=>zNN
theorem zKY:CfW qg 140:=cfW Tryz.func140
noncomputable def zS6(f1:τF)(g2:τF):T qg Bool:=
 .pl<|.joinC (.draw 14 []<|.op1 (zFe f1) fun y3=>.seqT (.cond y3 (.op1 (zFe g2) fun y5=>.ret y5) (.ret false)) fun b6=>.seqT (.cond b6 (.op1 (zDV f1) fun y8=>.op1 (zDV g2) fun y9=>.ret (eqI y8 y9)) (.ret false)) fun b10=>.ret (y3,b6,b10)) (mb 18 16) [] (fun s q_1 γ=>s.pc (mb 18 16) [] [(4,Bo q_1.2.2)] []) fun q_1=>
 .ret q_1.2.2
theorem zLG{f1:τF}{g2:τF}{r:Bool}(h:zCe f1 g2=some r):zH qg 140 [.ag [Ti f1.1,Ti f1.2.1,Ti f1.2.2],.ag [Ti g2.1,Ti g2.2.1,Ti g2.2.2]] (Bo r) []:=CtU (zS6 f1 g2) 4 (fun r=>Bo r) Tryz.func140 rfl rfl h
theorem zG7:CfW qg 194:=cfW Tryz.func194
theorem zHG{p1:τM}{q2:τM}{r:(τF×τF×τF)}(h:zCx p1 q2=some r):zH qg 194 [.ag [Ti p1.1,Ti p1.2.1,Ti p1.2.2.1,Ti p1.2.2.2],.ag [Ti q2.1,Ti q2.2.1,Ti q2.2.2.1,Ti q2.2.2.2]] (.ag [Ti r.1.1,Ti r.1.2.1,Ti r.1.2.2,Ti r.2.1.1,Ti r.2.1.2.1,Ti r.2.1.2.2,Ti r.2.2.1,Ti r.2.2.2.1,Ti r.2.2.2.2]) []:=by
 refine zGk (rs:=[.w 4 9]) (vs:=[.cell 4 173]) Tryz.func194 rfl rfl (.cons ⟨rfl,wd173⟩ FitsL.nil) (by decide) 43 rfl ?_
 unfold zCx at h;refine VE ?_
 refine VS ?_
 refine L0 rfl rfl (zGQ (cs:=[Ti 0,Ti 0,Ti 0,Ti 0,Ti 0,Ti 0,Ti 0,Ti 0,Ti 0]) z8E bt173 rfl rfl kk) ?_
 refine YF ?_
 refine qB ?_
 refine VE ?_
 refine qM (zFW 40 ?_);refine VR_s (n:=39) ?_
 refine zAN (mb 43 6200) [40,32,24] (s':=⟨bt 3 (.pt 24 0::.pt 32 0::.pt 40 0::bt 5 (.ag [Ti p1.1,Ti p1.2.1,Ti p1.2.2.1,Ti p1.2.2.2]::I 0::bt 30 [])),[(40,.box [Ti 0,Ti 0,Ti 0,Ti 0,Ti 0,Ti 0,Ti 0,Ti 0,Ti 0]),(32,.box [Ti 0,Ti 0,Ti 0,Ti 0,Ti 0,Ti 0,Ti 0,Ti 0,Ti 0]),(24,.box [Ti q2.1,Ti q2.2.1,Ti q2.2.2.1,Ti q2.2.2.2])]⟩) kk ?_
 refine VE ?_
 refine qB ?_
 refine qD rfl ?_
 refine jC ?_
 show V _ _ _ _;refine qB ?_
 refine qM ?_
 refine VS ?_
 refine YR 1 ?_
 refine L0 rfl rfl (zAu (c:=fun v=>[Ti v]) (xs:=[p1.1,p1.2.1,p1.2.2.1,p1.2.2.2]) (v:=p1.1) (k:=.i64) (n:=0) Tryz.underlying144 sc3 sz3 rfl kk kk rfl (fun _=>rfl) rfl rfl) ?_
 refine YF ?_
 refine VE ?_
 refine qM (zFW 40 ?_);refine VR_s (n:=39) ?_
 refine zAN (mb 43 203000) [40,32,24] (s':=⟨bt 3 (.pt 24 0::.pt 32 0::.pt 40 0::I 0::I p1.1::bt 3 (.ag [Ti p1.1,Ti p1.2.1,Ti p1.2.2.1,Ti p1.2.2.2]::I 0::bt 3 (.ag [Ti q2.1,Ti q2.2.1,Ti q2.2.2.1,Ti q2.2.2.2]::I 0::bt 25 []))),[(40,.box [Ti 0,Ti 0,Ti 0,Ti 0,Ti 0,Ti 0,Ti 0,Ti 0,Ti 0]),(32,.box [Ti 0,Ti 0,Ti 0,Ti 0,Ti 0,Ti 0,Ti 0,Ti 0,Ti 0]),(24,.box [Ti q2.1,Ti q2.2.1,Ti q2.2.2.1,Ti q2.2.2.2])]⟩) kk ?_
 refine VE ?_
 refine qB ?_
 refine qD rfl ?_
 refine jC ?_
 show V _ _ _ _;refine qB ?_
 refine qM ?_
 refine VS ?_
 refine YR 1 ?_
 refine L0 rfl rfl (zAu (c:=fun v=>[Ti v]) (xs:=[q2.1,q2.2.1,q2.2.2.1,q2.2.2.2]) (v:=q2.1) (k:=.i64) (n:=0) Tryz.underlying144 sc3 sz3 rfl kk kk rfl (fun _=>rfl) rfl rfl) ?_
 refine YF ?_
 obtain⟨f5,hf5,h⟩:=zFM h;refine zEy [0,1,0,4,15,0,32,0,128,480,31,2047,4095,0,0,24576,65535,31,262143,524287] 19 (cdm 19 [2819270816,2819270817,2819270666,2819270682,2819270741,37180572330,37180573354,37180418730,37180435114,37180495530,37179009365,37179708757,37183903061,34941348522,34538695338,34740021930,35791394133,11453245781,22906492245]) (mb 43 203000) [40,32,24] (s1:=⟨bt 3 (.pt 24 0::.pt 32 0::.pt 40 0::I 0::I p1.1::bt 3 (.ag [Ti p1.1,Ti p1.2.1,Ti p1.2.2.1,Ti p1.2.2.2]::I 0::bt 3 (.ag [Ti q2.1,Ti q2.2.1,Ti q2.2.2.1,Ti q2.2.2.2]::I 0::bt 25 []))),[(40,.box [Ti f5,Ti 0,Ti 0,Ti 0,Ti 0,Ti 0,Ti 0,Ti 0,Ti 0]),(32,.box [Ti 0,Ti 0,Ti 0,Ti 0,Ti 0,Ti 0,Ti 0,Ti 0,Ti 0]),(24,.box [Ti q2.1,Ti q2.2.1,Ti q2.2.2.1,Ti q2.2.2.2])]⟩) kk kk ?_ ?_
 ·refine DR 1 ?_
  refine DE_0 1 (I 0) kk rfl rfl rfl (zK rfl) kk (jI (a:=0) (b:=2) rfl kk kk (by decide)) 22 rfl ?_
  refine DR 1 ?_
  refine DE_0 3 (I 0) kk rfl rfl rfl (zK rfl) kk (jI (a:=0) (b:=2) rfl kk kk (by decide)) 24 rfl ?_
  refine DR 2 ?_
  refine DE_0 6 (I 0) kk rfl rfl rfl (zK rfl) kk (zAo (k:=.i64) (a:=0) (b:=2) rfl kk kk (by decide)) 27 rfl ?_
  refine DR 1 ?_
  refine DE_0 8 (I 0) kk rfl rfl rfl (zK rfl) kk (zAo (k:=.i64) (a:=0) (b:=2) rfl kk kk (by decide)) 29 rfl ?_
  refine DA 10 ?_
  refine XR 1 ?_
  refine qR ?_
  subst hf5
  kernel_rfl
 show V _ _ _ _;refine qX ?_
 refine YF ?_
 show VR _ _ _ _ _;refine VR_s (n:=38) ?_
 refine zAN (mb 43 203000) [40,32,24] (s':=⟨bt 3 (.pt 24 0::.pt 32 0::.pt 40 0::I 0::I p1.1::bt 3 (.ag [Ti p1.1,Ti p1.2.1,Ti p1.2.2.1,Ti p1.2.2.2]::I 0::bt 3 (.ag [Ti q2.1,Ti q2.2.1,Ti q2.2.2.1,Ti q2.2.2.2]::I 1::bt 25 []))),[(40,.box [Ti f5,Ti 0,Ti 0,Ti 0,Ti 0,Ti 0,Ti 0,Ti 0,Ti 0]),(32,.box [Ti 0,Ti 0,Ti 0,Ti 0,Ti 0,Ti 0,Ti 0,Ti 0,Ti 0]),(24,.box [Ti q2.1,Ti q2.2.1,Ti q2.2.2.1,Ti q2.2.2.2])]⟩) kk ?_
 refine VE ?_
 refine qB ?_
 refine qD rfl ?_
 refine jC ?_
 show V _ _ _ _;refine qB ?_
 refine qM ?_
 refine VS ?_
 refine YR 1 ?_
 refine L0 rfl rfl (zAu (c:=fun v=>[Ti v]) (xs:=[q2.1,q2.2.1,q2.2.2.1,q2.2.2.2]) (v:=q2.2.1) (k:=.i64) (n:=1) Tryz.underlying144 sc3 sz3 rfl kk kk rfl (fun _=>rfl) rfl rfl) ?_
 refine YF ?_
 obtain⟨f7,hf7,h⟩:=zFM h;refine zEy [0,1,0,4,15,0,32,0,128,480,31,2047,4095,0,0,24576,65535,31,262143,524287] 19 (cdm 19 [2819270816,2819270817,2819270666,2819270682,2819270741,37180572330,37180573354,37180418730,37180435114,37180495530,37179009365,37179708757,37183903061,34941348522,34538695338,34740021930,35791394133,11453245781,22906492245]) (mb 43 203000) [40,32,24] (s1:=⟨bt 3 (.pt 24 0::.pt 32 0::.pt 40 0::I 0::I p1.1::bt 3 (.ag [Ti p1.1,Ti p1.2.1,Ti p1.2.2.1,Ti p1.2.2.2]::I 0::bt 3 (.ag [Ti q2.1,Ti q2.2.1,Ti q2.2.2.1,Ti q2.2.2.2]::I 1::bt 25 []))),[(40,.box [Ti f5,Ti f7,Ti 0,Ti 0,Ti 0,Ti 0,Ti 0,Ti 0,Ti 0]),(32,.box [Ti 0,Ti 0,Ti 0,Ti 0,Ti 0,Ti 0,Ti 0,Ti 0,Ti 0]),(24,.box [Ti q2.1,Ti q2.2.1,Ti q2.2.2.1,Ti q2.2.2.2])]⟩) kk kk ?_ ?_
 ·refine DR 1 ?_
  refine DE_0 1 (I 0) kk rfl rfl rfl (zK rfl) kk (jI (a:=0) (b:=2) rfl kk kk (by decide)) 22 rfl ?_
  refine DR 1 ?_
  refine DE_0 3 (I 0) kk rfl rfl rfl (zK rfl) kk (jI (a:=1) (b:=2) rfl kk kk (by decide)) 24 rfl ?_
  refine DR 2 ?_
  refine DE_0 6 (I 0) kk rfl rfl rfl (zK rfl) kk (zAo (k:=.i64) (a:=0) (b:=2) rfl kk kk (by decide)) 27 rfl ?_
  refine DR 1 ?_
  refine DE_0 8 (I 1) kk rfl rfl rfl (zK rfl) kk (zAo (k:=.i64) (a:=1) (b:=2) rfl kk kk (by decide)) 29 rfl ?_
  refine DA 10 ?_
  refine XR 1 ?_
  refine qR ?_
  subst hf7
  kernel_rfl
 show V _ _ _ _;refine qX ?_
 refine YF ?_
 show VR _ _ _ _ _;refine VR_s (n:=37) ?_
 refine zAN (mb 43 203000) [40,32,24] (s':=⟨bt 3 (.pt 24 0::.pt 32 0::.pt 40 0::I 0::I p1.1::bt 3 (.ag [Ti p1.1,Ti p1.2.1,Ti p1.2.2.1,Ti p1.2.2.2]::I 0::bt 3 (.ag [Ti q2.1,Ti q2.2.1,Ti q2.2.2.1,Ti q2.2.2.2]::I 2::bt 25 []))),[(40,.box [Ti f5,Ti f7,Ti 0,Ti 0,Ti 0,Ti 0,Ti 0,Ti 0,Ti 0]),(32,.box [Ti 0,Ti 0,Ti 0,Ti 0,Ti 0,Ti 0,Ti 0,Ti 0,Ti 0]),(24,.box [Ti q2.1,Ti q2.2.1,Ti q2.2.2.1,Ti q2.2.2.2])]⟩) kk ?_
 refine VE ?_
 refine qB ?_
 refine qD rfl ?_
 refine jC ?_
 show V _ _ _ _;refine qB ?_
 refine qM ?_
 refine VS ?_
 refine YR 1 ?_
 refine L0 rfl rfl (zAu (c:=fun v=>[Ti v]) (xs:=[q2.1,q2.2.1,q2.2.2.1,q2.2.2.2]) (v:=q2.2.2.1) (k:=.i64) (n:=2) Tryz.underlying144 sc3 sz3 rfl kk kk rfl (fun _=>rfl) rfl rfl) ?_
 refine YF ?_
 obtain⟨f9,hf9,h⟩:=zFM h;refine zEy [0,1,0,4,15,0,32,0,128,480,31,2047,4095,0,0,24576,65535,31,262143,524287] 19 (cdm 19 [2819270816,2819270817,2819270666,2819270682,2819270741,37180572330,37180573354,37180418730,37180435114,37180495530,37179009365,37179708757,37183903061,34941348522,34538695338,34740021930,35791394133,11453245781,22906492245]) (mb 43 203000) [40,32,24] (s1:=⟨bt 3 (.pt 24 0::.pt 32 0::.pt 40 0::I 0::I p1.1::bt 3 (.ag [Ti p1.1,Ti p1.2.1,Ti p1.2.2.1,Ti p1.2.2.2]::I 0::bt 3 (.ag [Ti q2.1,Ti q2.2.1,Ti q2.2.2.1,Ti q2.2.2.2]::I 2::bt 25 []))),[(40,.box [Ti f5,Ti f7,Ti 0,Ti f9,Ti 0,Ti 0,Ti 0,Ti 0,Ti 0]),(32,.box [Ti 0,Ti 0,Ti 0,Ti 0,Ti 0,Ti 0,Ti 0,Ti 0,Ti 0]),(24,.box [Ti q2.1,Ti q2.2.1,Ti q2.2.2.1,Ti q2.2.2.2])]⟩) kk kk ?_ ?_
 ·refine DR 1 ?_
  refine DE_0 1 (I 0) kk rfl rfl rfl (zK rfl) kk (jI (a:=0) (b:=2) rfl kk kk (by decide)) 22 rfl ?_
  refine DR 1 ?_
  refine DE_0 3 (I 1) kk rfl rfl rfl (zK rfl) kk (jI (a:=2) (b:=2) rfl kk kk (by decide)) 24 rfl ?_
  refine DR 2 ?_
  refine DE_0 6 (I 0) kk rfl rfl rfl (zK rfl) kk (zAo (k:=.i64) (a:=0) (b:=2) rfl kk kk (by decide)) 27 rfl ?_
  refine DR 1 ?_
  refine DE_0 8 (I 0) kk rfl rfl rfl (zK rfl) kk (zAo (k:=.i64) (a:=2) (b:=2) rfl kk kk (by decide)) 29 rfl ?_
  refine DA 10 ?_
  refine XR 1 ?_
  refine qR ?_
  subst hf9
  kernel_rfl
 show V _ _ _ _;refine qX ?_
 refine YF ?_
 show VR _ _ _ _ _;refine VR_s (n:=36) ?_
 refine zAN (mb 43 203000) [40,32,24] (s':=⟨bt 3 (.pt 24 0::.pt 32 0::.pt 40 0::I 0::I p1.1::bt 3 (.ag [Ti p1.1,Ti p1.2.1,Ti p1.2.2.1,Ti p1.2.2.2]::I 0::bt 3 (.ag [Ti q2.1,Ti q2.2.1,Ti q2.2.2.1,Ti q2.2.2.2]::I 3::bt 25 []))),[(40,.box [Ti f5,Ti f7,Ti 0,Ti f9,Ti 0,Ti 0,Ti 0,Ti 0,Ti 0]),(32,.box [Ti 0,Ti 0,Ti 0,Ti 0,Ti 0,Ti 0,Ti 0,Ti 0,Ti 0]),(24,.box [Ti q2.1,Ti q2.2.1,Ti q2.2.2.1,Ti q2.2.2.2])]⟩) kk ?_
 refine VE ?_
 refine qB ?_
 refine qD rfl ?_
 refine jC ?_
 show V _ _ _ _;refine qB ?_
 refine qM ?_
 refine VS ?_
 refine YR 1 ?_
 refine L0 rfl rfl (zAu (c:=fun v=>[Ti v]) (xs:=[q2.1,q2.2.1,q2.2.2.1,q2.2.2.2]) (v:=q2.2.2.2) (k:=.i64) (n:=3) Tryz.underlying144 sc3 sz3 rfl kk kk rfl (fun _=>rfl) rfl rfl) ?_
 refine YF ?_
 obtain⟨f11,hf11,h⟩:=zFM h;refine zEy [0,1,0,4,15,0,32,0,128,480,31,2047,4095,0,0,24576,65535,31,262143,524287] 19 (cdm 19 [2819270816,2819270817,2819270666,2819270682,2819270741,37180572330,37180573354,37180418730,37180435114,37180495530,37179009365,37179708757,37183903061,34941348522,34538695338,34740021930,35791394133,11453245781,22906492245]) (mb 43 203000) [40,32,24] (s1:=⟨bt 3 (.pt 24 0::.pt 32 0::.pt 40 0::I 0::I p1.1::bt 3 (.ag [Ti p1.1,Ti p1.2.1,Ti p1.2.2.1,Ti p1.2.2.2]::I 0::bt 3 (.ag [Ti q2.1,Ti q2.2.1,Ti q2.2.2.1,Ti q2.2.2.2]::I 3::bt 25 []))),[(40,.box [Ti f5,Ti f7,Ti 0,Ti f9,Ti f11,Ti 0,Ti 0,Ti 0,Ti 0]),(32,.box [Ti 0,Ti 0,Ti 0,Ti 0,Ti 0,Ti 0,Ti 0,Ti 0,Ti 0]),(24,.box [Ti q2.1,Ti q2.2.1,Ti q2.2.2.1,Ti q2.2.2.2])]⟩) kk kk ?_ ?_
 ·refine DR 1 ?_
  refine DE_0 1 (I 0) kk rfl rfl rfl (zK rfl) kk (jI (a:=0) (b:=2) rfl kk kk (by decide)) 22 rfl ?_
  refine DR 1 ?_
  refine DE_0 3 (I 1) kk rfl rfl rfl (zK rfl) kk (jI (a:=3) (b:=2) rfl kk kk (by decide)) 24 rfl ?_
  refine DR 2 ?_
  refine DE_0 6 (I 0) kk rfl rfl rfl (zK rfl) kk (zAo (k:=.i64) (a:=0) (b:=2) rfl kk kk (by decide)) 27 rfl ?_
  refine DR 1 ?_
  refine DE_0 8 (I 1) kk rfl rfl rfl (zK rfl) kk (zAo (k:=.i64) (a:=3) (b:=2) rfl kk kk (by decide)) 29 rfl ?_
  refine DA 10 ?_
  refine XR 1 ?_
  refine qR ?_
  subst hf11
  kernel_rfl
 show V _ _ _ _;refine qX ?_
 refine YF ?_
 show VR _ _ _ _ _;refine VR_s (n:=35) ?_
 refine zAN (mb 43 203000) [40,32,24] (s':=⟨bt 3 (.pt 24 0::.pt 32 0::.pt 40 0::I 0::I p1.1::bt 3 (.ag [Ti p1.1,Ti p1.2.1,Ti p1.2.2.1,Ti p1.2.2.2]::I 0::bt 3 (.ag [Ti q2.1,Ti q2.2.1,Ti q2.2.2.1,Ti q2.2.2.2]::I 4::bt 25 []))),[(40,.box [Ti f5,Ti f7,Ti 0,Ti f9,Ti f11,Ti 0,Ti 0,Ti 0,Ti 0]),(32,.box [Ti 0,Ti 0,Ti 0,Ti 0,Ti 0,Ti 0,Ti 0,Ti 0,Ti 0]),(24,.box [Ti q2.1,Ti q2.2.1,Ti q2.2.2.1,Ti q2.2.2.2])]⟩) kk ?_
 refine VE ?_
 refine qB ?_
 refine zDL rfl ?_
 refine zHN ?_
 show V _ _ _ _;refine qX ?_
 refine YF ?_
 show VR _ _ _ _ _;refine VR_s (n:=38) ?_
 refine zAN (mb 43 6200) [40,32,24] (s':=⟨bt 3 (.pt 24 0::.pt 32 0::.pt 40 0::bt 5 (.ag [Ti p1.1,Ti p1.2.1,Ti p1.2.2.1,Ti p1.2.2.2]::I 1::bt 30 [])),[(40,.box [Ti f5,Ti f7,Ti 0,Ti f9,Ti f11,Ti 0,Ti 0,Ti 0,Ti 0]),(32,.box [Ti 0,Ti 0,Ti 0,Ti 0,Ti 0,Ti 0,Ti 0,Ti 0,Ti 0]),(24,.box [Ti q2.1,Ti q2.2.1,Ti q2.2.2.1,Ti q2.2.2.2])]⟩) kk ?_
 refine VE ?_
 refine qB ?_
 refine qD rfl ?_
 refine jC ?_
 show V _ _ _ _;refine qB ?_
 refine qM ?_
 refine VS ?_
 refine YR 1 ?_
 refine L0 rfl rfl (zAu (c:=fun v=>[Ti v]) (xs:=[p1.1,p1.2.1,p1.2.2.1,p1.2.2.2]) (v:=p1.2.1) (k:=.i64) (n:=1) Tryz.underlying144 sc3 sz3 rfl kk kk rfl (fun _=>rfl) rfl rfl) ?_
 refine YF ?_
 refine VE ?_
 refine qM (zFW 40 ?_);refine VR_s (n:=39) ?_
 refine zAN (mb 43 203000) [40,32,24] (s':=⟨bt 3 (.pt 24 0::.pt 32 0::.pt 40 0::I 1::I p1.2.1::bt 3 (.ag [Ti p1.1,Ti p1.2.1,Ti p1.2.2.1,Ti p1.2.2.2]::I 1::bt 3 (.ag [Ti q2.1,Ti q2.2.1,Ti q2.2.2.1,Ti q2.2.2.2]::I 0::bt 25 []))),[(40,.box [Ti f5,Ti f7,Ti 0,Ti f9,Ti f11,Ti 0,Ti 0,Ti 0,Ti 0]),(32,.box [Ti 0,Ti 0,Ti 0,Ti 0,Ti 0,Ti 0,Ti 0,Ti 0,Ti 0]),(24,.box [Ti q2.1,Ti q2.2.1,Ti q2.2.2.1,Ti q2.2.2.2])]⟩) kk ?_
 refine VE ?_
 refine qB ?_
 refine qD rfl ?_
 refine jC ?_
 show V _ _ _ _;refine qB ?_
 refine qM ?_
 refine VS ?_
 refine YR 1 ?_
 refine L0 rfl rfl (zAu (c:=fun v=>[Ti v]) (xs:=[q2.1,q2.2.1,q2.2.2.1,q2.2.2.2]) (v:=q2.1) (k:=.i64) (n:=0) Tryz.underlying144 sc3 sz3 rfl kk kk rfl (fun _=>rfl) rfl rfl) ?_
 refine YF ?_
 obtain⟨f15,hf15,h⟩:=zFM h;refine zEy [0,1,0,4,15,0,32,0,128,480,31,2047,4095,0,0,24576,65535,31,262143,524287] 19 (cdm 19 [2819270816,2819270817,2819270666,2819270682,2819270741,37180572330,37180573354,37180418730,37180435114,37180495530,37179009365,37179708757,37183903061,34941348522,34538695338,34740021930,35791394133,11453245781,22906492245]) (mb 43 203000) [40,32,24] (s1:=⟨bt 3 (.pt 24 0::.pt 32 0::.pt 40 0::I 1::I p1.2.1::bt 3 (.ag [Ti p1.1,Ti p1.2.1,Ti p1.2.2.1,Ti p1.2.2.2]::I 1::bt 3 (.ag [Ti q2.1,Ti q2.2.1,Ti q2.2.2.1,Ti q2.2.2.2]::I 0::bt 25 []))),[(40,.box [Ti f5,Ti f15,Ti 0,Ti f9,Ti f11,Ti 0,Ti 0,Ti 0,Ti 0]),(32,.box [Ti 0,Ti 0,Ti 0,Ti 0,Ti 0,Ti 0,Ti 0,Ti 0,Ti 0]),(24,.box [Ti q2.1,Ti q2.2.1,Ti q2.2.2.1,Ti q2.2.2.2])]⟩) kk kk ?_ ?_
 ·refine DR 1 ?_
  refine DE_0 1 (I 0) kk rfl rfl rfl (zK rfl) kk (jI (a:=1) (b:=2) rfl kk kk (by decide)) 22 rfl ?_
  refine DR 1 ?_
  refine DE_0 3 (I 0) kk rfl rfl rfl (zK rfl) kk (jI (a:=0) (b:=2) rfl kk kk (by decide)) 24 rfl ?_
  refine DR 2 ?_
  refine DE_0 6 (I 1) kk rfl rfl rfl (zK rfl) kk (zAo (k:=.i64) (a:=1) (b:=2) rfl kk kk (by decide)) 27 rfl ?_
  refine DR 1 ?_
  refine DE_0 8 (I 0) kk rfl rfl rfl (zK rfl) kk (zAo (k:=.i64) (a:=0) (b:=2) rfl kk kk (by decide)) 29 rfl ?_
  refine DA 10 ?_
  refine XR 1 ?_
  refine qR ?_
  subst hf15
  kernel_rfl
 show V _ _ _ _;refine qX ?_
 refine YF ?_
 show VR _ _ _ _ _;refine VR_s (n:=38) ?_
 refine zAN (mb 43 203000) [40,32,24] (s':=⟨bt 3 (.pt 24 0::.pt 32 0::.pt 40 0::I 1::I p1.2.1::bt 3 (.ag [Ti p1.1,Ti p1.2.1,Ti p1.2.2.1,Ti p1.2.2.2]::I 1::bt 3 (.ag [Ti q2.1,Ti q2.2.1,Ti q2.2.2.1,Ti q2.2.2.2]::I 1::bt 25 []))),[(40,.box [Ti f5,Ti f15,Ti 0,Ti f9,Ti f11,Ti 0,Ti 0,Ti 0,Ti 0]),(32,.box [Ti 0,Ti 0,Ti 0,Ti 0,Ti 0,Ti 0,Ti 0,Ti 0,Ti 0]),(24,.box [Ti q2.1,Ti q2.2.1,Ti q2.2.2.1,Ti q2.2.2.2])]⟩) kk ?_
 refine VE ?_
 refine qB ?_
 refine qD rfl ?_
 refine jC ?_
 show V _ _ _ _;refine qB ?_
 refine qM ?_
 refine VS ?_
 refine YR 1 ?_
 refine L0 rfl rfl (zAu (c:=fun v=>[Ti v]) (xs:=[q2.1,q2.2.1,q2.2.2.1,q2.2.2.2]) (v:=q2.2.1) (k:=.i64) (n:=1) Tryz.underlying144 sc3 sz3 rfl kk kk rfl (fun _=>rfl) rfl rfl) ?_
 refine YF ?_
 obtain⟨f17,hf17,h⟩:=zFM h;refine zEy [0,1,0,4,15,0,32,0,128,480,31,2047,4095,0,0,24576,65535,31,262143,524287] 19 (cdm 19 [2819270816,2819270817,2819270666,2819270682,2819270741,37180572330,37180573354,37180418730,37180435114,37180495530,37179009365,37179708757,37183903061,34941348522,34538695338,34740021930,35791394133,11453245781,22906492245]) (mb 43 203000) [40,32,24] (s1:=⟨bt 3 (.pt 24 0::.pt 32 0::.pt 40 0::I 1::I p1.2.1::bt 3 (.ag [Ti p1.1,Ti p1.2.1,Ti p1.2.2.1,Ti p1.2.2.2]::I 1::bt 3 (.ag [Ti q2.1,Ti q2.2.1,Ti q2.2.2.1,Ti q2.2.2.2]::I 1::bt 25 []))),[(40,.box [Ti f5,Ti f15,Ti f17,Ti f9,Ti f11,Ti 0,Ti 0,Ti 0,Ti 0]),(32,.box [Ti 0,Ti 0,Ti 0,Ti 0,Ti 0,Ti 0,Ti 0,Ti 0,Ti 0]),(24,.box [Ti q2.1,Ti q2.2.1,Ti q2.2.2.1,Ti q2.2.2.2])]⟩) kk kk ?_ ?_
 ·refine DR 1 ?_
  refine DE_0 1 (I 0) kk rfl rfl rfl (zK rfl) kk (jI (a:=1) (b:=2) rfl kk kk (by decide)) 22 rfl ?_
  refine DR 1 ?_
  refine DE_0 3 (I 0) kk rfl rfl rfl (zK rfl) kk (jI (a:=1) (b:=2) rfl kk kk (by decide)) 24 rfl ?_
  refine DR 2 ?_
  refine DE_0 6 (I 1) kk rfl rfl rfl (zK rfl) kk (zAo (k:=.i64) (a:=1) (b:=2) rfl kk kk (by decide)) 27 rfl ?_
  refine DR 1 ?_
  refine DE_0 8 (I 1) kk rfl rfl rfl (zK rfl) kk (zAo (k:=.i64) (a:=1) (b:=2) rfl kk kk (by decide)) 29 rfl ?_
  refine DA 10 ?_
  refine XR 1 ?_
  refine qR ?_
  subst hf17
  kernel_rfl
 show V _ _ _ _;refine qX ?_
 refine YF ?_
 show VR _ _ _ _ _;refine VR_s (n:=37) ?_
 refine zAN (mb 43 203000) [40,32,24] (s':=⟨bt 3 (.pt 24 0::.pt 32 0::.pt 40 0::I 1::I p1.2.1::bt 3 (.ag [Ti p1.1,Ti p1.2.1,Ti p1.2.2.1,Ti p1.2.2.2]::I 1::bt 3 (.ag [Ti q2.1,Ti q2.2.1,Ti q2.2.2.1,Ti q2.2.2.2]::I 2::bt 25 []))),[(40,.box [Ti f5,Ti f15,Ti f17,Ti f9,Ti f11,Ti 0,Ti 0,Ti 0,Ti 0]),(32,.box [Ti 0,Ti 0,Ti 0,Ti 0,Ti 0,Ti 0,Ti 0,Ti 0,Ti 0]),(24,.box [Ti q2.1,Ti q2.2.1,Ti q2.2.2.1,Ti q2.2.2.2])]⟩) kk ?_
 refine VE ?_
 refine qB ?_
 refine qD rfl ?_
 refine jC ?_
 show V _ _ _ _;refine qB ?_
 refine qM ?_
 refine VS ?_
 refine YR 1 ?_
 refine L0 rfl rfl (zAu (c:=fun v=>[Ti v]) (xs:=[q2.1,q2.2.1,q2.2.2.1,q2.2.2.2]) (v:=q2.2.2.1) (k:=.i64) (n:=2) Tryz.underlying144 sc3 sz3 rfl kk kk rfl (fun _=>rfl) rfl rfl) ?_
 refine YF ?_
 obtain⟨f19,hf19,h⟩:=zFM h;refine zEy [0,1,0,4,15,0,32,0,128,480,31,2047,4095,0,0,24576,65535,31,262143,524287] 19 (cdm 19 [2819270816,2819270817,2819270666,2819270682,2819270741,37180572330,37180573354,37180418730,37180435114,37180495530,37179009365,37179708757,37183903061,34941348522,34538695338,34740021930,35791394133,11453245781,22906492245]) (mb 43 203000) [40,32,24] (s1:=⟨bt 3 (.pt 24 0::.pt 32 0::.pt 40 0::I 1::I p1.2.1::bt 3 (.ag [Ti p1.1,Ti p1.2.1,Ti p1.2.2.1,Ti p1.2.2.2]::I 1::bt 3 (.ag [Ti q2.1,Ti q2.2.1,Ti q2.2.2.1,Ti q2.2.2.2]::I 2::bt 25 []))),[(40,.box [Ti f5,Ti f15,Ti f17,Ti f9,Ti f19,Ti 0,Ti 0,Ti 0,Ti 0]),(32,.box [Ti 0,Ti 0,Ti 0,Ti 0,Ti 0,Ti 0,Ti 0,Ti 0,Ti 0]),(24,.box [Ti q2.1,Ti q2.2.1,Ti q2.2.2.1,Ti q2.2.2.2])]⟩) kk kk ?_ ?_
 ·refine DR 1 ?_
  refine DE_0 1 (I 0) kk rfl rfl rfl (zK rfl) kk (jI (a:=1) (b:=2) rfl kk kk (by decide)) 22 rfl ?_
  refine DR 1 ?_
  refine DE_0 3 (I 1) kk rfl rfl rfl (zK rfl) kk (jI (a:=2) (b:=2) rfl kk kk (by decide)) 24 rfl ?_
  refine DR 2 ?_
  refine DE_0 6 (I 1) kk rfl rfl rfl (zK rfl) kk (zAo (k:=.i64) (a:=1) (b:=2) rfl kk kk (by decide)) 27 rfl ?_
  refine DR 1 ?_
  refine DE_0 8 (I 0) kk rfl rfl rfl (zK rfl) kk (zAo (k:=.i64) (a:=2) (b:=2) rfl kk kk (by decide)) 29 rfl ?_
  refine DA 10 ?_
  refine XR 1 ?_
  refine qR ?_
  subst hf19
  kernel_rfl
 show V _ _ _ _;refine qX ?_
 refine YF ?_
 show VR _ _ _ _ _;refine VR_s (n:=36) ?_
 refine zAN (mb 43 203000) [40,32,24] (s':=⟨bt 3 (.pt 24 0::.pt 32 0::.pt 40 0::I 1::I p1.2.1::bt 3 (.ag [Ti p1.1,Ti p1.2.1,Ti p1.2.2.1,Ti p1.2.2.2]::I 1::bt 3 (.ag [Ti q2.1,Ti q2.2.1,Ti q2.2.2.1,Ti q2.2.2.2]::I 3::bt 25 []))),[(40,.box [Ti f5,Ti f15,Ti f17,Ti f9,Ti f19,Ti 0,Ti 0,Ti 0,Ti 0]),(32,.box [Ti 0,Ti 0,Ti 0,Ti 0,Ti 0,Ti 0,Ti 0,Ti 0,Ti 0]),(24,.box [Ti q2.1,Ti q2.2.1,Ti q2.2.2.1,Ti q2.2.2.2])]⟩) kk ?_
 refine VE ?_
 refine qB ?_
 refine qD rfl ?_
 refine jC ?_
 show V _ _ _ _;refine qB ?_
 refine qM ?_
 refine VS ?_
 refine YR 1 ?_
 refine L0 rfl rfl (zAu (c:=fun v=>[Ti v]) (xs:=[q2.1,q2.2.1,q2.2.2.1,q2.2.2.2]) (v:=q2.2.2.2) (k:=.i64) (n:=3) Tryz.underlying144 sc3 sz3 rfl kk kk rfl (fun _=>rfl) rfl rfl) ?_
 refine YF ?_
 obtain⟨f21,hf21,h⟩:=zFM h;refine zEy [0,1,0,4,15,0,32,0,128,480,31,2047,4095,0,0,24576,65535,31,262143,524287] 19 (cdm 19 [2819270816,2819270817,2819270666,2819270682,2819270741,37180572330,37180573354,37180418730,37180435114,37180495530,37179009365,37179708757,37183903061,34941348522,34538695338,34740021930,35791394133,11453245781,22906492245]) (mb 43 203000) [40,32,24] (s1:=⟨bt 3 (.pt 24 0::.pt 32 0::.pt 40 0::I 1::I p1.2.1::bt 3 (.ag [Ti p1.1,Ti p1.2.1,Ti p1.2.2.1,Ti p1.2.2.2]::I 1::bt 3 (.ag [Ti q2.1,Ti q2.2.1,Ti q2.2.2.1,Ti q2.2.2.2]::I 3::bt 25 []))),[(40,.box [Ti f5,Ti f15,Ti f17,Ti f9,Ti f19,Ti f21,Ti 0,Ti 0,Ti 0]),(32,.box [Ti 0,Ti 0,Ti 0,Ti 0,Ti 0,Ti 0,Ti 0,Ti 0,Ti 0]),(24,.box [Ti q2.1,Ti q2.2.1,Ti q2.2.2.1,Ti q2.2.2.2])]⟩) kk kk ?_ ?_
 ·refine DR 1 ?_
  refine DE_0 1 (I 0) kk rfl rfl rfl (zK rfl) kk (jI (a:=1) (b:=2) rfl kk kk (by decide)) 22 rfl ?_
  refine DR 1 ?_
  refine DE_0 3 (I 1) kk rfl rfl rfl (zK rfl) kk (jI (a:=3) (b:=2) rfl kk kk (by decide)) 24 rfl ?_
  refine DR 2 ?_
  refine DE_0 6 (I 1) kk rfl rfl rfl (zK rfl) kk (zAo (k:=.i64) (a:=1) (b:=2) rfl kk kk (by decide)) 27 rfl ?_
  refine DR 1 ?_
  refine DE_0 8 (I 1) kk rfl rfl rfl (zK rfl) kk (zAo (k:=.i64) (a:=3) (b:=2) rfl kk kk (by decide)) 29 rfl ?_
  refine DA 10 ?_
  refine XR 1 ?_
  refine qR ?_
  subst hf21
  kernel_rfl
 show V _ _ _ _;refine qX ?_
 refine YF ?_
 show VR _ _ _ _ _;refine VR_s (n:=35) ?_
 refine zAN (mb 43 203000) [40,32,24] (s':=⟨bt 3 (.pt 24 0::.pt 32 0::.pt 40 0::I 1::I p1.2.1::bt 3 (.ag [Ti p1.1,Ti p1.2.1,Ti p1.2.2.1,Ti p1.2.2.2]::I 1::bt 3 (.ag [Ti q2.1,Ti q2.2.1,Ti q2.2.2.1,Ti q2.2.2.2]::I 4::bt 25 []))),[(40,.box [Ti f5,Ti f15,Ti f17,Ti f9,Ti f19,Ti f21,Ti 0,Ti 0,Ti 0]),(32,.box [Ti 0,Ti 0,Ti 0,Ti 0,Ti 0,Ti 0,Ti 0,Ti 0,Ti 0]),(24,.box [Ti q2.1,Ti q2.2.1,Ti q2.2.2.1,Ti q2.2.2.2])]⟩) kk ?_
 refine VE ?_
 refine qB ?_
 refine zDL rfl ?_
 refine zHN ?_
 show V _ _ _ _;refine qX ?_
 refine YF ?_
 show VR _ _ _ _ _;refine VR_s (n:=37) ?_
 refine zAN (mb 43 6200) [40,32,24] (s':=⟨bt 3 (.pt 24 0::.pt 32 0::.pt 40 0::bt 5 (.ag [Ti p1.1,Ti p1.2.1,Ti p1.2.2.1,Ti p1.2.2.2]::I 2::bt 30 [])),[(40,.box [Ti f5,Ti f15,Ti f17,Ti f9,Ti f19,Ti f21,Ti 0,Ti 0,Ti 0]),(32,.box [Ti 0,Ti 0,Ti 0,Ti 0,Ti 0,Ti 0,Ti 0,Ti 0,Ti 0]),(24,.box [Ti q2.1,Ti q2.2.1,Ti q2.2.2.1,Ti q2.2.2.2])]⟩) kk ?_
 refine VE ?_
 refine qB ?_
 refine qD rfl ?_
 refine jC ?_
 show V _ _ _ _;refine qB ?_
 refine qM ?_
 refine VS ?_
 refine YR 1 ?_
 refine L0 rfl rfl (zAu (c:=fun v=>[Ti v]) (xs:=[p1.1,p1.2.1,p1.2.2.1,p1.2.2.2]) (v:=p1.2.2.1) (k:=.i64) (n:=2) Tryz.underlying144 sc3 sz3 rfl kk kk rfl (fun _=>rfl) rfl rfl) ?_
 refine YF ?_
 refine VE ?_
 refine qM (zFW 40 ?_);refine VR_s (n:=39) ?_
 refine zAN (mb 43 203000) [40,32,24] (s':=⟨bt 3 (.pt 24 0::.pt 32 0::.pt 40 0::I 2::I p1.2.2.1::bt 3 (.ag [Ti p1.1,Ti p1.2.1,Ti p1.2.2.1,Ti p1.2.2.2]::I 2::bt 3 (.ag [Ti q2.1,Ti q2.2.1,Ti q2.2.2.1,Ti q2.2.2.2]::I 0::bt 25 []))),[(40,.box [Ti f5,Ti f15,Ti f17,Ti f9,Ti f19,Ti f21,Ti 0,Ti 0,Ti 0]),(32,.box [Ti 0,Ti 0,Ti 0,Ti 0,Ti 0,Ti 0,Ti 0,Ti 0,Ti 0]),(24,.box [Ti q2.1,Ti q2.2.1,Ti q2.2.2.1,Ti q2.2.2.2])]⟩) kk ?_
 refine VE ?_
 refine qB ?_
 refine qD rfl ?_
 refine jC ?_
 show V _ _ _ _;refine qB ?_
 refine qM ?_
 refine VS ?_
 refine YR 1 ?_
 refine L0 rfl rfl (zAu (c:=fun v=>[Ti v]) (xs:=[q2.1,q2.2.1,q2.2.2.1,q2.2.2.2]) (v:=q2.1) (k:=.i64) (n:=0) Tryz.underlying144 sc3 sz3 rfl kk kk rfl (fun _=>rfl) rfl rfl) ?_
 refine YF ?_
 obtain⟨f25,hf25,h⟩:=zFM h;refine zEy [0,1,0,4,15,0,32,0,128,480,31,2047,4095,0,0,24576,65535,31,262143,524287] 19 (cdm 19 [2819270816,2819270817,2819270666,2819270682,2819270741,37180572330,37180573354,37180418730,37180435114,37180495530,37179009365,37179708757,37183903061,34941348522,34538695338,34740021930,35791394133,11453245781,22906492245]) (mb 43 203000) [40,32,24] (s1:=⟨bt 3 (.pt 24 0::.pt 32 0::.pt 40 0::I 2::I p1.2.2.1::bt 3 (.ag [Ti p1.1,Ti p1.2.1,Ti p1.2.2.1,Ti p1.2.2.2]::I 2::bt 3 (.ag [Ti q2.1,Ti q2.2.1,Ti q2.2.2.1,Ti q2.2.2.2]::I 0::bt 25 []))),[(40,.box [Ti f5,Ti f15,Ti f17,Ti f25,Ti f19,Ti f21,Ti 0,Ti 0,Ti 0]),(32,.box [Ti 0,Ti 0,Ti 0,Ti 0,Ti 0,Ti 0,Ti 0,Ti 0,Ti 0]),(24,.box [Ti q2.1,Ti q2.2.1,Ti q2.2.2.1,Ti q2.2.2.2])]⟩) kk kk ?_ ?_
 ·refine DR 1 ?_
  refine DE_0 1 (I 1) kk rfl rfl rfl (zK rfl) kk (jI (a:=2) (b:=2) rfl kk kk (by decide)) 22 rfl ?_
  refine DR 1 ?_
  refine DE_0 3 (I 0) kk rfl rfl rfl (zK rfl) kk (jI (a:=0) (b:=2) rfl kk kk (by decide)) 24 rfl ?_
  refine DR 2 ?_
  refine DE_0 6 (I 0) kk rfl rfl rfl (zK rfl) kk (zAo (k:=.i64) (a:=2) (b:=2) rfl kk kk (by decide)) 27 rfl ?_
  refine DR 1 ?_
  refine DE_0 8 (I 0) kk rfl rfl rfl (zK rfl) kk (zAo (k:=.i64) (a:=0) (b:=2) rfl kk kk (by decide)) 29 rfl ?_
  refine DA 10 ?_
  refine XR 1 ?_
  refine qR ?_
  subst hf25
  kernel_rfl
 show V _ _ _ _;refine qX ?_
 refine YF ?_
 show VR _ _ _ _ _;refine VR_s (n:=38) ?_
 refine zAN (mb 43 203000) [40,32,24] (s':=⟨bt 3 (.pt 24 0::.pt 32 0::.pt 40 0::I 2::I p1.2.2.1::bt 3 (.ag [Ti p1.1,Ti p1.2.1,Ti p1.2.2.1,Ti p1.2.2.2]::I 2::bt 3 (.ag [Ti q2.1,Ti q2.2.1,Ti q2.2.2.1,Ti q2.2.2.2]::I 1::bt 25 []))),[(40,.box [Ti f5,Ti f15,Ti f17,Ti f25,Ti f19,Ti f21,Ti 0,Ti 0,Ti 0]),(32,.box [Ti 0,Ti 0,Ti 0,Ti 0,Ti 0,Ti 0,Ti 0,Ti 0,Ti 0]),(24,.box [Ti q2.1,Ti q2.2.1,Ti q2.2.2.1,Ti q2.2.2.2])]⟩) kk ?_
 refine VE ?_
 refine qB ?_
 refine qD rfl ?_
 refine jC ?_
 show V _ _ _ _;refine qB ?_
 refine qM ?_
 refine VS ?_
 refine YR 1 ?_
 refine L0 rfl rfl (zAu (c:=fun v=>[Ti v]) (xs:=[q2.1,q2.2.1,q2.2.2.1,q2.2.2.2]) (v:=q2.2.1) (k:=.i64) (n:=1) Tryz.underlying144 sc3 sz3 rfl kk kk rfl (fun _=>rfl) rfl rfl) ?_
 refine YF ?_
 obtain⟨f27,hf27,h⟩:=zFM h;refine zEy [0,1,0,4,15,0,32,0,128,480,31,2047,4095,0,0,24576,65535,31,262143,524287] 19 (cdm 19 [2819270816,2819270817,2819270666,2819270682,2819270741,37180572330,37180573354,37180418730,37180435114,37180495530,37179009365,37179708757,37183903061,34941348522,34538695338,34740021930,35791394133,11453245781,22906492245]) (mb 43 203000) [40,32,24] (s1:=⟨bt 3 (.pt 24 0::.pt 32 0::.pt 40 0::I 2::I p1.2.2.1::bt 3 (.ag [Ti p1.1,Ti p1.2.1,Ti p1.2.2.1,Ti p1.2.2.2]::I 2::bt 3 (.ag [Ti q2.1,Ti q2.2.1,Ti q2.2.2.1,Ti q2.2.2.2]::I 1::bt 25 []))),[(40,.box [Ti f5,Ti f15,Ti f17,Ti f25,Ti f27,Ti f21,Ti 0,Ti 0,Ti 0]),(32,.box [Ti 0,Ti 0,Ti 0,Ti 0,Ti 0,Ti 0,Ti 0,Ti 0,Ti 0]),(24,.box [Ti q2.1,Ti q2.2.1,Ti q2.2.2.1,Ti q2.2.2.2])]⟩) kk kk ?_ ?_
 ·refine DR 1 ?_
  refine DE_0 1 (I 1) kk rfl rfl rfl (zK rfl) kk (jI (a:=2) (b:=2) rfl kk kk (by decide)) 22 rfl ?_
  refine DR 1 ?_
  refine DE_0 3 (I 0) kk rfl rfl rfl (zK rfl) kk (jI (a:=1) (b:=2) rfl kk kk (by decide)) 24 rfl ?_
  refine DR 2 ?_
  refine DE_0 6 (I 0) kk rfl rfl rfl (zK rfl) kk (zAo (k:=.i64) (a:=2) (b:=2) rfl kk kk (by decide)) 27 rfl ?_
  refine DR 1 ?_
  refine DE_0 8 (I 1) kk rfl rfl rfl (zK rfl) kk (zAo (k:=.i64) (a:=1) (b:=2) rfl kk kk (by decide)) 29 rfl ?_
  refine DA 10 ?_
  refine XR 1 ?_
  refine qR ?_
  subst hf27
  kernel_rfl
 show V _ _ _ _;refine qX ?_
 refine YF ?_
 show VR _ _ _ _ _;refine VR_s (n:=37) ?_
 refine zAN (mb 43 203000) [40,32,24] (s':=⟨bt 3 (.pt 24 0::.pt 32 0::.pt 40 0::I 2::I p1.2.2.1::bt 3 (.ag [Ti p1.1,Ti p1.2.1,Ti p1.2.2.1,Ti p1.2.2.2]::I 2::bt 3 (.ag [Ti q2.1,Ti q2.2.1,Ti q2.2.2.1,Ti q2.2.2.2]::I 2::bt 25 []))),[(40,.box [Ti f5,Ti f15,Ti f17,Ti f25,Ti f27,Ti f21,Ti 0,Ti 0,Ti 0]),(32,.box [Ti 0,Ti 0,Ti 0,Ti 0,Ti 0,Ti 0,Ti 0,Ti 0,Ti 0]),(24,.box [Ti q2.1,Ti q2.2.1,Ti q2.2.2.1,Ti q2.2.2.2])]⟩) kk ?_
 refine VE ?_
 refine qB ?_
 refine qD rfl ?_
 refine jC ?_
 show V _ _ _ _;refine qB ?_
 refine qM ?_
 refine VS ?_
 refine YR 1 ?_
 refine L0 rfl rfl (zAu (c:=fun v=>[Ti v]) (xs:=[q2.1,q2.2.1,q2.2.2.1,q2.2.2.2]) (v:=q2.2.2.1) (k:=.i64) (n:=2) Tryz.underlying144 sc3 sz3 rfl kk kk rfl (fun _=>rfl) rfl rfl) ?_
 refine YF ?_
 obtain⟨f29,hf29,h⟩:=zFM h;refine zEy [0,1,0,4,15,0,32,0,128,480,31,2047,4095,0,0,24576,65535,31,262143,524287] 19 (cdm 19 [2819270816,2819270817,2819270666,2819270682,2819270741,37180572330,37180573354,37180418730,37180435114,37180495530,37179009365,37179708757,37183903061,34941348522,34538695338,34740021930,35791394133,11453245781,22906492245]) (mb 43 203000) [40,32,24] (s1:=⟨bt 3 (.pt 24 0::.pt 32 0::.pt 40 0::I 2::I p1.2.2.1::bt 3 (.ag [Ti p1.1,Ti p1.2.1,Ti p1.2.2.1,Ti p1.2.2.2]::I 2::bt 3 (.ag [Ti q2.1,Ti q2.2.1,Ti q2.2.2.1,Ti q2.2.2.2]::I 2::bt 25 []))),[(40,.box [Ti f5,Ti f15,Ti f17,Ti f25,Ti f27,Ti f21,Ti f29,Ti 0,Ti 0]),(32,.box [Ti 0,Ti 0,Ti 0,Ti 0,Ti 0,Ti 0,Ti 0,Ti 0,Ti 0]),(24,.box [Ti q2.1,Ti q2.2.1,Ti q2.2.2.1,Ti q2.2.2.2])]⟩) kk kk ?_ ?_
 ·refine DR 1 ?_
  refine DE_0 1 (I 1) kk rfl rfl rfl (zK rfl) kk (jI (a:=2) (b:=2) rfl kk kk (by decide)) 22 rfl ?_
  refine DR 1 ?_
  refine DE_0 3 (I 1) kk rfl rfl rfl (zK rfl) kk (jI (a:=2) (b:=2) rfl kk kk (by decide)) 24 rfl ?_
  refine DR 2 ?_
  refine DE_0 6 (I 0) kk rfl rfl rfl (zK rfl) kk (zAo (k:=.i64) (a:=2) (b:=2) rfl kk kk (by decide)) 27 rfl ?_
  refine DR 1 ?_
  refine DE_0 8 (I 0) kk rfl rfl rfl (zK rfl) kk (zAo (k:=.i64) (a:=2) (b:=2) rfl kk kk (by decide)) 29 rfl ?_
  refine DA 10 ?_
  refine XR 1 ?_
  refine qR ?_
  subst hf29
  kernel_rfl
 show V _ _ _ _;refine qX ?_
 refine YF ?_
 show VR _ _ _ _ _;refine VR_s (n:=36) ?_
 refine zAN (mb 43 203000) [40,32,24] (s':=⟨bt 3 (.pt 24 0::.pt 32 0::.pt 40 0::I 2::I p1.2.2.1::bt 3 (.ag [Ti p1.1,Ti p1.2.1,Ti p1.2.2.1,Ti p1.2.2.2]::I 2::bt 3 (.ag [Ti q2.1,Ti q2.2.1,Ti q2.2.2.1,Ti q2.2.2.2]::I 3::bt 25 []))),[(40,.box [Ti f5,Ti f15,Ti f17,Ti f25,Ti f27,Ti f21,Ti f29,Ti 0,Ti 0]),(32,.box [Ti 0,Ti 0,Ti 0,Ti 0,Ti 0,Ti 0,Ti 0,Ti 0,Ti 0]),(24,.box [Ti q2.1,Ti q2.2.1,Ti q2.2.2.1,Ti q2.2.2.2])]⟩) kk ?_
 refine VE ?_
 refine qB ?_
 refine qD rfl ?_
 refine jC ?_
 show V _ _ _ _;refine qB ?_
 refine qM ?_
 refine VS ?_
 refine YR 1 ?_
 refine L0 rfl rfl (zAu (c:=fun v=>[Ti v]) (xs:=[q2.1,q2.2.1,q2.2.2.1,q2.2.2.2]) (v:=q2.2.2.2) (k:=.i64) (n:=3) Tryz.underlying144 sc3 sz3 rfl kk kk rfl (fun _=>rfl) rfl rfl) ?_
 refine YF ?_
 obtain⟨f31,hf31,h⟩:=zFM h;refine zEy [0,1,0,4,15,0,32,0,128,480,31,2047,4095,0,0,24576,65535,31,262143,524287] 19 (cdm 19 [2819270816,2819270817,2819270666,2819270682,2819270741,37180572330,37180573354,37180418730,37180435114,37180495530,37179009365,37179708757,37183903061,34941348522,34538695338,34740021930,35791394133,11453245781,22906492245]) (mb 43 203000) [40,32,24] (s1:=⟨bt 3 (.pt 24 0::.pt 32 0::.pt 40 0::I 2::I p1.2.2.1::bt 3 (.ag [Ti p1.1,Ti p1.2.1,Ti p1.2.2.1,Ti p1.2.2.2]::I 2::bt 3 (.ag [Ti q2.1,Ti q2.2.1,Ti q2.2.2.1,Ti q2.2.2.2]::I 3::bt 25 []))),[(40,.box [Ti f5,Ti f15,Ti f17,Ti f25,Ti f27,Ti f21,Ti f29,Ti f31,Ti 0]),(32,.box [Ti 0,Ti 0,Ti 0,Ti 0,Ti 0,Ti 0,Ti 0,Ti 0,Ti 0]),(24,.box [Ti q2.1,Ti q2.2.1,Ti q2.2.2.1,Ti q2.2.2.2])]⟩) kk kk ?_ ?_
 ·refine DR 1 ?_
  refine DE_0 1 (I 1) kk rfl rfl rfl (zK rfl) kk (jI (a:=2) (b:=2) rfl kk kk (by decide)) 22 rfl ?_
  refine DR 1 ?_
  refine DE_0 3 (I 1) kk rfl rfl rfl (zK rfl) kk (jI (a:=3) (b:=2) rfl kk kk (by decide)) 24 rfl ?_
  refine DR 2 ?_
  refine DE_0 6 (I 0) kk rfl rfl rfl (zK rfl) kk (zAo (k:=.i64) (a:=2) (b:=2) rfl kk kk (by decide)) 27 rfl ?_
  refine DR 1 ?_
  refine DE_0 8 (I 1) kk rfl rfl rfl (zK rfl) kk (zAo (k:=.i64) (a:=3) (b:=2) rfl kk kk (by decide)) 29 rfl ?_
  refine DA 10 ?_
  refine XR 1 ?_
  refine qR ?_
  subst hf31
  kernel_rfl
 show V _ _ _ _;refine qX ?_
 refine YF ?_
 show VR _ _ _ _ _;refine VR_s (n:=35) ?_
 refine zAN (mb 43 203000) [40,32,24] (s':=⟨bt 3 (.pt 24 0::.pt 32 0::.pt 40 0::I 2::I p1.2.2.1::bt 3 (.ag [Ti p1.1,Ti p1.2.1,Ti p1.2.2.1,Ti p1.2.2.2]::I 2::bt 3 (.ag [Ti q2.1,Ti q2.2.1,Ti q2.2.2.1,Ti q2.2.2.2]::I 4::bt 25 []))),[(40,.box [Ti f5,Ti f15,Ti f17,Ti f25,Ti f27,Ti f21,Ti f29,Ti f31,Ti 0]),(32,.box [Ti 0,Ti 0,Ti 0,Ti 0,Ti 0,Ti 0,Ti 0,Ti 0,Ti 0]),(24,.box [Ti q2.1,Ti q2.2.1,Ti q2.2.2.1,Ti q2.2.2.2])]⟩) kk ?_
 refine VE ?_
 refine qB ?_
 refine zDL rfl ?_
 refine zHN ?_
 show V _ _ _ _;refine qX ?_
 refine YF ?_
 show VR _ _ _ _ _;refine VR_s (n:=36) ?_
 refine zAN (mb 43 6200) [40,32,24] (s':=⟨bt 3 (.pt 24 0::.pt 32 0::.pt 40 0::bt 5 (.ag [Ti p1.1,Ti p1.2.1,Ti p1.2.2.1,Ti p1.2.2.2]::I 3::bt 30 [])),[(40,.box [Ti f5,Ti f15,Ti f17,Ti f25,Ti f27,Ti f21,Ti f29,Ti f31,Ti 0]),(32,.box [Ti 0,Ti 0,Ti 0,Ti 0,Ti 0,Ti 0,Ti 0,Ti 0,Ti 0]),(24,.box [Ti q2.1,Ti q2.2.1,Ti q2.2.2.1,Ti q2.2.2.2])]⟩) kk ?_
 refine VE ?_
 refine qB ?_
 refine qD rfl ?_
 refine jC ?_
 show V _ _ _ _;refine qB ?_
 refine qM ?_
 refine VS ?_
 refine YR 1 ?_
 refine L0 rfl rfl (zAu (c:=fun v=>[Ti v]) (xs:=[p1.1,p1.2.1,p1.2.2.1,p1.2.2.2]) (v:=p1.2.2.2) (k:=.i64) (n:=3) Tryz.underlying144 sc3 sz3 rfl kk kk rfl (fun _=>rfl) rfl rfl) ?_
 refine YF ?_
 refine VE ?_
 refine qM (zFW 40 ?_);refine VR_s (n:=39) ?_
 refine zAN (mb 43 203000) [40,32,24] (s':=⟨bt 3 (.pt 24 0::.pt 32 0::.pt 40 0::I 3::I p1.2.2.2::bt 3 (.ag [Ti p1.1,Ti p1.2.1,Ti p1.2.2.1,Ti p1.2.2.2]::I 3::bt 3 (.ag [Ti q2.1,Ti q2.2.1,Ti q2.2.2.1,Ti q2.2.2.2]::I 0::bt 25 []))),[(40,.box [Ti f5,Ti f15,Ti f17,Ti f25,Ti f27,Ti f21,Ti f29,Ti f31,Ti 0]),(32,.box [Ti 0,Ti 0,Ti 0,Ti 0,Ti 0,Ti 0,Ti 0,Ti 0,Ti 0]),(24,.box [Ti q2.1,Ti q2.2.1,Ti q2.2.2.1,Ti q2.2.2.2])]⟩) kk ?_
 refine VE ?_
 refine qB ?_
 refine qD rfl ?_
 refine jC ?_
 show V _ _ _ _;refine qB ?_
 refine qM ?_
 refine VS ?_
 refine YR 1 ?_
 refine L0 rfl rfl (zAu (c:=fun v=>[Ti v]) (xs:=[q2.1,q2.2.1,q2.2.2.1,q2.2.2.2]) (v:=q2.1) (k:=.i64) (n:=0) Tryz.underlying144 sc3 sz3 rfl kk kk rfl (fun _=>rfl) rfl rfl) ?_
 refine YF ?_
 obtain⟨f35,hf35,h⟩:=zFM h;refine zEy [0,1,0,4,15,0,32,0,128,480,31,2047,4095,0,0,24576,65535,31,262143,524287] 19 (cdm 19 [2819270816,2819270817,2819270666,2819270682,2819270741,37180572330,37180573354,37180418730,37180435114,37180495530,37179009365,37179708757,37183903061,34941348522,34538695338,34740021930,35791394133,11453245781,22906492245]) (mb 43 203000) [40,32,24] (s1:=⟨bt 3 (.pt 24 0::.pt 32 0::.pt 40 0::I 3::I p1.2.2.2::bt 3 (.ag [Ti p1.1,Ti p1.2.1,Ti p1.2.2.1,Ti p1.2.2.2]::I 3::bt 3 (.ag [Ti q2.1,Ti q2.2.1,Ti q2.2.2.1,Ti q2.2.2.2]::I 0::bt 25 []))),[(40,.box [Ti f5,Ti f15,Ti f17,Ti f25,Ti f35,Ti f21,Ti f29,Ti f31,Ti 0]),(32,.box [Ti 0,Ti 0,Ti 0,Ti 0,Ti 0,Ti 0,Ti 0,Ti 0,Ti 0]),(24,.box [Ti q2.1,Ti q2.2.1,Ti q2.2.2.1,Ti q2.2.2.2])]⟩) kk kk ?_ ?_
 ·refine DR 1 ?_
  refine DE_0 1 (I 1) kk rfl rfl rfl (zK rfl) kk (jI (a:=3) (b:=2) rfl kk kk (by decide)) 22 rfl ?_
  refine DR 1 ?_
  refine DE_0 3 (I 0) kk rfl rfl rfl (zK rfl) kk (jI (a:=0) (b:=2) rfl kk kk (by decide)) 24 rfl ?_
  refine DR 2 ?_
  refine DE_0 6 (I 1) kk rfl rfl rfl (zK rfl) kk (zAo (k:=.i64) (a:=3) (b:=2) rfl kk kk (by decide)) 27 rfl ?_
  refine DR 1 ?_
  refine DE_0 8 (I 0) kk rfl rfl rfl (zK rfl) kk (zAo (k:=.i64) (a:=0) (b:=2) rfl kk kk (by decide)) 29 rfl ?_
  refine DA 10 ?_
  refine XR 1 ?_
  refine qR ?_
  subst hf35
  kernel_rfl
 show V _ _ _ _;refine qX ?_
 refine YF ?_
 show VR _ _ _ _ _;refine VR_s (n:=38) ?_
 refine zAN (mb 43 203000) [40,32,24] (s':=⟨bt 3 (.pt 24 0::.pt 32 0::.pt 40 0::I 3::I p1.2.2.2::bt 3 (.ag [Ti p1.1,Ti p1.2.1,Ti p1.2.2.1,Ti p1.2.2.2]::I 3::bt 3 (.ag [Ti q2.1,Ti q2.2.1,Ti q2.2.2.1,Ti q2.2.2.2]::I 1::bt 25 []))),[(40,.box [Ti f5,Ti f15,Ti f17,Ti f25,Ti f35,Ti f21,Ti f29,Ti f31,Ti 0]),(32,.box [Ti 0,Ti 0,Ti 0,Ti 0,Ti 0,Ti 0,Ti 0,Ti 0,Ti 0]),(24,.box [Ti q2.1,Ti q2.2.1,Ti q2.2.2.1,Ti q2.2.2.2])]⟩) kk ?_
 refine VE ?_
 refine qB ?_
 refine qD rfl ?_
 refine jC ?_
 show V _ _ _ _;refine qB ?_
 refine qM ?_
 refine VS ?_
 refine YR 1 ?_
 refine L0 rfl rfl (zAu (c:=fun v=>[Ti v]) (xs:=[q2.1,q2.2.1,q2.2.2.1,q2.2.2.2]) (v:=q2.2.1) (k:=.i64) (n:=1) Tryz.underlying144 sc3 sz3 rfl kk kk rfl (fun _=>rfl) rfl rfl) ?_
 refine YF ?_
 obtain⟨f37,hf37,h⟩:=zFM h;refine zEy [0,1,0,4,15,0,32,0,128,480,31,2047,4095,0,0,24576,65535,31,262143,524287] 19 (cdm 19 [2819270816,2819270817,2819270666,2819270682,2819270741,37180572330,37180573354,37180418730,37180435114,37180495530,37179009365,37179708757,37183903061,34941348522,34538695338,34740021930,35791394133,11453245781,22906492245]) (mb 43 203000) [40,32,24] (s1:=⟨bt 3 (.pt 24 0::.pt 32 0::.pt 40 0::I 3::I p1.2.2.2::bt 3 (.ag [Ti p1.1,Ti p1.2.1,Ti p1.2.2.1,Ti p1.2.2.2]::I 3::bt 3 (.ag [Ti q2.1,Ti q2.2.1,Ti q2.2.2.1,Ti q2.2.2.2]::I 1::bt 25 []))),[(40,.box [Ti f5,Ti f15,Ti f17,Ti f25,Ti f35,Ti f37,Ti f29,Ti f31,Ti 0]),(32,.box [Ti 0,Ti 0,Ti 0,Ti 0,Ti 0,Ti 0,Ti 0,Ti 0,Ti 0]),(24,.box [Ti q2.1,Ti q2.2.1,Ti q2.2.2.1,Ti q2.2.2.2])]⟩) kk kk ?_ ?_
 ·refine DR 1 ?_
  refine DE_0 1 (I 1) kk rfl rfl rfl (zK rfl) kk (jI (a:=3) (b:=2) rfl kk kk (by decide)) 22 rfl ?_
  refine DR 1 ?_
  refine DE_0 3 (I 0) kk rfl rfl rfl (zK rfl) kk (jI (a:=1) (b:=2) rfl kk kk (by decide)) 24 rfl ?_
  refine DR 2 ?_
  refine DE_0 6 (I 1) kk rfl rfl rfl (zK rfl) kk (zAo (k:=.i64) (a:=3) (b:=2) rfl kk kk (by decide)) 27 rfl ?_
  refine DR 1 ?_
  refine DE_0 8 (I 1) kk rfl rfl rfl (zK rfl) kk (zAo (k:=.i64) (a:=1) (b:=2) rfl kk kk (by decide)) 29 rfl ?_
  refine DA 10 ?_
  refine XR 1 ?_
  refine qR ?_
  subst hf37
  kernel_rfl
 show V _ _ _ _;refine qX ?_
 refine YF ?_
 show VR _ _ _ _ _;refine VR_s (n:=37) ?_
 refine zAN (mb 43 203000) [40,32,24] (s':=⟨bt 3 (.pt 24 0::.pt 32 0::.pt 40 0::I 3::I p1.2.2.2::bt 3 (.ag [Ti p1.1,Ti p1.2.1,Ti p1.2.2.1,Ti p1.2.2.2]::I 3::bt 3 (.ag [Ti q2.1,Ti q2.2.1,Ti q2.2.2.1,Ti q2.2.2.2]::I 2::bt 25 []))),[(40,.box [Ti f5,Ti f15,Ti f17,Ti f25,Ti f35,Ti f37,Ti f29,Ti f31,Ti 0]),(32,.box [Ti 0,Ti 0,Ti 0,Ti 0,Ti 0,Ti 0,Ti 0,Ti 0,Ti 0]),(24,.box [Ti q2.1,Ti q2.2.1,Ti q2.2.2.1,Ti q2.2.2.2])]⟩) kk ?_
 refine VE ?_
 refine qB ?_
 refine qD rfl ?_
 refine jC ?_
 show V _ _ _ _;refine qB ?_
 refine qM ?_
 refine VS ?_
 refine YR 1 ?_
 refine L0 rfl rfl (zAu (c:=fun v=>[Ti v]) (xs:=[q2.1,q2.2.1,q2.2.2.1,q2.2.2.2]) (v:=q2.2.2.1) (k:=.i64) (n:=2) Tryz.underlying144 sc3 sz3 rfl kk kk rfl (fun _=>rfl) rfl rfl) ?_
 refine YF ?_
 obtain⟨f39,hf39,h⟩:=zFM h;refine zEy [0,1,0,4,15,0,32,0,128,480,31,2047,4095,0,0,24576,65535,31,262143,524287] 19 (cdm 19 [2819270816,2819270817,2819270666,2819270682,2819270741,37180572330,37180573354,37180418730,37180435114,37180495530,37179009365,37179708757,37183903061,34941348522,34538695338,34740021930,35791394133,11453245781,22906492245]) (mb 43 203000) [40,32,24] (s1:=⟨bt 3 (.pt 24 0::.pt 32 0::.pt 40 0::I 3::I p1.2.2.2::bt 3 (.ag [Ti p1.1,Ti p1.2.1,Ti p1.2.2.1,Ti p1.2.2.2]::I 3::bt 3 (.ag [Ti q2.1,Ti q2.2.1,Ti q2.2.2.1,Ti q2.2.2.2]::I 2::bt 25 []))),[(40,.box [Ti f5,Ti f15,Ti f17,Ti f25,Ti f35,Ti f37,Ti f29,Ti f39,Ti 0]),(32,.box [Ti 0,Ti 0,Ti 0,Ti 0,Ti 0,Ti 0,Ti 0,Ti 0,Ti 0]),(24,.box [Ti q2.1,Ti q2.2.1,Ti q2.2.2.1,Ti q2.2.2.2])]⟩) kk kk ?_ ?_
 ·refine DR 1 ?_
  refine DE_0 1 (I 1) kk rfl rfl rfl (zK rfl) kk (jI (a:=3) (b:=2) rfl kk kk (by decide)) 22 rfl ?_
  refine DR 1 ?_
  refine DE_0 3 (I 1) kk rfl rfl rfl (zK rfl) kk (jI (a:=2) (b:=2) rfl kk kk (by decide)) 24 rfl ?_
  refine DR 2 ?_
  refine DE_0 6 (I 1) kk rfl rfl rfl (zK rfl) kk (zAo (k:=.i64) (a:=3) (b:=2) rfl kk kk (by decide)) 27 rfl ?_
  refine DR 1 ?_
  refine DE_0 8 (I 0) kk rfl rfl rfl (zK rfl) kk (zAo (k:=.i64) (a:=2) (b:=2) rfl kk kk (by decide)) 29 rfl ?_
  refine DA 10 ?_
  refine XR 1 ?_
  refine qR ?_
  subst hf39
  kernel_rfl
 show V _ _ _ _;refine qX ?_
 refine YF ?_
 show VR _ _ _ _ _;refine VR_s (n:=36) ?_
 refine zAN (mb 43 203000) [40,32,24] (s':=⟨bt 3 (.pt 24 0::.pt 32 0::.pt 40 0::I 3::I p1.2.2.2::bt 3 (.ag [Ti p1.1,Ti p1.2.1,Ti p1.2.2.1,Ti p1.2.2.2]::I 3::bt 3 (.ag [Ti q2.1,Ti q2.2.1,Ti q2.2.2.1,Ti q2.2.2.2]::I 3::bt 25 []))),[(40,.box [Ti f5,Ti f15,Ti f17,Ti f25,Ti f35,Ti f37,Ti f29,Ti f39,Ti 0]),(32,.box [Ti 0,Ti 0,Ti 0,Ti 0,Ti 0,Ti 0,Ti 0,Ti 0,Ti 0]),(24,.box [Ti q2.1,Ti q2.2.1,Ti q2.2.2.1,Ti q2.2.2.2])]⟩) kk ?_
 refine VE ?_
 refine qB ?_
 refine qD rfl ?_
 refine jC ?_
 show V _ _ _ _;refine qB ?_
 refine qM ?_
 refine VS ?_
 refine YR 1 ?_
 refine L0 rfl rfl (zAu (c:=fun v=>[Ti v]) (xs:=[q2.1,q2.2.1,q2.2.2.1,q2.2.2.2]) (v:=q2.2.2.2) (k:=.i64) (n:=3) Tryz.underlying144 sc3 sz3 rfl kk kk rfl (fun _=>rfl) rfl rfl) ?_
 refine YF ?_
 obtain⟨f41,hf41,h⟩:=zFM h;refine zEy [0,1,0,4,15,0,32,0,128,480,31,2047,4095,0,0,24576,65535,31,262143,524287] 19 (cdm 19 [2819270816,2819270817,2819270666,2819270682,2819270741,37180572330,37180573354,37180418730,37180435114,37180495530,37179009365,37179708757,37183903061,34941348522,34538695338,34740021930,35791394133,11453245781,22906492245]) (mb 43 203000) [40,32,24] (s1:=⟨bt 3 (.pt 24 0::.pt 32 0::.pt 40 0::I 3::I p1.2.2.2::bt 3 (.ag [Ti p1.1,Ti p1.2.1,Ti p1.2.2.1,Ti p1.2.2.2]::I 3::bt 3 (.ag [Ti q2.1,Ti q2.2.1,Ti q2.2.2.1,Ti q2.2.2.2]::I 3::bt 25 []))),[(40,.box [Ti f5,Ti f15,Ti f17,Ti f25,Ti f35,Ti f37,Ti f29,Ti f39,Ti f41]),(32,.box [Ti 0,Ti 0,Ti 0,Ti 0,Ti 0,Ti 0,Ti 0,Ti 0,Ti 0]),(24,.box [Ti q2.1,Ti q2.2.1,Ti q2.2.2.1,Ti q2.2.2.2])]⟩) kk kk ?_ ?_
 ·refine DR 1 ?_
  refine DE_0 1 (I 1) kk rfl rfl rfl (zK rfl) kk (jI (a:=3) (b:=2) rfl kk kk (by decide)) 22 rfl ?_
  refine DR 1 ?_
  refine DE_0 3 (I 1) kk rfl rfl rfl (zK rfl) kk (jI (a:=3) (b:=2) rfl kk kk (by decide)) 24 rfl ?_
  refine DR 2 ?_
  refine DE_0 6 (I 1) kk rfl rfl rfl (zK rfl) kk (zAo (k:=.i64) (a:=3) (b:=2) rfl kk kk (by decide)) 27 rfl ?_
  refine DR 1 ?_
  refine DE_0 8 (I 1) kk rfl rfl rfl (zK rfl) kk (zAo (k:=.i64) (a:=3) (b:=2) rfl kk kk (by decide)) 29 rfl ?_
  refine DA 10 ?_
  refine XR 1 ?_
  refine qR ?_
  subst hf41
  kernel_rfl
 show V _ _ _ _;refine qX ?_
 refine YF ?_
 show VR _ _ _ _ _;refine VR_s (n:=35) ?_
 refine zAN (mb 43 203000) [40,32,24] (s':=⟨bt 3 (.pt 24 0::.pt 32 0::.pt 40 0::I 3::I p1.2.2.2::bt 3 (.ag [Ti p1.1,Ti p1.2.1,Ti p1.2.2.1,Ti p1.2.2.2]::I 3::bt 3 (.ag [Ti q2.1,Ti q2.2.1,Ti q2.2.2.1,Ti q2.2.2.2]::I 4::bt 25 []))),[(40,.box [Ti f5,Ti f15,Ti f17,Ti f25,Ti f35,Ti f37,Ti f29,Ti f39,Ti f41]),(32,.box [Ti 0,Ti 0,Ti 0,Ti 0,Ti 0,Ti 0,Ti 0,Ti 0,Ti 0]),(24,.box [Ti q2.1,Ti q2.2.1,Ti q2.2.2.1,Ti q2.2.2.2])]⟩) kk ?_
 refine VE ?_
 refine qB ?_
 refine zDL rfl ?_
 refine zHN ?_
 show V _ _ _ _;refine qX ?_
 refine YF ?_
 show VR _ _ _ _ _;refine VR_s (n:=35) ?_
 refine zAN (mb 43 6200) [40,32,24] (s':=⟨bt 3 (.pt 24 0::.pt 32 0::.pt 40 0::bt 5 (.ag [Ti p1.1,Ti p1.2.1,Ti p1.2.2.1,Ti p1.2.2.2]::I 4::bt 30 [])),[(40,.box [Ti f5,Ti f15,Ti f17,Ti f25,Ti f35,Ti f37,Ti f29,Ti f39,Ti f41]),(32,.box [Ti 0,Ti 0,Ti 0,Ti 0,Ti 0,Ti 0,Ti 0,Ti 0,Ti 0]),(24,.box [Ti q2.1,Ti q2.2.1,Ti q2.2.2.1,Ti q2.2.2.2])]⟩) kk ?_
 refine VE ?_
 refine qB ?_
 refine zDL rfl ?_
 refine zHN ?_
 show V _ _ _ _;refine VE ?_
 cases h;exact zCI VT
end
end Go.Proofs.YtnjhhbcccgbbnaaGreatDoor
