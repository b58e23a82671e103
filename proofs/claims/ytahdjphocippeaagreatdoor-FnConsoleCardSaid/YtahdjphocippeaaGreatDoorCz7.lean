/-
  Rules of walks, plain functions and their laws, part 7.
  Conditions: none.
-/
import Derived.Test.YtahdjphocippeaaGreatDoorCz6
set_option linter.unusedSimpArgs false
set_option linter.unusedVariables false
namespace Go.Proofs.YtahdjphocippeaaGreatDoor
open Go.RowKit
noncomputable section
theorem zJY:CfW qh 80:=cfW Tryz.func80
noncomputable def zJ8(vs1:τI)(l2:(qf×(List Int)×τF×Int)):T qh (((List τF)×Bool)):=
 .n1 (nilN 42 3 (by decide))<|
 .n1 bsl0<|
 .n0 (lenM ct3 l2.2.1)<|
 .loopS (fun n X_507=>zAE l2 vs1 n X_507.1 X_507.2) ((0,([]:List τF))) (mb 61 57417) [88,24,80000] (fun s X_507 γ=>s.pc (mb 61 57417) [88,24,80000] [(15,I X_507.1)] [(88,.arr 42 3 (X_507.2.map c42))]) (fun X_507=>
 .cond (ltI X_507.1 ((l2.2.1.length:Int))) (.op0 (idxM ct3 l2.2.1 X_507.1) fun e8=>
 .n0 au<|.op0 (ixA 26 vs1.2 e8) fun e9=>.op0 (ldA ct42 26 vs1.2 e8 1) fun e10=>
 .joinC (.seqT (.cond (eqI X_507.1 0) (.selB (l2.1.toList==((⟨#[115,101,116]⟩:qf)).toList) false [] fun w_500=>.selB (bif w_500 then true else (l2.1.toList==((⟨#[112,114,105,109,101]⟩:qf)).toList)) false [] fun w_501=>.selB (bif w_501 then true else (l2.1.toList==((⟨#[109,117,108]⟩:qf)).toList)) false [] fun w_502=>.ret (bif w_502 then true else (l2.1.toList==((⟨#[112,111,119]⟩:qf)).toList))) (.ret false)) fun b15=>.ret b15) (mb 61 58953) [72,88,24,80000] (fun s q_506 γ=>s.pc (mb 61 58953) [72,88,24,80000] [(10,Bo q_506)] []) fun q_506=>
 .dn<|.joinC (.n0 (bld pl42 bt42)<|.n0 (eqg3 zXO)<|.selB (((e10.1==0)&&((e10.2.1==0)&&(e10.2.2==0)))) true [] fun w_504=>.ret w_504) (mb 61 18014398509539913) [72,88,24,80000] (fun s q_505 γ=>s.pc (mb 61 18014398509539913) [72,88,24,80000] [(54,Bo (bif q_505 then (!q_506) else false))] []) fun q_505=>
 .lt (bif q_505 then (!q_506) else false) fun t17=>.cond t17 (.n1 (nilN 42 3 (by decide))<|
 .ret (.early ((([]:List τF),false))))<|.n1 bsl<|.opx (app ct42 X_507.2 ([e10])) fun u19=>
 .frc (w64 (X_507.1+1)) fun t20=>.ret (.again ((t20,X_507.2++([e10])))))<|.ret (.done X_507.2)) (mb 61 64) [88,80000] (fun s o6 γ=>s.pc (mb 61 64) [88,80000] [] [(88,.arr 42 3 (o6.map c42))]) (fun r=>r) fun o6=>
 .ret ((o6,true))
theorem zJo{vs1:τI}{l2:(qf×(List Int)×τF×Int)}{rest:List Tr}{r:((List τF)×Bool)}(h:zP vs1 l2=some r):zEi qh 80 [.pt 80000 0,.ag [.v (.string l2.1),.sl (l2.2.1.map c3),Ti l2.2.2.1.1,Ti l2.2.2.1.2.1,Ti l2.2.2.1.2.2,Ti l2.2.2.2]] [(80000,.box ((Ti vs1.1::q78 (vs1.2) [])++rest))] (.tc (.ow 0) (.tc (Bo r.2) .tn)) [(0,.arr 42 3 (r.1.map c42))] [(80000,.box ((Ti vs1.1::q78 (vs1.2) [])++rest))]:=CrT (zJ8 vs1 l2) (fun r=>(.tc (.ow 0) (.tc (Bo r.2) .tn),[(0,.arr 42 3 (r.1.map c42))])) (fun r=>[(80000,.box ((Ti vs1.1::q78 (vs1.2) [])++rest))]) (rs:=[.t 4,.t 5]) (vs:=[.tmp 4,.tmp 5]) Tryz.func80 rfl rfl (.cons rfl (.cons rfl FitsL.nil)) h
def zK9(vs1:τI)(l2:(qf×(List Int)×τF×Int)):=fRt zJY (zP vs1 l2) 80000 79 (fun rest _ h=>zJo (rest:=rest) h)
theorem z0v:CfW qh 160:=cfW Tryz.func160
noncomputable def z1a(a1:Int)(vm2:Int):T qh Int:=
 .op0 (remF .i64 a1 vm2) fun z3=>
 .frc (Int.tmod a1 vm2) fun vr4=>
 .cond (ltI vr4 0) (
 .frc (w64 (vr4+vm2)) fun vr6=>
 .ret vr6)<|
 .ret vr4
theorem z1k{a1:Int}{vm2:Int}{r:Int}(h:zAg a1 vm2=some r):zC qh 160 [I a1,I vm2] (I r) []:=CtU (z1a a1 vm2) 4 (fun r=>I r) Tryz.func160 rfl rfl h
def zDF(a1:Int)(vm2:Int):=fC z0v (zAg a1 vm2) fun _=>z1k
theorem zIy:CfW qh 116:=cfW Tryz.func116
noncomputable def zJP(d1:Int):T qh Bool:=
 .pl<|.joinC (.selB (leI (-2000) d1) true [] fun w_2=>.seqT (.cond (bif w_2 then (leI d1 (-3)) else false) (.op1 (zDF d1 4) fun y4=>.ret (leI y4 1)) (.ret false)) fun b5=>.ret (w_2,b5)) (mb 14 4) [] (fun s q_3 γ=>s.pc (mb 14 4) [] [(2,Bo q_3.2)] []) fun q_3=>
 .ret q_3.2
theorem zJS{d1:Int}{r:Bool}(h:qT d1=some r):zC qh 116 [I d1] (Bo r) []:=CtU (zJP d1) 2 (fun r=>Bo r) Tryz.func116 rfl rfl h
def zFv(d1:Int):=fC zIy (qT d1) fun _=>zJS
theorem zHo:CfW qh 42:=cfW Tryz.func42
noncomputable def zP6(f1:τF):T qh Int:=
 .frc (w64 ((w64 (f1.2.1*f1.2.1)) - (w64 ((w64 (4*f1.1))*f1.2.2)))) fun t2=>.ret t2
theorem zIS{f1:τF}{r:Int}(h:zL f1=some r):zC qh 42 [.ag [Ti f1.1,Ti f1.2.1,Ti f1.2.2]] (I r) []:=CtU (zP6 f1) 2 (fun r=>I r) Tryz.func42 rfl rfl h
def zAr(f1:τF):=fC zHo (zL f1) fun _=>zIS
theorem zNQ:CfW qh 43:=cfW Tryz.func43
noncomputable def zNr(f1:τF):T qh Bool:=
 .pl<|.joinC (.op1 (zIL f1) fun y2=>.seqT (.cond y2 (.op1 (zAr f1) fun y4=>.ret (ltI y4 0)) (.ret false)) fun b5=>.selB b5 true [] fun w_2=>.ret (y2,b5,w_2)) (mb 15 4) [] (fun s q_3 γ=>s.pc (mb 15 4) [] [(2,Bo (bif q_3.2.2 then (ltI 0 f1.1) else false))] []) fun q_3=>
 .ret (bif q_3.2.2 then (ltI 0 f1.1) else false)
theorem zOQ{f1:τF}{r:Bool}(h:zR f1=some r):zC qh 43 [.ag [Ti f1.1,Ti f1.2.1,Ti f1.2.2]] (Bo r) []:=CtU (zNr f1) 2 (fun r=>Bo r) Tryz.func43 rfl rfl h
def zDZ(f1:τF):=fC zNQ (zR f1) fun _=>zOQ
theorem zLp:CfW qh 62:=cfW Tryz.func62
noncomputable def zM4(f1:τF):T qh Bool:=
 .pl<|.joinC (.op1 (zDZ f1) fun y2=>.seqT (.cond y2 (.op1 (zAr f1) fun y4=>.ret (leI (-2000) y4)) (.ret false)) fun b5=>.ret (y2,b5)) (mb 10 4) [] (fun s q_1 γ=>s.pc (mb 10 4) [] [(2,Bo q_1.2)] []) fun q_1=>
 .ret q_1.2
theorem zMq{f1:τF}{r:Bool}(h:jA f1=some r):zC qh 62 [.ag [Ti f1.1,Ti f1.2.1,Ti f1.2.2]] (Bo r) []:=CtU (zM4 f1) 2 (fun r=>Bo r) Tryz.func62 rfl rfl h
def zH9(f1:τF):=fC zLp (jA f1) fun _=>zMq
theorem z0x:CfW qh 135:=cfW Tryz.func135
noncomputable def z1c(vn1:Int):T qh Int:=
 .n0 au<|.n0 au<|
 .frc (mxI vn1 (w64 (0 - (mxI vn1 (-9223372036854775807))))) fun t2=>.ret t2
theorem z1m{vn1:Int}{r:Int}(h:zET vn1=some r):zC qh 135 [I vn1] (I r) []:=CtU (z1c vn1) 2 (fun r=>I r) Tryz.func135 rfl rfl h
def zV1(vn1:Int):=fC z0x (zET vn1) fun _=>z1m
theorem z0w:CfW qh 88:=cfW Tryz.func88
noncomputable def z1b(a1:Int)(b2:Int):T qh Int:=
 .loop (fun n X_1=>zBM n X_1.1 X_1.2) ((a1,b2)) (mb 13 3) [] (fun s X_1 γ=>s.pc (mb 13 3) [] [(0,I X_1.1),(1,I X_1.2)] []) (fun X_1=>
 .cond (!eqI X_1.2 0) (.draw 6 []<|.op0 (remF .i64 X_1.1 X_1.2) fun z8=>
 .frc (Int.tmod X_1.1 X_1.2) fun b9=>.ret (.inl ((X_1.2,b9))))<|.ret (.inr X_1.1)) (mb 13 1) [] (fun s o6 γ=>s.pc (mb 13 1) [] [(0,I o6)] []) fun o6=>
 .op1 (zV1 o6) fun y10=>
 .ret y10
theorem z1l{a1:Int}{b2:Int}{r:Int}(h:zES a1 b2=some r):zC qh 88 [I a1,I b2] (I r) []:=CtU (z1b a1 b2) 4 (fun r=>I r) Tryz.func88 rfl rfl h
def zJF(a1:Int)(b2:Int):=fC z0w (zES a1 b2) fun _=>z1l
theorem zK2:CfW qh 63:=cfW Tryz.func63
noncomputable def zLU(f1:τF):T qh Int:=
 .draw 9 []<|.op1 (zJF f1.2.1 f1.2.2) fun y2=>.op1 (zJF f1.1 y2) fun y3=>
 .ret y3
theorem zLa{f1:τF}{r:Int}(h:zAX f1=some r):zC qh 63 [.ag [Ti f1.1,Ti f1.2.1,Ti f1.2.2]] (I r) []:=CtU (zLU f1) 2 (fun r=>I r) Tryz.func63 rfl rfl h
def zEq(f1:τF):=fC zK2 (zAX f1) fun _=>zLa
theorem zGl:CfW qh 45:=cfW Tryz.func45
noncomputable def zM5(f1:τF):T qh Bool:=
 .pl<|.joinC (.op1 (zH9 f1) fun y2=>.seqT (.cond y2 (.op1 (zEq f1) fun y4=>.ret (eqI y4 1)) (.ret false)) fun b5=>.ret (y2,b5)) (mb 10 4) [] (fun s q_1 γ=>s.pc (mb 10 4) [] [(2,Bo q_1.2)] []) fun q_1=>
 .ret q_1.2
theorem zHO{f1:τF}{r:Bool}(h:zV f1=some r):zC qh 45 [.ag [Ti f1.1,Ti f1.2.1,Ti f1.2.2]] (Bo r) []:=CtU (zM5 f1) 2 (fun r=>Bo r) Tryz.func45 rfl rfl h
def zHa(f1:τF):=fC zGl (zV f1) fun _=>zHO
theorem zLn:CfW qh 129:=cfW Tryz.func129
noncomputable def zM2(vs1:τI):T qh qf:=
 .n0 au<|
 .loop (fun n X_1=>zAZ vs1 n X_1.1 X_1.2) (((⟨#[]⟩:qf),0)) (mb 25 1544) [80000] (fun s X_1 γ=>s.pc (mb 25 1544) [80000] [(3,.c (.v (.string X_1.1))),(10,I X_1.2)] []) (fun X_1=>
 .cond (ltI X_1.2 26) (.op0 (igA ct42 26 vs1.2 X_1.2) fun e7=>
 .n0 (bld pl42 bt42)<|.n0 (neg3 zXE)<|
 .cond (!((e7.1==0)&&((e7.2.1==0)&&(e7.2.2==0)))) (.n0 au<|.n0 i2s<|.op0 (cat X_1.1 (Utf8.encode (IntKind.i32.wrap (w64 (97+X_1.2))))) fun u9=>
 .frc (w64 (X_1.2+1)) fun t10=>.ret (.inl ((X_1.1++(Utf8.encode (IntKind.i32.wrap (w64 (97+X_1.2)))),t10))))<|
 .frc (w64 (X_1.2+1)) fun t11=>.ret (.inl ((X_1.1,t11))))<|.ret (.inr X_1.1)) (mb 25 8) [80000] (fun s o5 γ=>s.pc (mb 25 8) [80000] [(3,.c (.v (.string o5)))] []) fun o5=>
 .ret o5
theorem zMo{vs1:τI}{rest:List Tr}{r:qf}(h:zBz vs1=some r):zEi qh 129 [.pt 80000 0] [(80000,.box ((Ti vs1.1::q78 (vs1.2) [])++rest))] (.c (.v (.string r))) [] [(80000,.box ((Ti vs1.1::q78 (vs1.2) [])++rest))]:=CrT (zM2 vs1) (fun r=>(.c (.v (.string r)),[])) (fun r=>[(80000,.box ((Ti vs1.1::q78 (vs1.2) [])++rest))]) (rs:=[.t 2]) (vs:=[.tmp 2]) Tryz.func129 rfl rfl (.cons rfl FitsL.nil) h
def zH4(vs1:τI):=fRt zLn (zBz vs1) 80000 79 (fun rest _ h=>zMo (rest:=rest) h)
theorem z0u:CfW qh 232:=cfW Tryz.func232
noncomputable def z19:T qh (τM):=
 .n0 (bld zD6 zDf)<|
 .ret ((1,0,0,1))
theorem z1j{r:τM}(h:zFF=some r):zC qh 232 [] (.ag [Ti r.1,Ti r.2.1,Ti r.2.2.1,Ti r.2.2.2]) []:=CtT (z19) (fun r=>(.ag [Ti r.1,Ti r.2.1,Ti r.2.2.1,Ti r.2.2.2],[])) (rs:=[.w 0 4]) (vs:=[.cell 0 120]) Tryz.func232 rfl rfl (.cons ⟨rfl,zFY⟩ FitsL.nil) h
def zVU:=fC z0u (zFF) fun _=>z1j
theorem zFu:CfW qh 61:=cfW Tryz.func61
noncomputable def zJd(f1:τF):T qh Bool:=
 .pl<|.joinC (.selB (ltI (w64 (0 - f1.1)) f1.2.1) true [] fun w_2=>.ret w_2) (mb 16 4) [] (fun s q_3 γ=>s.pc (mb 16 4) [] [(2,Bo (bif q_3 then (leI f1.2.1 f1.1) else false))] []) fun q_3=>
 .lt (bif q_3 then (leI f1.2.1 f1.1) else false) fun t3=>.ret t3
theorem zGO{f1:τF}{r:Bool}(h:qM f1=some r):zC qh 61 [.ag [Ti f1.1,Ti f1.2.1,Ti f1.2.2]] (Bo r) []:=CtU (zJd f1) 2 (fun r=>Bo r) Tryz.func61 rfl rfl h
def zKi(f1:τF):=fC zFu (qM f1) fun _=>zGO
theorem zJA:∀args w,(callFunc 44 args).run qh w=.ok (.enter 44 args) w:=qW Tryz.func44 kk kk
set_option maxRecDepth 100000 in
set_option maxHeartbeats 400000 in
theorem zJU{f1:τF}{r:Bool}(h:qG f1=some r):zC qh 44 [.ag [Ti f1.1,Ti f1.2.1,Ti f1.2.2]] (Bo r) []:=by
  refine zAl (rs:=[.t 2]) (vs:=[.tmp 2]) Tryz.func44 rfl rfl (.cons rfl FitsL.nil) (by decide) 24 rfl ?_
  unfold qG at h;show V _ _ ⟨.ag [Ti f1.1,Ti f1.2.1,Ti f1.2.2]::bt 23 [],[]⟩ _;refine jI (mb 24 2) [8] (s1:=⟨.bot::.pt 8 0::bt 22 [],[(8,.box [Ti f1.1,Ti f1.2.1,Ti f1.2.2])]⟩) ?_ ?_
  ·refine L1 rfl rfl (zUw (cs:=[Ti f1.1,Ti f1.2.1,Ti f1.2.2]) rfl kk) ?_
   refine L0 rfl rfl (zG (Bo false) rfl kk) ?_
   refine zJ ?_
   kernel_rfl
  obtain⟨y2,hy2,h⟩:=zT h;obtain⟨t6,ht6,h⟩:=zT h;have ht6:=zZ ht6;refine jI (mb 24 4) [] (s1:=⟨.bot::.bot::Bo t6::bt 21 [],[]⟩) ?_ ?_
  ·refine L0 rfl rfl (zHs (cs:=[Ti f1.1,Ti f1.2.1,Ti f1.2.2]) [Ti f1.1,Ti f1.2.1,Ti f1.2.2] wd42 rfl kk (Nat.le_of_ble_eq_true rfl) kk) ?_
   refine L1 rfl rfl (zC2 (zGO hy2) zFu rfl kk) ?_
   refine L0 rfl rfl (zK (Bo y2) rfl kk) ?_
   refine zBa y2 (fun hc3=>?_) (fun hc3=>?_)
   ·refine zD _ rfl rfl kk hc3 (zB rfl (zA8 (.pt 8 0) Tryz.underlying42 rfl sz3 rfl kk (by intro hh;cases hh))) ?_
    refine zD _ rfl rfl kk hc3 (zB rfl (zAG (c:=Ti f1.1) (cs:=[Ti f1.2.1,Ti f1.2.2]) sc3 rfl kk)) ?_
    refine zD _ rfl rfl kk hc3 (zB rfl (zA8 (.pt 8 2) Tryz.underlying42 rfl sz3 rfl kk (by intro hh;cases hh))) ?_
    refine zD _ rfl rfl kk hc3 (zB rfl (zAG (c:=Ti f1.2.2) (cs:=[]) sc3 rfl kk)) ?_
    refine zD _ rfl rfl kk hc3 (zB rfl (zH2 (k:=.i64) (a:=f1.1) (b:=f1.2.2) rfl kk kk)) ?_
    refine zD _ rfl rfl kk hc3 (zB rfl (zK (Bo (ltI f1.1 f1.2.2)) rfl kk)) ?_
    refine zBa (ltI f1.1 f1.2.2) (fun hc4=>?_) (fun hc4=>?_)
    ·refine qV _ rfl rfl kk hc4 rfl ?_
     refine qV _ rfl rfl kk hc4 rfl ?_
     refine qV _ rfl rfl kk hc4 rfl ?_
     refine qV _ rfl rfl kk hc4 rfl ?_
     refine qV _ rfl rfl kk hc4 rfl ?_
     refine qV _ rfl rfl kk hc4 rfl ?_
     refine qK rfl rfl kk rfl ?_
     refine qK rfl rfl kk rfl ?_
     refine qK rfl rfl kk rfl ?_
     refine qV _ rfl rfl kk hc4 rfl ?_
     refine zD _ rfl rfl kk hc3 (zB rfl (zAt (b:=ltI f1.1 f1.2.2) (p:=true) (q:=bif (eqI f1.1 f1.2.2) then (leI 0 f1.2.1) else false) rfl kk hc4 kk)) ?_
     refine zW rfl (zB rfl (zAt (b:=y2) (p:=bif (ltI f1.1 f1.2.2) then true else (bif (eqI f1.1 f1.2.2) then (leI 0 f1.2.1) else false)) (q:=false) rfl kk hc3 kk)) ?_
     refine L0 rfl rfl (zG (Bo (bif y2 then (bif (ltI f1.1 f1.2.2) then true else (bif (eqI f1.1 f1.2.2) then (leI 0 f1.2.1) else false)) else false)) rfl kk) ?_
     refine zJ ?_
     subst ht6
     kernel_rfl
    ·refine zD _ rfl rfl kk hc4 (zB rfl (zA8 (.pt 8 0) Tryz.underlying42 rfl sz3 rfl kk (by intro hh;cases hh))) ?_
     refine zD _ rfl rfl kk hc4 (zB rfl (zAG (c:=Ti f1.1) (cs:=[Ti f1.2.1,Ti f1.2.2]) sc3 rfl kk)) ?_
     refine zD _ rfl rfl kk hc4 (zB rfl (zA8 (.pt 8 2) Tryz.underlying42 rfl sz3 rfl kk (by intro hh;cases hh))) ?_
     refine zD _ rfl rfl kk hc4 (zB rfl (zAG (c:=Ti f1.2.2) (cs:=[]) sc3 rfl kk)) ?_
     refine zD _ rfl rfl kk hc4 (zB rfl (zJD (k:=.i64) (a:=f1.1) (b:=f1.2.2) rfl kk kk)) ?_
     refine zD _ rfl rfl kk hc4 (zB rfl (zK (Bo (eqI f1.1 f1.2.2)) rfl kk)) ?_
     refine zBa (eqI f1.1 f1.2.2) (fun hc5=>?_) (fun hc5=>?_)
     ·refine zD _ rfl rfl kk hc5 (zB rfl (zA8 (.pt 8 1) Tryz.underlying42 rfl sz3 rfl kk (by intro hh;cases hh))) ?_
      refine zD _ rfl rfl kk hc5 (zB rfl (zAG (c:=Ti f1.2.1) (cs:=[Ti f1.2.2]) sc3 rfl kk)) ?_
      refine zD _ rfl rfl kk hc5 (zB rfl (zVA (k:=.i64) (a:=f1.2.1) (b:=0) rfl kk kk)) ?_
      refine zD _ rfl rfl kk hc4 (zB rfl (zAt (b:=eqI f1.1 f1.2.2) (p:=leI 0 f1.2.1) (q:=false) rfl kk hc5 kk)) ?_
      refine zD _ rfl rfl kk hc3 (zB rfl (zB9 (b:=ltI f1.1 f1.2.2) (p:=true) (q:=bif (eqI f1.1 f1.2.2) then (leI 0 f1.2.1) else false) rfl kk hc4 kk)) ?_
      refine zW rfl (zB rfl (zAt (b:=y2) (p:=bif (ltI f1.1 f1.2.2) then true else (bif (eqI f1.1 f1.2.2) then (leI 0 f1.2.1) else false)) (q:=false) rfl kk hc3 kk)) ?_
      refine L0 rfl rfl (zG (Bo (bif y2 then (bif (ltI f1.1 f1.2.2) then true else (bif (eqI f1.1 f1.2.2) then (leI 0 f1.2.1) else false)) else false)) rfl kk) ?_
      refine zJ ?_
      subst ht6
      kernel_rfl
     ·refine zY _ rfl rfl kk hc5 rfl ?_
      refine zY _ rfl rfl kk hc5 rfl ?_
      refine zY _ rfl rfl kk hc5 rfl ?_
      refine zD _ rfl rfl kk hc4 (zB rfl (zB9 (b:=eqI f1.1 f1.2.2) (p:=leI 0 f1.2.1) (q:=false) rfl kk hc5 kk)) ?_
      refine zD _ rfl rfl kk hc3 (zB rfl (zB9 (b:=ltI f1.1 f1.2.2) (p:=true) (q:=bif (eqI f1.1 f1.2.2) then (leI 0 f1.2.1) else false) rfl kk hc4 kk)) ?_
      refine zW rfl (zB rfl (zAt (b:=y2) (p:=bif (ltI f1.1 f1.2.2) then true else (bif (eqI f1.1 f1.2.2) then (leI 0 f1.2.1) else false)) (q:=false) rfl kk hc3 kk)) ?_
      refine L0 rfl rfl (zG (Bo (bif y2 then (bif (ltI f1.1 f1.2.2) then true else (bif (eqI f1.1 f1.2.2) then (leI 0 f1.2.1) else false)) else false)) rfl kk) ?_
      refine zJ ?_
      subst ht6
      kernel_rfl
   ·refine zY _ rfl rfl kk hc3 rfl ?_
    refine zY _ rfl rfl kk hc3 rfl ?_
    refine zY _ rfl rfl kk hc3 rfl ?_
    refine zY _ rfl rfl kk hc3 rfl ?_
    refine zY _ rfl rfl kk hc3 rfl ?_
    refine zY _ rfl rfl kk hc3 rfl ?_
    refine qK rfl rfl kk rfl ?_
    refine qK rfl rfl kk rfl ?_
    refine qK rfl rfl kk rfl ?_
    refine qK rfl rfl kk rfl ?_
    refine qK rfl rfl kk rfl ?_
    refine qK rfl rfl kk rfl ?_
    refine qK rfl rfl kk rfl ?_
    refine qK rfl rfl kk rfl ?_
    refine qK rfl rfl kk rfl ?_
    refine qK rfl rfl kk rfl ?_
    refine zY _ rfl rfl kk hc3 rfl ?_
    refine zW rfl (zB rfl (zB9 (b:=y2) (p:=bif (ltI f1.1 f1.2.2) then true else (bif (eqI f1.1 f1.2.2) then (leI 0 f1.2.1) else false)) (q:=false) rfl kk hc3 kk)) ?_
    refine L0 rfl rfl (zG (Bo (bif y2 then (bif (ltI f1.1 f1.2.2) then true else (bif (eqI f1.1 f1.2.2) then (leI 0 f1.2.1) else false)) else false)) rfl kk) ?_
    refine zJ ?_
    subst ht6
    kernel_rfl
  refine zEh ?_
  obtain rfl:=zZ h;show Post _ _ _ _ _;exact⟨.inr rfl,rfl,rfl,rfl⟩
def zDG(f1:τF):=fC zJA (qG f1) fun _=>zJU
theorem zQZ:CfW qh 237:=cfW Tryz.func237
noncomputable def zRR(a1:Int)(vm2:Int):T qh Int:=
 .op1 (zDF a1 vm2) fun y3=>.op0 (quoF .i64 (w64 (a1 - y3)) vm2) fun z4=>
 .frc (w64 (Int.tdiv (w64 (a1 - y3)) vm2)) fun t5=>.ret t5
theorem zRc{a1:Int}{vm2:Int}{r:Int}(h:zBS a1 vm2=some r):zC qh 237 [I a1,I vm2] (I r) []:=CtU (zRR a1 vm2) 4 (fun r=>I r) Tryz.func237 rfl rfl h
def zJM(a1:Int)(vm2:Int):=fC zQZ (zBS a1 vm2) fun _=>zRc
theorem zOs:CfW qh 233:=cfW Tryz.func233
noncomputable def zP5(f1:τF):T qh (τM):=
 .op1 (zDG f1) fun y2=>
 .cond y2 (.op1 (zVU) fun y4=>
 .ret y4)<|.op1 (zKi f1) fun y5=>
 .cond (!y5) (.op1 (zJM (w64 (f1.1 - f1.2.1)) (w64 (2*f1.1))) fun y7=>.n0 (bld zD6 zDf)<|
 .ret ((1,y7,0,1)))<|.n0 (bld zD6 zDf)<|
 .ret ((0,-1,1,0))
theorem zPn{f1:τF}{r:τM}(h:qU f1=some r):zC qh 233 [.ag [Ti f1.1,Ti f1.2.1,Ti f1.2.2]] (.ag [Ti r.1,Ti r.2.1,Ti r.2.2.1,Ti r.2.2.2]) []:=CtT (zP5 f1) (fun r=>(.ag [Ti r.1,Ti r.2.1,Ti r.2.2.1,Ti r.2.2.2],[])) (rs:=[.w 2 4]) (vs:=[.cell 2 120]) Tryz.func233 rfl rfl (.cons ⟨rfl,zFY⟩ FitsL.nil) h
def zQi(f1:τF):=fC zOs (qU f1) fun _=>zPn
theorem zSF:CfW qh 172:=cfW Tryz.func172
noncomputable def zTL(f1:τF)(x2:Int)(y3:Int):T qh Int:=
 .frc (w64 ((w64 ((w64 ((w64 (f1.1*x2))*x2))+(w64 ((w64 (f1.2.1*x2))*y3))))+(w64 ((w64 (f1.2.2*y3))*y3)))) fun t4=>.ret t4
theorem zTh{f1:τF}{x2:Int}{y3:Int}{r:Int}(h:zAi f1 x2 y3=some r):zC qh 172 [.ag [Ti f1.1,Ti f1.2.1,Ti f1.2.2],I x2,I y3] (I r) []:=CtU (zTL f1 x2 y3) 6 (fun r=>I r) Tryz.func172 rfl rfl h
def zFt(f1:τF)(x2:Int)(y3:Int):=fC zSF (zAi f1 x2 y3) fun _=>zTh
theorem zNY:CfW qh 261:=cfW Tryz.func261
noncomputable def zNy(f1:τF)(x2:Int)(y3:Int)(u4:Int)(v5:Int):T qh Int:=
 .frc (w64 ((w64 ((w64 ((w64 ((w64 (2*f1.1))*x2))*u4))+(w64 (f1.2.1*(w64 ((w64 (x2*v5))+(w64 (y3*u4))))))))+(w64 ((w64 ((w64 (2*f1.2.2))*y3))*v5)))) fun t6=>.ret t6
theorem zOY{f1:τF}{x2:Int}{y3:Int}{u4:Int}{v5:Int}{r:Int}(h:zBE f1 x2 y3 u4 v5=some r):zC qh 261 [.ag [Ti f1.1,Ti f1.2.1,Ti f1.2.2],I x2,I y3,I u4,I v5] (I r) []:=CtU (zNy f1 x2 y3 u4 v5) 10 (fun r=>I r) Tryz.func261 rfl rfl h
def zPL(f1:τF)(x2:Int)(y3:Int)(u4:Int)(v5:Int):=fC zNY (zBE f1 x2 y3 u4 v5) fun _=>zOY
theorem zI2:CfW qh 234:=cfW Tryz.func234
noncomputable def zIa(f1:τF)(vm2:τM):T qh (τF):=
 .draw 23 []<|.op1 (zFt f1 vm2.1 vm2.2.2.1) fun y3=>.op1 (zPL f1 vm2.1 vm2.2.2.1 vm2.2.1 vm2.2.2.2) fun y4=>.op1 (zFt f1 vm2.2.1 vm2.2.2.2) fun y5=>.n0 (bld pl42 bt42)<|
 .ret ((y3,y4,y5))
theorem zIj{f1:τF}{vm2:τM}{r:τF}(h:qF f1 vm2=some r):zC qh 234 [.ag [Ti f1.1,Ti f1.2.1,Ti f1.2.2],.ag [Ti vm2.1,Ti vm2.2.1,Ti vm2.2.2.1,Ti vm2.2.2.2]] (.ag [Ti r.1,Ti r.2.1,Ti r.2.2]) []:=CtT (zIa f1 vm2) (fun r=>(.ag [Ti r.1,Ti r.2.1,Ti r.2.2],[])) (rs:=[.w 4 3]) (vs:=[.cell 4 42]) Tryz.func234 rfl rfl (.cons ⟨rfl,wd42⟩ FitsL.nil) h
def zDu(f1:τF)(vm2:τM):=fC zI2 (qF f1 vm2) fun _=>zIj
theorem zK1:CfW qh 204:=cfW Tryz.func204
noncomputable def zLT(vm1:τM)(vn2:τM):T qh (τM):=
 .n0 (bld zD6 zDf)<|
 .frc (w64 ((w64 (vm1.1*vn2.1))+(w64 (vm1.2.1*vn2.2.2.1)))) fun f3=>.frc (w64 ((w64 (vm1.1*vn2.2.1))+(w64 (vm1.2.1*vn2.2.2.2)))) fun f4=>.frc (w64 ((w64 (vm1.2.2.1*vn2.1))+(w64 (vm1.2.2.2*vn2.2.2.1)))) fun f5=>.frc (w64 ((w64 (vm1.2.2.1*vn2.2.1))+(w64 (vm1.2.2.2*vn2.2.2.2)))) fun f6=>.ret ((f3,f4,f5,f6))
theorem zL9{vm1:τM}{vn2:τM}{r:τM}(h:qC vm1 vn2=some r):zC qh 204 [.ag [Ti vm1.1,Ti vm1.2.1,Ti vm1.2.2.1,Ti vm1.2.2.2],.ag [Ti vn2.1,Ti vn2.2.1,Ti vn2.2.2.1,Ti vn2.2.2.2]] (.ag [Ti r.1,Ti r.2.1,Ti r.2.2.1,Ti r.2.2.2]) []:=CtT (zLT vm1 vn2) (fun r=>(.ag [Ti r.1,Ti r.2.1,Ti r.2.2.1,Ti r.2.2.2],[])) (rs:=[.w 4 4]) (vs:=[.cell 4 120]) Tryz.func204 rfl rfl (.cons ⟨rfl,zFY⟩ FitsL.nil) h
def zEp(vm1:τM)(vn2:τM):=fC zK1 (qC vm1 vn2) fun _=>zL9
theorem zUm:CfW qh 200:=cfW Tryz.func200
noncomputable def zVm(f1:τF):T qh ((τF×τM)):=
 .op1 (zVU) fun y2=>
 .loop (fun n X_1=>zBe n X_1.1 X_1.2.1 X_1.2.2.1 X_1.2.2.2.1 X_1.2.2.2.2.1 X_1.2.2.2.2.2.1 X_1.2.2.2.2.2.2) ((y2.1,y2.2.1,y2.2.2.1,y2.2.2.2,f1.1,f1.2.1,f1.2.2)) (mb 20 30) [32,24,16,8] (fun s X_1 γ=>s.pc (mb 20 30) [32,24,16,8] [] [(32,.box [Ti X_1.1,Ti X_1.2.1,Ti X_1.2.2.1,Ti X_1.2.2.2.1]),(8,.box [Ti X_1.2.2.2.2.1,Ti X_1.2.2.2.2.2.1,Ti X_1.2.2.2.2.2.2])]) (fun X_1=>
 .op1 (zDG ((X_1.2.2.2.2.1,X_1.2.2.2.2.2.1,X_1.2.2.2.2.2.2))) fun y12=>
 .cond (!y12) (.op1 (zQi ((X_1.2.2.2.2.1,X_1.2.2.2.2.2.1,X_1.2.2.2.2.2.2))) fun y14=>
 .op1 (zDu ((X_1.2.2.2.2.1,X_1.2.2.2.2.2.1,X_1.2.2.2.2.2.2)) y14) fun y15=>
 .op1 (zEp ((X_1.1,X_1.2.1,X_1.2.2.1,X_1.2.2.2.1)) y14) fun y16=>
 .ret (.inl ((y16.1,y16.2.1,y16.2.2.1,y16.2.2.2,y15.1,y15.2.1,y15.2.2))))<|.ret (.inr ((X_1.1,X_1.2.1,X_1.2.2.1,X_1.2.2.2.1,X_1.2.2.2.2.1,X_1.2.2.2.2.2.1,X_1.2.2.2.2.2.2)))) (mb 20 30) [32,24,16,8] (fun s o11 γ=>s.pc (mb 20 30) [32,24,16,8] [] [(32,.box [Ti o11.1,Ti o11.2.1,Ti o11.2.2.1,Ti o11.2.2.2.1]),(8,.box [Ti o11.2.2.2.2.1,Ti o11.2.2.2.2.2.1,Ti o11.2.2.2.2.2.2])]) fun o11=>
 .draw 3 [(2,16)]<|
 .ret ((o11.2.2.2.2,(o11.1,o11.2.1,o11.2.2.1,o11.2.2.2.1)))
theorem zWK{f1:τF}{r:(τF×τM)}(h:jE f1=some r):zC qh 200 [.ag [Ti f1.1,Ti f1.2.1,Ti f1.2.2]] (.tc (.ag [Ti r.1.1,Ti r.1.2.1,Ti r.1.2.2]) (.tc (.ag [Ti r.2.1,Ti r.2.2.1,Ti r.2.2.2.1,Ti r.2.2.2.2]) .tn)) []:=CtT (zVm f1) (fun r=>(.tc (.ag [Ti r.1.1,Ti r.1.2.1,Ti r.1.2.2]) (.tc (.ag [Ti r.2.1,Ti r.2.2.1,Ti r.2.2.2.1,Ti r.2.2.2.2]) .tn),[])) (rs:=[.w 2 3,.w 3 4]) (vs:=[.cell 2 42,.cell 3 120]) Tryz.func200 rfl rfl (.cons ⟨rfl,wd42⟩ (.cons ⟨rfl,zFY⟩ FitsL.nil)) h
def zGJ(f1:τF):=fC zUm (jE f1) fun _=>zWK
theorem zJK:CfW qh 161:=cfW Tryz.func161
noncomputable def zTC(f1:τF):T qh (τF):=
 .op1 (zGJ f1) fun y2=>
 .ret y2.1
theorem zJp{f1:τF}{r:τF}(h:qD f1=some r):zC qh 161 [.ag [Ti f1.1,Ti f1.2.1,Ti f1.2.2]] (.ag [Ti r.1,Ti r.2.1,Ti r.2.2]) []:=CtT (zTC f1) (fun r=>(.ag [Ti r.1,Ti r.2.1,Ti r.2.2],[])) (rs:=[.w 2 3]) (vs:=[.cell 2 42]) Tryz.func161 rfl rfl (.cons ⟨rfl,wd42⟩ FitsL.nil) h
def zAk(f1:τF):=fC zJK (qD f1) fun _=>zJp
theorem zOl:CfW qh 117:=cfW Tryz.func117
noncomputable def zPY(vs1:τI)(name2:Int)(f3:τF):T qh ((Bool×τI)):=
 .pl<|.dn<|.joinC (.n0 au<|.op0 (ixA 26 vs1.2 name2) fun e4=>.op0 (ldA ct42 26 vs1.2 name2 1) fun e5=>.n0 (bld pl42 bt42)<|.n0 (eqg3 zXO)<|.seqT (.cond (((e5.1==0)&&((e5.2.1==0)&&(e5.2.2==0)))) (.opx (zH4 vs1) fun y7=>.ret (eqI ((y7.size:Int)) 8)) (.ret false)) fun b8=>.ret (e4,e5,b8)) (mb 28 1048611) [40,80000] (fun s q_1 γ=>s.pc (mb 28 1048611) [40,80000] [(20,Bo q_1.2.2)] []) fun q_1=>
 .cond q_1.2.2 (
 .ret ((false,vs1)))<|.draw 7 []<|.op1 (zAk f3) fun y10=>.n0 au<|.op0 (ixA 26 vs1.2 name2) fun e11=>.opx (stA ct42 26 vs1.2 name2 1 y10) fun g12=>
 .ret ((true,(vs1.1,g12)))
theorem zPg{vs1:τI}{name2:Int}{f3:τF}{rest:List Tr}{r:(Bool×τI)}(h:zAq vs1 name2 f3=some r):zEi qh 117 [.pt 80000 0,I name2,.ag [Ti f3.1,Ti f3.2.1,Ti f3.2.2]] [(80000,.box ((Ti vs1.1::q78 (vs1.2) [])++rest))] (Bo r.1) [] [(80000,.box ((Ti r.2.1::q78 (r.2.2) [])++rest))]:=CrT (zPY vs1 name2 f3) (fun r=>(Bo r.1,[])) (fun r=>[(80000,.box ((Ti r.2.1::q78 (r.2.2) [])++rest))]) (rs:=[.t 6]) (vs:=[.tmp 6]) Tryz.func117 rfl rfl (.cons rfl FitsL.nil) h
def zEd(vs1:τI)(name2:Int)(f3:τF):=fRt zOl (zAq vs1 name2 f3) 80000 79 (fun rest _ h=>zPg (rest:=rest) h)
theorem zRz:CfW qh 235:=cfW Tryz.func235
noncomputable def zTG(vn1:Int):T qh Bool:=
 .cond (ltI vn1 2) (
 .ret false)<|
 .loopS (fun n X_1=>zBg vn1 n X_1) 2 (mb 17 9) [] (fun s X_1 γ=>s.pc (mb 17 9) [] [(3,I X_1)] []) (fun X_1=>
 .cond (leI (w64 (X_1*X_1)) vn1) (.op0 (remF .i64 vn1 X_1) fun z7=>
 .cond (eqI (Int.tmod vn1 X_1) 0) (
 .ret (.early false))<|
 .frc (w64 (X_1+1)) fun p9=>.ret (.again p9))<|.ret (.done (()))) (mb 17 0) [] (fun s o5 γ=>s.pc (mb 17 0) [] [] []) (fun r=>r) fun o5=>
 .ret true
theorem zTb{vn1:Int}{r:Bool}(h:zBh vn1=some r):zC qh 235 [I vn1] (Bo r) []:=CtU (zTG vn1) 2 (fun r=>Bo r) Tryz.func235 rfl rfl h
def zVX(vn1:Int):=fC zRz (zBh vn1) fun _=>zTb
theorem zK0:CfW qh 201:=cfW Tryz.func201
noncomputable def zLS(p1:Int):T qh Bool:=
 .pl<|.joinC (.seqT (.cond (leI p1 10000) (.op1 (zVX p1) fun y3=>.ret y3) (.ret false)) fun b4=>.ret b4) (mb 9 4) [] (fun s q_1 γ=>s.pc (mb 9 4) [] [(2,Bo q_1)] []) fun q_1=>
 .ret q_1
theorem zL8{p1:Int}{r:Bool}(h:zD8 p1=some r):zC qh 201 [I p1] (Bo r) []:=CtU (zLS p1) 2 (fun r=>Bo r) Tryz.func201 rfl rfl h
def zMB(p1:Int):=fC zK0 (zD8 p1) fun _=>zL8
theorem zOn:CfW qh 202:=cfW Tryz.func202
noncomputable def zP1(d1:Int)(p2:Int):T qh ((τF×Bool)):=
 .loopS (fun n X_1=>zCd d1 p2 n X_1) 0 (mb 38 83) [32] (fun s X_1 γ=>s.pc (mb 38 83) [32] [(6,I X_1)] []) (fun X_1=>
 .cond (leI X_1 p2) (.op0 (remF .i64 (w64 ((w64 (X_1*X_1)) - d1)) (w64 (4*p2))) fun z7=>
 .cond (eqI (Int.tmod (w64 ((w64 (X_1*X_1)) - d1)) (w64 (4*p2))) 0) (.op0 (quoF .i64 (w64 ((w64 (X_1*X_1)) - d1)) (w64 (4*p2))) fun z9=>.n0 (bld pl42 bt42)<|
 .frc (w64 (Int.tdiv (w64 ((w64 (X_1*X_1)) - d1)) (w64 (4*p2)))) fun f10=>.draw 5 [(4,32)]<|.op1 (zEq ((p2,X_1,f10))) fun y11=>
 .ret (.early (((p2,X_1,f10),eqI y11 1))))<|
 .frc (w64 (X_1+1)) fun b12=>.ret (.again b12))<|.ret (.done (()))) (mb 38 16) [32] (fun s o5 γ=>s.pc (mb 38 16) [32] [] []) (fun r=>r) fun o5=>
 .n0 (bld pl42 bt42)<|
 .ret (((0,0,0),false))
theorem zPi{d1:Int}{p2:Int}{r:(τF×Bool)}(h:zE4 d1 p2=some r):zC qh 202 [I d1,I p2] (.tc (.ag [Ti r.1.1,Ti r.1.2.1,Ti r.1.2.2]) (.tc (Bo r.2) .tn)) []:=CtT (zP1 d1 p2) (fun r=>(.tc (.ag [Ti r.1.1,Ti r.1.2.1,Ti r.1.2.2]) (.tc (Bo r.2) .tn),[])) (rs:=[.w 4 3,.t 5]) (vs:=[.cell 4 42,.tmp 5]) Tryz.func202 rfl rfl (.cons ⟨rfl,wd42⟩ (.cons rfl FitsL.nil)) h
def zQf(d1:Int)(p2:Int):=fC zOn (zE4 d1 p2) fun _=>zPi
theorem zOq:CfW qh 162:=cfW Tryz.func162
noncomputable def zP3(d1:Int)(p2:Int):T qh ((τF×Bool)):=
 .pl<|.dn<|.joinC (.op1 (zFv d1) fun y3=>.seqT (.cond (!y3) (.ret true) (.op1 (zMB p2) fun y5=>.ret (!y5))) fun b6=>.ret (y3,b6)) (mb 27 32787) [32] (fun s q_1 γ=>s.pc (mb 27 32787) [32] [(15,Bo q_1.2)] []) fun q_1=>
 .cond q_1.2 (.n0 (bld pl42 bt42)<|
 .ret (((0,0,0),false)))<|.op1 (zQf d1 p2) fun y8=>
 .cond (!y8.2) (.n0 (bld pl42 bt42)<|
 .ret (((0,0,0),false)))<|
 .ret ((y8.1,true))
theorem zPl{d1:Int}{p2:Int}{r:(τF×Bool)}(h:zE6 d1 p2=some r):zC qh 162 [I d1,I p2] (.tc (.ag [Ti r.1.1,Ti r.1.2.1,Ti r.1.2.2]) (.tc (Bo r.2) .tn)) []:=CtT (zP3 d1 p2) (fun r=>(.tc (.ag [Ti r.1.1,Ti r.1.2.1,Ti r.1.2.2]) (.tc (Bo r.2) .tn),[])) (rs:=[.w 4 3,.t 5]) (vs:=[.cell 4 42,.tmp 5]) Tryz.func162 rfl rfl (.cons ⟨rfl,wd42⟩ (.cons rfl FitsL.nil)) h
def zQh(d1:Int)(p2:Int):=fC zOq (zE6 d1 p2) fun _=>zPl
theorem zNW:CfW qh 118:=cfW Tryz.func118
noncomputable def zNw(d1:Int)(p2:Int):T qh ((τF×Bool)):=
 .op1 (zQh d1 p2) fun y3=>
 .cond (!y3.2) (.n0 (bld pl42 bt42)<|
 .ret (((0,0,0),false)))<|.op1 (zAk y3.1) fun y5=>
 .ret ((y5,true))
theorem zOW{d1:Int}{p2:Int}{r:(τF×Bool)}(h:zDT d1 p2=some r):zC qh 118 [I d1,I p2] (.tc (.ag [Ti r.1.1,Ti r.1.2.1,Ti r.1.2.2]) (.tc (Bo r.2) .tn)) []:=CtT (zNw d1 p2) (fun r=>(.tc (.ag [Ti r.1.1,Ti r.1.2.1,Ti r.1.2.2]) (.tc (Bo r.2) .tn),[])) (rs:=[.w 4 3,.t 5]) (vs:=[.cell 4 42,.tmp 5]) Tryz.func118 rfl rfl (.cons ⟨rfl,wd42⟩ (.cons rfl FitsL.nil)) h
def zPJ(d1:Int)(p2:Int):=fC zNW (zDT d1 p2) fun _=>zOW
theorem zNS:CfW qh 170:=cfW Tryz.func170
noncomputable def zNs(g1:τF)(a2:Int):T qh ((Int×Int)):=
 .loopS (fun n X_4=>zAh a2 g1 n X_4) 0 (mb 43 70) [16] (fun s X_4 γ=>s.pc (mb 43 70) [16] [(6,I X_4)] []) (fun X_4=>
 .loopS (fun n X_3=>zCM a2 g1 X_4 n X_3) 0 (mb 43 198) [16] (fun s X_3 γ=>s.pc (mb 43 198) [16] [(7,I X_3)] []) (fun X_3=>
 .cond (leI X_3 X_4) (
 .loopS (fun n X_2=>zBr a2 g1 X_4 X_3 n X_2) 0 (mb 43 454) [16] (fun s X_2 γ=>s.pc (mb 43 454) [16] [(8,I X_2)] []) (fun X_2=>
 .cond (leI X_2 X_4) (.pl<|.dn<|.joinC (.n0 au<|.seqT (.cond (eqI (mxI X_3 X_2) X_4) (.op1 (zJF X_3 X_2) fun y15=>.ret (eqI y15 1)) (.ret false)) fun b16=>.seqT (.cond b16 (.op1 (zFt g1 X_3 X_2) fun y18=>.op1 (zJF y18 a2) fun y19=>.ret (eqI y19 1)) (.ret false)) fun b20=>.ret (b16,b20)) (mb 43 1099511628230) [16] (fun s q_1 γ=>s.pc (mb 43 1099511628230) [16] [(40,Bo q_1.2)] []) fun q_1=>
 .cond q_1.2 (
 .ret (.early ((X_3,X_2))))<|
 .frc (w64 (X_2+1)) fun y22=>.ret (.again y22))<|.ret (.done (()))) (mb 43 198) [16] (fun s o12 γ=>s.pc (mb 43 198) [16] [] []) (.early) fun o12=>
 .frc (w64 (X_3+1)) fun x23=>.ret (.again x23))<|.ret (.done (()))) (mb 43 70) [16] (fun s o8 γ=>s.pc (mb 43 70) [16] [] []) (.early) fun o8=>
 .frc (w64 (X_4+1)) fun size24=>.ret (.again size24)) [] [] (fun _ _ _=>⟨[],[]⟩) (fun r=>r) fun _=>.fail
theorem zOS{g1:τF}{a2:Int}{r:(Int×Int)}(h:zCX g1 a2=some r):zC qh 170 [.ag [Ti g1.1,Ti g1.2.1,Ti g1.2.2],I a2] (.tc (I r.1) (.tc (I r.2) .tn)) []:=CtT (zNs g1 a2) (fun r=>(.tc (I r.1) (.tc (I r.2) .tn),[])) (rs:=[.t 4,.t 5]) (vs:=[.tmp 4,.tmp 5]) Tryz.func170 rfl rfl (.cons rfl (.cons rfl FitsL.nil)) h
def zHu(g1:τF)(a2:Int):=fC zNS (zCX g1 a2) fun _=>zOS
theorem zSA:CfW qh 236:=cfW Tryz.func236
noncomputable def zTH(a1:Int)(vm2:Int):T qh Int:=
 .op1 (zDF a1 vm2) fun y3=>
 .loop (fun n X_1=>zFb vm2 n X_1.1 X_1.2.1 X_1.2.2.1 X_1.2.2.2) ((1,0,y3,vm2)) (mb 34 482) [] (fun s X_1 γ=>s.pc (mb 34 482) [] [(5,I X_1.1),(6,I X_1.2.1),(7,I X_1.2.2.1),(8,I X_1.2.2.2)] []) (fun X_1=>
 .cond (!eqI X_1.2.2.2 0) (.op0 (quoF .i64 X_1.2.2.1 X_1.2.2.2) fun z11=>
 .frc (w64 (Int.tdiv X_1.2.2.1 X_1.2.2.2)) fun q12=>
 .frc (w64 (X_1.2.2.1 - (w64 (q12*X_1.2.2.2)))) fun vs13=>
 .frc (w64 (X_1.1 - (w64 (q12*X_1.2.1)))) fun y14=>.ret (.inl ((X_1.2.1,y14,X_1.2.2.2,vs13))))<|.ret (.inr X_1.1)) (mb 34 34) [] (fun s o9 γ=>s.pc (mb 34 34) [] [(5,I o9)] []) fun o9=>
 .op1 (zDF o9 vm2) fun y15=>
 .ret y15
theorem zTc{a1:Int}{vm2:Int}{r:Int}(h:zER a1 vm2=some r):zC qh 236 [I a1,I vm2] (I r) []:=CtU (zTH a1 vm2) 4 (fun r=>I r) Tryz.func236 rfl rfl h
def zVY(a1:Int)(vm2:Int):=fC zSA (zER a1 vm2) fun _=>zTc
theorem zJ3:CfW qh 203:=cfW Tryz.func203
noncomputable def zJe(f1:τF)(x2:Int)(y3:Int):T qh ((τF×τM)):=
 .n0 (bld zD6 zDf)<|
 .join (
 .cond (eqI y3 0) (
 .ret (0,x2))<|.op1 (zV1 y3) fun y6=>.op1 (zVY x2 y6) fun y7=>
 .op0 (quoF .i64 (w64 ((w64 (x2*y7)) - 1)) y3) fun z8=>
 .frc (w64 (Int.tdiv (w64 ((w64 (x2*y7)) - 1)) y3)) fun f9=>.ret (f9,y7)) (mb 59 462) [64,56,48,24] (fun s j4 γ=>s.pc (mb 59 462) [64,56,48,24] [] [(64,.box [Ti x2,Ti j4.1,Ti y3,Ti j4.2])]) fun j4=>
 .op1 (zDu f1 ((x2,j4.1,y3,j4.2))) fun y10=>
 .op1 (zJM y10.2.1 (w64 (2*y10.1))) fun y11=>
 .frc (w64 (0 - y11)) fun t12=>
 .frc (w64 (j4.1+(w64 (t12*x2)))) fun f13=>
 .frc (w64 (j4.2+(w64 (t12*y3)))) fun f14=>.draw 5 [(4,48)]<|.op1 (zDu f1 ((x2,f13,y3,f14))) fun y15=>
 .ret ((y15,(x2,f13,y3,f14)))
theorem zJu{f1:τF}{x2:Int}{y3:Int}{r:(τF×τM)}(h:zB6 f1 x2 y3=some r):zC qh 203 [.ag [Ti f1.1,Ti f1.2.1,Ti f1.2.2],I x2,I y3] (.tc (.ag [Ti r.1.1,Ti r.1.2.1,Ti r.1.2.2]) (.tc (.ag [Ti r.2.1,Ti r.2.2.1,Ti r.2.2.2.1,Ti r.2.2.2.2]) .tn)) []:=CtT (zJe f1 x2 y3) (fun r=>(.tc (.ag [Ti r.1.1,Ti r.1.2.1,Ti r.1.2.2]) (.tc (.ag [Ti r.2.1,Ti r.2.2.1,Ti r.2.2.2.1,Ti r.2.2.2.2]) .tn),[])) (rs:=[.w 6 3,.w 7 4]) (vs:=[.cell 6 42,.cell 7 120]) Tryz.func203 rfl rfl (.cons ⟨rfl,wd42⟩ (.cons ⟨rfl,zFY⟩ FitsL.nil)) h
def zKj(f1:τF)(x2:Int)(y3:Int):=fC zJ3 (zB6 f1 x2 y3) fun _=>zJu
theorem zWc:CfW qh 163:=cfW Tryz.func163
noncomputable def zXw(f1:τF)(g2:τF):T qh ((Int×Int×Int×Int×τM×τM)):=
 .op1 (zHu g2 f1.1) fun y3=>
 .op1 (zKj g2 y3.1 y3.2) fun y4=>
 .draw 12 []<|.op1 (zDF f1.2.1 (w64 (2*f1.1))) fun y5=>.n0 (bld z90 bt159)<|
 .loop (fun n X_1=>zDy f1 y4 n X_1) y5 (mb 103 916) [72,64,56,32,16] (fun s X_1 γ=>s.pc (mb 103 916) [72,64,56,32,16] [] [(72,.box [Ti f1.1,Ti y4.1.1,Ti X_1,Ti 0,Ti 0,Ti 0,Ti 0,Ti 0,Ti 0,Ti 0,Ti 0,Ti 0])]) (fun X_1=>
 .op1 (zDF (w64 (X_1 - y4.1.2.1)) (w64 (2*y4.1.1))) fun y9=>
 .cond (!eqI y9 0) (
 .frc (w64 (X_1+(w64 (2*f1.1)))) fun f11=>.ret (.inl f11))<|.ret (.inr X_1)) (mb 103 916) [72,64,56,32,16] (fun s o8 γ=>s.pc (mb 103 916) [72,64,56,32,16] [] [(72,.box [Ti f1.1,Ti y4.1.1,Ti o8,Ti 0,Ti 0,Ti 0,Ti 0,Ti 0,Ti 0,Ti 0,Ti 0,Ti 0])]) fun o8=>
 .op1 (zDF o8 (w64 ((w64 (2*f1.1))*y4.1.1))) fun y12=>
 .draw 16 []<|.op1 (zAr f1) fun y13=>.op0 (quoF .i64 (w64 ((w64 (y12*y12)) - y13)) (w64 ((w64 (4*f1.1))*y4.1.1))) fun z14=>
 .frc (w64 (Int.tdiv (w64 ((w64 (y12*y12)) - y13)) (w64 ((w64 (4*f1.1))*y4.1.1)))) fun f15=>.op0 (quoF .i64 (w64 (y12 - f1.2.1)) (w64 (2*f1.1))) fun z16=>.n0 (bld zD6 zDf)<|
 .frc (w64 (Int.tdiv (w64 (y12 - f1.2.1)) (w64 (2*f1.1)))) fun f17=>.draw 13 []<|.op0 (quoF .i64 (w64 (y12 - y4.1.2.1)) (w64 (2*y4.1.1))) fun z18=>.n0 (bld zD6 zDf)<|.op1 (zEp y4.2 ((1,w64 (Int.tdiv (w64 (y12 - y4.1.2.1)) (w64 (2*y4.1.1))),0,1))) fun y19=>
 .ret ((f1.1,y4.1.1,y12,f15,(1,f17,0,1),y19))
theorem zYW{f1:τF}{g2:τF}{r:(Int×Int×Int×Int×τM×τM)}(h:zDm f1 g2=some r):zC qh 163 [.ag [Ti f1.1,Ti f1.2.1,Ti f1.2.2],.ag [Ti g2.1,Ti g2.2.1,Ti g2.2.2]] (.ag [Ti r.1,Ti r.2.1,Ti r.2.2.1,Ti r.2.2.2.1,Ti r.2.2.2.2.1.1,Ti r.2.2.2.2.1.2.1,Ti r.2.2.2.2.1.2.2.1,Ti r.2.2.2.2.1.2.2.2,Ti r.2.2.2.2.2.1,Ti r.2.2.2.2.2.2.1,Ti r.2.2.2.2.2.2.2.1,Ti r.2.2.2.2.2.2.2.2]) []:=CtT (zXw f1 g2) (fun r=>(.ag [Ti r.1,Ti r.2.1,Ti r.2.2.1,Ti r.2.2.2.1,Ti r.2.2.2.2.1.1,Ti r.2.2.2.2.1.2.1,Ti r.2.2.2.2.1.2.2.1,Ti r.2.2.2.2.1.2.2.2,Ti r.2.2.2.2.2.1,Ti r.2.2.2.2.2.2.1,Ti r.2.2.2.2.2.2.2.1,Ti r.2.2.2.2.2.2.2.2],[])) (rs:=[.w 4 12]) (vs:=[.cell 4 159]) Tryz.func163 rfl rfl (.cons ⟨rfl,wd159⟩ FitsL.nil) h
def zZd(f1:τF)(g2:τF):=fC zWc (zDm f1 g2) fun _=>zYW
theorem zIJ:CfW qh 164:=cfW Tryz.func164
noncomputable def zIO(u1:(Int×Int×Int×Int×τM×τM)):T qh (τF):=
 .n0 (bld pl42 bt42)<|
 .frc (w64 (u1.1*u1.2.1)) fun f2=>.ret ((f2,u1.2.2.1,u1.2.2.2.1))
theorem zIQ{u1:(Int×Int×Int×Int×τM×τM)}{r:τF}(h:zCU u1=some r):zC qh 164 [.ag [Ti u1.1,Ti u1.2.1,Ti u1.2.2.1,Ti u1.2.2.2.1,Ti u1.2.2.2.2.1.1,Ti u1.2.2.2.2.1.2.1,Ti u1.2.2.2.2.1.2.2.1,Ti u1.2.2.2.2.1.2.2.2,Ti u1.2.2.2.2.2.1,Ti u1.2.2.2.2.2.2.1,Ti u1.2.2.2.2.2.2.2.1,Ti u1.2.2.2.2.2.2.2.2]] (.ag [Ti r.1,Ti r.2.1,Ti r.2.2]) []:=CtT (zIO u1) (fun r=>(.ag [Ti r.1,Ti r.2.1,Ti r.2.2],[])) (rs:=[.w 2 3]) (vs:=[.cell 2 42]) Tryz.func164 rfl rfl (.cons ⟨rfl,wd42⟩ FitsL.nil) h
def zI7(u1:(Int×Int×Int×Int×τM×τM)):=fC zIJ (zCU u1) fun _=>zIQ
theorem zSD:CfW qh 119:=cfW Tryz.func119
noncomputable def zTJ(f1:τF)(g2:τF):T qh (τF):=
 .draw 7 []<|.op1 (zAk f1) fun y3=>.op1 (zAk g2) fun y4=>.op1 (zZd y3 y4) fun y5=>.op1 (zI7 y5) fun y6=>.op1 (zAk y6) fun y7=>
 .ret y7
theorem zTf{f1:τF}{g2:τF}{r:τF}(h:jT f1 g2=some r):zC qh 119 [.ag [Ti f1.1,Ti f1.2.1,Ti f1.2.2],.ag [Ti g2.1,Ti g2.2.1,Ti g2.2.2]] (.ag [Ti r.1,Ti r.2.1,Ti r.2.2]) []:=CtT (zTJ f1 g2) (fun r=>(.ag [Ti r.1,Ti r.2.1,Ti r.2.2],[])) (rs:=[.w 4 3]) (vs:=[.cell 4 42]) Tryz.func119 rfl rfl (.cons ⟨rfl,wd42⟩ FitsL.nil) h
def zFs(f1:τF)(g2:τF):=fC zSD (jT f1 g2) fun _=>zTf
theorem zJ2:CfW qh 165:=cfW Tryz.func165
noncomputable def zJc(f1:τF):T qh (τF):=
 .n0 (bld pl42 bt42)<|
 .frc (w64 (0 - f1.2.1)) fun f2=>.ret ((f1.1,f2,f1.2.2))
theorem zJt{f1:τF}{r:τF}(h:zB5 f1=some r):zC qh 165 [.ag [Ti f1.1,Ti f1.2.1,Ti f1.2.2]] (.ag [Ti r.1,Ti r.2.1,Ti r.2.2]) []:=CtT (zJc f1) (fun r=>(.ag [Ti r.1,Ti r.2.1,Ti r.2.2],[])) (rs:=[.w 2 3]) (vs:=[.cell 2 42]) Tryz.func165 rfl rfl (.cons ⟨rfl,wd42⟩ FitsL.nil) h
def zKh(f1:τF):=fC zJ2 (zB5 f1) fun _=>zJt
theorem zJZ:CfW qh 166:=cfW Tryz.func166
noncomputable def zJ9(d1:Int):T qh (τF):=
 .op1 (zDF d1 2) fun y2=>
 .n0 dvN<|.n0 (bld pl42 bt42)<|
 .frc (w64 (Int.tdiv (w64 (y2 - d1)) 4)) fun f3=>.ret ((1,y2,f3))
theorem zJq{d1:Int}{r:τF}(h:zAf d1=some r):zC qh 166 [I d1] (.ag [Ti r.1,Ti r.2.1,Ti r.2.2]) []:=CtT (zJ9 d1) (fun r=>(.ag [Ti r.1,Ti r.2.1,Ti r.2.2],[])) (rs:=[.w 2 3]) (vs:=[.cell 2 42]) Tryz.func166 rfl rfl (.cons ⟨rfl,wd42⟩ FitsL.nil) h
def zGZ(d1:Int):=fC zJZ (zAf d1) fun _=>zJq
theorem zOo:CfW qh 120:=cfW Tryz.func120
noncomputable def zP2(f1:τF)(k2:Int):T qh (τF):=
 .pl<|.join (
 .cond (ltI k2 0) (.op1 (zKh f1) fun y5=>
 .frc (w64 (0 - k2)) fun k6=>.ret (k6,y5.1,y5.2.1,y5.2.2))<|.ret (k2,f1.1,f1.2.1,f1.2.2)) (mb 32 22) [32,16] (fun s j3 γ=>s.pc (mb 32 22) [32,16] [(1,I j3.1)] [(16,.box [Ti j3.2.1,Ti j3.2.2.1,Ti j3.2.2.2])]) fun j3=>
 .op1 (zAr j3.2) fun y7=>.op1 (zGZ y7) fun y8=>.op1 (zAk y8) fun y9=>
 .op1 (zAk j3.2) fun y10=>
 .loop (fun n X_1=>zB3 n X_1.1 X_1.2.1 X_1.2.2.1 X_1.2.2.2.1 X_1.2.2.2.2.1 X_1.2.2.2.2.2.1 X_1.2.2.2.2.2.2) ((j3.1,y9.1,y9.2.1,y9.2.2,y10.1,y10.2.1,y10.2.2)) (mb 32 54) [40,32,16] (fun s X_1 γ=>s.pc (mb 32 54) [40,32,16] [(1,I X_1.1)] [(40,.box [Ti X_1.2.1,Ti X_1.2.2.1,Ti X_1.2.2.2.1]),(16,.box [Ti X_1.2.2.2.2.1,Ti X_1.2.2.2.2.2.1,Ti X_1.2.2.2.2.2.2])]) (fun X_1=>
 .cond (ltI 0 X_1.1) (.pl<|.dn<|.join (.n0 dvN<|
 .cond (eqI (Int.tmod X_1.1 2) 1) (.op1 (zFs ((X_1.2.1,X_1.2.2.1,X_1.2.2.2.1)) ((X_1.2.2.2.2.1,X_1.2.2.2.2.2.1,X_1.2.2.2.2.2.2))) fun y23=>
 .ret (y23.1,y23.2.1,y23.2.2))<|.ret (X_1.2.1,X_1.2.2.1,X_1.2.2.2.1)) (mb 32 54) [40,32,16] (fun s j21 γ=>s.pc (mb 32 54) [40,32,16] [] [(40,.box [Ti j21.1,Ti j21.2.1,Ti j21.2.2])]) fun j21=>
 .op1 (zFs ((X_1.2.2.2.2.1,X_1.2.2.2.2.2.1,X_1.2.2.2.2.2.2)) ((X_1.2.2.2.2.1,X_1.2.2.2.2.2.1,X_1.2.2.2.2.2.2))) fun y24=>
 .n0 dvN<|
 .frc (w64 (Int.tdiv X_1.1 2)) fun k25=>.ret (.inl ((k25,j21.1,j21.2.1,j21.2.2,y24.1,y24.2.1,y24.2.2))))<|.ret (.inr ((X_1.2.1,X_1.2.2.1,X_1.2.2.2.1)))) (mb 32 48) [40,32] (fun s o19 γ=>s.pc (mb 32 48) [40,32] [] [(40,.box [Ti o19.1,Ti o19.2.1,Ti o19.2.2])]) fun o19=>
 .ret o19
theorem zPj{f1:τF}{k2:Int}{r:τF}(h:zCA f1 k2=some r):zC qh 120 [.ag [Ti f1.1,Ti f1.2.1,Ti f1.2.2],I k2] (.ag [Ti r.1,Ti r.2.1,Ti r.2.2]) []:=CtT (zP2 f1 k2) (fun r=>(.ag [Ti r.1,Ti r.2.1,Ti r.2.2],[])) (rs:=[.w 4 3]) (vs:=[.cell 4 42]) Tryz.func120 rfl rfl (.cons ⟨rfl,wd42⟩ FitsL.nil) h
def zQg(f1:τF)(k2:Int):=fC zOo (zCA f1 k2) fun _=>zPj
theorem zKY:CfW qh 81:=cfW Tryz.func81
noncomputable def zLQ(vs1:τI)(l2:(qf×(List Int)×τF×Int))(forms3:List τF):T qh ((Bool×Bool×τI)):=
 .cond (l2.1.toList==((⟨#[100,105,115,99]⟩:qf)).toList) (.n0 (bld pl62 bt62)<|.n0 au<|
 .op1 (zFv l2.2.2.2) fun y5=>
 .ret ((y5,true,(l2.2.2.2,(fun _=>(0,0,0))))))<|
 .cond (l2.1.toList==((⟨#[115,101,116]⟩:qf)).toList) (.join (.draw 21 []<|.op1 (zHa l2.2.2.1) fun y7=>.cond y7 (.op1 (zAr l2.2.2.1) fun y8=>.n0 au<|.cond (eqI y8 vs1.1) (.op0 (idxM ct3 l2.2.1 0) fun e9=>.opx (zEd vs1 e9 l2.2.2.1) fun y10=>.ret ((y10.1,y10.2.1,y10.2.2))) (.ret ((false,vs1.1,vs1.2)))) (.ret ((false,vs1.1,vs1.2)))) (mb 109 192) [80000] (fun s j11 γ=>s.pc (mb 109 192) [80000] [(6,Bo j11.1),(7,Bo true)] [(80000,s.pbx 80000 ((Ti j11.2.1::q78 (j11.2.2) [])++zME s 80000 79))]) fun j11=>
 .ret ((j11.1,true,j11.2)))<|
 .lt (l2.1.toList==((⟨#[112,114,105,109,101]⟩:qf)).toList) fun t12=>.cond t12 (.draw 12 [(11,64)]<|.n0 au<|.op1 (zPJ vs1.1 l2.2.2.2) fun y14=>
 .join (.draw 8 []<|.cond y14.2 (.op0 (idxM ct3 l2.2.1 0) fun e15=>.opx (zEd vs1 e15 y14.1) fun y16=>.ret ((y16.1,y16.2.1,y16.2.2))) (.ret ((false,vs1.1,vs1.2)))) (mb 109 192) [80000] (fun s j17 γ=>s.pc (mb 109 192) [80000] [(6,Bo j17.1),(7,Bo true)] [(80000,s.pbx 80000 ((Ti j17.2.1::q78 (j17.2.2) [])++zME s 80000 79))]) fun j17=>
 .ret ((j17.1,true,j17.2)))<|
 .cond (l2.1.toList==((⟨#[109,117,108]⟩:qf)).toList) (.draw 12 []<|.op0 (idxM ct3 l2.2.1 0) fun e19=>.op0 (idxM ct42 forms3 1) fun e20=>.op0 (idxM ct42 forms3 2) fun e21=>.op1 (zFs e20 e21) fun y22=>.opx (zEd vs1 e19 y22) fun y23=>
 .ret ((y23.1,true,y23.2)))<|
 .cond (l2.1.toList==((⟨#[112,111,119]⟩:qf)).toList) (.draw 11 []<|.op0 (idxM ct3 l2.2.1 0) fun e25=>.op0 (idxM ct42 forms3 1) fun e26=>.op1 (zQg e26 l2.2.2.2) fun y27=>.opx (zEd vs1 e25 y27) fun y28=>
 .ret ((y28.1,true,y28.2)))<|
 .lt (l2.1.toList==((⟨#[102,114,101,101]⟩:qf)).toList) fun t29=>.cond t29 (.draw 9 []<|.op0 (idxM ct3 l2.2.1 0) fun e31=>.n0 (bld pl42 bt42)<|.n0 au<|.op0 (ixA 26 vs1.2 e31) fun e32=>.opx (stA ct42 26 vs1.2 e31 1 ((0,0,0))) fun g33=>
 .ret ((true,true,(vs1.1,g33))))<|
 .ret ((false,false,vs1))
theorem zL6{vs1:τI}{l2:(qf×(List Int)×τF×Int)}{forms3:List τF}{rest:List Tr}{r:(Bool×Bool×τI)}(h:zH vs1 l2 forms3=some r):zEi qh 81 [.pt 80000 0,.ag [.v (.string l2.1),.sl (l2.2.1.map c3),Ti l2.2.2.1.1,Ti l2.2.2.1.2.1,Ti l2.2.2.1.2.2,Ti l2.2.2.2],.c (.sl (forms3.map c42))] [(80000,.box ((Ti vs1.1::q78 (vs1.2) [])++rest))] (.tc (Bo r.1) (.tc (Bo r.2.1) .tn)) [] [(80000,.box ((Ti r.2.2.1::q78 (r.2.2.2) [])++rest))]:=CrT (zLQ vs1 l2 forms3) (fun r=>(.tc (Bo r.1) (.tc (Bo r.2.1) .tn),[])) (fun r=>[(80000,.box ((Ti r.2.2.1::q78 (r.2.2.2) [])++rest))]) (rs:=[.t 6,.t 7]) (vs:=[.tmp 6,.tmp 7]) Tryz.func81 rfl rfl (.cons rfl (.cons rfl FitsL.nil)) h
def zLy(vs1:τI)(l2:(qf×(List Int)×τF×Int))(forms3:List τF):=fRt zKY (zH vs1 l2 forms3) 80000 79 (fun rest _ h=>zL6 (rest:=rest) h)
theorem zNT:CfW qh 239:=cfW Tryz.func239
noncomputable def zNu(d1:Int):T qh (List τF):=
 .n1 (nilN 42 3 (by decide))<|
 .n1 bsl0<|
 .loop (fun n X_2=>zB4 d1 n X_2.1 X_2.2) ((1,([]:List τF))) (mb 51 25) [56] (fun s X_2 γ=>s.pc (mb 51 25) [56] [(4,I X_2.1)] [(56,.arr 42 3 (X_2.2.map c42))]) (fun X_2=>
 .cond (leI (w64 ((w64 (3*X_2.1))*X_2.1)) (w64 (0 - d1))) (
 .frc (w64 (1 - X_2.1)) fun b7=>.loop (fun n X_1=>jZ X_2.1 d1 n X_1.1 X_1.2) ((b7,X_2.2)) (mb 51 57) [56] (fun s X_1 γ=>s.pc (mb 51 57) [56] [(5,I X_1.1)] [(56,.arr 42 3 (X_1.2.map c42))]) (fun X_1=>
 .cond (leI X_1.1 X_2.1) (.op0 (remF .i64 (w64 ((w64 (X_1.1*X_1.1)) - d1)) (w64 (4*X_2.1))) fun z13=>
 .lt (!eqI (Int.tmod (w64 ((w64 (X_1.1*X_1.1)) - d1)) (w64 (4*X_2.1))) 0) fun t14=>.cond t14 (
 .frc (w64 (X_1.1+1)) fun b16=>.ret (.inl ((b16,X_1.2))))<|.op0 (quoF .i64 (w64 ((w64 (X_1.1*X_1.1)) - d1)) (w64 (4*X_2.1))) fun z17=>.n0 (bld pl42 bt42)<|
 .frc (w64 (Int.tdiv (w64 ((w64 (X_1.1*X_1.1)) - d1)) (w64 (4*X_2.1)))) fun f18=>.op1 (zDG ((X_2.1,X_1.1,f18))) fun y19=>
 .cond y19 (.n1 bsl<|.opx (app ct42 X_1.2 ([(X_2.1,X_1.1,f18)])) fun u21=>
 .frc (w64 (X_1.1+1)) fun b22=>.ret (.inl ((b22,X_1.2++([(X_2.1,X_1.1,f18)])))))<|
 .frc (w64 (X_1.1+1)) fun b23=>.ret (.inl ((b23,X_1.2))))<|.ret (.inr X_1.2)) (mb 51 25) [56] (fun s o11 γ=>s.pc (mb 51 25) [56] [] [(56,.arr 42 3 (o11.map c42))]) fun o11=>
 .frc (w64 (X_2.1+1)) fun a24=>.ret (.inl ((a24,o11))))<|.ret (.inr X_2.2)) (mb 51 8) [56] (fun s o5 γ=>s.pc (mb 51 8) [56] [] [(56,.arr 42 3 (o5.map c42))]) fun o5=>
 .ret o5
theorem zOT{d1:Int}{r:List τF}(h:zEG d1=some r):zC qh 239 [I d1] (.ow 0) [(0,.arr 42 3 (r.map c42))]:=CtT (zNu d1) (fun r=>(.ow 0,[(0,.arr 42 3 (r.map c42))])) (rs:=[.t 2]) (vs:=[.tmp 2]) Tryz.func239 rfl rfl (.cons rfl FitsL.nil) h
def zPI(d1:Int):=fC zNT (zEG d1) fun _=>zOT
theorem zLo:CfW qh 238:=cfW Tryz.func238
noncomputable def zM3(forms1:List τF):T qh (List τF):=
 .n1 (nilN 42 3 (by decide))<|
 .n1 bsl0<|
 .n0 (lenM ct42 forms1)<|
 .loop (fun n X_1=>zBG forms1 n X_1.1 X_1.2) ((0,([]:List τF))) (mb 22 904) [48] (fun s X_1 γ=>s.pc (mb 22 904) [48] [(9,I X_1.1)] [(48,.arr 42 3 (X_1.2.map c42))]) (fun X_1=>
 .cond (ltI X_1.1 ((forms1.length:Int))) (.op0 (idxM ct42 forms1 X_1.1) fun e7=>
 .op1 (zEq e7) fun y8=>
 .cond (eqI y8 1) (.n1 bsl<|.opx (app ct42 X_1.2 ([e7])) fun u10=>
 .frc (w64 (X_1.1+1)) fun t11=>.ret (.inl ((t11,X_1.2++([e7])))))<|
 .frc (w64 (X_1.1+1)) fun t12=>.ret (.inl ((t12,X_1.2))))<|.ret (.inr X_1.2)) (mb 22 8) [48] (fun s o5 γ=>s.pc (mb 22 8) [48] [] [(48,.arr 42 3 (o5.map c42))]) fun o5=>
 .ret o5
theorem zMp{forms1:List τF}{r:List τF}(h:zDn forms1=some r):zC qh 238 [.c (.sl (forms1.map c42))] (.ow 0) [(0,.arr 42 3 (r.map c42))]:=CtT (zM3 forms1) (fun r=>(.ow 0,[(0,.arr 42 3 (r.map c42))])) (rs:=[.t 2]) (vs:=[.tmp 2]) Tryz.func238 rfl rfl (.cons rfl FitsL.nil) h
def zN6(forms1:List τF):=fCs zLo (zDn forms1) (fun _=>zMp) fun _=>(z2N (fun _=>rfl) rfl)
theorem zKZ:CfW qh 205:=cfW Tryz.func205
noncomputable def zLR(d1:Int):T qh (List τF):=
 .n1 (nilN 42 3 (by decide))<|
 .op1 (zPI d1) fun y2=>.op1 (zN6 y2) fun y3=>
 .ret y3
theorem zL7{d1:Int}{r:List τF}(h:zCc d1=some r):zC qh 205 [I d1] (.ow 0) [(0,.arr 42 3 (r.map c42))]:=CtT (zLR d1) (fun r=>(.ow 0,[(0,.arr 42 3 (r.map c42))])) (rs:=[.t 2]) (vs:=[.tmp 2]) Tryz.func205 rfl rfl (.cons rfl FitsL.nil) h
theorem zSB:∀args w,(callFunc 167 args).run qh w=.ok (.enter 167 args) w:=qW Tryz.func167 kk kk
set_option maxRecDepth 100000 in
set_option maxHeartbeats 400000 in
theorem zTd{d1:Int}{r:((List τF)×(List (τF×Int)))}(h:zFc d1=some r):zC qh 167 [I d1] (.pe [.sl (r.1.map c42),.mp (r.2.map zEt)]) []:=by
  refine zAl (rs:=[.t 2]) (vs:=[.tmp 2]) Tryz.func167 rfl rfl (.cons rfl FitsL.nil) (by decide) 29 rfl ?_
  unfold zFc at h;show V _ _ ⟨I d1::bt 28 [],[]⟩ _;refine jI (mb 29 1) [] (s1:=⟨I d1::bt 28 [],[]⟩) ?_ ?_
  ·refine L0 rfl rfl (zG (.c (.v (.pointer none))) rfl kk) ?_
   refine zJ ?_
   kernel_rfl
  obtain⟨y2,hy2,h⟩:=zT h;refine z3z (fun mb8=>⟨bt 3 (.pt 80 0::bt 25 []),[(80,.box [.sl (y2.map c42),.v (.map (some mb8))]),(64,.mp mb8 ((([]:List (τF×Int))).map zEt))]⟩) (mb 29 8) [80,64] ?_ ?_
  ·refine L0 rfl rfl (zK (I d1) rfl kk) ?_
   refine L1 rfl rfl (zC2 (zL7 hy2) zKZ rfl kk) ?_
   refine z1I rfl rfl rfl fun mb8=>?_
   refine zX6 56 (T:=42) (sz:=3) (els:=y2.map c42) (s1:=⟨I d1::bt 5 (I d1::.c (.sl (y2.map c42))::.c (.v (.map (some mb8)))::bt 20 []),[(64,.mp mb8 ((([]:List (τF×Int))).map zEt))]⟩) kk kk ?_
   refine L0 rfl rfl (zH3 (cs:=[.sl (y2.map c42),.v (.map (some mb8))]) z9Z bt164 rfl rfl kk) ?_
   refine L1 rfl rfl (zUw (cs:=[.sl (y2.map c42),.v (.map (some mb8))]) rfl kk) ?_
   refine L0 rfl rfl (zG (.pt 80 0) rfl kk) ?_
   refine zJ ?_
   exact⟨mb8,by kernel_rfl⟩
  intro mb8;refine zD7 ?_
  refine jI (mb 29 114696) [80,64] (s1:=⟨bt 3 (.pt 80 0::bt 10 (.c (.sl (y2.map c42))::I ((y2.length:Int))::I 0::bt 12 [])),[(80,.box [.sl (y2.map c42),.v (.map (some mb8))]),(64,.mp mb8 ((([]:List (τF×Int))).map zEt))]⟩) ?_ ?_
  ·refine L0 rfl rfl (zK (.pt 80 0) rfl kk) ?_
   refine L0 rfl rfl (z4E (.pt 80 0) rfl kk (by intro hh;cases hh)) ?_
   refine L0 rfl rfl (zA8 (.pt 80 0) Tryz.underlying164 rfl sz22 rfl kk (by intro hh;cases hh)) ?_
   refine L0 rfl rfl (zAG (c:=.sl (y2.map c42)) (cs:=[.v (.map (some mb8))]) sc22 rfl kk) ?_
   refine L0 rfl rfl (zLH (c:=c42) (xs:=y2) Tryz.underlying22 rfl kk) ?_
   refine L0 rfl rfl (zK (I 0) rfl kk) ?_
   refine zJ ?_
   kernel_rfl
  obtain⟨o6,hLo6,h⟩:=zT h;refine z9c (mb 29 8) [80,64] (s1:=⟨bt 3 (.pt 80 0::bt 25 []),[(80,.box [.sl (y2.map c42),.v (.map (some mb8))]),(64,.mp mb8 (o6.map zEt))]⟩) ?_ ?_
  ·clear h;refine zEc (zVB (fun n s=>∃(t3:Int) (l4:List (τF×Int)),s.keep (mb 29 114696) [80,64]=(⟨bt 3 (.pt 80 0::bt 10 (.c (.sl (y2.map c42))::I ((y2.length:Int))::I t3::bt 12 [])),[(80,.box [.sl (y2.map c42),.v (.map (some mb8))]),(64,.mp mb8 (l4.map zEt))]⟩:St)∧zBi y2 n t3 l4=some o6) FU ⟨_,_,by rfl,hLo6⟩ ?_);clear hLo6;rintro n s ⟨t3,l4,hs,h⟩;refine zZ2 _ _ hs ?_
   clear hs;cases n with
   |zero=>cases h
   |succ n=>
    rw[zBi]at h;refine jI (mb 29 245768) [80,64] (s1:=⟨bt 3 (.pt 80 0::bt 10 (.c (.sl (y2.map c42))::I ((y2.length:Int))::I t3::Bo (ltI t3 ((y2.length:Int)))::bt 11 [])),[(80,.box [.sl (y2.map c42),.v (.map (some mb8))]),(64,.mp mb8 (l4.map zEt))]⟩) ?_ ?_
    ·refine L0 rfl rfl (zH2 (k:=.i64) (a:=t3) (b:=(y2.length:Int)) rfl kk kk) ?_
     refine zJ ?_
     kernel_rfl
    refine zD7 ?_
    refine zD4 rfl (fun hc7=>?_) (fun hc7=>?_)
    ·have h:=zCZ h hc7;refine zEl ?_
     show V _ _ _ _;refine zD7 ?_
     refine zEc ?_
     obtain⟨e8,he8,h⟩:=zT h;refine jI (mb 29 114744) [40,80,64] (s1:=⟨bt 3 (.pt 80 0::I t3::.pt 40 0::bt 8 (.c (.sl (y2.map c42))::I ((y2.length:Int))::I t3::bt 12 [])),[(40,.box [Ti e8.1,Ti e8.2.1,Ti e8.2.2]),(80,.box [.sl (y2.map c42),.v (.map (some mb8))]),(64,.mp mb8 (l4.map zEt))]⟩) ?_ ?_
     ·refine L0 rfl rfl (zK (I t3) rfl kk) ?_
      refine L0 rfl rfl (zSf (c:=c42) (xs:=y2) (v:=e8) (n:=t3) Tryz.underlying22 sz42 rfl kk kk he8) ?_
      refine L0 rfl rfl (zHs (cs:=[Ti e8.1,Ti e8.2.1,Ti e8.2.2]) [Ti e8.1,Ti e8.2.1,Ti e8.2.2] wd42 rfl kk (Nat.le_of_ble_eq_true rfl) kk) ?_
      refine L1 rfl rfl (zOu (z:=zv42) rfl zf42 rfl) ?_
      refine L0 rfl rfl (zG (I t3) rfl kk) ?_
      refine zW rfl (zFp (id:=40) (off:=0) (cs:=[Ti 0,Ti 0,Ti 0]) (vc:=[Ti e8.1,Ti e8.2.1,Ti e8.2.2]) [Ti e8.1,Ti e8.2.1,Ti e8.2.2] rfl rfl kk kk kk sz42 (Nat.le_of_ble_eq_true rfl) kk) ?_
      refine zJ ?_
      kernel_rfl
     refine z7e [0,1,3,7,0,0,63] 6 [[.z,.z,.z,.z,.b,.b],[.a,.z,.z,.z,.b,.b],[.a,.a,.z,.z,.b,.b],[.a,.a,.a,.z,.b,.b],[.b,.b,.b,.b,.z,.b],[.b,.b,.b,.b,.b,.z]] (mb 29 114696) [80,64] (s1:=⟨bt 3 (.pt 80 0::bt 10 (.c (.sl (y2.map c42))::I ((y2.length:Int))::I t3::bt 12 [])),[(80,.box [.sl (y2.map c42),.v (.map (some mb8))]),(64,.mp mb8 ((mPut e8 t3 l4).map zEt))]⟩) kk kk ?_ ?_
     ·refine DE_0 0 (.pt 80 0) kk rfl rfl rfl (jM rfl) kk (zK (.pt 80 0) rfl kk) 21 rfl ?_
      refine DE_0 1 (.pt 80 0) kk rfl rfl rfl (jM rfl) kk (z4E (.pt 80 0) rfl kk (by intro hh;cases hh)) 22 rfl ?_
      refine DE_0 2 (.pt 80 1) kk rfl rfl rfl (jM rfl) kk (zA8 (.pt 80 1) Tryz.underlying164 rfl z9T rfl kk (by intro hh;cases hh)) 23 rfl ?_
      refine DE_0 3 (.c (.v (.map (some mb8)))) kk rfl rfl rfl (jM rfl) kk (zAG (c:=.v (.map (some mb8))) (cs:=[]) z9X rfl kk) 24 rfl ?_
      refine DE_0 4 (.ag [Ti e8.1,Ti e8.2.1,Ti e8.2.2]) kk rfl rfl rfl (jM rfl) kk (zHs (cs:=[Ti e8.1,Ti e8.2.1,Ti e8.2.2]) [Ti e8.1,Ti e8.2.1,Ti e8.2.2] wd42 rfl kk (Nat.le_of_ble_eq_true rfl) kk) 25 rfl ?_
      refine DE_0 5 (I t3) kk rfl rfl rfl (jM rfl) kk (zK (I t3) rfl kk) 26 rfl ?_
      refine zZ4 kk ?_
      refine zW rfl (zFK (κ:=τF) (ν:=Int) (ek:=zXP) (ev:=z3h) (z:=0) (m:=l4) (a:=e8) (u:=t3) (id:=64) (b:=mb8) z94 (.inl rfl) rfl kk kk kk kk) ?_
      refine zJ ?_
      kernel_rfl
     show V _ _ _ _;obtain⟨t9,ht9,h⟩:=zQo h;refine z1K (mb 29 114696) [80,64] (s1:=⟨bt 3 (.pt 80 0::bt 10 (.c (.sl (y2.map c42))::I ((y2.length:Int))::I t9::bt 12 [])),[(80,.box [.sl (y2.map c42),.v (.map (some mb8))]),(64,.mp mb8 ((mPut e8 t3 l4).map zEt))]⟩) ?_ ?_
     ·refine L0 rfl rfl (zFn (a:=t3) (b:=1) rfl kk kk) ?_
      refine L0 rfl rfl (zK (I (w64 (t3+1))) rfl kk) ?_
      refine zJ ?_
      subst ht9
      kernel_rfl
     exact⟨n,Nat.lt_succ_self n,_,_,by rfl,h⟩
    ·have h:=zB7 h hc7;refine zVC ?_
     obtain rfl:=zZ h;show St.keep _ _ _=_;rfl
  show V _ _ _ _;refine jI (mb 29 4) [80,64] (s1:=⟨.bot::.bot::.pt 80 0::bt 26 [],[(80,.box [.sl (y2.map c42),.v (.map (some mb8))]),(64,.mp mb8 (o6.map zEt))]⟩) ?_ ?_
  ·refine L0 rfl rfl (zK (.pt 80 0) rfl kk) ?_
   refine L0 rfl rfl (zG (.pt 80 0) rfl kk) ?_
   refine zJ ?_
   kernel_rfl
  refine z4p 64 80 1 (b:=mb8) (kvs:=o6.map zEt) (cs:=[.sl (y2.map c42),.v (.map (some mb8))]) (s1:=⟨.bot::.bot::.pt 80 0::bt 26 [],[(80,.box [.sl (y2.map c42),.mp (o6.map zEt)])]⟩) kk kk kk kk ?_
  refine z4q 80 (cs:=[.sl (y2.map c42),.mp (o6.map zEt)]) (s1:=⟨.bot::.bot::.pe [.sl (y2.map c42),.mp (o6.map zEt)]::bt 26 [],[]⟩) kk kk ?_
  refine zEh ?_
  obtain rfl:=zZ h;show Post _ _ _ _ _;exact⟨.inr rfl,rfl,rfl,rfl⟩
theorem zNZ:∀args w,(callFunc 122 args).run qh w=.ok (.enter 122 args) w:=qW Tryz.func122 kk kk
set_option maxRecDepth 100000 in
set_option maxHeartbeats 400000 in
theorem zOZ{f1:τF}{r:(Int×Bool)}(h:zCY f1=some r):zC qh 122 [.ag [Ti f1.1,Ti f1.2.1,Ti f1.2.2]] (.tc (I r.1) (.tc (Bo r.2) .tn)) []:=by
  refine zAl (rs:=[.t 2,.t 3]) (vs:=[.tmp 2,.tmp 3]) Tryz.func122 rfl rfl (.cons rfl (.cons rfl FitsL.nil)) (by decide) 16 rfl ?_
  unfold zCY at h;show V _ _ ⟨.ag [Ti f1.1,Ti f1.2.1,Ti f1.2.2]::bt 15 [],[]⟩ _;refine jI (mb 16 2) [8] (s1:=⟨.bot::.pt 8 0::bt 14 [],[(8,.box [Ti f1.1,Ti f1.2.1,Ti f1.2.2])]⟩) ?_ ?_
  ·refine L1 rfl rfl (zUw (cs:=[Ti f1.1,Ti f1.2.1,Ti f1.2.2]) rfl kk) ?_
   refine L0 rfl rfl (zG (I 0) rfl kk) ?_
   refine L0 rfl rfl (zG (Bo false) rfl kk) ?_
   refine zJ ?_
   kernel_rfl
  refine zD7 ?_
  obtain⟨y2,hy2,h⟩:=zT h;refine jI (mb 16 66) [8] (s1:=⟨.bot::.pt 8 0::bt 4 (Bo (!y2)::bt 9 []),[(8,.box [Ti f1.1,Ti f1.2.1,Ti f1.2.2])]⟩) ?_ ?_
  ·refine L0 rfl rfl (zHs (cs:=[Ti f1.1,Ti f1.2.1,Ti f1.2.2]) [Ti f1.1,Ti f1.2.1,Ti f1.2.2] wd42 rfl kk (Nat.le_of_ble_eq_true rfl) kk) ?_
   refine L1 rfl rfl (zC2 (zHO hy2) zGl rfl kk) ?_
   refine L0 rfl rfl (zQ7 (b:=y2) rfl kk) ?_
   refine zJ ?_
   kernel_rfl
  refine zD4 rfl (fun hc3=>?_) (fun hc3=>?_)
  ·have h:=zCZ h hc3;refine jI (mb 16 12) [] (s1:=⟨.bot::.bot::I 0::Bo false::bt 12 [],[]⟩) ?_ ?_
   ·refine L0 rfl rfl (zG (I 0) rfl kk) ?_
    refine L0 rfl rfl (zG (Bo false) rfl kk) ?_
    refine zJ ?_
    kernel_rfl
   refine zEh ?_
   obtain rfl:=zZ h;show Post _ _ _ _ _;exact⟨.inr rfl,rfl,rfl,rfl⟩
  ·have h:=zB7 h hc3;refine zEl ?_
   show V _ _ _ _;obtain⟨y4,hy4,h⟩:=zT h;obtain⟨y5,hy5,h⟩:=zT h;obtain⟨y6,hy6,h⟩:=zT h;obtain⟨t7,ht7,h⟩:=zQo h;refine z4A [0,1,3,7,15,31,0,71,255,511,1023] 8 [[.z,.z,.z,.z,.z,.z,.b,.z],[.a,.z,.z,.z,.z,.z,.b,.z],[.a,.a,.z,.z,.z,.z,.b,.z],[.a,.a,.a,.z,.z,.z,.b,.b],[.a,.a,.a,.a,.z,.z,.b,.b],[.a,.a,.a,.a,.a,.z,.b,.b],[.b,.b,.b,.b,.b,.b,.z,.z],[.a,.a,.a,.b,.b,.b,.a,.z]] (mb 16 12) [] (s1:=⟨.bot::.bot::I t7::Bo true::bt 12 [],[]⟩) kk kk ?_ ?_
   ·refine DE_0 0 (.ag [Ti f1.1,Ti f1.2.1,Ti f1.2.2]) kk rfl rfl rfl (jM rfl) kk (zHs (cs:=[Ti f1.1,Ti f1.2.1,Ti f1.2.2]) [Ti f1.1,Ti f1.2.1,Ti f1.2.2] wd42 rfl kk (Nat.le_of_ble_eq_true rfl) kk) 7 rfl ?_
    refine DE_1 1 kk rfl rfl rfl (jM rfl) (zC2 (zIS hy4) zHo rfl kk) rfl rfl rfl 8 rfl ?_
    refine DE_1 2 kk rfl rfl rfl (jM rfl) (zC2 (zTd hy5) zSB rfl kk) rfl rfl rfl 9 rfl ?_
    refine DE_0 3 (.pe [.sl (y5.1.map c42),.mp (y5.2.map zEt)]) kk rfl rfl rfl (jM rfl) kk (z4E (.pe [.sl (y5.1.map c42),.mp (y5.2.map zEt)]) rfl kk (by intro hh;cases hh)) 10 rfl ?_
    refine DE_0 4 (.pe [.mp (y5.2.map zEt)]) kk rfl rfl rfl (jM rfl) kk (zA8 (.pe [.mp (y5.2.map zEt)]) Tryz.underlying164 rfl z9T rfl kk (by intro hh;cases hh)) 11 rfl ?_
    refine DE_0 5 (.c (.mp (y5.2.map zEt))) kk rfl rfl rfl (jM rfl) kk (zAG (c:=.mp (y5.2.map zEt)) (cs:=[]) z9X rfl kk) 12 rfl ?_
    refine DE_0 6 (.ag [Ti f1.1,Ti f1.2.1,Ti f1.2.2]) kk rfl rfl rfl (jM rfl) kk (zHs (cs:=[Ti f1.1,Ti f1.2.1,Ti f1.2.2]) [Ti f1.1,Ti f1.2.1,Ti f1.2.2] wd42 rfl kk (Nat.le_of_ble_eq_true rfl) kk) 13 rfl ?_
    refine DE_1 7 kk rfl rfl rfl (jM rfl) (zC2 (zJp hy6) zJK rfl kk) rfl rfl rfl 14 rfl ?_
    refine zZ4 kk ?_
    refine L0 rfl rfl (z7W (κ:=τF) (ν:=Int) (ek:=zXP) (ev:=z3h) (z:=0) (m:=y5.2) (a:=y6) z94 rfl kk kk) ?_
    refine L0 rfl rfl (zG (I (mAt y6 y5.2 0)) rfl kk) ?_
    refine L0 rfl rfl (zG (Bo true) rfl kk) ?_
    refine zJ ?_
    subst ht7
    kernel_rfl
   refine zEh ?_
   obtain rfl:=zZ h;show Post _ _ _ _ _;exact⟨.inr rfl,rfl,rfl,rfl⟩
def zPM(f1:τF):=fC zNZ (zCY f1) fun _=>zOZ
theorem zNP:CfW qh 169:=cfW Tryz.func169
noncomputable def zNq(f1:τF):T qh Bool:=
 .draw 8 []<|.op1 (zAk f1) fun y2=>.op1 (zAr f1) fun y3=>.op1 (zGZ y3) fun y4=>.op1 (zAk y4) fun y5=>.n0 (eqg3 zXO)<|
 .lt (((y2.1==y5.1)&&((y2.2.1==y5.2.1)&&(y2.2.2==y5.2.2)))) fun t6=>.ret t6
theorem zOP{f1:τF}{r:Bool}(h:zCW f1=some r):zC qh 169 [.ag [Ti f1.1,Ti f1.2.1,Ti f1.2.2]] (Bo r) []:=CtU (zNq f1) 2 (fun r=>Bo r) Tryz.func169 rfl rfl h
def zPG(f1:τF):=fC zNP (zCW f1) fun _=>zOP
theorem zRw:CfW qh 124:=cfW Tryz.func124
noncomputable def zTD(f1:τF):T qh Int:=
 .op1 (zAk f1) fun y2=>
 .loop (fun n X_1=>zCV f1 n X_1.1 X_1.2.1 X_1.2.2.1 X_1.2.2.2) ((1,y2.1,y2.2.1,y2.2.2)) (mb 17 26) [32,8] (fun s X_1 γ=>s.pc (mb 17 26) [32,8] [(3,I X_1.1)] [(32,.box [Ti X_1.2.1,Ti X_1.2.2.1,Ti X_1.2.2.2])]) (fun X_1=>
 .op1 (zPG ((X_1.2.1,X_1.2.2.1,X_1.2.2.2))) fun y9=>
 .cond (!y9) (
 .frc (w64 (X_1.1+1)) fun k11=>
 .op1 (zFs ((X_1.2.1,X_1.2.2.1,X_1.2.2.2)) f1) fun y12=>
 .ret (.inl ((k11,y12.1,y12.2.1,y12.2.2))))<|.ret (.inr X_1.1)) (mb 17 8) [] (fun s o8 γ=>s.pc (mb 17 8) [] [(3,I o8)] []) fun o8=>
 .ret o8
theorem zT8{f1:τF}{r:Int}(h:zEQ f1=some r):zC qh 124 [.ag [Ti f1.1,Ti f1.2.1,Ti f1.2.2]] (I r) []:=CtU (zTD f1) 2 (fun r=>I r) Tryz.func124 rfl rfl h
def zVT(f1:τF):=fC zRw (zEQ f1) fun _=>zT8
theorem zSC:CfW qh 267:=cfW Tryz.func267
noncomputable def zTI(vn1:Int):T qh (List Int):=
 .n1 (nilN 3 1 (by decide))<|
 .n1 bsl0<|
 .loop (fun n X_2=>zFd n X_2.1 X_2.2.1 X_2.2.2) ((vn1,2,([]:List Int))) (mb 31 25) [40] (fun s X_2 γ=>s.pc (mb 31 25) [40] [(0,I X_2.1),(4,I X_2.2.1)] [(40,.arr 3 1 (X_2.2.2.map c3))]) (fun X_2=>
 .cond (leI (w64 (X_2.2.1*X_2.2.1)) X_2.1) (.loop (fun n X_1=>zFG X_2.2.1 n X_1.1 X_1.2) ((X_2.1,X_2.2.2)) (mb 31 25) [40] (fun s X_1 γ=>s.pc (mb 31 25) [40] [(0,I X_1.1)] [(40,.arr 3 1 (X_1.2.map c3))]) (fun X_1=>
 .op0 (remF .i64 X_1.1 X_2.2.1) fun z12=>
 .cond (eqI (Int.tmod X_1.1 X_2.2.1) 0) (.n1 bsl<|.opx (app ct3 X_1.2 ([X_2.2.1])) fun u14=>
 .op0 (quoF .i64 X_1.1 X_2.2.1) fun z15=>
 .frc (w64 (Int.tdiv X_1.1 X_2.2.1)) fun vn16=>.ret (.inl ((vn16,X_1.2++([X_2.2.1])))))<|.ret (.inr ((X_1.1,X_1.2)))) (mb 31 25) [40] (fun s o11 γ=>s.pc (mb 31 25) [40] [(0,I o11.1)] [(40,.arr 3 1 (o11.2.map c3))]) fun o11=>
 .frc (w64 (X_2.2.1+1)) fun p17=>.ret (.inl ((o11.1,p17,o11.2))))<|.ret (.inr ((X_2.1,X_2.2.2)))) (mb 31 9) [40] (fun s o6 γ=>s.pc (mb 31 9) [40] [(0,I o6.1)] [(40,.arr 3 1 (o6.2.map c3))]) fun o6=>
 .cond (ltI 1 o6.1) (.n1 bsl<|.opx (app ct3 o6.2 ([o6.1])) fun u19=>
 .ret (o6.2++([o6.1])))<|
 .ret o6.2
theorem zTe{vn1:Int}{r:List Int}(h:zHR vn1=some r):zC qh 267 [I vn1] (.ow 0) [(0,.arr 3 1 (r.map c3))]:=CtT (zTI vn1) (fun r=>(.ow 0,[(0,.arr 3 1 (r.map c3))])) (rs:=[.t 2]) (vs:=[.tmp 2]) Tryz.func267 rfl rfl (.cons rfl FitsL.nil) h
def zVZ(vn1:Int):=fC zSC (zHR vn1) fun _=>zTe
theorem zQV:CfW qh 244:=cfW Tryz.func244
noncomputable def zRO(vn1:Int):T qh (List Int):=
 .n1 (nilN 3 1 (by decide))<|
 .n1 bsl0<|
 .op1 (zVZ vn1) fun y2=>.n0 (lenM ct3 y2)<|
 .loop (fun n X_2=>zDo y2 n X_2.1 X_2.2) ((0,([]:List Int))) (mb 33 1800) [64,48] (fun s X_2 γ=>s.pc (mb 33 1800) [64,48] [(10,I X_2.1)] [(48,.arr 3 1 (X_2.2.map c3))]) (fun X_2=>
 .cond (ltI X_2.1 ((y2.length:Int))) (.op0 (zBF ct3 y2 X_2.1) fun e8=>.op0 (ldo ct3 y2 X_2.1) fun e9=>
 .joinC (.n0 (lenM ct3 X_2.2)<|.seqT (.cond (eqI ((X_2.2.length:Int)) 0) (.ret true) (.n0 (lenM ct3 X_2.2)<|.op0 (zBF ct3 X_2.2 (w64 (((X_2.2.length:Int)) - 1))) fun e11=>.op0 (ldo ct3 X_2.2 (w64 (((X_2.2.length:Int)) - 1))) fun e12=>.ret (!eqI e12 e9))) fun b13=>.ret b13) (mb 33 67110696) [64,48] (fun s q_1 γ=>s.pc (mb 33 67110696) [64,48] [(26,Bo q_1)] []) fun q_1=>
 .cond q_1 (.n1 bsl<|.opx (app ct3 X_2.2 ([e9])) fun u15=>
 .frc (w64 (X_2.1+1)) fun t16=>.ret (.inl ((t16,X_2.2++([e9])))))<|
 .frc (w64 (X_2.1+1)) fun t17=>.ret (.inl ((t17,X_2.2))))<|.ret (.inr X_2.2)) (mb 33 8) [48] (fun s o6 γ=>s.pc (mb 33 8) [48] [] [(48,.arr 3 1 (o6.map c3))]) fun o6=>
 .ret o6
theorem zR8{vn1:Int}{r:List Int}(h:zG9 vn1=some r):zC qh 244 [I vn1] (.ow 0) [(0,.arr 3 1 (r.map c3))]:=CtT (zRO vn1) (fun r=>(.ow 0,[(0,.arr 3 1 (r.map c3))])) (rs:=[.t 2]) (vs:=[.tmp 2]) Tryz.func244 rfl rfl (.cons rfl FitsL.nil) h
def zST(vn1:Int):=fC zQV (zG9 vn1) fun _=>zR8
theorem zQ0:CfW qh 207:=cfW Tryz.func207
noncomputable def zRS(d1:Int):T qh (List (Int×Int)):=
 .n1 (nilN 181 2 (by decide))<|
 .n1 bsl0<|
 .op1 (zST (w64 (0 - d1))) fun y2=>.n0 (lenM ct3 y2)<|
 .loop (fun n X_1=>zDp d1 y2 n X_1.1 X_1.2) ((0,([]:List (Int×Int)))) (mb 67 57353) [104,80] (fun s X_1 γ=>s.pc (mb 67 57353) [104,80] [(15,I X_1.1)] [(80,.arr 181 2 (X_1.2.map c181))]) (fun X_1=>
 .cond (ltI X_1.1 ((y2.length:Int))) (.op0 (zBF ct3 y2 X_1.1) fun e8=>.op0 (ldo ct3 y2 X_1.1) fun e9=>
 .cond (ltI 2 e9) (.n0 (bld zKD zMJ)<|.n1 bsl<|.opx (app zGk X_1.2 ([(1,e9)])) fun u11=>
 .frc (w64 (X_1.1+1)) fun t12=>.ret (.inl ((t12,X_1.2++([(1,e9)])))))<|
 .frc (w64 (X_1.1+1)) fun t13=>.ret (.inl ((t13,X_1.2))))<|.ret (.inr X_1.2)) (mb 67 9) [80] (fun s o6 γ=>s.pc (mb 67 9) [80] [] [(80,.arr 181 2 (o6.map c181))]) fun o6=>
 .n0 dvN<|
 .cond (!eqI (Int.tmod d1 2) 0) (
 .ret o6)<|.n0 (bld zKD zMJ)<|.n0 (bld zKD zMJ)<|.n0 (bld zKD zMJ)<|
 .n0 dvN<|
 .frc (w64 (Int.tdiv (w64 (0 - d1)) 4)) fun vn15=>.n0 dvN<|
 .frc (Int.tmod vn15 8) fun t16=>.join (
 .cond (eqI t16 1) (.ret (eqI t16 1))<|
 .cond (eqI t16 5) (.ret (eqI t16 5))<|
 .ret (eqI t16 4)) (mb 67 824633721288) [64,56,48,80] (fun s j17 γ=>s.pc (mb 67 824633721288) [64,56,48,80] [(39,Bo j17)] []) fun j17=>
 .cond j17 (.n1 bsl<|.opx (app zGk o6 ([(2,0)])) fun u21=>
 .ret (o6++([(2,0)])))<|
 .cond (eqI t16 2) (.n1 bsl<|.opx (app zGk o6 ([(4,0)])) fun u23=>
 .ret (o6++([(4,0)])))<|
 .cond (eqI t16 6) (.n1 bsl<|.opx (app zGk o6 ([(3,0)])) fun u25=>
 .ret (o6++([(3,0)])))<|
 .cond (eqI t16 0) (.n1 bsl<|.opx (app zGk o6 ([(2,0),(3,0)])) fun u27=>
 .ret (o6++([(2,0),(3,0)])))<|
 .ret o6
theorem zRd{d1:Int}{r:List (Int×Int)}(h:zGa d1=some r):zC qh 207 [I d1] (.ow 0) [(0,.arr 181 2 (r.map c181))]:=CtT (zRS d1) (fun r=>(.ow 0,[(0,.arr 181 2 (r.map c181))])) (rs:=[.t 2]) (vs:=[.tmp 2]) Tryz.func207 rfl rfl (.cons rfl FitsL.nil) h
def zSV(d1:Int):=fC zQ0 (zGa d1) fun _=>zRd
theorem zLm:CfW qh 246:=cfW Tryz.func246
noncomputable def zM1(vn1:Int):T qh Int:=
 .op1 (zDF vn1 8) fun y2=>
 .joinC (.selB (eqI y2 1) false [] fun w_4=>.ret w_4) (mb 12 2048) [] (fun s q_5 γ=>s.pc (mb 12 2048) [] [(11,Bo (bif q_5 then true else (eqI y2 7)))] []) fun q_5=>
 .cond (bif q_5 then true else (eqI y2 7)) (
 .ret 1)<|
 .ret (-1)
theorem zMn{vn1:Int}{r:Int}(h:zCz vn1=some r):zC qh 246 [I vn1] (I r) []:=CtU (zM1 vn1) 2 (fun r=>I r) Tryz.func246 rfl rfl h
def zFL(vn1:Int):=fC zLm (zCz vn1) fun _=>zMn
theorem zUo:CfW qh 245:=cfW Tryz.func245
noncomputable def zVo(a1:Int)(vn2:Int):T qh Int:=
 .op1 (zDF a1 vn2) fun y3=>
 .loop (fun n X_67=>zE5 n X_67.1 X_67.2.1 X_67.2.2) ((y3,vn2,1)) (mb 38 35) [] (fun s X_67 γ=>s.pc (mb 38 35) [] [(0,I X_67.1),(1,I X_67.2.1),(5,I X_67.2.2)] []) (fun X_67=>
 .cond (!eqI X_67.1 0) (.loop (fun n X_66=>zF9 X_67.2.1 n X_66.1 X_66.2) ((X_67.1,X_67.2.2)) (mb 38 35) [] (fun s X_66 γ=>s.pc (mb 38 35) [] [(0,I X_66.1),(5,I X_66.2)] []) (fun X_66=>
 .n0 dvN<|
 .cond (eqI (Int.tmod X_66.1 2) 0) (.n0 dvN<|
 .frc (w64 (Int.tdiv X_66.1 2)) fun a15=>.op1 (zFL X_67.2.1) fun y16=>
 .frc (w64 (X_66.2*y16)) fun vs17=>.ret (.inl ((a15,vs17))))<|.ret (.inr ((X_66.1,X_66.2)))) (mb 38 35) [] (fun s o13 γ=>s.pc (mb 38 35) [] [(0,I o13.1),(5,I o13.2)] []) fun o13=>
 .dn<|.joinC (.n0 dvN<|.selB (eqI (Int.tmod o13.1 4) 3) true [.z dvN] fun w_64=>.ret w_64) (mb 38 1073741859) [] (fun s q_65 γ=>s.pc (mb 38 1073741859) [] [(30,Bo (bif q_65 then (eqI (Int.tmod X_67.2.1 4) 3) else false))] []) fun q_65=>
 .lt (bif q_65 then (eqI (Int.tmod X_67.2.1 4) 3) else false) fun t19=>.cond t19 (
 .frc (w64 (0 - o13.2)) fun vs21=>
 .op0 (remF .i64 X_67.2.1 o13.1) fun z22=>
 .frc (Int.tmod X_67.2.1 o13.1) fun a23=>.ret (.inl ((a23,o13.1,vs21))))<|
 .op0 (remF .i64 X_67.2.1 o13.1) fun z24=>
 .frc (Int.tmod X_67.2.1 o13.1) fun a25=>.ret (.inl ((a25,o13.1,o13.2))))<|.ret (.inr ((X_67.2.1,X_67.2.2)))) (mb 38 34) [] (fun s o8 γ=>s.pc (mb 38 34) [] [(1,I o8.1),(5,I o8.2)] []) fun o8=>
 .cond (!eqI o8.1 1) (
 .ret 0)<|
 .ret o8.2
theorem zWM{a1:Int}{vn2:Int}{r:Int}(h:zII a1 vn2=some r):zC qh 245 [I a1,I vn2] (I r) []:=CtU (zVo a1 vn2) 4 (fun r=>I r) Tryz.func245 rfl rfl h
def zWn(a1:Int)(vn2:Int):=fC zUo (zII a1 vn2) fun _=>zWM
theorem zI3:CfW qh 208:=cfW Tryz.func208
noncomputable def zIb(x1:(Int×Int))(vn2:Int):T qh Int:=
 .cond (eqI x1.1 1) (.op1 (zWn vn2 x1.2) fun y4=>
 .ret y4)<|.n0 dvN<|
 .cond (eqI (Int.tmod vn2 2) 0) (
 .ret 0)<|.op1 (zDF vn2 4) fun y6=>
 .frc (w64 (2 - y6)) fun delta7=>
 .cond (eqI x1.1 2) (
 .ret delta7)<|
 .cond (eqI x1.1 3) (.op1 (zFL vn2) fun y10=>
 .ret y10)<|.op1 (zFL vn2) fun y11=>
 .frc (w64 (delta7*y11)) fun t12=>.ret t12
theorem zIk{x1:(Int×Int)}{vn2:Int}{r:Int}(h:zDq x1 vn2=some r):zC qh 208 [.ag [Ti x1.1,Ti x1.2],I vn2] (I r) []:=CtU (zIb x1 vn2) 4 (fun r=>I r) Tryz.func208 rfl rfl h
def zJH(x1:(Int×Int))(vn2:Int):=fC zI3 (zDq x1 vn2) fun _=>zIk
theorem zQT:CfW qh 171:=cfW Tryz.func171
noncomputable def zRN(d1:Int)(vn2:Int):T qh (List Int):=
 .n1 (nilN 3 1 (by decide))<|
 .n1 bsl0<|
 .op1 (zSV d1) fun y3=>.n0 (lenM zGk y3)<|
 .loop (fun n X_1=>zFE vn2 y3 n X_1.1 X_1.2) ((0,([]:List Int))) (mb 24 7202) [80,64] (fun s X_1 γ=>s.pc (mb 24 7202) [80,64] [(12,I X_1.1)] [(64,.arr 3 1 (X_1.2.map c3))]) (fun X_1=>
 .cond (ltI X_1.1 ((y3.length:Int))) (.op0 (zBF zGk y3 X_1.1) fun e9=>.op0 (ldo zGk y3 X_1.1) fun e10=>
 .op1 (zJH e10 vn2) fun y11=>.n1 bsl<|.opx (app ct3 X_1.2 ([y11])) fun u12=>
 .frc (w64 (X_1.1+1)) fun t13=>.ret (.inl ((t13,X_1.2++([y11])))))<|.ret (.inr X_1.2)) (mb 24 32) [64] (fun s o7 γ=>s.pc (mb 24 32) [64] [] [(64,.arr 3 1 (o7.map c3))]) fun o7=>
 .ret o7
theorem zR6{d1:Int}{vn2:Int}{r:List Int}(h:zG8 d1 vn2=some r):zC qh 171 [I d1,I vn2] (.ow 0) [(0,.arr 3 1 (r.map c3))]:=CtT (zRN d1 vn2) (fun r=>(.ow 0,[(0,.arr 3 1 (r.map c3))])) (rs:=[.t 4]) (vs:=[.tmp 4]) Tryz.func171 rfl rfl (.cons rfl FitsL.nil) h
def zSR(d1:Int)(vn2:Int):=fC zQT (zG8 d1 vn2) fun _=>zR6
theorem zLq:CfW qh 125:=cfW Tryz.func125
noncomputable def zM6(f1:τF):T qh (List Int):=
 .n1 (nilN 3 1 (by decide))<|
 .op1 (zAk f1) fun y2=>
 .op1 (zAr y2) fun y3=>
 .op1 (zHu y2 (w64 (2*y3))) fun y4=>
 .op1 (zFt y2 y4.1 y4.2) fun y5=>.op1 (zSR y3 y5) fun y6=>
 .ret y6
theorem zMr{f1:τF}{r:List Int}(h:zCB f1=some r):zC qh 125 [.ag [Ti f1.1,Ti f1.2.1,Ti f1.2.2]] (.ow 0) [(0,.arr 3 1 (r.map c3))]:=CtT (zM6 f1) (fun r=>(.ow 0,[(0,.arr 3 1 (r.map c3))])) (rs:=[.t 2]) (vs:=[.tmp 2]) Tryz.func125 rfl rfl (.cons rfl FitsL.nil) h
def zN9(f1:τF):=fC zLq (zCB f1) fun _=>zMr
theorem zRy:CfW qh 209:=cfW Tryz.func209
noncomputable def zTF(vn1:Int):T qh Bool:=
 .pl<|.joinC (.selB (leI 1 vn1) true [] fun w_2=>.ret w_2) (mb 9 4) [] (fun s q_3 γ=>s.pc (mb 9 4) [] [(2,Bo (bif q_3 then (leI vn1 10000) else false))] []) fun q_3=>
 .ret (bif q_3 then (leI vn1 10000) else false)
theorem zTa{vn1:Int}{r:Bool}(h:zFa vn1=some r):zC qh 209 [I vn1] (Bo r) []:=CtU (zTF vn1) 2 (fun r=>Bo r) Tryz.func209 rfl rfl h
def zVW(vn1:Int):=fC zRy (zFa vn1) fun _=>zTa
theorem zZQ:CfW qh 247:=cfW Tryz.func247
noncomputable def zZw(vn1:Int):T qh Int:=
 .loop (fun n X_1=>zBd vn1 n X_1.1 X_1.2) ((0,3000000000)) (mb 23 25) [] (fun s X_1 γ=>s.pc (mb 23 25) [] [(3,I X_1.1),(4,I X_1.2)] []) (fun X_1=>
 .cond (ltI X_1.1 X_1.2) (.n0 dvN<|
 .frc (w64 (Int.tdiv (w64 ((w64 (X_1.1+X_1.2))+1)) 2)) fun vm7=>
 .cond (leI (w64 (vm7*vm7)) vn1) (
 .ret (.inl ((vm7,X_1.2))))<|
 .frc (w64 (vm7 - 1)) fun high9=>.ret (.inl ((X_1.1,high9))))<|.ret (.inr X_1.1)) (mb 23 8) [] (fun s o5 γ=>s.pc (mb 23 8) [] [(3,I o5)] []) fun o5=>
 .ret o5
theorem z0M{vn1:Int}{r:Int}(h:zDg vn1=some r):zC qh 247 [I vn1] (I r) []:=CtU (zZw vn1) 2 (fun r=>I r) Tryz.func247 rfl rfl h
def zHt(vn1:Int):=fC zZQ (zDg vn1) fun _=>z0M
theorem zQX:CfW qh 248:=cfW Tryz.func248
noncomputable def zRP(vn1:Int):T qh Bool:=
 .pl<|.joinC (.seqT (.cond (leI 0 vn1) (.op1 (zHt vn1) fun y3=>.op1 (zHt vn1) fun y4=>.ret (eqI (w64 (y3*y4)) vn1)) (.ret false)) fun b5=>.ret b5) (mb 14 4) [] (fun s q_1 γ=>s.pc (mb 14 4) [] [(2,Bo q_1)] []) fun q_1=>
 .ret q_1
theorem zRa{vn1:Int}{r:Bool}(h:zC4 vn1=some r):zC qh 248 [I vn1] (Bo r) []:=CtU (zRP vn1) 2 (fun r=>Bo r) Tryz.func248 rfl rfl h
def zSU(vn1:Int):=fC zQX (zC4 vn1) fun _=>zRa
theorem zLt:CfW qh 210:=cfW Tryz.func210
noncomputable def zM9(f1:τF)(vn2:Int):T qh (List (Int×Int)):=
 .n1 (nilN 184 2 (by decide))<|
 .n1 bsl0<|
 .op1 (zAr f1) fun y3=>
 .op0 (quoF .i64 (w64 ((w64 (4*f1.2.2))*vn2)) (w64 (0 - y3))) fun z4=>.op1 (zHt (w64 (Int.tdiv (w64 ((w64 (4*f1.2.2))*vn2)) (w64 (0 - y3))))) fun y5=>
 .frc (w64 (0 - y5)) fun x6=>.loop (fun n X_2=>j0 f1 vn2 y3 y5 n X_2.1 X_2.2) ((x6,([]:List (Int×Int)))) (mb 107 486) [88,16] (fun s X_2 γ=>s.pc (mb 107 486) [88,16] [(8,I X_2.1)] [(88,.arr 184 2 (X_2.2.map c184))]) (fun X_2=>
 .cond (leI X_2.1 y5) (
 .frc (w64 ((w64 ((w64 (y3*X_2.1))*X_2.1))+(w64 ((w64 (4*f1.2.2))*vn2)))) fun square12=>.op1 (zSU square12) fun y13=>
 .cond (!y13) (
 .frc (w64 (X_2.1+1)) fun x15=>.ret (.inl ((x15,X_2.2))))<|.op1 (zHt square12) fun y16=>
 .join (.op0 (remF .i64 (w64 ((w64 ((w64 (0 - f1.2.1))*X_2.1)) - y16)) (w64 (2*f1.2.2))) fun z18=>
 .lt (eqI (Int.tmod (w64 ((w64 ((w64 (0 - f1.2.1))*X_2.1)) - y16)) (w64 (2*f1.2.2))) 0) fun t19=>.cond t19 (.op0 (quoF .i64 (w64 ((w64 ((w64 (0 - f1.2.1))*X_2.1)) - y16)) (w64 (2*f1.2.2))) fun z21=>.n0 (bld z3S z7A)<|.n1 bsl<|.opx (app zHY X_2.2 ([(X_2.1,w64 (Int.tdiv (w64 ((w64 ((w64 (0 - f1.2.1))*X_2.1)) - y16)) (w64 (2*f1.2.2))))])) fun u22=>
 .lt (X_2.2++([(X_2.1,w64 (Int.tdiv (w64 ((w64 ((w64 (0 - f1.2.1))*X_2.1)) - y16)) (w64 (2*f1.2.2))))])) fun l23=>.ret l23)<|.ret X_2.2) (mb 107 1510) [88,16] (fun s j17 γ=>s.pc (mb 107 1510) [88,16] [] [(88,.arr 184 2 (j17.map c184))]) fun j17=>
 .joinC (.seqT (.cond (ltI 0 y16) (.op0 (remF .i64 (w64 ((w64 ((w64 (0 - f1.2.1))*X_2.1))+y16)) (w64 (2*f1.2.2))) fun z25=>.ret (eqI (Int.tmod (w64 ((w64 ((w64 (0 - f1.2.1))*X_2.1))+y16)) (w64 (2*f1.2.2))) 0)) (.ret false)) fun b26=>.ret b26) (mb 107 618970019642690137449563622) [88,16] (fun s q_1 γ=>s.pc (mb 107 618970019642690137449563622) [88,16] [(89,Bo q_1)] []) fun q_1=>
 .cond q_1 (.op0 (quoF .i64 (w64 ((w64 ((w64 (0 - f1.2.1))*X_2.1))+y16)) (w64 (2*f1.2.2))) fun z28=>.n0 (bld z3S z7A)<|.n1 bsl<|.opx (app zHY j17 ([(X_2.1,w64 (Int.tdiv (w64 ((w64 ((w64 (0 - f1.2.1))*X_2.1))+y16)) (w64 (2*f1.2.2))))])) fun u29=>
 .lt (j17++([(X_2.1,w64 (Int.tdiv (w64 ((w64 ((w64 (0 - f1.2.1))*X_2.1))+y16)) (w64 (2*f1.2.2))))])) fun l30=>
 .frc (w64 (X_2.1+1)) fun x31=>.ret (.inl ((x31,l30))))<|
 .frc (w64 (X_2.1+1)) fun x32=>.ret (.inl ((x32,j17))))<|.ret (.inr X_2.2)) (mb 107 32) [88] (fun s o10 γ=>s.pc (mb 107 32) [88] [] [(88,.arr 184 2 (o10.map c184))]) fun o10=>
 .ret o10
theorem zMu{f1:τF}{vn2:Int}{r:List (Int×Int)}(h:zCE f1 vn2=some r):zC qh 210 [.ag [Ti f1.1,Ti f1.2.1,Ti f1.2.2],I vn2] (.ow 0) [(0,.arr 184 2 (r.map c184))]:=CtT (zM9 f1 vn2) (fun r=>(.ow 0,[(0,.arr 184 2 (r.map c184))])) (rs:=[.t 4]) (vs:=[.tmp 4]) Tryz.func210 rfl rfl (.cons rfl FitsL.nil) h
def zNb(f1:τF)(vn2:Int):=fC zLt (zCE f1 vn2) fun _=>zMu
theorem zI1:CfW qh 173:=cfW Tryz.func173
noncomputable def zI9(f1:τF)(vn2:Int):T qh (((List (Int×Int))×Bool)):=
 .n1 (nilN 184 2 (by decide))<|
 .dn<|.joinC (.op1 (zH9 f1) fun y3=>.seqT (.cond (!y3) (.ret true) (.op1 (zVW vn2) fun y5=>.ret (!y5))) fun b6=>.ret (y3,b6)) (mb 18 8198) [16] (fun s q_1 γ=>s.pc (mb 18 8198) [16] [(13,Bo q_1.2)] []) fun q_1=>
 .cond q_1.2 (.n1 bsl0<|
 .ret ((([]:List (Int×Int)),false)))<|.op1 (zNb f1 vn2) fun y8=>
 .ret ((y8,true))
theorem zIi{f1:τF}{vn2:Int}{r:((List (Int×Int))×Bool)}(h:zCf f1 vn2=some r):zC qh 173 [.ag [Ti f1.1,Ti f1.2.1,Ti f1.2.2],I vn2] (.tc (.ow 0) (.tc (Bo r.2) .tn)) [(0,.arr 184 2 (r.1.map c184))]:=CtT (zI9 f1 vn2) (fun r=>(.tc (.ow 0) (.tc (Bo r.2) .tn),[(0,.arr 184 2 (r.1.map c184))])) (rs:=[.t 4,.t 5]) (vs:=[.tmp 4,.tmp 5]) Tryz.func173 rfl rfl (.cons rfl (.cons rfl FitsL.nil)) h
def zJG(f1:τF)(vn2:Int):=fC zI1 (zCf f1 vn2) fun _=>zIi
theorem zGg:CfW qh 126:=cfW Tryz.func126
noncomputable def zGp(f1:τF)(vn2:Int):T qh ((Int×Bool)):=
 .op1 (zJG f1 vn2) fun y3=>
 .n0 (lenM zHY y3.1)<|
 .ret (((y3.1.length:Int),y3.2))
theorem zGr{f1:τF}{vn2:Int}{r:(Int×Bool)}(h:zA4 f1 vn2=some r):zC qh 126 [.ag [Ti f1.1,Ti f1.2.1,Ti f1.2.2],I vn2] (.tc (I r.1) (.tc (Bo r.2) .tn)) []:=CtT (zGp f1 vn2) (fun r=>(.tc (I r.1) (.tc (Bo r.2) .tn),[])) (rs:=[.t 4,.t 5]) (vs:=[.tmp 4,.tmp 5]) Tryz.func126 rfl rfl (.cons rfl (.cons rfl FitsL.nil)) h
def zHA(f1:τF)(vn2:Int):=fC zGg (zA4 f1 vn2) fun _=>zGr
theorem zNX:CfW qh 249:=cfW Tryz.func249
noncomputable def zNx(vm1:τM):T qh Int:=
 .frc (w64 ((w64 (vm1.1*vm1.2.2.2)) - (w64 (vm1.2.1*vm1.2.2.1)))) fun t2=>.ret t2
theorem zOX{vm1:τM}{r:Int}(h:zEH vm1=some r):zC qh 249 [.ag [Ti vm1.1,Ti vm1.2.1,Ti vm1.2.2.1,Ti vm1.2.2.2]] (I r) []:=CtU (zNx vm1) 2 (fun r=>I r) Tryz.func249 rfl rfl h
def zPK(vm1:τM):=fC zNX (zEH vm1) fun _=>zOX
theorem zIz:CfW qh 212:=cfW Tryz.func212
noncomputable def zJQ(vm1:τM):T qh (τM):=
 .op1 (zPK vm1) fun y2=>
 .n0 (bld zD6 zDf)<|
 .frc (w64 (y2*vm1.2.2.2)) fun f3=>.frc (w64 ((w64 (0 - y2))*vm1.2.1)) fun f4=>.frc (w64 ((w64 (0 - y2))*vm1.2.2.1)) fun f5=>.frc (w64 (y2*vm1.1)) fun f6=>.ret ((f3,f4,f5,f6))
theorem zJT{vm1:τM}{r:τM}(h:zBH vm1=some r):zC qh 212 [.ag [Ti vm1.1,Ti vm1.2.1,Ti vm1.2.2.1,Ti vm1.2.2.2]] (.ag [Ti r.1,Ti r.2.1,Ti r.2.2.1,Ti r.2.2.2]) []:=CtT (zJQ vm1) (fun r=>(.ag [Ti r.1,Ti r.2.1,Ti r.2.2.1,Ti r.2.2.2],[])) (rs:=[.w 2 4]) (vs:=[.cell 2 120]) Tryz.func212 rfl rfl (.cons ⟨rfl,zFY⟩ FitsL.nil) h
def zJ5(vm1:τM):=fC zIz (zBH vm1) fun _=>zJT
theorem zQ1:CfW qh 214:=cfW Tryz.func214
noncomputable def zRT(vm1:τM):T qh Bool:=
 .n1 bsl<|.op1 (zHr ([vm1.1,vm1.2.1,vm1.2.2.1,vm1.2.2.2])) fun y2=>
 .ret y2
theorem zRe{vm1:τM}{r:Bool}(h:zDL vm1=some r):zC qh 214 [.ag [Ti vm1.1,Ti vm1.2.1,Ti vm1.2.2.1,Ti vm1.2.2.2]] (Bo r) []:=CtU (zRT vm1) 2 (fun r=>Bo r) Tryz.func214 rfl rfl h
def zJN(vm1:τM):=fC zQ1 (zDL vm1) fun _=>zRe
theorem zSE:CfW qh 211:=cfW Tryz.func211
noncomputable def zTK(vm1:τM):T qh ((τM×Bool)):=
 .op1 (zJN vm1) fun y2=>
 .cond (!y2) (.n0 (bld zD6 zDf)<|
 .ret (((0,0,0,0),false)))<|
 .ret ((vm1,true))
theorem zTg{vm1:τM}{r:(τM×Bool)}(h:zFe vm1=some r):zC qh 211 [.ag [Ti vm1.1,Ti vm1.2.1,Ti vm1.2.2.1,Ti vm1.2.2.2]] (.tc (.ag [Ti r.1.1,Ti r.1.2.1,Ti r.1.2.2.1,Ti r.1.2.2.2]) (.tc (Bo r.2) .tn)) []:=CtT (zTK vm1) (fun r=>(.tc (.ag [Ti r.1.1,Ti r.1.2.1,Ti r.1.2.2.1,Ti r.1.2.2.2]) (.tc (Bo r.2) .tn),[])) (rs:=[.w 2 4,.t 3]) (vs:=[.cell 2 120,.tmp 3]) Tryz.func211 rfl rfl (.cons ⟨rfl,zFY⟩ (.cons rfl FitsL.nil)) h
def zV0(vm1:τM):=fC zSE (zFe vm1) fun _=>zTg
theorem zHc:CfW qh 174:=cfW Tryz.func174
noncomputable def zHz(f1:τF)(g2:τF):T qh ((τM×Bool)):=
 .pl<|.dn<|.joinC (.op1 (zDZ f1) fun y3=>.seqT (.cond (!y3) (.ret true) (.op1 (zDZ g2) fun y5=>.ret (!y5))) fun b6=>.ret (y3,b6)) (mb 40 131100) [32,24,16] (fun s q_1 γ=>s.pc (mb 40 131100) [32,24,16] [(17,Bo q_1.2)] []) fun q_1=>
 .cond q_1.2 (.n0 (bld zD6 zDf)<|
 .ret (((0,0,0,0),false)))<|.op1 (zGJ f1) fun y8=>
 .op1 (zGJ g2) fun y9=>
 .n0 (neg3 zXE)<|
 .lt (!((y8.1.1==y9.1.1)&&((y8.1.2.1==y9.1.2.1)&&(y8.1.2.2==y9.1.2.2)))) fun t10=>.cond t10 (.n0 (bld zD6 zDf)<|
 .ret (((0,0,0,0),false)))<|.draw 7 []<|.op1 (zJ5 y9.2) fun y12=>.op1 (zEp y8.2 y12) fun y13=>.op1 (zV0 y13) fun y14=>
 .ret ((y14.1,y14.2))
theorem zIE{f1:τF}{g2:τF}{r:(τM×Bool)}(h:zBN f1 g2=some r):zC qh 174 [.ag [Ti f1.1,Ti f1.2.1,Ti f1.2.2],.ag [Ti g2.1,Ti g2.2.1,Ti g2.2.2]] (.tc (.ag [Ti r.1.1,Ti r.1.2.1,Ti r.1.2.2.1,Ti r.1.2.2.2]) (.tc (Bo r.2) .tn)) []:=CtT (zHz f1 g2) (fun r=>(.tc (.ag [Ti r.1.1,Ti r.1.2.1,Ti r.1.2.2.1,Ti r.1.2.2.2]) (.tc (Bo r.2) .tn),[])) (rs:=[.w 4 4,.t 5]) (vs:=[.cell 4 120,.tmp 5]) Tryz.func174 rfl rfl (.cons ⟨rfl,zFY⟩ (.cons rfl FitsL.nil)) h
def zIM(f1:τF)(g2:τF):=fC zHc (zBN f1 g2) fun _=>zIE
theorem zNO:CfW qh 176:=cfW Tryz.func176
noncomputable def zNp(vm1:τM):T qh qf:=
 .draw 21 []<|.op1 (zBP vm1.1) fun y2=>.op0 (cat ((⟨#[91]⟩:qf)) y2) fun u3=>.op0 (cat (((⟨#[91]⟩:qf))++y2) ((⟨#[44]⟩:qf))) fun u4=>.op1 (zBP vm1.2.1) fun y5=>.op0 (cat ((((⟨#[91]⟩:qf))++y2)++((⟨#[44]⟩:qf))) y5) fun u6=>.op0 (cat (((((⟨#[91]⟩:qf))++y2)++((⟨#[44]⟩:qf)))++y5) ((⟨#[59]⟩:qf))) fun u7=>.op1 (zBP vm1.2.2.1) fun y8=>.op0 (cat ((((((⟨#[91]⟩:qf))++y2)++((⟨#[44]⟩:qf)))++y5)++((⟨#[59]⟩:qf))) y8) fun u9=>.op0 (cat (((((((⟨#[91]⟩:qf))++y2)++((⟨#[44]⟩:qf)))++y5)++((⟨#[59]⟩:qf)))++y8) ((⟨#[44]⟩:qf))) fun u10=>.op1 (zBP vm1.2.2.2) fun y11=>.op0 (cat ((((((((⟨#[91]⟩:qf))++y2)++((⟨#[44]⟩:qf)))++y5)++((⟨#[59]⟩:qf)))++y8)++((⟨#[44]⟩:qf))) y11) fun u12=>.op0 (cat (((((((((⟨#[91]⟩:qf))++y2)++((⟨#[44]⟩:qf)))++y5)++((⟨#[59]⟩:qf)))++y8)++((⟨#[44]⟩:qf)))++y11) ((⟨#[93]⟩:qf))) fun u13=>
 .ret ((((((((((⟨#[91]⟩:qf))++y2)++((⟨#[44]⟩:qf)))++y5)++((⟨#[59]⟩:qf)))++y8)++((⟨#[44]⟩:qf)))++y11)++((⟨#[93]⟩:qf)))
theorem zOO{vm1:τM}{r:qf}(h:zBf vm1=some r):zC qh 176 [.ag [Ti vm1.1,Ti vm1.2.1,Ti vm1.2.2.1,Ti vm1.2.2.2]] (.c (.v (.string r))) []:=CtU (zNp vm1) 2 (fun r=>.c (.v (.string r))) Tryz.func176 rfl rfl h
def zFr(vm1:τM):=fC zNO (zBf vm1) fun _=>zOO
theorem zLr:CfW qh 175:=cfW Tryz.func175
noncomputable def zM7(kind1:qf)(words2:List qf):T qh qf:=
 .op0 (cat kind1 ((⟨#[32]⟩:qf))) fun u3=>.op1 (zVI words2 ((⟨#[32]⟩:qf))) fun y4=>.op0 (cat (kind1++((⟨#[32]⟩:qf))) y4) fun u5=>
 .ret ((kind1++((⟨#[32]⟩:qf)))++y4)
theorem zMs{kind1:qf}{words2:List qf}{r:qf}(h:zCC kind1 words2=some r):zC qh 175 [.c (.v (.string kind1)),.c (.sl (words2.map c9))] (.c (.v (.string r))) []:=CtU (zM7 kind1 words2) 4 (fun r=>.c (.v (.string r))) Tryz.func175 rfl rfl h
def zH5(kind1:qf)(words2:List qf):=fCs zLr (zCC kind1 words2) (fun _=>zMs) fun _=>rfl
theorem zGD:CfW qh 127:=cfW Tryz.func127
noncomputable def zGL(f1:τF)(g2:τF):T qh ((qf×Bool)):=
 .op1 (zIM f1 g2) fun y3=>
 .cond (!y3.2) (
 .ret (((⟨#[]⟩:qf),false)))<|.draw 10 []<|.op1 (zBo f1) fun y5=>.op1 (zBo g2) fun y6=>.op1 (zFr y3.1) fun y7=>.n1 bsl<|.op1 (zH5 ((⟨#[101,113,117,105,118,97,108,101,110,116]⟩:qf)) ([y5,y6,y7])) fun y8=>
 .ret ((y8,true))
theorem zGP{f1:τF}{g2:τF}{r:(qf×Bool)}(h:zAJ f1 g2=some r):zC qh 127 [.ag [Ti f1.1,Ti f1.2.1,Ti f1.2.2],.ag [Ti g2.1,Ti g2.2.1,Ti g2.2.2]] (.tc (.c (.v (.string r.1))) (.tc (Bo r.2) .tn)) []:=CtT (zGL f1 g2) (fun r=>(.tc (.c (.v (.string r.1))) (.tc (Bo r.2) .tn),[])) (rs:=[.t 4,.t 5]) (vs:=[.tmp 4,.tmp 5]) Tryz.func127 rfl rfl (.cons rfl (.cons rfl FitsL.nil)) h
def zG0(f1:τF)(g2:τF):=fC zGD (zAJ f1 g2) fun _=>zGP
theorem zNV:CfW qh 177:=cfW Tryz.func177
noncomputable def zNv(f1:τF):T qh ((τF×τM×Bool)):=
 .op1 (zDZ f1) fun y2=>
 .cond (!y2) (.n0 (bld pl42 bt42)<|.n0 (bld zD6 zDf)<|
 .ret (((0,0,0),(0,0,0,0),false)))<|.op1 (zGJ f1) fun y4=>
 .op1 (zJN y4.2) fun y5=>
 .cond (!y5) (.n0 (bld pl42 bt42)<|.n0 (bld zD6 zDf)<|
 .ret (((0,0,0),(0,0,0,0),false)))<|.draw 3 [(2,16)]<|
 .ret ((y4.1,y4.2,true))
theorem zOV{f1:τF}{r:(τF×τM×Bool)}(h:zBD f1=some r):zC qh 177 [.ag [Ti f1.1,Ti f1.2.1,Ti f1.2.2]] (.tc (.ag [Ti r.1.1,Ti r.1.2.1,Ti r.1.2.2]) (.tc (.ag [Ti r.2.1.1,Ti r.2.1.2.1,Ti r.2.1.2.2.1,Ti r.2.1.2.2.2]) (.tc (Bo r.2.2) .tn))) []:=CtT (zNv f1) (fun r=>(.tc (.ag [Ti r.1.1,Ti r.1.2.1,Ti r.1.2.2]) (.tc (.ag [Ti r.2.1.1,Ti r.2.1.2.1,Ti r.2.1.2.2.1,Ti r.2.1.2.2.2]) (.tc (Bo r.2.2) .tn)),[])) (rs:=[.w 2 3,.w 3 4,.t 4]) (vs:=[.cell 2 42,.cell 3 120,.tmp 4]) Tryz.func177 rfl rfl (.cons ⟨rfl,wd42⟩ (.cons ⟨rfl,zFY⟩ (.cons rfl FitsL.nil))) h
def zHw(f1:τF):=fC zNV (zBD f1) fun _=>zOV
theorem zGX:CfW qh 128:=cfW Tryz.func128
noncomputable def zG2(f1:τF)(g2:τF):T qh ((qf×Bool)):=
 .op1 (zHw f1) fun y3=>
 .op1 (zHw g2) fun y4=>
 .dn<|.joinC (.selB (!y3.2.2) false [] fun w_7=>.selB (bif w_7 then true else (!y4.2.2)) false [.z (eqg3 zXO)] fun w_8=>.ret (w_7,w_8)) (mb 49 17179870924) [80,72,56,48,24,16] (fun s q_9 γ=>s.pc (mb 49 17179870924) [80,72,56,48,24,16] [(34,Bo (bif q_9.2 then true else (((y3.1.1==y4.1.1)&&((y3.1.2.1==y4.1.2.1)&&(y3.1.2.2==y4.1.2.2))))))] []) fun q_9=>
 .lt (bif q_9.2 then true else (((y3.1.1==y4.1.1)&&((y3.1.2.1==y4.1.2.1)&&(y3.1.2.2==y4.1.2.2))))) fun t7=>.cond t7 (
 .ret (((⟨#[]⟩:qf),false)))<|.draw 16 []<|.op1 (zBo f1) fun y9=>.op1 (zFr y3.2.1) fun y10=>.op1 (zBo y3.1) fun y11=>.op1 (zBo g2) fun y12=>.op1 (zFr y4.2.1) fun y13=>.op1 (zBo y4.1) fun y14=>.n1 bsl<|.op1 (zH5 ((⟨#[100,105,102,102,101,114,101,110,116]⟩:qf)) ([y9,y10,y11,y12,y13,y14])) fun y15=>
 .ret ((y15,true))
theorem zG4{f1:τF}{g2:τF}{r:(qf×Bool)}(h:zAU f1 g2=some r):zC qh 128 [.ag [Ti f1.1,Ti f1.2.1,Ti f1.2.2],.ag [Ti g2.1,Ti g2.2.1,Ti g2.2.2]] (.tc (.c (.v (.string r.1))) (.tc (Bo r.2) .tn)) []:=CtT (zG2 f1 g2) (fun r=>(.tc (.c (.v (.string r.1))) (.tc (Bo r.2) .tn),[])) (rs:=[.t 4,.t 5]) (vs:=[.tmp 4,.tmp 5]) Tryz.func128 rfl rfl (.cons rfl (.cons rfl FitsL.nil)) h
def zGj(f1:τF)(g2:τF):=fC zGX (zAU f1 g2) fun _=>zG4
theorem zOm:CfW qh 82:=cfW Tryz.func82
noncomputable def zPZ(vs1:τI)(l2:(qf×(List Int)×τF×Int))(forms3:List τF):T qh ((qf×Bool)):=
 .lt (l2.1.toList==((⟨#[115,104,111,119]⟩:qf)).toList) fun t4=>.cond t4 (.op0 (idxM ct42 forms3 0) fun e6=>.op1 (zBo e6) fun y7=>
 .ret ((y7,true)))<|
 .lt (l2.1.toList==((⟨#[105,110,100,101,120]⟩:qf)).toList) fun t8=>.cond t8 (.op0 (idxM ct42 forms3 0) fun e10=>.op1 (zPM e10) fun y11=>
 .op1 (zBP y11.1) fun y12=>
 .ret ((y12,y11.2)))<|
 .lt (l2.1.toList==((⟨#[111,114,100,101,114]⟩:qf)).toList) fun t13=>.cond t13 (.op0 (idxM ct42 forms3 0) fun e15=>.op1 (zVT e15) fun y16=>.op1 (zBP y16) fun y17=>
 .ret ((y17,true)))<|
 .lt (l2.1.toList==((⟨#[103,101,110,117,115]⟩:qf)).toList) fun t18=>.cond t18 (
 .op0 (idxM ct42 forms3 0) fun e20=>.op1 (zN9 e20) fun y21=>.n0 (lenM ct3 y21)<|
 .loop (fun n X_1=>zB2 vs1 y21 n X_1.1 X_1.2) (((⟨#[]⟩:qf),0)) (mb 107 7881299347899392) [400,80000] (fun s X_1 γ=>s.pc (mb 107 7881299347899392) [400,80000] [(10,.c (.v (.string X_1.1))),(52,I X_1.2)] []) (fun X_1=>
 .cond (ltI X_1.2 ((y21.length:Int))) (.op0 (zBF ct3 y21 X_1.2) fun e27=>.op0 (ldo ct3 y21 X_1.2) fun e28=>
 .n0 dvN<|.op0 (idxs ((⟨#[45,43]⟩:qf)) (w64 (Int.tdiv (w64 (e28+1)) 2))) fun e29=>.n0 i2s<|.op0 (cat X_1.1 (Utf8.encode e29)) fun u30=>
 .frc (w64 (X_1.2+1)) fun t31=>.ret (.inl ((X_1.1++(Utf8.encode e29),t31))))<|.ret (.inr X_1.1)) (mb 107 1024) [80000] (fun s o25 γ=>s.pc (mb 107 1024) [80000] [(10,.c (.v (.string o25)))] []) fun o25=>
 .ret ((o25,true)))<|
 .lt (l2.1.toList==((⟨#[118,97,108,117,101]⟩:qf)).toList) fun t32=>.cond t32 (.draw 11 []<|.op0 (idxM ct42 forms3 0) fun e34=>.op1 (zHA e34 l2.2.2.2) fun y35=>
 .op1 (zBP y35.1) fun y36=>
 .ret ((y36,y35.2)))<|
 .cond (l2.1.toList==((⟨#[115,97,109,101]⟩:qf)).toList) (.draw 12 []<|.op0 (idxM ct42 forms3 0) fun e38=>.op0 (idxM ct42 forms3 1) fun e39=>.op1 (zG0 e38 e39) fun y40=>
 .cond y40.2 (
 .ret ((y40.1,true)))<|.draw 11 []<|.op0 (idxM ct42 forms3 0) fun e42=>.op0 (idxM ct42 forms3 1) fun e43=>.op1 (zGj e42 e43) fun y44=>
 .ret ((y44.1,y44.2)))<|.opx (zH4 vs1) fun y45=>
 .cond (!(y45.toList==((⟨#[]⟩:qf)).toList)) (
 .ret ((y45,true)))<|
 .ret (((⟨#[110,111,110,101]⟩:qf),true))
theorem zPh{vs1:τI}{l2:(qf×(List Int)×τF×Int)}{forms3:List τF}{rest:List Tr}{r:(qf×Bool)}(h:jF vs1 l2 forms3=some r):zEi qh 82 [.pt 80000 0,.ag [.v (.string l2.1),.sl (l2.2.1.map c3),Ti l2.2.2.1.1,Ti l2.2.2.1.2.1,Ti l2.2.2.1.2.2,Ti l2.2.2.2],.c (.sl (forms3.map c42))] [(80000,.box ((Ti vs1.1::q78 (vs1.2) [])++rest))] (.tc (.c (.v (.string r.1))) (.tc (Bo r.2) .tn)) [] [(80000,.box ((Ti vs1.1::q78 (vs1.2) [])++rest))]:=CrT (zPZ vs1 l2 forms3) (fun r=>(.tc (.c (.v (.string r.1))) (.tc (Bo r.2) .tn),[])) (fun r=>[(80000,.box ((Ti vs1.1::q78 (vs1.2) [])++rest))]) (rs:=[.t 6,.t 7]) (vs:=[.tmp 6,.tmp 7]) Tryz.func82 rfl rfl (.cons rfl (.cons rfl FitsL.nil)) h
def zQb(vs1:τI)(l2:(qf×(List Int)×τF×Int))(forms3:List τF):=fRt zOm (jF vs1 l2 forms3) 80000 79 (fun rest _ h=>zPh (rest:=rest) h)
end
noncomputable section
theorem zJ0:CfW qh 50:=cfW Tryz.func50
noncomputable def zJa(cc1:(τI×(List τI)))(vs2:qf):T qh ((qf×(τI×(List τI)))):=
 .op1 (zSS vs2) fun y3=>
 .cond (!y3.2) (
 .ret (((⟨#[119,104,97,116]⟩:qf),cc1)))<|
 .lt (y3.1.1.toList==((⟨#[117,110,100,111]⟩:qf)).toList) fun t5=>.cond t5 (.n0 au<|.late (seeH 25 90079)<|.n0 (lenM ct62 cc1.2)<|
 .cond (eqI ((cc1.2.length:Int)) 0) (
 .ret (((⟨#[110,111]⟩:qf),cc1)))<|.pl<|.joinC (.drawM false 13 [1,2,3,6,7,14,15,30,31,32,33,34,35,38,39,46,47,62,63,96,97,98,99,102,103,110,111,126,127,224,225,226,227,230,231,238,239,254,255,480,481,482,483,486,487,494,495,510,511,992,993,994,995,998,999,1006,1007,1022,1023,2016,2017,2018,2019,2022,2023,2030,2031,2046,2047,4094,4095,8190,8191] [1,1,0,1,1,1,0,1,1,0,1,0,0,0,1,1]<|.n0 au<|.n0 au<|.late (seeH 36 90079)<|.n0 (lenM ct62 cc1.2)<|.late (seeH 32 90079)<|.op0 (zBF ct62 cc1.2 (w64 (((cc1.2.length:Int)) - 1))) fun e8=>.op0 (ldo ct62 cc1.2 (w64 (((cc1.2.length:Int)) - 1))) fun e9=>.n0 au<|.ret (e8,e9)) (mb 109 1) [80000,90079] (fun s q_2 γ=>s.pc (mb 109 1) [80000,90079] [] [(80000,s.pbx 80000 ((Ti q_2.2.1::q78 (q_2.2.2) [.v (zF (γ 90079))])++zME s 80000 80)),(90079,.qarr (γ 90079) 62 79 (cc1.2.map c62))]) fun q_2=>
 .joinC (.drawM false 12 [1,2,3,6,7,14,15,30,31,32,33,34,35,38,39,46,47,62,63,96,97,98,99,102,103,110,111,126,127,224,225,226,227,230,231,238,239,254,255,480,481,482,483,486,487,494,495,510,511,992,993,994,995,998,999,1006,1007,1022,1023,2016,2017,2018,2019,2022,2023,2030,2031,2046,2047,4094,4095] [1,1,0,1,1,1,0,1,1,0,1,0,0,1,2]<|.n0 au<|.n0 au<|.late (seeH 51 90079)<|.n0 (lenM ct62 cc1.2)<|.late (zPQ 47 90079)<|.opx (shr ct62 cc1.2 (w64 (((cc1.2.length:Int)) - 1))) fun u10=>.n0 au<|.late (pinH 54 90079)<|.ret u10) (mb 109 0) [80000,90079] (fun s q_1 γ=>s.pc (mb 109 0) [80000,90079] [] [(80000,s.pbx 80000 ((Ti q_2.2.1::q78 (q_2.2.2) [.v (zF (γ 90079))])++zME s 80000 80)),(90079,.qarr (γ 90079) 62 79 ((subl cc1.2 0 (w64 (((cc1.2.length:Int)) - 1))).map c62))]) fun q_1=>
 .ret (((⟨#[111,107]⟩:qf),(q_2.2,subl cc1.2 0 (w64 (((cc1.2.length:Int)) - 1))))))<|.pl<|.joinC (.drawL [1,0,1,1,0,1,1,1,1,1]<|.n0 au<|.opx (zK9 cc1.1 y3.1) fun y11=>.ret y11) (mb 109 225) [496,40,80000,90079] (fun s q_5 γ=>s.pc (mb 109 225) [496,40,80000,90079] [(6,Bo q_5.2),(7,.ow 496)] [(496,.arr 42 3 (q_5.1.map c42)),(80000,s.pbx 80000 ((Ti cc1.1.1::q78 (cc1.1.2) [.v (zF (γ 90079))])++zME s 80000 80)),(90079,.qarr (γ 90079) 62 79 (cc1.2.map c62))]) fun q_5=>
 .cond (!q_5.2) (
 .ret (((⟨#[110,111]⟩:qf),cc1)))<|.n0 au<|
 .hint (frzH 496)<|.opx (zLy cc1.1 y3.1 q_5.1) fun y13=>
 .cond y13.2.1 (
 .cond (!y13.1) (
 .ret (((⟨#[110,111]⟩:qf),cc1)))<|.pl<|.joinC (.drawM false 11 [1,2,3,6,7,14,15,30,31,32,33,34,35,38,39,46,47,62,63,96,97,98,99,102,103,110,111,126,127,224,225,226,227,230,231,238,239,254,255,480,481,482,483,486,487,494,495,510,511,992,993,994,995,998,999,1006,1007,1022,1023,2046,2047] [1,1,0,1,1,1,0,1,1,0,0,0,1,2]<|.n0 au<|.n0 au<|.n1 bsl<|.late (zPQ 84 90079)<|.opx (appB ct62 cc1.2 (([cc1.1]))) fun u16=>.n0 au<|.late (pinH 90 90079)<|.ret u16) (mb 109 257) [64,80000,90079] (fun s q_3 γ=>s.pc (mb 109 257) [64,80000,90079] [] [(80000,s.pbx 80000 ((Ti cc1.1.1::q78 (cc1.1.2) [.v (zF (γ 90079))])++zME s 80000 80)),(90079,.qarr (γ 90079) 62 79 ((cc1.2++([cc1.1])).map c62))]) fun q_3=>
 .n0 au<|
 .ret (((⟨#[111,107]⟩:qf),(y13.2.2,cc1.2++([cc1.1])))))<|.pl<|.joinC (.drawL [1,0,1,1,1,0,1,1,1,1,1]<|.n0 au<|.opx (zQb cc1.1 y3.1 q_5.1) fun y17=>.ret y17) (mb 109 2112) [80000,90079] (fun s q_4 γ=>s.pc (mb 109 2112) [80000,90079] [(6,Bo q_4.2),(11,.c (.v (.string q_4.1)))] [(80000,s.pbx 80000 ((Ti cc1.1.1::q78 (cc1.1.2) [.v (zF (γ 90079))])++zME s 80000 80)),(90079,.qarr (γ 90079) 62 79 (cc1.2.map c62))]) fun q_4=>
 .cond (!q_4.2) (
 .ret (((⟨#[110,111]⟩:qf),cc1)))<|
 .ret ((q_4.1,cc1))
theorem zJr{cc1:(τI×(List τI))}{vs2:qf}{rest:List Tr}{r:(qf×(τI×(List τI)))}(h:zS cc1 vs2=some r):zKb qh 50 [.pt 80000 0,.c (.v (.string vs2))] 90079 62 79 (fun l=>[(80000,.box ((Ti cc1.1.1::q78 (cc1.1.2) [.v (zF (l))])++rest))]) (cc1.2.map c62) (.v (.string r.1)) (fun l=>[(80000,.box ((Ti r.2.1.1::q78 (r.2.1.2) [.v (zF (l))])++rest))]) (r.2.2.map c62):=CqT (zJa cc1 vs2) 90079 62 79 (fun r=>.v (.string r.1)) (fun r l=>[(80000,.box ((Ti r.2.1.1::q78 (r.2.1.2) [.v (zF (l))])++rest))]) (fun r=>r.2.2.map c62) (rs:=.t 4) (vs:=.tmp 4) Tryz.func50 rfl rfl (.cons rfl FitsL.nil) h
def zKa(cc1:(τI×(List τI)))(vs2:qf):=fQ zJ0 (zS cc1 vs2) 80000 80 90079 62 79 (fun rest _ h=>zJr (rest:=rest) h)
end
noncomputable section
theorem zFk:CfW qh 33:=cfW Tryz.func33
noncomputable def zP0(script1:qf):T qh (Option (τI×(List τI)×(List qf))):=
 .op1 (zVV script1) fun y2=>
 .dn<|.joinC (.selB (!y2.2) false [] fun w_7=>.selB (bif w_7 then true else (ltI 2000 ((script1.size:Int)))) false [.z (lenM ct9 y2.1)] fun w_8=>.ret (w_7,w_8)) (mb 49 33554448) [88] (fun s q_11 γ=>s.pc (mb 49 33554448) [88] [(25,Bo (bif q_11.2 then true else (ltI 60 ((y2.1.length:Int)))))] []) fun q_11=>
 .lt (bif q_11.2 then true else (ltI 60 ((y2.1.length:Int)))) fun t5=>.cond t5 (
 .ret none)<|.n0 (bld pl62 bt62)<|.n0 (bld pl65 bt65)<|
 .n0 (lenM ct9 y2.1)<|
 .hint (nilH 90079 62 79)<|.hint (nilH 90080 9 1)<|.loop (fun n X_10=>zQ y2 n X_10.1 X_10.2.1 X_10.2.2.1 X_10.2.2.2.1 X_10.2.2.2.2) ((0,([]:List qf),([]:List τI),-23,(fun _=>(0,0,0)))) (mb 49 3758096448) [90080,90079,224,88] (fun s X_10 γ=>s.pc (mb 49 3758096448) [90080,90079,224,88] [(31,I X_10.1)] [(90080,.qarr (γ 90080) 9 1 (X_10.2.1.map c9)),(90079,.qarr (γ 90079) 62 79 (X_10.2.2.1.map c62)),(224,.box (Ti X_10.2.2.2.1::q78 (X_10.2.2.2.2) [.v (zF (γ 90079)),.v (zF (γ 90080))]))]) (fun X_10=>
 .cond (ltI X_10.1 ((y2.1.length:Int))) (.op0 (zBF ct9 y2.1 X_10.1) fun e15=>.op0 (ldo ct9 y2.1 X_10.1) fun e16=>
 .joinC (.drawM true 10 [1,2,3,6,7,14,15,30,31,32,33,34,35,38,39,46,47,62,63,64,65,66,67,70,71,78,79,94,95,96,97,98,99,102,103,110,111,126,127,224,225,226,227,230,231,238,239,254,255,480,481,482,483,486,487,494,495,510,511,1022,1023] [1,1,0,1,1,1,1,0,0,0,0,1,2]<|.n0 au<|.opx (zKa (((X_10.2.2.2.1,X_10.2.2.2.2),X_10.2.2.1)) e16) fun y17=>.n1 bsl<|.late (zPQ 39 90080)<|.opx (app ct9 X_10.2.1 ([y17.1])) fun u18=>.n0 au<|.late (pinH 44 90080)<|.ret (y17,u18)) (mb 49 3758096448) [90080,90079,224,88] (fun s q_9 γ=>s.pc (mb 49 3758096448) [90080,90079,224,88] [] [(90080,.qarr (γ 90080) 9 1 ((X_10.2.1++([q_9.1.1])).map c9)),(90079,.qarr (γ 90079) 62 79 (q_9.1.2.2.map c62)),(224,.box (Ti q_9.1.2.1.1::q78 (q_9.1.2.1.2) [.v (zF (γ 90079)),.v (zF (γ 90080))]))]) fun q_9=>
 .frc (w64 (X_10.1+1)) fun t19=>.ret (.inl ((t19,X_10.2.1++([q_9.1.1]),q_9.1.2.2,q_9.1.2.1.1,q_9.1.2.1.2))))<|.ret (.inr ((X_10.2.1,X_10.2.2.1,X_10.2.2.2.1,X_10.2.2.2.2)))) (mb 49 64) [90080,90079,224] (fun s o13 γ=>s.pc (mb 49 64) [90080,90079,224] [] [(90080,.qarr (γ 90080) 9 1 (o13.1.map c9)),(90079,.qarr (γ 90079) 62 79 (o13.2.1.map c62)),(224,.box (Ti o13.2.2.1::q78 (o13.2.2.2) [.v (zF (γ 90079)),.v (zF (γ 90080))]))]) fun o13=>
 .late (z3a 90079 224 79)<|.late (z3a 90080 224 80)<|.late (z60 224)<|.ret (some ((o13.2.2,o13.2.1,o13.1)))
theorem zIR{script1:qf}{r:Option (τI×(List τI)×(List qf))}(h:zU script1=some r):zC qh 33 [.c (.v (.string script1))] (elO r (.tc (.c (.v (.pointer none))) (.tc (Bo false) .tn)) fun c=>.tc (.pe (Ti c.1.1::q78 (c.1.2) [.sl (c.2.1.map c62),.sl (c.2.2.map c9)])) (.tc (Bo true) .tn)) []:=CtT (zP0 script1) (fun r=>(elO r (.tc (.c (.v (.pointer none))) (.tc (Bo false) .tn)) fun c=>.tc (.pe (Ti c.1.1::q78 (c.1.2) [.sl (c.2.1.map c62),.sl (c.2.2.map c9)])) (.tc (Bo true) .tn),[])) (rs:=[.t 2,.t 3]) (vs:=[.tmp 2,.tmp 3]) Tryz.func33 rfl rfl (.cons rfl (.cons rfl FitsL.nil)) h
def zEe(script1:qf):=fC zFk (zU script1) fun _=>zIR
theorem zK5:CfW qh 10:=cfW Tryz.func10
noncomputable def zLX(script1:qf):T qh (((List τF)×Bool)):=
 .n1 (nilN 42 3 (by decide))<|
 .op1o (zEe script1) (
 .lit<|.n1 bsl0<|
 .ret ((([]:List τF),false))) fun cc3=>
 .lit<|.n1 bsl0<|
 .n0 au<|
 .loop (fun n X_1=>jV cc3 n X_1.1 X_1.2) ((0,([]:List τF))) (mb 35 12582976) [136] (fun s X_1 γ=>s.pc (mb 35 12582976) [136] [(23,I X_1.1)] [(136,.arr 42 3 (X_1.2.map c42))]) (fun X_1=>
 .cond (ltI X_1.1 26) (.op0 (igA ct42 26 cc3.1.2 X_1.1) fun e10=>
 .n0 (bld pl42 bt42)<|.n0 (neg3 zXE)<|
 .cond (!((e10.1==0)&&((e10.2.1==0)&&(e10.2.2==0)))) (.n1 bsl<|.opx (app ct42 X_1.2 ([e10])) fun u12=>
 .frc (w64 (X_1.1+1)) fun t13=>.ret (.inl ((t13,X_1.2++([e10])))))<|
 .frc (w64 (X_1.1+1)) fun t14=>.ret (.inl ((t14,X_1.2))))<|.ret (.inr X_1.2)) (mb 35 64) [136] (fun s o8 γ=>s.pc (mb 35 64) [136] [] [(136,.arr 42 3 (o8.map c42))]) fun o8=>
 .ret ((o8,true))
theorem zLd{script1:qf}{r:((List τF)×Bool)}(h:jO script1=some r):zC qh 10 [.c (.v (.string script1))] (.tc (.ow 0) (.tc (Bo r.2) .tn)) [(0,.arr 42 3 (r.1.map c42))]:=CtT (zLX script1) (fun r=>(.tc (.ow 0) (.tc (Bo r.2) .tn),[(0,.arr 42 3 (r.1.map c42))])) (rs:=[.t 2,.t 3]) (vs:=[.tmp 2,.tmp 3]) Tryz.func10 rfl rfl (.cons rfl (.cons rfl FitsL.nil)) h
def zGm(script1:qf):=fC zK5 (jO script1) fun _=>zLd
theorem zGv:CfW qh 19:=cfW Tryz.func19
noncomputable def zHJ(script1:qf):T qh ((Int×Bool)):=
 .op1 (zGx script1) fun y2=>
 .cond (!y2.2.2) (
 .ret ((0,false)))<|.n0 au<|
 .ret ((y2.1.1.1,true))
theorem zHN{script1:qf}{r:(Int×Bool)}(h:zAd script1=some r):zC qh 19 [.c (.v (.string script1))] (.tc (I r.1) (.tc (Bo r.2) .tn)) []:=CtT (zHJ script1) (fun r=>(.tc (I r.1) (.tc (Bo r.2) .tn),[])) (rs:=[.t 2,.t 3]) (vs:=[.tmp 2,.tmp 3]) Tryz.func19 rfl rfl (.cons rfl (.cons rfl FitsL.nil)) h
def zH8(script1:qf):=fC zGv (zAd script1) fun _=>zHN
theorem zGw:CfW qh 18:=cfW Tryz.func18
noncomputable def zHK(script1:qf):T qh ((Int×Bool)):=
 .op1o (zEe script1) (
 .lit<|
 .ret ((0,false))) fun cc3=>
 .lit<|.n0 au<|
 .ret ((cc3.1.1,true))
theorem zHP{script1:qf}{r:(Int×Bool)}(h:qH script1=some r):zC qh 18 [.c (.v (.string script1))] (.tc (I r.1) (.tc (Bo r.2) .tn)) []:=CtT (zHK script1) (fun r=>(.tc (I r.1) (.tc (Bo r.2) .tn),[])) (rs:=[.t 2,.t 3]) (vs:=[.tmp 2,.tmp 3]) Tryz.func18 rfl rfl (.cons rfl (.cons rfl FitsL.nil)) h
def zE0(script1:qf):=fC zGw (qH script1) fun _=>zHP
theorem zK4:CfW qh 20:=cfW Tryz.func20
noncomputable def zLW(script1:qf):T qh ((Int×Int×Int×Bool)):=
 .op1o (zEe script1) (
 .lit<|
 .ret ((0,0,0,false))) fun cc3=>
 .lit<|
 .n0 au<|.n0 (lenM ct9 cc3.2.2)<|
 .loop (fun n X_1=>jU cc3 n X_1.1 X_1.2.1 X_1.2.2) ((0,0,0)) (mb 49 29360960) [] (fun s X_1 γ=>s.pc (mb 49 29360960) [] [(8,I X_1.1),(9,I X_1.2.2),(24,I X_1.2.1)] []) (fun X_1=>
 .cond (ltI X_1.2.1 ((cc3.2.2.length:Int))) (.op0 (idxM ct9 cc3.2.2 X_1.2.1) fun e11=>
 .cond (e11.toList==((⟨#[110,111]⟩:qf)).toList) (
 .frc (w64 (X_1.1+1)) fun no13=>
 .frc (w64 (X_1.2.1+1)) fun t14=>.ret (.inl ((no13,t14,X_1.2.2))))<|
 .cond (e11.toList==((⟨#[119,104,97,116]⟩:qf)).toList) (
 .frc (w64 (X_1.2.2+1)) fun what16=>
 .frc (w64 (X_1.2.1+1)) fun t17=>.ret (.inl ((X_1.1,t17,what16))))<|
 .frc (w64 (X_1.2.1+1)) fun t18=>.ret (.inl ((X_1.1,t18,X_1.2.2))))<|.ret (.inr ((X_1.1,X_1.2.2)))) (mb 49 832) [] (fun s o9 γ=>s.pc (mb 49 832) [] [(8,I o9.1),(9,I o9.2)] []) fun o9=>
 .draw 15 []<|.n0 au<|.n0 (lenM ct9 cc3.2.2)<|
 .frc (w64 ((w64 (((cc3.2.2.length:Int)) - o9.1)) - o9.2)) fun t19=>.ret ((o9.1,o9.2,t19,true))
theorem zLc{script1:qf}{r:(Int×Int×Int×Bool)}(h:zAx script1=some r):zC qh 20 [.c (.v (.string script1))] (.tc (I r.1) (.tc (I r.2.1) (.tc (I r.2.2.1) (.tc (Bo r.2.2.2) .tn)))) []:=CtT (zLW script1) (fun r=>(.tc (I r.1) (.tc (I r.2.1) (.tc (I r.2.2.1) (.tc (Bo r.2.2.2) .tn))),[])) (rs:=[.t 2,.t 3,.t 4,.t 5]) (vs:=[.tmp 2,.tmp 3,.tmp 4,.tmp 5]) Tryz.func20 rfl rfl (.cons rfl (.cons rfl (.cons rfl (.cons rfl FitsL.nil)))) h
def zMD(script1:qf):=fC zK4 (zAx script1) fun _=>zLc
theorem zLl:CfW qh 22:=cfW Tryz.func22
noncomputable def zM0(script1:qf):T qh (((List Int)×Bool)):=
 .n1 (nilN 3 1 (by decide))<|
 .op1 (zGx script1) fun y2=>
 .n1 (nilN 3 1 (by decide))<|
 .n0 (lenM ct9 y2.2.1)<|
 .loop (fun n X_34=>jY y2 n X_34.1 X_34.2) ((0,([]:List Int))) (mb 37 458944) [56,97] (fun s X_34 γ=>s.pc (mb 37 458944) [56,97] [(18,I X_34.1)] [(56,.arr 3 1 (X_34.2.map c3))]) (fun X_34=>
 .cond (ltI X_34.1 ((y2.2.1.length:Int))) (.op0 (zBF ct9 y2.2.1 X_34.1) fun e8=>.op0 (ldo ct9 y2.2.1 X_34.1) fun e9=>
 .joinC (.selB (e9.toList==((⟨#[110,111]⟩:qf)).toList) false [] fun w_32=>.ret w_32) (mb 37 268894656) [56,97] (fun s q_33 γ=>s.pc (mb 37 268894656) [56,97] [(28,Bo (bif q_33 then true else (e9.toList==((⟨#[119,104,97,116]⟩:qf)).toList)))] []) fun q_33=>
 .lt (bif q_33 then true else (e9.toList==((⟨#[119,104,97,116]⟩:qf)).toList)) fun t11=>.cond t11 (.n1 bsl<|.opx (app ct3 X_34.2 ([w64 (X_34.1+1)])) fun u13=>
 .frc (w64 (X_34.1+1)) fun t14=>.ret (.inl ((t14,X_34.2++([w64 (X_34.1+1)])))))<|
 .frc (w64 (X_34.1+1)) fun t15=>.ret (.inl ((t15,X_34.2))))<|.ret (.inr X_34.2)) (mb 37 192) [56] (fun s o6 γ=>s.pc (mb 37 192) [56] [] [(56,.arr 3 1 (o6.map c3))]) fun o6=>
 .ret ((o6,y2.2.2))
theorem zMm{script1:qf}{r:((List Int)×Bool)}(h:zCy script1=some r):zC qh 22 [.c (.v (.string script1))] (.tc (.ow 0) (.tc (Bo r.2) .tn)) [(0,.arr 3 1 (r.1.map c3))]:=CtT (zM0 script1) (fun r=>(.tc (.ow 0) (.tc (Bo r.2) .tn),[(0,.arr 3 1 (r.1.map c3))])) (rs:=[.t 2,.t 3]) (vs:=[.tmp 2,.tmp 3]) Tryz.func22 rfl rfl (.cons rfl (.cons rfl FitsL.nil)) h
def zN8(script1:qf):=fC zLl (zCy script1) fun _=>zMm
theorem zLu:CfW qh 21:=cfW Tryz.func21
noncomputable def zMa(script1:qf):T qh (((List Int)×Bool)):=
 .n1 (nilN 3 1 (by decide))<|
 .op1o (zEe script1) (
 .lit<|.n1 bsl0<|
 .ret ((([]:List Int),false))) fun cc3=>
 .lit<|.n1 bsl0<|
 .n0 au<|.n0 (lenM ct9 cc3.2.2)<|
 .loop (fun n X_34=>zAA cc3 n X_34.1 X_34.2) ((0,([]:List Int))) (mb 41 14680128) [136] (fun s X_34 γ=>s.pc (mb 41 14680128) [136] [(23,I X_34.1)] [(136,.arr 3 1 (X_34.2.map c3))]) (fun X_34=>
 .cond (ltI X_34.1 ((cc3.2.2.length:Int))) (.op0 (idxM ct9 cc3.2.2 X_34.1) fun e10=>
 .joinC (.selB (e10.toList==((⟨#[110,111]⟩:qf)).toList) false [] fun w_32=>.ret w_32) (mb 41 8604614848) [136] (fun s q_33 γ=>s.pc (mb 41 8604614848) [136] [(33,Bo (bif q_33 then true else (e10.toList==((⟨#[119,104,97,116]⟩:qf)).toList)))] []) fun q_33=>
 .lt (bif q_33 then true else (e10.toList==((⟨#[119,104,97,116]⟩:qf)).toList)) fun t12=>.cond t12 (.n1 bsl<|.opx (app ct3 X_34.2 ([w64 (X_34.1+1)])) fun u14=>
 .frc (w64 (X_34.1+1)) fun t15=>.ret (.inl ((t15,X_34.2++([w64 (X_34.1+1)])))))<|
 .frc (w64 (X_34.1+1)) fun t16=>.ret (.inl ((t16,X_34.2))))<|.ret (.inr X_34.2)) (mb 41 64) [136] (fun s o8 γ=>s.pc (mb 41 64) [136] [] [(136,.arr 3 1 (o8.map c3))]) fun o8=>
 .ret ((o8,true))
theorem zMv{script1:qf}{r:((List Int)×Bool)}(h:zAP script1=some r):zC qh 21 [.c (.v (.string script1))] (.tc (.ow 0) (.tc (Bo r.2) .tn)) [(0,.arr 3 1 (r.1.map c3))]:=CtT (zMa script1) (fun r=>(.tc (.ow 0) (.tc (Bo r.2) .tn),[(0,.arr 3 1 (r.1.map c3))])) (rs:=[.t 2,.t 3]) (vs:=[.tmp 2,.tmp 3]) Tryz.func21 rfl rfl (.cons rfl (.cons rfl FitsL.nil)) h
def zNc(script1:qf):=fC zLu (zAP script1) fun _=>zMv
theorem zNM:CfW qh 17:=cfW Tryz.func17
noncomputable def zNn(script1:qf):T qh ((qf×Bool)):=
 .op1 (zGx script1) fun y2=>
 .n0 (lenM ct9 y2.2.1)<|
 .loop (fun n X_1=>zAc y2 n X_1.1 X_1.2) (((⟨#[]⟩:qf),0)) (mb 29 458944) [97] (fun s X_1 γ=>s.pc (mb 29 458944) [97] [(7,.c (.v (.string X_1.1))),(18,I X_1.2)] []) (fun X_1=>
 .cond (ltI X_1.2 ((y2.2.1.length:Int))) (.op0 (zBF ct9 y2.2.1 X_1.2) fun e8=>.op0 (ldo ct9 y2.2.1 X_1.2) fun e9=>
 .op0 (cat e9 ((⟨#[10]⟩:qf))) fun u10=>.op0 (cat X_1.1 (e9++((⟨#[10]⟩:qf)))) fun u11=>
 .frc (w64 (X_1.2+1)) fun t12=>.ret (.inl ((X_1.1++(e9++((⟨#[10]⟩:qf))),t12))))<|.ret (.inr X_1.1)) (mb 29 192) [] (fun s o6 γ=>s.pc (mb 29 192) [] [(7,.c (.v (.string o6)))] []) fun o6=>
 .ret ((o6,y2.2.2))
theorem zOM{script1:qf}{r:(qf×Bool)}(h:zCT script1=some r):zC qh 17 [.c (.v (.string script1))] (.tc (.c (.v (.string r.1))) (.tc (Bo r.2) .tn)) []:=CtT (zNn script1) (fun r=>(.tc (.c (.v (.string r.1))) (.tc (Bo r.2) .tn),[])) (rs:=[.t 2,.t 3]) (vs:=[.tmp 2,.tmp 3]) Tryz.func17 rfl rfl (.cons rfl (.cons rfl FitsL.nil)) h
def zPE(script1:qf):=fC zNM (zCT script1) fun _=>zOM
theorem L0u{P:Program}{ops:Array Oper}{o:Oper}{rest:List Oper}{s:St}{d:Nat}{J:St→Prop}(hg:o.guard=none)(hd:o.dst=some d)(hk:XL P ops rest (s.put d ((zv2 P s o.op).getD .bot)) J)(h:(zv2 P s o.op).isSome=true:=by kernel_rfl):XL P ops (o::rest) s J:=by
 cases hx:zv2 P s o.op with
 |none=>rw[hx]at h;cases h
 |some v=>rw[hx]at hk;exact L0 hg hd (z4s hx) hk
theorem z4J{n:Nat}{u:Unit}(h:rm47 n=some u):n≤140737488355328:=by
 unfold rm47 at h;cases hb:Nat.ble n 140737488355328 with
 |false=>rw[hb]at h;cases h
 |true=>exact Nat.le_of_ble_eq_true hb
theorem zNU:∀args w,(callFunc 16 args).run qh w=.ok (.enter 16 args) w:=qW Tryz.func16 kk kk
theorem zOU{script1:qf}{r:qf×Bool}(h:zAH script1=some r):zC qh 16 [.c (.v (.string script1))] (.tc (.c (.v (.string r.1))) (.tc (Bo r.2) .tn)) []:=by
  refine zAl (rs:=[.t 2,.t 3]) (vs:=[.tmp 2,.tmp 3]) Tryz.func16 rfl rfl (.cons rfl (.cons rfl FitsL.nil)) (by decide) 30 rfl ?_
  unfold zAH at h;obtain⟨v,hv,h⟩:=zT h;have hS:=zIR hv;refine VE ?_
  cases v with
  |none=>
   have hS:zC qh 33 [.c (.v (.string script1))] (.tc (.c (.v (.pointer none))) (.tc (Bo false) .tn)) []:=hS;have h:some (((⟨#[]⟩:qf),false))=some r:=h;refine VS ?_
   refine YK 1 hS zFk ?_
   refine YF ?_
   refine zD7 ?_
   refine VE ?_
   refine zD4 (b:=true) kk (fun _=>?_) (fun e=>by cases e);refine VE ?_
   cases h;exact zEh VT
  |some cc=>
   have h:((zAW cc.2.2 FU 0 []).bind fun o8=>some (((⟨o8.toArray⟩:qf),true)))=some r:=h;simp only[elO]at hS;refine VS ?_
   refine YK 1 hS zFk ?_
   refine YF ?_
   refine zD7 ?_
   refine VE ?_
   refine zD4 (b:=false) kk (fun e=>by cases e) (fun _=>?_);refine zEl ?_
   show V _ _ _ _;obtain⟨q,hq,h⟩:=zT h;refine zZ2 (mb 30 16) [] rfl ?_
   refine qB8 rfl rfl rfl kk kk fun b=>?_
   refine qB7 ?_
   refine zSh (zFo ?_);refine YR 1 ?_
   refine L0u rfl rfl ?_
   refine YR 2 ?_
   refine L0 rfl rfl (zLH (c:=c9) (xs:=cc.2.2) Tryz.underlying49 rfl kk) ?_
   refine YF ?_
   show VB _ _ _ _ _ _;refine z1M ?_
   refine z9G (fun n s l=>∃(k:Int),s.keep (mb 30 3670080) []=(⟨bt 6 (bp b::bt 12 (.c (.sl (cc.2.2.map c9))::I ((cc.2.2.length:Int))::I k::bt 8 [])),[]⟩:St)∧zAW cc.2.2 n k l=some q) FU ⟨_,kk,hq⟩ ?_
   rintro n s l ⟨k,hs,h2⟩;refine z9H _ _ hs ?_
   clear hs hq hS hv;cases n with
   |zero=>cases h2
   |succ n=>
    rw[zAW]at h2;refine zSh (zFo ?_);refine YF ?_
    show VB _ _ _ _ _ _;refine zSh ?_
    refine VC h2 (fun h2=>?_) (fun h2=>?_)
    ·refine zEl ?_
     show VB _ _ _ _ _ _;obtain⟨e,he,h2⟩:=zT h2;obtain⟨u,hu,h2⟩:=zT h2;obtain⟨u2,hu2,h2⟩:=zT h2;refine z7g ?_
     refine z1M ?_
     refine zSh (zFo ?_);refine L0 rfl rfl (zSf (c:=c9) (xs:=cc.2.2) (v:=e) (n:=k) Tryz.underlying49 sz9 rfl kk kk he) ?_
     refine YF ?_
     show VB _ _ _ _ _ _;refine z4r ?_
     refine XLB_1 ?_
     refine z1J rfl (zB rfl (z2g (a:=e) (b:=⟨#[10]⟩) rfl kk kk (zQ3 hu))) ?_
     refine z4o rfl rfl rfl (z4J hu2) ?_
     refine z9B ?_
     show VB _ _ _ _ _ _;refine VB_V (zFo ?_);refine YF ?_
     exact⟨n,Nat.lt_succ_self n,_,kk,h2⟩
    ·refine zVC ?_
     cases h2;show VP _ _ _ _ _ _;refine z9F ?_
     refine z2j rfl rfl rfl ?_
     refine YF ?_
     cases h;exact zEh VT
def zHv(script1:qf):=fC zNU (zAH script1) fun _=>zOU
theorem z0t:CfW qh 14:=cfW Tryz.func14
noncomputable def z1Z(code1:List Int)(more2:List Int):T qh Bool:=
 .pl<|.joinC (.n0 (lenM ct5 code1)<|.selB (ltI 1048576 ((code1.length:Int))) false [.z (lenM ct5 more2),.z (lenM ct5 code1)] fun w_2=>.ret w_2) (mb 16 16) [] (fun s q_3 γ=>s.pc (mb 16 16) [] [(4,Bo (bif q_3 then true else (ltI (w64 (1048576 - ((code1.length:Int)))) ((more2.length:Int)))))] []) fun q_3=>
 .lt (bif q_3 then true else (ltI (w64 (1048576 - ((code1.length:Int)))) ((more2.length:Int)))) fun t4=>.ret t4
theorem z1i{code1:List Int}{more2:List Int}{r:Bool}(h:zDl code1 more2=some r):zC qh 14 [.c (.sl (code1.map c5)),.c (.sl (more2.map c5))] (Bo r) []:=CtU (z1Z code1 more2) 4 (fun r=>Bo r) Tryz.func14 rfl rfl h
def z2o(code1:List Int)(more2:List Int):=fC z0t (zDl code1 more2) fun _=>z1i
theorem zNJ:CfW qh 52:=cfW Tryz.func52
noncomputable def zNk(cc1:((List Int)×Int×Int)):T qh ((Int×((List Int)×Int×Int))):=
 .pl<|
 .pl<|.join (.draw 10 []<|.n0 au<|.n0 au<|.n0 (lenM ct5 cc1.1)<|
 .cond (ltI cc1.2.1 ((cc1.1.length:Int))) (.draw 12 []<|.n0 au<|.n0 au<|.op0 (idxM ct5 cc1.1 cc1.2.1) fun e4=>.n0 au<|
 .frc (IntKind.i64.wrap e4) fun b5=>.ret b5)<|.ret 0) (mb 62 9) [80000] (fun s j2 γ=>s.pc (mb 62 9) [80000] [(3,I j2)] []) fun j2=>
 .n0 au<|.n0 au<|
 .frc (w64 (cc1.2.1+1)) fun f6=>.n0 au<|.n0 au<|.n0 au<|.n0 au<|.n0 au<|.n0 au<|
 .frc (IntKind.u64.wrap ((IntKind.u64.wrap ((IntKind.u64.wrap (cc1.2.2*6364136223846793005))+(IntKind.u64.wrap j2)))+1442695040888963407)) fun f7=>.draw 10 []<|.n0 au<|.n0 au<|.n0 (lenM ct5 cc1.1)<|
 .cond (leI f6 ((cc1.1.length:Int))) (
 .ret ((j2,(cc1.1,f6,f7))))<|.n0 au<|.n0 dvN<|.n0 au<|.n0 au<|
 .frc (IntKind.i64.wrap (andI .u64 (shrI .u64 f7 40) 255)) fun t9=>.ret ((t9,(cc1.1,f6,f7)))
theorem zOJ{cc1:((List Int)×Int×Int)}{r:(Int×((List Int)×Int×Int))}(h:zCQ cc1=some r):zEi qh 52 [.pt 80000 0] [(80000,.box [.sl (cc1.1.map c5),Ti cc1.2.1,.v (.int .u64 cc1.2.2)])] (I r.1) [] [(80000,.box [.sl (r.2.1.map c5),Ti r.2.2.1,.v (.int .u64 r.2.2.2)])]:=CrT (zNk cc1) (fun r=>(I r.1,[])) (fun r=>[(80000,.box [.sl (r.2.1.map c5),Ti r.2.2.1,.v (.int .u64 r.2.2.2)])]) (rs:=[.t 2]) (vs:=[.tmp 2]) Tryz.func52 rfl rfl (.cons rfl FitsL.nil) h
def zHp(cc1:((List Int)×Int×Int)):=fR zNJ (zCQ cc1) fun _=>zOJ
theorem zNI:CfW qh 37:=cfW Tryz.func37
noncomputable def zNj(cc1:((List Int)×Int×Int))(vn2:Int):T qh ((Int×((List Int)×Int×Int))):=
 .cond (leI vn2 1) (
 .ret ((0,cc1)))<|.opx (zHp cc1) fun y4=>
 .cond (ltI 200 vn2) (.opx (zHp y4.2) fun y6=>
 .frc (w64 ((w64 (y4.1*256))+y6.1)) fun x7=>.op0 (remF .i64 x7 vn2) fun z8=>
 .frc (Int.tmod x7 vn2) fun t9=>.ret ((t9,y6.2)))<|.op0 (remF .i64 y4.1 vn2) fun z10=>
 .frc (Int.tmod y4.1 vn2) fun t11=>.ret ((t11,y4.2))
theorem zOI{cc1:((List Int)×Int×Int)}{vn2:Int}{r:(Int×((List Int)×Int×Int))}(h:zO cc1 vn2=some r):zEi qh 37 [.pt 80000 0,I vn2] [(80000,.box [.sl (cc1.1.map c5),Ti cc1.2.1,.v (.int .u64 cc1.2.2)])] (I r.1) [] [(80000,.box [.sl (r.2.1.map c5),Ti r.2.2.1,.v (.int .u64 r.2.2.2)])]:=CrT (zNj cc1 vn2) (fun r=>(I r.1,[])) (fun r=>[(80000,.box [.sl (r.2.1.map c5),Ti r.2.2.1,.v (.int .u64 r.2.2.2)])]) (rs:=[.t 4]) (vs:=[.tmp 4]) Tryz.func37 rfl rfl (.cons rfl FitsL.nil) h
def qQ(cc1:((List Int)×Int×Int))(vn2:Int):=fR zNI (zO cc1 vn2) fun _=>zOI
theorem zLk:CfW qh 35:=cfW Tryz.func35
noncomputable def zMZ(cc1:((List Int)×Int×Int))(list2:List Int):T qh ((Int×((List Int)×Int×Int))):=
 .n0 (lenM ct3 list2)<|.opx (qQ cc1 ((list2.length:Int))) fun y3=>.op0 (idxM ct3 list2 y3.1) fun e4=>
 .ret ((e4,y3.2))
theorem zMl{cc1:((List Int)×Int×Int)}{list2:List Int}{r:(Int×((List Int)×Int×Int))}(h:jX cc1 list2=some r):zEi qh 35 [.pt 80000 0,.c (.sl (list2.map c3))] [(80000,.box [.sl (cc1.1.map c5),Ti cc1.2.1,.v (.int .u64 cc1.2.2)])] (I r.1) [] [(80000,.box [.sl (r.2.1.map c5),Ti r.2.2.1,.v (.int .u64 r.2.2.2)])]:=CrT (zMZ cc1 list2) (fun r=>(I r.1,[])) (fun r=>[(80000,.box [.sl (r.2.1.map c5),Ti r.2.2.1,.v (.int .u64 r.2.2.2)])]) (rs:=[.t 4]) (vs:=[.tmp 4]) Tryz.func35 rfl rfl (.cons rfl FitsL.nil) h
def zDs(cc1:((List Int)×Int×Int))(list2:List Int):=fR zLk (jX cc1 list2) fun _=>zMl
theorem zQO:CfW qh 57:=cfW Tryz.func57
noncomputable def zRI(cc1:((List Int)×Int×Int))(list2:List qf):T qh ((qf×((List Int)×Int×Int))):=
 .n0 (lenM ct9 list2)<|.opx (qQ cc1 ((list2.length:Int))) fun y3=>.op0 (idxM ct9 list2 y3.1) fun e4=>
 .ret ((e4,y3.2))
theorem zR1{cc1:((List Int)×Int×Int)}{list2:List qf}{r:(qf×((List Int)×Int×Int))}(h:zBm cc1 list2=some r):zEi qh 57 [.pt 80000 0,.c (.sl (list2.map c9))] [(80000,.box [.sl (cc1.1.map c5),Ti cc1.2.1,.v (.int .u64 cc1.2.2)])] (.c (.v (.string r.1))) [] [(80000,.box [.sl (r.2.1.map c5),Ti r.2.2.1,.v (.int .u64 r.2.2.2)])]:=CrT (zRI cc1 list2) (fun r=>(.c (.v (.string r.1)),[])) (fun r=>[(80000,.box [.sl (r.2.1.map c5),Ti r.2.2.1,.v (.int .u64 r.2.2.2)])]) (rs:=[.t 4]) (vs:=[.tmp 4]) Tryz.func57 rfl rfl (.cons rfl FitsL.nil) h
def zGh(cc1:((List Int)×Int×Int))(list2:List qf):=fR zQO (zBm cc1 list2) fun _=>zR1
theorem zKV:CfW qh 53:=cfW Tryz.func53
noncomputable def zLN(cc1:((List Int)×Int×Int)):T qh ((qf×((List Int)×Int×Int))):=
 .n1 bsl<|.hint (frzH 32)<|.opx (zGh cc1 ([(⟨#[97]⟩:qf),(⟨#[98]⟩:qf),(⟨#[99]⟩:qf),(⟨#[97]⟩:qf),(⟨#[98]⟩:qf),(⟨#[100]⟩:qf),(⟨#[122]⟩:qf),(⟨#[109]⟩:qf),(⟨#[113]⟩:qf)])) fun y2=>
 .ret ((y2.1,y2.2))
theorem zL3{cc1:((List Int)×Int×Int)}{r:(qf×((List Int)×Int×Int))}(h:zAv cc1=some r):zEi qh 53 [.pt 80000 0] [(80000,.box [.sl (cc1.1.map c5),Ti cc1.2.1,.v (.int .u64 cc1.2.2)])] (.c (.v (.string r.1))) [] [(80000,.box [.sl (r.2.1.map c5),Ti r.2.2.1,.v (.int .u64 r.2.2.2)])]:=CrT (zLN cc1) (fun r=>(.c (.v (.string r.1)),[])) (fun r=>[(80000,.box [.sl (r.2.1.map c5),Ti r.2.2.1,.v (.int .u64 r.2.2.2)])]) (rs:=[.t 2]) (vs:=[.tmp 2]) Tryz.func53 rfl rfl (.cons rfl FitsL.nil) h
def zEm(cc1:((List Int)×Int×Int)):=fR zKV (zAv cc1) fun _=>zL3
theorem zJX:CfW qh 56:=cfW Tryz.func56
noncomputable def zJ7(cc1:((List Int)×Int×Int))(d2:Int):T qh ((τF×((List Int)×Int×Int))):=
 .op1 (zMO d2) fun y3=>
 .n0 (lenM ct42 y3)<|.opx (qQ cc1 ((y3.length:Int))) fun y4=>.op0 (zBF ct42 y3 y4.1) fun e5=>.op0 (ldo ct42 y3 y4.1) fun e6=>
 .ret ((e6,y4.2))
theorem zJn{cc1:((List Int)×Int×Int)}{d2:Int}{r:(τF×((List Int)×Int×Int))}(h:zB0 cc1 d2=some r):zEi qh 56 [.pt 80000 0,I d2] [(80000,.box [.sl (cc1.1.map c5),Ti cc1.2.1,.v (.int .u64 cc1.2.2)])] (.ag [Ti r.1.1,Ti r.1.2.1,Ti r.1.2.2]) [] [(80000,.box [.sl (r.2.1.map c5),Ti r.2.2.1,.v (.int .u64 r.2.2.2)])]:=CrT (zJ7 cc1 d2) (fun r=>(.ag [Ti r.1.1,Ti r.1.2.1,Ti r.1.2.2],[])) (fun r=>[(80000,.box [.sl (r.2.1.map c5),Ti r.2.2.1,.v (.int .u64 r.2.2.2)])]) (rs:=[.w 4 3]) (vs:=[.cell 4 42]) Tryz.func56 rfl rfl (.cons ⟨rfl,wd42⟩ FitsL.nil) h
def zK8(cc1:((List Int)×Int×Int))(d2:Int):=fR zJX (zB0 cc1 d2) fun _=>zJn
theorem zKU:CfW qh 84:=cfW Tryz.func84
noncomputable def zLM(cc1:((List Int)×Int×Int)):T qh ((τM×((List Int)×Int×Int))):=
 .n0 (bld zD6 zDf)<|
 .opx (qQ cc1 6) fun y2=>
 .loop (fun n X_1=>jL n X_1.1 X_1.2.1 X_1.2.2.1 X_1.2.2.2.1 X_1.2.2.2.2.1 X_1.2.2.2.2.2.1 X_1.2.2.2.2.2.2.1 X_1.2.2.2.2.2.2.2) ((y2.1,1,0,0,1,y2.2.1,y2.2.2.1,y2.2.2.2)) (mb 34 29) [24,16,80000] (fun s X_1 γ=>s.pc (mb 34 29) [24,16,80000] [(4,I X_1.1)] [(24,.box [Ti X_1.2.1,Ti X_1.2.2.1,Ti X_1.2.2.2.1,Ti X_1.2.2.2.2.1]),(80000,s.pbx 80000 [.sl (X_1.2.2.2.2.2.1.map c5),Ti X_1.2.2.2.2.2.2.1,.v (.int .u64 X_1.2.2.2.2.2.2.2)])]) (fun X_1=>
 .cond (ltI 0 X_1.1) (.opx (qQ ((X_1.2.2.2.2.2.1,X_1.2.2.2.2.2.2.1,X_1.2.2.2.2.2.2.2)) 9) fun y14=>
 .frc (w64 (y14.1 - 4)) fun t15=>.opx (qQ y14.2 3) fun y16=>
 .cond (eqI y16.1 0) (.n0 (bld zD6 zDf)<|.op1 (zDW ((X_1.2.1,X_1.2.2.1,X_1.2.2.2.1,X_1.2.2.2.2.1)) ((1,t15,0,1))) fun y18=>
 .frc (w64 (X_1.1 - 1)) fun k19=>.ret (.inl ((k19,y18.1,y18.2.1,y18.2.2.1,y18.2.2.2,y16.2.1,y16.2.2.1,y16.2.2.2))))<|
 .cond (eqI y16.1 1) (.n0 (bld zD6 zDf)<|.op1 (zDW ((X_1.2.1,X_1.2.2.1,X_1.2.2.2.1,X_1.2.2.2.2.1)) ((1,0,t15,1))) fun y21=>
 .frc (w64 (X_1.1 - 1)) fun k22=>.ret (.inl ((k22,y21.1,y21.2.1,y21.2.2.1,y21.2.2.2,y16.2.1,y16.2.2.1,y16.2.2.2))))<|.n0 (bld zD6 zDf)<|.op1 (zDW ((X_1.2.1,X_1.2.2.1,X_1.2.2.2.1,X_1.2.2.2.2.1)) ((0,-1,1,0))) fun y23=>
 .frc (w64 (X_1.1 - 1)) fun k24=>.ret (.inl ((k24,y23.1,y23.2.1,y23.2.2.1,y23.2.2.2,y16.2.1,y16.2.2.1,y16.2.2.2))))<|.ret (.inr ((X_1.2.1,X_1.2.2.1,X_1.2.2.2.1,X_1.2.2.2.2.1,X_1.2.2.2.2.2.1,X_1.2.2.2.2.2.2.1,X_1.2.2.2.2.2.2.2)))) (mb 34 12) [24,16,80000] (fun s o12 γ=>s.pc (mb 34 12) [24,16,80000] [] [(24,.box [Ti o12.1,Ti o12.2.1,Ti o12.2.2.1,Ti o12.2.2.2.1]),(80000,s.pbx 80000 [.sl (o12.2.2.2.2.1.map c5),Ti o12.2.2.2.2.2.1,.v (.int .u64 o12.2.2.2.2.2.2)])]) fun o12=>
 .ret (((o12.1,o12.2.1,o12.2.2.1,o12.2.2.2.1),o12.2.2.2.2))
theorem zL2{cc1:((List Int)×Int×Int)}{r:(τM×((List Int)×Int×Int))}(h:zCa cc1=some r):zEi qh 84 [.pt 80000 0] [(80000,.box [.sl (cc1.1.map c5),Ti cc1.2.1,.v (.int .u64 cc1.2.2)])] (.ag [Ti r.1.1,Ti r.1.2.1,Ti r.1.2.2.1,Ti r.1.2.2.2]) [] [(80000,.box [.sl (r.2.1.map c5),Ti r.2.2.1,.v (.int .u64 r.2.2.2)])]:=CrT (zLM cc1) (fun r=>(.ag [Ti r.1.1,Ti r.1.2.1,Ti r.1.2.2.1,Ti r.1.2.2.2],[])) (fun r=>[(80000,.box [.sl (r.2.1.map c5),Ti r.2.2.1,.v (.int .u64 r.2.2.2)])]) (rs:=[.w 2 4]) (vs:=[.cell 2 120]) Tryz.func84 rfl rfl (.cons ⟨rfl,zFY⟩ FitsL.nil) h
def zLx(cc1:((List Int)×Int×Int)):=fR zKU (zCa cc1) fun _=>zL2
theorem zLj:CfW qh 55:=cfW Tryz.func55
noncomputable def zMY(cc1:((List Int)×Int×Int))(f2:τF):T qh ((τF×((List Int)×Int×Int))):=
 .pl<|.joinC (.drawL [1,1,0,0,1,1]<|.opx (zLx cc1) fun y3=>.op1 (zPC f2 y3.1) fun y4=>.ret (y3,y4)) (mb 15 56) [40,32,24,80000] (fun s q_1 γ=>s.pc (mb 15 56) [40,32,24,80000] [(5,.pt 40 0)] [(40,.box [Ti q_1.2.1,Ti q_1.2.2.1,Ti q_1.2.2.2]),(80000,s.pbx 80000 [.sl (q_1.1.2.1.map c5),Ti q_1.1.2.2.1,.v (.int .u64 q_1.1.2.2.2)])]) fun q_1=>
 .op1 (zMR q_1.2) fun y5=>
 .cond (!y5) (
 .ret ((f2,q_1.1.2)))<|
 .ret ((q_1.2,q_1.1.2))
theorem zMk{cc1:((List Int)×Int×Int)}{f2:τF}{r:(τF×((List Int)×Int×Int))}(h:zCu cc1 f2=some r):zEi qh 55 [.pt 80000 0,.ag [Ti f2.1,Ti f2.2.1,Ti f2.2.2]] [(80000,.box [.sl (cc1.1.map c5),Ti cc1.2.1,.v (.int .u64 cc1.2.2)])] (.ag [Ti r.1.1,Ti r.1.2.1,Ti r.1.2.2]) [] [(80000,.box [.sl (r.2.1.map c5),Ti r.2.2.1,.v (.int .u64 r.2.2.2)])]:=CrT (zMY cc1 f2) (fun r=>(.ag [Ti r.1.1,Ti r.1.2.1,Ti r.1.2.2],[])) (fun r=>[(80000,.box [.sl (r.2.1.map c5),Ti r.2.2.1,.v (.int .u64 r.2.2.2)])]) (rs:=[.w 4 3]) (vs:=[.cell 4 42]) Tryz.func55 rfl rfl (.cons ⟨rfl,wd42⟩ FitsL.nil) h
def zN5(cc1:((List Int)×Int×Int))(f2:τF):=fR zLj (zCu cc1 f2) fun _=>zMk
theorem zKS:CfW qh 58:=cfW Tryz.func58
noncomputable def zLK(cc1:((List Int)×Int×Int))(t2:qf)(vwith3:qf):T qh ((qf×((List Int)×Int×Int))):=
 .opx (qQ cc1 2) fun y4=>
 .frc (w64 (1+y4.1)) fun vn5=>.loop (fun n X_34=>jK vwith3 n X_34.1 X_34.2.1 X_34.2.2.1 X_34.2.2.2.1 X_34.2.2.2.2) ((t2,vn5,y4.2.1,y4.2.2.1,y4.2.2.2)) (mb 68 135) [80000] (fun s X_34 γ=>s.pc (mb 68 135) [80000] [(1,.c (.v (.string X_34.1))),(7,I X_34.2.1)] [(80000,s.pbx 80000 [.sl (X_34.2.2.1.map c5),Ti X_34.2.2.2.1,.v (.int .u64 X_34.2.2.2.2)])]) (fun X_34=>
 .dn<|.joinC (.selB (ltI 0 X_34.2.1) true [] fun w_32=>.ret w_32) (mb 68 524423) [80000] (fun s q_33 γ=>s.pc (mb 68 524423) [80000] [(19,Bo (bif q_33 then (ltI 0 ((X_34.1.size:Int))) else false))] []) fun q_33=>
 .cond (bif q_33 then (ltI 0 ((X_34.1.size:Int))) else false) (.opx (qQ ((X_34.2.2.1,X_34.2.2.2.1,X_34.2.2.2.2)) ((X_34.1.size:Int))) fun y15=>
 .opx (qQ y15.2 ((vwith3.size:Int))) fun y16=>.op0 (idxs vwith3 y16.1) fun e17=>.n1 bsl<|.n0 (b2s ct5 (fun _=>rfl) (([e17])))<|
 .opx (qQ y16.2 3) fun y18=>
 .cond (eqI y18.1 0) (.draw 10 []<|.op0 (zEJ X_34.1 0 y15.1) fun u20=>.op0 (cat (X_34.1.extract (Int.toNat 0) (Int.toNat y15.1)) (zAy ([e17]))) fun u21=>.op0 (zEJ X_34.1 y15.1 ((X_34.1.size:Int))) fun u22=>.op0 (cat ((X_34.1.extract (Int.toNat 0) (Int.toNat y15.1))++(zAy ([e17]))) (X_34.1.extract (Int.toNat y15.1) (Int.toNat ((X_34.1.size:Int))))) fun u23=>
 .frc (w64 (X_34.2.1 - 1)) fun vn24=>.ret (.inl ((((X_34.1.extract (Int.toNat 0) (Int.toNat y15.1))++(zAy ([e17])))++(X_34.1.extract (Int.toNat y15.1) (Int.toNat ((X_34.1.size:Int)))),vn24,y18.2.1,y18.2.2.1,y18.2.2.2))))<|
 .cond (eqI y18.1 1) (.draw 11 []<|.op0 (zEJ X_34.1 0 y15.1) fun u26=>.op0 (cat (X_34.1.extract (Int.toNat 0) (Int.toNat y15.1)) (zAy ([e17]))) fun u27=>.op0 (zEJ X_34.1 (w64 (y15.1+1)) ((X_34.1.size:Int))) fun u28=>.op0 (cat ((X_34.1.extract (Int.toNat 0) (Int.toNat y15.1))++(zAy ([e17]))) (X_34.1.extract (Int.toNat (w64 (y15.1+1))) (Int.toNat ((X_34.1.size:Int))))) fun u29=>
 .frc (w64 (X_34.2.1 - 1)) fun vn30=>.ret (.inl ((((X_34.1.extract (Int.toNat 0) (Int.toNat y15.1))++(zAy ([e17])))++(X_34.1.extract (Int.toNat (w64 (y15.1+1))) (Int.toNat ((X_34.1.size:Int)))),vn30,y18.2.1,y18.2.2.1,y18.2.2.2))))<|.draw 9 []<|.op0 (zEJ X_34.1 0 y15.1) fun u31=>.op0 (zEJ X_34.1 (w64 (y15.1+1)) ((X_34.1.size:Int))) fun u32=>.op0 (cat (X_34.1.extract (Int.toNat 0) (Int.toNat y15.1)) (X_34.1.extract (Int.toNat (w64 (y15.1+1))) (Int.toNat ((X_34.1.size:Int))))) fun u33=>
 .frc (w64 (X_34.2.1 - 1)) fun vn34=>.ret (.inl (((X_34.1.extract (Int.toNat 0) (Int.toNat y15.1))++(X_34.1.extract (Int.toNat (w64 (y15.1+1))) (Int.toNat ((X_34.1.size:Int)))),vn34,y18.2.1,y18.2.2.1,y18.2.2.2))))<|.ret (.inr ((X_34.1,X_34.2.2.1,X_34.2.2.2.1,X_34.2.2.2.2)))) (mb 68 2) [80000] (fun s o12 γ=>s.pc (mb 68 2) [80000] [(1,.c (.v (.string o12.1)))] [(80000,s.pbx 80000 [.sl (o12.2.1.map c5),Ti o12.2.2.1,.v (.int .u64 o12.2.2.2)])]) fun o12=>
 .ret ((o12.1,o12.2))
theorem zL0{cc1:((List Int)×Int×Int)}{t2:qf}{vwith3:qf}{r:(qf×((List Int)×Int×Int))}(h:zC8 cc1 t2 vwith3=some r):zEi qh 58 [.pt 80000 0,.c (.v (.string t2)),.c (.v (.string vwith3))] [(80000,.box [.sl (cc1.1.map c5),Ti cc1.2.1,.v (.int .u64 cc1.2.2)])] (.c (.v (.string r.1))) [] [(80000,.box [.sl (r.2.1.map c5),Ti r.2.2.1,.v (.int .u64 r.2.2.2)])]:=CrT (zLK cc1 t2 vwith3) (fun r=>(.c (.v (.string r.1)),[])) (fun r=>[(80000,.box [.sl (r.2.1.map c5),Ti r.2.2.1,.v (.int .u64 r.2.2.2)])]) (rs:=[.t 6]) (vs:=[.tmp 6]) Tryz.func58 rfl rfl (.cons rfl FitsL.nil) h
def zLv(cc1:((List Int)×Int×Int))(t2:qf)(vwith3:qf):=fR zKS (zC8 cc1 t2 vwith3) fun _=>zL0
theorem zKT:CfW qh 38:=cfW Tryz.func38
noncomputable def zLL(cc1:((List Int)×Int×Int))(d2:Int):T qh ((qf×((List Int)×Int×Int))):=
 .opx (zEm cc1) fun y3=>.opx (zEm y3.2) fun y4=>.opx (zEm y4.2) fun y5=>
 .opx (qQ y5.2 16) fun y6=>
 .cond (eqI y6.1 0) (.n1 bsl<|.hint (frzH 152)<|.opx (zDs y6.2 ([-23,-84,-420,-3,-4,-47,-20,-5,5,-2000])) fun y8=>.op1 (zBU y8.1) fun y9=>.op0 (cat ((⟨#[100,105,115,99,32]⟩:qf)) y9) fun u10=>
 .ret ((((⟨#[100,105,115,99,32]⟩:qf))++y9,y8.2)))<|.join (
 .cond (eqI y6.1 1) (.ret (eqI y6.1 1))<|
 .ret (eqI y6.1 2)) (mb 117 8421603) [80000] (fun s j11 γ=>s.pc (mb 117 8421603) [80000] [(23,Bo j11)] []) fun j11=>
 .cond j11 (.op0 (cat ((⟨#[115,101,116,32]⟩:qf)) y3.1) fun u14=>.op0 (cat (((⟨#[115,101,116,32]⟩:qf))++y3.1) ((⟨#[32]⟩:qf))) fun u15=>.opx (zK8 y6.2 d2) fun y16=>.opx (zN5 y16.2 y16.1) fun y17=>.op1 (zCj y17.1) fun y18=>.op0 (cat ((((⟨#[115,101,116,32]⟩:qf))++y3.1)++((⟨#[32]⟩:qf))) y18) fun u19=>
 .ret ((((((⟨#[115,101,116,32]⟩:qf))++y3.1)++((⟨#[32]⟩:qf)))++y18,y17.2)))<|.join (
 .cond (eqI y6.1 3) (.ret (eqI y6.1 3))<|
 .ret (eqI y6.1 4)) (mb 117 68719509729) [80000] (fun s j20 γ=>s.pc (mb 117 68719509729) [80000] [(36,Bo j20)] []) fun j20=>
 .cond j20 (.op0 (cat ((⟨#[112,114,105,109,101,32]⟩:qf)) y3.1) fun u23=>.op0 (cat (((⟨#[112,114,105,109,101,32]⟩:qf))++y3.1) ((⟨#[32]⟩:qf))) fun u24=>.n1 bsl<|.hint (frzH 344)<|.opx (zDs y6.2 ([2,3,5,7,11,13,23,4,-2])) fun y25=>.op1 (zBU y25.1) fun y26=>.op0 (cat ((((⟨#[112,114,105,109,101,32]⟩:qf))++y3.1)++((⟨#[32]⟩:qf))) y26) fun u27=>
 .ret ((((((⟨#[112,114,105,109,101,32]⟩:qf))++y3.1)++((⟨#[32]⟩:qf)))++y26,y25.2)))<|.join (
 .cond (eqI y6.1 5) (.ret (eqI y6.1 5))<|
 .ret (eqI y6.1 6)) (mb 117 140737488388321) [80000] (fun s j28 γ=>s.pc (mb 117 140737488388321) [80000] [(47,Bo j28)] []) fun j28=>
 .cond j28 (.op0 (cat ((⟨#[109,117,108,32]⟩:qf)) y3.1) fun u31=>.op0 (cat (((⟨#[109,117,108,32]⟩:qf))++y3.1) ((⟨#[32]⟩:qf))) fun u32=>.op0 (cat ((((⟨#[109,117,108,32]⟩:qf))++y3.1)++((⟨#[32]⟩:qf))) y4.1) fun u33=>.op0 (cat (((((⟨#[109,117,108,32]⟩:qf))++y3.1)++((⟨#[32]⟩:qf)))++y4.1) ((⟨#[32]⟩:qf))) fun u34=>.op0 (cat ((((((⟨#[109,117,108,32]⟩:qf))++y3.1)++((⟨#[32]⟩:qf)))++y4.1)++((⟨#[32]⟩:qf))) y5.1) fun u35=>
 .ret ((((((((⟨#[109,117,108,32]⟩:qf))++y3.1)++((⟨#[32]⟩:qf)))++y4.1)++((⟨#[32]⟩:qf)))++y5.1,y6.2)))<|
 .cond (eqI y6.1 7) (.op0 (cat ((⟨#[112,111,119,32]⟩:qf)) y3.1) fun u37=>.op0 (cat (((⟨#[112,111,119,32]⟩:qf))++y3.1) ((⟨#[32]⟩:qf))) fun u38=>.op0 (cat ((((⟨#[112,111,119,32]⟩:qf))++y3.1)++((⟨#[32]⟩:qf))) y4.1) fun u39=>.op0 (cat (((((⟨#[112,111,119,32]⟩:qf))++y3.1)++((⟨#[32]⟩:qf)))++y4.1) ((⟨#[32]⟩:qf))) fun u40=>.opx (qQ y6.2 15) fun y41=>.op1 (zBU (w64 (y41.1 - 5))) fun y42=>.op0 (cat ((((((⟨#[112,111,119,32]⟩:qf))++y3.1)++((⟨#[32]⟩:qf)))++y4.1)++((⟨#[32]⟩:qf))) y42) fun u43=>
 .ret ((((((((⟨#[112,111,119,32]⟩:qf))++y3.1)++((⟨#[32]⟩:qf)))++y4.1)++((⟨#[32]⟩:qf)))++y42,y41.2)))<|
 .cond (eqI y6.1 8) (.op0 (cat ((⟨#[102,114,101,101,32]⟩:qf)) y3.1) fun u45=>
 .ret ((((⟨#[102,114,101,101,32]⟩:qf))++y3.1,y6.2)))<|
 .cond (eqI y6.1 9) (.n1 bsl<|.hint (frzH 624)<|.opx (zGh y6.2 ([(⟨#[115,104,111,119,32]⟩:qf),(⟨#[105,110,100,101,120,32]⟩:qf),(⟨#[111,114,100,101,114,32]⟩:qf),(⟨#[103,101,110,117,115,32]⟩:qf),(⟨#[115,104,111,119,32]⟩:qf)])) fun y47=>.op0 (cat y47.1 y4.1) fun u48=>
 .ret ((y47.1++y4.1,y47.2)))<|
 .cond (eqI y6.1 10) (.op0 (cat ((⟨#[118,97,108,117,101,32]⟩:qf)) y4.1) fun u50=>.op0 (cat (((⟨#[118,97,108,117,101,32]⟩:qf))++y4.1) ((⟨#[32]⟩:qf))) fun u51=>.opx (qQ y6.2 60) fun y52=>.op1 (zBU y52.1) fun y53=>.op0 (cat ((((⟨#[118,97,108,117,101,32]⟩:qf))++y4.1)++((⟨#[32]⟩:qf))) y53) fun u54=>
 .ret ((((((⟨#[118,97,108,117,101,32]⟩:qf))++y4.1)++((⟨#[32]⟩:qf)))++y53,y52.2)))<|
 .cond (eqI y6.1 11) (.op0 (cat ((⟨#[115,97,109,101,32]⟩:qf)) y4.1) fun u56=>.op0 (cat (((⟨#[115,97,109,101,32]⟩:qf))++y4.1) ((⟨#[32]⟩:qf))) fun u57=>.op0 (cat ((((⟨#[115,97,109,101,32]⟩:qf))++y4.1)++((⟨#[32]⟩:qf))) y5.1) fun u58=>
 .ret ((((((⟨#[115,97,109,101,32]⟩:qf))++y4.1)++((⟨#[32]⟩:qf)))++y5.1,y6.2)))<|
 .cond (eqI y6.1 12) (
 .ret (((⟨#[110,97,109,101,115]⟩:qf),y6.2)))<|
 .cond (eqI y6.1 13) (
 .ret (((⟨#[117,110,100,111]⟩:qf),y6.2)))<|
 .cond (eqI y6.1 14) (.op0 (cat ((⟨#[109,117,108,32]⟩:qf)) y3.1) fun u62=>.op0 (cat (((⟨#[109,117,108,32]⟩:qf))++y3.1) ((⟨#[32]⟩:qf))) fun u63=>.op0 (cat ((((⟨#[109,117,108,32]⟩:qf))++y3.1)++((⟨#[32]⟩:qf))) y4.1) fun u64=>.op0 (cat (((((⟨#[109,117,108,32]⟩:qf))++y3.1)++((⟨#[32]⟩:qf)))++y4.1) ((⟨#[32]⟩:qf))) fun u65=>.op0 (cat ((((((⟨#[109,117,108,32]⟩:qf))++y3.1)++((⟨#[32]⟩:qf)))++y4.1)++((⟨#[32]⟩:qf))) y5.1) fun u66=>.opx (zLv y6.2 (((((((⟨#[109,117,108,32]⟩:qf))++y3.1)++((⟨#[32]⟩:qf)))++y4.1)++((⟨#[32]⟩:qf)))++y5.1) ((⟨#[97,98,99,109,117,108,32,45,48,49,32]⟩:qf))) fun y67=>
 .ret ((y67.1,y67.2)))<|.n1 bsl<|.hint (frzH 920)<|.opx (zGh y6.2 ([(⟨#[]⟩:qf),(⟨#[32]⟩:qf),(⟨#[102,108,121]⟩:qf),(⟨#[110,97,109,101,115,32]⟩:qf),(⟨#[115,104,111,119,32,65]⟩:qf),(⟨#[115,101,116,32,97,32,40,49,44,49,44,54]⟩:qf),(⟨#[100,105,115,99,32,45,48,50,51]⟩:qf),(⟨#[115,104,111,119,32,97,98]⟩:qf),(⟨#[111,114,100,101,114,32,32,97]⟩:qf)])) fun y68=>
 .ret ((y68.1,y68.2))
theorem zL1{cc1:((List Int)×Int×Int)}{d2:Int}{r:(qf×((List Int)×Int×Int))}(h:zC9 cc1 d2=some r):zEi qh 38 [.pt 80000 0,I d2] [(80000,.box [.sl (cc1.1.map c5),Ti cc1.2.1,.v (.int .u64 cc1.2.2)])] (.c (.v (.string r.1))) [] [(80000,.box [.sl (r.2.1.map c5),Ti r.2.2.1,.v (.int .u64 r.2.2.2)])]:=CrT (zLL cc1 d2) (fun r=>(.c (.v (.string r.1)),[])) (fun r=>[(80000,.box [.sl (r.2.1.map c5),Ti r.2.2.1,.v (.int .u64 r.2.2.2)])]) (rs:=[.t 4]) (vs:=[.tmp 4]) Tryz.func38 rfl rfl (.cons rfl FitsL.nil) h
def zLw(cc1:((List Int)×Int×Int))(d2:Int):=fR zKT (zC9 cc1 d2) fun _=>zL1
theorem zIx:CfW qh 15:=cfW Tryz.func15
noncomputable def zJO(code1:List Int):T qh qf:=
 .n0 (bld pl70 bt70)<|
 .n1 bsl<|.hint (frzH 104)<|.opx (zDs ((code1,0,0)) ([-23,-23,-84,-420,-47])) fun y2=>
 .pl<|.join (
 .cond (!eqI y2.1 (-23)) (.op1 (zBU y2.1) fun y5=>.op0 (cat ((⟨#[100,105,115,99,32]⟩:qf)) y5) fun u6=>.op0 (cat (((⟨#[100,105,115,99,32]⟩:qf))++y5) ((⟨#[10]⟩:qf))) fun u7=>
 .ret ((((⟨#[100,105,115,99,32]⟩:qf))++y5)++((⟨#[10]⟩:qf))))<|.ret ((⟨#[]⟩:qf))) (mb 72 56) [88] (fun s j3 γ=>s.pc (mb 72 56) [88] [(5,.c (.v (.string j3)))] []) fun j3=>
 .opx (qQ y2.2 24) fun y8=>
 .loop (fun n X_3=>zAN y2 n X_3.1 X_3.2.1 X_3.2.2.1 X_3.2.2.2.1 X_3.2.2.2.2) ((j3,y8.1,y8.2.1,y8.2.2.1,y8.2.2.2)) (mb 72 120) [88] (fun s X_3 γ=>s.pc (mb 72 120) [88] [(5,.c (.v (.string X_3.1))),(6,I X_3.2.1)] [(88,.box [.sl (X_3.2.2.1.map c5),Ti X_3.2.2.2.1,.v (.int .u64 X_3.2.2.2.2)])]) (fun X_3=>
 .cond (ltI 0 X_3.2.1) (.opx (zLw ((X_3.2.2.1,X_3.2.2.2.1,X_3.2.2.2.2)) y2.1) fun y17=>.op0 (cat y17.1 ((⟨#[10]⟩:qf))) fun u18=>.op0 (cat X_3.1 (y17.1++((⟨#[10]⟩:qf)))) fun u19=>
 .frc (w64 (X_3.2.1 - 1)) fun vn20=>.ret (.inl ((X_3.1++(y17.1++((⟨#[10]⟩:qf))),vn20,y17.2.1,y17.2.2.1,y17.2.2.2))))<|.ret (.inr ((X_3.1,X_3.2.2.1,X_3.2.2.2.1,X_3.2.2.2.2)))) (mb 72 40) [88] (fun s o15 γ=>s.pc (mb 72 40) [88] [(5,.c (.v (.string o15.1)))] [(88,.box [.sl (o15.2.1.map c5),Ti o15.2.2.1,.v (.int .u64 o15.2.2.2)])]) fun o15=>
 .opx (qQ o15.2 20) fun y21=>
 .cond (eqI y21.1 0) (
 .cond (!(o15.1.toList==((⟨#[]⟩:qf)).toList)) (.op0 (zEJ o15.1 0 (w64 (((o15.1.size:Int)) - 1))) fun u24=>
 .ret (o15.1.extract (Int.toNat 0) (Int.toNat (w64 (((o15.1.size:Int)) - 1)))))<|
 .ret o15.1)<|
 .cond (eqI y21.1 1) (.n1 bsl<|.hint (frzH 376)<|.opx (zDs y21.2 ([50,59,60,61])) fun y26=>
 .loop (fun n X_1=>zAM n X_1.1 X_1.2) ((o15.1,y26.1)) (mb 72 160) [] (fun s X_1 γ=>s.pc (mb 72 160) [] [(5,.c (.v (.string X_1.1))),(7,I X_1.2)] []) (fun X_1=>
 .cond (ltI 0 X_1.2) (.op0 (cat X_1.1 ((⟨#[110,97,109,101,115,10]⟩:qf))) fun u32=>
 .frc (w64 (X_1.2 - 1)) fun vn33=>.ret (.inl ((X_1.1++((⟨#[110,97,109,101,115,10]⟩:qf)),vn33))))<|.ret (.inr X_1.1)) (mb 72 32) [] (fun s o30 γ=>s.pc (mb 72 32) [] [(5,.c (.v (.string o30)))] []) fun o30=>
 .ret o30)<|
 .cond (eqI y21.1 2) (
 .loop (fun n X_2=>zAL n X_2.1 X_2.2) ((o15.1,0)) (mb 72 288) [] (fun s X_2 γ=>s.pc (mb 72 288) [] [(5,.c (.v (.string X_2.1))),(8,I X_2.2)] []) (fun X_2=>
 .cond (ltI X_2.2 9) (.op0 (zEJ ((⟨#[97,98,99,100,101,102,103,104,105]⟩:qf)) X_2.2 (w64 (X_2.2+1))) fun u40=>.op0 (cat ((⟨#[112,114,105,109,101,32]⟩:qf)) (((⟨#[97,98,99,100,101,102,103,104,105]⟩:qf)).extract (Int.toNat X_2.2) (Int.toNat (w64 (X_2.2+1))))) fun u41=>.op0 (cat (((⟨#[112,114,105,109,101,32]⟩:qf))++(((⟨#[97,98,99,100,101,102,103,104,105]⟩:qf)).extract (Int.toNat X_2.2) (Int.toNat (w64 (X_2.2+1))))) ((⟨#[32,50,10]⟩:qf))) fun u42=>.op0 (cat X_2.1 ((((⟨#[112,114,105,109,101,32]⟩:qf))++(((⟨#[97,98,99,100,101,102,103,104,105]⟩:qf)).extract (Int.toNat X_2.2) (Int.toNat (w64 (X_2.2+1)))))++((⟨#[32,50,10]⟩:qf)))) fun u43=>
 .frc (w64 (X_2.2+1)) fun k44=>.ret (.inl ((X_2.1++((((⟨#[112,114,105,109,101,32]⟩:qf))++(((⟨#[97,98,99,100,101,102,103,104,105]⟩:qf)).extract (Int.toNat X_2.2) (Int.toNat (w64 (X_2.2+1)))))++((⟨#[32,50,10]⟩:qf))),k44))))<|.ret (.inr X_2.1)) (mb 72 32) [] (fun s o38 γ=>s.pc (mb 72 32) [] [(5,.c (.v (.string o38)))] []) fun o38=>
 .op0 (cat o38 ((⟨#[110,97,109,101,115,10,117,110,100,111,10,117,110,100,111,10,110,97,109,101,115,10]⟩:qf))) fun u45=>
 .ret (o38++((⟨#[110,97,109,101,115,10,117,110,100,111,10,117,110,100,111,10,110,97,109,101,115,10]⟩:qf))))<|
 .ret o15.1
theorem zJR{code1:List Int}{r:qf}(h:zBq code1=some r):zC qh 15 [.c (.sl (code1.map c5))] (.c (.v (.string r))) []:=CtU (zJO code1) 2 (fun r=>.c (.v (.string r))) Tryz.func15 rfl rfl h
def zJ4(code1:List Int):=fC zIx (zBq code1) fun _=>zJR
theorem zUl:CfW qh 23:=cfW Tryz.func23
noncomputable def zVl(a1:List τF)(b2:List τF):T qh Bool:=
 .n0 (lenM ct42 a1)<|.n0 (lenM ct42 b2)<|
 .cond (!eqI ((a1.length:Int)) ((b2.length:Int))) (
 .ret false)<|.n0 (lenM ct42 a1)<|
 .loopS (fun n X_1=>zCn a1 b2 n X_1) 0 (mb 26 12291) [] (fun s X_1 γ=>s.pc (mb 26 12291) [] [(13,I X_1)] []) (fun X_1=>
 .cond (ltI X_1 ((a1.length:Int))) (
 .draw 9 []<|.op0 (idxM ct42 a1 X_1) fun e8=>.op0 (idxM ct42 b2 X_1) fun e9=>.n0 (neg3 zXE)<|
 .lt (!((e8.1==e9.1)&&((e8.2.1==e9.2.1)&&(e8.2.2==e9.2.2)))) fun t10=>.cond t10 (
 .ret (.early false))<|
 .frc (w64 (X_1+1)) fun t12=>.ret (.again t12))<|.ret (.done (()))) (mb 26 0) [] (fun s o6 γ=>s.pc (mb 26 0) [] [] []) (fun r=>r) fun o6=>
 .ret true
theorem zWJ{a1:List τF}{b2:List τF}{r:Bool}(h:zED a1 b2=some r):zC qh 23 [.c (.sl (a1.map c42)),.c (.sl (b2.map c42))] (Bo r) []:=CtU (zVl a1 b2) 4 (fun r=>Bo r) Tryz.func23 rfl rfl h
def zML(a1:List τF)(b2:List τF):=fCs zUl (zED a1 b2) (fun _=>zWJ) fun _=>rfl
theorem zQS:CfW qh 24:=cfW Tryz.func24
noncomputable def zRM(a1:List Int)(b2:List Int):T qh Bool:=
 .n0 (lenM ct3 a1)<|.n0 (lenM ct3 b2)<|
 .cond (!eqI ((a1.length:Int)) ((b2.length:Int))) (
 .ret false)<|.n0 (lenM ct3 a1)<|
 .loopS (fun n X_1=>zBy a1 b2 n X_1) 0 (mb 26 12291) [] (fun s X_1 γ=>s.pc (mb 26 12291) [] [(13,I X_1)] []) (fun X_1=>
 .cond (ltI X_1 ((a1.length:Int))) (
 .draw 9 []<|.op0 (idxM ct3 a1 X_1) fun e8=>.op0 (idxM ct3 b2 X_1) fun e9=>
 .cond (!eqI e8 e9) (
 .ret (.early false))<|
 .frc (w64 (X_1+1)) fun t11=>.ret (.again t11))<|.ret (.done (()))) (mb 26 0) [] (fun s o6 γ=>s.pc (mb 26 0) [] [] []) (fun r=>r) fun o6=>
 .ret true
theorem zR5{a1:List Int}{b2:List Int}{r:Bool}(h:zDx a1 b2=some r):zC qh 24 [.c (.sl (a1.map c3)),.c (.sl (b2.map c3))] (Bo r) []:=CtU (zRM a1 b2) 4 (fun r=>Bo r) Tryz.func24 rfl rfl h
def zSG(a1:List Int)(b2:List Int):=fCs zQS (zDx a1 b2) (fun _=>zR5) fun _=>rfl
theorem zK3:CfW qh 25:=cfW Tryz.func25
noncomputable def zLV(f1:τF):T qh ((Int×Bool)):=
 .op1 (zIL f1) fun y2=>
 .cond (!y2) (
 .ret ((0,false)))<|.op1 (zAr f1) fun y4=>
 .ret ((y4,true))
theorem zLb{f1:τF}{r:(Int×Bool)}(h:zCe f1=some r):zC qh 25 [.ag [Ti f1.1,Ti f1.2.1,Ti f1.2.2]] (.tc (I r.1) (.tc (Bo r.2) .tn)) []:=CtT (zLV f1) (fun r=>(.tc (I r.1) (.tc (Bo r.2) .tn),[])) (rs:=[.t 2,.t 3]) (vs:=[.tmp 2,.tmp 3]) Tryz.func25 rfl rfl (.cons rfl (.cons rfl FitsL.nil)) h
def zMC(f1:τF):=fC zK3 (zCe f1) fun _=>zLb
theorem zJ1:CfW qh 26:=cfW Tryz.func26
noncomputable def zJb(f1:τF):T qh ((Bool×Bool)):=
 .op1 (zDZ f1) fun y2=>
 .cond (!y2) (
 .ret ((false,false)))<|.op1 (zDG f1) fun y4=>
 .ret ((y4,true))
theorem zJs{f1:τF}{r:(Bool×Bool)}(h:zCO f1=some r):zC qh 26 [.ag [Ti f1.1,Ti f1.2.1,Ti f1.2.2]] (.tc (Bo r.1) (.tc (Bo r.2) .tn)) []:=CtT (zJb f1) (fun r=>(.tc (Bo r.1) (.tc (Bo r.2) .tn),[])) (rs:=[.t 2,.t 3]) (vs:=[.tmp 2,.tmp 3]) Tryz.func26 rfl rfl (.cons rfl (.cons rfl FitsL.nil)) h
def zKg(f1:τF):=fC zJ1 (zCO f1) fun _=>zJs
theorem zLs:CfW qh 27:=cfW Tryz.func27
noncomputable def zM8(f1:τF):T qh Bool:=
 .op1 (zHa f1) fun y2=>
 .ret y2
theorem zMt{f1:τF}{r:Bool}(h:zDB f1=some r):zC qh 27 [.ag [Ti f1.1,Ti f1.2.1,Ti f1.2.2]] (Bo r) []:=CtU (zM8 f1) 2 (fun r=>Bo r) Tryz.func27 rfl rfl h
def zNa(f1:τF):=fC zLs (zDB f1) fun _=>zMt
end
noncomputable def zPX(code1:List Int)(more2:List Int):T qh Bool:=
 .op1 (z2o code1 more2) fun y3=>
 .cond y3 (
 .ret true)<|.op1 (zJ4 code1) fun y5=>
 .op1 (zHv y5) fun y6=>
 .op1 (zPE y5) fun y7=>
 .op1 (zGm y5) fun y8=>
 .op1 (zMA y5) fun y9=>
 .op1 (zE0 y5) fun y10=>
 .op1 (zH8 y5) fun y11=>
 .op1 (zMD y5) fun y12=>
 .op1 (zNc y5) fun y13=>
 .op1 (zN8 y5) fun y14=>
 .dn<|.joinC (.pl<|.joinC (.unroll 8 (.selB (y6.2 != y7.2) false [] fun w_85=>.ret w_85)) (mb 267 1336975242428210696891121270752) [720,680,504,464] (fun s w_85 γ=>s.pc (mb 267 1336975242428210696891121270752) [720,680,504,464] [(93,Bo y6.2),(94,Bo y7.2),(95,Bo (y6.2 != y7.2)),(100,Bo (bif w_85 then true else (!(y6.1.toList==y7.1.toList))))] []) fun w_85=>.joinC (.unroll 5 (.selB (bif w_85 then true else (!(y6.1.toList==y7.1.toList))) false [] fun w_86=>.ret w_86)) (mb 267 41901794449731551544785623842784) [720,680,504,464] (fun s w_86 γ=>s.pc (mb 267 41901794449731551544785623842784) [720,680,504,464] [(105,Bo (bif w_86 then true else (y8.2 != y9.2)))] []) fun w_86=>.joinC (.unroll 6 (.seqT (.cond (bif w_86 then true else (y8.2 != y9.2)) (.ret true) (.op1 (zML y8.1 y9.1) fun y18=>.ret (!y18))) fun b19=>.ret b19)) (mb 267 2638050223717145365810033788452832) [720,680,504,464] (fun s b19 γ=>s.pc (mb 267 2638050223717145365810033788452832) [720,680,504,464] [(111,Bo b19)] []) fun b19=>.joinC (.unroll 5 (.selB b19 false [] fun w_87=>.ret w_87)) (mb 267 85714799960274387422297975055974368) [720,680,504,464] (fun s w_87 γ=>s.pc (mb 267 85714799960274387422297975055974368) [720,680,504,464] [(116,Bo (bif w_87 then true else (y10.2 != y11.2)))] []) fun w_87=>.joinC (.unroll 5 (.selB (bif w_87 then true else (y10.2 != y11.2)) false [] fun w_88=>.ret w_88)) (mb 267 2744170791530106133229912095616663520) [720,680,504,464] (fun s w_88 γ=>s.pc (mb 267 2744170791530106133229912095616663520) [720,680,504,464] [(121,Bo (bif w_88 then true else (!eqI y10.1 y11.1)))] []) fun w_88=>.joinC (.unroll 5 (.selB (bif w_88 then true else (!eqI y10.1 y11.1)) false [] fun w_89=>.ret w_89)) (mb 267 87814762521764721999073563953558716384) [720,680,504,464] (fun s w_89 γ=>s.pc (mb 267 87814762521764721999073563953558716384) [720,680,504,464] [(126,Bo (bif w_89 then true else (y8.2 != y6.2)))] []) fun w_89=>.joinC (.unroll 5 (.selB (bif w_89 then true else (y8.2 != y6.2)) false [] fun w_90=>.ret w_90)) (mb 267 2810073697889272429706070423407704408032) [720,680,504,464] (fun s w_90 γ=>s.pc (mb 267 2810073697889272429706070423407704408032) [720,680,504,464] [(131,Bo (bif w_90 then true else (y10.2 != y6.2)))] []) fun w_90=>.joinC (.unroll 5 (.selB (bif w_90 then true else (y10.2 != y6.2)) false [] fun w_91=>.ret w_91)) (mb 267 89922359629649519076329969925940366540768) [720,680,504,464] (fun s w_91 γ=>s.pc (mb 267 89922359629649519076329969925940366540768) [720,680,504,464] [(136,Bo (bif w_91 then true else (y12.2.2.2 != y6.2)))] []) fun w_91=>.joinC (.unroll 5 (.selB (bif w_91 then true else (y12.2.2.2 != y6.2)) false [] fun w_92=>.ret w_92)) (mb 267 2877515509445977411768294754006985554788320) [720,680,504,464] (fun s w_92 γ=>s.pc (mb 267 2877515509445977411768294754006985554788320) [720,680,504,464] [(141,Bo (bif w_92 then true else (y13.2 != y14.2)))] []) fun w_92=>.joinC (.unroll 6 (.seqT (.cond (bif w_92 then true else (y13.2 != y14.2)) (.ret true) (.op1 (zSG y13.1 y14.1) fun y27=>.ret (!y27))) fun b28=>.ret b28)) (mb 267 181283477097690962544054040935193877602631648) [720,680,504,464] (fun s b28 γ=>s.pc (mb 267 181283477097690962544054040935193877602631648) [720,680,504,464] [(147,Bo b28)] []) fun b28=>.ret (w_85,w_86,b19,w_87,w_88,w_89,w_90,w_91,w_92,b28)) (mb 267 178405961588244985132285746181186892053890272) [680,464] (fun s q_159 γ=>s.pc (mb 267 178405961588244985132285746181186892053890272) [680,464] [(147,Bo q_159.2.2.2.2.2.2.2.2.2)] []) fun q_159=>
 .cond q_159.2.2.2.2.2.2.2.2.2 (
 .ret false)<|
 .cond (!y6.2) (
 .ret true)<|
 .loop (fun n X_158=>zAe y10 y12 y13 y5 y6 y8 n X_158.1 X_158.2) ((0,0)) (mb 267 207373408) [680,464] (fun s X_158 γ=>s.pc (mb 267 207373408) [680,464] [(26,I X_158.1),(27,I X_158.2)] []) (fun X_158=>
 .cond (ltI X_158.2 ((y5.size:Int))) (.op0 (idxs y5 X_158.2) fun e36=>
 .cond (eqI e36 10) (
 .frc (w64 (X_158.1+1)) fun lines38=>
 .frc (w64 (X_158.2+1)) fun i39=>.ret (.inl ((lines38,i39))))<|
 .frc (w64 (X_158.2+1)) fun i40=>.ret (.inl ((X_158.1,i40))))<|.ret (.inr X_158.1)) (mb 267 73155680) [680,464] (fun s o34 γ=>s.pc (mb 267 73155680) [680,464] [(26,I o34)] []) fun o34=>
 .dn<|.joinC (.pl<|.joinC (.unroll 15 (.selB (!eqI (w64 ((w64 (y12.1+y12.2.1))+y12.2.2.1)) o34) false [.z (lenM ct3 y13.1)] fun w_95=>.ret w_95)) (mb 267 96523414135882152329844161091914195750156408941462624) [680,464] (fun s w_95 γ=>s.pc (mb 267 96523414135882152329844161091914195750156408941462624) [680,464] [(162,I y12.1),(163,I y12.2.1),(164,I (w64 (y12.1+y12.2.1))),(165,I y12.2.2.1),(166,I (w64 ((w64 (y12.1+y12.2.1))+y12.2.2.1))),(167,I o34),(168,Bo (!eqI (w64 ((w64 (y12.1+y12.2.1))+y12.2.2.1)) o34)),(176,Bo (bif w_95 then true else (!eqI (w64 (y12.1+y12.2.1)) ((y13.1.length:Int)))))] []) fun w_95=>.joinC (.unroll 5 (.selB (bif w_95 then true else (!eqI (w64 (y12.1+y12.2.1)) ((y13.1.length:Int)))) false [.z (lenM ct42 y8.1)] fun w_96=>.ret w_96)) (mb 267 3161514495867659869046538215392532562987634653308666976) [680,464] (fun s w_96 γ=>s.pc (mb 267 3161514495867659869046538215392532562987634653308666976) [680,464] [(181,Bo (bif w_96 then true else (ltI 8 ((y8.1.length:Int)))))] []) fun w_96=>.ret (w_95,w_96)) (mb 267 3064991081731777716716694054300618367237478244434330720) [464] (fun s q_157 γ=>s.pc (mb 267 3064991081731777716716694054300618367237478244434330720) [464] [(181,Bo (bif q_157.2 then true else (ltI 8 ((y8.1.length:Int)))))] []) fun q_157=>
 .lt (bif q_157.2 then true else (ltI 8 ((y8.1.length:Int)))) fun t43=>.cond t43 (
 .ret false)<|.n0 (lenM ct42 y8.1)<|
 .loopS (fun n X_156=>zB1 o34 y10 y5 y6 y8 n X_156) 0 (mb 267 42909875144244888034033716760208657141324695421207987296) [464] (fun s X_156 γ=>s.pc (mb 267 42909875144244888034033716760208657141324695421207987296) [464] [(184,I X_156)] []) (fun X_156=>
 .cond (ltI X_156 ((y8.1.length:Int))) (.op0 (zBF ct42 y8.1 X_156) fun e49=>.op0 (ldo ct42 y8.1 X_156) fun e50=>
 .op1 (zMC e50) fun y51=>
 .op1 (zKg e50) fun y52=>
 .joinC (.pl<|.joinC (.unroll 7 (.selB (!y51.2) false [] fun w_142=>.ret w_142)) (mb 267 26916255151213231360215899080431233800904041470557217842283616) [232,464] (fun s w_142 γ=>s.pc (mb 267 26916255151213231360215899080431233800904041470557217842283616) [232,464] [(198,Bo y51.2),(199,Bo (!y51.2)),(204,Bo (bif w_142 then true else (!eqI y51.1 y10.1)))] []) fun w_142=>.joinC (.unroll 4 (.selB (bif w_142 then true else (!eqI y51.1 y10.1)) false [] fun w_143=>.ret w_143)) (mb 267 438292394481514741898958194719768860046588007878952183679435872) [232,464] (fun s w_143 γ=>s.pc (mb 267 438292394481514741898958194719768860046588007878952183679435872) [232,464] [(208,Bo (bif w_143 then true else (!y52.2)))] []) fun w_143=>.joinC (.unroll 4 (.selB (bif w_143 then true else (!y52.2)) false [] fun w_144=>.ret w_144)) (mb 267 7020310623766338910518834924949170879977531470413271637073871968) [232,464] (fun s w_144 γ=>s.pc (mb 267 7020310623766338910518834924949170879977531470413271637073871968) [232,464] [(212,Bo (bif w_144 then true else (!y52.1)))] []) fun w_144=>.joinC (.unroll 5 (.seqT (.cond (bif w_144 then true else (!y52.1)) (.ret true) (.op1 (zNa e50) fun y57=>.ret (!y57))) fun b58=>.ret b58)) (mb 267 217644893960880712306354890292290035517767722271511494145695827040) [232,464] (fun s b58 γ=>s.pc (mb 267 217644893960880712306354890292290035517767722271511494145695827040) [232,464] [(217,Bo b58)] []) fun b58=>.ret (w_142,w_143,w_144,b58)) (mb 267 210624583380024248540080943401374581397998847942422917929829942368) [464] (fun s q_145 γ=>s.pc (mb 267 210624583380024248540080943401374581397998847942422917929829942368) [464] [(217,Bo q_145.2.2.2)] []) fun q_145=>
 .cond q_145.2.2.2 (
 .ret (.early false))<|
 .frc (w64 (X_156+1)) fun t60=>.ret (.again t60))<|.ret (.done (()))) (mb 267 67126368) [464] (fun s o47 γ=>s.pc (mb 267 67126368) [464] [] []) (fun r=>r) fun o47=>
 .op0 (cat y5 ((⟨#[100,105,115,99,32,45,56,52,10,117,110,100,111,10]⟩:qf))) fun u61=>
 .dn<|.joinC (.pl<|.joinC (.unroll 8 (.selB (leI (((y5++((⟨#[100,105,115,99,32,45,56,52,10,117,110,100,111,10]⟩:qf))).size:Int)) 2000) true [] fun w_150=>.ret w_150)) (mb 267 454949100008167046535005879593456267617626812130372160618640669951040) [464] (fun s w_150 γ=>s.pc (mb 267 454949100008167046535005879593456267617626812130372160618640669951040) [464] [(221,.c (.v (.string (y5++((⟨#[100,105,115,99,32,45,56,52,10,117,110,100,111,10]⟩:qf)))))),(222,I (((y5++((⟨#[100,105,115,99,32,45,56,52,10,117,110,100,111,10]⟩:qf))).size:Int))),(223,Bo (leI (((y5++((⟨#[100,105,115,99,32,45,56,52,10,117,110,100,111,10]⟩:qf))).size:Int)) 2000)),(228,Bo (bif w_150 then (leI (w64 (o34+2)) 60) else false))] []) fun w_150=>.ret w_150) (mb 267 431359146674410236714672241392314090778194310760649159697674943874112) [464] (fun s q_155 γ=>s.pc (mb 267 431359146674410236714672241392314090778194310760649159697674943874112) [464] [(228,Bo (bif q_155 then (leI (w64 (o34+2)) 60) else false))] []) fun q_155=>
 .lt (bif q_155 then (leI (w64 (o34+2)) 60) else false) fun t63=>.cond t63 (.op1 (zGm (y5++((⟨#[100,105,115,99,32,45,56,52,10,117,110,100,111,10]⟩:qf)))) fun y65=>
 .op1 (zE0 (y5++((⟨#[100,105,115,99,32,45,56,52,10,117,110,100,111,10]⟩:qf)))) fun y66=>
 .op1 (zHv (y5++((⟨#[100,105,115,99,32,45,56,52,10,117,110,100,111,10]⟩:qf)))) fun y67=>
 .joinC (.pl<|.joinC (.unroll 6 (.seqT (.cond y65.2 (.op1 (zML y65.1 y8.1) fun y69=>.ret y69) (.ret false)) fun b70=>.ret b70)) (mb 267 932895250202986926019981080392260976356911497550326809888208076447166776384) [1848,464] (fun s b70 γ=>s.pc (mb 267 932895250202986926019981080392260976356911497550326809888208076447166776384) [1848,464] [(244,Bo y65.2),(249,Bo b70)] []) fun b70=>.joinC (.unroll 3 (.selB b70 true [] fun w_151=>.ret w_151)) (mb 267 8169900827535249139993167643435255217186285539152862062354307076941737378880) [1848,464] (fun s w_151 γ=>s.pc (mb 267 8169900827535249139993167643435255217186285539152862062354307076941737378880) [1848,464] [(252,Bo (bif w_151 then y66.2 else false))] []) fun w_151=>.joinC (.unroll 5 (.selB (bif w_151 then y66.2 else false) true [] fun w_152=>.ret w_152)) (mb 267 239754079302167639987135137660811070923726254870433990141269475092767996658752) [1848,464] (fun s w_152 γ=>s.pc (mb 267 239754079302167639987135137660811070923726254870433990141269475092767996658752) [1848,464] [(257,Bo (bif w_152 then (eqI y66.1 y10.1) else false))] []) fun w_152=>.joinC (.unroll 3 (.selB (bif w_152 then (eqI y66.1 y10.1) else false) true [] fun w_153=>.ret w_153)) (mb 267 2092427507099226766764270897799817596576046009520683014772590819219378070897728) [1848,464] (fun s w_153 γ=>s.pc (mb 267 2092427507099226766764270897799817596576046009520683014772590819219378070897728) [1848,464] [(260,Bo (bif w_153 then y67.2 else false))] []) fun w_153=>.joinC (.unroll 6 (.seqT (.cond (bif w_153 then y67.2 else false) (.op0 (cat y6.1 ((⟨#[111,107,10,111,107,10]⟩:qf))) fun u75=>.ret (y67.1.toList==(y6.1++((⟨#[111,107,10,111,107,10]⟩:qf))).toList)) (.ret false)) fun b76=>.ret b76)) (mb 267 120663526886111010880500959546696235238324510307136620591177156843322422822192192) [1848,464] (fun s b76 γ=>s.pc (mb 267 120663526886111010880500959546696235238324510307136620591177156843322422822192192) [1848,464] [(266,Bo b76)] []) fun b76=>.ret (b70,w_151,w_152,w_153,b76)) (mb 267 16) [] (fun s q_154 γ=>s.pc (mb 267 16) [] [(4,Bo q_154.2.2.2.2)] []) fun q_154=>
 .ret q_154.2.2.2.2)<|
 .ret true
theorem zPf{code1:List Int}{more2:List Int}{r:Bool}(h:zGB code1 more2=some r):zC qh 4 [.c (.sl (code1.map c5)),.c (.sl (more2.map c5))] (Bo r) []:=CtU (zPX code1 more2) 4 (fun r=>Bo r) Tryz.func4 rfl rfl h
end Go.Proofs.YtahdjphocippeaaGreatDoor
