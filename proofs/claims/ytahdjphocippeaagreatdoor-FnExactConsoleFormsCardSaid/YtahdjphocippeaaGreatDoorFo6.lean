/-
  Rules of walks, plain functions and their laws, part 6.
  Conditions: none.
-/
import Derived.Test.YtahdjphocippeaaGreatDoorFo5
set_option linter.unusedSimpArgs false
set_option linter.unusedVariables false
namespace Go.Proofs.YtahdjphocippeaaGreatDoor
open Go.RowKit
theorem zI5:CfW Tryz.prog 80:=cfW Tryz.func80
noncomputable def zIc (vs1:τI) (l2:(ByteArray×(List Int)×τF×Int)):T Tryz.prog (((List τF)×Bool)):=
 .n1 (nilN 42 3 (by decide))<|
 .n1 bsl0<|
 .n0 (lenM ct3 l2.2.1)<|
 .loopS (fun n X_507=>jP l2 vs1 n X_507.1 X_507.2) ((0,([]:List τF))) (mb 61 57417) [88,24,80000] (fun s X_507 γ=>s.pc (mb 61 57417) [88,24,80000] [(15,I X_507.1)] [(88,.arr 42 3 (X_507.2.map c42))]) (fun X_507=>
 .cond (ltI X_507.1 ((l2.2.1.length:Int))) (.op0 (idxM ct3 l2.2.1 X_507.1) fun e8=>
 .n0 au<|.op0 (ixA 26 vs1.2 e8) fun e9=>.op0 (ldA ct42 26 vs1.2 e8 1) fun e10=>
 .joinC (.seqT (.cond (eqI X_507.1 0) (.selB (l2.1.toList==((⟨#[115,101,116]⟩:ByteArray)).toList) false [] fun w_500=>.selB (bif w_500 then true else (l2.1.toList==((⟨#[112,114,105,109,101]⟩:ByteArray)).toList)) false [] fun w_501=>.selB (bif w_501 then true else (l2.1.toList==((⟨#[109,117,108]⟩:ByteArray)).toList)) false [] fun w_502=>.ret (bif w_502 then true else (l2.1.toList==((⟨#[112,111,119]⟩:ByteArray)).toList))) (.ret false)) fun b15=>.ret b15) (mb 61 58953) [72,88,24,80000] (fun s q_506 γ=>s.pc (mb 61 58953) [72,88,24,80000] [(10,Bo q_506)] []) fun q_506=>
 .dn<|.joinC (.n0 (bld pl42 bt42)<|.n0 (eqg3 zVD)<|.selB (((e10.1==0)&&((e10.2.1==0)&&(e10.2.2==0)))) true [] fun w_504=>.ret w_504) (mb 61 18014398509539913) [72,88,24,80000] (fun s q_505 γ=>s.pc (mb 61 18014398509539913) [72,88,24,80000] [(54,Bo (bif q_505 then (!q_506) else false))] []) fun q_505=>
 .lt (bif q_505 then (!q_506) else false) fun t17=>.cond t17 (.n1 (nilN 42 3 (by decide))<|
 .ret (.early ((([]:List τF),false))))<|.n1 bsl<|.opx (app ct42 X_507.2 ([e10])) fun u19=>
 .frc (w64 (X_507.1+1)) fun t20=>.ret (.again ((t20,X_507.2++([e10])))))<|.ret (.done X_507.2)) (mb 61 64) [88,80000] (fun s o6 γ=>s.pc (mb 61 64) [88,80000] [] [(88,.arr 42 3 (o6.map c42))]) (fun r=>r) fun o6=>
 .ret ((o6,true))
theorem zIq {vs1:τI} {l2:(ByteArray×(List Int)×τF×Int)} {rest:List Tr} {r:((List τF)×Bool)} (h:zP vs1 l2=some r):zHe Tryz.prog 80 [.pt 80000 0,.ag [.v (.string l2.1),.sl (l2.2.1.map c3),Ti l2.2.2.1.1,Ti l2.2.2.1.2.1,Ti l2.2.2.1.2.2,Ti l2.2.2.2]] [(80000,.box ((Ti vs1.1::q78 (vs1.2) [])++rest))] (.tc (.ow 0) (.tc (Bo r.2) .tn)) [(0,.arr 42 3 (r.1.map c42))] [(80000,.box ((Ti vs1.1::q78 (vs1.2) [])++rest))]:=CrT (zIc vs1 l2) (fun r=>(.tc (.ow 0) (.tc (Bo r.2) .tn),[(0,.arr 42 3 (r.1.map c42))])) (fun r=>[(80000,.box ((Ti vs1.1::q78 (vs1.2) [])++rest))]) (rs:=[.t 4,.t 5]) (vs:=[.tmp 4,.tmp 5]) Tryz.func80 rfl rfl (.cons rfl (.cons rfl FitsL.nil)) h
def zJ0 (vs1:τI) (l2:(ByteArray×(List Int)×τF×Int)):=fRt zI5 (zP vs1 l2) 80000 79 (fun rest _ h=>zIq (rest:=rest) h)
theorem zYc:CfW Tryz.prog 160:=cfW Tryz.func160
noncomputable def zZC (a1:Int) (vm2:Int):T Tryz.prog Int:=
 .op0 (remF .i64 a1 vm2) fun z3=>
 .frc (Int.tmod a1 vm2) fun vr4=>
 .cond (ltI vr4 0) (
 .frc (w64 (vr4+vm2)) fun vr6=>
 .ret vr6)<|
 .ret vr4
theorem zZL {a1:Int} {vm2:Int} {r:Int} (h:zAO a1 vm2=some r):zD Tryz.prog 160 [I a1,I vm2] (I r) []:=CtU (zZC a1 vm2) 4 (fun r=>I r) Tryz.func160 rfl rfl h
def zC0 (a1:Int) (vm2:Int):=fC zYc (zAO a1 vm2) fun _=>zZL
theorem zII:CfW Tryz.prog 116:=cfW Tryz.func116
noncomputable def zIY (d1:Int):T Tryz.prog Bool:=
 .pl<|.joinC (.selB (leI (-2000) d1) true [] fun w_2=>.seqT (.cond (bif w_2 then (leI d1 (-3)) else false) (.op1 (zC0 d1 4) fun y4=>.ret (leI y4 1)) (.ret false)) fun b5=>.ret (w_2,b5)) (mb 14 4) [] (fun s q_3 γ=>s.pc (mb 14 4) [] [(2,Bo q_3.2)] []) fun q_3=>
 .ret q_3.2
theorem zI0 {d1:Int} {r:Bool} (h:qT d1=some r):zD Tryz.prog 116 [I d1] (Bo r) []:=CtU (zIY d1) 2 (fun r=>Bo r) Tryz.func116 rfl rfl h
def zFM (d1:Int):=fC zII (qT d1) fun _=>zI0
theorem zGu:CfW Tryz.prog 42:=cfW Tryz.func42
noncomputable def zN9 (f1:τF):T Tryz.prog Int:=
 .frc (w64 ((w64 (f1.2.1*f1.2.1)) - (w64 ((w64 (4*f1.1))*f1.2.2)))) fun t2=>.ret t2
theorem zHV {f1:τF} {r:Int} (h:zL f1=some r):zD Tryz.prog 42 [.ag [Ti f1.1,Ti f1.2.1,Ti f1.2.2]] (I r) []:=CtU (zN9 f1) 2 (fun r=>I r) Tryz.func42 rfl rfl h
def zBF (f1:τF):=fC zGu (zL f1) fun _=>zHV
theorem zL1:CfW Tryz.prog 43:=cfW Tryz.func43
noncomputable def zLw (f1:τF):T Tryz.prog Bool:=
 .pl<|.joinC (.op1 (zKf f1) fun y2=>.seqT (.cond y2 (.op1 (zBF f1) fun y4=>.ret (ltI y4 0)) (.ret false)) fun b5=>.selB b5 true [] fun w_2=>.ret (y2,b5,w_2)) (mb 15 4) [] (fun s q_3 γ=>s.pc (mb 15 4) [] [(2,Bo (bif q_3.2.2 then (ltI 0 f1.1) else false))] []) fun q_3=>
 .ret (bif q_3.2.2 then (ltI 0 f1.1) else false)
theorem zMR {f1:τF} {r:Bool} (h:zU f1=some r):zD Tryz.prog 43 [.ag [Ti f1.1,Ti f1.2.1,Ti f1.2.2]] (Bo r) []:=CtU (zLw f1) 2 (fun r=>Bo r) Tryz.func43 rfl rfl h
def zD6 (f1:τF):=fC zL1 (zU f1) fun _=>zMR
theorem zKX:CfW Tryz.prog 62:=cfW Tryz.func62
noncomputable def zKp (f1:τF):T Tryz.prog Bool:=
 .pl<|.joinC (.op1 (zD6 f1) fun y2=>.seqT (.cond y2 (.op1 (zBF f1) fun y4=>.ret (leI (-2000) y4)) (.ret false)) fun b5=>.ret (y2,b5)) (mb 10 4) [] (fun s q_1 γ=>s.pc (mb 10 4) [] [(2,Bo q_1.2)] []) fun q_1=>
 .ret q_1.2
theorem zLF {f1:τF} {r:Bool} (h:qU f1=some r):zD Tryz.prog 62 [.ag [Ti f1.1,Ti f1.2.1,Ti f1.2.2]] (Bo r) []:=CtU (zKp f1) 2 (fun r=>Bo r) Tryz.func62 rfl rfl h
def zGj (f1:τF):=fC zKX (qU f1) fun _=>zLF
theorem zYe:CfW Tryz.prog 135:=cfW Tryz.func135
noncomputable def zZE (vn1:Int):T Tryz.prog Int:=
 .n0 au<|.n0 au<|
 .frc (mxI vn1 (w64 (0 - (mxI vn1 (-9223372036854775807))))) fun t2=>.ret t2
theorem zZN {vn1:Int} {r:Int} (h:zDj vn1=some r):zD Tryz.prog 135 [I vn1] (I r) []:=CtU (zZE vn1) 2 (fun r=>I r) Tryz.func135 rfl rfl h
def zTR (vn1:Int):=fC zYe (zDj vn1) fun _=>zZN
theorem zYd:CfW Tryz.prog 88:=cfW Tryz.func88
noncomputable def zZD (a1:Int) (b2:Int):T Tryz.prog Int:=
 .loop (fun n X_1=>zAh n X_1.1 X_1.2) ((a1,b2)) (mb 13 3) [] (fun s X_1 γ=>s.pc (mb 13 3) [] [(0,I X_1.1),(1,I X_1.2)] []) (fun X_1=>
 .cond (!eqI X_1.2 0) (.draw 6 []<|.op0 (remF .i64 X_1.1 X_1.2) fun z8=>
 .frc (Int.tmod X_1.1 X_1.2) fun b9=>.ret (.inl ((X_1.2,b9))))<|.ret (.inr X_1.1)) (mb 13 1) [] (fun s o6 γ=>s.pc (mb 13 1) [] [(0,I o6)] []) fun o6=>
 .op1 (zTR o6) fun y10=>
 .ret y10
theorem zZM {a1:Int} {b2:Int} {r:Int} (h:zDi a1 b2=some r):zD Tryz.prog 88 [I a1,I b2] (I r) []:=CtU (zZD a1 b2) 4 (fun r=>I r) Tryz.func88 rfl rfl h
def zIP (a1:Int) (b2:Int):=fC zYd (zDi a1 b2) fun _=>zZM
theorem zJW:CfW Tryz.prog 63:=cfW Tryz.func63
noncomputable def zKD (f1:τF):T Tryz.prog Int:=
 .draw 9 []<|.op1 (zIP f1.2.1 f1.2.2) fun y2=>.op1 (zIP f1.1 y2) fun y3=>
 .ret y3
theorem zKN {f1:τF} {r:Int} (h:zAD f1=some r):zD Tryz.prog 63 [.ag [Ti f1.1,Ti f1.2.1,Ti f1.2.2]] (I r) []:=CtU (zKD f1) 2 (fun r=>I r) Tryz.func63 rfl rfl h
def zEI (f1:τF):=fC zJW (zAD f1) fun _=>zKN
theorem zGA:CfW Tryz.prog 45:=cfW Tryz.func45
noncomputable def zKq (f1:τF):T Tryz.prog Bool:=
 .pl<|.joinC (.op1 (zGj f1) fun y2=>.seqT (.cond y2 (.op1 (zEI f1) fun y4=>.ret (eqI y4 1)) (.ret false)) fun b5=>.ret (y2,b5)) (mb 10 4) [] (fun s q_1 γ=>s.pc (mb 10 4) [] [(2,Bo q_1.2)] []) fun q_1=>
 .ret q_1.2
theorem zGZ {f1:τF} {r:Bool} (h:zS f1=some r):zD Tryz.prog 45 [.ag [Ti f1.1,Ti f1.2.1,Ti f1.2.2]] (Bo r) []:=CtU (zKq f1) 2 (fun r=>Bo r) Tryz.func45 rfl rfl h
def zLi (f1:τF):=fC zGA (zS f1) fun _=>zGZ
theorem zKV:CfW Tryz.prog 129:=cfW Tryz.func129
noncomputable def zKn (vs1:τI):T Tryz.prog ByteArray:=
 .n0 au<|
 .loop (fun n X_1=>zAF vs1 n X_1.1 X_1.2) (((⟨#[]⟩:ByteArray),0)) (mb 25 1544) [80000] (fun s X_1 γ=>s.pc (mb 25 1544) [80000] [(3,.c (.v (.string X_1.1))),(10,I X_1.2)] []) (fun X_1=>
 .cond (ltI X_1.2 26) (.op0 (igA ct42 26 vs1.2 X_1.2) fun e7=>
 .n0 (bld pl42 bt42)<|.n0 (neg3 zYK)<|
 .cond (!((e7.1==0)&&((e7.2.1==0)&&(e7.2.2==0)))) (.n0 au<|.n0 i2s<|.op0 (cat X_1.1 (Utf8.encode (IntKind.i32.wrap (w64 (97+X_1.2))))) fun u9=>
 .frc (w64 (X_1.2+1)) fun t10=>.ret (.inl ((X_1.1++(Utf8.encode (IntKind.i32.wrap (w64 (97+X_1.2)))),t10))))<|
 .frc (w64 (X_1.2+1)) fun t11=>.ret (.inl ((X_1.1,t11))))<|.ret (.inr X_1.1)) (mb 25 8) [80000] (fun s o5 γ=>s.pc (mb 25 8) [80000] [(3,.c (.v (.string o5)))] []) fun o5=>
 .ret o5
theorem zLD {vs1:τI} {rest:List Tr} {r:ByteArray} (h:zB5 vs1=some r):zHe Tryz.prog 129 [.pt 80000 0] [(80000,.box ((Ti vs1.1::q78 (vs1.2) [])++rest))] (.c (.v (.string r))) [] [(80000,.box ((Ti vs1.1::q78 (vs1.2) [])++rest))]:=CrT (zKn vs1) (fun r=>(.c (.v (.string r)),[])) (fun r=>[(80000,.box ((Ti vs1.1::q78 (vs1.2) [])++rest))]) (rs:=[.t 2]) (vs:=[.tmp 2]) Tryz.func129 rfl rfl (.cons rfl FitsL.nil) h
def zGf (vs1:τI):=fRt zKV (zB5 vs1) 80000 79 (fun rest _ h=>zLD (rest:=rest) h)
theorem zYb:CfW Tryz.prog 232:=cfW Tryz.func232
noncomputable def zZB:T Tryz.prog (τM):=
 .n0 (bld zD3 zDm)<|
 .ret ((1,0,0,1))
theorem zZK {r:τM} (h:zE0=some r):zD Tryz.prog 232 [] (.ag [Ti r.1,Ti r.2.1,Ti r.2.2.1,Ti r.2.2.2]) []:=CtT (zZB) (fun r=>(.ag [Ti r.1,Ti r.2.1,Ti r.2.2.1,Ti r.2.2.2],[])) (rs:=[.w 0 4]) (vs:=[.cell 0 120]) Tryz.func232 rfl rfl (.cons ⟨rfl,zFK⟩ FitsL.nil) h
def zTK:=fC zYb (zE0) fun _=>zZK
theorem zFL:CfW Tryz.prog 61:=cfW Tryz.func61
noncomputable def zIg (f1:τF):T Tryz.prog Bool:=
 .pl<|.joinC (.selB (ltI (w64 (0 - f1.1)) f1.2.1) true [] fun w_2=>.ret w_2) (mb 16 4) [] (fun s q_3 γ=>s.pc (mb 16 4) [] [(2,Bo (bif q_3 then (leI f1.2.1 f1.1) else false))] []) fun q_3=>
 .lt (bif q_3 then (leI f1.2.1 f1.1) else false) fun t3=>.ret t3
theorem zF5 {f1:τF} {r:Bool} (h:qG f1=some r):zD Tryz.prog 61 [.ag [Ti f1.1,Ti f1.2.1,Ti f1.2.2]] (Bo r) []:=CtU (zIg f1) 2 (fun r=>Bo r) Tryz.func61 rfl rfl h
def zJ9 (f1:τF):=fC zFL (qG f1) fun _=>zF5
theorem zIK:∀args w,(callFunc 44 args).run Tryz.prog w=.ok (.enter 44 args) w:=jA Tryz.func44 kk kk
set_option maxRecDepth 100000 in
set_option maxHeartbeats 400000 in
theorem zI2 {f1:τF} {r:Bool} (h:qK f1=some r):zD Tryz.prog 44 [.ag [Ti f1.1,Ti f1.2.1,Ti f1.2.2]] (Bo r) []:=by
  refine zAk (rs:=[.t 2]) (vs:=[.tmp 2]) Tryz.func44 rfl rfl (.cons rfl FitsL.nil) (by decide) 24 rfl ?_
  unfold qK at h;show V _ _ ⟨.ag [Ti f1.1,Ti f1.2.1,Ti f1.2.2]::bt 23 [],[]⟩ _;refine qL (mb 24 2) [8] (s1:=⟨.bot::.pt 8 0::bt 22 [],[(8,.box [Ti f1.1,Ti f1.2.1,Ti f1.2.2])]⟩) ?_ ?_
  ·refine L1 rfl rfl (zSo (cs:=[Ti f1.1,Ti f1.2.1,Ti f1.2.2]) rfl kk) ?_
   refine L0 rfl rfl (zF (Bo false) rfl kk) ?_
   refine zI ?_
   kernel_rfl
  obtain⟨y2,hy2,h⟩:=zO h;obtain⟨t6,ht6,h⟩:=zO h;have ht6:=zR ht6;refine qL (mb 24 4) [] (s1:=⟨.bot::.bot::Bo t6::bt 21 [],[]⟩) ?_ ?_
  ·refine L0 rfl rfl (zGx (cs:=[Ti f1.1,Ti f1.2.1,Ti f1.2.2]) [Ti f1.1,Ti f1.2.1,Ti f1.2.2] wd42 rfl kk (Nat.le_of_ble_eq_true rfl) kk) ?_
   refine L1 rfl rfl (zCD (zF5 hy2) zFL rfl kk) ?_
   refine L0 rfl rfl (zG (Bo y2) rfl kk) ?_
   refine zBE y2 (fun hc3=>?_) (fun hc3=>?_)
   ·refine zC _ rfl rfl kk hc3 (zB rfl (jX (.pt 8 0) Tryz.underlying42 rfl sz3 rfl kk (by intro hh;cases hh))) ?_
    refine zC _ rfl rfl kk hc3 (zB rfl (jR (c:=Ti f1.1) (cs:=[Ti f1.2.1,Ti f1.2.2]) sc3 rfl kk)) ?_
    refine zC _ rfl rfl kk hc3 (zB rfl (jX (.pt 8 2) Tryz.underlying42 rfl sz3 rfl kk (by intro hh;cases hh))) ?_
    refine zC _ rfl rfl kk hc3 (zB rfl (jR (c:=Ti f1.2.2) (cs:=[]) sc3 rfl kk)) ?_
    refine zC _ rfl rfl kk hc3 (zB rfl (zFw (k:=.i64) (a:=f1.1) (b:=f1.2.2) rfl kk kk)) ?_
    refine zC _ rfl rfl kk hc3 (zB rfl (zG (Bo (ltI f1.1 f1.2.2)) rfl kk)) ?_
    refine zBE (ltI f1.1 f1.2.2) (fun hc4=>?_) (fun hc4=>?_)
    ·refine qN _ rfl rfl kk hc4 rfl ?_
     refine qN _ rfl rfl kk hc4 rfl ?_
     refine qN _ rfl rfl kk hc4 rfl ?_
     refine qN _ rfl rfl kk hc4 rfl ?_
     refine qN _ rfl rfl kk hc4 rfl ?_
     refine qN _ rfl rfl kk hc4 rfl ?_
     refine qE rfl rfl kk rfl ?_
     refine qE rfl rfl kk rfl ?_
     refine qE rfl rfl kk rfl ?_
     refine qN _ rfl rfl kk hc4 rfl ?_
     refine zC _ rfl rfl kk hc3 (zB rfl (zA0 (b:=ltI f1.1 f1.2.2) (p:=true) (q:=bif (eqI f1.1 f1.2.2) then (leI 0 f1.2.1) else false) rfl kk hc4 kk)) ?_
     refine zQ rfl (zB rfl (zA0 (b:=y2) (p:=bif (ltI f1.1 f1.2.2) then true else (bif (eqI f1.1 f1.2.2) then (leI 0 f1.2.1) else false)) (q:=false) rfl kk hc3 kk)) ?_
     refine L0 rfl rfl (zF (Bo (bif y2 then (bif (ltI f1.1 f1.2.2) then true else (bif (eqI f1.1 f1.2.2) then (leI 0 f1.2.1) else false)) else false)) rfl kk) ?_
     refine zI ?_
     subst ht6
     kernel_rfl
    ·refine zC _ rfl rfl kk hc4 (zB rfl (jX (.pt 8 0) Tryz.underlying42 rfl sz3 rfl kk (by intro hh;cases hh))) ?_
     refine zC _ rfl rfl kk hc4 (zB rfl (jR (c:=Ti f1.1) (cs:=[Ti f1.2.1,Ti f1.2.2]) sc3 rfl kk)) ?_
     refine zC _ rfl rfl kk hc4 (zB rfl (jX (.pt 8 2) Tryz.underlying42 rfl sz3 rfl kk (by intro hh;cases hh))) ?_
     refine zC _ rfl rfl kk hc4 (zB rfl (jR (c:=Ti f1.2.2) (cs:=[]) sc3 rfl kk)) ?_
     refine zC _ rfl rfl kk hc4 (zB rfl (zIN (k:=.i64) (a:=f1.1) (b:=f1.2.2) rfl kk kk)) ?_
     refine zC _ rfl rfl kk hc4 (zB rfl (zG (Bo (eqI f1.1 f1.2.2)) rfl kk)) ?_
     refine zBE (eqI f1.1 f1.2.2) (fun hc5=>?_) (fun hc5=>?_)
     ·refine zC _ rfl rfl kk hc5 (zB rfl (jX (.pt 8 1) Tryz.underlying42 rfl sz3 rfl kk (by intro hh;cases hh))) ?_
      refine zC _ rfl rfl kk hc5 (zB rfl (jR (c:=Ti f1.2.1) (cs:=[Ti f1.2.2]) sc3 rfl kk)) ?_
      refine zC _ rfl rfl kk hc5 (zB rfl (zSr (k:=.i64) (a:=f1.2.1) (b:=0) rfl kk kk)) ?_
      refine zC _ rfl rfl kk hc4 (zB rfl (zA0 (b:=eqI f1.1 f1.2.2) (p:=leI 0 f1.2.1) (q:=false) rfl kk hc5 kk)) ?_
      refine zC _ rfl rfl kk hc3 (zB rfl (zBD (b:=ltI f1.1 f1.2.2) (p:=true) (q:=bif (eqI f1.1 f1.2.2) then (leI 0 f1.2.1) else false) rfl kk hc4 kk)) ?_
      refine zQ rfl (zB rfl (zA0 (b:=y2) (p:=bif (ltI f1.1 f1.2.2) then true else (bif (eqI f1.1 f1.2.2) then (leI 0 f1.2.1) else false)) (q:=false) rfl kk hc3 kk)) ?_
      refine L0 rfl rfl (zF (Bo (bif y2 then (bif (ltI f1.1 f1.2.2) then true else (bif (eqI f1.1 f1.2.2) then (leI 0 f1.2.1) else false)) else false)) rfl kk) ?_
      refine zI ?_
      subst ht6
      kernel_rfl
     ·refine zV _ rfl rfl kk hc5 rfl ?_
      refine zV _ rfl rfl kk hc5 rfl ?_
      refine zV _ rfl rfl kk hc5 rfl ?_
      refine zC _ rfl rfl kk hc4 (zB rfl (zBD (b:=eqI f1.1 f1.2.2) (p:=leI 0 f1.2.1) (q:=false) rfl kk hc5 kk)) ?_
      refine zC _ rfl rfl kk hc3 (zB rfl (zBD (b:=ltI f1.1 f1.2.2) (p:=true) (q:=bif (eqI f1.1 f1.2.2) then (leI 0 f1.2.1) else false) rfl kk hc4 kk)) ?_
      refine zQ rfl (zB rfl (zA0 (b:=y2) (p:=bif (ltI f1.1 f1.2.2) then true else (bif (eqI f1.1 f1.2.2) then (leI 0 f1.2.1) else false)) (q:=false) rfl kk hc3 kk)) ?_
      refine L0 rfl rfl (zF (Bo (bif y2 then (bif (ltI f1.1 f1.2.2) then true else (bif (eqI f1.1 f1.2.2) then (leI 0 f1.2.1) else false)) else false)) rfl kk) ?_
      refine zI ?_
      subst ht6
      kernel_rfl
   ·refine zV _ rfl rfl kk hc3 rfl ?_
    refine zV _ rfl rfl kk hc3 rfl ?_
    refine zV _ rfl rfl kk hc3 rfl ?_
    refine zV _ rfl rfl kk hc3 rfl ?_
    refine zV _ rfl rfl kk hc3 rfl ?_
    refine zV _ rfl rfl kk hc3 rfl ?_
    refine qE rfl rfl kk rfl ?_
    refine qE rfl rfl kk rfl ?_
    refine qE rfl rfl kk rfl ?_
    refine qE rfl rfl kk rfl ?_
    refine qE rfl rfl kk rfl ?_
    refine qE rfl rfl kk rfl ?_
    refine qE rfl rfl kk rfl ?_
    refine qE rfl rfl kk rfl ?_
    refine qE rfl rfl kk rfl ?_
    refine qE rfl rfl kk rfl ?_
    refine zV _ rfl rfl kk hc3 rfl ?_
    refine zQ rfl (zB rfl (zBD (b:=y2) (p:=bif (ltI f1.1 f1.2.2) then true else (bif (eqI f1.1 f1.2.2) then (leI 0 f1.2.1) else false)) (q:=false) rfl kk hc3 kk)) ?_
    refine L0 rfl rfl (zF (Bo (bif y2 then (bif (ltI f1.1 f1.2.2) then true else (bif (eqI f1.1 f1.2.2) then (leI 0 f1.2.1) else false)) else false)) rfl kk) ?_
    refine zI ?_
    subst ht6
    kernel_rfl
  refine zEQ ?_
  obtain rfl:=zR h;show Post _ _ _ _ _;exact⟨.inr rfl,rfl,rfl,rfl⟩
def zDZ (f1:τF):=fC zIK (qK f1) fun _=>zI2
theorem zO3:CfW Tryz.prog 237:=cfW Tryz.func237
noncomputable def zPY (a1:Int) (vm2:Int):T Tryz.prog Int:=
 .op1 (zC0 a1 vm2) fun y3=>.op0 (quoF .i64 (w64 (a1 - y3)) vm2) fun z4=>
 .frc (w64 (Int.tdiv (w64 (a1 - y3)) vm2)) fun t5=>.ret t5
theorem zPh {a1:Int} {vm2:Int} {r:Int} (h:zAp a1 vm2=some r):zD Tryz.prog 237 [I a1,I vm2] (I r) []:=CtU (zPY a1 vm2) 4 (fun r=>I r) Tryz.func237 rfl rfl h
def zIW (a1:Int) (vm2:Int):=fC zO3 (zAp a1 vm2) fun _=>zPh
theorem zMv:CfW Tryz.prog 233:=cfW Tryz.func233
noncomputable def zN8 (f1:τF):T Tryz.prog (τM):=
 .op1 (zDZ f1) fun y2=>
 .cond y2 (.op1 (zTK) fun y4=>
 .ret y4)<|.op1 (zJ9 f1) fun y5=>
 .cond (!y5) (.op1 (zIW (w64 (f1.1 - f1.2.1)) (w64 (2*f1.1))) fun y7=>.n0 (bld zD3 zDm)<|
 .ret ((1,y7,0,1)))<|.n0 (bld zD3 zDm)<|
 .ret ((0,-1,1,0))
theorem zNt {f1:τF} {r:τM} (h:qM f1=some r):zD Tryz.prog 233 [.ag [Ti f1.1,Ti f1.2.1,Ti f1.2.2]] (.ag [Ti r.1,Ti r.2.1,Ti r.2.2.1,Ti r.2.2.2]) []:=CtT (zN8 f1) (fun r=>(.ag [Ti r.1,Ti r.2.1,Ti r.2.2.1,Ti r.2.2.2],[])) (rs:=[.w 2 4]) (vs:=[.cell 2 120]) Tryz.func233 rfl rfl (.cons ⟨rfl,zFK⟩ FitsL.nil) h
def zOo (f1:τF):=fC zMv (qM f1) fun _=>zNt
theorem zQL:CfW Tryz.prog 172:=cfW Tryz.func172
noncomputable def zRM (f1:τF) (x2:Int) (y3:Int):T Tryz.prog Int:=
 .frc (w64 ((w64 ((w64 ((w64 (f1.1*x2))*x2))+(w64 ((w64 (f1.2.1*x2))*y3))))+(w64 ((w64 (f1.2.2*y3))*y3)))) fun t4=>.ret t4
theorem zRk {f1:τF} {x2:Int} {y3:Int} {r:Int} (h:zAQ f1 x2 y3=some r):zD Tryz.prog 172 [.ag [Ti f1.1,Ti f1.2.1,Ti f1.2.2],I x2,I y3] (I r) []:=CtU (zRM f1 x2 y3) 6 (fun r=>I r) Tryz.func172 rfl rfl h
def zFJ (f1:τF) (x2:Int) (y3:Int):=fC zQL (zAQ f1 x2 y3) fun _=>zRk
theorem zL8:CfW Tryz.prog 261:=cfW Tryz.func261
noncomputable def zMD (f1:τF) (x2:Int) (y3:Int) (u4:Int) (v5:Int):T Tryz.prog Int:=
 .frc (w64 ((w64 ((w64 ((w64 ((w64 (2*f1.1))*x2))*u4))+(w64 (f1.2.1*(w64 ((w64 (x2*v5))+(w64 (y3*u4))))))))+(w64 ((w64 ((w64 (2*f1.2.2))*y3))*v5)))) fun t6=>.ret t6
theorem zMY {f1:τF} {x2:Int} {y3:Int} {u4:Int} {v5:Int} {r:Int} (h:zA9 f1 x2 y3 u4 v5=some r):zD Tryz.prog 261 [.ag [Ti f1.1,Ti f1.2.1,Ti f1.2.2],I x2,I y3,I u4,I v5] (I r) []:=CtU (zMD f1 x2 y3 u4 v5) 10 (fun r=>I r) Tryz.func261 rfl rfl h
def zNN (f1:τF) (x2:Int) (y3:Int) (u4:Int) (v5:Int):=fC zL8 (zA9 f1 x2 y3 u4 v5) fun _=>zMY
theorem zH8:CfW Tryz.prog 234:=cfW Tryz.func234
noncomputable def zHj (f1:τF) (vm2:τM):T Tryz.prog (τF):=
 .draw 23 []<|.op1 (zFJ f1 vm2.1 vm2.2.2.1) fun y3=>.op1 (zNN f1 vm2.1 vm2.2.2.1 vm2.2.1 vm2.2.2.2) fun y4=>.op1 (zFJ f1 vm2.2.1 vm2.2.2.2) fun y5=>.n0 (bld pl42 bt42)<|
 .ret ((y3,y4,y5))
theorem zHt {f1:τF} {vm2:τM} {r:τF} (h:qB f1 vm2=some r):zD Tryz.prog 234 [.ag [Ti f1.1,Ti f1.2.1,Ti f1.2.2],.ag [Ti vm2.1,Ti vm2.2.1,Ti vm2.2.2.1,Ti vm2.2.2.2]] (.ag [Ti r.1,Ti r.2.1,Ti r.2.2]) []:=CtT (zHj f1 vm2) (fun r=>(.ag [Ti r.1,Ti r.2.1,Ti r.2.2],[])) (rs:=[.w 4 3]) (vs:=[.cell 4 42]) Tryz.func234 rfl rfl (.cons ⟨rfl,wd42⟩ FitsL.nil) h
def zDP (f1:τF) (vm2:τM):=fC zH8 (qB f1 vm2) fun _=>zHt
theorem zJV:CfW Tryz.prog 204:=cfW Tryz.func204
noncomputable def zKC (vm1:τM) (vn2:τM):T Tryz.prog (τM):=
 .n0 (bld zD3 zDm)<|
 .frc (w64 ((w64 (vm1.1*vn2.1))+(w64 (vm1.2.1*vn2.2.2.1)))) fun f3=>.frc (w64 ((w64 (vm1.1*vn2.2.1))+(w64 (vm1.2.1*vn2.2.2.2)))) fun f4=>.frc (w64 ((w64 (vm1.2.2.1*vn2.1))+(w64 (vm1.2.2.2*vn2.2.2.1)))) fun f5=>.frc (w64 ((w64 (vm1.2.2.1*vn2.2.1))+(w64 (vm1.2.2.2*vn2.2.2.2)))) fun f6=>.ret ((f3,f4,f5,f6))
theorem zKM {vm1:τM} {vn2:τM} {r:τM} (h:zY vm1 vn2=some r):zD Tryz.prog 204 [.ag [Ti vm1.1,Ti vm1.2.1,Ti vm1.2.2.1,Ti vm1.2.2.2],.ag [Ti vn2.1,Ti vn2.2.1,Ti vn2.2.2.1,Ti vn2.2.2.2]] (.ag [Ti r.1,Ti r.2.1,Ti r.2.2.1,Ti r.2.2.2]) []:=CtT (zKC vm1 vn2) (fun r=>(.ag [Ti r.1,Ti r.2.1,Ti r.2.2.1,Ti r.2.2.2],[])) (rs:=[.w 4 4]) (vs:=[.cell 4 120]) Tryz.func204 rfl rfl (.cons ⟨rfl,zFK⟩ FitsL.nil) h
def zEH (vm1:τM) (vn2:τM):=fC zJV (zY vm1 vn2) fun _=>zKM
theorem zSe:CfW Tryz.prog 200:=cfW Tryz.func200
noncomputable def zTc (f1:τF):T Tryz.prog ((τF×τM)):=
 .op1 (zTK) fun y2=>
 .loop (fun n X_1=>zBM n X_1.1 X_1.2.1 X_1.2.2.1 X_1.2.2.2.1 X_1.2.2.2.2.1 X_1.2.2.2.2.2.1 X_1.2.2.2.2.2.2) ((y2.1,y2.2.1,y2.2.2.1,y2.2.2.2,f1.1,f1.2.1,f1.2.2)) (mb 20 30) [32,24,16,8] (fun s X_1 γ=>s.pc (mb 20 30) [32,24,16,8] [] [(32,.box [Ti X_1.1,Ti X_1.2.1,Ti X_1.2.2.1,Ti X_1.2.2.2.1]),(8,.box [Ti X_1.2.2.2.2.1,Ti X_1.2.2.2.2.2.1,Ti X_1.2.2.2.2.2.2])]) (fun X_1=>
 .op1 (zDZ ((X_1.2.2.2.2.1,X_1.2.2.2.2.2.1,X_1.2.2.2.2.2.2))) fun y12=>
 .cond (!y12) (.op1 (zOo ((X_1.2.2.2.2.1,X_1.2.2.2.2.2.1,X_1.2.2.2.2.2.2))) fun y14=>
 .op1 (zDP ((X_1.2.2.2.2.1,X_1.2.2.2.2.2.1,X_1.2.2.2.2.2.2)) y14) fun y15=>
 .op1 (zEH ((X_1.1,X_1.2.1,X_1.2.2.1,X_1.2.2.2.1)) y14) fun y16=>
 .ret (.inl ((y16.1,y16.2.1,y16.2.2.1,y16.2.2.2,y15.1,y15.2.1,y15.2.2))))<|.ret (.inr ((X_1.1,X_1.2.1,X_1.2.2.1,X_1.2.2.2.1,X_1.2.2.2.2.1,X_1.2.2.2.2.2.1,X_1.2.2.2.2.2.2)))) (mb 20 30) [32,24,16,8] (fun s o11 γ=>s.pc (mb 20 30) [32,24,16,8] [] [(32,.box [Ti o11.1,Ti o11.2.1,Ti o11.2.2.1,Ti o11.2.2.2.1]),(8,.box [Ti o11.2.2.2.2.1,Ti o11.2.2.2.2.2.1,Ti o11.2.2.2.2.2.2])]) fun o11=>
 .draw 3 [(2,16)]<|
 .ret ((o11.2.2.2.2,(o11.1,o11.2.1,o11.2.2.1,o11.2.2.2.1)))
theorem zUA {f1:τF} {r:(τF×τM)} (h:qX f1=some r):zD Tryz.prog 200 [.ag [Ti f1.1,Ti f1.2.1,Ti f1.2.2]] (.tc (.ag [Ti r.1.1,Ti r.1.2.1,Ti r.1.2.2]) (.tc (.ag [Ti r.2.1,Ti r.2.2.1,Ti r.2.2.2.1,Ti r.2.2.2.2]) .tn)) []:=CtT (zTc f1) (fun r=>(.tc (.ag [Ti r.1.1,Ti r.1.2.1,Ti r.1.2.2]) (.tc (.ag [Ti r.2.1,Ti r.2.2.1,Ti r.2.2.2.1,Ti r.2.2.2.2]) .tn),[])) (rs:=[.w 2 3,.w 3 4]) (vs:=[.cell 2 42,.cell 3 120]) Tryz.func200 rfl rfl (.cons ⟨rfl,wd42⟩ (.cons ⟨rfl,zFK⟩ FitsL.nil)) h
def zF0 (f1:τF):=fC zSe (qX f1) fun _=>zUA
theorem zIV:CfW Tryz.prog 161:=cfW Tryz.func161
noncomputable def zRD (f1:τF):T Tryz.prog (τF):=
 .op1 (zF0 f1) fun y2=>
 .ret y2.1
theorem zIr {f1:τF} {r:τF} (h:zZ f1=some r):zD Tryz.prog 161 [.ag [Ti f1.1,Ti f1.2.1,Ti f1.2.2]] (.ag [Ti r.1,Ti r.2.1,Ti r.2.2]) []:=CtT (zRD f1) (fun r=>(.ag [Ti r.1,Ti r.2.1,Ti r.2.2],[])) (rs:=[.w 2 3]) (vs:=[.cell 2 42]) Tryz.func161 rfl rfl (.cons ⟨rfl,wd42⟩ FitsL.nil) h
def zAT (f1:τF):=fC zIV (zZ f1) fun _=>zIr
theorem zMn:CfW Tryz.prog 117:=cfW Tryz.func117
noncomputable def zN1 (vs1:τI) (name2:Int) (f3:τF):T Tryz.prog ((Bool×τI)):=
 .pl<|.dn<|.joinC (.n0 au<|.op0 (ixA 26 vs1.2 name2) fun e4=>.op0 (ldA ct42 26 vs1.2 name2 1) fun e5=>.n0 (bld pl42 bt42)<|.n0 (eqg3 zVD)<|.seqT (.cond (((e5.1==0)&&((e5.2.1==0)&&(e5.2.2==0)))) (.opx (zGf vs1) fun y7=>.ret (eqI ((y7.size:Int)) 8)) (.ret false)) fun b8=>.ret (e4,e5,b8)) (mb 28 1048611) [40,80000] (fun s q_1 γ=>s.pc (mb 28 1048611) [40,80000] [(20,Bo q_1.2.2)] []) fun q_1=>
 .cond q_1.2.2 (
 .ret ((false,vs1)))<|.draw 7 []<|.op1 (zAT f3) fun y10=>.n0 au<|.op0 (ixA 26 vs1.2 name2) fun e11=>.opx (stA ct42 26 vs1.2 name2 1 y10) fun g12=>
 .ret ((true,(vs1.1,g12)))
theorem zNl {vs1:τI} {name2:Int} {f3:τF} {rest:List Tr} {r:(Bool×τI)} (h:zAY vs1 name2 f3=some r):zHe Tryz.prog 117 [.pt 80000 0,I name2,.ag [Ti f3.1,Ti f3.2.1,Ti f3.2.2]] [(80000,.box ((Ti vs1.1::q78 (vs1.2) [])++rest))] (Bo r.1) [] [(80000,.box ((Ti r.2.1::q78 (r.2.2) [])++rest))]:=CrT (zN1 vs1 name2 f3) (fun r=>(Bo r.1,[])) (fun r=>[(80000,.box ((Ti r.2.1::q78 (r.2.2) [])++rest))]) (rs:=[.t 6]) (vs:=[.tmp 6]) Tryz.func117 rfl rfl (.cons rfl FitsL.nil) h
def zEA (vs1:τI) (name2:Int) (f3:τF):=fRt zMn (zAY vs1 name2 f3) 80000 79 (fun rest _ h=>zNl (rest:=rest) h)
theorem zQF:CfW Tryz.prog 235:=cfW Tryz.func235
noncomputable def zRH (vn1:Int):T Tryz.prog Bool:=
 .cond (ltI vn1 2) (
 .ret false)<|
 .loopS (fun n X_1=>zBO vn1 n X_1) 2 (mb 17 9) [] (fun s X_1 γ=>s.pc (mb 17 9) [] [(3,I X_1)] []) (fun X_1=>
 .cond (leI (w64 (X_1*X_1)) vn1) (.op0 (remF .i64 vn1 X_1) fun z7=>
 .cond (eqI (Int.tmod vn1 X_1) 0) (
 .ret (.early false))<|
 .frc (w64 (X_1+1)) fun p9=>.ret (.again p9))<|.ret (.done (()))) (mb 17 0) [] (fun s o5 γ=>s.pc (mb 17 0) [] [] []) (fun r=>r) fun o5=>
 .ret true
theorem zRe {vn1:Int} {r:Bool} (h:zBP vn1=some r):zD Tryz.prog 235 [I vn1] (Bo r) []:=CtU (zRH vn1) 2 (fun r=>Bo r) Tryz.func235 rfl rfl h
def zTN (vn1:Int):=fC zQF (zBP vn1) fun _=>zRe
theorem zJU:CfW Tryz.prog 201:=cfW Tryz.func201
noncomputable def zKB (p1:Int):T Tryz.prog Bool:=
 .pl<|.joinC (.seqT (.cond (leI p1 10000) (.op1 (zTN p1) fun y3=>.ret y3) (.ret false)) fun b4=>.ret b4) (mb 9 4) [] (fun s q_1 γ=>s.pc (mb 9 4) [] [(2,Bo q_1)] []) fun q_1=>
 .ret q_1
theorem zKL {p1:Int} {r:Bool} (h:zCq p1=some r):zD Tryz.prog 201 [I p1] (Bo r) []:=CtU (zKB p1) 2 (fun r=>Bo r) Tryz.func201 rfl rfl h
def zK4 (p1:Int):=fC zJU (zCq p1) fun _=>zKL
theorem zMq:CfW Tryz.prog 202:=cfW Tryz.func202
noncomputable def zN4 (d1:Int) (p2:Int):T Tryz.prog ((τF×Bool)):=
 .loopS (fun n X_1=>zBz d1 p2 n X_1) 0 (mb 38 83) [32] (fun s X_1 γ=>s.pc (mb 38 83) [32] [(6,I X_1)] []) (fun X_1=>
 .cond (leI X_1 p2) (.op0 (remF .i64 (w64 ((w64 (X_1*X_1)) - d1)) (w64 (4*p2))) fun z7=>
 .cond (eqI (Int.tmod (w64 ((w64 (X_1*X_1)) - d1)) (w64 (4*p2))) 0) (.op0 (quoF .i64 (w64 ((w64 (X_1*X_1)) - d1)) (w64 (4*p2))) fun z9=>.n0 (bld pl42 bt42)<|
 .frc (w64 (Int.tdiv (w64 ((w64 (X_1*X_1)) - d1)) (w64 (4*p2)))) fun f10=>.draw 5 [(4,32)]<|.op1 (zEI ((p2,X_1,f10))) fun y11=>
 .ret (.early (((p2,X_1,f10),eqI y11 1))))<|
 .frc (w64 (X_1+1)) fun b12=>.ret (.again b12))<|.ret (.done (()))) (mb 38 16) [32] (fun s o5 γ=>s.pc (mb 38 16) [32] [] []) (fun r=>r) fun o5=>
 .n0 (bld pl42 bt42)<|
 .ret (((0,0,0),false))
theorem zNo {d1:Int} {p2:Int} {r:(τF×Bool)} (h:zDt d1 p2=some r):zD Tryz.prog 202 [I d1,I p2] (.tc (.ag [Ti r.1.1,Ti r.1.2.1,Ti r.1.2.2]) (.tc (Bo r.2) .tn)) []:=CtT (zN4 d1 p2) (fun r=>(.tc (.ag [Ti r.1.1,Ti r.1.2.1,Ti r.1.2.2]) (.tc (Bo r.2) .tn),[])) (rs:=[.w 4 3,.t 5]) (vs:=[.cell 4 42,.tmp 5]) Tryz.func202 rfl rfl (.cons ⟨rfl,wd42⟩ (.cons rfl FitsL.nil)) h
def zOl (d1:Int) (p2:Int):=fC zMq (zDt d1 p2) fun _=>zNo
theorem zMt:CfW Tryz.prog 162:=cfW Tryz.func162
noncomputable def zN6 (d1:Int) (p2:Int):T Tryz.prog ((τF×Bool)):=
 .pl<|.dn<|.joinC (.op1 (zFM d1) fun y3=>.seqT (.cond (!y3) (.ret true) (.op1 (zK4 p2) fun y5=>.ret (!y5))) fun b6=>.ret (y3,b6)) (mb 27 32787) [32] (fun s q_1 γ=>s.pc (mb 27 32787) [32] [(15,Bo q_1.2)] []) fun q_1=>
 .cond q_1.2 (.n0 (bld pl42 bt42)<|
 .ret (((0,0,0),false)))<|.op1 (zOl d1 p2) fun y8=>
 .cond (!y8.2) (.n0 (bld pl42 bt42)<|
 .ret (((0,0,0),false)))<|
 .ret ((y8.1,true))
theorem zNr {d1:Int} {p2:Int} {r:(τF×Bool)} (h:zDv d1 p2=some r):zD Tryz.prog 162 [I d1,I p2] (.tc (.ag [Ti r.1.1,Ti r.1.2.1,Ti r.1.2.2]) (.tc (Bo r.2) .tn)) []:=CtT (zN6 d1 p2) (fun r=>(.tc (.ag [Ti r.1.1,Ti r.1.2.1,Ti r.1.2.2]) (.tc (Bo r.2) .tn),[])) (rs:=[.w 4 3,.t 5]) (vs:=[.cell 4 42,.tmp 5]) Tryz.func162 rfl rfl (.cons ⟨rfl,wd42⟩ (.cons rfl FitsL.nil)) h
def zOn (d1:Int) (p2:Int):=fC zMt (zDv d1 p2) fun _=>zNr
theorem zL6:CfW Tryz.prog 118:=cfW Tryz.func118
noncomputable def zMB (d1:Int) (p2:Int):T Tryz.prog ((τF×Bool)):=
 .op1 (zOn d1 p2) fun y3=>
 .cond (!y3.2) (.n0 (bld pl42 bt42)<|
 .ret (((0,0,0),false)))<|.op1 (zAT y3.1) fun y5=>
 .ret ((y5,true))
theorem zMW {d1:Int} {p2:Int} {r:(τF×Bool)} (h:zCf d1 p2=some r):zD Tryz.prog 118 [I d1,I p2] (.tc (.ag [Ti r.1.1,Ti r.1.2.1,Ti r.1.2.2]) (.tc (Bo r.2) .tn)) []:=CtT (zMB d1 p2) (fun r=>(.tc (.ag [Ti r.1.1,Ti r.1.2.1,Ti r.1.2.2]) (.tc (Bo r.2) .tn),[])) (rs:=[.w 4 3,.t 5]) (vs:=[.cell 4 42,.tmp 5]) Tryz.func118 rfl rfl (.cons ⟨rfl,wd42⟩ (.cons rfl FitsL.nil)) h
def zNL (d1:Int) (p2:Int):=fC zL6 (zCf d1 p2) fun _=>zMW
theorem zL3:CfW Tryz.prog 170:=cfW Tryz.func170
noncomputable def zLx (g1:τF) (a2:Int):T Tryz.prog ((Int×Int)):=
 .loopS (fun n X_4=>zAP a2 g1 n X_4) 0 (mb 43 70) [16] (fun s X_4 γ=>s.pc (mb 43 70) [16] [(6,I X_4)] []) (fun X_4=>
 .loopS (fun n X_3=>zBg a2 g1 X_4 n X_3) 0 (mb 43 198) [16] (fun s X_3 γ=>s.pc (mb 43 198) [16] [(7,I X_3)] []) (fun X_3=>
 .cond (leI X_3 X_4) (
 .loopS (fun n X_2=>zBZ a2 g1 X_4 X_3 n X_2) 0 (mb 43 454) [16] (fun s X_2 γ=>s.pc (mb 43 454) [16] [(8,I X_2)] []) (fun X_2=>
 .cond (leI X_2 X_4) (.pl<|.dn<|.joinC (.n0 au<|.seqT (.cond (eqI (mxI X_3 X_2) X_4) (.op1 (zIP X_3 X_2) fun y15=>.ret (eqI y15 1)) (.ret false)) fun b16=>.seqT (.cond b16 (.op1 (zFJ g1 X_3 X_2) fun y18=>.op1 (zIP y18 a2) fun y19=>.ret (eqI y19 1)) (.ret false)) fun b20=>.ret (b16,b20)) (mb 43 1099511628230) [16] (fun s q_1 γ=>s.pc (mb 43 1099511628230) [16] [(40,Bo q_1.2)] []) fun q_1=>
 .cond q_1.2 (
 .ret (.early ((X_3,X_2))))<|
 .frc (w64 (X_2+1)) fun y22=>.ret (.again y22))<|.ret (.done (()))) (mb 43 198) [16] (fun s o12 γ=>s.pc (mb 43 198) [16] [] []) (.early) fun o12=>
 .frc (w64 (X_3+1)) fun x23=>.ret (.again x23))<|.ret (.done (()))) (mb 43 70) [16] (fun s o8 γ=>s.pc (mb 43 70) [16] [] []) (.early) fun o8=>
 .frc (w64 (X_4+1)) fun size24=>.ret (.again size24)) [] [] (fun _ _ _=>⟨[],[]⟩) (fun r=>r) fun _=>.fail
theorem zMT {g1:τF} {a2:Int} {r:(Int×Int)} (h:zBo g1 a2=some r):zD Tryz.prog 170 [.ag [Ti g1.1,Ti g1.2.1,Ti g1.2.2],I a2] (.tc (I r.1) (.tc (I r.2) .tn)) []:=CtT (zLx g1 a2) (fun r=>(.tc (I r.1) (.tc (I r.2) .tn),[])) (rs:=[.t 4,.t 5]) (vs:=[.tmp 4,.tmp 5]) Tryz.func170 rfl rfl (.cons rfl (.cons rfl FitsL.nil)) h
def zGz (g1:τF) (a2:Int):=fC zL3 (zBo g1 a2) fun _=>zMT
theorem zQG:CfW Tryz.prog 236:=cfW Tryz.func236
noncomputable def zRI (a1:Int) (vm2:Int):T Tryz.prog Int:=
 .op1 (zC0 a1 vm2) fun y3=>
 .loop (fun n X_1=>zEu vm2 n X_1.1 X_1.2.1 X_1.2.2.1 X_1.2.2.2) ((1,0,y3,vm2)) (mb 34 482) [] (fun s X_1 γ=>s.pc (mb 34 482) [] [(5,I X_1.1),(6,I X_1.2.1),(7,I X_1.2.2.1),(8,I X_1.2.2.2)] []) (fun X_1=>
 .cond (!eqI X_1.2.2.2 0) (.op0 (quoF .i64 X_1.2.2.1 X_1.2.2.2) fun z11=>
 .frc (w64 (Int.tdiv X_1.2.2.1 X_1.2.2.2)) fun q12=>
 .frc (w64 (X_1.2.2.1 - (w64 (q12*X_1.2.2.2)))) fun vs13=>
 .frc (w64 (X_1.1 - (w64 (q12*X_1.2.1)))) fun y14=>.ret (.inl ((X_1.2.1,y14,X_1.2.2.2,vs13))))<|.ret (.inr X_1.1)) (mb 34 34) [] (fun s o9 γ=>s.pc (mb 34 34) [] [(5,I o9)] []) fun o9=>
 .op1 (zC0 o9 vm2) fun y15=>
 .ret y15
theorem zRf {a1:Int} {vm2:Int} {r:Int} (h:zDh a1 vm2=some r):zD Tryz.prog 236 [I a1,I vm2] (I r) []:=CtU (zRI a1 vm2) 4 (fun r=>I r) Tryz.func236 rfl rfl h
def zTO (a1:Int) (vm2:Int):=fC zQG (zDh a1 vm2) fun _=>zRf
theorem zI9:CfW Tryz.prog 203:=cfW Tryz.func203
noncomputable def zIh (f1:τF) (x2:Int) (y3:Int):T Tryz.prog ((τF×τM)):=
 .n0 (bld zD3 zDm)<|
 .join (
 .cond (eqI y3 0) (
 .ret (0,x2))<|.op1 (zTR y3) fun y6=>.op1 (zTO x2 y6) fun y7=>
 .op0 (quoF .i64 (w64 ((w64 (x2*y7)) - 1)) y3) fun z8=>
 .frc (w64 (Int.tdiv (w64 ((w64 (x2*y7)) - 1)) y3)) fun f9=>.ret (f9,y7)) (mb 59 462) [64,56,48,24] (fun s j4 γ=>s.pc (mb 59 462) [64,56,48,24] [] [(64,.box [Ti x2,Ti j4.1,Ti y3,Ti j4.2])]) fun j4=>
 .op1 (zDP f1 ((x2,j4.1,y3,j4.2))) fun y10=>
 .op1 (zIW y10.2.1 (w64 (2*y10.1))) fun y11=>
 .frc (w64 (0 - y11)) fun t12=>
 .frc (w64 (j4.1+(w64 (t12*x2)))) fun f13=>
 .frc (w64 (j4.2+(w64 (t12*y3)))) fun f14=>.draw 5 [(4,48)]<|.op1 (zDP f1 ((x2,f13,y3,f14))) fun y15=>
 .ret ((y15,(x2,f13,y3,f14)))
theorem zIv {f1:τF} {x2:Int} {y3:Int} {r:(τF×τM)} (h:zBA f1 x2 y3=some r):zD Tryz.prog 203 [.ag [Ti f1.1,Ti f1.2.1,Ti f1.2.2],I x2,I y3] (.tc (.ag [Ti r.1.1,Ti r.1.2.1,Ti r.1.2.2]) (.tc (.ag [Ti r.2.1,Ti r.2.2.1,Ti r.2.2.2.1,Ti r.2.2.2.2]) .tn)) []:=CtT (zIh f1 x2 y3) (fun r=>(.tc (.ag [Ti r.1.1,Ti r.1.2.1,Ti r.1.2.2]) (.tc (.ag [Ti r.2.1,Ti r.2.2.1,Ti r.2.2.2.1,Ti r.2.2.2.2]) .tn),[])) (rs:=[.w 6 3,.w 7 4]) (vs:=[.cell 6 42,.cell 7 120]) Tryz.func203 rfl rfl (.cons ⟨rfl,wd42⟩ (.cons ⟨rfl,zFK⟩ FitsL.nil)) h
def zJa (f1:τF) (x2:Int) (y3:Int):=fC zI9 (zBA f1 x2 y3) fun _=>zIv
theorem zU1:CfW Tryz.prog 163:=cfW Tryz.func163
noncomputable def zVk (f1:τF) (g2:τF):T Tryz.prog ((Int×Int×Int×Int×τM×τM)):=
 .op1 (zGz g2 f1.1) fun y3=>
 .op1 (zJa g2 y3.1 y3.2) fun y4=>
 .draw 12 []<|.op1 (zC0 f1.2.1 (w64 (2*f1.1))) fun y5=>.n0 (bld z6H bt159)<|
 .loop (fun n X_1=>zDS f1 y4 n X_1) y5 (mb 103 916) [72,64,56,32,16] (fun s X_1 γ=>s.pc (mb 103 916) [72,64,56,32,16] [] [(72,.box [Ti f1.1,Ti y4.1.1,Ti X_1,Ti 0,Ti 0,Ti 0,Ti 0,Ti 0,Ti 0,Ti 0,Ti 0,Ti 0])]) (fun X_1=>
 .op1 (zC0 (w64 (X_1 - y4.1.2.1)) (w64 (2*y4.1.1))) fun y9=>
 .cond (!eqI y9 0) (
 .frc (w64 (X_1+(w64 (2*f1.1)))) fun f11=>.ret (.inl f11))<|.ret (.inr X_1)) (mb 103 916) [72,64,56,32,16] (fun s o8 γ=>s.pc (mb 103 916) [72,64,56,32,16] [] [(72,.box [Ti f1.1,Ti y4.1.1,Ti o8,Ti 0,Ti 0,Ti 0,Ti 0,Ti 0,Ti 0,Ti 0,Ti 0,Ti 0])]) fun o8=>
 .op1 (zC0 o8 (w64 ((w64 (2*f1.1))*y4.1.1))) fun y12=>
 .draw 16 []<|.op1 (zBF f1) fun y13=>.op0 (quoF .i64 (w64 ((w64 (y12*y12)) - y13)) (w64 ((w64 (4*f1.1))*y4.1.1))) fun z14=>
 .frc (w64 (Int.tdiv (w64 ((w64 (y12*y12)) - y13)) (w64 ((w64 (4*f1.1))*y4.1.1)))) fun f15=>.op0 (quoF .i64 (w64 (y12 - f1.2.1)) (w64 (2*f1.1))) fun z16=>.n0 (bld zD3 zDm)<|
 .frc (w64 (Int.tdiv (w64 (y12 - f1.2.1)) (w64 (2*f1.1)))) fun f17=>.draw 13 []<|.op0 (quoF .i64 (w64 (y12 - y4.1.2.1)) (w64 (2*y4.1.1))) fun z18=>.n0 (bld zD3 zDm)<|.op1 (zEH y4.2 ((1,w64 (Int.tdiv (w64 (y12 - y4.1.2.1)) (w64 (2*y4.1.1))),0,1))) fun y19=>
 .ret ((f1.1,y4.1.1,y12,f15,(1,f17,0,1),y19))
theorem zWK {f1:τF} {g2:τF} {r:(Int×Int×Int×Int×τM×τM)} (h:zDD f1 g2=some r):zD Tryz.prog 163 [.ag [Ti f1.1,Ti f1.2.1,Ti f1.2.2],.ag [Ti g2.1,Ti g2.2.1,Ti g2.2.2]] (.ag [Ti r.1,Ti r.2.1,Ti r.2.2.1,Ti r.2.2.2.1,Ti r.2.2.2.2.1.1,Ti r.2.2.2.2.1.2.1,Ti r.2.2.2.2.1.2.2.1,Ti r.2.2.2.2.1.2.2.2,Ti r.2.2.2.2.2.1,Ti r.2.2.2.2.2.2.1,Ti r.2.2.2.2.2.2.2.1,Ti r.2.2.2.2.2.2.2.2]) []:=CtT (zVk f1 g2) (fun r=>(.ag [Ti r.1,Ti r.2.1,Ti r.2.2.1,Ti r.2.2.2.1,Ti r.2.2.2.2.1.1,Ti r.2.2.2.2.1.2.1,Ti r.2.2.2.2.1.2.2.1,Ti r.2.2.2.2.1.2.2.2,Ti r.2.2.2.2.2.1,Ti r.2.2.2.2.2.2.1,Ti r.2.2.2.2.2.2.2.1,Ti r.2.2.2.2.2.2.2.2],[])) (rs:=[.w 4 12]) (vs:=[.cell 4 159]) Tryz.func163 rfl rfl (.cons ⟨rfl,wd159⟩ FitsL.nil) h
def zX1 (f1:τF) (g2:τF):=fC zU1 (zDD f1 g2) fun _=>zWK
theorem zHM:CfW Tryz.prog 164:=cfW Tryz.func164
noncomputable def zHR (u1:(Int×Int×Int×Int×τM×τM)):T Tryz.prog (τF):=
 .n0 (bld pl42 bt42)<|
 .frc (w64 (u1.1*u1.2.1)) fun f2=>.ret ((f2,u1.2.2.1,u1.2.2.2.1))
theorem zHU {u1:(Int×Int×Int×Int×τM×τM)} {r:τF} (h:zBl u1=some r):zD Tryz.prog 164 [.ag [Ti u1.1,Ti u1.2.1,Ti u1.2.2.1,Ti u1.2.2.2.1,Ti u1.2.2.2.2.1.1,Ti u1.2.2.2.2.1.2.1,Ti u1.2.2.2.2.1.2.2.1,Ti u1.2.2.2.2.1.2.2.2,Ti u1.2.2.2.2.2.1,Ti u1.2.2.2.2.2.2.1,Ti u1.2.2.2.2.2.2.2.1,Ti u1.2.2.2.2.2.2.2.2]] (.ag [Ti r.1,Ti r.2.1,Ti r.2.2]) []:=CtT (zHR u1) (fun r=>(.ag [Ti r.1,Ti r.2.1,Ti r.2.2],[])) (rs:=[.w 2 3]) (vs:=[.cell 2 42]) Tryz.func164 rfl rfl (.cons ⟨rfl,wd42⟩ FitsL.nil) h
def zHg (u1:(Int×Int×Int×Int×τM×τM)):=fC zHM (zBl u1) fun _=>zHU
theorem zQJ:CfW Tryz.prog 119:=cfW Tryz.func119
noncomputable def zRK (f1:τF) (g2:τF):T Tryz.prog (τF):=
 .draw 7 []<|.op1 (zAT f1) fun y3=>.op1 (zAT g2) fun y4=>.op1 (zX1 y3 y4) fun y5=>.op1 (zHg y5) fun y6=>.op1 (zAT y6) fun y7=>
 .ret y7
theorem zRi {f1:τF} {g2:τF} {r:τF} (h:jH f1 g2=some r):zD Tryz.prog 119 [.ag [Ti f1.1,Ti f1.2.1,Ti f1.2.2],.ag [Ti g2.1,Ti g2.2.1,Ti g2.2.2]] (.ag [Ti r.1,Ti r.2.1,Ti r.2.2]) []:=CtT (zRK f1 g2) (fun r=>(.ag [Ti r.1,Ti r.2.1,Ti r.2.2],[])) (rs:=[.w 4 3]) (vs:=[.cell 4 42]) Tryz.func119 rfl rfl (.cons ⟨rfl,wd42⟩ FitsL.nil) h
def zFI (f1:τF) (g2:τF):=fC zQJ (jH f1 g2) fun _=>zRi
theorem zI8:CfW Tryz.prog 165:=cfW Tryz.func165
noncomputable def zIf (f1:τF):T Tryz.prog (τF):=
 .n0 (bld pl42 bt42)<|
 .frc (w64 (0 - f1.2.1)) fun f2=>.ret ((f1.1,f2,f1.2.2))
theorem zIu {f1:τF} {r:τF} (h:zAz f1=some r):zD Tryz.prog 165 [.ag [Ti f1.1,Ti f1.2.1,Ti f1.2.2]] (.ag [Ti r.1,Ti r.2.1,Ti r.2.2]) []:=CtT (zIf f1) (fun r=>(.ag [Ti r.1,Ti r.2.1,Ti r.2.2],[])) (rs:=[.w 2 3]) (vs:=[.cell 2 42]) Tryz.func165 rfl rfl (.cons ⟨rfl,wd42⟩ FitsL.nil) h
def zJ8 (f1:τF):=fC zI8 (zAz f1) fun _=>zIu
theorem zI6:CfW Tryz.prog 166:=cfW Tryz.func166
noncomputable def zId (d1:Int):T Tryz.prog (τF):=
 .op1 (zC0 d1 2) fun y2=>
 .n0 dvN<|.n0 (bld pl42 bt42)<|
 .frc (w64 (Int.tdiv (w64 (y2 - d1)) 4)) fun f3=>.ret ((1,y2,f3))
theorem zIs {d1:Int} {r:τF} (h:zAN d1=some r):zD Tryz.prog 166 [I d1] (.ag [Ti r.1,Ti r.2.1,Ti r.2.2]) []:=CtT (zId d1) (fun r=>(.ag [Ti r.1,Ti r.2.1,Ti r.2.2],[])) (rs:=[.w 2 3]) (vs:=[.cell 2 42]) Tryz.func166 rfl rfl (.cons ⟨rfl,wd42⟩ FitsL.nil) h
def zFg (d1:Int):=fC zI6 (zAN d1) fun _=>zIs
theorem zMr:CfW Tryz.prog 120:=cfW Tryz.func120
noncomputable def zN5 (f1:τF) (k2:Int):T Tryz.prog (τF):=
 .pl<|.join (
 .cond (ltI k2 0) (.op1 (zJ8 f1) fun y5=>
 .frc (w64 (0 - k2)) fun k6=>.ret (k6,y5.1,y5.2.1,y5.2.2))<|.ret (k2,f1.1,f1.2.1,f1.2.2)) (mb 32 22) [32,16] (fun s j3 γ=>s.pc (mb 32 22) [32,16] [(1,I j3.1)] [(16,.box [Ti j3.2.1,Ti j3.2.2.1,Ti j3.2.2.2])]) fun j3=>
 .op1 (zBF j3.2) fun y7=>.op1 (zFg y7) fun y8=>.op1 (zAT y8) fun y9=>
 .op1 (zAT j3.2) fun y10=>
 .loop (fun n X_1=>zAx n X_1.1 X_1.2.1 X_1.2.2.1 X_1.2.2.2.1 X_1.2.2.2.2.1 X_1.2.2.2.2.2.1 X_1.2.2.2.2.2.2) ((j3.1,y9.1,y9.2.1,y9.2.2,y10.1,y10.2.1,y10.2.2)) (mb 32 54) [40,32,16] (fun s X_1 γ=>s.pc (mb 32 54) [40,32,16] [(1,I X_1.1)] [(40,.box [Ti X_1.2.1,Ti X_1.2.2.1,Ti X_1.2.2.2.1]),(16,.box [Ti X_1.2.2.2.2.1,Ti X_1.2.2.2.2.2.1,Ti X_1.2.2.2.2.2.2])]) (fun X_1=>
 .cond (ltI 0 X_1.1) (.pl<|.dn<|.join (.n0 dvN<|
 .cond (eqI (Int.tmod X_1.1 2) 1) (.op1 (zFI ((X_1.2.1,X_1.2.2.1,X_1.2.2.2.1)) ((X_1.2.2.2.2.1,X_1.2.2.2.2.2.1,X_1.2.2.2.2.2.2))) fun y23=>
 .ret (y23.1,y23.2.1,y23.2.2))<|.ret (X_1.2.1,X_1.2.2.1,X_1.2.2.2.1)) (mb 32 54) [40,32,16] (fun s j21 γ=>s.pc (mb 32 54) [40,32,16] [] [(40,.box [Ti j21.1,Ti j21.2.1,Ti j21.2.2])]) fun j21=>
 .op1 (zFI ((X_1.2.2.2.2.1,X_1.2.2.2.2.2.1,X_1.2.2.2.2.2.2)) ((X_1.2.2.2.2.1,X_1.2.2.2.2.2.1,X_1.2.2.2.2.2.2))) fun y24=>
 .n0 dvN<|
 .frc (w64 (Int.tdiv X_1.1 2)) fun k25=>.ret (.inl ((k25,j21.1,j21.2.1,j21.2.2,y24.1,y24.2.1,y24.2.2))))<|.ret (.inr ((X_1.2.1,X_1.2.2.1,X_1.2.2.2.1)))) (mb 32 48) [40,32] (fun s o19 γ=>s.pc (mb 32 48) [40,32] [] [(40,.box [Ti o19.1,Ti o19.2.1,Ti o19.2.2])]) fun o19=>
 .ret o19
theorem zNp {f1:τF} {k2:Int} {r:τF} (h:zB7 f1 k2=some r):zD Tryz.prog 120 [.ag [Ti f1.1,Ti f1.2.1,Ti f1.2.2],I k2] (.ag [Ti r.1,Ti r.2.1,Ti r.2.2]) []:=CtT (zN5 f1 k2) (fun r=>(.ag [Ti r.1,Ti r.2.1,Ti r.2.2],[])) (rs:=[.w 4 3]) (vs:=[.cell 4 42]) Tryz.func120 rfl rfl (.cons ⟨rfl,wd42⟩ FitsL.nil) h
def zOm (f1:τF) (k2:Int):=fC zMr (zB7 f1 k2) fun _=>zNp
theorem zJS:CfW Tryz.prog 81:=cfW Tryz.func81
noncomputable def zJz (vs1:τI) (l2:(ByteArray×(List Int)×τF×Int)) (forms3:List τF):T Tryz.prog ((Bool×Bool×τI)):=
 .cond (l2.1.toList==((⟨#[100,105,115,99]⟩:ByteArray)).toList) (.n0 (bld pl62 bt62)<|.n0 au<|
 .op1 (zFM l2.2.2.2) fun y5=>
 .ret ((y5,true,(l2.2.2.2,(fun _=>(0,0,0))))))<|
 .cond (l2.1.toList==((⟨#[115,101,116]⟩:ByteArray)).toList) (.join (.draw 21 []<|.op1 (zLi l2.2.2.1) fun y7=>.cond y7 (.op1 (zBF l2.2.2.1) fun y8=>.n0 au<|.cond (eqI y8 vs1.1) (.op0 (idxM ct3 l2.2.1 0) fun e9=>.opx (zEA vs1 e9 l2.2.2.1) fun y10=>.ret ((y10.1,y10.2.1,y10.2.2))) (.ret ((false,vs1.1,vs1.2)))) (.ret ((false,vs1.1,vs1.2)))) (mb 109 192) [80000] (fun s j11 γ=>s.pc (mb 109 192) [80000] [(6,Bo j11.1),(7,Bo true)] [(80000,s.pbx 80000 ((Ti j11.2.1::q78 (j11.2.2) [])++zK5 s 80000 79))]) fun j11=>
 .ret ((j11.1,true,j11.2)))<|
 .lt (l2.1.toList==((⟨#[112,114,105,109,101]⟩:ByteArray)).toList) fun t12=>.cond t12 (.draw 12 [(11,64)]<|.n0 au<|.op1 (zNL vs1.1 l2.2.2.2) fun y14=>
 .join (.draw 8 []<|.cond y14.2 (.op0 (idxM ct3 l2.2.1 0) fun e15=>.opx (zEA vs1 e15 y14.1) fun y16=>.ret ((y16.1,y16.2.1,y16.2.2))) (.ret ((false,vs1.1,vs1.2)))) (mb 109 192) [80000] (fun s j17 γ=>s.pc (mb 109 192) [80000] [(6,Bo j17.1),(7,Bo true)] [(80000,s.pbx 80000 ((Ti j17.2.1::q78 (j17.2.2) [])++zK5 s 80000 79))]) fun j17=>
 .ret ((j17.1,true,j17.2)))<|
 .cond (l2.1.toList==((⟨#[109,117,108]⟩:ByteArray)).toList) (.draw 12 []<|.op0 (idxM ct3 l2.2.1 0) fun e19=>.op0 (idxM ct42 forms3 1) fun e20=>.op0 (idxM ct42 forms3 2) fun e21=>.op1 (zFI e20 e21) fun y22=>.opx (zEA vs1 e19 y22) fun y23=>
 .ret ((y23.1,true,y23.2)))<|
 .cond (l2.1.toList==((⟨#[112,111,119]⟩:ByteArray)).toList) (.draw 11 []<|.op0 (idxM ct3 l2.2.1 0) fun e25=>.op0 (idxM ct42 forms3 1) fun e26=>.op1 (zOm e26 l2.2.2.2) fun y27=>.opx (zEA vs1 e25 y27) fun y28=>
 .ret ((y28.1,true,y28.2)))<|
 .lt (l2.1.toList==((⟨#[102,114,101,101]⟩:ByteArray)).toList) fun t29=>.cond t29 (.draw 9 []<|.op0 (idxM ct3 l2.2.1 0) fun e31=>.n0 (bld pl42 bt42)<|.n0 au<|.op0 (ixA 26 vs1.2 e31) fun e32=>.opx (stA ct42 26 vs1.2 e31 1 ((0,0,0))) fun g33=>
 .ret ((true,true,(vs1.1,g33))))<|
 .ret ((false,false,vs1))
theorem zKJ {vs1:τI} {l2:(ByteArray×(List Int)×τF×Int)} {forms3:List τF} {rest:List Tr} {r:(Bool×Bool×τI)} (h:zJ vs1 l2 forms3=some r):zHe Tryz.prog 81 [.pt 80000 0,.ag [.v (.string l2.1),.sl (l2.2.1.map c3),Ti l2.2.2.1.1,Ti l2.2.2.1.2.1,Ti l2.2.2.1.2.2,Ti l2.2.2.2],.c (.sl (forms3.map c42))] [(80000,.box ((Ti vs1.1::q78 (vs1.2) [])++rest))] (.tc (Bo r.1) (.tc (Bo r.2.1) .tn)) [] [(80000,.box ((Ti r.2.2.1::q78 (r.2.2.2) [])++rest))]:=CrT (zJz vs1 l2 forms3) (fun r=>(.tc (Bo r.1) (.tc (Bo r.2.1) .tn),[])) (fun r=>[(80000,.box ((Ti r.2.2.1::q78 (r.2.2.2) [])++rest))]) (rs:=[.t 6,.t 7]) (vs:=[.tmp 6,.tmp 7]) Tryz.func81 rfl rfl (.cons rfl (.cons rfl FitsL.nil)) h
def zK1 (vs1:τI) (l2:(ByteArray×(List Int)×τF×Int)) (forms3:List τF):=fRt zJS (zJ vs1 l2 forms3) 80000 79 (fun rest _ h=>zKJ (rest:=rest) h)
theorem zL4:CfW Tryz.prog 239:=cfW Tryz.func239
noncomputable def zLz (d1:Int):T Tryz.prog (List τF):=
 .n1 (nilN 42 3 (by decide))<|
 .n1 bsl0<|
 .loop (fun n X_2=>zAy d1 n X_2.1 X_2.2) ((1,([]:List τF))) (mb 51 25) [56] (fun s X_2 γ=>s.pc (mb 51 25) [56] [(4,I X_2.1)] [(56,.arr 42 3 (X_2.2.map c42))]) (fun X_2=>
 .cond (leI (w64 ((w64 (3*X_2.1))*X_2.1)) (w64 (0 - d1))) (
 .frc (w64 (1 - X_2.1)) fun b7=>.loop (fun n X_1=>jL X_2.1 d1 n X_1.1 X_1.2) ((b7,X_2.2)) (mb 51 57) [56] (fun s X_1 γ=>s.pc (mb 51 57) [56] [(5,I X_1.1)] [(56,.arr 42 3 (X_1.2.map c42))]) (fun X_1=>
 .cond (leI X_1.1 X_2.1) (.op0 (remF .i64 (w64 ((w64 (X_1.1*X_1.1)) - d1)) (w64 (4*X_2.1))) fun z13=>
 .lt (!eqI (Int.tmod (w64 ((w64 (X_1.1*X_1.1)) - d1)) (w64 (4*X_2.1))) 0) fun t14=>.cond t14 (
 .frc (w64 (X_1.1+1)) fun b16=>.ret (.inl ((b16,X_1.2))))<|.op0 (quoF .i64 (w64 ((w64 (X_1.1*X_1.1)) - d1)) (w64 (4*X_2.1))) fun z17=>.n0 (bld pl42 bt42)<|
 .frc (w64 (Int.tdiv (w64 ((w64 (X_1.1*X_1.1)) - d1)) (w64 (4*X_2.1)))) fun f18=>.op1 (zDZ ((X_2.1,X_1.1,f18))) fun y19=>
 .cond y19 (.n1 bsl<|.opx (app ct42 X_1.2 ([(X_2.1,X_1.1,f18)])) fun u21=>
 .frc (w64 (X_1.1+1)) fun b22=>.ret (.inl ((b22,X_1.2++([(X_2.1,X_1.1,f18)])))))<|
 .frc (w64 (X_1.1+1)) fun b23=>.ret (.inl ((b23,X_1.2))))<|.ret (.inr X_1.2)) (mb 51 25) [56] (fun s o11 γ=>s.pc (mb 51 25) [56] [] [(56,.arr 42 3 (o11.map c42))]) fun o11=>
 .frc (w64 (X_2.1+1)) fun a24=>.ret (.inl ((a24,o11))))<|.ret (.inr X_2.2)) (mb 51 8) [56] (fun s o5 γ=>s.pc (mb 51 8) [56] [] [(56,.arr 42 3 (o5.map c42))]) fun o5=>
 .ret o5
theorem zMU {d1:Int} {r:List τF} (h:zD1 d1=some r):zD Tryz.prog 239 [I d1] (.ow 0) [(0,.arr 42 3 (r.map c42))]:=CtT (zLz d1) (fun r=>(.ow 0,[(0,.arr 42 3 (r.map c42))])) (rs:=[.t 2]) (vs:=[.tmp 2]) Tryz.func239 rfl rfl (.cons rfl FitsL.nil) h
def zNK (d1:Int):=fC zL4 (zD1 d1) fun _=>zMU
theorem zKW:CfW Tryz.prog 238:=cfW Tryz.func238
noncomputable def zKo (forms1:List τF):T Tryz.prog (List τF):=
 .n1 (nilN 42 3 (by decide))<|
 .n1 bsl0<|
 .n0 (lenM ct42 forms1)<|
 .loop (fun n X_1=>zAa forms1 n X_1.1 X_1.2) ((0,([]:List τF))) (mb 22 904) [48] (fun s X_1 γ=>s.pc (mb 22 904) [48] [(9,I X_1.1)] [(48,.arr 42 3 (X_1.2.map c42))]) (fun X_1=>
 .cond (ltI X_1.1 ((forms1.length:Int))) (.op0 (idxM ct42 forms1 X_1.1) fun e7=>
 .op1 (zEI e7) fun y8=>
 .cond (eqI y8 1) (.n1 bsl<|.opx (app ct42 X_1.2 ([e7])) fun u10=>
 .frc (w64 (X_1.1+1)) fun t11=>.ret (.inl ((t11,X_1.2++([e7])))))<|
 .frc (w64 (X_1.1+1)) fun t12=>.ret (.inl ((t12,X_1.2))))<|.ret (.inr X_1.2)) (mb 22 8) [48] (fun s o5 γ=>s.pc (mb 22 8) [48] [] [(48,.arr 42 3 (o5.map c42))]) fun o5=>
 .ret o5
theorem zLE {forms1:List τF} {r:List τF} (h:zDE forms1=some r):zD Tryz.prog 238 [.c (.sl (forms1.map c42))] (.ow 0) [(0,.arr 42 3 (r.map c42))]:=CtT (zKo forms1) (fun r=>(.ow 0,[(0,.arr 42 3 (r.map c42))])) (rs:=[.t 2]) (vs:=[.tmp 2]) Tryz.func238 rfl rfl (.cons rfl FitsL.nil) h
def zLg (forms1:List τF):=fCs zKW (zDE forms1) (fun _=>zLE) fun _=>(zZb (fun _=>rfl) rfl)
theorem zJT:CfW Tryz.prog 205:=cfW Tryz.func205
noncomputable def zKA (d1:Int):T Tryz.prog (List τF):=
 .n1 (nilN 42 3 (by decide))<|
 .op1 (zNK d1) fun y2=>.op1 (zLg y2) fun y3=>
 .ret y3
theorem zKK {d1:Int} {r:List τF} (h:zBy d1=some r):zD Tryz.prog 205 [I d1] (.ow 0) [(0,.arr 42 3 (r.map c42))]:=CtT (zKA d1) (fun r=>(.ow 0,[(0,.arr 42 3 (r.map c42))])) (rs:=[.t 2]) (vs:=[.tmp 2]) Tryz.func205 rfl rfl (.cons rfl FitsL.nil) h
theorem zQH:∀args w,(callFunc 167 args).run Tryz.prog w=.ok (.enter 167 args) w:=jA Tryz.func167 kk kk
set_option maxRecDepth 100000 in
set_option maxHeartbeats 400000 in
theorem zRg {d1:Int} {r:((List τF)×(List (τF×Int)))} (h:zEv d1=some r):zD Tryz.prog 167 [I d1] (.pe [.sl (r.1.map c42),.mp (r.2.map zEN)]) []:=by
  refine zAk (rs:=[.t 2]) (vs:=[.tmp 2]) Tryz.func167 rfl rfl (.cons rfl FitsL.nil) (by decide) 29 rfl ?_
  unfold zEv at h;show V _ _ ⟨I d1::bt 28 [],[]⟩ _;refine qL (mb 29 1) [] (s1:=⟨I d1::bt 28 [],[]⟩) ?_ ?_
  ·refine L0 rfl rfl (zF (.c (.v (.pointer none))) rfl kk) ?_
   refine zI ?_
   kernel_rfl
  obtain⟨y2,hy2,h⟩:=zO h;refine z1B (fun mb8=>⟨bt 3 (.pt 80 0::bt 25 []),[(80,.box [.sl (y2.map c42),.v (.map (some mb8))]),(64,.mp mb8 ((([]:List (τF×Int))).map zEN))]⟩) (mb 29 8) [80,64] ?_ ?_
  ·refine L0 rfl rfl (zG (I d1) rfl kk) ?_
   refine L1 rfl rfl (zCD (zKK hy2) zJT rfl kk) ?_
   refine zYn rfl rfl rfl fun mb8=>?_
   refine zVV 56 (T:=42) (sz:=3) (els:=y2.map c42) (s1:=⟨I d1::bt 5 (I d1::.c (.sl (y2.map c42))::.c (.v (.map (some mb8)))::bt 20 []),[(64,.mp mb8 ((([]:List (τF×Int))).map zEN))]⟩) kk kk ?_
   refine L0 rfl rfl (zGe (cs:=[.sl (y2.map c42),.v (.map (some mb8))]) z6G bt164 rfl rfl kk) ?_
   refine L1 rfl rfl (zSo (cs:=[.sl (y2.map c42),.v (.map (some mb8))]) rfl kk) ?_
   refine L0 rfl rfl (zF (.pt 80 0) rfl kk) ?_
   refine zI ?_
   exact⟨mb8,by kernel_rfl⟩
  intro mb8;refine zCo ?_
  refine qL (mb 29 114696) [80,64] (s1:=⟨bt 3 (.pt 80 0::bt 10 (.c (.sl (y2.map c42))::I ((y2.length:Int))::I 0::bt 12 [])),[(80,.box [.sl (y2.map c42),.v (.map (some mb8))]),(64,.mp mb8 ((([]:List (τF×Int))).map zEN))]⟩) ?_ ?_
  ·refine L0 rfl rfl (zG (.pt 80 0) rfl kk) ?_
   refine L0 rfl rfl (z1G (.pt 80 0) rfl kk (by intro hh;cases hh)) ?_
   refine L0 rfl rfl (jX (.pt 80 0) Tryz.underlying164 rfl sz22 rfl kk (by intro hh;cases hh)) ?_
   refine L0 rfl rfl (jR (c:=.sl (y2.map c42)) (cs:=[.v (.map (some mb8))]) sc22 rfl kk) ?_
   refine L0 rfl rfl (zJu (c:=c42) (xs:=y2) Tryz.underlying22 rfl kk) ?_
   refine L0 rfl rfl (zG (I 0) rfl kk) ?_
   refine zI ?_
   kernel_rfl
  obtain⟨o6,hLo6,h⟩:=zO h;refine z45 (mb 29 8) [80,64] (s1:=⟨bt 3 (.pt 80 0::bt 25 []),[(80,.box [.sl (y2.map c42),.v (.map (some mb8))]),(64,.mp mb8 (o6.map zEN))]⟩) ?_ ?_
  ·clear h;refine zDL (zOe (fun n s=>∃(t3:Int) (l4:List (τF×Int)),s.keep (mb 29 114696) [80,64]=(⟨bt 3 (.pt 80 0::bt 10 (.c (.sl (y2.map c42))::I ((y2.length:Int))::I t3::bt 12 [])),[(80,.box [.sl (y2.map c42),.v (.map (some mb8))]),(64,.mp mb8 (l4.map zEN))]⟩:St)∧zBQ y2 n t3 l4=some o6) FU ⟨_,_,by rfl,hLo6⟩ ?_);clear hLo6;rintro n s ⟨t3,l4,hs,h⟩;refine zXO _ _ hs ?_
   clear hs;cases n with
   |zero=>cases h
   |succ n=>
    rw[zBQ]at h;refine qL (mb 29 245768) [80,64] (s1:=⟨bt 3 (.pt 80 0::bt 10 (.c (.sl (y2.map c42))::I ((y2.length:Int))::I t3::Bo (ltI t3 ((y2.length:Int)))::bt 11 [])),[(80,.box [.sl (y2.map c42),.v (.map (some mb8))]),(64,.mp mb8 (l4.map zEN))]⟩) ?_ ?_
    ·refine L0 rfl rfl (zFw (k:=.i64) (a:=t3) (b:=(y2.length:Int)) rfl kk kk) ?_
     refine zI ?_
     kernel_rfl
    refine zCo ?_
    refine zDK rfl (fun hc7=>?_) (fun hc7=>?_)
    ·have h:=zBq h hc7;refine zE6 ?_
     show V _ _ _ _;refine zCo ?_
     refine zDL ?_
     obtain⟨e8,he8,h⟩:=zO h;refine qL (mb 29 114744) [40,80,64] (s1:=⟨bt 3 (.pt 80 0::I t3::.pt 40 0::bt 8 (.c (.sl (y2.map c42))::I ((y2.length:Int))::I t3::bt 12 [])),[(40,.box [Ti e8.1,Ti e8.2.1,Ti e8.2.2]),(80,.box [.sl (y2.map c42),.v (.map (some mb8))]),(64,.mp mb8 (l4.map zEN))]⟩) ?_ ?_
     ·refine L0 rfl rfl (zG (I t3) rfl kk) ?_
      refine L0 rfl rfl (zXL (c:=c42) (xs:=y2) (v:=e8) (n:=t3) Tryz.underlying22 sz42 rfl kk kk he8) ?_
      refine L0 rfl rfl (zGx (cs:=[Ti e8.1,Ti e8.2.1,Ti e8.2.2]) [Ti e8.1,Ti e8.2.1,Ti e8.2.2] wd42 rfl kk (Nat.le_of_ble_eq_true rfl) kk) ?_
      refine L1 rfl rfl (zMx (z:=zv42) rfl zf42 rfl) ?_
      refine L0 rfl rfl (zF (I t3) rfl kk) ?_
      refine zQ rfl (zFE (id:=40) (off:=0) (cs:=[Ti 0,Ti 0,Ti 0]) (vc:=[Ti e8.1,Ti e8.2.1,Ti e8.2.2]) [Ti e8.1,Ti e8.2.1,Ti e8.2.2] rfl rfl kk kk kk sz42 (Nat.le_of_ble_eq_true rfl) kk) ?_
      refine zI ?_
      kernel_rfl
     refine z4a [0,1,3,7,0,0,63] 6 [[.z,.z,.z,.z,.b,.b],[.a,.z,.z,.z,.b,.b],[.a,.a,.z,.z,.b,.b],[.a,.a,.a,.z,.b,.b],[.b,.b,.b,.b,.z,.b],[.b,.b,.b,.b,.b,.z]] (mb 29 114696) [80,64] (s1:=⟨bt 3 (.pt 80 0::bt 10 (.c (.sl (y2.map c42))::I ((y2.length:Int))::I t3::bt 12 [])),[(80,.box [.sl (y2.map c42),.v (.map (some mb8))]),(64,.mp mb8 ((mPut e8 t3 l4).map zEN))]⟩) kk kk ?_ ?_
     ·refine DE_0 0 (.pt 80 0) kk rfl rfl rfl (jC rfl) kk (zG (.pt 80 0) rfl kk) 21 rfl ?_
      refine DE_0 1 (.pt 80 0) kk rfl rfl rfl (jC rfl) kk (z1G (.pt 80 0) rfl kk (by intro hh;cases hh)) 22 rfl ?_
      refine DE_0 2 (.pt 80 1) kk rfl rfl rfl (jC rfl) kk (jX (.pt 80 1) Tryz.underlying164 rfl z6A rfl kk (by intro hh;cases hh)) 23 rfl ?_
      refine DE_0 3 (.c (.v (.map (some mb8)))) kk rfl rfl rfl (jC rfl) kk (jR (c:=.v (.map (some mb8))) (cs:=[]) z6E rfl kk) 24 rfl ?_
      refine DE_0 4 (.ag [Ti e8.1,Ti e8.2.1,Ti e8.2.2]) kk rfl rfl rfl (jC rfl) kk (zGx (cs:=[Ti e8.1,Ti e8.2.1,Ti e8.2.2]) [Ti e8.1,Ti e8.2.1,Ti e8.2.2] wd42 rfl kk (Nat.le_of_ble_eq_true rfl) kk) 25 rfl ?_
      refine DE_0 5 (I t3) kk rfl rfl rfl (jC rfl) kk (zG (I t3) rfl kk) 26 rfl ?_
      refine zXQ kk ?_
      refine zQ rfl (zE5 (κ:=τF) (ν:=Int) (ek:=zVE) (ev:=z0j) (z:=0) (m:=l4) (a:=e8) (u:=t3) (id:=64) (b:=mb8) z6K (.inl rfl) rfl kk kk kk kk) ?_
      refine zI ?_
      kernel_rfl
     show V _ _ _ _;obtain⟨t9,ht9,h⟩:=zIT h;refine zSs (mb 29 114696) [80,64] (s1:=⟨bt 3 (.pt 80 0::bt 10 (.c (.sl (y2.map c42))::I ((y2.length:Int))::I t9::bt 12 [])),[(80,.box [.sl (y2.map c42),.v (.map (some mb8))]),(64,.mp mb8 ((mPut e8 t3 l4).map zEN))]⟩) ?_ ?_
     ·refine L0 rfl rfl (zCx (a:=t3) (b:=1) rfl kk kk) ?_
      refine L0 rfl rfl (zG (I (w64 (t3+1))) rfl kk) ?_
      refine zI ?_
      subst ht9
      kernel_rfl
     exact⟨n,Nat.lt_succ_self n,_,_,by rfl,h⟩
    ·have h:=zBB h hc7;refine zSt ?_
     obtain rfl:=zR h;show St.keep _ _ _=_;rfl
  show V _ _ _ _;refine qL (mb 29 4) [80,64] (s1:=⟨.bot::.bot::.pt 80 0::bt 26 [],[(80,.box [.sl (y2.map c42),.v (.map (some mb8))]),(64,.mp mb8 (o6.map zEN))]⟩) ?_ ?_
  ·refine L0 rfl rfl (zG (.pt 80 0) rfl kk) ?_
   refine L0 rfl rfl (zF (.pt 80 0) rfl kk) ?_
   refine zI ?_
   kernel_rfl
  refine z1w 64 80 1 (b:=mb8) (kvs:=o6.map zEN) (cs:=[.sl (y2.map c42),.v (.map (some mb8))]) (s1:=⟨.bot::.bot::.pt 80 0::bt 26 [],[(80,.box [.sl (y2.map c42),.mp (o6.map zEN)])]⟩) kk kk kk kk ?_
  refine z1x 80 (cs:=[.sl (y2.map c42),.mp (o6.map zEN)]) (s1:=⟨.bot::.bot::.pe [.sl (y2.map c42),.mp (o6.map zEN)]::bt 26 [],[]⟩) kk kk ?_
  refine zEQ ?_
  obtain rfl:=zR h;show Post _ _ _ _ _;exact⟨.inr rfl,rfl,rfl,rfl⟩
theorem zL9:∀args w,(callFunc 122 args).run Tryz.prog w=.ok (.enter 122 args) w:=jA Tryz.func122 kk kk
set_option maxRecDepth 100000 in
set_option maxHeartbeats 400000 in
theorem zMZ {f1:τF} {r:(Int×Bool)} (h:zBp f1=some r):zD Tryz.prog 122 [.ag [Ti f1.1,Ti f1.2.1,Ti f1.2.2]] (.tc (I r.1) (.tc (Bo r.2) .tn)) []:=by
  refine zAk (rs:=[.t 2,.t 3]) (vs:=[.tmp 2,.tmp 3]) Tryz.func122 rfl rfl (.cons rfl (.cons rfl FitsL.nil)) (by decide) 16 rfl ?_
  unfold zBp at h;show V _ _ ⟨.ag [Ti f1.1,Ti f1.2.1,Ti f1.2.2]::bt 15 [],[]⟩ _;refine qL (mb 16 2) [8] (s1:=⟨.bot::.pt 8 0::bt 14 [],[(8,.box [Ti f1.1,Ti f1.2.1,Ti f1.2.2])]⟩) ?_ ?_
  ·refine L1 rfl rfl (zSo (cs:=[Ti f1.1,Ti f1.2.1,Ti f1.2.2]) rfl kk) ?_
   refine L0 rfl rfl (zF (I 0) rfl kk) ?_
   refine L0 rfl rfl (zF (Bo false) rfl kk) ?_
   refine zI ?_
   kernel_rfl
  refine zCo ?_
  obtain⟨y2,hy2,h⟩:=zO h;refine qL (mb 16 66) [8] (s1:=⟨.bot::.pt 8 0::bt 4 (Bo (!y2)::bt 9 []),[(8,.box [Ti f1.1,Ti f1.2.1,Ti f1.2.2])]⟩) ?_ ?_
  ·refine L0 rfl rfl (zGx (cs:=[Ti f1.1,Ti f1.2.1,Ti f1.2.2]) [Ti f1.1,Ti f1.2.1,Ti f1.2.2] wd42 rfl kk (Nat.le_of_ble_eq_true rfl) kk) ?_
   refine L1 rfl rfl (zCD (zGZ hy2) zGA rfl kk) ?_
   refine L0 rfl rfl (zOa (b:=y2) rfl kk) ?_
   refine zI ?_
   kernel_rfl
  refine zDK rfl (fun hc3=>?_) (fun hc3=>?_)
  ·have h:=zBq h hc3;refine qL (mb 16 12) [] (s1:=⟨.bot::.bot::I 0::Bo false::bt 12 [],[]⟩) ?_ ?_
   ·refine L0 rfl rfl (zF (I 0) rfl kk) ?_
    refine L0 rfl rfl (zF (Bo false) rfl kk) ?_
    refine zI ?_
    kernel_rfl
   refine zEQ ?_
   obtain rfl:=zR h;show Post _ _ _ _ _;exact⟨.inr rfl,rfl,rfl,rfl⟩
  ·have h:=zBB h hc3;refine zE6 ?_
   show V _ _ _ _;obtain⟨y4,hy4,h⟩:=zO h;obtain⟨y5,hy5,h⟩:=zO h;obtain⟨y6,hy6,h⟩:=zO h;obtain⟨t7,ht7,h⟩:=zIT h;refine z1C [0,1,3,7,15,31,0,71,255,511,1023] 8 [[.z,.z,.z,.z,.z,.z,.b,.z],[.a,.z,.z,.z,.z,.z,.b,.z],[.a,.a,.z,.z,.z,.z,.b,.z],[.a,.a,.a,.z,.z,.z,.b,.b],[.a,.a,.a,.a,.z,.z,.b,.b],[.a,.a,.a,.a,.a,.z,.b,.b],[.b,.b,.b,.b,.b,.b,.z,.z],[.a,.a,.a,.b,.b,.b,.a,.z]] (mb 16 12) [] (s1:=⟨.bot::.bot::I t7::Bo true::bt 12 [],[]⟩) kk kk ?_ ?_
   ·refine DE_0 0 (.ag [Ti f1.1,Ti f1.2.1,Ti f1.2.2]) kk rfl rfl rfl (jC rfl) kk (zGx (cs:=[Ti f1.1,Ti f1.2.1,Ti f1.2.2]) [Ti f1.1,Ti f1.2.1,Ti f1.2.2] wd42 rfl kk (Nat.le_of_ble_eq_true rfl) kk) 7 rfl ?_
    refine DE_1 1 kk rfl rfl rfl (jC rfl) (zCD (zHV hy4) zGu rfl kk) rfl rfl rfl 8 rfl ?_
    refine DE_1 2 kk rfl rfl rfl (jC rfl) (zCD (zRg hy5) zQH rfl kk) rfl rfl rfl 9 rfl ?_
    refine DE_0 3 (.pe [.sl (y5.1.map c42),.mp (y5.2.map zEN)]) kk rfl rfl rfl (jC rfl) kk (z1G (.pe [.sl (y5.1.map c42),.mp (y5.2.map zEN)]) rfl kk (by intro hh;cases hh)) 10 rfl ?_
    refine DE_0 4 (.pe [.mp (y5.2.map zEN)]) kk rfl rfl rfl (jC rfl) kk (jX (.pe [.mp (y5.2.map zEN)]) Tryz.underlying164 rfl z6A rfl kk (by intro hh;cases hh)) 11 rfl ?_
    refine DE_0 5 (.c (.mp (y5.2.map zEN))) kk rfl rfl rfl (jC rfl) kk (jR (c:=.mp (y5.2.map zEN)) (cs:=[]) z6E rfl kk) 12 rfl ?_
    refine DE_0 6 (.ag [Ti f1.1,Ti f1.2.1,Ti f1.2.2]) kk rfl rfl rfl (jC rfl) kk (zGx (cs:=[Ti f1.1,Ti f1.2.1,Ti f1.2.2]) [Ti f1.1,Ti f1.2.1,Ti f1.2.2] wd42 rfl kk (Nat.le_of_ble_eq_true rfl) kk) 13 rfl ?_
    refine DE_1 7 kk rfl rfl rfl (jC rfl) (zCD (zIr hy6) zIV rfl kk) rfl rfl rfl 14 rfl ?_
    refine zXQ kk ?_
    refine L0 rfl rfl (z4Q (κ:=τF) (ν:=Int) (ek:=zVE) (ev:=z0j) (z:=0) (m:=y5.2) (a:=y6) z6K rfl kk kk) ?_
    refine L0 rfl rfl (zF (I (mAt y6 y5.2 0)) rfl kk) ?_
    refine L0 rfl rfl (zF (Bo true) rfl kk) ?_
    refine zI ?_
    subst ht7
    kernel_rfl
   refine zEQ ?_
   obtain rfl:=zR h;show Post _ _ _ _ _;exact⟨.inr rfl,rfl,rfl,rfl⟩
def zNO (f1:τF):=fC zL9 (zBp f1) fun _=>zMZ
theorem zL0:CfW Tryz.prog 169:=cfW Tryz.func169
noncomputable def zLv (f1:τF):T Tryz.prog Bool:=
 .draw 8 []<|.op1 (zAT f1) fun y2=>.op1 (zBF f1) fun y3=>.op1 (zFg y3) fun y4=>.op1 (zAT y4) fun y5=>.n0 (eqg3 zVD)<|
 .lt (((y2.1==y5.1)&&((y2.2.1==y5.2.1)&&(y2.2.2==y5.2.2)))) fun t6=>.ret t6
theorem zMQ {f1:τF} {r:Bool} (h:zBn f1=some r):zD Tryz.prog 169 [.ag [Ti f1.1,Ti f1.2.1,Ti f1.2.2]] (Bo r) []:=CtU (zLv f1) 2 (fun r=>Bo r) Tryz.func169 rfl rfl h
def zNI (f1:τF):=fC zL0 (zBn f1) fun _=>zMQ
theorem zQC:CfW Tryz.prog 124:=cfW Tryz.func124
noncomputable def zRE (f1:τF):T Tryz.prog Int:=
 .op1 (zAT f1) fun y2=>
 .loop (fun n X_1=>zBm f1 n X_1.1 X_1.2.1 X_1.2.2.1 X_1.2.2.2) ((1,y2.1,y2.2.1,y2.2.2)) (mb 17 26) [32,8] (fun s X_1 γ=>s.pc (mb 17 26) [32,8] [(3,I X_1.1)] [(32,.box [Ti X_1.2.1,Ti X_1.2.2.1,Ti X_1.2.2.2])]) (fun X_1=>
 .op1 (zNI ((X_1.2.1,X_1.2.2.1,X_1.2.2.2))) fun y9=>
 .cond (!y9) (
 .frc (w64 (X_1.1+1)) fun k11=>
 .op1 (zFI ((X_1.2.1,X_1.2.2.1,X_1.2.2.2)) f1) fun y12=>
 .ret (.inl ((k11,y12.1,y12.2.1,y12.2.2))))<|.ret (.inr X_1.1)) (mb 17 8) [] (fun s o8 γ=>s.pc (mb 17 8) [] [(3,I o8)] []) fun o8=>
 .ret o8
theorem zRb {f1:τF} {r:Int} (h:zDf f1=some r):zD Tryz.prog 124 [.ag [Ti f1.1,Ti f1.2.1,Ti f1.2.2]] (I r) []:=CtU (zRE f1) 2 (fun r=>I r) Tryz.func124 rfl rfl h
def zTJ (f1:τF):=fC zQC (zDf f1) fun _=>zRb
theorem zQI:CfW Tryz.prog 267:=cfW Tryz.func267
noncomputable def zRJ (vn1:Int):T Tryz.prog (List Int):=
 .n1 (nilN 3 1 (by decide))<|
 .n1 bsl0<|
 .loop (fun n X_2=>zEw n X_2.1 X_2.2.1 X_2.2.2) ((vn1,2,([]:List Int))) (mb 31 25) [40] (fun s X_2 γ=>s.pc (mb 31 25) [40] [(0,I X_2.1),(4,I X_2.2.1)] [(40,.arr 3 1 (X_2.2.2.map c3))]) (fun X_2=>
 .cond (leI (w64 (X_2.2.1*X_2.2.1)) X_2.1) (.loop (fun n X_1=>zE1 X_2.2.1 n X_1.1 X_1.2) ((X_2.1,X_2.2.2)) (mb 31 25) [40] (fun s X_1 γ=>s.pc (mb 31 25) [40] [(0,I X_1.1)] [(40,.arr 3 1 (X_1.2.map c3))]) (fun X_1=>
 .op0 (remF .i64 X_1.1 X_2.2.1) fun z12=>
 .cond (eqI (Int.tmod X_1.1 X_2.2.1) 0) (.n1 bsl<|.opx (app ct3 X_1.2 ([X_2.2.1])) fun u14=>
 .op0 (quoF .i64 X_1.1 X_2.2.1) fun z15=>
 .frc (w64 (Int.tdiv X_1.1 X_2.2.1)) fun vn16=>.ret (.inl ((vn16,X_1.2++([X_2.2.1])))))<|.ret (.inr ((X_1.1,X_1.2)))) (mb 31 25) [40] (fun s o11 γ=>s.pc (mb 31 25) [40] [(0,I o11.1)] [(40,.arr 3 1 (o11.2.map c3))]) fun o11=>
 .frc (w64 (X_2.2.1+1)) fun p17=>.ret (.inl ((o11.1,p17,o11.2))))<|.ret (.inr ((X_2.1,X_2.2.2)))) (mb 31 9) [40] (fun s o6 γ=>s.pc (mb 31 9) [40] [(0,I o6.1)] [(40,.arr 3 1 (o6.2.map c3))]) fun o6=>
 .cond (ltI 1 o6.1) (.n1 bsl<|.opx (app ct3 o6.2 ([o6.1])) fun u19=>
 .ret (o6.2++([o6.1])))<|
 .ret o6.2
theorem zRh {vn1:Int} {r:List Int} (h:zG1 vn1=some r):zD Tryz.prog 267 [I vn1] (.ow 0) [(0,.arr 3 1 (r.map c3))]:=CtT (zRJ vn1) (fun r=>(.ow 0,[(0,.arr 3 1 (r.map c3))])) (rs:=[.t 2]) (vs:=[.tmp 2]) Tryz.func267 rfl rfl (.cons rfl FitsL.nil) h
def zTP (vn1:Int):=fC zQI (zG1 vn1) fun _=>zRh
theorem zOZ:CfW Tryz.prog 244:=cfW Tryz.func244
noncomputable def zPV (vn1:Int):T Tryz.prog (List Int):=
 .n1 (nilN 3 1 (by decide))<|
 .n1 bsl0<|
 .op1 (zTP vn1) fun y2=>.n0 (lenM ct3 y2)<|
 .loop (fun n X_2=>zDF y2 n X_2.1 X_2.2) ((0,([]:List Int))) (mb 33 1800) [64,48] (fun s X_2 γ=>s.pc (mb 33 1800) [64,48] [(10,I X_2.1)] [(48,.arr 3 1 (X_2.2.map c3))]) (fun X_2=>
 .cond (ltI X_2.1 ((y2.length:Int))) (.op0 (zBH ct3 y2 X_2.1) fun e8=>.op0 (ldo ct3 y2 X_2.1) fun e9=>
 .joinC (.n0 (lenM ct3 X_2.2)<|.seqT (.cond (eqI ((X_2.2.length:Int)) 0) (.ret true) (.n0 (lenM ct3 X_2.2)<|.op0 (zBH ct3 X_2.2 (w64 (((X_2.2.length:Int)) - 1))) fun e11=>.op0 (ldo ct3 X_2.2 (w64 (((X_2.2.length:Int)) - 1))) fun e12=>.ret (!eqI e12 e9))) fun b13=>.ret b13) (mb 33 67110696) [64,48] (fun s q_1 γ=>s.pc (mb 33 67110696) [64,48] [(26,Bo q_1)] []) fun q_1=>
 .cond q_1 (.n1 bsl<|.opx (app ct3 X_2.2 ([e9])) fun u15=>
 .frc (w64 (X_2.1+1)) fun t16=>.ret (.inl ((t16,X_2.2++([e9])))))<|
 .frc (w64 (X_2.1+1)) fun t17=>.ret (.inl ((t17,X_2.2))))<|.ret (.inr X_2.2)) (mb 33 8) [48] (fun s o6 γ=>s.pc (mb 33 8) [48] [] [(48,.arr 3 1 (o6.map c3))]) fun o6=>
 .ret o6
theorem zPd {vn1:Int} {r:List Int} (h:zFq vn1=some r):zD Tryz.prog 244 [I vn1] (.ow 0) [(0,.arr 3 1 (r.map c3))]:=CtT (zPV vn1) (fun r=>(.ow 0,[(0,.arr 3 1 (r.map c3))])) (rs:=[.t 2]) (vs:=[.tmp 2]) Tryz.func244 rfl rfl (.cons rfl FitsL.nil) h
def zQY (vn1:Int):=fC zOZ (zFq vn1) fun _=>zPd
theorem zO4:CfW Tryz.prog 207:=cfW Tryz.func207
noncomputable def zPZ (d1:Int):T Tryz.prog (List (Int×Int)):=
 .n1 (nilN 181 2 (by decide))<|
 .n1 bsl0<|
 .op1 (zQY (w64 (0 - d1))) fun y2=>.n0 (lenM ct3 y2)<|
 .loop (fun n X_1=>zDG d1 y2 n X_1.1 X_1.2) ((0,([]:List (Int×Int)))) (mb 67 57353) [104,80] (fun s X_1 γ=>s.pc (mb 67 57353) [104,80] [(15,I X_1.1)] [(80,.arr 181 2 (X_1.2.map c181))]) (fun X_1=>
 .cond (ltI X_1.1 ((y2.length:Int))) (.op0 (zBH ct3 y2 X_1.1) fun e8=>.op0 (ldo ct3 y2 X_1.1) fun e9=>
 .cond (ltI 2 e9) (.n0 (bld zJC zKa)<|.n1 bsl<|.opx (app zFz X_1.2 ([(1,e9)])) fun u11=>
 .frc (w64 (X_1.1+1)) fun t12=>.ret (.inl ((t12,X_1.2++([(1,e9)])))))<|
 .frc (w64 (X_1.1+1)) fun t13=>.ret (.inl ((t13,X_1.2))))<|.ret (.inr X_1.2)) (mb 67 9) [80] (fun s o6 γ=>s.pc (mb 67 9) [80] [] [(80,.arr 181 2 (o6.map c181))]) fun o6=>
 .n0 dvN<|
 .cond (!eqI (Int.tmod d1 2) 0) (
 .ret o6)<|.n0 (bld zJC zKa)<|.n0 (bld zJC zKa)<|.n0 (bld zJC zKa)<|
 .n0 dvN<|
 .frc (w64 (Int.tdiv (w64 (0 - d1)) 4)) fun vn15=>.n0 dvN<|
 .frc (Int.tmod vn15 8) fun t16=>.join (
 .cond (eqI t16 1) (.ret (eqI t16 1))<|
 .cond (eqI t16 5) (.ret (eqI t16 5))<|
 .ret (eqI t16 4)) (mb 67 824633721288) [64,56,48,80] (fun s j17 γ=>s.pc (mb 67 824633721288) [64,56,48,80] [(39,Bo j17)] []) fun j17=>
 .cond j17 (.n1 bsl<|.opx (app zFz o6 ([(2,0)])) fun u21=>
 .ret (o6++([(2,0)])))<|
 .cond (eqI t16 2) (.n1 bsl<|.opx (app zFz o6 ([(4,0)])) fun u23=>
 .ret (o6++([(4,0)])))<|
 .cond (eqI t16 6) (.n1 bsl<|.opx (app zFz o6 ([(3,0)])) fun u25=>
 .ret (o6++([(3,0)])))<|
 .cond (eqI t16 0) (.n1 bsl<|.opx (app zFz o6 ([(2,0),(3,0)])) fun u27=>
 .ret (o6++([(2,0),(3,0)])))<|
 .ret o6
theorem zPi {d1:Int} {r:List (Int×Int)} (h:zFr d1=some r):zD Tryz.prog 207 [I d1] (.ow 0) [(0,.arr 181 2 (r.map c181))]:=CtT (zPZ d1) (fun r=>(.ow 0,[(0,.arr 181 2 (r.map c181))])) (rs:=[.t 2]) (vs:=[.tmp 2]) Tryz.func207 rfl rfl (.cons rfl FitsL.nil) h
def zQ0 (d1:Int):=fC zO4 (zFr d1) fun _=>zPi
theorem zKU:CfW Tryz.prog 246:=cfW Tryz.func246
noncomputable def zKm (vn1:Int):T Tryz.prog Int:=
 .op1 (zC0 vn1 8) fun y2=>
 .joinC (.selB (eqI y2 1) false [] fun w_4=>.ret w_4) (mb 12 2048) [] (fun s q_5 γ=>s.pc (mb 12 2048) [] [(11,Bo (bif q_5 then true else (eqI y2 7)))] []) fun q_5=>
 .cond (bif q_5 then true else (eqI y2 7)) (
 .ret 1)<|
 .ret (-1)
theorem zLC {vn1:Int} {r:Int} (h:zCV vn1=some r):zD Tryz.prog 246 [I vn1] (I r) []:=CtU (zKm vn1) 2 (fun r=>I r) Tryz.func246 rfl rfl h
def zE7 (vn1:Int):=fC zKU (zCV vn1) fun _=>zLC
theorem zSg:CfW Tryz.prog 245:=cfW Tryz.func245
noncomputable def zTe (a1:Int) (vn2:Int):T Tryz.prog Int:=
 .op1 (zC0 a1 vn2) fun y3=>
 .loop (fun n X_67=>zDu n X_67.1 X_67.2.1 X_67.2.2) ((y3,vn2,1)) (mb 38 35) [] (fun s X_67 γ=>s.pc (mb 38 35) [] [(0,I X_67.1),(1,I X_67.2.1),(5,I X_67.2.2)] []) (fun X_67=>
 .cond (!eqI X_67.1 0) (.loop (fun n X_66=>zEs X_67.2.1 n X_66.1 X_66.2) ((X_67.1,X_67.2.2)) (mb 38 35) [] (fun s X_66 γ=>s.pc (mb 38 35) [] [(0,I X_66.1),(5,I X_66.2)] []) (fun X_66=>
 .n0 dvN<|
 .cond (eqI (Int.tmod X_66.1 2) 0) (.n0 dvN<|
 .frc (w64 (Int.tdiv X_66.1 2)) fun a15=>.op1 (zE7 X_67.2.1) fun y16=>
 .frc (w64 (X_66.2*y16)) fun vs17=>.ret (.inl ((a15,vs17))))<|.ret (.inr ((X_66.1,X_66.2)))) (mb 38 35) [] (fun s o13 γ=>s.pc (mb 38 35) [] [(0,I o13.1),(5,I o13.2)] []) fun o13=>
 .dn<|.joinC (.n0 dvN<|.selB (eqI (Int.tmod o13.1 4) 3) true [.z dvN] fun w_64=>.ret w_64) (mb 38 1073741859) [] (fun s q_65 γ=>s.pc (mb 38 1073741859) [] [(30,Bo (bif q_65 then (eqI (Int.tmod X_67.2.1 4) 3) else false))] []) fun q_65=>
 .lt (bif q_65 then (eqI (Int.tmod X_67.2.1 4) 3) else false) fun t19=>.cond t19 (
 .frc (w64 (0 - o13.2)) fun vs21=>
 .op0 (remF .i64 X_67.2.1 o13.1) fun z22=>
 .frc (Int.tmod X_67.2.1 o13.1) fun a23=>.ret (.inl ((a23,o13.1,vs21))))<|
 .op0 (remF .i64 X_67.2.1 o13.1) fun z24=>
 .frc (Int.tmod X_67.2.1 o13.1) fun a25=>.ret (.inl ((a25,o13.1,o13.2))))<|.ret (.inr ((X_67.2.1,X_67.2.2)))) (mb 38 34) [] (fun s o8 γ=>s.pc (mb 38 34) [] [(1,I o8.1),(5,I o8.2)] []) fun o8=>
 .cond (!eqI o8.1 1) (
 .ret 0)<|
 .ret o8.2
theorem zUC {a1:Int} {vn2:Int} {r:Int} (h:zHK a1 vn2=some r):zD Tryz.prog 245 [I a1,I vn2] (I r) []:=CtU (zTe a1 vn2) 4 (fun r=>I r) Tryz.func245 rfl rfl h
def zUf (a1:Int) (vn2:Int):=fC zSg (zHK a1 vn2) fun _=>zUC
theorem zH9:CfW Tryz.prog 208:=cfW Tryz.func208
noncomputable def zHk (x1:(Int×Int)) (vn2:Int):T Tryz.prog Int:=
 .cond (eqI x1.1 1) (.op1 (zUf vn2 x1.2) fun y4=>
 .ret y4)<|.n0 dvN<|
 .cond (eqI (Int.tmod vn2 2) 0) (
 .ret 0)<|.op1 (zC0 vn2 4) fun y6=>
 .frc (w64 (2 - y6)) fun delta7=>
 .cond (eqI x1.1 2) (
 .ret delta7)<|
 .cond (eqI x1.1 3) (.op1 (zE7 vn2) fun y10=>
 .ret y10)<|.op1 (zE7 vn2) fun y11=>
 .frc (w64 (delta7*y11)) fun t12=>.ret t12
theorem zHu {x1:(Int×Int)} {vn2:Int} {r:Int} (h:zDH x1 vn2=some r):zD Tryz.prog 208 [.ag [Ti x1.1,Ti x1.2],I vn2] (I r) []:=CtU (zHk x1 vn2) 4 (fun r=>I r) Tryz.func208 rfl rfl h
def zIR (x1:(Int×Int)) (vn2:Int):=fC zH9 (zDH x1 vn2) fun _=>zHu
theorem zOX:CfW Tryz.prog 171:=cfW Tryz.func171
noncomputable def zPU (d1:Int) (vn2:Int):T Tryz.prog (List Int):=
 .n1 (nilN 3 1 (by decide))<|
 .n1 bsl0<|
 .op1 (zQ0 d1) fun y3=>.n0 (lenM zFz y3)<|
 .loop (fun n X_1=>zEZ vn2 y3 n X_1.1 X_1.2) ((0,([]:List Int))) (mb 24 7202) [80,64] (fun s X_1 γ=>s.pc (mb 24 7202) [80,64] [(12,I X_1.1)] [(64,.arr 3 1 (X_1.2.map c3))]) (fun X_1=>
 .cond (ltI X_1.1 ((y3.length:Int))) (.op0 (zBH zFz y3 X_1.1) fun e9=>.op0 (ldo zFz y3 X_1.1) fun e10=>
 .op1 (zIR e10 vn2) fun y11=>.n1 bsl<|.opx (app ct3 X_1.2 ([y11])) fun u12=>
 .frc (w64 (X_1.1+1)) fun t13=>.ret (.inl ((t13,X_1.2++([y11])))))<|.ret (.inr X_1.2)) (mb 24 32) [64] (fun s o7 γ=>s.pc (mb 24 32) [64] [] [(64,.arr 3 1 (o7.map c3))]) fun o7=>
 .ret o7
theorem zPb {d1:Int} {vn2:Int} {r:List Int} (h:zFp d1 vn2=some r):zD Tryz.prog 171 [I d1,I vn2] (.ow 0) [(0,.arr 3 1 (r.map c3))]:=CtT (zPU d1 vn2) (fun r=>(.ow 0,[(0,.arr 3 1 (r.map c3))])) (rs:=[.t 4]) (vs:=[.tmp 4]) Tryz.func171 rfl rfl (.cons rfl FitsL.nil) h
def zQW (d1:Int) (vn2:Int):=fC zOX (zFp d1 vn2) fun _=>zPb
theorem zKY:CfW Tryz.prog 125:=cfW Tryz.func125
noncomputable def zKr (f1:τF):T Tryz.prog (List Int):=
 .n1 (nilN 3 1 (by decide))<|
 .op1 (zAT f1) fun y2=>
 .op1 (zBF y2) fun y3=>
 .op1 (zGz y2 (w64 (2*y3))) fun y4=>
 .op1 (zFJ y2 y4.1 y4.2) fun y5=>.op1 (zQW y3 y5) fun y6=>
 .ret y6
theorem zLG {f1:τF} {r:List Int} (h:zB8 f1=some r):zD Tryz.prog 125 [.ag [Ti f1.1,Ti f1.2.1,Ti f1.2.2]] (.ow 0) [(0,.arr 3 1 (r.map c3))]:=CtT (zKr f1) (fun r=>(.ow 0,[(0,.arr 3 1 (r.map c3))])) (rs:=[.t 2]) (vs:=[.tmp 2]) Tryz.func125 rfl rfl (.cons rfl FitsL.nil) h
def zLj (f1:τF):=fC zKY (zB8 f1) fun _=>zLG
theorem zQE:CfW Tryz.prog 209:=cfW Tryz.func209
noncomputable def zRG (vn1:Int):T Tryz.prog Bool:=
 .pl<|.joinC (.selB (leI 1 vn1) true [] fun w_2=>.ret w_2) (mb 9 4) [] (fun s q_3 γ=>s.pc (mb 9 4) [] [(2,Bo (bif q_3 then (leI vn1 10000) else false))] []) fun q_3=>
 .ret (bif q_3 then (leI vn1 10000) else false)
theorem zRd {vn1:Int} {r:Bool} (h:zEt vn1=some r):zD Tryz.prog 209 [I vn1] (Bo r) []:=CtU (zRG vn1) 2 (fun r=>Bo r) Tryz.func209 rfl rfl h
def zTM (vn1:Int):=fC zQE (zEt vn1) fun _=>zRd
theorem zXC:CfW Tryz.prog 247:=cfW Tryz.func247
noncomputable def zXj (vn1:Int):T Tryz.prog Int:=
 .loop (fun n X_1=>zBL vn1 n X_1.1 X_1.2) ((0,3000000000)) (mb 23 25) [] (fun s X_1 γ=>s.pc (mb 23 25) [] [(3,I X_1.1),(4,I X_1.2)] []) (fun X_1=>
 .cond (ltI X_1.1 X_1.2) (.n0 dvN<|
 .frc (w64 (Int.tdiv (w64 ((w64 (X_1.1+X_1.2))+1)) 2)) fun vm7=>
 .cond (leI (w64 (vm7*vm7)) vn1) (
 .ret (.inl ((vm7,X_1.2))))<|
 .frc (w64 (vm7 - 1)) fun high9=>.ret (.inl ((X_1.1,high9))))<|.ret (.inr X_1.1)) (mb 23 8) [] (fun s o5 γ=>s.pc (mb 23 8) [] [(3,I o5)] []) fun o5=>
 .ret o5
theorem zXx {vn1:Int} {r:Int} (h:zCy vn1=some r):zD Tryz.prog 247 [I vn1] (I r) []:=CtU (zXj vn1) 2 (fun r=>I r) Tryz.func247 rfl rfl h
def zGy (vn1:Int):=fC zXC (zCy vn1) fun _=>zXx
theorem zO1:CfW Tryz.prog 248:=cfW Tryz.func248
noncomputable def zPW (vn1:Int):T Tryz.prog Bool:=
 .pl<|.joinC (.seqT (.cond (leI 0 vn1) (.op1 (zGy vn1) fun y3=>.op1 (zGy vn1) fun y4=>.ret (eqI (w64 (y3*y4)) vn1)) (.ret false)) fun b5=>.ret b5) (mb 14 4) [] (fun s q_1 γ=>s.pc (mb 14 4) [] [(2,Bo q_1)] []) fun q_1=>
 .ret q_1
theorem zPf {vn1:Int} {r:Bool} (h:zBu vn1=some r):zD Tryz.prog 248 [I vn1] (Bo r) []:=CtU (zPW vn1) 2 (fun r=>Bo r) Tryz.func248 rfl rfl h
def zQZ (vn1:Int):=fC zO1 (zBu vn1) fun _=>zPf
theorem zK0:CfW Tryz.prog 210:=cfW Tryz.func210
noncomputable def zKt (f1:τF) (vn2:Int):T Tryz.prog (List (Int×Int)):=
 .n1 (nilN 184 2 (by decide))<|
 .n1 bsl0<|
 .op1 (zBF f1) fun y3=>
 .op0 (quoF .i64 (w64 ((w64 (4*f1.2.2))*vn2)) (w64 (0 - y3))) fun z4=>.op1 (zGy (w64 (Int.tdiv (w64 ((w64 (4*f1.2.2))*vn2)) (w64 (0 - y3))))) fun y5=>
 .frc (w64 (0 - y5)) fun x6=>.loop (fun n X_2=>jM f1 vn2 y3 y5 n X_2.1 X_2.2) ((x6,([]:List (Int×Int)))) (mb 107 486) [88,16] (fun s X_2 γ=>s.pc (mb 107 486) [88,16] [(8,I X_2.1)] [(88,.arr 184 2 (X_2.2.map c184))]) (fun X_2=>
 .cond (leI X_2.1 y5) (
 .frc (w64 ((w64 ((w64 (y3*X_2.1))*X_2.1))+(w64 ((w64 (4*f1.2.2))*vn2)))) fun square12=>.op1 (zQZ square12) fun y13=>
 .cond (!y13) (
 .frc (w64 (X_2.1+1)) fun x15=>.ret (.inl ((x15,X_2.2))))<|.op1 (zGy square12) fun y16=>
 .join (.op0 (remF .i64 (w64 ((w64 ((w64 (0 - f1.2.1))*X_2.1)) - y16)) (w64 (2*f1.2.2))) fun z18=>
 .lt (eqI (Int.tmod (w64 ((w64 ((w64 (0 - f1.2.1))*X_2.1)) - y16)) (w64 (2*f1.2.2))) 0) fun t19=>.cond t19 (.op0 (quoF .i64 (w64 ((w64 ((w64 (0 - f1.2.1))*X_2.1)) - y16)) (w64 (2*f1.2.2))) fun z21=>.n0 (bld z00 z3z)<|.n1 bsl<|.opx (app zGa X_2.2 ([(X_2.1,w64 (Int.tdiv (w64 ((w64 ((w64 (0 - f1.2.1))*X_2.1)) - y16)) (w64 (2*f1.2.2))))])) fun u22=>
 .lt (X_2.2++([(X_2.1,w64 (Int.tdiv (w64 ((w64 ((w64 (0 - f1.2.1))*X_2.1)) - y16)) (w64 (2*f1.2.2))))])) fun l23=>.ret l23)<|.ret X_2.2) (mb 107 1510) [88,16] (fun s j17 γ=>s.pc (mb 107 1510) [88,16] [] [(88,.arr 184 2 (j17.map c184))]) fun j17=>
 .joinC (.seqT (.cond (ltI 0 y16) (.op0 (remF .i64 (w64 ((w64 ((w64 (0 - f1.2.1))*X_2.1))+y16)) (w64 (2*f1.2.2))) fun z25=>.ret (eqI (Int.tmod (w64 ((w64 ((w64 (0 - f1.2.1))*X_2.1))+y16)) (w64 (2*f1.2.2))) 0)) (.ret false)) fun b26=>.ret b26) (mb 107 618970019642690137449563622) [88,16] (fun s q_1 γ=>s.pc (mb 107 618970019642690137449563622) [88,16] [(89,Bo q_1)] []) fun q_1=>
 .cond q_1 (.op0 (quoF .i64 (w64 ((w64 ((w64 (0 - f1.2.1))*X_2.1))+y16)) (w64 (2*f1.2.2))) fun z28=>.n0 (bld z00 z3z)<|.n1 bsl<|.opx (app zGa j17 ([(X_2.1,w64 (Int.tdiv (w64 ((w64 ((w64 (0 - f1.2.1))*X_2.1))+y16)) (w64 (2*f1.2.2))))])) fun u29=>
 .lt (j17++([(X_2.1,w64 (Int.tdiv (w64 ((w64 ((w64 (0 - f1.2.1))*X_2.1))+y16)) (w64 (2*f1.2.2))))])) fun l30=>
 .frc (w64 (X_2.1+1)) fun x31=>.ret (.inl ((x31,l30))))<|
 .frc (w64 (X_2.1+1)) fun x32=>.ret (.inl ((x32,j17))))<|.ret (.inr X_2.2)) (mb 107 32) [88] (fun s o10 γ=>s.pc (mb 107 32) [88] [] [(88,.arr 184 2 (o10.map c184))]) fun o10=>
 .ret o10
theorem zLI {f1:τF} {vn2:Int} {r:List (Int×Int)} (h:zBb f1 vn2=some r):zD Tryz.prog 210 [.ag [Ti f1.1,Ti f1.2.1,Ti f1.2.2],I vn2] (.ow 0) [(0,.arr 184 2 (r.map c184))]:=CtT (zKt f1 vn2) (fun r=>(.ow 0,[(0,.arr 184 2 (r.map c184))])) (rs:=[.t 4]) (vs:=[.tmp 4]) Tryz.func210 rfl rfl (.cons rfl FitsL.nil) h
def zLk (f1:τF) (vn2:Int):=fC zK0 (zBb f1 vn2) fun _=>zLI
theorem zH7:CfW Tryz.prog 173:=cfW Tryz.func173
noncomputable def zHi (f1:τF) (vn2:Int):T Tryz.prog (((List (Int×Int))×Bool)):=
 .n1 (nilN 184 2 (by decide))<|
 .dn<|.joinC (.op1 (zGj f1) fun y3=>.seqT (.cond (!y3) (.ret true) (.op1 (zTM vn2) fun y5=>.ret (!y5))) fun b6=>.ret (y3,b6)) (mb 18 8198) [16] (fun s q_1 γ=>s.pc (mb 18 8198) [16] [(13,Bo q_1.2)] []) fun q_1=>
 .cond q_1.2 (.n1 bsl0<|
 .ret ((([]:List (Int×Int)),false)))<|.op1 (zLk f1 vn2) fun y8=>
 .ret ((y8,true))
theorem zHs {f1:τF} {vn2:Int} {r:((List (Int×Int))×Bool)} (h:zCB f1 vn2=some r):zD Tryz.prog 173 [.ag [Ti f1.1,Ti f1.2.1,Ti f1.2.2],I vn2] (.tc (.ow 0) (.tc (Bo r.2) .tn)) [(0,.arr 184 2 (r.1.map c184))]:=CtT (zHi f1 vn2) (fun r=>(.tc (.ow 0) (.tc (Bo r.2) .tn),[(0,.arr 184 2 (r.1.map c184))])) (rs:=[.t 4,.t 5]) (vs:=[.tmp 4,.tmp 5]) Tryz.func173 rfl rfl (.cons rfl (.cons rfl FitsL.nil)) h
def zIQ (f1:τF) (vn2:Int):=fC zH7 (zCB f1 vn2) fun _=>zHs
theorem zFv:CfW Tryz.prog 126:=cfW Tryz.func126
noncomputable def zGD (f1:τF) (vn2:Int):T Tryz.prog ((Int×Bool)):=
 .op1 (zIQ f1 vn2) fun y3=>
 .n0 (lenM zGa y3.1)<|
 .ret (((y3.1.length:Int),y3.2))
theorem zGF {f1:τF} {vn2:Int} {r:(Int×Bool)} (h:zAK f1 vn2=some r):zD Tryz.prog 126 [.ag [Ti f1.1,Ti f1.2.1,Ti f1.2.2],I vn2] (.tc (I r.1) (.tc (Bo r.2) .tn)) []:=CtT (zGD f1 vn2) (fun r=>(.tc (I r.1) (.tc (Bo r.2) .tn),[])) (rs:=[.t 4,.t 5]) (vs:=[.tmp 4,.tmp 5]) Tryz.func126 rfl rfl (.cons rfl (.cons rfl FitsL.nil)) h
def zGN (f1:τF) (vn2:Int):=fC zFv (zAK f1 vn2) fun _=>zGF
theorem zL7:CfW Tryz.prog 249:=cfW Tryz.func249
noncomputable def zMC (vm1:τM):T Tryz.prog Int:=
 .frc (w64 ((w64 (vm1.1*vm1.2.2.2)) - (w64 (vm1.2.1*vm1.2.2.1)))) fun t2=>.ret t2
theorem zMX {vm1:τM} {r:Int} (h:zD2 vm1=some r):zD Tryz.prog 249 [.ag [Ti vm1.1,Ti vm1.2.1,Ti vm1.2.2.1,Ti vm1.2.2.2]] (I r) []:=CtU (zMC vm1) 2 (fun r=>I r) Tryz.func249 rfl rfl h
def zNM (vm1:τM):=fC zL7 (zD2 vm1) fun _=>zMX
theorem zIJ:CfW Tryz.prog 212:=cfW Tryz.func212
noncomputable def zIZ (vm1:τM):T Tryz.prog (τM):=
 .op1 (zNM vm1) fun y2=>
 .n0 (bld zD3 zDm)<|
 .frc (w64 (y2*vm1.2.2.2)) fun f3=>.frc (w64 ((w64 (0 - y2))*vm1.2.1)) fun f4=>.frc (w64 ((w64 (0 - y2))*vm1.2.2.1)) fun f5=>.frc (w64 (y2*vm1.1)) fun f6=>.ret ((f3,f4,f5,f6))
theorem zI1 {vm1:τM} {r:τM} (h:zAb vm1=some r):zD Tryz.prog 212 [.ag [Ti vm1.1,Ti vm1.2.1,Ti vm1.2.2.1,Ti vm1.2.2.2]] (.ag [Ti r.1,Ti r.2.1,Ti r.2.2.1,Ti r.2.2.2]) []:=CtT (zIZ vm1) (fun r=>(.ag [Ti r.1,Ti r.2.1,Ti r.2.2.1,Ti r.2.2.2],[])) (rs:=[.w 2 4]) (vs:=[.cell 2 120]) Tryz.func212 rfl rfl (.cons ⟨rfl,zFK⟩ FitsL.nil) h
def zIa (vm1:τM):=fC zIJ (zAb vm1) fun _=>zI1
theorem zO5:CfW Tryz.prog 214:=cfW Tryz.func214
noncomputable def zP0 (vm1:τM):T Tryz.prog Bool:=
 .n1 bsl<|.op1 (zGw ([vm1.1,vm1.2.1,vm1.2.2.1,vm1.2.2.2])) fun y2=>
 .ret y2
theorem zPj {vm1:τM} {r:Bool} (h:zC6 vm1=some r):zD Tryz.prog 214 [.ag [Ti vm1.1,Ti vm1.2.1,Ti vm1.2.2.1,Ti vm1.2.2.2]] (Bo r) []:=CtU (zP0 vm1) 2 (fun r=>Bo r) Tryz.func214 rfl rfl h
def zIX (vm1:τM):=fC zO5 (zC6 vm1) fun _=>zPj
theorem zQK:CfW Tryz.prog 211:=cfW Tryz.func211
noncomputable def zRL (vm1:τM):T Tryz.prog ((τM×Bool)):=
 .op1 (zIX vm1) fun y2=>
 .cond (!y2) (.n0 (bld zD3 zDm)<|
 .ret (((0,0,0,0),false)))<|
 .ret ((vm1,true))
theorem zRj {vm1:τM} {r:(τM×Bool)} (h:zEx vm1=some r):zD Tryz.prog 211 [.ag [Ti vm1.1,Ti vm1.2.1,Ti vm1.2.2.1,Ti vm1.2.2.2]] (.tc (.ag [Ti r.1.1,Ti r.1.2.1,Ti r.1.2.2.1,Ti r.1.2.2.2]) (.tc (Bo r.2) .tn)) []:=CtT (zRL vm1) (fun r=>(.tc (.ag [Ti r.1.1,Ti r.1.2.1,Ti r.1.2.2.1,Ti r.1.2.2.2]) (.tc (Bo r.2) .tn),[])) (rs:=[.w 2 4,.t 3]) (vs:=[.cell 2 120,.tmp 3]) Tryz.func211 rfl rfl (.cons ⟨rfl,zFK⟩ (.cons rfl FitsL.nil)) h
def zTQ (vm1:τM):=fC zQK (zEx vm1) fun _=>zRj
theorem zGl:CfW Tryz.prog 174:=cfW Tryz.func174
noncomputable def zHD (f1:τF) (g2:τF):T Tryz.prog ((τM×Bool)):=
 .pl<|.dn<|.joinC (.op1 (zD6 f1) fun y3=>.seqT (.cond (!y3) (.ret true) (.op1 (zD6 g2) fun y5=>.ret (!y5))) fun b6=>.ret (y3,b6)) (mb 40 131100) [32,24,16] (fun s q_1 γ=>s.pc (mb 40 131100) [32,24,16] [(17,Bo q_1.2)] []) fun q_1=>
 .cond q_1.2 (.n0 (bld zD3 zDm)<|
 .ret (((0,0,0,0),false)))<|.op1 (zF0 f1) fun y8=>
 .op1 (zF0 g2) fun y9=>
 .n0 (neg3 zYK)<|
 .lt (!((y8.1.1==y9.1.1)&&((y8.1.2.1==y9.1.2.1)&&(y8.1.2.2==y9.1.2.2)))) fun t10=>.cond t10 (.n0 (bld zD3 zDm)<|
 .ret (((0,0,0,0),false)))<|.draw 7 []<|.op1 (zIa y9.2) fun y12=>.op1 (zEH y8.2 y12) fun y13=>.op1 (zTQ y13) fun y14=>
 .ret ((y14.1,y14.2))
theorem zHH {f1:τF} {g2:τF} {r:(τM×Bool)} (h:zAi f1 g2=some r):zD Tryz.prog 174 [.ag [Ti f1.1,Ti f1.2.1,Ti f1.2.2],.ag [Ti g2.1,Ti g2.2.1,Ti g2.2.2]] (.tc (.ag [Ti r.1.1,Ti r.1.2.1,Ti r.1.2.2.1,Ti r.1.2.2.2]) (.tc (Bo r.2) .tn)) []:=CtT (zHD f1 g2) (fun r=>(.tc (.ag [Ti r.1.1,Ti r.1.2.1,Ti r.1.2.2.1,Ti r.1.2.2.2]) (.tc (Bo r.2) .tn),[])) (rs:=[.w 4 4,.t 5]) (vs:=[.cell 4 120,.tmp 5]) Tryz.func174 rfl rfl (.cons ⟨rfl,zFK⟩ (.cons rfl FitsL.nil)) h
def zHP (f1:τF) (g2:τF):=fC zGl (zAi f1 g2) fun _=>zHH
theorem zLZ:CfW Tryz.prog 176:=cfW Tryz.func176
noncomputable def zLu (vm1:τM):T Tryz.prog ByteArray:=
 .draw 21 []<|.op1 (zAl vm1.1) fun y2=>.op0 (cat ((⟨#[91]⟩:ByteArray)) y2) fun u3=>.op0 (cat (((⟨#[91]⟩:ByteArray))++y2) ((⟨#[44]⟩:ByteArray))) fun u4=>.op1 (zAl vm1.2.1) fun y5=>.op0 (cat ((((⟨#[91]⟩:ByteArray))++y2)++((⟨#[44]⟩:ByteArray))) y5) fun u6=>.op0 (cat (((((⟨#[91]⟩:ByteArray))++y2)++((⟨#[44]⟩:ByteArray)))++y5) ((⟨#[59]⟩:ByteArray))) fun u7=>.op1 (zAl vm1.2.2.1) fun y8=>.op0 (cat ((((((⟨#[91]⟩:ByteArray))++y2)++((⟨#[44]⟩:ByteArray)))++y5)++((⟨#[59]⟩:ByteArray))) y8) fun u9=>.op0 (cat (((((((⟨#[91]⟩:ByteArray))++y2)++((⟨#[44]⟩:ByteArray)))++y5)++((⟨#[59]⟩:ByteArray)))++y8) ((⟨#[44]⟩:ByteArray))) fun u10=>.op1 (zAl vm1.2.2.2) fun y11=>.op0 (cat ((((((((⟨#[91]⟩:ByteArray))++y2)++((⟨#[44]⟩:ByteArray)))++y5)++((⟨#[59]⟩:ByteArray)))++y8)++((⟨#[44]⟩:ByteArray))) y11) fun u12=>.op0 (cat (((((((((⟨#[91]⟩:ByteArray))++y2)++((⟨#[44]⟩:ByteArray)))++y5)++((⟨#[59]⟩:ByteArray)))++y8)++((⟨#[44]⟩:ByteArray)))++y11) ((⟨#[93]⟩:ByteArray))) fun u13=>
 .ret ((((((((((⟨#[91]⟩:ByteArray))++y2)++((⟨#[44]⟩:ByteArray)))++y5)++((⟨#[59]⟩:ByteArray)))++y8)++((⟨#[44]⟩:ByteArray)))++y11)++((⟨#[93]⟩:ByteArray)))
theorem zMP {vm1:τM} {r:ByteArray} (h:zBN vm1=some r):zD Tryz.prog 176 [.ag [Ti vm1.1,Ti vm1.2.1,Ti vm1.2.2.1,Ti vm1.2.2.2]] (.c (.v (.string r))) []:=CtU (zLu vm1) 2 (fun r=>.c (.v (.string r))) Tryz.func176 rfl rfl h
def zFH (vm1:τM):=fC zLZ (zBN vm1) fun _=>zMP
theorem zKZ:CfW Tryz.prog 175:=cfW Tryz.func175
noncomputable def zKs (kind1:ByteArray) (words2:List ByteArray):T Tryz.prog ByteArray:=
 .op0 (cat kind1 ((⟨#[32]⟩:ByteArray))) fun u3=>.op1 (zSy words2 ((⟨#[32]⟩:ByteArray))) fun y4=>.op0 (cat (kind1++((⟨#[32]⟩:ByteArray))) y4) fun u5=>
 .ret ((kind1++((⟨#[32]⟩:ByteArray)))++y4)
theorem zLH {kind1:ByteArray} {words2:List ByteArray} {r:ByteArray} (h:zB9 kind1 words2=some r):zD Tryz.prog 175 [.c (.v (.string kind1)),.c (.sl (words2.map c9))] (.c (.v (.string r))) []:=CtU (zKs kind1 words2) 4 (fun r=>.c (.v (.string r))) Tryz.func175 rfl rfl h
def zGg (kind1:ByteArray) (words2:List ByteArray):=fCs zKZ (zB9 kind1 words2) (fun _=>zLH) fun _=>rfl
theorem zFU:CfW Tryz.prog 127:=cfW Tryz.func127
noncomputable def zF2 (f1:τF) (g2:τF):T Tryz.prog ((ByteArray×Bool)):=
 .op1 (zHP f1 g2) fun y3=>
 .cond (!y3.2) (
 .ret (((⟨#[]⟩:ByteArray),false)))<|.draw 10 []<|.op1 (zBY f1) fun y5=>.op1 (zBY g2) fun y6=>.op1 (zFH y3.1) fun y7=>.n1 bsl<|.op1 (zGg ((⟨#[101,113,117,105,118,97,108,101,110,116]⟩:ByteArray)) ([y5,y6,y7])) fun y8=>
 .ret ((y8,true))
theorem zF6 {f1:τF} {g2:τF} {r:(ByteArray×Bool)} (h:jT f1 g2=some r):zD Tryz.prog 127 [.ag [Ti f1.1,Ti f1.2.1,Ti f1.2.2],.ag [Ti g2.1,Ti g2.2.1,Ti g2.2.2]] (.tc (.c (.v (.string r.1))) (.tc (Bo r.2) .tn)) []:=CtT (zF2 f1 g2) (fun r=>(.tc (.c (.v (.string r.1))) (.tc (Bo r.2) .tn),[])) (rs:=[.t 4,.t 5]) (vs:=[.tmp 4,.tmp 5]) Tryz.func127 rfl rfl (.cons rfl (.cons rfl FitsL.nil)) h
def zFh (f1:τF) (g2:τF):=fC zFU (jT f1 g2) fun _=>zF6
theorem zL5:CfW Tryz.prog 177:=cfW Tryz.func177
noncomputable def zMA (f1:τF):T Tryz.prog ((τF×τM×Bool)):=
 .op1 (zD6 f1) fun y2=>
 .cond (!y2) (.n0 (bld pl42 bt42)<|.n0 (bld zD3 zDm)<|
 .ret (((0,0,0),(0,0,0,0),false)))<|.op1 (zF0 f1) fun y4=>
 .op1 (zIX y4.2) fun y5=>
 .cond (!y5) (.n0 (bld pl42 bt42)<|.n0 (bld zD3 zDm)<|
 .ret (((0,0,0),(0,0,0,0),false)))<|.draw 3 [(2,16)]<|
 .ret ((y4.1,y4.2,true))
theorem zMV {f1:τF} {r:(τF×τM×Bool)} (h:zA8 f1=some r):zD Tryz.prog 177 [.ag [Ti f1.1,Ti f1.2.1,Ti f1.2.2]] (.tc (.ag [Ti r.1.1,Ti r.1.2.1,Ti r.1.2.2]) (.tc (.ag [Ti r.2.1.1,Ti r.2.1.2.1,Ti r.2.1.2.2.1,Ti r.2.1.2.2.2]) (.tc (Bo r.2.2) .tn))) []:=CtT (zMA f1) (fun r=>(.tc (.ag [Ti r.1.1,Ti r.1.2.1,Ti r.1.2.2]) (.tc (.ag [Ti r.2.1.1,Ti r.2.1.2.1,Ti r.2.1.2.2.1,Ti r.2.1.2.2.2]) (.tc (Bo r.2.2) .tn)),[])) (rs:=[.w 2 3,.w 3 4,.t 4]) (vs:=[.cell 2 42,.cell 3 120,.tmp 4]) Tryz.func177 rfl rfl (.cons ⟨rfl,wd42⟩ (.cons ⟨rfl,zFK⟩ (.cons rfl FitsL.nil))) h
def zHA (f1:τF):=fC zL5 (zA8 f1) fun _=>zMV
theorem zFe:CfW Tryz.prog 128:=cfW Tryz.func128
noncomputable def zFj (f1:τF) (g2:τF):T Tryz.prog ((ByteArray×Bool)):=
 .op1 (zHA f1) fun y3=>
 .op1 (zHA g2) fun y4=>
 .dn<|.joinC (.selB (!y3.2.2) false [] fun w_7=>.selB (bif w_7 then true else (!y4.2.2)) false [.z (eqg3 zVD)] fun w_8=>.ret (w_7,w_8)) (mb 49 17179870924) [80,72,56,48,24,16] (fun s q_9 γ=>s.pc (mb 49 17179870924) [80,72,56,48,24,16] [(34,Bo (bif q_9.2 then true else (((y3.1.1==y4.1.1)&&((y3.1.2.1==y4.1.2.1)&&(y3.1.2.2==y4.1.2.2))))))] []) fun q_9=>
 .lt (bif q_9.2 then true else (((y3.1.1==y4.1.1)&&((y3.1.2.1==y4.1.2.1)&&(y3.1.2.2==y4.1.2.2))))) fun t7=>.cond t7 (
 .ret (((⟨#[]⟩:ByteArray),false)))<|.draw 16 []<|.op1 (zBY f1) fun y9=>.op1 (zFH y3.2.1) fun y10=>.op1 (zBY y3.1) fun y11=>.op1 (zBY g2) fun y12=>.op1 (zFH y4.2.1) fun y13=>.op1 (zBY y4.1) fun y14=>.n1 bsl<|.op1 (zGg ((⟨#[100,105,102,102,101,114,101,110,116]⟩:ByteArray)) ([y9,y10,y11,y12,y13,y14])) fun y15=>
 .ret ((y15,true))
theorem zFl {f1:τF} {g2:τF} {r:(ByteArray×Bool)} (h:zAB f1 g2=some r):zD Tryz.prog 128 [.ag [Ti f1.1,Ti f1.2.1,Ti f1.2.2],.ag [Ti g2.1,Ti g2.2.1,Ti g2.2.2]] (.tc (.c (.v (.string r.1))) (.tc (Bo r.2) .tn)) []:=CtT (zFj f1 g2) (fun r=>(.tc (.c (.v (.string r.1))) (.tc (Bo r.2) .tn),[])) (rs:=[.t 4,.t 5]) (vs:=[.tmp 4,.tmp 5]) Tryz.func128 rfl rfl (.cons rfl (.cons rfl FitsL.nil)) h
def zFy (f1:τF) (g2:τF):=fC zFe (zAB f1 g2) fun _=>zFl
theorem zMo:CfW Tryz.prog 82:=cfW Tryz.func82
noncomputable def zN2 (vs1:τI) (l2:(ByteArray×(List Int)×τF×Int)) (forms3:List τF):T Tryz.prog ((ByteArray×Bool)):=
 .lt (l2.1.toList==((⟨#[115,104,111,119]⟩:ByteArray)).toList) fun t4=>.cond t4 (.op0 (idxM ct42 forms3 0) fun e6=>.op1 (zBY e6) fun y7=>
 .ret ((y7,true)))<|
 .lt (l2.1.toList==((⟨#[105,110,100,101,120]⟩:ByteArray)).toList) fun t8=>.cond t8 (.op0 (idxM ct42 forms3 0) fun e10=>.op1 (zNO e10) fun y11=>
 .op1 (zAl y11.1) fun y12=>
 .ret ((y12,y11.2)))<|
 .lt (l2.1.toList==((⟨#[111,114,100,101,114]⟩:ByteArray)).toList) fun t13=>.cond t13 (.op0 (idxM ct42 forms3 0) fun e15=>.op1 (zTJ e15) fun y16=>.op1 (zAl y16) fun y17=>
 .ret ((y17,true)))<|
 .lt (l2.1.toList==((⟨#[103,101,110,117,115]⟩:ByteArray)).toList) fun t18=>.cond t18 (
 .op0 (idxM ct42 forms3 0) fun e20=>.op1 (zLj e20) fun y21=>.n0 (lenM ct3 y21)<|
 .loop (fun n X_1=>zAw vs1 y21 n X_1.1 X_1.2) (((⟨#[]⟩:ByteArray),0)) (mb 107 7881299347899392) [400,80000] (fun s X_1 γ=>s.pc (mb 107 7881299347899392) [400,80000] [(10,.c (.v (.string X_1.1))),(52,I X_1.2)] []) (fun X_1=>
 .cond (ltI X_1.2 ((y21.length:Int))) (.op0 (zBH ct3 y21 X_1.2) fun e27=>.op0 (ldo ct3 y21 X_1.2) fun e28=>
 .n0 dvN<|.op0 (idxs ((⟨#[45,43]⟩:ByteArray)) (w64 (Int.tdiv (w64 (e28+1)) 2))) fun e29=>.n0 i2s<|.op0 (cat X_1.1 (Utf8.encode e29)) fun u30=>
 .frc (w64 (X_1.2+1)) fun t31=>.ret (.inl ((X_1.1++(Utf8.encode e29),t31))))<|.ret (.inr X_1.1)) (mb 107 1024) [80000] (fun s o25 γ=>s.pc (mb 107 1024) [80000] [(10,.c (.v (.string o25)))] []) fun o25=>
 .ret ((o25,true)))<|
 .lt (l2.1.toList==((⟨#[118,97,108,117,101]⟩:ByteArray)).toList) fun t32=>.cond t32 (.draw 11 []<|.op0 (idxM ct42 forms3 0) fun e34=>.op1 (zGN e34 l2.2.2.2) fun y35=>
 .op1 (zAl y35.1) fun y36=>
 .ret ((y36,y35.2)))<|
 .cond (l2.1.toList==((⟨#[115,97,109,101]⟩:ByteArray)).toList) (.draw 12 []<|.op0 (idxM ct42 forms3 0) fun e38=>.op0 (idxM ct42 forms3 1) fun e39=>.op1 (zFh e38 e39) fun y40=>
 .cond y40.2 (
 .ret ((y40.1,true)))<|.draw 11 []<|.op0 (idxM ct42 forms3 0) fun e42=>.op0 (idxM ct42 forms3 1) fun e43=>.op1 (zFy e42 e43) fun y44=>
 .ret ((y44.1,y44.2)))<|.opx (zGf vs1) fun y45=>
 .cond (!(y45.toList==((⟨#[]⟩:ByteArray)).toList)) (
 .ret ((y45,true)))<|
 .ret (((⟨#[110,111,110,101]⟩:ByteArray),true))
theorem zNm {vs1:τI} {l2:(ByteArray×(List Int)×τF×Int)} {forms3:List τF} {rest:List Tr} {r:(ByteArray×Bool)} (h:qY vs1 l2 forms3=some r):zHe Tryz.prog 82 [.pt 80000 0,.ag [.v (.string l2.1),.sl (l2.2.1.map c3),Ti l2.2.2.1.1,Ti l2.2.2.1.2.1,Ti l2.2.2.1.2.2,Ti l2.2.2.2],.c (.sl (forms3.map c42))] [(80000,.box ((Ti vs1.1::q78 (vs1.2) [])++rest))] (.tc (.c (.v (.string r.1))) (.tc (Bo r.2) .tn)) [] [(80000,.box ((Ti vs1.1::q78 (vs1.2) [])++rest))]:=CrT (zN2 vs1 l2 forms3) (fun r=>(.tc (.c (.v (.string r.1))) (.tc (Bo r.2) .tn),[])) (fun r=>[(80000,.box ((Ti vs1.1::q78 (vs1.2) [])++rest))]) (rs:=[.t 6,.t 7]) (vs:=[.tmp 6,.tmp 7]) Tryz.func82 rfl rfl (.cons rfl (.cons rfl FitsL.nil)) h
def zOg (vs1:τI) (l2:(ByteArray×(List Int)×τF×Int)) (forms3:List τF):=fRt zMo (qY vs1 l2 forms3) 80000 79 (fun rest _ h=>zNm (rest:=rest) h)
theorem zI7:CfW Tryz.prog 50:=cfW Tryz.func50
noncomputable def zIe (cc1:(τI×(List τI))) (vs2:ByteArray):T Tryz.prog ((ByteArray×(τI×(List τI)))):=
 .op1 (zQX vs2) fun y3=>
 .cond (!y3.2) (
 .ret (((⟨#[119,104,97,116]⟩:ByteArray),cc1)))<|
 .lt (y3.1.1.toList==((⟨#[117,110,100,111]⟩:ByteArray)).toList) fun t5=>.cond t5 (.n0 au<|.late (seeH 25 90079)<|.n0 (lenM ct62 cc1.2)<|
 .cond (eqI ((cc1.2.length:Int)) 0) (
 .ret (((⟨#[110,111]⟩:ByteArray),cc1)))<|.pl<|.joinC (.drawM false 13 [1,2,3,6,7,14,15,30,31,32,33,34,35,38,39,46,47,62,63,96,97,98,99,102,103,110,111,126,127,224,225,226,227,230,231,238,239,254,255,480,481,482,483,486,487,494,495,510,511,992,993,994,995,998,999,1006,1007,1022,1023,2016,2017,2018,2019,2022,2023,2030,2031,2046,2047,4094,4095,8190,8191] [1,1,0,1,1,1,0,1,1,0,1,0,0,0,1,1]<|.n0 au<|.n0 au<|.late (seeH 36 90079)<|.n0 (lenM ct62 cc1.2)<|.late (seeH 32 90079)<|.op0 (zBH ct62 cc1.2 (w64 (((cc1.2.length:Int)) - 1))) fun e8=>.op0 (ldo ct62 cc1.2 (w64 (((cc1.2.length:Int)) - 1))) fun e9=>.n0 au<|.ret (e8,e9)) (mb 109 1) [80000,90079] (fun s q_2 γ=>s.pc (mb 109 1) [80000,90079] [] [(80000,s.pbx 80000 ((Ti q_2.2.1::q78 (q_2.2.2) [.v (zE (γ 90079))])++zK5 s 80000 80)),(90079,.qarr (γ 90079) 62 79 (cc1.2.map c62))]) fun q_2=>
 .joinC (.drawM false 12 [1,2,3,6,7,14,15,30,31,32,33,34,35,38,39,46,47,62,63,96,97,98,99,102,103,110,111,126,127,224,225,226,227,230,231,238,239,254,255,480,481,482,483,486,487,494,495,510,511,992,993,994,995,998,999,1006,1007,1022,1023,2016,2017,2018,2019,2022,2023,2030,2031,2046,2047,4094,4095] [1,1,0,1,1,1,0,1,1,0,1,0,0,1,2]<|.n0 au<|.n0 au<|.late (seeH 51 90079)<|.n0 (lenM ct62 cc1.2)<|.late (zNT 47 90079)<|.opx (shr ct62 cc1.2 (w64 (((cc1.2.length:Int)) - 1))) fun u10=>.n0 au<|.late (pinH 54 90079)<|.ret u10) (mb 109 0) [80000,90079] (fun s q_1 γ=>s.pc (mb 109 0) [80000,90079] [] [(80000,s.pbx 80000 ((Ti q_2.2.1::q78 (q_2.2.2) [.v (zE (γ 90079))])++zK5 s 80000 80)),(90079,.qarr (γ 90079) 62 79 ((subl cc1.2 0 (w64 (((cc1.2.length:Int)) - 1))).map c62))]) fun q_1=>
 .ret (((⟨#[111,107]⟩:ByteArray),(q_2.2,subl cc1.2 0 (w64 (((cc1.2.length:Int)) - 1))))))<|.pl<|.joinC (.drawL [1,0,1,1,0,1,1,1,1,1]<|.n0 au<|.opx (zJ0 cc1.1 y3.1) fun y11=>.ret y11) (mb 109 225) [496,40,80000,90079] (fun s q_5 γ=>s.pc (mb 109 225) [496,40,80000,90079] [(6,Bo q_5.2),(7,.ow 496)] [(496,.arr 42 3 (q_5.1.map c42)),(80000,s.pbx 80000 ((Ti cc1.1.1::q78 (cc1.1.2) [.v (zE (γ 90079))])++zK5 s 80000 80)),(90079,.qarr (γ 90079) 62 79 (cc1.2.map c62))]) fun q_5=>
 .cond (!q_5.2) (
 .ret (((⟨#[110,111]⟩:ByteArray),cc1)))<|.n0 au<|
 .hint (frzH 496)<|.opx (zK1 cc1.1 y3.1 q_5.1) fun y13=>
 .cond y13.2.1 (
 .cond (!y13.1) (
 .ret (((⟨#[110,111]⟩:ByteArray),cc1)))<|.pl<|.joinC (.drawM false 11 [1,2,3,6,7,14,15,30,31,32,33,34,35,38,39,46,47,62,63,96,97,98,99,102,103,110,111,126,127,224,225,226,227,230,231,238,239,254,255,480,481,482,483,486,487,494,495,510,511,992,993,994,995,998,999,1006,1007,1022,1023,2046,2047] [1,1,0,1,1,1,0,1,1,0,0,0,1,2]<|.n0 au<|.n0 au<|.n1 bsl<|.late (zNT 84 90079)<|.opx (appB ct62 cc1.2 (([cc1.1]))) fun u16=>.n0 au<|.late (pinH 90 90079)<|.ret u16) (mb 109 257) [64,80000,90079] (fun s q_3 γ=>s.pc (mb 109 257) [64,80000,90079] [] [(80000,s.pbx 80000 ((Ti cc1.1.1::q78 (cc1.1.2) [.v (zE (γ 90079))])++zK5 s 80000 80)),(90079,.qarr (γ 90079) 62 79 ((cc1.2++([cc1.1])).map c62))]) fun q_3=>
 .n0 au<|
 .ret (((⟨#[111,107]⟩:ByteArray),(y13.2.2,cc1.2++([cc1.1])))))<|.pl<|.joinC (.drawL [1,0,1,1,1,0,1,1,1,1,1]<|.n0 au<|.opx (zOg cc1.1 y3.1 q_5.1) fun y17=>.ret y17) (mb 109 2112) [80000,90079] (fun s q_4 γ=>s.pc (mb 109 2112) [80000,90079] [(6,Bo q_4.2),(11,.c (.v (.string q_4.1)))] [(80000,s.pbx 80000 ((Ti cc1.1.1::q78 (cc1.1.2) [.v (zE (γ 90079))])++zK5 s 80000 80)),(90079,.qarr (γ 90079) 62 79 (cc1.2.map c62))]) fun q_4=>
 .cond (!q_4.2) (
 .ret (((⟨#[110,111]⟩:ByteArray),cc1)))<|
 .ret ((q_4.1,cc1))
theorem zIt {cc1:(τI×(List τI))} {vs2:ByteArray} {rest:List Tr} {r:(ByteArray×(τI×(List τI)))} (h:qC cc1 vs2=some r):zJ3 Tryz.prog 50 [.pt 80000 0,.c (.v (.string vs2))] 90079 62 79 (fun l=>[(80000,.box ((Ti cc1.1.1::q78 (cc1.1.2) [.v (zE (l))])++rest))]) (cc1.2.map c62) (.v (.string r.1)) (fun l=>[(80000,.box ((Ti r.2.1.1::q78 (r.2.1.2) [.v (zE (l))])++rest))]) (r.2.2.map c62):=CqT (zIe cc1 vs2) 90079 62 79 (fun r=>.v (.string r.1)) (fun r l=>[(80000,.box ((Ti r.2.1.1::q78 (r.2.1.2) [.v (zE (l))])++rest))]) (fun r=>r.2.2.map c62) (rs:=.t 4) (vs:=.tmp 4) Tryz.func50 rfl rfl (.cons rfl FitsL.nil) h
def zJ1 (cc1:(τI×(List τI))) (vs2:ByteArray):=fQ zI7 (qC cc1 vs2) 80000 80 90079 62 79 (fun rest _ h=>zIt (rest:=rest) h)
theorem zMp:CfW Tryz.prog 33:=cfW Tryz.func33
noncomputable def zN3 (script1:ByteArray):T Tryz.prog (Option (τI×(List τI)×(List ByteArray))):=
 .op1 (zTL script1) fun y2=>
 .dn<|.joinC (.selB (!y2.2) false [] fun w_7=>.selB (bif w_7 then true else (ltI 2000 ((script1.size:Int)))) false [.z (lenM ct9 y2.1)] fun w_8=>.ret (w_7,w_8)) (mb 49 33554448) [88] (fun s q_11 γ=>s.pc (mb 49 33554448) [88] [(25,Bo (bif q_11.2 then true else (ltI 60 ((y2.1.length:Int)))))] []) fun q_11=>
 .lt (bif q_11.2 then true else (ltI 60 ((y2.1.length:Int)))) fun t5=>.cond t5 (
 .ret none)<|.n0 (bld pl62 bt62)<|.n0 (bld pl65 bt65)<|
 .n0 (lenM ct9 y2.1)<|
 .hint (nilH 90079 62 79)<|.hint (nilH 90080 9 1)<|.loop (fun n X_10=>zAM y2 n X_10.1 X_10.2.1 X_10.2.2.1 X_10.2.2.2.1 X_10.2.2.2.2) ((0,([]:List ByteArray),([]:List τI),-23,(fun _=>(0,0,0)))) (mb 49 3758096448) [90080,90079,224,88] (fun s X_10 γ=>s.pc (mb 49 3758096448) [90080,90079,224,88] [(31,I X_10.1)] [(90080,.qarr (γ 90080) 9 1 (X_10.2.1.map c9)),(90079,.qarr (γ 90079) 62 79 (X_10.2.2.1.map c62)),(224,.box (Ti X_10.2.2.2.1::q78 (X_10.2.2.2.2) [.v (zE (γ 90079)),.v (zE (γ 90080))]))]) (fun X_10=>
 .cond (ltI X_10.1 ((y2.1.length:Int))) (.op0 (zBH ct9 y2.1 X_10.1) fun e15=>.op0 (ldo ct9 y2.1 X_10.1) fun e16=>
 .joinC (.drawM true 10 [1,2,3,6,7,14,15,30,31,32,33,34,35,38,39,46,47,62,63,64,65,66,67,70,71,78,79,94,95,96,97,98,99,102,103,110,111,126,127,224,225,226,227,230,231,238,239,254,255,480,481,482,483,486,487,494,495,510,511,1022,1023] [1,1,0,1,1,1,1,0,0,0,0,1,2]<|.n0 au<|.opx (zJ1 (((X_10.2.2.2.1,X_10.2.2.2.2),X_10.2.2.1)) e16) fun y17=>.n1 bsl<|.late (zNT 39 90080)<|.opx (app ct9 X_10.2.1 ([y17.1])) fun u18=>.n0 au<|.late (pinH 44 90080)<|.ret (y17,u18)) (mb 49 3758096448) [90080,90079,224,88] (fun s q_9 γ=>s.pc (mb 49 3758096448) [90080,90079,224,88] [] [(90080,.qarr (γ 90080) 9 1 ((X_10.2.1++([q_9.1.1])).map c9)),(90079,.qarr (γ 90079) 62 79 (q_9.1.2.2.map c62)),(224,.box (Ti q_9.1.2.1.1::q78 (q_9.1.2.1.2) [.v (zE (γ 90079)),.v (zE (γ 90080))]))]) fun q_9=>
 .frc (w64 (X_10.1+1)) fun t19=>.ret (.inl ((t19,X_10.2.1++([q_9.1.1]),q_9.1.2.2,q_9.1.2.1.1,q_9.1.2.1.2))))<|.ret (.inr ((X_10.2.1,X_10.2.2.1,X_10.2.2.2.1,X_10.2.2.2.2)))) (mb 49 64) [90080,90079,224] (fun s o13 γ=>s.pc (mb 49 64) [90080,90079,224] [] [(90080,.qarr (γ 90080) 9 1 (o13.1.map c9)),(90079,.qarr (γ 90079) 62 79 (o13.2.1.map c62)),(224,.box (Ti o13.2.2.1::q78 (o13.2.2.2) [.v (zE (γ 90079)),.v (zE (γ 90080))]))]) fun o13=>
 .late (z0c 90079 224 79)<|.late (z0c 90080 224 80)<|.late (z3V 224)<|.ret (some ((o13.2.2,o13.2.1,o13.1)))
theorem zNn {script1:ByteArray} {r:Option (τI×(List τI)×(List ByteArray))} (h:zB6 script1=some r):zD Tryz.prog 33 [.c (.v (.string script1))] (elO r (.tc (.c (.v (.pointer none))) (.tc (Bo false) .tn)) fun c=>.tc (.pe (Ti c.1.1::q78 (c.1.2) [.sl (c.2.1.map c62),.sl (c.2.2.map c9)])) (.tc (Bo true) .tn)) []:=CtT (zN3 script1) (fun r=>(elO r (.tc (.c (.v (.pointer none))) (.tc (Bo false) .tn)) fun c=>.tc (.pe (Ti c.1.1::q78 (c.1.2) [.sl (c.2.1.map c62),.sl (c.2.2.map c9)])) (.tc (Bo true) .tn),[])) (rs:=[.t 2,.t 3]) (vs:=[.tmp 2,.tmp 3]) Tryz.func33 rfl rfl (.cons rfl (.cons rfl FitsL.nil)) h
def zOk (script1:ByteArray):=fC zMp (zB6 script1) fun _=>zNn
theorem zJX:CfW Tryz.prog 10:=cfW Tryz.func10
noncomputable def zKE (script1:ByteArray):T Tryz.prog (((List τF)×Bool)):=
 .n1 (nilN 42 3 (by decide))<|
 .op1o (zOk script1) (
 .lit<|.n1 bsl0<|
 .ret ((([]:List τF),false))) fun cc3=>
 .lit<|.n1 bsl0<|
 .n0 au<|
 .loop (fun n X_1=>jW cc3 n X_1.1 X_1.2) ((0,([]:List τF))) (mb 35 12582976) [136] (fun s X_1 γ=>s.pc (mb 35 12582976) [136] [(23,I X_1.1)] [(136,.arr 42 3 (X_1.2.map c42))]) (fun X_1=>
 .cond (ltI X_1.1 26) (.op0 (igA ct42 26 cc3.1.2 X_1.1) fun e10=>
 .n0 (bld pl42 bt42)<|.n0 (neg3 zYK)<|
 .cond (!((e10.1==0)&&((e10.2.1==0)&&(e10.2.2==0)))) (.n1 bsl<|.opx (app ct42 X_1.2 ([e10])) fun u12=>
 .frc (w64 (X_1.1+1)) fun t13=>.ret (.inl ((t13,X_1.2++([e10])))))<|
 .frc (w64 (X_1.1+1)) fun t14=>.ret (.inl ((t14,X_1.2))))<|.ret (.inr X_1.2)) (mb 35 64) [136] (fun s o8 γ=>s.pc (mb 35 64) [136] [] [(136,.arr 42 3 (o8.map c42))]) fun o8=>
 .ret ((o8,true))
theorem zKO {script1:ByteArray} {r:((List τF)×Bool)} (h:zBV script1=some r):zD Tryz.prog 10 [.c (.v (.string script1))] (.tc (.ow 0) (.tc (Bo r.2) .tn)) [(0,.arr 42 3 (r.1.map c42))]:=CtT (zKE script1) (fun r=>(.tc (.ow 0) (.tc (Bo r.2) .tn),[(0,.arr 42 3 (r.1.map c42))])) (rs:=[.t 2,.t 3]) (vs:=[.tmp 2,.tmp 3]) Tryz.func10 rfl rfl (.cons rfl (.cons rfl FitsL.nil)) h
def zGB (script1:ByteArray):=fC zJX (zBV script1) fun _=>zKO
theorem zSd:CfW Tryz.prog 34:=cfW Tryz.func34
noncomputable def zTb (a1:τF) (b2:τF):T Tryz.prog Bool:=
 .cond (!eqI a1.1 b2.1) (
 .ret false)<|
 .cond (!eqI a1.2.1 b2.2.1) (
 .ret false)<|
 .cond (!eqI a1.2.2 b2.2.2) (
 .ret false)<|
 .ret true
theorem zTz {a1:τF} {b2:τF} {r:Bool} (h:zEL a1 b2=some r):zD Tryz.prog 34 [.ag [Ti a1.1,Ti a1.2.1,Ti a1.2.2],.ag [Ti b2.1,Ti b2.2.1,Ti b2.2.2]] (Bo r) []:=CtU (zTb a1 b2) 4 (fun r=>Bo r) Tryz.func34 rfl rfl h
def zUe (a1:τF) (b2:τF):=fC zSd (zEL a1 b2) fun _=>zTz
theorem zQB:CfW Tryz.prog 11:=cfW Tryz.func11
noncomputable def zRC (a1:List τF) (b2:List τF):T Tryz.prog Bool:=
 .n0 (lenM ct42 a1)<|.n0 (lenM ct42 b2)<|
 .cond (!eqI ((a1.length:Int)) ((b2.length:Int))) (
 .ret false)<|
 .loopS (fun n X_1=>zCe a1 b2 n X_1) 0 (mb 27 35) [] (fun s X_1 γ=>s.pc (mb 27 35) [] [(5,I X_1)] []) (fun X_1=>
 .n0 (lenM ct42 a1)<|
 .cond (ltI X_1 ((a1.length:Int))) (.draw 10 []<|.op0 (idxM ct42 a1 X_1) fun e8=>.op0 (idxM ct42 b2 X_1) fun e9=>.op1 (zUe e8 e9) fun y10=>
 .cond (!y10) (
 .ret (.early false))<|
 .frc (w64 (X_1+1)) fun i12=>.ret (.again i12))<|.ret (.done (()))) (mb 27 0) [] (fun s o6 γ=>s.pc (mb 27 0) [] [] []) (fun r=>r) fun o6=>
 .ret true
theorem zRa {a1:List τF} {b2:List τF} {r:Bool} (h:zCw a1 b2=some r):zD Tryz.prog 11 [.c (.sl (a1.map c42)),.c (.sl (b2.map c42))] (Bo r) []:=CtU (zRC a1 b2) 4 (fun r=>Bo r) Tryz.func11 rfl rfl h
def zJ2 (a1:List τF) (b2:List τF):=fCs zQB (zCw a1 b2) (fun _=>zRa) fun _=>rfl
theorem zMl:∀args w,(callFunc 12 args).run Tryz.prog w=.ok (.enter 12 args) w:=jA Tryz.func12 kk kk
set_option maxRecDepth 100000 in
set_option maxHeartbeats 400000 in
theorem zNj {a1:List τF} {k2:Int} {r:(Int×(List τF))} (h:zCJ a1 k2=some r):zHe Tryz.prog 12 [.ow 80000,I k2] [(80000,.arr 42 3 (a1.map c42))] (I r.1) [] [(80000,.arr 42 3 (r.2.map c42))]:=by
  refine zHN (rs:=[.t 4]) (vs:=[.tmp 4]) Tryz.func12 rfl rfl (.cons rfl FitsL.nil) (by decide) 34 rfl rfl fun σ=>?_
  unfold zCJ at h;show V _ _ ⟨.ow 80000::I k2::bt 32 [],[(80000,.parr (σ 80000) 42 3 (a1.map c42))]⟩ _;refine qL (mb 34 3) [80000] (s1:=⟨.ow 80000::I k2::bt 32 [],[(80000,.parr (σ 80000) 42 3 (a1.map c42))]⟩) ?_ ?_
  ·refine L0 rfl rfl (zF (I 0) rfl kk) ?_
   refine zI ?_
   kernel_rfl
  refine zCo ?_
  refine qL (mb 34 35) [80000] (s1:=⟨.ow 80000::I k2::bt 3 (I 0::bt 28 []),[(80000,.parr (σ 80000) 42 3 (a1.map c42))]⟩) ?_ ?_
  ·refine L0 rfl rfl (zF (I 0) rfl kk) ?_
   refine zI ?_
   kernel_rfl
  obtain⟨o7,hLo7,h⟩:=zO h;refine z45 (mb 34 2) [80000] (s1:=⟨.bot::I o7.1::bt 32 [],[(80000,.parr (σ 80000) 42 3 (o7.2.map c42))]⟩) ?_ ?_
  ·clear h;refine zDL (zOe (fun n s=>∃(k3:Int) (i4:Int) (l5:List τF),s.keep (mb 34 35) [80000]=(⟨.ow 80000::I k3::bt 3 (I i4::bt 28 []),[(80000,.parr (σ 80000) 42 3 (l5.map c42))]⟩:St)∧zA3 n k3 i4 l5=some o7) FU ⟨_,_,_,by rfl,hLo7⟩ ?_);clear hLo7;rintro n s ⟨k3,i4,l5,hs,h⟩;refine zXO _ _ hs ?_
   clear hs;cases n with
   |zero=>cases h
   |succ n=>
    rw[zA3]at h;refine zCo ?_
    refine qL (mb 34 547) [80000] (s1:=⟨.ow 80000::I k3::bt 3 (I i4::bt 3 (Bo (ltI i4 ((l5.length:Int)))::bt 24 [])),[(80000,.parr (σ 80000) 42 3 (l5.map c42))]⟩) ?_ ?_
    ·refine L0 rfl rfl (zG (I i4) rfl kk) ?_
     refine L0 rfl rfl (zG (.ow 80000) rfl kk) ?_
     refine L0 rfl rfl (zJu (c:=c42) (xs:=l5) Tryz.underlying22 rfl kk) ?_
     refine L0 rfl rfl (zFw (k:=.i64) (a:=i4) (b:=(l5.length:Int)) rfl kk kk) ?_
     refine zI ?_
     kernel_rfl
    refine zDK rfl (fun hc8=>?_) (fun hc8=>?_)
    ·have h:=zBq h hc8;refine zE6 ?_
     show V _ _ _ _;refine zCo ?_
     refine zDL ?_
     obtain⟨e9,he9,h⟩:=zO h;obtain⟨e10,he10,h⟩:=zO h;refine qL (mb 34 35) [80000] (s1:=⟨.ow 80000::I k3::bt 3 (I i4::bt 28 []),[(80000,.parr (σ 80000) 42 3 ((l5.set (Int.toNat (i4)) ((k3,e10.2.1,e10.2.2))).map c42))]⟩) ?_ ?_
     ·refine L0 rfl rfl (zG (.ow 80000) rfl kk) ?_
      refine L0 rfl rfl (zG (I i4) rfl kk) ?_
      refine L0 rfl rfl (zG (I k3) rfl kk) ?_
      refine L0 rfl rfl (zHb (c:=c42) (xs:=l5) (v:=e9) (id:=80000) (T:=42) (sz:=3) (n:=i4) Tryz.underlying22 sz42 rfl kk kk kk he9) ?_
      refine L0 rfl rfl (jX (.po 80000 3 (Int.toNat (i4)) 0) Tryz.underlying42 rfl sz3 rfl kk (by intro hh;cases hh)) ?_
      refine zQ rfl (zLb (l:=σ 80000) (c:=c42) (xs:=l5) (v:=e10) (u:=(k3,e10.2.1,e10.2.2)) (id:=80000) (sz:=3) (off:=0) (T0:=42) (n:=i4) (vc:=[Ti k3]) rfl rfl kk kk he10 kk sz3 (Nat.le_of_ble_eq_true rfl) kk) ?_
      refine zI ?_
      kernel_rfl
     obtain⟨k11,hk11,h⟩:=zIT h;refine qL (mb 34 35) [80000] (s1:=⟨.ow 80000::I k11::bt 3 (I i4::bt 28 []),[(80000,.parr (σ 80000) 42 3 ((l5.set (Int.toNat (i4)) ((k3,e10.2.1,e10.2.2))).map c42))]⟩) ?_ ?_
     ·refine L0 rfl rfl (zG (I k3) rfl kk) ?_
      refine L0 rfl rfl (zCx (a:=k3) (b:=1) rfl kk kk) ?_
      refine L0 rfl rfl (zF (I (w64 (k3+1))) rfl kk) ?_
      refine zI ?_
      subst hk11
      kernel_rfl
     obtain⟨e12,he12,h⟩:=zO h;obtain⟨e13,he13,h⟩:=zO h;obtain⟨l14,hl14,h⟩:=zO h;have hl14:=zR hl14;refine qL (mb 34 35) [80000] (s1:=⟨.ow 80000::I k11::bt 3 (I i4::bt 28 []),[(80000,.parr (σ 80000) 42 3 (l14.map c42))]⟩) ?_ ?_
     ·refine L0 rfl rfl (zG (.ow 80000) rfl kk) ?_
      refine L0 rfl rfl (zG (I i4) rfl kk) ?_
      refine L0 rfl rfl (zG (I k11) rfl kk) ?_
      refine L0 rfl rfl (zHb (c:=c42) (xs:=l5.set (Int.toNat (i4)) ((k3,e10.2.1,e10.2.2))) (v:=e12) (id:=80000) (T:=42) (sz:=3) (n:=i4) Tryz.underlying22 sz42 rfl kk kk kk he12) ?_
      refine L0 rfl rfl (jX (.po 80000 3 (Int.toNat (i4)) 1) Tryz.underlying42 rfl sz3 rfl kk (by intro hh;cases hh)) ?_
      refine zQ rfl (zLb (l:=σ 80000) (c:=c42) (xs:=l5.set (Int.toNat (i4)) ((k3,e10.2.1,e10.2.2))) (v:=e13) (u:=(e13.1,k11,e13.2.2)) (id:=80000) (sz:=3) (off:=1) (T0:=42) (n:=i4) (vc:=[Ti k11]) rfl rfl kk kk he13 kk sz3 (Nat.le_of_ble_eq_true rfl) kk) ?_
      refine zI ?_
      subst hl14
      kernel_rfl
     obtain⟨k15,hk15,h⟩:=zIT h;refine qL (mb 34 35) [80000] (s1:=⟨.ow 80000::I k15::bt 3 (I i4::bt 28 []),[(80000,.parr (σ 80000) 42 3 (l14.map c42))]⟩) ?_ ?_
     ·refine L0 rfl rfl (zG (I k11) rfl kk) ?_
      refine L0 rfl rfl (zCx (a:=k11) (b:=1) rfl kk kk) ?_
      refine L0 rfl rfl (zF (I (w64 (k11+1))) rfl kk) ?_
      refine zI ?_
      subst hk15
      kernel_rfl
     obtain⟨e16,he16,h⟩:=zO h;obtain⟨e17,he17,h⟩:=zO h;refine qL (mb 34 35) [80000] (s1:=⟨.ow 80000::I k15::bt 3 (I i4::bt 28 []),[(80000,.parr (σ 80000) 42 3 ((l14.set (Int.toNat (i4)) ((e17.1,e17.2.1,k15))).map c42))]⟩) ?_ ?_
     ·refine L0 rfl rfl (zG (.ow 80000) rfl kk) ?_
      refine L0 rfl rfl (zG (I i4) rfl kk) ?_
      refine L0 rfl rfl (zG (I k15) rfl kk) ?_
      refine L0 rfl rfl (zHb (c:=c42) (xs:=l14) (v:=e16) (id:=80000) (T:=42) (sz:=3) (n:=i4) Tryz.underlying22 sz42 rfl kk kk kk he16) ?_
      refine L0 rfl rfl (jX (.po 80000 3 (Int.toNat (i4)) 2) Tryz.underlying42 rfl sz3 rfl kk (by intro hh;cases hh)) ?_
      refine zQ rfl (zLb (l:=σ 80000) (c:=c42) (xs:=l14) (v:=e17) (u:=(e17.1,e17.2.1,k15)) (id:=80000) (sz:=3) (off:=2) (T0:=42) (n:=i4) (vc:=[Ti k15]) rfl rfl kk kk he17 kk sz3 (Nat.le_of_ble_eq_true rfl) kk) ?_
      refine zI ?_
      kernel_rfl
     obtain⟨k18,hk18,h⟩:=zIT h;refine zSs (mb 34 35) [80000] (s1:=⟨.ow 80000::I k18::bt 3 (I i4::bt 28 []),[(80000,.parr (σ 80000) 42 3 ((l14.set (Int.toNat (i4)) ((e17.1,e17.2.1,k15))).map c42))]⟩) ?_ ?_
     ·refine L0 rfl rfl (zG (I k15) rfl kk) ?_
      refine L0 rfl rfl (zCx (a:=k15) (b:=1) rfl kk kk) ?_
      refine L0 rfl rfl (zF (I (w64 (k15+1))) rfl kk) ?_
      refine zI ?_
      subst hk18
      kernel_rfl
     show V _ _ _ _;obtain⟨i19,hi19,h⟩:=zIT h;refine zSs (mb 34 35) [80000] (s1:=⟨.ow 80000::I k18::bt 3 (I i19::bt 28 []),[(80000,.parr (σ 80000) 42 3 ((l14.set (Int.toNat (i4)) ((e17.1,e17.2.1,k15))).map c42))]⟩) ?_ ?_
     ·refine L0 rfl rfl (zG (I i4) rfl kk) ?_
      refine L0 rfl rfl (zCx (a:=i4) (b:=1) rfl kk kk) ?_
      refine L0 rfl rfl (zF (I (w64 (i4+1))) rfl kk) ?_
      refine zI ?_
      subst hi19
      kernel_rfl
     exact⟨n,Nat.lt_succ_self n,_,_,_,by rfl,h⟩
    ·have h:=zBB h hc8;refine zSt ?_
     obtain rfl:=zR h;show St.keep _ _ _=_;rfl
  show V _ _ _ _;refine qL (mb 34 16) [80000] (s1:=⟨bt 4 (I o7.1::bt 29 []),[(80000,.parr (σ 80000) 42 3 (o7.2.map c42))]⟩) ?_ ?_
  ·refine L0 rfl rfl (zG (I o7.1) rfl kk) ?_
   refine L0 rfl rfl (zF (I o7.1) rfl kk) ?_
   refine zI ?_
   kernel_rfl
  refine zEQ ?_
  obtain rfl:=zR h;show z4f _ _ _ _ _ _;exact⟨⟨.inr rfl,rfl,rfl,rfl⟩,⟨rfl,trivial⟩⟩
def zOf (a1:List τF) (k2:Int):=fR zMl (zCJ a1 k2) fun _=>zNj
theorem zMm:CfW Tryz.prog 13:=cfW Tryz.func13
noncomputable def zN0 (a1:List τF) (k2:Int):T Tryz.prog Int:=
 .loopS (fun n X_1=>zBT a1 n X_1.1 X_1.2) ((k2,0)) (mb 40 35) [] (fun s X_1 γ=>s.pc (mb 40 35) [] [(1,I X_1.1),(5,I X_1.2)] []) (fun X_1=>
 .n0 (lenM ct42 a1)<|
 .cond (ltI X_1.2 ((a1.length:Int))) (.op0 (idxM ct42 a1 X_1.2) fun e8=>
 .cond (!eqI e8.1 X_1.1) (
 .ret (.early (-1)))<|
 .frc (w64 (X_1.1+1)) fun k10=>.op0 (idxM ct42 a1 X_1.2) fun e11=>
 .cond (!eqI e11.2.1 k10) (
 .ret (.early (-1)))<|
 .frc (w64 (k10+1)) fun k13=>.op0 (idxM ct42 a1 X_1.2) fun e14=>
 .cond (!eqI e14.2.2 k13) (
 .ret (.early (-1)))<|
 .frc (w64 (k13+1)) fun k16=>
 .frc (w64 (X_1.2+1)) fun i17=>.ret (.again ((k16,i17))))<|.ret (.done X_1.1)) (mb 40 2) [] (fun s o6 γ=>s.pc (mb 40 2) [] [(1,I o6)] []) (fun r=>r) fun o6=>
 .ret o6
theorem zNk {a1:List τF} {k2:Int} {r:Int} (h:zCK a1 k2=some r):zD Tryz.prog 13 [.c (.sl (a1.map c42)),I k2] (I r) []:=CtU (zN0 a1 k2) 4 (fun r=>I r) Tryz.func13 rfl rfl h
def zHc (a1:List τF) (k2:Int):=fCs zMm (zCK a1 k2) (fun _=>zNk) fun _=>rfl
noncomputable def zGW (aScript1:ByteArray):T Tryz.prog Bool:=
 .cond (ltI 1048576 ((aScript1.size:Int))) (
 .ret true)<|.op1 (zK3 aScript1) fun y3=>
 .op1 (zGB aScript1) fun y4=>
 .dn<|.joinC (.op1 (zJ2 y4.1 y3.1) fun y5=>.selB (!y5) false [] fun w_6=>.ret (y5,w_6)) (mb 66 4294967353) [168,128] (fun s q_10 γ=>s.pc (mb 66 4294967353) [168,128] [(32,Bo (bif q_10.2 then true else (y4.2 != y3.2)))] []) fun q_10=>
 .cond (bif q_10.2 then true else (y4.2 != y3.2)) (
 .ret false)<|
 .opx (zOf y4.1 1) fun y8=>
 .op1 (zHc y8.2 1) fun y9=>
 .cond (ltI y9 0) (
 .ret false)<|
 .cond (!eqI y9 y8.1) (
 .ret false)<|.op1 (zGB aScript1) fun y12=>
 .dn<|.joinC (.op1 (zJ2 y12.1 y3.1) fun y13=>.selB (!y13) false [] fun w_8=>.ret (y13,w_8)) (mb 66 144115188075856032) [168] (fun s q_9 γ=>s.pc (mb 66 144115188075856032) [168] [(57,Bo (bif q_9.2 then true else (y12.2 != y3.2)))] []) fun q_9=>
 .cond (bif q_9.2 then true else (y12.2 != y3.2)) (
 .ret false)<|
 .op1 (zHc y8.2 1) fun y16=>
 .cond (ltI y16 0) (
 .ret false)<|
 .cond (!eqI y16 y8.1) (
 .ret false)<|
 .ret true
theorem zGY {aScript1:ByteArray} {r:Bool} (h:zCU aScript1=some r):zD Tryz.prog 3 [.c (.v (.string aScript1))] (Bo r) []:=CtU (zGW aScript1) 2 (fun r=>Bo r) Tryz.func3 rfl rfl h
end Go.Proofs.YtahdjphocippeaaGreatDoor
