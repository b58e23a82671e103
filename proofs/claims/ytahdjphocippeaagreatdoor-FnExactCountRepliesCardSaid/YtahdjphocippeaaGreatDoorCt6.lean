/-
  Rules of walks, plain functions and their laws, part 6.
  Conditions: none.
-/
import Derived.Test.YtahdjphocippeaaGreatDoorCt5
set_option linter.unusedSimpArgs false
set_option linter.unusedVariables false
namespace Go.Proofs.YtahdjphocippeaaGreatDoor
open Go.RowKit
theorem zIR:CfW Tryz.prog 80:=cfW Tryz.func80
noncomputable def zIY (vs1:τI) (l2:(ByteArray×(List Int)×τF×Int)):T Tryz.prog (((List τF)×Bool)):=
 .n1 (nilN 42 3 (by decide))<|
 .n1 bsl0<|
 .n0 (lenM ct3 l2.2.1)<|
 .loopS (fun n X_507=>jR l2 vs1 n X_507.1 X_507.2) ((0,([]:List τF))) (mb 61 57417) [88,24,80000] (fun s X_507 γ=>s.pc (mb 61 57417) [88,24,80000] [(15,I X_507.1)] [(88,.arr 42 3 (X_507.2.map c42))]) (fun X_507=>
 .cond (ltI X_507.1 ((l2.2.1.length:Int))) (.op0 (idxM ct3 l2.2.1 X_507.1) fun e8=>
 .n0 au<|.op0 (ixA 26 vs1.2 e8) fun e9=>.op0 (ldA ct42 26 vs1.2 e8 1) fun e10=>
 .joinC (.seqT (.cond (eqI X_507.1 0) (.selB (l2.1.toList==((⟨#[115,101,116]⟩:ByteArray)).toList) false [] fun w_500=>.selB (bif w_500 then true else (l2.1.toList==((⟨#[112,114,105,109,101]⟩:ByteArray)).toList)) false [] fun w_501=>.selB (bif w_501 then true else (l2.1.toList==((⟨#[109,117,108]⟩:ByteArray)).toList)) false [] fun w_502=>.ret (bif w_502 then true else (l2.1.toList==((⟨#[112,111,119]⟩:ByteArray)).toList))) (.ret false)) fun b15=>.ret b15) (mb 61 58953) [72,88,24,80000] (fun s q_506 γ=>s.pc (mb 61 58953) [72,88,24,80000] [(10,Bo q_506)] []) fun q_506=>
 .dn<|.joinC (.n0 (bld pl42 bt42)<|.n0 (eqg3 zUa)<|.selB (((e10.1==0)&&((e10.2.1==0)&&(e10.2.2==0)))) true [] fun w_504=>.ret w_504) (mb 61 18014398509539913) [72,88,24,80000] (fun s q_505 γ=>s.pc (mb 61 18014398509539913) [72,88,24,80000] [(54,Bo (bif q_505 then (!q_506) else false))] []) fun q_505=>
 .lt (bif q_505 then (!q_506) else false) fun t17=>.cond t17 (.n1 (nilN 42 3 (by decide))<|
 .ret (.early ((([]:List τF),false))))<|.n1 bsl<|.opx (app ct42 X_507.2 ([e10])) fun u19=>
 .frc (w64 (X_507.1+1)) fun t20=>.ret (.again ((t20,X_507.2++([e10])))))<|.ret (.done X_507.2)) (mb 61 64) [88,80000] (fun s o6 γ=>s.pc (mb 61 64) [88,80000] [] [(88,.arr 42 3 (o6.map c42))]) (fun r=>r) fun o6=>
 .ret ((o6,true))
theorem zIc {vs1:τI} {l2:(ByteArray×(List Int)×τF×Int)} {rest:List Tr} {r:((List τF)×Bool)} (h:zO vs1 l2=some r):zIH Tryz.prog 80 [.pt 80000 0,.ag [.v (.string l2.1),.sl (l2.2.1.map c3),Ti l2.2.2.1.1,Ti l2.2.2.1.2.1,Ti l2.2.2.1.2.2,Ti l2.2.2.2]] [(80000,.box ((Ti vs1.1::q78 (vs1.2) [])++rest))] (.tc (.ow 0) (.tc (Bo r.2) .tn)) [(0,.arr 42 3 (r.1.map c42))] [(80000,.box ((Ti vs1.1::q78 (vs1.2) [])++rest))]:=CrT (zIY vs1 l2) (fun r=>(.tc (.ow 0) (.tc (Bo r.2) .tn),[(0,.arr 42 3 (r.1.map c42))])) (fun r=>[(80000,.box ((Ti vs1.1::q78 (vs1.2) [])++rest))]) (rs:=[.t 4,.t 5]) (vs:=[.tmp 4,.tmp 5]) Tryz.func80 rfl rfl (.cons rfl (.cons rfl FitsL.nil)) h
def zJM (vs1:τI) (l2:(ByteArray×(List Int)×τF×Int)):=fRt zIR (zO vs1 l2) 80000 79 (fun rest _ h=>zIc (rest:=rest) h)
theorem zYI:CfW Tryz.prog 160:=cfW Tryz.func160
noncomputable def zY9 (a1:Int) (vm2:Int):T Tryz.prog Int:=
 .op0 (remF .i64 a1 vm2) fun z3=>
 .frc (Int.tmod a1 vm2) fun vr4=>
 .cond (ltI vr4 0) (
 .frc (w64 (vr4+vm2)) fun vr6=>
 .ret vr6)<|
 .ret vr4
theorem zYi {a1:Int} {vm2:Int} {r:Int} (h:zAP a1 vm2=some r):zD Tryz.prog 160 [I a1,I vm2] (I r) []:=CtU (zY9 a1 vm2) 4 (fun r=>I r) Tryz.func160 rfl rfl h
def zCX (a1:Int) (vm2:Int):=fC zYI (zAP a1 vm2) fun _=>zYi
theorem zHu:CfW Tryz.prog 116:=cfW Tryz.func116
noncomputable def zIK (d1:Int):T Tryz.prog Bool:=
 .pl<|.joinC (.selB (leI (-2000) d1) true [] fun w_2=>.seqT (.cond (bif w_2 then (leI d1 (-3)) else false) (.op1 (zCX d1 4) fun y4=>.ret (leI y4 1)) (.ret false)) fun b5=>.ret (w_2,b5)) (mb 14 4) [] (fun s q_3 γ=>s.pc (mb 14 4) [] [(2,Bo q_3.2)] []) fun q_3=>
 .ret q_3.2
theorem zIM {d1:Int} {r:Bool} (h:qR d1=some r):zD Tryz.prog 116 [I d1] (Bo r) []:=CtU (zIK d1) 2 (fun r=>Bo r) Tryz.func116 rfl rfl h
def zFG (d1:Int):=fC zHu (qR d1) fun _=>zIM
theorem zGl:CfW Tryz.prog 42:=cfW Tryz.func42
noncomputable def zNU (f1:τF):T Tryz.prog Int:=
 .frc (w64 ((w64 (f1.2.1*f1.2.1)) - (w64 ((w64 (4*f1.1))*f1.2.2)))) fun t2=>.ret t2
theorem zHL {f1:τF} {r:Int} (h:zL f1=some r):zD Tryz.prog 42 [.ag [Ti f1.1,Ti f1.2.1,Ti f1.2.2]] (I r) []:=CtU (zNU f1) 2 (fun r=>I r) Tryz.func42 rfl rfl h
def zBE (f1:τF):=fC zGl (zL f1) fun _=>zHL
theorem zLO:CfW Tryz.prog 43:=cfW Tryz.func43
noncomputable def zLi (f1:τF):T Tryz.prog Bool:=
 .pl<|.joinC (.op1 (zK1 f1) fun y2=>.seqT (.cond y2 (.op1 (zBE f1) fun y4=>.ret (ltI y4 0)) (.ret false)) fun b5=>.selB b5 true [] fun w_2=>.ret (y2,b5,w_2)) (mb 15 4) [] (fun s q_3 γ=>s.pc (mb 15 4) [] [(2,Bo (bif q_3.2.2 then (ltI 0 f1.1) else false))] []) fun q_3=>
 .ret (bif q_3.2.2 then (ltI 0 f1.1) else false)
theorem zMD {f1:τF} {r:Bool} (h:zS f1=some r):zD Tryz.prog 43 [.ag [Ti f1.1,Ti f1.2.1,Ti f1.2.2]] (Bo r) []:=CtU (zLi f1) 2 (fun r=>Bo r) Tryz.func43 rfl rfl h
def zDY (f1:τF):=fC zLO (zS f1) fun _=>zMD
theorem zKH:CfW Tryz.prog 62:=cfW Tryz.func62
noncomputable def zKb (f1:τF):T Tryz.prog Bool:=
 .pl<|.joinC (.op1 (zDY f1) fun y2=>.seqT (.cond y2 (.op1 (zBE f1) fun y4=>.ret (leI (-2000) y4)) (.ret false)) fun b5=>.ret (y2,b5)) (mb 10 4) [] (fun s q_1 γ=>s.pc (mb 10 4) [] [(2,Bo q_1.2)] []) fun q_1=>
 .ret q_1.2
theorem zKs {f1:τF} {r:Bool} (h:qS f1=some r):zD Tryz.prog 62 [.ag [Ti f1.1,Ti f1.2.1,Ti f1.2.2]] (Bo r) []:=CtU (zKb f1) 2 (fun r=>Bo r) Tryz.func62 rfl rfl h
def zGa (f1:τF):=fC zKH (qS f1) fun _=>zKs
theorem zYK:CfW Tryz.prog 135:=cfW Tryz.func135
noncomputable def zYb (vn1:Int):T Tryz.prog Int:=
 .n0 au<|.n0 au<|
 .frc (mxI vn1 (w64 (0 - (mxI vn1 (-9223372036854775807))))) fun t2=>.ret t2
theorem zYk {vn1:Int} {r:Int} (h:zDb vn1=some r):zD Tryz.prog 135 [I vn1] (I r) []:=CtU (zYb vn1) 2 (fun r=>I r) Tryz.func135 rfl rfl h
def zSr (vn1:Int):=fC zYK (zDb vn1) fun _=>zYk
theorem zYJ:CfW Tryz.prog 88:=cfW Tryz.func88
noncomputable def zYa (a1:Int) (b2:Int):T Tryz.prog Int:=
 .loop (fun n X_1=>zAg n X_1.1 X_1.2) ((a1,b2)) (mb 13 3) [] (fun s X_1 γ=>s.pc (mb 13 3) [] [(0,I X_1.1),(1,I X_1.2)] []) (fun X_1=>
 .cond (!eqI X_1.2 0) (.draw 6 []<|.op0 (remF .i64 X_1.1 X_1.2) fun z8=>
 .frc (Int.tmod X_1.1 X_1.2) fun b9=>.ret (.inl ((X_1.2,b9))))<|.ret (.inr X_1.1)) (mb 13 1) [] (fun s o6 γ=>s.pc (mb 13 1) [] [(0,I o6)] []) fun o6=>
 .op1 (zSr o6) fun y10=>
 .ret y10
theorem zYj {a1:Int} {b2:Int} {r:Int} (h:zDa a1 b2=some r):zD Tryz.prog 88 [I a1,I b2] (I r) []:=CtU (zYa a1 b2) 4 (fun r=>I r) Tryz.func88 rfl rfl h
def zIB (a1:Int) (b2:Int):=fC zYJ (zDa a1 b2) fun _=>zYj
theorem zJI:CfW Tryz.prog 63:=cfW Tryz.func63
noncomputable def zJn (f1:τF):T Tryz.prog Int:=
 .draw 9 []<|.op1 (zIB f1.2.1 f1.2.2) fun y2=>.op1 (zIB f1.1 y2) fun y3=>
 .ret y3
theorem zJx {f1:τF} {r:Int} (h:zAD f1=some r):zD Tryz.prog 63 [.ag [Ti f1.1,Ti f1.2.1,Ti f1.2.2]] (I r) []:=CtU (zJn f1) 2 (fun r=>I r) Tryz.func63 rfl rfl h
def zEB (f1:τF):=fC zJI (zAD f1) fun _=>zJx
theorem zFs:CfW Tryz.prog 45:=cfW Tryz.func45
noncomputable def zKc (f1:τF):T Tryz.prog Bool:=
 .pl<|.joinC (.op1 (zGa f1) fun y2=>.seqT (.cond y2 (.op1 (zEB f1) fun y4=>.ret (eqI y4 1)) (.ret false)) fun b5=>.ret (y2,b5)) (mb 10 4) [] (fun s q_1 γ=>s.pc (mb 10 4) [] [(2,Bo q_1.2)] []) fun q_1=>
 .ret q_1.2
theorem zGQ {f1:τF} {r:Bool} (h:zP f1=some r):zD Tryz.prog 45 [.ag [Ti f1.1,Ti f1.2.1,Ti f1.2.2]] (Bo r) []:=CtU (zKc f1) 2 (fun r=>Bo r) Tryz.func45 rfl rfl h
def zL4 (f1:τF):=fC zFs (zP f1) fun _=>zGQ
theorem zKF:CfW Tryz.prog 129:=cfW Tryz.func129
noncomputable def zK9 (vs1:τI):T Tryz.prog ByteArray:=
 .n0 au<|
 .loop (fun n X_1=>zAF vs1 n X_1.1 X_1.2) (((⟨#[]⟩:ByteArray),0)) (mb 25 1544) [80000] (fun s X_1 γ=>s.pc (mb 25 1544) [80000] [(3,.c (.v (.string X_1.1))),(10,I X_1.2)] []) (fun X_1=>
 .cond (ltI X_1.2 26) (.op0 (igA ct42 26 vs1.2 X_1.2) fun e7=>
 .n0 (bld pl42 bt42)<|.n0 (neg3 z0B)<|
 .cond (!((e7.1==0)&&((e7.2.1==0)&&(e7.2.2==0)))) (.n0 au<|.n0 i2s<|.op0 (cat X_1.1 (Utf8.encode (IntKind.i32.wrap (w64 (97+X_1.2))))) fun u9=>
 .frc (w64 (X_1.2+1)) fun t10=>.ret (.inl ((X_1.1++(Utf8.encode (IntKind.i32.wrap (w64 (97+X_1.2)))),t10))))<|
 .frc (w64 (X_1.2+1)) fun t11=>.ret (.inl ((X_1.1,t11))))<|.ret (.inr X_1.1)) (mb 25 8) [80000] (fun s o5 γ=>s.pc (mb 25 8) [80000] [(3,.c (.v (.string o5)))] []) fun o5=>
 .ret o5
theorem zKq {vs1:τI} {rest:List Tr} {r:ByteArray} (h:zB2 vs1=some r):zIH Tryz.prog 129 [.pt 80000 0] [(80000,.box ((Ti vs1.1::q78 (vs1.2) [])++rest))] (.c (.v (.string r))) [] [(80000,.box ((Ti vs1.1::q78 (vs1.2) [])++rest))]:=CrT (zK9 vs1) (fun r=>(.c (.v (.string r)),[])) (fun r=>[(80000,.box ((Ti vs1.1::q78 (vs1.2) [])++rest))]) (rs:=[.t 2]) (vs:=[.tmp 2]) Tryz.func129 rfl rfl (.cons rfl FitsL.nil) h
def zG6 (vs1:τI):=fRt zKF (zB2 vs1) 80000 79 (fun rest _ h=>zKq (rest:=rest) h)
theorem zYH:CfW Tryz.prog 232:=cfW Tryz.func232
noncomputable def zY8:T Tryz.prog (τM):=
 .n0 (bld zDV zDe)<|
 .ret ((1,0,0,1))
theorem zYh {r:τM} (h:zER=some r):zD Tryz.prog 232 [] (.ag [Ti r.1,Ti r.2.1,Ti r.2.2.1,Ti r.2.2.2]) []:=CtT (zY8) (fun r=>(.ag [Ti r.1,Ti r.2.1,Ti r.2.2.1,Ti r.2.2.2],[])) (rs:=[.w 0 4]) (vs:=[.cell 0 120]) Tryz.func232 rfl rfl (.cons ⟨rfl,zFE⟩ FitsL.nil) h
def zSk:=fC zYH (zER) fun _=>zYh
theorem zFF:CfW Tryz.prog 61:=cfW Tryz.func61
noncomputable def zI2 (f1:τF):T Tryz.prog Bool:=
 .pl<|.joinC (.selB (ltI (w64 (0 - f1.1)) f1.2.1) true [] fun w_2=>.ret w_2) (mb 16 4) [] (fun s q_3 γ=>s.pc (mb 16 4) [] [(2,Bo (bif q_3 then (leI f1.2.1 f1.1) else false))] []) fun q_3=>
 .lt (bif q_3 then (leI f1.2.1 f1.1) else false) fun t3=>.ret t3
theorem zFY {f1:τF} {r:Bool} (h:qG f1=some r):zD Tryz.prog 61 [.ag [Ti f1.1,Ti f1.2.1,Ti f1.2.2]] (Bo r) []:=CtU (zI2 f1) 2 (fun r=>Bo r) Tryz.func61 rfl rfl h
def zJU (f1:τF):=fC zFF (qG f1) fun _=>zFY
theorem zHw:∀args w,(callFunc 44 args).run Tryz.prog w=.ok (.enter 44 args) w:=jE Tryz.func44 kk kk
set_option maxRecDepth 100000 in
set_option maxHeartbeats 400000 in
theorem zIO {f1:τF} {r:Bool} (h:qK f1=some r):zD Tryz.prog 44 [.ag [Ti f1.1,Ti f1.2.1,Ti f1.2.2]] (Bo r) []:=by
  refine zAj (rs:=[.t 2]) (vs:=[.tmp 2]) Tryz.func44 rfl rfl (.cons rfl FitsL.nil) (by decide) 24 rfl ?_
  unfold qK at h;show V _ _ ⟨.ag [Ti f1.1,Ti f1.2.1,Ti f1.2.2]::bt 23 [],[]⟩ _;refine jA (mb 24 2) [8] (s1:=⟨.bot::.pt 8 0::bt 22 [],[(8,.box [Ti f1.1,Ti f1.2.1,Ti f1.2.2])]⟩) ?_ ?_
  ·refine L1 rfl rfl (zSY (cs:=[Ti f1.1,Ti f1.2.1,Ti f1.2.2]) rfl kk) ?_
   refine L0 rfl rfl (zF (Bo false) rfl kk) ?_
   refine zI ?_
   kernel_rfl
  obtain⟨y2,hy2,h⟩:=zV h;obtain⟨t6,ht6,h⟩:=zV h;have ht6:=zU ht6;refine jA (mb 24 4) [] (s1:=⟨.bot::.bot::Bo t6::bt 21 [],[]⟩) ?_ ?_
  ·refine L0 rfl rfl (zGo (cs:=[Ti f1.1,Ti f1.2.1,Ti f1.2.2]) [Ti f1.1,Ti f1.2.1,Ti f1.2.2] wd42 rfl kk (Nat.le_of_ble_eq_true rfl) kk) ?_
   refine L1 rfl rfl (zCD (zFY hy2) zFF rfl kk) ?_
   refine L0 rfl rfl (zJ (Bo y2) rfl kk) ?_
   refine zBD y2 (fun hc3=>?_) (fun hc3=>?_)
   ·refine zC _ rfl rfl kk hc3 (zB rfl (zAL (.pt 8 0) Tryz.underlying42 rfl sz3 rfl kk (by intro hh;cases hh))) ?_
    refine zC _ rfl rfl kk hc3 (zB rfl (jT (c:=Ti f1.1) (cs:=[Ti f1.2.1,Ti f1.2.2]) sc3 rfl kk)) ?_
    refine zC _ rfl rfl kk hc3 (zB rfl (zAL (.pt 8 2) Tryz.underlying42 rfl sz3 rfl kk (by intro hh;cases hh))) ?_
    refine zC _ rfl rfl kk hc3 (zB rfl (jT (c:=Ti f1.2.2) (cs:=[]) sc3 rfl kk)) ?_
    refine zC _ rfl rfl kk hc3 (zB rfl (zG4 (k:=.i64) (a:=f1.1) (b:=f1.2.2) rfl kk kk)) ?_
    refine zC _ rfl rfl kk hc3 (zB rfl (zJ (Bo (ltI f1.1 f1.2.2)) rfl kk)) ?_
    refine zBD (ltI f1.1 f1.2.2) (fun hc4=>?_) (fun hc4=>?_)
    ·refine qM _ rfl rfl kk hc4 rfl ?_
     refine qM _ rfl rfl kk hc4 rfl ?_
     refine qM _ rfl rfl kk hc4 rfl ?_
     refine qM _ rfl rfl kk hc4 rfl ?_
     refine qM _ rfl rfl kk hc4 rfl ?_
     refine qM _ rfl rfl kk hc4 rfl ?_
     refine qE rfl rfl kk rfl ?_
     refine qE rfl rfl kk rfl ?_
     refine qE rfl rfl kk rfl ?_
     refine qM _ rfl rfl kk hc4 rfl ?_
     refine zC _ rfl rfl kk hc3 (zB rfl (zA1 (b:=ltI f1.1 f1.2.2) (p:=true) (q:=bif (eqI f1.1 f1.2.2) then (leI 0 f1.2.1) else false) rfl kk hc4 kk)) ?_
     refine zQ rfl (zB rfl (zA1 (b:=y2) (p:=bif (ltI f1.1 f1.2.2) then true else (bif (eqI f1.1 f1.2.2) then (leI 0 f1.2.1) else false)) (q:=false) rfl kk hc3 kk)) ?_
     refine L0 rfl rfl (zF (Bo (bif y2 then (bif (ltI f1.1 f1.2.2) then true else (bif (eqI f1.1 f1.2.2) then (leI 0 f1.2.1) else false)) else false)) rfl kk) ?_
     refine zI ?_
     subst ht6
     kernel_rfl
    ·refine zC _ rfl rfl kk hc4 (zB rfl (zAL (.pt 8 0) Tryz.underlying42 rfl sz3 rfl kk (by intro hh;cases hh))) ?_
     refine zC _ rfl rfl kk hc4 (zB rfl (jT (c:=Ti f1.1) (cs:=[Ti f1.2.1,Ti f1.2.2]) sc3 rfl kk)) ?_
     refine zC _ rfl rfl kk hc4 (zB rfl (zAL (.pt 8 2) Tryz.underlying42 rfl sz3 rfl kk (by intro hh;cases hh))) ?_
     refine zC _ rfl rfl kk hc4 (zB rfl (jT (c:=Ti f1.2.2) (cs:=[]) sc3 rfl kk)) ?_
     refine zC _ rfl rfl kk hc4 (zB rfl (zHz (k:=.i64) (a:=f1.1) (b:=f1.2.2) rfl kk kk)) ?_
     refine zC _ rfl rfl kk hc4 (zB rfl (zJ (Bo (eqI f1.1 f1.2.2)) rfl kk)) ?_
     refine zBD (eqI f1.1 f1.2.2) (fun hc5=>?_) (fun hc5=>?_)
     ·refine zC _ rfl rfl kk hc5 (zB rfl (zAL (.pt 8 1) Tryz.underlying42 rfl sz3 rfl kk (by intro hh;cases hh))) ?_
      refine zC _ rfl rfl kk hc5 (zB rfl (jT (c:=Ti f1.2.1) (cs:=[Ti f1.2.2]) sc3 rfl kk)) ?_
      refine zC _ rfl rfl kk hc5 (zB rfl (zS2 (k:=.i64) (a:=f1.2.1) (b:=0) rfl kk kk)) ?_
      refine zC _ rfl rfl kk hc4 (zB rfl (zA1 (b:=eqI f1.1 f1.2.2) (p:=leI 0 f1.2.1) (q:=false) rfl kk hc5 kk)) ?_
      refine zC _ rfl rfl kk hc3 (zB rfl (zBC (b:=ltI f1.1 f1.2.2) (p:=true) (q:=bif (eqI f1.1 f1.2.2) then (leI 0 f1.2.1) else false) rfl kk hc4 kk)) ?_
      refine zQ rfl (zB rfl (zA1 (b:=y2) (p:=bif (ltI f1.1 f1.2.2) then true else (bif (eqI f1.1 f1.2.2) then (leI 0 f1.2.1) else false)) (q:=false) rfl kk hc3 kk)) ?_
      refine L0 rfl rfl (zF (Bo (bif y2 then (bif (ltI f1.1 f1.2.2) then true else (bif (eqI f1.1 f1.2.2) then (leI 0 f1.2.1) else false)) else false)) rfl kk) ?_
      refine zI ?_
      subst ht6
      kernel_rfl
     ·refine zT _ rfl rfl kk hc5 rfl ?_
      refine zT _ rfl rfl kk hc5 rfl ?_
      refine zT _ rfl rfl kk hc5 rfl ?_
      refine zC _ rfl rfl kk hc4 (zB rfl (zBC (b:=eqI f1.1 f1.2.2) (p:=leI 0 f1.2.1) (q:=false) rfl kk hc5 kk)) ?_
      refine zC _ rfl rfl kk hc3 (zB rfl (zBC (b:=ltI f1.1 f1.2.2) (p:=true) (q:=bif (eqI f1.1 f1.2.2) then (leI 0 f1.2.1) else false) rfl kk hc4 kk)) ?_
      refine zQ rfl (zB rfl (zA1 (b:=y2) (p:=bif (ltI f1.1 f1.2.2) then true else (bif (eqI f1.1 f1.2.2) then (leI 0 f1.2.1) else false)) (q:=false) rfl kk hc3 kk)) ?_
      refine L0 rfl rfl (zF (Bo (bif y2 then (bif (ltI f1.1 f1.2.2) then true else (bif (eqI f1.1 f1.2.2) then (leI 0 f1.2.1) else false)) else false)) rfl kk) ?_
      refine zI ?_
      subst ht6
      kernel_rfl
   ·refine zT _ rfl rfl kk hc3 rfl ?_
    refine zT _ rfl rfl kk hc3 rfl ?_
    refine zT _ rfl rfl kk hc3 rfl ?_
    refine zT _ rfl rfl kk hc3 rfl ?_
    refine zT _ rfl rfl kk hc3 rfl ?_
    refine zT _ rfl rfl kk hc3 rfl ?_
    refine qE rfl rfl kk rfl ?_
    refine qE rfl rfl kk rfl ?_
    refine qE rfl rfl kk rfl ?_
    refine qE rfl rfl kk rfl ?_
    refine qE rfl rfl kk rfl ?_
    refine qE rfl rfl kk rfl ?_
    refine qE rfl rfl kk rfl ?_
    refine qE rfl rfl kk rfl ?_
    refine qE rfl rfl kk rfl ?_
    refine qE rfl rfl kk rfl ?_
    refine zT _ rfl rfl kk hc3 rfl ?_
    refine zQ rfl (zB rfl (zBC (b:=y2) (p:=bif (ltI f1.1 f1.2.2) then true else (bif (eqI f1.1 f1.2.2) then (leI 0 f1.2.1) else false)) (q:=false) rfl kk hc3 kk)) ?_
    refine L0 rfl rfl (zF (Bo (bif y2 then (bif (ltI f1.1 f1.2.2) then true else (bif (eqI f1.1 f1.2.2) then (leI 0 f1.2.1) else false)) else false)) rfl kk) ?_
    refine zI ?_
    subst ht6
    kernel_rfl
  refine zE4 ?_
  obtain rfl:=zU h;show Post _ _ _ _ _;exact⟨.inr rfl,rfl,rfl,rfl⟩
def zDR (f1:τF):=fC zHw (qK f1) fun _=>zIO
theorem zOL:CfW Tryz.prog 237:=cfW Tryz.func237
noncomputable def zPD (a1:Int) (vm2:Int):T Tryz.prog Int:=
 .op1 (zCX a1 vm2) fun y3=>.op0 (quoF .i64 (w64 (a1 - y3)) vm2) fun z4=>
 .frc (w64 (Int.tdiv (w64 (a1 - y3)) vm2)) fun t5=>.ret t5
theorem zPW {a1:Int} {vm2:Int} {r:Int} (h:zAo a1 vm2=some r):zD Tryz.prog 237 [I a1,I vm2] (I r) []:=CtU (zPD a1 vm2) 4 (fun r=>I r) Tryz.func237 rfl rfl h
def zII (a1:Int) (vm2:Int):=fC zOL (zAo a1 vm2) fun _=>zPW
theorem zMg:CfW Tryz.prog 233:=cfW Tryz.func233
noncomputable def zNT (f1:τF):T Tryz.prog (τM):=
 .op1 (zDR f1) fun y2=>
 .cond y2 (.op1 (zSk) fun y4=>
 .ret y4)<|.op1 (zJU f1) fun y5=>
 .cond (!y5) (.op1 (zII (w64 (f1.1 - f1.2.1)) (w64 (2*f1.1))) fun y7=>.n0 (bld zDV zDe)<|
 .ret ((1,y7,0,1)))<|.n0 (bld zDV zDe)<|
 .ret ((0,-1,1,0))
theorem zNc {f1:τF} {r:τM} (h:qL f1=some r):zD Tryz.prog 233 [.ag [Ti f1.1,Ti f1.2.1,Ti f1.2.2]] (.ag [Ti r.1,Ti r.2.1,Ti r.2.2.1,Ti r.2.2.2]) []:=CtT (zNT f1) (fun r=>(.ag [Ti r.1,Ti r.2.1,Ti r.2.2.1,Ti r.2.2.2],[])) (rs:=[.w 2 4]) (vs:=[.cell 2 120]) Tryz.func233 rfl rfl (.cons ⟨rfl,zFE⟩ FitsL.nil) h
def zO4 (f1:τF):=fC zMg (qL f1) fun _=>zNc
theorem zPp:CfW Tryz.prog 172:=cfW Tryz.func172
noncomputable def zQo (f1:τF) (x2:Int) (y3:Int):T Tryz.prog Int:=
 .frc (w64 ((w64 ((w64 ((w64 (f1.1*x2))*x2))+(w64 ((w64 (f1.2.1*x2))*y3))))+(w64 ((w64 (f1.2.2*y3))*y3)))) fun t4=>.ret t4
theorem zRV {f1:τF} {x2:Int} {y3:Int} {r:Int} (h:zAR f1 x2 y3=some r):zD Tryz.prog 172 [.ag [Ti f1.1,Ti f1.2.1,Ti f1.2.2],I x2,I y3] (I r) []:=CtU (zQo f1 x2 y3) 6 (fun r=>I r) Tryz.func172 rfl rfl h
def zFD (f1:τF) (x2:Int) (y3:Int):=fC zPp (zAR f1 x2 y3) fun _=>zRV
theorem zLV:CfW Tryz.prog 261:=cfW Tryz.func261
noncomputable def zLp (f1:τF) (x2:Int) (y3:Int) (u4:Int) (v5:Int):T Tryz.prog Int:=
 .frc (w64 ((w64 ((w64 ((w64 ((w64 (2*f1.1))*x2))*u4))+(w64 (f1.2.1*(w64 ((w64 (x2*v5))+(w64 (y3*u4))))))))+(w64 ((w64 ((w64 (2*f1.2.2))*y3))*v5)))) fun t6=>.ret t6
theorem zMK {f1:τF} {x2:Int} {y3:Int} {u4:Int} {v5:Int} {r:Int} (h:zA9 f1 x2 y3 u4 v5=some r):zD Tryz.prog 261 [.ag [Ti f1.1,Ti f1.2.1,Ti f1.2.2],I x2,I y3,I u4,I v5] (I r) []:=CtU (zLp f1 x2 y3 u4 v5) 10 (fun r=>I r) Tryz.func261 rfl rfl h
def zMz (f1:τF) (x2:Int) (y3:Int) (u4:Int) (v5:Int):=fC zLV (zA9 f1 x2 y3 u4 v5) fun _=>zMK
theorem zHX:CfW Tryz.prog 234:=cfW Tryz.func234
noncomputable def zH5 (f1:τF) (vm2:τM):T Tryz.prog (τF):=
 .draw 23 []<|.op1 (zFD f1 vm2.1 vm2.2.2.1) fun y3=>.op1 (zMz f1 vm2.1 vm2.2.2.1 vm2.2.1 vm2.2.2.2) fun y4=>.op1 (zFD f1 vm2.2.1 vm2.2.2.2) fun y5=>.n0 (bld pl42 bt42)<|
 .ret ((y3,y4,y5))
theorem zHf {f1:τF} {vm2:τM} {r:τF} (h:qB f1 vm2=some r):zD Tryz.prog 234 [.ag [Ti f1.1,Ti f1.2.1,Ti f1.2.2],.ag [Ti vm2.1,Ti vm2.2.1,Ti vm2.2.2.1,Ti vm2.2.2.2]] (.ag [Ti r.1,Ti r.2.1,Ti r.2.2]) []:=CtT (zH5 f1 vm2) (fun r=>(.ag [Ti r.1,Ti r.2.1,Ti r.2.2],[])) (rs:=[.w 4 3]) (vs:=[.cell 4 42]) Tryz.func234 rfl rfl (.cons ⟨rfl,wd42⟩ FitsL.nil) h
def zDF (f1:τF) (vm2:τM):=fC zHX (qB f1 vm2) fun _=>zHf
theorem zJH:CfW Tryz.prog 204:=cfW Tryz.func204
noncomputable def zJm (vm1:τM) (vn2:τM):T Tryz.prog (τM):=
 .n0 (bld zDV zDe)<|
 .frc (w64 ((w64 (vm1.1*vn2.1))+(w64 (vm1.2.1*vn2.2.2.1)))) fun f3=>.frc (w64 ((w64 (vm1.1*vn2.2.1))+(w64 (vm1.2.1*vn2.2.2.2)))) fun f4=>.frc (w64 ((w64 (vm1.2.2.1*vn2.1))+(w64 (vm1.2.2.2*vn2.2.2.1)))) fun f5=>.frc (w64 ((w64 (vm1.2.2.1*vn2.2.1))+(w64 (vm1.2.2.2*vn2.2.2.2)))) fun f6=>.ret ((f3,f4,f5,f6))
theorem zJw {vm1:τM} {vn2:τM} {r:τM} (h:zY vm1 vn2=some r):zD Tryz.prog 204 [.ag [Ti vm1.1,Ti vm1.2.1,Ti vm1.2.2.1,Ti vm1.2.2.2],.ag [Ti vn2.1,Ti vn2.2.1,Ti vn2.2.2.1,Ti vn2.2.2.2]] (.ag [Ti r.1,Ti r.2.1,Ti r.2.2.1,Ti r.2.2.2]) []:=CtT (zJm vm1 vn2) (fun r=>(.ag [Ti r.1,Ti r.2.1,Ti r.2.2.1,Ti r.2.2.2],[])) (rs:=[.w 4 4]) (vs:=[.cell 4 120]) Tryz.func204 rfl rfl (.cons ⟨rfl,zFE⟩ FitsL.nil) h
def zEA (vm1:τM) (vn2:τM):=fC zJH (zY vm1 vn2) fun _=>zJw
theorem zSO:CfW Tryz.prog 200:=cfW Tryz.func200
noncomputable def zTL (f1:τF):T Tryz.prog ((τF×τM)):=
 .op1 (zSk) fun y2=>
 .loop (fun n X_1=>zBL n X_1.1 X_1.2.1 X_1.2.2.1 X_1.2.2.2.1 X_1.2.2.2.2.1 X_1.2.2.2.2.2.1 X_1.2.2.2.2.2.2) ((y2.1,y2.2.1,y2.2.2.1,y2.2.2.2,f1.1,f1.2.1,f1.2.2)) (mb 20 30) [32,24,16,8] (fun s X_1 γ=>s.pc (mb 20 30) [32,24,16,8] [] [(32,.box [Ti X_1.1,Ti X_1.2.1,Ti X_1.2.2.1,Ti X_1.2.2.2.1]),(8,.box [Ti X_1.2.2.2.2.1,Ti X_1.2.2.2.2.2.1,Ti X_1.2.2.2.2.2.2])]) (fun X_1=>
 .op1 (zDR ((X_1.2.2.2.2.1,X_1.2.2.2.2.2.1,X_1.2.2.2.2.2.2))) fun y12=>
 .cond (!y12) (.op1 (zO4 ((X_1.2.2.2.2.1,X_1.2.2.2.2.2.1,X_1.2.2.2.2.2.2))) fun y14=>
 .op1 (zDF ((X_1.2.2.2.2.1,X_1.2.2.2.2.2.1,X_1.2.2.2.2.2.2)) y14) fun y15=>
 .op1 (zEA ((X_1.1,X_1.2.1,X_1.2.2.1,X_1.2.2.2.1)) y14) fun y16=>
 .ret (.inl ((y16.1,y16.2.1,y16.2.2.1,y16.2.2.2,y15.1,y15.2.1,y15.2.2))))<|.ret (.inr ((X_1.1,X_1.2.1,X_1.2.2.1,X_1.2.2.2.1,X_1.2.2.2.2.1,X_1.2.2.2.2.2.1,X_1.2.2.2.2.2.2)))) (mb 20 30) [32,24,16,8] (fun s o11 γ=>s.pc (mb 20 30) [32,24,16,8] [] [(32,.box [Ti o11.1,Ti o11.2.1,Ti o11.2.2.1,Ti o11.2.2.2.1]),(8,.box [Ti o11.2.2.2.2.1,Ti o11.2.2.2.2.2.1,Ti o11.2.2.2.2.2.2])]) fun o11=>
 .draw 3 [(2,16)]<|
 .ret ((o11.2.2.2.2,(o11.1,o11.2.1,o11.2.2.1,o11.2.2.2.1)))
theorem zT8 {f1:τF} {r:(τF×τM)} (h:qX f1=some r):zD Tryz.prog 200 [.ag [Ti f1.1,Ti f1.2.1,Ti f1.2.2]] (.tc (.ag [Ti r.1.1,Ti r.1.2.1,Ti r.1.2.2]) (.tc (.ag [Ti r.2.1,Ti r.2.2.1,Ti r.2.2.2.1,Ti r.2.2.2.2]) .tn)) []:=CtT (zTL f1) (fun r=>(.tc (.ag [Ti r.1.1,Ti r.1.2.1,Ti r.1.2.2]) (.tc (.ag [Ti r.2.1,Ti r.2.2.1,Ti r.2.2.2.1,Ti r.2.2.2.2]) .tn),[])) (rs:=[.w 2 3,.w 3 4]) (vs:=[.cell 2 42,.cell 3 120]) Tryz.func200 rfl rfl (.cons ⟨rfl,wd42⟩ (.cons ⟨rfl,zFE⟩ FitsL.nil)) h
def zFT (f1:τF):=fC zSO (qX f1) fun _=>zT8
theorem zIG:CfW Tryz.prog 161:=cfW Tryz.func161
noncomputable def zQf (f1:τF):T Tryz.prog (τF):=
 .op1 (zFT f1) fun y2=>
 .ret y2.1
theorem zId {f1:τF} {r:τF} (h:zZ f1=some r):zD Tryz.prog 161 [.ag [Ti f1.1,Ti f1.2.1,Ti f1.2.2]] (.ag [Ti r.1,Ti r.2.1,Ti r.2.2]) []:=CtT (zQf f1) (fun r=>(.ag [Ti r.1,Ti r.2.1,Ti r.2.2],[])) (rs:=[.w 2 3]) (vs:=[.cell 2 42]) Tryz.func161 rfl rfl (.cons ⟨rfl,wd42⟩ FitsL.nil) h
def zAU (f1:τF):=fC zIG (zZ f1) fun _=>zId
theorem zM8:CfW Tryz.prog 117:=cfW Tryz.func117
noncomputable def zNM (vs1:τI) (name2:Int) (f3:τF):T Tryz.prog ((Bool×τI)):=
 .pl<|.dn<|.joinC (.n0 au<|.op0 (ixA 26 vs1.2 name2) fun e4=>.op0 (ldA ct42 26 vs1.2 name2 1) fun e5=>.n0 (bld pl42 bt42)<|.n0 (eqg3 zUa)<|.seqT (.cond (((e5.1==0)&&((e5.2.1==0)&&(e5.2.2==0)))) (.opx (zG6 vs1) fun y7=>.ret (eqI ((y7.size:Int)) 8)) (.ret false)) fun b8=>.ret (e4,e5,b8)) (mb 28 1048611) [40,80000] (fun s q_1 γ=>s.pc (mb 28 1048611) [40,80000] [(20,Bo q_1.2.2)] []) fun q_1=>
 .cond q_1.2.2 (
 .ret ((false,vs1)))<|.draw 7 []<|.op1 (zAU f3) fun y10=>.n0 au<|.op0 (ixA 26 vs1.2 name2) fun e11=>.opx (stA ct42 26 vs1.2 name2 1 y10) fun g12=>
 .ret ((true,(vs1.1,g12)))
theorem zN4 {vs1:τI} {name2:Int} {f3:τF} {rest:List Tr} {r:(Bool×τI)} (h:zAZ vs1 name2 f3=some r):zIH Tryz.prog 117 [.pt 80000 0,I name2,.ag [Ti f3.1,Ti f3.2.1,Ti f3.2.2]] [(80000,.box ((Ti vs1.1::q78 (vs1.2) [])++rest))] (Bo r.1) [] [(80000,.box ((Ti r.2.1::q78 (r.2.2) [])++rest))]:=CrT (zNM vs1 name2 f3) (fun r=>(Bo r.1,[])) (fun r=>[(80000,.box ((Ti r.2.1::q78 (r.2.2) [])++rest))]) (rs:=[.t 6]) (vs:=[.tmp 6]) Tryz.func117 rfl rfl (.cons rfl FitsL.nil) h
def zDt (vs1:τI) (name2:Int) (f3:τF):=fRt zM8 (zAZ vs1 name2 f3) 80000 79 (fun rest _ h=>zN4 (rest:=rest) h)
theorem zPj:CfW Tryz.prog 235:=cfW Tryz.func235
noncomputable def zQj (vn1:Int):T Tryz.prog Bool:=
 .cond (ltI vn1 2) (
 .ret false)<|
 .loopS (fun n X_1=>zBN vn1 n X_1) 2 (mb 17 9) [] (fun s X_1 γ=>s.pc (mb 17 9) [] [(3,I X_1)] []) (fun X_1=>
 .cond (leI (w64 (X_1*X_1)) vn1) (.op0 (remF .i64 vn1 X_1) fun z7=>
 .cond (eqI (Int.tmod vn1 X_1) 0) (
 .ret (.early false))<|
 .frc (w64 (X_1+1)) fun p9=>.ret (.again p9))<|.ret (.done (()))) (mb 17 0) [] (fun s o5 γ=>s.pc (mb 17 0) [] [] []) (fun r=>r) fun o5=>
 .ret true
theorem zRP {vn1:Int} {r:Bool} (h:zBO vn1=some r):zD Tryz.prog 235 [I vn1] (Bo r) []:=CtU (zQj vn1) 2 (fun r=>Bo r) Tryz.func235 rfl rfl h
def zSn (vn1:Int):=fC zPj (zBO vn1) fun _=>zRP
theorem zJG:CfW Tryz.prog 201:=cfW Tryz.func201
noncomputable def zJl (p1:Int):T Tryz.prog Bool:=
 .pl<|.joinC (.seqT (.cond (leI p1 10000) (.op1 (zSn p1) fun y3=>.ret y3) (.ret false)) fun b4=>.ret b4) (mb 9 4) [] (fun s q_1 γ=>s.pc (mb 9 4) [] [(2,Bo q_1)] []) fun q_1=>
 .ret q_1
theorem zJv {p1:Int} {r:Bool} (h:zCk p1=some r):zD Tryz.prog 201 [I p1] (Bo r) []:=CtU (zJl p1) 2 (fun r=>Bo r) Tryz.func201 rfl rfl h
def zKO (p1:Int):=fC zJG (zCk p1) fun _=>zJv
theorem zMb:CfW Tryz.prog 202:=cfW Tryz.func202
noncomputable def zNP (d1:Int) (p2:Int):T Tryz.prog ((τF×Bool)):=
 .loopS (fun n X_1=>zBy d1 p2 n X_1) 0 (mb 38 83) [32] (fun s X_1 γ=>s.pc (mb 38 83) [32] [(6,I X_1)] []) (fun X_1=>
 .cond (leI X_1 p2) (.op0 (remF .i64 (w64 ((w64 (X_1*X_1)) - d1)) (w64 (4*p2))) fun z7=>
 .cond (eqI (Int.tmod (w64 ((w64 (X_1*X_1)) - d1)) (w64 (4*p2))) 0) (.op0 (quoF .i64 (w64 ((w64 (X_1*X_1)) - d1)) (w64 (4*p2))) fun z9=>.n0 (bld pl42 bt42)<|
 .frc (w64 (Int.tdiv (w64 ((w64 (X_1*X_1)) - d1)) (w64 (4*p2)))) fun f10=>.draw 5 [(4,32)]<|.op1 (zEB ((p2,X_1,f10))) fun y11=>
 .ret (.early (((p2,X_1,f10),eqI y11 1))))<|
 .frc (w64 (X_1+1)) fun b12=>.ret (.again b12))<|.ret (.done (()))) (mb 38 16) [32] (fun s o5 γ=>s.pc (mb 38 16) [32] [] []) (fun r=>r) fun o5=>
 .n0 (bld pl42 bt42)<|
 .ret (((0,0,0),false))
theorem zN7 {d1:Int} {p2:Int} {r:(τF×Bool)} (h:zDl d1 p2=some r):zD Tryz.prog 202 [I d1,I p2] (.tc (.ag [Ti r.1.1,Ti r.1.2.1,Ti r.1.2.2]) (.tc (Bo r.2) .tn)) []:=CtT (zNP d1 p2) (fun r=>(.tc (.ag [Ti r.1.1,Ti r.1.2.1,Ti r.1.2.2]) (.tc (Bo r.2) .tn),[])) (rs:=[.w 4 3,.t 5]) (vs:=[.cell 4 42,.tmp 5]) Tryz.func202 rfl rfl (.cons ⟨rfl,wd42⟩ (.cons rfl FitsL.nil)) h
def zO1 (d1:Int) (p2:Int):=fC zMb (zDl d1 p2) fun _=>zN7
theorem zMe:CfW Tryz.prog 162:=cfW Tryz.func162
noncomputable def zNR (d1:Int) (p2:Int):T Tryz.prog ((τF×Bool)):=
 .pl<|.dn<|.joinC (.op1 (zFG d1) fun y3=>.seqT (.cond (!y3) (.ret true) (.op1 (zKO p2) fun y5=>.ret (!y5))) fun b6=>.ret (y3,b6)) (mb 27 32787) [32] (fun s q_1 γ=>s.pc (mb 27 32787) [32] [(15,Bo q_1.2)] []) fun q_1=>
 .cond q_1.2 (.n0 (bld pl42 bt42)<|
 .ret (((0,0,0),false)))<|.op1 (zO1 d1 p2) fun y8=>
 .cond (!y8.2) (.n0 (bld pl42 bt42)<|
 .ret (((0,0,0),false)))<|
 .ret ((y8.1,true))
theorem zNa {d1:Int} {p2:Int} {r:(τF×Bool)} (h:zDn d1 p2=some r):zD Tryz.prog 162 [I d1,I p2] (.tc (.ag [Ti r.1.1,Ti r.1.2.1,Ti r.1.2.2]) (.tc (Bo r.2) .tn)) []:=CtT (zNR d1 p2) (fun r=>(.tc (.ag [Ti r.1.1,Ti r.1.2.1,Ti r.1.2.2]) (.tc (Bo r.2) .tn),[])) (rs:=[.w 4 3,.t 5]) (vs:=[.cell 4 42,.tmp 5]) Tryz.func162 rfl rfl (.cons ⟨rfl,wd42⟩ (.cons rfl FitsL.nil)) h
def zO3 (d1:Int) (p2:Int):=fC zMe (zDn d1 p2) fun _=>zNa
theorem zLT:CfW Tryz.prog 118:=cfW Tryz.func118
noncomputable def zLn (d1:Int) (p2:Int):T Tryz.prog ((τF×Bool)):=
 .op1 (zO3 d1 p2) fun y3=>
 .cond (!y3.2) (.n0 (bld pl42 bt42)<|
 .ret (((0,0,0),false)))<|.op1 (zAU y3.1) fun y5=>
 .ret ((y5,true))
theorem zMI {d1:Int} {p2:Int} {r:(τF×Bool)} (h:zCa d1 p2=some r):zD Tryz.prog 118 [I d1,I p2] (.tc (.ag [Ti r.1.1,Ti r.1.2.1,Ti r.1.2.2]) (.tc (Bo r.2) .tn)) []:=CtT (zLn d1 p2) (fun r=>(.tc (.ag [Ti r.1.1,Ti r.1.2.1,Ti r.1.2.2]) (.tc (Bo r.2) .tn),[])) (rs:=[.w 4 3,.t 5]) (vs:=[.cell 4 42,.tmp 5]) Tryz.func118 rfl rfl (.cons ⟨rfl,wd42⟩ (.cons rfl FitsL.nil)) h
def zMx (d1:Int) (p2:Int):=fC zLT (zCa d1 p2) fun _=>zMI
theorem zLQ:CfW Tryz.prog 170:=cfW Tryz.func170
noncomputable def zLj (g1:τF) (a2:Int):T Tryz.prog ((Int×Int)):=
 .loopS (fun n X_4=>zAQ a2 g1 n X_4) 0 (mb 43 70) [16] (fun s X_4 γ=>s.pc (mb 43 70) [16] [(6,I X_4)] []) (fun X_4=>
 .loopS (fun n X_3=>zBf a2 g1 X_4 n X_3) 0 (mb 43 198) [16] (fun s X_3 γ=>s.pc (mb 43 198) [16] [(7,I X_3)] []) (fun X_3=>
 .cond (leI X_3 X_4) (
 .loopS (fun n X_2=>zBV a2 g1 X_4 X_3 n X_2) 0 (mb 43 454) [16] (fun s X_2 γ=>s.pc (mb 43 454) [16] [(8,I X_2)] []) (fun X_2=>
 .cond (leI X_2 X_4) (.pl<|.dn<|.joinC (.n0 au<|.seqT (.cond (eqI (mxI X_3 X_2) X_4) (.op1 (zIB X_3 X_2) fun y15=>.ret (eqI y15 1)) (.ret false)) fun b16=>.seqT (.cond b16 (.op1 (zFD g1 X_3 X_2) fun y18=>.op1 (zIB y18 a2) fun y19=>.ret (eqI y19 1)) (.ret false)) fun b20=>.ret (b16,b20)) (mb 43 1099511628230) [16] (fun s q_1 γ=>s.pc (mb 43 1099511628230) [16] [(40,Bo q_1.2)] []) fun q_1=>
 .cond q_1.2 (
 .ret (.early ((X_3,X_2))))<|
 .frc (w64 (X_2+1)) fun y22=>.ret (.again y22))<|.ret (.done (()))) (mb 43 198) [16] (fun s o12 γ=>s.pc (mb 43 198) [16] [] []) (.early) fun o12=>
 .frc (w64 (X_3+1)) fun x23=>.ret (.again x23))<|.ret (.done (()))) (mb 43 70) [16] (fun s o8 γ=>s.pc (mb 43 70) [16] [] []) (.early) fun o8=>
 .frc (w64 (X_4+1)) fun size24=>.ret (.again size24)) [] [] (fun _ _ _=>⟨[],[]⟩) (fun r=>r) fun _=>.fail
theorem zMF {g1:τF} {a2:Int} {r:(Int×Int)} (h:zBn g1 a2=some r):zD Tryz.prog 170 [.ag [Ti g1.1,Ti g1.2.1,Ti g1.2.2],I a2] (.tc (I r.1) (.tc (I r.2) .tn)) []:=CtT (zLj g1 a2) (fun r=>(.tc (I r.1) (.tc (I r.2) .tn),[])) (rs:=[.t 4,.t 5]) (vs:=[.tmp 4,.tmp 5]) Tryz.func170 rfl rfl (.cons rfl (.cons rfl FitsL.nil)) h
def zGq (g1:τF) (a2:Int):=fC zLQ (zBn g1 a2) fun _=>zMF
theorem zPk:CfW Tryz.prog 236:=cfW Tryz.func236
noncomputable def zQk (a1:Int) (vm2:Int):T Tryz.prog Int:=
 .op1 (zCX a1 vm2) fun y3=>
 .loop (fun n X_1=>zEm vm2 n X_1.1 X_1.2.1 X_1.2.2.1 X_1.2.2.2) ((1,0,y3,vm2)) (mb 34 482) [] (fun s X_1 γ=>s.pc (mb 34 482) [] [(5,I X_1.1),(6,I X_1.2.1),(7,I X_1.2.2.1),(8,I X_1.2.2.2)] []) (fun X_1=>
 .cond (!eqI X_1.2.2.2 0) (.op0 (quoF .i64 X_1.2.2.1 X_1.2.2.2) fun z11=>
 .frc (w64 (Int.tdiv X_1.2.2.1 X_1.2.2.2)) fun q12=>
 .frc (w64 (X_1.2.2.1 - (w64 (q12*X_1.2.2.2)))) fun vs13=>
 .frc (w64 (X_1.1 - (w64 (q12*X_1.2.1)))) fun y14=>.ret (.inl ((X_1.2.1,y14,X_1.2.2.2,vs13))))<|.ret (.inr X_1.1)) (mb 34 34) [] (fun s o9 γ=>s.pc (mb 34 34) [] [(5,I o9)] []) fun o9=>
 .op1 (zCX o9 vm2) fun y15=>
 .ret y15
theorem zRQ {a1:Int} {vm2:Int} {r:Int} (h:zD9 a1 vm2=some r):zD Tryz.prog 236 [I a1,I vm2] (I r) []:=CtU (zQk a1 vm2) 4 (fun r=>I r) Tryz.func236 rfl rfl h
def zSo (a1:Int) (vm2:Int):=fC zPk (zD9 a1 vm2) fun _=>zRQ
theorem zIV:CfW Tryz.prog 203:=cfW Tryz.func203
noncomputable def zI3 (f1:τF) (x2:Int) (y3:Int):T Tryz.prog ((τF×τM)):=
 .n0 (bld zDV zDe)<|
 .join (
 .cond (eqI y3 0) (
 .ret (0,x2))<|.op1 (zSr y3) fun y6=>.op1 (zSo x2 y6) fun y7=>
 .op0 (quoF .i64 (w64 ((w64 (x2*y7)) - 1)) y3) fun z8=>
 .frc (w64 (Int.tdiv (w64 ((w64 (x2*y7)) - 1)) y3)) fun f9=>.ret (f9,y7)) (mb 59 462) [64,56,48,24] (fun s j4 γ=>s.pc (mb 59 462) [64,56,48,24] [] [(64,.box [Ti x2,Ti j4.1,Ti y3,Ti j4.2])]) fun j4=>
 .op1 (zDF f1 ((x2,j4.1,y3,j4.2))) fun y10=>
 .op1 (zII y10.2.1 (w64 (2*y10.1))) fun y11=>
 .frc (w64 (0 - y11)) fun t12=>
 .frc (w64 (j4.1+(w64 (t12*x2)))) fun f13=>
 .frc (w64 (j4.2+(w64 (t12*y3)))) fun f14=>.draw 5 [(4,48)]<|.op1 (zDF f1 ((x2,f13,y3,f14))) fun y15=>
 .ret ((y15,(x2,f13,y3,f14)))
theorem zIh {f1:τF} {x2:Int} {y3:Int} {r:(τF×τM)} (h:zAz f1 x2 y3=some r):zD Tryz.prog 203 [.ag [Ti f1.1,Ti f1.2.1,Ti f1.2.2],I x2,I y3] (.tc (.ag [Ti r.1.1,Ti r.1.2.1,Ti r.1.2.2]) (.tc (.ag [Ti r.2.1,Ti r.2.2.1,Ti r.2.2.2.1,Ti r.2.2.2.2]) .tn)) []:=CtT (zI3 f1 x2 y3) (fun r=>(.tc (.ag [Ti r.1.1,Ti r.1.2.1,Ti r.1.2.2]) (.tc (.ag [Ti r.2.1,Ti r.2.2.1,Ti r.2.2.2.1,Ti r.2.2.2.2]) .tn),[])) (rs:=[.w 6 3,.w 7 4]) (vs:=[.cell 6 42,.cell 7 120]) Tryz.func203 rfl rfl (.cons ⟨rfl,wd42⟩ (.cons ⟨rfl,zFE⟩ FitsL.nil)) h
def zJV (f1:τF) (x2:Int) (y3:Int):=fC zIV (zAz f1 x2 y3) fun _=>zIh
theorem zTz:CfW Tryz.prog 163:=cfW Tryz.func163
noncomputable def zVR (f1:τF) (g2:τF):T Tryz.prog ((Int×Int×Int×Int×τM×τM)):=
 .op1 (zGq g2 f1.1) fun y3=>
 .op1 (zJV g2 y3.1 y3.2) fun y4=>
 .draw 12 []<|.op1 (zCX f1.2.1 (w64 (2*f1.1))) fun y5=>.n0 (bld z5b bt159)<|
 .loop (fun n X_1=>zDI f1 y4 n X_1) y5 (mb 103 916) [72,64,56,32,16] (fun s X_1 γ=>s.pc (mb 103 916) [72,64,56,32,16] [] [(72,.box [Ti f1.1,Ti y4.1.1,Ti X_1,Ti 0,Ti 0,Ti 0,Ti 0,Ti 0,Ti 0,Ti 0,Ti 0,Ti 0])]) (fun X_1=>
 .op1 (zCX (w64 (X_1 - y4.1.2.1)) (w64 (2*y4.1.1))) fun y9=>
 .cond (!eqI y9 0) (
 .frc (w64 (X_1+(w64 (2*f1.1)))) fun f11=>.ret (.inl f11))<|.ret (.inr X_1)) (mb 103 916) [72,64,56,32,16] (fun s o8 γ=>s.pc (mb 103 916) [72,64,56,32,16] [] [(72,.box [Ti f1.1,Ti y4.1.1,Ti o8,Ti 0,Ti 0,Ti 0,Ti 0,Ti 0,Ti 0,Ti 0,Ti 0,Ti 0])]) fun o8=>
 .op1 (zCX o8 (w64 ((w64 (2*f1.1))*y4.1.1))) fun y12=>
 .draw 16 []<|.op1 (zBE f1) fun y13=>.op0 (quoF .i64 (w64 ((w64 (y12*y12)) - y13)) (w64 ((w64 (4*f1.1))*y4.1.1))) fun z14=>
 .frc (w64 (Int.tdiv (w64 ((w64 (y12*y12)) - y13)) (w64 ((w64 (4*f1.1))*y4.1.1)))) fun f15=>.op0 (quoF .i64 (w64 (y12 - f1.2.1)) (w64 (2*f1.1))) fun z16=>.n0 (bld zDV zDe)<|
 .frc (w64 (Int.tdiv (w64 (y12 - f1.2.1)) (w64 (2*f1.1)))) fun f17=>.draw 13 []<|.op0 (quoF .i64 (w64 (y12 - y4.1.2.1)) (w64 (2*y4.1.1))) fun z18=>.n0 (bld zDV zDe)<|.op1 (zEA y4.2 ((1,w64 (Int.tdiv (w64 (y12 - y4.1.2.1)) (w64 (2*y4.1.1))),0,1))) fun y19=>
 .ret ((f1.1,y4.1.1,y12,f15,(1,f17,0,1),y19))
theorem zVh {f1:τF} {g2:τF} {r:(Int×Int×Int×Int×τM×τM)} (h:zCv f1 g2=some r):zD Tryz.prog 163 [.ag [Ti f1.1,Ti f1.2.1,Ti f1.2.2],.ag [Ti g2.1,Ti g2.2.1,Ti g2.2.2]] (.ag [Ti r.1,Ti r.2.1,Ti r.2.2.1,Ti r.2.2.2.1,Ti r.2.2.2.2.1.1,Ti r.2.2.2.2.1.2.1,Ti r.2.2.2.2.1.2.2.1,Ti r.2.2.2.2.1.2.2.2,Ti r.2.2.2.2.2.1,Ti r.2.2.2.2.2.2.1,Ti r.2.2.2.2.2.2.2.1,Ti r.2.2.2.2.2.2.2.2]) []:=CtT (zVR f1 g2) (fun r=>(.ag [Ti r.1,Ti r.2.1,Ti r.2.2.1,Ti r.2.2.2.1,Ti r.2.2.2.2.1.1,Ti r.2.2.2.2.1.2.1,Ti r.2.2.2.2.1.2.2.1,Ti r.2.2.2.2.1.2.2.2,Ti r.2.2.2.2.2.1,Ti r.2.2.2.2.2.2.1,Ti r.2.2.2.2.2.2.2.1,Ti r.2.2.2.2.2.2.2.2],[])) (rs:=[.w 4 12]) (vs:=[.cell 4 159]) Tryz.func163 rfl rfl (.cons ⟨rfl,wd159⟩ FitsL.nil) h
def zXA (f1:τF) (g2:τF):=fC zTz (zCv f1 g2) fun _=>zVh
theorem zHD:CfW Tryz.prog 164:=cfW Tryz.func164
noncomputable def zHH (u1:(Int×Int×Int×Int×τM×τM)):T Tryz.prog (τF):=
 .n0 (bld pl42 bt42)<|
 .frc (w64 (u1.1*u1.2.1)) fun f2=>.ret ((f2,u1.2.2.1,u1.2.2.2.1))
theorem zHK {u1:(Int×Int×Int×Int×τM×τM)} {r:τF} (h:zBk u1=some r):zD Tryz.prog 164 [.ag [Ti u1.1,Ti u1.2.1,Ti u1.2.2.1,Ti u1.2.2.2.1,Ti u1.2.2.2.2.1.1,Ti u1.2.2.2.2.1.2.1,Ti u1.2.2.2.2.1.2.2.1,Ti u1.2.2.2.2.1.2.2.2,Ti u1.2.2.2.2.2.1,Ti u1.2.2.2.2.2.2.1,Ti u1.2.2.2.2.2.2.2.1,Ti u1.2.2.2.2.2.2.2.2]] (.ag [Ti r.1,Ti r.2.1,Ti r.2.2]) []:=CtT (zHH u1) (fun r=>(.ag [Ti r.1,Ti r.2.1,Ti r.2.2],[])) (rs:=[.w 2 3]) (vs:=[.cell 2 42]) Tryz.func164 rfl rfl (.cons ⟨rfl,wd42⟩ FitsL.nil) h
def zH2 (u1:(Int×Int×Int×Int×τM×τM)):=fC zHD (zBk u1) fun _=>zHK
theorem zPn:CfW Tryz.prog 119:=cfW Tryz.func119
noncomputable def zQm (f1:τF) (g2:τF):T Tryz.prog (τF):=
 .draw 7 []<|.op1 (zAU f1) fun y3=>.op1 (zAU g2) fun y4=>.op1 (zXA y3 y4) fun y5=>.op1 (zH2 y5) fun y6=>.op1 (zAU y6) fun y7=>
 .ret y7
theorem zRT {f1:τF} {g2:τF} {r:τF} (h:jI f1 g2=some r):zD Tryz.prog 119 [.ag [Ti f1.1,Ti f1.2.1,Ti f1.2.2],.ag [Ti g2.1,Ti g2.2.1,Ti g2.2.2]] (.ag [Ti r.1,Ti r.2.1,Ti r.2.2]) []:=CtT (zQm f1 g2) (fun r=>(.ag [Ti r.1,Ti r.2.1,Ti r.2.2],[])) (rs:=[.w 4 3]) (vs:=[.cell 4 42]) Tryz.func119 rfl rfl (.cons ⟨rfl,wd42⟩ FitsL.nil) h
def zFC (f1:τF) (g2:τF):=fC zPn (jI f1 g2) fun _=>zRT
theorem zIU:CfW Tryz.prog 165:=cfW Tryz.func165
noncomputable def zI1 (f1:τF):T Tryz.prog (τF):=
 .n0 (bld pl42 bt42)<|
 .frc (w64 (0 - f1.2.1)) fun f2=>.ret ((f1.1,f2,f1.2.2))
theorem zIg {f1:τF} {r:τF} (h:zAy f1=some r):zD Tryz.prog 165 [.ag [Ti f1.1,Ti f1.2.1,Ti f1.2.2]] (.ag [Ti r.1,Ti r.2.1,Ti r.2.2]) []:=CtT (zI1 f1) (fun r=>(.ag [Ti r.1,Ti r.2.1,Ti r.2.2],[])) (rs:=[.w 2 3]) (vs:=[.cell 2 42]) Tryz.func165 rfl rfl (.cons ⟨rfl,wd42⟩ FitsL.nil) h
def zJT (f1:τF):=fC zIU (zAy f1) fun _=>zIg
theorem zIS:CfW Tryz.prog 166:=cfW Tryz.func166
noncomputable def zIZ (d1:Int):T Tryz.prog (τF):=
 .op1 (zCX d1 2) fun y2=>
 .n0 dvN<|.n0 (bld pl42 bt42)<|
 .frc (w64 (Int.tdiv (w64 (y2 - d1)) 4)) fun f3=>.ret ((1,y2,f3))
theorem zIe {d1:Int} {r:τF} (h:zAO d1=some r):zD Tryz.prog 166 [I d1] (.ag [Ti r.1,Ti r.2.1,Ti r.2.2]) []:=CtT (zIZ d1) (fun r=>(.ag [Ti r.1,Ti r.2.1,Ti r.2.2],[])) (rs:=[.w 2 3]) (vs:=[.cell 2 42]) Tryz.func166 rfl rfl (.cons ⟨rfl,wd42⟩ FitsL.nil) h
def zF9 (d1:Int):=fC zIS (zAO d1) fun _=>zIe
theorem zMc:CfW Tryz.prog 120:=cfW Tryz.func120
noncomputable def zNQ (f1:τF) (k2:Int):T Tryz.prog (τF):=
 .pl<|.join (
 .cond (ltI k2 0) (.op1 (zJT f1) fun y5=>
 .frc (w64 (0 - k2)) fun k6=>.ret (k6,y5.1,y5.2.1,y5.2.2))<|.ret (k2,f1.1,f1.2.1,f1.2.2)) (mb 32 22) [32,16] (fun s j3 γ=>s.pc (mb 32 22) [32,16] [(1,I j3.1)] [(16,.box [Ti j3.2.1,Ti j3.2.2.1,Ti j3.2.2.2])]) fun j3=>
 .op1 (zBE j3.2) fun y7=>.op1 (zF9 y7) fun y8=>.op1 (zAU y8) fun y9=>
 .op1 (zAU j3.2) fun y10=>
 .loop (fun n X_1=>zAw n X_1.1 X_1.2.1 X_1.2.2.1 X_1.2.2.2.1 X_1.2.2.2.2.1 X_1.2.2.2.2.2.1 X_1.2.2.2.2.2.2) ((j3.1,y9.1,y9.2.1,y9.2.2,y10.1,y10.2.1,y10.2.2)) (mb 32 54) [40,32,16] (fun s X_1 γ=>s.pc (mb 32 54) [40,32,16] [(1,I X_1.1)] [(40,.box [Ti X_1.2.1,Ti X_1.2.2.1,Ti X_1.2.2.2.1]),(16,.box [Ti X_1.2.2.2.2.1,Ti X_1.2.2.2.2.2.1,Ti X_1.2.2.2.2.2.2])]) (fun X_1=>
 .cond (ltI 0 X_1.1) (.pl<|.dn<|.join (.n0 dvN<|
 .cond (eqI (Int.tmod X_1.1 2) 1) (.op1 (zFC ((X_1.2.1,X_1.2.2.1,X_1.2.2.2.1)) ((X_1.2.2.2.2.1,X_1.2.2.2.2.2.1,X_1.2.2.2.2.2.2))) fun y23=>
 .ret (y23.1,y23.2.1,y23.2.2))<|.ret (X_1.2.1,X_1.2.2.1,X_1.2.2.2.1)) (mb 32 54) [40,32,16] (fun s j21 γ=>s.pc (mb 32 54) [40,32,16] [] [(40,.box [Ti j21.1,Ti j21.2.1,Ti j21.2.2])]) fun j21=>
 .op1 (zFC ((X_1.2.2.2.2.1,X_1.2.2.2.2.2.1,X_1.2.2.2.2.2.2)) ((X_1.2.2.2.2.1,X_1.2.2.2.2.2.1,X_1.2.2.2.2.2.2))) fun y24=>
 .n0 dvN<|
 .frc (w64 (Int.tdiv X_1.1 2)) fun k25=>.ret (.inl ((k25,j21.1,j21.2.1,j21.2.2,y24.1,y24.2.1,y24.2.2))))<|.ret (.inr ((X_1.2.1,X_1.2.2.1,X_1.2.2.2.1)))) (mb 32 48) [40,32] (fun s o19 γ=>s.pc (mb 32 48) [40,32] [] [(40,.box [Ti o19.1,Ti o19.2.1,Ti o19.2.2])]) fun o19=>
 .ret o19
theorem zN8 {f1:τF} {k2:Int} {r:τF} (h:zB4 f1 k2=some r):zD Tryz.prog 120 [.ag [Ti f1.1,Ti f1.2.1,Ti f1.2.2],I k2] (.ag [Ti r.1,Ti r.2.1,Ti r.2.2]) []:=CtT (zNQ f1 k2) (fun r=>(.ag [Ti r.1,Ti r.2.1,Ti r.2.2],[])) (rs:=[.w 4 3]) (vs:=[.cell 4 42]) Tryz.func120 rfl rfl (.cons ⟨rfl,wd42⟩ FitsL.nil) h
def zO2 (f1:τF) (k2:Int):=fC zMc (zB4 f1 k2) fun _=>zN8
theorem zJE:CfW Tryz.prog 81:=cfW Tryz.func81
noncomputable def zJj (vs1:τI) (l2:(ByteArray×(List Int)×τF×Int)) (forms3:List τF):T Tryz.prog ((Bool×Bool×τI)):=
 .cond (l2.1.toList==((⟨#[100,105,115,99]⟩:ByteArray)).toList) (.n0 (bld pl62 bt62)<|.n0 au<|
 .op1 (zFG l2.2.2.2) fun y5=>
 .ret ((y5,true,(l2.2.2.2,(fun _=>(0,0,0))))))<|
 .cond (l2.1.toList==((⟨#[115,101,116]⟩:ByteArray)).toList) (.join (.draw 21 []<|.op1 (zL4 l2.2.2.1) fun y7=>.cond y7 (.op1 (zBE l2.2.2.1) fun y8=>.n0 au<|.cond (eqI y8 vs1.1) (.op0 (idxM ct3 l2.2.1 0) fun e9=>.opx (zDt vs1 e9 l2.2.2.1) fun y10=>.ret ((y10.1,y10.2.1,y10.2.2))) (.ret ((false,vs1.1,vs1.2)))) (.ret ((false,vs1.1,vs1.2)))) (mb 109 192) [80000] (fun s j11 γ=>s.pc (mb 109 192) [80000] [(6,Bo j11.1),(7,Bo true)] [(80000,s.pbx 80000 ((Ti j11.2.1::q78 (j11.2.2) [])++zKQ s 80000 79))]) fun j11=>
 .ret ((j11.1,true,j11.2)))<|
 .lt (l2.1.toList==((⟨#[112,114,105,109,101]⟩:ByteArray)).toList) fun t12=>.cond t12 (.draw 12 [(11,64)]<|.n0 au<|.op1 (zMx vs1.1 l2.2.2.2) fun y14=>
 .join (.draw 8 []<|.cond y14.2 (.op0 (idxM ct3 l2.2.1 0) fun e15=>.opx (zDt vs1 e15 y14.1) fun y16=>.ret ((y16.1,y16.2.1,y16.2.2))) (.ret ((false,vs1.1,vs1.2)))) (mb 109 192) [80000] (fun s j17 γ=>s.pc (mb 109 192) [80000] [(6,Bo j17.1),(7,Bo true)] [(80000,s.pbx 80000 ((Ti j17.2.1::q78 (j17.2.2) [])++zKQ s 80000 79))]) fun j17=>
 .ret ((j17.1,true,j17.2)))<|
 .cond (l2.1.toList==((⟨#[109,117,108]⟩:ByteArray)).toList) (.draw 12 []<|.op0 (idxM ct3 l2.2.1 0) fun e19=>.op0 (idxM ct42 forms3 1) fun e20=>.op0 (idxM ct42 forms3 2) fun e21=>.op1 (zFC e20 e21) fun y22=>.opx (zDt vs1 e19 y22) fun y23=>
 .ret ((y23.1,true,y23.2)))<|
 .cond (l2.1.toList==((⟨#[112,111,119]⟩:ByteArray)).toList) (.draw 11 []<|.op0 (idxM ct3 l2.2.1 0) fun e25=>.op0 (idxM ct42 forms3 1) fun e26=>.op1 (zO2 e26 l2.2.2.2) fun y27=>.opx (zDt vs1 e25 y27) fun y28=>
 .ret ((y28.1,true,y28.2)))<|
 .lt (l2.1.toList==((⟨#[102,114,101,101]⟩:ByteArray)).toList) fun t29=>.cond t29 (.draw 9 []<|.op0 (idxM ct3 l2.2.1 0) fun e31=>.n0 (bld pl42 bt42)<|.n0 au<|.op0 (ixA 26 vs1.2 e31) fun e32=>.opx (stA ct42 26 vs1.2 e31 1 ((0,0,0))) fun g33=>
 .ret ((true,true,(vs1.1,g33))))<|
 .ret ((false,false,vs1))
theorem zJt {vs1:τI} {l2:(ByteArray×(List Int)×τF×Int)} {forms3:List τF} {rest:List Tr} {r:(Bool×Bool×τI)} (h:zH vs1 l2 forms3=some r):zIH Tryz.prog 81 [.pt 80000 0,.ag [.v (.string l2.1),.sl (l2.2.1.map c3),Ti l2.2.2.1.1,Ti l2.2.2.1.2.1,Ti l2.2.2.1.2.2,Ti l2.2.2.2],.c (.sl (forms3.map c42))] [(80000,.box ((Ti vs1.1::q78 (vs1.2) [])++rest))] (.tc (Bo r.1) (.tc (Bo r.2.1) .tn)) [] [(80000,.box ((Ti r.2.2.1::q78 (r.2.2.2) [])++rest))]:=CrT (zJj vs1 l2 forms3) (fun r=>(.tc (Bo r.1) (.tc (Bo r.2.1) .tn),[])) (fun r=>[(80000,.box ((Ti r.2.2.1::q78 (r.2.2.2) [])++rest))]) (rs:=[.t 6,.t 7]) (vs:=[.tmp 6,.tmp 7]) Tryz.func81 rfl rfl (.cons rfl (.cons rfl FitsL.nil)) h
def zKL (vs1:τI) (l2:(ByteArray×(List Int)×τF×Int)) (forms3:List τF):=fRt zJE (zH vs1 l2 forms3) 80000 79 (fun rest _ h=>zJt (rest:=rest) h)
theorem zLR:CfW Tryz.prog 239:=cfW Tryz.func239
noncomputable def zLl (d1:Int):T Tryz.prog (List τF):=
 .n1 (nilN 42 3 (by decide))<|
 .n1 bsl0<|
 .loop (fun n X_2=>zAx d1 n X_2.1 X_2.2) ((1,([]:List τF))) (mb 51 25) [56] (fun s X_2 γ=>s.pc (mb 51 25) [56] [(4,I X_2.1)] [(56,.arr 42 3 (X_2.2.map c42))]) (fun X_2=>
 .cond (leI (w64 ((w64 (3*X_2.1))*X_2.1)) (w64 (0 - d1))) (
 .frc (w64 (1 - X_2.1)) fun b7=>.loop (fun n X_1=>jN X_2.1 d1 n X_1.1 X_1.2) ((b7,X_2.2)) (mb 51 57) [56] (fun s X_1 γ=>s.pc (mb 51 57) [56] [(5,I X_1.1)] [(56,.arr 42 3 (X_1.2.map c42))]) (fun X_1=>
 .cond (leI X_1.1 X_2.1) (.op0 (remF .i64 (w64 ((w64 (X_1.1*X_1.1)) - d1)) (w64 (4*X_2.1))) fun z13=>
 .lt (!eqI (Int.tmod (w64 ((w64 (X_1.1*X_1.1)) - d1)) (w64 (4*X_2.1))) 0) fun t14=>.cond t14 (
 .frc (w64 (X_1.1+1)) fun b16=>.ret (.inl ((b16,X_1.2))))<|.op0 (quoF .i64 (w64 ((w64 (X_1.1*X_1.1)) - d1)) (w64 (4*X_2.1))) fun z17=>.n0 (bld pl42 bt42)<|
 .frc (w64 (Int.tdiv (w64 ((w64 (X_1.1*X_1.1)) - d1)) (w64 (4*X_2.1)))) fun f18=>.op1 (zDR ((X_2.1,X_1.1,f18))) fun y19=>
 .cond y19 (.n1 bsl<|.opx (app ct42 X_1.2 ([(X_2.1,X_1.1,f18)])) fun u21=>
 .frc (w64 (X_1.1+1)) fun b22=>.ret (.inl ((b22,X_1.2++([(X_2.1,X_1.1,f18)])))))<|
 .frc (w64 (X_1.1+1)) fun b23=>.ret (.inl ((b23,X_1.2))))<|.ret (.inr X_1.2)) (mb 51 25) [56] (fun s o11 γ=>s.pc (mb 51 25) [56] [] [(56,.arr 42 3 (o11.map c42))]) fun o11=>
 .frc (w64 (X_2.1+1)) fun a24=>.ret (.inl ((a24,o11))))<|.ret (.inr X_2.2)) (mb 51 8) [56] (fun s o5 γ=>s.pc (mb 51 8) [56] [] [(56,.arr 42 3 (o5.map c42))]) fun o5=>
 .ret o5
theorem zMG {d1:Int} {r:List τF} (h:zDT d1=some r):zD Tryz.prog 239 [I d1] (.ow 0) [(0,.arr 42 3 (r.map c42))]:=CtT (zLl d1) (fun r=>(.ow 0,[(0,.arr 42 3 (r.map c42))])) (rs:=[.t 2]) (vs:=[.tmp 2]) Tryz.func239 rfl rfl (.cons rfl FitsL.nil) h
def zMw (d1:Int):=fC zLR (zDT d1) fun _=>zMG
theorem zKG:CfW Tryz.prog 238:=cfW Tryz.func238
noncomputable def zKa (forms1:List τF):T Tryz.prog (List τF):=
 .n1 (nilN 42 3 (by decide))<|
 .n1 bsl0<|
 .n0 (lenM ct42 forms1)<|
 .loop (fun n X_1=>zAa forms1 n X_1.1 X_1.2) ((0,([]:List τF))) (mb 22 904) [48] (fun s X_1 γ=>s.pc (mb 22 904) [48] [(9,I X_1.1)] [(48,.arr 42 3 (X_1.2.map c42))]) (fun X_1=>
 .cond (ltI X_1.1 ((forms1.length:Int))) (.op0 (idxM ct42 forms1 X_1.1) fun e7=>
 .op1 (zEB e7) fun y8=>
 .cond (eqI y8 1) (.n1 bsl<|.opx (app ct42 X_1.2 ([e7])) fun u10=>
 .frc (w64 (X_1.1+1)) fun t11=>.ret (.inl ((t11,X_1.2++([e7])))))<|
 .frc (w64 (X_1.1+1)) fun t12=>.ret (.inl ((t12,X_1.2))))<|.ret (.inr X_1.2)) (mb 22 8) [48] (fun s o5 γ=>s.pc (mb 22 8) [48] [] [(48,.arr 42 3 (o5.map c42))]) fun o5=>
 .ret o5
theorem zKr {forms1:List τF} {r:List τF} (h:zCw forms1=some r):zD Tryz.prog 238 [.c (.sl (forms1.map c42))] (.ow 0) [(0,.arr 42 3 (r.map c42))]:=CtT (zKa forms1) (fun r=>(.ow 0,[(0,.arr 42 3 (r.map c42))])) (rs:=[.t 2]) (vs:=[.tmp 2]) Tryz.func238 rfl rfl (.cons rfl FitsL.nil) h
def zL2 (forms1:List τF):=fCs zKG (zCw forms1) (fun _=>zKr) fun _=>(zZI (fun _=>rfl) rfl)
theorem zJF:CfW Tryz.prog 205:=cfW Tryz.func205
noncomputable def zJk (d1:Int):T Tryz.prog (List τF):=
 .n1 (nilN 42 3 (by decide))<|
 .op1 (zMw d1) fun y2=>.op1 (zL2 y2) fun y3=>
 .ret y3
theorem zJu {d1:Int} {r:List τF} (h:zBx d1=some r):zD Tryz.prog 205 [I d1] (.ow 0) [(0,.arr 42 3 (r.map c42))]:=CtT (zJk d1) (fun r=>(.ow 0,[(0,.arr 42 3 (r.map c42))])) (rs:=[.t 2]) (vs:=[.tmp 2]) Tryz.func205 rfl rfl (.cons rfl FitsL.nil) h
theorem zPl:∀args w,(callFunc 167 args).run Tryz.prog w=.ok (.enter 167 args) w:=jE Tryz.func167 kk kk
set_option maxRecDepth 100000 in
set_option maxHeartbeats 400000 in
theorem zRR {d1:Int} {r:((List τF)×(List (τF×Int)))} (h:zEn d1=some r):zD Tryz.prog 167 [I d1] (.pe [.sl (r.1.map c42),.mp (r.2.map zEF)]) []:=by
  refine zAj (rs:=[.t 2]) (vs:=[.tmp 2]) Tryz.func167 rfl rfl (.cons rfl FitsL.nil) (by decide) 29 rfl ?_
  unfold zEn at h;show V _ _ ⟨I d1::bt 28 [],[]⟩ _;refine jA (mb 29 1) [] (s1:=⟨I d1::bt 28 [],[]⟩) ?_ ?_
  ·refine L0 rfl rfl (zF (.c (.v (.pointer none))) rfl kk) ?_
   refine zI ?_
   kernel_rfl
  obtain⟨y2,hy2,h⟩:=zV h;refine z0a (fun mb8=>⟨bt 3 (.pt 80 0::bt 25 []),[(80,.box [.sl (y2.map c42),.v (.map (some mb8))]),(64,.mp mb8 ((([]:List (τF×Int))).map zEF))]⟩) (mb 29 8) [80,64] ?_ ?_
  ·refine L0 rfl rfl (zJ (I d1) rfl kk) ?_
   refine L1 rfl rfl (zCD (zJu hy2) zJF rfl kk) ?_
   refine zYT rfl rfl rfl fun mb8=>?_
   refine zUs 56 (T:=42) (sz:=3) (els:=y2.map c42) (s1:=⟨I d1::bt 5 (I d1::.c (.sl (y2.map c42))::.c (.v (.map (some mb8)))::bt 20 []),[(64,.mp mb8 ((([]:List (τF×Int))).map zEF))]⟩) kk kk ?_
   refine L0 rfl rfl (zG5 (cs:=[.sl (y2.map c42),.v (.map (some mb8))]) z5a bt164 rfl rfl kk) ?_
   refine L1 rfl rfl (zSY (cs:=[.sl (y2.map c42),.v (.map (some mb8))]) rfl kk) ?_
   refine L0 rfl rfl (zF (.pt 80 0) rfl kk) ?_
   refine zI ?_
   exact⟨mb8,by kernel_rfl⟩
  intro mb8;refine zDK ?_
  refine jA (mb 29 114696) [80,64] (s1:=⟨bt 3 (.pt 80 0::bt 10 (.c (.sl (y2.map c42))::I ((y2.length:Int))::I 0::bt 12 [])),[(80,.box [.sl (y2.map c42),.v (.map (some mb8))]),(64,.mp mb8 ((([]:List (τF×Int))).map zEF))]⟩) ?_ ?_
  ·refine L0 rfl rfl (zJ (.pt 80 0) rfl kk) ?_
   refine L0 rfl rfl (z0f (.pt 80 0) rfl kk (by intro hh;cases hh)) ?_
   refine L0 rfl rfl (zAL (.pt 80 0) Tryz.underlying164 rfl sz22 rfl kk (by intro hh;cases hh)) ?_
   refine L0 rfl rfl (jT (c:=.sl (y2.map c42)) (cs:=[.v (.map (some mb8))]) sc22 rfl kk) ?_
   refine L0 rfl rfl (zMk (c:=c42) (xs:=y2) Tryz.underlying22 rfl kk) ?_
   refine L0 rfl rfl (zJ (I 0) rfl kk) ?_
   refine zI ?_
   kernel_rfl
  obtain⟨o6,hLo6,h⟩:=zV h;refine z5k (mb 29 8) [80,64] (s1:=⟨bt 3 (.pt 80 0::bt 25 []),[(80,.box [.sl (y2.map c42),.v (.map (some mb8))]),(64,.mp mb8 (o6.map zEF))]⟩) ?_ ?_
  ·clear h;refine zDs (zS3 (fun n s=>∃(t3:Int) (l4:List (τF×Int)),s.keep (mb 29 114696) [80,64]=(⟨bt 3 (.pt 80 0::bt 10 (.c (.sl (y2.map c42))::I ((y2.length:Int))::I t3::bt 12 [])),[(80,.box [.sl (y2.map c42),.v (.map (some mb8))]),(64,.mp mb8 (l4.map zEF))]⟩:St)∧zBP y2 n t3 l4=some o6) FU ⟨_,_,by rfl,hLo6⟩ ?_);clear hLo6;rintro n s ⟨t3,l4,hs,h⟩;refine zZ4 _ _ hs ?_
   clear hs;cases n with
   |zero=>cases h
   |succ n=>
    rw[zBP]at h;refine jA (mb 29 245768) [80,64] (s1:=⟨bt 3 (.pt 80 0::bt 10 (.c (.sl (y2.map c42))::I ((y2.length:Int))::I t3::Bo (ltI t3 ((y2.length:Int)))::bt 11 [])),[(80,.box [.sl (y2.map c42),.v (.map (some mb8))]),(64,.mp mb8 (l4.map zEF))]⟩) ?_ ?_
    ·refine L0 rfl rfl (zG4 (k:=.i64) (a:=t3) (b:=(y2.length:Int)) rfl kk kk) ?_
     refine zI ?_
     kernel_rfl
    refine zDK ?_
    refine zDQ rfl (fun hc7=>?_) (fun hc7=>?_)
    ·have h:=zCB h hc7;refine zEx ?_
     show V _ _ _ _;refine zDK ?_
     refine zDs ?_
     obtain⟨e8,he8,h⟩:=zV h;refine jA (mb 29 114744) [40,80,64] (s1:=⟨bt 3 (.pt 80 0::I t3::.pt 40 0::bt 8 (.c (.sl (y2.map c42))::I ((y2.length:Int))::I t3::bt 12 [])),[(40,.box [Ti e8.1,Ti e8.2.1,Ti e8.2.2]),(80,.box [.sl (y2.map c42),.v (.map (some mb8))]),(64,.mp mb8 (l4.map zEF))]⟩) ?_ ?_
     ·refine L0 rfl rfl (zJ (I t3) rfl kk) ?_
      refine L0 rfl rfl (zWk (c:=c42) (xs:=y2) (v:=e8) (n:=t3) Tryz.underlying22 sz42 rfl kk kk he8) ?_
      refine L0 rfl rfl (zGo (cs:=[Ti e8.1,Ti e8.2.1,Ti e8.2.2]) [Ti e8.1,Ti e8.2.1,Ti e8.2.2] wd42 rfl kk (Nat.le_of_ble_eq_true rfl) kk) ?_
      refine L1 rfl rfl (zMi (z:=zv42) rfl zf42 rfl) ?_
      refine L0 rfl rfl (zF (I t3) rfl kk) ?_
      refine zQ rfl (zEy (id:=40) (off:=0) (cs:=[Ti 0,Ti 0,Ti 0]) (vc:=[Ti e8.1,Ti e8.2.1,Ti e8.2.2]) [Ti e8.1,Ti e8.2.1,Ti e8.2.2] rfl rfl kk kk kk sz42 (Nat.le_of_ble_eq_true rfl) kk) ?_
      refine zI ?_
      kernel_rfl
     refine z4D [0,1,3,7,0,0,63] 6 [[.z,.z,.z,.z,.b,.b],[.a,.z,.z,.z,.b,.b],[.a,.a,.z,.z,.b,.b],[.a,.a,.a,.z,.b,.b],[.b,.b,.b,.b,.z,.b],[.b,.b,.b,.b,.b,.z]] (mb 29 114696) [80,64] (s1:=⟨bt 3 (.pt 80 0::bt 10 (.c (.sl (y2.map c42))::I ((y2.length:Int))::I t3::bt 12 [])),[(80,.box [.sl (y2.map c42),.v (.map (some mb8))]),(64,.mp mb8 ((mPut e8 t3 l4).map zEF))]⟩) kk kk ?_ ?_
     ·refine DE_0 0 (.pt 80 0) kk rfl rfl rfl (jC rfl) kk (zJ (.pt 80 0) rfl kk) 21 rfl ?_
      refine DE_0 1 (.pt 80 0) kk rfl rfl rfl (jC rfl) kk (z0f (.pt 80 0) rfl kk (by intro hh;cases hh)) 22 rfl ?_
      refine DE_0 2 (.pt 80 1) kk rfl rfl rfl (jC rfl) kk (zAL (.pt 80 1) Tryz.underlying164 rfl z54 rfl kk (by intro hh;cases hh)) 23 rfl ?_
      refine DE_0 3 (.c (.v (.map (some mb8)))) kk rfl rfl rfl (jC rfl) kk (jT (c:=.v (.map (some mb8))) (cs:=[]) z58 rfl kk) 24 rfl ?_
      refine DE_0 4 (.ag [Ti e8.1,Ti e8.2.1,Ti e8.2.2]) kk rfl rfl rfl (jC rfl) kk (zGo (cs:=[Ti e8.1,Ti e8.2.1,Ti e8.2.2]) [Ti e8.1,Ti e8.2.1,Ti e8.2.2] wd42 rfl kk (Nat.le_of_ble_eq_true rfl) kk) 25 rfl ?_
      refine DE_0 5 (I t3) kk rfl rfl rfl (jC rfl) kk (zJ (I t3) rfl kk) 26 rfl ?_
      refine zWp kk ?_
      refine zQ rfl (zEW (κ:=τF) (ν:=Int) (ek:=zUb) (ev:=z0S) (z:=0) (m:=l4) (a:=e8) (u:=t3) (id:=64) (b:=mb8) z5e (.inl rfl) rfl kk kk kk kk) ?_
      refine zI ?_
      kernel_rfl
     show V _ _ _ _;obtain⟨t9,ht9,h⟩:=zOb h;refine zYU (mb 29 114696) [80,64] (s1:=⟨bt 3 (.pt 80 0::bt 10 (.c (.sl (y2.map c42))::I ((y2.length:Int))::I t9::bt 12 [])),[(80,.box [.sl (y2.map c42),.v (.map (some mb8))]),(64,.mp mb8 ((mPut e8 t3 l4).map zEF))]⟩) ?_ ?_
     ·refine L0 rfl rfl (zEw (a:=t3) (b:=1) rfl kk kk) ?_
      refine L0 rfl rfl (zJ (I (w64 (t3+1))) rfl kk) ?_
      refine zI ?_
      subst ht9
      kernel_rfl
     exact⟨n,Nat.lt_succ_self n,_,_,by rfl,h⟩
    ·have h:=zBQ h hc7;refine zWn ?_
     obtain rfl:=zU h;show St.keep _ _ _=_;rfl
  show V _ _ _ _;refine jA (mb 29 4) [80,64] (s1:=⟨.bot::.bot::.pt 80 0::bt 26 [],[(80,.box [.sl (y2.map c42),.v (.map (some mb8))]),(64,.mp mb8 (o6.map zEF))]⟩) ?_ ?_
  ·refine L0 rfl rfl (zJ (.pt 80 0) rfl kk) ?_
   refine L0 rfl rfl (zF (.pt 80 0) rfl kk) ?_
   refine zI ?_
   kernel_rfl
  refine z1U 64 80 1 (b:=mb8) (kvs:=o6.map zEF) (cs:=[.sl (y2.map c42),.v (.map (some mb8))]) (s1:=⟨.bot::.bot::.pt 80 0::bt 26 [],[(80,.box [.sl (y2.map c42),.mp (o6.map zEF)])]⟩) kk kk kk kk ?_
  refine z1V 80 (cs:=[.sl (y2.map c42),.mp (o6.map zEF)]) (s1:=⟨.bot::.bot::.pe [.sl (y2.map c42),.mp (o6.map zEF)]::bt 26 [],[]⟩) kk kk ?_
  refine zE4 ?_
  obtain rfl:=zU h;show Post _ _ _ _ _;exact⟨.inr rfl,rfl,rfl,rfl⟩
theorem zLW:∀args w,(callFunc 122 args).run Tryz.prog w=.ok (.enter 122 args) w:=jE Tryz.func122 kk kk
set_option maxRecDepth 100000 in
set_option maxHeartbeats 400000 in
theorem zML {f1:τF} {r:(Int×Bool)} (h:zBo f1=some r):zD Tryz.prog 122 [.ag [Ti f1.1,Ti f1.2.1,Ti f1.2.2]] (.tc (I r.1) (.tc (Bo r.2) .tn)) []:=by
  refine zAj (rs:=[.t 2,.t 3]) (vs:=[.tmp 2,.tmp 3]) Tryz.func122 rfl rfl (.cons rfl (.cons rfl FitsL.nil)) (by decide) 16 rfl ?_
  unfold zBo at h;show V _ _ ⟨.ag [Ti f1.1,Ti f1.2.1,Ti f1.2.2]::bt 15 [],[]⟩ _;refine jA (mb 16 2) [8] (s1:=⟨.bot::.pt 8 0::bt 14 [],[(8,.box [Ti f1.1,Ti f1.2.1,Ti f1.2.2])]⟩) ?_ ?_
  ·refine L1 rfl rfl (zSY (cs:=[Ti f1.1,Ti f1.2.1,Ti f1.2.2]) rfl kk) ?_
   refine L0 rfl rfl (zF (I 0) rfl kk) ?_
   refine L0 rfl rfl (zF (Bo false) rfl kk) ?_
   refine zI ?_
   kernel_rfl
  refine zDK ?_
  obtain⟨y2,hy2,h⟩:=zV h;refine jA (mb 16 66) [8] (s1:=⟨.bot::.pt 8 0::bt 4 (Bo (!y2)::bt 9 []),[(8,.box [Ti f1.1,Ti f1.2.1,Ti f1.2.2])]⟩) ?_ ?_
  ·refine L0 rfl rfl (zGo (cs:=[Ti f1.1,Ti f1.2.1,Ti f1.2.2]) [Ti f1.1,Ti f1.2.1,Ti f1.2.2] wd42 rfl kk (Nat.le_of_ble_eq_true rfl) kk) ?_
   refine L1 rfl rfl (zCD (zGQ hy2) zFs rfl kk) ?_
   refine L0 rfl rfl (zOS (b:=y2) rfl kk) ?_
   refine zI ?_
   kernel_rfl
  refine zDQ rfl (fun hc3=>?_) (fun hc3=>?_)
  ·have h:=zCB h hc3;refine jA (mb 16 12) [] (s1:=⟨.bot::.bot::I 0::Bo false::bt 12 [],[]⟩) ?_ ?_
   ·refine L0 rfl rfl (zF (I 0) rfl kk) ?_
    refine L0 rfl rfl (zF (Bo false) rfl kk) ?_
    refine zI ?_
    kernel_rfl
   refine zE4 ?_
   obtain rfl:=zU h;show Post _ _ _ _ _;exact⟨.inr rfl,rfl,rfl,rfl⟩
  ·have h:=zBQ h hc3;refine zEx ?_
   show V _ _ _ _;obtain⟨y4,hy4,h⟩:=zV h;obtain⟨y5,hy5,h⟩:=zV h;obtain⟨y6,hy6,h⟩:=zV h;obtain⟨t7,ht7,h⟩:=zOb h;refine z0b [0,1,3,7,15,31,0,71,255,511,1023] 8 [[.z,.z,.z,.z,.z,.z,.b,.z],[.a,.z,.z,.z,.z,.z,.b,.z],[.a,.a,.z,.z,.z,.z,.b,.z],[.a,.a,.a,.z,.z,.z,.b,.b],[.a,.a,.a,.a,.z,.z,.b,.b],[.a,.a,.a,.a,.a,.z,.b,.b],[.b,.b,.b,.b,.b,.b,.z,.z],[.a,.a,.a,.b,.b,.b,.a,.z]] (mb 16 12) [] (s1:=⟨.bot::.bot::I t7::Bo true::bt 12 [],[]⟩) kk kk ?_ ?_
   ·refine DE_0 0 (.ag [Ti f1.1,Ti f1.2.1,Ti f1.2.2]) kk rfl rfl rfl (jC rfl) kk (zGo (cs:=[Ti f1.1,Ti f1.2.1,Ti f1.2.2]) [Ti f1.1,Ti f1.2.1,Ti f1.2.2] wd42 rfl kk (Nat.le_of_ble_eq_true rfl) kk) 7 rfl ?_
    refine DE_1 1 kk rfl rfl rfl (jC rfl) (zCD (zHL hy4) zGl rfl kk) rfl rfl rfl 8 rfl ?_
    refine DE_1 2 kk rfl rfl rfl (jC rfl) (zCD (zRR hy5) zPl rfl kk) rfl rfl rfl 9 rfl ?_
    refine DE_0 3 (.pe [.sl (y5.1.map c42),.mp (y5.2.map zEF)]) kk rfl rfl rfl (jC rfl) kk (z0f (.pe [.sl (y5.1.map c42),.mp (y5.2.map zEF)]) rfl kk (by intro hh;cases hh)) 10 rfl ?_
    refine DE_0 4 (.pe [.mp (y5.2.map zEF)]) kk rfl rfl rfl (jC rfl) kk (zAL (.pe [.mp (y5.2.map zEF)]) Tryz.underlying164 rfl z54 rfl kk (by intro hh;cases hh)) 11 rfl ?_
    refine DE_0 5 (.c (.mp (y5.2.map zEF))) kk rfl rfl rfl (jC rfl) kk (jT (c:=.mp (y5.2.map zEF)) (cs:=[]) z58 rfl kk) 12 rfl ?_
    refine DE_0 6 (.ag [Ti f1.1,Ti f1.2.1,Ti f1.2.2]) kk rfl rfl rfl (jC rfl) kk (zGo (cs:=[Ti f1.1,Ti f1.2.1,Ti f1.2.2]) [Ti f1.1,Ti f1.2.1,Ti f1.2.2] wd42 rfl kk (Nat.le_of_ble_eq_true rfl) kk) 13 rfl ?_
    refine DE_1 7 kk rfl rfl rfl (jC rfl) (zCD (zId hy6) zIG rfl kk) rfl rfl rfl 14 rfl ?_
    refine zWp kk ?_
    refine L0 rfl rfl (z3m (κ:=τF) (ν:=Int) (ek:=zUb) (ev:=z0S) (z:=0) (m:=y5.2) (a:=y6) z5e rfl kk kk) ?_
    refine L0 rfl rfl (zF (I (mAt y6 y5.2 0)) rfl kk) ?_
    refine L0 rfl rfl (zF (Bo true) rfl kk) ?_
    refine zI ?_
    subst ht7
    kernel_rfl
   refine zE4 ?_
   obtain rfl:=zU h;show Post _ _ _ _ _;exact⟨.inr rfl,rfl,rfl,rfl⟩
def zNA (f1:τF):=fC zLW (zBo f1) fun _=>zML
theorem zLN:CfW Tryz.prog 169:=cfW Tryz.func169
noncomputable def zLh (f1:τF):T Tryz.prog Bool:=
 .draw 8 []<|.op1 (zAU f1) fun y2=>.op1 (zBE f1) fun y3=>.op1 (zF9 y3) fun y4=>.op1 (zAU y4) fun y5=>.n0 (eqg3 zUa)<|
 .lt (((y2.1==y5.1)&&((y2.2.1==y5.2.1)&&(y2.2.2==y5.2.2)))) fun t6=>.ret t6
theorem zMC {f1:τF} {r:Bool} (h:zBm f1=some r):zD Tryz.prog 169 [.ag [Ti f1.1,Ti f1.2.1,Ti f1.2.2]] (Bo r) []:=CtU (zLh f1) 2 (fun r=>Bo r) Tryz.func169 rfl rfl h
def zMu (f1:τF):=fC zLN (zBm f1) fun _=>zMC
theorem zPg:CfW Tryz.prog 124:=cfW Tryz.func124
noncomputable def zQg (f1:τF):T Tryz.prog Int:=
 .op1 (zAU f1) fun y2=>
 .loop (fun n X_1=>zBl f1 n X_1.1 X_1.2.1 X_1.2.2.1 X_1.2.2.2) ((1,y2.1,y2.2.1,y2.2.2)) (mb 17 26) [32,8] (fun s X_1 γ=>s.pc (mb 17 26) [32,8] [(3,I X_1.1)] [(32,.box [Ti X_1.2.1,Ti X_1.2.2.1,Ti X_1.2.2.2])]) (fun X_1=>
 .op1 (zMu ((X_1.2.1,X_1.2.2.1,X_1.2.2.2))) fun y9=>
 .cond (!y9) (
 .frc (w64 (X_1.1+1)) fun k11=>
 .op1 (zFC ((X_1.2.1,X_1.2.2.1,X_1.2.2.2)) f1) fun y12=>
 .ret (.inl ((k11,y12.1,y12.2.1,y12.2.2))))<|.ret (.inr X_1.1)) (mb 17 8) [] (fun s o8 γ=>s.pc (mb 17 8) [] [(3,I o8)] []) fun o8=>
 .ret o8
theorem zRM {f1:τF} {r:Int} (h:zD7 f1=some r):zD Tryz.prog 124 [.ag [Ti f1.1,Ti f1.2.1,Ti f1.2.2]] (I r) []:=CtU (zQg f1) 2 (fun r=>I r) Tryz.func124 rfl rfl h
def zSj (f1:τF):=fC zPg (zD7 f1) fun _=>zRM
theorem zPm:CfW Tryz.prog 267:=cfW Tryz.func267
noncomputable def zQl (vn1:Int):T Tryz.prog (List Int):=
 .n1 (nilN 3 1 (by decide))<|
 .n1 bsl0<|
 .loop (fun n X_2=>zEo n X_2.1 X_2.2.1 X_2.2.2) ((vn1,2,([]:List Int))) (mb 31 25) [40] (fun s X_2 γ=>s.pc (mb 31 25) [40] [(0,I X_2.1),(4,I X_2.2.1)] [(40,.arr 3 1 (X_2.2.2.map c3))]) (fun X_2=>
 .cond (leI (w64 (X_2.2.1*X_2.2.1)) X_2.1) (.loop (fun n X_1=>zES X_2.2.1 n X_1.1 X_1.2) ((X_2.1,X_2.2.2)) (mb 31 25) [40] (fun s X_1 γ=>s.pc (mb 31 25) [40] [(0,I X_1.1)] [(40,.arr 3 1 (X_1.2.map c3))]) (fun X_1=>
 .op0 (remF .i64 X_1.1 X_2.2.1) fun z12=>
 .cond (eqI (Int.tmod X_1.1 X_2.2.1) 0) (.n1 bsl<|.opx (app ct3 X_1.2 ([X_2.2.1])) fun u14=>
 .op0 (quoF .i64 X_1.1 X_2.2.1) fun z15=>
 .frc (w64 (Int.tdiv X_1.1 X_2.2.1)) fun vn16=>.ret (.inl ((vn16,X_1.2++([X_2.2.1])))))<|.ret (.inr ((X_1.1,X_1.2)))) (mb 31 25) [40] (fun s o11 γ=>s.pc (mb 31 25) [40] [(0,I o11.1)] [(40,.arr 3 1 (o11.2.map c3))]) fun o11=>
 .frc (w64 (X_2.2.1+1)) fun p17=>.ret (.inl ((o11.1,p17,o11.2))))<|.ret (.inr ((X_2.1,X_2.2.2)))) (mb 31 9) [40] (fun s o6 γ=>s.pc (mb 31 9) [40] [(0,I o6.1)] [(40,.arr 3 1 (o6.2.map c3))]) fun o6=>
 .cond (ltI 1 o6.1) (.n1 bsl<|.opx (app ct3 o6.2 ([o6.1])) fun u19=>
 .ret (o6.2++([o6.1])))<|
 .ret o6.2
theorem zRS {vn1:Int} {r:List Int} (h:zGS vn1=some r):zD Tryz.prog 267 [I vn1] (.ow 0) [(0,.arr 3 1 (r.map c3))]:=CtT (zQl vn1) (fun r=>(.ow 0,[(0,.arr 3 1 (r.map c3))])) (rs:=[.t 2]) (vs:=[.tmp 2]) Tryz.func267 rfl rfl (.cons rfl FitsL.nil) h
def zSp (vn1:Int):=fC zPm (zGS vn1) fun _=>zRS
theorem zOH:CfW Tryz.prog 244:=cfW Tryz.func244
noncomputable def zPA (vn1:Int):T Tryz.prog (List Int):=
 .n1 (nilN 3 1 (by decide))<|
 .n1 bsl0<|
 .op1 (zSp vn1) fun y2=>.n0 (lenM ct3 y2)<|
 .loop (fun n X_2=>zCx y2 n X_2.1 X_2.2) ((0,([]:List Int))) (mb 33 1800) [64,48] (fun s X_2 γ=>s.pc (mb 33 1800) [64,48] [(10,I X_2.1)] [(48,.arr 3 1 (X_2.2.map c3))]) (fun X_2=>
 .cond (ltI X_2.1 ((y2.length:Int))) (.op0 (zBA ct3 y2 X_2.1) fun e8=>.op0 (ldo ct3 y2 X_2.1) fun e9=>
 .joinC (.n0 (lenM ct3 X_2.2)<|.seqT (.cond (eqI ((X_2.2.length:Int)) 0) (.ret true) (.n0 (lenM ct3 X_2.2)<|.op0 (zBA ct3 X_2.2 (w64 (((X_2.2.length:Int)) - 1))) fun e11=>.op0 (ldo ct3 X_2.2 (w64 (((X_2.2.length:Int)) - 1))) fun e12=>.ret (!eqI e12 e9))) fun b13=>.ret b13) (mb 33 67110696) [64,48] (fun s q_1 γ=>s.pc (mb 33 67110696) [64,48] [(26,Bo q_1)] []) fun q_1=>
 .cond q_1 (.n1 bsl<|.opx (app ct3 X_2.2 ([e9])) fun u15=>
 .frc (w64 (X_2.1+1)) fun t16=>.ret (.inl ((t16,X_2.2++([e9])))))<|
 .frc (w64 (X_2.1+1)) fun t17=>.ret (.inl ((t17,X_2.2))))<|.ret (.inr X_2.2)) (mb 33 8) [48] (fun s o6 γ=>s.pc (mb 33 8) [48] [] [(48,.arr 3 1 (o6.map c3))]) fun o6=>
 .ret o6
theorem zPS {vn1:Int} {r:List Int} (h:zFj vn1=some r):zD Tryz.prog 244 [I vn1] (.ow 0) [(0,.arr 3 1 (r.map c3))]:=CtT (zPA vn1) (fun r=>(.ow 0,[(0,.arr 3 1 (r.map c3))])) (rs:=[.t 2]) (vs:=[.tmp 2]) Tryz.func244 rfl rfl (.cons rfl FitsL.nil) h
def zQC (vn1:Int):=fC zOH (zFj vn1) fun _=>zPS
theorem zOM:CfW Tryz.prog 207:=cfW Tryz.func207
noncomputable def zPE (d1:Int):T Tryz.prog (List (Int×Int)):=
 .n1 (nilN 181 2 (by decide))<|
 .n1 bsl0<|
 .op1 (zQC (w64 (0 - d1))) fun y2=>.n0 (lenM ct3 y2)<|
 .loop (fun n X_1=>zCy d1 y2 n X_1.1 X_1.2) ((0,([]:List (Int×Int)))) (mb 67 57353) [104,80] (fun s X_1 γ=>s.pc (mb 67 57353) [104,80] [(15,I X_1.1)] [(80,.arr 181 2 (X_1.2.map c181))]) (fun X_1=>
 .cond (ltI X_1.1 ((y2.length:Int))) (.op0 (zBA ct3 y2 X_1.1) fun e8=>.op0 (ldo ct3 y2 X_1.1) fun e9=>
 .cond (ltI 2 e9) (.n0 (bld zIo zKV)<|.n1 bsl<|.opx (app zFr X_1.2 ([(1,e9)])) fun u11=>
 .frc (w64 (X_1.1+1)) fun t12=>.ret (.inl ((t12,X_1.2++([(1,e9)])))))<|
 .frc (w64 (X_1.1+1)) fun t13=>.ret (.inl ((t13,X_1.2))))<|.ret (.inr X_1.2)) (mb 67 9) [80] (fun s o6 γ=>s.pc (mb 67 9) [80] [] [(80,.arr 181 2 (o6.map c181))]) fun o6=>
 .n0 dvN<|
 .cond (!eqI (Int.tmod d1 2) 0) (
 .ret o6)<|.n0 (bld zIo zKV)<|.n0 (bld zIo zKV)<|.n0 (bld zIo zKV)<|
 .n0 dvN<|
 .frc (w64 (Int.tdiv (w64 (0 - d1)) 4)) fun vn15=>.n0 dvN<|
 .frc (Int.tmod vn15 8) fun t16=>.join (
 .cond (eqI t16 1) (.ret (eqI t16 1))<|
 .cond (eqI t16 5) (.ret (eqI t16 5))<|
 .ret (eqI t16 4)) (mb 67 824633721288) [64,56,48,80] (fun s j17 γ=>s.pc (mb 67 824633721288) [64,56,48,80] [(39,Bo j17)] []) fun j17=>
 .cond j17 (.n1 bsl<|.opx (app zFr o6 ([(2,0)])) fun u21=>
 .ret (o6++([(2,0)])))<|
 .cond (eqI t16 2) (.n1 bsl<|.opx (app zFr o6 ([(4,0)])) fun u23=>
 .ret (o6++([(4,0)])))<|
 .cond (eqI t16 6) (.n1 bsl<|.opx (app zFr o6 ([(3,0)])) fun u25=>
 .ret (o6++([(3,0)])))<|
 .cond (eqI t16 0) (.n1 bsl<|.opx (app zFr o6 ([(2,0),(3,0)])) fun u27=>
 .ret (o6++([(2,0),(3,0)])))<|
 .ret o6
theorem zPX {d1:Int} {r:List (Int×Int)} (h:zFk d1=some r):zD Tryz.prog 207 [I d1] (.ow 0) [(0,.arr 181 2 (r.map c181))]:=CtT (zPE d1) (fun r=>(.ow 0,[(0,.arr 181 2 (r.map c181))])) (rs:=[.t 2]) (vs:=[.tmp 2]) Tryz.func207 rfl rfl (.cons rfl FitsL.nil) h
def zQE (d1:Int):=fC zOM (zFk d1) fun _=>zPX
theorem zKE:CfW Tryz.prog 246:=cfW Tryz.func246
noncomputable def zK8 (vn1:Int):T Tryz.prog Int:=
 .op1 (zCX vn1 8) fun y2=>
 .joinC (.selB (eqI y2 1) false [] fun w_4=>.ret w_4) (mb 12 2048) [] (fun s q_5 γ=>s.pc (mb 12 2048) [] [(11,Bo (bif q_5 then true else (eqI y2 7)))] []) fun q_5=>
 .cond (bif q_5 then true else (eqI y2 7)) (
 .ret 1)<|
 .ret (-1)
theorem zKp {vn1:Int} {r:Int} (h:zCT vn1=some r):zD Tryz.prog 246 [I vn1] (I r) []:=CtU (zK8 vn1) 2 (fun r=>I r) Tryz.func246 rfl rfl h
def zEX (vn1:Int):=fC zKE (zCT vn1) fun _=>zKp
theorem zSQ:CfW Tryz.prog 245:=cfW Tryz.func245
noncomputable def zTN (a1:Int) (vn2:Int):T Tryz.prog Int:=
 .op1 (zCX a1 vn2) fun y3=>
 .loop (fun n X_67=>zDm n X_67.1 X_67.2.1 X_67.2.2) ((y3,vn2,1)) (mb 38 35) [] (fun s X_67 γ=>s.pc (mb 38 35) [] [(0,I X_67.1),(1,I X_67.2.1),(5,I X_67.2.2)] []) (fun X_67=>
 .cond (!eqI X_67.1 0) (.loop (fun n X_66=>zEk X_67.2.1 n X_66.1 X_66.2) ((X_67.1,X_67.2.2)) (mb 38 35) [] (fun s X_66 γ=>s.pc (mb 38 35) [] [(0,I X_66.1),(5,I X_66.2)] []) (fun X_66=>
 .n0 dvN<|
 .cond (eqI (Int.tmod X_66.1 2) 0) (.n0 dvN<|
 .frc (w64 (Int.tdiv X_66.1 2)) fun a15=>.op1 (zEX X_67.2.1) fun y16=>
 .frc (w64 (X_66.2*y16)) fun vs17=>.ret (.inl ((a15,vs17))))<|.ret (.inr ((X_66.1,X_66.2)))) (mb 38 35) [] (fun s o13 γ=>s.pc (mb 38 35) [] [(0,I o13.1),(5,I o13.2)] []) fun o13=>
 .dn<|.joinC (.n0 dvN<|.selB (eqI (Int.tmod o13.1 4) 3) true [.z dvN] fun w_64=>.ret w_64) (mb 38 1073741859) [] (fun s q_65 γ=>s.pc (mb 38 1073741859) [] [(30,Bo (bif q_65 then (eqI (Int.tmod X_67.2.1 4) 3) else false))] []) fun q_65=>
 .lt (bif q_65 then (eqI (Int.tmod X_67.2.1 4) 3) else false) fun t19=>.cond t19 (
 .frc (w64 (0 - o13.2)) fun vs21=>
 .op0 (remF .i64 X_67.2.1 o13.1) fun z22=>
 .frc (Int.tmod X_67.2.1 o13.1) fun a23=>.ret (.inl ((a23,o13.1,vs21))))<|
 .op0 (remF .i64 X_67.2.1 o13.1) fun z24=>
 .frc (Int.tmod X_67.2.1 o13.1) fun a25=>.ret (.inl ((a25,o13.1,o13.2))))<|.ret (.inr ((X_67.2.1,X_67.2.2)))) (mb 38 34) [] (fun s o8 γ=>s.pc (mb 38 34) [] [(1,I o8.1),(5,I o8.2)] []) fun o8=>
 .cond (!eqI o8.1 1) (
 .ret 0)<|
 .ret o8.2
theorem zTa {a1:Int} {vn2:Int} {r:Int} (h:zHB a1 vn2=some r):zD Tryz.prog 245 [I a1,I vn2] (I r) []:=CtU (zTN a1 vn2) 4 (fun r=>I r) Tryz.func245 rfl rfl h
def zUM (a1:Int) (vn2:Int):=fC zSQ (zHB a1 vn2) fun _=>zTa
theorem zHY:CfW Tryz.prog 208:=cfW Tryz.func208
noncomputable def zH6 (x1:(Int×Int)) (vn2:Int):T Tryz.prog Int:=
 .cond (eqI x1.1 1) (.op1 (zUM vn2 x1.2) fun y4=>
 .ret y4)<|.n0 dvN<|
 .cond (eqI (Int.tmod vn2 2) 0) (
 .ret 0)<|.op1 (zCX vn2 4) fun y6=>
 .frc (w64 (2 - y6)) fun delta7=>
 .cond (eqI x1.1 2) (
 .ret delta7)<|
 .cond (eqI x1.1 3) (.op1 (zEX vn2) fun y10=>
 .ret y10)<|.op1 (zEX vn2) fun y11=>
 .frc (w64 (delta7*y11)) fun t12=>.ret t12
theorem zHg {x1:(Int×Int)} {vn2:Int} {r:Int} (h:zCz x1 vn2=some r):zD Tryz.prog 208 [.ag [Ti x1.1,Ti x1.2],I vn2] (I r) []:=CtU (zH6 x1 vn2) 4 (fun r=>I r) Tryz.func208 rfl rfl h
def zID (x1:(Int×Int)) (vn2:Int):=fC zHY (zCz x1 vn2) fun _=>zHg
theorem zOF:CfW Tryz.prog 171:=cfW Tryz.func171
noncomputable def zOz (d1:Int) (vn2:Int):T Tryz.prog (List Int):=
 .n1 (nilN 3 1 (by decide))<|
 .n1 bsl0<|
 .op1 (zQE d1) fun y3=>.n0 (lenM zFr y3)<|
 .loop (fun n X_1=>zEQ vn2 y3 n X_1.1 X_1.2) ((0,([]:List Int))) (mb 24 7202) [80,64] (fun s X_1 γ=>s.pc (mb 24 7202) [80,64] [(12,I X_1.1)] [(64,.arr 3 1 (X_1.2.map c3))]) (fun X_1=>
 .cond (ltI X_1.1 ((y3.length:Int))) (.op0 (zBA zFr y3 X_1.1) fun e9=>.op0 (ldo zFr y3 X_1.1) fun e10=>
 .op1 (zID e10 vn2) fun y11=>.n1 bsl<|.opx (app ct3 X_1.2 ([y11])) fun u12=>
 .frc (w64 (X_1.1+1)) fun t13=>.ret (.inl ((t13,X_1.2++([y11])))))<|.ret (.inr X_1.2)) (mb 24 32) [64] (fun s o7 γ=>s.pc (mb 24 32) [64] [] [(64,.arr 3 1 (o7.map c3))]) fun o7=>
 .ret o7
theorem zPQ {d1:Int} {vn2:Int} {r:List Int} (h:zFi d1 vn2=some r):zD Tryz.prog 171 [I d1,I vn2] (.ow 0) [(0,.arr 3 1 (r.map c3))]:=CtT (zOz d1 vn2) (fun r=>(.ow 0,[(0,.arr 3 1 (r.map c3))])) (rs:=[.t 4]) (vs:=[.tmp 4]) Tryz.func171 rfl rfl (.cons rfl FitsL.nil) h
def zQA (d1:Int) (vn2:Int):=fC zOF (zFi d1 vn2) fun _=>zPQ
theorem zKI:CfW Tryz.prog 125:=cfW Tryz.func125
noncomputable def zKd (f1:τF):T Tryz.prog (List Int):=
 .n1 (nilN 3 1 (by decide))<|
 .op1 (zAU f1) fun y2=>
 .op1 (zBE y2) fun y3=>
 .op1 (zGq y2 (w64 (2*y3))) fun y4=>
 .op1 (zFD y2 y4.1 y4.2) fun y5=>.op1 (zQA y3 y5) fun y6=>
 .ret y6
theorem zKt {f1:τF} {r:List Int} (h:zB5 f1=some r):zD Tryz.prog 125 [.ag [Ti f1.1,Ti f1.2.1,Ti f1.2.2]] (.ow 0) [(0,.arr 3 1 (r.map c3))]:=CtT (zKd f1) (fun r=>(.ow 0,[(0,.arr 3 1 (r.map c3))])) (rs:=[.t 2]) (vs:=[.tmp 2]) Tryz.func125 rfl rfl (.cons rfl FitsL.nil) h
def zL5 (f1:τF):=fC zKI (zB5 f1) fun _=>zKt
theorem zPi:CfW Tryz.prog 209:=cfW Tryz.func209
noncomputable def zQi (vn1:Int):T Tryz.prog Bool:=
 .pl<|.joinC (.selB (leI 1 vn1) true [] fun w_2=>.ret w_2) (mb 9 4) [] (fun s q_3 γ=>s.pc (mb 9 4) [] [(2,Bo (bif q_3 then (leI vn1 10000) else false))] []) fun q_3=>
 .ret (bif q_3 then (leI vn1 10000) else false)
theorem zRO {vn1:Int} {r:Bool} (h:zEl vn1=some r):zD Tryz.prog 209 [I vn1] (Bo r) []:=CtU (zQi vn1) 2 (fun r=>Bo r) Tryz.func209 rfl rfl h
def zSm (vn1:Int):=fC zPi (zEl vn1) fun _=>zRO
theorem zWb:CfW Tryz.prog 247:=cfW Tryz.func247
noncomputable def zXS (vn1:Int):T Tryz.prog Int:=
 .loop (fun n X_1=>zBK vn1 n X_1.1 X_1.2) ((0,3000000000)) (mb 23 25) [] (fun s X_1 γ=>s.pc (mb 23 25) [] [(3,I X_1.1),(4,I X_1.2)] []) (fun X_1=>
 .cond (ltI X_1.1 X_1.2) (.n0 dvN<|
 .frc (w64 (Int.tdiv (w64 ((w64 (X_1.1+X_1.2))+1)) 2)) fun vm7=>
 .cond (leI (w64 (vm7*vm7)) vn1) (
 .ret (.inl ((vm7,X_1.2))))<|
 .frc (w64 (vm7 - 1)) fun high9=>.ret (.inl ((X_1.1,high9))))<|.ret (.inr X_1.1)) (mb 23 8) [] (fun s o5 γ=>s.pc (mb 23 8) [] [(3,I o5)] []) fun o5=>
 .ret o5
theorem zX7 {vn1:Int} {r:Int} (h:zCr vn1=some r):zD Tryz.prog 247 [I vn1] (I r) []:=CtU (zXS vn1) 2 (fun r=>I r) Tryz.func247 rfl rfl h
def zGp (vn1:Int):=fC zWb (zCr vn1) fun _=>zX7
theorem zOJ:CfW Tryz.prog 248:=cfW Tryz.func248
noncomputable def zPB (vn1:Int):T Tryz.prog Bool:=
 .pl<|.joinC (.seqT (.cond (leI 0 vn1) (.op1 (zGp vn1) fun y3=>.op1 (zGp vn1) fun y4=>.ret (eqI (w64 (y3*y4)) vn1)) (.ret false)) fun b5=>.ret b5) (mb 14 4) [] (fun s q_1 γ=>s.pc (mb 14 4) [] [(2,Bo q_1)] []) fun q_1=>
 .ret q_1
theorem zPU {vn1:Int} {r:Bool} (h:zBs vn1=some r):zD Tryz.prog 248 [I vn1] (Bo r) []:=CtU (zPB vn1) 2 (fun r=>Bo r) Tryz.func248 rfl rfl h
def zQD (vn1:Int):=fC zOJ (zBs vn1) fun _=>zPU
theorem zKK:CfW Tryz.prog 210:=cfW Tryz.func210
noncomputable def zKf (f1:τF) (vn2:Int):T Tryz.prog (List (Int×Int)):=
 .n1 (nilN 184 2 (by decide))<|
 .n1 bsl0<|
 .op1 (zBE f1) fun y3=>
 .op0 (quoF .i64 (w64 ((w64 (4*f1.2.2))*vn2)) (w64 (0 - y3))) fun z4=>.op1 (zGp (w64 (Int.tdiv (w64 ((w64 (4*f1.2.2))*vn2)) (w64 (0 - y3))))) fun y5=>
 .frc (w64 (0 - y5)) fun x6=>.loop (fun n X_2=>jO f1 vn2 y3 y5 n X_2.1 X_2.2) ((x6,([]:List (Int×Int)))) (mb 107 486) [88,16] (fun s X_2 γ=>s.pc (mb 107 486) [88,16] [(8,I X_2.1)] [(88,.arr 184 2 (X_2.2.map c184))]) (fun X_2=>
 .cond (leI X_2.1 y5) (
 .frc (w64 ((w64 ((w64 (y3*X_2.1))*X_2.1))+(w64 ((w64 (4*f1.2.2))*vn2)))) fun square12=>.op1 (zQD square12) fun y13=>
 .cond (!y13) (
 .frc (w64 (X_2.1+1)) fun x15=>.ret (.inl ((x15,X_2.2))))<|.op1 (zGp square12) fun y16=>
 .join (.op0 (remF .i64 (w64 ((w64 ((w64 (0 - f1.2.1))*X_2.1)) - y16)) (w64 (2*f1.2.2))) fun z18=>
 .lt (eqI (Int.tmod (w64 ((w64 ((w64 (0 - f1.2.1))*X_2.1)) - y16)) (w64 (2*f1.2.2))) 0) fun t19=>.cond t19 (.op0 (quoF .i64 (w64 ((w64 ((w64 (0 - f1.2.1))*X_2.1)) - y16)) (w64 (2*f1.2.2))) fun z21=>.n0 (bld zZy z34)<|.n1 bsl<|.opx (app zG0 X_2.2 ([(X_2.1,w64 (Int.tdiv (w64 ((w64 ((w64 (0 - f1.2.1))*X_2.1)) - y16)) (w64 (2*f1.2.2))))])) fun u22=>
 .lt (X_2.2++([(X_2.1,w64 (Int.tdiv (w64 ((w64 ((w64 (0 - f1.2.1))*X_2.1)) - y16)) (w64 (2*f1.2.2))))])) fun l23=>.ret l23)<|.ret X_2.2) (mb 107 1510) [88,16] (fun s j17 γ=>s.pc (mb 107 1510) [88,16] [] [(88,.arr 184 2 (j17.map c184))]) fun j17=>
 .joinC (.seqT (.cond (ltI 0 y16) (.op0 (remF .i64 (w64 ((w64 ((w64 (0 - f1.2.1))*X_2.1))+y16)) (w64 (2*f1.2.2))) fun z25=>.ret (eqI (Int.tmod (w64 ((w64 ((w64 (0 - f1.2.1))*X_2.1))+y16)) (w64 (2*f1.2.2))) 0)) (.ret false)) fun b26=>.ret b26) (mb 107 618970019642690137449563622) [88,16] (fun s q_1 γ=>s.pc (mb 107 618970019642690137449563622) [88,16] [(89,Bo q_1)] []) fun q_1=>
 .cond q_1 (.op0 (quoF .i64 (w64 ((w64 ((w64 (0 - f1.2.1))*X_2.1))+y16)) (w64 (2*f1.2.2))) fun z28=>.n0 (bld zZy z34)<|.n1 bsl<|.opx (app zG0 j17 ([(X_2.1,w64 (Int.tdiv (w64 ((w64 ((w64 (0 - f1.2.1))*X_2.1))+y16)) (w64 (2*f1.2.2))))])) fun u29=>
 .lt (j17++([(X_2.1,w64 (Int.tdiv (w64 ((w64 ((w64 (0 - f1.2.1))*X_2.1))+y16)) (w64 (2*f1.2.2))))])) fun l30=>
 .frc (w64 (X_2.1+1)) fun x31=>.ret (.inl ((x31,l30))))<|
 .frc (w64 (X_2.1+1)) fun x32=>.ret (.inl ((x32,j17))))<|.ret (.inr X_2.2)) (mb 107 32) [88] (fun s o10 γ=>s.pc (mb 107 32) [88] [] [(88,.arr 184 2 (o10.map c184))]) fun o10=>
 .ret o10
theorem zKv {f1:τF} {vn2:Int} {r:List (Int×Int)} (h:zB8 f1 vn2=some r):zD Tryz.prog 210 [.ag [Ti f1.1,Ti f1.2.1,Ti f1.2.2],I vn2] (.ow 0) [(0,.arr 184 2 (r.map c184))]:=CtT (zKf f1 vn2) (fun r=>(.ow 0,[(0,.arr 184 2 (r.map c184))])) (rs:=[.t 4]) (vs:=[.tmp 4]) Tryz.func210 rfl rfl (.cons rfl FitsL.nil) h
def zL6 (f1:τF) (vn2:Int):=fC zKK (zB8 f1 vn2) fun _=>zKv
theorem zHW:CfW Tryz.prog 173:=cfW Tryz.func173
noncomputable def zH4 (f1:τF) (vn2:Int):T Tryz.prog (((List (Int×Int))×Bool)):=
 .n1 (nilN 184 2 (by decide))<|
 .dn<|.joinC (.op1 (zGa f1) fun y3=>.seqT (.cond (!y3) (.ret true) (.op1 (zSm vn2) fun y5=>.ret (!y5))) fun b6=>.ret (y3,b6)) (mb 18 8198) [16] (fun s q_1 γ=>s.pc (mb 18 8198) [16] [(13,Bo q_1.2)] []) fun q_1=>
 .cond q_1.2 (.n1 bsl0<|
 .ret ((([]:List (Int×Int)),false)))<|.op1 (zL6 f1 vn2) fun y8=>
 .ret ((y8,true))
theorem zHe {f1:τF} {vn2:Int} {r:((List (Int×Int))×Bool)} (h:zCA f1 vn2=some r):zD Tryz.prog 173 [.ag [Ti f1.1,Ti f1.2.1,Ti f1.2.2],I vn2] (.tc (.ow 0) (.tc (Bo r.2) .tn)) [(0,.arr 184 2 (r.1.map c184))]:=CtT (zH4 f1 vn2) (fun r=>(.tc (.ow 0) (.tc (Bo r.2) .tn),[(0,.arr 184 2 (r.1.map c184))])) (rs:=[.t 4,.t 5]) (vs:=[.tmp 4,.tmp 5]) Tryz.func173 rfl rfl (.cons rfl (.cons rfl FitsL.nil)) h
def zIC (f1:τF) (vn2:Int):=fC zHW (zCA f1 vn2) fun _=>zHe
theorem zFo:CfW Tryz.prog 126:=cfW Tryz.func126
noncomputable def zFu (f1:τF) (vn2:Int):T Tryz.prog ((Int×Bool)):=
 .op1 (zIC f1 vn2) fun y3=>
 .n0 (lenM zG0 y3.1)<|
 .ret (((y3.1.length:Int),y3.2))
theorem zFw {f1:τF} {vn2:Int} {r:(Int×Bool)} (h:zAK f1 vn2=some r):zD Tryz.prog 126 [.ag [Ti f1.1,Ti f1.2.1,Ti f1.2.2],I vn2] (.tc (I r.1) (.tc (Bo r.2) .tn)) []:=CtT (zFu f1 vn2) (fun r=>(.tc (I r.1) (.tc (Bo r.2) .tn),[])) (rs:=[.t 4,.t 5]) (vs:=[.tmp 4,.tmp 5]) Tryz.func126 rfl rfl (.cons rfl (.cons rfl FitsL.nil)) h
def zGE (f1:τF) (vn2:Int):=fC zFo (zAK f1 vn2) fun _=>zFw
theorem zLU:CfW Tryz.prog 249:=cfW Tryz.func249
noncomputable def zLo (vm1:τM):T Tryz.prog Int:=
 .frc (w64 ((w64 (vm1.1*vm1.2.2.2)) - (w64 (vm1.2.1*vm1.2.2.1)))) fun t2=>.ret t2
theorem zMJ {vm1:τM} {r:Int} (h:zDU vm1=some r):zD Tryz.prog 249 [.ag [Ti vm1.1,Ti vm1.2.1,Ti vm1.2.2.1,Ti vm1.2.2.2]] (I r) []:=CtU (zLo vm1) 2 (fun r=>I r) Tryz.func249 rfl rfl h
def zMy (vm1:τM):=fC zLU (zDU vm1) fun _=>zMJ
theorem zHv:CfW Tryz.prog 212:=cfW Tryz.func212
noncomputable def zIL (vm1:τM):T Tryz.prog (τM):=
 .op1 (zMy vm1) fun y2=>
 .n0 (bld zDV zDe)<|
 .frc (w64 (y2*vm1.2.2.2)) fun f3=>.frc (w64 ((w64 (0 - y2))*vm1.2.1)) fun f4=>.frc (w64 ((w64 (0 - y2))*vm1.2.2.1)) fun f5=>.frc (w64 (y2*vm1.1)) fun f6=>.ret ((f3,f4,f5,f6))
theorem zIN {vm1:τM} {r:τM} (h:zAb vm1=some r):zD Tryz.prog 212 [.ag [Ti vm1.1,Ti vm1.2.1,Ti vm1.2.2.1,Ti vm1.2.2.2]] (.ag [Ti r.1,Ti r.2.1,Ti r.2.2.1,Ti r.2.2.2]) []:=CtT (zIL vm1) (fun r=>(.ag [Ti r.1,Ti r.2.1,Ti r.2.2.1,Ti r.2.2.2],[])) (rs:=[.w 2 4]) (vs:=[.cell 2 120]) Tryz.func212 rfl rfl (.cons ⟨rfl,zFE⟩ FitsL.nil) h
def zIW (vm1:τM):=fC zHv (zAb vm1) fun _=>zIN
theorem zON:CfW Tryz.prog 214:=cfW Tryz.func214
noncomputable def zPF (vm1:τM):T Tryz.prog Bool:=
 .n1 bsl<|.op1 (zGn ([vm1.1,vm1.2.1,vm1.2.2.1,vm1.2.2.2])) fun y2=>
 .ret y2
theorem zPY {vm1:τM} {r:Bool} (h:zC2 vm1=some r):zD Tryz.prog 214 [.ag [Ti vm1.1,Ti vm1.2.1,Ti vm1.2.2.1,Ti vm1.2.2.2]] (Bo r) []:=CtU (zPF vm1) 2 (fun r=>Bo r) Tryz.func214 rfl rfl h
def zIJ (vm1:τM):=fC zON (zC2 vm1) fun _=>zPY
theorem zPo:CfW Tryz.prog 211:=cfW Tryz.func211
noncomputable def zQn (vm1:τM):T Tryz.prog ((τM×Bool)):=
 .op1 (zIJ vm1) fun y2=>
 .cond (!y2) (.n0 (bld zDV zDe)<|
 .ret (((0,0,0,0),false)))<|
 .ret ((vm1,true))
theorem zRU {vm1:τM} {r:(τM×Bool)} (h:zEp vm1=some r):zD Tryz.prog 211 [.ag [Ti vm1.1,Ti vm1.2.1,Ti vm1.2.2.1,Ti vm1.2.2.2]] (.tc (.ag [Ti r.1.1,Ti r.1.2.1,Ti r.1.2.2.1,Ti r.1.2.2.2]) (.tc (Bo r.2) .tn)) []:=CtT (zQn vm1) (fun r=>(.tc (.ag [Ti r.1.1,Ti r.1.2.1,Ti r.1.2.2.1,Ti r.1.2.2.2]) (.tc (Bo r.2) .tn),[])) (rs:=[.w 2 4,.t 3]) (vs:=[.cell 2 120,.tmp 3]) Tryz.func211 rfl rfl (.cons ⟨rfl,zFE⟩ (.cons rfl FitsL.nil)) h
def zSq (vm1:τM):=fC zPo (zEp vm1) fun _=>zRU
theorem zGc:CfW Tryz.prog 174:=cfW Tryz.func174
noncomputable def zGu (f1:τF) (g2:τF):T Tryz.prog ((τM×Bool)):=
 .pl<|.dn<|.joinC (.op1 (zDY f1) fun y3=>.seqT (.cond (!y3) (.ret true) (.op1 (zDY g2) fun y5=>.ret (!y5))) fun b6=>.ret (y3,b6)) (mb 40 131100) [32,24,16] (fun s q_1 γ=>s.pc (mb 40 131100) [32,24,16] [(17,Bo q_1.2)] []) fun q_1=>
 .cond q_1.2 (.n0 (bld zDV zDe)<|
 .ret (((0,0,0,0),false)))<|.op1 (zFT f1) fun y8=>
 .op1 (zFT g2) fun y9=>
 .n0 (neg3 z0B)<|
 .lt (!((y8.1.1==y9.1.1)&&((y8.1.2.1==y9.1.2.1)&&(y8.1.2.2==y9.1.2.2)))) fun t10=>.cond t10 (.n0 (bld zDV zDe)<|
 .ret (((0,0,0,0),false)))<|.draw 7 []<|.op1 (zIW y9.2) fun y12=>.op1 (zEA y8.2 y12) fun y13=>.op1 (zSq y13) fun y14=>
 .ret ((y14.1,y14.2))
theorem zGy {f1:τF} {g2:τF} {r:(τM×Bool)} (h:zAh f1 g2=some r):zD Tryz.prog 174 [.ag [Ti f1.1,Ti f1.2.1,Ti f1.2.2],.ag [Ti g2.1,Ti g2.2.1,Ti g2.2.2]] (.tc (.ag [Ti r.1.1,Ti r.1.2.1,Ti r.1.2.2.1,Ti r.1.2.2.2]) (.tc (Bo r.2) .tn)) []:=CtT (zGu f1 g2) (fun r=>(.tc (.ag [Ti r.1.1,Ti r.1.2.1,Ti r.1.2.2.1,Ti r.1.2.2.2]) (.tc (Bo r.2) .tn),[])) (rs:=[.w 4 4,.t 5]) (vs:=[.cell 4 120,.tmp 5]) Tryz.func174 rfl rfl (.cons ⟨rfl,zFE⟩ (.cons rfl FitsL.nil)) h
def zHF (f1:τF) (g2:τF):=fC zGc (zAh f1 g2) fun _=>zGy
theorem zLM:CfW Tryz.prog 176:=cfW Tryz.func176
noncomputable def zLg (vm1:τM):T Tryz.prog ByteArray:=
 .draw 21 []<|.op1 (zAk vm1.1) fun y2=>.op0 (cat ((⟨#[91]⟩:ByteArray)) y2) fun u3=>.op0 (cat (((⟨#[91]⟩:ByteArray))++y2) ((⟨#[44]⟩:ByteArray))) fun u4=>.op1 (zAk vm1.2.1) fun y5=>.op0 (cat ((((⟨#[91]⟩:ByteArray))++y2)++((⟨#[44]⟩:ByteArray))) y5) fun u6=>.op0 (cat (((((⟨#[91]⟩:ByteArray))++y2)++((⟨#[44]⟩:ByteArray)))++y5) ((⟨#[59]⟩:ByteArray))) fun u7=>.op1 (zAk vm1.2.2.1) fun y8=>.op0 (cat ((((((⟨#[91]⟩:ByteArray))++y2)++((⟨#[44]⟩:ByteArray)))++y5)++((⟨#[59]⟩:ByteArray))) y8) fun u9=>.op0 (cat (((((((⟨#[91]⟩:ByteArray))++y2)++((⟨#[44]⟩:ByteArray)))++y5)++((⟨#[59]⟩:ByteArray)))++y8) ((⟨#[44]⟩:ByteArray))) fun u10=>.op1 (zAk vm1.2.2.2) fun y11=>.op0 (cat ((((((((⟨#[91]⟩:ByteArray))++y2)++((⟨#[44]⟩:ByteArray)))++y5)++((⟨#[59]⟩:ByteArray)))++y8)++((⟨#[44]⟩:ByteArray))) y11) fun u12=>.op0 (cat (((((((((⟨#[91]⟩:ByteArray))++y2)++((⟨#[44]⟩:ByteArray)))++y5)++((⟨#[59]⟩:ByteArray)))++y8)++((⟨#[44]⟩:ByteArray)))++y11) ((⟨#[93]⟩:ByteArray))) fun u13=>
 .ret ((((((((((⟨#[91]⟩:ByteArray))++y2)++((⟨#[44]⟩:ByteArray)))++y5)++((⟨#[59]⟩:ByteArray)))++y8)++((⟨#[44]⟩:ByteArray)))++y11)++((⟨#[93]⟩:ByteArray)))
theorem zMB {vm1:τM} {r:ByteArray} (h:zBM vm1=some r):zD Tryz.prog 176 [.ag [Ti vm1.1,Ti vm1.2.1,Ti vm1.2.2.1,Ti vm1.2.2.2]] (.c (.v (.string r))) []:=CtU (zLg vm1) 2 (fun r=>.c (.v (.string r))) Tryz.func176 rfl rfl h
def zFB (vm1:τM):=fC zLM (zBM vm1) fun _=>zMB
theorem zKJ:CfW Tryz.prog 175:=cfW Tryz.func175
noncomputable def zKe (kind1:ByteArray) (words2:List ByteArray):T Tryz.prog ByteArray:=
 .op0 (cat kind1 ((⟨#[32]⟩:ByteArray))) fun u3=>.op1 (zS8 words2 ((⟨#[32]⟩:ByteArray))) fun y4=>.op0 (cat (kind1++((⟨#[32]⟩:ByteArray))) y4) fun u5=>
 .ret ((kind1++((⟨#[32]⟩:ByteArray)))++y4)
theorem zKu {kind1:ByteArray} {words2:List ByteArray} {r:ByteArray} (h:zB6 kind1 words2=some r):zD Tryz.prog 175 [.c (.v (.string kind1)),.c (.sl (words2.map c9))] (.c (.v (.string r))) []:=CtU (zKe kind1 words2) 4 (fun r=>.c (.v (.string r))) Tryz.func175 rfl rfl h
def zG7 (kind1:ByteArray) (words2:List ByteArray):=fCs zKJ (zB6 kind1 words2) (fun _=>zKu) fun _=>rfl
theorem zFN:CfW Tryz.prog 127:=cfW Tryz.func127
noncomputable def zFV (f1:τF) (g2:τF):T Tryz.prog ((ByteArray×Bool)):=
 .op1 (zHF f1 g2) fun y3=>
 .cond (!y3.2) (
 .ret (((⟨#[]⟩:ByteArray),false)))<|.draw 10 []<|.op1 (zBU f1) fun y5=>.op1 (zBU g2) fun y6=>.op1 (zFB y3.1) fun y7=>.n1 bsl<|.op1 (zG7 ((⟨#[101,113,117,105,118,97,108,101,110,116]⟩:ByteArray)) ([y5,y6,y7])) fun y8=>
 .ret ((y8,true))
theorem zFZ {f1:τF} {g2:τF} {r:(ByteArray×Bool)} (h:jV f1 g2=some r):zD Tryz.prog 127 [.ag [Ti f1.1,Ti f1.2.1,Ti f1.2.2],.ag [Ti g2.1,Ti g2.2.1,Ti g2.2.2]] (.tc (.c (.v (.string r.1))) (.tc (Bo r.2) .tn)) []:=CtT (zFV f1 g2) (fun r=>(.tc (.c (.v (.string r.1))) (.tc (Bo r.2) .tn),[])) (rs:=[.t 4,.t 5]) (vs:=[.tmp 4,.tmp 5]) Tryz.func127 rfl rfl (.cons rfl (.cons rfl FitsL.nil)) h
def zFa (f1:τF) (g2:τF):=fC zFN (jV f1 g2) fun _=>zFZ
theorem zLS:CfW Tryz.prog 177:=cfW Tryz.func177
noncomputable def zLm (f1:τF):T Tryz.prog ((τF×τM×Bool)):=
 .op1 (zDY f1) fun y2=>
 .cond (!y2) (.n0 (bld pl42 bt42)<|.n0 (bld zDV zDe)<|
 .ret (((0,0,0),(0,0,0,0),false)))<|.op1 (zFT f1) fun y4=>
 .op1 (zIJ y4.2) fun y5=>
 .cond (!y5) (.n0 (bld pl42 bt42)<|.n0 (bld zDV zDe)<|
 .ret (((0,0,0),(0,0,0,0),false)))<|.draw 3 [(2,16)]<|
 .ret ((y4.1,y4.2,true))
theorem zMH {f1:τF} {r:(τF×τM×Bool)} (h:zA8 f1=some r):zD Tryz.prog 177 [.ag [Ti f1.1,Ti f1.2.1,Ti f1.2.2]] (.tc (.ag [Ti r.1.1,Ti r.1.2.1,Ti r.1.2.2]) (.tc (.ag [Ti r.2.1.1,Ti r.2.1.2.1,Ti r.2.1.2.2.1,Ti r.2.1.2.2.2]) (.tc (Bo r.2.2) .tn))) []:=CtT (zLm f1) (fun r=>(.tc (.ag [Ti r.1.1,Ti r.1.2.1,Ti r.1.2.2]) (.tc (.ag [Ti r.2.1.1,Ti r.2.1.2.1,Ti r.2.1.2.2.1,Ti r.2.1.2.2.2]) (.tc (Bo r.2.2) .tn)),[])) (rs:=[.w 2 3,.w 3 4,.t 4]) (vs:=[.cell 2 42,.cell 3 120,.tmp 4]) Tryz.func177 rfl rfl (.cons ⟨rfl,wd42⟩ (.cons ⟨rfl,zFE⟩ (.cons rfl FitsL.nil))) h
def zGr (f1:τF):=fC zLS (zA8 f1) fun _=>zMH
theorem zF7:CfW Tryz.prog 128:=cfW Tryz.func128
noncomputable def zFc (f1:τF) (g2:τF):T Tryz.prog ((ByteArray×Bool)):=
 .op1 (zGr f1) fun y3=>
 .op1 (zGr g2) fun y4=>
 .dn<|.joinC (.selB (!y3.2.2) false [] fun w_7=>.selB (bif w_7 then true else (!y4.2.2)) false [.z (eqg3 zUa)] fun w_8=>.ret (w_7,w_8)) (mb 49 17179870924) [80,72,56,48,24,16] (fun s q_9 γ=>s.pc (mb 49 17179870924) [80,72,56,48,24,16] [(34,Bo (bif q_9.2 then true else (((y3.1.1==y4.1.1)&&((y3.1.2.1==y4.1.2.1)&&(y3.1.2.2==y4.1.2.2))))))] []) fun q_9=>
 .lt (bif q_9.2 then true else (((y3.1.1==y4.1.1)&&((y3.1.2.1==y4.1.2.1)&&(y3.1.2.2==y4.1.2.2))))) fun t7=>.cond t7 (
 .ret (((⟨#[]⟩:ByteArray),false)))<|.draw 16 []<|.op1 (zBU f1) fun y9=>.op1 (zFB y3.2.1) fun y10=>.op1 (zBU y3.1) fun y11=>.op1 (zBU g2) fun y12=>.op1 (zFB y4.2.1) fun y13=>.op1 (zBU y4.1) fun y14=>.n1 bsl<|.op1 (zG7 ((⟨#[100,105,102,102,101,114,101,110,116]⟩:ByteArray)) ([y9,y10,y11,y12,y13,y14])) fun y15=>
 .ret ((y15,true))
theorem zFe {f1:τF} {g2:τF} {r:(ByteArray×Bool)} (h:zAB f1 g2=some r):zD Tryz.prog 128 [.ag [Ti f1.1,Ti f1.2.1,Ti f1.2.2],.ag [Ti g2.1,Ti g2.2.1,Ti g2.2.2]] (.tc (.c (.v (.string r.1))) (.tc (Bo r.2) .tn)) []:=CtT (zFc f1 g2) (fun r=>(.tc (.c (.v (.string r.1))) (.tc (Bo r.2) .tn),[])) (rs:=[.t 4,.t 5]) (vs:=[.tmp 4,.tmp 5]) Tryz.func128 rfl rfl (.cons rfl (.cons rfl FitsL.nil)) h
def zFq (f1:τF) (g2:τF):=fC zF7 (zAB f1 g2) fun _=>zFe
theorem zM9:CfW Tryz.prog 82:=cfW Tryz.func82
noncomputable def zNN (vs1:τI) (l2:(ByteArray×(List Int)×τF×Int)) (forms3:List τF):T Tryz.prog ((ByteArray×Bool)):=
 .lt (l2.1.toList==((⟨#[115,104,111,119]⟩:ByteArray)).toList) fun t4=>.cond t4 (.op0 (idxM ct42 forms3 0) fun e6=>.op1 (zBU e6) fun y7=>
 .ret ((y7,true)))<|
 .lt (l2.1.toList==((⟨#[105,110,100,101,120]⟩:ByteArray)).toList) fun t8=>.cond t8 (.op0 (idxM ct42 forms3 0) fun e10=>.op1 (zNA e10) fun y11=>
 .op1 (zAk y11.1) fun y12=>
 .ret ((y12,y11.2)))<|
 .lt (l2.1.toList==((⟨#[111,114,100,101,114]⟩:ByteArray)).toList) fun t13=>.cond t13 (.op0 (idxM ct42 forms3 0) fun e15=>.op1 (zSj e15) fun y16=>.op1 (zAk y16) fun y17=>
 .ret ((y17,true)))<|
 .lt (l2.1.toList==((⟨#[103,101,110,117,115]⟩:ByteArray)).toList) fun t18=>.cond t18 (
 .op0 (idxM ct42 forms3 0) fun e20=>.op1 (zL5 e20) fun y21=>.n0 (lenM ct3 y21)<|
 .loop (fun n X_1=>zAv vs1 y21 n X_1.1 X_1.2) (((⟨#[]⟩:ByteArray),0)) (mb 107 7881299347899392) [400,80000] (fun s X_1 γ=>s.pc (mb 107 7881299347899392) [400,80000] [(10,.c (.v (.string X_1.1))),(52,I X_1.2)] []) (fun X_1=>
 .cond (ltI X_1.2 ((y21.length:Int))) (.op0 (zBA ct3 y21 X_1.2) fun e27=>.op0 (ldo ct3 y21 X_1.2) fun e28=>
 .n0 dvN<|.op0 (idxs ((⟨#[45,43]⟩:ByteArray)) (w64 (Int.tdiv (w64 (e28+1)) 2))) fun e29=>.n0 i2s<|.op0 (cat X_1.1 (Utf8.encode e29)) fun u30=>
 .frc (w64 (X_1.2+1)) fun t31=>.ret (.inl ((X_1.1++(Utf8.encode e29),t31))))<|.ret (.inr X_1.1)) (mb 107 1024) [80000] (fun s o25 γ=>s.pc (mb 107 1024) [80000] [(10,.c (.v (.string o25)))] []) fun o25=>
 .ret ((o25,true)))<|
 .lt (l2.1.toList==((⟨#[118,97,108,117,101]⟩:ByteArray)).toList) fun t32=>.cond t32 (.draw 11 []<|.op0 (idxM ct42 forms3 0) fun e34=>.op1 (zGE e34 l2.2.2.2) fun y35=>
 .op1 (zAk y35.1) fun y36=>
 .ret ((y36,y35.2)))<|
 .cond (l2.1.toList==((⟨#[115,97,109,101]⟩:ByteArray)).toList) (.draw 12 []<|.op0 (idxM ct42 forms3 0) fun e38=>.op0 (idxM ct42 forms3 1) fun e39=>.op1 (zFa e38 e39) fun y40=>
 .cond y40.2 (
 .ret ((y40.1,true)))<|.draw 11 []<|.op0 (idxM ct42 forms3 0) fun e42=>.op0 (idxM ct42 forms3 1) fun e43=>.op1 (zFq e42 e43) fun y44=>
 .ret ((y44.1,y44.2)))<|.opx (zG6 vs1) fun y45=>
 .cond (!(y45.toList==((⟨#[]⟩:ByteArray)).toList)) (
 .ret ((y45,true)))<|
 .ret (((⟨#[110,111,110,101]⟩:ByteArray),true))
theorem zN5 {vs1:τI} {l2:(ByteArray×(List Int)×τF×Int)} {forms3:List τF} {rest:List Tr} {r:(ByteArray×Bool)} (h:qY vs1 l2 forms3=some r):zIH Tryz.prog 82 [.pt 80000 0,.ag [.v (.string l2.1),.sl (l2.2.1.map c3),Ti l2.2.2.1.1,Ti l2.2.2.1.2.1,Ti l2.2.2.1.2.2,Ti l2.2.2.2],.c (.sl (forms3.map c42))] [(80000,.box ((Ti vs1.1::q78 (vs1.2) [])++rest))] (.tc (.c (.v (.string r.1))) (.tc (Bo r.2) .tn)) [] [(80000,.box ((Ti vs1.1::q78 (vs1.2) [])++rest))]:=CrT (zNN vs1 l2 forms3) (fun r=>(.tc (.c (.v (.string r.1))) (.tc (Bo r.2) .tn),[])) (fun r=>[(80000,.box ((Ti vs1.1::q78 (vs1.2) [])++rest))]) (rs:=[.t 6,.t 7]) (vs:=[.tmp 6,.tmp 7]) Tryz.func82 rfl rfl (.cons rfl (.cons rfl FitsL.nil)) h
def zOW (vs1:τI) (l2:(ByteArray×(List Int)×τF×Int)) (forms3:List τF):=fRt zM9 (qY vs1 l2 forms3) 80000 79 (fun rest _ h=>zN5 (rest:=rest) h)
theorem zIT:CfW Tryz.prog 50:=cfW Tryz.func50
noncomputable def zI0 (cc1:(τI×(List τI))) (vs2:ByteArray):T Tryz.prog ((ByteArray×(τI×(List τI)))):=
 .op1 (zQB vs2) fun y3=>
 .cond (!y3.2) (
 .ret (((⟨#[119,104,97,116]⟩:ByteArray),cc1)))<|
 .lt (y3.1.1.toList==((⟨#[117,110,100,111]⟩:ByteArray)).toList) fun t5=>.cond t5 (.n0 au<|.late (seeH 25 90079)<|.n0 (lenM ct62 cc1.2)<|
 .cond (eqI ((cc1.2.length:Int)) 0) (
 .ret (((⟨#[110,111]⟩:ByteArray),cc1)))<|.pl<|.joinC (.drawM false 13 [1,2,3,6,7,14,15,30,31,32,33,34,35,38,39,46,47,62,63,96,97,98,99,102,103,110,111,126,127,224,225,226,227,230,231,238,239,254,255,480,481,482,483,486,487,494,495,510,511,992,993,994,995,998,999,1006,1007,1022,1023,2016,2017,2018,2019,2022,2023,2030,2031,2046,2047,4094,4095,8190,8191] [1,1,0,1,1,1,0,1,1,0,1,0,0,0,1,1]<|.n0 au<|.n0 au<|.late (seeH 36 90079)<|.n0 (lenM ct62 cc1.2)<|.late (seeH 32 90079)<|.op0 (zBA ct62 cc1.2 (w64 (((cc1.2.length:Int)) - 1))) fun e8=>.op0 (ldo ct62 cc1.2 (w64 (((cc1.2.length:Int)) - 1))) fun e9=>.n0 au<|.ret (e8,e9)) (mb 109 1) [80000,90079] (fun s q_2 γ=>s.pc (mb 109 1) [80000,90079] [] [(80000,s.pbx 80000 ((Ti q_2.2.1::q78 (q_2.2.2) [.v (zE (γ 90079))])++zKQ s 80000 80)),(90079,.qarr (γ 90079) 62 79 (cc1.2.map c62))]) fun q_2=>
 .joinC (.drawM false 12 [1,2,3,6,7,14,15,30,31,32,33,34,35,38,39,46,47,62,63,96,97,98,99,102,103,110,111,126,127,224,225,226,227,230,231,238,239,254,255,480,481,482,483,486,487,494,495,510,511,992,993,994,995,998,999,1006,1007,1022,1023,2016,2017,2018,2019,2022,2023,2030,2031,2046,2047,4094,4095] [1,1,0,1,1,1,0,1,1,0,1,0,0,1,2]<|.n0 au<|.n0 au<|.late (seeH 51 90079)<|.n0 (lenM ct62 cc1.2)<|.late (zNF 47 90079)<|.opx (shr ct62 cc1.2 (w64 (((cc1.2.length:Int)) - 1))) fun u10=>.n0 au<|.late (pinH 54 90079)<|.ret u10) (mb 109 0) [80000,90079] (fun s q_1 γ=>s.pc (mb 109 0) [80000,90079] [] [(80000,s.pbx 80000 ((Ti q_2.2.1::q78 (q_2.2.2) [.v (zE (γ 90079))])++zKQ s 80000 80)),(90079,.qarr (γ 90079) 62 79 ((subl cc1.2 0 (w64 (((cc1.2.length:Int)) - 1))).map c62))]) fun q_1=>
 .ret (((⟨#[111,107]⟩:ByteArray),(q_2.2,subl cc1.2 0 (w64 (((cc1.2.length:Int)) - 1))))))<|.pl<|.joinC (.drawL [1,0,1,1,0,1,1,1,1,1]<|.n0 au<|.opx (zJM cc1.1 y3.1) fun y11=>.ret y11) (mb 109 225) [496,40,80000,90079] (fun s q_5 γ=>s.pc (mb 109 225) [496,40,80000,90079] [(6,Bo q_5.2),(7,.ow 496)] [(496,.arr 42 3 (q_5.1.map c42)),(80000,s.pbx 80000 ((Ti cc1.1.1::q78 (cc1.1.2) [.v (zE (γ 90079))])++zKQ s 80000 80)),(90079,.qarr (γ 90079) 62 79 (cc1.2.map c62))]) fun q_5=>
 .cond (!q_5.2) (
 .ret (((⟨#[110,111]⟩:ByteArray),cc1)))<|.n0 au<|
 .hint (frzH 496)<|.opx (zKL cc1.1 y3.1 q_5.1) fun y13=>
 .cond y13.2.1 (
 .cond (!y13.1) (
 .ret (((⟨#[110,111]⟩:ByteArray),cc1)))<|.pl<|.joinC (.drawM false 11 [1,2,3,6,7,14,15,30,31,32,33,34,35,38,39,46,47,62,63,96,97,98,99,102,103,110,111,126,127,224,225,226,227,230,231,238,239,254,255,480,481,482,483,486,487,494,495,510,511,992,993,994,995,998,999,1006,1007,1022,1023,2046,2047] [1,1,0,1,1,1,0,1,1,0,0,0,1,2]<|.n0 au<|.n0 au<|.n1 bsl<|.late (zNF 84 90079)<|.opx (appB ct62 cc1.2 (([cc1.1]))) fun u16=>.n0 au<|.late (pinH 90 90079)<|.ret u16) (mb 109 257) [64,80000,90079] (fun s q_3 γ=>s.pc (mb 109 257) [64,80000,90079] [] [(80000,s.pbx 80000 ((Ti cc1.1.1::q78 (cc1.1.2) [.v (zE (γ 90079))])++zKQ s 80000 80)),(90079,.qarr (γ 90079) 62 79 ((cc1.2++([cc1.1])).map c62))]) fun q_3=>
 .n0 au<|
 .ret (((⟨#[111,107]⟩:ByteArray),(y13.2.2,cc1.2++([cc1.1])))))<|.pl<|.joinC (.drawL [1,0,1,1,1,0,1,1,1,1,1]<|.n0 au<|.opx (zOW cc1.1 y3.1 q_5.1) fun y17=>.ret y17) (mb 109 2112) [80000,90079] (fun s q_4 γ=>s.pc (mb 109 2112) [80000,90079] [(6,Bo q_4.2),(11,.c (.v (.string q_4.1)))] [(80000,s.pbx 80000 ((Ti cc1.1.1::q78 (cc1.1.2) [.v (zE (γ 90079))])++zKQ s 80000 80)),(90079,.qarr (γ 90079) 62 79 (cc1.2.map c62))]) fun q_4=>
 .cond (!q_4.2) (
 .ret (((⟨#[110,111]⟩:ByteArray),cc1)))<|
 .ret ((q_4.1,cc1))
theorem zIf {cc1:(τI×(List τI))} {vs2:ByteArray} {rest:List Tr} {r:(ByteArray×(τI×(List τI)))} (h:qC cc1 vs2=some r):zJO Tryz.prog 50 [.pt 80000 0,.c (.v (.string vs2))] 90079 62 79 (fun l=>[(80000,.box ((Ti cc1.1.1::q78 (cc1.1.2) [.v (zE (l))])++rest))]) (cc1.2.map c62) (.v (.string r.1)) (fun l=>[(80000,.box ((Ti r.2.1.1::q78 (r.2.1.2) [.v (zE (l))])++rest))]) (r.2.2.map c62):=CqT (zI0 cc1 vs2) 90079 62 79 (fun r=>.v (.string r.1)) (fun r l=>[(80000,.box ((Ti r.2.1.1::q78 (r.2.1.2) [.v (zE (l))])++rest))]) (fun r=>r.2.2.map c62) (rs:=.t 4) (vs:=.tmp 4) Tryz.func50 rfl rfl (.cons rfl FitsL.nil) h
def zJN (cc1:(τI×(List τI))) (vs2:ByteArray):=fQ zIT (qC cc1 vs2) 80000 80 90079 62 79 (fun rest _ h=>zIf (rest:=rest) h)
theorem zMa:CfW Tryz.prog 33:=cfW Tryz.func33
noncomputable def zNO (script1:ByteArray):T Tryz.prog (Option (τI×(List τI)×(List ByteArray))):=
 .op1 (zSl script1) fun y2=>
 .dn<|.joinC (.selB (!y2.2) false [] fun w_7=>.selB (bif w_7 then true else (ltI 2000 ((script1.size:Int)))) false [.z (lenM ct9 y2.1)] fun w_8=>.ret (w_7,w_8)) (mb 49 33554448) [88] (fun s q_11 γ=>s.pc (mb 49 33554448) [88] [(25,Bo (bif q_11.2 then true else (ltI 60 ((y2.1.length:Int)))))] []) fun q_11=>
 .lt (bif q_11.2 then true else (ltI 60 ((y2.1.length:Int)))) fun t5=>.cond t5 (
 .ret none)<|.n0 (bld pl62 bt62)<|.n0 (bld pl65 bt65)<|
 .n0 (lenM ct9 y2.1)<|
 .hint (nilH 90079 62 79)<|.hint (nilH 90080 9 1)<|.loop (fun n X_10=>zAN y2 n X_10.1 X_10.2.1 X_10.2.2.1 X_10.2.2.2.1 X_10.2.2.2.2) ((0,([]:List ByteArray),([]:List τI),-23,(fun _=>(0,0,0)))) (mb 49 3758096448) [90080,90079,224,88] (fun s X_10 γ=>s.pc (mb 49 3758096448) [90080,90079,224,88] [(31,I X_10.1)] [(90080,.qarr (γ 90080) 9 1 (X_10.2.1.map c9)),(90079,.qarr (γ 90079) 62 79 (X_10.2.2.1.map c62)),(224,.box (Ti X_10.2.2.2.1::q78 (X_10.2.2.2.2) [.v (zE (γ 90079)),.v (zE (γ 90080))]))]) (fun X_10=>
 .cond (ltI X_10.1 ((y2.1.length:Int))) (.op0 (zBA ct9 y2.1 X_10.1) fun e15=>.op0 (ldo ct9 y2.1 X_10.1) fun e16=>
 .joinC (.drawM true 10 [1,2,3,6,7,14,15,30,31,32,33,34,35,38,39,46,47,62,63,64,65,66,67,70,71,78,79,94,95,96,97,98,99,102,103,110,111,126,127,224,225,226,227,230,231,238,239,254,255,480,481,482,483,486,487,494,495,510,511,1022,1023] [1,1,0,1,1,1,1,0,0,0,0,1,2]<|.n0 au<|.opx (zJN (((X_10.2.2.2.1,X_10.2.2.2.2),X_10.2.2.1)) e16) fun y17=>.n1 bsl<|.late (zNF 39 90080)<|.opx (app ct9 X_10.2.1 ([y17.1])) fun u18=>.n0 au<|.late (pinH 44 90080)<|.ret (y17,u18)) (mb 49 3758096448) [90080,90079,224,88] (fun s q_9 γ=>s.pc (mb 49 3758096448) [90080,90079,224,88] [] [(90080,.qarr (γ 90080) 9 1 ((X_10.2.1++([q_9.1.1])).map c9)),(90079,.qarr (γ 90079) 62 79 (q_9.1.2.2.map c62)),(224,.box (Ti q_9.1.2.1.1::q78 (q_9.1.2.1.2) [.v (zE (γ 90079)),.v (zE (γ 90080))]))]) fun q_9=>
 .frc (w64 (X_10.1+1)) fun t19=>.ret (.inl ((t19,X_10.2.1++([q_9.1.1]),q_9.1.2.2,q_9.1.2.1.1,q_9.1.2.1.2))))<|.ret (.inr ((X_10.2.1,X_10.2.2.1,X_10.2.2.2.1,X_10.2.2.2.2)))) (mb 49 64) [90080,90079,224] (fun s o13 γ=>s.pc (mb 49 64) [90080,90079,224] [] [(90080,.qarr (γ 90080) 9 1 (o13.1.map c9)),(90079,.qarr (γ 90079) 62 79 (o13.2.1.map c62)),(224,.box (Ti o13.2.2.1::q78 (o13.2.2.2) [.v (zE (γ 90079)),.v (zE (γ 90080))]))]) fun o13=>
 .late (z0L 90079 224 79)<|.late (z0L 90080 224 80)<|.late (z2s 224)<|.ret (some ((o13.2.2,o13.2.1,o13.1)))
theorem zN6 {script1:ByteArray} {r:Option (τI×(List τI)×(List ByteArray))} (h:zB3 script1=some r):zD Tryz.prog 33 [.c (.v (.string script1))] (elO r (.tc (.c (.v (.pointer none))) (.tc (Bo false) .tn)) fun c=>.tc (.pe (Ti c.1.1::q78 (c.1.2) [.sl (c.2.1.map c62),.sl (c.2.2.map c9)])) (.tc (Bo true) .tn)) []:=CtT (zNO script1) (fun r=>(elO r (.tc (.c (.v (.pointer none))) (.tc (Bo false) .tn)) fun c=>.tc (.pe (Ti c.1.1::q78 (c.1.2) [.sl (c.2.1.map c62),.sl (c.2.2.map c9)])) (.tc (Bo true) .tn),[])) (rs:=[.t 2,.t 3]) (vs:=[.tmp 2,.tmp 3]) Tryz.func33 rfl rfl (.cons rfl (.cons rfl FitsL.nil)) h
def zO0 (script1:ByteArray):=fC zMa (zB3 script1) fun _=>zN6
theorem zJD:CfW Tryz.prog 28:=cfW Tryz.func28
noncomputable def zJi (script1:ByteArray):T Tryz.prog ((Int×Int×Int×Bool)):=
 .op1 (zWt script1) fun y2=>
 .n0 (lenM ct9 y2.2.1)<|
 .loop (fun n X_1=>qW y2 n X_1.1 X_1.2.1 X_1.2.2.1 X_1.2.2.2) ((0,0,0,0)) (mb 42 7343872) [129] (fun s X_1 γ=>s.pc (mb 42 7343872) [129] [(9,I X_1.1),(10,I X_1.2.2.1),(11,I X_1.2.2.2),(22,I X_1.2.1)] []) (fun X_1=>
 .cond (ltI X_1.2.1 ((y2.2.1.length:Int))) (.op0 (zBA ct9 y2.2.1 X_1.2.1) fun e10=>.op0 (ldo ct9 y2.2.1 X_1.2.1) fun e11=>
 .cond (e11.toList==((⟨#[110,111]⟩:ByteArray)).toList) (
 .frc (w64 (X_1.1+1)) fun no13=>
 .frc (w64 (X_1.2.1+1)) fun t14=>.ret (.inl ((no13,t14,X_1.2.2.1,X_1.2.2.2))))<|
 .cond (e11.toList==((⟨#[119,104,97,116]⟩:ByteArray)).toList) (
 .frc (w64 (X_1.2.2.1+1)) fun what16=>
 .frc (w64 (X_1.2.1+1)) fun t17=>.ret (.inl ((X_1.1,t17,what16,X_1.2.2.2))))<|
 .frc (w64 (X_1.2.2.2+1)) fun rest18=>
 .frc (w64 (X_1.2.1+1)) fun t19=>.ret (.inl ((X_1.1,t19,X_1.2.2.1,rest18))))<|.ret (.inr ((X_1.1,X_1.2.2.1,X_1.2.2.2)))) (mb 42 3840) [] (fun s o8 γ=>s.pc (mb 42 3840) [] [(9,I o8.1),(10,I o8.2.1),(11,I o8.2.2)] []) fun o8=>
 .ret ((o8.1,o8.2.1,o8.2.2,y2.2.2))
theorem zJs {script1:ByteArray} {r:(Int×Int×Int×Bool)} (h:zBw script1=some r):zD Tryz.prog 28 [.c (.v (.string script1))] (.tc (I r.1) (.tc (I r.2.1) (.tc (I r.2.2.1) (.tc (Bo r.2.2.2) .tn)))) []:=CtT (zJi script1) (fun r=>(.tc (I r.1) (.tc (I r.2.1) (.tc (I r.2.2.1) (.tc (Bo r.2.2.2) .tn))),[])) (rs:=[.t 2,.t 3,.t 4,.t 5]) (vs:=[.tmp 2,.tmp 3,.tmp 4,.tmp 5]) Tryz.func28 rfl rfl (.cons rfl (.cons rfl (.cons rfl (.cons rfl FitsL.nil)))) h
def zKN (script1:ByteArray):=fC zJD (zBw script1) fun _=>zJs
theorem zJJ:CfW Tryz.prog 20:=cfW Tryz.func20
noncomputable def zJo (script1:ByteArray):T Tryz.prog ((Int×Int×Int×Bool)):=
 .op1o (zO0 script1) (
 .lit<|
 .ret ((0,0,0,false))) fun cc3=>
 .lit<|
 .n0 au<|.n0 (lenM ct9 cc3.2.2)<|
 .loop (fun n X_1=>jJ cc3 n X_1.1 X_1.2.1 X_1.2.2) ((0,0,0)) (mb 49 29360960) [] (fun s X_1 γ=>s.pc (mb 49 29360960) [] [(8,I X_1.1),(9,I X_1.2.2),(24,I X_1.2.1)] []) (fun X_1=>
 .cond (ltI X_1.2.1 ((cc3.2.2.length:Int))) (.op0 (idxM ct9 cc3.2.2 X_1.2.1) fun e11=>
 .cond (e11.toList==((⟨#[110,111]⟩:ByteArray)).toList) (
 .frc (w64 (X_1.1+1)) fun no13=>
 .frc (w64 (X_1.2.1+1)) fun t14=>.ret (.inl ((no13,t14,X_1.2.2))))<|
 .cond (e11.toList==((⟨#[119,104,97,116]⟩:ByteArray)).toList) (
 .frc (w64 (X_1.2.2+1)) fun what16=>
 .frc (w64 (X_1.2.1+1)) fun t17=>.ret (.inl ((X_1.1,t17,what16))))<|
 .frc (w64 (X_1.2.1+1)) fun t18=>.ret (.inl ((X_1.1,t18,X_1.2.2))))<|.ret (.inr ((X_1.1,X_1.2.2)))) (mb 49 832) [] (fun s o9 γ=>s.pc (mb 49 832) [] [(8,I o9.1),(9,I o9.2)] []) fun o9=>
 .draw 15 []<|.n0 au<|.n0 (lenM ct9 cc3.2.2)<|
 .frc (w64 ((w64 (((cc3.2.2.length:Int)) - o9.1)) - o9.2)) fun t19=>.ret ((o9.1,o9.2,t19,true))
theorem zJy {script1:ByteArray} {r:(Int×Int×Int×Bool)} (h:zBz script1=some r):zD Tryz.prog 20 [.c (.v (.string script1))] (.tc (I r.1) (.tc (I r.2.1) (.tc (I r.2.2.1) (.tc (Bo r.2.2.2) .tn)))) []:=CtT (zJo script1) (fun r=>(.tc (I r.1) (.tc (I r.2.1) (.tc (I r.2.2.1) (.tc (Bo r.2.2.2) .tn))),[])) (rs:=[.t 2,.t 3,.t 4,.t 5]) (vs:=[.tmp 2,.tmp 3,.tmp 4,.tmp 5]) Tryz.func20 rfl rfl (.cons rfl (.cons rfl (.cons rfl (.cons rfl FitsL.nil)))) h
def zKP (script1:ByteArray):=fC zJJ (zBz script1) fun _=>zJy
noncomputable def zGN (aScript1:ByteArray):T Tryz.prog Bool:=
 .cond (ltI 1048576 ((aScript1.size:Int))) (
 .ret true)<|.op1 (zKN aScript1) fun y3=>
 .op1 (zKP aScript1) fun y4=>
 .dn<|.joinC (.selB (!eqI y4.1 y3.1) false [] fun w_10=>.selB (bif w_10 then true else (!eqI y4.2.1 y3.2.1)) false [] fun w_11=>.selB (bif w_11 then true else (!eqI y4.2.2.1 y3.2.2.1)) false [] fun w_12=>.ret (w_10,w_11,w_12)) (mb 46 35184372088832) [] (fun s q_13 γ=>s.pc (mb 46 35184372088832) [] [(45,Bo (bif q_13.2.2 then true else (y4.2.2.2 != y3.2.2.2)))] []) fun q_13=>
 .lt (bif q_13.2.2 then true else (y4.2.2.2 != y3.2.2.2)) fun t8=>.cond t8 (
 .ret false)<|
 .ret true
theorem zGP {aScript1:ByteArray} {r:Bool} (h:zCS aScript1=some r):zD Tryz.prog 7 [.c (.v (.string aScript1))] (Bo r) []:=CtU (zGN aScript1) 2 (fun r=>Bo r) Tryz.func7 rfl rfl h
end Go.Proofs.YtahdjphocippeaaGreatDoor
