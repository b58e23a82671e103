/-
  Rules of walks, plain functions and their laws, part 6.
  Conditions: none.
-/
import Derived.Test.YtnjhhbcccgbbnaaGreatDoorTv5
set_option linter.unusedSimpArgs false
set_option linter.unusedVariables false
namespace Go.Proofs.YtnjhhbcccgbbnaaGreatDoor
open Go.RowKit
set_option maxRecDepth 100000
set_option maxHeartbeats 400000
noncomputable section
theorem zLV:CfW qf 113:=cfW Tryz.func113
noncomputable def zTX(f1:τF)(x2:Int)(y3:Int):T qf Int:=
 .frc (w64 ((w64 ((w64 ((w64 (f1.1*x2))*x2))+(w64 ((w64 (f1.2.1*x2))*y3))))+(w64 ((w64 (f1.2.2*y3))*y3)))) fun t4=>.ret t4
theorem zMK{f1:τF}{x2:Int}{y3:Int}{r:Int}(h:zBU f1 x2 y3=some r):zH qf 113 [.ag [Ti f1.1,Ti f1.2.1,Ti f1.2.2],I x2,I y3] (I r) []:=CtU (zTX f1 x2 y3) 6 (fun r=>I r) Tryz.func113 rfl rfl h
def zIe(f1:τF)(x2:Int)(y3:Int):=fC zLV (zBU f1 x2 y3) fun _=>zMK
theorem zO6:CfW qf 234:=cfW Tryz.func234
noncomputable def zOy(f1:τF)(x2:Int)(y3:Int)(u4:Int)(v5:Int):T qf Int:=
 .frc (w64 ((w64 ((w64 ((w64 ((w64 (2*f1.1))*x2))*u4))+(w64 (f1.2.1*(w64 ((w64 (x2*v5))+(w64 (y3*u4))))))))+(w64 ((w64 ((w64 (2*f1.2.2))*y3))*v5)))) fun t6=>.ret t6
theorem zPS{f1:τF}{x2:Int}{y3:Int}{u4:Int}{v5:Int}{r:Int}(h:zB8 f1 x2 y3 u4 v5=some r):zH qf 234 [.ag [Ti f1.1,Ti f1.2.1,Ti f1.2.2],I x2,I y3,I u4,I v5] (I r) []:=CtU (zOy f1 x2 y3 u4 v5) 10 (fun r=>I r) Tryz.func234 rfl rfl h
def zQB(f1:τF)(x2:Int)(y3:Int)(u4:Int)(v5:Int):=fC zO6 (zB8 f1 x2 y3 u4 v5) fun _=>zPS
theorem zKP:CfW qf 180:=cfW Tryz.func180
noncomputable def zK8(f1:τF)(vm2:τM):T qf (τF):=
 .draw 23 []<|.op1 (zIe f1 vm2.1 vm2.2.2.1) fun y3=>.op1 (zQB f1 vm2.1 vm2.2.2.1 vm2.2.1 vm2.2.2.2) fun y4=>.op1 (zIe f1 vm2.2.1 vm2.2.2.2) fun y5=>.n0 (bld pl25 bt25)<|
 .ret ((y3,y4,y5))
theorem zKi{f1:τF}{vm2:τM}{r:τF}(h:qE f1 vm2=some r):zH qf 180 [.ag [Ti f1.1,Ti f1.2.1,Ti f1.2.2],.ag [Ti vm2.1,Ti vm2.2.1,Ti vm2.2.2.1,Ti vm2.2.2.2]] (.ag [Ti r.1,Ti r.2.1,Ti r.2.2]) []:=CtT (zK8 f1 vm2) (fun r=>(.ag [Ti r.1,Ti r.2.1,Ti r.2.2],[])) (rs:=[.w 4 3]) (vs:=[.cell 4 25]) Tryz.func180 rfl rfl (.cons ⟨rfl,wd25⟩ FitsL.nil) h
def zDN(f1:τF)(vm2:τM):=fC zKP (qE f1 vm2) fun _=>zKi
theorem zF6:CfW qf 111:=cfW Tryz.func111
noncomputable def zTN(f1:τF)(vm2:τM)(g3:τF):T qf Bool:=
 .pl<|.joinC (.draw 11 []<|.op1 (zIz vm2) fun y4=>.seqT (.cond (eqI y4 1) (.op1 (zDN f1 vm2) fun y6=>.n0 (eqg3 zWo)<|.ret (((y6.1==g3.1)&&((y6.2.1==g3.2.1)&&(y6.2.2==g3.2.2))))) (.ret false)) fun b7=>.ret (y4,b7)) (mb 17 64) [] (fun s q_1 γ=>s.pc (mb 17 64) [] [(6,Bo q_1.2)] []) fun q_1=>
 .ret q_1.2
theorem zFy{f1:τF}{vm2:τM}{g3:τF}{r:Bool}(h:zBP f1 vm2 g3=some r):zH qf 111 [.ag [Ti f1.1,Ti f1.2.1,Ti f1.2.2],.ag [Ti vm2.1,Ti vm2.2.1,Ti vm2.2.2.1,Ti vm2.2.2.2],.ag [Ti g3.1,Ti g3.2.1,Ti g3.2.2]] (Bo r) []:=CtU (zTN f1 vm2 g3) 6 (fun r=>Bo r) Tryz.func111 rfl rfl h
theorem zPq:CfW qf 120:=cfW Tryz.func120
noncomputable def zQP(f1:τF):T qf Int:=
 .frc (w64 ((w64 (f1.2.1*f1.2.1)) - (w64 ((w64 (4*f1.1))*f1.2.2)))) fun t2=>.ret t2
theorem zQ2{f1:τF}{r:Int}(h:qC f1=some r):zH qf 120 [.ag [Ti f1.1,Ti f1.2.1,Ti f1.2.2]] (I r) []:=CtU (zQP f1) 2 (fun r=>I r) Tryz.func120 rfl rfl h
def zC8(f1:τF):=fC zPq (qC f1) fun _=>zQ2
theorem zE0:CfW qf 54:=cfW Tryz.func54
noncomputable def zOs(f1:τF):T qf Bool:=
 .pl<|.joinC (.op1 (zNi f1) fun y2=>.seqT (.cond y2 (.op1 (zC8 f1) fun y4=>.ret (ltI y4 0)) (.ret false)) fun b5=>.selB b5 true [] fun w_2=>.ret (y2,b5,w_2)) (mb 15 4) [] (fun s q_3 γ=>s.pc (mb 15 4) [] [(2,Bo (bif q_3.2.2 then (ltI 0 f1.1) else false))] []) fun q_3=>
 .ret (bif q_3.2.2 then (ltI 0 f1.1) else false)
theorem zEl{f1:τF}{r:Bool}(h:zI f1=some r):zH qf 54 [.ag [Ti f1.1,Ti f1.2.1,Ti f1.2.2]] (Bo r) []:=CtU (zOs f1) 2 (fun r=>Bo r) Tryz.func54 rfl rfl h
def zCv(f1:τF):=fC zE0 (zI f1) fun _=>zEl
theorem zGZ:CfW qf 192:=cfW Tryz.func192
noncomputable def zLv(f1:τF):T qf Bool:=
 .pl<|.joinC (.selB (ltI (w64 (0 - f1.1)) f1.2.1) true [] fun w_2=>.ret w_2) (mb 16 4) [] (fun s q_3 γ=>s.pc (mb 16 4) [] [(2,Bo (bif q_3 then (leI f1.2.1 f1.1) else false))] []) fun q_3=>
 .lt (bif q_3 then (leI f1.2.1 f1.1) else false) fun t3=>.ret t3
theorem zGy{f1:τF}{r:Bool}(h:qU f1=some r):zH qf 192 [.ag [Ti f1.1,Ti f1.2.1,Ti f1.2.2]] (Bo r) []:=CtU (zLv f1) 2 (fun r=>Bo r) Tryz.func192 rfl rfl h
def zMo(f1:τF):=fC zGZ (qU f1) fun _=>zGy
theorem zDK:CfW qf 112:=cfW Tryz.func112
theorem zD9{f1:τF}{r:Bool}(h:zX f1=some r):zH qf 112 [.ag [Ti f1.1,Ti f1.2.1,Ti f1.2.2]] (Bo r) []:=by
 refine CtW [2] Tryz.func112 rfl rfl 24 ?_
 unfold zX at h;refine VE ?_
 obtain⟨y2,hy2,h⟩:=zA h;obtain⟨t6,ht6,h⟩:=zA h;have ht6:=zD ht6;refine zDL (mb 24 4) [] (s1:=⟨.bot::.bot::Bo t6::bt 21 [],[]⟩) ?_ ?_
 ·refine YK 1 (zGy hy2) zGZ ?_
  refine YR 1 ?_
  refine zBB y2 (fun hc3=>?_) (fun hc3=>?_)
  ·refine YQ hc3 ?_
   refine YR 6 ?_
   refine zBB (ltI f1.1 f1.2.2) (fun hc4=>?_) (fun hc4=>?_)
   ·refine YQ hc4 ?_
    exact YE (by rw[←ht6];(try rw[hc4]);(try rw[hc3]);kernel_rfl)
   ·refine YQ hc4 ?_
    refine YR 6 ?_
    refine zBB (eqI f1.1 f1.2.2) (fun hc5=>?_) (fun hc5=>?_)
    ·refine YQ hc5 ?_
     exact YE (by rw[←ht6];(try rw[hc4]);(try rw[hc5]);(try rw[hc3]);kernel_rfl)
    ·refine YQ hc5 ?_
     exact YE (by rw[←ht6];(try rw[hc4]);(try rw[hc5]);(try rw[hc3]);kernel_rfl)
  ·refine YQ hc3 ?_
   exact YE (by rw[←ht6];(try rw[hc3]);kernel_rfl)
 cases h;exact zBW VT
def zEj(f1:τF):=fC zDK (zX f1) fun _=>zD9
theorem zR2:CfW qf 118:=cfW Tryz.func118
noncomputable def z03(vn1:Int):T qf Int:=
 .n0 au<|.n0 au<|
 .frc (mxI vn1 (w64 (0 - (mxI vn1 (-9223372036854775807))))) fun t2=>.ret t2
theorem zTr{vn1:Int}{r:Int}(h:zD5 vn1=some r):zH qf 118 [I vn1] (I r) []:=CtU (z03 vn1) 2 (fun r=>I r) Tryz.func118 rfl rfl h
def zOe(vn1:Int):=fC zR2 (zD5 vn1) fun _=>zTr
theorem zR1:CfW qf 114:=cfW Tryz.func114
noncomputable def z02(a1:Int)(b2:Int):T qf Int:=
 .loop (fun n X_1=>zBf n X_1.1 X_1.2) ((a1,b2)) (mb 13 3) [] (fun s X_1 γ=>s.pc (mb 13 3) [] [(0,I X_1.1),(1,I X_1.2)] []) (fun X_1=>
 .cond (!eqI X_1.2 0) (.draw 6 []<|.op0 (remF .i64 X_1.1 X_1.2) fun z8=>
 .frc (Int.tmod X_1.1 X_1.2) fun b9=>.ret (.inl ((X_1.2,b9))))<|.ret (.inr X_1.1)) (mb 13 1) [] (fun s o6 γ=>s.pc (mb 13 1) [] [(0,I o6)] []) fun o6=>
 .op1 (zOe o6) fun y10=>
 .ret y10
theorem zTn{a1:Int}{b2:Int}{r:Int}(h:zDx a1 b2=some r):zH qf 114 [I a1,I b2] (I r) []:=CtU (z02 a1 b2) 4 (fun r=>I r) Tryz.func114 rfl rfl h
def zId(a1:Int)(b2:Int):=fC zR1 (zDx a1 b2) fun _=>zTn
theorem z0C:CfW qf 137:=cfW Tryz.func137
noncomputable def z01(a1:Int)(vm2:Int):T qf Int:=
 .op0 (remF .i64 a1 vm2) fun z3=>
 .frc (Int.tmod a1 vm2) fun vr4=>
 .cond (ltI vr4 0) (
 .frc (w64 (vr4+vm2)) fun vr6=>
 .ret vr6)<|
 .ret vr4
theorem z08{a1:Int}{vm2:Int}{r:Int}(h:zBO a1 vm2=some r):zH qf 137 [I a1,I vm2] (I r) []:=CtU (z01 a1 vm2) 4 (fun r=>I r) Tryz.func137 rfl rfl h
def zE4(a1:Int)(vm2:Int):=fC z0C (zBO a1 vm2) fun _=>z08
theorem zLE:CfW qf 66:=cfW Tryz.func66
noncomputable def zL6(d1:Int):T qf Bool:=
 .pl<|.joinC (.selB (leI (-2000) d1) true [] fun w_2=>.seqT (.cond (bif w_2 then (leI d1 (-3)) else false) (.op1 (zE4 d1 4) fun y4=>.ret (leI y4 1)) (.ret false)) fun b5=>.ret (w_2,b5)) (mb 14 4) [] (fun s q_3 γ=>s.pc (mb 14 4) [] [(2,Bo q_3.2)] []) fun q_3=>
 .ret q_3.2
theorem zLd{d1:Int}{r:Bool}(h:zAG d1=some r):zH qf 66 [I d1] (Bo r) []:=CtU (zL6 d1) 2 (fun r=>Bo r) Tryz.func66 rfl rfl h
def zEi(d1:Int):=fC zLE (zAG d1) fun _=>zLd
theorem zSY:CfW qf 193:=cfW Tryz.func193
noncomputable def zTQ(vn1:Int):T qf Bool:=
 .cond (ltI vn1 2) (
 .ret false)<|
 .loopS (fun n X_1=>zGD vn1 n X_1) 2 (mb 17 9) [] (fun s X_1 γ=>s.pc (mb 17 9) [] [(3,I X_1)] []) (fun X_1=>
 .cond (leI (w64 (X_1*X_1)) vn1) (.op0 (remF .i64 vn1 X_1) fun z7=>
 .cond (eqI (Int.tmod vn1 X_1) 0) (
 .ret (.early false))<|
 .frc (w64 (X_1+1)) fun p9=>.ret (.again p9))<|.ret (.done (()))) (mb 17 0) [] (fun s o5 γ=>s.pc (mb 17 0) [] [] []) (fun r=>r) fun o5=>
 .ret true
theorem zTl{vn1:Int}{r:Bool}(h:zBR vn1=some r):zH qf 193 [I vn1] (Bo r) []:=CtU (zTQ vn1) 2 (fun r=>Bo r) Tryz.func193 rfl rfl h
def zVS(vn1:Int):=fC zSY (zBR vn1) fun _=>zTl
theorem zRG:CfW qf 132:=cfW Tryz.func132
noncomputable def zRk(vn1:Int)(p2:Int):T qf Int:=
 .loop (fun n X_1=>zEY p2 n X_1.1 X_1.2) ((vn1,0)) (mb 16 35) [] (fun s X_1 γ=>s.pc (mb 16 35) [] [(0,I X_1.1),(5,I X_1.2)] []) (fun X_1=>
 .op0 (remF .i64 X_1.1 p2) fun z7=>
 .cond (eqI (Int.tmod X_1.1 p2) 0) (
 .frc (w64 (X_1.2+1)) fun k9=>.op0 (quoF .i64 X_1.1 p2) fun z10=>
 .frc (w64 (Int.tdiv X_1.1 p2)) fun vn11=>.ret (.inl ((vn11,k9))))<|.ret (.inr X_1.2)) (mb 16 32) [] (fun s o6 γ=>s.pc (mb 16 32) [] [(5,I o6)] []) fun o6=>
 .ret o6
theorem zSF{vn1:Int}{p2:Int}{r:Int}(h:zAD vn1 p2=some r):zH qf 132 [I vn1,I p2] (I r) []:=CtU (zRk vn1 p2) 4 (fun r=>I r) Tryz.func132 rfl rfl h
def zL0(vn1:Int)(p2:Int):=fC zRG (zAD vn1 p2) fun _=>zSF
theorem zHx:CfW qf 133:=cfW Tryz.func133
noncomputable def zIN(d1:Int)(vn2:Int):T qf (List Int):=
 .n1 (nilN 3 1 (by decide))<|
 .n1 bsl0<|
 .loop (fun n X_1=>zM d1 vn2 n X_1.1 X_1.2) ((0,([]:List Int))) (mb 28 99) [56] (fun s X_1 γ=>s.pc (mb 28 99) [56] [(6,I X_1.1)] [(56,.arr 3 1 (X_1.2.map c3))]) (fun X_1=>
 .cond (ltI X_1.1 (w64 (2*vn2))) (.op0 (remF .i64 (w64 ((w64 (X_1.1*X_1.1)) - d1)) (w64 (4*vn2))) fun z8=>
 .lt (eqI (Int.tmod (w64 ((w64 (X_1.1*X_1.1)) - d1)) (w64 (4*vn2))) 0) fun t9=>.cond t9 (.n1 bsl<|.opx (app ct3 X_1.2 ([X_1.1])) fun u11=>
 .frc (w64 (X_1.1+1)) fun b12=>.ret (.inl ((b12,X_1.2++([X_1.1])))))<|
 .frc (w64 (X_1.1+1)) fun b13=>.ret (.inl ((b13,X_1.2))))<|.ret (.inr X_1.2)) (mb 28 32) [56] (fun s o6 γ=>s.pc (mb 28 32) [56] [] [(56,.arr 3 1 (o6.map c3))]) fun o6=>
 .ret o6
theorem zIV{d1:Int}{vn2:Int}{r:List Int}(h:qP d1 vn2=some r):zH qf 133 [I d1,I vn2] (.ow 0) [(0,.arr 3 1 (r.map c3))]:=CtT (zIN d1 vn2) (fun r=>(.ow 0,[(0,.arr 3 1 (r.map c3))])) (rs:=[.t 4]) (vs:=[.tmp 4]) Tryz.func133 rfl rfl (.cons rfl FitsL.nil) h
def zFG(d1:Int)(vn2:Int):=fC zHx (qP d1 vn2) fun _=>zIV
theorem zLj:CfW qf 115:=cfW Tryz.func115
noncomputable def zLt(d1:Int)(vn2:Int)(p3:Int):T qf Bool:=
 .pl<|.joinC (.op1 (zEi d1) fun y4=>.selB y4 true [] fun w_3=>.selB (bif w_3 then (leI 1 vn2) else false) true [] fun w_4=>.seqT (.cond (bif w_4 then (leI p3 2500) else false) (.op1 (zVS p3) fun y8=>.ret y8) (.ret false)) fun b9=>.seqT (.cond b9 (.op1 (zL0 vn2 p3) fun y11=>.n0 dvN<|.ret (eqI (Int.tmod y11 2) 1)) (.ret false)) fun b12=>.seqT (.cond b12 (.op1 (zFG d1 p3) fun y14=>.n0 (lenM ct3 y14)<|.ret (eqI ((y14.length:Int)) 0)) (.ret false)) fun b15=>.ret (y4,w_3,w_4,b9,b12,b15)) (mb 35 64) [] (fun s q_5 γ=>s.pc (mb 35 64) [] [(6,Bo q_5.2.2.2.2.2)] []) fun q_5=>
 .ret q_5.2.2.2.2.2
theorem zMH{d1:Int}{vn2:Int}{p3:Int}{r:Bool}(h:zDs d1 vn2 p3=some r):zH qf 115 [I d1,I vn2,I p3] (Bo r) []:=CtU (zLt d1 vn2 p3) 6 (fun r=>Bo r) Tryz.func115 rfl rfl h
theorem zN2:CfW qf 196:=cfW Tryz.func196
noncomputable def zNp(f1:τF):T qf Bool:=
 .pl<|.joinC (.op1 (zCv f1) fun y2=>.seqT (.cond y2 (.op1 (zC8 f1) fun y4=>.ret (leI (-2000) y4)) (.ret false)) fun b5=>.ret (y2,b5)) (mb 10 4) [] (fun s q_1 γ=>s.pc (mb 10 4) [] [(2,Bo q_1.2)] []) fun q_1=>
 .ret q_1.2
theorem zOC{f1:τF}{r:Bool}(h:jF f1=some r):zH qf 196 [.ag [Ti f1.1,Ti f1.2.1,Ti f1.2.2]] (Bo r) []:=CtU (zNp f1) 2 (fun r=>Bo r) Tryz.func196 rfl rfl h
def zIb(f1:τF):=fC zN2 (jF f1) fun _=>zOC
theorem zMa:CfW qf 206:=cfW Tryz.func206
noncomputable def zNO(f1:τF):T qf Int:=
 .draw 9 []<|.op1 (zId f1.2.1 f1.2.2) fun y2=>.op1 (zId f1.1 y2) fun y3=>
 .ret y3
theorem zNV{f1:τF}{r:Int}(h:zB5 f1=some r):zH qf 206 [.ag [Ti f1.1,Ti f1.2.1,Ti f1.2.2]] (I r) []:=CtU (zNO f1) 2 (fun r=>I r) Tryz.func206 rfl rfl h
def zHj(f1:τF):=fC zMa (zB5 f1) fun _=>zNV
theorem zN3:CfW qf 148:=cfW Tryz.func148
noncomputable def zNq(f1:τF):T qf Bool:=
 .pl<|.joinC (.op1 (zIb f1) fun y2=>.seqT (.cond y2 (.op1 (zHj f1) fun y4=>.ret (eqI y4 1)) (.ret false)) fun b5=>.ret (y2,b5)) (mb 10 4) [] (fun s q_1 γ=>s.pc (mb 10 4) [] [(2,Bo q_1.2)] []) fun q_1=>
 .ret q_1.2
theorem zOD{f1:τF}{r:Bool}(h:qD f1=some r):zH qf 148 [.ag [Ti f1.1,Ti f1.2.1,Ti f1.2.2]] (Bo r) []:=CtU (zNq f1) 2 (fun r=>Bo r) Tryz.func148 rfl rfl h
def zE5(f1:τF):=fC zN3 (qD f1) fun _=>zOD
theorem zH8:CfW qf 140:=cfW Tryz.func140
noncomputable def zTV(f1:τF)(g2:τF):T qf Bool:=
 .pl<|.joinC (.draw 14 []<|.op1 (zE5 f1) fun y3=>.seqT (.cond y3 (.op1 (zE5 g2) fun y5=>.ret y5) (.ret false)) fun b6=>.seqT (.cond b6 (.op1 (zC8 f1) fun y8=>.op1 (zC8 g2) fun y9=>.ret (eqI y8 y9)) (.ret false)) fun b10=>.ret (y3,b6,b10)) (mb 18 16) [] (fun s q_1 γ=>s.pc (mb 18 16) [] [(4,Bo q_1.2.2)] []) fun q_1=>
 .ret q_1.2.2
theorem zIW{f1:τF}{g2:τF}{r:Bool}(h:zCh f1 g2=some r):zH qf 140 [.ag [Ti f1.1,Ti f1.2.1,Ti f1.2.2],.ag [Ti g2.1,Ti g2.2.1,Ti g2.2.2]] (Bo r) []:=CtU (zTV f1 g2) 4 (fun r=>Bo r) Tryz.func140 rfl rfl h
theorem zGc:CfW qf 194:=cfW Tryz.func194
theorem zHY{p1:τM}{q2:τM}{r:(τF×τF×τF)}(h:zA9 p1 q2=some r):zH qf 194 [.ag [Ti p1.1,Ti p1.2.1,Ti p1.2.2.1,Ti p1.2.2.2],.ag [Ti q2.1,Ti q2.2.1,Ti q2.2.2.1,Ti q2.2.2.2]] (.ag [Ti r.1.1,Ti r.1.2.1,Ti r.1.2.2,Ti r.2.1.1,Ti r.2.1.2.1,Ti r.2.1.2.2,Ti r.2.2.1,Ti r.2.2.2.1,Ti r.2.2.2.2]) []:=by
 refine zEA (rs:=[.w 4 9]) (vs:=[.cell 4 173]) Tryz.func194 rfl rfl (.cons ⟨rfl,wd173⟩ FitsL.nil) (by decide) 43 rfl ?_
 unfold zA9 at h;refine VE ?_
 refine VS ?_
 refine L0 rfl rfl (zBj (cs:=[Ti 0,Ti 0,Ti 0,Ti 0,Ti 0,Ti 0,Ti 0,Ti 0,Ti 0]) z7y bt173 rfl rfl kk) ?_
 refine YF ?_
 refine zV ?_
 refine VE ?_
 refine qA (zF3 40 ?_);refine VR_s (n:=39) ?_
 refine jV (mb 43 6200) [40,32,24] (s':=⟨bt 3 (.pt 24 0::.pt 32 0::.pt 40 0::bt 5 (.ag [Ti p1.1,Ti p1.2.1,Ti p1.2.2.1,Ti p1.2.2.2]::I 0::bt 30 [])),[(40,.box [Ti 0,Ti 0,Ti 0,Ti 0,Ti 0,Ti 0,Ti 0,Ti 0,Ti 0]),(32,.box [Ti 0,Ti 0,Ti 0,Ti 0,Ti 0,Ti 0,Ti 0,Ti 0,Ti 0]),(24,.box [Ti q2.1,Ti q2.2.1,Ti q2.2.2.1,Ti q2.2.2.2])]⟩) kk ?_
 refine VE ?_
 refine zV ?_
 refine qG rfl ?_
 refine qV ?_
 show V _ _ _ _;refine zV ?_
 refine qA ?_
 refine VS ?_
 refine YR 1 ?_
 refine L0 rfl rfl (zBJ (c:=fun v=>[Ti v]) (xs:=[p1.1,p1.2.1,p1.2.2.1,p1.2.2.2]) (v:=p1.1) (k:=.i64) (n:=0) Tryz.underlying144 sc3 sz3 rfl kk kk rfl (fun _=>rfl) rfl rfl) ?_
 refine YF ?_
 refine VE ?_
 refine qA (zF3 40 ?_);refine VR_s (n:=39) ?_
 refine jV (mb 43 203000) [40,32,24] (s':=⟨bt 3 (.pt 24 0::.pt 32 0::.pt 40 0::I 0::I p1.1::bt 3 (.ag [Ti p1.1,Ti p1.2.1,Ti p1.2.2.1,Ti p1.2.2.2]::I 0::bt 3 (.ag [Ti q2.1,Ti q2.2.1,Ti q2.2.2.1,Ti q2.2.2.2]::I 0::bt 25 []))),[(40,.box [Ti 0,Ti 0,Ti 0,Ti 0,Ti 0,Ti 0,Ti 0,Ti 0,Ti 0]),(32,.box [Ti 0,Ti 0,Ti 0,Ti 0,Ti 0,Ti 0,Ti 0,Ti 0,Ti 0]),(24,.box [Ti q2.1,Ti q2.2.1,Ti q2.2.2.1,Ti q2.2.2.2])]⟩) kk ?_
 refine VE ?_
 refine zV ?_
 refine qG rfl ?_
 refine qV ?_
 show V _ _ _ _;refine zV ?_
 refine qA ?_
 refine VS ?_
 refine YR 1 ?_
 refine L0 rfl rfl (zBJ (c:=fun v=>[Ti v]) (xs:=[q2.1,q2.2.1,q2.2.2.1,q2.2.2.2]) (v:=q2.1) (k:=.i64) (n:=0) Tryz.underlying144 sc3 sz3 rfl kk kk rfl (fun _=>rfl) rfl rfl) ?_
 refine YF ?_
 obtain⟨f5,hf5,h⟩:=zEL h;refine zFD [0,1,0,4,15,0,32,0,128,480,31,2047,4095,0,0,24576,65535,31,262143,524287] 19 (cdm 19 [2819270816,2819270817,2819270666,2819270682,2819270741,37180572330,37180573354,37180418730,37180435114,37180495530,37179009365,37179708757,37183903061,34941348522,34538695338,34740021930,35791394133,11453245781,22906492245]) (mb 43 203000) [40,32,24] (s1:=⟨bt 3 (.pt 24 0::.pt 32 0::.pt 40 0::I 0::I p1.1::bt 3 (.ag [Ti p1.1,Ti p1.2.1,Ti p1.2.2.1,Ti p1.2.2.2]::I 0::bt 3 (.ag [Ti q2.1,Ti q2.2.1,Ti q2.2.2.1,Ti q2.2.2.2]::I 0::bt 25 []))),[(40,.box [Ti f5,Ti 0,Ti 0,Ti 0,Ti 0,Ti 0,Ti 0,Ti 0,Ti 0]),(32,.box [Ti 0,Ti 0,Ti 0,Ti 0,Ti 0,Ti 0,Ti 0,Ti 0,Ti 0]),(24,.box [Ti q2.1,Ti q2.2.1,Ti q2.2.2.1,Ti q2.2.2.2])]⟩) kk kk ?_ ?_
 ·refine DR 1 ?_
  refine DE_0 1 (I 0) kk rfl rfl rfl (zL rfl) kk (jM (a:=0) (b:=2) rfl kk kk (by decide)) 22 rfl ?_
  refine DR 1 ?_
  refine DE_0 3 (I 0) kk rfl rfl rfl (zL rfl) kk (jM (a:=0) (b:=2) rfl kk kk (by decide)) 24 rfl ?_
  refine DR 2 ?_
  refine DE_0 6 (I 0) kk rfl rfl rfl (zL rfl) kk (zBE (k:=.i64) (a:=0) (b:=2) rfl kk kk (by decide)) 27 rfl ?_
  refine DR 1 ?_
  refine DE_0 8 (I 0) kk rfl rfl rfl (zL rfl) kk (zBE (k:=.i64) (a:=0) (b:=2) rfl kk kk (by decide)) 29 rfl ?_
  refine DA 10 ?_
  refine XR 1 ?_
  refine qN ?_
  subst hf5
  kernel_rfl
 show V _ _ _ _;refine q7 ?_
 refine YF ?_
 show VR _ _ _ _ _;refine VR_s (n:=38) ?_
 refine jV (mb 43 203000) [40,32,24] (s':=⟨bt 3 (.pt 24 0::.pt 32 0::.pt 40 0::I 0::I p1.1::bt 3 (.ag [Ti p1.1,Ti p1.2.1,Ti p1.2.2.1,Ti p1.2.2.2]::I 0::bt 3 (.ag [Ti q2.1,Ti q2.2.1,Ti q2.2.2.1,Ti q2.2.2.2]::I 1::bt 25 []))),[(40,.box [Ti f5,Ti 0,Ti 0,Ti 0,Ti 0,Ti 0,Ti 0,Ti 0,Ti 0]),(32,.box [Ti 0,Ti 0,Ti 0,Ti 0,Ti 0,Ti 0,Ti 0,Ti 0,Ti 0]),(24,.box [Ti q2.1,Ti q2.2.1,Ti q2.2.2.1,Ti q2.2.2.2])]⟩) kk ?_
 refine VE ?_
 refine zV ?_
 refine qG rfl ?_
 refine qV ?_
 show V _ _ _ _;refine zV ?_
 refine qA ?_
 refine VS ?_
 refine YR 1 ?_
 refine L0 rfl rfl (zBJ (c:=fun v=>[Ti v]) (xs:=[q2.1,q2.2.1,q2.2.2.1,q2.2.2.2]) (v:=q2.2.1) (k:=.i64) (n:=1) Tryz.underlying144 sc3 sz3 rfl kk kk rfl (fun _=>rfl) rfl rfl) ?_
 refine YF ?_
 obtain⟨f7,hf7,h⟩:=zEL h;refine zFD [0,1,0,4,15,0,32,0,128,480,31,2047,4095,0,0,24576,65535,31,262143,524287] 19 (cdm 19 [2819270816,2819270817,2819270666,2819270682,2819270741,37180572330,37180573354,37180418730,37180435114,37180495530,37179009365,37179708757,37183903061,34941348522,34538695338,34740021930,35791394133,11453245781,22906492245]) (mb 43 203000) [40,32,24] (s1:=⟨bt 3 (.pt 24 0::.pt 32 0::.pt 40 0::I 0::I p1.1::bt 3 (.ag [Ti p1.1,Ti p1.2.1,Ti p1.2.2.1,Ti p1.2.2.2]::I 0::bt 3 (.ag [Ti q2.1,Ti q2.2.1,Ti q2.2.2.1,Ti q2.2.2.2]::I 1::bt 25 []))),[(40,.box [Ti f5,Ti f7,Ti 0,Ti 0,Ti 0,Ti 0,Ti 0,Ti 0,Ti 0]),(32,.box [Ti 0,Ti 0,Ti 0,Ti 0,Ti 0,Ti 0,Ti 0,Ti 0,Ti 0]),(24,.box [Ti q2.1,Ti q2.2.1,Ti q2.2.2.1,Ti q2.2.2.2])]⟩) kk kk ?_ ?_
 ·refine DR 1 ?_
  refine DE_0 1 (I 0) kk rfl rfl rfl (zL rfl) kk (jM (a:=0) (b:=2) rfl kk kk (by decide)) 22 rfl ?_
  refine DR 1 ?_
  refine DE_0 3 (I 0) kk rfl rfl rfl (zL rfl) kk (jM (a:=1) (b:=2) rfl kk kk (by decide)) 24 rfl ?_
  refine DR 2 ?_
  refine DE_0 6 (I 0) kk rfl rfl rfl (zL rfl) kk (zBE (k:=.i64) (a:=0) (b:=2) rfl kk kk (by decide)) 27 rfl ?_
  refine DR 1 ?_
  refine DE_0 8 (I 1) kk rfl rfl rfl (zL rfl) kk (zBE (k:=.i64) (a:=1) (b:=2) rfl kk kk (by decide)) 29 rfl ?_
  refine DA 10 ?_
  refine XR 1 ?_
  refine qN ?_
  subst hf7
  kernel_rfl
 show V _ _ _ _;refine q7 ?_
 refine YF ?_
 show VR _ _ _ _ _;refine VR_s (n:=37) ?_
 refine jV (mb 43 203000) [40,32,24] (s':=⟨bt 3 (.pt 24 0::.pt 32 0::.pt 40 0::I 0::I p1.1::bt 3 (.ag [Ti p1.1,Ti p1.2.1,Ti p1.2.2.1,Ti p1.2.2.2]::I 0::bt 3 (.ag [Ti q2.1,Ti q2.2.1,Ti q2.2.2.1,Ti q2.2.2.2]::I 2::bt 25 []))),[(40,.box [Ti f5,Ti f7,Ti 0,Ti 0,Ti 0,Ti 0,Ti 0,Ti 0,Ti 0]),(32,.box [Ti 0,Ti 0,Ti 0,Ti 0,Ti 0,Ti 0,Ti 0,Ti 0,Ti 0]),(24,.box [Ti q2.1,Ti q2.2.1,Ti q2.2.2.1,Ti q2.2.2.2])]⟩) kk ?_
 refine VE ?_
 refine zV ?_
 refine qG rfl ?_
 refine qV ?_
 show V _ _ _ _;refine zV ?_
 refine qA ?_
 refine VS ?_
 refine YR 1 ?_
 refine L0 rfl rfl (zBJ (c:=fun v=>[Ti v]) (xs:=[q2.1,q2.2.1,q2.2.2.1,q2.2.2.2]) (v:=q2.2.2.1) (k:=.i64) (n:=2) Tryz.underlying144 sc3 sz3 rfl kk kk rfl (fun _=>rfl) rfl rfl) ?_
 refine YF ?_
 obtain⟨f9,hf9,h⟩:=zEL h;refine zFD [0,1,0,4,15,0,32,0,128,480,31,2047,4095,0,0,24576,65535,31,262143,524287] 19 (cdm 19 [2819270816,2819270817,2819270666,2819270682,2819270741,37180572330,37180573354,37180418730,37180435114,37180495530,37179009365,37179708757,37183903061,34941348522,34538695338,34740021930,35791394133,11453245781,22906492245]) (mb 43 203000) [40,32,24] (s1:=⟨bt 3 (.pt 24 0::.pt 32 0::.pt 40 0::I 0::I p1.1::bt 3 (.ag [Ti p1.1,Ti p1.2.1,Ti p1.2.2.1,Ti p1.2.2.2]::I 0::bt 3 (.ag [Ti q2.1,Ti q2.2.1,Ti q2.2.2.1,Ti q2.2.2.2]::I 2::bt 25 []))),[(40,.box [Ti f5,Ti f7,Ti 0,Ti f9,Ti 0,Ti 0,Ti 0,Ti 0,Ti 0]),(32,.box [Ti 0,Ti 0,Ti 0,Ti 0,Ti 0,Ti 0,Ti 0,Ti 0,Ti 0]),(24,.box [Ti q2.1,Ti q2.2.1,Ti q2.2.2.1,Ti q2.2.2.2])]⟩) kk kk ?_ ?_
 ·refine DR 1 ?_
  refine DE_0 1 (I 0) kk rfl rfl rfl (zL rfl) kk (jM (a:=0) (b:=2) rfl kk kk (by decide)) 22 rfl ?_
  refine DR 1 ?_
  refine DE_0 3 (I 1) kk rfl rfl rfl (zL rfl) kk (jM (a:=2) (b:=2) rfl kk kk (by decide)) 24 rfl ?_
  refine DR 2 ?_
  refine DE_0 6 (I 0) kk rfl rfl rfl (zL rfl) kk (zBE (k:=.i64) (a:=0) (b:=2) rfl kk kk (by decide)) 27 rfl ?_
  refine DR 1 ?_
  refine DE_0 8 (I 0) kk rfl rfl rfl (zL rfl) kk (zBE (k:=.i64) (a:=2) (b:=2) rfl kk kk (by decide)) 29 rfl ?_
  refine DA 10 ?_
  refine XR 1 ?_
  refine qN ?_
  subst hf9
  kernel_rfl
 show V _ _ _ _;refine q7 ?_
 refine YF ?_
 show VR _ _ _ _ _;refine VR_s (n:=36) ?_
 refine jV (mb 43 203000) [40,32,24] (s':=⟨bt 3 (.pt 24 0::.pt 32 0::.pt 40 0::I 0::I p1.1::bt 3 (.ag [Ti p1.1,Ti p1.2.1,Ti p1.2.2.1,Ti p1.2.2.2]::I 0::bt 3 (.ag [Ti q2.1,Ti q2.2.1,Ti q2.2.2.1,Ti q2.2.2.2]::I 3::bt 25 []))),[(40,.box [Ti f5,Ti f7,Ti 0,Ti f9,Ti 0,Ti 0,Ti 0,Ti 0,Ti 0]),(32,.box [Ti 0,Ti 0,Ti 0,Ti 0,Ti 0,Ti 0,Ti 0,Ti 0,Ti 0]),(24,.box [Ti q2.1,Ti q2.2.1,Ti q2.2.2.1,Ti q2.2.2.2])]⟩) kk ?_
 refine VE ?_
 refine zV ?_
 refine qG rfl ?_
 refine qV ?_
 show V _ _ _ _;refine zV ?_
 refine qA ?_
 refine VS ?_
 refine YR 1 ?_
 refine L0 rfl rfl (zBJ (c:=fun v=>[Ti v]) (xs:=[q2.1,q2.2.1,q2.2.2.1,q2.2.2.2]) (v:=q2.2.2.2) (k:=.i64) (n:=3) Tryz.underlying144 sc3 sz3 rfl kk kk rfl (fun _=>rfl) rfl rfl) ?_
 refine YF ?_
 obtain⟨f11,hf11,h⟩:=zEL h;refine zFD [0,1,0,4,15,0,32,0,128,480,31,2047,4095,0,0,24576,65535,31,262143,524287] 19 (cdm 19 [2819270816,2819270817,2819270666,2819270682,2819270741,37180572330,37180573354,37180418730,37180435114,37180495530,37179009365,37179708757,37183903061,34941348522,34538695338,34740021930,35791394133,11453245781,22906492245]) (mb 43 203000) [40,32,24] (s1:=⟨bt 3 (.pt 24 0::.pt 32 0::.pt 40 0::I 0::I p1.1::bt 3 (.ag [Ti p1.1,Ti p1.2.1,Ti p1.2.2.1,Ti p1.2.2.2]::I 0::bt 3 (.ag [Ti q2.1,Ti q2.2.1,Ti q2.2.2.1,Ti q2.2.2.2]::I 3::bt 25 []))),[(40,.box [Ti f5,Ti f7,Ti 0,Ti f9,Ti f11,Ti 0,Ti 0,Ti 0,Ti 0]),(32,.box [Ti 0,Ti 0,Ti 0,Ti 0,Ti 0,Ti 0,Ti 0,Ti 0,Ti 0]),(24,.box [Ti q2.1,Ti q2.2.1,Ti q2.2.2.1,Ti q2.2.2.2])]⟩) kk kk ?_ ?_
 ·refine DR 1 ?_
  refine DE_0 1 (I 0) kk rfl rfl rfl (zL rfl) kk (jM (a:=0) (b:=2) rfl kk kk (by decide)) 22 rfl ?_
  refine DR 1 ?_
  refine DE_0 3 (I 1) kk rfl rfl rfl (zL rfl) kk (jM (a:=3) (b:=2) rfl kk kk (by decide)) 24 rfl ?_
  refine DR 2 ?_
  refine DE_0 6 (I 0) kk rfl rfl rfl (zL rfl) kk (zBE (k:=.i64) (a:=0) (b:=2) rfl kk kk (by decide)) 27 rfl ?_
  refine DR 1 ?_
  refine DE_0 8 (I 1) kk rfl rfl rfl (zL rfl) kk (zBE (k:=.i64) (a:=3) (b:=2) rfl kk kk (by decide)) 29 rfl ?_
  refine DA 10 ?_
  refine XR 1 ?_
  refine qN ?_
  subst hf11
  kernel_rfl
 show V _ _ _ _;refine q7 ?_
 refine YF ?_
 show VR _ _ _ _ _;refine VR_s (n:=35) ?_
 refine jV (mb 43 203000) [40,32,24] (s':=⟨bt 3 (.pt 24 0::.pt 32 0::.pt 40 0::I 0::I p1.1::bt 3 (.ag [Ti p1.1,Ti p1.2.1,Ti p1.2.2.1,Ti p1.2.2.2]::I 0::bt 3 (.ag [Ti q2.1,Ti q2.2.1,Ti q2.2.2.1,Ti q2.2.2.2]::I 4::bt 25 []))),[(40,.box [Ti f5,Ti f7,Ti 0,Ti f9,Ti f11,Ti 0,Ti 0,Ti 0,Ti 0]),(32,.box [Ti 0,Ti 0,Ti 0,Ti 0,Ti 0,Ti 0,Ti 0,Ti 0,Ti 0]),(24,.box [Ti q2.1,Ti q2.2.1,Ti q2.2.2.1,Ti q2.2.2.2])]⟩) kk ?_
 refine VE ?_
 refine zV ?_
 refine zDM rfl ?_
 refine zFU ?_
 show V _ _ _ _;refine q7 ?_
 refine YF ?_
 show VR _ _ _ _ _;refine VR_s (n:=38) ?_
 refine jV (mb 43 6200) [40,32,24] (s':=⟨bt 3 (.pt 24 0::.pt 32 0::.pt 40 0::bt 5 (.ag [Ti p1.1,Ti p1.2.1,Ti p1.2.2.1,Ti p1.2.2.2]::I 1::bt 30 [])),[(40,.box [Ti f5,Ti f7,Ti 0,Ti f9,Ti f11,Ti 0,Ti 0,Ti 0,Ti 0]),(32,.box [Ti 0,Ti 0,Ti 0,Ti 0,Ti 0,Ti 0,Ti 0,Ti 0,Ti 0]),(24,.box [Ti q2.1,Ti q2.2.1,Ti q2.2.2.1,Ti q2.2.2.2])]⟩) kk ?_
 refine VE ?_
 refine zV ?_
 refine qG rfl ?_
 refine qV ?_
 show V _ _ _ _;refine zV ?_
 refine qA ?_
 refine VS ?_
 refine YR 1 ?_
 refine L0 rfl rfl (zBJ (c:=fun v=>[Ti v]) (xs:=[p1.1,p1.2.1,p1.2.2.1,p1.2.2.2]) (v:=p1.2.1) (k:=.i64) (n:=1) Tryz.underlying144 sc3 sz3 rfl kk kk rfl (fun _=>rfl) rfl rfl) ?_
 refine YF ?_
 refine VE ?_
 refine qA (zF3 40 ?_);refine VR_s (n:=39) ?_
 refine jV (mb 43 203000) [40,32,24] (s':=⟨bt 3 (.pt 24 0::.pt 32 0::.pt 40 0::I 1::I p1.2.1::bt 3 (.ag [Ti p1.1,Ti p1.2.1,Ti p1.2.2.1,Ti p1.2.2.2]::I 1::bt 3 (.ag [Ti q2.1,Ti q2.2.1,Ti q2.2.2.1,Ti q2.2.2.2]::I 0::bt 25 []))),[(40,.box [Ti f5,Ti f7,Ti 0,Ti f9,Ti f11,Ti 0,Ti 0,Ti 0,Ti 0]),(32,.box [Ti 0,Ti 0,Ti 0,Ti 0,Ti 0,Ti 0,Ti 0,Ti 0,Ti 0]),(24,.box [Ti q2.1,Ti q2.2.1,Ti q2.2.2.1,Ti q2.2.2.2])]⟩) kk ?_
 refine VE ?_
 refine zV ?_
 refine qG rfl ?_
 refine qV ?_
 show V _ _ _ _;refine zV ?_
 refine qA ?_
 refine VS ?_
 refine YR 1 ?_
 refine L0 rfl rfl (zBJ (c:=fun v=>[Ti v]) (xs:=[q2.1,q2.2.1,q2.2.2.1,q2.2.2.2]) (v:=q2.1) (k:=.i64) (n:=0) Tryz.underlying144 sc3 sz3 rfl kk kk rfl (fun _=>rfl) rfl rfl) ?_
 refine YF ?_
 obtain⟨f15,hf15,h⟩:=zEL h;refine zFD [0,1,0,4,15,0,32,0,128,480,31,2047,4095,0,0,24576,65535,31,262143,524287] 19 (cdm 19 [2819270816,2819270817,2819270666,2819270682,2819270741,37180572330,37180573354,37180418730,37180435114,37180495530,37179009365,37179708757,37183903061,34941348522,34538695338,34740021930,35791394133,11453245781,22906492245]) (mb 43 203000) [40,32,24] (s1:=⟨bt 3 (.pt 24 0::.pt 32 0::.pt 40 0::I 1::I p1.2.1::bt 3 (.ag [Ti p1.1,Ti p1.2.1,Ti p1.2.2.1,Ti p1.2.2.2]::I 1::bt 3 (.ag [Ti q2.1,Ti q2.2.1,Ti q2.2.2.1,Ti q2.2.2.2]::I 0::bt 25 []))),[(40,.box [Ti f5,Ti f15,Ti 0,Ti f9,Ti f11,Ti 0,Ti 0,Ti 0,Ti 0]),(32,.box [Ti 0,Ti 0,Ti 0,Ti 0,Ti 0,Ti 0,Ti 0,Ti 0,Ti 0]),(24,.box [Ti q2.1,Ti q2.2.1,Ti q2.2.2.1,Ti q2.2.2.2])]⟩) kk kk ?_ ?_
 ·refine DR 1 ?_
  refine DE_0 1 (I 0) kk rfl rfl rfl (zL rfl) kk (jM (a:=1) (b:=2) rfl kk kk (by decide)) 22 rfl ?_
  refine DR 1 ?_
  refine DE_0 3 (I 0) kk rfl rfl rfl (zL rfl) kk (jM (a:=0) (b:=2) rfl kk kk (by decide)) 24 rfl ?_
  refine DR 2 ?_
  refine DE_0 6 (I 1) kk rfl rfl rfl (zL rfl) kk (zBE (k:=.i64) (a:=1) (b:=2) rfl kk kk (by decide)) 27 rfl ?_
  refine DR 1 ?_
  refine DE_0 8 (I 0) kk rfl rfl rfl (zL rfl) kk (zBE (k:=.i64) (a:=0) (b:=2) rfl kk kk (by decide)) 29 rfl ?_
  refine DA 10 ?_
  refine XR 1 ?_
  refine qN ?_
  subst hf15
  kernel_rfl
 show V _ _ _ _;refine q7 ?_
 refine YF ?_
 show VR _ _ _ _ _;refine VR_s (n:=38) ?_
 refine jV (mb 43 203000) [40,32,24] (s':=⟨bt 3 (.pt 24 0::.pt 32 0::.pt 40 0::I 1::I p1.2.1::bt 3 (.ag [Ti p1.1,Ti p1.2.1,Ti p1.2.2.1,Ti p1.2.2.2]::I 1::bt 3 (.ag [Ti q2.1,Ti q2.2.1,Ti q2.2.2.1,Ti q2.2.2.2]::I 1::bt 25 []))),[(40,.box [Ti f5,Ti f15,Ti 0,Ti f9,Ti f11,Ti 0,Ti 0,Ti 0,Ti 0]),(32,.box [Ti 0,Ti 0,Ti 0,Ti 0,Ti 0,Ti 0,Ti 0,Ti 0,Ti 0]),(24,.box [Ti q2.1,Ti q2.2.1,Ti q2.2.2.1,Ti q2.2.2.2])]⟩) kk ?_
 refine VE ?_
 refine zV ?_
 refine qG rfl ?_
 refine qV ?_
 show V _ _ _ _;refine zV ?_
 refine qA ?_
 refine VS ?_
 refine YR 1 ?_
 refine L0 rfl rfl (zBJ (c:=fun v=>[Ti v]) (xs:=[q2.1,q2.2.1,q2.2.2.1,q2.2.2.2]) (v:=q2.2.1) (k:=.i64) (n:=1) Tryz.underlying144 sc3 sz3 rfl kk kk rfl (fun _=>rfl) rfl rfl) ?_
 refine YF ?_
 obtain⟨f17,hf17,h⟩:=zEL h;refine zFD [0,1,0,4,15,0,32,0,128,480,31,2047,4095,0,0,24576,65535,31,262143,524287] 19 (cdm 19 [2819270816,2819270817,2819270666,2819270682,2819270741,37180572330,37180573354,37180418730,37180435114,37180495530,37179009365,37179708757,37183903061,34941348522,34538695338,34740021930,35791394133,11453245781,22906492245]) (mb 43 203000) [40,32,24] (s1:=⟨bt 3 (.pt 24 0::.pt 32 0::.pt 40 0::I 1::I p1.2.1::bt 3 (.ag [Ti p1.1,Ti p1.2.1,Ti p1.2.2.1,Ti p1.2.2.2]::I 1::bt 3 (.ag [Ti q2.1,Ti q2.2.1,Ti q2.2.2.1,Ti q2.2.2.2]::I 1::bt 25 []))),[(40,.box [Ti f5,Ti f15,Ti f17,Ti f9,Ti f11,Ti 0,Ti 0,Ti 0,Ti 0]),(32,.box [Ti 0,Ti 0,Ti 0,Ti 0,Ti 0,Ti 0,Ti 0,Ti 0,Ti 0]),(24,.box [Ti q2.1,Ti q2.2.1,Ti q2.2.2.1,Ti q2.2.2.2])]⟩) kk kk ?_ ?_
 ·refine DR 1 ?_
  refine DE_0 1 (I 0) kk rfl rfl rfl (zL rfl) kk (jM (a:=1) (b:=2) rfl kk kk (by decide)) 22 rfl ?_
  refine DR 1 ?_
  refine DE_0 3 (I 0) kk rfl rfl rfl (zL rfl) kk (jM (a:=1) (b:=2) rfl kk kk (by decide)) 24 rfl ?_
  refine DR 2 ?_
  refine DE_0 6 (I 1) kk rfl rfl rfl (zL rfl) kk (zBE (k:=.i64) (a:=1) (b:=2) rfl kk kk (by decide)) 27 rfl ?_
  refine DR 1 ?_
  refine DE_0 8 (I 1) kk rfl rfl rfl (zL rfl) kk (zBE (k:=.i64) (a:=1) (b:=2) rfl kk kk (by decide)) 29 rfl ?_
  refine DA 10 ?_
  refine XR 1 ?_
  refine qN ?_
  subst hf17
  kernel_rfl
 show V _ _ _ _;refine q7 ?_
 refine YF ?_
 show VR _ _ _ _ _;refine VR_s (n:=37) ?_
 refine jV (mb 43 203000) [40,32,24] (s':=⟨bt 3 (.pt 24 0::.pt 32 0::.pt 40 0::I 1::I p1.2.1::bt 3 (.ag [Ti p1.1,Ti p1.2.1,Ti p1.2.2.1,Ti p1.2.2.2]::I 1::bt 3 (.ag [Ti q2.1,Ti q2.2.1,Ti q2.2.2.1,Ti q2.2.2.2]::I 2::bt 25 []))),[(40,.box [Ti f5,Ti f15,Ti f17,Ti f9,Ti f11,Ti 0,Ti 0,Ti 0,Ti 0]),(32,.box [Ti 0,Ti 0,Ti 0,Ti 0,Ti 0,Ti 0,Ti 0,Ti 0,Ti 0]),(24,.box [Ti q2.1,Ti q2.2.1,Ti q2.2.2.1,Ti q2.2.2.2])]⟩) kk ?_
 refine VE ?_
 refine zV ?_
 refine qG rfl ?_
 refine qV ?_
 show V _ _ _ _;refine zV ?_
 refine qA ?_
 refine VS ?_
 refine YR 1 ?_
 refine L0 rfl rfl (zBJ (c:=fun v=>[Ti v]) (xs:=[q2.1,q2.2.1,q2.2.2.1,q2.2.2.2]) (v:=q2.2.2.1) (k:=.i64) (n:=2) Tryz.underlying144 sc3 sz3 rfl kk kk rfl (fun _=>rfl) rfl rfl) ?_
 refine YF ?_
 obtain⟨f19,hf19,h⟩:=zEL h;refine zFD [0,1,0,4,15,0,32,0,128,480,31,2047,4095,0,0,24576,65535,31,262143,524287] 19 (cdm 19 [2819270816,2819270817,2819270666,2819270682,2819270741,37180572330,37180573354,37180418730,37180435114,37180495530,37179009365,37179708757,37183903061,34941348522,34538695338,34740021930,35791394133,11453245781,22906492245]) (mb 43 203000) [40,32,24] (s1:=⟨bt 3 (.pt 24 0::.pt 32 0::.pt 40 0::I 1::I p1.2.1::bt 3 (.ag [Ti p1.1,Ti p1.2.1,Ti p1.2.2.1,Ti p1.2.2.2]::I 1::bt 3 (.ag [Ti q2.1,Ti q2.2.1,Ti q2.2.2.1,Ti q2.2.2.2]::I 2::bt 25 []))),[(40,.box [Ti f5,Ti f15,Ti f17,Ti f9,Ti f19,Ti 0,Ti 0,Ti 0,Ti 0]),(32,.box [Ti 0,Ti 0,Ti 0,Ti 0,Ti 0,Ti 0,Ti 0,Ti 0,Ti 0]),(24,.box [Ti q2.1,Ti q2.2.1,Ti q2.2.2.1,Ti q2.2.2.2])]⟩) kk kk ?_ ?_
 ·refine DR 1 ?_
  refine DE_0 1 (I 0) kk rfl rfl rfl (zL rfl) kk (jM (a:=1) (b:=2) rfl kk kk (by decide)) 22 rfl ?_
  refine DR 1 ?_
  refine DE_0 3 (I 1) kk rfl rfl rfl (zL rfl) kk (jM (a:=2) (b:=2) rfl kk kk (by decide)) 24 rfl ?_
  refine DR 2 ?_
  refine DE_0 6 (I 1) kk rfl rfl rfl (zL rfl) kk (zBE (k:=.i64) (a:=1) (b:=2) rfl kk kk (by decide)) 27 rfl ?_
  refine DR 1 ?_
  refine DE_0 8 (I 0) kk rfl rfl rfl (zL rfl) kk (zBE (k:=.i64) (a:=2) (b:=2) rfl kk kk (by decide)) 29 rfl ?_
  refine DA 10 ?_
  refine XR 1 ?_
  refine qN ?_
  subst hf19
  kernel_rfl
 show V _ _ _ _;refine q7 ?_
 refine YF ?_
 show VR _ _ _ _ _;refine VR_s (n:=36) ?_
 refine jV (mb 43 203000) [40,32,24] (s':=⟨bt 3 (.pt 24 0::.pt 32 0::.pt 40 0::I 1::I p1.2.1::bt 3 (.ag [Ti p1.1,Ti p1.2.1,Ti p1.2.2.1,Ti p1.2.2.2]::I 1::bt 3 (.ag [Ti q2.1,Ti q2.2.1,Ti q2.2.2.1,Ti q2.2.2.2]::I 3::bt 25 []))),[(40,.box [Ti f5,Ti f15,Ti f17,Ti f9,Ti f19,Ti 0,Ti 0,Ti 0,Ti 0]),(32,.box [Ti 0,Ti 0,Ti 0,Ti 0,Ti 0,Ti 0,Ti 0,Ti 0,Ti 0]),(24,.box [Ti q2.1,Ti q2.2.1,Ti q2.2.2.1,Ti q2.2.2.2])]⟩) kk ?_
 refine VE ?_
 refine zV ?_
 refine qG rfl ?_
 refine qV ?_
 show V _ _ _ _;refine zV ?_
 refine qA ?_
 refine VS ?_
 refine YR 1 ?_
 refine L0 rfl rfl (zBJ (c:=fun v=>[Ti v]) (xs:=[q2.1,q2.2.1,q2.2.2.1,q2.2.2.2]) (v:=q2.2.2.2) (k:=.i64) (n:=3) Tryz.underlying144 sc3 sz3 rfl kk kk rfl (fun _=>rfl) rfl rfl) ?_
 refine YF ?_
 obtain⟨f21,hf21,h⟩:=zEL h;refine zFD [0,1,0,4,15,0,32,0,128,480,31,2047,4095,0,0,24576,65535,31,262143,524287] 19 (cdm 19 [2819270816,2819270817,2819270666,2819270682,2819270741,37180572330,37180573354,37180418730,37180435114,37180495530,37179009365,37179708757,37183903061,34941348522,34538695338,34740021930,35791394133,11453245781,22906492245]) (mb 43 203000) [40,32,24] (s1:=⟨bt 3 (.pt 24 0::.pt 32 0::.pt 40 0::I 1::I p1.2.1::bt 3 (.ag [Ti p1.1,Ti p1.2.1,Ti p1.2.2.1,Ti p1.2.2.2]::I 1::bt 3 (.ag [Ti q2.1,Ti q2.2.1,Ti q2.2.2.1,Ti q2.2.2.2]::I 3::bt 25 []))),[(40,.box [Ti f5,Ti f15,Ti f17,Ti f9,Ti f19,Ti f21,Ti 0,Ti 0,Ti 0]),(32,.box [Ti 0,Ti 0,Ti 0,Ti 0,Ti 0,Ti 0,Ti 0,Ti 0,Ti 0]),(24,.box [Ti q2.1,Ti q2.2.1,Ti q2.2.2.1,Ti q2.2.2.2])]⟩) kk kk ?_ ?_
 ·refine DR 1 ?_
  refine DE_0 1 (I 0) kk rfl rfl rfl (zL rfl) kk (jM (a:=1) (b:=2) rfl kk kk (by decide)) 22 rfl ?_
  refine DR 1 ?_
  refine DE_0 3 (I 1) kk rfl rfl rfl (zL rfl) kk (jM (a:=3) (b:=2) rfl kk kk (by decide)) 24 rfl ?_
  refine DR 2 ?_
  refine DE_0 6 (I 1) kk rfl rfl rfl (zL rfl) kk (zBE (k:=.i64) (a:=1) (b:=2) rfl kk kk (by decide)) 27 rfl ?_
  refine DR 1 ?_
  refine DE_0 8 (I 1) kk rfl rfl rfl (zL rfl) kk (zBE (k:=.i64) (a:=3) (b:=2) rfl kk kk (by decide)) 29 rfl ?_
  refine DA 10 ?_
  refine XR 1 ?_
  refine qN ?_
  subst hf21
  kernel_rfl
 show V _ _ _ _;refine q7 ?_
 refine YF ?_
 show VR _ _ _ _ _;refine VR_s (n:=35) ?_
 refine jV (mb 43 203000) [40,32,24] (s':=⟨bt 3 (.pt 24 0::.pt 32 0::.pt 40 0::I 1::I p1.2.1::bt 3 (.ag [Ti p1.1,Ti p1.2.1,Ti p1.2.2.1,Ti p1.2.2.2]::I 1::bt 3 (.ag [Ti q2.1,Ti q2.2.1,Ti q2.2.2.1,Ti q2.2.2.2]::I 4::bt 25 []))),[(40,.box [Ti f5,Ti f15,Ti f17,Ti f9,Ti f19,Ti f21,Ti 0,Ti 0,Ti 0]),(32,.box [Ti 0,Ti 0,Ti 0,Ti 0,Ti 0,Ti 0,Ti 0,Ti 0,Ti 0]),(24,.box [Ti q2.1,Ti q2.2.1,Ti q2.2.2.1,Ti q2.2.2.2])]⟩) kk ?_
 refine VE ?_
 refine zV ?_
 refine zDM rfl ?_
 refine zFU ?_
 show V _ _ _ _;refine q7 ?_
 refine YF ?_
 show VR _ _ _ _ _;refine VR_s (n:=37) ?_
 refine jV (mb 43 6200) [40,32,24] (s':=⟨bt 3 (.pt 24 0::.pt 32 0::.pt 40 0::bt 5 (.ag [Ti p1.1,Ti p1.2.1,Ti p1.2.2.1,Ti p1.2.2.2]::I 2::bt 30 [])),[(40,.box [Ti f5,Ti f15,Ti f17,Ti f9,Ti f19,Ti f21,Ti 0,Ti 0,Ti 0]),(32,.box [Ti 0,Ti 0,Ti 0,Ti 0,Ti 0,Ti 0,Ti 0,Ti 0,Ti 0]),(24,.box [Ti q2.1,Ti q2.2.1,Ti q2.2.2.1,Ti q2.2.2.2])]⟩) kk ?_
 refine VE ?_
 refine zV ?_
 refine qG rfl ?_
 refine qV ?_
 show V _ _ _ _;refine zV ?_
 refine qA ?_
 refine VS ?_
 refine YR 1 ?_
 refine L0 rfl rfl (zBJ (c:=fun v=>[Ti v]) (xs:=[p1.1,p1.2.1,p1.2.2.1,p1.2.2.2]) (v:=p1.2.2.1) (k:=.i64) (n:=2) Tryz.underlying144 sc3 sz3 rfl kk kk rfl (fun _=>rfl) rfl rfl) ?_
 refine YF ?_
 refine VE ?_
 refine qA (zF3 40 ?_);refine VR_s (n:=39) ?_
 refine jV (mb 43 203000) [40,32,24] (s':=⟨bt 3 (.pt 24 0::.pt 32 0::.pt 40 0::I 2::I p1.2.2.1::bt 3 (.ag [Ti p1.1,Ti p1.2.1,Ti p1.2.2.1,Ti p1.2.2.2]::I 2::bt 3 (.ag [Ti q2.1,Ti q2.2.1,Ti q2.2.2.1,Ti q2.2.2.2]::I 0::bt 25 []))),[(40,.box [Ti f5,Ti f15,Ti f17,Ti f9,Ti f19,Ti f21,Ti 0,Ti 0,Ti 0]),(32,.box [Ti 0,Ti 0,Ti 0,Ti 0,Ti 0,Ti 0,Ti 0,Ti 0,Ti 0]),(24,.box [Ti q2.1,Ti q2.2.1,Ti q2.2.2.1,Ti q2.2.2.2])]⟩) kk ?_
 refine VE ?_
 refine zV ?_
 refine qG rfl ?_
 refine qV ?_
 show V _ _ _ _;refine zV ?_
 refine qA ?_
 refine VS ?_
 refine YR 1 ?_
 refine L0 rfl rfl (zBJ (c:=fun v=>[Ti v]) (xs:=[q2.1,q2.2.1,q2.2.2.1,q2.2.2.2]) (v:=q2.1) (k:=.i64) (n:=0) Tryz.underlying144 sc3 sz3 rfl kk kk rfl (fun _=>rfl) rfl rfl) ?_
 refine YF ?_
 obtain⟨f25,hf25,h⟩:=zEL h;refine zFD [0,1,0,4,15,0,32,0,128,480,31,2047,4095,0,0,24576,65535,31,262143,524287] 19 (cdm 19 [2819270816,2819270817,2819270666,2819270682,2819270741,37180572330,37180573354,37180418730,37180435114,37180495530,37179009365,37179708757,37183903061,34941348522,34538695338,34740021930,35791394133,11453245781,22906492245]) (mb 43 203000) [40,32,24] (s1:=⟨bt 3 (.pt 24 0::.pt 32 0::.pt 40 0::I 2::I p1.2.2.1::bt 3 (.ag [Ti p1.1,Ti p1.2.1,Ti p1.2.2.1,Ti p1.2.2.2]::I 2::bt 3 (.ag [Ti q2.1,Ti q2.2.1,Ti q2.2.2.1,Ti q2.2.2.2]::I 0::bt 25 []))),[(40,.box [Ti f5,Ti f15,Ti f17,Ti f25,Ti f19,Ti f21,Ti 0,Ti 0,Ti 0]),(32,.box [Ti 0,Ti 0,Ti 0,Ti 0,Ti 0,Ti 0,Ti 0,Ti 0,Ti 0]),(24,.box [Ti q2.1,Ti q2.2.1,Ti q2.2.2.1,Ti q2.2.2.2])]⟩) kk kk ?_ ?_
 ·refine DR 1 ?_
  refine DE_0 1 (I 1) kk rfl rfl rfl (zL rfl) kk (jM (a:=2) (b:=2) rfl kk kk (by decide)) 22 rfl ?_
  refine DR 1 ?_
  refine DE_0 3 (I 0) kk rfl rfl rfl (zL rfl) kk (jM (a:=0) (b:=2) rfl kk kk (by decide)) 24 rfl ?_
  refine DR 2 ?_
  refine DE_0 6 (I 0) kk rfl rfl rfl (zL rfl) kk (zBE (k:=.i64) (a:=2) (b:=2) rfl kk kk (by decide)) 27 rfl ?_
  refine DR 1 ?_
  refine DE_0 8 (I 0) kk rfl rfl rfl (zL rfl) kk (zBE (k:=.i64) (a:=0) (b:=2) rfl kk kk (by decide)) 29 rfl ?_
  refine DA 10 ?_
  refine XR 1 ?_
  refine qN ?_
  subst hf25
  kernel_rfl
 show V _ _ _ _;refine q7 ?_
 refine YF ?_
 show VR _ _ _ _ _;refine VR_s (n:=38) ?_
 refine jV (mb 43 203000) [40,32,24] (s':=⟨bt 3 (.pt 24 0::.pt 32 0::.pt 40 0::I 2::I p1.2.2.1::bt 3 (.ag [Ti p1.1,Ti p1.2.1,Ti p1.2.2.1,Ti p1.2.2.2]::I 2::bt 3 (.ag [Ti q2.1,Ti q2.2.1,Ti q2.2.2.1,Ti q2.2.2.2]::I 1::bt 25 []))),[(40,.box [Ti f5,Ti f15,Ti f17,Ti f25,Ti f19,Ti f21,Ti 0,Ti 0,Ti 0]),(32,.box [Ti 0,Ti 0,Ti 0,Ti 0,Ti 0,Ti 0,Ti 0,Ti 0,Ti 0]),(24,.box [Ti q2.1,Ti q2.2.1,Ti q2.2.2.1,Ti q2.2.2.2])]⟩) kk ?_
 refine VE ?_
 refine zV ?_
 refine qG rfl ?_
 refine qV ?_
 show V _ _ _ _;refine zV ?_
 refine qA ?_
 refine VS ?_
 refine YR 1 ?_
 refine L0 rfl rfl (zBJ (c:=fun v=>[Ti v]) (xs:=[q2.1,q2.2.1,q2.2.2.1,q2.2.2.2]) (v:=q2.2.1) (k:=.i64) (n:=1) Tryz.underlying144 sc3 sz3 rfl kk kk rfl (fun _=>rfl) rfl rfl) ?_
 refine YF ?_
 obtain⟨f27,hf27,h⟩:=zEL h;refine zFD [0,1,0,4,15,0,32,0,128,480,31,2047,4095,0,0,24576,65535,31,262143,524287] 19 (cdm 19 [2819270816,2819270817,2819270666,2819270682,2819270741,37180572330,37180573354,37180418730,37180435114,37180495530,37179009365,37179708757,37183903061,34941348522,34538695338,34740021930,35791394133,11453245781,22906492245]) (mb 43 203000) [40,32,24] (s1:=⟨bt 3 (.pt 24 0::.pt 32 0::.pt 40 0::I 2::I p1.2.2.1::bt 3 (.ag [Ti p1.1,Ti p1.2.1,Ti p1.2.2.1,Ti p1.2.2.2]::I 2::bt 3 (.ag [Ti q2.1,Ti q2.2.1,Ti q2.2.2.1,Ti q2.2.2.2]::I 1::bt 25 []))),[(40,.box [Ti f5,Ti f15,Ti f17,Ti f25,Ti f27,Ti f21,Ti 0,Ti 0,Ti 0]),(32,.box [Ti 0,Ti 0,Ti 0,Ti 0,Ti 0,Ti 0,Ti 0,Ti 0,Ti 0]),(24,.box [Ti q2.1,Ti q2.2.1,Ti q2.2.2.1,Ti q2.2.2.2])]⟩) kk kk ?_ ?_
 ·refine DR 1 ?_
  refine DE_0 1 (I 1) kk rfl rfl rfl (zL rfl) kk (jM (a:=2) (b:=2) rfl kk kk (by decide)) 22 rfl ?_
  refine DR 1 ?_
  refine DE_0 3 (I 0) kk rfl rfl rfl (zL rfl) kk (jM (a:=1) (b:=2) rfl kk kk (by decide)) 24 rfl ?_
  refine DR 2 ?_
  refine DE_0 6 (I 0) kk rfl rfl rfl (zL rfl) kk (zBE (k:=.i64) (a:=2) (b:=2) rfl kk kk (by decide)) 27 rfl ?_
  refine DR 1 ?_
  refine DE_0 8 (I 1) kk rfl rfl rfl (zL rfl) kk (zBE (k:=.i64) (a:=1) (b:=2) rfl kk kk (by decide)) 29 rfl ?_
  refine DA 10 ?_
  refine XR 1 ?_
  refine qN ?_
  subst hf27
  kernel_rfl
 show V _ _ _ _;refine q7 ?_
 refine YF ?_
 show VR _ _ _ _ _;refine VR_s (n:=37) ?_
 refine jV (mb 43 203000) [40,32,24] (s':=⟨bt 3 (.pt 24 0::.pt 32 0::.pt 40 0::I 2::I p1.2.2.1::bt 3 (.ag [Ti p1.1,Ti p1.2.1,Ti p1.2.2.1,Ti p1.2.2.2]::I 2::bt 3 (.ag [Ti q2.1,Ti q2.2.1,Ti q2.2.2.1,Ti q2.2.2.2]::I 2::bt 25 []))),[(40,.box [Ti f5,Ti f15,Ti f17,Ti f25,Ti f27,Ti f21,Ti 0,Ti 0,Ti 0]),(32,.box [Ti 0,Ti 0,Ti 0,Ti 0,Ti 0,Ti 0,Ti 0,Ti 0,Ti 0]),(24,.box [Ti q2.1,Ti q2.2.1,Ti q2.2.2.1,Ti q2.2.2.2])]⟩) kk ?_
 refine VE ?_
 refine zV ?_
 refine qG rfl ?_
 refine qV ?_
 show V _ _ _ _;refine zV ?_
 refine qA ?_
 refine VS ?_
 refine YR 1 ?_
 refine L0 rfl rfl (zBJ (c:=fun v=>[Ti v]) (xs:=[q2.1,q2.2.1,q2.2.2.1,q2.2.2.2]) (v:=q2.2.2.1) (k:=.i64) (n:=2) Tryz.underlying144 sc3 sz3 rfl kk kk rfl (fun _=>rfl) rfl rfl) ?_
 refine YF ?_
 obtain⟨f29,hf29,h⟩:=zEL h;refine zFD [0,1,0,4,15,0,32,0,128,480,31,2047,4095,0,0,24576,65535,31,262143,524287] 19 (cdm 19 [2819270816,2819270817,2819270666,2819270682,2819270741,37180572330,37180573354,37180418730,37180435114,37180495530,37179009365,37179708757,37183903061,34941348522,34538695338,34740021930,35791394133,11453245781,22906492245]) (mb 43 203000) [40,32,24] (s1:=⟨bt 3 (.pt 24 0::.pt 32 0::.pt 40 0::I 2::I p1.2.2.1::bt 3 (.ag [Ti p1.1,Ti p1.2.1,Ti p1.2.2.1,Ti p1.2.2.2]::I 2::bt 3 (.ag [Ti q2.1,Ti q2.2.1,Ti q2.2.2.1,Ti q2.2.2.2]::I 2::bt 25 []))),[(40,.box [Ti f5,Ti f15,Ti f17,Ti f25,Ti f27,Ti f21,Ti f29,Ti 0,Ti 0]),(32,.box [Ti 0,Ti 0,Ti 0,Ti 0,Ti 0,Ti 0,Ti 0,Ti 0,Ti 0]),(24,.box [Ti q2.1,Ti q2.2.1,Ti q2.2.2.1,Ti q2.2.2.2])]⟩) kk kk ?_ ?_
 ·refine DR 1 ?_
  refine DE_0 1 (I 1) kk rfl rfl rfl (zL rfl) kk (jM (a:=2) (b:=2) rfl kk kk (by decide)) 22 rfl ?_
  refine DR 1 ?_
  refine DE_0 3 (I 1) kk rfl rfl rfl (zL rfl) kk (jM (a:=2) (b:=2) rfl kk kk (by decide)) 24 rfl ?_
  refine DR 2 ?_
  refine DE_0 6 (I 0) kk rfl rfl rfl (zL rfl) kk (zBE (k:=.i64) (a:=2) (b:=2) rfl kk kk (by decide)) 27 rfl ?_
  refine DR 1 ?_
  refine DE_0 8 (I 0) kk rfl rfl rfl (zL rfl) kk (zBE (k:=.i64) (a:=2) (b:=2) rfl kk kk (by decide)) 29 rfl ?_
  refine DA 10 ?_
  refine XR 1 ?_
  refine qN ?_
  subst hf29
  kernel_rfl
 show V _ _ _ _;refine q7 ?_
 refine YF ?_
 show VR _ _ _ _ _;refine VR_s (n:=36) ?_
 refine jV (mb 43 203000) [40,32,24] (s':=⟨bt 3 (.pt 24 0::.pt 32 0::.pt 40 0::I 2::I p1.2.2.1::bt 3 (.ag [Ti p1.1,Ti p1.2.1,Ti p1.2.2.1,Ti p1.2.2.2]::I 2::bt 3 (.ag [Ti q2.1,Ti q2.2.1,Ti q2.2.2.1,Ti q2.2.2.2]::I 3::bt 25 []))),[(40,.box [Ti f5,Ti f15,Ti f17,Ti f25,Ti f27,Ti f21,Ti f29,Ti 0,Ti 0]),(32,.box [Ti 0,Ti 0,Ti 0,Ti 0,Ti 0,Ti 0,Ti 0,Ti 0,Ti 0]),(24,.box [Ti q2.1,Ti q2.2.1,Ti q2.2.2.1,Ti q2.2.2.2])]⟩) kk ?_
 refine VE ?_
 refine zV ?_
 refine qG rfl ?_
 refine qV ?_
 show V _ _ _ _;refine zV ?_
 refine qA ?_
 refine VS ?_
 refine YR 1 ?_
 refine L0 rfl rfl (zBJ (c:=fun v=>[Ti v]) (xs:=[q2.1,q2.2.1,q2.2.2.1,q2.2.2.2]) (v:=q2.2.2.2) (k:=.i64) (n:=3) Tryz.underlying144 sc3 sz3 rfl kk kk rfl (fun _=>rfl) rfl rfl) ?_
 refine YF ?_
 obtain⟨f31,hf31,h⟩:=zEL h;refine zFD [0,1,0,4,15,0,32,0,128,480,31,2047,4095,0,0,24576,65535,31,262143,524287] 19 (cdm 19 [2819270816,2819270817,2819270666,2819270682,2819270741,37180572330,37180573354,37180418730,37180435114,37180495530,37179009365,37179708757,37183903061,34941348522,34538695338,34740021930,35791394133,11453245781,22906492245]) (mb 43 203000) [40,32,24] (s1:=⟨bt 3 (.pt 24 0::.pt 32 0::.pt 40 0::I 2::I p1.2.2.1::bt 3 (.ag [Ti p1.1,Ti p1.2.1,Ti p1.2.2.1,Ti p1.2.2.2]::I 2::bt 3 (.ag [Ti q2.1,Ti q2.2.1,Ti q2.2.2.1,Ti q2.2.2.2]::I 3::bt 25 []))),[(40,.box [Ti f5,Ti f15,Ti f17,Ti f25,Ti f27,Ti f21,Ti f29,Ti f31,Ti 0]),(32,.box [Ti 0,Ti 0,Ti 0,Ti 0,Ti 0,Ti 0,Ti 0,Ti 0,Ti 0]),(24,.box [Ti q2.1,Ti q2.2.1,Ti q2.2.2.1,Ti q2.2.2.2])]⟩) kk kk ?_ ?_
 ·refine DR 1 ?_
  refine DE_0 1 (I 1) kk rfl rfl rfl (zL rfl) kk (jM (a:=2) (b:=2) rfl kk kk (by decide)) 22 rfl ?_
  refine DR 1 ?_
  refine DE_0 3 (I 1) kk rfl rfl rfl (zL rfl) kk (jM (a:=3) (b:=2) rfl kk kk (by decide)) 24 rfl ?_
  refine DR 2 ?_
  refine DE_0 6 (I 0) kk rfl rfl rfl (zL rfl) kk (zBE (k:=.i64) (a:=2) (b:=2) rfl kk kk (by decide)) 27 rfl ?_
  refine DR 1 ?_
  refine DE_0 8 (I 1) kk rfl rfl rfl (zL rfl) kk (zBE (k:=.i64) (a:=3) (b:=2) rfl kk kk (by decide)) 29 rfl ?_
  refine DA 10 ?_
  refine XR 1 ?_
  refine qN ?_
  subst hf31
  kernel_rfl
 show V _ _ _ _;refine q7 ?_
 refine YF ?_
 show VR _ _ _ _ _;refine VR_s (n:=35) ?_
 refine jV (mb 43 203000) [40,32,24] (s':=⟨bt 3 (.pt 24 0::.pt 32 0::.pt 40 0::I 2::I p1.2.2.1::bt 3 (.ag [Ti p1.1,Ti p1.2.1,Ti p1.2.2.1,Ti p1.2.2.2]::I 2::bt 3 (.ag [Ti q2.1,Ti q2.2.1,Ti q2.2.2.1,Ti q2.2.2.2]::I 4::bt 25 []))),[(40,.box [Ti f5,Ti f15,Ti f17,Ti f25,Ti f27,Ti f21,Ti f29,Ti f31,Ti 0]),(32,.box [Ti 0,Ti 0,Ti 0,Ti 0,Ti 0,Ti 0,Ti 0,Ti 0,Ti 0]),(24,.box [Ti q2.1,Ti q2.2.1,Ti q2.2.2.1,Ti q2.2.2.2])]⟩) kk ?_
 refine VE ?_
 refine zV ?_
 refine zDM rfl ?_
 refine zFU ?_
 show V _ _ _ _;refine q7 ?_
 refine YF ?_
 show VR _ _ _ _ _;refine VR_s (n:=36) ?_
 refine jV (mb 43 6200) [40,32,24] (s':=⟨bt 3 (.pt 24 0::.pt 32 0::.pt 40 0::bt 5 (.ag [Ti p1.1,Ti p1.2.1,Ti p1.2.2.1,Ti p1.2.2.2]::I 3::bt 30 [])),[(40,.box [Ti f5,Ti f15,Ti f17,Ti f25,Ti f27,Ti f21,Ti f29,Ti f31,Ti 0]),(32,.box [Ti 0,Ti 0,Ti 0,Ti 0,Ti 0,Ti 0,Ti 0,Ti 0,Ti 0]),(24,.box [Ti q2.1,Ti q2.2.1,Ti q2.2.2.1,Ti q2.2.2.2])]⟩) kk ?_
 refine VE ?_
 refine zV ?_
 refine qG rfl ?_
 refine qV ?_
 show V _ _ _ _;refine zV ?_
 refine qA ?_
 refine VS ?_
 refine YR 1 ?_
 refine L0 rfl rfl (zBJ (c:=fun v=>[Ti v]) (xs:=[p1.1,p1.2.1,p1.2.2.1,p1.2.2.2]) (v:=p1.2.2.2) (k:=.i64) (n:=3) Tryz.underlying144 sc3 sz3 rfl kk kk rfl (fun _=>rfl) rfl rfl) ?_
 refine YF ?_
 refine VE ?_
 refine qA (zF3 40 ?_);refine VR_s (n:=39) ?_
 refine jV (mb 43 203000) [40,32,24] (s':=⟨bt 3 (.pt 24 0::.pt 32 0::.pt 40 0::I 3::I p1.2.2.2::bt 3 (.ag [Ti p1.1,Ti p1.2.1,Ti p1.2.2.1,Ti p1.2.2.2]::I 3::bt 3 (.ag [Ti q2.1,Ti q2.2.1,Ti q2.2.2.1,Ti q2.2.2.2]::I 0::bt 25 []))),[(40,.box [Ti f5,Ti f15,Ti f17,Ti f25,Ti f27,Ti f21,Ti f29,Ti f31,Ti 0]),(32,.box [Ti 0,Ti 0,Ti 0,Ti 0,Ti 0,Ti 0,Ti 0,Ti 0,Ti 0]),(24,.box [Ti q2.1,Ti q2.2.1,Ti q2.2.2.1,Ti q2.2.2.2])]⟩) kk ?_
 refine VE ?_
 refine zV ?_
 refine qG rfl ?_
 refine qV ?_
 show V _ _ _ _;refine zV ?_
 refine qA ?_
 refine VS ?_
 refine YR 1 ?_
 refine L0 rfl rfl (zBJ (c:=fun v=>[Ti v]) (xs:=[q2.1,q2.2.1,q2.2.2.1,q2.2.2.2]) (v:=q2.1) (k:=.i64) (n:=0) Tryz.underlying144 sc3 sz3 rfl kk kk rfl (fun _=>rfl) rfl rfl) ?_
 refine YF ?_
 obtain⟨f35,hf35,h⟩:=zEL h;refine zFD [0,1,0,4,15,0,32,0,128,480,31,2047,4095,0,0,24576,65535,31,262143,524287] 19 (cdm 19 [2819270816,2819270817,2819270666,2819270682,2819270741,37180572330,37180573354,37180418730,37180435114,37180495530,37179009365,37179708757,37183903061,34941348522,34538695338,34740021930,35791394133,11453245781,22906492245]) (mb 43 203000) [40,32,24] (s1:=⟨bt 3 (.pt 24 0::.pt 32 0::.pt 40 0::I 3::I p1.2.2.2::bt 3 (.ag [Ti p1.1,Ti p1.2.1,Ti p1.2.2.1,Ti p1.2.2.2]::I 3::bt 3 (.ag [Ti q2.1,Ti q2.2.1,Ti q2.2.2.1,Ti q2.2.2.2]::I 0::bt 25 []))),[(40,.box [Ti f5,Ti f15,Ti f17,Ti f25,Ti f35,Ti f21,Ti f29,Ti f31,Ti 0]),(32,.box [Ti 0,Ti 0,Ti 0,Ti 0,Ti 0,Ti 0,Ti 0,Ti 0,Ti 0]),(24,.box [Ti q2.1,Ti q2.2.1,Ti q2.2.2.1,Ti q2.2.2.2])]⟩) kk kk ?_ ?_
 ·refine DR 1 ?_
  refine DE_0 1 (I 1) kk rfl rfl rfl (zL rfl) kk (jM (a:=3) (b:=2) rfl kk kk (by decide)) 22 rfl ?_
  refine DR 1 ?_
  refine DE_0 3 (I 0) kk rfl rfl rfl (zL rfl) kk (jM (a:=0) (b:=2) rfl kk kk (by decide)) 24 rfl ?_
  refine DR 2 ?_
  refine DE_0 6 (I 1) kk rfl rfl rfl (zL rfl) kk (zBE (k:=.i64) (a:=3) (b:=2) rfl kk kk (by decide)) 27 rfl ?_
  refine DR 1 ?_
  refine DE_0 8 (I 0) kk rfl rfl rfl (zL rfl) kk (zBE (k:=.i64) (a:=0) (b:=2) rfl kk kk (by decide)) 29 rfl ?_
  refine DA 10 ?_
  refine XR 1 ?_
  refine qN ?_
  subst hf35
  kernel_rfl
 show V _ _ _ _;refine q7 ?_
 refine YF ?_
 show VR _ _ _ _ _;refine VR_s (n:=38) ?_
 refine jV (mb 43 203000) [40,32,24] (s':=⟨bt 3 (.pt 24 0::.pt 32 0::.pt 40 0::I 3::I p1.2.2.2::bt 3 (.ag [Ti p1.1,Ti p1.2.1,Ti p1.2.2.1,Ti p1.2.2.2]::I 3::bt 3 (.ag [Ti q2.1,Ti q2.2.1,Ti q2.2.2.1,Ti q2.2.2.2]::I 1::bt 25 []))),[(40,.box [Ti f5,Ti f15,Ti f17,Ti f25,Ti f35,Ti f21,Ti f29,Ti f31,Ti 0]),(32,.box [Ti 0,Ti 0,Ti 0,Ti 0,Ti 0,Ti 0,Ti 0,Ti 0,Ti 0]),(24,.box [Ti q2.1,Ti q2.2.1,Ti q2.2.2.1,Ti q2.2.2.2])]⟩) kk ?_
 refine VE ?_
 refine zV ?_
 refine qG rfl ?_
 refine qV ?_
 show V _ _ _ _;refine zV ?_
 refine qA ?_
 refine VS ?_
 refine YR 1 ?_
 refine L0 rfl rfl (zBJ (c:=fun v=>[Ti v]) (xs:=[q2.1,q2.2.1,q2.2.2.1,q2.2.2.2]) (v:=q2.2.1) (k:=.i64) (n:=1) Tryz.underlying144 sc3 sz3 rfl kk kk rfl (fun _=>rfl) rfl rfl) ?_
 refine YF ?_
 obtain⟨f37,hf37,h⟩:=zEL h;refine zFD [0,1,0,4,15,0,32,0,128,480,31,2047,4095,0,0,24576,65535,31,262143,524287] 19 (cdm 19 [2819270816,2819270817,2819270666,2819270682,2819270741,37180572330,37180573354,37180418730,37180435114,37180495530,37179009365,37179708757,37183903061,34941348522,34538695338,34740021930,35791394133,11453245781,22906492245]) (mb 43 203000) [40,32,24] (s1:=⟨bt 3 (.pt 24 0::.pt 32 0::.pt 40 0::I 3::I p1.2.2.2::bt 3 (.ag [Ti p1.1,Ti p1.2.1,Ti p1.2.2.1,Ti p1.2.2.2]::I 3::bt 3 (.ag [Ti q2.1,Ti q2.2.1,Ti q2.2.2.1,Ti q2.2.2.2]::I 1::bt 25 []))),[(40,.box [Ti f5,Ti f15,Ti f17,Ti f25,Ti f35,Ti f37,Ti f29,Ti f31,Ti 0]),(32,.box [Ti 0,Ti 0,Ti 0,Ti 0,Ti 0,Ti 0,Ti 0,Ti 0,Ti 0]),(24,.box [Ti q2.1,Ti q2.2.1,Ti q2.2.2.1,Ti q2.2.2.2])]⟩) kk kk ?_ ?_
 ·refine DR 1 ?_
  refine DE_0 1 (I 1) kk rfl rfl rfl (zL rfl) kk (jM (a:=3) (b:=2) rfl kk kk (by decide)) 22 rfl ?_
  refine DR 1 ?_
  refine DE_0 3 (I 0) kk rfl rfl rfl (zL rfl) kk (jM (a:=1) (b:=2) rfl kk kk (by decide)) 24 rfl ?_
  refine DR 2 ?_
  refine DE_0 6 (I 1) kk rfl rfl rfl (zL rfl) kk (zBE (k:=.i64) (a:=3) (b:=2) rfl kk kk (by decide)) 27 rfl ?_
  refine DR 1 ?_
  refine DE_0 8 (I 1) kk rfl rfl rfl (zL rfl) kk (zBE (k:=.i64) (a:=1) (b:=2) rfl kk kk (by decide)) 29 rfl ?_
  refine DA 10 ?_
  refine XR 1 ?_
  refine qN ?_
  subst hf37
  kernel_rfl
 show V _ _ _ _;refine q7 ?_
 refine YF ?_
 show VR _ _ _ _ _;refine VR_s (n:=37) ?_
 refine jV (mb 43 203000) [40,32,24] (s':=⟨bt 3 (.pt 24 0::.pt 32 0::.pt 40 0::I 3::I p1.2.2.2::bt 3 (.ag [Ti p1.1,Ti p1.2.1,Ti p1.2.2.1,Ti p1.2.2.2]::I 3::bt 3 (.ag [Ti q2.1,Ti q2.2.1,Ti q2.2.2.1,Ti q2.2.2.2]::I 2::bt 25 []))),[(40,.box [Ti f5,Ti f15,Ti f17,Ti f25,Ti f35,Ti f37,Ti f29,Ti f31,Ti 0]),(32,.box [Ti 0,Ti 0,Ti 0,Ti 0,Ti 0,Ti 0,Ti 0,Ti 0,Ti 0]),(24,.box [Ti q2.1,Ti q2.2.1,Ti q2.2.2.1,Ti q2.2.2.2])]⟩) kk ?_
 refine VE ?_
 refine zV ?_
 refine qG rfl ?_
 refine qV ?_
 show V _ _ _ _;refine zV ?_
 refine qA ?_
 refine VS ?_
 refine YR 1 ?_
 refine L0 rfl rfl (zBJ (c:=fun v=>[Ti v]) (xs:=[q2.1,q2.2.1,q2.2.2.1,q2.2.2.2]) (v:=q2.2.2.1) (k:=.i64) (n:=2) Tryz.underlying144 sc3 sz3 rfl kk kk rfl (fun _=>rfl) rfl rfl) ?_
 refine YF ?_
 obtain⟨f39,hf39,h⟩:=zEL h;refine zFD [0,1,0,4,15,0,32,0,128,480,31,2047,4095,0,0,24576,65535,31,262143,524287] 19 (cdm 19 [2819270816,2819270817,2819270666,2819270682,2819270741,37180572330,37180573354,37180418730,37180435114,37180495530,37179009365,37179708757,37183903061,34941348522,34538695338,34740021930,35791394133,11453245781,22906492245]) (mb 43 203000) [40,32,24] (s1:=⟨bt 3 (.pt 24 0::.pt 32 0::.pt 40 0::I 3::I p1.2.2.2::bt 3 (.ag [Ti p1.1,Ti p1.2.1,Ti p1.2.2.1,Ti p1.2.2.2]::I 3::bt 3 (.ag [Ti q2.1,Ti q2.2.1,Ti q2.2.2.1,Ti q2.2.2.2]::I 2::bt 25 []))),[(40,.box [Ti f5,Ti f15,Ti f17,Ti f25,Ti f35,Ti f37,Ti f29,Ti f39,Ti 0]),(32,.box [Ti 0,Ti 0,Ti 0,Ti 0,Ti 0,Ti 0,Ti 0,Ti 0,Ti 0]),(24,.box [Ti q2.1,Ti q2.2.1,Ti q2.2.2.1,Ti q2.2.2.2])]⟩) kk kk ?_ ?_
 ·refine DR 1 ?_
  refine DE_0 1 (I 1) kk rfl rfl rfl (zL rfl) kk (jM (a:=3) (b:=2) rfl kk kk (by decide)) 22 rfl ?_
  refine DR 1 ?_
  refine DE_0 3 (I 1) kk rfl rfl rfl (zL rfl) kk (jM (a:=2) (b:=2) rfl kk kk (by decide)) 24 rfl ?_
  refine DR 2 ?_
  refine DE_0 6 (I 1) kk rfl rfl rfl (zL rfl) kk (zBE (k:=.i64) (a:=3) (b:=2) rfl kk kk (by decide)) 27 rfl ?_
  refine DR 1 ?_
  refine DE_0 8 (I 0) kk rfl rfl rfl (zL rfl) kk (zBE (k:=.i64) (a:=2) (b:=2) rfl kk kk (by decide)) 29 rfl ?_
  refine DA 10 ?_
  refine XR 1 ?_
  refine qN ?_
  subst hf39
  kernel_rfl
 show V _ _ _ _;refine q7 ?_
 refine YF ?_
 show VR _ _ _ _ _;refine VR_s (n:=36) ?_
 refine jV (mb 43 203000) [40,32,24] (s':=⟨bt 3 (.pt 24 0::.pt 32 0::.pt 40 0::I 3::I p1.2.2.2::bt 3 (.ag [Ti p1.1,Ti p1.2.1,Ti p1.2.2.1,Ti p1.2.2.2]::I 3::bt 3 (.ag [Ti q2.1,Ti q2.2.1,Ti q2.2.2.1,Ti q2.2.2.2]::I 3::bt 25 []))),[(40,.box [Ti f5,Ti f15,Ti f17,Ti f25,Ti f35,Ti f37,Ti f29,Ti f39,Ti 0]),(32,.box [Ti 0,Ti 0,Ti 0,Ti 0,Ti 0,Ti 0,Ti 0,Ti 0,Ti 0]),(24,.box [Ti q2.1,Ti q2.2.1,Ti q2.2.2.1,Ti q2.2.2.2])]⟩) kk ?_
 refine VE ?_
 refine zV ?_
 refine qG rfl ?_
 refine qV ?_
 show V _ _ _ _;refine zV ?_
 refine qA ?_
 refine VS ?_
 refine YR 1 ?_
 refine L0 rfl rfl (zBJ (c:=fun v=>[Ti v]) (xs:=[q2.1,q2.2.1,q2.2.2.1,q2.2.2.2]) (v:=q2.2.2.2) (k:=.i64) (n:=3) Tryz.underlying144 sc3 sz3 rfl kk kk rfl (fun _=>rfl) rfl rfl) ?_
 refine YF ?_
 obtain⟨f41,hf41,h⟩:=zEL h;refine zFD [0,1,0,4,15,0,32,0,128,480,31,2047,4095,0,0,24576,65535,31,262143,524287] 19 (cdm 19 [2819270816,2819270817,2819270666,2819270682,2819270741,37180572330,37180573354,37180418730,37180435114,37180495530,37179009365,37179708757,37183903061,34941348522,34538695338,34740021930,35791394133,11453245781,22906492245]) (mb 43 203000) [40,32,24] (s1:=⟨bt 3 (.pt 24 0::.pt 32 0::.pt 40 0::I 3::I p1.2.2.2::bt 3 (.ag [Ti p1.1,Ti p1.2.1,Ti p1.2.2.1,Ti p1.2.2.2]::I 3::bt 3 (.ag [Ti q2.1,Ti q2.2.1,Ti q2.2.2.1,Ti q2.2.2.2]::I 3::bt 25 []))),[(40,.box [Ti f5,Ti f15,Ti f17,Ti f25,Ti f35,Ti f37,Ti f29,Ti f39,Ti f41]),(32,.box [Ti 0,Ti 0,Ti 0,Ti 0,Ti 0,Ti 0,Ti 0,Ti 0,Ti 0]),(24,.box [Ti q2.1,Ti q2.2.1,Ti q2.2.2.1,Ti q2.2.2.2])]⟩) kk kk ?_ ?_
 ·refine DR 1 ?_
  refine DE_0 1 (I 1) kk rfl rfl rfl (zL rfl) kk (jM (a:=3) (b:=2) rfl kk kk (by decide)) 22 rfl ?_
  refine DR 1 ?_
  refine DE_0 3 (I 1) kk rfl rfl rfl (zL rfl) kk (jM (a:=3) (b:=2) rfl kk kk (by decide)) 24 rfl ?_
  refine DR 2 ?_
  refine DE_0 6 (I 1) kk rfl rfl rfl (zL rfl) kk (zBE (k:=.i64) (a:=3) (b:=2) rfl kk kk (by decide)) 27 rfl ?_
  refine DR 1 ?_
  refine DE_0 8 (I 1) kk rfl rfl rfl (zL rfl) kk (zBE (k:=.i64) (a:=3) (b:=2) rfl kk kk (by decide)) 29 rfl ?_
  refine DA 10 ?_
  refine XR 1 ?_
  refine qN ?_
  subst hf41
  kernel_rfl
 show V _ _ _ _;refine q7 ?_
 refine YF ?_
 show VR _ _ _ _ _;refine VR_s (n:=35) ?_
 refine jV (mb 43 203000) [40,32,24] (s':=⟨bt 3 (.pt 24 0::.pt 32 0::.pt 40 0::I 3::I p1.2.2.2::bt 3 (.ag [Ti p1.1,Ti p1.2.1,Ti p1.2.2.1,Ti p1.2.2.2]::I 3::bt 3 (.ag [Ti q2.1,Ti q2.2.1,Ti q2.2.2.1,Ti q2.2.2.2]::I 4::bt 25 []))),[(40,.box [Ti f5,Ti f15,Ti f17,Ti f25,Ti f35,Ti f37,Ti f29,Ti f39,Ti f41]),(32,.box [Ti 0,Ti 0,Ti 0,Ti 0,Ti 0,Ti 0,Ti 0,Ti 0,Ti 0]),(24,.box [Ti q2.1,Ti q2.2.1,Ti q2.2.2.1,Ti q2.2.2.2])]⟩) kk ?_
 refine VE ?_
 refine zV ?_
 refine zDM rfl ?_
 refine zFU ?_
 show V _ _ _ _;refine q7 ?_
 refine YF ?_
 show VR _ _ _ _ _;refine VR_s (n:=35) ?_
 refine jV (mb 43 6200) [40,32,24] (s':=⟨bt 3 (.pt 24 0::.pt 32 0::.pt 40 0::bt 5 (.ag [Ti p1.1,Ti p1.2.1,Ti p1.2.2.1,Ti p1.2.2.2]::I 4::bt 30 [])),[(40,.box [Ti f5,Ti f15,Ti f17,Ti f25,Ti f35,Ti f37,Ti f29,Ti f39,Ti f41]),(32,.box [Ti 0,Ti 0,Ti 0,Ti 0,Ti 0,Ti 0,Ti 0,Ti 0,Ti 0]),(24,.box [Ti q2.1,Ti q2.2.1,Ti q2.2.2.1,Ti q2.2.2.2])]⟩) kk ?_
 refine VE ?_
 refine zV ?_
 refine zDM rfl ?_
 refine zFU ?_
 show V _ _ _ _;refine VE ?_
 cases h;exact zBW VT
end
noncomputable section
theorem zLk:CfW qf 116:=cfW Tryz.func116
theorem zMI{f1:τF}{g2:τF}{vh3:τF}{k4:List Int}{r:(Bool×Bool)}(h:zBt f1 g2 vh3 k4=some r):zH qf 116 [.ag [Ti f1.1,Ti f1.2.1,Ti f1.2.2],.ag [Ti g2.1,Ti g2.2.1,Ti g2.2.2],.ag [Ti vh3.1,Ti vh3.2.1,Ti vh3.2.2],.c (.sl (k4.map c3))] (.tc (Bo r.1) (.tc (Bo r.2) .tn)) []:=by
 refine CtW [8,9] Tryz.func116 rfl rfl 117 ?_
 unfold zBt at h;refine VE ?_
 refine zV ?_
 obtain⟨y5,hy5,h⟩:=zA h;obtain⟨b8,hb8,h⟩:=zA h;obtain⟨b11,hb11,h⟩:=zA h;obtain⟨b15,hb15,h⟩:=zA h;refine zDL (mb 117 8796093022328) [48,40,32] (s1:=⟨bt 3 (.c (.sl (k4.map c3))::.pt 32 0::.pt 40 0::.pt 48 0::bt 36 (Bo b15::bt 73 [])),[(48,.box [Ti vh3.1,Ti vh3.2.1,Ti vh3.2.2]),(40,.box [Ti g2.1,Ti g2.2.1,Ti g2.2.2]),(32,.box [Ti f1.1,Ti f1.2.1,Ti f1.2.2])]⟩) ?_ ?_
 ·refine YK 2 (zIW hy5) zH8 ?_
  refine YR 2 ?_
  refine zBB (!y5) (fun hc6=>?_) (fun hc6=>?_)
  ·have hb8:=zD (zCW hb8 hc6);refine YQ hc6 ?_
   refine YR 6 ?_
   subst hb8;have hc9:true=true:=rfl;have hb11:=zD (zCW hb11 hc9);refine YR 5 ?_
   subst hb11;have hc12:true=true:=rfl;refine YR 5 ?_
   refine zBB (bif true then true else (!eqI ((k4.length:Int)) 8)) (fun hc13=>?_) (fun hc13=>?_)
   ·have hb15:=zD (zCW hb15 hc13);refine YQ hc13 ?_
    exact YE (by rw[←hb15];(try rw[hc13]);(try rw[hc6]);kernel_rfl)
   ·have hb15:=jB hb15 hc13;obtain⟨y14,hy14,hb15⟩:=zA hb15;have hb15:=zD hb15;refine YQ hc13 ?_
    refine YK 1 (zCD hy14) zBm ?_
    exact YE (by rw[←hb15];(try rw[hc13]);(try rw[hc6]);kernel_rfl)
  ·have hb8:=jB hb8 hc6;obtain⟨y7,hy7,hb8⟩:=zA hb8;have hb8:=zD hb8;refine YQ hc6 ?_
   refine YK 2 (zIW hy7) zH8 ?_
   refine YR 3 ?_
   refine zBB b8 (fun hc9=>?_) (fun hc9=>?_)
   ·have hb11:=zD (zCW hb11 hc9);refine YQ hc9 ?_ (by rw[←hb8];(try rw[hc6]);kernel_rfl)
    refine YR 5 ?_
    subst hb11;have hc12:true=true:=rfl;refine YR 5 ?_
    refine zBB (bif true then true else (!eqI ((k4.length:Int)) 8)) (fun hc13=>?_) (fun hc13=>?_)
    ·have hb15:=zD (zCW hb15 hc13);refine YQ hc13 ?_
     exact YE (by rw[←hb15];(try rw[hc13]);(try rw[hc6]);(try rw[hc9]);kernel_rfl)
    ·have hb15:=jB hb15 hc13;obtain⟨y14,hy14,hb15⟩:=zA hb15;have hb15:=zD hb15;refine YQ hc13 ?_
     refine YK 1 (zCD hy14) zBm ?_
     exact YE (by rw[←hb15];(try rw[hc13]);(try rw[hc6]);(try rw[hc9]);kernel_rfl)
   ·have hb11:=jB hb11 hc9;obtain⟨y10,hy10,hb11⟩:=zA hb11;have hb11:=zD hb11;refine YQ hc9 ?_ (by rw[←hb8];(try rw[←hb11]);(try rw[hc6]);kernel_rfl)
    refine YK 1 (zD9 hy10) zDK ?_
    refine YR 3 ?_
    refine zBB b11 (fun hc12=>?_) (fun hc12=>?_)
    ·refine YQ hc12 ?_ (by rw[←hb11];(try rw[hc6]);(try rw[hc9]);kernel_rfl)
     refine YR 5 ?_
     refine zBB (bif b11 then true else (!eqI ((k4.length:Int)) 8)) (fun hc13=>?_) (fun hc13=>?_)
     ·have hb15:=zD (zCW hb15 hc13);refine YQ hc13 ?_ (by rw[hc12];kernel_rfl)
      exact YE (by rw[←hb15];(try rw[hc13]);(try rw[hc6]);(try rw[hc12]);(try rw[hc9]);kernel_rfl)
     ·have hb15:=jB hb15 hc13;obtain⟨y14,hy14,hb15⟩:=zA hb15;have hb15:=zD hb15;refine YQ hc13 ?_ (by rw[hc12];kernel_rfl)
      refine YK 1 (zCD hy14) zBm ?_
      exact YE (by rw[←hb15];(try rw[hc13]);(try rw[hc6]);(try rw[hc12]);(try rw[hc9]);kernel_rfl)
    ·refine YQ hc12 ?_ (by rw[←hb11];(try rw[hc6]);(try rw[hc9]);kernel_rfl)
     refine YR 1 ?_
     refine YT (zAn rfl (zHy (c:=c3) (xs:=k4) Tryz.underlying50 rfl kk)) ?_
     refine YR 3 ?_
     refine zBB (bif b11 then true else (!eqI ((k4.length:Int)) 8)) (fun hc13=>?_) (fun hc13=>?_)
     ·have hb15:=zD (zCW hb15 hc13);refine YQ hc13 ?_ (by rw[hc12];kernel_rfl)
      exact YE (by rw[←hb15];(try rw[hc13]);(try rw[hc6]);(try rw[hc12]);(try rw[hc9]);kernel_rfl)
     ·have hb15:=jB hb15 hc13;obtain⟨y14,hy14,hb15⟩:=zA hb15;have hb15:=zD hb15;refine YQ hc13 ?_ (by rw[hc12];kernel_rfl)
      refine YK 1 (zCD hy14) zBm ?_
      exact YE (by rw[←hb15];(try rw[hc13]);(try rw[hc6]);(try rw[hc12]);(try rw[hc9]);kernel_rfl)
 refine VC h (fun h=>?_) (fun h=>?_)
 ·refine VE ?_
  cases h;exact zBW VT
 ·refine qV ?_
  show V _ _ _ _;obtain⟨u17,hu17,h⟩:=zA h;obtain⟨e18,he18,h⟩:=zA h;obtain⟨e19,he19,h⟩:=zA h;obtain⟨e20,he20,h⟩:=zA h;obtain⟨e21,he21,h⟩:=zA h;obtain⟨u22,hu22,h⟩:=zA h;obtain⟨e23,he23,h⟩:=zA h;obtain⟨e24,he24,h⟩:=zA h;obtain⟨e25,he25,h⟩:=zA h;obtain⟨e26,he26,h⟩:=zA h;refine VDS [0,1,3,7,0,16,48,112,0,0,783,2047] 11 [[.z,.z,.z,.z,.b,.b,.b,.b,.b,.b,.z],[.a,.z,.z,.z,.b,.b,.b,.b,.b,.b,.z],[.a,.a,.z,.z,.b,.b,.b,.b,.b,.b,.z],[.a,.a,.a,.z,.b,.b,.b,.b,.b,.b,.z],[.b,.b,.b,.b,.z,.z,.z,.z,.b,.b,.r 80],[.b,.b,.b,.b,.a,.z,.z,.z,.b,.b,.r 80],[.b,.b,.b,.b,.a,.a,.z,.z,.b,.b,.r 80],[.b,.b,.b,.b,.a,.a,.a,.z,.b,.b,.r 80],[.b,.b,.b,.b,.b,.b,.b,.b,.z,.b,.z],[.b,.b,.b,.b,.b,.b,.b,.b,.b,.z,.z],[.a,.a,.a,.a,.b,.b,.b,.b,.a,.a,.z]] ?_
  refine ER 1 ?_
  refine E0 1 rfl rfl (zPt (c:=c3) (xs:=k4) (l:=0) (h:=4) Tryz.underlying50 sz3 (fun _=>rfl) rfl kk (fun y hy=>by cases hy) (fun _=>rfl) (fun y hy=>by cases hy;exact⟨.i64,kk⟩) (fun hh=>by cases hh) (zJm hu17)) ?_
  refine E0 2 rfl rfl (z23 (c:=c3) (xs:=subl k4 0 4) (ys:=[e18,e19,e20,e21]) Tryz.underlying144 (by decide) (fun _=>rfl) rfl kk (zIj 0 3 he18 rfl (zIj 1 2 he19 rfl (zIj 2 1 he20 rfl (zIj 3 0 he21 rfl z3k)))) rfl) ?_
  refine ER 2 ?_
  refine E0 5 rfl rfl (zPt (c:=c3) (xs:=k4) (l:=4) (h:=(k4.length:Int)) Tryz.underlying50 sz3 (fun _=>rfl) rfl kk (fun y hy=>by cases hy;exact⟨.i64,kk⟩) (fun hh=>by cases hh) (fun y hy=>by cases hy) (fun _=>rfl) (zJm hu22)) ?_
  refine E0 6 rfl rfl (z23 (c:=c3) (xs:=subl k4 4 ((k4.length:Int))) (ys:=[e23,e24,e25,e26]) Tryz.underlying144 (by decide) (fun _=>rfl) rfl kk (zIj 0 3 he23 rfl (zIj 1 2 he24 rfl (zIj 2 1 he25 rfl (zIj 3 0 he26 rfl z3k)))) rfl) ?_
  refine EF 4 ?_
  obtain⟨y27,hy27,h⟩:=zA h;obtain⟨y28,hy28,h⟩:=zA h;obtain⟨y29,hy29,h⟩:=zA h;refine VDS [0,0,3,0,0,31,0,0,255,0,0,0,4095,8191,16383] 12 (cdm 12 [11051656,11051650,11051653,11051562,11051178,11051349,11045546,11020970,11031893,10660522,9087658,2796202]) ?_
  refine EK 2 (zHY hy27) zGc ?_
  refine EK 2 (zHY hy28) zGc ?_
  refine EK 2 (zHY hy29) zGc ?_
  refine EF 3 ?_
  refine zDu [0,1,0,4,0,16,63,0,128,0,512,0,2048,8064,0,0,49279,131071] 17 [[.z,.z,.b,.b,.b,.b,.z,.b,.b,.b,.b,.b,.b,.b,.b,.b,.z],[.a,.z,.b,.b,.b,.b,.z,.b,.b,.b,.b,.b,.b,.b,.b,.b,.z],[.b,.b,.z,.z,.b,.b,.z,.b,.b,.b,.b,.b,.b,.b,.b,.b,.z],[.b,.b,.a,.z,.b,.b,.z,.b,.b,.b,.b,.b,.b,.b,.b,.b,.z],[.b,.b,.b,.b,.z,.z,.z,.b,.b,.b,.b,.b,.b,.b,.b,.b,.z],[.b,.b,.b,.b,.a,.z,.z,.b,.b,.b,.b,.b,.b,.b,.b,.b,.z],[.a,.a,.a,.a,.a,.a,.z,.b,.b,.b,.b,.b,.b,.b,.b,.b,.z],[.b,.b,.b,.b,.b,.b,.b,.z,.z,.b,.b,.b,.b,.z,.b,.b,.r 120],[.b,.b,.b,.b,.b,.b,.b,.a,.z,.b,.b,.b,.b,.z,.b,.b,.r 120],[.b,.b,.b,.b,.b,.b,.b,.b,.b,.z,.z,.b,.b,.z,.b,.b,.r 120],[.b,.b,.b,.b,.b,.b,.b,.b,.b,.a,.z,.b,.b,.z,.b,.b,.r 120],[.b,.b,.b,.b,.b,.b,.b,.b,.b,.b,.b,.z,.z,.z,.b,.b,.r 120],[.b,.b,.b,.b,.b,.b,.b,.b,.b,.b,.b,.a,.z,.z,.b,.b,.r 120],[.b,.b,.b,.b,.b,.b,.b,.a,.a,.a,.a,.a,.a,.z,.b,.b,.r 120],[.b,.b,.b,.b,.b,.b,.b,.b,.b,.b,.b,.b,.b,.b,.z,.b,.z],[.b,.b,.b,.b,.b,.b,.b,.b,.b,.b,.b,.b,.b,.b,.b,.z,.z],[.a,.a,.a,.a,.a,.a,.a,.b,.b,.b,.b,.b,.b,.b,.a,.a,.z]] (mb 117 127040) [128,120,112,104,96,48] (s1:=⟨bt 6 (.pt 48 0::bt 5 (.pt 96 0::.pt 104 0::.pt 112 0::.pt 120 0::.pt 128 0::bt 100 [])),[(128,.box [Ti g2.1,Ti g2.2.1,Ti g2.2.2]),(120,.box [Ti f1.1,Ti f1.2.1,Ti f1.2.2]),(112,.box [Ti y29.1.1,Ti y29.1.2.1,Ti y29.1.2.2,Ti y29.2.1.1,Ti y29.2.1.2.1,Ti y29.2.1.2.2,Ti y29.2.2.1,Ti y29.2.2.2.1,Ti y29.2.2.2.2]),(104,.box [Ti y28.1.1,Ti y28.1.2.1,Ti y28.1.2.2,Ti y28.2.1.1,Ti y28.2.1.2.1,Ti y28.2.1.2.2,Ti y28.2.2.1,Ti y28.2.2.2.1,Ti y28.2.2.2.2]),(96,.box [Ti y27.1.1,Ti y27.1.2.1,Ti y27.1.2.2,Ti y27.2.1.1,Ti y27.2.1.2.1,Ti y27.2.1.2.2,Ti y27.2.2.1,Ti y27.2.2.2.1,Ti y27.2.2.2.2]),(48,.box [Ti vh3.1,Ti vh3.2.1,Ti vh3.2.2])]⟩) kk kk ?_ ?_
  ·refine ER 6 ?_
   refine E0 6 rfl rfl (zBj (cs:=[Ti f1.1,Ti f1.2.1,Ti f1.2.2]) z4L z8H rfl rfl kk) ?_
   refine ER 6 ?_
   refine E0 13 rfl rfl (zBj (cs:=[Ti g2.1,Ti g2.2.1,Ti g2.2.2]) z4L z8H rfl rfl kk) ?_
   refine EA 3 ?_
   exact XE
  refine zV ?_
  refine VE ?_
  refine qA (zF3 40 ?_);refine VR_s (n:=39) ?_
  refine jV (mb 117 37778931862957161836608) [128,120,112,104,96,48] (s':=⟨bt 6 (.pt 48 0::bt 5 (.pt 96 0::.pt 104 0::.pt 112 0::.pt 120 0::.pt 128 0::bt 58 (I 0::bt 41 []))),[(128,.box [Ti g2.1,Ti g2.2.1,Ti g2.2.2]),(120,.box [Ti f1.1,Ti f1.2.1,Ti f1.2.2]),(112,.box [Ti y29.1.1,Ti y29.1.2.1,Ti y29.1.2.2,Ti y29.2.1.1,Ti y29.2.1.2.1,Ti y29.2.1.2.2,Ti y29.2.2.1,Ti y29.2.2.2.1,Ti y29.2.2.2.2]),(104,.box [Ti y28.1.1,Ti y28.1.2.1,Ti y28.1.2.2,Ti y28.2.1.1,Ti y28.2.1.2.1,Ti y28.2.1.2.2,Ti y28.2.2.1,Ti y28.2.2.2.1,Ti y28.2.2.2.2]),(96,.box [Ti y27.1.1,Ti y27.1.2.1,Ti y27.1.2.2,Ti y27.2.1.1,Ti y27.2.1.2.1,Ti y27.2.1.2.2,Ti y27.2.2.1,Ti y27.2.2.2.1,Ti y27.2.2.2.2]),(48,.box [Ti vh3.1,Ti vh3.2.1,Ti vh3.2.2])]⟩) kk ?_
  refine VE ?_
  refine zV ?_
  refine qG rfl ?_
  refine qV ?_
  show V _ _ _ _;refine zV ?_
  refine qA ?_
  refine VE ?_
  refine VE ?_
  refine qA (zF3 40 ?_);refine VR_s (n:=39) ?_
  refine jV (mb 117 340010386766614455644224) [128,120,112,104,96,48] (s':=⟨bt 6 (.pt 48 0::bt 5 (.pt 96 0::.pt 104 0::.pt 112 0::.pt 120 0::.pt 128 0::I 0::bt 57 (I 0::.bot::.bot::I 0::bt 38 []))),[(128,.box [Ti g2.1,Ti g2.2.1,Ti g2.2.2]),(120,.box [Ti f1.1,Ti f1.2.1,Ti f1.2.2]),(112,.box [Ti y29.1.1,Ti y29.1.2.1,Ti y29.1.2.2,Ti y29.2.1.1,Ti y29.2.1.2.1,Ti y29.2.1.2.2,Ti y29.2.2.1,Ti y29.2.2.2.1,Ti y29.2.2.2.2]),(104,.box [Ti y28.1.1,Ti y28.1.2.1,Ti y28.1.2.2,Ti y28.2.1.1,Ti y28.2.1.2.1,Ti y28.2.1.2.2,Ti y28.2.2.1,Ti y28.2.2.2.1,Ti y28.2.2.2.2]),(96,.box [Ti y27.1.1,Ti y27.1.2.1,Ti y27.1.2.2,Ti y27.2.1.1,Ti y27.2.1.2.1,Ti y27.2.1.2.2,Ti y27.2.2.1,Ti y27.2.2.2.1,Ti y27.2.2.2.2]),(48,.box [Ti vh3.1,Ti vh3.2.1,Ti vh3.2.2])]⟩) kk ?_
  refine VE ?_
  refine zV ?_
  refine qG rfl ?_
  refine qV ?_
  show V _ _ _ _;refine zV ?_
  refine qA ?_
  refine VE ?_
  obtain⟨t32,ht32,h⟩:=zA h;have ht32:=zD ht32;refine zDu [0,1,0,0,4,28,60,127,0,256,0,0,1024,7168,15360,32512,65535,0,131072,0,0,524288,3670016,7864320,16646144,33554431,0,67108864,201326592,0,536870912,1610612736,4227858432,8589934591] 34 (cdm 34 [49189065721488485024,49189065721488485025,49189065721488474250,49189065721488474666,49189065721488474266,49189065721488474458,49189065721488475482,49189065721488479573,49189065719340378794,49189065719340444330,49189065718634293930,49189065718661556906,49189065718635342506,49189065718647925418,49189065718715034282,49189065718983142058,49189065720056862037,49188502608326339242,49188502625506208426,49188317512415750826,49188324659241331370,49188317787293657770,49188321085828541098,49188338678014585514,49188408960859417258,49188690430109504853,12108678198123473578,12113181797750844074,12131196196260326058,192153584101141162,480383960252852906,1633305464859699882,6150415891112307370,24595658764946068821]) (mb 117 20769187434479320900888599772524608) [128,120,112,104,96,48] (s1:=⟨bt 6 (.pt 48 0::bt 5 (.pt 96 0::.pt 104 0::.pt 112 0::.pt 120 0::.pt 128 0::I 0::bt 57 (I 0::.bot::.bot::I 0::bt 35 (Bo t32::.bot::.bot::[])))),[(128,.box [Ti g2.1,Ti g2.2.1,Ti g2.2.2]),(120,.box [Ti f1.1,Ti f1.2.1,Ti f1.2.2]),(112,.box [Ti y29.1.1,Ti y29.1.2.1,Ti y29.1.2.2,Ti y29.2.1.1,Ti y29.2.1.2.1,Ti y29.2.1.2.2,Ti y29.2.2.1,Ti y29.2.2.2.1,Ti y29.2.2.2.2]),(104,.box [Ti y28.1.1,Ti y28.1.2.1,Ti y28.1.2.2,Ti y28.2.1.1,Ti y28.2.1.2.1,Ti y28.2.1.2.2,Ti y28.2.2.1,Ti y28.2.2.2.1,Ti y28.2.2.2.2]),(96,.box [Ti y27.1.1,Ti y27.1.2.1,Ti y27.1.2.2,Ti y27.2.1.1,Ti y27.2.1.2.1,Ti y27.2.1.2.2,Ti y27.2.2.1,Ti y27.2.2.2.1,Ti y27.2.2.2.2]),(48,.box [Ti vh3.1,Ti vh3.2.1,Ti vh3.2.2])]⟩) kk kk ?_ ?_
  ·refine DA 34 ?_
   refine qN ?_
   subst ht32
   kernel_rfl
  refine VC h (fun h=>?_) (fun h=>?_)
  ·refine VE ?_
   cases h;exact zBW VT
  ·refine qV ?_
   show V _ _ _ _;refine q7 ?_
   refine YF ?_
   show VR _ _ _ _ _;refine VR_s (n:=38) ?_
   refine jV (mb 117 340010386766614455644224) [128,120,112,104,96,48] (s':=⟨bt 6 (.pt 48 0::bt 5 (.pt 96 0::.pt 104 0::.pt 112 0::.pt 120 0::.pt 128 0::I 0::bt 57 (I 0::.bot::.bot::I 1::bt 38 []))),[(128,.box [Ti g2.1,Ti g2.2.1,Ti g2.2.2]),(120,.box [Ti f1.1,Ti f1.2.1,Ti f1.2.2]),(112,.box [Ti y29.1.1,Ti y29.1.2.1,Ti y29.1.2.2,Ti y29.2.1.1,Ti y29.2.1.2.1,Ti y29.2.1.2.2,Ti y29.2.2.1,Ti y29.2.2.2.1,Ti y29.2.2.2.2]),(104,.box [Ti y28.1.1,Ti y28.1.2.1,Ti y28.1.2.2,Ti y28.2.1.1,Ti y28.2.1.2.1,Ti y28.2.1.2.2,Ti y28.2.2.1,Ti y28.2.2.2.1,Ti y28.2.2.2.2]),(96,.box [Ti y27.1.1,Ti y27.1.2.1,Ti y27.1.2.2,Ti y27.2.1.1,Ti y27.2.1.2.1,Ti y27.2.1.2.2,Ti y27.2.2.1,Ti y27.2.2.2.1,Ti y27.2.2.2.2]),(48,.box [Ti vh3.1,Ti vh3.2.1,Ti vh3.2.2])]⟩) kk ?_
   refine VE ?_
   refine zV ?_
   refine qG rfl ?_
   refine qV ?_
   show V _ _ _ _;refine zV ?_
   refine qA ?_
   refine VE ?_
   obtain⟨t35,ht35,h⟩:=zA h;have ht35:=zD ht35;refine zDu [0,1,0,0,4,28,60,127,0,256,0,0,1024,7168,15360,32512,65535,0,131072,0,0,524288,3670016,7864320,16646144,33554431,0,67108864,201326592,0,536870912,1610612736,4227858432,8589934591] 34 (cdm 34 [49189065721488485024,49189065721488485025,49189065721488474250,49189065721488474666,49189065721488474266,49189065721488474458,49189065721488475482,49189065721488479573,49189065719340378794,49189065719340444330,49189065718634293930,49189065718661556906,49189065718635342506,49189065718647925418,49189065718715034282,49189065718983142058,49189065720056862037,49188502608326339242,49188502625506208426,49188317512415750826,49188324659241331370,49188317787293657770,49188321085828541098,49188338678014585514,49188408960859417258,49188690430109504853,12108678198123473578,12113181797750844074,12131196196260326058,192153584101141162,480383960252852906,1633305464859699882,6150415891112307370,24595658764946068821]) (mb 117 20769187434479320900888599772524608) [128,120,112,104,96,48] (s1:=⟨bt 6 (.pt 48 0::bt 5 (.pt 96 0::.pt 104 0::.pt 112 0::.pt 120 0::.pt 128 0::I 0::bt 57 (I 0::.bot::.bot::I 1::bt 35 (Bo t35::.bot::.bot::[])))),[(128,.box [Ti g2.1,Ti g2.2.1,Ti g2.2.2]),(120,.box [Ti f1.1,Ti f1.2.1,Ti f1.2.2]),(112,.box [Ti y29.1.1,Ti y29.1.2.1,Ti y29.1.2.2,Ti y29.2.1.1,Ti y29.2.1.2.1,Ti y29.2.1.2.2,Ti y29.2.2.1,Ti y29.2.2.2.1,Ti y29.2.2.2.2]),(104,.box [Ti y28.1.1,Ti y28.1.2.1,Ti y28.1.2.2,Ti y28.2.1.1,Ti y28.2.1.2.1,Ti y28.2.1.2.2,Ti y28.2.2.1,Ti y28.2.2.2.1,Ti y28.2.2.2.2]),(96,.box [Ti y27.1.1,Ti y27.1.2.1,Ti y27.1.2.2,Ti y27.2.1.1,Ti y27.2.1.2.1,Ti y27.2.1.2.2,Ti y27.2.2.1,Ti y27.2.2.2.1,Ti y27.2.2.2.2]),(48,.box [Ti vh3.1,Ti vh3.2.1,Ti vh3.2.2])]⟩) kk kk ?_ ?_
   ·refine DA 34 ?_
    refine qN ?_
    subst ht35
    kernel_rfl
   refine VC h (fun h=>?_) (fun h=>?_)
   ·refine VE ?_
    cases h;exact zBW VT
   ·refine qV ?_
    show V _ _ _ _;refine q7 ?_
    refine YF ?_
    show VR _ _ _ _ _;refine VR_s (n:=37) ?_
    refine jV (mb 117 340010386766614455644224) [128,120,112,104,96,48] (s':=⟨bt 6 (.pt 48 0::bt 5 (.pt 96 0::.pt 104 0::.pt 112 0::.pt 120 0::.pt 128 0::I 0::bt 57 (I 0::.bot::.bot::I 2::bt 38 []))),[(128,.box [Ti g2.1,Ti g2.2.1,Ti g2.2.2]),(120,.box [Ti f1.1,Ti f1.2.1,Ti f1.2.2]),(112,.box [Ti y29.1.1,Ti y29.1.2.1,Ti y29.1.2.2,Ti y29.2.1.1,Ti y29.2.1.2.1,Ti y29.2.1.2.2,Ti y29.2.2.1,Ti y29.2.2.2.1,Ti y29.2.2.2.2]),(104,.box [Ti y28.1.1,Ti y28.1.2.1,Ti y28.1.2.2,Ti y28.2.1.1,Ti y28.2.1.2.1,Ti y28.2.1.2.2,Ti y28.2.2.1,Ti y28.2.2.2.1,Ti y28.2.2.2.2]),(96,.box [Ti y27.1.1,Ti y27.1.2.1,Ti y27.1.2.2,Ti y27.2.1.1,Ti y27.2.1.2.1,Ti y27.2.1.2.2,Ti y27.2.2.1,Ti y27.2.2.2.1,Ti y27.2.2.2.2]),(48,.box [Ti vh3.1,Ti vh3.2.1,Ti vh3.2.2])]⟩) kk ?_
    refine VE ?_
    refine zV ?_
    refine qG rfl ?_
    refine qV ?_
    show V _ _ _ _;refine zV ?_
    refine qA ?_
    refine VE ?_
    obtain⟨t38,ht38,h⟩:=zA h;have ht38:=zD ht38;refine zDu [0,1,0,0,4,28,60,127,0,256,0,0,1024,7168,15360,32512,65535,0,131072,0,0,524288,3670016,7864320,16646144,33554431,0,67108864,201326592,0,536870912,1610612736,4227858432,8589934591] 34 (cdm 34 [49189065721488485024,49189065721488485025,49189065721488474250,49189065721488474666,49189065721488474266,49189065721488474458,49189065721488475482,49189065721488479573,49189065719340378794,49189065719340444330,49189065718634293930,49189065718661556906,49189065718635342506,49189065718647925418,49189065718715034282,49189065718983142058,49189065720056862037,49188502608326339242,49188502625506208426,49188317512415750826,49188324659241331370,49188317787293657770,49188321085828541098,49188338678014585514,49188408960859417258,49188690430109504853,12108678198123473578,12113181797750844074,12131196196260326058,192153584101141162,480383960252852906,1633305464859699882,6150415891112307370,24595658764946068821]) (mb 117 20769187434479320900888599772524608) [128,120,112,104,96,48] (s1:=⟨bt 6 (.pt 48 0::bt 5 (.pt 96 0::.pt 104 0::.pt 112 0::.pt 120 0::.pt 128 0::I 0::bt 57 (I 0::.bot::.bot::I 2::bt 35 (Bo t38::.bot::.bot::[])))),[(128,.box [Ti g2.1,Ti g2.2.1,Ti g2.2.2]),(120,.box [Ti f1.1,Ti f1.2.1,Ti f1.2.2]),(112,.box [Ti y29.1.1,Ti y29.1.2.1,Ti y29.1.2.2,Ti y29.2.1.1,Ti y29.2.1.2.1,Ti y29.2.1.2.2,Ti y29.2.2.1,Ti y29.2.2.2.1,Ti y29.2.2.2.2]),(104,.box [Ti y28.1.1,Ti y28.1.2.1,Ti y28.1.2.2,Ti y28.2.1.1,Ti y28.2.1.2.1,Ti y28.2.1.2.2,Ti y28.2.2.1,Ti y28.2.2.2.1,Ti y28.2.2.2.2]),(96,.box [Ti y27.1.1,Ti y27.1.2.1,Ti y27.1.2.2,Ti y27.2.1.1,Ti y27.2.1.2.1,Ti y27.2.1.2.2,Ti y27.2.2.1,Ti y27.2.2.2.1,Ti y27.2.2.2.2]),(48,.box [Ti vh3.1,Ti vh3.2.1,Ti vh3.2.2])]⟩) kk kk ?_ ?_
    ·refine DA 34 ?_
     refine qN ?_
     subst ht38
     kernel_rfl
    refine VC h (fun h=>?_) (fun h=>?_)
    ·refine VE ?_
     cases h;exact zBW VT
    ·refine qV ?_
     show V _ _ _ _;refine q7 ?_
     refine YF ?_
     show VR _ _ _ _ _;refine VR_s (n:=36) ?_
     refine jV (mb 117 340010386766614455644224) [128,120,112,104,96,48] (s':=⟨bt 6 (.pt 48 0::bt 5 (.pt 96 0::.pt 104 0::.pt 112 0::.pt 120 0::.pt 128 0::I 0::bt 57 (I 0::.bot::.bot::I 3::bt 38 []))),[(128,.box [Ti g2.1,Ti g2.2.1,Ti g2.2.2]),(120,.box [Ti f1.1,Ti f1.2.1,Ti f1.2.2]),(112,.box [Ti y29.1.1,Ti y29.1.2.1,Ti y29.1.2.2,Ti y29.2.1.1,Ti y29.2.1.2.1,Ti y29.2.1.2.2,Ti y29.2.2.1,Ti y29.2.2.2.1,Ti y29.2.2.2.2]),(104,.box [Ti y28.1.1,Ti y28.1.2.1,Ti y28.1.2.2,Ti y28.2.1.1,Ti y28.2.1.2.1,Ti y28.2.1.2.2,Ti y28.2.2.1,Ti y28.2.2.2.1,Ti y28.2.2.2.2]),(96,.box [Ti y27.1.1,Ti y27.1.2.1,Ti y27.1.2.2,Ti y27.2.1.1,Ti y27.2.1.2.1,Ti y27.2.1.2.2,Ti y27.2.2.1,Ti y27.2.2.2.1,Ti y27.2.2.2.2]),(48,.box [Ti vh3.1,Ti vh3.2.1,Ti vh3.2.2])]⟩) kk ?_
     refine VE ?_
     refine zV ?_
     refine zDM rfl ?_
     refine zFU ?_
     show V _ _ _ _;refine q7 ?_
     refine YF ?_
     show VR _ _ _ _ _;refine VR_s (n:=38) ?_
     refine jV (mb 117 37778931862957161836608) [128,120,112,104,96,48] (s':=⟨bt 6 (.pt 48 0::bt 5 (.pt 96 0::.pt 104 0::.pt 112 0::.pt 120 0::.pt 128 0::bt 58 (I 1::bt 41 []))),[(128,.box [Ti g2.1,Ti g2.2.1,Ti g2.2.2]),(120,.box [Ti f1.1,Ti f1.2.1,Ti f1.2.2]),(112,.box [Ti y29.1.1,Ti y29.1.2.1,Ti y29.1.2.2,Ti y29.2.1.1,Ti y29.2.1.2.1,Ti y29.2.1.2.2,Ti y29.2.2.1,Ti y29.2.2.2.1,Ti y29.2.2.2.2]),(104,.box [Ti y28.1.1,Ti y28.1.2.1,Ti y28.1.2.2,Ti y28.2.1.1,Ti y28.2.1.2.1,Ti y28.2.1.2.2,Ti y28.2.2.1,Ti y28.2.2.2.1,Ti y28.2.2.2.2]),(96,.box [Ti y27.1.1,Ti y27.1.2.1,Ti y27.1.2.2,Ti y27.2.1.1,Ti y27.2.1.2.1,Ti y27.2.1.2.2,Ti y27.2.2.1,Ti y27.2.2.2.1,Ti y27.2.2.2.2]),(48,.box [Ti vh3.1,Ti vh3.2.1,Ti vh3.2.2])]⟩) kk ?_
     refine VE ?_
     refine zV ?_
     refine qG rfl ?_
     refine qV ?_
     show V _ _ _ _;refine zV ?_
     refine qA ?_
     refine VE ?_
     refine VE ?_
     refine qA (zF3 40 ?_);refine VR_s (n:=39) ?_
     refine jV (mb 117 340010386766614455644224) [128,120,112,104,96,48] (s':=⟨bt 6 (.pt 48 0::bt 5 (.pt 96 0::.pt 104 0::.pt 112 0::.pt 120 0::.pt 128 0::I 1::bt 57 (I 1::.bot::.bot::I 0::bt 38 []))),[(128,.box [Ti g2.1,Ti g2.2.1,Ti g2.2.2]),(120,.box [Ti f1.1,Ti f1.2.1,Ti f1.2.2]),(112,.box [Ti y29.1.1,Ti y29.1.2.1,Ti y29.1.2.2,Ti y29.2.1.1,Ti y29.2.1.2.1,Ti y29.2.1.2.2,Ti y29.2.2.1,Ti y29.2.2.2.1,Ti y29.2.2.2.2]),(104,.box [Ti y28.1.1,Ti y28.1.2.1,Ti y28.1.2.2,Ti y28.2.1.1,Ti y28.2.1.2.1,Ti y28.2.1.2.2,Ti y28.2.2.1,Ti y28.2.2.2.1,Ti y28.2.2.2.2]),(96,.box [Ti y27.1.1,Ti y27.1.2.1,Ti y27.1.2.2,Ti y27.2.1.1,Ti y27.2.1.2.1,Ti y27.2.1.2.2,Ti y27.2.2.1,Ti y27.2.2.2.1,Ti y27.2.2.2.2]),(48,.box [Ti vh3.1,Ti vh3.2.1,Ti vh3.2.2])]⟩) kk ?_
     refine VE ?_
     refine zV ?_
     refine qG rfl ?_
     refine qV ?_
     show V _ _ _ _;refine zV ?_
     refine qA ?_
     refine VE ?_
     obtain⟨t43,ht43,h⟩:=zA h;have ht43:=zD ht43;refine zDu [0,1,0,0,4,28,60,127,0,256,0,0,1024,7168,15360,32512,65535,0,131072,0,0,524288,3670016,7864320,16646144,33554431,0,67108864,201326592,0,536870912,1610612736,4227858432,8589934591] 34 (cdm 34 [49189065721488485024,49189065721488485025,49189065721488474250,49189065721488474666,49189065721488474266,49189065721488474458,49189065721488475482,49189065721488479573,49189065719340378794,49189065719340444330,49189065718634293930,49189065718661556906,49189065718635342506,49189065718647925418,49189065718715034282,49189065718983142058,49189065720056862037,49188502608326339242,49188502625506208426,49188317512415750826,49188324659241331370,49188317787293657770,49188321085828541098,49188338678014585514,49188408960859417258,49188690430109504853,12108678198123473578,12113181797750844074,12131196196260326058,192153584101141162,480383960252852906,1633305464859699882,6150415891112307370,24595658764946068821]) (mb 117 20769187434479320900888599772524608) [128,120,112,104,96,48] (s1:=⟨bt 6 (.pt 48 0::bt 5 (.pt 96 0::.pt 104 0::.pt 112 0::.pt 120 0::.pt 128 0::I 1::bt 57 (I 1::.bot::.bot::I 0::bt 35 (Bo t43::.bot::.bot::[])))),[(128,.box [Ti g2.1,Ti g2.2.1,Ti g2.2.2]),(120,.box [Ti f1.1,Ti f1.2.1,Ti f1.2.2]),(112,.box [Ti y29.1.1,Ti y29.1.2.1,Ti y29.1.2.2,Ti y29.2.1.1,Ti y29.2.1.2.1,Ti y29.2.1.2.2,Ti y29.2.2.1,Ti y29.2.2.2.1,Ti y29.2.2.2.2]),(104,.box [Ti y28.1.1,Ti y28.1.2.1,Ti y28.1.2.2,Ti y28.2.1.1,Ti y28.2.1.2.1,Ti y28.2.1.2.2,Ti y28.2.2.1,Ti y28.2.2.2.1,Ti y28.2.2.2.2]),(96,.box [Ti y27.1.1,Ti y27.1.2.1,Ti y27.1.2.2,Ti y27.2.1.1,Ti y27.2.1.2.1,Ti y27.2.1.2.2,Ti y27.2.2.1,Ti y27.2.2.2.1,Ti y27.2.2.2.2]),(48,.box [Ti vh3.1,Ti vh3.2.1,Ti vh3.2.2])]⟩) kk kk ?_ ?_
     ·refine DA 34 ?_
      refine qN ?_
      subst ht43
      kernel_rfl
     refine VC h (fun h=>?_) (fun h=>?_)
     ·refine VE ?_
      cases h;exact zBW VT
     ·refine qV ?_
      show V _ _ _ _;refine q7 ?_
      refine YF ?_
      show VR _ _ _ _ _;refine VR_s (n:=38) ?_
      refine jV (mb 117 340010386766614455644224) [128,120,112,104,96,48] (s':=⟨bt 6 (.pt 48 0::bt 5 (.pt 96 0::.pt 104 0::.pt 112 0::.pt 120 0::.pt 128 0::I 1::bt 57 (I 1::.bot::.bot::I 1::bt 38 []))),[(128,.box [Ti g2.1,Ti g2.2.1,Ti g2.2.2]),(120,.box [Ti f1.1,Ti f1.2.1,Ti f1.2.2]),(112,.box [Ti y29.1.1,Ti y29.1.2.1,Ti y29.1.2.2,Ti y29.2.1.1,Ti y29.2.1.2.1,Ti y29.2.1.2.2,Ti y29.2.2.1,Ti y29.2.2.2.1,Ti y29.2.2.2.2]),(104,.box [Ti y28.1.1,Ti y28.1.2.1,Ti y28.1.2.2,Ti y28.2.1.1,Ti y28.2.1.2.1,Ti y28.2.1.2.2,Ti y28.2.2.1,Ti y28.2.2.2.1,Ti y28.2.2.2.2]),(96,.box [Ti y27.1.1,Ti y27.1.2.1,Ti y27.1.2.2,Ti y27.2.1.1,Ti y27.2.1.2.1,Ti y27.2.1.2.2,Ti y27.2.2.1,Ti y27.2.2.2.1,Ti y27.2.2.2.2]),(48,.box [Ti vh3.1,Ti vh3.2.1,Ti vh3.2.2])]⟩) kk ?_
      refine VE ?_
      refine zV ?_
      refine qG rfl ?_
      refine qV ?_
      show V _ _ _ _;refine zV ?_
      refine qA ?_
      refine VE ?_
      obtain⟨t46,ht46,h⟩:=zA h;have ht46:=zD ht46;refine zDu [0,1,0,0,4,28,60,127,0,256,0,0,1024,7168,15360,32512,65535,0,131072,0,0,524288,3670016,7864320,16646144,33554431,0,67108864,201326592,0,536870912,1610612736,4227858432,8589934591] 34 (cdm 34 [49189065721488485024,49189065721488485025,49189065721488474250,49189065721488474666,49189065721488474266,49189065721488474458,49189065721488475482,49189065721488479573,49189065719340378794,49189065719340444330,49189065718634293930,49189065718661556906,49189065718635342506,49189065718647925418,49189065718715034282,49189065718983142058,49189065720056862037,49188502608326339242,49188502625506208426,49188317512415750826,49188324659241331370,49188317787293657770,49188321085828541098,49188338678014585514,49188408960859417258,49188690430109504853,12108678198123473578,12113181797750844074,12131196196260326058,192153584101141162,480383960252852906,1633305464859699882,6150415891112307370,24595658764946068821]) (mb 117 20769187434479320900888599772524608) [128,120,112,104,96,48] (s1:=⟨bt 6 (.pt 48 0::bt 5 (.pt 96 0::.pt 104 0::.pt 112 0::.pt 120 0::.pt 128 0::I 1::bt 57 (I 1::.bot::.bot::I 1::bt 35 (Bo t46::.bot::.bot::[])))),[(128,.box [Ti g2.1,Ti g2.2.1,Ti g2.2.2]),(120,.box [Ti f1.1,Ti f1.2.1,Ti f1.2.2]),(112,.box [Ti y29.1.1,Ti y29.1.2.1,Ti y29.1.2.2,Ti y29.2.1.1,Ti y29.2.1.2.1,Ti y29.2.1.2.2,Ti y29.2.2.1,Ti y29.2.2.2.1,Ti y29.2.2.2.2]),(104,.box [Ti y28.1.1,Ti y28.1.2.1,Ti y28.1.2.2,Ti y28.2.1.1,Ti y28.2.1.2.1,Ti y28.2.1.2.2,Ti y28.2.2.1,Ti y28.2.2.2.1,Ti y28.2.2.2.2]),(96,.box [Ti y27.1.1,Ti y27.1.2.1,Ti y27.1.2.2,Ti y27.2.1.1,Ti y27.2.1.2.1,Ti y27.2.1.2.2,Ti y27.2.2.1,Ti y27.2.2.2.1,Ti y27.2.2.2.2]),(48,.box [Ti vh3.1,Ti vh3.2.1,Ti vh3.2.2])]⟩) kk kk ?_ ?_
      ·refine DA 34 ?_
       refine qN ?_
       subst ht46
       kernel_rfl
      refine VC h (fun h=>?_) (fun h=>?_)
      ·refine VE ?_
       cases h;exact zBW VT
      ·refine qV ?_
       show V _ _ _ _;refine q7 ?_
       refine YF ?_
       show VR _ _ _ _ _;refine VR_s (n:=37) ?_
       refine jV (mb 117 340010386766614455644224) [128,120,112,104,96,48] (s':=⟨bt 6 (.pt 48 0::bt 5 (.pt 96 0::.pt 104 0::.pt 112 0::.pt 120 0::.pt 128 0::I 1::bt 57 (I 1::.bot::.bot::I 2::bt 38 []))),[(128,.box [Ti g2.1,Ti g2.2.1,Ti g2.2.2]),(120,.box [Ti f1.1,Ti f1.2.1,Ti f1.2.2]),(112,.box [Ti y29.1.1,Ti y29.1.2.1,Ti y29.1.2.2,Ti y29.2.1.1,Ti y29.2.1.2.1,Ti y29.2.1.2.2,Ti y29.2.2.1,Ti y29.2.2.2.1,Ti y29.2.2.2.2]),(104,.box [Ti y28.1.1,Ti y28.1.2.1,Ti y28.1.2.2,Ti y28.2.1.1,Ti y28.2.1.2.1,Ti y28.2.1.2.2,Ti y28.2.2.1,Ti y28.2.2.2.1,Ti y28.2.2.2.2]),(96,.box [Ti y27.1.1,Ti y27.1.2.1,Ti y27.1.2.2,Ti y27.2.1.1,Ti y27.2.1.2.1,Ti y27.2.1.2.2,Ti y27.2.2.1,Ti y27.2.2.2.1,Ti y27.2.2.2.2]),(48,.box [Ti vh3.1,Ti vh3.2.1,Ti vh3.2.2])]⟩) kk ?_
       refine VE ?_
       refine zV ?_
       refine qG rfl ?_
       refine qV ?_
       show V _ _ _ _;refine zV ?_
       refine qA ?_
       refine VE ?_
       obtain⟨t49,ht49,h⟩:=zA h;have ht49:=zD ht49;refine zDu [0,1,0,0,4,28,60,127,0,256,0,0,1024,7168,15360,32512,65535,0,131072,0,0,524288,3670016,7864320,16646144,33554431,0,67108864,201326592,0,536870912,1610612736,4227858432,8589934591] 34 (cdm 34 [49189065721488485024,49189065721488485025,49189065721488474250,49189065721488474666,49189065721488474266,49189065721488474458,49189065721488475482,49189065721488479573,49189065719340378794,49189065719340444330,49189065718634293930,49189065718661556906,49189065718635342506,49189065718647925418,49189065718715034282,49189065718983142058,49189065720056862037,49188502608326339242,49188502625506208426,49188317512415750826,49188324659241331370,49188317787293657770,49188321085828541098,49188338678014585514,49188408960859417258,49188690430109504853,12108678198123473578,12113181797750844074,12131196196260326058,192153584101141162,480383960252852906,1633305464859699882,6150415891112307370,24595658764946068821]) (mb 117 20769187434479320900888599772524608) [128,120,112,104,96,48] (s1:=⟨bt 6 (.pt 48 0::bt 5 (.pt 96 0::.pt 104 0::.pt 112 0::.pt 120 0::.pt 128 0::I 1::bt 57 (I 1::.bot::.bot::I 2::bt 35 (Bo t49::.bot::.bot::[])))),[(128,.box [Ti g2.1,Ti g2.2.1,Ti g2.2.2]),(120,.box [Ti f1.1,Ti f1.2.1,Ti f1.2.2]),(112,.box [Ti y29.1.1,Ti y29.1.2.1,Ti y29.1.2.2,Ti y29.2.1.1,Ti y29.2.1.2.1,Ti y29.2.1.2.2,Ti y29.2.2.1,Ti y29.2.2.2.1,Ti y29.2.2.2.2]),(104,.box [Ti y28.1.1,Ti y28.1.2.1,Ti y28.1.2.2,Ti y28.2.1.1,Ti y28.2.1.2.1,Ti y28.2.1.2.2,Ti y28.2.2.1,Ti y28.2.2.2.1,Ti y28.2.2.2.2]),(96,.box [Ti y27.1.1,Ti y27.1.2.1,Ti y27.1.2.2,Ti y27.2.1.1,Ti y27.2.1.2.1,Ti y27.2.1.2.2,Ti y27.2.2.1,Ti y27.2.2.2.1,Ti y27.2.2.2.2]),(48,.box [Ti vh3.1,Ti vh3.2.1,Ti vh3.2.2])]⟩) kk kk ?_ ?_
       ·refine DA 34 ?_
        refine qN ?_
        subst ht49
        kernel_rfl
       refine VC h (fun h=>?_) (fun h=>?_)
       ·refine VE ?_
        cases h;exact zBW VT
       ·refine qV ?_
        show V _ _ _ _;refine q7 ?_
        refine YF ?_
        show VR _ _ _ _ _;refine VR_s (n:=36) ?_
        refine jV (mb 117 340010386766614455644224) [128,120,112,104,96,48] (s':=⟨bt 6 (.pt 48 0::bt 5 (.pt 96 0::.pt 104 0::.pt 112 0::.pt 120 0::.pt 128 0::I 1::bt 57 (I 1::.bot::.bot::I 3::bt 38 []))),[(128,.box [Ti g2.1,Ti g2.2.1,Ti g2.2.2]),(120,.box [Ti f1.1,Ti f1.2.1,Ti f1.2.2]),(112,.box [Ti y29.1.1,Ti y29.1.2.1,Ti y29.1.2.2,Ti y29.2.1.1,Ti y29.2.1.2.1,Ti y29.2.1.2.2,Ti y29.2.2.1,Ti y29.2.2.2.1,Ti y29.2.2.2.2]),(104,.box [Ti y28.1.1,Ti y28.1.2.1,Ti y28.1.2.2,Ti y28.2.1.1,Ti y28.2.1.2.1,Ti y28.2.1.2.2,Ti y28.2.2.1,Ti y28.2.2.2.1,Ti y28.2.2.2.2]),(96,.box [Ti y27.1.1,Ti y27.1.2.1,Ti y27.1.2.2,Ti y27.2.1.1,Ti y27.2.1.2.1,Ti y27.2.1.2.2,Ti y27.2.2.1,Ti y27.2.2.2.1,Ti y27.2.2.2.2]),(48,.box [Ti vh3.1,Ti vh3.2.1,Ti vh3.2.2])]⟩) kk ?_
        refine VE ?_
        refine zV ?_
        refine zDM rfl ?_
        refine zFU ?_
        show V _ _ _ _;refine q7 ?_
        refine YF ?_
        show VR _ _ _ _ _;refine VR_s (n:=37) ?_
        refine jV (mb 117 37778931862957161836608) [128,120,112,104,96,48] (s':=⟨bt 6 (.pt 48 0::bt 5 (.pt 96 0::.pt 104 0::.pt 112 0::.pt 120 0::.pt 128 0::bt 58 (I 2::bt 41 []))),[(128,.box [Ti g2.1,Ti g2.2.1,Ti g2.2.2]),(120,.box [Ti f1.1,Ti f1.2.1,Ti f1.2.2]),(112,.box [Ti y29.1.1,Ti y29.1.2.1,Ti y29.1.2.2,Ti y29.2.1.1,Ti y29.2.1.2.1,Ti y29.2.1.2.2,Ti y29.2.2.1,Ti y29.2.2.2.1,Ti y29.2.2.2.2]),(104,.box [Ti y28.1.1,Ti y28.1.2.1,Ti y28.1.2.2,Ti y28.2.1.1,Ti y28.2.1.2.1,Ti y28.2.1.2.2,Ti y28.2.2.1,Ti y28.2.2.2.1,Ti y28.2.2.2.2]),(96,.box [Ti y27.1.1,Ti y27.1.2.1,Ti y27.1.2.2,Ti y27.2.1.1,Ti y27.2.1.2.1,Ti y27.2.1.2.2,Ti y27.2.2.1,Ti y27.2.2.2.1,Ti y27.2.2.2.2]),(48,.box [Ti vh3.1,Ti vh3.2.1,Ti vh3.2.2])]⟩) kk ?_
        refine VE ?_
        refine zV ?_
        refine qG rfl ?_
        refine qV ?_
        show V _ _ _ _;refine zV ?_
        refine qA ?_
        refine VE ?_
        refine VE ?_
        refine qA (zF3 40 ?_);refine VR_s (n:=39) ?_
        refine jV (mb 117 340010386766614455644224) [128,120,112,104,96,48] (s':=⟨bt 6 (.pt 48 0::bt 5 (.pt 96 0::.pt 104 0::.pt 112 0::.pt 120 0::.pt 128 0::I 2::bt 57 (I 2::.bot::.bot::I 0::bt 38 []))),[(128,.box [Ti g2.1,Ti g2.2.1,Ti g2.2.2]),(120,.box [Ti f1.1,Ti f1.2.1,Ti f1.2.2]),(112,.box [Ti y29.1.1,Ti y29.1.2.1,Ti y29.1.2.2,Ti y29.2.1.1,Ti y29.2.1.2.1,Ti y29.2.1.2.2,Ti y29.2.2.1,Ti y29.2.2.2.1,Ti y29.2.2.2.2]),(104,.box [Ti y28.1.1,Ti y28.1.2.1,Ti y28.1.2.2,Ti y28.2.1.1,Ti y28.2.1.2.1,Ti y28.2.1.2.2,Ti y28.2.2.1,Ti y28.2.2.2.1,Ti y28.2.2.2.2]),(96,.box [Ti y27.1.1,Ti y27.1.2.1,Ti y27.1.2.2,Ti y27.2.1.1,Ti y27.2.1.2.1,Ti y27.2.1.2.2,Ti y27.2.2.1,Ti y27.2.2.2.1,Ti y27.2.2.2.2]),(48,.box [Ti vh3.1,Ti vh3.2.1,Ti vh3.2.2])]⟩) kk ?_
        refine VE ?_
        refine zV ?_
        refine qG rfl ?_
        refine qV ?_
        show V _ _ _ _;refine zV ?_
        refine qA ?_
        refine VE ?_
        obtain⟨t54,ht54,h⟩:=zA h;have ht54:=zD ht54;refine zDu [0,1,0,0,4,28,60,127,0,256,0,0,1024,7168,15360,32512,65535,0,131072,0,0,524288,3670016,7864320,16646144,33554431,0,67108864,201326592,0,536870912,1610612736,4227858432,8589934591] 34 (cdm 34 [49189065721488485024,49189065721488485025,49189065721488474250,49189065721488474666,49189065721488474266,49189065721488474458,49189065721488475482,49189065721488479573,49189065719340378794,49189065719340444330,49189065718634293930,49189065718661556906,49189065718635342506,49189065718647925418,49189065718715034282,49189065718983142058,49189065720056862037,49188502608326339242,49188502625506208426,49188317512415750826,49188324659241331370,49188317787293657770,49188321085828541098,49188338678014585514,49188408960859417258,49188690430109504853,12108678198123473578,12113181797750844074,12131196196260326058,192153584101141162,480383960252852906,1633305464859699882,6150415891112307370,24595658764946068821]) (mb 117 20769187434479320900888599772524608) [128,120,112,104,96,48] (s1:=⟨bt 6 (.pt 48 0::bt 5 (.pt 96 0::.pt 104 0::.pt 112 0::.pt 120 0::.pt 128 0::I 2::bt 57 (I 2::.bot::.bot::I 0::bt 35 (Bo t54::.bot::.bot::[])))),[(128,.box [Ti g2.1,Ti g2.2.1,Ti g2.2.2]),(120,.box [Ti f1.1,Ti f1.2.1,Ti f1.2.2]),(112,.box [Ti y29.1.1,Ti y29.1.2.1,Ti y29.1.2.2,Ti y29.2.1.1,Ti y29.2.1.2.1,Ti y29.2.1.2.2,Ti y29.2.2.1,Ti y29.2.2.2.1,Ti y29.2.2.2.2]),(104,.box [Ti y28.1.1,Ti y28.1.2.1,Ti y28.1.2.2,Ti y28.2.1.1,Ti y28.2.1.2.1,Ti y28.2.1.2.2,Ti y28.2.2.1,Ti y28.2.2.2.1,Ti y28.2.2.2.2]),(96,.box [Ti y27.1.1,Ti y27.1.2.1,Ti y27.1.2.2,Ti y27.2.1.1,Ti y27.2.1.2.1,Ti y27.2.1.2.2,Ti y27.2.2.1,Ti y27.2.2.2.1,Ti y27.2.2.2.2]),(48,.box [Ti vh3.1,Ti vh3.2.1,Ti vh3.2.2])]⟩) kk kk ?_ ?_
        ·refine DA 34 ?_
         refine qN ?_
         subst ht54
         kernel_rfl
        refine VC h (fun h=>?_) (fun h=>?_)
        ·refine VE ?_
         cases h;exact zBW VT
        ·refine qV ?_
         show V _ _ _ _;refine q7 ?_
         refine YF ?_
         show VR _ _ _ _ _;refine VR_s (n:=38) ?_
         refine jV (mb 117 340010386766614455644224) [128,120,112,104,96,48] (s':=⟨bt 6 (.pt 48 0::bt 5 (.pt 96 0::.pt 104 0::.pt 112 0::.pt 120 0::.pt 128 0::I 2::bt 57 (I 2::.bot::.bot::I 1::bt 38 []))),[(128,.box [Ti g2.1,Ti g2.2.1,Ti g2.2.2]),(120,.box [Ti f1.1,Ti f1.2.1,Ti f1.2.2]),(112,.box [Ti y29.1.1,Ti y29.1.2.1,Ti y29.1.2.2,Ti y29.2.1.1,Ti y29.2.1.2.1,Ti y29.2.1.2.2,Ti y29.2.2.1,Ti y29.2.2.2.1,Ti y29.2.2.2.2]),(104,.box [Ti y28.1.1,Ti y28.1.2.1,Ti y28.1.2.2,Ti y28.2.1.1,Ti y28.2.1.2.1,Ti y28.2.1.2.2,Ti y28.2.2.1,Ti y28.2.2.2.1,Ti y28.2.2.2.2]),(96,.box [Ti y27.1.1,Ti y27.1.2.1,Ti y27.1.2.2,Ti y27.2.1.1,Ti y27.2.1.2.1,Ti y27.2.1.2.2,Ti y27.2.2.1,Ti y27.2.2.2.1,Ti y27.2.2.2.2]),(48,.box [Ti vh3.1,Ti vh3.2.1,Ti vh3.2.2])]⟩) kk ?_
         refine VE ?_
         refine zV ?_
         refine qG rfl ?_
         refine qV ?_
         show V _ _ _ _;refine zV ?_
         refine qA ?_
         refine VE ?_
         obtain⟨t57,ht57,h⟩:=zA h;have ht57:=zD ht57;refine zDu [0,1,0,0,4,28,60,127,0,256,0,0,1024,7168,15360,32512,65535,0,131072,0,0,524288,3670016,7864320,16646144,33554431,0,67108864,201326592,0,536870912,1610612736,4227858432,8589934591] 34 (cdm 34 [49189065721488485024,49189065721488485025,49189065721488474250,49189065721488474666,49189065721488474266,49189065721488474458,49189065721488475482,49189065721488479573,49189065719340378794,49189065719340444330,49189065718634293930,49189065718661556906,49189065718635342506,49189065718647925418,49189065718715034282,49189065718983142058,49189065720056862037,49188502608326339242,49188502625506208426,49188317512415750826,49188324659241331370,49188317787293657770,49188321085828541098,49188338678014585514,49188408960859417258,49188690430109504853,12108678198123473578,12113181797750844074,12131196196260326058,192153584101141162,480383960252852906,1633305464859699882,6150415891112307370,24595658764946068821]) (mb 117 20769187434479320900888599772524608) [128,120,112,104,96,48] (s1:=⟨bt 6 (.pt 48 0::bt 5 (.pt 96 0::.pt 104 0::.pt 112 0::.pt 120 0::.pt 128 0::I 2::bt 57 (I 2::.bot::.bot::I 1::bt 35 (Bo t57::.bot::.bot::[])))),[(128,.box [Ti g2.1,Ti g2.2.1,Ti g2.2.2]),(120,.box [Ti f1.1,Ti f1.2.1,Ti f1.2.2]),(112,.box [Ti y29.1.1,Ti y29.1.2.1,Ti y29.1.2.2,Ti y29.2.1.1,Ti y29.2.1.2.1,Ti y29.2.1.2.2,Ti y29.2.2.1,Ti y29.2.2.2.1,Ti y29.2.2.2.2]),(104,.box [Ti y28.1.1,Ti y28.1.2.1,Ti y28.1.2.2,Ti y28.2.1.1,Ti y28.2.1.2.1,Ti y28.2.1.2.2,Ti y28.2.2.1,Ti y28.2.2.2.1,Ti y28.2.2.2.2]),(96,.box [Ti y27.1.1,Ti y27.1.2.1,Ti y27.1.2.2,Ti y27.2.1.1,Ti y27.2.1.2.1,Ti y27.2.1.2.2,Ti y27.2.2.1,Ti y27.2.2.2.1,Ti y27.2.2.2.2]),(48,.box [Ti vh3.1,Ti vh3.2.1,Ti vh3.2.2])]⟩) kk kk ?_ ?_
         ·refine DA 34 ?_
          refine qN ?_
          subst ht57
          kernel_rfl
         refine VC h (fun h=>?_) (fun h=>?_)
         ·refine VE ?_
          cases h;exact zBW VT
         ·refine qV ?_
          show V _ _ _ _;refine q7 ?_
          refine YF ?_
          show VR _ _ _ _ _;refine VR_s (n:=37) ?_
          refine jV (mb 117 340010386766614455644224) [128,120,112,104,96,48] (s':=⟨bt 6 (.pt 48 0::bt 5 (.pt 96 0::.pt 104 0::.pt 112 0::.pt 120 0::.pt 128 0::I 2::bt 57 (I 2::.bot::.bot::I 2::bt 38 []))),[(128,.box [Ti g2.1,Ti g2.2.1,Ti g2.2.2]),(120,.box [Ti f1.1,Ti f1.2.1,Ti f1.2.2]),(112,.box [Ti y29.1.1,Ti y29.1.2.1,Ti y29.1.2.2,Ti y29.2.1.1,Ti y29.2.1.2.1,Ti y29.2.1.2.2,Ti y29.2.2.1,Ti y29.2.2.2.1,Ti y29.2.2.2.2]),(104,.box [Ti y28.1.1,Ti y28.1.2.1,Ti y28.1.2.2,Ti y28.2.1.1,Ti y28.2.1.2.1,Ti y28.2.1.2.2,Ti y28.2.2.1,Ti y28.2.2.2.1,Ti y28.2.2.2.2]),(96,.box [Ti y27.1.1,Ti y27.1.2.1,Ti y27.1.2.2,Ti y27.2.1.1,Ti y27.2.1.2.1,Ti y27.2.1.2.2,Ti y27.2.2.1,Ti y27.2.2.2.1,Ti y27.2.2.2.2]),(48,.box [Ti vh3.1,Ti vh3.2.1,Ti vh3.2.2])]⟩) kk ?_
          refine VE ?_
          refine zV ?_
          refine qG rfl ?_
          refine qV ?_
          show V _ _ _ _;refine zV ?_
          refine qA ?_
          refine VE ?_
          obtain⟨t60,ht60,h⟩:=zA h;have ht60:=zD ht60;refine zDu [0,1,0,0,4,28,60,127,0,256,0,0,1024,7168,15360,32512,65535,0,131072,0,0,524288,3670016,7864320,16646144,33554431,0,67108864,201326592,0,536870912,1610612736,4227858432,8589934591] 34 (cdm 34 [49189065721488485024,49189065721488485025,49189065721488474250,49189065721488474666,49189065721488474266,49189065721488474458,49189065721488475482,49189065721488479573,49189065719340378794,49189065719340444330,49189065718634293930,49189065718661556906,49189065718635342506,49189065718647925418,49189065718715034282,49189065718983142058,49189065720056862037,49188502608326339242,49188502625506208426,49188317512415750826,49188324659241331370,49188317787293657770,49188321085828541098,49188338678014585514,49188408960859417258,49188690430109504853,12108678198123473578,12113181797750844074,12131196196260326058,192153584101141162,480383960252852906,1633305464859699882,6150415891112307370,24595658764946068821]) (mb 117 20769187434479320900888599772524608) [128,120,112,104,96,48] (s1:=⟨bt 6 (.pt 48 0::bt 5 (.pt 96 0::.pt 104 0::.pt 112 0::.pt 120 0::.pt 128 0::I 2::bt 57 (I 2::.bot::.bot::I 2::bt 35 (Bo t60::.bot::.bot::[])))),[(128,.box [Ti g2.1,Ti g2.2.1,Ti g2.2.2]),(120,.box [Ti f1.1,Ti f1.2.1,Ti f1.2.2]),(112,.box [Ti y29.1.1,Ti y29.1.2.1,Ti y29.1.2.2,Ti y29.2.1.1,Ti y29.2.1.2.1,Ti y29.2.1.2.2,Ti y29.2.2.1,Ti y29.2.2.2.1,Ti y29.2.2.2.2]),(104,.box [Ti y28.1.1,Ti y28.1.2.1,Ti y28.1.2.2,Ti y28.2.1.1,Ti y28.2.1.2.1,Ti y28.2.1.2.2,Ti y28.2.2.1,Ti y28.2.2.2.1,Ti y28.2.2.2.2]),(96,.box [Ti y27.1.1,Ti y27.1.2.1,Ti y27.1.2.2,Ti y27.2.1.1,Ti y27.2.1.2.1,Ti y27.2.1.2.2,Ti y27.2.2.1,Ti y27.2.2.2.1,Ti y27.2.2.2.2]),(48,.box [Ti vh3.1,Ti vh3.2.1,Ti vh3.2.2])]⟩) kk kk ?_ ?_
          ·refine DA 34 ?_
           refine qN ?_
           subst ht60
           kernel_rfl
          refine VC h (fun h=>?_) (fun h=>?_)
          ·refine VE ?_
           cases h;exact zBW VT
          ·refine qV ?_
           show V _ _ _ _;refine q7 ?_
           refine YF ?_
           show VR _ _ _ _ _;refine VR_s (n:=36) ?_
           refine jV (mb 117 340010386766614455644224) [128,120,112,104,96,48] (s':=⟨bt 6 (.pt 48 0::bt 5 (.pt 96 0::.pt 104 0::.pt 112 0::.pt 120 0::.pt 128 0::I 2::bt 57 (I 2::.bot::.bot::I 3::bt 38 []))),[(128,.box [Ti g2.1,Ti g2.2.1,Ti g2.2.2]),(120,.box [Ti f1.1,Ti f1.2.1,Ti f1.2.2]),(112,.box [Ti y29.1.1,Ti y29.1.2.1,Ti y29.1.2.2,Ti y29.2.1.1,Ti y29.2.1.2.1,Ti y29.2.1.2.2,Ti y29.2.2.1,Ti y29.2.2.2.1,Ti y29.2.2.2.2]),(104,.box [Ti y28.1.1,Ti y28.1.2.1,Ti y28.1.2.2,Ti y28.2.1.1,Ti y28.2.1.2.1,Ti y28.2.1.2.2,Ti y28.2.2.1,Ti y28.2.2.2.1,Ti y28.2.2.2.2]),(96,.box [Ti y27.1.1,Ti y27.1.2.1,Ti y27.1.2.2,Ti y27.2.1.1,Ti y27.2.1.2.1,Ti y27.2.1.2.2,Ti y27.2.2.1,Ti y27.2.2.2.1,Ti y27.2.2.2.2]),(48,.box [Ti vh3.1,Ti vh3.2.1,Ti vh3.2.2])]⟩) kk ?_
           refine VE ?_
           refine zV ?_
           refine zDM rfl ?_
           refine zFU ?_
           show V _ _ _ _;refine q7 ?_
           refine YF ?_
           show VR _ _ _ _ _;refine VR_s (n:=36) ?_
           refine jV (mb 117 37778931862957161836608) [128,120,112,104,96,48] (s':=⟨bt 6 (.pt 48 0::bt 5 (.pt 96 0::.pt 104 0::.pt 112 0::.pt 120 0::.pt 128 0::bt 58 (I 3::bt 41 []))),[(128,.box [Ti g2.1,Ti g2.2.1,Ti g2.2.2]),(120,.box [Ti f1.1,Ti f1.2.1,Ti f1.2.2]),(112,.box [Ti y29.1.1,Ti y29.1.2.1,Ti y29.1.2.2,Ti y29.2.1.1,Ti y29.2.1.2.1,Ti y29.2.1.2.2,Ti y29.2.2.1,Ti y29.2.2.2.1,Ti y29.2.2.2.2]),(104,.box [Ti y28.1.1,Ti y28.1.2.1,Ti y28.1.2.2,Ti y28.2.1.1,Ti y28.2.1.2.1,Ti y28.2.1.2.2,Ti y28.2.2.1,Ti y28.2.2.2.1,Ti y28.2.2.2.2]),(96,.box [Ti y27.1.1,Ti y27.1.2.1,Ti y27.1.2.2,Ti y27.2.1.1,Ti y27.2.1.2.1,Ti y27.2.1.2.2,Ti y27.2.2.1,Ti y27.2.2.2.1,Ti y27.2.2.2.2]),(48,.box [Ti vh3.1,Ti vh3.2.1,Ti vh3.2.2])]⟩) kk ?_
           refine VE ?_
           refine zV ?_
           refine zDM rfl ?_
           refine zFU ?_
           show V _ _ _ _;refine VE ?_
           cases h;exact zBW VT
theorem zR0:CfW qf 178:=cfW Tryz.func178
noncomputable def z00:T qf (τM):=
 .n0 (bld pl61 bt61)<|
 .ret ((1,0,0,1))
theorem zTi{r:τM}(h:zDA=some r):zH qf 178 [] (.ag [Ti r.1,Ti r.2.1,Ti r.2.2.1,Ti r.2.2.2]) []:=CtT (z00) (fun r=>(.ag [Ti r.1,Ti r.2.1,Ti r.2.2.1,Ti r.2.2.2],[])) (rs:=[.w 0 4]) (vs:=[.cell 0 61]) Tryz.func178 rfl rfl (.cons ⟨rfl,wd61⟩ FitsL.nil) h
def zVR:=fC zR0 (zDA) fun _=>zTi
theorem zRF:CfW qf 233:=cfW Tryz.func233
noncomputable def zRj(a1:Int)(vm2:Int):T qf Int:=
 .op1 (zE4 a1 vm2) fun y3=>.op0 (quoF .i64 (w64 (a1 - y3)) vm2) fun z4=>
 .frc (w64 (Int.tdiv (w64 (a1 - y3)) vm2)) fun t5=>.ret t5
theorem zSE{a1:Int}{vm2:Int}{r:Int}(h:zBl a1 vm2=some r):zH qf 233 [I a1,I vm2] (I r) []:=CtU (zRj a1 vm2) 4 (fun r=>I r) Tryz.func233 rfl rfl h
def zLZ(a1:Int)(vm2:Int):=fC zRF (zBl a1 vm2) fun _=>zSE
theorem zPp:CfW qf 179:=cfW Tryz.func179
noncomputable def zQO(f1:τF):T qf (τM):=
 .op1 (zEj f1) fun y2=>
 .cond y2 (.op1 (zVR) fun y4=>
 .ret y4)<|.op1 (zMo f1) fun y5=>
 .cond (!y5) (.op1 (zLZ (w64 (f1.1 - f1.2.1)) (w64 (2*f1.1))) fun y7=>.n0 (bld pl61 bt61)<|
 .ret ((1,y7,0,1)))<|.n0 (bld pl61 bt61)<|
 .ret ((0,-1,1,0))
theorem zQ1{f1:τF}{r:τM}(h:jH f1=some r):zH qf 179 [.ag [Ti f1.1,Ti f1.2.1,Ti f1.2.2]] (.ag [Ti r.1,Ti r.2.1,Ti r.2.2.1,Ti r.2.2.2]) []:=CtT (zQO f1) (fun r=>(.ag [Ti r.1,Ti r.2.1,Ti r.2.2.1,Ti r.2.2.2],[])) (rs:=[.w 2 4]) (vs:=[.cell 2 61]) Tryz.func179 rfl rfl (.cons ⟨rfl,wd61⟩ FitsL.nil) h
def zRQ(f1:τF):=fC zPp (jH f1) fun _=>zQ1
theorem zCk:CfW qf 102:=cfW Tryz.func102
noncomputable def zNN(vm1:τM)(vn2:τM):T qf (τM):=
 .n0 (bld pl61 bt61)<|
 .frc (w64 ((w64 (vm1.1*vn2.1))+(w64 (vm1.2.1*vn2.2.2.1)))) fun f3=>.frc (w64 ((w64 (vm1.1*vn2.2.1))+(w64 (vm1.2.1*vn2.2.2.2)))) fun f4=>.frc (w64 ((w64 (vm1.2.2.1*vn2.1))+(w64 (vm1.2.2.2*vn2.2.2.1)))) fun f5=>.frc (w64 ((w64 (vm1.2.2.1*vn2.2.1))+(w64 (vm1.2.2.2*vn2.2.2.2)))) fun f6=>.ret ((f3,f4,f5,f6))
theorem zDE{vm1:τM}{vn2:τM}{r:τM}(h:zF vm1 vn2=some r):zH qf 102 [.ag [Ti vm1.1,Ti vm1.2.1,Ti vm1.2.2.1,Ti vm1.2.2.2],.ag [Ti vn2.1,Ti vn2.2.1,Ti vn2.2.2.1,Ti vn2.2.2.2]] (.ag [Ti r.1,Ti r.2.1,Ti r.2.2.1,Ti r.2.2.2]) []:=CtT (zNN vm1 vn2) (fun r=>(.ag [Ti r.1,Ti r.2.1,Ti r.2.2.1,Ti r.2.2.2],[])) (rs:=[.w 4 4]) (vs:=[.cell 4 61]) Tryz.func102 rfl rfl (.cons ⟨rfl,wd61⟩ FitsL.nil) h
def zFW(vm1:τM)(vn2:τM):=fC zCk (zF vm1 vn2) fun _=>zDE
theorem zFC:CfW qf 93:=cfW Tryz.func93
noncomputable def zVg(f1:τF):T qf ((τF×τM)):=
 .op1 (zVR) fun y2=>
 .loop (fun n X_1=>zCI n X_1.1 X_1.2.1 X_1.2.2.1 X_1.2.2.2.1 X_1.2.2.2.2.1 X_1.2.2.2.2.2.1 X_1.2.2.2.2.2.2) ((y2.1,y2.2.1,y2.2.2.1,y2.2.2.2,f1.1,f1.2.1,f1.2.2)) (mb 20 30) [32,24,16,8] (fun s X_1 γ=>s.pc (mb 20 30) [32,24,16,8] [] [(32,.box [Ti X_1.1,Ti X_1.2.1,Ti X_1.2.2.1,Ti X_1.2.2.2.1]),(8,.box [Ti X_1.2.2.2.2.1,Ti X_1.2.2.2.2.2.1,Ti X_1.2.2.2.2.2.2])]) (fun X_1=>
 .op1 (zEj ((X_1.2.2.2.2.1,X_1.2.2.2.2.2.1,X_1.2.2.2.2.2.2))) fun y12=>
 .cond (!y12) (.op1 (zRQ ((X_1.2.2.2.2.1,X_1.2.2.2.2.2.1,X_1.2.2.2.2.2.2))) fun y14=>
 .op1 (zDN ((X_1.2.2.2.2.1,X_1.2.2.2.2.2.1,X_1.2.2.2.2.2.2)) y14) fun y15=>
 .op1 (zFW ((X_1.1,X_1.2.1,X_1.2.2.1,X_1.2.2.2.1)) y14) fun y16=>
 .ret (.inl ((y16.1,y16.2.1,y16.2.2.1,y16.2.2.2,y15.1,y15.2.1,y15.2.2))))<|.ret (.inr ((X_1.1,X_1.2.1,X_1.2.2.1,X_1.2.2.2.1,X_1.2.2.2.2.1,X_1.2.2.2.2.2.1,X_1.2.2.2.2.2.2)))) (mb 20 30) [32,24,16,8] (fun s o11 γ=>s.pc (mb 20 30) [32,24,16,8] [] [(32,.box [Ti o11.1,Ti o11.2.1,Ti o11.2.2.1,Ti o11.2.2.2.1]),(8,.box [Ti o11.2.2.2.2.1,Ti o11.2.2.2.2.2.1,Ti o11.2.2.2.2.2.2])]) fun o11=>
 .draw 3 [(2,16)]<|
 .ret ((o11.2.2.2.2,(o11.1,o11.2.1,o11.2.2.1,o11.2.2.2.1)))
theorem zFX{f1:τF}{r:(τF×τM)}(h:zQ f1=some r):zH qf 93 [.ag [Ti f1.1,Ti f1.2.1,Ti f1.2.2]] (.tc (.ag [Ti r.1.1,Ti r.1.2.1,Ti r.1.2.2]) (.tc (.ag [Ti r.2.1,Ti r.2.2.1,Ti r.2.2.2.1,Ti r.2.2.2.2]) .tn)) []:=CtT (zVg f1) (fun r=>(.tc (.ag [Ti r.1.1,Ti r.1.2.1,Ti r.1.2.2]) (.tc (.ag [Ti r.2.1,Ti r.2.2.1,Ti r.2.2.2.1,Ti r.2.2.2.2]) .tn),[])) (rs:=[.w 2 3,.w 3 4]) (vs:=[.cell 2 25,.cell 3 61]) Tryz.func93 rfl rfl (.cons ⟨rfl,wd25⟩ (.cons ⟨rfl,wd61⟩ FitsL.nil)) h
def zGp(f1:τF):=fC zFC (zQ f1) fun _=>zFX
theorem zST:CfW qf 55:=cfW Tryz.func55
noncomputable def zTL(f1:τF):T qf (τF):=
 .op1 (zGp f1) fun y2=>
 .ret y2.1
theorem zTf{f1:τF}{r:τF}(h:zAE f1=some r):zH qf 55 [.ag [Ti f1.1,Ti f1.2.1,Ti f1.2.2]] (.ag [Ti r.1,Ti r.2.1,Ti r.2.2]) []:=CtT (zTL f1) (fun r=>(.ag [Ti r.1,Ti r.2.1,Ti r.2.2],[])) (rs:=[.w 2 3]) (vs:=[.cell 2 25]) Tryz.func55 rfl rfl (.cons ⟨rfl,wd25⟩ FitsL.nil) h
def zCn(f1:τF):=fC zST (zAE f1) fun _=>zTf
theorem zLh:CfW qf 254:=cfW Tryz.func254
noncomputable def zLs(d1:Int):T qf (τF):=
 .op1 (zE4 d1 2) fun y2=>
 .n0 dvN<|.n0 (bld pl25 bt25)<|
 .frc (w64 (Int.tdiv (w64 (y2 - d1)) 4)) fun f3=>.ret ((1,y2,f3))
theorem zMF{d1:Int}{r:τF}(h:zCf d1=some r):zH qf 254 [I d1] (.ag [Ti r.1,Ti r.2.1,Ti r.2.2]) []:=CtT (zLs d1) (fun r=>(.ag [Ti r.1,Ti r.2.1,Ti r.2.2],[])) (rs:=[.w 2 3]) (vs:=[.cell 2 25]) Tryz.func254 rfl rfl (.cons ⟨rfl,wd25⟩ FitsL.nil) h
def zMl(d1:Int):=fC zLh (zCf d1) fun _=>zMF
theorem zOZ:CfW qf 211:=cfW Tryz.func211
noncomputable def zOr(f1:τF):T qf Bool:=
 .draw 8 []<|.op1 (zCn f1) fun y2=>.op1 (zC8 f1) fun y3=>.op1 (zMl y3) fun y4=>.op1 (zCn y4) fun y5=>.n0 (eqg3 zWo)<|
 .lt (((y2.1==y5.1)&&((y2.2.1==y5.2.1)&&(y2.2.2==y5.2.2)))) fun t6=>.ret t6
theorem zPL{f1:τF}{r:Bool}(h:zCs f1=some r):zH qf 211 [.ag [Ti f1.1,Ti f1.2.1,Ti f1.2.2]] (Bo r) []:=CtU (zOr f1) 2 (fun r=>Bo r) Tryz.func211 rfl rfl h
def zPy(f1:τF):=fC zOZ (zCs f1) fun _=>zPL
theorem zO1:CfW qf 207:=cfW Tryz.func207
noncomputable def zOt(g1:τF)(a2:Int):T qf ((Int×Int)):=
 .loopS (fun n X_4=>zBS a2 g1 n X_4) 0 (mb 43 70) [16] (fun s X_4 γ=>s.pc (mb 43 70) [16] [(6,I X_4)] []) (fun X_4=>
 .loopS (fun n X_3=>zCg a2 g1 X_4 n X_3) 0 (mb 43 198) [16] (fun s X_3 γ=>s.pc (mb 43 198) [16] [(7,I X_3)] []) (fun X_3=>
 .cond (leI X_3 X_4) (
 .loopS (fun n X_2=>zC0 a2 g1 X_4 X_3 n X_2) 0 (mb 43 454) [16] (fun s X_2 γ=>s.pc (mb 43 454) [16] [(8,I X_2)] []) (fun X_2=>
 .cond (leI X_2 X_4) (.pl<|.dn<|.joinC (.n0 au<|.seqT (.cond (eqI (mxI X_3 X_2) X_4) (.op1 (zId X_3 X_2) fun y15=>.ret (eqI y15 1)) (.ret false)) fun b16=>.seqT (.cond b16 (.op1 (zIe g1 X_3 X_2) fun y18=>.op1 (zId y18 a2) fun y19=>.ret (eqI y19 1)) (.ret false)) fun b20=>.ret (b16,b20)) (mb 43 1099511628230) [16] (fun s q_1 γ=>s.pc (mb 43 1099511628230) [16] [(40,Bo q_1.2)] []) fun q_1=>
 .cond q_1.2 (
 .ret (.early ((X_3,X_2))))<|
 .frc (w64 (X_2+1)) fun y22=>.ret (.again y22))<|.ret (.done (()))) (mb 43 198) [16] (fun s o12 γ=>s.pc (mb 43 198) [16] [] []) (.early) fun o12=>
 .frc (w64 (X_3+1)) fun x23=>.ret (.again x23))<|.ret (.done (()))) (mb 43 70) [16] (fun s o8 γ=>s.pc (mb 43 70) [16] [] []) (.early) fun o8=>
 .frc (w64 (X_4+1)) fun size24=>.ret (.again size24)) [] [] (fun _ _ _=>⟨[],[]⟩) (fun r=>r) fun _=>.fail
theorem zPN{g1:τF}{a2:Int}{r:(Int×Int)}(h:zDt g1 a2=some r):zH qf 207 [.ag [Ti g1.1,Ti g1.2.1,Ti g1.2.2],I a2] (.tc (I r.1) (.tc (I r.2) .tn)) []:=CtT (zOt g1 a2) (fun r=>(.tc (I r.1) (.tc (I r.2) .tn),[])) (rs:=[.t 4,.t 5]) (vs:=[.tmp 4,.tmp 5]) Tryz.func207 rfl rfl (.cons rfl (.cons rfl FitsL.nil)) h
def zPz(g1:τF)(a2:Int):=fC zO1 (zDt g1 a2) fun _=>zPN
theorem zSZ:CfW qf 249:=cfW Tryz.func249
noncomputable def zTR(a1:Int)(vm2:Int):T qf Int:=
 .op1 (zE4 a1 vm2) fun y3=>
 .loop (fun n X_1=>zGE vm2 n X_1.1 X_1.2.1 X_1.2.2.1 X_1.2.2.2) ((1,0,y3,vm2)) (mb 34 482) [] (fun s X_1 γ=>s.pc (mb 34 482) [] [(5,I X_1.1),(6,I X_1.2.1),(7,I X_1.2.2.1),(8,I X_1.2.2.2)] []) (fun X_1=>
 .cond (!eqI X_1.2.2.2 0) (.op0 (quoF .i64 X_1.2.2.1 X_1.2.2.2) fun z11=>
 .frc (w64 (Int.tdiv X_1.2.2.1 X_1.2.2.2)) fun q12=>
 .frc (w64 (X_1.2.2.1 - (w64 (q12*X_1.2.2.2)))) fun vs13=>
 .frc (w64 (X_1.1 - (w64 (q12*X_1.2.1)))) fun y14=>.ret (.inl ((X_1.2.1,y14,X_1.2.2.2,vs13))))<|.ret (.inr X_1.1)) (mb 34 34) [] (fun s o9 γ=>s.pc (mb 34 34) [] [(5,I o9)] []) fun o9=>
 .op1 (zE4 o9 vm2) fun y15=>
 .ret y15
theorem zTm{a1:Int}{vm2:Int}{r:Int}(h:zEy a1 vm2=some r):zH qf 249 [I a1,I vm2] (I r) []:=CtU (zTR a1 vm2) 4 (fun r=>I r) Tryz.func249 rfl rfl h
def zVT(a1:Int)(vm2:Int):=fC zSZ (zEy a1 vm2) fun _=>zTm
theorem zLl:CfW qf 208:=cfW Tryz.func208
noncomputable def zLw(f1:τF)(x2:Int)(y3:Int):T qf ((τF×τM)):=
 .n0 (bld pl61 bt61)<|
 .join (
 .cond (eqI y3 0) (
 .ret (0,x2))<|.op1 (zOe y3) fun y6=>.op1 (zVT x2 y6) fun y7=>
 .op0 (quoF .i64 (w64 ((w64 (x2*y7)) - 1)) y3) fun z8=>
 .frc (w64 (Int.tdiv (w64 ((w64 (x2*y7)) - 1)) y3)) fun f9=>.ret (f9,y7)) (mb 59 462) [64,56,48,24] (fun s j4 γ=>s.pc (mb 59 462) [64,56,48,24] [] [(64,.box [Ti x2,Ti j4.1,Ti y3,Ti j4.2])]) fun j4=>
 .op1 (zDN f1 ((x2,j4.1,y3,j4.2))) fun y10=>
 .op1 (zLZ y10.2.1 (w64 (2*y10.1))) fun y11=>
 .frc (w64 (0 - y11)) fun t12=>
 .frc (w64 (j4.1+(w64 (t12*x2)))) fun f13=>
 .frc (w64 (j4.2+(w64 (t12*y3)))) fun f14=>.draw 5 [(4,48)]<|.op1 (zDN f1 ((x2,f13,y3,f14))) fun y15=>
 .ret ((y15,(x2,f13,y3,f14)))
theorem zMJ{f1:τF}{x2:Int}{y3:Int}{r:(τF×τM)}(h:zBu f1 x2 y3=some r):zH qf 208 [.ag [Ti f1.1,Ti f1.2.1,Ti f1.2.2],I x2,I y3] (.tc (.ag [Ti r.1.1,Ti r.1.2.1,Ti r.1.2.2]) (.tc (.ag [Ti r.2.1,Ti r.2.2.1,Ti r.2.2.2.1,Ti r.2.2.2.2]) .tn)) []:=CtT (zLw f1 x2 y3) (fun r=>(.tc (.ag [Ti r.1.1,Ti r.1.2.1,Ti r.1.2.2]) (.tc (.ag [Ti r.2.1,Ti r.2.2.1,Ti r.2.2.2.1,Ti r.2.2.2.2]) .tn),[])) (rs:=[.w 6 3,.w 7 4]) (vs:=[.cell 6 25,.cell 7 61]) Tryz.func208 rfl rfl (.cons ⟨rfl,wd25⟩ (.cons ⟨rfl,wd61⟩ FitsL.nil)) h
def zMp(f1:τF)(x2:Int)(y3:Int):=fC zLl (zBu f1 x2 y3) fun _=>zMJ
theorem zNe:CfW qf 141:=cfW Tryz.func141
noncomputable def zX1(f1:τF)(g2:τF):T qf ((Int×Int×Int×Int×τM×τM)):=
 .op1 (zPz g2 f1.1) fun y3=>
 .op1 (zMp g2 y3.1 y3.2) fun y4=>
 .draw 12 []<|.op1 (zE4 f1.2.1 (w64 (2*f1.1))) fun y5=>.n0 (bld z7z bt141)<|
 .loop (fun n X_1=>zE9 f1 y4 n X_1) y5 (mb 103 916) [72,64,56,32,16] (fun s X_1 γ=>s.pc (mb 103 916) [72,64,56,32,16] [] [(72,.box [Ti f1.1,Ti y4.1.1,Ti X_1,Ti 0,Ti 0,Ti 0,Ti 0,Ti 0,Ti 0,Ti 0,Ti 0,Ti 0])]) (fun X_1=>
 .op1 (zE4 (w64 (X_1 - y4.1.2.1)) (w64 (2*y4.1.1))) fun y9=>
 .cond (!eqI y9 0) (
 .frc (w64 (X_1+(w64 (2*f1.1)))) fun f11=>.ret (.inl f11))<|.ret (.inr X_1)) (mb 103 916) [72,64,56,32,16] (fun s o8 γ=>s.pc (mb 103 916) [72,64,56,32,16] [] [(72,.box [Ti f1.1,Ti y4.1.1,Ti o8,Ti 0,Ti 0,Ti 0,Ti 0,Ti 0,Ti 0,Ti 0,Ti 0,Ti 0])]) fun o8=>
 .op1 (zE4 o8 (w64 ((w64 (2*f1.1))*y4.1.1))) fun y12=>
 .draw 16 []<|.op1 (zC8 f1) fun y13=>.op0 (quoF .i64 (w64 ((w64 (y12*y12)) - y13)) (w64 ((w64 (4*f1.1))*y4.1.1))) fun z14=>
 .frc (w64 (Int.tdiv (w64 ((w64 (y12*y12)) - y13)) (w64 ((w64 (4*f1.1))*y4.1.1)))) fun f15=>.op0 (quoF .i64 (w64 (y12 - f1.2.1)) (w64 (2*f1.1))) fun z16=>.n0 (bld pl61 bt61)<|
 .frc (w64 (Int.tdiv (w64 (y12 - f1.2.1)) (w64 (2*f1.1)))) fun f17=>.draw 13 []<|.op0 (quoF .i64 (w64 (y12 - y4.1.2.1)) (w64 (2*y4.1.1))) fun z18=>.n0 (bld pl61 bt61)<|.op1 (zFW y4.2 ((1,w64 (Int.tdiv (w64 (y12 - y4.1.2.1)) (w64 (2*y4.1.1))),0,1))) fun y19=>
 .ret ((f1.1,y4.1.1,y12,f15,(1,f17,0,1),y19))
theorem zPI{f1:τF}{g2:τF}{r:(Int×Int×Int×Int×τM×τM)}(h:zDr f1 g2=some r):zH qf 141 [.ag [Ti f1.1,Ti f1.2.1,Ti f1.2.2],.ag [Ti g2.1,Ti g2.2.1,Ti g2.2.2]] (.ag [Ti r.1,Ti r.2.1,Ti r.2.2.1,Ti r.2.2.2.1,Ti r.2.2.2.2.1.1,Ti r.2.2.2.2.1.2.1,Ti r.2.2.2.2.1.2.2.1,Ti r.2.2.2.2.1.2.2.2,Ti r.2.2.2.2.2.1,Ti r.2.2.2.2.2.2.1,Ti r.2.2.2.2.2.2.2.1,Ti r.2.2.2.2.2.2.2.2]) []:=CtT (zX1 f1 g2) (fun r=>(.ag [Ti r.1,Ti r.2.1,Ti r.2.2.1,Ti r.2.2.2.1,Ti r.2.2.2.2.1.1,Ti r.2.2.2.2.1.2.1,Ti r.2.2.2.2.1.2.2.1,Ti r.2.2.2.2.1.2.2.2,Ti r.2.2.2.2.2.1,Ti r.2.2.2.2.2.2.1,Ti r.2.2.2.2.2.2.2.1,Ti r.2.2.2.2.2.2.2.2],[])) (rs:=[.w 4 12]) (vs:=[.cell 4 141]) Tryz.func141 rfl rfl (.cons ⟨rfl,wd141⟩ FitsL.nil) h
def zYo(f1:τF)(g2:τF):=fC zNe (zDr f1 g2) fun _=>zPI
theorem zF2:CfW qf 142:=cfW Tryz.func142
noncomputable def zJf(u1:(Int×Int×Int×Int×τM×τM)):T qf (τF):=
 .n0 (bld pl25 bt25)<|
 .frc (w64 (u1.1*u1.2.1)) fun f2=>.ret ((f2,u1.2.2.1,u1.2.2.2.1))
theorem zFi{u1:(Int×Int×Int×Int×τM×τM)}{r:τF}(h:zBI u1=some r):zH qf 142 [.ag [Ti u1.1,Ti u1.2.1,Ti u1.2.2.1,Ti u1.2.2.2.1,Ti u1.2.2.2.2.1.1,Ti u1.2.2.2.2.1.2.1,Ti u1.2.2.2.2.1.2.2.1,Ti u1.2.2.2.2.1.2.2.2,Ti u1.2.2.2.2.2.1,Ti u1.2.2.2.2.2.2.1,Ti u1.2.2.2.2.2.2.2.1,Ti u1.2.2.2.2.2.2.2.2]] (.ag [Ti r.1,Ti r.2.1,Ti r.2.2]) []:=CtT (zJf u1) (fun r=>(.ag [Ti r.1,Ti r.2.1,Ti r.2.2],[])) (rs:=[.w 2 3]) (vs:=[.cell 2 25]) Tryz.func142 rfl rfl (.cons ⟨rfl,wd25⟩ FitsL.nil) h
def zKW(u1:(Int×Int×Int×Int×τM×τM)):=fC zF2 (zBI u1) fun _=>zFi
theorem zS1:CfW qf 212:=cfW Tryz.func212
noncomputable def zTT(f1:τF)(g2:τF):T qf (τF):=
 .draw 7 []<|.op1 (zCn f1) fun y3=>.op1 (zCn g2) fun y4=>.op1 (zYo y3 y4) fun y5=>.op1 (zKW y5) fun y6=>.op1 (zCn y6) fun y7=>
 .ret y7
theorem zTp{f1:τF}{g2:τF}{r:τF}(h:zD4 f1 g2=some r):zH qf 212 [.ag [Ti f1.1,Ti f1.2.1,Ti f1.2.2],.ag [Ti g2.1,Ti g2.2.1,Ti g2.2.2]] (.ag [Ti r.1,Ti r.2.1,Ti r.2.2]) []:=CtT (zTT f1 g2) (fun r=>(.ag [Ti r.1,Ti r.2.1,Ti r.2.2],[])) (rs:=[.w 4 3]) (vs:=[.cell 4 25]) Tryz.func212 rfl rfl (.cons ⟨rfl,wd25⟩ FitsL.nil) h
def zVV(f1:τF)(g2:τF):=fC zS1 (zD4 f1 g2) fun _=>zTp
theorem zSV:CfW qf 149:=cfW Tryz.func149
noncomputable def zTM(f1:τF):T qf Int:=
 .op1 (zCn f1) fun y2=>
 .loop (fun n X_1=>zCJ f1 n X_1.1 X_1.2.1 X_1.2.2.1 X_1.2.2.2) ((1,y2.1,y2.2.1,y2.2.2)) (mb 17 26) [32,8] (fun s X_1 γ=>s.pc (mb 17 26) [32,8] [(3,I X_1.1)] [(32,.box [Ti X_1.2.1,Ti X_1.2.2.1,Ti X_1.2.2.2])]) (fun X_1=>
 .op1 (zPy ((X_1.2.1,X_1.2.2.1,X_1.2.2.2))) fun y9=>
 .cond (!y9) (
 .frc (w64 (X_1.1+1)) fun k11=>
 .op1 (zVV ((X_1.2.1,X_1.2.2.1,X_1.2.2.2)) f1) fun y12=>
 .ret (.inl ((k11,y12.1,y12.2.1,y12.2.2))))<|.ret (.inr X_1.1)) (mb 17 8) [] (fun s o8 γ=>s.pc (mb 17 8) [] [(3,I o8)] []) fun o8=>
 .ret o8
theorem zTh{f1:τF}{r:Int}(h:zD3 f1=some r):zH qf 149 [.ag [Ti f1.1,Ti f1.2.1,Ti f1.2.2]] (I r) []:=CtU (zTM f1) 2 (fun r=>I r) Tryz.func149 rfl rfl h
def zMm(f1:τF):=fC zSV (zD3 f1) fun _=>zTh
theorem zPn:CfW qf 117:=cfW Tryz.func117
noncomputable def zQM(f1:τF)(vn2:Int):T qf Bool:=
 .pl<|.joinC (.op1 (zE5 f1) fun y3=>.selB y3 true [] fun w_2=>.seqT (.cond (bif w_2 then (leI 1 vn2) else false) (.op1 (zMm f1) fun y6=>.ret (eqI y6 vn2)) (.ret false)) fun b7=>.ret (y3,w_2,b7)) (mb 17 16) [] (fun s q_3 γ=>s.pc (mb 17 16) [] [(4,Bo q_3.2.2)] []) fun q_3=>
 .ret q_3.2.2
theorem zQZ{f1:τF}{vn2:Int}{r:Bool}(h:zFJ f1 vn2=some r):zH qf 117 [.ag [Ti f1.1,Ti f1.2.1,Ti f1.2.2],I vn2] (Bo r) []:=CtU (zQM f1 vn2) 4 (fun r=>Bo r) Tryz.func117 rfl rfl h
end
noncomputable section
theorem zN1:CfW qf 53:=cfW Tryz.func53
theorem zOB{c1:(qd×(List τF)×(List τM)×(List Int))}{r:Bool}(h:zT c1=some r):zH qf 53 [.ag [.v (.string c1.1),.sl (c1.2.1.map c25),.sl (c1.2.2.1.map c61),.sl (c1.2.2.2.map c3)]] (Bo r) []:=by
 refine CtW [2] Tryz.func53 rfl rfl 210 ?_
 unfold zT at h;refine VE ?_
 refine VDS [0,1,0,4,0,16,3,79,255] 9 (cdm 9 [2720,2721,10762,10778,41130,41386,2725,6741,21845]) ?_
 refine EF 9 ?_
 refine zV ?_
 refine VE ?_
 refine qA ?_
 obtain⟨t2,ht2,h⟩:=zA h;have ht2:=zD ht2;refine zDL (mb 210 98360) [] (s1:=⟨bt 3 (.c (.sl (c1.2.1.map c25))::.c (.sl (c1.2.2.1.map c61))::.c (.sl (c1.2.2.2.map c3))::bt 9 (.c (.v (.string c1.1))::Bo t2::bt 193 [])),[]⟩) ?_ ?_
 ·refine L0 rfl rfl (zLG (a:=c1.1) (b:=((⟨#[101,113,117,105,118,97,108,101,110,116]⟩:qd))) rfl kk kk) ?_
  refine XR 1 ?_
  refine qN ?_
  subst ht2
  kernel_rfl
 refine VC h (fun h=>?_) (fun h=>?_)
 ·obtain⟨e4,he4,h⟩:=zA h;obtain⟨e5,he5,h⟩:=zA h;obtain⟨e6,he6,h⟩:=zA h;obtain⟨y7,hy7,h⟩:=zA h;refine VDS [0,1,3,0,8,24,0,64,192,511,1023] 11 (cdm 11 [174720,174721,174725,172074,172138,172394,2730,6826,23210,87381,349525]) ?_
  refine ER 1 ?_
  refine E0 1 rfl rfl (jD (c:=c25) (xs:=c1.2.1) (v:=e4) (n:=0) Tryz.underlying39 sz25 rfl kk kk he4) ?_
  refine ER 2 ?_
  refine E0 4 rfl rfl (jD (c:=c61) (xs:=c1.2.2.1) (v:=e5) (n:=0) Tryz.underlying73 sz61 rfl kk kk he5) ?_
  refine ER 2 ?_
  refine E0 7 rfl rfl (jD (c:=c25) (xs:=c1.2.1) (v:=e6) (n:=1) Tryz.underlying39 sz25 rfl kk kk he6) ?_
  refine EK 1 (zFy hy7) zF6 ?_
  refine EF 1 ?_
  cases h;exact zBW VT
 ·obtain⟨t8,ht8,h⟩:=zA h;have ht8:=zD ht8;refine zDL (mb 210 268468280) [] (s1:=⟨bt 3 (.c (.sl (c1.2.1.map c25))::.c (.sl (c1.2.2.1.map c61))::.c (.sl (c1.2.2.2.map c3))::bt 9 (.c (.v (.string c1.1))::bt 12 (Bo t8::bt 181 []))),[]⟩) ?_ ?_
  ·refine L0 rfl rfl (zLG (a:=c1.1) (b:=((⟨#[100,105,102,102,101,114,101,110,116]⟩:qd))) rfl kk kk) ?_
   refine XR 1 ?_
   refine qN ?_
   subst ht8
   kernel_rfl
  refine VC h (fun h=>?_) (fun h=>?_)
  ·obtain⟨e10,he10,h⟩:=zA h;obtain⟨y11,hy11,h⟩:=zA h;obtain⟨b15,hb15,h⟩:=zA h;obtain⟨b21,hb21,h⟩:=zA h;obtain⟨b27,hb27,h⟩:=zA h;obtain⟨b31,hb31,h⟩:=zA h;obtain⟨b35,hb35,h⟩:=zA h;obtain⟨b39,hb39,h⟩:=zA h;refine zDu [0,1,3,7,15,31,63,127,255,511,1023,2047,4095,8191,2047,18431,51199,2047,133119,395263,1048575,2097151,4194303,8388607,16777215,33554431,8388607,75497471,209715199,8388607,545259519,1619001343,4294967295,8589934591,17179869183,34359738367,68719476735,137438953471,274877906943,549755813887,1099511627775,2199023255551,4398046511103,8796093022207,17592186044415,35184372088831,70368744177663,140737488355327,281474976710655,562949953421311,140737488355327,1266637395197951,3518437208883199,9007199254740991,18014398509481983,36028797018963967] 56 (cdm 56 [0,1,5,21,85,341,1365,5461,21845,87381,349525,732830192981,732834387285,732851164501,721732064597,722000500053,723074241877,11451848021,28631717205,97351193941,366503875925,1466015503701,5864062014805,12294850438969513301,12294920807713690965,12295202282690401621,12108654741875414357,12113158341502784853,12131172740012266837,192130127853081941,480360504004793685,1633282008611640661,6148914691236517205,24595658764946068821,98382635059784275285,393530540239137101141,1574122160956548404565,6296488643826193618261,25185954575304774473045,100743818301219097892181,402975273204876391568725,1611901092819505566274901,6447604371278022265099605,25790417485112089060398421,103161669940448356241593685,412646679761793424966374741,1650586719047173699865498965,53247927556461823557660996621653,53267734597090389642059382609237,53346962759604653979652926559573,838498053275964239531673474389,2106148653504193641028376679765,7176751054417111247015189501269,27043212804868893898596335048021,108172851219475575594385340192085,432691404877902302377541360768341]) (mb 210 4) [] (s1:=⟨.bot::.bot::Bo b39::bt 207 [],[]⟩) kk kk ?_ ?_
   ·refine ER 1 ?_
    refine E0 1 rfl rfl (jD (c:=c25) (xs:=c1.2.1) (v:=e10) (n:=0) Tryz.underlying39 sz25 rfl kk kk he10) ?_
    refine EK 1 (zEl hy11) zE0 ?_
    refine ER 1 ?_
    refine zGR y11 (fun hc12=>?_) (fun hc12=>?_)
    ·have hb15:=zCW hb15 hc12;obtain⟨e13,he13,hb15⟩:=zA hb15;obtain⟨y14,hy14,hb15⟩:=zA hb15;have hb15:=zD hb15;refine EQ hc12 ?_
     refine ER 1 ?_
     refine E0 6 rfl rfl (jD (c:=c25) (xs:=c1.2.1) (v:=e13) (n:=2) Tryz.underlying39 sz25 rfl kk kk he13) ?_
     refine EK 1 (zEl hy14) zE0 ?_
     refine ER 2 ?_
     refine zGR b15 (fun hc16=>?_) (fun hc16=>?_)
     ·have hb21:=zCW hb21 hc16;obtain⟨e17,he17,hb21⟩:=zA hb21;obtain⟨e18,he18,hb21⟩:=zA hb21;obtain⟨e19,he19,hb21⟩:=zA hb21;obtain⟨y20,hy20,hb21⟩:=zA hb21;have hb21:=zD hb21;refine EQ hc16 ?_ (by rw[←hb15];(try rw[←hb21]);(try rw[hc12]);kernel_rfl)
      refine ER 1 ?_
      refine E0 12 rfl rfl (jD (c:=c25) (xs:=c1.2.1) (v:=e17) (n:=0) Tryz.underlying39 sz25 rfl kk kk he17) ?_
      refine ER 2 ?_
      refine E0 15 rfl rfl (jD (c:=c61) (xs:=c1.2.2.1) (v:=e18) (n:=0) Tryz.underlying73 sz61 rfl kk kk he18) ?_
      refine ER 2 ?_
      refine E0 18 rfl rfl (jD (c:=c25) (xs:=c1.2.1) (v:=e19) (n:=1) Tryz.underlying39 sz25 rfl kk kk he19) ?_
      refine EK 1 (zFy hy20) zF6 ?_
      refine ER 2 ?_
      refine zGR b21 (fun hc22=>?_) (fun hc22=>?_)
      ·have hb27:=zCW hb27 hc22;obtain⟨e23,he23,hb27⟩:=zA hb27;obtain⟨e24,he24,hb27⟩:=zA hb27;obtain⟨e25,he25,hb27⟩:=zA hb27;obtain⟨y26,hy26,hb27⟩:=zA hb27;have hb27:=zD hb27;refine EQ hc22 ?_ (by rw[←hb21];(try rw[←hb27]);(try rw[hc12]);(try rw[hc16]);kernel_rfl)
       refine ER 1 ?_
       refine E0 24 rfl rfl (jD (c:=c25) (xs:=c1.2.1) (v:=e23) (n:=2) Tryz.underlying39 sz25 rfl kk kk he23) ?_
       refine ER 2 ?_
       refine E0 27 rfl rfl (jD (c:=c61) (xs:=c1.2.2.1) (v:=e24) (n:=1) Tryz.underlying73 sz61 rfl kk kk he24) ?_
       refine ER 2 ?_
       refine E0 30 rfl rfl (jD (c:=c25) (xs:=c1.2.1) (v:=e25) (n:=3) Tryz.underlying39 sz25 rfl kk kk he25) ?_
       refine EK 1 (zFy hy26) zF6 ?_
       refine ER 2 ?_
       refine zGR b27 (fun hc28=>?_) (fun hc28=>?_)
       ·have hb31:=zCW hb31 hc28;obtain⟨e29,he29,hb31⟩:=zA hb31;obtain⟨y30,hy30,hb31⟩:=zA hb31;have hb31:=zD hb31;refine EQ hc28 ?_ (by rw[←hb27];(try rw[←hb31]);(try rw[hc12]);(try rw[hc16]);(try rw[hc22]);kernel_rfl)
        refine ER 1 ?_
        refine E0 36 rfl rfl (jD (c:=c25) (xs:=c1.2.1) (v:=e29) (n:=1) Tryz.underlying39 sz25 rfl kk kk he29) ?_
        refine EK 1 (zD9 hy30) zDK ?_
        refine ER 2 ?_
        refine zGR b31 (fun hc32=>?_) (fun hc32=>?_)
        ·have hb35:=zCW hb35 hc32;obtain⟨e33,he33,hb35⟩:=zA hb35;obtain⟨y34,hy34,hb35⟩:=zA hb35;have hb35:=zD hb35;refine EQ hc32 ?_ (by rw[←hb31];(try rw[←hb35]);(try rw[hc12]);(try rw[hc16]);(try rw[hc22]);(try rw[hc28]);kernel_rfl)
         refine ER 1 ?_
         refine E0 42 rfl rfl (jD (c:=c25) (xs:=c1.2.1) (v:=e33) (n:=3) Tryz.underlying39 sz25 rfl kk kk he33) ?_
         refine EK 1 (zD9 hy34) zDK ?_
         refine ER 2 ?_
         refine zGR b35 (fun hc36=>?_) (fun hc36=>?_)
         ·have hb39:=zCW hb39 hc36;obtain⟨e37,he37,hb39⟩:=zA hb39;obtain⟨e38,he38,hb39⟩:=zA hb39;have hb39:=zD hb39;refine EQ hc36 ?_ (by rw[←hb35];(try rw[←hb39]);(try rw[hc12]);(try rw[hc16]);(try rw[hc22]);(try rw[hc28]);(try rw[hc32]);kernel_rfl)
          refine ER 1 ?_
          refine E0 48 rfl rfl (jD (c:=c25) (xs:=c1.2.1) (v:=e37) (n:=1) Tryz.underlying39 sz25 rfl kk kk he37) ?_
          refine ER 2 ?_
          refine E0 51 rfl rfl (jD (c:=c25) (xs:=c1.2.1) (v:=e38) (n:=3) Tryz.underlying39 sz25 rfl kk kk he38) ?_
          refine ER 1 ?_
          refine E0 53 rfl rfl (z24 (a0:=e37.1) (b0:=e38.1) (a1:=e37.2.1) (b1:=e38.2.1) (a2:=e37.2.2) (b2:=e38.2.2) z1u rfl kk kk) ?_
          refine EA 2 ?_
          exact YE (by rw[←hb39];(try rw[hc12]);(try rw[hc16]);(try rw[hc22]);(try rw[hc28]);(try rw[hc32]);(try rw[hc36]);kernel_rfl)
         ·have hb39:=zD (jB hb39 hc36);refine EQ hc36 ?_ (by rw[←hb35];(try rw[←hb39]);(try rw[hc12]);(try rw[hc16]);(try rw[hc22]);(try rw[hc28]);(try rw[hc32]);kernel_rfl)
          refine EA 9 ?_
          exact YE (by rw[←hb39];(try rw[hc12]);(try rw[hc16]);(try rw[hc22]);(try rw[hc28]);(try rw[hc32]);(try rw[hc36]);kernel_rfl)
        ·have hb35:=zD (jB hb35 hc32);refine EQ hc32 ?_ (by rw[←hb31];(try rw[←hb39]);(try rw[hc12]);(try rw[hc16]);(try rw[hc22]);(try rw[hc28]);kernel_rfl)
         refine ER 6 ?_
         subst hb35;have hc36:false=false:=rfl;have hb39:=zD (jB hb39 hc36);refine EA 9 ?_
         exact YE (by rw[←hb39];(try rw[hc12]);(try rw[hc16]);(try rw[hc22]);(try rw[hc28]);(try rw[hc32]);kernel_rfl)
       ·have hb31:=zD (jB hb31 hc28);refine EQ hc28 ?_ (by rw[←hb27];(try rw[←hb39]);(try rw[hc12]);(try rw[hc16]);(try rw[hc22]);kernel_rfl)
        refine ER 6 ?_
        subst hb31;have hc32:false=false:=rfl;have hb35:=zD (jB hb35 hc32);refine ER 6 ?_
        subst hb35;have hc36:false=false:=rfl;have hb39:=zD (jB hb39 hc36);refine EA 9 ?_
        exact YE (by rw[←hb39];(try rw[hc12]);(try rw[hc16]);(try rw[hc22]);(try rw[hc28]);kernel_rfl)
      ·have hb27:=zD (jB hb27 hc22);refine EQ hc22 ?_ (by rw[←hb21];(try rw[←hb39]);(try rw[hc12]);(try rw[hc16]);kernel_rfl)
       refine ER 12 ?_
       subst hb27;have hc28:false=false:=rfl;have hb31:=zD (jB hb31 hc28);refine ER 6 ?_
       subst hb31;have hc32:false=false:=rfl;have hb35:=zD (jB hb35 hc32);refine ER 6 ?_
       subst hb35;have hc36:false=false:=rfl;have hb39:=zD (jB hb39 hc36);refine EA 9 ?_
       exact YE (by rw[←hb39];(try rw[hc12]);(try rw[hc16]);(try rw[hc22]);kernel_rfl)
     ·have hb21:=zD (jB hb21 hc16);refine EQ hc16 ?_ (by rw[←hb15];(try rw[←hb39]);(try rw[hc12]);kernel_rfl)
      refine ER 12 ?_
      subst hb21;have hc22:false=false:=rfl;have hb27:=zD (jB hb27 hc22);refine ER 12 ?_
      subst hb27;have hc28:false=false:=rfl;have hb31:=zD (jB hb31 hc28);refine ER 6 ?_
      subst hb31;have hc32:false=false:=rfl;have hb35:=zD (jB hb35 hc32);refine ER 6 ?_
      subst hb35;have hc36:false=false:=rfl;have hb39:=zD (jB hb39 hc36);refine EA 9 ?_
      exact YE (by rw[←hb39];(try rw[hc12]);(try rw[hc16]);kernel_rfl)
    ·have hb15:=zD (jB hb15 hc12);refine EQ hc12 ?_
     refine ER 6 ?_
     subst hb15;have hc16:false=false:=rfl;have hb21:=zD (jB hb21 hc16);refine ER 12 ?_
     subst hb21;have hc22:false=false:=rfl;have hb27:=zD (jB hb27 hc22);refine ER 12 ?_
     subst hb27;have hc28:false=false:=rfl;have hb31:=zD (jB hb31 hc28);refine ER 6 ?_
     subst hb31;have hc32:false=false:=rfl;have hb35:=zD (jB hb35 hc32);refine ER 6 ?_
     subst hb35;have hc36:false=false:=rfl;have hb39:=zD (jB hb39 hc36);refine EA 9 ?_
     exact YE (by rw[←hb39];(try rw[hc12]);kernel_rfl)
   cases h;exact zBW VT
  ·obtain⟨t40,ht40,h⟩:=zA h;have ht40:=zD ht40;refine zDL (mb 210 38685626227668133590630456) [] (s1:=⟨bt 3 (.c (.sl (c1.2.1.map c25))::.c (.sl (c1.2.2.1.map c61))::.c (.sl (c1.2.2.2.map c3))::bt 9 (.c (.v (.string c1.1))::bt 69 (Bo t40::bt 124 []))),[]⟩) ?_ ?_
   ·refine L0 rfl rfl (zLG (a:=c1.1) (b:=((⟨#[118,97,108,117,101]⟩:qd))) rfl kk kk) ?_
    refine XR 1 ?_
    refine qN ?_
    subst ht40
    kernel_rfl
   refine VC h (fun h=>?_) (fun h=>?_)
   ·obtain⟨e42,he42,h⟩:=zA h;obtain⟨e43,he43,h⟩:=zA h;obtain⟨e44,he44,h⟩:=zA h;obtain⟨y45,hy45,h⟩:=zA h;obtain⟨e46,he46,h⟩:=zA h;obtain⟨b51,hb51,h⟩:=zA h;refine zDu [0,1,3,0,8,24,0,64,192,511,0,1024,3072,8191,16383,32767,65535,131071,32767,294911,819199,2097151,4194303,8388607,16777215] 25 (cdm 25 [44214912,44214913,44214917,44212266,44212330,44212586,44042922,44047018,44063402,44127573,699050,1747626,5941930,22369621,89478485,2886575936853,2887649678677,2891944645973,45455070549,114174547285,389052454229,1466015503701,5864062014805,23456248059221,93824992236885]) (mb 210 4) [] (s1:=⟨.bot::.bot::Bo b51::bt 207 [],[]⟩) kk kk ?_ ?_
    ·refine ER 1 ?_
     refine E0 1 rfl rfl (jD (c:=c25) (xs:=c1.2.1) (v:=e42) (n:=0) Tryz.underlying39 sz25 rfl kk kk he42) ?_
     refine ER 2 ?_
     refine E0 4 rfl rfl (jD (c:=c3) (xs:=c1.2.2.2) (v:=e43) (n:=1) Tryz.underlying50 sz3 rfl kk kk he43) ?_
     refine ER 2 ?_
     refine E0 7 rfl rfl (jD (c:=c3) (xs:=c1.2.2.2) (v:=e44) (n:=2) Tryz.underlying50 sz3 rfl kk kk he44) ?_
     refine EK 1 (zMK hy45) zLV ?_
     refine ER 1 ?_
     refine E0 11 rfl rfl (jD (c:=c3) (xs:=c1.2.2.2) (v:=e46) (n:=0) Tryz.underlying50 sz3 rfl kk kk he46) ?_
     refine ER 3 ?_
     refine zGR (eqI y45 e46) (fun hc47=>?_) (fun hc47=>?_)
     ·have hb51:=zCW hb51 hc47;obtain⟨e48,he48,hb51⟩:=zA hb51;obtain⟨e49,he49,hb51⟩:=zA hb51;obtain⟨y50,hy50,hb51⟩:=zA hb51;have hb51:=zD hb51;refine EQ hc47 ?_
      refine ER 1 ?_
      refine E0 16 rfl rfl (jD (c:=c3) (xs:=c1.2.2.2) (v:=e48) (n:=1) Tryz.underlying50 sz3 rfl kk kk he48) ?_
      refine ER 2 ?_
      refine E0 19 rfl rfl (jD (c:=c3) (xs:=c1.2.2.2) (v:=e49) (n:=2) Tryz.underlying50 sz3 rfl kk kk he49) ?_
      refine EK 1 (zTn hy50) zR1 ?_
      refine EA 3 ?_
      exact YE (by rw[←hb51];(try rw[hc47]);kernel_rfl)
     ·have hb51:=zD (jB hb51 hc47);refine EQ hc47 ?_
      refine EA 10 ?_
      exact YE (by rw[←hb51];(try rw[hc47]);kernel_rfl)
    cases h;exact zBW VT
   ·obtain⟨t52,ht52,h⟩:=zA h;have ht52:=zD ht52;refine zDL (mb 210 2596148429267413814265248164642872) [] (s1:=⟨bt 3 (.c (.sl (c1.2.1.map c25))::.c (.sl (c1.2.2.1.map c61))::.c (.sl (c1.2.2.2.map c3))::bt 9 (.c (.v (.string c1.1))::bt 95 (Bo t52::bt 98 []))),[]⟩) ?_ ?_
    ·refine L0 rfl rfl (zLG (a:=c1.1) (b:=((⟨#[111,98,115,116,114,117,99,116,105,111,110]⟩:qd))) rfl kk kk) ?_
     refine XR 1 ?_
     refine qN ?_
     subst ht52
     kernel_rfl
    refine VC h (fun h=>?_) (fun h=>?_)
    ·obtain⟨e54,he54,h⟩:=zA h;obtain⟨e55,he55,h⟩:=zA h;obtain⟨e56,he56,h⟩:=zA h;obtain⟨y57,hy57,h⟩:=zA h;refine VDS [0,1,3,0,8,24,0,64,192,511,1023] 11 (cdm 11 [174720,174721,174725,172074,172138,172394,2730,6826,23210,87381,349525]) ?_
     refine ER 1 ?_
     refine E0 1 rfl rfl (jD (c:=c3) (xs:=c1.2.2.2) (v:=e54) (n:=0) Tryz.underlying50 sz3 rfl kk kk he54) ?_
     refine ER 2 ?_
     refine E0 4 rfl rfl (jD (c:=c3) (xs:=c1.2.2.2) (v:=e55) (n:=1) Tryz.underlying50 sz3 rfl kk kk he55) ?_
     refine ER 2 ?_
     refine E0 7 rfl rfl (jD (c:=c3) (xs:=c1.2.2.2) (v:=e56) (n:=2) Tryz.underlying50 sz3 rfl kk kk he56) ?_
     refine EK 1 (zMH hy57) zLj ?_
     refine EF 1 ?_
     cases h;exact zBW VT
    ·obtain⟨t58,ht58,h⟩:=zA h;have ht58:=zD ht58;refine zDL (mb 210 10633823966279326983230456482242789432) [] (s1:=⟨bt 3 (.c (.sl (c1.2.1.map c25))::.c (.sl (c1.2.2.1.map c61))::.c (.sl (c1.2.2.2.map c3))::bt 9 (.c (.v (.string c1.1))::bt 107 (Bo t58::bt 86 []))),[]⟩) ?_ ?_
     ·refine L0 rfl rfl (zLG (a:=c1.1) (b:=((⟨#[99,111,109,112,111,115,105,116,101]⟩:qd))) rfl kk kk) ?_
      refine XR 1 ?_
      refine qN ?_
      subst ht58
      kernel_rfl
     refine VC h (fun h=>?_) (fun h=>?_)
     ·obtain⟨e60,he60,h⟩:=zA h;obtain⟨e61,he61,h⟩:=zA h;obtain⟨e62,he62,h⟩:=zA h;obtain⟨y63,hy63,h⟩:=zA h;refine VDS [0,1,3,0,8,24,0,64,192,0,1023,2047,4095,4095,8191,32767] 16 (cdm 16 [699008,699009,699013,696362,696426,696682,527018,531114,547498,174762,349525,1398101,139810133,576017749,156587349,357913941]) ?_
      refine ER 1 ?_
      refine E0 1 rfl rfl (jD (c:=c25) (xs:=c1.2.1) (v:=e60) (n:=0) Tryz.underlying39 sz25 rfl kk kk he60) ?_
      refine ER 2 ?_
      refine E0 4 rfl rfl (jD (c:=c25) (xs:=c1.2.1) (v:=e61) (n:=1) Tryz.underlying39 sz25 rfl kk kk he61) ?_
      refine ER 2 ?_
      refine E0 7 rfl rfl (jD (c:=c25) (xs:=c1.2.1) (v:=e62) (n:=2) Tryz.underlying39 sz25 rfl kk kk he62) ?_
      refine EK 2 (zMI hy63) zLk ?_
      refine EF 5 ?_
      refine zDL (mb 210 4) [] (s1:=⟨.bot::.bot::Bo (bif y63.1 then y63.2 else false)::bt 207 [],[]⟩) ?_ ?_
      ·refine YR 2 ?_
       refine zBB y63.1 (fun hc64=>?_) (fun hc64=>?_)
       ·refine YQ hc64 ?_
        exact YE (by rw[hc64];kernel_rfl)
       ·refine YQ hc64 ?_
        exact YE (by rw[hc64];kernel_rfl)
      cases h;exact zBW VT
     ·obtain⟨t65,ht65,h⟩:=zA h;have ht65:=zD ht65;refine zDL (mb 210 11150372599265311570767859136324180753023032) [] (s1:=⟨bt 3 (.c (.sl (c1.2.1.map c25))::.c (.sl (c1.2.2.1.map c61))::.c (.sl (c1.2.2.2.map c3))::bt 9 (.c (.v (.string c1.1))::bt 127 (Bo t65::bt 66 []))),[]⟩) ?_ ?_
      ·refine L0 rfl rfl (zLG (a:=c1.1) (b:=((⟨#[111,114,100,101,114]⟩:qd))) rfl kk kk) ?_
       refine XR 1 ?_
       refine qN ?_
       subst ht65
       kernel_rfl
      refine VC h (fun h=>?_) (fun h=>?_)
      ·obtain⟨e67,he67,h⟩:=zA h;obtain⟨e68,he68,h⟩:=zA h;obtain⟨y69,hy69,h⟩:=zA h;refine VDS [0,1,3,0,8,24,63,127] 8 (cdm 8 [2688,2689,2693,42,106,362,1365,5461]) ?_
       refine ER 1 ?_
       refine E0 1 rfl rfl (jD (c:=c25) (xs:=c1.2.1) (v:=e67) (n:=0) Tryz.underlying39 sz25 rfl kk kk he67) ?_
       refine ER 2 ?_
       refine E0 4 rfl rfl (jD (c:=c3) (xs:=c1.2.2.2) (v:=e68) (n:=0) Tryz.underlying50 sz3 rfl kk kk he68) ?_
       refine EK 1 (zQZ hy69) zPn ?_
       refine EF 1 ?_
       cases h;exact zBW VT
      ·obtain⟨t70,ht70,h⟩:=zA h;have ht70:=zD ht70;refine zDL (mb 210 5708990770823839524233143877797980545531019320) [] (s1:=⟨bt 3 (.c (.sl (c1.2.1.map c25))::.c (.sl (c1.2.2.1.map c61))::.c (.sl (c1.2.2.2.map c3))::bt 9 (.c (.v (.string c1.1))::bt 136 (Bo t70::bt 57 []))),[]⟩) ?_ ?_
       ·refine L0 rfl rfl (zLG (a:=c1.1) (b:=((⟨#[114,111,111,116]⟩:qd))) rfl kk kk) ?_
        refine XR 1 ?_
        refine qN ?_
        subst ht70
        kernel_rfl
       refine VC h (fun h=>?_) (fun h=>?_)
       ·obtain⟨e72,he72,h⟩:=zA h;obtain⟨b79,hb79,h⟩:=zA h;refine zDu [0,1,3,7,15,31,63,127,31,287,799,2047,31,4127,12319,32767,31,65567,196639,458783,1048575,2097151,4194303,8388607] 24 (cdm 24 [0,1,5,21,85,730851836245,730851837269,730851841365,730849126741,730849192277,730849454421,730850481493,730155624789,730172402005,730239510869,730502354261,2863311189,7158278485,24338147669,93057624405,366503875925,1466015503701,5864062014805,23456248059221]) (mb 210 4) [] (s1:=⟨.bot::.bot::Bo b79::bt 207 [],[]⟩) kk kk ?_ ?_
        ·refine ER 1 ?_
         refine E0 1 rfl rfl (jD (c:=c3) (xs:=c1.2.2.2) (v:=e72) (n:=1) Tryz.underlying50 sz3 rfl kk kk he72) ?_
         refine ER 3 ?_
         refine zGR (leI 1 e72) (fun hc73=>?_) (fun hc73=>?_)
         ·have hb79:=zCW hb79 hc73;obtain⟨e74,he74,hb79⟩:=zA hb79;obtain⟨e75,he75,hb79⟩:=zA hb79;obtain⟨e76,he76,hb79⟩:=zA hb79;obtain⟨e77,he77,hb79⟩:=zA hb79;obtain⟨z78,hz78,hb79⟩:=zA hb79;have hb79:=zD hb79;refine EQ hc73 ?_
          refine ER 1 ?_
          refine E0 6 rfl rfl (jD (c:=c3) (xs:=c1.2.2.2) (v:=e74) (n:=2) Tryz.underlying50 sz3 rfl kk kk he74) ?_
          refine ER 2 ?_
          refine E0 9 rfl rfl (jD (c:=c3) (xs:=c1.2.2.2) (v:=e75) (n:=2) Tryz.underlying50 sz3 rfl kk kk he75) ?_
          refine ER 3 ?_
          refine E0 13 rfl rfl (jD (c:=c3) (xs:=c1.2.2.2) (v:=e76) (n:=0) Tryz.underlying50 sz3 rfl kk kk he76) ?_
          refine ER 3 ?_
          refine E0 17 rfl rfl (jD (c:=c3) (xs:=c1.2.2.2) (v:=e77) (n:=1) Tryz.underlying50 sz3 rfl kk kk he77) ?_
          refine ER 2 ?_
          refine E0 20 rfl rfl (zBE (k:=.i64) (a:=w64 ((w64 (e74*e75)) - e76)) (b:=w64 (4*e77)) rfl kk kk (zPZ hz78)) ?_
          refine EA 3 ?_
          exact YE (by rw[←hb79];(try rw[hc73]);kernel_rfl)
         ·have hb79:=zD (jB hb79 hc73);refine EQ hc73 ?_
          refine EA 19 ?_
          exact YE (by rw[←hb79];(try rw[hc73]);kernel_rfl)
        cases h;exact zBW VT
       ·obtain⟨t80,ht80,h⟩:=zA h;have ht80:=zD ht80;refine zDL (mb 210 191561942608236107294793378393788647952342390272950328) [] (s1:=⟨bt 3 (.c (.sl (c1.2.1.map c25))::.c (.sl (c1.2.2.1.map c61))::.c (.sl (c1.2.2.2.map c3))::bt 171 (Bo t80::bt 32 [])),[]⟩) ?_ ?_
        ·refine L0 rfl rfl (zLG (a:=c1.1) (b:=((⟨#[97,117,116,111,109,111,114,112,104]⟩:qd))) rfl kk kk) ?_
         refine XR 1 ?_
         refine qN ?_
         subst ht80
         kernel_rfl
        refine VC h (fun h=>?_) (fun h=>?_)
        ·obtain⟨e82,he82,h⟩:=zA h;obtain⟨e83,he83,h⟩:=zA h;obtain⟨e84,he84,h⟩:=zA h;obtain⟨y85,hy85,h⟩:=zA h;refine VDS [0,1,3,0,8,24,0,64,192,511,1023] 11 (cdm 11 [174720,174721,174725,172074,172138,172394,2730,6826,23210,87381,349525]) ?_
         refine ER 1 ?_
         refine E0 1 rfl rfl (jD (c:=c25) (xs:=c1.2.1) (v:=e82) (n:=0) Tryz.underlying39 sz25 rfl kk kk he82) ?_
         refine ER 2 ?_
         refine E0 4 rfl rfl (jD (c:=c61) (xs:=c1.2.2.1) (v:=e83) (n:=0) Tryz.underlying73 sz61 rfl kk kk he83) ?_
         refine ER 2 ?_
         refine E0 7 rfl rfl (jD (c:=c25) (xs:=c1.2.1) (v:=e84) (n:=0) Tryz.underlying39 sz25 rfl kk kk he84) ?_
         refine EK 1 (zFy hy85) zF6 ?_
         refine EF 1 ?_
         cases h;exact zBW VT
        ·refine qV ?_
         show V _ _ _ _;obtain⟨e86,he86,h⟩:=zA h;obtain⟨e87,he87,h⟩:=zA h;obtain⟨e88,he88,h⟩:=zA h;obtain⟨e89,he89,h⟩:=zA h;obtain⟨e90,he90,h⟩:=zA h;obtain⟨y91,hy91,h⟩:=zA h;refine VDS [0,1,3,0,8,24,63,0,128,384,0,1024,3072,8064,0,16384,49152,130944,262143,524287,1048575,2097151] 22 (cdm 22 [45812976256,45812976257,45812976261,45812973610,45812973674,45812973930,45812974933,11318340266,11318356650,11318422186,11274988202,11276036778,11280231082,11296664234,178956970,447392426,1521134250,5726628522,22906492245,91625968981,366503875925,1466015503701]) ?_
         refine ER 1 ?_
         refine E0 1 rfl rfl (jD (c:=c3) (xs:=c1.2.2.2) (v:=e86) (n:=1) Tryz.underlying50 sz3 rfl kk kk he86) ?_
         refine ER 2 ?_
         refine E0 4 rfl rfl (jD (c:=c3) (xs:=c1.2.2.2) (v:=e87) (n:=1) Tryz.underlying50 sz3 rfl kk kk he87) ?_
         refine ER 3 ?_
         refine E0 8 rfl rfl (jD (c:=c3) (xs:=c1.2.2.2) (v:=e88) (n:=0) Tryz.underlying50 sz3 rfl kk kk he88) ?_
         refine ER 2 ?_
         refine E0 11 rfl rfl (jD (c:=c3) (xs:=c1.2.2.2) (v:=e89) (n:=2) Tryz.underlying50 sz3 rfl kk kk he89) ?_
         refine ER 3 ?_
         refine E0 15 rfl rfl (jD (c:=c3) (xs:=c1.2.2.2) (v:=e90) (n:=2) Tryz.underlying50 sz3 rfl kk kk he90) ?_
         refine EK 3 (zTr hy91) zR2 ?_
         refine EF 2 ?_
         cases h;exact zBW VT
def zOd(c1:(qd×(List τF)×(List τM)×(List Int))):=fC zN1 (zT c1) fun _=>zOB
end
noncomputable section
theorem zJ0:CfW qf 11:=cfW Tryz.func11
noncomputable def zJi(vs1:qd):T qf Int:=
 .op1 (zVQ vs1) fun y2=>
 .cond (!y2.2) (
 .ret 0)<|.op1 (zOd y2.1) fun y4=>
 .cond y4 (
 .ret 2)<|
 .ret 1
theorem zJx{vs1:qd}{r:Int}(h:zG vs1=some r):zH qf 11 [.c (.v (.string vs1))] (I r) []:=CtU (zJi vs1) 2 (fun r=>I r) Tryz.func11 rfl rfl h
def zAL(vs1:qd):=fC zJ0 (zG vs1) fun _=>zJx
theorem zIg:CfW qf 39:=cfW Tryz.func39
noncomputable def zJC(code1:List Int):T qf ((τF×τF)):=
 .n0 (bld pl57 bt57)<|
 .opx (zDc ((code1,0,0))) fun y2=>
 .dn<|.joinC (.op1 (zBb y2.1) fun y3=>.seqT (.cond y3 (.opx (zCB y2.2 4) fun y5=>.ret ((!y5.1,y5.2))) (.ret ((false,y2.2)))) fun b6=>.ret (y3,b6)) (mb 41 2108) [40,64,24,16] (fun s q_5 γ=>s.pc (mb 41 2108) [40,64,24,16] [(11,Bo q_5.2.1)] [(64,.box [.sl (q_5.2.2.1.map c5),Ti q_5.2.2.2.1,.v (.int .u64 q_5.2.2.2.2)])]) fun q_5=>
 .cond q_5.2.1 (.joinC (.drawL [1,1,1,0,1,1]<|.opx (zBn q_5.2.2 y2.1) fun y8=>.ret y8) (mb 41 12) [24,16] (fun s q_1 γ=>s.pc (mb 41 12) [24,16] [] [(24,.box [Ti q_1.1.1,Ti q_1.1.2.1,Ti q_1.1.2.2]),(16,.box [Ti y2.1.1,Ti y2.1.2.1,Ti y2.1.2.2])]) fun q_1=>
 .ret ((y2.1,q_1.1)))<|.joinC (.op1 (zBb y2.1) fun y9=>.seqT (.cond y9 (.op1 (zAP y2.1) fun y11=>.op1 (zJ3 y11) fun y12=>.ret y12) (.ret false)) fun b13=>.ret (y9,b13)) (mb 41 8388668) [40,64,24,16] (fun s q_4 γ=>s.pc (mb 41 8388668) [40,64,24,16] [(23,Bo q_4.2)] []) fun q_4=>
 .cond q_4.2 (.joinC (.drawM true 7 [1,2,3,4,5,6,7,8,9,10,11,12,13,14,15,24,25,26,27,28,29,30,31,60,61,62,63,126,127] [1,1,1,1,0,0,0,1,1]<|.op1 (zAP y2.1) fun y15=>.opx (zCA q_5.2.2 y15) fun y16=>.opx (zBn y16.2 y16.1) fun y17=>.ret (y15,y16,y17)) (mb 41 12) [24,16] (fun s q_2 γ=>s.pc (mb 41 12) [24,16] [] [(24,.box [Ti q_2.2.2.1.1,Ti q_2.2.2.1.2.1,Ti q_2.2.2.1.2.2]),(16,.box [Ti y2.1.1,Ti y2.1.2.1,Ti y2.1.2.2])]) fun q_2=>
 .ret ((y2.1,q_2.2.2.1)))<|.pl<|.joinC (.drawL [1,1,0,1,1]<|.opx (zDc q_5.2.2) fun y18=>.ret y18) (mb 41 12) [24,16] (fun s q_3 γ=>s.pc (mb 41 12) [24,16] [] [(24,.box [Ti q_3.1.1,Ti q_3.1.2.1,Ti q_3.1.2.2]),(16,.box [Ti y2.1.1,Ti y2.1.2.1,Ti y2.1.2.2])]) fun q_3=>
 .ret ((y2.1,q_3.1))
theorem zJI{code1:List Int}{r:(τF×τF)}(h:zBe code1=some r):zH qf 39 [.c (.sl (code1.map c5))] (.tc (.ag [Ti r.1.1,Ti r.1.2.1,Ti r.1.2.2]) (.tc (.ag [Ti r.2.1,Ti r.2.2.1,Ti r.2.2.2]) .tn)) []:=CtT (zJC code1) (fun r=>(.tc (.ag [Ti r.1.1,Ti r.1.2.1,Ti r.1.2.2]) (.tc (.ag [Ti r.2.1,Ti r.2.2.1,Ti r.2.2.2]) .tn),[])) (rs:=[.w 2 3,.w 3 3]) (vs:=[.cell 2 25,.cell 3 25]) Tryz.func39 rfl rfl (.cons ⟨rfl,wd25⟩ (.cons ⟨rfl,wd25⟩ FitsL.nil)) h
def zJ6(code1:List Int):=fC zIg (zBe code1) fun _=>zJI
theorem zFr:CfW qf 6:=cfW Tryz.func6
noncomputable def zFv(code1:List Int):T qf ((τF×τF)):=
 .n0 (bld pl57 bt57)<|
 .opx (zCB ((code1,0,0)) 2) fun y2=>
 .cond y2.1 (.op1 (zJ6 code1) fun y4=>
 .ret ((y4.1,y4.2)))<|.opx (zFn y2.2) fun y5=>
 .ret ((y5.1,y5.2.1))
theorem zFx{code1:List Int}{r:(τF×τF)}(h:jP code1=some r):zH qf 6 [.c (.sl (code1.map c5))] (.tc (.ag [Ti r.1.1,Ti r.1.2.1,Ti r.1.2.2]) (.tc (.ag [Ti r.2.1,Ti r.2.2.1,Ti r.2.2.2]) .tn)) []:=CtT (zFv code1) (fun r=>(.tc (.ag [Ti r.1.1,Ti r.1.2.1,Ti r.1.2.2]) (.tc (.ag [Ti r.2.1,Ti r.2.2.1,Ti r.2.2.2]) .tn),[])) (rs:=[.w 2 3,.w 3 3]) (vs:=[.cell 2 25,.cell 3 25]) Tryz.func6 rfl rfl (.cons ⟨rfl,wd25⟩ (.cons ⟨rfl,wd25⟩ FitsL.nil)) h
def zGS(code1:List Int):=fC zFr (jP code1) fun _=>zFx
theorem zO3:CfW qf 41:=cfW Tryz.func41
noncomputable def zOw(f1:τF):T qf ((τF×τM×Bool)):=
 .op1 (zCv f1) fun y2=>
 .cond (!y2) (.n0 (bld pl25 bt25)<|.n0 (bld pl61 bt61)<|
 .ret (((0,0,0),(0,0,0,0),false)))<|.op1 (zGp f1) fun y4=>
 .op1 (zHf y4.2) fun y5=>
 .cond (!y5) (.n0 (bld pl25 bt25)<|.n0 (bld pl61 bt61)<|
 .ret (((0,0,0),(0,0,0,0),false)))<|.draw 3 [(2,16)]<|
 .ret ((y4.1,y4.2,true))
theorem zPP{f1:τF}{r:(τF×τM×Bool)}(h:jQ f1=some r):zH qf 41 [.ag [Ti f1.1,Ti f1.2.1,Ti f1.2.2]] (.tc (.ag [Ti r.1.1,Ti r.1.2.1,Ti r.1.2.2]) (.tc (.ag [Ti r.2.1.1,Ti r.2.1.2.1,Ti r.2.1.2.2.1,Ti r.2.1.2.2.2]) (.tc (Bo r.2.2) .tn))) []:=CtT (zOw f1) (fun r=>(.tc (.ag [Ti r.1.1,Ti r.1.2.1,Ti r.1.2.2]) (.tc (.ag [Ti r.2.1.1,Ti r.2.1.2.1,Ti r.2.1.2.2.1,Ti r.2.1.2.2.2]) (.tc (Bo r.2.2) .tn)),[])) (rs:=[.w 2 3,.w 3 4,.t 4]) (vs:=[.cell 2 25,.cell 3 61,.tmp 4]) Tryz.func41 rfl rfl (.cons ⟨rfl,wd25⟩ (.cons ⟨rfl,wd61⟩ (.cons rfl FitsL.nil))) h
def zIy(f1:τF):=fC zO3 (jQ f1) fun _=>zPP
theorem zN4:CfW qf 42:=cfW Tryz.func42
noncomputable def zNr(kind1:qd)(words2:List qd):T qf qd:=
 .op0 (cat kind1 ((⟨#[32]⟩:qd))) fun u3=>.op1 (zVL words2 ((⟨#[32]⟩:qd))) fun y4=>.op0 (cat (kind1++((⟨#[32]⟩:qd))) y4) fun u5=>
 .ret ((kind1++((⟨#[32]⟩:qd)))++y4)
theorem zOE{kind1:qd}{words2:List qd}{r:qd}(h:jG kind1 words2=some r):zH qf 42 [.c (.v (.string kind1)),.c (.sl (words2.map c9))] (.c (.v (.string r))) []:=CtU (zNr kind1 words2) 4 (fun r=>.c (.v (.string r))) Tryz.func42 rfl rfl h
def zBX(kind1:qd)(words2:List qd):=fCs zN4 (jG kind1 words2) (fun _=>zOE) fun _=>rfl
theorem zHJ:CfW qf 7:=cfW Tryz.func7
noncomputable def zHU(f1:τF)(g2:τF):T qf ((qd×Bool)):=
 .op1 (zIy f1) fun y3=>
 .op1 (zIy g2) fun y4=>
 .dn<|.joinC (.selB (!y3.2.2) false [] fun w_7=>.selB (bif w_7 then true else (!y4.2.2)) false [.z (eqg3 zWo)] fun w_8=>.ret (w_7,w_8)) (mb 49 17179870924) [80,72,56,48,24,16] (fun s q_9 γ=>s.pc (mb 49 17179870924) [80,72,56,48,24,16] [(34,Bo (bif q_9.2 then true else (((y3.1.1==y4.1.1)&&((y3.1.2.1==y4.1.2.1)&&(y3.1.2.2==y4.1.2.2))))))] []) fun q_9=>
 .lt (bif q_9.2 then true else (((y3.1.1==y4.1.1)&&((y3.1.2.1==y4.1.2.1)&&(y3.1.2.2==y4.1.2.2))))) fun t7=>.cond t7 (
 .ret (((⟨#[]⟩:qd),false)))<|.draw 16 []<|.op1 (zAW f1) fun y9=>.op1 (zDv y3.2.1) fun y10=>.op1 (zAW y3.1) fun y11=>.op1 (zAW g2) fun y12=>.op1 (zDv y4.2.1) fun y13=>.op1 (zAW y4.1) fun y14=>.n1 bsl<|.op1 (zBX ((⟨#[100,105,102,102,101,114,101,110,116]⟩:qd)) ([y9,y10,y11,y12,y13,y14])) fun y15=>
 .ret ((y15,true))
theorem zHZ{f1:τF}{g2:τF}{r:(qd×Bool)}(h:qB f1 g2=some r):zH qf 7 [.ag [Ti f1.1,Ti f1.2.1,Ti f1.2.2],.ag [Ti g2.1,Ti g2.2.1,Ti g2.2.2]] (.tc (.c (.v (.string r.1))) (.tc (Bo r.2) .tn)) []:=CtT (zHU f1 g2) (fun r=>(.tc (.c (.v (.string r.1))) (.tc (Bo r.2) .tn),[])) (rs:=[.t 4,.t 5]) (vs:=[.tmp 4,.tmp 5]) Tryz.func7 rfl rfl (.cons rfl (.cons rfl FitsL.nil)) h
def zHg(f1:τF)(g2:τF):=fC zHJ (qB f1 g2) fun _=>zHZ
theorem zCM:CfW qf 103:=cfW Tryz.func103
noncomputable def zL7(vm1:τM):T qf (τM):=
 .op1 (zIz vm1) fun y2=>
 .n0 (bld pl61 bt61)<|
 .frc (w64 (y2*vm1.2.2.2)) fun f3=>.frc (w64 ((w64 (0 - y2))*vm1.2.1)) fun f4=>.frc (w64 ((w64 (0 - y2))*vm1.2.2.1)) fun f5=>.frc (w64 (y2*vm1.1)) fun f6=>.ret ((f3,f4,f5,f6))
theorem zCY{vm1:τM}{r:τM}(h:zP vm1=some r):zH qf 103 [.ag [Ti vm1.1,Ti vm1.2.1,Ti vm1.2.2.1,Ti vm1.2.2.2]] (.ag [Ti r.1,Ti r.2.1,Ti r.2.2.1,Ti r.2.2.2]) []:=CtT (zL7 vm1) (fun r=>(.ag [Ti r.1,Ti r.2.1,Ti r.2.2.1,Ti r.2.2.2],[])) (rs:=[.w 2 4]) (vs:=[.cell 2 61]) Tryz.func103 rfl rfl (.cons ⟨rfl,wd61⟩ FitsL.nil) h
def zLp(vm1:τM):=fC zCM (zP vm1) fun _=>zCY
theorem zS2:CfW qf 101:=cfW Tryz.func101
noncomputable def zTU(vm1:τM):T qf ((τM×Bool)):=
 .op1 (zHf vm1) fun y2=>
 .cond (!y2) (.n0 (bld pl61 bt61)<|
 .ret (((0,0,0,0),false)))<|
 .ret ((vm1,true))
theorem zTq{vm1:τM}{r:(τM×Bool)}(h:zEH vm1=some r):zH qf 101 [.ag [Ti vm1.1,Ti vm1.2.1,Ti vm1.2.2.1,Ti vm1.2.2.2]] (.tc (.ag [Ti r.1.1,Ti r.1.2.1,Ti r.1.2.2.1,Ti r.1.2.2.2]) (.tc (Bo r.2) .tn)) []:=CtT (zTU vm1) (fun r=>(.tc (.ag [Ti r.1.1,Ti r.1.2.1,Ti r.1.2.2.1,Ti r.1.2.2.2]) (.tc (Bo r.2) .tn),[])) (rs:=[.w 2 4,.t 3]) (vs:=[.cell 2 61,.tmp 3]) Tryz.func101 rfl rfl (.cons ⟨rfl,wd61⟩ (.cons rfl FitsL.nil)) h
def zVW(vm1:τM):=fC zS2 (zEH vm1) fun _=>zTq
theorem zIi:CfW qf 50:=cfW Tryz.func50
noncomputable def zJE(f1:τF)(g2:τF):T qf ((τM×Bool)):=
 .pl<|.dn<|.joinC (.op1 (zCv f1) fun y3=>.seqT (.cond (!y3) (.ret true) (.op1 (zCv g2) fun y5=>.ret (!y5))) fun b6=>.ret (y3,b6)) (mb 40 131100) [32,24,16] (fun s q_1 γ=>s.pc (mb 40 131100) [32,24,16] [(17,Bo q_1.2)] []) fun q_1=>
 .cond q_1.2 (.n0 (bld pl61 bt61)<|
 .ret (((0,0,0,0),false)))<|.op1 (zGp f1) fun y8=>
 .op1 (zGp g2) fun y9=>
 .n0 (neg3 z1u)<|
 .lt (!((y8.1.1==y9.1.1)&&((y8.1.2.1==y9.1.2.1)&&(y8.1.2.2==y9.1.2.2)))) fun t10=>.cond t10 (.n0 (bld pl61 bt61)<|
 .ret (((0,0,0,0),false)))<|.draw 7 []<|.op1 (zLp y9.2) fun y12=>.op1 (zFW y8.2 y12) fun y13=>.op1 (zVW y13) fun y14=>
 .ret ((y14.1,y14.2))
theorem zJK{f1:τF}{g2:τF}{r:(τM×Bool)}(h:qX f1 g2=some r):zH qf 50 [.ag [Ti f1.1,Ti f1.2.1,Ti f1.2.2],.ag [Ti g2.1,Ti g2.2.1,Ti g2.2.2]] (.tc (.ag [Ti r.1.1,Ti r.1.2.1,Ti r.1.2.2.1,Ti r.1.2.2.2]) (.tc (Bo r.2) .tn)) []:=CtT (zJE f1 g2) (fun r=>(.tc (.ag [Ti r.1.1,Ti r.1.2.1,Ti r.1.2.2.1,Ti r.1.2.2.2]) (.tc (Bo r.2) .tn),[])) (rs:=[.w 4 4,.t 5]) (vs:=[.cell 4 61,.tmp 5]) Tryz.func50 rfl rfl (.cons ⟨rfl,wd61⟩ (.cons rfl FitsL.nil)) h
def zJ8(f1:τF)(g2:τF):=fC zIi (qX f1 g2) fun _=>zJK
theorem zGe:CfW qf 9:=cfW Tryz.func9
noncomputable def zGt(f1:τF)(g2:τF):T qf ((qd×Bool)):=
 .op1 (zJ8 f1 g2) fun y3=>
 .cond (!y3.2) (
 .ret (((⟨#[]⟩:qd),false)))<|.draw 10 []<|.op1 (zAW f1) fun y5=>.op1 (zAW g2) fun y6=>.op1 (zDv y3.1) fun y7=>.n1 bsl<|.op1 (zBX ((⟨#[101,113,117,105,118,97,108,101,110,116]⟩:qd)) ([y5,y6,y7])) fun y8=>
 .ret ((y8,true))
theorem zGz{f1:τF}{g2:τF}{r:(qd×Bool)}(h:zU f1 g2=some r):zH qf 9 [.ag [Ti f1.1,Ti f1.2.1,Ti f1.2.2],.ag [Ti g2.1,Ti g2.2.1,Ti g2.2.2]] (.tc (.c (.v (.string r.1))) (.tc (Bo r.2) .tn)) []:=CtT (zGt f1 g2) (fun r=>(.tc (.c (.v (.string r.1))) (.tc (Bo r.2) .tn),[])) (rs:=[.t 4,.t 5]) (vs:=[.tmp 4,.tmp 5]) Tryz.func9 rfl rfl (.cons rfl (.cons rfl FitsL.nil)) h
def zHR(f1:τF)(g2:τF):=fC zGe (zU f1 g2) fun _=>zGz
theorem zLm:CfW qf 12:=cfW Tryz.func12
noncomputable def zLx(f1:τF)(g2:τF):T qf ((Bool×Bool)):=
 .pl<|.dn<|.joinC (.op1 (zCv f1) fun y3=>.seqT (.cond (!y3) (.ret true) (.op1 (zCv g2) fun y5=>.ret (!y5))) fun b6=>.ret (y3,b6)) (mb 19 8204) [24,16] (fun s q_1 γ=>s.pc (mb 19 8204) [24,16] [(13,Bo q_1.2)] []) fun q_1=>
 .cond q_1.2 (
 .ret ((false,false)))<|.draw 7 []<|.op1 (zCn f1) fun y8=>.op1 (zCn g2) fun y9=>.n0 (eqg3 zWo)<|
 .lt (((y8.1==y9.1)&&((y8.2.1==y9.2.1)&&(y8.2.2==y9.2.2)))) fun t10=>.ret ((t10,true))
theorem zML{f1:τF}{g2:τF}{r:(Bool×Bool)}(h:zBv f1 g2=some r):zH qf 12 [.ag [Ti f1.1,Ti f1.2.1,Ti f1.2.2],.ag [Ti g2.1,Ti g2.2.1,Ti g2.2.2]] (.tc (Bo r.1) (.tc (Bo r.2) .tn)) []:=CtT (zLx f1 g2) (fun r=>(.tc (Bo r.1) (.tc (Bo r.2) .tn),[])) (rs:=[.t 4,.t 5]) (vs:=[.tmp 4,.tmp 5]) Tryz.func12 rfl rfl (.cons rfl (.cons rfl FitsL.nil)) h
theorem zHu:CfW qf 56:=cfW Tryz.func56
noncomputable def zIK(code1:List Int):T qf ((τF×Int)):=
 .n0 (bld pl57 bt57)<|
 .opx (zN7 ((code1,0,0))) fun y2=>
 .ret ((y2.1,y2.2.1))
theorem zIS{code1:List Int}{r:(τF×Int)}(h:zCF code1=some r):zH qf 56 [.c (.sl (code1.map c5))] (.tc (.ag [Ti r.1.1,Ti r.1.2.1,Ti r.1.2.2]) (.tc (I r.2) .tn)) []:=CtT (zIK code1) (fun r=>(.tc (.ag [Ti r.1.1,Ti r.1.2.1,Ti r.1.2.2]) (.tc (I r.2) .tn),[])) (rs:=[.w 2 3,.t 3]) (vs:=[.cell 2 25,.tmp 3]) Tryz.func56 rfl rfl (.cons ⟨rfl,wd25⟩ (.cons rfl FitsL.nil)) h
def zI8(code1:List Int):=fC zHu (zCF code1) fun _=>zIS
theorem zH6:CfW qf 13:=cfW Tryz.func13
noncomputable def zHk(code1:List Int):T qf ((τF×Int)):=
 .op1 (zI8 code1) fun y2=>
 .ret ((y2.1,y2.2))
theorem zHn{code1:List Int}{r:(τF×Int)}(h:zAx code1=some r):zH qf 13 [.c (.sl (code1.map c5))] (.tc (.ag [Ti r.1.1,Ti r.1.2.1,Ti r.1.2.2]) (.tc (I r.2) .tn)) []:=CtT (zHk code1) (fun r=>(.tc (.ag [Ti r.1.1,Ti r.1.2.1,Ti r.1.2.2]) (.tc (I r.2) .tn),[])) (rs:=[.w 2 3,.t 3]) (vs:=[.cell 2 25,.tmp 3]) Tryz.func13 rfl rfl (.cons ⟨rfl,wd25⟩ (.cons rfl FitsL.nil)) h
theorem zSX:CfW qf 67:=cfW Tryz.func67
noncomputable def zTP(vn1:Int):T qf Bool:=
 .pl<|.joinC (.selB (leI 1 vn1) true [] fun w_2=>.ret w_2) (mb 9 4) [] (fun s q_3 γ=>s.pc (mb 9 4) [] [(2,Bo (bif q_3 then (leI vn1 10000) else false))] []) fun q_3=>
 .ret (bif q_3 then (leI vn1 10000) else false)
theorem zTk{vn1:Int}{r:Bool}(h:zAY vn1=some r):zH qf 67 [I vn1] (Bo r) []:=CtU (zTP vn1) 2 (fun r=>Bo r) Tryz.func67 rfl rfl h
def zIc(vn1:Int):=fC zSX (zAY vn1) fun _=>zTk
theorem zY4:CfW qf 244:=cfW Tryz.func244
noncomputable def zYz(vn1:Int):T qf Int:=
 .loop (fun n X_1=>zCH vn1 n X_1.1 X_1.2) ((0,3000000000)) (mb 23 25) [] (fun s X_1 γ=>s.pc (mb 23 25) [] [(3,I X_1.1),(4,I X_1.2)] []) (fun X_1=>
 .cond (ltI X_1.1 X_1.2) (.n0 dvN<|
 .frc (w64 (Int.tdiv (w64 ((w64 (X_1.1+X_1.2))+1)) 2)) fun vm7=>
 .cond (leI (w64 (vm7*vm7)) vn1) (
 .ret (.inl ((vm7,X_1.2))))<|
 .frc (w64 (vm7 - 1)) fun high9=>.ret (.inl ((X_1.1,high9))))<|.ret (.inr X_1.1)) (mb 23 8) [] (fun s o5 γ=>s.pc (mb 23 8) [] [(3,I o5)] []) fun o5=>
 .ret o5
theorem zZK{vn1:Int}{r:Int}(h:zEK vn1=some r):zH qf 244 [I vn1] (I r) []:=CtU (zYz vn1) 2 (fun r=>I r) Tryz.func244 rfl rfl h
def zIw(vn1:Int):=fC zY4 (zEK vn1) fun _=>zZK
theorem zRD:CfW qf 213:=cfW Tryz.func213
noncomputable def zRh(vn1:Int):T qf Bool:=
 .pl<|.joinC (.seqT (.cond (leI 0 vn1) (.op1 (zIw vn1) fun y3=>.op1 (zIw vn1) fun y4=>.ret (eqI (w64 (y3*y4)) vn1)) (.ret false)) fun b5=>.ret b5) (mb 14 4) [] (fun s q_1 γ=>s.pc (mb 14 4) [] [(2,Bo q_1)] []) fun q_1=>
 .ret q_1
theorem zSC{vn1:Int}{r:Bool}(h:zCU vn1=some r):zH qf 213 [I vn1] (Bo r) []:=CtU (zRh vn1) 2 (fun r=>Bo r) Tryz.func213 rfl rfl h
def zLY(vn1:Int):=fC zRD (zCU vn1) fun _=>zSC
theorem zN6:CfW qf 197:=cfW Tryz.func197
noncomputable def zNt(f1:τF)(vn2:Int):T qf (List (Int×Int)):=
 .n1 (nilN 85 2 (by decide))<|
 .n1 bsl0<|
 .op1 (zC8 f1) fun y3=>
 .op0 (quoF .i64 (w64 ((w64 (4*f1.2.2))*vn2)) (w64 (0 - y3))) fun z4=>.op1 (zIw (w64 (Int.tdiv (w64 ((w64 (4*f1.2.2))*vn2)) (w64 (0 - y3))))) fun y5=>
 .frc (w64 (0 - y5)) fun x6=>.loop (fun n X_2=>zA7 f1 vn2 y3 y5 n X_2.1 X_2.2) ((x6,([]:List (Int×Int)))) (mb 107 486) [88,16] (fun s X_2 γ=>s.pc (mb 107 486) [88,16] [(8,I X_2.1)] [(88,.arr 85 2 (X_2.2.map c85))]) (fun X_2=>
 .cond (leI X_2.1 y5) (
 .frc (w64 ((w64 ((w64 (y3*X_2.1))*X_2.1))+(w64 ((w64 (4*f1.2.2))*vn2)))) fun square12=>.op1 (zLY square12) fun y13=>
 .cond (!y13) (
 .frc (w64 (X_2.1+1)) fun x15=>.ret (.inl ((x15,X_2.2))))<|.op1 (zIw square12) fun y16=>
 .join (.op0 (remF .i64 (w64 ((w64 ((w64 (0 - f1.2.1))*X_2.1)) - y16)) (w64 (2*f1.2.2))) fun z18=>
 .lt (eqI (Int.tmod (w64 ((w64 ((w64 (0 - f1.2.1))*X_2.1)) - y16)) (w64 (2*f1.2.2))) 0) fun t19=>.cond t19 (.op0 (quoF .i64 (w64 ((w64 ((w64 (0 - f1.2.1))*X_2.1)) - y16)) (w64 (2*f1.2.2))) fun z21=>.n0 (bld pl85 bt85)<|.n1 bsl<|.opx (app ct85 X_2.2 ([(X_2.1,w64 (Int.tdiv (w64 ((w64 ((w64 (0 - f1.2.1))*X_2.1)) - y16)) (w64 (2*f1.2.2))))])) fun u22=>
 .lt (X_2.2++([(X_2.1,w64 (Int.tdiv (w64 ((w64 ((w64 (0 - f1.2.1))*X_2.1)) - y16)) (w64 (2*f1.2.2))))])) fun l23=>.ret l23)<|.ret X_2.2) (mb 107 1510) [88,16] (fun s j17 γ=>s.pc (mb 107 1510) [88,16] [] [(88,.arr 85 2 (j17.map c85))]) fun j17=>
 .joinC (.seqT (.cond (ltI 0 y16) (.op0 (remF .i64 (w64 ((w64 ((w64 (0 - f1.2.1))*X_2.1))+y16)) (w64 (2*f1.2.2))) fun z25=>.ret (eqI (Int.tmod (w64 ((w64 ((w64 (0 - f1.2.1))*X_2.1))+y16)) (w64 (2*f1.2.2))) 0)) (.ret false)) fun b26=>.ret b26) (mb 107 618970019642690137449563622) [88,16] (fun s q_1 γ=>s.pc (mb 107 618970019642690137449563622) [88,16] [(89,Bo q_1)] []) fun q_1=>
 .cond q_1 (.op0 (quoF .i64 (w64 ((w64 ((w64 (0 - f1.2.1))*X_2.1))+y16)) (w64 (2*f1.2.2))) fun z28=>.n0 (bld pl85 bt85)<|.n1 bsl<|.opx (app ct85 j17 ([(X_2.1,w64 (Int.tdiv (w64 ((w64 ((w64 (0 - f1.2.1))*X_2.1))+y16)) (w64 (2*f1.2.2))))])) fun u29=>
 .lt (j17++([(X_2.1,w64 (Int.tdiv (w64 ((w64 ((w64 (0 - f1.2.1))*X_2.1))+y16)) (w64 (2*f1.2.2))))])) fun l30=>
 .frc (w64 (X_2.1+1)) fun x31=>.ret (.inl ((x31,l30))))<|
 .frc (w64 (X_2.1+1)) fun x32=>.ret (.inl ((x32,j17))))<|.ret (.inr X_2.2)) (mb 107 32) [88] (fun s o10 γ=>s.pc (mb 107 32) [88] [] [(88,.arr 85 2 (o10.map c85))]) fun o10=>
 .ret o10
theorem zOG{f1:τF}{vn2:Int}{r:List (Int×Int)}(h:zD6 f1 vn2=some r):zH qf 197 [.ag [Ti f1.1,Ti f1.2.1,Ti f1.2.2],I vn2] (.ow 0) [(0,.arr 85 2 (r.map c85))]:=CtT (zNt f1 vn2) (fun r=>(.ow 0,[(0,.arr 85 2 (r.map c85))])) (rs:=[.t 4]) (vs:=[.tmp 4]) Tryz.func197 rfl rfl (.cons rfl FitsL.nil) h
def zOf(f1:τF)(vn2:Int):=fC zN6 (zD6 f1 vn2) fun _=>zOG
theorem zKL:CfW qf 122:=cfW Tryz.func122
noncomputable def zK5(f1:τF)(vn2:Int):T qf (((List (Int×Int))×Bool)):=
 .n1 (nilN 85 2 (by decide))<|
 .dn<|.joinC (.op1 (zIb f1) fun y3=>.seqT (.cond (!y3) (.ret true) (.op1 (zIc vn2) fun y5=>.ret (!y5))) fun b6=>.ret (y3,b6)) (mb 18 8198) [16] (fun s q_1 γ=>s.pc (mb 18 8198) [16] [(13,Bo q_1.2)] []) fun q_1=>
 .cond q_1.2 (.n1 bsl0<|
 .ret ((([]:List (Int×Int)),false)))<|.op1 (zOf f1 vn2) fun y8=>
 .ret ((y8,true))
theorem zKf{f1:τF}{vn2:Int}{r:((List (Int×Int))×Bool)}(h:zB0 f1 vn2=some r):zH qf 122 [.ag [Ti f1.1,Ti f1.2.1,Ti f1.2.2],I vn2] (.tc (.ow 0) (.tc (Bo r.2) .tn)) [(0,.arr 85 2 (r.1.map c85))]:=CtT (zK5 f1 vn2) (fun r=>(.tc (.ow 0) (.tc (Bo r.2) .tn),[(0,.arr 85 2 (r.1.map c85))])) (rs:=[.t 4,.t 5]) (vs:=[.tmp 4,.tmp 5]) Tryz.func122 rfl rfl (.cons rfl (.cons rfl FitsL.nil)) h
def zLN(f1:τF)(vn2:Int):=fC zKL (zB0 f1 vn2) fun _=>zKf
theorem zKM:CfW qf 57:=cfW Tryz.func57
noncomputable def zK6(f1:τF)(vn2:Int):T qf (((List (Int×Int))×Bool)):=
 .n1 (nilN 85 2 (by decide))<|
 .op1 (zLN f1 vn2) fun y3=>
 .n1 bsl0<|
 .n0 (lenM ct85 y3.1)<|
 .loop (fun n X_1=>jW y3 n X_1.1 X_1.2) ((0,([]:List (Int×Int)))) (mb 37 1835392) [136,112] (fun s X_1 γ=>s.pc (mb 37 1835392) [136,112] [(20,I X_1.1)] [(136,.arr 85 2 (X_1.2.map c85))]) (fun X_1=>
 .cond (ltI X_1.1 ((y3.1.length:Int))) (.op0 (zDI ct85 y3.1 X_1.1) fun e9=>.op0 (ldo ct85 y3.1 X_1.1) fun e10=>
 .op1 (zId e10.1 e10.2) fun y11=>
 .cond (eqI y11 1) (.n1 bsl<|.opx (app ct85 X_1.2 ([e10])) fun u13=>
 .frc (w64 (X_1.1+1)) fun t14=>.ret (.inl ((t14,X_1.2++([e10])))))<|
 .frc (w64 (X_1.1+1)) fun t15=>.ret (.inl ((t15,X_1.2))))<|.ret (.inr X_1.2)) (mb 37 384) [136] (fun s o7 γ=>s.pc (mb 37 384) [136] [] [(136,.arr 85 2 (o7.map c85))]) fun o7=>
 .ret ((o7,y3.2))
theorem zKg{f1:τF}{vn2:Int}{r:((List (Int×Int))×Bool)}(h:jJ f1 vn2=some r):zH qf 57 [.ag [Ti f1.1,Ti f1.2.1,Ti f1.2.2],I vn2] (.tc (.ow 0) (.tc (Bo r.2) .tn)) [(0,.arr 85 2 (r.1.map c85))]:=CtT (zK6 f1 vn2) (fun r=>(.tc (.ow 0) (.tc (Bo r.2) .tn),[(0,.arr 85 2 (r.1.map c85))])) (rs:=[.t 4,.t 5]) (vs:=[.tmp 4,.tmp 5]) Tryz.func57 rfl rfl (.cons rfl (.cons rfl FitsL.nil)) h
def zGT(f1:τF)(vn2:Int):=fC zKM (jJ f1 vn2) fun _=>zKg
theorem zJX:CfW qf 14:=cfW Tryz.func14
noncomputable def zJg(f1:τF)(vn2:Int):T qf ((qd×Bool)):=
 .op1 (zGT f1 vn2) fun y3=>
 .dn<|.joinC (.selB (!y3.2) false [.z (lenM ct85 y3.1)] fun w_4=>.ret w_4) (mb 37 1048646) [88,16] (fun s q_5 γ=>s.pc (mb 37 1048646) [88,16] [(20,Bo (bif q_5 then true else (eqI ((y3.1.length:Int)) 0)))] []) fun q_5=>
 .cond (bif q_5 then true else (eqI ((y3.1.length:Int)) 0)) (
 .ret (((⟨#[]⟩:qd),false)))<|.draw 18 []<|.op1 (zAW f1) fun y6=>.op1 (jC vn2) fun y7=>.op0 (zDI ct85 y3.1 0) fun e8=>.op0 (ldo ct85 y3.1 0) fun e9=>.op1 (jC e9.1) fun y10=>.op0 (zDI ct85 y3.1 0) fun e11=>.op0 (ldo ct85 y3.1 0) fun e12=>.op1 (jC e12.2) fun y13=>.n1 bsl<|.op1 (zBX ((⟨#[118,97,108,117,101]⟩:qd)) ([y6,y7,y10,y13])) fun y14=>
 .ret ((y14,true))
theorem zJu{f1:τF}{vn2:Int}{r:(qd×Bool)}(h:zAe f1 vn2=some r):zH qf 14 [.ag [Ti f1.1,Ti f1.2.1,Ti f1.2.2],I vn2] (.tc (.c (.v (.string r.1))) (.tc (Bo r.2) .tn)) []:=CtT (zJg f1 vn2) (fun r=>(.tc (.c (.v (.string r.1))) (.tc (Bo r.2) .tn),[])) (rs:=[.t 4,.t 5]) (vs:=[.tmp 4,.tmp 5]) Tryz.func14 rfl rfl (.cons rfl (.cons rfl FitsL.nil)) h
theorem zFh:CfW qf 16:=cfW Tryz.func16
noncomputable def zFp(code1:List Int):T qf ((Int×Int)):=
 .n0 (bld pl57 bt57)<|
 .opx (zIv ((code1,0,0))) fun y2=>.opx (zE y2.2 400) fun y3=>.opx (zE y3.2 10000) fun y4=>.n1 bsl<|.hint (frzH 136)<|.opx (zAo y4.2 ([w64 (1+y3.1),w64 (1+y4.1),0,10001,2503,9973])) fun y5=>
 .ret ((y2.1,y5.1))
theorem zFq{code1:List Int}{r:(Int×Int)}(h:zAQ code1=some r):zH qf 16 [.c (.sl (code1.map c5))] (.tc (I r.1) (.tc (I r.2) .tn)) []:=CtT (zFp code1) (fun r=>(.tc (I r.1) (.tc (I r.2) .tn),[])) (rs:=[.t 2,.t 3]) (vs:=[.tmp 2,.tmp 3]) Tryz.func16 rfl rfl (.cons rfl (.cons rfl FitsL.nil)) h
theorem zS0:CfW qf 203:=cfW Tryz.func203
noncomputable def zTS(vn1:Int):T qf (List Int):=
 .n1 (nilN 3 1 (by decide))<|
 .n1 bsl0<|
 .loop (fun n X_2=>zGF n X_2.1 X_2.2.1 X_2.2.2) ((vn1,2,([]:List Int))) (mb 31 25) [40] (fun s X_2 γ=>s.pc (mb 31 25) [40] [(0,I X_2.1),(4,I X_2.2.1)] [(40,.arr 3 1 (X_2.2.2.map c3))]) (fun X_2=>
 .cond (leI (w64 (X_2.2.1*X_2.2.1)) X_2.1) (.loop (fun n X_1=>zFe X_2.2.1 n X_1.1 X_1.2) ((X_2.1,X_2.2.2)) (mb 31 25) [40] (fun s X_1 γ=>s.pc (mb 31 25) [40] [(0,I X_1.1)] [(40,.arr 3 1 (X_1.2.map c3))]) (fun X_1=>
 .op0 (remF .i64 X_1.1 X_2.2.1) fun z12=>
 .cond (eqI (Int.tmod X_1.1 X_2.2.1) 0) (.n1 bsl<|.opx (app ct3 X_1.2 ([X_2.2.1])) fun u14=>
 .op0 (quoF .i64 X_1.1 X_2.2.1) fun z15=>
 .frc (w64 (Int.tdiv X_1.1 X_2.2.1)) fun vn16=>.ret (.inl ((vn16,X_1.2++([X_2.2.1])))))<|.ret (.inr ((X_1.1,X_1.2)))) (mb 31 25) [40] (fun s o11 γ=>s.pc (mb 31 25) [40] [(0,I o11.1)] [(40,.arr 3 1 (o11.2.map c3))]) fun o11=>
 .frc (w64 (X_2.2.1+1)) fun p17=>.ret (.inl ((o11.1,p17,o11.2))))<|.ret (.inr ((X_2.1,X_2.2.2)))) (mb 31 9) [40] (fun s o6 γ=>s.pc (mb 31 9) [40] [(0,I o6.1)] [(40,.arr 3 1 (o6.2.map c3))]) fun o6=>
 .cond (ltI 1 o6.1) (.n1 bsl<|.opx (app ct3 o6.2 ([o6.1])) fun u19=>
 .ret (o6.2++([o6.1])))<|
 .ret o6.2
theorem zTo{vn1:Int}{r:List Int}(h:zI0 vn1=some r):zH qf 203 [I vn1] (.ow 0) [(0,.arr 3 1 (r.map c3))]:=CtT (zTS vn1) (fun r=>(.ow 0,[(0,.arr 3 1 (r.map c3))])) (rs:=[.t 2]) (vs:=[.tmp 2]) Tryz.func203 rfl rfl (.cons rfl FitsL.nil) h
def zVU(vn1:Int):=fC zS0 (zI0 vn1) fun _=>zTo
theorem zRA:CfW qf 131:=cfW Tryz.func131
noncomputable def zRf(vn1:Int):T qf (List Int):=
 .n1 (nilN 3 1 (by decide))<|
 .n1 bsl0<|
 .op1 (zVU vn1) fun y2=>.n0 (lenM ct3 y2)<|
 .loop (fun n X_2=>zEX y2 n X_2.1 X_2.2) ((0,([]:List Int))) (mb 33 1800) [64,48] (fun s X_2 γ=>s.pc (mb 33 1800) [64,48] [(10,I X_2.1)] [(48,.arr 3 1 (X_2.2.map c3))]) (fun X_2=>
 .cond (ltI X_2.1 ((y2.length:Int))) (.op0 (zDI ct3 y2 X_2.1) fun e8=>.op0 (ldo ct3 y2 X_2.1) fun e9=>
 .joinC (.n0 (lenM ct3 X_2.2)<|.seqT (.cond (eqI ((X_2.2.length:Int)) 0) (.ret true) (.n0 (lenM ct3 X_2.2)<|.op0 (zDI ct3 X_2.2 (w64 (((X_2.2.length:Int)) - 1))) fun e11=>.op0 (ldo ct3 X_2.2 (w64 (((X_2.2.length:Int)) - 1))) fun e12=>.ret (!eqI e12 e9))) fun b13=>.ret b13) (mb 33 67110696) [64,48] (fun s q_1 γ=>s.pc (mb 33 67110696) [64,48] [(26,Bo q_1)] []) fun q_1=>
 .cond q_1 (.n1 bsl<|.opx (app ct3 X_2.2 ([e9])) fun u15=>
 .frc (w64 (X_2.1+1)) fun t16=>.ret (.inl ((t16,X_2.2++([e9])))))<|
 .frc (w64 (X_2.1+1)) fun t17=>.ret (.inl ((t17,X_2.2))))<|.ret (.inr X_2.2)) (mb 33 8) [48] (fun s o6 γ=>s.pc (mb 33 8) [48] [] [(48,.arr 3 1 (o6.map c3))]) fun o6=>
 .ret o6
theorem zRz{vn1:Int}{r:List Int}(h:zDj vn1=some r):zH qf 131 [I vn1] (.ow 0) [(0,.arr 3 1 (r.map c3))]:=CtT (zRf vn1) (fun r=>(.ow 0,[(0,.arr 3 1 (r.map c3))])) (rs:=[.t 2]) (vs:=[.tmp 2]) Tryz.func131 rfl rfl (.cons rfl FitsL.nil) h
def zSb(vn1:Int):=fC zRA (zDj vn1) fun _=>zRz
theorem zKQ:CfW qf 64:=cfW Tryz.func64
noncomputable def zK9(d1:Int)(vn2:Int):T qf ((Int×Bool)):=
 .pl<|.dn<|.joinC (.op1 (zEi d1) fun y3=>.seqT (.cond (!y3) (.ret true) (.op1 (zIc vn2) fun y5=>.ret (!y5))) fun b6=>.ret (y3,b6)) (mb 37 32771) [] (fun s q_3 γ=>s.pc (mb 37 32771) [] [(15,Bo q_3.2)] []) fun q_3=>
 .cond q_3.2 (
 .ret ((0,false)))<|.op1 (zSb vn2) fun y8=>.n0 (lenM ct3 y8)<|
 .loopS (fun n X_2=>zAf d1 vn2 y8 n X_2) 0 (mb 37 917507) [136] (fun s X_2 γ=>s.pc (mb 37 917507) [136] [(19,I X_2)] []) (fun X_2=>
 .cond (ltI X_2 ((y8.length:Int))) (.op0 (zDI ct3 y8 X_2) fun e13=>.op0 (ldo ct3 y8 X_2) fun e14=>
 .joinC (.op1 (zL0 vn2 e14) fun y15=>.n0 dvN<|.seqT (.cond (eqI (Int.tmod y15 2) 1) (.op1 (zFG d1 e14) fun y17=>.n0 (lenM ct3 y17)<|.ret (eqI ((y17.length:Int)) 0)) (.ret false)) fun b18=>.ret (y15,b18)) (mb 37 17180786819) [136] (fun s q_1 γ=>s.pc (mb 37 17180786819) [136] [(34,Bo q_1.2)] []) fun q_1=>
 .cond q_1.2 (
 .ret (.early ((e14,true))))<|
 .frc (w64 (X_2+1)) fun t20=>.ret (.again t20))<|.ret (.done (()))) (mb 37 0) [] (fun s o11 γ=>s.pc (mb 37 0) [] [] []) (fun r=>r) fun o11=>
 .ret ((0,false))
theorem zKj{d1:Int}{vn2:Int}{r:(Int×Bool)}(h:zCK d1 vn2=some r):zH qf 64 [I d1,I vn2] (.tc (I r.1) (.tc (Bo r.2) .tn)) []:=CtT (zK9 d1 vn2) (fun r=>(.tc (I r.1) (.tc (Bo r.2) .tn),[])) (rs:=[.t 4,.t 5]) (vs:=[.tmp 4,.tmp 5]) Tryz.func64 rfl rfl (.cons rfl (.cons rfl FitsL.nil)) h
def zLP(d1:Int)(vn2:Int):=fC zKQ (zCK d1 vn2) fun _=>zKj
theorem zGd:CfW qf 17:=cfW Tryz.func17
noncomputable def zGs(d1:Int)(vn2:Int):T qf ((qd×Bool)):=
 .op1 (zLP d1 vn2) fun y3=>
 .dn<|.joinC (.selB (!y3.2) false [] fun w_4=>.ret w_4) (mb 28 524355) [] (fun s q_5 γ=>s.pc (mb 28 524355) [] [(19,Bo (bif q_5 then true else (ltI 2500 y3.1)))] []) fun q_5=>
 .cond (bif q_5 then true else (ltI 2500 y3.1)) (
 .ret (((⟨#[]⟩:qd),false)))<|.op1 (jC d1) fun y6=>.op1 (jC vn2) fun y7=>.op1 (jC y3.1) fun y8=>.n1 bsl<|.op1 (zBX ((⟨#[111,98,115,116,114,117,99,116,105,111,110]⟩:qd)) ([y6,y7,y8])) fun y9=>
 .ret ((y9,true))
theorem zGx{d1:Int}{vn2:Int}{r:(qd×Bool)}(h:jL d1 vn2=some r):zH qf 17 [I d1,I vn2] (.tc (.c (.v (.string r.1))) (.tc (Bo r.2) .tn)) []:=CtT (zGs d1 vn2) (fun r=>(.tc (.c (.v (.string r.1))) (.tc (Bo r.2) .tn),[])) (rs:=[.t 4,.t 5]) (vs:=[.tmp 4,.tmp 5]) Tryz.func17 rfl rfl (.cons rfl (.cons rfl FitsL.nil)) h
theorem zO2:CfW qf 139:=cfW Tryz.func139
noncomputable def zOv(d1:Int):T qf (List τF):=
 .n1 (nilN 25 3 (by decide))<|
 .n1 bsl0<|
 .loop (fun n X_2=>zCj d1 n X_2.1 X_2.2) ((1,([]:List τF))) (mb 51 25) [56] (fun s X_2 γ=>s.pc (mb 51 25) [56] [(4,I X_2.1)] [(56,.arr 25 3 (X_2.2.map c25))]) (fun X_2=>
 .cond (leI (w64 ((w64 (3*X_2.1))*X_2.1)) (w64 (0 - d1))) (
 .frc (w64 (1 - X_2.1)) fun b7=>.loop (fun n X_1=>zA6 X_2.1 d1 n X_1.1 X_1.2) ((b7,X_2.2)) (mb 51 57) [56] (fun s X_1 γ=>s.pc (mb 51 57) [56] [(5,I X_1.1)] [(56,.arr 25 3 (X_1.2.map c25))]) (fun X_1=>
 .cond (leI X_1.1 X_2.1) (.op0 (remF .i64 (w64 ((w64 (X_1.1*X_1.1)) - d1)) (w64 (4*X_2.1))) fun z13=>
 .lt (!eqI (Int.tmod (w64 ((w64 (X_1.1*X_1.1)) - d1)) (w64 (4*X_2.1))) 0) fun t14=>.cond t14 (
 .frc (w64 (X_1.1+1)) fun b16=>.ret (.inl ((b16,X_1.2))))<|.op0 (quoF .i64 (w64 ((w64 (X_1.1*X_1.1)) - d1)) (w64 (4*X_2.1))) fun z17=>.n0 (bld pl25 bt25)<|
 .frc (w64 (Int.tdiv (w64 ((w64 (X_1.1*X_1.1)) - d1)) (w64 (4*X_2.1)))) fun f18=>.op1 (zEj ((X_2.1,X_1.1,f18))) fun y19=>
 .cond y19 (.n1 bsl<|.opx (app ct25 X_1.2 ([(X_2.1,X_1.1,f18)])) fun u21=>
 .frc (w64 (X_1.1+1)) fun b22=>.ret (.inl ((b22,X_1.2++([(X_2.1,X_1.1,f18)])))))<|
 .frc (w64 (X_1.1+1)) fun b23=>.ret (.inl ((b23,X_1.2))))<|.ret (.inr X_1.2)) (mb 51 25) [56] (fun s o11 γ=>s.pc (mb 51 25) [56] [] [(56,.arr 25 3 (o11.map c25))]) fun o11=>
 .frc (w64 (X_2.1+1)) fun a24=>.ret (.inl ((a24,o11))))<|.ret (.inr X_2.2)) (mb 51 8) [56] (fun s o5 γ=>s.pc (mb 51 8) [56] [] [(56,.arr 25 3 (o5.map c25))]) fun o5=>
 .ret o5
theorem zPO{d1:Int}{r:List τF}(h:zEn d1=some r):zH qf 139 [I d1] (.ow 0) [(0,.arr 25 3 (r.map c25))]:=CtT (zOv d1) (fun r=>(.ow 0,[(0,.arr 25 3 (r.map c25))])) (rs:=[.t 2]) (vs:=[.tmp 2]) Tryz.func139 rfl rfl (.cons rfl FitsL.nil) h
def zQA(d1:Int):=fC zO2 (zEn d1) fun _=>zPO
theorem zN0:CfW qf 138:=cfW Tryz.func138
noncomputable def zNo(forms1:List τF):T qf (List τF):=
 .n1 (nilN 25 3 (by decide))<|
 .n1 bsl0<|
 .n0 (lenM ct25 forms1)<|
 .loop (fun n X_1=>zBc forms1 n X_1.1 X_1.2) ((0,([]:List τF))) (mb 22 904) [48] (fun s X_1 γ=>s.pc (mb 22 904) [48] [(9,I X_1.1)] [(48,.arr 25 3 (X_1.2.map c25))]) (fun X_1=>
 .cond (ltI X_1.1 ((forms1.length:Int))) (.op0 (idxM ct25 forms1 X_1.1) fun e7=>
 .op1 (zHj e7) fun y8=>
 .cond (eqI y8 1) (.n1 bsl<|.opx (app ct25 X_1.2 ([e7])) fun u10=>
 .frc (w64 (X_1.1+1)) fun t11=>.ret (.inl ((t11,X_1.2++([e7])))))<|
 .frc (w64 (X_1.1+1)) fun t12=>.ret (.inl ((t12,X_1.2))))<|.ret (.inr X_1.2)) (mb 22 8) [48] (fun s o5 γ=>s.pc (mb 22 8) [48] [] [(48,.arr 25 3 (o5.map c25))]) fun o5=>
 .ret o5
theorem zOA{forms1:List τF}{r:List τF}(h:zEW forms1=some r):zH qf 138 [.c (.sl (forms1.map c25))] (.ow 0) [(0,.arr 25 3 (r.map c25))]:=CtT (zNo forms1) (fun r=>(.ow 0,[(0,.arr 25 3 (r.map c25))])) (rs:=[.t 2]) (vs:=[.tmp 2]) Tryz.func138 rfl rfl (.cons rfl FitsL.nil) h
def zOb(forms1:List τF):=fCs zN0 (zEW forms1) (fun _=>zOA) fun _=>(z0q (fun _=>rfl) rfl)
theorem zM9:CfW qf 68:=cfW Tryz.func68
noncomputable def zNM(d1:Int):T qf (List τF):=
 .n1 (nilN 25 3 (by decide))<|
 .op1 (zQA d1) fun y2=>.op1 (zOb y2) fun y3=>
 .ret y3
theorem zNU{d1:Int}{r:List τF}(h:zDH d1=some r):zH qf 68 [I d1] (.ow 0) [(0,.arr 25 3 (r.map c25))]:=CtT (zNM d1) (fun r=>(.ow 0,[(0,.arr 25 3 (r.map c25))])) (rs:=[.t 2]) (vs:=[.tmp 2]) Tryz.func68 rfl rfl (.cons rfl FitsL.nil) h
def zNa(d1:Int):=fC zM9 (zDH d1) fun _=>zNU
theorem zIh:CfW qf 19:=cfW Tryz.func19
noncomputable def zJD(d1:Int)(vn2:Int):T qf (((List τF)×Bool)):=
 .n1 (nilN 25 3 (by decide))<|
 .dn<|.joinC (.op1 (zEi d1) fun y3=>.seqT (.cond (!y3) (.ret true) (.op1 (zIc vn2) fun y5=>.ret (!y5))) fun b6=>.ret (y3,b6)) (mb 43 262147) [] (fun s q_2 γ=>s.pc (mb 43 262147) [] [(18,Bo q_2.2)] []) fun q_2=>
 .cond q_2.2 (.n1 bsl0<|
 .ret ((([]:List τF),false)))<|.n1 bsl0<|
 .op1 (zNa d1) fun y8=>.n0 (lenM ct25 y8)<|
 .loop (fun n X_1=>zAV vn2 y8 n X_1.1 X_1.2) ((0,([]:List τF))) (mb 43 29360194) [176,160] (fun s X_1 γ=>s.pc (mb 43 29360194) [176,160] [(24,I X_1.1)] [(160,.arr 25 3 (X_1.2.map c25))]) (fun X_1=>
 .cond (ltI X_1.1 ((y8.length:Int))) (.op0 (zDI ct25 y8 X_1.1) fun e14=>.op0 (ldo ct25 y8 X_1.1) fun e15=>
 .op1 (zGT e15 vn2) fun y16=>
 .n0 (lenM ct85 y16.1)<|
 .cond (ltI 0 ((y16.1.length:Int))) (.n1 bsl<|.opx (app ct25 X_1.2 ([e15])) fun u18=>
 .frc (w64 (X_1.1+1)) fun t19=>.ret (.inl ((t19,X_1.2++([e15])))))<|
 .frc (w64 (X_1.1+1)) fun t20=>.ret (.inl ((t20,X_1.2))))<|.ret (.inr X_1.2)) (mb 43 64) [160] (fun s o12 γ=>s.pc (mb 43 64) [160] [] [(160,.arr 25 3 (o12.map c25))]) fun o12=>
 .ret ((o12,true))
theorem zJJ{d1:Int}{vn2:Int}{r:((List τF)×Bool)}(h:zAt d1 vn2=some r):zH qf 19 [I d1,I vn2] (.tc (.ow 0) (.tc (Bo r.2) .tn)) [(0,.arr 25 3 (r.1.map c25))]:=CtT (zJD d1 vn2) (fun r=>(.tc (.ow 0) (.tc (Bo r.2) .tn),[(0,.arr 25 3 (r.1.map c25))])) (rs:=[.t 4,.t 5]) (vs:=[.tmp 4,.tmp 5]) Tryz.func19 rfl rfl (.cons rfl (.cons rfl FitsL.nil)) h
theorem zGM:CfW qf 20:=cfW Tryz.func20
noncomputable def zGU(code1:List Int):T qf ((τF×τF)):=
 .n0 (bld pl57 bt57)<|
 .opx (zFn ((code1,0,0))) fun y2=>
 .ret ((y2.1,y2.2.1))
theorem zGV{code1:List Int}{r:(τF×τF)}(h:zA1 code1=some r):zH qf 20 [.c (.sl (code1.map c5))] (.tc (.ag [Ti r.1.1,Ti r.1.2.1,Ti r.1.2.2]) (.tc (.ag [Ti r.2.1,Ti r.2.2.1,Ti r.2.2.2]) .tn)) []:=CtT (zGU code1) (fun r=>(.tc (.ag [Ti r.1.1,Ti r.1.2.1,Ti r.1.2.2]) (.tc (.ag [Ti r.2.1,Ti r.2.2.1,Ti r.2.2.2]) .tn),[])) (rs:=[.w 2 3,.w 3 3]) (vs:=[.cell 2 25,.cell 3 25]) Tryz.func20 rfl rfl (.cons ⟨rfl,wd25⟩ (.cons ⟨rfl,wd25⟩ FitsL.nil)) h
theorem zGl:CfW qf 143:=cfW Tryz.func143
noncomputable def zX2(x1:Int)(y2:Int)(u3:Int)(v4:Int):T qf (τM):=
 .n0 (bld zZ2 z2W)<|
 .frc (w64 (x1*u3)) fun f5=>.frc (w64 (x1*v4)) fun f6=>.frc (w64 (y2*u3)) fun f7=>.frc (w64 (y2*v4)) fun f8=>.ret ((f5,f6,f7,f8))
theorem zHp{x1:Int}{y2:Int}{u3:Int}{v4:Int}{r:τM}(h:zCb x1 y2 u3 v4=some r):zH qf 143 [I x1,I y2,I u3,I v4] (.ag [Ti r.1,Ti r.2.1,Ti r.2.2.1,Ti r.2.2.2]) []:=CtT (zX2 x1 y2 u3 v4) (fun r=>(.ag [Ti r.1,Ti r.2.1,Ti r.2.2.1,Ti r.2.2.2],[])) (rs:=[.w 8 4]) (vs:=[.cell 8 144]) Tryz.func143 rfl rfl (.cons ⟨rfl,z7r⟩ FitsL.nil) h
theorem zA8:CfW qf 144:=cfW Tryz.func144
noncomputable def zLu(b1:τM)(k2:Int)(cc3:τM):T qf (τM):=
 .unroll 40<|
 .lit<|
 .draw 10 []<|.n0 ixL<|.n0 ixL<|.n0 ixL<|
 .frc (w64 (b1.1+(w64 (k2*cc3.1)))) fun f5=>
 .lit<|
 .draw 10 []<|.n0 ixL<|.n0 ixL<|.n0 ixL<|
 .frc (w64 (b1.2.1+(w64 (k2*cc3.2.1)))) fun f7=>
 .lit<|
 .draw 10 []<|.n0 ixL<|.n0 ixL<|.n0 ixL<|
 .frc (w64 (b1.2.2.1+(w64 (k2*cc3.2.2.1)))) fun f9=>
 .lit<|
 .draw 10 []<|.n0 ixL<|.n0 ixL<|.n0 ixL<|
 .frc (w64 (b1.2.2.2+(w64 (k2*cc3.2.2.2)))) fun f11=>
 .lit<|
 .ret ((f5,f7,f9,f11))
theorem zAg{b1:τM}{k2:Int}{cc3:τM}{r:τM}(h:zW b1 k2 cc3=some r):zH qf 144 [.ag [Ti b1.1,Ti b1.2.1,Ti b1.2.2.1,Ti b1.2.2.2],I k2,.ag [Ti cc3.1,Ti cc3.2.1,Ti cc3.2.2.1,Ti cc3.2.2.2]] (.ag [Ti r.1,Ti r.2.1,Ti r.2.2.1,Ti r.2.2.2]) []:=CtT (zLu b1 k2 cc3) (fun r=>(.ag [Ti r.1,Ti r.2.1,Ti r.2.2.1,Ti r.2.2.2],[])) (rs:=[.w 6 4]) (vs:=[.cell 6 144]) Tryz.func144 rfl rfl (.cons ⟨rfl,z7r⟩ FitsL.nil) h
theorem zJZ:CfW qf 69:=cfW Tryz.func69
theorem zJw{f1:τF}{g2:τF}{r:(τF×(List Int)×Bool)}(h:zAK f1 g2=some r):zH qf 69 [.ag [Ti f1.1,Ti f1.2.1,Ti f1.2.2],.ag [Ti g2.1,Ti g2.2.1,Ti g2.2.2]] (.tc (.ag [Ti r.1.1,Ti r.1.2.1,Ti r.1.2.2]) (.tc (.ow 1) (.tc (Bo r.2.2) .tn))) [(1,.arr 3 1 (r.2.1.map c3))]:=by
 refine zEA (rs:=[.w 4 3,.t 5,.t 6]) (vs:=[.cell 4 25,.tmp 5,.tmp 6]) Tryz.func69 rfl rfl (.cons ⟨rfl,wd25⟩ (.cons rfl (.cons rfl FitsL.nil))) (by decide) 148 rfl ?_
 unfold zAK at h;refine VS ?_
 refine YR 3 ?_
 refine L1 rfl rfl (zRK (e:=3) 1 (by decide) (.inl rfl)) ?_
 refine YF ?_
 refine zV ?_
 obtain⟨y3,hy3,h⟩:=zA h;refine VS ?_
 refine YK 2 (zIW hy3) zH8 ?_
 refine YF ?_
 refine VC h (fun h=>?_) (fun h=>?_)
 ·refine VS ?_
  refine L0 rfl rfl (zBj (cs:=[Ti 0,Ti 0,Ti 0]) pl25 bt25 rfl rfl kk) ?_
  refine L1 rfl rfl (zDD Tryz.underlying50 sz3 (by decide) rfl rfl) ?_
  refine YF ?_
  cases h;exact zBW VT
 ·refine qV ?_
  show V _ _ _ _;obtain⟨y5,hy5,h⟩:=zA h;refine VS ?_
  refine YK 1 (zFX hy5) zFC ?_
  refine YF ?_
  obtain⟨y6,hy6,h⟩:=zA h;refine VS ?_
  refine YK 1 (zFX hy6) zFC ?_
  refine YF ?_
  obtain⟨y7,hy7,h⟩:=zA h;refine VS ?_
  refine YK 2 (zPI hy7) zNe ?_
  refine YF ?_
  obtain⟨y8,hy8,h⟩:=zA h;obtain⟨y9,hy9,h⟩:=zA h;refine VS ?_
  refine YK 3 (zDE hy8) zCk ?_
  refine YK 0 (zCY hy9) zCM ?_
  refine YF ?_
  obtain⟨y10,hy10,h⟩:=zA h;obtain⟨y11,hy11,h⟩:=zA h;refine VS ?_
  refine YK 3 (zDE hy10) zCk ?_
  refine YK 0 (zCY hy11) zCM ?_
  refine YF ?_
  obtain⟨y12,hy12,h⟩:=zA h;obtain⟨y13,hy13,h⟩:=zA h;refine VS ?_
  refine YK 1 (zFi hy12) zF2 ?_
  refine YK 0 (zFX hy13) zFC ?_
  refine YF ?_
  obtain⟨y14,hy14,h⟩:=zA h;refine VS ?_
  refine YK 1 (zCY hy14) zCM ?_
  refine YF ?_
  obtain⟨y15,hy15,h⟩:=zA h;obtain⟨y16,hy16,h⟩:=zA h;refine zDu [0,1,0,4,0,16,0,64,255,0,512,0,2048,0,8192,0,32768,131071,0,0,1048575,2097151] 20 (cdm 20 [698647882400,698647882401,698647882250,698647882266,698647879850,698647880106,698647841450,698647845546,698647860565,698645392042,698645654186,698606070442,698610264746,697976924842,698044033706,687910595242,688984337066,692921390421,595568798378,183251937962]) (mb 148 489488) [144,136,128,112,104,96,88,32] (s1:=⟨bt 4 (.pt 32 0::bt 6 (.pt 88 0::.pt 96 0::.pt 104 0::.pt 112 0::.bot::.pt 128 0::.pt 136 0::.pt 144 0::bt 129 [])),[(144,.box [Ti y16.1,Ti y16.2.1,Ti y16.2.2.1,Ti y16.2.2.2]),(136,.box [Ti y15.1,Ti y15.2.1,Ti y15.2.2.1,Ti y15.2.2.2]),(128,.box [Ti y14.1,Ti y14.2.1,Ti y14.2.2.1,Ti y14.2.2.2]),(112,.box [Ti y13.1.1,Ti y13.1.2.1,Ti y13.1.2.2]),(104,.box [Ti y11.1,Ti y11.2.1,Ti y11.2.2.1,Ti y11.2.2.2]),(96,.box [Ti y9.1,Ti y9.2.1,Ti y9.2.2.1,Ti y9.2.2.2]),(88,.box [Ti y7.1,Ti y7.2.1,Ti y7.2.2.1,Ti y7.2.2.2.1,Ti y7.2.2.2.2.1.1,Ti y7.2.2.2.2.1.2.1,Ti y7.2.2.2.2.1.2.2.1,Ti y7.2.2.2.2.1.2.2.2,Ti y7.2.2.2.2.2.1,Ti y7.2.2.2.2.2.2.1,Ti y7.2.2.2.2.2.2.2.1,Ti y7.2.2.2.2.2.2.2.2]),(32,.box [Ti 0,Ti 0,Ti 0])]⟩) kk kk ?_ ?_
  ·refine EK 8 (zHp hy15) zGl ?_
   refine EK 8 (zHp hy16) zGl ?_
   refine EA 2 ?_
   exact XE
  obtain⟨y17,hy17,h⟩:=zA h;obtain⟨y18,hy18,h⟩:=zA h;refine VDS [0,1,0,4,0,16,0,64,255,0,512,0,2048,0,8192,0,32768,131071,0,0,1048575,2097151] 20 (cdm 20 [698647882400,698647882401,698647882250,698647882266,698647879850,698647880106,698647841450,698647845546,698647860565,698645392042,698645654186,698606070442,698610264746,697976924842,698044033706,687910595242,688984337066,692921390421,595568798378,183251937962]) ?_
  refine EK 8 (zHp hy17) zGl ?_
  refine EK 8 (zHp hy18) zGl ?_
  refine EF 2 ?_
  obtain⟨y19,hy19,h⟩:=zA h;refine VS ?_
  refine YK 5 (zAg hy19) zA8 ?_
  refine YF ?_
  obtain⟨y20,hy20,h⟩:=zA h;obtain⟨y21,hy21,h⟩:=zA h;obtain⟨y22,hy22,h⟩:=zA h;refine VDS [0,0,2,0,15,0,32,0,255,0,512,0,4095,0,16383] 14 (cdm 14 [145270952,145270914,145270918,145270826,145270869,145261226,145262250,145238698,145249621,142781098,143043242,137013930,139810133,44739242]) ?_
  refine E0 0 rfl rfl (zBj (cs:=[Ti 0,Ti 0,Ti 0,Ti 0]) zZ2 z2W rfl rfl kk) ?_
  refine EK 3 (zAg hy20) zA8 ?_
  refine EK 3 (zAg hy21) zA8 ?_
  refine EK 3 (zAg hy22) zA8 ?_
  refine EF 1 ?_
  obtain⟨y23,hy23,h⟩:=zA h;obtain⟨y24,hy24,h⟩:=zA h;refine zDu [0,0,2,0,15,0,32,0,255,0,1023] 10 (cdm 10 [567464,567426,567430,567338,567381,557738,558762,535210,546133,174762]) (mb 148 14762000) [184,176,168,128,112,32] (s1:=⟨bt 4 (.pt 32 0::bt 9 (.pt 112 0::.bot::.pt 128 0::bt 4 (.pt 168 0::.pt 176 0::.pt 184 0::bt 124 []))),[(184,.box [Ti y24.1,Ti y24.2.1,Ti y24.2.2.1,Ti y24.2.2.2]),(176,.box [Ti y22.1,Ti y22.2.1,Ti y22.2.2.1,Ti y22.2.2.2]),(168,.box [Ti y19.1,Ti y19.2.1,Ti y19.2.2.1,Ti y19.2.2.2]),(128,.box [Ti y14.1,Ti y14.2.1,Ti y14.2.2.1,Ti y14.2.2.2]),(112,.box [Ti y13.1.1,Ti y13.1.2.1,Ti y13.1.2.2]),(32,.box [Ti 0,Ti 0,Ti 0])]⟩) kk kk ?_ ?_
  ·refine E0 0 rfl rfl (zBj (cs:=[Ti 0,Ti 0,Ti 0,Ti 0]) zZ2 z2W rfl rfl kk) ?_
   refine EK 3 (zAg hy23) zA8 ?_
   refine EK 3 (zAg hy24) zA8 ?_
   refine EA 1 ?_
   exact XE
  obtain⟨y25,hy25,h⟩:=zA h;obtain⟨y26,hy26,h⟩:=zA h;refine VDS [0,0,2,0,15,0,32,0,255,0,1023] 10 (cdm 10 [567464,567426,567430,567338,567381,557738,558762,535210,546133,174762]) ?_
  refine E0 0 rfl rfl (zBj (cs:=[Ti 0,Ti 0,Ti 0,Ti 0]) zZ2 z2W rfl rfl kk) ?_
  refine EK 3 (zAg hy25) zA8 ?_
  refine EK 3 (zAg hy26) zA8 ?_
  refine EF 1 ?_
  refine zXG 184 (cs:=[Ti y24.1,Ti y24.2.1,Ti y24.2.2.1,Ti y24.2.2.2]) kk rfl ?_
  refine zXG 192 (cs:=[Ti y26.1,Ti y26.2.1,Ti y26.2.2.1,Ti y26.2.2.2]) kk rfl ?_
  obtain⟨u27,hu27,h⟩:=zA h;obtain⟨u28,hu28,h⟩:=zA h;obtain⟨l29,hl29,h⟩:=zA h;have hl29:=zD hl29;refine jV (mb 148 25182224) [112,32] (s':=⟨bt 4 (.pt 32 0::bt 9 (.pt 112 0::bt 8 (.pe [Ti y24.1,Ti y24.2.1,Ti y24.2.2.1,Ti y24.2.2.2]::.pe [Ti y26.1,Ti y26.2.1,Ti y26.2.2.1,Ti y26.2.2.2]::bt 123 []))),[(112,.box [Ti y13.1.1,Ti y13.1.2.1,Ti y13.1.2.2]),(32,.box [Ti 0,Ti 0,Ti 0])]⟩) kk ?_
  refine z7d (mb 148 33570832) [1088,112,32] [0,0,3,0,15,31] [(0,⟨bt 4 (.pt 32 0::bt 9 (.pt 112 0::bt 8 (.pe [Ti y24.1,Ti y24.2.1,Ti y24.2.2.1,Ti y24.2.2.2]::.pe [Ti y26.1,Ti y26.2.1,Ti y26.2.2.1,Ti y26.2.2.2]::bt 123 []))),[(112,.box [Ti y13.1.1,Ti y13.1.2.1,Ti y13.1.2.2]),(32,.box [Ti 0,Ti 0,Ti 0])]⟩),(1,⟨bt 4 (.pt 32 0::bt 9 (.pt 112 0::bt 8 (.pe [Ti y24.1,Ti y24.2.1,Ti y24.2.2.1,Ti y24.2.2.2]::.pe [Ti y26.1,Ti y26.2.1,Ti y26.2.2.1,Ti y26.2.2.2]::bt 111 (.ow 1088::bt 11 [])))),[(1088,.arr 3 1 ((([]:List Int)).map c3)),(112,.box [Ti y13.1.1,Ti y13.1.2.1,Ti y13.1.2.2]),(32,.box [Ti 0,Ti 0,Ti 0])]⟩),(2,⟨bt 4 (.pt 32 0::bt 9 (.pt 112 0::bt 8 (.pe [Ti y24.1,Ti y24.2.1,Ti y24.2.2.1,Ti y24.2.2.2]::.pe [Ti y26.1,Ti y26.2.1,Ti y26.2.2.1,Ti y26.2.2.2]::bt 112 (.c (.sl (([y24.1,y24.2.1,y24.2.2.1,y24.2.2.2]).map c3))::bt 10 [])))),[(112,.box [Ti y13.1.1,Ti y13.1.2.1,Ti y13.1.2.2]),(32,.box [Ti 0,Ti 0,Ti 0])]⟩),(3,⟨bt 4 (.pt 32 0::bt 9 (.pt 112 0::bt 8 (.pe [Ti y24.1,Ti y24.2.1,Ti y24.2.2.1,Ti y24.2.2.2]::.pe [Ti y26.1,Ti y26.2.1,Ti y26.2.2.1,Ti y26.2.2.2]::bt 111 (.ow 1088::.c (.sl (([y24.1,y24.2.1,y24.2.2.1,y24.2.2.2]).map c3))::bt 10 [])))),[(1088,.arr 3 1 ((([]:List Int)).map c3)),(112,.box [Ti y13.1.1,Ti y13.1.2.1,Ti y13.1.2.2]),(32,.box [Ti 0,Ti 0,Ti 0])]⟩),(7,⟨bt 4 (.pt 32 0::bt 9 (.pt 112 0::bt 8 (.pe [Ti y24.1,Ti y24.2.1,Ti y24.2.2.1,Ti y24.2.2.2]::.pe [Ti y26.1,Ti y26.2.1,Ti y26.2.2.1,Ti y26.2.2.2]::bt 112 (.c (.sl (([y24.1,y24.2.1,y24.2.2.1,y24.2.2.2]).map c3))::.ow 1088::bt 9 [])))),[(1088,.arr 3 1 (((([]:List Int))++([y24.1,y24.2.1,y24.2.2.1,y24.2.2.2])).map c3)),(112,.box [Ti y13.1.1,Ti y13.1.2.1,Ti y13.1.2.2]),(32,.box [Ti 0,Ti 0,Ti 0])]⟩),(8,⟨bt 4 (.pt 32 0::bt 9 (.pt 112 0::bt 8 (.pe [Ti y24.1,Ti y24.2.1,Ti y24.2.2.1,Ti y24.2.2.2]::.pe [Ti y26.1,Ti y26.2.1,Ti y26.2.2.1,Ti y26.2.2.2]::bt 114 (.c (.sl (([y26.1,y26.2.1,y26.2.2.1,y26.2.2.2]).map c3))::bt 8 [])))),[(112,.box [Ti y13.1.1,Ti y13.1.2.1,Ti y13.1.2.2]),(32,.box [Ti 0,Ti 0,Ti 0])]⟩),(9,⟨bt 4 (.pt 32 0::bt 9 (.pt 112 0::bt 8 (.pe [Ti y24.1,Ti y24.2.1,Ti y24.2.2.1,Ti y24.2.2.2]::.pe [Ti y26.1,Ti y26.2.1,Ti y26.2.2.1,Ti y26.2.2.2]::bt 111 (.ow 1088::.bot::.bot::.c (.sl (([y26.1,y26.2.1,y26.2.2.1,y26.2.2.2]).map c3))::bt 8 [])))),[(1088,.arr 3 1 ((([]:List Int)).map c3)),(112,.box [Ti y13.1.1,Ti y13.1.2.1,Ti y13.1.2.2]),(32,.box [Ti 0,Ti 0,Ti 0])]⟩),(10,⟨bt 4 (.pt 32 0::bt 9 (.pt 112 0::bt 8 (.pe [Ti y24.1,Ti y24.2.1,Ti y24.2.2.1,Ti y24.2.2.2]::.pe [Ti y26.1,Ti y26.2.1,Ti y26.2.2.1,Ti y26.2.2.2]::bt 112 (.c (.sl (([y24.1,y24.2.1,y24.2.2.1,y24.2.2.2]).map c3))::.bot::.c (.sl (([y26.1,y26.2.1,y26.2.2.1,y26.2.2.2]).map c3))::bt 8 [])))),[(112,.box [Ti y13.1.1,Ti y13.1.2.1,Ti y13.1.2.2]),(32,.box [Ti 0,Ti 0,Ti 0])]⟩),(11,⟨bt 4 (.pt 32 0::bt 9 (.pt 112 0::bt 8 (.pe [Ti y24.1,Ti y24.2.1,Ti y24.2.2.1,Ti y24.2.2.2]::.pe [Ti y26.1,Ti y26.2.1,Ti y26.2.2.1,Ti y26.2.2.2]::bt 111 (.ow 1088::.c (.sl (([y24.1,y24.2.1,y24.2.2.1,y24.2.2.2]).map c3))::.bot::.c (.sl (([y26.1,y26.2.1,y26.2.2.1,y26.2.2.2]).map c3))::bt 8 [])))),[(1088,.arr 3 1 ((([]:List Int)).map c3)),(112,.box [Ti y13.1.1,Ti y13.1.2.1,Ti y13.1.2.2]),(32,.box [Ti 0,Ti 0,Ti 0])]⟩),(15,⟨bt 4 (.pt 32 0::bt 9 (.pt 112 0::bt 8 (.pe [Ti y24.1,Ti y24.2.1,Ti y24.2.2.1,Ti y24.2.2.2]::.pe [Ti y26.1,Ti y26.2.1,Ti y26.2.2.1,Ti y26.2.2.2]::bt 112 (.c (.sl (([y24.1,y24.2.1,y24.2.2.1,y24.2.2.2]).map c3))::.ow 1088::.c (.sl (([y26.1,y26.2.1,y26.2.2.1,y26.2.2.2]).map c3))::bt 8 [])))),[(1088,.arr 3 1 (((([]:List Int))++([y24.1,y24.2.1,y24.2.2.1,y24.2.2.2])).map c3)),(112,.box [Ti y13.1.1,Ti y13.1.2.1,Ti y13.1.2.2]),(32,.box [Ti 0,Ti 0,Ti 0])]⟩),(31,⟨bt 4 (.pt 32 0::bt 9 (.pt 112 0::bt 8 (.pe [Ti y24.1,Ti y24.2.1,Ti y24.2.2.1,Ti y24.2.2.2]::.pe [Ti y26.1,Ti y26.2.1,Ti y26.2.2.1,Ti y26.2.2.2]::bt 112 (.c (.sl (([y24.1,y24.2.1,y24.2.2.1,y24.2.2.2]).map c3))::.bot::.c (.sl (([y26.1,y26.2.1,y26.2.2.1,y26.2.2.2]).map c3))::.ow 1088::bt 7 [])))),[(1088,.arr 3 1 ((((([]:List Int))++([y24.1,y24.2.1,y24.2.2.1,y24.2.2.2]))++([y26.1,y26.2.1,y26.2.2.1,y26.2.2.2])).map c3)),(112,.box [Ti y13.1.1,Ti y13.1.2.1,Ti y13.1.2.2]),(32,.box [Ti 0,Ti 0,Ti 0])]⟩),(63,⟨bt 4 (.pt 32 0::bt 9 (.pt 112 0::bt 8 (.pe [Ti y24.1,Ti y24.2.1,Ti y24.2.2.1,Ti y24.2.2.2]::.pe [Ti y26.1,Ti y26.2.1,Ti y26.2.2.1,Ti y26.2.2.2]::.ow 1088::bt 111 (.c (.sl (([y24.1,y24.2.1,y24.2.2.1,y24.2.2.2]).map c3))::.bot::.c (.sl (([y26.1,y26.2.1,y26.2.2.1,y26.2.2.2]).map c3))::.ow 1088::bt 7 [])))),[(1088,.arr 3 1 ((((([]:List Int))++([y24.1,y24.2.1,y24.2.2.1,y24.2.2.2]))++([y26.1,y26.2.1,y26.2.2.1,y26.2.2.2])).map c3)),(112,.box [Ti y13.1.1,Ti y13.1.2.1,Ti y13.1.2.2]),(32,.box [Ti 0,Ti 0,Ti 0])]⟩)] (s1:=⟨bt 4 (.pt 32 0::bt 9 (.pt 112 0::bt 10 (.ow 1088::bt 122 []))),[(1088,.arr 3 1 (l29.map c3)),(112,.box [Ti y13.1.1,Ti y13.1.2.1,Ti y13.1.2.2]),(32,.box [Ti 0,Ti 0,Ti 0])]⟩) kk kk kk ?_ ?_
  ·refine zFu [3,1,0] kk kk ?_ ?_
   ·refine zBo (s2:=⟨bt 4 (.pt 32 0::bt 9 (.pt 112 0::bt 8 (.pe [Ti y24.1,Ti y24.2.1,Ti y24.2.2.1,Ti y24.2.2.2]::.pe [Ti y26.1,Ti y26.2.1,Ti y26.2.2.1,Ti y26.2.2.2]::bt 114 (.c (.sl (([y26.1,y26.2.1,y26.2.2.1,y26.2.2.2]).map c3))::bt 8 [])))),[(112,.box [Ti y13.1.1,Ti y13.1.2.1,Ti y13.1.2.2]),(32,.box [Ti 0,Ti 0,Ti 0])]⟩) rfl rfl (zAn rfl (zFN (c:=c3) (xs:=[y26.1,y26.2.1,y26.2.2.1,y26.2.2.2]) Tryz.underlying144 sz3 (fun _=>rfl) (by decide) rfl rfl kk)) kk rfl (qZ kk (qZ kk zFA)) ?_
    refine zBo (s2:=⟨bt 4 (.pt 32 0::bt 9 (.pt 112 0::bt 8 (.pe [Ti y24.1,Ti y24.2.1,Ti y24.2.2.1,Ti y24.2.2.2]::.pe [Ti y26.1,Ti y26.2.1,Ti y26.2.2.1,Ti y26.2.2.2]::bt 112 (.c (.sl (([y24.1,y24.2.1,y24.2.2.1,y24.2.2.2]).map c3))::bt 10 [])))),[(112,.box [Ti y13.1.1,Ti y13.1.2.1,Ti y13.1.2.2]),(32,.box [Ti 0,Ti 0,Ti 0])]⟩) rfl rfl (zAn rfl (zFN (c:=c3) (xs:=[y24.1,y24.2.1,y24.2.2.1,y24.2.2.2]) Tryz.underlying144 sz3 (fun _=>rfl) (by decide) rfl rfl kk)) kk rfl (qZ kk (qZ kk zFA)) ?_
    refine zBo (s2:=⟨bt 4 (.pt 32 0::bt 9 (.pt 112 0::bt 8 (.pe [Ti y24.1,Ti y24.2.1,Ti y24.2.2.1,Ti y24.2.2.2]::.pe [Ti y26.1,Ti y26.2.1,Ti y26.2.2.1,Ti y26.2.2.2]::bt 111 (.ow 1088::bt 11 [])))),[(1088,.arr 3 1 ((([]:List Int)).map c3)),(112,.box [Ti y13.1.1,Ti y13.1.2.1,Ti y13.1.2.2]),(32,.box [Ti 0,Ti 0,Ti 0])]⟩) rfl rfl (zE1 rfl (zDD Tryz.underlying50 sz3 (by decide) rfl rfl)) kk rfl (qZ kk (qZ kk (qZ kk zFA))) ?_
    exact zEq
   refine zFu [3,1] kk kk ?_ ?_
   ·refine zBo (s2:=⟨bt 4 (.pt 32 0::bt 9 (.pt 112 0::bt 8 (.pe [Ti y24.1,Ti y24.2.1,Ti y24.2.2.1,Ti y24.2.2.2]::.pe [Ti y26.1,Ti y26.2.1,Ti y26.2.2.1,Ti y26.2.2.2]::bt 111 (.ow 1088::.bot::.bot::.c (.sl (([y26.1,y26.2.1,y26.2.2.1,y26.2.2.2]).map c3))::bt 8 [])))),[(1088,.arr 3 1 ((([]:List Int)).map c3)),(112,.box [Ti y13.1.1,Ti y13.1.2.1,Ti y13.1.2.2]),(32,.box [Ti 0,Ti 0,Ti 0])]⟩) rfl rfl (zAn rfl (zFN (c:=c3) (xs:=[y26.1,y26.2.1,y26.2.2.1,y26.2.2.2]) Tryz.underlying144 sz3 (fun _=>rfl) (by decide) rfl rfl kk)) kk rfl (qZ kk (qZ kk (qZ kk zFA))) ?_
    refine zBo (s2:=⟨bt 4 (.pt 32 0::bt 9 (.pt 112 0::bt 8 (.pe [Ti y24.1,Ti y24.2.1,Ti y24.2.2.1,Ti y24.2.2.2]::.pe [Ti y26.1,Ti y26.2.1,Ti y26.2.2.1,Ti y26.2.2.2]::bt 111 (.ow 1088::.c (.sl (([y24.1,y24.2.1,y24.2.2.1,y24.2.2.2]).map c3))::bt 10 [])))),[(1088,.arr 3 1 ((([]:List Int)).map c3)),(112,.box [Ti y13.1.1,Ti y13.1.2.1,Ti y13.1.2.2]),(32,.box [Ti 0,Ti 0,Ti 0])]⟩) rfl rfl (zAn rfl (zFN (c:=c3) (xs:=[y24.1,y24.2.1,y24.2.2.1,y24.2.2.2]) Tryz.underlying144 sz3 (fun _=>rfl) (by decide) rfl rfl kk)) kk rfl (qZ kk (qZ kk (qZ kk zFA))) ?_
    exact zEq
   refine zFu [3,0] kk kk ?_ ?_
   ·refine zBo (s2:=⟨bt 4 (.pt 32 0::bt 9 (.pt 112 0::bt 8 (.pe [Ti y24.1,Ti y24.2.1,Ti y24.2.2.1,Ti y24.2.2.2]::.pe [Ti y26.1,Ti y26.2.1,Ti y26.2.2.1,Ti y26.2.2.2]::bt 112 (.c (.sl (([y24.1,y24.2.1,y24.2.2.1,y24.2.2.2]).map c3))::.bot::.c (.sl (([y26.1,y26.2.1,y26.2.2.1,y26.2.2.2]).map c3))::bt 8 [])))),[(112,.box [Ti y13.1.1,Ti y13.1.2.1,Ti y13.1.2.2]),(32,.box [Ti 0,Ti 0,Ti 0])]⟩) rfl rfl (zAn rfl (zFN (c:=c3) (xs:=[y26.1,y26.2.1,y26.2.2.1,y26.2.2.2]) Tryz.underlying144 sz3 (fun _=>rfl) (by decide) rfl rfl kk)) kk rfl (qZ kk (qZ kk zFA)) ?_
    refine zBo (s2:=⟨bt 4 (.pt 32 0::bt 9 (.pt 112 0::bt 8 (.pe [Ti y24.1,Ti y24.2.1,Ti y24.2.2.1,Ti y24.2.2.2]::.pe [Ti y26.1,Ti y26.2.1,Ti y26.2.2.1,Ti y26.2.2.2]::bt 111 (.ow 1088::.c (.sl (([y24.1,y24.2.1,y24.2.2.1,y24.2.2.2]).map c3))::bt 10 [])))),[(1088,.arr 3 1 ((([]:List Int)).map c3)),(112,.box [Ti y13.1.1,Ti y13.1.2.1,Ti y13.1.2.2]),(32,.box [Ti 0,Ti 0,Ti 0])]⟩) rfl rfl (zE1 rfl (zDD Tryz.underlying50 sz3 (by decide) rfl rfl)) kk rfl (qZ kk (qZ kk (qZ kk zFA))) ?_
    exact zEq
   refine zFu [3,2] kk kk ?_ ?_
   ·refine zBo (s2:=⟨bt 4 (.pt 32 0::bt 9 (.pt 112 0::bt 8 (.pe [Ti y24.1,Ti y24.2.1,Ti y24.2.2.1,Ti y24.2.2.2]::.pe [Ti y26.1,Ti y26.2.1,Ti y26.2.2.1,Ti y26.2.2.2]::bt 111 (.ow 1088::.c (.sl (([y24.1,y24.2.1,y24.2.2.1,y24.2.2.2]).map c3))::.bot::.c (.sl (([y26.1,y26.2.1,y26.2.2.1,y26.2.2.2]).map c3))::bt 8 [])))),[(1088,.arr 3 1 ((([]:List Int)).map c3)),(112,.box [Ti y13.1.1,Ti y13.1.2.1,Ti y13.1.2.2]),(32,.box [Ti 0,Ti 0,Ti 0])]⟩) rfl rfl (zAn rfl (zFN (c:=c3) (xs:=[y26.1,y26.2.1,y26.2.2.1,y26.2.2.2]) Tryz.underlying144 sz3 (fun _=>rfl) (by decide) rfl rfl kk)) kk rfl (qZ kk (qZ kk (qZ kk zFA))) ?_
    refine zBo (s2:=⟨bt 4 (.pt 32 0::bt 9 (.pt 112 0::bt 8 (.pe [Ti y24.1,Ti y24.2.1,Ti y24.2.2.1,Ti y24.2.2.2]::.pe [Ti y26.1,Ti y26.2.1,Ti y26.2.2.1,Ti y26.2.2.2]::bt 112 (.c (.sl (([y24.1,y24.2.1,y24.2.2.1,y24.2.2.2]).map c3))::.ow 1088::bt 9 [])))),[(1088,.arr 3 1 (((([]:List Int))++([y24.1,y24.2.1,y24.2.2.1,y24.2.2.2])).map c3)),(112,.box [Ti y13.1.1,Ti y13.1.2.1,Ti y13.1.2.2]),(32,.box [Ti 0,Ti 0,Ti 0])]⟩) rfl rfl (zEI (c:=c3) (xs:=([]:List Int)) (ys:=[y24.1,y24.2.1,y24.2.2.1,y24.2.2.2]) (id:=1088) (z:=zv3) rfl rfl Tryz.underlying50 izb3 rfl kk kk kk (fun _=>rfl) (by simp) (zDd hu27) (by decide)) kk rfl (qZ kk (qZ kk (qZ kk zFA))) ?_
    exact zEq
   refine zFu [3] kk kk ?_ ?_
   ·refine zBo (s2:=⟨bt 4 (.pt 32 0::bt 9 (.pt 112 0::bt 8 (.pe [Ti y24.1,Ti y24.2.1,Ti y24.2.2.1,Ti y24.2.2.2]::.pe [Ti y26.1,Ti y26.2.1,Ti y26.2.2.1,Ti y26.2.2.2]::bt 112 (.c (.sl (([y24.1,y24.2.1,y24.2.2.1,y24.2.2.2]).map c3))::.ow 1088::.c (.sl (([y26.1,y26.2.1,y26.2.2.1,y26.2.2.2]).map c3))::bt 8 [])))),[(1088,.arr 3 1 (((([]:List Int))++([y24.1,y24.2.1,y24.2.2.1,y24.2.2.2])).map c3)),(112,.box [Ti y13.1.1,Ti y13.1.2.1,Ti y13.1.2.2]),(32,.box [Ti 0,Ti 0,Ti 0])]⟩) rfl rfl (zAn rfl (zFN (c:=c3) (xs:=[y26.1,y26.2.1,y26.2.2.1,y26.2.2.2]) Tryz.underlying144 sz3 (fun _=>rfl) (by decide) rfl rfl kk)) kk rfl (qZ kk (qZ kk (qZ kk zFA))) ?_
    exact zEq
   refine zFu [1,0] kk kk ?_ ?_
   ·refine zBo (s2:=⟨bt 4 (.pt 32 0::bt 9 (.pt 112 0::bt 8 (.pe [Ti y24.1,Ti y24.2.1,Ti y24.2.2.1,Ti y24.2.2.2]::.pe [Ti y26.1,Ti y26.2.1,Ti y26.2.2.1,Ti y26.2.2.2]::bt 112 (.c (.sl (([y24.1,y24.2.1,y24.2.2.1,y24.2.2.2]).map c3))::.bot::.c (.sl (([y26.1,y26.2.1,y26.2.2.1,y26.2.2.2]).map c3))::bt 8 [])))),[(112,.box [Ti y13.1.1,Ti y13.1.2.1,Ti y13.1.2.2]),(32,.box [Ti 0,Ti 0,Ti 0])]⟩) rfl rfl (zAn rfl (zFN (c:=c3) (xs:=[y24.1,y24.2.1,y24.2.2.1,y24.2.2.2]) Tryz.underlying144 sz3 (fun _=>rfl) (by decide) rfl rfl kk)) kk rfl (qZ kk (qZ kk zFA)) ?_
    refine zBo (s2:=⟨bt 4 (.pt 32 0::bt 9 (.pt 112 0::bt 8 (.pe [Ti y24.1,Ti y24.2.1,Ti y24.2.2.1,Ti y24.2.2.2]::.pe [Ti y26.1,Ti y26.2.1,Ti y26.2.2.1,Ti y26.2.2.2]::bt 111 (.ow 1088::.bot::.bot::.c (.sl (([y26.1,y26.2.1,y26.2.2.1,y26.2.2.2]).map c3))::bt 8 [])))),[(1088,.arr 3 1 ((([]:List Int)).map c3)),(112,.box [Ti y13.1.1,Ti y13.1.2.1,Ti y13.1.2.2]),(32,.box [Ti 0,Ti 0,Ti 0])]⟩) rfl rfl (zE1 rfl (zDD Tryz.underlying50 sz3 (by decide) rfl rfl)) kk rfl (qZ kk (qZ kk (qZ kk zFA))) ?_
    exact zEq
   refine zFu [1] kk kk ?_ ?_
   ·refine zBo (s2:=⟨bt 4 (.pt 32 0::bt 9 (.pt 112 0::bt 8 (.pe [Ti y24.1,Ti y24.2.1,Ti y24.2.2.1,Ti y24.2.2.2]::.pe [Ti y26.1,Ti y26.2.1,Ti y26.2.2.1,Ti y26.2.2.2]::bt 111 (.ow 1088::.c (.sl (([y24.1,y24.2.1,y24.2.2.1,y24.2.2.2]).map c3))::.bot::.c (.sl (([y26.1,y26.2.1,y26.2.2.1,y26.2.2.2]).map c3))::bt 8 [])))),[(1088,.arr 3 1 ((([]:List Int)).map c3)),(112,.box [Ti y13.1.1,Ti y13.1.2.1,Ti y13.1.2.2]),(32,.box [Ti 0,Ti 0,Ti 0])]⟩) rfl rfl (zAn rfl (zFN (c:=c3) (xs:=[y24.1,y24.2.1,y24.2.2.1,y24.2.2.2]) Tryz.underlying144 sz3 (fun _=>rfl) (by decide) rfl rfl kk)) kk rfl (qZ kk (qZ kk (qZ kk zFA))) ?_
    exact zEq
   refine zFu [0] kk kk ?_ ?_
   ·refine zBo (s2:=⟨bt 4 (.pt 32 0::bt 9 (.pt 112 0::bt 8 (.pe [Ti y24.1,Ti y24.2.1,Ti y24.2.2.1,Ti y24.2.2.2]::.pe [Ti y26.1,Ti y26.2.1,Ti y26.2.2.1,Ti y26.2.2.2]::bt 111 (.ow 1088::.c (.sl (([y24.1,y24.2.1,y24.2.2.1,y24.2.2.2]).map c3))::.bot::.c (.sl (([y26.1,y26.2.1,y26.2.2.1,y26.2.2.2]).map c3))::bt 8 [])))),[(1088,.arr 3 1 ((([]:List Int)).map c3)),(112,.box [Ti y13.1.1,Ti y13.1.2.1,Ti y13.1.2.2]),(32,.box [Ti 0,Ti 0,Ti 0])]⟩) rfl rfl (zE1 rfl (zDD Tryz.underlying50 sz3 (by decide) rfl rfl)) kk rfl (qZ kk (qZ kk (qZ kk zFA))) ?_
    exact zEq
   refine zFu [2] kk kk ?_ ?_
   ·refine zBo (s2:=⟨bt 4 (.pt 32 0::bt 9 (.pt 112 0::bt 8 (.pe [Ti y24.1,Ti y24.2.1,Ti y24.2.2.1,Ti y24.2.2.2]::.pe [Ti y26.1,Ti y26.2.1,Ti y26.2.2.1,Ti y26.2.2.2]::bt 112 (.c (.sl (([y24.1,y24.2.1,y24.2.2.1,y24.2.2.2]).map c3))::.ow 1088::.c (.sl (([y26.1,y26.2.1,y26.2.2.1,y26.2.2.2]).map c3))::bt 8 [])))),[(1088,.arr 3 1 (((([]:List Int))++([y24.1,y24.2.1,y24.2.2.1,y24.2.2.2])).map c3)),(112,.box [Ti y13.1.1,Ti y13.1.2.1,Ti y13.1.2.2]),(32,.box [Ti 0,Ti 0,Ti 0])]⟩) rfl rfl (zEI (c:=c3) (xs:=([]:List Int)) (ys:=[y24.1,y24.2.1,y24.2.2.1,y24.2.2.2]) (id:=1088) (z:=zv3) rfl rfl Tryz.underlying50 izb3 rfl kk kk kk (fun _=>rfl) (by simp) (zDd hu27) (by decide)) kk rfl (qZ kk (qZ kk (qZ kk zFA))) ?_
    exact zEq
   refine zFu [4] kk kk ?_ ?_
   ·refine zBo (s2:=⟨bt 4 (.pt 32 0::bt 9 (.pt 112 0::bt 8 (.pe [Ti y24.1,Ti y24.2.1,Ti y24.2.2.1,Ti y24.2.2.2]::.pe [Ti y26.1,Ti y26.2.1,Ti y26.2.2.1,Ti y26.2.2.2]::bt 112 (.c (.sl (([y24.1,y24.2.1,y24.2.2.1,y24.2.2.2]).map c3))::.bot::.c (.sl (([y26.1,y26.2.1,y26.2.2.1,y26.2.2.2]).map c3))::.ow 1088::bt 7 [])))),[(1088,.arr 3 1 ((((([]:List Int))++([y24.1,y24.2.1,y24.2.2.1,y24.2.2.2]))++([y26.1,y26.2.1,y26.2.2.1,y26.2.2.2])).map c3)),(112,.box [Ti y13.1.1,Ti y13.1.2.1,Ti y13.1.2.2]),(32,.box [Ti 0,Ti 0,Ti 0])]⟩) rfl rfl (zEI (c:=c3) (xs:=(([]:List Int))++([y24.1,y24.2.1,y24.2.2.1,y24.2.2.2])) (ys:=[y26.1,y26.2.1,y26.2.2.1,y26.2.2.2]) (id:=1088) (z:=zv3) rfl rfl Tryz.underlying50 izb3 rfl kk kk kk (fun _=>rfl) (by simp) (zDd hu28) (by decide)) kk rfl (qZ kk (qZ kk (qZ kk zFA))) ?_
    exact zEq
   refine zFu [5] kk kk ?_ ?_
   ·refine zBo (s2:=⟨bt 4 (.pt 32 0::bt 9 (.pt 112 0::bt 8 (.pe [Ti y24.1,Ti y24.2.1,Ti y24.2.2.1,Ti y24.2.2.2]::.pe [Ti y26.1,Ti y26.2.1,Ti y26.2.2.1,Ti y26.2.2.2]::.ow 1088::bt 111 (.c (.sl (([y24.1,y24.2.1,y24.2.2.1,y24.2.2.2]).map c3))::.bot::.c (.sl (([y26.1,y26.2.1,y26.2.2.1,y26.2.2.2]).map c3))::.ow 1088::bt 7 [])))),[(1088,.arr 3 1 ((((([]:List Int))++([y24.1,y24.2.1,y24.2.2.1,y24.2.2.2]))++([y26.1,y26.2.1,y26.2.2.1,y26.2.2.2])).map c3)),(112,.box [Ti y13.1.1,Ti y13.1.2.1,Ti y13.1.2.2]),(32,.box [Ti 0,Ti 0,Ti 0])]⟩) rfl rfl (zAn rfl (z6H (.ow 1088) rfl kk)) kk rfl (qZ kk (qZ kk (qZ kk zFA))) ?_
    exact zEq
   refine z3m kk ?_ z6R
   subst hl29
   kernel_rfl
  refine zV ?_
  obtain⟨y30,hy30,h⟩:=zA h;refine VS ?_
  refine YR 1 ?_
  refine L1 rfl rfl (zVE (zCD hy30) zBm rfl kk rfl rfl) ?_
  refine YF ?_
  refine VC h (fun h=>?_) (fun h=>?_)
  ·refine VS ?_
   refine L0 rfl rfl (zBj (cs:=[Ti 0,Ti 0,Ti 0]) pl25 bt25 rfl rfl kk) ?_
   refine L1 rfl rfl (zDD Tryz.underlying50 sz3 (by decide) rfl rfl) ?_
   refine YF ?_
   cases h;exact zBW VT
  ·refine qV ?_
   show V _ _ _ _;refine VE ?_
   cases h;exact zBW VT
def zKZ(f1:τF)(g2:τF):=fC zJZ (zAK f1 g2) fun _=>zJw
theorem zH9:CfW qf 21:=cfW Tryz.func21
noncomputable def zHm(f1:τF)(g2:τF):T qf ((qd×Bool)):=
 .op1 (zKZ f1 g2) fun y3=>
 .cond (!y3.2.2) (
 .ret (((⟨#[]⟩:qd),false)))<|.draw 8 []<|.op1 (zAW f1) fun y5=>.op1 (zAW g2) fun y6=>.op1 (zAW y3.1) fun y7=>.n1 bsl<|
 .n0 (lenM ct3 y3.2.1)<|
 .loop (fun n X_1=>zA3 y3 n X_1.1 X_1.2) ((0,[y5,y6,y7])) (mb 42 1879048704) [216,121] (fun s X_1 γ=>s.pc (mb 42 1879048704) [216,121] [(30,I X_1.1)] [(216,.arr 9 1 (X_1.2.map c9))]) (fun X_1=>
 .cond (ltI X_1.1 ((y3.2.1.length:Int))) (.op0 (zDI ct3 y3.2.1 X_1.1) fun e13=>.op0 (ldo ct3 y3.2.1 X_1.1) fun e14=>
 .op1 (jC e14) fun y15=>.n1 bsl<|.opx (app ct9 X_1.2 ([y15])) fun u16=>
 .frc (w64 (X_1.1+1)) fun t17=>.ret (.inl ((t17,X_1.2++([y15])))))<|.ret (.inr X_1.2)) (mb 42 512) [216] (fun s o11 γ=>s.pc (mb 42 512) [216] [] [(216,.arr 9 1 (o11.map c9))]) fun o11=>
 .op1 (zBX ((⟨#[99,111,109,112,111,115,105,116,101]⟩:qd)) o11) fun y18=>
 .ret ((y18,true))
theorem zHq{f1:τF}{g2:τF}{r:(qd×Bool)}(h:qF f1 g2=some r):zH qf 21 [.ag [Ti f1.1,Ti f1.2.1,Ti f1.2.2],.ag [Ti g2.1,Ti g2.2.1,Ti g2.2.2]] (.tc (.c (.v (.string r.1))) (.tc (Bo r.2) .tn)) []:=CtT (zHm f1 g2) (fun r=>(.tc (.c (.v (.string r.1))) (.tc (Bo r.2) .tn),[])) (rs:=[.t 4,.t 5]) (vs:=[.tmp 4,.tmp 5]) Tryz.func21 rfl rfl (.cons rfl (.cons rfl FitsL.nil)) h
theorem zS3:CfW qf 71:=cfW Tryz.func71
noncomputable def zTW(f1:τF):T qf ((Int×Bool)):=
 .op1 (zE5 f1) fun y2=>
 .cond (!y2) (
 .ret ((0,false)))<|.op1 (zMm f1) fun y4=>
 .ret ((y4,true))
theorem zTs{f1:τF}{r:(Int×Bool)}(h:zBg f1=some r):zH qf 71 [.ag [Ti f1.1,Ti f1.2.1,Ti f1.2.2]] (.tc (I r.1) (.tc (Bo r.2) .tn)) []:=CtT (zTW f1) (fun r=>(.tc (I r.1) (.tc (Bo r.2) .tn),[])) (rs:=[.t 2,.t 3]) (vs:=[.tmp 2,.tmp 3]) Tryz.func71 rfl rfl (.cons rfl (.cons rfl FitsL.nil)) h
def zVX(f1:τF):=fC zS3 (zBg f1) fun _=>zTs
theorem zJY:CfW qf 23:=cfW Tryz.func23
noncomputable def zJh(f1:τF):T qf ((qd×Bool)):=
 .op1 (zVX f1) fun y2=>
 .cond (!y2.2) (
 .ret (((⟨#[]⟩:qd),false)))<|.op1 (zAW f1) fun y4=>.op1 (jC y2.1) fun y5=>.n1 bsl<|.op1 (zBX ((⟨#[111,114,100,101,114]⟩:qd)) ([y4,y5])) fun y6=>
 .ret ((y6,true))
theorem zJv{f1:τF}{r:(qd×Bool)}(h:jR f1=some r):zH qf 23 [.ag [Ti f1.1,Ti f1.2.1,Ti f1.2.2]] (.tc (.c (.v (.string r.1))) (.tc (Bo r.2) .tn)) []:=CtT (zJh f1) (fun r=>(.tc (.c (.v (.string r.1))) (.tc (Bo r.2) .tn),[])) (rs:=[.t 2,.t 3]) (vs:=[.tmp 2,.tmp 3]) Tryz.func23 rfl rfl (.cons rfl (.cons rfl FitsL.nil)) h
theorem zHw:CfW qf 75:=cfW Tryz.func75
noncomputable def zIM(code1:List Int):T qf Int:=
 .n0 (bld pl57 bt57)<|
 .opx (zLn ((code1,0,0))) fun y2=>
 .ret y2.1
theorem zIU{code1:List Int}{r:Int}(h:zCG code1=some r):zH qf 75 [.c (.sl (code1.map c5))] (I r) []:=CtU (zIM code1) 2 (fun r=>I r) Tryz.func75 rfl rfl h
def zIa(code1:List Int):=fC zHw (zCG code1) fun _=>zIU
theorem zHv:CfW qf 25:=cfW Tryz.func25
noncomputable def zIL(code1:List Int):T qf Int:=
 .op1 (zIa code1) fun y2=>
 .ret y2
theorem zIT{code1:List Int}{r:Int}(h:zBN code1=some r):zH qf 25 [.c (.sl (code1.map c5))] (I r) []:=CtU (zIL code1) 2 (fun r=>I r) Tryz.func25 rfl rfl h
theorem zLD:CfW qf 155:=cfW Tryz.func155
noncomputable def zL5(d1:Int):T qf Bool:=
 .pl<|.joinC (.selB (leI 5 d1) true [] fun w_2=>.seqT (.cond (bif w_2 then (leI d1 1000) else false) (.op1 (zE4 d1 4) fun y4=>.ret (leI y4 1)) (.ret false)) fun b5=>.seqT (.cond b5 (.op1 (zLY d1) fun y7=>.ret (!y7)) (.ret false)) fun b8=>.ret (w_2,b5,b8)) (mb 19 4) [] (fun s q_3 γ=>s.pc (mb 19 4) [] [(2,Bo q_3.2.2)] []) fun q_3=>
 .ret q_3.2.2
theorem zLc{d1:Int}{r:Bool}(h:zA5 d1=some r):zH qf 155 [I d1] (Bo r) []:=CtU (zL5 d1) 2 (fun r=>Bo r) Tryz.func155 rfl rfl h
def zLo(d1:Int):=fC zLD (zA5 d1) fun _=>zLc
theorem zY3:CfW qf 255:=cfW Tryz.func255
theorem zZJ{x1:Nat}{r:Nat}(h:zHC x1=some r):zH qf 255 [.c (.v (.float .f64 x1))] (.c (.v (.float .f64 r))) []:=by
 refine CtW [2] Tryz.func255 rfl rfl 5 ?_
 unfold zHC at h;refine VE ?_
 obtain⟨q2,hq2,h⟩:=zA h;refine VS ?_
 refine YR 1 ?_
 refine L0 rfl rfl (z5n (b:=x1) (r:=q2) z9K rfl kk hq2) ?_
 refine YF ?_
 cases h;exact zBW VT
theorem zSW:CfW qf 256:=cfW Tryz.func256
noncomputable def zTO(vs1:(Int×Int)):T qf Bool:=
 .pl<|.joinC (.op1 (zOe vs1.1) fun y2=>.seqT (.cond (leI y2 100000000) (.n1 bsl<|.op1 (zEp ([vs1.2])) fun y4=>.ret y4) (.ret false)) fun b5=>.ret (y2,b5)) (mb 13 4) [] (fun s q_1 γ=>s.pc (mb 13 4) [] [(2,Bo q_1.2)] []) fun q_1=>
 .ret q_1.2
theorem zTj{vs1:(Int×Int)}{r:Bool}(h:zGC vs1=some r):zH qf 256 [.ag [Ti vs1.1,Ti vs1.2]] (Bo r) []:=CtU (zTO vs1) 2 (fun r=>Bo r) Tryz.func256 rfl rfl h
theorem zLi:CfW qf 214:=cfW Tryz.func214
theorem zMG{d1:Int}{side2:Int}{most3:Int}{r:((Int×Int)×Bool)}(h:zBQ d1 side2 most3=some r):zH qf 214 [I d1,I side2,I most3] (.tc (.ag [Ti r.1.1,Ti r.1.2]) (.tc (Bo r.2) .tn)) []:=by
 refine zEA (rs:=[.w 6 2,.t 7]) (vs:=[.cell 6 97,.tmp 7]) Tryz.func214 rfl rfl (.cons ⟨rfl,wd97⟩ (.cons rfl FitsL.nil)) (by decide) 45 rfl ?_
 unfold zBQ at h;refine VE ?_
 refine zV ?_
 refine VE ?_
 obtain⟨qo6,hLo6,hko6⟩:=zA h;refine z6A (q:=qo6) (S:=fun o6=>⟨bt 6 (.pt 48 0::bt 38 []),[(48,.box [Ti 0,Ti 0])]⟩) (mb 45 64) [48] ?_ ?_
 ·refine qA (zMe (fun n s=>∃(u4:Int),s.keep (mb 45 327) [48]=(⟨I d1::I side2::I most3::bt 3 (.pt 48 0::.bot::I u4::bt 36 []),[(48,.box [Ti 0,Ti 0])]⟩:St)∧zAJ d1 most3 side2 n u4=some qo6) FU ⟨_,kk,hLo6⟩ ?_);clear hLo6;rintro n s ⟨u4,hs,h⟩;refine jV _ _ hs ?_
  clear hs;cases n with
  |zero=>cases h
  |succ n=>
   rw[zAJ]at h;refine zV ?_
   refine VE ?_
   refine VC h (fun h=>?_) (fun h=>?_)
   ·refine qV ?_
    show V _ _ _ _;refine zV ?_
    refine qA ?_
    obtain⟨square8,hsquare8,h⟩:=zEL h;refine zDL (mb 45 839) [48] (s1:=⟨I d1::I side2::I most3::bt 3 (.pt 48 0::.bot::I u4::I square8::bt 35 []),[(48,.box [Ti 0,Ti 0])]⟩) ?_ ?_
    ·refine XR 8 ?_
     refine qN ?_
     subst hsquare8
     kernel_rfl
    obtain⟨y9,hy9,h⟩:=zA h;obtain⟨t10,ht10,h⟩:=zA h;refine VS ?_
    refine YR 1 ?_
    refine L0 rfl rfl (z5e (a:=square8) (b:=0) rfl kk kk) ?_
    refine L0 rfl rfl (z7S (k2:=.i64) (a:=mxI square8 0) Tryz.underlying3 Tryz.underlying206 rfl kk) ?_
    refine YK 0 (zZJ hy9) zY3 ?_
    refine L0 rfl rfl (z7W (b:=y9) (a:=t10) Tryz.underlying206 Tryz.underlying3 rfl kk ht10) ?_
    refine YF ?_
    obtain⟨t12,ht12,h⟩:=zA h;have ht12:=zD ht12;refine zDL (mb 45 137438954823) [48] (s1:=⟨I d1::I side2::I most3::bt 3 (.pt 48 0::.bot::I u4::.bot::I t10::bt 26 (Bo t12::bt 7 [])),[(48,.box [Ti 0,Ti 0])]⟩) ?_ ?_
    ·refine YR 3 ?_
     refine zBB (ltI 0 t10) (fun hc11=>?_) (fun hc11=>?_)
     ·refine YQ hc11 ?_
      exact YE (by rw[←ht12];(try rw[hc11]);kernel_rfl)
     ·refine YQ hc11 ?_
      exact YE (by rw[←ht12];(try rw[hc11]);kernel_rfl)
    refine VC h (fun h=>?_) (fun h=>?_)
    ·refine VS ?_
     refine YR 2 ?_
     refine L0 rfl rfl (zBj (cs:=[Ti t10,Ti u4]) pl97 bt97 rfl rfl kk) ?_
     refine YF ?_
     obtain⟨y14,hy14,h⟩:=zA h;refine VDS [0,0,2,7,15] 3 (cdm 3 [40,2,6]) ?_
     refine EK 2 (zTj hy14) zSW ?_
     refine EF 0 ?_
     refine zBW ?_
     obtain rfl:=zD h;have h:=hko6;obtain rfl:=zD h;exact VT
    ·refine qV ?_
     show V _ _ _ _;obtain⟨u15,hu15,h⟩:=zEL h;refine zPu (mb 45 327) [48] (s1:=⟨I d1::I side2::I most3::bt 3 (.pt 48 0::.bot::I u15::bt 36 []),[(48,.box [Ti 0,Ti 0])]⟩) ?_ ?_
     ·refine XR 3 ?_
      refine qN ?_
      subst hu15
      kernel_rfl
     exact⟨n,zi n,_,kk,h⟩
   ·refine zFU ?_
    obtain rfl:=zD h;exact⟨_,rfl,kk⟩
 rintro o6 rfl;have h:=hko6;clear hko6;show V _ _ _ _;refine VS ?_
 refine L0 rfl rfl (zBj (cs:=[Ti 0,Ti 0]) pl97 bt97 rfl rfl kk) ?_
 refine YF ?_
 cases h;exact zBW VT
def zMn(d1:Int)(side2:Int)(most3:Int):=fC zLi (zBQ d1 side2 most3) fun _=>zMG
theorem zRB:CfW qf 156:=cfW Tryz.func156
noncomputable def zRg(d1:Int):T qf (((Int×Int)×Bool)):=
 .op1 (zMn d1 4 1000000) fun y2=>
 .cond (!y2.2) (.n0 (bld pl97 bt97)<|
 .ret (((0,0),false)))<|
 .ret ((y2.1,true))
theorem zSA{d1:Int}{r:((Int×Int)×Bool)}(h:zDk d1=some r):zH qf 156 [I d1] (.tc (.ag [Ti r.1.1,Ti r.1.2]) (.tc (Bo r.2) .tn)) []:=CtT (zRg d1) (fun r=>(.tc (.ag [Ti r.1.1,Ti r.1.2]) (.tc (Bo r.2) .tn),[])) (rs:=[.w 2 2,.t 3]) (vs:=[.cell 2 97,.tmp 3]) Tryz.func156 rfl rfl (.cons ⟨rfl,wd97⟩ (.cons rfl FitsL.nil)) h
def zSc(d1:Int):=fC zRB (zDk d1) fun _=>zSA
theorem zRH:CfW qf 76:=cfW Tryz.func76
noncomputable def zRl(d1:Int):T qf (((Int×Int)×Bool)):=
 .op1 (zLo d1) fun y2=>
 .cond (!y2) (.n0 (bld pl97 bt97)<|
 .ret (((0,0),false)))<|.op1 (zSc d1) fun y4=>
 .ret ((y4.1,y4.2))
theorem zSG{d1:Int}{r:((Int×Int)×Bool)}(h:zAr d1=some r):zH qf 76 [I d1] (.tc (.ag [Ti r.1.1,Ti r.1.2]) (.tc (Bo r.2) .tn)) []:=CtT (zRl d1) (fun r=>(.tc (.ag [Ti r.1.1,Ti r.1.2]) (.tc (Bo r.2) .tn),[])) (rs:=[.w 2 2,.t 3]) (vs:=[.cell 2 97,.tmp 3]) Tryz.func76 rfl rfl (.cons ⟨rfl,wd97⟩ (.cons rfl FitsL.nil)) h
def zSd(d1:Int):=fC zRH (zAr d1) fun _=>zSG
theorem zKN:CfW qf 26:=cfW Tryz.func26
noncomputable def zK7(d1:Int):T qf ((qd×Bool)):=
 .op1 (zSd d1) fun y2=>
 .dn<|.joinC (.seqT (.cond (!y2.2) (.ret true) (.n1 bsl<|.op1 (zEp ([y2.1.1,y2.1.2])) fun y4=>.ret (!y4))) fun b5=>.ret b5) (mb 32 2097169) [32] (fun s q_1 γ=>s.pc (mb 32 2097169) [32] [(21,Bo q_1)] []) fun q_1=>
 .cond q_1 (
 .ret (((⟨#[]⟩:qd),false)))<|.draw 12 []<|.op1 (jC d1) fun y7=>.op1 (jC y2.1.1) fun y8=>.op1 (jC y2.1.2) fun y9=>.n1 bsl<|.op1 (zBX ((⟨#[115,111,108,117,116,105,111,110]⟩:qd)) ([y7,y8,y9])) fun y10=>
 .ret ((y10,true))
theorem zKh{d1:Int}{r:(qd×Bool)}(h:qJ d1=some r):zH qf 26 [I d1] (.tc (.c (.v (.string r.1))) (.tc (Bo r.2) .tn)) []:=CtT (zK7 d1) (fun r=>(.tc (.c (.v (.string r.1))) (.tc (Bo r.2) .tn),[])) (rs:=[.t 2,.t 3]) (vs:=[.tmp 2,.tmp 3]) Tryz.func26 rfl rfl (.cons rfl (.cons rfl FitsL.nil)) h
theorem zFt{f1 o6:List (τM)}{J:Exit→St→Prop}(hne:f1≠[])(h:zAO f1 FU 0 []=some o6):V qf (vloop Tryz.f160) ⟨bt 3 (.ow 56::bt 66 []),[(56,.arr 61 4 (f1.map c61))]⟩ (zOh (fun s'=>s'.keep (mb 70 8) [56]=⟨bt 3 (.ow 56::bt 66 []),[(56,.arr 61 4 ((f1++o6).map c61))]⟩) J):=by
  refine zDL (mb 70 492581209243656) [56] (s1:=⟨bt 3 (.ow 56::bt 42 (.vw 56 (f1.map c61) .whole::I ((f1.length:Int))::I 0::bt 21 [])),[(56,.arr 61 4 (f1.map c61))]⟩) ?_ ?_
  ·refine XR 2 ?_
   refine L0 rfl rfl (zHy (c:=c61) (xs:=f1) Tryz.underlying73 rfl kk) ?_
   refine XR 1 ?_
   refine L0 rfl rfl (zHy (c:=c61) (xs:=f1) Tryz.underlying73 rfl kk) ?_
   refine L0 rfl rfl (z56 (c:=c61) (xs:=f1) (id:=56) (T:=61) Tryz.underlying73 sz61 rfl kk kk hne kk kk) ?_
   refine L0 rfl rfl (z5j (c:=c61) (xs:=f1) (id:=56) Tryz.underlying73 rfl kk) ?_
   exact XE
  refine qA (zMe (fun n s=>∃(t3:Int) (l4:List (τM)),s.keep (mb 70 492581209243656) [56]=(⟨bt 3 (.ow 56::bt 42 (.vw 56 (f1.map c61) .whole::I ((f1.length:Int))::I t3::bt 21 [])),[(56,.arr 61 4 ((f1++l4).map c61))]⟩:St)∧zAO f1 n t3 l4=some o6) FU ⟨0,[],by rw[List.append_nil];rfl,h⟩ ?_);clear h;rintro n s ⟨t3,l4,hs,h⟩;refine jV _ _ hs ?_
  clear hs;cases n with
  |zero=>cases h
  |succ n=>
   rw[zAO]at h;refine V_e (mb 70 1055531162664968) [56] (s1:=⟨bt 3 (.ow 56::bt 42 (.vw 56 (f1.map c61) .whole::I ((f1.length:Int))::I t3::Bo (ltI t3 ((f1.length:Int)))::bt 20 [])),[(56,.arr 61 4 ((f1++l4).map c61))]⟩) ?_
   refine zV ?_
   refine zLI rfl (fun hc7=>?_) (fun hc7=>?_)
   ·have h:=zCW h hc7;refine qV ?_
    show V _ _ _ _;refine zV ?_
    refine qA ?_
    obtain⟨e8,he8,h⟩:=zA h;refine zDL (mb 70 492581209243688) [40,56] (s1:=⟨bt 3 (.ow 56::.bot::.pt 40 0::bt 40 (.vw 56 (f1.map c61) .whole::I ((f1.length:Int))::I t3::bt 21 [])),[(40,.box [Ti e8.1,Ti e8.2.1,Ti e8.2.2.1,Ti e8.2.2.2]),(56,.arr 61 4 ((f1++l4).map c61))]⟩) ?_ ?_
    ·refine L0 rfl rfl (z5k (c:=c61) (xs:=f1) (v:=e8) (n:=t3) (id:=56) Tryz.underlying73 sz61 (fun _=>rfl) rfl kk kk he8) ?_
     refine L0 rfl rfl (z3W (T:=61) (sz:=4) (c:=c61) (xs:=f1) (ys:=l4) (v:=e8) (n:=t3) (id:=56) [Ti e8.1,Ti e8.2.1,Ti e8.2.2.1,Ti e8.2.2.2] wd61 rfl kk kk he8 rfl rfl) ?_
     exact XE
    obtain⟨u9,hu9,h⟩:=zA h;refine zPu (mb 70 492581209243656) [56] (s1:=⟨bt 3 (.ow 56::bt 42 (.vw 56 (f1.map c61) .whole::I ((f1.length:Int))::I t3::bt 21 [])),[(56,.arr 61 4 ((f1++(l4++([(w64 (0 - e8.1),w64 (0 - e8.2.1),w64 (0 - e8.2.2.1),w64 (0 - e8.2.2.2))]))).map c61))]⟩) ?_ ?_
    ·refine XR 13 ?_
     refine L0 rfl rfl (zBj (cs:=[Ti (w64 (0 - e8.1)),Ti (w64 (0 - e8.2.1)),Ti (w64 (0 - e8.2.2.1)),Ti (w64 (0 - e8.2.2.2))]) pl61 bt61 rfl rfl kk) ?_
     refine L1 rfl rfl (zDW (z:=zv61) (els:=[(w64 (0 - e8.1),w64 (0 - e8.2.1),w64 (0 - e8.2.2.1),w64 (0 - e8.2.2.2))].map c61) Tryz.underlying73 iz61 rfl (by decide) rfl kk rfl (by simp[c61]) (by decide) (by decide)) ?_
     refine zB2 rfl (z1F (m:=.whole) (sz:=4) (c:=c61) (xs:=f1) (ys:=l4) (zs:=[(w64 (0 - e8.1),w64 (0 - e8.2.1),w64 (0 - e8.2.2.1),w64 (0 - e8.2.2.2))]) (id:=56) (z:=zv61) 46 rfl rfl Tryz.underlying73 zZl rfl kk kk kk (fun _=>rfl) (by simp) (zDd hu9) (by decide) kk (by decide)) ?_
     exact XE
    show V _ _ _ _;obtain⟨t11,ht11,h⟩:=zEL h;refine zPu (mb 70 492581209243656) [56] (s1:=⟨bt 3 (.ow 56::bt 42 (.vw 56 (f1.map c61) .whole::I ((f1.length:Int))::I t11::bt 21 [])),[(56,.arr 61 4 ((f1++(l4++([(w64 (0 - e8.1),w64 (0 - e8.2.1),w64 (0 - e8.2.2.1),w64 (0 - e8.2.2.2))]))).map c61))]⟩) ?_ ?_
    ·refine XR 2 ?_
     refine qN ?_
     subst ht11
     kernel_rfl
    exact⟨n,zi n,_,_,by rfl,h⟩
   ·have h:=jB h hc7;refine zFU ?_
    obtain rfl:=zD h;show St.keep _ _ _=_;rfl
theorem zO5:CfW qf 160:=cfW Tryz.func160
theorem zPR{f1:τF}{r:List τM}(h:zAZ f1=some r):zH qf 160 [.ag [Ti f1.1,Ti f1.2.1,Ti f1.2.2]] (.ow 0) [(0,.arr 61 4 (r.map c61))]:=by
  refine zEA (rs:=[.t 2]) (vs:=[.tmp 2]) Tryz.func160 rfl rfl (.cons rfl FitsL.nil) (by decide) 70 rfl ?_
  unfold zAZ at h;show V _ _ ⟨.ag [Ti f1.1,Ti f1.2.1,Ti f1.2.2]::bt 69 [],[]⟩ _;refine zDL (mb 70 2) [8] (s1:=⟨.bot::.pt 8 0::bt 68 [],[(8,.box [Ti f1.1,Ti f1.2.1,Ti f1.2.2])]⟩) ?_ ?_
  ·refine XR 1 ?_
   refine L1 rfl rfl (zRK (e:=61) 4 (by decide) (.inl rfl)) ?_
   exact XE
  obtain⟨y2,hy2,h⟩:=zA h;refine zDL (mb 70 10) [56,8] (s1:=⟨.bot::.pt 8 0::.bot::.ow 56::bt 66 [],[(56,.arr 61 4 (([y2]).map c61)),(8,.box [Ti f1.1,Ti f1.2.1,Ti f1.2.2])]⟩) ?_ ?_
  ·refine XC (zTi hy2) zR0 rfl rfl rfl ?_
   refine L1 rfl rfl (zDW (z:=zv61) (els:=[y2].map c61) Tryz.underlying73 iz61 rfl (by decide) rfl kk rfl (by simp[c61]) (by decide) (by decide)) ?_
   exact XE
  refine zV ?_
  refine qA ?_
  refine zDL (mb 70 266) [56,8] (s1:=⟨.bot::.pt 8 0::.bot::.ow 56::bt 4 (Bo (bif (eqI f1.1 f1.2.2) then (eqI f1.2.1 0) else false)::bt 61 []),[(56,.arr 61 4 (([y2]).map c61)),(8,.box [Ti f1.1,Ti f1.2.1,Ti f1.2.2])]⟩) ?_ ?_
  ·refine XR 6 ?_
   refine zBB (eqI f1.1 f1.2.2) (fun hc3=>?_) (fun hc3=>?_)
   ·refine zHM _ rfl rfl kk hc3 (zAn rfl (zSt (.pt 8 1) Tryz.underlying25 rfl sz3 rfl kk (by intro hh;cases hh))) ?_
    refine zHM _ rfl rfl kk hc3 (zAn rfl (zMd (c:=Ti f1.2.1) (cs:=[Ti f1.2.2]) sc3 rfl kk)) ?_
    refine zHM _ rfl rfl kk hc3 (zAn rfl (zRM (k:=.i64) (a:=f1.2.1) (b:=0) rfl kk kk)) ?_
    refine zB2 rfl (zAn rfl (z0I (b:=eqI f1.1 f1.2.2) (p:=eqI f1.2.1 0) (q:=false) rfl kk hc3 kk)) ?_
    exact XE
   ·refine zHN _ rfl rfl kk hc3 rfl ?_
    refine zHN _ rfl rfl kk hc3 rfl ?_
    refine zHN _ rfl rfl kk hc3 rfl ?_
    refine zB2 rfl (zAn rfl (z0J (b:=eqI f1.1 f1.2.2) (p:=eqI f1.2.1 0) (q:=false) rfl kk hc3 kk)) ?_
    exact XE
  refine zLI rfl (fun hc4=>?_) (fun hc4=>?_)
  ·have h:=zCW h hc4;obtain⟨u5,hu5,h⟩:=zA h;refine zPu (mb 70 8) [56] (s1:=⟨bt 3 (.ow 56::bt 66 []),[(56,.arr 61 4 ((([y2])++([(0,-1,1,0)])).map c61))]⟩) ?_ ?_
   ·refine XR 1 ?_
    refine L0 rfl rfl (zBj (cs:=[Ti 0,Ti (-1),Ti 1,Ti 0]) pl61 bt61 rfl rfl kk) ?_
    refine L1 rfl rfl (zDW (z:=zv61) (els:=[(0,-1,1,0)].map c61) Tryz.underlying73 iz61 rfl (by decide) rfl kk rfl (by simp[c61]) (by decide) (by decide)) ?_
    refine zB2 rfl (zEI (c:=c61) (xs:=[y2]) (ys:=[(0,-1,1,0)]) (id:=56) (z:=zv61) rfl rfl Tryz.underlying73 zZl rfl kk kk kk (fun _=>rfl) (by simp) (zDd hu5) (by decide)) ?_
    exact XE
   show V _ _ _ _;obtain⟨oV,hoV,h⟩:=zA h;refine jV (mb 70 8) [56] (s':=⟨bt 3 (.ow 56::bt 66 []),[(56,.arr 61 4 ((([y2])++([(0,-1,1,0)])).map c61))]⟩) (by rfl) ?_
   refine z1I (mb 70 8) [56] (zFt (by simp) hoV) ?_
   refine V_e (mb 70 4) [56] (s1:=⟨.bot::.bot::.ow 56::bt 67 [],[(56,.arr 61 4 (((([y2])++([(0,-1,1,0)]))++oV).map c61))]⟩) ?_
   refine zBW ?_
   obtain rfl:=zD h;show Post _ _ _ _ _;exact⟨.inr rfl,rfl,rfl,rfl⟩
  ·have h:=jB h hc4;refine zDL (mb 70 8388616) [56] (s1:=⟨bt 3 (.ow 56::bt 19 (Bo (bif (eqI f1.1 f1.2.2) then (eqI f1.2.1 f1.1) else false)::bt 46 [])),[(56,.arr 61 4 (([y2]).map c61))]⟩) ?_ ?_
   ·refine XR 6 ?_
    refine zBB (eqI f1.1 f1.2.2) (fun hc6=>?_) (fun hc6=>?_)
    ·refine zHM _ rfl rfl kk hc6 (zAn rfl (zSt (.pt 8 1) Tryz.underlying25 rfl sz3 rfl kk (by intro hh;cases hh))) ?_
     refine zHM _ rfl rfl kk hc6 (zAn rfl (zMd (c:=Ti f1.2.1) (cs:=[Ti f1.2.2]) sc3 rfl kk)) ?_
     refine zHM _ rfl rfl kk hc6 (zAn rfl (zSt (.pt 8 0) Tryz.underlying25 rfl sz3 rfl kk (by intro hh;cases hh))) ?_
     refine zHM _ rfl rfl kk hc6 (zAn rfl (zMd (c:=Ti f1.1) (cs:=[Ti f1.2.1,Ti f1.2.2]) sc3 rfl kk)) ?_
     refine zHM _ rfl rfl kk hc6 (zAn rfl (zRM (k:=.i64) (a:=f1.2.1) (b:=f1.1) rfl kk kk)) ?_
     refine zB2 rfl (zAn rfl (z0I (b:=eqI f1.1 f1.2.2) (p:=eqI f1.2.1 f1.1) (q:=false) rfl kk hc6 kk)) ?_
     exact XE
    ·refine zHN _ rfl rfl kk hc6 rfl ?_
     refine zHN _ rfl rfl kk hc6 rfl ?_
     refine zHN _ rfl rfl kk hc6 rfl ?_
     refine zHN _ rfl rfl kk hc6 rfl ?_
     refine zHN _ rfl rfl kk hc6 rfl ?_
     refine zB2 rfl (zAn rfl (z0J (b:=eqI f1.1 f1.2.2) (p:=eqI f1.2.1 f1.1) (q:=false) rfl kk hc6 kk)) ?_
     exact XE
   refine zLI rfl (fun hc7=>?_) (fun hc7=>?_)
   ·have h:=zCW h hc7;obtain⟨u8,hu8,h⟩:=zA h;refine zPu (mb 70 8) [56] (s1:=⟨bt 3 (.ow 56::bt 66 []),[(56,.arr 61 4 ((([y2])++([(0,-1,1,1),(1,1,-1,0)])).map c61))]⟩) ?_ ?_
    ·refine XR 1 ?_
     refine L0 rfl rfl (zBj (cs:=[Ti 0,Ti (-1),Ti 1,Ti 1]) pl61 bt61 rfl rfl kk) ?_
     refine L0 rfl rfl (zBj (cs:=[Ti 1,Ti 1,Ti (-1),Ti 0]) pl61 bt61 rfl rfl kk) ?_
     refine L1 rfl rfl (zDW (z:=zv61) (els:=[(0,-1,1,1),(1,1,-1,0)].map c61) Tryz.underlying73 iz61 rfl (by decide) rfl kk rfl (by simp[c61]) (by decide) (by decide)) ?_
     refine zB2 rfl (zEI (c:=c61) (xs:=[y2]) (ys:=[(0,-1,1,1),(1,1,-1,0)]) (id:=56) (z:=zv61) rfl rfl Tryz.underlying73 zZl rfl kk kk kk (fun _=>rfl) (by simp) (zDd hu8) (by decide)) ?_
     exact XE
    show V _ _ _ _;obtain⟨oV,hoV,h⟩:=zA h;refine jV (mb 70 8) [56] (s':=⟨bt 3 (.ow 56::bt 66 []),[(56,.arr 61 4 ((([y2])++([(0,-1,1,1),(1,1,-1,0)])).map c61))]⟩) (by rfl) ?_
    refine z1I (mb 70 8) [56] (zFt (by simp) hoV) ?_
    refine V_e (mb 70 4) [56] (s1:=⟨.bot::.bot::.ow 56::bt 67 [],[(56,.arr 61 4 (((([y2])++([(0,-1,1,1),(1,1,-1,0)]))++oV).map c61))]⟩) ?_
    refine zBW ?_
    obtain rfl:=zD h;show Post _ _ _ _ _;exact⟨.inr rfl,rfl,rfl,rfl⟩
   ·have h:=jB h hc7;refine qV ?_
    show V _ _ _ _;obtain⟨oV,hoV,h⟩:=zA h;refine jV (mb 70 8) [56] (s':=⟨bt 3 (.ow 56::bt 66 []),[(56,.arr 61 4 (([y2]).map c61))]⟩) (by rfl) ?_
    refine z1I (mb 70 8) [56] (zFt (by simp) hoV) ?_
    refine V_e (mb 70 4) [56] (s1:=⟨.bot::.bot::.ow 56::bt 67 [],[(56,.arr 61 4 ((([y2])++oV).map c61))]⟩) ?_
    refine zBW ?_
    obtain rfl:=zD h;show Post _ _ _ _ _;exact⟨.inr rfl,rfl,rfl,rfl⟩
theorem zOY:CfW qf 161:=cfW Tryz.func161
noncomputable def zOq(vm1:τM)(vn2:τM):T qf Bool:=
 .cond (!eqI vm1.1 vn2.1) (
 .ret (ltI vm1.1 vn2.1))<|
 .cond (!eqI vm1.2.1 vn2.2.1) (
 .ret (ltI vm1.2.1 vn2.2.1))<|
 .cond (!eqI vm1.2.2.1 vn2.2.2.1) (
 .ret (ltI vm1.2.2.1 vn2.2.2.1))<|
 .ret (ltI vm1.2.2.2 vn2.2.2.2)
theorem zPK{vm1:τM}{vn2:τM}{r:Bool}(h:zEm vm1 vn2=some r):zH qf 161 [.ag [Ti vm1.1,Ti vm1.2.1,Ti vm1.2.2.1,Ti vm1.2.2.2],.ag [Ti vn2.1,Ti vn2.2.1,Ti vn2.2.2.1,Ti vn2.2.2.2]] (Bo r) []:=CtU (zOq vm1 vn2) 4 (fun r=>Bo r) Tryz.func161 rfl rfl h
theorem zO7:CfW qf 80:=cfW Tryz.func80
theorem zPT{f1:τF}{r:((List τM)×Bool)}(h:zB9 f1=some r):zH qf 80 [.ag [Ti f1.1,Ti f1.2.1,Ti f1.2.2]] (.tc (.ow 0) (.tc (Bo r.2) .tn)) [(0,.arr 61 4 (r.1.map c61))]:=by
 refine CtW [2,3] Tryz.func80 rfl rfl 71 ?_
 unfold zB9 at h;refine VS ?_
 refine YR 1 ?_
 refine L1 rfl rfl (zRK (e:=61) 4 (by decide) (.inl rfl)) ?_
 refine YF ?_
 refine zV ?_
 obtain⟨y2,hy2,h⟩:=zA h;refine VS ?_
 refine YK 1 (zEl hy2) zE0 ?_
 refine YF ?_
 refine VC h (fun h=>?_) (fun h=>?_)
 ·refine VS ?_
  refine L1 rfl rfl (zDD Tryz.underlying73 sz61 (by decide) rfl rfl) ?_
  refine YF ?_
  cases h;exact zBW VT
 ·refine qV ?_
  show V _ _ _ _;obtain⟨y4,hy4,h⟩:=zA h;refine VS ?_
  refine YK 1 (zFX hy4) zFC ?_
  refine YF ?_
  refine VS ?_
  refine L1 rfl rfl (zDD Tryz.underlying73 sz61 (by decide) rfl rfl) ?_
  refine YF ?_
  refine zV ?_
  obtain⟨y5,hy5,h⟩:=zA h;refine VS ?_
  refine YK 1 (zPR hy5) zO5 ?_
  refine L0 rfl rfl (zHy (c:=c61) (xs:=y5) Tryz.underlying73 rfl kk) ?_
  refine YF ?_
  obtain⟨qo9,hLo9,hko9⟩:=zA h;refine z6A (q:=qo9) (S:=fun o9=>⟨bt 6 (.ow 160::bt 64 []),[(160,.arr 61 4 (o9.map c61))]⟩) (mb 71 64) [160] ?_ ?_
  ·refine qA (zMe (fun n s=>∃(t6:Int) (l7:List τM),s.keep (mb 71 29360224) [176,160,40]=(⟨bt 5 (.pt 40 0::.ow 160::bt 15 (.ow 176::I ((y5.length:Int))::I t6::bt 46 [])),[(176,.arr 61 4 (y5.map c61)),(160,.arr 61 4 (l7.map c61)),(40,.box [Ti y4.2.1,Ti y4.2.2.1,Ti y4.2.2.2.1,Ti y4.2.2.2.2])]⟩:St)∧zAA y4 y5 n t6 l7=some qo9) FU ⟨_,_,kk,hLo9⟩ ?_);clear hLo9;rintro n s ⟨t6,l7,hs,h⟩;refine jV _ _ hs ?_
   clear hs;cases n with
   |zero=>cases h
   |succ n=>
    rw[zAA]at h;refine VE ?_
    refine zV ?_
    refine VC h (fun h=>?_) (fun h=>?_)
    ·refine qV ?_
     show V _ _ _ _;refine zV ?_
     refine qA ?_
     obtain⟨e11,he11,h⟩:=zA h;obtain⟨e12,he12,h⟩:=zA h;refine VS ?_
     refine L0 rfl rfl (zKR (c:=c61) (xs:=y5) (v:=e11) (id:=176) (T:=61) (sz:=4) (n:=t6) Tryz.underlying73 sz61 rfl kk kk kk he11) ?_
     refine L0 rfl rfl (zVI (c:=c61) (xs:=y5) (v:=e12) (id:=176) (sz:=4) (T:=61) (off:=0) (n:=t6) [Ti e12.1,Ti e12.2.1,Ti e12.2.2.1,Ti e12.2.2.2] wd61 rfl kk kk he12 (Nat.le_of_ble_eq_true rfl) kk) ?_
     refine YF ?_
     obtain⟨y13,hy13,h⟩:=zA h;obtain⟨y14,hy14,h⟩:=zA h;obtain⟨y15,hy15,h⟩:=zA h;refine VDS [0,0,3,0,15,31,0,127] 7 (cdm 7 [8328,8322,8325,8234,8277,8533,2730]) ?_
     refine EK 2 (zDE hy13) zCk ?_
     refine EK 1 (zCY hy14) zCM ?_
     refine EK 0 (zDE hy15) zCk ?_
     refine EF 1 ?_
     refine zV ?_
     obtain⟨y16,hy16,h⟩:=zA h;refine VS ?_
     refine YK 1 (zLQ hy16) zKO ?_
     refine YF ?_
     refine VC h (fun h=>?_) (fun h=>?_)
     ·refine VS ?_
      refine L1 rfl rfl (zDD Tryz.underlying73 sz61 (by decide) rfl rfl) ?_
      refine YF ?_
      refine zBW ?_
      obtain rfl:=zD h;have h:=hko9;obtain rfl:=zD h;exact VT
     ·refine qV ?_
      show V _ _ _ _;refine VS ?_
      refine YR 1 ?_
      refine L0 rfl rfl (zHy (c:=c61) (xs:=l7) Tryz.underlying73 rfl kk) ?_
      refine YF ?_
      refine zV ?_
      obtain⟨o20,hLo20,h⟩:=zA h;refine z8K (mb 71 29361760) [72,176,160,40] (s1:=⟨bt 5 (.pt 40 0::.ow 160::.bot::.bot::.pt 72 0::I o20::bt 11 (.ow 176::I ((y5.length:Int))::I t6::bt 46 [])),[(72,.box [Ti y15.1,Ti y15.2.1,Ti y15.2.2.1,Ti y15.2.2.2]),(176,.arr 61 4 (y5.map c61)),(160,.arr 61 4 (l7.map c61)),(40,.box [Ti y4.2.1,Ti y4.2.2.1,Ti y4.2.2.2.1,Ti y4.2.2.2.2])]⟩) ?_ ?_
      ·clear h;refine qA (zMe (fun n s=>∃(vat18:Int),s.keep (mb 71 29361760) [72,176,160,40]=(⟨bt 5 (.pt 40 0::.ow 160::.bot::.bot::.pt 72 0::I vat18::bt 11 (.ow 176::I ((y5.length:Int))::I t6::bt 46 [])),[(72,.box [Ti y15.1,Ti y15.2.1,Ti y15.2.2.1,Ti y15.2.2.2]),(176,.arr 61 4 (y5.map c61)),(160,.arr 61 4 (l7.map c61)),(40,.box [Ti y4.2.1,Ti y4.2.2.1,Ti y4.2.2.2.1,Ti y4.2.2.2.2])]⟩:St)∧zAw l7 t6 y15 y4 y5 n vat18=some o20) FU ⟨_,kk,hLo20⟩ ?_);clear hLo20;rintro n s ⟨vat18,hs,h⟩;refine jV _ _ hs ?_
       clear hs;cases n with
       |zero=>cases h
       |succ n=>
        rw[zAw]at h;refine zV ?_
        obtain⟨b25,hb25,h⟩:=zA h;refine zDu [0,1,3,7,7,7,39,119,247,511,1023] 11 (cdm 11 [0,1,5,174613,10389,661,1685,5525,21909,87381,349525]) (mb 71 1125899936204384) [72,176,160,40] (s1:=⟨bt 5 (.pt 40 0::.ow 160::.bot::.bot::.pt 72 0::I vat18::bt 11 (.ow 176::I ((y5.length:Int))::I t6::bt 25 (Bo b25::bt 20 []))),[(72,.box [Ti y15.1,Ti y15.2.1,Ti y15.2.2.1,Ti y15.2.2.2]),(176,.arr 61 4 (y5.map c61)),(160,.arr 61 4 (l7.map c61)),(40,.box [Ti y4.2.1,Ti y4.2.2.1,Ti y4.2.2.2.1,Ti y4.2.2.2.2])]⟩) kk kk ?_ ?_
        ·refine ER 3 ?_
         refine zGR (ltI 0 vat18) (fun hc21=>?_) (fun hc21=>?_)
         ·have hb25:=zCW hb25 hc21;obtain⟨e22,he22,hb25⟩:=zA hb25;obtain⟨e23,he23,hb25⟩:=zA hb25;obtain⟨y24,hy24,hb25⟩:=zA hb25;have hb25:=zD hb25;refine EQ hc21 ?_
          refine ER 4 ?_
          refine E0 7 rfl rfl (zKR (c:=c61) (xs:=l7) (v:=e22) (id:=160) (T:=61) (sz:=4) (n:=w64 (vat18 - 1)) Tryz.underlying73 sz61 rfl kk kk kk he22) ?_
          refine E0 8 rfl rfl (zVI (c:=c61) (xs:=l7) (v:=e23) (id:=160) (sz:=4) (T:=61) (off:=0) (n:=w64 (vat18 - 1)) [Ti e23.1,Ti e23.2.1,Ti e23.2.2.1,Ti e23.2.2.2] wd61 rfl kk kk he23 (Nat.le_of_ble_eq_true rfl) kk) ?_
          refine EK 0 (zPK hy24) zOY ?_
          refine EA 1 ?_
          exact YE (by rw[←hb25];(try rw[hc21]);kernel_rfl)
         ·have hb25:=zD (jB hb25 hc21);refine EQ hc21 ?_
          refine EA 8 ?_
          exact YE (by rw[←hb25];(try rw[hc21]);kernel_rfl)
        refine VC h (fun h=>?_) (fun h=>?_)
        ·refine qV ?_
         show V _ _ _ _;refine qA ?_
         obtain⟨vat27,hvat27,h⟩:=zEL h;refine zPu (mb 71 29361760) [72,176,160,40] (s1:=⟨bt 5 (.pt 40 0::.ow 160::.bot::.bot::.pt 72 0::I vat27::bt 11 (.ow 176::I ((y5.length:Int))::I t6::bt 46 [])),[(72,.box [Ti y15.1,Ti y15.2.1,Ti y15.2.2.1,Ti y15.2.2.2]),(176,.arr 61 4 (y5.map c61)),(160,.arr 61 4 (l7.map c61)),(40,.box [Ti y4.2.1,Ti y4.2.2.1,Ti y4.2.2.2.1,Ti y4.2.2.2.2])]⟩) ?_ ?_
         ·refine XR 3 ?_
          refine qN ?_
          subst hvat27
          kernel_rfl
         exact⟨n,zi n,_,kk,h⟩
        ·refine zFU ?_
         obtain rfl:=zD h;show St.keep _ _ _=_
         kernel_rfl
      show V _ _ _ _;obtain⟨u28,hu28,h⟩:=zA h;refine VS ?_
      refine YR 1 ?_
      refine L0 rfl rfl (zBj (cs:=[Ti 0,Ti 0,Ti 0,Ti 0]) pl61 bt61 rfl rfl kk) ?_
      refine L1 rfl rfl (zDW (z:=zv61) (els:=[(0,0,0,0)].map c61) Tryz.underlying73 iz61 rfl (by decide) rfl kk rfl (by simp[c61]) (by decide) (by decide)) ?_
      refine zB2 rfl (zEI (c:=c61) (xs:=l7) (ys:=[(0,0,0,0)]) (id:=160) (z:=zv61) rfl rfl Tryz.underlying73 zZl rfl kk kk kk (fun _=>rfl) (by simp) (zDd hu28) (by decide)) ?_
      refine YF ?_
      obtain⟨u29,hu29,h⟩:=zA h;obtain⟨u30,hu30,h⟩:=zA h;obtain⟨l31,hl31,h⟩:=zA h;have hl31:=zD hl31;refine zDu [0,0,2,7,0,0,48,127] 7 (cdm 7 [10792,10754,10758,10773,2218,682,1450]) (mb 71 29361760) [72,176,160,40] (s1:=⟨bt 5 (.pt 40 0::.ow 160::.bot::.bot::.pt 72 0::I o20::bt 11 (.ow 176::I ((y5.length:Int))::I t6::bt 46 [])),[(72,.box [Ti y15.1,Ti y15.2.1,Ti y15.2.2.1,Ti y15.2.2.2]),(176,.arr 61 4 (y5.map c61)),(160,.arr 61 4 (l31.map c61)),(40,.box [Ti y4.2.1,Ti y4.2.2.1,Ti y4.2.2.2.1,Ti y4.2.2.2.2])]⟩) kk kk ?_ ?_
      ·refine DR 3 ?_
       refine DE_0 3 (.sf 160 4 (Int.toNat (w64 (o20+1)))) kk rfl rfl rfl (zL rfl) kk (zXD (c:=c61) (xs:=l7++([(0,0,0,0)])) (l:=w64 (o20+1)) (T:=61) (id:=160) Tryz.underlying73 sz61 rfl kk kk kk hu29) 60 rfl ?_
       refine DR 2 ?_
       refine DE_0 6 (.sf 160 4 (Int.toNat (o20))) kk rfl rfl rfl (zL rfl) kk (zXD (c:=c61) (xs:=l7++([(0,0,0,0)])) (l:=o20) (T:=61) (id:=160) Tryz.underlying73 sz61 rfl kk kk kk hu30) 63 rfl ?_
       refine DA 0 ?_
       refine zB2 rfl (z73 64 (z74 (c:=c61) (xs:=l7++([(0,0,0,0)])) (id:=160) (sz:=4) (T:=61) (k1:=Int.toNat (w64 (o20+1))) (k2:=Int.toNat o20) rfl rfl Tryz.underlying73 sz61 kk kk kk (z3w hu29) (z3w hu30) (by simp))) ?_
       refine qN ?_
       subst hl31
       kernel_rfl
      obtain⟨e32,he32,h⟩:=zA h;obtain⟨e33,he33,h⟩:=zA h;refine q7 ?_
      refine YR 3 ?_
      refine L0 rfl rfl (zKR (c:=c61) (xs:=l31) (v:=e32) (id:=160) (T:=61) (sz:=4) (n:=o20) Tryz.underlying73 sz61 rfl kk kk kk he32) ?_
      refine zB2 rfl (zXF (c:=c61) (xs:=l31) (v:=e33) (u:=y15) (id:=160) (sz:=4) (off:=0) (T0:=61) (n:=o20) (vc:=[Ti y15.1,Ti y15.2.1,Ti y15.2.2.1,Ti y15.2.2.2]) rfl rfl kk kk he33 kk sz61 (Nat.le_of_ble_eq_true rfl) kk) ?_
      refine YF ?_
      show V _ _ _ _;obtain⟨t34,ht34,h⟩:=zEL h;refine zPu (mb 71 29360224) [176,160,40] (s1:=⟨bt 5 (.pt 40 0::.ow 160::bt 15 (.ow 176::I ((y5.length:Int))::I t34::bt 46 [])),[(176,.arr 61 4 (y5.map c61)),(160,.arr 61 4 ((l31.set (Int.toNat (o20)) y15).map c61)),(40,.box [Ti y4.2.1,Ti y4.2.2.1,Ti y4.2.2.2.1,Ti y4.2.2.2.2])]⟩) ?_ ?_
      ·refine XR 2 ?_
       refine qN ?_
       subst ht34
       kernel_rfl
      exact⟨n,zi n,_,_,kk,h⟩
    ·refine zFU ?_
     obtain rfl:=zD h;exact⟨_,rfl,kk⟩
  rintro o9 rfl;have h:=hko9;clear hko9;show V _ _ _ _;refine VE ?_
  cases h;exact zBW VT
def zQC(f1:τF):=fC zO7 (zB9 f1) fun _=>zPT
theorem zHK:CfW qf 28:=cfW Tryz.func28
noncomputable def zHV(f1:τF):T qf (((List qd)×Bool)):=
 .n1 (nilN 9 1 (by decide))<|
 .op1 (zQC f1) fun y2=>
 .n1 bsl0<|
 .n0 (lenM ct61 y2.1)<|
 .loop (fun n X_1=>jY f1 y2 n X_1.1 X_1.2) ((0,([]:List qd))) (mb 33 229474) [112,88,8] (fun s X_1 γ=>s.pc (mb 33 229474) [112,88,8] [(17,I X_1.1)] [(112,.arr 9 1 (X_1.2.map c9))]) (fun X_1=>
 .cond (ltI X_1.1 ((y2.1.length:Int))) (.op0 (zDI ct61 y2.1 X_1.1) fun e8=>.op0 (ldo ct61 y2.1 X_1.1) fun e9=>
 .draw 8 []<|.op1 (zAW f1) fun y10=>.op1 (zDv e9) fun y11=>.n1 bsl<|.op1 (zBX ((⟨#[97,117,116,111,109,111,114,112,104]⟩:qd)) ([y10,y11])) fun y12=>.n1 bsl<|.opx (app ct9 X_1.2 ([y12])) fun u13=>
 .frc (w64 (X_1.1+1)) fun t14=>.ret (.inl ((t14,X_1.2++([y12])))))<|.ret (.inr X_1.2)) (mb 33 96) [112] (fun s o6 γ=>s.pc (mb 33 96) [112] [] [(112,.arr 9 1 (o6.map c9))]) fun o6=>
 .ret ((o6,y2.2))
theorem zH0{f1:τF}{r:((List qd)×Bool)}(h:jU f1=some r):zH qf 28 [.ag [Ti f1.1,Ti f1.2.1,Ti f1.2.2]] (.tc (.ow 0) (.tc (Bo r.2) .tn)) [(0,.arr 9 1 (r.1.map c9))]:=CtT (zHV f1) (fun r=>(.tc (.ow 0) (.tc (Bo r.2) .tn),[(0,.arr 9 1 (r.1.map c9))])) (rs:=[.t 2,.t 3]) (vs:=[.tmp 2,.tmp 3]) Tryz.func28 rfl rfl (.cons rfl (.cons rfl FitsL.nil)) h
theorem zHI:CfW qf 29:=cfW Tryz.func29
noncomputable def zHT(f1:τF):T qf (((List qd)×Bool)):=
 .n1 (nilN 9 1 (by decide))<|
 .op1 (zBb f1) fun y2=>
 .cond (!y2) (.n1 (nilN 9 1 (by decide))<|
 .ret ((([]:List qd),false)))<|.n1 (nilN 9 1 (by decide))<|
 .op1 (zN9 f1) fun y4=>.n0 (lenM ct61 y4)<|
 .loop (fun n X_1=>jX f1 y4 n X_1.1 X_1.2) ((0,([]:List qd))) (mb 28 14354) [88,32,8] (fun s X_1 γ=>s.pc (mb 28 14354) [88,32,8] [(13,I X_1.1)] [(32,.arr 9 1 (X_1.2.map c9))]) (fun X_1=>
 .cond (ltI X_1.1 ((y4.length:Int))) (.op0 (zDI ct61 y4 X_1.1) fun e10=>.op0 (ldo ct61 y4 X_1.1) fun e11=>
 .draw 8 []<|.op1 (zBY f1) fun y12=>.op1 (zEB e11) fun y13=>.n1 bsl<|.op1 (zDR ([(⟨#[97,117,116,111,109,111,114,112,104]⟩:qd),y12,y13])) fun y14=>.n1 bsl<|.opx (app ct9 X_1.2 ([y14])) fun u15=>
 .frc (w64 (X_1.1+1)) fun t16=>.ret (.inl ((t16,X_1.2++([y14])))))<|.ret (.inr X_1.2)) (mb 28 16) [32] (fun s o8 γ=>s.pc (mb 28 16) [32] [] [(32,.arr 9 1 (o8.map c9))]) fun o8=>
 .ret ((o8,true))
theorem zHX{f1:τF}{r:((List qd)×Bool)}(h:zAU f1=some r):zH qf 29 [.ag [Ti f1.1,Ti f1.2.1,Ti f1.2.2]] (.tc (.ow 0) (.tc (Bo r.2) .tn)) [(0,.arr 9 1 (r.1.map c9))]:=CtT (zHT f1) (fun r=>(.tc (.ow 0) (.tc (Bo r.2) .tn),[(0,.arr 9 1 (r.1.map c9))])) (rs:=[.t 2,.t 3]) (vs:=[.tmp 2,.tmp 3]) Tryz.func29 rfl rfl (.cons rfl (.cons rfl FitsL.nil)) h
end
end Go.Proofs.YtnjhhbcccgbbnaaGreatDoor
namespace Go.Proofs.YtnjhhbcccgbbnaaGreatDoor
open Go.RowKit
noncomputable section
def zMq(f1:τF)(g2:τF):=fC zLm (zBv f1 g2) fun _=>zML
def zIB(code1:List Int):=fC zH6 (zAx code1) fun _=>zHn
def zKX(f1:τF)(vn2:Int):=fC zJX (zAe f1 vn2) fun _=>zJu
def zFs(code1:List Int):=fC zFh (zAQ code1) fun _=>zFq
def zHQ(d1:Int)(vn2:Int):=fC zGd (jL d1 vn2) fun _=>zGx
def zJ7(d1:Int)(vn2:Int):=fC zIh (zAt d1 vn2) fun _=>zJJ
def zGW(code1:List Int):=fC zGM (zA1 code1) fun _=>zGV
def zID(f1:τF)(g2:τF):=fC zH9 (qF f1 g2) fun _=>zHq
def zKY(f1:τF):=fC zJY (jR f1) fun _=>zJv
def zI9(code1:List Int):=fC zHv (zBN code1) fun _=>zIT
def zLO(d1:Int):=fC zKN (qJ d1) fun _=>zKh
def zHh(f1:τF):=fC zHK (jU f1) fun _=>zH0
def zHe(f1:τF):=fC zHI (zAU f1) fun _=>zHX
noncomputable def zL4(code1:List Int)(more2:List Int):T qf Bool:=
 .op1 (z1N code1 more2) fun y3=>
 .cond y3 (
 .ret true)<|.op1 (zGS code1) fun y5=>
 .op1 (zHg y5.1 y5.2) fun y6=>
 .op1 (zHd y5.1 y5.2) fun y7=>
 .op1 (zHR y5.1 y5.2) fun y8=>
 .op1 (zHP y5.1 y5.2) fun y9=>
 .dn<|.joinC (.pl<|.joinC (.unroll 8 (.selB (y6.2 != y7.2) false [] fun w_35=>.ret w_35)) (mb 346 2611279770367599017365372898) [48,40] (fun s w_35 γ=>s.pc (mb 346 2611279770367599017365372898) [48,40] [(84,Bo y6.2),(85,Bo y7.2),(86,Bo (y6.2 != y7.2)),(91,Bo (bif w_35 then true else (!(y6.1.toList==y7.1.toList))))] []) fun w_35=>.joinC (.unroll 5 (.selB (bif w_35 then true else (!(y6.1.toList==y7.1.toList))) false [] fun w_36=>.ret w_36)) (mb 346 81839442284631936610909323234) [48,40] (fun s w_36 γ=>s.pc (mb 346 81839442284631936610909323234) [48,40] [(96,Bo (bif w_36 then true else (y8.2 != y9.2)))] []) fun w_36=>.joinC (.unroll 5 (.selB (bif w_36 then true else (y8.2 != y9.2)) false [] fun w_37=>.ret w_37)) (mb 346 2617140642741090739604315733986) [48,40] (fun s w_37 γ=>s.pc (mb 346 2617140642741090739604315733986) [48,40] [(101,Bo (bif w_37 then true else (!(y8.1.toList==y9.1.toList))))] []) fun w_37=>.joinC (.unroll 6 (.seqT (.cond (bif w_37 then true else (!(y8.1.toList==y9.1.toList))) (.ret true) (.selB y6.2 true [] fun w_38=>.ret (bif w_38 then y8.2 else false))) fun b15=>.ret b15)) (mb 346 164876417471954454131182326022114) [48,40] (fun s b15 γ=>s.pc (mb 346 164876417471954454131182326022114) [48,40] [(107,Bo b15)] []) fun b15=>.joinC (.unroll 8 (.seqT (.cond b15 (.ret true) (.seqT (.cond y6.2 (.op1 (zAL y6.1) fun y18=>.ret (!eqI y18 2)) (.ret false)) fun b19=>.ret b19)) fun b20=>.ret b20)) (mb 346 41703251285750575482375152959782882) [48,40] (fun s b20 γ=>s.pc (mb 346 41703251285750575482375152959782882) [48,40] [(115,Bo b20)] []) fun b20=>.joinC (.unroll 8 (.seqT (.cond b20 (.ret true) (.seqT (.cond y8.2 (.op1 (zAL y8.1) fun y23=>.ret (!eqI y23 2)) (.ret false)) fun b24=>.ret b24)) fun b25=>.ret b25)) (mb 346 10675527217565077558712831635202539490) [48,40] (fun s b25 γ=>s.pc (mb 346 10675527217565077558712831635202539490) [48,40] [(123,Bo b25)] []) fun b25=>.ret (w_35,w_36,w_37,b15,b20,b25)) (mb 346 10633823966279326983230456482242761058) [48,40] (fun s q_71 γ=>s.pc (mb 346 10633823966279326983230456482242761058) [48,40] [(123,Bo q_71.2.2.2.2.2)] []) fun q_71=>
 .cond q_71.2.2.2.2.2 (
 .ret false)<|.pl<|.joinS (.joinC (.pl<|.joinC (.unroll 4 (.selB y6.2 false [] fun w_41=>.ret w_41)) (mb 346 202042655359307212681378673162612380002) [48,40] (fun s w_41 γ=>s.pc (mb 346 202042655359307212681378673162612380002) [48,40] [(124,Bo y6.2),(127,Bo (bif w_41 then true else y8.2))] []) fun w_41=>.ret w_41) (mb 346 170141183460469231731687303715884109922) [48,40] (fun s q_44 γ=>s.pc (mb 346 170141183460469231731687303715884109922) [48,40] [(127,Bo (bif q_44 then true else y8.2))] []) fun q_44=>
 .cond (bif q_44 then true else y8.2) (.op1 (zMq y5.1 y5.2) fun y30=>
 .joinC (.pl<|.joinC (.unroll 7 (.selB (!y30.2) false [] fun w_42=>.ret w_42)) (mb 346 1459130789356984131330950316667422090825762) [40] (fun s w_42 γ=>s.pc (mb 346 1459130789356984131330950316667422090825762) [40] [(134,Bo y30.2),(135,Bo (!y30.2)),(140,Bo (bif w_42 then true else (y30.1 != y8.2)))] []) fun w_42=>.ret w_42) (mb 346 1393796574908163946345982392040522594123810) [40] (fun s q_43 γ=>s.pc (mb 346 1393796574908163946345982392040522594123810) [40] [(140,Bo (bif q_43 then true else (y30.1 != y8.2)))] []) fun q_43=>
 .cond (bif q_43 then true else (y30.1 != y8.2)) (
 .ret (.inr false))<|.ret (.inl ()))<|.ret (.inl ())) (mb 346 34) [40] (fun s o27 γ=>s.pc (mb 346 34) [40] [] []) (fun r=>r) fun o27=>
 .op1 (zIB more2) fun y33=>
 .op1 (zKX y33.1 y33.2) fun y34=>
 .op1 (zKT y33.1 y33.2) fun y35=>
 .dn<|.joinC (.pl<|.joinC (.unroll 8 (.selB (y34.2 != y35.2) false [] fun w_46=>.ret w_46)) (mb 346 49325680259917973489374363104174551913387731189794) [40] (fun s w_46 γ=>s.pc (mb 346 49325680259917973489374363104174551913387731189794) [40] [(158,Bo y34.2),(159,Bo y35.2),(160,Bo (y34.2 != y35.2)),(165,Bo (bif w_46 then true else (!(y34.1.toList==y35.1.toList))))] []) fun w_46=>.joinC (.unroll 8 (.seqT (.cond (bif w_46 then true else (!(y34.1.toList==y35.1.toList))) (.ret true) (.seqT (.cond y34.2 (.op1 (zAL y34.1) fun y39=>.ret (!eqI y39 2)) (.ret false)) fun b40=>.ret b40)) fun b41=>.ret b41)) (mb 346 12021947093274674679413960512715965048934787123249186) [40] (fun s b41 γ=>s.pc (mb 346 12021947093274674679413960512715965048934787123249186) [40] [(173,Bo b41)] []) fun b41=>.ret (w_46,b41)) (mb 346 11972621413014756705924586149611790497021399392059426) [40] (fun s q_70 γ=>s.pc (mb 346 11972621413014756705924586149611790497021399392059426) [40] [(173,Bo q_70.2)] []) fun q_70=>
 .cond q_70.2 (
 .ret false)<|.op1 (zFs more2) fun y43=>
 .op1 (zHQ y43.1 y43.2) fun y44=>
 .op1 (zHO y43.1 y43.2) fun y45=>
 .dn<|.joinC (.pl<|.joinC (.unroll 8 (.selB (y44.2 != y45.2) false [] fun w_48=>.ret w_48)) (mb 346 423704367138600951558915786066517483086908992501322858102818) [40] (fun s w_48 γ=>s.pc (mb 346 423704367138600951558915786066517483086908992501322858102818) [40] [(191,Bo y44.2),(192,Bo y45.2),(193,Bo (y44.2 != y45.2)),(198,Bo (bif w_48 then true else (!(y44.1.toList==y45.1.toList))))] []) fun w_48=>.ret w_48) (mb 346 401734511064747568885490523085290650630550748445698334654498) [40] (fun s q_69 γ=>s.pc (mb 346 401734511064747568885490523085290650630550748445698334654498) [40] [(198,Bo (bif q_69 then true else (!(y44.1.toList==y45.1.toList))))] []) fun q_69=>
 .lt (bif q_69 then true else (!(y44.1.toList==y45.1.toList))) fun t47=>.cond t47 (
 .ret false)<|.pl<|.joinS (
 .cond y44.2 (.op1 (zJ7 y43.1 y43.2) fun y51=>
 .joinC (.op1 (zAL y44.1) fun y52=>.selB (!eqI y52 2) false [] fun w_51=>.selB (bif w_51 then true else (!y51.2)) false [.z (lenM ct25 y51.1)] fun w_52=>.ret (y52,w_51,w_52)) (mb 346 210624583337114373395836055367340864637790190801098222508621955106) [40] (fun s q_53 γ=>s.pc (mb 346 210624583337114373395836055367340864637790190801098222508621955106) [40] [(217,Bo (bif q_53.2.2 then true else (!eqI ((y51.1.length:Int)) 0)))] []) fun q_53=>
 .lt (bif q_53.2.2 then true else (!eqI ((y51.1.length:Int)) 0)) fun t55=>.cond t55 (
 .ret (.inr false))<|.ret (.inl ()))<|.ret (.inl ())) (mb 346 34) [40] (fun s o49 γ=>s.pc (mb 346 34) [40] [] []) (fun r=>r) fun o49=>
 .op1 (zGW more2) fun y57=>
 .op1 (zID y57.1 y57.2) fun y58=>
 .op1 (zIC y57.1 y57.2) fun y59=>
 .op1 (zKY y57.1) fun y60=>
 .op1 (zKU y57.1) fun y61=>
 .dn<|.joinC (.pl<|.joinC (.unroll 8 (.selB (y58.2 != y59.2) false [] fun w_57=>.ret w_57)) (mb 346 7632779319842620303799845203209407988374730434502673899085338791774550753314) [40] (fun s w_57 γ=>s.pc (mb 346 7632779319842620303799845203209407988374730434502673899085338791774550753314) [40] [(245,Bo y58.2),(246,Bo y59.2),(247,Bo (y58.2 != y59.2)),(252,Bo (bif w_57 then true else (!(y58.1.toList==y59.1.toList))))] []) fun w_57=>.joinC (.unroll 5 (.selB (bif w_57 then true else (!(y58.1.toList==y59.1.toList))) false [] fun w_58=>.ret w_58)) (mb 346 239216957794475011150941815220585223694914699765783801978000506807600810033186) [40] (fun s w_58 γ=>s.pc (mb 346 239216957794475011150941815220585223694914699765783801978000506807600810033186) [40] [(257,Bo (bif w_58 then true else (y60.2 != y61.2)))] []) fun w_58=>.joinC (.unroll 5 (.selB (bif w_58 then true else (y60.2 != y61.2)) false [] fun w_59=>.ret w_59)) (mb 346 7649910668982711518259484855776611326304193718366779900503285883314041106989090) [40] (fun s w_59 γ=>s.pc (mb 346 7649910668982711518259484855776611326304193718366779900503285883314041106989090) [40] [(262,Bo (bif w_59 then true else (!(y60.1.toList==y61.1.toList))))] []) fun w_59=>.joinC (.unroll 8 (.seqT (.cond (bif w_59 then true else (!(y60.1.toList==y61.1.toList))) (.ret true) (.seqT (.cond y58.2 (.op1 (zAL y58.1) fun y67=>.ret (!eqI y67 2)) (.ret false)) fun b68=>.ret b68)) fun b69=>.ret b69)) (mb 346 1904787500733171257338046503238119293594279622480221781122976342268962757127700514) [40] (fun s b69 γ=>s.pc (mb 346 1904787500733171257338046503238119293594279622480221781122976342268962757127700514) [40] [(270,Bo b69)] []) fun b69=>.joinC (.unroll 8 (.seqT (.cond b69 (.ret true) (.seqT (.cond y60.2 (.op1 (zAL y60.1) fun y72=>.ret (!eqI y72 2)) (.ret false)) fun b73=>.ret b73)) fun b74=>.ret b74)) (mb 346 487572010557165438987203523209117845954195989385515102094076078776995034058429825058) [40] (fun s b74 γ=>s.pc (mb 346 487572010557165438987203523209117845954195989385515102094076078776995034058429825058) [40] [(278,Bo b74)] []) fun b74=>.ret (w_57,w_58,w_59,b69,b74)) (mb 346 485667223056432267729865476705879726660601709763034880312953102434726071301302124578) [40] (fun s q_68 γ=>s.pc (mb 346 485667223056432267729865476705879726660601709763034880312953102434726071301302124578) [40] [(278,Bo q_68.2.2.2.2)] []) fun q_68=>
 .cond q_68.2.2.2.2 (
 .ret false)<|.op1 (zI9 more2) fun y76=>
 .op1 (zLO y76) fun y77=>
 .op1 (zLL y76) fun y78=>
 .dn<|.joinC (.pl<|.joinC (.unroll 8 (.selB (y77.2 != y78.2) false [] fun w_61=>.ret w_61)) (mb 346 537109095322569573527812827998566507308492642861135534835701095044612256773602016273367072) [40] (fun s w_61 γ=>s.pc (mb 346 537109095322569573527812827998566507308492642861135534835701095044612256773602016273367072) [40] [(291,Bo y77.2),(292,Bo y78.2),(293,Bo (y77.2 != y78.2)),(298,Bo (bif w_61 then true else (!(y77.1.toList==y78.1.toList))))] []) fun w_61=>.joinC (.unroll 8 (.seqT (.cond (bif w_61 then true else (!(y77.1.toList==y78.1.toList))) (.ret true) (.seqT (.cond y77.2 (.op1 (zAL y77.1) fun y82=>.ret (!eqI y82 2)) (.ret false)) fun b83=>.ret b83)) fun b84=>.ret b84)) (mb 346 130907411580729679094708336886198768814602469837481055575548689853725015441627151212010799136) [40] (fun s b84 γ=>s.pc (mb 346 130907411580729679094708336886198768814602469837481055575548689853725015441627151212010799136) [40] [(306,Bo b84)] []) fun b84=>.ret (w_61,b84)) (mb 346 130370302485407109521180524058200202307293977194619920040712988758680403184853549195737432096) [40] (fun s q_67 γ=>s.pc (mb 346 130370302485407109521180524058200202307293977194619920040712988758680403184853549195737432096) [40] [(306,Bo q_67.2)] []) fun q_67=>
 .cond q_67.2 (
 .ret false)<|.op1 (zHh y5.1) fun y86=>
 .op1 (zHe y5.1) fun y87=>
 .dn<|.joinC (.pl<|.joinC (.unroll 10 (.selB (y86.2 != y87.2) false [.z (lenM ct9 y86.1),.z (lenM ct9 y87.1)] fun w_63=>.ret w_63)) (mb 346 138572158955369041595377033187749693434850455887887848450314324307466504710019055683795196552675328) [2512,2472] (fun s w_63 γ=>s.pc (mb 346 138572158955369041595377033187749693434850455887887848450314324307466504710019055683795196552675328) [2512,2472] [(317,Bo y86.2),(318,Bo y87.2),(319,Bo (y86.2 != y87.2)),(326,Bo (bif w_63 then true else (!eqI ((y86.1.length:Int)) ((y87.1.length:Int)))))] []) fun w_63=>.ret w_63) (mb 346 136703170298938245273281389194851335334573089430825777276610662900622062449960995201821417284829184) [2512,2472] (fun s q_66 γ=>s.pc (mb 346 136703170298938245273281389194851335334573089430825777276610662900622062449960995201821417284829184) [2512,2472] [(326,Bo (bif q_66 then true else (!eqI ((y86.1.length:Int)) ((y87.1.length:Int)))))] []) fun q_66=>
 .lt (bif q_66 then true else (!eqI ((y86.1.length:Int)) ((y87.1.length:Int)))) fun t89=>.cond t89 (
 .ret false)<|.n0 (lenM ct9 y86.1)<|
 .loopS (fun n X_65=>zAd y86 y87 n X_65) 0 (mb 346 1913844384185135433825939448727918694684023252031560881872549280608708874299453932820855504871882752) [2512,2472] (fun s X_65 γ=>s.pc (mb 346 1913844384185135433825939448727918694684023252031560881872549280608708874299453932820855504871882752) [2512,2472] [(329,I X_65)] []) (fun X_65=>
 .cond (ltI X_65 ((y86.1.length:Int))) (.op0 (zDI ct9 y86.1 X_65) fun e95=>.op0 (ldo ct9 y86.1 X_65) fun e96=>
 .joinC (.op0 (zDI ct9 y87.1 X_65) fun e97=>.op0 (ldo ct9 y87.1 X_65) fun e98=>.seqT (.cond (!(e96.toList==e98.toList)) (.ret true) (.op1 (zAL e96) fun y100=>.ret (!eqI y100 2))) fun b101=>.ret (e97,e98,b101)) (mb 346 35837829719229052504352902428543836368641011979006424119281698164701278647756874580026860747850585735168) [2512,2472] (fun s q_64 γ=>s.pc (mb 346 35837829719229052504352902428543836368641011979006424119281698164701278647756874580026860747850585735168) [2512,2472] [(344,Bo q_64.2.2)] []) fun q_64=>
 .cond q_64.2.2 (
 .ret (.early false))<|
 .frc (w64 (X_65+1)) fun t103=>.ret (.again t103))<|.ret (.done (()))) (mb 346 0) [] (fun s o93 γ=>s.pc (mb 346 0) [] [] []) (fun r=>r) fun o93=>
 .ret true
theorem zLb{code1:List Int}{more2:List Int}{r:Bool}(h:zEV code1 more2=some r):zH qf 3 [.c (.sl (code1.map c5)),.c (.sl (more2.map c5))] (Bo r) []:=CtT (zL4 code1 more2) (fun r=>(Bo r,[])) (rs:=[.t 4]) (vs:=[.tmp 4]) Tryz.func3 rfl rfl (.cons rfl FitsL.nil) h
end
end Go.Proofs.YtnjhhbcccgbbnaaGreatDoor
