/-
  Rules of walks, plain functions and their laws, part 4.
  Conditions: none.
-/
import Derived.Test.YtnheekadeflecaaGreatFbz3
set_option linter.unusedSimpArgs false
set_option linter.unusedVariables false
namespace Go.Proofs.YtnheekadeflecaaGreat
open Go.RowKit
set_option maxRecDepth 100000
set_option maxHeartbeats 400000
theorem zI6 : CfW Tryz.prog 230 := cfW Tryz.func230
theorem zIj {a1 : Int} {vm2 : Int} {r : Int} (h : zEe a1 vm2 = some r) : qE Tryz.prog 230 [I a1, I vm2] (I r) [] := by
 refine CtW [4] Tryz.func230 rfl rfl 36 ?_
 unfold zEe at h
 refine VE ?_
 obtain ⟨y3, hy3, h⟩ := zA h
 refine VS ?_
 refine YK 3 (zDd hy3) zDJ ?_
 refine YF ?_
 refine zO ?_
 obtain ⟨o9, hLo9, h⟩ := zA h
 refine zAz (mb 36 162) [] (s1 := ⟨.bot :: I vm2 :: bt 3 (I o9.1 :: .bot :: I o9.2 :: bt 28 []), []⟩) ?_ ?_
 ·clear h
  refine zL (qT (fun n s => ∃ (vr4 : Int) (next5 : Int) (x6 : Int) (y7 : Int), s.keep (mb 36 482) [] = (⟨.bot :: I vm2 :: bt 3 (I vr4 :: I next5 :: I x6 :: I y7 :: bt 27 []), []⟩ : St) ∧ zCd vm2 n vr4 next5 x6 y7 = some o9) FU ⟨_, _, _, _,  kk, hLo9⟩ ?_)
  clear hLo9
  rintro n s ⟨vr4, next5, x6, y7, hs, h⟩
  refine qQ _ _ hs ?_
  clear hs
  cases n with
  | zero => cases h
  | succ n =>
   rw [zCd] at h
   refine zO ?_
   refine VE ?_
   refine VC h (fun h => ?_) (fun h => ?_)
   ·refine zK ?_
    show V _ _ _ _
    refine zL ?_
    obtain ⟨z11, hz11, h⟩ := zA h
    obtain ⟨q12, hq12, h⟩ := zR h
    refine zG (mb 36 994) [] (s1 := ⟨.bot :: I vm2 :: bt 3 (I vr4 :: I next5 :: I x6 :: I y7 :: I q12 :: bt 26 []), []⟩) ?_ ?_
    ·refine XR 2 ?_
     refine L0 rfl rfl (jJ (a := vr4) (b := next5) rfl kk kk (jC hz11)) ?_
     refine XR 1 ?_
     refine zH ?_
     subst hq12
     kernel_rfl
    obtain ⟨next13, hnext13, h⟩ := zR h
    refine zG (mb 36 994) [] (s1 := ⟨.bot :: I vm2 :: bt 3 (I next5 :: I next13 :: I x6 :: I y7 :: I q12 :: bt 26 []), []⟩) ?_ ?_
    ·refine XR 8 ?_
     refine zH ?_
     subst hnext13
     kernel_rfl
    obtain ⟨y14, hy14, h⟩ := zR h
    refine qS (mb 36 482) [] (s1 := ⟨.bot :: I vm2 :: bt 3 (I next5 :: I next13 :: I y7 :: I y14 :: bt 27 []), []⟩) ?_ ?_
    ·refine XR 8 ?_
     refine zH ?_
     subst hy14
     kernel_rfl
    exact ⟨n, Nat.lt_succ_self n, _, _, _, _,  kk, h⟩
   ·refine qO ?_
    obtain rfl := zB h
    show St.keep _ _ _ = _
    kernel_rfl
 show V _ _ _ _
 refine zO ?_
 refine VE ?_
 refine VC h (fun h => ?_) (fun h => ?_)
 ·refine VE ?_
  cases h
  exact zM VT
 ·refine zK ?_
  show V _ _ _ _
  obtain ⟨y16, hy16, h⟩ := zA h
  refine VS ?_
  refine YK 2 (zDd hy16) zDJ ?_
  refine YF ?_
  cases h
  exact zM VT
theorem zJC : CfW Tryz.prog 217 := cfW Tryz.func217
theorem zJO {a1 : Int} {b2 : Int} {r : (Int × Int × Int)} (h : zDC a1 b2 = some r) : qE Tryz.prog 217 [I a1, I b2] (.tc (I r.1) (.tc (I r.2.1) (.tc (I r.2.2) .tn))) [] := by
 refine CtW [4, 5, 6] Tryz.func217 rfl rfl 34 ?_
 unfold zDC at h
 refine VE ?_
 obtain ⟨y3, hy3, h⟩ := zA h
 refine VS ?_
 refine YK 2 (zEQ hy3) zDz ?_
 refine YF ?_
 refine zO ?_
 refine VE ?_
 refine VC h (fun h => ?_) (fun h => ?_)
 ·obtain ⟨y5, hy5, h⟩ := zA h
  refine VS ?_
  refine YK 2 (s_spec_l1Sign hy5) zKR ?_
  refine YF ?_
  cases h
  exact zM VT
 ·refine zK ?_
  show V _ _ _ _
  obtain ⟨z6, hz6, h⟩ := zA h
  obtain ⟨y7, hy7, h⟩ := zA h
  obtain ⟨z8, hz8, h⟩ := zA h
  obtain ⟨y9, hy9, h⟩ := zA h
  refine VDS [0, 0, 3, 0, 8, 0, 56, 127, 255] 9 (cdm 9 [10888, 10882, 10885, 2090, 2154, 682, 1386, 5461, 21845]) ?_
  refine ER 2 ?_
  refine E0 2 rfl rfl (jJ (a := a1) (b := y3) rfl kk kk (jC hz6)) ?_
  refine EK 1 (zGC hy7) zFl ?_
  refine ER 1 ?_
  refine E0 6 rfl rfl (jJ (a := y7) (b := y3) rfl kk kk (jC hz8)) ?_
  refine EK 0 (zIj hy9) zI6 ?_
  refine EF 1 ?_
  obtain ⟨z10, hz10, h⟩ := zA h
  obtain ⟨t11, ht11, h⟩ := zR h
  refine zHS [0, 0, 0, 0, 0, 24, 60, 0, 252, 1, 515, 2047] 12 (cdm 12 [174760, 699042, 2656906, 2654762, 2654378, 2654570, 2655578, 2632362, 2643290, 174761, 436901, 1398101]) (mb 34 112) [] (s1 := ⟨bt 4 (I y3 :: I y9 :: I t11 :: bt 27 []), []⟩) kk kk ?_ ?_
  ·refine DR 8 ?_
   refine DE_0 8 (I (w64 (Int.tdiv (w64 (y3 - (w64 (a1 * y9)))) b2))) kk rfl rfl rfl (zAi rfl) kk (jJ (a := w64 (y3 - (w64 (a1 * y9)))) (b := b2) rfl kk kk (jC hz10)) 33 rfl ?_
   refine DA 3 ?_
   refine zH ?_
   subst ht11
   kernel_rfl
  cases h
  exact zM VT
theorem zHm : CfW Tryz.prog 181 := cfW Tryz.func181
theorem zIE {f1 : (Int × Int × Int)} {x2 : Int} {y3 : Int} {r : (((Int × Int × Int)) × ((Int × Int × Int × Int)))} (h : zBi f1 x2 y3 = some r) : qE Tryz.prog 181 [.ag [Ti f1.1, Ti f1.2.1, Ti f1.2.2], I x2, I y3] (.tc (.ag [Ti r.1.1, Ti r.1.2.1, Ti r.1.2.2]) (.tc (.ag [Ti r.2.1, Ti r.2.2.1, Ti r.2.2.2.1, Ti r.2.2.2.2]) .tn)) [] := by
 refine qI (rs := [.w 6 3, .w 7 4]) (vs := [.cell 6 27, .cell 7 57]) Tryz.func181 rfl rfl (.cons ⟨rfl, wd27⟩ (.cons ⟨rfl, wd57⟩ FitsL.nil)) (by decide) 76 rfl ?_
 unfold zBi at h
 refine VE ?_
 obtain ⟨y4, hy4, h⟩ := zA h
 refine VS ?_
 refine YK 2 (zJO hy4) zJC ?_
 refine YF ?_
 obtain ⟨y5, hy5, h⟩ := zA h
 obtain ⟨q6, hq6, h⟩ := zR h
 refine zG (mb 76 6862) [56, 48, 24] (s1 := ⟨.bot :: I x2 :: I y3 :: .pt 24 0 :: .bot :: .bot :: .pt 48 0 :: .pt 56 0 :: .bot :: I y4.2.1 :: .bot :: I q6 :: I y5 :: bt 63 [], [(56, .box [Ti 0, Ti 0, Ti 0, Ti 0]), (48, .box [Ti 0, Ti 0, Ti 0]), (24, .box [Ti f1.1, Ti f1.2.1, Ti f1.2.2])]⟩) ?_ ?_
 ·refine XR 5 ?_
  refine XC (zER hy5) zED rfl rfl rfl ?_
  refine XR 2 ?_
  refine zH ?_
  subst hq6
  kernel_rfl
 obtain ⟨y7, hy7, h⟩ := zA h
 refine VS ?_
 refine YK 5 (zGd hy7) zGX ?_
 refine YF ?_
 obtain ⟨y8, hy8, h⟩ := zA h
 obtain ⟨z9, hz9, h⟩ := zA h
 obtain ⟨t10, ht10, h⟩ := zR h
 refine zG (mb 76 31438) [56, 48, 24] (s1 := ⟨.bot :: I x2 :: I y3 :: .pt 24 0 :: .bot :: .bot :: .pt 48 0 :: .pt 56 0 :: .bot :: I y4.2.1 :: .bot :: I q6 :: I y5 :: I y7 :: I t10 :: bt 61 [], [(56, .box [Ti 0, Ti 0, Ti 0, Ti 0]), (48, .box [Ti 0, Ti 0, Ti 0]), (24, .box [Ti f1.1, Ti f1.2.1, Ti f1.2.2])]⟩) ?_ ?_
 ·refine XR 3 ?_
  refine XC (zDd hy8) zDJ rfl rfl rfl ?_
  refine XR 4 ?_
  refine L0 rfl rfl (jJ (a := w64 (y8 - y7)) (b := w64 (2 * y5)) rfl kk kk (jC hz9)) ?_
  refine XR 1 ?_
  refine zH ?_
  subst ht10
  kernel_rfl
 obtain ⟨f11, hf11, h⟩ := zR h
 obtain ⟨f12, hf12, h⟩ := zR h
 refine zG (mb 76 61640) [120, 56, 48, 24] (s1 := ⟨bt 3 (.pt 24 0 :: .bot :: .bot :: .pt 48 0 :: .pt 56 0 :: bt 4 (I y5 :: I y7 :: I t10 :: .pt 120 0 :: bt 60 [])), [(120, .box [Ti x2, Ti f11, Ti y3, Ti f12]), (56, .box [Ti 0, Ti 0, Ti 0, Ti 0]), (48, .box [Ti 0, Ti 0, Ti 0]), (24, .box [Ti f1.1, Ti f1.2.1, Ti f1.2.2])]⟩) ?_ ?_
 ·refine XR 12 ?_
  refine L0 rfl rfl (qJ (cs := [Ti x2, Ti (w64 (q6 + (w64 (x2 * t10)))), Ti y3, Ti (w64 (y4.2.1 + (w64 (y3 * t10))))]) pl57 bt57 rfl rfl kk) ?_
  refine XR 2 ?_
  refine zH ?_
  subst hf11 hf12
  kernel_rfl
 obtain ⟨b13, hb13, h⟩ := zR h
 refine zG (mb 76 45256) [120, 56, 48, 24] (s1 := ⟨bt 3 (.pt 24 0 :: .bot :: .bot :: .pt 48 0 :: .pt 56 0 :: bt 4 (I y5 :: I b13 :: .bot :: .pt 120 0 :: bt 60 [])), [(120, .box [Ti x2, Ti f11, Ti y3, Ti f12]), (56, .box [Ti 0, Ti 0, Ti 0, Ti 0]), (48, .box [Ti 0, Ti 0, Ti 0]), (24, .box [Ti f1.1, Ti f1.2.1, Ti f1.2.2])]⟩) ?_ ?_
 ·refine XR 7 ?_
  refine zH ?_
  subst hb13
  kernel_rfl
 obtain ⟨y14, hy14, h⟩ := zA h
 obtain ⟨z15, hz15, h⟩ := zA h
 obtain ⟨f16, hf16, h⟩ := zR h
 refine zHS [0, 0, 0, 0, 12, 0, 32, 124, 0, 256, 1020, 2047, 0, 4095, 16383] 14 [[.z, .b, .b, .b, .b, .b, .b, .b, .b, .b, .b, .z, .b, .z], [.b, .z, .b, .b, .b, .b, .b, .b, .b, .b, .b, .z, .b, .z], [.b, .b, .z, .b, .z, .b, .b, .z, .b, .b, .z, .z, .b, .z], [.b, .b, .b, .z, .z, .b, .b, .z, .b, .b, .z, .z, .b, .z], [.b, .b, .a, .a, .z, .b, .b, .z, .b, .b, .z, .z, .b, .z], [.b, .b, .b, .b, .b, .z, .z, .z, .b, .b, .z, .z, .b, .z], [.b, .b, .b, .b, .b, .a, .z, .z, .b, .b, .z, .z, .b, .z], [.b, .b, .a, .a, .a, .a, .a, .z, .b, .b, .z, .z, .b, .z], [.b, .b, .b, .b, .b, .b, .b, .b, .z, .z, .z, .z, .b, .z], [.b, .b, .b, .b, .b, .b, .b, .b, .a, .z, .z, .z, .b, .z], [.b, .b, .a, .a, .a, .a, .a, .a, .a, .a, .z, .z, .b, .z], [.a, .a, .a, .a, .a, .a, .a, .a, .a, .a, .a, .z, .b, .z], [.b, .b, .b, .b, .b, .b, .b, .b, .b, .b, .b, .b, .z, .r 48], [.a, .a, .a, .a, .a, .a, .a, .a, .a, .a, .a, .a, .b, .z]] (mb 76 192) [56, 48] (s1 := ⟨bt 6 (.pt 48 0 :: .pt 56 0 :: bt 68 []), [(56, .box [Ti x2, Ti f11, Ti y3, Ti f12]), (48, .box [Ti y5, Ti b13, Ti f16])]⟩) kk kk ?_ ?_
 ·refine DR 6 ?_
  refine DC 6 (zDG hy14) zCl rfl rfl rfl rfl 69 rfl ?_
  refine DR 3 ?_
  refine DE_0 10 (I (w64 (Int.tdiv (w64 ((w64 (b13 * b13)) - y14)) (w64 (4 * y5))))) kk rfl rfl rfl (zAi rfl) kk (jJ (a := w64 ((w64 (b13 * b13)) - y14)) (b := w64 (4 * y5)) rfl kk kk (jC hz15)) 73 rfl ?_
  refine DE_0 11 (.ag [Ti y5, Ti b13, Ti (w64 (Int.tdiv (w64 ((w64 (b13 * b13)) - y14)) (w64 (4 * y5))))]) kk rfl rfl rfl (zAi rfl) kk (qJ (cs := [Ti y5, Ti b13, Ti (w64 (Int.tdiv (w64 ((w64 (b13 * b13)) - y14)) (w64 (4 * y5))))]) pl27 bt27 rfl rfl kk) 74 rfl ?_
  refine DA 2 ?_
  refine XR 1 ?_
  refine zH ?_
  subst hf16
  kernel_rfl
 cases h
 exact zM VT
theorem zGY : CfW Tryz.prog 182 := cfW Tryz.func182
theorem zGe {t1 : Int} {r : (Int × Int × Int × Int)} (h : zBb t1 = some r) : qE Tryz.prog 182 [I t1] (.ag [Ti r.1, Ti r.2.1, Ti r.2.2.1, Ti r.2.2.2]) [] := by
 refine qI (rs := [.w 2 4]) (vs := [.cell 2 57]) Tryz.func182 rfl rfl (.cons ⟨rfl, wd57⟩ FitsL.nil) (by decide) 5 rfl ?_
 unfold zBb at h
 refine VE ?_
 refine VS ?_
 refine YR 1 ?_
 refine L0 rfl rfl (qJ (cs := [Ti 1, Ti t1, Ti 0, Ti 1]) pl57 bt57 rfl rfl kk) ?_
 refine YF ?_
 cases h
 exact zM VT
theorem cf_spec_foDet : CfW Tryz.prog 218 := cfW Tryz.func218
theorem s_spec_foDet {vm1 : (Int × Int × Int × Int)} {r : Int} (h : zGI vm1 = some r) : qE Tryz.prog 218 [.ag [Ti vm1.1, Ti vm1.2.1, Ti vm1.2.2.1, Ti vm1.2.2.2]] (I r) [] := by
 refine CtW [2] Tryz.func218 rfl rfl 14 ?_
 unfold zGI at h
 refine VE ?_
 obtain ⟨t2, ht2, h⟩ := zR h
 refine zG (mb 14 4) [] (s1 := ⟨.bot :: .bot :: I t2 :: bt 11 [], []⟩) ?_ ?_
 ·refine XR 12 ?_
  refine zH ?_
  subst ht2
  kernel_rfl
 cases h
 exact zM VT
theorem zF8 : CfW Tryz.prog 183 := cfW Tryz.func183
theorem zFp {vm1 : (Int × Int × Int × Int)} {r : (Int × Int × Int × Int)} (h : zA3 vm1 = some r) : qE Tryz.prog 183 [.ag [Ti vm1.1, Ti vm1.2.1, Ti vm1.2.2.1, Ti vm1.2.2.2]] (.ag [Ti r.1, Ti r.2.1, Ti r.2.2.1, Ti r.2.2.2]) [] := by
 refine qI (rs := [.w 2 4]) (vs := [.cell 2 57]) Tryz.func183 rfl rfl (.cons ⟨rfl, wd57⟩ FitsL.nil) (by decide) 25 rfl ?_
 unfold zA3 at h
 refine VE ?_
 obtain ⟨y2, hy2, h⟩ := zA h
 refine VS ?_
 refine YK 1 (s_spec_foDet hy2) cf_spec_foDet ?_
 refine YF ?_
 obtain ⟨f3, hf3, h⟩ := zR h
 obtain ⟨f4, hf4, h⟩ := zR h
 obtain ⟨f5, hf5, h⟩ := zR h
 obtain ⟨f6, hf6, h⟩ := zR h
 refine zG (mb 25 4) [16] (s1 := ⟨.bot :: .bot :: .pt 16 0 :: bt 22 [], [(16, .box [Ti f3, Ti f4, Ti f5, Ti f6])]⟩) ?_ ?_
 ·refine XR 18 ?_
  refine L0 rfl rfl (qJ (cs := [Ti (w64 (y2 * vm1.2.2.2)), Ti (w64 ((w64 (0 - y2)) * vm1.2.1)), Ti (w64 ((w64 (0 - y2)) * vm1.2.2.1)), Ti (w64 (y2 * vm1.1))]) pl57 bt57 rfl rfl kk) ?_
  refine XR 1 ?_
  refine zH ?_
  subst hf3 hf4 hf5 hf6
  kernel_rfl
 cases h
 exact zM VT
theorem zI5 : CfW Tryz.prog 142 := cfW Tryz.func142
theorem zIi {f1 : (Int × Int × Int)} {p2 : Int} {r : (((Int × Int × Int)) × ((Int × Int × Int × Int)))} (h : zCC f1 p2 = some r) : qE Tryz.prog 142 [.ag [Ti f1.1, Ti f1.2.1, Ti f1.2.2], I p2] (.tc (.ag [Ti r.1.1, Ti r.1.2.1, Ti r.1.2.2]) (.tc (.ag [Ti r.2.1, Ti r.2.2.1, Ti r.2.2.2.1, Ti r.2.2.2.2]) .tn)) [] := by
 refine qI (rs := [.w 4 3, .w 5 4]) (vs := [.cell 4 27, .cell 5 57]) Tryz.func142 rfl rfl (.cons ⟨rfl, wd27⟩ (.cons ⟨rfl, wd57⟩ FitsL.nil)) (by decide) 92 rfl ?_
 unfold zCC at h
 refine VE ?_
 obtain ⟨y3, hy3, h⟩ := zA h
 refine VS ?_
 refine YK 1 (zEt hy3) zEh ?_
 refine YF ?_
 obtain ⟨y4, hy4, h⟩ := zA h
 refine VS ?_
 refine YK 2 (zJm hy4) zJW ?_
 refine YF ?_
 obtain ⟨y5, hy5, h⟩ := zA h
 refine VS ?_
 refine YK 3 (zIE hy5) zHm ?_
 refine YF ?_
 obtain ⟨y6, hy6, h⟩ := zA h
 refine VS ?_
 refine YK 2 (zCT hy6) zCB ?_
 refine YF ?_
 refine zO ?_
 refine VE ?_
 obtain ⟨qo9, hLo9, hko9⟩ := zA h
 refine zE6 (q := qo9) (S := fun o9 => ⟨bt 4 (.pt 32 0 :: .pt 40 0 :: bt 86 []), [(40, .box [Ti 0, Ti 0, Ti 0, Ti 0]), (32, .box [Ti 0, Ti 0, Ti 0])]⟩) (mb 92 48) [40, 32] ?_ ?_
 ·refine zL (qT (fun n s => ∃ (t7 : Int), s.keep (mb 92 5298) [80, 56, 40, 32] = (⟨.bot :: I p2 :: .bot :: .bot :: .pt 32 0 :: .pt 40 0 :: .bot :: .pt 56 0 :: .bot :: .bot :: .pt 80 0 :: .bot :: I t7 :: bt 79 [], [(80, .box [Ti y5.1.1, Ti y5.1.2.1, Ti y5.1.2.2]), (56, .box [Ti y6.1, Ti y6.2.1, Ti y6.2.2.1, Ti y6.2.2.2]), (40, .box [Ti 0, Ti 0, Ti 0, Ti 0]), (32, .box [Ti 0, Ti 0, Ti 0])]⟩ : St) ∧ zAJ p2 y5 y6 n t7 = some qo9) FU ⟨_,  kk, hLo9⟩ ?_)
  clear hLo9
  rintro n s ⟨t7, hs, h⟩
  refine qQ _ _ hs ?_
  clear hs
  cases n with
  | zero => cases h
  | succ n =>
   rw [zAJ] at h
   refine zO ?_
   refine VE ?_
   refine VC h (fun h => ?_) (fun h => ?_)
   ·refine zK ?_
    show V _ _ _ _
    refine zO ?_
    refine zL ?_
    obtain ⟨y11, hy11, h⟩ := zA h
    obtain ⟨y12, hy12, h⟩ := zA h
    refine VDS [0, 0, 2, 7, 0, 31] 5 (cdm 5 [552, 514, 518, 533, 170]) ?_
    refine EK 2 (zGe hy11) zGY ?_
    refine EK 0 (zFE hy12) zEo ?_
    refine EF 1 ?_
    refine zO ?_
    obtain ⟨z13, hz13, h⟩ := zA h
    obtain ⟨b16, hb16, h⟩ := zA h
    refine zG (mb 92 576460752303436978) [104, 80, 56, 40, 32] (s1 := ⟨.bot :: I p2 :: .bot :: .bot :: .pt 32 0 :: .pt 40 0 :: .bot :: .pt 56 0 :: .bot :: .bot :: .pt 80 0 :: .bot :: I t7 :: .pt 104 0 :: bt 45 (Bo b16 :: bt 32 []), [(104, .box [Ti y12.1, Ti y12.2.1, Ti y12.2.2]), (80, .box [Ti y5.1.1, Ti y5.1.2.1, Ti y5.1.2.2]), (56, .box [Ti y6.1, Ti y6.2.1, Ti y6.2.2.1, Ti y6.2.2.2]), (40, .box [Ti 0, Ti 0, Ti 0, Ti 0]), (32, .box [Ti 0, Ti 0, Ti 0])]⟩) ?_ ?_
    ·refine YR 3 ?_
     refine L0 rfl rfl (zCP (k := .i64) (a := y12.2.1) (b := p2) rfl kk kk (jC hz13)) ?_
     refine YR 2 ?_
     refine zU (!eqI (Int.tmod y12.2.1 p2) 0) (fun hc14 => ?_) (fun hc14 => ?_)
     ·have hb16 := zB (zT hb16 hc14)
      refine YQ hc14 ?_
      exact YE (by rw [← hb16]; (try rw [hc14]); kernel_rfl)
     ·have hb16 := zJ hb16 hc14
      obtain ⟨z15, hz15, hb16⟩ := zA hb16
      have hb16 := zB hb16
      refine YQ hc14 ?_
      refine YR 5 ?_
      refine YT (zD rfl (zCP (k := .i64) (a := y12.2.2) (b := w64 (p2 * p2)) rfl kk kk (jC hz15))) ?_
      exact YE (by rw [← hb16]; (try rw [hc14]); kernel_rfl)
    refine VC h (fun h => ?_) (fun h => ?_)
    ·refine qO ?_
     show V _ _ _ _
     obtain ⟨t18, ht18, h⟩ := zR h
     refine qS (mb 92 5298) [80, 56, 40, 32] (s1 := ⟨.bot :: I p2 :: .bot :: .bot :: .pt 32 0 :: .pt 40 0 :: .bot :: .pt 56 0 :: .bot :: .bot :: .pt 80 0 :: .bot :: I t18 :: bt 79 [], [(80, .box [Ti y5.1.1, Ti y5.1.2.1, Ti y5.1.2.2]), (56, .box [Ti y6.1, Ti y6.2.1, Ti y6.2.2.1, Ti y6.2.2.2]), (40, .box [Ti 0, Ti 0, Ti 0, Ti 0]), (32, .box [Ti 0, Ti 0, Ti 0])]⟩) ?_ ?_
     ·refine XR 3 ?_
      refine zH ?_
      subst ht18
      kernel_rfl
     exact ⟨n, Nat.lt_succ_self n, _,  kk, h⟩
    ·refine zK ?_
     show V _ _ _ _
     obtain ⟨z19, hz19, h⟩ := zA h
     obtain ⟨z20, hz20, h⟩ := zA h
     obtain ⟨y21, hy21, h⟩ := zA h
     refine VDS [0, 1, 0, 4, 0, 28, 0, 64, 0, 0, 768, 1984, 4095, 8191, 16383, 32767, 32767, 0, 0, 458751, 1048575] 20 [[.z, .z, .b, .b, .b, .b, .b, .b, .b, .b, .b, .b, .z, .z, .z, .z, .z, .b, .b, .z], [.a, .z, .b, .b, .b, .b, .b, .b, .b, .b, .b, .b, .z, .z, .z, .z, .z, .b, .b, .z], [.b, .b, .z, .z, .b, .z, .b, .b, .b, .b, .b, .b, .z, .z, .z, .z, .z, .b, .b, .z], [.b, .b, .a, .z, .b, .z, .b, .b, .b, .b, .b, .b, .z, .z, .z, .z, .z, .b, .b, .z], [.b, .b, .b, .b, .z, .z, .b, .b, .b, .b, .b, .b, .z, .z, .z, .z, .z, .b, .b, .z], [.b, .b, .a, .a, .a, .z, .b, .b, .b, .b, .b, .b, .z, .z, .z, .z, .z, .b, .b, .z], [.b, .b, .b, .b, .b, .b, .z, .z, .b, .b, .b, .z, .z, .z, .z, .z, .z, .b, .b, .z], [.b, .b, .b, .b, .b, .b, .a, .z, .b, .b, .b, .z, .z, .z, .z, .z, .z, .b, .b, .z], [.b, .b, .b, .b, .b, .b, .b, .b, .z, .b, .z, .z, .z, .z, .z, .z, .z, .b, .b, .z], [.b, .b, .b, .b, .b, .b, .b, .b, .b, .z, .z, .z, .z, .z, .z, .z, .z, .b, .b, .z], [.b, .b, .b, .b, .b, .b, .b, .b, .a, .a, .z, .z, .z, .z, .z, .z, .z, .b, .b, .z], [.b, .b, .b, .b, .b, .b, .a, .a, .a, .a, .a, .z, .z, .z, .z, .z, .z, .b, .b, .z], [.a, .a, .a, .a, .a, .a, .a, .a, .a, .a, .a, .a, .z, .z, .z, .z, .z, .b, .b, .z], [.a, .a, .a, .a, .a, .a, .a, .a, .a, .a, .a, .a, .a, .z, .z, .z, .z, .b, .b, .z], [.a, .a, .a, .a, .a, .a, .a, .a, .a, .a, .a, .a, .a, .a, .z, .z, .z, .b, .b, .z], [.a, .a, .a, .a, .a, .a, .a, .a, .a, .a, .a, .a, .a, .a, .a, .z, .b, .b, .b, .z], [.a, .a, .a, .a, .a, .a, .a, .a, .a, .a, .a, .a, .a, .a, .a, .b, .z, .b, .b, .r 112], [.b, .b, .b, .b, .b, .b, .b, .b, .b, .b, .b, .b, .b, .b, .b, .b, .b, .z, .b, .z], [.b, .b, .b, .b, .b, .b, .b, .b, .b, .b, .b, .b, .b, .b, .b, .b, .b, .b, .z, .z], [.a, .a, .a, .a, .a, .a, .a, .a, .a, .a, .a, .a, .a, .a, .a, .a, .b, .a, .a, .z]] ?_
     refine ER 5 ?_
     refine E0 5 rfl rfl (jJ (a := y12.2.1) (b := p2) rfl kk kk (jC hz19)) ?_
     refine ER 5 ?_
     refine E0 11 rfl rfl (jJ (a := y12.2.2) (b := w64 (p2 * p2)) rfl kk kk (jC hz20)) ?_
     refine E0 12 rfl rfl (qJ (cs := [Ti y12.1, Ti (w64 (Int.tdiv y12.2.1 p2)), Ti (w64 (Int.tdiv y12.2.2 (w64 (p2 * p2))))]) pl27 bt27 rfl rfl kk) ?_
     refine EK 0 (zEt hy21) zEh ?_
     refine EF 6 ?_
     obtain ⟨y22, hy22, h⟩ := zA h
     obtain ⟨y23, hy23, h⟩ := zA h
     refine VDS [0, 0, 2, 7, 15] 4 (cdm 4 [40, 2, 6, 21]) ?_
     refine EK 2 (zGe hy22) zGY ?_
     refine EK 0 (zCT hy23) zCB ?_
     refine EF 0 ?_
     obtain ⟨y24, hy24, h⟩ := zA h
     obtain ⟨y25, hy25, h⟩ := zA h
     obtain ⟨y26, hy26, h⟩ := zA h
     obtain ⟨y27, hy27, h⟩ := zA h
     refine zHS [0, 0, 2, 0, 8, 30, 0, 126, 254, 511, 1023] 9 (cdm 9 [174760, 8834, 8838, 8234, 8298, 8534, 2730, 5462, 21846]) (mb 92 48) [40, 32] (s1 := ⟨bt 4 (.pt 32 0 :: .pt 40 0 :: bt 86 []), [(40, .box [Ti y27.1, Ti y27.2.1, Ti y27.2.2.1, Ti y27.2.2.2]), (32, .box [Ti y21.1.1, Ti y21.1.2.1, Ti y21.1.2.2])]⟩) kk kk ?_ ?_
     ·refine EK 2 (zFp hy24) zF8 ?_
      refine ER 1 ?_
      refine E0 4 rfl rfl (qJ (cs := [Ti 1, Ti 0, Ti 0, Ti p2]) pl57 bt57 rfl rfl kk) ?_
      refine EK 0 (zCT hy25) zCB ?_
      refine EK 1 (zFp hy26) zF8 ?_
      refine EK 0 (zCT hy27) zCB ?_
      refine EA 0 ?_
      exact XE
     refine zM ?_
     obtain rfl := zB h
     have h := hko9
     obtain rfl := zB h
     exact VT
   ·refine qO ?_
    obtain rfl := zB h
    exact ⟨_, rfl, kk⟩
 rintro o9 rfl
 have h := hko9
 clear hko9
 show V _ _ _ _
 refine VS ?_
 refine L0 rfl rfl (qJ (cs := [Ti 0, Ti 0, Ti 0]) pl27 bt27 rfl rfl kk) ?_
 refine L0 rfl rfl (qJ (cs := [Ti 0, Ti 0, Ti 0, Ti 0]) pl57 bt57 rfl rfl kk) ?_
 refine YF ?_
 cases h
 exact zM VT
theorem zJU : CfW Tryz.prog 92 := cfW Tryz.func92
theorem zJk {g1 : (Int × Int × Int)} {p2 : Int} {r : List ((Int × Int × Int))} (h : zD0 g1 p2 = some r) : qE Tryz.prog 92 [.ag [Ti g1.1, Ti g1.2.1, Ti g1.2.2], I p2] (.ow 0) [(0, .arr 27 3 (r.map c27))] := by
 refine CtW [4] Tryz.func92 rfl rfl 37 ?_
 unfold zD0 at h
 refine VS ?_
 refine YR 1 ?_
 refine L1 rfl rfl (zDB (e := 27) 3 (by decide) (.inl rfl)) ?_
 refine YF ?_
 refine VS ?_
 refine L1 rfl rfl (zDB (e := 27) 3 (by decide) (.inl rfl)) ?_
 refine YF ?_
 refine zO ?_
 obtain ⟨y3, hy3, h⟩ := zA h
 obtain ⟨y4, hy4, h⟩ := zA h
 refine VS ?_
 refine YK 1 (zDG hy3) zCl ?_
 refine YK 4 (zH1 hy4) zHB ?_
 refine L0 rfl rfl (zBN (c := c27) (xs := y4) Tryz.underlying24 rfl kk) ?_
 refine YF ?_
 obtain ⟨o8, hLo8, h⟩ := zA h
 refine zAz (mb 37 32) [40] (s1 := ⟨bt 5 (.ow 40 :: bt 31 []), [(40, .arr 27 3 (o8.map c27))]⟩) ?_ ?_
 ·clear h
  refine zL (qT (fun n s => ∃ (t5 : Int) (l6 : List ((Int × Int × Int))), s.keep (mb 37 458790) [128, 40, 16] = (⟨.bot :: I p2 :: .pt 16 0 :: .bot :: .bot :: .ow 40 :: bt 10 (.ow 128 :: I ((y4.length : Int)) :: I t5 :: bt 18 []), [(128, .arr 27 3 (y4.map c27)), (40, .arr 27 3 (l6.map c27)), (16, .box [Ti g1.1, Ti g1.2.1, Ti g1.2.2])]⟩ : St) ∧ zBD g1 p2 y4 n t5 l6 = some o8) FU ⟨_, _,  kk, hLo8⟩ ?_)
  clear hLo8
  rintro n s ⟨t5, l6, hs, h⟩
  refine qQ _ _ hs ?_
  clear hs
  cases n with
  | zero => cases h
  | succ n =>
   rw [zBD] at h
   refine VE ?_
   refine zO ?_
   refine VC h (fun h => ?_) (fun h => ?_)
   ·refine zK ?_
    show V _ _ _ _
    refine zO ?_
    refine zL ?_
    obtain ⟨e10, he10, h⟩ := zA h
    obtain ⟨e11, he11, h⟩ := zA h
    refine VS ?_
    refine L0 rfl rfl (zEs (c := c27) (xs := y4) (v := e10) (id := 128) (T := 27) (sz := 3) (n := t5) Tryz.underlying24 sz27 rfl kk kk kk he10) ?_
    refine L0 rfl rfl (zFy (c := c27) (xs := y4) (v := e11) (id := 128) (sz := 3) (T := 27) (off := 0) (n := t5) [Ti e11.1, Ti e11.2.1, Ti e11.2.2] wd27 rfl kk kk he11 (Nat.le_of_ble_eq_true rfl) kk) ?_
    refine YF ?_
    obtain ⟨y12, hy12, h⟩ := zA h
    refine VS ?_
    refine YK 2 (zIi hy12) zI5 ?_
    refine YF ?_
    obtain ⟨t13, ht13, h⟩ := zA h
    have ht13 := zB ht13
    refine zG (mb 37 1074200742) [56, 128, 40, 16] (s1 := ⟨.bot :: I p2 :: .pt 16 0 :: .bot :: .bot :: .ow 40 :: .bot :: .pt 56 0 :: bt 8 (.ow 128 :: I ((y4.length : Int)) :: I t5 :: bt 11 (Bo t13 :: bt 6 [])), [(56, .box [Ti e11.1, Ti e11.2.1, Ti e11.2.2]), (128, .arr 27 3 (y4.map c27)), (40, .arr 27 3 (l6.map c27)), (16, .box [Ti g1.1, Ti g1.2.1, Ti g1.2.2])]⟩) ?_ ?_
    ·refine XR 2 ?_
     refine L0 rfl rfl (Y0_eqg3 (a0 := y12.1.1) (b0 := g1.1) (a1 := y12.1.2.1) (b1 := g1.2.1) (a2 := y12.1.2.2) (b2 := g1.2.2) eqg27 rfl kk kk) ?_
     refine zH ?_
     subst ht13
     kernel_rfl
    refine VC h (fun h => ?_) (fun h => ?_)
    ·obtain ⟨u15, hu15, h⟩ := zA h
     refine jS ?_
     refine YR 2 ?_
     refine L1 rfl rfl (zAI (z := zv27) (els := [e11].map c27) Tryz.underlying24 iz27 rfl (by decide) rfl kk rfl (by simp [c27]) (by decide) (by decide)) ?_
     refine zE rfl (zCm (c := c27) (xs := l6) (ys := [e11]) (id := 40) (z := zv27) rfl rfl Tryz.underlying24 zKA rfl kk kk kk (fun _ => rfl) (by simp) (zCg hu15) (by decide)) ?_
     refine YF ?_
     show V _ _ _ _
     obtain ⟨t16, ht16, h⟩ := zR h
     refine qS (mb 37 458790) [128, 40, 16] (s1 := ⟨.bot :: I p2 :: .pt 16 0 :: .bot :: .bot :: .ow 40 :: bt 10 (.ow 128 :: I ((y4.length : Int)) :: I t16 :: bt 18 []), [(128, .arr 27 3 (y4.map c27)), (40, .arr 27 3 ((l6 ++ ([e11])).map c27)), (16, .box [Ti g1.1, Ti g1.2.1, Ti g1.2.2])]⟩) ?_ ?_
     ·refine XR 2 ?_
      refine zH ?_
      subst ht16
      kernel_rfl
     exact ⟨n, Nat.lt_succ_self n, _, _,  kk, h⟩
    ·refine zK ?_
     show V _ _ _ _
     obtain ⟨t17, ht17, h⟩ := zR h
     refine qS (mb 37 458790) [128, 40, 16] (s1 := ⟨.bot :: I p2 :: .pt 16 0 :: .bot :: .bot :: .ow 40 :: bt 10 (.ow 128 :: I ((y4.length : Int)) :: I t17 :: bt 18 []), [(128, .arr 27 3 (y4.map c27)), (40, .arr 27 3 (l6.map c27)), (16, .box [Ti g1.1, Ti g1.2.1, Ti g1.2.2])]⟩) ?_ ?_
     ·refine XR 2 ?_
      refine zH ?_
      subst ht17
      kernel_rfl
     exact ⟨n, Nat.lt_succ_self n, _, _,  kk, h⟩
   ·refine qO ?_
    obtain rfl := zB h
    show St.keep _ _ _ = _
    kernel_rfl
 show V _ _ _ _
 refine VE ?_
 cases h
 exact zM VT
theorem zI7 : CfW Tryz.prog 32 := cfW Tryz.func32
theorem zIk {f1 : (Int × Int × Int)} {p2 : Int} {r : ((List ((Int × Int × Int))) × Bool)} (h : zA4 f1 p2 = some r) : qE Tryz.prog 32 [.ag [Ti f1.1, Ti f1.2.1, Ti f1.2.2], I p2] (.tc (.ow 0) (.tc (Bo r.2) .tn)) [(0, .arr 27 3 (r.1.map c27))] := by
 refine CtW [4, 5] Tryz.func32 rfl rfl 20 ?_
 unfold zA4 at h
 refine VS ?_
 refine YR 1 ?_
 refine L1 rfl rfl (zDB (e := 27) 3 (by decide) (.inl rfl)) ?_
 refine YF ?_
 refine zO ?_
 obtain ⟨y3, hy3, h⟩ := zA h
 obtain ⟨b7, hb7, h⟩ := zA h
 refine zG (mb 20 32774) [16] (s1 := ⟨.bot :: I p2 :: .pt 16 0 :: bt 12 (Bo b7 :: bt 4 []), [(16, .box [Ti f1.1, Ti f1.2.1, Ti f1.2.2])]⟩) ?_ ?_
 ·refine YK 1 (s_spec_coGood hy3) zKS ?_
  refine YR 2 ?_
  refine zU (!y3) (fun hc4 => ?_) (fun hc4 => ?_)
  ·have hb7 := zB (zT hb7 hc4)
   refine YQ hc4 ?_
   exact YE (by rw [← hb7]; (try rw [hc4]); kernel_rfl)
  ·have hb7 := zJ hb7 hc4
   obtain ⟨y5, hy5, hb7⟩ := zA hb7
   obtain ⟨y6, hy6, hb7⟩ := zA hb7
   have hb7 := zB hb7
   refine YQ hc4 ?_
   refine YK 1 (zDG hy5) zCl ?_
   refine YK 1 (s_spec_odUp hy6) cf_spec_odUp ?_
   exact YE (by rw [← hb7]; (try rw [hc4]); kernel_rfl)
 refine VC h (fun h => ?_) (fun h => ?_)
 ·refine VS ?_
  refine L1 rfl rfl (zDB (e := 27) 3 (by decide) (.inl rfl)) ?_
  refine YF ?_
  cases h
  exact zM VT
 ·refine zK ?_
  show V _ _ _ _
  obtain ⟨y9, hy9, h⟩ := zA h
  obtain ⟨y10, hy10, h⟩ := zA h
  refine VS ?_
  refine YK 1 (zJi hy9) zJS ?_
  refine YK 1 (zJk hy10) zJU ?_
  refine YF ?_
  cases h
  exact zM VT
theorem zJD : CfW Tryz.prog 111 := cfW Tryz.func111
theorem zJQ {vn1 : Int} {r : List Int} (h : zEu vn1 = some r) : qE Tryz.prog 111 [I vn1] (.ow 0) [(0, .arr 3 1 (r.map c3))] := by
 refine CtW [2] Tryz.func111 rfl rfl 50 ?_
 unfold zEu at h
 refine VS ?_
 refine L1 rfl rfl (zDB (e := 3) 1 (by decide) (.inl rfl)) ?_
 refine YF ?_
 refine VS ?_
 refine L1 rfl rfl (zBr Tryz.underlying34 sz3 (by decide) rfl rfl) ?_
 refine L1 rfl rfl (zBr Tryz.underlying34 sz3 (by decide) rfl rfl) ?_
 refine YF ?_
 refine zO ?_
 refine VE ?_
 obtain ⟨o6, hLo6, h⟩ := zA h
 refine zAz (mb 50 24) [64, 56] (s1 := ⟨bt 3 (.ow 56 :: .ow 64 :: bt 45 []), [(64, .arr 3 1 (o6.1.map c3)), (56, .arr 3 1 (o6.2.map c3))]⟩) ?_ ?_
 ·clear h
  refine zL (qT (fun n s => ∃ (k2 : Int) (l3 : List Int) (l4 : List Int), s.keep (mb 50 57) [64, 56] = (⟨I vn1 :: .bot :: .bot :: .ow 56 :: .ow 64 :: I k2 :: bt 44 [], [(64, .arr 3 1 (l3.map c3)), (56, .arr 3 1 (l4.map c3))]⟩ : St) ∧ zB3 vn1 n k2 l3 l4 = some o6) FU ⟨_, _, _,  kk, hLo6⟩ ?_)
  clear hLo6
  rintro n s ⟨k2, l3, l4, hs, h⟩
  refine qQ _ _ hs ?_
  clear hs
  cases n with
  | zero => cases h
  | succ n =>
   rw [zB3] at h
   refine zO ?_
   refine VE ?_
   refine VC h (fun h => ?_) (fun h => ?_)
   ·refine zK ?_
    show V _ _ _ _
    refine zO ?_
    refine zL ?_
    refine zO ?_
    obtain ⟨z8, hz8, h⟩ := zA h
    refine VS ?_
    refine YR 2 ?_
    refine L0 rfl rfl (zCP (k := .i64) (a := vn1) (b := k2) rfl kk kk (jC hz8)) ?_
    refine YF ?_
    refine VC h (fun h => ?_) (fun h => ?_)
    ·refine qO ?_
     show V _ _ _ _
     obtain ⟨k10, hk10, h⟩ := zR h
     refine qS (mb 50 57) [64, 56] (s1 := ⟨I vn1 :: .bot :: .bot :: .ow 56 :: .ow 64 :: I k10 :: bt 44 [], [(64, .arr 3 1 (l3.map c3)), (56, .arr 3 1 (l4.map c3))]⟩) ?_ ?_
     ·refine XR 3 ?_
      refine zH ?_
      subst hk10
      kernel_rfl
     exact ⟨n, Nat.lt_succ_self n, _, _, _,  kk, h⟩
    ·refine zK ?_
     show V _ _ _ _
     obtain ⟨u11, hu11, h⟩ := zA h
     refine VS ?_
     refine YR 2 ?_
     refine L1 rfl rfl (zAI (z := zv3) (els := [k2].map c3) Tryz.underlying34 iz3 rfl (by decide) rfl kk rfl (by simp [c3]) (by decide) (by decide)) ?_
     refine zE rfl (zCm (c := c3) (xs := l4) (ys := [k2]) (id := 56) (z := zv3) rfl rfl Tryz.underlying34 izb3 rfl kk kk kk (fun _ => rfl) (by simp) (zCg hu11) (by decide)) ?_
     refine YF ?_
     refine VE ?_
     refine VC h (fun h => ?_) (fun h => ?_)
     ·obtain ⟨z13, hz13, h⟩ := zA h
      obtain ⟨u14, hu14, h⟩ := zA h
      refine jS ?_
      refine YR 3 ?_
      refine L0 rfl rfl (jJ (a := vn1) (b := k2) rfl kk kk (jC hz13)) ?_
      refine L1 rfl rfl (zAI (z := zv3) (els := [w64 (Int.tdiv vn1 k2)].map c3) Tryz.underlying34 iz3 rfl (by decide) rfl kk rfl (by simp [c3]) (by decide) (by decide)) ?_
      refine zE rfl (zCm (c := c3) (xs := l3) (ys := [w64 (Int.tdiv vn1 k2)]) (id := 64) (z := zv3) rfl rfl Tryz.underlying34 izb3 rfl kk kk kk (fun _ => rfl) (by simp) (zCg hu14) (by decide)) ?_
      refine YF ?_
      show V _ _ _ _
      obtain ⟨k15, hk15, h⟩ := zR h
      refine qS (mb 50 57) [64, 56] (s1 := ⟨I vn1 :: .bot :: .bot :: .ow 56 :: .ow 64 :: I k15 :: bt 44 [], [(64, .arr 3 1 ((l3 ++ ([w64 (Int.tdiv vn1 k2)])).map c3)), (56, .arr 3 1 ((l4 ++ ([k2])).map c3))]⟩) ?_ ?_
      ·refine XR 3 ?_
       refine zH ?_
       subst hk15
       kernel_rfl
      exact ⟨n, Nat.lt_succ_self n, _, _, _,  kk, h⟩
     ·refine zK ?_
      show V _ _ _ _
      obtain ⟨k16, hk16, h⟩ := zR h
      refine qS (mb 50 57) [64, 56] (s1 := ⟨I vn1 :: .bot :: .bot :: .ow 56 :: .ow 64 :: I k16 :: bt 44 [], [(64, .arr 3 1 (l3.map c3)), (56, .arr 3 1 ((l4 ++ ([k2])).map c3))]⟩) ?_ ?_
      ·refine XR 3 ?_
       refine zH ?_
       subst hk16
       kernel_rfl
      exact ⟨n, Nat.lt_succ_self n, _, _, _,  kk, h⟩
   ·refine qO ?_
    obtain rfl := zB h
    show St.keep _ _ _ = _
    kernel_rfl
 show V _ _ _ _
 refine zO ?_
 obtain ⟨i17, hi17, h⟩ := zR h
 refine zG (mb 50 88) [64, 56] (s1 := ⟨bt 3 (.ow 56 :: .ow 64 :: .bot :: I i17 :: bt 43 []), [(64, .arr 3 1 (o6.1.map c3)), (56, .arr 3 1 (o6.2.map c3))]⟩) ?_ ?_
 ·refine XR 1 ?_
  refine L0 rfl rfl (zBN (c := c3) (xs := o6.1) Tryz.underlying34 rfl kk) ?_
  refine XR 2 ?_
  refine zH ?_
  subst hi17
  kernel_rfl
 obtain ⟨o21, hLo21, h⟩ := zA h
 refine zAz (mb 50 8) [56] (s1 := ⟨bt 3 (.ow 56 :: bt 46 []), [(56, .arr 3 1 (o21.map c3))]⟩) ?_ ?_
 ·clear h
  refine zL (qT (fun n s => ∃ (i18 : Int) (l19 : List Int), s.keep (mb 50 88) [64, 56] = (⟨bt 3 (.ow 56 :: .ow 64 :: .bot :: I i18 :: bt 43 []), [(64, .arr 3 1 (o6.1.map c3)), (56, .arr 3 1 (l19.map c3))]⟩ : St) ∧ zCe o6 n i18 l19 = some o21) FU ⟨_, _,  kk, hLo21⟩ ?_)
  clear hLo21
  rintro n s ⟨i18, l19, hs, h⟩
  refine qQ _ _ hs ?_
  clear hs
  cases n with
  | zero => cases h
  | succ n =>
   rw [zCe] at h
   refine zO ?_
   refine VE ?_
   refine VC h (fun h => ?_) (fun h => ?_)
   ·refine zK ?_
    show V _ _ _ _
    refine zO ?_
    refine zL ?_
    obtain ⟨e23, he23, h⟩ := zA h
    obtain ⟨e24, he24, h⟩ := zA h
    obtain ⟨u25, hu25, h⟩ := zA h
    refine jS ?_
    refine YR 3 ?_
    refine L0 rfl rfl (zEs (c := c3) (xs := o6.1) (v := e23) (id := 64) (T := 3) (sz := 1) (n := i18) Tryz.underlying34 sz3 rfl kk kk kk he23) ?_
    refine L0 rfl rfl (Y0_loado1 (c := c3) (xs := o6.1) (v := e24) (id := 64) (sz := 1) (T := 3) (off := 0) (n := i18) (d := Ti e24) (ds := []) sc3 rfl kk kk he24 kk) ?_
    refine L1 rfl rfl (zAI (z := zv3) (els := [e24].map c3) Tryz.underlying34 iz3 rfl (by decide) rfl kk rfl (by simp [c3]) (by decide) (by decide)) ?_
    refine zE rfl (zCm (c := c3) (xs := l19) (ys := [e24]) (id := 56) (z := zv3) rfl rfl Tryz.underlying34 izb3 rfl kk kk kk (fun _ => rfl) (by simp) (zCg hu25) (by decide)) ?_
    refine YF ?_
    show V _ _ _ _
    obtain ⟨i26, hi26, h⟩ := zR h
    refine qS (mb 50 88) [64, 56] (s1 := ⟨bt 3 (.ow 56 :: .ow 64 :: .bot :: I i26 :: bt 43 []), [(64, .arr 3 1 (o6.1.map c3)), (56, .arr 3 1 ((l19 ++ ([e24])).map c3))]⟩) ?_ ?_
    ·refine XR 3 ?_
     refine zH ?_
     subst hi26
     kernel_rfl
    exact ⟨n, Nat.lt_succ_self n, _, _,  kk, h⟩
   ·refine qO ?_
    obtain rfl := zB h
    show St.keep _ _ _ = _
    kernel_rfl
 show V _ _ _ _
 refine VE ?_
 cases h
 exact zM VT
theorem zG7 : CfW Tryz.prog 53 := cfW Tryz.func53
theorem zGi {vn1 : Int} {r : ((List ((Int × Int × Int))) × Bool)} (h : zBf vn1 = some r) : qE Tryz.prog 53 [I vn1] (.tc (.ow 0) (.tc (Bo r.2) .tn)) [(0, .arr 69 3 (r.1.map c69))] := by
 refine CtW [2, 3] Tryz.func53 rfl rfl 39 ?_
 unfold zBf at h
 refine VS ?_
 refine L1 rfl rfl (zDB (e := 69) 3 (by decide) (.inl rfl)) ?_
 refine YF ?_
 refine zO ?_
 refine zG (mb 39 8193) [] (s1 := ⟨I vn1 :: bt 12 (Bo (bif (ltI vn1 1) then true else (ltI 100 vn1)) :: bt 25 []), []⟩) ?_ ?_
 ·refine YR 3 ?_
  refine zU (ltI vn1 1) (fun hc2 => ?_) (fun hc2 => ?_)
  ·refine YQ hc2 ?_
   exact YE (by rw [hc2]; kernel_rfl)
  ·refine YQ hc2 ?_
   exact YE (by rw [hc2]; kernel_rfl)
 refine VC h (fun h => ?_) (fun h => ?_)
 ·refine VS ?_
  refine L1 rfl rfl (zBr Tryz.underlying66 sz69 (by decide) rfl rfl) ?_
  refine YF ?_
  cases h
  exact zM VT
 ·refine zK ?_
  show V _ _ _ _
  refine VS ?_
  refine L1 rfl rfl (zBr Tryz.underlying66 sz69 (by decide) rfl rfl) ?_
  refine YF ?_
  refine zO ?_
  obtain ⟨y4, hy4, h⟩ := zA h
  refine VS ?_
  refine YK 1 (zJQ hy4) zJD ?_
  refine L0 rfl rfl (zBN (c := c3) (xs := y4) Tryz.underlying34 rfl kk) ?_
  refine YF ?_
  obtain ⟨o8, hLo8, h⟩ := zA h
  refine zAz (mb 39 16) [120] (s1 := ⟨bt 4 (.ow 120 :: bt 34 []), [(120, .arr 69 3 (o8.map c69))]⟩) ?_ ?_
  ·clear h
   refine zL (qT (fun n s => ∃ (t5 : Int) (l6 : List ((Int × Int × Int))), s.keep (mb 39 917521) [136, 120] = (⟨I vn1 :: bt 3 (.ow 120 :: bt 12 (.ow 136 :: I ((y4.length : Int)) :: I t5 :: bt 19 [])), [(136, .arr 3 1 (y4.map c3)), (120, .arr 69 3 (l6.map c69))]⟩ : St) ∧ zBq vn1 y4 n t5 l6 = some o8) FU ⟨_, _,  kk, hLo8⟩ ?_)
   clear hLo8
   rintro n s ⟨t5, l6, hs, h⟩
   refine qQ _ _ hs ?_
   clear hs
   cases n with
   | zero => cases h
   | succ n =>
    rw [zBq] at h
    refine VE ?_
    refine zO ?_
    refine VC h (fun h => ?_) (fun h => ?_)
    ·refine zK ?_
     show V _ _ _ _
     refine zO ?_
     refine zL ?_
     obtain ⟨e10, he10, h⟩ := zA h
     obtain ⟨e11, he11, h⟩ := zA h
     refine VS ?_
     refine L0 rfl rfl (zEs (c := c3) (xs := y4) (v := e10) (id := 136) (T := 3) (sz := 1) (n := t5) Tryz.underlying34 sz3 rfl kk kk kk he10) ?_
     refine L0 rfl rfl (Y0_loado1 (c := c3) (xs := y4) (v := e11) (id := 136) (sz := 1) (T := 3) (off := 0) (n := t5) (d := Ti e11) (ds := []) sc3 rfl kk kk he11 kk) ?_
     refine YF ?_
     refine VE ?_
     obtain ⟨o15, hLo15, h⟩ := zA h
     refine zAz (mb 39 917521) [136, 120] (s1 := ⟨I vn1 :: bt 3 (.ow 120 :: bt 12 (.ow 136 :: I ((y4.length : Int)) :: I t5 :: bt 19 [])), [(136, .arr 3 1 (y4.map c3)), (120, .arr 69 3 (o15.map c69))]⟩) ?_ ?_
     ·clear h
      refine zL (qT (fun n s => ∃ (b12 : Int) (l13 : List ((Int × Int × Int))), s.keep (mb 39 917713) [136, 120] = (⟨I vn1 :: bt 3 (.ow 120 :: .bot :: I e11 :: I b12 :: bt 9 (.ow 136 :: I ((y4.length : Int)) :: I t5 :: bt 19 [])), [(136, .arr 3 1 (y4.map c3)), (120, .arr 69 3 (l13.map c69))]⟩ : St) ∧ zBa e11 t5 vn1 y4 n b12 l13 = some o15) FU ⟨_, _,  kk, hLo15⟩ ?_)
      clear hLo15
      rintro n s ⟨b12, l13, hs, h⟩
      refine qQ _ _ hs ?_
      clear hs
      cases n with
      | zero => cases h
      | succ n =>
       rw [zBa] at h
       refine zO ?_
       refine VE ?_
       refine VC h (fun h => ?_) (fun h => ?_)
       ·refine zK ?_
        show V _ _ _ _
        refine zO ?_
        refine zL ?_
        obtain ⟨z17, hz17, h⟩ := zA h
        obtain ⟨u18, hu18, h⟩ := zA h
        refine jS ?_
        refine YR 5 ?_
        refine L0 rfl rfl (jJ (a := vn1) (b := e11) rfl kk kk (jC hz17)) ?_
        refine L0 rfl rfl (qJ (cs := [Ti e11, Ti b12, Ti (w64 (Int.tdiv vn1 e11))]) pl69 bt69 rfl rfl kk) ?_
        refine L1 rfl rfl (zAI (z := zv69) (els := [(e11, b12, w64 (Int.tdiv vn1 e11))].map c69) Tryz.underlying66 iz69 rfl (by decide) rfl kk rfl (by simp [c69]) (by decide) (by decide)) ?_
        refine zE rfl (zCm (c := c69) (xs := l13) (ys := [(e11, b12, w64 (Int.tdiv vn1 e11))]) (id := 120) (z := zv69) rfl rfl Tryz.underlying66 izb69 rfl kk kk kk (fun _ => rfl) (by simp) (zCg hu18) (by decide)) ?_
        refine YF ?_
        show V _ _ _ _
        obtain ⟨b19, hb19, h⟩ := zR h
        refine qS (mb 39 917713) [136, 120] (s1 := ⟨I vn1 :: bt 3 (.ow 120 :: .bot :: I e11 :: I b19 :: bt 9 (.ow 136 :: I ((y4.length : Int)) :: I t5 :: bt 19 [])), [(136, .arr 3 1 (y4.map c3)), (120, .arr 69 3 ((l13 ++ ([(e11, b12, w64 (Int.tdiv vn1 e11))])).map c69))]⟩) ?_ ?_
        ·refine XR 3 ?_
         refine zH ?_
         subst hb19
         kernel_rfl
        exact ⟨n, Nat.lt_succ_self n, _, _,  kk, h⟩
       ·refine qO ?_
        obtain rfl := zB h
        show St.keep _ _ _ = _
        kernel_rfl
     show V _ _ _ _
     obtain ⟨t20, ht20, h⟩ := zR h
     refine qS (mb 39 917521) [136, 120] (s1 := ⟨I vn1 :: bt 3 (.ow 120 :: bt 12 (.ow 136 :: I ((y4.length : Int)) :: I t20 :: bt 19 [])), [(136, .arr 3 1 (y4.map c3)), (120, .arr 69 3 (o15.map c69))]⟩) ?_ ?_
     ·refine XR 2 ?_
      refine zH ?_
      subst ht20
      kernel_rfl
     exact ⟨n, Nat.lt_succ_self n, _, _,  kk, h⟩
    ·refine qO ?_
     obtain rfl := zB h
     show St.keep _ _ _ = _
     kernel_rfl
  show V _ _ _ _
  refine VE ?_
  cases h
  exact zM VT
theorem zJZ : CfW Tryz.prog 57 := cfW Tryz.func57
theorem zJp {list1 : List ((Int × Int × Int))} {f2 : (Int × Int × Int)} {r : Bool} (h : zD4 list1 f2 = some r) : qE Tryz.prog 57 [.c (.sl (list1.map c27)), .ag [Ti f2.1, Ti f2.2.1, Ti f2.2.2]] (Bo r) [] := by
 refine CtW [4] Tryz.func57 rfl rfl 17 ?_
 unfold zD4 at h
 refine VE ?_
 refine zO ?_
 refine VS ?_
 refine YR 1 ?_
 refine L0 rfl rfl (zBN (c := c27) (xs := list1) Tryz.underlying24 rfl kk) ?_
 refine YF ?_
 obtain ⟨qo5, hLo5, hko5⟩ := zA h
 refine zE6 (q := qo5) (S := fun o5 => ⟨bt 17 [], []⟩) (mb 17 0) [] ?_ ?_
 ·refine zL (qT (fun n s => ∃ (t3 : Int), s.keep (mb 17 904) [24] = (⟨bt 3 (.pt 24 0 :: bt 3 (.c (.sl (list1.map c27)) :: I ((list1.length : Int)) :: I t3 :: bt 7 [])), [(24, .box [Ti f2.1, Ti f2.2.1, Ti f2.2.2])]⟩ : St) ∧ zBp f2 list1 n t3 = some qo5) FU ⟨_,  kk, hLo5⟩ ?_)
  clear hLo5
  rintro n s ⟨t3, hs, h⟩
  refine qQ _ _ hs ?_
  clear hs
  cases n with
  | zero => cases h
  | succ n =>
   rw [zBp] at h
   refine VE ?_
   refine zO ?_
   refine VC h (fun h => ?_) (fun h => ?_)
   ·refine zK ?_
    show V _ _ _ _
    refine zO ?_
    refine zL ?_
    obtain ⟨e7, he7, h⟩ := zA h
    refine VS ?_
    refine L0 rfl rfl (zFG (c := c27) (xs := list1) (v := e7) (n := t3) Tryz.underlying24 sz27 rfl kk kk he7) ?_
    refine YF ?_
    obtain ⟨t8, ht8, h⟩ := zA h
    have ht8 := zB ht8
    refine zG (mb 17 33672) [24] (s1 := ⟨bt 3 (.pt 24 0 :: bt 3 (.c (.sl (list1.map c27)) :: I ((list1.length : Int)) :: I t3 :: bt 5 (Bo t8 :: .bot :: []))), [(24, .box [Ti f2.1, Ti f2.2.1, Ti f2.2.2])]⟩) ?_ ?_
    ·refine XR 2 ?_
     refine L0 rfl rfl (Y0_eqg3 (a0 := f2.1) (b0 := e7.1) (a1 := f2.2.1) (b1 := e7.2.1) (a2 := f2.2.2) (b2 := e7.2.2) eqg27 rfl kk kk) ?_
     refine zH ?_
     subst ht8
     kernel_rfl
    refine VC h (fun h => ?_) (fun h => ?_)
    ·refine VE ?_
     refine zM ?_
     obtain rfl := zB h
     have h := hko5
     obtain rfl := zB h
     exact VT
    ·refine zK ?_
     show V _ _ _ _
     obtain ⟨t10, ht10, h⟩ := zR h
     refine qS (mb 17 904) [24] (s1 := ⟨bt 3 (.pt 24 0 :: bt 3 (.c (.sl (list1.map c27)) :: I ((list1.length : Int)) :: I t10 :: bt 7 [])), [(24, .box [Ti f2.1, Ti f2.2.1, Ti f2.2.2])]⟩) ?_ ?_
     ·refine XR 2 ?_
      refine zH ?_
      subst ht10
      kernel_rfl
     exact ⟨n, Nat.lt_succ_self n, _,  kk, h⟩
   ·refine qO ?_
    obtain rfl := zB h
    exact ⟨_, rfl, kk⟩
 rintro o5 rfl
 have h := hko5
 clear hko5
 show V _ _ _ _
 refine VE ?_
 cases h
 exact zM VT
theorem qP : CfW Tryz.prog 116 := cfW Tryz.func116
theorem qV {i1 : Int} {k2 : Int} {cap3 : List ((Int × Int × Int))} {r : Bool} (h : qH i1 k2 cap3 = some r) : qE Tryz.prog 116 [I i1, I k2, .pe [.sl (cap3.map c27)]] (Bo r) [] := by
 refine CtW [5] Tryz.func116 rfl rfl 43 ?_
 unfold qH at h
 refine VE ?_
 obtain ⟨e4, he4, h⟩ := zA h
 obtain ⟨e5, he5, h⟩ := zA h
 refine VDS [0, 0, 3, 7, 0, 0, 48, 112, 0, 0, 783, 2047] 11 [[.z, .b, .z, .z, .b, .b, .b, .b, .b, .b, .z], [.b, .z, .z, .z, .b, .b, .b, .b, .b, .b, .z], [.a, .a, .z, .z, .b, .b, .b, .b, .b, .b, .z], [.a, .a, .a, .z, .b, .b, .b, .b, .b, .b, .z], [.b, .b, .b, .b, .z, .b, .z, .z, .b, .b, .r 48], [.b, .b, .b, .b, .b, .z, .z, .z, .b, .b, .r 48], [.b, .b, .b, .b, .a, .a, .z, .z, .b, .b, .r 48], [.b, .b, .b, .b, .a, .a, .a, .z, .b, .b, .r 48], [.b, .b, .b, .b, .b, .b, .b, .b, .z, .b, .z], [.b, .b, .b, .b, .b, .b, .b, .b, .b, .z, .z], [.a, .a, .a, .a, .b, .b, .b, .b, .a, .a, .z]] ?_
 refine ER 2 ?_
 refine E0 2 rfl rfl (zFG (c := c27) (xs := cap3) (v := e4) (n := i1) Tryz.underlying24 sz27 rfl kk kk he4) ?_
 refine ER 3 ?_
 refine E0 6 rfl rfl (zFG (c := c27) (xs := cap3) (v := e5) (n := k2) Tryz.underlying24 sz27 rfl kk kk he5) ?_
 refine EF 4 ?_
 refine zO ?_
 refine zL ?_
 refine VE ?_
 refine VC h (fun h => ?_) (fun h => ?_)
 ·refine VE ?_
  cases h
  exact zM VT
 ·refine VE ?_
  refine VC h (fun h => ?_) (fun h => ?_)
  ·refine VE ?_
   cases h
   exact zM VT
  ·refine zK ?_
   show V _ _ _ _
   refine VE ?_
   cases h
   exact zM VT
theorem zDa : CfW Tryz.prog 200 := cfW Tryz.func200
theorem zDk {xs0 : List ((Int × Int × Int))} {a1 : Int} {b2 : Int} {l0 lb : Loc} {b : Nat} (hb : lb.blk = some b) {r : List ((Int × Int × Int))} (h : zAD xs0 a1 b2 = some r) : ∀ σ : Nat → Loc, σ 90000 = l0 → σ 90008 = lb → zDt Tryz.prog 200 σ [.ag [.v (lsV b), .v (swV l0)], I a1, I b2] [(90000, .arr 27 3 (xs0.map c27)), (90008, .box [.v (zC l0)])] (.tn) [] [(90000, .arr 27 3 (r.map c27)), (90008, .box [.v (zC l0)])] := by
  intro σ e1 e2
  subst e1 e2
  refine jL (rs := []) (vs := []) Tryz.func200 rfl rfl FitsL.nil (by decide) 35 rfl rfl ?_
  unfold zAD at h
  show V _ _ ⟨.ag [.v (lsV b), .v (swV (σ 90000))] :: I a1 :: I b2 :: bt 32 [], [(90000, .parr (σ 90000) 27 3 (xs0.map c27)), (90008, .pbox (σ 90008) [.v (zC (σ 90000))])]⟩ _
  refine V_e (mb 35 14) [24, 90000, 90008] (s1 := ⟨.bot :: I a1 :: I b2 :: .pt 24 0 :: bt 31 [], [(24, .box [.v (lsV b), .v (swV (σ 90000))]), (90000, .parr (σ 90000) 27 3 (xs0.map c27)), (90008, .pbox (σ 90008) [.v (zC (σ 90000))])]⟩) ?_
  obtain ⟨i4, hi4, h⟩ := zR h
  refine zG (mb 35 78) [24, 90000, 90008] (s1 := ⟨.bot :: I a1 :: I b2 :: .pt 24 0 :: .bot :: .bot :: I i4 :: bt 28 [], [(24, .box [.v (lsV b), .v (swV (σ 90000))]), (90000, .parr (σ 90000) 27 3 (xs0.map c27)), (90008, .pbox (σ 90008) [.v (zC (σ 90000))])]⟩) ?_ ?_
  ·refine XR 3 ?_
   refine zH ?_
   subst hi4
   kernel_rfl
  obtain ⟨o8, hLo8, h⟩ := zA h
  refine zAz (mb 35 0) [90000, 90008] (s1 := ⟨bt 35 [], [(90000, .parr (σ 90000) 27 3 (o8.map c27)), (90008, .pbox (σ 90008) [.v (zC (σ 90000))])]⟩) ?_ ?_
  ·clear h
   refine zL (qT (fun n s => ∃ (i5 : Int) (l6 : List ((Int × Int × Int))), s.keep (mb 35 78) [24, 90000, 90008] = (⟨.bot :: I a1 :: I b2 :: .pt 24 0 :: .bot :: .bot :: I i5 :: bt 28 [], [(24, .box [.v (lsV b), .v (swV (σ 90000))]), (90000, .parr (σ 90000) 27 3 (l6.map c27)), (90008, .pbox (σ 90008) [.v (zC (σ 90000))])]⟩ : St) ∧ qR a1 b2 n i5 l6 = some o8) FU ⟨_, _,  by rfl, hLo8⟩ ?_)
   clear hLo8
   rintro n s ⟨i5, l6, hs, h⟩
   refine qQ _ _ hs ?_
   clear hs
   cases n with
   | zero => cases h
   | succ n =>
    rw [qR] at h
    refine zO ?_
    refine V_e (mb 35 4174) [24, 90000, 90008] (s1 := ⟨.bot :: I a1 :: I b2 :: .pt 24 0 :: .bot :: .bot :: I i5 :: bt 5 (Bo (ltI i5 b2) :: bt 22 []), [(24, .box [.v (lsV b), .v (swV (σ 90000))]), (90000, .parr (σ 90000) 27 3 (l6.map c27)), (90008, .pbox (σ 90008) [.v (zC (σ 90000))])]⟩) ?_
    refine qX rfl (fun hc9 => ?_) (fun hc9 => ?_)
    ·have h := zT h hc9
     refine zK ?_
     show V _ _ _ _
     refine zO ?_
     refine zL ?_
     refine V_e (mb 35 206) [24, 90000, 90008] (s1 := ⟨.bot :: I a1 :: I b2 :: .pt 24 0 :: .bot :: .bot :: I i5 :: I i5 :: bt 27 [], [(24, .box [.v (lsV b), .v (swV (σ 90000))]), (90000, .parr (σ 90000) 27 3 (l6.map c27)), (90008, .pbox (σ 90008) [.v (zC (σ 90000))])]⟩) ?_
     obtain ⟨o13, hLo13, h⟩ := zA h
     refine zAz (mb 35 78) [24, 90000, 90008] (s1 := ⟨.bot :: I a1 :: I b2 :: .pt 24 0 :: .bot :: .bot :: I i5 :: bt 28 [], [(24, .box [.v (lsV b), .v (swV (σ 90000))]), (90000, .parr (σ 90000) 27 3 (o13.map c27)), (90008, .pbox (σ 90008) [.v (zC (σ 90000))])]⟩) ?_ ?_
     ·clear h
      refine zL (qT (fun n s => ∃ (j10 : Int) (l11 : List ((Int × Int × Int))), s.keep (mb 35 206) [24, 90000, 90008] = (⟨.bot :: I a1 :: I b2 :: .pt 24 0 :: .bot :: .bot :: I i5 :: I j10 :: bt 27 [], [(24, .box [.v (lsV b), .v (swV (σ 90000))]), (90000, .parr (σ 90000) 27 3 (l11.map c27)), (90008, .pbox (σ 90008) [.v (zC (σ 90000))])]⟩ : St) ∧ jH a1 b2 i5 n j10 l11 = some o13) FU ⟨_, _,  by rfl, hLo13⟩ ?_)
      clear hLo13
      rintro n s ⟨j10, l11, hs, h⟩
      refine qQ _ _ hs ?_
      clear hs
      cases n with
      | zero => cases h
      | succ n =>
       rw [jH] at h
       refine zO ?_
       obtain ⟨b16, hb16, h⟩ := zA h
       refine zG (mb 35 67109070) [24, 90000, 90008] (s1 := ⟨.bot :: I a1 :: I b2 :: .pt 24 0 :: .bot :: .bot :: I i5 :: I j10 :: bt 18 (Bo b16 :: bt 8 []), [(24, .box [.v (lsV b), .v (swV (σ 90000))]), (90000, .parr (σ 90000) 27 3 (l11.map c27)), (90008, .pbox (σ 90008) [.v (zC (σ 90000))])]⟩) ?_ ?_
       ·refine XR 4 ?_
        refine zU (ltI a1 j10) (fun hc14 => ?_) (fun hc14 => ?_)
        ·have hb16 := zT hb16 hc14
         obtain ⟨y15, hy15, hb16⟩ := zA hb16
         have hb16 := zB hb16
         refine zF _ rfl rfl kk hc14 (zD rfl (zCM (.pt 24 0) Tryz.underlying145 rfl sz63 rfl kk (by intro hh; cases hh))) ?_
         refine zF _ rfl rfl kk hc14 (zD rfl (zBM (c := .v (lsV b)) (cs := [.v (swV (σ 90000))]) sc63 rfl kk)) ?_
         refine zF _ rfl rfl kk hc14 (zD rfl (qU (I j10) rfl kk)) ?_
         refine zF _ rfl rfl kk hc14 (zD rfl (qU (I j10) rfl kk)) ?_
         refine zF _ rfl rfl kk hc14 (zD rfl (zHJ (a := j10) (b := 1) rfl kk kk)) ?_
         refine zF _ rfl rfl kk hc14 (zAT rfl (zDj (l := σ 90000) (lb := σ 90008) (T0 := 27) (id := 90000) (bid := 90008) (sz := 3) (b := b) (els := l11.map c27) (i := j10) (j := w64 (j10 - 1)) (qV hy15) qP rfl kk kk kk kk hb kk)) ?_
         refine zE rfl (zD rfl (zB5 (b := ltI a1 j10) (p := y15) rfl kk hc14 kk hb16)) ?_
         exact XE
        ·have hb16 := zB (zJ hb16 hc14)
         refine zV _ rfl rfl kk hc14 rfl ?_
         refine zV _ rfl rfl kk hc14 rfl ?_
         refine zV _ rfl rfl kk hc14 rfl ?_
         refine zV _ rfl rfl kk hc14 rfl ?_
         refine zV _ rfl rfl kk hc14 rfl ?_
         refine zV _ rfl rfl kk hc14 rfl ?_
         refine zE rfl (zD rfl (zB6 (b := ltI a1 j10) (p := false) rfl kk hc14 kk hb16)) ?_
         exact XE
       refine qX rfl (fun hc17 => ?_) (fun hc17 => ?_)
       ·have h := zT h hc17
        refine zK ?_
        show V _ _ _ _
        refine zO ?_
        refine zL ?_
        obtain ⟨e18, he18, h⟩ := zA h
        obtain ⟨e19, he19, h⟩ := zA h
        obtain ⟨l20, hl20, h⟩ := zA h
        have hl20 := zB hl20
        refine qS (mb 35 206) [24, 90000, 90008] (s1 := ⟨.bot :: I a1 :: I b2 :: .pt 24 0 :: .bot :: .bot :: I i5 :: I j10 :: bt 27 [], [(24, .box [.v (lsV b), .v (swV (σ 90000))]), (90000, .parr (σ 90000) 27 3 (l20.map c27)), (90008, .pbox (σ 90008) [.v (zC (σ 90000))])]⟩) ?_ ?_
        ·refine XR 5 ?_
         refine zE rfl (zEG (c := c27) (xs := l11) (u := e18) (v := e19) (I1 := j10) (J1 := w64 (j10 - 1)) (l := σ 90000) (T0 := 27) (id := 90000) (g := false) swX agX sz27 rfl kk rfl kk kk kk he18 he19) ?_
         refine zH ?_
         subst hl20
         kernel_rfl
        show V _ _ _ _
        obtain ⟨j21, hj21, h⟩ := zR h
        refine qS (mb 35 206) [24, 90000, 90008] (s1 := ⟨.bot :: I a1 :: I b2 :: .pt 24 0 :: .bot :: .bot :: I i5 :: I j21 :: bt 27 [], [(24, .box [.v (lsV b), .v (swV (σ 90000))]), (90000, .parr (σ 90000) 27 3 (l20.map c27)), (90008, .pbox (σ 90008) [.v (zC (σ 90000))])]⟩) ?_ ?_
        ·refine XR 3 ?_
         refine zH ?_
         subst hj21
         kernel_rfl
        exact ⟨n, Nat.lt_succ_self n, _, _,  by rfl, h⟩
       ·have h := zJ h hc17
        refine qO ?_
        obtain rfl := zB h
        show St.keep _ _ _ = _
        rfl
     show V _ _ _ _
     obtain ⟨i22, hi22, h⟩ := zR h
     refine qS (mb 35 78) [24, 90000, 90008] (s1 := ⟨.bot :: I a1 :: I b2 :: .pt 24 0 :: .bot :: .bot :: I i22 :: bt 28 [], [(24, .box [.v (lsV b), .v (swV (σ 90000))]), (90000, .parr (σ 90000) 27 3 (o13.map c27)), (90008, .pbox (σ 90008) [.v (zC (σ 90000))])]⟩) ?_ ?_
     ·refine XR 3 ?_
      refine zH ?_
      subst hi22
      kernel_rfl
     exact ⟨n, Nat.lt_succ_self n, _, _,  by rfl, h⟩
    ·have h := zJ h hc9
     refine qO ?_
     obtain rfl := zB h
     show St.keep _ _ _ = _
     rfl
  obtain rfl := zB h
  show zDX _ _ _ _ _ _
  exact ⟨⟨.inl rfl, rfl, rfl, rfl⟩, ⟨rfl, ⟨rfl, trivial⟩⟩⟩
theorem zDq : CfW Tryz.prog 231 := cfW Tryz.func231
theorem zEH {xs0 : List ((Int × Int × Int))} {a1 : Int} {b2 : Int} {swaps3 : Int} {l0 lb : Loc} {b : Nat} (hb : lb.blk = some b) {r : (Int × Int × (List ((Int × Int × Int))) × Int)} (h : zCG xs0 a1 b2 swaps3 = some r) : ∀ σ : Nat → Loc, σ 90000 = l0 → σ 90008 = lb → zDt Tryz.prog 231 σ [.ag [.v (lsV b), .v (swV l0)], I a1, I b2, .pt 80024 0] [(90000, .arr 27 3 (xs0.map c27)), (90008, .box [.v (zC l0)]), (80024, .box [Ti swaps3])] (.tc (I r.1) (.tc (I r.2.1) .tn)) [] [(90000, .arr 27 3 (r.2.2.1.map c27)), (90008, .box [.v (zC l0)]), (80024, .box [Ti r.2.2.2])] := by
  intro σ e1 e2
  subst e1 e2
  refine jL (rs := [.t 8, .t 9]) (vs := [.tmp 8, .tmp 9]) Tryz.func231 rfl rfl (.cons rfl (.cons rfl FitsL.nil)) (by decide) 24 rfl rfl ?_
  unfold zCG at h
  show V _ _ ⟨.ag [.v (lsV b), .v (swV (σ 90000))] :: I a1 :: I b2 :: .pt 80024 0 :: bt 20 [], [(90000, .parr (σ 90000) 27 3 (xs0.map c27)), (90008, .pbox (σ 90008) [.v (zC (σ 90000))]), (80024, .pbox (σ 80024) [Ti swaps3])]⟩ _
  refine V_e (mb 24 30) [32, 90000, 90008, 80024] (s1 := ⟨.bot :: I a1 :: I b2 :: .pt 80024 0 :: .pt 32 0 :: bt 19 [], [(32, .box [.v (lsV b), .v (swV (σ 90000))]), (90000, .parr (σ 90000) 27 3 (xs0.map c27)), (90008, .pbox (σ 90008) [.v (zC (σ 90000))]), (80024, .pbox (σ 80024) [Ti swaps3])]⟩) ?_
  refine zO ?_
  obtain ⟨y5, hy5, h⟩ := zA h
  refine zG (mb 24 16398) [90000, 90008, 80024] (s1 := ⟨.bot :: I a1 :: I b2 :: .pt 80024 0 :: bt 10 (Bo y5 :: bt 9 []), [(90000, .parr (σ 90000) 27 3 (xs0.map c27)), (90008, .pbox (σ 90008) [.v (zC (σ 90000))]), (80024, .pbox (σ 80024) [Ti swaps3])]⟩) ?_ ?_
  ·refine XR 4 ?_
   refine L1 rfl rfl (zDj (l := σ 90000) (lb := σ 90008) (T0 := 27) (id := 90000) (bid := 90008) (sz := 3) (b := b) (els := xs0.map c27) (i := b2) (j := a1) (qV hy5) qP rfl kk kk kk kk hb kk) ?_
   exact XE
  refine qX rfl (fun hc6 => ?_) (fun hc6 => ?_)
  ·have h := zT h hc6
   obtain ⟨f7, hf7, h⟩ := zR h
   refine zG (mb 24 6) [90000, 90008, 80024] (s1 := ⟨.bot :: I a1 :: I b2 :: bt 21 [], [(90000, .parr (σ 90000) 27 3 (xs0.map c27)), (90008, .pbox (σ 90008) [.v (zC (σ 90000))]), (80024, .pbox (σ 80024) [Ti f7])]⟩) ?_ ?_
   ·refine XR 1 ?_
    refine L0 rfl rfl (zFx (.pt 80024 0) rfl kk (by intro hh; cases hh)) ?_
    refine XR 2 ?_
    refine L0 rfl rfl (zFx (.pt 80024 0) rfl kk (by intro hh; cases hh)) ?_
    refine XR 1 ?_
    refine zH ?_
    subst hf7
    kernel_rfl
   refine V_e (mb 24 768) [90000, 90008, 80024] (s1 := ⟨bt 8 (I b2 :: I a1 :: bt 14 []), [(90000, .parr (σ 90000) 27 3 (xs0.map c27)), (90008, .pbox (σ 90008) [.v (zC (σ 90000))]), (80024, .pbox (σ 80024) [Ti f7])]⟩) ?_
   refine zM ?_
   obtain rfl := zB h
   show zDX _ _ _ _ _ _
   exact ⟨⟨.inr rfl, rfl, rfl, rfl⟩, ⟨rfl, ⟨rfl, ⟨rfl, trivial⟩⟩⟩⟩
  ·have h := zJ h hc6
   refine zK ?_
   show V _ _ _ _
   refine V_e (mb 24 768) [90000, 90008, 80024] (s1 := ⟨bt 8 (I a1 :: I b2 :: bt 14 []), [(90000, .parr (σ 90000) 27 3 (xs0.map c27)), (90008, .pbox (σ 90008) [.v (zC (σ 90000))]), (80024, .pbox (σ 80024) [Ti swaps3])]⟩) ?_
   refine zM ?_
   obtain rfl := zB h
   show zDX _ _ _ _ _ _
   exact ⟨⟨.inr rfl, rfl, rfl, rfl⟩, ⟨rfl, ⟨rfl, ⟨rfl, trivial⟩⟩⟩⟩
theorem zFA : CfW Tryz.prog 223 := cfW Tryz.func223
theorem zFL {xs0 : List ((Int × Int × Int))} {a1 : Int} {b2 : Int} {c3 : Int} {swaps4 : Int} {l0 lb : Loc} {b : Nat} (hb : lb.blk = some b) {r : (Int × (List ((Int × Int × Int))) × Int)} (h : zCr xs0 a1 b2 c3 swaps4 = some r) : ∀ σ : Nat → Loc, σ 90000 = l0 → σ 90008 = lb → zDt Tryz.prog 223 σ [.ag [.v (lsV b), .v (swV l0)], I a1, I b2, I c3, .pt 80032 0] [(90000, .arr 27 3 (xs0.map c27)), (90008, .box [.v (zC l0)]), (80032, .box [Ti swaps4])] (I r.1) [] [(90000, .arr 27 3 (r.2.1.map c27)), (90008, .box [.v (zC l0)]), (80032, .box [Ti r.2.2])] := by
  intro σ e1 e2
  subst e1 e2
  refine jL (rs := [.t 10]) (vs := [.tmp 10]) Tryz.func223 rfl rfl (.cons rfl FitsL.nil) (by decide) 36 rfl rfl ?_
  unfold zCr at h
  show V _ _ ⟨.ag [.v (lsV b), .v (swV (σ 90000))] :: I a1 :: I b2 :: I c3 :: .pt 80032 0 :: bt 31 [], [(90000, .parr (σ 90000) 27 3 (xs0.map c27)), (90008, .pbox (σ 90008) [.v (zC (σ 90000))]), (80032, .pbox (σ 80032) [Ti swaps4])]⟩ _
  refine V_e (mb 36 62) [40, 90000, 90008, 80032] (s1 := ⟨.bot :: I a1 :: I b2 :: I c3 :: .pt 80032 0 :: .pt 40 0 :: bt 30 [], [(40, .box [.v (lsV b), .v (swV (σ 90000))]), (90000, .parr (σ 90000) 27 3 (xs0.map c27)), (90008, .pbox (σ 90008) [.v (zC (σ 90000))]), (80032, .pbox (σ 80032) [Ti swaps4])]⟩) ?_
  obtain ⟨y6, hy6, h⟩ := zA h
  refine zG (mb 36 62) [40, 90000, 90008, 80032] (s1 := ⟨.bot :: I y6.1 :: I y6.2.1 :: I c3 :: .pt 80032 0 :: .pt 40 0 :: bt 30 [], [(40, .box [.v (lsV b), .v (swV (σ 90000))]), (90000, .parr (σ 90000) 27 3 (y6.2.2.1.map c27)), (90008, .pbox (σ 90008) [.v (zC (σ 90000))]), (80032, .pbox (σ 80032) [Ti y6.2.2.2])]⟩) ?_ ?_
  ·refine XR 4 ?_
   refine zE rfl (zAZ (l := σ 90000) (lb := σ 90008) (T0 := 27) (sz := 3) (els := xs0.map c27) (cs := [.v (zC (σ 90000))]) (E' := [(40, .box [.v (lsV b), .v (swV (σ 90000))]), (90000, .parr (σ 90000) 27 3 (y6.2.2.1.map c27)), (90008, .pbox (σ 90008) [.v (zC (σ 90000))]), (80032, .pbox (σ 80032) [Ti y6.2.2.2])]) [(80024, 80032)] 16 (fun σ' e1 e2 => zEH (l0 := σ 90000) hb hy6 σ' e1 e2) zDq kk kk rfl rfl rfl rfl kk rfl (zI kk (zI kk (zI kk zZ))) rfl kk rfl rfl kk) ?_
   exact XE
  obtain ⟨y7, hy7, h⟩ := zA h
  refine zG (mb 36 54) [40, 90000, 90008, 80032] (s1 := ⟨.bot :: I y6.1 :: I y7.1 :: .bot :: .pt 80032 0 :: .pt 40 0 :: bt 30 [], [(40, .box [.v (lsV b), .v (swV (σ 90000))]), (90000, .parr (σ 90000) 27 3 (y7.2.2.1.map c27)), (90008, .pbox (σ 90008) [.v (zC (σ 90000))]), (80032, .pbox (σ 80032) [Ti y7.2.2.2])]⟩) ?_ ?_
  ·refine XR 4 ?_
   refine zE rfl (zAZ (l := σ 90000) (lb := σ 90008) (T0 := 27) (sz := 3) (els := y6.2.2.1.map c27) (cs := [.v (zC (σ 90000))]) (E' := [(40, .box [.v (lsV b), .v (swV (σ 90000))]), (90000, .parr (σ 90000) 27 3 (y7.2.2.1.map c27)), (90008, .pbox (σ 90008) [.v (zC (σ 90000))]), (80032, .pbox (σ 80032) [Ti y7.2.2.2])]) [(80024, 80032)] 24 (fun σ' e1 e2 => zEH (l0 := σ 90000) hb hy7 σ' e1 e2) zDq kk kk rfl rfl rfl rfl kk rfl (zI kk (zI kk (zI kk zZ))) rfl kk rfl rfl kk) ?_
   exact XE
  obtain ⟨y8, hy8, h⟩ := zA h
  refine zG (mb 36 4) [90000, 90008, 80032] (s1 := ⟨.bot :: .bot :: I y8.2.1 :: bt 33 [], [(90000, .parr (σ 90000) 27 3 (y8.2.2.1.map c27)), (90008, .pbox (σ 90008) [.v (zC (σ 90000))]), (80032, .pbox (σ 80032) [Ti y8.2.2.2])]⟩) ?_ ?_
  ·refine XR 4 ?_
   refine zE rfl (zAZ (l := σ 90000) (lb := σ 90008) (T0 := 27) (sz := 3) (els := y7.2.2.1.map c27) (cs := [.v (zC (σ 90000))]) (E' := [(40, .box [.v (lsV b), .v (swV (σ 90000))]), (90000, .parr (σ 90000) 27 3 (y8.2.2.1.map c27)), (90008, .pbox (σ 90008) [.v (zC (σ 90000))]), (80032, .pbox (σ 80032) [Ti y8.2.2.2])]) [(80024, 80032)] 32 (fun σ' e1 e2 => zEH (l0 := σ 90000) hb hy8 σ' e1 e2) zDq kk kk rfl rfl rfl rfl kk rfl (zI kk (zI kk (zI kk zZ))) rfl kk rfl rfl kk) ?_
   exact XE
  refine V_e (mb 36 1024) [90000, 90008, 80032] (s1 := ⟨bt 10 (I y8.2.1 :: bt 25 []), [(90000, .parr (σ 90000) 27 3 (y8.2.2.1.map c27)), (90008, .pbox (σ 90008) [.v (zC (σ 90000))]), (80032, .pbox (σ 80032) [Ti y8.2.2.2])]⟩) ?_
  refine zM ?_
  obtain rfl := zB h
  show zDX _ _ _ _ _ _
  exact ⟨⟨.inr rfl, rfl, rfl, rfl⟩, ⟨rfl, ⟨rfl, ⟨rfl, trivial⟩⟩⟩⟩
theorem zBz : CfW Tryz.prog 222 := cfW Tryz.func222
theorem zCE {xs0 : List ((Int × Int × Int))} {a1 : Int} {swaps2 : Int} {l0 lb : Loc} {b : Nat} (hb : lb.blk = some b) {r : (Int × (List ((Int × Int × Int))) × Int)} (h : zAV xs0 a1 swaps2 = some r) : ∀ σ : Nat → Loc, σ 90000 = l0 → σ 90008 = lb → zDt Tryz.prog 222 σ [.ag [.v (lsV b), .v (swV l0)], I a1, .pt 80016 0] [(90000, .arr 27 3 (xs0.map c27)), (90008, .box [.v (zC l0)]), (80016, .box [Ti swaps2])] (I r.1) [] [(90000, .arr 27 3 (r.2.1.map c27)), (90008, .box [.v (zC l0)]), (80016, .box [Ti r.2.2])] := by
  intro σ e1 e2
  subst e1 e2
  refine jL (rs := [.t 6]) (vs := [.tmp 6]) Tryz.func222 rfl rfl (.cons rfl FitsL.nil) (by decide) 15 rfl rfl ?_
  unfold zAV at h
  show V _ _ ⟨.ag [.v (lsV b), .v (swV (σ 90000))] :: I a1 :: .pt 80016 0 :: bt 12 [], [(90000, .parr (σ 90000) 27 3 (xs0.map c27)), (90008, .pbox (σ 90008) [.v (zC (σ 90000))]), (80016, .pbox (σ 80016) [Ti swaps2])]⟩ _
  refine V_e (mb 15 14) [24, 90000, 90008, 80016] (s1 := ⟨.bot :: I a1 :: .pt 80016 0 :: .pt 24 0 :: bt 11 [], [(24, .box [.v (lsV b), .v (swV (σ 90000))]), (90000, .parr (σ 90000) 27 3 (xs0.map c27)), (90008, .pbox (σ 90008) [.v (zC (σ 90000))]), (80016, .pbox (σ 80016) [Ti swaps2])]⟩) ?_
  obtain ⟨y4, hy4, h⟩ := zA h
  refine zG (mb 15 64) [90000, 90008, 80016] (s1 := ⟨bt 6 (I y4.1 :: bt 8 []), [(90000, .parr (σ 90000) 27 3 (y4.2.1.map c27)), (90008, .pbox (σ 90008) [.v (zC (σ 90000))]), (80016, .pbox (σ 80016) [Ti y4.2.2])]⟩) ?_ ?_
  ·refine XR 7 ?_
   refine zE rfl (zAZ (l := σ 90000) (lb := σ 90008) (T0 := 27) (sz := 3) (els := xs0.map c27) (cs := [.v (zC (σ 90000))]) (E' := [(24, .box [.v (lsV b), .v (swV (σ 90000))]), (90000, .parr (σ 90000) 27 3 (y4.2.1.map c27)), (90008, .pbox (σ 90008) [.v (zC (σ 90000))]), (80016, .pbox (σ 80016) [Ti y4.2.2])]) [(80032, 80016)] 14 (fun σ' e1 e2 => zFL (l0 := σ 90000) hb hy4 σ' e1 e2) zFA kk kk rfl rfl rfl rfl kk rfl (zI kk (zI kk (zI kk zZ))) rfl kk rfl rfl kk) ?_
   exact XE
  refine zM ?_
  obtain rfl := zB h
  show zDX _ _ _ _ _ _
  exact ⟨⟨.inr rfl, rfl, rfl, rfl⟩, ⟨rfl, ⟨rfl, ⟨rfl, trivial⟩⟩⟩⟩
theorem zEA : CfW Tryz.prog 203 := cfW Tryz.func203
theorem zEM {xs0 : List ((Int × Int × Int))} {a1 : Int} {b2 : Int} {l0 lb : Loc} {b : Nat} (hb : lb.blk = some b) {r : (Int × Int × (List ((Int × Int × Int))))} (h : zBo xs0 a1 b2 = some r) : ∀ σ : Nat → Loc, σ 90000 = l0 → σ 90008 = lb → zDt Tryz.prog 203 σ [.ag [.v (lsV b), .v (swV l0)], I a1, I b2] [(90000, .arr 27 3 (xs0.map c27)), (90008, .box [.v (zC l0)])] (.tc (I r.1) (.tc (I r.2.1) .tn)) [] [(90000, .arr 27 3 (r.2.2.map c27)), (90008, .box [.v (zC l0)])] := by
  intro σ e1 e2
  subst e1 e2
  refine jL (rs := [.t 6, .t 7]) (vs := [.tmp 6, .tmp 7]) Tryz.func203 rfl rfl (.cons rfl (.cons rfl FitsL.nil)) (by decide) 57 rfl rfl ?_
  unfold zBo at h
  show V _ _ ⟨.ag [.v (lsV b), .v (swV (σ 90000))] :: I a1 :: I b2 :: bt 54 [], [(90000, .parr (σ 90000) 27 3 (xs0.map c27)), (90008, .pbox (σ 90008) [.v (zC (σ 90000))])]⟩ _
  refine V_e (mb 57 14) [24, 90000, 90008] (s1 := ⟨.bot :: I a1 :: I b2 :: .pt 24 0 :: bt 53 [], [(24, .box [.v (lsV b), .v (swV (σ 90000))]), (90000, .parr (σ 90000) 27 3 (xs0.map c27)), (90008, .pbox (σ 90008) [.v (zC (σ 90000))])]⟩) ?_
  obtain ⟨l4, hl4, h⟩ := zR h
  refine zG (mb 57 266) [24, 90000, 90008] (s1 := ⟨.bot :: I a1 :: .bot :: .pt 24 0 :: bt 4 (I l4 :: bt 48 []), [(24, .box [.v (lsV b), .v (swV (σ 90000))]), (90000, .parr (σ 90000) 27 3 (xs0.map c27)), (90008, .pbox (σ 90008) [.v (zC (σ 90000))])]⟩) ?_ ?_
  ·refine XR 4 ?_
   refine zH ?_
   subst hl4
   kernel_rfl
  refine V_e (mb 57 778) [72, 24, 90000, 90008] (s1 := ⟨.bot :: I a1 :: .bot :: .pt 24 0 :: bt 4 (I l4 :: .pt 72 0 :: bt 47 []), [(72, .box [Ti 0]), (24, .box [.v (lsV b), .v (swV (σ 90000))]), (90000, .parr (σ 90000) 27 3 (xs0.map c27)), (90008, .pbox (σ 90008) [.v (zC (σ 90000))])]⟩) ?_
  obtain ⟨i5, hi5, h⟩ := zR h
  refine zG (mb 57 1802) [72, 24, 90000, 90008] (s1 := ⟨.bot :: I a1 :: .bot :: .pt 24 0 :: bt 4 (I l4 :: .pt 72 0 :: I i5 :: bt 46 []), [(72, .box [Ti 0]), (24, .box [.v (lsV b), .v (swV (σ 90000))]), (90000, .parr (σ 90000) 27 3 (xs0.map c27)), (90008, .pbox (σ 90008) [.v (zC (σ 90000))])]⟩) ?_ ?_
  ·refine XR 2 ?_
   refine L0 rfl rfl (jJ (a := l4) (b := 4) rfl kk kk (by decide)) ?_
   refine XR 3 ?_
   refine zH ?_
   subst hi5
   kernel_rfl
  obtain ⟨j6, hj6, h⟩ := zR h
  refine zG (mb 57 3850) [72, 24, 90000, 90008] (s1 := ⟨.bot :: I a1 :: .bot :: .pt 24 0 :: bt 4 (I l4 :: .pt 72 0 :: I i5 :: I j6 :: bt 45 []), [(72, .box [Ti 0]), (24, .box [.v (lsV b), .v (swV (σ 90000))]), (90000, .parr (σ 90000) 27 3 (xs0.map c27)), (90008, .pbox (σ 90008) [.v (zC (σ 90000))])]⟩) ?_ ?_
  ·refine XR 2 ?_
   refine L0 rfl rfl (jJ (a := l4) (b := 4) rfl kk kk (by decide)) ?_
   refine XR 3 ?_
   refine zH ?_
   subst hj6
   kernel_rfl
  obtain ⟨k7, hk7, h⟩ := zR h
  refine zG (mb 57 7944) [72, 24, 90000, 90008] (s1 := ⟨bt 3 (.pt 24 0 :: bt 4 (I l4 :: .pt 72 0 :: I i5 :: I j6 :: I k7 :: bt 44 [])), [(72, .box [Ti 0]), (24, .box [.v (lsV b), .v (swV (σ 90000))]), (90000, .parr (σ 90000) 27 3 (xs0.map c27)), (90008, .pbox (σ 90008) [.v (zC (σ 90000))])]⟩) ?_ ?_
  ·refine XR 2 ?_
   refine L0 rfl rfl (jJ (a := l4) (b := 4) rfl kk kk (by decide)) ?_
   refine XR 3 ?_
   refine zH ?_
   subst hk7
   kernel_rfl
  obtain ⟨j8, hj8, h⟩ := zA h
  refine zEj (mb 57 2560) [72, 90000, 90008] (s1 := ⟨bt 9 (.pt 72 0 :: .bot :: I j8.1 :: bt 45 []), [(72, .box [Ti j8.2.1]), (90000, .parr (σ 90000) 27 3 (j8.2.2.map c27)), (90008, .pbox (σ 90008) [.v (zC (σ 90000))])]⟩) ?_ ?_
  ·clear h
   have h := hj8
   clear hj8
   refine V_e (mb 57 4294975240) [72, 24, 90000, 90008] (s1 := ⟨bt 3 (.pt 24 0 :: bt 4 (I l4 :: .pt 72 0 :: I i5 :: I j6 :: I k7 :: bt 19 (Bo (leI 8 l4) :: bt 24 []))), [(72, .box [Ti 0]), (24, .box [.v (lsV b), .v (swV (σ 90000))]), (90000, .parr (σ 90000) 27 3 (xs0.map c27)), (90008, .pbox (σ 90008) [.v (zC (σ 90000))])]⟩) ?_
   refine qX rfl (fun hc9 => ?_) (fun hc9 => ?_)
   ·have h := zT h hc9
    obtain ⟨j10, hj10, h⟩ := zA h
    refine zEj (mb 57 7688) [72, 24, 90000, 90008] (s1 := ⟨bt 3 (.pt 24 0 :: bt 5 (.pt 72 0 :: I j10.1 :: I j10.2.1 :: I j10.2.2.1 :: bt 44 [])), [(72, .box [Ti j10.2.2.2.1]), (24, .box [.v (lsV b), .v (swV (σ 90000))]), (90000, .parr (σ 90000) 27 3 (j10.2.2.2.2.map c27)), (90008, .pbox (σ 90008) [.v (zC (σ 90000))])]⟩) ?_ ?_
    ·clear h
     have h := hj10
     clear hj10
     refine V_e (mb 57 17179876872) [72, 24, 90000, 90008] (s1 := ⟨bt 3 (.pt 24 0 :: bt 5 (.pt 72 0 :: I i5 :: I j6 :: I k7 :: bt 21 (Bo (leI 50 l4) :: bt 22 []))), [(72, .box [Ti 0]), (24, .box [.v (lsV b), .v (swV (σ 90000))]), (90000, .parr (σ 90000) 27 3 (xs0.map c27)), (90008, .pbox (σ 90008) [.v (zC (σ 90000))])]⟩) ?_
     refine qX rfl (fun hc11 => ?_) (fun hc11 => ?_)
     ·have h := zT h hc11
      obtain ⟨y12, hy12, h⟩ := zA h
      refine zG (mb 57 7688) [72, 24, 90000, 90008] (s1 := ⟨bt 3 (.pt 24 0 :: bt 5 (.pt 72 0 :: I y12.1 :: I j6 :: I k7 :: bt 44 [])), [(72, .box [Ti y12.2.2]), (24, .box [.v (lsV b), .v (swV (σ 90000))]), (90000, .parr (σ 90000) 27 3 (y12.2.1.map c27)), (90008, .pbox (σ 90008) [.v (zC (σ 90000))])]⟩) ?_ ?_
      ·refine XR 2 ?_
       refine zE rfl (zAZ (l := σ 90000) (lb := σ 90008) (T0 := 27) (sz := 3) (els := xs0.map c27) (cs := [.v (zC (σ 90000))]) (E' := [(72, .box [Ti y12.2.2]), (24, .box [.v (lsV b), .v (swV (σ 90000))]), (90000, .parr (σ 90000) 27 3 (y12.2.1.map c27)), (90008, .pbox (σ 90008) [.v (zC (σ 90000))])]) [(80016, 72)] 37 (fun σ' e1 e2 => zCE (l0 := σ 90000) hb hy12 σ' e1 e2) zBz kk kk rfl rfl rfl rfl kk rfl (zI kk (zI kk (zI kk zZ))) rfl kk rfl rfl kk) ?_
       exact XE
      obtain ⟨y13, hy13, h⟩ := zA h
      refine zG (mb 57 7688) [72, 24, 90000, 90008] (s1 := ⟨bt 3 (.pt 24 0 :: bt 5 (.pt 72 0 :: I y12.1 :: I y13.1 :: I k7 :: bt 44 [])), [(72, .box [Ti y13.2.2]), (24, .box [.v (lsV b), .v (swV (σ 90000))]), (90000, .parr (σ 90000) 27 3 (y13.2.1.map c27)), (90008, .pbox (σ 90008) [.v (zC (σ 90000))])]⟩) ?_ ?_
      ·refine XR 2 ?_
       refine zE rfl (zAZ (l := σ 90000) (lb := σ 90008) (T0 := 27) (sz := 3) (els := y12.2.1.map c27) (cs := [.v (zC (σ 90000))]) (E' := [(72, .box [Ti y13.2.2]), (24, .box [.v (lsV b), .v (swV (σ 90000))]), (90000, .parr (σ 90000) 27 3 (y13.2.1.map c27)), (90008, .pbox (σ 90008) [.v (zC (σ 90000))])]) [(80016, 72)] 40 (fun σ' e1 e2 => zCE (l0 := σ 90000) hb hy13 σ' e1 e2) zBz kk kk rfl rfl rfl rfl kk rfl (zI kk (zI kk (zI kk zZ))) rfl kk rfl rfl kk) ?_
       exact XE
      obtain ⟨y14, hy14, h⟩ := zA h
      refine qS (mb 57 7688) [72, 24, 90000, 90008] (s1 := ⟨bt 3 (.pt 24 0 :: bt 5 (.pt 72 0 :: I y12.1 :: I y13.1 :: I y14.1 :: bt 44 [])), [(72, .box [Ti y14.2.2]), (24, .box [.v (lsV b), .v (swV (σ 90000))]), (90000, .parr (σ 90000) 27 3 (y14.2.1.map c27)), (90008, .pbox (σ 90008) [.v (zC (σ 90000))])]⟩) ?_ ?_
      ·refine XR 2 ?_
       refine zE rfl (zAZ (l := σ 90000) (lb := σ 90008) (T0 := 27) (sz := 3) (els := y13.2.1.map c27) (cs := [.v (zC (σ 90000))]) (E' := [(72, .box [Ti y14.2.2]), (24, .box [.v (lsV b), .v (swV (σ 90000))]), (90000, .parr (σ 90000) 27 3 (y14.2.1.map c27)), (90008, .pbox (σ 90008) [.v (zC (σ 90000))])]) [(80016, 72)] 43 (fun σ' e1 e2 => zCE (l0 := σ 90000) hb hy14 σ' e1 e2) zBz kk kk rfl rfl rfl rfl kk rfl (zI kk (zI kk (zI kk zZ))) rfl kk rfl rfl kk) ?_
       exact XE
      obtain rfl := zB h
      show St.keep _ _ _ = _
      rfl
     ·have h := zJ h hc11
      refine zK ?_
      obtain rfl := zB h
      show St.keep _ _ _ = _
      rfl
    obtain ⟨y15, hy15, h⟩ := zA h
    refine qS (mb 57 2560) [72, 90000, 90008] (s1 := ⟨bt 9 (.pt 72 0 :: .bot :: I y15.1 :: bt 45 []), [(72, .box [Ti y15.2.2]), (90000, .parr (σ 90000) 27 3 (y15.2.1.map c27)), (90008, .pbox (σ 90008) [.v (zC (σ 90000))])]⟩) ?_ ?_
    ·refine XR 4 ?_
     refine zE rfl (zAZ (l := σ 90000) (lb := σ 90008) (T0 := 27) (sz := 3) (els := j10.2.2.2.2.map c27) (cs := [.v (zC (σ 90000))]) (E' := [(72, .box [Ti y15.2.2]), (24, .box [.v (lsV b), .v (swV (σ 90000))]), (90000, .parr (σ 90000) 27 3 (y15.2.1.map c27)), (90008, .pbox (σ 90008) [.v (zC (σ 90000))])]) [(80032, 72)] 48 (fun σ' e1 e2 => zFL (l0 := σ 90000) hb hy15 σ' e1 e2) zFA kk kk rfl rfl rfl rfl kk rfl (zI kk (zI kk (zI kk zZ))) rfl kk rfl rfl kk) ?_
     exact XE
    obtain rfl := zB h
    show St.keep _ _ _ = _
    rfl
   ·have h := zJ h hc9
    refine zK ?_
    obtain rfl := zB h
    show St.keep _ _ _ = _
    rfl
  refine V_e (mb 57 562949953423360) [90000, 90008] (s1 := ⟨bt 11 (I j8.1 :: bt 37 (I j8.2.1 :: bt 7 [])), [(90000, .parr (σ 90000) 27 3 (j8.2.2.map c27)), (90008, .pbox (σ 90008) [.v (zC (σ 90000))])]⟩) ?_
  refine zL ?_
  refine V_e (mb 57 2814749767108608) [90000, 90008] (s1 := ⟨bt 11 (I j8.1 :: bt 37 (I j8.2.1 :: .bot :: Bo (eqI j8.2.1 0) :: bt 5 [])), [(90000, .parr (σ 90000) 27 3 (j8.2.2.map c27)), (90008, .pbox (σ 90008) [.v (zC (σ 90000))])]⟩) ?_
  refine qX rfl (fun hc16 => ?_) (fun hc16 => ?_)
  ·have h := zT h hc16
   refine V_e (mb 57 192) [90000, 90008] (s1 := ⟨bt 6 (I j8.1 :: I 1 :: bt 49 []), [(90000, .parr (σ 90000) 27 3 (j8.2.2.map c27)), (90008, .pbox (σ 90008) [.v (zC (σ 90000))])]⟩) ?_
   refine zM ?_
   obtain rfl := zB h
   show zDX _ _ _ _ _ _
   exact ⟨⟨.inr rfl, rfl, rfl, rfl⟩, ⟨rfl, ⟨rfl, trivial⟩⟩⟩
  ·have h := zJ h hc16
   refine V_e (mb 57 18014398509484032) [90000, 90008] (s1 := ⟨bt 11 (I j8.1 :: bt 42 (Bo (eqI j8.2.1 12) :: .bot :: .bot :: [])), [(90000, .parr (σ 90000) 27 3 (j8.2.2.map c27)), (90008, .pbox (σ 90008) [.v (zC (σ 90000))])]⟩) ?_
   refine qX rfl (fun hc17 => ?_) (fun hc17 => ?_)
   ·have h := zT h hc17
    refine V_e (mb 57 192) [90000, 90008] (s1 := ⟨bt 6 (I j8.1 :: I 2 :: bt 49 []), [(90000, .parr (σ 90000) 27 3 (j8.2.2.map c27)), (90008, .pbox (σ 90008) [.v (zC (σ 90000))])]⟩) ?_
    refine zM ?_
    obtain rfl := zB h
    show zDX _ _ _ _ _ _
    exact ⟨⟨.inr rfl, rfl, rfl, rfl⟩, ⟨rfl, ⟨rfl, trivial⟩⟩⟩
   ·have h := zJ h hc17
    refine V_e (mb 57 192) [90000, 90008] (s1 := ⟨bt 6 (I j8.1 :: I 0 :: bt 49 []), [(90000, .parr (σ 90000) 27 3 (j8.2.2.map c27)), (90008, .pbox (σ 90008) [.v (zC (σ 90000))])]⟩) ?_
    refine zM ?_
    obtain rfl := zB h
    show zDX _ _ _ _ _ _
    exact ⟨⟨.inr rfl, rfl, rfl, rfl⟩, ⟨rfl, ⟨rfl, trivial⟩⟩⟩
theorem zDl : CfW Tryz.prog 204 := cfW Tryz.func204
theorem zDw {xs0 : List ((Int × Int × Int))} {a1 : Int} {b2 : Int} {l0 lb : Loc} {b : Nat} (hb : lb.blk = some b) {r : List ((Int × Int × Int))} (h : zB7 xs0 a1 b2 = some r) : ∀ σ : Nat → Loc, σ 90000 = l0 → σ 90008 = lb → zDt Tryz.prog 204 σ [.ag [.v (lsV b), .v (swV l0)], I a1, I b2] [(90000, .arr 27 3 (xs0.map c27)), (90008, .box [.v (zC l0)])] (.tn) [] [(90000, .arr 27 3 (r.map c27)), (90008, .box [.v (zC l0)])] := by
  intro σ e1 e2
  subst e1 e2
  refine jL (rs := []) (vs := []) Tryz.func204 rfl rfl FitsL.nil (by decide) 23 rfl rfl ?_
  unfold zB7 at h
  show V _ _ ⟨.ag [.v (lsV b), .v (swV (σ 90000))] :: I a1 :: I b2 :: bt 20 [], [(90000, .parr (σ 90000) 27 3 (xs0.map c27)), (90008, .pbox (σ 90008) [.v (zC (σ 90000))])]⟩ _
  refine V_e (mb 23 14) [24, 90000, 90008] (s1 := ⟨.bot :: I a1 :: I b2 :: .pt 24 0 :: bt 19 [], [(24, .box [.v (lsV b), .v (swV (σ 90000))]), (90000, .parr (σ 90000) 27 3 (xs0.map c27)), (90008, .pbox (σ 90008) [.v (zC (σ 90000))])]⟩) ?_
  refine V_e (mb 23 76) [24, 90000, 90008] (s1 := ⟨.bot :: .bot :: I b2 :: .pt 24 0 :: .bot :: .bot :: I a1 :: bt 16 [], [(24, .box [.v (lsV b), .v (swV (σ 90000))]), (90000, .parr (σ 90000) 27 3 (xs0.map c27)), (90008, .pbox (σ 90008) [.v (zC (σ 90000))])]⟩) ?_
  obtain ⟨j4, hj4, h⟩ := zR h
  refine zG (mb 23 200) [24, 90000, 90008] (s1 := ⟨bt 3 (.pt 24 0 :: .bot :: .bot :: I a1 :: I j4 :: bt 15 []), [(24, .box [.v (lsV b), .v (swV (σ 90000))]), (90000, .parr (σ 90000) 27 3 (xs0.map c27)), (90008, .pbox (σ 90008) [.v (zC (σ 90000))])]⟩) ?_ ?_
  ·refine XR 3 ?_
   refine zH ?_
   subst hj4
   kernel_rfl
  obtain ⟨o9, hLo9, h⟩ := zA h
  refine zAz (mb 23 0) [90000, 90008] (s1 := ⟨bt 23 [], [(90000, .parr (σ 90000) 27 3 (o9.map c27)), (90008, .pbox (σ 90008) [.v (zC (σ 90000))])]⟩) ?_ ?_
  ·clear h
   refine zL (qT (fun n s => ∃ (i5 : Int) (j6 : Int) (l7 : List ((Int × Int × Int))), s.keep (mb 23 200) [24, 90000, 90008] = (⟨bt 3 (.pt 24 0 :: .bot :: .bot :: I i5 :: I j6 :: bt 15 []), [(24, .box [.v (lsV b), .v (swV (σ 90000))]), (90000, .parr (σ 90000) 27 3 (l7.map c27)), (90008, .pbox (σ 90008) [.v (zC (σ 90000))])]⟩ : St) ∧ zAy n i5 j6 l7 = some o9) FU ⟨_, _, _,  by rfl, hLo9⟩ ?_)
   clear hLo9
   rintro n s ⟨i5, j6, l7, hs, h⟩
   refine qQ _ _ hs ?_
   clear hs
   cases n with
   | zero => cases h
   | succ n =>
    rw [zAy] at h
    refine zO ?_
    refine V_e (mb 23 8392) [24, 90000, 90008] (s1 := ⟨bt 3 (.pt 24 0 :: .bot :: .bot :: I i5 :: I j6 :: bt 5 (Bo (ltI i5 j6) :: bt 9 [])), [(24, .box [.v (lsV b), .v (swV (σ 90000))]), (90000, .parr (σ 90000) 27 3 (l7.map c27)), (90008, .pbox (σ 90008) [.v (zC (σ 90000))])]⟩) ?_
    refine qX rfl (fun hc10 => ?_) (fun hc10 => ?_)
    ·have h := zT h hc10
     refine zK ?_
     show V _ _ _ _
     refine zL ?_
     obtain ⟨e11, he11, h⟩ := zA h
     obtain ⟨e12, he12, h⟩ := zA h
     refine zG (mb 23 200) [24, 90000, 90008] (s1 := ⟨bt 3 (.pt 24 0 :: .bot :: .bot :: I i5 :: I j6 :: bt 15 []), [(24, .box [.v (lsV b), .v (swV (σ 90000))]), (90000, .parr (σ 90000) 27 3 (((l7.set (Int.toNat (i5)) e12).set (Int.toNat (j6)) e11).map c27)), (90008, .pbox (σ 90008) [.v (zC (σ 90000))])]⟩) ?_ ?_
     ·refine XR 4 ?_
      refine zE rfl (zEG (c := c27) (xs := l7) (u := e11) (v := e12) (I1 := i5) (J1 := j6) (l := σ 90000) (T0 := 27) (id := 90000) (g := false) swX agX sz27 rfl kk rfl kk kk kk he11 he12) ?_
      exact XE
     obtain ⟨i13, hi13, h⟩ := zR h
     refine zG (mb 23 200) [24, 90000, 90008] (s1 := ⟨bt 3 (.pt 24 0 :: .bot :: .bot :: I i13 :: I j6 :: bt 15 []), [(24, .box [.v (lsV b), .v (swV (σ 90000))]), (90000, .parr (σ 90000) 27 3 (((l7.set (Int.toNat (i5)) e12).set (Int.toNat (j6)) e11).map c27)), (90008, .pbox (σ 90008) [.v (zC (σ 90000))])]⟩) ?_ ?_
     ·refine XR 3 ?_
      refine zH ?_
      subst hi13
      kernel_rfl
     obtain ⟨j14, hj14, h⟩ := zR h
     refine qS (mb 23 200) [24, 90000, 90008] (s1 := ⟨bt 3 (.pt 24 0 :: .bot :: .bot :: I i13 :: I j14 :: bt 15 []), [(24, .box [.v (lsV b), .v (swV (σ 90000))]), (90000, .parr (σ 90000) 27 3 (((l7.set (Int.toNat (i5)) e12).set (Int.toNat (j6)) e11).map c27)), (90008, .pbox (σ 90008) [.v (zC (σ 90000))])]⟩) ?_ ?_
     ·refine XR 3 ?_
      refine zH ?_
      subst hj14
      kernel_rfl
     exact ⟨n, Nat.lt_succ_self n, _, _, _,  by rfl, h⟩
    ·have h := zJ h hc10
     refine qO ?_
     obtain rfl := zB h
     show St.keep _ _ _ = _
     rfl
  obtain rfl := zB h
  show zDX _ _ _ _ _ _
  exact ⟨⟨.inl rfl, rfl, rfl, rfl⟩, ⟨rfl, ⟨rfl, trivial⟩⟩⟩
theorem zCN : CfW Tryz.prog 205 := cfW Tryz.func205
theorem zCU {xs0 : List ((Int × Int × Int))} {a1 : Int} {b2 : Int} {l0 lb : Loc} {b : Nat} (hb : lb.blk = some b) {r : (Bool × (List ((Int × Int × Int))))} (h : zAO xs0 a1 b2 = some r) : ∀ σ : Nat → Loc, σ 90000 = l0 → σ 90008 = lb → zDt Tryz.prog 205 σ [.ag [.v (lsV b), .v (swV l0)], I a1, I b2] [(90000, .arr 27 3 (xs0.map c27)), (90008, .box [.v (zC l0)])] (Bo r.1) [] [(90000, .arr 27 3 (r.2.map c27)), (90008, .box [.v (zC l0)])] := by
  intro σ e1 e2
  subst e1 e2
  refine jL (rs := [.t 6]) (vs := [.tmp 6]) Tryz.func205 rfl rfl (.cons rfl FitsL.nil) (by decide) 91 rfl rfl ?_
  unfold zAO at h
  show V _ _ ⟨.ag [.v (lsV b), .v (swV (σ 90000))] :: I a1 :: I b2 :: bt 88 [], [(90000, .parr (σ 90000) 27 3 (xs0.map c27)), (90008, .pbox (σ 90008) [.v (zC (σ 90000))])]⟩ _
  refine V_e (mb 91 14) [24, 90000, 90008] (s1 := ⟨.bot :: I a1 :: I b2 :: .pt 24 0 :: bt 87 [], [(24, .box [.v (lsV b), .v (swV (σ 90000))]), (90000, .parr (σ 90000) 27 3 (xs0.map c27)), (90008, .pbox (σ 90008) [.v (zC (σ 90000))])]⟩) ?_
  obtain ⟨i4, hi4, h⟩ := zR h
  refine zG (mb 91 142) [24, 90000, 90008] (s1 := ⟨.bot :: I a1 :: I b2 :: .pt 24 0 :: bt 3 (I i4 :: bt 83 []), [(24, .box [.v (lsV b), .v (swV (σ 90000))]), (90000, .parr (σ 90000) 27 3 (xs0.map c27)), (90008, .pbox (σ 90008) [.v (zC (σ 90000))])]⟩) ?_ ?_
  ·refine XR 3 ?_
   refine zH ?_
   subst hi4
   kernel_rfl
  refine zO ?_
  refine V_e (mb 91 398) [24, 90000, 90008] (s1 := ⟨.bot :: I a1 :: I b2 :: .pt 24 0 :: bt 3 (I i4 :: I 0 :: bt 82 []), [(24, .box [.v (lsV b), .v (swV (σ 90000))]), (90000, .parr (σ 90000) 27 3 (xs0.map c27)), (90008, .pbox (σ 90008) [.v (zC (σ 90000))])]⟩) ?_
  obtain ⟨qo9, hLo9, hko9⟩ := zA h
  refine zE6 (q := qo9) (S := fun o9 => ⟨bt 91 [], [(90000, .parr (σ 90000) 27 3 (o9.map c27)), (90008, .pbox (σ 90008) [.v (zC (σ 90000))])]⟩) (mb 91 0) [90000, 90008] ?_ ?_
  ·refine zL (qT (fun n s => ∃ (i5 : Int) (j6 : Int) (l7 : List ((Int × Int × Int))), s.keep (mb 91 398) [24, 90000, 90008] = (⟨.bot :: I a1 :: I b2 :: .pt 24 0 :: bt 3 (I i5 :: I j6 :: bt 82 []), [(24, .box [.v (lsV b), .v (swV (σ 90000))]), (90000, .parr (σ 90000) 27 3 (l7.map c27)), (90008, .pbox (σ 90008) [.v (zC (σ 90000))])]⟩ : St) ∧ jE a1 b2 n i5 j6 l7 = some qo9) FU ⟨_, _, _,  by rfl, hLo9⟩ ?_)
   clear hLo9
   rintro n s ⟨i5, j6, l7, hs, h⟩
   refine qQ _ _ hs ?_
   clear hs
   cases n with
   | zero => cases h
   | succ n =>
    rw [jE] at h
    refine zO ?_
    refine V_e (mb 91 16782) [24, 90000, 90008] (s1 := ⟨.bot :: I a1 :: I b2 :: .pt 24 0 :: bt 3 (I i5 :: I j6 :: bt 5 (Bo (ltI j6 5) :: bt 76 [])), [(24, .box [.v (lsV b), .v (swV (σ 90000))]), (90000, .parr (σ 90000) 27 3 (l7.map c27)), (90008, .pbox (σ 90008) [.v (zC (σ 90000))])]⟩) ?_
    refine qX rfl (fun hc10 => ?_) (fun hc10 => ?_)
    ·have h := zT h hc10
     refine zK ?_
     show V _ _ _ _
     refine zO ?_
     refine zL ?_
     refine zO ?_
     obtain ⟨o13, hLo13, h⟩ := zA h
     refine zAz (mb 91 398) [24, 90000, 90008] (s1 := ⟨.bot :: I a1 :: I b2 :: .pt 24 0 :: bt 3 (I o13 :: I j6 :: bt 82 []), [(24, .box [.v (lsV b), .v (swV (σ 90000))]), (90000, .parr (σ 90000) 27 3 (l7.map c27)), (90008, .pbox (σ 90008) [.v (zC (σ 90000))])]⟩) ?_ ?_
     ·clear h
      refine zL (qT (fun n s => ∃ (i11 : Int), s.keep (mb 91 398) [24, 90000, 90008] = (⟨.bot :: I a1 :: I b2 :: .pt 24 0 :: bt 3 (I i11 :: I j6 :: bt 82 []), [(24, .box [.v (lsV b), .v (swV (σ 90000))]), (90000, .parr (σ 90000) 27 3 (l7.map c27)), (90008, .pbox (σ 90008) [.v (zC (σ 90000))])]⟩ : St) ∧ jW a1 b2 j6 l7 n i11 = some o13) FU ⟨_,  by rfl, hLo13⟩ ?_)
      clear hLo13
      rintro n s ⟨i11, hs, h⟩
      refine qQ _ _ hs ?_
      clear hs
      cases n with
      | zero => cases h
      | succ n =>
       rw [jW] at h
       refine zO ?_
       obtain ⟨b16, hb16, h⟩ := zA h
       refine zG (mb 91 268435854) [24, 90000, 90008] (s1 := ⟨.bot :: I a1 :: I b2 :: .pt 24 0 :: bt 3 (I i11 :: I j6 :: bt 19 (Bo b16 :: bt 62 [])), [(24, .box [.v (lsV b), .v (swV (σ 90000))]), (90000, .parr (σ 90000) 27 3 (l7.map c27)), (90008, .pbox (σ 90008) [.v (zC (σ 90000))])]⟩) ?_ ?_
       ·refine XR 4 ?_
        refine zU (ltI i11 b2) (fun hc14 => ?_) (fun hc14 => ?_)
        ·have hb16 := zT hb16 hc14
         obtain ⟨y15, hy15, hb16⟩ := zA hb16
         have hb16 := zB hb16
         refine zF _ rfl rfl kk hc14 (zD rfl (zCM (.pt 24 0) Tryz.underlying145 rfl sz63 rfl kk (by intro hh; cases hh))) ?_
         refine zF _ rfl rfl kk hc14 (zD rfl (zBM (c := .v (lsV b)) (cs := [.v (swV (σ 90000))]) sc63 rfl kk)) ?_
         refine zF _ rfl rfl kk hc14 (zD rfl (qU (I i11) rfl kk)) ?_
         refine zF _ rfl rfl kk hc14 (zD rfl (qU (I i11) rfl kk)) ?_
         refine zF _ rfl rfl kk hc14 (zD rfl (zHJ (a := i11) (b := 1) rfl kk kk)) ?_
         refine zF _ rfl rfl kk hc14 (zAT rfl (zDj (l := σ 90000) (lb := σ 90008) (T0 := 27) (id := 90000) (bid := 90008) (sz := 3) (b := b) (els := l7.map c27) (i := i11) (j := w64 (i11 - 1)) (qV hy15) qP rfl kk kk kk kk hb kk)) ?_
         refine zF _ rfl rfl kk hc14 (zD rfl (zDs (b := y15) rfl kk)) ?_
         refine zE rfl (zD rfl (zB5 (b := ltI i11 b2) (p := !y15) rfl kk hc14 kk hb16)) ?_
         exact XE
        ·have hb16 := zB (zJ hb16 hc14)
         refine zV _ rfl rfl kk hc14 rfl ?_
         refine zV _ rfl rfl kk hc14 rfl ?_
         refine zV _ rfl rfl kk hc14 rfl ?_
         refine zV _ rfl rfl kk hc14 rfl ?_
         refine zV _ rfl rfl kk hc14 rfl ?_
         refine zV _ rfl rfl kk hc14 rfl ?_
         refine zV _ rfl rfl kk hc14 rfl ?_
         refine zE rfl (zD rfl (zB6 (b := ltI i11 b2) (p := false) rfl kk hc14 kk hb16)) ?_
         exact XE
       refine qX rfl (fun hc17 => ?_) (fun hc17 => ?_)
       ·have h := zT h hc17
        refine zK ?_
        show V _ _ _ _
        refine zL ?_
        obtain ⟨i18, hi18, h⟩ := zR h
        refine qS (mb 91 398) [24, 90000, 90008] (s1 := ⟨.bot :: I a1 :: I b2 :: .pt 24 0 :: bt 3 (I i18 :: I j6 :: bt 82 []), [(24, .box [.v (lsV b), .v (swV (σ 90000))]), (90000, .parr (σ 90000) 27 3 (l7.map c27)), (90008, .pbox (σ 90008) [.v (zC (σ 90000))])]⟩) ?_ ?_
        ·refine XR 3 ?_
         refine zH ?_
         subst hi18
         kernel_rfl
        exact ⟨n, Nat.lt_succ_self n, _,  by rfl, h⟩
       ·have h := zJ h hc17
        refine qO ?_
        obtain rfl := zB h
        show St.keep _ _ _ = _
        rfl
     show V _ _ _ _
     refine zO ?_
     refine V_e (mb 91 8589934990) [24, 90000, 90008] (s1 := ⟨.bot :: I a1 :: I b2 :: .pt 24 0 :: bt 3 (I o13 :: I j6 :: bt 24 (Bo (eqI o13 b2) :: bt 57 [])), [(24, .box [.v (lsV b), .v (swV (σ 90000))]), (90000, .parr (σ 90000) 27 3 (l7.map c27)), (90008, .pbox (σ 90008) [.v (zC (σ 90000))])]⟩) ?_
     refine qX rfl (fun hc19 => ?_) (fun hc19 => ?_)
     ·have h := zT h hc19
      refine V_e (mb 91 64) [90000, 90008] (s1 := ⟨bt 6 (Bo true :: bt 84 []), [(90000, .parr (σ 90000) 27 3 (l7.map c27)), (90008, .pbox (σ 90008) [.v (zC (σ 90000))])]⟩) ?_
      refine zM ?_
      obtain rfl := zB h
      have h := hko9
      obtain rfl := zB h
      show zDX _ _ _ _ _ _
      exact ⟨⟨.inr rfl, rfl, rfl, rfl⟩, ⟨rfl, ⟨rfl, trivial⟩⟩⟩
     ·have h := zJ h hc19
      refine zK ?_
      show V _ _ _ _
      refine zO ?_
      refine V_e (mb 91 137438953870) [24, 90000, 90008] (s1 := ⟨.bot :: I a1 :: I b2 :: .pt 24 0 :: bt 3 (I o13 :: I j6 :: bt 28 (Bo (ltI (w64 (b2 - a1)) 50) :: bt 53 [])), [(24, .box [.v (lsV b), .v (swV (σ 90000))]), (90000, .parr (σ 90000) 27 3 (l7.map c27)), (90008, .pbox (σ 90008) [.v (zC (σ 90000))])]⟩) ?_
      refine qX rfl (fun hc20 => ?_) (fun hc20 => ?_)
      ·have h := zT h hc20
       refine V_e (mb 91 64) [90000, 90008] (s1 := ⟨bt 6 (Bo false :: bt 84 []), [(90000, .parr (σ 90000) 27 3 (l7.map c27)), (90008, .pbox (σ 90008) [.v (zC (σ 90000))])]⟩) ?_
       refine zM ?_
       obtain rfl := zB h
       have h := hko9
       obtain rfl := zB h
       show zDX _ _ _ _ _ _
       exact ⟨⟨.inr rfl, rfl, rfl, rfl⟩, ⟨rfl, ⟨rfl, trivial⟩⟩⟩
      ·have h := zJ h hc20
       refine zK ?_
       show V _ _ _ _
       obtain ⟨e21, he21, h⟩ := zA h
       obtain ⟨e22, he22, h⟩ := zA h
       obtain ⟨l23, hl23, h⟩ := zA h
       have hl23 := zB hl23
       refine zG (mb 91 398) [24, 90000, 90008] (s1 := ⟨.bot :: I a1 :: I b2 :: .pt 24 0 :: bt 3 (I o13 :: I j6 :: bt 82 []), [(24, .box [.v (lsV b), .v (swV (σ 90000))]), (90000, .parr (σ 90000) 27 3 (l23.map c27)), (90008, .pbox (σ 90008) [.v (zC (σ 90000))])]⟩) ?_ ?_
       ·refine XR 5 ?_
        refine zE rfl (zEG (c := c27) (xs := l7) (u := e21) (v := e22) (I1 := o13) (J1 := w64 (o13 - 1)) (l := σ 90000) (T0 := 27) (id := 90000) (g := false) swX agX sz27 rfl kk rfl kk kk kk he21 he22) ?_
        refine zH ?_
        subst hl23
        kernel_rfl
       obtain ⟨j24, hj24, h⟩ := zA h
       refine zEj (mb 91 398) [24, 90000, 90008] (s1 := ⟨.bot :: I a1 :: I b2 :: .pt 24 0 :: bt 3 (I o13 :: I j6 :: bt 82 []), [(24, .box [.v (lsV b), .v (swV (σ 90000))]), (90000, .parr (σ 90000) 27 3 (j24.map c27)), (90008, .pbox (σ 90008) [.v (zC (σ 90000))])]⟩) ?_ ?_
       ·clear h
        have h := hj24
        clear hj24
        refine V_e (mb 91 140737488355726) [24, 90000, 90008] (s1 := ⟨.bot :: I a1 :: I b2 :: .pt 24 0 :: bt 3 (I o13 :: I j6 :: bt 38 (Bo (leI 2 (w64 (o13 - a1))) :: bt 43 [])), [(24, .box [.v (lsV b), .v (swV (σ 90000))]), (90000, .parr (σ 90000) 27 3 (l23.map c27)), (90008, .pbox (σ 90008) [.v (zC (σ 90000))])]⟩) ?_
        refine qX rfl (fun hc25 => ?_) (fun hc25 => ?_)
        ·have h := zT h hc25
         obtain ⟨j26, hj26, h⟩ := zR h
         refine zG (mb 91 910) [24, 90000, 90008] (s1 := ⟨.bot :: I a1 :: I b2 :: .pt 24 0 :: bt 3 (I o13 :: I j6 :: I j26 :: bt 81 []), [(24, .box [.v (lsV b), .v (swV (σ 90000))]), (90000, .parr (σ 90000) 27 3 (l23.map c27)), (90008, .pbox (σ 90008) [.v (zC (σ 90000))])]⟩) ?_ ?_
         ·refine XR 3 ?_
          refine zH ?_
          subst hj26
          kernel_rfl
         obtain ⟨o30, hLo30, h⟩ := zA h
         refine zAz (mb 91 398) [24, 90000, 90008] (s1 := ⟨.bot :: I a1 :: I b2 :: .pt 24 0 :: bt 3 (I o13 :: I j6 :: bt 82 []), [(24, .box [.v (lsV b), .v (swV (σ 90000))]), (90000, .parr (σ 90000) 27 3 (o30.map c27)), (90008, .pbox (σ 90008) [.v (zC (σ 90000))])]⟩) ?_ ?_
         ·clear h
          refine zL (qT (fun n s => ∃ (j27 : Int) (l28 : List ((Int × Int × Int))), s.keep (mb 91 910) [24, 90000, 90008] = (⟨.bot :: I a1 :: I b2 :: .pt 24 0 :: bt 3 (I o13 :: I j6 :: I j27 :: bt 81 []), [(24, .box [.v (lsV b), .v (swV (σ 90000))]), (90000, .parr (σ 90000) 27 3 (l28.map c27)), (90008, .pbox (σ 90008) [.v (zC (σ 90000))])]⟩ : St) ∧ jV a1 b2 j6 o13 n j27 l28 = some o30) FU ⟨_, _,  by rfl, hLo30⟩ ?_)
          clear hLo30
          rintro n s ⟨j27, l28, hs, h⟩
          refine qQ _ _ hs ?_
          clear hs
          cases n with
          | zero => cases h
          | succ n =>
           rw [jV] at h
           refine zO ?_
           refine V_e (mb 91 2251799813686158) [24, 90000, 90008] (s1 := ⟨.bot :: I a1 :: I b2 :: .pt 24 0 :: bt 3 (I o13 :: I j6 :: I j27 :: bt 41 (Bo (leI 1 j27) :: bt 39 [])), [(24, .box [.v (lsV b), .v (swV (σ 90000))]), (90000, .parr (σ 90000) 27 3 (l28.map c27)), (90008, .pbox (σ 90008) [.v (zC (σ 90000))])]⟩) ?_
           refine qX rfl (fun hc31 => ?_) (fun hc31 => ?_)
           ·have h := zT h hc31
            refine zK ?_
            show V _ _ _ _
            refine zO ?_
            refine zL ?_
            refine zO ?_
            obtain ⟨y32, hy32, h⟩ := zA h
            refine zG (mb 91 1152921504606847886) [24, 90000, 90008] (s1 := ⟨.bot :: I a1 :: I b2 :: .pt 24 0 :: bt 3 (I o13 :: I j6 :: I j27 :: bt 50 (Bo (!y32) :: bt 30 [])), [(24, .box [.v (lsV b), .v (swV (σ 90000))]), (90000, .parr (σ 90000) 27 3 (l28.map c27)), (90008, .pbox (σ 90008) [.v (zC (σ 90000))])]⟩) ?_ ?_
            ·refine XR 5 ?_
             refine L1 rfl rfl (zDj (l := σ 90000) (lb := σ 90008) (T0 := 27) (id := 90000) (bid := 90008) (sz := 3) (b := b) (els := l28.map c27) (i := j27) (j := w64 (j27 - 1)) (qV hy32) qP rfl kk kk kk kk hb kk) ?_
             exact XE
            refine qX rfl (fun hc33 => ?_) (fun hc33 => ?_)
            ·have h := zT h hc33
             refine qO ?_
             obtain rfl := zB h
             show St.keep _ _ _ = _
             rfl
            ·have h := zJ h hc33
             refine zK ?_
             show V _ _ _ _
             obtain ⟨e34, he34, h⟩ := zA h
             obtain ⟨e35, he35, h⟩ := zA h
             obtain ⟨l36, hl36, h⟩ := zA h
             have hl36 := zB hl36
             refine qS (mb 91 910) [24, 90000, 90008] (s1 := ⟨.bot :: I a1 :: I b2 :: .pt 24 0 :: bt 3 (I o13 :: I j6 :: I j27 :: bt 81 []), [(24, .box [.v (lsV b), .v (swV (σ 90000))]), (90000, .parr (σ 90000) 27 3 (l36.map c27)), (90008, .pbox (σ 90008) [.v (zC (σ 90000))])]⟩) ?_ ?_
             ·refine XR 5 ?_
              refine zE rfl (zEG (c := c27) (xs := l28) (u := e34) (v := e35) (I1 := j27) (J1 := w64 (j27 - 1)) (l := σ 90000) (T0 := 27) (id := 90000) (g := false) swX agX sz27 rfl kk rfl kk kk kk he34 he35) ?_
              refine zH ?_
              subst hl36
              kernel_rfl
             show V _ _ _ _
             obtain ⟨j37, hj37, h⟩ := zR h
             refine qS (mb 91 910) [24, 90000, 90008] (s1 := ⟨.bot :: I a1 :: I b2 :: .pt 24 0 :: bt 3 (I o13 :: I j6 :: I j37 :: bt 81 []), [(24, .box [.v (lsV b), .v (swV (σ 90000))]), (90000, .parr (σ 90000) 27 3 (l36.map c27)), (90008, .pbox (σ 90008) [.v (zC (σ 90000))])]⟩) ?_ ?_
             ·refine XR 3 ?_
              refine zH ?_
              subst hj37
              kernel_rfl
             exact ⟨n, Nat.lt_succ_self n, _, _,  by rfl, h⟩
           ·have h := zJ h hc31
            refine qO ?_
            obtain rfl := zB h
            show St.keep _ _ _ = _
            rfl
         obtain rfl := zB h
         show St.keep _ _ _ = _
         rfl
        ·have h := zJ h hc25
         refine zK ?_
         obtain rfl := zB h
         show St.keep _ _ _ = _
         rfl
       refine V_e (mb 91 1180591620717411303822) [24, 90000, 90008] (s1 := ⟨.bot :: I a1 :: I b2 :: .pt 24 0 :: bt 3 (I o13 :: I j6 :: bt 61 (Bo (leI 2 (w64 (b2 - o13))) :: bt 20 [])), [(24, .box [.v (lsV b), .v (swV (σ 90000))]), (90000, .parr (σ 90000) 27 3 (j24.map c27)), (90008, .pbox (σ 90008) [.v (zC (σ 90000))])]⟩) ?_
       refine qX rfl (fun hc38 => ?_) (fun hc38 => ?_)
       ·have h := zT h hc38
        obtain ⟨j39, hj39, h⟩ := zR h
        refine zG (mb 91 1422) [24, 90000, 90008] (s1 := ⟨.bot :: I a1 :: I b2 :: .pt 24 0 :: bt 3 (I o13 :: I j6 :: .bot :: I j39 :: bt 80 []), [(24, .box [.v (lsV b), .v (swV (σ 90000))]), (90000, .parr (σ 90000) 27 3 (j24.map c27)), (90008, .pbox (σ 90008) [.v (zC (σ 90000))])]⟩) ?_ ?_
        ·refine XR 3 ?_
         refine zH ?_
         subst hj39
         kernel_rfl
        obtain ⟨o43, hLo43, h⟩ := zA h
        refine zAz (mb 91 398) [24, 90000, 90008] (s1 := ⟨.bot :: I a1 :: I b2 :: .pt 24 0 :: bt 3 (I o13 :: I j6 :: bt 82 []), [(24, .box [.v (lsV b), .v (swV (σ 90000))]), (90000, .parr (σ 90000) 27 3 (o43.map c27)), (90008, .pbox (σ 90008) [.v (zC (σ 90000))])]⟩) ?_ ?_
        ·clear h
         refine zL (qT (fun n s => ∃ (j40 : Int) (l41 : List ((Int × Int × Int))), s.keep (mb 91 1422) [24, 90000, 90008] = (⟨.bot :: I a1 :: I b2 :: .pt 24 0 :: bt 3 (I o13 :: I j6 :: .bot :: I j40 :: bt 80 []), [(24, .box [.v (lsV b), .v (swV (σ 90000))]), (90000, .parr (σ 90000) 27 3 (l41.map c27)), (90008, .pbox (σ 90008) [.v (zC (σ 90000))])]⟩ : St) ∧ jU a1 b2 j6 o13 n j40 l41 = some o43) FU ⟨_, _,  by rfl, hLo43⟩ ?_)
         clear hLo43
         rintro n s ⟨j40, l41, hs, h⟩
         refine qQ _ _ hs ?_
         clear hs
         cases n with
         | zero => cases h
         | succ n =>
          rw [jU] at h
          refine zO ?_
          refine V_e (mb 91 37778931862957161710990) [24, 90000, 90008] (s1 := ⟨.bot :: I a1 :: I b2 :: .pt 24 0 :: bt 3 (I o13 :: I j6 :: .bot :: I j40 :: bt 64 (Bo (ltI j40 b2) :: bt 15 [])), [(24, .box [.v (lsV b), .v (swV (σ 90000))]), (90000, .parr (σ 90000) 27 3 (l41.map c27)), (90008, .pbox (σ 90008) [.v (zC (σ 90000))])]⟩) ?_
          refine qX rfl (fun hc44 => ?_) (fun hc44 => ?_)
          ·have h := zT h hc44
           refine zK ?_
           show V _ _ _ _
           refine zO ?_
           refine zL ?_
           refine zO ?_
           obtain ⟨y45, hy45, h⟩ := zA h
           refine zG (mb 91 19342813113834066795300238) [24, 90000, 90008] (s1 := ⟨.bot :: I a1 :: I b2 :: .pt 24 0 :: bt 3 (I o13 :: I j6 :: .bot :: I j40 :: bt 73 (Bo (!y45) :: bt 6 [])), [(24, .box [.v (lsV b), .v (swV (σ 90000))]), (90000, .parr (σ 90000) 27 3 (l41.map c27)), (90008, .pbox (σ 90008) [.v (zC (σ 90000))])]⟩) ?_ ?_
           ·refine XR 5 ?_
            refine L1 rfl rfl (zDj (l := σ 90000) (lb := σ 90008) (T0 := 27) (id := 90000) (bid := 90008) (sz := 3) (b := b) (els := l41.map c27) (i := j40) (j := w64 (j40 - 1)) (qV hy45) qP rfl kk kk kk kk hb kk) ?_
            exact XE
           refine qX rfl (fun hc46 => ?_) (fun hc46 => ?_)
           ·have h := zT h hc46
            refine qO ?_
            obtain rfl := zB h
            show St.keep _ _ _ = _
            rfl
           ·have h := zJ h hc46
            refine zK ?_
            show V _ _ _ _
            obtain ⟨e47, he47, h⟩ := zA h
            obtain ⟨e48, he48, h⟩ := zA h
            obtain ⟨l49, hl49, h⟩ := zA h
            have hl49 := zB hl49
            refine qS (mb 91 1422) [24, 90000, 90008] (s1 := ⟨.bot :: I a1 :: I b2 :: .pt 24 0 :: bt 3 (I o13 :: I j6 :: .bot :: I j40 :: bt 80 []), [(24, .box [.v (lsV b), .v (swV (σ 90000))]), (90000, .parr (σ 90000) 27 3 (l49.map c27)), (90008, .pbox (σ 90008) [.v (zC (σ 90000))])]⟩) ?_ ?_
            ·refine XR 5 ?_
             refine zE rfl (zEG (c := c27) (xs := l41) (u := e47) (v := e48) (I1 := j40) (J1 := w64 (j40 - 1)) (l := σ 90000) (T0 := 27) (id := 90000) (g := false) swX agX sz27 rfl kk rfl kk kk kk he47 he48) ?_
             refine zH ?_
             subst hl49
             kernel_rfl
            show V _ _ _ _
            obtain ⟨j50, hj50, h⟩ := zR h
            refine qS (mb 91 1422) [24, 90000, 90008] (s1 := ⟨.bot :: I a1 :: I b2 :: .pt 24 0 :: bt 3 (I o13 :: I j6 :: .bot :: I j50 :: bt 80 []), [(24, .box [.v (lsV b), .v (swV (σ 90000))]), (90000, .parr (σ 90000) 27 3 (l49.map c27)), (90008, .pbox (σ 90008) [.v (zC (σ 90000))])]⟩) ?_ ?_
            ·refine XR 3 ?_
             refine zH ?_
             subst hj50
             kernel_rfl
            exact ⟨n, Nat.lt_succ_self n, _, _,  by rfl, h⟩
          ·have h := zJ h hc44
           refine qO ?_
           obtain rfl := zB h
           show St.keep _ _ _ = _
           rfl
        show V _ _ _ _
        obtain ⟨j51, hj51, h⟩ := zR h
        refine qS (mb 91 398) [24, 90000, 90008] (s1 := ⟨.bot :: I a1 :: I b2 :: .pt 24 0 :: bt 3 (I o13 :: I j51 :: bt 82 []), [(24, .box [.v (lsV b), .v (swV (σ 90000))]), (90000, .parr (σ 90000) 27 3 (o43.map c27)), (90008, .pbox (σ 90008) [.v (zC (σ 90000))])]⟩) ?_ ?_
        ·refine XR 3 ?_
         refine zH ?_
         subst hj51
         kernel_rfl
        exact ⟨n, Nat.lt_succ_self n, _, _, _,  by rfl, h⟩
       ·have h := zJ h hc38
        refine zK ?_
        show V _ _ _ _
        obtain ⟨j52, hj52, h⟩ := zR h
        refine qS (mb 91 398) [24, 90000, 90008] (s1 := ⟨.bot :: I a1 :: I b2 :: .pt 24 0 :: bt 3 (I o13 :: I j52 :: bt 82 []), [(24, .box [.v (lsV b), .v (swV (σ 90000))]), (90000, .parr (σ 90000) 27 3 (j24.map c27)), (90008, .pbox (σ 90008) [.v (zC (σ 90000))])]⟩) ?_ ?_
        ·refine XR 3 ?_
         refine zH ?_
         subst hj52
         kernel_rfl
        exact ⟨n, Nat.lt_succ_self n, _, _, _,  by rfl, h⟩
    ·have h := zJ h hc10
     refine qO ?_
     obtain rfl := zB h
     exact ⟨_, rfl, by rfl⟩
  rintro o9 rfl
  have h := hko9
  clear hko9
  show V _ _ _ _
  refine V_e (mb 91 64) [90000, 90008] (s1 := ⟨bt 6 (Bo false :: bt 84 []), [(90000, .parr (σ 90000) 27 3 (o9.map c27)), (90008, .pbox (σ 90008) [.v (zC (σ 90000))])]⟩) ?_
  refine zM ?_
  obtain rfl := zB h
  show zDX _ _ _ _ _ _
  exact ⟨⟨.inr rfl, rfl, rfl, rfl⟩, ⟨rfl, ⟨rfl, trivial⟩⟩⟩
theorem zDW : CfW Tryz.prog 206 := cfW Tryz.func206
theorem zDY {xs0 : List ((Int × Int × Int))} {a1 : Int} {b2 : Int} {pivot3 : Int} {l0 lb : Loc} {b : Nat} (hb : lb.blk = some b) {r : (Int × (List ((Int × Int × Int))))} (h : zBI xs0 a1 b2 pivot3 = some r) : ∀ σ : Nat → Loc, σ 90000 = l0 → σ 90008 = lb → zDt Tryz.prog 206 σ [.ag [.v (lsV b), .v (swV l0)], I a1, I b2, I pivot3] [(90000, .arr 27 3 (xs0.map c27)), (90008, .box [.v (zC l0)])] (I r.1) [] [(90000, .arr 27 3 (r.2.map c27)), (90008, .box [.v (zC l0)])] := by
  intro σ e1 e2
  subst e1 e2
  refine jL (rs := [.t 8]) (vs := [.tmp 8]) Tryz.func206 rfl rfl (.cons rfl FitsL.nil) (by decide) 58 rfl rfl ?_
  unfold zBI at h
  show V _ _ ⟨.ag [.v (lsV b), .v (swV (σ 90000))] :: I a1 :: I b2 :: I pivot3 :: bt 54 [], [(90000, .parr (σ 90000) 27 3 (xs0.map c27)), (90008, .pbox (σ 90008) [.v (zC (σ 90000))])]⟩ _
  refine V_e (mb 58 30) [32, 90000, 90008] (s1 := ⟨.bot :: I a1 :: I b2 :: I pivot3 :: .pt 32 0 :: bt 53 [], [(32, .box [.v (lsV b), .v (swV (σ 90000))]), (90000, .parr (σ 90000) 27 3 (xs0.map c27)), (90008, .pbox (σ 90008) [.v (zC (σ 90000))])]⟩) ?_
  obtain ⟨e5, he5, h⟩ := zA h
  obtain ⟨e6, he6, h⟩ := zA h
  refine zG (mb 58 22) [32, 90000, 90008] (s1 := ⟨.bot :: I a1 :: I b2 :: .bot :: .pt 32 0 :: bt 53 [], [(32, .box [.v (lsV b), .v (swV (σ 90000))]), (90000, .parr (σ 90000) 27 3 (((xs0.set (Int.toNat (a1)) e6).set (Int.toNat (pivot3)) e5).map c27)), (90008, .pbox (σ 90008) [.v (zC (σ 90000))])]⟩) ?_ ?_
  ·refine XR 4 ?_
   refine zE rfl (zEG (c := c27) (xs := xs0) (u := e5) (v := e6) (I1 := a1) (J1 := pivot3) (l := σ 90000) (T0 := 27) (id := 90000) (g := false) swX agX sz27 rfl kk rfl kk kk kk he5 he6) ?_
   exact XE
  obtain ⟨i7, hi7, h⟩ := zR h
  obtain ⟨j8, hj8, h⟩ := zR h
  refine zG (mb 58 1554) [32, 90000, 90008] (s1 := ⟨.bot :: I a1 :: .bot :: .bot :: .pt 32 0 :: bt 4 (I i7 :: I j8 :: bt 47 []), [(32, .box [.v (lsV b), .v (swV (σ 90000))]), (90000, .parr (σ 90000) 27 3 (((xs0.set (Int.toNat (a1)) e6).set (Int.toNat (pivot3)) e5).map c27)), (90008, .pbox (σ 90008) [.v (zC (σ 90000))])]⟩) ?_ ?_
  ·refine XR 6 ?_
   refine zH ?_
   subst hi7 hj8
   kernel_rfl
  refine zO ?_
  obtain ⟨o13, hLo13, h⟩ := zA h
  refine zAz (mb 58 512) [90000, 90008] (s1 := ⟨bt 9 (I o13.1 :: bt 48 []), [(90000, .parr (σ 90000) 27 3 (o13.2.map c27)), (90008, .pbox (σ 90008) [.v (zC (σ 90000))])]⟩) ?_ ?_
  ·clear h
   refine zL (qT (fun n s => ∃ (i9 : Int) (j10 : Int) (l11 : List ((Int × Int × Int))), s.keep (mb 58 1554) [32, 90000, 90008] = (⟨.bot :: I a1 :: .bot :: .bot :: .pt 32 0 :: bt 4 (I i9 :: I j10 :: bt 47 []), [(32, .box [.v (lsV b), .v (swV (σ 90000))]), (90000, .parr (σ 90000) 27 3 (l11.map c27)), (90008, .pbox (σ 90008) [.v (zC (σ 90000))])]⟩ : St) ∧ zA7 a1 n i9 j10 l11 = some o13) FU ⟨_, _, _,  by rfl, hLo13⟩ ?_)
   clear hLo13
   rintro n s ⟨i9, j10, l11, hs, h⟩
   refine qQ _ _ hs ?_
   clear hs
   cases n with
   | zero => cases h
   | succ n =>
    rw [zA7] at h
    refine zL ?_
    refine zO ?_
    obtain ⟨o16, hLo16, h⟩ := zA h
    refine zAz (mb 58 1554) [32, 90000, 90008] (s1 := ⟨.bot :: I a1 :: .bot :: .bot :: .pt 32 0 :: bt 4 (I o16 :: I j10 :: bt 47 []), [(32, .box [.v (lsV b), .v (swV (σ 90000))]), (90000, .parr (σ 90000) 27 3 (l11.map c27)), (90008, .pbox (σ 90008) [.v (zC (σ 90000))])]⟩) ?_ ?_
    ·clear h
     refine zL (qT (fun n s => ∃ (i14 : Int), s.keep (mb 58 1554) [32, 90000, 90008] = (⟨.bot :: I a1 :: .bot :: .bot :: .pt 32 0 :: bt 4 (I i14 :: I j10 :: bt 47 []), [(32, .box [.v (lsV b), .v (swV (σ 90000))]), (90000, .parr (σ 90000) 27 3 (l11.map c27)), (90008, .pbox (σ 90008) [.v (zC (σ 90000))])]⟩ : St) ∧ zA6 a1 j10 l11 n i14 = some o16) FU ⟨_,  by rfl, hLo16⟩ ?_)
     clear hLo16
     rintro n s ⟨i14, hs, h⟩
     refine qQ _ _ hs ?_
     clear hs
     cases n with
     | zero => cases h
     | succ n =>
      rw [zA6] at h
      refine zO ?_
      obtain ⟨b19, hb19, h⟩ := zA h
      refine zG (mb 58 1073743378) [32, 90000, 90008] (s1 := ⟨.bot :: I a1 :: .bot :: .bot :: .pt 32 0 :: bt 4 (I i14 :: I j10 :: bt 19 (Bo b19 :: bt 27 [])), [(32, .box [.v (lsV b), .v (swV (σ 90000))]), (90000, .parr (σ 90000) 27 3 (l11.map c27)), (90008, .pbox (σ 90008) [.v (zC (σ 90000))])]⟩) ?_ ?_
      ·refine XR 4 ?_
       refine zU (leI i14 j10) (fun hc17 => ?_) (fun hc17 => ?_)
       ·have hb19 := zT hb19 hc17
        obtain ⟨y18, hy18, hb19⟩ := zA hb19
        have hb19 := zB hb19
        refine zF _ rfl rfl kk hc17 (zD rfl (zCM (.pt 32 0) Tryz.underlying145 rfl sz63 rfl kk (by intro hh; cases hh))) ?_
        refine zF _ rfl rfl kk hc17 (zD rfl (zBM (c := .v (lsV b)) (cs := [.v (swV (σ 90000))]) sc63 rfl kk)) ?_
        refine zF _ rfl rfl kk hc17 (zD rfl (qU (I a1) rfl kk)) ?_
        refine zF _ rfl rfl kk hc17 (zD rfl (qU (I i14) rfl kk)) ?_
        refine zF _ rfl rfl kk hc17 (zAT rfl (zDj (l := σ 90000) (lb := σ 90008) (T0 := 27) (id := 90000) (bid := 90008) (sz := 3) (b := b) (els := l11.map c27) (i := a1) (j := i14) (qV hy18) qP rfl kk kk kk kk hb kk)) ?_
        refine zF _ rfl rfl kk hc17 (zD rfl (zDs (b := y18) rfl kk)) ?_
        refine zE rfl (zD rfl (zB5 (b := leI i14 j10) (p := !y18) rfl kk hc17 kk hb19)) ?_
        exact XE
       ·have hb19 := zB (zJ hb19 hc17)
        refine zV _ rfl rfl kk hc17 rfl ?_
        refine zV _ rfl rfl kk hc17 rfl ?_
        refine zV _ rfl rfl kk hc17 rfl ?_
        refine zV _ rfl rfl kk hc17 rfl ?_
        refine zV _ rfl rfl kk hc17 rfl ?_
        refine zV _ rfl rfl kk hc17 rfl ?_
        refine zE rfl (zD rfl (zB6 (b := leI i14 j10) (p := false) rfl kk hc17 kk hb19)) ?_
        exact XE
      refine qX rfl (fun hc20 => ?_) (fun hc20 => ?_)
      ·have h := zT h hc20
       refine zK ?_
       show V _ _ _ _
       refine zL ?_
       obtain ⟨i21, hi21, h⟩ := zR h
       refine qS (mb 58 1554) [32, 90000, 90008] (s1 := ⟨.bot :: I a1 :: .bot :: .bot :: .pt 32 0 :: bt 4 (I i21 :: I j10 :: bt 47 []), [(32, .box [.v (lsV b), .v (swV (σ 90000))]), (90000, .parr (σ 90000) 27 3 (l11.map c27)), (90008, .pbox (σ 90008) [.v (zC (σ 90000))])]⟩) ?_ ?_
       ·refine XR 3 ?_
        refine zH ?_
        subst hi21
        kernel_rfl
       exact ⟨n, Nat.lt_succ_self n, _,  by rfl, h⟩
      ·have h := zJ h hc20
       refine qO ?_
       obtain rfl := zB h
       show St.keep _ _ _ = _
       rfl
    show V _ _ _ _
    refine zO ?_
    obtain ⟨o24, hLo24, h⟩ := zA h
    refine zAz (mb 58 1554) [32, 90000, 90008] (s1 := ⟨.bot :: I a1 :: .bot :: .bot :: .pt 32 0 :: bt 4 (I o16 :: I o24 :: bt 47 []), [(32, .box [.v (lsV b), .v (swV (σ 90000))]), (90000, .parr (σ 90000) 27 3 (l11.map c27)), (90008, .pbox (σ 90008) [.v (zC (σ 90000))])]⟩) ?_ ?_
    ·clear h
     refine zL (qT (fun n s => ∃ (j22 : Int), s.keep (mb 58 1554) [32, 90000, 90008] = (⟨.bot :: I a1 :: .bot :: .bot :: .pt 32 0 :: bt 4 (I o16 :: I j22 :: bt 47 []), [(32, .box [.v (lsV b), .v (swV (σ 90000))]), (90000, .parr (σ 90000) 27 3 (l11.map c27)), (90008, .pbox (σ 90008) [.v (zC (σ 90000))])]⟩ : St) ∧ zA5 a1 l11 o16 n j22 = some o24) FU ⟨_,  by rfl, hLo24⟩ ?_)
     clear hLo24
     rintro n s ⟨j22, hs, h⟩
     refine qQ _ _ hs ?_
     clear hs
     cases n with
     | zero => cases h
     | succ n =>
      rw [zA5] at h
      refine zO ?_
      obtain ⟨b27, hb27, h⟩ := zA h
      refine zG (mb 58 4398046512658) [32, 90000, 90008] (s1 := ⟨.bot :: I a1 :: .bot :: .bot :: .pt 32 0 :: bt 4 (I o16 :: I j22 :: bt 31 (Bo b27 :: bt 15 [])), [(32, .box [.v (lsV b), .v (swV (σ 90000))]), (90000, .parr (σ 90000) 27 3 (l11.map c27)), (90008, .pbox (σ 90008) [.v (zC (σ 90000))])]⟩) ?_ ?_
      ·refine XR 4 ?_
       refine zU (leI o16 j22) (fun hc25 => ?_) (fun hc25 => ?_)
       ·have hb27 := zT hb27 hc25
        obtain ⟨y26, hy26, hb27⟩ := zA hb27
        have hb27 := zB hb27
        refine zF _ rfl rfl kk hc25 (zD rfl (zCM (.pt 32 0) Tryz.underlying145 rfl sz63 rfl kk (by intro hh; cases hh))) ?_
        refine zF _ rfl rfl kk hc25 (zD rfl (zBM (c := .v (lsV b)) (cs := [.v (swV (σ 90000))]) sc63 rfl kk)) ?_
        refine zF _ rfl rfl kk hc25 (zD rfl (qU (I a1) rfl kk)) ?_
        refine zF _ rfl rfl kk hc25 (zD rfl (qU (I j22) rfl kk)) ?_
        refine zF _ rfl rfl kk hc25 (zAT rfl (zDj (l := σ 90000) (lb := σ 90008) (T0 := 27) (id := 90000) (bid := 90008) (sz := 3) (b := b) (els := l11.map c27) (i := a1) (j := j22) (qV hy26) qP rfl kk kk kk kk hb kk)) ?_
        refine zE rfl (zD rfl (zB5 (b := leI o16 j22) (p := y26) rfl kk hc25 kk hb27)) ?_
        exact XE
       ·have hb27 := zB (zJ hb27 hc25)
        refine zV _ rfl rfl kk hc25 rfl ?_
        refine zV _ rfl rfl kk hc25 rfl ?_
        refine zV _ rfl rfl kk hc25 rfl ?_
        refine zV _ rfl rfl kk hc25 rfl ?_
        refine zV _ rfl rfl kk hc25 rfl ?_
        refine zE rfl (zD rfl (zB6 (b := leI o16 j22) (p := false) rfl kk hc25 kk hb27)) ?_
        exact XE
      refine qX rfl (fun hc28 => ?_) (fun hc28 => ?_)
      ·have h := zT h hc28
       refine zK ?_
       show V _ _ _ _
       refine zL ?_
       obtain ⟨j29, hj29, h⟩ := zR h
       refine qS (mb 58 1554) [32, 90000, 90008] (s1 := ⟨.bot :: I a1 :: .bot :: .bot :: .pt 32 0 :: bt 4 (I o16 :: I j29 :: bt 47 []), [(32, .box [.v (lsV b), .v (swV (σ 90000))]), (90000, .parr (σ 90000) 27 3 (l11.map c27)), (90008, .pbox (σ 90008) [.v (zC (σ 90000))])]⟩) ?_ ?_
       ·refine XR 3 ?_
        refine zH ?_
        subst hj29
        kernel_rfl
       exact ⟨n, Nat.lt_succ_self n, _,  by rfl, h⟩
      ·have h := zJ h hc28
       refine qO ?_
       obtain rfl := zB h
       show St.keep _ _ _ = _
       rfl
    show V _ _ _ _
    refine zO ?_
    refine V_e (mb 58 140737488356882) [32, 90000, 90008] (s1 := ⟨.bot :: I a1 :: .bot :: .bot :: .pt 32 0 :: bt 4 (I o16 :: I o24 :: bt 36 (Bo (ltI o24 o16) :: bt 10 [])), [(32, .box [.v (lsV b), .v (swV (σ 90000))]), (90000, .parr (σ 90000) 27 3 (l11.map c27)), (90008, .pbox (σ 90008) [.v (zC (σ 90000))])]⟩) ?_
    refine qX rfl (fun hc30 => ?_) (fun hc30 => ?_)
    ·have h := zT h hc30
     refine qO ?_
     obtain rfl := zB h
     show St.keep _ _ _ = _
     rfl
    ·have h := zJ h hc30
     refine zK ?_
     show V _ _ _ _
     obtain ⟨e31, he31, h⟩ := zA h
     obtain ⟨e32, he32, h⟩ := zA h
     refine zG (mb 58 1554) [32, 90000, 90008] (s1 := ⟨.bot :: I a1 :: .bot :: .bot :: .pt 32 0 :: bt 4 (I o16 :: I o24 :: bt 47 []), [(32, .box [.v (lsV b), .v (swV (σ 90000))]), (90000, .parr (σ 90000) 27 3 (((l11.set (Int.toNat (o16)) e32).set (Int.toNat (o24)) e31).map c27)), (90008, .pbox (σ 90008) [.v (zC (σ 90000))])]⟩) ?_ ?_
     ·refine XR 4 ?_
      refine zE rfl (zEG (c := c27) (xs := l11) (u := e31) (v := e32) (I1 := o16) (J1 := o24) (l := σ 90000) (T0 := 27) (id := 90000) (g := false) swX agX sz27 rfl kk rfl kk kk kk he31 he32) ?_
      exact XE
     obtain ⟨i33, hi33, h⟩ := zR h
     refine zG (mb 58 1554) [32, 90000, 90008] (s1 := ⟨.bot :: I a1 :: .bot :: .bot :: .pt 32 0 :: bt 4 (I i33 :: I o24 :: bt 47 []), [(32, .box [.v (lsV b), .v (swV (σ 90000))]), (90000, .parr (σ 90000) 27 3 (((l11.set (Int.toNat (o16)) e32).set (Int.toNat (o24)) e31).map c27)), (90008, .pbox (σ 90008) [.v (zC (σ 90000))])]⟩) ?_ ?_
     ·refine XR 3 ?_
      refine zH ?_
      subst hi33
      kernel_rfl
     obtain ⟨j34, hj34, h⟩ := zR h
     refine qS (mb 58 1554) [32, 90000, 90008] (s1 := ⟨.bot :: I a1 :: .bot :: .bot :: .pt 32 0 :: bt 4 (I i33 :: I j34 :: bt 47 []), [(32, .box [.v (lsV b), .v (swV (σ 90000))]), (90000, .parr (σ 90000) 27 3 (((l11.set (Int.toNat (o16)) e32).set (Int.toNat (o24)) e31).map c27)), (90008, .pbox (σ 90008) [.v (zC (σ 90000))])]⟩) ?_ ?_
     ·refine XR 3 ?_
      refine zH ?_
      subst hj34
      kernel_rfl
     exact ⟨n, Nat.lt_succ_self n, _, _, _,  by rfl, h⟩
  show V _ _ _ _
  refine V_e (mb 58 256) [90000, 90008] (s1 := ⟨bt 8 (I o13.1 :: bt 49 []), [(90000, .parr (σ 90000) 27 3 (o13.2.map c27)), (90008, .pbox (σ 90008) [.v (zC (σ 90000))])]⟩) ?_
  refine zM ?_
  obtain rfl := zB h
  show zDX _ _ _ _ _ _
  exact ⟨⟨.inr rfl, rfl, rfl, rfl⟩, ⟨rfl, ⟨rfl, trivial⟩⟩⟩
theorem zE1 : CfW Tryz.prog 207 := cfW Tryz.func207
theorem zE8 {xs0 : List ((Int × Int × Int))} {a1 : Int} {b2 : Int} {pivot3 : Int} {l0 lb : Loc} {b : Nat} (hb : lb.blk = some b) {r : (Int × Bool × (List ((Int × Int × Int))))} (h : zCK xs0 a1 b2 pivot3 = some r) : ∀ σ : Nat → Loc, σ 90000 = l0 → σ 90008 = lb → zDt Tryz.prog 207 σ [.ag [.v (lsV b), .v (swV l0)], I a1, I b2, I pivot3] [(90000, .arr 27 3 (xs0.map c27)), (90008, .box [.v (zC l0)])] (.tc (I r.1) (.tc (Bo r.2.1) .tn)) [] [(90000, .arr 27 3 (r.2.2.map c27)), (90008, .box [.v (zC l0)])] := by
  intro σ e1 e2
  subst e1 e2
  refine jL (rs := [.t 8, .t 9]) (vs := [.tmp 8, .tmp 9]) Tryz.func207 rfl rfl (.cons rfl (.cons rfl FitsL.nil)) (by decide) 107 rfl rfl ?_
  unfold zCK at h
  show V _ _ ⟨.ag [.v (lsV b), .v (swV (σ 90000))] :: I a1 :: I b2 :: I pivot3 :: bt 103 [], [(90000, .parr (σ 90000) 27 3 (xs0.map c27)), (90008, .pbox (σ 90008) [.v (zC (σ 90000))])]⟩ _
  refine V_e (mb 107 30) [32, 90000, 90008] (s1 := ⟨.bot :: I a1 :: I b2 :: I pivot3 :: .pt 32 0 :: bt 102 [], [(32, .box [.v (lsV b), .v (swV (σ 90000))]), (90000, .parr (σ 90000) 27 3 (xs0.map c27)), (90008, .pbox (σ 90008) [.v (zC (σ 90000))])]⟩) ?_
  obtain ⟨e5, he5, h⟩ := zA h
  obtain ⟨e6, he6, h⟩ := zA h
  refine zG (mb 107 22) [32, 90000, 90008] (s1 := ⟨.bot :: I a1 :: I b2 :: .bot :: .pt 32 0 :: bt 102 [], [(32, .box [.v (lsV b), .v (swV (σ 90000))]), (90000, .parr (σ 90000) 27 3 (((xs0.set (Int.toNat (a1)) e6).set (Int.toNat (pivot3)) e5).map c27)), (90008, .pbox (σ 90008) [.v (zC (σ 90000))])]⟩) ?_ ?_
  ·refine XR 4 ?_
   refine zE rfl (zEG (c := c27) (xs := xs0) (u := e5) (v := e6) (I1 := a1) (J1 := pivot3) (l := σ 90000) (T0 := 27) (id := 90000) (g := false) swX agX sz27 rfl kk rfl kk kk kk he5 he6) ?_
   exact XE
  obtain ⟨i7, hi7, h⟩ := zR h
  obtain ⟨j8, hj8, h⟩ := zR h
  refine zG (mb 107 3090) [32, 90000, 90008] (s1 := ⟨.bot :: I a1 :: .bot :: .bot :: .pt 32 0 :: bt 5 (I i7 :: I j8 :: bt 95 []), [(32, .box [.v (lsV b), .v (swV (σ 90000))]), (90000, .parr (σ 90000) 27 3 (((xs0.set (Int.toNat (a1)) e6).set (Int.toNat (pivot3)) e5).map c27)), (90008, .pbox (σ 90008) [.v (zC (σ 90000))])]⟩) ?_ ?_
  ·refine XR 6 ?_
   refine zH ?_
   subst hi7 hj8
   kernel_rfl
  refine zO ?_
  obtain ⟨o11, hLo11, h⟩ := zA h
  refine zAz (mb 107 3090) [32, 90000, 90008] (s1 := ⟨.bot :: I a1 :: .bot :: .bot :: .pt 32 0 :: bt 5 (I o11 :: I j8 :: bt 95 []), [(32, .box [.v (lsV b), .v (swV (σ 90000))]), (90000, .parr (σ 90000) 27 3 (((xs0.set (Int.toNat (a1)) e6).set (Int.toNat (pivot3)) e5).map c27)), (90008, .pbox (σ 90008) [.v (zC (σ 90000))])]⟩) ?_ ?_
  ·clear h
   refine zL (qT (fun n s => ∃ (i9 : Int), s.keep (mb 107 3090) [32, 90000, 90008] = (⟨.bot :: I a1 :: .bot :: .bot :: .pt 32 0 :: bt 5 (I i9 :: I j8 :: bt 95 []), [(32, .box [.v (lsV b), .v (swV (σ 90000))]), (90000, .parr (σ 90000) 27 3 (((xs0.set (Int.toNat (a1)) e6).set (Int.toNat (pivot3)) e5).map c27)), (90008, .pbox (σ 90008) [.v (zC (σ 90000))])]⟩ : St) ∧ zBW a1 e5 e6 j8 pivot3 xs0 n i9 = some o11) FU ⟨_,  by rfl, hLo11⟩ ?_)
   clear hLo11
   rintro n s ⟨i9, hs, h⟩
   refine qQ _ _ hs ?_
   clear hs
   cases n with
   | zero => cases h
   | succ n =>
    rw [zBW] at h
    refine zO ?_
    obtain ⟨b14, hb14, h⟩ := zA h
    refine zG (mb 107 1073744914) [32, 90000, 90008] (s1 := ⟨.bot :: I a1 :: .bot :: .bot :: .pt 32 0 :: bt 5 (I i9 :: I j8 :: bt 18 (Bo b14 :: bt 76 [])), [(32, .box [.v (lsV b), .v (swV (σ 90000))]), (90000, .parr (σ 90000) 27 3 (((xs0.set (Int.toNat (a1)) e6).set (Int.toNat (pivot3)) e5).map c27)), (90008, .pbox (σ 90008) [.v (zC (σ 90000))])]⟩) ?_ ?_
    ·refine XR 4 ?_
     refine zU (leI i9 j8) (fun hc12 => ?_) (fun hc12 => ?_)
     ·have hb14 := zT hb14 hc12
      obtain ⟨y13, hy13, hb14⟩ := zA hb14
      have hb14 := zB hb14
      refine zF _ rfl rfl kk hc12 (zD rfl (zCM (.pt 32 0) Tryz.underlying145 rfl sz63 rfl kk (by intro hh; cases hh))) ?_
      refine zF _ rfl rfl kk hc12 (zD rfl (zBM (c := .v (lsV b)) (cs := [.v (swV (σ 90000))]) sc63 rfl kk)) ?_
      refine zF _ rfl rfl kk hc12 (zD rfl (qU (I i9) rfl kk)) ?_
      refine zF _ rfl rfl kk hc12 (zD rfl (qU (I a1) rfl kk)) ?_
      refine zF _ rfl rfl kk hc12 (zAT rfl (zDj (l := σ 90000) (lb := σ 90008) (T0 := 27) (id := 90000) (bid := 90008) (sz := 3) (b := b) (els := ((xs0.set (Int.toNat (a1)) e6).set (Int.toNat (pivot3)) e5).map c27) (i := i9) (j := a1) (qV hy13) qP rfl kk kk kk kk hb kk)) ?_
      refine zE rfl (zD rfl (zB5 (b := leI i9 j8) (p := y13) rfl kk hc12 kk hb14)) ?_
      exact XE
     ·have hb14 := zB (zJ hb14 hc12)
      refine zV _ rfl rfl kk hc12 rfl ?_
      refine zV _ rfl rfl kk hc12 rfl ?_
      refine zV _ rfl rfl kk hc12 rfl ?_
      refine zV _ rfl rfl kk hc12 rfl ?_
      refine zV _ rfl rfl kk hc12 rfl ?_
      refine zE rfl (zD rfl (zB6 (b := leI i9 j8) (p := false) rfl kk hc12 kk hb14)) ?_
      exact XE
    refine qX rfl (fun hc15 => ?_) (fun hc15 => ?_)
    ·have h := zT h hc15
     refine zK ?_
     show V _ _ _ _
     refine zL ?_
     obtain ⟨i16, hi16, h⟩ := zR h
     refine qS (mb 107 3090) [32, 90000, 90008] (s1 := ⟨.bot :: I a1 :: .bot :: .bot :: .pt 32 0 :: bt 5 (I i16 :: I j8 :: bt 95 []), [(32, .box [.v (lsV b), .v (swV (σ 90000))]), (90000, .parr (σ 90000) 27 3 (((xs0.set (Int.toNat (a1)) e6).set (Int.toNat (pivot3)) e5).map c27)), (90008, .pbox (σ 90008) [.v (zC (σ 90000))])]⟩) ?_ ?_
     ·refine XR 3 ?_
      refine zH ?_
      subst hi16
      kernel_rfl
     exact ⟨n, Nat.lt_succ_self n, _,  by rfl, h⟩
    ·have h := zJ h hc15
     refine qO ?_
     obtain rfl := zB h
     show St.keep _ _ _ = _
     rfl
  show V _ _ _ _
  refine zO ?_
  obtain ⟨o19, hLo19, h⟩ := zA h
  refine zAz (mb 107 3090) [32, 90000, 90008] (s1 := ⟨.bot :: I a1 :: .bot :: .bot :: .pt 32 0 :: bt 5 (I o11 :: I o19 :: bt 95 []), [(32, .box [.v (lsV b), .v (swV (σ 90000))]), (90000, .parr (σ 90000) 27 3 (((xs0.set (Int.toNat (a1)) e6).set (Int.toNat (pivot3)) e5).map c27)), (90008, .pbox (σ 90008) [.v (zC (σ 90000))])]⟩) ?_ ?_
  ·clear h
   refine zL (qT (fun n s => ∃ (j17 : Int), s.keep (mb 107 3090) [32, 90000, 90008] = (⟨.bot :: I a1 :: .bot :: .bot :: .pt 32 0 :: bt 5 (I o11 :: I j17 :: bt 95 []), [(32, .box [.v (lsV b), .v (swV (σ 90000))]), (90000, .parr (σ 90000) 27 3 (((xs0.set (Int.toNat (a1)) e6).set (Int.toNat (pivot3)) e5).map c27)), (90008, .pbox (σ 90008) [.v (zC (σ 90000))])]⟩ : St) ∧ zBV a1 e5 e6 o11 pivot3 xs0 n j17 = some o19) FU ⟨_,  by rfl, hLo19⟩ ?_)
   clear hLo19
   rintro n s ⟨j17, hs, h⟩
   refine qQ _ _ hs ?_
   clear hs
   cases n with
   | zero => cases h
   | succ n =>
    rw [zBV] at h
    refine zO ?_
    obtain ⟨b22, hb22, h⟩ := zA h
    refine zG (mb 107 8796093025298) [32, 90000, 90008] (s1 := ⟨.bot :: I a1 :: .bot :: .bot :: .pt 32 0 :: bt 5 (I o11 :: I j17 :: bt 31 (Bo b22 :: bt 63 [])), [(32, .box [.v (lsV b), .v (swV (σ 90000))]), (90000, .parr (σ 90000) 27 3 (((xs0.set (Int.toNat (a1)) e6).set (Int.toNat (pivot3)) e5).map c27)), (90008, .pbox (σ 90008) [.v (zC (σ 90000))])]⟩) ?_ ?_
    ·refine XR 4 ?_
     refine zU (leI o11 j17) (fun hc20 => ?_) (fun hc20 => ?_)
     ·have hb22 := zT hb22 hc20
      obtain ⟨y21, hy21, hb22⟩ := zA hb22
      have hb22 := zB hb22
      refine zF _ rfl rfl kk hc20 (zD rfl (zCM (.pt 32 0) Tryz.underlying145 rfl sz63 rfl kk (by intro hh; cases hh))) ?_
      refine zF _ rfl rfl kk hc20 (zD rfl (zBM (c := .v (lsV b)) (cs := [.v (swV (σ 90000))]) sc63 rfl kk)) ?_
      refine zF _ rfl rfl kk hc20 (zD rfl (qU (I j17) rfl kk)) ?_
      refine zF _ rfl rfl kk hc20 (zD rfl (qU (I a1) rfl kk)) ?_
      refine zF _ rfl rfl kk hc20 (zAT rfl (zDj (l := σ 90000) (lb := σ 90008) (T0 := 27) (id := 90000) (bid := 90008) (sz := 3) (b := b) (els := ((xs0.set (Int.toNat (a1)) e6).set (Int.toNat (pivot3)) e5).map c27) (i := j17) (j := a1) (qV hy21) qP rfl kk kk kk kk hb kk)) ?_
      refine zF _ rfl rfl kk hc20 (zD rfl (zDs (b := y21) rfl kk)) ?_
      refine zE rfl (zD rfl (zB5 (b := leI o11 j17) (p := !y21) rfl kk hc20 kk hb22)) ?_
      exact XE
     ·have hb22 := zB (zJ hb22 hc20)
      refine zV _ rfl rfl kk hc20 rfl ?_
      refine zV _ rfl rfl kk hc20 rfl ?_
      refine zV _ rfl rfl kk hc20 rfl ?_
      refine zV _ rfl rfl kk hc20 rfl ?_
      refine zV _ rfl rfl kk hc20 rfl ?_
      refine zV _ rfl rfl kk hc20 rfl ?_
      refine zE rfl (zD rfl (zB6 (b := leI o11 j17) (p := false) rfl kk hc20 kk hb22)) ?_
      exact XE
    refine qX rfl (fun hc23 => ?_) (fun hc23 => ?_)
    ·have h := zT h hc23
     refine zK ?_
     show V _ _ _ _
     refine zL ?_
     obtain ⟨j24, hj24, h⟩ := zR h
     refine qS (mb 107 3090) [32, 90000, 90008] (s1 := ⟨.bot :: I a1 :: .bot :: .bot :: .pt 32 0 :: bt 5 (I o11 :: I j24 :: bt 95 []), [(32, .box [.v (lsV b), .v (swV (σ 90000))]), (90000, .parr (σ 90000) 27 3 (((xs0.set (Int.toNat (a1)) e6).set (Int.toNat (pivot3)) e5).map c27)), (90008, .pbox (σ 90008) [.v (zC (σ 90000))])]⟩) ?_ ?_
     ·refine XR 3 ?_
      refine zH ?_
      subst hj24
      kernel_rfl
     exact ⟨n, Nat.lt_succ_self n, _,  by rfl, h⟩
    ·have h := zJ h hc23
     refine qO ?_
     obtain rfl := zB h
     show St.keep _ _ _ = _
     rfl
  show V _ _ _ _
  refine zO ?_
  refine V_e (mb 107 281474976713746) [32, 90000, 90008] (s1 := ⟨.bot :: I a1 :: .bot :: .bot :: .pt 32 0 :: bt 5 (I o11 :: I o19 :: bt 36 (Bo (ltI o19 o11) :: bt 58 [])), [(32, .box [.v (lsV b), .v (swV (σ 90000))]), (90000, .parr (σ 90000) 27 3 (((xs0.set (Int.toNat (a1)) e6).set (Int.toNat (pivot3)) e5).map c27)), (90008, .pbox (σ 90008) [.v (zC (σ 90000))])]⟩) ?_
  refine qX rfl (fun hc25 => ?_) (fun hc25 => ?_)
  ·have h := zT h hc25
   obtain ⟨e26, he26, h⟩ := zA h
   obtain ⟨e27, he27, h⟩ := zA h
   obtain ⟨l28, hl28, h⟩ := zA h
   have hl28 := zB hl28
   refine zG (mb 107 2048) [90000, 90008] (s1 := ⟨bt 11 (I o19 :: bt 95 []), [(90000, .parr (σ 90000) 27 3 (l28.map c27)), (90008, .pbox (σ 90008) [.v (zC (σ 90000))])]⟩) ?_ ?_
   ·refine XR 4 ?_
    refine zE rfl (zEG (c := c27) (xs := (xs0.set (Int.toNat (a1)) e6).set (Int.toNat (pivot3)) e5) (u := e26) (v := e27) (I1 := o19) (J1 := a1) (l := σ 90000) (T0 := 27) (id := 90000) (g := false) swX agX sz27 rfl kk rfl kk kk kk he26 he27) ?_
    refine zH ?_
    subst hl28
    kernel_rfl
   refine V_e (mb 107 768) [90000, 90008] (s1 := ⟨bt 8 (I o19 :: Bo true :: bt 97 []), [(90000, .parr (σ 90000) 27 3 (l28.map c27)), (90008, .pbox (σ 90008) [.v (zC (σ 90000))])]⟩) ?_
   refine zM ?_
   obtain rfl := zB h
   show zDX _ _ _ _ _ _
   exact ⟨⟨.inr rfl, rfl, rfl, rfl⟩, ⟨rfl, ⟨rfl, trivial⟩⟩⟩
  ·have h := zJ h hc25
   refine zK ?_
   show V _ _ _ _
   obtain ⟨e29, he29, h⟩ := zA h
   obtain ⟨e30, he30, h⟩ := zA h
   obtain ⟨l31, hl31, h⟩ := zA h
   have hl31 := zB hl31
   refine zG (mb 107 3090) [32, 90000, 90008] (s1 := ⟨.bot :: I a1 :: .bot :: .bot :: .pt 32 0 :: bt 5 (I o11 :: I o19 :: bt 95 []), [(32, .box [.v (lsV b), .v (swV (σ 90000))]), (90000, .parr (σ 90000) 27 3 (l31.map c27)), (90008, .pbox (σ 90008) [.v (zC (σ 90000))])]⟩) ?_ ?_
   ·refine XR 4 ?_
    refine zE rfl (zEG (c := c27) (xs := (xs0.set (Int.toNat (a1)) e6).set (Int.toNat (pivot3)) e5) (u := e29) (v := e30) (I1 := o11) (J1 := o19) (l := σ 90000) (T0 := 27) (id := 90000) (g := false) swX agX sz27 rfl kk rfl kk kk kk he29 he30) ?_
    refine zH ?_
    subst hl31
    kernel_rfl
   obtain ⟨i32, hi32, h⟩ := zR h
   refine zG (mb 107 3090) [32, 90000, 90008] (s1 := ⟨.bot :: I a1 :: .bot :: .bot :: .pt 32 0 :: bt 5 (I i32 :: I o19 :: bt 95 []), [(32, .box [.v (lsV b), .v (swV (σ 90000))]), (90000, .parr (σ 90000) 27 3 (l31.map c27)), (90008, .pbox (σ 90008) [.v (zC (σ 90000))])]⟩) ?_ ?_
   ·refine XR 3 ?_
    refine zH ?_
    subst hi32
    kernel_rfl
   obtain ⟨j33, hj33, h⟩ := zR h
   refine zG (mb 107 3090) [32, 90000, 90008] (s1 := ⟨.bot :: I a1 :: .bot :: .bot :: .pt 32 0 :: bt 5 (I i32 :: I j33 :: bt 95 []), [(32, .box [.v (lsV b), .v (swV (σ 90000))]), (90000, .parr (σ 90000) 27 3 (l31.map c27)), (90008, .pbox (σ 90008) [.v (zC (σ 90000))])]⟩) ?_ ?_
   ·refine XR 3 ?_
    refine zH ?_
    subst hj33
    kernel_rfl
   refine zO ?_
   obtain ⟨o38, hLo38, h⟩ := zA h
   refine zAz (mb 107 2066) [32, 90000, 90008] (s1 := ⟨.bot :: I a1 :: .bot :: .bot :: .pt 32 0 :: bt 6 (I o38.1 :: bt 95 []), [(32, .box [.v (lsV b), .v (swV (σ 90000))]), (90000, .parr (σ 90000) 27 3 (o38.2.map c27)), (90008, .pbox (σ 90008) [.v (zC (σ 90000))])]⟩) ?_ ?_
   ·clear h
    refine zL (qT (fun n s => ∃ (i34 : Int) (j35 : Int) (l36 : List ((Int × Int × Int))), s.keep (mb 107 3090) [32, 90000, 90008] = (⟨.bot :: I a1 :: .bot :: .bot :: .pt 32 0 :: bt 5 (I i34 :: I j35 :: bt 95 []), [(32, .box [.v (lsV b), .v (swV (σ 90000))]), (90000, .parr (σ 90000) 27 3 (l36.map c27)), (90008, .pbox (σ 90008) [.v (zC (σ 90000))])]⟩ : St) ∧ zBU a1 n i34 j35 l36 = some o38) FU ⟨_, _, _,  by rfl, hLo38⟩ ?_)
    clear hLo38
    rintro n s ⟨i34, j35, l36, hs, h⟩
    refine qQ _ _ hs ?_
    clear hs
    cases n with
    | zero => cases h
    | succ n =>
     rw [zBU] at h
     refine zL ?_
     refine zO ?_
     obtain ⟨o41, hLo41, h⟩ := zA h
     refine zAz (mb 107 3090) [32, 90000, 90008] (s1 := ⟨.bot :: I a1 :: .bot :: .bot :: .pt 32 0 :: bt 5 (I o41 :: I j35 :: bt 95 []), [(32, .box [.v (lsV b), .v (swV (σ 90000))]), (90000, .parr (σ 90000) 27 3 (l36.map c27)), (90008, .pbox (σ 90008) [.v (zC (σ 90000))])]⟩) ?_ ?_
     ·clear h
      refine zL (qT (fun n s => ∃ (i39 : Int), s.keep (mb 107 3090) [32, 90000, 90008] = (⟨.bot :: I a1 :: .bot :: .bot :: .pt 32 0 :: bt 5 (I i39 :: I j35 :: bt 95 []), [(32, .box [.v (lsV b), .v (swV (σ 90000))]), (90000, .parr (σ 90000) 27 3 (l36.map c27)), (90008, .pbox (σ 90008) [.v (zC (σ 90000))])]⟩ : St) ∧ zBT a1 j35 l36 n i39 = some o41) FU ⟨_,  by rfl, hLo41⟩ ?_)
      clear hLo41
      rintro n s ⟨i39, hs, h⟩
      refine qQ _ _ hs ?_
      clear hs
      cases n with
      | zero => cases h
      | succ n =>
       rw [zBT] at h
       refine zO ?_
       obtain ⟨b44, hb44, h⟩ := zA h
       refine zG (mb 107 9444732965739290430482) [32, 90000, 90008] (s1 := ⟨.bot :: I a1 :: .bot :: .bot :: .pt 32 0 :: bt 5 (I i39 :: I j35 :: bt 61 (Bo b44 :: bt 33 [])), [(32, .box [.v (lsV b), .v (swV (σ 90000))]), (90000, .parr (σ 90000) 27 3 (l36.map c27)), (90008, .pbox (σ 90008) [.v (zC (σ 90000))])]⟩) ?_ ?_
       ·refine XR 4 ?_
        refine zU (leI i39 j35) (fun hc42 => ?_) (fun hc42 => ?_)
        ·have hb44 := zT hb44 hc42
         obtain ⟨y43, hy43, hb44⟩ := zA hb44
         have hb44 := zB hb44
         refine zF _ rfl rfl kk hc42 (zD rfl (zCM (.pt 32 0) Tryz.underlying145 rfl sz63 rfl kk (by intro hh; cases hh))) ?_
         refine zF _ rfl rfl kk hc42 (zD rfl (zBM (c := .v (lsV b)) (cs := [.v (swV (σ 90000))]) sc63 rfl kk)) ?_
         refine zF _ rfl rfl kk hc42 (zD rfl (qU (I i39) rfl kk)) ?_
         refine zF _ rfl rfl kk hc42 (zD rfl (qU (I a1) rfl kk)) ?_
         refine zF _ rfl rfl kk hc42 (zAT rfl (zDj (l := σ 90000) (lb := σ 90008) (T0 := 27) (id := 90000) (bid := 90008) (sz := 3) (b := b) (els := l36.map c27) (i := i39) (j := a1) (qV hy43) qP rfl kk kk kk kk hb kk)) ?_
         refine zE rfl (zD rfl (zB5 (b := leI i39 j35) (p := y43) rfl kk hc42 kk hb44)) ?_
         exact XE
        ·have hb44 := zB (zJ hb44 hc42)
         refine zV _ rfl rfl kk hc42 rfl ?_
         refine zV _ rfl rfl kk hc42 rfl ?_
         refine zV _ rfl rfl kk hc42 rfl ?_
         refine zV _ rfl rfl kk hc42 rfl ?_
         refine zV _ rfl rfl kk hc42 rfl ?_
         refine zE rfl (zD rfl (zB6 (b := leI i39 j35) (p := false) rfl kk hc42 kk hb44)) ?_
         exact XE
       refine qX rfl (fun hc45 => ?_) (fun hc45 => ?_)
       ·have h := zT h hc45
        refine zK ?_
        show V _ _ _ _
        refine zL ?_
        obtain ⟨i46, hi46, h⟩ := zR h
        refine qS (mb 107 3090) [32, 90000, 90008] (s1 := ⟨.bot :: I a1 :: .bot :: .bot :: .pt 32 0 :: bt 5 (I i46 :: I j35 :: bt 95 []), [(32, .box [.v (lsV b), .v (swV (σ 90000))]), (90000, .parr (σ 90000) 27 3 (l36.map c27)), (90008, .pbox (σ 90008) [.v (zC (σ 90000))])]⟩) ?_ ?_
        ·refine XR 3 ?_
         refine zH ?_
         subst hi46
         kernel_rfl
        exact ⟨n, Nat.lt_succ_self n, _,  by rfl, h⟩
       ·have h := zJ h hc45
        refine qO ?_
        obtain rfl := zB h
        show St.keep _ _ _ = _
        rfl
     show V _ _ _ _
     refine zO ?_
     obtain ⟨o49, hLo49, h⟩ := zA h
     refine zAz (mb 107 3090) [32, 90000, 90008] (s1 := ⟨.bot :: I a1 :: .bot :: .bot :: .pt 32 0 :: bt 5 (I o41 :: I o49 :: bt 95 []), [(32, .box [.v (lsV b), .v (swV (σ 90000))]), (90000, .parr (σ 90000) 27 3 (l36.map c27)), (90008, .pbox (σ 90008) [.v (zC (σ 90000))])]⟩) ?_ ?_
     ·clear h
      refine zL (qT (fun n s => ∃ (j47 : Int), s.keep (mb 107 3090) [32, 90000, 90008] = (⟨.bot :: I a1 :: .bot :: .bot :: .pt 32 0 :: bt 5 (I o41 :: I j47 :: bt 95 []), [(32, .box [.v (lsV b), .v (swV (σ 90000))]), (90000, .parr (σ 90000) 27 3 (l36.map c27)), (90008, .pbox (σ 90008) [.v (zC (σ 90000))])]⟩ : St) ∧ zBS a1 l36 o41 n j47 = some o49) FU ⟨_,  by rfl, hLo49⟩ ?_)
      clear hLo49
      rintro n s ⟨j47, hs, h⟩
      refine qQ _ _ hs ?_
      clear hs
      cases n with
      | zero => cases h
      | succ n =>
       rw [zBS] at h
       refine zO ?_
       obtain ⟨b52, hb52, h⟩ := zA h
       refine zG (mb 107 77371252455336267181198354) [32, 90000, 90008] (s1 := ⟨.bot :: I a1 :: .bot :: .bot :: .pt 32 0 :: bt 5 (I o41 :: I j47 :: bt 74 (Bo b52 :: bt 20 [])), [(32, .box [.v (lsV b), .v (swV (σ 90000))]), (90000, .parr (σ 90000) 27 3 (l36.map c27)), (90008, .pbox (σ 90008) [.v (zC (σ 90000))])]⟩) ?_ ?_
       ·refine XR 4 ?_
        refine zU (leI o41 j47) (fun hc50 => ?_) (fun hc50 => ?_)
        ·have hb52 := zT hb52 hc50
         obtain ⟨y51, hy51, hb52⟩ := zA hb52
         have hb52 := zB hb52
         refine zF _ rfl rfl kk hc50 (zD rfl (zCM (.pt 32 0) Tryz.underlying145 rfl sz63 rfl kk (by intro hh; cases hh))) ?_
         refine zF _ rfl rfl kk hc50 (zD rfl (zBM (c := .v (lsV b)) (cs := [.v (swV (σ 90000))]) sc63 rfl kk)) ?_
         refine zF _ rfl rfl kk hc50 (zD rfl (qU (I j47) rfl kk)) ?_
         refine zF _ rfl rfl kk hc50 (zD rfl (qU (I a1) rfl kk)) ?_
         refine zF _ rfl rfl kk hc50 (zAT rfl (zDj (l := σ 90000) (lb := σ 90008) (T0 := 27) (id := 90000) (bid := 90008) (sz := 3) (b := b) (els := l36.map c27) (i := j47) (j := a1) (qV hy51) qP rfl kk kk kk kk hb kk)) ?_
         refine zF _ rfl rfl kk hc50 (zD rfl (zDs (b := y51) rfl kk)) ?_
         refine zE rfl (zD rfl (zB5 (b := leI o41 j47) (p := !y51) rfl kk hc50 kk hb52)) ?_
         exact XE
        ·have hb52 := zB (zJ hb52 hc50)
         refine zV _ rfl rfl kk hc50 rfl ?_
         refine zV _ rfl rfl kk hc50 rfl ?_
         refine zV _ rfl rfl kk hc50 rfl ?_
         refine zV _ rfl rfl kk hc50 rfl ?_
         refine zV _ rfl rfl kk hc50 rfl ?_
         refine zV _ rfl rfl kk hc50 rfl ?_
         refine zE rfl (zD rfl (zB6 (b := leI o41 j47) (p := false) rfl kk hc50 kk hb52)) ?_
         exact XE
       refine qX rfl (fun hc53 => ?_) (fun hc53 => ?_)
       ·have h := zT h hc53
        refine zK ?_
        show V _ _ _ _
        refine zL ?_
        obtain ⟨j54, hj54, h⟩ := zR h
        refine qS (mb 107 3090) [32, 90000, 90008] (s1 := ⟨.bot :: I a1 :: .bot :: .bot :: .pt 32 0 :: bt 5 (I o41 :: I j54 :: bt 95 []), [(32, .box [.v (lsV b), .v (swV (σ 90000))]), (90000, .parr (σ 90000) 27 3 (l36.map c27)), (90008, .pbox (σ 90008) [.v (zC (σ 90000))])]⟩) ?_ ?_
        ·refine XR 3 ?_
         refine zH ?_
         subst hj54
         kernel_rfl
        exact ⟨n, Nat.lt_succ_self n, _,  by rfl, h⟩
       ·have h := zJ h hc53
        refine qO ?_
        obtain rfl := zB h
        show St.keep _ _ _ = _
        rfl
     show V _ _ _ _
     refine zO ?_
     refine V_e (mb 107 2475880078570760549798251538) [32, 90000, 90008] (s1 := ⟨.bot :: I a1 :: .bot :: .bot :: .pt 32 0 :: bt 5 (I o41 :: I o49 :: bt 79 (Bo (ltI o49 o41) :: bt 15 [])), [(32, .box [.v (lsV b), .v (swV (σ 90000))]), (90000, .parr (σ 90000) 27 3 (l36.map c27)), (90008, .pbox (σ 90008) [.v (zC (σ 90000))])]⟩) ?_
     refine qX rfl (fun hc55 => ?_) (fun hc55 => ?_)
     ·have h := zT h hc55
      refine qO ?_
      obtain rfl := zB h
      show St.keep _ _ _ = _
      rfl
     ·have h := zJ h hc55
      refine zK ?_
      show V _ _ _ _
      obtain ⟨e56, he56, h⟩ := zA h
      obtain ⟨e57, he57, h⟩ := zA h
      refine zG (mb 107 3090) [32, 90000, 90008] (s1 := ⟨.bot :: I a1 :: .bot :: .bot :: .pt 32 0 :: bt 5 (I o41 :: I o49 :: bt 95 []), [(32, .box [.v (lsV b), .v (swV (σ 90000))]), (90000, .parr (σ 90000) 27 3 (((l36.set (Int.toNat (o41)) e57).set (Int.toNat (o49)) e56).map c27)), (90008, .pbox (σ 90008) [.v (zC (σ 90000))])]⟩) ?_ ?_
      ·refine XR 4 ?_
       refine zE rfl (zEG (c := c27) (xs := l36) (u := e56) (v := e57) (I1 := o41) (J1 := o49) (l := σ 90000) (T0 := 27) (id := 90000) (g := false) swX agX sz27 rfl kk rfl kk kk kk he56 he57) ?_
       exact XE
      obtain ⟨i58, hi58, h⟩ := zR h
      refine zG (mb 107 3090) [32, 90000, 90008] (s1 := ⟨.bot :: I a1 :: .bot :: .bot :: .pt 32 0 :: bt 5 (I i58 :: I o49 :: bt 95 []), [(32, .box [.v (lsV b), .v (swV (σ 90000))]), (90000, .parr (σ 90000) 27 3 (((l36.set (Int.toNat (o41)) e57).set (Int.toNat (o49)) e56).map c27)), (90008, .pbox (σ 90008) [.v (zC (σ 90000))])]⟩) ?_ ?_
      ·refine XR 3 ?_
       refine zH ?_
       subst hi58
       kernel_rfl
      obtain ⟨j59, hj59, h⟩ := zR h
      refine qS (mb 107 3090) [32, 90000, 90008] (s1 := ⟨.bot :: I a1 :: .bot :: .bot :: .pt 32 0 :: bt 5 (I i58 :: I j59 :: bt 95 []), [(32, .box [.v (lsV b), .v (swV (σ 90000))]), (90000, .parr (σ 90000) 27 3 (((l36.set (Int.toNat (o41)) e57).set (Int.toNat (o49)) e56).map c27)), (90008, .pbox (σ 90008) [.v (zC (σ 90000))])]⟩) ?_ ?_
      ·refine XR 3 ?_
       refine zH ?_
       subst hj59
       kernel_rfl
      exact ⟨n, Nat.lt_succ_self n, _, _, _,  by rfl, h⟩
   show V _ _ _ _
   obtain ⟨e60, he60, h⟩ := zA h
   obtain ⟨e61, he61, h⟩ := zA h
   refine zG (mb 107 2048) [90000, 90008] (s1 := ⟨bt 11 (I o38.1 :: bt 95 []), [(90000, .parr (σ 90000) 27 3 (((o38.2.set (Int.toNat (o38.1)) e61).set (Int.toNat (a1)) e60).map c27)), (90008, .pbox (σ 90008) [.v (zC (σ 90000))])]⟩) ?_ ?_
   ·refine XR 4 ?_
    refine zE rfl (zEG (c := c27) (xs := o38.2) (u := e60) (v := e61) (I1 := o38.1) (J1 := a1) (l := σ 90000) (T0 := 27) (id := 90000) (g := false) swX agX sz27 rfl kk rfl kk kk kk he60 he61) ?_
    exact XE
   refine V_e (mb 107 768) [90000, 90008] (s1 := ⟨bt 8 (I o38.1 :: Bo false :: bt 97 []), [(90000, .parr (σ 90000) 27 3 (((o38.2.set (Int.toNat (o38.1)) e61).set (Int.toNat (a1)) e60).map c27)), (90008, .pbox (σ 90008) [.v (zC (σ 90000))])]⟩) ?_
   refine zM ?_
   obtain rfl := zB h
   show zDX _ _ _ _ _ _
   exact ⟨⟨.inr rfl, rfl, rfl, rfl⟩, ⟨rfl, ⟨rfl, trivial⟩⟩⟩
theorem zE0 : CfW Tryz.prog 168 := cfW Tryz.func168
theorem zE7 {xs0 : List ((Int × Int × Int))} {a1 : Int} {b2 : Int} {limit3 : Int} {l0 lb : Loc} {b : Nat} (hb : lb.blk = some b) {r : List ((Int × Int × Int))} (h : zCJ xs0 a1 b2 limit3 = some r) : ∀ σ : Nat → Loc, σ 90000 = l0 → σ 90008 = lb → zDt Tryz.prog 168 σ [.ag [.v (lsV b), .v (swV l0)], I a1, I b2, I limit3] [(90000, .arr 27 3 (xs0.map c27)), (90008, .box [.v (zC l0)])] (.tn) [] [(90000, .arr 27 3 (r.map c27)), (90008, .box [.v (zC l0)])] := by
  intro σ e1 e2
  subst e1 e2
  refine jL (rs := []) (vs := []) Tryz.func168 rfl rfl FitsL.nil (by decide) 130 rfl rfl ?_
  unfold zCJ at h
  show V _ _ ⟨.ag [.v (lsV b), .v (swV (σ 90000))] :: I a1 :: I b2 :: I limit3 :: bt 126 [], [(90000, .parr (σ 90000) 27 3 (xs0.map c27)), (90008, .pbox (σ 90008) [.v (zC (σ 90000))])]⟩ _
  refine V_e (mb 130 30) [32, 90000, 90008] (s1 := ⟨.bot :: I a1 :: I b2 :: I limit3 :: .pt 32 0 :: bt 125 [], [(32, .box [.v (lsV b), .v (swV (σ 90000))]), (90000, .parr (σ 90000) 27 3 (xs0.map c27)), (90008, .pbox (σ 90008) [.v (zC (σ 90000))])]⟩) ?_
  refine V_e (mb 130 286) [32, 90000, 90008] (s1 := ⟨.bot :: I a1 :: I b2 :: I limit3 :: .pt 32 0 :: bt 3 (Bo true :: bt 121 []), [(32, .box [.v (lsV b), .v (swV (σ 90000))]), (90000, .parr (σ 90000) 27 3 (xs0.map c27)), (90008, .pbox (σ 90008) [.v (zC (σ 90000))])]⟩) ?_
  refine V_e (mb 130 798) [32, 90000, 90008] (s1 := ⟨.bot :: I a1 :: I b2 :: I limit3 :: .pt 32 0 :: bt 3 (Bo true :: Bo true :: bt 120 []), [(32, .box [.v (lsV b), .v (swV (σ 90000))]), (90000, .parr (σ 90000) 27 3 (xs0.map c27)), (90008, .pbox (σ 90008) [.v (zC (σ 90000))])]⟩) ?_
  obtain ⟨qo8, hLo8, hko8⟩ := zA h
  refine zE6 (q := qo8) (S := fun _ => (⟨[], []⟩ : St)) [] [] ?_ ?_
  ·refine zL (qT (fun n s => ∃ (a5 : Int) (l6 : List ((Int × Int × Int))), s.keep (mb 130 798) [32, 90000, 90008] = (⟨.bot :: I a5 :: I b2 :: I limit3 :: .pt 32 0 :: bt 3 (Bo true :: Bo true :: bt 120 []), [(32, .box [.v (lsV b), .v (swV (σ 90000))]), (90000, .parr (σ 90000) 27 3 (l6.map c27)), (90008, .pbox (σ 90008) [.v (zC (σ 90000))])]⟩ : St) ∧ zB9 b2 limit3 n a5 l6 = some qo8) FU ⟨_, _,  by rfl, hLo8⟩ ?_)
   clear hLo8
   rintro n s ⟨a5, l6, hs, h⟩
   refine qQ _ _ hs ?_
   clear hs
   cases n with
   | zero => cases h
   | succ n =>
    rw [zB9] at h
    refine zL ?_
    obtain ⟨length9, hlength9, h⟩ := zR h
    refine zG (mb 130 1822) [32, 90000, 90008] (s1 := ⟨.bot :: I a5 :: I b2 :: I limit3 :: .pt 32 0 :: bt 3 (Bo true :: Bo true :: I length9 :: bt 119 []), [(32, .box [.v (lsV b), .v (swV (σ 90000))]), (90000, .parr (σ 90000) 27 3 (l6.map c27)), (90008, .pbox (σ 90008) [.v (zC (σ 90000))])]⟩) ?_ ?_
    ·refine XR 4 ?_
     refine zH ?_
     subst hlength9
     kernel_rfl
    refine zO ?_
    refine V_e (mb 130 8390430) [32, 90000, 90008] (s1 := ⟨.bot :: I a5 :: I b2 :: I limit3 :: .pt 32 0 :: bt 3 (Bo true :: Bo true :: I length9 :: bt 12 (Bo (leI length9 12) :: bt 106 [])), [(32, .box [.v (lsV b), .v (swV (σ 90000))]), (90000, .parr (σ 90000) 27 3 (l6.map c27)), (90008, .pbox (σ 90008) [.v (zC (σ 90000))])]⟩) ?_
    refine qX rfl (fun hc10 => ?_) (fun hc10 => ?_)
    ·have h := zT h hc10
     obtain ⟨y11, hy11, h⟩ := zA h
     refine zG (mb 130 0) [90000, 90008] (s1 := ⟨bt 130 [], [(90000, .parr (σ 90000) 27 3 (y11.map c27)), (90008, .pbox (σ 90008) [.v (zC (σ 90000))])]⟩) ?_ ?_
     ·refine XR 3 ?_
      refine zE rfl (zAZ (l := σ 90000) (lb := σ 90008) (T0 := 27) (sz := 3) (els := l6.map c27) (cs := [.v (zC (σ 90000))]) (E' := [(32, .box [.v (lsV b), .v (swV (σ 90000))]), (90000, .parr (σ 90000) 27 3 (y11.map c27)), (90008, .pbox (σ 90008) [.v (zC (σ 90000))])]) [] 27 (fun σ' e1 e2 => zDk (l0 := σ 90000) hb hy11 σ' e1 e2) zDa kk kk rfl rfl rfl rfl kk rfl (zI kk (zI kk zZ)) rfl kk rfl rfl kk) ?_
      exact XE
     refine zM ?_
     obtain rfl := zB h
     have h := hko8
     obtain rfl := zB h
     show zDX _ _ _ _ _ _
     exact ⟨⟨.inr rfl, rfl, rfl, rfl⟩, ⟨rfl, ⟨rfl, trivial⟩⟩⟩
    ·have h := zJ h hc10
     refine zK ?_
     show V _ _ _ _
     refine zO ?_
     refine V_e (mb 130 536872734) [32, 90000, 90008] (s1 := ⟨.bot :: I a5 :: I b2 :: I limit3 :: .pt 32 0 :: bt 3 (Bo true :: Bo true :: I length9 :: bt 18 (Bo (eqI limit3 0) :: bt 100 [])), [(32, .box [.v (lsV b), .v (swV (σ 90000))]), (90000, .parr (σ 90000) 27 3 (l6.map c27)), (90008, .pbox (σ 90008) [.v (zC (σ 90000))])]⟩) ?_
     refine qX rfl (fun hc12 => ?_) (fun hc12 => ?_)
     ·have h := zT h hc12
      cases h
     ·have h := zJ h hc12
      refine zK ?_
      show V _ _ _ _
      refine zO ?_
      refine V_e (mb 130 34359740190) [32, 90000, 90008] (s1 := ⟨.bot :: I a5 :: I b2 :: I limit3 :: .pt 32 0 :: bt 3 (Bo true :: Bo true :: I length9 :: bt 24 (Bo false :: bt 94 [])), [(32, .box [.v (lsV b), .v (swV (σ 90000))]), (90000, .parr (σ 90000) 27 3 (l6.map c27)), (90008, .pbox (σ 90008) [.v (zC (σ 90000))])]⟩) ?_
      refine V_cond_false rfl ?_
      refine zK ?_
      show V _ _ _ _
      obtain ⟨y14, hy14, h⟩ := zA h
      refine zG (mb 130 7966) [32, 90000, 90008] (s1 := ⟨.bot :: I a5 :: I b2 :: I limit3 :: .pt 32 0 :: bt 3 (Bo true :: Bo true :: I length9 :: I y14.1 :: I y14.2.1 :: bt 117 []), [(32, .box [.v (lsV b), .v (swV (σ 90000))]), (90000, .parr (σ 90000) 27 3 (y14.2.2.map c27)), (90008, .pbox (σ 90008) [.v (zC (σ 90000))])]⟩) ?_ ?_
      ·refine XR 3 ?_
       refine zE rfl (zAZ (l := σ 90000) (lb := σ 90008) (T0 := 27) (sz := 3) (els := l6.map c27) (cs := [.v (zC (σ 90000))]) (E' := [(32, .box [.v (lsV b), .v (swV (σ 90000))]), (90000, .parr (σ 90000) 27 3 (y14.2.2.map c27)), (90008, .pbox (σ 90008) [.v (zC (σ 90000))])]) [] 46 (fun σ' e1 e2 => zEM (l0 := σ 90000) hb hy14 σ' e1 e2) zEA kk kk rfl rfl rfl rfl kk rfl (zI kk (zI kk zZ)) rfl kk rfl rfl kk) ?_
       exact XE
      obtain ⟨j15, hj15, h⟩ := zA h
      refine zEj (mb 130 7966) [32, 90000, 90008] (s1 := ⟨.bot :: I a5 :: I b2 :: I limit3 :: .pt 32 0 :: bt 3 (Bo true :: Bo true :: I length9 :: I j15.1 :: I j15.2.1 :: bt 117 []), [(32, .box [.v (lsV b), .v (swV (σ 90000))]), (90000, .parr (σ 90000) 27 3 (j15.2.2.map c27)), (90008, .pbox (σ 90008) [.v (zC (σ 90000))])]⟩) ?_ ?_
      ·clear h
       have h := hj15
       clear hj15
       refine V_e (mb 130 1125899906850590) [32, 90000, 90008] (s1 := ⟨.bot :: I a5 :: I b2 :: I limit3 :: .pt 32 0 :: bt 3 (Bo true :: Bo true :: I length9 :: I y14.1 :: I y14.2.1 :: bt 37 (Bo (eqI y14.2.1 2) :: bt 79 [])), [(32, .box [.v (lsV b), .v (swV (σ 90000))]), (90000, .parr (σ 90000) 27 3 (y14.2.2.map c27)), (90008, .pbox (σ 90008) [.v (zC (σ 90000))])]⟩) ?_
       refine qX rfl (fun hc16 => ?_) (fun hc16 => ?_)
       ·have h := zT h hc16
        obtain ⟨y17, hy17, h⟩ := zA h
        refine zG (mb 130 3870) [32, 90000, 90008] (s1 := ⟨.bot :: I a5 :: I b2 :: I limit3 :: .pt 32 0 :: bt 3 (Bo true :: Bo true :: I length9 :: I y14.1 :: bt 118 []), [(32, .box [.v (lsV b), .v (swV (σ 90000))]), (90000, .parr (σ 90000) 27 3 (y17.map c27)), (90008, .pbox (σ 90008) [.v (zC (σ 90000))])]⟩) ?_ ?_
        ·refine XR 3 ?_
         refine zE rfl (zAZ (l := σ 90000) (lb := σ 90008) (T0 := 27) (sz := 3) (els := y14.2.2.map c27) (cs := [.v (zC (σ 90000))]) (E' := [(32, .box [.v (lsV b), .v (swV (σ 90000))]), (90000, .parr (σ 90000) 27 3 (y17.map c27)), (90008, .pbox (σ 90008) [.v (zC (σ 90000))])]) [] 54 (fun σ' e1 e2 => zDw (l0 := σ 90000) hb hy17 σ' e1 e2) zDl kk kk rfl rfl rfl rfl kk rfl (zI kk (zI kk zZ)) rfl kk rfl rfl kk) ?_
         exact XE
        obtain ⟨pivot18, hpivot18, h⟩ := zR h
        refine zG (mb 130 3870) [32, 90000, 90008] (s1 := ⟨.bot :: I a5 :: I b2 :: I limit3 :: .pt 32 0 :: bt 3 (Bo true :: Bo true :: I length9 :: I pivot18 :: bt 118 []), [(32, .box [.v (lsV b), .v (swV (σ 90000))]), (90000, .parr (σ 90000) 27 3 (y17.map c27)), (90008, .pbox (σ 90008) [.v (zC (σ 90000))])]⟩) ?_ ?_
        ·refine XR 7 ?_
         refine zH ?_
         subst hpivot18
         kernel_rfl
        refine qS (mb 130 7966) [32, 90000, 90008] (s1 := ⟨.bot :: I a5 :: I b2 :: I limit3 :: .pt 32 0 :: bt 3 (Bo true :: Bo true :: I length9 :: I pivot18 :: I 1 :: bt 117 []), [(32, .box [.v (lsV b), .v (swV (σ 90000))]), (90000, .parr (σ 90000) 27 3 (y17.map c27)), (90008, .pbox (σ 90008) [.v (zC (σ 90000))])]⟩) ?_ ?_
        ·exact XE
        obtain rfl := zB h
        show St.keep _ _ _ = _
        rfl
       ·have h := zJ h hc16
        refine zK ?_
        obtain rfl := zB h
        show St.keep _ _ _ = _
        rfl
      obtain ⟨qo19, hLo19, hko19⟩ := zA h
      clear h
      refine V_cutS (q := qo19) (S := fun o19 => ⟨.bot :: I a5 :: I b2 :: I limit3 :: .pt 32 0 :: bt 3 (Bo true :: Bo true :: I length9 :: I j15.1 :: bt 118 []), [(32, .box [.v (lsV b), .v (swV (σ 90000))]), (90000, .parr (σ 90000) 27 3 (o19.map c27)), (90008, .pbox (σ 90008) [.v (zC (σ 90000))])]⟩) (mb 130 3870) [32, 90000, 90008] ?_ ?_
      ·have h := hLo19
       clear hLo19
       refine zG (mb 130 295147905179352829726) [32, 90000, 90008] (s1 := ⟨.bot :: I a5 :: I b2 :: I limit3 :: .pt 32 0 :: bt 3 (Bo true :: Bo true :: I length9 :: I j15.1 :: bt 56 (Bo (eqI j15.2.1 1) :: bt 61 [])), [(32, .box [.v (lsV b), .v (swV (σ 90000))]), (90000, .parr (σ 90000) 27 3 (j15.2.2.map c27)), (90008, .pbox (σ 90008) [.v (zC (σ 90000))])]⟩) ?_ ?_
       ·refine XR 2 ?_
        refine zF true rfl rfl kk rfl (zD rfl (qU (Bo true) rfl kk)) ?_
        refine L0 rfl rfl (E_pickt (Bo true) rfl kk kk) ?_
        refine XR 1 ?_
        refine zF true rfl rfl kk rfl (zD rfl (qU (I j15.2.1) rfl kk)) ?_
        refine zF true rfl rfl kk rfl (zD rfl (zJG (k := .i64) (a := j15.2.1) (b := 1) rfl kk kk)) ?_
        refine L0 rfl rfl (E_pickt (Bo (eqI j15.2.1 1)) rfl kk kk) ?_
        exact XE
       refine qX rfl (fun hc20 => ?_) (fun hc20 => ?_)
       ·have h := zT h hc20
        obtain ⟨y21, hy21, h⟩ := zA h
        refine zG (mb 130 4722366482869645217566) [32, 90000, 90008] (s1 := ⟨.bot :: I a5 :: I b2 :: I limit3 :: .pt 32 0 :: bt 3 (Bo true :: Bo true :: I length9 :: I j15.1 :: bt 60 (Bo y21.1 :: bt 57 [])), [(32, .box [.v (lsV b), .v (swV (σ 90000))]), (90000, .parr (σ 90000) 27 3 (y21.2.map c27)), (90008, .pbox (σ 90008) [.v (zC (σ 90000))])]⟩) ?_ ?_
        ·refine XR 3 ?_
         refine zE rfl (zAZ (l := σ 90000) (lb := σ 90008) (T0 := 27) (sz := 3) (els := j15.2.2.map c27) (cs := [.v (zC (σ 90000))]) (E' := [(32, .box [.v (lsV b), .v (swV (σ 90000))]), (90000, .parr (σ 90000) 27 3 (y21.2.map c27)), (90008, .pbox (σ 90008) [.v (zC (σ 90000))])]) [] 72 (fun σ' e1 e2 => zCU (l0 := σ 90000) hb hy21 σ' e1 e2) zCN kk kk rfl rfl rfl rfl kk rfl (zI kk (zI kk zZ)) rfl kk rfl rfl kk) ?_
         exact XE
        refine qX rfl (fun hc22 => ?_) (fun hc22 => ?_)
        ·have h := zT h hc22
         refine zM ?_
         obtain rfl := zB h
         have h := hko19
         obtain rfl := zB h
         have h := hko8
         obtain rfl := zB h
         show zDX _ _ _ _ _ _
         exact ⟨⟨.inr rfl, rfl, rfl, rfl⟩, ⟨rfl, ⟨rfl, trivial⟩⟩⟩
        ·have h := zJ h hc22
         refine zK ?_
         obtain rfl := zB h
         exact ⟨_, rfl, by rfl⟩
       ·have h := zJ h hc20
        refine zK ?_
        obtain rfl := zB h
        exact ⟨_, rfl, by rfl⟩
      rintro o19 rfl
      have h := hko19
      clear hko19
      refine zO ?_
      obtain ⟨b25, hb25, h⟩ := zA h
      refine zG (mb 130 9671406556917033397653278) [32, 90000, 90008] (s1 := ⟨.bot :: I a5 :: I b2 :: I limit3 :: .pt 32 0 :: bt 3 (Bo true :: Bo true :: I length9 :: I j15.1 :: bt 71 (Bo b25 :: bt 46 [])), [(32, .box [.v (lsV b), .v (swV (σ 90000))]), (90000, .parr (σ 90000) 27 3 (o19.map c27)), (90008, .pbox (σ 90008) [.v (zC (σ 90000))])]⟩) ?_ ?_
      ·refine XR 3 ?_
       refine zU (ltI 0 a5) (fun hc23 => ?_) (fun hc23 => ?_)
       ·have hb25 := zT hb25 hc23
        obtain ⟨y24, hy24, hb25⟩ := zA hb25
        have hb25 := zB hb25
        refine zF _ rfl rfl kk hc23 (zD rfl (zCM (.pt 32 0) Tryz.underlying145 rfl sz63 rfl kk (by intro hh; cases hh))) ?_
        refine zF _ rfl rfl kk hc23 (zD rfl (zBM (c := .v (lsV b)) (cs := [.v (swV (σ 90000))]) sc63 rfl kk)) ?_
        refine zF _ rfl rfl kk hc23 (zD rfl (qU (I a5) rfl kk)) ?_
        refine zF _ rfl rfl kk hc23 (zD rfl (zHJ (a := a5) (b := 1) rfl kk kk)) ?_
        refine zF _ rfl rfl kk hc23 (zD rfl (qU (I j15.1) rfl kk)) ?_
        refine zF _ rfl rfl kk hc23 (zAT rfl (zDj (l := σ 90000) (lb := σ 90008) (T0 := 27) (id := 90000) (bid := 90008) (sz := 3) (b := b) (els := o19.map c27) (i := w64 (a5 - 1)) (j := j15.1) (qV hy24) qP rfl kk kk kk kk hb kk)) ?_
        refine zF _ rfl rfl kk hc23 (zD rfl (zDs (b := y24) rfl kk)) ?_
        refine zE rfl (zD rfl (zB5 (b := ltI 0 a5) (p := !y24) rfl kk hc23 kk hb25)) ?_
        exact XE
       ·have hb25 := zB (zJ hb25 hc23)
        refine zV _ rfl rfl kk hc23 rfl ?_
        refine zV _ rfl rfl kk hc23 rfl ?_
        refine zV _ rfl rfl kk hc23 rfl ?_
        refine zV _ rfl rfl kk hc23 rfl ?_
        refine zV _ rfl rfl kk hc23 rfl ?_
        refine zV _ rfl rfl kk hc23 rfl ?_
        refine zV _ rfl rfl kk hc23 rfl ?_
        refine zE rfl (zD rfl (zB6 (b := ltI 0 a5) (p := false) rfl kk hc23 kk hb25)) ?_
        exact XE
      refine qX rfl (fun hc26 => ?_) (fun hc26 => ?_)
      ·have h := zT h hc26
       obtain ⟨y27, hy27, h⟩ := zA h
       refine zG (mb 130 8988) [32, 90000, 90008] (s1 := ⟨.bot :: .bot :: I b2 :: I limit3 :: .pt 32 0 :: bt 3 (Bo true :: Bo true :: bt 3 (I y27.1 :: bt 116 [])), [(32, .box [.v (lsV b), .v (swV (σ 90000))]), (90000, .parr (σ 90000) 27 3 (y27.2.map c27)), (90008, .pbox (σ 90008) [.v (zC (σ 90000))])]⟩) ?_ ?_
       ·refine XR 4 ?_
        refine zE rfl (zAZ (l := σ 90000) (lb := σ 90008) (T0 := 27) (sz := 3) (els := o19.map c27) (cs := [.v (zC (σ 90000))]) (E' := [(32, .box [.v (lsV b), .v (swV (σ 90000))]), (90000, .parr (σ 90000) 27 3 (y27.2.map c27)), (90008, .pbox (σ 90008) [.v (zC (σ 90000))])]) [] 88 (fun σ' e1 e2 => zDY (l0 := σ 90000) hb hy27 σ' e1 e2) zDW kk kk rfl rfl rfl rfl kk rfl (zI kk (zI kk zZ)) rfl kk rfl rfl kk) ?_
        exact XE
       refine V_e (mb 130 798) [32, 90000, 90008] (s1 := ⟨.bot :: I y27.1 :: I b2 :: I limit3 :: .pt 32 0 :: bt 3 (Bo true :: Bo true :: bt 120 []), [(32, .box [.v (lsV b), .v (swV (σ 90000))]), (90000, .parr (σ 90000) 27 3 (y27.2.map c27)), (90008, .pbox (σ 90008) [.v (zC (σ 90000))])]⟩) ?_
       refine qO ?_
       exact ⟨n, Nat.lt_succ_self n, _, _,  by rfl, h⟩
      ·have h := zJ h hc26
       refine zK ?_
       show V _ _ _ _
       obtain ⟨y28, hy28, h⟩ := zA h
       refine zG (mb 130 50206) [32, 90000, 90008] (s1 := ⟨.bot :: I a5 :: I b2 :: I limit3 :: .pt 32 0 :: bt 5 (I length9 :: bt 3 (I y28.1 :: Bo y28.2.1 :: bt 114 [])), [(32, .box [.v (lsV b), .v (swV (σ 90000))]), (90000, .parr (σ 90000) 27 3 (y28.2.2.map c27)), (90008, .pbox (σ 90008) [.v (zC (σ 90000))])]⟩) ?_ ?_
       ·refine XR 4 ?_
        refine zE rfl (zAZ (l := σ 90000) (lb := σ 90008) (T0 := 27) (sz := 3) (els := o19.map c27) (cs := [.v (zC (σ 90000))]) (E' := [(32, .box [.v (lsV b), .v (swV (σ 90000))]), (90000, .parr (σ 90000) 27 3 (y28.2.2.map c27)), (90008, .pbox (σ 90008) [.v (zC (σ 90000))])]) [] 95 (fun σ' e1 e2 => zE8 (l0 := σ 90000) hb hy28 σ' e1 e2) zE1 kk kk rfl rfl rfl rfl kk rfl (zI kk (zI kk zZ)) rfl kk rfl rfl kk) ?_
        exact XE
       refine V_e (mb 130 17950) [32, 90000, 90008] (s1 := ⟨.bot :: I a5 :: I b2 :: I limit3 :: .pt 32 0 :: bt 4 (Bo y28.2.1 :: I length9 :: bt 3 (I y28.1 :: bt 115 [])), [(32, .box [.v (lsV b), .v (swV (σ 90000))]), (90000, .parr (σ 90000) 27 3 (y28.2.2.map c27)), (90008, .pbox (σ 90008) [.v (zC (σ 90000))])]⟩) ?_
       obtain ⟨leftLen29, hleftLen29, h⟩ := zR h
       obtain ⟨rightLen30, hrightLen30, h⟩ := zR h
       refine zG (mb 130 214558) [32, 90000, 90008] (s1 := ⟨.bot :: I a5 :: I b2 :: I limit3 :: .pt 32 0 :: bt 4 (Bo y28.2.1 :: I length9 :: bt 3 (I y28.1 :: .bot :: I leftLen29 :: I rightLen30 :: bt 112 [])), [(32, .box [.v (lsV b), .v (swV (σ 90000))]), (90000, .parr (σ 90000) 27 3 (y28.2.2.map c27)), (90008, .pbox (σ 90008) [.v (zC (σ 90000))])]⟩) ?_ ?_
       ·refine XR 8 ?_
        refine zH ?_
        subst hleftLen29 hrightLen30
        kernel_rfl
       obtain ⟨balanceThreshold31, hbalanceThreshold31, h⟩ := zR h
       refine zG (mb 130 475678) [32, 90000, 90008] (s1 := ⟨.bot :: I a5 :: I b2 :: I limit3 :: .pt 32 0 :: bt 4 (Bo y28.2.1 :: bt 4 (I y28.1 :: .bot :: I leftLen29 :: I rightLen30 :: I balanceThreshold31 :: bt 111 [])), [(32, .box [.v (lsV b), .v (swV (σ 90000))]), (90000, .parr (σ 90000) 27 3 (y28.2.2.map c27)), (90008, .pbox (σ 90008) [.v (zC (σ 90000))])]⟩) ?_ ?_
       ·refine XR 1 ?_
        refine L0 rfl rfl (jJ (a := length9) (b := 8) rfl kk kk (by decide)) ?_
        refine XR 1 ?_
        refine zH ?_
        subst hbalanceThreshold31
        kernel_rfl
       refine V_e (mb 130 649037107316853453566312041628190) [32, 90000, 90008] (s1 := ⟨.bot :: I a5 :: I b2 :: I limit3 :: .pt 32 0 :: bt 4 (Bo y28.2.1 :: bt 4 (I y28.1 :: .bot :: I leftLen29 :: I rightLen30 :: I balanceThreshold31 :: bt 90 (Bo (ltI leftLen29 rightLen30) :: bt 20 []))), [(32, .box [.v (lsV b), .v (swV (σ 90000))]), (90000, .parr (σ 90000) 27 3 (y28.2.2.map c27)), (90008, .pbox (σ 90008) [.v (zC (σ 90000))])]⟩) ?_
       refine qX rfl (fun hc32 => ?_) (fun hc32 => ?_)
       ·have h := zT h hc32
        cases h
       ·have h := zJ h hc32
        cases h
  rintro o8 rfl
  cases hko8
theorem zHU {xs0 : List ((Int × Int × Int))} {a1 : Int} {b2 : Int} {limit3 : Int} {l0 lb : Loc} {b : Nat} (hb : lb.blk = some b) {r : List ((Int × Int × Int))} (h : zBv xs0 a1 b2 limit3 = some r) : ∀ σ : Nat → Loc, σ 90000 = l0 → σ 90008 = lb → zDt Tryz.prog 168 σ [.ag [.v (lsV b), .v (swV l0)], I a1, I b2, I limit3] [(90000, .arr 27 3 (xs0.map c27)), (90008, .box [.v (zC l0)])] (.tn) [] [(90000, .arr 27 3 (r.map c27)), (90008, .box [.v (zC l0)])] := by
  intro σ e1 e2
  subst e1 e2
  refine jL (rs := []) (vs := []) Tryz.func168 rfl rfl FitsL.nil (by decide) 130 rfl rfl ?_
  unfold zBv at h
  show V _ _ ⟨.ag [.v (lsV b), .v (swV (σ 90000))] :: I a1 :: I b2 :: I limit3 :: bt 126 [], [(90000, .parr (σ 90000) 27 3 (xs0.map c27)), (90008, .pbox (σ 90008) [.v (zC (σ 90000))])]⟩ _
  refine V_e (mb 130 30) [32, 90000, 90008] (s1 := ⟨.bot :: I a1 :: I b2 :: I limit3 :: .pt 32 0 :: bt 125 [], [(32, .box [.v (lsV b), .v (swV (σ 90000))]), (90000, .parr (σ 90000) 27 3 (xs0.map c27)), (90008, .pbox (σ 90008) [.v (zC (σ 90000))])]⟩) ?_
  refine V_e (mb 130 286) [32, 90000, 90008] (s1 := ⟨.bot :: I a1 :: I b2 :: I limit3 :: .pt 32 0 :: bt 3 (Bo true :: bt 121 []), [(32, .box [.v (lsV b), .v (swV (σ 90000))]), (90000, .parr (σ 90000) 27 3 (xs0.map c27)), (90008, .pbox (σ 90008) [.v (zC (σ 90000))])]⟩) ?_
  refine V_e (mb 130 798) [32, 90000, 90008] (s1 := ⟨.bot :: I a1 :: I b2 :: I limit3 :: .pt 32 0 :: bt 3 (Bo true :: Bo true :: bt 120 []), [(32, .box [.v (lsV b), .v (swV (σ 90000))]), (90000, .parr (σ 90000) 27 3 (xs0.map c27)), (90008, .pbox (σ 90008) [.v (zC (σ 90000))])]⟩) ?_
  obtain ⟨qo11, hLo11, hko11⟩ := zA h
  refine zE6 (q := qo11) (S := fun _ => (⟨[], []⟩ : St)) [] [] ?_ ?_
  ·refine zL (qT (fun n s => ∃ (a5 : Int) (l6 : List ((Int × Int × Int))) (wasBalanced7 : Bool) (wasPartitioned8 : Bool) (b9 : Int), s.keep (mb 130 798) [32, 90000, 90008] = (⟨.bot :: I a5 :: I b9 :: I limit3 :: .pt 32 0 :: bt 3 (Bo wasBalanced7 :: Bo wasPartitioned8 :: bt 120 []), [(32, .box [.v (lsV b), .v (swV (σ 90000))]), (90000, .parr (σ 90000) 27 3 (l6.map c27)), (90008, .pbox (σ 90008) [.v (zC (σ 90000))])]⟩ : St) ∧ jZ limit3 n a5 l6 wasBalanced7 wasPartitioned8 b9 = some qo11) FU ⟨_, _, _, _, _,  by rfl, hLo11⟩ ?_)
   clear hLo11
   rintro n s ⟨a5, l6, wasBalanced7, wasPartitioned8, b9, hs, h⟩
   refine qQ _ _ hs ?_
   clear hs
   cases n with
   | zero => cases h
   | succ n =>
    rw [jZ] at h
    refine zL ?_
    obtain ⟨length12, hlength12, h⟩ := zR h
    refine zG (mb 130 1822) [32, 90000, 90008] (s1 := ⟨.bot :: I a5 :: I b9 :: I limit3 :: .pt 32 0 :: bt 3 (Bo wasBalanced7 :: Bo wasPartitioned8 :: I length12 :: bt 119 []), [(32, .box [.v (lsV b), .v (swV (σ 90000))]), (90000, .parr (σ 90000) 27 3 (l6.map c27)), (90008, .pbox (σ 90008) [.v (zC (σ 90000))])]⟩) ?_ ?_
    ·refine XR 4 ?_
     refine zH ?_
     subst hlength12
     kernel_rfl
    refine zO ?_
    refine V_e (mb 130 8390430) [32, 90000, 90008] (s1 := ⟨.bot :: I a5 :: I b9 :: I limit3 :: .pt 32 0 :: bt 3 (Bo wasBalanced7 :: Bo wasPartitioned8 :: I length12 :: bt 12 (Bo (leI length12 12) :: bt 106 [])), [(32, .box [.v (lsV b), .v (swV (σ 90000))]), (90000, .parr (σ 90000) 27 3 (l6.map c27)), (90008, .pbox (σ 90008) [.v (zC (σ 90000))])]⟩) ?_
    refine qX rfl (fun hc13 => ?_) (fun hc13 => ?_)
    ·have h := zT h hc13
     obtain ⟨y14, hy14, h⟩ := zA h
     refine zG (mb 130 0) [90000, 90008] (s1 := ⟨bt 130 [], [(90000, .parr (σ 90000) 27 3 (y14.map c27)), (90008, .pbox (σ 90008) [.v (zC (σ 90000))])]⟩) ?_ ?_
     ·refine XR 3 ?_
      refine zE rfl (zAZ (l := σ 90000) (lb := σ 90008) (T0 := 27) (sz := 3) (els := l6.map c27) (cs := [.v (zC (σ 90000))]) (E' := [(32, .box [.v (lsV b), .v (swV (σ 90000))]), (90000, .parr (σ 90000) 27 3 (y14.map c27)), (90008, .pbox (σ 90008) [.v (zC (σ 90000))])]) [] 27 (fun σ' e1 e2 => zDk (l0 := σ 90000) hb hy14 σ' e1 e2) zDa kk kk rfl rfl rfl rfl kk rfl (zI kk (zI kk zZ)) rfl kk rfl rfl kk) ?_
      exact XE
     refine zM ?_
     obtain rfl := zB h
     have h := hko11
     obtain rfl := zB h
     show zDX _ _ _ _ _ _
     exact ⟨⟨.inr rfl, rfl, rfl, rfl⟩, ⟨rfl, ⟨rfl, trivial⟩⟩⟩
    ·have h := zJ h hc13
     refine zK ?_
     show V _ _ _ _
     refine zO ?_
     refine V_e (mb 130 536872734) [32, 90000, 90008] (s1 := ⟨.bot :: I a5 :: I b9 :: I limit3 :: .pt 32 0 :: bt 3 (Bo wasBalanced7 :: Bo wasPartitioned8 :: I length12 :: bt 18 (Bo (eqI limit3 0) :: bt 100 [])), [(32, .box [.v (lsV b), .v (swV (σ 90000))]), (90000, .parr (σ 90000) 27 3 (l6.map c27)), (90008, .pbox (σ 90008) [.v (zC (σ 90000))])]⟩) ?_
     refine qX rfl (fun hc15 => ?_) (fun hc15 => ?_)
     ·have h := zT h hc15
      cases h
     ·have h := zJ h hc15
      refine zK ?_
      show V _ _ _ _
      refine zO ?_
      refine V_e (mb 130 34359740190) [32, 90000, 90008] (s1 := ⟨.bot :: I a5 :: I b9 :: I limit3 :: .pt 32 0 :: bt 3 (Bo wasBalanced7 :: Bo wasPartitioned8 :: I length12 :: bt 24 (Bo (!wasBalanced7) :: bt 94 [])), [(32, .box [.v (lsV b), .v (swV (σ 90000))]), (90000, .parr (σ 90000) 27 3 (l6.map c27)), (90008, .pbox (σ 90008) [.v (zC (σ 90000))])]⟩) ?_
      refine qX rfl (fun hc16 => ?_) (fun hc16 => ?_)
      ·have h := zT h hc16
       cases h
      ·have h := zJ h hc16
       refine zK ?_
       show V _ _ _ _
       obtain ⟨y17, hy17, h⟩ := zA h
       refine zG (mb 130 7966) [32, 90000, 90008] (s1 := ⟨.bot :: I a5 :: I b9 :: I limit3 :: .pt 32 0 :: bt 3 (Bo wasBalanced7 :: Bo wasPartitioned8 :: I length12 :: I y17.1 :: I y17.2.1 :: bt 117 []), [(32, .box [.v (lsV b), .v (swV (σ 90000))]), (90000, .parr (σ 90000) 27 3 (y17.2.2.map c27)), (90008, .pbox (σ 90008) [.v (zC (σ 90000))])]⟩) ?_ ?_
       ·refine XR 3 ?_
        refine zE rfl (zAZ (l := σ 90000) (lb := σ 90008) (T0 := 27) (sz := 3) (els := l6.map c27) (cs := [.v (zC (σ 90000))]) (E' := [(32, .box [.v (lsV b), .v (swV (σ 90000))]), (90000, .parr (σ 90000) 27 3 (y17.2.2.map c27)), (90008, .pbox (σ 90008) [.v (zC (σ 90000))])]) [] 46 (fun σ' e1 e2 => zEM (l0 := σ 90000) hb hy17 σ' e1 e2) zEA kk kk rfl rfl rfl rfl kk rfl (zI kk (zI kk zZ)) rfl kk rfl rfl kk) ?_
        exact XE
       obtain ⟨j18, hj18, h⟩ := zA h
       refine zEj (mb 130 7966) [32, 90000, 90008] (s1 := ⟨.bot :: I a5 :: I b9 :: I limit3 :: .pt 32 0 :: bt 3 (Bo wasBalanced7 :: Bo wasPartitioned8 :: I length12 :: I j18.1 :: I j18.2.1 :: bt 117 []), [(32, .box [.v (lsV b), .v (swV (σ 90000))]), (90000, .parr (σ 90000) 27 3 (j18.2.2.map c27)), (90008, .pbox (σ 90008) [.v (zC (σ 90000))])]⟩) ?_ ?_
       ·clear h
        have h := hj18
        clear hj18
        refine V_e (mb 130 1125899906850590) [32, 90000, 90008] (s1 := ⟨.bot :: I a5 :: I b9 :: I limit3 :: .pt 32 0 :: bt 3 (Bo wasBalanced7 :: Bo wasPartitioned8 :: I length12 :: I y17.1 :: I y17.2.1 :: bt 37 (Bo (eqI y17.2.1 2) :: bt 79 [])), [(32, .box [.v (lsV b), .v (swV (σ 90000))]), (90000, .parr (σ 90000) 27 3 (y17.2.2.map c27)), (90008, .pbox (σ 90008) [.v (zC (σ 90000))])]⟩) ?_
        refine qX rfl (fun hc19 => ?_) (fun hc19 => ?_)
        ·have h := zT h hc19
         obtain ⟨y20, hy20, h⟩ := zA h
         refine zG (mb 130 3870) [32, 90000, 90008] (s1 := ⟨.bot :: I a5 :: I b9 :: I limit3 :: .pt 32 0 :: bt 3 (Bo wasBalanced7 :: Bo wasPartitioned8 :: I length12 :: I y17.1 :: bt 118 []), [(32, .box [.v (lsV b), .v (swV (σ 90000))]), (90000, .parr (σ 90000) 27 3 (y20.map c27)), (90008, .pbox (σ 90008) [.v (zC (σ 90000))])]⟩) ?_ ?_
         ·refine XR 3 ?_
          refine zE rfl (zAZ (l := σ 90000) (lb := σ 90008) (T0 := 27) (sz := 3) (els := y17.2.2.map c27) (cs := [.v (zC (σ 90000))]) (E' := [(32, .box [.v (lsV b), .v (swV (σ 90000))]), (90000, .parr (σ 90000) 27 3 (y20.map c27)), (90008, .pbox (σ 90008) [.v (zC (σ 90000))])]) [] 54 (fun σ' e1 e2 => zDw (l0 := σ 90000) hb hy20 σ' e1 e2) zDl kk kk rfl rfl rfl rfl kk rfl (zI kk (zI kk zZ)) rfl kk rfl rfl kk) ?_
          exact XE
         obtain ⟨pivot21, hpivot21, h⟩ := zR h
         refine zG (mb 130 3870) [32, 90000, 90008] (s1 := ⟨.bot :: I a5 :: I b9 :: I limit3 :: .pt 32 0 :: bt 3 (Bo wasBalanced7 :: Bo wasPartitioned8 :: I length12 :: I pivot21 :: bt 118 []), [(32, .box [.v (lsV b), .v (swV (σ 90000))]), (90000, .parr (σ 90000) 27 3 (y20.map c27)), (90008, .pbox (σ 90008) [.v (zC (σ 90000))])]⟩) ?_ ?_
         ·refine XR 7 ?_
          refine zH ?_
          subst hpivot21
          kernel_rfl
         refine qS (mb 130 7966) [32, 90000, 90008] (s1 := ⟨.bot :: I a5 :: I b9 :: I limit3 :: .pt 32 0 :: bt 3 (Bo wasBalanced7 :: Bo wasPartitioned8 :: I length12 :: I pivot21 :: I 1 :: bt 117 []), [(32, .box [.v (lsV b), .v (swV (σ 90000))]), (90000, .parr (σ 90000) 27 3 (y20.map c27)), (90008, .pbox (σ 90008) [.v (zC (σ 90000))])]⟩) ?_ ?_
         ·exact XE
         obtain rfl := zB h
         show St.keep _ _ _ = _
         rfl
        ·have h := zJ h hc19
         refine zK ?_
         obtain rfl := zB h
         show St.keep _ _ _ = _
         rfl
       obtain ⟨qo22, hLo22, hko22⟩ := zA h
       clear h
       refine V_cutS (q := qo22) (S := fun o22 => ⟨.bot :: I a5 :: I b9 :: I limit3 :: .pt 32 0 :: bt 3 (Bo wasBalanced7 :: Bo wasPartitioned8 :: I length12 :: I j18.1 :: bt 118 []), [(32, .box [.v (lsV b), .v (swV (σ 90000))]), (90000, .parr (σ 90000) 27 3 (o22.map c27)), (90008, .pbox (σ 90008) [.v (zC (σ 90000))])]⟩) (mb 130 3870) [32, 90000, 90008] ?_ ?_
       ·have h := hLo22
        clear hLo22
        obtain ⟨t25, ht25, h⟩ := zA h
        have ht25 := zB ht25
        refine zG (mb 130 295147905179352829726) [32, 90000, 90008] (s1 := ⟨.bot :: I a5 :: I b9 :: I limit3 :: .pt 32 0 :: bt 3 (Bo wasBalanced7 :: Bo wasPartitioned8 :: I length12 :: I j18.1 :: bt 56 (Bo t25 :: bt 61 [])), [(32, .box [.v (lsV b), .v (swV (σ 90000))]), (90000, .parr (σ 90000) 27 3 (j18.2.2.map c27)), (90008, .pbox (σ 90008) [.v (zC (σ 90000))])]⟩) ?_ ?_
        ·refine XR 2 ?_
         refine zU wasBalanced7 (fun hc23 => ?_) (fun hc23 => ?_)
         ·refine zF _ rfl rfl kk hc23 (zD rfl (qU (Bo wasPartitioned8) rfl kk)) ?_
          refine zE rfl (zD rfl (zBL (b := wasBalanced7) (p := wasPartitioned8) (q := false) rfl kk hc23 kk)) ?_
          refine XR 1 ?_
          refine zU (bif wasBalanced7 then wasPartitioned8 else false) (fun hc24 => ?_) (fun hc24 => ?_)
          ·refine zF _ rfl rfl kk hc24 (zD rfl (qU (I j18.2.1) rfl kk)) ?_
           refine zF _ rfl rfl kk hc24 (zD rfl (zJG (k := .i64) (a := j18.2.1) (b := 1) rfl kk kk)) ?_
           refine zE rfl (zD rfl (zBL (b := bif wasBalanced7 then wasPartitioned8 else false) (p := eqI j18.2.1 1) (q := false) rfl kk hc24 kk)) ?_
           refine zH ?_
           subst ht25
           kernel_rfl
          ·refine zV _ rfl rfl kk hc24 rfl ?_
           refine zV _ rfl rfl kk hc24 rfl ?_
           refine zE rfl (zD rfl (zBZ (b := bif wasBalanced7 then wasPartitioned8 else false) (p := eqI j18.2.1 1) (q := false) rfl kk hc24 kk)) ?_
           refine zH ?_
           subst ht25
           kernel_rfl
         ·refine zV _ rfl rfl kk hc23 rfl ?_
          refine zE rfl (zD rfl (zBZ (b := wasBalanced7) (p := wasPartitioned8) (q := false) rfl kk hc23 kk)) ?_
          refine XR 1 ?_
          refine zU (bif wasBalanced7 then wasPartitioned8 else false) (fun hc24 => ?_) (fun hc24 => ?_)
          ·refine zF _ rfl rfl kk hc24 (zD rfl (qU (I j18.2.1) rfl kk)) ?_
           refine zF _ rfl rfl kk hc24 (zD rfl (zJG (k := .i64) (a := j18.2.1) (b := 1) rfl kk kk)) ?_
           refine zE rfl (zD rfl (zBL (b := bif wasBalanced7 then wasPartitioned8 else false) (p := eqI j18.2.1 1) (q := false) rfl kk hc24 kk)) ?_
           refine zH ?_
           subst ht25
           kernel_rfl
          ·refine zV _ rfl rfl kk hc24 rfl ?_
           refine zV _ rfl rfl kk hc24 rfl ?_
           refine zE rfl (zD rfl (zBZ (b := bif wasBalanced7 then wasPartitioned8 else false) (p := eqI j18.2.1 1) (q := false) rfl kk hc24 kk)) ?_
           refine zH ?_
           subst ht25
           kernel_rfl
        refine qX rfl (fun hc26 => ?_) (fun hc26 => ?_)
        ·have h := zT h hc26
         obtain ⟨y27, hy27, h⟩ := zA h
         refine zG (mb 130 4722366482869645217566) [32, 90000, 90008] (s1 := ⟨.bot :: I a5 :: I b9 :: I limit3 :: .pt 32 0 :: bt 3 (Bo wasBalanced7 :: Bo wasPartitioned8 :: I length12 :: I j18.1 :: bt 60 (Bo y27.1 :: bt 57 [])), [(32, .box [.v (lsV b), .v (swV (σ 90000))]), (90000, .parr (σ 90000) 27 3 (y27.2.map c27)), (90008, .pbox (σ 90008) [.v (zC (σ 90000))])]⟩) ?_ ?_
         ·refine XR 3 ?_
          refine zE rfl (zAZ (l := σ 90000) (lb := σ 90008) (T0 := 27) (sz := 3) (els := j18.2.2.map c27) (cs := [.v (zC (σ 90000))]) (E' := [(32, .box [.v (lsV b), .v (swV (σ 90000))]), (90000, .parr (σ 90000) 27 3 (y27.2.map c27)), (90008, .pbox (σ 90008) [.v (zC (σ 90000))])]) [] 72 (fun σ' e1 e2 => zCU (l0 := σ 90000) hb hy27 σ' e1 e2) zCN kk kk rfl rfl rfl rfl kk rfl (zI kk (zI kk zZ)) rfl kk rfl rfl kk) ?_
          exact XE
         refine qX rfl (fun hc28 => ?_) (fun hc28 => ?_)
         ·have h := zT h hc28
          refine zM ?_
          obtain rfl := zB h
          have h := hko22
          obtain rfl := zB h
          have h := hko11
          obtain rfl := zB h
          show zDX _ _ _ _ _ _
          exact ⟨⟨.inr rfl, rfl, rfl, rfl⟩, ⟨rfl, ⟨rfl, trivial⟩⟩⟩
         ·have h := zJ h hc28
          refine zK ?_
          obtain rfl := zB h
          exact ⟨_, rfl, by rfl⟩
        ·have h := zJ h hc26
         refine zK ?_
         obtain rfl := zB h
         exact ⟨_, rfl, by rfl⟩
       rintro o22 rfl
       have h := hko22
       clear hko22
       refine zO ?_
       obtain ⟨b31, hb31, h⟩ := zA h
       refine zG (mb 130 9671406556917033397653278) [32, 90000, 90008] (s1 := ⟨.bot :: I a5 :: I b9 :: I limit3 :: .pt 32 0 :: bt 3 (Bo wasBalanced7 :: Bo wasPartitioned8 :: I length12 :: I j18.1 :: bt 71 (Bo b31 :: bt 46 [])), [(32, .box [.v (lsV b), .v (swV (σ 90000))]), (90000, .parr (σ 90000) 27 3 (o22.map c27)), (90008, .pbox (σ 90008) [.v (zC (σ 90000))])]⟩) ?_ ?_
       ·refine XR 3 ?_
        refine zU (ltI 0 a5) (fun hc29 => ?_) (fun hc29 => ?_)
        ·have hb31 := zT hb31 hc29
         obtain ⟨y30, hy30, hb31⟩ := zA hb31
         have hb31 := zB hb31
         refine zF _ rfl rfl kk hc29 (zD rfl (zCM (.pt 32 0) Tryz.underlying145 rfl sz63 rfl kk (by intro hh; cases hh))) ?_
         refine zF _ rfl rfl kk hc29 (zD rfl (zBM (c := .v (lsV b)) (cs := [.v (swV (σ 90000))]) sc63 rfl kk)) ?_
         refine zF _ rfl rfl kk hc29 (zD rfl (qU (I a5) rfl kk)) ?_
         refine zF _ rfl rfl kk hc29 (zD rfl (zHJ (a := a5) (b := 1) rfl kk kk)) ?_
         refine zF _ rfl rfl kk hc29 (zD rfl (qU (I j18.1) rfl kk)) ?_
         refine zF _ rfl rfl kk hc29 (zAT rfl (zDj (l := σ 90000) (lb := σ 90008) (T0 := 27) (id := 90000) (bid := 90008) (sz := 3) (b := b) (els := o22.map c27) (i := w64 (a5 - 1)) (j := j18.1) (qV hy30) qP rfl kk kk kk kk hb kk)) ?_
         refine zF _ rfl rfl kk hc29 (zD rfl (zDs (b := y30) rfl kk)) ?_
         refine zE rfl (zD rfl (zB5 (b := ltI 0 a5) (p := !y30) rfl kk hc29 kk hb31)) ?_
         exact XE
        ·have hb31 := zB (zJ hb31 hc29)
         refine zV _ rfl rfl kk hc29 rfl ?_
         refine zV _ rfl rfl kk hc29 rfl ?_
         refine zV _ rfl rfl kk hc29 rfl ?_
         refine zV _ rfl rfl kk hc29 rfl ?_
         refine zV _ rfl rfl kk hc29 rfl ?_
         refine zV _ rfl rfl kk hc29 rfl ?_
         refine zV _ rfl rfl kk hc29 rfl ?_
         refine zE rfl (zD rfl (zB6 (b := ltI 0 a5) (p := false) rfl kk hc29 kk hb31)) ?_
         exact XE
       refine qX rfl (fun hc32 => ?_) (fun hc32 => ?_)
       ·have h := zT h hc32
        obtain ⟨y33, hy33, h⟩ := zA h
        refine zG (mb 130 8988) [32, 90000, 90008] (s1 := ⟨.bot :: .bot :: I b9 :: I limit3 :: .pt 32 0 :: bt 3 (Bo wasBalanced7 :: Bo wasPartitioned8 :: bt 3 (I y33.1 :: bt 116 [])), [(32, .box [.v (lsV b), .v (swV (σ 90000))]), (90000, .parr (σ 90000) 27 3 (y33.2.map c27)), (90008, .pbox (σ 90008) [.v (zC (σ 90000))])]⟩) ?_ ?_
        ·refine XR 4 ?_
         refine zE rfl (zAZ (l := σ 90000) (lb := σ 90008) (T0 := 27) (sz := 3) (els := o22.map c27) (cs := [.v (zC (σ 90000))]) (E' := [(32, .box [.v (lsV b), .v (swV (σ 90000))]), (90000, .parr (σ 90000) 27 3 (y33.2.map c27)), (90008, .pbox (σ 90008) [.v (zC (σ 90000))])]) [] 88 (fun σ' e1 e2 => zDY (l0 := σ 90000) hb hy33 σ' e1 e2) zDW kk kk rfl rfl rfl rfl kk rfl (zI kk (zI kk zZ)) rfl kk rfl rfl kk) ?_
         exact XE
        refine V_e (mb 130 798) [32, 90000, 90008] (s1 := ⟨.bot :: I y33.1 :: I b9 :: I limit3 :: .pt 32 0 :: bt 3 (Bo wasBalanced7 :: Bo wasPartitioned8 :: bt 120 []), [(32, .box [.v (lsV b), .v (swV (σ 90000))]), (90000, .parr (σ 90000) 27 3 (y33.2.map c27)), (90008, .pbox (σ 90008) [.v (zC (σ 90000))])]⟩) ?_
        refine qO ?_
        exact ⟨n, Nat.lt_succ_self n, _, _, _, _, _,  by rfl, h⟩
       ·have h := zJ h hc32
        refine zK ?_
        show V _ _ _ _
        obtain ⟨y34, hy34, h⟩ := zA h
        refine zG (mb 130 50206) [32, 90000, 90008] (s1 := ⟨.bot :: I a5 :: I b9 :: I limit3 :: .pt 32 0 :: bt 5 (I length12 :: bt 3 (I y34.1 :: Bo y34.2.1 :: bt 114 [])), [(32, .box [.v (lsV b), .v (swV (σ 90000))]), (90000, .parr (σ 90000) 27 3 (y34.2.2.map c27)), (90008, .pbox (σ 90008) [.v (zC (σ 90000))])]⟩) ?_ ?_
        ·refine XR 4 ?_
         refine zE rfl (zAZ (l := σ 90000) (lb := σ 90008) (T0 := 27) (sz := 3) (els := o22.map c27) (cs := [.v (zC (σ 90000))]) (E' := [(32, .box [.v (lsV b), .v (swV (σ 90000))]), (90000, .parr (σ 90000) 27 3 (y34.2.2.map c27)), (90008, .pbox (σ 90008) [.v (zC (σ 90000))])]) [] 95 (fun σ' e1 e2 => zE8 (l0 := σ 90000) hb hy34 σ' e1 e2) zE1 kk kk rfl rfl rfl rfl kk rfl (zI kk (zI kk zZ)) rfl kk rfl rfl kk) ?_
         exact XE
        refine V_e (mb 130 17950) [32, 90000, 90008] (s1 := ⟨.bot :: I a5 :: I b9 :: I limit3 :: .pt 32 0 :: bt 4 (Bo y34.2.1 :: I length12 :: bt 3 (I y34.1 :: bt 115 [])), [(32, .box [.v (lsV b), .v (swV (σ 90000))]), (90000, .parr (σ 90000) 27 3 (y34.2.2.map c27)), (90008, .pbox (σ 90008) [.v (zC (σ 90000))])]⟩) ?_
        obtain ⟨leftLen35, hleftLen35, h⟩ := zR h
        obtain ⟨rightLen36, hrightLen36, h⟩ := zR h
        refine zG (mb 130 214558) [32, 90000, 90008] (s1 := ⟨.bot :: I a5 :: I b9 :: I limit3 :: .pt 32 0 :: bt 4 (Bo y34.2.1 :: I length12 :: bt 3 (I y34.1 :: .bot :: I leftLen35 :: I rightLen36 :: bt 112 [])), [(32, .box [.v (lsV b), .v (swV (σ 90000))]), (90000, .parr (σ 90000) 27 3 (y34.2.2.map c27)), (90008, .pbox (σ 90008) [.v (zC (σ 90000))])]⟩) ?_ ?_
        ·refine XR 8 ?_
         refine zH ?_
         subst hleftLen35 hrightLen36
         kernel_rfl
        obtain ⟨balanceThreshold37, hbalanceThreshold37, h⟩ := zR h
        refine zG (mb 130 475678) [32, 90000, 90008] (s1 := ⟨.bot :: I a5 :: I b9 :: I limit3 :: .pt 32 0 :: bt 4 (Bo y34.2.1 :: bt 4 (I y34.1 :: .bot :: I leftLen35 :: I rightLen36 :: I balanceThreshold37 :: bt 111 [])), [(32, .box [.v (lsV b), .v (swV (σ 90000))]), (90000, .parr (σ 90000) 27 3 (y34.2.2.map c27)), (90008, .pbox (σ 90008) [.v (zC (σ 90000))])]⟩) ?_ ?_
        ·refine XR 1 ?_
         refine L0 rfl rfl (jJ (a := length12) (b := 8) rfl kk kk (by decide)) ?_
         refine XR 1 ?_
         refine zH ?_
         subst hbalanceThreshold37
         kernel_rfl
        refine V_e (mb 130 649037107316853453566312041628190) [32, 90000, 90008] (s1 := ⟨.bot :: I a5 :: I b9 :: I limit3 :: .pt 32 0 :: bt 4 (Bo y34.2.1 :: bt 4 (I y34.1 :: .bot :: I leftLen35 :: I rightLen36 :: I balanceThreshold37 :: bt 90 (Bo (ltI leftLen35 rightLen36) :: bt 20 []))), [(32, .box [.v (lsV b), .v (swV (σ 90000))]), (90000, .parr (σ 90000) 27 3 (y34.2.2.map c27)), (90008, .pbox (σ 90008) [.v (zC (σ 90000))])]⟩) ?_
        refine qX rfl (fun hc38 => ?_) (fun hc38 => ?_)
        ·have h := zT h hc38
         refine V_e (mb 130 17182) [32, 90000, 90008] (s1 := ⟨.bot :: I a5 :: I b9 :: I limit3 :: .pt 32 0 :: bt 3 (Bo (leI balanceThreshold37 leftLen35) :: Bo y34.2.1 :: bt 4 (I y34.1 :: bt 115 [])), [(32, .box [.v (lsV b), .v (swV (σ 90000))]), (90000, .parr (σ 90000) 27 3 (y34.2.2.map c27)), (90008, .pbox (σ 90008) [.v (zC (σ 90000))])]⟩) ?_
         obtain ⟨y39, hy39, h⟩ := zA h
         refine zG (mb 130 17180) [32, 90000, 90008] (s1 := ⟨.bot :: .bot :: I b9 :: I limit3 :: .pt 32 0 :: bt 3 (Bo (leI balanceThreshold37 leftLen35) :: Bo y34.2.1 :: bt 4 (I y34.1 :: bt 115 [])), [(32, .box [.v (lsV b), .v (swV (σ 90000))]), (90000, .parr (σ 90000) 27 3 (y39.map c27)), (90008, .pbox (σ 90008) [.v (zC (σ 90000))])]⟩) ?_ ?_
         ·refine XR 4 ?_
          refine zE rfl (zAZ (l := σ 90000) (lb := σ 90008) (T0 := 27) (sz := 3) (els := y34.2.2.map c27) (cs := [.v (zC (σ 90000))]) (E' := [(32, .box [.v (lsV b), .v (swV (σ 90000))]), (90000, .parr (σ 90000) 27 3 (y39.map c27)), (90008, .pbox (σ 90008) [.v (zC (σ 90000))])]) [] 117 (fun σ' e1 e2 => zE7 (l0 := σ 90000) hb hy39 σ' e1 e2) zE0 kk kk rfl rfl rfl rfl kk rfl (zI kk (zI kk zZ)) rfl kk rfl rfl kk) ?_
          exact XE
         obtain ⟨a40, ha40, h⟩ := zR h
         refine qS (mb 130 798) [32, 90000, 90008] (s1 := ⟨.bot :: I a40 :: I b9 :: I limit3 :: .pt 32 0 :: bt 3 (Bo (leI balanceThreshold37 leftLen35) :: Bo y34.2.1 :: bt 120 []), [(32, .box [.v (lsV b), .v (swV (σ 90000))]), (90000, .parr (σ 90000) 27 3 (y39.map c27)), (90008, .pbox (σ 90008) [.v (zC (σ 90000))])]⟩) ?_ ?_
         ·refine XR 3 ?_
          refine zH ?_
          subst ha40
          kernel_rfl
         exact ⟨n, Nat.lt_succ_self n, _, _, _, _, _,  by rfl, h⟩
        ·have h := zJ h hc38
         refine V_e (mb 130 17182) [32, 90000, 90008] (s1 := ⟨.bot :: I a5 :: I b9 :: I limit3 :: .pt 32 0 :: bt 3 (Bo (leI balanceThreshold37 rightLen36) :: Bo y34.2.1 :: bt 4 (I y34.1 :: bt 115 [])), [(32, .box [.v (lsV b), .v (swV (σ 90000))]), (90000, .parr (σ 90000) 27 3 (y34.2.2.map c27)), (90008, .pbox (σ 90008) [.v (zC (σ 90000))])]⟩) ?_
         obtain ⟨y41, hy41, h⟩ := zA h
         refine zG (mb 130 17178) [32, 90000, 90008] (s1 := ⟨.bot :: I a5 :: .bot :: I limit3 :: .pt 32 0 :: bt 3 (Bo (leI balanceThreshold37 rightLen36) :: Bo y34.2.1 :: bt 4 (I y34.1 :: bt 115 [])), [(32, .box [.v (lsV b), .v (swV (σ 90000))]), (90000, .parr (σ 90000) 27 3 (y41.map c27)), (90008, .pbox (σ 90008) [.v (zC (σ 90000))])]⟩) ?_ ?_
         ·refine XR 5 ?_
          refine zE rfl (zAZ (l := σ 90000) (lb := σ 90008) (T0 := 27) (sz := 3) (els := y34.2.2.map c27) (cs := [.v (zC (σ 90000))]) (E' := [(32, .box [.v (lsV b), .v (swV (σ 90000))]), (90000, .parr (σ 90000) 27 3 (y41.map c27)), (90008, .pbox (σ 90008) [.v (zC (σ 90000))])]) [] 128 (fun σ' e1 e2 => zE7 (l0 := σ 90000) hb hy41 σ' e1 e2) zE0 kk kk rfl rfl rfl rfl kk rfl (zI kk (zI kk zZ)) rfl kk rfl rfl kk) ?_
          exact XE
         refine qS (mb 130 798) [32, 90000, 90008] (s1 := ⟨.bot :: I a5 :: I y34.1 :: I limit3 :: .pt 32 0 :: bt 3 (Bo (leI balanceThreshold37 rightLen36) :: Bo y34.2.1 :: bt 120 []), [(32, .box [.v (lsV b), .v (swV (σ 90000))]), (90000, .parr (σ 90000) 27 3 (y41.map c27)), (90008, .pbox (σ 90008) [.v (zC (σ 90000))])]⟩) ?_ ?_
         ·exact XE
         exact ⟨n, Nat.lt_succ_self n, _, _, _, _, _,  by rfl, h⟩
  rintro o11 rfl
  cases hko11
theorem zEw : CfW Tryz.prog 200 := cfW Tryz.func200
theorem zFF {xs0 : List ((Int × Int × Int))} {a1 : Int} {b2 : Int} {l0 lb : Loc} {b : Nat} {sw : Value} (hb : lb.blk = some b) {r : List ((Int × Int × Int))} (h : zAP xs0 a1 b2 = some r) : ∀ σ : Nat → Loc, σ 90000 = l0 → σ 90008 = lb → zDt Tryz.prog 200 σ [.ag [.v (lsV b), .v (sw)], I a1, I b2] [(90000, .arr 27 3 (xs0.map c27)), (90008, .box [.v (zC l0)])] (.tn) [] [(90000, .arr 27 3 (r.map c27)), (90008, .box [.v (zC l0)])] := by
  intro σ e1 e2
  subst e1 e2
  refine jL (rs := []) (vs := []) Tryz.func200 rfl rfl FitsL.nil (by decide) 35 rfl rfl ?_
  unfold zAP at h
  show V _ _ ⟨.ag [.v (lsV b), .v (sw)] :: I a1 :: I b2 :: bt 32 [], [(90000, .parr (σ 90000) 27 3 (xs0.map c27)), (90008, .pbox (σ 90008) [.v (zC (σ 90000))])]⟩ _
  refine V_e (mb 35 14) [24, 90000, 90008] (s1 := ⟨.bot :: I a1 :: I b2 :: .pt 24 0 :: bt 31 [], [(24, .box [.v (lsV b), .v (sw)]), (90000, .parr (σ 90000) 27 3 (xs0.map c27)), (90008, .pbox (σ 90008) [.v (zC (σ 90000))])]⟩) ?_
  obtain ⟨i4, hi4, h⟩ := zR h
  refine zG (mb 35 78) [24, 90000, 90008] (s1 := ⟨.bot :: I a1 :: I b2 :: .pt 24 0 :: .bot :: .bot :: I i4 :: bt 28 [], [(24, .box [.v (lsV b), .v (sw)]), (90000, .parr (σ 90000) 27 3 (xs0.map c27)), (90008, .pbox (σ 90008) [.v (zC (σ 90000))])]⟩) ?_ ?_
  ·refine XR 3 ?_
   refine zH ?_
   subst hi4
   kernel_rfl
  obtain ⟨o6, hLo6, h⟩ := zA h
  refine zAz (mb 35 0) [90000, 90008] (s1 := ⟨bt 35 [], [(90000, .parr (σ 90000) 27 3 (xs0.map c27)), (90008, .pbox (σ 90008) [.v (zC (σ 90000))])]⟩) ?_ ?_
  ·clear h
   refine zL (qT (fun n s => ∃ (_ : True), s.keep (mb 35 78) [24, 90000, 90008] = (⟨.bot :: I a1 :: I b2 :: .pt 24 0 :: .bot :: .bot :: I i4 :: bt 28 [], [(24, .box [.v (lsV b), .v (sw)]), (90000, .parr (σ 90000) 27 3 (xs0.map c27)), (90008, .pbox (σ 90008) [.v (zC (σ 90000))])]⟩ : St) ∧ zA8 a1 b2 i4 xs0 n  = some o6) FU ⟨trivial,  by rfl, hLo6⟩ ?_)
   clear hLo6
   rintro n s ⟨_, hs, h⟩
   refine qQ _ _ hs ?_
   clear hs
   cases n with
   | zero => cases h
   | succ n =>
    rw [zA8] at h
    refine zO ?_
    refine V_e (mb 35 4174) [24, 90000, 90008] (s1 := ⟨.bot :: I a1 :: I b2 :: .pt 24 0 :: .bot :: .bot :: I i4 :: bt 5 (Bo (ltI i4 b2) :: bt 22 []), [(24, .box [.v (lsV b), .v (sw)]), (90000, .parr (σ 90000) 27 3 (xs0.map c27)), (90008, .pbox (σ 90008) [.v (zC (σ 90000))])]⟩) ?_
    refine qX rfl (fun hc7 => ?_) (fun hc7 => ?_)
    ·have h := zT h hc7
     cases h
    ·have h := zJ h hc7
     refine qO ?_
     obtain rfl := zB h
     show St.keep _ _ _ = _
     rfl
  obtain rfl := zB h
  show zDX _ _ _ _ _ _
  exact ⟨⟨.inl rfl, rfl, rfl, rfl⟩, ⟨rfl, ⟨rfl, trivial⟩⟩⟩
theorem zG2 {xs0 : List ((Int × Int × Int))} {a1 : Int} {b2 : Int} {limit3 : Int} {l0 lb : Loc} {b : Nat} {sw : Value} (hb : lb.blk = some b) {r : List ((Int × Int × Int))} (h : zBY xs0 a1 b2 limit3 = some r) : ∀ σ : Nat → Loc, σ 90000 = l0 → σ 90008 = lb → zDt Tryz.prog 168 σ [.ag [.v (lsV b), .v (sw)], I a1, I b2, I limit3] [(90000, .arr 27 3 (xs0.map c27)), (90008, .box [.v (zC l0)])] (.tn) [] [(90000, .arr 27 3 (r.map c27)), (90008, .box [.v (zC l0)])] := by
  intro σ e1 e2
  subst e1 e2
  refine jL (rs := []) (vs := []) Tryz.func168 rfl rfl FitsL.nil (by decide) 130 rfl rfl ?_
  unfold zBY at h
  show V _ _ ⟨.ag [.v (lsV b), .v (sw)] :: I a1 :: I b2 :: I limit3 :: bt 126 [], [(90000, .parr (σ 90000) 27 3 (xs0.map c27)), (90008, .pbox (σ 90008) [.v (zC (σ 90000))])]⟩ _
  refine V_e (mb 130 30) [32, 90000, 90008] (s1 := ⟨.bot :: I a1 :: I b2 :: I limit3 :: .pt 32 0 :: bt 125 [], [(32, .box [.v (lsV b), .v (sw)]), (90000, .parr (σ 90000) 27 3 (xs0.map c27)), (90008, .pbox (σ 90008) [.v (zC (σ 90000))])]⟩) ?_
  refine V_e (mb 130 286) [32, 90000, 90008] (s1 := ⟨.bot :: I a1 :: I b2 :: I limit3 :: .pt 32 0 :: bt 3 (Bo true :: bt 121 []), [(32, .box [.v (lsV b), .v (sw)]), (90000, .parr (σ 90000) 27 3 (xs0.map c27)), (90008, .pbox (σ 90008) [.v (zC (σ 90000))])]⟩) ?_
  refine V_e (mb 130 798) [32, 90000, 90008] (s1 := ⟨.bot :: I a1 :: I b2 :: I limit3 :: .pt 32 0 :: bt 3 (Bo true :: Bo true :: bt 120 []), [(32, .box [.v (lsV b), .v (sw)]), (90000, .parr (σ 90000) 27 3 (xs0.map c27)), (90008, .pbox (σ 90008) [.v (zC (σ 90000))])]⟩) ?_
  obtain ⟨qo6, hLo6, hko6⟩ := zA h
  refine zE6 (q := qo6) (S := fun _ => (⟨[], []⟩ : St)) [] [] ?_ ?_
  ·refine zL (qT (fun n s => ∃ (_ : True), s.keep (mb 130 798) [32, 90000, 90008] = (⟨.bot :: I a1 :: I b2 :: I limit3 :: .pt 32 0 :: bt 3 (Bo true :: Bo true :: bt 120 []), [(32, .box [.v (lsV b), .v (sw)]), (90000, .parr (σ 90000) 27 3 (xs0.map c27)), (90008, .pbox (σ 90008) [.v (zC (σ 90000))])]⟩ : St) ∧ zB8 a1 b2 limit3 xs0 n  = some qo6) FU ⟨trivial,  by rfl, hLo6⟩ ?_)
   clear hLo6
   rintro n s ⟨_, hs, h⟩
   refine qQ _ _ hs ?_
   clear hs
   cases n with
   | zero => cases h
   | succ n =>
    rw [zB8] at h
    refine zL ?_
    obtain ⟨length7, hlength7, h⟩ := zR h
    refine zG (mb 130 1822) [32, 90000, 90008] (s1 := ⟨.bot :: I a1 :: I b2 :: I limit3 :: .pt 32 0 :: bt 3 (Bo true :: Bo true :: I length7 :: bt 119 []), [(32, .box [.v (lsV b), .v (sw)]), (90000, .parr (σ 90000) 27 3 (xs0.map c27)), (90008, .pbox (σ 90008) [.v (zC (σ 90000))])]⟩) ?_ ?_
    ·refine XR 4 ?_
     refine zH ?_
     subst hlength7
     kernel_rfl
    refine zO ?_
    refine V_e (mb 130 8390430) [32, 90000, 90008] (s1 := ⟨.bot :: I a1 :: I b2 :: I limit3 :: .pt 32 0 :: bt 3 (Bo true :: Bo true :: I length7 :: bt 12 (Bo (leI length7 12) :: bt 106 [])), [(32, .box [.v (lsV b), .v (sw)]), (90000, .parr (σ 90000) 27 3 (xs0.map c27)), (90008, .pbox (σ 90008) [.v (zC (σ 90000))])]⟩) ?_
    refine qX rfl (fun hc8 => ?_) (fun hc8 => ?_)
    ·have h := zT h hc8
     obtain ⟨y9, hy9, h⟩ := zA h
     refine zG (mb 130 0) [90000, 90008] (s1 := ⟨bt 130 [], [(90000, .parr (σ 90000) 27 3 (y9.map c27)), (90008, .pbox (σ 90008) [.v (zC (σ 90000))])]⟩) ?_ ?_
     ·refine XR 3 ?_
      refine zE rfl (zAZ (l := σ 90000) (lb := σ 90008) (T0 := 27) (sz := 3) (els := xs0.map c27) (cs := [.v (zC (σ 90000))]) (E' := [(32, .box [.v (lsV b), .v (sw)]), (90000, .parr (σ 90000) 27 3 (y9.map c27)), (90008, .pbox (σ 90008) [.v (zC (σ 90000))])]) [] 27 (fun σ' e1 e2 => zFF (l0 := σ 90000) (sw := sw) hb hy9 σ' e1 e2) zEw kk kk rfl rfl rfl rfl kk rfl (zI kk (zI kk zZ)) rfl kk rfl rfl kk) ?_
      exact XE
     refine zM ?_
     obtain rfl := zB h
     have h := hko6
     obtain rfl := zB h
     show zDX _ _ _ _ _ _
     exact ⟨⟨.inr rfl, rfl, rfl, rfl⟩, ⟨rfl, ⟨rfl, trivial⟩⟩⟩
    ·have h := zJ h hc8
     refine zK ?_
     show V _ _ _ _
     refine zO ?_
     refine V_e (mb 130 536872734) [32, 90000, 90008] (s1 := ⟨.bot :: I a1 :: I b2 :: I limit3 :: .pt 32 0 :: bt 3 (Bo true :: Bo true :: I length7 :: bt 18 (Bo (eqI limit3 0) :: bt 100 [])), [(32, .box [.v (lsV b), .v (sw)]), (90000, .parr (σ 90000) 27 3 (xs0.map c27)), (90008, .pbox (σ 90008) [.v (zC (σ 90000))])]⟩) ?_
     refine qX rfl (fun hc10 => ?_) (fun hc10 => ?_)
     ·have h := zT h hc10
      cases h
     ·have h := zJ h hc10
      cases h
  rintro o6 rfl
  cases hko6
end Go.Proofs.YtnheekadeflecaaGreat
namespace Go.Proofs.YtnheekadeflecaaGreat
open Go.Shelf Go.RowKit Go.Lib
set_option maxRecDepth 100000
noncomputable def soT : TypeInfo := (Tryz.prog.info? 24).get kk
noncomputable def soE : TypeInfo := (Tryz.prog.info? 27).get kk
theorem soK (n : Nat) (h2 : 2 ≤ n) : Lib.swapperK n soE 25 = 9 := by
 have a : soE.hasPointers = false := by kernel_rfl
 have b : soE.bytes = 24 := by kernel_rfl
 have c : (n == 0) = false := by simp; omega
 have d : (n == 1) = false := by simp; omega
 simp [Lib.swapperK, a, b, c, d]
theorem zF0 (w : World) (b) (k : Nat) (hk : k < w.heap.size) : (w.alloc b).heap[k]? = w.heap[k]? := by
 show (w.heap.push b)[k]? = _
 rw [Array.getElem?_push_lt hk, Array.getElem?_eq_getElem hk]
theorem slice_big {xs r : List (Int × Int × Int)} (h2 : 2 ≤ xs.length) (hb62 : xs.length < 4611686018427387904) (h : zBv xs 0 xs.length (Lib.bitLen xs.length) = some r) {ok : Nat → Prop} {w : World} {l : Loc} {b : Nat} (hok : ∀ g, ok g → g < w.heap.size) (hl : Lb ok w)
  (he : zA2 ok w l (.arr 27 3 (xs.map c27))) (hbx : zA2 ok w ⟨some b, 1, 1⟩ (.box [.v (zC l)])) (hbk : ∀ g, l.blk = some g → ¬ ok g ∧ g < w.heap.size ∧ g ≠ b) (hbo : ¬ ok b) (hbs : b < w.heap.size) :
  Calls Tryz.prog 115 #[.iface 24 (zC l), lsV b] w fun e w' => e = .returned (.tuple #[]) ∧ ∃ ok', (∀ g, ok g → ok' g) ∧ (∀ g, ok' g → ok g ∨ w.heap.size ≤ g) ∧ (∀ g, ok' g → g < w'.heap.size) ∧ BelowX ⟨w.heap.size, fun g => l.blk = some g ∨ g = b⟩ w w' ∧ zA2 ok' w' l (.arr 27 3 (r.map c27)) := by
 have hn : l.n = xs.length := by have := he.2.1; simpa using this
 have h3 := Any.sort_Slice_of_pdq Tryz.sl6 24 27 soT soE kk kk kk kk 25 (fun _ => by kernel_rfl) (l.blk.map fun g => ⟨g, 0, none⟩) l.n l.cap (by omega) 197 (by rw [soK _ (by omega)]; kernel_rfl) (.func 116) #[] #[.pointer (some ⟨b, 0, none⟩)] w
  (fun w' => ∃ ok', (∀ g, ok g → ok' g) ∧ (∀ g, ok' g → ok g ∨ w.heap.size ≤ g) ∧ (∀ g, ok' g → g < w'.heap.size) ∧ BelowX ⟨w.heap.size, fun g => l.blk = some g ∨ g = b⟩ w w' ∧ zA2 ok' w' l (.arr 27 3 (r.map c27)))
 refine h3 ?_
 clear h3
 change Calls Tryz.prog 168 _ _ _
 unfold sliceBound
 rw [if_neg (by rw [soK _ (by omega)]; omega)]
 generalize hw3 : sliceWorld Tryz.prog Tryz.sl6_ren 24 (l.blk.map fun g => ⟨g, 0, none⟩) l.n l.cap w = w3
 have hsz : w3.heap.size = w.heap.size + 2 := by subst hw3; show ((w.heap.push _).push _).size = _; simp
 have hm : ∀ k, k < w.heap.size → w3.heap[k]? = w.heap[k]? := fun k hk => by
  subst hw3
  unfold sliceWorld
  rw [zF0 _ _ _ (by show _ < (w.heap.push _).size; simp; omega), zF0 _ _ _ hk]
 have hbe : BelowX ⟨w.heap.size, fun g => l.blk = some g ∨ g = b⟩ w w3 := by
  refine ⟨?_, ?_, ?_, by omega, fun k hk _ => hm k hk⟩ <;> (subst hw3; rfl)
 have hs := zHU (xs0 := xs) (l0 := l) (lb := ⟨some b, 1, 1⟩) (b := b) rfl h (fun k => if k = 90000 then l else ⟨some b, 1, 1⟩) rfl rfl ok w3 [.agg #[lsV b, swV l], .int .i64 0, .int .i64 l.n, .int .i64 (Lib.bitLen l.n)] (fun g hg => by have := hok g hg; omega) (hl.mono (fun _ h => h) fun g hg => hm g (hok g hg)) ?_ ?_
 ·refine hs.mono ?_
  rintro e w' ⟨v, ok', σ', he', hN, hE⟩
  obtain ⟨vs, hv, hv2⟩ := hN.rel
  have hv3 : v = .tuple #[] := by
   cases hq : vs.toList with
   | nil => rw [hv]; congr 1; apply Array.ext'; rw [hq]
   | cons y ys => rw [hq] at hv2; cases hv2
  refine ⟨by rw [he', hv3], ok', hN.okM, fun g hg => ?_, hN.okL, ?_, ?_⟩
  ·rcases hN.okN g hg with h | h
   ·exact .inl h
   ·exact .inr (by omega)
  ·refine hbe.trans ⟨hN.below.os, hN.below.tape, hN.below.output, hN.below.size, fun k hk hx => hN.below.block k (by show k < w3.heap.size; have : k < w.heap.size := hk; omega) ?_⟩
   rintro ⟨id, e, h1, h2⟩
   refine hx ?_
   dsimp only at h2
   split at h2
   ·exact .inl h2
   ·exact .inr (Option.some.inj h2).symm
  ·exact hE 90000 _ rfl
 ·refine .cons ?_ (.cons (Rd.v _ rfl) (.cons ?_ (.cons ?_ .nil)))
  ·exact ⟨#[lsV b, swV l], rfl, .cons (Rd.v _ rfl) (.cons (Rd.v _ rfl) .nil)⟩
  ·rw [hn]; exact Rd.v _ rfl
  ·rw [hn]; exact Rd.v _ rfl
 ·have look : ∀ id e, List.lookup id [(90000, Ent.arr 27 3 (xs.map c27)), (90008, .box [.v (zC l)])] = some e → (id = 90000 ∧ e = .arr 27 3 (xs.map c27)) ∨ (id = 90008 ∧ e = .box [.v (zC l)]) := by
   intro id e hq
   simp only [List.lookup] at hq
   split at hq
   ·rename_i hq2; exact .inl ⟨by simpa using hq2, (Option.some.inj hq).symm⟩
   ·split at hq
    ·rename_i hq2; exact .inr ⟨by simpa using hq2, (Option.some.inj hq).symm⟩
    ·cases hq
  refine ⟨fun id e hq => ?_, fun id e g hq hg => ?_, fun i j e f g hi hj h1 h2 => ?_⟩
  ·rcases look id e hq with ⟨rfl, rfl⟩ | ⟨rfl, rfl⟩
   ·exact ⟨he.mono (fun _ h => h) (fun g hg => hm g (hok g hg)) (fun g hg => hm g (hbk g hg).2.1), rfl⟩
   ·exact ⟨hbx.mono (fun _ h => h) (fun g hg => hm g (hok g hg)) (fun g hg => by cases hg; exact hm _ hbs), rfl⟩
  ·rcases look id e hq with ⟨rfl, rfl⟩ | ⟨rfl, rfl⟩
   ·have := hbk g hg; exact ⟨this.1, by omega⟩
   ·cases hg; exact ⟨hbo, by omega⟩
  ·rcases look i e hi with ⟨rfl, rfl⟩ | ⟨rfl, rfl⟩ <;> rcases look j f hj with ⟨rfl, rfl⟩ | ⟨rfl, rfl⟩
   ·rfl
   ·cases h2; exact absurd rfl (hbk _ h1).2.2
   ·cases h1; exact absurd rfl (hbk _ h2).2.2
   ·rfl
theorem soK1 (n : Nat) (h : n ≤ 1) : Lib.swapperK n soE 25 = n + 1 := by
 rcases Nat.eq_zero_or_pos n with h | h
 ·subst h; simp [Lib.swapperK]
 ·obtain rfl : n = 1 := by omega
  simp [Lib.swapperK]
theorem slice_tiny {xs r : List (Int × Int × Int)} (h2 : xs.length ≤ 1) (h : zBY xs 0 xs.length (Lib.bitLen xs.length) = some r) {ok : Nat → Prop} {w : World} {l : Loc} {b : Nat} (hok : ∀ g, ok g → g < w.heap.size) (hl : Lb ok w)
  (he : zA2 ok w l (.arr 27 3 (xs.map c27))) (hbx : zA2 ok w ⟨some b, 1, 1⟩ (.box [.v (zC l)])) (hbk : ∀ g, l.blk = some g → ¬ ok g ∧ g < w.heap.size ∧ g ≠ b) (hbo : ¬ ok b) (hbs : b < w.heap.size) :
  Calls Tryz.prog 115 #[.iface 24 (zC l), lsV b] w fun e w' => e = .returned (.tuple #[]) ∧ ∃ ok', (∀ g, ok g → ok' g) ∧ (∀ g, ok' g → ok g ∨ w.heap.size ≤ g) ∧ (∀ g, ok' g → g < w'.heap.size) ∧ BelowX ⟨w.heap.size, fun g => l.blk = some g ∨ g = b⟩ w w' ∧ zA2 ok' w' l (.arr 27 3 (r.map c27)) := by
 have hn : l.n = xs.length := by have := he.2.1; simpa using this
 have h3 := Any.sort_Slice_of_pdq Tryz.sl6 24 27 soT soE kk kk kk kk 25 (fun _ => by kernel_rfl) (l.blk.map fun g => ⟨g, 0, none⟩) l.n l.cap (by omega) (189 + xs.length) (by rw [hn, soK1 _ h2]; rcases Nat.eq_zero_or_pos xs.length with h0 | h0; rw [h0]; kernel_rfl; rw [show xs.length = 1 by omega]; kernel_rfl) (.func 116) #[] #[.pointer (some ⟨b, 0, none⟩)] w
  (fun w' => ∃ ok', (∀ g, ok g → ok' g) ∧ (∀ g, ok' g → ok g ∨ w.heap.size ≤ g) ∧ (∀ g, ok' g → g < w'.heap.size) ∧ BelowX ⟨w.heap.size, fun g => l.blk = some g ∨ g = b⟩ w w' ∧ zA2 ok' w' l (.arr 27 3 (r.map c27)))
 refine h3 ?_
 clear h3
 change Calls Tryz.prog 168 _ _ _
 unfold sliceBound
 rw [if_pos (by rw [hn, soK1 _ h2]; omega)]
 generalize hw3 : sliceWorld Tryz.prog Tryz.sl6_ren 24 (l.blk.map fun g => ⟨g, 0, none⟩) l.n l.cap w = w3
 have hsz : w3.heap.size = w.heap.size + 2 := by subst hw3; show ((w.heap.push _).push _).size = _; simp
 have hm : ∀ k, k < w.heap.size → w3.heap[k]? = w.heap[k]? := fun k hk => by
  subst hw3
  unfold sliceWorld
  rw [zF0 _ _ _ (by show _ < (w.heap.push _).size; simp; omega), zF0 _ _ _ hk]
 have hbe : BelowX ⟨w.heap.size, fun g => l.blk = some g ∨ g = b⟩ w w3 := by
  refine ⟨?_, ?_, ?_, by omega, fun k hk _ => hm k hk⟩ <;> (subst hw3; rfl)
 have hs := zG2 (sw := .func (.func (189 + xs.length)) #[] #[]) (xs0 := xs) (l0 := l) (lb := ⟨some b, 1, 1⟩) (b := b) rfl h (fun k => if k = 90000 then l else ⟨some b, 1, 1⟩) rfl rfl ok w3 [.agg #[lsV b, .func (.func (189 + xs.length)) #[] #[]], .int .i64 0, .int .i64 l.n, .int .i64 (Lib.bitLen l.n)] (fun g hg => by have := hok g hg; omega) (hl.mono (fun _ h => h) fun g hg => hm g (hok g hg)) ?_ ?_
 ·refine hs.mono ?_
  rintro e w' ⟨v, ok', σ', he', hN, hE⟩
  obtain ⟨vs, hv, hv2⟩ := hN.rel
  have hv3 : v = .tuple #[] := by
   cases hq : vs.toList with
   | nil => rw [hv]; congr 1; apply Array.ext'; rw [hq]
   | cons y ys => rw [hq] at hv2; cases hv2
  refine ⟨by rw [he', hv3], ok', hN.okM, fun g hg => ?_, hN.okL, ?_, ?_⟩
  ·rcases hN.okN g hg with h | h
   ·exact .inl h
   ·exact .inr (by omega)
  ·refine hbe.trans ⟨hN.below.os, hN.below.tape, hN.below.output, hN.below.size, fun k hk hx => hN.below.block k (by show k < w3.heap.size; have : k < w.heap.size := hk; omega) ?_⟩
   rintro ⟨id, e, h1, h2⟩
   refine hx ?_
   dsimp only at h2
   split at h2
   ·exact .inl h2
   ·exact .inr (Option.some.inj h2).symm
  ·exact hE 90000 _ rfl
 ·refine .cons ?_ (.cons (Rd.v _ rfl) (.cons ?_ (.cons ?_ .nil)))
  ·exact ⟨#[lsV b, .func (.func (189 + xs.length)) #[] #[]], rfl, .cons (Rd.v _ rfl) (.cons (Rd.v _ rfl) .nil)⟩
  ·rw [hn]; exact Rd.v _ rfl
  ·rw [hn]; exact Rd.v _ rfl
 ·have look : ∀ id e, List.lookup id [(90000, Ent.arr 27 3 (xs.map c27)), (90008, .box [.v (zC l)])] = some e → (id = 90000 ∧ e = .arr 27 3 (xs.map c27)) ∨ (id = 90008 ∧ e = .box [.v (zC l)]) := by
   intro id e hq
   simp only [List.lookup] at hq
   split at hq
   ·rename_i hq2; exact .inl ⟨by simpa using hq2, (Option.some.inj hq).symm⟩
   ·split at hq
    ·rename_i hq2; exact .inr ⟨by simpa using hq2, (Option.some.inj hq).symm⟩
    ·cases hq
  refine ⟨fun id e hq => ?_, fun id e g hq hg => ?_, fun i j e f g hi hj h1 h2 => ?_⟩
  ·rcases look id e hq with ⟨rfl, rfl⟩ | ⟨rfl, rfl⟩
   ·exact ⟨he.mono (fun _ h => h) (fun g hg => hm g (hok g hg)) (fun g hg => hm g (hbk g hg).2.1), rfl⟩
   ·exact ⟨hbx.mono (fun _ h => h) (fun g hg => hm g (hok g hg)) (fun g hg => by cases hg; exact hm _ hbs), rfl⟩
  ·rcases look id e hq with ⟨rfl, rfl⟩ | ⟨rfl, rfl⟩
   ·have := hbk g hg; exact ⟨this.1, by omega⟩
   ·cases hg; exact ⟨hbo, by omega⟩
  ·rcases look i e hi with ⟨rfl, rfl⟩ | ⟨rfl, rfl⟩ <;> rcases look j f hj with ⟨rfl, rfl⟩ | ⟨rfl, rfl⟩
   ·rfl
   ·cases h2; exact absurd rfl (hbk _ h1).2.2
   ·cases h1; exact absurd rfl (hbk _ h2).2.2
   ·rfl
set_option maxHeartbeats 2000000 in
theorem sort_enter {w : World} {p : Option Addr} {n c : Nat} {R : World → Prop} (hS : Calls Tryz.prog 115 #[.iface 24 (.slice p n c), .func (.func 116) #[] #[.pointer (some ⟨w.heap.size, 0, none⟩)]] (w.alloc (.cells #[.slice p n c] 24)) fun e w' => e = .returned (.tuple #[]) ∧ R w') :
  Calls Tryz.prog 58 #[.slice p n c] w fun e w' => e = .returned (.tuple #[]) ∧ R w' := by
 go_enter Tryz.func58, Tryz.ntmps58
 go_wp2_with (go_at_call 115; refine hS.mono ?_; rintro e w' ⟨rfl, hR⟩)
 go_end0
 exact ⟨rfl, hR⟩
theorem zI8 : CfW Tryz.prog 58 := cfW Tryz.func58
theorem zIl {xs r : List (Int × Int × Int)} (h : zAt xs = some r) : zEb Tryz.prog 58 [.ow 80000] [(80000, .arr 27 3 (xs.map c27))] .tn [] [(80000, .arr 27 3 (r.map c27))] := by
 intro ok σ w vs hok hl hargs hheld
 generalize hL : σ 80000 = l at *
 obtain ⟨he, hpl⟩ := hheld.ent 80000 _ rfl
 rw [hL] at he
 have hbk : ∀ g, l.blk = some g → ¬ ok g ∧ g < w.heap.size := fun g hg => hheld.blk 80000 _ g rfl (by rw [hL]; exact hg)
 have hvs : vs = [zC l] := by
  cases hargs with
  | cons h1 h2 => cases h2; rw [show _ = zC (σ 80000) from h1, hL]
 subst hvs
 generalize hw1 : w.alloc (.cells #[zC l] 24) = w1
 have hm : ∀ k, k < w.heap.size → w1.heap[k]? = w.heap[k]? := fun k hk => by subst hw1; exact zF0 _ _ _ hk
 have hsz : w1.heap.size = w.heap.size + 1 := by subst hw1; show (w.heap.push _).size = _; simp
 have hS : Calls Tryz.prog 115 #[.iface 24 (zC l), lsV w.heap.size] w1 fun e w' => e = .returned (.tuple #[]) ∧ ∃ ok', (∀ g, ok g → ok' g) ∧ (∀ g, ok' g → ok g ∨ w1.heap.size ≤ g) ∧ (∀ g, ok' g → g < w'.heap.size) ∧ BelowX ⟨w1.heap.size, fun g => l.blk = some g ∨ g = w.heap.size⟩ w1 w' ∧ zA2 ok' w' l (.arr 27 3 (r.map c27)) := by
  have he1 : zA2 ok w1 l (.arr 27 3 (xs.map c27)) := he.mono (fun _ h => h) (fun g hg => hm g (hok g hg)) (fun g hg => hm g (hbk g hg).2)
  unfold zAt at h
  cases hc0 : Nat.ble 1048576 xs.length with
  | true => rw [hc0] at h; cases h
  | false =>
  rw [hc0] at h
  simp only [cond_false] at h
  have hb62 : xs.length < 4611686018427387904 := by
   rcases Nat.lt_or_ge xs.length 1048576 with h1 | h1
   ·omega
   ·rw [Nat.ble_eq_true_of_le h1] at hc0; cases hc0
  cases hc : Nat.ble xs.length 1 with
  | true =>
   rw [hc] at h
   refine slice_tiny (Nat.le_of_ble_eq_true hc) h (fun g hg => by have := hok g hg; omega) (hl.mono (fun _ h => h) fun g hg => hm g (hok g hg)) he1 ?_ (fun g hg => ⟨(hbk g hg).1, by have := (hbk g hg).2; omega, by have := (hbk g hg).2; omega⟩) (fun h => by have := hok _ h; omega) (by omega)
   refine ⟨w.heap.size, #[zC l], 24, rfl, ?_, .cons (Rd.v _ rfl) .nil⟩
   subst hw1
   show (w.heap.push _)[w.heap.size]? = _
   simp
  | false =>
   rw [hc] at h
   refine slice_big (by have := Nat.le_of_ble_eq_true (n := xs.length) (m := 1); rcases Nat.lt_or_ge 1 xs.length with h1 | h1; exact h1; rw [Nat.ble_eq_true_of_le h1] at hc; cases hc) hb62 h (fun g hg => by have := hok g hg; omega) (hl.mono (fun _ h => h) fun g hg => hm g (hok g hg)) he1 ?_ (fun g hg => ⟨(hbk g hg).1, by have := (hbk g hg).2; omega, by have := (hbk g hg).2; omega⟩) (fun h => by have := hok _ h; omega) (by omega)
   refine ⟨w.heap.size, #[zC l], 24, rfl, ?_, .cons (Rd.v _ rfl) .nil⟩
   subst hw1
   show (w.heap.push _)[w.heap.size]? = _
   simp
 subst hw1
 refine (sort_enter hS).mono ?_
 rintro e w' ⟨he', ok', a1, a2, a3, a4, a5⟩
 refine ⟨.tuple #[], ok', σ, he', ⟨⟨a4.os, a4.tape, a4.output, by have := a4.size; omega, fun k hk hx => ?_⟩, a1, fun g hg => ?_, a3, ⟨#[], rfl, trivial⟩, fun id e hq => (by cases hq), fun _ _ => rfl, fun id e hq => (by cases hq), fun id e g hq => (by cases hq), fun i j e f g hq => (by cases hq), fun id e hq => (by cases hq)⟩, fun id e hq => ?_⟩
 ·have hk2 : k < w.heap.size := hk
  rw [a4.block k (by show k < (w.alloc _).heap.size; omega) ?_, hm k hk2]
  rintro (h1 | h1)
  ·exact hx ⟨80000, _, rfl, by rw [hL]; exact h1⟩
  ·omega
 ·rcases a2 g hg with h1 | h1
  ·exact .inl h1
  ·exact .inr (by omega)
 ·simp only [List.lookup] at hq
  split at hq
  ·rename_i hq2
   have e1 : id = 80000 := by simpa using hq2
   subst e1
   cases hq
   rw [hL]
   exact a5
  ·cases hq
end Go.Proofs.YtnheekadeflecaaGreat
namespace Go.Proofs.YtnheekadeflecaaGreat
open Go.RowKit
set_option maxRecDepth 100000
set_option maxHeartbeats 400000
theorem zHs : CfW Tryz.prog 8 := cfW Tryz.func8
theorem zIL {f1 : (Int × Int × Int)} {p2 : Int} {r : ((List ((Int × Int × Int))) × Bool)} (h : zAR f1 p2 = some r) : qE Tryz.prog 8 [.ag [Ti f1.1, Ti f1.2.1, Ti f1.2.2], I p2] (.tc (.ow 0) (.tc (Bo r.2) .tn)) [(0, .arr 27 3 (r.1.map c27))] := by
 refine CtW [4, 5] Tryz.func8 rfl rfl 65 ?_
 unfold zAR at h
 refine VS ?_
 refine YR 1 ?_
 refine L1 rfl rfl (zDB (e := 27) 3 (by decide) (.inl rfl)) ?_
 refine YF ?_
 refine zO ?_
 obtain ⟨y3, hy3, h⟩ := zA h
 obtain ⟨b7, hb7, h⟩ := zA h
 refine zG (mb 65 4194310) [16] (s1 := ⟨.bot :: I p2 :: .pt 16 0 :: bt 19 (Bo b7 :: bt 42 []), [(16, .box [Ti f1.1, Ti f1.2.1, Ti f1.2.2])]⟩) ?_ ?_
 ·refine YK 1 (zEI hy3) zDr ?_
  refine YR 2 ?_
  refine zU (!y3) (fun hc4 => ?_) (fun hc4 => ?_)
  ·have hb7 := zB (zT hb7 hc4)
   refine YQ hc4 ?_
   exact YE (by rw [← hb7]; (try rw [hc4]); kernel_rfl)
  ·have hb7 := zJ hb7 hc4
   obtain ⟨y5, hy5, hb7⟩ := zA hb7
   obtain ⟨y6, hy6, hb7⟩ := zA hb7
   have hb7 := zB hb7
   refine YQ hc4 ?_
   refine YK 1 (zAq hy5) zAg ?_
   refine YK 1 (zET hy6) zEF ?_
   exact YE (by rw [← hb7]; (try rw [hc4]); kernel_rfl)
 refine VC h (fun h => ?_) (fun h => ?_)
 ·refine VS ?_
  refine L1 rfl rfl (zBr Tryz.underlying24 sz27 (by decide) rfl rfl) ?_
  refine YF ?_
  cases h
  exact zM VT
 ·refine zK ?_
  show V _ _ _ _
  obtain ⟨y9, hy9, h⟩ := zA h
  refine VS ?_
  refine YK 1 (zGi hy9) zG7 ?_
  refine YF ?_
  refine VS ?_
  refine L1 rfl rfl (zBr Tryz.underlying24 sz27 (by decide) rfl rfl) ?_
  refine YF ?_
  refine zO ?_
  refine VS ?_
  refine YR 1 ?_
  refine L0 rfl rfl (zBN (c := c69) (xs := y9.1) Tryz.underlying66 rfl kk) ?_
  refine YF ?_
  obtain ⟨o13, hLo13, h⟩ := zA h
  refine zAz (mb 65 256) [232] (s1 := ⟨bt 8 (.ow 232 :: bt 56 []), [(232, .arr 27 3 (o13.map c27))]⟩) ?_ ?_
  ·clear h
   refine zL (qT (fun n s => ∃ (t10 : Int) (l11 : List ((Int × Int × Int))), s.keep (mb 65 7516193028) [232, 208, 16] = (⟨.bot :: .bot :: .pt 16 0 :: bt 5 (.ow 232 :: bt 21 (.ow 208 :: I ((y9.1.length : Int)) :: I t10 :: bt 32 [])), [(232, .arr 27 3 (l11.map c27)), (208, .arr 69 3 (y9.1.map c69)), (16, .box [Ti f1.1, Ti f1.2.1, Ti f1.2.2])]⟩ : St) ∧ jT f1 y9 n t10 l11 = some o13) FU ⟨_, _,  kk, hLo13⟩ ?_)
   clear hLo13
   rintro n s ⟨t10, l11, hs, h⟩
   refine qQ _ _ hs ?_
   clear hs
   cases n with
   | zero => cases h
   | succ n =>
    rw [jT] at h
    refine VE ?_
    refine zO ?_
    refine VC h (fun h => ?_) (fun h => ?_)
    ·refine zK ?_
     show V _ _ _ _
     refine zO ?_
     refine zL ?_
     obtain ⟨e15, he15, h⟩ := zA h
     obtain ⟨e16, he16, h⟩ := zA h
     refine VS ?_
     refine L0 rfl rfl (zEs (c := c69) (xs := y9.1) (v := e15) (id := 208) (T := 69) (sz := 3) (n := t10) Tryz.underlying66 sz69 rfl kk kk kk he15) ?_
     refine L0 rfl rfl (zFy (c := c69) (xs := y9.1) (v := e16) (id := 208) (sz := 3) (T := 69) (off := 0) (n := t10) [Ti e16.1, Ti e16.2.1, Ti e16.2.2] wd69 rfl kk kk he16 (Nat.le_of_ble_eq_true rfl) kk) ?_
     refine YF ?_
     obtain ⟨y17, hy17, h⟩ := zA h
     obtain ⟨y18, hy18, h⟩ := zA h
     refine VDS [0, 1, 0, 4, 0, 16, 0, 64, 252, 511, 0, 2047] 11 (cdm 11 [2271904, 2271905, 2140682, 2140698, 2138282, 2138538, 2099882, 2103978, 2119002, 2184533, 699050]) ?_
     refine EK 1 (zES hy17) zEE ?_
     refine ER 6 ?_
     refine E0 8 rfl rfl (qJ (cs := [Ti e16.1, Ti e16.2.1, Ti 0, Ti e16.2.2]) pl57 bt57 rfl rfl kk) ?_
     refine EK 0 (zBC hy18) zAx ?_
     refine EF 1 ?_
     obtain ⟨y19, hy19, h⟩ := zA h
     refine VS ?_
     refine YK 1 (zES hy19) zEE ?_
     refine YF ?_
     obtain ⟨y20, hy20, h⟩ := zA h
     obtain ⟨b23, hb23, h⟩ := zA h
     refine zG (mb 65 72057601554125060) [96, 232, 208, 16] (s1 := ⟨.bot :: .bot :: .pt 16 0 :: bt 5 (.ow 232 :: bt 3 (.pt 96 0 :: bt 17 (.ow 208 :: I ((y9.1.length : Int)) :: I t10 :: bt 23 (Bo b23 :: bt 8 [])))), [(96, .box [Ti y19.1, Ti y19.2.1, Ti y19.2.2]), (232, .arr 27 3 (l11.map c27)), (208, .arr 69 3 (y9.1.map c69)), (16, .box [Ti f1.1, Ti f1.2.1, Ti f1.2.2])]⟩) ?_ ?_
     ·refine YK 1 (zDp hy20) zDb ?_
      refine YR 2 ?_
      refine zU (eqI y20 1) (fun hc21 => ?_) (fun hc21 => ?_)
      ·have hb23 := zT hb23 hc21
       obtain ⟨y22, hy22, hb23⟩ := zA hb23
       have hb23 := zB hb23
       refine YQ hc21 ?_
       refine YR 2 ?_
       refine YT (zAT rfl (zEB (zJp hy22) zJZ rfl kk rfl rfl)) ?_
       exact YE (by rw [← hb23]; (try rw [hc21]); kernel_rfl)
      ·have hb23 := zB (zJ hb23 hc21)
       refine YQ hc21 ?_
       exact YE (by rw [← hb23]; (try rw [hc21]); kernel_rfl)
     refine VC h (fun h => ?_) (fun h => ?_)
     ·obtain ⟨u25, hu25, h⟩ := zA h
      refine jS ?_
      refine YR 2 ?_
      refine L1 rfl rfl (zAI (z := zv27) (els := [y19].map c27) Tryz.underlying24 iz27 rfl (by decide) rfl kk rfl (by simp [c27]) (by decide) (by decide)) ?_
      refine zE rfl (zCm (c := c27) (xs := l11) (ys := [y19]) (id := 232) (z := zv27) rfl rfl Tryz.underlying24 zKA rfl kk kk kk (fun _ => rfl) (by simp) (zCg hu25) (by decide)) ?_
      refine YF ?_
      show V _ _ _ _
      obtain ⟨t26, ht26, h⟩ := zR h
      refine qS (mb 65 7516193028) [232, 208, 16] (s1 := ⟨.bot :: .bot :: .pt 16 0 :: bt 5 (.ow 232 :: bt 21 (.ow 208 :: I ((y9.1.length : Int)) :: I t26 :: bt 32 [])), [(232, .arr 27 3 ((l11 ++ ([y19])).map c27)), (208, .arr 69 3 (y9.1.map c69)), (16, .box [Ti f1.1, Ti f1.2.1, Ti f1.2.2])]⟩) ?_ ?_
      ·refine XR 2 ?_
       refine zH ?_
       subst ht26
       kernel_rfl
      exact ⟨n, Nat.lt_succ_self n, _, _,  kk, h⟩
     ·refine zK ?_
      show V _ _ _ _
      obtain ⟨t27, ht27, h⟩ := zR h
      refine qS (mb 65 7516193028) [232, 208, 16] (s1 := ⟨.bot :: .bot :: .pt 16 0 :: bt 5 (.ow 232 :: bt 21 (.ow 208 :: I ((y9.1.length : Int)) :: I t27 :: bt 32 [])), [(232, .arr 27 3 (l11.map c27)), (208, .arr 69 3 (y9.1.map c69)), (16, .box [Ti f1.1, Ti f1.2.1, Ti f1.2.2])]⟩) ?_ ?_
      ·refine XR 2 ?_
       refine zH ?_
       subst ht27
       kernel_rfl
      exact ⟨n, Nat.lt_succ_self n, _, _,  kk, h⟩
    ·refine qO ?_
     obtain rfl := zB h
     show St.keep _ _ _ = _
     kernel_rfl
  show V _ _ _ _
  obtain ⟨y28, hy28, h⟩ := zA h
  refine VS ?_
  refine YR 1 ?_
  refine zE rfl (qA [(80000, 232)] 63 (zIl hy28) zI8 rfl rfl kk rfl (zI kk zZ) rfl kk rfl rfl rfl) ?_
  refine YF ?_
  refine VE ?_
  cases h
  exact zM VT
theorem zCI : CfW Tryz.prog 33 := cfW Tryz.func33
theorem zCV {a1 : List ((Int × Int × Int))} {b2 : List ((Int × Int × Int))} {r : Bool} (h : zBJ a1 b2 = some r) : qE Tryz.prog 33 [.c (.sl (a1.map c27)), .c (.sl (b2.map c27))] (Bo r) [] := by
 refine CtW [4] Tryz.func33 rfl rfl 26 ?_
 unfold zBJ at h
 refine VE ?_
 refine zO ?_
 refine VS ?_
 refine YR 1 ?_
 refine L0 rfl rfl (zBN (c := c27) (xs := a1) Tryz.underlying24 rfl kk) ?_
 refine YR 1 ?_
 refine L0 rfl rfl (zBN (c := c27) (xs := b2) Tryz.underlying24 rfl kk) ?_
 refine YF ?_
 refine VC h (fun h => ?_) (fun h => ?_)
 ·refine VE ?_
  cases h
  exact zM VT
 ·refine zK ?_
  show V _ _ _ _
  refine zO ?_
  refine VS ?_
  refine YR 1 ?_
  refine L0 rfl rfl (zBN (c := c27) (xs := a1) Tryz.underlying24 rfl kk) ?_
  refine YF ?_
  obtain ⟨qo6, hLo6, hko6⟩ := zA h
  refine zE6 (q := qo6) (S := fun o6 => ⟨bt 26 [], []⟩) (mb 26 0) [] ?_ ?_
  ·refine zL (qT (fun n s => ∃ (t4 : Int), s.keep (mb 26 12291) [] = (⟨.c (.sl (a1.map c27)) :: .c (.sl (b2.map c27)) :: bt 10 (I ((a1.length : Int)) :: I t4 :: bt 12 []), []⟩ : St) ∧ zAW a1 b2 n t4 = some qo6) FU ⟨_,  kk, hLo6⟩ ?_)
   clear hLo6
   rintro n s ⟨t4, hs, h⟩
   refine qQ _ _ hs ?_
   clear hs
   cases n with
   | zero => cases h
   | succ n =>
    rw [zAW] at h
    refine VE ?_
    refine zO ?_
    refine VC h (fun h => ?_) (fun h => ?_)
    ·refine zK ?_
     show V _ _ _ _
     refine zO ?_
     refine zL ?_
     refine VE ?_
     obtain ⟨e8, he8, h⟩ := zA h
     obtain ⟨e9, he9, h⟩ := zA h
     obtain ⟨t10, ht10, h⟩ := zA h
     have ht10 := zB ht10
     refine zHS [0, 0, 3, 7, 0, 0, 48, 112, 255] 9 (cdm 9 [43528, 43522, 43525, 43541, 2218, 682, 1450, 5546, 21845]) (mb 26 16789507) [] (s1 := ⟨.c (.sl (a1.map c27)) :: .c (.sl (b2.map c27)) :: bt 10 (I ((a1.length : Int)) :: I t4 :: bt 10 (Bo t10 :: .bot :: [])), []⟩) kk kk ?_ ?_
     ·refine DR 2 ?_
      refine DE_0 2 (.pe [Ti e8.1, Ti e8.2.1, Ti e8.2.2]) kk rfl rfl rfl (zAi rfl) kk (zFG (c := c27) (xs := a1) (v := e8) (n := t4) Tryz.underlying24 sz27 rfl kk kk he8) 18 rfl ?_
      refine DR 3 ?_
      refine DE_0 6 (.pe [Ti e9.1, Ti e9.2.1, Ti e9.2.2]) kk rfl rfl rfl (zAi rfl) kk (zFG (c := c27) (xs := b2) (v := e9) (n := t4) Tryz.underlying24 sz27 rfl kk kk he9) 22 rfl ?_
      refine DR 1 ?_
      refine DE_0 8 (Bo (!((e8.1 == e9.1) && ((e8.2.1 == e9.2.1) && (e8.2.2 == e9.2.2))))) kk rfl rfl rfl (zAi rfl) kk (Y0_neg3 (a0 := e8.1) (b0 := e9.1) (a1 := e8.2.1) (b1 := e9.2.1) (a2 := e8.2.2) (b2 := e9.2.2) neg27 rfl kk kk) 24 rfl ?_
      refine DA 0 ?_
      refine zH ?_
      subst ht10
      kernel_rfl
     refine VC h (fun h => ?_) (fun h => ?_)
     ·refine VE ?_
      refine zM ?_
      obtain rfl := zB h
      have h := hko6
      obtain rfl := zB h
      exact VT
     ·refine zK ?_
      show V _ _ _ _
      obtain ⟨t12, ht12, h⟩ := zR h
      refine qS (mb 26 12291) [] (s1 := ⟨.c (.sl (a1.map c27)) :: .c (.sl (b2.map c27)) :: bt 10 (I ((a1.length : Int)) :: I t12 :: bt 12 []), []⟩) ?_ ?_
      ·refine XR 2 ?_
       refine zH ?_
       subst ht12
       kernel_rfl
      exact ⟨n, Nat.lt_succ_self n, _,  kk, h⟩
    ·refine qO ?_
     obtain rfl := zB h
     exact ⟨_, rfl, kk⟩
  rintro o6 rfl
  have h := hko6
  clear hko6
  show V _ _ _ _
  refine VE ?_
  cases h
  exact zM VT
theorem zHH : CfW Tryz.prog 34 := cfW Tryz.func34
theorem zHW {f1 : (Int × Int × Int)} {r : (Int × Bool)} (h : zBx f1 = some r) : qE Tryz.prog 34 [.ag [Ti f1.1, Ti f1.2.1, Ti f1.2.2]] (.tc (I r.1) (.tc (Bo r.2) .tn)) [] := by
 refine CtW [2, 3] Tryz.func34 rfl rfl 9 ?_
 unfold zBx at h
 refine VE ?_
 refine zO ?_
 obtain ⟨y2, hy2, h⟩ := zA h
 refine VS ?_
 refine YK 1 (zH3 hy2) zHG ?_
 refine YF ?_
 refine VC h (fun h => ?_) (fun h => ?_)
 ·refine VE ?_
  cases h
  exact zM VT
 ·refine zK ?_
  show V _ _ _ _
  obtain ⟨y4, hy4, h⟩ := zA h
  refine VS ?_
  refine YK 1 (zAq hy4) zAg ?_
  refine YF ?_
  cases h
  exact zM VT
theorem zFB : CfW Tryz.prog 145 := cfW Tryz.func145
theorem zFM {vn1 : Int} {r : Int} (h : zCt vn1 = some r) : qE Tryz.prog 145 [I vn1] (I r) [] := by
 refine CtW [2] Tryz.func145 rfl rfl 12 ?_
 unfold zCt at h
 refine VE ?_
 refine zO ?_
 obtain ⟨y2, hy2, h⟩ := zA h
 refine VS ?_
 refine YK 1 (zDZ hy2) zCo ?_
 refine YF ?_
 refine zG (mb 12 2048) [] (s1 := ⟨bt 11 (Bo (bif (eqI y2 1) then true else (eqI y2 7)) :: []), []⟩) ?_ ?_
 ·refine YR 3 ?_
  refine zU (eqI y2 1) (fun hc3 => ?_) (fun hc3 => ?_)
  ·refine YQ hc3 ?_
   exact YE (by rw [hc3]; kernel_rfl)
  ·refine YQ hc3 ?_
   exact YE (by rw [hc3]; kernel_rfl)
 refine VC h (fun h => ?_) (fun h => ?_)
 ·refine VE ?_
  cases h
  exact zM VT
 ·refine zK ?_
  show V _ _ _ _
  refine VE ?_
  cases h
  exact zM VT
theorem zKT : CfW Tryz.prog 146 := cfW Tryz.func146
theorem s_impl_jacobi {a1 : Int} {vn2 : Int} {r : Int} (h : zFi a1 vn2 = some r) : qE Tryz.prog 146 [I a1, I vn2] (I r) [] := by
 refine CtW [4] Tryz.func146 rfl rfl 38 ?_
 unfold zFi at h
 refine VE ?_
 refine VE ?_
 refine zO ?_
 obtain ⟨y3, hy3, h⟩ := zA h
 refine VS ?_
 refine YK 2 (zDZ hy3) zCo ?_
 refine YF ?_
 obtain ⟨o8, hLo8, h⟩ := zA h
 refine zAz (mb 38 34) [] (s1 := ⟨.bot :: I o8.1 :: bt 3 (I o8.2 :: bt 32 []), []⟩) ?_ ?_
 ·clear h
  refine zL (qT (fun n s => ∃ (a4 : Int) (vn5 : Int) (vs6 : Int), s.keep (mb 38 35) [] = (⟨I a4 :: I vn5 :: bt 3 (I vs6 :: bt 32 []), []⟩ : St) ∧ zCi n a4 vn5 vs6 = some o8) FU ⟨_, _, _,  kk, hLo8⟩ ?_)
  clear hLo8
  rintro n s ⟨a4, vn5, vs6, hs, h⟩
  refine qQ _ _ hs ?_
  clear hs
  cases n with
  | zero => cases h
  | succ n =>
   rw [zCi] at h
   refine zO ?_
   refine VE ?_
   refine VC h (fun h => ?_) (fun h => ?_)
   ·refine zK ?_
    show V _ _ _ _
    refine zO ?_
    refine zL ?_
    refine zO ?_
    obtain ⟨o13, hLo13, h⟩ := zA h
    refine zAz (mb 38 35) [] (s1 := ⟨I o13.1 :: I vn5 :: bt 3 (I o13.2 :: bt 32 []), []⟩) ?_ ?_
    ·clear h
     refine zL (qT (fun n s => ∃ (a10 : Int) (vs11 : Int), s.keep (mb 38 35) [] = (⟨I a10 :: I vn5 :: bt 3 (I vs11 :: bt 32 []), []⟩ : St) ∧ zDQ vn5 n a10 vs11 = some o13) FU ⟨_, _,  kk, hLo13⟩ ?_)
     clear hLo13
     rintro n s ⟨a10, vs11, hs, h⟩
     refine qQ _ _ hs ?_
     clear hs
     cases n with
     | zero => cases h
     | succ n =>
      rw [zDQ] at h
      refine zO ?_
      refine VS ?_
      refine YR 1 ?_
      refine L0 rfl rfl (zCP (k := .i64) (a := a10) (b := 2) rfl kk kk (by decide)) ?_
      refine YF ?_
      refine VC h (fun h => ?_) (fun h => ?_)
      ·refine zK ?_
       show V _ _ _ _
       refine zL ?_
       obtain ⟨a15, ha15, h⟩ := zR h
       refine zG (mb 38 35) [] (s1 := ⟨I a15 :: I vn5 :: bt 3 (I vs11 :: bt 32 []), []⟩) ?_ ?_
       ·refine XR 1 ?_
        refine L0 rfl rfl (jJ (a := a10) (b := 2) rfl kk kk (by decide)) ?_
        refine XR 1 ?_
        refine zH ?_
        subst ha15
        kernel_rfl
       obtain ⟨y16, hy16, h⟩ := zA h
       obtain ⟨vs17, hvs17, h⟩ := zR h
       refine qS (mb 38 35) [] (s1 := ⟨I a15 :: I vn5 :: bt 3 (I vs17 :: bt 32 []), []⟩) ?_ ?_
       ·refine XR 2 ?_
        refine XC (zFM hy16) zFB rfl rfl rfl ?_
        refine XR 2 ?_
        refine zH ?_
        subst hvs17
        kernel_rfl
       exact ⟨n, Nat.lt_succ_self n, _, _,  kk, h⟩
      ·refine qO ?_
       obtain rfl := zB h
       show St.keep _ _ _ = _
       kernel_rfl
    show V _ _ _ _
    refine zO ?_
    obtain ⟨t19, ht19, h⟩ := zA h
    have ht19 := zB ht19
    refine zG (mb 38 1073741859) [] (s1 := ⟨I o13.1 :: I vn5 :: bt 3 (I o13.2 :: bt 24 (Bo t19 :: bt 7 [])), []⟩) ?_ ?_
    ·refine YR 1 ?_
     refine L0 rfl rfl (zCP (k := .i64) (a := o13.1) (b := 4) rfl kk kk (by decide)) ?_
     refine YR 2 ?_
     refine zU (eqI (Int.tmod o13.1 4) 3) (fun hc18 => ?_) (fun hc18 => ?_)
     ·refine YQ hc18 ?_
      refine YR 1 ?_
      refine YT (zD rfl (zCP (k := .i64) (a := vn5) (b := 4) rfl kk kk (by decide))) ?_
      exact YE (by rw [← ht19]; (try rw [hc18]); kernel_rfl)
     ·refine YQ hc18 ?_
      exact YE (by rw [← ht19]; (try rw [hc18]); kernel_rfl)
    refine VC h (fun h => ?_) (fun h => ?_)
    ·obtain ⟨vs21, hvs21, h⟩ := zR h
     refine qS (mb 38 35) [] (s1 := ⟨I o13.1 :: I vn5 :: bt 3 (I vs21 :: bt 32 []), []⟩) ?_ ?_
     ·refine XR 3 ?_
      refine zH ?_
      subst hvs21
      kernel_rfl
     show V _ _ _ _
     refine jS ?_
     refine YF ?_
     show V _ _ _ _
     obtain ⟨z22, hz22, h⟩ := zA h
     obtain ⟨a23, ha23, h⟩ := zR h
     refine qS (mb 38 35) [] (s1 := ⟨I a23 :: I o13.1 :: bt 3 (I vs21 :: bt 32 []), []⟩) ?_ ?_
     ·refine XR 2 ?_
      refine L0 rfl rfl (zCP (k := .i64) (a := vn5) (b := o13.1) rfl kk kk (jC hz22)) ?_
      refine XR 1 ?_
      refine zH ?_
      subst ha23
      kernel_rfl
     exact ⟨n, Nat.lt_succ_self n, _, _, _,  kk, h⟩
    ·refine zK ?_
     show V _ _ _ _
     refine jS ?_
     refine YF ?_
     show V _ _ _ _
     obtain ⟨z24, hz24, h⟩ := zA h
     obtain ⟨a25, ha25, h⟩ := zR h
     refine qS (mb 38 35) [] (s1 := ⟨I a25 :: I o13.1 :: bt 3 (I o13.2 :: bt 32 []), []⟩) ?_ ?_
     ·refine XR 2 ?_
      refine L0 rfl rfl (zCP (k := .i64) (a := vn5) (b := o13.1) rfl kk kk (jC hz24)) ?_
      refine XR 1 ?_
      refine zH ?_
      subst ha25
      kernel_rfl
     exact ⟨n, Nat.lt_succ_self n, _, _, _,  kk, h⟩
   ·refine qO ?_
    obtain rfl := zB h
    show St.keep _ _ _ = _
    kernel_rfl
 show V _ _ _ _
 refine zO ?_
 refine VE ?_
 refine VC h (fun h => ?_) (fun h => ?_)
 ·refine VE ?_
  cases h
  exact zM VT
 ·refine zK ?_
  show V _ _ _ _
  refine VE ?_
  cases h
  exact zM VT
theorem zI9 : CfW Tryz.prog 94 := cfW Tryz.func94
theorem zIm {a1 : Int} {vn2 : Int} {r : Int} (h : zEf a1 vn2 = some r) : qE Tryz.prog 94 [I a1, I vn2] (I r) [] := by
 refine CtW [4] Tryz.func94 rfl rfl 36 ?_
 unfold zEf at h
 refine VE ?_
 refine zO ?_
 refine VE ?_
 refine VC h (fun h => ?_) (fun h => ?_)
 ·refine zO ?_
  obtain ⟨y4, hy4, h⟩ := zA h
  refine VS ?_
  refine YK 1 (zGE hy4) zFb ?_
  refine YF ?_
  refine VC h (fun h => ?_) (fun h => ?_)
  ·refine VE ?_
   cases h
   exact zM VT
  ·refine zK ?_
   show V _ _ _ _
   refine VE ?_
   cases h
   exact zM VT
 ·refine zK ?_
  show V _ _ _ _
  refine VE ?_
  obtain ⟨j6, hj6, h⟩ := zA h
  refine zEj (mb 36 35) [] (s1 := ⟨I a1 :: I vn2 :: bt 3 (I j6 :: bt 30 []), []⟩) ?_ ?_
  ·clear h
   have h := hj6
   clear hj6
   refine zG (mb 36 65571) [] (s1 := ⟨I a1 :: I vn2 :: bt 3 (I 1 :: bt 10 (Bo (bif (ltI vn2 0) then (ltI a1 0) else false) :: bt 19 [])), []⟩) ?_ ?_
   ·refine YR 3 ?_
    refine zU (ltI vn2 0) (fun hc7 => ?_) (fun hc7 => ?_)
    ·refine YQ hc7 ?_
     exact YE (by rw [hc7]; kernel_rfl)
    ·refine YQ hc7 ?_
     exact YE (by rw [hc7]; kernel_rfl)
   refine VC h (fun h => ?_) (fun h => ?_)
   ·refine jS ?_
    refine YF ?_
    obtain rfl := zB h
    show St.keep _ _ _ = _
    kernel_rfl
   ·refine zK ?_
    obtain rfl := zB h
    show St.keep _ _ _ = _
    kernel_rfl
  obtain ⟨y9, hy9, h⟩ := zA h
  refine VS ?_
  refine YK 1 (zGE hy9) zFb ?_
  refine YF ?_
  refine zO ?_
  obtain ⟨qo13, hLo13, hko13⟩ := zA h
  refine zE6 (q := qo13) (S := fun o13 => ⟨I a1 :: I o13.1 :: bt 3 (I o13.2 :: bt 30 []), []⟩) (mb 36 35) [] ?_ ?_
  ·refine zL (qT (fun n s => ∃ (vn10 : Int) (vs11 : Int), s.keep (mb 36 35) [] = (⟨I a1 :: I vn10 :: bt 3 (I vs11 :: bt 30 []), []⟩ : St) ∧ zC0 a1 n vn10 vs11 = some qo13) FU ⟨_, _,  kk, hLo13⟩ ?_)
   clear hLo13
   rintro n s ⟨vn10, vs11, hs, h⟩
   refine qQ _ _ hs ?_
   clear hs
   cases n with
   | zero => cases h
   | succ n =>
    rw [zC0] at h
    refine zO ?_
    refine VS ?_
    refine YR 1 ?_
    refine L0 rfl rfl (zCP (k := .i64) (a := vn10) (b := 2) rfl kk kk (by decide)) ?_
    refine YF ?_
    refine VC h (fun h => ?_) (fun h => ?_)
    ·refine zK ?_
     show V _ _ _ _
     refine zL ?_
     refine zO ?_
     refine VS ?_
     refine YR 1 ?_
     refine L0 rfl rfl (zCP (k := .i64) (a := a1) (b := 2) rfl kk kk (by decide)) ?_
     refine YF ?_
     refine VC h (fun h => ?_) (fun h => ?_)
     ·refine VE ?_
      refine zM ?_
      obtain rfl := zB h
      have h := hko13
      obtain rfl := zB h
      exact VT
     ·refine zK ?_
      show V _ _ _ _
      obtain ⟨vn16, hvn16, h⟩ := zR h
      refine zG (mb 36 35) [] (s1 := ⟨I a1 :: I vn16 :: bt 3 (I vs11 :: bt 30 []), []⟩) ?_ ?_
      ·refine XR 1 ?_
       refine L0 rfl rfl (jJ (a := vn10) (b := 2) rfl kk kk (by decide)) ?_
       refine XR 1 ?_
       refine zH ?_
       subst hvn16
       kernel_rfl
      obtain ⟨y17, hy17, h⟩ := zA h
      obtain ⟨vs18, hvs18, h⟩ := zR h
      refine qS (mb 36 35) [] (s1 := ⟨I a1 :: I vn16 :: bt 3 (I vs18 :: bt 30 []), []⟩) ?_ ?_
      ·refine XR 2 ?_
       refine XC (zFM hy17) zFB rfl rfl rfl ?_
       refine XR 2 ?_
       refine zH ?_
       subst hvs18
       kernel_rfl
      exact ⟨n, Nat.lt_succ_self n, _, _,  kk, h⟩
    ·refine qO ?_
     obtain rfl := zB h
     exact ⟨_, rfl, kk⟩
  rintro o13 rfl
  have h := hko13
  clear hko13
  show V _ _ _ _
  obtain ⟨y19, hy19, h⟩ := zA h
  obtain ⟨t20, ht20, h⟩ := zR h
  refine zG (mb 36 16) [] (s1 := ⟨bt 4 (I t20 :: bt 31 []), []⟩) ?_ ?_
  ·refine XR 3 ?_
   refine XC (s_impl_jacobi hy19) zKT rfl rfl rfl ?_
   refine XR 2 ?_
   refine zH ?_
   subst ht20
   kernel_rfl
  cases h
  exact zM VT
theorem zGQ : CfW Tryz.prog 147 := cfW Tryz.func147
theorem zG4 {d1 : Int} {r : (Int × Bool)} (h : zDN d1 = some r) : qE Tryz.prog 147 [I d1] (.tc (I r.1) (.tc (Bo r.2) .tn)) [] := by
 refine CtW [2, 3] Tryz.func147 rfl rfl 14 ?_
 unfold zDN at h
 refine VE ?_
 refine zO ?_
 refine zL ?_
 obtain ⟨y2, hy2, h⟩ := zA h
 refine VS ?_
 refine YK 1 (zAK hy2) zAF ?_
 refine YF ?_
 refine VC h (fun h => ?_) (fun h => ?_)
 ·refine VE ?_
  cases h
  exact zM VT
 ·refine VE ?_
  refine VC h (fun h => ?_) (fun h => ?_)
  ·refine VE ?_
   cases h
   exact zM VT
  ·refine VE ?_
   refine VC h (fun h => ?_) (fun h => ?_)
   ·refine VE ?_
    cases h
    exact zM VT
   ·refine zK ?_
    show V _ _ _ _
    refine VE ?_
    cases h
    exact zM VT
theorem zGP : CfW Tryz.prog 95 := cfW Tryz.func95
theorem zG3 {d1 : Int} {r : Int} (h : zDM d1 = some r) : qE Tryz.prog 95 [I d1] (I r) [] := by
 refine CtW [2] Tryz.func95 rfl rfl 11 ?_
 unfold zDM at h
 refine VE ?_
 obtain ⟨y2, hy2, h⟩ := zA h
 refine VS ?_
 refine YK 1 (zG4 hy2) zGQ ?_
 refine YF ?_
 refine VE ?_
 cases h
 exact zM VT
theorem zId : CfW Tryz.prog 35 := cfW Tryz.func35
theorem zIq {d1 : Int} {p2 : Int} {r : (Int × Bool)} (h : zCj d1 p2 = some r) : qE Tryz.prog 35 [I d1, I p2] (.tc (I r.1) (.tc (Bo r.2) .tn)) [] := by
 refine CtW [4, 5] Tryz.func35 rfl rfl 24 ?_
 unfold zCj at h
 refine VE ?_
 refine zO ?_
 obtain ⟨y3, hy3, h⟩ := zA h
 obtain ⟨b6, hb6, h⟩ := zA h
 refine zG (mb 24 16387) [] (s1 := ⟨I d1 :: I p2 :: bt 12 (Bo b6 :: bt 9 []), []⟩) ?_ ?_
 ·refine YK 1 (zAK hy3) zAF ?_
  refine YR 2 ?_
  refine zU (!y3) (fun hc4 => ?_) (fun hc4 => ?_)
  ·have hb6 := zB (zT hb6 hc4)
   refine YQ hc4 ?_
   exact YE (by rw [← hb6]; (try rw [hc4]); kernel_rfl)
  ·have hb6 := zJ hb6 hc4
   obtain ⟨y5, hy5, hb6⟩ := zA hb6
   have hb6 := zB hb6
   refine YQ hc4 ?_
   refine YK 2 (zET hy5) zEF ?_
   exact YE (by rw [← hb6]; (try rw [hc4]); kernel_rfl)
 refine VC h (fun h => ?_) (fun h => ?_)
 ·refine VE ?_
  cases h
  exact zM VT
 ·refine zK ?_
  show V _ _ _ _
  obtain ⟨y8, hy8, h⟩ := zA h
  obtain ⟨y9, hy9, h⟩ := zA h
  obtain ⟨z10, hz10, h⟩ := zA h
  obtain ⟨t11, ht11, h⟩ := zR h
  refine zG (mb 24 48) [] (s1 := ⟨bt 4 (I t11 :: Bo true :: bt 18 []), []⟩) ?_ ?_
  ·refine XR 3 ?_
   refine XC (zIm hy8) zI9 rfl rfl rfl ?_
   refine XR 3 ?_
   refine XC (zG3 hy9) zGP rfl rfl rfl ?_
   refine L0 rfl rfl (jJ (a := w64 ((w64 (p2 - y8)) * 2)) (b := y9) rfl kk kk (jC hz10)) ?_
   refine XR 2 ?_
   refine zH ?_
   subst ht11
   kernel_rfl
  cases h
  exact zM VT
theorem zHF : CfW Tryz.prog 81 := cfW Tryz.func81
theorem zHV {d1 : Int} {r : ((List ((Int × Int × Int))) × Bool)} (h : zBw d1 = some r) : qE Tryz.prog 81 [I d1] (.tc (.ow 0) (.tc (Bo r.2) .tn)) [(0, .arr 27 3 (r.1.map c27))] := by
 refine CtW [2, 3] Tryz.func81 rfl rfl 10 ?_
 unfold zBw at h
 refine VS ?_
 refine L1 rfl rfl (zDB (e := 27) 3 (by decide) (.inl rfl)) ?_
 refine YF ?_
 refine zO ?_
 obtain ⟨y2, hy2, h⟩ := zA h
 refine VS ?_
 refine YK 1 (zAK hy2) zAF ?_
 refine YF ?_
 refine VC h (fun h => ?_) (fun h => ?_)
 ·refine VS ?_
  refine L1 rfl rfl (zBr Tryz.underlying24 sz27 (by decide) rfl rfl) ?_
  refine YF ?_
  cases h
  exact zM VT
 ·refine zK ?_
  show V _ _ _ _
  obtain ⟨y4, hy4, h⟩ := zA h
  refine VS ?_
  refine YK 1 (zEy hy4) zEq ?_
  refine YF ?_
  cases h
  exact zM VT
theorem zFC : CfW Tryz.prog 25 := cfW Tryz.func25
theorem zFO {d1 : Int} {r : (Int × Bool)} (h : zAY d1 = some r) : qE Tryz.prog 25 [I d1] (.tc (I r.1) (.tc (Bo r.2) .tn)) [] := by
 refine CtW [2, 3] Tryz.func25 rfl rfl 14 ?_
 unfold zAY at h
 refine VE ?_
 obtain ⟨y2, hy2, h⟩ := zA h
 refine VS ?_
 refine YK 1 (zHV hy2) zHF ?_
 refine YF ?_
 refine VS ?_
 refine YR 1 ?_
 refine L0 rfl rfl (zBN (c := c27) (xs := y2.1) Tryz.underlying24 rfl kk) ?_
 refine YF ?_
 cases h
 exact zM VT
theorem zG6 : CfW Tryz.prog 96 := cfW Tryz.func96
theorem zGg {d1 : Int} {r : (Int × Int × Int)} (h : zBd d1 = some r) : qE Tryz.prog 96 [I d1] (.ag [Ti r.1, Ti r.2.1, Ti r.2.2]) [] := by
 refine qI (rs := [.w 2 3]) (vs := [.cell 2 27]) Tryz.func96 rfl rfl (.cons ⟨rfl, wd27⟩ FitsL.nil) (by decide) 12 rfl ?_
 unfold zBd at h
 refine VE ?_
 obtain ⟨y2, hy2, h⟩ := zA h
 refine VS ?_
 refine YK 1 (zDZ hy2) zCo ?_
 refine YF ?_
 obtain ⟨f3, hf3, h⟩ := zR h
 refine zG (mb 12 4) [16] (s1 := ⟨.bot :: .bot :: .pt 16 0 :: bt 9 [], [(16, .box [Ti 1, Ti y2, Ti f3])]⟩) ?_ ?_
 ·refine XR 4 ?_
  refine L0 rfl rfl (jJ (a := w64 (y2 - d1)) (b := 4) rfl kk kk (by decide)) ?_
  refine L0 rfl rfl (qJ (cs := [Ti 1, Ti y2, Ti (w64 (Int.tdiv (w64 (y2 - d1)) 4))]) pl27 bt27 rfl rfl kk) ?_
  refine XR 1 ?_
  refine zH ?_
  subst hf3
  kernel_rfl
 cases h
 exact zM VT
theorem zG8 : CfW Tryz.prog 36 := cfW Tryz.func36
theorem zGj {d1 : Int} {p2 : Int} {r : ((List ((Int × Int × Int))) × Bool)} (h : zBg d1 p2 = some r) : qE Tryz.prog 36 [I d1, I p2] (.tc (.ow 0) (.tc (Bo r.2) .tn)) [(0, .arr 27 3 (r.1.map c27))] := by
 refine CtW [4, 5] Tryz.func36 rfl rfl 21 ?_
 unfold zBg at h
 refine VS ?_
 refine L1 rfl rfl (zDB (e := 27) 3 (by decide) (.inl rfl)) ?_
 refine YF ?_
 refine zO ?_
 obtain ⟨y3, hy3, h⟩ := zA h
 obtain ⟨b6, hb6, h⟩ := zA h
 refine zG (mb 21 16387) [] (s1 := ⟨I d1 :: I p2 :: bt 12 (Bo b6 :: bt 6 []), []⟩) ?_ ?_
 ·refine YK 1 (zAK hy3) zAF ?_
  refine YR 2 ?_
  refine zU (!y3) (fun hc4 => ?_) (fun hc4 => ?_)
  ·have hb6 := zB (zT hb6 hc4)
   refine YQ hc4 ?_
   exact YE (by rw [← hb6]; (try rw [hc4]); kernel_rfl)
  ·have hb6 := zJ hb6 hc4
   obtain ⟨y5, hy5, hb6⟩ := zA hb6
   have hb6 := zB hb6
   refine YQ hc4 ?_
   refine YK 2 (zET hy5) zEF ?_
   exact YE (by rw [← hb6]; (try rw [hc4]); kernel_rfl)
 refine VC h (fun h => ?_) (fun h => ?_)
 ·refine VS ?_
  refine L1 rfl rfl (zBr Tryz.underlying24 sz27 (by decide) rfl rfl) ?_
  refine YF ?_
  cases h
  exact zM VT
 ·refine zK ?_
  show V _ _ _ _
  obtain ⟨y8, hy8, h⟩ := zA h
  obtain ⟨y9, hy9, h⟩ := zA h
  obtain ⟨y10, hy10, h⟩ := zA h
  refine VS ?_
  refine YK 1 (zGg hy8) zG6 ?_
  refine YK 0 (zES hy9) zEE ?_
  refine YK 1 (zIK hy10) zH6 ?_
  refine YF ?_
  cases h
  exact zM VT
theorem zJE : CfW Tryz.prog 99 := cfW Tryz.func99
theorem zJR {vm1 : (Int × Int × Int × Int)} {r : Bool} (h : zDE vm1 = some r) : qE Tryz.prog 99 [.ag [Ti vm1.1, Ti vm1.2.1, Ti vm1.2.2.1, Ti vm1.2.2.2]] (Bo r) [] := by
 refine CtW [2] Tryz.func99 rfl rfl 13 ?_
 unfold zDE at h
 refine VE ?_
 obtain ⟨y2, hy2, h⟩ := zA h
 refine VS ?_
 refine YR 8 ?_
 refine L1 rfl rfl (zAI (z := zv3) (els := [vm1.1, vm1.2.1, vm1.2.2.1, vm1.2.2.2].map c3) Tryz.underlying34 iz3 rfl (by decide) rfl kk rfl (by simp [c3]) (by decide) (by decide)) ?_
 refine L1 rfl rfl (zEB (zEU hy2) zEK rfl kk rfl rfl) ?_
 refine YF ?_
 cases h
 exact zM VT
theorem zHt : CfW Tryz.prog 37 := cfW Tryz.func37
theorem zIM {f1 : (Int × Int × Int)} {r : (((Int × Int × Int)) × ((Int × Int × Int × Int)) × Bool)} (h : zC3 f1 = some r) : qE Tryz.prog 37 [.ag [Ti f1.1, Ti f1.2.1, Ti f1.2.2]] (.tc (.ag [Ti r.1.1, Ti r.1.2.1, Ti r.1.2.2]) (.tc (.ag [Ti r.2.1.1, Ti r.2.1.2.1, Ti r.2.1.2.2.1, Ti r.2.1.2.2.2]) (.tc (Bo r.2.2) .tn))) [] := by
 refine qI (rs := [.w 2 3, .w 3 4, .t 4]) (vs := [.cell 2 27, .cell 3 57, .tmp 4]) Tryz.func37 rfl rfl (.cons ⟨rfl, wd27⟩ (.cons ⟨rfl, wd57⟩ (.cons rfl FitsL.nil))) (by decide) 24 rfl ?_
 unfold zC3 at h
 refine VE ?_
 refine zO ?_
 obtain ⟨y2, hy2, h⟩ := zA h
 refine VS ?_
 refine YK 1 (zF4 hy2) zFW ?_
 refine YF ?_
 refine VC h (fun h => ?_) (fun h => ?_)
 ·refine VS ?_
  refine L0 rfl rfl (qJ (cs := [Ti 0, Ti 0, Ti 0]) pl27 bt27 rfl rfl kk) ?_
  refine L0 rfl rfl (qJ (cs := [Ti 0, Ti 0, Ti 0, Ti 0]) pl57 bt57 rfl rfl kk) ?_
  refine YF ?_
  cases h
  exact zM VT
 ·refine zK ?_
  show V _ _ _ _
  obtain ⟨y4, hy4, h⟩ := zA h
  refine VS ?_
  refine YK 1 (zEl hy4) zE2 ?_
  refine YF ?_
  refine zO ?_
  obtain ⟨y5, hy5, h⟩ := zA h
  refine VS ?_
  refine YK 1 (zJR hy5) zJE ?_
  refine YF ?_
  refine VC h (fun h => ?_) (fun h => ?_)
  ·refine VS ?_
   refine L0 rfl rfl (qJ (cs := [Ti 0, Ti 0, Ti 0]) pl27 bt27 rfl rfl kk) ?_
   refine L0 rfl rfl (qJ (cs := [Ti 0, Ti 0, Ti 0, Ti 0]) pl57 bt57 rfl rfl kk) ?_
   refine YF ?_
   cases h
   exact zM VT
  ·refine zK ?_
   show V _ _ _ _
   refine VDS [0, 0, 1, 7, 15] 3 [[.z, .b, .z], [.b, .z, .r 16], [.a, .b, .z]] ?_
   refine EF 3 ?_
   cases h
   exact zM VT
theorem zHq : CfW Tryz.prog 100 := cfW Tryz.func100
theorem zII {f1 : (Int × Int × Int)} {p2 : Int} {r : Bool} (h : zC2 f1 p2 = some r) : qE Tryz.prog 100 [.ag [Ti f1.1, Ti f1.2.1, Ti f1.2.2], I p2] (Bo r) [] := by
 refine CtW [4] Tryz.func100 rfl rfl 33 ?_
 unfold zC2 at h
 refine VE ?_
 refine zO ?_
 obtain ⟨y3, hy3, h⟩ := zA h
 obtain ⟨b6, hb6, h⟩ := zA h
 refine zG (mb 33 65542) [16] (s1 := ⟨.bot :: I p2 :: .pt 16 0 :: bt 13 (Bo (bif b6 then true else (ltI 2000 p2)) :: bt 16 []), [(16, .box [Ti f1.1, Ti f1.2.1, Ti f1.2.2])]⟩) ?_ ?_
 ·refine YK 1 (zEI hy3) zDr ?_
  refine YR 2 ?_
  refine zU (!y3) (fun hc4 => ?_) (fun hc4 => ?_)
  ·have hb6 := zB (zT hb6 hc4)
   refine YQ hc4 ?_
   refine YR 5 ?_
   subst hb6
   have hc7 : true = true := rfl
   exact YE
  ·have hb6 := zJ hb6 hc4
   obtain ⟨y5, hy5, hb6⟩ := zA hb6
   have hb6 := zB hb6
   refine YQ hc4 ?_
   refine YK 1 (zGk hy5) zG0 ?_
   refine YR 3 ?_
   refine zU b6 (fun hc7 => ?_) (fun hc7 => ?_)
   ·refine YQ hc7 ?_ (by rw [← hb6]; (try rw [hc4]); kernel_rfl)
    exact YE (by rw [hc7]; kernel_rfl)
   ·refine YQ hc7 ?_ (by rw [← hb6]; (try rw [hc4]); kernel_rfl)
    exact YE (by rw [hc7]; kernel_rfl)
 refine VC h (fun h => ?_) (fun h => ?_)
 ·refine VE ?_
  cases h
  exact zM VT
 ·refine zK ?_
  show V _ _ _ _
  obtain ⟨y9, hy9, h⟩ := zA h
  obtain ⟨z10, hz10, h⟩ := zA h
  obtain ⟨b15, hb15, h⟩ := zA h
  refine zG (mb 33 16) [] (s1 := ⟨bt 4 (Bo b15 :: bt 28 []), []⟩) ?_ ?_
  ·refine YK 1 (zAq hy9) zAg ?_
   refine YR 3 ?_
   refine L0 rfl rfl (zCP (k := .i64) (a := y9) (b := w64 (p2 * p2)) rfl kk kk (jC hz10)) ?_
   refine YR 2 ?_
   refine zU (eqI (Int.tmod y9 (w64 (p2 * p2))) 0) (fun hc11 => ?_) (fun hc11 => ?_)
   ·have hb15 := zT hb15 hc11
    obtain ⟨y12, hy12, hb15⟩ := zA hb15
    obtain ⟨z13, hz13, hb15⟩ := zA hb15
    obtain ⟨y14, hy14, hb15⟩ := zA hb15
    have hb15 := zB hb15
    refine YQ hc11 ?_
    refine YK 1 (zAq hy12) zAg ?_
    refine YR 3 ?_
    refine YT (zD rfl (jJ (a := y12) (b := w64 (p2 * p2)) rfl kk kk (jC hz13))) ?_
    refine YK 0 (zAK hy14) zAF ?_
    exact YE (by rw [← hb15]; (try rw [hc11]); kernel_rfl)
   ·have hb15 := zB (zJ hb15 hc11)
    refine YQ hc11 ?_
    exact YE (by rw [← hb15]; (try rw [hc11]); kernel_rfl)
  cases h
  exact zM VT
theorem zHZ : CfW Tryz.prog 38 := cfW Tryz.func38
theorem zHh {f1 : (Int × Int × Int)} {p2 : Int} {r : (((Int × Int × Int)) × Bool)} (h : zB4 f1 p2 = some r) : qE Tryz.prog 38 [.ag [Ti f1.1, Ti f1.2.1, Ti f1.2.2], I p2] (.tc (.ag [Ti r.1.1, Ti r.1.2.1, Ti r.1.2.2]) (.tc (Bo r.2) .tn)) [] := by
 refine qI (rs := [.w 4 3, .t 5]) (vs := [.cell 4 27, .tmp 5]) Tryz.func38 rfl rfl (.cons ⟨rfl, wd27⟩ (.cons rfl FitsL.nil)) (by decide) 20 rfl ?_
 unfold zB4 at h
 refine VE ?_
 refine zO ?_
 obtain ⟨y3, hy3, h⟩ := zA h
 refine VS ?_
 refine YK 2 (zII hy3) zHq ?_
 refine YF ?_
 refine VC h (fun h => ?_) (fun h => ?_)
 ·refine VS ?_
  refine L0 rfl rfl (qJ (cs := [Ti 0, Ti 0, Ti 0]) pl27 bt27 rfl rfl kk) ?_
  refine YF ?_
  cases h
  exact zM VT
 ·refine zK ?_
  show V _ _ _ _
  obtain ⟨y5, hy5, h⟩ := zA h
  refine VS ?_
  refine YK 2 (zGh hy5) zGZ ?_
  refine YF ?_
  refine VE ?_
  cases h
  exact zM VT
theorem zJP {code1 : List Int} {more2 : List Int} {r : Bool} (h : zDD code1 more2 = some r) : qE Tryz.prog 5 [.c (.sl (code1.map c5)), .c (.sl (more2.map c5))] (Bo r) [] := by
  refine qI (rs := [.t 4]) (vs := [.tmp 4]) Tryz.func5 rfl rfl (.cons rfl FitsL.nil) (by decide) 173 rfl ?_
  unfold zDD at h
  show V _ _ ⟨.c (.sl (code1.map c5)) :: .c (.sl (more2.map c5)) :: bt 171 [], []⟩ _
  refine V_e (mb 173 3) [] (s1 := ⟨.c (.sl (code1.map c5)) :: .c (.sl (more2.map c5)) :: bt 171 [], []⟩) ?_
  refine zO ?_
  obtain ⟨y3, hy3, h⟩ := zA h
  refine zG (mb 173 4294967297) [] (s1 := ⟨.c (.sl (code1.map c5)) :: bt 31 (Bo y3 :: bt 140 []), []⟩) ?_ ?_
  ·refine XR 2 ?_
   refine XC (s_laws_big hy3) cf_laws_big rfl rfl rfl ?_
   exact XE
  refine qX rfl (fun hc4 => ?_) (fun hc4 => ?_)
  ·have h := zT h hc4
   refine V_e (mb 173 16) [] (s1 := ⟨bt 4 (Bo true :: bt 168 []), []⟩) ?_
   refine zM ?_
   obtain rfl := zB h
   show Post _ _ _ _ _
   exact ⟨.inr rfl, rfl, rfl, rfl⟩
  ·have h := zJ h hc4
   refine zK ?_
   show V _ _ _ _
   obtain ⟨y5, hy5, h⟩ := zA h
   refine zG (mb 173 96) [40] (s1 := ⟨bt 5 (.pt 40 0 :: I y5.2 :: bt 166 []), [(40, .box [Ti y5.1.1, Ti y5.1.2.1, Ti y5.1.2.2])]⟩) ?_ ?_
   ·refine XR 1 ?_
    refine XC (zGf hy5) zG5 rfl rfl rfl ?_
    exact XE
   obtain ⟨y6, hy6, h⟩ := zA h
   refine zG (mb 173 480) [328, 40] (s1 := ⟨bt 5 (.pt 40 0 :: I y5.2 :: .ow 328 :: Bo y6.2 :: bt 164 []), [(328, .arr 27 3 (y6.1.map c27)), (40, .box [Ti y5.1.1, Ti y5.1.2.1, Ti y5.1.2.2])]⟩) ?_ ?_
   ·refine XR 2 ?_
    refine XC (zIo hy6) zIb rfl rfl rfl ?_
    exact XE
   obtain ⟨y7, hy7, h⟩ := zA h
   refine zG (mb 173 2016) [376, 328, 40] (s1 := ⟨bt 5 (.pt 40 0 :: I y5.2 :: .ow 328 :: Bo y6.2 :: .ow 376 :: Bo y7.2 :: bt 162 []), [(376, .arr 27 3 (y7.1.map c27)), (328, .arr 27 3 (y6.1.map c27)), (40, .box [Ti y5.1.1, Ti y5.1.2.1, Ti y5.1.2.2])]⟩) ?_ ?_
   ·refine XR 2 ?_
    refine XC (zIk hy7) zI7 rfl rfl rfl ?_
    exact XE
   obtain ⟨y8, hy8, h⟩ := zA h
   refine zG (mb 173 8160) [424, 376, 328, 40] (s1 := ⟨bt 5 (.pt 40 0 :: I y5.2 :: .ow 328 :: Bo y6.2 :: .ow 376 :: Bo y7.2 :: .ow 424 :: Bo y8.2 :: bt 160 []), [(424, .arr 27 3 (y8.1.map c27)), (376, .arr 27 3 (y7.1.map c27)), (328, .arr 27 3 (y6.1.map c27)), (40, .box [Ti y5.1.1, Ti y5.1.2.1, Ti y5.1.2.2])]⟩) ?_ ?_
   ·refine XR 2 ?_
    refine XC (zIL hy8) zHs rfl rfl rfl ?_
    exact XE
   refine zO ?_
   obtain ⟨b11, hb11, h⟩ := zA h
   obtain ⟨b15, hb15, h⟩ := zA h
   refine zG (mb 173 37778931862957161710048) [328, 40] (s1 := ⟨bt 5 (.pt 40 0 :: I y5.2 :: .ow 328 :: Bo y6.2 :: bt 66 (Bo b15 :: bt 97 [])), [(328, .arr 27 3 (y6.1.map c27)), (40, .box [Ti y5.1.1, Ti y5.1.2.1, Ti y5.1.2.2])]⟩) ?_ ?_
   ·refine XR 2 ?_
    refine L0 rfl rfl (Y0_neb (a := y6.2) (b := y7.2) Tryz.underlying4 rfl kk kk) ?_
    refine XR 1 ?_
    refine zU (y6.2 != y7.2) (fun hc9 => ?_) (fun hc9 => ?_)
    ·have hb11 := zB (zT hb11 hc9)
     refine qD _ rfl rfl kk hc9 rfl ?_
     refine qD _ rfl rfl kk hc9 rfl ?_
     refine qD _ rfl rfl kk hc9 rfl ?_
     refine qD _ rfl rfl kk hc9 rfl ?_
     refine zE rfl (zD rfl (zB5 (b := y6.2 != y7.2) (p := true) rfl kk hc9 kk hb11)) ?_
     refine XR 1 ?_
     refine zU b11 (fun hc12 => ?_) (fun hc12 => ?_)
     ·refine qD _ rfl rfl kk hc12 rfl ?_
      refine qD _ rfl rfl kk hc12 rfl ?_
      refine qD _ rfl rfl kk hc12 rfl ?_
      refine zE rfl (zD rfl (zBL (b := b11) (p := true) (q := y8.2 != y6.2) rfl kk hc12 kk)) ?_
      refine XR 1 ?_
      refine zU (bif b11 then true else (y8.2 != y6.2)) (fun hc13 => ?_) (fun hc13 => ?_)
      ·have hb15 := zB (zT hb15 hc13)
       refine qD _ rfl rfl kk hc13 rfl ?_
       refine qD _ rfl rfl kk hc13 rfl ?_
       refine qD _ rfl rfl kk hc13 rfl ?_
       refine qD _ rfl rfl kk hc13 rfl ?_
       refine zE rfl (zD rfl (zB5 (b := bif b11 then true else (y8.2 != y6.2)) (p := true) rfl kk hc13 kk hb15)) ?_
       exact XE
      ·have hb15 := zJ hb15 hc13
       obtain ⟨y14, hy14, hb15⟩ := zA hb15
       have hb15 := zB hb15
       refine zF _ rfl rfl kk hc13 (zD rfl (qU (.ow 424) rfl kk)) ?_
       refine zF _ rfl rfl kk hc13 (zD rfl (qU (.ow 328) rfl kk)) ?_
       refine zF _ rfl rfl kk hc13 (zAT rfl (zEB (zCV hy14) zCI rfl kk rfl rfl)) ?_
       refine zF _ rfl rfl kk hc13 (zD rfl (zDs (b := y14) rfl kk)) ?_
       refine zE rfl (zD rfl (zB6 (b := bif b11 then true else (y8.2 != y6.2)) (p := !y14) rfl kk hc13 kk hb15)) ?_
       exact XE
     ·refine zF _ rfl rfl kk hc12 (zD rfl (qU (Bo y8.2) rfl kk)) ?_
      refine zF _ rfl rfl kk hc12 (zD rfl (qU (Bo y6.2) rfl kk)) ?_
      refine zF _ rfl rfl kk hc12 (zD rfl (Y0_neb (a := y8.2) (b := y6.2) Tryz.underlying4 rfl kk kk)) ?_
      refine zE rfl (zD rfl (zBZ (b := b11) (p := true) (q := y8.2 != y6.2) rfl kk hc12 kk)) ?_
      refine XR 1 ?_
      refine zU (bif b11 then true else (y8.2 != y6.2)) (fun hc13 => ?_) (fun hc13 => ?_)
      ·have hb15 := zB (zT hb15 hc13)
       refine qD _ rfl rfl kk hc13 rfl ?_
       refine qD _ rfl rfl kk hc13 rfl ?_
       refine qD _ rfl rfl kk hc13 rfl ?_
       refine qD _ rfl rfl kk hc13 rfl ?_
       refine zE rfl (zD rfl (zB5 (b := bif b11 then true else (y8.2 != y6.2)) (p := true) rfl kk hc13 kk hb15)) ?_
       exact XE
      ·have hb15 := zJ hb15 hc13
       obtain ⟨y14, hy14, hb15⟩ := zA hb15
       have hb15 := zB hb15
       refine zF _ rfl rfl kk hc13 (zD rfl (qU (.ow 424) rfl kk)) ?_
       refine zF _ rfl rfl kk hc13 (zD rfl (qU (.ow 328) rfl kk)) ?_
       refine zF _ rfl rfl kk hc13 (zAT rfl (zEB (zCV hy14) zCI rfl kk rfl rfl)) ?_
       refine zF _ rfl rfl kk hc13 (zD rfl (zDs (b := y14) rfl kk)) ?_
       refine zE rfl (zD rfl (zB6 (b := bif b11 then true else (y8.2 != y6.2)) (p := !y14) rfl kk hc13 kk hb15)) ?_
       exact XE
    ·have hb11 := zJ hb11 hc9
     obtain ⟨y10, hy10, hb11⟩ := zA hb11
     have hb11 := zB hb11
     refine zF _ rfl rfl kk hc9 (zD rfl (qU (.ow 328) rfl kk)) ?_
     refine zF _ rfl rfl kk hc9 (zD rfl (qU (.ow 376) rfl kk)) ?_
     refine zF _ rfl rfl kk hc9 (zAT rfl (zEB (zCV hy10) zCI rfl kk rfl rfl)) ?_
     refine zF _ rfl rfl kk hc9 (zD rfl (zDs (b := y10) rfl kk)) ?_
     refine zE rfl (zD rfl (zB6 (b := y6.2 != y7.2) (p := !y10) rfl kk hc9 kk hb11)) ?_
     refine XR 1 ?_
     refine zU b11 (fun hc12 => ?_) (fun hc12 => ?_)
     ·refine qD _ rfl rfl kk hc12 rfl ?_
      refine qD _ rfl rfl kk hc12 rfl ?_
      refine qD _ rfl rfl kk hc12 rfl ?_
      refine zE rfl (zD rfl (zBL (b := b11) (p := true) (q := y8.2 != y6.2) rfl kk hc12 kk)) ?_
      refine XR 1 ?_
      refine zU (bif b11 then true else (y8.2 != y6.2)) (fun hc13 => ?_) (fun hc13 => ?_)
      ·have hb15 := zB (zT hb15 hc13)
       refine qD _ rfl rfl kk hc13 rfl ?_
       refine qD _ rfl rfl kk hc13 rfl ?_
       refine qD _ rfl rfl kk hc13 rfl ?_
       refine qD _ rfl rfl kk hc13 rfl ?_
       refine zE rfl (zD rfl (zB5 (b := bif b11 then true else (y8.2 != y6.2)) (p := true) rfl kk hc13 kk hb15)) ?_
       exact XE
      ·have hb15 := zJ hb15 hc13
       obtain ⟨y14, hy14, hb15⟩ := zA hb15
       have hb15 := zB hb15
       refine zF _ rfl rfl kk hc13 (zD rfl (qU (.ow 424) rfl kk)) ?_
       refine zF _ rfl rfl kk hc13 (zD rfl (qU (.ow 328) rfl kk)) ?_
       refine zF _ rfl rfl kk hc13 (zAT rfl (zEB (zCV hy14) zCI rfl kk rfl rfl)) ?_
       refine zF _ rfl rfl kk hc13 (zD rfl (zDs (b := y14) rfl kk)) ?_
       refine zE rfl (zD rfl (zB6 (b := bif b11 then true else (y8.2 != y6.2)) (p := !y14) rfl kk hc13 kk hb15)) ?_
       exact XE
     ·refine zF _ rfl rfl kk hc12 (zD rfl (qU (Bo y8.2) rfl kk)) ?_
      refine zF _ rfl rfl kk hc12 (zD rfl (qU (Bo y6.2) rfl kk)) ?_
      refine zF _ rfl rfl kk hc12 (zD rfl (Y0_neb (a := y8.2) (b := y6.2) Tryz.underlying4 rfl kk kk)) ?_
      refine zE rfl (zD rfl (zBZ (b := b11) (p := true) (q := y8.2 != y6.2) rfl kk hc12 kk)) ?_
      refine XR 1 ?_
      refine zU (bif b11 then true else (y8.2 != y6.2)) (fun hc13 => ?_) (fun hc13 => ?_)
      ·have hb15 := zB (zT hb15 hc13)
       refine qD _ rfl rfl kk hc13 rfl ?_
       refine qD _ rfl rfl kk hc13 rfl ?_
       refine qD _ rfl rfl kk hc13 rfl ?_
       refine qD _ rfl rfl kk hc13 rfl ?_
       refine zE rfl (zD rfl (zB5 (b := bif b11 then true else (y8.2 != y6.2)) (p := true) rfl kk hc13 kk hb15)) ?_
       exact XE
      ·have hb15 := zJ hb15 hc13
       obtain ⟨y14, hy14, hb15⟩ := zA hb15
       have hb15 := zB hb15
       refine zF _ rfl rfl kk hc13 (zD rfl (qU (.ow 424) rfl kk)) ?_
       refine zF _ rfl rfl kk hc13 (zD rfl (qU (.ow 328) rfl kk)) ?_
       refine zF _ rfl rfl kk hc13 (zAT rfl (zEB (zCV hy14) zCI rfl kk rfl rfl)) ?_
       refine zF _ rfl rfl kk hc13 (zD rfl (zDs (b := y14) rfl kk)) ?_
       refine zE rfl (zD rfl (zB6 (b := bif b11 then true else (y8.2 != y6.2)) (p := !y14) rfl kk hc13 kk hb15)) ?_
       exact XE
   refine qX rfl (fun hc16 => ?_) (fun hc16 => ?_)
   ·have h := zT h hc16
    refine V_e (mb 173 16) [] (s1 := ⟨bt 4 (Bo false :: bt 168 []), []⟩) ?_
    refine zM ?_
    obtain rfl := zB h
    show Post _ _ _ _ _
    exact ⟨.inr rfl, rfl, rfl, rfl⟩
   ·have h := zJ h hc16
    refine zK ?_
    show V _ _ _ _
    refine zO ?_
    refine V_e (mb 173 151115727451828646838496) [328, 40] (s1 := ⟨bt 5 (.pt 40 0 :: I y5.2 :: .ow 328 :: bt 69 (Bo (!y6.2) :: bt 95 [])), [(328, .arr 27 3 (y6.1.map c27)), (40, .box [Ti y5.1.1, Ti y5.1.2.1, Ti y5.1.2.2])]⟩) ?_
    refine qX rfl (fun hc17 => ?_) (fun hc17 => ?_)
    ·have h := zT h hc17
     refine V_e (mb 173 16) [] (s1 := ⟨bt 4 (Bo true :: bt 168 []), []⟩) ?_
     refine zM ?_
     obtain rfl := zB h
     show Post _ _ _ _ _
     exact ⟨.inr rfl, rfl, rfl, rfl⟩
    ·have h := zJ h hc17
     refine zK ?_
     show V _ _ _ _
     obtain ⟨y18, hy18, h⟩ := zA h
     refine zG (mb 173 24800) [328, 40] (s1 := ⟨bt 5 (.pt 40 0 :: I y5.2 :: .ow 328 :: bt 5 (I y18.1 :: Bo y18.2 :: bt 158 [])), [(328, .arr 27 3 (y6.1.map c27)), (40, .box [Ti y5.1.1, Ti y5.1.2.1, Ti y5.1.2.2])]⟩) ?_ ?_
     ·refine XR 1 ?_
      refine XC (zHW hy18) zHH rfl rfl rfl ?_
      exact XE
     obtain ⟨y19, hy19, h⟩ := zA h
     refine zG (mb 173 123104) [328, 40] (s1 := ⟨bt 5 (.pt 40 0 :: I y5.2 :: .ow 328 :: bt 5 (I y18.1 :: Bo y18.2 :: I y19.1 :: Bo y19.2 :: bt 156 [])), [(328, .arr 27 3 (y6.1.map c27)), (40, .box [Ti y5.1.1, Ti y5.1.2.1, Ti y5.1.2.2])]⟩) ?_ ?_
     ·refine XR 2 ?_
      refine XC (zIq hy19) zId rfl rfl rfl ?_
      exact XE
     obtain ⟨y20, hy20, h⟩ := zA h
     refine zG (mb 173 516320) [328, 40] (s1 := ⟨bt 5 (.pt 40 0 :: I y5.2 :: .ow 328 :: bt 5 (I y18.1 :: Bo y18.2 :: I y19.1 :: Bo y19.2 :: I y20.1 :: Bo y20.2 :: bt 154 [])), [(328, .arr 27 3 (y6.1.map c27)), (40, .box [Ti y5.1.1, Ti y5.1.2.1, Ti y5.1.2.2])]⟩) ?_ ?_
     ·refine XR 1 ?_
      refine XC (zFO hy20) zFC rfl rfl rfl ?_
      exact XE
     obtain ⟨y21, hy21, h⟩ := zA h
     refine zG (mb 173 2089184) [328, 40] (s1 := ⟨bt 5 (.pt 40 0 :: I y5.2 :: .ow 328 :: bt 5 (I y18.1 :: Bo y18.2 :: I y19.1 :: Bo y19.2 :: I y20.1 :: Bo y20.2 :: I y21.1 :: Bo y21.2 :: bt 152 [])), [(328, .arr 27 3 (y6.1.map c27)), (40, .box [Ti y5.1.1, Ti y5.1.2.1, Ti y5.1.2.2])]⟩) ?_ ?_
     ·refine XR 5 ?_
      refine XC (zFO hy21) zFC rfl rfl rfl ?_
      exact XE
     obtain ⟨y22, hy22, h⟩ := zA h
     refine zG (mb 173 8372448) [848, 328, 40] (s1 := ⟨bt 5 (.pt 40 0 :: I y5.2 :: .ow 328 :: bt 6 (Bo y18.2 :: I y19.1 :: Bo y19.2 :: I y20.1 :: Bo y20.2 :: I y21.1 :: Bo y21.2 :: .ow 848 :: Bo y22.2 :: bt 150 [])), [(848, .arr 27 3 (y22.1.map c27)), (328, .arr 27 3 (y6.1.map c27)), (40, .box [Ti y5.1.1, Ti y5.1.2.1, Ti y5.1.2.2])]⟩) ?_ ?_
     ·refine XR 2 ?_
      refine XC (zGj hy22) zG8 rfl rfl rfl ?_
      exact XE
     refine zO ?_
     obtain ⟨t30, ht30, h⟩ := zA h
     have ht30 := zB ht30
     refine zG (mb 173 44601490397061246283071436545296723011961056) [328, 40] (s1 := ⟨bt 5 (.pt 40 0 :: I y5.2 :: .ow 328 :: bt 137 (Bo t30 :: bt 27 [])), [(328, .arr 27 3 (y6.1.map c27)), (40, .box [Ti y5.1.1, Ti y5.1.2.1, Ti y5.1.2.2])]⟩) ?_ ?_
     ·refine XR 3 ?_
      refine zGS 3 (s1 := ⟨bt 5 (.pt 40 0 :: I y5.2 :: .ow 328 :: bt 6 (Bo y18.2 :: I y19.1 :: Bo y19.2 :: I y20.1 :: Bo y20.2 :: I y21.1 :: Bo y21.2 :: .ow 848 :: Bo y22.2 :: bt 86 (Bo y18.2 :: Bo (!y18.2) :: Bo (!y18.2) :: .bot :: .bot :: Bo (bif (!y18.2) then true else (!y19.2)) :: bt 58 []))), [(848, .arr 27 3 (y22.1.map c27)), (328, .arr 27 3 (y6.1.map c27)), (40, .box [Ti y5.1.1, Ti y5.1.2.1, Ti y5.1.2.2])]⟩) (fun hT => ?_) ?_
      ·refine zU (!y18.2) (fun hc23 => ?_) (fun hc23 => ?_)
       ·refine qD _ rfl rfl kk hc23 rfl ?_
        refine qD _ rfl rfl kk hc23 rfl ?_
        refine zE rfl (zD rfl (zBL (b := !y18.2) (p := true) (q := !y19.2) rfl kk hc23 kk)) ?_
        exact zFd (mb 173 25312447185357284689086169613320416) [848, 328, 40] kk hT
       ·refine zF _ rfl rfl kk hc23 (zD rfl (qU (Bo y19.2) rfl kk)) ?_
        refine zF _ rfl rfl kk hc23 (zD rfl (zDs (b := y19.2) rfl kk)) ?_
        refine zE rfl (zD rfl (zBZ (b := !y18.2) (p := true) (q := !y19.2) rfl kk hc23 kk)) ?_
        exact zFd (mb 173 25312447185357284689086169613320416) [848, 328, 40] kk hT
      refine XR 1 ?_
      refine zGS 3 (s1 := ⟨bt 5 (.pt 40 0 :: I y5.2 :: .ow 328 :: bt 6 (Bo y18.2 :: I y19.1 :: Bo y19.2 :: I y20.1 :: Bo y20.2 :: I y21.1 :: Bo y21.2 :: .ow 848 :: Bo y22.2 :: bt 86 (Bo y18.2 :: Bo (!y18.2) :: Bo (!y18.2) :: .bot :: .bot :: Bo (bif (!y18.2) then true else (!y19.2)) :: Bo (bif (!y18.2) then true else (!y19.2)) :: .bot :: .bot :: Bo (bif (bif (!y18.2) then true else (!y19.2)) then true else (!y20.2)) :: bt 54 []))), [(848, .arr 27 3 (y22.1.map c27)), (328, .arr 27 3 (y6.1.map c27)), (40, .box [Ti y5.1.1, Ti y5.1.2.1, Ti y5.1.2.2])]⟩) (fun hT => ?_) ?_
      ·refine zU (bif (!y18.2) then true else (!y19.2)) (fun hc24 => ?_) (fun hc24 => ?_)
       ·refine qD _ rfl rfl kk hc24 rfl ?_
        refine qD _ rfl rfl kk hc24 rfl ?_
        refine zE rfl (zD rfl (zBL (b := bif (!y18.2) then true else (!y19.2)) (p := true) (q := !y20.2) rfl kk hc24 kk)) ?_
        exact zFd (mb 173 399157820999864873943281905317167328) [848, 328, 40] kk hT
       ·refine zF _ rfl rfl kk hc24 (zD rfl (qU (Bo y20.2) rfl kk)) ?_
        refine zF _ rfl rfl kk hc24 (zD rfl (zDs (b := y20.2) rfl kk)) ?_
        refine zE rfl (zD rfl (zBZ (b := bif (!y18.2) then true else (!y19.2)) (p := true) (q := !y20.2) rfl kk hc24 kk)) ?_
        exact zFd (mb 173 399157820999864873943281905317167328) [848, 328, 40] kk hT
      refine XR 1 ?_
      refine zGS 3 (s1 := ⟨bt 5 (.pt 40 0 :: I y5.2 :: .ow 328 :: bt 6 (Bo y18.2 :: I y19.1 :: Bo y19.2 :: I y20.1 :: Bo y20.2 :: I y21.1 :: Bo y21.2 :: .ow 848 :: Bo y22.2 :: bt 86 (Bo y18.2 :: Bo (!y18.2) :: Bo (!y18.2) :: .bot :: .bot :: Bo (bif (!y18.2) then true else (!y19.2)) :: Bo (bif (!y18.2) then true else (!y19.2)) :: .bot :: .bot :: Bo (bif (bif (!y18.2) then true else (!y19.2)) then true else (!y20.2)) :: Bo (bif (bif (!y18.2) then true else (!y19.2)) then true else (!y20.2)) :: .bot :: .bot :: Bo (bif (bif (bif (!y18.2) then true else (!y19.2)) then true else (!y20.2)) then true else (!y21.2)) :: bt 50 []))), [(848, .arr 27 3 (y22.1.map c27)), (328, .arr 27 3 (y6.1.map c27)), (40, .box [Ti y5.1.1, Ti y5.1.2.1, Ti y5.1.2.2])]⟩) (fun hT => ?_) ?_
      ·refine zU (bif (bif (!y18.2) then true else (!y19.2)) then true else (!y20.2)) (fun hc25 => ?_) (fun hc25 => ?_)
       ·refine qD _ rfl rfl kk hc25 rfl ?_
        refine qD _ rfl rfl kk hc25 rfl ?_
        refine zE rfl (zD rfl (zBL (b := bif (bif (!y18.2) then true else (!y19.2)) then true else (!y20.2)) (p := true) (q := !y21.2) rfl kk hc25 kk)) ?_
        exact zFd (mb 173 6380683802031986302010413676578717920) [848, 328, 40] kk hT
       ·refine zF _ rfl rfl kk hc25 (zD rfl (qU (Bo y21.2) rfl kk)) ?_
        refine zF _ rfl rfl kk hc25 (zD rfl (zDs (b := y21.2) rfl kk)) ?_
        refine zE rfl (zD rfl (zBZ (b := bif (bif (!y18.2) then true else (!y19.2)) then true else (!y20.2)) (p := true) (q := !y21.2) rfl kk hc25 kk)) ?_
        exact zFd (mb 173 6380683802031986302010413676578717920) [848, 328, 40] kk hT
      refine XR 1 ?_
      refine zGS 3 (s1 := ⟨bt 5 (.pt 40 0 :: I y5.2 :: .ow 328 :: bt 6 (Bo y18.2 :: I y19.1 :: Bo y19.2 :: I y20.1 :: Bo y20.2 :: I y21.1 :: Bo y21.2 :: .ow 848 :: Bo y22.2 :: bt 86 (Bo y18.2 :: Bo (!y18.2) :: Bo (!y18.2) :: .bot :: .bot :: Bo (bif (!y18.2) then true else (!y19.2)) :: Bo (bif (!y18.2) then true else (!y19.2)) :: .bot :: .bot :: Bo (bif (bif (!y18.2) then true else (!y19.2)) then true else (!y20.2)) :: Bo (bif (bif (!y18.2) then true else (!y19.2)) then true else (!y20.2)) :: .bot :: .bot :: Bo (bif (bif (bif (!y18.2) then true else (!y19.2)) then true else (!y20.2)) then true else (!y21.2)) :: Bo (bif (bif (bif (!y18.2) then true else (!y19.2)) then true else (!y20.2)) then true else (!y21.2)) :: .bot :: .bot :: Bo (bif (bif (bif (bif (!y18.2) then true else (!y19.2)) then true else (!y20.2)) then true else (!y21.2)) then true else (!y22.2)) :: bt 46 []))), [(848, .arr 27 3 (y22.1.map c27)), (328, .arr 27 3 (y6.1.map c27)), (40, .box [Ti y5.1.1, Ti y5.1.2.1, Ti y5.1.2.2])]⟩) (fun hT => ?_) ?_
      ·refine zU (bif (bif (bif (!y18.2) then true else (!y19.2)) then true else (!y20.2)) then true else (!y21.2)) (fun hc26 => ?_) (fun hc26 => ?_)
       ·refine qD _ rfl rfl kk hc26 rfl ?_
        refine qD _ rfl rfl kk hc26 rfl ?_
        refine zE rfl (zD rfl (zBL (b := bif (bif (bif (!y18.2) then true else (!y19.2)) then true else (!y20.2)) then true else (!y21.2)) (p := true) (q := !y22.2) rfl kk hc26 kk)) ?_
        exact zFd (mb 173 102085099498545929151084522016763527392) [848, 328, 40] kk hT
       ·refine zF _ rfl rfl kk hc26 (zD rfl (qU (Bo y22.2) rfl kk)) ?_
        refine zF _ rfl rfl kk hc26 (zD rfl (zDs (b := y22.2) rfl kk)) ?_
        refine zE rfl (zD rfl (zBZ (b := bif (bif (bif (!y18.2) then true else (!y19.2)) then true else (!y20.2)) then true else (!y21.2)) (p := true) (q := !y22.2) rfl kk hc26 kk)) ?_
        exact zFd (mb 173 102085099498545929151084522016763527392) [848, 328, 40] kk hT
      refine XR 1 ?_
      refine zGS 5 (s1 := ⟨bt 5 (.pt 40 0 :: I y5.2 :: .ow 328 :: bt 6 (Bo y18.2 :: I y19.1 :: Bo y19.2 :: I y20.1 :: Bo y20.2 :: I y21.1 :: Bo y21.2 :: .ow 848 :: Bo y22.2 :: bt 86 (Bo y18.2 :: Bo (!y18.2) :: Bo (!y18.2) :: .bot :: .bot :: Bo (bif (!y18.2) then true else (!y19.2)) :: Bo (bif (!y18.2) then true else (!y19.2)) :: .bot :: .bot :: Bo (bif (bif (!y18.2) then true else (!y19.2)) then true else (!y20.2)) :: Bo (bif (bif (!y18.2) then true else (!y19.2)) then true else (!y20.2)) :: .bot :: .bot :: Bo (bif (bif (bif (!y18.2) then true else (!y19.2)) then true else (!y20.2)) then true else (!y21.2)) :: Bo (bif (bif (bif (!y18.2) then true else (!y19.2)) then true else (!y20.2)) then true else (!y21.2)) :: .bot :: .bot :: Bo (bif (bif (bif (bif (!y18.2) then true else (!y19.2)) then true else (!y20.2)) then true else (!y21.2)) then true else (!y22.2)) :: Bo (bif (bif (bif (bif (!y18.2) then true else (!y19.2)) then true else (!y20.2)) then true else (!y21.2)) then true else (!y22.2)) :: bt 4 (Bo (bif (bif (bif (bif (bif (!y18.2) then true else (!y19.2)) then true else (!y20.2)) then true else (!y21.2)) then true else (!y22.2)) then true else (!eqI ((y6.1.length : Int)) y19.1)) :: bt 40 [])))), [(848, .arr 27 3 (y22.1.map c27)), (328, .arr 27 3 (y6.1.map c27)), (40, .box [Ti y5.1.1, Ti y5.1.2.1, Ti y5.1.2.2])]⟩) (fun hT => ?_) ?_
      ·refine zU (bif (bif (bif (bif (!y18.2) then true else (!y19.2)) then true else (!y20.2)) then true else (!y21.2)) then true else (!y22.2)) (fun hc27 => ?_) (fun hc27 => ?_)
       ·refine qD _ rfl rfl kk hc27 rfl ?_
        refine qD _ rfl rfl kk hc27 rfl ?_
        refine qD _ rfl rfl kk hc27 rfl ?_
        refine qD _ rfl rfl kk hc27 rfl ?_
        refine zE rfl (zD rfl (zBL (b := bif (bif (bif (bif (!y18.2) then true else (!y19.2)) then true else (!y20.2)) then true else (!y21.2)) then true else (!y22.2)) (p := true) (q := !eqI ((y6.1.length : Int)) y19.1) rfl kk hc27 kk)) ?_
        exact zFd (mb 173 5716744153694030576296765544640939016416) [848, 328, 40] kk hT
       ·refine zF _ rfl rfl kk hc27 (zD rfl (qU (.ow 328) rfl kk)) ?_
        refine zF _ rfl rfl kk hc27 (zD rfl (zBN (c := c27) (xs := y6.1) Tryz.underlying24 rfl kk)) ?_
        refine zF _ rfl rfl kk hc27 (zD rfl (qU (I y19.1) rfl kk)) ?_
        refine zF _ rfl rfl kk hc27 (zD rfl (zKX (k := .i64) (a := (y6.1.length : Int)) (b := y19.1) rfl kk kk)) ?_
        refine zE rfl (zD rfl (zBZ (b := bif (bif (bif (bif (!y18.2) then true else (!y19.2)) then true else (!y20.2)) then true else (!y21.2)) then true else (!y22.2)) (p := true) (q := !eqI ((y6.1.length : Int)) y19.1) rfl kk hc27 kk)) ?_
        exact zFd (mb 173 5716744153694030576296765544640939016416) [848, 328, 40] kk hT
      refine XR 1 ?_
      refine zGS 6 (s1 := ⟨bt 5 (.pt 40 0 :: I y5.2 :: .ow 328 :: bt 6 (Bo y18.2 :: I y19.1 :: Bo y19.2 :: I y20.1 :: Bo y20.2 :: I y21.1 :: Bo y21.2 :: .ow 848 :: Bo y22.2 :: bt 86 (Bo y18.2 :: Bo (!y18.2) :: Bo (!y18.2) :: .bot :: .bot :: Bo (bif (!y18.2) then true else (!y19.2)) :: Bo (bif (!y18.2) then true else (!y19.2)) :: .bot :: .bot :: Bo (bif (bif (!y18.2) then true else (!y19.2)) then true else (!y20.2)) :: Bo (bif (bif (!y18.2) then true else (!y19.2)) then true else (!y20.2)) :: .bot :: .bot :: Bo (bif (bif (bif (!y18.2) then true else (!y19.2)) then true else (!y20.2)) then true else (!y21.2)) :: Bo (bif (bif (bif (!y18.2) then true else (!y19.2)) then true else (!y20.2)) then true else (!y21.2)) :: .bot :: .bot :: Bo (bif (bif (bif (bif (!y18.2) then true else (!y19.2)) then true else (!y20.2)) then true else (!y21.2)) then true else (!y22.2)) :: Bo (bif (bif (bif (bif (!y18.2) then true else (!y19.2)) then true else (!y20.2)) then true else (!y21.2)) then true else (!y22.2)) :: bt 4 (Bo (bif (bif (bif (bif (bif (!y18.2) then true else (!y19.2)) then true else (!y20.2)) then true else (!y21.2)) then true else (!y22.2)) then true else (!eqI ((y6.1.length : Int)) y19.1)) :: Bo (bif (bif (bif (bif (bif (!y18.2) then true else (!y19.2)) then true else (!y20.2)) then true else (!y21.2)) then true else (!y22.2)) then true else (!eqI ((y6.1.length : Int)) y19.1)) :: bt 5 (Bo (bif (bif (bif (bif (bif (bif (!y18.2) then true else (!y19.2)) then true else (!y20.2)) then true else (!y21.2)) then true else (!y22.2)) then true else (!eqI ((y6.1.length : Int)) y19.1)) then true else (!eqI y21.1 (w64 (y20.1 * y19.1)))) :: bt 33 []))))), [(848, .arr 27 3 (y22.1.map c27)), (328, .arr 27 3 (y6.1.map c27)), (40, .box [Ti y5.1.1, Ti y5.1.2.1, Ti y5.1.2.2])]⟩) (fun hT => ?_) ?_
      ·refine zU (bif (bif (bif (bif (bif (!y18.2) then true else (!y19.2)) then true else (!y20.2)) then true else (!y21.2)) then true else (!y22.2)) then true else (!eqI ((y6.1.length : Int)) y19.1)) (fun hc28 => ?_) (fun hc28 => ?_)
       ·refine qD _ rfl rfl kk hc28 rfl ?_
        refine qD _ rfl rfl kk hc28 rfl ?_
        refine qD _ rfl rfl kk hc28 rfl ?_
        refine qD _ rfl rfl kk hc28 rfl ?_
        refine qD _ rfl rfl kk hc28 rfl ?_
        refine zE rfl (zD rfl (zBL (b := bif (bif (bif (bif (bif (!y18.2) then true else (!y19.2)) then true else (!y20.2)) then true else (!y21.2)) then true else (!y22.2)) then true else (!eqI ((y6.1.length : Int)) y19.1)) (p := true) (q := !eqI y21.1 (w64 (y20.1 * y19.1))) rfl kk hc28 kk)) ?_
        exact zFd (mb 173 713504067349246034580115949002718818844896) [848, 328, 40] kk hT
       ·refine zF _ rfl rfl kk hc28 (zD rfl (qU (I y21.1) rfl kk)) ?_
        refine zF _ rfl rfl kk hc28 (zD rfl (qU (I y20.1) rfl kk)) ?_
        refine zF _ rfl rfl kk hc28 (zD rfl (qU (I y19.1) rfl kk)) ?_
        refine zF _ rfl rfl kk hc28 (zD rfl (Y0_mul64 (a := y20.1) (b := y19.1) rfl kk kk)) ?_
        refine zF _ rfl rfl kk hc28 (zD rfl (zKX (k := .i64) (a := y21.1) (b := w64 (y20.1 * y19.1)) rfl kk kk)) ?_
        refine zE rfl (zD rfl (zBZ (b := bif (bif (bif (bif (bif (!y18.2) then true else (!y19.2)) then true else (!y20.2)) then true else (!y21.2)) then true else (!y22.2)) then true else (!eqI ((y6.1.length : Int)) y19.1)) (p := true) (q := !eqI y21.1 (w64 (y20.1 * y19.1))) rfl kk hc28 kk)) ?_
        exact zFd (mb 173 713504067349246034580115949002718818844896) [848, 328, 40] kk hT
      refine XR 1 ?_
      refine zU (bif (bif (bif (bif (bif (bif (!y18.2) then true else (!y19.2)) then true else (!y20.2)) then true else (!y21.2)) then true else (!y22.2)) then true else (!eqI ((y6.1.length : Int)) y19.1)) then true else (!eqI y21.1 (w64 (y20.1 * y19.1)))) (fun hc29 => ?_) (fun hc29 => ?_)
      ·refine qD _ rfl rfl kk hc29 rfl ?_
       refine qD _ rfl rfl kk hc29 rfl ?_
       refine qD _ rfl rfl kk hc29 rfl ?_
       refine qD _ rfl rfl kk hc29 rfl ?_
       refine zE rfl (zD rfl (zBL (b := bif (bif (bif (bif (bif (bif (!y18.2) then true else (!y19.2)) then true else (!y20.2)) then true else (!y21.2)) then true else (!y22.2)) then true else (!eqI ((y6.1.length : Int)) y19.1)) then true else (!eqI y21.1 (w64 (y20.1 * y19.1)))) (p := true) (q := !eqI ((y22.1.length : Int)) y19.1) rfl kk hc29 kk)) ?_
       refine zH ?_
       subst ht30
       kernel_rfl
      ·refine zF _ rfl rfl kk hc29 (zD rfl (qU (.ow 848) rfl kk)) ?_
       refine zF _ rfl rfl kk hc29 (zD rfl (zBN (c := c27) (xs := y22.1) Tryz.underlying24 rfl kk)) ?_
       refine zF _ rfl rfl kk hc29 (zD rfl (qU (I y19.1) rfl kk)) ?_
       refine zF _ rfl rfl kk hc29 (zD rfl (zKX (k := .i64) (a := (y22.1.length : Int)) (b := y19.1) rfl kk kk)) ?_
       refine zE rfl (zD rfl (zBZ (b := bif (bif (bif (bif (bif (bif (!y18.2) then true else (!y19.2)) then true else (!y20.2)) then true else (!y21.2)) then true else (!y22.2)) then true else (!eqI ((y6.1.length : Int)) y19.1)) then true else (!eqI y21.1 (w64 (y20.1 * y19.1)))) (p := true) (q := !eqI ((y22.1.length : Int)) y19.1) rfl kk hc29 kk)) ?_
       refine zH ?_
       subst ht30
       kernel_rfl
     refine qX rfl (fun hc31 => ?_) (fun hc31 => ?_)
     ·have h := zT h hc31
      refine V_e (mb 173 16) [] (s1 := ⟨bt 4 (Bo false :: bt 168 []), []⟩) ?_
      refine zM ?_
      obtain rfl := zB h
      show Post _ _ _ _ _
      exact ⟨.inr rfl, rfl, rfl, rfl⟩
     ·have h := zJ h hc31
      refine zK ?_
      show V _ _ _ _
      obtain ⟨y32, hy32, h⟩ := zA h
      refine zG (mb 173 41943232) [184, 328] (s1 := ⟨bt 6 (I y5.2 :: .ow 328 :: bt 15 (.pt 184 0 :: .bot :: Bo y32.2.2 :: bt 147 [])), [(184, .box [Ti y32.1.1, Ti y32.1.2.1, Ti y32.1.2.2]), (328, .arr 27 3 (y6.1.map c27))]⟩) ?_ ?_
      ·refine XR 1 ?_
       refine XC (zIM hy32) zHt rfl rfl rfl ?_
       exact XE
      refine zO ?_
      refine zG (mb 173 39962935395766876669632007144585863818758848576) [184, 328] (s1 := ⟨bt 6 (I y5.2 :: bt 16 (.pt 184 0 :: .bot :: Bo y32.2.2 :: bt 126 (.ow 328 :: I ((y6.1.length : Int)) :: I 0 :: bt 18 []))), [(184, .box [Ti y32.1.1, Ti y32.1.2.1, Ti y32.1.2.2]), (328, .arr 27 3 (y6.1.map c27))]⟩) ?_ ?_
      ·refine XR 1 ?_
       refine L0 rfl rfl (zBN (c := c27) (xs := y6.1) Tryz.underlying24 rfl kk) ?_
       exact XE
      obtain ⟨qo35, hLo35, hko35⟩ := zA h
      refine zE6 (q := qo35) (S := fun o35 => ⟨bt 25 (Bo y32.2.2 :: bt 147 []), []⟩) (mb 173 33554432) [] ?_ ?_
      ·refine zL (qT (fun n s => ∃ (t33 : Int), s.keep (mb 173 39962935395766876669632007144585863818758848576) [184, 328] = (⟨bt 6 (I y5.2 :: bt 16 (.pt 184 0 :: .bot :: Bo y32.2.2 :: bt 126 (.ow 328 :: I ((y6.1.length : Int)) :: I t33 :: bt 18 []))), [(184, .box [Ti y32.1.1, Ti y32.1.2.1, Ti y32.1.2.2]), (328, .arr 27 3 (y6.1.map c27))]⟩ : St) ∧ zBO y32 y5 y6 n t33 = some qo35) FU ⟨_,  by rfl, hLo35⟩ ?_)
       clear hLo35
       rintro n s ⟨t33, hs, h⟩
       refine qQ _ _ hs ?_
       clear hs
       cases n with
       | zero => cases h
       | succ n =>
        rw [zBO] at h
        refine V_e (mb 173 85634861562357592863497158166969708183006740544) [184, 328] (s1 := ⟨bt 6 (I y5.2 :: bt 16 (.pt 184 0 :: .bot :: Bo y32.2.2 :: bt 126 (.ow 328 :: I ((y6.1.length : Int)) :: I t33 :: Bo (ltI t33 ((y6.1.length : Int))) :: bt 17 []))), [(184, .box [Ti y32.1.1, Ti y32.1.2.1, Ti y32.1.2.2]), (328, .arr 27 3 (y6.1.map c27))]⟩) ?_
        refine zO ?_
        refine qX rfl (fun hc36 => ?_) (fun hc36 => ?_)
        ·have h := zT h hc36
         refine zK ?_
         show V _ _ _ _
         refine zO ?_
         refine zL ?_
         obtain ⟨e37, he37, h⟩ := zA h
         obtain ⟨e38, he38, h⟩ := zA h
         refine zG (mb 173 39962935395766876669632007144585863818893066304) [216, 184, 328] (s1 := ⟨bt 6 (I y5.2 :: bt 16 (.pt 184 0 :: .bot :: Bo y32.2.2 :: .bot :: .pt 216 0 :: bt 124 (.ow 328 :: I ((y6.1.length : Int)) :: I t33 :: bt 18 []))), [(216, .box [Ti e38.1, Ti e38.2.1, Ti e38.2.2]), (184, .box [Ti y32.1.1, Ti y32.1.2.1, Ti y32.1.2.2]), (328, .arr 27 3 (y6.1.map c27))]⟩) ?_ ?_
         ·refine L0 rfl rfl (zEs (c := c27) (xs := y6.1) (v := e37) (id := 328) (T := 27) (sz := 3) (n := t33) Tryz.underlying24 sz27 rfl kk kk kk he37) ?_
          refine L0 rfl rfl (zFy (c := c27) (xs := y6.1) (v := e38) (id := 328) (sz := 3) (T := 27) (off := 0) (n := t33) [Ti e38.1, Ti e38.2.1, Ti e38.2.2] wd27 rfl kk kk he38 (Nat.le_of_ble_eq_true rfl) kk) ?_
          exact XE
         obtain ⟨y39, hy39, h⟩ := zA h
         refine zG (mb 173 39962935395766876669632007144585863819564154944) [224, 184, 328] (s1 := ⟨bt 6 (I y5.2 :: bt 16 (.pt 184 0 :: .bot :: Bo y32.2.2 :: .bot :: .bot :: .pt 224 0 :: Bo y39.2 :: bt 122 (.ow 328 :: I ((y6.1.length : Int)) :: I t33 :: bt 18 []))), [(224, .box [Ti y39.1.1, Ti y39.1.2.1, Ti y39.1.2.2]), (184, .box [Ti y32.1.1, Ti y32.1.2.1, Ti y32.1.2.2]), (328, .arr 27 3 (y6.1.map c27))]⟩) ?_ ?_
         ·refine XR 2 ?_
          refine XC (zHh hy39) zHZ rfl rfl rfl ?_
          exact XE
         obtain ⟨t41, ht41, h⟩ := zA h
         have ht41 := zB ht41
         refine zG (mb 173 1496617639562240355117242900708618397991493682856000) [184, 328] (s1 := ⟨bt 6 (I y5.2 :: bt 16 (.pt 184 0 :: .bot :: Bo y32.2.2 :: bt 126 (.ow 328 :: I ((y6.1.length : Int)) :: I t33 :: bt 15 (Bo t41 :: .bot :: .bot :: [])))), [(184, .box [Ti y32.1.1, Ti y32.1.2.1, Ti y32.1.2.2]), (328, .arr 27 3 (y6.1.map c27))]⟩) ?_ ?_
         ·refine XR 3 ?_
          refine zU (!y39.2) (fun hc40 => ?_) (fun hc40 => ?_)
          ·refine qD _ rfl rfl kk hc40 rfl ?_
           refine qD _ rfl rfl kk hc40 rfl ?_
           refine qD _ rfl rfl kk hc40 rfl ?_
           refine zE rfl (zD rfl (zBL (b := !y39.2) (p := true) (q := !((y39.1.1 == y32.1.1) && ((y39.1.2.1 == y32.1.2.1) && (y39.1.2.2 == y32.1.2.2)))) rfl kk hc40 kk)) ?_
           refine zH ?_
           subst ht41
           kernel_rfl
          ·refine zF _ rfl rfl kk hc40 (zD rfl (zFH (cs := [Ti y39.1.1, Ti y39.1.2.1, Ti y39.1.2.2]) [Ti y39.1.1, Ti y39.1.2.1, Ti y39.1.2.2] wd27 rfl kk (Nat.le_of_ble_eq_true rfl) kk)) ?_
           refine zF _ rfl rfl kk hc40 (zD rfl (zFH (cs := [Ti y32.1.1, Ti y32.1.2.1, Ti y32.1.2.2]) [Ti y32.1.1, Ti y32.1.2.1, Ti y32.1.2.2] wd27 rfl kk (Nat.le_of_ble_eq_true rfl) kk)) ?_
           refine zF _ rfl rfl kk hc40 (zD rfl (Y0_neg3 (a0 := y39.1.1) (b0 := y32.1.1) (a1 := y39.1.2.1) (b1 := y32.1.2.1) (a2 := y39.1.2.2) (b2 := y32.1.2.2) neg27 rfl kk kk)) ?_
           refine zE rfl (zD rfl (zBZ (b := !y39.2) (p := true) (q := !((y39.1.1 == y32.1.1) && ((y39.1.2.1 == y32.1.2.1) && (y39.1.2.2 == y32.1.2.2)))) rfl kk hc40 kk)) ?_
           refine zH ?_
           subst ht41
           kernel_rfl
         refine qX rfl (fun hc42 => ?_) (fun hc42 => ?_)
         ·have h := zT h hc42
          refine V_e (mb 173 16) [] (s1 := ⟨bt 4 (Bo false :: bt 168 []), []⟩) ?_
          refine zM ?_
          obtain rfl := zB h
          have h := hko35
          obtain rfl := zB h
          show Post _ _ _ _ _
          exact ⟨.inr rfl, rfl, rfl, rfl⟩
         ·have h := zJ h hc42
          refine zK ?_
          show V _ _ _ _
          obtain ⟨t43, ht43, h⟩ := zR h
          refine qS (mb 173 39962935395766876669632007144585863818758848576) [184, 328] (s1 := ⟨bt 6 (I y5.2 :: bt 16 (.pt 184 0 :: .bot :: Bo y32.2.2 :: bt 126 (.ow 328 :: I ((y6.1.length : Int)) :: I t43 :: bt 18 []))), [(184, .box [Ti y32.1.1, Ti y32.1.2.1, Ti y32.1.2.2]), (328, .arr 27 3 (y6.1.map c27))]⟩) ?_ ?_
          ·refine XR 2 ?_
           refine zH ?_
           subst ht43
           kernel_rfl
          exact ⟨n, Nat.lt_succ_self n, _,  by rfl, h⟩
        ·have h := zJ h hc36
         refine qO ?_
         obtain rfl := zB h
         exact ⟨_, rfl, by rfl⟩
      rintro o35 rfl
      have h := hko35
      clear hko35
      show V _ _ _ _
      refine V_e (mb 173 16) [] (s1 := ⟨bt 4 (Bo y32.2.2 :: bt 168 []), []⟩) ?_
      refine zM ?_
      obtain rfl := zB h
      show Post _ _ _ _ _
      exact ⟨.inr rfl, rfl, rfl, rfl⟩
end Go.Proofs.YtnheekadeflecaaGreat
namespace Go.Proofs.YtnheekadeflecaaGreat
theorem dsc_value : zBH = zAl := rfl
theorem dsc_polar : zCh = zAe := rfl
theorem dsc_act : zCZ = zQ := rfl
theorem dsc_mul : jB = qB := rfl
theorem dsc_inv : zA3 = q9 := rfl
theorem dsc_is (f : Int × Int × Int) : zCn f = jA f := by
 simp only [zCn, jA, qL, Option.bind_some]
theorem zIZ (a m : Int) : zBE a m = zB2 a m := by
 simp only [zBE, zB2, qM]
theorem dsc_floor (a m : Int) : ((zBE a m).bind fun y2 => (nz m).bind fun _ => sI (w64 (Int.tdiv (w64 (a - y2)) m)) fun t4 => some t4) = zAn a m := by
 simp only [zAn, zIZ]
theorem dsc_normal (f : Int × Int × Int) : zEC f = zAn (w64 (f.1 - f.2.1)) (w64 (2 * f.1)) := dsc_floor _ _
theorem tmod_neg {a m : Int} (hm : 1 ≤ m) (h : a.tmod m < 0) : a.tmod m + m = a % m := by
 have e := Int.tmod_eq_emod (a := a) (b := m)
 have h1 := Int.emod_nonneg a (b := m) (by omega)
 have h2 := Int.emod_lt_of_pos a (b := m) (by omega)
 split at e <;> omega
theorem tmod_pos {a m : Int} (hm : 1 ≤ m) (h : 0 ≤ a.tmod m) : a.tmod m = a % m := by
 have e := Int.tmod_eq_emod (a := a) (b := m)
 have h1 := Int.emod_nonneg a (b := m) (by omega)
 have h2 := Int.emod_lt_of_pos a (b := m) (by omega)
 split at e <;> omega
theorem zD7 {a m : Int} (h1 : 1 ≤ m) (h2 : m ≤ 9223372036854775807) : zB2 a m = some (a % m) := by
 have h3 := Int.emod_nonneg a (b := m) (by omega)
 have h4 := Int.emod_lt_of_pos a (b := m) (by omega)
 have hz : nz m = some () := by
  unfold nz
  rw [zDO]
  have : (m == 0) = false := by rw [beq_eq_false_iff_ne]; omega
  rw [this]
  rfl
 simp only [zB2, hz, Option.bind_some, qM, jN]
 by_cases h : a.tmod m < 0
 ·rw [decide_eq_true h, cond_true, tmod_neg h1 h, zW (by omega)]
 ·rw [decide_eq_false h, cond_false, tmod_pos h1 (by omega)]
theorem zEn {a m : Int} (h1 : 1 ≤ m) (h2 : m ≤ 4611686018427387904) (h3 : -4611686018427387904 ≤ a) (h4 : a ≤ 4611686018427387904) : zAn a m = some (a / m) := by
 have e1 := Int.emod_nonneg a (b := m) (by omega)
 have e2 := Int.emod_lt_of_pos a (b := m) (by omega)
 have hz : nz m = some () := by
  unfold nz
  rw [zDO]
  have : (m == 0) = false := by rw [beq_eq_false_iff_ne]; omega
  rw [this]
  rfl
 have e3 : a - a % m = m * (a / m) := by have := Int.emod_add_mul_ediv a m; omega
 have e4 : Int.tdiv (a - a % m) m = a / m := by rw [e3]; exact Int.mul_tdiv_cancel_left _ (by omega)
 have e5 : a / m ≤ 4611686018427387904 ∧ -4611686018427387904 ≤ a / m := by
  constructor
  ·rcases Int.lt_or_le a 0 with h | h
   ·have := Int.ediv_neg_of_neg_of_pos h (show 0 < m by omega); omega
   ·have := Int.ediv_le_self m h; omega
  ·have := Int.le_ediv_of_mul_le (c := m) (a := -4611686018427387904) (b := a) (by omega) (by
    have : -4611686018427387904 * m ≤ -4611686018427387904 := by omega
    omega)
   omega
 simp only [zAn, zD7 h1 (by omega), hz, Option.bind_some, qM]
 rw [zW (n := a - a % m) (by omega), e4, zW (by omega)]
theorem dsc_step {a b c : Int} (ha : 1 ≤ a) (haM : a ≤ 2000000) (hb1 : -2000000 ≤ b) (hb2 : b ≤ 2000000) (hr : jA (a, b, c) = some false) : zDH (a, b, c) = qW (a, b, c) := by
 have hf := zEn (a := a - b) (m := 2 * a) (by omega) (by omega) (by omega) (by omega)
 have hn : qL (a, b, c) = some (decide (-a < b ∧ b ≤ a)) := by
  simp only [qL, Option.bind_some, jN, zAN]
  rw [zW (by omega)]
  by_cases h1 : -a < b <;> by_cases h2 : b ≤ a <;> simp [h1, h2]
  all_goals omega
 have hq : (a - b) / (2 * a) = 0 ↔ (-a < b ∧ b ≤ a) := by
  constructor
  ·intro h
   have h1 := Int.emod_add_mul_ediv (a - b) (2 * a)
   have h2 := Int.emod_nonneg (a - b) (b := 2 * a) (by omega)
   have h3 := Int.emod_lt_of_pos (a - b) (b := 2 * a) (by omega)
   rw [h] at h1
   omega
  ·rintro ⟨h1, h2⟩
   exact Int.ediv_eq_zero_of_lt (by omega) (by omega)
 simp only [zDH, qW, dsc_normal, dsc_is, hr, Option.bind_some, hn]
 rw [zW (n := a - b) (by omega), zW (n := 2 * a) (by omega), hf]
 simp only [Option.bind_some, cond_false, zDO]
 by_cases h : (a - b) / (2 * a) = 0
 ·have h2 := hq.1 h
  simp [h, h2]
 ·have h2 : ¬ (-a < b ∧ b ≤ a) := fun x => h (hq.2 x)
  have h3 : ((a - b) / (2 * a) == 0) = false := by rw [beq_eq_false_iff_ne]; exact h
  simp [h3, h2]
theorem jQ {n : Int} (h : n.natAbs ≤ 9223372036854775807) : w64 n = n := zW (by omega)
theorem qG {x y : Int} {A B : Nat} (hx : x.natAbs ≤ A) (hy : y.natAbs ≤ B) : (x * y).natAbs ≤ A * B := by
 rw [Int.natAbs_mul]; exact Nat.mul_le_mul hx hy
theorem zI0 {a b c : Int} (ha : a.natAbs ≤ 2000000) (hb : b.natAbs ≤ 2000000) (hc : c.natAbs ≤ 2000000) : zQ (a, b, c) (0, -1, 1, 0) = some (c, -b, a) := by
 simp only [zQ, zAl, zAe, qM, Option.bind_some, Int.mul_zero, Int.zero_mul, Int.mul_one, Int.add_zero, Int.zero_add, Int.one_mul]
 rw [show w64 0 = 0 from rfl]
 simp only [Int.mul_zero, Int.zero_mul, Int.mul_one, Int.add_zero, Int.zero_add, Int.one_mul]
 rw [show w64 0 = 0 from rfl]
 simp only [Int.mul_zero, Int.zero_mul, Int.mul_one, Int.add_zero, Int.zero_add, Int.one_mul, Int.mul_neg, Int.neg_mul, Int.neg_neg]
 have e1 : w64 c = c := jQ (by omega)
 have e2 : w64 (-1) = -1 := rfl
 have e3 : w64 a = a := jQ (by omega)
 have e4 : w64 (-a) = -a := jQ (by omega)
 have e5 : w64 (-b) = -b := jQ (by omega)
 simp only [e1, e2, e3, e4, e5, Int.mul_neg, Int.neg_mul, Int.neg_neg, Int.mul_one, Int.one_mul, Int.add_zero, Int.zero_add, show w64 0 = 0 from rfl]
theorem zGL {a b c s : Int} (ha : a.natAbs ≤ 2000000) (hb : b.natAbs ≤ 2000000) (hc : c.natAbs ≤ 2000000) (hs : s.natAbs ≤ 2000000) : zQ (a, b, c) (1, s, 0, 1) = some (a, 2 * a * s + b, a * s * s + b * s + c) := by
 have m1 := qG ha hs
 have m2 := qG hb hs
 have m3 := qG m1 hs
 have m4 : (2 * a * s).natAbs ≤ 2 * 2000000 * 2000000 := qG (qG (x := 2) (A := 2) (by decide) ha) hs
 simp only [zQ, zAl, zAe, qM, Option.bind_some, Int.mul_zero, Int.zero_mul, Int.mul_one, Int.add_zero, Int.zero_add, Int.one_mul]
 have z : w64 0 = 0 := rfl
 have o : w64 1 = 1 := rfl
 have e1 : w64 c = c := jQ (by omega)
 have e3 : w64 a = a := jQ (by omega)
 have e4 : w64 b = b := jQ (by omega)
 have e5 : w64 (2 * a) = 2 * a := jQ (by omega)
 have e6 : w64 (2 * a * s) = 2 * a * s := jQ (by omega)
 have e7 : w64 (a * s) = a * s := jQ (by omega)
 have e8 : w64 (a * s * s) = a * s * s := jQ (by omega)
 have e9 : w64 (b * s) = b * s := jQ (by omega)
 have e10 : w64 (a * s * s + b * s) = a * s * s + b * s := jQ (by omega)
 have e11 : w64 (a * s * s + b * s + c) = a * s * s + b * s + c := jQ (by omega)
 have e12 : w64 (2 * a * s + b) = 2 * a * s + b := jQ (by omega)
 simp only [z, o, e1, e3, e4, e5, e6, e7, e8, e9, e10, e11, e12, Int.mul_one, Int.one_mul, Int.add_zero, Int.zero_add, Int.mul_zero, Int.zero_mul]
end Go.Proofs.YtnheekadeflecaaGreat
