/-
  The functions of the program compute what the plain functions say: more of them.
  Conditions: none.
-/
import Derived.Test.YtafomkclmkfjeaaGreatDsSnd2
namespace Go.Proofs.YtafomkclmkfjeaaGreat
open Go.RowKit
set_option linter.unusedVariables false
set_option linter.unusedSimpArgs false
set_option maxRecDepth 100000
set_option maxHeartbeats 400000
theorem cf_spec_nuBezout : ∀ args w, (callFunc 222 args).run Tryz.prog w = .ok (.enter 222 args) w := run_callFunc Tryz.func222 (by kernel_rfl) (by kernel_rfl)
theorem s_spec_nuBezout {a1 : Int} {b2 : Int} {r : (Int × Int × Int)} (h : r_spec_nuBezout a1 b2 = some r) : CallS Tryz.prog 222 [I a1, I b2] (.tc (I r.1) (.tc (I r.2.1) (.tc (I r.2.2) .tn))) [] := by
  refine CallS_of_text (rs := [.t 4, .t 5, .t 6]) (vs := [.tmp 4, .tmp 5, .tmp 6]) Tryz.func222 rfl rfl (.cons rfl (.cons rfl (.cons rfl FitsL.nil))) (by decide) 34 rfl ?_
  unfold r_spec_nuBezout at h
  show V _ _ ⟨I a1 :: I b2 :: bt 32 [], []⟩ _
  refine V_e (mb 34 3) [] (s1 := ⟨I a1 :: I b2 :: bt 32 [], []⟩) ?_
  obtain ⟨y3, hy3, h⟩ := of_bind h
  refine V_sreg (mb 34 131) [] (s1 := ⟨I a1 :: I b2 :: bt 5 (I y3 :: bt 26 []), []⟩) ?_ ?_
  ·refine XR 2 ?_
   refine XC (s_spec_nuGcd hy3) cf_spec_nuGcd rfl rfl rfl ?_
   exact XE
  refine V_seq ?_
  refine V_e (mb 34 8323) [] (s1 := ⟨I a1 :: I b2 :: bt 5 (I y3 :: bt 5 (Bo (eqI b2 0) :: bt 20 [])), []⟩) ?_
  refine V_cond rfl (fun hc4 => ?_) (fun hc4 => ?_)
  ·have h := of_true h hc4
   obtain ⟨y5, hy5, h⟩ := of_bind h
   refine V_sreg (mb 34 112) [] (s1 := ⟨bt 4 (I y3 :: I y5 :: I 0 :: bt 27 []), []⟩) ?_ ?_
   ·refine XR 2 ?_
    refine XC (s_spec_l1Sign hy5) cf_spec_l1Sign rfl rfl rfl ?_
    exact XE
   refine V_ret ?_
   obtain rfl := some_inj h
   show Post _ _ _ _ _
   exact ⟨.inr rfl, rfl, rfl, rfl⟩
  ·have h := of_false h hc4
   refine V_skip ?_
   show V _ _ _ _
   obtain ⟨z6, hz6, h⟩ := of_bind h
   obtain ⟨y7, hy7, h⟩ := of_bind h
   obtain ⟨z8, hz8, h⟩ := of_bind h
   obtain ⟨y9, hy9, h⟩ := of_bind h
   refine V_sdreg [0, 0, 3, 0, 8, 0, 56, 127, 255] 9 (cdm 9 [10888, 10882, 10885, 2090, 2154, 682, 1386, 5461, 21845]) (mb 34 387) [] (s1 := ⟨I a1 :: I b2 :: bt 5 (I y3 :: I y9 :: bt 25 []), []⟩) (by kernel_rfl) (by kernel_rfl) ?_ ?_
   ·refine DR 2 ?_
    refine DE_0 2 (I (w64 (Int.tdiv a1 y3))) (by kernel_rfl) rfl rfl rfl (gsat_none rfl) (by kernel_rfl) (Y0_quo64 (a := a1) (b := y3) rfl (by kernel_rfl) (by kernel_rfl) (nz_some hz6)) 19 rfl ?_
    refine DR 1 ?_
    refine DC 4 (s_spec_l1Abs hy7) cf_spec_l1Abs rfl rfl rfl rfl 21 rfl ?_
    refine DR 1 ?_
    refine DE_0 6 (I (w64 (Int.tdiv y7 y3))) (by kernel_rfl) rfl rfl rfl (gsat_none rfl) (by kernel_rfl) (Y0_quo64 (a := y7) (b := y3) rfl (by kernel_rfl) (by kernel_rfl) (nz_some hz8)) 23 rfl ?_
    refine DC 7 (s_spec_nuInverse hy9) cf_spec_nuInverse rfl rfl rfl rfl 24 rfl ?_
    refine DA 1 ?_
    exact XE
   obtain ⟨z10, hz10, h⟩ := of_bind h
   obtain ⟨t11, ht11, h⟩ := of_sI h
   refine V_sdreg [0, 0, 0, 0, 0, 24, 60, 0, 252, 1, 515, 2047] 12 (cdm 12 [174760, 699042, 2656906, 2654762, 2654378, 2654570, 2655578, 2632362, 2643290, 174761, 436901, 1398101]) (mb 34 112) [] (s1 := ⟨bt 4 (I y3 :: I y9 :: I t11 :: bt 27 []), []⟩) (by kernel_rfl) (by kernel_rfl) ?_ ?_
   ·refine DR 8 ?_
    refine DE_0 8 (I (w64 (Int.tdiv (w64 (y3 - (w64 (a1 * y9)))) b2))) (by kernel_rfl) rfl rfl rfl (gsat_none rfl) (by kernel_rfl) (Y0_quo64 (a := w64 (y3 - (w64 (a1 * y9)))) (b := b2) rfl (by kernel_rfl) (by kernel_rfl) (nz_some hz10)) 33 rfl ?_
    refine DA 3 ?_
    refine XL_nil ?_
    subst ht11
    kernel_rfl
   refine V_ret ?_
   obtain rfl := some_inj h
   show Post _ _ _ _ _
   exact ⟨.inr rfl, rfl, rfl, rfl⟩
theorem cf_spec_vaComplete : ∀ args w, (callFunc 162 args).run Tryz.prog w = .ok (.enter 162 args) w := run_callFunc Tryz.func162 (by kernel_rfl) (by kernel_rfl)
theorem s_spec_vaComplete {f1 : (Int × Int × Int)} {x2 : Int} {y3 : Int} {r : (((Int × Int × Int)) × ((Int × Int × Int × Int)))} (h : r_spec_vaComplete f1 x2 y3 = some r) : CallS Tryz.prog 162 [.ag [Ti f1.1, Ti f1.2.1, Ti f1.2.2], I x2, I y3] (.tc (.ag [Ti r.1.1, Ti r.1.2.1, Ti r.1.2.2]) (.tc (.ag [Ti r.2.1, Ti r.2.2.1, Ti r.2.2.2.1, Ti r.2.2.2.2]) .tn)) [] := by
  refine CallS_of_text (rs := [.w 6 3, .w 7 4]) (vs := [.cell 6 25, .cell 7 31]) Tryz.func162 rfl rfl (.cons ⟨rfl, wd25⟩ (.cons ⟨rfl, wd31⟩ FitsL.nil)) (by decide) 76 rfl ?_
  unfold r_spec_vaComplete at h
  show V _ _ ⟨.ag [Ti f1.1, Ti f1.2.1, Ti f1.2.2] :: I x2 :: I y3 :: bt 73 [], []⟩ _
  refine V_e (mb 76 206) [56, 48, 24] (s1 := ⟨.bot :: I x2 :: I y3 :: .pt 24 0 :: .bot :: .bot :: .pt 48 0 :: .pt 56 0 :: bt 68 [], [(56, .box [Ti 0, Ti 0, Ti 0, Ti 0]), (48, .box [Ti 0, Ti 0, Ti 0]), (24, .box [Ti f1.1, Ti f1.2.1, Ti f1.2.2])]⟩) ?_
  obtain ⟨y4, hy4, h⟩ := of_bind h
  refine V_sreg (mb 76 1742) [56, 48, 24] (s1 := ⟨.bot :: I x2 :: I y3 :: .pt 24 0 :: .bot :: .bot :: .pt 48 0 :: .pt 56 0 :: .bot :: I y4.2.1 :: I y4.2.2 :: bt 65 [], [(56, .box [Ti 0, Ti 0, Ti 0, Ti 0]), (48, .box [Ti 0, Ti 0, Ti 0]), (24, .box [Ti f1.1, Ti f1.2.1, Ti f1.2.2])]⟩) ?_ ?_
  ·refine XR 2 ?_
   refine XC (s_spec_nuBezout hy4) cf_spec_nuBezout rfl rfl rfl ?_
   exact XE
  obtain ⟨y5, hy5, h⟩ := of_bind h
  obtain ⟨q6, hq6, h⟩ := of_sI h
  refine V_sreg (mb 76 6862) [56, 48, 24] (s1 := ⟨.bot :: I x2 :: I y3 :: .pt 24 0 :: .bot :: .bot :: .pt 48 0 :: .pt 56 0 :: .bot :: I y4.2.1 :: .bot :: I q6 :: I y5 :: bt 63 [], [(56, .box [Ti 0, Ti 0, Ti 0, Ti 0]), (48, .box [Ti 0, Ti 0, Ti 0]), (24, .box [Ti f1.1, Ti f1.2.1, Ti f1.2.2])]⟩) ?_ ?_
  ·refine XR 5 ?_
   refine XC (s_spec_foValue hy5) cf_spec_foValue rfl rfl rfl ?_
   refine XR 2 ?_
   refine XL_nil ?_
   subst hq6
   kernel_rfl
  obtain ⟨y7, hy7, h⟩ := of_bind h
  refine V_sreg (mb 76 15054) [56, 48, 24] (s1 := ⟨.bot :: I x2 :: I y3 :: .pt 24 0 :: .bot :: .bot :: .pt 48 0 :: .pt 56 0 :: .bot :: I y4.2.1 :: .bot :: I q6 :: I y5 :: I y7 :: bt 62 [], [(56, .box [Ti 0, Ti 0, Ti 0, Ti 0]), (48, .box [Ti 0, Ti 0, Ti 0]), (24, .box [Ti f1.1, Ti f1.2.1, Ti f1.2.2])]⟩) ?_ ?_
  ·refine XR 5 ?_
   refine XC (s_spec_foPolar hy7) cf_spec_foPolar rfl rfl rfl ?_
   exact XE
  obtain ⟨y8, hy8, h⟩ := of_bind h
  obtain ⟨z9, hz9, h⟩ := of_bind h
  obtain ⟨t10, ht10, h⟩ := of_sI h
  refine V_sreg (mb 76 31438) [56, 48, 24] (s1 := ⟨.bot :: I x2 :: I y3 :: .pt 24 0 :: .bot :: .bot :: .pt 48 0 :: .pt 56 0 :: .bot :: I y4.2.1 :: .bot :: I q6 :: I y5 :: I y7 :: I t10 :: bt 61 [], [(56, .box [Ti 0, Ti 0, Ti 0, Ti 0]), (48, .box [Ti 0, Ti 0, Ti 0]), (24, .box [Ti f1.1, Ti f1.2.1, Ti f1.2.2])]⟩) ?_ ?_
  ·refine XR 3 ?_
   refine XC (s_spec_nuMod hy8) cf_spec_nuMod rfl rfl rfl ?_
   refine XR 4 ?_
   refine L0 rfl rfl (Y0_quo64 (a := w64 (y8 - y7)) (b := w64 (2 * y5)) rfl (by kernel_rfl) (by kernel_rfl) (nz_some hz9)) ?_
   refine XR 1 ?_
   refine XL_nil ?_
   subst ht10
   kernel_rfl
  obtain ⟨f11, hf11, h⟩ := of_sI h
  obtain ⟨f12, hf12, h⟩ := of_sI h
  refine V_sreg (mb 76 61640) [120, 56, 48, 24] (s1 := ⟨bt 3 (.pt 24 0 :: .bot :: .bot :: .pt 48 0 :: .pt 56 0 :: bt 4 (I y5 :: I y7 :: I t10 :: .pt 120 0 :: bt 60 [])), [(120, .box [Ti x2, Ti f11, Ti y3, Ti f12]), (56, .box [Ti 0, Ti 0, Ti 0, Ti 0]), (48, .box [Ti 0, Ti 0, Ti 0]), (24, .box [Ti f1.1, Ti f1.2.1, Ti f1.2.2])]⟩) ?_ ?_
  ·refine XR 12 ?_
   refine L0 rfl rfl (Y0_build (cs := [Ti x2, Ti (w64 (q6 + (w64 (x2 * t10)))), Ti y3, Ti (w64 (y4.2.1 + (w64 (y3 * t10))))]) pl31 bt31 rfl rfl (by kernel_rfl)) ?_
   refine XR 2 ?_
   refine XL_nil ?_
   subst hf11 hf12
   kernel_rfl
  obtain ⟨b13, hb13, h⟩ := of_sI h
  refine V_sreg (mb 76 45256) [120, 56, 48, 24] (s1 := ⟨bt 3 (.pt 24 0 :: .bot :: .bot :: .pt 48 0 :: .pt 56 0 :: bt 4 (I y5 :: I b13 :: .bot :: .pt 120 0 :: bt 60 [])), [(120, .box [Ti x2, Ti f11, Ti y3, Ti f12]), (56, .box [Ti 0, Ti 0, Ti 0, Ti 0]), (48, .box [Ti 0, Ti 0, Ti 0]), (24, .box [Ti f1.1, Ti f1.2.1, Ti f1.2.2])]⟩) ?_ ?_
  ·refine XR 7 ?_
   refine XL_nil ?_
   subst hb13
   kernel_rfl
  obtain ⟨y14, hy14, h⟩ := of_bind h
  obtain ⟨z15, hz15, h⟩ := of_bind h
  obtain ⟨f16, hf16, h⟩ := of_sI h
  refine V_sdreg [0, 0, 0, 0, 12, 0, 32, 124, 0, 256, 1020, 2047, 0, 4095, 16383] 14 [[.z, .b, .b, .b, .b, .b, .b, .b, .b, .b, .b, .z, .b, .z], [.b, .z, .b, .b, .b, .b, .b, .b, .b, .b, .b, .z, .b, .z], [.b, .b, .z, .b, .z, .b, .b, .z, .b, .b, .z, .z, .b, .z], [.b, .b, .b, .z, .z, .b, .b, .z, .b, .b, .z, .z, .b, .z], [.b, .b, .a, .a, .z, .b, .b, .z, .b, .b, .z, .z, .b, .z], [.b, .b, .b, .b, .b, .z, .z, .z, .b, .b, .z, .z, .b, .z], [.b, .b, .b, .b, .b, .a, .z, .z, .b, .b, .z, .z, .b, .z], [.b, .b, .a, .a, .a, .a, .a, .z, .b, .b, .z, .z, .b, .z], [.b, .b, .b, .b, .b, .b, .b, .b, .z, .z, .z, .z, .b, .z], [.b, .b, .b, .b, .b, .b, .b, .b, .a, .z, .z, .z, .b, .z], [.b, .b, .a, .a, .a, .a, .a, .a, .a, .a, .z, .z, .b, .z], [.a, .a, .a, .a, .a, .a, .a, .a, .a, .a, .a, .z, .b, .z], [.b, .b, .b, .b, .b, .b, .b, .b, .b, .b, .b, .b, .z, .r 48], [.a, .a, .a, .a, .a, .a, .a, .a, .a, .a, .a, .a, .b, .z]] (mb 76 192) [56, 48] (s1 := ⟨bt 6 (.pt 48 0 :: .pt 56 0 :: bt 68 []), [(56, .box [Ti x2, Ti f11, Ti y3, Ti f12]), (48, .box [Ti y5, Ti b13, Ti f16])]⟩) (by kernel_rfl) (by kernel_rfl) ?_ ?_
  ·refine DR 6 ?_
   refine DC 6 (s_spec_foDisc hy14) cf_spec_foDisc rfl rfl rfl rfl 69 rfl ?_
   refine DR 3 ?_
   refine DE_0 10 (I (w64 (Int.tdiv (w64 ((w64 (b13 * b13)) - y14)) (w64 (4 * y5))))) (by kernel_rfl) rfl rfl rfl (gsat_none rfl) (by kernel_rfl) (Y0_quo64 (a := w64 ((w64 (b13 * b13)) - y14)) (b := w64 (4 * y5)) rfl (by kernel_rfl) (by kernel_rfl) (nz_some hz15)) 73 rfl ?_
   refine DE_0 11 (.ag [Ti y5, Ti b13, Ti (w64 (Int.tdiv (w64 ((w64 (b13 * b13)) - y14)) (w64 (4 * y5))))]) (by kernel_rfl) rfl rfl rfl (gsat_none rfl) (by kernel_rfl) (Y0_build (cs := [Ti y5, Ti b13, Ti (w64 (Int.tdiv (w64 ((w64 (b13 * b13)) - y14)) (w64 (4 * y5))))]) pl25 bt25 rfl rfl (by kernel_rfl)) 74 rfl ?_
   refine DA 2 ?_
   refine XR 1 ?_
   refine XL_nil ?_
   subst hf16
   kernel_rfl
  refine V_ret ?_
  obtain rfl := some_inj h
  show Post _ _ _ _ _
  exact ⟨.inr rfl, rfl, rfl, rfl⟩
theorem cf_spec_coShift : ∀ args w, (callFunc 165 args).run Tryz.prog w = .ok (.enter 165 args) w := run_callFunc Tryz.func165 (by kernel_rfl) (by kernel_rfl)
theorem s_spec_coShift {t1 : Int} {r : (Int × Int × Int × Int)} (h : r_spec_coShift t1 = some r) : CallS Tryz.prog 165 [I t1] (.ag [Ti r.1, Ti r.2.1, Ti r.2.2.1, Ti r.2.2.2]) [] := by
  refine CallS_of_text (rs := [.w 2 4]) (vs := [.cell 2 31]) Tryz.func165 rfl rfl (.cons ⟨rfl, wd31⟩ FitsL.nil) (by decide) 5 rfl ?_
  unfold r_spec_coShift at h
  show V _ _ ⟨I t1 :: bt 4 [], []⟩ _
  refine V_e (mb 5 5) [16] (s1 := ⟨I t1 :: .bot :: .pt 16 0 :: .bot :: .bot :: [], [(16, .box [Ti 0, Ti 0, Ti 0, Ti 0])]⟩) ?_
  refine V_sreg (mb 5 4) [16] (s1 := ⟨.bot :: .bot :: .pt 16 0 :: .bot :: .bot :: [], [(16, .box [Ti 1, Ti t1, Ti 0, Ti 1])]⟩) ?_ ?_
  ·refine XR 1 ?_
   refine L0 rfl rfl (Y0_build (cs := [Ti 1, Ti t1, Ti 0, Ti 1]) pl31 bt31 rfl rfl (by kernel_rfl)) ?_
   exact XE
  refine V_ret ?_
  obtain rfl := some_inj h
  show Post _ _ _ _ _
  exact ⟨.inr rfl, rfl, rfl, rfl⟩
theorem cf_spec_foDet : ∀ args w, (callFunc 224 args).run Tryz.prog w = .ok (.enter 224 args) w := run_callFunc Tryz.func224 (by kernel_rfl) (by kernel_rfl)
theorem s_spec_foDet {vm1 : (Int × Int × Int × Int)} {r : Int} (h : r_spec_foDet vm1 = some r) : CallS Tryz.prog 224 [.ag [Ti vm1.1, Ti vm1.2.1, Ti vm1.2.2.1, Ti vm1.2.2.2]] (I r) [] := by
  refine CallS_of_text (rs := [.t 2]) (vs := [.tmp 2]) Tryz.func224 rfl rfl (.cons rfl FitsL.nil) (by decide) 14 rfl ?_
  unfold r_spec_foDet at h
  show V _ _ ⟨.ag [Ti vm1.1, Ti vm1.2.1, Ti vm1.2.2.1, Ti vm1.2.2.2] :: bt 13 [], []⟩ _
  refine V_e (mb 14 2) [8] (s1 := ⟨.bot :: .pt 8 0 :: bt 12 [], [(8, .box [Ti vm1.1, Ti vm1.2.1, Ti vm1.2.2.1, Ti vm1.2.2.2])]⟩) ?_
  obtain ⟨t2, ht2, h⟩ := of_sI h
  refine V_sreg (mb 14 4) [] (s1 := ⟨.bot :: .bot :: I t2 :: bt 11 [], []⟩) ?_ ?_
  ·refine XR 12 ?_
   refine XL_nil ?_
   subst ht2
   kernel_rfl
  refine V_ret ?_
  obtain rfl := some_inj h
  show Post _ _ _ _ _
  exact ⟨.inr rfl, rfl, rfl, rfl⟩
theorem cf_spec_foInverse : ∀ args w, (callFunc 166 args).run Tryz.prog w = .ok (.enter 166 args) w := run_callFunc Tryz.func166 (by kernel_rfl) (by kernel_rfl)
theorem s_spec_foInverse {vm1 : (Int × Int × Int × Int)} {r : (Int × Int × Int × Int)} (h : r_spec_foInverse vm1 = some r) : CallS Tryz.prog 166 [.ag [Ti vm1.1, Ti vm1.2.1, Ti vm1.2.2.1, Ti vm1.2.2.2]] (.ag [Ti r.1, Ti r.2.1, Ti r.2.2.1, Ti r.2.2.2]) [] := by
  refine CallS_of_text (rs := [.w 2 4]) (vs := [.cell 2 31]) Tryz.func166 rfl rfl (.cons ⟨rfl, wd31⟩ FitsL.nil) (by decide) 25 rfl ?_
  unfold r_spec_foInverse at h
  show V _ _ ⟨.ag [Ti vm1.1, Ti vm1.2.1, Ti vm1.2.2.1, Ti vm1.2.2.2] :: bt 24 [], []⟩ _
  refine V_e (mb 25 6) [16, 8] (s1 := ⟨.bot :: .pt 8 0 :: .pt 16 0 :: bt 22 [], [(16, .box [Ti 0, Ti 0, Ti 0, Ti 0]), (8, .box [Ti vm1.1, Ti vm1.2.1, Ti vm1.2.2.1, Ti vm1.2.2.2])]⟩) ?_
  obtain ⟨y2, hy2, h⟩ := of_bind h
  refine V_sreg (mb 25 14) [16, 8] (s1 := ⟨.bot :: .pt 8 0 :: .pt 16 0 :: I y2 :: bt 21 [], [(16, .box [Ti 0, Ti 0, Ti 0, Ti 0]), (8, .box [Ti vm1.1, Ti vm1.2.1, Ti vm1.2.2.1, Ti vm1.2.2.2])]⟩) ?_ ?_
  ·refine XR 1 ?_
   refine XC (s_spec_foDet hy2) cf_spec_foDet rfl rfl rfl ?_
   exact XE
  obtain ⟨f3, hf3, h⟩ := of_sI h
  obtain ⟨f4, hf4, h⟩ := of_sI h
  obtain ⟨f5, hf5, h⟩ := of_sI h
  obtain ⟨f6, hf6, h⟩ := of_sI h
  refine V_sreg (mb 25 4) [16] (s1 := ⟨.bot :: .bot :: .pt 16 0 :: bt 22 [], [(16, .box [Ti f3, Ti f4, Ti f5, Ti f6])]⟩) ?_ ?_
  ·refine XR 18 ?_
   refine L0 rfl rfl (Y0_build (cs := [Ti (w64 (y2 * vm1.2.2.2)), Ti (w64 ((w64 (0 - y2)) * vm1.2.1)), Ti (w64 ((w64 (0 - y2)) * vm1.2.2.1)), Ti (w64 (y2 * vm1.1))]) pl31 bt31 rfl rfl (by kernel_rfl)) ?_
   refine XR 1 ?_
   refine XL_nil ?_
   subst hf3 hf4 hf5 hf6
   kernel_rfl
  refine V_ret ?_
  obtain rfl := some_inj h
  show Post _ _ _ _ _
  exact ⟨.inr rfl, rfl, rfl, rfl⟩
theorem cf_spec_odDescend : ∀ args w, (callFunc 71 args).run Tryz.prog w = .ok (.enter 71 args) w := run_callFunc Tryz.func71 (by kernel_rfl) (by kernel_rfl)
theorem s_spec_odDescend {f1 : (Int × Int × Int)} {p2 : Int} {r : (((Int × Int × Int)) × ((Int × Int × Int × Int)))} (h : r_spec_odDescend f1 p2 = some r) : CallS Tryz.prog 71 [.ag [Ti f1.1, Ti f1.2.1, Ti f1.2.2], I p2] (.tc (.ag [Ti r.1.1, Ti r.1.2.1, Ti r.1.2.2]) (.tc (.ag [Ti r.2.1, Ti r.2.2.1, Ti r.2.2.2.1, Ti r.2.2.2.2]) .tn)) [] := by
  refine CallS_of_text (rs := [.w 4 3, .w 5 4]) (vs := [.cell 4 25, .cell 5 31]) Tryz.func71 rfl rfl (.cons ⟨rfl, wd25⟩ (.cons ⟨rfl, wd31⟩ FitsL.nil)) (by decide) 92 rfl ?_
  unfold r_spec_odDescend at h
  show V _ _ ⟨.ag [Ti f1.1, Ti f1.2.1, Ti f1.2.2] :: I p2 :: bt 90 [], []⟩ _
  refine V_e (mb 92 54) [40, 32, 16] (s1 := ⟨.bot :: I p2 :: .pt 16 0 :: .bot :: .pt 32 0 :: .pt 40 0 :: bt 86 [], [(40, .box [Ti 0, Ti 0, Ti 0, Ti 0]), (32, .box [Ti 0, Ti 0, Ti 0]), (16, .box [Ti f1.1, Ti f1.2.1, Ti f1.2.2])]⟩) ?_
  obtain ⟨y3, hy3, h⟩ := of_bind h
  refine V_sreg (mb 92 242) [56, 48, 40, 32] (s1 := ⟨.bot :: I p2 :: .bot :: .bot :: .pt 32 0 :: .pt 40 0 :: .pt 48 0 :: .pt 56 0 :: bt 84 [], [(56, .box [Ti y3.2.1, Ti y3.2.2.1, Ti y3.2.2.2.1, Ti y3.2.2.2.2]), (48, .box [Ti y3.1.1, Ti y3.1.2.1, Ti y3.1.2.2]), (40, .box [Ti 0, Ti 0, Ti 0, Ti 0]), (32, .box [Ti 0, Ti 0, Ti 0])]⟩) ?_ ?_
  ·refine XR 1 ?_
   refine XC (s_spec_reReduce hy3) cf_spec_reReduce rfl rfl rfl ?_
   exact XE
  obtain ⟨y4, hy4, h⟩ := of_bind h
  refine V_sreg (mb 92 1010) [56, 48, 40, 32] (s1 := ⟨.bot :: I p2 :: .bot :: .bot :: .pt 32 0 :: .pt 40 0 :: .pt 48 0 :: .pt 56 0 :: I y4.1 :: I y4.2 :: bt 82 [], [(56, .box [Ti y3.2.1, Ti y3.2.2.1, Ti y3.2.2.2.1, Ti y3.2.2.2.2]), (48, .box [Ti y3.1.1, Ti y3.1.2.1, Ti y3.1.2.2]), (40, .box [Ti 0, Ti 0, Ti 0, Ti 0]), (32, .box [Ti 0, Ti 0, Ti 0])]⟩) ?_ ?_
  ·refine XR 2 ?_
   refine XC (s_spec_coPoint hy4) cf_spec_coPoint rfl rfl rfl ?_
   exact XE
  obtain ⟨y5, hy5, h⟩ := of_bind h
  refine V_sreg (mb 92 3250) [88, 80, 56, 40, 32] (s1 := ⟨.bot :: I p2 :: .bot :: .bot :: .pt 32 0 :: .pt 40 0 :: .bot :: .pt 56 0 :: .bot :: .bot :: .pt 80 0 :: .pt 88 0 :: bt 80 [], [(88, .box [Ti y5.2.1, Ti y5.2.2.1, Ti y5.2.2.2.1, Ti y5.2.2.2.2]), (80, .box [Ti y5.1.1, Ti y5.1.2.1, Ti y5.1.2.2]), (56, .box [Ti y3.2.1, Ti y3.2.2.1, Ti y3.2.2.2.1, Ti y3.2.2.2.2]), (40, .box [Ti 0, Ti 0, Ti 0, Ti 0]), (32, .box [Ti 0, Ti 0, Ti 0])]⟩) ?_ ?_
  ·refine XR 3 ?_
   refine XC (s_spec_vaComplete hy5) cf_spec_vaComplete rfl rfl rfl ?_
   exact XE
  obtain ⟨y6, hy6, h⟩ := of_bind h
  refine V_sreg (mb 92 1202) [80, 56, 40, 32] (s1 := ⟨.bot :: I p2 :: .bot :: .bot :: .pt 32 0 :: .pt 40 0 :: .bot :: .pt 56 0 :: .bot :: .bot :: .pt 80 0 :: bt 81 [], [(80, .box [Ti y5.1.1, Ti y5.1.2.1, Ti y5.1.2.2]), (56, .box [Ti y6.1, Ti y6.2.1, Ti y6.2.2.1, Ti y6.2.2.2]), (40, .box [Ti 0, Ti 0, Ti 0, Ti 0]), (32, .box [Ti 0, Ti 0, Ti 0])]⟩) ?_ ?_
  ·refine XR 2 ?_
   refine XC (s_spec_foMul hy6) cf_spec_foMul rfl rfl rfl ?_
   exact XE
  refine V_seq ?_
  refine V_e (mb 92 5298) [80, 56, 40, 32] (s1 := ⟨.bot :: I p2 :: .bot :: .bot :: .pt 32 0 :: .pt 40 0 :: .bot :: .pt 56 0 :: .bot :: .bot :: .pt 80 0 :: .bot :: I 0 :: bt 79 [], [(80, .box [Ti y5.1.1, Ti y5.1.2.1, Ti y5.1.2.2]), (56, .box [Ti y6.1, Ti y6.2.1, Ti y6.2.2.1, Ti y6.2.2.2]), (40, .box [Ti 0, Ti 0, Ti 0, Ti 0]), (32, .box [Ti 0, Ti 0, Ti 0])]⟩) ?_
  obtain ⟨qo9, hLo9, hko9⟩ := of_bind h
  refine V_toS (q := qo9) (S := fun o9 => ⟨bt 4 (.pt 32 0 :: .pt 40 0 :: bt 86 []), [(40, .box [Ti 0, Ti 0, Ti 0, Ti 0]), (32, .box [Ti 0, Ti 0, Ti 0])]⟩) (mb 92 48) [40, 32] ?_ ?_
  ·refine V_block (V_loop (fun n s => ∃ (t7 : Int), s.keep (mb 92 5298) [80, 56, 40, 32] = (⟨.bot :: I p2 :: .bot :: .bot :: .pt 32 0 :: .pt 40 0 :: .bot :: .pt 56 0 :: .bot :: .bot :: .pt 80 0 :: .bot :: I t7 :: bt 79 [], [(80, .box [Ti y5.1.1, Ti y5.1.2.1, Ti y5.1.2.2]), (56, .box [Ti y6.1, Ti y6.2.1, Ti y6.2.2.1, Ti y6.2.2.2]), (40, .box [Ti 0, Ti 0, Ti 0, Ti 0]), (32, .box [Ti 0, Ti 0, Ti 0])]⟩ : St) ∧ r_spec_odDescend_L8 p2 y5 y6 n t7 = some qo9) FU ⟨_,  by rfl, hLo9⟩ ?_)
   clear hLo9
   rintro n s ⟨t7, hs, h⟩
   refine V_keep _ _ hs ?_
   clear hs
   cases n with
   | zero => cases h
   | succ n =>
    rw [r_spec_odDescend_L8] at h
    refine V_seq ?_
    refine V_e (mb 92 549755819186) [80, 56, 40, 32] (s1 := ⟨.bot :: I p2 :: .bot :: .bot :: .pt 32 0 :: .pt 40 0 :: .bot :: .pt 56 0 :: .bot :: .bot :: .pt 80 0 :: .bot :: I t7 :: bt 26 (Bo (ltI t7 p2) :: bt 52 []), [(80, .box [Ti y5.1.1, Ti y5.1.2.1, Ti y5.1.2.2]), (56, .box [Ti y6.1, Ti y6.2.1, Ti y6.2.2.1, Ti y6.2.2.2]), (40, .box [Ti 0, Ti 0, Ti 0, Ti 0]), (32, .box [Ti 0, Ti 0, Ti 0])]⟩) ?_
    refine V_cond rfl (fun hc10 => ?_) (fun hc10 => ?_)
    ·have h := of_true h hc10
     refine V_skip ?_
     show V _ _ _ _
     refine V_seq ?_
     refine V_block ?_
     obtain ⟨y11, hy11, h⟩ := of_bind h
     obtain ⟨y12, hy12, h⟩ := of_bind h
     refine V_sdreg [0, 0, 2, 7, 0, 31] 5 (cdm 5 [552, 514, 518, 533, 170]) (mb 92 13490) [104, 80, 56, 40, 32] (s1 := ⟨.bot :: I p2 :: .bot :: .bot :: .pt 32 0 :: .pt 40 0 :: .bot :: .pt 56 0 :: .bot :: .bot :: .pt 80 0 :: .bot :: I t7 :: .pt 104 0 :: bt 78 [], [(104, .box [Ti y12.1, Ti y12.2.1, Ti y12.2.2]), (80, .box [Ti y5.1.1, Ti y5.1.2.1, Ti y5.1.2.2]), (56, .box [Ti y6.1, Ti y6.2.1, Ti y6.2.2.1, Ti y6.2.2.2]), (40, .box [Ti 0, Ti 0, Ti 0, Ti 0]), (32, .box [Ti 0, Ti 0, Ti 0])]⟩) (by kernel_rfl) (by kernel_rfl) ?_ ?_
     ·refine DR 2 ?_
      refine DC 2 (s_spec_coShift hy11) cf_spec_coShift rfl rfl rfl rfl 44 rfl ?_
      refine DC 3 (s_spec_foAct hy12) cf_spec_foAct rfl rfl rfl rfl 45 rfl ?_
      refine DA 1 ?_
      exact XE
     refine V_seq ?_
     obtain ⟨z13, hz13, h⟩ := of_bind h
     obtain ⟨b16, hb16, h⟩ := of_bind h
     refine V_sreg (mb 92 576460752303436978) [104, 80, 56, 40, 32] (s1 := ⟨.bot :: I p2 :: .bot :: .bot :: .pt 32 0 :: .pt 40 0 :: .bot :: .pt 56 0 :: .bot :: .bot :: .pt 80 0 :: .bot :: I t7 :: .pt 104 0 :: bt 45 (Bo b16 :: bt 32 []), [(104, .box [Ti y12.1, Ti y12.2.1, Ti y12.2.2]), (80, .box [Ti y5.1.1, Ti y5.1.2.1, Ti y5.1.2.2]), (56, .box [Ti y6.1, Ti y6.2.1, Ti y6.2.2.1, Ti y6.2.2.2]), (40, .box [Ti 0, Ti 0, Ti 0, Ti 0]), (32, .box [Ti 0, Ti 0, Ti 0])]⟩) ?_ ?_
     ·refine XR 3 ?_
      refine L0 rfl rfl (Y0_rem (k := .i64) (a := y12.2.1) (b := p2) rfl (by kernel_rfl) (by kernel_rfl) (nz_some hz13)) ?_
      refine XR 2 ?_
      refine XL_split (!eqI (Int.tmod y12.2.1 p2) 0) (fun hc14 => ?_) (fun hc14 => ?_)
      ·have hb16 := some_inj (of_true hb16 hc14)
       refine XL_skipF _ rfl rfl (by kernel_rfl) hc14 rfl ?_
       refine XL_skipF _ rfl rfl (by kernel_rfl) hc14 rfl ?_
       refine XL_skipF _ rfl rfl (by kernel_rfl) hc14 rfl ?_
       refine XL_skipF _ rfl rfl (by kernel_rfl) hc14 rfl ?_
       refine XL_skipF _ rfl rfl (by kernel_rfl) hc14 rfl ?_
       refine XL_skipF _ rfl rfl (by kernel_rfl) hc14 rfl ?_
       refine XL_skipF _ rfl rfl (by kernel_rfl) hc14 rfl ?_
       refine XL_cons rfl (X_of_Y0 rfl (Y0_pickTe (b := !eqI (Int.tmod y12.2.1 p2) 0) (p := true) rfl (by kernel_rfl) hc14 (by kernel_rfl) hb16)) ?_
       exact XE
      ·have hb16 := of_false hb16 hc14
       obtain ⟨z15, hz15, hb16⟩ := of_bind hb16
       have hb16 := some_inj hb16
       refine XL_takeC _ rfl rfl (by kernel_rfl) hc14 (X_of_Y0 rfl (E_field (.pt 104 2) Tryz.underlying25 rfl sz3 rfl (by kernel_rfl) (by intro hh; cases hh))) ?_
       refine XL_takeC _ rfl rfl (by kernel_rfl) hc14 (X_of_Y0 rfl (Y0_load1 (c := Ti y12.2.2) (cs := []) sc3 rfl (by kernel_rfl))) ?_
       refine XL_takeC _ rfl rfl (by kernel_rfl) hc14 (X_of_Y0 rfl (E_move (I p2) rfl (by kernel_rfl))) ?_
       refine XL_takeC _ rfl rfl (by kernel_rfl) hc14 (X_of_Y0 rfl (E_move (I p2) rfl (by kernel_rfl))) ?_
       refine XL_takeC _ rfl rfl (by kernel_rfl) hc14 (X_of_Y0 rfl (Y0_mul64 (a := p2) (b := p2) rfl (by kernel_rfl) (by kernel_rfl))) ?_
       refine XL_takeC _ rfl rfl (by kernel_rfl) hc14 (X_of_Y0 rfl (Y0_rem (k := .i64) (a := y12.2.2) (b := w64 (p2 * p2)) rfl (by kernel_rfl) (by kernel_rfl) (nz_some hz15))) ?_
       refine XL_takeC _ rfl rfl (by kernel_rfl) hc14 (X_of_Y0 rfl (Y0_new (k := .i64) (a := Int.tmod y12.2.2 (w64 (p2 * p2))) (b := 0) rfl (by kernel_rfl) (by kernel_rfl))) ?_
       refine XL_cons rfl (X_of_Y0 rfl (Y0_pickFe (b := !eqI (Int.tmod y12.2.1 p2) 0) (p := !eqI (Int.tmod y12.2.2 (w64 (p2 * p2))) 0) rfl (by kernel_rfl) hc14 (by kernel_rfl) hb16)) ?_
       exact XE
     refine V_cond rfl (fun hc17 => ?_) (fun hc17 => ?_)
     ·have h := of_true h hc17
      refine V_exit ?_
      show V _ _ _ _
      obtain ⟨t18, ht18, h⟩ := of_sI h
      refine V_reg (mb 92 5298) [80, 56, 40, 32] (s1 := ⟨.bot :: I p2 :: .bot :: .bot :: .pt 32 0 :: .pt 40 0 :: .bot :: .pt 56 0 :: .bot :: .bot :: .pt 80 0 :: .bot :: I t18 :: bt 79 [], [(80, .box [Ti y5.1.1, Ti y5.1.2.1, Ti y5.1.2.2]), (56, .box [Ti y6.1, Ti y6.2.1, Ti y6.2.2.1, Ti y6.2.2.2]), (40, .box [Ti 0, Ti 0, Ti 0, Ti 0]), (32, .box [Ti 0, Ti 0, Ti 0])]⟩) ?_ ?_
      ·refine XR 3 ?_
       refine XL_nil ?_
       subst ht18
       kernel_rfl
      exact ⟨n, Nat.lt_succ_self n, _,  by rfl, h⟩
     ·have h := of_false h hc17
      refine V_skip ?_
      show V _ _ _ _
      obtain ⟨z19, hz19, h⟩ := of_bind h
      obtain ⟨z20, hz20, h⟩ := of_bind h
      obtain ⟨y21, hy21, h⟩ := of_bind h
      refine V_sdreg [0, 1, 0, 4, 0, 28, 0, 64, 0, 0, 768, 1984, 4095, 8191, 16383, 32767, 32767, 0, 0, 458751, 1048575] 20 [[.z, .z, .b, .b, .b, .b, .b, .b, .b, .b, .b, .b, .z, .z, .z, .z, .z, .b, .b, .z], [.a, .z, .b, .b, .b, .b, .b, .b, .b, .b, .b, .b, .z, .z, .z, .z, .z, .b, .b, .z], [.b, .b, .z, .z, .b, .z, .b, .b, .b, .b, .b, .b, .z, .z, .z, .z, .z, .b, .b, .z], [.b, .b, .a, .z, .b, .z, .b, .b, .b, .b, .b, .b, .z, .z, .z, .z, .z, .b, .b, .z], [.b, .b, .b, .b, .z, .z, .b, .b, .b, .b, .b, .b, .z, .z, .z, .z, .z, .b, .b, .z], [.b, .b, .a, .a, .a, .z, .b, .b, .b, .b, .b, .b, .z, .z, .z, .z, .z, .b, .b, .z], [.b, .b, .b, .b, .b, .b, .z, .z, .b, .b, .b, .z, .z, .z, .z, .z, .z, .b, .b, .z], [.b, .b, .b, .b, .b, .b, .a, .z, .b, .b, .b, .z, .z, .z, .z, .z, .z, .b, .b, .z], [.b, .b, .b, .b, .b, .b, .b, .b, .z, .b, .z, .z, .z, .z, .z, .z, .z, .b, .b, .z], [.b, .b, .b, .b, .b, .b, .b, .b, .b, .z, .z, .z, .z, .z, .z, .z, .z, .b, .b, .z], [.b, .b, .b, .b, .b, .b, .b, .b, .a, .a, .z, .z, .z, .z, .z, .z, .z, .b, .b, .z], [.b, .b, .b, .b, .b, .b, .a, .a, .a, .a, .a, .z, .z, .z, .z, .z, .z, .b, .b, .z], [.a, .a, .a, .a, .a, .a, .a, .a, .a, .a, .a, .a, .z, .z, .z, .z, .z, .b, .b, .z], [.a, .a, .a, .a, .a, .a, .a, .a, .a, .a, .a, .a, .a, .z, .z, .z, .z, .b, .b, .z], [.a, .a, .a, .a, .a, .a, .a, .a, .a, .a, .a, .a, .a, .a, .z, .z, .z, .b, .b, .z], [.a, .a, .a, .a, .a, .a, .a, .a, .a, .a, .a, .a, .a, .a, .a, .z, .b, .b, .b, .z], [.a, .a, .a, .a, .a, .a, .a, .a, .a, .a, .a, .a, .a, .a, .a, .b, .z, .b, .b, .r 112], [.b, .b, .b, .b, .b, .b, .b, .b, .b, .b, .b, .b, .b, .b, .b, .b, .b, .z, .b, .z], [.b, .b, .b, .b, .b, .b, .b, .b, .b, .b, .b, .b, .b, .b, .b, .b, .b, .b, .z, .z], [.a, .a, .a, .a, .a, .a, .a, .a, .a, .a, .a, .a, .a, .a, .a, .a, .b, .a, .a, .z]] (mb 92 53426) [120, 112, 56, 40, 32] (s1 := ⟨.bot :: I p2 :: .bot :: .bot :: .pt 32 0 :: .pt 40 0 :: .bot :: .pt 56 0 :: bt 4 (I t7 :: .bot :: .pt 112 0 :: .pt 120 0 :: bt 76 []), [(120, .box [Ti y21.2.1, Ti y21.2.2.1, Ti y21.2.2.2.1, Ti y21.2.2.2.2]), (112, .box [Ti y21.1.1, Ti y21.1.2.1, Ti y21.1.2.2]), (56, .box [Ti y6.1, Ti y6.2.1, Ti y6.2.2.1, Ti y6.2.2.2]), (40, .box [Ti 0, Ti 0, Ti 0, Ti 0]), (32, .box [Ti 0, Ti 0, Ti 0])]⟩) (by kernel_rfl) (by kernel_rfl) ?_ ?_
      ·refine DR 5 ?_
       refine DE_0 5 (I (w64 (Int.tdiv y12.2.1 p2))) (by kernel_rfl) rfl rfl rfl (gsat_none rfl) (by kernel_rfl) (Y0_quo64 (a := y12.2.1) (b := p2) rfl (by kernel_rfl) (by kernel_rfl) (nz_some hz19)) 66 rfl ?_
       refine DR 5 ?_
       refine DE_0 11 (I (w64 (Int.tdiv y12.2.2 (w64 (p2 * p2))))) (by kernel_rfl) rfl rfl rfl (gsat_none rfl) (by kernel_rfl) (Y0_quo64 (a := y12.2.2) (b := w64 (p2 * p2)) rfl (by kernel_rfl) (by kernel_rfl) (nz_some hz20)) 72 rfl ?_
       refine DE_0 12 (.ag [Ti y12.1, Ti (w64 (Int.tdiv y12.2.1 p2)), Ti (w64 (Int.tdiv y12.2.2 (w64 (p2 * p2))))]) (by kernel_rfl) rfl rfl rfl (gsat_none rfl) (by kernel_rfl) (Y0_build (cs := [Ti y12.1, Ti (w64 (Int.tdiv y12.2.1 p2)), Ti (w64 (Int.tdiv y12.2.2 (w64 (p2 * p2))))]) pl25 bt25 rfl rfl (by kernel_rfl)) 73 rfl ?_
       refine DC 13 (s_spec_reReduce hy21) cf_spec_reReduce rfl rfl rfl rfl 74 rfl ?_
       refine DA 6 ?_
       exact XE
      obtain ⟨y22, hy22, h⟩ := of_bind h
      obtain ⟨y23, hy23, h⟩ := of_bind h
      refine V_sdreg [0, 0, 2, 7, 15] 4 (cdm 4 [40, 2, 6, 21]) (mb 92 49330) [120, 112, 56, 40, 32] (s1 := ⟨.bot :: I p2 :: .bot :: .bot :: .pt 32 0 :: .pt 40 0 :: .bot :: .pt 56 0 :: bt 6 (.pt 112 0 :: .pt 120 0 :: bt 76 []), [(120, .box [Ti y21.2.1, Ti y21.2.2.1, Ti y21.2.2.2.1, Ti y21.2.2.2.2]), (112, .box [Ti y21.1.1, Ti y21.1.2.1, Ti y21.1.2.2]), (56, .box [Ti y23.1, Ti y23.2.1, Ti y23.2.2.1, Ti y23.2.2.2]), (40, .box [Ti 0, Ti 0, Ti 0, Ti 0]), (32, .box [Ti 0, Ti 0, Ti 0])]⟩) (by kernel_rfl) (by kernel_rfl) ?_ ?_
      ·refine DR 2 ?_
       refine DC 2 (s_spec_coShift hy22) cf_spec_coShift rfl rfl rfl rfl 79 rfl ?_
       refine DC 3 (s_spec_foMul hy23) cf_spec_foMul rfl rfl rfl rfl 80 rfl ?_
       refine DA 0 ?_
       exact XE
      obtain ⟨y24, hy24, h⟩ := of_bind h
      obtain ⟨y25, hy25, h⟩ := of_bind h
      obtain ⟨y26, hy26, h⟩ := of_bind h
      obtain ⟨y27, hy27, h⟩ := of_bind h
      refine V_sdreg [0, 0, 2, 0, 8, 30, 0, 126, 254, 511, 1023] 9 (cdm 9 [174760, 8834, 8838, 8234, 8298, 8534, 2730, 5462, 21846]) (mb 92 48) [40, 32] (s1 := ⟨bt 4 (.pt 32 0 :: .pt 40 0 :: bt 86 []), [(40, .box [Ti y27.1, Ti y27.2.1, Ti y27.2.2.1, Ti y27.2.2.2]), (32, .box [Ti y21.1.1, Ti y21.1.2.1, Ti y21.1.2.2])]⟩) (by kernel_rfl) (by kernel_rfl) ?_ ?_
      ·refine DR 2 ?_
       refine DC 2 (s_spec_foInverse hy24) cf_spec_foInverse rfl rfl rfl rfl 83 rfl ?_
       refine DR 1 ?_
       refine DE_0 4 (.ag [Ti 1, Ti 0, Ti 0, Ti p2]) (by kernel_rfl) rfl rfl rfl (gsat_none rfl) (by kernel_rfl) (Y0_build (cs := [Ti 1, Ti 0, Ti 0, Ti p2]) pl31 bt31 rfl rfl (by kernel_rfl)) 85 rfl ?_
       refine DC 5 (s_spec_foMul hy25) cf_spec_foMul rfl rfl rfl rfl 86 rfl ?_
       refine DR 1 ?_
       refine DC 7 (s_spec_foInverse hy26) cf_spec_foInverse rfl rfl rfl rfl 88 rfl ?_
       refine DC 8 (s_spec_foMul hy27) cf_spec_foMul rfl rfl rfl rfl 89 rfl ?_
       refine DA 0 ?_
       exact XE
      refine V_ret ?_
      obtain rfl := some_inj h
      have h := hko9
      obtain rfl := some_inj h
      show Post _ _ _ _ _
      exact ⟨.inr rfl, rfl, rfl, rfl⟩
    ·have h := of_false h hc10
     refine V_exit ?_
     obtain rfl := some_inj h
     exact ⟨_, rfl, by rfl⟩
  rintro o9 rfl
  have h := hko9
  clear hko9
  show V _ _ _ _
  refine V_sreg (mb 92 48) [40, 32] (s1 := ⟨bt 4 (.pt 32 0 :: .pt 40 0 :: bt 86 []), [(40, .box [Ti 0, Ti 0, Ti 0, Ti 0]), (32, .box [Ti 0, Ti 0, Ti 0])]⟩) ?_ ?_
  ·refine L0 rfl rfl (Y0_build (cs := [Ti 0, Ti 0, Ti 0]) pl25 bt25 rfl rfl (by kernel_rfl)) ?_
   refine L0 rfl rfl (Y0_build (cs := [Ti 0, Ti 0, Ti 0, Ti 0]) pl31 bt31 rfl rfl (by kernel_rfl)) ?_
   exact XE
  refine V_ret ?_
  obtain rfl := some_inj h
  show Post _ _ _ _ _
  exact ⟨.inr rfl, rfl, rfl, rfl⟩
theorem cf_spec_DescendForm : ∀ args w, (callFunc 12 args).run Tryz.prog w = .ok (.enter 12 args) w := run_callFunc Tryz.func12 (by kernel_rfl) (by kernel_rfl)
theorem s_spec_DescendForm {f1 : (Int × Int × Int)} {p2 : Int} {r : (((Int × Int × Int)) × Bool)} (h : r_spec_DescendForm f1 p2 = some r) : CallS Tryz.prog 12 [.ag [Ti f1.1, Ti f1.2.1, Ti f1.2.2], I p2] (.tc (.ag [Ti r.1.1, Ti r.1.2.1, Ti r.1.2.2]) (.tc (Bo r.2) .tn)) [] := by
  refine CallS_of_text (rs := [.w 4 3, .t 5]) (vs := [.cell 4 25, .tmp 5]) Tryz.func12 rfl rfl (.cons ⟨rfl, wd25⟩ (.cons rfl FitsL.nil)) (by decide) 20 rfl ?_
  unfold r_spec_DescendForm at h
  show V _ _ ⟨.ag [Ti f1.1, Ti f1.2.1, Ti f1.2.2] :: I p2 :: bt 18 [], []⟩ _
  refine V_e (mb 20 22) [32, 16] (s1 := ⟨.bot :: I p2 :: .pt 16 0 :: .bot :: .pt 32 0 :: bt 15 [], [(32, .box [Ti 0, Ti 0, Ti 0]), (16, .box [Ti f1.1, Ti f1.2.1, Ti f1.2.2])]⟩) ?_
  refine V_seq ?_
  obtain ⟨y3, hy3, h⟩ := of_bind h
  refine V_sreg (mb 20 2070) [32, 16] (s1 := ⟨.bot :: I p2 :: .pt 16 0 :: .bot :: .pt 32 0 :: bt 6 (Bo (!y3) :: bt 8 []), [(32, .box [Ti 0, Ti 0, Ti 0]), (16, .box [Ti f1.1, Ti f1.2.1, Ti f1.2.2])]⟩) ?_ ?_
  ·refine XR 2 ?_
   refine XC (s_spec_odDown hy3) cf_spec_odDown rfl rfl rfl ?_
   exact XE
  refine V_cond rfl (fun hc4 => ?_) (fun hc4 => ?_)
  ·have h := of_true h hc4
   refine V_sreg (mb 20 48) [32] (s1 := ⟨bt 4 (.pt 32 0 :: Bo false :: bt 14 []), [(32, .box [Ti 0, Ti 0, Ti 0])]⟩) ?_ ?_
   ·refine L0 rfl rfl (Y0_build (cs := [Ti 0, Ti 0, Ti 0]) pl25 bt25 rfl rfl (by kernel_rfl)) ?_
    exact XE
   refine V_ret ?_
   obtain rfl := some_inj h
   show Post _ _ _ _ _
   exact ⟨.inr rfl, rfl, rfl, rfl⟩
  ·have h := of_false h hc4
   refine V_skip ?_
   show V _ _ _ _
   obtain ⟨y5, hy5, h⟩ := of_bind h
   refine V_sreg (mb 20 80) [48, 32] (s1 := ⟨bt 4 (.pt 32 0 :: .bot :: .pt 48 0 :: bt 13 []), [(48, .box [Ti y5.1.1, Ti y5.1.2.1, Ti y5.1.2.2]), (32, .box [Ti 0, Ti 0, Ti 0])]⟩) ?_ ?_
   ·refine XR 2 ?_
    refine XC (s_spec_odDescend hy5) cf_spec_odDescend rfl rfl rfl ?_
    exact XE
   refine V_e (mb 20 48) [32] (s1 := ⟨bt 4 (.pt 32 0 :: Bo true :: bt 14 []), [(32, .box [Ti y5.1.1, Ti y5.1.2.1, Ti y5.1.2.2])]⟩) ?_
   refine V_ret ?_
   obtain rfl := some_inj h
   show Post _ _ _ _ _
   exact ⟨.inr rfl, rfl, rfl, rfl⟩
theorem cf_impl_IsMatrix : ∀ args w, (callFunc 74 args).run Tryz.prog w = .ok (.enter 74 args) w := run_callFunc Tryz.func74 (by kernel_rfl) (by kernel_rfl)
theorem s_impl_IsMatrix {vm1 : (Int × Int × Int × Int)} {r : Bool} (h : r_impl_IsMatrix vm1 = some r) : CallS Tryz.prog 74 [.ag [Ti vm1.1, Ti vm1.2.1, Ti vm1.2.2.1, Ti vm1.2.2.2]] (Bo r) [] := by
  refine CallS_of_text (rs := [.t 2]) (vs := [.tmp 2]) Tryz.func74 rfl rfl (.cons rfl FitsL.nil) (by decide) 13 rfl ?_
  unfold r_impl_IsMatrix at h
  show V _ _ ⟨.ag [Ti vm1.1, Ti vm1.2.1, Ti vm1.2.2.1, Ti vm1.2.2.2] :: bt 12 [], []⟩ _
  refine V_e (mb 13 2) [8] (s1 := ⟨.bot :: .pt 8 0 :: bt 11 [], [(8, .box [Ti vm1.1, Ti vm1.2.1, Ti vm1.2.2.1, Ti vm1.2.2.2])]⟩) ?_
  obtain ⟨y2, hy2, h⟩ := of_bind h
  refine V_sreg (mb 13 4) [] (s1 := ⟨.bot :: .bot :: Bo y2 :: bt 10 [], []⟩) ?_ ?_
  ·refine XR 8 ?_
   refine L1 rfl rfl (Y1_bslice (z := zv3) (els := [vm1.1, vm1.2.1, vm1.2.2.1, vm1.2.2.2].map c3) Tryz.underlying51 iz3 rfl (by decide) rfl (by kernel_rfl) rfl (by simp [c3]) (by decide) (by decide)) ?_
   refine L1 rfl rfl (Y1_callS (s_impl_areNumbers hy2) cf_impl_areNumbers rfl (by kernel_rfl) rfl rfl) ?_
   exact XE
  refine V_ret ?_
  obtain rfl := some_inj h
  show Post _ _ _ _ _
  exact ⟨.inr rfl, rfl, rfl, rfl⟩
theorem cf_impl_checked : ∀ args w, (callFunc 72 args).run Tryz.prog w = .ok (.enter 72 args) w := run_callFunc Tryz.func72 (by kernel_rfl) (by kernel_rfl)
theorem s_impl_checked {vm1 : (Int × Int × Int × Int)} {r : (((Int × Int × Int × Int)) × Bool)} (h : r_impl_checked vm1 = some r) : CallS Tryz.prog 72 [.ag [Ti vm1.1, Ti vm1.2.1, Ti vm1.2.2.1, Ti vm1.2.2.2]] (.tc (.ag [Ti r.1.1, Ti r.1.2.1, Ti r.1.2.2.1, Ti r.1.2.2.2]) (.tc (Bo r.2) .tn)) [] := by
  refine CallS_of_text (rs := [.w 2 4, .t 3]) (vs := [.cell 2 31, .tmp 3]) Tryz.func72 rfl rfl (.cons ⟨rfl, wd31⟩ (.cons rfl FitsL.nil)) (by decide) 9 rfl ?_
  unfold r_impl_checked at h
  show V _ _ ⟨.ag [Ti vm1.1, Ti vm1.2.1, Ti vm1.2.2.1, Ti vm1.2.2.2] :: bt 8 [], []⟩ _
  refine V_e (mb 9 6) [16, 8] (s1 := ⟨.bot :: .pt 8 0 :: .pt 16 0 :: bt 6 [], [(16, .box [Ti 0, Ti 0, Ti 0, Ti 0]), (8, .box [Ti vm1.1, Ti vm1.2.1, Ti vm1.2.2.1, Ti vm1.2.2.2])]⟩) ?_
  refine V_seq ?_
  obtain ⟨y2, hy2, h⟩ := of_bind h
  refine V_sreg (mb 9 70) [16, 8] (s1 := ⟨.bot :: .pt 8 0 :: .pt 16 0 :: bt 3 (Bo (!y2) :: .bot :: .bot :: []), [(16, .box [Ti 0, Ti 0, Ti 0, Ti 0]), (8, .box [Ti vm1.1, Ti vm1.2.1, Ti vm1.2.2.1, Ti vm1.2.2.2])]⟩) ?_ ?_
  ·refine XR 1 ?_
   refine XC (s_impl_IsMatrix hy2) cf_impl_IsMatrix rfl rfl rfl ?_
   exact XE
  refine V_cond rfl (fun hc3 => ?_) (fun hc3 => ?_)
  ·have h := of_true h hc3
   refine V_sreg (mb 9 12) [16] (s1 := ⟨.bot :: .bot :: .pt 16 0 :: Bo false :: bt 5 [], [(16, .box [Ti 0, Ti 0, Ti 0, Ti 0])]⟩) ?_ ?_
   ·refine L0 rfl rfl (Y0_build (cs := [Ti 0, Ti 0, Ti 0, Ti 0]) pl31 bt31 rfl rfl (by kernel_rfl)) ?_
    exact XE
   refine V_ret ?_
   obtain rfl := some_inj h
   show Post _ _ _ _ _
   exact ⟨.inr rfl, rfl, rfl, rfl⟩
  ·have h := of_false h hc3
   refine V_skip ?_
   show V _ _ _ _
   refine V_e (mb 9 12) [16] (s1 := ⟨.bot :: .bot :: .pt 16 0 :: Bo true :: bt 5 [], [(16, .box [Ti vm1.1, Ti vm1.2.1, Ti vm1.2.2.1, Ti vm1.2.2.2])]⟩) ?_
   refine V_ret ?_
   obtain rfl := some_inj h
   show Post _ _ _ _ _
   exact ⟨.inr rfl, rfl, rfl, rfl⟩
theorem cf_impl_DescentMatrix : ∀ args w, (callFunc 13 args).run Tryz.prog w = .ok (.enter 13 args) w := run_callFunc Tryz.func13 (by kernel_rfl) (by kernel_rfl)
theorem s_impl_DescentMatrix {f1 : (Int × Int × Int)} {p2 : Int} {r : (((Int × Int × Int × Int)) × Bool)} (h : r_impl_DescentMatrix f1 p2 = some r) : CallS Tryz.prog 13 [.ag [Ti f1.1, Ti f1.2.1, Ti f1.2.2], I p2] (.tc (.ag [Ti r.1.1, Ti r.1.2.1, Ti r.1.2.2.1, Ti r.1.2.2.2]) (.tc (Bo r.2) .tn)) [] := by
  refine CallS_of_text (rs := [.w 4 4, .t 5]) (vs := [.cell 4 31, .tmp 5]) Tryz.func13 rfl rfl (.cons ⟨rfl, wd31⟩ (.cons rfl FitsL.nil)) (by decide) 23 rfl ?_
  unfold r_impl_DescentMatrix at h
  show V _ _ ⟨.ag [Ti f1.1, Ti f1.2.1, Ti f1.2.2] :: I p2 :: bt 21 [], []⟩ _
  refine V_e (mb 23 22) [32, 16] (s1 := ⟨.bot :: I p2 :: .pt 16 0 :: .bot :: .pt 32 0 :: bt 18 [], [(32, .box [Ti 0, Ti 0, Ti 0, Ti 0]), (16, .box [Ti f1.1, Ti f1.2.1, Ti f1.2.2])]⟩) ?_
  refine V_seq ?_
  obtain ⟨y3, hy3, h⟩ := of_bind h
  refine V_sreg (mb 23 2070) [32, 16] (s1 := ⟨.bot :: I p2 :: .pt 16 0 :: .bot :: .pt 32 0 :: bt 6 (Bo (!y3) :: bt 11 []), [(32, .box [Ti 0, Ti 0, Ti 0, Ti 0]), (16, .box [Ti f1.1, Ti f1.2.1, Ti f1.2.2])]⟩) ?_ ?_
  ·refine XR 2 ?_
   refine XC (s_impl_canDescend hy3) cf_impl_canDescend rfl rfl rfl ?_
   exact XE
  refine V_cond rfl (fun hc4 => ?_) (fun hc4 => ?_)
  ·have h := of_true h hc4
   refine V_sreg (mb 23 48) [32] (s1 := ⟨bt 4 (.pt 32 0 :: Bo false :: bt 17 []), [(32, .box [Ti 0, Ti 0, Ti 0, Ti 0])]⟩) ?_ ?_
   ·refine L0 rfl rfl (Y0_build (cs := [Ti 0, Ti 0, Ti 0, Ti 0]) pl31 bt31 rfl rfl (by kernel_rfl)) ?_
    exact XE
   refine V_ret ?_
   obtain rfl := some_inj h
   show Post _ _ _ _ _
   exact ⟨.inr rfl, rfl, rfl, rfl⟩
  ·have h := of_false h hc4
   refine V_skip ?_
   show V _ _ _ _
   obtain ⟨y5, hy5, h⟩ := of_bind h
   refine V_sreg (mb 23 144) [56, 32] (s1 := ⟨bt 4 (.pt 32 0 :: .bot :: .bot :: .pt 56 0 :: bt 15 []), [(56, .box [Ti y5.2.1, Ti y5.2.2.1, Ti y5.2.2.2.1, Ti y5.2.2.2.2]), (32, .box [Ti 0, Ti 0, Ti 0, Ti 0])]⟩) ?_ ?_
   ·refine XR 2 ?_
    refine XC (s_impl_descend hy5) cf_impl_descend rfl rfl rfl ?_
    exact XE
   obtain ⟨y6, hy6, h⟩ := of_bind h
   refine V_sreg (mb 23 48) [32] (s1 := ⟨bt 4 (.pt 32 0 :: Bo y6.2 :: bt 17 []), [(32, .box [Ti y6.1.1, Ti y6.1.2.1, Ti y6.1.2.2.1, Ti y6.1.2.2.2])]⟩) ?_ ?_
   ·refine XR 1 ?_
    refine XC (s_impl_checked hy6) cf_impl_checked rfl rfl rfl ?_
    exact XE
   refine V_ret ?_
   obtain rfl := some_inj h
   show Post _ _ _ _ _
   exact ⟨.inr rfl, rfl, rfl, rfl⟩
theorem cf_impl_IsDescent : ∀ args w, (callFunc 14 args).run Tryz.prog w = .ok (.enter 14 args) w := run_callFunc Tryz.func14 (by kernel_rfl) (by kernel_rfl)
theorem s_impl_IsDescent {f1 : (Int × Int × Int)} {g2 : (Int × Int × Int)} {vm3 : (Int × Int × Int × Int)} {p4 : Int} {r : (Bool × Bool)} (h : r_impl_IsDescent f1 g2 vm3 p4 = some r) : CallS Tryz.prog 14 [.ag [Ti f1.1, Ti f1.2.1, Ti f1.2.2], .ag [Ti g2.1, Ti g2.2.1, Ti g2.2.2], .ag [Ti vm3.1, Ti vm3.2.1, Ti vm3.2.2.1, Ti vm3.2.2.2], I p4] (.tc (Bo r.1) (.tc (Bo r.2) .tn)) [] := by
  refine CallS_of_text (rs := [.t 8, .t 9]) (vs := [.tmp 8, .tmp 9]) Tryz.func14 rfl rfl (.cons rfl (.cons rfl FitsL.nil)) (by decide) 50 rfl ?_
  unfold r_impl_IsDescent at h
  show V _ _ ⟨.ag [Ti f1.1, Ti f1.2.1, Ti f1.2.2] :: .ag [Ti g2.1, Ti g2.2.1, Ti g2.2.2] :: .ag [Ti vm3.1, Ti vm3.2.1, Ti vm3.2.2.1, Ti vm3.2.2.2] :: I p4 :: bt 46 [], []⟩ _
  refine V_e (mb 50 120) [48, 40, 32] (s1 := ⟨bt 3 (I p4 :: .pt 32 0 :: .pt 40 0 :: .pt 48 0 :: bt 43 []), [(48, .box [Ti vm3.1, Ti vm3.2.1, Ti vm3.2.2.1, Ti vm3.2.2.2]), (40, .box [Ti g2.1, Ti g2.2.1, Ti g2.2.2]), (32, .box [Ti f1.1, Ti f1.2.1, Ti f1.2.2])]⟩) ?_
  refine V_seq ?_
  obtain ⟨y5, hy5, h⟩ := of_bind h
  obtain ⟨b8, hb8, h⟩ := of_bind h
  obtain ⟨b11, hb11, h⟩ := of_bind h
  obtain ⟨b14, hb14, h⟩ := of_bind h
  obtain ⟨b18, hb18, h⟩ := of_bind h
  refine V_sdreg [0, 1, 3, 7, 15, 31, 63, 127, 255, 511, 1023, 2047, 4095, 8191, 16383, 32767, 65535, 131071, 262143, 524287, 1048575, 524287, 4194303, 524287, 16777215, 524287, 67108863, 134217727, 268435455] 29 (cdm 29 [0, 1, 5, 21, 85, 341, 1365, 5461, 21845, 87381, 349525, 1398101, 5592405, 22369621, 89478485, 357913941, 1431655765, 5726623061, 22906492245, 2401425021031765, 2401699898938709, 2395377707078997, 2398401364055381, 2298620683834709, 2345624805922133, 750508311926101, 1501199875790165, 6004799503160661, 24019198012642645]) (mb 50 274877907064) [48, 40, 32] (s1 := ⟨bt 3 (I p4 :: .pt 32 0 :: .pt 40 0 :: .pt 48 0 :: bt 31 (Bo b18 :: bt 11 [])), [(48, .box [Ti vm3.1, Ti vm3.2.1, Ti vm3.2.2.1, Ti vm3.2.2.2]), (40, .box [Ti g2.1, Ti g2.2.1, Ti g2.2.2]), (32, .box [Ti f1.1, Ti f1.2.1, Ti f1.2.2])]⟩) (by kernel_rfl) (by kernel_rfl) ?_ ?_
  ·refine DR 1 ?_
   refine DC 1 (s_impl_isClassForm hy5) cf_impl_isClassForm rfl rfl rfl rfl 11 rfl ?_
   refine DR 2 ?_
   refine DL_split (!y5) (fun hc6 => ?_) (fun hc6 => ?_)
   ·have hb8 := some_inj (of_true hb8 hc6)
    refine DE_t 4 (by kernel_rfl) rfl rfl rfl (gun_F (!y5) rfl rfl (by kernel_rfl) hc6) 14 rfl ?_
    refine DE_t 5 (by kernel_rfl) rfl rfl rfl (gun_F (!y5) rfl rfl (by kernel_rfl) hc6) 15 rfl ?_
    refine DE_t 6 (by kernel_rfl) rfl rfl rfl (gun_F (!y5) rfl rfl (by kernel_rfl) hc6) 16 rfl ?_
    refine DE_0 7 (Bo (b8)) (by kernel_rfl) rfl rfl rfl (gsat_none rfl) (by kernel_rfl) (Y0_pickTe (b := !y5) (p := true) rfl (by kernel_rfl) hc6 (by kernel_rfl) hb8) 17 rfl ?_
    refine DR 1 ?_
    refine DL_split b8 (fun hc9 => ?_) (fun hc9 => ?_)
    ·have hb11 := some_inj (of_true hb11 hc9)
     refine DE_t 9 (by kernel_rfl) rfl rfl rfl (gun_F (b8) rfl rfl (by kernel_rfl) hc9) 19 rfl ?_
     refine DE_t 10 (by kernel_rfl) rfl rfl rfl (gun_F (b8) rfl rfl (by kernel_rfl) hc9) 20 rfl ?_
     refine DE_t 11 (by kernel_rfl) rfl rfl rfl (gun_F (b8) rfl rfl (by kernel_rfl) hc9) 21 rfl ?_
     refine DE_0 12 (Bo (b11)) (by kernel_rfl) rfl rfl rfl (gsat_none rfl) (by kernel_rfl) (Y0_pickTe (b := b8) (p := true) rfl (by kernel_rfl) hc9 (by kernel_rfl) hb11) 22 rfl ?_
     refine DR 1 ?_
     refine DL_split b11 (fun hc12 => ?_) (fun hc12 => ?_)
     ·have hb14 := some_inj (of_true hb14 hc12)
      refine DE_t 14 (by kernel_rfl) rfl rfl rfl (gun_F (b11) rfl rfl (by kernel_rfl) hc12) 24 rfl ?_
      refine DE_t 15 (by kernel_rfl) rfl rfl rfl (gun_F (b11) rfl rfl (by kernel_rfl) hc12) 25 rfl ?_
      refine DE_t 16 (by kernel_rfl) rfl rfl rfl (gun_F (b11) rfl rfl (by kernel_rfl) hc12) 26 rfl ?_
      refine DE_0 17 (Bo (b14)) (by kernel_rfl) rfl rfl rfl (gsat_none rfl) (by kernel_rfl) (Y0_pickTe (b := b11) (p := true) rfl (by kernel_rfl) hc12 (by kernel_rfl) hb14) 27 rfl ?_
      refine DR 1 ?_
      refine DL_split b14 (fun hc15 => ?_) (fun hc15 => ?_)
      ·have hb18 := some_inj (of_true hb18 hc15)
       refine DE_t 19 (by kernel_rfl) rfl rfl rfl (gun_F (b14) rfl rfl (by kernel_rfl) hc15) 29 rfl ?_
       refine DE_t 20 (by kernel_rfl) rfl rfl rfl (gun_F (b14) rfl rfl (by kernel_rfl) hc15) 30 rfl ?_
       refine DE_t 21 (by kernel_rfl) rfl rfl rfl (gun_F (b14) rfl rfl (by kernel_rfl) hc15) 31 rfl ?_
       refine DE_t 22 (by kernel_rfl) rfl rfl rfl (gun_F (b14) rfl rfl (by kernel_rfl) hc15) 32 rfl ?_
       refine DE_t 23 (by kernel_rfl) rfl rfl rfl (gun_F (b14) rfl rfl (by kernel_rfl) hc15) 33 rfl ?_
       refine DE_t 24 (by kernel_rfl) rfl rfl rfl (gun_F (b14) rfl rfl (by kernel_rfl) hc15) 34 rfl ?_
       refine DE_t 25 (by kernel_rfl) rfl rfl rfl (gun_F (b14) rfl rfl (by kernel_rfl) hc15) 35 rfl ?_
       refine DE_t 26 (by kernel_rfl) rfl rfl rfl (gun_F (b14) rfl rfl (by kernel_rfl) hc15) 36 rfl ?_
       refine DE_t 27 (by kernel_rfl) rfl rfl rfl (gun_F (b14) rfl rfl (by kernel_rfl) hc15) 37 rfl ?_
       refine DE_0 28 (Bo (b18)) (by kernel_rfl) rfl rfl rfl (gsat_none rfl) (by kernel_rfl) (Y0_pickTe (b := b14) (p := true) rfl (by kernel_rfl) hc15 (by kernel_rfl) hb18) 38 rfl ?_
       refine DA 0 ?_
       exact XE
      ·have hb18 := of_false hb18 hc15
       obtain ⟨y16, hy16, hb18⟩ := of_bind hb18
       obtain ⟨y17, hy17, hb18⟩ := of_bind hb18
       have hb18 := some_inj hb18
       refine DE_0 19 (.ag [Ti f1.1, Ti f1.2.1, Ti f1.2.2]) (by kernel_rfl) rfl rfl rfl (gsat_C (b14) rfl rfl (by kernel_rfl) hc15) (by kernel_rfl) (E_loadn (cs := [Ti f1.1, Ti f1.2.1, Ti f1.2.2]) [Ti f1.1, Ti f1.2.1, Ti f1.2.2] wd25 rfl (by kernel_rfl) (Nat.le_of_ble_eq_true rfl) (by kernel_rfl)) 29 rfl ?_
       refine DE_1 20 (by kernel_rfl) rfl rfl rfl (gsat_C (b14) rfl rfl (by kernel_rfl) hc15) (Y1_call (s_impl_Form_disc hy16) cf_impl_Form_disc rfl (by kernel_rfl)) rfl rfl rfl 30 rfl ?_
       refine DE_0 21 (.ag [Ti g2.1, Ti g2.2.1, Ti g2.2.2]) (by kernel_rfl) rfl rfl rfl (gsat_C (b14) rfl rfl (by kernel_rfl) hc15) (by kernel_rfl) (E_loadn (cs := [Ti g2.1, Ti g2.2.1, Ti g2.2.2]) [Ti g2.1, Ti g2.2.1, Ti g2.2.2] wd25 rfl (by kernel_rfl) (Nat.le_of_ble_eq_true rfl) (by kernel_rfl)) 31 rfl ?_
       refine DE_1 22 (by kernel_rfl) rfl rfl rfl (gsat_C (b14) rfl rfl (by kernel_rfl) hc15) (Y1_call (s_impl_Form_disc hy17) cf_impl_Form_disc rfl (by kernel_rfl)) rfl rfl rfl 32 rfl ?_
       refine DE_0 23 (I p4) (by kernel_rfl) rfl rfl rfl (gsat_C (b14) rfl rfl (by kernel_rfl) hc15) (by kernel_rfl) (E_move (I p4) rfl (by kernel_rfl)) 33 rfl ?_
       refine DE_0 24 (I (w64 (y17 * p4))) (by kernel_rfl) rfl rfl rfl (gsat_C (b14) rfl rfl (by kernel_rfl) hc15) (by kernel_rfl) (Y0_mul64 (a := y17) (b := p4) rfl (by kernel_rfl) (by kernel_rfl)) 34 rfl ?_
       refine DE_0 25 (I p4) (by kernel_rfl) rfl rfl rfl (gsat_C (b14) rfl rfl (by kernel_rfl) hc15) (by kernel_rfl) (E_move (I p4) rfl (by kernel_rfl)) 35 rfl ?_
       refine DE_0 26 (I (w64 ((w64 (y17 * p4)) * p4))) (by kernel_rfl) rfl rfl rfl (gsat_C (b14) rfl rfl (by kernel_rfl) hc15) (by kernel_rfl) (Y0_mul64 (a := w64 (y17 * p4)) (b := p4) rfl (by kernel_rfl) (by kernel_rfl)) 36 rfl ?_
       refine DE_0 27 (Bo (!eqI y16 (w64 ((w64 (y17 * p4)) * p4)))) (by kernel_rfl) rfl rfl rfl (gsat_C (b14) rfl rfl (by kernel_rfl) hc15) (by kernel_rfl) (Y0_new (k := .i64) (a := y16) (b := w64 ((w64 (y17 * p4)) * p4)) rfl (by kernel_rfl) (by kernel_rfl)) 37 rfl ?_
       refine DE_0 28 (Bo (b18)) (by kernel_rfl) rfl rfl rfl (gsat_none rfl) (by kernel_rfl) (Y0_pickFe (b := b14) (p := !eqI y16 (w64 ((w64 (y17 * p4)) * p4))) rfl (by kernel_rfl) hc15 (by kernel_rfl) hb18) 38 rfl ?_
       refine DA 0 ?_
       exact XE
     ·have hb14 := of_false hb14 hc12
      obtain ⟨y13, hy13, hb14⟩ := of_bind hb14
      have hb14 := some_inj hb14
      refine DE_0 14 (I p4) (by kernel_rfl) rfl rfl rfl (gsat_C (b11) rfl rfl (by kernel_rfl) hc12) (by kernel_rfl) (E_move (I p4) rfl (by kernel_rfl)) 24 rfl ?_
      refine DE_1 15 (by kernel_rfl) rfl rfl rfl (gsat_C (b11) rfl rfl (by kernel_rfl) hc12) (Y1_call (s_impl_IsPrime hy13) cf_impl_IsPrime rfl (by kernel_rfl)) rfl rfl rfl 25 rfl ?_
      refine DE_0 16 (Bo (!y13)) (by kernel_rfl) rfl rfl rfl (gsat_C (b11) rfl rfl (by kernel_rfl) hc12) (by kernel_rfl) (Y0_not (b := y13) rfl (by kernel_rfl)) 26 rfl ?_
      refine DE_0 17 (Bo (b14)) (by kernel_rfl) rfl rfl rfl (gsat_none rfl) (by kernel_rfl) (Y0_pickFe (b := b11) (p := !y13) rfl (by kernel_rfl) hc12 (by kernel_rfl) hb14) 27 rfl ?_
      refine DR 1 ?_
      refine DL_split b14 (fun hc15 => ?_) (fun hc15 => ?_)
      ·have hb18 := some_inj (of_true hb18 hc15)
       refine DE_t 19 (by kernel_rfl) rfl rfl rfl (gun_F (b14) rfl rfl (by kernel_rfl) hc15) 29 rfl ?_
       refine DE_t 20 (by kernel_rfl) rfl rfl rfl (gun_F (b14) rfl rfl (by kernel_rfl) hc15) 30 rfl ?_
       refine DE_t 21 (by kernel_rfl) rfl rfl rfl (gun_F (b14) rfl rfl (by kernel_rfl) hc15) 31 rfl ?_
       refine DE_t 22 (by kernel_rfl) rfl rfl rfl (gun_F (b14) rfl rfl (by kernel_rfl) hc15) 32 rfl ?_
       refine DE_t 23 (by kernel_rfl) rfl rfl rfl (gun_F (b14) rfl rfl (by kernel_rfl) hc15) 33 rfl ?_
       refine DE_t 24 (by kernel_rfl) rfl rfl rfl (gun_F (b14) rfl rfl (by kernel_rfl) hc15) 34 rfl ?_
       refine DE_t 25 (by kernel_rfl) rfl rfl rfl (gun_F (b14) rfl rfl (by kernel_rfl) hc15) 35 rfl ?_
       refine DE_t 26 (by kernel_rfl) rfl rfl rfl (gun_F (b14) rfl rfl (by kernel_rfl) hc15) 36 rfl ?_
       refine DE_t 27 (by kernel_rfl) rfl rfl rfl (gun_F (b14) rfl rfl (by kernel_rfl) hc15) 37 rfl ?_
       refine DE_0 28 (Bo (b18)) (by kernel_rfl) rfl rfl rfl (gsat_none rfl) (by kernel_rfl) (Y0_pickTe (b := b14) (p := true) rfl (by kernel_rfl) hc15 (by kernel_rfl) hb18) 38 rfl ?_
       refine DA 0 ?_
       exact XE
      ·have hb18 := of_false hb18 hc15
       obtain ⟨y16, hy16, hb18⟩ := of_bind hb18
       obtain ⟨y17, hy17, hb18⟩ := of_bind hb18
       have hb18 := some_inj hb18
       refine DE_0 19 (.ag [Ti f1.1, Ti f1.2.1, Ti f1.2.2]) (by kernel_rfl) rfl rfl rfl (gsat_C (b14) rfl rfl (by kernel_rfl) hc15) (by kernel_rfl) (E_loadn (cs := [Ti f1.1, Ti f1.2.1, Ti f1.2.2]) [Ti f1.1, Ti f1.2.1, Ti f1.2.2] wd25 rfl (by kernel_rfl) (Nat.le_of_ble_eq_true rfl) (by kernel_rfl)) 29 rfl ?_
       refine DE_1 20 (by kernel_rfl) rfl rfl rfl (gsat_C (b14) rfl rfl (by kernel_rfl) hc15) (Y1_call (s_impl_Form_disc hy16) cf_impl_Form_disc rfl (by kernel_rfl)) rfl rfl rfl 30 rfl ?_
       refine DE_0 21 (.ag [Ti g2.1, Ti g2.2.1, Ti g2.2.2]) (by kernel_rfl) rfl rfl rfl (gsat_C (b14) rfl rfl (by kernel_rfl) hc15) (by kernel_rfl) (E_loadn (cs := [Ti g2.1, Ti g2.2.1, Ti g2.2.2]) [Ti g2.1, Ti g2.2.1, Ti g2.2.2] wd25 rfl (by kernel_rfl) (Nat.le_of_ble_eq_true rfl) (by kernel_rfl)) 31 rfl ?_
       refine DE_1 22 (by kernel_rfl) rfl rfl rfl (gsat_C (b14) rfl rfl (by kernel_rfl) hc15) (Y1_call (s_impl_Form_disc hy17) cf_impl_Form_disc rfl (by kernel_rfl)) rfl rfl rfl 32 rfl ?_
       refine DE_0 23 (I p4) (by kernel_rfl) rfl rfl rfl (gsat_C (b14) rfl rfl (by kernel_rfl) hc15) (by kernel_rfl) (E_move (I p4) rfl (by kernel_rfl)) 33 rfl ?_
       refine DE_0 24 (I (w64 (y17 * p4))) (by kernel_rfl) rfl rfl rfl (gsat_C (b14) rfl rfl (by kernel_rfl) hc15) (by kernel_rfl) (Y0_mul64 (a := y17) (b := p4) rfl (by kernel_rfl) (by kernel_rfl)) 34 rfl ?_
       refine DE_0 25 (I p4) (by kernel_rfl) rfl rfl rfl (gsat_C (b14) rfl rfl (by kernel_rfl) hc15) (by kernel_rfl) (E_move (I p4) rfl (by kernel_rfl)) 35 rfl ?_
       refine DE_0 26 (I (w64 ((w64 (y17 * p4)) * p4))) (by kernel_rfl) rfl rfl rfl (gsat_C (b14) rfl rfl (by kernel_rfl) hc15) (by kernel_rfl) (Y0_mul64 (a := w64 (y17 * p4)) (b := p4) rfl (by kernel_rfl) (by kernel_rfl)) 36 rfl ?_
       refine DE_0 27 (Bo (!eqI y16 (w64 ((w64 (y17 * p4)) * p4)))) (by kernel_rfl) rfl rfl rfl (gsat_C (b14) rfl rfl (by kernel_rfl) hc15) (by kernel_rfl) (Y0_new (k := .i64) (a := y16) (b := w64 ((w64 (y17 * p4)) * p4)) rfl (by kernel_rfl) (by kernel_rfl)) 37 rfl ?_
       refine DE_0 28 (Bo (b18)) (by kernel_rfl) rfl rfl rfl (gsat_none rfl) (by kernel_rfl) (Y0_pickFe (b := b14) (p := !eqI y16 (w64 ((w64 (y17 * p4)) * p4))) rfl (by kernel_rfl) hc15 (by kernel_rfl) hb18) 38 rfl ?_
       refine DA 0 ?_
       exact XE
    ·have hb11 := of_false hb11 hc9
     obtain ⟨y10, hy10, hb11⟩ := of_bind hb11
     have hb11 := some_inj hb11
     refine DE_0 9 (.ag [Ti vm3.1, Ti vm3.2.1, Ti vm3.2.2.1, Ti vm3.2.2.2]) (by kernel_rfl) rfl rfl rfl (gsat_C (b8) rfl rfl (by kernel_rfl) hc9) (by kernel_rfl) (E_loadn (cs := [Ti vm3.1, Ti vm3.2.1, Ti vm3.2.2.1, Ti vm3.2.2.2]) [Ti vm3.1, Ti vm3.2.1, Ti vm3.2.2.1, Ti vm3.2.2.2] wd31 rfl (by kernel_rfl) (Nat.le_of_ble_eq_true rfl) (by kernel_rfl)) 19 rfl ?_
     refine DE_1 10 (by kernel_rfl) rfl rfl rfl (gsat_C (b8) rfl rfl (by kernel_rfl) hc9) (Y1_call (s_impl_IsMatrix hy10) cf_impl_IsMatrix rfl (by kernel_rfl)) rfl rfl rfl 20 rfl ?_
     refine DE_0 11 (Bo (!y10)) (by kernel_rfl) rfl rfl rfl (gsat_C (b8) rfl rfl (by kernel_rfl) hc9) (by kernel_rfl) (Y0_not (b := y10) rfl (by kernel_rfl)) 21 rfl ?_
     refine DE_0 12 (Bo (b11)) (by kernel_rfl) rfl rfl rfl (gsat_none rfl) (by kernel_rfl) (Y0_pickFe (b := b8) (p := !y10) rfl (by kernel_rfl) hc9 (by kernel_rfl) hb11) 22 rfl ?_
     refine DR 1 ?_
     refine DL_split b11 (fun hc12 => ?_) (fun hc12 => ?_)
     ·have hb14 := some_inj (of_true hb14 hc12)
      refine DE_t 14 (by kernel_rfl) rfl rfl rfl (gun_F (b11) rfl rfl (by kernel_rfl) hc12) 24 rfl ?_
      refine DE_t 15 (by kernel_rfl) rfl rfl rfl (gun_F (b11) rfl rfl (by kernel_rfl) hc12) 25 rfl ?_
      refine DE_t 16 (by kernel_rfl) rfl rfl rfl (gun_F (b11) rfl rfl (by kernel_rfl) hc12) 26 rfl ?_
      refine DE_0 17 (Bo (b14)) (by kernel_rfl) rfl rfl rfl (gsat_none rfl) (by kernel_rfl) (Y0_pickTe (b := b11) (p := true) rfl (by kernel_rfl) hc12 (by kernel_rfl) hb14) 27 rfl ?_
      refine DR 1 ?_
      refine DL_split b14 (fun hc15 => ?_) (fun hc15 => ?_)
      ·have hb18 := some_inj (of_true hb18 hc15)
       refine DE_t 19 (by kernel_rfl) rfl rfl rfl (gun_F (b14) rfl rfl (by kernel_rfl) hc15) 29 rfl ?_
       refine DE_t 20 (by kernel_rfl) rfl rfl rfl (gun_F (b14) rfl rfl (by kernel_rfl) hc15) 30 rfl ?_
       refine DE_t 21 (by kernel_rfl) rfl rfl rfl (gun_F (b14) rfl rfl (by kernel_rfl) hc15) 31 rfl ?_
       refine DE_t 22 (by kernel_rfl) rfl rfl rfl (gun_F (b14) rfl rfl (by kernel_rfl) hc15) 32 rfl ?_
       refine DE_t 23 (by kernel_rfl) rfl rfl rfl (gun_F (b14) rfl rfl (by kernel_rfl) hc15) 33 rfl ?_
       refine DE_t 24 (by kernel_rfl) rfl rfl rfl (gun_F (b14) rfl rfl (by kernel_rfl) hc15) 34 rfl ?_
       refine DE_t 25 (by kernel_rfl) rfl rfl rfl (gun_F (b14) rfl rfl (by kernel_rfl) hc15) 35 rfl ?_
       refine DE_t 26 (by kernel_rfl) rfl rfl rfl (gun_F (b14) rfl rfl (by kernel_rfl) hc15) 36 rfl ?_
       refine DE_t 27 (by kernel_rfl) rfl rfl rfl (gun_F (b14) rfl rfl (by kernel_rfl) hc15) 37 rfl ?_
       refine DE_0 28 (Bo (b18)) (by kernel_rfl) rfl rfl rfl (gsat_none rfl) (by kernel_rfl) (Y0_pickTe (b := b14) (p := true) rfl (by kernel_rfl) hc15 (by kernel_rfl) hb18) 38 rfl ?_
       refine DA 0 ?_
       exact XE
      ·have hb18 := of_false hb18 hc15
       obtain ⟨y16, hy16, hb18⟩ := of_bind hb18
       obtain ⟨y17, hy17, hb18⟩ := of_bind hb18
       have hb18 := some_inj hb18
       refine DE_0 19 (.ag [Ti f1.1, Ti f1.2.1, Ti f1.2.2]) (by kernel_rfl) rfl rfl rfl (gsat_C (b14) rfl rfl (by kernel_rfl) hc15) (by kernel_rfl) (E_loadn (cs := [Ti f1.1, Ti f1.2.1, Ti f1.2.2]) [Ti f1.1, Ti f1.2.1, Ti f1.2.2] wd25 rfl (by kernel_rfl) (Nat.le_of_ble_eq_true rfl) (by kernel_rfl)) 29 rfl ?_
       refine DE_1 20 (by kernel_rfl) rfl rfl rfl (gsat_C (b14) rfl rfl (by kernel_rfl) hc15) (Y1_call (s_impl_Form_disc hy16) cf_impl_Form_disc rfl (by kernel_rfl)) rfl rfl rfl 30 rfl ?_
       refine DE_0 21 (.ag [Ti g2.1, Ti g2.2.1, Ti g2.2.2]) (by kernel_rfl) rfl rfl rfl (gsat_C (b14) rfl rfl (by kernel_rfl) hc15) (by kernel_rfl) (E_loadn (cs := [Ti g2.1, Ti g2.2.1, Ti g2.2.2]) [Ti g2.1, Ti g2.2.1, Ti g2.2.2] wd25 rfl (by kernel_rfl) (Nat.le_of_ble_eq_true rfl) (by kernel_rfl)) 31 rfl ?_
       refine DE_1 22 (by kernel_rfl) rfl rfl rfl (gsat_C (b14) rfl rfl (by kernel_rfl) hc15) (Y1_call (s_impl_Form_disc hy17) cf_impl_Form_disc rfl (by kernel_rfl)) rfl rfl rfl 32 rfl ?_
       refine DE_0 23 (I p4) (by kernel_rfl) rfl rfl rfl (gsat_C (b14) rfl rfl (by kernel_rfl) hc15) (by kernel_rfl) (E_move (I p4) rfl (by kernel_rfl)) 33 rfl ?_
       refine DE_0 24 (I (w64 (y17 * p4))) (by kernel_rfl) rfl rfl rfl (gsat_C (b14) rfl rfl (by kernel_rfl) hc15) (by kernel_rfl) (Y0_mul64 (a := y17) (b := p4) rfl (by kernel_rfl) (by kernel_rfl)) 34 rfl ?_
       refine DE_0 25 (I p4) (by kernel_rfl) rfl rfl rfl (gsat_C (b14) rfl rfl (by kernel_rfl) hc15) (by kernel_rfl) (E_move (I p4) rfl (by kernel_rfl)) 35 rfl ?_
       refine DE_0 26 (I (w64 ((w64 (y17 * p4)) * p4))) (by kernel_rfl) rfl rfl rfl (gsat_C (b14) rfl rfl (by kernel_rfl) hc15) (by kernel_rfl) (Y0_mul64 (a := w64 (y17 * p4)) (b := p4) rfl (by kernel_rfl) (by kernel_rfl)) 36 rfl ?_
       refine DE_0 27 (Bo (!eqI y16 (w64 ((w64 (y17 * p4)) * p4)))) (by kernel_rfl) rfl rfl rfl (gsat_C (b14) rfl rfl (by kernel_rfl) hc15) (by kernel_rfl) (Y0_new (k := .i64) (a := y16) (b := w64 ((w64 (y17 * p4)) * p4)) rfl (by kernel_rfl) (by kernel_rfl)) 37 rfl ?_
       refine DE_0 28 (Bo (b18)) (by kernel_rfl) rfl rfl rfl (gsat_none rfl) (by kernel_rfl) (Y0_pickFe (b := b14) (p := !eqI y16 (w64 ((w64 (y17 * p4)) * p4))) rfl (by kernel_rfl) hc15 (by kernel_rfl) hb18) 38 rfl ?_
       refine DA 0 ?_
       exact XE
     ·have hb14 := of_false hb14 hc12
      obtain ⟨y13, hy13, hb14⟩ := of_bind hb14
      have hb14 := some_inj hb14
      refine DE_0 14 (I p4) (by kernel_rfl) rfl rfl rfl (gsat_C (b11) rfl rfl (by kernel_rfl) hc12) (by kernel_rfl) (E_move (I p4) rfl (by kernel_rfl)) 24 rfl ?_
      refine DE_1 15 (by kernel_rfl) rfl rfl rfl (gsat_C (b11) rfl rfl (by kernel_rfl) hc12) (Y1_call (s_impl_IsPrime hy13) cf_impl_IsPrime rfl (by kernel_rfl)) rfl rfl rfl 25 rfl ?_
      refine DE_0 16 (Bo (!y13)) (by kernel_rfl) rfl rfl rfl (gsat_C (b11) rfl rfl (by kernel_rfl) hc12) (by kernel_rfl) (Y0_not (b := y13) rfl (by kernel_rfl)) 26 rfl ?_
      refine DE_0 17 (Bo (b14)) (by kernel_rfl) rfl rfl rfl (gsat_none rfl) (by kernel_rfl) (Y0_pickFe (b := b11) (p := !y13) rfl (by kernel_rfl) hc12 (by kernel_rfl) hb14) 27 rfl ?_
      refine DR 1 ?_
      refine DL_split b14 (fun hc15 => ?_) (fun hc15 => ?_)
      ·have hb18 := some_inj (of_true hb18 hc15)
       refine DE_t 19 (by kernel_rfl) rfl rfl rfl (gun_F (b14) rfl rfl (by kernel_rfl) hc15) 29 rfl ?_
       refine DE_t 20 (by kernel_rfl) rfl rfl rfl (gun_F (b14) rfl rfl (by kernel_rfl) hc15) 30 rfl ?_
       refine DE_t 21 (by kernel_rfl) rfl rfl rfl (gun_F (b14) rfl rfl (by kernel_rfl) hc15) 31 rfl ?_
       refine DE_t 22 (by kernel_rfl) rfl rfl rfl (gun_F (b14) rfl rfl (by kernel_rfl) hc15) 32 rfl ?_
       refine DE_t 23 (by kernel_rfl) rfl rfl rfl (gun_F (b14) rfl rfl (by kernel_rfl) hc15) 33 rfl ?_
       refine DE_t 24 (by kernel_rfl) rfl rfl rfl (gun_F (b14) rfl rfl (by kernel_rfl) hc15) 34 rfl ?_
       refine DE_t 25 (by kernel_rfl) rfl rfl rfl (gun_F (b14) rfl rfl (by kernel_rfl) hc15) 35 rfl ?_
       refine DE_t 26 (by kernel_rfl) rfl rfl rfl (gun_F (b14) rfl rfl (by kernel_rfl) hc15) 36 rfl ?_
       refine DE_t 27 (by kernel_rfl) rfl rfl rfl (gun_F (b14) rfl rfl (by kernel_rfl) hc15) 37 rfl ?_
       refine DE_0 28 (Bo (b18)) (by kernel_rfl) rfl rfl rfl (gsat_none rfl) (by kernel_rfl) (Y0_pickTe (b := b14) (p := true) rfl (by kernel_rfl) hc15 (by kernel_rfl) hb18) 38 rfl ?_
       refine DA 0 ?_
       exact XE
      ·have hb18 := of_false hb18 hc15
       obtain ⟨y16, hy16, hb18⟩ := of_bind hb18
       obtain ⟨y17, hy17, hb18⟩ := of_bind hb18
       have hb18 := some_inj hb18
       refine DE_0 19 (.ag [Ti f1.1, Ti f1.2.1, Ti f1.2.2]) (by kernel_rfl) rfl rfl rfl (gsat_C (b14) rfl rfl (by kernel_rfl) hc15) (by kernel_rfl) (E_loadn (cs := [Ti f1.1, Ti f1.2.1, Ti f1.2.2]) [Ti f1.1, Ti f1.2.1, Ti f1.2.2] wd25 rfl (by kernel_rfl) (Nat.le_of_ble_eq_true rfl) (by kernel_rfl)) 29 rfl ?_
       refine DE_1 20 (by kernel_rfl) rfl rfl rfl (gsat_C (b14) rfl rfl (by kernel_rfl) hc15) (Y1_call (s_impl_Form_disc hy16) cf_impl_Form_disc rfl (by kernel_rfl)) rfl rfl rfl 30 rfl ?_
       refine DE_0 21 (.ag [Ti g2.1, Ti g2.2.1, Ti g2.2.2]) (by kernel_rfl) rfl rfl rfl (gsat_C (b14) rfl rfl (by kernel_rfl) hc15) (by kernel_rfl) (E_loadn (cs := [Ti g2.1, Ti g2.2.1, Ti g2.2.2]) [Ti g2.1, Ti g2.2.1, Ti g2.2.2] wd25 rfl (by kernel_rfl) (Nat.le_of_ble_eq_true rfl) (by kernel_rfl)) 31 rfl ?_
       refine DE_1 22 (by kernel_rfl) rfl rfl rfl (gsat_C (b14) rfl rfl (by kernel_rfl) hc15) (Y1_call (s_impl_Form_disc hy17) cf_impl_Form_disc rfl (by kernel_rfl)) rfl rfl rfl 32 rfl ?_
       refine DE_0 23 (I p4) (by kernel_rfl) rfl rfl rfl (gsat_C (b14) rfl rfl (by kernel_rfl) hc15) (by kernel_rfl) (E_move (I p4) rfl (by kernel_rfl)) 33 rfl ?_
       refine DE_0 24 (I (w64 (y17 * p4))) (by kernel_rfl) rfl rfl rfl (gsat_C (b14) rfl rfl (by kernel_rfl) hc15) (by kernel_rfl) (Y0_mul64 (a := y17) (b := p4) rfl (by kernel_rfl) (by kernel_rfl)) 34 rfl ?_
       refine DE_0 25 (I p4) (by kernel_rfl) rfl rfl rfl (gsat_C (b14) rfl rfl (by kernel_rfl) hc15) (by kernel_rfl) (E_move (I p4) rfl (by kernel_rfl)) 35 rfl ?_
       refine DE_0 26 (I (w64 ((w64 (y17 * p4)) * p4))) (by kernel_rfl) rfl rfl rfl (gsat_C (b14) rfl rfl (by kernel_rfl) hc15) (by kernel_rfl) (Y0_mul64 (a := w64 (y17 * p4)) (b := p4) rfl (by kernel_rfl) (by kernel_rfl)) 36 rfl ?_
       refine DE_0 27 (Bo (!eqI y16 (w64 ((w64 (y17 * p4)) * p4)))) (by kernel_rfl) rfl rfl rfl (gsat_C (b14) rfl rfl (by kernel_rfl) hc15) (by kernel_rfl) (Y0_new (k := .i64) (a := y16) (b := w64 ((w64 (y17 * p4)) * p4)) rfl (by kernel_rfl) (by kernel_rfl)) 37 rfl ?_
       refine DE_0 28 (Bo (b18)) (by kernel_rfl) rfl rfl rfl (gsat_none rfl) (by kernel_rfl) (Y0_pickFe (b := b14) (p := !eqI y16 (w64 ((w64 (y17 * p4)) * p4))) rfl (by kernel_rfl) hc15 (by kernel_rfl) hb18) 38 rfl ?_
       refine DA 0 ?_
       exact XE
   ·have hb8 := of_false hb8 hc6
    obtain ⟨y7, hy7, hb8⟩ := of_bind hb8
    have hb8 := some_inj hb8
    refine DE_0 4 (.ag [Ti g2.1, Ti g2.2.1, Ti g2.2.2]) (by kernel_rfl) rfl rfl rfl (gsat_C (!y5) rfl rfl (by kernel_rfl) hc6) (by kernel_rfl) (E_loadn (cs := [Ti g2.1, Ti g2.2.1, Ti g2.2.2]) [Ti g2.1, Ti g2.2.1, Ti g2.2.2] wd25 rfl (by kernel_rfl) (Nat.le_of_ble_eq_true rfl) (by kernel_rfl)) 14 rfl ?_
    refine DE_1 5 (by kernel_rfl) rfl rfl rfl (gsat_C (!y5) rfl rfl (by kernel_rfl) hc6) (Y1_call (s_impl_isClassForm hy7) cf_impl_isClassForm rfl (by kernel_rfl)) rfl rfl rfl 15 rfl ?_
    refine DE_0 6 (Bo (!y7)) (by kernel_rfl) rfl rfl rfl (gsat_C (!y5) rfl rfl (by kernel_rfl) hc6) (by kernel_rfl) (Y0_not (b := y7) rfl (by kernel_rfl)) 16 rfl ?_
    refine DE_0 7 (Bo (b8)) (by kernel_rfl) rfl rfl rfl (gsat_none rfl) (by kernel_rfl) (Y0_pickFe (b := !y5) (p := !y7) rfl (by kernel_rfl) hc6 (by kernel_rfl) hb8) 17 rfl ?_
    refine DR 1 ?_
    refine DL_split b8 (fun hc9 => ?_) (fun hc9 => ?_)
    ·have hb11 := some_inj (of_true hb11 hc9)
     refine DE_t 9 (by kernel_rfl) rfl rfl rfl (gun_F (b8) rfl rfl (by kernel_rfl) hc9) 19 rfl ?_
     refine DE_t 10 (by kernel_rfl) rfl rfl rfl (gun_F (b8) rfl rfl (by kernel_rfl) hc9) 20 rfl ?_
     refine DE_t 11 (by kernel_rfl) rfl rfl rfl (gun_F (b8) rfl rfl (by kernel_rfl) hc9) 21 rfl ?_
     refine DE_0 12 (Bo (b11)) (by kernel_rfl) rfl rfl rfl (gsat_none rfl) (by kernel_rfl) (Y0_pickTe (b := b8) (p := true) rfl (by kernel_rfl) hc9 (by kernel_rfl) hb11) 22 rfl ?_
     refine DR 1 ?_
     refine DL_split b11 (fun hc12 => ?_) (fun hc12 => ?_)
     ·have hb14 := some_inj (of_true hb14 hc12)
      refine DE_t 14 (by kernel_rfl) rfl rfl rfl (gun_F (b11) rfl rfl (by kernel_rfl) hc12) 24 rfl ?_
      refine DE_t 15 (by kernel_rfl) rfl rfl rfl (gun_F (b11) rfl rfl (by kernel_rfl) hc12) 25 rfl ?_
      refine DE_t 16 (by kernel_rfl) rfl rfl rfl (gun_F (b11) rfl rfl (by kernel_rfl) hc12) 26 rfl ?_
      refine DE_0 17 (Bo (b14)) (by kernel_rfl) rfl rfl rfl (gsat_none rfl) (by kernel_rfl) (Y0_pickTe (b := b11) (p := true) rfl (by kernel_rfl) hc12 (by kernel_rfl) hb14) 27 rfl ?_
      refine DR 1 ?_
      refine DL_split b14 (fun hc15 => ?_) (fun hc15 => ?_)
      ·have hb18 := some_inj (of_true hb18 hc15)
       refine DE_t 19 (by kernel_rfl) rfl rfl rfl (gun_F (b14) rfl rfl (by kernel_rfl) hc15) 29 rfl ?_
       refine DE_t 20 (by kernel_rfl) rfl rfl rfl (gun_F (b14) rfl rfl (by kernel_rfl) hc15) 30 rfl ?_
       refine DE_t 21 (by kernel_rfl) rfl rfl rfl (gun_F (b14) rfl rfl (by kernel_rfl) hc15) 31 rfl ?_
       refine DE_t 22 (by kernel_rfl) rfl rfl rfl (gun_F (b14) rfl rfl (by kernel_rfl) hc15) 32 rfl ?_
       refine DE_t 23 (by kernel_rfl) rfl rfl rfl (gun_F (b14) rfl rfl (by kernel_rfl) hc15) 33 rfl ?_
       refine DE_t 24 (by kernel_rfl) rfl rfl rfl (gun_F (b14) rfl rfl (by kernel_rfl) hc15) 34 rfl ?_
       refine DE_t 25 (by kernel_rfl) rfl rfl rfl (gun_F (b14) rfl rfl (by kernel_rfl) hc15) 35 rfl ?_
       refine DE_t 26 (by kernel_rfl) rfl rfl rfl (gun_F (b14) rfl rfl (by kernel_rfl) hc15) 36 rfl ?_
       refine DE_t 27 (by kernel_rfl) rfl rfl rfl (gun_F (b14) rfl rfl (by kernel_rfl) hc15) 37 rfl ?_
       refine DE_0 28 (Bo (b18)) (by kernel_rfl) rfl rfl rfl (gsat_none rfl) (by kernel_rfl) (Y0_pickTe (b := b14) (p := true) rfl (by kernel_rfl) hc15 (by kernel_rfl) hb18) 38 rfl ?_
       refine DA 0 ?_
       exact XE
      ·have hb18 := of_false hb18 hc15
       obtain ⟨y16, hy16, hb18⟩ := of_bind hb18
       obtain ⟨y17, hy17, hb18⟩ := of_bind hb18
       have hb18 := some_inj hb18
       refine DE_0 19 (.ag [Ti f1.1, Ti f1.2.1, Ti f1.2.2]) (by kernel_rfl) rfl rfl rfl (gsat_C (b14) rfl rfl (by kernel_rfl) hc15) (by kernel_rfl) (E_loadn (cs := [Ti f1.1, Ti f1.2.1, Ti f1.2.2]) [Ti f1.1, Ti f1.2.1, Ti f1.2.2] wd25 rfl (by kernel_rfl) (Nat.le_of_ble_eq_true rfl) (by kernel_rfl)) 29 rfl ?_
       refine DE_1 20 (by kernel_rfl) rfl rfl rfl (gsat_C (b14) rfl rfl (by kernel_rfl) hc15) (Y1_call (s_impl_Form_disc hy16) cf_impl_Form_disc rfl (by kernel_rfl)) rfl rfl rfl 30 rfl ?_
       refine DE_0 21 (.ag [Ti g2.1, Ti g2.2.1, Ti g2.2.2]) (by kernel_rfl) rfl rfl rfl (gsat_C (b14) rfl rfl (by kernel_rfl) hc15) (by kernel_rfl) (E_loadn (cs := [Ti g2.1, Ti g2.2.1, Ti g2.2.2]) [Ti g2.1, Ti g2.2.1, Ti g2.2.2] wd25 rfl (by kernel_rfl) (Nat.le_of_ble_eq_true rfl) (by kernel_rfl)) 31 rfl ?_
       refine DE_1 22 (by kernel_rfl) rfl rfl rfl (gsat_C (b14) rfl rfl (by kernel_rfl) hc15) (Y1_call (s_impl_Form_disc hy17) cf_impl_Form_disc rfl (by kernel_rfl)) rfl rfl rfl 32 rfl ?_
       refine DE_0 23 (I p4) (by kernel_rfl) rfl rfl rfl (gsat_C (b14) rfl rfl (by kernel_rfl) hc15) (by kernel_rfl) (E_move (I p4) rfl (by kernel_rfl)) 33 rfl ?_
       refine DE_0 24 (I (w64 (y17 * p4))) (by kernel_rfl) rfl rfl rfl (gsat_C (b14) rfl rfl (by kernel_rfl) hc15) (by kernel_rfl) (Y0_mul64 (a := y17) (b := p4) rfl (by kernel_rfl) (by kernel_rfl)) 34 rfl ?_
       refine DE_0 25 (I p4) (by kernel_rfl) rfl rfl rfl (gsat_C (b14) rfl rfl (by kernel_rfl) hc15) (by kernel_rfl) (E_move (I p4) rfl (by kernel_rfl)) 35 rfl ?_
       refine DE_0 26 (I (w64 ((w64 (y17 * p4)) * p4))) (by kernel_rfl) rfl rfl rfl (gsat_C (b14) rfl rfl (by kernel_rfl) hc15) (by kernel_rfl) (Y0_mul64 (a := w64 (y17 * p4)) (b := p4) rfl (by kernel_rfl) (by kernel_rfl)) 36 rfl ?_
       refine DE_0 27 (Bo (!eqI y16 (w64 ((w64 (y17 * p4)) * p4)))) (by kernel_rfl) rfl rfl rfl (gsat_C (b14) rfl rfl (by kernel_rfl) hc15) (by kernel_rfl) (Y0_new (k := .i64) (a := y16) (b := w64 ((w64 (y17 * p4)) * p4)) rfl (by kernel_rfl) (by kernel_rfl)) 37 rfl ?_
       refine DE_0 28 (Bo (b18)) (by kernel_rfl) rfl rfl rfl (gsat_none rfl) (by kernel_rfl) (Y0_pickFe (b := b14) (p := !eqI y16 (w64 ((w64 (y17 * p4)) * p4))) rfl (by kernel_rfl) hc15 (by kernel_rfl) hb18) 38 rfl ?_
       refine DA 0 ?_
       exact XE
     ·have hb14 := of_false hb14 hc12
      obtain ⟨y13, hy13, hb14⟩ := of_bind hb14
      have hb14 := some_inj hb14
      refine DE_0 14 (I p4) (by kernel_rfl) rfl rfl rfl (gsat_C (b11) rfl rfl (by kernel_rfl) hc12) (by kernel_rfl) (E_move (I p4) rfl (by kernel_rfl)) 24 rfl ?_
      refine DE_1 15 (by kernel_rfl) rfl rfl rfl (gsat_C (b11) rfl rfl (by kernel_rfl) hc12) (Y1_call (s_impl_IsPrime hy13) cf_impl_IsPrime rfl (by kernel_rfl)) rfl rfl rfl 25 rfl ?_
      refine DE_0 16 (Bo (!y13)) (by kernel_rfl) rfl rfl rfl (gsat_C (b11) rfl rfl (by kernel_rfl) hc12) (by kernel_rfl) (Y0_not (b := y13) rfl (by kernel_rfl)) 26 rfl ?_
      refine DE_0 17 (Bo (b14)) (by kernel_rfl) rfl rfl rfl (gsat_none rfl) (by kernel_rfl) (Y0_pickFe (b := b11) (p := !y13) rfl (by kernel_rfl) hc12 (by kernel_rfl) hb14) 27 rfl ?_
      refine DR 1 ?_
      refine DL_split b14 (fun hc15 => ?_) (fun hc15 => ?_)
      ·have hb18 := some_inj (of_true hb18 hc15)
       refine DE_t 19 (by kernel_rfl) rfl rfl rfl (gun_F (b14) rfl rfl (by kernel_rfl) hc15) 29 rfl ?_
       refine DE_t 20 (by kernel_rfl) rfl rfl rfl (gun_F (b14) rfl rfl (by kernel_rfl) hc15) 30 rfl ?_
       refine DE_t 21 (by kernel_rfl) rfl rfl rfl (gun_F (b14) rfl rfl (by kernel_rfl) hc15) 31 rfl ?_
       refine DE_t 22 (by kernel_rfl) rfl rfl rfl (gun_F (b14) rfl rfl (by kernel_rfl) hc15) 32 rfl ?_
       refine DE_t 23 (by kernel_rfl) rfl rfl rfl (gun_F (b14) rfl rfl (by kernel_rfl) hc15) 33 rfl ?_
       refine DE_t 24 (by kernel_rfl) rfl rfl rfl (gun_F (b14) rfl rfl (by kernel_rfl) hc15) 34 rfl ?_
       refine DE_t 25 (by kernel_rfl) rfl rfl rfl (gun_F (b14) rfl rfl (by kernel_rfl) hc15) 35 rfl ?_
       refine DE_t 26 (by kernel_rfl) rfl rfl rfl (gun_F (b14) rfl rfl (by kernel_rfl) hc15) 36 rfl ?_
       refine DE_t 27 (by kernel_rfl) rfl rfl rfl (gun_F (b14) rfl rfl (by kernel_rfl) hc15) 37 rfl ?_
       refine DE_0 28 (Bo (b18)) (by kernel_rfl) rfl rfl rfl (gsat_none rfl) (by kernel_rfl) (Y0_pickTe (b := b14) (p := true) rfl (by kernel_rfl) hc15 (by kernel_rfl) hb18) 38 rfl ?_
       refine DA 0 ?_
       exact XE
      ·have hb18 := of_false hb18 hc15
       obtain ⟨y16, hy16, hb18⟩ := of_bind hb18
       obtain ⟨y17, hy17, hb18⟩ := of_bind hb18
       have hb18 := some_inj hb18
       refine DE_0 19 (.ag [Ti f1.1, Ti f1.2.1, Ti f1.2.2]) (by kernel_rfl) rfl rfl rfl (gsat_C (b14) rfl rfl (by kernel_rfl) hc15) (by kernel_rfl) (E_loadn (cs := [Ti f1.1, Ti f1.2.1, Ti f1.2.2]) [Ti f1.1, Ti f1.2.1, Ti f1.2.2] wd25 rfl (by kernel_rfl) (Nat.le_of_ble_eq_true rfl) (by kernel_rfl)) 29 rfl ?_
       refine DE_1 20 (by kernel_rfl) rfl rfl rfl (gsat_C (b14) rfl rfl (by kernel_rfl) hc15) (Y1_call (s_impl_Form_disc hy16) cf_impl_Form_disc rfl (by kernel_rfl)) rfl rfl rfl 30 rfl ?_
       refine DE_0 21 (.ag [Ti g2.1, Ti g2.2.1, Ti g2.2.2]) (by kernel_rfl) rfl rfl rfl (gsat_C (b14) rfl rfl (by kernel_rfl) hc15) (by kernel_rfl) (E_loadn (cs := [Ti g2.1, Ti g2.2.1, Ti g2.2.2]) [Ti g2.1, Ti g2.2.1, Ti g2.2.2] wd25 rfl (by kernel_rfl) (Nat.le_of_ble_eq_true rfl) (by kernel_rfl)) 31 rfl ?_
       refine DE_1 22 (by kernel_rfl) rfl rfl rfl (gsat_C (b14) rfl rfl (by kernel_rfl) hc15) (Y1_call (s_impl_Form_disc hy17) cf_impl_Form_disc rfl (by kernel_rfl)) rfl rfl rfl 32 rfl ?_
       refine DE_0 23 (I p4) (by kernel_rfl) rfl rfl rfl (gsat_C (b14) rfl rfl (by kernel_rfl) hc15) (by kernel_rfl) (E_move (I p4) rfl (by kernel_rfl)) 33 rfl ?_
       refine DE_0 24 (I (w64 (y17 * p4))) (by kernel_rfl) rfl rfl rfl (gsat_C (b14) rfl rfl (by kernel_rfl) hc15) (by kernel_rfl) (Y0_mul64 (a := y17) (b := p4) rfl (by kernel_rfl) (by kernel_rfl)) 34 rfl ?_
       refine DE_0 25 (I p4) (by kernel_rfl) rfl rfl rfl (gsat_C (b14) rfl rfl (by kernel_rfl) hc15) (by kernel_rfl) (E_move (I p4) rfl (by kernel_rfl)) 35 rfl ?_
       refine DE_0 26 (I (w64 ((w64 (y17 * p4)) * p4))) (by kernel_rfl) rfl rfl rfl (gsat_C (b14) rfl rfl (by kernel_rfl) hc15) (by kernel_rfl) (Y0_mul64 (a := w64 (y17 * p4)) (b := p4) rfl (by kernel_rfl) (by kernel_rfl)) 36 rfl ?_
       refine DE_0 27 (Bo (!eqI y16 (w64 ((w64 (y17 * p4)) * p4)))) (by kernel_rfl) rfl rfl rfl (gsat_C (b14) rfl rfl (by kernel_rfl) hc15) (by kernel_rfl) (Y0_new (k := .i64) (a := y16) (b := w64 ((w64 (y17 * p4)) * p4)) rfl (by kernel_rfl) (by kernel_rfl)) 37 rfl ?_
       refine DE_0 28 (Bo (b18)) (by kernel_rfl) rfl rfl rfl (gsat_none rfl) (by kernel_rfl) (Y0_pickFe (b := b14) (p := !eqI y16 (w64 ((w64 (y17 * p4)) * p4))) rfl (by kernel_rfl) hc15 (by kernel_rfl) hb18) 38 rfl ?_
       refine DA 0 ?_
       exact XE
    ·have hb11 := of_false hb11 hc9
     obtain ⟨y10, hy10, hb11⟩ := of_bind hb11
     have hb11 := some_inj hb11
     refine DE_0 9 (.ag [Ti vm3.1, Ti vm3.2.1, Ti vm3.2.2.1, Ti vm3.2.2.2]) (by kernel_rfl) rfl rfl rfl (gsat_C (b8) rfl rfl (by kernel_rfl) hc9) (by kernel_rfl) (E_loadn (cs := [Ti vm3.1, Ti vm3.2.1, Ti vm3.2.2.1, Ti vm3.2.2.2]) [Ti vm3.1, Ti vm3.2.1, Ti vm3.2.2.1, Ti vm3.2.2.2] wd31 rfl (by kernel_rfl) (Nat.le_of_ble_eq_true rfl) (by kernel_rfl)) 19 rfl ?_
     refine DE_1 10 (by kernel_rfl) rfl rfl rfl (gsat_C (b8) rfl rfl (by kernel_rfl) hc9) (Y1_call (s_impl_IsMatrix hy10) cf_impl_IsMatrix rfl (by kernel_rfl)) rfl rfl rfl 20 rfl ?_
     refine DE_0 11 (Bo (!y10)) (by kernel_rfl) rfl rfl rfl (gsat_C (b8) rfl rfl (by kernel_rfl) hc9) (by kernel_rfl) (Y0_not (b := y10) rfl (by kernel_rfl)) 21 rfl ?_
     refine DE_0 12 (Bo (b11)) (by kernel_rfl) rfl rfl rfl (gsat_none rfl) (by kernel_rfl) (Y0_pickFe (b := b8) (p := !y10) rfl (by kernel_rfl) hc9 (by kernel_rfl) hb11) 22 rfl ?_
     refine DR 1 ?_
     refine DL_split b11 (fun hc12 => ?_) (fun hc12 => ?_)
     ·have hb14 := some_inj (of_true hb14 hc12)
      refine DE_t 14 (by kernel_rfl) rfl rfl rfl (gun_F (b11) rfl rfl (by kernel_rfl) hc12) 24 rfl ?_
      refine DE_t 15 (by kernel_rfl) rfl rfl rfl (gun_F (b11) rfl rfl (by kernel_rfl) hc12) 25 rfl ?_
      refine DE_t 16 (by kernel_rfl) rfl rfl rfl (gun_F (b11) rfl rfl (by kernel_rfl) hc12) 26 rfl ?_
      refine DE_0 17 (Bo (b14)) (by kernel_rfl) rfl rfl rfl (gsat_none rfl) (by kernel_rfl) (Y0_pickTe (b := b11) (p := true) rfl (by kernel_rfl) hc12 (by kernel_rfl) hb14) 27 rfl ?_
      refine DR 1 ?_
      refine DL_split b14 (fun hc15 => ?_) (fun hc15 => ?_)
      ·have hb18 := some_inj (of_true hb18 hc15)
       refine DE_t 19 (by kernel_rfl) rfl rfl rfl (gun_F (b14) rfl rfl (by kernel_rfl) hc15) 29 rfl ?_
       refine DE_t 20 (by kernel_rfl) rfl rfl rfl (gun_F (b14) rfl rfl (by kernel_rfl) hc15) 30 rfl ?_
       refine DE_t 21 (by kernel_rfl) rfl rfl rfl (gun_F (b14) rfl rfl (by kernel_rfl) hc15) 31 rfl ?_
       refine DE_t 22 (by kernel_rfl) rfl rfl rfl (gun_F (b14) rfl rfl (by kernel_rfl) hc15) 32 rfl ?_
       refine DE_t 23 (by kernel_rfl) rfl rfl rfl (gun_F (b14) rfl rfl (by kernel_rfl) hc15) 33 rfl ?_
       refine DE_t 24 (by kernel_rfl) rfl rfl rfl (gun_F (b14) rfl rfl (by kernel_rfl) hc15) 34 rfl ?_
       refine DE_t 25 (by kernel_rfl) rfl rfl rfl (gun_F (b14) rfl rfl (by kernel_rfl) hc15) 35 rfl ?_
       refine DE_t 26 (by kernel_rfl) rfl rfl rfl (gun_F (b14) rfl rfl (by kernel_rfl) hc15) 36 rfl ?_
       refine DE_t 27 (by kernel_rfl) rfl rfl rfl (gun_F (b14) rfl rfl (by kernel_rfl) hc15) 37 rfl ?_
       refine DE_0 28 (Bo (b18)) (by kernel_rfl) rfl rfl rfl (gsat_none rfl) (by kernel_rfl) (Y0_pickTe (b := b14) (p := true) rfl (by kernel_rfl) hc15 (by kernel_rfl) hb18) 38 rfl ?_
       refine DA 0 ?_
       exact XE
      ·have hb18 := of_false hb18 hc15
       obtain ⟨y16, hy16, hb18⟩ := of_bind hb18
       obtain ⟨y17, hy17, hb18⟩ := of_bind hb18
       have hb18 := some_inj hb18
       refine DE_0 19 (.ag [Ti f1.1, Ti f1.2.1, Ti f1.2.2]) (by kernel_rfl) rfl rfl rfl (gsat_C (b14) rfl rfl (by kernel_rfl) hc15) (by kernel_rfl) (E_loadn (cs := [Ti f1.1, Ti f1.2.1, Ti f1.2.2]) [Ti f1.1, Ti f1.2.1, Ti f1.2.2] wd25 rfl (by kernel_rfl) (Nat.le_of_ble_eq_true rfl) (by kernel_rfl)) 29 rfl ?_
       refine DE_1 20 (by kernel_rfl) rfl rfl rfl (gsat_C (b14) rfl rfl (by kernel_rfl) hc15) (Y1_call (s_impl_Form_disc hy16) cf_impl_Form_disc rfl (by kernel_rfl)) rfl rfl rfl 30 rfl ?_
       refine DE_0 21 (.ag [Ti g2.1, Ti g2.2.1, Ti g2.2.2]) (by kernel_rfl) rfl rfl rfl (gsat_C (b14) rfl rfl (by kernel_rfl) hc15) (by kernel_rfl) (E_loadn (cs := [Ti g2.1, Ti g2.2.1, Ti g2.2.2]) [Ti g2.1, Ti g2.2.1, Ti g2.2.2] wd25 rfl (by kernel_rfl) (Nat.le_of_ble_eq_true rfl) (by kernel_rfl)) 31 rfl ?_
       refine DE_1 22 (by kernel_rfl) rfl rfl rfl (gsat_C (b14) rfl rfl (by kernel_rfl) hc15) (Y1_call (s_impl_Form_disc hy17) cf_impl_Form_disc rfl (by kernel_rfl)) rfl rfl rfl 32 rfl ?_
       refine DE_0 23 (I p4) (by kernel_rfl) rfl rfl rfl (gsat_C (b14) rfl rfl (by kernel_rfl) hc15) (by kernel_rfl) (E_move (I p4) rfl (by kernel_rfl)) 33 rfl ?_
       refine DE_0 24 (I (w64 (y17 * p4))) (by kernel_rfl) rfl rfl rfl (gsat_C (b14) rfl rfl (by kernel_rfl) hc15) (by kernel_rfl) (Y0_mul64 (a := y17) (b := p4) rfl (by kernel_rfl) (by kernel_rfl)) 34 rfl ?_
       refine DE_0 25 (I p4) (by kernel_rfl) rfl rfl rfl (gsat_C (b14) rfl rfl (by kernel_rfl) hc15) (by kernel_rfl) (E_move (I p4) rfl (by kernel_rfl)) 35 rfl ?_
       refine DE_0 26 (I (w64 ((w64 (y17 * p4)) * p4))) (by kernel_rfl) rfl rfl rfl (gsat_C (b14) rfl rfl (by kernel_rfl) hc15) (by kernel_rfl) (Y0_mul64 (a := w64 (y17 * p4)) (b := p4) rfl (by kernel_rfl) (by kernel_rfl)) 36 rfl ?_
       refine DE_0 27 (Bo (!eqI y16 (w64 ((w64 (y17 * p4)) * p4)))) (by kernel_rfl) rfl rfl rfl (gsat_C (b14) rfl rfl (by kernel_rfl) hc15) (by kernel_rfl) (Y0_new (k := .i64) (a := y16) (b := w64 ((w64 (y17 * p4)) * p4)) rfl (by kernel_rfl) (by kernel_rfl)) 37 rfl ?_
       refine DE_0 28 (Bo (b18)) (by kernel_rfl) rfl rfl rfl (gsat_none rfl) (by kernel_rfl) (Y0_pickFe (b := b14) (p := !eqI y16 (w64 ((w64 (y17 * p4)) * p4))) rfl (by kernel_rfl) hc15 (by kernel_rfl) hb18) 38 rfl ?_
       refine DA 0 ?_
       exact XE
     ·have hb14 := of_false hb14 hc12
      obtain ⟨y13, hy13, hb14⟩ := of_bind hb14
      have hb14 := some_inj hb14
      refine DE_0 14 (I p4) (by kernel_rfl) rfl rfl rfl (gsat_C (b11) rfl rfl (by kernel_rfl) hc12) (by kernel_rfl) (E_move (I p4) rfl (by kernel_rfl)) 24 rfl ?_
      refine DE_1 15 (by kernel_rfl) rfl rfl rfl (gsat_C (b11) rfl rfl (by kernel_rfl) hc12) (Y1_call (s_impl_IsPrime hy13) cf_impl_IsPrime rfl (by kernel_rfl)) rfl rfl rfl 25 rfl ?_
      refine DE_0 16 (Bo (!y13)) (by kernel_rfl) rfl rfl rfl (gsat_C (b11) rfl rfl (by kernel_rfl) hc12) (by kernel_rfl) (Y0_not (b := y13) rfl (by kernel_rfl)) 26 rfl ?_
      refine DE_0 17 (Bo (b14)) (by kernel_rfl) rfl rfl rfl (gsat_none rfl) (by kernel_rfl) (Y0_pickFe (b := b11) (p := !y13) rfl (by kernel_rfl) hc12 (by kernel_rfl) hb14) 27 rfl ?_
      refine DR 1 ?_
      refine DL_split b14 (fun hc15 => ?_) (fun hc15 => ?_)
      ·have hb18 := some_inj (of_true hb18 hc15)
       refine DE_t 19 (by kernel_rfl) rfl rfl rfl (gun_F (b14) rfl rfl (by kernel_rfl) hc15) 29 rfl ?_
       refine DE_t 20 (by kernel_rfl) rfl rfl rfl (gun_F (b14) rfl rfl (by kernel_rfl) hc15) 30 rfl ?_
       refine DE_t 21 (by kernel_rfl) rfl rfl rfl (gun_F (b14) rfl rfl (by kernel_rfl) hc15) 31 rfl ?_
       refine DE_t 22 (by kernel_rfl) rfl rfl rfl (gun_F (b14) rfl rfl (by kernel_rfl) hc15) 32 rfl ?_
       refine DE_t 23 (by kernel_rfl) rfl rfl rfl (gun_F (b14) rfl rfl (by kernel_rfl) hc15) 33 rfl ?_
       refine DE_t 24 (by kernel_rfl) rfl rfl rfl (gun_F (b14) rfl rfl (by kernel_rfl) hc15) 34 rfl ?_
       refine DE_t 25 (by kernel_rfl) rfl rfl rfl (gun_F (b14) rfl rfl (by kernel_rfl) hc15) 35 rfl ?_
       refine DE_t 26 (by kernel_rfl) rfl rfl rfl (gun_F (b14) rfl rfl (by kernel_rfl) hc15) 36 rfl ?_
       refine DE_t 27 (by kernel_rfl) rfl rfl rfl (gun_F (b14) rfl rfl (by kernel_rfl) hc15) 37 rfl ?_
       refine DE_0 28 (Bo (b18)) (by kernel_rfl) rfl rfl rfl (gsat_none rfl) (by kernel_rfl) (Y0_pickTe (b := b14) (p := true) rfl (by kernel_rfl) hc15 (by kernel_rfl) hb18) 38 rfl ?_
       refine DA 0 ?_
       exact XE
      ·have hb18 := of_false hb18 hc15
       obtain ⟨y16, hy16, hb18⟩ := of_bind hb18
       obtain ⟨y17, hy17, hb18⟩ := of_bind hb18
       have hb18 := some_inj hb18
       refine DE_0 19 (.ag [Ti f1.1, Ti f1.2.1, Ti f1.2.2]) (by kernel_rfl) rfl rfl rfl (gsat_C (b14) rfl rfl (by kernel_rfl) hc15) (by kernel_rfl) (E_loadn (cs := [Ti f1.1, Ti f1.2.1, Ti f1.2.2]) [Ti f1.1, Ti f1.2.1, Ti f1.2.2] wd25 rfl (by kernel_rfl) (Nat.le_of_ble_eq_true rfl) (by kernel_rfl)) 29 rfl ?_
       refine DE_1 20 (by kernel_rfl) rfl rfl rfl (gsat_C (b14) rfl rfl (by kernel_rfl) hc15) (Y1_call (s_impl_Form_disc hy16) cf_impl_Form_disc rfl (by kernel_rfl)) rfl rfl rfl 30 rfl ?_
       refine DE_0 21 (.ag [Ti g2.1, Ti g2.2.1, Ti g2.2.2]) (by kernel_rfl) rfl rfl rfl (gsat_C (b14) rfl rfl (by kernel_rfl) hc15) (by kernel_rfl) (E_loadn (cs := [Ti g2.1, Ti g2.2.1, Ti g2.2.2]) [Ti g2.1, Ti g2.2.1, Ti g2.2.2] wd25 rfl (by kernel_rfl) (Nat.le_of_ble_eq_true rfl) (by kernel_rfl)) 31 rfl ?_
       refine DE_1 22 (by kernel_rfl) rfl rfl rfl (gsat_C (b14) rfl rfl (by kernel_rfl) hc15) (Y1_call (s_impl_Form_disc hy17) cf_impl_Form_disc rfl (by kernel_rfl)) rfl rfl rfl 32 rfl ?_
       refine DE_0 23 (I p4) (by kernel_rfl) rfl rfl rfl (gsat_C (b14) rfl rfl (by kernel_rfl) hc15) (by kernel_rfl) (E_move (I p4) rfl (by kernel_rfl)) 33 rfl ?_
       refine DE_0 24 (I (w64 (y17 * p4))) (by kernel_rfl) rfl rfl rfl (gsat_C (b14) rfl rfl (by kernel_rfl) hc15) (by kernel_rfl) (Y0_mul64 (a := y17) (b := p4) rfl (by kernel_rfl) (by kernel_rfl)) 34 rfl ?_
       refine DE_0 25 (I p4) (by kernel_rfl) rfl rfl rfl (gsat_C (b14) rfl rfl (by kernel_rfl) hc15) (by kernel_rfl) (E_move (I p4) rfl (by kernel_rfl)) 35 rfl ?_
       refine DE_0 26 (I (w64 ((w64 (y17 * p4)) * p4))) (by kernel_rfl) rfl rfl rfl (gsat_C (b14) rfl rfl (by kernel_rfl) hc15) (by kernel_rfl) (Y0_mul64 (a := w64 (y17 * p4)) (b := p4) rfl (by kernel_rfl) (by kernel_rfl)) 36 rfl ?_
       refine DE_0 27 (Bo (!eqI y16 (w64 ((w64 (y17 * p4)) * p4)))) (by kernel_rfl) rfl rfl rfl (gsat_C (b14) rfl rfl (by kernel_rfl) hc15) (by kernel_rfl) (Y0_new (k := .i64) (a := y16) (b := w64 ((w64 (y17 * p4)) * p4)) rfl (by kernel_rfl) (by kernel_rfl)) 37 rfl ?_
       refine DE_0 28 (Bo (b18)) (by kernel_rfl) rfl rfl rfl (gsat_none rfl) (by kernel_rfl) (Y0_pickFe (b := b14) (p := !eqI y16 (w64 ((w64 (y17 * p4)) * p4))) rfl (by kernel_rfl) hc15 (by kernel_rfl) hb18) 38 rfl ?_
       refine DA 0 ?_
       exact XE
  refine V_cond rfl (fun hc19 => ?_) (fun hc19 => ?_)
  ·have h := of_true h hc19
   refine V_e (mb 50 768) [] (s1 := ⟨bt 8 (Bo false :: Bo false :: bt 40 []), []⟩) ?_
   refine V_ret ?_
   obtain rfl := some_inj h
   show Post _ _ _ _ _
   exact ⟨.inr rfl, rfl, rfl, rfl⟩
  ·have h := of_false h hc19
   refine V_skip ?_
   show V _ _ _ _
   obtain ⟨y20, hy20, h⟩ := of_bind h
   obtain ⟨b23, hb23, h⟩ := of_bind h
   refine V_sdreg [0, 1, 0, 7, 15, 31, 31, 127, 31, 511, 1023, 2047, 4095] 13 (cdm 13 [32, 33, 10, 21, 85, 139605, 133461, 136533, 43349, 87381, 349525, 1398101, 5592405]) (mb 50 768) [] (s1 := ⟨bt 8 (Bo b23 :: Bo true :: bt 40 []), []⟩) (by kernel_rfl) (by kernel_rfl) ?_ ?_
   ·refine DR 1 ?_
    refine DC 1 (s_impl_Matrix_det hy20) cf_impl_Matrix_det rfl rfl rfl rfl 40 rfl ?_
    refine DR 3 ?_
    refine DL_split (eqI y20 p4) (fun hc21 => ?_) (fun hc21 => ?_)
    ·have hb23 := of_true hb23 hc21
     obtain ⟨y22, hy22, hb23⟩ := of_bind hb23
     have hb23 := some_inj hb23
     refine DE_0 5 (.ag [Ti g2.1, Ti g2.2.1, Ti g2.2.2]) (by kernel_rfl) rfl rfl rfl (gsat_C (eqI y20 p4) rfl rfl (by kernel_rfl) hc21) (by kernel_rfl) (E_loadn (cs := [Ti g2.1, Ti g2.2.1, Ti g2.2.2]) [Ti g2.1, Ti g2.2.1, Ti g2.2.2] wd25 rfl (by kernel_rfl) (Nat.le_of_ble_eq_true rfl) (by kernel_rfl)) 44 rfl ?_
     refine DE_0 6 (.ag [Ti vm3.1, Ti vm3.2.1, Ti vm3.2.2.1, Ti vm3.2.2.2]) (by kernel_rfl) rfl rfl rfl (gsat_C (eqI y20 p4) rfl rfl (by kernel_rfl) hc21) (by kernel_rfl) (E_loadn (cs := [Ti vm3.1, Ti vm3.2.1, Ti vm3.2.2.1, Ti vm3.2.2.2]) [Ti vm3.1, Ti vm3.2.1, Ti vm3.2.2.1, Ti vm3.2.2.2] wd31 rfl (by kernel_rfl) (Nat.le_of_ble_eq_true rfl) (by kernel_rfl)) 45 rfl ?_
     refine DE_1 7 (by kernel_rfl) rfl rfl rfl (gsat_C (eqI y20 p4) rfl rfl (by kernel_rfl) hc21) (Y1_call (s_impl_Form_substitute hy22) cf_impl_Form_substitute rfl (by kernel_rfl)) rfl rfl rfl 46 rfl ?_
     refine DE_0 8 (.ag [Ti f1.1, Ti f1.2.1, Ti f1.2.2]) (by kernel_rfl) rfl rfl rfl (gsat_C (eqI y20 p4) rfl rfl (by kernel_rfl) hc21) (by kernel_rfl) (E_loadn (cs := [Ti f1.1, Ti f1.2.1, Ti f1.2.2]) [Ti f1.1, Ti f1.2.1, Ti f1.2.2] wd25 rfl (by kernel_rfl) (Nat.le_of_ble_eq_true rfl) (by kernel_rfl)) 47 rfl ?_
     refine DE_0 9 (Bo (((y22.1 == f1.1) && ((y22.2.1 == f1.2.1) && (y22.2.2 == f1.2.2))))) (by kernel_rfl) rfl rfl rfl (gsat_C (eqI y20 p4) rfl rfl (by kernel_rfl) hc21) (by kernel_rfl) (Y0_eqg3 (a0 := y22.1) (b0 := f1.1) (a1 := y22.2.1) (b1 := f1.2.1) (a2 := y22.2.2) (b2 := f1.2.2) eqg25 rfl (by kernel_rfl) (by kernel_rfl)) 48 rfl ?_
     refine DE_0 10 (Bo (b23)) (by kernel_rfl) rfl rfl rfl (gsat_none rfl) (by kernel_rfl) (Y0_pickTe (b := eqI y20 p4) (p := ((y22.1 == f1.1) && ((y22.2.1 == f1.2.1) && (y22.2.2 == f1.2.2)))) rfl (by kernel_rfl) hc21 (by kernel_rfl) hb23) 49 rfl ?_
     refine DA 2 ?_
     exact XE
    ·have hb23 := some_inj (of_false hb23 hc21)
     refine DE_t 5 (by kernel_rfl) rfl rfl rfl (gun_T (eqI y20 p4) rfl rfl (by kernel_rfl) hc21) 44 rfl ?_
     refine DE_t 6 (by kernel_rfl) rfl rfl rfl (gun_T (eqI y20 p4) rfl rfl (by kernel_rfl) hc21) 45 rfl ?_
     refine DE_t 7 (by kernel_rfl) rfl rfl rfl (gun_T (eqI y20 p4) rfl rfl (by kernel_rfl) hc21) 46 rfl ?_
     refine DE_t 8 (by kernel_rfl) rfl rfl rfl (gun_T (eqI y20 p4) rfl rfl (by kernel_rfl) hc21) 47 rfl ?_
     refine DE_t 9 (by kernel_rfl) rfl rfl rfl (gun_T (eqI y20 p4) rfl rfl (by kernel_rfl) hc21) 48 rfl ?_
     refine DE_0 10 (Bo (b23)) (by kernel_rfl) rfl rfl rfl (gsat_none rfl) (by kernel_rfl) (Y0_pickFe (b := eqI y20 p4) (p := false) rfl (by kernel_rfl) hc21 (by kernel_rfl) hb23) 49 rfl ?_
     refine DA 2 ?_
     exact XE
   refine V_ret ?_
   obtain rfl := some_inj h
   show Post _ _ _ _ _
   exact ⟨.inr rfl, rfl, rfl, rfl⟩
theorem cf_impl_Discriminant : ∀ args w, (callFunc 15 args).run Tryz.prog w = .ok (.enter 15 args) w := run_callFunc Tryz.func15 (by kernel_rfl) (by kernel_rfl)
theorem s_impl_Discriminant {f1 : (Int × Int × Int)} {r : (Int × Bool)} (h : r_impl_Discriminant f1 = some r) : CallS Tryz.prog 15 [.ag [Ti f1.1, Ti f1.2.1, Ti f1.2.2]] (.tc (I r.1) (.tc (Bo r.2) .tn)) [] := by
  refine CallS_of_text (rs := [.t 2, .t 3]) (vs := [.tmp 2, .tmp 3]) Tryz.func15 rfl rfl (.cons rfl (.cons rfl FitsL.nil)) (by decide) 9 rfl ?_
  unfold r_impl_Discriminant at h
  show V _ _ ⟨.ag [Ti f1.1, Ti f1.2.1, Ti f1.2.2] :: bt 8 [], []⟩ _
  refine V_e (mb 9 2) [8] (s1 := ⟨.bot :: .pt 8 0 :: bt 7 [], [(8, .box [Ti f1.1, Ti f1.2.1, Ti f1.2.2])]⟩) ?_
  refine V_seq ?_
  obtain ⟨y2, hy2, h⟩ := of_bind h
  refine V_sreg (mb 9 66) [8] (s1 := ⟨.bot :: .pt 8 0 :: bt 4 (Bo (!y2) :: .bot :: .bot :: []), [(8, .box [Ti f1.1, Ti f1.2.1, Ti f1.2.2])]⟩) ?_ ?_
  ·refine XR 1 ?_
   refine XC (s_impl_IsForm hy2) cf_impl_IsForm rfl rfl rfl ?_
   exact XE
  refine V_cond rfl (fun hc3 => ?_) (fun hc3 => ?_)
  ·have h := of_true h hc3
   refine V_e (mb 9 12) [] (s1 := ⟨.bot :: .bot :: I 0 :: Bo false :: bt 5 [], []⟩) ?_
   refine V_ret ?_
   obtain rfl := some_inj h
   show Post _ _ _ _ _
   exact ⟨.inr rfl, rfl, rfl, rfl⟩
  ·have h := of_false h hc3
   refine V_skip ?_
   show V _ _ _ _
   obtain ⟨y4, hy4, h⟩ := of_bind h
   refine V_sreg (mb 9 12) [] (s1 := ⟨.bot :: .bot :: I y4 :: Bo true :: bt 5 [], []⟩) ?_ ?_
   ·refine XR 1 ?_
    refine XC (s_impl_Form_disc hy4) cf_impl_Form_disc rfl rfl rfl ?_
    exact XE
   refine V_ret ?_
   obtain rfl := some_inj h
   show Post _ _ _ _ _
   exact ⟨.inr rfl, rfl, rfl, rfl⟩
theorem cf_impl_allReduced : ∀ args w, (callFunc 172 args).run Tryz.prog w = .ok (.enter 172 args) w := run_callFunc Tryz.func172 (by kernel_rfl) (by kernel_rfl)
theorem s_impl_allReduced {d1 : Int} {r : List ((Int × Int × Int))} (h : r_impl_allReduced d1 = some r) : CallS Tryz.prog 172 [I d1] (.ow 0) [(0, .arr 25 3 (r.map c25))] := by
  refine CallS_of_text (rs := [.t 2]) (vs := [.tmp 2]) Tryz.func172 rfl rfl (.cons rfl FitsL.nil) (by decide) 51 rfl ?_
  unfold r_impl_allReduced at h
  show V _ _ ⟨I d1 :: bt 50 [], []⟩ _
  refine V_sreg (mb 51 1) [] (s1 := ⟨I d1 :: bt 50 [], []⟩) ?_ ?_
  ·refine L1 rfl rfl (Y1_nil (e := 25) 3 (by decide) (.inl rfl)) ?_
   exact XE
  refine V_sreg (mb 51 9) [56] (s1 := ⟨I d1 :: .bot :: .bot :: .ow 56 :: bt 47 [], [(56, .arr 25 3 ((([] : List ((Int × Int × Int)))).map c25))]⟩) ?_ ?_
  ·refine L1 rfl rfl (Y1_bslice0 Tryz.underlying38 sz25 (by decide) rfl rfl) ?_
   exact XE
  refine V_seq ?_
  refine V_e (mb 51 25) [56] (s1 := ⟨I d1 :: .bot :: .bot :: .ow 56 :: I 1 :: bt 46 [], [(56, .arr 25 3 ((([] : List ((Int × Int × Int)))).map c25))]⟩) ?_
  obtain ⟨o5, hLo5, h⟩ := of_bind h
  refine V_toK (mb 51 8) [56] (s1 := ⟨bt 3 (.ow 56 :: bt 47 []), [(56, .arr 25 3 (o5.map c25))]⟩) ?_ ?_
  ·clear h
   refine V_block (V_loop (fun n s => ∃ (a2 : Int) (l3 : List ((Int × Int × Int))), s.keep (mb 51 25) [56] = (⟨I d1 :: .bot :: .bot :: .ow 56 :: I a2 :: bt 46 [], [(56, .arr 25 3 (l3.map c25))]⟩ : St) ∧ r_impl_allReduced_L4 d1 n a2 l3 = some o5) FU ⟨_, _,  by rfl, hLo5⟩ ?_)
   clear hLo5
   rintro n s ⟨a2, l3, hs, h⟩
   refine V_keep _ _ hs ?_
   clear hs
   cases n with
   | zero => cases h
   | succ n =>
    rw [r_impl_allReduced_L4] at h
    refine V_seq ?_
    refine V_e (mb 51 16409) [56] (s1 := ⟨I d1 :: .bot :: .bot :: .ow 56 :: I a2 :: bt 9 (Bo (leI (w64 ((w64 (3 * a2)) * a2)) (w64 (0 - d1))) :: bt 36 []), [(56, .arr 25 3 (l3.map c25))]⟩) ?_
    refine V_cond rfl (fun hc6 => ?_) (fun hc6 => ?_)
    ·have h := of_true h hc6
     refine V_skip ?_
     show V _ _ _ _
     refine V_seq ?_
     refine V_block ?_
     obtain ⟨b7, hb7, h⟩ := of_sI h
     refine V_sreg (mb 51 57) [56] (s1 := ⟨I d1 :: .bot :: .bot :: .ow 56 :: I a2 :: I b7 :: bt 45 [], [(56, .arr 25 3 (l3.map c25))]⟩) ?_ ?_
     ·refine XR 3 ?_
      refine XL_nil ?_
      subst hb7
      kernel_rfl
     obtain ⟨o11, hLo11, h⟩ := of_bind h
     refine V_toK (mb 51 25) [56] (s1 := ⟨I d1 :: .bot :: .bot :: .ow 56 :: I a2 :: bt 46 [], [(56, .arr 25 3 (o11.map c25))]⟩) ?_ ?_
     ·clear h
      refine V_block (V_loop (fun n s => ∃ (b8 : Int) (l9 : List ((Int × Int × Int))), s.keep (mb 51 57) [56] = (⟨I d1 :: .bot :: .bot :: .ow 56 :: I a2 :: I b8 :: bt 45 [], [(56, .arr 25 3 (l9.map c25))]⟩ : St) ∧ r_impl_allReduced_L10 a2 d1 n b8 l9 = some o11) FU ⟨_, _,  by rfl, hLo11⟩ ?_)
      clear hLo11
      rintro n s ⟨b8, l9, hs, h⟩
      refine V_keep _ _ hs ?_
      clear hs
      cases n with
      | zero => cases h
      | succ n =>
       rw [r_impl_allReduced_L10] at h
       refine V_seq ?_
       refine V_e (mb 51 2097209) [56] (s1 := ⟨I d1 :: .bot :: .bot :: .ow 56 :: I a2 :: I b8 :: bt 15 (Bo (leI b8 a2) :: bt 29 []), [(56, .arr 25 3 (l9.map c25))]⟩) ?_
       refine V_cond rfl (fun hc12 => ?_) (fun hc12 => ?_)
       ·have h := of_true h hc12
        refine V_skip ?_
        show V _ _ _ _
        refine V_seq ?_
        refine V_block ?_
        refine V_seq ?_
        obtain ⟨z13, hz13, h⟩ := of_bind h
        obtain ⟨t14, ht14, h⟩ := of_bind h
        have ht14 := some_inj ht14
        refine V_sreg (mb 51 4294967353) [56] (s1 := ⟨I d1 :: .bot :: .bot :: .ow 56 :: I a2 :: I b8 :: bt 26 (Bo t14 :: bt 18 []), [(56, .arr 25 3 (l9.map c25))]⟩) ?_ ?_
        ·refine XR 7 ?_
         refine L0 rfl rfl (Y0_rem (k := .i64) (a := w64 ((w64 (b8 * b8)) - d1)) (b := w64 (4 * a2)) rfl (by kernel_rfl) (by kernel_rfl) (nz_some hz13)) ?_
         refine XR 1 ?_
         refine XL_nil ?_
         subst ht14
         kernel_rfl
        refine V_cond rfl (fun hc15 => ?_) (fun hc15 => ?_)
        ·have h := of_true h hc15
         refine V_exit ?_
         show V _ _ _ _
         obtain ⟨b16, hb16, h⟩ := of_sI h
         refine V_reg (mb 51 57) [56] (s1 := ⟨I d1 :: .bot :: .bot :: .ow 56 :: I a2 :: I b16 :: bt 45 [], [(56, .arr 25 3 (l9.map c25))]⟩) ?_ ?_
         ·refine XR 3 ?_
          refine XL_nil ?_
          subst hb16
          kernel_rfl
         exact ⟨n, Nat.lt_succ_self n, _, _,  by rfl, h⟩
        ·have h := of_false h hc15
         refine V_skip ?_
         show V _ _ _ _
         obtain ⟨z17, hz17, h⟩ := of_bind h
         obtain ⟨f18, hf18, h⟩ := of_sI h
         refine V_sreg (mb 51 121) [48, 56] (s1 := ⟨I d1 :: .bot :: .bot :: .ow 56 :: I a2 :: I b8 :: .pt 48 0 :: bt 44 [], [(48, .box [Ti a2, Ti b8, Ti f18]), (56, .arr 25 3 (l9.map c25))]⟩) ?_ ?_
         ·refine XR 9 ?_
          refine L0 rfl rfl (Y0_quo64 (a := w64 ((w64 (b8 * b8)) - d1)) (b := w64 (4 * a2)) rfl (by kernel_rfl) (by kernel_rfl) (nz_some hz17)) ?_
          refine L0 rfl rfl (Y0_build (cs := [Ti a2, Ti b8, Ti (w64 (Int.tdiv (w64 ((w64 (b8 * b8)) - d1)) (w64 (4 * a2))))]) pl25 bt25 rfl rfl (by kernel_rfl)) ?_
          refine XR 2 ?_
          refine XL_nil ?_
          subst hf18
          kernel_rfl
         obtain ⟨y19, hy19, h⟩ := of_bind h
         refine V_sreg (mb 51 35184372088953) [48, 56] (s1 := ⟨I d1 :: .bot :: .bot :: .ow 56 :: I a2 :: I b8 :: .pt 48 0 :: bt 38 (Bo y19 :: bt 5 []), [(48, .box [Ti a2, Ti b8, Ti f18]), (56, .arr 25 3 (l9.map c25))]⟩) ?_ ?_
         ·refine XR 1 ?_
          refine XC (s_impl_Form_isReduced hy19) cf_impl_Form_isReduced rfl rfl rfl ?_
          exact XE
         refine V_cond rfl (fun hc20 => ?_) (fun hc20 => ?_)
         ·have h := of_true h hc20
          obtain ⟨u21, hu21, h⟩ := of_bind h
          refine V_reg (mb 51 57) [56] (s1 := ⟨I d1 :: .bot :: .bot :: .ow 56 :: I a2 :: I b8 :: bt 45 [], [(56, .arr 25 3 ((l9 ++ ([(a2, b8, f18)])).map c25))]⟩) ?_ ?_
          ·refine XR 2 ?_
           refine L1 rfl rfl (Y1_bslice (z := zv25) (els := [(a2, b8, f18)].map c25) Tryz.underlying38 iz25 rfl (by decide) rfl (by kernel_rfl) rfl (by simp [c25]) (by decide) (by decide)) ?_
           refine XL_cons rfl (X_appendM (c := c25) (xs := l9) (ys := [(a2, b8, f18)]) (id := 56) (z := zv25) rfl rfl Tryz.underlying38 izb25 rfl (by kernel_rfl) (by kernel_rfl) (by kernel_rfl) (fun _ => rfl) (by simp) (room_some hu21) (by decide)) ?_
           exact XE
          show V _ _ _ _
          obtain ⟨b22, hb22, h⟩ := of_sI h
          refine V_reg (mb 51 57) [56] (s1 := ⟨I d1 :: .bot :: .bot :: .ow 56 :: I a2 :: I b22 :: bt 45 [], [(56, .arr 25 3 ((l9 ++ ([(a2, b8, f18)])).map c25))]⟩) ?_ ?_
          ·refine XR 3 ?_
           refine XL_nil ?_
           subst hb22
           kernel_rfl
          exact ⟨n, Nat.lt_succ_self n, _, _,  by rfl, h⟩
         ·have h := of_false h hc20
          refine V_skip ?_
          show V _ _ _ _
          obtain ⟨b23, hb23, h⟩ := of_sI h
          refine V_reg (mb 51 57) [56] (s1 := ⟨I d1 :: .bot :: .bot :: .ow 56 :: I a2 :: I b23 :: bt 45 [], [(56, .arr 25 3 (l9.map c25))]⟩) ?_ ?_
          ·refine XR 3 ?_
           refine XL_nil ?_
           subst hb23
           kernel_rfl
          exact ⟨n, Nat.lt_succ_self n, _, _,  by rfl, h⟩
       ·have h := of_false h hc12
        refine V_exit ?_
        obtain rfl := some_inj h
        show St.keep _ _ _ = _
        rfl
     show V _ _ _ _
     obtain ⟨a24, ha24, h⟩ := of_sI h
     refine V_reg (mb 51 25) [56] (s1 := ⟨I d1 :: .bot :: .bot :: .ow 56 :: I a24 :: bt 46 [], [(56, .arr 25 3 (o11.map c25))]⟩) ?_ ?_
     ·refine XR 3 ?_
      refine XL_nil ?_
      subst ha24
      kernel_rfl
     exact ⟨n, Nat.lt_succ_self n, _, _,  by rfl, h⟩
    ·have h := of_false h hc6
     refine V_exit ?_
     obtain rfl := some_inj h
     show St.keep _ _ _ = _
     rfl
  show V _ _ _ _
  refine V_e (mb 51 4) [56] (s1 := ⟨.bot :: .bot :: .ow 56 :: bt 48 [], [(56, .arr 25 3 (o5.map c25))]⟩) ?_
  refine V_ret ?_
  obtain rfl := some_inj h
  show Post _ _ _ _ _
  exact ⟨.inr rfl, rfl, rfl, rfl⟩
theorem cf_impl_primitiveOf : ∀ args w, (callFunc 106 args).run Tryz.prog w = .ok (.enter 106 args) w := run_callFunc Tryz.func106 (by kernel_rfl) (by kernel_rfl)
theorem s_impl_primitiveOf {forms1 : List ((Int × Int × Int))} {r : List ((Int × Int × Int))} (h : r_impl_primitiveOf forms1 = some r) : CallS Tryz.prog 106 [.c (.sl (forms1.map c25))] (.ow 0) [(0, .arr 25 3 (r.map c25))] := by
  refine CallS_of_text (rs := [.t 2]) (vs := [.tmp 2]) Tryz.func106 rfl rfl (.cons rfl FitsL.nil) (by decide) 22 rfl ?_
  unfold r_impl_primitiveOf at h
  show V _ _ ⟨.c (.sl (forms1.map c25)) :: bt 21 [], []⟩ _
  refine V_sreg (mb 22 1) [] (s1 := ⟨.c (.sl (forms1.map c25)) :: bt 21 [], []⟩) ?_ ?_
  ·refine L1 rfl rfl (Y1_nil (e := 25) 3 (by decide) (.inl rfl)) ?_
   exact XE
  refine V_sreg (mb 22 9) [48] (s1 := ⟨.c (.sl (forms1.map c25)) :: .bot :: .bot :: .ow 48 :: bt 18 [], [(48, .arr 25 3 ((([] : List ((Int × Int × Int)))).map c25))]⟩) ?_ ?_
  ·refine L1 rfl rfl (Y1_bslice0 Tryz.underlying38 sz25 (by decide) rfl rfl) ?_
   exact XE
  refine V_seq ?_
  refine V_sreg (mb 22 904) [48] (s1 := ⟨bt 3 (.ow 48 :: bt 3 (.c (.sl (forms1.map c25)) :: I ((forms1.length : Int)) :: I 0 :: bt 12 [])), [(48, .arr 25 3 ((([] : List ((Int × Int × Int)))).map c25))]⟩) ?_ ?_
  ·refine XR 1 ?_
   refine L0 rfl rfl (Y0_lenM (c := c25) (xs := forms1) Tryz.underlying38 rfl (by kernel_rfl)) ?_
   exact XE
  obtain ⟨o5, hLo5, h⟩ := of_bind h
  refine V_toK (mb 22 8) [48] (s1 := ⟨bt 3 (.ow 48 :: bt 18 []), [(48, .arr 25 3 (o5.map c25))]⟩) ?_ ?_
  ·clear h
   refine V_block (V_loop (fun n s => ∃ (t2 : Int) (l3 : List ((Int × Int × Int))), s.keep (mb 22 904) [48] = (⟨bt 3 (.ow 48 :: bt 3 (.c (.sl (forms1.map c25)) :: I ((forms1.length : Int)) :: I t2 :: bt 12 [])), [(48, .arr 25 3 (l3.map c25))]⟩ : St) ∧ r_impl_primitiveOf_L4 forms1 n t2 l3 = some o5) FU ⟨_, _,  by rfl, hLo5⟩ ?_)
   clear hLo5
   rintro n s ⟨t2, l3, hs, h⟩
   refine V_keep _ _ hs ?_
   clear hs
   cases n with
   | zero => cases h
   | succ n =>
    rw [r_impl_primitiveOf_L4] at h
    refine V_e (mb 22 1928) [48] (s1 := ⟨bt 3 (.ow 48 :: bt 3 (.c (.sl (forms1.map c25)) :: I ((forms1.length : Int)) :: I t2 :: Bo (ltI t2 ((forms1.length : Int))) :: bt 11 [])), [(48, .arr 25 3 (l3.map c25))]⟩) ?_
    refine V_seq ?_
    refine V_cond rfl (fun hc6 => ?_) (fun hc6 => ?_)
    ·have h := of_true h hc6
     refine V_skip ?_
     show V _ _ _ _
     refine V_seq ?_
     refine V_block ?_
     obtain ⟨e7, he7, h⟩ := of_bind h
     refine V_sreg (mb 22 936) [40, 48] (s1 := ⟨bt 3 (.ow 48 :: .bot :: .pt 40 0 :: .bot :: .c (.sl (forms1.map c25)) :: I ((forms1.length : Int)) :: I t2 :: bt 12 []), [(40, .box [Ti e7.1, Ti e7.2.1, Ti e7.2.2]), (48, .arr 25 3 (l3.map c25))]⟩) ?_ ?_
     ·refine L0 rfl rfl (Y0_idxM (c := c25) (xs := forms1) (v := e7) (n := t2) Tryz.underlying38 sz25 rfl (by kernel_rfl) (by kernel_rfl) he7) ?_
      exact XE
     obtain ⟨y8, hy8, h⟩ := of_bind h
     refine V_sreg (mb 22 33704) [40, 48] (s1 := ⟨bt 3 (.ow 48 :: .bot :: .pt 40 0 :: .bot :: .c (.sl (forms1.map c25)) :: I ((forms1.length : Int)) :: I t2 :: bt 5 (Bo (eqI y8 1) :: bt 6 [])), [(40, .box [Ti e7.1, Ti e7.2.1, Ti e7.2.2]), (48, .arr 25 3 (l3.map c25))]⟩) ?_ ?_
     ·refine XR 1 ?_
      refine XC (s_impl_Form_content hy8) cf_impl_Form_content rfl rfl rfl ?_
      exact XE
     refine V_cond rfl (fun hc9 => ?_) (fun hc9 => ?_)
     ·have h := of_true h hc9
      obtain ⟨u10, hu10, h⟩ := of_bind h
      refine V_reg (mb 22 904) [48] (s1 := ⟨bt 3 (.ow 48 :: bt 3 (.c (.sl (forms1.map c25)) :: I ((forms1.length : Int)) :: I t2 :: bt 12 [])), [(48, .arr 25 3 ((l3 ++ ([e7])).map c25))]⟩) ?_ ?_
      ·refine XR 2 ?_
       refine L1 rfl rfl (Y1_bslice (z := zv25) (els := [e7].map c25) Tryz.underlying38 iz25 rfl (by decide) rfl (by kernel_rfl) rfl (by simp [c25]) (by decide) (by decide)) ?_
       refine XL_cons rfl (X_appendM (c := c25) (xs := l3) (ys := [e7]) (id := 48) (z := zv25) rfl rfl Tryz.underlying38 izb25 rfl (by kernel_rfl) (by kernel_rfl) (by kernel_rfl) (fun _ => rfl) (by simp) (room_some hu10) (by decide)) ?_
       exact XE
      show V _ _ _ _
      obtain ⟨t11, ht11, h⟩ := of_sI h
      refine V_reg (mb 22 904) [48] (s1 := ⟨bt 3 (.ow 48 :: bt 3 (.c (.sl (forms1.map c25)) :: I ((forms1.length : Int)) :: I t11 :: bt 12 [])), [(48, .arr 25 3 ((l3 ++ ([e7])).map c25))]⟩) ?_ ?_
      ·refine XR 2 ?_
       refine XL_nil ?_
       subst ht11
       kernel_rfl
      exact ⟨n, Nat.lt_succ_self n, _, _,  by rfl, h⟩
     ·have h := of_false h hc9
      refine V_skip ?_
      show V _ _ _ _
      obtain ⟨t12, ht12, h⟩ := of_sI h
      refine V_reg (mb 22 904) [48] (s1 := ⟨bt 3 (.ow 48 :: bt 3 (.c (.sl (forms1.map c25)) :: I ((forms1.length : Int)) :: I t12 :: bt 12 [])), [(48, .arr 25 3 (l3.map c25))]⟩) ?_ ?_
      ·refine XR 2 ?_
       refine XL_nil ?_
       subst ht12
       kernel_rfl
      exact ⟨n, Nat.lt_succ_self n, _, _,  by rfl, h⟩
    ·have h := of_false h hc6
     refine V_exit ?_
     obtain rfl := some_inj h
     show St.keep _ _ _ = _
     rfl
  show V _ _ _ _
  refine V_e (mb 22 4) [48] (s1 := ⟨.bot :: .bot :: .ow 48 :: bt 19 [], [(48, .arr 25 3 (o5.map c25))]⟩) ?_
  refine V_ret ?_
  obtain rfl := some_inj h
  show Post _ _ _ _ _
  exact ⟨.inr rfl, rfl, rfl, rfl⟩
theorem cf_impl_reducedForms : ∀ args w, (callFunc 81 args).run Tryz.prog w = .ok (.enter 81 args) w := run_callFunc Tryz.func81 (by kernel_rfl) (by kernel_rfl)
theorem s_impl_reducedForms {d1 : Int} {r : List ((Int × Int × Int))} (h : r_impl_reducedForms d1 = some r) : CallS Tryz.prog 81 [I d1] (.ow 0) [(0, .arr 25 3 (r.map c25))] := by
  refine CallS_of_text (rs := [.t 2]) (vs := [.tmp 2]) Tryz.func81 rfl rfl (.cons rfl FitsL.nil) (by decide) 6 rfl ?_
  unfold r_impl_reducedForms at h
  show V _ _ ⟨I d1 :: bt 5 [], []⟩ _
  refine V_sreg (mb 6 1) [] (s1 := ⟨I d1 :: bt 5 [], []⟩) ?_ ?_
  ·refine L1 rfl rfl (Y1_nil (e := 25) 3 (by decide) (.inl rfl)) ?_
   exact XE
  obtain ⟨y2, hy2, h⟩ := of_bind h
  obtain ⟨y3, hy3, h⟩ := of_bind h
  refine V_sreg (mb 6 4) [40] (s1 := ⟨.bot :: .bot :: .ow 40 :: bt 3 [], [(40, .arr 25 3 (y3.map c25))]⟩) ?_ ?_
  ·refine XR 1 ?_
   refine XC (s_impl_allReduced hy2) cf_impl_allReduced rfl rfl rfl ?_
   refine L1 rfl rfl (Y1_callS (s_impl_primitiveOf hy3) cf_impl_primitiveOf rfl (by kernel_rfl) rfl (flatE_cons (fun _ => rfl) rfl)) ?_
   exact XE
  refine V_ret ?_
  obtain rfl := some_inj h
  show Post _ _ _ _ _
  exact ⟨.inr rfl, rfl, rfl, rfl⟩
theorem cf_impl_ReducedForms : ∀ args w, (callFunc 16 args).run Tryz.prog w = .ok (.enter 16 args) w := run_callFunc Tryz.func16 (by kernel_rfl) (by kernel_rfl)
theorem s_impl_ReducedForms {d1 : Int} {r : ((List ((Int × Int × Int))) × Bool)} (h : r_impl_ReducedForms d1 = some r) : CallS Tryz.prog 16 [I d1] (.tc (.ow 0) (.tc (Bo r.2) .tn)) [(0, .arr 25 3 (r.1.map c25))] := by
  refine CallS_of_text (rs := [.t 2, .t 3]) (vs := [.tmp 2, .tmp 3]) Tryz.func16 rfl rfl (.cons rfl (.cons rfl FitsL.nil)) (by decide) 10 rfl ?_
  unfold r_impl_ReducedForms at h
  show V _ _ ⟨I d1 :: bt 9 [], []⟩ _
  refine V_sreg (mb 10 1) [] (s1 := ⟨I d1 :: bt 9 [], []⟩) ?_ ?_
  ·refine L1 rfl rfl (Y1_nil (e := 25) 3 (by decide) (.inl rfl)) ?_
   exact XE
  refine V_seq ?_
  obtain ⟨y2, hy2, h⟩ := of_bind h
  refine V_sreg (mb 10 65) [] (s1 := ⟨I d1 :: bt 5 (Bo (!y2) :: bt 3 []), []⟩) ?_ ?_
  ·refine XR 1 ?_
   refine XC (s_impl_isNegativeDisc hy2) cf_impl_isNegativeDisc rfl rfl rfl ?_
   exact XE
  refine V_cond rfl (fun hc3 => ?_) (fun hc3 => ?_)
  ·have h := of_true h hc3
   refine V_sreg (mb 10 12) [56] (s1 := ⟨.bot :: .bot :: .ow 56 :: Bo false :: bt 6 [], [(56, .arr 25 3 ((([] : List ((Int × Int × Int)))).map c25))]⟩) ?_ ?_
   ·refine L1 rfl rfl (Y1_bslice0 Tryz.underlying38 sz25 (by decide) rfl rfl) ?_
    exact XE
   refine V_ret ?_
   obtain rfl := some_inj h
   show Post _ _ _ _ _
   exact ⟨.inr rfl, rfl, rfl, rfl⟩
  ·have h := of_false h hc3
   refine V_skip ?_
   show V _ _ _ _
   obtain ⟨y4, hy4, h⟩ := of_bind h
   refine V_sreg (mb 10 12) [72] (s1 := ⟨.bot :: .bot :: .ow 72 :: Bo true :: bt 6 [], [(72, .arr 25 3 (y4.map c25))]⟩) ?_ ?_
   ·refine XR 1 ?_
    refine XC (s_impl_reducedForms hy4) cf_impl_reducedForms rfl rfl rfl ?_
    exact XE
   refine V_ret ?_
   obtain rfl := some_inj h
   show Post _ _ _ _ _
   exact ⟨.inr rfl, rfl, rfl, rfl⟩
theorem cf_laws_numberOf : ∀ args w, (callFunc 17 args).run Tryz.prog w = .ok (.enter 17 args) w := run_callFunc Tryz.func17 (by kernel_rfl) (by kernel_rfl)
theorem s_laws_numberOf {b1 : List Int} {r : Int} (h : r_laws_numberOf b1 = some r) : CallS Tryz.prog 17 [.c (.sl (b1.map c5))] (I r) [] := by
  refine CallS_of_text (rs := [.t 2]) (vs := [.tmp 2]) Tryz.func17 rfl rfl (.cons rfl FitsL.nil) (by decide) 20 rfl ?_
  unfold r_laws_numberOf at h
  show V _ _ ⟨.c (.sl (b1.map c5)) :: bt 19 [], []⟩ _
  refine V_e (mb 20 1) [] (s1 := ⟨.c (.sl (b1.map c5)) :: bt 19 [], []⟩) ?_
  refine V_e (mb 20 9) [] (s1 := ⟨.c (.sl (b1.map c5)) :: .bot :: .bot :: I 0 :: bt 16 [], []⟩) ?_
  refine V_seq ?_
  refine V_sreg (mb 20 456) [] (s1 := ⟨bt 3 (I 0 :: .bot :: .bot :: .c (.sl (b1.map c5)) :: I ((b1.length : Int)) :: I 0 :: bt 11 []), []⟩) ?_ ?_
  ·refine XR 1 ?_
   refine L0 rfl rfl (Y0_lenM (c := c5) (xs := b1) Tryz.underlying22 rfl (by kernel_rfl)) ?_
   exact XE
  obtain ⟨o5, hLo5, h⟩ := of_bind h
  refine V_toK (mb 20 8) [] (s1 := ⟨bt 3 (I o5 :: bt 16 []), []⟩) ?_ ?_
  ·clear h
   refine V_block (V_loop (fun n s => ∃ (vn2 : Int) (t3 : Int), s.keep (mb 20 456) [] = (⟨bt 3 (I vn2 :: .bot :: .bot :: .c (.sl (b1.map c5)) :: I ((b1.length : Int)) :: I t3 :: bt 11 []), []⟩ : St) ∧ r_laws_numberOf_L4 b1 n vn2 t3 = some o5) FU ⟨_, _,  by rfl, hLo5⟩ ?_)
   clear hLo5
   rintro n s ⟨vn2, t3, hs, h⟩
   refine V_keep _ _ hs ?_
   clear hs
   cases n with
   | zero => cases h
   | succ n =>
    rw [r_laws_numberOf_L4] at h
    refine V_e (mb 20 968) [] (s1 := ⟨bt 3 (I vn2 :: .bot :: .bot :: .c (.sl (b1.map c5)) :: I ((b1.length : Int)) :: I t3 :: Bo (ltI t3 ((b1.length : Int))) :: bt 10 []), []⟩) ?_
    refine V_seq ?_
    refine V_cond rfl (fun hc6 => ?_) (fun hc6 => ?_)
    ·have h := of_true h hc6
     refine V_skip ?_
     show V _ _ _ _
     refine V_seq ?_
     refine V_block ?_
     obtain ⟨e7, he7, h⟩ := of_bind h
     refine V_sreg (mb 20 488) [] (s1 := ⟨bt 3 (I vn2 :: .bot :: .c (.v (.int .u8 e7)) :: .c (.sl (b1.map c5)) :: I ((b1.length : Int)) :: I t3 :: bt 11 []), []⟩) ?_ ?_
     ·refine L0 rfl rfl (Y0_idxM (c := c5) (xs := b1) (v := e7) (n := t3) Tryz.underlying22 sz5 rfl (by kernel_rfl) (by kernel_rfl) he7) ?_
      exact XE
     obtain ⟨vn8, hvn8, h⟩ := of_sI h
     refine V_reg (mb 20 456) [] (s1 := ⟨bt 3 (I vn8 :: .bot :: .bot :: .c (.sl (b1.map c5)) :: I ((b1.length : Int)) :: I t3 :: bt 11 []), []⟩) ?_ ?_
     ·refine XR 3 ?_
      refine L0 rfl rfl (Y0_conv (k2 := .u8) (a := e7) Tryz.underlying5 Tryz.underlying3 rfl (by kernel_rfl)) ?_
      refine XR 1 ?_
      refine L0 rfl rfl (Y0_rem (k := .i64) (a := w64 ((w64 (31 * vn2)) + (IntKind.i64.wrap e7))) (b := 1000003) rfl (by kernel_rfl) (by kernel_rfl) (by decide)) ?_
      refine XR 1 ?_
      refine XL_nil ?_
      subst hvn8
      kernel_rfl
     show V _ _ _ _
     obtain ⟨t9, ht9, h⟩ := of_sI h
     refine V_reg (mb 20 456) [] (s1 := ⟨bt 3 (I vn8 :: .bot :: .bot :: .c (.sl (b1.map c5)) :: I ((b1.length : Int)) :: I t9 :: bt 11 []), []⟩) ?_ ?_
     ·refine XR 2 ?_
      refine XL_nil ?_
      subst ht9
      kernel_rfl
     exact ⟨n, Nat.lt_succ_self n, _, _,  by rfl, h⟩
    ·have h := of_false h hc6
     refine V_exit ?_
     obtain rfl := some_inj h
     show St.keep _ _ _ = _
     rfl
  show V _ _ _ _
  refine V_e (mb 20 4) [] (s1 := ⟨.bot :: .bot :: I o5 :: bt 17 [], []⟩) ?_
  refine V_ret ?_
  obtain rfl := some_inj h
  show Post _ _ _ _ _
  exact ⟨.inr rfl, rfl, rfl, rfl⟩
theorem cf_impl_arePair : ∀ args w, (callFunc 82 args).run Tryz.prog w = .ok (.enter 82 args) w := run_callFunc Tryz.func82 (by kernel_rfl) (by kernel_rfl)
theorem s_impl_arePair {f1 : (Int × Int × Int)} {g2 : (Int × Int × Int)} {r : Bool} (h : r_impl_arePair f1 g2 = some r) : CallS Tryz.prog 82 [.ag [Ti f1.1, Ti f1.2.1, Ti f1.2.2], .ag [Ti g2.1, Ti g2.2.1, Ti g2.2.2]] (Bo r) [] := by
  refine CallS_of_text (rs := [.t 4]) (vs := [.tmp 4]) Tryz.func82 rfl rfl (.cons rfl FitsL.nil) (by decide) 18 rfl ?_
  unfold r_impl_arePair at h
  show V _ _ ⟨.ag [Ti f1.1, Ti f1.2.1, Ti f1.2.2] :: .ag [Ti g2.1, Ti g2.2.1, Ti g2.2.2] :: bt 16 [], []⟩ _
  refine V_e (mb 18 12) [24, 16] (s1 := ⟨.bot :: .bot :: .pt 16 0 :: .pt 24 0 :: bt 14 [], [(24, .box [Ti g2.1, Ti g2.2.1, Ti g2.2.2]), (16, .box [Ti f1.1, Ti f1.2.1, Ti f1.2.2])]⟩) ?_
  obtain ⟨y3, hy3, h⟩ := of_bind h
  obtain ⟨b6, hb6, h⟩ := of_bind h
  obtain ⟨b10, hb10, h⟩ := of_bind h
  refine V_sdreg [0, 1, 3, 7, 15, 31, 63, 127, 255, 127, 1023, 2047, 4095, 8191] 14 (cdm 14 [0, 1, 5, 21, 85, 341, 1365, 529749, 546133, 169301, 349525, 1398101, 5592405, 22369621]) (mb 18 16) [] (s1 := ⟨bt 4 (Bo b10 :: bt 13 []), []⟩) (by kernel_rfl) (by kernel_rfl) ?_ ?_
  ·refine DR 1 ?_
   refine DC 1 (s_impl_isClassForm hy3) cf_impl_isClassForm rfl rfl rfl rfl 6 rfl ?_
   refine DR 1 ?_
   refine DL_split y3 (fun hc4 => ?_) (fun hc4 => ?_)
   ·have hb6 := of_true hb6 hc4
    obtain ⟨y5, hy5, hb6⟩ := of_bind hb6
    have hb6 := some_inj hb6
    refine DE_0 3 (.ag [Ti g2.1, Ti g2.2.1, Ti g2.2.2]) (by kernel_rfl) rfl rfl rfl (gsat_C (y3) rfl rfl (by kernel_rfl) hc4) (by kernel_rfl) (E_loadn (cs := [Ti g2.1, Ti g2.2.1, Ti g2.2.2]) [Ti g2.1, Ti g2.2.1, Ti g2.2.2] wd25 rfl (by kernel_rfl) (Nat.le_of_ble_eq_true rfl) (by kernel_rfl)) 8 rfl ?_
    refine DE_1 4 (by kernel_rfl) rfl rfl rfl (gsat_C (y3) rfl rfl (by kernel_rfl) hc4) (Y1_call (s_impl_isClassForm hy5) cf_impl_isClassForm rfl (by kernel_rfl)) rfl rfl rfl 9 rfl ?_
    refine DE_0 5 (Bo (b6)) (by kernel_rfl) rfl rfl rfl (gsat_none rfl) (by kernel_rfl) (Y0_pickTe (b := y3) (p := y5) rfl (by kernel_rfl) hc4 (by kernel_rfl) hb6) 10 rfl ?_
    refine DR 1 ?_
    refine DL_split b6 (fun hc7 => ?_) (fun hc7 => ?_)
    ·have hb10 := of_true hb10 hc7
     obtain ⟨y8, hy8, hb10⟩ := of_bind hb10
     obtain ⟨y9, hy9, hb10⟩ := of_bind hb10
     have hb10 := some_inj hb10
     refine DE_0 7 (.ag [Ti f1.1, Ti f1.2.1, Ti f1.2.2]) (by kernel_rfl) rfl rfl rfl (gsat_C (b6) rfl rfl (by kernel_rfl) hc7) (by kernel_rfl) (E_loadn (cs := [Ti f1.1, Ti f1.2.1, Ti f1.2.2]) [Ti f1.1, Ti f1.2.1, Ti f1.2.2] wd25 rfl (by kernel_rfl) (Nat.le_of_ble_eq_true rfl) (by kernel_rfl)) 12 rfl ?_
     refine DE_1 8 (by kernel_rfl) rfl rfl rfl (gsat_C (b6) rfl rfl (by kernel_rfl) hc7) (Y1_call (s_impl_Form_disc hy8) cf_impl_Form_disc rfl (by kernel_rfl)) rfl rfl rfl 13 rfl ?_
     refine DE_0 9 (.ag [Ti g2.1, Ti g2.2.1, Ti g2.2.2]) (by kernel_rfl) rfl rfl rfl (gsat_C (b6) rfl rfl (by kernel_rfl) hc7) (by kernel_rfl) (E_loadn (cs := [Ti g2.1, Ti g2.2.1, Ti g2.2.2]) [Ti g2.1, Ti g2.2.1, Ti g2.2.2] wd25 rfl (by kernel_rfl) (Nat.le_of_ble_eq_true rfl) (by kernel_rfl)) 14 rfl ?_
     refine DE_1 10 (by kernel_rfl) rfl rfl rfl (gsat_C (b6) rfl rfl (by kernel_rfl) hc7) (Y1_call (s_impl_Form_disc hy9) cf_impl_Form_disc rfl (by kernel_rfl)) rfl rfl rfl 15 rfl ?_
     refine DE_0 11 (Bo (eqI y8 y9)) (by kernel_rfl) rfl rfl rfl (gsat_C (b6) rfl rfl (by kernel_rfl) hc7) (by kernel_rfl) (Y0_eqw (k := .i64) (a := y8) (b := y9) rfl (by kernel_rfl) (by kernel_rfl)) 16 rfl ?_
     refine DE_0 12 (Bo (b10)) (by kernel_rfl) rfl rfl rfl (gsat_none rfl) (by kernel_rfl) (Y0_pickTe (b := b6) (p := eqI y8 y9) rfl (by kernel_rfl) hc7 (by kernel_rfl) hb10) 17 rfl ?_
     refine DA 1 ?_
     exact XE
    ·have hb10 := some_inj (of_false hb10 hc7)
     refine DE_t 7 (by kernel_rfl) rfl rfl rfl (gun_T (b6) rfl rfl (by kernel_rfl) hc7) 12 rfl ?_
     refine DE_t 8 (by kernel_rfl) rfl rfl rfl (gun_T (b6) rfl rfl (by kernel_rfl) hc7) 13 rfl ?_
     refine DE_t 9 (by kernel_rfl) rfl rfl rfl (gun_T (b6) rfl rfl (by kernel_rfl) hc7) 14 rfl ?_
     refine DE_t 10 (by kernel_rfl) rfl rfl rfl (gun_T (b6) rfl rfl (by kernel_rfl) hc7) 15 rfl ?_
     refine DE_t 11 (by kernel_rfl) rfl rfl rfl (gun_T (b6) rfl rfl (by kernel_rfl) hc7) 16 rfl ?_
     refine DE_0 12 (Bo (b10)) (by kernel_rfl) rfl rfl rfl (gsat_none rfl) (by kernel_rfl) (Y0_pickFe (b := b6) (p := false) rfl (by kernel_rfl) hc7 (by kernel_rfl) hb10) 17 rfl ?_
     refine DA 1 ?_
     exact XE
   ·have hb6 := some_inj (of_false hb6 hc4)
    refine DE_t 3 (by kernel_rfl) rfl rfl rfl (gun_T (y3) rfl rfl (by kernel_rfl) hc4) 8 rfl ?_
    refine DE_t 4 (by kernel_rfl) rfl rfl rfl (gun_T (y3) rfl rfl (by kernel_rfl) hc4) 9 rfl ?_
    refine DE_0 5 (Bo (b6)) (by kernel_rfl) rfl rfl rfl (gsat_none rfl) (by kernel_rfl) (Y0_pickFe (b := y3) (p := false) rfl (by kernel_rfl) hc4 (by kernel_rfl) hb6) 10 rfl ?_
    refine DR 1 ?_
    refine DL_split b6 (fun hc7 => ?_) (fun hc7 => ?_)
    ·have hb10 := of_true hb10 hc7
     obtain ⟨y8, hy8, hb10⟩ := of_bind hb10
     obtain ⟨y9, hy9, hb10⟩ := of_bind hb10
     have hb10 := some_inj hb10
     refine DE_0 7 (.ag [Ti f1.1, Ti f1.2.1, Ti f1.2.2]) (by kernel_rfl) rfl rfl rfl (gsat_C (b6) rfl rfl (by kernel_rfl) hc7) (by kernel_rfl) (E_loadn (cs := [Ti f1.1, Ti f1.2.1, Ti f1.2.2]) [Ti f1.1, Ti f1.2.1, Ti f1.2.2] wd25 rfl (by kernel_rfl) (Nat.le_of_ble_eq_true rfl) (by kernel_rfl)) 12 rfl ?_
     refine DE_1 8 (by kernel_rfl) rfl rfl rfl (gsat_C (b6) rfl rfl (by kernel_rfl) hc7) (Y1_call (s_impl_Form_disc hy8) cf_impl_Form_disc rfl (by kernel_rfl)) rfl rfl rfl 13 rfl ?_
     refine DE_0 9 (.ag [Ti g2.1, Ti g2.2.1, Ti g2.2.2]) (by kernel_rfl) rfl rfl rfl (gsat_C (b6) rfl rfl (by kernel_rfl) hc7) (by kernel_rfl) (E_loadn (cs := [Ti g2.1, Ti g2.2.1, Ti g2.2.2]) [Ti g2.1, Ti g2.2.1, Ti g2.2.2] wd25 rfl (by kernel_rfl) (Nat.le_of_ble_eq_true rfl) (by kernel_rfl)) 14 rfl ?_
     refine DE_1 10 (by kernel_rfl) rfl rfl rfl (gsat_C (b6) rfl rfl (by kernel_rfl) hc7) (Y1_call (s_impl_Form_disc hy9) cf_impl_Form_disc rfl (by kernel_rfl)) rfl rfl rfl 15 rfl ?_
     refine DE_0 11 (Bo (eqI y8 y9)) (by kernel_rfl) rfl rfl rfl (gsat_C (b6) rfl rfl (by kernel_rfl) hc7) (by kernel_rfl) (Y0_eqw (k := .i64) (a := y8) (b := y9) rfl (by kernel_rfl) (by kernel_rfl)) 16 rfl ?_
     refine DE_0 12 (Bo (b10)) (by kernel_rfl) rfl rfl rfl (gsat_none rfl) (by kernel_rfl) (Y0_pickTe (b := b6) (p := eqI y8 y9) rfl (by kernel_rfl) hc7 (by kernel_rfl) hb10) 17 rfl ?_
     refine DA 1 ?_
     exact XE
    ·have hb10 := some_inj (of_false hb10 hc7)
     refine DE_t 7 (by kernel_rfl) rfl rfl rfl (gun_T (b6) rfl rfl (by kernel_rfl) hc7) 12 rfl ?_
     refine DE_t 8 (by kernel_rfl) rfl rfl rfl (gun_T (b6) rfl rfl (by kernel_rfl) hc7) 13 rfl ?_
     refine DE_t 9 (by kernel_rfl) rfl rfl rfl (gun_T (b6) rfl rfl (by kernel_rfl) hc7) 14 rfl ?_
     refine DE_t 10 (by kernel_rfl) rfl rfl rfl (gun_T (b6) rfl rfl (by kernel_rfl) hc7) 15 rfl ?_
     refine DE_t 11 (by kernel_rfl) rfl rfl rfl (gun_T (b6) rfl rfl (by kernel_rfl) hc7) 16 rfl ?_
     refine DE_0 12 (Bo (b10)) (by kernel_rfl) rfl rfl rfl (gsat_none rfl) (by kernel_rfl) (Y0_pickFe (b := b6) (p := false) rfl (by kernel_rfl) hc7 (by kernel_rfl) hb10) 17 rfl ?_
     refine DA 1 ?_
     exact XE
  refine V_ret ?_
  obtain rfl := some_inj h
  show Post _ _ _ _ _
  exact ⟨.inr rfl, rfl, rfl, rfl⟩
theorem cf_impl_reduced : ∀ args w, (callFunc 96 args).run Tryz.prog w = .ok (.enter 96 args) w := run_callFunc Tryz.func96 (by kernel_rfl) (by kernel_rfl)
theorem s_impl_reduced {f1 : (Int × Int × Int)} {r : (Int × Int × Int)} (h : r_impl_reduced f1 = some r) : CallS Tryz.prog 96 [.ag [Ti f1.1, Ti f1.2.1, Ti f1.2.2]] (.ag [Ti r.1, Ti r.2.1, Ti r.2.2]) [] := by
  refine CallS_of_text (rs := [.w 2 3]) (vs := [.cell 2 25]) Tryz.func96 rfl rfl (.cons ⟨rfl, wd25⟩ FitsL.nil) (by decide) 11 rfl ?_
  unfold r_impl_reduced at h
  show V _ _ ⟨.ag [Ti f1.1, Ti f1.2.1, Ti f1.2.2] :: bt 10 [], []⟩ _
  refine V_e (mb 11 6) [16, 8] (s1 := ⟨.bot :: .pt 8 0 :: .pt 16 0 :: bt 8 [], [(16, .box [Ti 0, Ti 0, Ti 0]), (8, .box [Ti f1.1, Ti f1.2.1, Ti f1.2.2])]⟩) ?_
  obtain ⟨y2, hy2, h⟩ := of_bind h
  refine V_sreg (mb 11 12) [24, 16] (s1 := ⟨.bot :: .bot :: .pt 16 0 :: .pt 24 0 :: bt 7 [], [(24, .box [Ti y2.1.1, Ti y2.1.2.1, Ti y2.1.2.2]), (16, .box [Ti 0, Ti 0, Ti 0])]⟩) ?_ ?_
  ·refine XR 1 ?_
   refine XC (s_impl_reduce hy2) cf_impl_reduce rfl rfl rfl ?_
   exact XE
  refine V_e (mb 11 4) [16] (s1 := ⟨.bot :: .bot :: .pt 16 0 :: bt 8 [], [(16, .box [Ti y2.1.1, Ti y2.1.2.1, Ti y2.1.2.2])]⟩) ?_
  refine V_ret ?_
  obtain rfl := some_inj h
  show Post _ _ _ _ _
  exact ⟨.inr rfl, rfl, rfl, rfl⟩
theorem cf_impl_unite : ∀ args w, (callFunc 173 args).run Tryz.prog w = .ok (.enter 173 args) w := run_callFunc Tryz.func173 (by kernel_rfl) (by kernel_rfl)
theorem s_impl_unite {f1 : (Int × Int × Int)} {g2 : (Int × Int × Int)} {r : (Int × Int × Int × Int × ((Int × Int × Int × Int)) × ((Int × Int × Int × Int)))} (h : r_impl_unite f1 g2 = some r) : CallS Tryz.prog 173 [.ag [Ti f1.1, Ti f1.2.1, Ti f1.2.2], .ag [Ti g2.1, Ti g2.2.1, Ti g2.2.2]] (.ag [Ti r.1, Ti r.2.1, Ti r.2.2.1, Ti r.2.2.2.1, Ti r.2.2.2.2.1.1, Ti r.2.2.2.2.1.2.1, Ti r.2.2.2.2.1.2.2.1, Ti r.2.2.2.2.1.2.2.2, Ti r.2.2.2.2.2.1, Ti r.2.2.2.2.2.2.1, Ti r.2.2.2.2.2.2.2.1, Ti r.2.2.2.2.2.2.2.2]) [] := by
  refine CallS_of_text (rs := [.w 4 12]) (vs := [.cell 4 137]) Tryz.func173 rfl rfl (.cons ⟨rfl, wd137⟩ FitsL.nil) (by decide) 103 rfl ?_
  unfold r_impl_unite at h
  show V _ _ ⟨.ag [Ti f1.1, Ti f1.2.1, Ti f1.2.2] :: .ag [Ti g2.1, Ti g2.2.1, Ti g2.2.2] :: bt 101 [], []⟩ _
  refine V_e (mb 103 28) [32, 24, 16] (s1 := ⟨.bot :: .bot :: .pt 16 0 :: .pt 24 0 :: .pt 32 0 :: bt 98 [], [(32, .box [Ti 0, Ti 0, Ti 0, Ti 0, Ti 0, Ti 0, Ti 0, Ti 0, Ti 0, Ti 0, Ti 0, Ti 0]), (24, .box [Ti g2.1, Ti g2.2.1, Ti g2.2.2]), (16, .box [Ti f1.1, Ti f1.2.1, Ti f1.2.2])]⟩) ?_
  obtain ⟨y3, hy3, h⟩ := of_bind h
  refine V_sreg (mb 103 124) [32, 24, 16] (s1 := ⟨.bot :: .bot :: .pt 16 0 :: .pt 24 0 :: .pt 32 0 :: I y3.1 :: I y3.2 :: bt 96 [], [(32, .box [Ti 0, Ti 0, Ti 0, Ti 0, Ti 0, Ti 0, Ti 0, Ti 0, Ti 0, Ti 0, Ti 0, Ti 0]), (24, .box [Ti g2.1, Ti g2.2.1, Ti g2.2.2]), (16, .box [Ti f1.1, Ti f1.2.1, Ti f1.2.2])]⟩) ?_ ?_
  ·refine XR 3 ?_
   refine XC (s_impl_firstPoint hy3) cf_impl_firstPoint rfl rfl rfl ?_
   exact XE
  obtain ⟨y4, hy4, h⟩ := of_bind h
  refine V_sreg (mb 103 404) [64, 56, 32, 16] (s1 := ⟨.bot :: .bot :: .pt 16 0 :: .bot :: .pt 32 0 :: .bot :: .bot :: .pt 56 0 :: .pt 64 0 :: bt 94 [], [(64, .box [Ti y4.2.1, Ti y4.2.2.1, Ti y4.2.2.2.1, Ti y4.2.2.2.2]), (56, .box [Ti y4.1.1, Ti y4.1.2.1, Ti y4.1.2.2]), (32, .box [Ti 0, Ti 0, Ti 0, Ti 0, Ti 0, Ti 0, Ti 0, Ti 0, Ti 0, Ti 0, Ti 0, Ti 0]), (16, .box [Ti f1.1, Ti f1.2.1, Ti f1.2.2])]⟩) ?_ ?_
  ·refine XR 3 ?_
   refine XC (s_impl_Form_complete hy4) cf_impl_Form_complete rfl rfl rfl ?_
   exact XE
  obtain ⟨y5, hy5, h⟩ := of_bind h
  refine V_sdreg [0, 1, 0, 4, 0, 16, 0, 64, 192, 496, 1023, 0, 4095] 12 (cdm 12 [9087648, 9087649, 9087498, 9087514, 8560810, 8561066, 8391338, 8395434, 8411818, 8476074, 8738133, 2796202]) (mb 103 916) [72, 64, 56, 32, 16] (s1 := ⟨.bot :: .bot :: .pt 16 0 :: .bot :: .pt 32 0 :: .bot :: .bot :: .pt 56 0 :: .pt 64 0 :: .pt 72 0 :: bt 93 [], [(72, .box [Ti f1.1, Ti y4.1.1, Ti y5, Ti 0, Ti 0, Ti 0, Ti 0, Ti 0, Ti 0, Ti 0, Ti 0, Ti 0]), (64, .box [Ti y4.2.1, Ti y4.2.2.1, Ti y4.2.2.2.1, Ti y4.2.2.2.2]), (56, .box [Ti y4.1.1, Ti y4.1.2.1, Ti y4.1.2.2]), (32, .box [Ti 0, Ti 0, Ti 0, Ti 0, Ti 0, Ti 0, Ti 0, Ti 0, Ti 0, Ti 0, Ti 0, Ti 0]), (16, .box [Ti f1.1, Ti f1.2.1, Ti f1.2.2])]⟩) (by kernel_rfl) (by kernel_rfl) ?_ ?_
  ·refine DR 9 ?_
   refine DC 9 (s_impl_mod hy5) cf_impl_mod rfl rfl rfl rfl 33 rfl ?_
   refine DE_0 10 (.ag [Ti f1.1, Ti y4.1.1, Ti y5, Ti 0, Ti 0, Ti 0, Ti 0, Ti 0, Ti 0, Ti 0, Ti 0, Ti 0]) (by kernel_rfl) rfl rfl rfl (gsat_none rfl) (by kernel_rfl) (Y0_build (cs := [Ti f1.1, Ti y4.1.1, Ti y5, Ti 0, Ti 0, Ti 0, Ti 0, Ti 0, Ti 0, Ti 0, Ti 0, Ti 0]) pl137 bt137 rfl rfl (by kernel_rfl)) 34 rfl ?_
   refine DA 1 ?_
   exact XE
  refine V_seq ?_
  obtain ⟨o8, hLo8, h⟩ := of_bind h
  refine V_toK (mb 103 916) [72, 64, 56, 32, 16] (s1 := ⟨.bot :: .bot :: .pt 16 0 :: .bot :: .pt 32 0 :: .bot :: .bot :: .pt 56 0 :: .pt 64 0 :: .pt 72 0 :: bt 93 [], [(72, .box [Ti f1.1, Ti y4.1.1, Ti o8, Ti 0, Ti 0, Ti 0, Ti 0, Ti 0, Ti 0, Ti 0, Ti 0, Ti 0]), (64, .box [Ti y4.2.1, Ti y4.2.2.1, Ti y4.2.2.2.1, Ti y4.2.2.2.2]), (56, .box [Ti y4.1.1, Ti y4.1.2.1, Ti y4.1.2.2]), (32, .box [Ti 0, Ti 0, Ti 0, Ti 0, Ti 0, Ti 0, Ti 0, Ti 0, Ti 0, Ti 0, Ti 0, Ti 0]), (16, .box [Ti f1.1, Ti f1.2.1, Ti f1.2.2])]⟩) ?_ ?_
  ·clear h
   refine V_block (V_loop (fun n s => ∃ (f6 : Int), s.keep (mb 103 916) [72, 64, 56, 32, 16] = (⟨.bot :: .bot :: .pt 16 0 :: .bot :: .pt 32 0 :: .bot :: .bot :: .pt 56 0 :: .pt 64 0 :: .pt 72 0 :: bt 93 [], [(72, .box [Ti f1.1, Ti y4.1.1, Ti f6, Ti 0, Ti 0, Ti 0, Ti 0, Ti 0, Ti 0, Ti 0, Ti 0, Ti 0]), (64, .box [Ti y4.2.1, Ti y4.2.2.1, Ti y4.2.2.2.1, Ti y4.2.2.2.2]), (56, .box [Ti y4.1.1, Ti y4.1.2.1, Ti y4.1.2.2]), (32, .box [Ti 0, Ti 0, Ti 0, Ti 0, Ti 0, Ti 0, Ti 0, Ti 0, Ti 0, Ti 0, Ti 0, Ti 0]), (16, .box [Ti f1.1, Ti f1.2.1, Ti f1.2.2])]⟩ : St) ∧ r_impl_unite_L7 f1 y4 n f6 = some o8) FU ⟨_,  by rfl, hLo8⟩ ?_)
   clear hLo8
   rintro n s ⟨f6, hs, h⟩
   refine V_keep _ _ hs ?_
   clear hs
   cases n with
   | zero => cases h
   | succ n =>
    rw [r_impl_unite_L7] at h
    refine V_seq ?_
    obtain ⟨y9, hy9, h⟩ := of_bind h
    refine V_sreg (mb 103 17592186045332) [72, 64, 56, 32, 16] (s1 := ⟨.bot :: .bot :: .pt 16 0 :: .bot :: .pt 32 0 :: .bot :: .bot :: .pt 56 0 :: .pt 64 0 :: .pt 72 0 :: bt 34 (Bo (!eqI y9 0) :: bt 58 []), [(72, .box [Ti f1.1, Ti y4.1.1, Ti f6, Ti 0, Ti 0, Ti 0, Ti 0, Ti 0, Ti 0, Ti 0, Ti 0, Ti 0]), (64, .box [Ti y4.2.1, Ti y4.2.2.1, Ti y4.2.2.2.1, Ti y4.2.2.2.2]), (56, .box [Ti y4.1.1, Ti y4.1.2.1, Ti y4.1.2.2]), (32, .box [Ti 0, Ti 0, Ti 0, Ti 0, Ti 0, Ti 0, Ti 0, Ti 0, Ti 0, Ti 0, Ti 0, Ti 0]), (16, .box [Ti f1.1, Ti f1.2.1, Ti f1.2.2])]⟩) ?_ ?_
    ·refine XR 8 ?_
     refine XC (s_impl_mod hy9) cf_impl_mod rfl rfl rfl ?_
     exact XE
    refine V_cond rfl (fun hc10 => ?_) (fun hc10 => ?_)
    ·have h := of_true h hc10
     refine V_skip ?_
     show V _ _ _ _
     refine V_block ?_
     obtain ⟨f11, hf11, h⟩ := of_sI h
     refine V_reg (mb 103 916) [72, 64, 56, 32, 16] (s1 := ⟨.bot :: .bot :: .pt 16 0 :: .bot :: .pt 32 0 :: .bot :: .bot :: .pt 56 0 :: .pt 64 0 :: .pt 72 0 :: bt 93 [], [(72, .box [Ti f1.1, Ti y4.1.1, Ti f11, Ti 0, Ti 0, Ti 0, Ti 0, Ti 0, Ti 0, Ti 0, Ti 0, Ti 0]), (64, .box [Ti y4.2.1, Ti y4.2.2.1, Ti y4.2.2.2.1, Ti y4.2.2.2.2]), (56, .box [Ti y4.1.1, Ti y4.1.2.1, Ti y4.1.2.2]), (32, .box [Ti 0, Ti 0, Ti 0, Ti 0, Ti 0, Ti 0, Ti 0, Ti 0, Ti 0, Ti 0, Ti 0, Ti 0]), (16, .box [Ti f1.1, Ti f1.2.1, Ti f1.2.2])]⟩) ?_ ?_
     ·refine XR 8 ?_
      refine XL_nil ?_
      subst hf11
      kernel_rfl
     exact ⟨n, Nat.lt_succ_self n, _,  by rfl, h⟩
    ·have h := of_false h hc10
     refine V_exit ?_
     obtain rfl := some_inj h
     show St.keep _ _ _ = _
     rfl
  show V _ _ _ _
  obtain ⟨y12, hy12, h⟩ := of_bind h
  refine V_sreg (mb 103 916) [72, 64, 56, 32, 16] (s1 := ⟨.bot :: .bot :: .pt 16 0 :: .bot :: .pt 32 0 :: .bot :: .bot :: .pt 56 0 :: .pt 64 0 :: .pt 72 0 :: bt 93 [], [(72, .box [Ti f1.1, Ti y4.1.1, Ti y12, Ti 0, Ti 0, Ti 0, Ti 0, Ti 0, Ti 0, Ti 0, Ti 0, Ti 0]), (64, .box [Ti y4.2.1, Ti y4.2.2.1, Ti y4.2.2.2.1, Ti y4.2.2.2.2]), (56, .box [Ti y4.1.1, Ti y4.1.2.1, Ti y4.1.2.2]), (32, .box [Ti 0, Ti 0, Ti 0, Ti 0, Ti 0, Ti 0, Ti 0, Ti 0, Ti 0, Ti 0, Ti 0, Ti 0]), (16, .box [Ti f1.1, Ti f1.2.1, Ti f1.2.2])]⟩) ?_ ?_
  ·refine XR 8 ?_
   refine XC (s_impl_mod hy12) cf_impl_mod rfl rfl rfl ?_
   exact XE
  obtain ⟨y13, hy13, h⟩ := of_bind h
  obtain ⟨z14, hz14, h⟩ := of_bind h
  obtain ⟨f15, hf15, h⟩ := of_sI h
  refine V_sdreg [0, 1, 0, 4, 15, 0, 32, 127, 0, 256, 768, 0, 2048, 7936, 16383, 32767, 65535] 16 (cdm 16 [178923680, 178923681, 178923530, 178923546, 178923605, 178913962, 178914986, 178918741, 41986730, 42052266, 42314410, 2796202, 6990506, 22391466, 89478485, 357913941]) (mb 103 916) [72, 64, 56, 32, 16] (s1 := ⟨.bot :: .bot :: .pt 16 0 :: .bot :: .pt 32 0 :: .bot :: .bot :: .pt 56 0 :: .pt 64 0 :: .pt 72 0 :: bt 93 [], [(72, .box [Ti f1.1, Ti y4.1.1, Ti y12, Ti f15, Ti 0, Ti 0, Ti 0, Ti 0, Ti 0, Ti 0, Ti 0, Ti 0]), (64, .box [Ti y4.2.1, Ti y4.2.2.1, Ti y4.2.2.2.1, Ti y4.2.2.2.2]), (56, .box [Ti y4.1.1, Ti y4.1.2.1, Ti y4.1.2.2]), (32, .box [Ti 0, Ti 0, Ti 0, Ti 0, Ti 0, Ti 0, Ti 0, Ti 0, Ti 0, Ti 0, Ti 0, Ti 0]), (16, .box [Ti f1.1, Ti f1.2.1, Ti f1.2.2])]⟩) (by kernel_rfl) (by kernel_rfl) ?_ ?_
  ·refine DR 6 ?_
   refine DC 6 (s_impl_Form_disc hy13) cf_impl_Form_disc rfl rfl rfl rfl 68 rfl ?_
   refine DR 7 ?_
   refine DE_0 14 (I (w64 (Int.tdiv (w64 ((w64 (y12 * y12)) - y13)) (w64 ((w64 (4 * f1.1)) * y4.1.1))))) (by kernel_rfl) rfl rfl rfl (gsat_none rfl) (by kernel_rfl) (Y0_quo64 (a := w64 ((w64 (y12 * y12)) - y13)) (b := w64 ((w64 (4 * f1.1)) * y4.1.1)) rfl (by kernel_rfl) (by kernel_rfl) (nz_some hz14)) 76 rfl ?_
   refine DA 1 ?_
   refine XR 1 ?_
   refine XL_nil ?_
   subst hf15
   kernel_rfl
  obtain ⟨z16, hz16, h⟩ := of_bind h
  obtain ⟨f17, hf17, h⟩ := of_sI h
  refine V_sreg (mb 103 912) [72, 64, 56, 32] (s1 := ⟨bt 4 (.pt 32 0 :: .bot :: .bot :: .pt 56 0 :: .pt 64 0 :: .pt 72 0 :: bt 93 []), [(72, .box [Ti f1.1, Ti y4.1.1, Ti y12, Ti f15, Ti 1, Ti f17, Ti 0, Ti 1, Ti 0, Ti 0, Ti 0, Ti 0]), (64, .box [Ti y4.2.1, Ti y4.2.2.1, Ti y4.2.2.2.1, Ti y4.2.2.2.2]), (56, .box [Ti y4.1.1, Ti y4.1.2.1, Ti y4.1.2.2]), (32, .box [Ti 0, Ti 0, Ti 0, Ti 0, Ti 0, Ti 0, Ti 0, Ti 0, Ti 0, Ti 0, Ti 0, Ti 0])]⟩) ?_ ?_
  ·refine XR 8 ?_
   refine L0 rfl rfl (Y0_quo64 (a := w64 (y12 - f1.2.1)) (b := w64 (2 * f1.1)) rfl (by kernel_rfl) (by kernel_rfl) (nz_some hz16)) ?_
   refine L0 rfl rfl (Y0_build (cs := [Ti 1, Ti (w64 (Int.tdiv (w64 (y12 - f1.2.1)) (w64 (2 * f1.1)))), Ti 0, Ti 1]) pl31 bt31 rfl rfl (by kernel_rfl)) ?_
   refine XR 2 ?_
   refine XL_nil ?_
   subst hf17
   kernel_rfl
  obtain ⟨z18, hz18, h⟩ := of_bind h
  obtain ⟨y19, hy19, h⟩ := of_bind h
  refine V_sdreg [0, 0, 2, 0, 8, 30, 0, 64, 192, 510, 1022, 2047, 4095, 8191] 13 (cdm 13 [2796200, 172674, 172678, 172074, 172138, 172374, 2730, 6826, 23210, 87382, 349526, 1398101, 5592405]) (mb 103 528) [72, 32] (s1 := ⟨bt 4 (.pt 32 0 :: bt 4 (.pt 72 0 :: bt 93 [])), [(72, .box [Ti f1.1, Ti y4.1.1, Ti y12, Ti f15, Ti 1, Ti f17, Ti 0, Ti 1, Ti y19.1, Ti y19.2.1, Ti y19.2.2.1, Ti y19.2.2.2]), (32, .box [Ti 0, Ti 0, Ti 0, Ti 0, Ti 0, Ti 0, Ti 0, Ti 0, Ti 0, Ti 0, Ti 0, Ti 0])]⟩) (by kernel_rfl) (by kernel_rfl) ?_ ?_
  ·refine DR 9 ?_
   refine DE_0 9 (I (w64 (Int.tdiv (w64 (y12 - y4.1.2.1)) (w64 (2 * y4.1.1))))) (by kernel_rfl) rfl rfl rfl (gsat_none rfl) (by kernel_rfl) (Y0_quo64 (a := w64 (y12 - y4.1.2.1)) (b := w64 (2 * y4.1.1)) rfl (by kernel_rfl) (by kernel_rfl) (nz_some hz18)) 98 rfl ?_
   refine DE_0 10 (.ag [Ti 1, Ti (w64 (Int.tdiv (w64 (y12 - y4.1.2.1)) (w64 (2 * y4.1.1)))), Ti 0, Ti 1]) (by kernel_rfl) rfl rfl rfl (gsat_none rfl) (by kernel_rfl) (Y0_build (cs := [Ti 1, Ti (w64 (Int.tdiv (w64 (y12 - y4.1.2.1)) (w64 (2 * y4.1.1)))), Ti 0, Ti 1]) pl31 bt31 rfl rfl (by kernel_rfl)) 99 rfl ?_
   refine DC 11 (s_impl_Matrix_times hy19) cf_impl_Matrix_times rfl rfl rfl rfl 100 rfl ?_
   refine DA 1 ?_
   exact XE
  refine V_e (mb 103 16) [32] (s1 := ⟨bt 4 (.pt 32 0 :: bt 98 []), [(32, .box [Ti f1.1, Ti y4.1.1, Ti y12, Ti f15, Ti 1, Ti f17, Ti 0, Ti 1, Ti y19.1, Ti y19.2.1, Ti y19.2.2.1, Ti y19.2.2.2])]⟩) ?_
  refine V_ret ?_
  obtain rfl := some_inj h
  show Post _ _ _ _ _
  exact ⟨.inr rfl, rfl, rfl, rfl⟩
theorem cf_impl_united_composite : ∀ args w, (callFunc 174 args).run Tryz.prog w = .ok (.enter 174 args) w := run_callFunc Tryz.func174 (by kernel_rfl) (by kernel_rfl)
theorem s_impl_united_composite {u1 : (Int × Int × Int × Int × ((Int × Int × Int × Int)) × ((Int × Int × Int × Int)))} {r : (Int × Int × Int)} (h : r_impl_united_composite u1 = some r) : CallS Tryz.prog 174 [.ag [Ti u1.1, Ti u1.2.1, Ti u1.2.2.1, Ti u1.2.2.2.1, Ti u1.2.2.2.2.1.1, Ti u1.2.2.2.2.1.2.1, Ti u1.2.2.2.2.1.2.2.1, Ti u1.2.2.2.2.1.2.2.2, Ti u1.2.2.2.2.2.1, Ti u1.2.2.2.2.2.2.1, Ti u1.2.2.2.2.2.2.2.1, Ti u1.2.2.2.2.2.2.2.2]] (.ag [Ti r.1, Ti r.2.1, Ti r.2.2]) [] := by
  refine CallS_of_text (rs := [.w 2 3]) (vs := [.cell 2 25]) Tryz.func174 rfl rfl (.cons ⟨rfl, wd25⟩ FitsL.nil) (by decide) 13 rfl ?_
  unfold r_impl_united_composite at h
  show V _ _ ⟨.ag [Ti u1.1, Ti u1.2.1, Ti u1.2.2.1, Ti u1.2.2.2.1, Ti u1.2.2.2.2.1.1, Ti u1.2.2.2.2.1.2.1, Ti u1.2.2.2.2.1.2.2.1, Ti u1.2.2.2.2.1.2.2.2, Ti u1.2.2.2.2.2.1, Ti u1.2.2.2.2.2.2.1, Ti u1.2.2.2.2.2.2.2.1, Ti u1.2.2.2.2.2.2.2.2] :: bt 12 [], []⟩ _
  refine V_e (mb 13 6) [16, 8] (s1 := ⟨.bot :: .pt 8 0 :: .pt 16 0 :: bt 10 [], [(16, .box [Ti 0, Ti 0, Ti 0]), (8, .box [Ti u1.1, Ti u1.2.1, Ti u1.2.2.1, Ti u1.2.2.2.1, Ti u1.2.2.2.2.1.1, Ti u1.2.2.2.2.1.2.1, Ti u1.2.2.2.2.1.2.2.1, Ti u1.2.2.2.2.1.2.2.2, Ti u1.2.2.2.2.2.1, Ti u1.2.2.2.2.2.2.1, Ti u1.2.2.2.2.2.2.2.1, Ti u1.2.2.2.2.2.2.2.2])]⟩) ?_
  obtain ⟨f2, hf2, h⟩ := of_sI h
  refine V_sreg (mb 13 4) [16] (s1 := ⟨.bot :: .bot :: .pt 16 0 :: bt 10 [], [(16, .box [Ti f2, Ti u1.2.2.1, Ti u1.2.2.2.1])]⟩) ?_ ?_
  ·refine XR 9 ?_
   refine L0 rfl rfl (Y0_build (cs := [Ti (w64 (u1.1 * u1.2.1)), Ti u1.2.2.1, Ti u1.2.2.2.1]) pl25 bt25 rfl rfl (by kernel_rfl)) ?_
   refine XR 1 ?_
   refine XL_nil ?_
   subst hf2
   kernel_rfl
  refine V_ret ?_
  obtain rfl := some_inj h
  show Post _ _ _ _ _
  exact ⟨.inr rfl, rfl, rfl, rfl⟩
theorem cf_impl_compose : ∀ args w, (callFunc 83 args).run Tryz.prog w = .ok (.enter 83 args) w := run_callFunc Tryz.func83 (by kernel_rfl) (by kernel_rfl)
theorem s_impl_compose {f1 : (Int × Int × Int)} {g2 : (Int × Int × Int)} {r : (Int × Int × Int)} (h : r_impl_compose f1 g2 = some r) : CallS Tryz.prog 83 [.ag [Ti f1.1, Ti f1.2.1, Ti f1.2.2], .ag [Ti g2.1, Ti g2.2.1, Ti g2.2.2]] (.ag [Ti r.1, Ti r.2.1, Ti r.2.2]) [] := by
  refine CallS_of_text (rs := [.w 4 3]) (vs := [.cell 4 25]) Tryz.func83 rfl rfl (.cons ⟨rfl, wd25⟩ FitsL.nil) (by decide) 12 rfl ?_
  unfold r_impl_compose at h
  show V _ _ ⟨.ag [Ti f1.1, Ti f1.2.1, Ti f1.2.2] :: .ag [Ti g2.1, Ti g2.2.1, Ti g2.2.2] :: bt 10 [], []⟩ _
  refine V_e (mb 12 28) [32, 24, 16] (s1 := ⟨.bot :: .bot :: .pt 16 0 :: .pt 24 0 :: .pt 32 0 :: bt 7 [], [(32, .box [Ti 0, Ti 0, Ti 0]), (24, .box [Ti g2.1, Ti g2.2.1, Ti g2.2.2]), (16, .box [Ti f1.1, Ti f1.2.1, Ti f1.2.2])]⟩) ?_
  obtain ⟨y3, hy3, h⟩ := of_bind h
  obtain ⟨y4, hy4, h⟩ := of_bind h
  obtain ⟨y5, hy5, h⟩ := of_bind h
  obtain ⟨y6, hy6, h⟩ := of_bind h
  obtain ⟨y7, hy7, h⟩ := of_bind h
  refine V_sdreg [0, 1, 0, 7, 15, 31, 63, 127] 7 (cdm 7 [32, 33, 10, 21, 85, 341, 1365]) (mb 12 16) [32] (s1 := ⟨bt 4 (.pt 32 0 :: bt 7 []), [(32, .box [Ti y7.1, Ti y7.2.1, Ti y7.2.2])]⟩) (by kernel_rfl) (by kernel_rfl) ?_ ?_
  ·refine DR 1 ?_
   refine DC 1 (s_impl_reduced hy3) cf_impl_reduced rfl rfl rfl rfl 6 rfl ?_
   refine DR 1 ?_
   refine DC 3 (s_impl_reduced hy4) cf_impl_reduced rfl rfl rfl rfl 8 rfl ?_
   refine DC 4 (s_impl_unite hy5) cf_impl_unite rfl rfl rfl rfl 9 rfl ?_
   refine DC 5 (s_impl_united_composite hy6) cf_impl_united_composite rfl rfl rfl rfl 10 rfl ?_
   refine DC 6 (s_impl_reduced hy7) cf_impl_reduced rfl rfl rfl rfl 11 rfl ?_
   refine DA 0 ?_
   exact XE
  refine V_ret ?_
  obtain rfl := some_inj h
  show Post _ _ _ _ _
  exact ⟨.inr rfl, rfl, rfl, rfl⟩
theorem cf_impl_ComposeForms : ∀ args w, (callFunc 18 args).run Tryz.prog w = .ok (.enter 18 args) w := run_callFunc Tryz.func18 (by kernel_rfl) (by kernel_rfl)
theorem s_impl_ComposeForms {f1 : (Int × Int × Int)} {g2 : (Int × Int × Int)} {r : (((Int × Int × Int)) × Bool)} (h : r_impl_ComposeForms f1 g2 = some r) : CallS Tryz.prog 18 [.ag [Ti f1.1, Ti f1.2.1, Ti f1.2.2], .ag [Ti g2.1, Ti g2.2.1, Ti g2.2.2]] (.tc (.ag [Ti r.1.1, Ti r.1.2.1, Ti r.1.2.2]) (.tc (Bo r.2) .tn)) [] := by
  refine CallS_of_text (rs := [.w 4 3, .t 5]) (vs := [.cell 4 25, .tmp 5]) Tryz.func18 rfl rfl (.cons ⟨rfl, wd25⟩ (.cons rfl FitsL.nil)) (by decide) 14 rfl ?_
  unfold r_impl_ComposeForms at h
  show V _ _ ⟨.ag [Ti f1.1, Ti f1.2.1, Ti f1.2.2] :: .ag [Ti g2.1, Ti g2.2.1, Ti g2.2.2] :: bt 12 [], []⟩ _
  refine V_e (mb 14 28) [32, 24, 16] (s1 := ⟨.bot :: .bot :: .pt 16 0 :: .pt 24 0 :: .pt 32 0 :: bt 9 [], [(32, .box [Ti 0, Ti 0, Ti 0]), (24, .box [Ti g2.1, Ti g2.2.1, Ti g2.2.2]), (16, .box [Ti f1.1, Ti f1.2.1, Ti f1.2.2])]⟩) ?_
  refine V_seq ?_
  obtain ⟨y3, hy3, h⟩ := of_bind h
  refine V_sreg (mb 14 540) [32, 24, 16] (s1 := ⟨.bot :: .bot :: .pt 16 0 :: .pt 24 0 :: .pt 32 0 :: bt 4 (Bo (!y3) :: bt 4 []), [(32, .box [Ti 0, Ti 0, Ti 0]), (24, .box [Ti g2.1, Ti g2.2.1, Ti g2.2.2]), (16, .box [Ti f1.1, Ti f1.2.1, Ti f1.2.2])]⟩) ?_ ?_
  ·refine XR 2 ?_
   refine XC (s_impl_arePair hy3) cf_impl_arePair rfl rfl rfl ?_
   exact XE
  refine V_cond rfl (fun hc4 => ?_) (fun hc4 => ?_)
  ·have h := of_true h hc4
   refine V_sreg (mb 14 48) [32] (s1 := ⟨bt 4 (.pt 32 0 :: Bo false :: bt 8 []), [(32, .box [Ti 0, Ti 0, Ti 0])]⟩) ?_ ?_
   ·refine L0 rfl rfl (Y0_build (cs := [Ti 0, Ti 0, Ti 0]) pl25 bt25 rfl rfl (by kernel_rfl)) ?_
    exact XE
   refine V_ret ?_
   obtain rfl := some_inj h
   show Post _ _ _ _ _
   exact ⟨.inr rfl, rfl, rfl, rfl⟩
  ·have h := of_false h hc4
   refine V_skip ?_
   show V _ _ _ _
   obtain ⟨y5, hy5, h⟩ := of_bind h
   refine V_sreg (mb 14 48) [32] (s1 := ⟨bt 4 (.pt 32 0 :: Bo true :: bt 8 []), [(32, .box [Ti y5.1, Ti y5.2.1, Ti y5.2.2])]⟩) ?_ ?_
   ·refine XR 2 ?_
    refine XC (s_impl_compose hy5) cf_impl_compose rfl rfl rfl ?_
    exact XE
   refine V_ret ?_
   obtain rfl := some_inj h
   show Post _ _ _ _ _
   exact ⟨.inr rfl, rfl, rfl, rfl⟩
end Go.Proofs.YtafomkclmkfjeaaGreat
