/-
  The functions of the program compute what the plain functions say: more of them.
  Conditions: none.
-/
import Derived.Test.YtafomkclmkfjeaaCgSnd2
namespace Go.Proofs.Ytafomkclmkfjeaa
open Go.RowKit
set_option linter.unusedVariables false
set_option linter.unusedSimpArgs false
set_option maxRecDepth 100000
set_option maxHeartbeats 400000
theorem cf_spec_nuInverse : ∀ args w, (callFunc 139 args).run Try.prog w = .ok (.enter 139 args) w := run_callFunc Try.func139 (by kernel_rfl) (by kernel_rfl)
theorem s_spec_nuInverse {a1 : Int} {vm2 : Int} {r : Int} (h : r_spec_nuInverse a1 vm2 = some r) : CallS Try.prog 139 [I a1, I vm2] (I r) [] := by
  refine CallS_of_text (rs := [.t 4]) (vs := [.tmp 4]) Try.func139 rfl rfl (.cons rfl FitsL.nil) (by decide) 36 rfl ?_
  unfold r_spec_nuInverse at h
  show V _ _ ⟨I a1 :: I vm2 :: bt 34 [], []⟩ _
  refine V_e (mb 36 3) [] (s1 := ⟨I a1 :: I vm2 :: bt 34 [], []⟩) ?_
  obtain ⟨y3, hy3, h⟩ := of_bind h
  refine V_sreg (mb 36 482) [] (s1 := ⟨.bot :: I vm2 :: bt 3 (I vm2 :: I y3 :: I 0 :: I 1 :: bt 27 []), []⟩) ?_ ?_
  ·refine XR 3 ?_
   refine XC (s_spec_nuMod hy3) cf_spec_nuMod rfl rfl rfl ?_
   exact XE
  refine V_seq ?_
  obtain ⟨o9, hLo9, h⟩ := of_bind h
  refine V_toK (mb 36 162) [] (s1 := ⟨.bot :: I vm2 :: bt 3 (I o9.1 :: .bot :: I o9.2 :: bt 28 []), []⟩) ?_ ?_
  ·clear h
   refine V_block (V_loop (fun n s => ∃ (vr4 : Int) (next5 : Int) (x6 : Int) (y7 : Int), s.keep (mb 36 482) [] = (⟨.bot :: I vm2 :: bt 3 (I vr4 :: I next5 :: I x6 :: I y7 :: bt 27 []), []⟩ : St) ∧ r_spec_nuInverse_L8 vm2 n vr4 next5 x6 y7 = some o9) FU ⟨_, _, _, _,  by rfl, hLo9⟩ ?_)
   clear hLo9
   rintro n s ⟨vr4, next5, x6, y7, hs, h⟩
   refine V_keep _ _ hs ?_
   clear hs
   cases n with
   | zero => cases h
   | succ n =>
    rw [r_spec_nuInverse_L8] at h
    refine V_seq ?_
    refine V_e (mb 36 33250) [] (s1 := ⟨.bot :: I vm2 :: bt 3 (I vr4 :: I next5 :: I x6 :: I y7 :: bt 6 (Bo (!eqI next5 0) :: bt 20 [])), []⟩) ?_
    refine V_cond rfl (fun hc10 => ?_) (fun hc10 => ?_)
    ·have h := of_true h hc10
     refine V_skip ?_
     show V _ _ _ _
     refine V_block ?_
     obtain ⟨z11, hz11, h⟩ := of_bind h
     obtain ⟨q12, hq12, h⟩ := of_sI h
     refine V_sreg (mb 36 994) [] (s1 := ⟨.bot :: I vm2 :: bt 3 (I vr4 :: I next5 :: I x6 :: I y7 :: I q12 :: bt 26 []), []⟩) ?_ ?_
     ·refine XR 2 ?_
      refine L0 rfl rfl (Y0_quo64 (a := vr4) (b := next5) rfl (by kernel_rfl) (by kernel_rfl) (nz_some hz11)) ?_
      refine XR 1 ?_
      refine XL_nil ?_
      subst hq12
      kernel_rfl
     obtain ⟨next13, hnext13, h⟩ := of_sI h
     refine V_sreg (mb 36 994) [] (s1 := ⟨.bot :: I vm2 :: bt 3 (I next5 :: I next13 :: I x6 :: I y7 :: I q12 :: bt 26 []), []⟩) ?_ ?_
     ·refine XR 8 ?_
      refine XL_nil ?_
      subst hnext13
      kernel_rfl
     obtain ⟨y14, hy14, h⟩ := of_sI h
     refine V_reg (mb 36 482) [] (s1 := ⟨.bot :: I vm2 :: bt 3 (I next5 :: I next13 :: I y7 :: I y14 :: bt 27 []), []⟩) ?_ ?_
     ·refine XR 8 ?_
      refine XL_nil ?_
      subst hy14
      kernel_rfl
     exact ⟨n, Nat.lt_succ_self n, _, _, _, _,  by rfl, h⟩
    ·have h := of_false h hc10
     refine V_exit ?_
     obtain rfl := some_inj h
     show St.keep _ _ _ = _
     rfl
  show V _ _ _ _
  refine V_seq ?_
  refine V_e (mb 36 4294967426) [] (s1 := ⟨.bot :: I vm2 :: bt 5 (I o9.2 :: bt 24 (Bo (!eqI o9.1 1) :: bt 3 [])), []⟩) ?_
  refine V_cond rfl (fun hc15 => ?_) (fun hc15 => ?_)
  ·have h := of_true h hc15
   refine V_e (mb 36 16) [] (s1 := ⟨bt 4 (I (-1) :: bt 31 []), []⟩) ?_
   refine V_ret ?_
   obtain rfl := some_inj h
   show Post _ _ _ _ _
   exact ⟨.inr rfl, rfl, rfl, rfl⟩
  ·have h := of_false h hc15
   refine V_skip ?_
   show V _ _ _ _
   obtain ⟨y16, hy16, h⟩ := of_bind h
   refine V_sreg (mb 36 16) [] (s1 := ⟨bt 4 (I y16 :: bt 31 []), []⟩) ?_ ?_
   ·refine XR 2 ?_
    refine XC (s_spec_nuMod hy16) cf_spec_nuMod rfl rfl rfl ?_
    exact XE
   refine V_ret ?_
   obtain rfl := some_inj h
   show Post _ _ _ _ _
   exact ⟨.inr rfl, rfl, rfl, rfl⟩
theorem cf_spec_nuBezout : ∀ args w, (callFunc 137 args).run Try.prog w = .ok (.enter 137 args) w := run_callFunc Try.func137 (by kernel_rfl) (by kernel_rfl)
theorem s_spec_nuBezout {a1 : Int} {b2 : Int} {r : (Int × Int × Int)} (h : r_spec_nuBezout a1 b2 = some r) : CallS Try.prog 137 [I a1, I b2] (.tc (I r.1) (.tc (I r.2.1) (.tc (I r.2.2) .tn))) [] := by
  refine CallS_of_text (rs := [.t 4, .t 5, .t 6]) (vs := [.tmp 4, .tmp 5, .tmp 6]) Try.func137 rfl rfl (.cons rfl (.cons rfl (.cons rfl FitsL.nil))) (by decide) 34 rfl ?_
  unfold r_spec_nuBezout at h
  show V _ _ ⟨I a1 :: I b2 :: bt 32 [], []⟩ _
  refine V_e (mb 34 3) [] (s1 := ⟨I a1 :: I b2 :: bt 32 [], []⟩) ?_
  obtain ⟨y3, hy3, h⟩ := of_bind h
  refine V_sreg (mb 34 131) [] (s1 := ⟨I a1 :: I b2 :: bt 5 (I y3 :: bt 26 []), []⟩) ?_ ?_
  ·refine XR 2 ?_
   refine XC (s_spec_nuGcd hy3) cf_spec_nuGcd rfl rfl rfl ?_
   exact XE
  refine V_seq ?_
  refine V_e (mb 34 8323) [] (s1 := ⟨I a1 :: I b2 :: bt 5 (I y3 :: bt 5 (Bo (eqI b2 0) :: bt 20 [])), []⟩) ?_
  refine V_cond rfl (fun hc4 => ?_) (fun hc4 => ?_)
  ·have h := of_true h hc4
   obtain ⟨y5, hy5, h⟩ := of_bind h
   refine V_sreg (mb 34 112) [] (s1 := ⟨bt 4 (I y3 :: I y5 :: I 0 :: bt 27 []), []⟩) ?_ ?_
   ·refine XR 2 ?_
    refine XC (s_spec_l1Sign hy5) cf_spec_l1Sign rfl rfl rfl ?_
    exact XE
   refine V_ret ?_
   obtain rfl := some_inj h
   show Post _ _ _ _ _
   exact ⟨.inr rfl, rfl, rfl, rfl⟩
  ·have h := of_false h hc4
   refine V_skip ?_
   show V _ _ _ _
   obtain ⟨z6, hz6, h⟩ := of_bind h
   obtain ⟨y7, hy7, h⟩ := of_bind h
   obtain ⟨z8, hz8, h⟩ := of_bind h
   obtain ⟨y9, hy9, h⟩ := of_bind h
   refine V_sdreg [0, 0, 3, 0, 8, 0, 56, 127, 255] 9 (cdm 9 [10888, 10882, 10885, 2090, 2154, 682, 1386, 5461, 21845]) (mb 34 387) [] (s1 := ⟨I a1 :: I b2 :: bt 5 (I y3 :: I y9 :: bt 25 []), []⟩) (by kernel_rfl) (by kernel_rfl) ?_ ?_
   ·refine DR 2 ?_
    refine DE_0 2 (I (w64 (Int.tdiv a1 y3))) (by kernel_rfl) rfl rfl rfl (gsat_none rfl) (by kernel_rfl) (Y0_quo64 (a := a1) (b := y3) rfl (by kernel_rfl) (by kernel_rfl) (nz_some hz6)) 19 rfl ?_
    refine DR 1 ?_
    refine DC 4 (s_spec_l1Abs hy7) cf_spec_l1Abs rfl rfl rfl rfl 21 rfl ?_
    refine DR 1 ?_
    refine DE_0 6 (I (w64 (Int.tdiv y7 y3))) (by kernel_rfl) rfl rfl rfl (gsat_none rfl) (by kernel_rfl) (Y0_quo64 (a := y7) (b := y3) rfl (by kernel_rfl) (by kernel_rfl) (nz_some hz8)) 23 rfl ?_
    refine DC 7 (s_spec_nuInverse hy9) cf_spec_nuInverse rfl rfl rfl rfl 24 rfl ?_
    refine DA 1 ?_
    exact XE
   obtain ⟨z10, hz10, h⟩ := of_bind h
   obtain ⟨t11, ht11, h⟩ := of_sI h
   refine V_sdreg [0, 0, 0, 0, 0, 24, 60, 0, 252, 1, 515, 2047] 12 (cdm 12 [174760, 699042, 2656906, 2654762, 2654378, 2654570, 2655578, 2632362, 2643290, 174761, 436901, 1398101]) (mb 34 112) [] (s1 := ⟨bt 4 (I y3 :: I y9 :: I t11 :: bt 27 []), []⟩) (by kernel_rfl) (by kernel_rfl) ?_ ?_
   ·refine DR 8 ?_
    refine DE_0 8 (I (w64 (Int.tdiv (w64 (y3 - (w64 (a1 * y9)))) b2))) (by kernel_rfl) rfl rfl rfl (gsat_none rfl) (by kernel_rfl) (Y0_quo64 (a := w64 (y3 - (w64 (a1 * y9)))) (b := b2) rfl (by kernel_rfl) (by kernel_rfl) (nz_some hz10)) 33 rfl ?_
    refine DA 3 ?_
    refine XL_nil ?_
    subst ht11
    kernel_rfl
   refine V_ret ?_
   obtain rfl := some_inj h
   show Post _ _ _ _ _
   exact ⟨.inr rfl, rfl, rfl, rfl⟩
theorem cf_spec_vaComplete : ∀ args w, (callFunc 113 args).run Try.prog w = .ok (.enter 113 args) w := run_callFunc Try.func113 (by kernel_rfl) (by kernel_rfl)
theorem s_spec_vaComplete {f1 : (Int × Int × Int)} {x2 : Int} {y3 : Int} {r : (((Int × Int × Int)) × ((Int × Int × Int × Int)))} (h : r_spec_vaComplete f1 x2 y3 = some r) : CallS Try.prog 113 [.ag [Ti f1.1, Ti f1.2.1, Ti f1.2.2], I x2, I y3] (.tc (.ag [Ti r.1.1, Ti r.1.2.1, Ti r.1.2.2]) (.tc (.ag [Ti r.2.1, Ti r.2.2.1, Ti r.2.2.2.1, Ti r.2.2.2.2]) .tn)) [] := by
  refine CallS_of_text (rs := [.w 6 3, .w 7 4]) (vs := [.cell 6 25, .cell 7 86]) Try.func113 rfl rfl (.cons ⟨rfl, wd25⟩ (.cons ⟨rfl, wd86⟩ FitsL.nil)) (by decide) 76 rfl ?_
  unfold r_spec_vaComplete at h
  show V _ _ ⟨.ag [Ti f1.1, Ti f1.2.1, Ti f1.2.2] :: I x2 :: I y3 :: bt 73 [], []⟩ _
  refine V_e (mb 76 206) [56, 48, 24] (s1 := ⟨.bot :: I x2 :: I y3 :: .pt 24 0 :: .bot :: .bot :: .pt 48 0 :: .pt 56 0 :: bt 68 [], [(56, .box [Ti 0, Ti 0, Ti 0, Ti 0]), (48, .box [Ti 0, Ti 0, Ti 0]), (24, .box [Ti f1.1, Ti f1.2.1, Ti f1.2.2])]⟩) ?_
  obtain ⟨y4, hy4, h⟩ := of_bind h
  refine V_sreg (mb 76 1742) [56, 48, 24] (s1 := ⟨.bot :: I x2 :: I y3 :: .pt 24 0 :: .bot :: .bot :: .pt 48 0 :: .pt 56 0 :: .bot :: I y4.2.1 :: I y4.2.2 :: bt 65 [], [(56, .box [Ti 0, Ti 0, Ti 0, Ti 0]), (48, .box [Ti 0, Ti 0, Ti 0]), (24, .box [Ti f1.1, Ti f1.2.1, Ti f1.2.2])]⟩) ?_ ?_
  ·refine XR 2 ?_
   refine XC (s_spec_nuBezout hy4) cf_spec_nuBezout rfl rfl rfl ?_
   exact XE
  obtain ⟨y5, hy5, h⟩ := of_bind h
  obtain ⟨q6, hq6, h⟩ := of_sI h
  refine V_sreg (mb 76 6862) [56, 48, 24] (s1 := ⟨.bot :: I x2 :: I y3 :: .pt 24 0 :: .bot :: .bot :: .pt 48 0 :: .pt 56 0 :: .bot :: I y4.2.1 :: .bot :: I q6 :: I y5 :: bt 63 [], [(56, .box [Ti 0, Ti 0, Ti 0, Ti 0]), (48, .box [Ti 0, Ti 0, Ti 0]), (24, .box [Ti f1.1, Ti f1.2.1, Ti f1.2.2])]⟩) ?_ ?_
  ·refine XR 5 ?_
   refine XC (s_spec_foValue hy5) cf_spec_foValue rfl rfl rfl ?_
   refine XR 2 ?_
   refine XL_nil ?_
   subst hq6
   kernel_rfl
  obtain ⟨y7, hy7, h⟩ := of_bind h
  refine V_sreg (mb 76 15054) [56, 48, 24] (s1 := ⟨.bot :: I x2 :: I y3 :: .pt 24 0 :: .bot :: .bot :: .pt 48 0 :: .pt 56 0 :: .bot :: I y4.2.1 :: .bot :: I q6 :: I y5 :: I y7 :: bt 62 [], [(56, .box [Ti 0, Ti 0, Ti 0, Ti 0]), (48, .box [Ti 0, Ti 0, Ti 0]), (24, .box [Ti f1.1, Ti f1.2.1, Ti f1.2.2])]⟩) ?_ ?_
  ·refine XR 5 ?_
   refine XC (s_spec_foPolar hy7) cf_spec_foPolar rfl rfl rfl ?_
   exact XE
  obtain ⟨y8, hy8, h⟩ := of_bind h
  obtain ⟨z9, hz9, h⟩ := of_bind h
  obtain ⟨t10, ht10, h⟩ := of_sI h
  refine V_sreg (mb 76 31438) [56, 48, 24] (s1 := ⟨.bot :: I x2 :: I y3 :: .pt 24 0 :: .bot :: .bot :: .pt 48 0 :: .pt 56 0 :: .bot :: I y4.2.1 :: .bot :: I q6 :: I y5 :: I y7 :: I t10 :: bt 61 [], [(56, .box [Ti 0, Ti 0, Ti 0, Ti 0]), (48, .box [Ti 0, Ti 0, Ti 0]), (24, .box [Ti f1.1, Ti f1.2.1, Ti f1.2.2])]⟩) ?_ ?_
  ·refine XR 3 ?_
   refine XC (s_spec_nuMod hy8) cf_spec_nuMod rfl rfl rfl ?_
   refine XR 4 ?_
   refine L0 rfl rfl (Y0_quo64 (a := w64 (y8 - y7)) (b := w64 (2 * y5)) rfl (by kernel_rfl) (by kernel_rfl) (nz_some hz9)) ?_
   refine XR 1 ?_
   refine XL_nil ?_
   subst ht10
   kernel_rfl
  obtain ⟨f11, hf11, h⟩ := of_sI h
  obtain ⟨f12, hf12, h⟩ := of_sI h
  refine V_sreg (mb 76 61640) [120, 56, 48, 24] (s1 := ⟨bt 3 (.pt 24 0 :: .bot :: .bot :: .pt 48 0 :: .pt 56 0 :: bt 4 (I y5 :: I y7 :: I t10 :: .pt 120 0 :: bt 60 [])), [(120, .box [Ti x2, Ti f11, Ti y3, Ti f12]), (56, .box [Ti 0, Ti 0, Ti 0, Ti 0]), (48, .box [Ti 0, Ti 0, Ti 0]), (24, .box [Ti f1.1, Ti f1.2.1, Ti f1.2.2])]⟩) ?_ ?_
  ·refine XR 12 ?_
   refine L0 rfl rfl (Y0_build (cs := [Ti x2, Ti (w64 (q6 + (w64 (x2 * t10)))), Ti y3, Ti (w64 (y4.2.1 + (w64 (y3 * t10))))]) pl86 bt86 rfl rfl (by kernel_rfl)) ?_
   refine XR 2 ?_
   refine XL_nil ?_
   subst hf11 hf12
   kernel_rfl
  obtain ⟨b13, hb13, h⟩ := of_sI h
  refine V_sreg (mb 76 45256) [120, 56, 48, 24] (s1 := ⟨bt 3 (.pt 24 0 :: .bot :: .bot :: .pt 48 0 :: .pt 56 0 :: bt 4 (I y5 :: I b13 :: .bot :: .pt 120 0 :: bt 60 [])), [(120, .box [Ti x2, Ti f11, Ti y3, Ti f12]), (56, .box [Ti 0, Ti 0, Ti 0, Ti 0]), (48, .box [Ti 0, Ti 0, Ti 0]), (24, .box [Ti f1.1, Ti f1.2.1, Ti f1.2.2])]⟩) ?_ ?_
  ·refine XR 7 ?_
   refine XL_nil ?_
   subst hb13
   kernel_rfl
  obtain ⟨y14, hy14, h⟩ := of_bind h
  obtain ⟨z15, hz15, h⟩ := of_bind h
  obtain ⟨f16, hf16, h⟩ := of_sI h
  refine V_sdreg [0, 0, 0, 0, 12, 0, 32, 124, 0, 256, 1020, 2047, 0, 4095, 16383] 14 [[.z, .b, .b, .b, .b, .b, .b, .b, .b, .b, .b, .z, .b, .z], [.b, .z, .b, .b, .b, .b, .b, .b, .b, .b, .b, .z, .b, .z], [.b, .b, .z, .b, .z, .b, .b, .z, .b, .b, .z, .z, .b, .z], [.b, .b, .b, .z, .z, .b, .b, .z, .b, .b, .z, .z, .b, .z], [.b, .b, .a, .a, .z, .b, .b, .z, .b, .b, .z, .z, .b, .z], [.b, .b, .b, .b, .b, .z, .z, .z, .b, .b, .z, .z, .b, .z], [.b, .b, .b, .b, .b, .a, .z, .z, .b, .b, .z, .z, .b, .z], [.b, .b, .a, .a, .a, .a, .a, .z, .b, .b, .z, .z, .b, .z], [.b, .b, .b, .b, .b, .b, .b, .b, .z, .z, .z, .z, .b, .z], [.b, .b, .b, .b, .b, .b, .b, .b, .a, .z, .z, .z, .b, .z], [.b, .b, .a, .a, .a, .a, .a, .a, .a, .a, .z, .z, .b, .z], [.a, .a, .a, .a, .a, .a, .a, .a, .a, .a, .a, .z, .b, .z], [.b, .b, .b, .b, .b, .b, .b, .b, .b, .b, .b, .b, .z, .r 48], [.a, .a, .a, .a, .a, .a, .a, .a, .a, .a, .a, .a, .b, .z]] (mb 76 192) [56, 48] (s1 := ⟨bt 6 (.pt 48 0 :: .pt 56 0 :: bt 68 []), [(56, .box [Ti x2, Ti f11, Ti y3, Ti f12]), (48, .box [Ti y5, Ti b13, Ti f16])]⟩) (by kernel_rfl) (by kernel_rfl) ?_ ?_
  ·refine DR 6 ?_
   refine DC 6 (s_spec_foDisc hy14) cf_spec_foDisc rfl rfl rfl rfl 69 rfl ?_
   refine DR 3 ?_
   refine DE_0 10 (I (w64 (Int.tdiv (w64 ((w64 (b13 * b13)) - y14)) (w64 (4 * y5))))) (by kernel_rfl) rfl rfl rfl (gsat_none rfl) (by kernel_rfl) (Y0_quo64 (a := w64 ((w64 (b13 * b13)) - y14)) (b := w64 (4 * y5)) rfl (by kernel_rfl) (by kernel_rfl) (nz_some hz15)) 73 rfl ?_
   refine DE_0 11 (.ag [Ti y5, Ti b13, Ti (w64 (Int.tdiv (w64 ((w64 (b13 * b13)) - y14)) (w64 (4 * y5))))]) (by kernel_rfl) rfl rfl rfl (gsat_none rfl) (by kernel_rfl) (Y0_build (cs := [Ti y5, Ti b13, Ti (w64 (Int.tdiv (w64 ((w64 (b13 * b13)) - y14)) (w64 (4 * y5))))]) pl25 bt25 rfl rfl (by kernel_rfl)) 74 rfl ?_
   refine DA 2 ?_
   refine XR 1 ?_
   refine XL_nil ?_
   subst hf16
   kernel_rfl
  refine V_ret ?_
  obtain rfl := some_inj h
  show Post _ _ _ _ _
  exact ⟨.inr rfl, rfl, rfl, rfl⟩
theorem cf_spec_nuCommon : ∀ args w, (callFunc 115 args).run Try.prog w = .ok (.enter 115 args) w := run_callFunc Try.func115 (by kernel_rfl) (by kernel_rfl)
theorem s_spec_nuCommon {a1 : Int} {vm2 : Int} {b3 : Int} {vn4 : Int} {r : (Int × Int × Bool)} (h : r_spec_nuCommon a1 vm2 b3 vn4 = some r) : CallS Try.prog 115 [I a1, I vm2, I b3, I vn4] (.tc (I r.1) (.tc (I r.2.1) (.tc (Bo r.2.2) .tn))) [] := by
  refine CallS_of_text (rs := [.t 8, .t 9, .t 10]) (vs := [.tmp 8, .tmp 9, .tmp 10]) Try.func115 rfl rfl (.cons rfl (.cons rfl (.cons rfl FitsL.nil))) (by decide) 53 rfl ?_
  unfold r_spec_nuCommon at h
  show V _ _ ⟨I a1 :: I vm2 :: I b3 :: I vn4 :: bt 49 [], []⟩ _
  refine V_e (mb 53 15) [] (s1 := ⟨I a1 :: I vm2 :: I b3 :: I vn4 :: bt 49 [], []⟩) ?_
  obtain ⟨y5, hy5, h⟩ := of_bind h
  refine V_sreg (mb 53 2063) [] (s1 := ⟨I a1 :: I vm2 :: I b3 :: I vn4 :: bt 7 (I y5 :: bt 41 []), []⟩) ?_ ?_
  ·refine XR 2 ?_
   refine XC (s_spec_nuGcd hy5) cf_spec_nuGcd rfl rfl rfl ?_
   exact XE
  refine V_seq ?_
  obtain ⟨z6, hz6, h⟩ := of_bind h
  refine V_sreg (mb 53 4196367) [] (s1 := ⟨I a1 :: I vm2 :: I b3 :: I vn4 :: bt 7 (I y5 :: bt 10 (Bo (!eqI (Int.tmod (w64 (b3 - a1)) y5) 0) :: bt 30 [])), []⟩) ?_ ?_
  ·refine XR 4 ?_
   refine L0 rfl rfl (Y0_rem (k := .i64) (a := w64 (b3 - a1)) (b := y5) rfl (by kernel_rfl) (by kernel_rfl) (nz_some hz6)) ?_
   exact XE
  refine V_cond rfl (fun hc7 => ?_) (fun hc7 => ?_)
  ·have h := of_true h hc7
   refine V_e (mb 53 1792) [] (s1 := ⟨bt 8 (I 0 :: I 0 :: Bo false :: bt 42 []), []⟩) ?_
   refine V_ret ?_
   obtain rfl := some_inj h
   show Post _ _ _ _ _
   exact ⟨.inr rfl, rfl, rfl, rfl⟩
  ·have h := of_false h hc7
   refine V_skip ?_
   show V _ _ _ _
   obtain ⟨z8, hz8, h⟩ := of_bind h
   obtain ⟨z9, hz9, h⟩ := of_bind h
   obtain ⟨z10, hz10, h⟩ := of_bind h
   obtain ⟨y11, hy11, h⟩ := of_bind h
   obtain ⟨z12, hz12, h⟩ := of_bind h
   obtain ⟨y13, hy13, h⟩ := of_bind h
   refine V_sdreg [0, 0, 3, 0, 15, 0, 0, 96, 0, 0, 768, 2016, 4095, 0, 0, 24576, 65535, 131071] 18 (cdm 18 [2829756552, 2829756546, 2829756549, 2829756458, 2829756501, 2821333674, 2821327530, 2821330602, 2819140266, 2818747050, 2818943658, 2819970730, 2824164693, 581610154, 178956970, 380283562, 1431655765, 5726623061]) (mb 53 6155) [] (s1 := ⟨I a1 :: I vm2 :: .bot :: I vn4 :: bt 7 (I y5 :: I y13 :: bt 40 []), []⟩) (by kernel_rfl) (by kernel_rfl) ?_ ?_
   ·refine DR 4 ?_
    refine DE_0 4 (I (w64 (Int.tdiv (w64 (b3 - a1)) y5))) (by kernel_rfl) rfl rfl rfl (gsat_none rfl) (by kernel_rfl) (Y0_quo64 (a := w64 (b3 - a1)) (b := y5) rfl (by kernel_rfl) (by kernel_rfl) (nz_some hz8)) 27 rfl ?_
    refine DR 2 ?_
    refine DE_0 7 (I (w64 (Int.tdiv vm2 y5))) (by kernel_rfl) rfl rfl rfl (gsat_none rfl) (by kernel_rfl) (Y0_quo64 (a := vm2) (b := y5) rfl (by kernel_rfl) (by kernel_rfl) (nz_some hz9)) 30 rfl ?_
    refine DR 2 ?_
    refine DE_0 10 (I (w64 (Int.tdiv vn4 y5))) (by kernel_rfl) rfl rfl rfl (gsat_none rfl) (by kernel_rfl) (Y0_quo64 (a := vn4) (b := y5) rfl (by kernel_rfl) (by kernel_rfl) (nz_some hz10)) 33 rfl ?_
    refine DC 11 (s_spec_nuInverse hy11) cf_spec_nuInverse rfl rfl rfl rfl 34 rfl ?_
    refine DR 3 ?_
    refine DE_0 15 (I (w64 (Int.tdiv vn4 y5))) (by kernel_rfl) rfl rfl rfl (gsat_none rfl) (by kernel_rfl) (Y0_quo64 (a := vn4) (b := y5) rfl (by kernel_rfl) (by kernel_rfl) (nz_some hz12)) 38 rfl ?_
    refine DC 16 (s_spec_nuMod hy13) cf_spec_nuMod rfl rfl rfl rfl 39 rfl ?_
    refine DA 1 ?_
    exact XE
   obtain ⟨z14, hz14, h⟩ := of_bind h
   obtain ⟨all15, hall15, h⟩ := of_sI h
   refine V_sreg (mb 53 12291) [] (s1 := ⟨I a1 :: I vm2 :: bt 10 (I y13 :: I all15 :: bt 39 []), []⟩) ?_ ?_
   ·refine XR 2 ?_
    refine L0 rfl rfl (Y0_quo64 (a := vm2) (b := y5) rfl (by kernel_rfl) (by kernel_rfl) (nz_some hz14)) ?_
    refine XR 3 ?_
    refine XL_nil ?_
    subst hall15
    kernel_rfl
   obtain ⟨y16, hy16, h⟩ := of_bind h
   refine V_sreg (mb 53 1792) [] (s1 := ⟨bt 8 (I y16 :: I all15 :: Bo true :: bt 42 []), []⟩) ?_ ?_
   ·refine XR 6 ?_
    refine XC (s_spec_nuMod hy16) cf_spec_nuMod rfl rfl rfl ?_
    exact XE
   refine V_ret ?_
   obtain rfl := some_inj h
   show Post _ _ _ _ _
   exact ⟨.inr rfl, rfl, rfl, rfl⟩
theorem cf_spec_coShift : ∀ args w, (callFunc 116 args).run Try.prog w = .ok (.enter 116 args) w := run_callFunc Try.func116 (by kernel_rfl) (by kernel_rfl)
theorem s_spec_coShift {t1 : Int} {r : (Int × Int × Int × Int)} (h : r_spec_coShift t1 = some r) : CallS Try.prog 116 [I t1] (.ag [Ti r.1, Ti r.2.1, Ti r.2.2.1, Ti r.2.2.2]) [] := by
  refine CallS_of_text (rs := [.w 2 4]) (vs := [.cell 2 86]) Try.func116 rfl rfl (.cons ⟨rfl, wd86⟩ FitsL.nil) (by decide) 5 rfl ?_
  unfold r_spec_coShift at h
  show V _ _ ⟨I t1 :: bt 4 [], []⟩ _
  refine V_e (mb 5 5) [16] (s1 := ⟨I t1 :: .bot :: .pt 16 0 :: .bot :: .bot :: [], [(16, .box [Ti 0, Ti 0, Ti 0, Ti 0])]⟩) ?_
  refine V_sreg (mb 5 4) [16] (s1 := ⟨.bot :: .bot :: .pt 16 0 :: .bot :: .bot :: [], [(16, .box [Ti 1, Ti t1, Ti 0, Ti 1])]⟩) ?_ ?_
  ·refine XR 1 ?_
   refine L0 rfl rfl (Y0_build (cs := [Ti 1, Ti t1, Ti 0, Ti 1]) pl86 bt86 rfl rfl (by kernel_rfl)) ?_
   exact XE
  refine V_ret ?_
  obtain rfl := some_inj h
  show Post _ _ _ _ _
  exact ⟨.inr rfl, rfl, rfl, rfl⟩
theorem cf_spec_coUnite : ∀ args w, (callFunc 80 args).run Try.prog w = .ok (.enter 80 args) w := run_callFunc Try.func80 (by kernel_rfl) (by kernel_rfl)
theorem s_spec_coUnite {f1 : (Int × Int × Int)} {g2 : (Int × Int × Int)} {r : (((Int × Int × Int)) × ((Int × Int × Int)) × ((Int × Int × Int × Int)) × ((Int × Int × Int × Int)))} (h : r_spec_coUnite f1 g2 = some r) : CallS Try.prog 80 [.ag [Ti f1.1, Ti f1.2.1, Ti f1.2.2], .ag [Ti g2.1, Ti g2.2.1, Ti g2.2.2]] (.tc (.ag [Ti r.1.1, Ti r.1.2.1, Ti r.1.2.2]) (.tc (.ag [Ti r.2.1.1, Ti r.2.1.2.1, Ti r.2.1.2.2]) (.tc (.ag [Ti r.2.2.1.1, Ti r.2.2.1.2.1, Ti r.2.2.1.2.2.1, Ti r.2.2.1.2.2.2]) (.tc (.ag [Ti r.2.2.2.1, Ti r.2.2.2.2.1, Ti r.2.2.2.2.2.1, Ti r.2.2.2.2.2.2]) .tn)))) [] := by
  refine CallS_of_text (rs := [.w 4 3, .w 5 3, .w 6 4, .w 7 4]) (vs := [.cell 4 25, .cell 5 25, .cell 6 86, .cell 7 86]) Try.func80 rfl rfl (.cons ⟨rfl, wd25⟩ (.cons ⟨rfl, wd25⟩ (.cons ⟨rfl, wd86⟩ (.cons ⟨rfl, wd86⟩ FitsL.nil)))) (by decide) 118 rfl ?_
  unfold r_spec_coUnite at h
  show V _ _ ⟨.ag [Ti f1.1, Ti f1.2.1, Ti f1.2.2] :: .ag [Ti g2.1, Ti g2.2.1, Ti g2.2.2] :: bt 116 [], []⟩ _
  refine V_e (mb 118 252) [56, 48, 40, 32, 24, 16] (s1 := ⟨.bot :: .bot :: .pt 16 0 :: .pt 24 0 :: .pt 32 0 :: .pt 40 0 :: .pt 48 0 :: .pt 56 0 :: bt 110 [], [(56, .box [Ti 0, Ti 0, Ti 0, Ti 0]), (48, .box [Ti 0, Ti 0, Ti 0, Ti 0]), (40, .box [Ti 0, Ti 0, Ti 0]), (32, .box [Ti 0, Ti 0, Ti 0]), (24, .box [Ti g2.1, Ti g2.2.1, Ti g2.2.2]), (16, .box [Ti f1.1, Ti f1.2.1, Ti f1.2.2])]⟩) ?_
  obtain ⟨y3, hy3, h⟩ := of_bind h
  refine V_sreg (mb 118 1016) [72, 64, 56, 48, 40, 32, 24] (s1 := ⟨bt 3 (.pt 24 0 :: .pt 32 0 :: .pt 40 0 :: .pt 48 0 :: .pt 56 0 :: .pt 64 0 :: .pt 72 0 :: bt 108 []), [(72, .box [Ti y3.2.1, Ti y3.2.2.1, Ti y3.2.2.2.1, Ti y3.2.2.2.2]), (64, .box [Ti y3.1.1, Ti y3.1.2.1, Ti y3.1.2.2]), (56, .box [Ti 0, Ti 0, Ti 0, Ti 0]), (48, .box [Ti 0, Ti 0, Ti 0, Ti 0]), (40, .box [Ti 0, Ti 0, Ti 0]), (32, .box [Ti 0, Ti 0, Ti 0]), (24, .box [Ti g2.1, Ti g2.2.1, Ti g2.2.2])]⟩) ?_ ?_
  ·refine XR 1 ?_
   refine XC (s_spec_reReduce hy3) cf_spec_reReduce rfl rfl rfl ?_
   exact XE
  obtain ⟨y4, hy4, h⟩ := of_bind h
  refine V_sreg (mb 118 4080) [88, 80, 72, 64, 56, 48, 40, 32] (s1 := ⟨bt 4 (.pt 32 0 :: .pt 40 0 :: .pt 48 0 :: .pt 56 0 :: .pt 64 0 :: .pt 72 0 :: .pt 80 0 :: .pt 88 0 :: bt 106 []), [(88, .box [Ti y4.2.1, Ti y4.2.2.1, Ti y4.2.2.2.1, Ti y4.2.2.2.2]), (80, .box [Ti y4.1.1, Ti y4.1.2.1, Ti y4.1.2.2]), (72, .box [Ti y3.2.1, Ti y3.2.2.1, Ti y3.2.2.2.1, Ti y3.2.2.2.2]), (64, .box [Ti y3.1.1, Ti y3.1.2.1, Ti y3.1.2.2]), (56, .box [Ti 0, Ti 0, Ti 0, Ti 0]), (48, .box [Ti 0, Ti 0, Ti 0, Ti 0]), (40, .box [Ti 0, Ti 0, Ti 0]), (32, .box [Ti 0, Ti 0, Ti 0])]⟩) ?_ ?_
  ·refine XR 1 ?_
   refine XC (s_spec_reReduce hy4) cf_spec_reReduce rfl rfl rfl ?_
   exact XE
  obtain ⟨y5, hy5, h⟩ := of_bind h
  refine V_sreg (mb 118 16368) [88, 80, 72, 64, 56, 48, 40, 32] (s1 := ⟨bt 4 (.pt 32 0 :: .pt 40 0 :: .pt 48 0 :: .pt 56 0 :: .pt 64 0 :: .pt 72 0 :: .pt 80 0 :: .pt 88 0 :: I y5.1 :: I y5.2 :: bt 104 []), [(88, .box [Ti y4.2.1, Ti y4.2.2.1, Ti y4.2.2.2.1, Ti y4.2.2.2.2]), (80, .box [Ti y4.1.1, Ti y4.1.2.1, Ti y4.1.2.2]), (72, .box [Ti y3.2.1, Ti y3.2.2.1, Ti y3.2.2.2.1, Ti y3.2.2.2.2]), (64, .box [Ti y3.1.1, Ti y3.1.2.1, Ti y3.1.2.2]), (56, .box [Ti 0, Ti 0, Ti 0, Ti 0]), (48, .box [Ti 0, Ti 0, Ti 0, Ti 0]), (40, .box [Ti 0, Ti 0, Ti 0]), (32, .box [Ti 0, Ti 0, Ti 0])]⟩) ?_ ?_
  ·refine XR 3 ?_
   refine XC (s_spec_coPoint hy5) cf_spec_coPoint rfl rfl rfl ?_
   exact XE
  obtain ⟨y6, hy6, h⟩ := of_bind h
  refine V_sreg (mb 118 20464) [112, 88, 80, 72, 64, 56, 48, 40, 32] (s1 := ⟨bt 4 (.pt 32 0 :: .pt 40 0 :: .pt 48 0 :: .pt 56 0 :: .pt 64 0 :: .pt 72 0 :: .pt 80 0 :: .pt 88 0 :: .bot :: .bot :: .pt 112 0 :: bt 103 []), [(112, .box [Ti y6.2.1, Ti y6.2.2.1, Ti y6.2.2.2.1, Ti y6.2.2.2.2]), (88, .box [Ti y4.2.1, Ti y4.2.2.1, Ti y4.2.2.2.1, Ti y4.2.2.2.2]), (80, .box [Ti y6.1.1, Ti y6.1.2.1, Ti y6.1.2.2]), (72, .box [Ti y3.2.1, Ti y3.2.2.1, Ti y3.2.2.2.1, Ti y3.2.2.2.2]), (64, .box [Ti y3.1.1, Ti y3.1.2.1, Ti y3.1.2.2]), (56, .box [Ti 0, Ti 0, Ti 0, Ti 0]), (48, .box [Ti 0, Ti 0, Ti 0, Ti 0]), (40, .box [Ti 0, Ti 0, Ti 0]), (32, .box [Ti 0, Ti 0, Ti 0])]⟩) ?_ ?_
  ·refine XR 3 ?_
   refine XC (s_spec_vaComplete hy6) cf_spec_vaComplete rfl rfl rfl ?_
   exact XE
  obtain ⟨y7, hy7, h⟩ := of_bind h
  refine V_sreg (mb 118 4080) [88, 80, 72, 64, 56, 48, 40, 32] (s1 := ⟨bt 4 (.pt 32 0 :: .pt 40 0 :: .pt 48 0 :: .pt 56 0 :: .pt 64 0 :: .pt 72 0 :: .pt 80 0 :: .pt 88 0 :: bt 106 []), [(88, .box [Ti y7.1, Ti y7.2.1, Ti y7.2.2.1, Ti y7.2.2.2]), (80, .box [Ti y6.1.1, Ti y6.1.2.1, Ti y6.1.2.2]), (72, .box [Ti y3.2.1, Ti y3.2.2.1, Ti y3.2.2.2.1, Ti y3.2.2.2.2]), (64, .box [Ti y3.1.1, Ti y3.1.2.1, Ti y3.1.2.2]), (56, .box [Ti 0, Ti 0, Ti 0, Ti 0]), (48, .box [Ti 0, Ti 0, Ti 0, Ti 0]), (40, .box [Ti 0, Ti 0, Ti 0]), (32, .box [Ti 0, Ti 0, Ti 0])]⟩) ?_ ?_
  ·refine XR 2 ?_
   refine XC (s_spec_foMul hy7) cf_spec_foMul rfl rfl rfl ?_
   exact XE
  obtain ⟨y8, hy8, h⟩ := of_bind h
  obtain ⟨y9, hy9, h⟩ := of_bind h
  refine V_sdreg [0, 1, 0, 4, 12, 31, 0, 64, 192, 0, 512, 0, 2048, 6144, 16383, 32767, 65535, 65535, 65535, 131071, 786431, 2097151] 22 (cdm 22 [178954912, 178954913, 178954250, 178954266, 178954330, 178954581, 178784938, 178789034, 178805418, 176335530, 176597674, 2796202, 6990506, 23767722, 89478485, 357913941, 173230347605, 697216357717, 2793160398165, 177525314901, 435223352661, 1466015503701]) (mb 118 36848) [88, 80, 72, 64, 56, 48, 40, 32] (s1 := ⟨bt 4 (.pt 32 0 :: .pt 40 0 :: .pt 48 0 :: .pt 56 0 :: .pt 64 0 :: .pt 72 0 :: .pt 80 0 :: .pt 88 0 :: bt 3 (I y9.1 :: bt 102 [])), [(88, .box [Ti y7.1, Ti y7.2.1, Ti y7.2.2.1, Ti y7.2.2.2]), (80, .box [Ti y6.1.1, Ti y6.1.2.1, Ti y6.1.2.2]), (72, .box [Ti y3.2.1, Ti y3.2.2.1, Ti y3.2.2.2.1, Ti y3.2.2.2.2]), (64, .box [Ti y3.1.1, Ti y3.1.2.1, Ti y3.1.2.2]), (56, .box [Ti 0, Ti 0, Ti 0, Ti 0]), (48, .box [Ti 0, Ti 0, Ti 0, Ti 0]), (40, .box [Ti 0, Ti 0, Ti 0]), (32, .box [Ti 0, Ti 0, Ti 0])]⟩) (by kernel_rfl) (by kernel_rfl) ?_ ?_
  ·refine DR 5 ?_
   refine DC 5 (s_spec_nuMod hy8) cf_spec_nuMod rfl rfl rfl rfl 52 rfl ?_
   refine DR 8 ?_
   refine DC 14 (s_spec_nuCommon hy9) cf_spec_nuCommon rfl rfl rfl rfl 61 rfl ?_
   refine DA 7 ?_
   exact XE
  obtain ⟨z10, hz10, h⟩ := of_bind h
  obtain ⟨y11, hy11, h⟩ := of_bind h
  obtain ⟨y12, hy12, h⟩ := of_bind h
  refine V_sdreg [0, 0, 0, 4, 14, 0, 32, 96, 254, 510, 1023, 2047] 11 (cdm 11 [699048, 43170, 43018, 43034, 43094, 682, 1706, 5802, 21846, 87382, 349525]) (mb 118 36848) [88, 80, 72, 64, 56, 48, 40, 32] (s1 := ⟨bt 4 (.pt 32 0 :: .pt 40 0 :: .pt 48 0 :: .pt 56 0 :: .pt 64 0 :: .pt 72 0 :: .pt 80 0 :: .pt 88 0 :: bt 3 (I y9.1 :: bt 102 [])), [(88, .box [Ti y7.1, Ti y7.2.1, Ti y7.2.2.1, Ti y7.2.2.2]), (80, .box [Ti y6.1.1, Ti y6.1.2.1, Ti y6.1.2.2]), (72, .box [Ti y12.1, Ti y12.2.1, Ti y12.2.2.1, Ti y12.2.2.2]), (64, .box [Ti y3.1.1, Ti y3.1.2.1, Ti y3.1.2.2]), (56, .box [Ti 0, Ti 0, Ti 0, Ti 0]), (48, .box [Ti 0, Ti 0, Ti 0, Ti 0]), (40, .box [Ti 0, Ti 0, Ti 0]), (32, .box [Ti 0, Ti 0, Ti 0])]⟩) (by kernel_rfl) (by kernel_rfl) ?_ ?_
  ·refine DR 8 ?_
   refine DE_0 8 (I (w64 (Int.tdiv (w64 (y9.1 - y3.1.2.1)) (w64 (2 * y3.1.1))))) (by kernel_rfl) rfl rfl rfl (gsat_none rfl) (by kernel_rfl) (Y0_quo64 (a := w64 (y9.1 - y3.1.2.1)) (b := w64 (2 * y3.1.1)) rfl (by kernel_rfl) (by kernel_rfl) (nz_some hz10)) 73 rfl ?_
   refine DC 9 (s_spec_coShift hy11) cf_spec_coShift rfl rfl rfl rfl 74 rfl ?_
   refine DC 10 (s_spec_foMul hy12) cf_spec_foMul rfl rfl rfl rfl 75 rfl ?_
   refine DA 0 ?_
   exact XE
  obtain ⟨z13, hz13, h⟩ := of_bind h
  obtain ⟨y14, hy14, h⟩ := of_bind h
  obtain ⟨y15, hy15, h⟩ := of_bind h
  refine V_sdreg [0, 0, 0, 4, 14, 0, 32, 96, 254, 510, 1023, 2047] 11 (cdm 11 [699048, 43170, 43018, 43034, 43094, 682, 1706, 5802, 21846, 87382, 349525]) (mb 118 36848) [88, 80, 72, 64, 56, 48, 40, 32] (s1 := ⟨bt 4 (.pt 32 0 :: .pt 40 0 :: .pt 48 0 :: .pt 56 0 :: .pt 64 0 :: .pt 72 0 :: .pt 80 0 :: .pt 88 0 :: bt 3 (I y9.1 :: bt 102 [])), [(88, .box [Ti y15.1, Ti y15.2.1, Ti y15.2.2.1, Ti y15.2.2.2]), (80, .box [Ti y6.1.1, Ti y6.1.2.1, Ti y6.1.2.2]), (72, .box [Ti y12.1, Ti y12.2.1, Ti y12.2.2.1, Ti y12.2.2.2]), (64, .box [Ti y3.1.1, Ti y3.1.2.1, Ti y3.1.2.2]), (56, .box [Ti 0, Ti 0, Ti 0, Ti 0]), (48, .box [Ti 0, Ti 0, Ti 0, Ti 0]), (40, .box [Ti 0, Ti 0, Ti 0]), (32, .box [Ti 0, Ti 0, Ti 0])]⟩) (by kernel_rfl) (by kernel_rfl) ?_ ?_
  ·refine DR 8 ?_
   refine DE_0 8 (I (w64 (Int.tdiv (w64 (y9.1 - y6.1.2.1)) (w64 (2 * y6.1.1))))) (by kernel_rfl) rfl rfl rfl (gsat_none rfl) (by kernel_rfl) (Y0_quo64 (a := w64 (y9.1 - y6.1.2.1)) (b := w64 (2 * y6.1.1)) rfl (by kernel_rfl) (by kernel_rfl) (nz_some hz13)) 84 rfl ?_
   refine DC 9 (s_spec_coShift hy14) cf_spec_coShift rfl rfl rfl rfl 85 rfl ?_
   refine DC 10 (s_spec_foMul hy15) cf_spec_foMul rfl rfl rfl rfl 86 rfl ?_
   refine DA 0 ?_
   exact XE
  obtain ⟨y16, hy16, h⟩ := of_bind h
  obtain ⟨z17, hz17, h⟩ := of_bind h
  obtain ⟨c18, hc18, h⟩ := of_sI h
  refine V_sdreg [0, 0, 3, 0, 8, 31, 0, 64, 192, 0, 512, 1984, 4095, 8191] 14 (cdm 14 [11182728, 11182722, 11182725, 11182122, 11182186, 11182421, 2624170, 2628266, 2644650, 174762, 436906, 1399466, 5592405, 22369621]) (mb 118 298992) [88, 80, 72, 64, 56, 48, 40, 32] (s1 := ⟨bt 4 (.pt 32 0 :: .pt 40 0 :: .pt 48 0 :: .pt 56 0 :: .pt 64 0 :: .pt 72 0 :: .pt 80 0 :: .pt 88 0 :: bt 3 (I y9.1 :: .bot :: .bot :: I c18 :: bt 99 [])), [(88, .box [Ti y15.1, Ti y15.2.1, Ti y15.2.2.1, Ti y15.2.2.2]), (80, .box [Ti y6.1.1, Ti y6.1.2.1, Ti y6.1.2.2]), (72, .box [Ti y12.1, Ti y12.2.1, Ti y12.2.2.1, Ti y12.2.2.2]), (64, .box [Ti y3.1.1, Ti y3.1.2.1, Ti y3.1.2.2]), (56, .box [Ti 0, Ti 0, Ti 0, Ti 0]), (48, .box [Ti 0, Ti 0, Ti 0, Ti 0]), (40, .box [Ti 0, Ti 0, Ti 0]), (32, .box [Ti 0, Ti 0, Ti 0])]⟩) (by kernel_rfl) (by kernel_rfl) ?_ ?_
  ·refine DR 4 ?_
   refine DC 4 (s_spec_foDisc hy16) cf_spec_foDisc rfl rfl rfl rfl 91 rfl ?_
   refine DR 7 ?_
   refine DE_0 12 (I (w64 (Int.tdiv (w64 ((w64 (y9.1 * y9.1)) - y16)) (w64 ((w64 (4 * y3.1.1)) * y6.1.1))))) (by kernel_rfl) rfl rfl rfl (gsat_none rfl) (by kernel_rfl) (Y0_quo64 (a := w64 ((w64 (y9.1 * y9.1)) - y16)) (b := w64 ((w64 (4 * y3.1.1)) * y6.1.1)) rfl (by kernel_rfl) (by kernel_rfl) (nz_some hz17)) 99 rfl ?_
   refine DA 1 ?_
   refine XL_nil ?_
   subst hc18
   kernel_rfl
  obtain ⟨f19, hf19, h⟩ := of_sI h
  obtain ⟨f20, hf20, h⟩ := of_sI h
  refine V_sdreg [0, 1, 0, 0, 8, 0, 56, 127, 0, 256, 0, 0, 2048, 0, 14336, 32512, 0, 0, 255, 327679, 917503, 2097151] 21 [[.z, .z, .b, .b, .b, .b, .b, .z, .b, .b, .b, .b, .b, .b, .b, .b, .b, .b, .z, .z, .z], [.a, .z, .b, .b, .b, .b, .b, .z, .b, .b, .b, .b, .b, .b, .b, .b, .b, .b, .z, .z, .z], [.b, .b, .z, .b, .b, .b, .b, .z, .b, .b, .b, .b, .b, .b, .b, .b, .b, .b, .z, .z, .z], [.b, .b, .b, .z, .z, .b, .z, .z, .b, .b, .b, .b, .b, .b, .b, .b, .b, .b, .z, .z, .z], [.b, .b, .b, .a, .z, .b, .z, .z, .b, .b, .b, .b, .b, .b, .b, .b, .b, .b, .z, .z, .z], [.b, .b, .b, .b, .b, .z, .z, .z, .b, .b, .b, .b, .b, .b, .b, .b, .b, .b, .z, .z, .z], [.b, .b, .b, .a, .a, .a, .z, .z, .b, .b, .b, .b, .b, .b, .b, .b, .b, .b, .z, .z, .z], [.a, .a, .a, .a, .a, .a, .a, .z, .b, .b, .b, .b, .b, .b, .b, .b, .b, .b, .z, .z, .z], [.b, .b, .b, .b, .b, .b, .b, .b, .z, .z, .b, .b, .b, .b, .b, .z, .b, .b, .r 32, .z, .z], [.b, .b, .b, .b, .b, .b, .b, .b, .a, .z, .b, .b, .b, .b, .b, .z, .b, .b, .r 32, .z, .z], [.b, .b, .b, .b, .b, .b, .b, .b, .b, .b, .z, .b, .b, .b, .b, .z, .b, .b, .r 32, .z, .z], [.b, .b, .b, .b, .b, .b, .b, .b, .b, .b, .b, .z, .z, .b, .z, .z, .b, .b, .r 32, .z, .z], [.b, .b, .b, .b, .b, .b, .b, .b, .b, .b, .b, .a, .z, .b, .z, .z, .b, .b, .r 32, .z, .z], [.b, .b, .b, .b, .b, .b, .b, .b, .b, .b, .b, .b, .b, .z, .z, .z, .b, .b, .r 32, .z, .z], [.b, .b, .b, .b, .b, .b, .b, .b, .b, .b, .b, .a, .a, .a, .z, .z, .b, .b, .r 32, .z, .z], [.b, .b, .b, .b, .b, .b, .b, .b, .a, .a, .a, .a, .a, .a, .a, .z, .b, .b, .r 32, .z, .z], [.b, .b, .b, .b, .b, .b, .b, .b, .b, .b, .b, .b, .b, .b, .b, .b, .z, .b, .r 32, .r 40, .z], [.b, .b, .b, .b, .b, .b, .b, .b, .b, .b, .b, .b, .b, .b, .b, .b, .b, .z, .r 32, .r 40, .r 48], [.a, .a, .a, .a, .a, .a, .a, .a, .b, .b, .b, .b, .b, .b, .b, .b, .b, .b, .z, .z, .z], [.a, .a, .a, .a, .a, .a, .a, .a, .a, .a, .a, .a, .a, .a, .a, .a, .b, .b, .a, .z, .z], [.a, .a, .a, .a, .a, .a, .a, .a, .a, .a, .a, .a, .a, .a, .a, .a, .a, .b, .a, .a, .z]] (mb 118 240) [56, 48, 40, 32] (s1 := ⟨bt 4 (.pt 32 0 :: .pt 40 0 :: .pt 48 0 :: .pt 56 0 :: bt 110 []), [(56, .box [Ti y15.1, Ti y15.2.1, Ti y15.2.2.1, Ti y15.2.2.2]), (48, .box [Ti y12.1, Ti y12.2.1, Ti y12.2.2.1, Ti y12.2.2.2]), (40, .box [Ti y6.1.1, Ti y9.1, Ti f19]), (32, .box [Ti y3.1.1, Ti y9.1, Ti f20])]⟩) (by kernel_rfl) (by kernel_rfl) ?_ ?_
  ·refine DR 7 ?_
   refine DE_0 7 (.ag [Ti y3.1.1, Ti y9.1, Ti (w64 (y6.1.1 * c18))]) (by kernel_rfl) rfl rfl rfl (gsat_none rfl) (by kernel_rfl) (Y0_build (cs := [Ti y3.1.1, Ti y9.1, Ti (w64 (y6.1.1 * c18))]) pl25 bt25 rfl rfl (by kernel_rfl)) 107 rfl ?_
   refine DR 7 ?_
   refine DE_0 15 (.ag [Ti y6.1.1, Ti y9.1, Ti (w64 (y3.1.1 * c18))]) (by kernel_rfl) rfl rfl rfl (gsat_none rfl) (by kernel_rfl) (Y0_build (cs := [Ti y6.1.1, Ti y9.1, Ti (w64 (y3.1.1 * c18))]) pl25 bt25 rfl rfl (by kernel_rfl)) 115 rfl ?_
   refine DA 5 ?_
   refine XR 1 ?_
   refine XL_nil ?_
   subst hf19 hf20
   kernel_rfl
  refine V_ret ?_
  obtain rfl := some_inj h
  show Post _ _ _ _ _
  exact ⟨.inr rfl, rfl, rfl, rfl⟩
theorem cf_spec_coJoined : ∀ args w, (callFunc 81 args).run Try.prog w = .ok (.enter 81 args) w := run_callFunc Try.func81 (by kernel_rfl) (by kernel_rfl)
theorem s_spec_coJoined {a1 : (Int × Int × Int)} {e2 : (Int × Int × Int)} {r : (Int × Int × Int)} (h : r_spec_coJoined a1 e2 = some r) : CallS Try.prog 81 [.ag [Ti a1.1, Ti a1.2.1, Ti a1.2.2], .ag [Ti e2.1, Ti e2.2.1, Ti e2.2.2]] (.ag [Ti r.1, Ti r.2.1, Ti r.2.2]) [] := by
  refine CallS_of_text (rs := [.w 4 3]) (vs := [.cell 4 25]) Try.func81 rfl rfl (.cons ⟨rfl, wd25⟩ FitsL.nil) (by decide) 18 rfl ?_
  unfold r_spec_coJoined at h
  show V _ _ ⟨.ag [Ti a1.1, Ti a1.2.1, Ti a1.2.2] :: .ag [Ti e2.1, Ti e2.2.1, Ti e2.2.2] :: bt 16 [], []⟩ _
  refine V_e (mb 18 28) [32, 24, 16] (s1 := ⟨.bot :: .bot :: .pt 16 0 :: .pt 24 0 :: .pt 32 0 :: bt 13 [], [(32, .box [Ti 0, Ti 0, Ti 0]), (24, .box [Ti e2.1, Ti e2.2.1, Ti e2.2.2]), (16, .box [Ti a1.1, Ti a1.2.1, Ti a1.2.2])]⟩) ?_
  obtain ⟨z3, hz3, h⟩ := of_bind h
  obtain ⟨f4, hf4, h⟩ := of_sI h
  obtain ⟨f5, hf5, h⟩ := of_sI h
  refine V_sdreg [0, 1, 0, 4, 15, 0, 32, 0, 128, 0, 512, 1920, 4095, 8191] 13 (cdm 13 [11184288, 11184289, 11184138, 11184154, 11184213, 11174570, 11175594, 2632362, 2648746, 174762, 436906, 1403562, 5592405]) (mb 18 16) [32] (s1 := ⟨bt 4 (.pt 32 0 :: bt 13 []), [(32, .box [Ti f4, Ti a1.2.1, Ti f5])]⟩) (by kernel_rfl) (by kernel_rfl) ?_ ?_
  ·refine DR 11 ?_
   refine DE_0 11 (I (w64 (Int.tdiv a1.2.2 e2.1))) (by kernel_rfl) rfl rfl rfl (gsat_none rfl) (by kernel_rfl) (Y0_quo64 (a := a1.2.2) (b := e2.1) rfl (by kernel_rfl) (by kernel_rfl) (nz_some hz3)) 16 rfl ?_
   refine DE_0 12 (.ag [Ti (w64 (a1.1 * e2.1)), Ti a1.2.1, Ti (w64 (Int.tdiv a1.2.2 e2.1))]) (by kernel_rfl) rfl rfl rfl (gsat_none rfl) (by kernel_rfl) (Y0_build (cs := [Ti (w64 (a1.1 * e2.1)), Ti a1.2.1, Ti (w64 (Int.tdiv a1.2.2 e2.1))]) pl25 bt25 rfl rfl (by kernel_rfl)) 17 rfl ?_
   refine DA 0 ?_
   refine XR 1 ?_
   refine XL_nil ?_
   subst hf4 hf5
   kernel_rfl
  refine V_ret ?_
  obtain rfl := some_inj h
  show Post _ _ _ _ _
  exact ⟨.inr rfl, rfl, rfl, rfl⟩
theorem cf_spec_reClass : ∀ args w, (callFunc 58 args).run Try.prog w = .ok (.enter 58 args) w := run_callFunc Try.func58 (by kernel_rfl) (by kernel_rfl)
theorem s_spec_reClass {f1 : (Int × Int × Int)} {r : (Int × Int × Int)} (h : r_spec_reClass f1 = some r) : CallS Try.prog 58 [.ag [Ti f1.1, Ti f1.2.1, Ti f1.2.2]] (.ag [Ti r.1, Ti r.2.1, Ti r.2.2]) [] := by
  refine CallS_of_text (rs := [.w 2 3]) (vs := [.cell 2 25]) Try.func58 rfl rfl (.cons ⟨rfl, wd25⟩ FitsL.nil) (by decide) 11 rfl ?_
  unfold r_spec_reClass at h
  show V _ _ ⟨.ag [Ti f1.1, Ti f1.2.1, Ti f1.2.2] :: bt 10 [], []⟩ _
  refine V_e (mb 11 6) [16, 8] (s1 := ⟨.bot :: .pt 8 0 :: .pt 16 0 :: bt 8 [], [(16, .box [Ti 0, Ti 0, Ti 0]), (8, .box [Ti f1.1, Ti f1.2.1, Ti f1.2.2])]⟩) ?_
  obtain ⟨y2, hy2, h⟩ := of_bind h
  refine V_sreg (mb 11 12) [24, 16] (s1 := ⟨.bot :: .bot :: .pt 16 0 :: .pt 24 0 :: bt 7 [], [(24, .box [Ti y2.1.1, Ti y2.1.2.1, Ti y2.1.2.2]), (16, .box [Ti 0, Ti 0, Ti 0])]⟩) ?_ ?_
  ·refine XR 1 ?_
   refine XC (s_spec_reReduce hy2) cf_spec_reReduce rfl rfl rfl ?_
   exact XE
  refine V_e (mb 11 4) [16] (s1 := ⟨.bot :: .bot :: .pt 16 0 :: bt 8 [], [(16, .box [Ti y2.1.1, Ti y2.1.2.1, Ti y2.1.2.2])]⟩) ?_
  refine V_ret ?_
  obtain rfl := some_inj h
  show Post _ _ _ _ _
  exact ⟨.inr rfl, rfl, rfl, rfl⟩
theorem cf_spec_coMul : ∀ args w, (callFunc 35 args).run Try.prog w = .ok (.enter 35 args) w := run_callFunc Try.func35 (by kernel_rfl) (by kernel_rfl)
theorem s_spec_coMul {f1 : (Int × Int × Int)} {g2 : (Int × Int × Int)} {r : (Int × Int × Int)} (h : r_spec_coMul f1 g2 = some r) : CallS Try.prog 35 [.ag [Ti f1.1, Ti f1.2.1, Ti f1.2.2], .ag [Ti g2.1, Ti g2.2.1, Ti g2.2.2]] (.ag [Ti r.1, Ti r.2.1, Ti r.2.2]) [] := by
  refine CallS_of_text (rs := [.w 4 3]) (vs := [.cell 4 25]) Try.func35 rfl rfl (.cons ⟨rfl, wd25⟩ FitsL.nil) (by decide) 21 rfl ?_
  unfold r_spec_coMul at h
  show V _ _ ⟨.ag [Ti f1.1, Ti f1.2.1, Ti f1.2.2] :: .ag [Ti g2.1, Ti g2.2.1, Ti g2.2.2] :: bt 19 [], []⟩ _
  refine V_e (mb 21 28) [32, 24, 16] (s1 := ⟨.bot :: .bot :: .pt 16 0 :: .pt 24 0 :: .pt 32 0 :: bt 16 [], [(32, .box [Ti 0, Ti 0, Ti 0]), (24, .box [Ti g2.1, Ti g2.2.1, Ti g2.2.2]), (16, .box [Ti f1.1, Ti f1.2.1, Ti f1.2.2])]⟩) ?_
  obtain ⟨y3, hy3, h⟩ := of_bind h
  refine V_sreg (mb 21 112) [48, 40, 32] (s1 := ⟨bt 4 (.pt 32 0 :: .pt 40 0 :: .pt 48 0 :: bt 14 []), [(48, .box [Ti y3.2.1.1, Ti y3.2.1.2.1, Ti y3.2.1.2.2]), (40, .box [Ti y3.1.1, Ti y3.1.2.1, Ti y3.1.2.2]), (32, .box [Ti 0, Ti 0, Ti 0])]⟩) ?_ ?_
  ·refine XR 2 ?_
   refine XC (s_spec_coUnite hy3) cf_spec_coUnite rfl rfl rfl ?_
   exact XE
  obtain ⟨y4, hy4, h⟩ := of_bind h
  obtain ⟨y5, hy5, h⟩ := of_bind h
  refine V_sreg (mb 21 16) [32] (s1 := ⟨bt 4 (.pt 32 0 :: bt 16 []), [(32, .box [Ti y5.1, Ti y5.2.1, Ti y5.2.2])]⟩) ?_ ?_
  ·refine XR 2 ?_
   refine XC (s_spec_coJoined hy4) cf_spec_coJoined rfl rfl rfl ?_
   refine XC (s_spec_reClass hy5) cf_spec_reClass rfl rfl rfl ?_
   exact XE
  refine V_ret ?_
  obtain rfl := some_inj h
  show Post _ _ _ _ _
  exact ⟨.inr rfl, rfl, rfl, rfl⟩
theorem cf_spec_ComposeForms : ∀ args w, (callFunc 9 args).run Try.prog w = .ok (.enter 9 args) w := run_callFunc Try.func9 (by kernel_rfl) (by kernel_rfl)
theorem s_spec_ComposeForms {f1 : (Int × Int × Int)} {g2 : (Int × Int × Int)} {r : (((Int × Int × Int)) × Bool)} (h : r_spec_ComposeForms f1 g2 = some r) : CallS Try.prog 9 [.ag [Ti f1.1, Ti f1.2.1, Ti f1.2.2], .ag [Ti g2.1, Ti g2.2.1, Ti g2.2.2]] (.tc (.ag [Ti r.1.1, Ti r.1.2.1, Ti r.1.2.2]) (.tc (Bo r.2) .tn)) [] := by
  refine CallS_of_text (rs := [.w 4 3, .t 5]) (vs := [.cell 4 25, .tmp 5]) Try.func9 rfl rfl (.cons ⟨rfl, wd25⟩ (.cons rfl FitsL.nil)) (by decide) 14 rfl ?_
  unfold r_spec_ComposeForms at h
  show V _ _ ⟨.ag [Ti f1.1, Ti f1.2.1, Ti f1.2.2] :: .ag [Ti g2.1, Ti g2.2.1, Ti g2.2.2] :: bt 12 [], []⟩ _
  refine V_e (mb 14 28) [32, 24, 16] (s1 := ⟨.bot :: .bot :: .pt 16 0 :: .pt 24 0 :: .pt 32 0 :: bt 9 [], [(32, .box [Ti 0, Ti 0, Ti 0]), (24, .box [Ti g2.1, Ti g2.2.1, Ti g2.2.2]), (16, .box [Ti f1.1, Ti f1.2.1, Ti f1.2.2])]⟩) ?_
  refine V_seq ?_
  obtain ⟨y3, hy3, h⟩ := of_bind h
  refine V_sreg (mb 14 540) [32, 24, 16] (s1 := ⟨.bot :: .bot :: .pt 16 0 :: .pt 24 0 :: .pt 32 0 :: bt 4 (Bo (!y3) :: bt 4 []), [(32, .box [Ti 0, Ti 0, Ti 0]), (24, .box [Ti g2.1, Ti g2.2.1, Ti g2.2.2]), (16, .box [Ti f1.1, Ti f1.2.1, Ti f1.2.2])]⟩) ?_ ?_
  ·refine XR 2 ?_
   refine XC (s_spec_coTwo hy3) cf_spec_coTwo rfl rfl rfl ?_
   exact XE
  refine V_cond rfl (fun hc4 => ?_) (fun hc4 => ?_)
  ·have h := of_true h hc4
   refine V_sreg (mb 14 48) [32] (s1 := ⟨bt 4 (.pt 32 0 :: Bo false :: bt 8 []), [(32, .box [Ti 0, Ti 0, Ti 0])]⟩) ?_ ?_
   ·refine L0 rfl rfl (Y0_build (cs := [Ti 0, Ti 0, Ti 0]) pl25 bt25 rfl rfl (by kernel_rfl)) ?_
    exact XE
   refine V_ret ?_
   obtain rfl := some_inj h
   show Post _ _ _ _ _
   exact ⟨.inr rfl, rfl, rfl, rfl⟩
  ·have h := of_false h hc4
   refine V_skip ?_
   show V _ _ _ _
   obtain ⟨y5, hy5, h⟩ := of_bind h
   refine V_sreg (mb 14 48) [32] (s1 := ⟨bt 4 (.pt 32 0 :: Bo true :: bt 8 []), [(32, .box [Ti y5.1, Ti y5.2.1, Ti y5.2.2])]⟩) ?_ ?_
   ·refine XR 2 ?_
    refine XC (s_spec_coMul hy5) cf_spec_coMul rfl rfl rfl ?_
    exact XE
   refine V_ret ?_
   obtain rfl := some_inj h
   show Post _ _ _ _ _
   exact ⟨.inr rfl, rfl, rfl, rfl⟩
theorem cf_impl_Form_opposite : ∀ args w, (callFunc 38 args).run Try.prog w = .ok (.enter 38 args) w := run_callFunc Try.func38 (by kernel_rfl) (by kernel_rfl)
theorem s_impl_Form_opposite {f1 : (Int × Int × Int)} {r : (Int × Int × Int)} (h : r_impl_Form_opposite f1 = some r) : CallS Try.prog 38 [.ag [Ti f1.1, Ti f1.2.1, Ti f1.2.2]] (.ag [Ti r.1, Ti r.2.1, Ti r.2.2]) [] := by
  refine CallS_of_text (rs := [.w 2 3]) (vs := [.cell 2 25]) Try.func38 rfl rfl (.cons ⟨rfl, wd25⟩ FitsL.nil) (by decide) 11 rfl ?_
  unfold r_impl_Form_opposite at h
  show V _ _ ⟨.ag [Ti f1.1, Ti f1.2.1, Ti f1.2.2] :: bt 10 [], []⟩ _
  refine V_e (mb 11 6) [16, 8] (s1 := ⟨.bot :: .pt 8 0 :: .pt 16 0 :: bt 8 [], [(16, .box [Ti 0, Ti 0, Ti 0]), (8, .box [Ti f1.1, Ti f1.2.1, Ti f1.2.2])]⟩) ?_
  obtain ⟨f2, hf2, h⟩ := of_sI h
  refine V_sreg (mb 11 4) [16] (s1 := ⟨.bot :: .bot :: .pt 16 0 :: bt 8 [], [(16, .box [Ti f1.1, Ti f2, Ti f1.2.2])]⟩) ?_ ?_
  ·refine XR 7 ?_
   refine L0 rfl rfl (Y0_build (cs := [Ti f1.1, Ti (w64 (0 - f1.2.1)), Ti f1.2.2]) pl25 bt25 rfl rfl (by kernel_rfl)) ?_
   refine XR 1 ?_
   refine XL_nil ?_
   subst hf2
   kernel_rfl
  refine V_ret ?_
  obtain rfl := some_inj h
  show Post _ _ _ _ _
  exact ⟨.inr rfl, rfl, rfl, rfl⟩
theorem cf_impl_InverseForm : ∀ args w, (callFunc 10 args).run Try.prog w = .ok (.enter 10 args) w := run_callFunc Try.func10 (by kernel_rfl) (by kernel_rfl)
theorem s_impl_InverseForm {f1 : (Int × Int × Int)} {r : (((Int × Int × Int)) × Bool)} (h : r_impl_InverseForm f1 = some r) : CallS Try.prog 10 [.ag [Ti f1.1, Ti f1.2.1, Ti f1.2.2]] (.tc (.ag [Ti r.1.1, Ti r.1.2.1, Ti r.1.2.2]) (.tc (Bo r.2) .tn)) [] := by
  refine CallS_of_text (rs := [.w 2 3, .t 3]) (vs := [.cell 2 25, .tmp 3]) Try.func10 rfl rfl (.cons ⟨rfl, wd25⟩ (.cons rfl FitsL.nil)) (by decide) 11 rfl ?_
  unfold r_impl_InverseForm at h
  show V _ _ ⟨.ag [Ti f1.1, Ti f1.2.1, Ti f1.2.2] :: bt 10 [], []⟩ _
  refine V_e (mb 11 6) [16, 8] (s1 := ⟨.bot :: .pt 8 0 :: .pt 16 0 :: bt 8 [], [(16, .box [Ti 0, Ti 0, Ti 0]), (8, .box [Ti f1.1, Ti f1.2.1, Ti f1.2.2])]⟩) ?_
  refine V_seq ?_
  obtain ⟨y2, hy2, h⟩ := of_bind h
  refine V_sreg (mb 11 70) [16, 8] (s1 := ⟨.bot :: .pt 8 0 :: .pt 16 0 :: bt 3 (Bo (!y2) :: bt 4 []), [(16, .box [Ti 0, Ti 0, Ti 0]), (8, .box [Ti f1.1, Ti f1.2.1, Ti f1.2.2])]⟩) ?_ ?_
  ·refine XR 1 ?_
   refine XC (s_impl_isClassForm hy2) cf_impl_isClassForm rfl rfl rfl ?_
   exact XE
  refine V_cond rfl (fun hc3 => ?_) (fun hc3 => ?_)
  ·have h := of_true h hc3
   refine V_sreg (mb 11 12) [16] (s1 := ⟨.bot :: .bot :: .pt 16 0 :: Bo false :: bt 7 [], [(16, .box [Ti 0, Ti 0, Ti 0])]⟩) ?_ ?_
   ·refine L0 rfl rfl (Y0_build (cs := [Ti 0, Ti 0, Ti 0]) pl25 bt25 rfl rfl (by kernel_rfl)) ?_
    exact XE
   refine V_ret ?_
   obtain rfl := some_inj h
   show Post _ _ _ _ _
   exact ⟨.inr rfl, rfl, rfl, rfl⟩
  ·have h := of_false h hc3
   refine V_skip ?_
   show V _ _ _ _
   obtain ⟨y4, hy4, h⟩ := of_bind h
   obtain ⟨y5, hy5, h⟩ := of_bind h
   refine V_sreg (mb 11 12) [16] (s1 := ⟨.bot :: .bot :: .pt 16 0 :: Bo true :: bt 7 [], [(16, .box [Ti y5.1, Ti y5.2.1, Ti y5.2.2])]⟩) ?_ ?_
   ·refine XR 1 ?_
    refine XC (s_impl_Form_opposite hy4) cf_impl_Form_opposite rfl rfl rfl ?_
    refine XC (s_impl_reduced hy5) cf_impl_reduced rfl rfl rfl ?_
    exact XE
   refine V_ret ?_
   obtain rfl := some_inj h
   show Post _ _ _ _ _
   exact ⟨.inr rfl, rfl, rfl, rfl⟩
theorem cf_impl_principalForm : ∀ args w, (callFunc 84 args).run Try.prog w = .ok (.enter 84 args) w := run_callFunc Try.func84 (by kernel_rfl) (by kernel_rfl)
theorem s_impl_principalForm {d1 : Int} {r : (Int × Int × Int)} (h : r_impl_principalForm d1 = some r) : CallS Try.prog 84 [I d1] (.ag [Ti r.1, Ti r.2.1, Ti r.2.2]) [] := by
  refine CallS_of_text (rs := [.w 2 3]) (vs := [.cell 2 25]) Try.func84 rfl rfl (.cons ⟨rfl, wd25⟩ FitsL.nil) (by decide) 12 rfl ?_
  unfold r_impl_principalForm at h
  show V _ _ ⟨I d1 :: bt 11 [], []⟩ _
  refine V_e (mb 12 5) [16] (s1 := ⟨I d1 :: .bot :: .pt 16 0 :: bt 9 [], [(16, .box [Ti 0, Ti 0, Ti 0])]⟩) ?_
  obtain ⟨y2, hy2, h⟩ := of_bind h
  refine V_sreg (mb 12 13) [16] (s1 := ⟨I d1 :: .bot :: .pt 16 0 :: I y2 :: bt 8 [], [(16, .box [Ti 0, Ti 0, Ti 0])]⟩) ?_ ?_
  ·refine XR 1 ?_
   refine XC (s_impl_mod hy2) cf_impl_mod rfl rfl rfl ?_
   exact XE
  obtain ⟨f3, hf3, h⟩ := of_sI h
  refine V_sreg (mb 12 4) [16] (s1 := ⟨.bot :: .bot :: .pt 16 0 :: bt 9 [], [(16, .box [Ti 1, Ti y2, Ti f3])]⟩) ?_ ?_
  ·refine XR 4 ?_
   refine L0 rfl rfl (Y0_quo64 (a := w64 (y2 - d1)) (b := 4) rfl (by kernel_rfl) (by kernel_rfl) (by decide)) ?_
   refine L0 rfl rfl (Y0_build (cs := [Ti 1, Ti y2, Ti (w64 (Int.tdiv (w64 (y2 - d1)) 4))]) pl25 bt25 rfl rfl (by kernel_rfl)) ?_
   refine XR 1 ?_
   refine XL_nil ?_
   subst hf3
   kernel_rfl
  refine V_ret ?_
  obtain rfl := some_inj h
  show Post _ _ _ _ _
  exact ⟨.inr rfl, rfl, rfl, rfl⟩
theorem cf_impl_isIdentity : ∀ args w, (callFunc 39 args).run Try.prog w = .ok (.enter 39 args) w := run_callFunc Try.func39 (by kernel_rfl) (by kernel_rfl)
theorem s_impl_isIdentity {f1 : (Int × Int × Int)} {r : Bool} (h : r_impl_isIdentity f1 = some r) : CallS Try.prog 39 [.ag [Ti f1.1, Ti f1.2.1, Ti f1.2.2]] (Bo r) [] := by
  refine CallS_of_text (rs := [.t 2]) (vs := [.tmp 2]) Try.func39 rfl rfl (.cons rfl FitsL.nil) (by decide) 10 rfl ?_
  unfold r_impl_isIdentity at h
  show V _ _ ⟨.ag [Ti f1.1, Ti f1.2.1, Ti f1.2.2] :: bt 9 [], []⟩ _
  refine V_e (mb 10 2) [8] (s1 := ⟨.bot :: .pt 8 0 :: bt 8 [], [(8, .box [Ti f1.1, Ti f1.2.1, Ti f1.2.2])]⟩) ?_
  obtain ⟨y2, hy2, h⟩ := of_bind h
  obtain ⟨y3, hy3, h⟩ := of_bind h
  obtain ⟨y4, hy4, h⟩ := of_bind h
  obtain ⟨y5, hy5, h⟩ := of_bind h
  obtain ⟨t6, ht6, h⟩ := of_bind h
  have ht6 := some_inj ht6
  refine V_sdreg [0, 1, 0, 7, 15, 31, 63, 127] 8 (cdm 8 [32, 33, 10, 21, 85, 341, 1365, 5461]) (mb 10 4) [] (s1 := ⟨.bot :: .bot :: Bo t6 :: bt 7 [], []⟩) (by kernel_rfl) (by kernel_rfl) ?_ ?_
  ·refine DR 1 ?_
   refine DC 1 (s_impl_reduced hy2) cf_impl_reduced rfl rfl rfl rfl 4 rfl ?_
   refine DR 1 ?_
   refine DC 3 (s_impl_Form_disc hy3) cf_impl_Form_disc rfl rfl rfl rfl 6 rfl ?_
   refine DC 4 (s_impl_principalForm hy4) cf_impl_principalForm rfl rfl rfl rfl 7 rfl ?_
   refine DC 5 (s_impl_reduced hy5) cf_impl_reduced rfl rfl rfl rfl 8 rfl ?_
   refine DE_0 6 (Bo (((y2.1 == y5.1) && ((y2.2.1 == y5.2.1) && (y2.2.2 == y5.2.2))))) (by kernel_rfl) rfl rfl rfl (gsat_none rfl) (by kernel_rfl) (Y0_eqg3 (a0 := y2.1) (b0 := y5.1) (a1 := y2.2.1) (b1 := y5.2.1) (a2 := y2.2.2) (b2 := y5.2.2) eqg25 rfl (by kernel_rfl) (by kernel_rfl)) 9 rfl ?_
   refine DA 1 ?_
   refine XL_nil ?_
   subst ht6
   kernel_rfl
  refine V_ret ?_
  obtain rfl := some_inj h
  show Post _ _ _ _ _
  exact ⟨.inr rfl, rfl, rfl, rfl⟩
theorem cf_impl_IsIdentity : ∀ args w, (callFunc 11 args).run Try.prog w = .ok (.enter 11 args) w := run_callFunc Try.func11 (by kernel_rfl) (by kernel_rfl)
theorem s_impl_IsIdentity {f1 : (Int × Int × Int)} {r : (Bool × Bool)} (h : r_impl_IsIdentity f1 = some r) : CallS Try.prog 11 [.ag [Ti f1.1, Ti f1.2.1, Ti f1.2.2]] (.tc (Bo r.1) (.tc (Bo r.2) .tn)) [] := by
  refine CallS_of_text (rs := [.t 2, .t 3]) (vs := [.tmp 2, .tmp 3]) Try.func11 rfl rfl (.cons rfl (.cons rfl FitsL.nil)) (by decide) 9 rfl ?_
  unfold r_impl_IsIdentity at h
  show V _ _ ⟨.ag [Ti f1.1, Ti f1.2.1, Ti f1.2.2] :: bt 8 [], []⟩ _
  refine V_e (mb 9 2) [8] (s1 := ⟨.bot :: .pt 8 0 :: bt 7 [], [(8, .box [Ti f1.1, Ti f1.2.1, Ti f1.2.2])]⟩) ?_
  refine V_seq ?_
  obtain ⟨y2, hy2, h⟩ := of_bind h
  refine V_sreg (mb 9 66) [8] (s1 := ⟨.bot :: .pt 8 0 :: bt 4 (Bo (!y2) :: .bot :: .bot :: []), [(8, .box [Ti f1.1, Ti f1.2.1, Ti f1.2.2])]⟩) ?_ ?_
  ·refine XR 1 ?_
   refine XC (s_impl_isClassForm hy2) cf_impl_isClassForm rfl rfl rfl ?_
   exact XE
  refine V_cond rfl (fun hc3 => ?_) (fun hc3 => ?_)
  ·have h := of_true h hc3
   refine V_e (mb 9 12) [] (s1 := ⟨.bot :: .bot :: Bo false :: Bo false :: bt 5 [], []⟩) ?_
   refine V_ret ?_
   obtain rfl := some_inj h
   show Post _ _ _ _ _
   exact ⟨.inr rfl, rfl, rfl, rfl⟩
  ·have h := of_false h hc3
   refine V_skip ?_
   show V _ _ _ _
   obtain ⟨y4, hy4, h⟩ := of_bind h
   refine V_sreg (mb 9 12) [] (s1 := ⟨.bot :: .bot :: Bo y4 :: Bo true :: bt 5 [], []⟩) ?_ ?_
   ·refine XR 1 ?_
    refine XC (s_impl_isIdentity hy4) cf_impl_isIdentity rfl rfl rfl ?_
    exact XE
   refine V_ret ?_
   obtain rfl := some_inj h
   show Post _ _ _ _ _
   exact ⟨.inr rfl, rfl, rfl, rfl⟩
theorem cf_impl_orderOf : ∀ args w, (callFunc 40 args).run Try.prog w = .ok (.enter 40 args) w := run_callFunc Try.func40 (by kernel_rfl) (by kernel_rfl)
theorem s_impl_orderOf {f1 : (Int × Int × Int)} {r : Int} (h : r_impl_orderOf f1 = some r) : CallS Try.prog 40 [.ag [Ti f1.1, Ti f1.2.1, Ti f1.2.2]] (I r) [] := by
  refine CallS_of_text (rs := [.t 2]) (vs := [.tmp 2]) Try.func40 rfl rfl (.cons rfl FitsL.nil) (by decide) 17 rfl ?_
  unfold r_impl_orderOf at h
  show V _ _ ⟨.ag [Ti f1.1, Ti f1.2.1, Ti f1.2.2] :: bt 16 [], []⟩ _
  refine V_e (mb 17 2) [8] (s1 := ⟨.bot :: .pt 8 0 :: bt 15 [], [(8, .box [Ti f1.1, Ti f1.2.1, Ti f1.2.2])]⟩) ?_
  refine V_e (mb 17 10) [8] (s1 := ⟨.bot :: .pt 8 0 :: .bot :: I 1 :: bt 13 [], [(8, .box [Ti f1.1, Ti f1.2.1, Ti f1.2.2])]⟩) ?_
  refine V_seq ?_
  obtain ⟨y2, hy2, h⟩ := of_bind h
  refine V_sreg (mb 17 26) [32, 8] (s1 := ⟨.bot :: .pt 8 0 :: .bot :: I 1 :: .pt 32 0 :: bt 12 [], [(32, .box [Ti y2.1, Ti y2.2.1, Ti y2.2.2]), (8, .box [Ti f1.1, Ti f1.2.1, Ti f1.2.2])]⟩) ?_ ?_
  ·refine XR 1 ?_
   refine XC (s_impl_reduced hy2) cf_impl_reduced rfl rfl rfl ?_
   exact XE
  obtain ⟨o8, hLo8, h⟩ := of_bind h
  refine V_toK (mb 17 8) [] (s1 := ⟨bt 3 (I o8 :: bt 13 []), []⟩) ?_ ?_
  ·clear h
   refine V_block (V_loop (fun n s => ∃ (k3 : Int) (f4 : Int) (f5 : Int) (f6 : Int), s.keep (mb 17 26) [32, 8] = (⟨.bot :: .pt 8 0 :: .bot :: I k3 :: .pt 32 0 :: bt 12 [], [(32, .box [Ti f4, Ti f5, Ti f6]), (8, .box [Ti f1.1, Ti f1.2.1, Ti f1.2.2])]⟩ : St) ∧ r_impl_orderOf_L7 f1 n k3 f4 f5 f6 = some o8) FU ⟨_, _, _, _,  by rfl, hLo8⟩ ?_)
   clear hLo8
   rintro n s ⟨k3, f4, f5, f6, hs, h⟩
   refine V_keep _ _ hs ?_
   clear hs
   cases n with
   | zero => cases h
   | succ n =>
    rw [r_impl_orderOf_L7] at h
    refine V_seq ?_
    obtain ⟨y9, hy9, h⟩ := of_bind h
    refine V_sreg (mb 17 538) [32, 8] (s1 := ⟨.bot :: .pt 8 0 :: .bot :: I k3 :: .pt 32 0 :: bt 4 (Bo (!y9) :: bt 7 []), [(32, .box [Ti f4, Ti f5, Ti f6]), (8, .box [Ti f1.1, Ti f1.2.1, Ti f1.2.2])]⟩) ?_ ?_
    ·refine XR 1 ?_
     refine XC (s_impl_isIdentity hy9) cf_impl_isIdentity rfl rfl rfl ?_
     exact XE
    refine V_cond rfl (fun hc10 => ?_) (fun hc10 => ?_)
    ·have h := of_true h hc10
     refine V_skip ?_
     show V _ _ _ _
     refine V_seq ?_
     refine V_block ?_
     obtain ⟨k11, hk11, h⟩ := of_sI h
     refine V_reg (mb 17 26) [32, 8] (s1 := ⟨.bot :: .pt 8 0 :: .bot :: I k11 :: .pt 32 0 :: bt 12 [], [(32, .box [Ti f4, Ti f5, Ti f6]), (8, .box [Ti f1.1, Ti f1.2.1, Ti f1.2.2])]⟩) ?_ ?_
     ·refine XR 3 ?_
      refine XL_nil ?_
      subst hk11
      kernel_rfl
     show V _ _ _ _
     refine V_seq ?_
     refine V_e (mb 17 32778) [8] (s1 := ⟨.bot :: .pt 8 0 :: .bot :: I k11 :: bt 11 (.ag [Ti f4, Ti f5, Ti f6] :: .bot :: []), [(8, .box [Ti f1.1, Ti f1.2.1, Ti f1.2.2])]⟩) ?_
     refine V_reg (mb 17 26) [32, 8] (s1 := ⟨.bot :: .pt 8 0 :: .bot :: I k11 :: .pt 32 0 :: bt 12 [], [(32, .box [Ti f4, Ti f5, Ti f6]), (8, .box [Ti f1.1, Ti f1.2.1, Ti f1.2.2])]⟩) ?_ ?_
     ·exact XE
     show V _ _ _ _
     obtain ⟨y12, hy12, h⟩ := of_bind h
     refine V_reg (mb 17 26) [32, 8] (s1 := ⟨.bot :: .pt 8 0 :: .bot :: I k11 :: .pt 32 0 :: bt 12 [], [(32, .box [Ti y12.1, Ti y12.2.1, Ti y12.2.2]), (8, .box [Ti f1.1, Ti f1.2.1, Ti f1.2.2])]⟩) ?_ ?_
     ·refine XR 2 ?_
      refine XC (s_impl_compose hy12) cf_impl_compose rfl rfl rfl ?_
      exact XE
     exact ⟨n, Nat.lt_succ_self n, _, _, _, _,  by rfl, h⟩
    ·have h := of_false h hc10
     refine V_exit ?_
     obtain rfl := some_inj h
     show St.keep _ _ _ = _
     rfl
  show V _ _ _ _
  refine V_e (mb 17 4) [] (s1 := ⟨.bot :: .bot :: I o8 :: bt 14 [], []⟩) ?_
  refine V_ret ?_
  obtain rfl := some_inj h
  show Post _ _ _ _ _
  exact ⟨.inr rfl, rfl, rfl, rfl⟩
theorem cf_impl_OrderOf : ∀ args w, (callFunc 12 args).run Try.prog w = .ok (.enter 12 args) w := run_callFunc Try.func12 (by kernel_rfl) (by kernel_rfl)
theorem s_impl_OrderOf {f1 : (Int × Int × Int)} {r : (Int × Bool)} (h : r_impl_OrderOf f1 = some r) : CallS Try.prog 12 [.ag [Ti f1.1, Ti f1.2.1, Ti f1.2.2]] (.tc (I r.1) (.tc (Bo r.2) .tn)) [] := by
  refine CallS_of_text (rs := [.t 2, .t 3]) (vs := [.tmp 2, .tmp 3]) Try.func12 rfl rfl (.cons rfl (.cons rfl FitsL.nil)) (by decide) 9 rfl ?_
  unfold r_impl_OrderOf at h
  show V _ _ ⟨.ag [Ti f1.1, Ti f1.2.1, Ti f1.2.2] :: bt 8 [], []⟩ _
  refine V_e (mb 9 2) [8] (s1 := ⟨.bot :: .pt 8 0 :: bt 7 [], [(8, .box [Ti f1.1, Ti f1.2.1, Ti f1.2.2])]⟩) ?_
  refine V_seq ?_
  obtain ⟨y2, hy2, h⟩ := of_bind h
  refine V_sreg (mb 9 66) [8] (s1 := ⟨.bot :: .pt 8 0 :: bt 4 (Bo (!y2) :: .bot :: .bot :: []), [(8, .box [Ti f1.1, Ti f1.2.1, Ti f1.2.2])]⟩) ?_ ?_
  ·refine XR 1 ?_
   refine XC (s_impl_isClassForm hy2) cf_impl_isClassForm rfl rfl rfl ?_
   exact XE
  refine V_cond rfl (fun hc3 => ?_) (fun hc3 => ?_)
  ·have h := of_true h hc3
   refine V_e (mb 9 12) [] (s1 := ⟨.bot :: .bot :: I 0 :: Bo false :: bt 5 [], []⟩) ?_
   refine V_ret ?_
   obtain rfl := some_inj h
   show Post _ _ _ _ _
   exact ⟨.inr rfl, rfl, rfl, rfl⟩
  ·have h := of_false h hc3
   refine V_skip ?_
   show V _ _ _ _
   obtain ⟨y4, hy4, h⟩ := of_bind h
   refine V_sreg (mb 9 12) [] (s1 := ⟨.bot :: .bot :: I y4 :: Bo true :: bt 5 [], []⟩) ?_ ?_
   ·refine XR 1 ?_
    refine XC (s_impl_orderOf hy4) cf_impl_orderOf rfl rfl rfl ?_
    exact XE
   refine V_ret ?_
   obtain rfl := some_inj h
   show Post _ _ _ _ _
   exact ⟨.inr rfl, rfl, rfl, rfl⟩
theorem cf_laws_numberOf : ∀ args w, (callFunc 13 args).run Try.prog w = .ok (.enter 13 args) w := run_callFunc Try.func13 (by kernel_rfl) (by kernel_rfl)
theorem s_laws_numberOf {b1 : List Int} {r : Int} (h : r_laws_numberOf b1 = some r) : CallS Try.prog 13 [.c (.sl (b1.map c5))] (I r) [] := by
  refine CallS_of_text (rs := [.t 2]) (vs := [.tmp 2]) Try.func13 rfl rfl (.cons rfl FitsL.nil) (by decide) 20 rfl ?_
  unfold r_laws_numberOf at h
  show V _ _ ⟨.c (.sl (b1.map c5)) :: bt 19 [], []⟩ _
  refine V_e (mb 20 1) [] (s1 := ⟨.c (.sl (b1.map c5)) :: bt 19 [], []⟩) ?_
  refine V_e (mb 20 9) [] (s1 := ⟨.c (.sl (b1.map c5)) :: .bot :: .bot :: I 0 :: bt 16 [], []⟩) ?_
  refine V_seq ?_
  refine V_sreg (mb 20 456) [] (s1 := ⟨bt 3 (I 0 :: .bot :: .bot :: .c (.sl (b1.map c5)) :: I ((b1.length : Int)) :: I 0 :: bt 11 []), []⟩) ?_ ?_
  ·refine XR 1 ?_
   refine L0 rfl rfl (Y0_lenM (c := c5) (xs := b1) Try.underlying22 rfl (by kernel_rfl)) ?_
   exact XE
  obtain ⟨o5, hLo5, h⟩ := of_bind h
  refine V_toK (mb 20 8) [] (s1 := ⟨bt 3 (I o5 :: bt 16 []), []⟩) ?_ ?_
  ·clear h
   refine V_block (V_loop (fun n s => ∃ (vn2 : Int) (t3 : Int), s.keep (mb 20 456) [] = (⟨bt 3 (I vn2 :: .bot :: .bot :: .c (.sl (b1.map c5)) :: I ((b1.length : Int)) :: I t3 :: bt 11 []), []⟩ : St) ∧ r_laws_numberOf_L4 b1 n vn2 t3 = some o5) FU ⟨_, _,  by rfl, hLo5⟩ ?_)
   clear hLo5
   rintro n s ⟨vn2, t3, hs, h⟩
   refine V_keep _ _ hs ?_
   clear hs
   cases n with
   | zero => cases h
   | succ n =>
    rw [r_laws_numberOf_L4] at h
    refine V_e (mb 20 968) [] (s1 := ⟨bt 3 (I vn2 :: .bot :: .bot :: .c (.sl (b1.map c5)) :: I ((b1.length : Int)) :: I t3 :: Bo (ltI t3 ((b1.length : Int))) :: bt 10 []), []⟩) ?_
    refine V_seq ?_
    refine V_cond rfl (fun hc6 => ?_) (fun hc6 => ?_)
    ·have h := of_true h hc6
     refine V_skip ?_
     show V _ _ _ _
     refine V_seq ?_
     refine V_block ?_
     obtain ⟨e7, he7, h⟩ := of_bind h
     refine V_sreg (mb 20 488) [] (s1 := ⟨bt 3 (I vn2 :: .bot :: .c (.v (.int .u8 e7)) :: .c (.sl (b1.map c5)) :: I ((b1.length : Int)) :: I t3 :: bt 11 []), []⟩) ?_ ?_
     ·refine L0 rfl rfl (Y0_idxM (c := c5) (xs := b1) (v := e7) (n := t3) Try.underlying22 sz5 rfl (by kernel_rfl) (by kernel_rfl) he7) ?_
      exact XE
     obtain ⟨vn8, hvn8, h⟩ := of_sI h
     refine V_reg (mb 20 456) [] (s1 := ⟨bt 3 (I vn8 :: .bot :: .bot :: .c (.sl (b1.map c5)) :: I ((b1.length : Int)) :: I t3 :: bt 11 []), []⟩) ?_ ?_
     ·refine XR 3 ?_
      refine L0 rfl rfl (Y0_conv (k2 := .u8) (a := e7) Try.underlying5 Try.underlying3 rfl (by kernel_rfl)) ?_
      refine XR 1 ?_
      refine L0 rfl rfl (Y0_rem (k := .i64) (a := w64 ((w64 (31 * vn2)) + (IntKind.i64.wrap e7))) (b := 1000003) rfl (by kernel_rfl) (by kernel_rfl) (by decide)) ?_
      refine XR 1 ?_
      refine XL_nil ?_
      subst hvn8
      kernel_rfl
     show V _ _ _ _
     obtain ⟨t9, ht9, h⟩ := of_sI h
     refine V_reg (mb 20 456) [] (s1 := ⟨bt 3 (I vn8 :: .bot :: .bot :: .c (.sl (b1.map c5)) :: I ((b1.length : Int)) :: I t9 :: bt 11 []), []⟩) ?_ ?_
     ·refine XR 2 ?_
      refine XL_nil ?_
      subst ht9
      kernel_rfl
     exact ⟨n, Nat.lt_succ_self n, _, _,  by rfl, h⟩
    ·have h := of_false h hc6
     refine V_exit ?_
     obtain rfl := some_inj h
     show St.keep _ _ _ = _
     rfl
  show V _ _ _ _
  refine V_e (mb 20 4) [] (s1 := ⟨.bot :: .bot :: I o5 :: bt 17 [], []⟩) ?_
  refine V_ret ?_
  obtain rfl := some_inj h
  show Post _ _ _ _ _
  exact ⟨.inr rfl, rfl, rfl, rfl⟩
theorem cf_impl_powerForm : ∀ args w, (callFunc 42 args).run Try.prog w = .ok (.enter 42 args) w := run_callFunc Try.func42 (by kernel_rfl) (by kernel_rfl)
theorem s_impl_powerForm {f1 : (Int × Int × Int)} {k2 : Int} {r : (Int × Int × Int)} (h : r_impl_powerForm f1 k2 = some r) : CallS Try.prog 42 [.ag [Ti f1.1, Ti f1.2.1, Ti f1.2.2], I k2] (.ag [Ti r.1, Ti r.2.1, Ti r.2.2]) [] := by
  refine CallS_of_text (rs := [.w 4 3]) (vs := [.cell 4 25]) Try.func42 rfl rfl (.cons ⟨rfl, wd25⟩ FitsL.nil) (by decide) 32 rfl ?_
  unfold r_impl_powerForm at h
  show V _ _ ⟨.ag [Ti f1.1, Ti f1.2.1, Ti f1.2.2] :: I k2 :: bt 30 [], []⟩ _
  refine V_e (mb 32 22) [32, 16] (s1 := ⟨.bot :: I k2 :: .pt 16 0 :: .bot :: .pt 32 0 :: bt 27 [], [(32, .box [Ti 0, Ti 0, Ti 0]), (16, .box [Ti f1.1, Ti f1.2.1, Ti f1.2.2])]⟩) ?_
  obtain ⟨j3, hj3, h⟩ := of_bind h
  refine V_cutK (mb 32 22) [32, 16] (s1 := ⟨.bot :: I j3.1 :: .pt 16 0 :: .bot :: .pt 32 0 :: bt 27 [], [(32, .box [Ti 0, Ti 0, Ti 0]), (16, .box [Ti j3.2.1, Ti j3.2.2.1, Ti j3.2.2.2])]⟩) ?_ ?_
  ·clear h
   have h := hj3
   clear hj3
   refine V_e (mb 32 150) [32, 16] (s1 := ⟨.bot :: I k2 :: .pt 16 0 :: .bot :: .pt 32 0 :: .bot :: .bot :: Bo (ltI k2 0) :: bt 24 [], [(32, .box [Ti 0, Ti 0, Ti 0]), (16, .box [Ti f1.1, Ti f1.2.1, Ti f1.2.2])]⟩) ?_
   refine V_cond rfl (fun hc4 => ?_) (fun hc4 => ?_)
   ·have h := of_true h hc4
    obtain ⟨y5, hy5, h⟩ := of_bind h
    obtain ⟨k6, hk6, h⟩ := of_sI h
    refine V_reg (mb 32 22) [32, 16] (s1 := ⟨.bot :: I k6 :: .pt 16 0 :: .bot :: .pt 32 0 :: bt 27 [], [(32, .box [Ti 0, Ti 0, Ti 0]), (16, .box [Ti y5.1, Ti y5.2.1, Ti y5.2.2])]⟩) ?_ ?_
    ·refine XR 1 ?_
     refine XC (s_impl_Form_opposite hy5) cf_impl_Form_opposite rfl rfl rfl ?_
     refine XR 4 ?_
     refine XL_nil ?_
     subst hk6
     kernel_rfl
    obtain rfl := some_inj h
    show St.keep _ _ _ = _
    rfl
   ·have h := of_false h hc4
    refine V_skip ?_
    obtain rfl := some_inj h
    show St.keep _ _ _ = _
    rfl
  obtain ⟨y7, hy7, h⟩ := of_bind h
  obtain ⟨y8, hy8, h⟩ := of_bind h
  obtain ⟨y9, hy9, h⟩ := of_bind h
  refine V_sreg (mb 32 54) [40, 32, 16] (s1 := ⟨.bot :: I j3.1 :: .pt 16 0 :: .bot :: .pt 32 0 :: .pt 40 0 :: bt 26 [], [(40, .box [Ti y9.1, Ti y9.2.1, Ti y9.2.2]), (32, .box [Ti 0, Ti 0, Ti 0]), (16, .box [Ti j3.2.1, Ti j3.2.2.1, Ti j3.2.2.2])]⟩) ?_ ?_
  ·refine XR 1 ?_
   refine XC (s_impl_Form_disc hy7) cf_impl_Form_disc rfl rfl rfl ?_
   refine XC (s_impl_principalForm hy8) cf_impl_principalForm rfl rfl rfl ?_
   refine XC (s_impl_reduced hy9) cf_impl_reduced rfl rfl rfl ?_
   exact XE
  refine V_seq ?_
  obtain ⟨y10, hy10, h⟩ := of_bind h
  refine V_sreg (mb 32 54) [40, 32, 16] (s1 := ⟨.bot :: I j3.1 :: .pt 16 0 :: .bot :: .pt 32 0 :: .pt 40 0 :: bt 26 [], [(40, .box [Ti y9.1, Ti y9.2.1, Ti y9.2.2]), (32, .box [Ti 0, Ti 0, Ti 0]), (16, .box [Ti y10.1, Ti y10.2.1, Ti y10.2.2])]⟩) ?_ ?_
  ·refine XR 1 ?_
   refine XC (s_impl_reduced hy10) cf_impl_reduced rfl rfl rfl ?_
   exact XE
  obtain ⟨o19, hLo19, h⟩ := of_bind h
  refine V_toK (mb 32 48) [40, 32] (s1 := ⟨bt 4 (.pt 32 0 :: .pt 40 0 :: bt 26 []), [(40, .box [Ti o19.1, Ti o19.2.1, Ti o19.2.2]), (32, .box [Ti 0, Ti 0, Ti 0])]⟩) ?_ ?_
  ·clear h
   refine V_block (V_loop (fun n s => ∃ (k11 : Int) (f12 : Int) (f13 : Int) (f14 : Int) (f15 : Int) (f16 : Int) (f17 : Int), s.keep (mb 32 54) [40, 32, 16] = (⟨.bot :: I k11 :: .pt 16 0 :: .bot :: .pt 32 0 :: .pt 40 0 :: bt 26 [], [(40, .box [Ti f12, Ti f13, Ti f14]), (32, .box [Ti 0, Ti 0, Ti 0]), (16, .box [Ti f15, Ti f16, Ti f17])]⟩ : St) ∧ r_impl_powerForm_L18 n k11 f12 f13 f14 f15 f16 f17 = some o19) FU ⟨_, _, _, _, _, _, _,  by rfl, hLo19⟩ ?_)
   clear hLo19
   rintro n s ⟨k11, f12, f13, f14, f15, f16, f17, hs, h⟩
   refine V_keep _ _ hs ?_
   clear hs
   cases n with
   | zero => cases h
   | succ n =>
    rw [r_impl_powerForm_L18] at h
    refine V_seq ?_
    refine V_e (mb 32 524342) [40, 32, 16] (s1 := ⟨.bot :: I k11 :: .pt 16 0 :: .bot :: .pt 32 0 :: .pt 40 0 :: bt 13 (Bo (ltI 0 k11) :: bt 12 []), [(40, .box [Ti f12, Ti f13, Ti f14]), (32, .box [Ti 0, Ti 0, Ti 0]), (16, .box [Ti f15, Ti f16, Ti f17])]⟩) ?_
    refine V_cond rfl (fun hc20 => ?_) (fun hc20 => ?_)
    ·have h := of_true h hc20
     refine V_skip ?_
     show V _ _ _ _
     refine V_seq ?_
     refine V_block ?_
     obtain ⟨j21, hj21, h⟩ := of_bind h
     refine V_cutK (mb 32 54) [40, 32, 16] (s1 := ⟨.bot :: I k11 :: .pt 16 0 :: .bot :: .pt 32 0 :: .pt 40 0 :: bt 26 [], [(40, .box [Ti j21.1, Ti j21.2.1, Ti j21.2.2]), (32, .box [Ti 0, Ti 0, Ti 0]), (16, .box [Ti f15, Ti f16, Ti f17])]⟩) ?_ ?_
     ·clear h
      have h := hj21
      clear hj21
      refine V_sreg (mb 32 16777270) [40, 32, 16] (s1 := ⟨.bot :: I k11 :: .pt 16 0 :: .bot :: .pt 32 0 :: .pt 40 0 :: bt 18 (Bo (eqI (Int.tmod k11 2) 1) :: bt 7 []), [(40, .box [Ti f12, Ti f13, Ti f14]), (32, .box [Ti 0, Ti 0, Ti 0]), (16, .box [Ti f15, Ti f16, Ti f17])]⟩) ?_ ?_
      ·refine XR 1 ?_
       refine L0 rfl rfl (Y0_rem (k := .i64) (a := k11) (b := 2) rfl (by kernel_rfl) (by kernel_rfl) (by decide)) ?_
       exact XE
      refine V_cond rfl (fun hc22 => ?_) (fun hc22 => ?_)
      ·have h := of_true h hc22
       obtain ⟨y23, hy23, h⟩ := of_bind h
       refine V_reg (mb 32 54) [40, 32, 16] (s1 := ⟨.bot :: I k11 :: .pt 16 0 :: .bot :: .pt 32 0 :: .pt 40 0 :: bt 26 [], [(40, .box [Ti y23.1, Ti y23.2.1, Ti y23.2.2]), (32, .box [Ti 0, Ti 0, Ti 0]), (16, .box [Ti f15, Ti f16, Ti f17])]⟩) ?_ ?_
       ·refine XR 2 ?_
        refine XC (s_impl_compose hy23) cf_impl_compose rfl rfl rfl ?_
        exact XE
       obtain rfl := some_inj h
       show St.keep _ _ _ = _
       rfl
      ·have h := of_false h hc22
       refine V_skip ?_
       obtain rfl := some_inj h
       show St.keep _ _ _ = _
       rfl
     obtain ⟨y24, hy24, h⟩ := of_bind h
     refine V_reg (mb 32 54) [40, 32, 16] (s1 := ⟨.bot :: I k11 :: .pt 16 0 :: .bot :: .pt 32 0 :: .pt 40 0 :: bt 26 [], [(40, .box [Ti j21.1, Ti j21.2.1, Ti j21.2.2]), (32, .box [Ti 0, Ti 0, Ti 0]), (16, .box [Ti y24.1, Ti y24.2.1, Ti y24.2.2])]⟩) ?_ ?_
     ·refine XR 2 ?_
      refine XC (s_impl_compose hy24) cf_impl_compose rfl rfl rfl ?_
      exact XE
     show V _ _ _ _
     obtain ⟨k25, hk25, h⟩ := of_sI h
     refine V_reg (mb 32 54) [40, 32, 16] (s1 := ⟨.bot :: I k25 :: .pt 16 0 :: .bot :: .pt 32 0 :: .pt 40 0 :: bt 26 [], [(40, .box [Ti j21.1, Ti j21.2.1, Ti j21.2.2]), (32, .box [Ti 0, Ti 0, Ti 0]), (16, .box [Ti y24.1, Ti y24.2.1, Ti y24.2.2])]⟩) ?_ ?_
     ·refine XR 1 ?_
      refine L0 rfl rfl (Y0_quo64 (a := k11) (b := 2) rfl (by kernel_rfl) (by kernel_rfl) (by decide)) ?_
      refine XR 1 ?_
      refine XL_nil ?_
      subst hk25
      kernel_rfl
     exact ⟨n, Nat.lt_succ_self n, _, _, _, _, _, _, _,  by rfl, h⟩
    ·have h := of_false h hc20
     refine V_exit ?_
     obtain rfl := some_inj h
     show St.keep _ _ _ = _
     rfl
  show V _ _ _ _
  refine V_e (mb 32 16) [32] (s1 := ⟨bt 4 (.pt 32 0 :: bt 27 []), [(32, .box [Ti o19.1, Ti o19.2.1, Ti o19.2.2])]⟩) ?_
  refine V_ret ?_
  obtain rfl := some_inj h
  show Post _ _ _ _ _
  exact ⟨.inr rfl, rfl, rfl, rfl⟩
theorem cf_impl_PowerForm : ∀ args w, (callFunc 14 args).run Try.prog w = .ok (.enter 14 args) w := run_callFunc Try.func14 (by kernel_rfl) (by kernel_rfl)
theorem s_impl_PowerForm {f1 : (Int × Int × Int)} {k2 : Int} {r : (((Int × Int × Int)) × Bool)} (h : r_impl_PowerForm f1 k2 = some r) : CallS Try.prog 14 [.ag [Ti f1.1, Ti f1.2.1, Ti f1.2.2], I k2] (.tc (.ag [Ti r.1.1, Ti r.1.2.1, Ti r.1.2.2]) (.tc (Bo r.2) .tn)) [] := by
  refine CallS_of_text (rs := [.w 4 3, .t 5]) (vs := [.cell 4 25, .tmp 5]) Try.func14 rfl rfl (.cons ⟨rfl, wd25⟩ (.cons rfl FitsL.nil)) (by decide) 19 rfl ?_
  unfold r_impl_PowerForm at h
  show V _ _ ⟨.ag [Ti f1.1, Ti f1.2.1, Ti f1.2.2] :: I k2 :: bt 17 [], []⟩ _
  refine V_e (mb 19 22) [32, 16] (s1 := ⟨.bot :: I k2 :: .pt 16 0 :: .bot :: .pt 32 0 :: bt 14 [], [(32, .box [Ti 0, Ti 0, Ti 0]), (16, .box [Ti f1.1, Ti f1.2.1, Ti f1.2.2])]⟩) ?_
  refine V_seq ?_
  obtain ⟨y3, hy3, h⟩ := of_bind h
  obtain ⟨b6, hb6, h⟩ := of_bind h
  refine V_sreg (mb 19 16406) [32, 16] (s1 := ⟨.bot :: I k2 :: .pt 16 0 :: .bot :: .pt 32 0 :: bt 9 (Bo b6 :: bt 4 []), [(32, .box [Ti 0, Ti 0, Ti 0]), (16, .box [Ti f1.1, Ti f1.2.1, Ti f1.2.2])]⟩) ?_ ?_
  ·refine XR 1 ?_
   refine XC (s_impl_isClassForm hy3) cf_impl_isClassForm rfl rfl rfl ?_
   refine XR 2 ?_
   refine XL_split (!y3) (fun hc4 => ?_) (fun hc4 => ?_)
   ·have hb6 := some_inj (of_true hb6 hc4)
    refine XL_skipF _ rfl rfl (by kernel_rfl) hc4 rfl ?_
    refine XL_skipF _ rfl rfl (by kernel_rfl) hc4 rfl ?_
    refine XL_skipF _ rfl rfl (by kernel_rfl) hc4 rfl ?_
    refine XL_skipF _ rfl rfl (by kernel_rfl) hc4 rfl ?_
    refine XL_cons rfl (X_of_Y0 rfl (Y0_pickTe (b := !y3) (p := true) rfl (by kernel_rfl) hc4 (by kernel_rfl) hb6)) ?_
    exact XE
   ·have hb6 := of_false hb6 hc4
    obtain ⟨y5, hy5, hb6⟩ := of_bind hb6
    have hb6 := some_inj hb6
    refine XL_takeC _ rfl rfl (by kernel_rfl) hc4 (X_of_Y0 rfl (E_move (I k2) rfl (by kernel_rfl))) ?_
    refine XL_takeC _ rfl rfl (by kernel_rfl) hc4 (X_of_Y1 rfl (Y1_bslice (z := zv3) (els := [k2].map c3) Try.underlying47 iz3 rfl (by decide) rfl (by kernel_rfl) rfl (by simp [c3]) (by decide) (by decide))) ?_
    refine XL_takeC _ rfl rfl (by kernel_rfl) hc4 (X_of_Y1 rfl (Y1_callS (s_impl_areNumbers hy5) cf_impl_areNumbers rfl (by kernel_rfl) rfl rfl)) ?_
    refine XL_takeC _ rfl rfl (by kernel_rfl) hc4 (X_of_Y0 rfl (Y0_not (b := y5) rfl (by kernel_rfl))) ?_
    refine XL_cons rfl (X_of_Y0 rfl (Y0_pickFe (b := !y3) (p := !y5) rfl (by kernel_rfl) hc4 (by kernel_rfl) hb6)) ?_
    exact XE
  refine V_cond rfl (fun hc7 => ?_) (fun hc7 => ?_)
  ·have h := of_true h hc7
   refine V_sreg (mb 19 48) [32] (s1 := ⟨bt 4 (.pt 32 0 :: Bo false :: bt 13 []), [(32, .box [Ti 0, Ti 0, Ti 0])]⟩) ?_ ?_
   ·refine L0 rfl rfl (Y0_build (cs := [Ti 0, Ti 0, Ti 0]) pl25 bt25 rfl rfl (by kernel_rfl)) ?_
    exact XE
   refine V_ret ?_
   obtain rfl := some_inj h
   show Post _ _ _ _ _
   exact ⟨.inr rfl, rfl, rfl, rfl⟩
  ·have h := of_false h hc7
   refine V_skip ?_
   show V _ _ _ _
   obtain ⟨y8, hy8, h⟩ := of_bind h
   refine V_sreg (mb 19 48) [32] (s1 := ⟨bt 4 (.pt 32 0 :: Bo true :: bt 13 []), [(32, .box [Ti y8.1, Ti y8.2.1, Ti y8.2.2])]⟩) ?_ ?_
   ·refine XR 2 ?_
    refine XC (s_impl_powerForm hy8) cf_impl_powerForm rfl rfl rfl ?_
    exact XE
   refine V_ret ?_
   obtain rfl := some_inj h
   show Post _ _ _ _ _
   exact ⟨.inr rfl, rfl, rfl, rfl⟩
end Go.Proofs.Ytafomkclmkfjeaa
