/-
  The functions of the program compute what the plain functions say: more of them.
  Conditions: none.
-/
import Derived.Test.YtafomkclmkfjeaaGreatNbSnd2
namespace Go.Proofs.YtafomkclmkfjeaaGreat
open Go.RowKit
set_option linter.unusedVariables false
set_option linter.unusedSimpArgs false
set_option maxRecDepth 100000
set_option maxHeartbeats 400000
theorem cf_impl_Form_complete : ∀ args w, (callFunc 155 args).run Tryz.prog w = .ok (.enter 155 args) w := run_callFunc Tryz.func155 (by kernel_rfl) (by kernel_rfl)
theorem s_impl_Form_complete {f1 : (Int × Int × Int)} {x2 : Int} {y3 : Int} {r : (((Int × Int × Int)) × ((Int × Int × Int × Int)))} (h : r_impl_Form_complete f1 x2 y3 = some r) : CallS Tryz.prog 155 [.ag [Ti f1.1, Ti f1.2.1, Ti f1.2.2], I x2, I y3] (.tc (.ag [Ti r.1.1, Ti r.1.2.1, Ti r.1.2.2]) (.tc (.ag [Ti r.2.1, Ti r.2.2.1, Ti r.2.2.2.1, Ti r.2.2.2.2]) .tn)) [] := by
  refine CallS_of_text (rs := [.w 6 3, .w 7 4]) (vs := [.cell 6 25, .cell 7 31]) Tryz.func155 rfl rfl (.cons ⟨rfl, wd25⟩ (.cons ⟨rfl, wd31⟩ FitsL.nil)) (by decide) 59 rfl ?_
  unfold r_impl_Form_complete at h
  show V _ _ ⟨.ag [Ti f1.1, Ti f1.2.1, Ti f1.2.2] :: I x2 :: I y3 :: bt 56 [], []⟩ _
  refine V_e (mb 59 206) [56, 48, 24] (s1 := ⟨.bot :: I x2 :: I y3 :: .pt 24 0 :: .bot :: .bot :: .pt 48 0 :: .pt 56 0 :: bt 51 [], [(56, .box [Ti 0, Ti 0, Ti 0, Ti 0]), (48, .box [Ti 0, Ti 0, Ti 0]), (24, .box [Ti f1.1, Ti f1.2.1, Ti f1.2.2])]⟩) ?_
  refine V_sreg (mb 59 462) [64, 56, 48, 24] (s1 := ⟨.bot :: I x2 :: I y3 :: .pt 24 0 :: .bot :: .bot :: .pt 48 0 :: .pt 56 0 :: .pt 64 0 :: bt 50 [], [(64, .box [Ti x2, Ti 0, Ti y3, Ti 0]), (56, .box [Ti 0, Ti 0, Ti 0, Ti 0]), (48, .box [Ti 0, Ti 0, Ti 0]), (24, .box [Ti f1.1, Ti f1.2.1, Ti f1.2.2])]⟩) ?_ ?_
  ·refine XR 2 ?_
   refine L0 rfl rfl (Y0_build (cs := [Ti x2, Ti 0, Ti y3, Ti 0]) pl31 bt31 rfl rfl (by kernel_rfl)) ?_
   exact XE
  obtain ⟨j4, hj4, h⟩ := of_bind h
  refine V_cutK (mb 59 462) [64, 56, 48, 24] (s1 := ⟨.bot :: I x2 :: I y3 :: .pt 24 0 :: .bot :: .bot :: .pt 48 0 :: .pt 56 0 :: .pt 64 0 :: bt 50 [], [(64, .box [Ti x2, Ti j4.1, Ti y3, Ti j4.2]), (56, .box [Ti 0, Ti 0, Ti 0, Ti 0]), (48, .box [Ti 0, Ti 0, Ti 0]), (24, .box [Ti f1.1, Ti f1.2.1, Ti f1.2.2])]⟩) ?_ ?_
  ·clear h
   have h := hj4
   clear hj4
   refine V_e (mb 59 33230) [64, 56, 48, 24] (s1 := ⟨.bot :: I x2 :: I y3 :: .pt 24 0 :: .bot :: .bot :: .pt 48 0 :: .pt 56 0 :: .pt 64 0 :: bt 6 (Bo (eqI y3 0) :: bt 43 []), [(64, .box [Ti x2, Ti 0, Ti y3, Ti 0]), (56, .box [Ti 0, Ti 0, Ti 0, Ti 0]), (48, .box [Ti 0, Ti 0, Ti 0]), (24, .box [Ti f1.1, Ti f1.2.1, Ti f1.2.2])]⟩) ?_
   refine V_cond rfl (fun hc5 => ?_) (fun hc5 => ?_)
   ·have h := of_true h hc5
    refine V_reg (mb 59 462) [64, 56, 48, 24] (s1 := ⟨.bot :: I x2 :: I y3 :: .pt 24 0 :: .bot :: .bot :: .pt 48 0 :: .pt 56 0 :: .pt 64 0 :: bt 50 [], [(64, .box [Ti x2, Ti 0, Ti y3, Ti x2]), (56, .box [Ti 0, Ti 0, Ti 0, Ti 0]), (48, .box [Ti 0, Ti 0, Ti 0]), (24, .box [Ti f1.1, Ti f1.2.1, Ti f1.2.2])]⟩) ?_ ?_
    ·exact XE
    obtain rfl := some_inj h
    show St.keep _ _ _ = _
    rfl
   ·have h := of_false h hc5
    obtain ⟨y6, hy6, h⟩ := of_bind h
    obtain ⟨y7, hy7, h⟩ := of_bind h
    refine V_sreg (mb 59 462) [64, 56, 48, 24] (s1 := ⟨.bot :: I x2 :: I y3 :: .pt 24 0 :: .bot :: .bot :: .pt 48 0 :: .pt 56 0 :: .pt 64 0 :: bt 50 [], [(64, .box [Ti x2, Ti 0, Ti y3, Ti y7]), (56, .box [Ti 0, Ti 0, Ti 0, Ti 0]), (48, .box [Ti 0, Ti 0, Ti 0]), (24, .box [Ti f1.1, Ti f1.2.1, Ti f1.2.2])]⟩) ?_ ?_
    ·refine XR 2 ?_
     refine XC (s_impl_abs hy6) cf_impl_abs rfl rfl rfl ?_
     refine XC (s_impl_inverse hy7) cf_impl_inverse rfl rfl rfl ?_
     exact XE
    obtain ⟨z8, hz8, h⟩ := of_bind h
    obtain ⟨f9, hf9, h⟩ := of_sI h
    refine V_reg (mb 59 462) [64, 56, 48, 24] (s1 := ⟨.bot :: I x2 :: I y3 :: .pt 24 0 :: .bot :: .bot :: .pt 48 0 :: .pt 56 0 :: .pt 64 0 :: bt 50 [], [(64, .box [Ti x2, Ti f9, Ti y3, Ti y7]), (56, .box [Ti 0, Ti 0, Ti 0, Ti 0]), (48, .box [Ti 0, Ti 0, Ti 0]), (24, .box [Ti f1.1, Ti f1.2.1, Ti f1.2.2])]⟩) ?_ ?_
    ·refine XR 6 ?_
     refine L0 rfl rfl (Y0_quo64 (a := w64 ((w64 (x2 * y7)) - 1)) (b := y3) rfl (by kernel_rfl) (by kernel_rfl) (nz_some hz8)) ?_
     refine XR 2 ?_
     refine XL_nil ?_
     subst hf9
     kernel_rfl
    obtain rfl := some_inj h
    show St.keep _ _ _ = _
    rfl
  obtain ⟨y10, hy10, h⟩ := of_bind h
  refine V_sreg (mb 59 974) [72, 64, 56, 48, 24] (s1 := ⟨.bot :: I x2 :: I y3 :: .pt 24 0 :: .bot :: .bot :: .pt 48 0 :: .pt 56 0 :: .pt 64 0 :: .pt 72 0 :: bt 49 [], [(72, .box [Ti y10.1, Ti y10.2.1, Ti y10.2.2]), (64, .box [Ti x2, Ti j4.1, Ti y3, Ti j4.2]), (56, .box [Ti 0, Ti 0, Ti 0, Ti 0]), (48, .box [Ti 0, Ti 0, Ti 0]), (24, .box [Ti f1.1, Ti f1.2.1, Ti f1.2.2])]⟩) ?_ ?_
  ·refine XR 2 ?_
   refine XC (s_impl_Form_substitute hy10) cf_impl_Form_substitute rfl rfl rfl ?_
   exact XE
  obtain ⟨y11, hy11, h⟩ := of_bind h
  obtain ⟨t12, ht12, h⟩ := of_sI h
  refine V_sreg (mb 59 1486) [64, 56, 48, 24] (s1 := ⟨.bot :: I x2 :: I y3 :: .pt 24 0 :: .bot :: .bot :: .pt 48 0 :: .pt 56 0 :: .pt 64 0 :: .bot :: I t12 :: bt 48 [], [(64, .box [Ti x2, Ti j4.1, Ti y3, Ti j4.2]), (56, .box [Ti 0, Ti 0, Ti 0, Ti 0]), (48, .box [Ti 0, Ti 0, Ti 0]), (24, .box [Ti f1.1, Ti f1.2.1, Ti f1.2.2])]⟩) ?_ ?_
  ·refine XR 5 ?_
   refine XC (s_impl_floorDiv hy11) cf_impl_floorDiv rfl rfl rfl ?_
   refine XR 2 ?_
   refine XL_nil ?_
   subst ht12
   kernel_rfl
  obtain ⟨f13, hf13, h⟩ := of_sI h
  refine V_sreg (mb 59 1484) [64, 56, 48, 24] (s1 := ⟨.bot :: .bot :: I y3 :: .pt 24 0 :: .bot :: .bot :: .pt 48 0 :: .pt 56 0 :: .pt 64 0 :: .bot :: I t12 :: bt 48 [], [(64, .box [Ti x2, Ti f13, Ti y3, Ti j4.2]), (56, .box [Ti 0, Ti 0, Ti 0, Ti 0]), (48, .box [Ti 0, Ti 0, Ti 0]), (24, .box [Ti f1.1, Ti f1.2.1, Ti f1.2.2])]⟩) ?_ ?_
  ·refine XR 8 ?_
   refine XL_nil ?_
   subst hf13
   kernel_rfl
  obtain ⟨f14, hf14, h⟩ := of_sI h
  refine V_sreg (mb 59 456) [64, 56, 48, 24] (s1 := ⟨bt 3 (.pt 24 0 :: .bot :: .bot :: .pt 48 0 :: .pt 56 0 :: .pt 64 0 :: bt 50 []), [(64, .box [Ti x2, Ti f13, Ti y3, Ti f14]), (56, .box [Ti 0, Ti 0, Ti 0, Ti 0]), (48, .box [Ti 0, Ti 0, Ti 0]), (24, .box [Ti f1.1, Ti f1.2.1, Ti f1.2.2])]⟩) ?_ ?_
  ·refine XR 8 ?_
   refine XL_nil ?_
   subst hf14
   kernel_rfl
  obtain ⟨y15, hy15, h⟩ := of_bind h
  refine V_sdreg [0, 0, 3, 0, 7, 31] 5 [[.z, .b, .z, .b, .z], [.b, .z, .z, .b, .z], [.a, .a, .z, .b, .z], [.b, .b, .b, .z, .r 48], [.a, .a, .a, .b, .z]] (mb 59 192) [56, 48] (s1 := ⟨bt 6 (.pt 48 0 :: .pt 56 0 :: bt 51 []), [(56, .box [Ti x2, Ti f13, Ti y3, Ti f14]), (48, .box [Ti y15.1, Ti y15.2.1, Ti y15.2.2])]⟩) (by kernel_rfl) (by kernel_rfl) ?_ ?_
  ·refine DR 2 ?_
   refine DC 2 (s_impl_Form_substitute hy15) cf_impl_Form_substitute rfl rfl rfl rfl 57 rfl ?_
   refine DA 2 ?_
   exact XE
  refine V_ret ?_
  obtain rfl := some_inj h
  show Post _ _ _ _ _
  exact ⟨.inr rfl, rfl, rfl, rfl⟩
theorem cf_impl_unite : ∀ args w, (callFunc 173 args).run Tryz.prog w = .ok (.enter 173 args) w := run_callFunc Tryz.func173 (by kernel_rfl) (by kernel_rfl)
theorem s_impl_unite {f1 : (Int × Int × Int)} {g2 : (Int × Int × Int)} {r : (Int × Int × Int × Int × ((Int × Int × Int × Int)) × ((Int × Int × Int × Int)))} (h : r_impl_unite f1 g2 = some r) : CallS Tryz.prog 173 [.ag [Ti f1.1, Ti f1.2.1, Ti f1.2.2], .ag [Ti g2.1, Ti g2.2.1, Ti g2.2.2]] (.ag [Ti r.1, Ti r.2.1, Ti r.2.2.1, Ti r.2.2.2.1, Ti r.2.2.2.2.1.1, Ti r.2.2.2.2.1.2.1, Ti r.2.2.2.2.1.2.2.1, Ti r.2.2.2.2.1.2.2.2, Ti r.2.2.2.2.2.1, Ti r.2.2.2.2.2.2.1, Ti r.2.2.2.2.2.2.2.1, Ti r.2.2.2.2.2.2.2.2]) [] := by
  refine CallS_of_text (rs := [.w 4 12]) (vs := [.cell 4 137]) Tryz.func173 rfl rfl (.cons ⟨rfl, wd137⟩ FitsL.nil) (by decide) 103 rfl ?_
  unfold r_impl_unite at h
  show V _ _ ⟨.ag [Ti f1.1, Ti f1.2.1, Ti f1.2.2] :: .ag [Ti g2.1, Ti g2.2.1, Ti g2.2.2] :: bt 101 [], []⟩ _
  refine V_e (mb 103 28) [32, 24, 16] (s1 := ⟨.bot :: .bot :: .pt 16 0 :: .pt 24 0 :: .pt 32 0 :: bt 98 [], [(32, .box [Ti 0, Ti 0, Ti 0, Ti 0, Ti 0, Ti 0, Ti 0, Ti 0, Ti 0, Ti 0, Ti 0, Ti 0]), (24, .box [Ti g2.1, Ti g2.2.1, Ti g2.2.2]), (16, .box [Ti f1.1, Ti f1.2.1, Ti f1.2.2])]⟩) ?_
  obtain ⟨y3, hy3, h⟩ := of_bind h
  refine V_sreg (mb 103 124) [32, 24, 16] (s1 := ⟨.bot :: .bot :: .pt 16 0 :: .pt 24 0 :: .pt 32 0 :: I y3.1 :: I y3.2 :: bt 96 [], [(32, .box [Ti 0, Ti 0, Ti 0, Ti 0, Ti 0, Ti 0, Ti 0, Ti 0, Ti 0, Ti 0, Ti 0, Ti 0]), (24, .box [Ti g2.1, Ti g2.2.1, Ti g2.2.2]), (16, .box [Ti f1.1, Ti f1.2.1, Ti f1.2.2])]⟩) ?_ ?_
  ·refine XR 3 ?_
   refine XC (s_impl_firstPoint hy3) cf_impl_firstPoint rfl rfl rfl ?_
   exact XE
  obtain ⟨y4, hy4, h⟩ := of_bind h
  refine V_sreg (mb 103 404) [64, 56, 32, 16] (s1 := ⟨.bot :: .bot :: .pt 16 0 :: .bot :: .pt 32 0 :: .bot :: .bot :: .pt 56 0 :: .pt 64 0 :: bt 94 [], [(64, .box [Ti y4.2.1, Ti y4.2.2.1, Ti y4.2.2.2.1, Ti y4.2.2.2.2]), (56, .box [Ti y4.1.1, Ti y4.1.2.1, Ti y4.1.2.2]), (32, .box [Ti 0, Ti 0, Ti 0, Ti 0, Ti 0, Ti 0, Ti 0, Ti 0, Ti 0, Ti 0, Ti 0, Ti 0]), (16, .box [Ti f1.1, Ti f1.2.1, Ti f1.2.2])]⟩) ?_ ?_
  ·refine XR 3 ?_
   refine XC (s_impl_Form_complete hy4) cf_impl_Form_complete rfl rfl rfl ?_
   exact XE
  obtain ⟨y5, hy5, h⟩ := of_bind h
  refine V_sdreg [0, 1, 0, 4, 0, 16, 0, 64, 192, 496, 1023, 0, 4095] 12 (cdm 12 [9087648, 9087649, 9087498, 9087514, 8560810, 8561066, 8391338, 8395434, 8411818, 8476074, 8738133, 2796202]) (mb 103 916) [72, 64, 56, 32, 16] (s1 := ⟨.bot :: .bot :: .pt 16 0 :: .bot :: .pt 32 0 :: .bot :: .bot :: .pt 56 0 :: .pt 64 0 :: .pt 72 0 :: bt 93 [], [(72, .box [Ti f1.1, Ti y4.1.1, Ti y5, Ti 0, Ti 0, Ti 0, Ti 0, Ti 0, Ti 0, Ti 0, Ti 0, Ti 0]), (64, .box [Ti y4.2.1, Ti y4.2.2.1, Ti y4.2.2.2.1, Ti y4.2.2.2.2]), (56, .box [Ti y4.1.1, Ti y4.1.2.1, Ti y4.1.2.2]), (32, .box [Ti 0, Ti 0, Ti 0, Ti 0, Ti 0, Ti 0, Ti 0, Ti 0, Ti 0, Ti 0, Ti 0, Ti 0]), (16, .box [Ti f1.1, Ti f1.2.1, Ti f1.2.2])]⟩) (by kernel_rfl) (by kernel_rfl) ?_ ?_
  ·refine DR 9 ?_
   refine DC 9 (s_impl_mod hy5) cf_impl_mod rfl rfl rfl rfl 33 rfl ?_
   refine DE_0 10 (.ag [Ti f1.1, Ti y4.1.1, Ti y5, Ti 0, Ti 0, Ti 0, Ti 0, Ti 0, Ti 0, Ti 0, Ti 0, Ti 0]) (by kernel_rfl) rfl rfl rfl (gsat_none rfl) (by kernel_rfl) (Y0_build (cs := [Ti f1.1, Ti y4.1.1, Ti y5, Ti 0, Ti 0, Ti 0, Ti 0, Ti 0, Ti 0, Ti 0, Ti 0, Ti 0]) pl137 bt137 rfl rfl (by kernel_rfl)) 34 rfl ?_
   refine DA 1 ?_
   exact XE
  refine V_seq ?_
  obtain ⟨o8, hLo8, h⟩ := of_bind h
  refine V_toK (mb 103 916) [72, 64, 56, 32, 16] (s1 := ⟨.bot :: .bot :: .pt 16 0 :: .bot :: .pt 32 0 :: .bot :: .bot :: .pt 56 0 :: .pt 64 0 :: .pt 72 0 :: bt 93 [], [(72, .box [Ti f1.1, Ti y4.1.1, Ti o8, Ti 0, Ti 0, Ti 0, Ti 0, Ti 0, Ti 0, Ti 0, Ti 0, Ti 0]), (64, .box [Ti y4.2.1, Ti y4.2.2.1, Ti y4.2.2.2.1, Ti y4.2.2.2.2]), (56, .box [Ti y4.1.1, Ti y4.1.2.1, Ti y4.1.2.2]), (32, .box [Ti 0, Ti 0, Ti 0, Ti 0, Ti 0, Ti 0, Ti 0, Ti 0, Ti 0, Ti 0, Ti 0, Ti 0]), (16, .box [Ti f1.1, Ti f1.2.1, Ti f1.2.2])]⟩) ?_ ?_
  ·clear h
   refine V_block (V_loop (fun n s => ∃ (f6 : Int), s.keep (mb 103 916) [72, 64, 56, 32, 16] = (⟨.bot :: .bot :: .pt 16 0 :: .bot :: .pt 32 0 :: .bot :: .bot :: .pt 56 0 :: .pt 64 0 :: .pt 72 0 :: bt 93 [], [(72, .box [Ti f1.1, Ti y4.1.1, Ti f6, Ti 0, Ti 0, Ti 0, Ti 0, Ti 0, Ti 0, Ti 0, Ti 0, Ti 0]), (64, .box [Ti y4.2.1, Ti y4.2.2.1, Ti y4.2.2.2.1, Ti y4.2.2.2.2]), (56, .box [Ti y4.1.1, Ti y4.1.2.1, Ti y4.1.2.2]), (32, .box [Ti 0, Ti 0, Ti 0, Ti 0, Ti 0, Ti 0, Ti 0, Ti 0, Ti 0, Ti 0, Ti 0, Ti 0]), (16, .box [Ti f1.1, Ti f1.2.1, Ti f1.2.2])]⟩ : St) ∧ r_impl_unite_L7 f1 y4 n f6 = some o8) FU ⟨_,  by rfl, hLo8⟩ ?_)
   clear hLo8
   rintro n s ⟨f6, hs, h⟩
   refine V_keep _ _ hs ?_
   clear hs
   cases n with
   | zero => cases h
   | succ n =>
    rw [r_impl_unite_L7] at h
    refine V_seq ?_
    obtain ⟨y9, hy9, h⟩ := of_bind h
    refine V_sreg (mb 103 17592186045332) [72, 64, 56, 32, 16] (s1 := ⟨.bot :: .bot :: .pt 16 0 :: .bot :: .pt 32 0 :: .bot :: .bot :: .pt 56 0 :: .pt 64 0 :: .pt 72 0 :: bt 34 (Bo (!eqI y9 0) :: bt 58 []), [(72, .box [Ti f1.1, Ti y4.1.1, Ti f6, Ti 0, Ti 0, Ti 0, Ti 0, Ti 0, Ti 0, Ti 0, Ti 0, Ti 0]), (64, .box [Ti y4.2.1, Ti y4.2.2.1, Ti y4.2.2.2.1, Ti y4.2.2.2.2]), (56, .box [Ti y4.1.1, Ti y4.1.2.1, Ti y4.1.2.2]), (32, .box [Ti 0, Ti 0, Ti 0, Ti 0, Ti 0, Ti 0, Ti 0, Ti 0, Ti 0, Ti 0, Ti 0, Ti 0]), (16, .box [Ti f1.1, Ti f1.2.1, Ti f1.2.2])]⟩) ?_ ?_
    ·refine XR 8 ?_
     refine XC (s_impl_mod hy9) cf_impl_mod rfl rfl rfl ?_
     exact XE
    refine V_cond rfl (fun hc10 => ?_) (fun hc10 => ?_)
    ·have h := of_true h hc10
     refine V_skip ?_
     show V _ _ _ _
     refine V_block ?_
     obtain ⟨f11, hf11, h⟩ := of_sI h
     refine V_reg (mb 103 916) [72, 64, 56, 32, 16] (s1 := ⟨.bot :: .bot :: .pt 16 0 :: .bot :: .pt 32 0 :: .bot :: .bot :: .pt 56 0 :: .pt 64 0 :: .pt 72 0 :: bt 93 [], [(72, .box [Ti f1.1, Ti y4.1.1, Ti f11, Ti 0, Ti 0, Ti 0, Ti 0, Ti 0, Ti 0, Ti 0, Ti 0, Ti 0]), (64, .box [Ti y4.2.1, Ti y4.2.2.1, Ti y4.2.2.2.1, Ti y4.2.2.2.2]), (56, .box [Ti y4.1.1, Ti y4.1.2.1, Ti y4.1.2.2]), (32, .box [Ti 0, Ti 0, Ti 0, Ti 0, Ti 0, Ti 0, Ti 0, Ti 0, Ti 0, Ti 0, Ti 0, Ti 0]), (16, .box [Ti f1.1, Ti f1.2.1, Ti f1.2.2])]⟩) ?_ ?_
     ·refine XR 8 ?_
      refine XL_nil ?_
      subst hf11
      kernel_rfl
     exact ⟨n, Nat.lt_succ_self n, _,  by rfl, h⟩
    ·have h := of_false h hc10
     refine V_exit ?_
     obtain rfl := some_inj h
     show St.keep _ _ _ = _
     rfl
  show V _ _ _ _
  obtain ⟨y12, hy12, h⟩ := of_bind h
  refine V_sreg (mb 103 916) [72, 64, 56, 32, 16] (s1 := ⟨.bot :: .bot :: .pt 16 0 :: .bot :: .pt 32 0 :: .bot :: .bot :: .pt 56 0 :: .pt 64 0 :: .pt 72 0 :: bt 93 [], [(72, .box [Ti f1.1, Ti y4.1.1, Ti y12, Ti 0, Ti 0, Ti 0, Ti 0, Ti 0, Ti 0, Ti 0, Ti 0, Ti 0]), (64, .box [Ti y4.2.1, Ti y4.2.2.1, Ti y4.2.2.2.1, Ti y4.2.2.2.2]), (56, .box [Ti y4.1.1, Ti y4.1.2.1, Ti y4.1.2.2]), (32, .box [Ti 0, Ti 0, Ti 0, Ti 0, Ti 0, Ti 0, Ti 0, Ti 0, Ti 0, Ti 0, Ti 0, Ti 0]), (16, .box [Ti f1.1, Ti f1.2.1, Ti f1.2.2])]⟩) ?_ ?_
  ·refine XR 8 ?_
   refine XC (s_impl_mod hy12) cf_impl_mod rfl rfl rfl ?_
   exact XE
  obtain ⟨y13, hy13, h⟩ := of_bind h
  obtain ⟨z14, hz14, h⟩ := of_bind h
  obtain ⟨f15, hf15, h⟩ := of_sI h
  refine V_sdreg [0, 1, 0, 4, 15, 0, 32, 127, 0, 256, 768, 0, 2048, 7936, 16383, 32767, 65535] 16 (cdm 16 [178923680, 178923681, 178923530, 178923546, 178923605, 178913962, 178914986, 178918741, 41986730, 42052266, 42314410, 2796202, 6990506, 22391466, 89478485, 357913941]) (mb 103 916) [72, 64, 56, 32, 16] (s1 := ⟨.bot :: .bot :: .pt 16 0 :: .bot :: .pt 32 0 :: .bot :: .bot :: .pt 56 0 :: .pt 64 0 :: .pt 72 0 :: bt 93 [], [(72, .box [Ti f1.1, Ti y4.1.1, Ti y12, Ti f15, Ti 0, Ti 0, Ti 0, Ti 0, Ti 0, Ti 0, Ti 0, Ti 0]), (64, .box [Ti y4.2.1, Ti y4.2.2.1, Ti y4.2.2.2.1, Ti y4.2.2.2.2]), (56, .box [Ti y4.1.1, Ti y4.1.2.1, Ti y4.1.2.2]), (32, .box [Ti 0, Ti 0, Ti 0, Ti 0, Ti 0, Ti 0, Ti 0, Ti 0, Ti 0, Ti 0, Ti 0, Ti 0]), (16, .box [Ti f1.1, Ti f1.2.1, Ti f1.2.2])]⟩) (by kernel_rfl) (by kernel_rfl) ?_ ?_
  ·refine DR 6 ?_
   refine DC 6 (s_impl_Form_disc hy13) cf_impl_Form_disc rfl rfl rfl rfl 68 rfl ?_
   refine DR 7 ?_
   refine DE_0 14 (I (w64 (Int.tdiv (w64 ((w64 (y12 * y12)) - y13)) (w64 ((w64 (4 * f1.1)) * y4.1.1))))) (by kernel_rfl) rfl rfl rfl (gsat_none rfl) (by kernel_rfl) (Y0_quo64 (a := w64 ((w64 (y12 * y12)) - y13)) (b := w64 ((w64 (4 * f1.1)) * y4.1.1)) rfl (by kernel_rfl) (by kernel_rfl) (nz_some hz14)) 76 rfl ?_
   refine DA 1 ?_
   refine XR 1 ?_
   refine XL_nil ?_
   subst hf15
   kernel_rfl
  obtain ⟨z16, hz16, h⟩ := of_bind h
  obtain ⟨f17, hf17, h⟩ := of_sI h
  refine V_sreg (mb 103 912) [72, 64, 56, 32] (s1 := ⟨bt 4 (.pt 32 0 :: .bot :: .bot :: .pt 56 0 :: .pt 64 0 :: .pt 72 0 :: bt 93 []), [(72, .box [Ti f1.1, Ti y4.1.1, Ti y12, Ti f15, Ti 1, Ti f17, Ti 0, Ti 1, Ti 0, Ti 0, Ti 0, Ti 0]), (64, .box [Ti y4.2.1, Ti y4.2.2.1, Ti y4.2.2.2.1, Ti y4.2.2.2.2]), (56, .box [Ti y4.1.1, Ti y4.1.2.1, Ti y4.1.2.2]), (32, .box [Ti 0, Ti 0, Ti 0, Ti 0, Ti 0, Ti 0, Ti 0, Ti 0, Ti 0, Ti 0, Ti 0, Ti 0])]⟩) ?_ ?_
  ·refine XR 8 ?_
   refine L0 rfl rfl (Y0_quo64 (a := w64 (y12 - f1.2.1)) (b := w64 (2 * f1.1)) rfl (by kernel_rfl) (by kernel_rfl) (nz_some hz16)) ?_
   refine L0 rfl rfl (Y0_build (cs := [Ti 1, Ti (w64 (Int.tdiv (w64 (y12 - f1.2.1)) (w64 (2 * f1.1)))), Ti 0, Ti 1]) pl31 bt31 rfl rfl (by kernel_rfl)) ?_
   refine XR 2 ?_
   refine XL_nil ?_
   subst hf17
   kernel_rfl
  obtain ⟨z18, hz18, h⟩ := of_bind h
  obtain ⟨y19, hy19, h⟩ := of_bind h
  refine V_sdreg [0, 0, 2, 0, 8, 30, 0, 64, 192, 510, 1022, 2047, 4095, 8191] 13 (cdm 13 [2796200, 172674, 172678, 172074, 172138, 172374, 2730, 6826, 23210, 87382, 349526, 1398101, 5592405]) (mb 103 528) [72, 32] (s1 := ⟨bt 4 (.pt 32 0 :: bt 4 (.pt 72 0 :: bt 93 [])), [(72, .box [Ti f1.1, Ti y4.1.1, Ti y12, Ti f15, Ti 1, Ti f17, Ti 0, Ti 1, Ti y19.1, Ti y19.2.1, Ti y19.2.2.1, Ti y19.2.2.2]), (32, .box [Ti 0, Ti 0, Ti 0, Ti 0, Ti 0, Ti 0, Ti 0, Ti 0, Ti 0, Ti 0, Ti 0, Ti 0])]⟩) (by kernel_rfl) (by kernel_rfl) ?_ ?_
  ·refine DR 9 ?_
   refine DE_0 9 (I (w64 (Int.tdiv (w64 (y12 - y4.1.2.1)) (w64 (2 * y4.1.1))))) (by kernel_rfl) rfl rfl rfl (gsat_none rfl) (by kernel_rfl) (Y0_quo64 (a := w64 (y12 - y4.1.2.1)) (b := w64 (2 * y4.1.1)) rfl (by kernel_rfl) (by kernel_rfl) (nz_some hz18)) 98 rfl ?_
   refine DE_0 10 (.ag [Ti 1, Ti (w64 (Int.tdiv (w64 (y12 - y4.1.2.1)) (w64 (2 * y4.1.1)))), Ti 0, Ti 1]) (by kernel_rfl) rfl rfl rfl (gsat_none rfl) (by kernel_rfl) (Y0_build (cs := [Ti 1, Ti (w64 (Int.tdiv (w64 (y12 - y4.1.2.1)) (w64 (2 * y4.1.1)))), Ti 0, Ti 1]) pl31 bt31 rfl rfl (by kernel_rfl)) 99 rfl ?_
   refine DC 11 (s_impl_Matrix_times hy19) cf_impl_Matrix_times rfl rfl rfl rfl 100 rfl ?_
   refine DA 1 ?_
   exact XE
  refine V_e (mb 103 16) [32] (s1 := ⟨bt 4 (.pt 32 0 :: bt 98 []), [(32, .box [Ti f1.1, Ti y4.1.1, Ti y12, Ti f15, Ti 1, Ti f17, Ti 0, Ti 1, Ti y19.1, Ti y19.2.1, Ti y19.2.2.1, Ti y19.2.2.2])]⟩) ?_
  refine V_ret ?_
  obtain rfl := some_inj h
  show Post _ _ _ _ _
  exact ⟨.inr rfl, rfl, rfl, rfl⟩
theorem cf_impl_united_composite : ∀ args w, (callFunc 174 args).run Tryz.prog w = .ok (.enter 174 args) w := run_callFunc Tryz.func174 (by kernel_rfl) (by kernel_rfl)
theorem s_impl_united_composite {u1 : (Int × Int × Int × Int × ((Int × Int × Int × Int)) × ((Int × Int × Int × Int)))} {r : (Int × Int × Int)} (h : r_impl_united_composite u1 = some r) : CallS Tryz.prog 174 [.ag [Ti u1.1, Ti u1.2.1, Ti u1.2.2.1, Ti u1.2.2.2.1, Ti u1.2.2.2.2.1.1, Ti u1.2.2.2.2.1.2.1, Ti u1.2.2.2.2.1.2.2.1, Ti u1.2.2.2.2.1.2.2.2, Ti u1.2.2.2.2.2.1, Ti u1.2.2.2.2.2.2.1, Ti u1.2.2.2.2.2.2.2.1, Ti u1.2.2.2.2.2.2.2.2]] (.ag [Ti r.1, Ti r.2.1, Ti r.2.2]) [] := by
  refine CallS_of_text (rs := [.w 2 3]) (vs := [.cell 2 25]) Tryz.func174 rfl rfl (.cons ⟨rfl, wd25⟩ FitsL.nil) (by decide) 13 rfl ?_
  unfold r_impl_united_composite at h
  show V _ _ ⟨.ag [Ti u1.1, Ti u1.2.1, Ti u1.2.2.1, Ti u1.2.2.2.1, Ti u1.2.2.2.2.1.1, Ti u1.2.2.2.2.1.2.1, Ti u1.2.2.2.2.1.2.2.1, Ti u1.2.2.2.2.1.2.2.2, Ti u1.2.2.2.2.2.1, Ti u1.2.2.2.2.2.2.1, Ti u1.2.2.2.2.2.2.2.1, Ti u1.2.2.2.2.2.2.2.2] :: bt 12 [], []⟩ _
  refine V_e (mb 13 6) [16, 8] (s1 := ⟨.bot :: .pt 8 0 :: .pt 16 0 :: bt 10 [], [(16, .box [Ti 0, Ti 0, Ti 0]), (8, .box [Ti u1.1, Ti u1.2.1, Ti u1.2.2.1, Ti u1.2.2.2.1, Ti u1.2.2.2.2.1.1, Ti u1.2.2.2.2.1.2.1, Ti u1.2.2.2.2.1.2.2.1, Ti u1.2.2.2.2.1.2.2.2, Ti u1.2.2.2.2.2.1, Ti u1.2.2.2.2.2.2.1, Ti u1.2.2.2.2.2.2.2.1, Ti u1.2.2.2.2.2.2.2.2])]⟩) ?_
  obtain ⟨f2, hf2, h⟩ := of_sI h
  refine V_sreg (mb 13 4) [16] (s1 := ⟨.bot :: .bot :: .pt 16 0 :: bt 10 [], [(16, .box [Ti f2, Ti u1.2.2.1, Ti u1.2.2.2.1])]⟩) ?_ ?_
  ·refine XR 9 ?_
   refine L0 rfl rfl (Y0_build (cs := [Ti (w64 (u1.1 * u1.2.1)), Ti u1.2.2.1, Ti u1.2.2.2.1]) pl25 bt25 rfl rfl (by kernel_rfl)) ?_
   refine XR 1 ?_
   refine XL_nil ?_
   subst hf2
   kernel_rfl
  refine V_ret ?_
  obtain rfl := some_inj h
  show Post _ _ _ _ _
  exact ⟨.inr rfl, rfl, rfl, rfl⟩
theorem cf_impl_compose : ∀ args w, (callFunc 83 args).run Tryz.prog w = .ok (.enter 83 args) w := run_callFunc Tryz.func83 (by kernel_rfl) (by kernel_rfl)
theorem s_impl_compose {f1 : (Int × Int × Int)} {g2 : (Int × Int × Int)} {r : (Int × Int × Int)} (h : r_impl_compose f1 g2 = some r) : CallS Tryz.prog 83 [.ag [Ti f1.1, Ti f1.2.1, Ti f1.2.2], .ag [Ti g2.1, Ti g2.2.1, Ti g2.2.2]] (.ag [Ti r.1, Ti r.2.1, Ti r.2.2]) [] := by
  refine CallS_of_text (rs := [.w 4 3]) (vs := [.cell 4 25]) Tryz.func83 rfl rfl (.cons ⟨rfl, wd25⟩ FitsL.nil) (by decide) 12 rfl ?_
  unfold r_impl_compose at h
  show V _ _ ⟨.ag [Ti f1.1, Ti f1.2.1, Ti f1.2.2] :: .ag [Ti g2.1, Ti g2.2.1, Ti g2.2.2] :: bt 10 [], []⟩ _
  refine V_e (mb 12 28) [32, 24, 16] (s1 := ⟨.bot :: .bot :: .pt 16 0 :: .pt 24 0 :: .pt 32 0 :: bt 7 [], [(32, .box [Ti 0, Ti 0, Ti 0]), (24, .box [Ti g2.1, Ti g2.2.1, Ti g2.2.2]), (16, .box [Ti f1.1, Ti f1.2.1, Ti f1.2.2])]⟩) ?_
  obtain ⟨y3, hy3, h⟩ := of_bind h
  obtain ⟨y4, hy4, h⟩ := of_bind h
  obtain ⟨y5, hy5, h⟩ := of_bind h
  obtain ⟨y6, hy6, h⟩ := of_bind h
  obtain ⟨y7, hy7, h⟩ := of_bind h
  refine V_sdreg [0, 1, 0, 7, 15, 31, 63, 127] 7 (cdm 7 [32, 33, 10, 21, 85, 341, 1365]) (mb 12 16) [32] (s1 := ⟨bt 4 (.pt 32 0 :: bt 7 []), [(32, .box [Ti y7.1, Ti y7.2.1, Ti y7.2.2])]⟩) (by kernel_rfl) (by kernel_rfl) ?_ ?_
  ·refine DR 1 ?_
   refine DC 1 (s_impl_reduced hy3) cf_impl_reduced rfl rfl rfl rfl 6 rfl ?_
   refine DR 1 ?_
   refine DC 3 (s_impl_reduced hy4) cf_impl_reduced rfl rfl rfl rfl 8 rfl ?_
   refine DC 4 (s_impl_unite hy5) cf_impl_unite rfl rfl rfl rfl 9 rfl ?_
   refine DC 5 (s_impl_united_composite hy6) cf_impl_united_composite rfl rfl rfl rfl 10 rfl ?_
   refine DC 6 (s_impl_reduced hy7) cf_impl_reduced rfl rfl rfl rfl 11 rfl ?_
   refine DA 0 ?_
   exact XE
  refine V_ret ?_
  obtain rfl := some_inj h
  show Post _ _ _ _ _
  exact ⟨.inr rfl, rfl, rfl, rfl⟩
theorem cf_impl_ComposeForms : ∀ args w, (callFunc 18 args).run Tryz.prog w = .ok (.enter 18 args) w := run_callFunc Tryz.func18 (by kernel_rfl) (by kernel_rfl)
theorem s_impl_ComposeForms {f1 : (Int × Int × Int)} {g2 : (Int × Int × Int)} {r : (((Int × Int × Int)) × Bool)} (h : r_impl_ComposeForms f1 g2 = some r) : CallS Tryz.prog 18 [.ag [Ti f1.1, Ti f1.2.1, Ti f1.2.2], .ag [Ti g2.1, Ti g2.2.1, Ti g2.2.2]] (.tc (.ag [Ti r.1.1, Ti r.1.2.1, Ti r.1.2.2]) (.tc (Bo r.2) .tn)) [] := by
  refine CallS_of_text (rs := [.w 4 3, .t 5]) (vs := [.cell 4 25, .tmp 5]) Tryz.func18 rfl rfl (.cons ⟨rfl, wd25⟩ (.cons rfl FitsL.nil)) (by decide) 14 rfl ?_
  unfold r_impl_ComposeForms at h
  show V _ _ ⟨.ag [Ti f1.1, Ti f1.2.1, Ti f1.2.2] :: .ag [Ti g2.1, Ti g2.2.1, Ti g2.2.2] :: bt 12 [], []⟩ _
  refine V_e (mb 14 28) [32, 24, 16] (s1 := ⟨.bot :: .bot :: .pt 16 0 :: .pt 24 0 :: .pt 32 0 :: bt 9 [], [(32, .box [Ti 0, Ti 0, Ti 0]), (24, .box [Ti g2.1, Ti g2.2.1, Ti g2.2.2]), (16, .box [Ti f1.1, Ti f1.2.1, Ti f1.2.2])]⟩) ?_
  refine V_seq ?_
  obtain ⟨y3, hy3, h⟩ := of_bind h
  refine V_sreg (mb 14 540) [32, 24, 16] (s1 := ⟨.bot :: .bot :: .pt 16 0 :: .pt 24 0 :: .pt 32 0 :: bt 4 (Bo (!y3) :: bt 4 []), [(32, .box [Ti 0, Ti 0, Ti 0]), (24, .box [Ti g2.1, Ti g2.2.1, Ti g2.2.2]), (16, .box [Ti f1.1, Ti f1.2.1, Ti f1.2.2])]⟩) ?_ ?_
  ·refine XR 2 ?_
   refine XC (s_impl_arePair hy3) cf_impl_arePair rfl rfl rfl ?_
   exact XE
  refine V_cond rfl (fun hc4 => ?_) (fun hc4 => ?_)
  ·have h := of_true h hc4
   refine V_sreg (mb 14 48) [32] (s1 := ⟨bt 4 (.pt 32 0 :: Bo false :: bt 8 []), [(32, .box [Ti 0, Ti 0, Ti 0])]⟩) ?_ ?_
   ·refine L0 rfl rfl (Y0_build (cs := [Ti 0, Ti 0, Ti 0]) pl25 bt25 rfl rfl (by kernel_rfl)) ?_
    exact XE
   refine V_ret ?_
   obtain rfl := some_inj h
   show Post _ _ _ _ _
   exact ⟨.inr rfl, rfl, rfl, rfl⟩
  ·have h := of_false h hc4
   refine V_skip ?_
   show V _ _ _ _
   obtain ⟨y5, hy5, h⟩ := of_bind h
   refine V_sreg (mb 14 48) [32] (s1 := ⟨bt 4 (.pt 32 0 :: Bo true :: bt 8 []), [(32, .box [Ti y5.1, Ti y5.2.1, Ti y5.2.2])]⟩) ?_ ?_
   ·refine XR 2 ?_
    refine XC (s_impl_compose hy5) cf_impl_compose rfl rfl rfl ?_
    exact XE
   refine V_ret ?_
   obtain rfl := some_inj h
   show Post _ _ _ _ _
   exact ⟨.inr rfl, rfl, rfl, rfl⟩
theorem cf_impl_Form_opposite : ∀ args w, (callFunc 98 args).run Tryz.prog w = .ok (.enter 98 args) w := run_callFunc Tryz.func98 (by kernel_rfl) (by kernel_rfl)
theorem s_impl_Form_opposite {f1 : (Int × Int × Int)} {r : (Int × Int × Int)} (h : r_impl_Form_opposite f1 = some r) : CallS Tryz.prog 98 [.ag [Ti f1.1, Ti f1.2.1, Ti f1.2.2]] (.ag [Ti r.1, Ti r.2.1, Ti r.2.2]) [] := by
  refine CallS_of_text (rs := [.w 2 3]) (vs := [.cell 2 25]) Tryz.func98 rfl rfl (.cons ⟨rfl, wd25⟩ FitsL.nil) (by decide) 11 rfl ?_
  unfold r_impl_Form_opposite at h
  show V _ _ ⟨.ag [Ti f1.1, Ti f1.2.1, Ti f1.2.2] :: bt 10 [], []⟩ _
  refine V_e (mb 11 6) [16, 8] (s1 := ⟨.bot :: .pt 8 0 :: .pt 16 0 :: bt 8 [], [(16, .box [Ti 0, Ti 0, Ti 0]), (8, .box [Ti f1.1, Ti f1.2.1, Ti f1.2.2])]⟩) ?_
  obtain ⟨f2, hf2, h⟩ := of_sI h
  refine V_sreg (mb 11 4) [16] (s1 := ⟨.bot :: .bot :: .pt 16 0 :: bt 8 [], [(16, .box [Ti f1.1, Ti f2, Ti f1.2.2])]⟩) ?_ ?_
  ·refine XR 7 ?_
   refine L0 rfl rfl (Y0_build (cs := [Ti f1.1, Ti (w64 (0 - f1.2.1)), Ti f1.2.2]) pl25 bt25 rfl rfl (by kernel_rfl)) ?_
   refine XR 1 ?_
   refine XL_nil ?_
   subst hf2
   kernel_rfl
  refine V_ret ?_
  obtain rfl := some_inj h
  show Post _ _ _ _ _
  exact ⟨.inr rfl, rfl, rfl, rfl⟩
theorem cf_impl_DivideForms : ∀ args w, (callFunc 28 args).run Tryz.prog w = .ok (.enter 28 args) w := run_callFunc Tryz.func28 (by kernel_rfl) (by kernel_rfl)
theorem s_impl_DivideForms {f1 : (Int × Int × Int)} {g2 : (Int × Int × Int)} {r : (((Int × Int × Int)) × Bool)} (h : r_impl_DivideForms f1 g2 = some r) : CallS Tryz.prog 28 [.ag [Ti f1.1, Ti f1.2.1, Ti f1.2.2], .ag [Ti g2.1, Ti g2.2.1, Ti g2.2.2]] (.tc (.ag [Ti r.1.1, Ti r.1.2.1, Ti r.1.2.2]) (.tc (Bo r.2) .tn)) [] := by
  refine CallS_of_text (rs := [.w 4 3, .t 5]) (vs := [.cell 4 25, .tmp 5]) Tryz.func28 rfl rfl (.cons ⟨rfl, wd25⟩ (.cons rfl FitsL.nil)) (by decide) 15 rfl ?_
  unfold r_impl_DivideForms at h
  show V _ _ ⟨.ag [Ti f1.1, Ti f1.2.1, Ti f1.2.2] :: .ag [Ti g2.1, Ti g2.2.1, Ti g2.2.2] :: bt 13 [], []⟩ _
  refine V_e (mb 15 28) [32, 24, 16] (s1 := ⟨.bot :: .bot :: .pt 16 0 :: .pt 24 0 :: .pt 32 0 :: bt 10 [], [(32, .box [Ti 0, Ti 0, Ti 0]), (24, .box [Ti g2.1, Ti g2.2.1, Ti g2.2.2]), (16, .box [Ti f1.1, Ti f1.2.1, Ti f1.2.2])]⟩) ?_
  refine V_seq ?_
  obtain ⟨y3, hy3, h⟩ := of_bind h
  refine V_sreg (mb 15 540) [32, 24, 16] (s1 := ⟨.bot :: .bot :: .pt 16 0 :: .pt 24 0 :: .pt 32 0 :: bt 4 (Bo (!y3) :: bt 5 []), [(32, .box [Ti 0, Ti 0, Ti 0]), (24, .box [Ti g2.1, Ti g2.2.1, Ti g2.2.2]), (16, .box [Ti f1.1, Ti f1.2.1, Ti f1.2.2])]⟩) ?_ ?_
  ·refine XR 2 ?_
   refine XC (s_impl_arePair hy3) cf_impl_arePair rfl rfl rfl ?_
   exact XE
  refine V_cond rfl (fun hc4 => ?_) (fun hc4 => ?_)
  ·have h := of_true h hc4
   refine V_sreg (mb 15 48) [32] (s1 := ⟨bt 4 (.pt 32 0 :: Bo false :: bt 9 []), [(32, .box [Ti 0, Ti 0, Ti 0])]⟩) ?_ ?_
   ·refine L0 rfl rfl (Y0_build (cs := [Ti 0, Ti 0, Ti 0]) pl25 bt25 rfl rfl (by kernel_rfl)) ?_
    exact XE
   refine V_ret ?_
   obtain rfl := some_inj h
   show Post _ _ _ _ _
   exact ⟨.inr rfl, rfl, rfl, rfl⟩
  ·have h := of_false h hc4
   refine V_skip ?_
   show V _ _ _ _
   obtain ⟨y5, hy5, h⟩ := of_bind h
   obtain ⟨y6, hy6, h⟩ := of_bind h
   refine V_sdreg [0, 0, 2, 7, 15, 31] 4 (cdm 4 [40, 2, 6, 21]) (mb 15 48) [32] (s1 := ⟨bt 4 (.pt 32 0 :: Bo true :: bt 9 []), [(32, .box [Ti y6.1, Ti y6.2.1, Ti y6.2.2])]⟩) (by kernel_rfl) (by kernel_rfl) ?_ ?_
   ·refine DR 2 ?_
    refine DC 2 (s_impl_Form_opposite hy5) cf_impl_Form_opposite rfl rfl rfl rfl 13 rfl ?_
    refine DC 3 (s_impl_compose hy6) cf_impl_compose rfl rfl rfl rfl 14 rfl ?_
    refine DA 0 ?_
    exact XE
   refine V_ret ?_
   obtain rfl := some_inj h
   show Post _ _ _ _ _
   exact ⟨.inr rfl, rfl, rfl, rfl⟩
theorem cf_laws_qHas : ∀ args w, (callFunc 29 args).run Tryz.prog w = .ok (.enter 29 args) w := run_callFunc Tryz.func29 (by kernel_rfl) (by kernel_rfl)
theorem s_laws_qHas {l1 : List ((Int × Int × Int))} {f2 : (Int × Int × Int)} {r : Bool} (h : r_laws_qHas l1 f2 = some r) : CallS Tryz.prog 29 [.c (.sl (l1.map c25)), .ag [Ti f2.1, Ti f2.2.1, Ti f2.2.2]] (Bo r) [] := by
  refine CallS_of_text (rs := [.t 4]) (vs := [.tmp 4]) Tryz.func29 rfl rfl (.cons rfl FitsL.nil) (by decide) 17 rfl ?_
  unfold r_laws_qHas at h
  show V _ _ ⟨.c (.sl (l1.map c25)) :: .ag [Ti f2.1, Ti f2.2.1, Ti f2.2.2] :: bt 15 [], []⟩ _
  refine V_e (mb 17 9) [24] (s1 := ⟨.c (.sl (l1.map c25)) :: .bot :: .bot :: .pt 24 0 :: bt 13 [], [(24, .box [Ti f2.1, Ti f2.2.1, Ti f2.2.2])]⟩) ?_
  refine V_seq ?_
  refine V_sreg (mb 17 904) [24] (s1 := ⟨bt 3 (.pt 24 0 :: bt 3 (.c (.sl (l1.map c25)) :: I ((l1.length : Int)) :: I 0 :: bt 7 [])), [(24, .box [Ti f2.1, Ti f2.2.1, Ti f2.2.2])]⟩) ?_ ?_
  ·refine XR 1 ?_
   refine L0 rfl rfl (Y0_lenM (c := c25) (xs := l1) Tryz.underlying38 rfl (by kernel_rfl)) ?_
   exact XE
  obtain ⟨qo5, hLo5, hko5⟩ := of_bind h
  refine V_toS (q := qo5) (S := fun o5 => ⟨bt 17 [], []⟩) (mb 17 0) [] ?_ ?_
  ·refine V_block (V_loop (fun n s => ∃ (t3 : Int), s.keep (mb 17 904) [24] = (⟨bt 3 (.pt 24 0 :: bt 3 (.c (.sl (l1.map c25)) :: I ((l1.length : Int)) :: I t3 :: bt 7 [])), [(24, .box [Ti f2.1, Ti f2.2.1, Ti f2.2.2])]⟩ : St) ∧ r_laws_qHas_L4 f2 l1 n t3 = some qo5) FU ⟨_,  by rfl, hLo5⟩ ?_)
   clear hLo5
   rintro n s ⟨t3, hs, h⟩
   refine V_keep _ _ hs ?_
   clear hs
   cases n with
   | zero => cases h
   | succ n =>
    rw [r_laws_qHas_L4] at h
    refine V_e (mb 17 1928) [24] (s1 := ⟨bt 3 (.pt 24 0 :: bt 3 (.c (.sl (l1.map c25)) :: I ((l1.length : Int)) :: I t3 :: Bo (ltI t3 ((l1.length : Int))) :: bt 6 [])), [(24, .box [Ti f2.1, Ti f2.2.1, Ti f2.2.2])]⟩) ?_
    refine V_seq ?_
    refine V_cond rfl (fun hc6 => ?_) (fun hc6 => ?_)
    ·have h := of_true h hc6
     refine V_skip ?_
     show V _ _ _ _
     refine V_seq ?_
     refine V_block ?_
     obtain ⟨e7, he7, h⟩ := of_bind h
     refine V_sreg (mb 17 968) [48, 24] (s1 := ⟨bt 3 (.pt 24 0 :: .bot :: .bot :: .pt 48 0 :: .c (.sl (l1.map c25)) :: I ((l1.length : Int)) :: I t3 :: bt 7 []), [(48, .box [Ti e7.1, Ti e7.2.1, Ti e7.2.2]), (24, .box [Ti f2.1, Ti f2.2.1, Ti f2.2.2])]⟩) ?_ ?_
     ·refine L0 rfl rfl (Y0_idxM (c := c25) (xs := l1) (v := e7) (n := t3) Tryz.underlying38 sz25 rfl (by kernel_rfl) (by kernel_rfl) he7) ?_
      exact XE
     obtain ⟨t8, ht8, h⟩ := of_bind h
     have ht8 := some_inj ht8
     refine V_sreg (mb 17 33672) [24] (s1 := ⟨bt 3 (.pt 24 0 :: bt 3 (.c (.sl (l1.map c25)) :: I ((l1.length : Int)) :: I t3 :: bt 5 (Bo t8 :: .bot :: []))), [(24, .box [Ti f2.1, Ti f2.2.1, Ti f2.2.2])]⟩) ?_ ?_
     ·refine XR 2 ?_
      refine L0 rfl rfl (Y0_eqg3 (a0 := e7.1) (b0 := f2.1) (a1 := e7.2.1) (b1 := f2.2.1) (a2 := e7.2.2) (b2 := f2.2.2) eqg25 rfl (by kernel_rfl) (by kernel_rfl)) ?_
      refine XL_nil ?_
      subst ht8
      kernel_rfl
     refine V_cond rfl (fun hc9 => ?_) (fun hc9 => ?_)
     ·have h := of_true h hc9
      refine V_e (mb 17 16) [] (s1 := ⟨bt 4 (Bo true :: bt 12 []), []⟩) ?_
      refine V_ret ?_
      obtain rfl := some_inj h
      have h := hko5
      obtain rfl := some_inj h
      show Post _ _ _ _ _
      exact ⟨.inr rfl, rfl, rfl, rfl⟩
     ·have h := of_false h hc9
      refine V_skip ?_
      show V _ _ _ _
      obtain ⟨t10, ht10, h⟩ := of_sI h
      refine V_reg (mb 17 904) [24] (s1 := ⟨bt 3 (.pt 24 0 :: bt 3 (.c (.sl (l1.map c25)) :: I ((l1.length : Int)) :: I t10 :: bt 7 [])), [(24, .box [Ti f2.1, Ti f2.2.1, Ti f2.2.2])]⟩) ?_ ?_
      ·refine XR 2 ?_
       refine XL_nil ?_
       subst ht10
       kernel_rfl
      exact ⟨n, Nat.lt_succ_self n, _,  by rfl, h⟩
    ·have h := of_false h hc6
     refine V_exit ?_
     obtain rfl := some_inj h
     exact ⟨_, rfl, by rfl⟩
  rintro o5 rfl
  have h := hko5
  clear hko5
  show V _ _ _ _
  refine V_e (mb 17 16) [] (s1 := ⟨bt 4 (Bo false :: bt 12 []), []⟩) ?_
  refine V_ret ?_
  obtain rfl := some_inj h
  show Post _ _ _ _ _
  exact ⟨.inr rfl, rfl, rfl, rfl⟩
theorem cf_laws_FnNeighbours : ∀ args w, (callFunc 4 args).run Tryz.prog w = .ok (.enter 4 args) w := run_callFunc Tryz.func4 (by kernel_rfl) (by kernel_rfl)
theorem s_laws_FnNeighbours {code1 : List Int} {more2 : List Int} {r : Bool} (h : r_laws_FnNeighbours code1 more2 = some r) : CallS Tryz.prog 4 [.c (.sl (code1.map c5)), .c (.sl (more2.map c5))] (Bo r) [] := by
  refine CallS_of_text (rs := [.t 4]) (vs := [.tmp 4]) Tryz.func4 rfl rfl (.cons rfl FitsL.nil) (by decide) 210 rfl ?_
  unfold r_laws_FnNeighbours at h
  show V _ _ ⟨.c (.sl (code1.map c5)) :: .c (.sl (more2.map c5)) :: bt 208 [], []⟩ _
  refine V_e (mb 210 3) [] (s1 := ⟨.c (.sl (code1.map c5)) :: .c (.sl (more2.map c5)) :: bt 208 [], []⟩) ?_
  refine V_seq ?_
  obtain ⟨y3, hy3, h⟩ := of_bind h
  refine V_sreg (mb 210 17179869187) [] (s1 := ⟨.c (.sl (code1.map c5)) :: .c (.sl (more2.map c5)) :: bt 32 (Bo y3 :: bt 175 []), []⟩) ?_ ?_
  ·refine XR 2 ?_
   refine XC (s_laws_big hy3) cf_laws_big rfl rfl rfl ?_
   exact XE
  refine V_cond rfl (fun hc4 => ?_) (fun hc4 => ?_)
  ·have h := of_true h hc4
   refine V_e (mb 210 16) [] (s1 := ⟨bt 4 (Bo true :: bt 205 []), []⟩) ?_
   refine V_ret ?_
   obtain rfl := some_inj h
   show Post _ _ _ _ _
   exact ⟨.inr rfl, rfl, rfl, rfl⟩
  ·have h := of_false h hc4
   refine V_skip ?_
   show V _ _ _ _
   obtain ⟨y5, hy5, h⟩ := of_bind h
   refine V_sreg (mb 210 98) [] (s1 := ⟨.bot :: .c (.sl (more2.map c5)) :: bt 3 (I y5.1 :: I y5.2 :: bt 203 []), []⟩) ?_ ?_
   ·refine XR 1 ?_
    refine XC (s_spec_DrawNeighbourMatrix hy5) cf_spec_DrawNeighbourMatrix rfl rfl rfl ?_
    exact XE
   obtain ⟨y6, hy6, h⟩ := of_bind h
   refine V_sreg (mb 210 482) [344] (s1 := ⟨.bot :: .c (.sl (more2.map c5)) :: bt 3 (I y5.1 :: I y5.2 :: .ow 344 :: Bo y6.2 :: bt 201 []), [(344, .arr 51 1 (y6.1.map c51))]⟩) ?_ ?_
   ·refine XR 2 ?_
    refine XC (s_impl_NeighbourMatrix hy6) cf_impl_NeighbourMatrix rfl rfl rfl ?_
    exact XE
   obtain ⟨y7, hy7, h⟩ := of_bind h
   refine V_sreg (mb 210 2018) [392, 344] (s1 := ⟨.bot :: .c (.sl (more2.map c5)) :: bt 3 (I y5.1 :: I y5.2 :: .ow 344 :: Bo y6.2 :: .ow 392 :: Bo y7.2 :: bt 199 []), [(392, .arr 51 1 (y7.1.map c51)), (344, .arr 51 1 (y6.1.map c51))]⟩) ?_ ?_
   ·refine XR 2 ?_
    refine XC (s_spec_NeighbourMatrix hy7) cf_spec_NeighbourMatrix rfl rfl rfl ?_
    exact XE
   refine V_seq ?_
   obtain ⟨b10, hb10, h⟩ := of_bind h
   refine V_sreg (mb 210 1152921504606847458) [344] (s1 := ⟨.bot :: .c (.sl (more2.map c5)) :: bt 3 (I y5.1 :: I y5.2 :: .ow 344 :: Bo y6.2 :: bt 51 (Bo b10 :: bt 149 [])), [(344, .arr 51 1 (y6.1.map c51))]⟩) ?_ ?_
   ·refine XR 2 ?_
    refine L0 rfl rfl (Y0_neb (a := y6.2) (b := y7.2) Tryz.underlying4 rfl (by kernel_rfl) (by kernel_rfl)) ?_
    refine XR 1 ?_
    refine XL_split (y6.2 != y7.2) (fun hc8 => ?_) (fun hc8 => ?_)
    ·have hb10 := some_inj (of_true hb10 hc8)
     refine XL_skipF _ rfl rfl (by kernel_rfl) hc8 rfl ?_
     refine XL_skipF _ rfl rfl (by kernel_rfl) hc8 rfl ?_
     refine XL_skipF _ rfl rfl (by kernel_rfl) hc8 rfl ?_
     refine XL_skipF _ rfl rfl (by kernel_rfl) hc8 rfl ?_
     refine XL_cons rfl (X_of_Y0 rfl (Y0_pickTe (b := y6.2 != y7.2) (p := true) rfl (by kernel_rfl) hc8 (by kernel_rfl) hb10)) ?_
     exact XE
    ·have hb10 := of_false hb10 hc8
     obtain ⟨y9, hy9, hb10⟩ := of_bind hb10
     have hb10 := some_inj hb10
     refine XL_takeC _ rfl rfl (by kernel_rfl) hc8 (X_of_Y0 rfl (E_move (.ow 344) rfl (by kernel_rfl))) ?_
     refine XL_takeC _ rfl rfl (by kernel_rfl) hc8 (X_of_Y0 rfl (E_move (.ow 392) rfl (by kernel_rfl))) ?_
     refine XL_takeC _ rfl rfl (by kernel_rfl) hc8 (X_of_Y1 rfl (Y1_callS (s_laws_sameLists hy9) cf_laws_sameLists rfl (by kernel_rfl) rfl rfl)) ?_
     refine XL_takeC _ rfl rfl (by kernel_rfl) hc8 (X_of_Y0 rfl (Y0_not (b := y9) rfl (by kernel_rfl))) ?_
     refine XL_cons rfl (X_of_Y0 rfl (Y0_pickFe (b := y6.2 != y7.2) (p := !y9) rfl (by kernel_rfl) hc8 (by kernel_rfl) hb10)) ?_
     exact XE
   refine V_cond rfl (fun hc11 => ?_) (fun hc11 => ?_)
   ·have h := of_true h hc11
    refine V_e (mb 210 16) [] (s1 := ⟨bt 4 (Bo false :: bt 205 []), []⟩) ?_
    refine V_ret ?_
    obtain rfl := some_inj h
    show Post _ _ _ _ _
    exact ⟨.inr rfl, rfl, rfl, rfl⟩
   ·have h := of_false h hc11
    refine V_skip ?_
    show V _ _ _ _
    refine V_seq ?_
    refine V_e (mb 210 4611686018427388130) [344] (s1 := ⟨.bot :: .c (.sl (more2.map c5)) :: bt 3 (I y5.1 :: I y5.2 :: .ow 344 :: bt 54 (Bo (!y6.2) :: bt 147 [])), [(344, .arr 51 1 (y6.1.map c51))]⟩) ?_
    refine V_cond rfl (fun hc12 => ?_) (fun hc12 => ?_)
    ·have h := of_true h hc12
     refine V_e (mb 210 16) [] (s1 := ⟨bt 4 (Bo true :: bt 205 []), []⟩) ?_
     refine V_ret ?_
     obtain rfl := some_inj h
     show Post _ _ _ _ _
     exact ⟨.inr rfl, rfl, rfl, rfl⟩
    ·have h := of_false h hc12
     refine V_skip ?_
     show V _ _ _ _
     obtain ⟨y13, hy13, h⟩ := of_bind h
     refine V_sreg (mb 210 6370) [344] (s1 := ⟨.bot :: .c (.sl (more2.map c5)) :: bt 3 (I y5.1 :: I y5.2 :: .ow 344 :: bt 3 (I y13.1 :: Bo y13.2 :: bt 197 [])), [(344, .arr 51 1 (y6.1.map c51))]⟩) ?_ ?_
     ·refine XR 2 ?_
      refine XC (s_impl_KindOfPrime hy13) cf_impl_KindOfPrime rfl rfl rfl ?_
      exact XE
     obtain ⟨y14, hy14, h⟩ := of_bind h
     refine V_sreg (mb 210 30946) [568, 344] (s1 := ⟨.bot :: .c (.sl (more2.map c5)) :: bt 3 (I y5.1 :: I y5.2 :: .ow 344 :: bt 3 (I y13.1 :: Bo y13.2 :: .ow 568 :: Bo y14.2 :: bt 195 [])), [(568, .arr 25 3 (y14.1.map c25)), (344, .arr 51 1 (y6.1.map c51))]⟩) ?_ ?_
     ·refine XR 1 ?_
      refine XC (s_impl_ReducedForms hy14) cf_impl_ReducedForms rfl rfl rfl ?_
      exact XE
     obtain ⟨y15, hy15, h⟩ := of_bind h
     refine V_sreg (mb 210 129250) [568, 344] (s1 := ⟨.bot :: .c (.sl (more2.map c5)) :: bt 3 (I y5.1 :: I y5.2 :: .ow 344 :: bt 3 (I y13.1 :: Bo y13.2 :: .ow 568 :: Bo y14.2 :: I y15.1 :: Bo y15.2 :: bt 193 [])), [(568, .arr 25 3 (y14.1.map c25)), (344, .arr 51 1 (y6.1.map c51))]⟩) ?_ ?_
     ·refine XR 2 ?_
      refine XC (s_impl_KroneckerSymbol hy15) cf_impl_KroneckerSymbol rfl rfl rfl ?_
      exact XE
     refine V_seq ?_
     obtain ⟨t18, ht18, h⟩ := of_bind h
     have ht18 := some_inj ht18
     refine V_sreg (mb 210 618970019642690137449605346) [568, 344] (s1 := ⟨.bot :: .c (.sl (more2.map c5)) :: bt 3 (I y5.1 :: I y5.2 :: .ow 344 :: bt 3 (I y13.1 :: .bot :: .ow 568 :: .bot :: I y15.1 :: bt 73 (Bo t18 :: bt 120 []))), [(568, .arr 25 3 (y14.1.map c25)), (344, .arr 51 1 (y6.1.map c51))]⟩) ?_ ?_
     ·refine XR 3 ?_
      refine XL_split (!y13.2) (fun hc16 => ?_) (fun hc16 => ?_)
      ·refine XL_skipF _ rfl rfl (by kernel_rfl) hc16 rfl ?_
       refine XL_skipF _ rfl rfl (by kernel_rfl) hc16 rfl ?_
       refine XL_cons rfl (X_of_Y0 rfl (Y0_pick1 (b := !y13.2) (p := true) (q := !y14.2) rfl (by kernel_rfl) hc16 (by kernel_rfl))) ?_
       refine XR 1 ?_
       refine XL_split (bif (!y13.2) then true else (!y14.2)) (fun hc17 => ?_) (fun hc17 => ?_)
       ·refine XL_skipF _ rfl rfl (by kernel_rfl) hc17 rfl ?_
        refine XL_skipF _ rfl rfl (by kernel_rfl) hc17 rfl ?_
        refine XL_cons rfl (X_of_Y0 rfl (Y0_pick1 (b := bif (!y13.2) then true else (!y14.2)) (p := true) (q := !y15.2) rfl (by kernel_rfl) hc17 (by kernel_rfl))) ?_
        refine XL_nil ?_
        subst ht18
        kernel_rfl
       ·refine XL_takeC _ rfl rfl (by kernel_rfl) hc17 (X_of_Y0 rfl (E_move (Bo y15.2) rfl (by kernel_rfl))) ?_
        refine XL_takeC _ rfl rfl (by kernel_rfl) hc17 (X_of_Y0 rfl (Y0_not (b := y15.2) rfl (by kernel_rfl))) ?_
        refine XL_cons rfl (X_of_Y0 rfl (Y0_pick0 (b := bif (!y13.2) then true else (!y14.2)) (p := true) (q := !y15.2) rfl (by kernel_rfl) hc17 (by kernel_rfl))) ?_
        refine XL_nil ?_
        subst ht18
        kernel_rfl
      ·refine XL_takeC _ rfl rfl (by kernel_rfl) hc16 (X_of_Y0 rfl (E_move (Bo y14.2) rfl (by kernel_rfl))) ?_
       refine XL_takeC _ rfl rfl (by kernel_rfl) hc16 (X_of_Y0 rfl (Y0_not (b := y14.2) rfl (by kernel_rfl))) ?_
       refine XL_cons rfl (X_of_Y0 rfl (Y0_pick0 (b := !y13.2) (p := true) (q := !y14.2) rfl (by kernel_rfl) hc16 (by kernel_rfl))) ?_
       refine XR 1 ?_
       refine XL_split (bif (!y13.2) then true else (!y14.2)) (fun hc17 => ?_) (fun hc17 => ?_)
       ·refine XL_skipF _ rfl rfl (by kernel_rfl) hc17 rfl ?_
        refine XL_skipF _ rfl rfl (by kernel_rfl) hc17 rfl ?_
        refine XL_cons rfl (X_of_Y0 rfl (Y0_pick1 (b := bif (!y13.2) then true else (!y14.2)) (p := true) (q := !y15.2) rfl (by kernel_rfl) hc17 (by kernel_rfl))) ?_
        refine XL_nil ?_
        subst ht18
        kernel_rfl
       ·refine XL_takeC _ rfl rfl (by kernel_rfl) hc17 (X_of_Y0 rfl (E_move (Bo y15.2) rfl (by kernel_rfl))) ?_
        refine XL_takeC _ rfl rfl (by kernel_rfl) hc17 (X_of_Y0 rfl (Y0_not (b := y15.2) rfl (by kernel_rfl))) ?_
        refine XL_cons rfl (X_of_Y0 rfl (Y0_pick0 (b := bif (!y13.2) then true else (!y14.2)) (p := true) (q := !y15.2) rfl (by kernel_rfl) hc17 (by kernel_rfl))) ?_
        refine XL_nil ?_
        subst ht18
        kernel_rfl
     refine V_cond rfl (fun hc19 => ?_) (fun hc19 => ?_)
     ·have h := of_true h hc19
      refine V_e (mb 210 16) [] (s1 := ⟨bt 4 (Bo false :: bt 205 []), []⟩) ?_
      refine V_ret ?_
      obtain rfl := some_inj h
      show Post _ _ _ _ _
      exact ⟨.inr rfl, rfl, rfl, rfl⟩
     ·have h := of_false h hc19
      refine V_skip ?_
      show V _ _ _ _
      refine V_seq ?_
      refine V_e (mb 210 2475880078570760549798289634) [568, 344] (s1 := ⟨.bot :: .c (.sl (more2.map c5)) :: bt 3 (I y5.1 :: I y5.2 :: .ow 344 :: bt 5 (.ow 568 :: .bot :: I y15.1 :: bt 75 (Bo (eqI y13.1 4) :: bt 118 []))), [(568, .arr 25 3 (y14.1.map c25)), (344, .arr 51 1 (y6.1.map c51))]⟩) ?_
      refine V_cond rfl (fun hc20 => ?_) (fun hc20 => ?_)
      ·have h := of_true h hc20
       refine V_e (mb 210 16) [] (s1 := ⟨bt 4 (Bo true :: bt 205 []), []⟩) ?_
       refine V_ret ?_
       obtain rfl := some_inj h
       show Post _ _ _ _ _
       exact ⟨.inr rfl, rfl, rfl, rfl⟩
      ·have h := of_false h hc20
       refine V_skip ?_
       show V _ _ _ _
       obtain ⟨y21, hy21, h⟩ := of_bind h
       refine V_sreg (mb 210 434370) [136, 568, 344] (s1 := ⟨.bot :: .c (.sl (more2.map c5)) :: bt 4 (I y5.2 :: .ow 344 :: bt 5 (.ow 568 :: .bot :: I y15.1 :: .bot :: .pt 136 0 :: Bo y21.2 :: bt 191 [])), [(136, .box [Ti y21.1.1, Ti y21.1.2.1, Ti y21.1.2.2]), (568, .arr 25 3 (y14.1.map c25)), (344, .arr 51 1 (y6.1.map c51))]⟩) ?_ ?_
       ·refine XR 2 ?_
        refine XC (s_impl_PrimeClass hy21) cf_impl_PrimeClass rfl rfl rfl ?_
        exact XE
       refine V_seq ?_
       refine V_sreg (mb 210 2535301200456458802993406845122) [136, 568, 344] (s1 := ⟨.bot :: .c (.sl (more2.map c5)) :: bt 4 (I y5.2 :: .ow 344 :: bt 5 (.ow 568 :: .bot :: I y15.1 :: .bot :: .pt 136 0 :: Bo y21.2 :: bt 82 (Bo (y21.2 != (!eqI y15.1 (-1))) :: bt 108 []))), [(136, .box [Ti y21.1.1, Ti y21.1.2.1, Ti y21.1.2.2]), (568, .arr 25 3 (y14.1.map c25)), (344, .arr 51 1 (y6.1.map c51))]⟩) ?_ ?_
       ·refine XR 3 ?_
        refine L0 rfl rfl (Y0_neb (a := y21.2) (b := !eqI y15.1 (-1)) Tryz.underlying4 rfl (by kernel_rfl) (by kernel_rfl)) ?_
        exact XE
       refine V_cond rfl (fun hc22 => ?_) (fun hc22 => ?_)
       ·have h := of_true h hc22
        refine V_e (mb 210 16) [] (s1 := ⟨bt 4 (Bo false :: bt 205 []), []⟩) ?_
        refine V_ret ?_
        obtain rfl := some_inj h
        show Post _ _ _ _ _
        exact ⟨.inr rfl, rfl, rfl, rfl⟩
       ·have h := of_false h hc22
        refine V_skip ?_
        show V _ _ _ _
        refine V_seq ?_
        refine V_sreg (mb 210 35494216806390423241907690184898) [136, 568, 344] (s1 := ⟨.bot :: .c (.sl (more2.map c5)) :: bt 4 (I y5.2 :: .ow 344 :: bt 5 (.ow 568 :: .bot :: I y15.1 :: .bot :: .pt 136 0 :: Bo y21.2 :: bt 83 (.ow 344 :: I ((y6.1.length : Int)) :: I 0 :: bt 105 []))), [(136, .box [Ti y21.1.1, Ti y21.1.2.1, Ti y21.1.2.2]), (568, .arr 25 3 (y14.1.map c25)), (344, .arr 51 1 (y6.1.map c51))]⟩) ?_ ?_
        ·refine XR 1 ?_
         refine L0 rfl rfl (Y0_lenM (c := c51) (xs := y6.1) Tryz.underlying45 rfl (by kernel_rfl)) ?_
         exact XE
        obtain ⟨qo25, hLo25, hko25⟩ := of_bind h
        refine V_toS (q := qo25) (S := fun o25 => ⟨.bot :: .c (.sl (more2.map c5)) :: bt 4 (I y5.2 :: bt 6 (.ow 568 :: .bot :: I y15.1 :: .bot :: .pt 136 0 :: Bo y21.2 :: bt 191 [])), [(136, .box [Ti y21.1.1, Ti y21.1.2.1, Ti y21.1.2.2]), (568, .arr 25 3 (y14.1.map c25))]⟩) (mb 210 434242) [136, 568] ?_ ?_
        ·refine V_block (V_loop (fun n s => ∃ (t23 : Int), s.keep (mb 210 35494216806390423241907690184898) [136, 568, 344] = (⟨.bot :: .c (.sl (more2.map c5)) :: bt 4 (I y5.2 :: .ow 344 :: bt 5 (.ow 568 :: .bot :: I y15.1 :: .bot :: .pt 136 0 :: Bo y21.2 :: bt 83 (.ow 344 :: I ((y6.1.length : Int)) :: I t23 :: bt 105 []))), [(136, .box [Ti y21.1.1, Ti y21.1.2.1, Ti y21.1.2.2]), (568, .arr 25 3 (y14.1.map c25)), (344, .arr 51 1 (y6.1.map c51))]⟩ : St) ∧ r_laws_FnNeighbours_L24 more2 y14 y15 y21 y5 y6 n t23 = some qo25) FU ⟨_,  by rfl, hLo25⟩ ?_)
         clear hLo25
         rintro n s ⟨t23, hs, h⟩
         refine V_keep _ _ hs ?_
         clear hs
         cases n with
         | zero => cases h
         | succ n =>
          rw [r_laws_FnNeighbours_L24] at h
          refine V_e (mb 210 76059036013693764089802192756930) [136, 568, 344] (s1 := ⟨.bot :: .c (.sl (more2.map c5)) :: bt 4 (I y5.2 :: .ow 344 :: bt 5 (.ow 568 :: .bot :: I y15.1 :: .bot :: .pt 136 0 :: Bo y21.2 :: bt 83 (.ow 344 :: I ((y6.1.length : Int)) :: I t23 :: Bo (ltI t23 ((y6.1.length : Int))) :: bt 104 []))), [(136, .box [Ti y21.1.1, Ti y21.1.2.1, Ti y21.1.2.2]), (568, .arr 25 3 (y14.1.map c25)), (344, .arr 51 1 (y6.1.map c51))]⟩) ?_
          refine V_seq ?_
          refine V_cond rfl (fun hc26 => ?_) (fun hc26 => ?_)
          ·have h := of_true h hc26
           refine V_skip ?_
           show V _ _ _ _
           refine V_seq ?_
           refine V_block ?_
           obtain ⟨e27, he27, h⟩ := of_bind h
           obtain ⟨e28, he28, h⟩ := of_bind h
           refine V_sreg (mb 210 35494216806390423241907691757762) [136, 568, 344] (s1 := ⟨.bot :: .c (.sl (more2.map c5)) :: bt 4 (I y5.2 :: .ow 344 :: bt 5 (.ow 568 :: .bot :: I y15.1 :: .bot :: .pt 136 0 :: Bo y21.2 :: I t23 :: .c (.sl (e28.map c3)) :: bt 81 (.ow 344 :: I ((y6.1.length : Int)) :: I t23 :: bt 105 []))), [(136, .box [Ti y21.1.1, Ti y21.1.2.1, Ti y21.1.2.2]), (568, .arr 25 3 (y14.1.map c25)), (344, .arr 51 1 (y6.1.map c51))]⟩) ?_ ?_
           ·refine XR 1 ?_
            refine L0 rfl rfl (Y0_idxoM (c := c51) (xs := y6.1) (v := e27) (id := 344) (T := 51) (sz := 1) (n := t23) Tryz.underlying45 sz51 rfl (by kernel_rfl) (by kernel_rfl) (by kernel_rfl) he27) ?_
            refine L0 rfl rfl (Y0_loado1 (c := c51) (xs := y6.1) (v := e28) (id := 344) (sz := 1) (T := 51) (off := 0) (n := t23) (d := .sl (e28.map c3)) (ds := []) sc51 rfl (by kernel_rfl) (by kernel_rfl) he28 (by kernel_rfl)) ?_
            exact XE
           refine V_seq ?_
           refine V_sreg (mb 210 4578753968024364598206091979825346) [136, 568, 344] (s1 := ⟨.bot :: .c (.sl (more2.map c5)) :: bt 4 (I y5.2 :: .ow 344 :: bt 5 (.ow 568 :: .bot :: I y15.1 :: .bot :: .pt 136 0 :: Bo y21.2 :: I t23 :: .c (.sl (e28.map c3)) :: bt 81 (.ow 344 :: I ((y6.1.length : Int)) :: I t23 :: bt 4 (.c (.sl (e28.map c3)) :: I ((e28.length : Int)) :: I 0 :: bt 98 [])))), [(136, .box [Ti y21.1.1, Ti y21.1.2.1, Ti y21.1.2.2]), (568, .arr 25 3 (y14.1.map c25)), (344, .arr 51 1 (y6.1.map c51))]⟩) ?_ ?_
           ·refine XR 1 ?_
            refine L0 rfl rfl (Y0_lenM (c := c3) (xs := e28) Tryz.underlying51 rfl (by kernel_rfl)) ?_
            exact XE
           obtain ⟨qo31, hLo31, hko31⟩ := of_bind h
           refine V_toS (q := qo31) (S := fun o31 => ⟨.bot :: .c (.sl (more2.map c5)) :: bt 4 (I y5.2 :: .ow 344 :: bt 5 (.ow 568 :: .bot :: I y15.1 :: .bot :: .pt 136 0 :: Bo y21.2 :: .bot :: .c (.sl (e28.map c3)) :: bt 81 (.ow 344 :: I ((y6.1.length : Int)) :: I t23 :: bt 105 []))), [(136, .box [Ti y21.1.1, Ti y21.1.2.1, Ti y21.1.2.2]), (568, .arr 25 3 (y14.1.map c25)), (344, .arr 51 1 (y6.1.map c51))]⟩) (mb 210 35494216806390423241907691233474) [136, 568, 344] ?_ ?_
           ·refine V_block (V_loop (fun n s => ∃ (t29 : Int), s.keep (mb 210 4578753968024364598206091979825346) [136, 568, 344] = (⟨.bot :: .c (.sl (more2.map c5)) :: bt 4 (I y5.2 :: .ow 344 :: bt 5 (.ow 568 :: .bot :: I y15.1 :: .bot :: .pt 136 0 :: Bo y21.2 :: I t23 :: .c (.sl (e28.map c3)) :: bt 81 (.ow 344 :: I ((y6.1.length : Int)) :: I t23 :: bt 4 (.c (.sl (e28.map c3)) :: I ((e28.length : Int)) :: I t29 :: bt 98 [])))), [(136, .box [Ti y21.1.1, Ti y21.1.2.1, Ti y21.1.2.2]), (568, .arr 25 3 (y14.1.map c25)), (344, .arr 51 1 (y6.1.map c51))]⟩ : St) ∧ r_laws_FnNeighbours_L30 e28 more2 t23 y14 y15 y21 y5 y6 n t29 = some qo31) FU ⟨_,  by rfl, hLo31⟩ ?_)
            clear hLo31
            rintro n s ⟨t29, hs, h⟩
            refine V_keep _ _ hs ?_
            clear hs
            cases n with
            | zero => cases h
            | succ n =>
             rw [r_laws_FnNeighbours_L30] at h
             refine V_e (mb 210 9771050826559192226736588309045442) [136, 568, 344] (s1 := ⟨.bot :: .c (.sl (more2.map c5)) :: bt 4 (I y5.2 :: .ow 344 :: bt 5 (.ow 568 :: .bot :: I y15.1 :: .bot :: .pt 136 0 :: Bo y21.2 :: I t23 :: .c (.sl (e28.map c3)) :: bt 81 (.ow 344 :: I ((y6.1.length : Int)) :: I t23 :: bt 4 (.c (.sl (e28.map c3)) :: I ((e28.length : Int)) :: I t29 :: Bo (ltI t29 ((e28.length : Int))) :: bt 97 [])))), [(136, .box [Ti y21.1.1, Ti y21.1.2.1, Ti y21.1.2.2]), (568, .arr 25 3 (y14.1.map c25)), (344, .arr 51 1 (y6.1.map c51))]⟩) ?_
             refine V_seq ?_
             refine V_cond rfl (fun hc32 => ?_) (fun hc32 => ?_)
             ·have h := of_true h hc32
              refine V_skip ?_
              show V _ _ _ _
              refine V_seq ?_
              refine V_block ?_
              obtain ⟨e33, he33, h⟩ := of_bind h
              refine V_sreg (mb 210 4578753968024364598206091986116802) [136, 568, 344] (s1 := ⟨.bot :: .c (.sl (more2.map c5)) :: bt 4 (I y5.2 :: .ow 344 :: bt 5 (.ow 568 :: .bot :: I y15.1 :: .bot :: .pt 136 0 :: Bo y21.2 :: I t23 :: .c (.sl (e28.map c3)) :: I t29 :: I e33 :: bt 79 (.ow 344 :: I ((y6.1.length : Int)) :: I t23 :: bt 4 (.c (.sl (e28.map c3)) :: I ((e28.length : Int)) :: I t29 :: bt 98 [])))), [(136, .box [Ti y21.1.1, Ti y21.1.2.1, Ti y21.1.2.2]), (568, .arr 25 3 (y14.1.map c25)), (344, .arr 51 1 (y6.1.map c51))]⟩) ?_ ?_
              ·refine XR 1 ?_
               refine L0 rfl rfl (Y0_idxM (c := c3) (xs := e28) (v := e33) (n := t29) Tryz.underlying51 sz3 rfl (by kernel_rfl) (by kernel_rfl) he33) ?_
               exact XE
              obtain ⟨e34, he34, h⟩ := of_bind h
              obtain ⟨e35, he35, h⟩ := of_bind h
              obtain ⟨e36, he36, h⟩ := of_bind h
              refine V_sreg (mb 210 21272226686526678331059119056465338562) [136, 568, 344] (s1 := ⟨.bot :: .c (.sl (more2.map c5)) :: bt 4 (I y5.2 :: .ow 344 :: bt 5 (.ow 568 :: .bot :: I y15.1 :: .bot :: .pt 136 0 :: Bo y21.2 :: I t23 :: .c (.sl (e28.map c3)) :: bt 81 (.ow 344 :: I ((y6.1.length : Int)) :: I t23 :: bt 4 (.c (.sl (e28.map c3)) :: I ((e28.length : Int)) :: I t29 :: bt 12 (Bo (!eqI e33 e36) :: bt 85 []))))), [(136, .box [Ti y21.1.1, Ti y21.1.2.1, Ti y21.1.2.2]), (568, .arr 25 3 (y14.1.map c25)), (344, .arr 51 1 (y6.1.map c51))]⟩) ?_ ?_
              ·refine XR 3 ?_
               refine L0 rfl rfl (Y0_idxoM (c := c51) (xs := y6.1) (v := e34) (id := 344) (T := 51) (sz := 1) (n := t29) Tryz.underlying45 sz51 rfl (by kernel_rfl) (by kernel_rfl) (by kernel_rfl) he34) ?_
               refine L0 rfl rfl (Y0_loado1 (c := c51) (xs := y6.1) (v := e35) (id := 344) (sz := 1) (T := 51) (off := 0) (n := t29) (d := .sl (e35.map c3)) (ds := []) sc51 rfl (by kernel_rfl) (by kernel_rfl) he35 (by kernel_rfl)) ?_
               refine XR 1 ?_
               refine L0 rfl rfl (Y0_idxM (c := c3) (xs := e35) (v := e36) (n := t23) Tryz.underlying51 sz3 rfl (by kernel_rfl) (by kernel_rfl) he36) ?_
               exact XE
              refine V_cond rfl (fun hc37 => ?_) (fun hc37 => ?_)
              ·have h := of_true h hc37
               refine V_e (mb 210 16) [] (s1 := ⟨bt 4 (Bo false :: bt 205 []), []⟩) ?_
               refine V_ret ?_
               obtain rfl := some_inj h
               have h := hko31
               obtain rfl := some_inj h
               have h := hko25
               obtain rfl := some_inj h
               show Post _ _ _ _ _
               exact ⟨.inr rfl, rfl, rfl, rfl⟩
              ·have h := of_false h hc37
               refine V_skip ?_
               show V _ _ _ _
               obtain ⟨t38, ht38, h⟩ := of_sI h
               refine V_reg (mb 210 4578753968024364598206091979825346) [136, 568, 344] (s1 := ⟨.bot :: .c (.sl (more2.map c5)) :: bt 4 (I y5.2 :: .ow 344 :: bt 5 (.ow 568 :: .bot :: I y15.1 :: .bot :: .pt 136 0 :: Bo y21.2 :: I t23 :: .c (.sl (e28.map c3)) :: bt 81 (.ow 344 :: I ((y6.1.length : Int)) :: I t23 :: bt 4 (.c (.sl (e28.map c3)) :: I ((e28.length : Int)) :: I t38 :: bt 98 [])))), [(136, .box [Ti y21.1.1, Ti y21.1.2.1, Ti y21.1.2.2]), (568, .arr 25 3 (y14.1.map c25)), (344, .arr 51 1 (y6.1.map c51))]⟩) ?_ ?_
               ·refine XR 2 ?_
                refine XL_nil ?_
                subst ht38
                kernel_rfl
               exact ⟨n, Nat.lt_succ_self n, _,  by rfl, h⟩
             ·have h := of_false h hc32
              refine V_exit ?_
              obtain rfl := some_inj h
              exact ⟨_, rfl, by rfl⟩
           rintro o31 rfl
           have h := hko31
           clear hko31
           show V _ _ _ _
           obtain ⟨y39, hy39, h⟩ := of_bind h
           refine V_sreg (mb 210 1361129503177970660243921671634763030722) [136, 568, 344] (s1 := ⟨.bot :: .c (.sl (more2.map c5)) :: bt 4 (I y5.2 :: .ow 344 :: bt 5 (.ow 568 :: .bot :: I y15.1 :: .bot :: .pt 136 0 :: Bo y21.2 :: bt 83 (.ow 344 :: I ((y6.1.length : Int)) :: I t23 :: bt 25 (Bo (!eqI y39 (w64 (1 + y15.1))) :: bt 79 [])))), [(136, .box [Ti y21.1.1, Ti y21.1.2.1, Ti y21.1.2.2]), (568, .arr 25 3 (y14.1.map c25)), (344, .arr 51 1 (y6.1.map c51))]⟩) ?_ ?_
           ·refine XR 1 ?_
            refine XC (s_laws_qSum hy39) cf_laws_qSum rfl rfl rfl ?_
            exact XE
           refine V_cond rfl (fun hc40 => ?_) (fun hc40 => ?_)
           ·have h := of_true h hc40
            refine V_e (mb 210 16) [] (s1 := ⟨bt 4 (Bo false :: bt 205 []), []⟩) ?_
            refine V_ret ?_
            obtain rfl := some_inj h
            have h := hko25
            obtain rfl := some_inj h
            show Post _ _ _ _ _
            exact ⟨.inr rfl, rfl, rfl, rfl⟩
           ·have h := of_false h hc40
            refine V_skip ?_
            show V _ _ _ _
            obtain ⟨t41, ht41, h⟩ := of_sI h
            refine V_reg (mb 210 35494216806390423241907690184898) [136, 568, 344] (s1 := ⟨.bot :: .c (.sl (more2.map c5)) :: bt 4 (I y5.2 :: .ow 344 :: bt 5 (.ow 568 :: .bot :: I y15.1 :: .bot :: .pt 136 0 :: Bo y21.2 :: bt 83 (.ow 344 :: I ((y6.1.length : Int)) :: I t41 :: bt 105 []))), [(136, .box [Ti y21.1.1, Ti y21.1.2.1, Ti y21.1.2.2]), (568, .arr 25 3 (y14.1.map c25)), (344, .arr 51 1 (y6.1.map c51))]⟩) ?_ ?_
            ·refine XR 2 ?_
             refine XL_nil ?_
             subst ht41
             kernel_rfl
            exact ⟨n, Nat.lt_succ_self n, _,  by rfl, h⟩
          ·have h := of_false h hc26
           refine V_exit ?_
           obtain rfl := some_inj h
           exact ⟨_, rfl, by rfl⟩
        rintro o25 rfl
        have h := hko25
        clear hko25
        show V _ _ _ _
        refine V_seq ?_
        refine V_e (mb 210 10889035741470030830827987437816582938690) [136, 568] (s1 := ⟨.bot :: .c (.sl (more2.map c5)) :: bt 4 (I y5.2 :: bt 6 (.ow 568 :: .bot :: I y15.1 :: .bot :: .pt 136 0 :: bt 115 (Bo (!y21.2) :: bt 76 []))), [(136, .box [Ti y21.1.1, Ti y21.1.2.1, Ti y21.1.2.2]), (568, .arr 25 3 (y14.1.map c25))]⟩) ?_
        refine V_cond rfl (fun hc42 => ?_) (fun hc42 => ?_)
        ·have h := of_true h hc42
         refine V_e (mb 210 16) [] (s1 := ⟨bt 4 (Bo true :: bt 205 []), []⟩) ?_
         refine V_ret ?_
         obtain rfl := some_inj h
         show Post _ _ _ _ _
         exact ⟨.inr rfl, rfl, rfl, rfl⟩
        ·have h := of_false h hc42
         refine V_skip ?_
         show V _ _ _ _
         obtain ⟨y43, hy43, h⟩ := of_bind h
         obtain ⟨z44, hz44, h⟩ := of_bind h
         obtain ⟨i45, hi45, h⟩ := of_sI h
         refine V_sreg (mb 210 8560704) [136, 568] (s1 := ⟨bt 6 (I y5.2 :: bt 6 (.ow 568 :: .bot :: I y15.1 :: .bot :: .pt 136 0 :: bt 5 (I i45 :: bt 186 []))), [(136, .box [Ti y21.1.1, Ti y21.1.2.1, Ti y21.1.2.2]), (568, .arr 25 3 (y14.1.map c25))]⟩) ?_ ?_
         ·refine XR 1 ?_
          refine XC (s_laws_numberOf hy43) cf_laws_numberOf rfl rfl rfl ?_
          refine XR 1 ?_
          refine L0 rfl rfl (Y0_lenM (c := c25) (xs := y14.1) Tryz.underlying38 rfl (by kernel_rfl)) ?_
          refine L0 rfl rfl (Y0_rem (k := .i64) (a := y43) (b := (y14.1.length : Int)) rfl (by kernel_rfl) (by kernel_rfl) (nz_some hz44)) ?_
          refine XR 1 ?_
          refine XL_nil ?_
          subst hi45
          kernel_rfl
         obtain ⟨e46, he46, h⟩ := of_bind h
         obtain ⟨e47, he47, h⟩ := of_bind h
         obtain ⟨y48, hy48, h⟩ := of_bind h
         refine V_sreg (mb 210 58892288) [1160, 136, 568] (s1 := ⟨bt 13 (.ow 568 :: .bot :: I y15.1 :: .bot :: .pt 136 0 :: bt 5 (I i45 :: .ow 1160 :: Bo y48.2 :: bt 184 [])), [(1160, .arr 25 3 (y48.1.map c25)), (136, .box [Ti y21.1.1, Ti y21.1.2.1, Ti y21.1.2.2]), (568, .arr 25 3 (y14.1.map c25))]⟩) ?_ ?_
         ·refine XR 2 ?_
          refine L0 rfl rfl (Y0_idxoM (c := c25) (xs := y14.1) (v := e46) (id := 568) (T := 25) (sz := 3) (n := i45) Tryz.underlying38 sz25 rfl (by kernel_rfl) (by kernel_rfl) (by kernel_rfl) he46) ?_
          refine L0 rfl rfl (E_loadon (c := c25) (xs := y14.1) (v := e47) (id := 568) (sz := 3) (T := 25) (off := 0) (n := i45) [Ti e47.1, Ti e47.2.1, Ti e47.2.2] wd25 rfl (by kernel_rfl) (by kernel_rfl) he47 (Nat.le_of_ble_eq_true rfl) (by kernel_rfl)) ?_
          refine XR 1 ?_
          refine XC (s_impl_NeighbourClasses hy48) cf_impl_NeighbourClasses rfl rfl rfl ?_
          exact XE
         obtain ⟨e49, he49, h⟩ := of_bind h
         obtain ⟨e50, he50, h⟩ := of_bind h
         obtain ⟨y51, hy51, h⟩ := of_bind h
         refine V_sdreg [0, 0, 3, 7, 0, 31, 63, 127, 127, 0, 767, 2047] 11 [[.z, .b, .z, .z, .b, .z, .z, .z, .z, .b, .z], [.b, .z, .z, .z, .b, .z, .z, .z, .z, .b, .z], [.a, .a, .z, .z, .b, .z, .z, .z, .z, .b, .z], [.a, .a, .a, .z, .b, .z, .z, .z, .z, .b, .z], [.b, .b, .b, .b, .z, .z, .z, .z, .z, .b, .z], [.a, .a, .a, .a, .a, .z, .z, .z, .z, .b, .z], [.a, .a, .a, .a, .a, .a, .z, .z, .z, .b, .z], [.a, .a, .a, .a, .a, .a, .a, .z, .b, .b, .z], [.a, .a, .a, .a, .a, .a, .a, .b, .z, .b, .r 208], [.b, .b, .b, .b, .b, .b, .b, .b, .b, .z, .z], [.a, .a, .a, .a, .a, .a, .a, .a, .b, .a, .z]] (mb 210 260218880) [208, 1160, 136, 568] (s1 := ⟨bt 13 (.ow 568 :: .bot :: I y15.1 :: .bot :: .pt 136 0 :: bt 5 (I i45 :: .ow 1160 :: Bo y48.2 :: .pt 208 0 :: Bo y51.2 :: bt 182 [])), [(208, .box [Ti y51.1.1, Ti y51.1.2.1, Ti y51.1.2.2]), (1160, .arr 25 3 (y48.1.map c25)), (136, .box [Ti y21.1.1, Ti y21.1.2.1, Ti y21.1.2.2]), (568, .arr 25 3 (y14.1.map c25))]⟩) (by kernel_rfl) (by kernel_rfl) ?_ ?_
         ·refine DR 2 ?_
          refine DE_0 2 (.po 568 3 (Int.toNat (i45)) 0) (by kernel_rfl) rfl rfl rfl (gsat_none rfl) (by kernel_rfl) (Y0_idxoM (c := c25) (xs := y14.1) (v := e49) (id := 568) (T := 25) (sz := 3) (n := i45) Tryz.underlying38 sz25 rfl (by kernel_rfl) (by kernel_rfl) (by kernel_rfl) he49) 151 rfl ?_
          refine DE_0 3 (.ag [Ti e50.1, Ti e50.2.1, Ti e50.2.2]) (by kernel_rfl) rfl rfl rfl (gsat_none rfl) (by kernel_rfl) (E_loadon (c := c25) (xs := y14.1) (v := e50) (id := 568) (sz := 3) (T := 25) (off := 0) (n := i45) [Ti e50.1, Ti e50.2.1, Ti e50.2.2] wd25 rfl (by kernel_rfl) (by kernel_rfl) he50 (Nat.le_of_ble_eq_true rfl) (by kernel_rfl)) 152 rfl ?_
          refine DR 1 ?_
          refine DC 5 (s_impl_ComposeForms hy51) cf_impl_ComposeForms rfl rfl rfl rfl 154 rfl ?_
          refine DA 5 ?_
          exact XE
         obtain ⟨e52, he52, h⟩ := of_bind h
         obtain ⟨e53, he53, h⟩ := of_bind h
         obtain ⟨y54, hy54, h⟩ := of_bind h
         refine V_sdreg [0, 0, 3, 7, 0, 31, 63, 127, 127, 0, 767, 2047] 11 [[.z, .b, .z, .z, .b, .z, .z, .z, .z, .b, .z], [.b, .z, .z, .z, .b, .z, .z, .z, .z, .b, .z], [.a, .a, .z, .z, .b, .z, .z, .z, .z, .b, .z], [.a, .a, .a, .z, .b, .z, .z, .z, .z, .b, .z], [.b, .b, .b, .b, .z, .z, .z, .z, .z, .b, .z], [.a, .a, .a, .a, .a, .z, .z, .z, .z, .b, .z], [.a, .a, .a, .a, .a, .a, .z, .z, .z, .b, .z], [.a, .a, .a, .a, .a, .a, .a, .z, .b, .b, .z], [.a, .a, .a, .a, .a, .a, .a, .b, .z, .b, .r 224], [.b, .b, .b, .b, .b, .b, .b, .b, .b, .z, .z], [.a, .a, .a, .a, .a, .a, .a, .a, .b, .a, .z]] (mb 210 1056997376) [224, 208, 1160] (s1 := ⟨bt 15 (I y15.1 :: bt 8 (.ow 1160 :: Bo y48.2 :: .pt 208 0 :: Bo y51.2 :: .pt 224 0 :: Bo y54.2 :: bt 180 [])), [(224, .box [Ti y54.1.1, Ti y54.1.2.1, Ti y54.1.2.2]), (208, .box [Ti y51.1.1, Ti y51.1.2.1, Ti y51.1.2.2]), (1160, .arr 25 3 (y48.1.map c25))]⟩) (by kernel_rfl) (by kernel_rfl) ?_ ?_
         ·refine DR 2 ?_
          refine DE_0 2 (.po 568 3 (Int.toNat (i45)) 0) (by kernel_rfl) rfl rfl rfl (gsat_none rfl) (by kernel_rfl) (Y0_idxoM (c := c25) (xs := y14.1) (v := e52) (id := 568) (T := 25) (sz := 3) (n := i45) Tryz.underlying38 sz25 rfl (by kernel_rfl) (by kernel_rfl) (by kernel_rfl) he52) 160 rfl ?_
          refine DE_0 3 (.ag [Ti e53.1, Ti e53.2.1, Ti e53.2.2]) (by kernel_rfl) rfl rfl rfl (gsat_none rfl) (by kernel_rfl) (E_loadon (c := c25) (xs := y14.1) (v := e53) (id := 568) (sz := 3) (T := 25) (off := 0) (n := i45) [Ti e53.1, Ti e53.2.1, Ti e53.2.2] wd25 rfl (by kernel_rfl) (by kernel_rfl) he53 (Nat.le_of_ble_eq_true rfl) (by kernel_rfl)) 161 rfl ?_
          refine DR 1 ?_
          refine DC 5 (s_impl_DivideForms hy54) cf_impl_DivideForms rfl rfl rfl rfl 163 rfl ?_
          refine DA 5 ?_
          exact XE
         refine V_seq ?_
         obtain ⟨b60, hb60, h⟩ := of_bind h
         obtain ⟨b63, hb63, h⟩ := of_bind h
         refine V_sreg (mb 210 25108406941546723055343157692830665664409421777856490373120) [224, 208, 1160] (s1 := ⟨bt 24 (.ow 1160 :: .bot :: .pt 208 0 :: .bot :: .pt 224 0 :: bt 165 (Bo b63 :: bt 15 [])), [(224, .box [Ti y54.1.1, Ti y54.1.2.1, Ti y54.1.2.2]), (208, .box [Ti y51.1.1, Ti y51.1.2.1, Ti y51.1.2.2]), (1160, .arr 25 3 (y48.1.map c25))]⟩) ?_ ?_
         ·refine XR 3 ?_
          refine XL_split (!y48.2) (fun hc55 => ?_) (fun hc55 => ?_)
          ·refine XL_skipF _ rfl rfl (by kernel_rfl) hc55 rfl ?_
           refine XL_skipF _ rfl rfl (by kernel_rfl) hc55 rfl ?_
           refine XL_skipF _ rfl rfl (by kernel_rfl) hc55 rfl ?_
           refine XL_skipF _ rfl rfl (by kernel_rfl) hc55 rfl ?_
           refine XL_skipF _ rfl rfl (by kernel_rfl) hc55 rfl ?_
           refine XL_cons rfl (X_of_Y0 rfl (Y0_pick1 (b := !y48.2) (p := true) (q := !eqI ((y48.1.length : Int)) (w64 (1 + y15.1))) rfl (by kernel_rfl) hc55 (by kernel_rfl))) ?_
           refine XR 1 ?_
           refine XL_split (bif (!y48.2) then true else (!eqI ((y48.1.length : Int)) (w64 (1 + y15.1)))) (fun hc56 => ?_) (fun hc56 => ?_)
           ·refine XL_skipF _ rfl rfl (by kernel_rfl) hc56 rfl ?_
            refine XL_skipF _ rfl rfl (by kernel_rfl) hc56 rfl ?_
            refine XL_cons rfl (X_of_Y0 rfl (Y0_pick1 (b := bif (!y48.2) then true else (!eqI ((y48.1.length : Int)) (w64 (1 + y15.1)))) (p := true) (q := !y51.2) rfl (by kernel_rfl) hc56 (by kernel_rfl))) ?_
            refine XR 1 ?_
            refine XL_split (bif (bif (!y48.2) then true else (!eqI ((y48.1.length : Int)) (w64 (1 + y15.1)))) then true else (!y51.2)) (fun hc57 => ?_) (fun hc57 => ?_)
            ·refine XL_skipF _ rfl rfl (by kernel_rfl) hc57 rfl ?_
             refine XL_skipF _ rfl rfl (by kernel_rfl) hc57 rfl ?_
             refine XL_cons rfl (X_of_Y0 rfl (Y0_pick1 (b := bif (bif (!y48.2) then true else (!eqI ((y48.1.length : Int)) (w64 (1 + y15.1)))) then true else (!y51.2)) (p := true) (q := !y54.2) rfl (by kernel_rfl) hc57 (by kernel_rfl))) ?_
             refine XR 1 ?_
             refine XL_split (bif (bif (bif (!y48.2) then true else (!eqI ((y48.1.length : Int)) (w64 (1 + y15.1)))) then true else (!y51.2)) then true else (!y54.2)) (fun hc58 => ?_) (fun hc58 => ?_)
             ·have hb60 := some_inj (of_true hb60 hc58)
              refine XL_skipF _ rfl rfl (by kernel_rfl) hc58 rfl ?_
              refine XL_skipF _ rfl rfl (by kernel_rfl) hc58 rfl ?_
              refine XL_skipF _ rfl rfl (by kernel_rfl) hc58 rfl ?_
              refine XL_skipF _ rfl rfl (by kernel_rfl) hc58 rfl ?_
              refine XL_cons rfl (X_of_Y0 rfl (Y0_pickTe (b := bif (bif (bif (!y48.2) then true else (!eqI ((y48.1.length : Int)) (w64 (1 + y15.1)))) then true else (!y51.2)) then true else (!y54.2)) (p := true) rfl (by kernel_rfl) hc58 (by kernel_rfl) hb60)) ?_
              refine XR 1 ?_
              refine XL_split b60 (fun hc61 => ?_) (fun hc61 => ?_)
              ·have hb63 := some_inj (of_true hb63 hc61)
               refine XL_skipF _ rfl rfl (by kernel_rfl) hc61 rfl ?_
               refine XL_skipF _ rfl rfl (by kernel_rfl) hc61 rfl ?_
               refine XL_skipF _ rfl rfl (by kernel_rfl) hc61 rfl ?_
               refine XL_skipF _ rfl rfl (by kernel_rfl) hc61 rfl ?_
               refine XL_cons rfl (X_of_Y0 rfl (Y0_pickTe (b := b60) (p := true) rfl (by kernel_rfl) hc61 (by kernel_rfl) hb63)) ?_
               exact XE
              ·have hb63 := of_false hb63 hc61
               obtain ⟨y62, hy62, hb63⟩ := of_bind hb63
               have hb63 := some_inj hb63
               refine XL_takeC _ rfl rfl (by kernel_rfl) hc61 (X_of_Y0 rfl (E_move (.ow 1160) rfl (by kernel_rfl))) ?_
               refine XL_takeC _ rfl rfl (by kernel_rfl) hc61 (X_of_Y0 rfl (E_loadn (cs := [Ti y54.1.1, Ti y54.1.2.1, Ti y54.1.2.2]) [Ti y54.1.1, Ti y54.1.2.1, Ti y54.1.2.2] wd25 rfl (by kernel_rfl) (Nat.le_of_ble_eq_true rfl) (by kernel_rfl))) ?_
               refine XL_takeC _ rfl rfl (by kernel_rfl) hc61 (X_of_Y1 rfl (Y1_callS (s_laws_qHas hy62) cf_laws_qHas rfl (by kernel_rfl) rfl rfl)) ?_
               refine XL_takeC _ rfl rfl (by kernel_rfl) hc61 (X_of_Y0 rfl (Y0_not (b := y62) rfl (by kernel_rfl))) ?_
               refine XL_cons rfl (X_of_Y0 rfl (Y0_pickFe (b := b60) (p := !y62) rfl (by kernel_rfl) hc61 (by kernel_rfl) hb63)) ?_
               exact XE
             ·have hb60 := of_false hb60 hc58
              obtain ⟨y59, hy59, hb60⟩ := of_bind hb60
              have hb60 := some_inj hb60
              refine XL_takeC _ rfl rfl (by kernel_rfl) hc58 (X_of_Y0 rfl (E_move (.ow 1160) rfl (by kernel_rfl))) ?_
              refine XL_takeC _ rfl rfl (by kernel_rfl) hc58 (X_of_Y0 rfl (E_loadn (cs := [Ti y51.1.1, Ti y51.1.2.1, Ti y51.1.2.2]) [Ti y51.1.1, Ti y51.1.2.1, Ti y51.1.2.2] wd25 rfl (by kernel_rfl) (Nat.le_of_ble_eq_true rfl) (by kernel_rfl))) ?_
              refine XL_takeC _ rfl rfl (by kernel_rfl) hc58 (X_of_Y1 rfl (Y1_callS (s_laws_qHas hy59) cf_laws_qHas rfl (by kernel_rfl) rfl rfl)) ?_
              refine XL_takeC _ rfl rfl (by kernel_rfl) hc58 (X_of_Y0 rfl (Y0_not (b := y59) rfl (by kernel_rfl))) ?_
              refine XL_cons rfl (X_of_Y0 rfl (Y0_pickFe (b := bif (bif (bif (!y48.2) then true else (!eqI ((y48.1.length : Int)) (w64 (1 + y15.1)))) then true else (!y51.2)) then true else (!y54.2)) (p := !y59) rfl (by kernel_rfl) hc58 (by kernel_rfl) hb60)) ?_
              refine XR 1 ?_
              refine XL_split b60 (fun hc61 => ?_) (fun hc61 => ?_)
              ·have hb63 := some_inj (of_true hb63 hc61)
               refine XL_skipF _ rfl rfl (by kernel_rfl) hc61 rfl ?_
               refine XL_skipF _ rfl rfl (by kernel_rfl) hc61 rfl ?_
               refine XL_skipF _ rfl rfl (by kernel_rfl) hc61 rfl ?_
               refine XL_skipF _ rfl rfl (by kernel_rfl) hc61 rfl ?_
               refine XL_cons rfl (X_of_Y0 rfl (Y0_pickTe (b := b60) (p := true) rfl (by kernel_rfl) hc61 (by kernel_rfl) hb63)) ?_
               exact XE
              ·have hb63 := of_false hb63 hc61
               obtain ⟨y62, hy62, hb63⟩ := of_bind hb63
               have hb63 := some_inj hb63
               refine XL_takeC _ rfl rfl (by kernel_rfl) hc61 (X_of_Y0 rfl (E_move (.ow 1160) rfl (by kernel_rfl))) ?_
               refine XL_takeC _ rfl rfl (by kernel_rfl) hc61 (X_of_Y0 rfl (E_loadn (cs := [Ti y54.1.1, Ti y54.1.2.1, Ti y54.1.2.2]) [Ti y54.1.1, Ti y54.1.2.1, Ti y54.1.2.2] wd25 rfl (by kernel_rfl) (Nat.le_of_ble_eq_true rfl) (by kernel_rfl))) ?_
               refine XL_takeC _ rfl rfl (by kernel_rfl) hc61 (X_of_Y1 rfl (Y1_callS (s_laws_qHas hy62) cf_laws_qHas rfl (by kernel_rfl) rfl rfl)) ?_
               refine XL_takeC _ rfl rfl (by kernel_rfl) hc61 (X_of_Y0 rfl (Y0_not (b := y62) rfl (by kernel_rfl))) ?_
               refine XL_cons rfl (X_of_Y0 rfl (Y0_pickFe (b := b60) (p := !y62) rfl (by kernel_rfl) hc61 (by kernel_rfl) hb63)) ?_
               exact XE
            ·refine XL_takeC _ rfl rfl (by kernel_rfl) hc57 (X_of_Y0 rfl (E_move (Bo y54.2) rfl (by kernel_rfl))) ?_
             refine XL_takeC _ rfl rfl (by kernel_rfl) hc57 (X_of_Y0 rfl (Y0_not (b := y54.2) rfl (by kernel_rfl))) ?_
             refine XL_cons rfl (X_of_Y0 rfl (Y0_pick0 (b := bif (bif (!y48.2) then true else (!eqI ((y48.1.length : Int)) (w64 (1 + y15.1)))) then true else (!y51.2)) (p := true) (q := !y54.2) rfl (by kernel_rfl) hc57 (by kernel_rfl))) ?_
             refine XR 1 ?_
             refine XL_split (bif (bif (bif (!y48.2) then true else (!eqI ((y48.1.length : Int)) (w64 (1 + y15.1)))) then true else (!y51.2)) then true else (!y54.2)) (fun hc58 => ?_) (fun hc58 => ?_)
             ·have hb60 := some_inj (of_true hb60 hc58)
              refine XL_skipF _ rfl rfl (by kernel_rfl) hc58 rfl ?_
              refine XL_skipF _ rfl rfl (by kernel_rfl) hc58 rfl ?_
              refine XL_skipF _ rfl rfl (by kernel_rfl) hc58 rfl ?_
              refine XL_skipF _ rfl rfl (by kernel_rfl) hc58 rfl ?_
              refine XL_cons rfl (X_of_Y0 rfl (Y0_pickTe (b := bif (bif (bif (!y48.2) then true else (!eqI ((y48.1.length : Int)) (w64 (1 + y15.1)))) then true else (!y51.2)) then true else (!y54.2)) (p := true) rfl (by kernel_rfl) hc58 (by kernel_rfl) hb60)) ?_
              refine XR 1 ?_
              refine XL_split b60 (fun hc61 => ?_) (fun hc61 => ?_)
              ·have hb63 := some_inj (of_true hb63 hc61)
               refine XL_skipF _ rfl rfl (by kernel_rfl) hc61 rfl ?_
               refine XL_skipF _ rfl rfl (by kernel_rfl) hc61 rfl ?_
               refine XL_skipF _ rfl rfl (by kernel_rfl) hc61 rfl ?_
               refine XL_skipF _ rfl rfl (by kernel_rfl) hc61 rfl ?_
               refine XL_cons rfl (X_of_Y0 rfl (Y0_pickTe (b := b60) (p := true) rfl (by kernel_rfl) hc61 (by kernel_rfl) hb63)) ?_
               exact XE
              ·have hb63 := of_false hb63 hc61
               obtain ⟨y62, hy62, hb63⟩ := of_bind hb63
               have hb63 := some_inj hb63
               refine XL_takeC _ rfl rfl (by kernel_rfl) hc61 (X_of_Y0 rfl (E_move (.ow 1160) rfl (by kernel_rfl))) ?_
               refine XL_takeC _ rfl rfl (by kernel_rfl) hc61 (X_of_Y0 rfl (E_loadn (cs := [Ti y54.1.1, Ti y54.1.2.1, Ti y54.1.2.2]) [Ti y54.1.1, Ti y54.1.2.1, Ti y54.1.2.2] wd25 rfl (by kernel_rfl) (Nat.le_of_ble_eq_true rfl) (by kernel_rfl))) ?_
               refine XL_takeC _ rfl rfl (by kernel_rfl) hc61 (X_of_Y1 rfl (Y1_callS (s_laws_qHas hy62) cf_laws_qHas rfl (by kernel_rfl) rfl rfl)) ?_
               refine XL_takeC _ rfl rfl (by kernel_rfl) hc61 (X_of_Y0 rfl (Y0_not (b := y62) rfl (by kernel_rfl))) ?_
               refine XL_cons rfl (X_of_Y0 rfl (Y0_pickFe (b := b60) (p := !y62) rfl (by kernel_rfl) hc61 (by kernel_rfl) hb63)) ?_
               exact XE
             ·have hb60 := of_false hb60 hc58
              obtain ⟨y59, hy59, hb60⟩ := of_bind hb60
              have hb60 := some_inj hb60
              refine XL_takeC _ rfl rfl (by kernel_rfl) hc58 (X_of_Y0 rfl (E_move (.ow 1160) rfl (by kernel_rfl))) ?_
              refine XL_takeC _ rfl rfl (by kernel_rfl) hc58 (X_of_Y0 rfl (E_loadn (cs := [Ti y51.1.1, Ti y51.1.2.1, Ti y51.1.2.2]) [Ti y51.1.1, Ti y51.1.2.1, Ti y51.1.2.2] wd25 rfl (by kernel_rfl) (Nat.le_of_ble_eq_true rfl) (by kernel_rfl))) ?_
              refine XL_takeC _ rfl rfl (by kernel_rfl) hc58 (X_of_Y1 rfl (Y1_callS (s_laws_qHas hy59) cf_laws_qHas rfl (by kernel_rfl) rfl rfl)) ?_
              refine XL_takeC _ rfl rfl (by kernel_rfl) hc58 (X_of_Y0 rfl (Y0_not (b := y59) rfl (by kernel_rfl))) ?_
              refine XL_cons rfl (X_of_Y0 rfl (Y0_pickFe (b := bif (bif (bif (!y48.2) then true else (!eqI ((y48.1.length : Int)) (w64 (1 + y15.1)))) then true else (!y51.2)) then true else (!y54.2)) (p := !y59) rfl (by kernel_rfl) hc58 (by kernel_rfl) hb60)) ?_
              refine XR 1 ?_
              refine XL_split b60 (fun hc61 => ?_) (fun hc61 => ?_)
              ·have hb63 := some_inj (of_true hb63 hc61)
               refine XL_skipF _ rfl rfl (by kernel_rfl) hc61 rfl ?_
               refine XL_skipF _ rfl rfl (by kernel_rfl) hc61 rfl ?_
               refine XL_skipF _ rfl rfl (by kernel_rfl) hc61 rfl ?_
               refine XL_skipF _ rfl rfl (by kernel_rfl) hc61 rfl ?_
               refine XL_cons rfl (X_of_Y0 rfl (Y0_pickTe (b := b60) (p := true) rfl (by kernel_rfl) hc61 (by kernel_rfl) hb63)) ?_
               exact XE
              ·have hb63 := of_false hb63 hc61
               obtain ⟨y62, hy62, hb63⟩ := of_bind hb63
               have hb63 := some_inj hb63
               refine XL_takeC _ rfl rfl (by kernel_rfl) hc61 (X_of_Y0 rfl (E_move (.ow 1160) rfl (by kernel_rfl))) ?_
               refine XL_takeC _ rfl rfl (by kernel_rfl) hc61 (X_of_Y0 rfl (E_loadn (cs := [Ti y54.1.1, Ti y54.1.2.1, Ti y54.1.2.2]) [Ti y54.1.1, Ti y54.1.2.1, Ti y54.1.2.2] wd25 rfl (by kernel_rfl) (Nat.le_of_ble_eq_true rfl) (by kernel_rfl))) ?_
               refine XL_takeC _ rfl rfl (by kernel_rfl) hc61 (X_of_Y1 rfl (Y1_callS (s_laws_qHas hy62) cf_laws_qHas rfl (by kernel_rfl) rfl rfl)) ?_
               refine XL_takeC _ rfl rfl (by kernel_rfl) hc61 (X_of_Y0 rfl (Y0_not (b := y62) rfl (by kernel_rfl))) ?_
               refine XL_cons rfl (X_of_Y0 rfl (Y0_pickFe (b := b60) (p := !y62) rfl (by kernel_rfl) hc61 (by kernel_rfl) hb63)) ?_
               exact XE
           ·refine XL_takeC _ rfl rfl (by kernel_rfl) hc56 (X_of_Y0 rfl (E_move (Bo y51.2) rfl (by kernel_rfl))) ?_
            refine XL_takeC _ rfl rfl (by kernel_rfl) hc56 (X_of_Y0 rfl (Y0_not (b := y51.2) rfl (by kernel_rfl))) ?_
            refine XL_cons rfl (X_of_Y0 rfl (Y0_pick0 (b := bif (!y48.2) then true else (!eqI ((y48.1.length : Int)) (w64 (1 + y15.1)))) (p := true) (q := !y51.2) rfl (by kernel_rfl) hc56 (by kernel_rfl))) ?_
            refine XR 1 ?_
            refine XL_split (bif (bif (!y48.2) then true else (!eqI ((y48.1.length : Int)) (w64 (1 + y15.1)))) then true else (!y51.2)) (fun hc57 => ?_) (fun hc57 => ?_)
            ·refine XL_skipF _ rfl rfl (by kernel_rfl) hc57 rfl ?_
             refine XL_skipF _ rfl rfl (by kernel_rfl) hc57 rfl ?_
             refine XL_cons rfl (X_of_Y0 rfl (Y0_pick1 (b := bif (bif (!y48.2) then true else (!eqI ((y48.1.length : Int)) (w64 (1 + y15.1)))) then true else (!y51.2)) (p := true) (q := !y54.2) rfl (by kernel_rfl) hc57 (by kernel_rfl))) ?_
             refine XR 1 ?_
             refine XL_split (bif (bif (bif (!y48.2) then true else (!eqI ((y48.1.length : Int)) (w64 (1 + y15.1)))) then true else (!y51.2)) then true else (!y54.2)) (fun hc58 => ?_) (fun hc58 => ?_)
             ·have hb60 := some_inj (of_true hb60 hc58)
              refine XL_skipF _ rfl rfl (by kernel_rfl) hc58 rfl ?_
              refine XL_skipF _ rfl rfl (by kernel_rfl) hc58 rfl ?_
              refine XL_skipF _ rfl rfl (by kernel_rfl) hc58 rfl ?_
              refine XL_skipF _ rfl rfl (by kernel_rfl) hc58 rfl ?_
              refine XL_cons rfl (X_of_Y0 rfl (Y0_pickTe (b := bif (bif (bif (!y48.2) then true else (!eqI ((y48.1.length : Int)) (w64 (1 + y15.1)))) then true else (!y51.2)) then true else (!y54.2)) (p := true) rfl (by kernel_rfl) hc58 (by kernel_rfl) hb60)) ?_
              refine XR 1 ?_
              refine XL_split b60 (fun hc61 => ?_) (fun hc61 => ?_)
              ·have hb63 := some_inj (of_true hb63 hc61)
               refine XL_skipF _ rfl rfl (by kernel_rfl) hc61 rfl ?_
               refine XL_skipF _ rfl rfl (by kernel_rfl) hc61 rfl ?_
               refine XL_skipF _ rfl rfl (by kernel_rfl) hc61 rfl ?_
               refine XL_skipF _ rfl rfl (by kernel_rfl) hc61 rfl ?_
               refine XL_cons rfl (X_of_Y0 rfl (Y0_pickTe (b := b60) (p := true) rfl (by kernel_rfl) hc61 (by kernel_rfl) hb63)) ?_
               exact XE
              ·have hb63 := of_false hb63 hc61
               obtain ⟨y62, hy62, hb63⟩ := of_bind hb63
               have hb63 := some_inj hb63
               refine XL_takeC _ rfl rfl (by kernel_rfl) hc61 (X_of_Y0 rfl (E_move (.ow 1160) rfl (by kernel_rfl))) ?_
               refine XL_takeC _ rfl rfl (by kernel_rfl) hc61 (X_of_Y0 rfl (E_loadn (cs := [Ti y54.1.1, Ti y54.1.2.1, Ti y54.1.2.2]) [Ti y54.1.1, Ti y54.1.2.1, Ti y54.1.2.2] wd25 rfl (by kernel_rfl) (Nat.le_of_ble_eq_true rfl) (by kernel_rfl))) ?_
               refine XL_takeC _ rfl rfl (by kernel_rfl) hc61 (X_of_Y1 rfl (Y1_callS (s_laws_qHas hy62) cf_laws_qHas rfl (by kernel_rfl) rfl rfl)) ?_
               refine XL_takeC _ rfl rfl (by kernel_rfl) hc61 (X_of_Y0 rfl (Y0_not (b := y62) rfl (by kernel_rfl))) ?_
               refine XL_cons rfl (X_of_Y0 rfl (Y0_pickFe (b := b60) (p := !y62) rfl (by kernel_rfl) hc61 (by kernel_rfl) hb63)) ?_
               exact XE
             ·have hb60 := of_false hb60 hc58
              obtain ⟨y59, hy59, hb60⟩ := of_bind hb60
              have hb60 := some_inj hb60
              refine XL_takeC _ rfl rfl (by kernel_rfl) hc58 (X_of_Y0 rfl (E_move (.ow 1160) rfl (by kernel_rfl))) ?_
              refine XL_takeC _ rfl rfl (by kernel_rfl) hc58 (X_of_Y0 rfl (E_loadn (cs := [Ti y51.1.1, Ti y51.1.2.1, Ti y51.1.2.2]) [Ti y51.1.1, Ti y51.1.2.1, Ti y51.1.2.2] wd25 rfl (by kernel_rfl) (Nat.le_of_ble_eq_true rfl) (by kernel_rfl))) ?_
              refine XL_takeC _ rfl rfl (by kernel_rfl) hc58 (X_of_Y1 rfl (Y1_callS (s_laws_qHas hy59) cf_laws_qHas rfl (by kernel_rfl) rfl rfl)) ?_
              refine XL_takeC _ rfl rfl (by kernel_rfl) hc58 (X_of_Y0 rfl (Y0_not (b := y59) rfl (by kernel_rfl))) ?_
              refine XL_cons rfl (X_of_Y0 rfl (Y0_pickFe (b := bif (bif (bif (!y48.2) then true else (!eqI ((y48.1.length : Int)) (w64 (1 + y15.1)))) then true else (!y51.2)) then true else (!y54.2)) (p := !y59) rfl (by kernel_rfl) hc58 (by kernel_rfl) hb60)) ?_
              refine XR 1 ?_
              refine XL_split b60 (fun hc61 => ?_) (fun hc61 => ?_)
              ·have hb63 := some_inj (of_true hb63 hc61)
               refine XL_skipF _ rfl rfl (by kernel_rfl) hc61 rfl ?_
               refine XL_skipF _ rfl rfl (by kernel_rfl) hc61 rfl ?_
               refine XL_skipF _ rfl rfl (by kernel_rfl) hc61 rfl ?_
               refine XL_skipF _ rfl rfl (by kernel_rfl) hc61 rfl ?_
               refine XL_cons rfl (X_of_Y0 rfl (Y0_pickTe (b := b60) (p := true) rfl (by kernel_rfl) hc61 (by kernel_rfl) hb63)) ?_
               exact XE
              ·have hb63 := of_false hb63 hc61
               obtain ⟨y62, hy62, hb63⟩ := of_bind hb63
               have hb63 := some_inj hb63
               refine XL_takeC _ rfl rfl (by kernel_rfl) hc61 (X_of_Y0 rfl (E_move (.ow 1160) rfl (by kernel_rfl))) ?_
               refine XL_takeC _ rfl rfl (by kernel_rfl) hc61 (X_of_Y0 rfl (E_loadn (cs := [Ti y54.1.1, Ti y54.1.2.1, Ti y54.1.2.2]) [Ti y54.1.1, Ti y54.1.2.1, Ti y54.1.2.2] wd25 rfl (by kernel_rfl) (Nat.le_of_ble_eq_true rfl) (by kernel_rfl))) ?_
               refine XL_takeC _ rfl rfl (by kernel_rfl) hc61 (X_of_Y1 rfl (Y1_callS (s_laws_qHas hy62) cf_laws_qHas rfl (by kernel_rfl) rfl rfl)) ?_
               refine XL_takeC _ rfl rfl (by kernel_rfl) hc61 (X_of_Y0 rfl (Y0_not (b := y62) rfl (by kernel_rfl))) ?_
               refine XL_cons rfl (X_of_Y0 rfl (Y0_pickFe (b := b60) (p := !y62) rfl (by kernel_rfl) hc61 (by kernel_rfl) hb63)) ?_
               exact XE
            ·refine XL_takeC _ rfl rfl (by kernel_rfl) hc57 (X_of_Y0 rfl (E_move (Bo y54.2) rfl (by kernel_rfl))) ?_
             refine XL_takeC _ rfl rfl (by kernel_rfl) hc57 (X_of_Y0 rfl (Y0_not (b := y54.2) rfl (by kernel_rfl))) ?_
             refine XL_cons rfl (X_of_Y0 rfl (Y0_pick0 (b := bif (bif (!y48.2) then true else (!eqI ((y48.1.length : Int)) (w64 (1 + y15.1)))) then true else (!y51.2)) (p := true) (q := !y54.2) rfl (by kernel_rfl) hc57 (by kernel_rfl))) ?_
             refine XR 1 ?_
             refine XL_split (bif (bif (bif (!y48.2) then true else (!eqI ((y48.1.length : Int)) (w64 (1 + y15.1)))) then true else (!y51.2)) then true else (!y54.2)) (fun hc58 => ?_) (fun hc58 => ?_)
             ·have hb60 := some_inj (of_true hb60 hc58)
              refine XL_skipF _ rfl rfl (by kernel_rfl) hc58 rfl ?_
              refine XL_skipF _ rfl rfl (by kernel_rfl) hc58 rfl ?_
              refine XL_skipF _ rfl rfl (by kernel_rfl) hc58 rfl ?_
              refine XL_skipF _ rfl rfl (by kernel_rfl) hc58 rfl ?_
              refine XL_cons rfl (X_of_Y0 rfl (Y0_pickTe (b := bif (bif (bif (!y48.2) then true else (!eqI ((y48.1.length : Int)) (w64 (1 + y15.1)))) then true else (!y51.2)) then true else (!y54.2)) (p := true) rfl (by kernel_rfl) hc58 (by kernel_rfl) hb60)) ?_
              refine XR 1 ?_
              refine XL_split b60 (fun hc61 => ?_) (fun hc61 => ?_)
              ·have hb63 := some_inj (of_true hb63 hc61)
               refine XL_skipF _ rfl rfl (by kernel_rfl) hc61 rfl ?_
               refine XL_skipF _ rfl rfl (by kernel_rfl) hc61 rfl ?_
               refine XL_skipF _ rfl rfl (by kernel_rfl) hc61 rfl ?_
               refine XL_skipF _ rfl rfl (by kernel_rfl) hc61 rfl ?_
               refine XL_cons rfl (X_of_Y0 rfl (Y0_pickTe (b := b60) (p := true) rfl (by kernel_rfl) hc61 (by kernel_rfl) hb63)) ?_
               exact XE
              ·have hb63 := of_false hb63 hc61
               obtain ⟨y62, hy62, hb63⟩ := of_bind hb63
               have hb63 := some_inj hb63
               refine XL_takeC _ rfl rfl (by kernel_rfl) hc61 (X_of_Y0 rfl (E_move (.ow 1160) rfl (by kernel_rfl))) ?_
               refine XL_takeC _ rfl rfl (by kernel_rfl) hc61 (X_of_Y0 rfl (E_loadn (cs := [Ti y54.1.1, Ti y54.1.2.1, Ti y54.1.2.2]) [Ti y54.1.1, Ti y54.1.2.1, Ti y54.1.2.2] wd25 rfl (by kernel_rfl) (Nat.le_of_ble_eq_true rfl) (by kernel_rfl))) ?_
               refine XL_takeC _ rfl rfl (by kernel_rfl) hc61 (X_of_Y1 rfl (Y1_callS (s_laws_qHas hy62) cf_laws_qHas rfl (by kernel_rfl) rfl rfl)) ?_
               refine XL_takeC _ rfl rfl (by kernel_rfl) hc61 (X_of_Y0 rfl (Y0_not (b := y62) rfl (by kernel_rfl))) ?_
               refine XL_cons rfl (X_of_Y0 rfl (Y0_pickFe (b := b60) (p := !y62) rfl (by kernel_rfl) hc61 (by kernel_rfl) hb63)) ?_
               exact XE
             ·have hb60 := of_false hb60 hc58
              obtain ⟨y59, hy59, hb60⟩ := of_bind hb60
              have hb60 := some_inj hb60
              refine XL_takeC _ rfl rfl (by kernel_rfl) hc58 (X_of_Y0 rfl (E_move (.ow 1160) rfl (by kernel_rfl))) ?_
              refine XL_takeC _ rfl rfl (by kernel_rfl) hc58 (X_of_Y0 rfl (E_loadn (cs := [Ti y51.1.1, Ti y51.1.2.1, Ti y51.1.2.2]) [Ti y51.1.1, Ti y51.1.2.1, Ti y51.1.2.2] wd25 rfl (by kernel_rfl) (Nat.le_of_ble_eq_true rfl) (by kernel_rfl))) ?_
              refine XL_takeC _ rfl rfl (by kernel_rfl) hc58 (X_of_Y1 rfl (Y1_callS (s_laws_qHas hy59) cf_laws_qHas rfl (by kernel_rfl) rfl rfl)) ?_
              refine XL_takeC _ rfl rfl (by kernel_rfl) hc58 (X_of_Y0 rfl (Y0_not (b := y59) rfl (by kernel_rfl))) ?_
              refine XL_cons rfl (X_of_Y0 rfl (Y0_pickFe (b := bif (bif (bif (!y48.2) then true else (!eqI ((y48.1.length : Int)) (w64 (1 + y15.1)))) then true else (!y51.2)) then true else (!y54.2)) (p := !y59) rfl (by kernel_rfl) hc58 (by kernel_rfl) hb60)) ?_
              refine XR 1 ?_
              refine XL_split b60 (fun hc61 => ?_) (fun hc61 => ?_)
              ·have hb63 := some_inj (of_true hb63 hc61)
               refine XL_skipF _ rfl rfl (by kernel_rfl) hc61 rfl ?_
               refine XL_skipF _ rfl rfl (by kernel_rfl) hc61 rfl ?_
               refine XL_skipF _ rfl rfl (by kernel_rfl) hc61 rfl ?_
               refine XL_skipF _ rfl rfl (by kernel_rfl) hc61 rfl ?_
               refine XL_cons rfl (X_of_Y0 rfl (Y0_pickTe (b := b60) (p := true) rfl (by kernel_rfl) hc61 (by kernel_rfl) hb63)) ?_
               exact XE
              ·have hb63 := of_false hb63 hc61
               obtain ⟨y62, hy62, hb63⟩ := of_bind hb63
               have hb63 := some_inj hb63
               refine XL_takeC _ rfl rfl (by kernel_rfl) hc61 (X_of_Y0 rfl (E_move (.ow 1160) rfl (by kernel_rfl))) ?_
               refine XL_takeC _ rfl rfl (by kernel_rfl) hc61 (X_of_Y0 rfl (E_loadn (cs := [Ti y54.1.1, Ti y54.1.2.1, Ti y54.1.2.2]) [Ti y54.1.1, Ti y54.1.2.1, Ti y54.1.2.2] wd25 rfl (by kernel_rfl) (Nat.le_of_ble_eq_true rfl) (by kernel_rfl))) ?_
               refine XL_takeC _ rfl rfl (by kernel_rfl) hc61 (X_of_Y1 rfl (Y1_callS (s_laws_qHas hy62) cf_laws_qHas rfl (by kernel_rfl) rfl rfl)) ?_
               refine XL_takeC _ rfl rfl (by kernel_rfl) hc61 (X_of_Y0 rfl (Y0_not (b := y62) rfl (by kernel_rfl))) ?_
               refine XL_cons rfl (X_of_Y0 rfl (Y0_pickFe (b := b60) (p := !y62) rfl (by kernel_rfl) hc61 (by kernel_rfl) hb63)) ?_
               exact XE
          ·refine XL_takeC _ rfl rfl (by kernel_rfl) hc55 (X_of_Y0 rfl (E_move (.ow 1160) rfl (by kernel_rfl))) ?_
           refine XL_takeC _ rfl rfl (by kernel_rfl) hc55 (X_of_Y0 rfl (Y0_lenM (c := c25) (xs := y48.1) Tryz.underlying38 rfl (by kernel_rfl))) ?_
           refine XL_takeC _ rfl rfl (by kernel_rfl) hc55 (X_of_Y0 rfl (E_move (I y15.1) rfl (by kernel_rfl))) ?_
           refine XL_takeC _ rfl rfl (by kernel_rfl) hc55 (X_of_Y0 rfl (Y0_add64 (a := 1) (b := y15.1) rfl (by kernel_rfl) (by kernel_rfl))) ?_
           refine XL_takeC _ rfl rfl (by kernel_rfl) hc55 (X_of_Y0 rfl (Y0_new (k := .i64) (a := (y48.1.length : Int)) (b := w64 (1 + y15.1)) rfl (by kernel_rfl) (by kernel_rfl))) ?_
           refine XL_cons rfl (X_of_Y0 rfl (Y0_pick0 (b := !y48.2) (p := true) (q := !eqI ((y48.1.length : Int)) (w64 (1 + y15.1))) rfl (by kernel_rfl) hc55 (by kernel_rfl))) ?_
           refine XR 1 ?_
           refine XL_split (bif (!y48.2) then true else (!eqI ((y48.1.length : Int)) (w64 (1 + y15.1)))) (fun hc56 => ?_) (fun hc56 => ?_)
           ·refine XL_skipF _ rfl rfl (by kernel_rfl) hc56 rfl ?_
            refine XL_skipF _ rfl rfl (by kernel_rfl) hc56 rfl ?_
            refine XL_cons rfl (X_of_Y0 rfl (Y0_pick1 (b := bif (!y48.2) then true else (!eqI ((y48.1.length : Int)) (w64 (1 + y15.1)))) (p := true) (q := !y51.2) rfl (by kernel_rfl) hc56 (by kernel_rfl))) ?_
            refine XR 1 ?_
            refine XL_split (bif (bif (!y48.2) then true else (!eqI ((y48.1.length : Int)) (w64 (1 + y15.1)))) then true else (!y51.2)) (fun hc57 => ?_) (fun hc57 => ?_)
            ·refine XL_skipF _ rfl rfl (by kernel_rfl) hc57 rfl ?_
             refine XL_skipF _ rfl rfl (by kernel_rfl) hc57 rfl ?_
             refine XL_cons rfl (X_of_Y0 rfl (Y0_pick1 (b := bif (bif (!y48.2) then true else (!eqI ((y48.1.length : Int)) (w64 (1 + y15.1)))) then true else (!y51.2)) (p := true) (q := !y54.2) rfl (by kernel_rfl) hc57 (by kernel_rfl))) ?_
             refine XR 1 ?_
             refine XL_split (bif (bif (bif (!y48.2) then true else (!eqI ((y48.1.length : Int)) (w64 (1 + y15.1)))) then true else (!y51.2)) then true else (!y54.2)) (fun hc58 => ?_) (fun hc58 => ?_)
             ·have hb60 := some_inj (of_true hb60 hc58)
              refine XL_skipF _ rfl rfl (by kernel_rfl) hc58 rfl ?_
              refine XL_skipF _ rfl rfl (by kernel_rfl) hc58 rfl ?_
              refine XL_skipF _ rfl rfl (by kernel_rfl) hc58 rfl ?_
              refine XL_skipF _ rfl rfl (by kernel_rfl) hc58 rfl ?_
              refine XL_cons rfl (X_of_Y0 rfl (Y0_pickTe (b := bif (bif (bif (!y48.2) then true else (!eqI ((y48.1.length : Int)) (w64 (1 + y15.1)))) then true else (!y51.2)) then true else (!y54.2)) (p := true) rfl (by kernel_rfl) hc58 (by kernel_rfl) hb60)) ?_
              refine XR 1 ?_
              refine XL_split b60 (fun hc61 => ?_) (fun hc61 => ?_)
              ·have hb63 := some_inj (of_true hb63 hc61)
               refine XL_skipF _ rfl rfl (by kernel_rfl) hc61 rfl ?_
               refine XL_skipF _ rfl rfl (by kernel_rfl) hc61 rfl ?_
               refine XL_skipF _ rfl rfl (by kernel_rfl) hc61 rfl ?_
               refine XL_skipF _ rfl rfl (by kernel_rfl) hc61 rfl ?_
               refine XL_cons rfl (X_of_Y0 rfl (Y0_pickTe (b := b60) (p := true) rfl (by kernel_rfl) hc61 (by kernel_rfl) hb63)) ?_
               exact XE
              ·have hb63 := of_false hb63 hc61
               obtain ⟨y62, hy62, hb63⟩ := of_bind hb63
               have hb63 := some_inj hb63
               refine XL_takeC _ rfl rfl (by kernel_rfl) hc61 (X_of_Y0 rfl (E_move (.ow 1160) rfl (by kernel_rfl))) ?_
               refine XL_takeC _ rfl rfl (by kernel_rfl) hc61 (X_of_Y0 rfl (E_loadn (cs := [Ti y54.1.1, Ti y54.1.2.1, Ti y54.1.2.2]) [Ti y54.1.1, Ti y54.1.2.1, Ti y54.1.2.2] wd25 rfl (by kernel_rfl) (Nat.le_of_ble_eq_true rfl) (by kernel_rfl))) ?_
               refine XL_takeC _ rfl rfl (by kernel_rfl) hc61 (X_of_Y1 rfl (Y1_callS (s_laws_qHas hy62) cf_laws_qHas rfl (by kernel_rfl) rfl rfl)) ?_
               refine XL_takeC _ rfl rfl (by kernel_rfl) hc61 (X_of_Y0 rfl (Y0_not (b := y62) rfl (by kernel_rfl))) ?_
               refine XL_cons rfl (X_of_Y0 rfl (Y0_pickFe (b := b60) (p := !y62) rfl (by kernel_rfl) hc61 (by kernel_rfl) hb63)) ?_
               exact XE
             ·have hb60 := of_false hb60 hc58
              obtain ⟨y59, hy59, hb60⟩ := of_bind hb60
              have hb60 := some_inj hb60
              refine XL_takeC _ rfl rfl (by kernel_rfl) hc58 (X_of_Y0 rfl (E_move (.ow 1160) rfl (by kernel_rfl))) ?_
              refine XL_takeC _ rfl rfl (by kernel_rfl) hc58 (X_of_Y0 rfl (E_loadn (cs := [Ti y51.1.1, Ti y51.1.2.1, Ti y51.1.2.2]) [Ti y51.1.1, Ti y51.1.2.1, Ti y51.1.2.2] wd25 rfl (by kernel_rfl) (Nat.le_of_ble_eq_true rfl) (by kernel_rfl))) ?_
              refine XL_takeC _ rfl rfl (by kernel_rfl) hc58 (X_of_Y1 rfl (Y1_callS (s_laws_qHas hy59) cf_laws_qHas rfl (by kernel_rfl) rfl rfl)) ?_
              refine XL_takeC _ rfl rfl (by kernel_rfl) hc58 (X_of_Y0 rfl (Y0_not (b := y59) rfl (by kernel_rfl))) ?_
              refine XL_cons rfl (X_of_Y0 rfl (Y0_pickFe (b := bif (bif (bif (!y48.2) then true else (!eqI ((y48.1.length : Int)) (w64 (1 + y15.1)))) then true else (!y51.2)) then true else (!y54.2)) (p := !y59) rfl (by kernel_rfl) hc58 (by kernel_rfl) hb60)) ?_
              refine XR 1 ?_
              refine XL_split b60 (fun hc61 => ?_) (fun hc61 => ?_)
              ·have hb63 := some_inj (of_true hb63 hc61)
               refine XL_skipF _ rfl rfl (by kernel_rfl) hc61 rfl ?_
               refine XL_skipF _ rfl rfl (by kernel_rfl) hc61 rfl ?_
               refine XL_skipF _ rfl rfl (by kernel_rfl) hc61 rfl ?_
               refine XL_skipF _ rfl rfl (by kernel_rfl) hc61 rfl ?_
               refine XL_cons rfl (X_of_Y0 rfl (Y0_pickTe (b := b60) (p := true) rfl (by kernel_rfl) hc61 (by kernel_rfl) hb63)) ?_
               exact XE
              ·have hb63 := of_false hb63 hc61
               obtain ⟨y62, hy62, hb63⟩ := of_bind hb63
               have hb63 := some_inj hb63
               refine XL_takeC _ rfl rfl (by kernel_rfl) hc61 (X_of_Y0 rfl (E_move (.ow 1160) rfl (by kernel_rfl))) ?_
               refine XL_takeC _ rfl rfl (by kernel_rfl) hc61 (X_of_Y0 rfl (E_loadn (cs := [Ti y54.1.1, Ti y54.1.2.1, Ti y54.1.2.2]) [Ti y54.1.1, Ti y54.1.2.1, Ti y54.1.2.2] wd25 rfl (by kernel_rfl) (Nat.le_of_ble_eq_true rfl) (by kernel_rfl))) ?_
               refine XL_takeC _ rfl rfl (by kernel_rfl) hc61 (X_of_Y1 rfl (Y1_callS (s_laws_qHas hy62) cf_laws_qHas rfl (by kernel_rfl) rfl rfl)) ?_
               refine XL_takeC _ rfl rfl (by kernel_rfl) hc61 (X_of_Y0 rfl (Y0_not (b := y62) rfl (by kernel_rfl))) ?_
               refine XL_cons rfl (X_of_Y0 rfl (Y0_pickFe (b := b60) (p := !y62) rfl (by kernel_rfl) hc61 (by kernel_rfl) hb63)) ?_
               exact XE
            ·refine XL_takeC _ rfl rfl (by kernel_rfl) hc57 (X_of_Y0 rfl (E_move (Bo y54.2) rfl (by kernel_rfl))) ?_
             refine XL_takeC _ rfl rfl (by kernel_rfl) hc57 (X_of_Y0 rfl (Y0_not (b := y54.2) rfl (by kernel_rfl))) ?_
             refine XL_cons rfl (X_of_Y0 rfl (Y0_pick0 (b := bif (bif (!y48.2) then true else (!eqI ((y48.1.length : Int)) (w64 (1 + y15.1)))) then true else (!y51.2)) (p := true) (q := !y54.2) rfl (by kernel_rfl) hc57 (by kernel_rfl))) ?_
             refine XR 1 ?_
             refine XL_split (bif (bif (bif (!y48.2) then true else (!eqI ((y48.1.length : Int)) (w64 (1 + y15.1)))) then true else (!y51.2)) then true else (!y54.2)) (fun hc58 => ?_) (fun hc58 => ?_)
             ·have hb60 := some_inj (of_true hb60 hc58)
              refine XL_skipF _ rfl rfl (by kernel_rfl) hc58 rfl ?_
              refine XL_skipF _ rfl rfl (by kernel_rfl) hc58 rfl ?_
              refine XL_skipF _ rfl rfl (by kernel_rfl) hc58 rfl ?_
              refine XL_skipF _ rfl rfl (by kernel_rfl) hc58 rfl ?_
              refine XL_cons rfl (X_of_Y0 rfl (Y0_pickTe (b := bif (bif (bif (!y48.2) then true else (!eqI ((y48.1.length : Int)) (w64 (1 + y15.1)))) then true else (!y51.2)) then true else (!y54.2)) (p := true) rfl (by kernel_rfl) hc58 (by kernel_rfl) hb60)) ?_
              refine XR 1 ?_
              refine XL_split b60 (fun hc61 => ?_) (fun hc61 => ?_)
              ·have hb63 := some_inj (of_true hb63 hc61)
               refine XL_skipF _ rfl rfl (by kernel_rfl) hc61 rfl ?_
               refine XL_skipF _ rfl rfl (by kernel_rfl) hc61 rfl ?_
               refine XL_skipF _ rfl rfl (by kernel_rfl) hc61 rfl ?_
               refine XL_skipF _ rfl rfl (by kernel_rfl) hc61 rfl ?_
               refine XL_cons rfl (X_of_Y0 rfl (Y0_pickTe (b := b60) (p := true) rfl (by kernel_rfl) hc61 (by kernel_rfl) hb63)) ?_
               exact XE
              ·have hb63 := of_false hb63 hc61
               obtain ⟨y62, hy62, hb63⟩ := of_bind hb63
               have hb63 := some_inj hb63
               refine XL_takeC _ rfl rfl (by kernel_rfl) hc61 (X_of_Y0 rfl (E_move (.ow 1160) rfl (by kernel_rfl))) ?_
               refine XL_takeC _ rfl rfl (by kernel_rfl) hc61 (X_of_Y0 rfl (E_loadn (cs := [Ti y54.1.1, Ti y54.1.2.1, Ti y54.1.2.2]) [Ti y54.1.1, Ti y54.1.2.1, Ti y54.1.2.2] wd25 rfl (by kernel_rfl) (Nat.le_of_ble_eq_true rfl) (by kernel_rfl))) ?_
               refine XL_takeC _ rfl rfl (by kernel_rfl) hc61 (X_of_Y1 rfl (Y1_callS (s_laws_qHas hy62) cf_laws_qHas rfl (by kernel_rfl) rfl rfl)) ?_
               refine XL_takeC _ rfl rfl (by kernel_rfl) hc61 (X_of_Y0 rfl (Y0_not (b := y62) rfl (by kernel_rfl))) ?_
               refine XL_cons rfl (X_of_Y0 rfl (Y0_pickFe (b := b60) (p := !y62) rfl (by kernel_rfl) hc61 (by kernel_rfl) hb63)) ?_
               exact XE
             ·have hb60 := of_false hb60 hc58
              obtain ⟨y59, hy59, hb60⟩ := of_bind hb60
              have hb60 := some_inj hb60
              refine XL_takeC _ rfl rfl (by kernel_rfl) hc58 (X_of_Y0 rfl (E_move (.ow 1160) rfl (by kernel_rfl))) ?_
              refine XL_takeC _ rfl rfl (by kernel_rfl) hc58 (X_of_Y0 rfl (E_loadn (cs := [Ti y51.1.1, Ti y51.1.2.1, Ti y51.1.2.2]) [Ti y51.1.1, Ti y51.1.2.1, Ti y51.1.2.2] wd25 rfl (by kernel_rfl) (Nat.le_of_ble_eq_true rfl) (by kernel_rfl))) ?_
              refine XL_takeC _ rfl rfl (by kernel_rfl) hc58 (X_of_Y1 rfl (Y1_callS (s_laws_qHas hy59) cf_laws_qHas rfl (by kernel_rfl) rfl rfl)) ?_
              refine XL_takeC _ rfl rfl (by kernel_rfl) hc58 (X_of_Y0 rfl (Y0_not (b := y59) rfl (by kernel_rfl))) ?_
              refine XL_cons rfl (X_of_Y0 rfl (Y0_pickFe (b := bif (bif (bif (!y48.2) then true else (!eqI ((y48.1.length : Int)) (w64 (1 + y15.1)))) then true else (!y51.2)) then true else (!y54.2)) (p := !y59) rfl (by kernel_rfl) hc58 (by kernel_rfl) hb60)) ?_
              refine XR 1 ?_
              refine XL_split b60 (fun hc61 => ?_) (fun hc61 => ?_)
              ·have hb63 := some_inj (of_true hb63 hc61)
               refine XL_skipF _ rfl rfl (by kernel_rfl) hc61 rfl ?_
               refine XL_skipF _ rfl rfl (by kernel_rfl) hc61 rfl ?_
               refine XL_skipF _ rfl rfl (by kernel_rfl) hc61 rfl ?_
               refine XL_skipF _ rfl rfl (by kernel_rfl) hc61 rfl ?_
               refine XL_cons rfl (X_of_Y0 rfl (Y0_pickTe (b := b60) (p := true) rfl (by kernel_rfl) hc61 (by kernel_rfl) hb63)) ?_
               exact XE
              ·have hb63 := of_false hb63 hc61
               obtain ⟨y62, hy62, hb63⟩ := of_bind hb63
               have hb63 := some_inj hb63
               refine XL_takeC _ rfl rfl (by kernel_rfl) hc61 (X_of_Y0 rfl (E_move (.ow 1160) rfl (by kernel_rfl))) ?_
               refine XL_takeC _ rfl rfl (by kernel_rfl) hc61 (X_of_Y0 rfl (E_loadn (cs := [Ti y54.1.1, Ti y54.1.2.1, Ti y54.1.2.2]) [Ti y54.1.1, Ti y54.1.2.1, Ti y54.1.2.2] wd25 rfl (by kernel_rfl) (Nat.le_of_ble_eq_true rfl) (by kernel_rfl))) ?_
               refine XL_takeC _ rfl rfl (by kernel_rfl) hc61 (X_of_Y1 rfl (Y1_callS (s_laws_qHas hy62) cf_laws_qHas rfl (by kernel_rfl) rfl rfl)) ?_
               refine XL_takeC _ rfl rfl (by kernel_rfl) hc61 (X_of_Y0 rfl (Y0_not (b := y62) rfl (by kernel_rfl))) ?_
               refine XL_cons rfl (X_of_Y0 rfl (Y0_pickFe (b := b60) (p := !y62) rfl (by kernel_rfl) hc61 (by kernel_rfl) hb63)) ?_
               exact XE
           ·refine XL_takeC _ rfl rfl (by kernel_rfl) hc56 (X_of_Y0 rfl (E_move (Bo y51.2) rfl (by kernel_rfl))) ?_
            refine XL_takeC _ rfl rfl (by kernel_rfl) hc56 (X_of_Y0 rfl (Y0_not (b := y51.2) rfl (by kernel_rfl))) ?_
            refine XL_cons rfl (X_of_Y0 rfl (Y0_pick0 (b := bif (!y48.2) then true else (!eqI ((y48.1.length : Int)) (w64 (1 + y15.1)))) (p := true) (q := !y51.2) rfl (by kernel_rfl) hc56 (by kernel_rfl))) ?_
            refine XR 1 ?_
            refine XL_split (bif (bif (!y48.2) then true else (!eqI ((y48.1.length : Int)) (w64 (1 + y15.1)))) then true else (!y51.2)) (fun hc57 => ?_) (fun hc57 => ?_)
            ·refine XL_skipF _ rfl rfl (by kernel_rfl) hc57 rfl ?_
             refine XL_skipF _ rfl rfl (by kernel_rfl) hc57 rfl ?_
             refine XL_cons rfl (X_of_Y0 rfl (Y0_pick1 (b := bif (bif (!y48.2) then true else (!eqI ((y48.1.length : Int)) (w64 (1 + y15.1)))) then true else (!y51.2)) (p := true) (q := !y54.2) rfl (by kernel_rfl) hc57 (by kernel_rfl))) ?_
             refine XR 1 ?_
             refine XL_split (bif (bif (bif (!y48.2) then true else (!eqI ((y48.1.length : Int)) (w64 (1 + y15.1)))) then true else (!y51.2)) then true else (!y54.2)) (fun hc58 => ?_) (fun hc58 => ?_)
             ·have hb60 := some_inj (of_true hb60 hc58)
              refine XL_skipF _ rfl rfl (by kernel_rfl) hc58 rfl ?_
              refine XL_skipF _ rfl rfl (by kernel_rfl) hc58 rfl ?_
              refine XL_skipF _ rfl rfl (by kernel_rfl) hc58 rfl ?_
              refine XL_skipF _ rfl rfl (by kernel_rfl) hc58 rfl ?_
              refine XL_cons rfl (X_of_Y0 rfl (Y0_pickTe (b := bif (bif (bif (!y48.2) then true else (!eqI ((y48.1.length : Int)) (w64 (1 + y15.1)))) then true else (!y51.2)) then true else (!y54.2)) (p := true) rfl (by kernel_rfl) hc58 (by kernel_rfl) hb60)) ?_
              refine XR 1 ?_
              refine XL_split b60 (fun hc61 => ?_) (fun hc61 => ?_)
              ·have hb63 := some_inj (of_true hb63 hc61)
               refine XL_skipF _ rfl rfl (by kernel_rfl) hc61 rfl ?_
               refine XL_skipF _ rfl rfl (by kernel_rfl) hc61 rfl ?_
               refine XL_skipF _ rfl rfl (by kernel_rfl) hc61 rfl ?_
               refine XL_skipF _ rfl rfl (by kernel_rfl) hc61 rfl ?_
               refine XL_cons rfl (X_of_Y0 rfl (Y0_pickTe (b := b60) (p := true) rfl (by kernel_rfl) hc61 (by kernel_rfl) hb63)) ?_
               exact XE
              ·have hb63 := of_false hb63 hc61
               obtain ⟨y62, hy62, hb63⟩ := of_bind hb63
               have hb63 := some_inj hb63
               refine XL_takeC _ rfl rfl (by kernel_rfl) hc61 (X_of_Y0 rfl (E_move (.ow 1160) rfl (by kernel_rfl))) ?_
               refine XL_takeC _ rfl rfl (by kernel_rfl) hc61 (X_of_Y0 rfl (E_loadn (cs := [Ti y54.1.1, Ti y54.1.2.1, Ti y54.1.2.2]) [Ti y54.1.1, Ti y54.1.2.1, Ti y54.1.2.2] wd25 rfl (by kernel_rfl) (Nat.le_of_ble_eq_true rfl) (by kernel_rfl))) ?_
               refine XL_takeC _ rfl rfl (by kernel_rfl) hc61 (X_of_Y1 rfl (Y1_callS (s_laws_qHas hy62) cf_laws_qHas rfl (by kernel_rfl) rfl rfl)) ?_
               refine XL_takeC _ rfl rfl (by kernel_rfl) hc61 (X_of_Y0 rfl (Y0_not (b := y62) rfl (by kernel_rfl))) ?_
               refine XL_cons rfl (X_of_Y0 rfl (Y0_pickFe (b := b60) (p := !y62) rfl (by kernel_rfl) hc61 (by kernel_rfl) hb63)) ?_
               exact XE
             ·have hb60 := of_false hb60 hc58
              obtain ⟨y59, hy59, hb60⟩ := of_bind hb60
              have hb60 := some_inj hb60
              refine XL_takeC _ rfl rfl (by kernel_rfl) hc58 (X_of_Y0 rfl (E_move (.ow 1160) rfl (by kernel_rfl))) ?_
              refine XL_takeC _ rfl rfl (by kernel_rfl) hc58 (X_of_Y0 rfl (E_loadn (cs := [Ti y51.1.1, Ti y51.1.2.1, Ti y51.1.2.2]) [Ti y51.1.1, Ti y51.1.2.1, Ti y51.1.2.2] wd25 rfl (by kernel_rfl) (Nat.le_of_ble_eq_true rfl) (by kernel_rfl))) ?_
              refine XL_takeC _ rfl rfl (by kernel_rfl) hc58 (X_of_Y1 rfl (Y1_callS (s_laws_qHas hy59) cf_laws_qHas rfl (by kernel_rfl) rfl rfl)) ?_
              refine XL_takeC _ rfl rfl (by kernel_rfl) hc58 (X_of_Y0 rfl (Y0_not (b := y59) rfl (by kernel_rfl))) ?_
              refine XL_cons rfl (X_of_Y0 rfl (Y0_pickFe (b := bif (bif (bif (!y48.2) then true else (!eqI ((y48.1.length : Int)) (w64 (1 + y15.1)))) then true else (!y51.2)) then true else (!y54.2)) (p := !y59) rfl (by kernel_rfl) hc58 (by kernel_rfl) hb60)) ?_
              refine XR 1 ?_
              refine XL_split b60 (fun hc61 => ?_) (fun hc61 => ?_)
              ·have hb63 := some_inj (of_true hb63 hc61)
               refine XL_skipF _ rfl rfl (by kernel_rfl) hc61 rfl ?_
               refine XL_skipF _ rfl rfl (by kernel_rfl) hc61 rfl ?_
               refine XL_skipF _ rfl rfl (by kernel_rfl) hc61 rfl ?_
               refine XL_skipF _ rfl rfl (by kernel_rfl) hc61 rfl ?_
               refine XL_cons rfl (X_of_Y0 rfl (Y0_pickTe (b := b60) (p := true) rfl (by kernel_rfl) hc61 (by kernel_rfl) hb63)) ?_
               exact XE
              ·have hb63 := of_false hb63 hc61
               obtain ⟨y62, hy62, hb63⟩ := of_bind hb63
               have hb63 := some_inj hb63
               refine XL_takeC _ rfl rfl (by kernel_rfl) hc61 (X_of_Y0 rfl (E_move (.ow 1160) rfl (by kernel_rfl))) ?_
               refine XL_takeC _ rfl rfl (by kernel_rfl) hc61 (X_of_Y0 rfl (E_loadn (cs := [Ti y54.1.1, Ti y54.1.2.1, Ti y54.1.2.2]) [Ti y54.1.1, Ti y54.1.2.1, Ti y54.1.2.2] wd25 rfl (by kernel_rfl) (Nat.le_of_ble_eq_true rfl) (by kernel_rfl))) ?_
               refine XL_takeC _ rfl rfl (by kernel_rfl) hc61 (X_of_Y1 rfl (Y1_callS (s_laws_qHas hy62) cf_laws_qHas rfl (by kernel_rfl) rfl rfl)) ?_
               refine XL_takeC _ rfl rfl (by kernel_rfl) hc61 (X_of_Y0 rfl (Y0_not (b := y62) rfl (by kernel_rfl))) ?_
               refine XL_cons rfl (X_of_Y0 rfl (Y0_pickFe (b := b60) (p := !y62) rfl (by kernel_rfl) hc61 (by kernel_rfl) hb63)) ?_
               exact XE
            ·refine XL_takeC _ rfl rfl (by kernel_rfl) hc57 (X_of_Y0 rfl (E_move (Bo y54.2) rfl (by kernel_rfl))) ?_
             refine XL_takeC _ rfl rfl (by kernel_rfl) hc57 (X_of_Y0 rfl (Y0_not (b := y54.2) rfl (by kernel_rfl))) ?_
             refine XL_cons rfl (X_of_Y0 rfl (Y0_pick0 (b := bif (bif (!y48.2) then true else (!eqI ((y48.1.length : Int)) (w64 (1 + y15.1)))) then true else (!y51.2)) (p := true) (q := !y54.2) rfl (by kernel_rfl) hc57 (by kernel_rfl))) ?_
             refine XR 1 ?_
             refine XL_split (bif (bif (bif (!y48.2) then true else (!eqI ((y48.1.length : Int)) (w64 (1 + y15.1)))) then true else (!y51.2)) then true else (!y54.2)) (fun hc58 => ?_) (fun hc58 => ?_)
             ·have hb60 := some_inj (of_true hb60 hc58)
              refine XL_skipF _ rfl rfl (by kernel_rfl) hc58 rfl ?_
              refine XL_skipF _ rfl rfl (by kernel_rfl) hc58 rfl ?_
              refine XL_skipF _ rfl rfl (by kernel_rfl) hc58 rfl ?_
              refine XL_skipF _ rfl rfl (by kernel_rfl) hc58 rfl ?_
              refine XL_cons rfl (X_of_Y0 rfl (Y0_pickTe (b := bif (bif (bif (!y48.2) then true else (!eqI ((y48.1.length : Int)) (w64 (1 + y15.1)))) then true else (!y51.2)) then true else (!y54.2)) (p := true) rfl (by kernel_rfl) hc58 (by kernel_rfl) hb60)) ?_
              refine XR 1 ?_
              refine XL_split b60 (fun hc61 => ?_) (fun hc61 => ?_)
              ·have hb63 := some_inj (of_true hb63 hc61)
               refine XL_skipF _ rfl rfl (by kernel_rfl) hc61 rfl ?_
               refine XL_skipF _ rfl rfl (by kernel_rfl) hc61 rfl ?_
               refine XL_skipF _ rfl rfl (by kernel_rfl) hc61 rfl ?_
               refine XL_skipF _ rfl rfl (by kernel_rfl) hc61 rfl ?_
               refine XL_cons rfl (X_of_Y0 rfl (Y0_pickTe (b := b60) (p := true) rfl (by kernel_rfl) hc61 (by kernel_rfl) hb63)) ?_
               exact XE
              ·have hb63 := of_false hb63 hc61
               obtain ⟨y62, hy62, hb63⟩ := of_bind hb63
               have hb63 := some_inj hb63
               refine XL_takeC _ rfl rfl (by kernel_rfl) hc61 (X_of_Y0 rfl (E_move (.ow 1160) rfl (by kernel_rfl))) ?_
               refine XL_takeC _ rfl rfl (by kernel_rfl) hc61 (X_of_Y0 rfl (E_loadn (cs := [Ti y54.1.1, Ti y54.1.2.1, Ti y54.1.2.2]) [Ti y54.1.1, Ti y54.1.2.1, Ti y54.1.2.2] wd25 rfl (by kernel_rfl) (Nat.le_of_ble_eq_true rfl) (by kernel_rfl))) ?_
               refine XL_takeC _ rfl rfl (by kernel_rfl) hc61 (X_of_Y1 rfl (Y1_callS (s_laws_qHas hy62) cf_laws_qHas rfl (by kernel_rfl) rfl rfl)) ?_
               refine XL_takeC _ rfl rfl (by kernel_rfl) hc61 (X_of_Y0 rfl (Y0_not (b := y62) rfl (by kernel_rfl))) ?_
               refine XL_cons rfl (X_of_Y0 rfl (Y0_pickFe (b := b60) (p := !y62) rfl (by kernel_rfl) hc61 (by kernel_rfl) hb63)) ?_
               exact XE
             ·have hb60 := of_false hb60 hc58
              obtain ⟨y59, hy59, hb60⟩ := of_bind hb60
              have hb60 := some_inj hb60
              refine XL_takeC _ rfl rfl (by kernel_rfl) hc58 (X_of_Y0 rfl (E_move (.ow 1160) rfl (by kernel_rfl))) ?_
              refine XL_takeC _ rfl rfl (by kernel_rfl) hc58 (X_of_Y0 rfl (E_loadn (cs := [Ti y51.1.1, Ti y51.1.2.1, Ti y51.1.2.2]) [Ti y51.1.1, Ti y51.1.2.1, Ti y51.1.2.2] wd25 rfl (by kernel_rfl) (Nat.le_of_ble_eq_true rfl) (by kernel_rfl))) ?_
              refine XL_takeC _ rfl rfl (by kernel_rfl) hc58 (X_of_Y1 rfl (Y1_callS (s_laws_qHas hy59) cf_laws_qHas rfl (by kernel_rfl) rfl rfl)) ?_
              refine XL_takeC _ rfl rfl (by kernel_rfl) hc58 (X_of_Y0 rfl (Y0_not (b := y59) rfl (by kernel_rfl))) ?_
              refine XL_cons rfl (X_of_Y0 rfl (Y0_pickFe (b := bif (bif (bif (!y48.2) then true else (!eqI ((y48.1.length : Int)) (w64 (1 + y15.1)))) then true else (!y51.2)) then true else (!y54.2)) (p := !y59) rfl (by kernel_rfl) hc58 (by kernel_rfl) hb60)) ?_
              refine XR 1 ?_
              refine XL_split b60 (fun hc61 => ?_) (fun hc61 => ?_)
              ·have hb63 := some_inj (of_true hb63 hc61)
               refine XL_skipF _ rfl rfl (by kernel_rfl) hc61 rfl ?_
               refine XL_skipF _ rfl rfl (by kernel_rfl) hc61 rfl ?_
               refine XL_skipF _ rfl rfl (by kernel_rfl) hc61 rfl ?_
               refine XL_skipF _ rfl rfl (by kernel_rfl) hc61 rfl ?_
               refine XL_cons rfl (X_of_Y0 rfl (Y0_pickTe (b := b60) (p := true) rfl (by kernel_rfl) hc61 (by kernel_rfl) hb63)) ?_
               exact XE
              ·have hb63 := of_false hb63 hc61
               obtain ⟨y62, hy62, hb63⟩ := of_bind hb63
               have hb63 := some_inj hb63
               refine XL_takeC _ rfl rfl (by kernel_rfl) hc61 (X_of_Y0 rfl (E_move (.ow 1160) rfl (by kernel_rfl))) ?_
               refine XL_takeC _ rfl rfl (by kernel_rfl) hc61 (X_of_Y0 rfl (E_loadn (cs := [Ti y54.1.1, Ti y54.1.2.1, Ti y54.1.2.2]) [Ti y54.1.1, Ti y54.1.2.1, Ti y54.1.2.2] wd25 rfl (by kernel_rfl) (Nat.le_of_ble_eq_true rfl) (by kernel_rfl))) ?_
               refine XL_takeC _ rfl rfl (by kernel_rfl) hc61 (X_of_Y1 rfl (Y1_callS (s_laws_qHas hy62) cf_laws_qHas rfl (by kernel_rfl) rfl rfl)) ?_
               refine XL_takeC _ rfl rfl (by kernel_rfl) hc61 (X_of_Y0 rfl (Y0_not (b := y62) rfl (by kernel_rfl))) ?_
               refine XL_cons rfl (X_of_Y0 rfl (Y0_pickFe (b := b60) (p := !y62) rfl (by kernel_rfl) hc61 (by kernel_rfl) hb63)) ?_
               exact XE
         refine V_cond rfl (fun hc64 => ?_) (fun hc64 => ?_)
         ·have h := of_true h hc64
          refine V_e (mb 210 16) [] (s1 := ⟨bt 4 (Bo false :: bt 205 []), []⟩) ?_
          refine V_ret ?_
          obtain rfl := some_inj h
          show Post _ _ _ _ _
          exact ⟨.inr rfl, rfl, rfl, rfl⟩
         ·have h := of_false h hc64
          refine V_skip ?_
          show V _ _ _ _
          refine V_seq ?_
          refine V_sreg (mb 210 351517697181654122774804207699629319301731904889986268266496) [224, 208, 1160] (s1 := ⟨bt 26 (.pt 208 0 :: .bot :: .pt 224 0 :: bt 166 (.ow 1160 :: I ((y48.1.length : Int)) :: I 0 :: bt 12 [])), [(224, .box [Ti y54.1.1, Ti y54.1.2.1, Ti y54.1.2.2]), (208, .box [Ti y51.1.1, Ti y51.1.2.1, Ti y51.1.2.2]), (1160, .arr 25 3 (y48.1.map c25))]⟩) ?_ ?_
          ·refine XR 1 ?_
           refine L0 rfl rfl (Y0_lenM (c := c25) (xs := y48.1) Tryz.underlying38 rfl (by kernel_rfl)) ?_
           exact XE
          obtain ⟨qo67, hLo67, hko67⟩ := of_bind h
          refine V_toS (q := qo67) (S := fun o67 => ⟨bt 210 [], []⟩) (mb 210 0) [] ?_ ?_
          ·refine V_block (V_loop (fun n s => ∃ (t65 : Int), s.keep (mb 210 351517697181654122774804207699629319301731904889986268266496) [224, 208, 1160] = (⟨bt 26 (.pt 208 0 :: .bot :: .pt 224 0 :: bt 166 (.ow 1160 :: I ((y48.1.length : Int)) :: I t65 :: bt 12 [])), [(224, .box [Ti y54.1.1, Ti y54.1.2.1, Ti y54.1.2.2]), (208, .box [Ti y51.1.1, Ti y51.1.2.1, Ti y51.1.2.2]), (1160, .arr 25 3 (y48.1.map c25))]⟩ : St) ∧ r_laws_FnNeighbours_L66 y48 y51 y54 n t65 = some qo67) FU ⟨_,  by rfl, hLo67⟩ ?_)
           clear hLo67
           rintro n s ⟨t65, hs, h⟩
           refine V_keep _ _ hs ?_
           clear hs
           cases n with
           | zero => cases h
           | succ n =>
            rw [r_laws_FnNeighbours_L66] at h
            refine V_e (mb 210 753252208246401691660294730784919969932282653335684477091840) [224, 208, 1160] (s1 := ⟨bt 26 (.pt 208 0 :: .bot :: .pt 224 0 :: bt 166 (.ow 1160 :: I ((y48.1.length : Int)) :: I t65 :: Bo (ltI t65 ((y48.1.length : Int))) :: bt 11 [])), [(224, .box [Ti y54.1.1, Ti y54.1.2.1, Ti y54.1.2.2]), (208, .box [Ti y51.1.1, Ti y51.1.2.1, Ti y51.1.2.2]), (1160, .arr 25 3 (y48.1.map c25))]⟩) ?_
            refine V_seq ?_
            refine V_cond rfl (fun hc68 => ?_) (fun hc68 => ?_)
            ·have h := of_true h hc68
             refine V_skip ?_
             show V _ _ _ _
             refine V_seq ?_
             refine V_block ?_
             obtain ⟨e69, he69, h⟩ := of_bind h
             obtain ⟨e70, he70, h⟩ := of_bind h
             refine V_sreg (mb 210 351517697181654122774804207699629319301731904889988415750144) [248, 224, 208, 1160] (s1 := ⟨bt 26 (.pt 208 0 :: .bot :: .pt 224 0 :: .bot :: .bot :: .pt 248 0 :: bt 163 (.ow 1160 :: I ((y48.1.length : Int)) :: I t65 :: bt 12 [])), [(248, .box [Ti e70.1, Ti e70.2.1, Ti e70.2.2]), (224, .box [Ti y54.1.1, Ti y54.1.2.1, Ti y54.1.2.2]), (208, .box [Ti y51.1.1, Ti y51.1.2.1, Ti y51.1.2.2]), (1160, .arr 25 3 (y48.1.map c25))]⟩) ?_ ?_
             ·refine L0 rfl rfl (Y0_idxoM (c := c25) (xs := y48.1) (v := e69) (id := 1160) (T := 25) (sz := 3) (n := t65) Tryz.underlying38 sz25 rfl (by kernel_rfl) (by kernel_rfl) (by kernel_rfl) he69) ?_
              refine L0 rfl rfl (E_loadon (c := c25) (xs := y48.1) (v := e70) (id := 1160) (sz := 3) (T := 25) (off := 0) (n := t65) [Ti e70.1, Ti e70.2.1, Ti e70.2.2] wd25 rfl (by kernel_rfl) (by kernel_rfl) he70 (Nat.le_of_ble_eq_true rfl) (by kernel_rfl)) ?_
              exact XE
             obtain ⟨t72, ht72, h⟩ := of_bind h
             have ht72 := some_inj ht72
             refine V_sreg (mb 210 411727657027483164661517099847037255564985698313284952105418752) [224, 208, 1160] (s1 := ⟨bt 26 (.pt 208 0 :: .bot :: .pt 224 0 :: bt 166 (.ow 1160 :: I ((y48.1.length : Int)) :: I t65 :: bt 10 (Bo t72 :: .bot :: []))), [(224, .box [Ti y54.1.1, Ti y54.1.2.1, Ti y54.1.2.2]), (208, .box [Ti y51.1.1, Ti y51.1.2.1, Ti y51.1.2.2]), (1160, .arr 25 3 (y48.1.map c25))]⟩) ?_ ?_
             ·refine XR 2 ?_
              refine L0 rfl rfl (Y0_neg3 (a0 := e70.1) (b0 := y51.1.1) (a1 := e70.2.1) (b1 := y51.1.2.1) (a2 := e70.2.2) (b2 := y51.1.2.2) neg25 rfl (by kernel_rfl) (by kernel_rfl)) ?_
              refine XR 1 ?_
              refine XL_split (!((e70.1 == y51.1.1) && ((e70.2.1 == y51.1.2.1) && (e70.2.2 == y51.1.2.2)))) (fun hc71 => ?_) (fun hc71 => ?_)
              ·refine XL_takeC _ rfl rfl (by kernel_rfl) hc71 (X_of_Y0 rfl (E_loadn (cs := [Ti e70.1, Ti e70.2.1, Ti e70.2.2]) [Ti e70.1, Ti e70.2.1, Ti e70.2.2] wd25 rfl (by kernel_rfl) (Nat.le_of_ble_eq_true rfl) (by kernel_rfl))) ?_
               refine XL_takeC _ rfl rfl (by kernel_rfl) hc71 (X_of_Y0 rfl (E_loadn (cs := [Ti y54.1.1, Ti y54.1.2.1, Ti y54.1.2.2]) [Ti y54.1.1, Ti y54.1.2.1, Ti y54.1.2.2] wd25 rfl (by kernel_rfl) (Nat.le_of_ble_eq_true rfl) (by kernel_rfl))) ?_
               refine XL_takeC _ rfl rfl (by kernel_rfl) hc71 (X_of_Y0 rfl (Y0_neg3 (a0 := e70.1) (b0 := y54.1.1) (a1 := e70.2.1) (b1 := y54.1.2.1) (a2 := e70.2.2) (b2 := y54.1.2.2) neg25 rfl (by kernel_rfl) (by kernel_rfl))) ?_
               refine XL_cons rfl (X_of_Y0 rfl (Y0_pick1 (b := !((e70.1 == y51.1.1) && ((e70.2.1 == y51.1.2.1) && (e70.2.2 == y51.1.2.2)))) (p := !((e70.1 == y54.1.1) && ((e70.2.1 == y54.1.2.1) && (e70.2.2 == y54.1.2.2)))) (q := false) rfl (by kernel_rfl) hc71 (by kernel_rfl))) ?_
               refine XL_nil ?_
               subst ht72
               kernel_rfl
              ·refine XL_skipT _ rfl rfl (by kernel_rfl) hc71 rfl ?_
               refine XL_skipT _ rfl rfl (by kernel_rfl) hc71 rfl ?_
               refine XL_skipT _ rfl rfl (by kernel_rfl) hc71 rfl ?_
               refine XL_cons rfl (X_of_Y0 rfl (Y0_pick0 (b := !((e70.1 == y51.1.1) && ((e70.2.1 == y51.1.2.1) && (e70.2.2 == y51.1.2.2)))) (p := !((e70.1 == y54.1.1) && ((e70.2.1 == y54.1.2.1) && (e70.2.2 == y54.1.2.2)))) (q := false) rfl (by kernel_rfl) hc71 (by kernel_rfl))) ?_
               refine XL_nil ?_
               subst ht72
               kernel_rfl
             refine V_cond rfl (fun hc73 => ?_) (fun hc73 => ?_)
             ·have h := of_true h hc73
              refine V_e (mb 210 16) [] (s1 := ⟨bt 4 (Bo false :: bt 205 []), []⟩) ?_
              refine V_ret ?_
              obtain rfl := some_inj h
              have h := hko67
              obtain rfl := some_inj h
              show Post _ _ _ _ _
              exact ⟨.inr rfl, rfl, rfl, rfl⟩
             ·have h := of_false h hc73
              refine V_skip ?_
              show V _ _ _ _
              obtain ⟨t74, ht74, h⟩ := of_sI h
              refine V_reg (mb 210 351517697181654122774804207699629319301731904889986268266496) [224, 208, 1160] (s1 := ⟨bt 26 (.pt 208 0 :: .bot :: .pt 224 0 :: bt 166 (.ow 1160 :: I ((y48.1.length : Int)) :: I t74 :: bt 12 [])), [(224, .box [Ti y54.1.1, Ti y54.1.2.1, Ti y54.1.2.2]), (208, .box [Ti y51.1.1, Ti y51.1.2.1, Ti y51.1.2.2]), (1160, .arr 25 3 (y48.1.map c25))]⟩) ?_ ?_
              ·refine XR 2 ?_
               refine XL_nil ?_
               subst ht74
               kernel_rfl
              exact ⟨n, Nat.lt_succ_self n, _,  by rfl, h⟩
            ·have h := of_false h hc68
             refine V_exit ?_
             obtain rfl := some_inj h
             exact ⟨_, rfl, by rfl⟩
          rintro o67 rfl
          have h := hko67
          clear hko67
          show V _ _ _ _
          refine V_e (mb 210 16) [] (s1 := ⟨bt 4 (Bo true :: bt 205 []), []⟩) ?_
          refine V_ret ?_
          obtain rfl := some_inj h
          show Post _ _ _ _ _
          exact ⟨.inr rfl, rfl, rfl, rfl⟩
end Go.Proofs.YtafomkclmkfjeaaGreat
