/-
  The functions of the program compute what the plain functions say: more of them.
  Conditions: none.
-/
import Derived.Test.YtnifkkihamgmaaaDoorCcSnd2
namespace Go.Proofs.YtnifkkihamgmaaaDoor
open Go.RowKit
set_option linter.unusedVariables false
set_option linter.unusedSimpArgs false
set_option maxRecDepth 100000
set_option maxHeartbeats 400000
theorem cf_impl_CompositionProof : ∀ args w, (callFunc 40 args).run Tryd.prog w = .ok (.enter 40 args) w := run_callFunc Tryd.func40 (by kernel_rfl) (by kernel_rfl)
theorem s_impl_CompositionProof {f1 : (Int × Int × Int)} {g2 : (Int × Int × Int)} {r : (((Int × Int × Int)) × (List Int) × Bool)} (h : r_impl_CompositionProof f1 g2 = some r) : CallS Tryd.prog 40 [.ag [Ti f1.1, Ti f1.2.1, Ti f1.2.2], .ag [Ti g2.1, Ti g2.2.1, Ti g2.2.2]] (.tc (.ag [Ti r.1.1, Ti r.1.2.1, Ti r.1.2.2]) (.tc (.ow 1) (.tc (Bo r.2.2) .tn))) [(1, .arr 3 1 (r.2.1.map c3))] := by
  refine CallS_of_text (rs := [.w 4 3, .t 5, .t 6]) (vs := [.cell 4 27, .tmp 5, .tmp 6]) Tryd.func40 rfl rfl (.cons ⟨rfl, wd27⟩ (.cons rfl (.cons rfl FitsL.nil))) (by decide) 148 rfl ?_
  unfold r_impl_CompositionProof at h
  show V _ _ ⟨.ag [Ti f1.1, Ti f1.2.1, Ti f1.2.2] :: .ag [Ti g2.1, Ti g2.2.1, Ti g2.2.2] :: bt 146 [], []⟩ _
  refine V_sreg (mb 148 28) [32, 24, 16] (s1 := ⟨.bot :: .bot :: .pt 16 0 :: .pt 24 0 :: .pt 32 0 :: bt 143 [], [(32, .box [Ti 0, Ti 0, Ti 0]), (24, .box [Ti g2.1, Ti g2.2.1, Ti g2.2.2]), (16, .box [Ti f1.1, Ti f1.2.1, Ti f1.2.2])]⟩) ?_ ?_
  ·refine XR 3 ?_
   refine L1 rfl rfl (Y1_nil (e := 3) 1 (by decide) (.inl rfl)) ?_
   exact XE
  refine V_seq ?_
  obtain ⟨y3, hy3, h⟩ := of_bind h
  refine V_sreg (mb 148 536870940) [32, 24, 16] (s1 := ⟨.bot :: .bot :: .pt 16 0 :: .pt 24 0 :: .pt 32 0 :: bt 24 (Bo (!y3) :: bt 118 []), [(32, .box [Ti 0, Ti 0, Ti 0]), (24, .box [Ti g2.1, Ti g2.2.1, Ti g2.2.2]), (16, .box [Ti f1.1, Ti f1.2.1, Ti f1.2.2])]⟩) ?_ ?_
  ·refine XR 2 ?_
   refine XC (s_impl_arePair hy3) cf_impl_arePair rfl rfl rfl ?_
   exact XE
  refine V_cond rfl (fun hc4 => ?_) (fun hc4 => ?_)
  ·have h := of_true h hc4
   refine V_sreg (mb 148 112) [248, 32] (s1 := ⟨bt 4 (.pt 32 0 :: .ow 248 :: Bo false :: bt 141 []), [(248, .arr 3 1 ((([] : List Int)).map c3)), (32, .box [Ti 0, Ti 0, Ti 0])]⟩) ?_ ?_
   ·refine L0 rfl rfl (Y0_build (cs := [Ti 0, Ti 0, Ti 0]) pl27 bt27 rfl rfl (by kernel_rfl)) ?_
    refine L1 rfl rfl (Y1_bslice0 Tryd.underlying58 sz3 (by decide) rfl rfl) ?_
    exact XE
   refine V_ret ?_
   obtain rfl := some_inj h
   show Post _ _ _ _ _
   exact ⟨.inr rfl, rfl, rfl, rfl⟩
  ·have h := of_false h hc4
   refine V_skip ?_
   show V _ _ _ _
   obtain ⟨y5, hy5, h⟩ := of_bind h
   refine V_sreg (mb 148 408) [64, 56, 32, 24] (s1 := ⟨bt 3 (.pt 24 0 :: .pt 32 0 :: .bot :: .bot :: .pt 56 0 :: .pt 64 0 :: bt 139 []), [(64, .box [Ti y5.2.1, Ti y5.2.2.1, Ti y5.2.2.2.1, Ti y5.2.2.2.2]), (56, .box [Ti y5.1.1, Ti y5.1.2.1, Ti y5.1.2.2]), (32, .box [Ti 0, Ti 0, Ti 0]), (24, .box [Ti g2.1, Ti g2.2.1, Ti g2.2.2])]⟩) ?_ ?_
   ·refine XR 1 ?_
    refine XC (s_impl_reduce hy5) cf_impl_reduce rfl rfl rfl ?_
    exact XE
   obtain ⟨y6, hy6, h⟩ := of_bind h
   refine V_sreg (mb 148 1936) [80, 72, 64, 56, 32] (s1 := ⟨bt 4 (.pt 32 0 :: .bot :: .bot :: .pt 56 0 :: .pt 64 0 :: .pt 72 0 :: .pt 80 0 :: bt 137 []), [(80, .box [Ti y6.2.1, Ti y6.2.2.1, Ti y6.2.2.2.1, Ti y6.2.2.2.2]), (72, .box [Ti y6.1.1, Ti y6.1.2.1, Ti y6.1.2.2]), (64, .box [Ti y5.2.1, Ti y5.2.2.1, Ti y5.2.2.2.1, Ti y5.2.2.2.2]), (56, .box [Ti y5.1.1, Ti y5.1.2.1, Ti y5.1.2.2]), (32, .box [Ti 0, Ti 0, Ti 0])]⟩) ?_ ?_
   ·refine XR 1 ?_
    refine XC (s_impl_reduce hy6) cf_impl_reduce rfl rfl rfl ?_
    exact XE
   obtain ⟨y7, hy7, h⟩ := of_bind h
   refine V_sreg (mb 148 3344) [88, 80, 64, 32] (s1 := ⟨bt 4 (.pt 32 0 :: bt 3 (.pt 64 0 :: .bot :: .pt 80 0 :: .pt 88 0 :: bt 136 [])), [(88, .box [Ti y7.1, Ti y7.2.1, Ti y7.2.2.1, Ti y7.2.2.2.1, Ti y7.2.2.2.2.1.1, Ti y7.2.2.2.2.1.2.1, Ti y7.2.2.2.2.1.2.2.1, Ti y7.2.2.2.2.1.2.2.2, Ti y7.2.2.2.2.2.1, Ti y7.2.2.2.2.2.2.1, Ti y7.2.2.2.2.2.2.2.1, Ti y7.2.2.2.2.2.2.2.2]), (80, .box [Ti y6.2.1, Ti y6.2.2.1, Ti y6.2.2.2.1, Ti y6.2.2.2.2]), (64, .box [Ti y5.2.1, Ti y5.2.2.1, Ti y5.2.2.2.1, Ti y5.2.2.2.2]), (32, .box [Ti 0, Ti 0, Ti 0])]⟩) ?_ ?_
   ·refine XR 2 ?_
    refine XC (s_impl_unite hy7) cf_impl_unite rfl rfl rfl ?_
    exact XE
   obtain ⟨y8, hy8, h⟩ := of_bind h
   obtain ⟨y9, hy9, h⟩ := of_bind h
   refine V_sreg (mb 148 7184) [96, 88, 80, 32] (s1 := ⟨bt 4 (.pt 32 0 :: bt 5 (.pt 80 0 :: .pt 88 0 :: .pt 96 0 :: bt 135 [])), [(96, .box [Ti y9.1, Ti y9.2.1, Ti y9.2.2.1, Ti y9.2.2.2]), (88, .box [Ti y7.1, Ti y7.2.1, Ti y7.2.2.1, Ti y7.2.2.2.1, Ti y7.2.2.2.2.1.1, Ti y7.2.2.2.2.1.2.1, Ti y7.2.2.2.2.1.2.2.1, Ti y7.2.2.2.2.1.2.2.2, Ti y7.2.2.2.2.2.1, Ti y7.2.2.2.2.2.2.1, Ti y7.2.2.2.2.2.2.2.1, Ti y7.2.2.2.2.2.2.2.2]), (80, .box [Ti y6.2.1, Ti y6.2.2.1, Ti y6.2.2.2.1, Ti y6.2.2.2.2]), (32, .box [Ti 0, Ti 0, Ti 0])]⟩) ?_ ?_
   ·refine XR 3 ?_
    refine XC (s_impl_Matrix_times hy8) cf_impl_Matrix_times rfl rfl rfl ?_
    refine XC (s_impl_Matrix_inverse hy9) cf_impl_Matrix_inverse rfl rfl rfl ?_
    exact XE
   obtain ⟨y10, hy10, h⟩ := of_bind h
   obtain ⟨y11, hy11, h⟩ := of_bind h
   refine V_sreg (mb 148 14352) [104, 96, 88, 32] (s1 := ⟨bt 4 (.pt 32 0 :: bt 6 (.pt 88 0 :: .pt 96 0 :: .pt 104 0 :: bt 134 [])), [(104, .box [Ti y11.1, Ti y11.2.1, Ti y11.2.2.1, Ti y11.2.2.2]), (96, .box [Ti y9.1, Ti y9.2.1, Ti y9.2.2.1, Ti y9.2.2.2]), (88, .box [Ti y7.1, Ti y7.2.1, Ti y7.2.2.1, Ti y7.2.2.2.1, Ti y7.2.2.2.2.1.1, Ti y7.2.2.2.2.1.2.1, Ti y7.2.2.2.2.1.2.2.1, Ti y7.2.2.2.2.1.2.2.2, Ti y7.2.2.2.2.2.1, Ti y7.2.2.2.2.2.2.1, Ti y7.2.2.2.2.2.2.2.1, Ti y7.2.2.2.2.2.2.2.2]), (32, .box [Ti 0, Ti 0, Ti 0])]⟩) ?_ ?_
   ·refine XR 3 ?_
    refine XC (s_impl_Matrix_times hy10) cf_impl_Matrix_times rfl rfl rfl ?_
    refine XC (s_impl_Matrix_inverse hy11) cf_impl_Matrix_inverse rfl rfl rfl ?_
    exact XE
   obtain ⟨y12, hy12, h⟩ := of_bind h
   obtain ⟨y13, hy13, h⟩ := of_bind h
   refine V_sreg (mb 148 63504) [120, 112, 104, 96, 88, 32] (s1 := ⟨bt 4 (.pt 32 0 :: bt 6 (.pt 88 0 :: .pt 96 0 :: .pt 104 0 :: .pt 112 0 :: .pt 120 0 :: bt 132 [])), [(120, .box [Ti y13.2.1, Ti y13.2.2.1, Ti y13.2.2.2.1, Ti y13.2.2.2.2]), (112, .box [Ti y13.1.1, Ti y13.1.2.1, Ti y13.1.2.2]), (104, .box [Ti y11.1, Ti y11.2.1, Ti y11.2.2.1, Ti y11.2.2.2]), (96, .box [Ti y9.1, Ti y9.2.1, Ti y9.2.2.1, Ti y9.2.2.2]), (88, .box [Ti y7.1, Ti y7.2.1, Ti y7.2.2.1, Ti y7.2.2.2.1, Ti y7.2.2.2.2.1.1, Ti y7.2.2.2.2.1.2.1, Ti y7.2.2.2.2.1.2.2.1, Ti y7.2.2.2.2.1.2.2.2, Ti y7.2.2.2.2.2.1, Ti y7.2.2.2.2.2.2.1, Ti y7.2.2.2.2.2.2.2.1, Ti y7.2.2.2.2.2.2.2.2]), (32, .box [Ti 0, Ti 0, Ti 0])]⟩) ?_ ?_
   ·refine XR 1 ?_
    refine XC (s_impl_united_composite hy12) cf_impl_united_composite rfl rfl rfl ?_
    refine XC (s_impl_reduce hy13) cf_impl_reduce rfl rfl rfl ?_
    exact XE
   obtain ⟨y14, hy14, h⟩ := of_bind h
   refine V_sreg (mb 148 96272) [128, 112, 104, 96, 88, 32] (s1 := ⟨bt 4 (.pt 32 0 :: bt 6 (.pt 88 0 :: .pt 96 0 :: .pt 104 0 :: .pt 112 0 :: .bot :: .pt 128 0 :: bt 131 [])), [(128, .box [Ti y14.1, Ti y14.2.1, Ti y14.2.2.1, Ti y14.2.2.2]), (112, .box [Ti y13.1.1, Ti y13.1.2.1, Ti y13.1.2.2]), (104, .box [Ti y11.1, Ti y11.2.1, Ti y11.2.2.1, Ti y11.2.2.2]), (96, .box [Ti y9.1, Ti y9.2.1, Ti y9.2.2.1, Ti y9.2.2.2]), (88, .box [Ti y7.1, Ti y7.2.1, Ti y7.2.2.1, Ti y7.2.2.2.1, Ti y7.2.2.2.2.1.1, Ti y7.2.2.2.2.1.2.1, Ti y7.2.2.2.2.1.2.2.1, Ti y7.2.2.2.2.1.2.2.2, Ti y7.2.2.2.2.2.1, Ti y7.2.2.2.2.2.2.1, Ti y7.2.2.2.2.2.2.2.1, Ti y7.2.2.2.2.2.2.2.2]), (32, .box [Ti 0, Ti 0, Ti 0])]⟩) ?_ ?_
   ·refine XR 1 ?_
    refine XC (s_impl_Matrix_inverse hy14) cf_impl_Matrix_inverse rfl rfl rfl ?_
    exact XE
   obtain ⟨y15, hy15, h⟩ := of_bind h
   obtain ⟨y16, hy16, h⟩ := of_bind h
   refine V_sdreg [0, 1, 0, 4, 0, 16, 0, 64, 255, 0, 512, 0, 2048, 0, 8192, 0, 32768, 131071, 0, 0, 1048575, 2097151] 20 (cdm 20 [698647882400, 698647882401, 698647882250, 698647882266, 698647879850, 698647880106, 698647841450, 698647845546, 698647860565, 698645392042, 698645654186, 698606070442, 698610264746, 697976924842, 698044033706, 687910595242, 688984337066, 692921390421, 595568798378, 183251937962]) (mb 148 489488) [144, 136, 128, 112, 104, 96, 88, 32] (s1 := ⟨bt 4 (.pt 32 0 :: bt 6 (.pt 88 0 :: .pt 96 0 :: .pt 104 0 :: .pt 112 0 :: .bot :: .pt 128 0 :: .pt 136 0 :: .pt 144 0 :: bt 129 [])), [(144, .box [Ti y16.1, Ti y16.2.1, Ti y16.2.2.1, Ti y16.2.2.2]), (136, .box [Ti y15.1, Ti y15.2.1, Ti y15.2.2.1, Ti y15.2.2.2]), (128, .box [Ti y14.1, Ti y14.2.1, Ti y14.2.2.1, Ti y14.2.2.2]), (112, .box [Ti y13.1.1, Ti y13.1.2.1, Ti y13.1.2.2]), (104, .box [Ti y11.1, Ti y11.2.1, Ti y11.2.2.1, Ti y11.2.2.2]), (96, .box [Ti y9.1, Ti y9.2.1, Ti y9.2.2.1, Ti y9.2.2.2]), (88, .box [Ti y7.1, Ti y7.2.1, Ti y7.2.2.1, Ti y7.2.2.2.1, Ti y7.2.2.2.2.1.1, Ti y7.2.2.2.2.1.2.1, Ti y7.2.2.2.2.1.2.2.1, Ti y7.2.2.2.2.1.2.2.2, Ti y7.2.2.2.2.2.1, Ti y7.2.2.2.2.2.2.1, Ti y7.2.2.2.2.2.2.2.1, Ti y7.2.2.2.2.2.2.2.2]), (32, .box [Ti 0, Ti 0, Ti 0])]⟩) (by kernel_rfl) (by kernel_rfl) ?_ ?_
   ·refine DR 8 ?_
    refine DC 8 (s_impl_outer hy15) cf_impl_outer rfl rfl rfl rfl 71 rfl ?_
    refine DR 8 ?_
    refine DC 17 (s_impl_outer hy16) cf_impl_outer rfl rfl rfl rfl 80 rfl ?_
    refine DA 2 ?_
    exact XE
   obtain ⟨y17, hy17, h⟩ := of_bind h
   obtain ⟨y18, hy18, h⟩ := of_bind h
   refine V_sdreg [0, 1, 0, 4, 0, 16, 0, 64, 255, 0, 512, 0, 2048, 0, 8192, 0, 32768, 131071, 0, 0, 1048575, 2097151] 20 (cdm 20 [698647882400, 698647882401, 698647882250, 698647882266, 698647879850, 698647880106, 698647841450, 698647845546, 698647860565, 698645392042, 698645654186, 698606070442, 698610264746, 697976924842, 698044033706, 687910595242, 688984337066, 692921390421, 595568798378, 183251937962]) (mb 148 2050064) [160, 152, 144, 136, 128, 112, 88, 32] (s1 := ⟨bt 4 (.pt 32 0 :: bt 6 (.pt 88 0 :: .bot :: .bot :: .pt 112 0 :: .bot :: .pt 128 0 :: .pt 136 0 :: .pt 144 0 :: .pt 152 0 :: .pt 160 0 :: bt 127 [])), [(160, .box [Ti y18.1, Ti y18.2.1, Ti y18.2.2.1, Ti y18.2.2.2]), (152, .box [Ti y17.1, Ti y17.2.1, Ti y17.2.2.1, Ti y17.2.2.2]), (144, .box [Ti y16.1, Ti y16.2.1, Ti y16.2.2.1, Ti y16.2.2.2]), (136, .box [Ti y15.1, Ti y15.2.1, Ti y15.2.2.1, Ti y15.2.2.2]), (128, .box [Ti y14.1, Ti y14.2.1, Ti y14.2.2.1, Ti y14.2.2.2]), (112, .box [Ti y13.1.1, Ti y13.1.2.1, Ti y13.1.2.2]), (88, .box [Ti y7.1, Ti y7.2.1, Ti y7.2.2.1, Ti y7.2.2.2.1, Ti y7.2.2.2.2.1.1, Ti y7.2.2.2.2.1.2.1, Ti y7.2.2.2.2.1.2.2.1, Ti y7.2.2.2.2.1.2.2.2, Ti y7.2.2.2.2.2.1, Ti y7.2.2.2.2.2.2.1, Ti y7.2.2.2.2.2.2.2.1, Ti y7.2.2.2.2.2.2.2.2]), (32, .box [Ti 0, Ti 0, Ti 0])]⟩) (by kernel_rfl) (by kernel_rfl) ?_ ?_
   ·refine DR 8 ?_
    refine DC 8 (s_impl_outer hy17) cf_impl_outer rfl rfl rfl rfl 89 rfl ?_
    refine DR 8 ?_
    refine DC 17 (s_impl_outer hy18) cf_impl_outer rfl rfl rfl rfl 98 rfl ?_
    refine DA 2 ?_
    exact XE
   obtain ⟨y19, hy19, h⟩ := of_bind h
   refine V_sreg (mb 148 4016144) [168, 160, 152, 144, 128, 112, 88, 32] (s1 := ⟨bt 4 (.pt 32 0 :: bt 6 (.pt 88 0 :: .bot :: .bot :: .pt 112 0 :: .bot :: .pt 128 0 :: .bot :: .pt 144 0 :: .pt 152 0 :: .pt 160 0 :: .pt 168 0 :: bt 126 [])), [(168, .box [Ti y19.1, Ti y19.2.1, Ti y19.2.2.1, Ti y19.2.2.2]), (160, .box [Ti y18.1, Ti y18.2.1, Ti y18.2.2.1, Ti y18.2.2.2]), (152, .box [Ti y17.1, Ti y17.2.1, Ti y17.2.2.1, Ti y17.2.2.2]), (144, .box [Ti y16.1, Ti y16.2.1, Ti y16.2.2.1, Ti y16.2.2.2]), (128, .box [Ti y14.1, Ti y14.2.1, Ti y14.2.2.1, Ti y14.2.2.2]), (112, .box [Ti y13.1.1, Ti y13.1.2.1, Ti y13.1.2.2]), (88, .box [Ti y7.1, Ti y7.2.1, Ti y7.2.2.1, Ti y7.2.2.2.1, Ti y7.2.2.2.2.1.1, Ti y7.2.2.2.2.1.2.1, Ti y7.2.2.2.2.1.2.2.1, Ti y7.2.2.2.2.1.2.2.2, Ti y7.2.2.2.2.2.1, Ti y7.2.2.2.2.2.2.1, Ti y7.2.2.2.2.2.2.2.1, Ti y7.2.2.2.2.2.2.2.2]), (32, .box [Ti 0, Ti 0, Ti 0])]⟩) ?_ ?_
   ·refine XR 5 ?_
    refine XC (s_impl_bilinear_plus hy19) cf_impl_bilinear_plus rfl rfl rfl ?_
    exact XE
   obtain ⟨y20, hy20, h⟩ := of_bind h
   obtain ⟨y21, hy21, h⟩ := of_bind h
   obtain ⟨y22, hy22, h⟩ := of_bind h
   refine V_sdreg [0, 0, 2, 0, 15, 0, 32, 0, 255, 0, 512, 0, 4095, 0, 16383] 14 (cdm 14 [145270952, 145270914, 145270918, 145270826, 145270869, 145261226, 145262250, 145238698, 145249621, 142781098, 143043242, 137013930, 139810133, 44739242]) (mb 148 6373392) [176, 168, 128, 112, 32] (s1 := ⟨bt 4 (.pt 32 0 :: bt 9 (.pt 112 0 :: .bot :: .pt 128 0 :: bt 4 (.pt 168 0 :: .pt 176 0 :: bt 125 []))), [(176, .box [Ti y22.1, Ti y22.2.1, Ti y22.2.2.1, Ti y22.2.2.2]), (168, .box [Ti y19.1, Ti y19.2.1, Ti y19.2.2.1, Ti y19.2.2.2]), (128, .box [Ti y14.1, Ti y14.2.1, Ti y14.2.2.1, Ti y14.2.2.2]), (112, .box [Ti y13.1.1, Ti y13.1.2.1, Ti y13.1.2.2]), (32, .box [Ti 0, Ti 0, Ti 0])]⟩) (by kernel_rfl) (by kernel_rfl) ?_ ?_
   ·refine DE_0 0 (.ag [Ti 0, Ti 0, Ti 0, Ti 0]) (by kernel_rfl) rfl rfl rfl (gsat_none rfl) (by kernel_rfl) (Y0_build (cs := [Ti 0, Ti 0, Ti 0, Ti 0]) pl83 bt83 rfl rfl (by kernel_rfl)) 105 rfl ?_
    refine DR 3 ?_
    refine DC 4 (s_impl_bilinear_plus hy20) cf_impl_bilinear_plus rfl rfl rfl rfl 109 rfl ?_
    refine DR 3 ?_
    refine DC 8 (s_impl_bilinear_plus hy21) cf_impl_bilinear_plus rfl rfl rfl rfl 113 rfl ?_
    refine DR 3 ?_
    refine DC 12 (s_impl_bilinear_plus hy22) cf_impl_bilinear_plus rfl rfl rfl rfl 117 rfl ?_
    refine DA 1 ?_
    exact XE
   obtain ⟨y23, hy23, h⟩ := of_bind h
   obtain ⟨y24, hy24, h⟩ := of_bind h
   refine V_sdreg [0, 0, 2, 0, 15, 0, 32, 0, 255, 0, 1023] 10 (cdm 10 [567464, 567426, 567430, 567338, 567381, 557738, 558762, 535210, 546133, 174762]) (mb 148 14762000) [184, 176, 168, 128, 112, 32] (s1 := ⟨bt 4 (.pt 32 0 :: bt 9 (.pt 112 0 :: .bot :: .pt 128 0 :: bt 4 (.pt 168 0 :: .pt 176 0 :: .pt 184 0 :: bt 124 []))), [(184, .box [Ti y24.1, Ti y24.2.1, Ti y24.2.2.1, Ti y24.2.2.2]), (176, .box [Ti y22.1, Ti y22.2.1, Ti y22.2.2.1, Ti y22.2.2.2]), (168, .box [Ti y19.1, Ti y19.2.1, Ti y19.2.2.1, Ti y19.2.2.2]), (128, .box [Ti y14.1, Ti y14.2.1, Ti y14.2.2.1, Ti y14.2.2.2]), (112, .box [Ti y13.1.1, Ti y13.1.2.1, Ti y13.1.2.2]), (32, .box [Ti 0, Ti 0, Ti 0])]⟩) (by kernel_rfl) (by kernel_rfl) ?_ ?_
   ·refine DE_0 0 (.ag [Ti 0, Ti 0, Ti 0, Ti 0]) (by kernel_rfl) rfl rfl rfl (gsat_none rfl) (by kernel_rfl) (Y0_build (cs := [Ti 0, Ti 0, Ti 0, Ti 0]) pl83 bt83 rfl rfl (by kernel_rfl)) 118 rfl ?_
    refine DR 3 ?_
    refine DC 4 (s_impl_bilinear_plus hy23) cf_impl_bilinear_plus rfl rfl rfl rfl 122 rfl ?_
    refine DR 3 ?_
    refine DC 8 (s_impl_bilinear_plus hy24) cf_impl_bilinear_plus rfl rfl rfl rfl 126 rfl ?_
    refine DA 1 ?_
    exact XE
   obtain ⟨y25, hy25, h⟩ := of_bind h
   obtain ⟨y26, hy26, h⟩ := of_bind h
   refine V_sdreg [0, 0, 2, 0, 15, 0, 32, 0, 255, 0, 1023] 10 (cdm 10 [567464, 567426, 567430, 567338, 567381, 557738, 558762, 535210, 546133, 174762]) (mb 148 25182224) [192, 184, 112, 32] (s1 := ⟨bt 4 (.pt 32 0 :: bt 9 (.pt 112 0 :: bt 8 (.pt 184 0 :: .pt 192 0 :: bt 123 []))), [(192, .box [Ti y26.1, Ti y26.2.1, Ti y26.2.2.1, Ti y26.2.2.2]), (184, .box [Ti y24.1, Ti y24.2.1, Ti y24.2.2.1, Ti y24.2.2.2]), (112, .box [Ti y13.1.1, Ti y13.1.2.1, Ti y13.1.2.2]), (32, .box [Ti 0, Ti 0, Ti 0])]⟩) (by kernel_rfl) (by kernel_rfl) ?_ ?_
   ·refine DE_0 0 (.ag [Ti 0, Ti 0, Ti 0, Ti 0]) (by kernel_rfl) rfl rfl rfl (gsat_none rfl) (by kernel_rfl) (Y0_build (cs := [Ti 0, Ti 0, Ti 0, Ti 0]) pl83 bt83 rfl rfl (by kernel_rfl)) 127 rfl ?_
    refine DR 3 ?_
    refine DC 4 (s_impl_bilinear_plus hy25) cf_impl_bilinear_plus rfl rfl rfl rfl 131 rfl ?_
    refine DR 3 ?_
    refine DC 8 (s_impl_bilinear_plus hy26) cf_impl_bilinear_plus rfl rfl rfl rfl 135 rfl ?_
    refine DA 1 ?_
    exact XE
   refine V_freezeB 184 (cs := [Ti y24.1, Ti y24.2.1, Ti y24.2.2.1, Ti y24.2.2.2]) (s1 := ⟨bt 4 (.pt 32 0 :: bt 9 (.pt 112 0 :: bt 8 (.pe [Ti y24.1, Ti y24.2.1, Ti y24.2.2.1, Ti y24.2.2.2] :: .pt 192 0 :: bt 123 []))), [(192, .box [Ti y26.1, Ti y26.2.1, Ti y26.2.2.1, Ti y26.2.2.2]), (112, .box [Ti y13.1.1, Ti y13.1.2.1, Ti y13.1.2.2]), (32, .box [Ti 0, Ti 0, Ti 0])]⟩) (by kernel_rfl) (by kernel_rfl) ?_
   refine V_freezeB 192 (cs := [Ti y26.1, Ti y26.2.1, Ti y26.2.2.1, Ti y26.2.2.2]) (s1 := ⟨bt 4 (.pt 32 0 :: bt 9 (.pt 112 0 :: bt 8 (.pe [Ti y24.1, Ti y24.2.1, Ti y24.2.2.1, Ti y24.2.2.2] :: .pe [Ti y26.1, Ti y26.2.1, Ti y26.2.2.1, Ti y26.2.2.2] :: bt 123 []))), [(112, .box [Ti y13.1.1, Ti y13.1.2.1, Ti y13.1.2.2]), (32, .box [Ti 0, Ti 0, Ti 0])]⟩) (by kernel_rfl) (by kernel_rfl) ?_
   obtain ⟨u27, hu27, h⟩ := of_bind h
   obtain ⟨u28, hu28, h⟩ := of_bind h
   obtain ⟨l29, hl29, h⟩ := of_bind h
   have hl29 := some_inj hl29
   refine V_sdagK (mb 148 33570832) [1088, 112, 32] [0, 0, 3, 0, 15, 31] [(0, ⟨bt 4 (.pt 32 0 :: bt 9 (.pt 112 0 :: bt 8 (.pe [Ti y24.1, Ti y24.2.1, Ti y24.2.2.1, Ti y24.2.2.2] :: .pe [Ti y26.1, Ti y26.2.1, Ti y26.2.2.1, Ti y26.2.2.2] :: bt 123 []))), [(112, .box [Ti y13.1.1, Ti y13.1.2.1, Ti y13.1.2.2]), (32, .box [Ti 0, Ti 0, Ti 0])]⟩), (1, ⟨bt 4 (.pt 32 0 :: bt 9 (.pt 112 0 :: bt 8 (.pe [Ti y24.1, Ti y24.2.1, Ti y24.2.2.1, Ti y24.2.2.2] :: .pe [Ti y26.1, Ti y26.2.1, Ti y26.2.2.1, Ti y26.2.2.2] :: bt 111 (.ow 1088 :: bt 11 [])))), [(1088, .arr 3 1 ((([] : List Int)).map c3)), (112, .box [Ti y13.1.1, Ti y13.1.2.1, Ti y13.1.2.2]), (32, .box [Ti 0, Ti 0, Ti 0])]⟩), (2, ⟨bt 4 (.pt 32 0 :: bt 9 (.pt 112 0 :: bt 8 (.pe [Ti y24.1, Ti y24.2.1, Ti y24.2.2.1, Ti y24.2.2.2] :: .pe [Ti y26.1, Ti y26.2.1, Ti y26.2.2.1, Ti y26.2.2.2] :: bt 112 (.c (.sl (([y24.1, y24.2.1, y24.2.2.1, y24.2.2.2]).map c3)) :: bt 10 [])))), [(112, .box [Ti y13.1.1, Ti y13.1.2.1, Ti y13.1.2.2]), (32, .box [Ti 0, Ti 0, Ti 0])]⟩), (3, ⟨bt 4 (.pt 32 0 :: bt 9 (.pt 112 0 :: bt 8 (.pe [Ti y24.1, Ti y24.2.1, Ti y24.2.2.1, Ti y24.2.2.2] :: .pe [Ti y26.1, Ti y26.2.1, Ti y26.2.2.1, Ti y26.2.2.2] :: bt 111 (.ow 1088 :: .c (.sl (([y24.1, y24.2.1, y24.2.2.1, y24.2.2.2]).map c3)) :: bt 10 [])))), [(1088, .arr 3 1 ((([] : List Int)).map c3)), (112, .box [Ti y13.1.1, Ti y13.1.2.1, Ti y13.1.2.2]), (32, .box [Ti 0, Ti 0, Ti 0])]⟩), (7, ⟨bt 4 (.pt 32 0 :: bt 9 (.pt 112 0 :: bt 8 (.pe [Ti y24.1, Ti y24.2.1, Ti y24.2.2.1, Ti y24.2.2.2] :: .pe [Ti y26.1, Ti y26.2.1, Ti y26.2.2.1, Ti y26.2.2.2] :: bt 112 (.c (.sl (([y24.1, y24.2.1, y24.2.2.1, y24.2.2.2]).map c3)) :: .ow 1088 :: bt 9 [])))), [(1088, .arr 3 1 (((([] : List Int)) ++ ([y24.1, y24.2.1, y24.2.2.1, y24.2.2.2])).map c3)), (112, .box [Ti y13.1.1, Ti y13.1.2.1, Ti y13.1.2.2]), (32, .box [Ti 0, Ti 0, Ti 0])]⟩), (8, ⟨bt 4 (.pt 32 0 :: bt 9 (.pt 112 0 :: bt 8 (.pe [Ti y24.1, Ti y24.2.1, Ti y24.2.2.1, Ti y24.2.2.2] :: .pe [Ti y26.1, Ti y26.2.1, Ti y26.2.2.1, Ti y26.2.2.2] :: bt 114 (.c (.sl (([y26.1, y26.2.1, y26.2.2.1, y26.2.2.2]).map c3)) :: bt 8 [])))), [(112, .box [Ti y13.1.1, Ti y13.1.2.1, Ti y13.1.2.2]), (32, .box [Ti 0, Ti 0, Ti 0])]⟩), (9, ⟨bt 4 (.pt 32 0 :: bt 9 (.pt 112 0 :: bt 8 (.pe [Ti y24.1, Ti y24.2.1, Ti y24.2.2.1, Ti y24.2.2.2] :: .pe [Ti y26.1, Ti y26.2.1, Ti y26.2.2.1, Ti y26.2.2.2] :: bt 111 (.ow 1088 :: .bot :: .bot :: .c (.sl (([y26.1, y26.2.1, y26.2.2.1, y26.2.2.2]).map c3)) :: bt 8 [])))), [(1088, .arr 3 1 ((([] : List Int)).map c3)), (112, .box [Ti y13.1.1, Ti y13.1.2.1, Ti y13.1.2.2]), (32, .box [Ti 0, Ti 0, Ti 0])]⟩), (10, ⟨bt 4 (.pt 32 0 :: bt 9 (.pt 112 0 :: bt 8 (.pe [Ti y24.1, Ti y24.2.1, Ti y24.2.2.1, Ti y24.2.2.2] :: .pe [Ti y26.1, Ti y26.2.1, Ti y26.2.2.1, Ti y26.2.2.2] :: bt 112 (.c (.sl (([y24.1, y24.2.1, y24.2.2.1, y24.2.2.2]).map c3)) :: .bot :: .c (.sl (([y26.1, y26.2.1, y26.2.2.1, y26.2.2.2]).map c3)) :: bt 8 [])))), [(112, .box [Ti y13.1.1, Ti y13.1.2.1, Ti y13.1.2.2]), (32, .box [Ti 0, Ti 0, Ti 0])]⟩), (11, ⟨bt 4 (.pt 32 0 :: bt 9 (.pt 112 0 :: bt 8 (.pe [Ti y24.1, Ti y24.2.1, Ti y24.2.2.1, Ti y24.2.2.2] :: .pe [Ti y26.1, Ti y26.2.1, Ti y26.2.2.1, Ti y26.2.2.2] :: bt 111 (.ow 1088 :: .c (.sl (([y24.1, y24.2.1, y24.2.2.1, y24.2.2.2]).map c3)) :: .bot :: .c (.sl (([y26.1, y26.2.1, y26.2.2.1, y26.2.2.2]).map c3)) :: bt 8 [])))), [(1088, .arr 3 1 ((([] : List Int)).map c3)), (112, .box [Ti y13.1.1, Ti y13.1.2.1, Ti y13.1.2.2]), (32, .box [Ti 0, Ti 0, Ti 0])]⟩), (15, ⟨bt 4 (.pt 32 0 :: bt 9 (.pt 112 0 :: bt 8 (.pe [Ti y24.1, Ti y24.2.1, Ti y24.2.2.1, Ti y24.2.2.2] :: .pe [Ti y26.1, Ti y26.2.1, Ti y26.2.2.1, Ti y26.2.2.2] :: bt 112 (.c (.sl (([y24.1, y24.2.1, y24.2.2.1, y24.2.2.2]).map c3)) :: .ow 1088 :: .c (.sl (([y26.1, y26.2.1, y26.2.2.1, y26.2.2.2]).map c3)) :: bt 8 [])))), [(1088, .arr 3 1 (((([] : List Int)) ++ ([y24.1, y24.2.1, y24.2.2.1, y24.2.2.2])).map c3)), (112, .box [Ti y13.1.1, Ti y13.1.2.1, Ti y13.1.2.2]), (32, .box [Ti 0, Ti 0, Ti 0])]⟩), (31, ⟨bt 4 (.pt 32 0 :: bt 9 (.pt 112 0 :: bt 8 (.pe [Ti y24.1, Ti y24.2.1, Ti y24.2.2.1, Ti y24.2.2.2] :: .pe [Ti y26.1, Ti y26.2.1, Ti y26.2.2.1, Ti y26.2.2.2] :: bt 112 (.c (.sl (([y24.1, y24.2.1, y24.2.2.1, y24.2.2.2]).map c3)) :: .bot :: .c (.sl (([y26.1, y26.2.1, y26.2.2.1, y26.2.2.2]).map c3)) :: .ow 1088 :: bt 7 [])))), [(1088, .arr 3 1 ((((([] : List Int)) ++ ([y24.1, y24.2.1, y24.2.2.1, y24.2.2.2])) ++ ([y26.1, y26.2.1, y26.2.2.1, y26.2.2.2])).map c3)), (112, .box [Ti y13.1.1, Ti y13.1.2.1, Ti y13.1.2.2]), (32, .box [Ti 0, Ti 0, Ti 0])]⟩), (63, ⟨bt 4 (.pt 32 0 :: bt 9 (.pt 112 0 :: bt 8 (.pe [Ti y24.1, Ti y24.2.1, Ti y24.2.2.1, Ti y24.2.2.2] :: .pe [Ti y26.1, Ti y26.2.1, Ti y26.2.2.1, Ti y26.2.2.2] :: .ow 1088 :: bt 111 (.c (.sl (([y24.1, y24.2.1, y24.2.2.1, y24.2.2.2]).map c3)) :: .bot :: .c (.sl (([y26.1, y26.2.1, y26.2.2.1, y26.2.2.2]).map c3)) :: .ow 1088 :: bt 7 [])))), [(1088, .arr 3 1 ((((([] : List Int)) ++ ([y24.1, y24.2.1, y24.2.2.1, y24.2.2.2])) ++ ([y26.1, y26.2.1, y26.2.2.1, y26.2.2.2])).map c3)), (112, .box [Ti y13.1.1, Ti y13.1.2.1, Ti y13.1.2.2]), (32, .box [Ti 0, Ti 0, Ti 0])]⟩)] (s1 := ⟨bt 4 (.pt 32 0 :: bt 9 (.pt 112 0 :: bt 10 (.ow 1088 :: bt 122 []))), [(1088, .arr 3 1 (l29.map c3)), (112, .box [Ti y13.1.1, Ti y13.1.2.1, Ti y13.1.2.2]), (32, .box [Ti 0, Ti 0, Ti 0])]⟩) (by kernel_rfl) (by kernel_rfl) (by kernel_rfl) ?_ ?_
   ·refine tab_row [3, 1, 0] (by kernel_rfl) (by kernel_rfl) ?_ ?_
    ·refine step_cons (s2 := ⟨bt 4 (.pt 32 0 :: bt 9 (.pt 112 0 :: bt 8 (.pe [Ti y24.1, Ti y24.2.1, Ti y24.2.2.1, Ti y24.2.2.2] :: .pe [Ti y26.1, Ti y26.2.1, Ti y26.2.2.1, Ti y26.2.2.2] :: bt 114 (.c (.sl (([y26.1, y26.2.1, y26.2.2.1, y26.2.2.2]).map c3)) :: bt 8 [])))), [(112, .box [Ti y13.1.1, Ti y13.1.2.1, Ti y13.1.2.2]), (32, .box [Ti 0, Ti 0, Ti 0])]⟩) rfl rfl (X_of_Y0 rfl (Y0_sliceA (c := c3) (xs := [y26.1, y26.2.1, y26.2.2.1, y26.2.2.2]) Tryd.underlying83 sz3 (fun _ => rfl) (by decide) rfl rfl (by kernel_rfl))) (by kernel_rfl) rfl (hE_cons (by kernel_rfl) (hE_cons (by kernel_rfl) hE_nil)) ?_
     refine step_cons (s2 := ⟨bt 4 (.pt 32 0 :: bt 9 (.pt 112 0 :: bt 8 (.pe [Ti y24.1, Ti y24.2.1, Ti y24.2.2.1, Ti y24.2.2.2] :: .pe [Ti y26.1, Ti y26.2.1, Ti y26.2.2.1, Ti y26.2.2.2] :: bt 112 (.c (.sl (([y24.1, y24.2.1, y24.2.2.1, y24.2.2.2]).map c3)) :: bt 10 [])))), [(112, .box [Ti y13.1.1, Ti y13.1.2.1, Ti y13.1.2.2]), (32, .box [Ti 0, Ti 0, Ti 0])]⟩) rfl rfl (X_of_Y0 rfl (Y0_sliceA (c := c3) (xs := [y24.1, y24.2.1, y24.2.2.1, y24.2.2.2]) Tryd.underlying83 sz3 (fun _ => rfl) (by decide) rfl rfl (by kernel_rfl))) (by kernel_rfl) rfl (hE_cons (by kernel_rfl) (hE_cons (by kernel_rfl) hE_nil)) ?_
     refine step_cons (s2 := ⟨bt 4 (.pt 32 0 :: bt 9 (.pt 112 0 :: bt 8 (.pe [Ti y24.1, Ti y24.2.1, Ti y24.2.2.1, Ti y24.2.2.2] :: .pe [Ti y26.1, Ti y26.2.1, Ti y26.2.2.1, Ti y26.2.2.2] :: bt 111 (.ow 1088 :: bt 11 [])))), [(1088, .arr 3 1 ((([] : List Int)).map c3)), (112, .box [Ti y13.1.1, Ti y13.1.2.1, Ti y13.1.2.2]), (32, .box [Ti 0, Ti 0, Ti 0])]⟩) rfl rfl (X_of_Y1 rfl (Y1_bslice0 Tryd.underlying58 sz3 (by decide) rfl rfl)) (by kernel_rfl) rfl (hE_cons (by kernel_rfl) (hE_cons (by kernel_rfl) (hE_cons (by kernel_rfl) hE_nil))) ?_
     exact step_nil
    refine tab_row [3, 1] (by kernel_rfl) (by kernel_rfl) ?_ ?_
    ·refine step_cons (s2 := ⟨bt 4 (.pt 32 0 :: bt 9 (.pt 112 0 :: bt 8 (.pe [Ti y24.1, Ti y24.2.1, Ti y24.2.2.1, Ti y24.2.2.2] :: .pe [Ti y26.1, Ti y26.2.1, Ti y26.2.2.1, Ti y26.2.2.2] :: bt 111 (.ow 1088 :: .bot :: .bot :: .c (.sl (([y26.1, y26.2.1, y26.2.2.1, y26.2.2.2]).map c3)) :: bt 8 [])))), [(1088, .arr 3 1 ((([] : List Int)).map c3)), (112, .box [Ti y13.1.1, Ti y13.1.2.1, Ti y13.1.2.2]), (32, .box [Ti 0, Ti 0, Ti 0])]⟩) rfl rfl (X_of_Y0 rfl (Y0_sliceA (c := c3) (xs := [y26.1, y26.2.1, y26.2.2.1, y26.2.2.2]) Tryd.underlying83 sz3 (fun _ => rfl) (by decide) rfl rfl (by kernel_rfl))) (by kernel_rfl) rfl (hE_cons (by kernel_rfl) (hE_cons (by kernel_rfl) (hE_cons (by kernel_rfl) hE_nil))) ?_
     refine step_cons (s2 := ⟨bt 4 (.pt 32 0 :: bt 9 (.pt 112 0 :: bt 8 (.pe [Ti y24.1, Ti y24.2.1, Ti y24.2.2.1, Ti y24.2.2.2] :: .pe [Ti y26.1, Ti y26.2.1, Ti y26.2.2.1, Ti y26.2.2.2] :: bt 111 (.ow 1088 :: .c (.sl (([y24.1, y24.2.1, y24.2.2.1, y24.2.2.2]).map c3)) :: bt 10 [])))), [(1088, .arr 3 1 ((([] : List Int)).map c3)), (112, .box [Ti y13.1.1, Ti y13.1.2.1, Ti y13.1.2.2]), (32, .box [Ti 0, Ti 0, Ti 0])]⟩) rfl rfl (X_of_Y0 rfl (Y0_sliceA (c := c3) (xs := [y24.1, y24.2.1, y24.2.2.1, y24.2.2.2]) Tryd.underlying83 sz3 (fun _ => rfl) (by decide) rfl rfl (by kernel_rfl))) (by kernel_rfl) rfl (hE_cons (by kernel_rfl) (hE_cons (by kernel_rfl) (hE_cons (by kernel_rfl) hE_nil))) ?_
     exact step_nil
    refine tab_row [3, 0] (by kernel_rfl) (by kernel_rfl) ?_ ?_
    ·refine step_cons (s2 := ⟨bt 4 (.pt 32 0 :: bt 9 (.pt 112 0 :: bt 8 (.pe [Ti y24.1, Ti y24.2.1, Ti y24.2.2.1, Ti y24.2.2.2] :: .pe [Ti y26.1, Ti y26.2.1, Ti y26.2.2.1, Ti y26.2.2.2] :: bt 112 (.c (.sl (([y24.1, y24.2.1, y24.2.2.1, y24.2.2.2]).map c3)) :: .bot :: .c (.sl (([y26.1, y26.2.1, y26.2.2.1, y26.2.2.2]).map c3)) :: bt 8 [])))), [(112, .box [Ti y13.1.1, Ti y13.1.2.1, Ti y13.1.2.2]), (32, .box [Ti 0, Ti 0, Ti 0])]⟩) rfl rfl (X_of_Y0 rfl (Y0_sliceA (c := c3) (xs := [y26.1, y26.2.1, y26.2.2.1, y26.2.2.2]) Tryd.underlying83 sz3 (fun _ => rfl) (by decide) rfl rfl (by kernel_rfl))) (by kernel_rfl) rfl (hE_cons (by kernel_rfl) (hE_cons (by kernel_rfl) hE_nil)) ?_
     refine step_cons (s2 := ⟨bt 4 (.pt 32 0 :: bt 9 (.pt 112 0 :: bt 8 (.pe [Ti y24.1, Ti y24.2.1, Ti y24.2.2.1, Ti y24.2.2.2] :: .pe [Ti y26.1, Ti y26.2.1, Ti y26.2.2.1, Ti y26.2.2.2] :: bt 111 (.ow 1088 :: .c (.sl (([y24.1, y24.2.1, y24.2.2.1, y24.2.2.2]).map c3)) :: bt 10 [])))), [(1088, .arr 3 1 ((([] : List Int)).map c3)), (112, .box [Ti y13.1.1, Ti y13.1.2.1, Ti y13.1.2.2]), (32, .box [Ti 0, Ti 0, Ti 0])]⟩) rfl rfl (X_of_Y1 rfl (Y1_bslice0 Tryd.underlying58 sz3 (by decide) rfl rfl)) (by kernel_rfl) rfl (hE_cons (by kernel_rfl) (hE_cons (by kernel_rfl) (hE_cons (by kernel_rfl) hE_nil))) ?_
     exact step_nil
    refine tab_row [3, 2] (by kernel_rfl) (by kernel_rfl) ?_ ?_
    ·refine step_cons (s2 := ⟨bt 4 (.pt 32 0 :: bt 9 (.pt 112 0 :: bt 8 (.pe [Ti y24.1, Ti y24.2.1, Ti y24.2.2.1, Ti y24.2.2.2] :: .pe [Ti y26.1, Ti y26.2.1, Ti y26.2.2.1, Ti y26.2.2.2] :: bt 111 (.ow 1088 :: .c (.sl (([y24.1, y24.2.1, y24.2.2.1, y24.2.2.2]).map c3)) :: .bot :: .c (.sl (([y26.1, y26.2.1, y26.2.2.1, y26.2.2.2]).map c3)) :: bt 8 [])))), [(1088, .arr 3 1 ((([] : List Int)).map c3)), (112, .box [Ti y13.1.1, Ti y13.1.2.1, Ti y13.1.2.2]), (32, .box [Ti 0, Ti 0, Ti 0])]⟩) rfl rfl (X_of_Y0 rfl (Y0_sliceA (c := c3) (xs := [y26.1, y26.2.1, y26.2.2.1, y26.2.2.2]) Tryd.underlying83 sz3 (fun _ => rfl) (by decide) rfl rfl (by kernel_rfl))) (by kernel_rfl) rfl (hE_cons (by kernel_rfl) (hE_cons (by kernel_rfl) (hE_cons (by kernel_rfl) hE_nil))) ?_
     refine step_cons (s2 := ⟨bt 4 (.pt 32 0 :: bt 9 (.pt 112 0 :: bt 8 (.pe [Ti y24.1, Ti y24.2.1, Ti y24.2.2.1, Ti y24.2.2.2] :: .pe [Ti y26.1, Ti y26.2.1, Ti y26.2.2.1, Ti y26.2.2.2] :: bt 112 (.c (.sl (([y24.1, y24.2.1, y24.2.2.1, y24.2.2.2]).map c3)) :: .ow 1088 :: bt 9 [])))), [(1088, .arr 3 1 (((([] : List Int)) ++ ([y24.1, y24.2.1, y24.2.2.1, y24.2.2.2])).map c3)), (112, .box [Ti y13.1.1, Ti y13.1.2.1, Ti y13.1.2.2]), (32, .box [Ti 0, Ti 0, Ti 0])]⟩) rfl rfl (X_appendM (c := c3) (xs := ([] : List Int)) (ys := [y24.1, y24.2.1, y24.2.2.1, y24.2.2.2]) (id := 1088) (z := zv3) rfl rfl Tryd.underlying58 izb3 rfl (by kernel_rfl) (by kernel_rfl) (by kernel_rfl) (fun _ => rfl) (by simp) (room_some hu27) (by decide)) (by kernel_rfl) rfl (hE_cons (by kernel_rfl) (hE_cons (by kernel_rfl) (hE_cons (by kernel_rfl) hE_nil))) ?_
     exact step_nil
    refine tab_row [3] (by kernel_rfl) (by kernel_rfl) ?_ ?_
    ·refine step_cons (s2 := ⟨bt 4 (.pt 32 0 :: bt 9 (.pt 112 0 :: bt 8 (.pe [Ti y24.1, Ti y24.2.1, Ti y24.2.2.1, Ti y24.2.2.2] :: .pe [Ti y26.1, Ti y26.2.1, Ti y26.2.2.1, Ti y26.2.2.2] :: bt 112 (.c (.sl (([y24.1, y24.2.1, y24.2.2.1, y24.2.2.2]).map c3)) :: .ow 1088 :: .c (.sl (([y26.1, y26.2.1, y26.2.2.1, y26.2.2.2]).map c3)) :: bt 8 [])))), [(1088, .arr 3 1 (((([] : List Int)) ++ ([y24.1, y24.2.1, y24.2.2.1, y24.2.2.2])).map c3)), (112, .box [Ti y13.1.1, Ti y13.1.2.1, Ti y13.1.2.2]), (32, .box [Ti 0, Ti 0, Ti 0])]⟩) rfl rfl (X_of_Y0 rfl (Y0_sliceA (c := c3) (xs := [y26.1, y26.2.1, y26.2.2.1, y26.2.2.2]) Tryd.underlying83 sz3 (fun _ => rfl) (by decide) rfl rfl (by kernel_rfl))) (by kernel_rfl) rfl (hE_cons (by kernel_rfl) (hE_cons (by kernel_rfl) (hE_cons (by kernel_rfl) hE_nil))) ?_
     exact step_nil
    refine tab_row [1, 0] (by kernel_rfl) (by kernel_rfl) ?_ ?_
    ·refine step_cons (s2 := ⟨bt 4 (.pt 32 0 :: bt 9 (.pt 112 0 :: bt 8 (.pe [Ti y24.1, Ti y24.2.1, Ti y24.2.2.1, Ti y24.2.2.2] :: .pe [Ti y26.1, Ti y26.2.1, Ti y26.2.2.1, Ti y26.2.2.2] :: bt 112 (.c (.sl (([y24.1, y24.2.1, y24.2.2.1, y24.2.2.2]).map c3)) :: .bot :: .c (.sl (([y26.1, y26.2.1, y26.2.2.1, y26.2.2.2]).map c3)) :: bt 8 [])))), [(112, .box [Ti y13.1.1, Ti y13.1.2.1, Ti y13.1.2.2]), (32, .box [Ti 0, Ti 0, Ti 0])]⟩) rfl rfl (X_of_Y0 rfl (Y0_sliceA (c := c3) (xs := [y24.1, y24.2.1, y24.2.2.1, y24.2.2.2]) Tryd.underlying83 sz3 (fun _ => rfl) (by decide) rfl rfl (by kernel_rfl))) (by kernel_rfl) rfl (hE_cons (by kernel_rfl) (hE_cons (by kernel_rfl) hE_nil)) ?_
     refine step_cons (s2 := ⟨bt 4 (.pt 32 0 :: bt 9 (.pt 112 0 :: bt 8 (.pe [Ti y24.1, Ti y24.2.1, Ti y24.2.2.1, Ti y24.2.2.2] :: .pe [Ti y26.1, Ti y26.2.1, Ti y26.2.2.1, Ti y26.2.2.2] :: bt 111 (.ow 1088 :: .bot :: .bot :: .c (.sl (([y26.1, y26.2.1, y26.2.2.1, y26.2.2.2]).map c3)) :: bt 8 [])))), [(1088, .arr 3 1 ((([] : List Int)).map c3)), (112, .box [Ti y13.1.1, Ti y13.1.2.1, Ti y13.1.2.2]), (32, .box [Ti 0, Ti 0, Ti 0])]⟩) rfl rfl (X_of_Y1 rfl (Y1_bslice0 Tryd.underlying58 sz3 (by decide) rfl rfl)) (by kernel_rfl) rfl (hE_cons (by kernel_rfl) (hE_cons (by kernel_rfl) (hE_cons (by kernel_rfl) hE_nil))) ?_
     exact step_nil
    refine tab_row [1] (by kernel_rfl) (by kernel_rfl) ?_ ?_
    ·refine step_cons (s2 := ⟨bt 4 (.pt 32 0 :: bt 9 (.pt 112 0 :: bt 8 (.pe [Ti y24.1, Ti y24.2.1, Ti y24.2.2.1, Ti y24.2.2.2] :: .pe [Ti y26.1, Ti y26.2.1, Ti y26.2.2.1, Ti y26.2.2.2] :: bt 111 (.ow 1088 :: .c (.sl (([y24.1, y24.2.1, y24.2.2.1, y24.2.2.2]).map c3)) :: .bot :: .c (.sl (([y26.1, y26.2.1, y26.2.2.1, y26.2.2.2]).map c3)) :: bt 8 [])))), [(1088, .arr 3 1 ((([] : List Int)).map c3)), (112, .box [Ti y13.1.1, Ti y13.1.2.1, Ti y13.1.2.2]), (32, .box [Ti 0, Ti 0, Ti 0])]⟩) rfl rfl (X_of_Y0 rfl (Y0_sliceA (c := c3) (xs := [y24.1, y24.2.1, y24.2.2.1, y24.2.2.2]) Tryd.underlying83 sz3 (fun _ => rfl) (by decide) rfl rfl (by kernel_rfl))) (by kernel_rfl) rfl (hE_cons (by kernel_rfl) (hE_cons (by kernel_rfl) (hE_cons (by kernel_rfl) hE_nil))) ?_
     exact step_nil
    refine tab_row [0] (by kernel_rfl) (by kernel_rfl) ?_ ?_
    ·refine step_cons (s2 := ⟨bt 4 (.pt 32 0 :: bt 9 (.pt 112 0 :: bt 8 (.pe [Ti y24.1, Ti y24.2.1, Ti y24.2.2.1, Ti y24.2.2.2] :: .pe [Ti y26.1, Ti y26.2.1, Ti y26.2.2.1, Ti y26.2.2.2] :: bt 111 (.ow 1088 :: .c (.sl (([y24.1, y24.2.1, y24.2.2.1, y24.2.2.2]).map c3)) :: .bot :: .c (.sl (([y26.1, y26.2.1, y26.2.2.1, y26.2.2.2]).map c3)) :: bt 8 [])))), [(1088, .arr 3 1 ((([] : List Int)).map c3)), (112, .box [Ti y13.1.1, Ti y13.1.2.1, Ti y13.1.2.2]), (32, .box [Ti 0, Ti 0, Ti 0])]⟩) rfl rfl (X_of_Y1 rfl (Y1_bslice0 Tryd.underlying58 sz3 (by decide) rfl rfl)) (by kernel_rfl) rfl (hE_cons (by kernel_rfl) (hE_cons (by kernel_rfl) (hE_cons (by kernel_rfl) hE_nil))) ?_
     exact step_nil
    refine tab_row [2] (by kernel_rfl) (by kernel_rfl) ?_ ?_
    ·refine step_cons (s2 := ⟨bt 4 (.pt 32 0 :: bt 9 (.pt 112 0 :: bt 8 (.pe [Ti y24.1, Ti y24.2.1, Ti y24.2.2.1, Ti y24.2.2.2] :: .pe [Ti y26.1, Ti y26.2.1, Ti y26.2.2.1, Ti y26.2.2.2] :: bt 112 (.c (.sl (([y24.1, y24.2.1, y24.2.2.1, y24.2.2.2]).map c3)) :: .ow 1088 :: .c (.sl (([y26.1, y26.2.1, y26.2.2.1, y26.2.2.2]).map c3)) :: bt 8 [])))), [(1088, .arr 3 1 (((([] : List Int)) ++ ([y24.1, y24.2.1, y24.2.2.1, y24.2.2.2])).map c3)), (112, .box [Ti y13.1.1, Ti y13.1.2.1, Ti y13.1.2.2]), (32, .box [Ti 0, Ti 0, Ti 0])]⟩) rfl rfl (X_appendM (c := c3) (xs := ([] : List Int)) (ys := [y24.1, y24.2.1, y24.2.2.1, y24.2.2.2]) (id := 1088) (z := zv3) rfl rfl Tryd.underlying58 izb3 rfl (by kernel_rfl) (by kernel_rfl) (by kernel_rfl) (fun _ => rfl) (by simp) (room_some hu27) (by decide)) (by kernel_rfl) rfl (hE_cons (by kernel_rfl) (hE_cons (by kernel_rfl) (hE_cons (by kernel_rfl) hE_nil))) ?_
     exact step_nil
    refine tab_row [4] (by kernel_rfl) (by kernel_rfl) ?_ ?_
    ·refine step_cons (s2 := ⟨bt 4 (.pt 32 0 :: bt 9 (.pt 112 0 :: bt 8 (.pe [Ti y24.1, Ti y24.2.1, Ti y24.2.2.1, Ti y24.2.2.2] :: .pe [Ti y26.1, Ti y26.2.1, Ti y26.2.2.1, Ti y26.2.2.2] :: bt 112 (.c (.sl (([y24.1, y24.2.1, y24.2.2.1, y24.2.2.2]).map c3)) :: .bot :: .c (.sl (([y26.1, y26.2.1, y26.2.2.1, y26.2.2.2]).map c3)) :: .ow 1088 :: bt 7 [])))), [(1088, .arr 3 1 ((((([] : List Int)) ++ ([y24.1, y24.2.1, y24.2.2.1, y24.2.2.2])) ++ ([y26.1, y26.2.1, y26.2.2.1, y26.2.2.2])).map c3)), (112, .box [Ti y13.1.1, Ti y13.1.2.1, Ti y13.1.2.2]), (32, .box [Ti 0, Ti 0, Ti 0])]⟩) rfl rfl (X_appendM (c := c3) (xs := (([] : List Int)) ++ ([y24.1, y24.2.1, y24.2.2.1, y24.2.2.2])) (ys := [y26.1, y26.2.1, y26.2.2.1, y26.2.2.2]) (id := 1088) (z := zv3) rfl rfl Tryd.underlying58 izb3 rfl (by kernel_rfl) (by kernel_rfl) (by kernel_rfl) (fun _ => rfl) (by simp) (room_some hu28) (by decide)) (by kernel_rfl) rfl (hE_cons (by kernel_rfl) (hE_cons (by kernel_rfl) (hE_cons (by kernel_rfl) hE_nil))) ?_
     exact step_nil
    refine tab_row [5] (by kernel_rfl) (by kernel_rfl) ?_ ?_
    ·refine step_cons (s2 := ⟨bt 4 (.pt 32 0 :: bt 9 (.pt 112 0 :: bt 8 (.pe [Ti y24.1, Ti y24.2.1, Ti y24.2.2.1, Ti y24.2.2.2] :: .pe [Ti y26.1, Ti y26.2.1, Ti y26.2.2.1, Ti y26.2.2.2] :: .ow 1088 :: bt 111 (.c (.sl (([y24.1, y24.2.1, y24.2.2.1, y24.2.2.2]).map c3)) :: .bot :: .c (.sl (([y26.1, y26.2.1, y26.2.2.1, y26.2.2.2]).map c3)) :: .ow 1088 :: bt 7 [])))), [(1088, .arr 3 1 ((((([] : List Int)) ++ ([y24.1, y24.2.1, y24.2.2.1, y24.2.2.2])) ++ ([y26.1, y26.2.1, y26.2.2.1, y26.2.2.2])).map c3)), (112, .box [Ti y13.1.1, Ti y13.1.2.1, Ti y13.1.2.2]), (32, .box [Ti 0, Ti 0, Ti 0])]⟩) rfl rfl (X_of_Y0 rfl (E_assign (.ow 1088) rfl (by kernel_rfl))) (by kernel_rfl) rfl (hE_cons (by kernel_rfl) (hE_cons (by kernel_rfl) (hE_cons (by kernel_rfl) hE_nil))) ?_
     exact step_nil
    refine tab_last (by kernel_rfl) ?_ tab_nil
    subst hl29
    kernel_rfl
   refine V_seq ?_
   obtain ⟨y30, hy30, h⟩ := of_bind h
   refine V_sreg (mb 148 11150372599265311570767859136324180786561040) [1088, 112, 32] (s1 := ⟨bt 4 (.pt 32 0 :: bt 9 (.pt 112 0 :: bt 10 (.ow 1088 :: bt 117 (Bo (!y30) :: bt 4 [])))), [(1088, .arr 3 1 (l29.map c3)), (112, .box [Ti y13.1.1, Ti y13.1.2.1, Ti y13.1.2.2]), (32, .box [Ti 0, Ti 0, Ti 0])]⟩) ?_ ?_
   ·refine XR 1 ?_
    refine L1 rfl rfl (Y1_callS (s_impl_areNumbers hy30) cf_impl_areNumbers rfl (by kernel_rfl) rfl rfl) ?_
    exact XE
   refine V_cond rfl (fun hc31 => ?_) (fun hc31 => ?_)
   ·have h := of_true h hc31
    refine V_sreg (mb 148 112) [1160, 32] (s1 := ⟨bt 4 (.pt 32 0 :: .ow 1160 :: Bo false :: bt 141 []), [(1160, .arr 3 1 ((([] : List Int)).map c3)), (32, .box [Ti 0, Ti 0, Ti 0])]⟩) ?_ ?_
    ·refine L0 rfl rfl (Y0_build (cs := [Ti 0, Ti 0, Ti 0]) pl27 bt27 rfl rfl (by kernel_rfl)) ?_
     refine L1 rfl rfl (Y1_bslice0 Tryd.underlying58 sz3 (by decide) rfl rfl) ?_
     exact XE
    refine V_ret ?_
    obtain rfl := some_inj h
    show Post _ _ _ _ _
    exact ⟨.inr rfl, rfl, rfl, rfl⟩
   ·have h := of_false h hc31
    refine V_skip ?_
    show V _ _ _ _
    refine V_e (mb 148 112) [1088, 32] (s1 := ⟨bt 4 (.pt 32 0 :: .ow 1088 :: Bo true :: bt 141 []), [(1088, .arr 3 1 (l29.map c3)), (32, .box [Ti y13.1.1, Ti y13.1.2.1, Ti y13.1.2.2])]⟩) ?_
    refine V_ret ?_
    obtain rfl := some_inj h
    show Post _ _ _ _ _
    exact ⟨.inr rfl, rfl, rfl, rfl⟩
theorem cf_impl_formText : ∀ args w, (callFunc 26 args).run Tryd.prog w = .ok (.enter 26 args) w := run_callFunc Tryd.func26 (by kernel_rfl) (by kernel_rfl)
theorem s_impl_formText {f1 : (Int × Int × Int)} {r : ByteArray} (h : r_impl_formText f1 = some r) : CallS Tryd.prog 26 [.ag [Ti f1.1, Ti f1.2.1, Ti f1.2.2]] (.c (.v (.string r))) [] := by
  refine CallS_of_text (rs := [.t 2]) (vs := [.tmp 2]) Tryd.func26 rfl rfl (.cons rfl FitsL.nil) (by decide) 18 rfl ?_
  unfold r_impl_formText at h
  show V _ _ ⟨.ag [Ti f1.1, Ti f1.2.1, Ti f1.2.2] :: bt 17 [], []⟩ _
  refine V_e (mb 18 2) [8] (s1 := ⟨.bot :: .pt 8 0 :: bt 16 [], [(8, .box [Ti f1.1, Ti f1.2.1, Ti f1.2.2])]⟩) ?_
  obtain ⟨y2, hy2, h⟩ := of_bind h
  obtain ⟨u3, hu3, h⟩ := of_bind h
  obtain ⟨u4, hu4, h⟩ := of_bind h
  obtain ⟨y5, hy5, h⟩ := of_bind h
  obtain ⟨u6, hu6, h⟩ := of_bind h
  obtain ⟨u7, hu7, h⟩ := of_bind h
  obtain ⟨y8, hy8, h⟩ := of_bind h
  obtain ⟨u9, hu9, h⟩ := of_bind h
  obtain ⟨u10, hu10, h⟩ := of_bind h
  refine V_sdreg [0, 1, 3, 7, 15, 0, 32, 103, 255, 511, 0, 1024, 3303, 8191, 16383, 32767] 16 (cdm 16 [10496000, 10496001, 10496005, 44083221, 44083285, 10486442, 10487466, 10491541, 44062037, 44127573, 699050, 1747626, 5920405, 22369621, 89478485, 357913941]) (mb 18 4) [] (s1 := ⟨.bot :: .bot :: .c (.v (.string ((((((((⟨#[40]⟩ : ByteArray)) ++ y2) ++ ((⟨#[44]⟩ : ByteArray))) ++ y5) ++ ((⟨#[44]⟩ : ByteArray))) ++ y8) ++ ((⟨#[41]⟩ : ByteArray))))) :: bt 15 [], []⟩) (by kernel_rfl) (by kernel_rfl) ?_ ?_
  ·refine DR 2 ?_
   refine DC 2 (s_strconv_Itoa hy2) cf_strconv_Itoa rfl rfl rfl rfl 5 rfl ?_
   refine DE_0 3 (.c (.v (.string (((⟨#[40]⟩ : ByteArray)) ++ y2)))) (by kernel_rfl) rfl rfl rfl (gsat_none rfl) (by kernel_rfl) (Y0_cat (a := (⟨#[40]⟩ : ByteArray)) (b := y2) rfl (by kernel_rfl) (by kernel_rfl) (catR_some hu3)) 6 rfl ?_
   refine DE_0 4 (.c (.v (.string ((((⟨#[40]⟩ : ByteArray)) ++ y2) ++ ((⟨#[44]⟩ : ByteArray)))))) (by kernel_rfl) rfl rfl rfl (gsat_none rfl) (by kernel_rfl) (Y0_cat (a := ((⟨#[40]⟩ : ByteArray)) ++ y2) (b := (⟨#[44]⟩ : ByteArray)) rfl (by kernel_rfl) (by kernel_rfl) (catR_some hu4)) 7 rfl ?_
   refine DR 2 ?_
   refine DC 7 (s_strconv_Itoa hy5) cf_strconv_Itoa rfl rfl rfl rfl 10 rfl ?_
   refine DE_0 8 (.c (.v (.string (((((⟨#[40]⟩ : ByteArray)) ++ y2) ++ ((⟨#[44]⟩ : ByteArray))) ++ y5)))) (by kernel_rfl) rfl rfl rfl (gsat_none rfl) (by kernel_rfl) (Y0_cat (a := (((⟨#[40]⟩ : ByteArray)) ++ y2) ++ ((⟨#[44]⟩ : ByteArray))) (b := y5) rfl (by kernel_rfl) (by kernel_rfl) (catR_some hu6)) 11 rfl ?_
   refine DE_0 9 (.c (.v (.string ((((((⟨#[40]⟩ : ByteArray)) ++ y2) ++ ((⟨#[44]⟩ : ByteArray))) ++ y5) ++ ((⟨#[44]⟩ : ByteArray)))))) (by kernel_rfl) rfl rfl rfl (gsat_none rfl) (by kernel_rfl) (Y0_cat (a := ((((⟨#[40]⟩ : ByteArray)) ++ y2) ++ ((⟨#[44]⟩ : ByteArray))) ++ y5) (b := (⟨#[44]⟩ : ByteArray)) rfl (by kernel_rfl) (by kernel_rfl) (catR_some hu7)) 12 rfl ?_
   refine DR 2 ?_
   refine DC 12 (s_strconv_Itoa hy8) cf_strconv_Itoa rfl rfl rfl rfl 15 rfl ?_
   refine DE_0 13 (.c (.v (.string (((((((⟨#[40]⟩ : ByteArray)) ++ y2) ++ ((⟨#[44]⟩ : ByteArray))) ++ y5) ++ ((⟨#[44]⟩ : ByteArray))) ++ y8)))) (by kernel_rfl) rfl rfl rfl (gsat_none rfl) (by kernel_rfl) (Y0_cat (a := (((((⟨#[40]⟩ : ByteArray)) ++ y2) ++ ((⟨#[44]⟩ : ByteArray))) ++ y5) ++ ((⟨#[44]⟩ : ByteArray))) (b := y8) rfl (by kernel_rfl) (by kernel_rfl) (catR_some hu9)) 16 rfl ?_
   refine DE_0 14 (.c (.v (.string ((((((((⟨#[40]⟩ : ByteArray)) ++ y2) ++ ((⟨#[44]⟩ : ByteArray))) ++ y5) ++ ((⟨#[44]⟩ : ByteArray))) ++ y8) ++ ((⟨#[41]⟩ : ByteArray)))))) (by kernel_rfl) rfl rfl rfl (gsat_none rfl) (by kernel_rfl) (Y0_cat (a := ((((((⟨#[40]⟩ : ByteArray)) ++ y2) ++ ((⟨#[44]⟩ : ByteArray))) ++ y5) ++ ((⟨#[44]⟩ : ByteArray))) ++ y8) (b := (⟨#[41]⟩ : ByteArray)) rfl (by kernel_rfl) (by kernel_rfl) (catR_some hu10)) 17 rfl ?_
   refine DA 1 ?_
   exact XE
  refine V_ret ?_
  obtain rfl := some_inj h
  show Post _ _ _ _ _
  exact ⟨.inr rfl, rfl, rfl, rfl⟩
theorem cf_impl_certificate : ∀ args w, (callFunc 25 args).run Tryd.prog w = .ok (.enter 25 args) w := run_callFunc Tryd.func25 (by kernel_rfl) (by kernel_rfl)
theorem s_impl_certificate {kind1 : ByteArray} {words2 : List ByteArray} {r : ByteArray} (h : r_impl_certificate kind1 words2 = some r) : CallS Tryd.prog 25 [.c (.v (.string kind1)), .c (.sl (words2.map c9))] (.c (.v (.string r))) [] := by
  refine CallS_of_text (rs := [.t 4]) (vs := [.tmp 4]) Tryd.func25 rfl rfl (.cons rfl FitsL.nil) (by decide) 10 rfl ?_
  unfold r_impl_certificate at h
  show V _ _ ⟨.c (.v (.string kind1)) :: .c (.sl (words2.map c9)) :: bt 8 [], []⟩ _
  refine V_e (mb 10 3) [] (s1 := ⟨.c (.v (.string kind1)) :: .c (.sl (words2.map c9)) :: bt 8 [], []⟩) ?_
  obtain ⟨u3, hu3, h⟩ := of_bind h
  obtain ⟨y4, hy4, h⟩ := of_bind h
  obtain ⟨u5, hu5, h⟩ := of_bind h
  refine V_sreg (mb 10 16) [] (s1 := ⟨bt 4 (.c (.v (.string ((kind1 ++ ((⟨#[32]⟩ : ByteArray))) ++ y4))) :: bt 5 []), []⟩) ?_ ?_
  ·refine XR 1 ?_
   refine L0 rfl rfl (Y0_cat (a := kind1) (b := (⟨#[32]⟩ : ByteArray)) rfl (by kernel_rfl) (by kernel_rfl) (catR_some hu3)) ?_
   refine XR 1 ?_
   refine XC (s_strings_Join hy4) cf_strings_Join rfl rfl rfl ?_
   refine L0 rfl rfl (Y0_cat (a := kind1 ++ ((⟨#[32]⟩ : ByteArray))) (b := y4) rfl (by kernel_rfl) (by kernel_rfl) (catR_some hu5)) ?_
   exact XE
  refine V_ret ?_
  obtain rfl := some_inj h
  show Post _ _ _ _ _
  exact ⟨.inr rfl, rfl, rfl, rfl⟩
theorem cf_impl_CompositeCertificate : ∀ args w, (callFunc 18 args).run Tryd.prog w = .ok (.enter 18 args) w := run_callFunc Tryd.func18 (by kernel_rfl) (by kernel_rfl)
theorem s_impl_CompositeCertificate {f1 : (Int × Int × Int)} {g2 : (Int × Int × Int)} {r : (ByteArray × Bool)} (h : r_impl_CompositeCertificate f1 g2 = some r) : CallS Tryd.prog 18 [.ag [Ti f1.1, Ti f1.2.1, Ti f1.2.2], .ag [Ti g2.1, Ti g2.2.1, Ti g2.2.2]] (.tc (.c (.v (.string r.1))) (.tc (Bo r.2) .tn)) [] := by
  refine CallS_of_text (rs := [.t 4, .t 5]) (vs := [.tmp 4, .tmp 5]) Tryd.func18 rfl rfl (.cons rfl (.cons rfl FitsL.nil)) (by decide) 42 rfl ?_
  unfold r_impl_CompositeCertificate at h
  show V _ _ ⟨.ag [Ti f1.1, Ti f1.2.1, Ti f1.2.2] :: .ag [Ti g2.1, Ti g2.2.1, Ti g2.2.2] :: bt 40 [], []⟩ _
  refine V_e (mb 42 12) [24, 16] (s1 := ⟨.bot :: .bot :: .pt 16 0 :: .pt 24 0 :: bt 38 [], [(24, .box [Ti g2.1, Ti g2.2.1, Ti g2.2.2]), (16, .box [Ti f1.1, Ti f1.2.1, Ti f1.2.2])]⟩) ?_
  obtain ⟨y3, hy3, h⟩ := of_bind h
  refine V_sreg (mb 42 460) [48, 121, 24, 16] (s1 := ⟨.bot :: .bot :: .pt 16 0 :: .pt 24 0 :: .bot :: .bot :: .pt 48 0 :: .ow 121 :: Bo y3.2.2 :: bt 33 [], [(48, .box [Ti y3.1.1, Ti y3.1.2.1, Ti y3.1.2.2]), (121, .arr 3 1 (y3.2.1.map c3)), (24, .box [Ti g2.1, Ti g2.2.1, Ti g2.2.2]), (16, .box [Ti f1.1, Ti f1.2.1, Ti f1.2.2])]⟩) ?_ ?_
  ·refine XR 2 ?_
   refine XC (s_impl_CompositionProof hy3) cf_impl_CompositionProof rfl rfl rfl ?_
   exact XE
  refine V_seq ?_
  refine V_e (mb 42 1048780) [48, 121, 24, 16] (s1 := ⟨.bot :: .bot :: .pt 16 0 :: .pt 24 0 :: .bot :: .bot :: .pt 48 0 :: .ow 121 :: bt 12 (Bo (!y3.2.2) :: bt 21 []), [(48, .box [Ti y3.1.1, Ti y3.1.2.1, Ti y3.1.2.2]), (121, .arr 3 1 (y3.2.1.map c3)), (24, .box [Ti g2.1, Ti g2.2.1, Ti g2.2.2]), (16, .box [Ti f1.1, Ti f1.2.1, Ti f1.2.2])]⟩) ?_
  refine V_cond rfl (fun hc4 => ?_) (fun hc4 => ?_)
  ·have h := of_true h hc4
   refine V_e (mb 42 48) [] (s1 := ⟨bt 4 (.c (.v (.string ((⟨#[]⟩ : ByteArray)))) :: Bo false :: bt 36 []), []⟩) ?_
   refine V_ret ?_
   obtain rfl := some_inj h
   show Post _ _ _ _ _
   exact ⟨.inr rfl, rfl, rfl, rfl⟩
  ·have h := of_false h hc4
   refine V_skip ?_
   show V _ _ _ _
   obtain ⟨y5, hy5, h⟩ := of_bind h
   obtain ⟨y6, hy6, h⟩ := of_bind h
   obtain ⟨y7, hy7, h⟩ := of_bind h
   refine V_sdreg [0, 1, 0, 7, 0, 31, 63, 127] 8 (cdm 8 [544, 545, 522, 533, 170, 341, 1365, 5461]) (mb 42 640) [216, 121] (s1 := ⟨bt 7 (.ow 121 :: .bot :: .ow 216 :: bt 32 []), [(216, .arr 9 1 (([y5, y6, y7]).map c9)), (121, .arr 3 1 (y3.2.1.map c3))]⟩) (by kernel_rfl) (by kernel_rfl) ?_ ?_
   ·refine DR 1 ?_
    refine DC 1 (s_impl_formText hy5) cf_impl_formText rfl rfl rfl rfl 22 rfl ?_
    refine DR 1 ?_
    refine DC 3 (s_impl_formText hy6) cf_impl_formText rfl rfl rfl rfl 24 rfl ?_
    refine DR 1 ?_
    refine DC 5 (s_impl_formText hy7) cf_impl_formText rfl rfl rfl rfl 26 rfl ?_
    refine DE_1 6 (by kernel_rfl) rfl rfl rfl (gsat_none rfl) (Y1_bslice (z := zv9) (els := [y5, y6, y7].map c9) Tryd.underlying24 iz9 rfl (by decide) rfl (by kernel_rfl) rfl (by simp [c9]) (by decide) (by decide)) rfl rfl rfl 27 rfl ?_
    refine DA 1 ?_
    exact XE
   refine V_seq ?_
   refine V_sreg (mb 42 1879048704) [216, 121] (s1 := ⟨bt 9 (.ow 216 :: bt 18 (.ow 121 :: I ((y3.2.1.length : Int)) :: I 0 :: bt 11 [])), [(216, .arr 9 1 (([y5, y6, y7]).map c9)), (121, .arr 3 1 (y3.2.1.map c3))]⟩) ?_ ?_
   ·refine XR 1 ?_
    refine L0 rfl rfl (Y0_lenM (c := c3) (xs := y3.2.1) Tryd.underlying58 rfl (by kernel_rfl)) ?_
    exact XE
   obtain ⟨o11, hLo11, h⟩ := of_bind h
   refine V_toK (mb 42 512) [216] (s1 := ⟨bt 9 (.ow 216 :: bt 32 []), [(216, .arr 9 1 (o11.map c9))]⟩) ?_ ?_
   ·clear h
    refine V_block (V_loop (fun n s => ∃ (t8 : Int) (l9 : List ByteArray), s.keep (mb 42 1879048704) [216, 121] = (⟨bt 9 (.ow 216 :: bt 18 (.ow 121 :: I ((y3.2.1.length : Int)) :: I t8 :: bt 11 [])), [(216, .arr 9 1 (l9.map c9)), (121, .arr 3 1 (y3.2.1.map c3))]⟩ : St) ∧ r_impl_CompositeCertificate_L10 y3 n t8 l9 = some o11) FU ⟨_, _,  by rfl, hLo11⟩ ?_)
    clear hLo11
    rintro n s ⟨t8, l9, hs, h⟩
    refine V_keep _ _ hs ?_
    clear hs
    cases n with
    | zero => cases h
    | succ n =>
     rw [r_impl_CompositeCertificate_L10] at h
     refine V_e (mb 42 4026532352) [216, 121] (s1 := ⟨bt 9 (.ow 216 :: bt 18 (.ow 121 :: I ((y3.2.1.length : Int)) :: I t8 :: Bo (ltI t8 ((y3.2.1.length : Int))) :: bt 10 [])), [(216, .arr 9 1 (l9.map c9)), (121, .arr 3 1 (y3.2.1.map c3))]⟩) ?_
     refine V_seq ?_
     refine V_cond rfl (fun hc12 => ?_) (fun hc12 => ?_)
     ·have h := of_true h hc12
      refine V_skip ?_
      show V _ _ _ _
      refine V_seq ?_
      refine V_block ?_
      obtain ⟨e13, he13, h⟩ := of_bind h
      obtain ⟨e14, he14, h⟩ := of_bind h
      refine V_sreg (mb 42 1879050752) [216, 121] (s1 := ⟨bt 9 (.ow 216 :: .bot :: I e14 :: bt 16 (.ow 121 :: I ((y3.2.1.length : Int)) :: I t8 :: bt 11 [])), [(216, .arr 9 1 (l9.map c9)), (121, .arr 3 1 (y3.2.1.map c3))]⟩) ?_ ?_
      ·refine L0 rfl rfl (Y0_idxoM (c := c3) (xs := y3.2.1) (v := e13) (id := 121) (T := 3) (sz := 1) (n := t8) Tryd.underlying58 sz3 rfl (by kernel_rfl) (by kernel_rfl) (by kernel_rfl) he13) ?_
       refine L0 rfl rfl (Y0_loado1 (c := c3) (xs := y3.2.1) (v := e14) (id := 121) (sz := 1) (T := 3) (off := 0) (n := t8) (d := Ti e14) (ds := []) sc3 rfl (by kernel_rfl) (by kernel_rfl) he14 (by kernel_rfl)) ?_
       exact XE
      obtain ⟨y15, hy15, h⟩ := of_bind h
      obtain ⟨u16, hu16, h⟩ := of_bind h
      refine V_reg (mb 42 1879048704) [216, 121] (s1 := ⟨bt 9 (.ow 216 :: bt 18 (.ow 121 :: I ((y3.2.1.length : Int)) :: I t8 :: bt 11 [])), [(216, .arr 9 1 ((l9 ++ ([y15])).map c9)), (121, .arr 3 1 (y3.2.1.map c3))]⟩) ?_ ?_
      ·refine XR 2 ?_
       refine XC (s_strconv_Itoa hy15) cf_strconv_Itoa rfl rfl rfl ?_
       refine L1 rfl rfl (Y1_bslice (z := zv9) (els := [y15].map c9) Tryd.underlying24 iz9 rfl (by decide) rfl (by kernel_rfl) rfl (by simp [c9]) (by decide) (by decide)) ?_
       refine XL_cons rfl (X_appendM (c := c9) (xs := l9) (ys := [y15]) (id := 216) (z := zv9) rfl rfl Tryd.underlying24 izb9 rfl (by kernel_rfl) (by kernel_rfl) (by kernel_rfl) (fun _ => rfl) (by simp) (room_some hu16) (by decide)) ?_
       exact XE
      show V _ _ _ _
      obtain ⟨t17, ht17, h⟩ := of_sI h
      refine V_reg (mb 42 1879048704) [216, 121] (s1 := ⟨bt 9 (.ow 216 :: bt 18 (.ow 121 :: I ((y3.2.1.length : Int)) :: I t17 :: bt 11 [])), [(216, .arr 9 1 ((l9 ++ ([y15])).map c9)), (121, .arr 3 1 (y3.2.1.map c3))]⟩) ?_ ?_
      ·refine XR 2 ?_
       refine XL_nil ?_
       subst ht17
       kernel_rfl
      exact ⟨n, Nat.lt_succ_self n, _, _,  by rfl, h⟩
     ·have h := of_false h hc12
      refine V_exit ?_
      obtain rfl := some_inj h
      show St.keep _ _ _ = _
      rfl
   show V _ _ _ _
   obtain ⟨y18, hy18, h⟩ := of_bind h
   refine V_sreg (mb 42 48) [] (s1 := ⟨bt 4 (.c (.v (.string y18)) :: Bo true :: bt 36 []), []⟩) ?_ ?_
   ·refine XR 1 ?_
    refine L1 rfl rfl (Y1_callS (s_impl_certificate hy18) cf_impl_certificate rfl (by kernel_rfl) rfl rfl) ?_
    exact XE
   refine V_ret ?_
   obtain rfl := some_inj h
   show Post _ _ _ _ _
   exact ⟨.inr rfl, rfl, rfl, rfl⟩
theorem cf_laws_FnExactCompositeCertificate : ∀ args w, (callFunc 6 args).run Tryd.prog w = .ok (.enter 6 args) w := run_callFunc Tryd.func6 (by kernel_rfl) (by kernel_rfl)
theorem s_laws_FnExactCompositeCertificate {aF1 : (Int × Int × Int)} {aG2 : (Int × Int × Int)} {r : Bool} (h : r_laws_FnExactCompositeCertificate aF1 aG2 = some r) : CallS Tryd.prog 6 [.ag [Ti aF1.1, Ti aF1.2.1, Ti aF1.2.2], .ag [Ti aG2.1, Ti aG2.2.1, Ti aG2.2.2]] (Bo r) [] := by
  refine CallS_of_text (rs := [.t 4]) (vs := [.tmp 4]) Tryd.func6 rfl rfl (.cons rfl FitsL.nil) (by decide) 33 rfl ?_
  unfold r_laws_FnExactCompositeCertificate at h
  show V _ _ ⟨.ag [Ti aF1.1, Ti aF1.2.1, Ti aF1.2.2] :: .ag [Ti aG2.1, Ti aG2.2.1, Ti aG2.2.2] :: bt 31 [], []⟩ _
  refine V_e (mb 33 12) [24, 16] (s1 := ⟨.bot :: .bot :: .pt 16 0 :: .pt 24 0 :: bt 29 [], [(24, .box [Ti aG2.1, Ti aG2.2.1, Ti aG2.2.2]), (16, .box [Ti aF1.1, Ti aF1.2.1, Ti aF1.2.2])]⟩) ?_
  obtain ⟨y3, hy3, h⟩ := of_bind h
  obtain ⟨y4, hy4, h⟩ := of_bind h
  obtain ⟨y5, hy5, h⟩ := of_bind h
  refine V_sdreg [0, 1, 0, 7, 15, 31, 63, 63, 127, 511] 10 (cdm 10 [32, 33, 10, 21, 85, 341, 34133, 140629, 38229, 87381]) (mb 33 108) [24, 16] (s1 := ⟨.bot :: .bot :: .pt 16 0 :: .pt 24 0 :: .bot :: .c (.v (.string y5.1)) :: Bo y5.2 :: bt 26 [], [(24, .box [Ti aG2.1, Ti aG2.2.1, Ti aG2.2.2]), (16, .box [Ti aF1.1, Ti aF1.2.1, Ti aF1.2.2])]⟩) (by kernel_rfl) (by kernel_rfl) ?_ ?_
  ·refine DR 1 ?_
   refine DC 1 (s_laws_toForm hy3) cf_laws_toForm rfl rfl rfl rfl 11 rfl ?_
   refine DR 1 ?_
   refine DC 3 (s_laws_toForm hy4) cf_laws_toForm rfl rfl rfl rfl 13 rfl ?_
   refine DC 4 (s_spec_CompositeCertificate hy5) cf_spec_CompositeCertificate rfl rfl rfl rfl 14 rfl ?_
   refine DA 5 ?_
   exact XE
  obtain ⟨y6, hy6, h⟩ := of_bind h
  obtain ⟨y7, hy7, h⟩ := of_bind h
  obtain ⟨y8, hy8, h⟩ := of_bind h
  refine V_sdreg [0, 1, 0, 7, 15, 31, 63, 63, 127, 511] 10 (cdm 10 [32, 33, 10, 21, 85, 341, 34133, 140629, 38229, 87381]) (mb 33 480) [] (s1 := ⟨bt 5 (.c (.v (.string y5.1)) :: Bo y5.2 :: .c (.v (.string y8.1)) :: Bo y8.2 :: bt 24 []), []⟩) (by kernel_rfl) (by kernel_rfl) ?_ ?_
  ·refine DR 1 ?_
   refine DC 1 (s_laws_toForm hy6) cf_laws_toForm rfl rfl rfl rfl 19 rfl ?_
   refine DR 1 ?_
   refine DC 3 (s_laws_toForm hy7) cf_laws_toForm rfl rfl rfl rfl 21 rfl ?_
   refine DC 4 (s_impl_CompositeCertificate hy8) cf_impl_CompositeCertificate rfl rfl rfl rfl 22 rfl ?_
   refine DA 5 ?_
   exact XE
  refine V_seq ?_
  obtain ⟨t10, ht10, h⟩ := of_bind h
  have ht10 := some_inj ht10
  refine V_sreg (mb 33 4294967296) [] (s1 := ⟨bt 32 (Bo t10 :: []), []⟩) ?_ ?_
  ·refine XR 2 ?_
   refine L0 rfl rfl (Y0_nes (a := y8.1) (b := y5.1) rfl (by kernel_rfl) (by kernel_rfl)) ?_
   refine XR 1 ?_
   refine XL_split (!(y8.1.toList == y5.1.toList)) (fun hc9 => ?_) (fun hc9 => ?_)
   ·refine XL_skipF _ rfl rfl (by kernel_rfl) hc9 rfl ?_
    refine XL_skipF _ rfl rfl (by kernel_rfl) hc9 rfl ?_
    refine XL_skipF _ rfl rfl (by kernel_rfl) hc9 rfl ?_
    refine XL_cons rfl (X_of_Y0 rfl (Y0_pick1 (b := !(y8.1.toList == y5.1.toList)) (p := true) (q := y8.2 != y5.2) rfl (by kernel_rfl) hc9 (by kernel_rfl))) ?_
    refine XL_nil ?_
    subst ht10
    kernel_rfl
   ·refine XL_takeC _ rfl rfl (by kernel_rfl) hc9 (X_of_Y0 rfl (E_move (Bo y8.2) rfl (by kernel_rfl))) ?_
    refine XL_takeC _ rfl rfl (by kernel_rfl) hc9 (X_of_Y0 rfl (E_move (Bo y5.2) rfl (by kernel_rfl))) ?_
    refine XL_takeC _ rfl rfl (by kernel_rfl) hc9 (X_of_Y0 rfl (Y0_neb (a := y8.2) (b := y5.2) Tryd.underlying4 rfl (by kernel_rfl) (by kernel_rfl))) ?_
    refine XL_cons rfl (X_of_Y0 rfl (Y0_pick0 (b := !(y8.1.toList == y5.1.toList)) (p := true) (q := y8.2 != y5.2) rfl (by kernel_rfl) hc9 (by kernel_rfl))) ?_
    refine XL_nil ?_
    subst ht10
    kernel_rfl
  refine V_cond rfl (fun hc11 => ?_) (fun hc11 => ?_)
  ·have h := of_true h hc11
   refine V_e (mb 33 16) [] (s1 := ⟨bt 4 (Bo false :: bt 28 []), []⟩) ?_
   refine V_ret ?_
   obtain rfl := some_inj h
   show Post _ _ _ _ _
   exact ⟨.inr rfl, rfl, rfl, rfl⟩
  ·have h := of_false h hc11
   refine V_skip ?_
   show V _ _ _ _
   refine V_e (mb 33 16) [] (s1 := ⟨bt 4 (Bo true :: bt 28 []), []⟩) ?_
   refine V_ret ?_
   obtain rfl := some_inj h
   show Post _ _ _ _ _
   exact ⟨.inr rfl, rfl, rfl, rfl⟩
end Go.Proofs.YtnifkkihamgmaaaDoor
