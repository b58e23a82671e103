/-
  The functions of the program compute what the plain functions say: more of them.
  Conditions: none.
-/
import Derived.Test.YtafomkclmkfjeaaCmSnd2
namespace Go.Proofs.Ytafomkclmkfjeaa
open Go.RowKit
set_option linter.unusedVariables false
set_option linter.unusedSimpArgs false
set_option maxRecDepth 100000
set_option maxHeartbeats 400000
theorem cf_impl_CompositionProof : ∀ args w, (callFunc 26 args).run Try.prog w = .ok (.enter 26 args) w := run_callFunc Try.func26 (by kernel_rfl) (by kernel_rfl)
theorem s_impl_CompositionProof {f1 : (Int × Int × Int)} {g2 : (Int × Int × Int)} {r : (((Int × Int × Int)) × (List Int) × Bool)} (h : r_impl_CompositionProof f1 g2 = some r) : CallS Try.prog 26 [.ag [Ti f1.1, Ti f1.2.1, Ti f1.2.2], .ag [Ti g2.1, Ti g2.2.1, Ti g2.2.2]] (.tc (.ag [Ti r.1.1, Ti r.1.2.1, Ti r.1.2.2]) (.tc (.ow 1) (.tc (Bo r.2.2) .tn))) [(1, .arr 3 1 (r.2.1.map c3))] := by
  refine CallS_of_text (rs := [.w 4 3, .t 5, .t 6]) (vs := [.cell 4 25, .tmp 5, .tmp 6]) Try.func26 rfl rfl (.cons ⟨rfl, wd25⟩ (.cons rfl (.cons rfl FitsL.nil))) (by decide) 148 rfl ?_
  unfold r_impl_CompositionProof at h
  show V _ _ ⟨.ag [Ti f1.1, Ti f1.2.1, Ti f1.2.2] :: .ag [Ti g2.1, Ti g2.2.1, Ti g2.2.2] :: bt 146 [], []⟩ _
  refine V_sreg (mb 148 28) [32, 24, 16] (s1 := ⟨.bot :: .bot :: .pt 16 0 :: .pt 24 0 :: .pt 32 0 :: bt 143 [], [(32, .box [Ti 0, Ti 0, Ti 0]), (24, .box [Ti g2.1, Ti g2.2.1, Ti g2.2.2]), (16, .box [Ti f1.1, Ti f1.2.1, Ti f1.2.2])]⟩) ?_ ?_
  ·refine XR 3 ?_
   refine L1 rfl rfl (Y1_nil (e := 3) 1 (by decide) (.inl rfl)) ?_
   exact XE
  refine V_seq ?_
  obtain ⟨y3, hy3, h⟩ := of_bind h
  refine V_sreg (mb 148 536870940) [32, 24, 16] (s1 := ⟨.bot :: .bot :: .pt 16 0 :: .pt 24 0 :: .pt 32 0 :: bt 24 (Bo (!y3) :: bt 118 []), [(32, .box [Ti 0, Ti 0, Ti 0]), (24, .box [Ti g2.1, Ti g2.2.1, Ti g2.2.2]), (16, .box [Ti f1.1, Ti f1.2.1, Ti f1.2.2])]⟩) ?_ ?_
  ·refine XR 2 ?_
   refine XC (s_impl_arePair hy3) cf_impl_arePair rfl rfl rfl ?_
   exact XE
  refine V_cond rfl (fun hc4 => ?_) (fun hc4 => ?_)
  ·have h := of_true h hc4
   refine V_sreg (mb 148 112) [248, 32] (s1 := ⟨bt 4 (.pt 32 0 :: .ow 248 :: Bo false :: bt 141 []), [(248, .arr 3 1 ((([] : List Int)).map c3)), (32, .box [Ti 0, Ti 0, Ti 0])]⟩) ?_ ?_
   ·refine L0 rfl rfl (Y0_build (cs := [Ti 0, Ti 0, Ti 0]) pl25 bt25 rfl rfl (by kernel_rfl)) ?_
    refine L1 rfl rfl (Y1_bslice0 Try.underlying47 sz3 (by decide) rfl rfl) ?_
    exact XE
   refine V_ret ?_
   obtain rfl := some_inj h
   show Post _ _ _ _ _
   exact ⟨.inr rfl, rfl, rfl, rfl⟩
  ·have h := of_false h hc4
   refine V_skip ?_
   show V _ _ _ _
   obtain ⟨y5, hy5, h⟩ := of_bind h
   refine V_sreg (mb 148 408) [64, 56, 32, 24] (s1 := ⟨bt 3 (.pt 24 0 :: .pt 32 0 :: .bot :: .bot :: .pt 56 0 :: .pt 64 0 :: bt 139 []), [(64, .box [Ti y5.2.1, Ti y5.2.2.1, Ti y5.2.2.2.1, Ti y5.2.2.2.2]), (56, .box [Ti y5.1.1, Ti y5.1.2.1, Ti y5.1.2.2]), (32, .box [Ti 0, Ti 0, Ti 0]), (24, .box [Ti g2.1, Ti g2.2.1, Ti g2.2.2])]⟩) ?_ ?_
   ·refine XR 1 ?_
    refine XC (s_impl_reduce hy5) cf_impl_reduce rfl rfl rfl ?_
    exact XE
   obtain ⟨y6, hy6, h⟩ := of_bind h
   refine V_sreg (mb 148 1936) [80, 72, 64, 56, 32] (s1 := ⟨bt 4 (.pt 32 0 :: .bot :: .bot :: .pt 56 0 :: .pt 64 0 :: .pt 72 0 :: .pt 80 0 :: bt 137 []), [(80, .box [Ti y6.2.1, Ti y6.2.2.1, Ti y6.2.2.2.1, Ti y6.2.2.2.2]), (72, .box [Ti y6.1.1, Ti y6.1.2.1, Ti y6.1.2.2]), (64, .box [Ti y5.2.1, Ti y5.2.2.1, Ti y5.2.2.2.1, Ti y5.2.2.2.2]), (56, .box [Ti y5.1.1, Ti y5.1.2.1, Ti y5.1.2.2]), (32, .box [Ti 0, Ti 0, Ti 0])]⟩) ?_ ?_
   ·refine XR 1 ?_
    refine XC (s_impl_reduce hy6) cf_impl_reduce rfl rfl rfl ?_
    exact XE
   obtain ⟨y7, hy7, h⟩ := of_bind h
   refine V_sreg (mb 148 3344) [88, 80, 64, 32] (s1 := ⟨bt 4 (.pt 32 0 :: bt 3 (.pt 64 0 :: .bot :: .pt 80 0 :: .pt 88 0 :: bt 136 [])), [(88, .box [Ti y7.1, Ti y7.2.1, Ti y7.2.2.1, Ti y7.2.2.2.1, Ti y7.2.2.2.2.1.1, Ti y7.2.2.2.2.1.2.1, Ti y7.2.2.2.2.1.2.2.1, Ti y7.2.2.2.2.1.2.2.2, Ti y7.2.2.2.2.2.1, Ti y7.2.2.2.2.2.2.1, Ti y7.2.2.2.2.2.2.2.1, Ti y7.2.2.2.2.2.2.2.2]), (80, .box [Ti y6.2.1, Ti y6.2.2.1, Ti y6.2.2.2.1, Ti y6.2.2.2.2]), (64, .box [Ti y5.2.1, Ti y5.2.2.1, Ti y5.2.2.2.1, Ti y5.2.2.2.2]), (32, .box [Ti 0, Ti 0, Ti 0])]⟩) ?_ ?_
   ·refine XR 2 ?_
    refine XC (s_impl_unite hy7) cf_impl_unite rfl rfl rfl ?_
    exact XE
   obtain ⟨y8, hy8, h⟩ := of_bind h
   obtain ⟨y9, hy9, h⟩ := of_bind h
   refine V_sreg (mb 148 7184) [96, 88, 80, 32] (s1 := ⟨bt 4 (.pt 32 0 :: bt 5 (.pt 80 0 :: .pt 88 0 :: .pt 96 0 :: bt 135 [])), [(96, .box [Ti y9.1, Ti y9.2.1, Ti y9.2.2.1, Ti y9.2.2.2]), (88, .box [Ti y7.1, Ti y7.2.1, Ti y7.2.2.1, Ti y7.2.2.2.1, Ti y7.2.2.2.2.1.1, Ti y7.2.2.2.2.1.2.1, Ti y7.2.2.2.2.1.2.2.1, Ti y7.2.2.2.2.1.2.2.2, Ti y7.2.2.2.2.2.1, Ti y7.2.2.2.2.2.2.1, Ti y7.2.2.2.2.2.2.2.1, Ti y7.2.2.2.2.2.2.2.2]), (80, .box [Ti y6.2.1, Ti y6.2.2.1, Ti y6.2.2.2.1, Ti y6.2.2.2.2]), (32, .box [Ti 0, Ti 0, Ti 0])]⟩) ?_ ?_
   ·refine XR 3 ?_
    refine XC (s_impl_Matrix_times hy8) cf_impl_Matrix_times rfl rfl rfl ?_
    refine XC (s_impl_Matrix_inverse hy9) cf_impl_Matrix_inverse rfl rfl rfl ?_
    exact XE
   obtain ⟨y10, hy10, h⟩ := of_bind h
   obtain ⟨y11, hy11, h⟩ := of_bind h
   refine V_sreg (mb 148 14352) [104, 96, 88, 32] (s1 := ⟨bt 4 (.pt 32 0 :: bt 6 (.pt 88 0 :: .pt 96 0 :: .pt 104 0 :: bt 134 [])), [(104, .box [Ti y11.1, Ti y11.2.1, Ti y11.2.2.1, Ti y11.2.2.2]), (96, .box [Ti y9.1, Ti y9.2.1, Ti y9.2.2.1, Ti y9.2.2.2]), (88, .box [Ti y7.1, Ti y7.2.1, Ti y7.2.2.1, Ti y7.2.2.2.1, Ti y7.2.2.2.2.1.1, Ti y7.2.2.2.2.1.2.1, Ti y7.2.2.2.2.1.2.2.1, Ti y7.2.2.2.2.1.2.2.2, Ti y7.2.2.2.2.2.1, Ti y7.2.2.2.2.2.2.1, Ti y7.2.2.2.2.2.2.2.1, Ti y7.2.2.2.2.2.2.2.2]), (32, .box [Ti 0, Ti 0, Ti 0])]⟩) ?_ ?_
   ·refine XR 3 ?_
    refine XC (s_impl_Matrix_times hy10) cf_impl_Matrix_times rfl rfl rfl ?_
    refine XC (s_impl_Matrix_inverse hy11) cf_impl_Matrix_inverse rfl rfl rfl ?_
    exact XE
   obtain ⟨y12, hy12, h⟩ := of_bind h
   obtain ⟨y13, hy13, h⟩ := of_bind h
   refine V_sreg (mb 148 63504) [120, 112, 104, 96, 88, 32] (s1 := ⟨bt 4 (.pt 32 0 :: bt 6 (.pt 88 0 :: .pt 96 0 :: .pt 104 0 :: .pt 112 0 :: .pt 120 0 :: bt 132 [])), [(120, .box [Ti y13.2.1, Ti y13.2.2.1, Ti y13.2.2.2.1, Ti y13.2.2.2.2]), (112, .box [Ti y13.1.1, Ti y13.1.2.1, Ti y13.1.2.2]), (104, .box [Ti y11.1, Ti y11.2.1, Ti y11.2.2.1, Ti y11.2.2.2]), (96, .box [Ti y9.1, Ti y9.2.1, Ti y9.2.2.1, Ti y9.2.2.2]), (88, .box [Ti y7.1, Ti y7.2.1, Ti y7.2.2.1, Ti y7.2.2.2.1, Ti y7.2.2.2.2.1.1, Ti y7.2.2.2.2.1.2.1, Ti y7.2.2.2.2.1.2.2.1, Ti y7.2.2.2.2.1.2.2.2, Ti y7.2.2.2.2.2.1, Ti y7.2.2.2.2.2.2.1, Ti y7.2.2.2.2.2.2.2.1, Ti y7.2.2.2.2.2.2.2.2]), (32, .box [Ti 0, Ti 0, Ti 0])]⟩) ?_ ?_
   ·refine XR 1 ?_
    refine XC (s_impl_united_composite hy12) cf_impl_united_composite rfl rfl rfl ?_
    refine XC (s_impl_reduce hy13) cf_impl_reduce rfl rfl rfl ?_
    exact XE
   obtain ⟨y14, hy14, h⟩ := of_bind h
   refine V_sreg (mb 148 96272) [128, 112, 104, 96, 88, 32] (s1 := ⟨bt 4 (.pt 32 0 :: bt 6 (.pt 88 0 :: .pt 96 0 :: .pt 104 0 :: .pt 112 0 :: .bot :: .pt 128 0 :: bt 131 [])), [(128, .box [Ti y14.1, Ti y14.2.1, Ti y14.2.2.1, Ti y14.2.2.2]), (112, .box [Ti y13.1.1, Ti y13.1.2.1, Ti y13.1.2.2]), (104, .box [Ti y11.1, Ti y11.2.1, Ti y11.2.2.1, Ti y11.2.2.2]), (96, .box [Ti y9.1, Ti y9.2.1, Ti y9.2.2.1, Ti y9.2.2.2]), (88, .box [Ti y7.1, Ti y7.2.1, Ti y7.2.2.1, Ti y7.2.2.2.1, Ti y7.2.2.2.2.1.1, Ti y7.2.2.2.2.1.2.1, Ti y7.2.2.2.2.1.2.2.1, Ti y7.2.2.2.2.1.2.2.2, Ti y7.2.2.2.2.2.1, Ti y7.2.2.2.2.2.2.1, Ti y7.2.2.2.2.2.2.2.1, Ti y7.2.2.2.2.2.2.2.2]), (32, .box [Ti 0, Ti 0, Ti 0])]⟩) ?_ ?_
   ·refine XR 1 ?_
    refine XC (s_impl_Matrix_inverse hy14) cf_impl_Matrix_inverse rfl rfl rfl ?_
    exact XE
   obtain ⟨y15, hy15, h⟩ := of_bind h
   obtain ⟨y16, hy16, h⟩ := of_bind h
   refine V_sdreg [0, 1, 0, 4, 0, 16, 0, 64, 255, 0, 512, 0, 2048, 0, 8192, 0, 32768, 131071, 0, 0, 1048575, 2097151] 20 (cdm 20 [698647882400, 698647882401, 698647882250, 698647882266, 698647879850, 698647880106, 698647841450, 698647845546, 698647860565, 698645392042, 698645654186, 698606070442, 698610264746, 697976924842, 698044033706, 687910595242, 688984337066, 692921390421, 595568798378, 183251937962]) (mb 148 489488) [144, 136, 128, 112, 104, 96, 88, 32] (s1 := ⟨bt 4 (.pt 32 0 :: bt 6 (.pt 88 0 :: .pt 96 0 :: .pt 104 0 :: .pt 112 0 :: .bot :: .pt 128 0 :: .pt 136 0 :: .pt 144 0 :: bt 129 [])), [(144, .box [Ti y16.1, Ti y16.2.1, Ti y16.2.2.1, Ti y16.2.2.2]), (136, .box [Ti y15.1, Ti y15.2.1, Ti y15.2.2.1, Ti y15.2.2.2]), (128, .box [Ti y14.1, Ti y14.2.1, Ti y14.2.2.1, Ti y14.2.2.2]), (112, .box [Ti y13.1.1, Ti y13.1.2.1, Ti y13.1.2.2]), (104, .box [Ti y11.1, Ti y11.2.1, Ti y11.2.2.1, Ti y11.2.2.2]), (96, .box [Ti y9.1, Ti y9.2.1, Ti y9.2.2.1, Ti y9.2.2.2]), (88, .box [Ti y7.1, Ti y7.2.1, Ti y7.2.2.1, Ti y7.2.2.2.1, Ti y7.2.2.2.2.1.1, Ti y7.2.2.2.2.1.2.1, Ti y7.2.2.2.2.1.2.2.1, Ti y7.2.2.2.2.1.2.2.2, Ti y7.2.2.2.2.2.1, Ti y7.2.2.2.2.2.2.1, Ti y7.2.2.2.2.2.2.2.1, Ti y7.2.2.2.2.2.2.2.2]), (32, .box [Ti 0, Ti 0, Ti 0])]⟩) (by kernel_rfl) (by kernel_rfl) ?_ ?_
   ·refine DR 8 ?_
    refine DC 8 (s_impl_outer hy15) cf_impl_outer rfl rfl rfl rfl 71 rfl ?_
    refine DR 8 ?_
    refine DC 17 (s_impl_outer hy16) cf_impl_outer rfl rfl rfl rfl 80 rfl ?_
    refine DA 2 ?_
    exact XE
   obtain ⟨y17, hy17, h⟩ := of_bind h
   obtain ⟨y18, hy18, h⟩ := of_bind h
   refine V_sdreg [0, 1, 0, 4, 0, 16, 0, 64, 255, 0, 512, 0, 2048, 0, 8192, 0, 32768, 131071, 0, 0, 1048575, 2097151] 20 (cdm 20 [698647882400, 698647882401, 698647882250, 698647882266, 698647879850, 698647880106, 698647841450, 698647845546, 698647860565, 698645392042, 698645654186, 698606070442, 698610264746, 697976924842, 698044033706, 687910595242, 688984337066, 692921390421, 595568798378, 183251937962]) (mb 148 2050064) [160, 152, 144, 136, 128, 112, 88, 32] (s1 := ⟨bt 4 (.pt 32 0 :: bt 6 (.pt 88 0 :: .bot :: .bot :: .pt 112 0 :: .bot :: .pt 128 0 :: .pt 136 0 :: .pt 144 0 :: .pt 152 0 :: .pt 160 0 :: bt 127 [])), [(160, .box [Ti y18.1, Ti y18.2.1, Ti y18.2.2.1, Ti y18.2.2.2]), (152, .box [Ti y17.1, Ti y17.2.1, Ti y17.2.2.1, Ti y17.2.2.2]), (144, .box [Ti y16.1, Ti y16.2.1, Ti y16.2.2.1, Ti y16.2.2.2]), (136, .box [Ti y15.1, Ti y15.2.1, Ti y15.2.2.1, Ti y15.2.2.2]), (128, .box [Ti y14.1, Ti y14.2.1, Ti y14.2.2.1, Ti y14.2.2.2]), (112, .box [Ti y13.1.1, Ti y13.1.2.1, Ti y13.1.2.2]), (88, .box [Ti y7.1, Ti y7.2.1, Ti y7.2.2.1, Ti y7.2.2.2.1, Ti y7.2.2.2.2.1.1, Ti y7.2.2.2.2.1.2.1, Ti y7.2.2.2.2.1.2.2.1, Ti y7.2.2.2.2.1.2.2.2, Ti y7.2.2.2.2.2.1, Ti y7.2.2.2.2.2.2.1, Ti y7.2.2.2.2.2.2.2.1, Ti y7.2.2.2.2.2.2.2.2]), (32, .box [Ti 0, Ti 0, Ti 0])]⟩) (by kernel_rfl) (by kernel_rfl) ?_ ?_
   ·refine DR 8 ?_
    refine DC 8 (s_impl_outer hy17) cf_impl_outer rfl rfl rfl rfl 89 rfl ?_
    refine DR 8 ?_
    refine DC 17 (s_impl_outer hy18) cf_impl_outer rfl rfl rfl rfl 98 rfl ?_
    refine DA 2 ?_
    exact XE
   obtain ⟨y19, hy19, h⟩ := of_bind h
   refine V_sreg (mb 148 4016144) [168, 160, 152, 144, 128, 112, 88, 32] (s1 := ⟨bt 4 (.pt 32 0 :: bt 6 (.pt 88 0 :: .bot :: .bot :: .pt 112 0 :: .bot :: .pt 128 0 :: .bot :: .pt 144 0 :: .pt 152 0 :: .pt 160 0 :: .pt 168 0 :: bt 126 [])), [(168, .box [Ti y19.1, Ti y19.2.1, Ti y19.2.2.1, Ti y19.2.2.2]), (160, .box [Ti y18.1, Ti y18.2.1, Ti y18.2.2.1, Ti y18.2.2.2]), (152, .box [Ti y17.1, Ti y17.2.1, Ti y17.2.2.1, Ti y17.2.2.2]), (144, .box [Ti y16.1, Ti y16.2.1, Ti y16.2.2.1, Ti y16.2.2.2]), (128, .box [Ti y14.1, Ti y14.2.1, Ti y14.2.2.1, Ti y14.2.2.2]), (112, .box [Ti y13.1.1, Ti y13.1.2.1, Ti y13.1.2.2]), (88, .box [Ti y7.1, Ti y7.2.1, Ti y7.2.2.1, Ti y7.2.2.2.1, Ti y7.2.2.2.2.1.1, Ti y7.2.2.2.2.1.2.1, Ti y7.2.2.2.2.1.2.2.1, Ti y7.2.2.2.2.1.2.2.2, Ti y7.2.2.2.2.2.1, Ti y7.2.2.2.2.2.2.1, Ti y7.2.2.2.2.2.2.2.1, Ti y7.2.2.2.2.2.2.2.2]), (32, .box [Ti 0, Ti 0, Ti 0])]⟩) ?_ ?_
   ·refine XR 5 ?_
    refine XC (s_impl_bilinear_plus hy19) cf_impl_bilinear_plus rfl rfl rfl ?_
    exact XE
   obtain ⟨y20, hy20, h⟩ := of_bind h
   obtain ⟨y21, hy21, h⟩ := of_bind h
   obtain ⟨y22, hy22, h⟩ := of_bind h
   refine V_sdreg [0, 0, 2, 0, 15, 0, 32, 0, 255, 0, 512, 0, 4095, 0, 16383] 14 (cdm 14 [145270952, 145270914, 145270918, 145270826, 145270869, 145261226, 145262250, 145238698, 145249621, 142781098, 143043242, 137013930, 139810133, 44739242]) (mb 148 6373392) [176, 168, 128, 112, 32] (s1 := ⟨bt 4 (.pt 32 0 :: bt 9 (.pt 112 0 :: .bot :: .pt 128 0 :: bt 4 (.pt 168 0 :: .pt 176 0 :: bt 125 []))), [(176, .box [Ti y22.1, Ti y22.2.1, Ti y22.2.2.1, Ti y22.2.2.2]), (168, .box [Ti y19.1, Ti y19.2.1, Ti y19.2.2.1, Ti y19.2.2.2]), (128, .box [Ti y14.1, Ti y14.2.1, Ti y14.2.2.1, Ti y14.2.2.2]), (112, .box [Ti y13.1.1, Ti y13.1.2.1, Ti y13.1.2.2]), (32, .box [Ti 0, Ti 0, Ti 0])]⟩) (by kernel_rfl) (by kernel_rfl) ?_ ?_
   ·refine DE_0 0 (.ag [Ti 0, Ti 0, Ti 0, Ti 0]) (by kernel_rfl) rfl rfl rfl (gsat_none rfl) (by kernel_rfl) (Y0_build (cs := [Ti 0, Ti 0, Ti 0, Ti 0]) pl95 bt95 rfl rfl (by kernel_rfl)) 105 rfl ?_
    refine DR 3 ?_
    refine DC 4 (s_impl_bilinear_plus hy20) cf_impl_bilinear_plus rfl rfl rfl rfl 109 rfl ?_
    refine DR 3 ?_
    refine DC 8 (s_impl_bilinear_plus hy21) cf_impl_bilinear_plus rfl rfl rfl rfl 113 rfl ?_
    refine DR 3 ?_
    refine DC 12 (s_impl_bilinear_plus hy22) cf_impl_bilinear_plus rfl rfl rfl rfl 117 rfl ?_
    refine DA 1 ?_
    exact XE
   obtain ⟨y23, hy23, h⟩ := of_bind h
   obtain ⟨y24, hy24, h⟩ := of_bind h
   refine V_sdreg [0, 0, 2, 0, 15, 0, 32, 0, 255, 0, 1023] 10 (cdm 10 [567464, 567426, 567430, 567338, 567381, 557738, 558762, 535210, 546133, 174762]) (mb 148 14762000) [184, 176, 168, 128, 112, 32] (s1 := ⟨bt 4 (.pt 32 0 :: bt 9 (.pt 112 0 :: .bot :: .pt 128 0 :: bt 4 (.pt 168 0 :: .pt 176 0 :: .pt 184 0 :: bt 124 []))), [(184, .box [Ti y24.1, Ti y24.2.1, Ti y24.2.2.1, Ti y24.2.2.2]), (176, .box [Ti y22.1, Ti y22.2.1, Ti y22.2.2.1, Ti y22.2.2.2]), (168, .box [Ti y19.1, Ti y19.2.1, Ti y19.2.2.1, Ti y19.2.2.2]), (128, .box [Ti y14.1, Ti y14.2.1, Ti y14.2.2.1, Ti y14.2.2.2]), (112, .box [Ti y13.1.1, Ti y13.1.2.1, Ti y13.1.2.2]), (32, .box [Ti 0, Ti 0, Ti 0])]⟩) (by kernel_rfl) (by kernel_rfl) ?_ ?_
   ·refine DE_0 0 (.ag [Ti 0, Ti 0, Ti 0, Ti 0]) (by kernel_rfl) rfl rfl rfl (gsat_none rfl) (by kernel_rfl) (Y0_build (cs := [Ti 0, Ti 0, Ti 0, Ti 0]) pl95 bt95 rfl rfl (by kernel_rfl)) 118 rfl ?_
    refine DR 3 ?_
    refine DC 4 (s_impl_bilinear_plus hy23) cf_impl_bilinear_plus rfl rfl rfl rfl 122 rfl ?_
    refine DR 3 ?_
    refine DC 8 (s_impl_bilinear_plus hy24) cf_impl_bilinear_plus rfl rfl rfl rfl 126 rfl ?_
    refine DA 1 ?_
    exact XE
   obtain ⟨y25, hy25, h⟩ := of_bind h
   obtain ⟨y26, hy26, h⟩ := of_bind h
   refine V_sdreg [0, 0, 2, 0, 15, 0, 32, 0, 255, 0, 1023] 10 (cdm 10 [567464, 567426, 567430, 567338, 567381, 557738, 558762, 535210, 546133, 174762]) (mb 148 25182224) [192, 184, 112, 32] (s1 := ⟨bt 4 (.pt 32 0 :: bt 9 (.pt 112 0 :: bt 8 (.pt 184 0 :: .pt 192 0 :: bt 123 []))), [(192, .box [Ti y26.1, Ti y26.2.1, Ti y26.2.2.1, Ti y26.2.2.2]), (184, .box [Ti y24.1, Ti y24.2.1, Ti y24.2.2.1, Ti y24.2.2.2]), (112, .box [Ti y13.1.1, Ti y13.1.2.1, Ti y13.1.2.2]), (32, .box [Ti 0, Ti 0, Ti 0])]⟩) (by kernel_rfl) (by kernel_rfl) ?_ ?_
   ·refine DE_0 0 (.ag [Ti 0, Ti 0, Ti 0, Ti 0]) (by kernel_rfl) rfl rfl rfl (gsat_none rfl) (by kernel_rfl) (Y0_build (cs := [Ti 0, Ti 0, Ti 0, Ti 0]) pl95 bt95 rfl rfl (by kernel_rfl)) 127 rfl ?_
    refine DR 3 ?_
    refine DC 4 (s_impl_bilinear_plus hy25) cf_impl_bilinear_plus rfl rfl rfl rfl 131 rfl ?_
    refine DR 3 ?_
    refine DC 8 (s_impl_bilinear_plus hy26) cf_impl_bilinear_plus rfl rfl rfl rfl 135 rfl ?_
    refine DA 1 ?_
    exact XE
   refine V_freezeB 184 (cs := [Ti y24.1, Ti y24.2.1, Ti y24.2.2.1, Ti y24.2.2.2]) (s1 := ⟨bt 4 (.pt 32 0 :: bt 9 (.pt 112 0 :: bt 8 (.pe [Ti y24.1, Ti y24.2.1, Ti y24.2.2.1, Ti y24.2.2.2] :: .pt 192 0 :: bt 123 []))), [(192, .box [Ti y26.1, Ti y26.2.1, Ti y26.2.2.1, Ti y26.2.2.2]), (112, .box [Ti y13.1.1, Ti y13.1.2.1, Ti y13.1.2.2]), (32, .box [Ti 0, Ti 0, Ti 0])]⟩) (by kernel_rfl) (by kernel_rfl) ?_
   refine V_freezeB 192 (cs := [Ti y26.1, Ti y26.2.1, Ti y26.2.2.1, Ti y26.2.2.2]) (s1 := ⟨bt 4 (.pt 32 0 :: bt 9 (.pt 112 0 :: bt 8 (.pe [Ti y24.1, Ti y24.2.1, Ti y24.2.2.1, Ti y24.2.2.2] :: .pe [Ti y26.1, Ti y26.2.1, Ti y26.2.2.1, Ti y26.2.2.2] :: bt 123 []))), [(112, .box [Ti y13.1.1, Ti y13.1.2.1, Ti y13.1.2.2]), (32, .box [Ti 0, Ti 0, Ti 0])]⟩) (by kernel_rfl) (by kernel_rfl) ?_
   obtain ⟨u27, hu27, h⟩ := of_bind h
   obtain ⟨u28, hu28, h⟩ := of_bind h
   obtain ⟨l29, hl29, h⟩ := of_bind h
   have hl29 := some_inj hl29
   refine V_sdagK (mb 148 33570832) [1088, 112, 32] [0, 0, 3, 0, 15, 31] [(0, ⟨bt 4 (.pt 32 0 :: bt 9 (.pt 112 0 :: bt 8 (.pe [Ti y24.1, Ti y24.2.1, Ti y24.2.2.1, Ti y24.2.2.2] :: .pe [Ti y26.1, Ti y26.2.1, Ti y26.2.2.1, Ti y26.2.2.2] :: bt 123 []))), [(112, .box [Ti y13.1.1, Ti y13.1.2.1, Ti y13.1.2.2]), (32, .box [Ti 0, Ti 0, Ti 0])]⟩), (1, ⟨bt 4 (.pt 32 0 :: bt 9 (.pt 112 0 :: bt 8 (.pe [Ti y24.1, Ti y24.2.1, Ti y24.2.2.1, Ti y24.2.2.2] :: .pe [Ti y26.1, Ti y26.2.1, Ti y26.2.2.1, Ti y26.2.2.2] :: bt 111 (.ow 1088 :: bt 11 [])))), [(1088, .arr 3 1 ((([] : List Int)).map c3)), (112, .box [Ti y13.1.1, Ti y13.1.2.1, Ti y13.1.2.2]), (32, .box [Ti 0, Ti 0, Ti 0])]⟩), (2, ⟨bt 4 (.pt 32 0 :: bt 9 (.pt 112 0 :: bt 8 (.pe [Ti y24.1, Ti y24.2.1, Ti y24.2.2.1, Ti y24.2.2.2] :: .pe [Ti y26.1, Ti y26.2.1, Ti y26.2.2.1, Ti y26.2.2.2] :: bt 112 (.c (.sl (([y24.1, y24.2.1, y24.2.2.1, y24.2.2.2]).map c3)) :: bt 10 [])))), [(112, .box [Ti y13.1.1, Ti y13.1.2.1, Ti y13.1.2.2]), (32, .box [Ti 0, Ti 0, Ti 0])]⟩), (3, ⟨bt 4 (.pt 32 0 :: bt 9 (.pt 112 0 :: bt 8 (.pe [Ti y24.1, Ti y24.2.1, Ti y24.2.2.1, Ti y24.2.2.2] :: .pe [Ti y26.1, Ti y26.2.1, Ti y26.2.2.1, Ti y26.2.2.2] :: bt 111 (.ow 1088 :: .c (.sl (([y24.1, y24.2.1, y24.2.2.1, y24.2.2.2]).map c3)) :: bt 10 [])))), [(1088, .arr 3 1 ((([] : List Int)).map c3)), (112, .box [Ti y13.1.1, Ti y13.1.2.1, Ti y13.1.2.2]), (32, .box [Ti 0, Ti 0, Ti 0])]⟩), (7, ⟨bt 4 (.pt 32 0 :: bt 9 (.pt 112 0 :: bt 8 (.pe [Ti y24.1, Ti y24.2.1, Ti y24.2.2.1, Ti y24.2.2.2] :: .pe [Ti y26.1, Ti y26.2.1, Ti y26.2.2.1, Ti y26.2.2.2] :: bt 112 (.c (.sl (([y24.1, y24.2.1, y24.2.2.1, y24.2.2.2]).map c3)) :: .ow 1088 :: bt 9 [])))), [(1088, .arr 3 1 (((([] : List Int)) ++ ([y24.1, y24.2.1, y24.2.2.1, y24.2.2.2])).map c3)), (112, .box [Ti y13.1.1, Ti y13.1.2.1, Ti y13.1.2.2]), (32, .box [Ti 0, Ti 0, Ti 0])]⟩), (8, ⟨bt 4 (.pt 32 0 :: bt 9 (.pt 112 0 :: bt 8 (.pe [Ti y24.1, Ti y24.2.1, Ti y24.2.2.1, Ti y24.2.2.2] :: .pe [Ti y26.1, Ti y26.2.1, Ti y26.2.2.1, Ti y26.2.2.2] :: bt 114 (.c (.sl (([y26.1, y26.2.1, y26.2.2.1, y26.2.2.2]).map c3)) :: bt 8 [])))), [(112, .box [Ti y13.1.1, Ti y13.1.2.1, Ti y13.1.2.2]), (32, .box [Ti 0, Ti 0, Ti 0])]⟩), (9, ⟨bt 4 (.pt 32 0 :: bt 9 (.pt 112 0 :: bt 8 (.pe [Ti y24.1, Ti y24.2.1, Ti y24.2.2.1, Ti y24.2.2.2] :: .pe [Ti y26.1, Ti y26.2.1, Ti y26.2.2.1, Ti y26.2.2.2] :: bt 111 (.ow 1088 :: .bot :: .bot :: .c (.sl (([y26.1, y26.2.1, y26.2.2.1, y26.2.2.2]).map c3)) :: bt 8 [])))), [(1088, .arr 3 1 ((([] : List Int)).map c3)), (112, .box [Ti y13.1.1, Ti y13.1.2.1, Ti y13.1.2.2]), (32, .box [Ti 0, Ti 0, Ti 0])]⟩), (10, ⟨bt 4 (.pt 32 0 :: bt 9 (.pt 112 0 :: bt 8 (.pe [Ti y24.1, Ti y24.2.1, Ti y24.2.2.1, Ti y24.2.2.2] :: .pe [Ti y26.1, Ti y26.2.1, Ti y26.2.2.1, Ti y26.2.2.2] :: bt 112 (.c (.sl (([y24.1, y24.2.1, y24.2.2.1, y24.2.2.2]).map c3)) :: .bot :: .c (.sl (([y26.1, y26.2.1, y26.2.2.1, y26.2.2.2]).map c3)) :: bt 8 [])))), [(112, .box [Ti y13.1.1, Ti y13.1.2.1, Ti y13.1.2.2]), (32, .box [Ti 0, Ti 0, Ti 0])]⟩), (11, ⟨bt 4 (.pt 32 0 :: bt 9 (.pt 112 0 :: bt 8 (.pe [Ti y24.1, Ti y24.2.1, Ti y24.2.2.1, Ti y24.2.2.2] :: .pe [Ti y26.1, Ti y26.2.1, Ti y26.2.2.1, Ti y26.2.2.2] :: bt 111 (.ow 1088 :: .c (.sl (([y24.1, y24.2.1, y24.2.2.1, y24.2.2.2]).map c3)) :: .bot :: .c (.sl (([y26.1, y26.2.1, y26.2.2.1, y26.2.2.2]).map c3)) :: bt 8 [])))), [(1088, .arr 3 1 ((([] : List Int)).map c3)), (112, .box [Ti y13.1.1, Ti y13.1.2.1, Ti y13.1.2.2]), (32, .box [Ti 0, Ti 0, Ti 0])]⟩), (15, ⟨bt 4 (.pt 32 0 :: bt 9 (.pt 112 0 :: bt 8 (.pe [Ti y24.1, Ti y24.2.1, Ti y24.2.2.1, Ti y24.2.2.2] :: .pe [Ti y26.1, Ti y26.2.1, Ti y26.2.2.1, Ti y26.2.2.2] :: bt 112 (.c (.sl (([y24.1, y24.2.1, y24.2.2.1, y24.2.2.2]).map c3)) :: .ow 1088 :: .c (.sl (([y26.1, y26.2.1, y26.2.2.1, y26.2.2.2]).map c3)) :: bt 8 [])))), [(1088, .arr 3 1 (((([] : List Int)) ++ ([y24.1, y24.2.1, y24.2.2.1, y24.2.2.2])).map c3)), (112, .box [Ti y13.1.1, Ti y13.1.2.1, Ti y13.1.2.2]), (32, .box [Ti 0, Ti 0, Ti 0])]⟩), (31, ⟨bt 4 (.pt 32 0 :: bt 9 (.pt 112 0 :: bt 8 (.pe [Ti y24.1, Ti y24.2.1, Ti y24.2.2.1, Ti y24.2.2.2] :: .pe [Ti y26.1, Ti y26.2.1, Ti y26.2.2.1, Ti y26.2.2.2] :: bt 112 (.c (.sl (([y24.1, y24.2.1, y24.2.2.1, y24.2.2.2]).map c3)) :: .bot :: .c (.sl (([y26.1, y26.2.1, y26.2.2.1, y26.2.2.2]).map c3)) :: .ow 1088 :: bt 7 [])))), [(1088, .arr 3 1 ((((([] : List Int)) ++ ([y24.1, y24.2.1, y24.2.2.1, y24.2.2.2])) ++ ([y26.1, y26.2.1, y26.2.2.1, y26.2.2.2])).map c3)), (112, .box [Ti y13.1.1, Ti y13.1.2.1, Ti y13.1.2.2]), (32, .box [Ti 0, Ti 0, Ti 0])]⟩), (63, ⟨bt 4 (.pt 32 0 :: bt 9 (.pt 112 0 :: bt 8 (.pe [Ti y24.1, Ti y24.2.1, Ti y24.2.2.1, Ti y24.2.2.2] :: .pe [Ti y26.1, Ti y26.2.1, Ti y26.2.2.1, Ti y26.2.2.2] :: .ow 1088 :: bt 111 (.c (.sl (([y24.1, y24.2.1, y24.2.2.1, y24.2.2.2]).map c3)) :: .bot :: .c (.sl (([y26.1, y26.2.1, y26.2.2.1, y26.2.2.2]).map c3)) :: .ow 1088 :: bt 7 [])))), [(1088, .arr 3 1 ((((([] : List Int)) ++ ([y24.1, y24.2.1, y24.2.2.1, y24.2.2.2])) ++ ([y26.1, y26.2.1, y26.2.2.1, y26.2.2.2])).map c3)), (112, .box [Ti y13.1.1, Ti y13.1.2.1, Ti y13.1.2.2]), (32, .box [Ti 0, Ti 0, Ti 0])]⟩)] (s1 := ⟨bt 4 (.pt 32 0 :: bt 9 (.pt 112 0 :: bt 10 (.ow 1088 :: bt 122 []))), [(1088, .arr 3 1 (l29.map c3)), (112, .box [Ti y13.1.1, Ti y13.1.2.1, Ti y13.1.2.2]), (32, .box [Ti 0, Ti 0, Ti 0])]⟩) (by kernel_rfl) (by kernel_rfl) (by kernel_rfl) ?_ ?_
   ·refine tab_row [3, 1, 0] (by kernel_rfl) (by kernel_rfl) ?_ ?_
    ·refine step_cons (s2 := ⟨bt 4 (.pt 32 0 :: bt 9 (.pt 112 0 :: bt 8 (.pe [Ti y24.1, Ti y24.2.1, Ti y24.2.2.1, Ti y24.2.2.2] :: .pe [Ti y26.1, Ti y26.2.1, Ti y26.2.2.1, Ti y26.2.2.2] :: bt 114 (.c (.sl (([y26.1, y26.2.1, y26.2.2.1, y26.2.2.2]).map c3)) :: bt 8 [])))), [(112, .box [Ti y13.1.1, Ti y13.1.2.1, Ti y13.1.2.2]), (32, .box [Ti 0, Ti 0, Ti 0])]⟩) rfl rfl (X_of_Y0 rfl (Y0_sliceA (c := c3) (xs := [y26.1, y26.2.1, y26.2.2.1, y26.2.2.2]) Try.underlying95 sz3 (fun _ => rfl) (by decide) rfl rfl (by kernel_rfl))) (by kernel_rfl) rfl (hE_cons (by kernel_rfl) (hE_cons (by kernel_rfl) hE_nil)) ?_
     refine step_cons (s2 := ⟨bt 4 (.pt 32 0 :: bt 9 (.pt 112 0 :: bt 8 (.pe [Ti y24.1, Ti y24.2.1, Ti y24.2.2.1, Ti y24.2.2.2] :: .pe [Ti y26.1, Ti y26.2.1, Ti y26.2.2.1, Ti y26.2.2.2] :: bt 112 (.c (.sl (([y24.1, y24.2.1, y24.2.2.1, y24.2.2.2]).map c3)) :: bt 10 [])))), [(112, .box [Ti y13.1.1, Ti y13.1.2.1, Ti y13.1.2.2]), (32, .box [Ti 0, Ti 0, Ti 0])]⟩) rfl rfl (X_of_Y0 rfl (Y0_sliceA (c := c3) (xs := [y24.1, y24.2.1, y24.2.2.1, y24.2.2.2]) Try.underlying95 sz3 (fun _ => rfl) (by decide) rfl rfl (by kernel_rfl))) (by kernel_rfl) rfl (hE_cons (by kernel_rfl) (hE_cons (by kernel_rfl) hE_nil)) ?_
     refine step_cons (s2 := ⟨bt 4 (.pt 32 0 :: bt 9 (.pt 112 0 :: bt 8 (.pe [Ti y24.1, Ti y24.2.1, Ti y24.2.2.1, Ti y24.2.2.2] :: .pe [Ti y26.1, Ti y26.2.1, Ti y26.2.2.1, Ti y26.2.2.2] :: bt 111 (.ow 1088 :: bt 11 [])))), [(1088, .arr 3 1 ((([] : List Int)).map c3)), (112, .box [Ti y13.1.1, Ti y13.1.2.1, Ti y13.1.2.2]), (32, .box [Ti 0, Ti 0, Ti 0])]⟩) rfl rfl (X_of_Y1 rfl (Y1_bslice0 Try.underlying47 sz3 (by decide) rfl rfl)) (by kernel_rfl) rfl (hE_cons (by kernel_rfl) (hE_cons (by kernel_rfl) (hE_cons (by kernel_rfl) hE_nil))) ?_
     exact step_nil
    refine tab_row [3, 1] (by kernel_rfl) (by kernel_rfl) ?_ ?_
    ·refine step_cons (s2 := ⟨bt 4 (.pt 32 0 :: bt 9 (.pt 112 0 :: bt 8 (.pe [Ti y24.1, Ti y24.2.1, Ti y24.2.2.1, Ti y24.2.2.2] :: .pe [Ti y26.1, Ti y26.2.1, Ti y26.2.2.1, Ti y26.2.2.2] :: bt 111 (.ow 1088 :: .bot :: .bot :: .c (.sl (([y26.1, y26.2.1, y26.2.2.1, y26.2.2.2]).map c3)) :: bt 8 [])))), [(1088, .arr 3 1 ((([] : List Int)).map c3)), (112, .box [Ti y13.1.1, Ti y13.1.2.1, Ti y13.1.2.2]), (32, .box [Ti 0, Ti 0, Ti 0])]⟩) rfl rfl (X_of_Y0 rfl (Y0_sliceA (c := c3) (xs := [y26.1, y26.2.1, y26.2.2.1, y26.2.2.2]) Try.underlying95 sz3 (fun _ => rfl) (by decide) rfl rfl (by kernel_rfl))) (by kernel_rfl) rfl (hE_cons (by kernel_rfl) (hE_cons (by kernel_rfl) (hE_cons (by kernel_rfl) hE_nil))) ?_
     refine step_cons (s2 := ⟨bt 4 (.pt 32 0 :: bt 9 (.pt 112 0 :: bt 8 (.pe [Ti y24.1, Ti y24.2.1, Ti y24.2.2.1, Ti y24.2.2.2] :: .pe [Ti y26.1, Ti y26.2.1, Ti y26.2.2.1, Ti y26.2.2.2] :: bt 111 (.ow 1088 :: .c (.sl (([y24.1, y24.2.1, y24.2.2.1, y24.2.2.2]).map c3)) :: bt 10 [])))), [(1088, .arr 3 1 ((([] : List Int)).map c3)), (112, .box [Ti y13.1.1, Ti y13.1.2.1, Ti y13.1.2.2]), (32, .box [Ti 0, Ti 0, Ti 0])]⟩) rfl rfl (X_of_Y0 rfl (Y0_sliceA (c := c3) (xs := [y24.1, y24.2.1, y24.2.2.1, y24.2.2.2]) Try.underlying95 sz3 (fun _ => rfl) (by decide) rfl rfl (by kernel_rfl))) (by kernel_rfl) rfl (hE_cons (by kernel_rfl) (hE_cons (by kernel_rfl) (hE_cons (by kernel_rfl) hE_nil))) ?_
     exact step_nil
    refine tab_row [3, 0] (by kernel_rfl) (by kernel_rfl) ?_ ?_
    ·refine step_cons (s2 := ⟨bt 4 (.pt 32 0 :: bt 9 (.pt 112 0 :: bt 8 (.pe [Ti y24.1, Ti y24.2.1, Ti y24.2.2.1, Ti y24.2.2.2] :: .pe [Ti y26.1, Ti y26.2.1, Ti y26.2.2.1, Ti y26.2.2.2] :: bt 112 (.c (.sl (([y24.1, y24.2.1, y24.2.2.1, y24.2.2.2]).map c3)) :: .bot :: .c (.sl (([y26.1, y26.2.1, y26.2.2.1, y26.2.2.2]).map c3)) :: bt 8 [])))), [(112, .box [Ti y13.1.1, Ti y13.1.2.1, Ti y13.1.2.2]), (32, .box [Ti 0, Ti 0, Ti 0])]⟩) rfl rfl (X_of_Y0 rfl (Y0_sliceA (c := c3) (xs := [y26.1, y26.2.1, y26.2.2.1, y26.2.2.2]) Try.underlying95 sz3 (fun _ => rfl) (by decide) rfl rfl (by kernel_rfl))) (by kernel_rfl) rfl (hE_cons (by kernel_rfl) (hE_cons (by kernel_rfl) hE_nil)) ?_
     refine step_cons (s2 := ⟨bt 4 (.pt 32 0 :: bt 9 (.pt 112 0 :: bt 8 (.pe [Ti y24.1, Ti y24.2.1, Ti y24.2.2.1, Ti y24.2.2.2] :: .pe [Ti y26.1, Ti y26.2.1, Ti y26.2.2.1, Ti y26.2.2.2] :: bt 111 (.ow 1088 :: .c (.sl (([y24.1, y24.2.1, y24.2.2.1, y24.2.2.2]).map c3)) :: bt 10 [])))), [(1088, .arr 3 1 ((([] : List Int)).map c3)), (112, .box [Ti y13.1.1, Ti y13.1.2.1, Ti y13.1.2.2]), (32, .box [Ti 0, Ti 0, Ti 0])]⟩) rfl rfl (X_of_Y1 rfl (Y1_bslice0 Try.underlying47 sz3 (by decide) rfl rfl)) (by kernel_rfl) rfl (hE_cons (by kernel_rfl) (hE_cons (by kernel_rfl) (hE_cons (by kernel_rfl) hE_nil))) ?_
     exact step_nil
    refine tab_row [3, 2] (by kernel_rfl) (by kernel_rfl) ?_ ?_
    ·refine step_cons (s2 := ⟨bt 4 (.pt 32 0 :: bt 9 (.pt 112 0 :: bt 8 (.pe [Ti y24.1, Ti y24.2.1, Ti y24.2.2.1, Ti y24.2.2.2] :: .pe [Ti y26.1, Ti y26.2.1, Ti y26.2.2.1, Ti y26.2.2.2] :: bt 111 (.ow 1088 :: .c (.sl (([y24.1, y24.2.1, y24.2.2.1, y24.2.2.2]).map c3)) :: .bot :: .c (.sl (([y26.1, y26.2.1, y26.2.2.1, y26.2.2.2]).map c3)) :: bt 8 [])))), [(1088, .arr 3 1 ((([] : List Int)).map c3)), (112, .box [Ti y13.1.1, Ti y13.1.2.1, Ti y13.1.2.2]), (32, .box [Ti 0, Ti 0, Ti 0])]⟩) rfl rfl (X_of_Y0 rfl (Y0_sliceA (c := c3) (xs := [y26.1, y26.2.1, y26.2.2.1, y26.2.2.2]) Try.underlying95 sz3 (fun _ => rfl) (by decide) rfl rfl (by kernel_rfl))) (by kernel_rfl) rfl (hE_cons (by kernel_rfl) (hE_cons (by kernel_rfl) (hE_cons (by kernel_rfl) hE_nil))) ?_
     refine step_cons (s2 := ⟨bt 4 (.pt 32 0 :: bt 9 (.pt 112 0 :: bt 8 (.pe [Ti y24.1, Ti y24.2.1, Ti y24.2.2.1, Ti y24.2.2.2] :: .pe [Ti y26.1, Ti y26.2.1, Ti y26.2.2.1, Ti y26.2.2.2] :: bt 112 (.c (.sl (([y24.1, y24.2.1, y24.2.2.1, y24.2.2.2]).map c3)) :: .ow 1088 :: bt 9 [])))), [(1088, .arr 3 1 (((([] : List Int)) ++ ([y24.1, y24.2.1, y24.2.2.1, y24.2.2.2])).map c3)), (112, .box [Ti y13.1.1, Ti y13.1.2.1, Ti y13.1.2.2]), (32, .box [Ti 0, Ti 0, Ti 0])]⟩) rfl rfl (X_appendM (c := c3) (xs := ([] : List Int)) (ys := [y24.1, y24.2.1, y24.2.2.1, y24.2.2.2]) (id := 1088) (z := zv3) rfl rfl Try.underlying47 izb3 rfl (by kernel_rfl) (by kernel_rfl) (by kernel_rfl) (fun _ => rfl) (by simp) (room_some hu27) (by decide)) (by kernel_rfl) rfl (hE_cons (by kernel_rfl) (hE_cons (by kernel_rfl) (hE_cons (by kernel_rfl) hE_nil))) ?_
     exact step_nil
    refine tab_row [3] (by kernel_rfl) (by kernel_rfl) ?_ ?_
    ·refine step_cons (s2 := ⟨bt 4 (.pt 32 0 :: bt 9 (.pt 112 0 :: bt 8 (.pe [Ti y24.1, Ti y24.2.1, Ti y24.2.2.1, Ti y24.2.2.2] :: .pe [Ti y26.1, Ti y26.2.1, Ti y26.2.2.1, Ti y26.2.2.2] :: bt 112 (.c (.sl (([y24.1, y24.2.1, y24.2.2.1, y24.2.2.2]).map c3)) :: .ow 1088 :: .c (.sl (([y26.1, y26.2.1, y26.2.2.1, y26.2.2.2]).map c3)) :: bt 8 [])))), [(1088, .arr 3 1 (((([] : List Int)) ++ ([y24.1, y24.2.1, y24.2.2.1, y24.2.2.2])).map c3)), (112, .box [Ti y13.1.1, Ti y13.1.2.1, Ti y13.1.2.2]), (32, .box [Ti 0, Ti 0, Ti 0])]⟩) rfl rfl (X_of_Y0 rfl (Y0_sliceA (c := c3) (xs := [y26.1, y26.2.1, y26.2.2.1, y26.2.2.2]) Try.underlying95 sz3 (fun _ => rfl) (by decide) rfl rfl (by kernel_rfl))) (by kernel_rfl) rfl (hE_cons (by kernel_rfl) (hE_cons (by kernel_rfl) (hE_cons (by kernel_rfl) hE_nil))) ?_
     exact step_nil
    refine tab_row [1, 0] (by kernel_rfl) (by kernel_rfl) ?_ ?_
    ·refine step_cons (s2 := ⟨bt 4 (.pt 32 0 :: bt 9 (.pt 112 0 :: bt 8 (.pe [Ti y24.1, Ti y24.2.1, Ti y24.2.2.1, Ti y24.2.2.2] :: .pe [Ti y26.1, Ti y26.2.1, Ti y26.2.2.1, Ti y26.2.2.2] :: bt 112 (.c (.sl (([y24.1, y24.2.1, y24.2.2.1, y24.2.2.2]).map c3)) :: .bot :: .c (.sl (([y26.1, y26.2.1, y26.2.2.1, y26.2.2.2]).map c3)) :: bt 8 [])))), [(112, .box [Ti y13.1.1, Ti y13.1.2.1, Ti y13.1.2.2]), (32, .box [Ti 0, Ti 0, Ti 0])]⟩) rfl rfl (X_of_Y0 rfl (Y0_sliceA (c := c3) (xs := [y24.1, y24.2.1, y24.2.2.1, y24.2.2.2]) Try.underlying95 sz3 (fun _ => rfl) (by decide) rfl rfl (by kernel_rfl))) (by kernel_rfl) rfl (hE_cons (by kernel_rfl) (hE_cons (by kernel_rfl) hE_nil)) ?_
     refine step_cons (s2 := ⟨bt 4 (.pt 32 0 :: bt 9 (.pt 112 0 :: bt 8 (.pe [Ti y24.1, Ti y24.2.1, Ti y24.2.2.1, Ti y24.2.2.2] :: .pe [Ti y26.1, Ti y26.2.1, Ti y26.2.2.1, Ti y26.2.2.2] :: bt 111 (.ow 1088 :: .bot :: .bot :: .c (.sl (([y26.1, y26.2.1, y26.2.2.1, y26.2.2.2]).map c3)) :: bt 8 [])))), [(1088, .arr 3 1 ((([] : List Int)).map c3)), (112, .box [Ti y13.1.1, Ti y13.1.2.1, Ti y13.1.2.2]), (32, .box [Ti 0, Ti 0, Ti 0])]⟩) rfl rfl (X_of_Y1 rfl (Y1_bslice0 Try.underlying47 sz3 (by decide) rfl rfl)) (by kernel_rfl) rfl (hE_cons (by kernel_rfl) (hE_cons (by kernel_rfl) (hE_cons (by kernel_rfl) hE_nil))) ?_
     exact step_nil
    refine tab_row [1] (by kernel_rfl) (by kernel_rfl) ?_ ?_
    ·refine step_cons (s2 := ⟨bt 4 (.pt 32 0 :: bt 9 (.pt 112 0 :: bt 8 (.pe [Ti y24.1, Ti y24.2.1, Ti y24.2.2.1, Ti y24.2.2.2] :: .pe [Ti y26.1, Ti y26.2.1, Ti y26.2.2.1, Ti y26.2.2.2] :: bt 111 (.ow 1088 :: .c (.sl (([y24.1, y24.2.1, y24.2.2.1, y24.2.2.2]).map c3)) :: .bot :: .c (.sl (([y26.1, y26.2.1, y26.2.2.1, y26.2.2.2]).map c3)) :: bt 8 [])))), [(1088, .arr 3 1 ((([] : List Int)).map c3)), (112, .box [Ti y13.1.1, Ti y13.1.2.1, Ti y13.1.2.2]), (32, .box [Ti 0, Ti 0, Ti 0])]⟩) rfl rfl (X_of_Y0 rfl (Y0_sliceA (c := c3) (xs := [y24.1, y24.2.1, y24.2.2.1, y24.2.2.2]) Try.underlying95 sz3 (fun _ => rfl) (by decide) rfl rfl (by kernel_rfl))) (by kernel_rfl) rfl (hE_cons (by kernel_rfl) (hE_cons (by kernel_rfl) (hE_cons (by kernel_rfl) hE_nil))) ?_
     exact step_nil
    refine tab_row [0] (by kernel_rfl) (by kernel_rfl) ?_ ?_
    ·refine step_cons (s2 := ⟨bt 4 (.pt 32 0 :: bt 9 (.pt 112 0 :: bt 8 (.pe [Ti y24.1, Ti y24.2.1, Ti y24.2.2.1, Ti y24.2.2.2] :: .pe [Ti y26.1, Ti y26.2.1, Ti y26.2.2.1, Ti y26.2.2.2] :: bt 111 (.ow 1088 :: .c (.sl (([y24.1, y24.2.1, y24.2.2.1, y24.2.2.2]).map c3)) :: .bot :: .c (.sl (([y26.1, y26.2.1, y26.2.2.1, y26.2.2.2]).map c3)) :: bt 8 [])))), [(1088, .arr 3 1 ((([] : List Int)).map c3)), (112, .box [Ti y13.1.1, Ti y13.1.2.1, Ti y13.1.2.2]), (32, .box [Ti 0, Ti 0, Ti 0])]⟩) rfl rfl (X_of_Y1 rfl (Y1_bslice0 Try.underlying47 sz3 (by decide) rfl rfl)) (by kernel_rfl) rfl (hE_cons (by kernel_rfl) (hE_cons (by kernel_rfl) (hE_cons (by kernel_rfl) hE_nil))) ?_
     exact step_nil
    refine tab_row [2] (by kernel_rfl) (by kernel_rfl) ?_ ?_
    ·refine step_cons (s2 := ⟨bt 4 (.pt 32 0 :: bt 9 (.pt 112 0 :: bt 8 (.pe [Ti y24.1, Ti y24.2.1, Ti y24.2.2.1, Ti y24.2.2.2] :: .pe [Ti y26.1, Ti y26.2.1, Ti y26.2.2.1, Ti y26.2.2.2] :: bt 112 (.c (.sl (([y24.1, y24.2.1, y24.2.2.1, y24.2.2.2]).map c3)) :: .ow 1088 :: .c (.sl (([y26.1, y26.2.1, y26.2.2.1, y26.2.2.2]).map c3)) :: bt 8 [])))), [(1088, .arr 3 1 (((([] : List Int)) ++ ([y24.1, y24.2.1, y24.2.2.1, y24.2.2.2])).map c3)), (112, .box [Ti y13.1.1, Ti y13.1.2.1, Ti y13.1.2.2]), (32, .box [Ti 0, Ti 0, Ti 0])]⟩) rfl rfl (X_appendM (c := c3) (xs := ([] : List Int)) (ys := [y24.1, y24.2.1, y24.2.2.1, y24.2.2.2]) (id := 1088) (z := zv3) rfl rfl Try.underlying47 izb3 rfl (by kernel_rfl) (by kernel_rfl) (by kernel_rfl) (fun _ => rfl) (by simp) (room_some hu27) (by decide)) (by kernel_rfl) rfl (hE_cons (by kernel_rfl) (hE_cons (by kernel_rfl) (hE_cons (by kernel_rfl) hE_nil))) ?_
     exact step_nil
    refine tab_row [4] (by kernel_rfl) (by kernel_rfl) ?_ ?_
    ·refine step_cons (s2 := ⟨bt 4 (.pt 32 0 :: bt 9 (.pt 112 0 :: bt 8 (.pe [Ti y24.1, Ti y24.2.1, Ti y24.2.2.1, Ti y24.2.2.2] :: .pe [Ti y26.1, Ti y26.2.1, Ti y26.2.2.1, Ti y26.2.2.2] :: bt 112 (.c (.sl (([y24.1, y24.2.1, y24.2.2.1, y24.2.2.2]).map c3)) :: .bot :: .c (.sl (([y26.1, y26.2.1, y26.2.2.1, y26.2.2.2]).map c3)) :: .ow 1088 :: bt 7 [])))), [(1088, .arr 3 1 ((((([] : List Int)) ++ ([y24.1, y24.2.1, y24.2.2.1, y24.2.2.2])) ++ ([y26.1, y26.2.1, y26.2.2.1, y26.2.2.2])).map c3)), (112, .box [Ti y13.1.1, Ti y13.1.2.1, Ti y13.1.2.2]), (32, .box [Ti 0, Ti 0, Ti 0])]⟩) rfl rfl (X_appendM (c := c3) (xs := (([] : List Int)) ++ ([y24.1, y24.2.1, y24.2.2.1, y24.2.2.2])) (ys := [y26.1, y26.2.1, y26.2.2.1, y26.2.2.2]) (id := 1088) (z := zv3) rfl rfl Try.underlying47 izb3 rfl (by kernel_rfl) (by kernel_rfl) (by kernel_rfl) (fun _ => rfl) (by simp) (room_some hu28) (by decide)) (by kernel_rfl) rfl (hE_cons (by kernel_rfl) (hE_cons (by kernel_rfl) (hE_cons (by kernel_rfl) hE_nil))) ?_
     exact step_nil
    refine tab_row [5] (by kernel_rfl) (by kernel_rfl) ?_ ?_
    ·refine step_cons (s2 := ⟨bt 4 (.pt 32 0 :: bt 9 (.pt 112 0 :: bt 8 (.pe [Ti y24.1, Ti y24.2.1, Ti y24.2.2.1, Ti y24.2.2.2] :: .pe [Ti y26.1, Ti y26.2.1, Ti y26.2.2.1, Ti y26.2.2.2] :: .ow 1088 :: bt 111 (.c (.sl (([y24.1, y24.2.1, y24.2.2.1, y24.2.2.2]).map c3)) :: .bot :: .c (.sl (([y26.1, y26.2.1, y26.2.2.1, y26.2.2.2]).map c3)) :: .ow 1088 :: bt 7 [])))), [(1088, .arr 3 1 ((((([] : List Int)) ++ ([y24.1, y24.2.1, y24.2.2.1, y24.2.2.2])) ++ ([y26.1, y26.2.1, y26.2.2.1, y26.2.2.2])).map c3)), (112, .box [Ti y13.1.1, Ti y13.1.2.1, Ti y13.1.2.2]), (32, .box [Ti 0, Ti 0, Ti 0])]⟩) rfl rfl (X_of_Y0 rfl (E_assign (.ow 1088) rfl (by kernel_rfl))) (by kernel_rfl) rfl (hE_cons (by kernel_rfl) (hE_cons (by kernel_rfl) (hE_cons (by kernel_rfl) hE_nil))) ?_
     exact step_nil
    refine tab_last (by kernel_rfl) ?_ tab_nil
    subst hl29
    kernel_rfl
   refine V_seq ?_
   obtain ⟨y30, hy30, h⟩ := of_bind h
   refine V_sreg (mb 148 11150372599265311570767859136324180786561040) [1088, 112, 32] (s1 := ⟨bt 4 (.pt 32 0 :: bt 9 (.pt 112 0 :: bt 10 (.ow 1088 :: bt 117 (Bo (!y30) :: bt 4 [])))), [(1088, .arr 3 1 (l29.map c3)), (112, .box [Ti y13.1.1, Ti y13.1.2.1, Ti y13.1.2.2]), (32, .box [Ti 0, Ti 0, Ti 0])]⟩) ?_ ?_
   ·refine XR 1 ?_
    refine L1 rfl rfl (Y1_callS (s_impl_areNumbers hy30) cf_impl_areNumbers rfl (by kernel_rfl) rfl rfl) ?_
    exact XE
   refine V_cond rfl (fun hc31 => ?_) (fun hc31 => ?_)
   ·have h := of_true h hc31
    refine V_sreg (mb 148 112) [1160, 32] (s1 := ⟨bt 4 (.pt 32 0 :: .ow 1160 :: Bo false :: bt 141 []), [(1160, .arr 3 1 ((([] : List Int)).map c3)), (32, .box [Ti 0, Ti 0, Ti 0])]⟩) ?_ ?_
    ·refine L0 rfl rfl (Y0_build (cs := [Ti 0, Ti 0, Ti 0]) pl25 bt25 rfl rfl (by kernel_rfl)) ?_
     refine L1 rfl rfl (Y1_bslice0 Try.underlying47 sz3 (by decide) rfl rfl) ?_
     exact XE
    refine V_ret ?_
    obtain rfl := some_inj h
    show Post _ _ _ _ _
    exact ⟨.inr rfl, rfl, rfl, rfl⟩
   ·have h := of_false h hc31
    refine V_skip ?_
    show V _ _ _ _
    refine V_e (mb 148 112) [1088, 32] (s1 := ⟨bt 4 (.pt 32 0 :: .ow 1088 :: Bo true :: bt 141 []), [(1088, .arr 3 1 (l29.map c3)), (32, .box [Ti y13.1.1, Ti y13.1.2.1, Ti y13.1.2.2])]⟩) ?_
    refine V_ret ?_
    obtain rfl := some_inj h
    show Post _ _ _ _ _
    exact ⟨.inr rfl, rfl, rfl, rfl⟩
theorem cf_spec_coTwo : ∀ args w, (callFunc 34 args).run Try.prog w = .ok (.enter 34 args) w := run_callFunc Try.func34 (by kernel_rfl) (by kernel_rfl)
theorem s_spec_coTwo {f1 : (Int × Int × Int)} {g2 : (Int × Int × Int)} {r : Bool} (h : r_spec_coTwo f1 g2 = some r) : CallS Try.prog 34 [.ag [Ti f1.1, Ti f1.2.1, Ti f1.2.2], .ag [Ti g2.1, Ti g2.2.1, Ti g2.2.2]] (Bo r) [] := by
  refine CallS_of_text (rs := [.t 4]) (vs := [.tmp 4]) Try.func34 rfl rfl (.cons rfl FitsL.nil) (by decide) 18 rfl ?_
  unfold r_spec_coTwo at h
  show V _ _ ⟨.ag [Ti f1.1, Ti f1.2.1, Ti f1.2.2] :: .ag [Ti g2.1, Ti g2.2.1, Ti g2.2.2] :: bt 16 [], []⟩ _
  refine V_e (mb 18 12) [24, 16] (s1 := ⟨.bot :: .bot :: .pt 16 0 :: .pt 24 0 :: bt 14 [], [(24, .box [Ti g2.1, Ti g2.2.1, Ti g2.2.2]), (16, .box [Ti f1.1, Ti f1.2.1, Ti f1.2.2])]⟩) ?_
  obtain ⟨y3, hy3, h⟩ := of_bind h
  obtain ⟨b6, hb6, h⟩ := of_bind h
  obtain ⟨b10, hb10, h⟩ := of_bind h
  refine V_sdreg [0, 1, 3, 7, 15, 31, 63, 127, 255, 127, 1023, 2047, 4095, 8191] 14 (cdm 14 [0, 1, 5, 21, 85, 341, 1365, 529749, 546133, 169301, 349525, 1398101, 5592405, 22369621]) (mb 18 16) [] (s1 := ⟨bt 4 (Bo b10 :: bt 13 []), []⟩) (by kernel_rfl) (by kernel_rfl) ?_ ?_
  ·refine DR 1 ?_
   refine DC 1 (s_spec_coGood hy3) cf_spec_coGood rfl rfl rfl rfl 6 rfl ?_
   refine DR 1 ?_
   refine DL_split y3 (fun hc4 => ?_) (fun hc4 => ?_)
   ·have hb6 := of_true hb6 hc4
    obtain ⟨y5, hy5, hb6⟩ := of_bind hb6
    have hb6 := some_inj hb6
    refine DE_0 3 (.ag [Ti g2.1, Ti g2.2.1, Ti g2.2.2]) (by kernel_rfl) rfl rfl rfl (gsat_C (y3) rfl rfl (by kernel_rfl) hc4) (by kernel_rfl) (E_loadn (cs := [Ti g2.1, Ti g2.2.1, Ti g2.2.2]) [Ti g2.1, Ti g2.2.1, Ti g2.2.2] wd25 rfl (by kernel_rfl) (Nat.le_of_ble_eq_true rfl) (by kernel_rfl)) 8 rfl ?_
    refine DE_1 4 (by kernel_rfl) rfl rfl rfl (gsat_C (y3) rfl rfl (by kernel_rfl) hc4) (Y1_call (s_spec_coGood hy5) cf_spec_coGood rfl (by kernel_rfl)) rfl rfl rfl 9 rfl ?_
    refine DE_0 5 (Bo (b6)) (by kernel_rfl) rfl rfl rfl (gsat_none rfl) (by kernel_rfl) (Y0_pickTe (b := y3) (p := y5) rfl (by kernel_rfl) hc4 (by kernel_rfl) hb6) 10 rfl ?_
    refine DR 1 ?_
    refine DL_split b6 (fun hc7 => ?_) (fun hc7 => ?_)
    ·have hb10 := of_true hb10 hc7
     obtain ⟨y8, hy8, hb10⟩ := of_bind hb10
     obtain ⟨y9, hy9, hb10⟩ := of_bind hb10
     have hb10 := some_inj hb10
     refine DE_0 7 (.ag [Ti f1.1, Ti f1.2.1, Ti f1.2.2]) (by kernel_rfl) rfl rfl rfl (gsat_C (b6) rfl rfl (by kernel_rfl) hc7) (by kernel_rfl) (E_loadn (cs := [Ti f1.1, Ti f1.2.1, Ti f1.2.2]) [Ti f1.1, Ti f1.2.1, Ti f1.2.2] wd25 rfl (by kernel_rfl) (Nat.le_of_ble_eq_true rfl) (by kernel_rfl)) 12 rfl ?_
     refine DE_1 8 (by kernel_rfl) rfl rfl rfl (gsat_C (b6) rfl rfl (by kernel_rfl) hc7) (Y1_call (s_spec_foDisc hy8) cf_spec_foDisc rfl (by kernel_rfl)) rfl rfl rfl 13 rfl ?_
     refine DE_0 9 (.ag [Ti g2.1, Ti g2.2.1, Ti g2.2.2]) (by kernel_rfl) rfl rfl rfl (gsat_C (b6) rfl rfl (by kernel_rfl) hc7) (by kernel_rfl) (E_loadn (cs := [Ti g2.1, Ti g2.2.1, Ti g2.2.2]) [Ti g2.1, Ti g2.2.1, Ti g2.2.2] wd25 rfl (by kernel_rfl) (Nat.le_of_ble_eq_true rfl) (by kernel_rfl)) 14 rfl ?_
     refine DE_1 10 (by kernel_rfl) rfl rfl rfl (gsat_C (b6) rfl rfl (by kernel_rfl) hc7) (Y1_call (s_spec_foDisc hy9) cf_spec_foDisc rfl (by kernel_rfl)) rfl rfl rfl 15 rfl ?_
     refine DE_0 11 (Bo (eqI y8 y9)) (by kernel_rfl) rfl rfl rfl (gsat_C (b6) rfl rfl (by kernel_rfl) hc7) (by kernel_rfl) (Y0_eqw (k := .i64) (a := y8) (b := y9) rfl (by kernel_rfl) (by kernel_rfl)) 16 rfl ?_
     refine DE_0 12 (Bo (b10)) (by kernel_rfl) rfl rfl rfl (gsat_none rfl) (by kernel_rfl) (Y0_pickTe (b := b6) (p := eqI y8 y9) rfl (by kernel_rfl) hc7 (by kernel_rfl) hb10) 17 rfl ?_
     refine DA 1 ?_
     exact XE
    ·have hb10 := some_inj (of_false hb10 hc7)
     refine DE_t 7 (by kernel_rfl) rfl rfl rfl (gun_T (b6) rfl rfl (by kernel_rfl) hc7) 12 rfl ?_
     refine DE_t 8 (by kernel_rfl) rfl rfl rfl (gun_T (b6) rfl rfl (by kernel_rfl) hc7) 13 rfl ?_
     refine DE_t 9 (by kernel_rfl) rfl rfl rfl (gun_T (b6) rfl rfl (by kernel_rfl) hc7) 14 rfl ?_
     refine DE_t 10 (by kernel_rfl) rfl rfl rfl (gun_T (b6) rfl rfl (by kernel_rfl) hc7) 15 rfl ?_
     refine DE_t 11 (by kernel_rfl) rfl rfl rfl (gun_T (b6) rfl rfl (by kernel_rfl) hc7) 16 rfl ?_
     refine DE_0 12 (Bo (b10)) (by kernel_rfl) rfl rfl rfl (gsat_none rfl) (by kernel_rfl) (Y0_pickFe (b := b6) (p := false) rfl (by kernel_rfl) hc7 (by kernel_rfl) hb10) 17 rfl ?_
     refine DA 1 ?_
     exact XE
   ·have hb6 := some_inj (of_false hb6 hc4)
    refine DE_t 3 (by kernel_rfl) rfl rfl rfl (gun_T (y3) rfl rfl (by kernel_rfl) hc4) 8 rfl ?_
    refine DE_t 4 (by kernel_rfl) rfl rfl rfl (gun_T (y3) rfl rfl (by kernel_rfl) hc4) 9 rfl ?_
    refine DE_0 5 (Bo (b6)) (by kernel_rfl) rfl rfl rfl (gsat_none rfl) (by kernel_rfl) (Y0_pickFe (b := y3) (p := false) rfl (by kernel_rfl) hc4 (by kernel_rfl) hb6) 10 rfl ?_
    refine DR 1 ?_
    refine DL_split b6 (fun hc7 => ?_) (fun hc7 => ?_)
    ·have hb10 := of_true hb10 hc7
     obtain ⟨y8, hy8, hb10⟩ := of_bind hb10
     obtain ⟨y9, hy9, hb10⟩ := of_bind hb10
     have hb10 := some_inj hb10
     refine DE_0 7 (.ag [Ti f1.1, Ti f1.2.1, Ti f1.2.2]) (by kernel_rfl) rfl rfl rfl (gsat_C (b6) rfl rfl (by kernel_rfl) hc7) (by kernel_rfl) (E_loadn (cs := [Ti f1.1, Ti f1.2.1, Ti f1.2.2]) [Ti f1.1, Ti f1.2.1, Ti f1.2.2] wd25 rfl (by kernel_rfl) (Nat.le_of_ble_eq_true rfl) (by kernel_rfl)) 12 rfl ?_
     refine DE_1 8 (by kernel_rfl) rfl rfl rfl (gsat_C (b6) rfl rfl (by kernel_rfl) hc7) (Y1_call (s_spec_foDisc hy8) cf_spec_foDisc rfl (by kernel_rfl)) rfl rfl rfl 13 rfl ?_
     refine DE_0 9 (.ag [Ti g2.1, Ti g2.2.1, Ti g2.2.2]) (by kernel_rfl) rfl rfl rfl (gsat_C (b6) rfl rfl (by kernel_rfl) hc7) (by kernel_rfl) (E_loadn (cs := [Ti g2.1, Ti g2.2.1, Ti g2.2.2]) [Ti g2.1, Ti g2.2.1, Ti g2.2.2] wd25 rfl (by kernel_rfl) (Nat.le_of_ble_eq_true rfl) (by kernel_rfl)) 14 rfl ?_
     refine DE_1 10 (by kernel_rfl) rfl rfl rfl (gsat_C (b6) rfl rfl (by kernel_rfl) hc7) (Y1_call (s_spec_foDisc hy9) cf_spec_foDisc rfl (by kernel_rfl)) rfl rfl rfl 15 rfl ?_
     refine DE_0 11 (Bo (eqI y8 y9)) (by kernel_rfl) rfl rfl rfl (gsat_C (b6) rfl rfl (by kernel_rfl) hc7) (by kernel_rfl) (Y0_eqw (k := .i64) (a := y8) (b := y9) rfl (by kernel_rfl) (by kernel_rfl)) 16 rfl ?_
     refine DE_0 12 (Bo (b10)) (by kernel_rfl) rfl rfl rfl (gsat_none rfl) (by kernel_rfl) (Y0_pickTe (b := b6) (p := eqI y8 y9) rfl (by kernel_rfl) hc7 (by kernel_rfl) hb10) 17 rfl ?_
     refine DA 1 ?_
     exact XE
    ·have hb10 := some_inj (of_false hb10 hc7)
     refine DE_t 7 (by kernel_rfl) rfl rfl rfl (gun_T (b6) rfl rfl (by kernel_rfl) hc7) 12 rfl ?_
     refine DE_t 8 (by kernel_rfl) rfl rfl rfl (gun_T (b6) rfl rfl (by kernel_rfl) hc7) 13 rfl ?_
     refine DE_t 9 (by kernel_rfl) rfl rfl rfl (gun_T (b6) rfl rfl (by kernel_rfl) hc7) 14 rfl ?_
     refine DE_t 10 (by kernel_rfl) rfl rfl rfl (gun_T (b6) rfl rfl (by kernel_rfl) hc7) 15 rfl ?_
     refine DE_t 11 (by kernel_rfl) rfl rfl rfl (gun_T (b6) rfl rfl (by kernel_rfl) hc7) 16 rfl ?_
     refine DE_0 12 (Bo (b10)) (by kernel_rfl) rfl rfl rfl (gsat_none rfl) (by kernel_rfl) (Y0_pickFe (b := b6) (p := false) rfl (by kernel_rfl) hc7 (by kernel_rfl) hb10) 17 rfl ?_
     refine DA 1 ?_
     exact XE
  refine V_ret ?_
  obtain rfl := some_inj h
  show Post _ _ _ _ _
  exact ⟨.inr rfl, rfl, rfl, rfl⟩
theorem cf_spec_reNormal : ∀ args w, (callFunc 140 args).run Try.prog w = .ok (.enter 140 args) w := run_callFunc Try.func140 (by kernel_rfl) (by kernel_rfl)
theorem s_spec_reNormal {f1 : (Int × Int × Int)} {r : Int} (h : r_spec_reNormal f1 = some r) : CallS Try.prog 140 [.ag [Ti f1.1, Ti f1.2.1, Ti f1.2.2]] (I r) [] := by
  refine CallS_of_text (rs := [.t 2]) (vs := [.tmp 2]) Try.func140 rfl rfl (.cons rfl FitsL.nil) (by decide) 22 rfl ?_
  unfold r_spec_reNormal at h
  show V _ _ ⟨.ag [Ti f1.1, Ti f1.2.1, Ti f1.2.2] :: bt 21 [], []⟩ _
  refine V_e (mb 22 2) [8] (s1 := ⟨.bot :: .pt 8 0 :: bt 20 [], [(8, .box [Ti f1.1, Ti f1.2.1, Ti f1.2.2])]⟩) ?_
  obtain ⟨y2, hy2, h⟩ := of_bind h
  obtain ⟨z3, hz3, h⟩ := of_bind h
  obtain ⟨t4, ht4, h⟩ := of_sI h
  refine V_sdreg [0, 1, 0, 4, 15, 0, 32, 0, 128, 480, 0, 1024, 3072, 8160, 16383, 0, 32768, 98304, 262143, 524287] 20 (cdm 20 [45276113056, 45276113057, 45276112906, 45276112922, 45276112981, 45141361322, 45141362346, 45141207722, 45141224106, 45141284522, 45097855658, 45098904234, 45103098538, 45119526570, 45186635093, 715827882, 1789569706, 6084537002, 22906492245, 91625968981]) (mb 22 4) [] (s1 := ⟨.bot :: .bot :: I t4 :: bt 19 [], []⟩) (by kernel_rfl) (by kernel_rfl) ?_ ?_
  ·refine DR 13 ?_
   refine DC 13 (s_spec_nuMod hy2) cf_spec_nuMod rfl rfl rfl rfl 16 rfl ?_
   refine DR 4 ?_
   refine DE_0 18 (I (w64 (Int.tdiv (w64 ((w64 (f1.1 - f1.2.1)) - y2)) (w64 (2 * f1.1))))) (by kernel_rfl) rfl rfl rfl (gsat_none rfl) (by kernel_rfl) (Y0_quo64 (a := w64 ((w64 (f1.1 - f1.2.1)) - y2)) (b := w64 (2 * f1.1)) rfl (by kernel_rfl) (by kernel_rfl) (nz_some hz3)) 21 rfl ?_
   refine DA 1 ?_
   refine XL_nil ?_
   subst ht4
   kernel_rfl
  refine V_ret ?_
  obtain rfl := some_inj h
  show Post _ _ _ _ _
  exact ⟨.inr rfl, rfl, rfl, rfl⟩
theorem cf_spec_reMove : ∀ args w, (callFunc 122 args).run Try.prog w = .ok (.enter 122 args) w := run_callFunc Try.func122 (by kernel_rfl) (by kernel_rfl)
theorem s_spec_reMove {f1 : (Int × Int × Int)} {r : (Int × Int × Int × Int)} (h : r_spec_reMove f1 = some r) : CallS Try.prog 122 [.ag [Ti f1.1, Ti f1.2.1, Ti f1.2.2]] (.ag [Ti r.1, Ti r.2.1, Ti r.2.2.1, Ti r.2.2.2]) [] := by
  refine CallS_of_text (rs := [.w 2 4]) (vs := [.cell 2 86]) Try.func122 rfl rfl (.cons ⟨rfl, wd86⟩ FitsL.nil) (by decide) 14 rfl ?_
  unfold r_spec_reMove at h
  show V _ _ ⟨.ag [Ti f1.1, Ti f1.2.1, Ti f1.2.2] :: bt 13 [], []⟩ _
  refine V_e (mb 14 6) [16, 8] (s1 := ⟨.bot :: .pt 8 0 :: .pt 16 0 :: bt 11 [], [(16, .box [Ti 0, Ti 0, Ti 0, Ti 0]), (8, .box [Ti f1.1, Ti f1.2.1, Ti f1.2.2])]⟩) ?_
  refine V_seq ?_
  obtain ⟨y2, hy2, h⟩ := of_bind h
  refine V_sreg (mb 14 14) [16, 8] (s1 := ⟨.bot :: .pt 8 0 :: .pt 16 0 :: I y2 :: bt 10 [], [(16, .box [Ti 0, Ti 0, Ti 0, Ti 0]), (8, .box [Ti f1.1, Ti f1.2.1, Ti f1.2.2])]⟩) ?_ ?_
  ·refine XR 1 ?_
   refine XC (s_spec_reNormal hy2) cf_spec_reNormal rfl rfl rfl ?_
   exact XE
  refine V_e (mb 14 142) [16, 8] (s1 := ⟨.bot :: .pt 8 0 :: .pt 16 0 :: I y2 :: bt 3 (Bo (!eqI y2 0) :: bt 6 []), [(16, .box [Ti 0, Ti 0, Ti 0, Ti 0]), (8, .box [Ti f1.1, Ti f1.2.1, Ti f1.2.2])]⟩) ?_
  refine V_cond rfl (fun hc3 => ?_) (fun hc3 => ?_)
  ·have h := of_true h hc3
   refine V_sreg (mb 14 4) [16] (s1 := ⟨.bot :: .bot :: .pt 16 0 :: bt 11 [], [(16, .box [Ti 1, Ti y2, Ti 0, Ti 1])]⟩) ?_ ?_
   ·refine XR 1 ?_
    refine L0 rfl rfl (Y0_build (cs := [Ti 1, Ti y2, Ti 0, Ti 1]) pl86 bt86 rfl rfl (by kernel_rfl)) ?_
    exact XE
   refine V_ret ?_
   obtain rfl := some_inj h
   show Post _ _ _ _ _
   exact ⟨.inr rfl, rfl, rfl, rfl⟩
  ·have h := of_false h hc3
   refine V_skip ?_
   show V _ _ _ _
   refine V_seq ?_
   obtain ⟨y4, hy4, h⟩ := of_bind h
   refine V_sreg (mb 14 2052) [16] (s1 := ⟨.bot :: .bot :: .pt 16 0 :: bt 8 (Bo y4 :: .bot :: .bot :: []), [(16, .box [Ti 0, Ti 0, Ti 0, Ti 0])]⟩) ?_ ?_
   ·refine XR 1 ?_
    refine XC (s_spec_reIs hy4) cf_spec_reIs rfl rfl rfl ?_
    exact XE
   refine V_cond rfl (fun hc5 => ?_) (fun hc5 => ?_)
   ·have h := of_true h hc5
    refine V_sreg (mb 14 4) [16] (s1 := ⟨.bot :: .bot :: .pt 16 0 :: bt 11 [], [(16, .box [Ti 1, Ti 0, Ti 0, Ti 1])]⟩) ?_ ?_
    ·refine L0 rfl rfl (Y0_build (cs := [Ti 1, Ti 0, Ti 0, Ti 1]) pl86 bt86 rfl rfl (by kernel_rfl)) ?_
     exact XE
    refine V_ret ?_
    obtain rfl := some_inj h
    show Post _ _ _ _ _
    exact ⟨.inr rfl, rfl, rfl, rfl⟩
   ·have h := of_false h hc5
    refine V_skip ?_
    show V _ _ _ _
    refine V_sreg (mb 14 4) [16] (s1 := ⟨.bot :: .bot :: .pt 16 0 :: bt 11 [], [(16, .box [Ti 0, Ti (-1), Ti 1, Ti 0])]⟩) ?_ ?_
    ·refine L0 rfl rfl (Y0_build (cs := [Ti 0, Ti (-1), Ti 1, Ti 0]) pl86 bt86 rfl rfl (by kernel_rfl)) ?_
     exact XE
    refine V_ret ?_
    obtain rfl := some_inj h
    show Post _ _ _ _ _
    exact ⟨.inr rfl, rfl, rfl, rfl⟩
theorem cf_spec_reReduce : ∀ args w, (callFunc 96 args).run Try.prog w = .ok (.enter 96 args) w := run_callFunc Try.func96 (by kernel_rfl) (by kernel_rfl)
theorem s_spec_reReduce {f1 : (Int × Int × Int)} {r : (((Int × Int × Int)) × ((Int × Int × Int × Int)))} (h : r_spec_reReduce f1 = some r) : CallS Try.prog 96 [.ag [Ti f1.1, Ti f1.2.1, Ti f1.2.2]] (.tc (.ag [Ti r.1.1, Ti r.1.2.1, Ti r.1.2.2]) (.tc (.ag [Ti r.2.1, Ti r.2.2.1, Ti r.2.2.2.1, Ti r.2.2.2.2]) .tn)) [] := by
  refine CallS_of_text (rs := [.w 2 3, .w 3 4]) (vs := [.cell 2 25, .cell 3 86]) Try.func96 rfl rfl (.cons ⟨rfl, wd25⟩ (.cons ⟨rfl, wd86⟩ FitsL.nil)) (by decide) 20 rfl ?_
  unfold r_spec_reReduce at h
  show V _ _ ⟨.ag [Ti f1.1, Ti f1.2.1, Ti f1.2.2] :: bt 19 [], []⟩ _
  refine V_e (mb 20 14) [24, 16, 8] (s1 := ⟨.bot :: .pt 8 0 :: .pt 16 0 :: .pt 24 0 :: bt 16 [], [(24, .box [Ti 0, Ti 0, Ti 0, Ti 0]), (16, .box [Ti 0, Ti 0, Ti 0]), (8, .box [Ti f1.1, Ti f1.2.1, Ti f1.2.2])]⟩) ?_
  refine V_sreg (mb 20 30) [32, 24, 16, 8] (s1 := ⟨.bot :: .pt 8 0 :: .pt 16 0 :: .pt 24 0 :: .pt 32 0 :: bt 15 [], [(32, .box [Ti 1, Ti 0, Ti 0, Ti 1]), (24, .box [Ti 0, Ti 0, Ti 0, Ti 0]), (16, .box [Ti 0, Ti 0, Ti 0]), (8, .box [Ti f1.1, Ti f1.2.1, Ti f1.2.2])]⟩) ?_ ?_
  ·refine L0 rfl rfl (Y0_build (cs := [Ti 1, Ti 0, Ti 0, Ti 1]) pl86 bt86 rfl rfl (by kernel_rfl)) ?_
   exact XE
  refine V_seq ?_
  obtain ⟨o10, hLo10, h⟩ := of_bind h
  refine V_toK (mb 20 30) [32, 24, 16, 8] (s1 := ⟨.bot :: .pt 8 0 :: .pt 16 0 :: .pt 24 0 :: .pt 32 0 :: bt 15 [], [(32, .box [Ti o10.1, Ti o10.2.1, Ti o10.2.2.1, Ti o10.2.2.2.1]), (24, .box [Ti 0, Ti 0, Ti 0, Ti 0]), (16, .box [Ti 0, Ti 0, Ti 0]), (8, .box [Ti o10.2.2.2.2.1, Ti o10.2.2.2.2.2.1, Ti o10.2.2.2.2.2.2])]⟩) ?_ ?_
  ·clear h
   refine V_block (V_loop (fun n s => ∃ (f2 : Int) (f3 : Int) (f4 : Int) (f5 : Int) (f6 : Int) (f7 : Int) (f8 : Int), s.keep (mb 20 30) [32, 24, 16, 8] = (⟨.bot :: .pt 8 0 :: .pt 16 0 :: .pt 24 0 :: .pt 32 0 :: bt 15 [], [(32, .box [Ti f2, Ti f3, Ti f4, Ti f5]), (24, .box [Ti 0, Ti 0, Ti 0, Ti 0]), (16, .box [Ti 0, Ti 0, Ti 0]), (8, .box [Ti f6, Ti f7, Ti f8])]⟩ : St) ∧ r_spec_reReduce_L9 n f2 f3 f4 f5 f6 f7 f8 = some o10) FU ⟨_, _, _, _, _, _, _,  by rfl, hLo10⟩ ?_)
   clear hLo10
   rintro n s ⟨f2, f3, f4, f5, f6, f7, f8, hs, h⟩
   refine V_keep _ _ hs ?_
   clear hs
   cases n with
   | zero => cases h
   | succ n =>
    rw [r_spec_reReduce_L9] at h
    refine V_seq ?_
    obtain ⟨y11, hy11, h⟩ := of_bind h
    refine V_sreg (mb 20 542) [32, 24, 16, 8] (s1 := ⟨.bot :: .pt 8 0 :: .pt 16 0 :: .pt 24 0 :: .pt 32 0 :: bt 4 (Bo (!y11) :: bt 10 []), [(32, .box [Ti f2, Ti f3, Ti f4, Ti f5]), (24, .box [Ti 0, Ti 0, Ti 0, Ti 0]), (16, .box [Ti 0, Ti 0, Ti 0]), (8, .box [Ti f6, Ti f7, Ti f8])]⟩) ?_ ?_
    ·refine XR 1 ?_
     refine XC (s_spec_reIs hy11) cf_spec_reIs rfl rfl rfl ?_
     exact XE
    refine V_cond rfl (fun hc12 => ?_) (fun hc12 => ?_)
    ·have h := of_true h hc12
     refine V_skip ?_
     show V _ _ _ _
     refine V_block ?_
     obtain ⟨y13, hy13, h⟩ := of_bind h
     refine V_sreg (mb 20 62) [40, 32, 24, 16, 8] (s1 := ⟨.bot :: .pt 8 0 :: .pt 16 0 :: .pt 24 0 :: .pt 32 0 :: .pt 40 0 :: bt 14 [], [(40, .box [Ti y13.1, Ti y13.2.1, Ti y13.2.2.1, Ti y13.2.2.2]), (32, .box [Ti f2, Ti f3, Ti f4, Ti f5]), (24, .box [Ti 0, Ti 0, Ti 0, Ti 0]), (16, .box [Ti 0, Ti 0, Ti 0]), (8, .box [Ti f6, Ti f7, Ti f8])]⟩) ?_ ?_
     ·refine XR 1 ?_
      refine XC (s_spec_reMove hy13) cf_spec_reMove rfl rfl rfl ?_
      exact XE
     obtain ⟨y14, hy14, h⟩ := of_bind h
     obtain ⟨y15, hy15, h⟩ := of_bind h
     refine V_dreg [0, 0, 3, 0, 0, 31, 63, 127] 6 (cdm 6 [648, 642, 645, 554, 170, 341]) (mb 20 30) [32, 24, 16, 8] (s1 := ⟨.bot :: .pt 8 0 :: .pt 16 0 :: .pt 24 0 :: .pt 32 0 :: bt 15 [], [(32, .box [Ti y15.1, Ti y15.2.1, Ti y15.2.2.1, Ti y15.2.2.2]), (24, .box [Ti 0, Ti 0, Ti 0, Ti 0]), (16, .box [Ti 0, Ti 0, Ti 0]), (8, .box [Ti y14.1, Ti y14.2.1, Ti y14.2.2])]⟩) (by kernel_rfl) (by kernel_rfl) ?_ ?_
     ·refine DR 2 ?_
      refine DC 2 (s_spec_foAct hy14) cf_spec_foAct rfl rfl rfl rfl 14 rfl ?_
      refine DR 2 ?_
      refine DC 5 (s_spec_foMul hy15) cf_spec_foMul rfl rfl rfl rfl 17 rfl ?_
      refine DA 0 ?_
      exact XE
     exact ⟨n, Nat.lt_succ_self n, _, _, _, _, _, _, _,  by rfl, h⟩
    ·have h := of_false h hc12
     refine V_exit ?_
     obtain rfl := some_inj h
     show St.keep _ _ _ = _
     rfl
  show V _ _ _ _
  refine V_sdreg [0, 0, 1, 7] 3 [[.z, .b, .z], [.b, .z, .r 16], [.a, .b, .z]] (mb 20 12) [24, 16] (s1 := ⟨.bot :: .bot :: .pt 16 0 :: .pt 24 0 :: bt 16 [], [(24, .box [Ti o10.1, Ti o10.2.1, Ti o10.2.2.1, Ti o10.2.2.2.1]), (16, .box [Ti o10.2.2.2.2.1, Ti o10.2.2.2.2.2.1, Ti o10.2.2.2.2.2.2])]⟩) (by kernel_rfl) (by kernel_rfl) ?_ ?_
  ·refine DA 3 ?_
   exact XE
  refine V_ret ?_
  obtain rfl := some_inj h
  show Post _ _ _ _ _
  exact ⟨.inr rfl, rfl, rfl, rfl⟩
theorem cf_spec_coPoint : ∀ args w, (callFunc 112 args).run Try.prog w = .ok (.enter 112 args) w := run_callFunc Try.func112 (by kernel_rfl) (by kernel_rfl)
theorem s_spec_coPoint {g1 : (Int × Int × Int)} {a2 : Int} {r : (Int × Int)} (h : r_spec_coPoint g1 a2 = some r) : CallS Try.prog 112 [.ag [Ti g1.1, Ti g1.2.1, Ti g1.2.2], I a2] (.tc (I r.1) (.tc (I r.2) .tn)) [] := by
  refine CallS_of_text (rs := [.t 4, .t 5]) (vs := [.tmp 4, .tmp 5]) Try.func112 rfl rfl (.cons rfl (.cons rfl FitsL.nil)) (by decide) 45 rfl ?_
  unfold r_spec_coPoint at h
  show V _ _ ⟨.ag [Ti g1.1, Ti g1.2.1, Ti g1.2.2] :: I a2 :: bt 43 [], []⟩ _
  refine V_e (mb 45 6) [16] (s1 := ⟨.bot :: I a2 :: .pt 16 0 :: bt 42 [], [(16, .box [Ti g1.1, Ti g1.2.1, Ti g1.2.2])]⟩) ?_
  refine V_seq ?_
  refine V_e (mb 45 70) [16] (s1 := ⟨.bot :: I a2 :: .pt 16 0 :: bt 3 (I 1 :: bt 38 []), [(16, .box [Ti g1.1, Ti g1.2.1, Ti g1.2.2])]⟩) ?_
  obtain ⟨qo5, hLo5, hko5⟩ := of_bind h
  refine V_toS (q := qo5) (S := fun o5 => ⟨bt 45 [], []⟩) (mb 45 0) [] ?_ ?_
  ·refine V_block (V_loop (fun n s => ∃ (k3 : Int), s.keep (mb 45 70) [16] = (⟨.bot :: I a2 :: .pt 16 0 :: bt 3 (I k3 :: bt 38 []), [(16, .box [Ti g1.1, Ti g1.2.1, Ti g1.2.2])]⟩ : St) ∧ r_spec_coPoint_L4 a2 g1 n k3 = some qo5) FU ⟨_,  by rfl, hLo5⟩ ?_)
   clear hLo5
   rintro n s ⟨k3, hs, h⟩
   refine V_keep _ _ hs ?_
   clear hs
   cases n with
   | zero => cases h
   | succ n =>
    rw [r_spec_coPoint_L4] at h
    refine V_seq ?_
    refine V_e (mb 45 1094) [16] (s1 := ⟨.bot :: I a2 :: .pt 16 0 :: bt 3 (I k3 :: bt 3 (Bo (leI k3 100) :: bt 34 [])), [(16, .box [Ti g1.1, Ti g1.2.1, Ti g1.2.2])]⟩) ?_
    refine V_cond rfl (fun hc6 => ?_) (fun hc6 => ?_)
    ·have h := of_true h hc6
     refine V_skip ?_
     show V _ _ _ _
     refine V_seq ?_
     refine V_block ?_
     refine V_e (mb 45 198) [16] (s1 := ⟨.bot :: I a2 :: .pt 16 0 :: bt 3 (I k3 :: I 0 :: bt 37 []), [(16, .box [Ti g1.1, Ti g1.2.1, Ti g1.2.2])]⟩) ?_
     obtain ⟨qo9, hLo9, hko9⟩ := of_bind h
     refine V_toS (q := qo9) (S := fun o9 => ⟨.bot :: I a2 :: .pt 16 0 :: bt 3 (I k3 :: bt 38 []), [(16, .box [Ti g1.1, Ti g1.2.1, Ti g1.2.2])]⟩) (mb 45 70) [16] ?_ ?_
     ·refine V_block (V_loop (fun n s => ∃ (x7 : Int), s.keep (mb 45 198) [16] = (⟨.bot :: I a2 :: .pt 16 0 :: bt 3 (I k3 :: I x7 :: bt 37 []), [(16, .box [Ti g1.1, Ti g1.2.1, Ti g1.2.2])]⟩ : St) ∧ r_spec_coPoint_L8 a2 g1 k3 n x7 = some qo9) FU ⟨_,  by rfl, hLo9⟩ ?_)
      clear hLo9
      rintro n s ⟨x7, hs, h⟩
      refine V_keep _ _ hs ?_
      clear hs
      cases n with
      | zero => cases h
      | succ n =>
       rw [r_spec_coPoint_L8] at h
       refine V_seq ?_
       refine V_e (mb 45 32966) [16] (s1 := ⟨.bot :: I a2 :: .pt 16 0 :: bt 3 (I k3 :: I x7 :: bt 7 (Bo (leI x7 k3) :: bt 29 [])), [(16, .box [Ti g1.1, Ti g1.2.1, Ti g1.2.2])]⟩) ?_
       refine V_cond rfl (fun hc10 => ?_) (fun hc10 => ?_)
       ·have h := of_true h hc10
        refine V_skip ?_
        show V _ _ _ _
        refine V_seq ?_
        refine V_block ?_
        refine V_e (mb 45 454) [16] (s1 := ⟨.bot :: I a2 :: .pt 16 0 :: bt 3 (I k3 :: I x7 :: I 0 :: bt 36 []), [(16, .box [Ti g1.1, Ti g1.2.1, Ti g1.2.2])]⟩) ?_
        obtain ⟨qo13, hLo13, hko13⟩ := of_bind h
        refine V_toS (q := qo13) (S := fun o13 => ⟨.bot :: I a2 :: .pt 16 0 :: bt 3 (I k3 :: I x7 :: bt 37 []), [(16, .box [Ti g1.1, Ti g1.2.1, Ti g1.2.2])]⟩) (mb 45 198) [16] ?_ ?_
        ·refine V_block (V_loop (fun n s => ∃ (y11 : Int), s.keep (mb 45 454) [16] = (⟨.bot :: I a2 :: .pt 16 0 :: bt 3 (I k3 :: I x7 :: I y11 :: bt 36 []), [(16, .box [Ti g1.1, Ti g1.2.1, Ti g1.2.2])]⟩ : St) ∧ r_spec_coPoint_L12 a2 g1 k3 x7 n y11 = some qo13) FU ⟨_,  by rfl, hLo13⟩ ?_)
         clear hLo13
         rintro n s ⟨y11, hs, h⟩
         refine V_keep _ _ hs ?_
         clear hs
         cases n with
         | zero => cases h
         | succ n =>
          rw [r_spec_coPoint_L12] at h
          refine V_seq ?_
          refine V_e (mb 45 1049030) [16] (s1 := ⟨.bot :: I a2 :: .pt 16 0 :: bt 3 (I k3 :: I x7 :: I y11 :: bt 11 (Bo (leI y11 k3) :: bt 24 [])), [(16, .box [Ti g1.1, Ti g1.2.1, Ti g1.2.2])]⟩) ?_
          refine V_cond rfl (fun hc14 => ?_) (fun hc14 => ?_)
          ·have h := of_true h hc14
           refine V_skip ?_
           show V _ _ _ _
           refine V_seq ?_
           refine V_block ?_
           obtain ⟨y15, hy15, h⟩ := of_bind h
           obtain ⟨b18, hb18, h⟩ := of_bind h
           obtain ⟨b22, hb22, h⟩ := of_bind h
           refine V_sreg (mb 45 4398046511558) [16] (s1 := ⟨.bot :: I a2 :: .pt 16 0 :: bt 3 (I k3 :: I x7 :: I y11 :: bt 33 (Bo b22 :: .bot :: .bot :: [])), [(16, .box [Ti g1.1, Ti g1.2.1, Ti g1.2.2])]⟩) ?_ ?_
           ·refine XR 2 ?_
            refine XC (s_spec_l1Most hy15) cf_spec_l1Most rfl rfl rfl ?_
            refine XR 3 ?_
            refine XL_split (eqI y15 k3) (fun hc16 => ?_) (fun hc16 => ?_)
            ·have hb18 := of_true hb18 hc16
             obtain ⟨y17, hy17, hb18⟩ := of_bind hb18
             have hb18 := some_inj hb18
             refine XL_takeC _ rfl rfl (by kernel_rfl) hc16 (X_of_Y0 rfl (E_move (I x7) rfl (by kernel_rfl))) ?_
             refine XL_takeC _ rfl rfl (by kernel_rfl) hc16 (X_of_Y0 rfl (E_move (I y11) rfl (by kernel_rfl))) ?_
             refine XL_takeC _ rfl rfl (by kernel_rfl) hc16 (X_of_Y1 rfl (Y1_call (s_spec_nuGcd hy17) cf_spec_nuGcd rfl (by kernel_rfl))) ?_
             refine XL_takeC _ rfl rfl (by kernel_rfl) hc16 (X_of_Y0 rfl (Y0_eqw (k := .i64) (a := y17) (b := 1) rfl (by kernel_rfl) (by kernel_rfl))) ?_
             refine XL_cons rfl (X_of_Y0 rfl (Y0_pickTe (b := eqI y15 k3) (p := eqI y17 1) rfl (by kernel_rfl) hc16 (by kernel_rfl) hb18)) ?_
             refine XR 1 ?_
             refine XL_split b18 (fun hc19 => ?_) (fun hc19 => ?_)
             ·have hb22 := of_true hb22 hc19
              obtain ⟨y20, hy20, hb22⟩ := of_bind hb22
              obtain ⟨y21, hy21, hb22⟩ := of_bind hb22
              have hb22 := some_inj hb22
              refine XL_takeC _ rfl rfl (by kernel_rfl) hc19 (X_of_Y0 rfl (E_loadn (cs := [Ti g1.1, Ti g1.2.1, Ti g1.2.2]) [Ti g1.1, Ti g1.2.1, Ti g1.2.2] wd25 rfl (by kernel_rfl) (Nat.le_of_ble_eq_true rfl) (by kernel_rfl))) ?_
              refine XL_takeC _ rfl rfl (by kernel_rfl) hc19 (X_of_Y0 rfl (E_move (I x7) rfl (by kernel_rfl))) ?_
              refine XL_takeC _ rfl rfl (by kernel_rfl) hc19 (X_of_Y0 rfl (E_move (I y11) rfl (by kernel_rfl))) ?_
              refine XL_takeC _ rfl rfl (by kernel_rfl) hc19 (X_of_Y1 rfl (Y1_call (s_spec_foValue hy20) cf_spec_foValue rfl (by kernel_rfl))) ?_
              refine XL_takeC _ rfl rfl (by kernel_rfl) hc19 (X_of_Y0 rfl (E_move (I a2) rfl (by kernel_rfl))) ?_
              refine XL_takeC _ rfl rfl (by kernel_rfl) hc19 (X_of_Y1 rfl (Y1_call (s_spec_nuGcd hy21) cf_spec_nuGcd rfl (by kernel_rfl))) ?_
              refine XL_takeC _ rfl rfl (by kernel_rfl) hc19 (X_of_Y0 rfl (Y0_eqw (k := .i64) (a := y21) (b := 1) rfl (by kernel_rfl) (by kernel_rfl))) ?_
              refine XL_cons rfl (X_of_Y0 rfl (Y0_pickTe (b := b18) (p := eqI y21 1) rfl (by kernel_rfl) hc19 (by kernel_rfl) hb22)) ?_
              exact XE
             ·have hb22 := some_inj (of_false hb22 hc19)
              refine XL_skipT _ rfl rfl (by kernel_rfl) hc19 rfl ?_
              refine XL_skipT _ rfl rfl (by kernel_rfl) hc19 rfl ?_
              refine XL_skipT _ rfl rfl (by kernel_rfl) hc19 rfl ?_
              refine XL_skipT _ rfl rfl (by kernel_rfl) hc19 rfl ?_
              refine XL_skipT _ rfl rfl (by kernel_rfl) hc19 rfl ?_
              refine XL_skipT _ rfl rfl (by kernel_rfl) hc19 rfl ?_
              refine XL_skipT _ rfl rfl (by kernel_rfl) hc19 rfl ?_
              refine XL_cons rfl (X_of_Y0 rfl (Y0_pickFe (b := b18) (p := false) rfl (by kernel_rfl) hc19 (by kernel_rfl) hb22)) ?_
              exact XE
            ·have hb18 := some_inj (of_false hb18 hc16)
             refine XL_skipT _ rfl rfl (by kernel_rfl) hc16 rfl ?_
             refine XL_skipT _ rfl rfl (by kernel_rfl) hc16 rfl ?_
             refine XL_skipT _ rfl rfl (by kernel_rfl) hc16 rfl ?_
             refine XL_skipT _ rfl rfl (by kernel_rfl) hc16 rfl ?_
             refine XL_cons rfl (X_of_Y0 rfl (Y0_pickFe (b := eqI y15 k3) (p := false) rfl (by kernel_rfl) hc16 (by kernel_rfl) hb18)) ?_
             refine XR 1 ?_
             refine XL_split b18 (fun hc19 => ?_) (fun hc19 => ?_)
             ·have hb22 := of_true hb22 hc19
              obtain ⟨y20, hy20, hb22⟩ := of_bind hb22
              obtain ⟨y21, hy21, hb22⟩ := of_bind hb22
              have hb22 := some_inj hb22
              refine XL_takeC _ rfl rfl (by kernel_rfl) hc19 (X_of_Y0 rfl (E_loadn (cs := [Ti g1.1, Ti g1.2.1, Ti g1.2.2]) [Ti g1.1, Ti g1.2.1, Ti g1.2.2] wd25 rfl (by kernel_rfl) (Nat.le_of_ble_eq_true rfl) (by kernel_rfl))) ?_
              refine XL_takeC _ rfl rfl (by kernel_rfl) hc19 (X_of_Y0 rfl (E_move (I x7) rfl (by kernel_rfl))) ?_
              refine XL_takeC _ rfl rfl (by kernel_rfl) hc19 (X_of_Y0 rfl (E_move (I y11) rfl (by kernel_rfl))) ?_
              refine XL_takeC _ rfl rfl (by kernel_rfl) hc19 (X_of_Y1 rfl (Y1_call (s_spec_foValue hy20) cf_spec_foValue rfl (by kernel_rfl))) ?_
              refine XL_takeC _ rfl rfl (by kernel_rfl) hc19 (X_of_Y0 rfl (E_move (I a2) rfl (by kernel_rfl))) ?_
              refine XL_takeC _ rfl rfl (by kernel_rfl) hc19 (X_of_Y1 rfl (Y1_call (s_spec_nuGcd hy21) cf_spec_nuGcd rfl (by kernel_rfl))) ?_
              refine XL_takeC _ rfl rfl (by kernel_rfl) hc19 (X_of_Y0 rfl (Y0_eqw (k := .i64) (a := y21) (b := 1) rfl (by kernel_rfl) (by kernel_rfl))) ?_
              refine XL_cons rfl (X_of_Y0 rfl (Y0_pickTe (b := b18) (p := eqI y21 1) rfl (by kernel_rfl) hc19 (by kernel_rfl) hb22)) ?_
              exact XE
             ·have hb22 := some_inj (of_false hb22 hc19)
              refine XL_skipT _ rfl rfl (by kernel_rfl) hc19 rfl ?_
              refine XL_skipT _ rfl rfl (by kernel_rfl) hc19 rfl ?_
              refine XL_skipT _ rfl rfl (by kernel_rfl) hc19 rfl ?_
              refine XL_skipT _ rfl rfl (by kernel_rfl) hc19 rfl ?_
              refine XL_skipT _ rfl rfl (by kernel_rfl) hc19 rfl ?_
              refine XL_skipT _ rfl rfl (by kernel_rfl) hc19 rfl ?_
              refine XL_skipT _ rfl rfl (by kernel_rfl) hc19 rfl ?_
              refine XL_cons rfl (X_of_Y0 rfl (Y0_pickFe (b := b18) (p := false) rfl (by kernel_rfl) hc19 (by kernel_rfl) hb22)) ?_
              exact XE
           refine V_cond rfl (fun hc23 => ?_) (fun hc23 => ?_)
           ·have h := of_true h hc23
            refine V_e (mb 45 48) [] (s1 := ⟨bt 4 (I x7 :: I y11 :: bt 39 []), []⟩) ?_
            refine V_ret ?_
            obtain rfl := some_inj h
            have h := hko13
            obtain rfl := some_inj h
            have h := hko9
            obtain rfl := some_inj h
            have h := hko5
            obtain rfl := some_inj h
            show Post _ _ _ _ _
            exact ⟨.inr rfl, rfl, rfl, rfl⟩
           ·have h := of_false h hc23
            refine V_skip ?_
            show V _ _ _ _
            obtain ⟨y24, hy24, h⟩ := of_sI h
            refine V_reg (mb 45 454) [16] (s1 := ⟨.bot :: I a2 :: .pt 16 0 :: bt 3 (I k3 :: I x7 :: I y24 :: bt 36 []), [(16, .box [Ti g1.1, Ti g1.2.1, Ti g1.2.2])]⟩) ?_ ?_
            ·refine XR 3 ?_
             refine XL_nil ?_
             subst hy24
             kernel_rfl
            exact ⟨n, Nat.lt_succ_self n, _,  by rfl, h⟩
          ·have h := of_false h hc14
           refine V_exit ?_
           obtain rfl := some_inj h
           exact ⟨_, rfl, by rfl⟩
        rintro o13 rfl
        have h := hko13
        clear hko13
        show V _ _ _ _
        obtain ⟨x25, hx25, h⟩ := of_sI h
        refine V_reg (mb 45 198) [16] (s1 := ⟨.bot :: I a2 :: .pt 16 0 :: bt 3 (I k3 :: I x25 :: bt 37 []), [(16, .box [Ti g1.1, Ti g1.2.1, Ti g1.2.2])]⟩) ?_ ?_
        ·refine XR 3 ?_
         refine XL_nil ?_
         subst hx25
         kernel_rfl
        exact ⟨n, Nat.lt_succ_self n, _,  by rfl, h⟩
       ·have h := of_false h hc10
        refine V_exit ?_
        obtain rfl := some_inj h
        exact ⟨_, rfl, by rfl⟩
     rintro o9 rfl
     have h := hko9
     clear hko9
     show V _ _ _ _
     obtain ⟨k26, hk26, h⟩ := of_sI h
     refine V_reg (mb 45 70) [16] (s1 := ⟨.bot :: I a2 :: .pt 16 0 :: bt 3 (I k26 :: bt 38 []), [(16, .box [Ti g1.1, Ti g1.2.1, Ti g1.2.2])]⟩) ?_ ?_
     ·refine XR 3 ?_
      refine XL_nil ?_
      subst hk26
      kernel_rfl
     exact ⟨n, Nat.lt_succ_self n, _,  by rfl, h⟩
    ·have h := of_false h hc6
     refine V_exit ?_
     obtain rfl := some_inj h
     exact ⟨_, rfl, by rfl⟩
  rintro o5 rfl
  have h := hko5
  clear hko5
  show V _ _ _ _
  refine V_e (mb 45 48) [] (s1 := ⟨bt 4 (I 1 :: I 0 :: bt 39 []), []⟩) ?_
  refine V_ret ?_
  obtain rfl := some_inj h
  show Post _ _ _ _ _
  exact ⟨.inr rfl, rfl, rfl, rfl⟩
theorem cf_spec_l1Sign : ∀ args w, (callFunc 144 args).run Try.prog w = .ok (.enter 144 args) w := run_callFunc Try.func144 (by kernel_rfl) (by kernel_rfl)
theorem s_spec_l1Sign {vn1 : Int} {r : Int} (h : r_spec_l1Sign vn1 = some r) : CallS Try.prog 144 [I vn1] (I r) [] := by
  refine CallS_of_text (rs := [.t 2]) (vs := [.tmp 2]) Try.func144 rfl rfl (.cons rfl FitsL.nil) (by decide) 9 rfl ?_
  unfold r_spec_l1Sign at h
  show V _ _ ⟨I vn1 :: bt 8 [], []⟩ _
  refine V_e (mb 9 1) [] (s1 := ⟨I vn1 :: bt 8 [], []⟩) ?_
  refine V_seq ?_
  refine V_block ?_
  refine V_e (mb 9 9) [] (s1 := ⟨I vn1 :: .bot :: .bot :: Bo (ltI 0 vn1) :: bt 5 [], []⟩) ?_
  refine V_cond rfl (fun hc2 => ?_) (fun hc2 => ?_)
  ·have h := of_true h hc2
   refine V_e (mb 9 4) [] (s1 := ⟨.bot :: .bot :: I 1 :: bt 6 [], []⟩) ?_
   refine V_ret ?_
   obtain rfl := some_inj h
   show Post _ _ _ _ _
   exact ⟨.inr rfl, rfl, rfl, rfl⟩
  ·have h := of_false h hc2
   refine V_e (mb 9 64) [] (s1 := ⟨bt 6 (Bo (ltI vn1 0) :: .bot :: .bot :: []), []⟩) ?_
   refine V_cond rfl (fun hc3 => ?_) (fun hc3 => ?_)
   ·have h := of_true h hc3
    refine V_e (mb 9 4) [] (s1 := ⟨.bot :: .bot :: I (-1) :: bt 6 [], []⟩) ?_
    refine V_ret ?_
    obtain rfl := some_inj h
    show Post _ _ _ _ _
    exact ⟨.inr rfl, rfl, rfl, rfl⟩
   ·have h := of_false h hc3
    refine V_skip ?_
    show V _ _ _ _
    refine V_e (mb 9 4) [] (s1 := ⟨.bot :: .bot :: I 0 :: bt 6 [], []⟩) ?_
    refine V_ret ?_
    obtain rfl := some_inj h
    show Post _ _ _ _ _
    exact ⟨.inr rfl, rfl, rfl, rfl⟩
theorem cf_spec_nuInverse : ∀ args w, (callFunc 139 args).run Try.prog w = .ok (.enter 139 args) w := run_callFunc Try.func139 (by kernel_rfl) (by kernel_rfl)
theorem s_spec_nuInverse {a1 : Int} {vm2 : Int} {r : Int} (h : r_spec_nuInverse a1 vm2 = some r) : CallS Try.prog 139 [I a1, I vm2] (I r) [] := by
  refine CallS_of_text (rs := [.t 4]) (vs := [.tmp 4]) Try.func139 rfl rfl (.cons rfl FitsL.nil) (by decide) 36 rfl ?_
  unfold r_spec_nuInverse at h
  show V _ _ ⟨I a1 :: I vm2 :: bt 34 [], []⟩ _
  refine V_e (mb 36 3) [] (s1 := ⟨I a1 :: I vm2 :: bt 34 [], []⟩) ?_
  obtain ⟨y3, hy3, h⟩ := of_bind h
  refine V_sreg (mb 36 482) [] (s1 := ⟨.bot :: I vm2 :: bt 3 (I vm2 :: I y3 :: I 0 :: I 1 :: bt 27 []), []⟩) ?_ ?_
  ·refine XR 3 ?_
   refine XC (s_spec_nuMod hy3) cf_spec_nuMod rfl rfl rfl ?_
   exact XE
  refine V_seq ?_
  obtain ⟨o9, hLo9, h⟩ := of_bind h
  refine V_toK (mb 36 162) [] (s1 := ⟨.bot :: I vm2 :: bt 3 (I o9.1 :: .bot :: I o9.2 :: bt 28 []), []⟩) ?_ ?_
  ·clear h
   refine V_block (V_loop (fun n s => ∃ (vr4 : Int) (next5 : Int) (x6 : Int) (y7 : Int), s.keep (mb 36 482) [] = (⟨.bot :: I vm2 :: bt 3 (I vr4 :: I next5 :: I x6 :: I y7 :: bt 27 []), []⟩ : St) ∧ r_spec_nuInverse_L8 vm2 n vr4 next5 x6 y7 = some o9) FU ⟨_, _, _, _,  by rfl, hLo9⟩ ?_)
   clear hLo9
   rintro n s ⟨vr4, next5, x6, y7, hs, h⟩
   refine V_keep _ _ hs ?_
   clear hs
   cases n with
   | zero => cases h
   | succ n =>
    rw [r_spec_nuInverse_L8] at h
    refine V_seq ?_
    refine V_e (mb 36 33250) [] (s1 := ⟨.bot :: I vm2 :: bt 3 (I vr4 :: I next5 :: I x6 :: I y7 :: bt 6 (Bo (!eqI next5 0) :: bt 20 [])), []⟩) ?_
    refine V_cond rfl (fun hc10 => ?_) (fun hc10 => ?_)
    ·have h := of_true h hc10
     refine V_skip ?_
     show V _ _ _ _
     refine V_block ?_
     obtain ⟨z11, hz11, h⟩ := of_bind h
     obtain ⟨q12, hq12, h⟩ := of_sI h
     refine V_sreg (mb 36 994) [] (s1 := ⟨.bot :: I vm2 :: bt 3 (I vr4 :: I next5 :: I x6 :: I y7 :: I q12 :: bt 26 []), []⟩) ?_ ?_
     ·refine XR 2 ?_
      refine L0 rfl rfl (Y0_quo64 (a := vr4) (b := next5) rfl (by kernel_rfl) (by kernel_rfl) (nz_some hz11)) ?_
      refine XR 1 ?_
      refine XL_nil ?_
      subst hq12
      kernel_rfl
     obtain ⟨next13, hnext13, h⟩ := of_sI h
     refine V_sreg (mb 36 994) [] (s1 := ⟨.bot :: I vm2 :: bt 3 (I next5 :: I next13 :: I x6 :: I y7 :: I q12 :: bt 26 []), []⟩) ?_ ?_
     ·refine XR 8 ?_
      refine XL_nil ?_
      subst hnext13
      kernel_rfl
     obtain ⟨y14, hy14, h⟩ := of_sI h
     refine V_reg (mb 36 482) [] (s1 := ⟨.bot :: I vm2 :: bt 3 (I next5 :: I next13 :: I y7 :: I y14 :: bt 27 []), []⟩) ?_ ?_
     ·refine XR 8 ?_
      refine XL_nil ?_
      subst hy14
      kernel_rfl
     exact ⟨n, Nat.lt_succ_self n, _, _, _, _,  by rfl, h⟩
    ·have h := of_false h hc10
     refine V_exit ?_
     obtain rfl := some_inj h
     show St.keep _ _ _ = _
     rfl
  show V _ _ _ _
  refine V_seq ?_
  refine V_e (mb 36 4294967426) [] (s1 := ⟨.bot :: I vm2 :: bt 5 (I o9.2 :: bt 24 (Bo (!eqI o9.1 1) :: bt 3 [])), []⟩) ?_
  refine V_cond rfl (fun hc15 => ?_) (fun hc15 => ?_)
  ·have h := of_true h hc15
   refine V_e (mb 36 16) [] (s1 := ⟨bt 4 (I (-1) :: bt 31 []), []⟩) ?_
   refine V_ret ?_
   obtain rfl := some_inj h
   show Post _ _ _ _ _
   exact ⟨.inr rfl, rfl, rfl, rfl⟩
  ·have h := of_false h hc15
   refine V_skip ?_
   show V _ _ _ _
   obtain ⟨y16, hy16, h⟩ := of_bind h
   refine V_sreg (mb 36 16) [] (s1 := ⟨bt 4 (I y16 :: bt 31 []), []⟩) ?_ ?_
   ·refine XR 2 ?_
    refine XC (s_spec_nuMod hy16) cf_spec_nuMod rfl rfl rfl ?_
    exact XE
   refine V_ret ?_
   obtain rfl := some_inj h
   show Post _ _ _ _ _
   exact ⟨.inr rfl, rfl, rfl, rfl⟩
theorem cf_spec_nuBezout : ∀ args w, (callFunc 137 args).run Try.prog w = .ok (.enter 137 args) w := run_callFunc Try.func137 (by kernel_rfl) (by kernel_rfl)
theorem s_spec_nuBezout {a1 : Int} {b2 : Int} {r : (Int × Int × Int)} (h : r_spec_nuBezout a1 b2 = some r) : CallS Try.prog 137 [I a1, I b2] (.tc (I r.1) (.tc (I r.2.1) (.tc (I r.2.2) .tn))) [] := by
  refine CallS_of_text (rs := [.t 4, .t 5, .t 6]) (vs := [.tmp 4, .tmp 5, .tmp 6]) Try.func137 rfl rfl (.cons rfl (.cons rfl (.cons rfl FitsL.nil))) (by decide) 34 rfl ?_
  unfold r_spec_nuBezout at h
  show V _ _ ⟨I a1 :: I b2 :: bt 32 [], []⟩ _
  refine V_e (mb 34 3) [] (s1 := ⟨I a1 :: I b2 :: bt 32 [], []⟩) ?_
  obtain ⟨y3, hy3, h⟩ := of_bind h
  refine V_sreg (mb 34 131) [] (s1 := ⟨I a1 :: I b2 :: bt 5 (I y3 :: bt 26 []), []⟩) ?_ ?_
  ·refine XR 2 ?_
   refine XC (s_spec_nuGcd hy3) cf_spec_nuGcd rfl rfl rfl ?_
   exact XE
  refine V_seq ?_
  refine V_e (mb 34 8323) [] (s1 := ⟨I a1 :: I b2 :: bt 5 (I y3 :: bt 5 (Bo (eqI b2 0) :: bt 20 [])), []⟩) ?_
  refine V_cond rfl (fun hc4 => ?_) (fun hc4 => ?_)
  ·have h := of_true h hc4
   obtain ⟨y5, hy5, h⟩ := of_bind h
   refine V_sreg (mb 34 112) [] (s1 := ⟨bt 4 (I y3 :: I y5 :: I 0 :: bt 27 []), []⟩) ?_ ?_
   ·refine XR 2 ?_
    refine XC (s_spec_l1Sign hy5) cf_spec_l1Sign rfl rfl rfl ?_
    exact XE
   refine V_ret ?_
   obtain rfl := some_inj h
   show Post _ _ _ _ _
   exact ⟨.inr rfl, rfl, rfl, rfl⟩
  ·have h := of_false h hc4
   refine V_skip ?_
   show V _ _ _ _
   obtain ⟨z6, hz6, h⟩ := of_bind h
   obtain ⟨y7, hy7, h⟩ := of_bind h
   obtain ⟨z8, hz8, h⟩ := of_bind h
   obtain ⟨y9, hy9, h⟩ := of_bind h
   refine V_sdreg [0, 0, 3, 0, 8, 0, 56, 127, 255] 9 (cdm 9 [10888, 10882, 10885, 2090, 2154, 682, 1386, 5461, 21845]) (mb 34 387) [] (s1 := ⟨I a1 :: I b2 :: bt 5 (I y3 :: I y9 :: bt 25 []), []⟩) (by kernel_rfl) (by kernel_rfl) ?_ ?_
   ·refine DR 2 ?_
    refine DE_0 2 (I (w64 (Int.tdiv a1 y3))) (by kernel_rfl) rfl rfl rfl (gsat_none rfl) (by kernel_rfl) (Y0_quo64 (a := a1) (b := y3) rfl (by kernel_rfl) (by kernel_rfl) (nz_some hz6)) 19 rfl ?_
    refine DR 1 ?_
    refine DC 4 (s_spec_l1Abs hy7) cf_spec_l1Abs rfl rfl rfl rfl 21 rfl ?_
    refine DR 1 ?_
    refine DE_0 6 (I (w64 (Int.tdiv y7 y3))) (by kernel_rfl) rfl rfl rfl (gsat_none rfl) (by kernel_rfl) (Y0_quo64 (a := y7) (b := y3) rfl (by kernel_rfl) (by kernel_rfl) (nz_some hz8)) 23 rfl ?_
    refine DC 7 (s_spec_nuInverse hy9) cf_spec_nuInverse rfl rfl rfl rfl 24 rfl ?_
    refine DA 1 ?_
    exact XE
   obtain ⟨z10, hz10, h⟩ := of_bind h
   obtain ⟨t11, ht11, h⟩ := of_sI h
   refine V_sdreg [0, 0, 0, 0, 0, 24, 60, 0, 252, 1, 515, 2047] 12 (cdm 12 [174760, 699042, 2656906, 2654762, 2654378, 2654570, 2655578, 2632362, 2643290, 174761, 436901, 1398101]) (mb 34 112) [] (s1 := ⟨bt 4 (I y3 :: I y9 :: I t11 :: bt 27 []), []⟩) (by kernel_rfl) (by kernel_rfl) ?_ ?_
   ·refine DR 8 ?_
    refine DE_0 8 (I (w64 (Int.tdiv (w64 (y3 - (w64 (a1 * y9)))) b2))) (by kernel_rfl) rfl rfl rfl (gsat_none rfl) (by kernel_rfl) (Y0_quo64 (a := w64 (y3 - (w64 (a1 * y9)))) (b := b2) rfl (by kernel_rfl) (by kernel_rfl) (nz_some hz10)) 33 rfl ?_
    refine DA 3 ?_
    refine XL_nil ?_
    subst ht11
    kernel_rfl
   refine V_ret ?_
   obtain rfl := some_inj h
   show Post _ _ _ _ _
   exact ⟨.inr rfl, rfl, rfl, rfl⟩
theorem cf_spec_vaComplete : ∀ args w, (callFunc 113 args).run Try.prog w = .ok (.enter 113 args) w := run_callFunc Try.func113 (by kernel_rfl) (by kernel_rfl)
theorem s_spec_vaComplete {f1 : (Int × Int × Int)} {x2 : Int} {y3 : Int} {r : (((Int × Int × Int)) × ((Int × Int × Int × Int)))} (h : r_spec_vaComplete f1 x2 y3 = some r) : CallS Try.prog 113 [.ag [Ti f1.1, Ti f1.2.1, Ti f1.2.2], I x2, I y3] (.tc (.ag [Ti r.1.1, Ti r.1.2.1, Ti r.1.2.2]) (.tc (.ag [Ti r.2.1, Ti r.2.2.1, Ti r.2.2.2.1, Ti r.2.2.2.2]) .tn)) [] := by
  refine CallS_of_text (rs := [.w 6 3, .w 7 4]) (vs := [.cell 6 25, .cell 7 86]) Try.func113 rfl rfl (.cons ⟨rfl, wd25⟩ (.cons ⟨rfl, wd86⟩ FitsL.nil)) (by decide) 76 rfl ?_
  unfold r_spec_vaComplete at h
  show V _ _ ⟨.ag [Ti f1.1, Ti f1.2.1, Ti f1.2.2] :: I x2 :: I y3 :: bt 73 [], []⟩ _
  refine V_e (mb 76 206) [56, 48, 24] (s1 := ⟨.bot :: I x2 :: I y3 :: .pt 24 0 :: .bot :: .bot :: .pt 48 0 :: .pt 56 0 :: bt 68 [], [(56, .box [Ti 0, Ti 0, Ti 0, Ti 0]), (48, .box [Ti 0, Ti 0, Ti 0]), (24, .box [Ti f1.1, Ti f1.2.1, Ti f1.2.2])]⟩) ?_
  obtain ⟨y4, hy4, h⟩ := of_bind h
  refine V_sreg (mb 76 1742) [56, 48, 24] (s1 := ⟨.bot :: I x2 :: I y3 :: .pt 24 0 :: .bot :: .bot :: .pt 48 0 :: .pt 56 0 :: .bot :: I y4.2.1 :: I y4.2.2 :: bt 65 [], [(56, .box [Ti 0, Ti 0, Ti 0, Ti 0]), (48, .box [Ti 0, Ti 0, Ti 0]), (24, .box [Ti f1.1, Ti f1.2.1, Ti f1.2.2])]⟩) ?_ ?_
  ·refine XR 2 ?_
   refine XC (s_spec_nuBezout hy4) cf_spec_nuBezout rfl rfl rfl ?_
   exact XE
  obtain ⟨y5, hy5, h⟩ := of_bind h
  obtain ⟨q6, hq6, h⟩ := of_sI h
  refine V_sreg (mb 76 6862) [56, 48, 24] (s1 := ⟨.bot :: I x2 :: I y3 :: .pt 24 0 :: .bot :: .bot :: .pt 48 0 :: .pt 56 0 :: .bot :: I y4.2.1 :: .bot :: I q6 :: I y5 :: bt 63 [], [(56, .box [Ti 0, Ti 0, Ti 0, Ti 0]), (48, .box [Ti 0, Ti 0, Ti 0]), (24, .box [Ti f1.1, Ti f1.2.1, Ti f1.2.2])]⟩) ?_ ?_
  ·refine XR 5 ?_
   refine XC (s_spec_foValue hy5) cf_spec_foValue rfl rfl rfl ?_
   refine XR 2 ?_
   refine XL_nil ?_
   subst hq6
   kernel_rfl
  obtain ⟨y7, hy7, h⟩ := of_bind h
  refine V_sreg (mb 76 15054) [56, 48, 24] (s1 := ⟨.bot :: I x2 :: I y3 :: .pt 24 0 :: .bot :: .bot :: .pt 48 0 :: .pt 56 0 :: .bot :: I y4.2.1 :: .bot :: I q6 :: I y5 :: I y7 :: bt 62 [], [(56, .box [Ti 0, Ti 0, Ti 0, Ti 0]), (48, .box [Ti 0, Ti 0, Ti 0]), (24, .box [Ti f1.1, Ti f1.2.1, Ti f1.2.2])]⟩) ?_ ?_
  ·refine XR 5 ?_
   refine XC (s_spec_foPolar hy7) cf_spec_foPolar rfl rfl rfl ?_
   exact XE
  obtain ⟨y8, hy8, h⟩ := of_bind h
  obtain ⟨z9, hz9, h⟩ := of_bind h
  obtain ⟨t10, ht10, h⟩ := of_sI h
  refine V_sreg (mb 76 31438) [56, 48, 24] (s1 := ⟨.bot :: I x2 :: I y3 :: .pt 24 0 :: .bot :: .bot :: .pt 48 0 :: .pt 56 0 :: .bot :: I y4.2.1 :: .bot :: I q6 :: I y5 :: I y7 :: I t10 :: bt 61 [], [(56, .box [Ti 0, Ti 0, Ti 0, Ti 0]), (48, .box [Ti 0, Ti 0, Ti 0]), (24, .box [Ti f1.1, Ti f1.2.1, Ti f1.2.2])]⟩) ?_ ?_
  ·refine XR 3 ?_
   refine XC (s_spec_nuMod hy8) cf_spec_nuMod rfl rfl rfl ?_
   refine XR 4 ?_
   refine L0 rfl rfl (Y0_quo64 (a := w64 (y8 - y7)) (b := w64 (2 * y5)) rfl (by kernel_rfl) (by kernel_rfl) (nz_some hz9)) ?_
   refine XR 1 ?_
   refine XL_nil ?_
   subst ht10
   kernel_rfl
  obtain ⟨f11, hf11, h⟩ := of_sI h
  obtain ⟨f12, hf12, h⟩ := of_sI h
  refine V_sreg (mb 76 61640) [120, 56, 48, 24] (s1 := ⟨bt 3 (.pt 24 0 :: .bot :: .bot :: .pt 48 0 :: .pt 56 0 :: bt 4 (I y5 :: I y7 :: I t10 :: .pt 120 0 :: bt 60 [])), [(120, .box [Ti x2, Ti f11, Ti y3, Ti f12]), (56, .box [Ti 0, Ti 0, Ti 0, Ti 0]), (48, .box [Ti 0, Ti 0, Ti 0]), (24, .box [Ti f1.1, Ti f1.2.1, Ti f1.2.2])]⟩) ?_ ?_
  ·refine XR 12 ?_
   refine L0 rfl rfl (Y0_build (cs := [Ti x2, Ti (w64 (q6 + (w64 (x2 * t10)))), Ti y3, Ti (w64 (y4.2.1 + (w64 (y3 * t10))))]) pl86 bt86 rfl rfl (by kernel_rfl)) ?_
   refine XR 2 ?_
   refine XL_nil ?_
   subst hf11 hf12
   kernel_rfl
  obtain ⟨b13, hb13, h⟩ := of_sI h
  refine V_sreg (mb 76 45256) [120, 56, 48, 24] (s1 := ⟨bt 3 (.pt 24 0 :: .bot :: .bot :: .pt 48 0 :: .pt 56 0 :: bt 4 (I y5 :: I b13 :: .bot :: .pt 120 0 :: bt 60 [])), [(120, .box [Ti x2, Ti f11, Ti y3, Ti f12]), (56, .box [Ti 0, Ti 0, Ti 0, Ti 0]), (48, .box [Ti 0, Ti 0, Ti 0]), (24, .box [Ti f1.1, Ti f1.2.1, Ti f1.2.2])]⟩) ?_ ?_
  ·refine XR 7 ?_
   refine XL_nil ?_
   subst hb13
   kernel_rfl
  obtain ⟨y14, hy14, h⟩ := of_bind h
  obtain ⟨z15, hz15, h⟩ := of_bind h
  obtain ⟨f16, hf16, h⟩ := of_sI h
  refine V_sdreg [0, 0, 0, 0, 12, 0, 32, 124, 0, 256, 1020, 2047, 0, 4095, 16383] 14 [[.z, .b, .b, .b, .b, .b, .b, .b, .b, .b, .b, .z, .b, .z], [.b, .z, .b, .b, .b, .b, .b, .b, .b, .b, .b, .z, .b, .z], [.b, .b, .z, .b, .z, .b, .b, .z, .b, .b, .z, .z, .b, .z], [.b, .b, .b, .z, .z, .b, .b, .z, .b, .b, .z, .z, .b, .z], [.b, .b, .a, .a, .z, .b, .b, .z, .b, .b, .z, .z, .b, .z], [.b, .b, .b, .b, .b, .z, .z, .z, .b, .b, .z, .z, .b, .z], [.b, .b, .b, .b, .b, .a, .z, .z, .b, .b, .z, .z, .b, .z], [.b, .b, .a, .a, .a, .a, .a, .z, .b, .b, .z, .z, .b, .z], [.b, .b, .b, .b, .b, .b, .b, .b, .z, .z, .z, .z, .b, .z], [.b, .b, .b, .b, .b, .b, .b, .b, .a, .z, .z, .z, .b, .z], [.b, .b, .a, .a, .a, .a, .a, .a, .a, .a, .z, .z, .b, .z], [.a, .a, .a, .a, .a, .a, .a, .a, .a, .a, .a, .z, .b, .z], [.b, .b, .b, .b, .b, .b, .b, .b, .b, .b, .b, .b, .z, .r 48], [.a, .a, .a, .a, .a, .a, .a, .a, .a, .a, .a, .a, .b, .z]] (mb 76 192) [56, 48] (s1 := ⟨bt 6 (.pt 48 0 :: .pt 56 0 :: bt 68 []), [(56, .box [Ti x2, Ti f11, Ti y3, Ti f12]), (48, .box [Ti y5, Ti b13, Ti f16])]⟩) (by kernel_rfl) (by kernel_rfl) ?_ ?_
  ·refine DR 6 ?_
   refine DC 6 (s_spec_foDisc hy14) cf_spec_foDisc rfl rfl rfl rfl 69 rfl ?_
   refine DR 3 ?_
   refine DE_0 10 (I (w64 (Int.tdiv (w64 ((w64 (b13 * b13)) - y14)) (w64 (4 * y5))))) (by kernel_rfl) rfl rfl rfl (gsat_none rfl) (by kernel_rfl) (Y0_quo64 (a := w64 ((w64 (b13 * b13)) - y14)) (b := w64 (4 * y5)) rfl (by kernel_rfl) (by kernel_rfl) (nz_some hz15)) 73 rfl ?_
   refine DE_0 11 (.ag [Ti y5, Ti b13, Ti (w64 (Int.tdiv (w64 ((w64 (b13 * b13)) - y14)) (w64 (4 * y5))))]) (by kernel_rfl) rfl rfl rfl (gsat_none rfl) (by kernel_rfl) (Y0_build (cs := [Ti y5, Ti b13, Ti (w64 (Int.tdiv (w64 ((w64 (b13 * b13)) - y14)) (w64 (4 * y5))))]) pl25 bt25 rfl rfl (by kernel_rfl)) 74 rfl ?_
   refine DA 2 ?_
   refine XR 1 ?_
   refine XL_nil ?_
   subst hf16
   kernel_rfl
  refine V_ret ?_
  obtain rfl := some_inj h
  show Post _ _ _ _ _
  exact ⟨.inr rfl, rfl, rfl, rfl⟩
theorem cf_spec_nuCommon : ∀ args w, (callFunc 115 args).run Try.prog w = .ok (.enter 115 args) w := run_callFunc Try.func115 (by kernel_rfl) (by kernel_rfl)
theorem s_spec_nuCommon {a1 : Int} {vm2 : Int} {b3 : Int} {vn4 : Int} {r : (Int × Int × Bool)} (h : r_spec_nuCommon a1 vm2 b3 vn4 = some r) : CallS Try.prog 115 [I a1, I vm2, I b3, I vn4] (.tc (I r.1) (.tc (I r.2.1) (.tc (Bo r.2.2) .tn))) [] := by
  refine CallS_of_text (rs := [.t 8, .t 9, .t 10]) (vs := [.tmp 8, .tmp 9, .tmp 10]) Try.func115 rfl rfl (.cons rfl (.cons rfl (.cons rfl FitsL.nil))) (by decide) 53 rfl ?_
  unfold r_spec_nuCommon at h
  show V _ _ ⟨I a1 :: I vm2 :: I b3 :: I vn4 :: bt 49 [], []⟩ _
  refine V_e (mb 53 15) [] (s1 := ⟨I a1 :: I vm2 :: I b3 :: I vn4 :: bt 49 [], []⟩) ?_
  obtain ⟨y5, hy5, h⟩ := of_bind h
  refine V_sreg (mb 53 2063) [] (s1 := ⟨I a1 :: I vm2 :: I b3 :: I vn4 :: bt 7 (I y5 :: bt 41 []), []⟩) ?_ ?_
  ·refine XR 2 ?_
   refine XC (s_spec_nuGcd hy5) cf_spec_nuGcd rfl rfl rfl ?_
   exact XE
  refine V_seq ?_
  obtain ⟨z6, hz6, h⟩ := of_bind h
  refine V_sreg (mb 53 4196367) [] (s1 := ⟨I a1 :: I vm2 :: I b3 :: I vn4 :: bt 7 (I y5 :: bt 10 (Bo (!eqI (Int.tmod (w64 (b3 - a1)) y5) 0) :: bt 30 [])), []⟩) ?_ ?_
  ·refine XR 4 ?_
   refine L0 rfl rfl (Y0_rem (k := .i64) (a := w64 (b3 - a1)) (b := y5) rfl (by kernel_rfl) (by kernel_rfl) (nz_some hz6)) ?_
   exact XE
  refine V_cond rfl (fun hc7 => ?_) (fun hc7 => ?_)
  ·have h := of_true h hc7
   refine V_e (mb 53 1792) [] (s1 := ⟨bt 8 (I 0 :: I 0 :: Bo false :: bt 42 []), []⟩) ?_
   refine V_ret ?_
   obtain rfl := some_inj h
   show Post _ _ _ _ _
   exact ⟨.inr rfl, rfl, rfl, rfl⟩
  ·have h := of_false h hc7
   refine V_skip ?_
   show V _ _ _ _
   obtain ⟨z8, hz8, h⟩ := of_bind h
   obtain ⟨z9, hz9, h⟩ := of_bind h
   obtain ⟨z10, hz10, h⟩ := of_bind h
   obtain ⟨y11, hy11, h⟩ := of_bind h
   obtain ⟨z12, hz12, h⟩ := of_bind h
   obtain ⟨y13, hy13, h⟩ := of_bind h
   refine V_sdreg [0, 0, 3, 0, 15, 0, 0, 96, 0, 0, 768, 2016, 4095, 0, 0, 24576, 65535, 131071] 18 (cdm 18 [2829756552, 2829756546, 2829756549, 2829756458, 2829756501, 2821333674, 2821327530, 2821330602, 2819140266, 2818747050, 2818943658, 2819970730, 2824164693, 581610154, 178956970, 380283562, 1431655765, 5726623061]) (mb 53 6155) [] (s1 := ⟨I a1 :: I vm2 :: .bot :: I vn4 :: bt 7 (I y5 :: I y13 :: bt 40 []), []⟩) (by kernel_rfl) (by kernel_rfl) ?_ ?_
   ·refine DR 4 ?_
    refine DE_0 4 (I (w64 (Int.tdiv (w64 (b3 - a1)) y5))) (by kernel_rfl) rfl rfl rfl (gsat_none rfl) (by kernel_rfl) (Y0_quo64 (a := w64 (b3 - a1)) (b := y5) rfl (by kernel_rfl) (by kernel_rfl) (nz_some hz8)) 27 rfl ?_
    refine DR 2 ?_
    refine DE_0 7 (I (w64 (Int.tdiv vm2 y5))) (by kernel_rfl) rfl rfl rfl (gsat_none rfl) (by kernel_rfl) (Y0_quo64 (a := vm2) (b := y5) rfl (by kernel_rfl) (by kernel_rfl) (nz_some hz9)) 30 rfl ?_
    refine DR 2 ?_
    refine DE_0 10 (I (w64 (Int.tdiv vn4 y5))) (by kernel_rfl) rfl rfl rfl (gsat_none rfl) (by kernel_rfl) (Y0_quo64 (a := vn4) (b := y5) rfl (by kernel_rfl) (by kernel_rfl) (nz_some hz10)) 33 rfl ?_
    refine DC 11 (s_spec_nuInverse hy11) cf_spec_nuInverse rfl rfl rfl rfl 34 rfl ?_
    refine DR 3 ?_
    refine DE_0 15 (I (w64 (Int.tdiv vn4 y5))) (by kernel_rfl) rfl rfl rfl (gsat_none rfl) (by kernel_rfl) (Y0_quo64 (a := vn4) (b := y5) rfl (by kernel_rfl) (by kernel_rfl) (nz_some hz12)) 38 rfl ?_
    refine DC 16 (s_spec_nuMod hy13) cf_spec_nuMod rfl rfl rfl rfl 39 rfl ?_
    refine DA 1 ?_
    exact XE
   obtain ⟨z14, hz14, h⟩ := of_bind h
   obtain ⟨all15, hall15, h⟩ := of_sI h
   refine V_sreg (mb 53 12291) [] (s1 := ⟨I a1 :: I vm2 :: bt 10 (I y13 :: I all15 :: bt 39 []), []⟩) ?_ ?_
   ·refine XR 2 ?_
    refine L0 rfl rfl (Y0_quo64 (a := vm2) (b := y5) rfl (by kernel_rfl) (by kernel_rfl) (nz_some hz14)) ?_
    refine XR 3 ?_
    refine XL_nil ?_
    subst hall15
    kernel_rfl
   obtain ⟨y16, hy16, h⟩ := of_bind h
   refine V_sreg (mb 53 1792) [] (s1 := ⟨bt 8 (I y16 :: I all15 :: Bo true :: bt 42 []), []⟩) ?_ ?_
   ·refine XR 6 ?_
    refine XC (s_spec_nuMod hy16) cf_spec_nuMod rfl rfl rfl ?_
    exact XE
   refine V_ret ?_
   obtain rfl := some_inj h
   show Post _ _ _ _ _
   exact ⟨.inr rfl, rfl, rfl, rfl⟩
theorem cf_spec_coShift : ∀ args w, (callFunc 116 args).run Try.prog w = .ok (.enter 116 args) w := run_callFunc Try.func116 (by kernel_rfl) (by kernel_rfl)
theorem s_spec_coShift {t1 : Int} {r : (Int × Int × Int × Int)} (h : r_spec_coShift t1 = some r) : CallS Try.prog 116 [I t1] (.ag [Ti r.1, Ti r.2.1, Ti r.2.2.1, Ti r.2.2.2]) [] := by
  refine CallS_of_text (rs := [.w 2 4]) (vs := [.cell 2 86]) Try.func116 rfl rfl (.cons ⟨rfl, wd86⟩ FitsL.nil) (by decide) 5 rfl ?_
  unfold r_spec_coShift at h
  show V _ _ ⟨I t1 :: bt 4 [], []⟩ _
  refine V_e (mb 5 5) [16] (s1 := ⟨I t1 :: .bot :: .pt 16 0 :: .bot :: .bot :: [], [(16, .box [Ti 0, Ti 0, Ti 0, Ti 0])]⟩) ?_
  refine V_sreg (mb 5 4) [16] (s1 := ⟨.bot :: .bot :: .pt 16 0 :: .bot :: .bot :: [], [(16, .box [Ti 1, Ti t1, Ti 0, Ti 1])]⟩) ?_ ?_
  ·refine XR 1 ?_
   refine L0 rfl rfl (Y0_build (cs := [Ti 1, Ti t1, Ti 0, Ti 1]) pl86 bt86 rfl rfl (by kernel_rfl)) ?_
   exact XE
  refine V_ret ?_
  obtain rfl := some_inj h
  show Post _ _ _ _ _
  exact ⟨.inr rfl, rfl, rfl, rfl⟩
theorem cf_spec_coUnite : ∀ args w, (callFunc 80 args).run Try.prog w = .ok (.enter 80 args) w := run_callFunc Try.func80 (by kernel_rfl) (by kernel_rfl)
theorem s_spec_coUnite {f1 : (Int × Int × Int)} {g2 : (Int × Int × Int)} {r : (((Int × Int × Int)) × ((Int × Int × Int)) × ((Int × Int × Int × Int)) × ((Int × Int × Int × Int)))} (h : r_spec_coUnite f1 g2 = some r) : CallS Try.prog 80 [.ag [Ti f1.1, Ti f1.2.1, Ti f1.2.2], .ag [Ti g2.1, Ti g2.2.1, Ti g2.2.2]] (.tc (.ag [Ti r.1.1, Ti r.1.2.1, Ti r.1.2.2]) (.tc (.ag [Ti r.2.1.1, Ti r.2.1.2.1, Ti r.2.1.2.2]) (.tc (.ag [Ti r.2.2.1.1, Ti r.2.2.1.2.1, Ti r.2.2.1.2.2.1, Ti r.2.2.1.2.2.2]) (.tc (.ag [Ti r.2.2.2.1, Ti r.2.2.2.2.1, Ti r.2.2.2.2.2.1, Ti r.2.2.2.2.2.2]) .tn)))) [] := by
  refine CallS_of_text (rs := [.w 4 3, .w 5 3, .w 6 4, .w 7 4]) (vs := [.cell 4 25, .cell 5 25, .cell 6 86, .cell 7 86]) Try.func80 rfl rfl (.cons ⟨rfl, wd25⟩ (.cons ⟨rfl, wd25⟩ (.cons ⟨rfl, wd86⟩ (.cons ⟨rfl, wd86⟩ FitsL.nil)))) (by decide) 118 rfl ?_
  unfold r_spec_coUnite at h
  show V _ _ ⟨.ag [Ti f1.1, Ti f1.2.1, Ti f1.2.2] :: .ag [Ti g2.1, Ti g2.2.1, Ti g2.2.2] :: bt 116 [], []⟩ _
  refine V_e (mb 118 252) [56, 48, 40, 32, 24, 16] (s1 := ⟨.bot :: .bot :: .pt 16 0 :: .pt 24 0 :: .pt 32 0 :: .pt 40 0 :: .pt 48 0 :: .pt 56 0 :: bt 110 [], [(56, .box [Ti 0, Ti 0, Ti 0, Ti 0]), (48, .box [Ti 0, Ti 0, Ti 0, Ti 0]), (40, .box [Ti 0, Ti 0, Ti 0]), (32, .box [Ti 0, Ti 0, Ti 0]), (24, .box [Ti g2.1, Ti g2.2.1, Ti g2.2.2]), (16, .box [Ti f1.1, Ti f1.2.1, Ti f1.2.2])]⟩) ?_
  obtain ⟨y3, hy3, h⟩ := of_bind h
  refine V_sreg (mb 118 1016) [72, 64, 56, 48, 40, 32, 24] (s1 := ⟨bt 3 (.pt 24 0 :: .pt 32 0 :: .pt 40 0 :: .pt 48 0 :: .pt 56 0 :: .pt 64 0 :: .pt 72 0 :: bt 108 []), [(72, .box [Ti y3.2.1, Ti y3.2.2.1, Ti y3.2.2.2.1, Ti y3.2.2.2.2]), (64, .box [Ti y3.1.1, Ti y3.1.2.1, Ti y3.1.2.2]), (56, .box [Ti 0, Ti 0, Ti 0, Ti 0]), (48, .box [Ti 0, Ti 0, Ti 0, Ti 0]), (40, .box [Ti 0, Ti 0, Ti 0]), (32, .box [Ti 0, Ti 0, Ti 0]), (24, .box [Ti g2.1, Ti g2.2.1, Ti g2.2.2])]⟩) ?_ ?_
  ·refine XR 1 ?_
   refine XC (s_spec_reReduce hy3) cf_spec_reReduce rfl rfl rfl ?_
   exact XE
  obtain ⟨y4, hy4, h⟩ := of_bind h
  refine V_sreg (mb 118 4080) [88, 80, 72, 64, 56, 48, 40, 32] (s1 := ⟨bt 4 (.pt 32 0 :: .pt 40 0 :: .pt 48 0 :: .pt 56 0 :: .pt 64 0 :: .pt 72 0 :: .pt 80 0 :: .pt 88 0 :: bt 106 []), [(88, .box [Ti y4.2.1, Ti y4.2.2.1, Ti y4.2.2.2.1, Ti y4.2.2.2.2]), (80, .box [Ti y4.1.1, Ti y4.1.2.1, Ti y4.1.2.2]), (72, .box [Ti y3.2.1, Ti y3.2.2.1, Ti y3.2.2.2.1, Ti y3.2.2.2.2]), (64, .box [Ti y3.1.1, Ti y3.1.2.1, Ti y3.1.2.2]), (56, .box [Ti 0, Ti 0, Ti 0, Ti 0]), (48, .box [Ti 0, Ti 0, Ti 0, Ti 0]), (40, .box [Ti 0, Ti 0, Ti 0]), (32, .box [Ti 0, Ti 0, Ti 0])]⟩) ?_ ?_
  ·refine XR 1 ?_
   refine XC (s_spec_reReduce hy4) cf_spec_reReduce rfl rfl rfl ?_
   exact XE
  obtain ⟨y5, hy5, h⟩ := of_bind h
  refine V_sreg (mb 118 16368) [88, 80, 72, 64, 56, 48, 40, 32] (s1 := ⟨bt 4 (.pt 32 0 :: .pt 40 0 :: .pt 48 0 :: .pt 56 0 :: .pt 64 0 :: .pt 72 0 :: .pt 80 0 :: .pt 88 0 :: I y5.1 :: I y5.2 :: bt 104 []), [(88, .box [Ti y4.2.1, Ti y4.2.2.1, Ti y4.2.2.2.1, Ti y4.2.2.2.2]), (80, .box [Ti y4.1.1, Ti y4.1.2.1, Ti y4.1.2.2]), (72, .box [Ti y3.2.1, Ti y3.2.2.1, Ti y3.2.2.2.1, Ti y3.2.2.2.2]), (64, .box [Ti y3.1.1, Ti y3.1.2.1, Ti y3.1.2.2]), (56, .box [Ti 0, Ti 0, Ti 0, Ti 0]), (48, .box [Ti 0, Ti 0, Ti 0, Ti 0]), (40, .box [Ti 0, Ti 0, Ti 0]), (32, .box [Ti 0, Ti 0, Ti 0])]⟩) ?_ ?_
  ·refine XR 3 ?_
   refine XC (s_spec_coPoint hy5) cf_spec_coPoint rfl rfl rfl ?_
   exact XE
  obtain ⟨y6, hy6, h⟩ := of_bind h
  refine V_sreg (mb 118 20464) [112, 88, 80, 72, 64, 56, 48, 40, 32] (s1 := ⟨bt 4 (.pt 32 0 :: .pt 40 0 :: .pt 48 0 :: .pt 56 0 :: .pt 64 0 :: .pt 72 0 :: .pt 80 0 :: .pt 88 0 :: .bot :: .bot :: .pt 112 0 :: bt 103 []), [(112, .box [Ti y6.2.1, Ti y6.2.2.1, Ti y6.2.2.2.1, Ti y6.2.2.2.2]), (88, .box [Ti y4.2.1, Ti y4.2.2.1, Ti y4.2.2.2.1, Ti y4.2.2.2.2]), (80, .box [Ti y6.1.1, Ti y6.1.2.1, Ti y6.1.2.2]), (72, .box [Ti y3.2.1, Ti y3.2.2.1, Ti y3.2.2.2.1, Ti y3.2.2.2.2]), (64, .box [Ti y3.1.1, Ti y3.1.2.1, Ti y3.1.2.2]), (56, .box [Ti 0, Ti 0, Ti 0, Ti 0]), (48, .box [Ti 0, Ti 0, Ti 0, Ti 0]), (40, .box [Ti 0, Ti 0, Ti 0]), (32, .box [Ti 0, Ti 0, Ti 0])]⟩) ?_ ?_
  ·refine XR 3 ?_
   refine XC (s_spec_vaComplete hy6) cf_spec_vaComplete rfl rfl rfl ?_
   exact XE
  obtain ⟨y7, hy7, h⟩ := of_bind h
  refine V_sreg (mb 118 4080) [88, 80, 72, 64, 56, 48, 40, 32] (s1 := ⟨bt 4 (.pt 32 0 :: .pt 40 0 :: .pt 48 0 :: .pt 56 0 :: .pt 64 0 :: .pt 72 0 :: .pt 80 0 :: .pt 88 0 :: bt 106 []), [(88, .box [Ti y7.1, Ti y7.2.1, Ti y7.2.2.1, Ti y7.2.2.2]), (80, .box [Ti y6.1.1, Ti y6.1.2.1, Ti y6.1.2.2]), (72, .box [Ti y3.2.1, Ti y3.2.2.1, Ti y3.2.2.2.1, Ti y3.2.2.2.2]), (64, .box [Ti y3.1.1, Ti y3.1.2.1, Ti y3.1.2.2]), (56, .box [Ti 0, Ti 0, Ti 0, Ti 0]), (48, .box [Ti 0, Ti 0, Ti 0, Ti 0]), (40, .box [Ti 0, Ti 0, Ti 0]), (32, .box [Ti 0, Ti 0, Ti 0])]⟩) ?_ ?_
  ·refine XR 2 ?_
   refine XC (s_spec_foMul hy7) cf_spec_foMul rfl rfl rfl ?_
   exact XE
  obtain ⟨y8, hy8, h⟩ := of_bind h
  obtain ⟨y9, hy9, h⟩ := of_bind h
  refine V_sdreg [0, 1, 0, 4, 12, 31, 0, 64, 192, 0, 512, 0, 2048, 6144, 16383, 32767, 65535, 65535, 65535, 131071, 786431, 2097151] 22 (cdm 22 [178954912, 178954913, 178954250, 178954266, 178954330, 178954581, 178784938, 178789034, 178805418, 176335530, 176597674, 2796202, 6990506, 23767722, 89478485, 357913941, 173230347605, 697216357717, 2793160398165, 177525314901, 435223352661, 1466015503701]) (mb 118 36848) [88, 80, 72, 64, 56, 48, 40, 32] (s1 := ⟨bt 4 (.pt 32 0 :: .pt 40 0 :: .pt 48 0 :: .pt 56 0 :: .pt 64 0 :: .pt 72 0 :: .pt 80 0 :: .pt 88 0 :: bt 3 (I y9.1 :: bt 102 [])), [(88, .box [Ti y7.1, Ti y7.2.1, Ti y7.2.2.1, Ti y7.2.2.2]), (80, .box [Ti y6.1.1, Ti y6.1.2.1, Ti y6.1.2.2]), (72, .box [Ti y3.2.1, Ti y3.2.2.1, Ti y3.2.2.2.1, Ti y3.2.2.2.2]), (64, .box [Ti y3.1.1, Ti y3.1.2.1, Ti y3.1.2.2]), (56, .box [Ti 0, Ti 0, Ti 0, Ti 0]), (48, .box [Ti 0, Ti 0, Ti 0, Ti 0]), (40, .box [Ti 0, Ti 0, Ti 0]), (32, .box [Ti 0, Ti 0, Ti 0])]⟩) (by kernel_rfl) (by kernel_rfl) ?_ ?_
  ·refine DR 5 ?_
   refine DC 5 (s_spec_nuMod hy8) cf_spec_nuMod rfl rfl rfl rfl 52 rfl ?_
   refine DR 8 ?_
   refine DC 14 (s_spec_nuCommon hy9) cf_spec_nuCommon rfl rfl rfl rfl 61 rfl ?_
   refine DA 7 ?_
   exact XE
  obtain ⟨z10, hz10, h⟩ := of_bind h
  obtain ⟨y11, hy11, h⟩ := of_bind h
  obtain ⟨y12, hy12, h⟩ := of_bind h
  refine V_sdreg [0, 0, 0, 4, 14, 0, 32, 96, 254, 510, 1023, 2047] 11 (cdm 11 [699048, 43170, 43018, 43034, 43094, 682, 1706, 5802, 21846, 87382, 349525]) (mb 118 36848) [88, 80, 72, 64, 56, 48, 40, 32] (s1 := ⟨bt 4 (.pt 32 0 :: .pt 40 0 :: .pt 48 0 :: .pt 56 0 :: .pt 64 0 :: .pt 72 0 :: .pt 80 0 :: .pt 88 0 :: bt 3 (I y9.1 :: bt 102 [])), [(88, .box [Ti y7.1, Ti y7.2.1, Ti y7.2.2.1, Ti y7.2.2.2]), (80, .box [Ti y6.1.1, Ti y6.1.2.1, Ti y6.1.2.2]), (72, .box [Ti y12.1, Ti y12.2.1, Ti y12.2.2.1, Ti y12.2.2.2]), (64, .box [Ti y3.1.1, Ti y3.1.2.1, Ti y3.1.2.2]), (56, .box [Ti 0, Ti 0, Ti 0, Ti 0]), (48, .box [Ti 0, Ti 0, Ti 0, Ti 0]), (40, .box [Ti 0, Ti 0, Ti 0]), (32, .box [Ti 0, Ti 0, Ti 0])]⟩) (by kernel_rfl) (by kernel_rfl) ?_ ?_
  ·refine DR 8 ?_
   refine DE_0 8 (I (w64 (Int.tdiv (w64 (y9.1 - y3.1.2.1)) (w64 (2 * y3.1.1))))) (by kernel_rfl) rfl rfl rfl (gsat_none rfl) (by kernel_rfl) (Y0_quo64 (a := w64 (y9.1 - y3.1.2.1)) (b := w64 (2 * y3.1.1)) rfl (by kernel_rfl) (by kernel_rfl) (nz_some hz10)) 73 rfl ?_
   refine DC 9 (s_spec_coShift hy11) cf_spec_coShift rfl rfl rfl rfl 74 rfl ?_
   refine DC 10 (s_spec_foMul hy12) cf_spec_foMul rfl rfl rfl rfl 75 rfl ?_
   refine DA 0 ?_
   exact XE
  obtain ⟨z13, hz13, h⟩ := of_bind h
  obtain ⟨y14, hy14, h⟩ := of_bind h
  obtain ⟨y15, hy15, h⟩ := of_bind h
  refine V_sdreg [0, 0, 0, 4, 14, 0, 32, 96, 254, 510, 1023, 2047] 11 (cdm 11 [699048, 43170, 43018, 43034, 43094, 682, 1706, 5802, 21846, 87382, 349525]) (mb 118 36848) [88, 80, 72, 64, 56, 48, 40, 32] (s1 := ⟨bt 4 (.pt 32 0 :: .pt 40 0 :: .pt 48 0 :: .pt 56 0 :: .pt 64 0 :: .pt 72 0 :: .pt 80 0 :: .pt 88 0 :: bt 3 (I y9.1 :: bt 102 [])), [(88, .box [Ti y15.1, Ti y15.2.1, Ti y15.2.2.1, Ti y15.2.2.2]), (80, .box [Ti y6.1.1, Ti y6.1.2.1, Ti y6.1.2.2]), (72, .box [Ti y12.1, Ti y12.2.1, Ti y12.2.2.1, Ti y12.2.2.2]), (64, .box [Ti y3.1.1, Ti y3.1.2.1, Ti y3.1.2.2]), (56, .box [Ti 0, Ti 0, Ti 0, Ti 0]), (48, .box [Ti 0, Ti 0, Ti 0, Ti 0]), (40, .box [Ti 0, Ti 0, Ti 0]), (32, .box [Ti 0, Ti 0, Ti 0])]⟩) (by kernel_rfl) (by kernel_rfl) ?_ ?_
  ·refine DR 8 ?_
   refine DE_0 8 (I (w64 (Int.tdiv (w64 (y9.1 - y6.1.2.1)) (w64 (2 * y6.1.1))))) (by kernel_rfl) rfl rfl rfl (gsat_none rfl) (by kernel_rfl) (Y0_quo64 (a := w64 (y9.1 - y6.1.2.1)) (b := w64 (2 * y6.1.1)) rfl (by kernel_rfl) (by kernel_rfl) (nz_some hz13)) 84 rfl ?_
   refine DC 9 (s_spec_coShift hy14) cf_spec_coShift rfl rfl rfl rfl 85 rfl ?_
   refine DC 10 (s_spec_foMul hy15) cf_spec_foMul rfl rfl rfl rfl 86 rfl ?_
   refine DA 0 ?_
   exact XE
  obtain ⟨y16, hy16, h⟩ := of_bind h
  obtain ⟨z17, hz17, h⟩ := of_bind h
  obtain ⟨c18, hc18, h⟩ := of_sI h
  refine V_sdreg [0, 0, 3, 0, 8, 31, 0, 64, 192, 0, 512, 1984, 4095, 8191] 14 (cdm 14 [11182728, 11182722, 11182725, 11182122, 11182186, 11182421, 2624170, 2628266, 2644650, 174762, 436906, 1399466, 5592405, 22369621]) (mb 118 298992) [88, 80, 72, 64, 56, 48, 40, 32] (s1 := ⟨bt 4 (.pt 32 0 :: .pt 40 0 :: .pt 48 0 :: .pt 56 0 :: .pt 64 0 :: .pt 72 0 :: .pt 80 0 :: .pt 88 0 :: bt 3 (I y9.1 :: .bot :: .bot :: I c18 :: bt 99 [])), [(88, .box [Ti y15.1, Ti y15.2.1, Ti y15.2.2.1, Ti y15.2.2.2]), (80, .box [Ti y6.1.1, Ti y6.1.2.1, Ti y6.1.2.2]), (72, .box [Ti y12.1, Ti y12.2.1, Ti y12.2.2.1, Ti y12.2.2.2]), (64, .box [Ti y3.1.1, Ti y3.1.2.1, Ti y3.1.2.2]), (56, .box [Ti 0, Ti 0, Ti 0, Ti 0]), (48, .box [Ti 0, Ti 0, Ti 0, Ti 0]), (40, .box [Ti 0, Ti 0, Ti 0]), (32, .box [Ti 0, Ti 0, Ti 0])]⟩) (by kernel_rfl) (by kernel_rfl) ?_ ?_
  ·refine DR 4 ?_
   refine DC 4 (s_spec_foDisc hy16) cf_spec_foDisc rfl rfl rfl rfl 91 rfl ?_
   refine DR 7 ?_
   refine DE_0 12 (I (w64 (Int.tdiv (w64 ((w64 (y9.1 * y9.1)) - y16)) (w64 ((w64 (4 * y3.1.1)) * y6.1.1))))) (by kernel_rfl) rfl rfl rfl (gsat_none rfl) (by kernel_rfl) (Y0_quo64 (a := w64 ((w64 (y9.1 * y9.1)) - y16)) (b := w64 ((w64 (4 * y3.1.1)) * y6.1.1)) rfl (by kernel_rfl) (by kernel_rfl) (nz_some hz17)) 99 rfl ?_
   refine DA 1 ?_
   refine XL_nil ?_
   subst hc18
   kernel_rfl
  obtain ⟨f19, hf19, h⟩ := of_sI h
  obtain ⟨f20, hf20, h⟩ := of_sI h
  refine V_sdreg [0, 1, 0, 0, 8, 0, 56, 127, 0, 256, 0, 0, 2048, 0, 14336, 32512, 0, 0, 255, 327679, 917503, 2097151] 21 [[.z, .z, .b, .b, .b, .b, .b, .z, .b, .b, .b, .b, .b, .b, .b, .b, .b, .b, .z, .z, .z], [.a, .z, .b, .b, .b, .b, .b, .z, .b, .b, .b, .b, .b, .b, .b, .b, .b, .b, .z, .z, .z], [.b, .b, .z, .b, .b, .b, .b, .z, .b, .b, .b, .b, .b, .b, .b, .b, .b, .b, .z, .z, .z], [.b, .b, .b, .z, .z, .b, .z, .z, .b, .b, .b, .b, .b, .b, .b, .b, .b, .b, .z, .z, .z], [.b, .b, .b, .a, .z, .b, .z, .z, .b, .b, .b, .b, .b, .b, .b, .b, .b, .b, .z, .z, .z], [.b, .b, .b, .b, .b, .z, .z, .z, .b, .b, .b, .b, .b, .b, .b, .b, .b, .b, .z, .z, .z], [.b, .b, .b, .a, .a, .a, .z, .z, .b, .b, .b, .b, .b, .b, .b, .b, .b, .b, .z, .z, .z], [.a, .a, .a, .a, .a, .a, .a, .z, .b, .b, .b, .b, .b, .b, .b, .b, .b, .b, .z, .z, .z], [.b, .b, .b, .b, .b, .b, .b, .b, .z, .z, .b, .b, .b, .b, .b, .z, .b, .b, .r 32, .z, .z], [.b, .b, .b, .b, .b, .b, .b, .b, .a, .z, .b, .b, .b, .b, .b, .z, .b, .b, .r 32, .z, .z], [.b, .b, .b, .b, .b, .b, .b, .b, .b, .b, .z, .b, .b, .b, .b, .z, .b, .b, .r 32, .z, .z], [.b, .b, .b, .b, .b, .b, .b, .b, .b, .b, .b, .z, .z, .b, .z, .z, .b, .b, .r 32, .z, .z], [.b, .b, .b, .b, .b, .b, .b, .b, .b, .b, .b, .a, .z, .b, .z, .z, .b, .b, .r 32, .z, .z], [.b, .b, .b, .b, .b, .b, .b, .b, .b, .b, .b, .b, .b, .z, .z, .z, .b, .b, .r 32, .z, .z], [.b, .b, .b, .b, .b, .b, .b, .b, .b, .b, .b, .a, .a, .a, .z, .z, .b, .b, .r 32, .z, .z], [.b, .b, .b, .b, .b, .b, .b, .b, .a, .a, .a, .a, .a, .a, .a, .z, .b, .b, .r 32, .z, .z], [.b, .b, .b, .b, .b, .b, .b, .b, .b, .b, .b, .b, .b, .b, .b, .b, .z, .b, .r 32, .r 40, .z], [.b, .b, .b, .b, .b, .b, .b, .b, .b, .b, .b, .b, .b, .b, .b, .b, .b, .z, .r 32, .r 40, .r 48], [.a, .a, .a, .a, .a, .a, .a, .a, .b, .b, .b, .b, .b, .b, .b, .b, .b, .b, .z, .z, .z], [.a, .a, .a, .a, .a, .a, .a, .a, .a, .a, .a, .a, .a, .a, .a, .a, .b, .b, .a, .z, .z], [.a, .a, .a, .a, .a, .a, .a, .a, .a, .a, .a, .a, .a, .a, .a, .a, .a, .b, .a, .a, .z]] (mb 118 240) [56, 48, 40, 32] (s1 := ⟨bt 4 (.pt 32 0 :: .pt 40 0 :: .pt 48 0 :: .pt 56 0 :: bt 110 []), [(56, .box [Ti y15.1, Ti y15.2.1, Ti y15.2.2.1, Ti y15.2.2.2]), (48, .box [Ti y12.1, Ti y12.2.1, Ti y12.2.2.1, Ti y12.2.2.2]), (40, .box [Ti y6.1.1, Ti y9.1, Ti f19]), (32, .box [Ti y3.1.1, Ti y9.1, Ti f20])]⟩) (by kernel_rfl) (by kernel_rfl) ?_ ?_
  ·refine DR 7 ?_
   refine DE_0 7 (.ag [Ti y3.1.1, Ti y9.1, Ti (w64 (y6.1.1 * c18))]) (by kernel_rfl) rfl rfl rfl (gsat_none rfl) (by kernel_rfl) (Y0_build (cs := [Ti y3.1.1, Ti y9.1, Ti (w64 (y6.1.1 * c18))]) pl25 bt25 rfl rfl (by kernel_rfl)) 107 rfl ?_
   refine DR 7 ?_
   refine DE_0 15 (.ag [Ti y6.1.1, Ti y9.1, Ti (w64 (y3.1.1 * c18))]) (by kernel_rfl) rfl rfl rfl (gsat_none rfl) (by kernel_rfl) (Y0_build (cs := [Ti y6.1.1, Ti y9.1, Ti (w64 (y3.1.1 * c18))]) pl25 bt25 rfl rfl (by kernel_rfl)) 115 rfl ?_
   refine DA 5 ?_
   refine XR 1 ?_
   refine XL_nil ?_
   subst hf19 hf20
   kernel_rfl
  refine V_ret ?_
  obtain rfl := some_inj h
  show Post _ _ _ _ _
  exact ⟨.inr rfl, rfl, rfl, rfl⟩
theorem cf_spec_coJoined : ∀ args w, (callFunc 81 args).run Try.prog w = .ok (.enter 81 args) w := run_callFunc Try.func81 (by kernel_rfl) (by kernel_rfl)
theorem s_spec_coJoined {a1 : (Int × Int × Int)} {e2 : (Int × Int × Int)} {r : (Int × Int × Int)} (h : r_spec_coJoined a1 e2 = some r) : CallS Try.prog 81 [.ag [Ti a1.1, Ti a1.2.1, Ti a1.2.2], .ag [Ti e2.1, Ti e2.2.1, Ti e2.2.2]] (.ag [Ti r.1, Ti r.2.1, Ti r.2.2]) [] := by
  refine CallS_of_text (rs := [.w 4 3]) (vs := [.cell 4 25]) Try.func81 rfl rfl (.cons ⟨rfl, wd25⟩ FitsL.nil) (by decide) 18 rfl ?_
  unfold r_spec_coJoined at h
  show V _ _ ⟨.ag [Ti a1.1, Ti a1.2.1, Ti a1.2.2] :: .ag [Ti e2.1, Ti e2.2.1, Ti e2.2.2] :: bt 16 [], []⟩ _
  refine V_e (mb 18 28) [32, 24, 16] (s1 := ⟨.bot :: .bot :: .pt 16 0 :: .pt 24 0 :: .pt 32 0 :: bt 13 [], [(32, .box [Ti 0, Ti 0, Ti 0]), (24, .box [Ti e2.1, Ti e2.2.1, Ti e2.2.2]), (16, .box [Ti a1.1, Ti a1.2.1, Ti a1.2.2])]⟩) ?_
  obtain ⟨z3, hz3, h⟩ := of_bind h
  obtain ⟨f4, hf4, h⟩ := of_sI h
  obtain ⟨f5, hf5, h⟩ := of_sI h
  refine V_sdreg [0, 1, 0, 4, 15, 0, 32, 0, 128, 0, 512, 1920, 4095, 8191] 13 (cdm 13 [11184288, 11184289, 11184138, 11184154, 11184213, 11174570, 11175594, 2632362, 2648746, 174762, 436906, 1403562, 5592405]) (mb 18 16) [32] (s1 := ⟨bt 4 (.pt 32 0 :: bt 13 []), [(32, .box [Ti f4, Ti a1.2.1, Ti f5])]⟩) (by kernel_rfl) (by kernel_rfl) ?_ ?_
  ·refine DR 11 ?_
   refine DE_0 11 (I (w64 (Int.tdiv a1.2.2 e2.1))) (by kernel_rfl) rfl rfl rfl (gsat_none rfl) (by kernel_rfl) (Y0_quo64 (a := a1.2.2) (b := e2.1) rfl (by kernel_rfl) (by kernel_rfl) (nz_some hz3)) 16 rfl ?_
   refine DE_0 12 (.ag [Ti (w64 (a1.1 * e2.1)), Ti a1.2.1, Ti (w64 (Int.tdiv a1.2.2 e2.1))]) (by kernel_rfl) rfl rfl rfl (gsat_none rfl) (by kernel_rfl) (Y0_build (cs := [Ti (w64 (a1.1 * e2.1)), Ti a1.2.1, Ti (w64 (Int.tdiv a1.2.2 e2.1))]) pl25 bt25 rfl rfl (by kernel_rfl)) 17 rfl ?_
   refine DA 0 ?_
   refine XR 1 ?_
   refine XL_nil ?_
   subst hf4 hf5
   kernel_rfl
  refine V_ret ?_
  obtain rfl := some_inj h
  show Post _ _ _ _ _
  exact ⟨.inr rfl, rfl, rfl, rfl⟩
theorem cf_spec_foDet : ∀ args w, (callFunc 130 args).run Try.prog w = .ok (.enter 130 args) w := run_callFunc Try.func130 (by kernel_rfl) (by kernel_rfl)
theorem s_spec_foDet {vm1 : (Int × Int × Int × Int)} {r : Int} (h : r_spec_foDet vm1 = some r) : CallS Try.prog 130 [.ag [Ti vm1.1, Ti vm1.2.1, Ti vm1.2.2.1, Ti vm1.2.2.2]] (I r) [] := by
  refine CallS_of_text (rs := [.t 2]) (vs := [.tmp 2]) Try.func130 rfl rfl (.cons rfl FitsL.nil) (by decide) 14 rfl ?_
  unfold r_spec_foDet at h
  show V _ _ ⟨.ag [Ti vm1.1, Ti vm1.2.1, Ti vm1.2.2.1, Ti vm1.2.2.2] :: bt 13 [], []⟩ _
  refine V_e (mb 14 2) [8] (s1 := ⟨.bot :: .pt 8 0 :: bt 12 [], [(8, .box [Ti vm1.1, Ti vm1.2.1, Ti vm1.2.2.1, Ti vm1.2.2.2])]⟩) ?_
  obtain ⟨t2, ht2, h⟩ := of_sI h
  refine V_sreg (mb 14 4) [] (s1 := ⟨.bot :: .bot :: I t2 :: bt 11 [], []⟩) ?_ ?_
  ·refine XR 12 ?_
   refine XL_nil ?_
   subst ht2
   kernel_rfl
  refine V_ret ?_
  obtain rfl := some_inj h
  show Post _ _ _ _ _
  exact ⟨.inr rfl, rfl, rfl, rfl⟩
theorem cf_spec_foInverse : ∀ args w, (callFunc 105 args).run Try.prog w = .ok (.enter 105 args) w := run_callFunc Try.func105 (by kernel_rfl) (by kernel_rfl)
theorem s_spec_foInverse {vm1 : (Int × Int × Int × Int)} {r : (Int × Int × Int × Int)} (h : r_spec_foInverse vm1 = some r) : CallS Try.prog 105 [.ag [Ti vm1.1, Ti vm1.2.1, Ti vm1.2.2.1, Ti vm1.2.2.2]] (.ag [Ti r.1, Ti r.2.1, Ti r.2.2.1, Ti r.2.2.2]) [] := by
  refine CallS_of_text (rs := [.w 2 4]) (vs := [.cell 2 86]) Try.func105 rfl rfl (.cons ⟨rfl, wd86⟩ FitsL.nil) (by decide) 25 rfl ?_
  unfold r_spec_foInverse at h
  show V _ _ ⟨.ag [Ti vm1.1, Ti vm1.2.1, Ti vm1.2.2.1, Ti vm1.2.2.2] :: bt 24 [], []⟩ _
  refine V_e (mb 25 6) [16, 8] (s1 := ⟨.bot :: .pt 8 0 :: .pt 16 0 :: bt 22 [], [(16, .box [Ti 0, Ti 0, Ti 0, Ti 0]), (8, .box [Ti vm1.1, Ti vm1.2.1, Ti vm1.2.2.1, Ti vm1.2.2.2])]⟩) ?_
  obtain ⟨y2, hy2, h⟩ := of_bind h
  refine V_sreg (mb 25 14) [16, 8] (s1 := ⟨.bot :: .pt 8 0 :: .pt 16 0 :: I y2 :: bt 21 [], [(16, .box [Ti 0, Ti 0, Ti 0, Ti 0]), (8, .box [Ti vm1.1, Ti vm1.2.1, Ti vm1.2.2.1, Ti vm1.2.2.2])]⟩) ?_ ?_
  ·refine XR 1 ?_
   refine XC (s_spec_foDet hy2) cf_spec_foDet rfl rfl rfl ?_
   exact XE
  obtain ⟨f3, hf3, h⟩ := of_sI h
  obtain ⟨f4, hf4, h⟩ := of_sI h
  obtain ⟨f5, hf5, h⟩ := of_sI h
  obtain ⟨f6, hf6, h⟩ := of_sI h
  refine V_sreg (mb 25 4) [16] (s1 := ⟨.bot :: .bot :: .pt 16 0 :: bt 22 [], [(16, .box [Ti f3, Ti f4, Ti f5, Ti f6])]⟩) ?_ ?_
  ·refine XR 18 ?_
   refine L0 rfl rfl (Y0_build (cs := [Ti (w64 (y2 * vm1.2.2.2)), Ti (w64 ((w64 (0 - y2)) * vm1.2.1)), Ti (w64 ((w64 (0 - y2)) * vm1.2.2.1)), Ti (w64 (y2 * vm1.1))]) pl86 bt86 rfl rfl (by kernel_rfl)) ?_
   refine XR 1 ?_
   refine XL_nil ?_
   subst hf3 hf4 hf5 hf6
   kernel_rfl
  refine V_ret ?_
  obtain rfl := some_inj h
  show Post _ _ _ _ _
  exact ⟨.inr rfl, rfl, rfl, rfl⟩
theorem cf_spec_coProof : ∀ args w, (callFunc 70 args).run Try.prog w = .ok (.enter 70 args) w := run_callFunc Try.func70 (by kernel_rfl) (by kernel_rfl)
theorem s_spec_coProof {f1 : (Int × Int × Int)} {g2 : (Int × Int × Int)} {r : (((Int × Int × Int)) × (List Int))} (h : r_spec_coProof f1 g2 = some r) : CallS Try.prog 70 [.ag [Ti f1.1, Ti f1.2.1, Ti f1.2.2], .ag [Ti g2.1, Ti g2.2.1, Ti g2.2.2]] (.tc (.ag [Ti r.1.1, Ti r.1.2.1, Ti r.1.2.2]) (.tc (.ow 1) .tn)) [(1, .arr 3 1 (r.2.map c3))] := by
  refine CallS_of_text (rs := [.w 4 3, .t 5]) (vs := [.cell 4 25, .tmp 5]) Try.func70 rfl rfl (.cons ⟨rfl, wd25⟩ (.cons rfl FitsL.nil)) (by decide) 126 rfl ?_
  unfold r_spec_coProof at h
  show V _ _ ⟨.ag [Ti f1.1, Ti f1.2.1, Ti f1.2.2] :: .ag [Ti g2.1, Ti g2.2.1, Ti g2.2.2] :: bt 124 [], []⟩ _
  refine V_sreg (mb 126 28) [32, 24, 16] (s1 := ⟨.bot :: .bot :: .pt 16 0 :: .pt 24 0 :: .pt 32 0 :: bt 121 [], [(32, .box [Ti 0, Ti 0, Ti 0]), (24, .box [Ti g2.1, Ti g2.2.1, Ti g2.2.2]), (16, .box [Ti f1.1, Ti f1.2.1, Ti f1.2.2])]⟩) ?_ ?_
  ·refine XR 3 ?_
   refine L1 rfl rfl (Y1_nil (e := 3) 1 (by decide) (.inl rfl)) ?_
   exact XE
  obtain ⟨y3, hy3, h⟩ := of_bind h
  refine V_sreg (mb 126 976) [72, 64, 56, 48, 32] (s1 := ⟨bt 4 (.pt 32 0 :: .bot :: .pt 48 0 :: .pt 56 0 :: .pt 64 0 :: .pt 72 0 :: bt 116 []), [(72, .box [Ti y3.2.2.2.1, Ti y3.2.2.2.2.1, Ti y3.2.2.2.2.2.1, Ti y3.2.2.2.2.2.2]), (64, .box [Ti y3.2.2.1.1, Ti y3.2.2.1.2.1, Ti y3.2.2.1.2.2.1, Ti y3.2.2.1.2.2.2]), (56, .box [Ti y3.2.1.1, Ti y3.2.1.2.1, Ti y3.2.1.2.2]), (48, .box [Ti y3.1.1, Ti y3.1.2.1, Ti y3.1.2.2]), (32, .box [Ti 0, Ti 0, Ti 0])]⟩) ?_ ?_
  ·refine XR 2 ?_
   refine XC (s_spec_coUnite hy3) cf_spec_coUnite rfl rfl rfl ?_
   exact XE
  obtain ⟨y4, hy4, h⟩ := of_bind h
  refine V_sreg (mb 126 2000) [80, 72, 64, 56, 48, 32] (s1 := ⟨bt 4 (.pt 32 0 :: .bot :: .pt 48 0 :: .pt 56 0 :: .pt 64 0 :: .pt 72 0 :: .pt 80 0 :: bt 115 []), [(80, .box [Ti y4.1, Ti y4.2.1, Ti y4.2.2]), (72, .box [Ti y3.2.2.2.1, Ti y3.2.2.2.2.1, Ti y3.2.2.2.2.2.1, Ti y3.2.2.2.2.2.2]), (64, .box [Ti y3.2.2.1.1, Ti y3.2.2.1.2.1, Ti y3.2.2.1.2.2.1, Ti y3.2.2.1.2.2.2]), (56, .box [Ti y3.2.1.1, Ti y3.2.1.2.1, Ti y3.2.1.2.2]), (48, .box [Ti y3.1.1, Ti y3.1.2.1, Ti y3.1.2.2]), (32, .box [Ti 0, Ti 0, Ti 0])]⟩) ?_ ?_
  ·refine XR 2 ?_
   refine XC (s_spec_coJoined hy4) cf_spec_coJoined rfl rfl rfl ?_
   exact XE
  obtain ⟨y5, hy5, h⟩ := of_bind h
  refine V_sreg (mb 126 8144) [96, 88, 80, 72, 64, 56, 48, 32] (s1 := ⟨bt 4 (.pt 32 0 :: .bot :: .pt 48 0 :: .pt 56 0 :: .pt 64 0 :: .pt 72 0 :: .pt 80 0 :: .pt 88 0 :: .pt 96 0 :: bt 113 []), [(96, .box [Ti y5.2.1, Ti y5.2.2.1, Ti y5.2.2.2.1, Ti y5.2.2.2.2]), (88, .box [Ti y5.1.1, Ti y5.1.2.1, Ti y5.1.2.2]), (80, .box [Ti y4.1, Ti y4.2.1, Ti y4.2.2]), (72, .box [Ti y3.2.2.2.1, Ti y3.2.2.2.2.1, Ti y3.2.2.2.2.2.1, Ti y3.2.2.2.2.2.2]), (64, .box [Ti y3.2.2.1.1, Ti y3.2.2.1.2.1, Ti y3.2.2.1.2.2.1, Ti y3.2.2.1.2.2.2]), (56, .box [Ti y3.2.1.1, Ti y3.2.1.2.1, Ti y3.2.1.2.2]), (48, .box [Ti y3.1.1, Ti y3.1.2.1, Ti y3.1.2.2]), (32, .box [Ti 0, Ti 0, Ti 0])]⟩) ?_ ?_
  ·refine XR 1 ?_
   refine XC (s_spec_reReduce hy5) cf_spec_reReduce rfl rfl rfl ?_
   exact XE
  obtain ⟨y6, hy6, h⟩ := of_bind h
  obtain ⟨y7, hy7, h⟩ := of_bind h
  obtain ⟨y8, hy8, h⟩ := of_bind h
  refine V_sdreg [0, 1, 0, 7, 0, 31, 63, 127, 255] 6 (cdm 6 [544, 545, 522, 533, 170, 341]) (mb 126 8144) [96, 88, 80, 72, 64, 56, 48, 32] (s1 := ⟨bt 4 (.pt 32 0 :: .bot :: .pt 48 0 :: .pt 56 0 :: .pt 64 0 :: .pt 72 0 :: .pt 80 0 :: .pt 88 0 :: .pt 96 0 :: bt 113 []), [(96, .box [Ti y8.1, Ti y8.2.1, Ti y8.2.2.1, Ti y8.2.2.2]), (88, .box [Ti y5.1.1, Ti y5.1.2.1, Ti y5.1.2.2]), (80, .box [Ti y4.1, Ti y4.2.1, Ti y4.2.2]), (72, .box [Ti y7.1, Ti y7.2.1, Ti y7.2.2.1, Ti y7.2.2.2]), (64, .box [Ti y6.1, Ti y6.2.1, Ti y6.2.2.1, Ti y6.2.2.2]), (56, .box [Ti y3.2.1.1, Ti y3.2.1.2.1, Ti y3.2.1.2.2]), (48, .box [Ti y3.1.1, Ti y3.1.2.1, Ti y3.1.2.2]), (32, .box [Ti 0, Ti 0, Ti 0])]⟩) (by kernel_rfl) (by kernel_rfl) ?_ ?_
  ·refine DR 1 ?_
   refine DC 1 (s_spec_foInverse hy6) cf_spec_foInverse rfl rfl rfl rfl 38 rfl ?_
   refine DR 1 ?_
   refine DC 3 (s_spec_foInverse hy7) cf_spec_foInverse rfl rfl rfl rfl 40 rfl ?_
   refine DR 1 ?_
   refine DC 5 (s_spec_foInverse hy8) cf_spec_foInverse rfl rfl rfl rfl 42 rfl ?_
   refine DA 0 ?_
   exact XE
  obtain ⟨u9, hu9, h⟩ := of_bind h
  refine V_sreg (mb 126 16336) [344, 96, 88, 80, 72, 64, 56, 48, 32] (s1 := ⟨bt 4 (.pt 32 0 :: .bot :: .pt 48 0 :: .pt 56 0 :: .pt 64 0 :: .pt 72 0 :: .pt 80 0 :: .pt 88 0 :: .pt 96 0 :: .ow 344 :: bt 112 []), [(344, .arr 3 1 ((List.replicate (Int.toNat (8)) ((0 : Int))).map c3)), (96, .box [Ti y8.1, Ti y8.2.1, Ti y8.2.2.1, Ti y8.2.2.2]), (88, .box [Ti y5.1.1, Ti y5.1.2.1, Ti y5.1.2.2]), (80, .box [Ti y4.1, Ti y4.2.1, Ti y4.2.2]), (72, .box [Ti y7.1, Ti y7.2.1, Ti y7.2.2.1, Ti y7.2.2.2]), (64, .box [Ti y6.1, Ti y6.2.1, Ti y6.2.2.1, Ti y6.2.2.2]), (56, .box [Ti y3.2.1.1, Ti y3.2.1.2.1, Ti y3.2.1.2.2]), (48, .box [Ti y3.1.1, Ti y3.1.2.1, Ti y3.1.2.2]), (32, .box [Ti 0, Ti 0, Ti 0])]⟩) ?_ ?_
  ·refine L1 rfl rfl (Y1_make (c := c3) (zx := (0 : Int)) (z := zv3) (l := 8) (k := 8) Try.underlying47 izb3 rfl rfl (by decide) rfl rfl (by kernel_rfl) (by kernel_rfl) (mk_some hu9) (by decide)) ?_
   exact XE
  refine V_seq ?_
  refine V_e (mb 126 32720) [344, 96, 88, 80, 72, 64, 56, 48, 32] (s1 := ⟨bt 4 (.pt 32 0 :: .bot :: .pt 48 0 :: .pt 56 0 :: .pt 64 0 :: .pt 72 0 :: .pt 80 0 :: .pt 88 0 :: .pt 96 0 :: .ow 344 :: I 0 :: bt 111 []), [(344, .arr 3 1 ((List.replicate (Int.toNat (8)) ((0 : Int))).map c3)), (96, .box [Ti y8.1, Ti y8.2.1, Ti y8.2.2.1, Ti y8.2.2.2]), (88, .box [Ti y5.1.1, Ti y5.1.2.1, Ti y5.1.2.2]), (80, .box [Ti y4.1, Ti y4.2.1, Ti y4.2.2]), (72, .box [Ti y7.1, Ti y7.2.1, Ti y7.2.2.1, Ti y7.2.2.2]), (64, .box [Ti y6.1, Ti y6.2.1, Ti y6.2.2.1, Ti y6.2.2.2]), (56, .box [Ti y3.2.1.1, Ti y3.2.1.2.1, Ti y3.2.1.2.2]), (48, .box [Ti y3.1.1, Ti y3.1.2.1, Ti y3.1.2.2]), (32, .box [Ti 0, Ti 0, Ti 0])]⟩) ?_
  obtain ⟨o13, hLo13, h⟩ := of_bind h
  refine V_toK (mb 126 10256) [344, 88, 32] (s1 := ⟨bt 4 (.pt 32 0 :: bt 6 (.pt 88 0 :: .bot :: .ow 344 :: bt 112 [])), [(344, .arr 3 1 (o13.map c3)), (88, .box [Ti y5.1.1, Ti y5.1.2.1, Ti y5.1.2.2]), (32, .box [Ti 0, Ti 0, Ti 0])]⟩) ?_ ?_
  ·clear h
   refine V_block (V_loop (fun n s => ∃ (i10 : Int) (l11 : List Int), s.keep (mb 126 32720) [344, 96, 88, 80, 72, 64, 56, 48, 32] = (⟨bt 4 (.pt 32 0 :: .bot :: .pt 48 0 :: .pt 56 0 :: .pt 64 0 :: .pt 72 0 :: .pt 80 0 :: .pt 88 0 :: .pt 96 0 :: .ow 344 :: I i10 :: bt 111 []), [(344, .arr 3 1 (l11.map c3)), (96, .box [Ti y8.1, Ti y8.2.1, Ti y8.2.2.1, Ti y8.2.2.2]), (88, .box [Ti y5.1.1, Ti y5.1.2.1, Ti y5.1.2.2]), (80, .box [Ti y4.1, Ti y4.2.1, Ti y4.2.2]), (72, .box [Ti y7.1, Ti y7.2.1, Ti y7.2.2.1, Ti y7.2.2.2]), (64, .box [Ti y6.1, Ti y6.2.1, Ti y6.2.2.1, Ti y6.2.2.2]), (56, .box [Ti y3.2.1.1, Ti y3.2.1.2.1, Ti y3.2.1.2.2]), (48, .box [Ti y3.1.1, Ti y3.1.2.1, Ti y3.1.2.2]), (32, .box [Ti 0, Ti 0, Ti 0])]⟩ : St) ∧ r_spec_coProof_L12 y3 y4 y5 y6 y7 y8 n i10 l11 = some o13) FU ⟨_, _,  by rfl, hLo13⟩ ?_)
   clear hLo13
   rintro n s ⟨i10, l11, hs, h⟩
   refine V_keep _ _ hs ?_
   clear hs
   cases n with
   | zero => cases h
   | succ n =>
    rw [r_spec_coProof_L12] at h
    refine V_seq ?_
    refine V_e (mb 126 35184372121552) [344, 96, 88, 80, 72, 64, 56, 48, 32] (s1 := ⟨bt 4 (.pt 32 0 :: .bot :: .pt 48 0 :: .pt 56 0 :: .pt 64 0 :: .pt 72 0 :: .pt 80 0 :: .pt 88 0 :: .pt 96 0 :: .ow 344 :: I i10 :: bt 30 (Bo (ltI i10 4) :: bt 80 [])), [(344, .arr 3 1 (l11.map c3)), (96, .box [Ti y8.1, Ti y8.2.1, Ti y8.2.2.1, Ti y8.2.2.2]), (88, .box [Ti y5.1.1, Ti y5.1.2.1, Ti y5.1.2.2]), (80, .box [Ti y4.1, Ti y4.2.1, Ti y4.2.2]), (72, .box [Ti y7.1, Ti y7.2.1, Ti y7.2.2.1, Ti y7.2.2.2]), (64, .box [Ti y6.1, Ti y6.2.1, Ti y6.2.2.1, Ti y6.2.2.2]), (56, .box [Ti y3.2.1.1, Ti y3.2.1.2.1, Ti y3.2.1.2.2]), (48, .box [Ti y3.1.1, Ti y3.1.2.1, Ti y3.1.2.2]), (32, .box [Ti 0, Ti 0, Ti 0])]⟩) ?_
    refine V_cond rfl (fun hc14 => ?_) (fun hc14 => ?_)
    ·have h := of_true h hc14
     refine V_skip ?_
     show V _ _ _ _
     refine V_seq ?_
     refine V_block ?_
     refine V_sdreg [0, 1, 0, 4, 0, 16, 0, 64, 3, 271, 831, 2047] 12 (cdm 12 [43680, 43681, 174602, 174618, 696490, 696746, 2755242, 2759338, 43685, 109141, 370005, 1398101]) (mb 126 524240) [344, 96, 88, 80, 72, 64, 56, 48, 32] (s1 := ⟨bt 4 (.pt 32 0 :: .bot :: .pt 48 0 :: .pt 56 0 :: .pt 64 0 :: .pt 72 0 :: .pt 80 0 :: .pt 88 0 :: .pt 96 0 :: .ow 344 :: I i10 :: I y6.1 :: I y6.2.2.1 :: I y7.1 :: I y7.2.2.1 :: bt 107 []), [(344, .arr 3 1 (l11.map c3)), (96, .box [Ti y8.1, Ti y8.2.1, Ti y8.2.2.1, Ti y8.2.2.2]), (88, .box [Ti y5.1.1, Ti y5.1.2.1, Ti y5.1.2.2]), (80, .box [Ti y4.1, Ti y4.2.1, Ti y4.2.2]), (72, .box [Ti y7.1, Ti y7.2.1, Ti y7.2.2.1, Ti y7.2.2.2]), (64, .box [Ti y6.1, Ti y6.2.1, Ti y6.2.2.1, Ti y6.2.2.2]), (56, .box [Ti y3.2.1.1, Ti y3.2.1.2.1, Ti y3.2.1.2.2]), (48, .box [Ti y3.1.1, Ti y3.1.2.1, Ti y3.1.2.2]), (32, .box [Ti 0, Ti 0, Ti 0])]⟩) (by kernel_rfl) (by kernel_rfl) ?_ ?_
     ·refine DA 12 ?_
      exact XE
     obtain ⟨j15, hj15, h⟩ := of_bind h
     refine V_cutK (mb 126 524240) [344, 96, 88, 80, 72, 64, 56, 48, 32] (s1 := ⟨bt 4 (.pt 32 0 :: .bot :: .pt 48 0 :: .pt 56 0 :: .pt 64 0 :: .pt 72 0 :: .pt 80 0 :: .pt 88 0 :: .pt 96 0 :: .ow 344 :: I i10 :: I j15.1 :: I j15.2 :: I y7.1 :: I y7.2.2.1 :: bt 107 []), [(344, .arr 3 1 (l11.map c3)), (96, .box [Ti y8.1, Ti y8.2.1, Ti y8.2.2.1, Ti y8.2.2.2]), (88, .box [Ti y5.1.1, Ti y5.1.2.1, Ti y5.1.2.2]), (80, .box [Ti y4.1, Ti y4.2.1, Ti y4.2.2]), (72, .box [Ti y7.1, Ti y7.2.1, Ti y7.2.2.1, Ti y7.2.2.2]), (64, .box [Ti y6.1, Ti y6.2.1, Ti y6.2.2.1, Ti y6.2.2.2]), (56, .box [Ti y3.2.1.1, Ti y3.2.1.2.1, Ti y3.2.1.2.2]), (48, .box [Ti y3.1.1, Ti y3.1.2.1, Ti y3.1.2.2]), (32, .box [Ti 0, Ti 0, Ti 0])]⟩) ?_ ?_
     ·clear h
      have h := hj15
      clear hj15
      refine V_e (mb 126 144115188076380112) [344, 96, 88, 80, 72, 64, 56, 48, 32] (s1 := ⟨bt 4 (.pt 32 0 :: .bot :: .pt 48 0 :: .pt 56 0 :: .pt 64 0 :: .pt 72 0 :: .pt 80 0 :: .pt 88 0 :: .pt 96 0 :: .ow 344 :: I i10 :: I y6.1 :: I y6.2.2.1 :: I y7.1 :: I y7.2.2.1 :: bt 38 (Bo (leI 2 i10) :: bt 68 [])), [(344, .arr 3 1 (l11.map c3)), (96, .box [Ti y8.1, Ti y8.2.1, Ti y8.2.2.1, Ti y8.2.2.2]), (88, .box [Ti y5.1.1, Ti y5.1.2.1, Ti y5.1.2.2]), (80, .box [Ti y4.1, Ti y4.2.1, Ti y4.2.2]), (72, .box [Ti y7.1, Ti y7.2.1, Ti y7.2.2.1, Ti y7.2.2.2]), (64, .box [Ti y6.1, Ti y6.2.1, Ti y6.2.2.1, Ti y6.2.2.2]), (56, .box [Ti y3.2.1.1, Ti y3.2.1.2.1, Ti y3.2.1.2.2]), (48, .box [Ti y3.1.1, Ti y3.1.2.1, Ti y3.1.2.2]), (32, .box [Ti 0, Ti 0, Ti 0])]⟩) ?_
      refine V_cond rfl (fun hc16 => ?_) (fun hc16 => ?_)
      ·have h := of_true h hc16
       refine V_dreg [0, 1, 0, 4, 3, 31] 6 (cdm 6 [160, 161, 522, 538, 165, 341]) (mb 126 524240) [344, 96, 88, 80, 72, 64, 56, 48, 32] (s1 := ⟨bt 4 (.pt 32 0 :: .bot :: .pt 48 0 :: .pt 56 0 :: .pt 64 0 :: .pt 72 0 :: .pt 80 0 :: .pt 88 0 :: .pt 96 0 :: .ow 344 :: I i10 :: I y6.2.1 :: I y6.2.2.2 :: I y7.1 :: I y7.2.2.1 :: bt 107 []), [(344, .arr 3 1 (l11.map c3)), (96, .box [Ti y8.1, Ti y8.2.1, Ti y8.2.2.1, Ti y8.2.2.2]), (88, .box [Ti y5.1.1, Ti y5.1.2.1, Ti y5.1.2.2]), (80, .box [Ti y4.1, Ti y4.2.1, Ti y4.2.2]), (72, .box [Ti y7.1, Ti y7.2.1, Ti y7.2.2.1, Ti y7.2.2.2]), (64, .box [Ti y6.1, Ti y6.2.1, Ti y6.2.2.1, Ti y6.2.2.2]), (56, .box [Ti y3.2.1.1, Ti y3.2.1.2.1, Ti y3.2.1.2.2]), (48, .box [Ti y3.1.1, Ti y3.1.2.1, Ti y3.1.2.2]), (32, .box [Ti 0, Ti 0, Ti 0])]⟩) (by kernel_rfl) (by kernel_rfl) ?_ ?_
       ·refine DA 6 ?_
        exact XE
       obtain rfl := some_inj h
       show St.keep _ _ _ = _
       rfl
      ·have h := of_false h hc16
       refine V_skip ?_
       obtain rfl := some_inj h
       show St.keep _ _ _ = _
       rfl
     obtain ⟨j17, hj17, h⟩ := of_bind h
     refine V_cutK (mb 126 524240) [344, 96, 88, 80, 72, 64, 56, 48, 32] (s1 := ⟨bt 4 (.pt 32 0 :: .bot :: .pt 48 0 :: .pt 56 0 :: .pt 64 0 :: .pt 72 0 :: .pt 80 0 :: .pt 88 0 :: .pt 96 0 :: .ow 344 :: I i10 :: I j15.1 :: I j15.2 :: I j17.1 :: I j17.2 :: bt 107 []), [(344, .arr 3 1 (l11.map c3)), (96, .box [Ti y8.1, Ti y8.2.1, Ti y8.2.2.1, Ti y8.2.2.2]), (88, .box [Ti y5.1.1, Ti y5.1.2.1, Ti y5.1.2.2]), (80, .box [Ti y4.1, Ti y4.2.1, Ti y4.2.2]), (72, .box [Ti y7.1, Ti y7.2.1, Ti y7.2.2.1, Ti y7.2.2.2]), (64, .box [Ti y6.1, Ti y6.2.1, Ti y6.2.2.1, Ti y6.2.2.2]), (56, .box [Ti y3.2.1.1, Ti y3.2.1.2.1, Ti y3.2.1.2.2]), (48, .box [Ti y3.1.1, Ti y3.1.2.1, Ti y3.1.2.2]), (32, .box [Ti 0, Ti 0, Ti 0])]⟩) ?_ ?_
     ·clear h
      have h := hj17
      clear hj17
      refine V_sreg (mb 126 18446744073710075856) [344, 96, 88, 80, 72, 64, 56, 48, 32] (s1 := ⟨bt 4 (.pt 32 0 :: .bot :: .pt 48 0 :: .pt 56 0 :: .pt 64 0 :: .pt 72 0 :: .pt 80 0 :: .pt 88 0 :: .pt 96 0 :: .ow 344 :: I i10 :: I j15.1 :: I j15.2 :: I y7.1 :: I y7.2.2.1 :: bt 45 (Bo (eqI (Int.tmod i10 2) 1) :: bt 61 [])), [(344, .arr 3 1 (l11.map c3)), (96, .box [Ti y8.1, Ti y8.2.1, Ti y8.2.2.1, Ti y8.2.2.2]), (88, .box [Ti y5.1.1, Ti y5.1.2.1, Ti y5.1.2.2]), (80, .box [Ti y4.1, Ti y4.2.1, Ti y4.2.2]), (72, .box [Ti y7.1, Ti y7.2.1, Ti y7.2.2.1, Ti y7.2.2.2]), (64, .box [Ti y6.1, Ti y6.2.1, Ti y6.2.2.1, Ti y6.2.2.2]), (56, .box [Ti y3.2.1.1, Ti y3.2.1.2.1, Ti y3.2.1.2.2]), (48, .box [Ti y3.1.1, Ti y3.1.2.1, Ti y3.1.2.2]), (32, .box [Ti 0, Ti 0, Ti 0])]⟩) ?_ ?_
      ·refine XR 1 ?_
       refine L0 rfl rfl (Y0_rem (k := .i64) (a := i10) (b := 2) rfl (by kernel_rfl) (by kernel_rfl) (by decide)) ?_
       exact XE
      refine V_cond rfl (fun hc18 => ?_) (fun hc18 => ?_)
      ·have h := of_true h hc18
       refine V_dreg [0, 1, 0, 4, 3, 31] 6 (cdm 6 [160, 161, 522, 538, 165, 341]) (mb 126 524240) [344, 96, 88, 80, 72, 64, 56, 48, 32] (s1 := ⟨bt 4 (.pt 32 0 :: .bot :: .pt 48 0 :: .pt 56 0 :: .pt 64 0 :: .pt 72 0 :: .pt 80 0 :: .pt 88 0 :: .pt 96 0 :: .ow 344 :: I i10 :: I j15.1 :: I j15.2 :: I y7.2.1 :: I y7.2.2.2 :: bt 107 []), [(344, .arr 3 1 (l11.map c3)), (96, .box [Ti y8.1, Ti y8.2.1, Ti y8.2.2.1, Ti y8.2.2.2]), (88, .box [Ti y5.1.1, Ti y5.1.2.1, Ti y5.1.2.2]), (80, .box [Ti y4.1, Ti y4.2.1, Ti y4.2.2]), (72, .box [Ti y7.1, Ti y7.2.1, Ti y7.2.2.1, Ti y7.2.2.2]), (64, .box [Ti y6.1, Ti y6.2.1, Ti y6.2.2.1, Ti y6.2.2.2]), (56, .box [Ti y3.2.1.1, Ti y3.2.1.2.1, Ti y3.2.1.2.2]), (48, .box [Ti y3.1.1, Ti y3.1.2.1, Ti y3.1.2.2]), (32, .box [Ti 0, Ti 0, Ti 0])]⟩) (by kernel_rfl) (by kernel_rfl) ?_ ?_
       ·refine DA 6 ?_
        exact XE
       obtain rfl := some_inj h
       show St.keep _ _ _ = _
       rfl
      ·have h := of_false h hc18
       refine V_skip ?_
       obtain rfl := some_inj h
       show St.keep _ _ _ = _
       rfl
     obtain ⟨p19, hp19, h⟩ := of_sI h
     obtain ⟨q20, hq20, h⟩ := of_sI h
     refine V_sdreg [0, 0, 3, 0, 8, 0, 56, 0, 248, 511, 0, 1024, 0, 7168, 0, 31744, 0, 65536, 0, 458752, 0, 2031616, 4193280, 0, 8388608, 0, 58720256, 0, 260046848, 536869888, 1023, 2147483647] 32 (cdm 32 [768614336404040328, 768614336404040322, 768614336404040325, 768614336403900458, 768614336403900522, 768614336403899050, 768614336403899754, 768614336403876522, 768614336403887466, 768614336403952981, 2497961406650559146, 2497961406651607722, 2497961406627490474, 2497961406639024810, 2497961406258391722, 2497961406437698218, 2497952020144237226, 2497952024439204522, 2497951925654956714, 2497951972899596970, 2497950413826468522, 2497951148265876138, 2497955544881081002, 2344170518542461610, 2344240887286639274, 2342622406170553002, 2343396462356507306, 2317852608220015274, 2329885663474395818, 2401919801264614058, 768614336404215125, 1537228672809129301]) (mb 126 1605584) [344, 96, 88, 80, 72, 64, 56, 48, 32] (s1 := ⟨bt 4 (.pt 32 0 :: .bot :: .pt 48 0 :: .pt 56 0 :: .pt 64 0 :: .pt 72 0 :: .pt 80 0 :: .pt 88 0 :: .pt 96 0 :: .ow 344 :: I i10 :: bt 4 (I p19 :: I q20 :: bt 105 [])), [(344, .arr 3 1 (l11.map c3)), (96, .box [Ti y8.1, Ti y8.2.1, Ti y8.2.2.1, Ti y8.2.2.2]), (88, .box [Ti y5.1.1, Ti y5.1.2.1, Ti y5.1.2.2]), (80, .box [Ti y4.1, Ti y4.2.1, Ti y4.2.2]), (72, .box [Ti y7.1, Ti y7.2.1, Ti y7.2.2.1, Ti y7.2.2.2]), (64, .box [Ti y6.1, Ti y6.2.1, Ti y6.2.2.1, Ti y6.2.2.2]), (56, .box [Ti y3.2.1.1, Ti y3.2.1.2.1, Ti y3.2.1.2.2]), (48, .box [Ti y3.1.1, Ti y3.1.2.1, Ti y3.1.2.2]), (32, .box [Ti 0, Ti 0, Ti 0])]⟩) (by kernel_rfl) (by kernel_rfl) ?_ ?_
     ·refine DA 32 ?_
      refine XL_nil ?_
      subst hp19 hq20
      kernel_rfl
     obtain ⟨e21, he21, h⟩ := of_bind h
     obtain ⟨e22, he22, h⟩ := of_bind h
     obtain ⟨l23, hl23, h⟩ := of_bind h
     have hl23 := some_inj hl23
     refine V_sreg (mb 126 1605584) [344, 96, 88, 80, 72, 64, 56, 48, 32] (s1 := ⟨bt 4 (.pt 32 0 :: .bot :: .pt 48 0 :: .pt 56 0 :: .pt 64 0 :: .pt 72 0 :: .pt 80 0 :: .pt 88 0 :: .pt 96 0 :: .ow 344 :: I i10 :: bt 4 (I p19 :: I q20 :: bt 105 [])), [(344, .arr 3 1 (l23.map c3)), (96, .box [Ti y8.1, Ti y8.2.1, Ti y8.2.2.1, Ti y8.2.2.2]), (88, .box [Ti y5.1.1, Ti y5.1.2.1, Ti y5.1.2.2]), (80, .box [Ti y4.1, Ti y4.2.1, Ti y4.2.2]), (72, .box [Ti y7.1, Ti y7.2.1, Ti y7.2.2.1, Ti y7.2.2.2]), (64, .box [Ti y6.1, Ti y6.2.1, Ti y6.2.2.1, Ti y6.2.2.2]), (56, .box [Ti y3.2.1.1, Ti y3.2.1.2.1, Ti y3.2.1.2.2]), (48, .box [Ti y3.1.1, Ti y3.1.2.1, Ti y3.1.2.2]), (32, .box [Ti 0, Ti 0, Ti 0])]⟩) ?_ ?_
     ·refine XR 11 ?_
      refine L0 rfl rfl (Y0_idxoM (c := c3) (xs := l11) (v := e21) (id := 344) (T := 3) (sz := 1) (n := i10) Try.underlying47 sz3 rfl (by kernel_rfl) (by kernel_rfl) (by kernel_rfl) he21) ?_
      refine XL_cons rfl (X_storeoM (c := c3) (xs := l11) (v := e22) (u := w64 ((w64 (y8.1 * p19)) + (w64 (y8.2.1 * q20)))) (id := 344) (sz := 1) (off := 0) (T0 := 3) (n := i10) (vc := [Ti (w64 ((w64 (y8.1 * p19)) + (w64 (y8.2.1 * q20))))]) rfl rfl (by kernel_rfl) (by kernel_rfl) he22 (by kernel_rfl) sz3 (Nat.le_of_ble_eq_true rfl) (by kernel_rfl)) ?_
      refine XL_nil ?_
      subst hl23
      kernel_rfl
     obtain ⟨e24, he24, h⟩ := of_bind h
     obtain ⟨e25, he25, h⟩ := of_bind h
     obtain ⟨l26, hl26, h⟩ := of_bind h
     have hl26 := some_inj hl26
     refine V_reg (mb 126 32720) [344, 96, 88, 80, 72, 64, 56, 48, 32] (s1 := ⟨bt 4 (.pt 32 0 :: .bot :: .pt 48 0 :: .pt 56 0 :: .pt 64 0 :: .pt 72 0 :: .pt 80 0 :: .pt 88 0 :: .pt 96 0 :: .ow 344 :: I i10 :: bt 111 []), [(344, .arr 3 1 (l26.map c3)), (96, .box [Ti y8.1, Ti y8.2.1, Ti y8.2.2.1, Ti y8.2.2.2]), (88, .box [Ti y5.1.1, Ti y5.1.2.1, Ti y5.1.2.2]), (80, .box [Ti y4.1, Ti y4.2.1, Ti y4.2.2]), (72, .box [Ti y7.1, Ti y7.2.1, Ti y7.2.2.1, Ti y7.2.2.2]), (64, .box [Ti y6.1, Ti y6.2.1, Ti y6.2.2.1, Ti y6.2.2.2]), (56, .box [Ti y3.2.1.1, Ti y3.2.1.2.1, Ti y3.2.1.2.2]), (48, .box [Ti y3.1.1, Ti y3.1.2.1, Ti y3.1.2.2]), (32, .box [Ti 0, Ti 0, Ti 0])]⟩) ?_ ?_
     ·refine XR 12 ?_
      refine L0 rfl rfl (Y0_idxoM (c := c3) (xs := l23) (v := e24) (id := 344) (T := 3) (sz := 1) (n := w64 (4 + i10)) Try.underlying47 sz3 rfl (by kernel_rfl) (by kernel_rfl) (by kernel_rfl) he24) ?_
      refine XL_cons rfl (X_storeoM (c := c3) (xs := l23) (v := e25) (u := w64 ((w64 (y8.2.2.1 * p19)) + (w64 (y8.2.2.2 * q20)))) (id := 344) (sz := 1) (off := 0) (T0 := 3) (n := w64 (4 + i10)) (vc := [Ti (w64 ((w64 (y8.2.2.1 * p19)) + (w64 (y8.2.2.2 * q20))))]) rfl rfl (by kernel_rfl) (by kernel_rfl) he25 (by kernel_rfl) sz3 (Nat.le_of_ble_eq_true rfl) (by kernel_rfl)) ?_
      refine XL_nil ?_
      subst hl26
      kernel_rfl
     show V _ _ _ _
     obtain ⟨i27, hi27, h⟩ := of_sI h
     refine V_reg (mb 126 32720) [344, 96, 88, 80, 72, 64, 56, 48, 32] (s1 := ⟨bt 4 (.pt 32 0 :: .bot :: .pt 48 0 :: .pt 56 0 :: .pt 64 0 :: .pt 72 0 :: .pt 80 0 :: .pt 88 0 :: .pt 96 0 :: .ow 344 :: I i27 :: bt 111 []), [(344, .arr 3 1 (l26.map c3)), (96, .box [Ti y8.1, Ti y8.2.1, Ti y8.2.2.1, Ti y8.2.2.2]), (88, .box [Ti y5.1.1, Ti y5.1.2.1, Ti y5.1.2.2]), (80, .box [Ti y4.1, Ti y4.2.1, Ti y4.2.2]), (72, .box [Ti y7.1, Ti y7.2.1, Ti y7.2.2.1, Ti y7.2.2.2]), (64, .box [Ti y6.1, Ti y6.2.1, Ti y6.2.2.1, Ti y6.2.2.2]), (56, .box [Ti y3.2.1.1, Ti y3.2.1.2.1, Ti y3.2.1.2.2]), (48, .box [Ti y3.1.1, Ti y3.1.2.1, Ti y3.1.2.2]), (32, .box [Ti 0, Ti 0, Ti 0])]⟩) ?_ ?_
     ·refine XR 3 ?_
      refine XL_nil ?_
      subst hi27
      kernel_rfl
     exact ⟨n, Nat.lt_succ_self n, _, _,  by rfl, h⟩
    ·have h := of_false h hc14
     refine V_exit ?_
     obtain rfl := some_inj h
     show St.keep _ _ _ = _
     rfl
  show V _ _ _ _
  refine V_e (mb 126 48) [344, 32] (s1 := ⟨bt 4 (.pt 32 0 :: .ow 344 :: bt 120 []), [(344, .arr 3 1 (o13.map c3)), (32, .box [Ti y5.1.1, Ti y5.1.2.1, Ti y5.1.2.2])]⟩) ?_
  refine V_ret ?_
  obtain rfl := some_inj h
  show Post _ _ _ _ _
  exact ⟨.inr rfl, rfl, rfl, rfl⟩
theorem cf_spec_l1All : ∀ args w, (callFunc 71 args).run Try.prog w = .ok (.enter 71 args) w := run_callFunc Try.func71 (by kernel_rfl) (by kernel_rfl)
theorem s_spec_l1All {l1 : List Int} {lo2 : Int} {hi3 : Int} {r : Bool} (h : r_spec_l1All l1 lo2 hi3 = some r) : CallS Try.prog 71 [.c (.sl (l1.map c3)), I lo2, I hi3] (Bo r) [] := by
  refine CallS_of_text (rs := [.t 6]) (vs := [.tmp 6]) Try.func71 rfl rfl (.cons rfl FitsL.nil) (by decide) 21 rfl ?_
  unfold r_spec_l1All at h
  show V _ _ ⟨.c (.sl (l1.map c3)) :: I lo2 :: I hi3 :: bt 18 [], []⟩ _
  refine V_e (mb 21 7) [] (s1 := ⟨.c (.sl (l1.map c3)) :: I lo2 :: I hi3 :: bt 18 [], []⟩) ?_
  refine V_seq ?_
  refine V_sreg (mb 21 3590) [] (s1 := ⟨.bot :: I lo2 :: I hi3 :: bt 6 (.c (.sl (l1.map c3)) :: I ((l1.length : Int)) :: I 0 :: bt 9 []), []⟩) ?_ ?_
  ·refine XR 1 ?_
   refine L0 rfl rfl (Y0_lenM (c := c3) (xs := l1) Try.underlying47 rfl (by kernel_rfl)) ?_
   exact XE
  obtain ⟨qo6, hLo6, hko6⟩ := of_bind h
  refine V_toS (q := qo6) (S := fun o6 => ⟨bt 21 [], []⟩) (mb 21 0) [] ?_ ?_
  ·refine V_block (V_loop (fun n s => ∃ (t4 : Int), s.keep (mb 21 3590) [] = (⟨.bot :: I lo2 :: I hi3 :: bt 6 (.c (.sl (l1.map c3)) :: I ((l1.length : Int)) :: I t4 :: bt 9 []), []⟩ : St) ∧ r_spec_l1All_L5 hi3 l1 lo2 n t4 = some qo6) FU ⟨_,  by rfl, hLo6⟩ ?_)
   clear hLo6
   rintro n s ⟨t4, hs, h⟩
   refine V_keep _ _ hs ?_
   clear hs
   cases n with
   | zero => cases h
   | succ n =>
    rw [r_spec_l1All_L5] at h
    refine V_e (mb 21 7686) [] (s1 := ⟨.bot :: I lo2 :: I hi3 :: bt 6 (.c (.sl (l1.map c3)) :: I ((l1.length : Int)) :: I t4 :: Bo (ltI t4 ((l1.length : Int))) :: bt 8 []), []⟩) ?_
    refine V_seq ?_
    refine V_cond rfl (fun hc7 => ?_) (fun hc7 => ?_)
    ·have h := of_true h hc7
     refine V_skip ?_
     show V _ _ _ _
     refine V_seq ?_
     refine V_block ?_
     obtain ⟨e8, he8, h⟩ := of_bind h
     refine V_sreg (mb 21 3846) [] (s1 := ⟨.bot :: I lo2 :: I hi3 :: bt 5 (I e8 :: .c (.sl (l1.map c3)) :: I ((l1.length : Int)) :: I t4 :: bt 9 []), []⟩) ?_ ?_
     ·refine L0 rfl rfl (Y0_idxM (c := c3) (xs := l1) (v := e8) (n := t4) Try.underlying47 sz3 rfl (by kernel_rfl) (by kernel_rfl) he8) ?_
      exact XE
     obtain ⟨y9, hy9, h⟩ := of_bind h
     refine V_sreg (mb 21 527878) [] (s1 := ⟨.bot :: I lo2 :: I hi3 :: bt 6 (.c (.sl (l1.map c3)) :: I ((l1.length : Int)) :: I t4 :: bt 7 (Bo (!y9) :: .bot :: [])), []⟩) ?_ ?_
     ·refine XR 3 ?_
      refine XC (s_spec_l1In hy9) cf_spec_l1In rfl rfl rfl ?_
      exact XE
     refine V_cond rfl (fun hc10 => ?_) (fun hc10 => ?_)
     ·have h := of_true h hc10
      refine V_e (mb 21 64) [] (s1 := ⟨bt 6 (Bo false :: bt 14 []), []⟩) ?_
      refine V_ret ?_
      obtain rfl := some_inj h
      have h := hko6
      obtain rfl := some_inj h
      show Post _ _ _ _ _
      exact ⟨.inr rfl, rfl, rfl, rfl⟩
     ·have h := of_false h hc10
      refine V_skip ?_
      show V _ _ _ _
      obtain ⟨t11, ht11, h⟩ := of_sI h
      refine V_reg (mb 21 3590) [] (s1 := ⟨.bot :: I lo2 :: I hi3 :: bt 6 (.c (.sl (l1.map c3)) :: I ((l1.length : Int)) :: I t11 :: bt 9 []), []⟩) ?_ ?_
      ·refine XR 2 ?_
       refine XL_nil ?_
       subst ht11
       kernel_rfl
      exact ⟨n, Nat.lt_succ_self n, _,  by rfl, h⟩
    ·have h := of_false h hc7
     refine V_exit ?_
     obtain rfl := some_inj h
     exact ⟨_, rfl, by rfl⟩
  rintro o6 rfl
  have h := hko6
  clear hko6
  show V _ _ _ _
  refine V_e (mb 21 64) [] (s1 := ⟨bt 6 (Bo true :: bt 14 []), []⟩) ?_
  refine V_ret ?_
  obtain rfl := some_inj h
  show Post _ _ _ _ _
  exact ⟨.inr rfl, rfl, rfl, rfl⟩
theorem cf_spec_CompositionProof : ∀ args w, (callFunc 27 args).run Try.prog w = .ok (.enter 27 args) w := run_callFunc Try.func27 (by kernel_rfl) (by kernel_rfl)
theorem s_spec_CompositionProof {f1 : (Int × Int × Int)} {g2 : (Int × Int × Int)} {r : (((Int × Int × Int)) × (List Int) × Bool)} (h : r_spec_CompositionProof f1 g2 = some r) : CallS Try.prog 27 [.ag [Ti f1.1, Ti f1.2.1, Ti f1.2.2], .ag [Ti g2.1, Ti g2.2.1, Ti g2.2.2]] (.tc (.ag [Ti r.1.1, Ti r.1.2.1, Ti r.1.2.2]) (.tc (.ow 1) (.tc (Bo r.2.2) .tn))) [(1, .arr 3 1 (r.2.1.map c3))] := by
  refine CallS_of_text (rs := [.w 4 3, .t 5, .t 6]) (vs := [.cell 4 25, .tmp 5, .tmp 6]) Try.func27 rfl rfl (.cons ⟨rfl, wd25⟩ (.cons rfl (.cons rfl FitsL.nil))) (by decide) 26 rfl ?_
  unfold r_spec_CompositionProof at h
  show V _ _ ⟨.ag [Ti f1.1, Ti f1.2.1, Ti f1.2.2] :: .ag [Ti g2.1, Ti g2.2.1, Ti g2.2.2] :: bt 24 [], []⟩ _
  refine V_sreg (mb 26 28) [32, 24, 16] (s1 := ⟨.bot :: .bot :: .pt 16 0 :: .pt 24 0 :: .pt 32 0 :: bt 21 [], [(32, .box [Ti 0, Ti 0, Ti 0]), (24, .box [Ti g2.1, Ti g2.2.1, Ti g2.2.2]), (16, .box [Ti f1.1, Ti f1.2.1, Ti f1.2.2])]⟩) ?_ ?_
  ·refine XR 3 ?_
   refine L1 rfl rfl (Y1_nil (e := 3) 1 (by decide) (.inl rfl)) ?_
   exact XE
  refine V_seq ?_
  obtain ⟨y3, hy3, h⟩ := of_bind h
  refine V_sreg (mb 26 4124) [32, 24, 16] (s1 := ⟨.bot :: .bot :: .pt 16 0 :: .pt 24 0 :: .pt 32 0 :: bt 7 (Bo (!y3) :: bt 13 []), [(32, .box [Ti 0, Ti 0, Ti 0]), (24, .box [Ti g2.1, Ti g2.2.1, Ti g2.2.2]), (16, .box [Ti f1.1, Ti f1.2.1, Ti f1.2.2])]⟩) ?_ ?_
  ·refine XR 2 ?_
   refine XC (s_spec_coTwo hy3) cf_spec_coTwo rfl rfl rfl ?_
   exact XE
  refine V_cond rfl (fun hc4 => ?_) (fun hc4 => ?_)
  ·have h := of_true h hc4
   refine V_sreg (mb 26 112) [40, 32] (s1 := ⟨bt 4 (.pt 32 0 :: .ow 40 :: Bo false :: bt 19 []), [(40, .arr 3 1 ((([] : List Int)).map c3)), (32, .box [Ti 0, Ti 0, Ti 0])]⟩) ?_ ?_
   ·refine L0 rfl rfl (Y0_build (cs := [Ti 0, Ti 0, Ti 0]) pl25 bt25 rfl rfl (by kernel_rfl)) ?_
    refine XR 1 ?_
    refine L1 rfl rfl (Y1_nil (e := 3) 1 (by decide) (.inl rfl)) ?_
    exact XE
   refine V_ret ?_
   obtain rfl := some_inj h
   show Post _ _ _ _ _
   exact ⟨.inr rfl, rfl, rfl, rfl⟩
  ·have h := of_false h hc4
   refine V_skip ?_
   show V _ _ _ _
   obtain ⟨y5, hy5, h⟩ := of_bind h
   refine V_sreg (mb 26 400) [56, 137, 32] (s1 := ⟨bt 4 (.pt 32 0 :: .bot :: .bot :: .pt 56 0 :: .ow 137 :: bt 17 []), [(56, .box [Ti y5.1.1, Ti y5.1.2.1, Ti y5.1.2.2]), (137, .arr 3 1 (y5.2.map c3)), (32, .box [Ti 0, Ti 0, Ti 0])]⟩) ?_ ?_
   ·refine XR 2 ?_
    refine XC (s_spec_coProof hy5) cf_spec_coProof rfl rfl rfl ?_
    exact XE
   refine V_seq ?_
   obtain ⟨y6, hy6, h⟩ := of_bind h
   refine V_sreg (mb 26 4194704) [56, 137, 32] (s1 := ⟨bt 4 (.pt 32 0 :: .bot :: .bot :: .pt 56 0 :: .ow 137 :: bt 13 (Bo (!y6) :: bt 3 [])), [(56, .box [Ti y5.1.1, Ti y5.1.2.1, Ti y5.1.2.2]), (137, .arr 3 1 (y5.2.map c3)), (32, .box [Ti 0, Ti 0, Ti 0])]⟩) ?_ ?_
   ·refine XR 1 ?_
    refine L1 rfl rfl (Y1_callS (s_spec_l1All hy6) cf_spec_l1All rfl (by kernel_rfl) rfl rfl) ?_
    exact XE
   refine V_cond rfl (fun hc7 => ?_) (fun hc7 => ?_)
   ·have h := of_true h hc7
    refine V_sreg (mb 26 112) [40, 32] (s1 := ⟨bt 4 (.pt 32 0 :: .ow 40 :: Bo false :: bt 19 []), [(40, .arr 3 1 ((([] : List Int)).map c3)), (32, .box [Ti 0, Ti 0, Ti 0])]⟩) ?_ ?_
    ·refine L0 rfl rfl (Y0_build (cs := [Ti 0, Ti 0, Ti 0]) pl25 bt25 rfl rfl (by kernel_rfl)) ?_
     refine XR 1 ?_
     refine L1 rfl rfl (Y1_nil (e := 3) 1 (by decide) (.inl rfl)) ?_
     exact XE
    refine V_ret ?_
    obtain rfl := some_inj h
    show Post _ _ _ _ _
    exact ⟨.inr rfl, rfl, rfl, rfl⟩
   ·have h := of_false h hc7
    refine V_skip ?_
    show V _ _ _ _
    refine V_e (mb 26 112) [137, 32] (s1 := ⟨bt 4 (.pt 32 0 :: .ow 137 :: Bo true :: bt 19 []), [(137, .arr 3 1 (y5.2.map c3)), (32, .box [Ti y5.1.1, Ti y5.1.2.1, Ti y5.1.2.2])]⟩) ?_
    refine V_ret ?_
    obtain rfl := some_inj h
    show Post _ _ _ _ _
    exact ⟨.inr rfl, rfl, rfl, rfl⟩
theorem cf_impl_reduced : ∀ args w, (callFunc 37 args).run Try.prog w = .ok (.enter 37 args) w := run_callFunc Try.func37 (by kernel_rfl) (by kernel_rfl)
theorem s_impl_reduced {f1 : (Int × Int × Int)} {r : (Int × Int × Int)} (h : r_impl_reduced f1 = some r) : CallS Try.prog 37 [.ag [Ti f1.1, Ti f1.2.1, Ti f1.2.2]] (.ag [Ti r.1, Ti r.2.1, Ti r.2.2]) [] := by
  refine CallS_of_text (rs := [.w 2 3]) (vs := [.cell 2 25]) Try.func37 rfl rfl (.cons ⟨rfl, wd25⟩ FitsL.nil) (by decide) 11 rfl ?_
  unfold r_impl_reduced at h
  show V _ _ ⟨.ag [Ti f1.1, Ti f1.2.1, Ti f1.2.2] :: bt 10 [], []⟩ _
  refine V_e (mb 11 6) [16, 8] (s1 := ⟨.bot :: .pt 8 0 :: .pt 16 0 :: bt 8 [], [(16, .box [Ti 0, Ti 0, Ti 0]), (8, .box [Ti f1.1, Ti f1.2.1, Ti f1.2.2])]⟩) ?_
  obtain ⟨y2, hy2, h⟩ := of_bind h
  refine V_sreg (mb 11 12) [24, 16] (s1 := ⟨.bot :: .bot :: .pt 16 0 :: .pt 24 0 :: bt 7 [], [(24, .box [Ti y2.1.1, Ti y2.1.2.1, Ti y2.1.2.2]), (16, .box [Ti 0, Ti 0, Ti 0])]⟩) ?_ ?_
  ·refine XR 1 ?_
   refine XC (s_impl_reduce hy2) cf_impl_reduce rfl rfl rfl ?_
   exact XE
  refine V_e (mb 11 4) [16] (s1 := ⟨.bot :: .bot :: .pt 16 0 :: bt 8 [], [(16, .box [Ti y2.1.1, Ti y2.1.2.1, Ti y2.1.2.2])]⟩) ?_
  refine V_ret ?_
  obtain rfl := some_inj h
  show Post _ _ _ _ _
  exact ⟨.inr rfl, rfl, rfl, rfl⟩
theorem cf_impl_compose : ∀ args w, (callFunc 33 args).run Try.prog w = .ok (.enter 33 args) w := run_callFunc Try.func33 (by kernel_rfl) (by kernel_rfl)
theorem s_impl_compose {f1 : (Int × Int × Int)} {g2 : (Int × Int × Int)} {r : (Int × Int × Int)} (h : r_impl_compose f1 g2 = some r) : CallS Try.prog 33 [.ag [Ti f1.1, Ti f1.2.1, Ti f1.2.2], .ag [Ti g2.1, Ti g2.2.1, Ti g2.2.2]] (.ag [Ti r.1, Ti r.2.1, Ti r.2.2]) [] := by
  refine CallS_of_text (rs := [.w 4 3]) (vs := [.cell 4 25]) Try.func33 rfl rfl (.cons ⟨rfl, wd25⟩ FitsL.nil) (by decide) 12 rfl ?_
  unfold r_impl_compose at h
  show V _ _ ⟨.ag [Ti f1.1, Ti f1.2.1, Ti f1.2.2] :: .ag [Ti g2.1, Ti g2.2.1, Ti g2.2.2] :: bt 10 [], []⟩ _
  refine V_e (mb 12 28) [32, 24, 16] (s1 := ⟨.bot :: .bot :: .pt 16 0 :: .pt 24 0 :: .pt 32 0 :: bt 7 [], [(32, .box [Ti 0, Ti 0, Ti 0]), (24, .box [Ti g2.1, Ti g2.2.1, Ti g2.2.2]), (16, .box [Ti f1.1, Ti f1.2.1, Ti f1.2.2])]⟩) ?_
  obtain ⟨y3, hy3, h⟩ := of_bind h
  obtain ⟨y4, hy4, h⟩ := of_bind h
  obtain ⟨y5, hy5, h⟩ := of_bind h
  obtain ⟨y6, hy6, h⟩ := of_bind h
  obtain ⟨y7, hy7, h⟩ := of_bind h
  refine V_sdreg [0, 1, 0, 7, 15, 31, 63, 127] 7 (cdm 7 [32, 33, 10, 21, 85, 341, 1365]) (mb 12 16) [32] (s1 := ⟨bt 4 (.pt 32 0 :: bt 7 []), [(32, .box [Ti y7.1, Ti y7.2.1, Ti y7.2.2])]⟩) (by kernel_rfl) (by kernel_rfl) ?_ ?_
  ·refine DR 1 ?_
   refine DC 1 (s_impl_reduced hy3) cf_impl_reduced rfl rfl rfl rfl 6 rfl ?_
   refine DR 1 ?_
   refine DC 3 (s_impl_reduced hy4) cf_impl_reduced rfl rfl rfl rfl 8 rfl ?_
   refine DC 4 (s_impl_unite hy5) cf_impl_unite rfl rfl rfl rfl 9 rfl ?_
   refine DC 5 (s_impl_united_composite hy6) cf_impl_united_composite rfl rfl rfl rfl 10 rfl ?_
   refine DC 6 (s_impl_reduced hy7) cf_impl_reduced rfl rfl rfl rfl 11 rfl ?_
   refine DA 0 ?_
   exact XE
  refine V_ret ?_
  obtain rfl := some_inj h
  show Post _ _ _ _ _
  exact ⟨.inr rfl, rfl, rfl, rfl⟩
end Go.Proofs.Ytafomkclmkfjeaa
