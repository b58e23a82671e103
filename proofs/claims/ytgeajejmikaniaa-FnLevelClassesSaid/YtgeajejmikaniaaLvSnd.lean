/-
  The functions of the program compute what the plain functions say: more of them.
  Conditions: none.
-/
import Derived.Test.YtgeajejmikaniaaLvSnd2
namespace Go.Proofs.Ytgeajejmikaniaa
open Go.RowKit
set_option linter.unusedVariables false
set_option linter.unusedSimpArgs false
set_option maxRecDepth 100000
set_option maxHeartbeats 400000
theorem cf_impl_Matrix_det : ∀ args w, (callFunc 214 args).run Try.prog w = .ok (.enter 214 args) w := run_callFunc Try.func214 (by kernel_rfl) (by kernel_rfl)
theorem s_impl_Matrix_det {vm1 : (Int × Int × Int × Int)} {r : Int} (h : r_impl_Matrix_det vm1 = some r) : CallS Try.prog 214 [.ag [Ti vm1.1, Ti vm1.2.1, Ti vm1.2.2.1, Ti vm1.2.2.2]] (I r) [] := by
  refine CallS_of_text (rs := [.t 2]) (vs := [.tmp 2]) Try.func214 rfl rfl (.cons rfl FitsL.nil) (by decide) 14 rfl ?_
  unfold r_impl_Matrix_det at h
  show V _ _ ⟨.ag [Ti vm1.1, Ti vm1.2.1, Ti vm1.2.2.1, Ti vm1.2.2.2] :: bt 13 [], []⟩ _
  refine V_e (mb 14 2) [8] (s1 := ⟨.bot :: .pt 8 0 :: bt 12 [], [(8, .box [Ti vm1.1, Ti vm1.2.1, Ti vm1.2.2.1, Ti vm1.2.2.2])]⟩) ?_
  obtain ⟨t2, ht2, h⟩ := of_sI h
  refine V_sreg (mb 14 4) [] (s1 := ⟨.bot :: .bot :: I t2 :: bt 11 [], []⟩) ?_ ?_
  ·refine XR 12 ?_
   refine XL_nil ?_
   subst ht2
   kernel_rfl
  refine V_ret ?_
  obtain rfl := some_inj h
  show Post _ _ _ _ _
  exact ⟨.inr rfl, rfl, rfl, rfl⟩
theorem cf_impl_Matrix_inverse : ∀ args w, (callFunc 170 args).run Try.prog w = .ok (.enter 170 args) w := run_callFunc Try.func170 (by kernel_rfl) (by kernel_rfl)
theorem s_impl_Matrix_inverse {vm1 : (Int × Int × Int × Int)} {r : (Int × Int × Int × Int)} (h : r_impl_Matrix_inverse vm1 = some r) : CallS Try.prog 170 [.ag [Ti vm1.1, Ti vm1.2.1, Ti vm1.2.2.1, Ti vm1.2.2.2]] (.ag [Ti r.1, Ti r.2.1, Ti r.2.2.1, Ti r.2.2.2]) [] := by
  refine CallS_of_text (rs := [.w 2 4]) (vs := [.cell 2 110]) Try.func170 rfl rfl (.cons ⟨rfl, wd110⟩ FitsL.nil) (by decide) 25 rfl ?_
  unfold r_impl_Matrix_inverse at h
  show V _ _ ⟨.ag [Ti vm1.1, Ti vm1.2.1, Ti vm1.2.2.1, Ti vm1.2.2.2] :: bt 24 [], []⟩ _
  refine V_e (mb 25 6) [16, 8] (s1 := ⟨.bot :: .pt 8 0 :: .pt 16 0 :: bt 22 [], [(16, .box [Ti 0, Ti 0, Ti 0, Ti 0]), (8, .box [Ti vm1.1, Ti vm1.2.1, Ti vm1.2.2.1, Ti vm1.2.2.2])]⟩) ?_
  obtain ⟨y2, hy2, h⟩ := of_bind h
  refine V_sreg (mb 25 14) [16, 8] (s1 := ⟨.bot :: .pt 8 0 :: .pt 16 0 :: I y2 :: bt 21 [], [(16, .box [Ti 0, Ti 0, Ti 0, Ti 0]), (8, .box [Ti vm1.1, Ti vm1.2.1, Ti vm1.2.2.1, Ti vm1.2.2.2])]⟩) ?_ ?_
  ·refine XR 1 ?_
   refine XC (s_impl_Matrix_det hy2) cf_impl_Matrix_det rfl rfl rfl ?_
   exact XE
  obtain ⟨f3, hf3, h⟩ := of_sI h
  obtain ⟨f4, hf4, h⟩ := of_sI h
  obtain ⟨f5, hf5, h⟩ := of_sI h
  obtain ⟨f6, hf6, h⟩ := of_sI h
  refine V_sreg (mb 25 4) [16] (s1 := ⟨.bot :: .bot :: .pt 16 0 :: bt 22 [], [(16, .box [Ti f3, Ti f4, Ti f5, Ti f6])]⟩) ?_ ?_
  ·refine XR 18 ?_
   refine L0 rfl rfl (Y0_build (cs := [Ti (w64 (y2 * vm1.2.2.2)), Ti (w64 ((w64 (0 - y2)) * vm1.2.1)), Ti (w64 ((w64 (0 - y2)) * vm1.2.2.1)), Ti (w64 (y2 * vm1.1))]) pl110 bt110 rfl rfl (by kernel_rfl)) ?_
   refine XR 1 ?_
   refine XL_nil ?_
   subst hf3 hf4 hf5 hf6
   kernel_rfl
  refine V_ret ?_
  obtain rfl := some_inj h
  show Post _ _ _ _ _
  exact ⟨.inr rfl, rfl, rfl, rfl⟩
theorem cf_impl_IsMatrix : ∀ args w, (callFunc 183 args).run Try.prog w = .ok (.enter 183 args) w := run_callFunc Try.func183 (by kernel_rfl) (by kernel_rfl)
theorem s_impl_IsMatrix {vm1 : (Int × Int × Int × Int)} {r : Bool} (h : r_impl_IsMatrix vm1 = some r) : CallS Try.prog 183 [.ag [Ti vm1.1, Ti vm1.2.1, Ti vm1.2.2.1, Ti vm1.2.2.2]] (Bo r) [] := by
  refine CallS_of_text (rs := [.t 2]) (vs := [.tmp 2]) Try.func183 rfl rfl (.cons rfl FitsL.nil) (by decide) 13 rfl ?_
  unfold r_impl_IsMatrix at h
  show V _ _ ⟨.ag [Ti vm1.1, Ti vm1.2.1, Ti vm1.2.2.1, Ti vm1.2.2.2] :: bt 12 [], []⟩ _
  refine V_e (mb 13 2) [8] (s1 := ⟨.bot :: .pt 8 0 :: bt 11 [], [(8, .box [Ti vm1.1, Ti vm1.2.1, Ti vm1.2.2.1, Ti vm1.2.2.2])]⟩) ?_
  obtain ⟨y2, hy2, h⟩ := of_bind h
  refine V_sreg (mb 13 4) [] (s1 := ⟨.bot :: .bot :: Bo y2 :: bt 10 [], []⟩) ?_ ?_
  ·refine XR 8 ?_
   refine L1 rfl rfl (Y1_bslice (z := zv3) (els := [vm1.1, vm1.2.1, vm1.2.2.1, vm1.2.2.2].map c3) Try.underlying41 iz3 rfl (by decide) rfl (by kernel_rfl) rfl (by simp [c3]) (by decide) (by decide)) ?_
   refine L1 rfl rfl (Y1_callS (s_impl_areNumbers hy2) cf_impl_areNumbers rfl (by kernel_rfl) rfl rfl) ?_
   exact XE
  refine V_ret ?_
  obtain rfl := some_inj h
  show Post _ _ _ _ _
  exact ⟨.inr rfl, rfl, rfl, rfl⟩
theorem cf_impl_lessMatrix : ∀ args w, (callFunc 213 args).run Try.prog w = .ok (.enter 213 args) w := run_callFunc Try.func213 (by kernel_rfl) (by kernel_rfl)
theorem s_impl_lessMatrix {vm1 : (Int × Int × Int × Int)} {vn2 : (Int × Int × Int × Int)} {r : Bool} (h : r_impl_lessMatrix vm1 vn2 = some r) : CallS Try.prog 213 [.ag [Ti vm1.1, Ti vm1.2.1, Ti vm1.2.2.1, Ti vm1.2.2.2], .ag [Ti vn2.1, Ti vn2.2.1, Ti vn2.2.2.1, Ti vn2.2.2.2]] (Bo r) [] := by
  refine CallS_of_text (rs := [.t 4]) (vs := [.tmp 4]) Try.func213 rfl rfl (.cons rfl FitsL.nil) (by decide) 43 rfl ?_
  unfold r_impl_lessMatrix at h
  show V _ _ ⟨.ag [Ti vm1.1, Ti vm1.2.1, Ti vm1.2.2.1, Ti vm1.2.2.2] :: .ag [Ti vn2.1, Ti vn2.2.1, Ti vn2.2.2.1, Ti vn2.2.2.2] :: bt 41 [], []⟩ _
  refine V_e (mb 43 12) [24, 16] (s1 := ⟨.bot :: .bot :: .pt 16 0 :: .pt 24 0 :: bt 39 [], [(24, .box [Ti vn2.1, Ti vn2.2.1, Ti vn2.2.2.1, Ti vn2.2.2.2]), (16, .box [Ti vm1.1, Ti vm1.2.1, Ti vm1.2.2.1, Ti vm1.2.2.2])]⟩) ?_
  refine V_seq ?_
  refine V_block ?_
  refine V_e (mb 43 44) [24, 16] (s1 := ⟨.bot :: .bot :: .pt 16 0 :: .pt 24 0 :: .bot :: Bo (!eqI vm1.1 vn2.1) :: bt 37 [], [(24, .box [Ti vn2.1, Ti vn2.2.1, Ti vn2.2.2.1, Ti vn2.2.2.2]), (16, .box [Ti vm1.1, Ti vm1.2.1, Ti vm1.2.2.1, Ti vm1.2.2.2])]⟩) ?_
  refine V_cond rfl (fun hc3 => ?_) (fun hc3 => ?_)
  ·have h := of_true h hc3
   refine V_e (mb 43 16) [] (s1 := ⟨bt 4 (Bo (ltI vm1.1 vn2.1) :: bt 38 []), []⟩) ?_
   refine V_ret ?_
   obtain rfl := some_inj h
   show Post _ _ _ _ _
   exact ⟨.inr rfl, rfl, rfl, rfl⟩
  ·have h := of_false h hc3
   refine V_e (mb 43 65548) [24, 16] (s1 := ⟨.bot :: .bot :: .pt 16 0 :: .pt 24 0 :: bt 12 (Bo (!eqI vm1.2.1 vn2.2.1) :: bt 26 []), [(24, .box [Ti vn2.1, Ti vn2.2.1, Ti vn2.2.2.1, Ti vn2.2.2.2]), (16, .box [Ti vm1.1, Ti vm1.2.1, Ti vm1.2.2.1, Ti vm1.2.2.2])]⟩) ?_
   refine V_cond rfl (fun hc4 => ?_) (fun hc4 => ?_)
   ·have h := of_true h hc4
    refine V_e (mb 43 16) [] (s1 := ⟨bt 4 (Bo (ltI vm1.2.1 vn2.2.1) :: bt 38 []), []⟩) ?_
    refine V_ret ?_
    obtain rfl := some_inj h
    show Post _ _ _ _ _
    exact ⟨.inr rfl, rfl, rfl, rfl⟩
   ·have h := of_false h hc4
    refine V_e (mb 43 134217740) [24, 16] (s1 := ⟨.bot :: .bot :: .pt 16 0 :: .pt 24 0 :: bt 23 (Bo (!eqI vm1.2.2.1 vn2.2.2.1) :: bt 15 []), [(24, .box [Ti vn2.1, Ti vn2.2.1, Ti vn2.2.2.1, Ti vn2.2.2.2]), (16, .box [Ti vm1.1, Ti vm1.2.1, Ti vm1.2.2.1, Ti vm1.2.2.2])]⟩) ?_
    refine V_cond rfl (fun hc5 => ?_) (fun hc5 => ?_)
    ·have h := of_true h hc5
     refine V_e (mb 43 16) [] (s1 := ⟨bt 4 (Bo (ltI vm1.2.2.1 vn2.2.2.1) :: bt 38 []), []⟩) ?_
     refine V_ret ?_
     obtain rfl := some_inj h
     show Post _ _ _ _ _
     exact ⟨.inr rfl, rfl, rfl, rfl⟩
    ·have h := of_false h hc5
     refine V_skip ?_
     show V _ _ _ _
     refine V_e (mb 43 16) [] (s1 := ⟨bt 4 (Bo (ltI vm1.2.2.2 vn2.2.2.2) :: bt 38 []), []⟩) ?_
     refine V_ret ?_
     obtain rfl := some_inj h
     show Post _ _ _ _ _
     exact ⟨.inr rfl, rfl, rfl, rfl⟩
theorem cf_impl_Automorphs : ∀ args w, (callFunc 168 args).run Try.prog w = .ok (.enter 168 args) w := run_callFunc Try.func168 (by kernel_rfl) (by kernel_rfl)
theorem s_impl_Automorphs {f1 : (Int × Int × Int)} {r : ((List ((Int × Int × Int × Int))) × Bool)} (h : r_impl_Automorphs f1 = some r) : CallS Try.prog 168 [.ag [Ti f1.1, Ti f1.2.1, Ti f1.2.2]] (.tc (.ow 0) (.tc (Bo r.2) .tn)) [(0, .arr 110 4 (r.1.map c110))] := by
  refine CallS_of_text (rs := [.t 2, .t 3]) (vs := [.tmp 2, .tmp 3]) Try.func168 rfl rfl (.cons rfl (.cons rfl FitsL.nil)) (by decide) 71 rfl ?_
  unfold r_impl_Automorphs at h
  show V _ _ ⟨.ag [Ti f1.1, Ti f1.2.1, Ti f1.2.2] :: bt 70 [], []⟩ _
  refine V_sreg (mb 71 2) [8] (s1 := ⟨.bot :: .pt 8 0 :: bt 69 [], [(8, .box [Ti f1.1, Ti f1.2.1, Ti f1.2.2])]⟩) ?_ ?_
  ·refine XR 1 ?_
   refine L1 rfl rfl (Y1_nil (e := 110) 4 (by decide) (.inl rfl)) ?_
   exact XE
  refine V_seq ?_
  obtain ⟨y2, hy2, h⟩ := of_bind h
  refine V_sreg (mb 71 8194) [8] (s1 := ⟨.bot :: .pt 8 0 :: bt 11 (Bo (!y2) :: bt 57 []), [(8, .box [Ti f1.1, Ti f1.2.1, Ti f1.2.2])]⟩) ?_ ?_
  ·refine XR 1 ?_
   refine XC (s_impl_isDefinite hy2) cf_impl_isDefinite rfl rfl rfl ?_
   exact XE
  refine V_cond rfl (fun hc3 => ?_) (fun hc3 => ?_)
  ·have h := of_true h hc3
   refine V_sreg (mb 71 12) [112] (s1 := ⟨.bot :: .bot :: .ow 112 :: Bo false :: bt 67 [], [(112, .arr 110 4 ((([] : List ((Int × Int × Int × Int)))).map c110))]⟩) ?_ ?_
   ·refine L1 rfl rfl (Y1_bslice0 Try.underlying134 sz110 (by decide) rfl rfl) ?_
    exact XE
   refine V_ret ?_
   obtain rfl := some_inj h
   show Post _ _ _ _ _
   exact ⟨.inr rfl, rfl, rfl, rfl⟩
  ·have h := of_false h hc3
   refine V_skip ?_
   show V _ _ _ _
   obtain ⟨y4, hy4, h⟩ := of_bind h
   refine V_sreg (mb 71 48) [40, 32] (s1 := ⟨bt 4 (.pt 32 0 :: .pt 40 0 :: bt 65 []), [(40, .box [Ti y4.2.1, Ti y4.2.2.1, Ti y4.2.2.2.1, Ti y4.2.2.2.2]), (32, .box [Ti y4.1.1, Ti y4.1.2.1, Ti y4.1.2.2])]⟩) ?_ ?_
   ·refine XR 1 ?_
    refine XC (s_impl_reduce hy4) cf_impl_reduce rfl rfl rfl ?_
    exact XE
   refine V_sreg (mb 71 112) [160, 40, 32] (s1 := ⟨bt 4 (.pt 32 0 :: .pt 40 0 :: .ow 160 :: bt 64 []), [(160, .arr 110 4 ((([] : List ((Int × Int × Int × Int)))).map c110)), (40, .box [Ti y4.2.1, Ti y4.2.2.1, Ti y4.2.2.2.1, Ti y4.2.2.2.2]), (32, .box [Ti y4.1.1, Ti y4.1.2.1, Ti y4.1.2.2])]⟩) ?_ ?_
   ·refine L1 rfl rfl (Y1_bslice0 Try.underlying134 sz110 (by decide) rfl rfl) ?_
    exact XE
   refine V_seq ?_
   obtain ⟨y5, hy5, h⟩ := of_bind h
   refine V_sreg (mb 71 29360224) [176, 160, 40] (s1 := ⟨bt 5 (.pt 40 0 :: .ow 160 :: bt 15 (.ow 176 :: I ((y5.length : Int)) :: I 0 :: bt 46 [])), [(176, .arr 110 4 (y5.map c110)), (160, .arr 110 4 ((([] : List ((Int × Int × Int × Int)))).map c110)), (40, .box [Ti y4.2.1, Ti y4.2.2.1, Ti y4.2.2.2.1, Ti y4.2.2.2.2])]⟩) ?_ ?_
   ·refine XR 1 ?_
    refine XC (s_impl_Form_turns hy5) cf_impl_Form_turns rfl rfl rfl ?_
    refine L0 rfl rfl (Y0_lenM (c := c110) (xs := y5) Try.underlying134 rfl (by kernel_rfl)) ?_
    exact XE
   obtain ⟨qo9, hLo9, hko9⟩ := of_bind h
   refine V_toS (q := qo9) (S := fun o9 => ⟨bt 6 (.ow 160 :: bt 64 []), [(160, .arr 110 4 (o9.map c110))]⟩) (mb 71 64) [160] ?_ ?_
   ·refine V_block (V_loop (fun n s => ∃ (t6 : Int) (l7 : List ((Int × Int × Int × Int))), s.keep (mb 71 29360224) [176, 160, 40] = (⟨bt 5 (.pt 40 0 :: .ow 160 :: bt 15 (.ow 176 :: I ((y5.length : Int)) :: I t6 :: bt 46 [])), [(176, .arr 110 4 (y5.map c110)), (160, .arr 110 4 (l7.map c110)), (40, .box [Ti y4.2.1, Ti y4.2.2.1, Ti y4.2.2.2.1, Ti y4.2.2.2.2])]⟩ : St) ∧ r_impl_Automorphs_L8 y4 y5 n t6 l7 = some qo9) FU ⟨_, _,  by rfl, hLo9⟩ ?_)
    clear hLo9
    rintro n s ⟨t6, l7, hs, h⟩
    refine V_keep _ _ hs ?_
    clear hs
    cases n with
    | zero => cases h
    | succ n =>
     rw [r_impl_Automorphs_L8] at h
     refine V_e (mb 71 62914656) [176, 160, 40] (s1 := ⟨bt 5 (.pt 40 0 :: .ow 160 :: bt 15 (.ow 176 :: I ((y5.length : Int)) :: I t6 :: Bo (ltI t6 ((y5.length : Int))) :: bt 45 [])), [(176, .arr 110 4 (y5.map c110)), (160, .arr 110 4 (l7.map c110)), (40, .box [Ti y4.2.1, Ti y4.2.2.1, Ti y4.2.2.2.1, Ti y4.2.2.2.2])]⟩) ?_
     refine V_seq ?_
     refine V_cond rfl (fun hc10 => ?_) (fun hc10 => ?_)
     ·have h := of_true h hc10
      refine V_skip ?_
      show V _ _ _ _
      refine V_seq ?_
      refine V_block ?_
      obtain ⟨e11, he11, h⟩ := of_bind h
      obtain ⟨e12, he12, h⟩ := of_bind h
      refine V_sreg (mb 71 29360480) [64, 176, 160, 40] (s1 := ⟨bt 5 (.pt 40 0 :: .ow 160 :: .bot :: .pt 64 0 :: bt 13 (.ow 176 :: I ((y5.length : Int)) :: I t6 :: bt 46 [])), [(64, .box [Ti e12.1, Ti e12.2.1, Ti e12.2.2.1, Ti e12.2.2.2]), (176, .arr 110 4 (y5.map c110)), (160, .arr 110 4 (l7.map c110)), (40, .box [Ti y4.2.1, Ti y4.2.2.1, Ti y4.2.2.2.1, Ti y4.2.2.2.2])]⟩) ?_ ?_
      ·refine L0 rfl rfl (Y0_idxoM (c := c110) (xs := y5) (v := e11) (id := 176) (T := 110) (sz := 4) (n := t6) Try.underlying134 sz110 rfl (by kernel_rfl) (by kernel_rfl) (by kernel_rfl) he11) ?_
       refine L0 rfl rfl (E_loadon (c := c110) (xs := y5) (v := e12) (id := 176) (sz := 4) (T := 110) (off := 0) (n := t6) [Ti e12.1, Ti e12.2.1, Ti e12.2.2.1, Ti e12.2.2.2] wd110 rfl (by kernel_rfl) (by kernel_rfl) he12 (Nat.le_of_ble_eq_true rfl) (by kernel_rfl)) ?_
       exact XE
      obtain ⟨y13, hy13, h⟩ := of_bind h
      obtain ⟨y14, hy14, h⟩ := of_bind h
      obtain ⟨y15, hy15, h⟩ := of_bind h
      refine V_sdreg [0, 0, 3, 0, 15, 31, 0, 127] 7 (cdm 7 [8328, 8322, 8325, 8234, 8277, 8533, 2730]) (mb 71 29360736) [72, 176, 160, 40] (s1 := ⟨bt 5 (.pt 40 0 :: .ow 160 :: .bot :: .bot :: .pt 72 0 :: bt 12 (.ow 176 :: I ((y5.length : Int)) :: I t6 :: bt 46 [])), [(72, .box [Ti y15.1, Ti y15.2.1, Ti y15.2.2.1, Ti y15.2.2.2]), (176, .arr 110 4 (y5.map c110)), (160, .arr 110 4 (l7.map c110)), (40, .box [Ti y4.2.1, Ti y4.2.2.1, Ti y4.2.2.2.1, Ti y4.2.2.2.2])]⟩) (by kernel_rfl) (by kernel_rfl) ?_ ?_
      ·refine DR 2 ?_
       refine DC 2 (s_impl_Matrix_times hy13) cf_impl_Matrix_times rfl rfl rfl rfl 30 rfl ?_
       refine DR 1 ?_
       refine DC 4 (s_impl_Matrix_inverse hy14) cf_impl_Matrix_inverse rfl rfl rfl rfl 32 rfl ?_
       refine DC 5 (s_impl_Matrix_times hy15) cf_impl_Matrix_times rfl rfl rfl rfl 33 rfl ?_
       refine DA 1 ?_
       exact XE
      refine V_seq ?_
      obtain ⟨y16, hy16, h⟩ := of_bind h
      refine V_sreg (mb 71 68748837472) [72, 176, 160, 40] (s1 := ⟨bt 5 (.pt 40 0 :: .ow 160 :: .bot :: .bot :: .pt 72 0 :: bt 12 (.ow 176 :: I ((y5.length : Int)) :: I t6 :: bt 11 (Bo (!y16) :: bt 34 []))), [(72, .box [Ti y15.1, Ti y15.2.1, Ti y15.2.2.1, Ti y15.2.2.2]), (176, .arr 110 4 (y5.map c110)), (160, .arr 110 4 (l7.map c110)), (40, .box [Ti y4.2.1, Ti y4.2.2.1, Ti y4.2.2.2.1, Ti y4.2.2.2.2])]⟩) ?_ ?_
      ·refine XR 1 ?_
       refine XC (s_impl_IsMatrix hy16) cf_impl_IsMatrix rfl rfl rfl ?_
       exact XE
      refine V_cond rfl (fun hc17 => ?_) (fun hc17 => ?_)
      ·have h := of_true h hc17
       refine V_sreg (mb 71 12) [296] (s1 := ⟨.bot :: .bot :: .ow 296 :: Bo false :: bt 67 [], [(296, .arr 110 4 ((([] : List ((Int × Int × Int × Int)))).map c110))]⟩) ?_ ?_
       ·refine L1 rfl rfl (Y1_bslice0 Try.underlying134 sz110 (by decide) rfl rfl) ?_
        exact XE
       refine V_ret ?_
       obtain rfl := some_inj h
       have h := hko9
       obtain rfl := some_inj h
       show Post _ _ _ _ _
       exact ⟨.inr rfl, rfl, rfl, rfl⟩
      ·have h := of_false h hc17
       refine V_skip ?_
       show V _ _ _ _
       refine V_sreg (mb 71 29361760) [72, 176, 160, 40] (s1 := ⟨bt 5 (.pt 40 0 :: .ow 160 :: .bot :: .bot :: .pt 72 0 :: I ((l7.length : Int)) :: bt 11 (.ow 176 :: I ((y5.length : Int)) :: I t6 :: bt 46 [])), [(72, .box [Ti y15.1, Ti y15.2.1, Ti y15.2.2.1, Ti y15.2.2.2]), (176, .arr 110 4 (y5.map c110)), (160, .arr 110 4 (l7.map c110)), (40, .box [Ti y4.2.1, Ti y4.2.2.1, Ti y4.2.2.2.1, Ti y4.2.2.2.2])]⟩) ?_ ?_
       ·refine XR 1 ?_
        refine L0 rfl rfl (Y0_lenM (c := c110) (xs := l7) Try.underlying134 rfl (by kernel_rfl)) ?_
        exact XE
       refine V_seq ?_
       obtain ⟨o20, hLo20, h⟩ := of_bind h
       refine V_toK (mb 71 29361760) [72, 176, 160, 40] (s1 := ⟨bt 5 (.pt 40 0 :: .ow 160 :: .bot :: .bot :: .pt 72 0 :: I o20 :: bt 11 (.ow 176 :: I ((y5.length : Int)) :: I t6 :: bt 46 [])), [(72, .box [Ti y15.1, Ti y15.2.1, Ti y15.2.2.1, Ti y15.2.2.2]), (176, .arr 110 4 (y5.map c110)), (160, .arr 110 4 (l7.map c110)), (40, .box [Ti y4.2.1, Ti y4.2.2.1, Ti y4.2.2.2.1, Ti y4.2.2.2.2])]⟩) ?_ ?_
       ·clear h
        refine V_block (V_loop (fun n s => ∃ (vat18 : Int), s.keep (mb 71 29361760) [72, 176, 160, 40] = (⟨bt 5 (.pt 40 0 :: .ow 160 :: .bot :: .bot :: .pt 72 0 :: I vat18 :: bt 11 (.ow 176 :: I ((y5.length : Int)) :: I t6 :: bt 46 [])), [(72, .box [Ti y15.1, Ti y15.2.1, Ti y15.2.2.1, Ti y15.2.2.2]), (176, .arr 110 4 (y5.map c110)), (160, .arr 110 4 (l7.map c110)), (40, .box [Ti y4.2.1, Ti y4.2.2.1, Ti y4.2.2.2.1, Ti y4.2.2.2.2])]⟩ : St) ∧ r_impl_Automorphs_L19 l7 t6 y15 y4 y5 n vat18 = some o20) FU ⟨_,  by rfl, hLo20⟩ ?_)
        clear hLo20
        rintro n s ⟨vat18, hs, h⟩
        refine V_keep _ _ hs ?_
        clear hs
        cases n with
        | zero => cases h
        | succ n =>
         rw [r_impl_Automorphs_L19] at h
         refine V_seq ?_
         obtain ⟨b25, hb25, h⟩ := of_bind h
         refine V_sdreg [0, 1, 3, 7, 7, 7, 39, 119, 247, 511, 1023] 11 (cdm 11 [0, 1, 5, 174613, 10389, 661, 1685, 5525, 21909, 87381, 349525]) (mb 71 1125899936204384) [72, 176, 160, 40] (s1 := ⟨bt 5 (.pt 40 0 :: .ow 160 :: .bot :: .bot :: .pt 72 0 :: I vat18 :: bt 11 (.ow 176 :: I ((y5.length : Int)) :: I t6 :: bt 25 (Bo b25 :: bt 20 []))), [(72, .box [Ti y15.1, Ti y15.2.1, Ti y15.2.2.1, Ti y15.2.2.2]), (176, .arr 110 4 (y5.map c110)), (160, .arr 110 4 (l7.map c110)), (40, .box [Ti y4.2.1, Ti y4.2.2.1, Ti y4.2.2.2.1, Ti y4.2.2.2.2])]⟩) (by kernel_rfl) (by kernel_rfl) ?_ ?_
         ·refine DR 3 ?_
          refine DL_split (ltI 0 vat18) (fun hc21 => ?_) (fun hc21 => ?_)
          ·have hb25 := of_true hb25 hc21
           obtain ⟨e22, he22, hb25⟩ := of_bind hb25
           obtain ⟨e23, he23, hb25⟩ := of_bind hb25
           obtain ⟨y24, hy24, hb25⟩ := of_bind hb25
           have hb25 := some_inj hb25
           refine DE_0 3 (.ag [Ti y15.1, Ti y15.2.1, Ti y15.2.2.1, Ti y15.2.2.2]) (by kernel_rfl) rfl rfl rfl (gsat_C (ltI 0 vat18) rfl rfl (by kernel_rfl) hc21) (by kernel_rfl) (E_loadn (cs := [Ti y15.1, Ti y15.2.1, Ti y15.2.2.1, Ti y15.2.2.2]) [Ti y15.1, Ti y15.2.1, Ti y15.2.2.1, Ti y15.2.2.2] wd110 rfl (by kernel_rfl) (Nat.le_of_ble_eq_true rfl) (by kernel_rfl)) 43 rfl ?_
           refine DE_0 4 (.ow 160) (by kernel_rfl) rfl rfl rfl (gsat_C (ltI 0 vat18) rfl rfl (by kernel_rfl) hc21) (by kernel_rfl) (E_move (.ow 160) rfl (by kernel_rfl)) 44 rfl ?_
           refine DE_0 5 (I vat18) (by kernel_rfl) rfl rfl rfl (gsat_C (ltI 0 vat18) rfl rfl (by kernel_rfl) hc21) (by kernel_rfl) (E_move (I vat18) rfl (by kernel_rfl)) 45 rfl ?_
           refine DE_0 6 (I (w64 (vat18 - 1))) (by kernel_rfl) rfl rfl rfl (gsat_C (ltI 0 vat18) rfl rfl (by kernel_rfl) hc21) (by kernel_rfl) (Y0_sub64 (a := vat18) (b := 1) rfl (by kernel_rfl) (by kernel_rfl)) 46 rfl ?_
           refine DE_0 7 (.po 160 4 (Int.toNat (w64 (vat18 - 1))) 0) (by kernel_rfl) rfl rfl rfl (gsat_C (ltI 0 vat18) rfl rfl (by kernel_rfl) hc21) (by kernel_rfl) (Y0_idxoM (c := c110) (xs := l7) (v := e22) (id := 160) (T := 110) (sz := 4) (n := w64 (vat18 - 1)) Try.underlying134 sz110 rfl (by kernel_rfl) (by kernel_rfl) (by kernel_rfl) he22) 47 rfl ?_
           refine DE_0 8 (.ag [Ti e23.1, Ti e23.2.1, Ti e23.2.2.1, Ti e23.2.2.2]) (by kernel_rfl) rfl rfl rfl (gsat_C (ltI 0 vat18) rfl rfl (by kernel_rfl) hc21) (by kernel_rfl) (E_loadon (c := c110) (xs := l7) (v := e23) (id := 160) (sz := 4) (T := 110) (off := 0) (n := w64 (vat18 - 1)) [Ti e23.1, Ti e23.2.1, Ti e23.2.2.1, Ti e23.2.2.2] wd110 rfl (by kernel_rfl) (by kernel_rfl) he23 (Nat.le_of_ble_eq_true rfl) (by kernel_rfl)) 48 rfl ?_
           refine DE_1 9 (by kernel_rfl) rfl rfl rfl (gsat_C (ltI 0 vat18) rfl rfl (by kernel_rfl) hc21) (Y1_call (s_impl_lessMatrix hy24) cf_impl_lessMatrix rfl (by kernel_rfl)) rfl rfl rfl 49 rfl ?_
           refine DE_0 10 (Bo (b25)) (by kernel_rfl) rfl rfl rfl (gsat_none rfl) (by kernel_rfl) (Y0_pickTe (b := ltI 0 vat18) (p := y24) rfl (by kernel_rfl) hc21 (by kernel_rfl) hb25) 50 rfl ?_
           refine DA 0 ?_
           exact XE
          ·have hb25 := some_inj (of_false hb25 hc21)
           refine DE_t 3 (by kernel_rfl) rfl rfl rfl (gun_T (ltI 0 vat18) rfl rfl (by kernel_rfl) hc21) 43 rfl ?_
           refine DE_t 4 (by kernel_rfl) rfl rfl rfl (gun_T (ltI 0 vat18) rfl rfl (by kernel_rfl) hc21) 44 rfl ?_
           refine DE_t 5 (by kernel_rfl) rfl rfl rfl (gun_T (ltI 0 vat18) rfl rfl (by kernel_rfl) hc21) 45 rfl ?_
           refine DE_t 6 (by kernel_rfl) rfl rfl rfl (gun_T (ltI 0 vat18) rfl rfl (by kernel_rfl) hc21) 46 rfl ?_
           refine DE_t 7 (by kernel_rfl) rfl rfl rfl (gun_T (ltI 0 vat18) rfl rfl (by kernel_rfl) hc21) 47 rfl ?_
           refine DE_t 8 (by kernel_rfl) rfl rfl rfl (gun_T (ltI 0 vat18) rfl rfl (by kernel_rfl) hc21) 48 rfl ?_
           refine DE_t 9 (by kernel_rfl) rfl rfl rfl (gun_T (ltI 0 vat18) rfl rfl (by kernel_rfl) hc21) 49 rfl ?_
           refine DE_0 10 (Bo (b25)) (by kernel_rfl) rfl rfl rfl (gsat_none rfl) (by kernel_rfl) (Y0_pickFe (b := ltI 0 vat18) (p := false) rfl (by kernel_rfl) hc21 (by kernel_rfl) hb25) 50 rfl ?_
           refine DA 0 ?_
           exact XE
         refine V_cond rfl (fun hc26 => ?_) (fun hc26 => ?_)
         ·have h := of_true h hc26
          refine V_skip ?_
          show V _ _ _ _
          refine V_block ?_
          obtain ⟨vat27, hvat27, h⟩ := of_sI h
          refine V_reg (mb 71 29361760) [72, 176, 160, 40] (s1 := ⟨bt 5 (.pt 40 0 :: .ow 160 :: .bot :: .bot :: .pt 72 0 :: I vat27 :: bt 11 (.ow 176 :: I ((y5.length : Int)) :: I t6 :: bt 46 [])), [(72, .box [Ti y15.1, Ti y15.2.1, Ti y15.2.2.1, Ti y15.2.2.2]), (176, .arr 110 4 (y5.map c110)), (160, .arr 110 4 (l7.map c110)), (40, .box [Ti y4.2.1, Ti y4.2.2.1, Ti y4.2.2.2.1, Ti y4.2.2.2.2])]⟩) ?_ ?_
          ·refine XR 3 ?_
           refine XL_nil ?_
           subst hvat27
           kernel_rfl
          exact ⟨n, Nat.lt_succ_self n, _,  by rfl, h⟩
         ·have h := of_false h hc26
          refine V_exit ?_
          obtain rfl := some_inj h
          show St.keep _ _ _ = _
          rfl
       show V _ _ _ _
       obtain ⟨u28, hu28, h⟩ := of_bind h
       refine V_sreg (mb 71 29361760) [72, 176, 160, 40] (s1 := ⟨bt 5 (.pt 40 0 :: .ow 160 :: .bot :: .bot :: .pt 72 0 :: I o20 :: bt 11 (.ow 176 :: I ((y5.length : Int)) :: I t6 :: bt 46 [])), [(72, .box [Ti y15.1, Ti y15.2.1, Ti y15.2.2.1, Ti y15.2.2.2]), (176, .arr 110 4 (y5.map c110)), (160, .arr 110 4 ((l7 ++ ([(0, 0, 0, 0)])).map c110)), (40, .box [Ti y4.2.1, Ti y4.2.2.1, Ti y4.2.2.2.1, Ti y4.2.2.2.2])]⟩) ?_ ?_
       ·refine XR 1 ?_
        refine L0 rfl rfl (Y0_build (cs := [Ti 0, Ti 0, Ti 0, Ti 0]) pl110 bt110 rfl rfl (by kernel_rfl)) ?_
        refine L1 rfl rfl (Y1_bslice (z := zv110) (els := [(0, 0, 0, 0)].map c110) Try.underlying134 iz110 rfl (by decide) rfl (by kernel_rfl) rfl (by simp [c110]) (by decide) (by decide)) ?_
        refine XL_cons rfl (X_appendM (c := c110) (xs := l7) (ys := [(0, 0, 0, 0)]) (id := 160) (z := zv110) rfl rfl Try.underlying134 izb110 rfl (by kernel_rfl) (by kernel_rfl) (by kernel_rfl) (fun _ => rfl) (by simp) (room_some hu28) (by decide)) ?_
        exact XE
       obtain ⟨u29, hu29, h⟩ := of_bind h
       obtain ⟨u30, hu30, h⟩ := of_bind h
       obtain ⟨l31, hl31, h⟩ := of_bind h
       have hl31 := some_inj hl31
       refine V_sdreg [0, 0, 2, 7, 0, 0, 48, 127] 7 (cdm 7 [10792, 10754, 10758, 10773, 2218, 682, 1450]) (mb 71 29361760) [72, 176, 160, 40] (s1 := ⟨bt 5 (.pt 40 0 :: .ow 160 :: .bot :: .bot :: .pt 72 0 :: I o20 :: bt 11 (.ow 176 :: I ((y5.length : Int)) :: I t6 :: bt 46 [])), [(72, .box [Ti y15.1, Ti y15.2.1, Ti y15.2.2.1, Ti y15.2.2.2]), (176, .arr 110 4 (y5.map c110)), (160, .arr 110 4 (l31.map c110)), (40, .box [Ti y4.2.1, Ti y4.2.2.1, Ti y4.2.2.2.1, Ti y4.2.2.2.2])]⟩) (by kernel_rfl) (by kernel_rfl) ?_ ?_
       ·refine DR 3 ?_
        refine DE_0 3 (.sf 160 4 (Int.toNat (w64 (o20 + 1)))) (by kernel_rfl) rfl rfl rfl (gsat_none rfl) (by kernel_rfl) (Y0_suffix (c := c110) (xs := l7 ++ ([(0, 0, 0, 0)])) (l := w64 (o20 + 1)) (T := 110) (id := 160) Try.underlying134 sz110 rfl (by kernel_rfl) (by kernel_rfl) (by kernel_rfl) hu29) 60 rfl ?_
        refine DR 2 ?_
        refine DE_0 6 (.sf 160 4 (Int.toNat (o20))) (by kernel_rfl) rfl rfl rfl (gsat_none rfl) (by kernel_rfl) (Y0_suffix (c := c110) (xs := l7 ++ ([(0, 0, 0, 0)])) (l := o20) (T := 110) (id := 160) Try.underlying134 sz110 rfl (by kernel_rfl) (by kernel_rfl) (by kernel_rfl) hu30) 63 rfl ?_
        refine DA 0 ?_
        refine XL_cons rfl (X_toBot 64 (X_copyS (c := c110) (xs := l7 ++ ([(0, 0, 0, 0)])) (id := 160) (sz := 4) (T := 110) (k1 := Int.toNat (w64 (o20 + 1))) (k2 := Int.toNat o20) rfl rfl Try.underlying134 sz110 (by kernel_rfl) (by kernel_rfl) (by kernel_rfl) (slc_le hu29) (slc_le hu30) (by simp))) ?_
        refine XL_nil ?_
        subst hl31
        kernel_rfl
       obtain ⟨e32, he32, h⟩ := of_bind h
       obtain ⟨e33, he33, h⟩ := of_bind h
       refine V_reg (mb 71 29360224) [176, 160, 40] (s1 := ⟨bt 5 (.pt 40 0 :: .ow 160 :: bt 15 (.ow 176 :: I ((y5.length : Int)) :: I t6 :: bt 46 [])), [(176, .arr 110 4 (y5.map c110)), (160, .arr 110 4 ((l31.set (Int.toNat (o20)) y15).map c110)), (40, .box [Ti y4.2.1, Ti y4.2.2.1, Ti y4.2.2.2.1, Ti y4.2.2.2.2])]⟩) ?_ ?_
       ·refine XR 3 ?_
        refine L0 rfl rfl (Y0_idxoM (c := c110) (xs := l31) (v := e32) (id := 160) (T := 110) (sz := 4) (n := o20) Try.underlying134 sz110 rfl (by kernel_rfl) (by kernel_rfl) (by kernel_rfl) he32) ?_
        refine XL_cons rfl (X_storeoM (c := c110) (xs := l31) (v := e33) (u := y15) (id := 160) (sz := 4) (off := 0) (T0 := 110) (n := o20) (vc := [Ti y15.1, Ti y15.2.1, Ti y15.2.2.1, Ti y15.2.2.2]) rfl rfl (by kernel_rfl) (by kernel_rfl) he33 (by kernel_rfl) sz110 (Nat.le_of_ble_eq_true rfl) (by kernel_rfl)) ?_
        exact XE
       show V _ _ _ _
       obtain ⟨t34, ht34, h⟩ := of_sI h
       refine V_reg (mb 71 29360224) [176, 160, 40] (s1 := ⟨bt 5 (.pt 40 0 :: .ow 160 :: bt 15 (.ow 176 :: I ((y5.length : Int)) :: I t34 :: bt 46 [])), [(176, .arr 110 4 (y5.map c110)), (160, .arr 110 4 ((l31.set (Int.toNat (o20)) y15).map c110)), (40, .box [Ti y4.2.1, Ti y4.2.2.1, Ti y4.2.2.2.1, Ti y4.2.2.2.2])]⟩) ?_ ?_
       ·refine XR 2 ?_
        refine XL_nil ?_
        subst ht34
        kernel_rfl
       exact ⟨n, Nat.lt_succ_self n, _, _,  by rfl, h⟩
     ·have h := of_false h hc10
      refine V_exit ?_
      obtain rfl := some_inj h
      exact ⟨_, rfl, by rfl⟩
   rintro o9 rfl
   have h := hko9
   clear hko9
   show V _ _ _ _
   refine V_e (mb 71 12) [160] (s1 := ⟨.bot :: .bot :: .ow 160 :: Bo true :: bt 67 [], [(160, .arr 110 4 (o9.map c110))]⟩) ?_
   refine V_ret ?_
   obtain rfl := some_inj h
   show Post _ _ _ _ _
   exact ⟨.inr rfl, rfl, rfl, rfl⟩
theorem cf_impl_levelMatrix : ∀ args w, (callFunc 112 args).run Try.prog w = .ok (.enter 112 args) w := run_callFunc Try.func112 (by kernel_rfl) (by kernel_rfl)
theorem s_impl_levelMatrix {f1 : (Int × Int × Int)} {g2 : (Int × Int × Int)} {vn3 : Int} {r : (((Int × Int × Int × Int)) × Bool)} (h : r_impl_levelMatrix f1 g2 vn3 = some r) : CallS Try.prog 112 [.ag [Ti f1.1, Ti f1.2.1, Ti f1.2.2], .ag [Ti g2.1, Ti g2.2.1, Ti g2.2.2], I vn3] (.tc (.ag [Ti r.1.1, Ti r.1.2.1, Ti r.1.2.2.1, Ti r.1.2.2.2]) (.tc (Bo r.2) .tn)) [] := by
  refine CallS_of_text (rs := [.w 6 4, .t 7]) (vs := [.cell 6 110, .tmp 7]) Try.func112 rfl rfl (.cons ⟨rfl, wd110⟩ (.cons rfl FitsL.nil)) (by decide) 56 rfl ?_
  unfold r_impl_levelMatrix at h
  show V _ _ ⟨.ag [Ti f1.1, Ti f1.2.1, Ti f1.2.2] :: .ag [Ti g2.1, Ti g2.2.1, Ti g2.2.2] :: I vn3 :: bt 53 [], []⟩ _
  refine V_e (mb 56 92) [48, 32, 24] (s1 := ⟨.bot :: .bot :: I vn3 :: .pt 24 0 :: .pt 32 0 :: .bot :: .pt 48 0 :: bt 49 [], [(48, .box [Ti 0, Ti 0, Ti 0, Ti 0]), (32, .box [Ti g2.1, Ti g2.2.1, Ti g2.2.2]), (24, .box [Ti f1.1, Ti f1.2.1, Ti f1.2.2])]⟩) ?_
  obtain ⟨y4, hy4, h⟩ := of_bind h
  refine V_sreg (mb 56 860) [72, 64, 48, 32, 24] (s1 := ⟨.bot :: .bot :: I vn3 :: .pt 24 0 :: .pt 32 0 :: .bot :: .pt 48 0 :: .bot :: .pt 64 0 :: .pt 72 0 :: bt 46 [], [(72, .box [Ti y4.2.1, Ti y4.2.2.1, Ti y4.2.2.2.1, Ti y4.2.2.2.2]), (64, .box [Ti y4.1.1, Ti y4.1.2.1, Ti y4.1.2.2]), (48, .box [Ti 0, Ti 0, Ti 0, Ti 0]), (32, .box [Ti g2.1, Ti g2.2.1, Ti g2.2.2]), (24, .box [Ti f1.1, Ti f1.2.1, Ti f1.2.2])]⟩) ?_ ?_
  ·refine XR 1 ?_
   refine XC (s_impl_reduce hy4) cf_impl_reduce rfl rfl rfl ?_
   exact XE
  obtain ⟨y5, hy5, h⟩ := of_bind h
  refine V_sreg (mb 56 3916) [88, 80, 72, 64, 48, 24] (s1 := ⟨.bot :: .bot :: I vn3 :: .pt 24 0 :: .bot :: .bot :: .pt 48 0 :: .bot :: .pt 64 0 :: .pt 72 0 :: .pt 80 0 :: .pt 88 0 :: bt 44 [], [(88, .box [Ti y5.2.1, Ti y5.2.2.1, Ti y5.2.2.2.1, Ti y5.2.2.2.2]), (80, .box [Ti y5.1.1, Ti y5.1.2.1, Ti y5.1.2.2]), (72, .box [Ti y4.2.1, Ti y4.2.2.1, Ti y4.2.2.2.1, Ti y4.2.2.2.2]), (64, .box [Ti y4.1.1, Ti y4.1.2.1, Ti y4.1.2.2]), (48, .box [Ti 0, Ti 0, Ti 0, Ti 0]), (24, .box [Ti f1.1, Ti f1.2.1, Ti f1.2.2])]⟩) ?_ ?_
  ·refine XR 1 ?_
   refine XC (s_impl_reduce hy5) cf_impl_reduce rfl rfl rfl ?_
   exact XE
  obtain ⟨y6, hy6, h⟩ := of_bind h
  refine V_sreg (mb 56 8004) [232, 88, 80, 72, 64, 48] (s1 := ⟨.bot :: .bot :: I vn3 :: bt 3 (.pt 48 0 :: .bot :: .pt 64 0 :: .pt 72 0 :: .pt 80 0 :: .pt 88 0 :: .ow 232 :: bt 43 []), [(232, .arr 110 4 (y6.1.map c110)), (88, .box [Ti y5.2.1, Ti y5.2.2.1, Ti y5.2.2.2.1, Ti y5.2.2.2.2]), (80, .box [Ti y5.1.1, Ti y5.1.2.1, Ti y5.1.2.2]), (72, .box [Ti y4.2.1, Ti y4.2.2.1, Ti y4.2.2.2.1, Ti y4.2.2.2.2]), (64, .box [Ti y4.1.1, Ti y4.1.2.1, Ti y4.1.2.2]), (48, .box [Ti 0, Ti 0, Ti 0, Ti 0])]⟩) ?_ ?_
  ·refine XR 1 ?_
   refine XC (s_impl_Automorphs hy6) cf_impl_Automorphs rfl rfl rfl ?_
   exact XE
  refine V_seq ?_
  obtain ⟨t7, ht7, h⟩ := of_bind h
  have ht7 := some_inj ht7
  refine V_sreg (mb 56 17179875908) [232, 88, 72, 48] (s1 := ⟨.bot :: .bot :: I vn3 :: bt 3 (.pt 48 0 :: .bot :: .bot :: .pt 72 0 :: .bot :: .pt 88 0 :: .ow 232 :: bt 21 (Bo t7 :: bt 21 [])), [(232, .arr 110 4 (y6.1.map c110)), (88, .box [Ti y5.2.1, Ti y5.2.2.1, Ti y5.2.2.2.1, Ti y5.2.2.2.2]), (72, .box [Ti y4.2.1, Ti y4.2.2.1, Ti y4.2.2.2.1, Ti y4.2.2.2.2]), (48, .box [Ti 0, Ti 0, Ti 0, Ti 0])]⟩) ?_ ?_
  ·refine XR 2 ?_
   refine L0 rfl rfl (Y0_neg3 (a0 := y4.1.1) (b0 := y5.1.1) (a1 := y4.1.2.1) (b1 := y5.1.2.1) (a2 := y4.1.2.2) (b2 := y5.1.2.2) neg45 rfl (by kernel_rfl) (by kernel_rfl)) ?_
   refine XL_nil ?_
   subst ht7
   kernel_rfl
  refine V_cond rfl (fun hc8 => ?_) (fun hc8 => ?_)
  ·have h := of_true h hc8
   refine V_sreg (mb 56 192) [48] (s1 := ⟨bt 6 (.pt 48 0 :: Bo false :: bt 48 []), [(48, .box [Ti 0, Ti 0, Ti 0, Ti 0])]⟩) ?_ ?_
   ·refine L0 rfl rfl (Y0_build (cs := [Ti 0, Ti 0, Ti 0, Ti 0]) pl110 bt110 rfl rfl (by kernel_rfl)) ?_
    exact XE
   refine V_ret ?_
   obtain rfl := some_inj h
   show Post _ _ _ _ _
   exact ⟨.inr rfl, rfl, rfl, rfl⟩
  ·have h := of_false h hc8
   refine V_skip ?_
   show V _ _ _ _
   refine V_seq ?_
   refine V_sreg (mb 56 481036339780) [232, 88, 72, 48] (s1 := ⟨.bot :: .bot :: I vn3 :: bt 3 (.pt 48 0 :: .bot :: .bot :: .pt 72 0 :: .bot :: .pt 88 0 :: bt 24 (.ow 232 :: I ((y6.1.length : Int)) :: I 0 :: bt 17 [])), [(232, .arr 110 4 (y6.1.map c110)), (88, .box [Ti y5.2.1, Ti y5.2.2.1, Ti y5.2.2.2.1, Ti y5.2.2.2.2]), (72, .box [Ti y4.2.1, Ti y4.2.2.1, Ti y4.2.2.2.1, Ti y4.2.2.2.2]), (48, .box [Ti 0, Ti 0, Ti 0, Ti 0])]⟩) ?_ ?_
   ·refine XR 1 ?_
    refine L0 rfl rfl (Y0_lenM (c := c110) (xs := y6.1) Try.underlying134 rfl (by kernel_rfl)) ?_
    exact XE
   obtain ⟨qo11, hLo11, hko11⟩ := of_bind h
   refine V_toS (q := qo11) (S := fun o11 => ⟨bt 6 (.pt 48 0 :: bt 49 []), [(48, .box [Ti 0, Ti 0, Ti 0, Ti 0])]⟩) (mb 56 64) [48] ?_ ?_
   ·refine V_block (V_loop (fun n s => ∃ (t9 : Int), s.keep (mb 56 481036339780) [232, 88, 72, 48] = (⟨.bot :: .bot :: I vn3 :: bt 3 (.pt 48 0 :: .bot :: .bot :: .pt 72 0 :: .bot :: .pt 88 0 :: bt 24 (.ow 232 :: I ((y6.1.length : Int)) :: I t9 :: bt 17 [])), [(232, .arr 110 4 (y6.1.map c110)), (88, .box [Ti y5.2.1, Ti y5.2.2.1, Ti y5.2.2.2.1, Ti y5.2.2.2.2]), (72, .box [Ti y4.2.1, Ti y4.2.2.1, Ti y4.2.2.2.1, Ti y4.2.2.2.2]), (48, .box [Ti 0, Ti 0, Ti 0, Ti 0])]⟩ : St) ∧ r_impl_levelMatrix_L10 vn3 y4 y5 y6 n t9 = some qo11) FU ⟨_,  by rfl, hLo11⟩ ?_)
    clear hLo11
    rintro n s ⟨t9, hs, h⟩
    refine V_keep _ _ hs ?_
    clear hs
    cases n with
    | zero => cases h
    | succ n =>
     rw [r_impl_levelMatrix_L10] at h
     refine V_e (mb 56 1030792153668) [232, 88, 72, 48] (s1 := ⟨.bot :: .bot :: I vn3 :: bt 3 (.pt 48 0 :: .bot :: .bot :: .pt 72 0 :: .bot :: .pt 88 0 :: bt 24 (.ow 232 :: I ((y6.1.length : Int)) :: I t9 :: Bo (ltI t9 ((y6.1.length : Int))) :: bt 16 [])), [(232, .arr 110 4 (y6.1.map c110)), (88, .box [Ti y5.2.1, Ti y5.2.2.1, Ti y5.2.2.2.1, Ti y5.2.2.2.2]), (72, .box [Ti y4.2.1, Ti y4.2.2.1, Ti y4.2.2.2.1, Ti y4.2.2.2.2]), (48, .box [Ti 0, Ti 0, Ti 0, Ti 0])]⟩) ?_
     refine V_seq ?_
     refine V_cond rfl (fun hc12 => ?_) (fun hc12 => ?_)
     ·have h := of_true h hc12
      refine V_skip ?_
      show V _ _ _ _
      refine V_seq ?_
      refine V_block ?_
      obtain ⟨e13, he13, h⟩ := of_bind h
      obtain ⟨e14, he14, h⟩ := of_bind h
      refine V_sreg (mb 56 481036372548) [120, 232, 88, 72, 48] (s1 := ⟨.bot :: .bot :: I vn3 :: bt 3 (.pt 48 0 :: .bot :: .bot :: .pt 72 0 :: .bot :: .pt 88 0 :: bt 3 (.pt 120 0 :: bt 20 (.ow 232 :: I ((y6.1.length : Int)) :: I t9 :: bt 17 []))), [(120, .box [Ti e14.1, Ti e14.2.1, Ti e14.2.2.1, Ti e14.2.2.2]), (232, .arr 110 4 (y6.1.map c110)), (88, .box [Ti y5.2.1, Ti y5.2.2.1, Ti y5.2.2.2.1, Ti y5.2.2.2.2]), (72, .box [Ti y4.2.1, Ti y4.2.2.1, Ti y4.2.2.2.1, Ti y4.2.2.2.2]), (48, .box [Ti 0, Ti 0, Ti 0, Ti 0])]⟩) ?_ ?_
      ·refine L0 rfl rfl (Y0_idxoM (c := c110) (xs := y6.1) (v := e13) (id := 232) (T := 110) (sz := 4) (n := t9) Try.underlying134 sz110 rfl (by kernel_rfl) (by kernel_rfl) (by kernel_rfl) he13) ?_
       refine L0 rfl rfl (E_loadon (c := c110) (xs := y6.1) (v := e14) (id := 232) (sz := 4) (T := 110) (off := 0) (n := t9) [Ti e14.1, Ti e14.2.1, Ti e14.2.2.1, Ti e14.2.2.2] wd110 rfl (by kernel_rfl) (by kernel_rfl) he14 (Nat.le_of_ble_eq_true rfl) (by kernel_rfl)) ?_
       exact XE
      obtain ⟨y15, hy15, h⟩ := of_bind h
      obtain ⟨y16, hy16, h⟩ := of_bind h
      obtain ⟨y17, hy17, h⟩ := of_bind h
      refine V_sdreg [0, 0, 3, 0, 15, 31, 0, 127] 7 (cdm 7 [8328, 8322, 8325, 8234, 8277, 8533, 2730]) (mb 56 481036405316) [128, 232, 88, 72, 48] (s1 := ⟨.bot :: .bot :: I vn3 :: bt 3 (.pt 48 0 :: .bot :: .bot :: .pt 72 0 :: .bot :: .pt 88 0 :: bt 4 (.pt 128 0 :: bt 19 (.ow 232 :: I ((y6.1.length : Int)) :: I t9 :: bt 17 []))), [(128, .box [Ti y17.1, Ti y17.2.1, Ti y17.2.2.1, Ti y17.2.2.2]), (232, .arr 110 4 (y6.1.map c110)), (88, .box [Ti y5.2.1, Ti y5.2.2.1, Ti y5.2.2.2.1, Ti y5.2.2.2.2]), (72, .box [Ti y4.2.1, Ti y4.2.2.1, Ti y4.2.2.2.1, Ti y4.2.2.2.2]), (48, .box [Ti 0, Ti 0, Ti 0, Ti 0])]⟩) (by kernel_rfl) (by kernel_rfl) ?_ ?_
      ·refine DR 2 ?_
       refine DC 2 (s_impl_Matrix_times hy15) cf_impl_Matrix_times rfl rfl rfl rfl 44 rfl ?_
       refine DR 1 ?_
       refine DC 4 (s_impl_Matrix_inverse hy16) cf_impl_Matrix_inverse rfl rfl rfl rfl 46 rfl ?_
       refine DC 5 (s_impl_Matrix_times hy17) cf_impl_Matrix_times rfl rfl rfl rfl 47 rfl ?_
       refine DA 1 ?_
       exact XE
      obtain ⟨z18, hz18, h⟩ := of_bind h
      refine V_sreg (mb 56 4504080663775812) [128, 232, 88, 72, 48] (s1 := ⟨.bot :: .bot :: I vn3 :: bt 3 (.pt 48 0 :: .bot :: .bot :: .pt 72 0 :: .bot :: .pt 88 0 :: bt 4 (.pt 128 0 :: bt 19 (.ow 232 :: I ((y6.1.length : Int)) :: I t9 :: bt 13 (Bo (eqI (Int.tmod y17.2.2.1 vn3) 0) :: bt 3 [])))), [(128, .box [Ti y17.1, Ti y17.2.1, Ti y17.2.2.1, Ti y17.2.2.2]), (232, .arr 110 4 (y6.1.map c110)), (88, .box [Ti y5.2.1, Ti y5.2.2.1, Ti y5.2.2.2.1, Ti y5.2.2.2.2]), (72, .box [Ti y4.2.1, Ti y4.2.2.1, Ti y4.2.2.2.1, Ti y4.2.2.2.2]), (48, .box [Ti 0, Ti 0, Ti 0, Ti 0])]⟩) ?_ ?_
      ·refine XR 3 ?_
       refine L0 rfl rfl (Y0_rem (k := .i64) (a := y17.2.2.1) (b := vn3) rfl (by kernel_rfl) (by kernel_rfl) (nz_some hz18)) ?_
       exact XE
      refine V_cond rfl (fun hc19 => ?_) (fun hc19 => ?_)
      ·have h := of_true h hc19
       refine V_e (mb 56 192) [48] (s1 := ⟨bt 6 (.pt 48 0 :: Bo true :: bt 48 []), [(48, .box [Ti y17.1, Ti y17.2.1, Ti y17.2.2.1, Ti y17.2.2.2])]⟩) ?_
       refine V_ret ?_
       obtain rfl := some_inj h
       have h := hko11
       obtain rfl := some_inj h
       show Post _ _ _ _ _
       exact ⟨.inr rfl, rfl, rfl, rfl⟩
      ·have h := of_false h hc19
       refine V_skip ?_
       show V _ _ _ _
       obtain ⟨t20, ht20, h⟩ := of_sI h
       refine V_reg (mb 56 481036339780) [232, 88, 72, 48] (s1 := ⟨.bot :: .bot :: I vn3 :: bt 3 (.pt 48 0 :: .bot :: .bot :: .pt 72 0 :: .bot :: .pt 88 0 :: bt 24 (.ow 232 :: I ((y6.1.length : Int)) :: I t20 :: bt 17 [])), [(232, .arr 110 4 (y6.1.map c110)), (88, .box [Ti y5.2.1, Ti y5.2.2.1, Ti y5.2.2.2.1, Ti y5.2.2.2.2]), (72, .box [Ti y4.2.1, Ti y4.2.2.1, Ti y4.2.2.2.1, Ti y4.2.2.2.2]), (48, .box [Ti 0, Ti 0, Ti 0, Ti 0])]⟩) ?_ ?_
       ·refine XR 2 ?_
        refine XL_nil ?_
        subst ht20
        kernel_rfl
       exact ⟨n, Nat.lt_succ_self n, _,  by rfl, h⟩
     ·have h := of_false h hc12
      refine V_exit ?_
      obtain rfl := some_inj h
      exact ⟨_, rfl, by rfl⟩
   rintro o11 rfl
   have h := hko11
   clear hko11
   show V _ _ _ _
   refine V_sreg (mb 56 192) [48] (s1 := ⟨bt 6 (.pt 48 0 :: Bo false :: bt 48 []), [(48, .box [Ti 0, Ti 0, Ti 0, Ti 0])]⟩) ?_ ?_
   ·refine L0 rfl rfl (Y0_build (cs := [Ti 0, Ti 0, Ti 0, Ti 0]) pl110 bt110 rfl rfl (by kernel_rfl)) ?_
    exact XE
   refine V_ret ?_
   obtain rfl := some_inj h
   show Post _ _ _ _ _
   exact ⟨.inr rfl, rfl, rfl, rfl⟩
theorem cf_impl_AreLevelEquivalent : ∀ args w, (callFunc 45 args).run Try.prog w = .ok (.enter 45 args) w := run_callFunc Try.func45 (by kernel_rfl) (by kernel_rfl)
theorem s_impl_AreLevelEquivalent {f1 : (Int × Int × Int)} {g2 : (Int × Int × Int)} {vn3 : Int} {r : (Bool × Bool)} (h : r_impl_AreLevelEquivalent f1 g2 vn3 = some r) : CallS Try.prog 45 [.ag [Ti f1.1, Ti f1.2.1, Ti f1.2.2], .ag [Ti g2.1, Ti g2.2.1, Ti g2.2.2], I vn3] (.tc (Bo r.1) (.tc (Bo r.2) .tn)) [] := by
  refine CallS_of_text (rs := [.t 6, .t 7]) (vs := [.tmp 6, .tmp 7]) Try.func45 rfl rfl (.cons rfl (.cons rfl FitsL.nil)) (by decide) 28 rfl ?_
  unfold r_impl_AreLevelEquivalent at h
  show V _ _ ⟨.ag [Ti f1.1, Ti f1.2.1, Ti f1.2.2] :: .ag [Ti g2.1, Ti g2.2.1, Ti g2.2.2] :: I vn3 :: bt 25 [], []⟩ _
  refine V_e (mb 28 28) [32, 24] (s1 := ⟨.bot :: .bot :: I vn3 :: .pt 24 0 :: .pt 32 0 :: bt 23 [], [(32, .box [Ti g2.1, Ti g2.2.1, Ti g2.2.2]), (24, .box [Ti f1.1, Ti f1.2.1, Ti f1.2.2])]⟩) ?_
  refine V_seq ?_
  obtain ⟨y4, hy4, h⟩ := of_bind h
  obtain ⟨b7, hb7, h⟩ := of_bind h
  refine V_sreg (mb 28 524316) [32, 24] (s1 := ⟨.bot :: .bot :: I vn3 :: .pt 24 0 :: .pt 32 0 :: bt 14 (Bo b7 :: bt 8 []), [(32, .box [Ti g2.1, Ti g2.2.1, Ti g2.2.2]), (24, .box [Ti f1.1, Ti f1.2.1, Ti f1.2.2])]⟩) ?_ ?_
  ·refine XR 2 ?_
   refine XC (s_impl_isLevelForm hy4) cf_impl_isLevelForm rfl rfl rfl ?_
   refine XR 2 ?_
   refine XL_split (!y4) (fun hc5 => ?_) (fun hc5 => ?_)
   ·have hb7 := some_inj (of_true hb7 hc5)
    refine XL_skipF _ rfl rfl (by kernel_rfl) hc5 rfl ?_
    refine XL_skipF _ rfl rfl (by kernel_rfl) hc5 rfl ?_
    refine XL_skipF _ rfl rfl (by kernel_rfl) hc5 rfl ?_
    refine XL_skipF _ rfl rfl (by kernel_rfl) hc5 rfl ?_
    refine XL_cons rfl (X_of_Y0 rfl (Y0_pickTe (b := !y4) (p := true) rfl (by kernel_rfl) hc5 (by kernel_rfl) hb7)) ?_
    exact XE
   ·have hb7 := of_false hb7 hc5
    obtain ⟨y6, hy6, hb7⟩ := of_bind hb7
    have hb7 := some_inj hb7
    refine XL_takeC _ rfl rfl (by kernel_rfl) hc5 (X_of_Y0 rfl (E_loadn (cs := [Ti g2.1, Ti g2.2.1, Ti g2.2.2]) [Ti g2.1, Ti g2.2.1, Ti g2.2.2] wd45 rfl (by kernel_rfl) (Nat.le_of_ble_eq_true rfl) (by kernel_rfl))) ?_
    refine XL_takeC _ rfl rfl (by kernel_rfl) hc5 (X_of_Y0 rfl (E_move (I vn3) rfl (by kernel_rfl))) ?_
    refine XL_takeC _ rfl rfl (by kernel_rfl) hc5 (X_of_Y1 rfl (Y1_call (s_impl_isLevelForm hy6) cf_impl_isLevelForm rfl (by kernel_rfl))) ?_
    refine XL_takeC _ rfl rfl (by kernel_rfl) hc5 (X_of_Y0 rfl (Y0_not (b := y6) rfl (by kernel_rfl))) ?_
    refine XL_cons rfl (X_of_Y0 rfl (Y0_pickFe (b := !y4) (p := !y6) rfl (by kernel_rfl) hc5 (by kernel_rfl) hb7)) ?_
    exact XE
  refine V_cond rfl (fun hc8 => ?_) (fun hc8 => ?_)
  ·have h := of_true h hc8
   refine V_e (mb 28 192) [] (s1 := ⟨bt 6 (Bo false :: Bo false :: bt 20 []), []⟩) ?_
   refine V_ret ?_
   obtain rfl := some_inj h
   show Post _ _ _ _ _
   exact ⟨.inr rfl, rfl, rfl, rfl⟩
  ·have h := of_false h hc8
   refine V_skip ?_
   show V _ _ _ _
   obtain ⟨y9, hy9, h⟩ := of_bind h
   refine V_sreg (mb 28 512) [] (s1 := ⟨bt 9 (Bo y9.2 :: bt 18 []), []⟩) ?_ ?_
   ·refine XR 3 ?_
    refine XC (s_impl_levelMatrix hy9) cf_impl_levelMatrix rfl rfl rfl ?_
    exact XE
   refine V_e (mb 28 192) [] (s1 := ⟨bt 6 (Bo y9.2 :: Bo true :: bt 20 []), []⟩) ?_
   refine V_ret ?_
   obtain rfl := some_inj h
   show Post _ _ _ _ _
   exact ⟨.inr rfl, rfl, rfl, rfl⟩
theorem cf_impl_LevelRootOf : ∀ args w, (callFunc 46 args).run Try.prog w = .ok (.enter 46 args) w := run_callFunc Try.func46 (by kernel_rfl) (by kernel_rfl)
theorem s_impl_LevelRootOf {f1 : (Int × Int × Int)} {vn2 : Int} {r : (Int × Bool)} (h : r_impl_LevelRootOf f1 vn2 = some r) : CallS Try.prog 46 [.ag [Ti f1.1, Ti f1.2.1, Ti f1.2.2], I vn2] (.tc (I r.1) (.tc (Bo r.2) .tn)) [] := by
  refine CallS_of_text (rs := [.t 4, .t 5]) (vs := [.tmp 4, .tmp 5]) Try.func46 rfl rfl (.cons rfl (.cons rfl FitsL.nil)) (by decide) 15 rfl ?_
  unfold r_impl_LevelRootOf at h
  show V _ _ ⟨.ag [Ti f1.1, Ti f1.2.1, Ti f1.2.2] :: I vn2 :: bt 13 [], []⟩ _
  refine V_e (mb 15 6) [16] (s1 := ⟨.bot :: I vn2 :: .pt 16 0 :: bt 12 [], [(16, .box [Ti f1.1, Ti f1.2.1, Ti f1.2.2])]⟩) ?_
  refine V_seq ?_
  obtain ⟨y3, hy3, h⟩ := of_bind h
  refine V_sreg (mb 15 518) [16] (s1 := ⟨.bot :: I vn2 :: .pt 16 0 :: bt 6 (Bo (!y3) :: bt 5 []), [(16, .box [Ti f1.1, Ti f1.2.1, Ti f1.2.2])]⟩) ?_ ?_
  ·refine XR 2 ?_
   refine XC (s_impl_isLevelForm hy3) cf_impl_isLevelForm rfl rfl rfl ?_
   exact XE
  refine V_cond rfl (fun hc4 => ?_) (fun hc4 => ?_)
  ·have h := of_true h hc4
   refine V_e (mb 15 48) [] (s1 := ⟨bt 4 (I 0 :: Bo false :: bt 9 []), []⟩) ?_
   refine V_ret ?_
   obtain rfl := some_inj h
   show Post _ _ _ _ _
   exact ⟨.inr rfl, rfl, rfl, rfl⟩
  ·have h := of_false h hc4
   refine V_skip ?_
   show V _ _ _ _
   obtain ⟨y5, hy5, h⟩ := of_bind h
   refine V_sreg (mb 15 48) [] (s1 := ⟨bt 4 (I y5 :: Bo true :: bt 9 []), []⟩) ?_ ?_
   ·refine XR 4 ?_
    refine XC (s_impl_mod hy5) cf_impl_mod rfl rfl rfl ?_
    exact XE
   refine V_ret ?_
   obtain rfl := some_inj h
   show Post _ _ _ _ _
   exact ⟨.inr rfl, rfl, rfl, rfl⟩
theorem cf_impl_IsLevelForm : ∀ args w, (callFunc 47 args).run Try.prog w = .ok (.enter 47 args) w := run_callFunc Try.func47 (by kernel_rfl) (by kernel_rfl)
theorem s_impl_IsLevelForm {f1 : (Int × Int × Int)} {vn2 : Int} {r : (Bool × Bool)} (h : r_impl_IsLevelForm f1 vn2 = some r) : CallS Try.prog 47 [.ag [Ti f1.1, Ti f1.2.1, Ti f1.2.2], I vn2] (.tc (Bo r.1) (.tc (Bo r.2) .tn)) [] := by
  refine CallS_of_text (rs := [.t 4, .t 5]) (vs := [.tmp 4, .tmp 5]) Try.func47 rfl rfl (.cons rfl (.cons rfl FitsL.nil)) (by decide) 12 rfl ?_
  unfold r_impl_IsLevelForm at h
  show V _ _ ⟨.ag [Ti f1.1, Ti f1.2.1, Ti f1.2.2] :: I vn2 :: bt 10 [], []⟩ _
  refine V_e (mb 12 6) [16] (s1 := ⟨.bot :: I vn2 :: .pt 16 0 :: bt 9 [], [(16, .box [Ti f1.1, Ti f1.2.1, Ti f1.2.2])]⟩) ?_
  obtain ⟨y3, hy3, h⟩ := of_bind h
  obtain ⟨y4, hy4, h⟩ := of_bind h
  refine V_sdreg [0, 0, 3, 0, 0, 31, 63, 127] 8 (cdm 8 [648, 642, 645, 554, 170, 341, 1365, 5461]) (mb 12 48) [] (s1 := ⟨bt 4 (Bo y3 :: Bo y4 :: bt 6 []), []⟩) (by kernel_rfl) (by kernel_rfl) ?_ ?_
  ·refine DR 2 ?_
   refine DC 2 (s_impl_isLevelForm hy3) cf_impl_isLevelForm rfl rfl rfl rfl 8 rfl ?_
   refine DR 2 ?_
   refine DC 5 (s_impl_hasLevel hy4) cf_impl_hasLevel rfl rfl rfl rfl 11 rfl ?_
   refine DA 2 ?_
   exact XE
  refine V_ret ?_
  obtain rfl := some_inj h
  show Post _ _ _ _ _
  exact ⟨.inr rfl, rfl, rfl, rfl⟩
theorem cf_laws_FnLevelClasses : ∀ args w, (callFunc 6 args).run Try.prog w = .ok (.enter 6 args) w := run_callFunc Try.func6 (by kernel_rfl) (by kernel_rfl)
theorem s_laws_FnLevelClasses {code1 : List Int} {more2 : List Int} {r : Bool} (h : r_laws_FnLevelClasses code1 more2 = some r) : CallS Try.prog 6 [.c (.sl (code1.map c5)), .c (.sl (more2.map c5))] (Bo r) [] := by
  refine CallS_of_text (rs := [.t 4]) (vs := [.tmp 4]) Try.func6 rfl rfl (.cons rfl FitsL.nil) (by decide) 173 rfl ?_
  unfold r_laws_FnLevelClasses at h
  show V _ _ ⟨.c (.sl (code1.map c5)) :: .c (.sl (more2.map c5)) :: bt 171 [], []⟩ _
  refine V_e (mb 173 3) [] (s1 := ⟨.c (.sl (code1.map c5)) :: .c (.sl (more2.map c5)) :: bt 171 [], []⟩) ?_
  refine V_seq ?_
  obtain ⟨y3, hy3, h⟩ := of_bind h
  refine V_sreg (mb 173 268435459) [] (s1 := ⟨.c (.sl (code1.map c5)) :: .c (.sl (more2.map c5)) :: bt 26 (Bo y3 :: bt 144 []), []⟩) ?_ ?_
  ·refine XR 2 ?_
   refine XC (s_laws_big hy3) cf_laws_big rfl rfl rfl ?_
   exact XE
  refine V_cond rfl (fun hc4 => ?_) (fun hc4 => ?_)
  ·have h := of_true h hc4
   refine V_e (mb 173 16) [] (s1 := ⟨bt 4 (Bo true :: bt 168 []), []⟩) ?_
   refine V_ret ?_
   obtain rfl := some_inj h
   show Post _ _ _ _ _
   exact ⟨.inr rfl, rfl, rfl, rfl⟩
  ·have h := of_false h hc4
   refine V_skip ?_
   show V _ _ _ _
   obtain ⟨y5, hy5, h⟩ := of_bind h
   refine V_sreg (mb 173 98) [] (s1 := ⟨.bot :: .c (.sl (more2.map c5)) :: bt 3 (I y5.1 :: I y5.2 :: bt 166 []), []⟩) ?_ ?_
   ·refine XR 1 ?_
    refine XC (s_spec_DrawLevelClasses hy5) cf_spec_DrawLevelClasses rfl rfl rfl ?_
    exact XE
   obtain ⟨y6, hy6, h⟩ := of_bind h
   refine V_sreg (mb 173 482) [296] (s1 := ⟨.bot :: .c (.sl (more2.map c5)) :: bt 3 (I y5.1 :: I y5.2 :: .ow 296 :: Bo y6.2 :: bt 164 []), [(296, .arr 45 3 (y6.1.map c45))]⟩) ?_ ?_
   ·refine XR 2 ?_
    refine XC (s_impl_LevelClasses hy6) cf_impl_LevelClasses rfl rfl rfl ?_
    exact XE
   obtain ⟨y7, hy7, h⟩ := of_bind h
   refine V_sreg (mb 173 2018) [344, 296] (s1 := ⟨.bot :: .c (.sl (more2.map c5)) :: bt 3 (I y5.1 :: I y5.2 :: .ow 296 :: Bo y6.2 :: .ow 344 :: Bo y7.2 :: bt 162 []), [(344, .arr 45 3 (y7.1.map c45)), (296, .arr 45 3 (y6.1.map c45))]⟩) ?_ ?_
   ·refine XR 2 ?_
    refine XC (s_spec_LevelClasses hy7) cf_spec_LevelClasses rfl rfl rfl ?_
    exact XE
   refine V_seq ?_
   obtain ⟨b10, hb10, h⟩ := of_bind h
   refine V_sreg (mb 173 18014398509482466) [296] (s1 := ⟨.bot :: .c (.sl (more2.map c5)) :: bt 3 (I y5.1 :: I y5.2 :: .ow 296 :: Bo y6.2 :: bt 45 (Bo b10 :: bt 118 [])), [(296, .arr 45 3 (y6.1.map c45))]⟩) ?_ ?_
   ·refine XR 2 ?_
    refine L0 rfl rfl (Y0_neb (a := y6.2) (b := y7.2) Try.underlying4 rfl (by kernel_rfl) (by kernel_rfl)) ?_
    refine XR 1 ?_
    refine XL_split (y6.2 != y7.2) (fun hc8 => ?_) (fun hc8 => ?_)
    ·have hb10 := some_inj (of_true hb10 hc8)
     refine XL_skipF _ rfl rfl (by kernel_rfl) hc8 rfl ?_
     refine XL_skipF _ rfl rfl (by kernel_rfl) hc8 rfl ?_
     refine XL_skipF _ rfl rfl (by kernel_rfl) hc8 rfl ?_
     refine XL_skipF _ rfl rfl (by kernel_rfl) hc8 rfl ?_
     refine XL_cons rfl (X_of_Y0 rfl (Y0_pickTe (b := y6.2 != y7.2) (p := true) rfl (by kernel_rfl) hc8 (by kernel_rfl) hb10)) ?_
     exact XE
    ·have hb10 := of_false hb10 hc8
     obtain ⟨y9, hy9, hb10⟩ := of_bind hb10
     have hb10 := some_inj hb10
     refine XL_takeC _ rfl rfl (by kernel_rfl) hc8 (X_of_Y0 rfl (E_move (.ow 296) rfl (by kernel_rfl))) ?_
     refine XL_takeC _ rfl rfl (by kernel_rfl) hc8 (X_of_Y0 rfl (E_move (.ow 344) rfl (by kernel_rfl))) ?_
     refine XL_takeC _ rfl rfl (by kernel_rfl) hc8 (X_of_Y1 rfl (Y1_callS (s_laws_pSameForms hy9) cf_laws_pSameForms rfl (by kernel_rfl) rfl rfl)) ?_
     refine XL_takeC _ rfl rfl (by kernel_rfl) hc8 (X_of_Y0 rfl (Y0_not (b := y9) rfl (by kernel_rfl))) ?_
     refine XL_cons rfl (X_of_Y0 rfl (Y0_pickFe (b := y6.2 != y7.2) (p := !y9) rfl (by kernel_rfl) hc8 (by kernel_rfl) hb10)) ?_
     exact XE
   refine V_cond rfl (fun hc11 => ?_) (fun hc11 => ?_)
   ·have h := of_true h hc11
    refine V_e (mb 173 16) [] (s1 := ⟨bt 4 (Bo false :: bt 168 []), []⟩) ?_
    refine V_ret ?_
    obtain rfl := some_inj h
    show Post _ _ _ _ _
    exact ⟨.inr rfl, rfl, rfl, rfl⟩
   ·have h := of_false h hc11
    refine V_skip ?_
    show V _ _ _ _
    refine V_seq ?_
    refine V_e (mb 173 72057594037928162) [296] (s1 := ⟨.bot :: .c (.sl (more2.map c5)) :: bt 3 (I y5.1 :: I y5.2 :: .ow 296 :: bt 48 (Bo (!y6.2) :: bt 116 [])), [(296, .arr 45 3 (y6.1.map c45))]⟩) ?_
    refine V_cond rfl (fun hc12 => ?_) (fun hc12 => ?_)
    ·have h := of_true h hc12
     refine V_e (mb 173 16) [] (s1 := ⟨bt 4 (Bo true :: bt 168 []), []⟩) ?_
     refine V_ret ?_
     obtain rfl := some_inj h
     show Post _ _ _ _ _
     exact ⟨.inr rfl, rfl, rfl, rfl⟩
    ·have h := of_false h hc12
     refine V_skip ?_
     show V _ _ _ _
     obtain ⟨y13, hy13, h⟩ := of_bind h
     refine V_sreg (mb 173 6370) [296] (s1 := ⟨.bot :: .c (.sl (more2.map c5)) :: bt 3 (I y5.1 :: I y5.2 :: .ow 296 :: bt 3 (I y13.1 :: Bo y13.2 :: bt 160 [])), [(296, .arr 45 3 (y6.1.map c45))]⟩) ?_ ?_
     ·refine XR 1 ?_
      refine XC (s_impl_ClassNumber hy13) cf_impl_ClassNumber rfl rfl rfl ?_
      exact XE
     obtain ⟨y14, hy14, h⟩ := of_bind h
     refine V_sreg (mb 173 30946) [520, 296] (s1 := ⟨.bot :: .c (.sl (more2.map c5)) :: bt 3 (I y5.1 :: I y5.2 :: .ow 296 :: bt 3 (I y13.1 :: Bo y13.2 :: .ow 520 :: Bo y14.2 :: bt 158 [])), [(520, .arr 3 1 (y14.1.map c3)), (296, .arr 45 3 (y6.1.map c45))]⟩) ?_ ?_
     ·refine XR 2 ?_
      refine XC (s_impl_LevelRoots hy14) cf_impl_LevelRoots rfl rfl rfl ?_
      exact XE
     obtain ⟨y15, hy15, h⟩ := of_bind h
     refine V_sreg (mb 173 129218) [568, 520, 296] (s1 := ⟨.bot :: .c (.sl (more2.map c5)) :: bt 4 (I y5.2 :: .ow 296 :: bt 3 (I y13.1 :: Bo y13.2 :: .ow 520 :: Bo y14.2 :: .ow 568 :: Bo y15.2 :: bt 156 [])), [(568, .arr 3 1 (y15.1.map c3)), (520, .arr 3 1 (y14.1.map c3)), (296, .arr 45 3 (y6.1.map c45))]⟩) ?_ ?_
     ·refine XR 2 ?_
      refine XC (s_impl_RootsOfDiscriminant hy15) cf_impl_RootsOfDiscriminant rfl rfl rfl ?_
      exact XE
     refine V_seq ?_
     obtain ⟨b21, hb21, h⟩ := of_bind h
     refine V_sreg (mb 173 316912650057057350374175811778) [520, 296] (s1 := ⟨.bot :: .c (.sl (more2.map c5)) :: bt 4 (I y5.2 :: .ow 296 :: bt 3 (I y13.1 :: .bot :: .ow 520 :: bt 84 (Bo b21 :: bt 74 []))), [(520, .arr 3 1 (y14.1.map c3)), (296, .arr 45 3 (y6.1.map c45))]⟩) ?_ ?_
     ·refine XR 3 ?_
      refine XL_split (!y13.2) (fun hc16 => ?_) (fun hc16 => ?_)
      ·refine XL_skipF _ rfl rfl (by kernel_rfl) hc16 rfl ?_
       refine XL_skipF _ rfl rfl (by kernel_rfl) hc16 rfl ?_
       refine XL_cons rfl (X_of_Y0 rfl (Y0_pick1 (b := !y13.2) (p := true) (q := !y14.2) rfl (by kernel_rfl) hc16 (by kernel_rfl))) ?_
       refine XR 1 ?_
       refine XL_split (bif (!y13.2) then true else (!y14.2)) (fun hc17 => ?_) (fun hc17 => ?_)
       ·refine XL_skipF _ rfl rfl (by kernel_rfl) hc17 rfl ?_
        refine XL_skipF _ rfl rfl (by kernel_rfl) hc17 rfl ?_
        refine XL_cons rfl (X_of_Y0 rfl (Y0_pick1 (b := bif (!y13.2) then true else (!y14.2)) (p := true) (q := !y15.2) rfl (by kernel_rfl) hc17 (by kernel_rfl))) ?_
        refine XR 1 ?_
        refine XL_split (bif (bif (!y13.2) then true else (!y14.2)) then true else (!y15.2)) (fun hc18 => ?_) (fun hc18 => ?_)
        ·refine XL_skipF _ rfl rfl (by kernel_rfl) hc18 rfl ?_
         refine XL_skipF _ rfl rfl (by kernel_rfl) hc18 rfl ?_
         refine XL_skipF _ rfl rfl (by kernel_rfl) hc18 rfl ?_
         refine XL_skipF _ rfl rfl (by kernel_rfl) hc18 rfl ?_
         refine XL_skipF _ rfl rfl (by kernel_rfl) hc18 rfl ?_
         refine XL_skipF _ rfl rfl (by kernel_rfl) hc18 rfl ?_
         refine XL_skipF _ rfl rfl (by kernel_rfl) hc18 rfl ?_
         refine XL_cons rfl (X_of_Y0 rfl (Y0_pick1 (b := bif (bif (!y13.2) then true else (!y14.2)) then true else (!y15.2)) (p := true) (q := !eqI ((y6.1.length : Int)) (w64 (y13.1 * ((y14.1.length : Int))))) rfl (by kernel_rfl) hc18 (by kernel_rfl))) ?_
         refine XR 1 ?_
         refine XL_split (bif (bif (bif (!y13.2) then true else (!y14.2)) then true else (!y15.2)) then true else (!eqI ((y6.1.length : Int)) (w64 (y13.1 * ((y14.1.length : Int)))))) (fun hc19 => ?_) (fun hc19 => ?_)
         ·have hb21 := some_inj (of_true hb21 hc19)
          refine XL_skipF _ rfl rfl (by kernel_rfl) hc19 rfl ?_
          refine XL_skipF _ rfl rfl (by kernel_rfl) hc19 rfl ?_
          refine XL_skipF _ rfl rfl (by kernel_rfl) hc19 rfl ?_
          refine XL_skipF _ rfl rfl (by kernel_rfl) hc19 rfl ?_
          refine XL_cons rfl (X_of_Y0 rfl (Y0_pickTe (b := bif (bif (bif (!y13.2) then true else (!y14.2)) then true else (!y15.2)) then true else (!eqI ((y6.1.length : Int)) (w64 (y13.1 * ((y14.1.length : Int)))))) (p := true) rfl (by kernel_rfl) hc19 (by kernel_rfl) hb21)) ?_
          exact XE
         ·have hb21 := of_false hb21 hc19
          obtain ⟨y20, hy20, hb21⟩ := of_bind hb21
          have hb21 := some_inj hb21
          refine XL_takeC _ rfl rfl (by kernel_rfl) hc19 (X_of_Y0 rfl (E_move (.ow 520) rfl (by kernel_rfl))) ?_
          refine XL_takeC _ rfl rfl (by kernel_rfl) hc19 (X_of_Y0 rfl (E_move (.ow 568) rfl (by kernel_rfl))) ?_
          refine XL_takeC _ rfl rfl (by kernel_rfl) hc19 (X_of_Y1 rfl (Y1_callS (s_laws_sameInts hy20) cf_laws_sameInts rfl (by kernel_rfl) rfl rfl)) ?_
          refine XL_takeC _ rfl rfl (by kernel_rfl) hc19 (X_of_Y0 rfl (Y0_not (b := y20) rfl (by kernel_rfl))) ?_
          refine XL_cons rfl (X_of_Y0 rfl (Y0_pickFe (b := bif (bif (bif (!y13.2) then true else (!y14.2)) then true else (!y15.2)) then true else (!eqI ((y6.1.length : Int)) (w64 (y13.1 * ((y14.1.length : Int)))))) (p := !y20) rfl (by kernel_rfl) hc19 (by kernel_rfl) hb21)) ?_
          exact XE
        ·refine XL_takeC _ rfl rfl (by kernel_rfl) hc18 (X_of_Y0 rfl (E_move (.ow 296) rfl (by kernel_rfl))) ?_
         refine XL_takeC _ rfl rfl (by kernel_rfl) hc18 (X_of_Y0 rfl (Y0_lenM (c := c45) (xs := y6.1) Try.underlying62 rfl (by kernel_rfl))) ?_
         refine XL_takeC _ rfl rfl (by kernel_rfl) hc18 (X_of_Y0 rfl (E_move (I y13.1) rfl (by kernel_rfl))) ?_
         refine XL_takeC _ rfl rfl (by kernel_rfl) hc18 (X_of_Y0 rfl (E_move (.ow 520) rfl (by kernel_rfl))) ?_
         refine XL_takeC _ rfl rfl (by kernel_rfl) hc18 (X_of_Y0 rfl (Y0_lenM (c := c3) (xs := y14.1) Try.underlying41 rfl (by kernel_rfl))) ?_
         refine XL_takeC _ rfl rfl (by kernel_rfl) hc18 (X_of_Y0 rfl (Y0_mul64 (a := y13.1) (b := (y14.1.length : Int)) rfl (by kernel_rfl) (by kernel_rfl))) ?_
         refine XL_takeC _ rfl rfl (by kernel_rfl) hc18 (X_of_Y0 rfl (Y0_new (k := .i64) (a := (y6.1.length : Int)) (b := w64 (y13.1 * ((y14.1.length : Int)))) rfl (by kernel_rfl) (by kernel_rfl))) ?_
         refine XL_cons rfl (X_of_Y0 rfl (Y0_pick0 (b := bif (bif (!y13.2) then true else (!y14.2)) then true else (!y15.2)) (p := true) (q := !eqI ((y6.1.length : Int)) (w64 (y13.1 * ((y14.1.length : Int))))) rfl (by kernel_rfl) hc18 (by kernel_rfl))) ?_
         refine XR 1 ?_
         refine XL_split (bif (bif (bif (!y13.2) then true else (!y14.2)) then true else (!y15.2)) then true else (!eqI ((y6.1.length : Int)) (w64 (y13.1 * ((y14.1.length : Int)))))) (fun hc19 => ?_) (fun hc19 => ?_)
         ·have hb21 := some_inj (of_true hb21 hc19)
          refine XL_skipF _ rfl rfl (by kernel_rfl) hc19 rfl ?_
          refine XL_skipF _ rfl rfl (by kernel_rfl) hc19 rfl ?_
          refine XL_skipF _ rfl rfl (by kernel_rfl) hc19 rfl ?_
          refine XL_skipF _ rfl rfl (by kernel_rfl) hc19 rfl ?_
          refine XL_cons rfl (X_of_Y0 rfl (Y0_pickTe (b := bif (bif (bif (!y13.2) then true else (!y14.2)) then true else (!y15.2)) then true else (!eqI ((y6.1.length : Int)) (w64 (y13.1 * ((y14.1.length : Int)))))) (p := true) rfl (by kernel_rfl) hc19 (by kernel_rfl) hb21)) ?_
          exact XE
         ·have hb21 := of_false hb21 hc19
          obtain ⟨y20, hy20, hb21⟩ := of_bind hb21
          have hb21 := some_inj hb21
          refine XL_takeC _ rfl rfl (by kernel_rfl) hc19 (X_of_Y0 rfl (E_move (.ow 520) rfl (by kernel_rfl))) ?_
          refine XL_takeC _ rfl rfl (by kernel_rfl) hc19 (X_of_Y0 rfl (E_move (.ow 568) rfl (by kernel_rfl))) ?_
          refine XL_takeC _ rfl rfl (by kernel_rfl) hc19 (X_of_Y1 rfl (Y1_callS (s_laws_sameInts hy20) cf_laws_sameInts rfl (by kernel_rfl) rfl rfl)) ?_
          refine XL_takeC _ rfl rfl (by kernel_rfl) hc19 (X_of_Y0 rfl (Y0_not (b := y20) rfl (by kernel_rfl))) ?_
          refine XL_cons rfl (X_of_Y0 rfl (Y0_pickFe (b := bif (bif (bif (!y13.2) then true else (!y14.2)) then true else (!y15.2)) then true else (!eqI ((y6.1.length : Int)) (w64 (y13.1 * ((y14.1.length : Int)))))) (p := !y20) rfl (by kernel_rfl) hc19 (by kernel_rfl) hb21)) ?_
          exact XE
       ·refine XL_takeC _ rfl rfl (by kernel_rfl) hc17 (X_of_Y0 rfl (E_move (Bo y15.2) rfl (by kernel_rfl))) ?_
        refine XL_takeC _ rfl rfl (by kernel_rfl) hc17 (X_of_Y0 rfl (Y0_not (b := y15.2) rfl (by kernel_rfl))) ?_
        refine XL_cons rfl (X_of_Y0 rfl (Y0_pick0 (b := bif (!y13.2) then true else (!y14.2)) (p := true) (q := !y15.2) rfl (by kernel_rfl) hc17 (by kernel_rfl))) ?_
        refine XR 1 ?_
        refine XL_split (bif (bif (!y13.2) then true else (!y14.2)) then true else (!y15.2)) (fun hc18 => ?_) (fun hc18 => ?_)
        ·refine XL_skipF _ rfl rfl (by kernel_rfl) hc18 rfl ?_
         refine XL_skipF _ rfl rfl (by kernel_rfl) hc18 rfl ?_
         refine XL_skipF _ rfl rfl (by kernel_rfl) hc18 rfl ?_
         refine XL_skipF _ rfl rfl (by kernel_rfl) hc18 rfl ?_
         refine XL_skipF _ rfl rfl (by kernel_rfl) hc18 rfl ?_
         refine XL_skipF _ rfl rfl (by kernel_rfl) hc18 rfl ?_
         refine XL_skipF _ rfl rfl (by kernel_rfl) hc18 rfl ?_
         refine XL_cons rfl (X_of_Y0 rfl (Y0_pick1 (b := bif (bif (!y13.2) then true else (!y14.2)) then true else (!y15.2)) (p := true) (q := !eqI ((y6.1.length : Int)) (w64 (y13.1 * ((y14.1.length : Int))))) rfl (by kernel_rfl) hc18 (by kernel_rfl))) ?_
         refine XR 1 ?_
         refine XL_split (bif (bif (bif (!y13.2) then true else (!y14.2)) then true else (!y15.2)) then true else (!eqI ((y6.1.length : Int)) (w64 (y13.1 * ((y14.1.length : Int)))))) (fun hc19 => ?_) (fun hc19 => ?_)
         ·have hb21 := some_inj (of_true hb21 hc19)
          refine XL_skipF _ rfl rfl (by kernel_rfl) hc19 rfl ?_
          refine XL_skipF _ rfl rfl (by kernel_rfl) hc19 rfl ?_
          refine XL_skipF _ rfl rfl (by kernel_rfl) hc19 rfl ?_
          refine XL_skipF _ rfl rfl (by kernel_rfl) hc19 rfl ?_
          refine XL_cons rfl (X_of_Y0 rfl (Y0_pickTe (b := bif (bif (bif (!y13.2) then true else (!y14.2)) then true else (!y15.2)) then true else (!eqI ((y6.1.length : Int)) (w64 (y13.1 * ((y14.1.length : Int)))))) (p := true) rfl (by kernel_rfl) hc19 (by kernel_rfl) hb21)) ?_
          exact XE
         ·have hb21 := of_false hb21 hc19
          obtain ⟨y20, hy20, hb21⟩ := of_bind hb21
          have hb21 := some_inj hb21
          refine XL_takeC _ rfl rfl (by kernel_rfl) hc19 (X_of_Y0 rfl (E_move (.ow 520) rfl (by kernel_rfl))) ?_
          refine XL_takeC _ rfl rfl (by kernel_rfl) hc19 (X_of_Y0 rfl (E_move (.ow 568) rfl (by kernel_rfl))) ?_
          refine XL_takeC _ rfl rfl (by kernel_rfl) hc19 (X_of_Y1 rfl (Y1_callS (s_laws_sameInts hy20) cf_laws_sameInts rfl (by kernel_rfl) rfl rfl)) ?_
          refine XL_takeC _ rfl rfl (by kernel_rfl) hc19 (X_of_Y0 rfl (Y0_not (b := y20) rfl (by kernel_rfl))) ?_
          refine XL_cons rfl (X_of_Y0 rfl (Y0_pickFe (b := bif (bif (bif (!y13.2) then true else (!y14.2)) then true else (!y15.2)) then true else (!eqI ((y6.1.length : Int)) (w64 (y13.1 * ((y14.1.length : Int)))))) (p := !y20) rfl (by kernel_rfl) hc19 (by kernel_rfl) hb21)) ?_
          exact XE
        ·refine XL_takeC _ rfl rfl (by kernel_rfl) hc18 (X_of_Y0 rfl (E_move (.ow 296) rfl (by kernel_rfl))) ?_
         refine XL_takeC _ rfl rfl (by kernel_rfl) hc18 (X_of_Y0 rfl (Y0_lenM (c := c45) (xs := y6.1) Try.underlying62 rfl (by kernel_rfl))) ?_
         refine XL_takeC _ rfl rfl (by kernel_rfl) hc18 (X_of_Y0 rfl (E_move (I y13.1) rfl (by kernel_rfl))) ?_
         refine XL_takeC _ rfl rfl (by kernel_rfl) hc18 (X_of_Y0 rfl (E_move (.ow 520) rfl (by kernel_rfl))) ?_
         refine XL_takeC _ rfl rfl (by kernel_rfl) hc18 (X_of_Y0 rfl (Y0_lenM (c := c3) (xs := y14.1) Try.underlying41 rfl (by kernel_rfl))) ?_
         refine XL_takeC _ rfl rfl (by kernel_rfl) hc18 (X_of_Y0 rfl (Y0_mul64 (a := y13.1) (b := (y14.1.length : Int)) rfl (by kernel_rfl) (by kernel_rfl))) ?_
         refine XL_takeC _ rfl rfl (by kernel_rfl) hc18 (X_of_Y0 rfl (Y0_new (k := .i64) (a := (y6.1.length : Int)) (b := w64 (y13.1 * ((y14.1.length : Int)))) rfl (by kernel_rfl) (by kernel_rfl))) ?_
         refine XL_cons rfl (X_of_Y0 rfl (Y0_pick0 (b := bif (bif (!y13.2) then true else (!y14.2)) then true else (!y15.2)) (p := true) (q := !eqI ((y6.1.length : Int)) (w64 (y13.1 * ((y14.1.length : Int))))) rfl (by kernel_rfl) hc18 (by kernel_rfl))) ?_
         refine XR 1 ?_
         refine XL_split (bif (bif (bif (!y13.2) then true else (!y14.2)) then true else (!y15.2)) then true else (!eqI ((y6.1.length : Int)) (w64 (y13.1 * ((y14.1.length : Int)))))) (fun hc19 => ?_) (fun hc19 => ?_)
         ·have hb21 := some_inj (of_true hb21 hc19)
          refine XL_skipF _ rfl rfl (by kernel_rfl) hc19 rfl ?_
          refine XL_skipF _ rfl rfl (by kernel_rfl) hc19 rfl ?_
          refine XL_skipF _ rfl rfl (by kernel_rfl) hc19 rfl ?_
          refine XL_skipF _ rfl rfl (by kernel_rfl) hc19 rfl ?_
          refine XL_cons rfl (X_of_Y0 rfl (Y0_pickTe (b := bif (bif (bif (!y13.2) then true else (!y14.2)) then true else (!y15.2)) then true else (!eqI ((y6.1.length : Int)) (w64 (y13.1 * ((y14.1.length : Int)))))) (p := true) rfl (by kernel_rfl) hc19 (by kernel_rfl) hb21)) ?_
          exact XE
         ·have hb21 := of_false hb21 hc19
          obtain ⟨y20, hy20, hb21⟩ := of_bind hb21
          have hb21 := some_inj hb21
          refine XL_takeC _ rfl rfl (by kernel_rfl) hc19 (X_of_Y0 rfl (E_move (.ow 520) rfl (by kernel_rfl))) ?_
          refine XL_takeC _ rfl rfl (by kernel_rfl) hc19 (X_of_Y0 rfl (E_move (.ow 568) rfl (by kernel_rfl))) ?_
          refine XL_takeC _ rfl rfl (by kernel_rfl) hc19 (X_of_Y1 rfl (Y1_callS (s_laws_sameInts hy20) cf_laws_sameInts rfl (by kernel_rfl) rfl rfl)) ?_
          refine XL_takeC _ rfl rfl (by kernel_rfl) hc19 (X_of_Y0 rfl (Y0_not (b := y20) rfl (by kernel_rfl))) ?_
          refine XL_cons rfl (X_of_Y0 rfl (Y0_pickFe (b := bif (bif (bif (!y13.2) then true else (!y14.2)) then true else (!y15.2)) then true else (!eqI ((y6.1.length : Int)) (w64 (y13.1 * ((y14.1.length : Int)))))) (p := !y20) rfl (by kernel_rfl) hc19 (by kernel_rfl) hb21)) ?_
          exact XE
      ·refine XL_takeC _ rfl rfl (by kernel_rfl) hc16 (X_of_Y0 rfl (E_move (Bo y14.2) rfl (by kernel_rfl))) ?_
       refine XL_takeC _ rfl rfl (by kernel_rfl) hc16 (X_of_Y0 rfl (Y0_not (b := y14.2) rfl (by kernel_rfl))) ?_
       refine XL_cons rfl (X_of_Y0 rfl (Y0_pick0 (b := !y13.2) (p := true) (q := !y14.2) rfl (by kernel_rfl) hc16 (by kernel_rfl))) ?_
       refine XR 1 ?_
       refine XL_split (bif (!y13.2) then true else (!y14.2)) (fun hc17 => ?_) (fun hc17 => ?_)
       ·refine XL_skipF _ rfl rfl (by kernel_rfl) hc17 rfl ?_
        refine XL_skipF _ rfl rfl (by kernel_rfl) hc17 rfl ?_
        refine XL_cons rfl (X_of_Y0 rfl (Y0_pick1 (b := bif (!y13.2) then true else (!y14.2)) (p := true) (q := !y15.2) rfl (by kernel_rfl) hc17 (by kernel_rfl))) ?_
        refine XR 1 ?_
        refine XL_split (bif (bif (!y13.2) then true else (!y14.2)) then true else (!y15.2)) (fun hc18 => ?_) (fun hc18 => ?_)
        ·refine XL_skipF _ rfl rfl (by kernel_rfl) hc18 rfl ?_
         refine XL_skipF _ rfl rfl (by kernel_rfl) hc18 rfl ?_
         refine XL_skipF _ rfl rfl (by kernel_rfl) hc18 rfl ?_
         refine XL_skipF _ rfl rfl (by kernel_rfl) hc18 rfl ?_
         refine XL_skipF _ rfl rfl (by kernel_rfl) hc18 rfl ?_
         refine XL_skipF _ rfl rfl (by kernel_rfl) hc18 rfl ?_
         refine XL_skipF _ rfl rfl (by kernel_rfl) hc18 rfl ?_
         refine XL_cons rfl (X_of_Y0 rfl (Y0_pick1 (b := bif (bif (!y13.2) then true else (!y14.2)) then true else (!y15.2)) (p := true) (q := !eqI ((y6.1.length : Int)) (w64 (y13.1 * ((y14.1.length : Int))))) rfl (by kernel_rfl) hc18 (by kernel_rfl))) ?_
         refine XR 1 ?_
         refine XL_split (bif (bif (bif (!y13.2) then true else (!y14.2)) then true else (!y15.2)) then true else (!eqI ((y6.1.length : Int)) (w64 (y13.1 * ((y14.1.length : Int)))))) (fun hc19 => ?_) (fun hc19 => ?_)
         ·have hb21 := some_inj (of_true hb21 hc19)
          refine XL_skipF _ rfl rfl (by kernel_rfl) hc19 rfl ?_
          refine XL_skipF _ rfl rfl (by kernel_rfl) hc19 rfl ?_
          refine XL_skipF _ rfl rfl (by kernel_rfl) hc19 rfl ?_
          refine XL_skipF _ rfl rfl (by kernel_rfl) hc19 rfl ?_
          refine XL_cons rfl (X_of_Y0 rfl (Y0_pickTe (b := bif (bif (bif (!y13.2) then true else (!y14.2)) then true else (!y15.2)) then true else (!eqI ((y6.1.length : Int)) (w64 (y13.1 * ((y14.1.length : Int)))))) (p := true) rfl (by kernel_rfl) hc19 (by kernel_rfl) hb21)) ?_
          exact XE
         ·have hb21 := of_false hb21 hc19
          obtain ⟨y20, hy20, hb21⟩ := of_bind hb21
          have hb21 := some_inj hb21
          refine XL_takeC _ rfl rfl (by kernel_rfl) hc19 (X_of_Y0 rfl (E_move (.ow 520) rfl (by kernel_rfl))) ?_
          refine XL_takeC _ rfl rfl (by kernel_rfl) hc19 (X_of_Y0 rfl (E_move (.ow 568) rfl (by kernel_rfl))) ?_
          refine XL_takeC _ rfl rfl (by kernel_rfl) hc19 (X_of_Y1 rfl (Y1_callS (s_laws_sameInts hy20) cf_laws_sameInts rfl (by kernel_rfl) rfl rfl)) ?_
          refine XL_takeC _ rfl rfl (by kernel_rfl) hc19 (X_of_Y0 rfl (Y0_not (b := y20) rfl (by kernel_rfl))) ?_
          refine XL_cons rfl (X_of_Y0 rfl (Y0_pickFe (b := bif (bif (bif (!y13.2) then true else (!y14.2)) then true else (!y15.2)) then true else (!eqI ((y6.1.length : Int)) (w64 (y13.1 * ((y14.1.length : Int)))))) (p := !y20) rfl (by kernel_rfl) hc19 (by kernel_rfl) hb21)) ?_
          exact XE
        ·refine XL_takeC _ rfl rfl (by kernel_rfl) hc18 (X_of_Y0 rfl (E_move (.ow 296) rfl (by kernel_rfl))) ?_
         refine XL_takeC _ rfl rfl (by kernel_rfl) hc18 (X_of_Y0 rfl (Y0_lenM (c := c45) (xs := y6.1) Try.underlying62 rfl (by kernel_rfl))) ?_
         refine XL_takeC _ rfl rfl (by kernel_rfl) hc18 (X_of_Y0 rfl (E_move (I y13.1) rfl (by kernel_rfl))) ?_
         refine XL_takeC _ rfl rfl (by kernel_rfl) hc18 (X_of_Y0 rfl (E_move (.ow 520) rfl (by kernel_rfl))) ?_
         refine XL_takeC _ rfl rfl (by kernel_rfl) hc18 (X_of_Y0 rfl (Y0_lenM (c := c3) (xs := y14.1) Try.underlying41 rfl (by kernel_rfl))) ?_
         refine XL_takeC _ rfl rfl (by kernel_rfl) hc18 (X_of_Y0 rfl (Y0_mul64 (a := y13.1) (b := (y14.1.length : Int)) rfl (by kernel_rfl) (by kernel_rfl))) ?_
         refine XL_takeC _ rfl rfl (by kernel_rfl) hc18 (X_of_Y0 rfl (Y0_new (k := .i64) (a := (y6.1.length : Int)) (b := w64 (y13.1 * ((y14.1.length : Int)))) rfl (by kernel_rfl) (by kernel_rfl))) ?_
         refine XL_cons rfl (X_of_Y0 rfl (Y0_pick0 (b := bif (bif (!y13.2) then true else (!y14.2)) then true else (!y15.2)) (p := true) (q := !eqI ((y6.1.length : Int)) (w64 (y13.1 * ((y14.1.length : Int))))) rfl (by kernel_rfl) hc18 (by kernel_rfl))) ?_
         refine XR 1 ?_
         refine XL_split (bif (bif (bif (!y13.2) then true else (!y14.2)) then true else (!y15.2)) then true else (!eqI ((y6.1.length : Int)) (w64 (y13.1 * ((y14.1.length : Int)))))) (fun hc19 => ?_) (fun hc19 => ?_)
         ·have hb21 := some_inj (of_true hb21 hc19)
          refine XL_skipF _ rfl rfl (by kernel_rfl) hc19 rfl ?_
          refine XL_skipF _ rfl rfl (by kernel_rfl) hc19 rfl ?_
          refine XL_skipF _ rfl rfl (by kernel_rfl) hc19 rfl ?_
          refine XL_skipF _ rfl rfl (by kernel_rfl) hc19 rfl ?_
          refine XL_cons rfl (X_of_Y0 rfl (Y0_pickTe (b := bif (bif (bif (!y13.2) then true else (!y14.2)) then true else (!y15.2)) then true else (!eqI ((y6.1.length : Int)) (w64 (y13.1 * ((y14.1.length : Int)))))) (p := true) rfl (by kernel_rfl) hc19 (by kernel_rfl) hb21)) ?_
          exact XE
         ·have hb21 := of_false hb21 hc19
          obtain ⟨y20, hy20, hb21⟩ := of_bind hb21
          have hb21 := some_inj hb21
          refine XL_takeC _ rfl rfl (by kernel_rfl) hc19 (X_of_Y0 rfl (E_move (.ow 520) rfl (by kernel_rfl))) ?_
          refine XL_takeC _ rfl rfl (by kernel_rfl) hc19 (X_of_Y0 rfl (E_move (.ow 568) rfl (by kernel_rfl))) ?_
          refine XL_takeC _ rfl rfl (by kernel_rfl) hc19 (X_of_Y1 rfl (Y1_callS (s_laws_sameInts hy20) cf_laws_sameInts rfl (by kernel_rfl) rfl rfl)) ?_
          refine XL_takeC _ rfl rfl (by kernel_rfl) hc19 (X_of_Y0 rfl (Y0_not (b := y20) rfl (by kernel_rfl))) ?_
          refine XL_cons rfl (X_of_Y0 rfl (Y0_pickFe (b := bif (bif (bif (!y13.2) then true else (!y14.2)) then true else (!y15.2)) then true else (!eqI ((y6.1.length : Int)) (w64 (y13.1 * ((y14.1.length : Int)))))) (p := !y20) rfl (by kernel_rfl) hc19 (by kernel_rfl) hb21)) ?_
          exact XE
       ·refine XL_takeC _ rfl rfl (by kernel_rfl) hc17 (X_of_Y0 rfl (E_move (Bo y15.2) rfl (by kernel_rfl))) ?_
        refine XL_takeC _ rfl rfl (by kernel_rfl) hc17 (X_of_Y0 rfl (Y0_not (b := y15.2) rfl (by kernel_rfl))) ?_
        refine XL_cons rfl (X_of_Y0 rfl (Y0_pick0 (b := bif (!y13.2) then true else (!y14.2)) (p := true) (q := !y15.2) rfl (by kernel_rfl) hc17 (by kernel_rfl))) ?_
        refine XR 1 ?_
        refine XL_split (bif (bif (!y13.2) then true else (!y14.2)) then true else (!y15.2)) (fun hc18 => ?_) (fun hc18 => ?_)
        ·refine XL_skipF _ rfl rfl (by kernel_rfl) hc18 rfl ?_
         refine XL_skipF _ rfl rfl (by kernel_rfl) hc18 rfl ?_
         refine XL_skipF _ rfl rfl (by kernel_rfl) hc18 rfl ?_
         refine XL_skipF _ rfl rfl (by kernel_rfl) hc18 rfl ?_
         refine XL_skipF _ rfl rfl (by kernel_rfl) hc18 rfl ?_
         refine XL_skipF _ rfl rfl (by kernel_rfl) hc18 rfl ?_
         refine XL_skipF _ rfl rfl (by kernel_rfl) hc18 rfl ?_
         refine XL_cons rfl (X_of_Y0 rfl (Y0_pick1 (b := bif (bif (!y13.2) then true else (!y14.2)) then true else (!y15.2)) (p := true) (q := !eqI ((y6.1.length : Int)) (w64 (y13.1 * ((y14.1.length : Int))))) rfl (by kernel_rfl) hc18 (by kernel_rfl))) ?_
         refine XR 1 ?_
         refine XL_split (bif (bif (bif (!y13.2) then true else (!y14.2)) then true else (!y15.2)) then true else (!eqI ((y6.1.length : Int)) (w64 (y13.1 * ((y14.1.length : Int)))))) (fun hc19 => ?_) (fun hc19 => ?_)
         ·have hb21 := some_inj (of_true hb21 hc19)
          refine XL_skipF _ rfl rfl (by kernel_rfl) hc19 rfl ?_
          refine XL_skipF _ rfl rfl (by kernel_rfl) hc19 rfl ?_
          refine XL_skipF _ rfl rfl (by kernel_rfl) hc19 rfl ?_
          refine XL_skipF _ rfl rfl (by kernel_rfl) hc19 rfl ?_
          refine XL_cons rfl (X_of_Y0 rfl (Y0_pickTe (b := bif (bif (bif (!y13.2) then true else (!y14.2)) then true else (!y15.2)) then true else (!eqI ((y6.1.length : Int)) (w64 (y13.1 * ((y14.1.length : Int)))))) (p := true) rfl (by kernel_rfl) hc19 (by kernel_rfl) hb21)) ?_
          exact XE
         ·have hb21 := of_false hb21 hc19
          obtain ⟨y20, hy20, hb21⟩ := of_bind hb21
          have hb21 := some_inj hb21
          refine XL_takeC _ rfl rfl (by kernel_rfl) hc19 (X_of_Y0 rfl (E_move (.ow 520) rfl (by kernel_rfl))) ?_
          refine XL_takeC _ rfl rfl (by kernel_rfl) hc19 (X_of_Y0 rfl (E_move (.ow 568) rfl (by kernel_rfl))) ?_
          refine XL_takeC _ rfl rfl (by kernel_rfl) hc19 (X_of_Y1 rfl (Y1_callS (s_laws_sameInts hy20) cf_laws_sameInts rfl (by kernel_rfl) rfl rfl)) ?_
          refine XL_takeC _ rfl rfl (by kernel_rfl) hc19 (X_of_Y0 rfl (Y0_not (b := y20) rfl (by kernel_rfl))) ?_
          refine XL_cons rfl (X_of_Y0 rfl (Y0_pickFe (b := bif (bif (bif (!y13.2) then true else (!y14.2)) then true else (!y15.2)) then true else (!eqI ((y6.1.length : Int)) (w64 (y13.1 * ((y14.1.length : Int)))))) (p := !y20) rfl (by kernel_rfl) hc19 (by kernel_rfl) hb21)) ?_
          exact XE
        ·refine XL_takeC _ rfl rfl (by kernel_rfl) hc18 (X_of_Y0 rfl (E_move (.ow 296) rfl (by kernel_rfl))) ?_
         refine XL_takeC _ rfl rfl (by kernel_rfl) hc18 (X_of_Y0 rfl (Y0_lenM (c := c45) (xs := y6.1) Try.underlying62 rfl (by kernel_rfl))) ?_
         refine XL_takeC _ rfl rfl (by kernel_rfl) hc18 (X_of_Y0 rfl (E_move (I y13.1) rfl (by kernel_rfl))) ?_
         refine XL_takeC _ rfl rfl (by kernel_rfl) hc18 (X_of_Y0 rfl (E_move (.ow 520) rfl (by kernel_rfl))) ?_
         refine XL_takeC _ rfl rfl (by kernel_rfl) hc18 (X_of_Y0 rfl (Y0_lenM (c := c3) (xs := y14.1) Try.underlying41 rfl (by kernel_rfl))) ?_
         refine XL_takeC _ rfl rfl (by kernel_rfl) hc18 (X_of_Y0 rfl (Y0_mul64 (a := y13.1) (b := (y14.1.length : Int)) rfl (by kernel_rfl) (by kernel_rfl))) ?_
         refine XL_takeC _ rfl rfl (by kernel_rfl) hc18 (X_of_Y0 rfl (Y0_new (k := .i64) (a := (y6.1.length : Int)) (b := w64 (y13.1 * ((y14.1.length : Int)))) rfl (by kernel_rfl) (by kernel_rfl))) ?_
         refine XL_cons rfl (X_of_Y0 rfl (Y0_pick0 (b := bif (bif (!y13.2) then true else (!y14.2)) then true else (!y15.2)) (p := true) (q := !eqI ((y6.1.length : Int)) (w64 (y13.1 * ((y14.1.length : Int))))) rfl (by kernel_rfl) hc18 (by kernel_rfl))) ?_
         refine XR 1 ?_
         refine XL_split (bif (bif (bif (!y13.2) then true else (!y14.2)) then true else (!y15.2)) then true else (!eqI ((y6.1.length : Int)) (w64 (y13.1 * ((y14.1.length : Int)))))) (fun hc19 => ?_) (fun hc19 => ?_)
         ·have hb21 := some_inj (of_true hb21 hc19)
          refine XL_skipF _ rfl rfl (by kernel_rfl) hc19 rfl ?_
          refine XL_skipF _ rfl rfl (by kernel_rfl) hc19 rfl ?_
          refine XL_skipF _ rfl rfl (by kernel_rfl) hc19 rfl ?_
          refine XL_skipF _ rfl rfl (by kernel_rfl) hc19 rfl ?_
          refine XL_cons rfl (X_of_Y0 rfl (Y0_pickTe (b := bif (bif (bif (!y13.2) then true else (!y14.2)) then true else (!y15.2)) then true else (!eqI ((y6.1.length : Int)) (w64 (y13.1 * ((y14.1.length : Int)))))) (p := true) rfl (by kernel_rfl) hc19 (by kernel_rfl) hb21)) ?_
          exact XE
         ·have hb21 := of_false hb21 hc19
          obtain ⟨y20, hy20, hb21⟩ := of_bind hb21
          have hb21 := some_inj hb21
          refine XL_takeC _ rfl rfl (by kernel_rfl) hc19 (X_of_Y0 rfl (E_move (.ow 520) rfl (by kernel_rfl))) ?_
          refine XL_takeC _ rfl rfl (by kernel_rfl) hc19 (X_of_Y0 rfl (E_move (.ow 568) rfl (by kernel_rfl))) ?_
          refine XL_takeC _ rfl rfl (by kernel_rfl) hc19 (X_of_Y1 rfl (Y1_callS (s_laws_sameInts hy20) cf_laws_sameInts rfl (by kernel_rfl) rfl rfl)) ?_
          refine XL_takeC _ rfl rfl (by kernel_rfl) hc19 (X_of_Y0 rfl (Y0_not (b := y20) rfl (by kernel_rfl))) ?_
          refine XL_cons rfl (X_of_Y0 rfl (Y0_pickFe (b := bif (bif (bif (!y13.2) then true else (!y14.2)) then true else (!y15.2)) then true else (!eqI ((y6.1.length : Int)) (w64 (y13.1 * ((y14.1.length : Int)))))) (p := !y20) rfl (by kernel_rfl) hc19 (by kernel_rfl) hb21)) ?_
          exact XE
     refine V_cond rfl (fun hc22 => ?_) (fun hc22 => ?_)
     ·have h := of_true h hc22
      refine V_e (mb 173 16) [] (s1 := ⟨bt 4 (Bo false :: bt 168 []), []⟩) ?_
      refine V_ret ?_
      obtain rfl := some_inj h
      show Post _ _ _ _ _
      exact ⟨.inr rfl, rfl, rfl, rfl⟩
     ·have h := of_false h hc22
      refine V_skip ?_
      show V _ _ _ _
      refine V_seq ?_
      refine V_sreg (mb 173 2535301200456458802993406421186) [520, 296] (s1 := ⟨.bot :: .c (.sl (more2.map c5)) :: bt 4 (I y5.2 :: .ow 296 :: bt 3 (I y13.1 :: .bot :: .ow 520 :: bt 87 (Bo (eqI ((y6.1.length : Int)) 0) :: bt 71 []))), [(520, .arr 3 1 (y14.1.map c3)), (296, .arr 45 3 (y6.1.map c45))]⟩) ?_ ?_
      ·refine XR 1 ?_
       refine L0 rfl rfl (Y0_lenM (c := c45) (xs := y6.1) Try.underlying62 rfl (by kernel_rfl)) ?_
       exact XE
      refine V_cond rfl (fun hc23 => ?_) (fun hc23 => ?_)
      ·have h := of_true h hc23
       refine V_e (mb 173 16) [] (s1 := ⟨bt 4 (Bo true :: bt 168 []), []⟩) ?_
       refine V_ret ?_
       obtain rfl := some_inj h
       show Post _ _ _ _ _
       exact ⟨.inr rfl, rfl, rfl, rfl⟩
      ·have h := of_false h hc23
       refine V_skip ?_
       show V _ _ _ _
       obtain ⟨y24, hy24, h⟩ := of_bind h
       refine V_sreg (mb 173 141504) [520, 296] (s1 := ⟨bt 6 (I y5.2 :: .ow 296 :: bt 3 (I y13.1 :: .bot :: .ow 520 :: bt 3 (I y24 :: bt 155 []))), [(520, .arr 3 1 (y14.1.map c3)), (296, .arr 45 3 (y6.1.map c45))]⟩) ?_ ?_
       ·refine XR 1 ?_
        refine XC (s_laws_numberOf hy24) cf_laws_numberOf rfl rfl rfl ?_
        exact XE
       obtain ⟨z25, hz25, h⟩ := of_bind h
       obtain ⟨z26, hz26, h⟩ := of_bind h
       obtain ⟨z27, hz27, h⟩ := of_bind h
       obtain ⟨i28, hi28, h⟩ := of_sI h
       obtain ⟨j29, hj29, h⟩ := of_sI h
       refine V_sdreg [0, 0, 2, 7, 0, 0, 32, 112, 0, 256, 1008, 15, 4095] 13 (cdm 13 [2796072, 2796034, 2796038, 2796053, 9054378, 9044650, 9045674, 9049514, 8432298, 8497834, 8738218, 2796117, 5592405]) (mb 173 796864) [520, 296] (s1 := ⟨bt 6 (I y5.2 :: .ow 296 :: bt 3 (I y13.1 :: .bot :: .ow 520 :: bt 4 (I i28 :: I j29 :: bt 153 []))), [(520, .arr 3 1 (y14.1.map c3)), (296, .arr 45 3 (y6.1.map c45))]⟩) (by kernel_rfl) (by kernel_rfl) ?_ ?_
       ·refine DR 2 ?_
        refine DE_0 2 (I ((y6.1.length : Int))) (by kernel_rfl) rfl rfl rfl (gsat_none rfl) (by kernel_rfl) (Y0_lenM (c := c45) (xs := y6.1) Try.underlying62 rfl (by kernel_rfl)) 106 rfl ?_
        refine DE_0 3 (I (Int.tmod y24 ((y6.1.length : Int)))) (by kernel_rfl) rfl rfl rfl (gsat_none rfl) (by kernel_rfl) (Y0_rem (k := .i64) (a := y24) (b := (y6.1.length : Int)) rfl (by kernel_rfl) (by kernel_rfl) (nz_some hz25)) 107 rfl ?_
        refine DR 2 ?_
        refine DE_0 6 (I ((y6.1.length : Int))) (by kernel_rfl) rfl rfl rfl (gsat_none rfl) (by kernel_rfl) (Y0_lenM (c := c45) (xs := y6.1) Try.underlying62 rfl (by kernel_rfl)) 110 rfl ?_
        refine DE_0 7 (I (w64 (Int.tdiv y24 ((y6.1.length : Int))))) (by kernel_rfl) rfl rfl rfl (gsat_none rfl) (by kernel_rfl) (Y0_quo64 (a := y24) (b := (y6.1.length : Int)) rfl (by kernel_rfl) (by kernel_rfl) (nz_some hz26)) 111 rfl ?_
        refine DR 1 ?_
        refine DE_0 9 (I ((y6.1.length : Int))) (by kernel_rfl) rfl rfl rfl (gsat_none rfl) (by kernel_rfl) (Y0_lenM (c := c45) (xs := y6.1) Try.underlying62 rfl (by kernel_rfl)) 113 rfl ?_
        refine DE_0 10 (I (Int.tmod (w64 (Int.tdiv y24 ((y6.1.length : Int)))) ((y6.1.length : Int)))) (by kernel_rfl) rfl rfl rfl (gsat_none rfl) (by kernel_rfl) (Y0_rem (k := .i64) (a := w64 (Int.tdiv y24 ((y6.1.length : Int)))) (b := (y6.1.length : Int)) rfl (by kernel_rfl) (by kernel_rfl) (nz_some hz27)) 114 rfl ?_
        refine DA 2 ?_
        refine XL_nil ?_
        subst hi28 hj29
        kernel_rfl
       obtain ⟨e30, he30, h⟩ := of_bind h
       obtain ⟨e31, he31, h⟩ := of_bind h
       obtain ⟨e32, he32, h⟩ := of_bind h
       obtain ⟨e33, he33, h⟩ := of_bind h
       obtain ⟨y34, hy34, h⟩ := of_bind h
       refine V_sdreg [0, 0, 3, 7, 0, 0, 48, 112, 0, 511, 1023, 2047, 2047, 4095, 16383] 15 (cdm 15 [174600, 174594, 174597, 174613, 133290, 131754, 132522, 136618, 43690, 87381, 349525, 34952533, 144004437, 39146837, 89478485]) (mb 173 3942592) [520, 296] (s1 := ⟨bt 6 (I y5.2 :: .ow 296 :: bt 3 (I y13.1 :: .bot :: .ow 520 :: bt 4 (I i28 :: I j29 :: Bo y34.1 :: Bo y34.2 :: bt 151 []))), [(520, .arr 3 1 (y14.1.map c3)), (296, .arr 45 3 (y6.1.map c45))]⟩) (by kernel_rfl) (by kernel_rfl) ?_ ?_
       ·refine DR 2 ?_
        refine DE_0 2 (.po 296 3 (Int.toNat (i28)) 0) (by kernel_rfl) rfl rfl rfl (gsat_none rfl) (by kernel_rfl) (Y0_idxoM (c := c45) (xs := y6.1) (v := e30) (id := 296) (T := 45) (sz := 3) (n := i28) Try.underlying62 sz45 rfl (by kernel_rfl) (by kernel_rfl) (by kernel_rfl) he30) 118 rfl ?_
        refine DE_0 3 (.ag [Ti e31.1, Ti e31.2.1, Ti e31.2.2]) (by kernel_rfl) rfl rfl rfl (gsat_none rfl) (by kernel_rfl) (E_loadon (c := c45) (xs := y6.1) (v := e31) (id := 296) (sz := 3) (T := 45) (off := 0) (n := i28) [Ti e31.1, Ti e31.2.1, Ti e31.2.2] wd45 rfl (by kernel_rfl) (by kernel_rfl) he31 (Nat.le_of_ble_eq_true rfl) (by kernel_rfl)) 119 rfl ?_
        refine DR 2 ?_
        refine DE_0 6 (.po 296 3 (Int.toNat (j29)) 0) (by kernel_rfl) rfl rfl rfl (gsat_none rfl) (by kernel_rfl) (Y0_idxoM (c := c45) (xs := y6.1) (v := e32) (id := 296) (T := 45) (sz := 3) (n := j29) Try.underlying62 sz45 rfl (by kernel_rfl) (by kernel_rfl) (by kernel_rfl) he32) 122 rfl ?_
        refine DE_0 7 (.ag [Ti e33.1, Ti e33.2.1, Ti e33.2.2]) (by kernel_rfl) rfl rfl rfl (gsat_none rfl) (by kernel_rfl) (E_loadon (c := c45) (xs := y6.1) (v := e33) (id := 296) (sz := 3) (T := 45) (off := 0) (n := j29) [Ti e33.1, Ti e33.2.1, Ti e33.2.2] wd45 rfl (by kernel_rfl) (by kernel_rfl) he33 (Nat.le_of_ble_eq_true rfl) (by kernel_rfl)) 123 rfl ?_
        refine DR 1 ?_
        refine DC 9 (s_impl_AreLevelEquivalent hy34) cf_impl_AreLevelEquivalent rfl rfl rfl rfl 125 rfl ?_
        refine DA 5 ?_
        exact XE
       obtain ⟨e35, he35, h⟩ := of_bind h
       obtain ⟨e36, he36, h⟩ := of_bind h
       obtain ⟨y37, hy37, h⟩ := of_bind h
       refine V_sreg (mb 173 16525504) [520, 296] (s1 := ⟨bt 6 (I y5.2 :: .ow 296 :: bt 3 (I y13.1 :: .bot :: .ow 520 :: bt 4 (I i28 :: I j29 :: Bo y34.1 :: Bo y34.2 :: I y37.1 :: Bo y37.2 :: bt 149 []))), [(520, .arr 3 1 (y14.1.map c3)), (296, .arr 45 3 (y6.1.map c45))]⟩) ?_ ?_
       ·refine XR 2 ?_
        refine L0 rfl rfl (Y0_idxoM (c := c45) (xs := y6.1) (v := e35) (id := 296) (T := 45) (sz := 3) (n := i28) Try.underlying62 sz45 rfl (by kernel_rfl) (by kernel_rfl) (by kernel_rfl) he35) ?_
        refine L0 rfl rfl (E_loadon (c := c45) (xs := y6.1) (v := e36) (id := 296) (sz := 3) (T := 45) (off := 0) (n := i28) [Ti e36.1, Ti e36.2.1, Ti e36.2.2] wd45 rfl (by kernel_rfl) (by kernel_rfl) he36 (Nat.le_of_ble_eq_true rfl) (by kernel_rfl)) ?_
        refine XR 1 ?_
        refine XC (s_impl_LevelRootOf hy37) cf_impl_LevelRootOf rfl rfl rfl ?_
        exact XE
       obtain ⟨e38, he38, h⟩ := of_bind h
       obtain ⟨e39, he39, h⟩ := of_bind h
       obtain ⟨y40, hy40, h⟩ := of_bind h
       refine V_sreg (mb 173 66856960) [520] (s1 := ⟨bt 11 (I y13.1 :: .bot :: .ow 520 :: bt 4 (I i28 :: I j29 :: Bo y34.1 :: Bo y34.2 :: I y37.1 :: Bo y37.2 :: Bo y40.1 :: Bo y40.2 :: bt 147 [])), [(520, .arr 3 1 (y14.1.map c3))]⟩) ?_ ?_
       ·refine XR 2 ?_
        refine L0 rfl rfl (Y0_idxoM (c := c45) (xs := y6.1) (v := e38) (id := 296) (T := 45) (sz := 3) (n := i28) Try.underlying62 sz45 rfl (by kernel_rfl) (by kernel_rfl) (by kernel_rfl) he38) ?_
        refine L0 rfl rfl (E_loadon (c := c45) (xs := y6.1) (v := e39) (id := 296) (sz := 3) (T := 45) (off := 0) (n := i28) [Ti e39.1, Ti e39.2.1, Ti e39.2.2] wd45 rfl (by kernel_rfl) (by kernel_rfl) he39 (Nat.le_of_ble_eq_true rfl) (by kernel_rfl)) ?_
        refine XR 1 ?_
        refine XC (s_impl_IsLevelForm hy40) cf_impl_IsLevelForm rfl rfl rfl ?_
        exact XE
       obtain ⟨b47, hb47, h⟩ := of_bind h
       refine V_sreg (mb 173 16) [] (s1 := ⟨bt 4 (Bo (bif (bif b47 then y40.2 else false) then y40.1 else false) :: bt 168 []), []⟩) ?_ ?_
       ·refine XR 2 ?_
        refine XL_split y34.2 (fun hc41 => ?_) (fun hc41 => ?_)
        ·refine XL_takeC _ rfl rfl (by kernel_rfl) hc41 (X_of_Y0 rfl (E_move (Bo y34.1) rfl (by kernel_rfl))) ?_
         refine XL_takeC _ rfl rfl (by kernel_rfl) hc41 (X_of_Y0 rfl (E_move (I i28) rfl (by kernel_rfl))) ?_
         refine XL_takeC _ rfl rfl (by kernel_rfl) hc41 (X_of_Y0 rfl (E_move (I j29) rfl (by kernel_rfl))) ?_
         refine XL_takeC _ rfl rfl (by kernel_rfl) hc41 (X_of_Y0 rfl (Y0_eqw (k := .i64) (a := i28) (b := j29) rfl (by kernel_rfl) (by kernel_rfl))) ?_
         refine XL_takeC _ rfl rfl (by kernel_rfl) hc41 (X_of_Y0 rfl (Y0_eqb (a := y34.1) (b := eqI i28 j29) Try.underlying4 rfl (by kernel_rfl) (by kernel_rfl))) ?_
         refine XL_cons rfl (X_of_Y0 rfl (Y0_pick1 (b := y34.2) (p := y34.1 == (eqI i28 j29)) (q := false) rfl (by kernel_rfl) hc41 (by kernel_rfl))) ?_
         refine XR 1 ?_
         refine XL_split (bif y34.2 then (y34.1 == (eqI i28 j29)) else false) (fun hc42 => ?_) (fun hc42 => ?_)
         ·refine XL_takeC _ rfl rfl (by kernel_rfl) hc42 (X_of_Y0 rfl (E_move (Bo y37.2) rfl (by kernel_rfl))) ?_
          refine XL_cons rfl (X_of_Y0 rfl (Y0_pick1 (b := bif y34.2 then (y34.1 == (eqI i28 j29)) else false) (p := y37.2) (q := false) rfl (by kernel_rfl) hc42 (by kernel_rfl))) ?_
          refine XR 1 ?_
          refine XL_split (bif (bif y34.2 then (y34.1 == (eqI i28 j29)) else false) then y37.2 else false) (fun hc43 => ?_) (fun hc43 => ?_)
          ·have hb47 := of_true hb47 hc43
           obtain ⟨z44, hz44, hb47⟩ := of_bind hb47
           obtain ⟨e45, he45, hb47⟩ := of_bind hb47
           obtain ⟨e46, he46, hb47⟩ := of_bind hb47
           have hb47 := some_inj hb47
           refine XL_takeC _ rfl rfl (by kernel_rfl) hc43 (X_of_Y0 rfl (E_move (I y37.1) rfl (by kernel_rfl))) ?_
           refine XL_takeC _ rfl rfl (by kernel_rfl) hc43 (X_of_Y0 rfl (E_move (.ow 520) rfl (by kernel_rfl))) ?_
           refine XL_takeC _ rfl rfl (by kernel_rfl) hc43 (X_of_Y0 rfl (E_move (I i28) rfl (by kernel_rfl))) ?_
           refine XL_takeC _ rfl rfl (by kernel_rfl) hc43 (X_of_Y0 rfl (E_move (I y13.1) rfl (by kernel_rfl))) ?_
           refine XL_takeC _ rfl rfl (by kernel_rfl) hc43 (X_of_Y0 rfl (Y0_quo64 (a := i28) (b := y13.1) rfl (by kernel_rfl) (by kernel_rfl) (nz_some hz44))) ?_
           refine XL_takeC _ rfl rfl (by kernel_rfl) hc43 (X_of_Y0 rfl (Y0_idxoM (c := c3) (xs := y14.1) (v := e45) (id := 520) (T := 3) (sz := 1) (n := w64 (Int.tdiv i28 y13.1)) Try.underlying41 sz3 rfl (by kernel_rfl) (by kernel_rfl) (by kernel_rfl) he45)) ?_
           refine XL_takeC _ rfl rfl (by kernel_rfl) hc43 (X_of_Y0 rfl (Y0_loado1 (c := c3) (xs := y14.1) (v := e46) (id := 520) (sz := 1) (T := 3) (off := 0) (n := w64 (Int.tdiv i28 y13.1)) (d := Ti e46) (ds := []) sc3 rfl (by kernel_rfl) (by kernel_rfl) he46 (by kernel_rfl))) ?_
           refine XL_takeC _ rfl rfl (by kernel_rfl) hc43 (X_of_Y0 rfl (Y0_eqw (k := .i64) (a := y37.1) (b := e46) rfl (by kernel_rfl) (by kernel_rfl))) ?_
           refine XL_cons rfl (X_of_Y0 rfl (Y0_pickTe (b := bif (bif y34.2 then (y34.1 == (eqI i28 j29)) else false) then y37.2 else false) (p := eqI y37.1 e46) rfl (by kernel_rfl) hc43 (by kernel_rfl) hb47)) ?_
           refine XR 1 ?_
           refine XL_split b47 (fun hc48 => ?_) (fun hc48 => ?_)
           ·refine XL_takeC _ rfl rfl (by kernel_rfl) hc48 (X_of_Y0 rfl (E_move (Bo y40.2) rfl (by kernel_rfl))) ?_
            refine XL_cons rfl (X_of_Y0 rfl (Y0_pick1 (b := b47) (p := y40.2) (q := false) rfl (by kernel_rfl) hc48 (by kernel_rfl))) ?_
            refine XR 1 ?_
            refine XL_split (bif b47 then y40.2 else false) (fun hc49 => ?_) (fun hc49 => ?_)
            ·refine XL_takeC _ rfl rfl (by kernel_rfl) hc49 (X_of_Y0 rfl (E_move (Bo y40.1) rfl (by kernel_rfl))) ?_
             refine XL_cons rfl (X_of_Y0 rfl (Y0_pick1 (b := bif b47 then y40.2 else false) (p := y40.1) (q := false) rfl (by kernel_rfl) hc49 (by kernel_rfl))) ?_
             exact XE
            ·refine XL_skipT _ rfl rfl (by kernel_rfl) hc49 rfl ?_
             refine XL_cons rfl (X_of_Y0 rfl (Y0_pick0 (b := bif b47 then y40.2 else false) (p := y40.1) (q := false) rfl (by kernel_rfl) hc49 (by kernel_rfl))) ?_
             exact XE
           ·refine XL_skipT _ rfl rfl (by kernel_rfl) hc48 rfl ?_
            refine XL_cons rfl (X_of_Y0 rfl (Y0_pick0 (b := b47) (p := y40.2) (q := false) rfl (by kernel_rfl) hc48 (by kernel_rfl))) ?_
            refine XR 1 ?_
            refine XL_split (bif b47 then y40.2 else false) (fun hc49 => ?_) (fun hc49 => ?_)
            ·refine XL_takeC _ rfl rfl (by kernel_rfl) hc49 (X_of_Y0 rfl (E_move (Bo y40.1) rfl (by kernel_rfl))) ?_
             refine XL_cons rfl (X_of_Y0 rfl (Y0_pick1 (b := bif b47 then y40.2 else false) (p := y40.1) (q := false) rfl (by kernel_rfl) hc49 (by kernel_rfl))) ?_
             exact XE
            ·refine XL_skipT _ rfl rfl (by kernel_rfl) hc49 rfl ?_
             refine XL_cons rfl (X_of_Y0 rfl (Y0_pick0 (b := bif b47 then y40.2 else false) (p := y40.1) (q := false) rfl (by kernel_rfl) hc49 (by kernel_rfl))) ?_
             exact XE
          ·have hb47 := some_inj (of_false hb47 hc43)
           refine XL_skipT _ rfl rfl (by kernel_rfl) hc43 rfl ?_
           refine XL_skipT _ rfl rfl (by kernel_rfl) hc43 rfl ?_
           refine XL_skipT _ rfl rfl (by kernel_rfl) hc43 rfl ?_
           refine XL_skipT _ rfl rfl (by kernel_rfl) hc43 rfl ?_
           refine XL_skipT _ rfl rfl (by kernel_rfl) hc43 rfl ?_
           refine XL_skipT _ rfl rfl (by kernel_rfl) hc43 rfl ?_
           refine XL_skipT _ rfl rfl (by kernel_rfl) hc43 rfl ?_
           refine XL_skipT _ rfl rfl (by kernel_rfl) hc43 rfl ?_
           refine XL_cons rfl (X_of_Y0 rfl (Y0_pickFe (b := bif (bif y34.2 then (y34.1 == (eqI i28 j29)) else false) then y37.2 else false) (p := false) rfl (by kernel_rfl) hc43 (by kernel_rfl) hb47)) ?_
           refine XR 1 ?_
           refine XL_split b47 (fun hc48 => ?_) (fun hc48 => ?_)
           ·refine XL_takeC _ rfl rfl (by kernel_rfl) hc48 (X_of_Y0 rfl (E_move (Bo y40.2) rfl (by kernel_rfl))) ?_
            refine XL_cons rfl (X_of_Y0 rfl (Y0_pick1 (b := b47) (p := y40.2) (q := false) rfl (by kernel_rfl) hc48 (by kernel_rfl))) ?_
            refine XR 1 ?_
            refine XL_split (bif b47 then y40.2 else false) (fun hc49 => ?_) (fun hc49 => ?_)
            ·refine XL_takeC _ rfl rfl (by kernel_rfl) hc49 (X_of_Y0 rfl (E_move (Bo y40.1) rfl (by kernel_rfl))) ?_
             refine XL_cons rfl (X_of_Y0 rfl (Y0_pick1 (b := bif b47 then y40.2 else false) (p := y40.1) (q := false) rfl (by kernel_rfl) hc49 (by kernel_rfl))) ?_
             exact XE
            ·refine XL_skipT _ rfl rfl (by kernel_rfl) hc49 rfl ?_
             refine XL_cons rfl (X_of_Y0 rfl (Y0_pick0 (b := bif b47 then y40.2 else false) (p := y40.1) (q := false) rfl (by kernel_rfl) hc49 (by kernel_rfl))) ?_
             exact XE
           ·refine XL_skipT _ rfl rfl (by kernel_rfl) hc48 rfl ?_
            refine XL_cons rfl (X_of_Y0 rfl (Y0_pick0 (b := b47) (p := y40.2) (q := false) rfl (by kernel_rfl) hc48 (by kernel_rfl))) ?_
            refine XR 1 ?_
            refine XL_split (bif b47 then y40.2 else false) (fun hc49 => ?_) (fun hc49 => ?_)
            ·refine XL_takeC _ rfl rfl (by kernel_rfl) hc49 (X_of_Y0 rfl (E_move (Bo y40.1) rfl (by kernel_rfl))) ?_
             refine XL_cons rfl (X_of_Y0 rfl (Y0_pick1 (b := bif b47 then y40.2 else false) (p := y40.1) (q := false) rfl (by kernel_rfl) hc49 (by kernel_rfl))) ?_
             exact XE
            ·refine XL_skipT _ rfl rfl (by kernel_rfl) hc49 rfl ?_
             refine XL_cons rfl (X_of_Y0 rfl (Y0_pick0 (b := bif b47 then y40.2 else false) (p := y40.1) (q := false) rfl (by kernel_rfl) hc49 (by kernel_rfl))) ?_
             exact XE
         ·refine XL_skipT _ rfl rfl (by kernel_rfl) hc42 rfl ?_
          refine XL_cons rfl (X_of_Y0 rfl (Y0_pick0 (b := bif y34.2 then (y34.1 == (eqI i28 j29)) else false) (p := y37.2) (q := false) rfl (by kernel_rfl) hc42 (by kernel_rfl))) ?_
          refine XR 1 ?_
          refine XL_split (bif (bif y34.2 then (y34.1 == (eqI i28 j29)) else false) then y37.2 else false) (fun hc43 => ?_) (fun hc43 => ?_)
          ·have hb47 := of_true hb47 hc43
           obtain ⟨z44, hz44, hb47⟩ := of_bind hb47
           obtain ⟨e45, he45, hb47⟩ := of_bind hb47
           obtain ⟨e46, he46, hb47⟩ := of_bind hb47
           have hb47 := some_inj hb47
           refine XL_takeC _ rfl rfl (by kernel_rfl) hc43 (X_of_Y0 rfl (E_move (I y37.1) rfl (by kernel_rfl))) ?_
           refine XL_takeC _ rfl rfl (by kernel_rfl) hc43 (X_of_Y0 rfl (E_move (.ow 520) rfl (by kernel_rfl))) ?_
           refine XL_takeC _ rfl rfl (by kernel_rfl) hc43 (X_of_Y0 rfl (E_move (I i28) rfl (by kernel_rfl))) ?_
           refine XL_takeC _ rfl rfl (by kernel_rfl) hc43 (X_of_Y0 rfl (E_move (I y13.1) rfl (by kernel_rfl))) ?_
           refine XL_takeC _ rfl rfl (by kernel_rfl) hc43 (X_of_Y0 rfl (Y0_quo64 (a := i28) (b := y13.1) rfl (by kernel_rfl) (by kernel_rfl) (nz_some hz44))) ?_
           refine XL_takeC _ rfl rfl (by kernel_rfl) hc43 (X_of_Y0 rfl (Y0_idxoM (c := c3) (xs := y14.1) (v := e45) (id := 520) (T := 3) (sz := 1) (n := w64 (Int.tdiv i28 y13.1)) Try.underlying41 sz3 rfl (by kernel_rfl) (by kernel_rfl) (by kernel_rfl) he45)) ?_
           refine XL_takeC _ rfl rfl (by kernel_rfl) hc43 (X_of_Y0 rfl (Y0_loado1 (c := c3) (xs := y14.1) (v := e46) (id := 520) (sz := 1) (T := 3) (off := 0) (n := w64 (Int.tdiv i28 y13.1)) (d := Ti e46) (ds := []) sc3 rfl (by kernel_rfl) (by kernel_rfl) he46 (by kernel_rfl))) ?_
           refine XL_takeC _ rfl rfl (by kernel_rfl) hc43 (X_of_Y0 rfl (Y0_eqw (k := .i64) (a := y37.1) (b := e46) rfl (by kernel_rfl) (by kernel_rfl))) ?_
           refine XL_cons rfl (X_of_Y0 rfl (Y0_pickTe (b := bif (bif y34.2 then (y34.1 == (eqI i28 j29)) else false) then y37.2 else false) (p := eqI y37.1 e46) rfl (by kernel_rfl) hc43 (by kernel_rfl) hb47)) ?_
           refine XR 1 ?_
           refine XL_split b47 (fun hc48 => ?_) (fun hc48 => ?_)
           ·refine XL_takeC _ rfl rfl (by kernel_rfl) hc48 (X_of_Y0 rfl (E_move (Bo y40.2) rfl (by kernel_rfl))) ?_
            refine XL_cons rfl (X_of_Y0 rfl (Y0_pick1 (b := b47) (p := y40.2) (q := false) rfl (by kernel_rfl) hc48 (by kernel_rfl))) ?_
            refine XR 1 ?_
            refine XL_split (bif b47 then y40.2 else false) (fun hc49 => ?_) (fun hc49 => ?_)
            ·refine XL_takeC _ rfl rfl (by kernel_rfl) hc49 (X_of_Y0 rfl (E_move (Bo y40.1) rfl (by kernel_rfl))) ?_
             refine XL_cons rfl (X_of_Y0 rfl (Y0_pick1 (b := bif b47 then y40.2 else false) (p := y40.1) (q := false) rfl (by kernel_rfl) hc49 (by kernel_rfl))) ?_
             exact XE
            ·refine XL_skipT _ rfl rfl (by kernel_rfl) hc49 rfl ?_
             refine XL_cons rfl (X_of_Y0 rfl (Y0_pick0 (b := bif b47 then y40.2 else false) (p := y40.1) (q := false) rfl (by kernel_rfl) hc49 (by kernel_rfl))) ?_
             exact XE
           ·refine XL_skipT _ rfl rfl (by kernel_rfl) hc48 rfl ?_
            refine XL_cons rfl (X_of_Y0 rfl (Y0_pick0 (b := b47) (p := y40.2) (q := false) rfl (by kernel_rfl) hc48 (by kernel_rfl))) ?_
            refine XR 1 ?_
            refine XL_split (bif b47 then y40.2 else false) (fun hc49 => ?_) (fun hc49 => ?_)
            ·refine XL_takeC _ rfl rfl (by kernel_rfl) hc49 (X_of_Y0 rfl (E_move (Bo y40.1) rfl (by kernel_rfl))) ?_
             refine XL_cons rfl (X_of_Y0 rfl (Y0_pick1 (b := bif b47 then y40.2 else false) (p := y40.1) (q := false) rfl (by kernel_rfl) hc49 (by kernel_rfl))) ?_
             exact XE
            ·refine XL_skipT _ rfl rfl (by kernel_rfl) hc49 rfl ?_
             refine XL_cons rfl (X_of_Y0 rfl (Y0_pick0 (b := bif b47 then y40.2 else false) (p := y40.1) (q := false) rfl (by kernel_rfl) hc49 (by kernel_rfl))) ?_
             exact XE
          ·have hb47 := some_inj (of_false hb47 hc43)
           refine XL_skipT _ rfl rfl (by kernel_rfl) hc43 rfl ?_
           refine XL_skipT _ rfl rfl (by kernel_rfl) hc43 rfl ?_
           refine XL_skipT _ rfl rfl (by kernel_rfl) hc43 rfl ?_
           refine XL_skipT _ rfl rfl (by kernel_rfl) hc43 rfl ?_
           refine XL_skipT _ rfl rfl (by kernel_rfl) hc43 rfl ?_
           refine XL_skipT _ rfl rfl (by kernel_rfl) hc43 rfl ?_
           refine XL_skipT _ rfl rfl (by kernel_rfl) hc43 rfl ?_
           refine XL_skipT _ rfl rfl (by kernel_rfl) hc43 rfl ?_
           refine XL_cons rfl (X_of_Y0 rfl (Y0_pickFe (b := bif (bif y34.2 then (y34.1 == (eqI i28 j29)) else false) then y37.2 else false) (p := false) rfl (by kernel_rfl) hc43 (by kernel_rfl) hb47)) ?_
           refine XR 1 ?_
           refine XL_split b47 (fun hc48 => ?_) (fun hc48 => ?_)
           ·refine XL_takeC _ rfl rfl (by kernel_rfl) hc48 (X_of_Y0 rfl (E_move (Bo y40.2) rfl (by kernel_rfl))) ?_
            refine XL_cons rfl (X_of_Y0 rfl (Y0_pick1 (b := b47) (p := y40.2) (q := false) rfl (by kernel_rfl) hc48 (by kernel_rfl))) ?_
            refine XR 1 ?_
            refine XL_split (bif b47 then y40.2 else false) (fun hc49 => ?_) (fun hc49 => ?_)
            ·refine XL_takeC _ rfl rfl (by kernel_rfl) hc49 (X_of_Y0 rfl (E_move (Bo y40.1) rfl (by kernel_rfl))) ?_
             refine XL_cons rfl (X_of_Y0 rfl (Y0_pick1 (b := bif b47 then y40.2 else false) (p := y40.1) (q := false) rfl (by kernel_rfl) hc49 (by kernel_rfl))) ?_
             exact XE
            ·refine XL_skipT _ rfl rfl (by kernel_rfl) hc49 rfl ?_
             refine XL_cons rfl (X_of_Y0 rfl (Y0_pick0 (b := bif b47 then y40.2 else false) (p := y40.1) (q := false) rfl (by kernel_rfl) hc49 (by kernel_rfl))) ?_
             exact XE
           ·refine XL_skipT _ rfl rfl (by kernel_rfl) hc48 rfl ?_
            refine XL_cons rfl (X_of_Y0 rfl (Y0_pick0 (b := b47) (p := y40.2) (q := false) rfl (by kernel_rfl) hc48 (by kernel_rfl))) ?_
            refine XR 1 ?_
            refine XL_split (bif b47 then y40.2 else false) (fun hc49 => ?_) (fun hc49 => ?_)
            ·refine XL_takeC _ rfl rfl (by kernel_rfl) hc49 (X_of_Y0 rfl (E_move (Bo y40.1) rfl (by kernel_rfl))) ?_
             refine XL_cons rfl (X_of_Y0 rfl (Y0_pick1 (b := bif b47 then y40.2 else false) (p := y40.1) (q := false) rfl (by kernel_rfl) hc49 (by kernel_rfl))) ?_
             exact XE
            ·refine XL_skipT _ rfl rfl (by kernel_rfl) hc49 rfl ?_
             refine XL_cons rfl (X_of_Y0 rfl (Y0_pick0 (b := bif b47 then y40.2 else false) (p := y40.1) (q := false) rfl (by kernel_rfl) hc49 (by kernel_rfl))) ?_
             exact XE
        ·refine XL_skipT _ rfl rfl (by kernel_rfl) hc41 rfl ?_
         refine XL_skipT _ rfl rfl (by kernel_rfl) hc41 rfl ?_
         refine XL_skipT _ rfl rfl (by kernel_rfl) hc41 rfl ?_
         refine XL_skipT _ rfl rfl (by kernel_rfl) hc41 rfl ?_
         refine XL_skipT _ rfl rfl (by kernel_rfl) hc41 rfl ?_
         refine XL_cons rfl (X_of_Y0 rfl (Y0_pick0 (b := y34.2) (p := y34.1 == (eqI i28 j29)) (q := false) rfl (by kernel_rfl) hc41 (by kernel_rfl))) ?_
         refine XR 1 ?_
         refine XL_split (bif y34.2 then (y34.1 == (eqI i28 j29)) else false) (fun hc42 => ?_) (fun hc42 => ?_)
         ·refine XL_takeC _ rfl rfl (by kernel_rfl) hc42 (X_of_Y0 rfl (E_move (Bo y37.2) rfl (by kernel_rfl))) ?_
          refine XL_cons rfl (X_of_Y0 rfl (Y0_pick1 (b := bif y34.2 then (y34.1 == (eqI i28 j29)) else false) (p := y37.2) (q := false) rfl (by kernel_rfl) hc42 (by kernel_rfl))) ?_
          refine XR 1 ?_
          refine XL_split (bif (bif y34.2 then (y34.1 == (eqI i28 j29)) else false) then y37.2 else false) (fun hc43 => ?_) (fun hc43 => ?_)
          ·have hb47 := of_true hb47 hc43
           obtain ⟨z44, hz44, hb47⟩ := of_bind hb47
           obtain ⟨e45, he45, hb47⟩ := of_bind hb47
           obtain ⟨e46, he46, hb47⟩ := of_bind hb47
           have hb47 := some_inj hb47
           refine XL_takeC _ rfl rfl (by kernel_rfl) hc43 (X_of_Y0 rfl (E_move (I y37.1) rfl (by kernel_rfl))) ?_
           refine XL_takeC _ rfl rfl (by kernel_rfl) hc43 (X_of_Y0 rfl (E_move (.ow 520) rfl (by kernel_rfl))) ?_
           refine XL_takeC _ rfl rfl (by kernel_rfl) hc43 (X_of_Y0 rfl (E_move (I i28) rfl (by kernel_rfl))) ?_
           refine XL_takeC _ rfl rfl (by kernel_rfl) hc43 (X_of_Y0 rfl (E_move (I y13.1) rfl (by kernel_rfl))) ?_
           refine XL_takeC _ rfl rfl (by kernel_rfl) hc43 (X_of_Y0 rfl (Y0_quo64 (a := i28) (b := y13.1) rfl (by kernel_rfl) (by kernel_rfl) (nz_some hz44))) ?_
           refine XL_takeC _ rfl rfl (by kernel_rfl) hc43 (X_of_Y0 rfl (Y0_idxoM (c := c3) (xs := y14.1) (v := e45) (id := 520) (T := 3) (sz := 1) (n := w64 (Int.tdiv i28 y13.1)) Try.underlying41 sz3 rfl (by kernel_rfl) (by kernel_rfl) (by kernel_rfl) he45)) ?_
           refine XL_takeC _ rfl rfl (by kernel_rfl) hc43 (X_of_Y0 rfl (Y0_loado1 (c := c3) (xs := y14.1) (v := e46) (id := 520) (sz := 1) (T := 3) (off := 0) (n := w64 (Int.tdiv i28 y13.1)) (d := Ti e46) (ds := []) sc3 rfl (by kernel_rfl) (by kernel_rfl) he46 (by kernel_rfl))) ?_
           refine XL_takeC _ rfl rfl (by kernel_rfl) hc43 (X_of_Y0 rfl (Y0_eqw (k := .i64) (a := y37.1) (b := e46) rfl (by kernel_rfl) (by kernel_rfl))) ?_
           refine XL_cons rfl (X_of_Y0 rfl (Y0_pickTe (b := bif (bif y34.2 then (y34.1 == (eqI i28 j29)) else false) then y37.2 else false) (p := eqI y37.1 e46) rfl (by kernel_rfl) hc43 (by kernel_rfl) hb47)) ?_
           refine XR 1 ?_
           refine XL_split b47 (fun hc48 => ?_) (fun hc48 => ?_)
           ·refine XL_takeC _ rfl rfl (by kernel_rfl) hc48 (X_of_Y0 rfl (E_move (Bo y40.2) rfl (by kernel_rfl))) ?_
            refine XL_cons rfl (X_of_Y0 rfl (Y0_pick1 (b := b47) (p := y40.2) (q := false) rfl (by kernel_rfl) hc48 (by kernel_rfl))) ?_
            refine XR 1 ?_
            refine XL_split (bif b47 then y40.2 else false) (fun hc49 => ?_) (fun hc49 => ?_)
            ·refine XL_takeC _ rfl rfl (by kernel_rfl) hc49 (X_of_Y0 rfl (E_move (Bo y40.1) rfl (by kernel_rfl))) ?_
             refine XL_cons rfl (X_of_Y0 rfl (Y0_pick1 (b := bif b47 then y40.2 else false) (p := y40.1) (q := false) rfl (by kernel_rfl) hc49 (by kernel_rfl))) ?_
             exact XE
            ·refine XL_skipT _ rfl rfl (by kernel_rfl) hc49 rfl ?_
             refine XL_cons rfl (X_of_Y0 rfl (Y0_pick0 (b := bif b47 then y40.2 else false) (p := y40.1) (q := false) rfl (by kernel_rfl) hc49 (by kernel_rfl))) ?_
             exact XE
           ·refine XL_skipT _ rfl rfl (by kernel_rfl) hc48 rfl ?_
            refine XL_cons rfl (X_of_Y0 rfl (Y0_pick0 (b := b47) (p := y40.2) (q := false) rfl (by kernel_rfl) hc48 (by kernel_rfl))) ?_
            refine XR 1 ?_
            refine XL_split (bif b47 then y40.2 else false) (fun hc49 => ?_) (fun hc49 => ?_)
            ·refine XL_takeC _ rfl rfl (by kernel_rfl) hc49 (X_of_Y0 rfl (E_move (Bo y40.1) rfl (by kernel_rfl))) ?_
             refine XL_cons rfl (X_of_Y0 rfl (Y0_pick1 (b := bif b47 then y40.2 else false) (p := y40.1) (q := false) rfl (by kernel_rfl) hc49 (by kernel_rfl))) ?_
             exact XE
            ·refine XL_skipT _ rfl rfl (by kernel_rfl) hc49 rfl ?_
             refine XL_cons rfl (X_of_Y0 rfl (Y0_pick0 (b := bif b47 then y40.2 else false) (p := y40.1) (q := false) rfl (by kernel_rfl) hc49 (by kernel_rfl))) ?_
             exact XE
          ·have hb47 := some_inj (of_false hb47 hc43)
           refine XL_skipT _ rfl rfl (by kernel_rfl) hc43 rfl ?_
           refine XL_skipT _ rfl rfl (by kernel_rfl) hc43 rfl ?_
           refine XL_skipT _ rfl rfl (by kernel_rfl) hc43 rfl ?_
           refine XL_skipT _ rfl rfl (by kernel_rfl) hc43 rfl ?_
           refine XL_skipT _ rfl rfl (by kernel_rfl) hc43 rfl ?_
           refine XL_skipT _ rfl rfl (by kernel_rfl) hc43 rfl ?_
           refine XL_skipT _ rfl rfl (by kernel_rfl) hc43 rfl ?_
           refine XL_skipT _ rfl rfl (by kernel_rfl) hc43 rfl ?_
           refine XL_cons rfl (X_of_Y0 rfl (Y0_pickFe (b := bif (bif y34.2 then (y34.1 == (eqI i28 j29)) else false) then y37.2 else false) (p := false) rfl (by kernel_rfl) hc43 (by kernel_rfl) hb47)) ?_
           refine XR 1 ?_
           refine XL_split b47 (fun hc48 => ?_) (fun hc48 => ?_)
           ·refine XL_takeC _ rfl rfl (by kernel_rfl) hc48 (X_of_Y0 rfl (E_move (Bo y40.2) rfl (by kernel_rfl))) ?_
            refine XL_cons rfl (X_of_Y0 rfl (Y0_pick1 (b := b47) (p := y40.2) (q := false) rfl (by kernel_rfl) hc48 (by kernel_rfl))) ?_
            refine XR 1 ?_
            refine XL_split (bif b47 then y40.2 else false) (fun hc49 => ?_) (fun hc49 => ?_)
            ·refine XL_takeC _ rfl rfl (by kernel_rfl) hc49 (X_of_Y0 rfl (E_move (Bo y40.1) rfl (by kernel_rfl))) ?_
             refine XL_cons rfl (X_of_Y0 rfl (Y0_pick1 (b := bif b47 then y40.2 else false) (p := y40.1) (q := false) rfl (by kernel_rfl) hc49 (by kernel_rfl))) ?_
             exact XE
            ·refine XL_skipT _ rfl rfl (by kernel_rfl) hc49 rfl ?_
             refine XL_cons rfl (X_of_Y0 rfl (Y0_pick0 (b := bif b47 then y40.2 else false) (p := y40.1) (q := false) rfl (by kernel_rfl) hc49 (by kernel_rfl))) ?_
             exact XE
           ·refine XL_skipT _ rfl rfl (by kernel_rfl) hc48 rfl ?_
            refine XL_cons rfl (X_of_Y0 rfl (Y0_pick0 (b := b47) (p := y40.2) (q := false) rfl (by kernel_rfl) hc48 (by kernel_rfl))) ?_
            refine XR 1 ?_
            refine XL_split (bif b47 then y40.2 else false) (fun hc49 => ?_) (fun hc49 => ?_)
            ·refine XL_takeC _ rfl rfl (by kernel_rfl) hc49 (X_of_Y0 rfl (E_move (Bo y40.1) rfl (by kernel_rfl))) ?_
             refine XL_cons rfl (X_of_Y0 rfl (Y0_pick1 (b := bif b47 then y40.2 else false) (p := y40.1) (q := false) rfl (by kernel_rfl) hc49 (by kernel_rfl))) ?_
             exact XE
            ·refine XL_skipT _ rfl rfl (by kernel_rfl) hc49 rfl ?_
             refine XL_cons rfl (X_of_Y0 rfl (Y0_pick0 (b := bif b47 then y40.2 else false) (p := y40.1) (q := false) rfl (by kernel_rfl) hc49 (by kernel_rfl))) ?_
             exact XE
         ·refine XL_skipT _ rfl rfl (by kernel_rfl) hc42 rfl ?_
          refine XL_cons rfl (X_of_Y0 rfl (Y0_pick0 (b := bif y34.2 then (y34.1 == (eqI i28 j29)) else false) (p := y37.2) (q := false) rfl (by kernel_rfl) hc42 (by kernel_rfl))) ?_
          refine XR 1 ?_
          refine XL_split (bif (bif y34.2 then (y34.1 == (eqI i28 j29)) else false) then y37.2 else false) (fun hc43 => ?_) (fun hc43 => ?_)
          ·have hb47 := of_true hb47 hc43
           obtain ⟨z44, hz44, hb47⟩ := of_bind hb47
           obtain ⟨e45, he45, hb47⟩ := of_bind hb47
           obtain ⟨e46, he46, hb47⟩ := of_bind hb47
           have hb47 := some_inj hb47
           refine XL_takeC _ rfl rfl (by kernel_rfl) hc43 (X_of_Y0 rfl (E_move (I y37.1) rfl (by kernel_rfl))) ?_
           refine XL_takeC _ rfl rfl (by kernel_rfl) hc43 (X_of_Y0 rfl (E_move (.ow 520) rfl (by kernel_rfl))) ?_
           refine XL_takeC _ rfl rfl (by kernel_rfl) hc43 (X_of_Y0 rfl (E_move (I i28) rfl (by kernel_rfl))) ?_
           refine XL_takeC _ rfl rfl (by kernel_rfl) hc43 (X_of_Y0 rfl (E_move (I y13.1) rfl (by kernel_rfl))) ?_
           refine XL_takeC _ rfl rfl (by kernel_rfl) hc43 (X_of_Y0 rfl (Y0_quo64 (a := i28) (b := y13.1) rfl (by kernel_rfl) (by kernel_rfl) (nz_some hz44))) ?_
           refine XL_takeC _ rfl rfl (by kernel_rfl) hc43 (X_of_Y0 rfl (Y0_idxoM (c := c3) (xs := y14.1) (v := e45) (id := 520) (T := 3) (sz := 1) (n := w64 (Int.tdiv i28 y13.1)) Try.underlying41 sz3 rfl (by kernel_rfl) (by kernel_rfl) (by kernel_rfl) he45)) ?_
           refine XL_takeC _ rfl rfl (by kernel_rfl) hc43 (X_of_Y0 rfl (Y0_loado1 (c := c3) (xs := y14.1) (v := e46) (id := 520) (sz := 1) (T := 3) (off := 0) (n := w64 (Int.tdiv i28 y13.1)) (d := Ti e46) (ds := []) sc3 rfl (by kernel_rfl) (by kernel_rfl) he46 (by kernel_rfl))) ?_
           refine XL_takeC _ rfl rfl (by kernel_rfl) hc43 (X_of_Y0 rfl (Y0_eqw (k := .i64) (a := y37.1) (b := e46) rfl (by kernel_rfl) (by kernel_rfl))) ?_
           refine XL_cons rfl (X_of_Y0 rfl (Y0_pickTe (b := bif (bif y34.2 then (y34.1 == (eqI i28 j29)) else false) then y37.2 else false) (p := eqI y37.1 e46) rfl (by kernel_rfl) hc43 (by kernel_rfl) hb47)) ?_
           refine XR 1 ?_
           refine XL_split b47 (fun hc48 => ?_) (fun hc48 => ?_)
           ·refine XL_takeC _ rfl rfl (by kernel_rfl) hc48 (X_of_Y0 rfl (E_move (Bo y40.2) rfl (by kernel_rfl))) ?_
            refine XL_cons rfl (X_of_Y0 rfl (Y0_pick1 (b := b47) (p := y40.2) (q := false) rfl (by kernel_rfl) hc48 (by kernel_rfl))) ?_
            refine XR 1 ?_
            refine XL_split (bif b47 then y40.2 else false) (fun hc49 => ?_) (fun hc49 => ?_)
            ·refine XL_takeC _ rfl rfl (by kernel_rfl) hc49 (X_of_Y0 rfl (E_move (Bo y40.1) rfl (by kernel_rfl))) ?_
             refine XL_cons rfl (X_of_Y0 rfl (Y0_pick1 (b := bif b47 then y40.2 else false) (p := y40.1) (q := false) rfl (by kernel_rfl) hc49 (by kernel_rfl))) ?_
             exact XE
            ·refine XL_skipT _ rfl rfl (by kernel_rfl) hc49 rfl ?_
             refine XL_cons rfl (X_of_Y0 rfl (Y0_pick0 (b := bif b47 then y40.2 else false) (p := y40.1) (q := false) rfl (by kernel_rfl) hc49 (by kernel_rfl))) ?_
             exact XE
           ·refine XL_skipT _ rfl rfl (by kernel_rfl) hc48 rfl ?_
            refine XL_cons rfl (X_of_Y0 rfl (Y0_pick0 (b := b47) (p := y40.2) (q := false) rfl (by kernel_rfl) hc48 (by kernel_rfl))) ?_
            refine XR 1 ?_
            refine XL_split (bif b47 then y40.2 else false) (fun hc49 => ?_) (fun hc49 => ?_)
            ·refine XL_takeC _ rfl rfl (by kernel_rfl) hc49 (X_of_Y0 rfl (E_move (Bo y40.1) rfl (by kernel_rfl))) ?_
             refine XL_cons rfl (X_of_Y0 rfl (Y0_pick1 (b := bif b47 then y40.2 else false) (p := y40.1) (q := false) rfl (by kernel_rfl) hc49 (by kernel_rfl))) ?_
             exact XE
            ·refine XL_skipT _ rfl rfl (by kernel_rfl) hc49 rfl ?_
             refine XL_cons rfl (X_of_Y0 rfl (Y0_pick0 (b := bif b47 then y40.2 else false) (p := y40.1) (q := false) rfl (by kernel_rfl) hc49 (by kernel_rfl))) ?_
             exact XE
          ·have hb47 := some_inj (of_false hb47 hc43)
           refine XL_skipT _ rfl rfl (by kernel_rfl) hc43 rfl ?_
           refine XL_skipT _ rfl rfl (by kernel_rfl) hc43 rfl ?_
           refine XL_skipT _ rfl rfl (by kernel_rfl) hc43 rfl ?_
           refine XL_skipT _ rfl rfl (by kernel_rfl) hc43 rfl ?_
           refine XL_skipT _ rfl rfl (by kernel_rfl) hc43 rfl ?_
           refine XL_skipT _ rfl rfl (by kernel_rfl) hc43 rfl ?_
           refine XL_skipT _ rfl rfl (by kernel_rfl) hc43 rfl ?_
           refine XL_skipT _ rfl rfl (by kernel_rfl) hc43 rfl ?_
           refine XL_cons rfl (X_of_Y0 rfl (Y0_pickFe (b := bif (bif y34.2 then (y34.1 == (eqI i28 j29)) else false) then y37.2 else false) (p := false) rfl (by kernel_rfl) hc43 (by kernel_rfl) hb47)) ?_
           refine XR 1 ?_
           refine XL_split b47 (fun hc48 => ?_) (fun hc48 => ?_)
           ·refine XL_takeC _ rfl rfl (by kernel_rfl) hc48 (X_of_Y0 rfl (E_move (Bo y40.2) rfl (by kernel_rfl))) ?_
            refine XL_cons rfl (X_of_Y0 rfl (Y0_pick1 (b := b47) (p := y40.2) (q := false) rfl (by kernel_rfl) hc48 (by kernel_rfl))) ?_
            refine XR 1 ?_
            refine XL_split (bif b47 then y40.2 else false) (fun hc49 => ?_) (fun hc49 => ?_)
            ·refine XL_takeC _ rfl rfl (by kernel_rfl) hc49 (X_of_Y0 rfl (E_move (Bo y40.1) rfl (by kernel_rfl))) ?_
             refine XL_cons rfl (X_of_Y0 rfl (Y0_pick1 (b := bif b47 then y40.2 else false) (p := y40.1) (q := false) rfl (by kernel_rfl) hc49 (by kernel_rfl))) ?_
             exact XE
            ·refine XL_skipT _ rfl rfl (by kernel_rfl) hc49 rfl ?_
             refine XL_cons rfl (X_of_Y0 rfl (Y0_pick0 (b := bif b47 then y40.2 else false) (p := y40.1) (q := false) rfl (by kernel_rfl) hc49 (by kernel_rfl))) ?_
             exact XE
           ·refine XL_skipT _ rfl rfl (by kernel_rfl) hc48 rfl ?_
            refine XL_cons rfl (X_of_Y0 rfl (Y0_pick0 (b := b47) (p := y40.2) (q := false) rfl (by kernel_rfl) hc48 (by kernel_rfl))) ?_
            refine XR 1 ?_
            refine XL_split (bif b47 then y40.2 else false) (fun hc49 => ?_) (fun hc49 => ?_)
            ·refine XL_takeC _ rfl rfl (by kernel_rfl) hc49 (X_of_Y0 rfl (E_move (Bo y40.1) rfl (by kernel_rfl))) ?_
             refine XL_cons rfl (X_of_Y0 rfl (Y0_pick1 (b := bif b47 then y40.2 else false) (p := y40.1) (q := false) rfl (by kernel_rfl) hc49 (by kernel_rfl))) ?_
             exact XE
            ·refine XL_skipT _ rfl rfl (by kernel_rfl) hc49 rfl ?_
             refine XL_cons rfl (X_of_Y0 rfl (Y0_pick0 (b := bif b47 then y40.2 else false) (p := y40.1) (q := false) rfl (by kernel_rfl) hc49 (by kernel_rfl))) ?_
             exact XE
       refine V_ret ?_
       obtain rfl := some_inj h
       show Post _ _ _ _ _
       exact ⟨.inr rfl, rfl, rfl, rfl⟩
end Go.Proofs.Ytgeajejmikaniaa
