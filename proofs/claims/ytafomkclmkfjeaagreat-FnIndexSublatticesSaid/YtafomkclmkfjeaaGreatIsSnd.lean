/-
  The functions of the program compute what the plain functions say: more of them.
  Conditions: none.
-/
import Derived.Test.YtafomkclmkfjeaaGreatIsSnd3
namespace Go.Proofs.YtafomkclmkfjeaaGreat
open Go.RowKit
set_option linter.unusedVariables false
set_option linter.unusedSimpArgs false
set_option maxRecDepth 100000
set_option maxHeartbeats 400000
theorem cf_spec_foInverse : ∀ args w, (callFunc 166 args).run Tryz.prog w = .ok (.enter 166 args) w := run_callFunc Tryz.func166 (by kernel_rfl) (by kernel_rfl)
theorem s_spec_foInverse {vm1 : (Int × Int × Int × Int)} {r : (Int × Int × Int × Int)} (h : r_spec_foInverse vm1 = some r) : CallS Tryz.prog 166 [.ag [Ti vm1.1, Ti vm1.2.1, Ti vm1.2.2.1, Ti vm1.2.2.2]] (.ag [Ti r.1, Ti r.2.1, Ti r.2.2.1, Ti r.2.2.2]) [] := by
  refine CallS_of_text (rs := [.w 2 4]) (vs := [.cell 2 31]) Tryz.func166 rfl rfl (.cons ⟨rfl, wd31⟩ FitsL.nil) (by decide) 25 rfl ?_
  unfold r_spec_foInverse at h
  show V _ _ ⟨.ag [Ti vm1.1, Ti vm1.2.1, Ti vm1.2.2.1, Ti vm1.2.2.2] :: bt 24 [], []⟩ _
  refine V_e (mb 25 6) [16, 8] (s1 := ⟨.bot :: .pt 8 0 :: .pt 16 0 :: bt 22 [], [(16, .box [Ti 0, Ti 0, Ti 0, Ti 0]), (8, .box [Ti vm1.1, Ti vm1.2.1, Ti vm1.2.2.1, Ti vm1.2.2.2])]⟩) ?_
  obtain ⟨y2, hy2, h⟩ := of_bind h
  refine V_sreg (mb 25 14) [16, 8] (s1 := ⟨.bot :: .pt 8 0 :: .pt 16 0 :: I y2 :: bt 21 [], [(16, .box [Ti 0, Ti 0, Ti 0, Ti 0]), (8, .box [Ti vm1.1, Ti vm1.2.1, Ti vm1.2.2.1, Ti vm1.2.2.2])]⟩) ?_ ?_
  ·refine XR 1 ?_
   refine XC (s_spec_foDet hy2) cf_spec_foDet rfl rfl rfl ?_
   exact XE
  obtain ⟨f3, hf3, h⟩ := of_sI h
  obtain ⟨f4, hf4, h⟩ := of_sI h
  obtain ⟨f5, hf5, h⟩ := of_sI h
  obtain ⟨f6, hf6, h⟩ := of_sI h
  refine V_sreg (mb 25 4) [16] (s1 := ⟨.bot :: .bot :: .pt 16 0 :: bt 22 [], [(16, .box [Ti f3, Ti f4, Ti f5, Ti f6])]⟩) ?_ ?_
  ·refine XR 18 ?_
   refine L0 rfl rfl (Y0_build (cs := [Ti (w64 (y2 * vm1.2.2.2)), Ti (w64 ((w64 (0 - y2)) * vm1.2.1)), Ti (w64 ((w64 (0 - y2)) * vm1.2.2.1)), Ti (w64 (y2 * vm1.1))]) pl31 bt31 rfl rfl (by kernel_rfl)) ?_
   refine XR 1 ?_
   refine XL_nil ?_
   subst hf3 hf4 hf5 hf6
   kernel_rfl
  refine V_ret ?_
  obtain rfl := some_inj h
  show Post _ _ _ _ _
  exact ⟨.inr rfl, rfl, rfl, rfl⟩
theorem cf_spec_odDescend : ∀ args w, (callFunc 71 args).run Tryz.prog w = .ok (.enter 71 args) w := run_callFunc Tryz.func71 (by kernel_rfl) (by kernel_rfl)
theorem s_spec_odDescend {f1 : (Int × Int × Int)} {p2 : Int} {r : (((Int × Int × Int)) × ((Int × Int × Int × Int)))} (h : r_spec_odDescend f1 p2 = some r) : CallS Tryz.prog 71 [.ag [Ti f1.1, Ti f1.2.1, Ti f1.2.2], I p2] (.tc (.ag [Ti r.1.1, Ti r.1.2.1, Ti r.1.2.2]) (.tc (.ag [Ti r.2.1, Ti r.2.2.1, Ti r.2.2.2.1, Ti r.2.2.2.2]) .tn)) [] := by
  refine CallS_of_text (rs := [.w 4 3, .w 5 4]) (vs := [.cell 4 25, .cell 5 31]) Tryz.func71 rfl rfl (.cons ⟨rfl, wd25⟩ (.cons ⟨rfl, wd31⟩ FitsL.nil)) (by decide) 92 rfl ?_
  unfold r_spec_odDescend at h
  show V _ _ ⟨.ag [Ti f1.1, Ti f1.2.1, Ti f1.2.2] :: I p2 :: bt 90 [], []⟩ _
  refine V_e (mb 92 54) [40, 32, 16] (s1 := ⟨.bot :: I p2 :: .pt 16 0 :: .bot :: .pt 32 0 :: .pt 40 0 :: bt 86 [], [(40, .box [Ti 0, Ti 0, Ti 0, Ti 0]), (32, .box [Ti 0, Ti 0, Ti 0]), (16, .box [Ti f1.1, Ti f1.2.1, Ti f1.2.2])]⟩) ?_
  obtain ⟨y3, hy3, h⟩ := of_bind h
  refine V_sreg (mb 92 242) [56, 48, 40, 32] (s1 := ⟨.bot :: I p2 :: .bot :: .bot :: .pt 32 0 :: .pt 40 0 :: .pt 48 0 :: .pt 56 0 :: bt 84 [], [(56, .box [Ti y3.2.1, Ti y3.2.2.1, Ti y3.2.2.2.1, Ti y3.2.2.2.2]), (48, .box [Ti y3.1.1, Ti y3.1.2.1, Ti y3.1.2.2]), (40, .box [Ti 0, Ti 0, Ti 0, Ti 0]), (32, .box [Ti 0, Ti 0, Ti 0])]⟩) ?_ ?_
  ·refine XR 1 ?_
   refine XC (s_spec_reReduce hy3) cf_spec_reReduce rfl rfl rfl ?_
   exact XE
  obtain ⟨y4, hy4, h⟩ := of_bind h
  refine V_sreg (mb 92 1010) [56, 48, 40, 32] (s1 := ⟨.bot :: I p2 :: .bot :: .bot :: .pt 32 0 :: .pt 40 0 :: .pt 48 0 :: .pt 56 0 :: I y4.1 :: I y4.2 :: bt 82 [], [(56, .box [Ti y3.2.1, Ti y3.2.2.1, Ti y3.2.2.2.1, Ti y3.2.2.2.2]), (48, .box [Ti y3.1.1, Ti y3.1.2.1, Ti y3.1.2.2]), (40, .box [Ti 0, Ti 0, Ti 0, Ti 0]), (32, .box [Ti 0, Ti 0, Ti 0])]⟩) ?_ ?_
  ·refine XR 2 ?_
   refine XC (s_spec_coPoint hy4) cf_spec_coPoint rfl rfl rfl ?_
   exact XE
  obtain ⟨y5, hy5, h⟩ := of_bind h
  refine V_sreg (mb 92 3250) [88, 80, 56, 40, 32] (s1 := ⟨.bot :: I p2 :: .bot :: .bot :: .pt 32 0 :: .pt 40 0 :: .bot :: .pt 56 0 :: .bot :: .bot :: .pt 80 0 :: .pt 88 0 :: bt 80 [], [(88, .box [Ti y5.2.1, Ti y5.2.2.1, Ti y5.2.2.2.1, Ti y5.2.2.2.2]), (80, .box [Ti y5.1.1, Ti y5.1.2.1, Ti y5.1.2.2]), (56, .box [Ti y3.2.1, Ti y3.2.2.1, Ti y3.2.2.2.1, Ti y3.2.2.2.2]), (40, .box [Ti 0, Ti 0, Ti 0, Ti 0]), (32, .box [Ti 0, Ti 0, Ti 0])]⟩) ?_ ?_
  ·refine XR 3 ?_
   refine XC (s_spec_vaComplete hy5) cf_spec_vaComplete rfl rfl rfl ?_
   exact XE
  obtain ⟨y6, hy6, h⟩ := of_bind h
  refine V_sreg (mb 92 1202) [80, 56, 40, 32] (s1 := ⟨.bot :: I p2 :: .bot :: .bot :: .pt 32 0 :: .pt 40 0 :: .bot :: .pt 56 0 :: .bot :: .bot :: .pt 80 0 :: bt 81 [], [(80, .box [Ti y5.1.1, Ti y5.1.2.1, Ti y5.1.2.2]), (56, .box [Ti y6.1, Ti y6.2.1, Ti y6.2.2.1, Ti y6.2.2.2]), (40, .box [Ti 0, Ti 0, Ti 0, Ti 0]), (32, .box [Ti 0, Ti 0, Ti 0])]⟩) ?_ ?_
  ·refine XR 2 ?_
   refine XC (s_spec_foMul hy6) cf_spec_foMul rfl rfl rfl ?_
   exact XE
  refine V_seq ?_
  refine V_e (mb 92 5298) [80, 56, 40, 32] (s1 := ⟨.bot :: I p2 :: .bot :: .bot :: .pt 32 0 :: .pt 40 0 :: .bot :: .pt 56 0 :: .bot :: .bot :: .pt 80 0 :: .bot :: I 0 :: bt 79 [], [(80, .box [Ti y5.1.1, Ti y5.1.2.1, Ti y5.1.2.2]), (56, .box [Ti y6.1, Ti y6.2.1, Ti y6.2.2.1, Ti y6.2.2.2]), (40, .box [Ti 0, Ti 0, Ti 0, Ti 0]), (32, .box [Ti 0, Ti 0, Ti 0])]⟩) ?_
  obtain ⟨qo9, hLo9, hko9⟩ := of_bind h
  refine V_toS (q := qo9) (S := fun o9 => ⟨bt 4 (.pt 32 0 :: .pt 40 0 :: bt 86 []), [(40, .box [Ti 0, Ti 0, Ti 0, Ti 0]), (32, .box [Ti 0, Ti 0, Ti 0])]⟩) (mb 92 48) [40, 32] ?_ ?_
  ·refine V_block (V_loop (fun n s => ∃ (t7 : Int), s.keep (mb 92 5298) [80, 56, 40, 32] = (⟨.bot :: I p2 :: .bot :: .bot :: .pt 32 0 :: .pt 40 0 :: .bot :: .pt 56 0 :: .bot :: .bot :: .pt 80 0 :: .bot :: I t7 :: bt 79 [], [(80, .box [Ti y5.1.1, Ti y5.1.2.1, Ti y5.1.2.2]), (56, .box [Ti y6.1, Ti y6.2.1, Ti y6.2.2.1, Ti y6.2.2.2]), (40, .box [Ti 0, Ti 0, Ti 0, Ti 0]), (32, .box [Ti 0, Ti 0, Ti 0])]⟩ : St) ∧ r_spec_odDescend_L8 p2 y5 y6 n t7 = some qo9) FU ⟨_,  by rfl, hLo9⟩ ?_)
   clear hLo9
   rintro n s ⟨t7, hs, h⟩
   refine V_keep _ _ hs ?_
   clear hs
   cases n with
   | zero => cases h
   | succ n =>
    rw [r_spec_odDescend_L8] at h
    refine V_seq ?_
    refine V_e (mb 92 549755819186) [80, 56, 40, 32] (s1 := ⟨.bot :: I p2 :: .bot :: .bot :: .pt 32 0 :: .pt 40 0 :: .bot :: .pt 56 0 :: .bot :: .bot :: .pt 80 0 :: .bot :: I t7 :: bt 26 (Bo (ltI t7 p2) :: bt 52 []), [(80, .box [Ti y5.1.1, Ti y5.1.2.1, Ti y5.1.2.2]), (56, .box [Ti y6.1, Ti y6.2.1, Ti y6.2.2.1, Ti y6.2.2.2]), (40, .box [Ti 0, Ti 0, Ti 0, Ti 0]), (32, .box [Ti 0, Ti 0, Ti 0])]⟩) ?_
    refine V_cond rfl (fun hc10 => ?_) (fun hc10 => ?_)
    ·have h := of_true h hc10
     refine V_skip ?_
     show V _ _ _ _
     refine V_seq ?_
     refine V_block ?_
     obtain ⟨y11, hy11, h⟩ := of_bind h
     obtain ⟨y12, hy12, h⟩ := of_bind h
     refine V_sdreg [0, 0, 2, 7, 0, 31] 5 (cdm 5 [552, 514, 518, 533, 170]) (mb 92 13490) [104, 80, 56, 40, 32] (s1 := ⟨.bot :: I p2 :: .bot :: .bot :: .pt 32 0 :: .pt 40 0 :: .bot :: .pt 56 0 :: .bot :: .bot :: .pt 80 0 :: .bot :: I t7 :: .pt 104 0 :: bt 78 [], [(104, .box [Ti y12.1, Ti y12.2.1, Ti y12.2.2]), (80, .box [Ti y5.1.1, Ti y5.1.2.1, Ti y5.1.2.2]), (56, .box [Ti y6.1, Ti y6.2.1, Ti y6.2.2.1, Ti y6.2.2.2]), (40, .box [Ti 0, Ti 0, Ti 0, Ti 0]), (32, .box [Ti 0, Ti 0, Ti 0])]⟩) (by kernel_rfl) (by kernel_rfl) ?_ ?_
     ·refine DR 2 ?_
      refine DC 2 (s_spec_coShift hy11) cf_spec_coShift rfl rfl rfl rfl 44 rfl ?_
      refine DC 3 (s_spec_foAct hy12) cf_spec_foAct rfl rfl rfl rfl 45 rfl ?_
      refine DA 1 ?_
      exact XE
     refine V_seq ?_
     obtain ⟨z13, hz13, h⟩ := of_bind h
     obtain ⟨b16, hb16, h⟩ := of_bind h
     refine V_sreg (mb 92 576460752303436978) [104, 80, 56, 40, 32] (s1 := ⟨.bot :: I p2 :: .bot :: .bot :: .pt 32 0 :: .pt 40 0 :: .bot :: .pt 56 0 :: .bot :: .bot :: .pt 80 0 :: .bot :: I t7 :: .pt 104 0 :: bt 45 (Bo b16 :: bt 32 []), [(104, .box [Ti y12.1, Ti y12.2.1, Ti y12.2.2]), (80, .box [Ti y5.1.1, Ti y5.1.2.1, Ti y5.1.2.2]), (56, .box [Ti y6.1, Ti y6.2.1, Ti y6.2.2.1, Ti y6.2.2.2]), (40, .box [Ti 0, Ti 0, Ti 0, Ti 0]), (32, .box [Ti 0, Ti 0, Ti 0])]⟩) ?_ ?_
     ·refine XR 3 ?_
      refine L0 rfl rfl (Y0_rem (k := .i64) (a := y12.2.1) (b := p2) rfl (by kernel_rfl) (by kernel_rfl) (nz_some hz13)) ?_
      refine XR 2 ?_
      refine XL_split (!eqI (Int.tmod y12.2.1 p2) 0) (fun hc14 => ?_) (fun hc14 => ?_)
      ·have hb16 := some_inj (of_true hb16 hc14)
       refine XL_skipF _ rfl rfl (by kernel_rfl) hc14 rfl ?_
       refine XL_skipF _ rfl rfl (by kernel_rfl) hc14 rfl ?_
       refine XL_skipF _ rfl rfl (by kernel_rfl) hc14 rfl ?_
       refine XL_skipF _ rfl rfl (by kernel_rfl) hc14 rfl ?_
       refine XL_skipF _ rfl rfl (by kernel_rfl) hc14 rfl ?_
       refine XL_skipF _ rfl rfl (by kernel_rfl) hc14 rfl ?_
       refine XL_skipF _ rfl rfl (by kernel_rfl) hc14 rfl ?_
       refine XL_cons rfl (X_of_Y0 rfl (Y0_pickTe (b := !eqI (Int.tmod y12.2.1 p2) 0) (p := true) rfl (by kernel_rfl) hc14 (by kernel_rfl) hb16)) ?_
       exact XE
      ·have hb16 := of_false hb16 hc14
       obtain ⟨z15, hz15, hb16⟩ := of_bind hb16
       have hb16 := some_inj hb16
       refine XL_takeC _ rfl rfl (by kernel_rfl) hc14 (X_of_Y0 rfl (E_field (.pt 104 2) Tryz.underlying25 rfl sz3 rfl (by kernel_rfl) (by intro hh; cases hh))) ?_
       refine XL_takeC _ rfl rfl (by kernel_rfl) hc14 (X_of_Y0 rfl (Y0_load1 (c := Ti y12.2.2) (cs := []) sc3 rfl (by kernel_rfl))) ?_
       refine XL_takeC _ rfl rfl (by kernel_rfl) hc14 (X_of_Y0 rfl (E_move (I p2) rfl (by kernel_rfl))) ?_
       refine XL_takeC _ rfl rfl (by kernel_rfl) hc14 (X_of_Y0 rfl (E_move (I p2) rfl (by kernel_rfl))) ?_
       refine XL_takeC _ rfl rfl (by kernel_rfl) hc14 (X_of_Y0 rfl (Y0_mul64 (a := p2) (b := p2) rfl (by kernel_rfl) (by kernel_rfl))) ?_
       refine XL_takeC _ rfl rfl (by kernel_rfl) hc14 (X_of_Y0 rfl (Y0_rem (k := .i64) (a := y12.2.2) (b := w64 (p2 * p2)) rfl (by kernel_rfl) (by kernel_rfl) (nz_some hz15))) ?_
       refine XL_takeC _ rfl rfl (by kernel_rfl) hc14 (X_of_Y0 rfl (Y0_new (k := .i64) (a := Int.tmod y12.2.2 (w64 (p2 * p2))) (b := 0) rfl (by kernel_rfl) (by kernel_rfl))) ?_
       refine XL_cons rfl (X_of_Y0 rfl (Y0_pickFe (b := !eqI (Int.tmod y12.2.1 p2) 0) (p := !eqI (Int.tmod y12.2.2 (w64 (p2 * p2))) 0) rfl (by kernel_rfl) hc14 (by kernel_rfl) hb16)) ?_
       exact XE
     refine V_cond rfl (fun hc17 => ?_) (fun hc17 => ?_)
     ·have h := of_true h hc17
      refine V_exit ?_
      show V _ _ _ _
      obtain ⟨t18, ht18, h⟩ := of_sI h
      refine V_reg (mb 92 5298) [80, 56, 40, 32] (s1 := ⟨.bot :: I p2 :: .bot :: .bot :: .pt 32 0 :: .pt 40 0 :: .bot :: .pt 56 0 :: .bot :: .bot :: .pt 80 0 :: .bot :: I t18 :: bt 79 [], [(80, .box [Ti y5.1.1, Ti y5.1.2.1, Ti y5.1.2.2]), (56, .box [Ti y6.1, Ti y6.2.1, Ti y6.2.2.1, Ti y6.2.2.2]), (40, .box [Ti 0, Ti 0, Ti 0, Ti 0]), (32, .box [Ti 0, Ti 0, Ti 0])]⟩) ?_ ?_
      ·refine XR 3 ?_
       refine XL_nil ?_
       subst ht18
       kernel_rfl
      exact ⟨n, Nat.lt_succ_self n, _,  by rfl, h⟩
     ·have h := of_false h hc17
      refine V_skip ?_
      show V _ _ _ _
      obtain ⟨z19, hz19, h⟩ := of_bind h
      obtain ⟨z20, hz20, h⟩ := of_bind h
      obtain ⟨y21, hy21, h⟩ := of_bind h
      refine V_sdreg [0, 1, 0, 4, 0, 28, 0, 64, 0, 0, 768, 1984, 4095, 8191, 16383, 32767, 32767, 0, 0, 458751, 1048575] 20 [[.z, .z, .b, .b, .b, .b, .b, .b, .b, .b, .b, .b, .z, .z, .z, .z, .z, .b, .b, .z], [.a, .z, .b, .b, .b, .b, .b, .b, .b, .b, .b, .b, .z, .z, .z, .z, .z, .b, .b, .z], [.b, .b, .z, .z, .b, .z, .b, .b, .b, .b, .b, .b, .z, .z, .z, .z, .z, .b, .b, .z], [.b, .b, .a, .z, .b, .z, .b, .b, .b, .b, .b, .b, .z, .z, .z, .z, .z, .b, .b, .z], [.b, .b, .b, .b, .z, .z, .b, .b, .b, .b, .b, .b, .z, .z, .z, .z, .z, .b, .b, .z], [.b, .b, .a, .a, .a, .z, .b, .b, .b, .b, .b, .b, .z, .z, .z, .z, .z, .b, .b, .z], [.b, .b, .b, .b, .b, .b, .z, .z, .b, .b, .b, .z, .z, .z, .z, .z, .z, .b, .b, .z], [.b, .b, .b, .b, .b, .b, .a, .z, .b, .b, .b, .z, .z, .z, .z, .z, .z, .b, .b, .z], [.b, .b, .b, .b, .b, .b, .b, .b, .z, .b, .z, .z, .z, .z, .z, .z, .z, .b, .b, .z], [.b, .b, .b, .b, .b, .b, .b, .b, .b, .z, .z, .z, .z, .z, .z, .z, .z, .b, .b, .z], [.b, .b, .b, .b, .b, .b, .b, .b, .a, .a, .z, .z, .z, .z, .z, .z, .z, .b, .b, .z], [.b, .b, .b, .b, .b, .b, .a, .a, .a, .a, .a, .z, .z, .z, .z, .z, .z, .b, .b, .z], [.a, .a, .a, .a, .a, .a, .a, .a, .a, .a, .a, .a, .z, .z, .z, .z, .z, .b, .b, .z], [.a, .a, .a, .a, .a, .a, .a, .a, .a, .a, .a, .a, .a, .z, .z, .z, .z, .b, .b, .z], [.a, .a, .a, .a, .a, .a, .a, .a, .a, .a, .a, .a, .a, .a, .z, .z, .z, .b, .b, .z], [.a, .a, .a, .a, .a, .a, .a, .a, .a, .a, .a, .a, .a, .a, .a, .z, .b, .b, .b, .z], [.a, .a, .a, .a, .a, .a, .a, .a, .a, .a, .a, .a, .a, .a, .a, .b, .z, .b, .b, .r 112], [.b, .b, .b, .b, .b, .b, .b, .b, .b, .b, .b, .b, .b, .b, .b, .b, .b, .z, .b, .z], [.b, .b, .b, .b, .b, .b, .b, .b, .b, .b, .b, .b, .b, .b, .b, .b, .b, .b, .z, .z], [.a, .a, .a, .a, .a, .a, .a, .a, .a, .a, .a, .a, .a, .a, .a, .a, .b, .a, .a, .z]] (mb 92 53426) [120, 112, 56, 40, 32] (s1 := ⟨.bot :: I p2 :: .bot :: .bot :: .pt 32 0 :: .pt 40 0 :: .bot :: .pt 56 0 :: bt 4 (I t7 :: .bot :: .pt 112 0 :: .pt 120 0 :: bt 76 []), [(120, .box [Ti y21.2.1, Ti y21.2.2.1, Ti y21.2.2.2.1, Ti y21.2.2.2.2]), (112, .box [Ti y21.1.1, Ti y21.1.2.1, Ti y21.1.2.2]), (56, .box [Ti y6.1, Ti y6.2.1, Ti y6.2.2.1, Ti y6.2.2.2]), (40, .box [Ti 0, Ti 0, Ti 0, Ti 0]), (32, .box [Ti 0, Ti 0, Ti 0])]⟩) (by kernel_rfl) (by kernel_rfl) ?_ ?_
      ·refine DR 5 ?_
       refine DE_0 5 (I (w64 (Int.tdiv y12.2.1 p2))) (by kernel_rfl) rfl rfl rfl (gsat_none rfl) (by kernel_rfl) (Y0_quo64 (a := y12.2.1) (b := p2) rfl (by kernel_rfl) (by kernel_rfl) (nz_some hz19)) 66 rfl ?_
       refine DR 5 ?_
       refine DE_0 11 (I (w64 (Int.tdiv y12.2.2 (w64 (p2 * p2))))) (by kernel_rfl) rfl rfl rfl (gsat_none rfl) (by kernel_rfl) (Y0_quo64 (a := y12.2.2) (b := w64 (p2 * p2)) rfl (by kernel_rfl) (by kernel_rfl) (nz_some hz20)) 72 rfl ?_
       refine DE_0 12 (.ag [Ti y12.1, Ti (w64 (Int.tdiv y12.2.1 p2)), Ti (w64 (Int.tdiv y12.2.2 (w64 (p2 * p2))))]) (by kernel_rfl) rfl rfl rfl (gsat_none rfl) (by kernel_rfl) (Y0_build (cs := [Ti y12.1, Ti (w64 (Int.tdiv y12.2.1 p2)), Ti (w64 (Int.tdiv y12.2.2 (w64 (p2 * p2))))]) pl25 bt25 rfl rfl (by kernel_rfl)) 73 rfl ?_
       refine DC 13 (s_spec_reReduce hy21) cf_spec_reReduce rfl rfl rfl rfl 74 rfl ?_
       refine DA 6 ?_
       exact XE
      obtain ⟨y22, hy22, h⟩ := of_bind h
      obtain ⟨y23, hy23, h⟩ := of_bind h
      refine V_sdreg [0, 0, 2, 7, 15] 4 (cdm 4 [40, 2, 6, 21]) (mb 92 49330) [120, 112, 56, 40, 32] (s1 := ⟨.bot :: I p2 :: .bot :: .bot :: .pt 32 0 :: .pt 40 0 :: .bot :: .pt 56 0 :: bt 6 (.pt 112 0 :: .pt 120 0 :: bt 76 []), [(120, .box [Ti y21.2.1, Ti y21.2.2.1, Ti y21.2.2.2.1, Ti y21.2.2.2.2]), (112, .box [Ti y21.1.1, Ti y21.1.2.1, Ti y21.1.2.2]), (56, .box [Ti y23.1, Ti y23.2.1, Ti y23.2.2.1, Ti y23.2.2.2]), (40, .box [Ti 0, Ti 0, Ti 0, Ti 0]), (32, .box [Ti 0, Ti 0, Ti 0])]⟩) (by kernel_rfl) (by kernel_rfl) ?_ ?_
      ·refine DR 2 ?_
       refine DC 2 (s_spec_coShift hy22) cf_spec_coShift rfl rfl rfl rfl 79 rfl ?_
       refine DC 3 (s_spec_foMul hy23) cf_spec_foMul rfl rfl rfl rfl 80 rfl ?_
       refine DA 0 ?_
       exact XE
      obtain ⟨y24, hy24, h⟩ := of_bind h
      obtain ⟨y25, hy25, h⟩ := of_bind h
      obtain ⟨y26, hy26, h⟩ := of_bind h
      obtain ⟨y27, hy27, h⟩ := of_bind h
      refine V_sdreg [0, 0, 2, 0, 8, 30, 0, 126, 254, 511, 1023] 9 (cdm 9 [174760, 8834, 8838, 8234, 8298, 8534, 2730, 5462, 21846]) (mb 92 48) [40, 32] (s1 := ⟨bt 4 (.pt 32 0 :: .pt 40 0 :: bt 86 []), [(40, .box [Ti y27.1, Ti y27.2.1, Ti y27.2.2.1, Ti y27.2.2.2]), (32, .box [Ti y21.1.1, Ti y21.1.2.1, Ti y21.1.2.2])]⟩) (by kernel_rfl) (by kernel_rfl) ?_ ?_
      ·refine DR 2 ?_
       refine DC 2 (s_spec_foInverse hy24) cf_spec_foInverse rfl rfl rfl rfl 83 rfl ?_
       refine DR 1 ?_
       refine DE_0 4 (.ag [Ti 1, Ti 0, Ti 0, Ti p2]) (by kernel_rfl) rfl rfl rfl (gsat_none rfl) (by kernel_rfl) (Y0_build (cs := [Ti 1, Ti 0, Ti 0, Ti p2]) pl31 bt31 rfl rfl (by kernel_rfl)) 85 rfl ?_
       refine DC 5 (s_spec_foMul hy25) cf_spec_foMul rfl rfl rfl rfl 86 rfl ?_
       refine DR 1 ?_
       refine DC 7 (s_spec_foInverse hy26) cf_spec_foInverse rfl rfl rfl rfl 88 rfl ?_
       refine DC 8 (s_spec_foMul hy27) cf_spec_foMul rfl rfl rfl rfl 89 rfl ?_
       refine DA 0 ?_
       exact XE
      refine V_ret ?_
      obtain rfl := some_inj h
      have h := hko9
      obtain rfl := some_inj h
      show Post _ _ _ _ _
      exact ⟨.inr rfl, rfl, rfl, rfl⟩
    ·have h := of_false h hc10
     refine V_exit ?_
     obtain rfl := some_inj h
     exact ⟨_, rfl, by rfl⟩
  rintro o9 rfl
  have h := hko9
  clear hko9
  show V _ _ _ _
  refine V_sreg (mb 92 48) [40, 32] (s1 := ⟨bt 4 (.pt 32 0 :: .pt 40 0 :: bt 86 []), [(40, .box [Ti 0, Ti 0, Ti 0, Ti 0]), (32, .box [Ti 0, Ti 0, Ti 0])]⟩) ?_ ?_
  ·refine L0 rfl rfl (Y0_build (cs := [Ti 0, Ti 0, Ti 0]) pl25 bt25 rfl rfl (by kernel_rfl)) ?_
   refine L0 rfl rfl (Y0_build (cs := [Ti 0, Ti 0, Ti 0, Ti 0]) pl31 bt31 rfl rfl (by kernel_rfl)) ?_
   exact XE
  refine V_ret ?_
  obtain rfl := some_inj h
  show Post _ _ _ _ _
  exact ⟨.inr rfl, rfl, rfl, rfl⟩
theorem cf_spec_DescendForm : ∀ args w, (callFunc 12 args).run Tryz.prog w = .ok (.enter 12 args) w := run_callFunc Tryz.func12 (by kernel_rfl) (by kernel_rfl)
theorem s_spec_DescendForm {f1 : (Int × Int × Int)} {p2 : Int} {r : (((Int × Int × Int)) × Bool)} (h : r_spec_DescendForm f1 p2 = some r) : CallS Tryz.prog 12 [.ag [Ti f1.1, Ti f1.2.1, Ti f1.2.2], I p2] (.tc (.ag [Ti r.1.1, Ti r.1.2.1, Ti r.1.2.2]) (.tc (Bo r.2) .tn)) [] := by
  refine CallS_of_text (rs := [.w 4 3, .t 5]) (vs := [.cell 4 25, .tmp 5]) Tryz.func12 rfl rfl (.cons ⟨rfl, wd25⟩ (.cons rfl FitsL.nil)) (by decide) 20 rfl ?_
  unfold r_spec_DescendForm at h
  show V _ _ ⟨.ag [Ti f1.1, Ti f1.2.1, Ti f1.2.2] :: I p2 :: bt 18 [], []⟩ _
  refine V_e (mb 20 22) [32, 16] (s1 := ⟨.bot :: I p2 :: .pt 16 0 :: .bot :: .pt 32 0 :: bt 15 [], [(32, .box [Ti 0, Ti 0, Ti 0]), (16, .box [Ti f1.1, Ti f1.2.1, Ti f1.2.2])]⟩) ?_
  refine V_seq ?_
  obtain ⟨y3, hy3, h⟩ := of_bind h
  refine V_sreg (mb 20 2070) [32, 16] (s1 := ⟨.bot :: I p2 :: .pt 16 0 :: .bot :: .pt 32 0 :: bt 6 (Bo (!y3) :: bt 8 []), [(32, .box [Ti 0, Ti 0, Ti 0]), (16, .box [Ti f1.1, Ti f1.2.1, Ti f1.2.2])]⟩) ?_ ?_
  ·refine XR 2 ?_
   refine XC (s_spec_odDown hy3) cf_spec_odDown rfl rfl rfl ?_
   exact XE
  refine V_cond rfl (fun hc4 => ?_) (fun hc4 => ?_)
  ·have h := of_true h hc4
   refine V_sreg (mb 20 48) [32] (s1 := ⟨bt 4 (.pt 32 0 :: Bo false :: bt 14 []), [(32, .box [Ti 0, Ti 0, Ti 0])]⟩) ?_ ?_
   ·refine L0 rfl rfl (Y0_build (cs := [Ti 0, Ti 0, Ti 0]) pl25 bt25 rfl rfl (by kernel_rfl)) ?_
    exact XE
   refine V_ret ?_
   obtain rfl := some_inj h
   show Post _ _ _ _ _
   exact ⟨.inr rfl, rfl, rfl, rfl⟩
  ·have h := of_false h hc4
   refine V_skip ?_
   show V _ _ _ _
   obtain ⟨y5, hy5, h⟩ := of_bind h
   refine V_sreg (mb 20 80) [48, 32] (s1 := ⟨bt 4 (.pt 32 0 :: .bot :: .pt 48 0 :: bt 13 []), [(48, .box [Ti y5.1.1, Ti y5.1.2.1, Ti y5.1.2.2]), (32, .box [Ti 0, Ti 0, Ti 0])]⟩) ?_ ?_
   ·refine XR 2 ?_
    refine XC (s_spec_odDescend hy5) cf_spec_odDescend rfl rfl rfl ?_
    exact XE
   refine V_e (mb 20 48) [32] (s1 := ⟨bt 4 (.pt 32 0 :: Bo true :: bt 14 []), [(32, .box [Ti y5.1.1, Ti y5.1.2.1, Ti y5.1.2.2])]⟩) ?_
   refine V_ret ?_
   obtain rfl := some_inj h
   show Post _ _ _ _ _
   exact ⟨.inr rfl, rfl, rfl, rfl⟩
theorem cf_laws_FnIndexSublattices : ∀ args w, (callFunc 5 args).run Tryz.prog w = .ok (.enter 5 args) w := run_callFunc Tryz.func5 (by kernel_rfl) (by kernel_rfl)
theorem s_laws_FnIndexSublattices {code1 : List Int} {more2 : List Int} {r : Bool} (h : r_laws_FnIndexSublattices code1 more2 = some r) : CallS Tryz.prog 5 [.c (.sl (code1.map c5)), .c (.sl (more2.map c5))] (Bo r) [] := by
  refine CallS_of_text (rs := [.t 4]) (vs := [.tmp 4]) Tryz.func5 rfl rfl (.cons rfl FitsL.nil) (by decide) 220 rfl ?_
  unfold r_laws_FnIndexSublattices at h
  show V _ _ ⟨.c (.sl (code1.map c5)) :: .c (.sl (more2.map c5)) :: bt 218 [], []⟩ _
  refine V_e (mb 220 3) [] (s1 := ⟨.c (.sl (code1.map c5)) :: .c (.sl (more2.map c5)) :: bt 218 [], []⟩) ?_
  refine V_seq ?_
  obtain ⟨y3, hy3, h⟩ := of_bind h
  refine V_sreg (mb 220 2199023255553) [] (s1 := ⟨.c (.sl (code1.map c5)) :: bt 40 (Bo y3 :: bt 178 []), []⟩) ?_ ?_
  ·refine XR 2 ?_
   refine XC (s_laws_big hy3) cf_laws_big rfl rfl rfl ?_
   exact XE
  refine V_cond rfl (fun hc4 => ?_) (fun hc4 => ?_)
  ·have h := of_true h hc4
   refine V_e (mb 220 16) [] (s1 := ⟨bt 4 (Bo true :: bt 215 []), []⟩) ?_
   refine V_ret ?_
   obtain rfl := some_inj h
   show Post _ _ _ _ _
   exact ⟨.inr rfl, rfl, rfl, rfl⟩
  ·have h := of_false h hc4
   refine V_skip ?_
   show V _ _ _ _
   obtain ⟨y5, hy5, h⟩ := of_bind h
   refine V_sreg (mb 220 96) [40] (s1 := ⟨bt 5 (.pt 40 0 :: I y5.2 :: bt 213 []), [(40, .box [Ti y5.1.1, Ti y5.1.2.1, Ti y5.1.2.2])]⟩) ?_ ?_
   ·refine XR 1 ?_
    refine XC (s_spec_DrawSublatticeClasses hy5) cf_spec_DrawSublatticeClasses rfl rfl rfl ?_
    exact XE
   obtain ⟨y6, hy6, h⟩ := of_bind h
   refine V_sreg (mb 220 480) [400, 40] (s1 := ⟨bt 5 (.pt 40 0 :: I y5.2 :: .ow 400 :: Bo y6.2 :: bt 211 []), [(400, .arr 25 3 (y6.1.map c25)), (40, .box [Ti y5.1.1, Ti y5.1.2.1, Ti y5.1.2.2])]⟩) ?_ ?_
   ·refine XR 2 ?_
    refine XC (s_impl_SublatticeClasses hy6) cf_impl_SublatticeClasses rfl rfl rfl ?_
    exact XE
   obtain ⟨y7, hy7, h⟩ := of_bind h
   refine V_sreg (mb 220 2016) [448, 400, 40] (s1 := ⟨bt 5 (.pt 40 0 :: I y5.2 :: .ow 400 :: Bo y6.2 :: .ow 448 :: Bo y7.2 :: bt 209 []), [(448, .arr 25 3 (y7.1.map c25)), (400, .arr 25 3 (y6.1.map c25)), (40, .box [Ti y5.1.1, Ti y5.1.2.1, Ti y5.1.2.2])]⟩) ?_ ?_
   ·refine XR 2 ?_
    refine XC (s_spec_SublatticeClasses hy7) cf_spec_SublatticeClasses rfl rfl rfl ?_
    exact XE
   refine V_seq ?_
   obtain ⟨b10, hb10, h⟩ := of_bind h
   refine V_sreg (mb 220 147573952589676413408) [400, 40] (s1 := ⟨bt 5 (.pt 40 0 :: I y5.2 :: .ow 400 :: Bo y6.2 :: bt 58 (Bo b10 :: bt 152 [])), [(400, .arr 25 3 (y6.1.map c25)), (40, .box [Ti y5.1.1, Ti y5.1.2.1, Ti y5.1.2.2])]⟩) ?_ ?_
   ·refine XR 2 ?_
    refine L0 rfl rfl (Y0_neb (a := y6.2) (b := y7.2) Tryz.underlying4 rfl (by kernel_rfl) (by kernel_rfl)) ?_
    refine XR 1 ?_
    refine XL_split (y6.2 != y7.2) (fun hc8 => ?_) (fun hc8 => ?_)
    ·have hb10 := some_inj (of_true hb10 hc8)
     refine XL_skipF _ rfl rfl (by kernel_rfl) hc8 rfl ?_
     refine XL_skipF _ rfl rfl (by kernel_rfl) hc8 rfl ?_
     refine XL_skipF _ rfl rfl (by kernel_rfl) hc8 rfl ?_
     refine XL_skipF _ rfl rfl (by kernel_rfl) hc8 rfl ?_
     refine XL_cons rfl (X_of_Y0 rfl (Y0_pickTe (b := y6.2 != y7.2) (p := true) rfl (by kernel_rfl) hc8 (by kernel_rfl) hb10)) ?_
     exact XE
    ·have hb10 := of_false hb10 hc8
     obtain ⟨y9, hy9, hb10⟩ := of_bind hb10
     have hb10 := some_inj hb10
     refine XL_takeC _ rfl rfl (by kernel_rfl) hc8 (X_of_Y0 rfl (E_move (.ow 400) rfl (by kernel_rfl))) ?_
     refine XL_takeC _ rfl rfl (by kernel_rfl) hc8 (X_of_Y0 rfl (E_move (.ow 448) rfl (by kernel_rfl))) ?_
     refine XL_takeC _ rfl rfl (by kernel_rfl) hc8 (X_of_Y1 rfl (Y1_callS (s_laws_qForms hy9) cf_laws_qForms rfl (by kernel_rfl) rfl rfl)) ?_
     refine XL_takeC _ rfl rfl (by kernel_rfl) hc8 (X_of_Y0 rfl (Y0_not (b := y9) rfl (by kernel_rfl))) ?_
     refine XL_cons rfl (X_of_Y0 rfl (Y0_pickFe (b := y6.2 != y7.2) (p := !y9) rfl (by kernel_rfl) hc8 (by kernel_rfl) hb10)) ?_
     exact XE
   refine V_cond rfl (fun hc11 => ?_) (fun hc11 => ?_)
   ·have h := of_true h hc11
    refine V_e (mb 220 16) [] (s1 := ⟨bt 4 (Bo false :: bt 215 []), []⟩) ?_
    refine V_ret ?_
    obtain rfl := some_inj h
    show Post _ _ _ _ _
    exact ⟨.inr rfl, rfl, rfl, rfl⟩
   ·have h := of_false h hc11
    refine V_skip ?_
    show V _ _ _ _
    refine V_seq ?_
    refine V_e (mb 220 590295810358705651936) [400, 40] (s1 := ⟨bt 5 (.pt 40 0 :: I y5.2 :: .ow 400 :: bt 61 (Bo (!y6.2) :: bt 150 [])), [(400, .arr 25 3 (y6.1.map c25)), (40, .box [Ti y5.1.1, Ti y5.1.2.1, Ti y5.1.2.2])]⟩) ?_
    refine V_cond rfl (fun hc12 => ?_) (fun hc12 => ?_)
    ·have h := of_true h hc12
     refine V_e (mb 220 16) [] (s1 := ⟨bt 4 (Bo true :: bt 215 []), []⟩) ?_
     refine V_ret ?_
     obtain rfl := some_inj h
     show Post _ _ _ _ _
     exact ⟨.inr rfl, rfl, rfl, rfl⟩
    ·have h := of_false h hc12
     refine V_skip ?_
     show V _ _ _ _
     obtain ⟨y13, hy13, h⟩ := of_bind h
     refine V_sreg (mb 220 10464) [88, 400, 40] (s1 := ⟨bt 5 (.pt 40 0 :: I y5.2 :: .ow 400 :: bt 3 (.pt 88 0 :: .bot :: Bo y13.2.2 :: bt 206 [])), [(88, .box [Ti y13.1.1, Ti y13.1.2.1, Ti y13.1.2.2]), (400, .arr 25 3 (y6.1.map c25)), (40, .box [Ti y5.1.1, Ti y5.1.2.1, Ti y5.1.2.2])]⟩) ?_ ?_
     ·refine XR 1 ?_
      refine XC (s_impl_ReduceForm hy13) cf_impl_ReduceForm rfl rfl rfl ?_
      exact XE
     obtain ⟨y14, hy14, h⟩ := of_bind h
     refine V_sreg (mb 220 59616) [624, 88, 400, 40] (s1 := ⟨bt 5 (.pt 40 0 :: I y5.2 :: .ow 400 :: bt 3 (.pt 88 0 :: .bot :: Bo y13.2.2 :: .ow 624 :: Bo y14.2 :: bt 204 [])), [(624, .arr 62 3 (y14.1.map c62)), (88, .box [Ti y13.1.1, Ti y13.1.2.1, Ti y13.1.2.2]), (400, .arr 25 3 (y6.1.map c25)), (40, .box [Ti y5.1.1, Ti y5.1.2.1, Ti y5.1.2.2])]⟩) ?_ ?_
     ·refine XR 1 ?_
      refine XC (s_impl_SublatticesOf hy14) cf_impl_SublatticesOf rfl rfl rfl ?_
      exact XE
     obtain ⟨y15, hy15, h⟩ := of_bind h
     refine V_sreg (mb 220 256192) [672, 624, 88, 400] (s1 := ⟨bt 6 (I y5.2 :: .ow 400 :: bt 3 (.pt 88 0 :: .bot :: Bo y13.2.2 :: .ow 624 :: Bo y14.2 :: .ow 672 :: Bo y15.2 :: bt 202 [])), [(672, .arr 25 3 (y15.1.map c25)), (624, .arr 62 3 (y14.1.map c62)), (88, .box [Ti y13.1.1, Ti y13.1.2.1, Ti y13.1.2.2]), (400, .arr 25 3 (y6.1.map c25))]⟩) ?_ ?_
     ·refine XR 2 ?_
      refine XC (s_impl_LowerClasses hy15) cf_impl_LowerClasses rfl rfl rfl ?_
      exact XE
     refine V_seq ?_
     obtain ⟨t20, ht20, h⟩ := of_bind h
     have ht20 := some_inj ht20
     refine V_sreg (mb 220 1298074214633706907132624082389184) [672, 624, 88, 400] (s1 := ⟨bt 6 (I y5.2 :: .ow 400 :: bt 3 (.pt 88 0 :: .bot :: .bot :: .ow 624 :: .bot :: .ow 672 :: bt 93 (Bo t20 :: bt 109 []))), [(672, .arr 25 3 (y15.1.map c25)), (624, .arr 62 3 (y14.1.map c62)), (88, .box [Ti y13.1.1, Ti y13.1.2.1, Ti y13.1.2.2]), (400, .arr 25 3 (y6.1.map c25))]⟩) ?_ ?_
     ·refine XR 3 ?_
      refine XL_split (!y13.2.2) (fun hc16 => ?_) (fun hc16 => ?_)
      ·refine XL_skipF _ rfl rfl (by kernel_rfl) hc16 rfl ?_
       refine XL_skipF _ rfl rfl (by kernel_rfl) hc16 rfl ?_
       refine XL_cons rfl (X_of_Y0 rfl (Y0_pick1 (b := !y13.2.2) (p := true) (q := !y14.2) rfl (by kernel_rfl) hc16 (by kernel_rfl))) ?_
       refine XR 1 ?_
       refine XL_split (bif (!y13.2.2) then true else (!y14.2)) (fun hc17 => ?_) (fun hc17 => ?_)
       ·refine XL_skipF _ rfl rfl (by kernel_rfl) hc17 rfl ?_
        refine XL_skipF _ rfl rfl (by kernel_rfl) hc17 rfl ?_
        refine XL_cons rfl (X_of_Y0 rfl (Y0_pick1 (b := bif (!y13.2.2) then true else (!y14.2)) (p := true) (q := !y15.2) rfl (by kernel_rfl) hc17 (by kernel_rfl))) ?_
        refine XR 1 ?_
        refine XL_split (bif (bif (!y13.2.2) then true else (!y14.2)) then true else (!y15.2)) (fun hc18 => ?_) (fun hc18 => ?_)
        ·refine XL_skipF _ rfl rfl (by kernel_rfl) hc18 rfl ?_
         refine XL_skipF _ rfl rfl (by kernel_rfl) hc18 rfl ?_
         refine XL_skipF _ rfl rfl (by kernel_rfl) hc18 rfl ?_
         refine XL_skipF _ rfl rfl (by kernel_rfl) hc18 rfl ?_
         refine XL_skipF _ rfl rfl (by kernel_rfl) hc18 rfl ?_
         refine XL_cons rfl (X_of_Y0 rfl (Y0_pick1 (b := bif (bif (!y13.2.2) then true else (!y14.2)) then true else (!y15.2)) (p := true) (q := !eqI ((y6.1.length : Int)) (w64 (y5.2 + 1))) rfl (by kernel_rfl) hc18 (by kernel_rfl))) ?_
         refine XR 1 ?_
         refine XL_split (bif (bif (bif (!y13.2.2) then true else (!y14.2)) then true else (!y15.2)) then true else (!eqI ((y6.1.length : Int)) (w64 (y5.2 + 1)))) (fun hc19 => ?_) (fun hc19 => ?_)
         ·refine XL_skipF _ rfl rfl (by kernel_rfl) hc19 rfl ?_
          refine XL_skipF _ rfl rfl (by kernel_rfl) hc19 rfl ?_
          refine XL_skipF _ rfl rfl (by kernel_rfl) hc19 rfl ?_
          refine XL_skipF _ rfl rfl (by kernel_rfl) hc19 rfl ?_
          refine XL_skipF _ rfl rfl (by kernel_rfl) hc19 rfl ?_
          refine XL_cons rfl (X_of_Y0 rfl (Y0_pick1 (b := bif (bif (bif (!y13.2.2) then true else (!y14.2)) then true else (!y15.2)) then true else (!eqI ((y6.1.length : Int)) (w64 (y5.2 + 1)))) (p := true) (q := !eqI ((y14.1.length : Int)) (w64 (y5.2 + 1))) rfl (by kernel_rfl) hc19 (by kernel_rfl))) ?_
          refine XL_nil ?_
          subst ht20
          kernel_rfl
         ·refine XL_takeC _ rfl rfl (by kernel_rfl) hc19 (X_of_Y0 rfl (E_move (.ow 624) rfl (by kernel_rfl))) ?_
          refine XL_takeC _ rfl rfl (by kernel_rfl) hc19 (X_of_Y0 rfl (Y0_lenM (c := c62) (xs := y14.1) Tryz.underlying58 rfl (by kernel_rfl))) ?_
          refine XL_takeC _ rfl rfl (by kernel_rfl) hc19 (X_of_Y0 rfl (E_move (I y5.2) rfl (by kernel_rfl))) ?_
          refine XL_takeC _ rfl rfl (by kernel_rfl) hc19 (X_of_Y0 rfl (Y0_add64 (a := y5.2) (b := 1) rfl (by kernel_rfl) (by kernel_rfl))) ?_
          refine XL_takeC _ rfl rfl (by kernel_rfl) hc19 (X_of_Y0 rfl (Y0_new (k := .i64) (a := (y14.1.length : Int)) (b := w64 (y5.2 + 1)) rfl (by kernel_rfl) (by kernel_rfl))) ?_
          refine XL_cons rfl (X_of_Y0 rfl (Y0_pick0 (b := bif (bif (bif (!y13.2.2) then true else (!y14.2)) then true else (!y15.2)) then true else (!eqI ((y6.1.length : Int)) (w64 (y5.2 + 1)))) (p := true) (q := !eqI ((y14.1.length : Int)) (w64 (y5.2 + 1))) rfl (by kernel_rfl) hc19 (by kernel_rfl))) ?_
          refine XL_nil ?_
          subst ht20
          kernel_rfl
        ·refine XL_takeC _ rfl rfl (by kernel_rfl) hc18 (X_of_Y0 rfl (E_move (.ow 400) rfl (by kernel_rfl))) ?_
         refine XL_takeC _ rfl rfl (by kernel_rfl) hc18 (X_of_Y0 rfl (Y0_lenM (c := c25) (xs := y6.1) Tryz.underlying38 rfl (by kernel_rfl))) ?_
         refine XL_takeC _ rfl rfl (by kernel_rfl) hc18 (X_of_Y0 rfl (E_move (I y5.2) rfl (by kernel_rfl))) ?_
         refine XL_takeC _ rfl rfl (by kernel_rfl) hc18 (X_of_Y0 rfl (Y0_add64 (a := y5.2) (b := 1) rfl (by kernel_rfl) (by kernel_rfl))) ?_
         refine XL_takeC _ rfl rfl (by kernel_rfl) hc18 (X_of_Y0 rfl (Y0_new (k := .i64) (a := (y6.1.length : Int)) (b := w64 (y5.2 + 1)) rfl (by kernel_rfl) (by kernel_rfl))) ?_
         refine XL_cons rfl (X_of_Y0 rfl (Y0_pick0 (b := bif (bif (!y13.2.2) then true else (!y14.2)) then true else (!y15.2)) (p := true) (q := !eqI ((y6.1.length : Int)) (w64 (y5.2 + 1))) rfl (by kernel_rfl) hc18 (by kernel_rfl))) ?_
         refine XR 1 ?_
         refine XL_split (bif (bif (bif (!y13.2.2) then true else (!y14.2)) then true else (!y15.2)) then true else (!eqI ((y6.1.length : Int)) (w64 (y5.2 + 1)))) (fun hc19 => ?_) (fun hc19 => ?_)
         ·refine XL_skipF _ rfl rfl (by kernel_rfl) hc19 rfl ?_
          refine XL_skipF _ rfl rfl (by kernel_rfl) hc19 rfl ?_
          refine XL_skipF _ rfl rfl (by kernel_rfl) hc19 rfl ?_
          refine XL_skipF _ rfl rfl (by kernel_rfl) hc19 rfl ?_
          refine XL_skipF _ rfl rfl (by kernel_rfl) hc19 rfl ?_
          refine XL_cons rfl (X_of_Y0 rfl (Y0_pick1 (b := bif (bif (bif (!y13.2.2) then true else (!y14.2)) then true else (!y15.2)) then true else (!eqI ((y6.1.length : Int)) (w64 (y5.2 + 1)))) (p := true) (q := !eqI ((y14.1.length : Int)) (w64 (y5.2 + 1))) rfl (by kernel_rfl) hc19 (by kernel_rfl))) ?_
          refine XL_nil ?_
          subst ht20
          kernel_rfl
         ·refine XL_takeC _ rfl rfl (by kernel_rfl) hc19 (X_of_Y0 rfl (E_move (.ow 624) rfl (by kernel_rfl))) ?_
          refine XL_takeC _ rfl rfl (by kernel_rfl) hc19 (X_of_Y0 rfl (Y0_lenM (c := c62) (xs := y14.1) Tryz.underlying58 rfl (by kernel_rfl))) ?_
          refine XL_takeC _ rfl rfl (by kernel_rfl) hc19 (X_of_Y0 rfl (E_move (I y5.2) rfl (by kernel_rfl))) ?_
          refine XL_takeC _ rfl rfl (by kernel_rfl) hc19 (X_of_Y0 rfl (Y0_add64 (a := y5.2) (b := 1) rfl (by kernel_rfl) (by kernel_rfl))) ?_
          refine XL_takeC _ rfl rfl (by kernel_rfl) hc19 (X_of_Y0 rfl (Y0_new (k := .i64) (a := (y14.1.length : Int)) (b := w64 (y5.2 + 1)) rfl (by kernel_rfl) (by kernel_rfl))) ?_
          refine XL_cons rfl (X_of_Y0 rfl (Y0_pick0 (b := bif (bif (bif (!y13.2.2) then true else (!y14.2)) then true else (!y15.2)) then true else (!eqI ((y6.1.length : Int)) (w64 (y5.2 + 1)))) (p := true) (q := !eqI ((y14.1.length : Int)) (w64 (y5.2 + 1))) rfl (by kernel_rfl) hc19 (by kernel_rfl))) ?_
          refine XL_nil ?_
          subst ht20
          kernel_rfl
       ·refine XL_takeC _ rfl rfl (by kernel_rfl) hc17 (X_of_Y0 rfl (E_move (Bo y15.2) rfl (by kernel_rfl))) ?_
        refine XL_takeC _ rfl rfl (by kernel_rfl) hc17 (X_of_Y0 rfl (Y0_not (b := y15.2) rfl (by kernel_rfl))) ?_
        refine XL_cons rfl (X_of_Y0 rfl (Y0_pick0 (b := bif (!y13.2.2) then true else (!y14.2)) (p := true) (q := !y15.2) rfl (by kernel_rfl) hc17 (by kernel_rfl))) ?_
        refine XR 1 ?_
        refine XL_split (bif (bif (!y13.2.2) then true else (!y14.2)) then true else (!y15.2)) (fun hc18 => ?_) (fun hc18 => ?_)
        ·refine XL_skipF _ rfl rfl (by kernel_rfl) hc18 rfl ?_
         refine XL_skipF _ rfl rfl (by kernel_rfl) hc18 rfl ?_
         refine XL_skipF _ rfl rfl (by kernel_rfl) hc18 rfl ?_
         refine XL_skipF _ rfl rfl (by kernel_rfl) hc18 rfl ?_
         refine XL_skipF _ rfl rfl (by kernel_rfl) hc18 rfl ?_
         refine XL_cons rfl (X_of_Y0 rfl (Y0_pick1 (b := bif (bif (!y13.2.2) then true else (!y14.2)) then true else (!y15.2)) (p := true) (q := !eqI ((y6.1.length : Int)) (w64 (y5.2 + 1))) rfl (by kernel_rfl) hc18 (by kernel_rfl))) ?_
         refine XR 1 ?_
         refine XL_split (bif (bif (bif (!y13.2.2) then true else (!y14.2)) then true else (!y15.2)) then true else (!eqI ((y6.1.length : Int)) (w64 (y5.2 + 1)))) (fun hc19 => ?_) (fun hc19 => ?_)
         ·refine XL_skipF _ rfl rfl (by kernel_rfl) hc19 rfl ?_
          refine XL_skipF _ rfl rfl (by kernel_rfl) hc19 rfl ?_
          refine XL_skipF _ rfl rfl (by kernel_rfl) hc19 rfl ?_
          refine XL_skipF _ rfl rfl (by kernel_rfl) hc19 rfl ?_
          refine XL_skipF _ rfl rfl (by kernel_rfl) hc19 rfl ?_
          refine XL_cons rfl (X_of_Y0 rfl (Y0_pick1 (b := bif (bif (bif (!y13.2.2) then true else (!y14.2)) then true else (!y15.2)) then true else (!eqI ((y6.1.length : Int)) (w64 (y5.2 + 1)))) (p := true) (q := !eqI ((y14.1.length : Int)) (w64 (y5.2 + 1))) rfl (by kernel_rfl) hc19 (by kernel_rfl))) ?_
          refine XL_nil ?_
          subst ht20
          kernel_rfl
         ·refine XL_takeC _ rfl rfl (by kernel_rfl) hc19 (X_of_Y0 rfl (E_move (.ow 624) rfl (by kernel_rfl))) ?_
          refine XL_takeC _ rfl rfl (by kernel_rfl) hc19 (X_of_Y0 rfl (Y0_lenM (c := c62) (xs := y14.1) Tryz.underlying58 rfl (by kernel_rfl))) ?_
          refine XL_takeC _ rfl rfl (by kernel_rfl) hc19 (X_of_Y0 rfl (E_move (I y5.2) rfl (by kernel_rfl))) ?_
          refine XL_takeC _ rfl rfl (by kernel_rfl) hc19 (X_of_Y0 rfl (Y0_add64 (a := y5.2) (b := 1) rfl (by kernel_rfl) (by kernel_rfl))) ?_
          refine XL_takeC _ rfl rfl (by kernel_rfl) hc19 (X_of_Y0 rfl (Y0_new (k := .i64) (a := (y14.1.length : Int)) (b := w64 (y5.2 + 1)) rfl (by kernel_rfl) (by kernel_rfl))) ?_
          refine XL_cons rfl (X_of_Y0 rfl (Y0_pick0 (b := bif (bif (bif (!y13.2.2) then true else (!y14.2)) then true else (!y15.2)) then true else (!eqI ((y6.1.length : Int)) (w64 (y5.2 + 1)))) (p := true) (q := !eqI ((y14.1.length : Int)) (w64 (y5.2 + 1))) rfl (by kernel_rfl) hc19 (by kernel_rfl))) ?_
          refine XL_nil ?_
          subst ht20
          kernel_rfl
        ·refine XL_takeC _ rfl rfl (by kernel_rfl) hc18 (X_of_Y0 rfl (E_move (.ow 400) rfl (by kernel_rfl))) ?_
         refine XL_takeC _ rfl rfl (by kernel_rfl) hc18 (X_of_Y0 rfl (Y0_lenM (c := c25) (xs := y6.1) Tryz.underlying38 rfl (by kernel_rfl))) ?_
         refine XL_takeC _ rfl rfl (by kernel_rfl) hc18 (X_of_Y0 rfl (E_move (I y5.2) rfl (by kernel_rfl))) ?_
         refine XL_takeC _ rfl rfl (by kernel_rfl) hc18 (X_of_Y0 rfl (Y0_add64 (a := y5.2) (b := 1) rfl (by kernel_rfl) (by kernel_rfl))) ?_
         refine XL_takeC _ rfl rfl (by kernel_rfl) hc18 (X_of_Y0 rfl (Y0_new (k := .i64) (a := (y6.1.length : Int)) (b := w64 (y5.2 + 1)) rfl (by kernel_rfl) (by kernel_rfl))) ?_
         refine XL_cons rfl (X_of_Y0 rfl (Y0_pick0 (b := bif (bif (!y13.2.2) then true else (!y14.2)) then true else (!y15.2)) (p := true) (q := !eqI ((y6.1.length : Int)) (w64 (y5.2 + 1))) rfl (by kernel_rfl) hc18 (by kernel_rfl))) ?_
         refine XR 1 ?_
         refine XL_split (bif (bif (bif (!y13.2.2) then true else (!y14.2)) then true else (!y15.2)) then true else (!eqI ((y6.1.length : Int)) (w64 (y5.2 + 1)))) (fun hc19 => ?_) (fun hc19 => ?_)
         ·refine XL_skipF _ rfl rfl (by kernel_rfl) hc19 rfl ?_
          refine XL_skipF _ rfl rfl (by kernel_rfl) hc19 rfl ?_
          refine XL_skipF _ rfl rfl (by kernel_rfl) hc19 rfl ?_
          refine XL_skipF _ rfl rfl (by kernel_rfl) hc19 rfl ?_
          refine XL_skipF _ rfl rfl (by kernel_rfl) hc19 rfl ?_
          refine XL_cons rfl (X_of_Y0 rfl (Y0_pick1 (b := bif (bif (bif (!y13.2.2) then true else (!y14.2)) then true else (!y15.2)) then true else (!eqI ((y6.1.length : Int)) (w64 (y5.2 + 1)))) (p := true) (q := !eqI ((y14.1.length : Int)) (w64 (y5.2 + 1))) rfl (by kernel_rfl) hc19 (by kernel_rfl))) ?_
          refine XL_nil ?_
          subst ht20
          kernel_rfl
         ·refine XL_takeC _ rfl rfl (by kernel_rfl) hc19 (X_of_Y0 rfl (E_move (.ow 624) rfl (by kernel_rfl))) ?_
          refine XL_takeC _ rfl rfl (by kernel_rfl) hc19 (X_of_Y0 rfl (Y0_lenM (c := c62) (xs := y14.1) Tryz.underlying58 rfl (by kernel_rfl))) ?_
          refine XL_takeC _ rfl rfl (by kernel_rfl) hc19 (X_of_Y0 rfl (E_move (I y5.2) rfl (by kernel_rfl))) ?_
          refine XL_takeC _ rfl rfl (by kernel_rfl) hc19 (X_of_Y0 rfl (Y0_add64 (a := y5.2) (b := 1) rfl (by kernel_rfl) (by kernel_rfl))) ?_
          refine XL_takeC _ rfl rfl (by kernel_rfl) hc19 (X_of_Y0 rfl (Y0_new (k := .i64) (a := (y14.1.length : Int)) (b := w64 (y5.2 + 1)) rfl (by kernel_rfl) (by kernel_rfl))) ?_
          refine XL_cons rfl (X_of_Y0 rfl (Y0_pick0 (b := bif (bif (bif (!y13.2.2) then true else (!y14.2)) then true else (!y15.2)) then true else (!eqI ((y6.1.length : Int)) (w64 (y5.2 + 1)))) (p := true) (q := !eqI ((y14.1.length : Int)) (w64 (y5.2 + 1))) rfl (by kernel_rfl) hc19 (by kernel_rfl))) ?_
          refine XL_nil ?_
          subst ht20
          kernel_rfl
      ·refine XL_takeC _ rfl rfl (by kernel_rfl) hc16 (X_of_Y0 rfl (E_move (Bo y14.2) rfl (by kernel_rfl))) ?_
       refine XL_takeC _ rfl rfl (by kernel_rfl) hc16 (X_of_Y0 rfl (Y0_not (b := y14.2) rfl (by kernel_rfl))) ?_
       refine XL_cons rfl (X_of_Y0 rfl (Y0_pick0 (b := !y13.2.2) (p := true) (q := !y14.2) rfl (by kernel_rfl) hc16 (by kernel_rfl))) ?_
       refine XR 1 ?_
       refine XL_split (bif (!y13.2.2) then true else (!y14.2)) (fun hc17 => ?_) (fun hc17 => ?_)
       ·refine XL_skipF _ rfl rfl (by kernel_rfl) hc17 rfl ?_
        refine XL_skipF _ rfl rfl (by kernel_rfl) hc17 rfl ?_
        refine XL_cons rfl (X_of_Y0 rfl (Y0_pick1 (b := bif (!y13.2.2) then true else (!y14.2)) (p := true) (q := !y15.2) rfl (by kernel_rfl) hc17 (by kernel_rfl))) ?_
        refine XR 1 ?_
        refine XL_split (bif (bif (!y13.2.2) then true else (!y14.2)) then true else (!y15.2)) (fun hc18 => ?_) (fun hc18 => ?_)
        ·refine XL_skipF _ rfl rfl (by kernel_rfl) hc18 rfl ?_
         refine XL_skipF _ rfl rfl (by kernel_rfl) hc18 rfl ?_
         refine XL_skipF _ rfl rfl (by kernel_rfl) hc18 rfl ?_
         refine XL_skipF _ rfl rfl (by kernel_rfl) hc18 rfl ?_
         refine XL_skipF _ rfl rfl (by kernel_rfl) hc18 rfl ?_
         refine XL_cons rfl (X_of_Y0 rfl (Y0_pick1 (b := bif (bif (!y13.2.2) then true else (!y14.2)) then true else (!y15.2)) (p := true) (q := !eqI ((y6.1.length : Int)) (w64 (y5.2 + 1))) rfl (by kernel_rfl) hc18 (by kernel_rfl))) ?_
         refine XR 1 ?_
         refine XL_split (bif (bif (bif (!y13.2.2) then true else (!y14.2)) then true else (!y15.2)) then true else (!eqI ((y6.1.length : Int)) (w64 (y5.2 + 1)))) (fun hc19 => ?_) (fun hc19 => ?_)
         ·refine XL_skipF _ rfl rfl (by kernel_rfl) hc19 rfl ?_
          refine XL_skipF _ rfl rfl (by kernel_rfl) hc19 rfl ?_
          refine XL_skipF _ rfl rfl (by kernel_rfl) hc19 rfl ?_
          refine XL_skipF _ rfl rfl (by kernel_rfl) hc19 rfl ?_
          refine XL_skipF _ rfl rfl (by kernel_rfl) hc19 rfl ?_
          refine XL_cons rfl (X_of_Y0 rfl (Y0_pick1 (b := bif (bif (bif (!y13.2.2) then true else (!y14.2)) then true else (!y15.2)) then true else (!eqI ((y6.1.length : Int)) (w64 (y5.2 + 1)))) (p := true) (q := !eqI ((y14.1.length : Int)) (w64 (y5.2 + 1))) rfl (by kernel_rfl) hc19 (by kernel_rfl))) ?_
          refine XL_nil ?_
          subst ht20
          kernel_rfl
         ·refine XL_takeC _ rfl rfl (by kernel_rfl) hc19 (X_of_Y0 rfl (E_move (.ow 624) rfl (by kernel_rfl))) ?_
          refine XL_takeC _ rfl rfl (by kernel_rfl) hc19 (X_of_Y0 rfl (Y0_lenM (c := c62) (xs := y14.1) Tryz.underlying58 rfl (by kernel_rfl))) ?_
          refine XL_takeC _ rfl rfl (by kernel_rfl) hc19 (X_of_Y0 rfl (E_move (I y5.2) rfl (by kernel_rfl))) ?_
          refine XL_takeC _ rfl rfl (by kernel_rfl) hc19 (X_of_Y0 rfl (Y0_add64 (a := y5.2) (b := 1) rfl (by kernel_rfl) (by kernel_rfl))) ?_
          refine XL_takeC _ rfl rfl (by kernel_rfl) hc19 (X_of_Y0 rfl (Y0_new (k := .i64) (a := (y14.1.length : Int)) (b := w64 (y5.2 + 1)) rfl (by kernel_rfl) (by kernel_rfl))) ?_
          refine XL_cons rfl (X_of_Y0 rfl (Y0_pick0 (b := bif (bif (bif (!y13.2.2) then true else (!y14.2)) then true else (!y15.2)) then true else (!eqI ((y6.1.length : Int)) (w64 (y5.2 + 1)))) (p := true) (q := !eqI ((y14.1.length : Int)) (w64 (y5.2 + 1))) rfl (by kernel_rfl) hc19 (by kernel_rfl))) ?_
          refine XL_nil ?_
          subst ht20
          kernel_rfl
        ·refine XL_takeC _ rfl rfl (by kernel_rfl) hc18 (X_of_Y0 rfl (E_move (.ow 400) rfl (by kernel_rfl))) ?_
         refine XL_takeC _ rfl rfl (by kernel_rfl) hc18 (X_of_Y0 rfl (Y0_lenM (c := c25) (xs := y6.1) Tryz.underlying38 rfl (by kernel_rfl))) ?_
         refine XL_takeC _ rfl rfl (by kernel_rfl) hc18 (X_of_Y0 rfl (E_move (I y5.2) rfl (by kernel_rfl))) ?_
         refine XL_takeC _ rfl rfl (by kernel_rfl) hc18 (X_of_Y0 rfl (Y0_add64 (a := y5.2) (b := 1) rfl (by kernel_rfl) (by kernel_rfl))) ?_
         refine XL_takeC _ rfl rfl (by kernel_rfl) hc18 (X_of_Y0 rfl (Y0_new (k := .i64) (a := (y6.1.length : Int)) (b := w64 (y5.2 + 1)) rfl (by kernel_rfl) (by kernel_rfl))) ?_
         refine XL_cons rfl (X_of_Y0 rfl (Y0_pick0 (b := bif (bif (!y13.2.2) then true else (!y14.2)) then true else (!y15.2)) (p := true) (q := !eqI ((y6.1.length : Int)) (w64 (y5.2 + 1))) rfl (by kernel_rfl) hc18 (by kernel_rfl))) ?_
         refine XR 1 ?_
         refine XL_split (bif (bif (bif (!y13.2.2) then true else (!y14.2)) then true else (!y15.2)) then true else (!eqI ((y6.1.length : Int)) (w64 (y5.2 + 1)))) (fun hc19 => ?_) (fun hc19 => ?_)
         ·refine XL_skipF _ rfl rfl (by kernel_rfl) hc19 rfl ?_
          refine XL_skipF _ rfl rfl (by kernel_rfl) hc19 rfl ?_
          refine XL_skipF _ rfl rfl (by kernel_rfl) hc19 rfl ?_
          refine XL_skipF _ rfl rfl (by kernel_rfl) hc19 rfl ?_
          refine XL_skipF _ rfl rfl (by kernel_rfl) hc19 rfl ?_
          refine XL_cons rfl (X_of_Y0 rfl (Y0_pick1 (b := bif (bif (bif (!y13.2.2) then true else (!y14.2)) then true else (!y15.2)) then true else (!eqI ((y6.1.length : Int)) (w64 (y5.2 + 1)))) (p := true) (q := !eqI ((y14.1.length : Int)) (w64 (y5.2 + 1))) rfl (by kernel_rfl) hc19 (by kernel_rfl))) ?_
          refine XL_nil ?_
          subst ht20
          kernel_rfl
         ·refine XL_takeC _ rfl rfl (by kernel_rfl) hc19 (X_of_Y0 rfl (E_move (.ow 624) rfl (by kernel_rfl))) ?_
          refine XL_takeC _ rfl rfl (by kernel_rfl) hc19 (X_of_Y0 rfl (Y0_lenM (c := c62) (xs := y14.1) Tryz.underlying58 rfl (by kernel_rfl))) ?_
          refine XL_takeC _ rfl rfl (by kernel_rfl) hc19 (X_of_Y0 rfl (E_move (I y5.2) rfl (by kernel_rfl))) ?_
          refine XL_takeC _ rfl rfl (by kernel_rfl) hc19 (X_of_Y0 rfl (Y0_add64 (a := y5.2) (b := 1) rfl (by kernel_rfl) (by kernel_rfl))) ?_
          refine XL_takeC _ rfl rfl (by kernel_rfl) hc19 (X_of_Y0 rfl (Y0_new (k := .i64) (a := (y14.1.length : Int)) (b := w64 (y5.2 + 1)) rfl (by kernel_rfl) (by kernel_rfl))) ?_
          refine XL_cons rfl (X_of_Y0 rfl (Y0_pick0 (b := bif (bif (bif (!y13.2.2) then true else (!y14.2)) then true else (!y15.2)) then true else (!eqI ((y6.1.length : Int)) (w64 (y5.2 + 1)))) (p := true) (q := !eqI ((y14.1.length : Int)) (w64 (y5.2 + 1))) rfl (by kernel_rfl) hc19 (by kernel_rfl))) ?_
          refine XL_nil ?_
          subst ht20
          kernel_rfl
       ·refine XL_takeC _ rfl rfl (by kernel_rfl) hc17 (X_of_Y0 rfl (E_move (Bo y15.2) rfl (by kernel_rfl))) ?_
        refine XL_takeC _ rfl rfl (by kernel_rfl) hc17 (X_of_Y0 rfl (Y0_not (b := y15.2) rfl (by kernel_rfl))) ?_
        refine XL_cons rfl (X_of_Y0 rfl (Y0_pick0 (b := bif (!y13.2.2) then true else (!y14.2)) (p := true) (q := !y15.2) rfl (by kernel_rfl) hc17 (by kernel_rfl))) ?_
        refine XR 1 ?_
        refine XL_split (bif (bif (!y13.2.2) then true else (!y14.2)) then true else (!y15.2)) (fun hc18 => ?_) (fun hc18 => ?_)
        ·refine XL_skipF _ rfl rfl (by kernel_rfl) hc18 rfl ?_
         refine XL_skipF _ rfl rfl (by kernel_rfl) hc18 rfl ?_
         refine XL_skipF _ rfl rfl (by kernel_rfl) hc18 rfl ?_
         refine XL_skipF _ rfl rfl (by kernel_rfl) hc18 rfl ?_
         refine XL_skipF _ rfl rfl (by kernel_rfl) hc18 rfl ?_
         refine XL_cons rfl (X_of_Y0 rfl (Y0_pick1 (b := bif (bif (!y13.2.2) then true else (!y14.2)) then true else (!y15.2)) (p := true) (q := !eqI ((y6.1.length : Int)) (w64 (y5.2 + 1))) rfl (by kernel_rfl) hc18 (by kernel_rfl))) ?_
         refine XR 1 ?_
         refine XL_split (bif (bif (bif (!y13.2.2) then true else (!y14.2)) then true else (!y15.2)) then true else (!eqI ((y6.1.length : Int)) (w64 (y5.2 + 1)))) (fun hc19 => ?_) (fun hc19 => ?_)
         ·refine XL_skipF _ rfl rfl (by kernel_rfl) hc19 rfl ?_
          refine XL_skipF _ rfl rfl (by kernel_rfl) hc19 rfl ?_
          refine XL_skipF _ rfl rfl (by kernel_rfl) hc19 rfl ?_
          refine XL_skipF _ rfl rfl (by kernel_rfl) hc19 rfl ?_
          refine XL_skipF _ rfl rfl (by kernel_rfl) hc19 rfl ?_
          refine XL_cons rfl (X_of_Y0 rfl (Y0_pick1 (b := bif (bif (bif (!y13.2.2) then true else (!y14.2)) then true else (!y15.2)) then true else (!eqI ((y6.1.length : Int)) (w64 (y5.2 + 1)))) (p := true) (q := !eqI ((y14.1.length : Int)) (w64 (y5.2 + 1))) rfl (by kernel_rfl) hc19 (by kernel_rfl))) ?_
          refine XL_nil ?_
          subst ht20
          kernel_rfl
         ·refine XL_takeC _ rfl rfl (by kernel_rfl) hc19 (X_of_Y0 rfl (E_move (.ow 624) rfl (by kernel_rfl))) ?_
          refine XL_takeC _ rfl rfl (by kernel_rfl) hc19 (X_of_Y0 rfl (Y0_lenM (c := c62) (xs := y14.1) Tryz.underlying58 rfl (by kernel_rfl))) ?_
          refine XL_takeC _ rfl rfl (by kernel_rfl) hc19 (X_of_Y0 rfl (E_move (I y5.2) rfl (by kernel_rfl))) ?_
          refine XL_takeC _ rfl rfl (by kernel_rfl) hc19 (X_of_Y0 rfl (Y0_add64 (a := y5.2) (b := 1) rfl (by kernel_rfl) (by kernel_rfl))) ?_
          refine XL_takeC _ rfl rfl (by kernel_rfl) hc19 (X_of_Y0 rfl (Y0_new (k := .i64) (a := (y14.1.length : Int)) (b := w64 (y5.2 + 1)) rfl (by kernel_rfl) (by kernel_rfl))) ?_
          refine XL_cons rfl (X_of_Y0 rfl (Y0_pick0 (b := bif (bif (bif (!y13.2.2) then true else (!y14.2)) then true else (!y15.2)) then true else (!eqI ((y6.1.length : Int)) (w64 (y5.2 + 1)))) (p := true) (q := !eqI ((y14.1.length : Int)) (w64 (y5.2 + 1))) rfl (by kernel_rfl) hc19 (by kernel_rfl))) ?_
          refine XL_nil ?_
          subst ht20
          kernel_rfl
        ·refine XL_takeC _ rfl rfl (by kernel_rfl) hc18 (X_of_Y0 rfl (E_move (.ow 400) rfl (by kernel_rfl))) ?_
         refine XL_takeC _ rfl rfl (by kernel_rfl) hc18 (X_of_Y0 rfl (Y0_lenM (c := c25) (xs := y6.1) Tryz.underlying38 rfl (by kernel_rfl))) ?_
         refine XL_takeC _ rfl rfl (by kernel_rfl) hc18 (X_of_Y0 rfl (E_move (I y5.2) rfl (by kernel_rfl))) ?_
         refine XL_takeC _ rfl rfl (by kernel_rfl) hc18 (X_of_Y0 rfl (Y0_add64 (a := y5.2) (b := 1) rfl (by kernel_rfl) (by kernel_rfl))) ?_
         refine XL_takeC _ rfl rfl (by kernel_rfl) hc18 (X_of_Y0 rfl (Y0_new (k := .i64) (a := (y6.1.length : Int)) (b := w64 (y5.2 + 1)) rfl (by kernel_rfl) (by kernel_rfl))) ?_
         refine XL_cons rfl (X_of_Y0 rfl (Y0_pick0 (b := bif (bif (!y13.2.2) then true else (!y14.2)) then true else (!y15.2)) (p := true) (q := !eqI ((y6.1.length : Int)) (w64 (y5.2 + 1))) rfl (by kernel_rfl) hc18 (by kernel_rfl))) ?_
         refine XR 1 ?_
         refine XL_split (bif (bif (bif (!y13.2.2) then true else (!y14.2)) then true else (!y15.2)) then true else (!eqI ((y6.1.length : Int)) (w64 (y5.2 + 1)))) (fun hc19 => ?_) (fun hc19 => ?_)
         ·refine XL_skipF _ rfl rfl (by kernel_rfl) hc19 rfl ?_
          refine XL_skipF _ rfl rfl (by kernel_rfl) hc19 rfl ?_
          refine XL_skipF _ rfl rfl (by kernel_rfl) hc19 rfl ?_
          refine XL_skipF _ rfl rfl (by kernel_rfl) hc19 rfl ?_
          refine XL_skipF _ rfl rfl (by kernel_rfl) hc19 rfl ?_
          refine XL_cons rfl (X_of_Y0 rfl (Y0_pick1 (b := bif (bif (bif (!y13.2.2) then true else (!y14.2)) then true else (!y15.2)) then true else (!eqI ((y6.1.length : Int)) (w64 (y5.2 + 1)))) (p := true) (q := !eqI ((y14.1.length : Int)) (w64 (y5.2 + 1))) rfl (by kernel_rfl) hc19 (by kernel_rfl))) ?_
          refine XL_nil ?_
          subst ht20
          kernel_rfl
         ·refine XL_takeC _ rfl rfl (by kernel_rfl) hc19 (X_of_Y0 rfl (E_move (.ow 624) rfl (by kernel_rfl))) ?_
          refine XL_takeC _ rfl rfl (by kernel_rfl) hc19 (X_of_Y0 rfl (Y0_lenM (c := c62) (xs := y14.1) Tryz.underlying58 rfl (by kernel_rfl))) ?_
          refine XL_takeC _ rfl rfl (by kernel_rfl) hc19 (X_of_Y0 rfl (E_move (I y5.2) rfl (by kernel_rfl))) ?_
          refine XL_takeC _ rfl rfl (by kernel_rfl) hc19 (X_of_Y0 rfl (Y0_add64 (a := y5.2) (b := 1) rfl (by kernel_rfl) (by kernel_rfl))) ?_
          refine XL_takeC _ rfl rfl (by kernel_rfl) hc19 (X_of_Y0 rfl (Y0_new (k := .i64) (a := (y14.1.length : Int)) (b := w64 (y5.2 + 1)) rfl (by kernel_rfl) (by kernel_rfl))) ?_
          refine XL_cons rfl (X_of_Y0 rfl (Y0_pick0 (b := bif (bif (bif (!y13.2.2) then true else (!y14.2)) then true else (!y15.2)) then true else (!eqI ((y6.1.length : Int)) (w64 (y5.2 + 1)))) (p := true) (q := !eqI ((y14.1.length : Int)) (w64 (y5.2 + 1))) rfl (by kernel_rfl) hc19 (by kernel_rfl))) ?_
          refine XL_nil ?_
          subst ht20
          kernel_rfl
     refine V_cond rfl (fun hc21 => ?_) (fun hc21 => ?_)
     ·have h := of_true h hc21
      refine V_e (mb 220 16) [] (s1 := ⟨bt 4 (Bo false :: bt 215 []), []⟩) ?_
      refine V_ret ?_
      obtain rfl := some_inj h
      show Post _ _ _ _ _
      exact ⟨.inr rfl, rfl, rfl, rfl⟩
     ·have h := of_false h hc21
      refine V_skip ?_
      show V _ _ _ _
      refine V_sreg (mb 220 346304) [144, 672, 624, 88, 400] (s1 := ⟨bt 6 (I y5.2 :: .ow 400 :: bt 3 (.pt 88 0 :: .bot :: .bot :: .ow 624 :: .bot :: .ow 672 :: .bot :: .ow 144 :: bt 201 [])), [(144, .arr 25 3 ((([] : List ((Int × Int × Int)))).map c25)), (672, .arr 25 3 (y15.1.map c25)), (624, .arr 62 3 (y14.1.map c62)), (88, .box [Ti y13.1.1, Ti y13.1.2.1, Ti y13.1.2.2]), (400, .arr 25 3 (y6.1.map c25))]⟩) ?_ ?_
      ·refine L1 rfl rfl (Y1_nil (e := 25) 3 (by decide) (.inl rfl)) ?_
       exact XE
      refine V_seq ?_
      refine V_sreg (mb 220 18173039004871896699856737152600256) [144, 672, 624, 88, 400] (s1 := ⟨bt 6 (I y5.2 :: .ow 400 :: bt 3 (.pt 88 0 :: bt 4 (.ow 672 :: .bot :: .ow 144 :: bt 92 (.ow 624 :: I ((y14.1.length : Int)) :: I 0 :: bt 106 [])))), [(144, .arr 25 3 ((([] : List ((Int × Int × Int)))).map c25)), (672, .arr 25 3 (y15.1.map c25)), (624, .arr 62 3 (y14.1.map c62)), (88, .box [Ti y13.1.1, Ti y13.1.2.1, Ti y13.1.2.2]), (400, .arr 25 3 (y6.1.map c25))]⟩) ?_ ?_
      ·refine XR 1 ?_
       refine L0 rfl rfl (Y0_lenM (c := c62) (xs := y14.1) Tryz.underlying58 rfl (by kernel_rfl)) ?_
       exact XE
      obtain ⟨qo25, hLo25, hko25⟩ := of_bind h
      refine V_toS (q := qo25) (S := fun o25 => ⟨bt 6 (I y5.2 :: .ow 400 :: bt 3 (.pt 88 0 :: bt 4 (.ow 672 :: .bot :: .ow 144 :: bt 201 []))), [(144, .arr 25 3 (o25.map c25)), (672, .arr 25 3 (y15.1.map c25)), (88, .box [Ti y13.1.1, Ti y13.1.2.1, Ti y13.1.2.2]), (400, .arr 25 3 (y6.1.map c25))]⟩) (mb 220 329920) [144, 672, 88, 400] ?_ ?_
      ·refine V_block (V_loop (fun n s => ∃ (t22 : Int) (l23 : List ((Int × Int × Int))), s.keep (mb 220 18173039004871896699856737152600256) [144, 672, 624, 88, 400] = (⟨bt 6 (I y5.2 :: .ow 400 :: bt 3 (.pt 88 0 :: bt 4 (.ow 672 :: .bot :: .ow 144 :: bt 92 (.ow 624 :: I ((y14.1.length : Int)) :: I t22 :: bt 106 [])))), [(144, .arr 25 3 (l23.map c25)), (672, .arr 25 3 (y15.1.map c25)), (624, .arr 62 3 (y14.1.map c62)), (88, .box [Ti y13.1.1, Ti y13.1.2.1, Ti y13.1.2.2]), (400, .arr 25 3 (y6.1.map c25))]⟩ : St) ∧ r_laws_FnIndexSublattices_L24 y13 y14 y15 y5 y6 n t22 l23 = some qo25) FU ⟨_, _,  by rfl, hLo25⟩ ?_)
       clear hLo25
       rintro n s ⟨t22, l23, hs, h⟩
       refine V_keep _ _ hs ?_
       clear hs
       cases n with
       | zero => cases h
       | succ n =>
        rw [r_laws_FnIndexSublattices_L24] at h
        refine V_e (mb 220 38942226439011207213978722469480640) [144, 672, 624, 88, 400] (s1 := ⟨bt 6 (I y5.2 :: .ow 400 :: bt 3 (.pt 88 0 :: bt 4 (.ow 672 :: .bot :: .ow 144 :: bt 92 (.ow 624 :: I ((y14.1.length : Int)) :: I t22 :: Bo (ltI t22 ((y14.1.length : Int))) :: bt 105 [])))), [(144, .arr 25 3 (l23.map c25)), (672, .arr 25 3 (y15.1.map c25)), (624, .arr 62 3 (y14.1.map c62)), (88, .box [Ti y13.1.1, Ti y13.1.2.1, Ti y13.1.2.2]), (400, .arr 25 3 (y6.1.map c25))]⟩) ?_
        refine V_seq ?_
        refine V_cond rfl (fun hc26 => ?_) (fun hc26 => ?_)
        ·have h := of_true h hc26
         refine V_skip ?_
         show V _ _ _ _
         refine V_seq ?_
         refine V_block ?_
         obtain ⟨e27, he27, h⟩ := of_bind h
         obtain ⟨e28, he28, h⟩ := of_bind h
         refine V_sreg (mb 220 18173039004871896699856737153648832) [160, 144, 672, 624, 88, 400] (s1 := ⟨bt 6 (I y5.2 :: .ow 400 :: bt 3 (.pt 88 0 :: bt 4 (.ow 672 :: .bot :: .ow 144 :: .bot :: .pt 160 0 :: bt 90 (.ow 624 :: I ((y14.1.length : Int)) :: I t22 :: bt 106 [])))), [(160, .box [Ti e28.1, Ti e28.2.1, Ti e28.2.2]), (144, .arr 25 3 (l23.map c25)), (672, .arr 25 3 (y15.1.map c25)), (624, .arr 62 3 (y14.1.map c62)), (88, .box [Ti y13.1.1, Ti y13.1.2.1, Ti y13.1.2.2]), (400, .arr 25 3 (y6.1.map c25))]⟩) ?_ ?_
         ·refine L0 rfl rfl (Y0_idxoM (c := c62) (xs := y14.1) (v := e27) (id := 624) (T := 62) (sz := 3) (n := t22) Tryz.underlying58 sz62 rfl (by kernel_rfl) (by kernel_rfl) (by kernel_rfl) he27) ?_
          refine L0 rfl rfl (E_loadon (c := c62) (xs := y14.1) (v := e28) (id := 624) (sz := 3) (T := 62) (off := 0) (n := t22) [Ti e28.1, Ti e28.2.1, Ti e28.2.2] wd62 rfl (by kernel_rfl) (by kernel_rfl) he28 (Nat.le_of_ble_eq_true rfl) (by kernel_rfl)) ?_
          exact XE
         obtain ⟨y29, hy29, h⟩ := of_bind h
         refine V_sreg (mb 220 18173039004871896699856737158891712) [168, 144, 672, 624, 88, 400] (s1 := ⟨bt 6 (I y5.2 :: .ow 400 :: bt 3 (.pt 88 0 :: bt 4 (.ow 672 :: .bot :: .ow 144 :: .bot :: .bot :: .pt 168 0 :: Bo y29.2 :: bt 88 (.ow 624 :: I ((y14.1.length : Int)) :: I t22 :: bt 106 [])))), [(168, .box [Ti y29.1.1, Ti y29.1.2.1, Ti y29.1.2.2]), (144, .arr 25 3 (l23.map c25)), (672, .arr 25 3 (y15.1.map c25)), (624, .arr 62 3 (y14.1.map c62)), (88, .box [Ti y13.1.1, Ti y13.1.2.1, Ti y13.1.2.2]), (400, .arr 25 3 (y6.1.map c25))]⟩) ?_ ?_
         ·refine XR 2 ?_
          refine XC (s_impl_FormOnLattice hy29) cf_impl_FormOnLattice rfl rfl rfl ?_
          exact XE
         obtain ⟨y30, hy30, h⟩ := of_bind h
         refine V_sreg (mb 220 18173039004871896699856737198737600) [184, 144, 672, 624, 88, 400] (s1 := ⟨bt 6 (I y5.2 :: .ow 400 :: bt 3 (.pt 88 0 :: bt 4 (.ow 672 :: .bot :: .ow 144 :: bt 3 (Bo y29.2 :: .pt 184 0 :: .bot :: Bo y30.2.2 :: bt 85 (.ow 624 :: I ((y14.1.length : Int)) :: I t22 :: bt 106 []))))), [(184, .box [Ti y30.1.1, Ti y30.1.2.1, Ti y30.1.2.2]), (144, .arr 25 3 (l23.map c25)), (672, .arr 25 3 (y15.1.map c25)), (624, .arr 62 3 (y14.1.map c62)), (88, .box [Ti y13.1.1, Ti y13.1.2.1, Ti y13.1.2.2]), (400, .arr 25 3 (y6.1.map c25))]⟩) ?_ ?_
         ·refine XR 1 ?_
          refine XC (s_impl_ReduceForm hy30) cf_impl_ReduceForm rfl rfl rfl ?_
          exact XE
         refine V_seq ?_
         refine V_sreg (mb 220 21778089655979066533552674732370326522048) [184, 144, 672, 624, 88, 400] (s1 := ⟨bt 6 (I y5.2 :: .ow 400 :: bt 3 (.pt 88 0 :: bt 4 (.ow 672 :: .bot :: .ow 144 :: bt 4 (.pt 184 0 :: bt 87 (.ow 624 :: I ((y14.1.length : Int)) :: I t22 :: bt 20 (Bo (bif (!y29.2) then true else (!y30.2.2)) :: bt 85 [])))))), [(184, .box [Ti y30.1.1, Ti y30.1.2.1, Ti y30.1.2.2]), (144, .arr 25 3 (l23.map c25)), (672, .arr 25 3 (y15.1.map c25)), (624, .arr 62 3 (y14.1.map c62)), (88, .box [Ti y13.1.1, Ti y13.1.2.1, Ti y13.1.2.2]), (400, .arr 25 3 (y6.1.map c25))]⟩) ?_ ?_
         ·refine XR 3 ?_
          refine XL_split (!y29.2) (fun hc31 => ?_) (fun hc31 => ?_)
          ·refine XL_skipF _ rfl rfl (by kernel_rfl) hc31 rfl ?_
           refine XL_skipF _ rfl rfl (by kernel_rfl) hc31 rfl ?_
           refine XL_cons rfl (X_of_Y0 rfl (Y0_pick1 (b := !y29.2) (p := true) (q := !y30.2.2) rfl (by kernel_rfl) hc31 (by kernel_rfl))) ?_
           exact XE
          ·refine XL_takeC _ rfl rfl (by kernel_rfl) hc31 (X_of_Y0 rfl (E_move (Bo y30.2.2) rfl (by kernel_rfl))) ?_
           refine XL_takeC _ rfl rfl (by kernel_rfl) hc31 (X_of_Y0 rfl (Y0_not (b := y30.2.2) rfl (by kernel_rfl))) ?_
           refine XL_cons rfl (X_of_Y0 rfl (Y0_pick0 (b := !y29.2) (p := true) (q := !y30.2.2) rfl (by kernel_rfl) hc31 (by kernel_rfl))) ?_
           exact XE
         refine V_cond rfl (fun hc32 => ?_) (fun hc32 => ?_)
         ·have h := of_true h hc32
          refine V_e (mb 220 16) [] (s1 := ⟨bt 4 (Bo false :: bt 215 []), []⟩) ?_
          refine V_ret ?_
          obtain rfl := some_inj h
          have h := hko25
          obtain rfl := some_inj h
          show Post _ _ _ _ _
          exact ⟨.inr rfl, rfl, rfl, rfl⟩
         ·have h := of_false h hc32
          refine V_skip ?_
          show V _ _ _ _
          obtain ⟨u33, hu33, h⟩ := of_bind h
          refine V_reg (mb 220 18173039004871896699856737152600256) [144, 672, 624, 88, 400] (s1 := ⟨bt 6 (I y5.2 :: .ow 400 :: bt 3 (.pt 88 0 :: bt 4 (.ow 672 :: .bot :: .ow 144 :: bt 92 (.ow 624 :: I ((y14.1.length : Int)) :: I t22 :: bt 106 [])))), [(144, .arr 25 3 ((l23 ++ ([y30.1])).map c25)), (672, .arr 25 3 (y15.1.map c25)), (624, .arr 62 3 (y14.1.map c62)), (88, .box [Ti y13.1.1, Ti y13.1.2.1, Ti y13.1.2.2]), (400, .arr 25 3 (y6.1.map c25))]⟩) ?_ ?_
          ·refine XR 2 ?_
           refine L1 rfl rfl (Y1_bslice (z := zv25) (els := [y30.1].map c25) Tryz.underlying38 iz25 rfl (by decide) rfl (by kernel_rfl) rfl (by simp [c25]) (by decide) (by decide)) ?_
           refine XL_cons rfl (X_appendM (c := c25) (xs := l23) (ys := [y30.1]) (id := 144) (z := zv25) rfl rfl Tryz.underlying38 izb25 rfl (by kernel_rfl) (by kernel_rfl) (by kernel_rfl) (fun _ => rfl) (by simp) (room_some hu33) (by decide)) ?_
           exact XE
          show V _ _ _ _
          obtain ⟨t34, ht34, h⟩ := of_sI h
          refine V_reg (mb 220 18173039004871896699856737152600256) [144, 672, 624, 88, 400] (s1 := ⟨bt 6 (I y5.2 :: .ow 400 :: bt 3 (.pt 88 0 :: bt 4 (.ow 672 :: .bot :: .ow 144 :: bt 92 (.ow 624 :: I ((y14.1.length : Int)) :: I t34 :: bt 106 [])))), [(144, .arr 25 3 ((l23 ++ ([y30.1])).map c25)), (672, .arr 25 3 (y15.1.map c25)), (624, .arr 62 3 (y14.1.map c62)), (88, .box [Ti y13.1.1, Ti y13.1.2.1, Ti y13.1.2.2]), (400, .arr 25 3 (y6.1.map c25))]⟩) ?_ ?_
          ·refine XR 2 ?_
           refine XL_nil ?_
           subst ht34
           kernel_rfl
          exact ⟨n, Nat.lt_succ_self n, _, _,  by rfl, h⟩
        ·have h := of_false h hc26
         refine V_exit ?_
         obtain rfl := some_inj h
         exact ⟨_, rfl, by rfl⟩
      rintro o25 rfl
      have h := hko25
      clear hko25
      show V _ _ _ _
      refine V_seq ?_
      refine V_sreg (mb 220 9756576024357147624421876744283658159196352) [144, 672, 88, 400] (s1 := ⟨bt 6 (I y5.2 :: .ow 400 :: bt 3 (.pt 88 0 :: bt 4 (.ow 672 :: .bot :: .ow 144 :: bt 121 (.ow 400 :: I ((y6.1.length : Int)) :: I 0 :: bt 77 [])))), [(144, .arr 25 3 (o25.map c25)), (672, .arr 25 3 (y15.1.map c25)), (88, .box [Ti y13.1.1, Ti y13.1.2.1, Ti y13.1.2.2]), (400, .arr 25 3 (y6.1.map c25))]⟩) ?_ ?_
      ·refine XR 1 ?_
       refine L0 rfl rfl (Y0_lenM (c := c25) (xs := y6.1) Tryz.underlying38 rfl (by kernel_rfl)) ?_
       exact XE
      obtain ⟨qo37, hLo37, hko37⟩ := of_bind h
      refine V_toS (q := qo37) (S := fun o37 => ⟨bt 6 (I y5.2 :: bt 4 (.pt 88 0 :: bt 4 (.ow 672 :: bt 203 []))), [(672, .arr 25 3 (y15.1.map c25)), (88, .box [Ti y13.1.1, Ti y13.1.2.1, Ti y13.1.2.2])]⟩) (mb 220 67648) [672, 88] ?_ ?_
      ·refine V_block (V_loop (fun n s => ∃ (t35 : Int), s.keep (mb 220 9756576024357147624421876744283658159196352) [144, 672, 88, 400] = (⟨bt 6 (I y5.2 :: .ow 400 :: bt 3 (.pt 88 0 :: bt 4 (.ow 672 :: .bot :: .ow 144 :: bt 121 (.ow 400 :: I ((y6.1.length : Int)) :: I t35 :: bt 77 [])))), [(144, .arr 25 3 (o25.map c25)), (672, .arr 25 3 (y15.1.map c25)), (88, .box [Ti y13.1.1, Ti y13.1.2.1, Ti y13.1.2.2]), (400, .arr 25 3 (y6.1.map c25))]⟩ : St) ∧ r_laws_FnIndexSublattices_L36 o25 y13 y15 y5 y6 n t35 = some qo37) FU ⟨_,  by rfl, hLo37⟩ ?_)
       clear hLo37
       rintro n s ⟨t35, hs, h⟩
       refine V_keep _ _ hs ?_
       clear hs
       cases n with
       | zero => cases h
       | succ n =>
        rw [r_laws_FnIndexSublattices_L36] at h
        refine V_e (mb 220 20906948623622459195189735880607838912186560) [144, 672, 88, 400] (s1 := ⟨bt 6 (I y5.2 :: .ow 400 :: bt 3 (.pt 88 0 :: bt 4 (.ow 672 :: .bot :: .ow 144 :: bt 121 (.ow 400 :: I ((y6.1.length : Int)) :: I t35 :: Bo (ltI t35 ((y6.1.length : Int))) :: bt 76 [])))), [(144, .arr 25 3 (o25.map c25)), (672, .arr 25 3 (y15.1.map c25)), (88, .box [Ti y13.1.1, Ti y13.1.2.1, Ti y13.1.2.2]), (400, .arr 25 3 (y6.1.map c25))]⟩) ?_
        refine V_seq ?_
        refine V_cond rfl (fun hc38 => ?_) (fun hc38 => ?_)
        ·have h := of_true h hc38
         refine V_skip ?_
         show V _ _ _ _
         refine V_seq ?_
         refine V_block ?_
         obtain ⟨e39, he39, h⟩ := of_bind h
         obtain ⟨e40, he40, h⟩ := of_bind h
         refine V_sreg (mb 220 9756576024357147624421876744283658293414080) [216, 144, 672, 88, 400] (s1 := ⟨bt 6 (I y5.2 :: .ow 400 :: bt 3 (.pt 88 0 :: bt 4 (.ow 672 :: .bot :: .ow 144 :: bt 8 (.pt 216 0 :: bt 112 (.ow 400 :: I ((y6.1.length : Int)) :: I t35 :: bt 77 []))))), [(216, .box [Ti e40.1, Ti e40.2.1, Ti e40.2.2]), (144, .arr 25 3 (o25.map c25)), (672, .arr 25 3 (y15.1.map c25)), (88, .box [Ti y13.1.1, Ti y13.1.2.1, Ti y13.1.2.2]), (400, .arr 25 3 (y6.1.map c25))]⟩) ?_ ?_
         ·refine L0 rfl rfl (Y0_idxoM (c := c25) (xs := y6.1) (v := e39) (id := 400) (T := 25) (sz := 3) (n := t35) Tryz.underlying38 sz25 rfl (by kernel_rfl) (by kernel_rfl) (by kernel_rfl) he39) ?_
          refine L0 rfl rfl (E_loadon (c := c25) (xs := y6.1) (v := e40) (id := 400) (sz := 3) (T := 25) (off := 0) (n := t35) [Ti e40.1, Ti e40.2.1, Ti e40.2.2] wd25 rfl (by kernel_rfl) (by kernel_rfl) he40 (Nat.le_of_ble_eq_true rfl) (by kernel_rfl)) ?_
          exact XE
         refine V_e (mb 220 9756576024357147624421876744283659098720448) [216, 144, 672, 88, 400] (s1 := ⟨bt 6 (I y5.2 :: .ow 400 :: bt 3 (.pt 88 0 :: bt 4 (.ow 672 :: .bot :: .ow 144 :: bt 8 (.pt 216 0 :: I 0 :: I 0 :: bt 110 (.ow 400 :: I ((y6.1.length : Int)) :: I t35 :: bt 77 []))))), [(216, .box [Ti e40.1, Ti e40.2.1, Ti e40.2.2]), (144, .arr 25 3 (o25.map c25)), (672, .arr 25 3 (y15.1.map c25)), (88, .box [Ti y13.1.1, Ti y13.1.2.1, Ti y13.1.2.2]), (400, .arr 25 3 (y6.1.map c25))]⟩) ?_
         refine V_seq ?_
         refine V_sreg (mb 220 544974460789092103021279115287844335242250432) [216, 144, 672, 88, 400] (s1 := ⟨bt 6 (I y5.2 :: .ow 400 :: bt 3 (.pt 88 0 :: bt 4 (.ow 672 :: .bot :: .ow 144 :: bt 8 (.pt 216 0 :: I 0 :: I 0 :: bt 110 (.ow 400 :: I ((y6.1.length : Int)) :: I t35 :: bt 4 (I ((y6.1.length : Int)) :: I 0 :: bt 71 [])))))), [(216, .box [Ti e40.1, Ti e40.2.1, Ti e40.2.2]), (144, .arr 25 3 (o25.map c25)), (672, .arr 25 3 (y15.1.map c25)), (88, .box [Ti y13.1.1, Ti y13.1.2.1, Ti y13.1.2.2]), (400, .arr 25 3 (y6.1.map c25))]⟩) ?_ ?_
         ·refine XR 1 ?_
          refine L0 rfl rfl (Y0_lenM (c := c25) (xs := y6.1) Tryz.underlying38 rfl (by kernel_rfl)) ?_
          exact XE
         obtain ⟨o45, hLo45, h⟩ := of_bind h
         refine V_toK (mb 220 9756576024357147624421876744283658964502720) [144, 672, 88, 400] (s1 := ⟨bt 6 (I y5.2 :: .ow 400 :: bt 3 (.pt 88 0 :: bt 4 (.ow 672 :: .bot :: .ow 144 :: bt 9 (I o45.1 :: I o45.2 :: bt 110 (.ow 400 :: I ((y6.1.length : Int)) :: I t35 :: bt 77 []))))), [(144, .arr 25 3 (o25.map c25)), (672, .arr 25 3 (y15.1.map c25)), (88, .box [Ti y13.1.1, Ti y13.1.2.1, Ti y13.1.2.2]), (400, .arr 25 3 (y6.1.map c25))]⟩) ?_ ?_
         ·clear h
          refine V_block (V_loop (fun n s => ∃ (first41 : Int) (second42 : Int) (t43 : Int), s.keep (mb 220 544974460789092103021279115287844335242250432) [216, 144, 672, 88, 400] = (⟨bt 6 (I y5.2 :: .ow 400 :: bt 3 (.pt 88 0 :: bt 4 (.ow 672 :: .bot :: .ow 144 :: bt 8 (.pt 216 0 :: I first41 :: I second42 :: bt 110 (.ow 400 :: I ((y6.1.length : Int)) :: I t35 :: bt 4 (I ((y6.1.length : Int)) :: I t43 :: bt 71 [])))))), [(216, .box [Ti e40.1, Ti e40.2.1, Ti e40.2.2]), (144, .arr 25 3 (o25.map c25)), (672, .arr 25 3 (y15.1.map c25)), (88, .box [Ti y13.1.1, Ti y13.1.2.1, Ti y13.1.2.2]), (400, .arr 25 3 (y6.1.map c25))]⟩ : St) ∧ r_laws_FnIndexSublattices_L44 e40 o25 t35 y13 y15 y5 y6 n first41 second42 t43 = some o45) FU ⟨_, _, _,  by rfl, hLo45⟩ ?_)
          clear hLo45
          rintro n s ⟨first41, second42, t43, hs, h⟩
          refine V_keep _ _ hs ?_
          clear hs
          cases n with
          | zero => cases h
          | succ n =>
           rw [r_laws_FnIndexSublattices_L44] at h
           refine V_e (mb 220 1258598307142072043550422100012591903433623744) [216, 144, 672, 88, 400] (s1 := ⟨bt 6 (I y5.2 :: .ow 400 :: bt 3 (.pt 88 0 :: bt 4 (.ow 672 :: .bot :: .ow 144 :: bt 8 (.pt 216 0 :: I first41 :: I second42 :: bt 110 (.ow 400 :: I ((y6.1.length : Int)) :: I t35 :: bt 4 (I ((y6.1.length : Int)) :: I t43 :: Bo (ltI t43 ((y6.1.length : Int))) :: bt 70 [])))))), [(216, .box [Ti e40.1, Ti e40.2.1, Ti e40.2.2]), (144, .arr 25 3 (o25.map c25)), (672, .arr 25 3 (y15.1.map c25)), (88, .box [Ti y13.1.1, Ti y13.1.2.1, Ti y13.1.2.2]), (400, .arr 25 3 (y6.1.map c25))]⟩) ?_
           refine V_seq ?_
           refine V_cond rfl (fun hc46 => ?_) (fun hc46 => ?_)
           ·have h := of_true h hc46
            refine V_skip ?_
            show V _ _ _ _
            refine V_seq ?_
            refine V_block ?_
            refine V_e (mb 220 544974460789092103021279115287844336315992256) [216, 144, 672, 88, 400] (s1 := ⟨bt 6 (I y5.2 :: .ow 400 :: bt 3 (.pt 88 0 :: bt 4 (.ow 672 :: .bot :: .ow 144 :: bt 8 (.pt 216 0 :: I first41 :: I second42 :: I t43 :: bt 109 (.ow 400 :: I ((y6.1.length : Int)) :: I t35 :: bt 4 (I ((y6.1.length : Int)) :: I t43 :: bt 71 [])))))), [(216, .box [Ti e40.1, Ti e40.2.1, Ti e40.2.2]), (144, .arr 25 3 (o25.map c25)), (672, .arr 25 3 (y15.1.map c25)), (88, .box [Ti y13.1.1, Ti y13.1.2.1, Ti y13.1.2.2]), (400, .arr 25 3 (y6.1.map c25))]⟩) ?_
            obtain ⟨j47, hj47, h⟩ := of_bind h
            refine V_cutK (mb 220 544974460789092103021279115287844336315992256) [216, 144, 672, 88, 400] (s1 := ⟨bt 6 (I y5.2 :: .ow 400 :: bt 3 (.pt 88 0 :: bt 4 (.ow 672 :: .bot :: .ow 144 :: bt 8 (.pt 216 0 :: I j47 :: I second42 :: I t43 :: bt 109 (.ow 400 :: I ((y6.1.length : Int)) :: I t35 :: bt 4 (I ((y6.1.length : Int)) :: I t43 :: bt 71 [])))))), [(216, .box [Ti e40.1, Ti e40.2.1, Ti e40.2.2]), (144, .arr 25 3 (o25.map c25)), (672, .arr 25 3 (y15.1.map c25)), (88, .box [Ti y13.1.1, Ti y13.1.2.1, Ti y13.1.2.2]), (400, .arr 25 3 (y6.1.map c25))]⟩) ?_ ?_
            ·clear h
             have h := hj47
             clear hj47
             obtain ⟨e48, he48, h⟩ := of_bind h
             obtain ⟨e49, he49, h⟩ := of_bind h
             obtain ⟨t50, ht50, h⟩ := of_bind h
             have ht50 := some_inj ht50
             refine V_sdreg [0, 0, 3, 7, 0, 31] 6 (cdm 6 [520, 514, 517, 533, 170, 341]) (mb 220 91888826793970524490751581160055533064811776192) [216, 144, 672, 88, 400] (s1 := ⟨bt 6 (I y5.2 :: .ow 400 :: bt 3 (.pt 88 0 :: bt 4 (.ow 672 :: .bot :: .ow 144 :: bt 8 (.pt 216 0 :: I first41 :: I second42 :: I t43 :: bt 109 (.ow 400 :: I ((y6.1.length : Int)) :: I t35 :: bt 4 (I ((y6.1.length : Int)) :: I t43 :: bt 7 (Bo t50 :: bt 63 []))))))), [(216, .box [Ti e40.1, Ti e40.2.1, Ti e40.2.2]), (144, .arr 25 3 (o25.map c25)), (672, .arr 25 3 (y15.1.map c25)), (88, .box [Ti y13.1.1, Ti y13.1.2.1, Ti y13.1.2.2]), (400, .arr 25 3 (y6.1.map c25))]⟩) (by kernel_rfl) (by kernel_rfl) ?_ ?_
             ·refine DR 2 ?_
              refine DE_0 2 (.po 400 3 (Int.toNat (t43)) 0) (by kernel_rfl) rfl rfl rfl (gsat_none rfl) (by kernel_rfl) (Y0_idxoM (c := c25) (xs := y6.1) (v := e48) (id := 400) (T := 25) (sz := 3) (n := t43) Tryz.underlying38 sz25 rfl (by kernel_rfl) (by kernel_rfl) (by kernel_rfl) he48) 153 rfl ?_
              refine DE_0 3 (.ag [Ti e49.1, Ti e49.2.1, Ti e49.2.2]) (by kernel_rfl) rfl rfl rfl (gsat_none rfl) (by kernel_rfl) (E_loadon (c := c25) (xs := y6.1) (v := e49) (id := 400) (sz := 3) (T := 25) (off := 0) (n := t43) [Ti e49.1, Ti e49.2.1, Ti e49.2.2] wd25 rfl (by kernel_rfl) (by kernel_rfl) he49 (Nat.le_of_ble_eq_true rfl) (by kernel_rfl)) 154 rfl ?_
              refine DR 1 ?_
              refine DE_0 5 (Bo (((e49.1 == e40.1) && ((e49.2.1 == e40.2.1) && (e49.2.2 == e40.2.2))))) (by kernel_rfl) rfl rfl rfl (gsat_none rfl) (by kernel_rfl) (Y0_eqg3 (a0 := e49.1) (b0 := e40.1) (a1 := e49.2.1) (b1 := e40.2.1) (a2 := e49.2.2) (b2 := e40.2.2) eqg25 rfl (by kernel_rfl) (by kernel_rfl)) 156 rfl ?_
              refine DA 0 ?_
              refine XL_nil ?_
              subst ht50
              kernel_rfl
             refine V_cond rfl (fun hc51 => ?_) (fun hc51 => ?_)
             ·have h := of_true h hc51
              obtain ⟨first52, hfirst52, h⟩ := of_sI h
              refine V_reg (mb 220 544974460789092103021279115287844336315992256) [216, 144, 672, 88, 400] (s1 := ⟨bt 6 (I y5.2 :: .ow 400 :: bt 3 (.pt 88 0 :: bt 4 (.ow 672 :: .bot :: .ow 144 :: bt 8 (.pt 216 0 :: I first52 :: I second42 :: I t43 :: bt 109 (.ow 400 :: I ((y6.1.length : Int)) :: I t35 :: bt 4 (I ((y6.1.length : Int)) :: I t43 :: bt 71 [])))))), [(216, .box [Ti e40.1, Ti e40.2.1, Ti e40.2.2]), (144, .arr 25 3 (o25.map c25)), (672, .arr 25 3 (y15.1.map c25)), (88, .box [Ti y13.1.1, Ti y13.1.2.1, Ti y13.1.2.2]), (400, .arr 25 3 (y6.1.map c25))]⟩) ?_ ?_
              ·refine XR 3 ?_
               refine XL_nil ?_
               subst hfirst52
               kernel_rfl
              obtain rfl := some_inj h
              show St.keep _ _ _ = _
              rfl
             ·have h := of_false h hc51
              refine V_skip ?_
              obtain rfl := some_inj h
              show St.keep _ _ _ = _
              rfl
            obtain ⟨e53, he53, h⟩ := of_bind h
            obtain ⟨e54, he54, h⟩ := of_bind h
            obtain ⟨t55, ht55, h⟩ := of_bind h
            have ht55 := some_inj ht55
            refine V_sdreg [0, 0, 3, 7, 0, 31] 6 (cdm 6 [520, 514, 517, 533, 170, 341]) (mb 220 23384571171755235783361978602575816158830162938048) [216, 144, 672, 88, 400] (s1 := ⟨bt 6 (I y5.2 :: .ow 400 :: bt 3 (.pt 88 0 :: bt 4 (.ow 672 :: .bot :: .ow 144 :: bt 8 (.pt 216 0 :: I j47 :: I second42 :: bt 110 (.ow 400 :: I ((y6.1.length : Int)) :: I t35 :: bt 4 (I ((y6.1.length : Int)) :: I t43 :: bt 15 (Bo t55 :: bt 55 []))))))), [(216, .box [Ti e40.1, Ti e40.2.1, Ti e40.2.2]), (144, .arr 25 3 (o25.map c25)), (672, .arr 25 3 (y15.1.map c25)), (88, .box [Ti y13.1.1, Ti y13.1.2.1, Ti y13.1.2.2]), (400, .arr 25 3 (y6.1.map c25))]⟩) (by kernel_rfl) (by kernel_rfl) ?_ ?_
            ·refine DR 2 ?_
             refine DE_0 2 (.po 144 3 (Int.toNat (t43)) 0) (by kernel_rfl) rfl rfl rfl (gsat_none rfl) (by kernel_rfl) (Y0_idxoM (c := c25) (xs := o25) (v := e53) (id := 144) (T := 25) (sz := 3) (n := t43) Tryz.underlying38 sz25 rfl (by kernel_rfl) (by kernel_rfl) (by kernel_rfl) he53) 161 rfl ?_
             refine DE_0 3 (.ag [Ti e54.1, Ti e54.2.1, Ti e54.2.2]) (by kernel_rfl) rfl rfl rfl (gsat_none rfl) (by kernel_rfl) (E_loadon (c := c25) (xs := o25) (v := e54) (id := 144) (sz := 3) (T := 25) (off := 0) (n := t43) [Ti e54.1, Ti e54.2.1, Ti e54.2.2] wd25 rfl (by kernel_rfl) (by kernel_rfl) he54 (Nat.le_of_ble_eq_true rfl) (by kernel_rfl)) 162 rfl ?_
             refine DR 1 ?_
             refine DE_0 5 (Bo (((e54.1 == e40.1) && ((e54.2.1 == e40.2.1) && (e54.2.2 == e40.2.2))))) (by kernel_rfl) rfl rfl rfl (gsat_none rfl) (by kernel_rfl) (Y0_eqg3 (a0 := e54.1) (b0 := e40.1) (a1 := e54.2.1) (b1 := e40.2.1) (a2 := e54.2.2) (b2 := e40.2.2) eqg25 rfl (by kernel_rfl) (by kernel_rfl)) 164 rfl ?_
             refine DA 0 ?_
             refine XL_nil ?_
             subst ht55
             kernel_rfl
            refine V_cond rfl (fun hc56 => ?_) (fun hc56 => ?_)
            ·have h := of_true h hc56
             obtain ⟨second57, hsecond57, h⟩ := of_sI h
             refine V_reg (mb 220 544974460789092103021279115287844335242250432) [216, 144, 672, 88, 400] (s1 := ⟨bt 6 (I y5.2 :: .ow 400 :: bt 3 (.pt 88 0 :: bt 4 (.ow 672 :: .bot :: .ow 144 :: bt 8 (.pt 216 0 :: I j47 :: I second57 :: bt 110 (.ow 400 :: I ((y6.1.length : Int)) :: I t35 :: bt 4 (I ((y6.1.length : Int)) :: I t43 :: bt 71 [])))))), [(216, .box [Ti e40.1, Ti e40.2.1, Ti e40.2.2]), (144, .arr 25 3 (o25.map c25)), (672, .arr 25 3 (y15.1.map c25)), (88, .box [Ti y13.1.1, Ti y13.1.2.1, Ti y13.1.2.2]), (400, .arr 25 3 (y6.1.map c25))]⟩) ?_ ?_
             ·refine XR 3 ?_
              refine XL_nil ?_
              subst hsecond57
              kernel_rfl
             show V _ _ _ _
             obtain ⟨t58, ht58, h⟩ := of_sI h
             refine V_reg (mb 220 544974460789092103021279115287844335242250432) [216, 144, 672, 88, 400] (s1 := ⟨bt 6 (I y5.2 :: .ow 400 :: bt 3 (.pt 88 0 :: bt 4 (.ow 672 :: .bot :: .ow 144 :: bt 8 (.pt 216 0 :: I j47 :: I second57 :: bt 110 (.ow 400 :: I ((y6.1.length : Int)) :: I t35 :: bt 4 (I ((y6.1.length : Int)) :: I t58 :: bt 71 [])))))), [(216, .box [Ti e40.1, Ti e40.2.1, Ti e40.2.2]), (144, .arr 25 3 (o25.map c25)), (672, .arr 25 3 (y15.1.map c25)), (88, .box [Ti y13.1.1, Ti y13.1.2.1, Ti y13.1.2.2]), (400, .arr 25 3 (y6.1.map c25))]⟩) ?_ ?_
             ·refine XR 2 ?_
              refine XL_nil ?_
              subst ht58
              kernel_rfl
             exact ⟨n, Nat.lt_succ_self n, _, _, _,  by rfl, h⟩
            ·have h := of_false h hc56
             refine V_skip ?_
             show V _ _ _ _
             obtain ⟨t59, ht59, h⟩ := of_sI h
             refine V_reg (mb 220 544974460789092103021279115287844335242250432) [216, 144, 672, 88, 400] (s1 := ⟨bt 6 (I y5.2 :: .ow 400 :: bt 3 (.pt 88 0 :: bt 4 (.ow 672 :: .bot :: .ow 144 :: bt 8 (.pt 216 0 :: I j47 :: I second42 :: bt 110 (.ow 400 :: I ((y6.1.length : Int)) :: I t35 :: bt 4 (I ((y6.1.length : Int)) :: I t59 :: bt 71 [])))))), [(216, .box [Ti e40.1, Ti e40.2.1, Ti e40.2.2]), (144, .arr 25 3 (o25.map c25)), (672, .arr 25 3 (y15.1.map c25)), (88, .box [Ti y13.1.1, Ti y13.1.2.1, Ti y13.1.2.2]), (400, .arr 25 3 (y6.1.map c25))]⟩) ?_ ?_
             ·refine XR 2 ?_
              refine XL_nil ?_
              subst ht59
              kernel_rfl
             exact ⟨n, Nat.lt_succ_self n, _, _, _,  by rfl, h⟩
           ·have h := of_false h hc46
            refine V_exit ?_
            obtain rfl := some_inj h
            show St.keep _ _ _ = _
            rfl
         show V _ _ _ _
         refine V_e (mb 220 1496577686383420612597720893123350556411333083203776) [144, 672, 88, 400] (s1 := ⟨bt 6 (I y5.2 :: .ow 400 :: bt 3 (.pt 88 0 :: bt 4 (.ow 672 :: .bot :: .ow 144 :: bt 121 (.ow 400 :: I ((y6.1.length : Int)) :: I t35 :: bt 27 (Bo (!eqI o45.1 o45.2) :: bt 49 []))))), [(144, .arr 25 3 (o25.map c25)), (672, .arr 25 3 (y15.1.map c25)), (88, .box [Ti y13.1.1, Ti y13.1.2.1, Ti y13.1.2.2]), (400, .arr 25 3 (y6.1.map c25))]⟩) ?_
         refine V_cond rfl (fun hc60 => ?_) (fun hc60 => ?_)
         ·have h := of_true h hc60
          refine V_e (mb 220 16) [] (s1 := ⟨bt 4 (Bo false :: bt 215 []), []⟩) ?_
          refine V_ret ?_
          obtain rfl := some_inj h
          have h := hko37
          obtain rfl := some_inj h
          show Post _ _ _ _ _
          exact ⟨.inr rfl, rfl, rfl, rfl⟩
         ·have h := of_false h hc60
          refine V_skip ?_
          show V _ _ _ _
          obtain ⟨t61, ht61, h⟩ := of_sI h
          refine V_reg (mb 220 9756576024357147624421876744283658159196352) [144, 672, 88, 400] (s1 := ⟨bt 6 (I y5.2 :: .ow 400 :: bt 3 (.pt 88 0 :: bt 4 (.ow 672 :: .bot :: .ow 144 :: bt 121 (.ow 400 :: I ((y6.1.length : Int)) :: I t61 :: bt 77 [])))), [(144, .arr 25 3 (o25.map c25)), (672, .arr 25 3 (y15.1.map c25)), (88, .box [Ti y13.1.1, Ti y13.1.2.1, Ti y13.1.2.2]), (400, .arr 25 3 (y6.1.map c25))]⟩) ?_ ?_
          ·refine XR 2 ?_
           refine XL_nil ?_
           subst ht61
           kernel_rfl
          exact ⟨n, Nat.lt_succ_self n, _,  by rfl, h⟩
        ·have h := of_false h hc38
         refine V_exit ?_
         obtain rfl := some_inj h
         exact ⟨_, rfl, by rfl⟩
      rintro o37 rfl
      have h := hko37
      clear hko37
      show V _ _ _ _
      refine V_seq ?_
      refine V_sreg (mb 220 41904174945551648470736051523641266739574897872209984) [672, 88] (s1 := ⟨bt 6 (I y5.2 :: bt 4 (.pt 88 0 :: bt 160 (.ow 672 :: I ((y15.1.length : Int)) :: I 0 :: bt 45 []))), [(672, .arr 25 3 (y15.1.map c25)), (88, .box [Ti y13.1.1, Ti y13.1.2.1, Ti y13.1.2.2])]⟩) ?_ ?_
      ·refine XR 1 ?_
       refine L0 rfl rfl (Y0_lenM (c := c25) (xs := y15.1) Tryz.underlying38 rfl (by kernel_rfl)) ?_
       exact XE
      obtain ⟨qo64, hLo64, hko64⟩ := of_bind h
      refine V_toS (q := qo64) (S := fun o64 => ⟨bt 220 [], []⟩) (mb 220 0) [] ?_ ?_
      ·refine V_block (V_loop (fun n s => ∃ (t62 : Int), s.keep (mb 220 41904174945551648470736051523641266739574897872209984) [672, 88] = (⟨bt 6 (I y5.2 :: bt 4 (.pt 88 0 :: bt 160 (.ow 672 :: I ((y15.1.length : Int)) :: I t62 :: bt 45 []))), [(672, .arr 25 3 (y15.1.map c25)), (88, .box [Ti y13.1.1, Ti y13.1.2.1, Ti y13.1.2.2])]⟩ : St) ∧ r_laws_FnIndexSublattices_L63 y13 y15 y5 n t62 = some qo64) FU ⟨_,  by rfl, hLo64⟩ ?_)
       clear hLo64
       rintro n s ⟨t62, hs, h⟩
       refine V_keep _ _ hs ?_
       clear hs
       cases n with
       | zero => cases h
       | succ n =>
        rw [r_laws_FnIndexSublattices_L63] at h
        refine V_e (mb 220 89794660597610675294434396122088428727660495440447552) [672, 88] (s1 := ⟨bt 6 (I y5.2 :: bt 4 (.pt 88 0 :: bt 160 (.ow 672 :: I ((y15.1.length : Int)) :: I t62 :: Bo (ltI t62 ((y15.1.length : Int))) :: bt 44 []))), [(672, .arr 25 3 (y15.1.map c25)), (88, .box [Ti y13.1.1, Ti y13.1.2.1, Ti y13.1.2.2])]⟩) ?_
        refine V_seq ?_
        refine V_cond rfl (fun hc65 => ?_) (fun hc65 => ?_)
        ·have h := of_true h hc65
         refine V_skip ?_
         show V _ _ _ _
         refine V_seq ?_
         refine V_block ?_
         obtain ⟨e66, he66, h⟩ := of_bind h
         obtain ⟨e67, he67, h⟩ := of_bind h
         refine V_sreg (mb 220 41904174945551648470736051523641266739574902167177280) [256, 672, 88] (s1 := ⟨bt 6 (I y5.2 :: bt 4 (.pt 88 0 :: bt 20 (.pt 256 0 :: bt 139 (.ow 672 :: I ((y15.1.length : Int)) :: I t62 :: bt 45 [])))), [(256, .box [Ti e67.1, Ti e67.2.1, Ti e67.2.2]), (672, .arr 25 3 (y15.1.map c25)), (88, .box [Ti y13.1.1, Ti y13.1.2.1, Ti y13.1.2.2])]⟩) ?_ ?_
         ·refine L0 rfl rfl (Y0_idxoM (c := c25) (xs := y15.1) (v := e66) (id := 672) (T := 25) (sz := 3) (n := t62) Tryz.underlying38 sz25 rfl (by kernel_rfl) (by kernel_rfl) (by kernel_rfl) he66) ?_
          refine L0 rfl rfl (E_loadon (c := c25) (xs := y15.1) (v := e67) (id := 672) (sz := 3) (T := 25) (off := 0) (n := t62) [Ti e67.1, Ti e67.2.1, Ti e67.2.2] wd25 rfl (by kernel_rfl) (by kernel_rfl) he67 (Nat.le_of_ble_eq_true rfl) (by kernel_rfl)) ?_
          exact XE
         obtain ⟨y68, hy68, h⟩ := of_bind h
         refine V_sreg (mb 220 41904174945551648470736051523641266739574927936981056) [264, 256, 672, 88] (s1 := ⟨bt 6 (I y5.2 :: bt 4 (.pt 88 0 :: bt 20 (.pt 256 0 :: .pt 264 0 :: Bo y68.2 :: bt 137 (.ow 672 :: I ((y15.1.length : Int)) :: I t62 :: bt 45 [])))), [(264, .box [Ti y68.1.1, Ti y68.1.2.1, Ti y68.1.2.2]), (256, .box [Ti e67.1, Ti e67.2.1, Ti e67.2.2]), (672, .arr 25 3 (y15.1.map c25)), (88, .box [Ti y13.1.1, Ti y13.1.2.1, Ti y13.1.2.2])]⟩) ?_ ?_
         ·refine XR 2 ?_
          refine XC (s_impl_UpperClass hy68) cf_impl_UpperClass rfl rfl rfl ?_
          exact XE
         refine V_seq ?_
         obtain ⟨t70, ht70, h⟩ := of_bind h
         have ht70 := some_inj ht70
         refine V_sreg (mb 220 1569317338021615742607418091853440245292328436018175805504) [256, 672, 88] (s1 := ⟨bt 6 (I y5.2 :: bt 4 (.pt 88 0 :: bt 20 (.pt 256 0 :: bt 139 (.ow 672 :: I ((y15.1.length : Int)) :: I t62 :: bt 15 (Bo t70 :: bt 29 []))))), [(256, .box [Ti e67.1, Ti e67.2.1, Ti e67.2.2]), (672, .arr 25 3 (y15.1.map c25)), (88, .box [Ti y13.1.1, Ti y13.1.2.1, Ti y13.1.2.2])]⟩) ?_ ?_
         ·refine XR 3 ?_
          refine XL_split (!y68.2) (fun hc69 => ?_) (fun hc69 => ?_)
          ·refine XL_skipF _ rfl rfl (by kernel_rfl) hc69 rfl ?_
           refine XL_skipF _ rfl rfl (by kernel_rfl) hc69 rfl ?_
           refine XL_skipF _ rfl rfl (by kernel_rfl) hc69 rfl ?_
           refine XL_cons rfl (X_of_Y0 rfl (Y0_pick1 (b := !y68.2) (p := true) (q := !((y68.1.1 == y13.1.1) && ((y68.1.2.1 == y13.1.2.1) && (y68.1.2.2 == y13.1.2.2)))) rfl (by kernel_rfl) hc69 (by kernel_rfl))) ?_
           refine XL_nil ?_
           subst ht70
           kernel_rfl
          ·refine XL_takeC _ rfl rfl (by kernel_rfl) hc69 (X_of_Y0 rfl (E_loadn (cs := [Ti y68.1.1, Ti y68.1.2.1, Ti y68.1.2.2]) [Ti y68.1.1, Ti y68.1.2.1, Ti y68.1.2.2] wd25 rfl (by kernel_rfl) (Nat.le_of_ble_eq_true rfl) (by kernel_rfl))) ?_
           refine XL_takeC _ rfl rfl (by kernel_rfl) hc69 (X_of_Y0 rfl (E_loadn (cs := [Ti y13.1.1, Ti y13.1.2.1, Ti y13.1.2.2]) [Ti y13.1.1, Ti y13.1.2.1, Ti y13.1.2.2] wd25 rfl (by kernel_rfl) (Nat.le_of_ble_eq_true rfl) (by kernel_rfl))) ?_
           refine XL_takeC _ rfl rfl (by kernel_rfl) hc69 (X_of_Y0 rfl (Y0_neg3 (a0 := y68.1.1) (b0 := y13.1.1) (a1 := y68.1.2.1) (b1 := y13.1.2.1) (a2 := y68.1.2.2) (b2 := y13.1.2.2) neg25 rfl (by kernel_rfl) (by kernel_rfl))) ?_
           refine XL_cons rfl (X_of_Y0 rfl (Y0_pick0 (b := !y68.2) (p := true) (q := !((y68.1.1 == y13.1.1) && ((y68.1.2.1 == y13.1.2.1) && (y68.1.2.2 == y13.1.2.2)))) rfl (by kernel_rfl) hc69 (by kernel_rfl))) ?_
           refine XL_nil ?_
           subst ht70
           kernel_rfl
         refine V_cond rfl (fun hc71 => ?_) (fun hc71 => ?_)
         ·have h := of_true h hc71
          refine V_e (mb 220 16) [] (s1 := ⟨bt 4 (Bo false :: bt 215 []), []⟩) ?_
          refine V_ret ?_
          obtain rfl := some_inj h
          have h := hko64
          obtain rfl := some_inj h
          show Post _ _ _ _ _
          exact ⟨.inr rfl, rfl, rfl, rfl⟩
         ·have h := of_false h hc71
          refine V_skip ?_
          show V _ _ _ _
          obtain ⟨y72, hy72, h⟩ := of_bind h
          refine V_sreg (mb 220 41904174945551648470736051523641266739575005246392384) [280, 256, 672, 88] (s1 := ⟨bt 6 (I y5.2 :: bt 4 (.pt 88 0 :: bt 20 (.pt 256 0 :: .bot :: .bot :: .pt 280 0 :: Bo y72.2 :: bt 135 (.ow 672 :: I ((y15.1.length : Int)) :: I t62 :: bt 45 [])))), [(280, .box [Ti y72.1.1, Ti y72.1.2.1, Ti y72.1.2.2]), (256, .box [Ti e67.1, Ti e67.2.1, Ti e67.2.2]), (672, .arr 25 3 (y15.1.map c25)), (88, .box [Ti y13.1.1, Ti y13.1.2.1, Ti y13.1.2.2])]⟩) ?_ ?_
          ·refine XR 2 ?_
           refine XC (s_impl_DescendForm hy72) cf_impl_DescendForm rfl rfl rfl ?_
           exact XE
          obtain ⟨y73, hy73, h⟩ := of_bind h
          refine V_sreg (mb 220 41904174945551648470736051523641266739575413268285504) [296, 280, 672, 88] (s1 := ⟨bt 6 (I y5.2 :: bt 4 (.pt 88 0 :: bt 23 (.pt 280 0 :: Bo y72.2 :: .pt 296 0 :: Bo y73.2 :: bt 133 (.ow 672 :: I ((y15.1.length : Int)) :: I t62 :: bt 45 [])))), [(296, .box [Ti y73.1.1, Ti y73.1.2.1, Ti y73.1.2.2]), (280, .box [Ti y72.1.1, Ti y72.1.2.1, Ti y72.1.2.2]), (672, .arr 25 3 (y15.1.map c25)), (88, .box [Ti y13.1.1, Ti y13.1.2.1, Ti y13.1.2.2])]⟩) ?_ ?_
          ·refine XR 2 ?_
           refine XC (s_spec_DescendForm hy73) cf_spec_DescendForm rfl rfl rfl ?_
           exact XE
          obtain ⟨t77, ht77, h⟩ := of_bind h
          have ht77 := some_inj ht77
          refine V_sreg (mb 220 421249166674270650966617662383152465327104022868936019915116120128) [672, 88] (s1 := ⟨bt 6 (I y5.2 :: bt 4 (.pt 88 0 :: bt 160 (.ow 672 :: I ((y15.1.length : Int)) :: I t62 :: bt 43 (Bo t77 :: .bot :: [])))), [(672, .arr 25 3 (y15.1.map c25)), (88, .box [Ti y13.1.1, Ti y13.1.2.1, Ti y13.1.2.2])]⟩) ?_ ?_
          ·refine XR 2 ?_
           refine L0 rfl rfl (Y0_neb (a := y72.2) (b := y73.2) Tryz.underlying4 rfl (by kernel_rfl) (by kernel_rfl)) ?_
           refine XR 1 ?_
           refine XL_split (y72.2 != y73.2) (fun hc74 => ?_) (fun hc74 => ?_)
           ·refine XL_skipF _ rfl rfl (by kernel_rfl) hc74 rfl ?_
            refine XL_skipF _ rfl rfl (by kernel_rfl) hc74 rfl ?_
            refine XL_skipF _ rfl rfl (by kernel_rfl) hc74 rfl ?_
            refine XL_cons rfl (X_of_Y0 rfl (Y0_pick1 (b := y72.2 != y73.2) (p := true) (q := !((y72.1.1 == y73.1.1) && ((y72.1.2.1 == y73.1.2.1) && (y72.1.2.2 == y73.1.2.2)))) rfl (by kernel_rfl) hc74 (by kernel_rfl))) ?_
            refine XR 1 ?_
            refine XL_split (bif (y72.2 != y73.2) then true else (!((y72.1.1 == y73.1.1) && ((y72.1.2.1 == y73.1.2.1) && (y72.1.2.2 == y73.1.2.2))))) (fun hc75 => ?_) (fun hc75 => ?_)
            ·refine XL_skipF _ rfl rfl (by kernel_rfl) hc75 rfl ?_
             refine XL_skipF _ rfl rfl (by kernel_rfl) hc75 rfl ?_
             refine XL_skip2 rfl rfl (by kernel_rfl) rfl ?_
             refine XL_skip2 rfl rfl (by kernel_rfl) rfl ?_
             refine XL_skip2 rfl rfl (by kernel_rfl) rfl ?_
             refine XL_skipF _ rfl rfl (by kernel_rfl) hc75 rfl ?_
             refine XL_cons rfl (X_of_Y0 rfl (Y0_pick1 (b := bif (y72.2 != y73.2) then true else (!((y72.1.1 == y73.1.1) && ((y72.1.2.1 == y73.1.2.1) && (y72.1.2.2 == y73.1.2.2))))) (p := true) (q := bif y73.2 then (!((y73.1.1 == y13.1.1) && ((y73.1.2.1 == y13.1.2.1) && (y73.1.2.2 == y13.1.2.2)))) else false) rfl (by kernel_rfl) hc75 (by kernel_rfl))) ?_
             refine XL_nil ?_
             subst ht77
             kernel_rfl
            ·refine XL_takeC _ rfl rfl (by kernel_rfl) hc75 (X_of_Y0 rfl (E_move (Bo y73.2) rfl (by kernel_rfl))) ?_
             refine XL_takeC _ rfl rfl (by kernel_rfl) hc75 (X_of_Y0 rfl (E_move (Bo y73.2) rfl (by kernel_rfl))) ?_
             refine XL_split y73.2 (fun hc76 => ?_) (fun hc76 => ?_)
             ·refine XL_takeC _ rfl rfl (by kernel_rfl) hc76 (X_of_Y0 rfl (E_loadn (cs := [Ti y73.1.1, Ti y73.1.2.1, Ti y73.1.2.2]) [Ti y73.1.1, Ti y73.1.2.1, Ti y73.1.2.2] wd25 rfl (by kernel_rfl) (Nat.le_of_ble_eq_true rfl) (by kernel_rfl))) ?_
              refine XL_takeC _ rfl rfl (by kernel_rfl) hc76 (X_of_Y0 rfl (E_loadn (cs := [Ti y13.1.1, Ti y13.1.2.1, Ti y13.1.2.2]) [Ti y13.1.1, Ti y13.1.2.1, Ti y13.1.2.2] wd25 rfl (by kernel_rfl) (Nat.le_of_ble_eq_true rfl) (by kernel_rfl))) ?_
              refine XL_takeC _ rfl rfl (by kernel_rfl) hc76 (X_of_Y0 rfl (Y0_neg3 (a0 := y73.1.1) (b0 := y13.1.1) (a1 := y73.1.2.1) (b1 := y13.1.2.1) (a2 := y73.1.2.2) (b2 := y13.1.2.2) neg25 rfl (by kernel_rfl) (by kernel_rfl))) ?_
              refine XL_takeC _ rfl rfl (by kernel_rfl) hc75 (X_of_Y0 rfl (Y0_pick1 (b := y73.2) (p := !((y73.1.1 == y13.1.1) && ((y73.1.2.1 == y13.1.2.1) && (y73.1.2.2 == y13.1.2.2)))) (q := false) rfl (by kernel_rfl) hc76 (by kernel_rfl))) ?_
              refine XL_cons rfl (X_of_Y0 rfl (Y0_pick0 (b := bif (y72.2 != y73.2) then true else (!((y72.1.1 == y73.1.1) && ((y72.1.2.1 == y73.1.2.1) && (y72.1.2.2 == y73.1.2.2))))) (p := true) (q := bif y73.2 then (!((y73.1.1 == y13.1.1) && ((y73.1.2.1 == y13.1.2.1) && (y73.1.2.2 == y13.1.2.2)))) else false) rfl (by kernel_rfl) hc75 (by kernel_rfl))) ?_
              refine XL_nil ?_
              subst ht77
              kernel_rfl
             ·refine XL_skipT _ rfl rfl (by kernel_rfl) hc76 rfl ?_
              refine XL_skipT _ rfl rfl (by kernel_rfl) hc76 rfl ?_
              refine XL_skipT _ rfl rfl (by kernel_rfl) hc76 rfl ?_
              refine XL_takeC _ rfl rfl (by kernel_rfl) hc75 (X_of_Y0 rfl (Y0_pick0 (b := y73.2) (p := !((y73.1.1 == y13.1.1) && ((y73.1.2.1 == y13.1.2.1) && (y73.1.2.2 == y13.1.2.2)))) (q := false) rfl (by kernel_rfl) hc76 (by kernel_rfl))) ?_
              refine XL_cons rfl (X_of_Y0 rfl (Y0_pick0 (b := bif (y72.2 != y73.2) then true else (!((y72.1.1 == y73.1.1) && ((y72.1.2.1 == y73.1.2.1) && (y72.1.2.2 == y73.1.2.2))))) (p := true) (q := bif y73.2 then (!((y73.1.1 == y13.1.1) && ((y73.1.2.1 == y13.1.2.1) && (y73.1.2.2 == y13.1.2.2)))) else false) rfl (by kernel_rfl) hc75 (by kernel_rfl))) ?_
              refine XL_nil ?_
              subst ht77
              kernel_rfl
           ·refine XL_takeC _ rfl rfl (by kernel_rfl) hc74 (X_of_Y0 rfl (E_loadn (cs := [Ti y72.1.1, Ti y72.1.2.1, Ti y72.1.2.2]) [Ti y72.1.1, Ti y72.1.2.1, Ti y72.1.2.2] wd25 rfl (by kernel_rfl) (Nat.le_of_ble_eq_true rfl) (by kernel_rfl))) ?_
            refine XL_takeC _ rfl rfl (by kernel_rfl) hc74 (X_of_Y0 rfl (E_loadn (cs := [Ti y73.1.1, Ti y73.1.2.1, Ti y73.1.2.2]) [Ti y73.1.1, Ti y73.1.2.1, Ti y73.1.2.2] wd25 rfl (by kernel_rfl) (Nat.le_of_ble_eq_true rfl) (by kernel_rfl))) ?_
            refine XL_takeC _ rfl rfl (by kernel_rfl) hc74 (X_of_Y0 rfl (Y0_neg3 (a0 := y72.1.1) (b0 := y73.1.1) (a1 := y72.1.2.1) (b1 := y73.1.2.1) (a2 := y72.1.2.2) (b2 := y73.1.2.2) neg25 rfl (by kernel_rfl) (by kernel_rfl))) ?_
            refine XL_cons rfl (X_of_Y0 rfl (Y0_pick0 (b := y72.2 != y73.2) (p := true) (q := !((y72.1.1 == y73.1.1) && ((y72.1.2.1 == y73.1.2.1) && (y72.1.2.2 == y73.1.2.2)))) rfl (by kernel_rfl) hc74 (by kernel_rfl))) ?_
            refine XR 1 ?_
            refine XL_split (bif (y72.2 != y73.2) then true else (!((y72.1.1 == y73.1.1) && ((y72.1.2.1 == y73.1.2.1) && (y72.1.2.2 == y73.1.2.2))))) (fun hc75 => ?_) (fun hc75 => ?_)
            ·refine XL_skipF _ rfl rfl (by kernel_rfl) hc75 rfl ?_
             refine XL_skipF _ rfl rfl (by kernel_rfl) hc75 rfl ?_
             refine XL_skip2 rfl rfl (by kernel_rfl) rfl ?_
             refine XL_skip2 rfl rfl (by kernel_rfl) rfl ?_
             refine XL_skip2 rfl rfl (by kernel_rfl) rfl ?_
             refine XL_skipF _ rfl rfl (by kernel_rfl) hc75 rfl ?_
             refine XL_cons rfl (X_of_Y0 rfl (Y0_pick1 (b := bif (y72.2 != y73.2) then true else (!((y72.1.1 == y73.1.1) && ((y72.1.2.1 == y73.1.2.1) && (y72.1.2.2 == y73.1.2.2))))) (p := true) (q := bif y73.2 then (!((y73.1.1 == y13.1.1) && ((y73.1.2.1 == y13.1.2.1) && (y73.1.2.2 == y13.1.2.2)))) else false) rfl (by kernel_rfl) hc75 (by kernel_rfl))) ?_
             refine XL_nil ?_
             subst ht77
             kernel_rfl
            ·refine XL_takeC _ rfl rfl (by kernel_rfl) hc75 (X_of_Y0 rfl (E_move (Bo y73.2) rfl (by kernel_rfl))) ?_
             refine XL_takeC _ rfl rfl (by kernel_rfl) hc75 (X_of_Y0 rfl (E_move (Bo y73.2) rfl (by kernel_rfl))) ?_
             refine XL_split y73.2 (fun hc76 => ?_) (fun hc76 => ?_)
             ·refine XL_takeC _ rfl rfl (by kernel_rfl) hc76 (X_of_Y0 rfl (E_loadn (cs := [Ti y73.1.1, Ti y73.1.2.1, Ti y73.1.2.2]) [Ti y73.1.1, Ti y73.1.2.1, Ti y73.1.2.2] wd25 rfl (by kernel_rfl) (Nat.le_of_ble_eq_true rfl) (by kernel_rfl))) ?_
              refine XL_takeC _ rfl rfl (by kernel_rfl) hc76 (X_of_Y0 rfl (E_loadn (cs := [Ti y13.1.1, Ti y13.1.2.1, Ti y13.1.2.2]) [Ti y13.1.1, Ti y13.1.2.1, Ti y13.1.2.2] wd25 rfl (by kernel_rfl) (Nat.le_of_ble_eq_true rfl) (by kernel_rfl))) ?_
              refine XL_takeC _ rfl rfl (by kernel_rfl) hc76 (X_of_Y0 rfl (Y0_neg3 (a0 := y73.1.1) (b0 := y13.1.1) (a1 := y73.1.2.1) (b1 := y13.1.2.1) (a2 := y73.1.2.2) (b2 := y13.1.2.2) neg25 rfl (by kernel_rfl) (by kernel_rfl))) ?_
              refine XL_takeC _ rfl rfl (by kernel_rfl) hc75 (X_of_Y0 rfl (Y0_pick1 (b := y73.2) (p := !((y73.1.1 == y13.1.1) && ((y73.1.2.1 == y13.1.2.1) && (y73.1.2.2 == y13.1.2.2)))) (q := false) rfl (by kernel_rfl) hc76 (by kernel_rfl))) ?_
              refine XL_cons rfl (X_of_Y0 rfl (Y0_pick0 (b := bif (y72.2 != y73.2) then true else (!((y72.1.1 == y73.1.1) && ((y72.1.2.1 == y73.1.2.1) && (y72.1.2.2 == y73.1.2.2))))) (p := true) (q := bif y73.2 then (!((y73.1.1 == y13.1.1) && ((y73.1.2.1 == y13.1.2.1) && (y73.1.2.2 == y13.1.2.2)))) else false) rfl (by kernel_rfl) hc75 (by kernel_rfl))) ?_
              refine XL_nil ?_
              subst ht77
              kernel_rfl
             ·refine XL_skipT _ rfl rfl (by kernel_rfl) hc76 rfl ?_
              refine XL_skipT _ rfl rfl (by kernel_rfl) hc76 rfl ?_
              refine XL_skipT _ rfl rfl (by kernel_rfl) hc76 rfl ?_
              refine XL_takeC _ rfl rfl (by kernel_rfl) hc75 (X_of_Y0 rfl (Y0_pick0 (b := y73.2) (p := !((y73.1.1 == y13.1.1) && ((y73.1.2.1 == y13.1.2.1) && (y73.1.2.2 == y13.1.2.2)))) (q := false) rfl (by kernel_rfl) hc76 (by kernel_rfl))) ?_
              refine XL_cons rfl (X_of_Y0 rfl (Y0_pick0 (b := bif (y72.2 != y73.2) then true else (!((y72.1.1 == y73.1.1) && ((y72.1.2.1 == y73.1.2.1) && (y72.1.2.2 == y73.1.2.2))))) (p := true) (q := bif y73.2 then (!((y73.1.1 == y13.1.1) && ((y73.1.2.1 == y13.1.2.1) && (y73.1.2.2 == y13.1.2.2)))) else false) rfl (by kernel_rfl) hc75 (by kernel_rfl))) ?_
              refine XL_nil ?_
              subst ht77
              kernel_rfl
          refine V_cond rfl (fun hc78 => ?_) (fun hc78 => ?_)
          ·have h := of_true h hc78
           refine V_e (mb 220 16) [] (s1 := ⟨bt 4 (Bo false :: bt 215 []), []⟩) ?_
           refine V_ret ?_
           obtain rfl := some_inj h
           have h := hko64
           obtain rfl := some_inj h
           show Post _ _ _ _ _
           exact ⟨.inr rfl, rfl, rfl, rfl⟩
          ·have h := of_false h hc78
           refine V_skip ?_
           show V _ _ _ _
           obtain ⟨t79, ht79, h⟩ := of_sI h
           refine V_reg (mb 220 41904174945551648470736051523641266739574897872209984) [672, 88] (s1 := ⟨bt 6 (I y5.2 :: bt 4 (.pt 88 0 :: bt 160 (.ow 672 :: I ((y15.1.length : Int)) :: I t79 :: bt 45 []))), [(672, .arr 25 3 (y15.1.map c25)), (88, .box [Ti y13.1.1, Ti y13.1.2.1, Ti y13.1.2.2])]⟩) ?_ ?_
           ·refine XR 2 ?_
            refine XL_nil ?_
            subst ht79
            kernel_rfl
           exact ⟨n, Nat.lt_succ_self n, _,  by rfl, h⟩
        ·have h := of_false h hc65
         refine V_exit ?_
         obtain rfl := some_inj h
         exact ⟨_, rfl, by rfl⟩
      rintro o64 rfl
      have h := hko64
      clear hko64
      show V _ _ _ _
      refine V_e (mb 220 16) [] (s1 := ⟨bt 4 (Bo true :: bt 215 []), []⟩) ?_
      refine V_ret ?_
      obtain rfl := some_inj h
      show Post _ _ _ _ _
      exact ⟨.inr rfl, rfl, rfl, rfl⟩
end Go.Proofs.YtafomkclmkfjeaaGreat
