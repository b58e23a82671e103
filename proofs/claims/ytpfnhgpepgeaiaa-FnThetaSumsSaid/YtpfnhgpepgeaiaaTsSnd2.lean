/-
  The functions of the program compute what the plain functions say: more of them.
  Conditions: none.
-/
import Derived.Test.YtpfnhgpepgeaiaaTsSnd1
namespace Go.Proofs.Ytpfnhgpepgeaiaa
open Go.RowKit
set_option linter.unusedVariables false
set_option linter.unusedSimpArgs false
theorem cf_spec_reMove : ∀ args w, (callFunc 145 args).run Try.prog w = .ok (.enter 145 args) w := run_callFunc Try.func145 (by kernel_rfl) (by kernel_rfl)
set_option maxRecDepth 100000 in
set_option maxHeartbeats 400000 in
theorem s_spec_reMove {f1 : (Int × Int × Int)} {r : (Int × Int × Int × Int)} (h : r_spec_reMove f1 = some r) : CallS Try.prog 145 [.ag [Ti f1.1, Ti f1.2.1, Ti f1.2.2]] (.ag [Ti r.1, Ti r.2.1, Ti r.2.2.1, Ti r.2.2.2]) [] := by
  refine CallS_of_text (rs := [.w 2 4]) (vs := [.cell 2 99]) Try.func145 rfl rfl (.cons ⟨rfl, wd99⟩ FitsL.nil) (by decide) 14 rfl ?_
  unfold r_spec_reMove at h
  show V _ _ ⟨.ag [Ti f1.1, Ti f1.2.1, Ti f1.2.2] :: bt 13 [], []⟩ _
  refine V_sreg (mb 14 6) [16, 8] (s1 := ⟨.bot :: .pt 8 0 :: .pt 16 0 :: bt 11 [], [(16, .box [Ti 0, Ti 0, Ti 0, Ti 0]), (8, .box [Ti f1.1, Ti f1.2.1, Ti f1.2.2])]⟩) ?_ ?_
  ·refine L1 rfl rfl (Y1_box (cs := [Ti f1.1, Ti f1.2.1, Ti f1.2.2]) rfl (by kernel_rfl)) ?_
   refine L1 rfl rfl (Y1_alloc (z := zv99) rfl zf99 rfl) ?_
   refine XL_nil ?_
   kernel_rfl
  refine V_seq ?_
  obtain ⟨y2, hy2, h⟩ := of_bind h
  refine V_sreg (mb 14 14) [16, 8] (s1 := ⟨.bot :: .pt 8 0 :: .pt 16 0 :: I y2 :: bt 10 [], [(16, .box [Ti 0, Ti 0, Ti 0, Ti 0]), (8, .box [Ti f1.1, Ti f1.2.1, Ti f1.2.2])]⟩) ?_ ?_
  ·refine L0 rfl rfl (E_loadn (cs := [Ti f1.1, Ti f1.2.1, Ti f1.2.2]) [Ti f1.1, Ti f1.2.1, Ti f1.2.2] wd43 rfl (by kernel_rfl) (Nat.le_of_ble_eq_true rfl) (by kernel_rfl)) ?_
   refine L1 rfl rfl (Y1_call (s_spec_reNormal hy2) cf_spec_reNormal rfl (by kernel_rfl)) ?_
   refine L0 rfl rfl (E_assign (I y2) rfl (by kernel_rfl)) ?_
   refine XL_nil ?_
   kernel_rfl
  refine V_sreg (mb 14 142) [16, 8] (s1 := ⟨.bot :: .pt 8 0 :: .pt 16 0 :: I y2 :: bt 3 (Bo (!eqI y2 0) :: bt 6 []), [(16, .box [Ti 0, Ti 0, Ti 0, Ti 0]), (8, .box [Ti f1.1, Ti f1.2.1, Ti f1.2.2])]⟩) ?_ ?_
  ·refine L0 rfl rfl (E_move (I y2) rfl (by kernel_rfl)) ?_
   refine L0 rfl rfl (Y0_new (k := .i64) (a := y2) (b := 0) rfl (by kernel_rfl) (by kernel_rfl)) ?_
   refine XL_nil ?_
   kernel_rfl
  refine V_cond rfl (fun hc3 => ?_) (fun hc3 => ?_)
  ·have h := of_true h hc3
   refine V_sreg (mb 14 4) [16] (s1 := ⟨.bot :: .bot :: .pt 16 0 :: bt 11 [], [(16, .box [Ti 1, Ti y2, Ti 0, Ti 1])]⟩) ?_ ?_
   ·refine L0 rfl rfl (E_move (I y2) rfl (by kernel_rfl)) ?_
    refine L0 rfl rfl (Y0_build (cs := [Ti 1, Ti y2, Ti 0, Ti 1]) pl99 bt99 rfl rfl (by kernel_rfl)) ?_
    refine XL_cons rfl (E_store (id := 16) (off := 0) (cs := [Ti 0, Ti 0, Ti 0, Ti 0]) (vc := [Ti 1, Ti y2, Ti 0, Ti 1]) [Ti 1, Ti y2, Ti 0, Ti 1] rfl rfl (by kernel_rfl) (by kernel_rfl) (by kernel_rfl) sz99 (Nat.le_of_ble_eq_true rfl) (by kernel_rfl)) ?_
    refine XL_nil ?_
    kernel_rfl
   refine V_ret ?_
   obtain rfl := some_inj h
   show Post _ _ _ _ _
   exact ⟨.inr rfl, rfl, rfl, rfl⟩
  ·have h := of_false h hc3
   refine V_skip ?_
   show V _ _ _ _
   refine V_seq ?_
   obtain ⟨y4, hy4, h⟩ := of_bind h
   refine V_sreg (mb 14 2052) [16] (s1 := ⟨.bot :: .bot :: .pt 16 0 :: bt 8 (Bo y4 :: .bot :: .bot :: []), [(16, .box [Ti 0, Ti 0, Ti 0, Ti 0])]⟩) ?_ ?_
   ·refine L0 rfl rfl (E_loadn (cs := [Ti f1.1, Ti f1.2.1, Ti f1.2.2]) [Ti f1.1, Ti f1.2.1, Ti f1.2.2] wd43 rfl (by kernel_rfl) (Nat.le_of_ble_eq_true rfl) (by kernel_rfl)) ?_
    refine L1 rfl rfl (Y1_call (s_spec_reIs hy4) cf_spec_reIs rfl (by kernel_rfl)) ?_
    refine XL_nil ?_
    kernel_rfl
   refine V_cond rfl (fun hc5 => ?_) (fun hc5 => ?_)
   ·have h := of_true h hc5
    refine V_sreg (mb 14 4) [16] (s1 := ⟨.bot :: .bot :: .pt 16 0 :: bt 11 [], [(16, .box [Ti 1, Ti 0, Ti 0, Ti 1])]⟩) ?_ ?_
    ·refine L0 rfl rfl (Y0_build (cs := [Ti 1, Ti 0, Ti 0, Ti 1]) pl99 bt99 rfl rfl (by kernel_rfl)) ?_
     refine XL_cons rfl (E_store (id := 16) (off := 0) (cs := [Ti 0, Ti 0, Ti 0, Ti 0]) (vc := [Ti 1, Ti 0, Ti 0, Ti 1]) [Ti 1, Ti 0, Ti 0, Ti 1] rfl rfl (by kernel_rfl) (by kernel_rfl) (by kernel_rfl) sz99 (Nat.le_of_ble_eq_true rfl) (by kernel_rfl)) ?_
     refine XL_nil ?_
     kernel_rfl
    refine V_ret ?_
    obtain rfl := some_inj h
    show Post _ _ _ _ _
    exact ⟨.inr rfl, rfl, rfl, rfl⟩
   ·have h := of_false h hc5
    refine V_skip ?_
    show V _ _ _ _
    refine V_sreg (mb 14 4) [16] (s1 := ⟨.bot :: .bot :: .pt 16 0 :: bt 11 [], [(16, .box [Ti 0, Ti (-1), Ti 1, Ti 0])]⟩) ?_ ?_
    ·refine L0 rfl rfl (Y0_build (cs := [Ti 0, Ti (-1), Ti 1, Ti 0]) pl99 bt99 rfl rfl (by kernel_rfl)) ?_
     refine XL_cons rfl (E_store (id := 16) (off := 0) (cs := [Ti 0, Ti 0, Ti 0, Ti 0]) (vc := [Ti 0, Ti (-1), Ti 1, Ti 0]) [Ti 0, Ti (-1), Ti 1, Ti 0] rfl rfl (by kernel_rfl) (by kernel_rfl) (by kernel_rfl) sz99 (Nat.le_of_ble_eq_true rfl) (by kernel_rfl)) ?_
     refine XL_nil ?_
     kernel_rfl
    refine V_ret ?_
    obtain rfl := some_inj h
    show Post _ _ _ _ _
    exact ⟨.inr rfl, rfl, rfl, rfl⟩
theorem cf_spec_foValue : ∀ args w, (callFunc 126 args).run Try.prog w = .ok (.enter 126 args) w := run_callFunc Try.func126 (by kernel_rfl) (by kernel_rfl)
set_option maxRecDepth 100000 in
set_option maxHeartbeats 400000 in
theorem s_spec_foValue {f1 : (Int × Int × Int)} {x2 : Int} {y3 : Int} {r : Int} (h : r_spec_foValue f1 x2 y3 = some r) : CallS Try.prog 126 [.ag [Ti f1.1, Ti f1.2.1, Ti f1.2.2], I x2, I y3] (I r) [] := by
  refine CallS_of_text (rs := [.t 6]) (vs := [.tmp 6]) Try.func126 rfl rfl (.cons rfl FitsL.nil) (by decide) 27 rfl ?_
  unfold r_spec_foValue at h
  show V _ _ ⟨.ag [Ti f1.1, Ti f1.2.1, Ti f1.2.2] :: I x2 :: I y3 :: bt 24 [], []⟩ _
  refine V_sreg (mb 27 14) [24] (s1 := ⟨.bot :: I x2 :: I y3 :: .pt 24 0 :: bt 23 [], [(24, .box [Ti f1.1, Ti f1.2.1, Ti f1.2.2])]⟩) ?_ ?_
  ·refine L1 rfl rfl (Y1_box (cs := [Ti f1.1, Ti f1.2.1, Ti f1.2.2]) rfl (by kernel_rfl)) ?_
   refine L0 rfl rfl (E_assign (I 0) rfl (by kernel_rfl)) ?_
   refine XL_nil ?_
   kernel_rfl
  obtain ⟨t4, ht4, h⟩ := of_sI h
  refine V_sreg (mb 27 64) [] (s1 := ⟨bt 6 (I t4 :: bt 20 []), []⟩) ?_ ?_
  ·refine L0 rfl rfl (E_field (.pt 24 0) Try.underlying43 rfl sz3 rfl (by kernel_rfl) (by intro hh; cases hh)) ?_
   refine L0 rfl rfl (Y0_load1 (c := Ti f1.1) (cs := [Ti f1.2.1, Ti f1.2.2]) sc3 rfl (by kernel_rfl)) ?_
   refine L0 rfl rfl (E_move (I x2) rfl (by kernel_rfl)) ?_
   refine L0 rfl rfl (Y0_mul64 (a := f1.1) (b := x2) rfl (by kernel_rfl) (by kernel_rfl)) ?_
   refine L0 rfl rfl (E_move (I x2) rfl (by kernel_rfl)) ?_
   refine L0 rfl rfl (Y0_mul64 (a := w64 (f1.1 * x2)) (b := x2) rfl (by kernel_rfl) (by kernel_rfl)) ?_
   refine L0 rfl rfl (E_field (.pt 24 1) Try.underlying43 rfl sz3 rfl (by kernel_rfl) (by intro hh; cases hh)) ?_
   refine L0 rfl rfl (Y0_load1 (c := Ti f1.2.1) (cs := [Ti f1.2.2]) sc3 rfl (by kernel_rfl)) ?_
   refine L0 rfl rfl (E_move (I x2) rfl (by kernel_rfl)) ?_
   refine L0 rfl rfl (Y0_mul64 (a := f1.2.1) (b := x2) rfl (by kernel_rfl) (by kernel_rfl)) ?_
   refine L0 rfl rfl (E_move (I y3) rfl (by kernel_rfl)) ?_
   refine L0 rfl rfl (Y0_mul64 (a := w64 (f1.2.1 * x2)) (b := y3) rfl (by kernel_rfl) (by kernel_rfl)) ?_
   refine L0 rfl rfl (Y0_add64 (a := w64 ((w64 (f1.1 * x2)) * x2)) (b := w64 ((w64 (f1.2.1 * x2)) * y3)) rfl (by kernel_rfl) (by kernel_rfl)) ?_
   refine L0 rfl rfl (E_field (.pt 24 2) Try.underlying43 rfl sz3 rfl (by kernel_rfl) (by intro hh; cases hh)) ?_
   refine L0 rfl rfl (Y0_load1 (c := Ti f1.2.2) (cs := []) sc3 rfl (by kernel_rfl)) ?_
   refine L0 rfl rfl (E_move (I y3) rfl (by kernel_rfl)) ?_
   refine L0 rfl rfl (Y0_mul64 (a := f1.2.2) (b := y3) rfl (by kernel_rfl) (by kernel_rfl)) ?_
   refine L0 rfl rfl (E_move (I y3) rfl (by kernel_rfl)) ?_
   refine L0 rfl rfl (Y0_mul64 (a := w64 (f1.2.2 * y3)) (b := y3) rfl (by kernel_rfl) (by kernel_rfl)) ?_
   refine L0 rfl rfl (Y0_add64 (a := w64 ((w64 ((w64 (f1.1 * x2)) * x2)) + (w64 ((w64 (f1.2.1 * x2)) * y3)))) (b := w64 ((w64 (f1.2.2 * y3)) * y3)) rfl (by kernel_rfl) (by kernel_rfl)) ?_
   refine L0 rfl rfl (E_assign (I (w64 ((w64 ((w64 ((w64 (f1.1 * x2)) * x2)) + (w64 ((w64 (f1.2.1 * x2)) * y3)))) + (w64 ((w64 (f1.2.2 * y3)) * y3))))) rfl (by kernel_rfl)) ?_
   refine XL_nil ?_
   subst ht4
   kernel_rfl
  refine V_ret ?_
  obtain rfl := some_inj h
  show Post _ _ _ _ _
  exact ⟨.inr rfl, rfl, rfl, rfl⟩
theorem cf_spec_foPolar : ∀ args w, (callFunc 149 args).run Try.prog w = .ok (.enter 149 args) w := run_callFunc Try.func149 (by kernel_rfl) (by kernel_rfl)
set_option maxRecDepth 100000 in
set_option maxHeartbeats 400000 in
theorem s_spec_foPolar {f1 : (Int × Int × Int)} {x2 : Int} {y3 : Int} {u4 : Int} {v5 : Int} {r : Int} (h : r_spec_foPolar f1 x2 y3 u4 v5 = some r) : CallS Try.prog 149 [.ag [Ti f1.1, Ti f1.2.1, Ti f1.2.2], I x2, I y3, I u4, I v5] (I r) [] := by
  refine CallS_of_text (rs := [.t 10]) (vs := [.tmp 10]) Try.func149 rfl rfl (.cons rfl FitsL.nil) (by decide) 37 rfl ?_
  unfold r_spec_foPolar at h
  show V _ _ ⟨.ag [Ti f1.1, Ti f1.2.1, Ti f1.2.2] :: I x2 :: I y3 :: I u4 :: I v5 :: bt 32 [], []⟩ _
  refine V_sreg (mb 37 62) [40] (s1 := ⟨.bot :: I x2 :: I y3 :: I u4 :: I v5 :: .pt 40 0 :: bt 31 [], [(40, .box [Ti f1.1, Ti f1.2.1, Ti f1.2.2])]⟩) ?_ ?_
  ·refine L1 rfl rfl (Y1_box (cs := [Ti f1.1, Ti f1.2.1, Ti f1.2.2]) rfl (by kernel_rfl)) ?_
   refine L0 rfl rfl (E_assign (I 0) rfl (by kernel_rfl)) ?_
   refine XL_nil ?_
   kernel_rfl
  obtain ⟨t6, ht6, h⟩ := of_sI h
  refine V_sreg (mb 37 1024) [] (s1 := ⟨bt 10 (I t6 :: bt 26 []), []⟩) ?_ ?_
  ·refine L0 rfl rfl (E_field (.pt 40 0) Try.underlying43 rfl sz3 rfl (by kernel_rfl) (by intro hh; cases hh)) ?_
   refine L0 rfl rfl (Y0_load1 (c := Ti f1.1) (cs := [Ti f1.2.1, Ti f1.2.2]) sc3 rfl (by kernel_rfl)) ?_
   refine L0 rfl rfl (Y0_mul64 (a := 2) (b := f1.1) rfl (by kernel_rfl) (by kernel_rfl)) ?_
   refine L0 rfl rfl (E_move (I x2) rfl (by kernel_rfl)) ?_
   refine L0 rfl rfl (Y0_mul64 (a := w64 (2 * f1.1)) (b := x2) rfl (by kernel_rfl) (by kernel_rfl)) ?_
   refine L0 rfl rfl (E_move (I u4) rfl (by kernel_rfl)) ?_
   refine L0 rfl rfl (Y0_mul64 (a := w64 ((w64 (2 * f1.1)) * x2)) (b := u4) rfl (by kernel_rfl) (by kernel_rfl)) ?_
   refine L0 rfl rfl (E_field (.pt 40 1) Try.underlying43 rfl sz3 rfl (by kernel_rfl) (by intro hh; cases hh)) ?_
   refine L0 rfl rfl (Y0_load1 (c := Ti f1.2.1) (cs := [Ti f1.2.2]) sc3 rfl (by kernel_rfl)) ?_
   refine L0 rfl rfl (E_move (I x2) rfl (by kernel_rfl)) ?_
   refine L0 rfl rfl (E_move (I v5) rfl (by kernel_rfl)) ?_
   refine L0 rfl rfl (Y0_mul64 (a := x2) (b := v5) rfl (by kernel_rfl) (by kernel_rfl)) ?_
   refine L0 rfl rfl (E_move (I y3) rfl (by kernel_rfl)) ?_
   refine L0 rfl rfl (E_move (I u4) rfl (by kernel_rfl)) ?_
   refine L0 rfl rfl (Y0_mul64 (a := y3) (b := u4) rfl (by kernel_rfl) (by kernel_rfl)) ?_
   refine L0 rfl rfl (Y0_add64 (a := w64 (x2 * v5)) (b := w64 (y3 * u4)) rfl (by kernel_rfl) (by kernel_rfl)) ?_
   refine L0 rfl rfl (Y0_mul64 (a := f1.2.1) (b := w64 ((w64 (x2 * v5)) + (w64 (y3 * u4)))) rfl (by kernel_rfl) (by kernel_rfl)) ?_
   refine L0 rfl rfl (Y0_add64 (a := w64 ((w64 ((w64 (2 * f1.1)) * x2)) * u4)) (b := w64 (f1.2.1 * (w64 ((w64 (x2 * v5)) + (w64 (y3 * u4)))))) rfl (by kernel_rfl) (by kernel_rfl)) ?_
   refine L0 rfl rfl (E_field (.pt 40 2) Try.underlying43 rfl sz3 rfl (by kernel_rfl) (by intro hh; cases hh)) ?_
   refine L0 rfl rfl (Y0_load1 (c := Ti f1.2.2) (cs := []) sc3 rfl (by kernel_rfl)) ?_
   refine L0 rfl rfl (Y0_mul64 (a := 2) (b := f1.2.2) rfl (by kernel_rfl) (by kernel_rfl)) ?_
   refine L0 rfl rfl (E_move (I y3) rfl (by kernel_rfl)) ?_
   refine L0 rfl rfl (Y0_mul64 (a := w64 (2 * f1.2.2)) (b := y3) rfl (by kernel_rfl) (by kernel_rfl)) ?_
   refine L0 rfl rfl (E_move (I v5) rfl (by kernel_rfl)) ?_
   refine L0 rfl rfl (Y0_mul64 (a := w64 ((w64 (2 * f1.2.2)) * y3)) (b := v5) rfl (by kernel_rfl) (by kernel_rfl)) ?_
   refine L0 rfl rfl (Y0_add64 (a := w64 ((w64 ((w64 ((w64 (2 * f1.1)) * x2)) * u4)) + (w64 (f1.2.1 * (w64 ((w64 (x2 * v5)) + (w64 (y3 * u4)))))))) (b := w64 ((w64 ((w64 (2 * f1.2.2)) * y3)) * v5)) rfl (by kernel_rfl) (by kernel_rfl)) ?_
   refine L0 rfl rfl (E_assign (I (w64 ((w64 ((w64 ((w64 ((w64 (2 * f1.1)) * x2)) * u4)) + (w64 (f1.2.1 * (w64 ((w64 (x2 * v5)) + (w64 (y3 * u4)))))))) + (w64 ((w64 ((w64 (2 * f1.2.2)) * y3)) * v5))))) rfl (by kernel_rfl)) ?_
   refine XL_nil ?_
   subst ht6
   kernel_rfl
  refine V_ret ?_
  obtain rfl := some_inj h
  show Post _ _ _ _ _
  exact ⟨.inr rfl, rfl, rfl, rfl⟩
theorem cf_spec_foAct : ∀ args w, (callFunc 146 args).run Try.prog w = .ok (.enter 146 args) w := run_callFunc Try.func146 (by kernel_rfl) (by kernel_rfl)
set_option maxRecDepth 100000 in
set_option maxHeartbeats 400000 in
theorem s_spec_foAct {f1 : (Int × Int × Int)} {vm2 : (Int × Int × Int × Int)} {r : (Int × Int × Int)} (h : r_spec_foAct f1 vm2 = some r) : CallS Try.prog 146 [.ag [Ti f1.1, Ti f1.2.1, Ti f1.2.2], .ag [Ti vm2.1, Ti vm2.2.1, Ti vm2.2.2.1, Ti vm2.2.2.2]] (.ag [Ti r.1, Ti r.2.1, Ti r.2.2]) [] := by
  refine CallS_of_text (rs := [.w 4 3]) (vs := [.cell 4 43]) Try.func146 rfl rfl (.cons ⟨rfl, wd43⟩ FitsL.nil) (by decide) 28 rfl ?_
  unfold r_spec_foAct at h
  show V _ _ ⟨.ag [Ti f1.1, Ti f1.2.1, Ti f1.2.2] :: .ag [Ti vm2.1, Ti vm2.2.1, Ti vm2.2.2.1, Ti vm2.2.2.2] :: bt 26 [], []⟩ _
  refine V_sreg (mb 28 28) [32, 24, 16] (s1 := ⟨.bot :: .bot :: .pt 16 0 :: .pt 24 0 :: .pt 32 0 :: bt 23 [], [(32, .box [Ti 0, Ti 0, Ti 0]), (24, .box [Ti vm2.1, Ti vm2.2.1, Ti vm2.2.2.1, Ti vm2.2.2.2]), (16, .box [Ti f1.1, Ti f1.2.1, Ti f1.2.2])]⟩) ?_ ?_
  ·refine L1 rfl rfl (Y1_box (cs := [Ti f1.1, Ti f1.2.1, Ti f1.2.2]) rfl (by kernel_rfl)) ?_
   refine L1 rfl rfl (Y1_box (cs := [Ti vm2.1, Ti vm2.2.1, Ti vm2.2.2.1, Ti vm2.2.2.2]) rfl (by kernel_rfl)) ?_
   refine L1 rfl rfl (Y1_alloc (z := zv43) rfl zf43 rfl) ?_
   refine XL_nil ?_
   kernel_rfl
  obtain ⟨y3, hy3, h⟩ := of_bind h
  obtain ⟨y4, hy4, h⟩ := of_bind h
  obtain ⟨y5, hy5, h⟩ := of_bind h
  refine V_sdreg [0, 0, 2, 0, 8, 31, 0, 0, 128, 0, 512, 0, 2048, 0, 8192, 32767, 0, 0, 131072, 0, 524288, 2097151, 4194303, 8388607] 23 [[.z, .b, .b, .b, .b, .z, .b, .b, .b, .b, .b, .b, .b, .b, .b, .z, .b, .b, .b, .b, .b, .z, .z], [.b, .z, .z, .b, .b, .z, .b, .b, .b, .b, .b, .b, .b, .b, .b, .z, .b, .b, .b, .b, .b, .z, .z], [.b, .a, .z, .b, .b, .z, .b, .b, .b, .b, .b, .b, .b, .b, .b, .z, .b, .b, .b, .b, .b, .z, .z], [.b, .b, .b, .z, .z, .z, .b, .b, .b, .b, .b, .b, .b, .b, .b, .z, .b, .b, .b, .b, .b, .z, .z], [.b, .b, .b, .a, .z, .z, .b, .b, .b, .b, .b, .b, .b, .b, .b, .z, .b, .b, .b, .b, .b, .z, .z], [.a, .a, .a, .a, .a, .z, .b, .b, .b, .b, .b, .b, .b, .b, .b, .z, .b, .b, .b, .b, .b, .z, .z], [.b, .b, .b, .b, .b, .b, .z, .b, .b, .b, .b, .b, .b, .b, .b, .z, .b, .b, .b, .b, .b, .z, .z], [.b, .b, .b, .b, .b, .b, .b, .z, .z, .b, .b, .b, .b, .b, .b, .z, .b, .b, .b, .b, .b, .z, .z], [.b, .b, .b, .b, .b, .b, .b, .a, .z, .b, .b, .b, .b, .b, .b, .z, .b, .b, .b, .b, .b, .z, .z], [.b, .b, .b, .b, .b, .b, .b, .b, .b, .z, .z, .b, .b, .b, .b, .z, .b, .b, .b, .b, .b, .z, .z], [.b, .b, .b, .b, .b, .b, .b, .b, .b, .a, .z, .b, .b, .b, .b, .z, .b, .b, .b, .b, .b, .z, .z], [.b, .b, .b, .b, .b, .b, .b, .b, .b, .b, .b, .z, .z, .b, .b, .z, .b, .b, .b, .b, .b, .z, .z], [.b, .b, .b, .b, .b, .b, .b, .b, .b, .b, .b, .a, .z, .b, .b, .z, .b, .b, .b, .b, .b, .z, .z], [.b, .b, .b, .b, .b, .b, .b, .b, .b, .b, .b, .b, .b, .z, .z, .z, .b, .b, .b, .b, .b, .z, .z], [.b, .b, .b, .b, .b, .b, .b, .b, .b, .b, .b, .b, .b, .a, .z, .z, .b, .b, .b, .b, .b, .z, .z], [.a, .a, .a, .a, .a, .a, .a, .a, .a, .a, .a, .a, .a, .a, .a, .z, .b, .b, .b, .b, .b, .z, .z], [.b, .b, .b, .b, .b, .b, .b, .b, .b, .b, .b, .b, .b, .b, .b, .b, .z, .b, .b, .b, .b, .z, .z], [.b, .b, .b, .b, .b, .b, .b, .b, .b, .b, .b, .b, .b, .b, .b, .b, .b, .z, .z, .b, .b, .z, .z], [.b, .b, .b, .b, .b, .b, .b, .b, .b, .b, .b, .b, .b, .b, .b, .b, .b, .a, .z, .b, .b, .z, .z], [.b, .b, .b, .b, .b, .b, .b, .b, .b, .b, .b, .b, .b, .b, .b, .b, .b, .b, .b, .z, .z, .z, .z], [.b, .b, .b, .b, .b, .b, .b, .b, .b, .b, .b, .b, .b, .b, .b, .b, .b, .b, .b, .a, .z, .z, .z], [.a, .a, .a, .a, .a, .a, .a, .a, .a, .a, .a, .a, .a, .a, .a, .a, .a, .a, .a, .a, .a, .z, .z], [.a, .a, .a, .a, .a, .a, .a, .a, .a, .a, .a, .a, .a, .a, .a, .a, .a, .a, .a, .a, .a, .a, .z]] (mb 28 16) [32] (s1 := ⟨bt 4 (.pt 32 0 :: bt 23 []), [(32, .box [Ti y3, Ti y4, Ti y5])]⟩) (by kernel_rfl) (by kernel_rfl) ?_ ?_
  ·refine DE_0 0 (.ag [Ti f1.1, Ti f1.2.1, Ti f1.2.2]) (by kernel_rfl) rfl rfl rfl (gsat_none rfl) (by kernel_rfl) (E_loadn (cs := [Ti f1.1, Ti f1.2.1, Ti f1.2.2]) [Ti f1.1, Ti f1.2.1, Ti f1.2.2] wd43 rfl (by kernel_rfl) (Nat.le_of_ble_eq_true rfl) (by kernel_rfl)) 5 rfl ?_
   refine DE_0 1 (.pt 24 0) (by kernel_rfl) rfl rfl rfl (gsat_none rfl) (by kernel_rfl) (E_field (.pt 24 0) Try.underlying99 rfl sz3 rfl (by kernel_rfl) (by intro hh; cases hh)) 6 rfl ?_
   refine DE_0 2 (I vm2.1) (by kernel_rfl) rfl rfl rfl (gsat_none rfl) (by kernel_rfl) (Y0_load1 (c := Ti vm2.1) (cs := [Ti vm2.2.1, Ti vm2.2.2.1, Ti vm2.2.2.2]) sc3 rfl (by kernel_rfl)) 7 rfl ?_
   refine DE_0 3 (.pt 24 2) (by kernel_rfl) rfl rfl rfl (gsat_none rfl) (by kernel_rfl) (E_field (.pt 24 2) Try.underlying99 rfl sz3 rfl (by kernel_rfl) (by intro hh; cases hh)) 8 rfl ?_
   refine DE_0 4 (I vm2.2.2.1) (by kernel_rfl) rfl rfl rfl (gsat_none rfl) (by kernel_rfl) (Y0_load1 (c := Ti vm2.2.2.1) (cs := [Ti vm2.2.2.2]) sc3 rfl (by kernel_rfl)) 9 rfl ?_
   refine DE_1 5 (by kernel_rfl) rfl rfl rfl (gsat_none rfl) (Y1_call (s_spec_foValue hy3) cf_spec_foValue rfl (by kernel_rfl)) rfl rfl rfl 10 rfl ?_
   refine DE_0 6 (.ag [Ti f1.1, Ti f1.2.1, Ti f1.2.2]) (by kernel_rfl) rfl rfl rfl (gsat_none rfl) (by kernel_rfl) (E_loadn (cs := [Ti f1.1, Ti f1.2.1, Ti f1.2.2]) [Ti f1.1, Ti f1.2.1, Ti f1.2.2] wd43 rfl (by kernel_rfl) (Nat.le_of_ble_eq_true rfl) (by kernel_rfl)) 11 rfl ?_
   refine DE_0 7 (.pt 24 0) (by kernel_rfl) rfl rfl rfl (gsat_none rfl) (by kernel_rfl) (E_field (.pt 24 0) Try.underlying99 rfl sz3 rfl (by kernel_rfl) (by intro hh; cases hh)) 12 rfl ?_
   refine DE_0 8 (I vm2.1) (by kernel_rfl) rfl rfl rfl (gsat_none rfl) (by kernel_rfl) (Y0_load1 (c := Ti vm2.1) (cs := [Ti vm2.2.1, Ti vm2.2.2.1, Ti vm2.2.2.2]) sc3 rfl (by kernel_rfl)) 13 rfl ?_
   refine DE_0 9 (.pt 24 2) (by kernel_rfl) rfl rfl rfl (gsat_none rfl) (by kernel_rfl) (E_field (.pt 24 2) Try.underlying99 rfl sz3 rfl (by kernel_rfl) (by intro hh; cases hh)) 14 rfl ?_
   refine DE_0 10 (I vm2.2.2.1) (by kernel_rfl) rfl rfl rfl (gsat_none rfl) (by kernel_rfl) (Y0_load1 (c := Ti vm2.2.2.1) (cs := [Ti vm2.2.2.2]) sc3 rfl (by kernel_rfl)) 15 rfl ?_
   refine DE_0 11 (.pt 24 1) (by kernel_rfl) rfl rfl rfl (gsat_none rfl) (by kernel_rfl) (E_field (.pt 24 1) Try.underlying99 rfl sz3 rfl (by kernel_rfl) (by intro hh; cases hh)) 16 rfl ?_
   refine DE_0 12 (I vm2.2.1) (by kernel_rfl) rfl rfl rfl (gsat_none rfl) (by kernel_rfl) (Y0_load1 (c := Ti vm2.2.1) (cs := [Ti vm2.2.2.1, Ti vm2.2.2.2]) sc3 rfl (by kernel_rfl)) 17 rfl ?_
   refine DE_0 13 (.pt 24 3) (by kernel_rfl) rfl rfl rfl (gsat_none rfl) (by kernel_rfl) (E_field (.pt 24 3) Try.underlying99 rfl sz3 rfl (by kernel_rfl) (by intro hh; cases hh)) 18 rfl ?_
   refine DE_0 14 (I vm2.2.2.2) (by kernel_rfl) rfl rfl rfl (gsat_none rfl) (by kernel_rfl) (Y0_load1 (c := Ti vm2.2.2.2) (cs := []) sc3 rfl (by kernel_rfl)) 19 rfl ?_
   refine DE_1 15 (by kernel_rfl) rfl rfl rfl (gsat_none rfl) (Y1_call (s_spec_foPolar hy4) cf_spec_foPolar rfl (by kernel_rfl)) rfl rfl rfl 20 rfl ?_
   refine DE_0 16 (.ag [Ti f1.1, Ti f1.2.1, Ti f1.2.2]) (by kernel_rfl) rfl rfl rfl (gsat_none rfl) (by kernel_rfl) (E_loadn (cs := [Ti f1.1, Ti f1.2.1, Ti f1.2.2]) [Ti f1.1, Ti f1.2.1, Ti f1.2.2] wd43 rfl (by kernel_rfl) (Nat.le_of_ble_eq_true rfl) (by kernel_rfl)) 21 rfl ?_
   refine DE_0 17 (.pt 24 1) (by kernel_rfl) rfl rfl rfl (gsat_none rfl) (by kernel_rfl) (E_field (.pt 24 1) Try.underlying99 rfl sz3 rfl (by kernel_rfl) (by intro hh; cases hh)) 22 rfl ?_
   refine DE_0 18 (I vm2.2.1) (by kernel_rfl) rfl rfl rfl (gsat_none rfl) (by kernel_rfl) (Y0_load1 (c := Ti vm2.2.1) (cs := [Ti vm2.2.2.1, Ti vm2.2.2.2]) sc3 rfl (by kernel_rfl)) 23 rfl ?_
   refine DE_0 19 (.pt 24 3) (by kernel_rfl) rfl rfl rfl (gsat_none rfl) (by kernel_rfl) (E_field (.pt 24 3) Try.underlying99 rfl sz3 rfl (by kernel_rfl) (by intro hh; cases hh)) 24 rfl ?_
   refine DE_0 20 (I vm2.2.2.2) (by kernel_rfl) rfl rfl rfl (gsat_none rfl) (by kernel_rfl) (Y0_load1 (c := Ti vm2.2.2.2) (cs := []) sc3 rfl (by kernel_rfl)) 25 rfl ?_
   refine DE_1 21 (by kernel_rfl) rfl rfl rfl (gsat_none rfl) (Y1_call (s_spec_foValue hy5) cf_spec_foValue rfl (by kernel_rfl)) rfl rfl rfl 26 rfl ?_
   refine DE_0 22 (.ag [Ti y3, Ti y4, Ti y5]) (by kernel_rfl) rfl rfl rfl (gsat_none rfl) (by kernel_rfl) (Y0_build (cs := [Ti y3, Ti y4, Ti y5]) pl43 bt43 rfl rfl (by kernel_rfl)) 27 rfl ?_
   refine DL_nil (by kernel_rfl) ?_
   refine XL_cons rfl (E_store (id := 32) (off := 0) (cs := [Ti 0, Ti 0, Ti 0]) (vc := [Ti y3, Ti y4, Ti y5]) [Ti y3, Ti y4, Ti y5] rfl rfl (by kernel_rfl) (by kernel_rfl) (by kernel_rfl) sz43 (Nat.le_of_ble_eq_true rfl) (by kernel_rfl)) ?_
   refine XL_nil ?_
   kernel_rfl
  refine V_ret ?_
  obtain rfl := some_inj h
  show Post _ _ _ _ _
  exact ⟨.inr rfl, rfl, rfl, rfl⟩
theorem cf_spec_foMul : ∀ args w, (callFunc 147 args).run Try.prog w = .ok (.enter 147 args) w := run_callFunc Try.func147 (by kernel_rfl) (by kernel_rfl)
set_option maxRecDepth 100000 in
set_option maxHeartbeats 400000 in
theorem s_spec_foMul {vm1 : (Int × Int × Int × Int)} {vn2 : (Int × Int × Int × Int)} {r : (Int × Int × Int × Int)} (h : r_spec_foMul vm1 vn2 = some r) : CallS Try.prog 147 [.ag [Ti vm1.1, Ti vm1.2.1, Ti vm1.2.2.1, Ti vm1.2.2.2], .ag [Ti vn2.1, Ti vn2.2.1, Ti vn2.2.2.1, Ti vn2.2.2.2]] (.ag [Ti r.1, Ti r.2.1, Ti r.2.2.1, Ti r.2.2.2]) [] := by
  refine CallS_of_text (rs := [.w 4 4]) (vs := [.cell 4 99]) Try.func147 rfl rfl (.cons ⟨rfl, wd99⟩ FitsL.nil) (by decide) 50 rfl ?_
  unfold r_spec_foMul at h
  show V _ _ ⟨.ag [Ti vm1.1, Ti vm1.2.1, Ti vm1.2.2.1, Ti vm1.2.2.2] :: .ag [Ti vn2.1, Ti vn2.2.1, Ti vn2.2.2.1, Ti vn2.2.2.2] :: bt 48 [], []⟩ _
  refine V_sreg (mb 50 28) [32, 24, 16] (s1 := ⟨.bot :: .bot :: .pt 16 0 :: .pt 24 0 :: .pt 32 0 :: bt 45 [], [(32, .box [Ti 0, Ti 0, Ti 0, Ti 0]), (24, .box [Ti vn2.1, Ti vn2.2.1, Ti vn2.2.2.1, Ti vn2.2.2.2]), (16, .box [Ti vm1.1, Ti vm1.2.1, Ti vm1.2.2.1, Ti vm1.2.2.2])]⟩) ?_ ?_
  ·refine L1 rfl rfl (Y1_box (cs := [Ti vm1.1, Ti vm1.2.1, Ti vm1.2.2.1, Ti vm1.2.2.2]) rfl (by kernel_rfl)) ?_
   refine L1 rfl rfl (Y1_box (cs := [Ti vn2.1, Ti vn2.2.1, Ti vn2.2.2.1, Ti vn2.2.2.2]) rfl (by kernel_rfl)) ?_
   refine L1 rfl rfl (Y1_alloc (z := zv99) rfl zf99 rfl) ?_
   refine XL_nil ?_
   kernel_rfl
  obtain ⟨f3, hf3, h⟩ := of_sI h
  obtain ⟨f4, hf4, h⟩ := of_sI h
  obtain ⟨f5, hf5, h⟩ := of_sI h
  obtain ⟨f6, hf6, h⟩ := of_sI h
  refine V_sreg (mb 50 16) [32] (s1 := ⟨bt 4 (.pt 32 0 :: bt 45 []), [(32, .box [Ti f3, Ti f4, Ti f5, Ti f6])]⟩) ?_ ?_
  ·refine L0 rfl rfl (E_field (.pt 16 0) Try.underlying99 rfl sz3 rfl (by kernel_rfl) (by intro hh; cases hh)) ?_
   refine L0 rfl rfl (Y0_load1 (c := Ti vm1.1) (cs := [Ti vm1.2.1, Ti vm1.2.2.1, Ti vm1.2.2.2]) sc3 rfl (by kernel_rfl)) ?_
   refine L0 rfl rfl (E_field (.pt 24 0) Try.underlying99 rfl sz3 rfl (by kernel_rfl) (by intro hh; cases hh)) ?_
   refine L0 rfl rfl (Y0_load1 (c := Ti vn2.1) (cs := [Ti vn2.2.1, Ti vn2.2.2.1, Ti vn2.2.2.2]) sc3 rfl (by kernel_rfl)) ?_
   refine L0 rfl rfl (Y0_mul64 (a := vm1.1) (b := vn2.1) rfl (by kernel_rfl) (by kernel_rfl)) ?_
   refine L0 rfl rfl (E_field (.pt 16 1) Try.underlying99 rfl sz3 rfl (by kernel_rfl) (by intro hh; cases hh)) ?_
   refine L0 rfl rfl (Y0_load1 (c := Ti vm1.2.1) (cs := [Ti vm1.2.2.1, Ti vm1.2.2.2]) sc3 rfl (by kernel_rfl)) ?_
   refine L0 rfl rfl (E_field (.pt 24 2) Try.underlying99 rfl sz3 rfl (by kernel_rfl) (by intro hh; cases hh)) ?_
   refine L0 rfl rfl (Y0_load1 (c := Ti vn2.2.2.1) (cs := [Ti vn2.2.2.2]) sc3 rfl (by kernel_rfl)) ?_
   refine L0 rfl rfl (Y0_mul64 (a := vm1.2.1) (b := vn2.2.2.1) rfl (by kernel_rfl) (by kernel_rfl)) ?_
   refine L0 rfl rfl (Y0_add64 (a := w64 (vm1.1 * vn2.1)) (b := w64 (vm1.2.1 * vn2.2.2.1)) rfl (by kernel_rfl) (by kernel_rfl)) ?_
   refine L0 rfl rfl (E_field (.pt 16 0) Try.underlying99 rfl sz3 rfl (by kernel_rfl) (by intro hh; cases hh)) ?_
   refine L0 rfl rfl (Y0_load1 (c := Ti vm1.1) (cs := [Ti vm1.2.1, Ti vm1.2.2.1, Ti vm1.2.2.2]) sc3 rfl (by kernel_rfl)) ?_
   refine L0 rfl rfl (E_field (.pt 24 1) Try.underlying99 rfl sz3 rfl (by kernel_rfl) (by intro hh; cases hh)) ?_
   refine L0 rfl rfl (Y0_load1 (c := Ti vn2.2.1) (cs := [Ti vn2.2.2.1, Ti vn2.2.2.2]) sc3 rfl (by kernel_rfl)) ?_
   refine L0 rfl rfl (Y0_mul64 (a := vm1.1) (b := vn2.2.1) rfl (by kernel_rfl) (by kernel_rfl)) ?_
   refine L0 rfl rfl (E_field (.pt 16 1) Try.underlying99 rfl sz3 rfl (by kernel_rfl) (by intro hh; cases hh)) ?_
   refine L0 rfl rfl (Y0_load1 (c := Ti vm1.2.1) (cs := [Ti vm1.2.2.1, Ti vm1.2.2.2]) sc3 rfl (by kernel_rfl)) ?_
   refine L0 rfl rfl (E_field (.pt 24 3) Try.underlying99 rfl sz3 rfl (by kernel_rfl) (by intro hh; cases hh)) ?_
   refine L0 rfl rfl (Y0_load1 (c := Ti vn2.2.2.2) (cs := []) sc3 rfl (by kernel_rfl)) ?_
   refine L0 rfl rfl (Y0_mul64 (a := vm1.2.1) (b := vn2.2.2.2) rfl (by kernel_rfl) (by kernel_rfl)) ?_
   refine L0 rfl rfl (Y0_add64 (a := w64 (vm1.1 * vn2.2.1)) (b := w64 (vm1.2.1 * vn2.2.2.2)) rfl (by kernel_rfl) (by kernel_rfl)) ?_
   refine L0 rfl rfl (E_field (.pt 16 2) Try.underlying99 rfl sz3 rfl (by kernel_rfl) (by intro hh; cases hh)) ?_
   refine L0 rfl rfl (Y0_load1 (c := Ti vm1.2.2.1) (cs := [Ti vm1.2.2.2]) sc3 rfl (by kernel_rfl)) ?_
   refine L0 rfl rfl (E_field (.pt 24 0) Try.underlying99 rfl sz3 rfl (by kernel_rfl) (by intro hh; cases hh)) ?_
   refine L0 rfl rfl (Y0_load1 (c := Ti vn2.1) (cs := [Ti vn2.2.1, Ti vn2.2.2.1, Ti vn2.2.2.2]) sc3 rfl (by kernel_rfl)) ?_
   refine L0 rfl rfl (Y0_mul64 (a := vm1.2.2.1) (b := vn2.1) rfl (by kernel_rfl) (by kernel_rfl)) ?_
   refine L0 rfl rfl (E_field (.pt 16 3) Try.underlying99 rfl sz3 rfl (by kernel_rfl) (by intro hh; cases hh)) ?_
   refine L0 rfl rfl (Y0_load1 (c := Ti vm1.2.2.2) (cs := []) sc3 rfl (by kernel_rfl)) ?_
   refine L0 rfl rfl (E_field (.pt 24 2) Try.underlying99 rfl sz3 rfl (by kernel_rfl) (by intro hh; cases hh)) ?_
   refine L0 rfl rfl (Y0_load1 (c := Ti vn2.2.2.1) (cs := [Ti vn2.2.2.2]) sc3 rfl (by kernel_rfl)) ?_
   refine L0 rfl rfl (Y0_mul64 (a := vm1.2.2.2) (b := vn2.2.2.1) rfl (by kernel_rfl) (by kernel_rfl)) ?_
   refine L0 rfl rfl (Y0_add64 (a := w64 (vm1.2.2.1 * vn2.1)) (b := w64 (vm1.2.2.2 * vn2.2.2.1)) rfl (by kernel_rfl) (by kernel_rfl)) ?_
   refine L0 rfl rfl (E_field (.pt 16 2) Try.underlying99 rfl sz3 rfl (by kernel_rfl) (by intro hh; cases hh)) ?_
   refine L0 rfl rfl (Y0_load1 (c := Ti vm1.2.2.1) (cs := [Ti vm1.2.2.2]) sc3 rfl (by kernel_rfl)) ?_
   refine L0 rfl rfl (E_field (.pt 24 1) Try.underlying99 rfl sz3 rfl (by kernel_rfl) (by intro hh; cases hh)) ?_
   refine L0 rfl rfl (Y0_load1 (c := Ti vn2.2.1) (cs := [Ti vn2.2.2.1, Ti vn2.2.2.2]) sc3 rfl (by kernel_rfl)) ?_
   refine L0 rfl rfl (Y0_mul64 (a := vm1.2.2.1) (b := vn2.2.1) rfl (by kernel_rfl) (by kernel_rfl)) ?_
   refine L0 rfl rfl (E_field (.pt 16 3) Try.underlying99 rfl sz3 rfl (by kernel_rfl) (by intro hh; cases hh)) ?_
   refine L0 rfl rfl (Y0_load1 (c := Ti vm1.2.2.2) (cs := []) sc3 rfl (by kernel_rfl)) ?_
   refine L0 rfl rfl (E_field (.pt 24 3) Try.underlying99 rfl sz3 rfl (by kernel_rfl) (by intro hh; cases hh)) ?_
   refine L0 rfl rfl (Y0_load1 (c := Ti vn2.2.2.2) (cs := []) sc3 rfl (by kernel_rfl)) ?_
   refine L0 rfl rfl (Y0_mul64 (a := vm1.2.2.2) (b := vn2.2.2.2) rfl (by kernel_rfl) (by kernel_rfl)) ?_
   refine L0 rfl rfl (Y0_add64 (a := w64 (vm1.2.2.1 * vn2.2.1)) (b := w64 (vm1.2.2.2 * vn2.2.2.2)) rfl (by kernel_rfl) (by kernel_rfl)) ?_
   refine L0 rfl rfl (Y0_build (cs := [Ti (w64 ((w64 (vm1.1 * vn2.1)) + (w64 (vm1.2.1 * vn2.2.2.1)))), Ti (w64 ((w64 (vm1.1 * vn2.2.1)) + (w64 (vm1.2.1 * vn2.2.2.2)))), Ti (w64 ((w64 (vm1.2.2.1 * vn2.1)) + (w64 (vm1.2.2.2 * vn2.2.2.1)))), Ti (w64 ((w64 (vm1.2.2.1 * vn2.2.1)) + (w64 (vm1.2.2.2 * vn2.2.2.2))))]) pl99 bt99 rfl rfl (by kernel_rfl)) ?_
   refine XL_cons rfl (E_store (id := 32) (off := 0) (cs := [Ti 0, Ti 0, Ti 0, Ti 0]) (vc := [Ti (w64 ((w64 (vm1.1 * vn2.1)) + (w64 (vm1.2.1 * vn2.2.2.1)))), Ti (w64 ((w64 (vm1.1 * vn2.2.1)) + (w64 (vm1.2.1 * vn2.2.2.2)))), Ti (w64 ((w64 (vm1.2.2.1 * vn2.1)) + (w64 (vm1.2.2.2 * vn2.2.2.1)))), Ti (w64 ((w64 (vm1.2.2.1 * vn2.2.1)) + (w64 (vm1.2.2.2 * vn2.2.2.2))))]) [Ti (w64 ((w64 (vm1.1 * vn2.1)) + (w64 (vm1.2.1 * vn2.2.2.1)))), Ti (w64 ((w64 (vm1.1 * vn2.2.1)) + (w64 (vm1.2.1 * vn2.2.2.2)))), Ti (w64 ((w64 (vm1.2.2.1 * vn2.1)) + (w64 (vm1.2.2.2 * vn2.2.2.1)))), Ti (w64 ((w64 (vm1.2.2.1 * vn2.2.1)) + (w64 (vm1.2.2.2 * vn2.2.2.2))))] rfl rfl (by kernel_rfl) (by kernel_rfl) (by kernel_rfl) sz99 (Nat.le_of_ble_eq_true rfl) (by kernel_rfl)) ?_
   refine XL_nil ?_
   subst hf3 hf4 hf5 hf6
   kernel_rfl
  refine V_ret ?_
  obtain rfl := some_inj h
  show Post _ _ _ _ _
  exact ⟨.inr rfl, rfl, rfl, rfl⟩
theorem cf_spec_reReduce : ∀ args w, (callFunc 138 args).run Try.prog w = .ok (.enter 138 args) w := run_callFunc Try.func138 (by kernel_rfl) (by kernel_rfl)
set_option maxRecDepth 100000 in
set_option maxHeartbeats 400000 in
theorem s_spec_reReduce {f1 : (Int × Int × Int)} {r : (((Int × Int × Int)) × ((Int × Int × Int × Int)))} (h : r_spec_reReduce f1 = some r) : CallS Try.prog 138 [.ag [Ti f1.1, Ti f1.2.1, Ti f1.2.2]] (.tc (.ag [Ti r.1.1, Ti r.1.2.1, Ti r.1.2.2]) (.tc (.ag [Ti r.2.1, Ti r.2.2.1, Ti r.2.2.2.1, Ti r.2.2.2.2]) .tn)) [] := by
  refine CallS_of_text (rs := [.w 2 3, .w 3 4]) (vs := [.cell 2 43, .cell 3 99]) Try.func138 rfl rfl (.cons ⟨rfl, wd43⟩ (.cons ⟨rfl, wd99⟩ FitsL.nil)) (by decide) 20 rfl ?_
  unfold r_spec_reReduce at h
  show V _ _ ⟨.ag [Ti f1.1, Ti f1.2.1, Ti f1.2.2] :: bt 19 [], []⟩ _
  refine V_sreg (mb 20 14) [24, 16, 8] (s1 := ⟨.bot :: .pt 8 0 :: .pt 16 0 :: .pt 24 0 :: bt 16 [], [(24, .box [Ti 0, Ti 0, Ti 0, Ti 0]), (16, .box [Ti 0, Ti 0, Ti 0]), (8, .box [Ti f1.1, Ti f1.2.1, Ti f1.2.2])]⟩) ?_ ?_
  ·refine L1 rfl rfl (Y1_box (cs := [Ti f1.1, Ti f1.2.1, Ti f1.2.2]) rfl (by kernel_rfl)) ?_
   refine L1 rfl rfl (Y1_alloc (z := zv43) rfl zf43 rfl) ?_
   refine L1 rfl rfl (Y1_alloc (z := zv99) rfl zf99 rfl) ?_
   refine XL_nil ?_
   kernel_rfl
  refine V_sreg (mb 20 30) [32, 24, 16, 8] (s1 := ⟨.bot :: .pt 8 0 :: .pt 16 0 :: .pt 24 0 :: .pt 32 0 :: bt 15 [], [(32, .box [Ti 1, Ti 0, Ti 0, Ti 1]), (24, .box [Ti 0, Ti 0, Ti 0, Ti 0]), (16, .box [Ti 0, Ti 0, Ti 0]), (8, .box [Ti f1.1, Ti f1.2.1, Ti f1.2.2])]⟩) ?_ ?_
  ·refine L0 rfl rfl (Y0_build (cs := [Ti 1, Ti 0, Ti 0, Ti 1]) pl99 bt99 rfl rfl (by kernel_rfl)) ?_
   refine L1 rfl rfl (Y1_alloc (z := zv99) rfl zf99 rfl) ?_
   refine XL_cons rfl (E_store (id := 32) (off := 0) (cs := [Ti 0, Ti 0, Ti 0, Ti 0]) (vc := [Ti 1, Ti 0, Ti 0, Ti 1]) [Ti 1, Ti 0, Ti 0, Ti 1] rfl rfl (by kernel_rfl) (by kernel_rfl) (by kernel_rfl) sz99 (Nat.le_of_ble_eq_true rfl) (by kernel_rfl)) ?_
   refine XL_nil ?_
   kernel_rfl
  refine V_seq ?_
  obtain ⟨o10, hLo10, h⟩ := of_bind h
  refine V_toK (mb 20 30) [32, 24, 16, 8] (s1 := ⟨.bot :: .pt 8 0 :: .pt 16 0 :: .pt 24 0 :: .pt 32 0 :: bt 15 [], [(32, .box [Ti o10.1, Ti o10.2.1, Ti o10.2.2.1, Ti o10.2.2.2.1]), (24, .box [Ti 0, Ti 0, Ti 0, Ti 0]), (16, .box [Ti 0, Ti 0, Ti 0]), (8, .box [Ti o10.2.2.2.2.1, Ti o10.2.2.2.2.2.1, Ti o10.2.2.2.2.2.2])]⟩) ?_ ?_
  ·clear h
   refine V_block (V_loop (fun n s => ∃ (f2 : Int) (f3 : Int) (f4 : Int) (f5 : Int) (f6 : Int) (f7 : Int) (f8 : Int), s.keep (mb 20 30) [32, 24, 16, 8] = (⟨.bot :: .pt 8 0 :: .pt 16 0 :: .pt 24 0 :: .pt 32 0 :: bt 15 [], [(32, .box [Ti f2, Ti f3, Ti f4, Ti f5]), (24, .box [Ti 0, Ti 0, Ti 0, Ti 0]), (16, .box [Ti 0, Ti 0, Ti 0]), (8, .box [Ti f6, Ti f7, Ti f8])]⟩ : St) ∧ r_spec_reReduce_L9 n f2 f3 f4 f5 f6 f7 f8 = some o10) FU ⟨_, _, _, _, _, _, _,  by rfl, hLo10⟩ ?_)
   clear hLo10
   rintro n s ⟨f2, f3, f4, f5, f6, f7, f8, hs, h⟩
   refine V_keep _ _ hs ?_
   clear hs
   cases n with
   | zero => cases h
   | succ n =>
    rw [r_spec_reReduce_L9] at h
    refine V_seq ?_
    obtain ⟨y11, hy11, h⟩ := of_bind h
    refine V_sreg (mb 20 542) [32, 24, 16, 8] (s1 := ⟨.bot :: .pt 8 0 :: .pt 16 0 :: .pt 24 0 :: .pt 32 0 :: bt 4 (Bo (!y11) :: bt 10 []), [(32, .box [Ti f2, Ti f3, Ti f4, Ti f5]), (24, .box [Ti 0, Ti 0, Ti 0, Ti 0]), (16, .box [Ti 0, Ti 0, Ti 0]), (8, .box [Ti f6, Ti f7, Ti f8])]⟩) ?_ ?_
    ·refine L0 rfl rfl (E_loadn (cs := [Ti f6, Ti f7, Ti f8]) [Ti f6, Ti f7, Ti f8] wd43 rfl (by kernel_rfl) (Nat.le_of_ble_eq_true rfl) (by kernel_rfl)) ?_
     refine L1 rfl rfl (Y1_call (s_spec_reIs hy11) cf_spec_reIs rfl (by kernel_rfl)) ?_
     refine L0 rfl rfl (Y0_not (b := y11) rfl (by kernel_rfl)) ?_
     refine XL_nil ?_
     kernel_rfl
    refine V_cond rfl (fun hc12 => ?_) (fun hc12 => ?_)
    ·have h := of_true h hc12
     refine V_skip ?_
     show V _ _ _ _
     refine V_block ?_
     obtain ⟨y13, hy13, h⟩ := of_bind h
     refine V_sreg (mb 20 62) [40, 32, 24, 16, 8] (s1 := ⟨.bot :: .pt 8 0 :: .pt 16 0 :: .pt 24 0 :: .pt 32 0 :: .pt 40 0 :: bt 14 [], [(40, .box [Ti y13.1, Ti y13.2.1, Ti y13.2.2.1, Ti y13.2.2.2]), (32, .box [Ti f2, Ti f3, Ti f4, Ti f5]), (24, .box [Ti 0, Ti 0, Ti 0, Ti 0]), (16, .box [Ti 0, Ti 0, Ti 0]), (8, .box [Ti f6, Ti f7, Ti f8])]⟩) ?_ ?_
     ·refine L0 rfl rfl (E_loadn (cs := [Ti f6, Ti f7, Ti f8]) [Ti f6, Ti f7, Ti f8] wd43 rfl (by kernel_rfl) (Nat.le_of_ble_eq_true rfl) (by kernel_rfl)) ?_
      refine L1 rfl rfl (Y1_call (s_spec_reMove hy13) cf_spec_reMove rfl (by kernel_rfl)) ?_
      refine L1 rfl rfl (Y1_alloc (z := zv99) rfl zf99 rfl) ?_
      refine XL_cons rfl (E_store (id := 40) (off := 0) (cs := [Ti 0, Ti 0, Ti 0, Ti 0]) (vc := [Ti y13.1, Ti y13.2.1, Ti y13.2.2.1, Ti y13.2.2.2]) [Ti y13.1, Ti y13.2.1, Ti y13.2.2.1, Ti y13.2.2.2] rfl rfl (by kernel_rfl) (by kernel_rfl) (by kernel_rfl) sz99 (Nat.le_of_ble_eq_true rfl) (by kernel_rfl)) ?_
      refine XL_nil ?_
      kernel_rfl
     obtain ⟨y14, hy14, h⟩ := of_bind h
     obtain ⟨y15, hy15, h⟩ := of_bind h
     refine V_dreg [0, 0, 3, 0, 0, 31, 63, 127] 6 [[.z, .b, .z, .b, .b, .z], [.b, .z, .z, .b, .b, .z], [.a, .a, .z, .b, .b, .z], [.b, .b, .b, .z, .b, .z], [.b, .b, .b, .b, .z, .z], [.a, .a, .a, .a, .a, .z]] (mb 20 30) [32, 24, 16, 8] (s1 := ⟨.bot :: .pt 8 0 :: .pt 16 0 :: .pt 24 0 :: .pt 32 0 :: bt 15 [], [(32, .box [Ti y15.1, Ti y15.2.1, Ti y15.2.2.1, Ti y15.2.2.2]), (24, .box [Ti 0, Ti 0, Ti 0, Ti 0]), (16, .box [Ti 0, Ti 0, Ti 0]), (8, .box [Ti y14.1, Ti y14.2.1, Ti y14.2.2])]⟩) (by kernel_rfl) (by kernel_rfl) ?_ ?_
     ·refine DE_0 0 (.ag [Ti f6, Ti f7, Ti f8]) (by kernel_rfl) rfl rfl rfl (gsat_none rfl) (by kernel_rfl) (E_loadn (cs := [Ti f6, Ti f7, Ti f8]) [Ti f6, Ti f7, Ti f8] wd43 rfl (by kernel_rfl) (Nat.le_of_ble_eq_true rfl) (by kernel_rfl)) 12 rfl ?_
      refine DE_0 1 (.ag [Ti y13.1, Ti y13.2.1, Ti y13.2.2.1, Ti y13.2.2.2]) (by kernel_rfl) rfl rfl rfl (gsat_none rfl) (by kernel_rfl) (E_loadn (cs := [Ti y13.1, Ti y13.2.1, Ti y13.2.2.1, Ti y13.2.2.2]) [Ti y13.1, Ti y13.2.1, Ti y13.2.2.1, Ti y13.2.2.2] wd99 rfl (by kernel_rfl) (Nat.le_of_ble_eq_true rfl) (by kernel_rfl)) 13 rfl ?_
      refine DE_1 2 (by kernel_rfl) rfl rfl rfl (gsat_none rfl) (Y1_call (s_spec_foAct hy14) cf_spec_foAct rfl (by kernel_rfl)) rfl rfl rfl 14 rfl ?_
      refine DE_0 3 (.ag [Ti f2, Ti f3, Ti f4, Ti f5]) (by kernel_rfl) rfl rfl rfl (gsat_none rfl) (by kernel_rfl) (E_loadn (cs := [Ti f2, Ti f3, Ti f4, Ti f5]) [Ti f2, Ti f3, Ti f4, Ti f5] wd99 rfl (by kernel_rfl) (Nat.le_of_ble_eq_true rfl) (by kernel_rfl)) 15 rfl ?_
      refine DE_0 4 (.ag [Ti y13.1, Ti y13.2.1, Ti y13.2.2.1, Ti y13.2.2.2]) (by kernel_rfl) rfl rfl rfl (gsat_none rfl) (by kernel_rfl) (E_loadn (cs := [Ti y13.1, Ti y13.2.1, Ti y13.2.2.1, Ti y13.2.2.2]) [Ti y13.1, Ti y13.2.1, Ti y13.2.2.1, Ti y13.2.2.2] wd99 rfl (by kernel_rfl) (Nat.le_of_ble_eq_true rfl) (by kernel_rfl)) 16 rfl ?_
      refine DE_1 5 (by kernel_rfl) rfl rfl rfl (gsat_none rfl) (Y1_call (s_spec_foMul hy15) cf_spec_foMul rfl (by kernel_rfl)) rfl rfl rfl 17 rfl ?_
      refine DL_nil (by kernel_rfl) ?_
      refine XL_cons rfl (E_store (id := 8) (off := 0) (cs := [Ti f6, Ti f7, Ti f8]) (vc := [Ti y14.1, Ti y14.2.1, Ti y14.2.2]) [Ti y14.1, Ti y14.2.1, Ti y14.2.2] rfl rfl (by kernel_rfl) (by kernel_rfl) (by kernel_rfl) sz43 (Nat.le_of_ble_eq_true rfl) (by kernel_rfl)) ?_
      refine XL_cons rfl (E_store (id := 32) (off := 0) (cs := [Ti f2, Ti f3, Ti f4, Ti f5]) (vc := [Ti y15.1, Ti y15.2.1, Ti y15.2.2.1, Ti y15.2.2.2]) [Ti y15.1, Ti y15.2.1, Ti y15.2.2.1, Ti y15.2.2.2] rfl rfl (by kernel_rfl) (by kernel_rfl) (by kernel_rfl) sz99 (Nat.le_of_ble_eq_true rfl) (by kernel_rfl)) ?_
      refine XL_nil ?_
      kernel_rfl
     exact ⟨n, Nat.lt_succ_self n, _, _, _, _, _, _, _,  by rfl, h⟩
    ·have h := of_false h hc12
     refine V_exit ?_
     obtain rfl := some_inj h
     show St.keep _ _ _ = _
     rfl
  show V _ _ _ _
  refine V_sdreg [0, 0, 1, 7] 3 [[.z, .b, .z], [.b, .z, .r 16], [.a, .b, .z]] (mb 20 12) [24, 16] (s1 := ⟨.bot :: .bot :: .pt 16 0 :: .pt 24 0 :: bt 16 [], [(24, .box [Ti o10.1, Ti o10.2.1, Ti o10.2.2.1, Ti o10.2.2.2.1]), (16, .box [Ti o10.2.2.2.2.1, Ti o10.2.2.2.2.2.1, Ti o10.2.2.2.2.2.2])]⟩) (by kernel_rfl) (by kernel_rfl) ?_ ?_
  ·refine DE_0 0 (.ag [Ti o10.2.2.2.2.1, Ti o10.2.2.2.2.2.1, Ti o10.2.2.2.2.2.2]) (by kernel_rfl) rfl rfl rfl (gsat_none rfl) (by kernel_rfl) (E_loadn (cs := [Ti o10.2.2.2.2.1, Ti o10.2.2.2.2.2.1, Ti o10.2.2.2.2.2.2]) [Ti o10.2.2.2.2.1, Ti o10.2.2.2.2.2.1, Ti o10.2.2.2.2.2.2] wd43 rfl (by kernel_rfl) (Nat.le_of_ble_eq_true rfl) (by kernel_rfl)) 18 rfl ?_
   refine DE_0 1 (.ag [Ti o10.1, Ti o10.2.1, Ti o10.2.2.1, Ti o10.2.2.2.1]) (by kernel_rfl) rfl rfl rfl (gsat_none rfl) (by kernel_rfl) (E_loadn (cs := [Ti o10.1, Ti o10.2.1, Ti o10.2.2.1, Ti o10.2.2.2.1]) [Ti o10.1, Ti o10.2.1, Ti o10.2.2.1, Ti o10.2.2.2.1] wd99 rfl (by kernel_rfl) (Nat.le_of_ble_eq_true rfl) (by kernel_rfl)) 19 rfl ?_
   refine DE_2 (off := 0) (cs := [Ti 0, Ti 0, Ti 0]) (vc := [Ti o10.2.2.2.2.1, Ti o10.2.2.2.2.2.1, Ti o10.2.2.2.2.2.2]) 2 16 [Ti o10.2.2.2.2.1, Ti o10.2.2.2.2.2.1, Ti o10.2.2.2.2.2.2] (by kernel_rfl) rfl rfl rfl (gsat_none rfl) rfl rfl (by kernel_rfl) (by kernel_rfl) (by kernel_rfl) sz43 (Nat.le_of_ble_eq_true rfl) (by kernel_rfl) (by kernel_rfl) (by kernel_rfl) (by kernel_rfl) ?_
   refine DL_nil (by kernel_rfl) ?_
   refine XL_cons rfl (E_store (id := 24) (off := 0) (cs := [Ti 0, Ti 0, Ti 0, Ti 0]) (vc := [Ti o10.1, Ti o10.2.1, Ti o10.2.2.1, Ti o10.2.2.2.1]) [Ti o10.1, Ti o10.2.1, Ti o10.2.2.1, Ti o10.2.2.2.1] rfl rfl (by kernel_rfl) (by kernel_rfl) (by kernel_rfl) sz99 (Nat.le_of_ble_eq_true rfl) (by kernel_rfl)) ?_
   refine XL_nil ?_
   kernel_rfl
  refine V_ret ?_
  obtain rfl := some_inj h
  show Post _ _ _ _ _
  exact ⟨.inr rfl, rfl, rfl, rfl⟩
theorem cf_spec_reClass : ∀ args w, (callFunc 125 args).run Try.prog w = .ok (.enter 125 args) w := run_callFunc Try.func125 (by kernel_rfl) (by kernel_rfl)
set_option maxRecDepth 100000 in
set_option maxHeartbeats 400000 in
theorem s_spec_reClass {f1 : (Int × Int × Int)} {r : (Int × Int × Int)} (h : r_spec_reClass f1 = some r) : CallS Try.prog 125 [.ag [Ti f1.1, Ti f1.2.1, Ti f1.2.2]] (.ag [Ti r.1, Ti r.2.1, Ti r.2.2]) [] := by
  refine CallS_of_text (rs := [.w 2 3]) (vs := [.cell 2 43]) Try.func125 rfl rfl (.cons ⟨rfl, wd43⟩ FitsL.nil) (by decide) 11 rfl ?_
  unfold r_spec_reClass at h
  show V _ _ ⟨.ag [Ti f1.1, Ti f1.2.1, Ti f1.2.2] :: bt 10 [], []⟩ _
  refine V_sreg (mb 11 6) [16, 8] (s1 := ⟨.bot :: .pt 8 0 :: .pt 16 0 :: bt 8 [], [(16, .box [Ti 0, Ti 0, Ti 0]), (8, .box [Ti f1.1, Ti f1.2.1, Ti f1.2.2])]⟩) ?_ ?_
  ·refine L1 rfl rfl (Y1_box (cs := [Ti f1.1, Ti f1.2.1, Ti f1.2.2]) rfl (by kernel_rfl)) ?_
   refine L1 rfl rfl (Y1_alloc (z := zv43) rfl zf43 rfl) ?_
   refine XL_nil ?_
   kernel_rfl
  obtain ⟨y2, hy2, h⟩ := of_bind h
  refine V_sreg (mb 11 12) [24, 16] (s1 := ⟨.bot :: .bot :: .pt 16 0 :: .pt 24 0 :: bt 7 [], [(24, .box [Ti y2.1.1, Ti y2.1.2.1, Ti y2.1.2.2]), (16, .box [Ti 0, Ti 0, Ti 0])]⟩) ?_ ?_
  ·refine L0 rfl rfl (E_loadn (cs := [Ti f1.1, Ti f1.2.1, Ti f1.2.2]) [Ti f1.1, Ti f1.2.1, Ti f1.2.2] wd43 rfl (by kernel_rfl) (Nat.le_of_ble_eq_true rfl) (by kernel_rfl)) ?_
   refine L1 rfl rfl (Y1_call (s_spec_reReduce hy2) cf_spec_reReduce rfl (by kernel_rfl)) ?_
   refine L0 rfl rfl (E_move (.tc (.ag [Ti y2.1.1, Ti y2.1.2.1, Ti y2.1.2.2]) (.tc (.ag [Ti y2.2.1, Ti y2.2.2.1, Ti y2.2.2.2.1, Ti y2.2.2.2.2]) .tn)) rfl (by kernel_rfl)) ?_
   refine L0 rfl rfl (E_ext (n := 0) (.ag [Ti y2.1.1, Ti y2.1.2.1, Ti y2.1.2.2]) (.tc (.ag [Ti y2.2.1, Ti y2.2.2.1, Ti y2.2.2.2.1, Ti y2.2.2.2.2]) .tn) (.ag [Ti y2.1.1, Ti y2.1.2.1, Ti y2.1.2.2]) rfl (by kernel_rfl) (by kernel_rfl) (by intro hh; cases hh)) ?_
   refine L0 rfl rfl (E_ext (n := 1) (.ag [Ti y2.1.1, Ti y2.1.2.1, Ti y2.1.2.2]) (.tc (.ag [Ti y2.2.1, Ti y2.2.2.1, Ti y2.2.2.2.1, Ti y2.2.2.2.2]) .tn) (.ag [Ti y2.2.1, Ti y2.2.2.1, Ti y2.2.2.2.1, Ti y2.2.2.2.2]) rfl (by kernel_rfl) (by kernel_rfl) (by intro hh; cases hh)) ?_
   refine L1 rfl rfl (Y1_alloc (z := zv43) rfl zf43 rfl) ?_
   refine L1 rfl rfl (Y1_alloc (z := zv99) rfl zf99 rfl) ?_
   refine XL_cons rfl (E_store (id := 24) (off := 0) (cs := [Ti 0, Ti 0, Ti 0]) (vc := [Ti y2.1.1, Ti y2.1.2.1, Ti y2.1.2.2]) [Ti y2.1.1, Ti y2.1.2.1, Ti y2.1.2.2] rfl rfl (by kernel_rfl) (by kernel_rfl) (by kernel_rfl) sz43 (Nat.le_of_ble_eq_true rfl) (by kernel_rfl)) ?_
   refine XL_cons rfl (E_store (id := 32) (off := 0) (cs := [Ti 0, Ti 0, Ti 0, Ti 0]) (vc := [Ti y2.2.1, Ti y2.2.2.1, Ti y2.2.2.2.1, Ti y2.2.2.2.2]) [Ti y2.2.1, Ti y2.2.2.1, Ti y2.2.2.2.1, Ti y2.2.2.2.2] rfl rfl (by kernel_rfl) (by kernel_rfl) (by kernel_rfl) sz99 (Nat.le_of_ble_eq_true rfl) (by kernel_rfl)) ?_
   refine XL_nil ?_
   kernel_rfl
  refine V_sreg (mb 11 4) [16] (s1 := ⟨.bot :: .bot :: .pt 16 0 :: bt 8 [], [(16, .box [Ti y2.1.1, Ti y2.1.2.1, Ti y2.1.2.2])]⟩) ?_ ?_
  ·refine L0 rfl rfl (E_loadn (cs := [Ti y2.1.1, Ti y2.1.2.1, Ti y2.1.2.2]) [Ti y2.1.1, Ti y2.1.2.1, Ti y2.1.2.2] wd43 rfl (by kernel_rfl) (Nat.le_of_ble_eq_true rfl) (by kernel_rfl)) ?_
   refine XL_cons rfl (E_store (id := 16) (off := 0) (cs := [Ti 0, Ti 0, Ti 0]) (vc := [Ti y2.1.1, Ti y2.1.2.1, Ti y2.1.2.2]) [Ti y2.1.1, Ti y2.1.2.1, Ti y2.1.2.2] rfl rfl (by kernel_rfl) (by kernel_rfl) (by kernel_rfl) sz43 (Nat.le_of_ble_eq_true rfl) (by kernel_rfl)) ?_
   refine XL_nil ?_
   kernel_rfl
  refine V_ret ?_
  obtain rfl := some_inj h
  show Post _ _ _ _ _
  exact ⟨.inr rfl, rfl, rfl, rfl⟩
theorem cf_spec_thSeries : ∀ args w, (callFunc 100 args).run Try.prog w = .ok (.enter 100 args) w := run_callFunc Try.func100 (by kernel_rfl) (by kernel_rfl)
set_option maxRecDepth 100000 in
set_option maxHeartbeats 400000 in
theorem s_spec_thSeries {f1 : (Int × Int × Int)} {vn2 : Int} {r : List Int} (h : r_spec_thSeries f1 vn2 = some r) : CallS Try.prog 100 [.ag [Ti f1.1, Ti f1.2.1, Ti f1.2.2], I vn2] (.ow 0) [(0, .arr 3 1 (r.map c3))] := by
  refine CallS_of_text (rs := [.t 4]) (vs := [.tmp 4]) Try.func100 rfl rfl (.cons rfl FitsL.nil) (by decide) 83 rfl ?_
  unfold r_spec_thSeries at h
  show V _ _ ⟨.ag [Ti f1.1, Ti f1.2.1, Ti f1.2.2] :: I vn2 :: bt 81 [], []⟩ _
  refine V_sreg (mb 83 6) [16] (s1 := ⟨.bot :: I vn2 :: .pt 16 0 :: bt 80 [], [(16, .box [Ti f1.1, Ti f1.2.1, Ti f1.2.2])]⟩) ?_ ?_
  ·refine L1 rfl rfl (Y1_box (cs := [Ti f1.1, Ti f1.2.1, Ti f1.2.2]) rfl (by kernel_rfl)) ?_
   refine L1 rfl rfl (Y1_nil (e := 3) 1 (by decide) (.inl rfl)) ?_
   refine XL_nil ?_
   kernel_rfl
  obtain ⟨u3, hu3, h⟩ := of_bind h
  refine V_sreg (mb 83 38) [112, 16] (s1 := ⟨.bot :: I vn2 :: .pt 16 0 :: .bot :: .bot :: .ow 112 :: bt 77 [], [(112, .arr 3 1 ((List.replicate (Int.toNat (w64 (vn2 + 1))) ((0 : Int))).map c3)), (16, .box [Ti f1.1, Ti f1.2.1, Ti f1.2.2])]⟩) ?_ ?_
  ·refine L0 rfl rfl (E_move (I vn2) rfl (by kernel_rfl)) ?_
   refine L0 rfl rfl (Y0_add64 (a := vn2) (b := 1) rfl (by kernel_rfl) (by kernel_rfl)) ?_
   refine L1 rfl rfl (Y1_make (c := c3) (zx := (0 : Int)) (z := zv3) (l := w64 (vn2 + 1)) (k := w64 (vn2 + 1)) Try.underlying28 izb3 rfl rfl (by decide) rfl rfl (by kernel_rfl) (by kernel_rfl) (mk_some hu3) (by decide)) ?_
   refine L0 rfl rfl (E_assign (.ow 112) rfl (by kernel_rfl)) ?_
   refine XL_nil ?_
   kernel_rfl
  obtain ⟨y4, hy4, h⟩ := of_bind h
  refine V_sreg (mb 83 38) [112, 16] (s1 := ⟨.bot :: I vn2 :: .pt 16 0 :: .bot :: .bot :: .ow 112 :: bt 77 [], [(112, .arr 3 1 ((List.replicate (Int.toNat (w64 (vn2 + 1))) ((0 : Int))).map c3)), (16, .box [Ti y4.1, Ti y4.2.1, Ti y4.2.2])]⟩) ?_ ?_
  ·refine L0 rfl rfl (E_loadn (cs := [Ti f1.1, Ti f1.2.1, Ti f1.2.2]) [Ti f1.1, Ti f1.2.1, Ti f1.2.2] wd43 rfl (by kernel_rfl) (Nat.le_of_ble_eq_true rfl) (by kernel_rfl)) ?_
   refine L1 rfl rfl (Y1_call (s_spec_reClass hy4) cf_spec_reClass rfl (by kernel_rfl)) ?_
   refine XL_cons rfl (E_store (id := 16) (off := 0) (cs := [Ti f1.1, Ti f1.2.1, Ti f1.2.2]) (vc := [Ti y4.1, Ti y4.2.1, Ti y4.2.2]) [Ti y4.1, Ti y4.2.1, Ti y4.2.2] rfl rfl (by kernel_rfl) (by kernel_rfl) (by kernel_rfl) sz43 (Nat.le_of_ble_eq_true rfl) (by kernel_rfl)) ?_
   refine XL_nil ?_
   kernel_rfl
  refine V_seq ?_
  refine V_sreg (mb 83 102) [112, 16] (s1 := ⟨.bot :: I vn2 :: .pt 16 0 :: .bot :: .bot :: .ow 112 :: I 0 :: bt 76 [], [(112, .arr 3 1 ((List.replicate (Int.toNat (w64 (vn2 + 1))) ((0 : Int))).map c3)), (16, .box [Ti y4.1, Ti y4.2.1, Ti y4.2.2])]⟩) ?_ ?_
  ·refine L0 rfl rfl (E_assign (I 0) rfl (by kernel_rfl)) ?_
   refine XL_nil ?_
   kernel_rfl
  obtain ⟨o8, hLo8, h⟩ := of_bind h
  refine V_toK (mb 83 32) [112] (s1 := ⟨bt 5 (.ow 112 :: bt 77 []), [(112, .arr 3 1 (o8.map c3))]⟩) ?_ ?_
  ·clear h
   refine V_block (V_loop (fun n s => ∃ (x5 : Int) (l6 : List Int), s.keep (mb 83 102) [112, 16] = (⟨.bot :: I vn2 :: .pt 16 0 :: .bot :: .bot :: .ow 112 :: I x5 :: bt 76 [], [(112, .arr 3 1 (l6.map c3)), (16, .box [Ti y4.1, Ti y4.2.1, Ti y4.2.2])]⟩ : St) ∧ r_spec_thSeries_L7 vn2 y4 n x5 l6 = some o8) FU ⟨_, _,  by rfl, hLo8⟩ ?_)
   clear hLo8
   rintro n s ⟨x5, l6, hs, h⟩
   refine V_keep _ _ hs ?_
   clear hs
   cases n with
   | zero => cases h
   | succ n =>
    rw [r_spec_thSeries_L7] at h
    refine V_seq ?_
    refine V_sreg (mb 83 33554534) [112, 16] (s1 := ⟨.bot :: I vn2 :: .pt 16 0 :: .bot :: .bot :: .ow 112 :: I x5 :: bt 18 (Bo (leI (w64 ((w64 (y4.1 * x5)) * x5)) (w64 (2 * vn2))) :: bt 57 []), [(112, .arr 3 1 (l6.map c3)), (16, .box [Ti y4.1, Ti y4.2.1, Ti y4.2.2])]⟩) ?_ ?_
    ·refine L0 rfl rfl (E_field (.pt 16 0) Try.underlying43 rfl sz3 rfl (by kernel_rfl) (by intro hh; cases hh)) ?_
     refine L0 rfl rfl (Y0_load1 (c := Ti y4.1) (cs := [Ti y4.2.1, Ti y4.2.2]) sc3 rfl (by kernel_rfl)) ?_
     refine L0 rfl rfl (E_move (I x5) rfl (by kernel_rfl)) ?_
     refine L0 rfl rfl (Y0_mul64 (a := y4.1) (b := x5) rfl (by kernel_rfl) (by kernel_rfl)) ?_
     refine L0 rfl rfl (E_move (I x5) rfl (by kernel_rfl)) ?_
     refine L0 rfl rfl (Y0_mul64 (a := w64 (y4.1 * x5)) (b := x5) rfl (by kernel_rfl) (by kernel_rfl)) ?_
     refine L0 rfl rfl (E_move (I vn2) rfl (by kernel_rfl)) ?_
     refine L0 rfl rfl (Y0_mul64 (a := 2) (b := vn2) rfl (by kernel_rfl) (by kernel_rfl)) ?_
     refine L0 rfl rfl (Y0_lew (k := .i64) (a := w64 ((w64 (y4.1 * x5)) * x5)) (b := w64 (2 * vn2)) rfl (by kernel_rfl) (by kernel_rfl)) ?_
     refine XL_nil ?_
     kernel_rfl
    refine V_cond rfl (fun hc9 => ?_) (fun hc9 => ?_)
    ·have h := of_true h hc9
     refine V_skip ?_
     show V _ _ _ _
     refine V_seq ?_
     refine V_block ?_
     refine V_sreg (mb 83 230) [112, 16] (s1 := ⟨.bot :: I vn2 :: .pt 16 0 :: .bot :: .bot :: .ow 112 :: I x5 :: I 0 :: bt 75 [], [(112, .arr 3 1 (l6.map c3)), (16, .box [Ti y4.1, Ti y4.2.1, Ti y4.2.2])]⟩) ?_ ?_
     ·refine L0 rfl rfl (E_assign (I 0) rfl (by kernel_rfl)) ?_
      refine XL_nil ?_
      kernel_rfl
     obtain ⟨o13, hLo13, h⟩ := of_bind h
     refine V_toK (mb 83 102) [112, 16] (s1 := ⟨.bot :: I vn2 :: .pt 16 0 :: .bot :: .bot :: .ow 112 :: I x5 :: bt 76 [], [(112, .arr 3 1 (o13.map c3)), (16, .box [Ti y4.1, Ti y4.2.1, Ti y4.2.2])]⟩) ?_ ?_
     ·clear h
      refine V_block (V_loop (fun n s => ∃ (y10 : Int) (l11 : List Int), s.keep (mb 83 230) [112, 16] = (⟨.bot :: I vn2 :: .pt 16 0 :: .bot :: .bot :: .ow 112 :: I x5 :: I y10 :: bt 75 [], [(112, .arr 3 1 (l11.map c3)), (16, .box [Ti y4.1, Ti y4.2.1, Ti y4.2.2])]⟩ : St) ∧ r_spec_thSeries_L12 vn2 x5 y4 n y10 l11 = some o13) FU ⟨_, _,  by rfl, hLo13⟩ ?_)
      clear hLo13
      rintro n s ⟨y10, l11, hs, h⟩
      refine V_keep _ _ hs ?_
      clear hs
      cases n with
      | zero => cases h
      | succ n =>
       rw [r_spec_thSeries_L12] at h
       refine V_seq ?_
       refine V_sreg (mb 83 68719476966) [112, 16] (s1 := ⟨.bot :: I vn2 :: .pt 16 0 :: .bot :: .bot :: .ow 112 :: I x5 :: I y10 :: bt 28 (Bo (leI (w64 ((w64 (y4.2.2 * y10)) * y10)) (w64 (2 * vn2))) :: bt 46 []), [(112, .arr 3 1 (l11.map c3)), (16, .box [Ti y4.1, Ti y4.2.1, Ti y4.2.2])]⟩) ?_ ?_
       ·refine L0 rfl rfl (E_field (.pt 16 2) Try.underlying43 rfl sz3 rfl (by kernel_rfl) (by intro hh; cases hh)) ?_
        refine L0 rfl rfl (Y0_load1 (c := Ti y4.2.2) (cs := []) sc3 rfl (by kernel_rfl)) ?_
        refine L0 rfl rfl (E_move (I y10) rfl (by kernel_rfl)) ?_
        refine L0 rfl rfl (Y0_mul64 (a := y4.2.2) (b := y10) rfl (by kernel_rfl) (by kernel_rfl)) ?_
        refine L0 rfl rfl (E_move (I y10) rfl (by kernel_rfl)) ?_
        refine L0 rfl rfl (Y0_mul64 (a := w64 (y4.2.2 * y10)) (b := y10) rfl (by kernel_rfl) (by kernel_rfl)) ?_
        refine L0 rfl rfl (E_move (I vn2) rfl (by kernel_rfl)) ?_
        refine L0 rfl rfl (Y0_mul64 (a := 2) (b := vn2) rfl (by kernel_rfl) (by kernel_rfl)) ?_
        refine L0 rfl rfl (Y0_lew (k := .i64) (a := w64 ((w64 (y4.2.2 * y10)) * y10)) (b := w64 (2 * vn2)) rfl (by kernel_rfl) (by kernel_rfl)) ?_
        refine XL_nil ?_
        kernel_rfl
       refine V_cond rfl (fun hc14 => ?_) (fun hc14 => ?_)
       ·have h := of_true h hc14
        refine V_skip ?_
        show V _ _ _ _
        refine V_seq ?_
        refine V_block ?_
        refine V_sreg (mb 83 486) [112, 16] (s1 := ⟨.bot :: I vn2 :: .pt 16 0 :: .bot :: .bot :: .ow 112 :: I x5 :: I y10 :: I 0 :: bt 74 [], [(112, .arr 3 1 (l11.map c3)), (16, .box [Ti y4.1, Ti y4.2.1, Ti y4.2.2])]⟩) ?_ ?_
        ·refine L0 rfl rfl (E_assign (I 0) rfl (by kernel_rfl)) ?_
         refine XL_nil ?_
         kernel_rfl
        obtain ⟨o18, hLo18, h⟩ := of_bind h
        refine V_toK (mb 83 230) [112, 16] (s1 := ⟨.bot :: I vn2 :: .pt 16 0 :: .bot :: .bot :: .ow 112 :: I x5 :: I y10 :: bt 75 [], [(112, .arr 3 1 (o18.map c3)), (16, .box [Ti y4.1, Ti y4.2.1, Ti y4.2.2])]⟩) ?_ ?_
        ·clear h
         refine V_block (V_loop (fun n s => ∃ (vs15 : Int) (l16 : List Int), s.keep (mb 83 486) [112, 16] = (⟨.bot :: I vn2 :: .pt 16 0 :: .bot :: .bot :: .ow 112 :: I x5 :: I y10 :: I vs15 :: bt 74 [], [(112, .arr 3 1 (l16.map c3)), (16, .box [Ti y4.1, Ti y4.2.1, Ti y4.2.2])]⟩ : St) ∧ r_spec_thSeries_L17 vn2 x5 y10 y4 n vs15 l16 = some o18) FU ⟨_, _,  by rfl, hLo18⟩ ?_)
         clear hLo18
         rintro n s ⟨vs15, l16, hs, h⟩
         refine V_keep _ _ hs ?_
         clear hs
         cases n with
         | zero => cases h
         | succ n =>
          rw [r_spec_thSeries_L17] at h
          refine V_seq ?_
          refine V_sreg (mb 83 1099511628262) [112, 16] (s1 := ⟨.bot :: I vn2 :: .pt 16 0 :: .bot :: .bot :: .ow 112 :: I x5 :: I y10 :: I vs15 :: bt 31 (Bo (ltI vs15 4) :: bt 42 []), [(112, .arr 3 1 (l16.map c3)), (16, .box [Ti y4.1, Ti y4.2.1, Ti y4.2.2])]⟩) ?_ ?_
          ·refine L0 rfl rfl (E_move (I vs15) rfl (by kernel_rfl)) ?_
           refine L0 rfl rfl (Y0_ltw (k := .i64) (a := vs15) (b := 4) rfl (by kernel_rfl) (by kernel_rfl)) ?_
           refine XL_nil ?_
           kernel_rfl
          refine V_cond rfl (fun hc19 => ?_) (fun hc19 => ?_)
          ·have h := of_true h hc19
           refine V_skip ?_
           show V _ _ _ _
           refine V_seq ?_
           refine V_block ?_
           refine V_sreg (mb 83 2022) [112, 16] (s1 := ⟨.bot :: I vn2 :: .pt 16 0 :: .bot :: .bot :: .ow 112 :: I x5 :: I y10 :: I vs15 :: I x5 :: I y10 :: bt 72 [], [(112, .arr 3 1 (l16.map c3)), (16, .box [Ti y4.1, Ti y4.2.1, Ti y4.2.2])]⟩) ?_ ?_
           ·refine L0 rfl rfl (E_move (I x5) rfl (by kernel_rfl)) ?_
            refine L0 rfl rfl (E_move (I y10) rfl (by kernel_rfl)) ?_
            refine L0 rfl rfl (E_assign (I x5) rfl (by kernel_rfl)) ?_
            refine L0 rfl rfl (E_assign (I y10) rfl (by kernel_rfl)) ?_
            refine XL_nil ?_
            kernel_rfl
           obtain ⟨j20, hj20, h⟩ := of_bind h
           refine V_cutK (mb 83 2022) [112, 16] (s1 := ⟨.bot :: I vn2 :: .pt 16 0 :: .bot :: .bot :: .ow 112 :: I x5 :: I y10 :: I vs15 :: I j20 :: I y10 :: bt 72 [], [(112, .arr 3 1 (l16.map c3)), (16, .box [Ti y4.1, Ti y4.2.1, Ti y4.2.2])]⟩) ?_ ?_
           ·clear h
            have h := hj20
            clear hj20
            refine V_sreg (mb 83 140737488357350) [112, 16] (s1 := ⟨.bot :: I vn2 :: .pt 16 0 :: .bot :: .bot :: .ow 112 :: I x5 :: I y10 :: I vs15 :: I x5 :: I y10 :: bt 36 (Bo (eqI (Int.tmod vs15 2) 1) :: bt 35 []), [(112, .arr 3 1 (l16.map c3)), (16, .box [Ti y4.1, Ti y4.2.1, Ti y4.2.2])]⟩) ?_ ?_
            ·refine L0 rfl rfl (E_move (I vs15) rfl (by kernel_rfl)) ?_
             refine L0 rfl rfl (Y0_rem (k := .i64) (a := vs15) (b := 2) rfl (by kernel_rfl) (by kernel_rfl) (by decide)) ?_
             refine L0 rfl rfl (Y0_eqw (k := .i64) (a := Int.tmod vs15 2) (b := 1) rfl (by kernel_rfl) (by kernel_rfl)) ?_
             refine XL_nil ?_
             kernel_rfl
            refine V_cond rfl (fun hc21 => ?_) (fun hc21 => ?_)
            ·have h := of_true h hc21
             obtain ⟨u22, hu22, h⟩ := of_sI h
             refine V_reg (mb 83 2022) [112, 16] (s1 := ⟨.bot :: I vn2 :: .pt 16 0 :: .bot :: .bot :: .ow 112 :: I x5 :: I y10 :: I vs15 :: I u22 :: I y10 :: bt 72 [], [(112, .arr 3 1 (l16.map c3)), (16, .box [Ti y4.1, Ti y4.2.1, Ti y4.2.2])]⟩) ?_ ?_
             ·refine L0 rfl rfl (E_move (I x5) rfl (by kernel_rfl)) ?_
              refine L0 rfl rfl (Y0_neg64 (a := x5) rfl (by kernel_rfl)) ?_
              refine L0 rfl rfl (E_assign (I (w64 (0 - x5))) rfl (by kernel_rfl)) ?_
              refine XL_nil ?_
              subst hu22
              kernel_rfl
             obtain rfl := some_inj h
             show St.keep _ _ _ = _
             rfl
            ·have h := of_false h hc21
             refine V_skip ?_
             obtain rfl := some_inj h
             show St.keep _ _ _ = _
             rfl
           obtain ⟨j23, hj23, h⟩ := of_bind h
           refine V_cutK (mb 83 2022) [112, 16] (s1 := ⟨.bot :: I vn2 :: .pt 16 0 :: .bot :: .bot :: .ow 112 :: I x5 :: I y10 :: I vs15 :: I j20 :: I j23 :: bt 72 [], [(112, .arr 3 1 (l16.map c3)), (16, .box [Ti y4.1, Ti y4.2.1, Ti y4.2.2])]⟩) ?_ ?_
           ·clear h
            have h := hj23
            clear hj23
            refine V_sreg (mb 83 2251799813687270) [112, 16] (s1 := ⟨.bot :: I vn2 :: .pt 16 0 :: .bot :: .bot :: .ow 112 :: I x5 :: I y10 :: I vs15 :: I j20 :: I y10 :: bt 40 (Bo (ltI 1 vs15) :: bt 31 []), [(112, .arr 3 1 (l16.map c3)), (16, .box [Ti y4.1, Ti y4.2.1, Ti y4.2.2])]⟩) ?_ ?_
            ·refine L0 rfl rfl (E_move (I vs15) rfl (by kernel_rfl)) ?_
             refine L0 rfl rfl (Y0_gtw (k := .i64) (a := vs15) (b := 1) rfl (by kernel_rfl) (by kernel_rfl)) ?_
             refine XL_nil ?_
             kernel_rfl
            refine V_cond rfl (fun hc24 => ?_) (fun hc24 => ?_)
            ·have h := of_true h hc24
             obtain ⟨v25, hv25, h⟩ := of_sI h
             refine V_reg (mb 83 2022) [112, 16] (s1 := ⟨.bot :: I vn2 :: .pt 16 0 :: .bot :: .bot :: .ow 112 :: I x5 :: I y10 :: I vs15 :: I j20 :: I v25 :: bt 72 [], [(112, .arr 3 1 (l16.map c3)), (16, .box [Ti y4.1, Ti y4.2.1, Ti y4.2.2])]⟩) ?_ ?_
             ·refine L0 rfl rfl (E_move (I y10) rfl (by kernel_rfl)) ?_
              refine L0 rfl rfl (Y0_neg64 (a := y10) rfl (by kernel_rfl)) ?_
              refine L0 rfl rfl (E_assign (I (w64 (0 - y10))) rfl (by kernel_rfl)) ?_
              refine XL_nil ?_
              subst hv25
              kernel_rfl
             obtain rfl := some_inj h
             show St.keep _ _ _ = _
             rfl
            ·have h := of_false h hc24
             refine V_skip ?_
             obtain rfl := some_inj h
             show St.keep _ _ _ = _
             rfl
           refine V_seq ?_
           obtain ⟨t29, ht29, h⟩ := of_bind h
           have ht29 := some_inj ht29
           refine V_sreg (mb 83 295147905179352827878) [112, 16] (s1 := ⟨.bot :: I vn2 :: .pt 16 0 :: .bot :: .bot :: .ow 112 :: I x5 :: I y10 :: I vs15 :: I j20 :: I j23 :: bt 57 (Bo t29 :: bt 14 []), [(112, .arr 3 1 (l16.map c3)), (16, .box [Ti y4.1, Ti y4.2.1, Ti y4.2.2])]⟩) ?_ ?_
           ·refine L0 rfl rfl (E_move (I vs15) rfl (by kernel_rfl)) ?_
            refine L0 rfl rfl (Y0_rem (k := .i64) (a := vs15) (b := 2) rfl (by kernel_rfl) (by kernel_rfl) (by decide)) ?_
            refine L0 rfl rfl (Y0_eqw (k := .i64) (a := Int.tmod vs15 2) (b := 1) rfl (by kernel_rfl) (by kernel_rfl)) ?_
            refine L0 rfl rfl (E_move (Bo (eqI (Int.tmod vs15 2) 1)) rfl (by kernel_rfl)) ?_
            refine XL_split (eqI (Int.tmod vs15 2) 1) (fun hc26 => ?_) (fun hc26 => ?_)
            ·refine XL_takeC _ rfl rfl (by kernel_rfl) hc26 (X_of_Y0 rfl (E_move (I x5) rfl (by kernel_rfl))) ?_
             refine XL_takeC _ rfl rfl (by kernel_rfl) hc26 (X_of_Y0 rfl (Y0_eqw (k := .i64) (a := x5) (b := 0) rfl (by kernel_rfl) (by kernel_rfl))) ?_
             refine XL_cons rfl (X_of_Y0 rfl (Y0_pick1 (b := eqI (Int.tmod vs15 2) 1) (p := eqI x5 0) (q := false) rfl (by kernel_rfl) hc26 (by kernel_rfl))) ?_
             refine L0 rfl rfl (E_move (Bo (bif (eqI (Int.tmod vs15 2) 1) then (eqI x5 0) else false)) rfl (by kernel_rfl)) ?_
             refine XL_split (bif (eqI (Int.tmod vs15 2) 1) then (eqI x5 0) else false) (fun hc27 => ?_) (fun hc27 => ?_)
             ·refine XL_skipF _ rfl rfl (by kernel_rfl) hc27 rfl ?_
              refine XL_skipF _ rfl rfl (by kernel_rfl) hc27 rfl ?_
              refine XL_skipF _ rfl rfl (by kernel_rfl) hc27 rfl ?_
              refine XL_skip2 rfl rfl (by kernel_rfl) rfl ?_
              refine XL_skip2 rfl rfl (by kernel_rfl) rfl ?_
              refine XL_skipF _ rfl rfl (by kernel_rfl) hc27 rfl ?_
              refine XL_cons rfl (X_of_Y0 rfl (Y0_pick1 (b := bif (eqI (Int.tmod vs15 2) 1) then (eqI x5 0) else false) (p := true) (q := bif (ltI 1 vs15) then (eqI y10 0) else false) rfl (by kernel_rfl) hc27 (by kernel_rfl))) ?_
              refine XL_nil ?_
              subst ht29
              kernel_rfl
             ·refine XL_takeC _ rfl rfl (by kernel_rfl) hc27 (X_of_Y0 rfl (E_move (I vs15) rfl (by kernel_rfl))) ?_
              refine XL_takeC _ rfl rfl (by kernel_rfl) hc27 (X_of_Y0 rfl (Y0_gtw (k := .i64) (a := vs15) (b := 1) rfl (by kernel_rfl) (by kernel_rfl))) ?_
              refine XL_takeC _ rfl rfl (by kernel_rfl) hc27 (X_of_Y0 rfl (E_move (Bo (ltI 1 vs15)) rfl (by kernel_rfl))) ?_
              refine XL_split (ltI 1 vs15) (fun hc28 => ?_) (fun hc28 => ?_)
              ·refine XL_takeC _ rfl rfl (by kernel_rfl) hc28 (X_of_Y0 rfl (E_move (I y10) rfl (by kernel_rfl))) ?_
               refine XL_takeC _ rfl rfl (by kernel_rfl) hc28 (X_of_Y0 rfl (Y0_eqw (k := .i64) (a := y10) (b := 0) rfl (by kernel_rfl) (by kernel_rfl))) ?_
               refine XL_takeC _ rfl rfl (by kernel_rfl) hc27 (X_of_Y0 rfl (Y0_pick1 (b := ltI 1 vs15) (p := eqI y10 0) (q := false) rfl (by kernel_rfl) hc28 (by kernel_rfl))) ?_
               refine XL_cons rfl (X_of_Y0 rfl (Y0_pick0 (b := bif (eqI (Int.tmod vs15 2) 1) then (eqI x5 0) else false) (p := true) (q := bif (ltI 1 vs15) then (eqI y10 0) else false) rfl (by kernel_rfl) hc27 (by kernel_rfl))) ?_
               refine XL_nil ?_
               subst ht29
               kernel_rfl
              ·refine XL_skipT _ rfl rfl (by kernel_rfl) hc28 rfl ?_
               refine XL_skipT _ rfl rfl (by kernel_rfl) hc28 rfl ?_
               refine XL_takeC _ rfl rfl (by kernel_rfl) hc27 (X_of_Y0 rfl (Y0_pick0 (b := ltI 1 vs15) (p := eqI y10 0) (q := false) rfl (by kernel_rfl) hc28 (by kernel_rfl))) ?_
               refine XL_cons rfl (X_of_Y0 rfl (Y0_pick0 (b := bif (eqI (Int.tmod vs15 2) 1) then (eqI x5 0) else false) (p := true) (q := bif (ltI 1 vs15) then (eqI y10 0) else false) rfl (by kernel_rfl) hc27 (by kernel_rfl))) ?_
               refine XL_nil ?_
               subst ht29
               kernel_rfl
            ·refine XL_skipT _ rfl rfl (by kernel_rfl) hc26 rfl ?_
             refine XL_skipT _ rfl rfl (by kernel_rfl) hc26 rfl ?_
             refine XL_cons rfl (X_of_Y0 rfl (Y0_pick0 (b := eqI (Int.tmod vs15 2) 1) (p := eqI x5 0) (q := false) rfl (by kernel_rfl) hc26 (by kernel_rfl))) ?_
             refine L0 rfl rfl (E_move (Bo (bif (eqI (Int.tmod vs15 2) 1) then (eqI x5 0) else false)) rfl (by kernel_rfl)) ?_
             refine XL_split (bif (eqI (Int.tmod vs15 2) 1) then (eqI x5 0) else false) (fun hc27 => ?_) (fun hc27 => ?_)
             ·refine XL_skipF _ rfl rfl (by kernel_rfl) hc27 rfl ?_
              refine XL_skipF _ rfl rfl (by kernel_rfl) hc27 rfl ?_
              refine XL_skipF _ rfl rfl (by kernel_rfl) hc27 rfl ?_
              refine XL_skip2 rfl rfl (by kernel_rfl) rfl ?_
              refine XL_skip2 rfl rfl (by kernel_rfl) rfl ?_
              refine XL_skipF _ rfl rfl (by kernel_rfl) hc27 rfl ?_
              refine XL_cons rfl (X_of_Y0 rfl (Y0_pick1 (b := bif (eqI (Int.tmod vs15 2) 1) then (eqI x5 0) else false) (p := true) (q := bif (ltI 1 vs15) then (eqI y10 0) else false) rfl (by kernel_rfl) hc27 (by kernel_rfl))) ?_
              refine XL_nil ?_
              subst ht29
              kernel_rfl
             ·refine XL_takeC _ rfl rfl (by kernel_rfl) hc27 (X_of_Y0 rfl (E_move (I vs15) rfl (by kernel_rfl))) ?_
              refine XL_takeC _ rfl rfl (by kernel_rfl) hc27 (X_of_Y0 rfl (Y0_gtw (k := .i64) (a := vs15) (b := 1) rfl (by kernel_rfl) (by kernel_rfl))) ?_
              refine XL_takeC _ rfl rfl (by kernel_rfl) hc27 (X_of_Y0 rfl (E_move (Bo (ltI 1 vs15)) rfl (by kernel_rfl))) ?_
              refine XL_split (ltI 1 vs15) (fun hc28 => ?_) (fun hc28 => ?_)
              ·refine XL_takeC _ rfl rfl (by kernel_rfl) hc28 (X_of_Y0 rfl (E_move (I y10) rfl (by kernel_rfl))) ?_
               refine XL_takeC _ rfl rfl (by kernel_rfl) hc28 (X_of_Y0 rfl (Y0_eqw (k := .i64) (a := y10) (b := 0) rfl (by kernel_rfl) (by kernel_rfl))) ?_
               refine XL_takeC _ rfl rfl (by kernel_rfl) hc27 (X_of_Y0 rfl (Y0_pick1 (b := ltI 1 vs15) (p := eqI y10 0) (q := false) rfl (by kernel_rfl) hc28 (by kernel_rfl))) ?_
               refine XL_cons rfl (X_of_Y0 rfl (Y0_pick0 (b := bif (eqI (Int.tmod vs15 2) 1) then (eqI x5 0) else false) (p := true) (q := bif (ltI 1 vs15) then (eqI y10 0) else false) rfl (by kernel_rfl) hc27 (by kernel_rfl))) ?_
               refine XL_nil ?_
               subst ht29
               kernel_rfl
              ·refine XL_skipT _ rfl rfl (by kernel_rfl) hc28 rfl ?_
               refine XL_skipT _ rfl rfl (by kernel_rfl) hc28 rfl ?_
               refine XL_takeC _ rfl rfl (by kernel_rfl) hc27 (X_of_Y0 rfl (Y0_pick0 (b := ltI 1 vs15) (p := eqI y10 0) (q := false) rfl (by kernel_rfl) hc28 (by kernel_rfl))) ?_
               refine XL_cons rfl (X_of_Y0 rfl (Y0_pick0 (b := bif (eqI (Int.tmod vs15 2) 1) then (eqI x5 0) else false) (p := true) (q := bif (ltI 1 vs15) then (eqI y10 0) else false) rfl (by kernel_rfl) hc27 (by kernel_rfl))) ?_
               refine XL_nil ?_
               subst ht29
               kernel_rfl
           refine V_cond rfl (fun hc30 => ?_) (fun hc30 => ?_)
           ·have h := of_true h hc30
            refine V_exit ?_
            show V _ _ _ _
            obtain ⟨vs31, hvs31, h⟩ := of_sI h
            refine V_reg (mb 83 486) [112, 16] (s1 := ⟨.bot :: I vn2 :: .pt 16 0 :: .bot :: .bot :: .ow 112 :: I x5 :: I y10 :: I vs31 :: bt 74 [], [(112, .arr 3 1 (l16.map c3)), (16, .box [Ti y4.1, Ti y4.2.1, Ti y4.2.2])]⟩) ?_ ?_
            ·refine L0 rfl rfl (E_move (I vs15) rfl (by kernel_rfl)) ?_
             refine L0 rfl rfl (Y0_add64 (a := vs15) (b := 1) rfl (by kernel_rfl) (by kernel_rfl)) ?_
             refine L0 rfl rfl (E_assign (I (w64 (vs15 + 1))) rfl (by kernel_rfl)) ?_
             refine XL_nil ?_
             subst hvs31
             kernel_rfl
            exact ⟨n, Nat.lt_succ_self n, _, _,  by rfl, h⟩
           ·have h := of_false h hc30
            refine V_skip ?_
            show V _ _ _ _
            obtain ⟨y32, hy32, h⟩ := of_bind h
            refine V_sreg (mb 83 2534) [112, 16] (s1 := ⟨.bot :: I vn2 :: .pt 16 0 :: .bot :: .bot :: .ow 112 :: I x5 :: I y10 :: I vs15 :: .bot :: .bot :: I y32 :: bt 71 [], [(112, .arr 3 1 (l16.map c3)), (16, .box [Ti y4.1, Ti y4.2.1, Ti y4.2.2])]⟩) ?_ ?_
            ·refine L0 rfl rfl (E_loadn (cs := [Ti y4.1, Ti y4.2.1, Ti y4.2.2]) [Ti y4.1, Ti y4.2.1, Ti y4.2.2] wd43 rfl (by kernel_rfl) (Nat.le_of_ble_eq_true rfl) (by kernel_rfl)) ?_
             refine L0 rfl rfl (E_move (I j20) rfl (by kernel_rfl)) ?_
             refine L0 rfl rfl (E_move (I j23) rfl (by kernel_rfl)) ?_
             refine L1 rfl rfl (Y1_call (s_spec_foValue hy32) cf_spec_foValue rfl (by kernel_rfl)) ?_
             refine L0 rfl rfl (E_assign (I y32) rfl (by kernel_rfl)) ?_
             refine XL_nil ?_
             kernel_rfl
            refine V_sreg (mb 83 37778931862957161712102) [112, 16] (s1 := ⟨.bot :: I vn2 :: .pt 16 0 :: .bot :: .bot :: .ow 112 :: I x5 :: I y10 :: I vs15 :: .bot :: .bot :: I y32 :: bt 63 (Bo (leI y32 vn2) :: bt 7 []), [(112, .arr 3 1 (l16.map c3)), (16, .box [Ti y4.1, Ti y4.2.1, Ti y4.2.2])]⟩) ?_ ?_
            ·refine L0 rfl rfl (E_move (I y32) rfl (by kernel_rfl)) ?_
             refine L0 rfl rfl (E_move (I vn2) rfl (by kernel_rfl)) ?_
             refine L0 rfl rfl (Y0_lew (k := .i64) (a := y32) (b := vn2) rfl (by kernel_rfl) (by kernel_rfl)) ?_
             refine XL_nil ?_
             kernel_rfl
            refine V_cond rfl (fun hc33 => ?_) (fun hc33 => ?_)
            ·have h := of_true h hc33
             obtain ⟨e34, he34, h⟩ := of_bind h
             obtain ⟨e35, he35, h⟩ := of_bind h
             obtain ⟨e36, he36, h⟩ := of_bind h
             obtain ⟨e37, he37, h⟩ := of_bind h
             refine V_reg (mb 83 486) [112, 16] (s1 := ⟨.bot :: I vn2 :: .pt 16 0 :: .bot :: .bot :: .ow 112 :: I x5 :: I y10 :: I vs15 :: bt 74 [], [(112, .arr 3 1 ((l16.set (Int.toNat (y32)) (w64 (e35 + 1))).map c3)), (16, .box [Ti y4.1, Ti y4.2.1, Ti y4.2.2])]⟩) ?_ ?_
             ·refine L0 rfl rfl (E_move (.ow 112) rfl (by kernel_rfl)) ?_
              refine L0 rfl rfl (E_move (I y32) rfl (by kernel_rfl)) ?_
              refine L0 rfl rfl (Y0_idxoM (c := c3) (xs := l16) (v := e34) (id := 112) (T := 3) (sz := 1) (n := y32) Try.underlying28 sz3 rfl (by kernel_rfl) (by kernel_rfl) (by kernel_rfl) he34) ?_
              refine L0 rfl rfl (Y0_loado1 (c := c3) (xs := l16) (v := e35) (id := 112) (sz := 1) (T := 3) (off := 0) (n := y32) (d := Ti e35) (ds := []) sc3 rfl (by kernel_rfl) (by kernel_rfl) he35 (by kernel_rfl)) ?_
              refine L0 rfl rfl (Y0_add64 (a := e35) (b := 1) rfl (by kernel_rfl) (by kernel_rfl)) ?_
              refine L0 rfl rfl (Y0_idxoM (c := c3) (xs := l16) (v := e36) (id := 112) (T := 3) (sz := 1) (n := y32) Try.underlying28 sz3 rfl (by kernel_rfl) (by kernel_rfl) (by kernel_rfl) he36) ?_
              refine XL_cons rfl (X_storeoM (c := c3) (xs := l16) (v := e37) (u := w64 (e35 + 1)) (id := 112) (sz := 1) (off := 0) (T0 := 3) (n := y32) (vc := [Ti (w64 (e35 + 1))]) rfl rfl (by kernel_rfl) (by kernel_rfl) he37 (by kernel_rfl) sz3 (Nat.le_of_ble_eq_true rfl) (by kernel_rfl)) ?_
              refine XL_nil ?_
              kernel_rfl
             show V _ _ _ _
             obtain ⟨vs38, hvs38, h⟩ := of_sI h
             refine V_reg (mb 83 486) [112, 16] (s1 := ⟨.bot :: I vn2 :: .pt 16 0 :: .bot :: .bot :: .ow 112 :: I x5 :: I y10 :: I vs38 :: bt 74 [], [(112, .arr 3 1 ((l16.set (Int.toNat (y32)) (w64 (e35 + 1))).map c3)), (16, .box [Ti y4.1, Ti y4.2.1, Ti y4.2.2])]⟩) ?_ ?_
             ·refine L0 rfl rfl (E_move (I vs15) rfl (by kernel_rfl)) ?_
              refine L0 rfl rfl (Y0_add64 (a := vs15) (b := 1) rfl (by kernel_rfl) (by kernel_rfl)) ?_
              refine L0 rfl rfl (E_assign (I (w64 (vs15 + 1))) rfl (by kernel_rfl)) ?_
              refine XL_nil ?_
              subst hvs38
              kernel_rfl
             exact ⟨n, Nat.lt_succ_self n, _, _,  by rfl, h⟩
            ·have h := of_false h hc33
             refine V_skip ?_
             show V _ _ _ _
             obtain ⟨vs39, hvs39, h⟩ := of_sI h
             refine V_reg (mb 83 486) [112, 16] (s1 := ⟨.bot :: I vn2 :: .pt 16 0 :: .bot :: .bot :: .ow 112 :: I x5 :: I y10 :: I vs39 :: bt 74 [], [(112, .arr 3 1 (l16.map c3)), (16, .box [Ti y4.1, Ti y4.2.1, Ti y4.2.2])]⟩) ?_ ?_
             ·refine L0 rfl rfl (E_move (I vs15) rfl (by kernel_rfl)) ?_
              refine L0 rfl rfl (Y0_add64 (a := vs15) (b := 1) rfl (by kernel_rfl) (by kernel_rfl)) ?_
              refine L0 rfl rfl (E_assign (I (w64 (vs15 + 1))) rfl (by kernel_rfl)) ?_
              refine XL_nil ?_
              subst hvs39
              kernel_rfl
             exact ⟨n, Nat.lt_succ_self n, _, _,  by rfl, h⟩
          ·have h := of_false h hc19
           refine V_exit ?_
           obtain rfl := some_inj h
           show St.keep _ _ _ = _
           rfl
        show V _ _ _ _
        obtain ⟨y40, hy40, h⟩ := of_sI h
        refine V_reg (mb 83 230) [112, 16] (s1 := ⟨.bot :: I vn2 :: .pt 16 0 :: .bot :: .bot :: .ow 112 :: I x5 :: I y40 :: bt 75 [], [(112, .arr 3 1 (o18.map c3)), (16, .box [Ti y4.1, Ti y4.2.1, Ti y4.2.2])]⟩) ?_ ?_
        ·refine L0 rfl rfl (E_move (I y10) rfl (by kernel_rfl)) ?_
         refine L0 rfl rfl (Y0_add64 (a := y10) (b := 1) rfl (by kernel_rfl) (by kernel_rfl)) ?_
         refine L0 rfl rfl (E_assign (I (w64 (y10 + 1))) rfl (by kernel_rfl)) ?_
         refine XL_nil ?_
         subst hy40
         kernel_rfl
        exact ⟨n, Nat.lt_succ_self n, _, _,  by rfl, h⟩
       ·have h := of_false h hc14
        refine V_exit ?_
        obtain rfl := some_inj h
        show St.keep _ _ _ = _
        rfl
     show V _ _ _ _
     obtain ⟨x41, hx41, h⟩ := of_sI h
     refine V_reg (mb 83 102) [112, 16] (s1 := ⟨.bot :: I vn2 :: .pt 16 0 :: .bot :: .bot :: .ow 112 :: I x41 :: bt 76 [], [(112, .arr 3 1 (o13.map c3)), (16, .box [Ti y4.1, Ti y4.2.1, Ti y4.2.2])]⟩) ?_ ?_
     ·refine L0 rfl rfl (E_move (I x5) rfl (by kernel_rfl)) ?_
      refine L0 rfl rfl (Y0_add64 (a := x5) (b := 1) rfl (by kernel_rfl) (by kernel_rfl)) ?_
      refine L0 rfl rfl (E_assign (I (w64 (x5 + 1))) rfl (by kernel_rfl)) ?_
      refine XL_nil ?_
      subst hx41
      kernel_rfl
     exact ⟨n, Nat.lt_succ_self n, _, _,  by rfl, h⟩
    ·have h := of_false h hc9
     refine V_exit ?_
     obtain rfl := some_inj h
     show St.keep _ _ _ = _
     rfl
  show V _ _ _ _
  refine V_sreg (mb 83 16) [112] (s1 := ⟨bt 4 (.ow 112 :: bt 78 []), [(112, .arr 3 1 (o8.map c3))]⟩) ?_ ?_
  ·refine L0 rfl rfl (E_move (.ow 112) rfl (by kernel_rfl)) ?_
   refine L0 rfl rfl (E_assign (.ow 112) rfl (by kernel_rfl)) ?_
   refine XL_nil ?_
   kernel_rfl
  refine V_ret ?_
  obtain rfl := some_inj h
  show Post _ _ _ _ _
  exact ⟨.inr rfl, rfl, rfl, rfl⟩
theorem cf_spec_thSum : ∀ args w, (callFunc 61 args).run Try.prog w = .ok (.enter 61 args) w := run_callFunc Try.func61 (by kernel_rfl) (by kernel_rfl)
set_option maxRecDepth 100000 in
set_option maxHeartbeats 400000 in
theorem s_spec_thSum {l1 : List ((Int × Int × Int))} {vn2 : Int} {r : List Int} (h : r_spec_thSum l1 vn2 = some r) : CallS Try.prog 61 [.c (.sl (l1.map c43)), I vn2] (.ow 0) [(0, .arr 3 1 (r.map c3))] := by
  refine CallS_of_text (rs := [.t 4]) (vs := [.tmp 4]) Try.func61 rfl rfl (.cons rfl FitsL.nil) (by decide) 38 rfl ?_
  unfold r_spec_thSum at h
  show V _ _ ⟨.c (.sl (l1.map c43)) :: I vn2 :: bt 36 [], []⟩ _
  refine V_sreg (mb 38 3) [] (s1 := ⟨.c (.sl (l1.map c43)) :: I vn2 :: bt 36 [], []⟩) ?_ ?_
  ·refine L1 rfl rfl (Y1_nil (e := 3) 1 (by decide) (.inl rfl)) ?_
   refine XL_nil ?_
   kernel_rfl
  obtain ⟨u3, hu3, h⟩ := of_bind h
  refine V_sreg (mb 38 35) [96] (s1 := ⟨.c (.sl (l1.map c43)) :: I vn2 :: bt 3 (.ow 96 :: bt 32 []), [(96, .arr 3 1 ((List.replicate (Int.toNat (w64 (vn2 + 1))) ((0 : Int))).map c3))]⟩) ?_ ?_
  ·refine L0 rfl rfl (E_move (I vn2) rfl (by kernel_rfl)) ?_
   refine L0 rfl rfl (Y0_add64 (a := vn2) (b := 1) rfl (by kernel_rfl) (by kernel_rfl)) ?_
   refine L1 rfl rfl (Y1_make (c := c3) (zx := (0 : Int)) (z := zv3) (l := w64 (vn2 + 1)) (k := w64 (vn2 + 1)) Try.underlying28 izb3 rfl rfl (by decide) rfl rfl (by kernel_rfl) (by kernel_rfl) (mk_some hu3) (by decide)) ?_
   refine L0 rfl rfl (E_assign (.ow 96) rfl (by kernel_rfl)) ?_
   refine XL_nil ?_
   kernel_rfl
  refine V_seq ?_
  refine V_sreg (mb 38 57378) [96] (s1 := ⟨.bot :: I vn2 :: bt 3 (.ow 96 :: bt 7 (.c (.sl (l1.map c43)) :: I ((l1.length : Int)) :: I 0 :: bt 22 [])), [(96, .arr 3 1 ((List.replicate (Int.toNat (w64 (vn2 + 1))) ((0 : Int))).map c3))]⟩) ?_ ?_
  ·refine L0 rfl rfl (E_move (.c (.sl (l1.map c43))) rfl (by kernel_rfl)) ?_
   refine L0 rfl rfl (Y0_lenM (c := c43) (xs := l1) Try.underlying40 rfl (by kernel_rfl)) ?_
   refine L0 rfl rfl (E_move (I 0) rfl (by kernel_rfl)) ?_
   refine XL_nil ?_
   kernel_rfl
  obtain ⟨o7, hLo7, h⟩ := of_bind h
  refine V_toK (mb 38 32) [96] (s1 := ⟨bt 5 (.ow 96 :: bt 32 []), [(96, .arr 3 1 (o7.map c3))]⟩) ?_ ?_
  ·clear h
   refine V_block (V_loop (fun n s => ∃ (t4 : Int) (l5 : List Int), s.keep (mb 38 57378) [96] = (⟨.bot :: I vn2 :: bt 3 (.ow 96 :: bt 7 (.c (.sl (l1.map c43)) :: I ((l1.length : Int)) :: I t4 :: bt 22 [])), [(96, .arr 3 1 (l5.map c3))]⟩ : St) ∧ r_spec_thSum_L6 l1 vn2 n t4 l5 = some o7) FU ⟨_, _,  by rfl, hLo7⟩ ?_)
   clear hLo7
   rintro n s ⟨t4, l5, hs, h⟩
   refine V_keep _ _ hs ?_
   clear hs
   cases n with
   | zero => cases h
   | succ n =>
    rw [r_spec_thSum_L6] at h
    refine V_sreg (mb 38 122914) [96] (s1 := ⟨.bot :: I vn2 :: bt 3 (.ow 96 :: bt 7 (.c (.sl (l1.map c43)) :: I ((l1.length : Int)) :: I t4 :: Bo (ltI t4 ((l1.length : Int))) :: bt 21 [])), [(96, .arr 3 1 (l5.map c3))]⟩) ?_ ?_
    ·refine L0 rfl rfl (Y0_ltw (k := .i64) (a := t4) (b := (l1.length : Int)) rfl (by kernel_rfl) (by kernel_rfl)) ?_
     refine XL_nil ?_
     kernel_rfl
    refine V_seq ?_
    refine V_cond rfl (fun hc8 => ?_) (fun hc8 => ?_)
    ·have h := of_true h hc8
     refine V_skip ?_
     show V _ _ _ _
     refine V_seq ?_
     refine V_block ?_
     obtain ⟨e9, he9, h⟩ := of_bind h
     refine V_sreg (mb 38 57506) [56, 96] (s1 := ⟨.bot :: I vn2 :: bt 3 (.ow 96 :: .bot :: .pt 56 0 :: bt 5 (.c (.sl (l1.map c43)) :: I ((l1.length : Int)) :: I t4 :: bt 22 [])), [(56, .box [Ti e9.1, Ti e9.2.1, Ti e9.2.2]), (96, .arr 3 1 (l5.map c3))]⟩) ?_ ?_
     ·refine L0 rfl rfl (Y0_idxM (c := c43) (xs := l1) (v := e9) (n := t4) Try.underlying40 sz43 rfl (by kernel_rfl) (by kernel_rfl) he9) ?_
      refine L0 rfl rfl (E_loadn (cs := [Ti e9.1, Ti e9.2.1, Ti e9.2.2]) [Ti e9.1, Ti e9.2.1, Ti e9.2.2] wd43 rfl (by kernel_rfl) (Nat.le_of_ble_eq_true rfl) (by kernel_rfl)) ?_
      refine L1 rfl rfl (Y1_alloc (z := zv43) rfl zf43 rfl) ?_
      refine XL_cons rfl (E_store (id := 56) (off := 0) (cs := [Ti 0, Ti 0, Ti 0]) (vc := [Ti e9.1, Ti e9.2.1, Ti e9.2.2]) [Ti e9.1, Ti e9.2.1, Ti e9.2.2] rfl rfl (by kernel_rfl) (by kernel_rfl) (by kernel_rfl) sz43 (Nat.le_of_ble_eq_true rfl) (by kernel_rfl)) ?_
      refine XL_nil ?_
      kernel_rfl
     obtain ⟨y10, hy10, h⟩ := of_bind h
     refine V_sreg (mb 38 14737442) [168, 96] (s1 := ⟨.bot :: I vn2 :: bt 3 (.ow 96 :: bt 7 (.c (.sl (l1.map c43)) :: I ((l1.length : Int)) :: I t4 :: bt 5 (.ow 168 :: I ((y10.length : Int)) :: I 0 :: bt 14 []))), [(168, .arr 3 1 (y10.map c3)), (96, .arr 3 1 (l5.map c3))]⟩) ?_ ?_
     ·refine L0 rfl rfl (E_loadn (cs := [Ti e9.1, Ti e9.2.1, Ti e9.2.2]) [Ti e9.1, Ti e9.2.1, Ti e9.2.2] wd43 rfl (by kernel_rfl) (Nat.le_of_ble_eq_true rfl) (by kernel_rfl)) ?_
      refine L0 rfl rfl (E_move (I vn2) rfl (by kernel_rfl)) ?_
      refine L1 rfl rfl (Y1_call (s_spec_thSeries hy10) cf_spec_thSeries rfl (by kernel_rfl)) ?_
      refine L0 rfl rfl (Y0_lenM (c := c3) (xs := y10) Try.underlying28 rfl (by kernel_rfl)) ?_
      refine L0 rfl rfl (E_move (I 0) rfl (by kernel_rfl)) ?_
      refine XL_nil ?_
      kernel_rfl
     obtain ⟨o14, hLo14, h⟩ := of_bind h
     refine V_toK (mb 38 57378) [96] (s1 := ⟨.bot :: I vn2 :: bt 3 (.ow 96 :: bt 7 (.c (.sl (l1.map c43)) :: I ((l1.length : Int)) :: I t4 :: bt 22 [])), [(96, .arr 3 1 (o14.map c3))]⟩) ?_ ?_
     ·clear h
      refine V_block (V_loop (fun n s => ∃ (t11 : Int) (l12 : List Int), s.keep (mb 38 14737442) [168, 96] = (⟨.bot :: I vn2 :: bt 3 (.ow 96 :: bt 7 (.c (.sl (l1.map c43)) :: I ((l1.length : Int)) :: I t4 :: bt 5 (.ow 168 :: I ((y10.length : Int)) :: I t11 :: bt 14 []))), [(168, .arr 3 1 (y10.map c3)), (96, .arr 3 1 (l12.map c3))]⟩ : St) ∧ r_spec_thSum_L13 l1 t4 vn2 y10 n t11 l12 = some o14) FU ⟨_, _,  by rfl, hLo14⟩ ?_)
      clear hLo14
      rintro n s ⟨t11, l12, hs, h⟩
      refine V_keep _ _ hs ?_
      clear hs
      cases n with
      | zero => cases h
      | succ n =>
       rw [r_spec_thSum_L13] at h
       refine V_sreg (mb 38 31514658) [168, 96] (s1 := ⟨.bot :: I vn2 :: bt 3 (.ow 96 :: bt 7 (.c (.sl (l1.map c43)) :: I ((l1.length : Int)) :: I t4 :: bt 5 (.ow 168 :: I ((y10.length : Int)) :: I t11 :: Bo (ltI t11 ((y10.length : Int))) :: bt 13 []))), [(168, .arr 3 1 (y10.map c3)), (96, .arr 3 1 (l12.map c3))]⟩) ?_ ?_
       ·refine L0 rfl rfl (Y0_ltw (k := .i64) (a := t11) (b := (y10.length : Int)) rfl (by kernel_rfl) (by kernel_rfl)) ?_
        refine XL_nil ?_
        kernel_rfl
       refine V_seq ?_
       refine V_cond rfl (fun hc15 => ?_) (fun hc15 => ?_)
       ·have h := of_true h hc15
        refine V_skip ?_
        show V _ _ _ _
        refine V_seq ?_
        refine V_block ?_
        obtain ⟨e16, he16, h⟩ := of_bind h
        obtain ⟨e17, he17, h⟩ := of_bind h
        refine V_sreg (mb 38 14738210) [168, 96] (s1 := ⟨.bot :: I vn2 :: bt 3 (.ow 96 :: .bot :: .bot :: I t11 :: I e17 :: bt 3 (.c (.sl (l1.map c43)) :: I ((l1.length : Int)) :: I t4 :: bt 5 (.ow 168 :: I ((y10.length : Int)) :: I t11 :: bt 14 []))), [(168, .arr 3 1 (y10.map c3)), (96, .arr 3 1 (l12.map c3))]⟩) ?_ ?_
        ·refine L0 rfl rfl (E_move (I t11) rfl (by kernel_rfl)) ?_
         refine L0 rfl rfl (Y0_idxoM (c := c3) (xs := y10) (v := e16) (id := 168) (T := 3) (sz := 1) (n := t11) Try.underlying28 sz3 rfl (by kernel_rfl) (by kernel_rfl) (by kernel_rfl) he16) ?_
         refine L0 rfl rfl (Y0_loado1 (c := c3) (xs := y10) (v := e17) (id := 168) (sz := 1) (T := 3) (off := 0) (n := t11) (d := Ti e17) (ds := []) sc3 rfl (by kernel_rfl) (by kernel_rfl) he17 (by kernel_rfl)) ?_
         refine L0 rfl rfl (E_assign (I t11) rfl (by kernel_rfl)) ?_
         refine L0 rfl rfl (E_assign (I e17) rfl (by kernel_rfl)) ?_
         refine XL_nil ?_
         kernel_rfl
        obtain ⟨e18, he18, h⟩ := of_bind h
        obtain ⟨e19, he19, h⟩ := of_bind h
        obtain ⟨e20, he20, h⟩ := of_bind h
        obtain ⟨e21, he21, h⟩ := of_bind h
        refine V_reg (mb 38 14737442) [168, 96] (s1 := ⟨.bot :: I vn2 :: bt 3 (.ow 96 :: bt 7 (.c (.sl (l1.map c43)) :: I ((l1.length : Int)) :: I t4 :: bt 5 (.ow 168 :: I ((y10.length : Int)) :: I t11 :: bt 14 []))), [(168, .arr 3 1 (y10.map c3)), (96, .arr 3 1 ((l12.set (Int.toNat (t11)) (w64 (e19 + e17))).map c3))]⟩) ?_ ?_
        ·refine L0 rfl rfl (E_move (.ow 96) rfl (by kernel_rfl)) ?_
         refine L0 rfl rfl (E_move (I t11) rfl (by kernel_rfl)) ?_
         refine L0 rfl rfl (Y0_idxoM (c := c3) (xs := l12) (v := e18) (id := 96) (T := 3) (sz := 1) (n := t11) Try.underlying28 sz3 rfl (by kernel_rfl) (by kernel_rfl) (by kernel_rfl) he18) ?_
         refine L0 rfl rfl (Y0_loado1 (c := c3) (xs := l12) (v := e19) (id := 96) (sz := 1) (T := 3) (off := 0) (n := t11) (d := Ti e19) (ds := []) sc3 rfl (by kernel_rfl) (by kernel_rfl) he19 (by kernel_rfl)) ?_
         refine L0 rfl rfl (E_move (I e17) rfl (by kernel_rfl)) ?_
         refine L0 rfl rfl (Y0_add64 (a := e19) (b := e17) rfl (by kernel_rfl) (by kernel_rfl)) ?_
         refine L0 rfl rfl (Y0_idxoM (c := c3) (xs := l12) (v := e20) (id := 96) (T := 3) (sz := 1) (n := t11) Try.underlying28 sz3 rfl (by kernel_rfl) (by kernel_rfl) (by kernel_rfl) he20) ?_
         refine XL_cons rfl (X_storeoM (c := c3) (xs := l12) (v := e21) (u := w64 (e19 + e17)) (id := 96) (sz := 1) (off := 0) (T0 := 3) (n := t11) (vc := [Ti (w64 (e19 + e17))]) rfl rfl (by kernel_rfl) (by kernel_rfl) he21 (by kernel_rfl) sz3 (Nat.le_of_ble_eq_true rfl) (by kernel_rfl)) ?_
         refine XL_nil ?_
         kernel_rfl
        show V _ _ _ _
        obtain ⟨t22, ht22, h⟩ := of_sI h
        refine V_reg (mb 38 14737442) [168, 96] (s1 := ⟨.bot :: I vn2 :: bt 3 (.ow 96 :: bt 7 (.c (.sl (l1.map c43)) :: I ((l1.length : Int)) :: I t4 :: bt 5 (.ow 168 :: I ((y10.length : Int)) :: I t22 :: bt 14 []))), [(168, .arr 3 1 (y10.map c3)), (96, .arr 3 1 ((l12.set (Int.toNat (t11)) (w64 (e19 + e17))).map c3))]⟩) ?_ ?_
        ·refine L0 rfl rfl (Y0_add64 (a := t11) (b := 1) rfl (by kernel_rfl) (by kernel_rfl)) ?_
         refine L0 rfl rfl (E_move (I (w64 (t11 + 1))) rfl (by kernel_rfl)) ?_
         refine XL_nil ?_
         subst ht22
         kernel_rfl
        exact ⟨n, Nat.lt_succ_self n, _, _,  by rfl, h⟩
       ·have h := of_false h hc15
        refine V_exit ?_
        obtain rfl := some_inj h
        show St.keep _ _ _ = _
        rfl
     show V _ _ _ _
     obtain ⟨t23, ht23, h⟩ := of_sI h
     refine V_reg (mb 38 57378) [96] (s1 := ⟨.bot :: I vn2 :: bt 3 (.ow 96 :: bt 7 (.c (.sl (l1.map c43)) :: I ((l1.length : Int)) :: I t23 :: bt 22 [])), [(96, .arr 3 1 (o14.map c3))]⟩) ?_ ?_
     ·refine L0 rfl rfl (Y0_add64 (a := t4) (b := 1) rfl (by kernel_rfl) (by kernel_rfl)) ?_
      refine L0 rfl rfl (E_move (I (w64 (t4 + 1))) rfl (by kernel_rfl)) ?_
      refine XL_nil ?_
      subst ht23
      kernel_rfl
     exact ⟨n, Nat.lt_succ_self n, _, _,  by rfl, h⟩
    ·have h := of_false h hc8
     refine V_exit ?_
     obtain rfl := some_inj h
     show St.keep _ _ _ = _
     rfl
  show V _ _ _ _
  refine V_sreg (mb 38 16) [96] (s1 := ⟨bt 4 (.ow 96 :: bt 33 []), [(96, .arr 3 1 (o7.map c3))]⟩) ?_ ?_
  ·refine L0 rfl rfl (E_move (.ow 96) rfl (by kernel_rfl)) ?_
   refine L0 rfl rfl (E_assign (.ow 96) rfl (by kernel_rfl)) ?_
   refine XL_nil ?_
   kernel_rfl
  refine V_ret ?_
  obtain rfl := some_inj h
  show Post _ _ _ _ _
  exact ⟨.inr rfl, rfl, rfl, rfl⟩
theorem cf_spec_ClassSum : ∀ args w, (callFunc 22 args).run Try.prog w = .ok (.enter 22 args) w := run_callFunc Try.func22 (by kernel_rfl) (by kernel_rfl)
set_option maxRecDepth 100000 in
set_option maxHeartbeats 400000 in
theorem s_spec_ClassSum {d1 : Int} {vn2 : Int} {r : ((List Int) × Bool)} (h : r_spec_ClassSum d1 vn2 = some r) : CallS Try.prog 22 [I d1, I vn2] (.tc (.ow 0) (.tc (Bo r.2) .tn)) [(0, .arr 3 1 (r.1.map c3))] := by
  refine CallS_of_text (rs := [.t 4, .t 5]) (vs := [.tmp 4, .tmp 5]) Try.func22 rfl rfl (.cons rfl (.cons rfl FitsL.nil)) (by decide) 18 rfl ?_
  unfold r_spec_ClassSum at h
  show V _ _ ⟨I d1 :: I vn2 :: bt 16 [], []⟩ _
  refine V_sreg (mb 18 3) [] (s1 := ⟨I d1 :: I vn2 :: bt 16 [], []⟩) ?_ ?_
  ·refine L1 rfl rfl (Y1_nil (e := 3) 1 (by decide) (.inl rfl)) ?_
   refine L0 rfl rfl (E_assign (Bo false) rfl (by kernel_rfl)) ?_
   refine XL_nil ?_
   kernel_rfl
  refine V_seq ?_
  obtain ⟨y3, hy3, h⟩ := of_bind h
  obtain ⟨b6, hb6, h⟩ := of_bind h
  refine V_sreg (mb 18 8195) [] (s1 := ⟨I d1 :: I vn2 :: bt 11 (Bo b6 :: bt 4 []), []⟩) ?_ ?_
  ·refine L0 rfl rfl (E_move (I d1) rfl (by kernel_rfl)) ?_
   refine L1 rfl rfl (Y1_call (s_spec_reDisc hy3) cf_spec_reDisc rfl (by kernel_rfl)) ?_
   refine L0 rfl rfl (Y0_not (b := y3) rfl (by kernel_rfl)) ?_
   refine L0 rfl rfl (E_move (Bo (!y3)) rfl (by kernel_rfl)) ?_
   refine XL_split (!y3) (fun hc4 => ?_) (fun hc4 => ?_)
   ·have hb6 := some_inj (of_true hb6 hc4)
    refine XL_skipF _ rfl rfl (by kernel_rfl) hc4 rfl ?_
    refine XL_skipF _ rfl rfl (by kernel_rfl) hc4 rfl ?_
    refine XL_skipF _ rfl rfl (by kernel_rfl) hc4 rfl ?_
    refine XL_cons rfl (X_of_Y0 rfl (Y0_pickTe (b := !y3) (p := true) rfl (by kernel_rfl) hc4 (by kernel_rfl) hb6)) ?_
    refine XL_nil ?_
    kernel_rfl
   ·have hb6 := of_false hb6 hc4
    obtain ⟨y5, hy5, hb6⟩ := of_bind hb6
    have hb6 := some_inj hb6
    refine XL_takeC _ rfl rfl (by kernel_rfl) hc4 (X_of_Y0 rfl (E_move (I vn2) rfl (by kernel_rfl))) ?_
    refine XL_takeC _ rfl rfl (by kernel_rfl) hc4 (X_of_Y1 rfl (Y1_call (s_spec_thTerms hy5) cf_spec_thTerms rfl (by kernel_rfl))) ?_
    refine XL_takeC _ rfl rfl (by kernel_rfl) hc4 (X_of_Y0 rfl (Y0_not (b := y5) rfl (by kernel_rfl))) ?_
    refine XL_cons rfl (X_of_Y0 rfl (Y0_pickFe (b := !y3) (p := !y5) rfl (by kernel_rfl) hc4 (by kernel_rfl) hb6)) ?_
    refine XL_nil ?_
    kernel_rfl
  refine V_cond rfl (fun hc7 => ?_) (fun hc7 => ?_)
  ·have h := of_true h hc7
   refine V_sreg (mb 18 48) [32] (s1 := ⟨bt 4 (.ow 32 :: Bo false :: bt 12 []), [(32, .arr 3 1 ((([] : List Int)).map c3))]⟩) ?_ ?_
   ·refine L1 rfl rfl (Y1_nil (e := 3) 1 (by decide) (.inl rfl)) ?_
    refine L0 rfl rfl (E_assign (Bo false) rfl (by kernel_rfl)) ?_
    refine XL_nil ?_
    kernel_rfl
   refine V_ret ?_
   obtain rfl := some_inj h
   show Post _ _ _ _ _
   exact ⟨.inr rfl, rfl, rfl, rfl⟩
  ·have h := of_false h hc7
   refine V_skip ?_
   show V _ _ _ _
   obtain ⟨y8, hy8, h⟩ := of_bind h
   obtain ⟨y9, hy9, h⟩ := of_bind h
   refine V_sreg (mb 18 48) [136] (s1 := ⟨bt 4 (.ow 136 :: Bo true :: bt 12 []), [(136, .arr 3 1 (y9.map c3))]⟩) ?_ ?_
   ·refine L0 rfl rfl (E_move (I d1) rfl (by kernel_rfl)) ?_
    refine L1 rfl rfl (Y1_call (s_spec_reList hy8) cf_spec_reList rfl (by kernel_rfl)) ?_
    refine L0 rfl rfl (E_move (I vn2) rfl (by kernel_rfl)) ?_
    refine L1 rfl rfl (Y1_callS (s_spec_thSum hy9) cf_spec_thSum rfl (by kernel_rfl) rfl (flatE_cons (fun _ => rfl) rfl)) ?_
    refine L0 rfl rfl (E_assign (.ow 136) rfl (by kernel_rfl)) ?_
    refine L0 rfl rfl (E_assign (Bo true) rfl (by kernel_rfl)) ?_
    refine XL_nil ?_
    kernel_rfl
   refine V_ret ?_
   obtain rfl := some_inj h
   show Post _ _ _ _ _
   exact ⟨.inr rfl, rfl, rfl, rfl⟩
theorem cf_laws_sameInts : ∀ args w, (callFunc 16 args).run Try.prog w = .ok (.enter 16 args) w := run_callFunc Try.func16 (by kernel_rfl) (by kernel_rfl)
set_option maxRecDepth 100000 in
set_option maxHeartbeats 400000 in
theorem s_laws_sameInts {a1 : List Int} {b2 : List Int} {r : Bool} (h : r_laws_sameInts a1 b2 = some r) : CallS Try.prog 16 [.c (.sl (a1.map c3)), .c (.sl (b2.map c3))] (Bo r) [] := by
  refine CallS_of_text (rs := [.t 4]) (vs := [.tmp 4]) Try.func16 rfl rfl (.cons rfl FitsL.nil) (by decide) 26 rfl ?_
  unfold r_laws_sameInts at h
  show V _ _ ⟨.c (.sl (a1.map c3)) :: .c (.sl (b2.map c3)) :: bt 24 [], []⟩ _
  refine V_sreg (mb 26 3) [] (s1 := ⟨.c (.sl (a1.map c3)) :: .c (.sl (b2.map c3)) :: bt 24 [], []⟩) ?_ ?_
  ·refine L0 rfl rfl (E_assign (Bo false) rfl (by kernel_rfl)) ?_
   refine XL_nil ?_
   kernel_rfl
  refine V_seq ?_
  refine V_sreg (mb 26 1027) [] (s1 := ⟨.c (.sl (a1.map c3)) :: .c (.sl (b2.map c3)) :: bt 8 (Bo (!eqI ((a1.length : Int)) ((b2.length : Int))) :: bt 15 []), []⟩) ?_ ?_
  ·refine L0 rfl rfl (E_move (.c (.sl (a1.map c3))) rfl (by kernel_rfl)) ?_
   refine L0 rfl rfl (Y0_lenM (c := c3) (xs := a1) Try.underlying28 rfl (by kernel_rfl)) ?_
   refine L0 rfl rfl (E_move (.c (.sl (b2.map c3))) rfl (by kernel_rfl)) ?_
   refine L0 rfl rfl (Y0_lenM (c := c3) (xs := b2) Try.underlying28 rfl (by kernel_rfl)) ?_
   refine L0 rfl rfl (Y0_new (k := .i64) (a := (a1.length : Int)) (b := (b2.length : Int)) rfl (by kernel_rfl) (by kernel_rfl)) ?_
   refine XL_nil ?_
   kernel_rfl
  refine V_cond rfl (fun hc3 => ?_) (fun hc3 => ?_)
  ·have h := of_true h hc3
   refine V_sreg (mb 26 16) [] (s1 := ⟨bt 4 (Bo false :: bt 21 []), []⟩) ?_ ?_
   ·refine L0 rfl rfl (E_assign (Bo false) rfl (by kernel_rfl)) ?_
    refine XL_nil ?_
    kernel_rfl
   refine V_ret ?_
   obtain rfl := some_inj h
   show Post _ _ _ _ _
   exact ⟨.inr rfl, rfl, rfl, rfl⟩
  ·have h := of_false h hc3
   refine V_skip ?_
   show V _ _ _ _
   refine V_seq ?_
   refine V_sreg (mb 26 12291) [] (s1 := ⟨.c (.sl (a1.map c3)) :: .c (.sl (b2.map c3)) :: bt 10 (I ((a1.length : Int)) :: I 0 :: bt 12 []), []⟩) ?_ ?_
   ·refine L0 rfl rfl (E_move (.c (.sl (a1.map c3))) rfl (by kernel_rfl)) ?_
    refine L0 rfl rfl (Y0_lenM (c := c3) (xs := a1) Try.underlying28 rfl (by kernel_rfl)) ?_
    refine L0 rfl rfl (E_move (I 0) rfl (by kernel_rfl)) ?_
    refine XL_nil ?_
    kernel_rfl
   obtain ⟨qo6, hLo6, hko6⟩ := of_bind h
   refine V_toS (q := qo6) (S := fun o6 => ⟨bt 26 [], []⟩) (mb 26 0) [] ?_ ?_
   ·refine V_block (V_loop (fun n s => ∃ (t4 : Int), s.keep (mb 26 12291) [] = (⟨.c (.sl (a1.map c3)) :: .c (.sl (b2.map c3)) :: bt 10 (I ((a1.length : Int)) :: I t4 :: bt 12 []), []⟩ : St) ∧ r_laws_sameInts_L5 a1 b2 n t4 = some qo6) FU ⟨_,  by rfl, hLo6⟩ ?_)
    clear hLo6
    rintro n s ⟨t4, hs, h⟩
    refine V_keep _ _ hs ?_
    clear hs
    cases n with
    | zero => cases h
    | succ n =>
     rw [r_laws_sameInts_L5] at h
     refine V_sreg (mb 26 28675) [] (s1 := ⟨.c (.sl (a1.map c3)) :: .c (.sl (b2.map c3)) :: bt 10 (I ((a1.length : Int)) :: I t4 :: Bo (ltI t4 ((a1.length : Int))) :: bt 11 []), []⟩) ?_ ?_
     ·refine L0 rfl rfl (Y0_ltw (k := .i64) (a := t4) (b := (a1.length : Int)) rfl (by kernel_rfl) (by kernel_rfl)) ?_
      refine XL_nil ?_
      kernel_rfl
     refine V_seq ?_
     refine V_cond rfl (fun hc7 => ?_) (fun hc7 => ?_)
     ·have h := of_true h hc7
      refine V_skip ?_
      show V _ _ _ _
      refine V_seq ?_
      refine V_block ?_
      refine V_sreg (mb 26 12323) [] (s1 := ⟨.c (.sl (a1.map c3)) :: .c (.sl (b2.map c3)) :: bt 3 (I t4 :: bt 6 (I ((a1.length : Int)) :: I t4 :: bt 12 [])), []⟩) ?_ ?_
      ·refine L0 rfl rfl (E_move (I t4) rfl (by kernel_rfl)) ?_
       refine L0 rfl rfl (E_assign (I t4) rfl (by kernel_rfl)) ?_
       refine XL_nil ?_
       kernel_rfl
      obtain ⟨e8, he8, h⟩ := of_bind h
      obtain ⟨e9, he9, h⟩ := of_bind h
      refine V_sdreg [0, 0, 3, 7, 0, 0, 48, 112, 255] 9 [[.z, .b, .z, .z, .b, .b, .b, .b, .z], [.b, .z, .z, .z, .b, .b, .b, .b, .z], [.a, .a, .z, .z, .b, .b, .b, .b, .z], [.a, .a, .a, .z, .b, .b, .b, .b, .z], [.b, .b, .b, .b, .z, .b, .z, .z, .z], [.b, .b, .b, .b, .b, .z, .z, .z, .z], [.b, .b, .b, .b, .a, .a, .z, .z, .z], [.b, .b, .b, .b, .a, .a, .a, .z, .z], [.a, .a, .a, .a, .a, .a, .a, .a, .z]] (mb 26 16789507) [] (s1 := ⟨.c (.sl (a1.map c3)) :: .c (.sl (b2.map c3)) :: bt 10 (I ((a1.length : Int)) :: I t4 :: bt 10 (Bo (!eqI e8 e9) :: .bot :: [])), []⟩) (by kernel_rfl) (by kernel_rfl) ?_ ?_
      ·refine DE_0 0 (.c (.sl (a1.map c3))) (by kernel_rfl) rfl rfl rfl (gsat_none rfl) (by kernel_rfl) (E_move (.c (.sl (a1.map c3))) rfl (by kernel_rfl)) 16 rfl ?_
       refine DE_0 1 (I t4) (by kernel_rfl) rfl rfl rfl (gsat_none rfl) (by kernel_rfl) (E_move (I t4) rfl (by kernel_rfl)) 17 rfl ?_
       refine DE_0 2 (.pe [Ti e8]) (by kernel_rfl) rfl rfl rfl (gsat_none rfl) (by kernel_rfl) (Y0_idxM (c := c3) (xs := a1) (v := e8) (n := t4) Try.underlying28 sz3 rfl (by kernel_rfl) (by kernel_rfl) he8) 18 rfl ?_
       refine DE_0 3 (I e8) (by kernel_rfl) rfl rfl rfl (gsat_none rfl) (by kernel_rfl) (Y0_load1 (c := Ti e8) (cs := []) sc3 rfl (by kernel_rfl)) 19 rfl ?_
       refine DE_0 4 (.c (.sl (b2.map c3))) (by kernel_rfl) rfl rfl rfl (gsat_none rfl) (by kernel_rfl) (E_move (.c (.sl (b2.map c3))) rfl (by kernel_rfl)) 20 rfl ?_
       refine DE_0 5 (I t4) (by kernel_rfl) rfl rfl rfl (gsat_none rfl) (by kernel_rfl) (E_move (I t4) rfl (by kernel_rfl)) 21 rfl ?_
       refine DE_0 6 (.pe [Ti e9]) (by kernel_rfl) rfl rfl rfl (gsat_none rfl) (by kernel_rfl) (Y0_idxM (c := c3) (xs := b2) (v := e9) (n := t4) Try.underlying28 sz3 rfl (by kernel_rfl) (by kernel_rfl) he9) 22 rfl ?_
       refine DE_0 7 (I e9) (by kernel_rfl) rfl rfl rfl (gsat_none rfl) (by kernel_rfl) (Y0_load1 (c := Ti e9) (cs := []) sc3 rfl (by kernel_rfl)) 23 rfl ?_
       refine DE_0 8 (Bo (!eqI e8 e9)) (by kernel_rfl) rfl rfl rfl (gsat_none rfl) (by kernel_rfl) (Y0_new (k := .i64) (a := e8) (b := e9) rfl (by kernel_rfl) (by kernel_rfl)) 24 rfl ?_
       refine DL_nil (by kernel_rfl) ?_
       refine XL_nil ?_
       kernel_rfl
      refine V_cond rfl (fun hc10 => ?_) (fun hc10 => ?_)
      ·have h := of_true h hc10
       refine V_sreg (mb 26 16) [] (s1 := ⟨bt 4 (Bo false :: bt 21 []), []⟩) ?_ ?_
       ·refine L0 rfl rfl (E_assign (Bo false) rfl (by kernel_rfl)) ?_
        refine XL_nil ?_
        kernel_rfl
       refine V_ret ?_
       obtain rfl := some_inj h
       have h := hko6
       obtain rfl := some_inj h
       show Post _ _ _ _ _
       exact ⟨.inr rfl, rfl, rfl, rfl⟩
      ·have h := of_false h hc10
       refine V_skip ?_
       show V _ _ _ _
       obtain ⟨t11, ht11, h⟩ := of_sI h
       refine V_reg (mb 26 12291) [] (s1 := ⟨.c (.sl (a1.map c3)) :: .c (.sl (b2.map c3)) :: bt 10 (I ((a1.length : Int)) :: I t11 :: bt 12 []), []⟩) ?_ ?_
       ·refine L0 rfl rfl (Y0_add64 (a := t4) (b := 1) rfl (by kernel_rfl) (by kernel_rfl)) ?_
        refine L0 rfl rfl (E_move (I (w64 (t4 + 1))) rfl (by kernel_rfl)) ?_
        refine XL_nil ?_
        subst ht11
        kernel_rfl
       exact ⟨n, Nat.lt_succ_self n, _,  by rfl, h⟩
     ·have h := of_false h hc7
      refine V_exit ?_
      obtain rfl := some_inj h
      exact ⟨_, rfl, by rfl⟩
   rintro o6 rfl
   have h := hko6
   clear hko6
   show V _ _ _ _
   refine V_sreg (mb 26 16) [] (s1 := ⟨bt 4 (Bo true :: bt 21 []), []⟩) ?_ ?_
   ·refine L0 rfl rfl (E_assign (Bo true) rfl (by kernel_rfl)) ?_
    refine XL_nil ?_
    kernel_rfl
   refine V_ret ?_
   obtain rfl := some_inj h
   show Post _ _ _ _ _
   exact ⟨.inr rfl, rfl, rfl, rfl⟩
theorem cf_impl_firstPoint : ∀ args w, (callFunc 118 args).run Try.prog w = .ok (.enter 118 args) w := run_callFunc Try.func118 (by kernel_rfl) (by kernel_rfl)
set_option maxRecDepth 100000 in
set_option maxHeartbeats 400000 in
theorem s_impl_firstPoint {g1 : (Int × Int × Int)} {a2 : Int} {r : (Int × Int)} (h : r_impl_firstPoint g1 a2 = some r) : CallS Try.prog 118 [.ag [Ti g1.1, Ti g1.2.1, Ti g1.2.2], I a2] (.tc (I r.1) (.tc (I r.2) .tn)) [] := by
  refine CallS_of_text (rs := [.t 4, .t 5]) (vs := [.tmp 4, .tmp 5]) Try.func118 rfl rfl (.cons rfl (.cons rfl FitsL.nil)) (by decide) 43 rfl ?_
  unfold r_impl_firstPoint at h
  show V _ _ ⟨.ag [Ti g1.1, Ti g1.2.1, Ti g1.2.2] :: I a2 :: bt 41 [], []⟩ _
  refine V_sreg (mb 43 6) [16] (s1 := ⟨.bot :: I a2 :: .pt 16 0 :: bt 40 [], [(16, .box [Ti g1.1, Ti g1.2.1, Ti g1.2.2])]⟩) ?_ ?_
  ·refine L1 rfl rfl (Y1_box (cs := [Ti g1.1, Ti g1.2.1, Ti g1.2.2]) rfl (by kernel_rfl)) ?_
   refine L0 rfl rfl (E_assign (I 0) rfl (by kernel_rfl)) ?_
   refine L0 rfl rfl (E_assign (I 0) rfl (by kernel_rfl)) ?_
   refine XL_nil ?_
   kernel_rfl
  refine V_sreg (mb 43 70) [16] (s1 := ⟨.bot :: I a2 :: .pt 16 0 :: bt 3 (I 0 :: bt 36 []), [(16, .box [Ti g1.1, Ti g1.2.1, Ti g1.2.2])]⟩) ?_ ?_
  ·refine L0 rfl rfl (E_assign (I 0) rfl (by kernel_rfl)) ?_
   refine XL_nil ?_
   kernel_rfl
  obtain ⟨qo5, hLo5, hko5⟩ := of_bind h
  refine V_toS (q := qo5) (S := fun _ => (⟨[], []⟩ : St)) [] [] ?_ ?_
  ·refine V_block (V_loop (fun n s => ∃ (size3 : Int), s.keep (mb 43 70) [16] = (⟨.bot :: I a2 :: .pt 16 0 :: bt 3 (I size3 :: bt 36 []), [(16, .box [Ti g1.1, Ti g1.2.1, Ti g1.2.2])]⟩ : St) ∧ r_impl_firstPoint_L4 a2 g1 n size3 = some qo5) FU ⟨_,  by rfl, hLo5⟩ ?_)
   clear hLo5
   rintro n s ⟨size3, hs, h⟩
   refine V_keep _ _ hs ?_
   clear hs
   cases n with
   | zero => cases h
   | succ n =>
    rw [r_impl_firstPoint_L4] at h
    refine V_seq ?_
    refine V_block ?_
    refine V_sreg (mb 43 198) [16] (s1 := ⟨.bot :: I a2 :: .pt 16 0 :: bt 3 (I size3 :: I 0 :: bt 35 []), [(16, .box [Ti g1.1, Ti g1.2.1, Ti g1.2.2])]⟩) ?_ ?_
    ·refine L0 rfl rfl (E_assign (I 0) rfl (by kernel_rfl)) ?_
     refine XL_nil ?_
     kernel_rfl
    obtain ⟨qo8, hLo8, hko8⟩ := of_bind h
    refine V_toS (q := qo8) (S := fun o8 => ⟨.bot :: I a2 :: .pt 16 0 :: bt 3 (I size3 :: bt 36 []), [(16, .box [Ti g1.1, Ti g1.2.1, Ti g1.2.2])]⟩) (mb 43 70) [16] ?_ ?_
    ·refine V_block (V_loop (fun n s => ∃ (x6 : Int), s.keep (mb 43 198) [16] = (⟨.bot :: I a2 :: .pt 16 0 :: bt 3 (I size3 :: I x6 :: bt 35 []), [(16, .box [Ti g1.1, Ti g1.2.1, Ti g1.2.2])]⟩ : St) ∧ r_impl_firstPoint_L7 a2 g1 size3 n x6 = some qo8) FU ⟨_,  by rfl, hLo8⟩ ?_)
     clear hLo8
     rintro n s ⟨x6, hs, h⟩
     refine V_keep _ _ hs ?_
     clear hs
     cases n with
     | zero => cases h
     | succ n =>
      rw [r_impl_firstPoint_L7] at h
      refine V_seq ?_
      refine V_sreg (mb 43 8390) [16] (s1 := ⟨.bot :: I a2 :: .pt 16 0 :: bt 3 (I size3 :: I x6 :: bt 5 (Bo (leI x6 size3) :: bt 29 [])), [(16, .box [Ti g1.1, Ti g1.2.1, Ti g1.2.2])]⟩) ?_ ?_
      ·refine L0 rfl rfl (E_move (I x6) rfl (by kernel_rfl)) ?_
       refine L0 rfl rfl (E_move (I size3) rfl (by kernel_rfl)) ?_
       refine L0 rfl rfl (Y0_lew (k := .i64) (a := x6) (b := size3) rfl (by kernel_rfl) (by kernel_rfl)) ?_
       refine XL_nil ?_
       kernel_rfl
      refine V_cond rfl (fun hc9 => ?_) (fun hc9 => ?_)
      ·have h := of_true h hc9
       refine V_skip ?_
       show V _ _ _ _
       refine V_seq ?_
       refine V_block ?_
       refine V_sreg (mb 43 454) [16] (s1 := ⟨.bot :: I a2 :: .pt 16 0 :: bt 3 (I size3 :: I x6 :: I 0 :: bt 34 []), [(16, .box [Ti g1.1, Ti g1.2.1, Ti g1.2.2])]⟩) ?_ ?_
       ·refine L0 rfl rfl (E_assign (I 0) rfl (by kernel_rfl)) ?_
        refine XL_nil ?_
        kernel_rfl
       obtain ⟨qo12, hLo12, hko12⟩ := of_bind h
       refine V_toS (q := qo12) (S := fun o12 => ⟨.bot :: I a2 :: .pt 16 0 :: bt 3 (I size3 :: I x6 :: bt 35 []), [(16, .box [Ti g1.1, Ti g1.2.1, Ti g1.2.2])]⟩) (mb 43 198) [16] ?_ ?_
       ·refine V_block (V_loop (fun n s => ∃ (y10 : Int), s.keep (mb 43 454) [16] = (⟨.bot :: I a2 :: .pt 16 0 :: bt 3 (I size3 :: I x6 :: I y10 :: bt 34 []), [(16, .box [Ti g1.1, Ti g1.2.1, Ti g1.2.2])]⟩ : St) ∧ r_impl_firstPoint_L11 a2 g1 size3 x6 n y10 = some qo12) FU ⟨_,  by rfl, hLo12⟩ ?_)
        clear hLo12
        rintro n s ⟨y10, hs, h⟩
        refine V_keep _ _ hs ?_
        clear hs
        cases n with
        | zero => cases h
        | succ n =>
         rw [r_impl_firstPoint_L11] at h
         refine V_seq ?_
         refine V_sreg (mb 43 262598) [16] (s1 := ⟨.bot :: I a2 :: .pt 16 0 :: bt 3 (I size3 :: I x6 :: I y10 :: bt 9 (Bo (leI y10 size3) :: bt 24 [])), [(16, .box [Ti g1.1, Ti g1.2.1, Ti g1.2.2])]⟩) ?_ ?_
         ·refine L0 rfl rfl (E_move (I y10) rfl (by kernel_rfl)) ?_
          refine L0 rfl rfl (E_move (I size3) rfl (by kernel_rfl)) ?_
          refine L0 rfl rfl (Y0_lew (k := .i64) (a := y10) (b := size3) rfl (by kernel_rfl) (by kernel_rfl)) ?_
          refine XL_nil ?_
          kernel_rfl
         refine V_cond rfl (fun hc13 => ?_) (fun hc13 => ?_)
         ·have h := of_true h hc13
          refine V_skip ?_
          show V _ _ _ _
          refine V_seq ?_
          refine V_block ?_
          obtain ⟨b16, hb16, h⟩ := of_bind h
          obtain ⟨b20, hb20, h⟩ := of_bind h
          refine V_sreg (mb 43 1099511628230) [16] (s1 := ⟨.bot :: I a2 :: .pt 16 0 :: bt 3 (I size3 :: I x6 :: I y10 :: bt 31 (Bo b20 :: .bot :: .bot :: [])), [(16, .box [Ti g1.1, Ti g1.2.1, Ti g1.2.2])]⟩) ?_ ?_
          ·refine L0 rfl rfl (E_move (I x6) rfl (by kernel_rfl)) ?_
           refine L0 rfl rfl (E_move (I y10) rfl (by kernel_rfl)) ?_
           refine L0 rfl rfl (Y0_max (a := x6) (b := y10) rfl (by kernel_rfl) (by kernel_rfl)) ?_
           refine L0 rfl rfl (E_move (I size3) rfl (by kernel_rfl)) ?_
           refine L0 rfl rfl (Y0_eqw (k := .i64) (a := mxI x6 y10) (b := size3) rfl (by kernel_rfl) (by kernel_rfl)) ?_
           refine L0 rfl rfl (E_move (Bo (eqI (mxI x6 y10) size3)) rfl (by kernel_rfl)) ?_
           refine XL_split (eqI (mxI x6 y10) size3) (fun hc14 => ?_) (fun hc14 => ?_)
           ·have hb16 := of_true hb16 hc14
            obtain ⟨y15, hy15, hb16⟩ := of_bind hb16
            have hb16 := some_inj hb16
            refine XL_takeC _ rfl rfl (by kernel_rfl) hc14 (X_of_Y0 rfl (E_move (I x6) rfl (by kernel_rfl))) ?_
            refine XL_takeC _ rfl rfl (by kernel_rfl) hc14 (X_of_Y0 rfl (E_move (I y10) rfl (by kernel_rfl))) ?_
            refine XL_takeC _ rfl rfl (by kernel_rfl) hc14 (X_of_Y1 rfl (Y1_call (s_impl_gcd hy15) cf_impl_gcd rfl (by kernel_rfl))) ?_
            refine XL_takeC _ rfl rfl (by kernel_rfl) hc14 (X_of_Y0 rfl (Y0_eqw (k := .i64) (a := y15) (b := 1) rfl (by kernel_rfl) (by kernel_rfl))) ?_
            refine XL_cons rfl (X_of_Y0 rfl (Y0_pickTe (b := eqI (mxI x6 y10) size3) (p := eqI y15 1) rfl (by kernel_rfl) hc14 (by kernel_rfl) hb16)) ?_
            refine L0 rfl rfl (E_move (Bo b16) rfl (by kernel_rfl)) ?_
            refine XL_split b16 (fun hc17 => ?_) (fun hc17 => ?_)
            ·have hb20 := of_true hb20 hc17
             obtain ⟨y18, hy18, hb20⟩ := of_bind hb20
             obtain ⟨y19, hy19, hb20⟩ := of_bind hb20
             have hb20 := some_inj hb20
             refine XL_takeC _ rfl rfl (by kernel_rfl) hc17 (X_of_Y0 rfl (E_loadn (cs := [Ti g1.1, Ti g1.2.1, Ti g1.2.2]) [Ti g1.1, Ti g1.2.1, Ti g1.2.2] wd43 rfl (by kernel_rfl) (Nat.le_of_ble_eq_true rfl) (by kernel_rfl))) ?_
             refine XL_takeC _ rfl rfl (by kernel_rfl) hc17 (X_of_Y0 rfl (E_move (I x6) rfl (by kernel_rfl))) ?_
             refine XL_takeC _ rfl rfl (by kernel_rfl) hc17 (X_of_Y0 rfl (E_move (I y10) rfl (by kernel_rfl))) ?_
             refine XL_takeC _ rfl rfl (by kernel_rfl) hc17 (X_of_Y1 rfl (Y1_call (s_impl_Form_at hy18) cf_impl_Form_at rfl (by kernel_rfl))) ?_
             refine XL_takeC _ rfl rfl (by kernel_rfl) hc17 (X_of_Y0 rfl (E_move (I a2) rfl (by kernel_rfl))) ?_
             refine XL_takeC _ rfl rfl (by kernel_rfl) hc17 (X_of_Y1 rfl (Y1_call (s_impl_gcd hy19) cf_impl_gcd rfl (by kernel_rfl))) ?_
             refine XL_takeC _ rfl rfl (by kernel_rfl) hc17 (X_of_Y0 rfl (Y0_eqw (k := .i64) (a := y19) (b := 1) rfl (by kernel_rfl) (by kernel_rfl))) ?_
             refine XL_cons rfl (X_of_Y0 rfl (Y0_pickTe (b := b16) (p := eqI y19 1) rfl (by kernel_rfl) hc17 (by kernel_rfl) hb20)) ?_
             refine XL_nil ?_
             kernel_rfl
            ·have hb20 := some_inj (of_false hb20 hc17)
             refine XL_skipT _ rfl rfl (by kernel_rfl) hc17 rfl ?_
             refine XL_skipT _ rfl rfl (by kernel_rfl) hc17 rfl ?_
             refine XL_skipT _ rfl rfl (by kernel_rfl) hc17 rfl ?_
             refine XL_skipT _ rfl rfl (by kernel_rfl) hc17 rfl ?_
             refine XL_skipT _ rfl rfl (by kernel_rfl) hc17 rfl ?_
             refine XL_skipT _ rfl rfl (by kernel_rfl) hc17 rfl ?_
             refine XL_skipT _ rfl rfl (by kernel_rfl) hc17 rfl ?_
             refine XL_cons rfl (X_of_Y0 rfl (Y0_pickFe (b := b16) (p := false) rfl (by kernel_rfl) hc17 (by kernel_rfl) hb20)) ?_
             refine XL_nil ?_
             kernel_rfl
           ·have hb16 := some_inj (of_false hb16 hc14)
            refine XL_skipT _ rfl rfl (by kernel_rfl) hc14 rfl ?_
            refine XL_skipT _ rfl rfl (by kernel_rfl) hc14 rfl ?_
            refine XL_skipT _ rfl rfl (by kernel_rfl) hc14 rfl ?_
            refine XL_skipT _ rfl rfl (by kernel_rfl) hc14 rfl ?_
            refine XL_cons rfl (X_of_Y0 rfl (Y0_pickFe (b := eqI (mxI x6 y10) size3) (p := false) rfl (by kernel_rfl) hc14 (by kernel_rfl) hb16)) ?_
            refine L0 rfl rfl (E_move (Bo b16) rfl (by kernel_rfl)) ?_
            refine XL_split b16 (fun hc17 => ?_) (fun hc17 => ?_)
            ·have hb20 := of_true hb20 hc17
             obtain ⟨y18, hy18, hb20⟩ := of_bind hb20
             obtain ⟨y19, hy19, hb20⟩ := of_bind hb20
             have hb20 := some_inj hb20
             refine XL_takeC _ rfl rfl (by kernel_rfl) hc17 (X_of_Y0 rfl (E_loadn (cs := [Ti g1.1, Ti g1.2.1, Ti g1.2.2]) [Ti g1.1, Ti g1.2.1, Ti g1.2.2] wd43 rfl (by kernel_rfl) (Nat.le_of_ble_eq_true rfl) (by kernel_rfl))) ?_
             refine XL_takeC _ rfl rfl (by kernel_rfl) hc17 (X_of_Y0 rfl (E_move (I x6) rfl (by kernel_rfl))) ?_
             refine XL_takeC _ rfl rfl (by kernel_rfl) hc17 (X_of_Y0 rfl (E_move (I y10) rfl (by kernel_rfl))) ?_
             refine XL_takeC _ rfl rfl (by kernel_rfl) hc17 (X_of_Y1 rfl (Y1_call (s_impl_Form_at hy18) cf_impl_Form_at rfl (by kernel_rfl))) ?_
             refine XL_takeC _ rfl rfl (by kernel_rfl) hc17 (X_of_Y0 rfl (E_move (I a2) rfl (by kernel_rfl))) ?_
             refine XL_takeC _ rfl rfl (by kernel_rfl) hc17 (X_of_Y1 rfl (Y1_call (s_impl_gcd hy19) cf_impl_gcd rfl (by kernel_rfl))) ?_
             refine XL_takeC _ rfl rfl (by kernel_rfl) hc17 (X_of_Y0 rfl (Y0_eqw (k := .i64) (a := y19) (b := 1) rfl (by kernel_rfl) (by kernel_rfl))) ?_
             refine XL_cons rfl (X_of_Y0 rfl (Y0_pickTe (b := b16) (p := eqI y19 1) rfl (by kernel_rfl) hc17 (by kernel_rfl) hb20)) ?_
             refine XL_nil ?_
             kernel_rfl
            ·have hb20 := some_inj (of_false hb20 hc17)
             refine XL_skipT _ rfl rfl (by kernel_rfl) hc17 rfl ?_
             refine XL_skipT _ rfl rfl (by kernel_rfl) hc17 rfl ?_
             refine XL_skipT _ rfl rfl (by kernel_rfl) hc17 rfl ?_
             refine XL_skipT _ rfl rfl (by kernel_rfl) hc17 rfl ?_
             refine XL_skipT _ rfl rfl (by kernel_rfl) hc17 rfl ?_
             refine XL_skipT _ rfl rfl (by kernel_rfl) hc17 rfl ?_
             refine XL_skipT _ rfl rfl (by kernel_rfl) hc17 rfl ?_
             refine XL_cons rfl (X_of_Y0 rfl (Y0_pickFe (b := b16) (p := false) rfl (by kernel_rfl) hc17 (by kernel_rfl) hb20)) ?_
             refine XL_nil ?_
             kernel_rfl
          refine V_cond rfl (fun hc21 => ?_) (fun hc21 => ?_)
          ·have h := of_true h hc21
           refine V_sreg (mb 43 48) [] (s1 := ⟨bt 4 (I x6 :: I y10 :: bt 37 []), []⟩) ?_ ?_
           ·refine L0 rfl rfl (E_move (I x6) rfl (by kernel_rfl)) ?_
            refine L0 rfl rfl (E_move (I y10) rfl (by kernel_rfl)) ?_
            refine L0 rfl rfl (E_assign (I x6) rfl (by kernel_rfl)) ?_
            refine L0 rfl rfl (E_assign (I y10) rfl (by kernel_rfl)) ?_
            refine XL_nil ?_
            kernel_rfl
           refine V_ret ?_
           obtain rfl := some_inj h
           have h := hko12
           obtain rfl := some_inj h
           have h := hko8
           obtain rfl := some_inj h
           have h := hko5
           obtain rfl := some_inj h
           show Post _ _ _ _ _
           exact ⟨.inr rfl, rfl, rfl, rfl⟩
          ·have h := of_false h hc21
           refine V_skip ?_
           show V _ _ _ _
           obtain ⟨y22, hy22, h⟩ := of_sI h
           refine V_reg (mb 43 454) [16] (s1 := ⟨.bot :: I a2 :: .pt 16 0 :: bt 3 (I size3 :: I x6 :: I y22 :: bt 34 []), [(16, .box [Ti g1.1, Ti g1.2.1, Ti g1.2.2])]⟩) ?_ ?_
           ·refine L0 rfl rfl (E_move (I y10) rfl (by kernel_rfl)) ?_
            refine L0 rfl rfl (Y0_add64 (a := y10) (b := 1) rfl (by kernel_rfl) (by kernel_rfl)) ?_
            refine L0 rfl rfl (E_assign (I (w64 (y10 + 1))) rfl (by kernel_rfl)) ?_
            refine XL_nil ?_
            subst hy22
            kernel_rfl
           exact ⟨n, Nat.lt_succ_self n, _,  by rfl, h⟩
         ·have h := of_false h hc13
          refine V_exit ?_
          obtain rfl := some_inj h
          exact ⟨_, rfl, by rfl⟩
       rintro o12 rfl
       have h := hko12
       clear hko12
       show V _ _ _ _
       obtain ⟨x23, hx23, h⟩ := of_sI h
       refine V_reg (mb 43 198) [16] (s1 := ⟨.bot :: I a2 :: .pt 16 0 :: bt 3 (I size3 :: I x23 :: bt 35 []), [(16, .box [Ti g1.1, Ti g1.2.1, Ti g1.2.2])]⟩) ?_ ?_
       ·refine L0 rfl rfl (E_move (I x6) rfl (by kernel_rfl)) ?_
        refine L0 rfl rfl (Y0_add64 (a := x6) (b := 1) rfl (by kernel_rfl) (by kernel_rfl)) ?_
        refine L0 rfl rfl (E_assign (I (w64 (x6 + 1))) rfl (by kernel_rfl)) ?_
        refine XL_nil ?_
        subst hx23
        kernel_rfl
       exact ⟨n, Nat.lt_succ_self n, _,  by rfl, h⟩
      ·have h := of_false h hc9
       refine V_exit ?_
       obtain rfl := some_inj h
       exact ⟨_, rfl, by rfl⟩
    rintro o8 rfl
    have h := hko8
    clear hko8
    show V _ _ _ _
    obtain ⟨size24, hsize24, h⟩ := of_sI h
    refine V_reg (mb 43 70) [16] (s1 := ⟨.bot :: I a2 :: .pt 16 0 :: bt 3 (I size24 :: bt 36 []), [(16, .box [Ti g1.1, Ti g1.2.1, Ti g1.2.2])]⟩) ?_ ?_
    ·refine L0 rfl rfl (E_move (I size3) rfl (by kernel_rfl)) ?_
     refine L0 rfl rfl (Y0_add64 (a := size3) (b := 1) rfl (by kernel_rfl) (by kernel_rfl)) ?_
     refine L0 rfl rfl (E_assign (I (w64 (size3 + 1))) rfl (by kernel_rfl)) ?_
     refine XL_nil ?_
     subst hsize24
     kernel_rfl
    exact ⟨n, Nat.lt_succ_self n, _,  by rfl, h⟩
  rintro o5 rfl
  cases hko5
theorem cf_impl_factors : ∀ args w, (callFunc 139 args).run Try.prog w = .ok (.enter 139 args) w := run_callFunc Try.func139 (by kernel_rfl) (by kernel_rfl)
set_option maxRecDepth 100000 in
set_option maxHeartbeats 400000 in
theorem s_impl_factors {vn1 : Int} {r : List Int} (h : r_impl_factors vn1 = some r) : CallS Try.prog 139 [I vn1] (.ow 0) [(0, .arr 3 1 (r.map c3))] := by
  refine CallS_of_text (rs := [.t 2]) (vs := [.tmp 2]) Try.func139 rfl rfl (.cons rfl FitsL.nil) (by decide) 31 rfl ?_
  unfold r_impl_factors at h
  show V _ _ ⟨I vn1 :: bt 30 [], []⟩ _
  refine V_sreg (mb 31 1) [] (s1 := ⟨I vn1 :: bt 30 [], []⟩) ?_ ?_
  ·refine L1 rfl rfl (Y1_nil (e := 3) 1 (by decide) (.inl rfl)) ?_
   refine XL_nil ?_
   kernel_rfl
  refine V_sreg (mb 31 9) [40] (s1 := ⟨I vn1 :: .bot :: .bot :: .ow 40 :: bt 27 [], [(40, .arr 3 1 ((([] : List Int)).map c3))]⟩) ?_ ?_
  ·refine L1 rfl rfl (Y1_bslice0 Try.underlying28 sz3 (by decide) rfl rfl) ?_
   refine L0 rfl rfl (E_assign (.ow 40) rfl (by kernel_rfl)) ?_
   refine XL_nil ?_
   kernel_rfl
  refine V_seq ?_
  refine V_sreg (mb 31 25) [40] (s1 := ⟨I vn1 :: .bot :: .bot :: .ow 40 :: I 2 :: bt 26 [], [(40, .arr 3 1 ((([] : List Int)).map c3))]⟩) ?_ ?_
  ·refine L0 rfl rfl (E_assign (I 2) rfl (by kernel_rfl)) ?_
   refine XL_nil ?_
   kernel_rfl
  obtain ⟨o6, hLo6, h⟩ := of_bind h
  refine V_toK (mb 31 9) [40] (s1 := ⟨I o6.1 :: .bot :: .bot :: .ow 40 :: bt 27 [], [(40, .arr 3 1 (o6.2.map c3))]⟩) ?_ ?_
  ·clear h
   refine V_block (V_loop (fun n s => ∃ (vn2 : Int) (p3 : Int) (l4 : List Int), s.keep (mb 31 25) [40] = (⟨I vn2 :: .bot :: .bot :: .ow 40 :: I p3 :: bt 26 [], [(40, .arr 3 1 (l4.map c3))]⟩ : St) ∧ r_impl_factors_L5 n vn2 p3 l4 = some o6) FU ⟨_, _, _,  by rfl, hLo6⟩ ?_)
   clear hLo6
   rintro n s ⟨vn2, p3, l4, hs, h⟩
   refine V_keep _ _ hs ?_
   clear hs
   cases n with
   | zero => cases h
   | succ n =>
    rw [r_impl_factors_L5] at h
    refine V_seq ?_
    refine V_sreg (mb 31 1049) [40] (s1 := ⟨I vn2 :: .bot :: .bot :: .ow 40 :: I p3 :: bt 5 (Bo (leI (w64 (p3 * p3)) vn2) :: bt 20 []), [(40, .arr 3 1 (l4.map c3))]⟩) ?_ ?_
    ·refine L0 rfl rfl (E_move (I p3) rfl (by kernel_rfl)) ?_
     refine L0 rfl rfl (E_move (I p3) rfl (by kernel_rfl)) ?_
     refine L0 rfl rfl (Y0_mul64 (a := p3) (b := p3) rfl (by kernel_rfl) (by kernel_rfl)) ?_
     refine L0 rfl rfl (E_move (I vn2) rfl (by kernel_rfl)) ?_
     refine L0 rfl rfl (Y0_lew (k := .i64) (a := w64 (p3 * p3)) (b := vn2) rfl (by kernel_rfl) (by kernel_rfl)) ?_
     refine XL_nil ?_
     kernel_rfl
    refine V_cond rfl (fun hc7 => ?_) (fun hc7 => ?_)
    ·have h := of_true h hc7
     refine V_skip ?_
     show V _ _ _ _
     refine V_seq ?_
     refine V_block ?_
     obtain ⟨o11, hLo11, h⟩ := of_bind h
     refine V_toK (mb 31 25) [40] (s1 := ⟨I o11.1 :: .bot :: .bot :: .ow 40 :: I p3 :: bt 26 [], [(40, .arr 3 1 (o11.2.map c3))]⟩) ?_ ?_
     ·clear h
      refine V_block (V_loop (fun n s => ∃ (vn8 : Int) (l9 : List Int), s.keep (mb 31 25) [40] = (⟨I vn8 :: .bot :: .bot :: .ow 40 :: I p3 :: bt 26 [], [(40, .arr 3 1 (l9.map c3))]⟩ : St) ∧ r_impl_factors_L10 p3 n vn8 l9 = some o11) FU ⟨_, _,  by rfl, hLo11⟩ ?_)
      clear hLo11
      rintro n s ⟨vn8, l9, hs, h⟩
      refine V_keep _ _ hs ?_
      clear hs
      cases n with
      | zero => cases h
      | succ n =>
       rw [r_impl_factors_L10] at h
       refine V_seq ?_
       obtain ⟨z12, hz12, h⟩ := of_bind h
       refine V_sreg (mb 31 65561) [40] (s1 := ⟨I vn8 :: .bot :: .bot :: .ow 40 :: I p3 :: bt 11 (Bo (eqI (Int.tmod vn8 p3) 0) :: bt 14 []), [(40, .arr 3 1 (l9.map c3))]⟩) ?_ ?_
       ·refine L0 rfl rfl (E_move (I vn8) rfl (by kernel_rfl)) ?_
        refine L0 rfl rfl (E_move (I p3) rfl (by kernel_rfl)) ?_
        refine L0 rfl rfl (Y0_rem (k := .i64) (a := vn8) (b := p3) rfl (by kernel_rfl) (by kernel_rfl) (nz_some hz12)) ?_
        refine L0 rfl rfl (Y0_eqw (k := .i64) (a := Int.tmod vn8 p3) (b := 0) rfl (by kernel_rfl) (by kernel_rfl)) ?_
        refine XL_nil ?_
        kernel_rfl
       refine V_cond rfl (fun hc13 => ?_) (fun hc13 => ?_)
       ·have h := of_true h hc13
        refine V_skip ?_
        show V _ _ _ _
        refine V_block ?_
        obtain ⟨u14, hu14, h⟩ := of_bind h
        refine V_sreg (mb 31 25) [40] (s1 := ⟨I vn8 :: .bot :: .bot :: .ow 40 :: I p3 :: bt 26 [], [(40, .arr 3 1 ((l9 ++ ([p3])).map c3))]⟩) ?_ ?_
        ·refine L0 rfl rfl (E_move (.ow 40) rfl (by kernel_rfl)) ?_
         refine L0 rfl rfl (E_move (I p3) rfl (by kernel_rfl)) ?_
         refine L1 rfl rfl (Y1_bslice (z := zv3) (els := [p3].map c3) Try.underlying28 iz3 rfl (by decide) rfl (by kernel_rfl) rfl (by simp [c3]) (by decide) (by decide)) ?_
         refine XL_cons rfl (X_appendM (c := c3) (xs := l9) (ys := [p3]) (id := 40) (z := zv3) rfl rfl Try.underlying28 izb3 rfl (by kernel_rfl) (by kernel_rfl) (by kernel_rfl) (fun _ => rfl) (by simp) (room_some hu14) (by decide)) ?_
         refine L0 rfl rfl (E_assign (.ow 40) rfl (by kernel_rfl)) ?_
         refine XL_nil ?_
         kernel_rfl
        obtain ⟨z15, hz15, h⟩ := of_bind h
        obtain ⟨vn16, hvn16, h⟩ := of_sI h
        refine V_reg (mb 31 25) [40] (s1 := ⟨I vn16 :: .bot :: .bot :: .ow 40 :: I p3 :: bt 26 [], [(40, .arr 3 1 ((l9 ++ ([p3])).map c3))]⟩) ?_ ?_
        ·refine L0 rfl rfl (E_move (I vn8) rfl (by kernel_rfl)) ?_
         refine L0 rfl rfl (E_move (I p3) rfl (by kernel_rfl)) ?_
         refine L0 rfl rfl (Y0_quo64 (a := vn8) (b := p3) rfl (by kernel_rfl) (by kernel_rfl) (nz_some hz15)) ?_
         refine L0 rfl rfl (E_assign (I (w64 (Int.tdiv vn8 p3))) rfl (by kernel_rfl)) ?_
         refine XL_nil ?_
         subst hvn16
         kernel_rfl
        exact ⟨n, Nat.lt_succ_self n, _, _,  by rfl, h⟩
       ·have h := of_false h hc13
        refine V_exit ?_
        obtain rfl := some_inj h
        show St.keep _ _ _ = _
        rfl
     show V _ _ _ _
     obtain ⟨p17, hp17, h⟩ := of_sI h
     refine V_reg (mb 31 25) [40] (s1 := ⟨I o11.1 :: .bot :: .bot :: .ow 40 :: I p17 :: bt 26 [], [(40, .arr 3 1 (o11.2.map c3))]⟩) ?_ ?_
     ·refine L0 rfl rfl (E_move (I p3) rfl (by kernel_rfl)) ?_
      refine L0 rfl rfl (Y0_add64 (a := p3) (b := 1) rfl (by kernel_rfl) (by kernel_rfl)) ?_
      refine L0 rfl rfl (E_assign (I (w64 (p3 + 1))) rfl (by kernel_rfl)) ?_
      refine XL_nil ?_
      subst hp17
      kernel_rfl
     exact ⟨n, Nat.lt_succ_self n, _, _, _,  by rfl, h⟩
    ·have h := of_false h hc7
     refine V_exit ?_
     obtain rfl := some_inj h
     show St.keep _ _ _ = _
     rfl
  show V _ _ _ _
  refine V_seq ?_
  refine V_sreg (mb 31 33554441) [40] (s1 := ⟨I o6.1 :: .bot :: .bot :: .ow 40 :: bt 21 (Bo (ltI 1 o6.1) :: bt 5 []), [(40, .arr 3 1 (o6.2.map c3))]⟩) ?_ ?_
  ·refine L0 rfl rfl (E_move (I o6.1) rfl (by kernel_rfl)) ?_
   refine L0 rfl rfl (Y0_gtw (k := .i64) (a := o6.1) (b := 1) rfl (by kernel_rfl) (by kernel_rfl)) ?_
   refine XL_nil ?_
   kernel_rfl
  refine V_cond rfl (fun hc18 => ?_) (fun hc18 => ?_)
  ·have h := of_true h hc18
   obtain ⟨u19, hu19, h⟩ := of_bind h
   refine V_reg (mb 31 8) [40] (s1 := ⟨bt 3 (.ow 40 :: bt 27 []), [(40, .arr 3 1 ((o6.2 ++ ([o6.1])).map c3))]⟩) ?_ ?_
   ·refine L0 rfl rfl (E_move (.ow 40) rfl (by kernel_rfl)) ?_
    refine L0 rfl rfl (E_move (I o6.1) rfl (by kernel_rfl)) ?_
    refine L1 rfl rfl (Y1_bslice (z := zv3) (els := [o6.1].map c3) Try.underlying28 iz3 rfl (by decide) rfl (by kernel_rfl) rfl (by simp [c3]) (by decide) (by decide)) ?_
    refine XL_cons rfl (X_appendM (c := c3) (xs := o6.2) (ys := [o6.1]) (id := 40) (z := zv3) rfl rfl Try.underlying28 izb3 rfl (by kernel_rfl) (by kernel_rfl) (by kernel_rfl) (fun _ => rfl) (by simp) (room_some hu19) (by decide)) ?_
    refine L0 rfl rfl (E_assign (.ow 40) rfl (by kernel_rfl)) ?_
    refine XL_nil ?_
    kernel_rfl
   show V _ _ _ _
   refine V_sreg (mb 31 4) [40] (s1 := ⟨.bot :: .bot :: .ow 40 :: bt 28 [], [(40, .arr 3 1 ((o6.2 ++ ([o6.1])).map c3))]⟩) ?_ ?_
   ·refine L0 rfl rfl (E_move (.ow 40) rfl (by kernel_rfl)) ?_
    refine L0 rfl rfl (E_assign (.ow 40) rfl (by kernel_rfl)) ?_
    refine XL_nil ?_
    kernel_rfl
   refine V_ret ?_
   obtain rfl := some_inj h
   show Post _ _ _ _ _
   exact ⟨.inr rfl, rfl, rfl, rfl⟩
  ·have h := of_false h hc18
   refine V_skip ?_
   show V _ _ _ _
   refine V_sreg (mb 31 4) [40] (s1 := ⟨.bot :: .bot :: .ow 40 :: bt 28 [], [(40, .arr 3 1 (o6.2.map c3))]⟩) ?_ ?_
   ·refine L0 rfl rfl (E_move (.ow 40) rfl (by kernel_rfl)) ?_
    refine L0 rfl rfl (E_assign (.ow 40) rfl (by kernel_rfl)) ?_
    refine XL_nil ?_
    kernel_rfl
   refine V_ret ?_
   obtain rfl := some_inj h
   show Post _ _ _ _ _
   exact ⟨.inr rfl, rfl, rfl, rfl⟩
theorem cf_impl_primesOf : ∀ args w, (callFunc 130 args).run Try.prog w = .ok (.enter 130 args) w := run_callFunc Try.func130 (by kernel_rfl) (by kernel_rfl)
set_option maxRecDepth 100000 in
set_option maxHeartbeats 400000 in
theorem s_impl_primesOf {vn1 : Int} {r : List Int} (h : r_impl_primesOf vn1 = some r) : CallS Try.prog 130 [I vn1] (.ow 0) [(0, .arr 3 1 (r.map c3))] := by
  refine CallS_of_text (rs := [.t 2]) (vs := [.tmp 2]) Try.func130 rfl rfl (.cons rfl FitsL.nil) (by decide) 33 rfl ?_
  unfold r_impl_primesOf at h
  show V _ _ ⟨I vn1 :: bt 32 [], []⟩ _
  refine V_sreg (mb 33 1) [] (s1 := ⟨I vn1 :: bt 32 [], []⟩) ?_ ?_
  ·refine L1 rfl rfl (Y1_nil (e := 3) 1 (by decide) (.inl rfl)) ?_
   refine XL_nil ?_
   kernel_rfl
  refine V_sreg (mb 33 9) [48] (s1 := ⟨I vn1 :: .bot :: .bot :: .ow 48 :: bt 29 [], [(48, .arr 3 1 ((([] : List Int)).map c3))]⟩) ?_ ?_
  ·refine L1 rfl rfl (Y1_bslice0 Try.underlying28 sz3 (by decide) rfl rfl) ?_
   refine L0 rfl rfl (E_assign (.ow 48) rfl (by kernel_rfl)) ?_
   refine XL_nil ?_
   kernel_rfl
  refine V_seq ?_
  obtain ⟨y2, hy2, h⟩ := of_bind h
  refine V_sreg (mb 33 1800) [64, 48] (s1 := ⟨bt 3 (.ow 48 :: bt 4 (.ow 64 :: I ((y2.length : Int)) :: I 0 :: bt 22 [])), [(64, .arr 3 1 (y2.map c3)), (48, .arr 3 1 ((([] : List Int)).map c3))]⟩) ?_ ?_
  ·refine L0 rfl rfl (E_move (I vn1) rfl (by kernel_rfl)) ?_
   refine L1 rfl rfl (Y1_call (s_impl_factors hy2) cf_impl_factors rfl (by kernel_rfl)) ?_
   refine L0 rfl rfl (Y0_lenM (c := c3) (xs := y2) Try.underlying28 rfl (by kernel_rfl)) ?_
   refine L0 rfl rfl (E_move (I 0) rfl (by kernel_rfl)) ?_
   refine XL_nil ?_
   kernel_rfl
  obtain ⟨o6, hLo6, h⟩ := of_bind h
  refine V_toK (mb 33 8) [48] (s1 := ⟨bt 3 (.ow 48 :: bt 29 []), [(48, .arr 3 1 (o6.map c3))]⟩) ?_ ?_
  ·clear h
   refine V_block (V_loop (fun n s => ∃ (t3 : Int) (l4 : List Int), s.keep (mb 33 1800) [64, 48] = (⟨bt 3 (.ow 48 :: bt 4 (.ow 64 :: I ((y2.length : Int)) :: I t3 :: bt 22 [])), [(64, .arr 3 1 (y2.map c3)), (48, .arr 3 1 (l4.map c3))]⟩ : St) ∧ r_impl_primesOf_L5 y2 n t3 l4 = some o6) FU ⟨_, _,  by rfl, hLo6⟩ ?_)
   clear hLo6
   rintro n s ⟨t3, l4, hs, h⟩
   refine V_keep _ _ hs ?_
   clear hs
   cases n with
   | zero => cases h
   | succ n =>
    rw [r_impl_primesOf_L5] at h
    refine V_sreg (mb 33 3848) [64, 48] (s1 := ⟨bt 3 (.ow 48 :: bt 4 (.ow 64 :: I ((y2.length : Int)) :: I t3 :: Bo (ltI t3 ((y2.length : Int))) :: bt 21 [])), [(64, .arr 3 1 (y2.map c3)), (48, .arr 3 1 (l4.map c3))]⟩) ?_ ?_
    ·refine L0 rfl rfl (Y0_ltw (k := .i64) (a := t3) (b := (y2.length : Int)) rfl (by kernel_rfl) (by kernel_rfl)) ?_
     refine XL_nil ?_
     kernel_rfl
    refine V_seq ?_
    refine V_cond rfl (fun hc7 => ?_) (fun hc7 => ?_)
    ·have h := of_true h hc7
     refine V_skip ?_
     show V _ _ _ _
     refine V_seq ?_
     refine V_block ?_
     obtain ⟨e8, he8, h⟩ := of_bind h
     obtain ⟨e9, he9, h⟩ := of_bind h
     refine V_sreg (mb 33 1832) [64, 48] (s1 := ⟨bt 3 (.ow 48 :: .bot :: I e9 :: .bot :: .bot :: .ow 64 :: I ((y2.length : Int)) :: I t3 :: bt 22 []), [(64, .arr 3 1 (y2.map c3)), (48, .arr 3 1 (l4.map c3))]⟩) ?_ ?_
     ·refine L0 rfl rfl (Y0_idxoM (c := c3) (xs := y2) (v := e8) (id := 64) (T := 3) (sz := 1) (n := t3) Try.underlying28 sz3 rfl (by kernel_rfl) (by kernel_rfl) (by kernel_rfl) he8) ?_
      refine L0 rfl rfl (Y0_loado1 (c := c3) (xs := y2) (v := e9) (id := 64) (sz := 1) (T := 3) (off := 0) (n := t3) (d := Ti e9) (ds := []) sc3 rfl (by kernel_rfl) (by kernel_rfl) he9 (by kernel_rfl)) ?_
      refine L0 rfl rfl (E_assign (I e9) rfl (by kernel_rfl)) ?_
      refine XL_nil ?_
      kernel_rfl
     obtain ⟨b13, hb13, h⟩ := of_bind h
     refine V_sreg (mb 33 67110696) [64, 48] (s1 := ⟨bt 3 (.ow 48 :: .bot :: I e9 :: .bot :: .bot :: .ow 64 :: I ((y2.length : Int)) :: I t3 :: bt 15 (Bo b13 :: bt 6 [])), [(64, .arr 3 1 (y2.map c3)), (48, .arr 3 1 (l4.map c3))]⟩) ?_ ?_
     ·refine L0 rfl rfl (E_move (.ow 48) rfl (by kernel_rfl)) ?_
      refine L0 rfl rfl (Y0_lenM (c := c3) (xs := l4) Try.underlying28 rfl (by kernel_rfl)) ?_
      refine L0 rfl rfl (Y0_eqw (k := .i64) (a := (l4.length : Int)) (b := 0) rfl (by kernel_rfl) (by kernel_rfl)) ?_
      refine L0 rfl rfl (E_move (Bo (eqI ((l4.length : Int)) 0)) rfl (by kernel_rfl)) ?_
      refine XL_split (eqI ((l4.length : Int)) 0) (fun hc10 => ?_) (fun hc10 => ?_)
      ·have hb13 := some_inj (of_true hb13 hc10)
       refine XL_skipF _ rfl rfl (by kernel_rfl) hc10 rfl ?_
       refine XL_skipF _ rfl rfl (by kernel_rfl) hc10 rfl ?_
       refine XL_skipF _ rfl rfl (by kernel_rfl) hc10 rfl ?_
       refine XL_skipF _ rfl rfl (by kernel_rfl) hc10 rfl ?_
       refine XL_skipF _ rfl rfl (by kernel_rfl) hc10 rfl ?_
       refine XL_skipF _ rfl rfl (by kernel_rfl) hc10 rfl ?_
       refine XL_skipF _ rfl rfl (by kernel_rfl) hc10 rfl ?_
       refine XL_skipF _ rfl rfl (by kernel_rfl) hc10 rfl ?_
       refine XL_cons rfl (X_of_Y0 rfl (Y0_pickTe (b := eqI ((l4.length : Int)) 0) (p := true) rfl (by kernel_rfl) hc10 (by kernel_rfl) hb13)) ?_
       refine XL_nil ?_
       kernel_rfl
      ·have hb13 := of_false hb13 hc10
       obtain ⟨e11, he11, hb13⟩ := of_bind hb13
       obtain ⟨e12, he12, hb13⟩ := of_bind hb13
       have hb13 := some_inj hb13
       refine XL_takeC _ rfl rfl (by kernel_rfl) hc10 (X_of_Y0 rfl (E_move (.ow 48) rfl (by kernel_rfl))) ?_
       refine XL_takeC _ rfl rfl (by kernel_rfl) hc10 (X_of_Y0 rfl (E_move (.ow 48) rfl (by kernel_rfl))) ?_
       refine XL_takeC _ rfl rfl (by kernel_rfl) hc10 (X_of_Y0 rfl (Y0_lenM (c := c3) (xs := l4) Try.underlying28 rfl (by kernel_rfl))) ?_
       refine XL_takeC _ rfl rfl (by kernel_rfl) hc10 (X_of_Y0 rfl (Y0_sub64 (a := (l4.length : Int)) (b := 1) rfl (by kernel_rfl) (by kernel_rfl))) ?_
       refine XL_takeC _ rfl rfl (by kernel_rfl) hc10 (X_of_Y0 rfl (Y0_idxoM (c := c3) (xs := l4) (v := e11) (id := 48) (T := 3) (sz := 1) (n := w64 (((l4.length : Int)) - 1)) Try.underlying28 sz3 rfl (by kernel_rfl) (by kernel_rfl) (by kernel_rfl) he11)) ?_
       refine XL_takeC _ rfl rfl (by kernel_rfl) hc10 (X_of_Y0 rfl (Y0_loado1 (c := c3) (xs := l4) (v := e12) (id := 48) (sz := 1) (T := 3) (off := 0) (n := w64 (((l4.length : Int)) - 1)) (d := Ti e12) (ds := []) sc3 rfl (by kernel_rfl) (by kernel_rfl) he12 (by kernel_rfl))) ?_
       refine XL_takeC _ rfl rfl (by kernel_rfl) hc10 (X_of_Y0 rfl (E_move (I e9) rfl (by kernel_rfl))) ?_
       refine XL_takeC _ rfl rfl (by kernel_rfl) hc10 (X_of_Y0 rfl (Y0_new (k := .i64) (a := e12) (b := e9) rfl (by kernel_rfl) (by kernel_rfl))) ?_
       refine XL_cons rfl (X_of_Y0 rfl (Y0_pickFe (b := eqI ((l4.length : Int)) 0) (p := !eqI e12 e9) rfl (by kernel_rfl) hc10 (by kernel_rfl) hb13)) ?_
       refine XL_nil ?_
       kernel_rfl
     refine V_cond rfl (fun hc14 => ?_) (fun hc14 => ?_)
     ·have h := of_true h hc14
      obtain ⟨u15, hu15, h⟩ := of_bind h
      refine V_reg (mb 33 1800) [64, 48] (s1 := ⟨bt 3 (.ow 48 :: bt 4 (.ow 64 :: I ((y2.length : Int)) :: I t3 :: bt 22 [])), [(64, .arr 3 1 (y2.map c3)), (48, .arr 3 1 ((l4 ++ ([e9])).map c3))]⟩) ?_ ?_
      ·refine L0 rfl rfl (E_move (.ow 48) rfl (by kernel_rfl)) ?_
       refine L0 rfl rfl (E_move (I e9) rfl (by kernel_rfl)) ?_
       refine L1 rfl rfl (Y1_bslice (z := zv3) (els := [e9].map c3) Try.underlying28 iz3 rfl (by decide) rfl (by kernel_rfl) rfl (by simp [c3]) (by decide) (by decide)) ?_
       refine XL_cons rfl (X_appendM (c := c3) (xs := l4) (ys := [e9]) (id := 48) (z := zv3) rfl rfl Try.underlying28 izb3 rfl (by kernel_rfl) (by kernel_rfl) (by kernel_rfl) (fun _ => rfl) (by simp) (room_some hu15) (by decide)) ?_
       refine L0 rfl rfl (E_assign (.ow 48) rfl (by kernel_rfl)) ?_
       refine XL_nil ?_
       kernel_rfl
      show V _ _ _ _
      obtain ⟨t16, ht16, h⟩ := of_sI h
      refine V_reg (mb 33 1800) [64, 48] (s1 := ⟨bt 3 (.ow 48 :: bt 4 (.ow 64 :: I ((y2.length : Int)) :: I t16 :: bt 22 [])), [(64, .arr 3 1 (y2.map c3)), (48, .arr 3 1 ((l4 ++ ([e9])).map c3))]⟩) ?_ ?_
      ·refine L0 rfl rfl (Y0_add64 (a := t3) (b := 1) rfl (by kernel_rfl) (by kernel_rfl)) ?_
       refine L0 rfl rfl (E_move (I (w64 (t3 + 1))) rfl (by kernel_rfl)) ?_
       refine XL_nil ?_
       subst ht16
       kernel_rfl
      exact ⟨n, Nat.lt_succ_self n, _, _,  by rfl, h⟩
     ·have h := of_false h hc14
      refine V_skip ?_
      show V _ _ _ _
      obtain ⟨t17, ht17, h⟩ := of_sI h
      refine V_reg (mb 33 1800) [64, 48] (s1 := ⟨bt 3 (.ow 48 :: bt 4 (.ow 64 :: I ((y2.length : Int)) :: I t17 :: bt 22 [])), [(64, .arr 3 1 (y2.map c3)), (48, .arr 3 1 (l4.map c3))]⟩) ?_ ?_
      ·refine L0 rfl rfl (Y0_add64 (a := t3) (b := 1) rfl (by kernel_rfl) (by kernel_rfl)) ?_
       refine L0 rfl rfl (E_move (I (w64 (t3 + 1))) rfl (by kernel_rfl)) ?_
       refine XL_nil ?_
       subst ht17
       kernel_rfl
      exact ⟨n, Nat.lt_succ_self n, _, _,  by rfl, h⟩
    ·have h := of_false h hc7
     refine V_exit ?_
     obtain rfl := some_inj h
     show St.keep _ _ _ = _
     rfl
  show V _ _ _ _
  refine V_sreg (mb 33 4) [48] (s1 := ⟨.bot :: .bot :: .ow 48 :: bt 30 [], [(48, .arr 3 1 (o6.map c3))]⟩) ?_ ?_
  ·refine L0 rfl rfl (E_move (.ow 48) rfl (by kernel_rfl)) ?_
   refine L0 rfl rfl (E_assign (.ow 48) rfl (by kernel_rfl)) ?_
   refine XL_nil ?_
   kernel_rfl
  refine V_ret ?_
  obtain rfl := some_inj h
  show Post _ _ _ _ _
  exact ⟨.inr rfl, rfl, rfl, rfl⟩
theorem cf_impl_assigned : ∀ args w, (callFunc 108 args).run Try.prog w = .ok (.enter 108 args) w := run_callFunc Try.func108 (by kernel_rfl) (by kernel_rfl)
set_option maxRecDepth 100000 in
set_option maxHeartbeats 400000 in
theorem s_impl_assigned {d1 : Int} {r : List ((Int × Int))} (h : r_impl_assigned d1 = some r) : CallS Try.prog 108 [I d1] (.ow 0) [(0, .arr 94 2 (r.map c94))] := by
  refine CallS_of_text (rs := [.t 2]) (vs := [.tmp 2]) Try.func108 rfl rfl (.cons rfl FitsL.nil) (by decide) 67 rfl ?_
  unfold r_impl_assigned at h
  show V _ _ ⟨I d1 :: bt 66 [], []⟩ _
  refine V_sreg (mb 67 1) [] (s1 := ⟨I d1 :: bt 66 [], []⟩) ?_ ?_
  ·refine L1 rfl rfl (Y1_nil (e := 94) 2 (by decide) (.inl rfl)) ?_
   refine XL_nil ?_
   kernel_rfl
  refine V_sreg (mb 67 9) [80] (s1 := ⟨I d1 :: .bot :: .bot :: .ow 80 :: bt 63 [], [(80, .arr 94 2 ((([] : List ((Int × Int)))).map c94))]⟩) ?_ ?_
  ·refine L1 rfl rfl (Y1_bslice0 Try.underlying91 sz94 (by decide) rfl rfl) ?_
   refine L0 rfl rfl (E_assign (.ow 80) rfl (by kernel_rfl)) ?_
   refine XL_nil ?_
   kernel_rfl
  refine V_seq ?_
  obtain ⟨y2, hy2, h⟩ := of_bind h
  refine V_sreg (mb 67 57353) [104, 80] (s1 := ⟨I d1 :: .bot :: .bot :: .ow 80 :: bt 9 (.ow 104 :: I ((y2.length : Int)) :: I 0 :: bt 51 []), [(104, .arr 3 1 (y2.map c3)), (80, .arr 94 2 ((([] : List ((Int × Int)))).map c94))]⟩) ?_ ?_
  ·refine L0 rfl rfl (E_move (I d1) rfl (by kernel_rfl)) ?_
   refine L0 rfl rfl (Y0_neg64 (a := d1) rfl (by kernel_rfl)) ?_
   refine L1 rfl rfl (Y1_call (s_impl_primesOf hy2) cf_impl_primesOf rfl (by kernel_rfl)) ?_
   refine L0 rfl rfl (Y0_lenM (c := c3) (xs := y2) Try.underlying28 rfl (by kernel_rfl)) ?_
   refine L0 rfl rfl (E_move (I 0) rfl (by kernel_rfl)) ?_
   refine XL_nil ?_
   kernel_rfl
  obtain ⟨o6, hLo6, h⟩ := of_bind h
  refine V_toK (mb 67 9) [80] (s1 := ⟨I d1 :: .bot :: .bot :: .ow 80 :: bt 63 [], [(80, .arr 94 2 (o6.map c94))]⟩) ?_ ?_
  ·clear h
   refine V_block (V_loop (fun n s => ∃ (t3 : Int) (l4 : List ((Int × Int))), s.keep (mb 67 57353) [104, 80] = (⟨I d1 :: .bot :: .bot :: .ow 80 :: bt 9 (.ow 104 :: I ((y2.length : Int)) :: I t3 :: bt 51 []), [(104, .arr 3 1 (y2.map c3)), (80, .arr 94 2 (l4.map c94))]⟩ : St) ∧ r_impl_assigned_L5 d1 y2 n t3 l4 = some o6) FU ⟨_, _,  by rfl, hLo6⟩ ?_)
   clear hLo6
   rintro n s ⟨t3, l4, hs, h⟩
   refine V_keep _ _ hs ?_
   clear hs
   cases n with
   | zero => cases h
   | succ n =>
    rw [r_impl_assigned_L5] at h
    refine V_sreg (mb 67 122889) [104, 80] (s1 := ⟨I d1 :: .bot :: .bot :: .ow 80 :: bt 9 (.ow 104 :: I ((y2.length : Int)) :: I t3 :: Bo (ltI t3 ((y2.length : Int))) :: bt 50 []), [(104, .arr 3 1 (y2.map c3)), (80, .arr 94 2 (l4.map c94))]⟩) ?_ ?_
    ·refine L0 rfl rfl (Y0_ltw (k := .i64) (a := t3) (b := (y2.length : Int)) rfl (by kernel_rfl) (by kernel_rfl)) ?_
     refine XL_nil ?_
     kernel_rfl
    refine V_seq ?_
    refine V_cond rfl (fun hc7 => ?_) (fun hc7 => ?_)
    ·have h := of_true h hc7
     refine V_skip ?_
     show V _ _ _ _
     refine V_seq ?_
     refine V_block ?_
     obtain ⟨e8, he8, h⟩ := of_bind h
     obtain ⟨e9, he9, h⟩ := of_bind h
     refine V_sreg (mb 67 57385) [104, 80] (s1 := ⟨I d1 :: .bot :: .bot :: .ow 80 :: .bot :: I e9 :: bt 7 (.ow 104 :: I ((y2.length : Int)) :: I t3 :: bt 51 []), [(104, .arr 3 1 (y2.map c3)), (80, .arr 94 2 (l4.map c94))]⟩) ?_ ?_
     ·refine L0 rfl rfl (Y0_idxoM (c := c3) (xs := y2) (v := e8) (id := 104) (T := 3) (sz := 1) (n := t3) Try.underlying28 sz3 rfl (by kernel_rfl) (by kernel_rfl) (by kernel_rfl) he8) ?_
      refine L0 rfl rfl (Y0_loado1 (c := c3) (xs := y2) (v := e9) (id := 104) (sz := 1) (T := 3) (off := 0) (n := t3) (d := Ti e9) (ds := []) sc3 rfl (by kernel_rfl) (by kernel_rfl) he9 (by kernel_rfl)) ?_
      refine L0 rfl rfl (E_assign (I e9) rfl (by kernel_rfl)) ?_
      refine XL_nil ?_
      kernel_rfl
     refine V_sreg (mb 67 1105961) [104, 80] (s1 := ⟨I d1 :: .bot :: .bot :: .ow 80 :: .bot :: I e9 :: bt 7 (.ow 104 :: I ((y2.length : Int)) :: I t3 :: bt 4 (Bo (ltI 2 e9) :: bt 46 [])), [(104, .arr 3 1 (y2.map c3)), (80, .arr 94 2 (l4.map c94))]⟩) ?_ ?_
     ·refine L0 rfl rfl (E_move (I e9) rfl (by kernel_rfl)) ?_
      refine L0 rfl rfl (Y0_gtw (k := .i64) (a := e9) (b := 2) rfl (by kernel_rfl) (by kernel_rfl)) ?_
      refine XL_nil ?_
      kernel_rfl
     refine V_cond rfl (fun hc10 => ?_) (fun hc10 => ?_)
     ·have h := of_true h hc10
      obtain ⟨u11, hu11, h⟩ := of_bind h
      refine V_reg (mb 67 57353) [104, 80] (s1 := ⟨I d1 :: .bot :: .bot :: .ow 80 :: bt 9 (.ow 104 :: I ((y2.length : Int)) :: I t3 :: bt 51 []), [(104, .arr 3 1 (y2.map c3)), (80, .arr 94 2 ((l4 ++ ([(1, e9)])).map c94))]⟩) ?_ ?_
      ·refine L0 rfl rfl (E_move (.ow 80) rfl (by kernel_rfl)) ?_
       refine L0 rfl rfl (E_move (I e9) rfl (by kernel_rfl)) ?_
       refine L0 rfl rfl (Y0_build (cs := [Ti 1, Ti e9]) pl94 bt94 rfl rfl (by kernel_rfl)) ?_
       refine L1 rfl rfl (Y1_bslice (z := zv94) (els := [(1, e9)].map c94) Try.underlying91 iz94 rfl (by decide) rfl (by kernel_rfl) rfl (by simp [c94]) (by decide) (by decide)) ?_
       refine XL_cons rfl (X_appendM (c := c94) (xs := l4) (ys := [(1, e9)]) (id := 80) (z := zv94) rfl rfl Try.underlying91 izb94 rfl (by kernel_rfl) (by kernel_rfl) (by kernel_rfl) (fun _ => rfl) (by simp) (room_some hu11) (by decide)) ?_
       refine L0 rfl rfl (E_assign (.ow 80) rfl (by kernel_rfl)) ?_
       refine XL_nil ?_
       kernel_rfl
      show V _ _ _ _
      obtain ⟨t12, ht12, h⟩ := of_sI h
      refine V_reg (mb 67 57353) [104, 80] (s1 := ⟨I d1 :: .bot :: .bot :: .ow 80 :: bt 9 (.ow 104 :: I ((y2.length : Int)) :: I t12 :: bt 51 []), [(104, .arr 3 1 (y2.map c3)), (80, .arr 94 2 ((l4 ++ ([(1, e9)])).map c94))]⟩) ?_ ?_
      ·refine L0 rfl rfl (Y0_add64 (a := t3) (b := 1) rfl (by kernel_rfl) (by kernel_rfl)) ?_
       refine L0 rfl rfl (E_move (I (w64 (t3 + 1))) rfl (by kernel_rfl)) ?_
       refine XL_nil ?_
       subst ht12
       kernel_rfl
      exact ⟨n, Nat.lt_succ_self n, _, _,  by rfl, h⟩
     ·have h := of_false h hc10
      refine V_skip ?_
      show V _ _ _ _
      obtain ⟨t13, ht13, h⟩ := of_sI h
      refine V_reg (mb 67 57353) [104, 80] (s1 := ⟨I d1 :: .bot :: .bot :: .ow 80 :: bt 9 (.ow 104 :: I ((y2.length : Int)) :: I t13 :: bt 51 []), [(104, .arr 3 1 (y2.map c3)), (80, .arr 94 2 (l4.map c94))]⟩) ?_ ?_
      ·refine L0 rfl rfl (Y0_add64 (a := t3) (b := 1) rfl (by kernel_rfl) (by kernel_rfl)) ?_
       refine L0 rfl rfl (E_move (I (w64 (t3 + 1))) rfl (by kernel_rfl)) ?_
       refine XL_nil ?_
       subst ht13
       kernel_rfl
      exact ⟨n, Nat.lt_succ_self n, _, _,  by rfl, h⟩
    ·have h := of_false h hc7
     refine V_exit ?_
     obtain rfl := some_inj h
     show St.keep _ _ _ = _
     rfl
  show V _ _ _ _
  refine V_seq ?_
  refine V_sreg (mb 67 536870921) [80] (s1 := ⟨I d1 :: .bot :: .bot :: .ow 80 :: bt 25 (Bo (!eqI (Int.tmod d1 2) 0) :: bt 37 []), [(80, .arr 94 2 (o6.map c94))]⟩) ?_ ?_
  ·refine L0 rfl rfl (E_move (I d1) rfl (by kernel_rfl)) ?_
   refine L0 rfl rfl (Y0_rem (k := .i64) (a := d1) (b := 2) rfl (by kernel_rfl) (by kernel_rfl) (by decide)) ?_
   refine L0 rfl rfl (Y0_new (k := .i64) (a := Int.tmod d1 2) (b := 0) rfl (by kernel_rfl) (by kernel_rfl)) ?_
   refine XL_nil ?_
   kernel_rfl
  refine V_cond rfl (fun hc14 => ?_) (fun hc14 => ?_)
  ·have h := of_true h hc14
   refine V_sreg (mb 67 4) [80] (s1 := ⟨.bot :: .bot :: .ow 80 :: bt 64 [], [(80, .arr 94 2 (o6.map c94))]⟩) ?_ ?_
   ·refine L0 rfl rfl (E_move (.ow 80) rfl (by kernel_rfl)) ?_
    refine L0 rfl rfl (E_assign (.ow 80) rfl (by kernel_rfl)) ?_
    refine XL_nil ?_
    kernel_rfl
   refine V_ret ?_
   obtain rfl := some_inj h
   show Post _ _ _ _ _
   exact ⟨.inr rfl, rfl, rfl, rfl⟩
  ·have h := of_false h hc14
   refine V_skip ?_
   show V _ _ _ _
   refine V_sreg (mb 67 457) [64, 56, 48, 80] (s1 := ⟨I d1 :: .bot :: .bot :: .ow 80 :: .bot :: .bot :: .pt 48 0 :: .pt 56 0 :: .pt 64 0 :: bt 58 [], [(64, .box [Ti 4, Ti 0]), (56, .box [Ti 3, Ti 0]), (48, .box [Ti 2, Ti 0]), (80, .arr 94 2 (o6.map c94))]⟩) ?_ ?_
   ·refine L0 rfl rfl (Y0_build (cs := [Ti 2, Ti 0]) pl94 bt94 rfl rfl (by kernel_rfl)) ?_
    refine L0 rfl rfl (Y0_build (cs := [Ti 3, Ti 0]) pl94 bt94 rfl rfl (by kernel_rfl)) ?_
    refine L0 rfl rfl (Y0_build (cs := [Ti 4, Ti 0]) pl94 bt94 rfl rfl (by kernel_rfl)) ?_
    refine L1 rfl rfl (Y1_alloc (z := zv94) rfl zf94 rfl) ?_
    refine L1 rfl rfl (Y1_alloc (z := zv94) rfl zf94 rfl) ?_
    refine L1 rfl rfl (Y1_alloc (z := zv94) rfl zf94 rfl) ?_
    refine XL_cons rfl (E_store (id := 48) (off := 0) (cs := [Ti 0, Ti 0]) (vc := [Ti 2, Ti 0]) [Ti 2, Ti 0] rfl rfl (by kernel_rfl) (by kernel_rfl) (by kernel_rfl) sz94 (Nat.le_of_ble_eq_true rfl) (by kernel_rfl)) ?_
    refine XL_cons rfl (E_store (id := 56) (off := 0) (cs := [Ti 0, Ti 0]) (vc := [Ti 3, Ti 0]) [Ti 3, Ti 0] rfl rfl (by kernel_rfl) (by kernel_rfl) (by kernel_rfl) sz94 (Nat.le_of_ble_eq_true rfl) (by kernel_rfl)) ?_
    refine XL_cons rfl (E_store (id := 64) (off := 0) (cs := [Ti 0, Ti 0]) (vc := [Ti 4, Ti 0]) [Ti 4, Ti 0] rfl rfl (by kernel_rfl) (by kernel_rfl) (by kernel_rfl) sz94 (Nat.le_of_ble_eq_true rfl) (by kernel_rfl)) ?_
    refine XL_nil ?_
    kernel_rfl
   refine V_seq ?_
   obtain ⟨vn15, hvn15, h⟩ := of_sI h
   refine V_sreg (mb 67 968) [64, 56, 48, 80] (s1 := ⟨bt 3 (.ow 80 :: .bot :: .bot :: .pt 48 0 :: .pt 56 0 :: .pt 64 0 :: I vn15 :: bt 57 []), [(64, .box [Ti 4, Ti 0]), (56, .box [Ti 3, Ti 0]), (48, .box [Ti 2, Ti 0]), (80, .arr 94 2 (o6.map c94))]⟩) ?_ ?_
   ·refine L0 rfl rfl (E_move (I d1) rfl (by kernel_rfl)) ?_
    refine L0 rfl rfl (Y0_neg64 (a := d1) rfl (by kernel_rfl)) ?_
    refine L0 rfl rfl (Y0_quo64 (a := w64 (0 - d1)) (b := 4) rfl (by kernel_rfl) (by kernel_rfl) (by decide)) ?_
    refine L0 rfl rfl (E_assign (I (w64 (Int.tdiv (w64 (0 - d1)) 4))) rfl (by kernel_rfl)) ?_
    refine XL_nil ?_
    subst hvn15
    kernel_rfl
   obtain ⟨t16, ht16, h⟩ := of_sI h
   refine V_sreg (mb 67 274877907400) [64, 56, 48, 80] (s1 := ⟨bt 3 (.ow 80 :: .bot :: .bot :: .pt 48 0 :: .pt 56 0 :: .pt 64 0 :: bt 29 (I t16 :: bt 28 [])), [(64, .box [Ti 4, Ti 0]), (56, .box [Ti 3, Ti 0]), (48, .box [Ti 2, Ti 0]), (80, .arr 94 2 (o6.map c94))]⟩) ?_ ?_
   ·refine L0 rfl rfl (E_move (I vn15) rfl (by kernel_rfl)) ?_
    refine L0 rfl rfl (Y0_rem (k := .i64) (a := vn15) (b := 8) rfl (by kernel_rfl) (by kernel_rfl) (by decide)) ?_
    refine XL_nil ?_
    subst ht16
    kernel_rfl
   refine V_block ?_
   obtain ⟨j17, hj17, h⟩ := of_bind h
   refine V_cutK (mb 67 824633721288) [64, 56, 48, 80] (s1 := ⟨bt 3 (.ow 80 :: .bot :: .bot :: .pt 48 0 :: .pt 56 0 :: .pt 64 0 :: bt 29 (I t16 :: Bo j17 :: bt 27 [])), [(64, .box [Ti 4, Ti 0]), (56, .box [Ti 3, Ti 0]), (48, .box [Ti 2, Ti 0]), (80, .arr 94 2 (o6.map c94))]⟩) ?_ ?_
   ·clear h
    have h := hj17
    clear hj17
    refine V_sreg (mb 67 824633721288) [64, 56, 48, 80] (s1 := ⟨bt 3 (.ow 80 :: .bot :: .bot :: .pt 48 0 :: .pt 56 0 :: .pt 64 0 :: bt 29 (I t16 :: Bo (eqI t16 1) :: bt 27 [])), [(64, .box [Ti 4, Ti 0]), (56, .box [Ti 3, Ti 0]), (48, .box [Ti 2, Ti 0]), (80, .arr 94 2 (o6.map c94))]⟩) ?_ ?_
    ·refine L0 rfl rfl (Y0_eqw (k := .i64) (a := t16) (b := 1) rfl (by kernel_rfl) (by kernel_rfl)) ?_
     refine L0 rfl rfl (E_assign (Bo (eqI t16 1)) rfl (by kernel_rfl)) ?_
     refine XL_nil ?_
     kernel_rfl
    refine V_cond rfl (fun hc18 => ?_) (fun hc18 => ?_)
    ·have h := of_true h hc18
     refine V_skip ?_
     obtain rfl := some_inj h
     show St.keep _ _ _ = _
     rfl
    ·have h := of_false h hc18
     refine V_sreg (mb 67 824633721288) [64, 56, 48, 80] (s1 := ⟨bt 3 (.ow 80 :: .bot :: .bot :: .pt 48 0 :: .pt 56 0 :: .pt 64 0 :: bt 29 (I t16 :: Bo (eqI t16 5) :: bt 27 [])), [(64, .box [Ti 4, Ti 0]), (56, .box [Ti 3, Ti 0]), (48, .box [Ti 2, Ti 0]), (80, .arr 94 2 (o6.map c94))]⟩) ?_ ?_
     ·refine L0 rfl rfl (Y0_eqw (k := .i64) (a := t16) (b := 5) rfl (by kernel_rfl) (by kernel_rfl)) ?_
      refine L0 rfl rfl (E_assign (Bo (eqI t16 5)) rfl (by kernel_rfl)) ?_
      refine XL_nil ?_
      kernel_rfl
     refine V_cond rfl (fun hc19 => ?_) (fun hc19 => ?_)
     ·have h := of_true h hc19
      refine V_skip ?_
      obtain rfl := some_inj h
      show St.keep _ _ _ = _
      rfl
     ·have h := of_false h hc19
      refine V_reg (mb 67 824633721288) [64, 56, 48, 80] (s1 := ⟨bt 3 (.ow 80 :: .bot :: .bot :: .pt 48 0 :: .pt 56 0 :: .pt 64 0 :: bt 29 (I t16 :: Bo (eqI t16 4) :: bt 27 [])), [(64, .box [Ti 4, Ti 0]), (56, .box [Ti 3, Ti 0]), (48, .box [Ti 2, Ti 0]), (80, .arr 94 2 (o6.map c94))]⟩) ?_ ?_
      ·refine L0 rfl rfl (Y0_eqw (k := .i64) (a := t16) (b := 4) rfl (by kernel_rfl) (by kernel_rfl)) ?_
       refine L0 rfl rfl (E_assign (Bo (eqI t16 4)) rfl (by kernel_rfl)) ?_
       refine XL_nil ?_
       kernel_rfl
      obtain rfl := some_inj h
      show St.keep _ _ _ = _
      rfl
   refine V_cond rfl (fun hc20 => ?_) (fun hc20 => ?_)
   ·have h := of_true h hc20
    obtain ⟨u21, hu21, h⟩ := of_bind h
    refine V_sreg (mb 67 4) [80] (s1 := ⟨.bot :: .bot :: .ow 80 :: bt 64 [], [(80, .arr 94 2 ((o6 ++ ([(2, 0)])).map c94))]⟩) ?_ ?_
    ·refine L0 rfl rfl (E_move (.ow 80) rfl (by kernel_rfl)) ?_
     refine L0 rfl rfl (E_loadn (cs := [Ti 2, Ti 0]) [Ti 2, Ti 0] wd94 rfl (by kernel_rfl) (Nat.le_of_ble_eq_true rfl) (by kernel_rfl)) ?_
     refine L1 rfl rfl (Y1_bslice (z := zv94) (els := [(2, 0)].map c94) Try.underlying91 iz94 rfl (by decide) rfl (by kernel_rfl) rfl (by simp [c94]) (by decide) (by decide)) ?_
     refine XL_cons rfl (X_appendM (c := c94) (xs := o6) (ys := [(2, 0)]) (id := 80) (z := zv94) rfl rfl Try.underlying91 izb94 rfl (by kernel_rfl) (by kernel_rfl) (by kernel_rfl) (fun _ => rfl) (by simp) (room_some hu21) (by decide)) ?_
     refine L0 rfl rfl (E_assign (.ow 80) rfl (by kernel_rfl)) ?_
     refine XL_nil ?_
     kernel_rfl
    refine V_ret ?_
    obtain rfl := some_inj h
    show Post _ _ _ _ _
    exact ⟨.inr rfl, rfl, rfl, rfl⟩
   ·have h := of_false h hc20
    refine V_sreg (mb 67 141012366262728) [64, 56, 48, 80] (s1 := ⟨bt 3 (.ow 80 :: .bot :: .bot :: .pt 48 0 :: .pt 56 0 :: .pt 64 0 :: bt 29 (I t16 :: bt 8 (Bo (eqI t16 2) :: bt 19 []))), [(64, .box [Ti 4, Ti 0]), (56, .box [Ti 3, Ti 0]), (48, .box [Ti 2, Ti 0]), (80, .arr 94 2 (o6.map c94))]⟩) ?_ ?_
    ·refine L0 rfl rfl (Y0_eqw (k := .i64) (a := t16) (b := 2) rfl (by kernel_rfl) (by kernel_rfl)) ?_
     refine L0 rfl rfl (E_assign (Bo (eqI t16 2)) rfl (by kernel_rfl)) ?_
     refine XL_nil ?_
     kernel_rfl
    refine V_cond rfl (fun hc22 => ?_) (fun hc22 => ?_)
    ·have h := of_true h hc22
     obtain ⟨u23, hu23, h⟩ := of_bind h
     refine V_sreg (mb 67 4) [80] (s1 := ⟨.bot :: .bot :: .ow 80 :: bt 64 [], [(80, .arr 94 2 ((o6 ++ ([(4, 0)])).map c94))]⟩) ?_ ?_
     ·refine L0 rfl rfl (E_move (.ow 80) rfl (by kernel_rfl)) ?_
      refine L0 rfl rfl (E_loadn (cs := [Ti 4, Ti 0]) [Ti 4, Ti 0] wd94 rfl (by kernel_rfl) (Nat.le_of_ble_eq_true rfl) (by kernel_rfl)) ?_
      refine L1 rfl rfl (Y1_bslice (z := zv94) (els := [(4, 0)].map c94) Try.underlying91 iz94 rfl (by decide) rfl (by kernel_rfl) rfl (by simp [c94]) (by decide) (by decide)) ?_
      refine XL_cons rfl (X_appendM (c := c94) (xs := o6) (ys := [(4, 0)]) (id := 80) (z := zv94) rfl rfl Try.underlying91 izb94 rfl (by kernel_rfl) (by kernel_rfl) (by kernel_rfl) (fun _ => rfl) (by simp) (room_some hu23) (by decide)) ?_
      refine L0 rfl rfl (E_assign (.ow 80) rfl (by kernel_rfl)) ?_
      refine XL_nil ?_
      kernel_rfl
     refine V_ret ?_
     obtain rfl := some_inj h
     show Post _ _ _ _ _
     exact ⟨.inr rfl, rfl, rfl, rfl⟩
    ·have h := of_false h hc22
     refine V_sreg (mb 67 9007474132648136) [56, 48, 80] (s1 := ⟨bt 3 (.ow 80 :: .bot :: .bot :: .pt 48 0 :: .pt 56 0 :: bt 30 (I t16 :: bt 14 (Bo (eqI t16 6) :: bt 13 []))), [(56, .box [Ti 3, Ti 0]), (48, .box [Ti 2, Ti 0]), (80, .arr 94 2 (o6.map c94))]⟩) ?_ ?_
     ·refine L0 rfl rfl (Y0_eqw (k := .i64) (a := t16) (b := 6) rfl (by kernel_rfl) (by kernel_rfl)) ?_
      refine L0 rfl rfl (E_assign (Bo (eqI t16 6)) rfl (by kernel_rfl)) ?_
      refine XL_nil ?_
      kernel_rfl
     refine V_cond rfl (fun hc24 => ?_) (fun hc24 => ?_)
     ·have h := of_true h hc24
      obtain ⟨u25, hu25, h⟩ := of_bind h
      refine V_sreg (mb 67 4) [80] (s1 := ⟨.bot :: .bot :: .ow 80 :: bt 64 [], [(80, .arr 94 2 ((o6 ++ ([(3, 0)])).map c94))]⟩) ?_ ?_
      ·refine L0 rfl rfl (E_move (.ow 80) rfl (by kernel_rfl)) ?_
       refine L0 rfl rfl (E_loadn (cs := [Ti 3, Ti 0]) [Ti 3, Ti 0] wd94 rfl (by kernel_rfl) (Nat.le_of_ble_eq_true rfl) (by kernel_rfl)) ?_
       refine L1 rfl rfl (Y1_bslice (z := zv94) (els := [(3, 0)].map c94) Try.underlying91 iz94 rfl (by decide) rfl (by kernel_rfl) rfl (by simp [c94]) (by decide) (by decide)) ?_
       refine XL_cons rfl (X_appendM (c := c94) (xs := o6) (ys := [(3, 0)]) (id := 80) (z := zv94) rfl rfl Try.underlying91 izb94 rfl (by kernel_rfl) (by kernel_rfl) (by kernel_rfl) (fun _ => rfl) (by simp) (room_some hu25) (by decide)) ?_
       refine L0 rfl rfl (E_assign (.ow 80) rfl (by kernel_rfl)) ?_
       refine XL_nil ?_
       kernel_rfl
      refine V_ret ?_
      obtain rfl := some_inj h
      show Post _ _ _ _ _
      exact ⟨.inr rfl, rfl, rfl, rfl⟩
     ·have h := of_false h hc24
      refine V_sreg (mb 67 576460752303423688) [56, 48, 80] (s1 := ⟨bt 3 (.ow 80 :: .bot :: .bot :: .pt 48 0 :: .pt 56 0 :: bt 51 (Bo (eqI t16 0) :: bt 7 [])), [(56, .box [Ti 3, Ti 0]), (48, .box [Ti 2, Ti 0]), (80, .arr 94 2 (o6.map c94))]⟩) ?_ ?_
      ·refine L0 rfl rfl (Y0_eqw (k := .i64) (a := t16) (b := 0) rfl (by kernel_rfl) (by kernel_rfl)) ?_
       refine L0 rfl rfl (E_assign (Bo (eqI t16 0)) rfl (by kernel_rfl)) ?_
       refine XL_nil ?_
       kernel_rfl
      refine V_cond rfl (fun hc26 => ?_) (fun hc26 => ?_)
      ·have h := of_true h hc26
       obtain ⟨u27, hu27, h⟩ := of_bind h
       refine V_sreg (mb 67 4) [80] (s1 := ⟨.bot :: .bot :: .ow 80 :: bt 64 [], [(80, .arr 94 2 ((o6 ++ ([(2, 0), (3, 0)])).map c94))]⟩) ?_ ?_
       ·refine L0 rfl rfl (E_move (.ow 80) rfl (by kernel_rfl)) ?_
        refine L0 rfl rfl (E_loadn (cs := [Ti 2, Ti 0]) [Ti 2, Ti 0] wd94 rfl (by kernel_rfl) (Nat.le_of_ble_eq_true rfl) (by kernel_rfl)) ?_
        refine L0 rfl rfl (E_loadn (cs := [Ti 3, Ti 0]) [Ti 3, Ti 0] wd94 rfl (by kernel_rfl) (Nat.le_of_ble_eq_true rfl) (by kernel_rfl)) ?_
        refine L1 rfl rfl (Y1_bslice (z := zv94) (els := [(2, 0), (3, 0)].map c94) Try.underlying91 iz94 rfl (by decide) rfl (by kernel_rfl) rfl (by simp [c94]) (by decide) (by decide)) ?_
        refine XL_cons rfl (X_appendM (c := c94) (xs := o6) (ys := [(2, 0), (3, 0)]) (id := 80) (z := zv94) rfl rfl Try.underlying91 izb94 rfl (by kernel_rfl) (by kernel_rfl) (by kernel_rfl) (fun _ => rfl) (by simp) (room_some hu27) (by decide)) ?_
        refine L0 rfl rfl (E_assign (.ow 80) rfl (by kernel_rfl)) ?_
        refine XL_nil ?_
        kernel_rfl
       refine V_ret ?_
       obtain rfl := some_inj h
       show Post _ _ _ _ _
       exact ⟨.inr rfl, rfl, rfl, rfl⟩
      ·have h := of_false h hc26
       refine V_skip ?_
       show V _ _ _ _
       refine V_sreg (mb 67 4) [80] (s1 := ⟨.bot :: .bot :: .ow 80 :: bt 64 [], [(80, .arr 94 2 (o6.map c94))]⟩) ?_ ?_
       ·refine L0 rfl rfl (E_move (.ow 80) rfl (by kernel_rfl)) ?_
        refine L0 rfl rfl (E_assign (.ow 80) rfl (by kernel_rfl)) ?_
        refine XL_nil ?_
        kernel_rfl
       refine V_ret ?_
       obtain rfl := some_inj h
       show Post _ _ _ _ _
       exact ⟨.inr rfl, rfl, rfl, rfl⟩
theorem cf_impl_symbolOfTwo : ∀ args w, (callFunc 86 args).run Try.prog w = .ok (.enter 86 args) w := run_callFunc Try.func86 (by kernel_rfl) (by kernel_rfl)
set_option maxRecDepth 100000 in
set_option maxHeartbeats 400000 in
theorem s_impl_symbolOfTwo {vn1 : Int} {r : Int} (h : r_impl_symbolOfTwo vn1 = some r) : CallS Try.prog 86 [I vn1] (I r) [] := by
  refine CallS_of_text (rs := [.t 2]) (vs := [.tmp 2]) Try.func86 rfl rfl (.cons rfl FitsL.nil) (by decide) 12 rfl ?_
  unfold r_impl_symbolOfTwo at h
  show V _ _ ⟨I vn1 :: bt 11 [], []⟩ _
  refine V_sreg (mb 12 1) [] (s1 := ⟨I vn1 :: bt 11 [], []⟩) ?_ ?_
  ·refine L0 rfl rfl (E_assign (I 0) rfl (by kernel_rfl)) ?_
   refine XL_nil ?_
   kernel_rfl
  refine V_seq ?_
  obtain ⟨y2, hy2, h⟩ := of_bind h
  refine V_sreg (mb 12 8) [] (s1 := ⟨bt 3 (I y2 :: bt 8 []), []⟩) ?_ ?_
  ·refine L0 rfl rfl (E_move (I vn1) rfl (by kernel_rfl)) ?_
   refine L1 rfl rfl (Y1_call (s_impl_mod hy2) cf_impl_mod rfl (by kernel_rfl)) ?_
   refine L0 rfl rfl (E_assign (I y2) rfl (by kernel_rfl)) ?_
   refine XL_nil ?_
   kernel_rfl
  refine V_sreg (mb 12 2048) [] (s1 := ⟨bt 11 (Bo (bif (eqI y2 1) then true else (eqI y2 7)) :: []), []⟩) ?_ ?_
  ·refine L0 rfl rfl (E_move (I y2) rfl (by kernel_rfl)) ?_
   refine L0 rfl rfl (Y0_eqw (k := .i64) (a := y2) (b := 1) rfl (by kernel_rfl) (by kernel_rfl)) ?_
   refine L0 rfl rfl (E_move (Bo (eqI y2 1)) rfl (by kernel_rfl)) ?_
   refine XL_split (eqI y2 1) (fun hc3 => ?_) (fun hc3 => ?_)
   ·refine XL_skipF _ rfl rfl (by kernel_rfl) hc3 rfl ?_
    refine XL_skipF _ rfl rfl (by kernel_rfl) hc3 rfl ?_
    refine XL_cons rfl (X_of_Y0 rfl (Y0_pick1 (b := eqI y2 1) (p := true) (q := eqI y2 7) rfl (by kernel_rfl) hc3 (by kernel_rfl))) ?_
    refine XL_nil ?_
    kernel_rfl
   ·refine XL_takeC _ rfl rfl (by kernel_rfl) hc3 (X_of_Y0 rfl (E_move (I y2) rfl (by kernel_rfl))) ?_
    refine XL_takeC _ rfl rfl (by kernel_rfl) hc3 (X_of_Y0 rfl (Y0_eqw (k := .i64) (a := y2) (b := 7) rfl (by kernel_rfl) (by kernel_rfl))) ?_
    refine XL_cons rfl (X_of_Y0 rfl (Y0_pick0 (b := eqI y2 1) (p := true) (q := eqI y2 7) rfl (by kernel_rfl) hc3 (by kernel_rfl))) ?_
    refine XL_nil ?_
    kernel_rfl
  refine V_cond rfl (fun hc4 => ?_) (fun hc4 => ?_)
  ·have h := of_true h hc4
   refine V_sreg (mb 12 4) [] (s1 := ⟨.bot :: .bot :: I 1 :: bt 9 [], []⟩) ?_ ?_
   ·refine L0 rfl rfl (E_assign (I 1) rfl (by kernel_rfl)) ?_
    refine XL_nil ?_
    kernel_rfl
   refine V_ret ?_
   obtain rfl := some_inj h
   show Post _ _ _ _ _
   exact ⟨.inr rfl, rfl, rfl, rfl⟩
  ·have h := of_false h hc4
   refine V_skip ?_
   show V _ _ _ _
   refine V_sreg (mb 12 4) [] (s1 := ⟨.bot :: .bot :: I (-1) :: bt 9 [], []⟩) ?_ ?_
   ·refine L0 rfl rfl (E_assign (I (-1)) rfl (by kernel_rfl)) ?_
    refine XL_nil ?_
    kernel_rfl
   refine V_ret ?_
   obtain rfl := some_inj h
   show Post _ _ _ _ _
   exact ⟨.inr rfl, rfl, rfl, rfl⟩
theorem cf_impl_jacobi : ∀ args w, (callFunc 42 args).run Try.prog w = .ok (.enter 42 args) w := run_callFunc Try.func42 (by kernel_rfl) (by kernel_rfl)
set_option maxRecDepth 100000 in
set_option maxHeartbeats 400000 in
theorem s_impl_jacobi {a1 : Int} {vn2 : Int} {r : Int} (h : r_impl_jacobi a1 vn2 = some r) : CallS Try.prog 42 [I a1, I vn2] (I r) [] := by
  refine CallS_of_text (rs := [.t 4]) (vs := [.tmp 4]) Try.func42 rfl rfl (.cons rfl FitsL.nil) (by decide) 38 rfl ?_
  unfold r_impl_jacobi at h
  show V _ _ ⟨I a1 :: I vn2 :: bt 36 [], []⟩ _
  refine V_sreg (mb 38 3) [] (s1 := ⟨I a1 :: I vn2 :: bt 36 [], []⟩) ?_ ?_
  ·refine L0 rfl rfl (E_assign (I 0) rfl (by kernel_rfl)) ?_
   refine XL_nil ?_
   kernel_rfl
  refine V_sreg (mb 38 35) [] (s1 := ⟨I a1 :: I vn2 :: bt 3 (I 1 :: bt 32 []), []⟩) ?_ ?_
  ·refine L0 rfl rfl (E_assign (I 1) rfl (by kernel_rfl)) ?_
   refine XL_nil ?_
   kernel_rfl
  refine V_seq ?_
  obtain ⟨y3, hy3, h⟩ := of_bind h
  refine V_sreg (mb 38 35) [] (s1 := ⟨I y3 :: I vn2 :: bt 3 (I 1 :: bt 32 []), []⟩) ?_ ?_
  ·refine L0 rfl rfl (E_move (I a1) rfl (by kernel_rfl)) ?_
   refine L0 rfl rfl (E_move (I vn2) rfl (by kernel_rfl)) ?_
   refine L1 rfl rfl (Y1_call (s_impl_mod hy3) cf_impl_mod rfl (by kernel_rfl)) ?_
   refine L0 rfl rfl (E_assign (I y3) rfl (by kernel_rfl)) ?_
   refine XL_nil ?_
   kernel_rfl
  obtain ⟨o8, hLo8, h⟩ := of_bind h
  refine V_toK (mb 38 34) [] (s1 := ⟨.bot :: I o8.1 :: bt 3 (I o8.2 :: bt 32 []), []⟩) ?_ ?_
  ·clear h
   refine V_block (V_loop (fun n s => ∃ (a4 : Int) (vn5 : Int) (vs6 : Int), s.keep (mb 38 35) [] = (⟨I a4 :: I vn5 :: bt 3 (I vs6 :: bt 32 []), []⟩ : St) ∧ r_impl_jacobi_L7 n a4 vn5 vs6 = some o8) FU ⟨_, _, _,  by rfl, hLo8⟩ ?_)
   clear hLo8
   rintro n s ⟨a4, vn5, vs6, hs, h⟩
   refine V_keep _ _ hs ?_
   clear hs
   cases n with
   | zero => cases h
   | succ n =>
    rw [r_impl_jacobi_L7] at h
    refine V_seq ?_
    refine V_sreg (mb 38 1059) [] (s1 := ⟨I a4 :: I vn5 :: bt 3 (I vs6 :: bt 4 (Bo (!eqI a4 0) :: bt 27 [])), []⟩) ?_ ?_
    ·refine L0 rfl rfl (E_move (I a4) rfl (by kernel_rfl)) ?_
     refine L0 rfl rfl (Y0_new (k := .i64) (a := a4) (b := 0) rfl (by kernel_rfl) (by kernel_rfl)) ?_
     refine XL_nil ?_
     kernel_rfl
    refine V_cond rfl (fun hc9 => ?_) (fun hc9 => ?_)
    ·have h := of_true h hc9
     refine V_skip ?_
     show V _ _ _ _
     refine V_seq ?_
     refine V_block ?_
     refine V_seq ?_
     obtain ⟨o13, hLo13, h⟩ := of_bind h
     refine V_toK (mb 38 35) [] (s1 := ⟨I o13.1 :: I vn5 :: bt 3 (I o13.2 :: bt 32 []), []⟩) ?_ ?_
     ·clear h
      refine V_block (V_loop (fun n s => ∃ (a10 : Int) (vs11 : Int), s.keep (mb 38 35) [] = (⟨I a10 :: I vn5 :: bt 3 (I vs11 :: bt 32 []), []⟩ : St) ∧ r_impl_jacobi_L12 vn5 n a10 vs11 = some o13) FU ⟨_, _,  by rfl, hLo13⟩ ?_)
      clear hLo13
      rintro n s ⟨a10, vs11, hs, h⟩
      refine V_keep _ _ hs ?_
      clear hs
      cases n with
      | zero => cases h
      | succ n =>
       rw [r_impl_jacobi_L12] at h
       refine V_seq ?_
       refine V_sreg (mb 38 65571) [] (s1 := ⟨I a10 :: I vn5 :: bt 3 (I vs11 :: bt 10 (Bo (eqI (Int.tmod a10 2) 0) :: bt 21 [])), []⟩) ?_ ?_
       ·refine L0 rfl rfl (E_move (I a10) rfl (by kernel_rfl)) ?_
        refine L0 rfl rfl (Y0_rem (k := .i64) (a := a10) (b := 2) rfl (by kernel_rfl) (by kernel_rfl) (by decide)) ?_
        refine L0 rfl rfl (Y0_eqw (k := .i64) (a := Int.tmod a10 2) (b := 0) rfl (by kernel_rfl) (by kernel_rfl)) ?_
        refine XL_nil ?_
        kernel_rfl
       refine V_cond rfl (fun hc14 => ?_) (fun hc14 => ?_)
       ·have h := of_true h hc14
        refine V_skip ?_
        show V _ _ _ _
        refine V_block ?_
        obtain ⟨a15, ha15, h⟩ := of_sI h
        refine V_sreg (mb 38 35) [] (s1 := ⟨I a15 :: I vn5 :: bt 3 (I vs11 :: bt 32 []), []⟩) ?_ ?_
        ·refine L0 rfl rfl (E_move (I a10) rfl (by kernel_rfl)) ?_
         refine L0 rfl rfl (Y0_quo64 (a := a10) (b := 2) rfl (by kernel_rfl) (by kernel_rfl) (by decide)) ?_
         refine L0 rfl rfl (E_assign (I (w64 (Int.tdiv a10 2))) rfl (by kernel_rfl)) ?_
         refine XL_nil ?_
         subst ha15
         kernel_rfl
        obtain ⟨y16, hy16, h⟩ := of_bind h
        obtain ⟨vs17, hvs17, h⟩ := of_sI h
        refine V_reg (mb 38 35) [] (s1 := ⟨I a15 :: I vn5 :: bt 3 (I vs17 :: bt 32 []), []⟩) ?_ ?_
        ·refine L0 rfl rfl (E_move (I vs11) rfl (by kernel_rfl)) ?_
         refine L0 rfl rfl (E_move (I vn5) rfl (by kernel_rfl)) ?_
         refine L1 rfl rfl (Y1_call (s_impl_symbolOfTwo hy16) cf_impl_symbolOfTwo rfl (by kernel_rfl)) ?_
         refine L0 rfl rfl (Y0_mul64 (a := vs11) (b := y16) rfl (by kernel_rfl) (by kernel_rfl)) ?_
         refine L0 rfl rfl (E_assign (I (w64 (vs11 * y16))) rfl (by kernel_rfl)) ?_
         refine XL_nil ?_
         subst hvs17
         kernel_rfl
        exact ⟨n, Nat.lt_succ_self n, _, _,  by rfl, h⟩
       ·have h := of_false h hc14
        refine V_exit ?_
        obtain rfl := some_inj h
        show St.keep _ _ _ = _
        rfl
     show V _ _ _ _
     refine V_seq ?_
     obtain ⟨t19, ht19, h⟩ := of_bind h
     have ht19 := some_inj ht19
     refine V_sreg (mb 38 1073741859) [] (s1 := ⟨I o13.1 :: I vn5 :: bt 3 (I o13.2 :: bt 24 (Bo t19 :: bt 7 [])), []⟩) ?_ ?_
     ·refine L0 rfl rfl (E_move (I o13.1) rfl (by kernel_rfl)) ?_
      refine L0 rfl rfl (Y0_rem (k := .i64) (a := o13.1) (b := 4) rfl (by kernel_rfl) (by kernel_rfl) (by decide)) ?_
      refine L0 rfl rfl (Y0_eqw (k := .i64) (a := Int.tmod o13.1 4) (b := 3) rfl (by kernel_rfl) (by kernel_rfl)) ?_
      refine L0 rfl rfl (E_move (Bo (eqI (Int.tmod o13.1 4) 3)) rfl (by kernel_rfl)) ?_
      refine XL_split (eqI (Int.tmod o13.1 4) 3) (fun hc18 => ?_) (fun hc18 => ?_)
      ·refine XL_takeC _ rfl rfl (by kernel_rfl) hc18 (X_of_Y0 rfl (E_move (I vn5) rfl (by kernel_rfl))) ?_
       refine XL_takeC _ rfl rfl (by kernel_rfl) hc18 (X_of_Y0 rfl (Y0_rem (k := .i64) (a := vn5) (b := 4) rfl (by kernel_rfl) (by kernel_rfl) (by decide))) ?_
       refine XL_takeC _ rfl rfl (by kernel_rfl) hc18 (X_of_Y0 rfl (Y0_eqw (k := .i64) (a := Int.tmod vn5 4) (b := 3) rfl (by kernel_rfl) (by kernel_rfl))) ?_
       refine XL_cons rfl (X_of_Y0 rfl (Y0_pick1 (b := eqI (Int.tmod o13.1 4) 3) (p := eqI (Int.tmod vn5 4) 3) (q := false) rfl (by kernel_rfl) hc18 (by kernel_rfl))) ?_
       refine XL_nil ?_
       subst ht19
       kernel_rfl
      ·refine XL_skipT _ rfl rfl (by kernel_rfl) hc18 rfl ?_
       refine XL_skipT _ rfl rfl (by kernel_rfl) hc18 rfl ?_
       refine XL_skipT _ rfl rfl (by kernel_rfl) hc18 rfl ?_
       refine XL_cons rfl (X_of_Y0 rfl (Y0_pick0 (b := eqI (Int.tmod o13.1 4) 3) (p := eqI (Int.tmod vn5 4) 3) (q := false) rfl (by kernel_rfl) hc18 (by kernel_rfl))) ?_
       refine XL_nil ?_
       subst ht19
       kernel_rfl
     refine V_cond rfl (fun hc20 => ?_) (fun hc20 => ?_)
     ·have h := of_true h hc20
      obtain ⟨vs21, hvs21, h⟩ := of_sI h
      refine V_reg (mb 38 35) [] (s1 := ⟨I o13.1 :: I vn5 :: bt 3 (I vs21 :: bt 32 []), []⟩) ?_ ?_
      ·refine L0 rfl rfl (E_move (I o13.2) rfl (by kernel_rfl)) ?_
       refine L0 rfl rfl (Y0_neg64 (a := o13.2) rfl (by kernel_rfl)) ?_
       refine L0 rfl rfl (E_assign (I (w64 (0 - o13.2))) rfl (by kernel_rfl)) ?_
       refine XL_nil ?_
       subst hvs21
       kernel_rfl
      show V _ _ _ _
      refine V_reg (mb 38 35) [] (s1 := ⟨I vn5 :: I o13.1 :: bt 3 (I vs21 :: bt 32 []), []⟩) ?_ ?_
      ·refine L0 rfl rfl (E_move (I vn5) rfl (by kernel_rfl)) ?_
       refine L0 rfl rfl (E_move (I o13.1) rfl (by kernel_rfl)) ?_
       refine L0 rfl rfl (E_assign (I vn5) rfl (by kernel_rfl)) ?_
       refine L0 rfl rfl (E_assign (I o13.1) rfl (by kernel_rfl)) ?_
       refine XL_nil ?_
       kernel_rfl
      show V _ _ _ _
      obtain ⟨z22, hz22, h⟩ := of_bind h
      obtain ⟨a23, ha23, h⟩ := of_sI h
      refine V_reg (mb 38 35) [] (s1 := ⟨I a23 :: I o13.1 :: bt 3 (I vs21 :: bt 32 []), []⟩) ?_ ?_
      ·refine L0 rfl rfl (E_move (I vn5) rfl (by kernel_rfl)) ?_
       refine L0 rfl rfl (E_move (I o13.1) rfl (by kernel_rfl)) ?_
       refine L0 rfl rfl (Y0_rem (k := .i64) (a := vn5) (b := o13.1) rfl (by kernel_rfl) (by kernel_rfl) (nz_some hz22)) ?_
       refine L0 rfl rfl (E_assign (I (Int.tmod vn5 o13.1)) rfl (by kernel_rfl)) ?_
       refine XL_nil ?_
       subst ha23
       kernel_rfl
      exact ⟨n, Nat.lt_succ_self n, _, _, _,  by rfl, h⟩
     ·have h := of_false h hc20
      refine V_skip ?_
      show V _ _ _ _
      refine V_reg (mb 38 35) [] (s1 := ⟨I vn5 :: I o13.1 :: bt 3 (I o13.2 :: bt 32 []), []⟩) ?_ ?_
      ·refine L0 rfl rfl (E_move (I vn5) rfl (by kernel_rfl)) ?_
       refine L0 rfl rfl (E_move (I o13.1) rfl (by kernel_rfl)) ?_
       refine L0 rfl rfl (E_assign (I vn5) rfl (by kernel_rfl)) ?_
       refine L0 rfl rfl (E_assign (I o13.1) rfl (by kernel_rfl)) ?_
       refine XL_nil ?_
       kernel_rfl
      show V _ _ _ _
      obtain ⟨z24, hz24, h⟩ := of_bind h
      obtain ⟨a25, ha25, h⟩ := of_sI h
      refine V_reg (mb 38 35) [] (s1 := ⟨I a25 :: I o13.1 :: bt 3 (I o13.2 :: bt 32 []), []⟩) ?_ ?_
      ·refine L0 rfl rfl (E_move (I vn5) rfl (by kernel_rfl)) ?_
       refine L0 rfl rfl (E_move (I o13.1) rfl (by kernel_rfl)) ?_
       refine L0 rfl rfl (Y0_rem (k := .i64) (a := vn5) (b := o13.1) rfl (by kernel_rfl) (by kernel_rfl) (nz_some hz24)) ?_
       refine L0 rfl rfl (E_assign (I (Int.tmod vn5 o13.1)) rfl (by kernel_rfl)) ?_
       refine XL_nil ?_
       subst ha25
       kernel_rfl
      exact ⟨n, Nat.lt_succ_self n, _, _, _,  by rfl, h⟩
    ·have h := of_false h hc9
     refine V_exit ?_
     obtain rfl := some_inj h
     show St.keep _ _ _ = _
     rfl
  show V _ _ _ _
  refine V_seq ?_
  refine V_sreg (mb 38 68719476768) [] (s1 := ⟨bt 5 (I o8.2 :: bt 30 (Bo (!eqI o8.1 1) :: .bot :: [])), []⟩) ?_ ?_
  ·refine L0 rfl rfl (E_move (I o8.1) rfl (by kernel_rfl)) ?_
   refine L0 rfl rfl (Y0_new (k := .i64) (a := o8.1) (b := 1) rfl (by kernel_rfl) (by kernel_rfl)) ?_
   refine XL_nil ?_
   kernel_rfl
  refine V_cond rfl (fun hc26 => ?_) (fun hc26 => ?_)
  ·have h := of_true h hc26
   refine V_sreg (mb 38 16) [] (s1 := ⟨bt 4 (I 0 :: bt 33 []), []⟩) ?_ ?_
   ·refine L0 rfl rfl (E_assign (I 0) rfl (by kernel_rfl)) ?_
    refine XL_nil ?_
    kernel_rfl
   refine V_ret ?_
   obtain rfl := some_inj h
   show Post _ _ _ _ _
   exact ⟨.inr rfl, rfl, rfl, rfl⟩
  ·have h := of_false h hc26
   refine V_skip ?_
   show V _ _ _ _
   refine V_sreg (mb 38 16) [] (s1 := ⟨bt 4 (I o8.2 :: bt 33 []), []⟩) ?_ ?_
   ·refine L0 rfl rfl (E_move (I o8.2) rfl (by kernel_rfl)) ?_
    refine L0 rfl rfl (E_assign (I o8.2) rfl (by kernel_rfl)) ?_
    refine XL_nil ?_
    kernel_rfl
   refine V_ret ?_
   obtain rfl := some_inj h
   show Post _ _ _ _ _
   exact ⟨.inr rfl, rfl, rfl, rfl⟩
theorem cf_impl_Character_value : ∀ args w, (callFunc 109 args).run Try.prog w = .ok (.enter 109 args) w := run_callFunc Try.func109 (by kernel_rfl) (by kernel_rfl)
set_option maxRecDepth 100000 in
set_option maxHeartbeats 400000 in
theorem s_impl_Character_value {x1 : (Int × Int)} {vn2 : Int} {r : Int} (h : r_impl_Character_value x1 vn2 = some r) : CallS Try.prog 109 [.ag [Ti x1.1, Ti x1.2], I vn2] (I r) [] := by
  refine CallS_of_text (rs := [.t 4]) (vs := [.tmp 4]) Try.func109 rfl rfl (.cons rfl FitsL.nil) (by decide) 32 rfl ?_
  unfold r_impl_Character_value at h
  show V _ _ ⟨.ag [Ti x1.1, Ti x1.2] :: I vn2 :: bt 30 [], []⟩ _
  refine V_sreg (mb 32 6) [16] (s1 := ⟨.bot :: I vn2 :: .pt 16 0 :: bt 29 [], [(16, .box [Ti x1.1, Ti x1.2])]⟩) ?_ ?_
  ·refine L1 rfl rfl (Y1_box (cs := [Ti x1.1, Ti x1.2]) rfl (by kernel_rfl)) ?_
   refine L0 rfl rfl (E_assign (I 0) rfl (by kernel_rfl)) ?_
   refine XL_nil ?_
   kernel_rfl
  refine V_seq ?_
  refine V_sreg (mb 32 262) [16] (s1 := ⟨.bot :: I vn2 :: .pt 16 0 :: bt 5 (Bo (eqI x1.1 1) :: bt 23 []), [(16, .box [Ti x1.1, Ti x1.2])]⟩) ?_ ?_
  ·refine L0 rfl rfl (E_field (.pt 16 0) Try.underlying94 rfl sz3 rfl (by kernel_rfl) (by intro hh; cases hh)) ?_
   refine L0 rfl rfl (Y0_load1 (c := Ti x1.1) (cs := [Ti x1.2]) sc3 rfl (by kernel_rfl)) ?_
   refine L0 rfl rfl (Y0_eqw (k := .i64) (a := x1.1) (b := 1) rfl (by kernel_rfl) (by kernel_rfl)) ?_
   refine XL_nil ?_
   kernel_rfl
  refine V_cond rfl (fun hc3 => ?_) (fun hc3 => ?_)
  ·have h := of_true h hc3
   obtain ⟨y4, hy4, h⟩ := of_bind h
   refine V_sreg (mb 32 16) [] (s1 := ⟨bt 4 (I y4 :: bt 27 []), []⟩) ?_ ?_
   ·refine L0 rfl rfl (E_move (I vn2) rfl (by kernel_rfl)) ?_
    refine L0 rfl rfl (E_field (.pt 16 1) Try.underlying94 rfl sz3 rfl (by kernel_rfl) (by intro hh; cases hh)) ?_
    refine L0 rfl rfl (Y0_load1 (c := Ti x1.2) (cs := []) sc3 rfl (by kernel_rfl)) ?_
    refine L1 rfl rfl (Y1_call (s_impl_jacobi hy4) cf_impl_jacobi rfl (by kernel_rfl)) ?_
    refine L0 rfl rfl (E_assign (I y4) rfl (by kernel_rfl)) ?_
    refine XL_nil ?_
    kernel_rfl
   refine V_ret ?_
   obtain rfl := some_inj h
   show Post _ _ _ _ _
   exact ⟨.inr rfl, rfl, rfl, rfl⟩
  ·have h := of_false h hc3
   refine V_skip ?_
   show V _ _ _ _
   refine V_seq ?_
   refine V_sreg (mb 32 32774) [16] (s1 := ⟨.bot :: I vn2 :: .pt 16 0 :: bt 12 (Bo (eqI (Int.tmod vn2 2) 0) :: bt 16 []), [(16, .box [Ti x1.1, Ti x1.2])]⟩) ?_ ?_
   ·refine L0 rfl rfl (E_move (I vn2) rfl (by kernel_rfl)) ?_
    refine L0 rfl rfl (Y0_rem (k := .i64) (a := vn2) (b := 2) rfl (by kernel_rfl) (by kernel_rfl) (by decide)) ?_
    refine L0 rfl rfl (Y0_eqw (k := .i64) (a := Int.tmod vn2 2) (b := 0) rfl (by kernel_rfl) (by kernel_rfl)) ?_
    refine XL_nil ?_
    kernel_rfl
   refine V_cond rfl (fun hc5 => ?_) (fun hc5 => ?_)
   ·have h := of_true h hc5
    refine V_sreg (mb 32 16) [] (s1 := ⟨bt 4 (I 0 :: bt 27 []), []⟩) ?_ ?_
    ·refine L0 rfl rfl (E_assign (I 0) rfl (by kernel_rfl)) ?_
     refine XL_nil ?_
     kernel_rfl
    refine V_ret ?_
    obtain rfl := some_inj h
    show Post _ _ _ _ _
    exact ⟨.inr rfl, rfl, rfl, rfl⟩
   ·have h := of_false h hc5
    refine V_skip ?_
    show V _ _ _ _
    obtain ⟨y6, hy6, h⟩ := of_bind h
    obtain ⟨delta7, hdelta7, h⟩ := of_sI h
    refine V_sreg (mb 32 38) [16] (s1 := ⟨.bot :: I vn2 :: .pt 16 0 :: .bot :: .bot :: I delta7 :: bt 26 [], [(16, .box [Ti x1.1, Ti x1.2])]⟩) ?_ ?_
    ·refine L0 rfl rfl (E_move (I vn2) rfl (by kernel_rfl)) ?_
     refine L1 rfl rfl (Y1_call (s_impl_mod hy6) cf_impl_mod rfl (by kernel_rfl)) ?_
     refine L0 rfl rfl (Y0_sub64 (a := 2) (b := y6) rfl (by kernel_rfl) (by kernel_rfl)) ?_
     refine L0 rfl rfl (E_assign (I (w64 (2 - y6))) rfl (by kernel_rfl)) ?_
     refine XL_nil ?_
     subst hdelta7
     kernel_rfl
    refine V_seq ?_
    refine V_sreg (mb 32 1048610) [] (s1 := ⟨.bot :: I vn2 :: bt 3 (I delta7 :: bt 14 (I x1.1 :: bt 11 [])), []⟩) ?_ ?_
    ·refine L0 rfl rfl (E_field (.pt 16 0) Try.underlying94 rfl sz3 rfl (by kernel_rfl) (by intro hh; cases hh)) ?_
     refine L0 rfl rfl (Y0_load1 (c := Ti x1.1) (cs := [Ti x1.2]) sc3 rfl (by kernel_rfl)) ?_
     refine XL_nil ?_
     kernel_rfl
    refine V_block ?_
    refine V_sreg (mb 32 3145762) [] (s1 := ⟨.bot :: I vn2 :: bt 3 (I delta7 :: bt 14 (I x1.1 :: Bo (eqI x1.1 2) :: bt 10 [])), []⟩) ?_ ?_
    ·refine L0 rfl rfl (Y0_eqw (k := .i64) (a := x1.1) (b := 2) rfl (by kernel_rfl) (by kernel_rfl)) ?_
     refine L0 rfl rfl (E_assign (Bo (eqI x1.1 2)) rfl (by kernel_rfl)) ?_
     refine XL_nil ?_
     kernel_rfl
    refine V_cond rfl (fun hc8 => ?_) (fun hc8 => ?_)
    ·have h := of_true h hc8
     refine V_sreg (mb 32 16) [] (s1 := ⟨bt 4 (I delta7 :: bt 27 []), []⟩) ?_ ?_
     ·refine L0 rfl rfl (E_move (I delta7) rfl (by kernel_rfl)) ?_
      refine L0 rfl rfl (E_assign (I delta7) rfl (by kernel_rfl)) ?_
      refine XL_nil ?_
      kernel_rfl
     refine V_ret ?_
     obtain rfl := some_inj h
     show Post _ _ _ _ _
     exact ⟨.inr rfl, rfl, rfl, rfl⟩
    ·have h := of_false h hc8
     refine V_sreg (mb 32 16777250) [] (s1 := ⟨.bot :: I vn2 :: bt 3 (I delta7 :: bt 18 (Bo (eqI x1.1 3) :: bt 7 [])), []⟩) ?_ ?_
     ·refine L0 rfl rfl (Y0_eqw (k := .i64) (a := x1.1) (b := 3) rfl (by kernel_rfl) (by kernel_rfl)) ?_
      refine L0 rfl rfl (E_assign (Bo (eqI x1.1 3)) rfl (by kernel_rfl)) ?_
      refine XL_nil ?_
      kernel_rfl
     refine V_cond rfl (fun hc9 => ?_) (fun hc9 => ?_)
     ·have h := of_true h hc9
      obtain ⟨y10, hy10, h⟩ := of_bind h
      refine V_sreg (mb 32 16) [] (s1 := ⟨bt 4 (I y10 :: bt 27 []), []⟩) ?_ ?_
      ·refine L0 rfl rfl (E_move (I vn2) rfl (by kernel_rfl)) ?_
       refine L1 rfl rfl (Y1_call (s_impl_symbolOfTwo hy10) cf_impl_symbolOfTwo rfl (by kernel_rfl)) ?_
       refine L0 rfl rfl (E_assign (I y10) rfl (by kernel_rfl)) ?_
       refine XL_nil ?_
       kernel_rfl
      refine V_ret ?_
      obtain rfl := some_inj h
      show Post _ _ _ _ _
      exact ⟨.inr rfl, rfl, rfl, rfl⟩
     ·have h := of_false h hc9
      refine V_skip ?_
      show V _ _ _ _
      obtain ⟨y11, hy11, h⟩ := of_bind h
      obtain ⟨t12, ht12, h⟩ := of_sI h
      refine V_sreg (mb 32 16) [] (s1 := ⟨bt 4 (I t12 :: bt 27 []), []⟩) ?_ ?_
      ·refine L0 rfl rfl (E_move (I delta7) rfl (by kernel_rfl)) ?_
       refine L0 rfl rfl (E_move (I vn2) rfl (by kernel_rfl)) ?_
       refine L1 rfl rfl (Y1_call (s_impl_symbolOfTwo hy11) cf_impl_symbolOfTwo rfl (by kernel_rfl)) ?_
       refine L0 rfl rfl (Y0_mul64 (a := delta7) (b := y11) rfl (by kernel_rfl) (by kernel_rfl)) ?_
       refine L0 rfl rfl (E_assign (I (w64 (delta7 * y11))) rfl (by kernel_rfl)) ?_
       refine XL_nil ?_
       subst ht12
       kernel_rfl
      refine V_ret ?_
      obtain rfl := some_inj h
      show Post _ _ _ _ _
      exact ⟨.inr rfl, rfl, rfl, rfl⟩
theorem cf_impl_valuesAt : ∀ args w, (callFunc 73 args).run Try.prog w = .ok (.enter 73 args) w := run_callFunc Try.func73 (by kernel_rfl) (by kernel_rfl)
set_option maxRecDepth 100000 in
set_option maxHeartbeats 400000 in
theorem s_impl_valuesAt {d1 : Int} {vn2 : Int} {r : List Int} (h : r_impl_valuesAt d1 vn2 = some r) : CallS Try.prog 73 [I d1, I vn2] (.ow 0) [(0, .arr 3 1 (r.map c3))] := by
  refine CallS_of_text (rs := [.t 4]) (vs := [.tmp 4]) Try.func73 rfl rfl (.cons rfl FitsL.nil) (by decide) 24 rfl ?_
  unfold r_impl_valuesAt at h
  show V _ _ ⟨I d1 :: I vn2 :: bt 22 [], []⟩ _
  refine V_sreg (mb 24 3) [] (s1 := ⟨I d1 :: I vn2 :: bt 22 [], []⟩) ?_ ?_
  ·refine L1 rfl rfl (Y1_nil (e := 3) 1 (by decide) (.inl rfl)) ?_
   refine XL_nil ?_
   kernel_rfl
  refine V_sreg (mb 24 35) [64] (s1 := ⟨I d1 :: I vn2 :: bt 3 (.ow 64 :: bt 18 []), [(64, .arr 3 1 ((([] : List Int)).map c3))]⟩) ?_ ?_
  ·refine L1 rfl rfl (Y1_bslice0 Try.underlying28 sz3 (by decide) rfl rfl) ?_
   refine L0 rfl rfl (E_assign (.ow 64) rfl (by kernel_rfl)) ?_
   refine XL_nil ?_
   kernel_rfl
  refine V_seq ?_
  obtain ⟨y3, hy3, h⟩ := of_bind h
  refine V_sreg (mb 24 7202) [80, 64] (s1 := ⟨.bot :: I vn2 :: bt 3 (.ow 64 :: bt 4 (.ow 80 :: I ((y3.length : Int)) :: I 0 :: bt 11 [])), [(80, .arr 94 2 (y3.map c94)), (64, .arr 3 1 ((([] : List Int)).map c3))]⟩) ?_ ?_
  ·refine L0 rfl rfl (E_move (I d1) rfl (by kernel_rfl)) ?_
   refine L1 rfl rfl (Y1_call (s_impl_assigned hy3) cf_impl_assigned rfl (by kernel_rfl)) ?_
   refine L0 rfl rfl (Y0_lenM (c := c94) (xs := y3) Try.underlying91 rfl (by kernel_rfl)) ?_
   refine L0 rfl rfl (E_move (I 0) rfl (by kernel_rfl)) ?_
   refine XL_nil ?_
   kernel_rfl
  obtain ⟨o7, hLo7, h⟩ := of_bind h
  refine V_toK (mb 24 32) [64] (s1 := ⟨bt 5 (.ow 64 :: bt 18 []), [(64, .arr 3 1 (o7.map c3))]⟩) ?_ ?_
  ·clear h
   refine V_block (V_loop (fun n s => ∃ (t4 : Int) (l5 : List Int), s.keep (mb 24 7202) [80, 64] = (⟨.bot :: I vn2 :: bt 3 (.ow 64 :: bt 4 (.ow 80 :: I ((y3.length : Int)) :: I t4 :: bt 11 [])), [(80, .arr 94 2 (y3.map c94)), (64, .arr 3 1 (l5.map c3))]⟩ : St) ∧ r_impl_valuesAt_L6 vn2 y3 n t4 l5 = some o7) FU ⟨_, _,  by rfl, hLo7⟩ ?_)
   clear hLo7
   rintro n s ⟨t4, l5, hs, h⟩
   refine V_keep _ _ hs ?_
   clear hs
   cases n with
   | zero => cases h
   | succ n =>
    rw [r_impl_valuesAt_L6] at h
    refine V_sreg (mb 24 15394) [80, 64] (s1 := ⟨.bot :: I vn2 :: bt 3 (.ow 64 :: bt 4 (.ow 80 :: I ((y3.length : Int)) :: I t4 :: Bo (ltI t4 ((y3.length : Int))) :: bt 10 [])), [(80, .arr 94 2 (y3.map c94)), (64, .arr 3 1 (l5.map c3))]⟩) ?_ ?_
    ·refine L0 rfl rfl (Y0_ltw (k := .i64) (a := t4) (b := (y3.length : Int)) rfl (by kernel_rfl) (by kernel_rfl)) ?_
     refine XL_nil ?_
     kernel_rfl
    refine V_seq ?_
    refine V_cond rfl (fun hc8 => ?_) (fun hc8 => ?_)
    ·have h := of_true h hc8
     refine V_skip ?_
     show V _ _ _ _
     refine V_seq ?_
     refine V_block ?_
     obtain ⟨e9, he9, h⟩ := of_bind h
     obtain ⟨e10, he10, h⟩ := of_bind h
     refine V_sreg (mb 24 7330) [56, 80, 64] (s1 := ⟨.bot :: I vn2 :: bt 3 (.ow 64 :: .bot :: .pt 56 0 :: .bot :: .bot :: .ow 80 :: I ((y3.length : Int)) :: I t4 :: bt 11 []), [(56, .box [Ti e10.1, Ti e10.2]), (80, .arr 94 2 (y3.map c94)), (64, .arr 3 1 (l5.map c3))]⟩) ?_ ?_
     ·refine L0 rfl rfl (Y0_idxoM (c := c94) (xs := y3) (v := e9) (id := 80) (T := 94) (sz := 2) (n := t4) Try.underlying91 sz94 rfl (by kernel_rfl) (by kernel_rfl) (by kernel_rfl) he9) ?_
      refine L0 rfl rfl (E_loadon (c := c94) (xs := y3) (v := e10) (id := 80) (sz := 2) (T := 94) (off := 0) (n := t4) [Ti e10.1, Ti e10.2] wd94 rfl (by kernel_rfl) (by kernel_rfl) he10 (Nat.le_of_ble_eq_true rfl) (by kernel_rfl)) ?_
      refine L1 rfl rfl (Y1_alloc (z := zv94) rfl zf94 rfl) ?_
      refine XL_cons rfl (E_store (id := 56) (off := 0) (cs := [Ti 0, Ti 0]) (vc := [Ti e10.1, Ti e10.2]) [Ti e10.1, Ti e10.2] rfl rfl (by kernel_rfl) (by kernel_rfl) (by kernel_rfl) sz94 (Nat.le_of_ble_eq_true rfl) (by kernel_rfl)) ?_
      refine XL_nil ?_
      kernel_rfl
     obtain ⟨y11, hy11, h⟩ := of_bind h
     obtain ⟨u12, hu12, h⟩ := of_bind h
     refine V_reg (mb 24 7202) [80, 64] (s1 := ⟨.bot :: I vn2 :: bt 3 (.ow 64 :: bt 4 (.ow 80 :: I ((y3.length : Int)) :: I t4 :: bt 11 [])), [(80, .arr 94 2 (y3.map c94)), (64, .arr 3 1 ((l5 ++ ([y11])).map c3))]⟩) ?_ ?_
     ·refine L0 rfl rfl (E_move (.ow 64) rfl (by kernel_rfl)) ?_
      refine L0 rfl rfl (E_loadn (cs := [Ti e10.1, Ti e10.2]) [Ti e10.1, Ti e10.2] wd94 rfl (by kernel_rfl) (Nat.le_of_ble_eq_true rfl) (by kernel_rfl)) ?_
      refine L0 rfl rfl (E_move (I vn2) rfl (by kernel_rfl)) ?_
      refine L1 rfl rfl (Y1_call (s_impl_Character_value hy11) cf_impl_Character_value rfl (by kernel_rfl)) ?_
      refine L1 rfl rfl (Y1_bslice (z := zv3) (els := [y11].map c3) Try.underlying28 iz3 rfl (by decide) rfl (by kernel_rfl) rfl (by simp [c3]) (by decide) (by decide)) ?_
      refine XL_cons rfl (X_appendM (c := c3) (xs := l5) (ys := [y11]) (id := 64) (z := zv3) rfl rfl Try.underlying28 izb3 rfl (by kernel_rfl) (by kernel_rfl) (by kernel_rfl) (fun _ => rfl) (by simp) (room_some hu12) (by decide)) ?_
      refine L0 rfl rfl (E_assign (.ow 64) rfl (by kernel_rfl)) ?_
      refine XL_nil ?_
      kernel_rfl
     show V _ _ _ _
     obtain ⟨t13, ht13, h⟩ := of_sI h
     refine V_reg (mb 24 7202) [80, 64] (s1 := ⟨.bot :: I vn2 :: bt 3 (.ow 64 :: bt 4 (.ow 80 :: I ((y3.length : Int)) :: I t13 :: bt 11 [])), [(80, .arr 94 2 (y3.map c94)), (64, .arr 3 1 ((l5 ++ ([y11])).map c3))]⟩) ?_ ?_
     ·refine L0 rfl rfl (Y0_add64 (a := t4) (b := 1) rfl (by kernel_rfl) (by kernel_rfl)) ?_
      refine L0 rfl rfl (E_move (I (w64 (t4 + 1))) rfl (by kernel_rfl)) ?_
      refine XL_nil ?_
      subst ht13
      kernel_rfl
     exact ⟨n, Nat.lt_succ_self n, _, _,  by rfl, h⟩
    ·have h := of_false h hc8
     refine V_exit ?_
     obtain rfl := some_inj h
     show St.keep _ _ _ = _
     rfl
  show V _ _ _ _
  refine V_sreg (mb 24 16) [64] (s1 := ⟨bt 4 (.ow 64 :: bt 19 []), [(64, .arr 3 1 (o7.map c3))]⟩) ?_ ?_
  ·refine L0 rfl rfl (E_move (.ow 64) rfl (by kernel_rfl)) ?_
   refine L0 rfl rfl (E_assign (.ow 64) rfl (by kernel_rfl)) ?_
   refine XL_nil ?_
   kernel_rfl
  refine V_ret ?_
  obtain rfl := some_inj h
  show Post _ _ _ _ _
  exact ⟨.inr rfl, rfl, rfl, rfl⟩
theorem cf_impl_genusValues : ∀ args w, (callFunc 82 args).run Try.prog w = .ok (.enter 82 args) w := run_callFunc Try.func82 (by kernel_rfl) (by kernel_rfl)
set_option maxRecDepth 100000 in
set_option maxHeartbeats 400000 in
theorem s_impl_genusValues {f1 : (Int × Int × Int)} {r : List Int} (h : r_impl_genusValues f1 = some r) : CallS Try.prog 82 [.ag [Ti f1.1, Ti f1.2.1, Ti f1.2.2]] (.ow 0) [(0, .arr 3 1 (r.map c3))] := by
  refine CallS_of_text (rs := [.t 2]) (vs := [.tmp 2]) Try.func82 rfl rfl (.cons rfl FitsL.nil) (by decide) 24 rfl ?_
  unfold r_impl_genusValues at h
  show V _ _ ⟨.ag [Ti f1.1, Ti f1.2.1, Ti f1.2.2] :: bt 23 [], []⟩ _
  refine V_sreg (mb 24 2) [8] (s1 := ⟨.bot :: .pt 8 0 :: bt 22 [], [(8, .box [Ti f1.1, Ti f1.2.1, Ti f1.2.2])]⟩) ?_ ?_
  ·refine L1 rfl rfl (Y1_box (cs := [Ti f1.1, Ti f1.2.1, Ti f1.2.2]) rfl (by kernel_rfl)) ?_
   refine L1 rfl rfl (Y1_nil (e := 3) 1 (by decide) (.inl rfl)) ?_
   refine XL_nil ?_
   kernel_rfl
  obtain ⟨y2, hy2, h⟩ := of_bind h
  refine V_sreg (mb 24 8) [24] (s1 := ⟨bt 3 (.pt 24 0 :: bt 20 []), [(24, .box [Ti y2.1, Ti y2.2.1, Ti y2.2.2])]⟩) ?_ ?_
  ·refine L0 rfl rfl (E_loadn (cs := [Ti f1.1, Ti f1.2.1, Ti f1.2.2]) [Ti f1.1, Ti f1.2.1, Ti f1.2.2] wd43 rfl (by kernel_rfl) (Nat.le_of_ble_eq_true rfl) (by kernel_rfl)) ?_
   refine L1 rfl rfl (Y1_call (s_impl_reduced hy2) cf_impl_reduced rfl (by kernel_rfl)) ?_
   refine L1 rfl rfl (Y1_alloc (z := zv43) rfl zf43 rfl) ?_
   refine XL_cons rfl (E_store (id := 24) (off := 0) (cs := [Ti 0, Ti 0, Ti 0]) (vc := [Ti y2.1, Ti y2.2.1, Ti y2.2.2]) [Ti y2.1, Ti y2.2.1, Ti y2.2.2] rfl rfl (by kernel_rfl) (by kernel_rfl) (by kernel_rfl) sz43 (Nat.le_of_ble_eq_true rfl) (by kernel_rfl)) ?_
   refine XL_nil ?_
   kernel_rfl
  obtain ⟨y3, hy3, h⟩ := of_bind h
  refine V_sreg (mb 24 24) [24] (s1 := ⟨bt 3 (.pt 24 0 :: I y3 :: bt 19 []), [(24, .box [Ti y2.1, Ti y2.2.1, Ti y2.2.2])]⟩) ?_ ?_
  ·refine L0 rfl rfl (E_loadn (cs := [Ti y2.1, Ti y2.2.1, Ti y2.2.2]) [Ti y2.1, Ti y2.2.1, Ti y2.2.2] wd43 rfl (by kernel_rfl) (Nat.le_of_ble_eq_true rfl) (by kernel_rfl)) ?_
   refine L1 rfl rfl (Y1_call (s_impl_Form_disc hy3) cf_impl_Form_disc rfl (by kernel_rfl)) ?_
   refine L0 rfl rfl (E_assign (I y3) rfl (by kernel_rfl)) ?_
   refine XL_nil ?_
   kernel_rfl
  obtain ⟨y4, hy4, h⟩ := of_bind h
  refine V_sreg (mb 24 120) [24] (s1 := ⟨bt 3 (.pt 24 0 :: I y3 :: I y4.1 :: I y4.2 :: bt 17 []), [(24, .box [Ti y2.1, Ti y2.2.1, Ti y2.2.2])]⟩) ?_ ?_
  ·refine L0 rfl rfl (E_loadn (cs := [Ti y2.1, Ti y2.2.1, Ti y2.2.2]) [Ti y2.1, Ti y2.2.1, Ti y2.2.2] wd43 rfl (by kernel_rfl) (Nat.le_of_ble_eq_true rfl) (by kernel_rfl)) ?_
   refine L0 rfl rfl (E_move (I y3) rfl (by kernel_rfl)) ?_
   refine L0 rfl rfl (Y0_mul64 (a := 2) (b := y3) rfl (by kernel_rfl) (by kernel_rfl)) ?_
   refine L1 rfl rfl (Y1_call (s_impl_firstPoint hy4) cf_impl_firstPoint rfl (by kernel_rfl)) ?_
   refine L0 rfl rfl (E_move (.tc (I y4.1) (.tc (I y4.2) .tn)) rfl (by kernel_rfl)) ?_
   refine L0 rfl rfl (E_ext (n := 0) (I y4.1) (.tc (I y4.2) .tn) (I y4.1) rfl (by kernel_rfl) (by kernel_rfl) (by intro hh; cases hh)) ?_
   refine L0 rfl rfl (E_ext (n := 1) (I y4.1) (.tc (I y4.2) .tn) (I y4.2) rfl (by kernel_rfl) (by kernel_rfl) (by intro hh; cases hh)) ?_
   refine L0 rfl rfl (E_assign (I y4.1) rfl (by kernel_rfl)) ?_
   refine L0 rfl rfl (E_assign (I y4.2) rfl (by kernel_rfl)) ?_
   refine XL_nil ?_
   kernel_rfl
  obtain ⟨y5, hy5, h⟩ := of_bind h
  obtain ⟨y6, hy6, h⟩ := of_bind h
  refine V_sreg (mb 24 4) [184] (s1 := ⟨.bot :: .bot :: .ow 184 :: bt 21 [], [(184, .arr 3 1 (y6.map c3))]⟩) ?_ ?_
  ·refine L0 rfl rfl (E_move (I y3) rfl (by kernel_rfl)) ?_
   refine L0 rfl rfl (E_loadn (cs := [Ti y2.1, Ti y2.2.1, Ti y2.2.2]) [Ti y2.1, Ti y2.2.1, Ti y2.2.2] wd43 rfl (by kernel_rfl) (Nat.le_of_ble_eq_true rfl) (by kernel_rfl)) ?_
   refine L0 rfl rfl (E_move (I y4.1) rfl (by kernel_rfl)) ?_
   refine L0 rfl rfl (E_move (I y4.2) rfl (by kernel_rfl)) ?_
   refine L1 rfl rfl (Y1_call (s_impl_Form_at hy5) cf_impl_Form_at rfl (by kernel_rfl)) ?_
   refine L1 rfl rfl (Y1_call (s_impl_valuesAt hy6) cf_impl_valuesAt rfl (by kernel_rfl)) ?_
   refine L0 rfl rfl (E_assign (.ow 184) rfl (by kernel_rfl)) ?_
   refine XL_nil ?_
   kernel_rfl
  refine V_ret ?_
  obtain rfl := some_inj h
  show Post _ _ _ _ _
  exact ⟨.inr rfl, rfl, rfl, rfl⟩
theorem cf_impl_sameValues : ∀ args w, (callFunc 129 args).run Try.prog w = .ok (.enter 129 args) w := run_callFunc Try.func129 (by kernel_rfl) (by kernel_rfl)
set_option maxRecDepth 100000 in
set_option maxHeartbeats 400000 in
theorem s_impl_sameValues {x1 : List Int} {y2 : List Int} {r : Bool} (h : r_impl_sameValues x1 y2 = some r) : CallS Try.prog 129 [.c (.sl (x1.map c3)), .c (.sl (y2.map c3))] (Bo r) [] := by
  refine CallS_of_text (rs := [.t 4]) (vs := [.tmp 4]) Try.func129 rfl rfl (.cons rfl FitsL.nil) (by decide) 26 rfl ?_
  unfold r_impl_sameValues at h
  show V _ _ ⟨.c (.sl (x1.map c3)) :: .c (.sl (y2.map c3)) :: bt 24 [], []⟩ _
  refine V_sreg (mb 26 3) [] (s1 := ⟨.c (.sl (x1.map c3)) :: .c (.sl (y2.map c3)) :: bt 24 [], []⟩) ?_ ?_
  ·refine L0 rfl rfl (E_assign (Bo false) rfl (by kernel_rfl)) ?_
   refine XL_nil ?_
   kernel_rfl
  refine V_seq ?_
  refine V_sreg (mb 26 2051) [] (s1 := ⟨.c (.sl (x1.map c3)) :: .c (.sl (y2.map c3)) :: bt 9 (Bo (!eqI ((x1.length : Int)) ((y2.length : Int))) :: bt 14 []), []⟩) ?_ ?_
  ·refine L0 rfl rfl (E_move (.c (.sl (x1.map c3))) rfl (by kernel_rfl)) ?_
   refine L0 rfl rfl (Y0_lenM (c := c3) (xs := x1) Try.underlying28 rfl (by kernel_rfl)) ?_
   refine L0 rfl rfl (E_move (.c (.sl (y2.map c3))) rfl (by kernel_rfl)) ?_
   refine L0 rfl rfl (Y0_lenM (c := c3) (xs := y2) Try.underlying28 rfl (by kernel_rfl)) ?_
   refine L0 rfl rfl (Y0_new (k := .i64) (a := (x1.length : Int)) (b := (y2.length : Int)) rfl (by kernel_rfl) (by kernel_rfl)) ?_
   refine XL_nil ?_
   kernel_rfl
  refine V_cond rfl (fun hc3 => ?_) (fun hc3 => ?_)
  ·have h := of_true h hc3
   refine V_sreg (mb 26 16) [] (s1 := ⟨bt 4 (Bo false :: bt 21 []), []⟩) ?_ ?_
   ·refine L0 rfl rfl (E_assign (Bo false) rfl (by kernel_rfl)) ?_
    refine XL_nil ?_
    kernel_rfl
   refine V_ret ?_
   obtain rfl := some_inj h
   show Post _ _ _ _ _
   exact ⟨.inr rfl, rfl, rfl, rfl⟩
  ·have h := of_false h hc3
   refine V_skip ?_
   show V _ _ _ _
   refine V_seq ?_
   refine V_sreg (mb 26 28674) [] (s1 := ⟨.bot :: .c (.sl (y2.map c3)) :: bt 10 (.c (.sl (x1.map c3)) :: I ((x1.length : Int)) :: I 0 :: bt 11 []), []⟩) ?_ ?_
   ·refine L0 rfl rfl (E_move (.c (.sl (x1.map c3))) rfl (by kernel_rfl)) ?_
    refine L0 rfl rfl (Y0_lenM (c := c3) (xs := x1) Try.underlying28 rfl (by kernel_rfl)) ?_
    refine L0 rfl rfl (E_move (I 0) rfl (by kernel_rfl)) ?_
    refine XL_nil ?_
    kernel_rfl
   obtain ⟨qo6, hLo6, hko6⟩ := of_bind h
   refine V_toS (q := qo6) (S := fun o6 => ⟨bt 26 [], []⟩) (mb 26 0) [] ?_ ?_
   ·refine V_block (V_loop (fun n s => ∃ (t4 : Int), s.keep (mb 26 28674) [] = (⟨.bot :: .c (.sl (y2.map c3)) :: bt 10 (.c (.sl (x1.map c3)) :: I ((x1.length : Int)) :: I t4 :: bt 11 []), []⟩ : St) ∧ r_impl_sameValues_L5 x1 y2 n t4 = some qo6) FU ⟨_,  by rfl, hLo6⟩ ?_)
    clear hLo6
    rintro n s ⟨t4, hs, h⟩
    refine V_keep _ _ hs ?_
    clear hs
    cases n with
    | zero => cases h
    | succ n =>
     rw [r_impl_sameValues_L5] at h
     refine V_sreg (mb 26 61442) [] (s1 := ⟨.bot :: .c (.sl (y2.map c3)) :: bt 10 (.c (.sl (x1.map c3)) :: I ((x1.length : Int)) :: I t4 :: Bo (ltI t4 ((x1.length : Int))) :: bt 10 []), []⟩) ?_ ?_
     ·refine L0 rfl rfl (Y0_ltw (k := .i64) (a := t4) (b := (x1.length : Int)) rfl (by kernel_rfl) (by kernel_rfl)) ?_
      refine XL_nil ?_
      kernel_rfl
     refine V_seq ?_
     refine V_cond rfl (fun hc7 => ?_) (fun hc7 => ?_)
     ·have h := of_true h hc7
      refine V_skip ?_
      show V _ _ _ _
      refine V_seq ?_
      refine V_block ?_
      obtain ⟨e8, he8, h⟩ := of_bind h
      refine V_sreg (mb 26 28770) [] (s1 := ⟨.bot :: .c (.sl (y2.map c3)) :: bt 3 (I t4 :: I e8 :: bt 5 (.c (.sl (x1.map c3)) :: I ((x1.length : Int)) :: I t4 :: bt 11 [])), []⟩) ?_ ?_
      ·refine L0 rfl rfl (E_move (I t4) rfl (by kernel_rfl)) ?_
       refine L0 rfl rfl (Y0_idxM (c := c3) (xs := x1) (v := e8) (n := t4) Try.underlying28 sz3 rfl (by kernel_rfl) (by kernel_rfl) he8) ?_
       refine L0 rfl rfl (Y0_load1 (c := Ti e8) (cs := []) sc3 rfl (by kernel_rfl)) ?_
       refine L0 rfl rfl (E_assign (I t4) rfl (by kernel_rfl)) ?_
       refine L0 rfl rfl (E_assign (I e8) rfl (by kernel_rfl)) ?_
       refine XL_nil ?_
       kernel_rfl
      obtain ⟨e9, he9, h⟩ := of_bind h
      refine V_sreg (mb 26 16805890) [] (s1 := ⟨.bot :: .c (.sl (y2.map c3)) :: bt 10 (.c (.sl (x1.map c3)) :: I ((x1.length : Int)) :: I t4 :: bt 9 (Bo (!eqI e9 e8) :: .bot :: [])), []⟩) ?_ ?_
      ·refine L0 rfl rfl (E_move (.c (.sl (y2.map c3))) rfl (by kernel_rfl)) ?_
       refine L0 rfl rfl (E_move (I t4) rfl (by kernel_rfl)) ?_
       refine L0 rfl rfl (Y0_idxM (c := c3) (xs := y2) (v := e9) (n := t4) Try.underlying28 sz3 rfl (by kernel_rfl) (by kernel_rfl) he9) ?_
       refine L0 rfl rfl (Y0_load1 (c := Ti e9) (cs := []) sc3 rfl (by kernel_rfl)) ?_
       refine L0 rfl rfl (E_move (I e8) rfl (by kernel_rfl)) ?_
       refine L0 rfl rfl (Y0_new (k := .i64) (a := e9) (b := e8) rfl (by kernel_rfl) (by kernel_rfl)) ?_
       refine XL_nil ?_
       kernel_rfl
      refine V_cond rfl (fun hc10 => ?_) (fun hc10 => ?_)
      ·have h := of_true h hc10
       refine V_sreg (mb 26 16) [] (s1 := ⟨bt 4 (Bo false :: bt 21 []), []⟩) ?_ ?_
       ·refine L0 rfl rfl (E_assign (Bo false) rfl (by kernel_rfl)) ?_
        refine XL_nil ?_
        kernel_rfl
       refine V_ret ?_
       obtain rfl := some_inj h
       have h := hko6
       obtain rfl := some_inj h
       show Post _ _ _ _ _
       exact ⟨.inr rfl, rfl, rfl, rfl⟩
      ·have h := of_false h hc10
       refine V_skip ?_
       show V _ _ _ _
       obtain ⟨t11, ht11, h⟩ := of_sI h
       refine V_reg (mb 26 28674) [] (s1 := ⟨.bot :: .c (.sl (y2.map c3)) :: bt 10 (.c (.sl (x1.map c3)) :: I ((x1.length : Int)) :: I t11 :: bt 11 []), []⟩) ?_ ?_
       ·refine L0 rfl rfl (Y0_add64 (a := t4) (b := 1) rfl (by kernel_rfl) (by kernel_rfl)) ?_
        refine L0 rfl rfl (E_move (I (w64 (t4 + 1))) rfl (by kernel_rfl)) ?_
        refine XL_nil ?_
        subst ht11
        kernel_rfl
       exact ⟨n, Nat.lt_succ_self n, _,  by rfl, h⟩
     ·have h := of_false h hc7
      refine V_exit ?_
      obtain rfl := some_inj h
      exact ⟨_, rfl, by rfl⟩
   rintro o6 rfl
   have h := hko6
   clear hko6
   show V _ _ _ _
   refine V_sreg (mb 26 16) [] (s1 := ⟨bt 4 (Bo true :: bt 21 []), []⟩) ?_ ?_
   ·refine L0 rfl rfl (E_assign (Bo true) rfl (by kernel_rfl)) ?_
    refine XL_nil ?_
    kernel_rfl
   refine V_ret ?_
   obtain rfl := some_inj h
   show Post _ _ _ _ _
   exact ⟨.inr rfl, rfl, rfl, rfl⟩
theorem cf_impl_genusWith : ∀ args w, (callFunc 103 args).run Try.prog w = .ok (.enter 103 args) w := run_callFunc Try.func103 (by kernel_rfl) (by kernel_rfl)
set_option maxRecDepth 100000 in
set_option maxHeartbeats 400000 in
theorem s_impl_genusWith {d1 : Int} {values2 : List Int} {r : List ((Int × Int × Int))} (h : r_impl_genusWith d1 values2 = some r) : CallS Try.prog 103 [I d1, .c (.sl (values2.map c3))] (.ow 0) [(0, .arr 43 3 (r.map c43))] := by
  refine CallS_of_text (rs := [.t 4]) (vs := [.tmp 4]) Try.func103 rfl rfl (.cons rfl FitsL.nil) (by decide) 26 rfl ?_
  unfold r_impl_genusWith at h
  show V _ _ ⟨I d1 :: .c (.sl (values2.map c3)) :: bt 24 [], []⟩ _
  refine V_sreg (mb 26 3) [] (s1 := ⟨I d1 :: .c (.sl (values2.map c3)) :: bt 24 [], []⟩) ?_ ?_
  ·refine L1 rfl rfl (Y1_nil (e := 43) 3 (by decide) (.inl rfl)) ?_
   refine XL_nil ?_
   kernel_rfl
  refine V_sreg (mb 26 35) [64] (s1 := ⟨I d1 :: .c (.sl (values2.map c3)) :: bt 3 (.ow 64 :: bt 20 []), [(64, .arr 43 3 ((([] : List ((Int × Int × Int)))).map c43))]⟩) ?_ ?_
  ·refine L1 rfl rfl (Y1_bslice0 Try.underlying40 sz43 (by decide) rfl rfl) ?_
   refine L0 rfl rfl (E_assign (.ow 64) rfl (by kernel_rfl)) ?_
   refine XL_nil ?_
   kernel_rfl
  refine V_seq ?_
  obtain ⟨y3, hy3, h⟩ := of_bind h
  refine V_sreg (mb 26 7202) [80, 64] (s1 := ⟨.bot :: .c (.sl (values2.map c3)) :: bt 3 (.ow 64 :: bt 4 (.ow 80 :: I ((y3.length : Int)) :: I 0 :: bt 13 [])), [(80, .arr 43 3 (y3.map c43)), (64, .arr 43 3 ((([] : List ((Int × Int × Int)))).map c43))]⟩) ?_ ?_
  ·refine L0 rfl rfl (E_move (I d1) rfl (by kernel_rfl)) ?_
   refine L1 rfl rfl (Y1_call (s_impl_reducedForms hy3) cf_impl_reducedForms rfl (by kernel_rfl)) ?_
   refine L0 rfl rfl (Y0_lenM (c := c43) (xs := y3) Try.underlying40 rfl (by kernel_rfl)) ?_
   refine L0 rfl rfl (E_move (I 0) rfl (by kernel_rfl)) ?_
   refine XL_nil ?_
   kernel_rfl
  obtain ⟨o7, hLo7, h⟩ := of_bind h
  refine V_toK (mb 26 32) [64] (s1 := ⟨bt 5 (.ow 64 :: bt 20 []), [(64, .arr 43 3 (o7.map c43))]⟩) ?_ ?_
  ·clear h
   refine V_block (V_loop (fun n s => ∃ (t4 : Int) (l5 : List ((Int × Int × Int))), s.keep (mb 26 7202) [80, 64] = (⟨.bot :: .c (.sl (values2.map c3)) :: bt 3 (.ow 64 :: bt 4 (.ow 80 :: I ((y3.length : Int)) :: I t4 :: bt 13 [])), [(80, .arr 43 3 (y3.map c43)), (64, .arr 43 3 (l5.map c43))]⟩ : St) ∧ r_impl_genusWith_L6 values2 y3 n t4 l5 = some o7) FU ⟨_, _,  by rfl, hLo7⟩ ?_)
   clear hLo7
   rintro n s ⟨t4, l5, hs, h⟩
   refine V_keep _ _ hs ?_
   clear hs
   cases n with
   | zero => cases h
   | succ n =>
    rw [r_impl_genusWith_L6] at h
    refine V_sreg (mb 26 15394) [80, 64] (s1 := ⟨.bot :: .c (.sl (values2.map c3)) :: bt 3 (.ow 64 :: bt 4 (.ow 80 :: I ((y3.length : Int)) :: I t4 :: Bo (ltI t4 ((y3.length : Int))) :: bt 12 [])), [(80, .arr 43 3 (y3.map c43)), (64, .arr 43 3 (l5.map c43))]⟩) ?_ ?_
    ·refine L0 rfl rfl (Y0_ltw (k := .i64) (a := t4) (b := (y3.length : Int)) rfl (by kernel_rfl) (by kernel_rfl)) ?_
     refine XL_nil ?_
     kernel_rfl
    refine V_seq ?_
    refine V_cond rfl (fun hc8 => ?_) (fun hc8 => ?_)
    ·have h := of_true h hc8
     refine V_skip ?_
     show V _ _ _ _
     refine V_seq ?_
     refine V_block ?_
     obtain ⟨e9, he9, h⟩ := of_bind h
     obtain ⟨e10, he10, h⟩ := of_bind h
     refine V_sreg (mb 26 7330) [56, 80, 64] (s1 := ⟨.bot :: .c (.sl (values2.map c3)) :: bt 3 (.ow 64 :: .bot :: .pt 56 0 :: .bot :: .bot :: .ow 80 :: I ((y3.length : Int)) :: I t4 :: bt 13 []), [(56, .box [Ti e10.1, Ti e10.2.1, Ti e10.2.2]), (80, .arr 43 3 (y3.map c43)), (64, .arr 43 3 (l5.map c43))]⟩) ?_ ?_
     ·refine L0 rfl rfl (Y0_idxoM (c := c43) (xs := y3) (v := e9) (id := 80) (T := 43) (sz := 3) (n := t4) Try.underlying40 sz43 rfl (by kernel_rfl) (by kernel_rfl) (by kernel_rfl) he9) ?_
      refine L0 rfl rfl (E_loadon (c := c43) (xs := y3) (v := e10) (id := 80) (sz := 3) (T := 43) (off := 0) (n := t4) [Ti e10.1, Ti e10.2.1, Ti e10.2.2] wd43 rfl (by kernel_rfl) (by kernel_rfl) he10 (Nat.le_of_ble_eq_true rfl) (by kernel_rfl)) ?_
      refine L1 rfl rfl (Y1_alloc (z := zv43) rfl zf43 rfl) ?_
      refine XL_cons rfl (E_store (id := 56) (off := 0) (cs := [Ti 0, Ti 0, Ti 0]) (vc := [Ti e10.1, Ti e10.2.1, Ti e10.2.2]) [Ti e10.1, Ti e10.2.1, Ti e10.2.2] rfl rfl (by kernel_rfl) (by kernel_rfl) (by kernel_rfl) sz43 (Nat.le_of_ble_eq_true rfl) (by kernel_rfl)) ?_
      refine XL_nil ?_
      kernel_rfl
     obtain ⟨y11, hy11, h⟩ := of_bind h
     obtain ⟨y12, hy12, h⟩ := of_bind h
     refine V_sreg (mb 26 531618) [56, 80, 64] (s1 := ⟨.bot :: .c (.sl (values2.map c3)) :: bt 3 (.ow 64 :: .bot :: .pt 56 0 :: .bot :: .bot :: .ow 80 :: I ((y3.length : Int)) :: I t4 :: bt 6 (Bo y12 :: bt 6 [])), [(56, .box [Ti e10.1, Ti e10.2.1, Ti e10.2.2]), (80, .arr 43 3 (y3.map c43)), (64, .arr 43 3 (l5.map c43))]⟩) ?_ ?_
     ·refine L0 rfl rfl (E_loadn (cs := [Ti e10.1, Ti e10.2.1, Ti e10.2.2]) [Ti e10.1, Ti e10.2.1, Ti e10.2.2] wd43 rfl (by kernel_rfl) (Nat.le_of_ble_eq_true rfl) (by kernel_rfl)) ?_
      refine L1 rfl rfl (Y1_call (s_impl_genusValues hy11) cf_impl_genusValues rfl (by kernel_rfl)) ?_
      refine L0 rfl rfl (E_move (.c (.sl (values2.map c3))) rfl (by kernel_rfl)) ?_
      refine L1 rfl rfl (Y1_callS (s_impl_sameValues hy12) cf_impl_sameValues rfl (by kernel_rfl) rfl rfl) ?_
      refine XL_nil ?_
      kernel_rfl
     refine V_cond rfl (fun hc13 => ?_) (fun hc13 => ?_)
     ·have h := of_true h hc13
      obtain ⟨u14, hu14, h⟩ := of_bind h
      refine V_reg (mb 26 7202) [80, 64] (s1 := ⟨.bot :: .c (.sl (values2.map c3)) :: bt 3 (.ow 64 :: bt 4 (.ow 80 :: I ((y3.length : Int)) :: I t4 :: bt 13 [])), [(80, .arr 43 3 (y3.map c43)), (64, .arr 43 3 ((l5 ++ ([e10])).map c43))]⟩) ?_ ?_
      ·refine L0 rfl rfl (E_move (.ow 64) rfl (by kernel_rfl)) ?_
       refine L0 rfl rfl (E_loadn (cs := [Ti e10.1, Ti e10.2.1, Ti e10.2.2]) [Ti e10.1, Ti e10.2.1, Ti e10.2.2] wd43 rfl (by kernel_rfl) (Nat.le_of_ble_eq_true rfl) (by kernel_rfl)) ?_
       refine L1 rfl rfl (Y1_bslice (z := zv43) (els := [e10].map c43) Try.underlying40 iz43 rfl (by decide) rfl (by kernel_rfl) rfl (by simp [c43]) (by decide) (by decide)) ?_
       refine XL_cons rfl (X_appendM (c := c43) (xs := l5) (ys := [e10]) (id := 64) (z := zv43) rfl rfl Try.underlying40 izb43 rfl (by kernel_rfl) (by kernel_rfl) (by kernel_rfl) (fun _ => rfl) (by simp) (room_some hu14) (by decide)) ?_
       refine L0 rfl rfl (E_assign (.ow 64) rfl (by kernel_rfl)) ?_
       refine XL_nil ?_
       kernel_rfl
      show V _ _ _ _
      obtain ⟨t15, ht15, h⟩ := of_sI h
      refine V_reg (mb 26 7202) [80, 64] (s1 := ⟨.bot :: .c (.sl (values2.map c3)) :: bt 3 (.ow 64 :: bt 4 (.ow 80 :: I ((y3.length : Int)) :: I t15 :: bt 13 [])), [(80, .arr 43 3 (y3.map c43)), (64, .arr 43 3 ((l5 ++ ([e10])).map c43))]⟩) ?_ ?_
      ·refine L0 rfl rfl (Y0_add64 (a := t4) (b := 1) rfl (by kernel_rfl) (by kernel_rfl)) ?_
       refine L0 rfl rfl (E_move (I (w64 (t4 + 1))) rfl (by kernel_rfl)) ?_
       refine XL_nil ?_
       subst ht15
       kernel_rfl
      exact ⟨n, Nat.lt_succ_self n, _, _,  by rfl, h⟩
     ·have h := of_false h hc13
      refine V_skip ?_
      show V _ _ _ _
      obtain ⟨t16, ht16, h⟩ := of_sI h
      refine V_reg (mb 26 7202) [80, 64] (s1 := ⟨.bot :: .c (.sl (values2.map c3)) :: bt 3 (.ow 64 :: bt 4 (.ow 80 :: I ((y3.length : Int)) :: I t16 :: bt 13 [])), [(80, .arr 43 3 (y3.map c43)), (64, .arr 43 3 (l5.map c43))]⟩) ?_ ?_
      ·refine L0 rfl rfl (Y0_add64 (a := t4) (b := 1) rfl (by kernel_rfl) (by kernel_rfl)) ?_
       refine L0 rfl rfl (E_move (I (w64 (t4 + 1))) rfl (by kernel_rfl)) ?_
       refine XL_nil ?_
       subst ht16
       kernel_rfl
      exact ⟨n, Nat.lt_succ_self n, _, _,  by rfl, h⟩
    ·have h := of_false h hc8
     refine V_exit ?_
     obtain rfl := some_inj h
     show St.keep _ _ _ = _
     rfl
  show V _ _ _ _
  refine V_sreg (mb 26 16) [64] (s1 := ⟨bt 4 (.ow 64 :: bt 21 []), [(64, .arr 43 3 (o7.map c43))]⟩) ?_ ?_
  ·refine L0 rfl rfl (E_move (.ow 64) rfl (by kernel_rfl)) ?_
   refine L0 rfl rfl (E_assign (.ow 64) rfl (by kernel_rfl)) ?_
   refine XL_nil ?_
   kernel_rfl
  refine V_ret ?_
  obtain rfl := some_inj h
  show Post _ _ _ _ _
  exact ⟨.inr rfl, rfl, rfl, rfl⟩
theorem cf_impl_genera : ∀ args w, (callFunc 63 args).run Try.prog w = .ok (.enter 63 args) w := run_callFunc Try.func63 (by kernel_rfl) (by kernel_rfl)
set_option maxRecDepth 100000 in
set_option maxHeartbeats 400000 in
theorem s_impl_genera {d1 : Int} {r : List (List ((Int × Int × Int)))} (h : r_impl_genera d1 = some r) : CallS Try.prog 63 [I d1] (.ow 0) [(0, .arr 40 1 (r.map c40))] := by
  refine CallS_of_text (rs := [.t 2]) (vs := [.tmp 2]) Try.func63 rfl rfl (.cons rfl FitsL.nil) (by decide) 30 rfl ?_
  unfold r_impl_genera at h
  show V _ _ ⟨I d1 :: bt 29 [], []⟩ _
  refine V_sreg (mb 30 1) [] (s1 := ⟨I d1 :: bt 29 [], []⟩) ?_ ?_
  ·refine L1 rfl rfl (Y1_nil (e := 40) 1 (by decide) (.inl rfl)) ?_
   refine XL_nil ?_
   kernel_rfl
  refine V_sreg (mb 30 9) [56] (s1 := ⟨I d1 :: .bot :: .bot :: .ow 56 :: bt 26 [], [(56, .arr 40 1 ((([] : List (List ((Int × Int × Int))))).map c40))]⟩) ?_ ?_
  ·refine L1 rfl rfl (Y1_bslice0 Try.underlying37 sz40 (by decide) rfl rfl) ?_
   refine L0 rfl rfl (E_assign (.ow 56) rfl (by kernel_rfl)) ?_
   refine XL_nil ?_
   kernel_rfl
  refine V_seq ?_
  obtain ⟨y2, hy2, h⟩ := of_bind h
  refine V_sreg (mb 30 3593) [72, 56] (s1 := ⟨I d1 :: .bot :: .bot :: .ow 56 :: bt 5 (.ow 72 :: I ((y2.length : Int)) :: I 0 :: bt 18 []), [(72, .arr 43 3 (y2.map c43)), (56, .arr 40 1 ((([] : List (List ((Int × Int × Int))))).map c40))]⟩) ?_ ?_
  ·refine L0 rfl rfl (E_move (I d1) rfl (by kernel_rfl)) ?_
   refine L1 rfl rfl (Y1_call (s_impl_reducedForms hy2) cf_impl_reducedForms rfl (by kernel_rfl)) ?_
   refine L0 rfl rfl (Y0_lenM (c := c43) (xs := y2) Try.underlying40 rfl (by kernel_rfl)) ?_
   refine L0 rfl rfl (E_move (I 0) rfl (by kernel_rfl)) ?_
   refine XL_nil ?_
   kernel_rfl
  obtain ⟨o6, hLo6, h⟩ := of_bind h
  refine V_toK (mb 30 8) [56] (s1 := ⟨bt 3 (.ow 56 :: bt 26 []), [(56, .arr 40 1 (o6.map c40))]⟩) ?_ ?_
  ·clear h
   refine V_block (V_loop (fun n s => ∃ (t3 : Int) (l4 : List (List ((Int × Int × Int)))), s.keep (mb 30 3593) [72, 56] = (⟨I d1 :: .bot :: .bot :: .ow 56 :: bt 5 (.ow 72 :: I ((y2.length : Int)) :: I t3 :: bt 18 []), [(72, .arr 43 3 (y2.map c43)), (56, .arr 40 1 (l4.map c40))]⟩ : St) ∧ r_impl_genera_L5 d1 y2 n t3 l4 = some o6) FU ⟨_, _,  by rfl, hLo6⟩ ?_)
   clear hLo6
   rintro n s ⟨t3, l4, hs, h⟩
   refine V_keep _ _ hs ?_
   clear hs
   cases n with
   | zero => cases h
   | succ n =>
    rw [r_impl_genera_L5] at h
    refine V_sreg (mb 30 7689) [72, 56] (s1 := ⟨I d1 :: .bot :: .bot :: .ow 56 :: bt 5 (.ow 72 :: I ((y2.length : Int)) :: I t3 :: Bo (ltI t3 ((y2.length : Int))) :: bt 17 []), [(72, .arr 43 3 (y2.map c43)), (56, .arr 40 1 (l4.map c40))]⟩) ?_ ?_
    ·refine L0 rfl rfl (Y0_ltw (k := .i64) (a := t3) (b := (y2.length : Int)) rfl (by kernel_rfl) (by kernel_rfl)) ?_
     refine XL_nil ?_
     kernel_rfl
    refine V_seq ?_
    refine V_cond rfl (fun hc7 => ?_) (fun hc7 => ?_)
    ·have h := of_true h hc7
     refine V_skip ?_
     show V _ _ _ _
     refine V_seq ?_
     refine V_block ?_
     obtain ⟨e8, he8, h⟩ := of_bind h
     obtain ⟨e9, he9, h⟩ := of_bind h
     refine V_sreg (mb 30 3625) [40, 72, 56] (s1 := ⟨I d1 :: .bot :: .bot :: .ow 56 :: .bot :: .pt 40 0 :: bt 3 (.ow 72 :: I ((y2.length : Int)) :: I t3 :: bt 18 []), [(40, .box [Ti e9.1, Ti e9.2.1, Ti e9.2.2]), (72, .arr 43 3 (y2.map c43)), (56, .arr 40 1 (l4.map c40))]⟩) ?_ ?_
     ·refine L0 rfl rfl (Y0_idxoM (c := c43) (xs := y2) (v := e8) (id := 72) (T := 43) (sz := 3) (n := t3) Try.underlying40 sz43 rfl (by kernel_rfl) (by kernel_rfl) (by kernel_rfl) he8) ?_
      refine L0 rfl rfl (E_loadon (c := c43) (xs := y2) (v := e9) (id := 72) (sz := 3) (T := 43) (off := 0) (n := t3) [Ti e9.1, Ti e9.2.1, Ti e9.2.2] wd43 rfl (by kernel_rfl) (by kernel_rfl) he9 (Nat.le_of_ble_eq_true rfl) (by kernel_rfl)) ?_
      refine L1 rfl rfl (Y1_alloc (z := zv43) rfl zf43 rfl) ?_
      refine XL_cons rfl (E_store (id := 40) (off := 0) (cs := [Ti 0, Ti 0, Ti 0]) (vc := [Ti e9.1, Ti e9.2.1, Ti e9.2.2]) [Ti e9.1, Ti e9.2.1, Ti e9.2.2] rfl rfl (by kernel_rfl) (by kernel_rfl) (by kernel_rfl) sz43 (Nat.le_of_ble_eq_true rfl) (by kernel_rfl)) ?_
      refine XL_nil ?_
      kernel_rfl
     obtain ⟨y10, hy10, h⟩ := of_bind h
     obtain ⟨y11, hy11, h⟩ := of_bind h
     refine V_sreg (mb 30 3689) [144, 40, 72, 56] (s1 := ⟨I d1 :: .bot :: .bot :: .ow 56 :: .bot :: .pt 40 0 :: .ow 144 :: .bot :: .bot :: .ow 72 :: I ((y2.length : Int)) :: I t3 :: bt 18 [], [(144, .arr 43 3 (y11.map c43)), (40, .box [Ti e9.1, Ti e9.2.1, Ti e9.2.2]), (72, .arr 43 3 (y2.map c43)), (56, .arr 40 1 (l4.map c40))]⟩) ?_ ?_
     ·refine L0 rfl rfl (E_move (I d1) rfl (by kernel_rfl)) ?_
      refine L0 rfl rfl (E_loadn (cs := [Ti e9.1, Ti e9.2.1, Ti e9.2.2]) [Ti e9.1, Ti e9.2.1, Ti e9.2.2] wd43 rfl (by kernel_rfl) (Nat.le_of_ble_eq_true rfl) (by kernel_rfl)) ?_
      refine L1 rfl rfl (Y1_call (s_impl_genusValues hy10) cf_impl_genusValues rfl (by kernel_rfl)) ?_
      refine L1 rfl rfl (Y1_callS (s_impl_genusWith hy11) cf_impl_genusWith rfl (by kernel_rfl) rfl (flatE_cons (fun _ => rfl) rfl)) ?_
      refine L0 rfl rfl (E_assign (.ow 144) rfl (by kernel_rfl)) ?_
      refine XL_nil ?_
      kernel_rfl
     obtain ⟨e12, he12, h⟩ := of_bind h
     obtain ⟨e13, he13, h⟩ := of_bind h
     obtain ⟨t14, ht14, h⟩ := of_bind h
     have ht14 := some_inj ht14
     refine V_sdreg [0, 1, 3, 0, 15] 5 [[.z, .z, .z, .b, .z], [.a, .z, .z, .b, .z], [.a, .a, .z, .b, .z], [.b, .b, .b, .z, .z], [.a, .a, .a, .a, .z]] (mb 30 8392265) [144, 72, 56] (s1 := ⟨I d1 :: .bot :: .bot :: .ow 56 :: .bot :: .bot :: .ow 144 :: .bot :: .bot :: .ow 72 :: I ((y2.length : Int)) :: I t3 :: bt 11 (Bo t14 :: bt 6 []), [(144, .arr 43 3 (y11.map c43)), (72, .arr 43 3 (y2.map c43)), (56, .arr 40 1 (l4.map c40))]⟩) (by kernel_rfl) (by kernel_rfl) ?_ ?_
     ·refine DE_0 0 (.ow 144) (by kernel_rfl) rfl rfl rfl (gsat_none rfl) (by kernel_rfl) (E_move (.ow 144) rfl (by kernel_rfl)) 19 rfl ?_
      refine DE_0 1 (.po 144 3 (Int.toNat (0)) 0) (by kernel_rfl) rfl rfl rfl (gsat_none rfl) (by kernel_rfl) (Y0_idxoM (c := c43) (xs := y11) (v := e12) (id := 144) (T := 43) (sz := 3) (n := 0) Try.underlying40 sz43 rfl (by kernel_rfl) (by kernel_rfl) (by kernel_rfl) he12) 20 rfl ?_
      refine DE_0 2 (.ag [Ti e13.1, Ti e13.2.1, Ti e13.2.2]) (by kernel_rfl) rfl rfl rfl (gsat_none rfl) (by kernel_rfl) (E_loadon (c := c43) (xs := y11) (v := e13) (id := 144) (sz := 3) (T := 43) (off := 0) (n := 0) [Ti e13.1, Ti e13.2.1, Ti e13.2.2] wd43 rfl (by kernel_rfl) (by kernel_rfl) he13 (Nat.le_of_ble_eq_true rfl) (by kernel_rfl)) 21 rfl ?_
      refine DE_0 3 (.ag [Ti e9.1, Ti e9.2.1, Ti e9.2.2]) (by kernel_rfl) rfl rfl rfl (gsat_none rfl) (by kernel_rfl) (E_loadn (cs := [Ti e9.1, Ti e9.2.1, Ti e9.2.2]) [Ti e9.1, Ti e9.2.1, Ti e9.2.2] wd43 rfl (by kernel_rfl) (Nat.le_of_ble_eq_true rfl) (by kernel_rfl)) 22 rfl ?_
      refine DE_0 4 (Bo (((e13.1 == e9.1) && ((e13.2.1 == e9.2.1) && (e13.2.2 == e9.2.2))))) (by kernel_rfl) rfl rfl rfl (gsat_none rfl) (by kernel_rfl) (Y0_eqg3 (a0 := e13.1) (b0 := e9.1) (a1 := e13.2.1) (b1 := e9.2.1) (a2 := e13.2.2) (b2 := e9.2.2) eqg43 rfl (by kernel_rfl) (by kernel_rfl)) 23 rfl ?_
      refine DL_nil (by kernel_rfl) ?_
      refine XL_nil ?_
      subst ht14
      kernel_rfl
     refine V_cond rfl (fun hc15 => ?_) (fun hc15 => ?_)
     ·have h := of_true h hc15
      obtain ⟨u16, hu16, h⟩ := of_bind h
      refine V_reg (mb 30 3593) [72, 56] (s1 := ⟨I d1 :: .bot :: .bot :: .ow 56 :: bt 5 (.ow 72 :: I ((y2.length : Int)) :: I t3 :: bt 18 []), [(72, .arr 43 3 (y2.map c43)), (56, .arr 40 1 ((l4 ++ ([y11])).map c40))]⟩) ?_ ?_
      ·refine L0 rfl rfl (E_move (.ow 56) rfl (by kernel_rfl)) ?_
       refine L0 rfl rfl (E_move (.ow 144) rfl (by kernel_rfl)) ?_
       refine XL_freeze 144 (T := 43) (sz := 3) (els := y11.map c43) (s1 := ⟨I d1 :: .bot :: .bot :: .ow 56 :: .bot :: .bot :: .c (.sl (y11.map c43)) :: .bot :: .bot :: .ow 72 :: I ((y2.length : Int)) :: I t3 :: bt 11 (Bo t14 :: .ow 56 :: .c (.sl (y11.map c43)) :: bt 4 []), [(72, .arr 43 3 (y2.map c43)), (56, .arr 40 1 (l4.map c40))]⟩) (by kernel_rfl) (by kernel_rfl) ?_
       refine L1 rfl rfl (Y1_bslice (z := zv40) (els := [y11].map c40) Try.underlying37 iz40 rfl (by decide) rfl (by kernel_rfl) rfl (by simp [c40]) (by decide) (by decide)) ?_
       refine XL_cons rfl (X_appendM (c := c40) (xs := l4) (ys := [y11]) (id := 56) (z := zv40) rfl rfl Try.underlying37 izb40 rfl (by kernel_rfl) (by kernel_rfl) (by kernel_rfl) (fun _ => rfl) (by simp) (room_some hu16) (by decide)) ?_
       refine L0 rfl rfl (E_assign (.ow 56) rfl (by kernel_rfl)) ?_
       refine XL_nil ?_
       kernel_rfl
      show V _ _ _ _
      obtain ⟨t17, ht17, h⟩ := of_sI h
      refine V_reg (mb 30 3593) [72, 56] (s1 := ⟨I d1 :: .bot :: .bot :: .ow 56 :: bt 5 (.ow 72 :: I ((y2.length : Int)) :: I t17 :: bt 18 []), [(72, .arr 43 3 (y2.map c43)), (56, .arr 40 1 ((l4 ++ ([y11])).map c40))]⟩) ?_ ?_
      ·refine L0 rfl rfl (Y0_add64 (a := t3) (b := 1) rfl (by kernel_rfl) (by kernel_rfl)) ?_
       refine L0 rfl rfl (E_move (I (w64 (t3 + 1))) rfl (by kernel_rfl)) ?_
       refine XL_nil ?_
       subst ht17
       kernel_rfl
      exact ⟨n, Nat.lt_succ_self n, _, _,  by rfl, h⟩
     ·have h := of_false h hc15
      refine V_skip ?_
      show V _ _ _ _
      obtain ⟨t18, ht18, h⟩ := of_sI h
      refine V_reg (mb 30 3593) [72, 56] (s1 := ⟨I d1 :: .bot :: .bot :: .ow 56 :: bt 5 (.ow 72 :: I ((y2.length : Int)) :: I t18 :: bt 18 []), [(72, .arr 43 3 (y2.map c43)), (56, .arr 40 1 (l4.map c40))]⟩) ?_ ?_
      ·refine L0 rfl rfl (Y0_add64 (a := t3) (b := 1) rfl (by kernel_rfl) (by kernel_rfl)) ?_
       refine L0 rfl rfl (E_move (I (w64 (t3 + 1))) rfl (by kernel_rfl)) ?_
       refine XL_nil ?_
       subst ht18
       kernel_rfl
      exact ⟨n, Nat.lt_succ_self n, _, _,  by rfl, h⟩
    ·have h := of_false h hc7
     refine V_exit ?_
     obtain rfl := some_inj h
     show St.keep _ _ _ = _
     rfl
  show V _ _ _ _
  refine V_sreg (mb 30 4) [56] (s1 := ⟨.bot :: .bot :: .ow 56 :: bt 27 [], [(56, .arr 40 1 (o6.map c40))]⟩) ?_ ?_
  ·refine L0 rfl rfl (E_move (.ow 56) rfl (by kernel_rfl)) ?_
   refine L0 rfl rfl (E_assign (.ow 56) rfl (by kernel_rfl)) ?_
   refine XL_nil ?_
   kernel_rfl
  refine V_ret ?_
  obtain rfl := some_inj h
  show Post _ _ _ _ _
  exact ⟨.inr rfl, rfl, rfl, rfl⟩
theorem cf_impl_GeneraOf : ∀ args w, (callFunc 23 args).run Try.prog w = .ok (.enter 23 args) w := run_callFunc Try.func23 (by kernel_rfl) (by kernel_rfl)
set_option maxRecDepth 100000 in
set_option maxHeartbeats 400000 in
theorem s_impl_GeneraOf {d1 : Int} {r : ((List (List ((Int × Int × Int)))) × Bool)} (h : r_impl_GeneraOf d1 = some r) : CallS Try.prog 23 [I d1] (.tc (.ow 0) (.tc (Bo r.2) .tn)) [(0, .arr 40 1 (r.1.map c40))] := by
  refine CallS_of_text (rs := [.t 2, .t 3]) (vs := [.tmp 2, .tmp 3]) Try.func23 rfl rfl (.cons rfl (.cons rfl FitsL.nil)) (by decide) 10 rfl ?_
  unfold r_impl_GeneraOf at h
  show V _ _ ⟨I d1 :: bt 9 [], []⟩ _
  refine V_sreg (mb 10 1) [] (s1 := ⟨I d1 :: bt 9 [], []⟩) ?_ ?_
  ·refine L1 rfl rfl (Y1_nil (e := 40) 1 (by decide) (.inl rfl)) ?_
   refine L0 rfl rfl (E_assign (Bo false) rfl (by kernel_rfl)) ?_
   refine XL_nil ?_
   kernel_rfl
  refine V_seq ?_
  obtain ⟨y2, hy2, h⟩ := of_bind h
  refine V_sreg (mb 10 65) [] (s1 := ⟨I d1 :: bt 5 (Bo (!y2) :: bt 3 []), []⟩) ?_ ?_
  ·refine L0 rfl rfl (E_move (I d1) rfl (by kernel_rfl)) ?_
   refine L1 rfl rfl (Y1_call (s_impl_isNegativeDisc hy2) cf_impl_isNegativeDisc rfl (by kernel_rfl)) ?_
   refine L0 rfl rfl (Y0_not (b := y2) rfl (by kernel_rfl)) ?_
   refine XL_nil ?_
   kernel_rfl
  refine V_cond rfl (fun hc3 => ?_) (fun hc3 => ?_)
  ·have h := of_true h hc3
   refine V_sreg (mb 10 12) [56] (s1 := ⟨.bot :: .bot :: .ow 56 :: Bo false :: bt 6 [], [(56, .arr 40 1 ((([] : List (List ((Int × Int × Int))))).map c40))]⟩) ?_ ?_
   ·refine L1 rfl rfl (Y1_bslice0 Try.underlying37 sz40 (by decide) rfl rfl) ?_
    refine L0 rfl rfl (E_assign (.ow 56) rfl (by kernel_rfl)) ?_
    refine L0 rfl rfl (E_assign (Bo false) rfl (by kernel_rfl)) ?_
    refine XL_nil ?_
    kernel_rfl
   refine V_ret ?_
   obtain rfl := some_inj h
   show Post _ _ _ _ _
   exact ⟨.inr rfl, rfl, rfl, rfl⟩
  ·have h := of_false h hc3
   refine V_skip ?_
   show V _ _ _ _
   obtain ⟨y4, hy4, h⟩ := of_bind h
   refine V_sreg (mb 10 12) [72] (s1 := ⟨.bot :: .bot :: .ow 72 :: Bo true :: bt 6 [], [(72, .arr 40 1 (y4.map c40))]⟩) ?_ ?_
   ·refine L0 rfl rfl (E_move (I d1) rfl (by kernel_rfl)) ?_
    refine L1 rfl rfl (Y1_call (s_impl_genera hy4) cf_impl_genera rfl (by kernel_rfl)) ?_
    refine L0 rfl rfl (E_assign (.ow 72) rfl (by kernel_rfl)) ?_
    refine L0 rfl rfl (E_assign (Bo true) rfl (by kernel_rfl)) ?_
    refine XL_nil ?_
    kernel_rfl
   refine V_ret ?_
   obtain rfl := some_inj h
   show Post _ _ _ _ _
   exact ⟨.inr rfl, rfl, rfl, rfl⟩
theorem cf_impl_areNumbers : ∀ args w, (callFunc 45 args).run Try.prog w = .ok (.enter 45 args) w := run_callFunc Try.func45 (by kernel_rfl) (by kernel_rfl)
set_option maxRecDepth 100000 in
set_option maxHeartbeats 400000 in
theorem s_impl_areNumbers {list1 : List Int} {r : Bool} (h : r_impl_areNumbers list1 = some r) : CallS Try.prog 45 [.c (.sl (list1.map c3))] (Bo r) [] := by
  refine CallS_of_text (rs := [.t 2]) (vs := [.tmp 2]) Try.func45 rfl rfl (.cons rfl FitsL.nil) (by decide) 18 rfl ?_
  unfold r_impl_areNumbers at h
  show V _ _ ⟨.c (.sl (list1.map c3)) :: bt 17 [], []⟩ _
  refine V_sreg (mb 18 1) [] (s1 := ⟨.c (.sl (list1.map c3)) :: bt 17 [], []⟩) ?_ ?_
  ·refine L0 rfl rfl (E_assign (Bo false) rfl (by kernel_rfl)) ?_
   refine XL_nil ?_
   kernel_rfl
  refine V_seq ?_
  refine V_sreg (mb 18 224) [] (s1 := ⟨bt 5 (.c (.sl (list1.map c3)) :: I ((list1.length : Int)) :: I 0 :: bt 10 []), []⟩) ?_ ?_
  ·refine L0 rfl rfl (E_move (.c (.sl (list1.map c3))) rfl (by kernel_rfl)) ?_
   refine L0 rfl rfl (Y0_lenM (c := c3) (xs := list1) Try.underlying28 rfl (by kernel_rfl)) ?_
   refine L0 rfl rfl (E_move (I 0) rfl (by kernel_rfl)) ?_
   refine XL_nil ?_
   kernel_rfl
  obtain ⟨qo4, hLo4, hko4⟩ := of_bind h
  refine V_toS (q := qo4) (S := fun o4 => ⟨bt 18 [], []⟩) (mb 18 0) [] ?_ ?_
  ·refine V_block (V_loop (fun n s => ∃ (t2 : Int), s.keep (mb 18 224) [] = (⟨bt 5 (.c (.sl (list1.map c3)) :: I ((list1.length : Int)) :: I t2 :: bt 10 []), []⟩ : St) ∧ r_impl_areNumbers_L3 list1 n t2 = some qo4) FU ⟨_,  by rfl, hLo4⟩ ?_)
   clear hLo4
   rintro n s ⟨t2, hs, h⟩
   refine V_keep _ _ hs ?_
   clear hs
   cases n with
   | zero => cases h
   | succ n =>
    rw [r_impl_areNumbers_L3] at h
    refine V_sreg (mb 18 480) [] (s1 := ⟨bt 5 (.c (.sl (list1.map c3)) :: I ((list1.length : Int)) :: I t2 :: Bo (ltI t2 ((list1.length : Int))) :: bt 9 []), []⟩) ?_ ?_
    ·refine L0 rfl rfl (Y0_ltw (k := .i64) (a := t2) (b := (list1.length : Int)) rfl (by kernel_rfl) (by kernel_rfl)) ?_
     refine XL_nil ?_
     kernel_rfl
    refine V_seq ?_
    refine V_cond rfl (fun hc5 => ?_) (fun hc5 => ?_)
    ·have h := of_true h hc5
     refine V_skip ?_
     show V _ _ _ _
     refine V_seq ?_
     refine V_block ?_
     obtain ⟨e6, he6, h⟩ := of_bind h
     refine V_sreg (mb 18 240) [] (s1 := ⟨bt 4 (I e6 :: .c (.sl (list1.map c3)) :: I ((list1.length : Int)) :: I t2 :: bt 10 []), []⟩) ?_ ?_
     ·refine L0 rfl rfl (Y0_idxM (c := c3) (xs := list1) (v := e6) (n := t2) Try.underlying28 sz3 rfl (by kernel_rfl) (by kernel_rfl) he6) ?_
      refine L0 rfl rfl (Y0_load1 (c := Ti e6) (cs := []) sc3 rfl (by kernel_rfl)) ?_
      refine L0 rfl rfl (E_assign (I e6) rfl (by kernel_rfl)) ?_
      refine XL_nil ?_
      kernel_rfl
     refine V_sreg (mb 18 65760) [] (s1 := ⟨bt 5 (.c (.sl (list1.map c3)) :: I ((list1.length : Int)) :: I t2 :: bt 8 (Bo (bif (ltI e6 (-1000000)) then true else (ltI 1000000 e6)) :: .bot :: [])), []⟩) ?_ ?_
     ·refine L0 rfl rfl (E_move (I e6) rfl (by kernel_rfl)) ?_
      refine L0 rfl rfl (Y0_ltw (k := .i64) (a := e6) (b := -1000000) rfl (by kernel_rfl) (by kernel_rfl)) ?_
      refine L0 rfl rfl (E_move (Bo (ltI e6 (-1000000))) rfl (by kernel_rfl)) ?_
      refine XL_split (ltI e6 (-1000000)) (fun hc7 => ?_) (fun hc7 => ?_)
      ·refine XL_skipF _ rfl rfl (by kernel_rfl) hc7 rfl ?_
       refine XL_skipF _ rfl rfl (by kernel_rfl) hc7 rfl ?_
       refine XL_cons rfl (X_of_Y0 rfl (Y0_pick1 (b := ltI e6 (-1000000)) (p := true) (q := ltI 1000000 e6) rfl (by kernel_rfl) hc7 (by kernel_rfl))) ?_
       refine XL_nil ?_
       kernel_rfl
      ·refine XL_takeC _ rfl rfl (by kernel_rfl) hc7 (X_of_Y0 rfl (E_move (I e6) rfl (by kernel_rfl))) ?_
       refine XL_takeC _ rfl rfl (by kernel_rfl) hc7 (X_of_Y0 rfl (Y0_gtw (k := .i64) (a := e6) (b := 1000000) rfl (by kernel_rfl) (by kernel_rfl))) ?_
       refine XL_cons rfl (X_of_Y0 rfl (Y0_pick0 (b := ltI e6 (-1000000)) (p := true) (q := ltI 1000000 e6) rfl (by kernel_rfl) hc7 (by kernel_rfl))) ?_
       refine XL_nil ?_
       kernel_rfl
     refine V_cond rfl (fun hc8 => ?_) (fun hc8 => ?_)
     ·have h := of_true h hc8
      refine V_sreg (mb 18 4) [] (s1 := ⟨.bot :: .bot :: Bo false :: bt 15 [], []⟩) ?_ ?_
      ·refine L0 rfl rfl (E_assign (Bo false) rfl (by kernel_rfl)) ?_
       refine XL_nil ?_
       kernel_rfl
      refine V_ret ?_
      obtain rfl := some_inj h
      have h := hko4
      obtain rfl := some_inj h
      show Post _ _ _ _ _
      exact ⟨.inr rfl, rfl, rfl, rfl⟩
     ·have h := of_false h hc8
      refine V_skip ?_
      show V _ _ _ _
      obtain ⟨t9, ht9, h⟩ := of_sI h
      refine V_reg (mb 18 224) [] (s1 := ⟨bt 5 (.c (.sl (list1.map c3)) :: I ((list1.length : Int)) :: I t9 :: bt 10 []), []⟩) ?_ ?_
      ·refine L0 rfl rfl (Y0_add64 (a := t2) (b := 1) rfl (by kernel_rfl) (by kernel_rfl)) ?_
       refine L0 rfl rfl (E_move (I (w64 (t2 + 1))) rfl (by kernel_rfl)) ?_
       refine XL_nil ?_
       subst ht9
       kernel_rfl
      exact ⟨n, Nat.lt_succ_self n, _,  by rfl, h⟩
    ·have h := of_false h hc5
     refine V_exit ?_
     obtain rfl := some_inj h
     exact ⟨_, rfl, by rfl⟩
  rintro o4 rfl
  have h := hko4
  clear hko4
  show V _ _ _ _
  refine V_sreg (mb 18 4) [] (s1 := ⟨.bot :: .bot :: Bo true :: bt 15 [], []⟩) ?_ ?_
  ·refine L0 rfl rfl (E_assign (Bo true) rfl (by kernel_rfl)) ?_
   refine XL_nil ?_
   kernel_rfl
  refine V_ret ?_
  obtain rfl := some_inj h
  show Post _ _ _ _ _
  exact ⟨.inr rfl, rfl, rfl, rfl⟩
theorem cf_impl_IsForm : ∀ args w, (callFunc 144 args).run Try.prog w = .ok (.enter 144 args) w := run_callFunc Try.func144 (by kernel_rfl) (by kernel_rfl)
set_option maxRecDepth 100000 in
set_option maxHeartbeats 400000 in
theorem s_impl_IsForm {f1 : (Int × Int × Int)} {r : Bool} (h : r_impl_IsForm f1 = some r) : CallS Try.prog 144 [.ag [Ti f1.1, Ti f1.2.1, Ti f1.2.2]] (Bo r) [] := by
  refine CallS_of_text (rs := [.t 2]) (vs := [.tmp 2]) Try.func144 rfl rfl (.cons rfl FitsL.nil) (by decide) 11 rfl ?_
  unfold r_impl_IsForm at h
  show V _ _ ⟨.ag [Ti f1.1, Ti f1.2.1, Ti f1.2.2] :: bt 10 [], []⟩ _
  refine V_sreg (mb 11 2) [8] (s1 := ⟨.bot :: .pt 8 0 :: bt 9 [], [(8, .box [Ti f1.1, Ti f1.2.1, Ti f1.2.2])]⟩) ?_ ?_
  ·refine L1 rfl rfl (Y1_box (cs := [Ti f1.1, Ti f1.2.1, Ti f1.2.2]) rfl (by kernel_rfl)) ?_
   refine L0 rfl rfl (E_assign (Bo false) rfl (by kernel_rfl)) ?_
   refine XL_nil ?_
   kernel_rfl
  obtain ⟨y2, hy2, h⟩ := of_bind h
  refine V_sreg (mb 11 4) [] (s1 := ⟨.bot :: .bot :: Bo y2 :: bt 8 [], []⟩) ?_ ?_
  ·refine L0 rfl rfl (E_field (.pt 8 0) Try.underlying43 rfl sz3 rfl (by kernel_rfl) (by intro hh; cases hh)) ?_
   refine L0 rfl rfl (Y0_load1 (c := Ti f1.1) (cs := [Ti f1.2.1, Ti f1.2.2]) sc3 rfl (by kernel_rfl)) ?_
   refine L0 rfl rfl (E_field (.pt 8 1) Try.underlying43 rfl sz3 rfl (by kernel_rfl) (by intro hh; cases hh)) ?_
   refine L0 rfl rfl (Y0_load1 (c := Ti f1.2.1) (cs := [Ti f1.2.2]) sc3 rfl (by kernel_rfl)) ?_
   refine L0 rfl rfl (E_field (.pt 8 2) Try.underlying43 rfl sz3 rfl (by kernel_rfl) (by intro hh; cases hh)) ?_
   refine L0 rfl rfl (Y0_load1 (c := Ti f1.2.2) (cs := []) sc3 rfl (by kernel_rfl)) ?_
   refine L1 rfl rfl (Y1_bslice (z := zv3) (els := [f1.1, f1.2.1, f1.2.2].map c3) Try.underlying28 iz3 rfl (by decide) rfl (by kernel_rfl) rfl (by simp [c3]) (by decide) (by decide)) ?_
   refine L1 rfl rfl (Y1_callS (s_impl_areNumbers hy2) cf_impl_areNumbers rfl (by kernel_rfl) rfl rfl) ?_
   refine L0 rfl rfl (E_assign (Bo y2) rfl (by kernel_rfl)) ?_
   refine XL_nil ?_
   kernel_rfl
  refine V_ret ?_
  obtain rfl := some_inj h
  show Post _ _ _ _ _
  exact ⟨.inr rfl, rfl, rfl, rfl⟩
theorem cf_impl_isDefinite : ∀ args w, (callFunc 136 args).run Try.prog w = .ok (.enter 136 args) w := run_callFunc Try.func136 (by kernel_rfl) (by kernel_rfl)
set_option maxRecDepth 100000 in
set_option maxHeartbeats 400000 in
theorem s_impl_isDefinite {f1 : (Int × Int × Int)} {r : Bool} (h : r_impl_isDefinite f1 = some r) : CallS Try.prog 136 [.ag [Ti f1.1, Ti f1.2.1, Ti f1.2.2]] (Bo r) [] := by
  refine CallS_of_text (rs := [.t 2]) (vs := [.tmp 2]) Try.func136 rfl rfl (.cons rfl FitsL.nil) (by decide) 15 rfl ?_
  unfold r_impl_isDefinite at h
  show V _ _ ⟨.ag [Ti f1.1, Ti f1.2.1, Ti f1.2.2] :: bt 14 [], []⟩ _
  refine V_sreg (mb 15 2) [8] (s1 := ⟨.bot :: .pt 8 0 :: bt 13 [], [(8, .box [Ti f1.1, Ti f1.2.1, Ti f1.2.2])]⟩) ?_ ?_
  ·refine L1 rfl rfl (Y1_box (cs := [Ti f1.1, Ti f1.2.1, Ti f1.2.2]) rfl (by kernel_rfl)) ?_
   refine L0 rfl rfl (E_assign (Bo false) rfl (by kernel_rfl)) ?_
   refine XL_nil ?_
   kernel_rfl
  obtain ⟨y2, hy2, h⟩ := of_bind h
  obtain ⟨b5, hb5, h⟩ := of_bind h
  refine V_sreg (mb 15 4) [] (s1 := ⟨.bot :: .bot :: Bo (bif b5 then (ltI 0 f1.1) else false) :: bt 12 [], []⟩) ?_ ?_
  ·refine L0 rfl rfl (E_loadn (cs := [Ti f1.1, Ti f1.2.1, Ti f1.2.2]) [Ti f1.1, Ti f1.2.1, Ti f1.2.2] wd43 rfl (by kernel_rfl) (Nat.le_of_ble_eq_true rfl) (by kernel_rfl)) ?_
   refine L1 rfl rfl (Y1_call (s_impl_IsForm hy2) cf_impl_IsForm rfl (by kernel_rfl)) ?_
   refine L0 rfl rfl (E_move (Bo y2) rfl (by kernel_rfl)) ?_
   refine XL_split y2 (fun hc3 => ?_) (fun hc3 => ?_)
   ·have hb5 := of_true hb5 hc3
    obtain ⟨y4, hy4, hb5⟩ := of_bind hb5
    have hb5 := some_inj hb5
    refine XL_takeC _ rfl rfl (by kernel_rfl) hc3 (X_of_Y0 rfl (E_loadn (cs := [Ti f1.1, Ti f1.2.1, Ti f1.2.2]) [Ti f1.1, Ti f1.2.1, Ti f1.2.2] wd43 rfl (by kernel_rfl) (Nat.le_of_ble_eq_true rfl) (by kernel_rfl))) ?_
    refine XL_takeC _ rfl rfl (by kernel_rfl) hc3 (X_of_Y1 rfl (Y1_call (s_impl_Form_disc hy4) cf_impl_Form_disc rfl (by kernel_rfl))) ?_
    refine XL_takeC _ rfl rfl (by kernel_rfl) hc3 (X_of_Y0 rfl (Y0_ltw (k := .i64) (a := y4) (b := 0) rfl (by kernel_rfl) (by kernel_rfl))) ?_
    refine XL_cons rfl (X_of_Y0 rfl (Y0_pickTe (b := y2) (p := ltI y4 0) rfl (by kernel_rfl) hc3 (by kernel_rfl) hb5)) ?_
    refine L0 rfl rfl (E_move (Bo b5) rfl (by kernel_rfl)) ?_
    refine XL_split b5 (fun hc6 => ?_) (fun hc6 => ?_)
    ·refine XL_takeC _ rfl rfl (by kernel_rfl) hc6 (X_of_Y0 rfl (E_field (.pt 8 0) Try.underlying43 rfl sz3 rfl (by kernel_rfl) (by intro hh; cases hh))) ?_
     refine XL_takeC _ rfl rfl (by kernel_rfl) hc6 (X_of_Y0 rfl (Y0_load1 (c := Ti f1.1) (cs := [Ti f1.2.1, Ti f1.2.2]) sc3 rfl (by kernel_rfl))) ?_
     refine XL_takeC _ rfl rfl (by kernel_rfl) hc6 (X_of_Y0 rfl (Y0_gtw (k := .i64) (a := f1.1) (b := 0) rfl (by kernel_rfl) (by kernel_rfl))) ?_
     refine XL_cons rfl (X_of_Y0 rfl (Y0_pick1 (b := b5) (p := ltI 0 f1.1) (q := false) rfl (by kernel_rfl) hc6 (by kernel_rfl))) ?_
     refine L0 rfl rfl (E_assign (Bo (bif b5 then (ltI 0 f1.1) else false)) rfl (by kernel_rfl)) ?_
     refine XL_nil ?_
     kernel_rfl
    ·refine XL_skipT _ rfl rfl (by kernel_rfl) hc6 rfl ?_
     refine XL_skipT _ rfl rfl (by kernel_rfl) hc6 rfl ?_
     refine XL_skipT _ rfl rfl (by kernel_rfl) hc6 rfl ?_
     refine XL_cons rfl (X_of_Y0 rfl (Y0_pick0 (b := b5) (p := ltI 0 f1.1) (q := false) rfl (by kernel_rfl) hc6 (by kernel_rfl))) ?_
     refine L0 rfl rfl (E_assign (Bo (bif b5 then (ltI 0 f1.1) else false)) rfl (by kernel_rfl)) ?_
     refine XL_nil ?_
     kernel_rfl
   ·have hb5 := some_inj (of_false hb5 hc3)
    refine XL_skipT _ rfl rfl (by kernel_rfl) hc3 rfl ?_
    refine XL_skipT _ rfl rfl (by kernel_rfl) hc3 rfl ?_
    refine XL_skipT _ rfl rfl (by kernel_rfl) hc3 rfl ?_
    refine XL_cons rfl (X_of_Y0 rfl (Y0_pickFe (b := y2) (p := false) rfl (by kernel_rfl) hc3 (by kernel_rfl) hb5)) ?_
    refine L0 rfl rfl (E_move (Bo b5) rfl (by kernel_rfl)) ?_
    refine XL_split b5 (fun hc6 => ?_) (fun hc6 => ?_)
    ·refine XL_takeC _ rfl rfl (by kernel_rfl) hc6 (X_of_Y0 rfl (E_field (.pt 8 0) Try.underlying43 rfl sz3 rfl (by kernel_rfl) (by intro hh; cases hh))) ?_
     refine XL_takeC _ rfl rfl (by kernel_rfl) hc6 (X_of_Y0 rfl (Y0_load1 (c := Ti f1.1) (cs := [Ti f1.2.1, Ti f1.2.2]) sc3 rfl (by kernel_rfl))) ?_
     refine XL_takeC _ rfl rfl (by kernel_rfl) hc6 (X_of_Y0 rfl (Y0_gtw (k := .i64) (a := f1.1) (b := 0) rfl (by kernel_rfl) (by kernel_rfl))) ?_
     refine XL_cons rfl (X_of_Y0 rfl (Y0_pick1 (b := b5) (p := ltI 0 f1.1) (q := false) rfl (by kernel_rfl) hc6 (by kernel_rfl))) ?_
     refine L0 rfl rfl (E_assign (Bo (bif b5 then (ltI 0 f1.1) else false)) rfl (by kernel_rfl)) ?_
     refine XL_nil ?_
     kernel_rfl
    ·refine XL_skipT _ rfl rfl (by kernel_rfl) hc6 rfl ?_
     refine XL_skipT _ rfl rfl (by kernel_rfl) hc6 rfl ?_
     refine XL_skipT _ rfl rfl (by kernel_rfl) hc6 rfl ?_
     refine XL_cons rfl (X_of_Y0 rfl (Y0_pick0 (b := b5) (p := ltI 0 f1.1) (q := false) rfl (by kernel_rfl) hc6 (by kernel_rfl))) ?_
     refine L0 rfl rfl (E_assign (Bo (bif b5 then (ltI 0 f1.1) else false)) rfl (by kernel_rfl)) ?_
     refine XL_nil ?_
     kernel_rfl
  refine V_ret ?_
  obtain rfl := some_inj h
  show Post _ _ _ _ _
  exact ⟨.inr rfl, rfl, rfl, rfl⟩
theorem cf_impl_isShownForm : ∀ args w, (callFunc 116 args).run Try.prog w = .ok (.enter 116 args) w := run_callFunc Try.func116 (by kernel_rfl) (by kernel_rfl)
set_option maxRecDepth 100000 in
set_option maxHeartbeats 400000 in
theorem s_impl_isShownForm {f1 : (Int × Int × Int)} {r : Bool} (h : r_impl_isShownForm f1 = some r) : CallS Try.prog 116 [.ag [Ti f1.1, Ti f1.2.1, Ti f1.2.2]] (Bo r) [] := by
  refine CallS_of_text (rs := [.t 2]) (vs := [.tmp 2]) Try.func116 rfl rfl (.cons rfl FitsL.nil) (by decide) 10 rfl ?_
  unfold r_impl_isShownForm at h
  show V _ _ ⟨.ag [Ti f1.1, Ti f1.2.1, Ti f1.2.2] :: bt 9 [], []⟩ _
  refine V_sreg (mb 10 2) [8] (s1 := ⟨.bot :: .pt 8 0 :: bt 8 [], [(8, .box [Ti f1.1, Ti f1.2.1, Ti f1.2.2])]⟩) ?_ ?_
  ·refine L1 rfl rfl (Y1_box (cs := [Ti f1.1, Ti f1.2.1, Ti f1.2.2]) rfl (by kernel_rfl)) ?_
   refine L0 rfl rfl (E_assign (Bo false) rfl (by kernel_rfl)) ?_
   refine XL_nil ?_
   kernel_rfl
  obtain ⟨y2, hy2, h⟩ := of_bind h
  obtain ⟨b5, hb5, h⟩ := of_bind h
  refine V_sreg (mb 10 4) [] (s1 := ⟨.bot :: .bot :: Bo b5 :: bt 7 [], []⟩) ?_ ?_
  ·refine L0 rfl rfl (E_loadn (cs := [Ti f1.1, Ti f1.2.1, Ti f1.2.2]) [Ti f1.1, Ti f1.2.1, Ti f1.2.2] wd43 rfl (by kernel_rfl) (Nat.le_of_ble_eq_true rfl) (by kernel_rfl)) ?_
   refine L1 rfl rfl (Y1_call (s_impl_isDefinite hy2) cf_impl_isDefinite rfl (by kernel_rfl)) ?_
   refine L0 rfl rfl (E_move (Bo y2) rfl (by kernel_rfl)) ?_
   refine XL_split y2 (fun hc3 => ?_) (fun hc3 => ?_)
   ·have hb5 := of_true hb5 hc3
    obtain ⟨y4, hy4, hb5⟩ := of_bind hb5
    have hb5 := some_inj hb5
    refine XL_takeC _ rfl rfl (by kernel_rfl) hc3 (X_of_Y0 rfl (E_loadn (cs := [Ti f1.1, Ti f1.2.1, Ti f1.2.2]) [Ti f1.1, Ti f1.2.1, Ti f1.2.2] wd43 rfl (by kernel_rfl) (Nat.le_of_ble_eq_true rfl) (by kernel_rfl))) ?_
    refine XL_takeC _ rfl rfl (by kernel_rfl) hc3 (X_of_Y1 rfl (Y1_call (s_impl_Form_disc hy4) cf_impl_Form_disc rfl (by kernel_rfl))) ?_
    refine XL_takeC _ rfl rfl (by kernel_rfl) hc3 (X_of_Y0 rfl (Y0_gew (k := .i64) (a := y4) (b := -2000) rfl (by kernel_rfl) (by kernel_rfl))) ?_
    refine XL_cons rfl (X_of_Y0 rfl (Y0_pickTe (b := y2) (p := leI (-2000) y4) rfl (by kernel_rfl) hc3 (by kernel_rfl) hb5)) ?_
    refine L0 rfl rfl (E_assign (Bo b5) rfl (by kernel_rfl)) ?_
    refine XL_nil ?_
    kernel_rfl
   ·have hb5 := some_inj (of_false hb5 hc3)
    refine XL_skipT _ rfl rfl (by kernel_rfl) hc3 rfl ?_
    refine XL_skipT _ rfl rfl (by kernel_rfl) hc3 rfl ?_
    refine XL_skipT _ rfl rfl (by kernel_rfl) hc3 rfl ?_
    refine XL_cons rfl (X_of_Y0 rfl (Y0_pickFe (b := y2) (p := false) rfl (by kernel_rfl) hc3 (by kernel_rfl) hb5)) ?_
    refine L0 rfl rfl (E_assign (Bo b5) rfl (by kernel_rfl)) ?_
    refine XL_nil ?_
    kernel_rfl
  refine V_ret ?_
  obtain rfl := some_inj h
  show Post _ _ _ _ _
  exact ⟨.inr rfl, rfl, rfl, rfl⟩
theorem cf_impl_isClassForm : ∀ args w, (callFunc 80 args).run Try.prog w = .ok (.enter 80 args) w := run_callFunc Try.func80 (by kernel_rfl) (by kernel_rfl)
set_option maxRecDepth 100000 in
set_option maxHeartbeats 400000 in
theorem s_impl_isClassForm {f1 : (Int × Int × Int)} {r : Bool} (h : r_impl_isClassForm f1 = some r) : CallS Try.prog 80 [.ag [Ti f1.1, Ti f1.2.1, Ti f1.2.2]] (Bo r) [] := by
  refine CallS_of_text (rs := [.t 2]) (vs := [.tmp 2]) Try.func80 rfl rfl (.cons rfl FitsL.nil) (by decide) 10 rfl ?_
  unfold r_impl_isClassForm at h
  show V _ _ ⟨.ag [Ti f1.1, Ti f1.2.1, Ti f1.2.2] :: bt 9 [], []⟩ _
  refine V_sreg (mb 10 2) [8] (s1 := ⟨.bot :: .pt 8 0 :: bt 8 [], [(8, .box [Ti f1.1, Ti f1.2.1, Ti f1.2.2])]⟩) ?_ ?_
  ·refine L1 rfl rfl (Y1_box (cs := [Ti f1.1, Ti f1.2.1, Ti f1.2.2]) rfl (by kernel_rfl)) ?_
   refine L0 rfl rfl (E_assign (Bo false) rfl (by kernel_rfl)) ?_
   refine XL_nil ?_
   kernel_rfl
  obtain ⟨y2, hy2, h⟩ := of_bind h
  obtain ⟨b5, hb5, h⟩ := of_bind h
  refine V_sreg (mb 10 4) [] (s1 := ⟨.bot :: .bot :: Bo b5 :: bt 7 [], []⟩) ?_ ?_
  ·refine L0 rfl rfl (E_loadn (cs := [Ti f1.1, Ti f1.2.1, Ti f1.2.2]) [Ti f1.1, Ti f1.2.1, Ti f1.2.2] wd43 rfl (by kernel_rfl) (Nat.le_of_ble_eq_true rfl) (by kernel_rfl)) ?_
   refine L1 rfl rfl (Y1_call (s_impl_isShownForm hy2) cf_impl_isShownForm rfl (by kernel_rfl)) ?_
   refine L0 rfl rfl (E_move (Bo y2) rfl (by kernel_rfl)) ?_
   refine XL_split y2 (fun hc3 => ?_) (fun hc3 => ?_)
   ·have hb5 := of_true hb5 hc3
    obtain ⟨y4, hy4, hb5⟩ := of_bind hb5
    have hb5 := some_inj hb5
    refine XL_takeC _ rfl rfl (by kernel_rfl) hc3 (X_of_Y0 rfl (E_loadn (cs := [Ti f1.1, Ti f1.2.1, Ti f1.2.2]) [Ti f1.1, Ti f1.2.1, Ti f1.2.2] wd43 rfl (by kernel_rfl) (Nat.le_of_ble_eq_true rfl) (by kernel_rfl))) ?_
    refine XL_takeC _ rfl rfl (by kernel_rfl) hc3 (X_of_Y1 rfl (Y1_call (s_impl_Form_content hy4) cf_impl_Form_content rfl (by kernel_rfl))) ?_
    refine XL_takeC _ rfl rfl (by kernel_rfl) hc3 (X_of_Y0 rfl (Y0_eqw (k := .i64) (a := y4) (b := 1) rfl (by kernel_rfl) (by kernel_rfl))) ?_
    refine XL_cons rfl (X_of_Y0 rfl (Y0_pickTe (b := y2) (p := eqI y4 1) rfl (by kernel_rfl) hc3 (by kernel_rfl) hb5)) ?_
    refine L0 rfl rfl (E_assign (Bo b5) rfl (by kernel_rfl)) ?_
    refine XL_nil ?_
    kernel_rfl
   ·have hb5 := some_inj (of_false hb5 hc3)
    refine XL_skipT _ rfl rfl (by kernel_rfl) hc3 rfl ?_
    refine XL_skipT _ rfl rfl (by kernel_rfl) hc3 rfl ?_
    refine XL_skipT _ rfl rfl (by kernel_rfl) hc3 rfl ?_
    refine XL_cons rfl (X_of_Y0 rfl (Y0_pickFe (b := y2) (p := false) rfl (by kernel_rfl) hc3 (by kernel_rfl) hb5)) ?_
    refine L0 rfl rfl (E_assign (Bo b5) rfl (by kernel_rfl)) ?_
    refine XL_nil ?_
    kernel_rfl
  refine V_ret ?_
  obtain rfl := some_inj h
  show Post _ _ _ _ _
  exact ⟨.inr rfl, rfl, rfl, rfl⟩
theorem cf_impl_GenusOf : ∀ args w, (callFunc 64 args).run Try.prog w = .ok (.enter 64 args) w := run_callFunc Try.func64 (by kernel_rfl) (by kernel_rfl)
set_option maxRecDepth 100000 in
set_option maxHeartbeats 400000 in
theorem s_impl_GenusOf {f1 : (Int × Int × Int)} {r : ((List ((Int × Int × Int))) × Bool)} (h : r_impl_GenusOf f1 = some r) : CallS Try.prog 64 [.ag [Ti f1.1, Ti f1.2.1, Ti f1.2.2]] (.tc (.ow 0) (.tc (Bo r.2) .tn)) [(0, .arr 43 3 (r.1.map c43))] := by
  refine CallS_of_text (rs := [.t 2, .t 3]) (vs := [.tmp 2, .tmp 3]) Try.func64 rfl rfl (.cons rfl (.cons rfl FitsL.nil)) (by decide) 13 rfl ?_
  unfold r_impl_GenusOf at h
  show V _ _ ⟨.ag [Ti f1.1, Ti f1.2.1, Ti f1.2.2] :: bt 12 [], []⟩ _
  refine V_sreg (mb 13 2) [8] (s1 := ⟨.bot :: .pt 8 0 :: bt 11 [], [(8, .box [Ti f1.1, Ti f1.2.1, Ti f1.2.2])]⟩) ?_ ?_
  ·refine L1 rfl rfl (Y1_box (cs := [Ti f1.1, Ti f1.2.1, Ti f1.2.2]) rfl (by kernel_rfl)) ?_
   refine L1 rfl rfl (Y1_nil (e := 43) 3 (by decide) (.inl rfl)) ?_
   refine L0 rfl rfl (E_assign (Bo false) rfl (by kernel_rfl)) ?_
   refine XL_nil ?_
   kernel_rfl
  refine V_seq ?_
  obtain ⟨y2, hy2, h⟩ := of_bind h
  refine V_sreg (mb 13 66) [8] (s1 := ⟨.bot :: .pt 8 0 :: bt 4 (Bo (!y2) :: bt 6 []), [(8, .box [Ti f1.1, Ti f1.2.1, Ti f1.2.2])]⟩) ?_ ?_
  ·refine L0 rfl rfl (E_loadn (cs := [Ti f1.1, Ti f1.2.1, Ti f1.2.2]) [Ti f1.1, Ti f1.2.1, Ti f1.2.2] wd43 rfl (by kernel_rfl) (Nat.le_of_ble_eq_true rfl) (by kernel_rfl)) ?_
   refine L1 rfl rfl (Y1_call (s_impl_isClassForm hy2) cf_impl_isClassForm rfl (by kernel_rfl)) ?_
   refine L0 rfl rfl (Y0_not (b := y2) rfl (by kernel_rfl)) ?_
   refine XL_nil ?_
   kernel_rfl
  refine V_cond rfl (fun hc3 => ?_) (fun hc3 => ?_)
  ·have h := of_true h hc3
   refine V_sreg (mb 13 12) [56] (s1 := ⟨.bot :: .bot :: .ow 56 :: Bo false :: bt 9 [], [(56, .arr 43 3 ((([] : List ((Int × Int × Int)))).map c43))]⟩) ?_ ?_
   ·refine L1 rfl rfl (Y1_bslice0 Try.underlying40 sz43 (by decide) rfl rfl) ?_
    refine L0 rfl rfl (E_assign (.ow 56) rfl (by kernel_rfl)) ?_
    refine L0 rfl rfl (E_assign (Bo false) rfl (by kernel_rfl)) ?_
    refine XL_nil ?_
    kernel_rfl
   refine V_ret ?_
   obtain rfl := some_inj h
   show Post _ _ _ _ _
   exact ⟨.inr rfl, rfl, rfl, rfl⟩
  ·have h := of_false h hc3
   refine V_skip ?_
   show V _ _ _ _
   obtain ⟨y4, hy4, h⟩ := of_bind h
   obtain ⟨y5, hy5, h⟩ := of_bind h
   obtain ⟨y6, hy6, h⟩ := of_bind h
   refine V_sdreg [0, 1, 0, 7, 15, 31, 63] 7 [[.z, .z, .b, .z, .z, .z, .z], [.a, .z, .b, .z, .z, .z, .z], [.b, .b, .z, .z, .z, .z, .z], [.a, .a, .a, .z, .z, .z, .z], [.a, .a, .a, .a, .z, .z, .z], [.a, .a, .a, .a, .a, .z, .z], [.a, .a, .a, .a, .a, .a, .z]] (mb 13 12) [96] (s1 := ⟨.bot :: .bot :: .ow 96 :: Bo true :: bt 9 [], [(96, .arr 43 3 (y6.map c43))]⟩) (by kernel_rfl) (by kernel_rfl) ?_ ?_
   ·refine DE_0 0 (.ag [Ti f1.1, Ti f1.2.1, Ti f1.2.2]) (by kernel_rfl) rfl rfl rfl (gsat_none rfl) (by kernel_rfl) (E_loadn (cs := [Ti f1.1, Ti f1.2.1, Ti f1.2.2]) [Ti f1.1, Ti f1.2.1, Ti f1.2.2] wd43 rfl (by kernel_rfl) (Nat.le_of_ble_eq_true rfl) (by kernel_rfl)) 8 rfl ?_
    refine DE_1 1 (by kernel_rfl) rfl rfl rfl (gsat_none rfl) (Y1_call (s_impl_Form_disc hy4) cf_impl_Form_disc rfl (by kernel_rfl)) rfl rfl rfl 9 rfl ?_
    refine DE_0 2 (.ag [Ti f1.1, Ti f1.2.1, Ti f1.2.2]) (by kernel_rfl) rfl rfl rfl (gsat_none rfl) (by kernel_rfl) (E_loadn (cs := [Ti f1.1, Ti f1.2.1, Ti f1.2.2]) [Ti f1.1, Ti f1.2.1, Ti f1.2.2] wd43 rfl (by kernel_rfl) (Nat.le_of_ble_eq_true rfl) (by kernel_rfl)) 10 rfl ?_
    refine DE_1 3 (by kernel_rfl) rfl rfl rfl (gsat_none rfl) (Y1_call (s_impl_genusValues hy5) cf_impl_genusValues rfl (by kernel_rfl)) rfl rfl rfl 11 rfl ?_
    refine DE_1 4 (by kernel_rfl) rfl rfl rfl (gsat_none rfl) (Y1_callS (s_impl_genusWith hy6) cf_impl_genusWith rfl (by kernel_rfl) rfl (flatE_cons (fun _ => rfl) rfl)) rfl rfl rfl 12 rfl ?_
    refine DE_0 5 (.ow 96) (by kernel_rfl) rfl rfl rfl (gsat_none rfl) (by kernel_rfl) (E_assign (.ow 96) rfl (by kernel_rfl)) 2 rfl ?_
    refine DE_0 6 (Bo true) (by kernel_rfl) rfl rfl rfl (gsat_none rfl) (by kernel_rfl) (E_assign (Bo true) rfl (by kernel_rfl)) 3 rfl ?_
    refine DL_nil (by kernel_rfl) ?_
    refine XL_nil ?_
    kernel_rfl
   refine V_ret ?_
   obtain rfl := some_inj h
   show Post _ _ _ _ _
   exact ⟨.inr rfl, rfl, rfl, rfl⟩
theorem cf_impl_GenusSum : ∀ args w, (callFunc 24 args).run Try.prog w = .ok (.enter 24 args) w := run_callFunc Try.func24 (by kernel_rfl) (by kernel_rfl)
set_option maxRecDepth 100000 in
set_option maxHeartbeats 400000 in
theorem s_impl_GenusSum {f1 : (Int × Int × Int)} {vn2 : Int} {r : ((List Int) × Bool)} (h : r_impl_GenusSum f1 vn2 = some r) : CallS Try.prog 24 [.ag [Ti f1.1, Ti f1.2.1, Ti f1.2.2], I vn2] (.tc (.ow 0) (.tc (Bo r.2) .tn)) [(0, .arr 3 1 (r.1.map c3))] := by
  refine CallS_of_text (rs := [.t 4, .t 5]) (vs := [.tmp 4, .tmp 5]) Try.func24 rfl rfl (.cons rfl (.cons rfl FitsL.nil)) (by decide) 24 rfl ?_
  unfold r_impl_GenusSum at h
  show V _ _ ⟨.ag [Ti f1.1, Ti f1.2.1, Ti f1.2.2] :: I vn2 :: bt 22 [], []⟩ _
  refine V_sreg (mb 24 6) [16] (s1 := ⟨.bot :: I vn2 :: .pt 16 0 :: bt 21 [], [(16, .box [Ti f1.1, Ti f1.2.1, Ti f1.2.2])]⟩) ?_ ?_
  ·refine L1 rfl rfl (Y1_box (cs := [Ti f1.1, Ti f1.2.1, Ti f1.2.2]) rfl (by kernel_rfl)) ?_
   refine L1 rfl rfl (Y1_nil (e := 3) 1 (by decide) (.inl rfl)) ?_
   refine L0 rfl rfl (E_assign (Bo false) rfl (by kernel_rfl)) ?_
   refine XL_nil ?_
   kernel_rfl
  obtain ⟨y3, hy3, h⟩ := of_bind h
  refine V_sreg (mb 24 194) [80] (s1 := ⟨.bot :: I vn2 :: bt 4 (.ow 80 :: Bo y3.2 :: bt 16 []), [(80, .arr 43 3 (y3.1.map c43))]⟩) ?_ ?_
  ·refine L0 rfl rfl (E_loadn (cs := [Ti f1.1, Ti f1.2.1, Ti f1.2.2]) [Ti f1.1, Ti f1.2.1, Ti f1.2.2] wd43 rfl (by kernel_rfl) (Nat.le_of_ble_eq_true rfl) (by kernel_rfl)) ?_
   refine L1 rfl rfl (Y1_call (s_impl_GenusOf hy3) cf_impl_GenusOf rfl (by kernel_rfl)) ?_
   refine L0 rfl rfl (E_move (.tc (.ow 80) (.tc (Bo y3.2) .tn)) rfl (by kernel_rfl)) ?_
   refine L0 rfl rfl (E_ext (n := 0) (.ow 80) (.tc (Bo y3.2) .tn) (.ow 80) rfl (by kernel_rfl) (by kernel_rfl) (by intro hh; cases hh)) ?_
   refine L0 rfl rfl (E_ext (n := 1) (.ow 80) (.tc (Bo y3.2) .tn) (Bo y3.2) rfl (by kernel_rfl) (by kernel_rfl) (by intro hh; cases hh)) ?_
   refine L0 rfl rfl (E_assign (.ow 80) rfl (by kernel_rfl)) ?_
   refine L0 rfl rfl (E_assign (Bo y3.2) rfl (by kernel_rfl)) ?_
   refine XL_nil ?_
   kernel_rfl
  refine V_seq ?_
  obtain ⟨b6, hb6, h⟩ := of_bind h
  refine V_sreg (mb 24 524354) [80] (s1 := ⟨.bot :: I vn2 :: bt 4 (.ow 80 :: bt 12 (Bo b6 :: bt 4 [])), [(80, .arr 43 3 (y3.1.map c43))]⟩) ?_ ?_
  ·refine L0 rfl rfl (E_move (Bo y3.2) rfl (by kernel_rfl)) ?_
   refine L0 rfl rfl (Y0_not (b := y3.2) rfl (by kernel_rfl)) ?_
   refine L0 rfl rfl (E_move (Bo (!y3.2)) rfl (by kernel_rfl)) ?_
   refine XL_split (!y3.2) (fun hc4 => ?_) (fun hc4 => ?_)
   ·have hb6 := some_inj (of_true hb6 hc4)
    refine XL_skipF _ rfl rfl (by kernel_rfl) hc4 rfl ?_
    refine XL_skipF _ rfl rfl (by kernel_rfl) hc4 rfl ?_
    refine XL_skipF _ rfl rfl (by kernel_rfl) hc4 rfl ?_
    refine XL_cons rfl (X_of_Y0 rfl (Y0_pickTe (b := !y3.2) (p := true) rfl (by kernel_rfl) hc4 (by kernel_rfl) hb6)) ?_
    refine XL_nil ?_
    kernel_rfl
   ·have hb6 := of_false hb6 hc4
    obtain ⟨y5, hy5, hb6⟩ := of_bind hb6
    have hb6 := some_inj hb6
    refine XL_takeC _ rfl rfl (by kernel_rfl) hc4 (X_of_Y0 rfl (E_move (I vn2) rfl (by kernel_rfl))) ?_
    refine XL_takeC _ rfl rfl (by kernel_rfl) hc4 (X_of_Y1 rfl (Y1_call (s_impl_isTerms hy5) cf_impl_isTerms rfl (by kernel_rfl))) ?_
    refine XL_takeC _ rfl rfl (by kernel_rfl) hc4 (X_of_Y0 rfl (Y0_not (b := y5) rfl (by kernel_rfl))) ?_
    refine XL_cons rfl (X_of_Y0 rfl (Y0_pickFe (b := !y3.2) (p := !y5) rfl (by kernel_rfl) hc4 (by kernel_rfl) hb6)) ?_
    refine XL_nil ?_
    kernel_rfl
  refine V_cond rfl (fun hc7 => ?_) (fun hc7 => ?_)
  ·have h := of_true h hc7
   refine V_sreg (mb 24 48) [160] (s1 := ⟨bt 4 (.ow 160 :: Bo false :: bt 18 []), [(160, .arr 3 1 ((([] : List Int)).map c3))]⟩) ?_ ?_
   ·refine L1 rfl rfl (Y1_bslice0 Try.underlying28 sz3 (by decide) rfl rfl) ?_
    refine L0 rfl rfl (E_assign (.ow 160) rfl (by kernel_rfl)) ?_
    refine L0 rfl rfl (E_assign (Bo false) rfl (by kernel_rfl)) ?_
    refine XL_nil ?_
    kernel_rfl
   refine V_ret ?_
   obtain rfl := some_inj h
   show Post _ _ _ _ _
   exact ⟨.inr rfl, rfl, rfl, rfl⟩
  ·have h := of_false h hc7
   refine V_skip ?_
   show V _ _ _ _
   obtain ⟨y8, hy8, h⟩ := of_bind h
   refine V_sreg (mb 24 48) [184] (s1 := ⟨bt 4 (.ow 184 :: Bo true :: bt 18 []), [(184, .arr 3 1 (y8.map c3))]⟩) ?_ ?_
   ·refine L0 rfl rfl (E_move (.ow 80) rfl (by kernel_rfl)) ?_
    refine L0 rfl rfl (E_move (I vn2) rfl (by kernel_rfl)) ?_
    refine L1 rfl rfl (Y1_callS (s_impl_thetaSum hy8) cf_impl_thetaSum rfl (by kernel_rfl) rfl (flatE_cons (fun _ => rfl) rfl)) ?_
    refine L0 rfl rfl (E_assign (.ow 184) rfl (by kernel_rfl)) ?_
    refine L0 rfl rfl (E_assign (Bo true) rfl (by kernel_rfl)) ?_
    refine XL_nil ?_
    kernel_rfl
   refine V_ret ?_
   obtain rfl := some_inj h
   show Post _ _ _ _ _
   exact ⟨.inr rfl, rfl, rfl, rfl⟩
theorem cf_impl_isDiscriminant : ∀ args w, (callFunc 47 args).run Try.prog w = .ok (.enter 47 args) w := run_callFunc Try.func47 (by kernel_rfl) (by kernel_rfl)
set_option maxRecDepth 100000 in
set_option maxHeartbeats 400000 in
theorem s_impl_isDiscriminant {d1 : Int} {r : Bool} (h : r_impl_isDiscriminant d1 = some r) : CallS Try.prog 47 [I d1] (Bo r) [] := by
  refine CallS_of_text (rs := [.t 2]) (vs := [.tmp 2]) Try.func47 rfl rfl (.cons rfl FitsL.nil) (by decide) 16 rfl ?_
  unfold r_impl_isDiscriminant at h
  show V _ _ ⟨I d1 :: bt 15 [], []⟩ _
  refine V_sreg (mb 16 1) [] (s1 := ⟨I d1 :: bt 15 [], []⟩) ?_ ?_
  ·refine L0 rfl rfl (E_assign (Bo false) rfl (by kernel_rfl)) ?_
   refine XL_nil ?_
   kernel_rfl
  obtain ⟨y2, hy2, h⟩ := of_bind h
  obtain ⟨b5, hb5, h⟩ := of_bind h
  obtain ⟨b8, hb8, h⟩ := of_bind h
  refine V_sreg (mb 16 4) [] (s1 := ⟨.bot :: .bot :: Bo b8 :: bt 13 [], []⟩) ?_ ?_
  ·refine L0 rfl rfl (E_move (I d1) rfl (by kernel_rfl)) ?_
   refine L1 rfl rfl (Y1_bslice (z := zv3) (els := [d1].map c3) Try.underlying28 iz3 rfl (by decide) rfl (by kernel_rfl) rfl (by simp [c3]) (by decide) (by decide)) ?_
   refine L1 rfl rfl (Y1_callS (s_impl_areNumbers hy2) cf_impl_areNumbers rfl (by kernel_rfl) rfl rfl) ?_
   refine L0 rfl rfl (E_move (Bo y2) rfl (by kernel_rfl)) ?_
   refine XL_split y2 (fun hc3 => ?_) (fun hc3 => ?_)
   ·have hb5 := of_true hb5 hc3
    obtain ⟨y4, hy4, hb5⟩ := of_bind hb5
    have hb5 := some_inj hb5
    refine XL_takeC _ rfl rfl (by kernel_rfl) hc3 (X_of_Y0 rfl (E_move (I d1) rfl (by kernel_rfl))) ?_
    refine XL_takeC _ rfl rfl (by kernel_rfl) hc3 (X_of_Y1 rfl (Y1_call (s_impl_mod hy4) cf_impl_mod rfl (by kernel_rfl))) ?_
    refine XL_takeC _ rfl rfl (by kernel_rfl) hc3 (X_of_Y0 rfl (Y0_lew (k := .i64) (a := y4) (b := 1) rfl (by kernel_rfl) (by kernel_rfl))) ?_
    refine XL_cons rfl (X_of_Y0 rfl (Y0_pickTe (b := y2) (p := leI y4 1) rfl (by kernel_rfl) hc3 (by kernel_rfl) hb5)) ?_
    refine L0 rfl rfl (E_move (Bo b5) rfl (by kernel_rfl)) ?_
    refine XL_split b5 (fun hc6 => ?_) (fun hc6 => ?_)
    ·have hb8 := of_true hb8 hc6
     obtain ⟨y7, hy7, hb8⟩ := of_bind hb8
     have hb8 := some_inj hb8
     refine XL_takeC _ rfl rfl (by kernel_rfl) hc6 (X_of_Y0 rfl (E_move (I d1) rfl (by kernel_rfl))) ?_
     refine XL_takeC _ rfl rfl (by kernel_rfl) hc6 (X_of_Y1 rfl (Y1_call (s_impl_isSquare hy7) cf_impl_isSquare rfl (by kernel_rfl))) ?_
     refine XL_takeC _ rfl rfl (by kernel_rfl) hc6 (X_of_Y0 rfl (Y0_not (b := y7) rfl (by kernel_rfl))) ?_
     refine XL_cons rfl (X_of_Y0 rfl (Y0_pickTe (b := b5) (p := !y7) rfl (by kernel_rfl) hc6 (by kernel_rfl) hb8)) ?_
     refine L0 rfl rfl (E_assign (Bo b8) rfl (by kernel_rfl)) ?_
     refine XL_nil ?_
     kernel_rfl
    ·have hb8 := some_inj (of_false hb8 hc6)
     refine XL_skipT _ rfl rfl (by kernel_rfl) hc6 rfl ?_
     refine XL_skipT _ rfl rfl (by kernel_rfl) hc6 rfl ?_
     refine XL_skipT _ rfl rfl (by kernel_rfl) hc6 rfl ?_
     refine XL_cons rfl (X_of_Y0 rfl (Y0_pickFe (b := b5) (p := false) rfl (by kernel_rfl) hc6 (by kernel_rfl) hb8)) ?_
     refine L0 rfl rfl (E_assign (Bo b8) rfl (by kernel_rfl)) ?_
     refine XL_nil ?_
     kernel_rfl
   ·have hb5 := some_inj (of_false hb5 hc3)
    refine XL_skipT _ rfl rfl (by kernel_rfl) hc3 rfl ?_
    refine XL_skipT _ rfl rfl (by kernel_rfl) hc3 rfl ?_
    refine XL_skipT _ rfl rfl (by kernel_rfl) hc3 rfl ?_
    refine XL_cons rfl (X_of_Y0 rfl (Y0_pickFe (b := y2) (p := false) rfl (by kernel_rfl) hc3 (by kernel_rfl) hb5)) ?_
    refine L0 rfl rfl (E_move (Bo b5) rfl (by kernel_rfl)) ?_
    refine XL_split b5 (fun hc6 => ?_) (fun hc6 => ?_)
    ·have hb8 := of_true hb8 hc6
     obtain ⟨y7, hy7, hb8⟩ := of_bind hb8
     have hb8 := some_inj hb8
     refine XL_takeC _ rfl rfl (by kernel_rfl) hc6 (X_of_Y0 rfl (E_move (I d1) rfl (by kernel_rfl))) ?_
     refine XL_takeC _ rfl rfl (by kernel_rfl) hc6 (X_of_Y1 rfl (Y1_call (s_impl_isSquare hy7) cf_impl_isSquare rfl (by kernel_rfl))) ?_
     refine XL_takeC _ rfl rfl (by kernel_rfl) hc6 (X_of_Y0 rfl (Y0_not (b := y7) rfl (by kernel_rfl))) ?_
     refine XL_cons rfl (X_of_Y0 rfl (Y0_pickTe (b := b5) (p := !y7) rfl (by kernel_rfl) hc6 (by kernel_rfl) hb8)) ?_
     refine L0 rfl rfl (E_assign (Bo b8) rfl (by kernel_rfl)) ?_
     refine XL_nil ?_
     kernel_rfl
    ·have hb8 := some_inj (of_false hb8 hc6)
     refine XL_skipT _ rfl rfl (by kernel_rfl) hc6 rfl ?_
     refine XL_skipT _ rfl rfl (by kernel_rfl) hc6 rfl ?_
     refine XL_skipT _ rfl rfl (by kernel_rfl) hc6 rfl ?_
     refine XL_cons rfl (X_of_Y0 rfl (Y0_pickFe (b := b5) (p := false) rfl (by kernel_rfl) hc6 (by kernel_rfl) hb8)) ?_
     refine L0 rfl rfl (E_assign (Bo b8) rfl (by kernel_rfl)) ?_
     refine XL_nil ?_
     kernel_rfl
  refine V_ret ?_
  obtain rfl := some_inj h
  show Post _ _ _ _ _
  exact ⟨.inr rfl, rfl, rfl, rfl⟩
theorem cf_impl_squareFree : ∀ args w, (callFunc 105 args).run Try.prog w = .ok (.enter 105 args) w := run_callFunc Try.func105 (by kernel_rfl) (by kernel_rfl)
set_option maxRecDepth 100000 in
set_option maxHeartbeats 400000 in
theorem s_impl_squareFree {vn1 : Int} {r : (Int × Int)} (h : r_impl_squareFree vn1 = some r) : CallS Try.prog 105 [I vn1] (.tc (I r.1) (.tc (I r.2) .tn)) [] := by
  refine CallS_of_text (rs := [.t 2, .t 3]) (vs := [.tmp 2, .tmp 3]) Try.func105 rfl rfl (.cons rfl (.cons rfl FitsL.nil)) (by decide) 30 rfl ?_
  unfold r_impl_squareFree at h
  show V _ _ ⟨I vn1 :: bt 29 [], []⟩ _
  refine V_sreg (mb 30 1) [] (s1 := ⟨I vn1 :: bt 29 [], []⟩) ?_ ?_
  ·refine L0 rfl rfl (E_assign (I 0) rfl (by kernel_rfl)) ?_
   refine L0 rfl rfl (E_assign (I 0) rfl (by kernel_rfl)) ?_
   refine XL_nil ?_
   kernel_rfl
  refine V_sreg (mb 30 17) [] (s1 := ⟨I vn1 :: bt 3 (I 1 :: bt 25 []), []⟩) ?_ ?_
  ·refine L0 rfl rfl (E_assign (I 1) rfl (by kernel_rfl)) ?_
   refine XL_nil ?_
   kernel_rfl
  refine V_seq ?_
  refine V_sreg (mb 30 49) [] (s1 := ⟨I vn1 :: bt 3 (I 1 :: I 2 :: bt 24 []), []⟩) ?_ ?_
  ·refine L0 rfl rfl (E_assign (I 2) rfl (by kernel_rfl)) ?_
   refine XL_nil ?_
   kernel_rfl
  obtain ⟨o6, hLo6, h⟩ := of_bind h
  refine V_toK (mb 30 17) [] (s1 := ⟨I o6.1 :: bt 3 (I o6.2 :: bt 25 []), []⟩) ?_ ?_
  ·clear h
   refine V_block (V_loop (fun n s => ∃ (vn2 : Int) (k3 : Int) (p4 : Int), s.keep (mb 30 49) [] = (⟨I vn2 :: bt 3 (I k3 :: I p4 :: bt 24 []), []⟩ : St) ∧ r_impl_squareFree_L5 n vn2 k3 p4 = some o6) FU ⟨_, _, _,  by rfl, hLo6⟩ ?_)
   clear hLo6
   rintro n s ⟨vn2, k3, p4, hs, h⟩
   refine V_keep _ _ hs ?_
   clear hs
   cases n with
   | zero => cases h
   | succ n =>
    rw [r_impl_squareFree_L5] at h
    refine V_seq ?_
    obtain ⟨y7, hy7, h⟩ := of_bind h
    refine V_sreg (mb 30 2097) [] (s1 := ⟨I vn2 :: bt 3 (I k3 :: I p4 :: bt 5 (Bo (leI (w64 (p4 * p4)) y7) :: bt 18 [])), []⟩) ?_ ?_
    ·refine L0 rfl rfl (E_move (I p4) rfl (by kernel_rfl)) ?_
     refine L0 rfl rfl (E_move (I p4) rfl (by kernel_rfl)) ?_
     refine L0 rfl rfl (Y0_mul64 (a := p4) (b := p4) rfl (by kernel_rfl) (by kernel_rfl)) ?_
     refine L0 rfl rfl (E_move (I vn2) rfl (by kernel_rfl)) ?_
     refine L1 rfl rfl (Y1_call (s_impl_abs hy7) cf_impl_abs rfl (by kernel_rfl)) ?_
     refine L0 rfl rfl (Y0_lew (k := .i64) (a := w64 (p4 * p4)) (b := y7) rfl (by kernel_rfl) (by kernel_rfl)) ?_
     refine XL_nil ?_
     kernel_rfl
    refine V_cond rfl (fun hc8 => ?_) (fun hc8 => ?_)
    ·have h := of_true h hc8
     refine V_skip ?_
     show V _ _ _ _
     refine V_seq ?_
     refine V_block ?_
     obtain ⟨o12, hLo12, h⟩ := of_bind h
     refine V_toK (mb 30 49) [] (s1 := ⟨I o12.1 :: bt 3 (I o12.2 :: I p4 :: bt 24 []), []⟩) ?_ ?_
     ·clear h
      refine V_block (V_loop (fun n s => ∃ (vn9 : Int) (k10 : Int), s.keep (mb 30 49) [] = (⟨I vn9 :: bt 3 (I k10 :: I p4 :: bt 24 []), []⟩ : St) ∧ r_impl_squareFree_L11 p4 n vn9 k10 = some o12) FU ⟨_, _,  by rfl, hLo12⟩ ?_)
      clear hLo12
      rintro n s ⟨vn9, k10, hs, h⟩
      refine V_keep _ _ hs ?_
      clear hs
      cases n with
      | zero => cases h
      | succ n =>
       rw [r_impl_squareFree_L11] at h
       refine V_seq ?_
       obtain ⟨z13, hz13, h⟩ := of_bind h
       refine V_sreg (mb 30 524337) [] (s1 := ⟨I vn9 :: bt 3 (I k10 :: I p4 :: bt 13 (Bo (eqI (Int.tmod vn9 (w64 (p4 * p4))) 0) :: bt 10 [])), []⟩) ?_ ?_
       ·refine L0 rfl rfl (E_move (I vn9) rfl (by kernel_rfl)) ?_
        refine L0 rfl rfl (E_move (I p4) rfl (by kernel_rfl)) ?_
        refine L0 rfl rfl (E_move (I p4) rfl (by kernel_rfl)) ?_
        refine L0 rfl rfl (Y0_mul64 (a := p4) (b := p4) rfl (by kernel_rfl) (by kernel_rfl)) ?_
        refine L0 rfl rfl (Y0_rem (k := .i64) (a := vn9) (b := w64 (p4 * p4)) rfl (by kernel_rfl) (by kernel_rfl) (nz_some hz13)) ?_
        refine L0 rfl rfl (Y0_eqw (k := .i64) (a := Int.tmod vn9 (w64 (p4 * p4))) (b := 0) rfl (by kernel_rfl) (by kernel_rfl)) ?_
        refine XL_nil ?_
        kernel_rfl
       refine V_cond rfl (fun hc14 => ?_) (fun hc14 => ?_)
       ·have h := of_true h hc14
        refine V_skip ?_
        show V _ _ _ _
        refine V_block ?_
        obtain ⟨z15, hz15, h⟩ := of_bind h
        obtain ⟨vn16, hvn16, h⟩ := of_sI h
        refine V_sreg (mb 30 49) [] (s1 := ⟨I vn16 :: bt 3 (I k10 :: I p4 :: bt 24 []), []⟩) ?_ ?_
        ·refine L0 rfl rfl (E_move (I vn9) rfl (by kernel_rfl)) ?_
         refine L0 rfl rfl (E_move (I p4) rfl (by kernel_rfl)) ?_
         refine L0 rfl rfl (E_move (I p4) rfl (by kernel_rfl)) ?_
         refine L0 rfl rfl (Y0_mul64 (a := p4) (b := p4) rfl (by kernel_rfl) (by kernel_rfl)) ?_
         refine L0 rfl rfl (Y0_quo64 (a := vn9) (b := w64 (p4 * p4)) rfl (by kernel_rfl) (by kernel_rfl) (nz_some hz15)) ?_
         refine L0 rfl rfl (E_assign (I (w64 (Int.tdiv vn9 (w64 (p4 * p4))))) rfl (by kernel_rfl)) ?_
         refine XL_nil ?_
         subst hvn16
         kernel_rfl
        obtain ⟨k17, hk17, h⟩ := of_sI h
        refine V_reg (mb 30 49) [] (s1 := ⟨I vn16 :: bt 3 (I k17 :: I p4 :: bt 24 []), []⟩) ?_ ?_
        ·refine L0 rfl rfl (E_move (I k10) rfl (by kernel_rfl)) ?_
         refine L0 rfl rfl (E_move (I p4) rfl (by kernel_rfl)) ?_
         refine L0 rfl rfl (Y0_mul64 (a := k10) (b := p4) rfl (by kernel_rfl) (by kernel_rfl)) ?_
         refine L0 rfl rfl (E_assign (I (w64 (k10 * p4))) rfl (by kernel_rfl)) ?_
         refine XL_nil ?_
         subst hk17
         kernel_rfl
        exact ⟨n, Nat.lt_succ_self n, _, _,  by rfl, h⟩
       ·have h := of_false h hc14
        refine V_exit ?_
        obtain rfl := some_inj h
        show St.keep _ _ _ = _
        rfl
     show V _ _ _ _
     obtain ⟨p18, hp18, h⟩ := of_sI h
     refine V_reg (mb 30 49) [] (s1 := ⟨I o12.1 :: bt 3 (I o12.2 :: I p18 :: bt 24 []), []⟩) ?_ ?_
     ·refine L0 rfl rfl (E_move (I p4) rfl (by kernel_rfl)) ?_
      refine L0 rfl rfl (Y0_add64 (a := p4) (b := 1) rfl (by kernel_rfl) (by kernel_rfl)) ?_
      refine L0 rfl rfl (E_assign (I (w64 (p4 + 1))) rfl (by kernel_rfl)) ?_
      refine XL_nil ?_
      subst hp18
      kernel_rfl
     exact ⟨n, Nat.lt_succ_self n, _, _, _,  by rfl, h⟩
    ·have h := of_false h hc8
     refine V_exit ?_
     obtain rfl := some_inj h
     show St.keep _ _ _ = _
     rfl
  show V _ _ _ _
  refine V_sreg (mb 30 12) [] (s1 := ⟨.bot :: .bot :: I o6.1 :: I o6.2 :: bt 26 [], []⟩) ?_ ?_
  ·refine L0 rfl rfl (E_move (I o6.1) rfl (by kernel_rfl)) ?_
   refine L0 rfl rfl (E_move (I o6.2) rfl (by kernel_rfl)) ?_
   refine L0 rfl rfl (E_assign (I o6.1) rfl (by kernel_rfl)) ?_
   refine L0 rfl rfl (E_assign (I o6.2) rfl (by kernel_rfl)) ?_
   refine XL_nil ?_
   kernel_rfl
  refine V_ret ?_
  obtain rfl := some_inj h
  show Post _ _ _ _ _
  exact ⟨.inr rfl, rfl, rfl, rfl⟩
theorem cf_impl_fundamental : ∀ args w, (callFunc 65 args).run Try.prog w = .ok (.enter 65 args) w := run_callFunc Try.func65 (by kernel_rfl) (by kernel_rfl)
set_option maxRecDepth 100000 in
set_option maxHeartbeats 400000 in
theorem s_impl_fundamental {d1 : Int} {r : (Int × Int)} (h : r_impl_fundamental d1 = some r) : CallS Try.prog 65 [I d1] (.tc (I r.1) (.tc (I r.2) .tn)) [] := by
  refine CallS_of_text (rs := [.t 2, .t 3]) (vs := [.tmp 2, .tmp 3]) Try.func65 rfl rfl (.cons rfl (.cons rfl FitsL.nil)) (by decide) 20 rfl ?_
  unfold r_impl_fundamental at h
  show V _ _ ⟨I d1 :: bt 19 [], []⟩ _
  refine V_sreg (mb 20 1) [] (s1 := ⟨I d1 :: bt 19 [], []⟩) ?_ ?_
  ·refine L0 rfl rfl (E_assign (I 0) rfl (by kernel_rfl)) ?_
   refine L0 rfl rfl (E_assign (I 0) rfl (by kernel_rfl)) ?_
   refine XL_nil ?_
   kernel_rfl
  obtain ⟨y2, hy2, h⟩ := of_bind h
  refine V_sreg (mb 20 48) [] (s1 := ⟨bt 4 (I y2.1 :: I y2.2 :: bt 14 []), []⟩) ?_ ?_
  ·refine L0 rfl rfl (E_move (I d1) rfl (by kernel_rfl)) ?_
   refine L1 rfl rfl (Y1_call (s_impl_squareFree hy2) cf_impl_squareFree rfl (by kernel_rfl)) ?_
   refine L0 rfl rfl (E_move (.tc (I y2.1) (.tc (I y2.2) .tn)) rfl (by kernel_rfl)) ?_
   refine L0 rfl rfl (E_ext (n := 0) (I y2.1) (.tc (I y2.2) .tn) (I y2.1) rfl (by kernel_rfl) (by kernel_rfl) (by intro hh; cases hh)) ?_
   refine L0 rfl rfl (E_ext (n := 1) (I y2.1) (.tc (I y2.2) .tn) (I y2.2) rfl (by kernel_rfl) (by kernel_rfl) (by intro hh; cases hh)) ?_
   refine L0 rfl rfl (E_assign (I y2.1) rfl (by kernel_rfl)) ?_
   refine L0 rfl rfl (E_assign (I y2.2) rfl (by kernel_rfl)) ?_
   refine XL_nil ?_
   kernel_rfl
  refine V_seq ?_
  obtain ⟨y3, hy3, h⟩ := of_bind h
  refine V_sreg (mb 20 8240) [] (s1 := ⟨bt 4 (I y2.1 :: I y2.2 :: bt 7 (Bo (!eqI y3 1) :: bt 6 [])), []⟩) ?_ ?_
  ·refine L0 rfl rfl (E_move (I y2.1) rfl (by kernel_rfl)) ?_
   refine L1 rfl rfl (Y1_call (s_impl_mod hy3) cf_impl_mod rfl (by kernel_rfl)) ?_
   refine L0 rfl rfl (Y0_new (k := .i64) (a := y3) (b := 1) rfl (by kernel_rfl) (by kernel_rfl)) ?_
   refine XL_nil ?_
   kernel_rfl
  refine V_cond rfl (fun hc4 => ?_) (fun hc4 => ?_)
  ·have h := of_true h hc4
   obtain ⟨t5, ht5, h⟩ := of_sI h
   obtain ⟨t6, ht6, h⟩ := of_sI h
   refine V_sreg (mb 20 12) [] (s1 := ⟨.bot :: .bot :: I t5 :: I t6 :: bt 16 [], []⟩) ?_ ?_
   ·refine L0 rfl rfl (E_move (I y2.1) rfl (by kernel_rfl)) ?_
    refine L0 rfl rfl (Y0_mul64 (a := 4) (b := y2.1) rfl (by kernel_rfl) (by kernel_rfl)) ?_
    refine L0 rfl rfl (E_move (I y2.2) rfl (by kernel_rfl)) ?_
    refine L0 rfl rfl (Y0_quo64 (a := y2.2) (b := 2) rfl (by kernel_rfl) (by kernel_rfl) (by decide)) ?_
    refine L0 rfl rfl (E_assign (I (w64 (4 * y2.1))) rfl (by kernel_rfl)) ?_
    refine L0 rfl rfl (E_assign (I (w64 (Int.tdiv y2.2 2))) rfl (by kernel_rfl)) ?_
    refine XL_nil ?_
    subst ht5 ht6
    kernel_rfl
   refine V_ret ?_
   obtain rfl := some_inj h
   show Post _ _ _ _ _
   exact ⟨.inr rfl, rfl, rfl, rfl⟩
  ·have h := of_false h hc4
   refine V_skip ?_
   show V _ _ _ _
   refine V_sreg (mb 20 12) [] (s1 := ⟨.bot :: .bot :: I y2.1 :: I y2.2 :: bt 16 [], []⟩) ?_ ?_
   ·refine L0 rfl rfl (E_move (I y2.1) rfl (by kernel_rfl)) ?_
    refine L0 rfl rfl (E_move (I y2.2) rfl (by kernel_rfl)) ?_
    refine L0 rfl rfl (E_assign (I y2.1) rfl (by kernel_rfl)) ?_
    refine L0 rfl rfl (E_assign (I y2.2) rfl (by kernel_rfl)) ?_
    refine XL_nil ?_
    kernel_rfl
   refine V_ret ?_
   obtain rfl := some_inj h
   show Post _ _ _ _ _
   exact ⟨.inr rfl, rfl, rfl, rfl⟩
theorem cf_impl_IsFundamental : ∀ args w, (callFunc 25 args).run Try.prog w = .ok (.enter 25 args) w := run_callFunc Try.func25 (by kernel_rfl) (by kernel_rfl)
set_option maxRecDepth 100000 in
set_option maxHeartbeats 400000 in
theorem s_impl_IsFundamental {d1 : Int} {r : (Bool × Bool)} (h : r_impl_IsFundamental d1 = some r) : CallS Try.prog 25 [I d1] (.tc (Bo r.1) (.tc (Bo r.2) .tn)) [] := by
  refine CallS_of_text (rs := [.t 2, .t 3]) (vs := [.tmp 2, .tmp 3]) Try.func25 rfl rfl (.cons rfl (.cons rfl FitsL.nil)) (by decide) 16 rfl ?_
  unfold r_impl_IsFundamental at h
  show V _ _ ⟨I d1 :: bt 15 [], []⟩ _
  refine V_sreg (mb 16 1) [] (s1 := ⟨I d1 :: bt 15 [], []⟩) ?_ ?_
  ·refine L0 rfl rfl (E_assign (Bo false) rfl (by kernel_rfl)) ?_
   refine L0 rfl rfl (E_assign (Bo false) rfl (by kernel_rfl)) ?_
   refine XL_nil ?_
   kernel_rfl
  refine V_seq ?_
  obtain ⟨y2, hy2, h⟩ := of_bind h
  refine V_sreg (mb 16 257) [] (s1 := ⟨I d1 :: bt 7 (Bo (!y2) :: bt 7 []), []⟩) ?_ ?_
  ·refine L0 rfl rfl (E_move (I d1) rfl (by kernel_rfl)) ?_
   refine L1 rfl rfl (Y1_call (s_impl_isDiscriminant hy2) cf_impl_isDiscriminant rfl (by kernel_rfl)) ?_
   refine L0 rfl rfl (Y0_not (b := y2) rfl (by kernel_rfl)) ?_
   refine XL_nil ?_
   kernel_rfl
  refine V_cond rfl (fun hc3 => ?_) (fun hc3 => ?_)
  ·have h := of_true h hc3
   refine V_sreg (mb 16 12) [] (s1 := ⟨.bot :: .bot :: Bo false :: Bo false :: bt 12 [], []⟩) ?_ ?_
   ·refine L0 rfl rfl (E_assign (Bo false) rfl (by kernel_rfl)) ?_
    refine L0 rfl rfl (E_assign (Bo false) rfl (by kernel_rfl)) ?_
    refine XL_nil ?_
    kernel_rfl
   refine V_ret ?_
   obtain rfl := some_inj h
   show Post _ _ _ _ _
   exact ⟨.inr rfl, rfl, rfl, rfl⟩
  ·have h := of_false h hc3
   refine V_skip ?_
   show V _ _ _ _
   obtain ⟨y4, hy4, h⟩ := of_bind h
   refine V_sreg (mb 16 32) [] (s1 := ⟨bt 5 (I y4.2 :: bt 10 []), []⟩) ?_ ?_
   ·refine L0 rfl rfl (E_move (I d1) rfl (by kernel_rfl)) ?_
    refine L1 rfl rfl (Y1_call (s_impl_fundamental hy4) cf_impl_fundamental rfl (by kernel_rfl)) ?_
    refine L0 rfl rfl (E_move (.tc (I y4.1) (.tc (I y4.2) .tn)) rfl (by kernel_rfl)) ?_
    refine L0 rfl rfl (E_ext (n := 0) (I y4.1) (.tc (I y4.2) .tn) (I y4.1) rfl (by kernel_rfl) (by kernel_rfl) (by intro hh; cases hh)) ?_
    refine L0 rfl rfl (E_ext (n := 1) (I y4.1) (.tc (I y4.2) .tn) (I y4.2) rfl (by kernel_rfl) (by kernel_rfl) (by intro hh; cases hh)) ?_
    refine L0 rfl rfl (E_assign (I y4.1) rfl (by kernel_rfl)) ?_
    refine L0 rfl rfl (E_assign (I y4.2) rfl (by kernel_rfl)) ?_
    refine XL_nil ?_
    kernel_rfl
   refine V_sreg (mb 16 12) [] (s1 := ⟨.bot :: .bot :: Bo (eqI y4.2 1) :: Bo true :: bt 12 [], []⟩) ?_ ?_
   ·refine L0 rfl rfl (E_move (I y4.2) rfl (by kernel_rfl)) ?_
    refine L0 rfl rfl (Y0_eqw (k := .i64) (a := y4.2) (b := 1) rfl (by kernel_rfl) (by kernel_rfl)) ?_
    refine L0 rfl rfl (E_assign (Bo (eqI y4.2 1)) rfl (by kernel_rfl)) ?_
    refine L0 rfl rfl (E_assign (Bo true) rfl (by kernel_rfl)) ?_
    refine XL_nil ?_
    kernel_rfl
   refine V_ret ?_
   obtain rfl := some_inj h
   show Post _ _ _ _ _
   exact ⟨.inr rfl, rfl, rfl, rfl⟩
theorem cf_impl_AutomorphCount : ∀ args w, (callFunc 26 args).run Try.prog w = .ok (.enter 26 args) w := run_callFunc Try.func26 (by kernel_rfl) (by kernel_rfl)
set_option maxRecDepth 100000 in
set_option maxHeartbeats 400000 in
theorem s_impl_AutomorphCount {d1 : Int} {r : (Int × Bool)} (h : r_impl_AutomorphCount d1 = some r) : CallS Try.prog 26 [I d1] (.tc (I r.1) (.tc (Bo r.2) .tn)) [] := by
  refine CallS_of_text (rs := [.t 2, .t 3]) (vs := [.tmp 2, .tmp 3]) Try.func26 rfl rfl (.cons rfl (.cons rfl FitsL.nil)) (by decide) 14 rfl ?_
  unfold r_impl_AutomorphCount at h
  show V _ _ ⟨I d1 :: bt 13 [], []⟩ _
  refine V_sreg (mb 14 1) [] (s1 := ⟨I d1 :: bt 13 [], []⟩) ?_ ?_
  ·refine L0 rfl rfl (E_assign (I 0) rfl (by kernel_rfl)) ?_
   refine L0 rfl rfl (E_assign (Bo false) rfl (by kernel_rfl)) ?_
   refine XL_nil ?_
   kernel_rfl
  refine V_seq ?_
  refine V_block ?_
  obtain ⟨y2, hy2, h⟩ := of_bind h
  refine V_sreg (mb 14 17) [] (s1 := ⟨I d1 :: bt 3 (Bo (!y2) :: bt 9 []), []⟩) ?_ ?_
  ·refine L0 rfl rfl (E_move (I d1) rfl (by kernel_rfl)) ?_
   refine L1 rfl rfl (Y1_call (s_impl_isNegativeDisc hy2) cf_impl_isNegativeDisc rfl (by kernel_rfl)) ?_
   refine L0 rfl rfl (Y0_not (b := y2) rfl (by kernel_rfl)) ?_
   refine L0 rfl rfl (E_assign (Bo (!y2)) rfl (by kernel_rfl)) ?_
   refine XL_nil ?_
   kernel_rfl
  refine V_cond rfl (fun hc3 => ?_) (fun hc3 => ?_)
  ·have h := of_true h hc3
   refine V_sreg (mb 14 12) [] (s1 := ⟨.bot :: .bot :: I 0 :: Bo false :: bt 10 [], []⟩) ?_ ?_
   ·refine L0 rfl rfl (E_assign (I 0) rfl (by kernel_rfl)) ?_
    refine L0 rfl rfl (E_assign (Bo false) rfl (by kernel_rfl)) ?_
    refine XL_nil ?_
    kernel_rfl
   refine V_ret ?_
   obtain rfl := some_inj h
   show Post _ _ _ _ _
   exact ⟨.inr rfl, rfl, rfl, rfl⟩
  ·have h := of_false h hc3
   refine V_sreg (mb 14 257) [] (s1 := ⟨I d1 :: bt 7 (Bo (eqI d1 (-3)) :: bt 5 []), []⟩) ?_ ?_
   ·refine L0 rfl rfl (E_move (I d1) rfl (by kernel_rfl)) ?_
    refine L0 rfl rfl (Y0_eqw (k := .i64) (a := d1) (b := -3) rfl (by kernel_rfl) (by kernel_rfl)) ?_
    refine L0 rfl rfl (E_assign (Bo (eqI d1 (-3))) rfl (by kernel_rfl)) ?_
    refine XL_nil ?_
    kernel_rfl
   refine V_cond rfl (fun hc4 => ?_) (fun hc4 => ?_)
   ·have h := of_true h hc4
    refine V_sreg (mb 14 12) [] (s1 := ⟨.bot :: .bot :: I 6 :: Bo true :: bt 10 [], []⟩) ?_ ?_
    ·refine L0 rfl rfl (E_assign (I 6) rfl (by kernel_rfl)) ?_
     refine L0 rfl rfl (E_assign (Bo true) rfl (by kernel_rfl)) ?_
     refine XL_nil ?_
     kernel_rfl
    refine V_ret ?_
    obtain rfl := some_inj h
    show Post _ _ _ _ _
    exact ⟨.inr rfl, rfl, rfl, rfl⟩
   ·have h := of_false h hc4
    refine V_sreg (mb 14 2048) [] (s1 := ⟨bt 11 (Bo (eqI d1 (-4)) :: .bot :: .bot :: []), []⟩) ?_ ?_
    ·refine L0 rfl rfl (E_move (I d1) rfl (by kernel_rfl)) ?_
     refine L0 rfl rfl (Y0_eqw (k := .i64) (a := d1) (b := -4) rfl (by kernel_rfl) (by kernel_rfl)) ?_
     refine L0 rfl rfl (E_assign (Bo (eqI d1 (-4))) rfl (by kernel_rfl)) ?_
     refine XL_nil ?_
     kernel_rfl
    refine V_cond rfl (fun hc5 => ?_) (fun hc5 => ?_)
    ·have h := of_true h hc5
     refine V_sreg (mb 14 12) [] (s1 := ⟨.bot :: .bot :: I 4 :: Bo true :: bt 10 [], []⟩) ?_ ?_
     ·refine L0 rfl rfl (E_assign (I 4) rfl (by kernel_rfl)) ?_
      refine L0 rfl rfl (E_assign (Bo true) rfl (by kernel_rfl)) ?_
      refine XL_nil ?_
      kernel_rfl
     refine V_ret ?_
     obtain rfl := some_inj h
     show Post _ _ _ _ _
     exact ⟨.inr rfl, rfl, rfl, rfl⟩
    ·have h := of_false h hc5
     refine V_skip ?_
     show V _ _ _ _
     refine V_sreg (mb 14 12) [] (s1 := ⟨.bot :: .bot :: I 2 :: Bo true :: bt 10 [], []⟩) ?_ ?_
     ·refine L0 rfl rfl (E_assign (I 2) rfl (by kernel_rfl)) ?_
      refine L0 rfl rfl (E_assign (Bo true) rfl (by kernel_rfl)) ?_
      refine XL_nil ?_
      kernel_rfl
     refine V_ret ?_
     obtain rfl := some_inj h
     show Post _ _ _ _ _
     exact ⟨.inr rfl, rfl, rfl, rfl⟩
theorem cf_impl_kronecker : ∀ args w, (callFunc 49 args).run Try.prog w = .ok (.enter 49 args) w := run_callFunc Try.func49 (by kernel_rfl) (by kernel_rfl)
set_option maxRecDepth 100000 in
set_option maxHeartbeats 400000 in
theorem s_impl_kronecker {a1 : Int} {vn2 : Int} {r : Int} (h : r_impl_kronecker a1 vn2 = some r) : CallS Try.prog 49 [I a1, I vn2] (I r) [] := by
  refine CallS_of_text (rs := [.t 4]) (vs := [.tmp 4]) Try.func49 rfl rfl (.cons rfl FitsL.nil) (by decide) 36 rfl ?_
  unfold r_impl_kronecker at h
  show V _ _ ⟨I a1 :: I vn2 :: bt 34 [], []⟩ _
  refine V_sreg (mb 36 3) [] (s1 := ⟨I a1 :: I vn2 :: bt 34 [], []⟩) ?_ ?_
  ·refine L0 rfl rfl (E_assign (I 0) rfl (by kernel_rfl)) ?_
   refine XL_nil ?_
   kernel_rfl
  refine V_seq ?_
  refine V_sreg (mb 36 131) [] (s1 := ⟨I a1 :: I vn2 :: bt 5 (Bo (eqI vn2 0) :: bt 28 []), []⟩) ?_ ?_
  ·refine L0 rfl rfl (E_move (I vn2) rfl (by kernel_rfl)) ?_
   refine L0 rfl rfl (Y0_eqw (k := .i64) (a := vn2) (b := 0) rfl (by kernel_rfl) (by kernel_rfl)) ?_
   refine XL_nil ?_
   kernel_rfl
  refine V_cond rfl (fun hc3 => ?_) (fun hc3 => ?_)
  ·have h := of_true h hc3
   refine V_seq ?_
   obtain ⟨y4, hy4, h⟩ := of_bind h
   refine V_sreg (mb 36 1024) [] (s1 := ⟨bt 10 (Bo (eqI y4 1) :: bt 25 []), []⟩) ?_ ?_
   ·refine L0 rfl rfl (E_move (I a1) rfl (by kernel_rfl)) ?_
    refine L1 rfl rfl (Y1_call (s_impl_abs hy4) cf_impl_abs rfl (by kernel_rfl)) ?_
    refine L0 rfl rfl (Y0_eqw (k := .i64) (a := y4) (b := 1) rfl (by kernel_rfl) (by kernel_rfl)) ?_
    refine XL_nil ?_
    kernel_rfl
   refine V_cond rfl (fun hc5 => ?_) (fun hc5 => ?_)
   ·have h := of_true h hc5
    refine V_sreg (mb 36 16) [] (s1 := ⟨bt 4 (I 1 :: bt 31 []), []⟩) ?_ ?_
    ·refine L0 rfl rfl (E_assign (I 1) rfl (by kernel_rfl)) ?_
     refine XL_nil ?_
     kernel_rfl
    refine V_ret ?_
    obtain rfl := some_inj h
    show Post _ _ _ _ _
    exact ⟨.inr rfl, rfl, rfl, rfl⟩
   ·have h := of_false h hc5
    refine V_skip ?_
    show V _ _ _ _
    refine V_sreg (mb 36 16) [] (s1 := ⟨bt 4 (I 0 :: bt 31 []), []⟩) ?_ ?_
    ·refine L0 rfl rfl (E_assign (I 0) rfl (by kernel_rfl)) ?_
     refine XL_nil ?_
     kernel_rfl
    refine V_ret ?_
    obtain rfl := some_inj h
    show Post _ _ _ _ _
    exact ⟨.inr rfl, rfl, rfl, rfl⟩
  ·have h := of_false h hc3
   refine V_skip ?_
   show V _ _ _ _
   refine V_sreg (mb 36 35) [] (s1 := ⟨I a1 :: I vn2 :: bt 3 (I 1 :: bt 30 []), []⟩) ?_ ?_
   ·refine L0 rfl rfl (E_assign (I 1) rfl (by kernel_rfl)) ?_
    refine XL_nil ?_
    kernel_rfl
   obtain ⟨j6, hj6, h⟩ := of_bind h
   refine V_cutK (mb 36 35) [] (s1 := ⟨I a1 :: I vn2 :: bt 3 (I j6 :: bt 30 []), []⟩) ?_ ?_
   ·clear h
    have h := hj6
    clear hj6
    refine V_sreg (mb 36 65571) [] (s1 := ⟨I a1 :: I vn2 :: bt 3 (I 1 :: bt 10 (Bo (bif (ltI vn2 0) then (ltI a1 0) else false) :: bt 19 [])), []⟩) ?_ ?_
    ·refine L0 rfl rfl (E_move (I vn2) rfl (by kernel_rfl)) ?_
     refine L0 rfl rfl (Y0_ltw (k := .i64) (a := vn2) (b := 0) rfl (by kernel_rfl) (by kernel_rfl)) ?_
     refine L0 rfl rfl (E_move (Bo (ltI vn2 0)) rfl (by kernel_rfl)) ?_
     refine XL_split (ltI vn2 0) (fun hc7 => ?_) (fun hc7 => ?_)
     ·refine XL_takeC _ rfl rfl (by kernel_rfl) hc7 (X_of_Y0 rfl (E_move (I a1) rfl (by kernel_rfl))) ?_
      refine XL_takeC _ rfl rfl (by kernel_rfl) hc7 (X_of_Y0 rfl (Y0_ltw (k := .i64) (a := a1) (b := 0) rfl (by kernel_rfl) (by kernel_rfl))) ?_
      refine XL_cons rfl (X_of_Y0 rfl (Y0_pick1 (b := ltI vn2 0) (p := ltI a1 0) (q := false) rfl (by kernel_rfl) hc7 (by kernel_rfl))) ?_
      refine XL_nil ?_
      kernel_rfl
     ·refine XL_skipT _ rfl rfl (by kernel_rfl) hc7 rfl ?_
      refine XL_skipT _ rfl rfl (by kernel_rfl) hc7 rfl ?_
      refine XL_cons rfl (X_of_Y0 rfl (Y0_pick0 (b := ltI vn2 0) (p := ltI a1 0) (q := false) rfl (by kernel_rfl) hc7 (by kernel_rfl))) ?_
      refine XL_nil ?_
      kernel_rfl
    refine V_cond rfl (fun hc8 => ?_) (fun hc8 => ?_)
    ·have h := of_true h hc8
     refine V_reg (mb 36 35) [] (s1 := ⟨I a1 :: I vn2 :: bt 3 (I (-1) :: bt 30 []), []⟩) ?_ ?_
     ·refine L0 rfl rfl (E_assign (I (-1)) rfl (by kernel_rfl)) ?_
      refine XL_nil ?_
      kernel_rfl
     obtain rfl := some_inj h
     show St.keep _ _ _ = _
     rfl
    ·have h := of_false h hc8
     refine V_skip ?_
     obtain rfl := some_inj h
     show St.keep _ _ _ = _
     rfl
   obtain ⟨y9, hy9, h⟩ := of_bind h
   refine V_sreg (mb 36 35) [] (s1 := ⟨I a1 :: I y9 :: bt 3 (I j6 :: bt 30 []), []⟩) ?_ ?_
   ·refine L0 rfl rfl (E_move (I vn2) rfl (by kernel_rfl)) ?_
    refine L1 rfl rfl (Y1_call (s_impl_abs hy9) cf_impl_abs rfl (by kernel_rfl)) ?_
    refine L0 rfl rfl (E_assign (I y9) rfl (by kernel_rfl)) ?_
    refine XL_nil ?_
    kernel_rfl
   refine V_seq ?_
   obtain ⟨qo13, hLo13, hko13⟩ := of_bind h
   refine V_toS (q := qo13) (S := fun o13 => ⟨I a1 :: I o13.1 :: bt 3 (I o13.2 :: bt 30 []), []⟩) (mb 36 35) [] ?_ ?_
   ·refine V_block (V_loop (fun n s => ∃ (vn10 : Int) (vs11 : Int), s.keep (mb 36 35) [] = (⟨I a1 :: I vn10 :: bt 3 (I vs11 :: bt 30 []), []⟩ : St) ∧ r_impl_kronecker_L12 a1 n vn10 vs11 = some qo13) FU ⟨_, _,  by rfl, hLo13⟩ ?_)
    clear hLo13
    rintro n s ⟨vn10, vs11, hs, h⟩
    refine V_keep _ _ hs ?_
    clear hs
    cases n with
    | zero => cases h
    | succ n =>
     rw [r_impl_kronecker_L12] at h
     refine V_seq ?_
     refine V_sreg (mb 36 2097187) [] (s1 := ⟨I a1 :: I vn10 :: bt 3 (I vs11 :: bt 15 (Bo (eqI (Int.tmod vn10 2) 0) :: bt 14 [])), []⟩) ?_ ?_
     ·refine L0 rfl rfl (E_move (I vn10) rfl (by kernel_rfl)) ?_
      refine L0 rfl rfl (Y0_rem (k := .i64) (a := vn10) (b := 2) rfl (by kernel_rfl) (by kernel_rfl) (by decide)) ?_
      refine L0 rfl rfl (Y0_eqw (k := .i64) (a := Int.tmod vn10 2) (b := 0) rfl (by kernel_rfl) (by kernel_rfl)) ?_
      refine XL_nil ?_
      kernel_rfl
     refine V_cond rfl (fun hc14 => ?_) (fun hc14 => ?_)
     ·have h := of_true h hc14
      refine V_skip ?_
      show V _ _ _ _
      refine V_block ?_
      refine V_seq ?_
      refine V_sreg (mb 36 16777251) [] (s1 := ⟨I a1 :: I vn10 :: bt 3 (I vs11 :: bt 18 (Bo (eqI (Int.tmod a1 2) 0) :: bt 11 [])), []⟩) ?_ ?_
      ·refine L0 rfl rfl (E_move (I a1) rfl (by kernel_rfl)) ?_
       refine L0 rfl rfl (Y0_rem (k := .i64) (a := a1) (b := 2) rfl (by kernel_rfl) (by kernel_rfl) (by decide)) ?_
       refine L0 rfl rfl (Y0_eqw (k := .i64) (a := Int.tmod a1 2) (b := 0) rfl (by kernel_rfl) (by kernel_rfl)) ?_
       refine XL_nil ?_
       kernel_rfl
      refine V_cond rfl (fun hc15 => ?_) (fun hc15 => ?_)
      ·have h := of_true h hc15
       refine V_sreg (mb 36 16) [] (s1 := ⟨bt 4 (I 0 :: bt 31 []), []⟩) ?_ ?_
       ·refine L0 rfl rfl (E_assign (I 0) rfl (by kernel_rfl)) ?_
        refine XL_nil ?_
        kernel_rfl
       refine V_ret ?_
       obtain rfl := some_inj h
       have h := hko13
       obtain rfl := some_inj h
       show Post _ _ _ _ _
       exact ⟨.inr rfl, rfl, rfl, rfl⟩
      ·have h := of_false h hc15
       refine V_skip ?_
       show V _ _ _ _
       obtain ⟨vn16, hvn16, h⟩ := of_sI h
       refine V_sreg (mb 36 35) [] (s1 := ⟨I a1 :: I vn16 :: bt 3 (I vs11 :: bt 30 []), []⟩) ?_ ?_
       ·refine L0 rfl rfl (E_move (I vn10) rfl (by kernel_rfl)) ?_
        refine L0 rfl rfl (Y0_quo64 (a := vn10) (b := 2) rfl (by kernel_rfl) (by kernel_rfl) (by decide)) ?_
        refine L0 rfl rfl (E_assign (I (w64 (Int.tdiv vn10 2))) rfl (by kernel_rfl)) ?_
        refine XL_nil ?_
        subst hvn16
        kernel_rfl
       obtain ⟨y17, hy17, h⟩ := of_bind h
       obtain ⟨vs18, hvs18, h⟩ := of_sI h
       refine V_reg (mb 36 35) [] (s1 := ⟨I a1 :: I vn16 :: bt 3 (I vs18 :: bt 30 []), []⟩) ?_ ?_
       ·refine L0 rfl rfl (E_move (I vs11) rfl (by kernel_rfl)) ?_
        refine L0 rfl rfl (E_move (I a1) rfl (by kernel_rfl)) ?_
        refine L1 rfl rfl (Y1_call (s_impl_symbolOfTwo hy17) cf_impl_symbolOfTwo rfl (by kernel_rfl)) ?_
        refine L0 rfl rfl (Y0_mul64 (a := vs11) (b := y17) rfl (by kernel_rfl) (by kernel_rfl)) ?_
        refine L0 rfl rfl (E_assign (I (w64 (vs11 * y17))) rfl (by kernel_rfl)) ?_
        refine XL_nil ?_
        subst hvs18
        kernel_rfl
       exact ⟨n, Nat.lt_succ_self n, _, _,  by rfl, h⟩
     ·have h := of_false h hc14
      refine V_exit ?_
      obtain rfl := some_inj h
      exact ⟨_, rfl, by rfl⟩
   rintro o13 rfl
   have h := hko13
   clear hko13
   show V _ _ _ _
   obtain ⟨y19, hy19, h⟩ := of_bind h
   obtain ⟨t20, ht20, h⟩ := of_sI h
   refine V_sreg (mb 36 16) [] (s1 := ⟨bt 4 (I t20 :: bt 31 []), []⟩) ?_ ?_
   ·refine L0 rfl rfl (E_move (I o13.2) rfl (by kernel_rfl)) ?_
    refine L0 rfl rfl (E_move (I a1) rfl (by kernel_rfl)) ?_
    refine L0 rfl rfl (E_move (I o13.1) rfl (by kernel_rfl)) ?_
    refine L1 rfl rfl (Y1_call (s_impl_jacobi hy19) cf_impl_jacobi rfl (by kernel_rfl)) ?_
    refine L0 rfl rfl (Y0_mul64 (a := o13.2) (b := y19) rfl (by kernel_rfl) (by kernel_rfl)) ?_
    refine L0 rfl rfl (E_assign (I (w64 (o13.2 * y19))) rfl (by kernel_rfl)) ?_
    refine XL_nil ?_
    subst ht20
    kernel_rfl
   refine V_ret ?_
   obtain rfl := some_inj h
   show Post _ _ _ _ _
   exact ⟨.inr rfl, rfl, rfl, rfl⟩
end Go.Proofs.Ytpfnhgpepgeaiaa
