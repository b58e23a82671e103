/-
  The functions of the program compute what the plain functions say: more of them.
  Conditions: none.
-/
import Derived.Test.YtgeajejmikaniaaIvSnd1
namespace Go.Proofs.Ytgeajejmikaniaa
open Go.RowKit
set_option linter.unusedVariables false
set_option linter.unusedSimpArgs false
set_option maxRecDepth 100000
set_option maxHeartbeats 400000
theorem cf_spec_DrawIndefinitePoints : ∀ args w, (callFunc 48 args).run Try.prog w = .ok (.enter 48 args) w := run_callFunc Try.func48 (by kernel_rfl) (by kernel_rfl)
theorem s_spec_DrawIndefinitePoints {code1 : List Int} {r : (((Int × Int × Int)) × Int)} (h : r_spec_DrawIndefinitePoints code1 = some r) : CallS Try.prog 48 [.c (.sl (code1.map c5))] (.tc (.ag [Ti r.1.1, Ti r.1.2.1, Ti r.1.2.2]) (.tc (I r.2) .tn)) [] := by
  refine CallS_of_text (rs := [.w 2 3, .t 3]) (vs := [.cell 2 45, .tmp 3]) Try.func48 rfl rfl (.cons ⟨rfl, wd45⟩ (.cons rfl FitsL.nil)) (by decide) 34 rfl ?_
  unfold r_spec_DrawIndefinitePoints at h
  show V _ _ ⟨.c (.sl (code1.map c5)) :: bt 33 [], []⟩ _
  refine V_e (mb 34 5) [16] (s1 := ⟨.c (.sl (code1.map c5)) :: .bot :: .pt 16 0 :: bt 31 [], [(16, .box [Ti 0, Ti 0, Ti 0])]⟩) ?_
  refine V_sreg (mb 34 20) [72, 16] (s1 := ⟨.bot :: .bot :: .pt 16 0 :: .bot :: .pt 72 0 :: bt 29 [], [(72, .box [.sl (code1.map c5), Ti 0, .v (.int .u64 0)]), (16, .box [Ti 0, Ti 0, Ti 0])]⟩) ?_ ?_
  ·refine XR 1 ?_
   refine L0 rfl rfl (Y0_build (cs := [.sl (code1.map c5), Ti 0, .v (.int .u64 0)]) pl98 bt98 rfl rfl (by kernel_rfl)) ?_
   exact XE
  obtain ⟨y2, hy2, h⟩ := of_bind h
  refine V_sreg (mb 34 52) [40, 72, 16] (s1 := ⟨.bot :: .bot :: .pt 16 0 :: .bot :: .pt 72 0 :: .pt 40 0 :: bt 28 [], [(40, .box [Ti y2.1.1, Ti y2.1.2.1, Ti y2.1.2.2]), (72, .box [.sl (y2.2.1.map c5), Ti y2.2.2.1, .v (.int .u64 y2.2.2.2)]), (16, .box [Ti 0, Ti 0, Ti 0])]⟩) ?_ ?_
  ·refine XR 1 ?_
   refine XL_cons rfl (X_callR (E' := [(72, .box [.sl (y2.2.1.map c5), Ti y2.2.2.1, .v (.int .u64 y2.2.2.2)]), (16, .box [Ti 0, Ti 0, Ti 0])]) [(80000, 72)] 11 (s_spec_l1Cur_indefinite hy2) cf_spec_l1Cur_indefinite rfl rfl (by kernel_rfl) rfl (mE_cons (by kernel_rfl) mE_nil) rfl (by kernel_rfl) rfl rfl (by kernel_rfl)) ?_
   exact XE
  obtain ⟨y3, hy3, h⟩ := of_bind h
  obtain ⟨y4, hy4, h⟩ := of_bind h
  refine V_sreg (mb 34 116) [40, 72, 16] (s1 := ⟨.bot :: .bot :: .pt 16 0 :: .bot :: .pt 72 0 :: .pt 40 0 :: I y4.1 :: bt 27 [], [(40, .box [Ti y2.1.1, Ti y2.1.2.1, Ti y2.1.2.2]), (72, .box [.sl (y4.2.1.map c5), Ti y4.2.2.1, .v (.int .u64 y4.2.2.2)]), (16, .box [Ti 0, Ti 0, Ti 0])]⟩) ?_ ?_
  ·refine XR 2 ?_
   refine XL_cons rfl (X_callR (E' := [(40, .box [Ti y2.1.1, Ti y2.1.2.1, Ti y2.1.2.2]), (72, .box [.sl (y3.2.1.map c5), Ti y3.2.2.1, .v (.int .u64 y3.2.2.2)]), (16, .box [Ti 0, Ti 0, Ti 0])]) [(80000, 72)] 14 (s_spec_l1Cur_pick hy3) cf_spec_l1Cur_pick rfl rfl (by kernel_rfl) rfl (mE_cons (by kernel_rfl) mE_nil) rfl (by kernel_rfl) rfl rfl (by kernel_rfl)) ?_
   refine XR 1 ?_
   refine L1 rfl rfl (Y1_bslice (z := zv3) (els := [1, -1, 2, -2, 200, -200, 201, 0, w64 (y3.1 - 50)].map c3) Try.underlying41 iz3 rfl (by decide) rfl (by kernel_rfl) rfl (by simp [c3]) (by decide) (by decide)) ?_
   refine XL_freeze 128 (T := 3) (sz := 1) (els := ([1, -1, 2, -2, 200, -200, 201, 0, w64 (y3.1 - 50)]).map c3) (s1 := ⟨.bot :: .bot :: .pt 16 0 :: .bot :: .pt 72 0 :: .pt 40 0 :: bt 6 (.pt 72 0 :: .pt 72 0 :: I y3.1 :: I (w64 (y3.1 - 50)) :: .c (.sl (([1, -1, 2, -2, 200, -200, 201, 0, w64 (y3.1 - 50)]).map c3)) :: bt 17 []), [(40, .box [Ti y2.1.1, Ti y2.1.2.1, Ti y2.1.2.2]), (72, .box [.sl (y3.2.1.map c5), Ti y3.2.2.1, .v (.int .u64 y3.2.2.2)]), (16, .box [Ti 0, Ti 0, Ti 0])]⟩) (by kernel_rfl) (by kernel_rfl) ?_
   refine XL_cons rfl (X_callR (E' := [(40, .box [Ti y2.1.1, Ti y2.1.2.1, Ti y2.1.2.2]), (72, .box [.sl (y4.2.1.map c5), Ti y4.2.2.1, .v (.int .u64 y4.2.2.2)]), (16, .box [Ti 0, Ti 0, Ti 0])]) [(80000, 72)] 17 (s_spec_l1Cur_among hy4) cf_spec_l1Cur_among rfl rfl (by kernel_rfl) rfl (mE_cons (by kernel_rfl) mE_nil) rfl (by kernel_rfl) rfl rfl (by kernel_rfl)) ?_
   exact XE
  refine V_seq ?_
  obtain ⟨y5, hy5, h⟩ := of_bind h
  obtain ⟨b8, hb8, h⟩ := of_bind h
  refine V_sreg (mb 34 8388724) [40, 72, 16] (s1 := ⟨.bot :: .bot :: .pt 16 0 :: .bot :: .pt 72 0 :: .pt 40 0 :: I y4.1 :: bt 16 (Bo b8.1 :: bt 10 []), [(40, .box [Ti y2.1.1, Ti y2.1.2.1, Ti y2.1.2.2]), (72, .box [.sl (b8.2.1.map c5), Ti b8.2.2.1, .v (.int .u64 b8.2.2.2)]), (16, .box [Ti 0, Ti 0, Ti 0])]⟩) ?_ ?_
  ·refine XR 1 ?_
   refine XC (s_spec_cyGood hy5) cf_spec_cyGood rfl rfl rfl ?_
   refine XR 1 ?_
   refine XL_split y5 (fun hc6 => ?_) (fun hc6 => ?_)
   ·have hb8 := of_true hb8 hc6
    obtain ⟨y7, hy7, hb8⟩ := of_bind hb8
    have hb8 := some_inj hb8
    subst hb8
    refine XL_takeC _ rfl rfl (by kernel_rfl) hc6 (X_of_Y0 rfl (E_move (.pt 72 0) rfl (by kernel_rfl))) ?_
    refine XL_takeC _ rfl rfl (by kernel_rfl) hc6 (X_callR (E' := [(40, .box [Ti y2.1.1, Ti y2.1.2.1, Ti y2.1.2.2]), (72, .box [.sl (y7.2.1.map c5), Ti y7.2.2.1, .v (.int .u64 y7.2.2.2)]), (16, .box [Ti 0, Ti 0, Ti 0])]) [(80000, 72)] 22 (s_spec_l1Cur_one hy7) cf_spec_l1Cur_one rfl rfl (by kernel_rfl) rfl (mE_cons (by kernel_rfl) mE_nil) rfl (by kernel_rfl) rfl rfl (by kernel_rfl)) ?_
    refine XL_cons rfl (X_of_Y0 rfl (Y0_pickTe (b := y5) (p := y7.1) rfl (by kernel_rfl) hc6 (by kernel_rfl) rfl)) ?_
    exact XE
   ·have hb8 := some_inj (of_false hb8 hc6)
    subst hb8
    refine XL_skipT _ rfl rfl (by kernel_rfl) hc6 rfl ?_
    refine XL_skipT _ rfl rfl (by kernel_rfl) hc6 rfl ?_
    refine XL_cons rfl (X_of_Y0 rfl (Y0_pickFe (b := y5) (p := false) rfl (by kernel_rfl) hc6 (by kernel_rfl) rfl)) ?_
    exact XE
  refine V_cond rfl (fun hc9 => ?_) (fun hc9 => ?_)
  ·have h := of_true h hc9
   obtain ⟨y10, hy10, h⟩ := of_bind h
   obtain ⟨y11, hy11, h⟩ := of_bind h
   obtain ⟨y12, hy12, h⟩ := of_bind h
   refine V_dagK (mb 34 100) [40, 16] [0, 0, 2, 6, 0, 22, 54, 127, 255] [(0, ⟨.bot :: .bot :: .pt 16 0 :: .bot :: .pt 72 0 :: .pt 40 0 :: I y4.1 :: bt 16 (Bo b8.1 :: bt 10 []), [(40, .box [Ti y2.1.1, Ti y2.1.2.1, Ti y2.1.2.2]), (72, .box [.sl (b8.2.1.map c5), Ti b8.2.2.1, .v (.int .u64 b8.2.2.2)]), (16, .box [Ti 0, Ti 0, Ti 0])]⟩), (1, ⟨.bot :: .bot :: .pt 16 0 :: .bot :: .pt 72 0 :: .pt 40 0 :: I y4.1 :: bt 16 (Bo b8.1 :: .ag [Ti y2.1.1, Ti y2.1.2.1, Ti y2.1.2.2] :: bt 9 []), [(40, .box [Ti y2.1.1, Ti y2.1.2.1, Ti y2.1.2.2]), (72, .box [.sl (b8.2.1.map c5), Ti b8.2.2.1, .v (.int .u64 b8.2.2.2)]), (16, .box [Ti 0, Ti 0, Ti 0])]⟩), (2, ⟨.bot :: .bot :: .pt 16 0 :: .bot :: .pt 72 0 :: .pt 40 0 :: I y4.1 :: bt 16 (Bo b8.1 :: .bot :: .pt 72 0 :: bt 8 []), [(40, .box [Ti y2.1.1, Ti y2.1.2.1, Ti y2.1.2.2]), (72, .box [.sl (b8.2.1.map c5), Ti b8.2.2.1, .v (.int .u64 b8.2.2.2)]), (16, .box [Ti 0, Ti 0, Ti 0])]⟩), (3, ⟨.bot :: .bot :: .pt 16 0 :: .bot :: .pt 72 0 :: .pt 40 0 :: I y4.1 :: bt 16 (Bo b8.1 :: .ag [Ti y2.1.1, Ti y2.1.2.1, Ti y2.1.2.2] :: .pt 72 0 :: bt 8 []), [(40, .box [Ti y2.1.1, Ti y2.1.2.1, Ti y2.1.2.2]), (72, .box [.sl (b8.2.1.map c5), Ti b8.2.2.1, .v (.int .u64 b8.2.2.2)]), (16, .box [Ti 0, Ti 0, Ti 0])]⟩), (6, ⟨.bot :: .bot :: .pt 16 0 :: .bot :: .pt 72 0 :: .pt 40 0 :: I y4.1 :: bt 16 (Bo b8.1 :: .bot :: .pt 72 0 :: I y10.1 :: bt 7 []), [(40, .box [Ti y2.1.1, Ti y2.1.2.1, Ti y2.1.2.2]), (72, .box [.sl (y10.2.1.map c5), Ti y10.2.2.1, .v (.int .u64 y10.2.2.2)]), (16, .box [Ti 0, Ti 0, Ti 0])]⟩), (7, ⟨.bot :: .bot :: .pt 16 0 :: .bot :: .pt 72 0 :: .pt 40 0 :: I y4.1 :: bt 16 (Bo b8.1 :: .ag [Ti y2.1.1, Ti y2.1.2.1, Ti y2.1.2.2] :: .pt 72 0 :: I y10.1 :: bt 7 []), [(40, .box [Ti y2.1.1, Ti y2.1.2.1, Ti y2.1.2.2]), (72, .box [.sl (y10.2.1.map c5), Ti y10.2.2.1, .v (.int .u64 y10.2.2.2)]), (16, .box [Ti 0, Ti 0, Ti 0])]⟩), (14, ⟨.bot :: .bot :: .pt 16 0 :: .bot :: .pt 72 0 :: .pt 40 0 :: I y4.1 :: bt 16 (Bo b8.1 :: .bot :: .pt 72 0 :: I y10.1 :: I (w64 (y10.1 - 3)) :: bt 6 []), [(40, .box [Ti y2.1.1, Ti y2.1.2.1, Ti y2.1.2.2]), (72, .box [.sl (y10.2.1.map c5), Ti y10.2.2.1, .v (.int .u64 y10.2.2.2)]), (16, .box [Ti 0, Ti 0, Ti 0])]⟩), (15, ⟨.bot :: .bot :: .pt 16 0 :: .bot :: .pt 72 0 :: .pt 40 0 :: I y4.1 :: bt 16 (Bo b8.1 :: .ag [Ti y2.1.1, Ti y2.1.2.1, Ti y2.1.2.2] :: .pt 72 0 :: I y10.1 :: I (w64 (y10.1 - 3)) :: bt 6 []), [(40, .box [Ti y2.1.1, Ti y2.1.2.1, Ti y2.1.2.2]), (72, .box [.sl (y10.2.1.map c5), Ti y10.2.2.1, .v (.int .u64 y10.2.2.2)]), (16, .box [Ti 0, Ti 0, Ti 0])]⟩), (16, ⟨.bot :: .bot :: .pt 16 0 :: .bot :: .pt 72 0 :: .pt 40 0 :: I y4.1 :: bt 16 (Bo b8.1 :: bt 4 (.pt 72 0 :: bt 5 [])), [(40, .box [Ti y2.1.1, Ti y2.1.2.1, Ti y2.1.2.2]), (72, .box [.sl (b8.2.1.map c5), Ti b8.2.2.1, .v (.int .u64 b8.2.2.2)]), (16, .box [Ti 0, Ti 0, Ti 0])]⟩), (17, ⟨.bot :: .bot :: .pt 16 0 :: .bot :: .pt 72 0 :: .pt 40 0 :: I y4.1 :: bt 16 (Bo b8.1 :: .ag [Ti y2.1.1, Ti y2.1.2.1, Ti y2.1.2.2] :: bt 3 (.pt 72 0 :: bt 5 [])), [(40, .box [Ti y2.1.1, Ti y2.1.2.1, Ti y2.1.2.2]), (72, .box [.sl (b8.2.1.map c5), Ti b8.2.2.1, .v (.int .u64 b8.2.2.2)]), (16, .box [Ti 0, Ti 0, Ti 0])]⟩), (18, ⟨.bot :: .bot :: .pt 16 0 :: .bot :: .pt 72 0 :: .pt 40 0 :: I y4.1 :: bt 16 (Bo b8.1 :: .bot :: .pt 72 0 :: .bot :: .bot :: .pt 72 0 :: bt 5 []), [(40, .box [Ti y2.1.1, Ti y2.1.2.1, Ti y2.1.2.2]), (72, .box [.sl (b8.2.1.map c5), Ti b8.2.2.1, .v (.int .u64 b8.2.2.2)]), (16, .box [Ti 0, Ti 0, Ti 0])]⟩), (19, ⟨.bot :: .bot :: .pt 16 0 :: .bot :: .pt 72 0 :: .pt 40 0 :: I y4.1 :: bt 16 (Bo b8.1 :: .ag [Ti y2.1.1, Ti y2.1.2.1, Ti y2.1.2.2] :: .pt 72 0 :: .bot :: .bot :: .pt 72 0 :: bt 5 []), [(40, .box [Ti y2.1.1, Ti y2.1.2.1, Ti y2.1.2.2]), (72, .box [.sl (b8.2.1.map c5), Ti b8.2.2.1, .v (.int .u64 b8.2.2.2)]), (16, .box [Ti 0, Ti 0, Ti 0])]⟩), (22, ⟨.bot :: .bot :: .pt 16 0 :: .bot :: .pt 72 0 :: .pt 40 0 :: I y4.1 :: bt 16 (Bo b8.1 :: .bot :: .pt 72 0 :: I y10.1 :: .bot :: .pt 72 0 :: bt 5 []), [(40, .box [Ti y2.1.1, Ti y2.1.2.1, Ti y2.1.2.2]), (72, .box [.sl (y10.2.1.map c5), Ti y10.2.2.1, .v (.int .u64 y10.2.2.2)]), (16, .box [Ti 0, Ti 0, Ti 0])]⟩), (23, ⟨.bot :: .bot :: .pt 16 0 :: .bot :: .pt 72 0 :: .pt 40 0 :: I y4.1 :: bt 16 (Bo b8.1 :: .ag [Ti y2.1.1, Ti y2.1.2.1, Ti y2.1.2.2] :: .pt 72 0 :: I y10.1 :: .bot :: .pt 72 0 :: bt 5 []), [(40, .box [Ti y2.1.1, Ti y2.1.2.1, Ti y2.1.2.2]), (72, .box [.sl (y10.2.1.map c5), Ti y10.2.2.1, .v (.int .u64 y10.2.2.2)]), (16, .box [Ti 0, Ti 0, Ti 0])]⟩), (30, ⟨.bot :: .bot :: .pt 16 0 :: .bot :: .pt 72 0 :: .pt 40 0 :: I y4.1 :: bt 16 (Bo b8.1 :: .bot :: .pt 72 0 :: I y10.1 :: I (w64 (y10.1 - 3)) :: .pt 72 0 :: bt 5 []), [(40, .box [Ti y2.1.1, Ti y2.1.2.1, Ti y2.1.2.2]), (72, .box [.sl (y10.2.1.map c5), Ti y10.2.2.1, .v (.int .u64 y10.2.2.2)]), (16, .box [Ti 0, Ti 0, Ti 0])]⟩), (31, ⟨.bot :: .bot :: .pt 16 0 :: .bot :: .pt 72 0 :: .pt 40 0 :: I y4.1 :: bt 16 (Bo b8.1 :: .ag [Ti y2.1.1, Ti y2.1.2.1, Ti y2.1.2.2] :: .pt 72 0 :: I y10.1 :: I (w64 (y10.1 - 3)) :: .pt 72 0 :: bt 5 []), [(40, .box [Ti y2.1.1, Ti y2.1.2.1, Ti y2.1.2.2]), (72, .box [.sl (y10.2.1.map c5), Ti y10.2.2.1, .v (.int .u64 y10.2.2.2)]), (16, .box [Ti 0, Ti 0, Ti 0])]⟩), (54, ⟨.bot :: .bot :: .pt 16 0 :: .bot :: .pt 72 0 :: .pt 40 0 :: I y4.1 :: bt 16 (Bo b8.1 :: .bot :: .pt 72 0 :: I y10.1 :: .bot :: .pt 72 0 :: I y11.1 :: bt 4 []), [(40, .box [Ti y2.1.1, Ti y2.1.2.1, Ti y2.1.2.2]), (72, .box [.sl (y11.2.1.map c5), Ti y11.2.2.1, .v (.int .u64 y11.2.2.2)]), (16, .box [Ti 0, Ti 0, Ti 0])]⟩), (55, ⟨.bot :: .bot :: .pt 16 0 :: .bot :: .pt 72 0 :: .pt 40 0 :: I y4.1 :: bt 16 (Bo b8.1 :: .ag [Ti y2.1.1, Ti y2.1.2.1, Ti y2.1.2.2] :: .pt 72 0 :: I y10.1 :: .bot :: .pt 72 0 :: I y11.1 :: bt 4 []), [(40, .box [Ti y2.1.1, Ti y2.1.2.1, Ti y2.1.2.2]), (72, .box [.sl (y11.2.1.map c5), Ti y11.2.2.1, .v (.int .u64 y11.2.2.2)]), (16, .box [Ti 0, Ti 0, Ti 0])]⟩), (62, ⟨.bot :: .bot :: .pt 16 0 :: .bot :: .pt 72 0 :: .pt 40 0 :: I y4.1 :: bt 16 (Bo b8.1 :: .bot :: .pt 72 0 :: I y10.1 :: I (w64 (y10.1 - 3)) :: .pt 72 0 :: I y11.1 :: bt 4 []), [(40, .box [Ti y2.1.1, Ti y2.1.2.1, Ti y2.1.2.2]), (72, .box [.sl (y11.2.1.map c5), Ti y11.2.2.1, .v (.int .u64 y11.2.2.2)]), (16, .box [Ti 0, Ti 0, Ti 0])]⟩), (63, ⟨.bot :: .bot :: .pt 16 0 :: .bot :: .pt 72 0 :: .pt 40 0 :: I y4.1 :: bt 16 (Bo b8.1 :: .ag [Ti y2.1.1, Ti y2.1.2.1, Ti y2.1.2.2] :: .pt 72 0 :: I y10.1 :: I (w64 (y10.1 - 3)) :: .pt 72 0 :: I y11.1 :: bt 4 []), [(40, .box [Ti y2.1.1, Ti y2.1.2.1, Ti y2.1.2.2]), (72, .box [.sl (y11.2.1.map c5), Ti y11.2.2.1, .v (.int .u64 y11.2.2.2)]), (16, .box [Ti 0, Ti 0, Ti 0])]⟩), (118, ⟨.bot :: .bot :: .pt 16 0 :: .bot :: .pt 72 0 :: .pt 40 0 :: I y4.1 :: bt 16 (Bo b8.1 :: .bot :: .pt 72 0 :: I y10.1 :: .bot :: .pt 72 0 :: I y11.1 :: I (w64 (y11.1 - 3)) :: bt 3 []), [(40, .box [Ti y2.1.1, Ti y2.1.2.1, Ti y2.1.2.2]), (72, .box [.sl (y11.2.1.map c5), Ti y11.2.2.1, .v (.int .u64 y11.2.2.2)]), (16, .box [Ti 0, Ti 0, Ti 0])]⟩), (119, ⟨.bot :: .bot :: .pt 16 0 :: .bot :: .pt 72 0 :: .pt 40 0 :: I y4.1 :: bt 16 (Bo b8.1 :: .ag [Ti y2.1.1, Ti y2.1.2.1, Ti y2.1.2.2] :: .pt 72 0 :: I y10.1 :: .bot :: .pt 72 0 :: I y11.1 :: I (w64 (y11.1 - 3)) :: bt 3 []), [(40, .box [Ti y2.1.1, Ti y2.1.2.1, Ti y2.1.2.2]), (72, .box [.sl (y11.2.1.map c5), Ti y11.2.2.1, .v (.int .u64 y11.2.2.2)]), (16, .box [Ti 0, Ti 0, Ti 0])]⟩), (126, ⟨.bot :: .bot :: .pt 16 0 :: .bot :: .pt 72 0 :: .pt 40 0 :: I y4.1 :: bt 16 (Bo b8.1 :: .bot :: .pt 72 0 :: I y10.1 :: I (w64 (y10.1 - 3)) :: .pt 72 0 :: I y11.1 :: I (w64 (y11.1 - 3)) :: bt 3 []), [(40, .box [Ti y2.1.1, Ti y2.1.2.1, Ti y2.1.2.2]), (72, .box [.sl (y11.2.1.map c5), Ti y11.2.2.1, .v (.int .u64 y11.2.2.2)]), (16, .box [Ti 0, Ti 0, Ti 0])]⟩), (127, ⟨.bot :: .bot :: .pt 16 0 :: .bot :: .pt 72 0 :: .pt 40 0 :: I y4.1 :: bt 16 (Bo b8.1 :: .ag [Ti y2.1.1, Ti y2.1.2.1, Ti y2.1.2.2] :: .pt 72 0 :: I y10.1 :: I (w64 (y10.1 - 3)) :: .pt 72 0 :: I y11.1 :: I (w64 (y11.1 - 3)) :: bt 3 []), [(40, .box [Ti y2.1.1, Ti y2.1.2.1, Ti y2.1.2.2]), (72, .box [.sl (y11.2.1.map c5), Ti y11.2.2.1, .v (.int .u64 y11.2.2.2)]), (16, .box [Ti 0, Ti 0, Ti 0])]⟩), (255, ⟨.bot :: .bot :: .pt 16 0 :: .bot :: .pt 72 0 :: .pt 40 0 :: I y4.1 :: bt 16 (Bo b8.1 :: .ag [Ti y2.1.1, Ti y2.1.2.1, Ti y2.1.2.2] :: .pt 72 0 :: I y10.1 :: I (w64 (y10.1 - 3)) :: .pt 72 0 :: I y11.1 :: I (w64 (y11.1 - 3)) :: I y12 :: .bot :: .bot :: []), [(40, .box [Ti y2.1.1, Ti y2.1.2.1, Ti y2.1.2.2]), (72, .box [.sl (y11.2.1.map c5), Ti y11.2.2.1, .v (.int .u64 y11.2.2.2)]), (16, .box [Ti 0, Ti 0, Ti 0])]⟩), (511, ⟨.bot :: .bot :: .pt 16 0 :: .bot :: .pt 72 0 :: .pt 40 0 :: I y12 :: bt 16 (Bo b8.1 :: .ag [Ti y2.1.1, Ti y2.1.2.1, Ti y2.1.2.2] :: .pt 72 0 :: I y10.1 :: I (w64 (y10.1 - 3)) :: .pt 72 0 :: I y11.1 :: I (w64 (y11.1 - 3)) :: I y12 :: .bot :: .bot :: []), [(40, .box [Ti y2.1.1, Ti y2.1.2.1, Ti y2.1.2.2]), (72, .box [.sl (y11.2.1.map c5), Ti y11.2.2.1, .v (.int .u64 y11.2.2.2)]), (16, .box [Ti 0, Ti 0, Ti 0])]⟩)] (s1 := ⟨.bot :: .bot :: .pt 16 0 :: .bot :: .bot :: .pt 40 0 :: I y12 :: bt 27 [], [(40, .box [Ti y2.1.1, Ti y2.1.2.1, Ti y2.1.2.2]), (16, .box [Ti 0, Ti 0, Ti 0])]⟩) (by kernel_rfl) (by kernel_rfl) (by kernel_rfl) ?_ ?_
   ·refine tab_row [4, 1, 0] (by kernel_rfl) (by kernel_rfl) ?_ ?_
    ·refine step_cons (s2 := ⟨.bot :: .bot :: .pt 16 0 :: .bot :: .pt 72 0 :: .pt 40 0 :: I y4.1 :: bt 16 (Bo b8.1 :: bt 4 (.pt 72 0 :: bt 5 [])), [(40, .box [Ti y2.1.1, Ti y2.1.2.1, Ti y2.1.2.2]), (72, .box [.sl (b8.2.1.map c5), Ti b8.2.2.1, .v (.int .u64 b8.2.2.2)]), (16, .box [Ti 0, Ti 0, Ti 0])]⟩) rfl rfl (X_of_Y0 rfl (E_move (.pt 72 0) rfl (by kernel_rfl))) (by kernel_rfl) rfl (hE_cons (by kernel_rfl) (hE_cons (by kernel_rfl) (hE_cons (by kernel_rfl) hE_nil))) ?_
     refine step_cons (s2 := ⟨.bot :: .bot :: .pt 16 0 :: .bot :: .pt 72 0 :: .pt 40 0 :: I y4.1 :: bt 16 (Bo b8.1 :: .bot :: .pt 72 0 :: bt 8 []), [(40, .box [Ti y2.1.1, Ti y2.1.2.1, Ti y2.1.2.2]), (72, .box [.sl (b8.2.1.map c5), Ti b8.2.2.1, .v (.int .u64 b8.2.2.2)]), (16, .box [Ti 0, Ti 0, Ti 0])]⟩) rfl rfl (X_of_Y0 rfl (E_move (.pt 72 0) rfl (by kernel_rfl))) (by kernel_rfl) rfl (hE_cons (by kernel_rfl) (hE_cons (by kernel_rfl) (hE_cons (by kernel_rfl) hE_nil))) ?_
     refine step_cons (s2 := ⟨.bot :: .bot :: .pt 16 0 :: .bot :: .pt 72 0 :: .pt 40 0 :: I y4.1 :: bt 16 (Bo b8.1 :: .ag [Ti y2.1.1, Ti y2.1.2.1, Ti y2.1.2.2] :: bt 9 []), [(40, .box [Ti y2.1.1, Ti y2.1.2.1, Ti y2.1.2.2]), (72, .box [.sl (b8.2.1.map c5), Ti b8.2.2.1, .v (.int .u64 b8.2.2.2)]), (16, .box [Ti 0, Ti 0, Ti 0])]⟩) rfl rfl (X_of_Y0 rfl (E_loadn (cs := [Ti y2.1.1, Ti y2.1.2.1, Ti y2.1.2.2]) [Ti y2.1.1, Ti y2.1.2.1, Ti y2.1.2.2] wd45 rfl (by kernel_rfl) (Nat.le_of_ble_eq_true rfl) (by kernel_rfl))) (by kernel_rfl) rfl (hE_cons (by kernel_rfl) (hE_cons (by kernel_rfl) (hE_cons (by kernel_rfl) hE_nil))) ?_
     exact step_nil
    refine tab_row [4, 1] (by kernel_rfl) (by kernel_rfl) ?_ ?_
    ·refine step_cons (s2 := ⟨.bot :: .bot :: .pt 16 0 :: .bot :: .pt 72 0 :: .pt 40 0 :: I y4.1 :: bt 16 (Bo b8.1 :: .ag [Ti y2.1.1, Ti y2.1.2.1, Ti y2.1.2.2] :: bt 3 (.pt 72 0 :: bt 5 [])), [(40, .box [Ti y2.1.1, Ti y2.1.2.1, Ti y2.1.2.2]), (72, .box [.sl (b8.2.1.map c5), Ti b8.2.2.1, .v (.int .u64 b8.2.2.2)]), (16, .box [Ti 0, Ti 0, Ti 0])]⟩) rfl rfl (X_of_Y0 rfl (E_move (.pt 72 0) rfl (by kernel_rfl))) (by kernel_rfl) rfl (hE_cons (by kernel_rfl) (hE_cons (by kernel_rfl) (hE_cons (by kernel_rfl) hE_nil))) ?_
     refine step_cons (s2 := ⟨.bot :: .bot :: .pt 16 0 :: .bot :: .pt 72 0 :: .pt 40 0 :: I y4.1 :: bt 16 (Bo b8.1 :: .ag [Ti y2.1.1, Ti y2.1.2.1, Ti y2.1.2.2] :: .pt 72 0 :: bt 8 []), [(40, .box [Ti y2.1.1, Ti y2.1.2.1, Ti y2.1.2.2]), (72, .box [.sl (b8.2.1.map c5), Ti b8.2.2.1, .v (.int .u64 b8.2.2.2)]), (16, .box [Ti 0, Ti 0, Ti 0])]⟩) rfl rfl (X_of_Y0 rfl (E_move (.pt 72 0) rfl (by kernel_rfl))) (by kernel_rfl) rfl (hE_cons (by kernel_rfl) (hE_cons (by kernel_rfl) (hE_cons (by kernel_rfl) hE_nil))) ?_
     exact step_nil
    refine tab_row [4, 2, 0] (by kernel_rfl) (by kernel_rfl) ?_ ?_
    ·refine step_cons (s2 := ⟨.bot :: .bot :: .pt 16 0 :: .bot :: .pt 72 0 :: .pt 40 0 :: I y4.1 :: bt 16 (Bo b8.1 :: .bot :: .pt 72 0 :: .bot :: .bot :: .pt 72 0 :: bt 5 []), [(40, .box [Ti y2.1.1, Ti y2.1.2.1, Ti y2.1.2.2]), (72, .box [.sl (b8.2.1.map c5), Ti b8.2.2.1, .v (.int .u64 b8.2.2.2)]), (16, .box [Ti 0, Ti 0, Ti 0])]⟩) rfl rfl (X_of_Y0 rfl (E_move (.pt 72 0) rfl (by kernel_rfl))) (by kernel_rfl) rfl (hE_cons (by kernel_rfl) (hE_cons (by kernel_rfl) (hE_cons (by kernel_rfl) hE_nil))) ?_
     refine step_cons (s2 := ⟨.bot :: .bot :: .pt 16 0 :: .bot :: .pt 72 0 :: .pt 40 0 :: I y4.1 :: bt 16 (Bo b8.1 :: .bot :: .pt 72 0 :: I y10.1 :: bt 7 []), [(40, .box [Ti y2.1.1, Ti y2.1.2.1, Ti y2.1.2.2]), (72, .box [.sl (y10.2.1.map c5), Ti y10.2.2.1, .v (.int .u64 y10.2.2.2)]), (16, .box [Ti 0, Ti 0, Ti 0])]⟩) rfl rfl (X_callR (E' := [(40, .box [Ti y2.1.1, Ti y2.1.2.1, Ti y2.1.2.2]), (72, .box [.sl (y10.2.1.map c5), Ti y10.2.2.1, .v (.int .u64 y10.2.2.2)]), (16, .box [Ti 0, Ti 0, Ti 0])]) [(80000, 72)] 26 (s_spec_l1Cur_pick hy10) cf_spec_l1Cur_pick rfl rfl (by kernel_rfl) rfl (mE_cons (by kernel_rfl) mE_nil) rfl (by kernel_rfl) rfl rfl (by kernel_rfl)) (by kernel_rfl) rfl (hE_cons (by kernel_rfl) (hE_cons (by kernel_rfl) (hE_cons (by kernel_rfl) hE_nil))) ?_
     refine step_cons (s2 := ⟨.bot :: .bot :: .pt 16 0 :: .bot :: .pt 72 0 :: .pt 40 0 :: I y4.1 :: bt 16 (Bo b8.1 :: .ag [Ti y2.1.1, Ti y2.1.2.1, Ti y2.1.2.2] :: .pt 72 0 :: bt 8 []), [(40, .box [Ti y2.1.1, Ti y2.1.2.1, Ti y2.1.2.2]), (72, .box [.sl (b8.2.1.map c5), Ti b8.2.2.1, .v (.int .u64 b8.2.2.2)]), (16, .box [Ti 0, Ti 0, Ti 0])]⟩) rfl rfl (X_of_Y0 rfl (E_loadn (cs := [Ti y2.1.1, Ti y2.1.2.1, Ti y2.1.2.2]) [Ti y2.1.1, Ti y2.1.2.1, Ti y2.1.2.2] wd45 rfl (by kernel_rfl) (Nat.le_of_ble_eq_true rfl) (by kernel_rfl))) (by kernel_rfl) rfl (hE_cons (by kernel_rfl) (hE_cons (by kernel_rfl) (hE_cons (by kernel_rfl) hE_nil))) ?_
     exact step_nil
    refine tab_row [4, 2] (by kernel_rfl) (by kernel_rfl) ?_ ?_
    ·refine step_cons (s2 := ⟨.bot :: .bot :: .pt 16 0 :: .bot :: .pt 72 0 :: .pt 40 0 :: I y4.1 :: bt 16 (Bo b8.1 :: .ag [Ti y2.1.1, Ti y2.1.2.1, Ti y2.1.2.2] :: .pt 72 0 :: .bot :: .bot :: .pt 72 0 :: bt 5 []), [(40, .box [Ti y2.1.1, Ti y2.1.2.1, Ti y2.1.2.2]), (72, .box [.sl (b8.2.1.map c5), Ti b8.2.2.1, .v (.int .u64 b8.2.2.2)]), (16, .box [Ti 0, Ti 0, Ti 0])]⟩) rfl rfl (X_of_Y0 rfl (E_move (.pt 72 0) rfl (by kernel_rfl))) (by kernel_rfl) rfl (hE_cons (by kernel_rfl) (hE_cons (by kernel_rfl) (hE_cons (by kernel_rfl) hE_nil))) ?_
     refine step_cons (s2 := ⟨.bot :: .bot :: .pt 16 0 :: .bot :: .pt 72 0 :: .pt 40 0 :: I y4.1 :: bt 16 (Bo b8.1 :: .ag [Ti y2.1.1, Ti y2.1.2.1, Ti y2.1.2.2] :: .pt 72 0 :: I y10.1 :: bt 7 []), [(40, .box [Ti y2.1.1, Ti y2.1.2.1, Ti y2.1.2.2]), (72, .box [.sl (y10.2.1.map c5), Ti y10.2.2.1, .v (.int .u64 y10.2.2.2)]), (16, .box [Ti 0, Ti 0, Ti 0])]⟩) rfl rfl (X_callR (E' := [(40, .box [Ti y2.1.1, Ti y2.1.2.1, Ti y2.1.2.2]), (72, .box [.sl (y10.2.1.map c5), Ti y10.2.2.1, .v (.int .u64 y10.2.2.2)]), (16, .box [Ti 0, Ti 0, Ti 0])]) [(80000, 72)] 26 (s_spec_l1Cur_pick hy10) cf_spec_l1Cur_pick rfl rfl (by kernel_rfl) rfl (mE_cons (by kernel_rfl) mE_nil) rfl (by kernel_rfl) rfl rfl (by kernel_rfl)) (by kernel_rfl) rfl (hE_cons (by kernel_rfl) (hE_cons (by kernel_rfl) (hE_cons (by kernel_rfl) hE_nil))) ?_
     exact step_nil
    refine tab_row [4, 3, 0] (by kernel_rfl) (by kernel_rfl) ?_ ?_
    ·refine step_cons (s2 := ⟨.bot :: .bot :: .pt 16 0 :: .bot :: .pt 72 0 :: .pt 40 0 :: I y4.1 :: bt 16 (Bo b8.1 :: .bot :: .pt 72 0 :: I y10.1 :: .bot :: .pt 72 0 :: bt 5 []), [(40, .box [Ti y2.1.1, Ti y2.1.2.1, Ti y2.1.2.2]), (72, .box [.sl (y10.2.1.map c5), Ti y10.2.2.1, .v (.int .u64 y10.2.2.2)]), (16, .box [Ti 0, Ti 0, Ti 0])]⟩) rfl rfl (X_of_Y0 rfl (E_move (.pt 72 0) rfl (by kernel_rfl))) (by kernel_rfl) rfl (hE_cons (by kernel_rfl) (hE_cons (by kernel_rfl) (hE_cons (by kernel_rfl) hE_nil))) ?_
     refine step_cons (s2 := ⟨.bot :: .bot :: .pt 16 0 :: .bot :: .pt 72 0 :: .pt 40 0 :: I y4.1 :: bt 16 (Bo b8.1 :: .bot :: .pt 72 0 :: I y10.1 :: I (w64 (y10.1 - 3)) :: bt 6 []), [(40, .box [Ti y2.1.1, Ti y2.1.2.1, Ti y2.1.2.2]), (72, .box [.sl (y10.2.1.map c5), Ti y10.2.2.1, .v (.int .u64 y10.2.2.2)]), (16, .box [Ti 0, Ti 0, Ti 0])]⟩) rfl rfl (X_of_Y0 rfl (Y0_sub64 (a := y10.1) (b := 3) rfl (by kernel_rfl) (by kernel_rfl))) (by kernel_rfl) rfl (hE_cons (by kernel_rfl) (hE_cons (by kernel_rfl) (hE_cons (by kernel_rfl) hE_nil))) ?_
     refine step_cons (s2 := ⟨.bot :: .bot :: .pt 16 0 :: .bot :: .pt 72 0 :: .pt 40 0 :: I y4.1 :: bt 16 (Bo b8.1 :: .ag [Ti y2.1.1, Ti y2.1.2.1, Ti y2.1.2.2] :: .pt 72 0 :: I y10.1 :: bt 7 []), [(40, .box [Ti y2.1.1, Ti y2.1.2.1, Ti y2.1.2.2]), (72, .box [.sl (y10.2.1.map c5), Ti y10.2.2.1, .v (.int .u64 y10.2.2.2)]), (16, .box [Ti 0, Ti 0, Ti 0])]⟩) rfl rfl (X_of_Y0 rfl (E_loadn (cs := [Ti y2.1.1, Ti y2.1.2.1, Ti y2.1.2.2]) [Ti y2.1.1, Ti y2.1.2.1, Ti y2.1.2.2] wd45 rfl (by kernel_rfl) (Nat.le_of_ble_eq_true rfl) (by kernel_rfl))) (by kernel_rfl) rfl (hE_cons (by kernel_rfl) (hE_cons (by kernel_rfl) (hE_cons (by kernel_rfl) hE_nil))) ?_
     exact step_nil
    refine tab_row [4, 3] (by kernel_rfl) (by kernel_rfl) ?_ ?_
    ·refine step_cons (s2 := ⟨.bot :: .bot :: .pt 16 0 :: .bot :: .pt 72 0 :: .pt 40 0 :: I y4.1 :: bt 16 (Bo b8.1 :: .ag [Ti y2.1.1, Ti y2.1.2.1, Ti y2.1.2.2] :: .pt 72 0 :: I y10.1 :: .bot :: .pt 72 0 :: bt 5 []), [(40, .box [Ti y2.1.1, Ti y2.1.2.1, Ti y2.1.2.2]), (72, .box [.sl (y10.2.1.map c5), Ti y10.2.2.1, .v (.int .u64 y10.2.2.2)]), (16, .box [Ti 0, Ti 0, Ti 0])]⟩) rfl rfl (X_of_Y0 rfl (E_move (.pt 72 0) rfl (by kernel_rfl))) (by kernel_rfl) rfl (hE_cons (by kernel_rfl) (hE_cons (by kernel_rfl) (hE_cons (by kernel_rfl) hE_nil))) ?_
     refine step_cons (s2 := ⟨.bot :: .bot :: .pt 16 0 :: .bot :: .pt 72 0 :: .pt 40 0 :: I y4.1 :: bt 16 (Bo b8.1 :: .ag [Ti y2.1.1, Ti y2.1.2.1, Ti y2.1.2.2] :: .pt 72 0 :: I y10.1 :: I (w64 (y10.1 - 3)) :: bt 6 []), [(40, .box [Ti y2.1.1, Ti y2.1.2.1, Ti y2.1.2.2]), (72, .box [.sl (y10.2.1.map c5), Ti y10.2.2.1, .v (.int .u64 y10.2.2.2)]), (16, .box [Ti 0, Ti 0, Ti 0])]⟩) rfl rfl (X_of_Y0 rfl (Y0_sub64 (a := y10.1) (b := 3) rfl (by kernel_rfl) (by kernel_rfl))) (by kernel_rfl) rfl (hE_cons (by kernel_rfl) (hE_cons (by kernel_rfl) (hE_cons (by kernel_rfl) hE_nil))) ?_
     exact step_nil
    refine tab_row [4, 0] (by kernel_rfl) (by kernel_rfl) ?_ ?_
    ·refine step_cons (s2 := ⟨.bot :: .bot :: .pt 16 0 :: .bot :: .pt 72 0 :: .pt 40 0 :: I y4.1 :: bt 16 (Bo b8.1 :: .bot :: .pt 72 0 :: I y10.1 :: I (w64 (y10.1 - 3)) :: .pt 72 0 :: bt 5 []), [(40, .box [Ti y2.1.1, Ti y2.1.2.1, Ti y2.1.2.2]), (72, .box [.sl (y10.2.1.map c5), Ti y10.2.2.1, .v (.int .u64 y10.2.2.2)]), (16, .box [Ti 0, Ti 0, Ti 0])]⟩) rfl rfl (X_of_Y0 rfl (E_move (.pt 72 0) rfl (by kernel_rfl))) (by kernel_rfl) rfl (hE_cons (by kernel_rfl) (hE_cons (by kernel_rfl) (hE_cons (by kernel_rfl) hE_nil))) ?_
     refine step_cons (s2 := ⟨.bot :: .bot :: .pt 16 0 :: .bot :: .pt 72 0 :: .pt 40 0 :: I y4.1 :: bt 16 (Bo b8.1 :: .ag [Ti y2.1.1, Ti y2.1.2.1, Ti y2.1.2.2] :: .pt 72 0 :: I y10.1 :: I (w64 (y10.1 - 3)) :: bt 6 []), [(40, .box [Ti y2.1.1, Ti y2.1.2.1, Ti y2.1.2.2]), (72, .box [.sl (y10.2.1.map c5), Ti y10.2.2.1, .v (.int .u64 y10.2.2.2)]), (16, .box [Ti 0, Ti 0, Ti 0])]⟩) rfl rfl (X_of_Y0 rfl (E_loadn (cs := [Ti y2.1.1, Ti y2.1.2.1, Ti y2.1.2.2]) [Ti y2.1.1, Ti y2.1.2.1, Ti y2.1.2.2] wd45 rfl (by kernel_rfl) (Nat.le_of_ble_eq_true rfl) (by kernel_rfl))) (by kernel_rfl) rfl (hE_cons (by kernel_rfl) (hE_cons (by kernel_rfl) (hE_cons (by kernel_rfl) hE_nil))) ?_
     exact step_nil
    refine tab_row [4] (by kernel_rfl) (by kernel_rfl) ?_ ?_
    ·refine step_cons (s2 := ⟨.bot :: .bot :: .pt 16 0 :: .bot :: .pt 72 0 :: .pt 40 0 :: I y4.1 :: bt 16 (Bo b8.1 :: .ag [Ti y2.1.1, Ti y2.1.2.1, Ti y2.1.2.2] :: .pt 72 0 :: I y10.1 :: I (w64 (y10.1 - 3)) :: .pt 72 0 :: bt 5 []), [(40, .box [Ti y2.1.1, Ti y2.1.2.1, Ti y2.1.2.2]), (72, .box [.sl (y10.2.1.map c5), Ti y10.2.2.1, .v (.int .u64 y10.2.2.2)]), (16, .box [Ti 0, Ti 0, Ti 0])]⟩) rfl rfl (X_of_Y0 rfl (E_move (.pt 72 0) rfl (by kernel_rfl))) (by kernel_rfl) rfl (hE_cons (by kernel_rfl) (hE_cons (by kernel_rfl) (hE_cons (by kernel_rfl) hE_nil))) ?_
     exact step_nil
    refine tab_row [1, 0] (by kernel_rfl) (by kernel_rfl) ?_ ?_
    ·refine step_cons (s2 := ⟨.bot :: .bot :: .pt 16 0 :: .bot :: .pt 72 0 :: .pt 40 0 :: I y4.1 :: bt 16 (Bo b8.1 :: .bot :: .pt 72 0 :: .bot :: .bot :: .pt 72 0 :: bt 5 []), [(40, .box [Ti y2.1.1, Ti y2.1.2.1, Ti y2.1.2.2]), (72, .box [.sl (b8.2.1.map c5), Ti b8.2.2.1, .v (.int .u64 b8.2.2.2)]), (16, .box [Ti 0, Ti 0, Ti 0])]⟩) rfl rfl (X_of_Y0 rfl (E_move (.pt 72 0) rfl (by kernel_rfl))) (by kernel_rfl) rfl (hE_cons (by kernel_rfl) (hE_cons (by kernel_rfl) (hE_cons (by kernel_rfl) hE_nil))) ?_
     refine step_cons (s2 := ⟨.bot :: .bot :: .pt 16 0 :: .bot :: .pt 72 0 :: .pt 40 0 :: I y4.1 :: bt 16 (Bo b8.1 :: .ag [Ti y2.1.1, Ti y2.1.2.1, Ti y2.1.2.2] :: bt 3 (.pt 72 0 :: bt 5 [])), [(40, .box [Ti y2.1.1, Ti y2.1.2.1, Ti y2.1.2.2]), (72, .box [.sl (b8.2.1.map c5), Ti b8.2.2.1, .v (.int .u64 b8.2.2.2)]), (16, .box [Ti 0, Ti 0, Ti 0])]⟩) rfl rfl (X_of_Y0 rfl (E_loadn (cs := [Ti y2.1.1, Ti y2.1.2.1, Ti y2.1.2.2]) [Ti y2.1.1, Ti y2.1.2.1, Ti y2.1.2.2] wd45 rfl (by kernel_rfl) (Nat.le_of_ble_eq_true rfl) (by kernel_rfl))) (by kernel_rfl) rfl (hE_cons (by kernel_rfl) (hE_cons (by kernel_rfl) (hE_cons (by kernel_rfl) hE_nil))) ?_
     exact step_nil
    refine tab_row [1] (by kernel_rfl) (by kernel_rfl) ?_ ?_
    ·refine step_cons (s2 := ⟨.bot :: .bot :: .pt 16 0 :: .bot :: .pt 72 0 :: .pt 40 0 :: I y4.1 :: bt 16 (Bo b8.1 :: .ag [Ti y2.1.1, Ti y2.1.2.1, Ti y2.1.2.2] :: .pt 72 0 :: .bot :: .bot :: .pt 72 0 :: bt 5 []), [(40, .box [Ti y2.1.1, Ti y2.1.2.1, Ti y2.1.2.2]), (72, .box [.sl (b8.2.1.map c5), Ti b8.2.2.1, .v (.int .u64 b8.2.2.2)]), (16, .box [Ti 0, Ti 0, Ti 0])]⟩) rfl rfl (X_of_Y0 rfl (E_move (.pt 72 0) rfl (by kernel_rfl))) (by kernel_rfl) rfl (hE_cons (by kernel_rfl) (hE_cons (by kernel_rfl) (hE_cons (by kernel_rfl) hE_nil))) ?_
     exact step_nil
    refine tab_row [2, 0] (by kernel_rfl) (by kernel_rfl) ?_ ?_
    ·refine step_cons (s2 := ⟨.bot :: .bot :: .pt 16 0 :: .bot :: .pt 72 0 :: .pt 40 0 :: I y4.1 :: bt 16 (Bo b8.1 :: .bot :: .pt 72 0 :: I y10.1 :: .bot :: .pt 72 0 :: bt 5 []), [(40, .box [Ti y2.1.1, Ti y2.1.2.1, Ti y2.1.2.2]), (72, .box [.sl (y10.2.1.map c5), Ti y10.2.2.1, .v (.int .u64 y10.2.2.2)]), (16, .box [Ti 0, Ti 0, Ti 0])]⟩) rfl rfl (X_callR (E' := [(40, .box [Ti y2.1.1, Ti y2.1.2.1, Ti y2.1.2.2]), (72, .box [.sl (y10.2.1.map c5), Ti y10.2.2.1, .v (.int .u64 y10.2.2.2)]), (16, .box [Ti 0, Ti 0, Ti 0])]) [(80000, 72)] 26 (s_spec_l1Cur_pick hy10) cf_spec_l1Cur_pick rfl rfl (by kernel_rfl) rfl (mE_cons (by kernel_rfl) mE_nil) rfl (by kernel_rfl) rfl rfl (by kernel_rfl)) (by kernel_rfl) rfl (hE_cons (by kernel_rfl) (hE_cons (by kernel_rfl) (hE_cons (by kernel_rfl) hE_nil))) ?_
     refine step_cons (s2 := ⟨.bot :: .bot :: .pt 16 0 :: .bot :: .pt 72 0 :: .pt 40 0 :: I y4.1 :: bt 16 (Bo b8.1 :: .ag [Ti y2.1.1, Ti y2.1.2.1, Ti y2.1.2.2] :: .pt 72 0 :: .bot :: .bot :: .pt 72 0 :: bt 5 []), [(40, .box [Ti y2.1.1, Ti y2.1.2.1, Ti y2.1.2.2]), (72, .box [.sl (b8.2.1.map c5), Ti b8.2.2.1, .v (.int .u64 b8.2.2.2)]), (16, .box [Ti 0, Ti 0, Ti 0])]⟩) rfl rfl (X_of_Y0 rfl (E_loadn (cs := [Ti y2.1.1, Ti y2.1.2.1, Ti y2.1.2.2]) [Ti y2.1.1, Ti y2.1.2.1, Ti y2.1.2.2] wd45 rfl (by kernel_rfl) (Nat.le_of_ble_eq_true rfl) (by kernel_rfl))) (by kernel_rfl) rfl (hE_cons (by kernel_rfl) (hE_cons (by kernel_rfl) (hE_cons (by kernel_rfl) hE_nil))) ?_
     exact step_nil
    refine tab_row [2] (by kernel_rfl) (by kernel_rfl) ?_ ?_
    ·refine step_cons (s2 := ⟨.bot :: .bot :: .pt 16 0 :: .bot :: .pt 72 0 :: .pt 40 0 :: I y4.1 :: bt 16 (Bo b8.1 :: .ag [Ti y2.1.1, Ti y2.1.2.1, Ti y2.1.2.2] :: .pt 72 0 :: I y10.1 :: .bot :: .pt 72 0 :: bt 5 []), [(40, .box [Ti y2.1.1, Ti y2.1.2.1, Ti y2.1.2.2]), (72, .box [.sl (y10.2.1.map c5), Ti y10.2.2.1, .v (.int .u64 y10.2.2.2)]), (16, .box [Ti 0, Ti 0, Ti 0])]⟩) rfl rfl (X_callR (E' := [(40, .box [Ti y2.1.1, Ti y2.1.2.1, Ti y2.1.2.2]), (72, .box [.sl (y10.2.1.map c5), Ti y10.2.2.1, .v (.int .u64 y10.2.2.2)]), (16, .box [Ti 0, Ti 0, Ti 0])]) [(80000, 72)] 26 (s_spec_l1Cur_pick hy10) cf_spec_l1Cur_pick rfl rfl (by kernel_rfl) rfl (mE_cons (by kernel_rfl) mE_nil) rfl (by kernel_rfl) rfl rfl (by kernel_rfl)) (by kernel_rfl) rfl (hE_cons (by kernel_rfl) (hE_cons (by kernel_rfl) (hE_cons (by kernel_rfl) hE_nil))) ?_
     exact step_nil
    refine tab_row [5, 3, 0] (by kernel_rfl) (by kernel_rfl) ?_ ?_
    ·refine step_cons (s2 := ⟨.bot :: .bot :: .pt 16 0 :: .bot :: .pt 72 0 :: .pt 40 0 :: I y4.1 :: bt 16 (Bo b8.1 :: .bot :: .pt 72 0 :: I y10.1 :: .bot :: .pt 72 0 :: I y11.1 :: bt 4 []), [(40, .box [Ti y2.1.1, Ti y2.1.2.1, Ti y2.1.2.2]), (72, .box [.sl (y11.2.1.map c5), Ti y11.2.2.1, .v (.int .u64 y11.2.2.2)]), (16, .box [Ti 0, Ti 0, Ti 0])]⟩) rfl rfl (X_callR (E' := [(40, .box [Ti y2.1.1, Ti y2.1.2.1, Ti y2.1.2.2]), (72, .box [.sl (y11.2.1.map c5), Ti y11.2.2.1, .v (.int .u64 y11.2.2.2)]), (16, .box [Ti 0, Ti 0, Ti 0])]) [(80000, 72)] 29 (s_spec_l1Cur_pick hy11) cf_spec_l1Cur_pick rfl rfl (by kernel_rfl) rfl (mE_cons (by kernel_rfl) mE_nil) rfl (by kernel_rfl) rfl rfl (by kernel_rfl)) (by kernel_rfl) rfl (hE_cons (by kernel_rfl) (hE_cons (by kernel_rfl) (hE_cons (by kernel_rfl) hE_nil))) ?_
     refine step_cons (s2 := ⟨.bot :: .bot :: .pt 16 0 :: .bot :: .pt 72 0 :: .pt 40 0 :: I y4.1 :: bt 16 (Bo b8.1 :: .bot :: .pt 72 0 :: I y10.1 :: I (w64 (y10.1 - 3)) :: .pt 72 0 :: bt 5 []), [(40, .box [Ti y2.1.1, Ti y2.1.2.1, Ti y2.1.2.2]), (72, .box [.sl (y10.2.1.map c5), Ti y10.2.2.1, .v (.int .u64 y10.2.2.2)]), (16, .box [Ti 0, Ti 0, Ti 0])]⟩) rfl rfl (X_of_Y0 rfl (Y0_sub64 (a := y10.1) (b := 3) rfl (by kernel_rfl) (by kernel_rfl))) (by kernel_rfl) rfl (hE_cons (by kernel_rfl) (hE_cons (by kernel_rfl) (hE_cons (by kernel_rfl) hE_nil))) ?_
     refine step_cons (s2 := ⟨.bot :: .bot :: .pt 16 0 :: .bot :: .pt 72 0 :: .pt 40 0 :: I y4.1 :: bt 16 (Bo b8.1 :: .ag [Ti y2.1.1, Ti y2.1.2.1, Ti y2.1.2.2] :: .pt 72 0 :: I y10.1 :: .bot :: .pt 72 0 :: bt 5 []), [(40, .box [Ti y2.1.1, Ti y2.1.2.1, Ti y2.1.2.2]), (72, .box [.sl (y10.2.1.map c5), Ti y10.2.2.1, .v (.int .u64 y10.2.2.2)]), (16, .box [Ti 0, Ti 0, Ti 0])]⟩) rfl rfl (X_of_Y0 rfl (E_loadn (cs := [Ti y2.1.1, Ti y2.1.2.1, Ti y2.1.2.2]) [Ti y2.1.1, Ti y2.1.2.1, Ti y2.1.2.2] wd45 rfl (by kernel_rfl) (Nat.le_of_ble_eq_true rfl) (by kernel_rfl))) (by kernel_rfl) rfl (hE_cons (by kernel_rfl) (hE_cons (by kernel_rfl) (hE_cons (by kernel_rfl) hE_nil))) ?_
     exact step_nil
    refine tab_row [5, 3] (by kernel_rfl) (by kernel_rfl) ?_ ?_
    ·refine step_cons (s2 := ⟨.bot :: .bot :: .pt 16 0 :: .bot :: .pt 72 0 :: .pt 40 0 :: I y4.1 :: bt 16 (Bo b8.1 :: .ag [Ti y2.1.1, Ti y2.1.2.1, Ti y2.1.2.2] :: .pt 72 0 :: I y10.1 :: .bot :: .pt 72 0 :: I y11.1 :: bt 4 []), [(40, .box [Ti y2.1.1, Ti y2.1.2.1, Ti y2.1.2.2]), (72, .box [.sl (y11.2.1.map c5), Ti y11.2.2.1, .v (.int .u64 y11.2.2.2)]), (16, .box [Ti 0, Ti 0, Ti 0])]⟩) rfl rfl (X_callR (E' := [(40, .box [Ti y2.1.1, Ti y2.1.2.1, Ti y2.1.2.2]), (72, .box [.sl (y11.2.1.map c5), Ti y11.2.2.1, .v (.int .u64 y11.2.2.2)]), (16, .box [Ti 0, Ti 0, Ti 0])]) [(80000, 72)] 29 (s_spec_l1Cur_pick hy11) cf_spec_l1Cur_pick rfl rfl (by kernel_rfl) rfl (mE_cons (by kernel_rfl) mE_nil) rfl (by kernel_rfl) rfl rfl (by kernel_rfl)) (by kernel_rfl) rfl (hE_cons (by kernel_rfl) (hE_cons (by kernel_rfl) (hE_cons (by kernel_rfl) hE_nil))) ?_
     refine step_cons (s2 := ⟨.bot :: .bot :: .pt 16 0 :: .bot :: .pt 72 0 :: .pt 40 0 :: I y4.1 :: bt 16 (Bo b8.1 :: .ag [Ti y2.1.1, Ti y2.1.2.1, Ti y2.1.2.2] :: .pt 72 0 :: I y10.1 :: I (w64 (y10.1 - 3)) :: .pt 72 0 :: bt 5 []), [(40, .box [Ti y2.1.1, Ti y2.1.2.1, Ti y2.1.2.2]), (72, .box [.sl (y10.2.1.map c5), Ti y10.2.2.1, .v (.int .u64 y10.2.2.2)]), (16, .box [Ti 0, Ti 0, Ti 0])]⟩) rfl rfl (X_of_Y0 rfl (Y0_sub64 (a := y10.1) (b := 3) rfl (by kernel_rfl) (by kernel_rfl))) (by kernel_rfl) rfl (hE_cons (by kernel_rfl) (hE_cons (by kernel_rfl) (hE_cons (by kernel_rfl) hE_nil))) ?_
     exact step_nil
    refine tab_row [5, 0] (by kernel_rfl) (by kernel_rfl) ?_ ?_
    ·refine step_cons (s2 := ⟨.bot :: .bot :: .pt 16 0 :: .bot :: .pt 72 0 :: .pt 40 0 :: I y4.1 :: bt 16 (Bo b8.1 :: .bot :: .pt 72 0 :: I y10.1 :: I (w64 (y10.1 - 3)) :: .pt 72 0 :: I y11.1 :: bt 4 []), [(40, .box [Ti y2.1.1, Ti y2.1.2.1, Ti y2.1.2.2]), (72, .box [.sl (y11.2.1.map c5), Ti y11.2.2.1, .v (.int .u64 y11.2.2.2)]), (16, .box [Ti 0, Ti 0, Ti 0])]⟩) rfl rfl (X_callR (E' := [(40, .box [Ti y2.1.1, Ti y2.1.2.1, Ti y2.1.2.2]), (72, .box [.sl (y11.2.1.map c5), Ti y11.2.2.1, .v (.int .u64 y11.2.2.2)]), (16, .box [Ti 0, Ti 0, Ti 0])]) [(80000, 72)] 29 (s_spec_l1Cur_pick hy11) cf_spec_l1Cur_pick rfl rfl (by kernel_rfl) rfl (mE_cons (by kernel_rfl) mE_nil) rfl (by kernel_rfl) rfl rfl (by kernel_rfl)) (by kernel_rfl) rfl (hE_cons (by kernel_rfl) (hE_cons (by kernel_rfl) (hE_cons (by kernel_rfl) hE_nil))) ?_
     refine step_cons (s2 := ⟨.bot :: .bot :: .pt 16 0 :: .bot :: .pt 72 0 :: .pt 40 0 :: I y4.1 :: bt 16 (Bo b8.1 :: .ag [Ti y2.1.1, Ti y2.1.2.1, Ti y2.1.2.2] :: .pt 72 0 :: I y10.1 :: I (w64 (y10.1 - 3)) :: .pt 72 0 :: bt 5 []), [(40, .box [Ti y2.1.1, Ti y2.1.2.1, Ti y2.1.2.2]), (72, .box [.sl (y10.2.1.map c5), Ti y10.2.2.1, .v (.int .u64 y10.2.2.2)]), (16, .box [Ti 0, Ti 0, Ti 0])]⟩) rfl rfl (X_of_Y0 rfl (E_loadn (cs := [Ti y2.1.1, Ti y2.1.2.1, Ti y2.1.2.2]) [Ti y2.1.1, Ti y2.1.2.1, Ti y2.1.2.2] wd45 rfl (by kernel_rfl) (Nat.le_of_ble_eq_true rfl) (by kernel_rfl))) (by kernel_rfl) rfl (hE_cons (by kernel_rfl) (hE_cons (by kernel_rfl) (hE_cons (by kernel_rfl) hE_nil))) ?_
     exact step_nil
    refine tab_row [5] (by kernel_rfl) (by kernel_rfl) ?_ ?_
    ·refine step_cons (s2 := ⟨.bot :: .bot :: .pt 16 0 :: .bot :: .pt 72 0 :: .pt 40 0 :: I y4.1 :: bt 16 (Bo b8.1 :: .ag [Ti y2.1.1, Ti y2.1.2.1, Ti y2.1.2.2] :: .pt 72 0 :: I y10.1 :: I (w64 (y10.1 - 3)) :: .pt 72 0 :: I y11.1 :: bt 4 []), [(40, .box [Ti y2.1.1, Ti y2.1.2.1, Ti y2.1.2.2]), (72, .box [.sl (y11.2.1.map c5), Ti y11.2.2.1, .v (.int .u64 y11.2.2.2)]), (16, .box [Ti 0, Ti 0, Ti 0])]⟩) rfl rfl (X_callR (E' := [(40, .box [Ti y2.1.1, Ti y2.1.2.1, Ti y2.1.2.2]), (72, .box [.sl (y11.2.1.map c5), Ti y11.2.2.1, .v (.int .u64 y11.2.2.2)]), (16, .box [Ti 0, Ti 0, Ti 0])]) [(80000, 72)] 29 (s_spec_l1Cur_pick hy11) cf_spec_l1Cur_pick rfl rfl (by kernel_rfl) rfl (mE_cons (by kernel_rfl) mE_nil) rfl (by kernel_rfl) rfl rfl (by kernel_rfl)) (by kernel_rfl) rfl (hE_cons (by kernel_rfl) (hE_cons (by kernel_rfl) (hE_cons (by kernel_rfl) hE_nil))) ?_
     exact step_nil
    refine tab_row [6, 3, 0] (by kernel_rfl) (by kernel_rfl) ?_ ?_
    ·refine step_cons (s2 := ⟨.bot :: .bot :: .pt 16 0 :: .bot :: .pt 72 0 :: .pt 40 0 :: I y4.1 :: bt 16 (Bo b8.1 :: .bot :: .pt 72 0 :: I y10.1 :: .bot :: .pt 72 0 :: I y11.1 :: I (w64 (y11.1 - 3)) :: bt 3 []), [(40, .box [Ti y2.1.1, Ti y2.1.2.1, Ti y2.1.2.2]), (72, .box [.sl (y11.2.1.map c5), Ti y11.2.2.1, .v (.int .u64 y11.2.2.2)]), (16, .box [Ti 0, Ti 0, Ti 0])]⟩) rfl rfl (X_of_Y0 rfl (Y0_sub64 (a := y11.1) (b := 3) rfl (by kernel_rfl) (by kernel_rfl))) (by kernel_rfl) rfl (hE_cons (by kernel_rfl) (hE_cons (by kernel_rfl) (hE_cons (by kernel_rfl) hE_nil))) ?_
     refine step_cons (s2 := ⟨.bot :: .bot :: .pt 16 0 :: .bot :: .pt 72 0 :: .pt 40 0 :: I y4.1 :: bt 16 (Bo b8.1 :: .bot :: .pt 72 0 :: I y10.1 :: I (w64 (y10.1 - 3)) :: .pt 72 0 :: I y11.1 :: bt 4 []), [(40, .box [Ti y2.1.1, Ti y2.1.2.1, Ti y2.1.2.2]), (72, .box [.sl (y11.2.1.map c5), Ti y11.2.2.1, .v (.int .u64 y11.2.2.2)]), (16, .box [Ti 0, Ti 0, Ti 0])]⟩) rfl rfl (X_of_Y0 rfl (Y0_sub64 (a := y10.1) (b := 3) rfl (by kernel_rfl) (by kernel_rfl))) (by kernel_rfl) rfl (hE_cons (by kernel_rfl) (hE_cons (by kernel_rfl) (hE_cons (by kernel_rfl) hE_nil))) ?_
     refine step_cons (s2 := ⟨.bot :: .bot :: .pt 16 0 :: .bot :: .pt 72 0 :: .pt 40 0 :: I y4.1 :: bt 16 (Bo b8.1 :: .ag [Ti y2.1.1, Ti y2.1.2.1, Ti y2.1.2.2] :: .pt 72 0 :: I y10.1 :: .bot :: .pt 72 0 :: I y11.1 :: bt 4 []), [(40, .box [Ti y2.1.1, Ti y2.1.2.1, Ti y2.1.2.2]), (72, .box [.sl (y11.2.1.map c5), Ti y11.2.2.1, .v (.int .u64 y11.2.2.2)]), (16, .box [Ti 0, Ti 0, Ti 0])]⟩) rfl rfl (X_of_Y0 rfl (E_loadn (cs := [Ti y2.1.1, Ti y2.1.2.1, Ti y2.1.2.2]) [Ti y2.1.1, Ti y2.1.2.1, Ti y2.1.2.2] wd45 rfl (by kernel_rfl) (Nat.le_of_ble_eq_true rfl) (by kernel_rfl))) (by kernel_rfl) rfl (hE_cons (by kernel_rfl) (hE_cons (by kernel_rfl) (hE_cons (by kernel_rfl) hE_nil))) ?_
     exact step_nil
    refine tab_row [6, 3] (by kernel_rfl) (by kernel_rfl) ?_ ?_
    ·refine step_cons (s2 := ⟨.bot :: .bot :: .pt 16 0 :: .bot :: .pt 72 0 :: .pt 40 0 :: I y4.1 :: bt 16 (Bo b8.1 :: .ag [Ti y2.1.1, Ti y2.1.2.1, Ti y2.1.2.2] :: .pt 72 0 :: I y10.1 :: .bot :: .pt 72 0 :: I y11.1 :: I (w64 (y11.1 - 3)) :: bt 3 []), [(40, .box [Ti y2.1.1, Ti y2.1.2.1, Ti y2.1.2.2]), (72, .box [.sl (y11.2.1.map c5), Ti y11.2.2.1, .v (.int .u64 y11.2.2.2)]), (16, .box [Ti 0, Ti 0, Ti 0])]⟩) rfl rfl (X_of_Y0 rfl (Y0_sub64 (a := y11.1) (b := 3) rfl (by kernel_rfl) (by kernel_rfl))) (by kernel_rfl) rfl (hE_cons (by kernel_rfl) (hE_cons (by kernel_rfl) (hE_cons (by kernel_rfl) hE_nil))) ?_
     refine step_cons (s2 := ⟨.bot :: .bot :: .pt 16 0 :: .bot :: .pt 72 0 :: .pt 40 0 :: I y4.1 :: bt 16 (Bo b8.1 :: .ag [Ti y2.1.1, Ti y2.1.2.1, Ti y2.1.2.2] :: .pt 72 0 :: I y10.1 :: I (w64 (y10.1 - 3)) :: .pt 72 0 :: I y11.1 :: bt 4 []), [(40, .box [Ti y2.1.1, Ti y2.1.2.1, Ti y2.1.2.2]), (72, .box [.sl (y11.2.1.map c5), Ti y11.2.2.1, .v (.int .u64 y11.2.2.2)]), (16, .box [Ti 0, Ti 0, Ti 0])]⟩) rfl rfl (X_of_Y0 rfl (Y0_sub64 (a := y10.1) (b := 3) rfl (by kernel_rfl) (by kernel_rfl))) (by kernel_rfl) rfl (hE_cons (by kernel_rfl) (hE_cons (by kernel_rfl) (hE_cons (by kernel_rfl) hE_nil))) ?_
     exact step_nil
    refine tab_row [6, 0] (by kernel_rfl) (by kernel_rfl) ?_ ?_
    ·refine step_cons (s2 := ⟨.bot :: .bot :: .pt 16 0 :: .bot :: .pt 72 0 :: .pt 40 0 :: I y4.1 :: bt 16 (Bo b8.1 :: .bot :: .pt 72 0 :: I y10.1 :: I (w64 (y10.1 - 3)) :: .pt 72 0 :: I y11.1 :: I (w64 (y11.1 - 3)) :: bt 3 []), [(40, .box [Ti y2.1.1, Ti y2.1.2.1, Ti y2.1.2.2]), (72, .box [.sl (y11.2.1.map c5), Ti y11.2.2.1, .v (.int .u64 y11.2.2.2)]), (16, .box [Ti 0, Ti 0, Ti 0])]⟩) rfl rfl (X_of_Y0 rfl (Y0_sub64 (a := y11.1) (b := 3) rfl (by kernel_rfl) (by kernel_rfl))) (by kernel_rfl) rfl (hE_cons (by kernel_rfl) (hE_cons (by kernel_rfl) (hE_cons (by kernel_rfl) hE_nil))) ?_
     refine step_cons (s2 := ⟨.bot :: .bot :: .pt 16 0 :: .bot :: .pt 72 0 :: .pt 40 0 :: I y4.1 :: bt 16 (Bo b8.1 :: .ag [Ti y2.1.1, Ti y2.1.2.1, Ti y2.1.2.2] :: .pt 72 0 :: I y10.1 :: I (w64 (y10.1 - 3)) :: .pt 72 0 :: I y11.1 :: bt 4 []), [(40, .box [Ti y2.1.1, Ti y2.1.2.1, Ti y2.1.2.2]), (72, .box [.sl (y11.2.1.map c5), Ti y11.2.2.1, .v (.int .u64 y11.2.2.2)]), (16, .box [Ti 0, Ti 0, Ti 0])]⟩) rfl rfl (X_of_Y0 rfl (E_loadn (cs := [Ti y2.1.1, Ti y2.1.2.1, Ti y2.1.2.2]) [Ti y2.1.1, Ti y2.1.2.1, Ti y2.1.2.2] wd45 rfl (by kernel_rfl) (Nat.le_of_ble_eq_true rfl) (by kernel_rfl))) (by kernel_rfl) rfl (hE_cons (by kernel_rfl) (hE_cons (by kernel_rfl) (hE_cons (by kernel_rfl) hE_nil))) ?_
     exact step_nil
    refine tab_row [6] (by kernel_rfl) (by kernel_rfl) ?_ ?_
    ·refine step_cons (s2 := ⟨.bot :: .bot :: .pt 16 0 :: .bot :: .pt 72 0 :: .pt 40 0 :: I y4.1 :: bt 16 (Bo b8.1 :: .ag [Ti y2.1.1, Ti y2.1.2.1, Ti y2.1.2.2] :: .pt 72 0 :: I y10.1 :: I (w64 (y10.1 - 3)) :: .pt 72 0 :: I y11.1 :: I (w64 (y11.1 - 3)) :: bt 3 []), [(40, .box [Ti y2.1.1, Ti y2.1.2.1, Ti y2.1.2.2]), (72, .box [.sl (y11.2.1.map c5), Ti y11.2.2.1, .v (.int .u64 y11.2.2.2)]), (16, .box [Ti 0, Ti 0, Ti 0])]⟩) rfl rfl (X_of_Y0 rfl (Y0_sub64 (a := y11.1) (b := 3) rfl (by kernel_rfl) (by kernel_rfl))) (by kernel_rfl) rfl (hE_cons (by kernel_rfl) (hE_cons (by kernel_rfl) (hE_cons (by kernel_rfl) hE_nil))) ?_
     exact step_nil
    refine tab_row [3, 0] (by kernel_rfl) (by kernel_rfl) ?_ ?_
    ·refine step_cons (s2 := ⟨.bot :: .bot :: .pt 16 0 :: .bot :: .pt 72 0 :: .pt 40 0 :: I y4.1 :: bt 16 (Bo b8.1 :: .bot :: .pt 72 0 :: I y10.1 :: I (w64 (y10.1 - 3)) :: .pt 72 0 :: I y11.1 :: I (w64 (y11.1 - 3)) :: bt 3 []), [(40, .box [Ti y2.1.1, Ti y2.1.2.1, Ti y2.1.2.2]), (72, .box [.sl (y11.2.1.map c5), Ti y11.2.2.1, .v (.int .u64 y11.2.2.2)]), (16, .box [Ti 0, Ti 0, Ti 0])]⟩) rfl rfl (X_of_Y0 rfl (Y0_sub64 (a := y10.1) (b := 3) rfl (by kernel_rfl) (by kernel_rfl))) (by kernel_rfl) rfl (hE_cons (by kernel_rfl) (hE_cons (by kernel_rfl) (hE_cons (by kernel_rfl) hE_nil))) ?_
     refine step_cons (s2 := ⟨.bot :: .bot :: .pt 16 0 :: .bot :: .pt 72 0 :: .pt 40 0 :: I y4.1 :: bt 16 (Bo b8.1 :: .ag [Ti y2.1.1, Ti y2.1.2.1, Ti y2.1.2.2] :: .pt 72 0 :: I y10.1 :: .bot :: .pt 72 0 :: I y11.1 :: I (w64 (y11.1 - 3)) :: bt 3 []), [(40, .box [Ti y2.1.1, Ti y2.1.2.1, Ti y2.1.2.2]), (72, .box [.sl (y11.2.1.map c5), Ti y11.2.2.1, .v (.int .u64 y11.2.2.2)]), (16, .box [Ti 0, Ti 0, Ti 0])]⟩) rfl rfl (X_of_Y0 rfl (E_loadn (cs := [Ti y2.1.1, Ti y2.1.2.1, Ti y2.1.2.2]) [Ti y2.1.1, Ti y2.1.2.1, Ti y2.1.2.2] wd45 rfl (by kernel_rfl) (Nat.le_of_ble_eq_true rfl) (by kernel_rfl))) (by kernel_rfl) rfl (hE_cons (by kernel_rfl) (hE_cons (by kernel_rfl) (hE_cons (by kernel_rfl) hE_nil))) ?_
     exact step_nil
    refine tab_row [3] (by kernel_rfl) (by kernel_rfl) ?_ ?_
    ·refine step_cons (s2 := ⟨.bot :: .bot :: .pt 16 0 :: .bot :: .pt 72 0 :: .pt 40 0 :: I y4.1 :: bt 16 (Bo b8.1 :: .ag [Ti y2.1.1, Ti y2.1.2.1, Ti y2.1.2.2] :: .pt 72 0 :: I y10.1 :: I (w64 (y10.1 - 3)) :: .pt 72 0 :: I y11.1 :: I (w64 (y11.1 - 3)) :: bt 3 []), [(40, .box [Ti y2.1.1, Ti y2.1.2.1, Ti y2.1.2.2]), (72, .box [.sl (y11.2.1.map c5), Ti y11.2.2.1, .v (.int .u64 y11.2.2.2)]), (16, .box [Ti 0, Ti 0, Ti 0])]⟩) rfl rfl (X_of_Y0 rfl (Y0_sub64 (a := y10.1) (b := 3) rfl (by kernel_rfl) (by kernel_rfl))) (by kernel_rfl) rfl (hE_cons (by kernel_rfl) (hE_cons (by kernel_rfl) (hE_cons (by kernel_rfl) hE_nil))) ?_
     exact step_nil
    refine tab_row [0] (by kernel_rfl) (by kernel_rfl) ?_ ?_
    ·refine step_cons (s2 := ⟨.bot :: .bot :: .pt 16 0 :: .bot :: .pt 72 0 :: .pt 40 0 :: I y4.1 :: bt 16 (Bo b8.1 :: .ag [Ti y2.1.1, Ti y2.1.2.1, Ti y2.1.2.2] :: .pt 72 0 :: I y10.1 :: I (w64 (y10.1 - 3)) :: .pt 72 0 :: I y11.1 :: I (w64 (y11.1 - 3)) :: bt 3 []), [(40, .box [Ti y2.1.1, Ti y2.1.2.1, Ti y2.1.2.2]), (72, .box [.sl (y11.2.1.map c5), Ti y11.2.2.1, .v (.int .u64 y11.2.2.2)]), (16, .box [Ti 0, Ti 0, Ti 0])]⟩) rfl rfl (X_of_Y0 rfl (E_loadn (cs := [Ti y2.1.1, Ti y2.1.2.1, Ti y2.1.2.2]) [Ti y2.1.1, Ti y2.1.2.1, Ti y2.1.2.2] wd45 rfl (by kernel_rfl) (Nat.le_of_ble_eq_true rfl) (by kernel_rfl))) (by kernel_rfl) rfl (hE_cons (by kernel_rfl) (hE_cons (by kernel_rfl) (hE_cons (by kernel_rfl) hE_nil))) ?_
     exact step_nil
    refine tab_row [7] (by kernel_rfl) (by kernel_rfl) ?_ ?_
    ·refine step_cons (s2 := ⟨.bot :: .bot :: .pt 16 0 :: .bot :: .pt 72 0 :: .pt 40 0 :: I y4.1 :: bt 16 (Bo b8.1 :: .ag [Ti y2.1.1, Ti y2.1.2.1, Ti y2.1.2.2] :: .pt 72 0 :: I y10.1 :: I (w64 (y10.1 - 3)) :: .pt 72 0 :: I y11.1 :: I (w64 (y11.1 - 3)) :: I y12 :: .bot :: .bot :: []), [(40, .box [Ti y2.1.1, Ti y2.1.2.1, Ti y2.1.2.2]), (72, .box [.sl (y11.2.1.map c5), Ti y11.2.2.1, .v (.int .u64 y11.2.2.2)]), (16, .box [Ti 0, Ti 0, Ti 0])]⟩) rfl rfl (X_of_Y1 rfl (Y1_call (s_spec_foValue hy12) cf_spec_foValue rfl (by kernel_rfl))) (by kernel_rfl) rfl (hE_cons (by kernel_rfl) (hE_cons (by kernel_rfl) (hE_cons (by kernel_rfl) hE_nil))) ?_
     exact step_nil
    refine tab_row [8] (by kernel_rfl) (by kernel_rfl) ?_ ?_
    ·refine step_cons (s2 := ⟨.bot :: .bot :: .pt 16 0 :: .bot :: .pt 72 0 :: .pt 40 0 :: I y12 :: bt 16 (Bo b8.1 :: .ag [Ti y2.1.1, Ti y2.1.2.1, Ti y2.1.2.2] :: .pt 72 0 :: I y10.1 :: I (w64 (y10.1 - 3)) :: .pt 72 0 :: I y11.1 :: I (w64 (y11.1 - 3)) :: I y12 :: .bot :: .bot :: []), [(40, .box [Ti y2.1.1, Ti y2.1.2.1, Ti y2.1.2.2]), (72, .box [.sl (y11.2.1.map c5), Ti y11.2.2.1, .v (.int .u64 y11.2.2.2)]), (16, .box [Ti 0, Ti 0, Ti 0])]⟩) rfl rfl (X_of_Y0 rfl (E_assign (I y12) rfl (by kernel_rfl))) (by kernel_rfl) rfl (hE_cons (by kernel_rfl) (hE_cons (by kernel_rfl) (hE_cons (by kernel_rfl) hE_nil))) ?_
     exact step_nil
    refine tab_last (by kernel_rfl) ?_ tab_nil
    kernel_rfl
   show V _ _ _ _
   refine V_e (mb 34 12) [16] (s1 := ⟨.bot :: .bot :: .pt 16 0 :: I y12 :: bt 30 [], [(16, .box [Ti y2.1.1, Ti y2.1.2.1, Ti y2.1.2.2])]⟩) ?_
   refine V_ret ?_
   obtain rfl := some_inj h
   show Post _ _ _ _ _
   exact ⟨.inr rfl, rfl, rfl, rfl⟩
  ·have h := of_false h hc9
   refine V_skip ?_
   show V _ _ _ _
   refine V_e (mb 34 12) [16] (s1 := ⟨.bot :: .bot :: .pt 16 0 :: I y4.1 :: bt 30 [], [(16, .box [Ti y2.1.1, Ti y2.1.2.1, Ti y2.1.2.2])]⟩) ?_
   refine V_ret ?_
   obtain rfl := some_inj h
   show Post _ _ _ _ _
   exact ⟨.inr rfl, rfl, rfl, rfl⟩
theorem cf_impl_areNumbers : ∀ args w, (callFunc 79 args).run Try.prog w = .ok (.enter 79 args) w := run_callFunc Try.func79 (by kernel_rfl) (by kernel_rfl)
theorem s_impl_areNumbers {list1 : List Int} {r : Bool} (h : r_impl_areNumbers list1 = some r) : CallS Try.prog 79 [.c (.sl (list1.map c3))] (Bo r) [] := by
  refine CallS_of_text (rs := [.t 2]) (vs := [.tmp 2]) Try.func79 rfl rfl (.cons rfl FitsL.nil) (by decide) 18 rfl ?_
  unfold r_impl_areNumbers at h
  show V _ _ ⟨.c (.sl (list1.map c3)) :: bt 17 [], []⟩ _
  refine V_e (mb 18 1) [] (s1 := ⟨.c (.sl (list1.map c3)) :: bt 17 [], []⟩) ?_
  refine V_seq ?_
  refine V_sreg (mb 18 224) [] (s1 := ⟨bt 5 (.c (.sl (list1.map c3)) :: I ((list1.length : Int)) :: I 0 :: bt 10 []), []⟩) ?_ ?_
  ·refine XR 1 ?_
   refine L0 rfl rfl (Y0_lenM (c := c3) (xs := list1) Try.underlying41 rfl (by kernel_rfl)) ?_
   exact XE
  obtain ⟨qo4, hLo4, hko4⟩ := of_bind h
  refine V_toS (q := qo4) (S := fun o4 => ⟨bt 18 [], []⟩) (mb 18 0) [] ?_ ?_
  ·refine V_block (V_loop (fun n s => ∃ (t2 : Int), s.keep (mb 18 224) [] = (⟨bt 5 (.c (.sl (list1.map c3)) :: I ((list1.length : Int)) :: I t2 :: bt 10 []), []⟩ : St) ∧ r_impl_areNumbers_L3 list1 n t2 = some qo4) FU ⟨_,  by rfl, hLo4⟩ ?_)
   clear hLo4
   rintro n s ⟨t2, hs, h⟩
   refine V_keep _ _ hs ?_
   clear hs
   cases n with
   | zero => cases h
   | succ n =>
    rw [r_impl_areNumbers_L3] at h
    refine V_e (mb 18 480) [] (s1 := ⟨bt 5 (.c (.sl (list1.map c3)) :: I ((list1.length : Int)) :: I t2 :: Bo (ltI t2 ((list1.length : Int))) :: bt 9 []), []⟩) ?_
    refine V_seq ?_
    refine V_cond rfl (fun hc5 => ?_) (fun hc5 => ?_)
    ·have h := of_true h hc5
     refine V_skip ?_
     show V _ _ _ _
     refine V_seq ?_
     refine V_block ?_
     obtain ⟨e6, he6, h⟩ := of_bind h
     refine V_sreg (mb 18 240) [] (s1 := ⟨bt 4 (I e6 :: .c (.sl (list1.map c3)) :: I ((list1.length : Int)) :: I t2 :: bt 10 []), []⟩) ?_ ?_
     ·refine L0 rfl rfl (Y0_idxM (c := c3) (xs := list1) (v := e6) (n := t2) Try.underlying41 sz3 rfl (by kernel_rfl) (by kernel_rfl) he6) ?_
      exact XE
     refine V_sreg (mb 18 65760) [] (s1 := ⟨bt 5 (.c (.sl (list1.map c3)) :: I ((list1.length : Int)) :: I t2 :: bt 8 (Bo (bif (ltI e6 (-1000000)) then true else (ltI 1000000 e6)) :: .bot :: [])), []⟩) ?_ ?_
     ·refine XR 3 ?_
      refine XL_split (ltI e6 (-1000000)) (fun hc7 => ?_) (fun hc7 => ?_)
      ·refine XL_skipF _ rfl rfl (by kernel_rfl) hc7 rfl ?_
       refine XL_skipF _ rfl rfl (by kernel_rfl) hc7 rfl ?_
       refine XL_cons rfl (X_of_Y0 rfl (Y0_pick1 (b := ltI e6 (-1000000)) (p := true) (q := ltI 1000000 e6) rfl (by kernel_rfl) hc7 (by kernel_rfl))) ?_
       exact XE
      ·refine XL_takeC _ rfl rfl (by kernel_rfl) hc7 (X_of_Y0 rfl (E_move (I e6) rfl (by kernel_rfl))) ?_
       refine XL_takeC _ rfl rfl (by kernel_rfl) hc7 (X_of_Y0 rfl (Y0_gtw (k := .i64) (a := e6) (b := 1000000) rfl (by kernel_rfl) (by kernel_rfl))) ?_
       refine XL_cons rfl (X_of_Y0 rfl (Y0_pick0 (b := ltI e6 (-1000000)) (p := true) (q := ltI 1000000 e6) rfl (by kernel_rfl) hc7 (by kernel_rfl))) ?_
       exact XE
     refine V_cond rfl (fun hc8 => ?_) (fun hc8 => ?_)
     ·have h := of_true h hc8
      refine V_e (mb 18 4) [] (s1 := ⟨.bot :: .bot :: Bo false :: bt 15 [], []⟩) ?_
      refine V_ret ?_
      obtain rfl := some_inj h
      have h := hko4
      obtain rfl := some_inj h
      show Post _ _ _ _ _
      exact ⟨.inr rfl, rfl, rfl, rfl⟩
     ·have h := of_false h hc8
      refine V_skip ?_
      show V _ _ _ _
      obtain ⟨t9, ht9, h⟩ := of_sI h
      refine V_reg (mb 18 224) [] (s1 := ⟨bt 5 (.c (.sl (list1.map c3)) :: I ((list1.length : Int)) :: I t9 :: bt 10 []), []⟩) ?_ ?_
      ·refine XR 2 ?_
       refine XL_nil ?_
       subst ht9
       kernel_rfl
      exact ⟨n, Nat.lt_succ_self n, _,  by rfl, h⟩
    ·have h := of_false h hc5
     refine V_exit ?_
     obtain rfl := some_inj h
     exact ⟨_, rfl, by rfl⟩
  rintro o4 rfl
  have h := hko4
  clear hko4
  show V _ _ _ _
  refine V_e (mb 18 4) [] (s1 := ⟨.bot :: .bot :: Bo true :: bt 15 [], []⟩) ?_
  refine V_ret ?_
  obtain rfl := some_inj h
  show Post _ _ _ _ _
  exact ⟨.inr rfl, rfl, rfl, rfl⟩
theorem cf_impl_IsForm : ∀ args w, (callFunc 77 args).run Try.prog w = .ok (.enter 77 args) w := run_callFunc Try.func77 (by kernel_rfl) (by kernel_rfl)
theorem s_impl_IsForm {f1 : (Int × Int × Int)} {r : Bool} (h : r_impl_IsForm f1 = some r) : CallS Try.prog 77 [.ag [Ti f1.1, Ti f1.2.1, Ti f1.2.2]] (Bo r) [] := by
  refine CallS_of_text (rs := [.t 2]) (vs := [.tmp 2]) Try.func77 rfl rfl (.cons rfl FitsL.nil) (by decide) 11 rfl ?_
  unfold r_impl_IsForm at h
  show V _ _ ⟨.ag [Ti f1.1, Ti f1.2.1, Ti f1.2.2] :: bt 10 [], []⟩ _
  refine V_e (mb 11 2) [8] (s1 := ⟨.bot :: .pt 8 0 :: bt 9 [], [(8, .box [Ti f1.1, Ti f1.2.1, Ti f1.2.2])]⟩) ?_
  obtain ⟨y2, hy2, h⟩ := of_bind h
  refine V_sreg (mb 11 4) [] (s1 := ⟨.bot :: .bot :: Bo y2 :: bt 8 [], []⟩) ?_ ?_
  ·refine XR 6 ?_
   refine L1 rfl rfl (Y1_bslice (z := zv3) (els := [f1.1, f1.2.1, f1.2.2].map c3) Try.underlying41 iz3 rfl (by decide) rfl (by kernel_rfl) rfl (by simp [c3]) (by decide) (by decide)) ?_
   refine L1 rfl rfl (Y1_callS (s_impl_areNumbers hy2) cf_impl_areNumbers rfl (by kernel_rfl) rfl rfl) ?_
   exact XE
  refine V_ret ?_
  obtain rfl := some_inj h
  show Post _ _ _ _ _
  exact ⟨.inr rfl, rfl, rfl, rfl⟩
theorem cf_impl_Form_disc : ∀ args w, (callFunc 78 args).run Try.prog w = .ok (.enter 78 args) w := run_callFunc Try.func78 (by kernel_rfl) (by kernel_rfl)
theorem s_impl_Form_disc {f1 : (Int × Int × Int)} {r : Int} (h : r_impl_Form_disc f1 = some r) : CallS Try.prog 78 [.ag [Ti f1.1, Ti f1.2.1, Ti f1.2.2]] (I r) [] := by
  refine CallS_of_text (rs := [.t 2]) (vs := [.tmp 2]) Try.func78 rfl rfl (.cons rfl FitsL.nil) (by decide) 15 rfl ?_
  unfold r_impl_Form_disc at h
  show V _ _ ⟨.ag [Ti f1.1, Ti f1.2.1, Ti f1.2.2] :: bt 14 [], []⟩ _
  refine V_e (mb 15 2) [8] (s1 := ⟨.bot :: .pt 8 0 :: bt 13 [], [(8, .box [Ti f1.1, Ti f1.2.1, Ti f1.2.2])]⟩) ?_
  obtain ⟨t2, ht2, h⟩ := of_sI h
  refine V_sreg (mb 15 4) [] (s1 := ⟨.bot :: .bot :: I t2 :: bt 12 [], []⟩) ?_ ?_
  ·refine XR 13 ?_
   refine XL_nil ?_
   subst ht2
   kernel_rfl
  refine V_ret ?_
  obtain rfl := some_inj h
  show Post _ _ _ _ _
  exact ⟨.inr rfl, rfl, rfl, rfl⟩
theorem cf_impl_mod : ∀ args w, (callFunc 58 args).run Try.prog w = .ok (.enter 58 args) w := run_callFunc Try.func58 (by kernel_rfl) (by kernel_rfl)
theorem s_impl_mod {a1 : Int} {vm2 : Int} {r : Int} (h : r_impl_mod a1 vm2 = some r) : CallS Try.prog 58 [I a1, I vm2] (I r) [] := by
  refine CallS_of_text (rs := [.t 4]) (vs := [.tmp 4]) Try.func58 rfl rfl (.cons rfl FitsL.nil) (by decide) 15 rfl ?_
  unfold r_impl_mod at h
  show V _ _ ⟨I a1 :: I vm2 :: bt 13 [], []⟩ _
  refine V_e (mb 15 3) [] (s1 := ⟨I a1 :: I vm2 :: bt 13 [], []⟩) ?_
  obtain ⟨z3, hz3, h⟩ := of_bind h
  obtain ⟨vr4, hvr4, h⟩ := of_sI h
  refine V_sreg (mb 15 34) [] (s1 := ⟨.bot :: I vm2 :: bt 3 (I vr4 :: bt 9 []), []⟩) ?_ ?_
  ·refine XR 2 ?_
   refine L0 rfl rfl (Y0_rem (k := .i64) (a := a1) (b := vm2) rfl (by kernel_rfl) (by kernel_rfl) (nz_some hz3)) ?_
   refine XR 1 ?_
   refine XL_nil ?_
   subst hvr4
   kernel_rfl
  refine V_seq ?_
  refine V_e (mb 15 1058) [] (s1 := ⟨.bot :: I vm2 :: bt 3 (I vr4 :: bt 4 (Bo (ltI vr4 0) :: bt 4 [])), []⟩) ?_
  refine V_cond rfl (fun hc5 => ?_) (fun hc5 => ?_)
  ·have h := of_true h hc5
   obtain ⟨vr6, hvr6, h⟩ := of_sI h
   refine V_reg (mb 15 32) [] (s1 := ⟨bt 5 (I vr6 :: bt 9 []), []⟩) ?_ ?_
   ·refine XR 4 ?_
    refine XL_nil ?_
    subst hvr6
    kernel_rfl
   show V _ _ _ _
   refine V_e (mb 15 16) [] (s1 := ⟨bt 4 (I vr6 :: bt 10 []), []⟩) ?_
   refine V_ret ?_
   obtain rfl := some_inj h
   show Post _ _ _ _ _
   exact ⟨.inr rfl, rfl, rfl, rfl⟩
  ·have h := of_false h hc5
   refine V_skip ?_
   show V _ _ _ _
   refine V_e (mb 15 16) [] (s1 := ⟨bt 4 (I vr4 :: bt 10 []), []⟩) ?_
   refine V_ret ?_
   obtain rfl := some_inj h
   show Post _ _ _ _ _
   exact ⟨.inr rfl, rfl, rfl, rfl⟩
theorem cf_impl_root : ∀ args w, (callFunc 195 args).run Try.prog w = .ok (.enter 195 args) w := run_callFunc Try.func195 (by kernel_rfl) (by kernel_rfl)
theorem s_impl_root {vn1 : Int} {r : Int} (h : r_impl_root vn1 = some r) : CallS Try.prog 195 [I vn1] (I r) [] := by
  refine CallS_of_text (rs := [.t 2]) (vs := [.tmp 2]) Try.func195 rfl rfl (.cons rfl FitsL.nil) (by decide) 23 rfl ?_
  unfold r_impl_root at h
  show V _ _ ⟨I vn1 :: bt 22 [], []⟩ _
  refine V_e (mb 23 1) [] (s1 := ⟨I vn1 :: bt 22 [], []⟩) ?_
  refine V_e (mb 23 25) [] (s1 := ⟨I vn1 :: .bot :: .bot :: I 0 :: I 3000000000 :: bt 18 [], []⟩) ?_
  refine V_seq ?_
  obtain ⟨o5, hLo5, h⟩ := of_bind h
  refine V_toK (mb 23 8) [] (s1 := ⟨bt 3 (I o5 :: bt 19 []), []⟩) ?_ ?_
  ·clear h
   refine V_block (V_loop (fun n s => ∃ (low2 : Int) (high3 : Int), s.keep (mb 23 25) [] = (⟨I vn1 :: .bot :: .bot :: I low2 :: I high3 :: bt 18 [], []⟩ : St) ∧ r_impl_root_L4 vn1 n low2 high3 = some o5) FU ⟨_, _,  by rfl, hLo5⟩ ?_)
   clear hLo5
   rintro n s ⟨low2, high3, hs, h⟩
   refine V_keep _ _ hs ?_
   clear hs
   cases n with
   | zero => cases h
   | succ n =>
    rw [r_impl_root_L4] at h
    refine V_seq ?_
    refine V_e (mb 23 281) [] (s1 := ⟨I vn1 :: .bot :: .bot :: I low2 :: I high3 :: bt 3 (Bo (ltI low2 high3) :: bt 14 []), []⟩) ?_
    refine V_cond rfl (fun hc6 => ?_) (fun hc6 => ?_)
    ·have h := of_true h hc6
     refine V_skip ?_
     show V _ _ _ _
     refine V_block ?_
     obtain ⟨vm7, hvm7, h⟩ := of_sI h
     refine V_sreg (mb 23 57) [] (s1 := ⟨I vn1 :: .bot :: .bot :: I low2 :: I high3 :: I vm7 :: bt 17 [], []⟩) ?_ ?_
     ·refine XR 4 ?_
      refine L0 rfl rfl (Y0_quo64 (a := w64 ((w64 (low2 + high3)) + 1)) (b := 2) rfl (by kernel_rfl) (by kernel_rfl) (by decide)) ?_
      refine XR 1 ?_
      refine XL_nil ?_
      subst hvm7
      kernel_rfl
     refine V_e (mb 23 262201) [] (s1 := ⟨I vn1 :: .bot :: .bot :: I low2 :: I high3 :: I vm7 :: bt 12 (Bo (leI (w64 (vm7 * vm7)) vn1) :: bt 4 []), []⟩) ?_
     refine V_cond rfl (fun hc8 => ?_) (fun hc8 => ?_)
     ·have h := of_true h hc8
      refine V_reg (mb 23 25) [] (s1 := ⟨I vn1 :: .bot :: .bot :: I vm7 :: I high3 :: bt 18 [], []⟩) ?_ ?_
      ·exact XE
      exact ⟨n, Nat.lt_succ_self n, _, _,  by rfl, h⟩
     ·have h := of_false h hc8
      obtain ⟨high9, hhigh9, h⟩ := of_sI h
      refine V_reg (mb 23 25) [] (s1 := ⟨I vn1 :: .bot :: .bot :: I low2 :: I high9 :: bt 18 [], []⟩) ?_ ?_
      ·refine XR 3 ?_
       refine XL_nil ?_
       subst hhigh9
       kernel_rfl
      exact ⟨n, Nat.lt_succ_self n, _, _,  by rfl, h⟩
    ·have h := of_false h hc6
     refine V_exit ?_
     obtain rfl := some_inj h
     show St.keep _ _ _ = _
     rfl
  show V _ _ _ _
  refine V_e (mb 23 4) [] (s1 := ⟨.bot :: .bot :: I o5 :: bt 20 [], []⟩) ?_
  refine V_ret ?_
  obtain rfl := some_inj h
  show Post _ _ _ _ _
  exact ⟨.inr rfl, rfl, rfl, rfl⟩
theorem cf_impl_isSquare : ∀ args w, (callFunc 138 args).run Try.prog w = .ok (.enter 138 args) w := run_callFunc Try.func138 (by kernel_rfl) (by kernel_rfl)
theorem s_impl_isSquare {vn1 : Int} {r : Bool} (h : r_impl_isSquare vn1 = some r) : CallS Try.prog 138 [I vn1] (Bo r) [] := by
  refine CallS_of_text (rs := [.t 2]) (vs := [.tmp 2]) Try.func138 rfl rfl (.cons rfl FitsL.nil) (by decide) 14 rfl ?_
  unfold r_impl_isSquare at h
  show V _ _ ⟨I vn1 :: bt 13 [], []⟩ _
  refine V_e (mb 14 1) [] (s1 := ⟨I vn1 :: bt 13 [], []⟩) ?_
  obtain ⟨b5, hb5, h⟩ := of_bind h
  refine V_sreg (mb 14 4) [] (s1 := ⟨.bot :: .bot :: Bo b5 :: bt 11 [], []⟩) ?_ ?_
  ·refine XR 3 ?_
   refine XL_split (leI 0 vn1) (fun hc2 => ?_) (fun hc2 => ?_)
   ·have hb5 := of_true hb5 hc2
    obtain ⟨y3, hy3, hb5⟩ := of_bind hb5
    obtain ⟨y4, hy4, hb5⟩ := of_bind hb5
    have hb5 := some_inj hb5
    refine XL_takeC _ rfl rfl (by kernel_rfl) hc2 (X_of_Y0 rfl (E_move (I vn1) rfl (by kernel_rfl))) ?_
    refine XL_takeC _ rfl rfl (by kernel_rfl) hc2 (X_of_Y1 rfl (Y1_call (s_impl_root hy3) cf_impl_root rfl (by kernel_rfl))) ?_
    refine XL_takeC _ rfl rfl (by kernel_rfl) hc2 (X_of_Y0 rfl (E_move (I vn1) rfl (by kernel_rfl))) ?_
    refine XL_takeC _ rfl rfl (by kernel_rfl) hc2 (X_of_Y1 rfl (Y1_call (s_impl_root hy4) cf_impl_root rfl (by kernel_rfl))) ?_
    refine XL_takeC _ rfl rfl (by kernel_rfl) hc2 (X_of_Y0 rfl (Y0_mul64 (a := y3) (b := y4) rfl (by kernel_rfl) (by kernel_rfl))) ?_
    refine XL_takeC _ rfl rfl (by kernel_rfl) hc2 (X_of_Y0 rfl (E_move (I vn1) rfl (by kernel_rfl))) ?_
    refine XL_takeC _ rfl rfl (by kernel_rfl) hc2 (X_of_Y0 rfl (Y0_eqw (k := .i64) (a := w64 (y3 * y4)) (b := vn1) rfl (by kernel_rfl) (by kernel_rfl))) ?_
    refine XL_cons rfl (X_of_Y0 rfl (Y0_pickTe (b := leI 0 vn1) (p := eqI (w64 (y3 * y4)) vn1) rfl (by kernel_rfl) hc2 (by kernel_rfl) hb5)) ?_
    exact XE
   ·have hb5 := some_inj (of_false hb5 hc2)
    refine XL_skipT _ rfl rfl (by kernel_rfl) hc2 rfl ?_
    refine XL_skipT _ rfl rfl (by kernel_rfl) hc2 rfl ?_
    refine XL_skipT _ rfl rfl (by kernel_rfl) hc2 rfl ?_
    refine XL_skipT _ rfl rfl (by kernel_rfl) hc2 rfl ?_
    refine XL_skipT _ rfl rfl (by kernel_rfl) hc2 rfl ?_
    refine XL_skipT _ rfl rfl (by kernel_rfl) hc2 rfl ?_
    refine XL_skipT _ rfl rfl (by kernel_rfl) hc2 rfl ?_
    refine XL_cons rfl (X_of_Y0 rfl (Y0_pickFe (b := leI 0 vn1) (p := false) rfl (by kernel_rfl) hc2 (by kernel_rfl) hb5)) ?_
    exact XE
  refine V_ret ?_
  obtain rfl := some_inj h
  show Post _ _ _ _ _
  exact ⟨.inr rfl, rfl, rfl, rfl⟩
theorem cf_impl_isPositiveDisc : ∀ args w, (callFunc 217 args).run Try.prog w = .ok (.enter 217 args) w := run_callFunc Try.func217 (by kernel_rfl) (by kernel_rfl)
theorem s_impl_isPositiveDisc {d1 : Int} {r : Bool} (h : r_impl_isPositiveDisc d1 = some r) : CallS Try.prog 217 [I d1] (Bo r) [] := by
  refine CallS_of_text (rs := [.t 2]) (vs := [.tmp 2]) Try.func217 rfl rfl (.cons rfl FitsL.nil) (by decide) 19 rfl ?_
  unfold r_impl_isPositiveDisc at h
  show V _ _ ⟨I d1 :: bt 18 [], []⟩ _
  refine V_e (mb 19 1) [] (s1 := ⟨I d1 :: bt 18 [], []⟩) ?_
  obtain ⟨b5, hb5, h⟩ := of_bind h
  obtain ⟨b8, hb8, h⟩ := of_bind h
  refine V_sreg (mb 19 4) [] (s1 := ⟨.bot :: .bot :: Bo b8 :: bt 16 [], []⟩) ?_ ?_
  ·refine XR 3 ?_
   refine XL_split (leI 5 d1) (fun hc2 => ?_) (fun hc2 => ?_)
   ·refine XL_takeC _ rfl rfl (by kernel_rfl) hc2 (X_of_Y0 rfl (E_move (I d1) rfl (by kernel_rfl))) ?_
    refine XL_takeC _ rfl rfl (by kernel_rfl) hc2 (X_of_Y0 rfl (Y0_lew (k := .i64) (a := d1) (b := 1000) rfl (by kernel_rfl) (by kernel_rfl))) ?_
    refine XL_cons rfl (X_of_Y0 rfl (Y0_pick1 (b := leI 5 d1) (p := leI d1 1000) (q := false) rfl (by kernel_rfl) hc2 (by kernel_rfl))) ?_
    refine XR 1 ?_
    refine XL_split (bif (leI 5 d1) then (leI d1 1000) else false) (fun hc3 => ?_) (fun hc3 => ?_)
    ·have hb5 := of_true hb5 hc3
     obtain ⟨y4, hy4, hb5⟩ := of_bind hb5
     have hb5 := some_inj hb5
     refine XL_takeC _ rfl rfl (by kernel_rfl) hc3 (X_of_Y0 rfl (E_move (I d1) rfl (by kernel_rfl))) ?_
     refine XL_takeC _ rfl rfl (by kernel_rfl) hc3 (X_of_Y1 rfl (Y1_call (s_impl_mod hy4) cf_impl_mod rfl (by kernel_rfl))) ?_
     refine XL_takeC _ rfl rfl (by kernel_rfl) hc3 (X_of_Y0 rfl (Y0_lew (k := .i64) (a := y4) (b := 1) rfl (by kernel_rfl) (by kernel_rfl))) ?_
     refine XL_cons rfl (X_of_Y0 rfl (Y0_pickTe (b := bif (leI 5 d1) then (leI d1 1000) else false) (p := leI y4 1) rfl (by kernel_rfl) hc3 (by kernel_rfl) hb5)) ?_
     refine XR 1 ?_
     refine XL_split b5 (fun hc6 => ?_) (fun hc6 => ?_)
     ·have hb8 := of_true hb8 hc6
      obtain ⟨y7, hy7, hb8⟩ := of_bind hb8
      have hb8 := some_inj hb8
      refine XL_takeC _ rfl rfl (by kernel_rfl) hc6 (X_of_Y0 rfl (E_move (I d1) rfl (by kernel_rfl))) ?_
      refine XL_takeC _ rfl rfl (by kernel_rfl) hc6 (X_of_Y1 rfl (Y1_call (s_impl_isSquare hy7) cf_impl_isSquare rfl (by kernel_rfl))) ?_
      refine XL_takeC _ rfl rfl (by kernel_rfl) hc6 (X_of_Y0 rfl (Y0_not (b := y7) rfl (by kernel_rfl))) ?_
      refine XL_cons rfl (X_of_Y0 rfl (Y0_pickTe (b := b5) (p := !y7) rfl (by kernel_rfl) hc6 (by kernel_rfl) hb8)) ?_
      exact XE
     ·have hb8 := some_inj (of_false hb8 hc6)
      refine XL_skipT _ rfl rfl (by kernel_rfl) hc6 rfl ?_
      refine XL_skipT _ rfl rfl (by kernel_rfl) hc6 rfl ?_
      refine XL_skipT _ rfl rfl (by kernel_rfl) hc6 rfl ?_
      refine XL_cons rfl (X_of_Y0 rfl (Y0_pickFe (b := b5) (p := false) rfl (by kernel_rfl) hc6 (by kernel_rfl) hb8)) ?_
      exact XE
    ·have hb5 := some_inj (of_false hb5 hc3)
     refine XL_skipT _ rfl rfl (by kernel_rfl) hc3 rfl ?_
     refine XL_skipT _ rfl rfl (by kernel_rfl) hc3 rfl ?_
     refine XL_skipT _ rfl rfl (by kernel_rfl) hc3 rfl ?_
     refine XL_cons rfl (X_of_Y0 rfl (Y0_pickFe (b := bif (leI 5 d1) then (leI d1 1000) else false) (p := false) rfl (by kernel_rfl) hc3 (by kernel_rfl) hb5)) ?_
     refine XR 1 ?_
     refine XL_split b5 (fun hc6 => ?_) (fun hc6 => ?_)
     ·have hb8 := of_true hb8 hc6
      obtain ⟨y7, hy7, hb8⟩ := of_bind hb8
      have hb8 := some_inj hb8
      refine XL_takeC _ rfl rfl (by kernel_rfl) hc6 (X_of_Y0 rfl (E_move (I d1) rfl (by kernel_rfl))) ?_
      refine XL_takeC _ rfl rfl (by kernel_rfl) hc6 (X_of_Y1 rfl (Y1_call (s_impl_isSquare hy7) cf_impl_isSquare rfl (by kernel_rfl))) ?_
      refine XL_takeC _ rfl rfl (by kernel_rfl) hc6 (X_of_Y0 rfl (Y0_not (b := y7) rfl (by kernel_rfl))) ?_
      refine XL_cons rfl (X_of_Y0 rfl (Y0_pickTe (b := b5) (p := !y7) rfl (by kernel_rfl) hc6 (by kernel_rfl) hb8)) ?_
      exact XE
     ·have hb8 := some_inj (of_false hb8 hc6)
      refine XL_skipT _ rfl rfl (by kernel_rfl) hc6 rfl ?_
      refine XL_skipT _ rfl rfl (by kernel_rfl) hc6 rfl ?_
      refine XL_skipT _ rfl rfl (by kernel_rfl) hc6 rfl ?_
      refine XL_cons rfl (X_of_Y0 rfl (Y0_pickFe (b := b5) (p := false) rfl (by kernel_rfl) hc6 (by kernel_rfl) hb8)) ?_
      exact XE
   ·refine XL_skipT _ rfl rfl (by kernel_rfl) hc2 rfl ?_
    refine XL_skipT _ rfl rfl (by kernel_rfl) hc2 rfl ?_
    refine XL_cons rfl (X_of_Y0 rfl (Y0_pick0 (b := leI 5 d1) (p := leI d1 1000) (q := false) rfl (by kernel_rfl) hc2 (by kernel_rfl))) ?_
    refine XR 1 ?_
    refine XL_split (bif (leI 5 d1) then (leI d1 1000) else false) (fun hc3 => ?_) (fun hc3 => ?_)
    ·have hb5 := of_true hb5 hc3
     obtain ⟨y4, hy4, hb5⟩ := of_bind hb5
     have hb5 := some_inj hb5
     refine XL_takeC _ rfl rfl (by kernel_rfl) hc3 (X_of_Y0 rfl (E_move (I d1) rfl (by kernel_rfl))) ?_
     refine XL_takeC _ rfl rfl (by kernel_rfl) hc3 (X_of_Y1 rfl (Y1_call (s_impl_mod hy4) cf_impl_mod rfl (by kernel_rfl))) ?_
     refine XL_takeC _ rfl rfl (by kernel_rfl) hc3 (X_of_Y0 rfl (Y0_lew (k := .i64) (a := y4) (b := 1) rfl (by kernel_rfl) (by kernel_rfl))) ?_
     refine XL_cons rfl (X_of_Y0 rfl (Y0_pickTe (b := bif (leI 5 d1) then (leI d1 1000) else false) (p := leI y4 1) rfl (by kernel_rfl) hc3 (by kernel_rfl) hb5)) ?_
     refine XR 1 ?_
     refine XL_split b5 (fun hc6 => ?_) (fun hc6 => ?_)
     ·have hb8 := of_true hb8 hc6
      obtain ⟨y7, hy7, hb8⟩ := of_bind hb8
      have hb8 := some_inj hb8
      refine XL_takeC _ rfl rfl (by kernel_rfl) hc6 (X_of_Y0 rfl (E_move (I d1) rfl (by kernel_rfl))) ?_
      refine XL_takeC _ rfl rfl (by kernel_rfl) hc6 (X_of_Y1 rfl (Y1_call (s_impl_isSquare hy7) cf_impl_isSquare rfl (by kernel_rfl))) ?_
      refine XL_takeC _ rfl rfl (by kernel_rfl) hc6 (X_of_Y0 rfl (Y0_not (b := y7) rfl (by kernel_rfl))) ?_
      refine XL_cons rfl (X_of_Y0 rfl (Y0_pickTe (b := b5) (p := !y7) rfl (by kernel_rfl) hc6 (by kernel_rfl) hb8)) ?_
      exact XE
     ·have hb8 := some_inj (of_false hb8 hc6)
      refine XL_skipT _ rfl rfl (by kernel_rfl) hc6 rfl ?_
      refine XL_skipT _ rfl rfl (by kernel_rfl) hc6 rfl ?_
      refine XL_skipT _ rfl rfl (by kernel_rfl) hc6 rfl ?_
      refine XL_cons rfl (X_of_Y0 rfl (Y0_pickFe (b := b5) (p := false) rfl (by kernel_rfl) hc6 (by kernel_rfl) hb8)) ?_
      exact XE
    ·have hb5 := some_inj (of_false hb5 hc3)
     refine XL_skipT _ rfl rfl (by kernel_rfl) hc3 rfl ?_
     refine XL_skipT _ rfl rfl (by kernel_rfl) hc3 rfl ?_
     refine XL_skipT _ rfl rfl (by kernel_rfl) hc3 rfl ?_
     refine XL_cons rfl (X_of_Y0 rfl (Y0_pickFe (b := bif (leI 5 d1) then (leI d1 1000) else false) (p := false) rfl (by kernel_rfl) hc3 (by kernel_rfl) hb5)) ?_
     refine XR 1 ?_
     refine XL_split b5 (fun hc6 => ?_) (fun hc6 => ?_)
     ·have hb8 := of_true hb8 hc6
      obtain ⟨y7, hy7, hb8⟩ := of_bind hb8
      have hb8 := some_inj hb8
      refine XL_takeC _ rfl rfl (by kernel_rfl) hc6 (X_of_Y0 rfl (E_move (I d1) rfl (by kernel_rfl))) ?_
      refine XL_takeC _ rfl rfl (by kernel_rfl) hc6 (X_of_Y1 rfl (Y1_call (s_impl_isSquare hy7) cf_impl_isSquare rfl (by kernel_rfl))) ?_
      refine XL_takeC _ rfl rfl (by kernel_rfl) hc6 (X_of_Y0 rfl (Y0_not (b := y7) rfl (by kernel_rfl))) ?_
      refine XL_cons rfl (X_of_Y0 rfl (Y0_pickTe (b := b5) (p := !y7) rfl (by kernel_rfl) hc6 (by kernel_rfl) hb8)) ?_
      exact XE
     ·have hb8 := some_inj (of_false hb8 hc6)
      refine XL_skipT _ rfl rfl (by kernel_rfl) hc6 rfl ?_
      refine XL_skipT _ rfl rfl (by kernel_rfl) hc6 rfl ?_
      refine XL_skipT _ rfl rfl (by kernel_rfl) hc6 rfl ?_
      refine XL_cons rfl (X_of_Y0 rfl (Y0_pickFe (b := b5) (p := false) rfl (by kernel_rfl) hc6 (by kernel_rfl) hb8)) ?_
      exact XE
  refine V_ret ?_
  obtain rfl := some_inj h
  show Post _ _ _ _ _
  exact ⟨.inr rfl, rfl, rfl, rfl⟩
theorem cf_impl_isIndefinite : ∀ args w, (callFunc 177 args).run Try.prog w = .ok (.enter 177 args) w := run_callFunc Try.func177 (by kernel_rfl) (by kernel_rfl)
theorem s_impl_isIndefinite {f1 : (Int × Int × Int)} {r : Bool} (h : r_impl_isIndefinite f1 = some r) : CallS Try.prog 177 [.ag [Ti f1.1, Ti f1.2.1, Ti f1.2.2]] (Bo r) [] := by
  refine CallS_of_text (rs := [.t 2]) (vs := [.tmp 2]) Try.func177 rfl rfl (.cons rfl FitsL.nil) (by decide) 10 rfl ?_
  unfold r_impl_isIndefinite at h
  show V _ _ ⟨.ag [Ti f1.1, Ti f1.2.1, Ti f1.2.2] :: bt 9 [], []⟩ _
  refine V_e (mb 10 2) [8] (s1 := ⟨.bot :: .pt 8 0 :: bt 8 [], [(8, .box [Ti f1.1, Ti f1.2.1, Ti f1.2.2])]⟩) ?_
  obtain ⟨y2, hy2, h⟩ := of_bind h
  obtain ⟨b6, hb6, h⟩ := of_bind h
  refine V_sreg (mb 10 4) [] (s1 := ⟨.bot :: .bot :: Bo b6 :: bt 7 [], []⟩) ?_ ?_
  ·refine XR 1 ?_
   refine XC (s_impl_IsForm hy2) cf_impl_IsForm rfl rfl rfl ?_
   refine XR 1 ?_
   refine XL_split y2 (fun hc3 => ?_) (fun hc3 => ?_)
   ·have hb6 := of_true hb6 hc3
    obtain ⟨y4, hy4, hb6⟩ := of_bind hb6
    obtain ⟨y5, hy5, hb6⟩ := of_bind hb6
    have hb6 := some_inj hb6
    refine XL_takeC _ rfl rfl (by kernel_rfl) hc3 (X_of_Y0 rfl (E_loadn (cs := [Ti f1.1, Ti f1.2.1, Ti f1.2.2]) [Ti f1.1, Ti f1.2.1, Ti f1.2.2] wd45 rfl (by kernel_rfl) (Nat.le_of_ble_eq_true rfl) (by kernel_rfl))) ?_
    refine XL_takeC _ rfl rfl (by kernel_rfl) hc3 (X_of_Y1 rfl (Y1_call (s_impl_Form_disc hy4) cf_impl_Form_disc rfl (by kernel_rfl))) ?_
    refine XL_takeC _ rfl rfl (by kernel_rfl) hc3 (X_of_Y1 rfl (Y1_call (s_impl_isPositiveDisc hy5) cf_impl_isPositiveDisc rfl (by kernel_rfl))) ?_
    refine XL_cons rfl (X_of_Y0 rfl (Y0_pickTe (b := y2) (p := y5) rfl (by kernel_rfl) hc3 (by kernel_rfl) hb6)) ?_
    exact XE
   ·have hb6 := some_inj (of_false hb6 hc3)
    refine XL_skipT _ rfl rfl (by kernel_rfl) hc3 rfl ?_
    refine XL_skipT _ rfl rfl (by kernel_rfl) hc3 rfl ?_
    refine XL_skipT _ rfl rfl (by kernel_rfl) hc3 rfl ?_
    refine XL_cons rfl (X_of_Y0 rfl (Y0_pickFe (b := y2) (p := false) rfl (by kernel_rfl) hc3 (by kernel_rfl) hb6)) ?_
    exact XE
  refine V_ret ?_
  obtain rfl := some_inj h
  show Post _ _ _ _ _
  exact ⟨.inr rfl, rfl, rfl, rfl⟩
theorem cf_impl_abs : ∀ args w, (callFunc 121 args).run Try.prog w = .ok (.enter 121 args) w := run_callFunc Try.func121 (by kernel_rfl) (by kernel_rfl)
theorem s_impl_abs {vn1 : Int} {r : Int} (h : r_impl_abs vn1 = some r) : CallS Try.prog 121 [I vn1] (I r) [] := by
  refine CallS_of_text (rs := [.t 2]) (vs := [.tmp 2]) Try.func121 rfl rfl (.cons rfl FitsL.nil) (by decide) 8 rfl ?_
  unfold r_impl_abs at h
  show V _ _ ⟨I vn1 :: bt 7 [], []⟩ _
  refine V_e (mb 8 1) [] (s1 := ⟨I vn1 :: bt 7 [], []⟩) ?_
  obtain ⟨t2, ht2, h⟩ := of_sI h
  refine V_sreg (mb 8 4) [] (s1 := ⟨.bot :: .bot :: I t2 :: bt 5 [], []⟩) ?_ ?_
  ·refine XR 2 ?_
   refine L0 rfl rfl (Y0_max (a := vn1) (b := -9223372036854775807) rfl (by kernel_rfl) (by kernel_rfl)) ?_
   refine XR 1 ?_
   refine L0 rfl rfl (Y0_max (a := vn1) (b := w64 (0 - (mxI vn1 (-9223372036854775807)))) rfl (by kernel_rfl) (by kernel_rfl)) ?_
   refine XR 1 ?_
   refine XL_nil ?_
   subst ht2
   kernel_rfl
  refine V_ret ?_
  obtain rfl := some_inj h
  show Post _ _ _ _ _
  exact ⟨.inr rfl, rfl, rfl, rfl⟩
theorem cf_impl_gcd : ∀ args w, (callFunc 57 args).run Try.prog w = .ok (.enter 57 args) w := run_callFunc Try.func57 (by kernel_rfl) (by kernel_rfl)
theorem s_impl_gcd {a1 : Int} {b2 : Int} {r : Int} (h : r_impl_gcd a1 b2 = some r) : CallS Try.prog 57 [I a1, I b2] (I r) [] := by
  refine CallS_of_text (rs := [.t 4]) (vs := [.tmp 4]) Try.func57 rfl rfl (.cons rfl FitsL.nil) (by decide) 13 rfl ?_
  unfold r_impl_gcd at h
  show V _ _ ⟨I a1 :: I b2 :: bt 11 [], []⟩ _
  refine V_e (mb 13 3) [] (s1 := ⟨I a1 :: I b2 :: bt 11 [], []⟩) ?_
  refine V_seq ?_
  obtain ⟨o6, hLo6, h⟩ := of_bind h
  refine V_toK (mb 13 1) [] (s1 := ⟨I o6 :: bt 12 [], []⟩) ?_ ?_
  ·clear h
   refine V_block (V_loop (fun n s => ∃ (a3 : Int) (b4 : Int), s.keep (mb 13 3) [] = (⟨I a3 :: I b4 :: bt 11 [], []⟩ : St) ∧ r_impl_gcd_L5 n a3 b4 = some o6) FU ⟨_, _,  by rfl, hLo6⟩ ?_)
   clear hLo6
   rintro n s ⟨a3, b4, hs, h⟩
   refine V_keep _ _ hs ?_
   clear hs
   cases n with
   | zero => cases h
   | succ n =>
    rw [r_impl_gcd_L5] at h
    refine V_seq ?_
    refine V_e (mb 13 67) [] (s1 := ⟨I a3 :: I b4 :: bt 4 (Bo (!eqI b4 0) :: bt 6 []), []⟩) ?_
    refine V_cond rfl (fun hc7 => ?_) (fun hc7 => ?_)
    ·have h := of_true h hc7
     refine V_skip ?_
     show V _ _ _ _
     refine V_block ?_
     obtain ⟨z8, hz8, h⟩ := of_bind h
     obtain ⟨b9, hb9, h⟩ := of_sI h
     refine V_dreg [0, 0, 0, 6, 3, 31] 6 (cdm 6 [168, 34, 522, 534, 165, 341]) (mb 13 3) [] (s1 := ⟨I b4 :: I b9 :: bt 11 [], []⟩) (by kernel_rfl) (by kernel_rfl) ?_ ?_
     ·refine DR 3 ?_
      refine DE_0 3 (I (Int.tmod a3 b4)) (by kernel_rfl) rfl rfl rfl (gsat_none rfl) (by kernel_rfl) (Y0_rem (k := .i64) (a := a3) (b := b4) rfl (by kernel_rfl) (by kernel_rfl) (nz_some hz8)) 10 rfl ?_
      refine DA 2 ?_
      refine XL_nil ?_
      subst hb9
      kernel_rfl
     exact ⟨n, Nat.lt_succ_self n, _, _,  by rfl, h⟩
    ·have h := of_false h hc7
     refine V_exit ?_
     obtain rfl := some_inj h
     show St.keep _ _ _ = _
     rfl
  show V _ _ _ _
  obtain ⟨y10, hy10, h⟩ := of_bind h
  refine V_sreg (mb 13 16) [] (s1 := ⟨bt 4 (I y10 :: bt 8 []), []⟩) ?_ ?_
  ·refine XR 1 ?_
   refine XC (s_impl_abs hy10) cf_impl_abs rfl rfl rfl ?_
   exact XE
  refine V_ret ?_
  obtain rfl := some_inj h
  show Post _ _ _ _ _
  exact ⟨.inr rfl, rfl, rfl, rfl⟩
theorem cf_impl_Form_content : ∀ args w, (callFunc 178 args).run Try.prog w = .ok (.enter 178 args) w := run_callFunc Try.func178 (by kernel_rfl) (by kernel_rfl)
theorem s_impl_Form_content {f1 : (Int × Int × Int)} {r : Int} (h : r_impl_Form_content f1 = some r) : CallS Try.prog 178 [.ag [Ti f1.1, Ti f1.2.1, Ti f1.2.2]] (I r) [] := by
  refine CallS_of_text (rs := [.t 2]) (vs := [.tmp 2]) Try.func178 rfl rfl (.cons rfl FitsL.nil) (by decide) 11 rfl ?_
  unfold r_impl_Form_content at h
  show V _ _ ⟨.ag [Ti f1.1, Ti f1.2.1, Ti f1.2.2] :: bt 10 [], []⟩ _
  refine V_e (mb 11 2) [8] (s1 := ⟨.bot :: .pt 8 0 :: bt 9 [], [(8, .box [Ti f1.1, Ti f1.2.1, Ti f1.2.2])]⟩) ?_
  obtain ⟨y2, hy2, h⟩ := of_bind h
  obtain ⟨y3, hy3, h⟩ := of_bind h
  refine V_sdreg [0, 1, 0, 4, 0, 16, 60, 127, 255] 9 (cdm 9 [10912, 10913, 2570, 2586, 170, 426, 1370, 5461, 21845]) (mb 11 4) [] (s1 := ⟨.bot :: .bot :: I y3 :: bt 8 [], []⟩) (by kernel_rfl) (by kernel_rfl) ?_ ?_
  ·refine DR 6 ?_
   refine DC 6 (s_impl_gcd hy2) cf_impl_gcd rfl rfl rfl rfl 9 rfl ?_
   refine DC 7 (s_impl_gcd hy3) cf_impl_gcd rfl rfl rfl rfl 10 rfl ?_
   refine DA 1 ?_
   exact XE
  refine V_ret ?_
  obtain rfl := some_inj h
  show Post _ _ _ _ _
  exact ⟨.inr rfl, rfl, rfl, rfl⟩
theorem cf_impl_isPrimitiveIndefinite : ∀ args w, (callFunc 120 args).run Try.prog w = .ok (.enter 120 args) w := run_callFunc Try.func120 (by kernel_rfl) (by kernel_rfl)
theorem s_impl_isPrimitiveIndefinite {f1 : (Int × Int × Int)} {r : Bool} (h : r_impl_isPrimitiveIndefinite f1 = some r) : CallS Try.prog 120 [.ag [Ti f1.1, Ti f1.2.1, Ti f1.2.2]] (Bo r) [] := by
  refine CallS_of_text (rs := [.t 2]) (vs := [.tmp 2]) Try.func120 rfl rfl (.cons rfl FitsL.nil) (by decide) 10 rfl ?_
  unfold r_impl_isPrimitiveIndefinite at h
  show V _ _ ⟨.ag [Ti f1.1, Ti f1.2.1, Ti f1.2.2] :: bt 9 [], []⟩ _
  refine V_e (mb 10 2) [8] (s1 := ⟨.bot :: .pt 8 0 :: bt 8 [], [(8, .box [Ti f1.1, Ti f1.2.1, Ti f1.2.2])]⟩) ?_
  obtain ⟨y2, hy2, h⟩ := of_bind h
  obtain ⟨b5, hb5, h⟩ := of_bind h
  refine V_sreg (mb 10 4) [] (s1 := ⟨.bot :: .bot :: Bo b5 :: bt 7 [], []⟩) ?_ ?_
  ·refine XR 1 ?_
   refine XC (s_impl_isIndefinite hy2) cf_impl_isIndefinite rfl rfl rfl ?_
   refine XR 1 ?_
   refine XL_split y2 (fun hc3 => ?_) (fun hc3 => ?_)
   ·have hb5 := of_true hb5 hc3
    obtain ⟨y4, hy4, hb5⟩ := of_bind hb5
    have hb5 := some_inj hb5
    refine XL_takeC _ rfl rfl (by kernel_rfl) hc3 (X_of_Y0 rfl (E_loadn (cs := [Ti f1.1, Ti f1.2.1, Ti f1.2.2]) [Ti f1.1, Ti f1.2.1, Ti f1.2.2] wd45 rfl (by kernel_rfl) (Nat.le_of_ble_eq_true rfl) (by kernel_rfl))) ?_
    refine XL_takeC _ rfl rfl (by kernel_rfl) hc3 (X_of_Y1 rfl (Y1_call (s_impl_Form_content hy4) cf_impl_Form_content rfl (by kernel_rfl))) ?_
    refine XL_takeC _ rfl rfl (by kernel_rfl) hc3 (X_of_Y0 rfl (Y0_eqw (k := .i64) (a := y4) (b := 1) rfl (by kernel_rfl) (by kernel_rfl))) ?_
    refine XL_cons rfl (X_of_Y0 rfl (Y0_pickTe (b := y2) (p := eqI y4 1) rfl (by kernel_rfl) hc3 (by kernel_rfl) hb5)) ?_
    exact XE
   ·have hb5 := some_inj (of_false hb5 hc3)
    refine XL_skipT _ rfl rfl (by kernel_rfl) hc3 rfl ?_
    refine XL_skipT _ rfl rfl (by kernel_rfl) hc3 rfl ?_
    refine XL_skipT _ rfl rfl (by kernel_rfl) hc3 rfl ?_
    refine XL_cons rfl (X_of_Y0 rfl (Y0_pickFe (b := y2) (p := false) rfl (by kernel_rfl) hc3 (by kernel_rfl) hb5)) ?_
    exact XE
  refine V_ret ?_
  obtain rfl := some_inj h
  show Post _ _ _ _ _
  exact ⟨.inr rfl, rfl, rfl, rfl⟩
theorem cf_impl_rootsOfDiscriminant : ∀ args w, (callFunc 83 args).run Try.prog w = .ok (.enter 83 args) w := run_callFunc Try.func83 (by kernel_rfl) (by kernel_rfl)
theorem s_impl_rootsOfDiscriminant {d1 : Int} {vn2 : Int} {r : List Int} (h : r_impl_rootsOfDiscriminant d1 vn2 = some r) : CallS Try.prog 83 [I d1, I vn2] (.ow 0) [(0, .arr 3 1 (r.map c3))] := by
  refine CallS_of_text (rs := [.t 4]) (vs := [.tmp 4]) Try.func83 rfl rfl (.cons rfl FitsL.nil) (by decide) 28 rfl ?_
  unfold r_impl_rootsOfDiscriminant at h
  show V _ _ ⟨I d1 :: I vn2 :: bt 26 [], []⟩ _
  refine V_sreg (mb 28 3) [] (s1 := ⟨I d1 :: I vn2 :: bt 26 [], []⟩) ?_ ?_
  ·refine L1 rfl rfl (Y1_nil (e := 3) 1 (by decide) (.inl rfl)) ?_
   exact XE
  refine V_sreg (mb 28 35) [56] (s1 := ⟨I d1 :: I vn2 :: bt 3 (.ow 56 :: bt 22 []), [(56, .arr 3 1 ((([] : List Int)).map c3))]⟩) ?_ ?_
  ·refine L1 rfl rfl (Y1_bslice0 Try.underlying41 sz3 (by decide) rfl rfl) ?_
   exact XE
  refine V_seq ?_
  refine V_e (mb 28 99) [56] (s1 := ⟨I d1 :: I vn2 :: bt 3 (.ow 56 :: I 0 :: bt 21 []), [(56, .arr 3 1 ((([] : List Int)).map c3))]⟩) ?_
  obtain ⟨o6, hLo6, h⟩ := of_bind h
  refine V_toK (mb 28 32) [56] (s1 := ⟨bt 5 (.ow 56 :: bt 22 []), [(56, .arr 3 1 (o6.map c3))]⟩) ?_ ?_
  ·clear h
   refine V_block (V_loop (fun n s => ∃ (b3 : Int) (l4 : List Int), s.keep (mb 28 99) [56] = (⟨I d1 :: I vn2 :: bt 3 (.ow 56 :: I b3 :: bt 21 []), [(56, .arr 3 1 (l4.map c3))]⟩ : St) ∧ r_impl_rootsOfDiscriminant_L5 d1 vn2 n b3 l4 = some o6) FU ⟨_, _,  by rfl, hLo6⟩ ?_)
   clear hLo6
   rintro n s ⟨b3, l4, hs, h⟩
   refine V_keep _ _ hs ?_
   clear hs
   cases n with
   | zero => cases h
   | succ n =>
    rw [r_impl_rootsOfDiscriminant_L5] at h
    refine V_seq ?_
    refine V_e (mb 28 2147) [56] (s1 := ⟨I d1 :: I vn2 :: bt 3 (.ow 56 :: I b3 :: bt 4 (Bo (ltI b3 (w64 (2 * vn2))) :: bt 16 [])), [(56, .arr 3 1 (l4.map c3))]⟩) ?_
    refine V_cond rfl (fun hc7 => ?_) (fun hc7 => ?_)
    ·have h := of_true h hc7
     refine V_skip ?_
     show V _ _ _ _
     refine V_seq ?_
     refine V_block ?_
     obtain ⟨z8, hz8, h⟩ := of_bind h
     obtain ⟨t9, ht9, h⟩ := of_bind h
     have ht9 := some_inj ht9
     refine V_sreg (mb 28 4194403) [56] (s1 := ⟨I d1 :: I vn2 :: bt 3 (.ow 56 :: I b3 :: bt 15 (Bo t9 :: bt 5 [])), [(56, .arr 3 1 (l4.map c3))]⟩) ?_ ?_
     ·refine XR 7 ?_
      refine L0 rfl rfl (Y0_rem (k := .i64) (a := w64 ((w64 (b3 * b3)) - d1)) (b := w64 (4 * vn2)) rfl (by kernel_rfl) (by kernel_rfl) (nz_some hz8)) ?_
      refine XR 1 ?_
      refine XL_nil ?_
      subst ht9
      kernel_rfl
     refine V_cond rfl (fun hc10 => ?_) (fun hc10 => ?_)
     ·have h := of_true h hc10
      obtain ⟨u11, hu11, h⟩ := of_bind h
      refine V_reg (mb 28 99) [56] (s1 := ⟨I d1 :: I vn2 :: bt 3 (.ow 56 :: I b3 :: bt 21 []), [(56, .arr 3 1 ((l4 ++ ([b3])).map c3))]⟩) ?_ ?_
      ·refine XR 2 ?_
       refine L1 rfl rfl (Y1_bslice (z := zv3) (els := [b3].map c3) Try.underlying41 iz3 rfl (by decide) rfl (by kernel_rfl) rfl (by simp [c3]) (by decide) (by decide)) ?_
       refine XL_cons rfl (X_appendM (c := c3) (xs := l4) (ys := [b3]) (id := 56) (z := zv3) rfl rfl Try.underlying41 izb3 rfl (by kernel_rfl) (by kernel_rfl) (by kernel_rfl) (fun _ => rfl) (by simp) (room_some hu11) (by decide)) ?_
       exact XE
      show V _ _ _ _
      obtain ⟨b12, hb12, h⟩ := of_sI h
      refine V_reg (mb 28 99) [56] (s1 := ⟨I d1 :: I vn2 :: bt 3 (.ow 56 :: I b12 :: bt 21 []), [(56, .arr 3 1 ((l4 ++ ([b3])).map c3))]⟩) ?_ ?_
      ·refine XR 3 ?_
       refine XL_nil ?_
       subst hb12
       kernel_rfl
      exact ⟨n, Nat.lt_succ_self n, _, _,  by rfl, h⟩
     ·have h := of_false h hc10
      refine V_skip ?_
      show V _ _ _ _
      obtain ⟨b13, hb13, h⟩ := of_sI h
      refine V_reg (mb 28 99) [56] (s1 := ⟨I d1 :: I vn2 :: bt 3 (.ow 56 :: I b13 :: bt 21 []), [(56, .arr 3 1 (l4.map c3))]⟩) ?_ ?_
      ·refine XR 3 ?_
       refine XL_nil ?_
       subst hb13
       kernel_rfl
      exact ⟨n, Nat.lt_succ_self n, _, _,  by rfl, h⟩
    ·have h := of_false h hc7
     refine V_exit ?_
     obtain rfl := some_inj h
     show St.keep _ _ _ = _
     rfl
  show V _ _ _ _
  refine V_e (mb 28 16) [56] (s1 := ⟨bt 4 (.ow 56 :: bt 23 []), [(56, .arr 3 1 (o6.map c3))]⟩) ?_
  refine V_ret ?_
  obtain rfl := some_inj h
  show Post _ _ _ _ _
  exact ⟨.inr rfl, rfl, rfl, rfl⟩
theorem cf_impl_one : ∀ args w, (callFunc 210 args).run Try.prog w = .ok (.enter 210 args) w := run_callFunc Try.func210 (by kernel_rfl) (by kernel_rfl)
theorem s_impl_one {r : (Int × Int × Int × Int)} (h : r_impl_one = some r) : CallS Try.prog 210 [] (.ag [Ti r.1, Ti r.2.1, Ti r.2.2.1, Ti r.2.2.2]) [] := by
  refine CallS_of_text (rs := [.w 0 4]) (vs := [.cell 0 110]) Try.func210 rfl rfl (.cons ⟨rfl, wd110⟩ FitsL.nil) (by decide) 2 rfl ?_
  unfold r_impl_one at h
  show V _ _ ⟨.bot :: .bot :: [], []⟩ _
  refine V_e (mb 2 1) [0] (s1 := ⟨.pt 0 0 :: .bot :: [], [(0, .box [Ti 0, Ti 0, Ti 0, Ti 0])]⟩) ?_
  refine V_sreg (mb 2 1) [0] (s1 := ⟨.pt 0 0 :: .bot :: [], [(0, .box [Ti 1, Ti 0, Ti 0, Ti 1])]⟩) ?_ ?_
  ·refine L0 rfl rfl (Y0_build (cs := [Ti 1, Ti 0, Ti 0, Ti 1]) pl110 bt110 rfl rfl (by kernel_rfl)) ?_
   exact XE
  refine V_ret ?_
  obtain rfl := some_inj h
  show Post _ _ _ _ _
  exact ⟨.inr rfl, rfl, rfl, rfl⟩
theorem cf_impl_Form_isCyclic : ∀ args w, (callFunc 226 args).run Try.prog w = .ok (.enter 226 args) w := run_callFunc Try.func226 (by kernel_rfl) (by kernel_rfl)
theorem s_impl_Form_isCyclic {f1 : (Int × Int × Int)} {r : Bool} (h : r_impl_Form_isCyclic f1 = some r) : CallS Try.prog 226 [.ag [Ti f1.1, Ti f1.2.1, Ti f1.2.2]] (Bo r) [] := by
  refine CallS_of_text (rs := [.t 2]) (vs := [.tmp 2]) Try.func226 rfl rfl (.cons rfl FitsL.nil) (by decide) 38 rfl ?_
  unfold r_impl_Form_isCyclic at h
  show V _ _ ⟨.ag [Ti f1.1, Ti f1.2.1, Ti f1.2.2] :: bt 37 [], []⟩ _
  refine V_e (mb 38 2) [8] (s1 := ⟨.bot :: .pt 8 0 :: bt 36 [], [(8, .box [Ti f1.1, Ti f1.2.1, Ti f1.2.2])]⟩) ?_
  obtain ⟨y2, hy2, h⟩ := of_bind h
  obtain ⟨y3, hy3, h⟩ := of_bind h
  refine V_sreg (mb 38 10) [8] (s1 := ⟨.bot :: .pt 8 0 :: .bot :: I y3 :: bt 34 [], [(8, .box [Ti f1.1, Ti f1.2.1, Ti f1.2.2])]⟩) ?_ ?_
  ·refine XR 1 ?_
   refine XC (s_impl_Form_disc hy2) cf_impl_Form_disc rfl rfl rfl ?_
   refine XC (s_impl_root hy3) cf_impl_root rfl rfl rfl ?_
   exact XE
  obtain ⟨b7, hb7, h⟩ := of_bind h
  obtain ⟨b10, hb10, h⟩ := of_bind h
  refine V_sdreg [0, 1, 3, 7, 15, 31, 15, 127, 255, 511, 1023, 1023, 3071, 8191, 1023, 17407, 50175, 115711, 262143, 524287, 1048575, 2097151, 4194303, 8388607, 16777215, 2097151, 2097151, 69206015, 236978175, 536870911, 1073741823, 2147483647] 32 (cdm 32 [0, 1, 5, 21, 8277, 8533, 2645, 5461, 21845, 87381, 45676320085, 45636474197, 45640668501, 45656397141, 178607445, 447042901, 1520784725, 5815752021, 22906492245, 91625968981, 366503875925, 191404450178749781, 191408848225260885, 191426440411305301, 191496809155482965, 45785130196096341, 3000933736076629, 7504533363447125, 24393031966086485, 96076792050570581, 384307168202282325, 1537228672809129301]) (mb 38 4) [] (s1 := ⟨.bot :: .bot :: Bo b10 :: bt 35 [], []⟩) (by kernel_rfl) (by kernel_rfl) ?_ ?_
  ·refine DR 4 ?_
   refine DL_split (ltI 0 f1.2.1) (fun hc4 => ?_) (fun hc4 => ?_)
   ·refine DE_0 4 (.pt 8 1) (by kernel_rfl) rfl rfl rfl (gsat_C (ltI 0 f1.2.1) rfl rfl (by kernel_rfl) hc4) (by kernel_rfl) (E_field (.pt 8 1) Try.underlying45 rfl sz3 rfl (by kernel_rfl) (by intro hh; cases hh)) 11 rfl ?_
    refine DE_0 5 (I f1.2.1) (by kernel_rfl) rfl rfl rfl (gsat_C (ltI 0 f1.2.1) rfl rfl (by kernel_rfl) hc4) (by kernel_rfl) (Y0_load1 (c := Ti f1.2.1) (cs := [Ti f1.2.2]) sc3 rfl (by kernel_rfl)) 12 rfl ?_
    refine DE_0 6 (I y3) (by kernel_rfl) rfl rfl rfl (gsat_C (ltI 0 f1.2.1) rfl rfl (by kernel_rfl) hc4) (by kernel_rfl) (E_move (I y3) rfl (by kernel_rfl)) 13 rfl ?_
    refine DE_0 7 (Bo (leI f1.2.1 y3)) (by kernel_rfl) rfl rfl rfl (gsat_C (ltI 0 f1.2.1) rfl rfl (by kernel_rfl) hc4) (by kernel_rfl) (Y0_lew (k := .i64) (a := f1.2.1) (b := y3) rfl (by kernel_rfl) (by kernel_rfl)) 14 rfl ?_
    refine DE_0 8 (Bo (bif (ltI 0 f1.2.1) then (leI f1.2.1 y3) else false)) (by kernel_rfl) rfl rfl rfl (gsat_none rfl) (by kernel_rfl) (Y0_pick1 (b := ltI 0 f1.2.1) (p := leI f1.2.1 y3) (q := false) rfl (by kernel_rfl) hc4 (by kernel_rfl)) 15 rfl ?_
    refine DR 1 ?_
    refine DL_split (bif (ltI 0 f1.2.1) then (leI f1.2.1 y3) else false) (fun hc5 => ?_) (fun hc5 => ?_)
    ·have hb7 := of_true hb7 hc5
     obtain ⟨y6, hy6, hb7⟩ := of_bind hb7
     have hb7 := some_inj hb7
     refine DE_0 10 (I y3) (by kernel_rfl) rfl rfl rfl (gsat_C (bif (ltI 0 f1.2.1) then (leI f1.2.1 y3) else false) rfl rfl (by kernel_rfl) hc5) (by kernel_rfl) (E_move (I y3) rfl (by kernel_rfl)) 17 rfl ?_
     refine DE_0 11 (.pt 8 1) (by kernel_rfl) rfl rfl rfl (gsat_C (bif (ltI 0 f1.2.1) then (leI f1.2.1 y3) else false) rfl rfl (by kernel_rfl) hc5) (by kernel_rfl) (E_field (.pt 8 1) Try.underlying45 rfl sz3 rfl (by kernel_rfl) (by intro hh; cases hh)) 18 rfl ?_
     refine DE_0 12 (I f1.2.1) (by kernel_rfl) rfl rfl rfl (gsat_C (bif (ltI 0 f1.2.1) then (leI f1.2.1 y3) else false) rfl rfl (by kernel_rfl) hc5) (by kernel_rfl) (Y0_load1 (c := Ti f1.2.1) (cs := [Ti f1.2.2]) sc3 rfl (by kernel_rfl)) 19 rfl ?_
     refine DE_0 13 (I (w64 (y3 - f1.2.1))) (by kernel_rfl) rfl rfl rfl (gsat_C (bif (ltI 0 f1.2.1) then (leI f1.2.1 y3) else false) rfl rfl (by kernel_rfl) hc5) (by kernel_rfl) (Y0_sub64 (a := y3) (b := f1.2.1) rfl (by kernel_rfl) (by kernel_rfl)) 20 rfl ?_
     refine DE_0 14 (.pt 8 0) (by kernel_rfl) rfl rfl rfl (gsat_C (bif (ltI 0 f1.2.1) then (leI f1.2.1 y3) else false) rfl rfl (by kernel_rfl) hc5) (by kernel_rfl) (E_field (.pt 8 0) Try.underlying45 rfl sz3 rfl (by kernel_rfl) (by intro hh; cases hh)) 21 rfl ?_
     refine DE_0 15 (I f1.1) (by kernel_rfl) rfl rfl rfl (gsat_C (bif (ltI 0 f1.2.1) then (leI f1.2.1 y3) else false) rfl rfl (by kernel_rfl) hc5) (by kernel_rfl) (Y0_load1 (c := Ti f1.1) (cs := [Ti f1.2.1, Ti f1.2.2]) sc3 rfl (by kernel_rfl)) 22 rfl ?_
     refine DE_1 16 (by kernel_rfl) rfl rfl rfl (gsat_C (bif (ltI 0 f1.2.1) then (leI f1.2.1 y3) else false) rfl rfl (by kernel_rfl) hc5) (Y1_call (s_impl_abs hy6) cf_impl_abs rfl (by kernel_rfl)) rfl rfl rfl 23 rfl ?_
     refine DE_0 17 (I (w64 (2 * y6))) (by kernel_rfl) rfl rfl rfl (gsat_C (bif (ltI 0 f1.2.1) then (leI f1.2.1 y3) else false) rfl rfl (by kernel_rfl) hc5) (by kernel_rfl) (Y0_mul64 (a := 2) (b := y6) rfl (by kernel_rfl) (by kernel_rfl)) 24 rfl ?_
     refine DE_0 18 (Bo (ltI (w64 (y3 - f1.2.1)) (w64 (2 * y6)))) (by kernel_rfl) rfl rfl rfl (gsat_C (bif (ltI 0 f1.2.1) then (leI f1.2.1 y3) else false) rfl rfl (by kernel_rfl) hc5) (by kernel_rfl) (Y0_ltw (k := .i64) (a := w64 (y3 - f1.2.1)) (b := w64 (2 * y6)) rfl (by kernel_rfl) (by kernel_rfl)) 25 rfl ?_
     refine DE_0 19 (Bo (b7)) (by kernel_rfl) rfl rfl rfl (gsat_none rfl) (by kernel_rfl) (Y0_pickTe (b := bif (ltI 0 f1.2.1) then (leI f1.2.1 y3) else false) (p := ltI (w64 (y3 - f1.2.1)) (w64 (2 * y6))) rfl (by kernel_rfl) hc5 (by kernel_rfl) hb7) 26 rfl ?_
     refine DR 1 ?_
     refine DL_split b7 (fun hc8 => ?_) (fun hc8 => ?_)
     ·have hb10 := of_true hb10 hc8
      obtain ⟨y9, hy9, hb10⟩ := of_bind hb10
      have hb10 := some_inj hb10
      refine DE_0 21 (.pt 8 0) (by kernel_rfl) rfl rfl rfl (gsat_C (b7) rfl rfl (by kernel_rfl) hc8) (by kernel_rfl) (E_field (.pt 8 0) Try.underlying45 rfl sz3 rfl (by kernel_rfl) (by intro hh; cases hh)) 28 rfl ?_
      refine DE_0 22 (I f1.1) (by kernel_rfl) rfl rfl rfl (gsat_C (b7) rfl rfl (by kernel_rfl) hc8) (by kernel_rfl) (Y0_load1 (c := Ti f1.1) (cs := [Ti f1.2.1, Ti f1.2.2]) sc3 rfl (by kernel_rfl)) 29 rfl ?_
      refine DE_1 23 (by kernel_rfl) rfl rfl rfl (gsat_C (b7) rfl rfl (by kernel_rfl) hc8) (Y1_call (s_impl_abs hy9) cf_impl_abs rfl (by kernel_rfl)) rfl rfl rfl 30 rfl ?_
      refine DE_0 24 (I (w64 (2 * y9))) (by kernel_rfl) rfl rfl rfl (gsat_C (b7) rfl rfl (by kernel_rfl) hc8) (by kernel_rfl) (Y0_mul64 (a := 2) (b := y9) rfl (by kernel_rfl) (by kernel_rfl)) 31 rfl ?_
      refine DE_0 25 (I y3) (by kernel_rfl) rfl rfl rfl (gsat_C (b7) rfl rfl (by kernel_rfl) hc8) (by kernel_rfl) (E_move (I y3) rfl (by kernel_rfl)) 32 rfl ?_
      refine DE_0 26 (.pt 8 1) (by kernel_rfl) rfl rfl rfl (gsat_C (b7) rfl rfl (by kernel_rfl) hc8) (by kernel_rfl) (E_field (.pt 8 1) Try.underlying45 rfl sz3 rfl (by kernel_rfl) (by intro hh; cases hh)) 33 rfl ?_
      refine DE_0 27 (I f1.2.1) (by kernel_rfl) rfl rfl rfl (gsat_C (b7) rfl rfl (by kernel_rfl) hc8) (by kernel_rfl) (Y0_load1 (c := Ti f1.2.1) (cs := [Ti f1.2.2]) sc3 rfl (by kernel_rfl)) 34 rfl ?_
      refine DE_0 28 (I (w64 (y3 + f1.2.1))) (by kernel_rfl) rfl rfl rfl (gsat_C (b7) rfl rfl (by kernel_rfl) hc8) (by kernel_rfl) (Y0_add64 (a := y3) (b := f1.2.1) rfl (by kernel_rfl) (by kernel_rfl)) 35 rfl ?_
      refine DE_0 29 (Bo (leI (w64 (2 * y9)) (w64 (y3 + f1.2.1)))) (by kernel_rfl) rfl rfl rfl (gsat_C (b7) rfl rfl (by kernel_rfl) hc8) (by kernel_rfl) (Y0_lew (k := .i64) (a := w64 (2 * y9)) (b := w64 (y3 + f1.2.1)) rfl (by kernel_rfl) (by kernel_rfl)) 36 rfl ?_
      refine DE_0 30 (Bo (b10)) (by kernel_rfl) rfl rfl rfl (gsat_none rfl) (by kernel_rfl) (Y0_pickTe (b := b7) (p := leI (w64 (2 * y9)) (w64 (y3 + f1.2.1))) rfl (by kernel_rfl) hc8 (by kernel_rfl) hb10) 37 rfl ?_
      refine DA 1 ?_
      exact XE
     ·have hb10 := some_inj (of_false hb10 hc8)
      refine DE_t 21 (by kernel_rfl) rfl rfl rfl (gun_T (b7) rfl rfl (by kernel_rfl) hc8) 28 rfl ?_
      refine DE_t 22 (by kernel_rfl) rfl rfl rfl (gun_T (b7) rfl rfl (by kernel_rfl) hc8) 29 rfl ?_
      refine DE_t 23 (by kernel_rfl) rfl rfl rfl (gun_T (b7) rfl rfl (by kernel_rfl) hc8) 30 rfl ?_
      refine DE_t 24 (by kernel_rfl) rfl rfl rfl (gun_T (b7) rfl rfl (by kernel_rfl) hc8) 31 rfl ?_
      refine DE_t 25 (by kernel_rfl) rfl rfl rfl (gun_T (b7) rfl rfl (by kernel_rfl) hc8) 32 rfl ?_
      refine DE_t 26 (by kernel_rfl) rfl rfl rfl (gun_T (b7) rfl rfl (by kernel_rfl) hc8) 33 rfl ?_
      refine DE_t 27 (by kernel_rfl) rfl rfl rfl (gun_T (b7) rfl rfl (by kernel_rfl) hc8) 34 rfl ?_
      refine DE_t 28 (by kernel_rfl) rfl rfl rfl (gun_T (b7) rfl rfl (by kernel_rfl) hc8) 35 rfl ?_
      refine DE_t 29 (by kernel_rfl) rfl rfl rfl (gun_T (b7) rfl rfl (by kernel_rfl) hc8) 36 rfl ?_
      refine DE_0 30 (Bo (b10)) (by kernel_rfl) rfl rfl rfl (gsat_none rfl) (by kernel_rfl) (Y0_pickFe (b := b7) (p := false) rfl (by kernel_rfl) hc8 (by kernel_rfl) hb10) 37 rfl ?_
      refine DA 1 ?_
      exact XE
    ·have hb7 := some_inj (of_false hb7 hc5)
     refine DE_t 10 (by kernel_rfl) rfl rfl rfl (gun_T (bif (ltI 0 f1.2.1) then (leI f1.2.1 y3) else false) rfl rfl (by kernel_rfl) hc5) 17 rfl ?_
     refine DE_t 11 (by kernel_rfl) rfl rfl rfl (gun_T (bif (ltI 0 f1.2.1) then (leI f1.2.1 y3) else false) rfl rfl (by kernel_rfl) hc5) 18 rfl ?_
     refine DE_t 12 (by kernel_rfl) rfl rfl rfl (gun_T (bif (ltI 0 f1.2.1) then (leI f1.2.1 y3) else false) rfl rfl (by kernel_rfl) hc5) 19 rfl ?_
     refine DE_t 13 (by kernel_rfl) rfl rfl rfl (gun_T (bif (ltI 0 f1.2.1) then (leI f1.2.1 y3) else false) rfl rfl (by kernel_rfl) hc5) 20 rfl ?_
     refine DE_t 14 (by kernel_rfl) rfl rfl rfl (gun_T (bif (ltI 0 f1.2.1) then (leI f1.2.1 y3) else false) rfl rfl (by kernel_rfl) hc5) 21 rfl ?_
     refine DE_t 15 (by kernel_rfl) rfl rfl rfl (gun_T (bif (ltI 0 f1.2.1) then (leI f1.2.1 y3) else false) rfl rfl (by kernel_rfl) hc5) 22 rfl ?_
     refine DE_t 16 (by kernel_rfl) rfl rfl rfl (gun_T (bif (ltI 0 f1.2.1) then (leI f1.2.1 y3) else false) rfl rfl (by kernel_rfl) hc5) 23 rfl ?_
     refine DE_t 17 (by kernel_rfl) rfl rfl rfl (gun_T (bif (ltI 0 f1.2.1) then (leI f1.2.1 y3) else false) rfl rfl (by kernel_rfl) hc5) 24 rfl ?_
     refine DE_t 18 (by kernel_rfl) rfl rfl rfl (gun_T (bif (ltI 0 f1.2.1) then (leI f1.2.1 y3) else false) rfl rfl (by kernel_rfl) hc5) 25 rfl ?_
     refine DE_0 19 (Bo (b7)) (by kernel_rfl) rfl rfl rfl (gsat_none rfl) (by kernel_rfl) (Y0_pickFe (b := bif (ltI 0 f1.2.1) then (leI f1.2.1 y3) else false) (p := false) rfl (by kernel_rfl) hc5 (by kernel_rfl) hb7) 26 rfl ?_
     refine DR 1 ?_
     refine DL_split b7 (fun hc8 => ?_) (fun hc8 => ?_)
     ·have hb10 := of_true hb10 hc8
      obtain ⟨y9, hy9, hb10⟩ := of_bind hb10
      have hb10 := some_inj hb10
      refine DE_0 21 (.pt 8 0) (by kernel_rfl) rfl rfl rfl (gsat_C (b7) rfl rfl (by kernel_rfl) hc8) (by kernel_rfl) (E_field (.pt 8 0) Try.underlying45 rfl sz3 rfl (by kernel_rfl) (by intro hh; cases hh)) 28 rfl ?_
      refine DE_0 22 (I f1.1) (by kernel_rfl) rfl rfl rfl (gsat_C (b7) rfl rfl (by kernel_rfl) hc8) (by kernel_rfl) (Y0_load1 (c := Ti f1.1) (cs := [Ti f1.2.1, Ti f1.2.2]) sc3 rfl (by kernel_rfl)) 29 rfl ?_
      refine DE_1 23 (by kernel_rfl) rfl rfl rfl (gsat_C (b7) rfl rfl (by kernel_rfl) hc8) (Y1_call (s_impl_abs hy9) cf_impl_abs rfl (by kernel_rfl)) rfl rfl rfl 30 rfl ?_
      refine DE_0 24 (I (w64 (2 * y9))) (by kernel_rfl) rfl rfl rfl (gsat_C (b7) rfl rfl (by kernel_rfl) hc8) (by kernel_rfl) (Y0_mul64 (a := 2) (b := y9) rfl (by kernel_rfl) (by kernel_rfl)) 31 rfl ?_
      refine DE_0 25 (I y3) (by kernel_rfl) rfl rfl rfl (gsat_C (b7) rfl rfl (by kernel_rfl) hc8) (by kernel_rfl) (E_move (I y3) rfl (by kernel_rfl)) 32 rfl ?_
      refine DE_0 26 (.pt 8 1) (by kernel_rfl) rfl rfl rfl (gsat_C (b7) rfl rfl (by kernel_rfl) hc8) (by kernel_rfl) (E_field (.pt 8 1) Try.underlying45 rfl sz3 rfl (by kernel_rfl) (by intro hh; cases hh)) 33 rfl ?_
      refine DE_0 27 (I f1.2.1) (by kernel_rfl) rfl rfl rfl (gsat_C (b7) rfl rfl (by kernel_rfl) hc8) (by kernel_rfl) (Y0_load1 (c := Ti f1.2.1) (cs := [Ti f1.2.2]) sc3 rfl (by kernel_rfl)) 34 rfl ?_
      refine DE_0 28 (I (w64 (y3 + f1.2.1))) (by kernel_rfl) rfl rfl rfl (gsat_C (b7) rfl rfl (by kernel_rfl) hc8) (by kernel_rfl) (Y0_add64 (a := y3) (b := f1.2.1) rfl (by kernel_rfl) (by kernel_rfl)) 35 rfl ?_
      refine DE_0 29 (Bo (leI (w64 (2 * y9)) (w64 (y3 + f1.2.1)))) (by kernel_rfl) rfl rfl rfl (gsat_C (b7) rfl rfl (by kernel_rfl) hc8) (by kernel_rfl) (Y0_lew (k := .i64) (a := w64 (2 * y9)) (b := w64 (y3 + f1.2.1)) rfl (by kernel_rfl) (by kernel_rfl)) 36 rfl ?_
      refine DE_0 30 (Bo (b10)) (by kernel_rfl) rfl rfl rfl (gsat_none rfl) (by kernel_rfl) (Y0_pickTe (b := b7) (p := leI (w64 (2 * y9)) (w64 (y3 + f1.2.1))) rfl (by kernel_rfl) hc8 (by kernel_rfl) hb10) 37 rfl ?_
      refine DA 1 ?_
      exact XE
     ·have hb10 := some_inj (of_false hb10 hc8)
      refine DE_t 21 (by kernel_rfl) rfl rfl rfl (gun_T (b7) rfl rfl (by kernel_rfl) hc8) 28 rfl ?_
      refine DE_t 22 (by kernel_rfl) rfl rfl rfl (gun_T (b7) rfl rfl (by kernel_rfl) hc8) 29 rfl ?_
      refine DE_t 23 (by kernel_rfl) rfl rfl rfl (gun_T (b7) rfl rfl (by kernel_rfl) hc8) 30 rfl ?_
      refine DE_t 24 (by kernel_rfl) rfl rfl rfl (gun_T (b7) rfl rfl (by kernel_rfl) hc8) 31 rfl ?_
      refine DE_t 25 (by kernel_rfl) rfl rfl rfl (gun_T (b7) rfl rfl (by kernel_rfl) hc8) 32 rfl ?_
      refine DE_t 26 (by kernel_rfl) rfl rfl rfl (gun_T (b7) rfl rfl (by kernel_rfl) hc8) 33 rfl ?_
      refine DE_t 27 (by kernel_rfl) rfl rfl rfl (gun_T (b7) rfl rfl (by kernel_rfl) hc8) 34 rfl ?_
      refine DE_t 28 (by kernel_rfl) rfl rfl rfl (gun_T (b7) rfl rfl (by kernel_rfl) hc8) 35 rfl ?_
      refine DE_t 29 (by kernel_rfl) rfl rfl rfl (gun_T (b7) rfl rfl (by kernel_rfl) hc8) 36 rfl ?_
      refine DE_0 30 (Bo (b10)) (by kernel_rfl) rfl rfl rfl (gsat_none rfl) (by kernel_rfl) (Y0_pickFe (b := b7) (p := false) rfl (by kernel_rfl) hc8 (by kernel_rfl) hb10) 37 rfl ?_
      refine DA 1 ?_
      exact XE
   ·refine DE_t 4 (by kernel_rfl) rfl rfl rfl (gun_T (ltI 0 f1.2.1) rfl rfl (by kernel_rfl) hc4) 11 rfl ?_
    refine DE_t 5 (by kernel_rfl) rfl rfl rfl (gun_T (ltI 0 f1.2.1) rfl rfl (by kernel_rfl) hc4) 12 rfl ?_
    refine DE_t 6 (by kernel_rfl) rfl rfl rfl (gun_T (ltI 0 f1.2.1) rfl rfl (by kernel_rfl) hc4) 13 rfl ?_
    refine DE_t 7 (by kernel_rfl) rfl rfl rfl (gun_T (ltI 0 f1.2.1) rfl rfl (by kernel_rfl) hc4) 14 rfl ?_
    refine DE_0 8 (Bo (bif (ltI 0 f1.2.1) then (leI f1.2.1 y3) else false)) (by kernel_rfl) rfl rfl rfl (gsat_none rfl) (by kernel_rfl) (Y0_pick0 (b := ltI 0 f1.2.1) (p := leI f1.2.1 y3) (q := false) rfl (by kernel_rfl) hc4 (by kernel_rfl)) 15 rfl ?_
    refine DR 1 ?_
    refine DL_split (bif (ltI 0 f1.2.1) then (leI f1.2.1 y3) else false) (fun hc5 => ?_) (fun hc5 => ?_)
    ·have hb7 := of_true hb7 hc5
     obtain ⟨y6, hy6, hb7⟩ := of_bind hb7
     have hb7 := some_inj hb7
     refine DE_0 10 (I y3) (by kernel_rfl) rfl rfl rfl (gsat_C (bif (ltI 0 f1.2.1) then (leI f1.2.1 y3) else false) rfl rfl (by kernel_rfl) hc5) (by kernel_rfl) (E_move (I y3) rfl (by kernel_rfl)) 17 rfl ?_
     refine DE_0 11 (.pt 8 1) (by kernel_rfl) rfl rfl rfl (gsat_C (bif (ltI 0 f1.2.1) then (leI f1.2.1 y3) else false) rfl rfl (by kernel_rfl) hc5) (by kernel_rfl) (E_field (.pt 8 1) Try.underlying45 rfl sz3 rfl (by kernel_rfl) (by intro hh; cases hh)) 18 rfl ?_
     refine DE_0 12 (I f1.2.1) (by kernel_rfl) rfl rfl rfl (gsat_C (bif (ltI 0 f1.2.1) then (leI f1.2.1 y3) else false) rfl rfl (by kernel_rfl) hc5) (by kernel_rfl) (Y0_load1 (c := Ti f1.2.1) (cs := [Ti f1.2.2]) sc3 rfl (by kernel_rfl)) 19 rfl ?_
     refine DE_0 13 (I (w64 (y3 - f1.2.1))) (by kernel_rfl) rfl rfl rfl (gsat_C (bif (ltI 0 f1.2.1) then (leI f1.2.1 y3) else false) rfl rfl (by kernel_rfl) hc5) (by kernel_rfl) (Y0_sub64 (a := y3) (b := f1.2.1) rfl (by kernel_rfl) (by kernel_rfl)) 20 rfl ?_
     refine DE_0 14 (.pt 8 0) (by kernel_rfl) rfl rfl rfl (gsat_C (bif (ltI 0 f1.2.1) then (leI f1.2.1 y3) else false) rfl rfl (by kernel_rfl) hc5) (by kernel_rfl) (E_field (.pt 8 0) Try.underlying45 rfl sz3 rfl (by kernel_rfl) (by intro hh; cases hh)) 21 rfl ?_
     refine DE_0 15 (I f1.1) (by kernel_rfl) rfl rfl rfl (gsat_C (bif (ltI 0 f1.2.1) then (leI f1.2.1 y3) else false) rfl rfl (by kernel_rfl) hc5) (by kernel_rfl) (Y0_load1 (c := Ti f1.1) (cs := [Ti f1.2.1, Ti f1.2.2]) sc3 rfl (by kernel_rfl)) 22 rfl ?_
     refine DE_1 16 (by kernel_rfl) rfl rfl rfl (gsat_C (bif (ltI 0 f1.2.1) then (leI f1.2.1 y3) else false) rfl rfl (by kernel_rfl) hc5) (Y1_call (s_impl_abs hy6) cf_impl_abs rfl (by kernel_rfl)) rfl rfl rfl 23 rfl ?_
     refine DE_0 17 (I (w64 (2 * y6))) (by kernel_rfl) rfl rfl rfl (gsat_C (bif (ltI 0 f1.2.1) then (leI f1.2.1 y3) else false) rfl rfl (by kernel_rfl) hc5) (by kernel_rfl) (Y0_mul64 (a := 2) (b := y6) rfl (by kernel_rfl) (by kernel_rfl)) 24 rfl ?_
     refine DE_0 18 (Bo (ltI (w64 (y3 - f1.2.1)) (w64 (2 * y6)))) (by kernel_rfl) rfl rfl rfl (gsat_C (bif (ltI 0 f1.2.1) then (leI f1.2.1 y3) else false) rfl rfl (by kernel_rfl) hc5) (by kernel_rfl) (Y0_ltw (k := .i64) (a := w64 (y3 - f1.2.1)) (b := w64 (2 * y6)) rfl (by kernel_rfl) (by kernel_rfl)) 25 rfl ?_
     refine DE_0 19 (Bo (b7)) (by kernel_rfl) rfl rfl rfl (gsat_none rfl) (by kernel_rfl) (Y0_pickTe (b := bif (ltI 0 f1.2.1) then (leI f1.2.1 y3) else false) (p := ltI (w64 (y3 - f1.2.1)) (w64 (2 * y6))) rfl (by kernel_rfl) hc5 (by kernel_rfl) hb7) 26 rfl ?_
     refine DR 1 ?_
     refine DL_split b7 (fun hc8 => ?_) (fun hc8 => ?_)
     ·have hb10 := of_true hb10 hc8
      obtain ⟨y9, hy9, hb10⟩ := of_bind hb10
      have hb10 := some_inj hb10
      refine DE_0 21 (.pt 8 0) (by kernel_rfl) rfl rfl rfl (gsat_C (b7) rfl rfl (by kernel_rfl) hc8) (by kernel_rfl) (E_field (.pt 8 0) Try.underlying45 rfl sz3 rfl (by kernel_rfl) (by intro hh; cases hh)) 28 rfl ?_
      refine DE_0 22 (I f1.1) (by kernel_rfl) rfl rfl rfl (gsat_C (b7) rfl rfl (by kernel_rfl) hc8) (by kernel_rfl) (Y0_load1 (c := Ti f1.1) (cs := [Ti f1.2.1, Ti f1.2.2]) sc3 rfl (by kernel_rfl)) 29 rfl ?_
      refine DE_1 23 (by kernel_rfl) rfl rfl rfl (gsat_C (b7) rfl rfl (by kernel_rfl) hc8) (Y1_call (s_impl_abs hy9) cf_impl_abs rfl (by kernel_rfl)) rfl rfl rfl 30 rfl ?_
      refine DE_0 24 (I (w64 (2 * y9))) (by kernel_rfl) rfl rfl rfl (gsat_C (b7) rfl rfl (by kernel_rfl) hc8) (by kernel_rfl) (Y0_mul64 (a := 2) (b := y9) rfl (by kernel_rfl) (by kernel_rfl)) 31 rfl ?_
      refine DE_0 25 (I y3) (by kernel_rfl) rfl rfl rfl (gsat_C (b7) rfl rfl (by kernel_rfl) hc8) (by kernel_rfl) (E_move (I y3) rfl (by kernel_rfl)) 32 rfl ?_
      refine DE_0 26 (.pt 8 1) (by kernel_rfl) rfl rfl rfl (gsat_C (b7) rfl rfl (by kernel_rfl) hc8) (by kernel_rfl) (E_field (.pt 8 1) Try.underlying45 rfl sz3 rfl (by kernel_rfl) (by intro hh; cases hh)) 33 rfl ?_
      refine DE_0 27 (I f1.2.1) (by kernel_rfl) rfl rfl rfl (gsat_C (b7) rfl rfl (by kernel_rfl) hc8) (by kernel_rfl) (Y0_load1 (c := Ti f1.2.1) (cs := [Ti f1.2.2]) sc3 rfl (by kernel_rfl)) 34 rfl ?_
      refine DE_0 28 (I (w64 (y3 + f1.2.1))) (by kernel_rfl) rfl rfl rfl (gsat_C (b7) rfl rfl (by kernel_rfl) hc8) (by kernel_rfl) (Y0_add64 (a := y3) (b := f1.2.1) rfl (by kernel_rfl) (by kernel_rfl)) 35 rfl ?_
      refine DE_0 29 (Bo (leI (w64 (2 * y9)) (w64 (y3 + f1.2.1)))) (by kernel_rfl) rfl rfl rfl (gsat_C (b7) rfl rfl (by kernel_rfl) hc8) (by kernel_rfl) (Y0_lew (k := .i64) (a := w64 (2 * y9)) (b := w64 (y3 + f1.2.1)) rfl (by kernel_rfl) (by kernel_rfl)) 36 rfl ?_
      refine DE_0 30 (Bo (b10)) (by kernel_rfl) rfl rfl rfl (gsat_none rfl) (by kernel_rfl) (Y0_pickTe (b := b7) (p := leI (w64 (2 * y9)) (w64 (y3 + f1.2.1))) rfl (by kernel_rfl) hc8 (by kernel_rfl) hb10) 37 rfl ?_
      refine DA 1 ?_
      exact XE
     ·have hb10 := some_inj (of_false hb10 hc8)
      refine DE_t 21 (by kernel_rfl) rfl rfl rfl (gun_T (b7) rfl rfl (by kernel_rfl) hc8) 28 rfl ?_
      refine DE_t 22 (by kernel_rfl) rfl rfl rfl (gun_T (b7) rfl rfl (by kernel_rfl) hc8) 29 rfl ?_
      refine DE_t 23 (by kernel_rfl) rfl rfl rfl (gun_T (b7) rfl rfl (by kernel_rfl) hc8) 30 rfl ?_
      refine DE_t 24 (by kernel_rfl) rfl rfl rfl (gun_T (b7) rfl rfl (by kernel_rfl) hc8) 31 rfl ?_
      refine DE_t 25 (by kernel_rfl) rfl rfl rfl (gun_T (b7) rfl rfl (by kernel_rfl) hc8) 32 rfl ?_
      refine DE_t 26 (by kernel_rfl) rfl rfl rfl (gun_T (b7) rfl rfl (by kernel_rfl) hc8) 33 rfl ?_
      refine DE_t 27 (by kernel_rfl) rfl rfl rfl (gun_T (b7) rfl rfl (by kernel_rfl) hc8) 34 rfl ?_
      refine DE_t 28 (by kernel_rfl) rfl rfl rfl (gun_T (b7) rfl rfl (by kernel_rfl) hc8) 35 rfl ?_
      refine DE_t 29 (by kernel_rfl) rfl rfl rfl (gun_T (b7) rfl rfl (by kernel_rfl) hc8) 36 rfl ?_
      refine DE_0 30 (Bo (b10)) (by kernel_rfl) rfl rfl rfl (gsat_none rfl) (by kernel_rfl) (Y0_pickFe (b := b7) (p := false) rfl (by kernel_rfl) hc8 (by kernel_rfl) hb10) 37 rfl ?_
      refine DA 1 ?_
      exact XE
    ·have hb7 := some_inj (of_false hb7 hc5)
     refine DE_t 10 (by kernel_rfl) rfl rfl rfl (gun_T (bif (ltI 0 f1.2.1) then (leI f1.2.1 y3) else false) rfl rfl (by kernel_rfl) hc5) 17 rfl ?_
     refine DE_t 11 (by kernel_rfl) rfl rfl rfl (gun_T (bif (ltI 0 f1.2.1) then (leI f1.2.1 y3) else false) rfl rfl (by kernel_rfl) hc5) 18 rfl ?_
     refine DE_t 12 (by kernel_rfl) rfl rfl rfl (gun_T (bif (ltI 0 f1.2.1) then (leI f1.2.1 y3) else false) rfl rfl (by kernel_rfl) hc5) 19 rfl ?_
     refine DE_t 13 (by kernel_rfl) rfl rfl rfl (gun_T (bif (ltI 0 f1.2.1) then (leI f1.2.1 y3) else false) rfl rfl (by kernel_rfl) hc5) 20 rfl ?_
     refine DE_t 14 (by kernel_rfl) rfl rfl rfl (gun_T (bif (ltI 0 f1.2.1) then (leI f1.2.1 y3) else false) rfl rfl (by kernel_rfl) hc5) 21 rfl ?_
     refine DE_t 15 (by kernel_rfl) rfl rfl rfl (gun_T (bif (ltI 0 f1.2.1) then (leI f1.2.1 y3) else false) rfl rfl (by kernel_rfl) hc5) 22 rfl ?_
     refine DE_t 16 (by kernel_rfl) rfl rfl rfl (gun_T (bif (ltI 0 f1.2.1) then (leI f1.2.1 y3) else false) rfl rfl (by kernel_rfl) hc5) 23 rfl ?_
     refine DE_t 17 (by kernel_rfl) rfl rfl rfl (gun_T (bif (ltI 0 f1.2.1) then (leI f1.2.1 y3) else false) rfl rfl (by kernel_rfl) hc5) 24 rfl ?_
     refine DE_t 18 (by kernel_rfl) rfl rfl rfl (gun_T (bif (ltI 0 f1.2.1) then (leI f1.2.1 y3) else false) rfl rfl (by kernel_rfl) hc5) 25 rfl ?_
     refine DE_0 19 (Bo (b7)) (by kernel_rfl) rfl rfl rfl (gsat_none rfl) (by kernel_rfl) (Y0_pickFe (b := bif (ltI 0 f1.2.1) then (leI f1.2.1 y3) else false) (p := false) rfl (by kernel_rfl) hc5 (by kernel_rfl) hb7) 26 rfl ?_
     refine DR 1 ?_
     refine DL_split b7 (fun hc8 => ?_) (fun hc8 => ?_)
     ·have hb10 := of_true hb10 hc8
      obtain ⟨y9, hy9, hb10⟩ := of_bind hb10
      have hb10 := some_inj hb10
      refine DE_0 21 (.pt 8 0) (by kernel_rfl) rfl rfl rfl (gsat_C (b7) rfl rfl (by kernel_rfl) hc8) (by kernel_rfl) (E_field (.pt 8 0) Try.underlying45 rfl sz3 rfl (by kernel_rfl) (by intro hh; cases hh)) 28 rfl ?_
      refine DE_0 22 (I f1.1) (by kernel_rfl) rfl rfl rfl (gsat_C (b7) rfl rfl (by kernel_rfl) hc8) (by kernel_rfl) (Y0_load1 (c := Ti f1.1) (cs := [Ti f1.2.1, Ti f1.2.2]) sc3 rfl (by kernel_rfl)) 29 rfl ?_
      refine DE_1 23 (by kernel_rfl) rfl rfl rfl (gsat_C (b7) rfl rfl (by kernel_rfl) hc8) (Y1_call (s_impl_abs hy9) cf_impl_abs rfl (by kernel_rfl)) rfl rfl rfl 30 rfl ?_
      refine DE_0 24 (I (w64 (2 * y9))) (by kernel_rfl) rfl rfl rfl (gsat_C (b7) rfl rfl (by kernel_rfl) hc8) (by kernel_rfl) (Y0_mul64 (a := 2) (b := y9) rfl (by kernel_rfl) (by kernel_rfl)) 31 rfl ?_
      refine DE_0 25 (I y3) (by kernel_rfl) rfl rfl rfl (gsat_C (b7) rfl rfl (by kernel_rfl) hc8) (by kernel_rfl) (E_move (I y3) rfl (by kernel_rfl)) 32 rfl ?_
      refine DE_0 26 (.pt 8 1) (by kernel_rfl) rfl rfl rfl (gsat_C (b7) rfl rfl (by kernel_rfl) hc8) (by kernel_rfl) (E_field (.pt 8 1) Try.underlying45 rfl sz3 rfl (by kernel_rfl) (by intro hh; cases hh)) 33 rfl ?_
      refine DE_0 27 (I f1.2.1) (by kernel_rfl) rfl rfl rfl (gsat_C (b7) rfl rfl (by kernel_rfl) hc8) (by kernel_rfl) (Y0_load1 (c := Ti f1.2.1) (cs := [Ti f1.2.2]) sc3 rfl (by kernel_rfl)) 34 rfl ?_
      refine DE_0 28 (I (w64 (y3 + f1.2.1))) (by kernel_rfl) rfl rfl rfl (gsat_C (b7) rfl rfl (by kernel_rfl) hc8) (by kernel_rfl) (Y0_add64 (a := y3) (b := f1.2.1) rfl (by kernel_rfl) (by kernel_rfl)) 35 rfl ?_
      refine DE_0 29 (Bo (leI (w64 (2 * y9)) (w64 (y3 + f1.2.1)))) (by kernel_rfl) rfl rfl rfl (gsat_C (b7) rfl rfl (by kernel_rfl) hc8) (by kernel_rfl) (Y0_lew (k := .i64) (a := w64 (2 * y9)) (b := w64 (y3 + f1.2.1)) rfl (by kernel_rfl) (by kernel_rfl)) 36 rfl ?_
      refine DE_0 30 (Bo (b10)) (by kernel_rfl) rfl rfl rfl (gsat_none rfl) (by kernel_rfl) (Y0_pickTe (b := b7) (p := leI (w64 (2 * y9)) (w64 (y3 + f1.2.1))) rfl (by kernel_rfl) hc8 (by kernel_rfl) hb10) 37 rfl ?_
      refine DA 1 ?_
      exact XE
     ·have hb10 := some_inj (of_false hb10 hc8)
      refine DE_t 21 (by kernel_rfl) rfl rfl rfl (gun_T (b7) rfl rfl (by kernel_rfl) hc8) 28 rfl ?_
      refine DE_t 22 (by kernel_rfl) rfl rfl rfl (gun_T (b7) rfl rfl (by kernel_rfl) hc8) 29 rfl ?_
      refine DE_t 23 (by kernel_rfl) rfl rfl rfl (gun_T (b7) rfl rfl (by kernel_rfl) hc8) 30 rfl ?_
      refine DE_t 24 (by kernel_rfl) rfl rfl rfl (gun_T (b7) rfl rfl (by kernel_rfl) hc8) 31 rfl ?_
      refine DE_t 25 (by kernel_rfl) rfl rfl rfl (gun_T (b7) rfl rfl (by kernel_rfl) hc8) 32 rfl ?_
      refine DE_t 26 (by kernel_rfl) rfl rfl rfl (gun_T (b7) rfl rfl (by kernel_rfl) hc8) 33 rfl ?_
      refine DE_t 27 (by kernel_rfl) rfl rfl rfl (gun_T (b7) rfl rfl (by kernel_rfl) hc8) 34 rfl ?_
      refine DE_t 28 (by kernel_rfl) rfl rfl rfl (gun_T (b7) rfl rfl (by kernel_rfl) hc8) 35 rfl ?_
      refine DE_t 29 (by kernel_rfl) rfl rfl rfl (gun_T (b7) rfl rfl (by kernel_rfl) hc8) 36 rfl ?_
      refine DE_0 30 (Bo (b10)) (by kernel_rfl) rfl rfl rfl (gsat_none rfl) (by kernel_rfl) (Y0_pickFe (b := b7) (p := false) rfl (by kernel_rfl) hc8 (by kernel_rfl) hb10) 37 rfl ?_
      refine DA 1 ?_
      exact XE
  refine V_ret ?_
  obtain rfl := some_inj h
  show Post _ _ _ _ _
  exact ⟨.inr rfl, rfl, rfl, rfl⟩
theorem cf_impl_Form_neighbour : ∀ args w, (callFunc 182 args).run Try.prog w = .ok (.enter 182 args) w := run_callFunc Try.func182 (by kernel_rfl) (by kernel_rfl)
theorem s_impl_Form_neighbour {f1 : (Int × Int × Int)} {r : (((Int × Int × Int)) × ((Int × Int × Int × Int)))} (h : r_impl_Form_neighbour f1 = some r) : CallS Try.prog 182 [.ag [Ti f1.1, Ti f1.2.1, Ti f1.2.2]] (.tc (.ag [Ti r.1.1, Ti r.1.2.1, Ti r.1.2.2]) (.tc (.ag [Ti r.2.1, Ti r.2.2.1, Ti r.2.2.2.1, Ti r.2.2.2.2]) .tn)) [] := by
  refine CallS_of_text (rs := [.w 2 3, .w 3 4]) (vs := [.cell 2 45, .cell 3 110]) Try.func182 rfl rfl (.cons ⟨rfl, wd45⟩ (.cons ⟨rfl, wd110⟩ FitsL.nil)) (by decide) 52 rfl ?_
  unfold r_impl_Form_neighbour at h
  show V _ _ ⟨.ag [Ti f1.1, Ti f1.2.1, Ti f1.2.2] :: bt 51 [], []⟩ _
  refine V_e (mb 52 14) [24, 16, 8] (s1 := ⟨.bot :: .pt 8 0 :: .pt 16 0 :: .pt 24 0 :: bt 48 [], [(24, .box [Ti 0, Ti 0, Ti 0, Ti 0]), (16, .box [Ti 0, Ti 0, Ti 0]), (8, .box [Ti f1.1, Ti f1.2.1, Ti f1.2.2])]⟩) ?_
  obtain ⟨y2, hy2, h⟩ := of_bind h
  refine V_sreg (mb 52 30) [24, 16, 8] (s1 := ⟨.bot :: .pt 8 0 :: .pt 16 0 :: .pt 24 0 :: I y2 :: bt 47 [], [(24, .box [Ti 0, Ti 0, Ti 0, Ti 0]), (16, .box [Ti 0, Ti 0, Ti 0]), (8, .box [Ti f1.1, Ti f1.2.1, Ti f1.2.2])]⟩) ?_ ?_
  ·refine XR 1 ?_
   refine XC (s_impl_Form_disc hy2) cf_impl_Form_disc rfl rfl rfl ?_
   exact XE
  obtain ⟨y3, hy3, h⟩ := of_bind h
  refine V_sreg (mb 52 62) [24, 16, 8] (s1 := ⟨.bot :: .pt 8 0 :: .pt 16 0 :: .pt 24 0 :: I y2 :: I y3 :: bt 46 [], [(24, .box [Ti 0, Ti 0, Ti 0, Ti 0]), (16, .box [Ti 0, Ti 0, Ti 0]), (8, .box [Ti f1.1, Ti f1.2.1, Ti f1.2.2])]⟩) ?_ ?_
  ·refine XR 2 ?_
   refine XC (s_impl_abs hy3) cf_impl_abs rfl rfl rfl ?_
   exact XE
  refine V_e (mb 52 126) [24, 16, 8] (s1 := ⟨.bot :: .pt 8 0 :: .pt 16 0 :: .pt 24 0 :: I y2 :: I y3 :: I y3 :: bt 45 [], [(24, .box [Ti 0, Ti 0, Ti 0, Ti 0]), (16, .box [Ti 0, Ti 0, Ti 0]), (8, .box [Ti f1.1, Ti f1.2.1, Ti f1.2.2])]⟩) ?_
  obtain ⟨j4, hj4, h⟩ := of_bind h
  refine V_cutK (mb 52 126) [24, 16, 8] (s1 := ⟨.bot :: .pt 8 0 :: .pt 16 0 :: .pt 24 0 :: I y2 :: I y3 :: I j4 :: bt 45 [], [(24, .box [Ti 0, Ti 0, Ti 0, Ti 0]), (16, .box [Ti 0, Ti 0, Ti 0]), (8, .box [Ti f1.1, Ti f1.2.1, Ti f1.2.2])]⟩) ?_ ?_
  ·clear h
   have h := hj4
   clear hj4
   obtain ⟨y5, hy5, h⟩ := of_bind h
   refine V_sreg (mb 52 254) [24, 16, 8] (s1 := ⟨.bot :: .pt 8 0 :: .pt 16 0 :: .pt 24 0 :: I y2 :: I y3 :: I y3 :: I y5 :: bt 44 [], [(24, .box [Ti 0, Ti 0, Ti 0, Ti 0]), (16, .box [Ti 0, Ti 0, Ti 0]), (8, .box [Ti f1.1, Ti f1.2.1, Ti f1.2.2])]⟩) ?_ ?_
   ·refine XR 1 ?_
    refine XC (s_impl_root hy5) cf_impl_root rfl rfl rfl ?_
    exact XE
   refine V_e (mb 52 524542) [24, 16, 8] (s1 := ⟨.bot :: .pt 8 0 :: .pt 16 0 :: .pt 24 0 :: I y2 :: I y3 :: I y3 :: I y5 :: bt 11 (Bo (leI y3 y5) :: bt 32 []), [(24, .box [Ti 0, Ti 0, Ti 0, Ti 0]), (16, .box [Ti 0, Ti 0, Ti 0]), (8, .box [Ti f1.1, Ti f1.2.1, Ti f1.2.2])]⟩) ?_
   refine V_cond rfl (fun hc6 => ?_) (fun hc6 => ?_)
   ·have h := of_true h hc6
    refine V_reg (mb 52 126) [24, 16, 8] (s1 := ⟨.bot :: .pt 8 0 :: .pt 16 0 :: .pt 24 0 :: I y2 :: I y3 :: I y5 :: bt 45 [], [(24, .box [Ti 0, Ti 0, Ti 0, Ti 0]), (16, .box [Ti 0, Ti 0, Ti 0]), (8, .box [Ti f1.1, Ti f1.2.1, Ti f1.2.2])]⟩) ?_ ?_
    ·exact XE
    obtain rfl := some_inj h
    show St.keep _ _ _ = _
    rfl
   ·have h := of_false h hc6
    refine V_skip ?_
    obtain rfl := some_inj h
    show St.keep _ _ _ = _
    rfl
  obtain ⟨y7, hy7, h⟩ := of_bind h
  obtain ⟨b8, hb8, h⟩ := of_sI h
  refine V_sreg (mb 52 286) [24, 16, 8] (s1 := ⟨.bot :: .pt 8 0 :: .pt 16 0 :: .pt 24 0 :: I y2 :: bt 3 (I b8 :: bt 43 []), [(24, .box [Ti 0, Ti 0, Ti 0, Ti 0]), (16, .box [Ti 0, Ti 0, Ti 0]), (8, .box [Ti f1.1, Ti f1.2.1, Ti f1.2.2])]⟩) ?_ ?_
  ·refine XR 7 ?_
   refine XC (s_impl_mod hy7) cf_impl_mod rfl rfl rfl ?_
   refine XR 2 ?_
   refine XL_nil ?_
   subst hb8
   kernel_rfl
  obtain ⟨z9, hz9, h⟩ := of_bind h
  obtain ⟨z10, hz10, h⟩ := of_bind h
  obtain ⟨f11, hf11, h⟩ := of_sI h
  obtain ⟨f12, hf12, h⟩ := of_sI h
  refine V_sdreg [0, 1, 0, 0, 0, 24, 0, 120, 0, 256, 768, 2040, 4095, 0, 8192, 0, 57344, 0, 131072, 393216, 1040384, 2088960, 8191, 8388607] 23 [[.z, .z, .b, .b, .b, .b, .b, .b, .b, .b, .b, .b, .z, .b, .b, .b, .b, .b, .b, .b, .b, .b, .z], [.a, .z, .b, .b, .b, .b, .b, .b, .b, .b, .b, .b, .z, .b, .b, .b, .b, .b, .b, .b, .b, .b, .z], [.b, .b, .z, .b, .b, .b, .b, .b, .b, .b, .b, .b, .z, .b, .b, .b, .b, .b, .b, .b, .b, .b, .z], [.b, .b, .b, .z, .b, .z, .b, .z, .b, .b, .b, .z, .z, .b, .b, .b, .b, .b, .b, .b, .b, .b, .z], [.b, .b, .b, .b, .z, .z, .b, .z, .b, .b, .b, .z, .z, .b, .b, .b, .b, .b, .b, .b, .b, .b, .z], [.b, .b, .b, .a, .a, .z, .b, .z, .b, .b, .b, .z, .z, .b, .b, .b, .b, .b, .b, .b, .b, .b, .z], [.b, .b, .b, .b, .b, .b, .z, .z, .b, .b, .b, .z, .z, .b, .b, .b, .b, .b, .b, .b, .b, .b, .z], [.b, .b, .b, .a, .a, .a, .a, .z, .b, .b, .b, .z, .z, .b, .b, .b, .b, .b, .b, .b, .b, .b, .z], [.b, .b, .b, .b, .b, .b, .b, .b, .z, .z, .z, .z, .z, .b, .b, .b, .b, .b, .b, .b, .b, .b, .z], [.b, .b, .b, .b, .b, .b, .b, .b, .a, .z, .z, .z, .z, .b, .b, .b, .b, .b, .b, .b, .b, .b, .z], [.b, .b, .b, .b, .b, .b, .b, .b, .a, .a, .z, .z, .z, .b, .b, .b, .b, .b, .b, .b, .b, .b, .z], [.b, .b, .b, .a, .a, .a, .a, .a, .a, .a, .a, .z, .z, .b, .b, .b, .b, .b, .b, .b, .b, .b, .z], [.a, .a, .a, .a, .a, .a, .a, .a, .a, .a, .a, .a, .z, .b, .b, .b, .b, .b, .b, .b, .b, .b, .z], [.b, .b, .b, .b, .b, .b, .b, .b, .b, .b, .b, .b, .b, .z, .z, .b, .z, .b, .b, .b, .z, .z, .r 16], [.b, .b, .b, .b, .b, .b, .b, .b, .b, .b, .b, .b, .b, .a, .z, .b, .z, .b, .b, .b, .z, .z, .r 16], [.b, .b, .b, .b, .b, .b, .b, .b, .b, .b, .b, .b, .b, .b, .b, .z, .z, .b, .b, .b, .z, .z, .r 16], [.b, .b, .b, .b, .b, .b, .b, .b, .b, .b, .b, .b, .b, .a, .a, .a, .z, .b, .b, .b, .z, .z, .r 16], [.b, .b, .b, .b, .b, .b, .b, .b, .b, .b, .b, .b, .b, .b, .b, .b, .b, .z, .z, .z, .z, .z, .r 16], [.b, .b, .b, .b, .b, .b, .b, .b, .b, .b, .b, .b, .b, .b, .b, .b, .b, .a, .z, .z, .z, .z, .r 16], [.b, .b, .b, .b, .b, .b, .b, .b, .b, .b, .b, .b, .b, .b, .b, .b, .b, .a, .a, .z, .z, .z, .r 16], [.b, .b, .b, .b, .b, .b, .b, .b, .b, .b, .b, .b, .b, .a, .a, .a, .a, .a, .a, .a, .z, .z, .r 16], [.b, .b, .b, .b, .b, .b, .b, .b, .b, .b, .b, .b, .b, .a, .a, .a, .a, .a, .a, .a, .a, .z, .r 16], [.a, .a, .a, .a, .a, .a, .a, .a, .a, .a, .a, .a, .a, .b, .b, .b, .b, .b, .b, .b, .b, .b, .z]] (mb 52 12) [24, 16] (s1 := ⟨.bot :: .bot :: .pt 16 0 :: .pt 24 0 :: bt 48 [], [(24, .box [Ti 0, Ti (-1), Ti 1, Ti f11]), (16, .box [Ti f1.2.2, Ti b8, Ti f12])]⟩) (by kernel_rfl) (by kernel_rfl) ?_ ?_
  ·refine DR 11 ?_
   refine DE_0 11 (I (w64 (Int.tdiv (w64 ((w64 (b8 * b8)) - y2)) (w64 (4 * f1.2.2))))) (by kernel_rfl) rfl rfl rfl (gsat_none rfl) (by kernel_rfl) (Y0_quo64 (a := w64 ((w64 (b8 * b8)) - y2)) (b := w64 (4 * f1.2.2)) rfl (by kernel_rfl) (by kernel_rfl) (nz_some hz9)) 41 rfl ?_
   refine DE_0 12 (.ag [Ti f1.2.2, Ti b8, Ti (w64 (Int.tdiv (w64 ((w64 (b8 * b8)) - y2)) (w64 (4 * f1.2.2))))]) (by kernel_rfl) rfl rfl rfl (gsat_none rfl) (by kernel_rfl) (Y0_build (cs := [Ti f1.2.2, Ti b8, Ti (w64 (Int.tdiv (w64 ((w64 (b8 * b8)) - y2)) (w64 (4 * f1.2.2))))]) pl45 bt45 rfl rfl (by kernel_rfl)) 42 rfl ?_
   refine DR 7 ?_
   refine DE_0 20 (I (w64 (Int.tdiv (w64 (f1.2.1 + b8)) (w64 (2 * f1.2.2))))) (by kernel_rfl) rfl rfl rfl (gsat_none rfl) (by kernel_rfl) (Y0_quo64 (a := w64 (f1.2.1 + b8)) (b := w64 (2 * f1.2.2)) rfl (by kernel_rfl) (by kernel_rfl) (nz_some hz10)) 50 rfl ?_
   refine DE_0 21 (.ag [Ti 0, Ti (-1), Ti 1, Ti (w64 (Int.tdiv (w64 (f1.2.1 + b8)) (w64 (2 * f1.2.2))))]) (by kernel_rfl) rfl rfl rfl (gsat_none rfl) (by kernel_rfl) (Y0_build (cs := [Ti 0, Ti (-1), Ti 1, Ti (w64 (Int.tdiv (w64 (f1.2.1 + b8)) (w64 (2 * f1.2.2))))]) pl110 bt110 rfl rfl (by kernel_rfl)) 51 rfl ?_
   refine DA 1 ?_
   refine XR 1 ?_
   refine XL_nil ?_
   subst hf11 hf12
   kernel_rfl
  refine V_ret ?_
  obtain rfl := some_inj h
  show Post _ _ _ _ _
  exact ⟨.inr rfl, rfl, rfl, rfl⟩
theorem cf_impl_IsMatrix : ∀ args w, (callFunc 183 args).run Try.prog w = .ok (.enter 183 args) w := run_callFunc Try.func183 (by kernel_rfl) (by kernel_rfl)
theorem s_impl_IsMatrix {vm1 : (Int × Int × Int × Int)} {r : Bool} (h : r_impl_IsMatrix vm1 = some r) : CallS Try.prog 183 [.ag [Ti vm1.1, Ti vm1.2.1, Ti vm1.2.2.1, Ti vm1.2.2.2]] (Bo r) [] := by
  refine CallS_of_text (rs := [.t 2]) (vs := [.tmp 2]) Try.func183 rfl rfl (.cons rfl FitsL.nil) (by decide) 13 rfl ?_
  unfold r_impl_IsMatrix at h
  show V _ _ ⟨.ag [Ti vm1.1, Ti vm1.2.1, Ti vm1.2.2.1, Ti vm1.2.2.2] :: bt 12 [], []⟩ _
  refine V_e (mb 13 2) [8] (s1 := ⟨.bot :: .pt 8 0 :: bt 11 [], [(8, .box [Ti vm1.1, Ti vm1.2.1, Ti vm1.2.2.1, Ti vm1.2.2.2])]⟩) ?_
  obtain ⟨y2, hy2, h⟩ := of_bind h
  refine V_sreg (mb 13 4) [] (s1 := ⟨.bot :: .bot :: Bo y2 :: bt 10 [], []⟩) ?_ ?_
  ·refine XR 8 ?_
   refine L1 rfl rfl (Y1_bslice (z := zv3) (els := [vm1.1, vm1.2.1, vm1.2.2.1, vm1.2.2.2].map c3) Try.underlying41 iz3 rfl (by decide) rfl (by kernel_rfl) rfl (by simp [c3]) (by decide) (by decide)) ?_
   refine L1 rfl rfl (Y1_callS (s_impl_areNumbers hy2) cf_impl_areNumbers rfl (by kernel_rfl) rfl rfl) ?_
   exact XE
  refine V_ret ?_
  obtain rfl := some_inj h
  show Post _ _ _ _ _
  exact ⟨.inr rfl, rfl, rfl, rfl⟩
theorem cf_impl_NextForm : ∀ args w, (callFunc 227 args).run Try.prog w = .ok (.enter 227 args) w := run_callFunc Try.func227 (by kernel_rfl) (by kernel_rfl)
theorem s_impl_NextForm {f1 : (Int × Int × Int)} {r : (((Int × Int × Int)) × ((Int × Int × Int × Int)) × Bool)} (h : r_impl_NextForm f1 = some r) : CallS Try.prog 227 [.ag [Ti f1.1, Ti f1.2.1, Ti f1.2.2]] (.tc (.ag [Ti r.1.1, Ti r.1.2.1, Ti r.1.2.2]) (.tc (.ag [Ti r.2.1.1, Ti r.2.1.2.1, Ti r.2.1.2.2.1, Ti r.2.1.2.2.2]) (.tc (Bo r.2.2) .tn))) [] := by
  refine CallS_of_text (rs := [.w 2 3, .w 3 4, .t 4]) (vs := [.cell 2 45, .cell 3 110, .tmp 4]) Try.func227 rfl rfl (.cons ⟨rfl, wd45⟩ (.cons ⟨rfl, wd110⟩ (.cons rfl FitsL.nil))) (by decide) 29 rfl ?_
  unfold r_impl_NextForm at h
  show V _ _ ⟨.ag [Ti f1.1, Ti f1.2.1, Ti f1.2.2] :: bt 28 [], []⟩ _
  refine V_e (mb 29 14) [24, 16, 8] (s1 := ⟨.bot :: .pt 8 0 :: .pt 16 0 :: .pt 24 0 :: bt 25 [], [(24, .box [Ti 0, Ti 0, Ti 0, Ti 0]), (16, .box [Ti 0, Ti 0, Ti 0]), (8, .box [Ti f1.1, Ti f1.2.1, Ti f1.2.2])]⟩) ?_
  refine V_seq ?_
  obtain ⟨y2, hy2, h⟩ := of_bind h
  refine V_sreg (mb 29 526) [24, 16, 8] (s1 := ⟨.bot :: .pt 8 0 :: .pt 16 0 :: .pt 24 0 :: bt 5 (Bo (!y2) :: bt 19 []), [(24, .box [Ti 0, Ti 0, Ti 0, Ti 0]), (16, .box [Ti 0, Ti 0, Ti 0]), (8, .box [Ti f1.1, Ti f1.2.1, Ti f1.2.2])]⟩) ?_ ?_
  ·refine XR 1 ?_
   refine XC (s_impl_isIndefinite hy2) cf_impl_isIndefinite rfl rfl rfl ?_
   exact XE
  refine V_cond rfl (fun hc3 => ?_) (fun hc3 => ?_)
  ·have h := of_true h hc3
   refine V_sreg (mb 29 28) [24, 16] (s1 := ⟨.bot :: .bot :: .pt 16 0 :: .pt 24 0 :: Bo false :: bt 24 [], [(24, .box [Ti 0, Ti 0, Ti 0, Ti 0]), (16, .box [Ti 0, Ti 0, Ti 0])]⟩) ?_ ?_
   ·refine L0 rfl rfl (Y0_build (cs := [Ti 0, Ti 0, Ti 0]) pl45 bt45 rfl rfl (by kernel_rfl)) ?_
    refine L0 rfl rfl (Y0_build (cs := [Ti 0, Ti 0, Ti 0, Ti 0]) pl110 bt110 rfl rfl (by kernel_rfl)) ?_
    exact XE
   refine V_ret ?_
   obtain rfl := some_inj h
   show Post _ _ _ _ _
   exact ⟨.inr rfl, rfl, rfl, rfl⟩
  ·have h := of_false h hc3
   refine V_skip ?_
   show V _ _ _ _
   obtain ⟨y4, hy4, h⟩ := of_bind h
   refine V_sreg (mb 29 108) [48, 40, 24, 16] (s1 := ⟨.bot :: .bot :: .pt 16 0 :: .pt 24 0 :: .bot :: .pt 40 0 :: .pt 48 0 :: bt 22 [], [(48, .box [Ti y4.2.1, Ti y4.2.2.1, Ti y4.2.2.2.1, Ti y4.2.2.2.2]), (40, .box [Ti y4.1.1, Ti y4.1.2.1, Ti y4.1.2.2]), (24, .box [Ti 0, Ti 0, Ti 0, Ti 0]), (16, .box [Ti 0, Ti 0, Ti 0])]⟩) ?_ ?_
   ·refine XR 1 ?_
    refine XC (s_impl_Form_neighbour hy4) cf_impl_Form_neighbour rfl rfl rfl ?_
    exact XE
   refine V_seq ?_
   obtain ⟨y5, hy5, h⟩ := of_bind h
   obtain ⟨b8, hb8, h⟩ := of_bind h
   refine V_sreg (mb 29 16777324) [48, 40, 24, 16] (s1 := ⟨.bot :: .bot :: .pt 16 0 :: .pt 24 0 :: .bot :: .pt 40 0 :: .pt 48 0 :: bt 17 (Bo b8 :: bt 4 []), [(48, .box [Ti y4.2.1, Ti y4.2.2.1, Ti y4.2.2.2.1, Ti y4.2.2.2.2]), (40, .box [Ti y4.1.1, Ti y4.1.2.1, Ti y4.1.2.2]), (24, .box [Ti 0, Ti 0, Ti 0, Ti 0]), (16, .box [Ti 0, Ti 0, Ti 0])]⟩) ?_ ?_
   ·refine XR 1 ?_
    refine XC (s_impl_IsForm hy5) cf_impl_IsForm rfl rfl rfl ?_
    refine XR 2 ?_
    refine XL_split (!y5) (fun hc6 => ?_) (fun hc6 => ?_)
    ·have hb8 := some_inj (of_true hb8 hc6)
     refine XL_skipF _ rfl rfl (by kernel_rfl) hc6 rfl ?_
     refine XL_skipF _ rfl rfl (by kernel_rfl) hc6 rfl ?_
     refine XL_skipF _ rfl rfl (by kernel_rfl) hc6 rfl ?_
     refine XL_cons rfl (X_of_Y0 rfl (Y0_pickTe (b := !y5) (p := true) rfl (by kernel_rfl) hc6 (by kernel_rfl) hb8)) ?_
     exact XE
    ·have hb8 := of_false hb8 hc6
     obtain ⟨y7, hy7, hb8⟩ := of_bind hb8
     have hb8 := some_inj hb8
     refine XL_takeC _ rfl rfl (by kernel_rfl) hc6 (X_of_Y0 rfl (E_loadn (cs := [Ti y4.2.1, Ti y4.2.2.1, Ti y4.2.2.2.1, Ti y4.2.2.2.2]) [Ti y4.2.1, Ti y4.2.2.1, Ti y4.2.2.2.1, Ti y4.2.2.2.2] wd110 rfl (by kernel_rfl) (Nat.le_of_ble_eq_true rfl) (by kernel_rfl))) ?_
     refine XL_takeC _ rfl rfl (by kernel_rfl) hc6 (X_of_Y1 rfl (Y1_call (s_impl_IsMatrix hy7) cf_impl_IsMatrix rfl (by kernel_rfl))) ?_
     refine XL_takeC _ rfl rfl (by kernel_rfl) hc6 (X_of_Y0 rfl (Y0_not (b := y7) rfl (by kernel_rfl))) ?_
     refine XL_cons rfl (X_of_Y0 rfl (Y0_pickFe (b := !y5) (p := !y7) rfl (by kernel_rfl) hc6 (by kernel_rfl) hb8)) ?_
     exact XE
   refine V_cond rfl (fun hc9 => ?_) (fun hc9 => ?_)
   ·have h := of_true h hc9
    refine V_sreg (mb 29 28) [24, 16] (s1 := ⟨.bot :: .bot :: .pt 16 0 :: .pt 24 0 :: Bo false :: bt 24 [], [(24, .box [Ti 0, Ti 0, Ti 0, Ti 0]), (16, .box [Ti 0, Ti 0, Ti 0])]⟩) ?_ ?_
    ·refine L0 rfl rfl (Y0_build (cs := [Ti 0, Ti 0, Ti 0]) pl45 bt45 rfl rfl (by kernel_rfl)) ?_
     refine L0 rfl rfl (Y0_build (cs := [Ti 0, Ti 0, Ti 0, Ti 0]) pl110 bt110 rfl rfl (by kernel_rfl)) ?_
     exact XE
    refine V_ret ?_
    obtain rfl := some_inj h
    show Post _ _ _ _ _
    exact ⟨.inr rfl, rfl, rfl, rfl⟩
   ·have h := of_false h hc9
    refine V_skip ?_
    show V _ _ _ _
    refine V_sdreg [0, 0, 1, 7, 15] 3 [[.z, .b, .z], [.b, .z, .r 16], [.a, .b, .z]] (mb 29 28) [24, 16] (s1 := ⟨.bot :: .bot :: .pt 16 0 :: .pt 24 0 :: Bo true :: bt 24 [], [(24, .box [Ti y4.2.1, Ti y4.2.2.1, Ti y4.2.2.2.1, Ti y4.2.2.2.2]), (16, .box [Ti y4.1.1, Ti y4.1.2.1, Ti y4.1.2.2])]⟩) (by kernel_rfl) (by kernel_rfl) ?_ ?_
    ·refine DA 3 ?_
     exact XE
    refine V_ret ?_
    obtain rfl := some_inj h
    show Post _ _ _ _ _
    exact ⟨.inr rfl, rfl, rfl, rfl⟩
theorem cf_impl_Matrix_times : ∀ args w, (callFunc 169 args).run Try.prog w = .ok (.enter 169 args) w := run_callFunc Try.func169 (by kernel_rfl) (by kernel_rfl)
theorem s_impl_Matrix_times {vm1 : (Int × Int × Int × Int)} {vn2 : (Int × Int × Int × Int)} {r : (Int × Int × Int × Int)} (h : r_impl_Matrix_times vm1 vn2 = some r) : CallS Try.prog 169 [.ag [Ti vm1.1, Ti vm1.2.1, Ti vm1.2.2.1, Ti vm1.2.2.2], .ag [Ti vn2.1, Ti vn2.2.1, Ti vn2.2.2.1, Ti vn2.2.2.2]] (.ag [Ti r.1, Ti r.2.1, Ti r.2.2.1, Ti r.2.2.2]) [] := by
  refine CallS_of_text (rs := [.w 4 4]) (vs := [.cell 4 110]) Try.func169 rfl rfl (.cons ⟨rfl, wd110⟩ FitsL.nil) (by decide) 50 rfl ?_
  unfold r_impl_Matrix_times at h
  show V _ _ ⟨.ag [Ti vm1.1, Ti vm1.2.1, Ti vm1.2.2.1, Ti vm1.2.2.2] :: .ag [Ti vn2.1, Ti vn2.2.1, Ti vn2.2.2.1, Ti vn2.2.2.2] :: bt 48 [], []⟩ _
  refine V_e (mb 50 28) [32, 24, 16] (s1 := ⟨.bot :: .bot :: .pt 16 0 :: .pt 24 0 :: .pt 32 0 :: bt 45 [], [(32, .box [Ti 0, Ti 0, Ti 0, Ti 0]), (24, .box [Ti vn2.1, Ti vn2.2.1, Ti vn2.2.2.1, Ti vn2.2.2.2]), (16, .box [Ti vm1.1, Ti vm1.2.1, Ti vm1.2.2.1, Ti vm1.2.2.2])]⟩) ?_
  obtain ⟨f3, hf3, h⟩ := of_sI h
  obtain ⟨f4, hf4, h⟩ := of_sI h
  obtain ⟨f5, hf5, h⟩ := of_sI h
  obtain ⟨f6, hf6, h⟩ := of_sI h
  refine V_sreg (mb 50 16) [32] (s1 := ⟨bt 4 (.pt 32 0 :: bt 45 []), [(32, .box [Ti f3, Ti f4, Ti f5, Ti f6])]⟩) ?_ ?_
  ·refine XR 44 ?_
   refine L0 rfl rfl (Y0_build (cs := [Ti (w64 ((w64 (vm1.1 * vn2.1)) + (w64 (vm1.2.1 * vn2.2.2.1)))), Ti (w64 ((w64 (vm1.1 * vn2.2.1)) + (w64 (vm1.2.1 * vn2.2.2.2)))), Ti (w64 ((w64 (vm1.2.2.1 * vn2.1)) + (w64 (vm1.2.2.2 * vn2.2.2.1)))), Ti (w64 ((w64 (vm1.2.2.1 * vn2.2.1)) + (w64 (vm1.2.2.2 * vn2.2.2.2))))]) pl110 bt110 rfl rfl (by kernel_rfl)) ?_
   refine XR 1 ?_
   refine XL_nil ?_
   subst hf3 hf4 hf5 hf6
   kernel_rfl
  refine V_ret ?_
  obtain rfl := some_inj h
  show Post _ _ _ _ _
  exact ⟨.inr rfl, rfl, rfl, rfl⟩
theorem cf_impl_checked : ∀ args w, (callFunc 184 args).run Try.prog w = .ok (.enter 184 args) w := run_callFunc Try.func184 (by kernel_rfl) (by kernel_rfl)
theorem s_impl_checked {vm1 : (Int × Int × Int × Int)} {r : (((Int × Int × Int × Int)) × Bool)} (h : r_impl_checked vm1 = some r) : CallS Try.prog 184 [.ag [Ti vm1.1, Ti vm1.2.1, Ti vm1.2.2.1, Ti vm1.2.2.2]] (.tc (.ag [Ti r.1.1, Ti r.1.2.1, Ti r.1.2.2.1, Ti r.1.2.2.2]) (.tc (Bo r.2) .tn)) [] := by
  refine CallS_of_text (rs := [.w 2 4, .t 3]) (vs := [.cell 2 110, .tmp 3]) Try.func184 rfl rfl (.cons ⟨rfl, wd110⟩ (.cons rfl FitsL.nil)) (by decide) 9 rfl ?_
  unfold r_impl_checked at h
  show V _ _ ⟨.ag [Ti vm1.1, Ti vm1.2.1, Ti vm1.2.2.1, Ti vm1.2.2.2] :: bt 8 [], []⟩ _
  refine V_e (mb 9 6) [16, 8] (s1 := ⟨.bot :: .pt 8 0 :: .pt 16 0 :: bt 6 [], [(16, .box [Ti 0, Ti 0, Ti 0, Ti 0]), (8, .box [Ti vm1.1, Ti vm1.2.1, Ti vm1.2.2.1, Ti vm1.2.2.2])]⟩) ?_
  refine V_seq ?_
  obtain ⟨y2, hy2, h⟩ := of_bind h
  refine V_sreg (mb 9 70) [16, 8] (s1 := ⟨.bot :: .pt 8 0 :: .pt 16 0 :: bt 3 (Bo (!y2) :: .bot :: .bot :: []), [(16, .box [Ti 0, Ti 0, Ti 0, Ti 0]), (8, .box [Ti vm1.1, Ti vm1.2.1, Ti vm1.2.2.1, Ti vm1.2.2.2])]⟩) ?_ ?_
  ·refine XR 1 ?_
   refine XC (s_impl_IsMatrix hy2) cf_impl_IsMatrix rfl rfl rfl ?_
   exact XE
  refine V_cond rfl (fun hc3 => ?_) (fun hc3 => ?_)
  ·have h := of_true h hc3
   refine V_sreg (mb 9 12) [16] (s1 := ⟨.bot :: .bot :: .pt 16 0 :: Bo false :: bt 5 [], [(16, .box [Ti 0, Ti 0, Ti 0, Ti 0])]⟩) ?_ ?_
   ·refine L0 rfl rfl (Y0_build (cs := [Ti 0, Ti 0, Ti 0, Ti 0]) pl110 bt110 rfl rfl (by kernel_rfl)) ?_
    exact XE
   refine V_ret ?_
   obtain rfl := some_inj h
   show Post _ _ _ _ _
   exact ⟨.inr rfl, rfl, rfl, rfl⟩
  ·have h := of_false h hc3
   refine V_skip ?_
   show V _ _ _ _
   refine V_e (mb 9 12) [16] (s1 := ⟨.bot :: .bot :: .pt 16 0 :: Bo true :: bt 5 [], [(16, .box [Ti vm1.1, Ti vm1.2.1, Ti vm1.2.2.1, Ti vm1.2.2.2])]⟩) ?_
   refine V_ret ?_
   obtain rfl := some_inj h
   show Post _ _ _ _ _
   exact ⟨.inr rfl, rfl, rfl, rfl⟩
theorem cf_impl_Form_toCycle : ∀ args w, (callFunc 218 args).run Try.prog w = .ok (.enter 218 args) w := run_callFunc Try.func218 (by kernel_rfl) (by kernel_rfl)
theorem s_impl_Form_toCycle {f1 : (Int × Int × Int)} {r : (((Int × Int × Int)) × ((Int × Int × Int × Int)) × Bool)} (h : r_impl_Form_toCycle f1 = some r) : CallS Try.prog 218 [.ag [Ti f1.1, Ti f1.2.1, Ti f1.2.2]] (.tc (.ag [Ti r.1.1, Ti r.1.2.1, Ti r.1.2.2]) (.tc (.ag [Ti r.2.1.1, Ti r.2.1.2.1, Ti r.2.1.2.2.1, Ti r.2.1.2.2.2]) (.tc (Bo r.2.2) .tn))) [] := by
  refine CallS_of_text (rs := [.w 2 3, .w 3 4, .t 4]) (vs := [.cell 2 45, .cell 3 110, .tmp 4]) Try.func218 rfl rfl (.cons ⟨rfl, wd45⟩ (.cons ⟨rfl, wd110⟩ (.cons rfl FitsL.nil))) (by decide) 37 rfl ?_
  unfold r_impl_Form_toCycle at h
  show V _ _ ⟨.ag [Ti f1.1, Ti f1.2.1, Ti f1.2.2] :: bt 36 [], []⟩ _
  refine V_e (mb 37 14) [24, 16, 8] (s1 := ⟨.bot :: .pt 8 0 :: .pt 16 0 :: .pt 24 0 :: bt 33 [], [(24, .box [Ti 0, Ti 0, Ti 0, Ti 0]), (16, .box [Ti 0, Ti 0, Ti 0]), (8, .box [Ti f1.1, Ti f1.2.1, Ti f1.2.2])]⟩) ?_
  obtain ⟨y2, hy2, h⟩ := of_bind h
  refine V_sreg (mb 37 46) [40, 24, 16, 8] (s1 := ⟨.bot :: .pt 8 0 :: .pt 16 0 :: .pt 24 0 :: .bot :: .pt 40 0 :: bt 31 [], [(40, .box [Ti y2.1, Ti y2.2.1, Ti y2.2.2.1, Ti y2.2.2.2]), (24, .box [Ti 0, Ti 0, Ti 0, Ti 0]), (16, .box [Ti 0, Ti 0, Ti 0]), (8, .box [Ti f1.1, Ti f1.2.1, Ti f1.2.2])]⟩) ?_ ?_
  ·refine XC (s_impl_one hy2) cf_impl_one rfl rfl rfl ?_
   exact XE
  refine V_seq ?_
  obtain ⟨qo11, hLo11, hko11⟩ := of_bind h
  refine V_toS (q := qo11) (S := fun o11 => ⟨.bot :: .pt 8 0 :: .pt 16 0 :: .pt 24 0 :: .bot :: .pt 40 0 :: bt 31 [], [(40, .box [Ti o11.1, Ti o11.2.1, Ti o11.2.2.1, Ti o11.2.2.2.1]), (24, .box [Ti 0, Ti 0, Ti 0, Ti 0]), (16, .box [Ti 0, Ti 0, Ti 0]), (8, .box [Ti o11.2.2.2.2.1, Ti o11.2.2.2.2.2.1, Ti o11.2.2.2.2.2.2])]⟩) (mb 37 46) [40, 24, 16, 8] ?_ ?_
  ·refine V_block (V_loop (fun n s => ∃ (f3 : Int) (f4 : Int) (f5 : Int) (f6 : Int) (f7 : Int) (f8 : Int) (f9 : Int), s.keep (mb 37 46) [40, 24, 16, 8] = (⟨.bot :: .pt 8 0 :: .pt 16 0 :: .pt 24 0 :: .bot :: .pt 40 0 :: bt 31 [], [(40, .box [Ti f3, Ti f4, Ti f5, Ti f6]), (24, .box [Ti 0, Ti 0, Ti 0, Ti 0]), (16, .box [Ti 0, Ti 0, Ti 0]), (8, .box [Ti f7, Ti f8, Ti f9])]⟩ : St) ∧ r_impl_Form_toCycle_L10 n f3 f4 f5 f6 f7 f8 f9 = some qo11) FU ⟨_, _, _, _, _, _, _,  by rfl, hLo11⟩ ?_)
   clear hLo11
   rintro n s ⟨f3, f4, f5, f6, f7, f8, f9, hs, h⟩
   refine V_keep _ _ hs ?_
   clear hs
   cases n with
   | zero => cases h
   | succ n =>
    rw [r_impl_Form_toCycle_L10] at h
    refine V_seq ?_
    obtain ⟨y12, hy12, h⟩ := of_bind h
    refine V_sreg (mb 37 4142) [40, 24, 16, 8] (s1 := ⟨.bot :: .pt 8 0 :: .pt 16 0 :: .pt 24 0 :: .bot :: .pt 40 0 :: bt 6 (Bo (!y12) :: bt 24 []), [(40, .box [Ti f3, Ti f4, Ti f5, Ti f6]), (24, .box [Ti 0, Ti 0, Ti 0, Ti 0]), (16, .box [Ti 0, Ti 0, Ti 0]), (8, .box [Ti f7, Ti f8, Ti f9])]⟩) ?_ ?_
    ·refine XR 1 ?_
     refine XC (s_impl_Form_isCyclic hy12) cf_impl_Form_isCyclic rfl rfl rfl ?_
     exact XE
    refine V_cond rfl (fun hc13 => ?_) (fun hc13 => ?_)
    ·have h := of_true h hc13
     refine V_skip ?_
     show V _ _ _ _
     refine V_block ?_
     obtain ⟨y14, hy14, h⟩ := of_bind h
     refine V_sreg (mb 37 494) [56, 48, 40, 24, 16, 8] (s1 := ⟨.bot :: .pt 8 0 :: .pt 16 0 :: .pt 24 0 :: .bot :: .pt 40 0 :: .pt 48 0 :: .pt 56 0 :: Bo y14.2.2 :: bt 28 [], [(56, .box [Ti y14.2.1.1, Ti y14.2.1.2.1, Ti y14.2.1.2.2.1, Ti y14.2.1.2.2.2]), (48, .box [Ti y14.1.1, Ti y14.1.2.1, Ti y14.1.2.2]), (40, .box [Ti f3, Ti f4, Ti f5, Ti f6]), (24, .box [Ti 0, Ti 0, Ti 0, Ti 0]), (16, .box [Ti 0, Ti 0, Ti 0]), (8, .box [Ti f7, Ti f8, Ti f9])]⟩) ?_ ?_
     ·refine XR 1 ?_
      refine XC (s_impl_NextForm hy14) cf_impl_NextForm rfl rfl rfl ?_
      exact XE
     refine V_seq ?_
     refine V_e (mb 37 1048814) [56, 48, 40, 24, 16, 8] (s1 := ⟨.bot :: .pt 8 0 :: .pt 16 0 :: .pt 24 0 :: .bot :: .pt 40 0 :: .pt 48 0 :: .pt 56 0 :: bt 12 (Bo (!y14.2.2) :: bt 16 []), [(56, .box [Ti y14.2.1.1, Ti y14.2.1.2.1, Ti y14.2.1.2.2.1, Ti y14.2.1.2.2.2]), (48, .box [Ti y14.1.1, Ti y14.1.2.1, Ti y14.1.2.2]), (40, .box [Ti f3, Ti f4, Ti f5, Ti f6]), (24, .box [Ti 0, Ti 0, Ti 0, Ti 0]), (16, .box [Ti 0, Ti 0, Ti 0]), (8, .box [Ti f7, Ti f8, Ti f9])]⟩) ?_
     refine V_cond rfl (fun hc15 => ?_) (fun hc15 => ?_)
     ·have h := of_true h hc15
      refine V_sreg (mb 37 28) [24, 16] (s1 := ⟨.bot :: .bot :: .pt 16 0 :: .pt 24 0 :: Bo false :: bt 32 [], [(24, .box [Ti 0, Ti 0, Ti 0, Ti 0]), (16, .box [Ti 0, Ti 0, Ti 0])]⟩) ?_ ?_
      ·refine L0 rfl rfl (Y0_build (cs := [Ti 0, Ti 0, Ti 0]) pl45 bt45 rfl rfl (by kernel_rfl)) ?_
       refine L0 rfl rfl (Y0_build (cs := [Ti 0, Ti 0, Ti 0, Ti 0]) pl110 bt110 rfl rfl (by kernel_rfl)) ?_
       exact XE
      refine V_ret ?_
      obtain rfl := some_inj h
      have h := hko11
      obtain rfl := some_inj h
      show Post _ _ _ _ _
      exact ⟨.inr rfl, rfl, rfl, rfl⟩
     ·have h := of_false h hc15
      refine V_skip ?_
      show V _ _ _ _
      refine V_seq ?_
      obtain ⟨y16, hy16, h⟩ := of_bind h
      obtain ⟨y17, hy17, h⟩ := of_bind h
      refine V_sreg (mb 37 366) [48, 40, 24, 16, 8] (s1 := ⟨.bot :: .pt 8 0 :: .pt 16 0 :: .pt 24 0 :: .bot :: .pt 40 0 :: .pt 48 0 :: .bot :: Bo y17.2 :: bt 28 [], [(48, .box [Ti y14.1.1, Ti y14.1.2.1, Ti y14.1.2.2]), (40, .box [Ti y17.1.1, Ti y17.1.2.1, Ti y17.1.2.2.1, Ti y17.1.2.2.2]), (24, .box [Ti 0, Ti 0, Ti 0, Ti 0]), (16, .box [Ti 0, Ti 0, Ti 0]), (8, .box [Ti f7, Ti f8, Ti f9])]⟩) ?_ ?_
      ·refine XR 2 ?_
       refine XC (s_impl_Matrix_times hy16) cf_impl_Matrix_times rfl rfl rfl ?_
       refine XC (s_impl_checked hy17) cf_impl_checked rfl rfl rfl ?_
       exact XE
      refine V_e (mb 37 2147483758) [48, 40, 24, 16, 8] (s1 := ⟨.bot :: .pt 8 0 :: .pt 16 0 :: .pt 24 0 :: .bot :: .pt 40 0 :: .pt 48 0 :: bt 24 (Bo (!y17.2) :: bt 5 []), [(48, .box [Ti y14.1.1, Ti y14.1.2.1, Ti y14.1.2.2]), (40, .box [Ti y17.1.1, Ti y17.1.2.1, Ti y17.1.2.2.1, Ti y17.1.2.2.2]), (24, .box [Ti 0, Ti 0, Ti 0, Ti 0]), (16, .box [Ti 0, Ti 0, Ti 0]), (8, .box [Ti f7, Ti f8, Ti f9])]⟩) ?_
      refine V_cond rfl (fun hc18 => ?_) (fun hc18 => ?_)
      ·have h := of_true h hc18
       refine V_sreg (mb 37 28) [24, 16] (s1 := ⟨.bot :: .bot :: .pt 16 0 :: .pt 24 0 :: Bo false :: bt 32 [], [(24, .box [Ti 0, Ti 0, Ti 0, Ti 0]), (16, .box [Ti 0, Ti 0, Ti 0])]⟩) ?_ ?_
       ·refine L0 rfl rfl (Y0_build (cs := [Ti 0, Ti 0, Ti 0]) pl45 bt45 rfl rfl (by kernel_rfl)) ?_
        refine L0 rfl rfl (Y0_build (cs := [Ti 0, Ti 0, Ti 0, Ti 0]) pl110 bt110 rfl rfl (by kernel_rfl)) ?_
        exact XE
       refine V_ret ?_
       obtain rfl := some_inj h
       have h := hko11
       obtain rfl := some_inj h
       show Post _ _ _ _ _
       exact ⟨.inr rfl, rfl, rfl, rfl⟩
      ·have h := of_false h hc18
       refine V_skip ?_
       show V _ _ _ _
       refine V_reg (mb 37 46) [40, 24, 16, 8] (s1 := ⟨.bot :: .pt 8 0 :: .pt 16 0 :: .pt 24 0 :: .bot :: .pt 40 0 :: bt 31 [], [(40, .box [Ti y17.1.1, Ti y17.1.2.1, Ti y17.1.2.2.1, Ti y17.1.2.2.2]), (24, .box [Ti 0, Ti 0, Ti 0, Ti 0]), (16, .box [Ti 0, Ti 0, Ti 0]), (8, .box [Ti y14.1.1, Ti y14.1.2.1, Ti y14.1.2.2])]⟩) ?_ ?_
       ·exact XE
       exact ⟨n, Nat.lt_succ_self n, _, _, _, _, _, _, _,  by rfl, h⟩
    ·have h := of_false h hc13
     refine V_exit ?_
     obtain rfl := some_inj h
     exact ⟨_, rfl, by rfl⟩
  rintro o11 rfl
  have h := hko11
  clear hko11
  show V _ _ _ _
  refine V_sdreg [0, 0, 1, 7, 15] 3 [[.z, .b, .z], [.b, .z, .r 16], [.a, .b, .z]] (mb 37 28) [24, 16] (s1 := ⟨.bot :: .bot :: .pt 16 0 :: .pt 24 0 :: Bo true :: bt 32 [], [(24, .box [Ti o11.1, Ti o11.2.1, Ti o11.2.2.1, Ti o11.2.2.2.1]), (16, .box [Ti o11.2.2.2.2.1, Ti o11.2.2.2.2.2.1, Ti o11.2.2.2.2.2.2])]⟩) (by kernel_rfl) (by kernel_rfl) ?_ ?_
  ·refine DA 3 ?_
   exact XE
  refine V_ret ?_
  obtain rfl := some_inj h
  show Post _ _ _ _ _
  exact ⟨.inr rfl, rfl, rfl, rfl⟩
theorem cf_impl_ReduceIndefinite : ∀ args w, (callFunc 179 args).run Try.prog w = .ok (.enter 179 args) w := run_callFunc Try.func179 (by kernel_rfl) (by kernel_rfl)
theorem s_impl_ReduceIndefinite {f1 : (Int × Int × Int)} {r : (((Int × Int × Int)) × ((Int × Int × Int × Int)) × Bool)} (h : r_impl_ReduceIndefinite f1 = some r) : CallS Try.prog 179 [.ag [Ti f1.1, Ti f1.2.1, Ti f1.2.2]] (.tc (.ag [Ti r.1.1, Ti r.1.2.1, Ti r.1.2.2]) (.tc (.ag [Ti r.2.1.1, Ti r.2.1.2.1, Ti r.2.1.2.2.1, Ti r.2.1.2.2.2]) (.tc (Bo r.2.2) .tn))) [] := by
  refine CallS_of_text (rs := [.w 2 3, .w 3 4, .t 4]) (vs := [.cell 2 45, .cell 3 110, .tmp 4]) Try.func179 rfl rfl (.cons ⟨rfl, wd45⟩ (.cons ⟨rfl, wd110⟩ (.cons rfl FitsL.nil))) (by decide) 15 rfl ?_
  unfold r_impl_ReduceIndefinite at h
  show V _ _ ⟨.ag [Ti f1.1, Ti f1.2.1, Ti f1.2.2] :: bt 14 [], []⟩ _
  refine V_e (mb 15 14) [24, 16, 8] (s1 := ⟨.bot :: .pt 8 0 :: .pt 16 0 :: .pt 24 0 :: bt 11 [], [(24, .box [Ti 0, Ti 0, Ti 0, Ti 0]), (16, .box [Ti 0, Ti 0, Ti 0]), (8, .box [Ti f1.1, Ti f1.2.1, Ti f1.2.2])]⟩) ?_
  refine V_seq ?_
  obtain ⟨y2, hy2, h⟩ := of_bind h
  refine V_sreg (mb 15 142) [24, 16, 8] (s1 := ⟨.bot :: .pt 8 0 :: .pt 16 0 :: .pt 24 0 :: bt 3 (Bo (!y2) :: bt 7 []), [(24, .box [Ti 0, Ti 0, Ti 0, Ti 0]), (16, .box [Ti 0, Ti 0, Ti 0]), (8, .box [Ti f1.1, Ti f1.2.1, Ti f1.2.2])]⟩) ?_ ?_
  ·refine XR 1 ?_
   refine XC (s_impl_isIndefinite hy2) cf_impl_isIndefinite rfl rfl rfl ?_
   exact XE
  refine V_cond rfl (fun hc3 => ?_) (fun hc3 => ?_)
  ·have h := of_true h hc3
   refine V_sreg (mb 15 28) [24, 16] (s1 := ⟨.bot :: .bot :: .pt 16 0 :: .pt 24 0 :: Bo false :: bt 10 [], [(24, .box [Ti 0, Ti 0, Ti 0, Ti 0]), (16, .box [Ti 0, Ti 0, Ti 0])]⟩) ?_ ?_
   ·refine L0 rfl rfl (Y0_build (cs := [Ti 0, Ti 0, Ti 0]) pl45 bt45 rfl rfl (by kernel_rfl)) ?_
    refine L0 rfl rfl (Y0_build (cs := [Ti 0, Ti 0, Ti 0, Ti 0]) pl110 bt110 rfl rfl (by kernel_rfl)) ?_
    exact XE
   refine V_ret ?_
   obtain rfl := some_inj h
   show Post _ _ _ _ _
   exact ⟨.inr rfl, rfl, rfl, rfl⟩
  ·have h := of_false h hc3
   refine V_skip ?_
   show V _ _ _ _
   obtain ⟨y4, hy4, h⟩ := of_bind h
   refine V_sreg (mb 15 28) [24, 16] (s1 := ⟨.bot :: .bot :: .pt 16 0 :: .pt 24 0 :: Bo y4.2.2 :: bt 10 [], [(24, .box [Ti y4.2.1.1, Ti y4.2.1.2.1, Ti y4.2.1.2.2.1, Ti y4.2.1.2.2.2]), (16, .box [Ti y4.1.1, Ti y4.1.2.1, Ti y4.1.2.2])]⟩) ?_ ?_
   ·refine XR 1 ?_
    refine XC (s_impl_Form_toCycle hy4) cf_impl_Form_toCycle rfl rfl rfl ?_
    exact XE
   refine V_ret ?_
   obtain rfl := some_inj h
   show Post _ _ _ _ _
   exact ⟨.inr rfl, rfl, rfl, rfl⟩
theorem cf_impl_Form_cycle : ∀ args w, (callFunc 181 args).run Try.prog w = .ok (.enter 181 args) w := run_callFunc Try.func181 (by kernel_rfl) (by kernel_rfl)
theorem s_impl_Form_cycle {f1 : (Int × Int × Int)} {r : List ((Int × Int × Int))} (h : r_impl_Form_cycle f1 = some r) : CallS Try.prog 181 [.ag [Ti f1.1, Ti f1.2.1, Ti f1.2.2]] (.ow 0) [(0, .arr 45 3 (r.map c45))] := by
  refine CallS_of_text (rs := [.t 2]) (vs := [.tmp 2]) Try.func181 rfl rfl (.cons rfl FitsL.nil) (by decide) 28 rfl ?_
  unfold r_impl_Form_cycle at h
  show V _ _ ⟨.ag [Ti f1.1, Ti f1.2.1, Ti f1.2.2] :: bt 27 [], []⟩ _
  refine V_sreg (mb 28 2) [8] (s1 := ⟨.bot :: .pt 8 0 :: bt 26 [], [(8, .box [Ti f1.1, Ti f1.2.1, Ti f1.2.2])]⟩) ?_ ?_
  ·refine XR 1 ?_
   refine L1 rfl rfl (Y1_nil (e := 45) 3 (by decide) (.inl rfl)) ?_
   exact XE
  refine V_sreg (mb 28 10) [56, 8] (s1 := ⟨.bot :: .pt 8 0 :: .bot :: .ow 56 :: bt 24 [], [(56, .arr 45 3 (([f1]).map c45)), (8, .box [Ti f1.1, Ti f1.2.1, Ti f1.2.2])]⟩) ?_ ?_
  ·refine XR 1 ?_
   refine L1 rfl rfl (Y1_bslice (z := zv45) (els := [f1].map c45) Try.underlying62 iz45 rfl (by decide) rfl (by kernel_rfl) rfl (by simp [c45]) (by decide) (by decide)) ?_
   exact XE
  refine V_seq ?_
  obtain ⟨y2, hy2, h⟩ := of_bind h
  refine V_sreg (mb 28 58) [40, 32, 56, 8] (s1 := ⟨.bot :: .pt 8 0 :: .bot :: .ow 56 :: .pt 32 0 :: .pt 40 0 :: bt 22 [], [(40, .box [Ti y2.2.1, Ti y2.2.2.1, Ti y2.2.2.2.1, Ti y2.2.2.2.2]), (32, .box [Ti y2.1.1, Ti y2.1.2.1, Ti y2.1.2.2]), (56, .arr 45 3 (([f1]).map c45)), (8, .box [Ti f1.1, Ti f1.2.1, Ti f1.2.2])]⟩) ?_ ?_
  ·refine XR 1 ?_
   refine XC (s_impl_Form_neighbour hy2) cf_impl_Form_neighbour rfl rfl rfl ?_
   exact XE
  obtain ⟨o8, hLo8, h⟩ := of_bind h
  refine V_toK (mb 28 8) [56] (s1 := ⟨bt 3 (.ow 56 :: bt 24 []), [(56, .arr 45 3 (o8.map c45))]⟩) ?_ ?_
  ·clear h
   refine V_block (V_loop (fun n s => ∃ (f3 : Int) (f4 : Int) (f5 : Int) (l6 : List ((Int × Int × Int))), s.keep (mb 28 58) [40, 32, 56, 8] = (⟨.bot :: .pt 8 0 :: .bot :: .ow 56 :: .pt 32 0 :: .pt 40 0 :: bt 22 [], [(40, .box [Ti y2.2.1, Ti y2.2.2.1, Ti y2.2.2.2.1, Ti y2.2.2.2.2]), (32, .box [Ti f3, Ti f4, Ti f5]), (56, .arr 45 3 (l6.map c45)), (8, .box [Ti f1.1, Ti f1.2.1, Ti f1.2.2])]⟩ : St) ∧ r_impl_Form_cycle_L7 f1 y2 n f3 f4 f5 l6 = some o8) FU ⟨_, _, _, _,  by rfl, hLo8⟩ ?_)
   clear hLo8
   rintro n s ⟨f3, f4, f5, l6, hs, h⟩
   refine V_keep _ _ hs ?_
   clear hs
   cases n with
   | zero => cases h
   | succ n =>
    rw [r_impl_Form_cycle_L7] at h
    refine V_seq ?_
    refine V_sreg (mb 28 32826) [40, 32, 56, 8] (s1 := ⟨.bot :: .pt 8 0 :: .bot :: .ow 56 :: .pt 32 0 :: .pt 40 0 :: bt 9 (Bo (!((f3 == f1.1) && ((f4 == f1.2.1) && (f5 == f1.2.2)))) :: bt 12 []), [(40, .box [Ti y2.2.1, Ti y2.2.2.1, Ti y2.2.2.2.1, Ti y2.2.2.2.2]), (32, .box [Ti f3, Ti f4, Ti f5]), (56, .arr 45 3 (l6.map c45)), (8, .box [Ti f1.1, Ti f1.2.1, Ti f1.2.2])]⟩) ?_ ?_
    ·refine XR 2 ?_
     refine L0 rfl rfl (Y0_neg3 (a0 := f3) (b0 := f1.1) (a1 := f4) (b1 := f1.2.1) (a2 := f5) (b2 := f1.2.2) neg45 rfl (by kernel_rfl) (by kernel_rfl)) ?_
     exact XE
    refine V_cond rfl (fun hc9 => ?_) (fun hc9 => ?_)
    ·have h := of_true h hc9
     refine V_skip ?_
     show V _ _ _ _
     refine V_seq ?_
     refine V_block ?_
     obtain ⟨u10, hu10, h⟩ := of_bind h
     refine V_reg (mb 28 58) [40, 32, 56, 8] (s1 := ⟨.bot :: .pt 8 0 :: .bot :: .ow 56 :: .pt 32 0 :: .pt 40 0 :: bt 22 [], [(40, .box [Ti y2.2.1, Ti y2.2.2.1, Ti y2.2.2.2.1, Ti y2.2.2.2.2]), (32, .box [Ti f3, Ti f4, Ti f5]), (56, .arr 45 3 ((l6 ++ ([(f3, f4, f5)])).map c45)), (8, .box [Ti f1.1, Ti f1.2.1, Ti f1.2.2])]⟩) ?_ ?_
     ·refine XR 2 ?_
      refine L1 rfl rfl (Y1_bslice (z := zv45) (els := [(f3, f4, f5)].map c45) Try.underlying62 iz45 rfl (by decide) rfl (by kernel_rfl) rfl (by simp [c45]) (by decide) (by decide)) ?_
      refine XL_cons rfl (X_appendM (c := c45) (xs := l6) (ys := [(f3, f4, f5)]) (id := 56) (z := zv45) rfl rfl Try.underlying62 izb45 rfl (by kernel_rfl) (by kernel_rfl) (by kernel_rfl) (fun _ => rfl) (by simp) (room_some hu10) (by decide)) ?_
      exact XE
     show V _ _ _ _
     refine V_seq ?_
     refine V_e (mb 28 100663306) [56, 8] (s1 := ⟨.bot :: .pt 8 0 :: .bot :: .ow 56 :: bt 21 (.ag [Ti f3, Ti f4, Ti f5] :: .ag [Ti y2.2.1, Ti y2.2.2.1, Ti y2.2.2.2.1, Ti y2.2.2.2.2] :: .bot :: []), [(56, .arr 45 3 ((l6 ++ ([(f3, f4, f5)])).map c45)), (8, .box [Ti f1.1, Ti f1.2.1, Ti f1.2.2])]⟩) ?_
     refine V_reg (mb 28 58) [40, 32, 56, 8] (s1 := ⟨.bot :: .pt 8 0 :: .bot :: .ow 56 :: .pt 32 0 :: .pt 40 0 :: bt 22 [], [(40, .box [Ti y2.2.1, Ti y2.2.2.1, Ti y2.2.2.2.1, Ti y2.2.2.2.2]), (32, .box [Ti f3, Ti f4, Ti f5]), (56, .arr 45 3 ((l6 ++ ([(f3, f4, f5)])).map c45)), (8, .box [Ti f1.1, Ti f1.2.1, Ti f1.2.2])]⟩) ?_ ?_
     ·exact XE
     show V _ _ _ _
     obtain ⟨y11, hy11, h⟩ := of_bind h
     refine V_reg (mb 28 58) [40, 32, 56, 8] (s1 := ⟨.bot :: .pt 8 0 :: .bot :: .ow 56 :: .pt 32 0 :: .pt 40 0 :: bt 22 [], [(40, .box [Ti y2.2.1, Ti y2.2.2.1, Ti y2.2.2.2.1, Ti y2.2.2.2.2]), (32, .box [Ti y11.1.1, Ti y11.1.2.1, Ti y11.1.2.2]), (56, .arr 45 3 ((l6 ++ ([(f3, f4, f5)])).map c45)), (8, .box [Ti f1.1, Ti f1.2.1, Ti f1.2.2])]⟩) ?_ ?_
     ·refine XR 1 ?_
      refine XC (s_impl_Form_neighbour hy11) cf_impl_Form_neighbour rfl rfl rfl ?_
      exact XE
     exact ⟨n, Nat.lt_succ_self n, _, _, _, _,  by rfl, h⟩
    ·have h := of_false h hc9
     refine V_exit ?_
     obtain rfl := some_inj h
     show St.keep _ _ _ = _
     rfl
  show V _ _ _ _
  refine V_e (mb 28 4) [56] (s1 := ⟨.bot :: .bot :: .ow 56 :: bt 25 [], [(56, .arr 45 3 (o8.map c45))]⟩) ?_
  refine V_ret ?_
  obtain rfl := some_inj h
  show Post _ _ _ _ _
  exact ⟨.inr rfl, rfl, rfl, rfl⟩
theorem cf_impl_hasForm : ∀ args w, (callFunc 180 args).run Try.prog w = .ok (.enter 180 args) w := run_callFunc Try.func180 (by kernel_rfl) (by kernel_rfl)
theorem s_impl_hasForm {list1 : List ((Int × Int × Int))} {f2 : (Int × Int × Int)} {r : Bool} (h : r_impl_hasForm list1 f2 = some r) : CallS Try.prog 180 [.c (.sl (list1.map c45)), .ag [Ti f2.1, Ti f2.2.1, Ti f2.2.2]] (Bo r) [] := by
  refine CallS_of_text (rs := [.t 4]) (vs := [.tmp 4]) Try.func180 rfl rfl (.cons rfl FitsL.nil) (by decide) 17 rfl ?_
  unfold r_impl_hasForm at h
  show V _ _ ⟨.c (.sl (list1.map c45)) :: .ag [Ti f2.1, Ti f2.2.1, Ti f2.2.2] :: bt 15 [], []⟩ _
  refine V_e (mb 17 9) [24] (s1 := ⟨.c (.sl (list1.map c45)) :: .bot :: .bot :: .pt 24 0 :: bt 13 [], [(24, .box [Ti f2.1, Ti f2.2.1, Ti f2.2.2])]⟩) ?_
  refine V_seq ?_
  refine V_sreg (mb 17 904) [24] (s1 := ⟨bt 3 (.pt 24 0 :: bt 3 (.c (.sl (list1.map c45)) :: I ((list1.length : Int)) :: I 0 :: bt 7 [])), [(24, .box [Ti f2.1, Ti f2.2.1, Ti f2.2.2])]⟩) ?_ ?_
  ·refine XR 1 ?_
   refine L0 rfl rfl (Y0_lenM (c := c45) (xs := list1) Try.underlying62 rfl (by kernel_rfl)) ?_
   exact XE
  obtain ⟨qo5, hLo5, hko5⟩ := of_bind h
  refine V_toS (q := qo5) (S := fun o5 => ⟨bt 17 [], []⟩) (mb 17 0) [] ?_ ?_
  ·refine V_block (V_loop (fun n s => ∃ (t3 : Int), s.keep (mb 17 904) [24] = (⟨bt 3 (.pt 24 0 :: bt 3 (.c (.sl (list1.map c45)) :: I ((list1.length : Int)) :: I t3 :: bt 7 [])), [(24, .box [Ti f2.1, Ti f2.2.1, Ti f2.2.2])]⟩ : St) ∧ r_impl_hasForm_L4 f2 list1 n t3 = some qo5) FU ⟨_,  by rfl, hLo5⟩ ?_)
   clear hLo5
   rintro n s ⟨t3, hs, h⟩
   refine V_keep _ _ hs ?_
   clear hs
   cases n with
   | zero => cases h
   | succ n =>
    rw [r_impl_hasForm_L4] at h
    refine V_e (mb 17 1928) [24] (s1 := ⟨bt 3 (.pt 24 0 :: bt 3 (.c (.sl (list1.map c45)) :: I ((list1.length : Int)) :: I t3 :: Bo (ltI t3 ((list1.length : Int))) :: bt 6 [])), [(24, .box [Ti f2.1, Ti f2.2.1, Ti f2.2.2])]⟩) ?_
    refine V_seq ?_
    refine V_cond rfl (fun hc6 => ?_) (fun hc6 => ?_)
    ·have h := of_true h hc6
     refine V_skip ?_
     show V _ _ _ _
     refine V_seq ?_
     refine V_block ?_
     obtain ⟨e7, he7, h⟩ := of_bind h
     refine V_sreg (mb 17 968) [48, 24] (s1 := ⟨bt 3 (.pt 24 0 :: .bot :: .bot :: .pt 48 0 :: .c (.sl (list1.map c45)) :: I ((list1.length : Int)) :: I t3 :: bt 7 []), [(48, .box [Ti e7.1, Ti e7.2.1, Ti e7.2.2]), (24, .box [Ti f2.1, Ti f2.2.1, Ti f2.2.2])]⟩) ?_ ?_
     ·refine L0 rfl rfl (Y0_idxM (c := c45) (xs := list1) (v := e7) (n := t3) Try.underlying62 sz45 rfl (by kernel_rfl) (by kernel_rfl) he7) ?_
      exact XE
     obtain ⟨t8, ht8, h⟩ := of_bind h
     have ht8 := some_inj ht8
     refine V_sreg (mb 17 33672) [24] (s1 := ⟨bt 3 (.pt 24 0 :: bt 3 (.c (.sl (list1.map c45)) :: I ((list1.length : Int)) :: I t3 :: bt 5 (Bo t8 :: .bot :: []))), [(24, .box [Ti f2.1, Ti f2.2.1, Ti f2.2.2])]⟩) ?_ ?_
     ·refine XR 2 ?_
      refine L0 rfl rfl (Y0_eqg3 (a0 := f2.1) (b0 := e7.1) (a1 := f2.2.1) (b1 := e7.2.1) (a2 := f2.2.2) (b2 := e7.2.2) eqg45 rfl (by kernel_rfl) (by kernel_rfl)) ?_
      refine XL_nil ?_
      subst ht8
      kernel_rfl
     refine V_cond rfl (fun hc9 => ?_) (fun hc9 => ?_)
     ·have h := of_true h hc9
      refine V_e (mb 17 16) [] (s1 := ⟨bt 4 (Bo true :: bt 12 []), []⟩) ?_
      refine V_ret ?_
      obtain rfl := some_inj h
      have h := hko5
      obtain rfl := some_inj h
      show Post _ _ _ _ _
      exact ⟨.inr rfl, rfl, rfl, rfl⟩
     ·have h := of_false h hc9
      refine V_skip ?_
      show V _ _ _ _
      obtain ⟨t10, ht10, h⟩ := of_sI h
      refine V_reg (mb 17 904) [24] (s1 := ⟨bt 3 (.pt 24 0 :: bt 3 (.c (.sl (list1.map c45)) :: I ((list1.length : Int)) :: I t10 :: bt 7 [])), [(24, .box [Ti f2.1, Ti f2.2.1, Ti f2.2.2])]⟩) ?_ ?_
      ·refine XR 2 ?_
       refine XL_nil ?_
       subst ht10
       kernel_rfl
      exact ⟨n, Nat.lt_succ_self n, _,  by rfl, h⟩
    ·have h := of_false h hc6
     refine V_exit ?_
     obtain rfl := some_inj h
     exact ⟨_, rfl, by rfl⟩
  rintro o5 rfl
  have h := hko5
  clear hko5
  show V _ _ _ _
  refine V_e (mb 17 16) [] (s1 := ⟨bt 4 (Bo false :: bt 12 []), []⟩) ?_
  refine V_ret ?_
  obtain rfl := some_inj h
  show Post _ _ _ _ _
  exact ⟨.inr rfl, rfl, rfl, rfl⟩
theorem cf_impl_SameCycle : ∀ args w, (callFunc 122 args).run Try.prog w = .ok (.enter 122 args) w := run_callFunc Try.func122 (by kernel_rfl) (by kernel_rfl)
theorem s_impl_SameCycle {f1 : (Int × Int × Int)} {g2 : (Int × Int × Int)} {r : (Bool × Bool)} (h : r_impl_SameCycle f1 g2 = some r) : CallS Try.prog 122 [.ag [Ti f1.1, Ti f1.2.1, Ti f1.2.2], .ag [Ti g2.1, Ti g2.2.1, Ti g2.2.2]] (.tc (Bo r.1) (.tc (Bo r.2) .tn)) [] := by
  refine CallS_of_text (rs := [.t 4, .t 5]) (vs := [.tmp 4, .tmp 5]) Try.func122 rfl rfl (.cons rfl (.cons rfl FitsL.nil)) (by decide) 34 rfl ?_
  unfold r_impl_SameCycle at h
  show V _ _ ⟨.ag [Ti f1.1, Ti f1.2.1, Ti f1.2.2] :: .ag [Ti g2.1, Ti g2.2.1, Ti g2.2.2] :: bt 32 [], []⟩ _
  refine V_e (mb 34 12) [24, 16] (s1 := ⟨.bot :: .bot :: .pt 16 0 :: .pt 24 0 :: bt 30 [], [(24, .box [Ti g2.1, Ti g2.2.1, Ti g2.2.2]), (16, .box [Ti f1.1, Ti f1.2.1, Ti f1.2.2])]⟩) ?_
  obtain ⟨y3, hy3, h⟩ := of_bind h
  refine V_sreg (mb 34 328) [48, 24] (s1 := ⟨bt 3 (.pt 24 0 :: .bot :: .bot :: .pt 48 0 :: .bot :: Bo y3.2.2 :: bt 25 []), [(48, .box [Ti y3.1.1, Ti y3.1.2.1, Ti y3.1.2.2]), (24, .box [Ti g2.1, Ti g2.2.1, Ti g2.2.2])]⟩) ?_ ?_
  ·refine XR 1 ?_
   refine XC (s_impl_ReduceIndefinite hy3) cf_impl_ReduceIndefinite rfl rfl rfl ?_
   exact XE
  obtain ⟨y4, hy4, h⟩ := of_bind h
  refine V_sreg (mb 34 2880) [72, 48] (s1 := ⟨bt 6 (.pt 48 0 :: .bot :: Bo y3.2.2 :: .pt 72 0 :: .bot :: Bo y4.2.2 :: bt 22 []), [(72, .box [Ti y4.1.1, Ti y4.1.2.1, Ti y4.1.2.2]), (48, .box [Ti y3.1.1, Ti y3.1.2.1, Ti y3.1.2.2])]⟩) ?_ ?_
  ·refine XR 1 ?_
   refine XC (s_impl_ReduceIndefinite hy4) cf_impl_ReduceIndefinite rfl rfl rfl ?_
   exact XE
  refine V_seq ?_
  refine V_sreg (mb 34 536871488) [72, 48] (s1 := ⟨bt 6 (.pt 48 0 :: .bot :: .bot :: .pt 72 0 :: bt 19 (Bo (bif (!y3.2.2) then true else (!y4.2.2)) :: bt 4 [])), [(72, .box [Ti y4.1.1, Ti y4.1.2.1, Ti y4.1.2.2]), (48, .box [Ti y3.1.1, Ti y3.1.2.1, Ti y3.1.2.2])]⟩) ?_ ?_
  ·refine XR 3 ?_
   refine XL_split (!y3.2.2) (fun hc5 => ?_) (fun hc5 => ?_)
   ·refine XL_skipF _ rfl rfl (by kernel_rfl) hc5 rfl ?_
    refine XL_skipF _ rfl rfl (by kernel_rfl) hc5 rfl ?_
    refine XL_cons rfl (X_of_Y0 rfl (Y0_pick1 (b := !y3.2.2) (p := true) (q := !y4.2.2) rfl (by kernel_rfl) hc5 (by kernel_rfl))) ?_
    exact XE
   ·refine XL_takeC _ rfl rfl (by kernel_rfl) hc5 (X_of_Y0 rfl (E_move (Bo y4.2.2) rfl (by kernel_rfl))) ?_
    refine XL_takeC _ rfl rfl (by kernel_rfl) hc5 (X_of_Y0 rfl (Y0_not (b := y4.2.2) rfl (by kernel_rfl))) ?_
    refine XL_cons rfl (X_of_Y0 rfl (Y0_pick0 (b := !y3.2.2) (p := true) (q := !y4.2.2) rfl (by kernel_rfl) hc5 (by kernel_rfl))) ?_
    exact XE
  refine V_cond rfl (fun hc6 => ?_) (fun hc6 => ?_)
  ·have h := of_true h hc6
   refine V_e (mb 34 48) [] (s1 := ⟨bt 4 (Bo false :: Bo false :: bt 28 []), []⟩) ?_
   refine V_ret ?_
   obtain rfl := some_inj h
   show Post _ _ _ _ _
   exact ⟨.inr rfl, rfl, rfl, rfl⟩
  ·have h := of_false h hc6
   refine V_skip ?_
   show V _ _ _ _
   obtain ⟨y7, hy7, h⟩ := of_bind h
   obtain ⟨y8, hy8, h⟩ := of_bind h
   refine V_sdreg [0, 1, 0, 7, 15, 31] 6 (cdm 6 [32, 33, 10, 21, 85, 341]) (mb 34 48) [] (s1 := ⟨bt 4 (Bo y8 :: Bo true :: bt 28 []), []⟩) (by kernel_rfl) (by kernel_rfl) ?_ ?_
   ·refine DR 1 ?_
    refine DC 1 (s_impl_Form_cycle hy7) cf_impl_Form_cycle rfl rfl rfl rfl 31 rfl ?_
    refine DR 1 ?_
    refine DE_1 3 (by kernel_rfl) rfl rfl rfl (gsat_none rfl) (Y1_callS (s_impl_hasForm hy8) cf_impl_hasForm rfl (by kernel_rfl) rfl rfl) rfl rfl rfl 33 rfl ?_
    refine DA 2 ?_
    exact XE
   refine V_ret ?_
   obtain rfl := some_inj h
   show Post _ _ _ _ _
   exact ⟨.inr rfl, rfl, rfl, rfl⟩
theorem cf_impl_Matrix_det : ∀ args w, (callFunc 214 args).run Try.prog w = .ok (.enter 214 args) w := run_callFunc Try.func214 (by kernel_rfl) (by kernel_rfl)
theorem s_impl_Matrix_det {vm1 : (Int × Int × Int × Int)} {r : Int} (h : r_impl_Matrix_det vm1 = some r) : CallS Try.prog 214 [.ag [Ti vm1.1, Ti vm1.2.1, Ti vm1.2.2.1, Ti vm1.2.2.2]] (I r) [] := by
  refine CallS_of_text (rs := [.t 2]) (vs := [.tmp 2]) Try.func214 rfl rfl (.cons rfl FitsL.nil) (by decide) 14 rfl ?_
  unfold r_impl_Matrix_det at h
  show V _ _ ⟨.ag [Ti vm1.1, Ti vm1.2.1, Ti vm1.2.2.1, Ti vm1.2.2.2] :: bt 13 [], []⟩ _
  refine V_e (mb 14 2) [8] (s1 := ⟨.bot :: .pt 8 0 :: bt 12 [], [(8, .box [Ti vm1.1, Ti vm1.2.1, Ti vm1.2.2.1, Ti vm1.2.2.2])]⟩) ?_
  obtain ⟨t2, ht2, h⟩ := of_sI h
  refine V_sreg (mb 14 4) [] (s1 := ⟨.bot :: .bot :: I t2 :: bt 11 [], []⟩) ?_ ?_
  ·refine XR 12 ?_
   refine XL_nil ?_
   subst ht2
   kernel_rfl
  refine V_ret ?_
  obtain rfl := some_inj h
  show Post _ _ _ _ _
  exact ⟨.inr rfl, rfl, rfl, rfl⟩
theorem cf_impl_Matrix_inverse : ∀ args w, (callFunc 170 args).run Try.prog w = .ok (.enter 170 args) w := run_callFunc Try.func170 (by kernel_rfl) (by kernel_rfl)
theorem s_impl_Matrix_inverse {vm1 : (Int × Int × Int × Int)} {r : (Int × Int × Int × Int)} (h : r_impl_Matrix_inverse vm1 = some r) : CallS Try.prog 170 [.ag [Ti vm1.1, Ti vm1.2.1, Ti vm1.2.2.1, Ti vm1.2.2.2]] (.ag [Ti r.1, Ti r.2.1, Ti r.2.2.1, Ti r.2.2.2]) [] := by
  refine CallS_of_text (rs := [.w 2 4]) (vs := [.cell 2 110]) Try.func170 rfl rfl (.cons ⟨rfl, wd110⟩ FitsL.nil) (by decide) 25 rfl ?_
  unfold r_impl_Matrix_inverse at h
  show V _ _ ⟨.ag [Ti vm1.1, Ti vm1.2.1, Ti vm1.2.2.1, Ti vm1.2.2.2] :: bt 24 [], []⟩ _
  refine V_e (mb 25 6) [16, 8] (s1 := ⟨.bot :: .pt 8 0 :: .pt 16 0 :: bt 22 [], [(16, .box [Ti 0, Ti 0, Ti 0, Ti 0]), (8, .box [Ti vm1.1, Ti vm1.2.1, Ti vm1.2.2.1, Ti vm1.2.2.2])]⟩) ?_
  obtain ⟨y2, hy2, h⟩ := of_bind h
  refine V_sreg (mb 25 14) [16, 8] (s1 := ⟨.bot :: .pt 8 0 :: .pt 16 0 :: I y2 :: bt 21 [], [(16, .box [Ti 0, Ti 0, Ti 0, Ti 0]), (8, .box [Ti vm1.1, Ti vm1.2.1, Ti vm1.2.2.1, Ti vm1.2.2.2])]⟩) ?_ ?_
  ·refine XR 1 ?_
   refine XC (s_impl_Matrix_det hy2) cf_impl_Matrix_det rfl rfl rfl ?_
   exact XE
  obtain ⟨f3, hf3, h⟩ := of_sI h
  obtain ⟨f4, hf4, h⟩ := of_sI h
  obtain ⟨f5, hf5, h⟩ := of_sI h
  obtain ⟨f6, hf6, h⟩ := of_sI h
  refine V_sreg (mb 25 4) [16] (s1 := ⟨.bot :: .bot :: .pt 16 0 :: bt 22 [], [(16, .box [Ti f3, Ti f4, Ti f5, Ti f6])]⟩) ?_ ?_
  ·refine XR 18 ?_
   refine L0 rfl rfl (Y0_build (cs := [Ti (w64 (y2 * vm1.2.2.2)), Ti (w64 ((w64 (0 - y2)) * vm1.2.1)), Ti (w64 ((w64 (0 - y2)) * vm1.2.2.1)), Ti (w64 (y2 * vm1.1))]) pl110 bt110 rfl rfl (by kernel_rfl)) ?_
   refine XR 1 ?_
   refine XL_nil ?_
   subst hf3 hf4 hf5 hf6
   kernel_rfl
  refine V_ret ?_
  obtain rfl := some_inj h
  show Post _ _ _ _ _
  exact ⟨.inr rfl, rfl, rfl, rfl⟩
theorem cf_impl_CycleMatrix : ∀ args w, (callFunc 123 args).run Try.prog w = .ok (.enter 123 args) w := run_callFunc Try.func123 (by kernel_rfl) (by kernel_rfl)
theorem s_impl_CycleMatrix {f1 : (Int × Int × Int)} {g2 : (Int × Int × Int)} {r : (((Int × Int × Int × Int)) × Bool)} (h : r_impl_CycleMatrix f1 g2 = some r) : CallS Try.prog 123 [.ag [Ti f1.1, Ti f1.2.1, Ti f1.2.2], .ag [Ti g2.1, Ti g2.2.1, Ti g2.2.2]] (.tc (.ag [Ti r.1.1, Ti r.1.2.1, Ti r.1.2.2.1, Ti r.1.2.2.2]) (.tc (Bo r.2) .tn)) [] := by
  refine CallS_of_text (rs := [.w 4 4, .t 5]) (vs := [.cell 4 110, .tmp 5]) Try.func123 rfl rfl (.cons ⟨rfl, wd110⟩ (.cons rfl FitsL.nil)) (by decide) 63 rfl ?_
  unfold r_impl_CycleMatrix at h
  show V _ _ ⟨.ag [Ti f1.1, Ti f1.2.1, Ti f1.2.2] :: .ag [Ti g2.1, Ti g2.2.1, Ti g2.2.2] :: bt 61 [], []⟩ _
  refine V_e (mb 63 28) [32, 24, 16] (s1 := ⟨.bot :: .bot :: .pt 16 0 :: .pt 24 0 :: .pt 32 0 :: bt 58 [], [(32, .box [Ti 0, Ti 0, Ti 0, Ti 0]), (24, .box [Ti g2.1, Ti g2.2.1, Ti g2.2.2]), (16, .box [Ti f1.1, Ti f1.2.1, Ti f1.2.2])]⟩) ?_
  obtain ⟨y3, hy3, h⟩ := of_bind h
  refine V_sreg (mb 63 472) [56, 48, 32, 24] (s1 := ⟨bt 3 (.pt 24 0 :: .pt 32 0 :: .bot :: .pt 48 0 :: .pt 56 0 :: Bo y3.2.2 :: bt 54 []), [(56, .box [Ti y3.2.1.1, Ti y3.2.1.2.1, Ti y3.2.1.2.2.1, Ti y3.2.1.2.2.2]), (48, .box [Ti y3.1.1, Ti y3.1.2.1, Ti y3.1.2.2]), (32, .box [Ti 0, Ti 0, Ti 0, Ti 0]), (24, .box [Ti g2.1, Ti g2.2.1, Ti g2.2.2])]⟩) ?_ ?_
  ·refine XR 1 ?_
   refine XC (s_impl_ReduceIndefinite hy3) cf_impl_ReduceIndefinite rfl rfl rfl ?_
   exact XE
  obtain ⟨y4, hy4, h⟩ := of_bind h
  refine V_sreg (mb 63 4048) [80, 72, 56, 48, 32] (s1 := ⟨bt 4 (.pt 32 0 :: .bot :: .pt 48 0 :: .pt 56 0 :: Bo y3.2.2 :: .pt 72 0 :: .pt 80 0 :: Bo y4.2.2 :: bt 51 []), [(80, .box [Ti y4.2.1.1, Ti y4.2.1.2.1, Ti y4.2.1.2.2.1, Ti y4.2.1.2.2.2]), (72, .box [Ti y4.1.1, Ti y4.1.2.1, Ti y4.1.2.2]), (56, .box [Ti y3.2.1.1, Ti y3.2.1.2.1, Ti y3.2.1.2.2.1, Ti y3.2.1.2.2.2]), (48, .box [Ti y3.1.1, Ti y3.1.2.1, Ti y3.1.2.2]), (32, .box [Ti 0, Ti 0, Ti 0, Ti 0])]⟩) ?_ ?_
  ·refine XR 1 ?_
   refine XC (s_impl_ReduceIndefinite hy4) cf_impl_ReduceIndefinite rfl rfl rfl ?_
   exact XE
  refine V_seq ?_
  obtain ⟨b9, hb9, h⟩ := of_bind h
  refine V_sdreg [0, 1, 3, 7, 15, 31, 63, 127, 255, 127, 1023, 2047, 4095] 13 (cdm 13 [0, 1, 5, 21, 85, 341, 1365, 529749, 546133, 169301, 349525, 1398101, 5592405]) (mb 63 274877908688) [80, 72, 56, 48, 32] (s1 := ⟨bt 4 (.pt 32 0 :: .bot :: .pt 48 0 :: .pt 56 0 :: .bot :: .pt 72 0 :: .pt 80 0 :: bt 27 (Bo b9 :: bt 24 [])), [(80, .box [Ti y4.2.1.1, Ti y4.2.1.2.1, Ti y4.2.1.2.2.1, Ti y4.2.1.2.2.2]), (72, .box [Ti y4.1.1, Ti y4.1.2.1, Ti y4.1.2.2]), (56, .box [Ti y3.2.1.1, Ti y3.2.1.2.1, Ti y3.2.1.2.2.1, Ti y3.2.1.2.2.2]), (48, .box [Ti y3.1.1, Ti y3.1.2.1, Ti y3.1.2.2]), (32, .box [Ti 0, Ti 0, Ti 0, Ti 0])]⟩) (by kernel_rfl) (by kernel_rfl) ?_ ?_
  ·refine DR 3 ?_
   refine DL_split (!y3.2.2) (fun hc5 => ?_) (fun hc5 => ?_)
   ·refine DE_t 3 (by kernel_rfl) rfl rfl rfl (gun_F (!y3.2.2) rfl rfl (by kernel_rfl) hc5) 29 rfl ?_
    refine DE_t 4 (by kernel_rfl) rfl rfl rfl (gun_F (!y3.2.2) rfl rfl (by kernel_rfl) hc5) 30 rfl ?_
    refine DE_0 5 (Bo (bif (!y3.2.2) then true else (!y4.2.2))) (by kernel_rfl) rfl rfl rfl (gsat_none rfl) (by kernel_rfl) (Y0_pick1 (b := !y3.2.2) (p := true) (q := !y4.2.2) rfl (by kernel_rfl) hc5 (by kernel_rfl)) 31 rfl ?_
    refine DR 1 ?_
    refine DL_split (bif (!y3.2.2) then true else (!y4.2.2)) (fun hc6 => ?_) (fun hc6 => ?_)
    ·have hb9 := some_inj (of_true hb9 hc6)
     refine DE_t 7 (by kernel_rfl) rfl rfl rfl (gun_F (bif (!y3.2.2) then true else (!y4.2.2)) rfl rfl (by kernel_rfl) hc6) 33 rfl ?_
     refine DE_t 8 (by kernel_rfl) rfl rfl rfl (gun_F (bif (!y3.2.2) then true else (!y4.2.2)) rfl rfl (by kernel_rfl) hc6) 34 rfl ?_
     refine DE_t 9 (by kernel_rfl) rfl rfl rfl (gun_F (bif (!y3.2.2) then true else (!y4.2.2)) rfl rfl (by kernel_rfl) hc6) 35 rfl ?_
     refine DE_t 10 (by kernel_rfl) rfl rfl rfl (gun_F (bif (!y3.2.2) then true else (!y4.2.2)) rfl rfl (by kernel_rfl) hc6) 36 rfl ?_
     refine DE_t 11 (by kernel_rfl) rfl rfl rfl (gun_F (bif (!y3.2.2) then true else (!y4.2.2)) rfl rfl (by kernel_rfl) hc6) 37 rfl ?_
     refine DE_0 12 (Bo (b9)) (by kernel_rfl) rfl rfl rfl (gsat_none rfl) (by kernel_rfl) (Y0_pickTe (b := bif (!y3.2.2) then true else (!y4.2.2)) (p := true) rfl (by kernel_rfl) hc6 (by kernel_rfl) hb9) 38 rfl ?_
     refine DA 0 ?_
     exact XE
    ·have hb9 := of_false hb9 hc6
     obtain ⟨y7, hy7, hb9⟩ := of_bind hb9
     obtain ⟨y8, hy8, hb9⟩ := of_bind hb9
     have hb9 := some_inj hb9
     refine DE_0 7 (.ag [Ti y3.1.1, Ti y3.1.2.1, Ti y3.1.2.2]) (by kernel_rfl) rfl rfl rfl (gsat_C (bif (!y3.2.2) then true else (!y4.2.2)) rfl rfl (by kernel_rfl) hc6) (by kernel_rfl) (E_loadn (cs := [Ti y3.1.1, Ti y3.1.2.1, Ti y3.1.2.2]) [Ti y3.1.1, Ti y3.1.2.1, Ti y3.1.2.2] wd45 rfl (by kernel_rfl) (Nat.le_of_ble_eq_true rfl) (by kernel_rfl)) 33 rfl ?_
     refine DE_1 8 (by kernel_rfl) rfl rfl rfl (gsat_C (bif (!y3.2.2) then true else (!y4.2.2)) rfl rfl (by kernel_rfl) hc6) (Y1_call (s_impl_Form_cycle hy7) cf_impl_Form_cycle rfl (by kernel_rfl)) rfl rfl rfl 34 rfl ?_
     refine DE_0 9 (.ag [Ti y4.1.1, Ti y4.1.2.1, Ti y4.1.2.2]) (by kernel_rfl) rfl rfl rfl (gsat_C (bif (!y3.2.2) then true else (!y4.2.2)) rfl rfl (by kernel_rfl) hc6) (by kernel_rfl) (E_loadn (cs := [Ti y4.1.1, Ti y4.1.2.1, Ti y4.1.2.2]) [Ti y4.1.1, Ti y4.1.2.1, Ti y4.1.2.2] wd45 rfl (by kernel_rfl) (Nat.le_of_ble_eq_true rfl) (by kernel_rfl)) 35 rfl ?_
     refine DE_1 10 (by kernel_rfl) rfl rfl rfl (gsat_C (bif (!y3.2.2) then true else (!y4.2.2)) rfl rfl (by kernel_rfl) hc6) (Y1_callS (s_impl_hasForm hy8) cf_impl_hasForm rfl (by kernel_rfl) rfl rfl) rfl rfl rfl 36 rfl ?_
     refine DE_0 11 (Bo (!y8)) (by kernel_rfl) rfl rfl rfl (gsat_C (bif (!y3.2.2) then true else (!y4.2.2)) rfl rfl (by kernel_rfl) hc6) (by kernel_rfl) (Y0_not (b := y8) rfl (by kernel_rfl)) 37 rfl ?_
     refine DE_0 12 (Bo (b9)) (by kernel_rfl) rfl rfl rfl (gsat_none rfl) (by kernel_rfl) (Y0_pickFe (b := bif (!y3.2.2) then true else (!y4.2.2)) (p := !y8) rfl (by kernel_rfl) hc6 (by kernel_rfl) hb9) 38 rfl ?_
     refine DA 0 ?_
     exact XE
   ·refine DE_0 3 (Bo y4.2.2) (by kernel_rfl) rfl rfl rfl (gsat_C (!y3.2.2) rfl rfl (by kernel_rfl) hc5) (by kernel_rfl) (E_move (Bo y4.2.2) rfl (by kernel_rfl)) 29 rfl ?_
    refine DE_0 4 (Bo (!y4.2.2)) (by kernel_rfl) rfl rfl rfl (gsat_C (!y3.2.2) rfl rfl (by kernel_rfl) hc5) (by kernel_rfl) (Y0_not (b := y4.2.2) rfl (by kernel_rfl)) 30 rfl ?_
    refine DE_0 5 (Bo (bif (!y3.2.2) then true else (!y4.2.2))) (by kernel_rfl) rfl rfl rfl (gsat_none rfl) (by kernel_rfl) (Y0_pick0 (b := !y3.2.2) (p := true) (q := !y4.2.2) rfl (by kernel_rfl) hc5 (by kernel_rfl)) 31 rfl ?_
    refine DR 1 ?_
    refine DL_split (bif (!y3.2.2) then true else (!y4.2.2)) (fun hc6 => ?_) (fun hc6 => ?_)
    ·have hb9 := some_inj (of_true hb9 hc6)
     refine DE_t 7 (by kernel_rfl) rfl rfl rfl (gun_F (bif (!y3.2.2) then true else (!y4.2.2)) rfl rfl (by kernel_rfl) hc6) 33 rfl ?_
     refine DE_t 8 (by kernel_rfl) rfl rfl rfl (gun_F (bif (!y3.2.2) then true else (!y4.2.2)) rfl rfl (by kernel_rfl) hc6) 34 rfl ?_
     refine DE_t 9 (by kernel_rfl) rfl rfl rfl (gun_F (bif (!y3.2.2) then true else (!y4.2.2)) rfl rfl (by kernel_rfl) hc6) 35 rfl ?_
     refine DE_t 10 (by kernel_rfl) rfl rfl rfl (gun_F (bif (!y3.2.2) then true else (!y4.2.2)) rfl rfl (by kernel_rfl) hc6) 36 rfl ?_
     refine DE_t 11 (by kernel_rfl) rfl rfl rfl (gun_F (bif (!y3.2.2) then true else (!y4.2.2)) rfl rfl (by kernel_rfl) hc6) 37 rfl ?_
     refine DE_0 12 (Bo (b9)) (by kernel_rfl) rfl rfl rfl (gsat_none rfl) (by kernel_rfl) (Y0_pickTe (b := bif (!y3.2.2) then true else (!y4.2.2)) (p := true) rfl (by kernel_rfl) hc6 (by kernel_rfl) hb9) 38 rfl ?_
     refine DA 0 ?_
     exact XE
    ·have hb9 := of_false hb9 hc6
     obtain ⟨y7, hy7, hb9⟩ := of_bind hb9
     obtain ⟨y8, hy8, hb9⟩ := of_bind hb9
     have hb9 := some_inj hb9
     refine DE_0 7 (.ag [Ti y3.1.1, Ti y3.1.2.1, Ti y3.1.2.2]) (by kernel_rfl) rfl rfl rfl (gsat_C (bif (!y3.2.2) then true else (!y4.2.2)) rfl rfl (by kernel_rfl) hc6) (by kernel_rfl) (E_loadn (cs := [Ti y3.1.1, Ti y3.1.2.1, Ti y3.1.2.2]) [Ti y3.1.1, Ti y3.1.2.1, Ti y3.1.2.2] wd45 rfl (by kernel_rfl) (Nat.le_of_ble_eq_true rfl) (by kernel_rfl)) 33 rfl ?_
     refine DE_1 8 (by kernel_rfl) rfl rfl rfl (gsat_C (bif (!y3.2.2) then true else (!y4.2.2)) rfl rfl (by kernel_rfl) hc6) (Y1_call (s_impl_Form_cycle hy7) cf_impl_Form_cycle rfl (by kernel_rfl)) rfl rfl rfl 34 rfl ?_
     refine DE_0 9 (.ag [Ti y4.1.1, Ti y4.1.2.1, Ti y4.1.2.2]) (by kernel_rfl) rfl rfl rfl (gsat_C (bif (!y3.2.2) then true else (!y4.2.2)) rfl rfl (by kernel_rfl) hc6) (by kernel_rfl) (E_loadn (cs := [Ti y4.1.1, Ti y4.1.2.1, Ti y4.1.2.2]) [Ti y4.1.1, Ti y4.1.2.1, Ti y4.1.2.2] wd45 rfl (by kernel_rfl) (Nat.le_of_ble_eq_true rfl) (by kernel_rfl)) 35 rfl ?_
     refine DE_1 10 (by kernel_rfl) rfl rfl rfl (gsat_C (bif (!y3.2.2) then true else (!y4.2.2)) rfl rfl (by kernel_rfl) hc6) (Y1_callS (s_impl_hasForm hy8) cf_impl_hasForm rfl (by kernel_rfl) rfl rfl) rfl rfl rfl 36 rfl ?_
     refine DE_0 11 (Bo (!y8)) (by kernel_rfl) rfl rfl rfl (gsat_C (bif (!y3.2.2) then true else (!y4.2.2)) rfl rfl (by kernel_rfl) hc6) (by kernel_rfl) (Y0_not (b := y8) rfl (by kernel_rfl)) 37 rfl ?_
     refine DE_0 12 (Bo (b9)) (by kernel_rfl) rfl rfl rfl (gsat_none rfl) (by kernel_rfl) (Y0_pickFe (b := bif (!y3.2.2) then true else (!y4.2.2)) (p := !y8) rfl (by kernel_rfl) hc6 (by kernel_rfl) hb9) 38 rfl ?_
     refine DA 0 ?_
     exact XE
  refine V_cond rfl (fun hc10 => ?_) (fun hc10 => ?_)
  ·have h := of_true h hc10
   refine V_sreg (mb 63 48) [32] (s1 := ⟨bt 4 (.pt 32 0 :: Bo false :: bt 57 []), [(32, .box [Ti 0, Ti 0, Ti 0, Ti 0])]⟩) ?_ ?_
   ·refine L0 rfl rfl (Y0_build (cs := [Ti 0, Ti 0, Ti 0, Ti 0]) pl110 bt110 rfl rfl (by kernel_rfl)) ?_
    exact XE
   refine V_ret ?_
   obtain rfl := some_inj h
   show Post _ _ _ _ _
   exact ⟨.inr rfl, rfl, rfl, rfl⟩
  ·have h := of_false h hc10
   refine V_skip ?_
   show V _ _ _ _
   refine V_seq ?_
   obtain ⟨qo19, hLo19, hko19⟩ := of_bind h
   refine V_toS (q := qo19) (S := fun o19 => ⟨bt 4 (.pt 32 0 :: .bot :: .bot :: .pt 56 0 :: .bot :: .bot :: .pt 80 0 :: bt 52 []), [(80, .box [Ti y4.2.1.1, Ti y4.2.1.2.1, Ti y4.2.1.2.2.1, Ti y4.2.1.2.2.2]), (56, .box [Ti o19.1, Ti o19.2.1, Ti o19.2.2.1, Ti o19.2.2.2]), (32, .box [Ti 0, Ti 0, Ti 0, Ti 0])]⟩) (mb 63 1168) [80, 56, 32] ?_ ?_
   ·refine V_block (V_loop (fun n s => ∃ (f11 : Int) (f12 : Int) (f13 : Int) (f14 : Int) (f15 : Int) (f16 : Int) (f17 : Int), s.keep (mb 63 1744) [80, 72, 56, 48, 32] = (⟨bt 4 (.pt 32 0 :: .bot :: .pt 48 0 :: .pt 56 0 :: .bot :: .pt 72 0 :: .pt 80 0 :: bt 52 []), [(80, .box [Ti y4.2.1.1, Ti y4.2.1.2.1, Ti y4.2.1.2.2.1, Ti y4.2.1.2.2.2]), (72, .box [Ti y4.1.1, Ti y4.1.2.1, Ti y4.1.2.2]), (56, .box [Ti f11, Ti f12, Ti f13, Ti f14]), (48, .box [Ti f15, Ti f16, Ti f17]), (32, .box [Ti 0, Ti 0, Ti 0, Ti 0])]⟩ : St) ∧ r_impl_CycleMatrix_L18 y4 n f11 f12 f13 f14 f15 f16 f17 = some qo19) FU ⟨_, _, _, _, _, _, _,  by rfl, hLo19⟩ ?_)
    clear hLo19
    rintro n s ⟨f11, f12, f13, f14, f15, f16, f17, hs, h⟩
    refine V_keep _ _ hs ?_
    clear hs
    cases n with
    | zero => cases h
    | succ n =>
     rw [r_impl_CycleMatrix_L18] at h
     refine V_seq ?_
     obtain ⟨t20, ht20, h⟩ := of_bind h
     have ht20 := some_inj ht20
     refine V_sreg (mb 63 4398046512848) [80, 72, 56, 48, 32] (s1 := ⟨bt 4 (.pt 32 0 :: .bot :: .pt 48 0 :: .pt 56 0 :: .bot :: .pt 72 0 :: .pt 80 0 :: bt 31 (Bo t20 :: bt 20 [])), [(80, .box [Ti y4.2.1.1, Ti y4.2.1.2.1, Ti y4.2.1.2.2.1, Ti y4.2.1.2.2.2]), (72, .box [Ti y4.1.1, Ti y4.1.2.1, Ti y4.1.2.2]), (56, .box [Ti f11, Ti f12, Ti f13, Ti f14]), (48, .box [Ti f15, Ti f16, Ti f17]), (32, .box [Ti 0, Ti 0, Ti 0, Ti 0])]⟩) ?_ ?_
     ·refine XR 2 ?_
      refine L0 rfl rfl (Y0_neg3 (a0 := f15) (b0 := y4.1.1) (a1 := f16) (b1 := y4.1.2.1) (a2 := f17) (b2 := y4.1.2.2) neg45 rfl (by kernel_rfl) (by kernel_rfl)) ?_
      refine XL_nil ?_
      subst ht20
      kernel_rfl
     refine V_cond rfl (fun hc21 => ?_) (fun hc21 => ?_)
     ·have h := of_true h hc21
      refine V_skip ?_
      show V _ _ _ _
      refine V_block ?_
      obtain ⟨y22, hy22, h⟩ := of_bind h
      refine V_sreg (mb 63 14032) [104, 96, 80, 72, 56, 48, 32] (s1 := ⟨bt 4 (.pt 32 0 :: .bot :: .pt 48 0 :: .pt 56 0 :: .bot :: .pt 72 0 :: .pt 80 0 :: .bot :: .pt 96 0 :: .pt 104 0 :: bt 49 []), [(104, .box [Ti y22.2.1, Ti y22.2.2.1, Ti y22.2.2.2.1, Ti y22.2.2.2.2]), (96, .box [Ti y22.1.1, Ti y22.1.2.1, Ti y22.1.2.2]), (80, .box [Ti y4.2.1.1, Ti y4.2.1.2.1, Ti y4.2.1.2.2.1, Ti y4.2.1.2.2.2]), (72, .box [Ti y4.1.1, Ti y4.1.2.1, Ti y4.1.2.2]), (56, .box [Ti f11, Ti f12, Ti f13, Ti f14]), (48, .box [Ti f15, Ti f16, Ti f17]), (32, .box [Ti 0, Ti 0, Ti 0, Ti 0])]⟩) ?_ ?_
      ·refine XR 1 ?_
       refine XC (s_impl_Form_neighbour hy22) cf_impl_Form_neighbour rfl rfl rfl ?_
       exact XE
      refine V_seq ?_
      obtain ⟨y23, hy23, h⟩ := of_bind h
      refine V_sreg (mb 63 5840) [96, 80, 72, 56, 48, 32] (s1 := ⟨bt 4 (.pt 32 0 :: .bot :: .pt 48 0 :: .pt 56 0 :: .bot :: .pt 72 0 :: .pt 80 0 :: .bot :: .pt 96 0 :: bt 50 []), [(96, .box [Ti y22.1.1, Ti y22.1.2.1, Ti y22.1.2.2]), (80, .box [Ti y4.2.1.1, Ti y4.2.1.2.1, Ti y4.2.1.2.2.1, Ti y4.2.1.2.2.2]), (72, .box [Ti y4.1.1, Ti y4.1.2.1, Ti y4.1.2.2]), (56, .box [Ti y23.1, Ti y23.2.1, Ti y23.2.2.1, Ti y23.2.2.2]), (48, .box [Ti f15, Ti f16, Ti f17]), (32, .box [Ti 0, Ti 0, Ti 0, Ti 0])]⟩) ?_ ?_
      ·refine XR 2 ?_
       refine XC (s_impl_Matrix_times hy23) cf_impl_Matrix_times rfl rfl rfl ?_
       exact XE
      obtain ⟨y24, hy24, h⟩ := of_bind h
      refine V_sreg (mb 63 9007199254746832) [96, 80, 72, 56, 48, 32] (s1 := ⟨bt 4 (.pt 32 0 :: .bot :: .pt 48 0 :: .pt 56 0 :: .bot :: .pt 72 0 :: .pt 80 0 :: .bot :: .pt 96 0 :: bt 40 (Bo (!y24) :: bt 9 [])), [(96, .box [Ti y22.1.1, Ti y22.1.2.1, Ti y22.1.2.2]), (80, .box [Ti y4.2.1.1, Ti y4.2.1.2.1, Ti y4.2.1.2.2.1, Ti y4.2.1.2.2.2]), (72, .box [Ti y4.1.1, Ti y4.1.2.1, Ti y4.1.2.2]), (56, .box [Ti y23.1, Ti y23.2.1, Ti y23.2.2.1, Ti y23.2.2.2]), (48, .box [Ti f15, Ti f16, Ti f17]), (32, .box [Ti 0, Ti 0, Ti 0, Ti 0])]⟩) ?_ ?_
      ·refine XR 1 ?_
       refine XC (s_impl_IsMatrix hy24) cf_impl_IsMatrix rfl rfl rfl ?_
       exact XE
      refine V_cond rfl (fun hc25 => ?_) (fun hc25 => ?_)
      ·have h := of_true h hc25
       refine V_sreg (mb 63 48) [32] (s1 := ⟨bt 4 (.pt 32 0 :: Bo false :: bt 57 []), [(32, .box [Ti 0, Ti 0, Ti 0, Ti 0])]⟩) ?_ ?_
       ·refine L0 rfl rfl (Y0_build (cs := [Ti 0, Ti 0, Ti 0, Ti 0]) pl110 bt110 rfl rfl (by kernel_rfl)) ?_
        exact XE
       refine V_ret ?_
       obtain rfl := some_inj h
       have h := hko19
       obtain rfl := some_inj h
       show Post _ _ _ _ _
       exact ⟨.inr rfl, rfl, rfl, rfl⟩
      ·have h := of_false h hc25
       refine V_skip ?_
       show V _ _ _ _
       refine V_reg (mb 63 1744) [80, 72, 56, 48, 32] (s1 := ⟨bt 4 (.pt 32 0 :: .bot :: .pt 48 0 :: .pt 56 0 :: .bot :: .pt 72 0 :: .pt 80 0 :: bt 52 []), [(80, .box [Ti y4.2.1.1, Ti y4.2.1.2.1, Ti y4.2.1.2.2.1, Ti y4.2.1.2.2.2]), (72, .box [Ti y4.1.1, Ti y4.1.2.1, Ti y4.1.2.2]), (56, .box [Ti y23.1, Ti y23.2.1, Ti y23.2.2.1, Ti y23.2.2.2]), (48, .box [Ti y22.1.1, Ti y22.1.2.1, Ti y22.1.2.2]), (32, .box [Ti 0, Ti 0, Ti 0, Ti 0])]⟩) ?_ ?_
       ·exact XE
       exact ⟨n, Nat.lt_succ_self n, _, _, _, _, _, _, _,  by rfl, h⟩
     ·have h := of_false h hc21
      refine V_exit ?_
      obtain rfl := some_inj h
      exact ⟨_, rfl, by rfl⟩
   rintro o19 rfl
   have h := hko19
   clear hko19
   show V _ _ _ _
   obtain ⟨y26, hy26, h⟩ := of_bind h
   obtain ⟨y27, hy27, h⟩ := of_bind h
   obtain ⟨y28, hy28, h⟩ := of_bind h
   refine V_sdreg [0, 0, 2, 7, 15, 31, 31, 127, 255] 7 (cdm 7 [40, 2, 6, 21, 85, 8533, 2389]) (mb 63 48) [32] (s1 := ⟨bt 4 (.pt 32 0 :: Bo y28.2 :: bt 57 []), [(32, .box [Ti y28.1.1, Ti y28.1.2.1, Ti y28.1.2.2.1, Ti y28.1.2.2.2])]⟩) (by kernel_rfl) (by kernel_rfl) ?_ ?_
   ·refine DR 2 ?_
    refine DC 2 (s_impl_Matrix_inverse hy26) cf_impl_Matrix_inverse rfl rfl rfl rfl 58 rfl ?_
    refine DC 3 (s_impl_Matrix_times hy27) cf_impl_Matrix_times rfl rfl rfl rfl 59 rfl ?_
    refine DC 4 (s_impl_checked hy28) cf_impl_checked rfl rfl rfl rfl 60 rfl ?_
    refine DA 2 ?_
    exact XE
   refine V_ret ?_
   obtain rfl := some_inj h
   show Post _ _ _ _ _
   exact ⟨.inr rfl, rfl, rfl, rfl⟩
end Go.Proofs.Ytgeajejmikaniaa
