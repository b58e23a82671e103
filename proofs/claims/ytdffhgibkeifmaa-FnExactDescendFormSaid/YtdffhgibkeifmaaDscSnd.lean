/-
  The functions of the program compute what the plain functions say: more of them.
  Conditions: none.
-/
import Derived.Test.YtdffhgibkeifmaaDscSnd2
namespace Go.Proofs.Ytdffhgibkeifmaa
open Go.RowKit
set_option linter.unusedVariables false
set_option linter.unusedSimpArgs false
theorem cf_impl_descend : ∀ args w, (callFunc 82 args).run Try.prog w = .ok (.enter 82 args) w := run_callFunc Try.func82 (by kernel_rfl) (by kernel_rfl)
set_option maxRecDepth 100000 in
set_option maxHeartbeats 400000 in
theorem s_impl_descend {f1 : (Int × Int × Int)} {p2 : Int} {r : (((Int × Int × Int)) × ((Int × Int × Int × Int)))} (h : r_impl_descend f1 p2 = some r) : CallS Try.prog 82 [.ag [Ti f1.1, Ti f1.2.1, Ti f1.2.2], I p2] (.tc (.ag [Ti r.1.1, Ti r.1.2.1, Ti r.1.2.2]) (.tc (.ag [Ti r.2.1, Ti r.2.2.1, Ti r.2.2.2.1, Ti r.2.2.2.2]) .tn)) [] := by
  refine CallS_of_text (rs := [.w 4 3, .w 5 4]) (vs := [.cell 4 36, .cell 5 38]) Try.func82 rfl rfl (.cons ⟨rfl, wd36⟩ (.cons ⟨rfl, wd38⟩ FitsL.nil)) (by decide) 89 rfl ?_
  unfold r_impl_descend at h
  show V _ _ ⟨[.ag [Ti f1.1, Ti f1.2.1, Ti f1.2.2], I p2, .bot, .bot, .bot, .bot, .bot, .bot, .bot, .bot, .bot, .bot, .bot, .bot, .bot, .bot, .bot, .bot, .bot, .bot, .bot, .bot, .bot, .bot, .bot, .bot, .bot, .bot, .bot, .bot, .bot, .bot, .bot, .bot, .bot, .bot, .bot, .bot, .bot, .bot, .bot, .bot, .bot, .bot, .bot, .bot, .bot, .bot, .bot, .bot, .bot, .bot, .bot, .bot, .bot, .bot, .bot, .bot, .bot, .bot, .bot, .bot, .bot, .bot, .bot, .bot, .bot, .bot, .bot, .bot, .bot, .bot, .bot, .bot, .bot, .bot, .bot, .bot, .bot, .bot, .bot, .bot, .bot, .bot, .bot, .bot, .bot, .bot, .bot], []⟩ _
  refine V_sreg [false, true, true, false, true, true, false, false, false, false, false, false, false, false, false, false, false, false, false, false, false, false, false, false, false, false, false, false, false, false, false, false, false, false, false, false, false, false, false, false, false, false, false, false, false, false, false, false, false, false, false, false, false, false, false, false, false, false, false, false, false, false, false, false, false, false, false, false, false, false, false, false, false, false, false, false, false, false, false, false, false, false, false, false, false, false, false, false, false] [40, 32, 16] (s1 := ⟨[.bot, I p2, .pt 16 0, .bot, .pt 32 0, .pt 40 0, .bot, .bot, .bot, .bot, .bot, .bot, .bot, .bot, .bot, .bot, .bot, .bot, .bot, .bot, .bot, .bot, .bot, .bot, .bot, .bot, .bot, .bot, .bot, .bot, .bot, .bot, .bot, .bot, .bot, .bot, .bot, .bot, .bot, .bot, .bot, .bot, .bot, .bot, .bot, .bot, .bot, .bot, .bot, .bot, .bot, .bot, .bot, .bot, .bot, .bot, .bot, .bot, .bot, .bot, .bot, .bot, .bot, .bot, .bot, .bot, .bot, .bot, .bot, .bot, .bot, .bot, .bot, .bot, .bot, .bot, .bot, .bot, .bot, .bot, .bot, .bot, .bot, .bot, .bot, .bot, .bot, .bot, .bot], [(40, .box [Ti 0, Ti 0, Ti 0, Ti 0]), (32, .box [Ti 0, Ti 0, Ti 0]), (16, .box [Ti f1.1, Ti f1.2.1, Ti f1.2.2])]⟩) ?_ ?_
  · refine XL_cons rfl (X_of_Y1 rfl (Y1_box (cs := [Ti f1.1, Ti f1.2.1, Ti f1.2.2]) rfl (by kernel_rfl))) ?_
    refine XL_cons rfl (X_of_Y1 rfl (Y1_alloc (z := zv36) rfl zf36 rfl)) ?_
    refine XL_cons rfl (X_of_Y1 rfl (Y1_alloc (z := zv38) rfl zf38 rfl)) ?_
    refine XL_nil ?_
    kernel_rfl
  obtain ⟨y3, hy3, h⟩ := of_bind h
  refine V_sreg [false, true, false, false, true, true, true, true, false, false, false, false, false, false, false, false, false, false, false, false, false, false, false, false, false, false, false, false, false, false, false, false, false, false, false, false, false, false, false, false, false, false, false, false, false, false, false, false, false, false, false, false, false, false, false, false, false, false, false, false, false, false, false, false, false, false, false, false, false, false, false, false, false, false, false, false, false, false, false, false, false, false, false, false, false, false, false, false, false] [56, 48, 40, 32] (s1 := ⟨[.bot, I p2, .bot, .bot, .pt 32 0, .pt 40 0, .pt 48 0, .pt 56 0, .bot, .bot, .bot, .bot, .bot, .bot, .bot, .bot, .bot, .bot, .bot, .bot, .bot, .bot, .bot, .bot, .bot, .bot, .bot, .bot, .bot, .bot, .bot, .bot, .bot, .bot, .bot, .bot, .bot, .bot, .bot, .bot, .bot, .bot, .bot, .bot, .bot, .bot, .bot, .bot, .bot, .bot, .bot, .bot, .bot, .bot, .bot, .bot, .bot, .bot, .bot, .bot, .bot, .bot, .bot, .bot, .bot, .bot, .bot, .bot, .bot, .bot, .bot, .bot, .bot, .bot, .bot, .bot, .bot, .bot, .bot, .bot, .bot, .bot, .bot, .bot, .bot, .bot, .bot, .bot, .bot], [(56, .box [Ti y3.2.1, Ti y3.2.2.1, Ti y3.2.2.2.1, Ti y3.2.2.2.2]), (48, .box [Ti y3.1.1, Ti y3.1.2.1, Ti y3.1.2.2]), (40, .box [Ti 0, Ti 0, Ti 0, Ti 0]), (32, .box [Ti 0, Ti 0, Ti 0])]⟩) ?_ ?_
  · refine XL_cons rfl (X_of_Y0 rfl (E_loadn (cs := [Ti f1.1, Ti f1.2.1, Ti f1.2.2]) [Ti f1.1, Ti f1.2.1, Ti f1.2.2] wd36 rfl (by kernel_rfl) (Nat.le_of_ble_eq_true rfl) (by kernel_rfl))) ?_
    refine XL_cons rfl (X_of_Y1 rfl (Y1_call (s_impl_reduce hy3) cf_impl_reduce rfl (by kernel_rfl))) ?_
    refine XL_cons rfl (X_of_Y0 rfl (E_move (.tc (.ag [Ti y3.1.1, Ti y3.1.2.1, Ti y3.1.2.2]) (.tc (.ag [Ti y3.2.1, Ti y3.2.2.1, Ti y3.2.2.2.1, Ti y3.2.2.2.2]) .tn)) rfl (by kernel_rfl))) ?_
    refine XL_cons rfl (X_of_Y0 rfl (E_ext (n := 0) (.ag [Ti y3.1.1, Ti y3.1.2.1, Ti y3.1.2.2]) (.tc (.ag [Ti y3.2.1, Ti y3.2.2.1, Ti y3.2.2.2.1, Ti y3.2.2.2.2]) .tn) (.ag [Ti y3.1.1, Ti y3.1.2.1, Ti y3.1.2.2]) rfl (by kernel_rfl) (by kernel_rfl) (by intro hh; cases hh))) ?_
    refine XL_cons rfl (X_of_Y0 rfl (E_ext (n := 1) (.ag [Ti y3.1.1, Ti y3.1.2.1, Ti y3.1.2.2]) (.tc (.ag [Ti y3.2.1, Ti y3.2.2.1, Ti y3.2.2.2.1, Ti y3.2.2.2.2]) .tn) (.ag [Ti y3.2.1, Ti y3.2.2.1, Ti y3.2.2.2.1, Ti y3.2.2.2.2]) rfl (by kernel_rfl) (by kernel_rfl) (by intro hh; cases hh))) ?_
    refine XL_cons rfl (X_of_Y1 rfl (Y1_alloc (z := zv36) rfl zf36 rfl)) ?_
    refine XL_cons rfl (X_of_Y1 rfl (Y1_alloc (z := zv38) rfl zf38 rfl)) ?_
    refine XL_cons rfl (E_store (id := 48) (off := 0) (cs := [Ti 0, Ti 0, Ti 0]) (vc := [Ti y3.1.1, Ti y3.1.2.1, Ti y3.1.2.2]) [Ti y3.1.1, Ti y3.1.2.1, Ti y3.1.2.2] rfl rfl (by kernel_rfl) (by kernel_rfl) (by kernel_rfl) sz36 (Nat.le_of_ble_eq_true rfl) (by kernel_rfl)) ?_
    refine XL_cons rfl (E_store (id := 56) (off := 0) (cs := [Ti 0, Ti 0, Ti 0, Ti 0]) (vc := [Ti y3.2.1, Ti y3.2.2.1, Ti y3.2.2.2.1, Ti y3.2.2.2.2]) [Ti y3.2.1, Ti y3.2.2.1, Ti y3.2.2.2.1, Ti y3.2.2.2.2] rfl rfl (by kernel_rfl) (by kernel_rfl) (by kernel_rfl) sz38 (Nat.le_of_ble_eq_true rfl) (by kernel_rfl)) ?_
    refine XL_nil ?_
    kernel_rfl
  obtain ⟨y4, hy4, h⟩ := of_bind h
  refine V_sreg [false, true, false, false, true, true, true, true, true, true, false, false, false, false, false, false, false, false, false, false, false, false, false, false, false, false, false, false, false, false, false, false, false, false, false, false, false, false, false, false, false, false, false, false, false, false, false, false, false, false, false, false, false, false, false, false, false, false, false, false, false, false, false, false, false, false, false, false, false, false, false, false, false, false, false, false, false, false, false, false, false, false, false, false, false, false, false, false, false] [56, 48, 40, 32] (s1 := ⟨[.bot, I p2, .bot, .bot, .pt 32 0, .pt 40 0, .pt 48 0, .pt 56 0, I y4.1, I y4.2, .bot, .bot, .bot, .bot, .bot, .bot, .bot, .bot, .bot, .bot, .bot, .bot, .bot, .bot, .bot, .bot, .bot, .bot, .bot, .bot, .bot, .bot, .bot, .bot, .bot, .bot, .bot, .bot, .bot, .bot, .bot, .bot, .bot, .bot, .bot, .bot, .bot, .bot, .bot, .bot, .bot, .bot, .bot, .bot, .bot, .bot, .bot, .bot, .bot, .bot, .bot, .bot, .bot, .bot, .bot, .bot, .bot, .bot, .bot, .bot, .bot, .bot, .bot, .bot, .bot, .bot, .bot, .bot, .bot, .bot, .bot, .bot, .bot, .bot, .bot, .bot, .bot, .bot, .bot], [(56, .box [Ti y3.2.1, Ti y3.2.2.1, Ti y3.2.2.2.1, Ti y3.2.2.2.2]), (48, .box [Ti y3.1.1, Ti y3.1.2.1, Ti y3.1.2.2]), (40, .box [Ti 0, Ti 0, Ti 0, Ti 0]), (32, .box [Ti 0, Ti 0, Ti 0])]⟩) ?_ ?_
  · refine XL_cons rfl (X_of_Y0 rfl (E_loadn (cs := [Ti y3.1.1, Ti y3.1.2.1, Ti y3.1.2.2]) [Ti y3.1.1, Ti y3.1.2.1, Ti y3.1.2.2] wd36 rfl (by kernel_rfl) (Nat.le_of_ble_eq_true rfl) (by kernel_rfl))) ?_
    refine XL_cons rfl (X_of_Y0 rfl (E_move (I p2) rfl (by kernel_rfl))) ?_
    refine XL_cons rfl (X_of_Y1 rfl (Y1_call (s_impl_firstPoint hy4) cf_impl_firstPoint rfl (by kernel_rfl))) ?_
    refine XL_cons rfl (X_of_Y0 rfl (E_move (.tc (I y4.1) (.tc (I y4.2) .tn)) rfl (by kernel_rfl))) ?_
    refine XL_cons rfl (X_of_Y0 rfl (E_ext (n := 0) (I y4.1) (.tc (I y4.2) .tn) (I y4.1) rfl (by kernel_rfl) (by kernel_rfl) (by intro hh; cases hh))) ?_
    refine XL_cons rfl (X_of_Y0 rfl (E_ext (n := 1) (I y4.1) (.tc (I y4.2) .tn) (I y4.2) rfl (by kernel_rfl) (by kernel_rfl) (by intro hh; cases hh))) ?_
    refine XL_cons rfl (X_of_Y0 rfl (E_assign (I y4.1) rfl (by kernel_rfl))) ?_
    refine XL_cons rfl (X_of_Y0 rfl (E_assign (I y4.2) rfl (by kernel_rfl))) ?_
    refine XL_nil ?_
    kernel_rfl
  obtain ⟨y5, hy5, h⟩ := of_bind h
  refine V_sreg [false, true, false, false, true, true, false, true, false, false, true, true, false, false, false, false, false, false, false, false, false, false, false, false, false, false, false, false, false, false, false, false, false, false, false, false, false, false, false, false, false, false, false, false, false, false, false, false, false, false, false, false, false, false, false, false, false, false, false, false, false, false, false, false, false, false, false, false, false, false, false, false, false, false, false, false, false, false, false, false, false, false, false, false, false, false, false, false, false] [88, 80, 56, 40, 32] (s1 := ⟨[.bot, I p2, .bot, .bot, .pt 32 0, .pt 40 0, .bot, .pt 56 0, .bot, .bot, .pt 80 0, .pt 88 0, .bot, .bot, .bot, .bot, .bot, .bot, .bot, .bot, .bot, .bot, .bot, .bot, .bot, .bot, .bot, .bot, .bot, .bot, .bot, .bot, .bot, .bot, .bot, .bot, .bot, .bot, .bot, .bot, .bot, .bot, .bot, .bot, .bot, .bot, .bot, .bot, .bot, .bot, .bot, .bot, .bot, .bot, .bot, .bot, .bot, .bot, .bot, .bot, .bot, .bot, .bot, .bot, .bot, .bot, .bot, .bot, .bot, .bot, .bot, .bot, .bot, .bot, .bot, .bot, .bot, .bot, .bot, .bot, .bot, .bot, .bot, .bot, .bot, .bot, .bot, .bot, .bot], [(88, .box [Ti y5.2.1, Ti y5.2.2.1, Ti y5.2.2.2.1, Ti y5.2.2.2.2]), (80, .box [Ti y5.1.1, Ti y5.1.2.1, Ti y5.1.2.2]), (56, .box [Ti y3.2.1, Ti y3.2.2.1, Ti y3.2.2.2.1, Ti y3.2.2.2.2]), (40, .box [Ti 0, Ti 0, Ti 0, Ti 0]), (32, .box [Ti 0, Ti 0, Ti 0])]⟩) ?_ ?_
  · refine XL_cons rfl (X_of_Y0 rfl (E_loadn (cs := [Ti y3.1.1, Ti y3.1.2.1, Ti y3.1.2.2]) [Ti y3.1.1, Ti y3.1.2.1, Ti y3.1.2.2] wd36 rfl (by kernel_rfl) (Nat.le_of_ble_eq_true rfl) (by kernel_rfl))) ?_
    refine XL_cons rfl (X_of_Y0 rfl (E_move (I y4.1) rfl (by kernel_rfl))) ?_
    refine XL_cons rfl (X_of_Y0 rfl (E_move (I y4.2) rfl (by kernel_rfl))) ?_
    refine XL_cons rfl (X_of_Y1 rfl (Y1_call (s_impl_Form_complete hy5) cf_impl_Form_complete rfl (by kernel_rfl))) ?_
    refine XL_cons rfl (X_of_Y0 rfl (E_move (.tc (.ag [Ti y5.1.1, Ti y5.1.2.1, Ti y5.1.2.2]) (.tc (.ag [Ti y5.2.1, Ti y5.2.2.1, Ti y5.2.2.2.1, Ti y5.2.2.2.2]) .tn)) rfl (by kernel_rfl))) ?_
    refine XL_cons rfl (X_of_Y0 rfl (E_ext (n := 0) (.ag [Ti y5.1.1, Ti y5.1.2.1, Ti y5.1.2.2]) (.tc (.ag [Ti y5.2.1, Ti y5.2.2.1, Ti y5.2.2.2.1, Ti y5.2.2.2.2]) .tn) (.ag [Ti y5.1.1, Ti y5.1.2.1, Ti y5.1.2.2]) rfl (by kernel_rfl) (by kernel_rfl) (by intro hh; cases hh))) ?_
    refine XL_cons rfl (X_of_Y0 rfl (E_ext (n := 1) (.ag [Ti y5.1.1, Ti y5.1.2.1, Ti y5.1.2.2]) (.tc (.ag [Ti y5.2.1, Ti y5.2.2.1, Ti y5.2.2.2.1, Ti y5.2.2.2.2]) .tn) (.ag [Ti y5.2.1, Ti y5.2.2.1, Ti y5.2.2.2.1, Ti y5.2.2.2.2]) rfl (by kernel_rfl) (by kernel_rfl) (by intro hh; cases hh))) ?_
    refine XL_cons rfl (X_of_Y1 rfl (Y1_alloc (z := zv36) rfl zf36 rfl)) ?_
    refine XL_cons rfl (X_of_Y1 rfl (Y1_alloc (z := zv38) rfl zf38 rfl)) ?_
    refine XL_cons rfl (E_store (id := 80) (off := 0) (cs := [Ti 0, Ti 0, Ti 0]) (vc := [Ti y5.1.1, Ti y5.1.2.1, Ti y5.1.2.2]) [Ti y5.1.1, Ti y5.1.2.1, Ti y5.1.2.2] rfl rfl (by kernel_rfl) (by kernel_rfl) (by kernel_rfl) sz36 (Nat.le_of_ble_eq_true rfl) (by kernel_rfl)) ?_
    refine XL_cons rfl (E_store (id := 88) (off := 0) (cs := [Ti 0, Ti 0, Ti 0, Ti 0]) (vc := [Ti y5.2.1, Ti y5.2.2.1, Ti y5.2.2.2.1, Ti y5.2.2.2.2]) [Ti y5.2.1, Ti y5.2.2.1, Ti y5.2.2.2.1, Ti y5.2.2.2.2] rfl rfl (by kernel_rfl) (by kernel_rfl) (by kernel_rfl) sz38 (Nat.le_of_ble_eq_true rfl) (by kernel_rfl)) ?_
    refine XL_nil ?_
    kernel_rfl
  obtain ⟨y6, hy6, h⟩ := of_bind h
  refine V_sdreg [0, 0, 0, 0, 15, 31] 4 [[.z, .b, .b, .b], [.b, .z, .b, .b], [.b, .b, .z, .b], [.b, .b, .b, .z]] [false, true, false, false, true, true, false, true, false, false, true, true, true, true, false, false, false, false, false, false, false, false, false, false, false, false, false, false, false, false, false, false, false, false, false, false, false, false, false, false, false, false, false, false, false, false, false, false, false, false, false, false, false, false, false, false, false, false, false, false, false, false, false, false, false, false, false, false, false, false, false, false, false, false, false, false, false, false, false, false, false, false, false, false, false, false, false, false, false] [104, 96, 88, 80, 56, 40, 32] (s1 := ⟨[.bot, I p2, .bot, .bot, .pt 32 0, .pt 40 0, .bot, .pt 56 0, .bot, .bot, .pt 80 0, .pt 88 0, .pt 96 0, .pt 104 0, .bot, .bot, .bot, .bot, .bot, .bot, .bot, .bot, .bot, .bot, .bot, .bot, .bot, .bot, .bot, .bot, .bot, .bot, .bot, .bot, .bot, .bot, .bot, .bot, .bot, .bot, .bot, .bot, .bot, .bot, .bot, .bot, .bot, .bot, .bot, .bot, .bot, .bot, .bot, .bot, .bot, .bot, .bot, .bot, .bot, .bot, .bot, .bot, .bot, .bot, .bot, .bot, .bot, .bot, .bot, .bot, .bot, .bot, .bot, .bot, .bot, .bot, .bot, .bot, .bot, .bot, .bot, .bot, .bot, .bot, .bot, .bot, .bot, .bot, .bot], [(104, .box [Ti y6.1, Ti y6.2.1, Ti y6.2.2.1, Ti y6.2.2.2]), (96, .box [Ti y5.1.1, Ti y5.1.2.1, Ti y5.1.2.2]), (88, .box [Ti y5.2.1, Ti y5.2.2.1, Ti y5.2.2.2.1, Ti y5.2.2.2.2]), (80, .box [Ti y5.1.1, Ti y5.1.2.1, Ti y5.1.2.2]), (56, .box [Ti y3.2.1, Ti y3.2.2.1, Ti y3.2.2.2.1, Ti y3.2.2.2.2]), (40, .box [Ti 0, Ti 0, Ti 0, Ti 0]), (32, .box [Ti 0, Ti 0, Ti 0])]⟩) (by kernel_rfl) (by kernel_rfl) ?_ ?_
  · refine DE_0 0 (.ag [Ti y5.1.1, Ti y5.1.2.1, Ti y5.1.2.2]) (by kernel_rfl) rfl rfl rfl (gsat_none rfl) (by kernel_rfl) (E_loadn (cs := [Ti y5.1.1, Ti y5.1.2.1, Ti y5.1.2.2]) [Ti y5.1.1, Ti y5.1.2.1, Ti y5.1.2.2] wd36 rfl (by kernel_rfl) (Nat.le_of_ble_eq_true rfl) (by kernel_rfl)) 35 rfl ?_
    refine DE_1 1 (by kernel_rfl) rfl rfl rfl (gsat_none rfl) (Y1_call (s_impl_one hy6) cf_impl_one rfl (by kernel_rfl)) rfl rfl rfl 36 rfl ?_
    refine DE_1 2 (by kernel_rfl) rfl rfl rfl (gsat_none rfl) (Y1_alloc (z := zv36) rfl zf36 rfl) rfl rfl rfl 12 rfl ?_
    refine DE_1 3 (by kernel_rfl) rfl rfl rfl (gsat_none rfl) (Y1_alloc (z := zv38) rfl zf38 rfl) rfl rfl rfl 13 rfl ?_
    refine DL_nil (by kernel_rfl) ?_
    refine XL_cons rfl (E_store (id := 96) (off := 0) (cs := [Ti 0, Ti 0, Ti 0]) (vc := [Ti y5.1.1, Ti y5.1.2.1, Ti y5.1.2.2]) [Ti y5.1.1, Ti y5.1.2.1, Ti y5.1.2.2] rfl rfl (by kernel_rfl) (by kernel_rfl) (by kernel_rfl) sz36 (Nat.le_of_ble_eq_true rfl) (by kernel_rfl)) ?_
    refine XL_cons rfl (E_store (id := 104) (off := 0) (cs := [Ti 0, Ti 0, Ti 0, Ti 0]) (vc := [Ti y6.1, Ti y6.2.1, Ti y6.2.2.1, Ti y6.2.2.2]) [Ti y6.1, Ti y6.2.1, Ti y6.2.2.1, Ti y6.2.2.2] rfl rfl (by kernel_rfl) (by kernel_rfl) (by kernel_rfl) sz38 (Nat.le_of_ble_eq_true rfl) (by kernel_rfl)) ?_
    refine XL_nil ?_
    kernel_rfl
  refine V_seq ?_
  obtain ⟨o12, hLo12, h⟩ := of_bind h
  refine V_toK [false, true, false, false, true, true, false, true, false, false, false, true, true, true, false, false, false, false, false, false, false, false, false, false, false, false, false, false, false, false, false, false, false, false, false, false, false, false, false, false, false, false, false, false, false, false, false, false, false, false, false, false, false, false, false, false, false, false, false, false, false, false, false, false, false, false, false, false, false, false, false, false, false, false, false, false, false, false, false, false, false, false, false, false, false, false, false, false, false] [104, 96, 88, 56, 40, 32] (s1 := ⟨[.bot, I p2, .bot, .bot, .pt 32 0, .pt 40 0, .bot, .pt 56 0, .bot, .bot, .bot, .pt 88 0, .pt 96 0, .pt 104 0, .bot, .bot, .bot, .bot, .bot, .bot, .bot, .bot, .bot, .bot, .bot, .bot, .bot, .bot, .bot, .bot, .bot, .bot, .bot, .bot, .bot, .bot, .bot, .bot, .bot, .bot, .bot, .bot, .bot, .bot, .bot, .bot, .bot, .bot, .bot, .bot, .bot, .bot, .bot, .bot, .bot, .bot, .bot, .bot, .bot, .bot, .bot, .bot, .bot, .bot, .bot, .bot, .bot, .bot, .bot, .bot, .bot, .bot, .bot, .bot, .bot, .bot, .bot, .bot, .bot, .bot, .bot, .bot, .bot, .bot, .bot, .bot, .bot, .bot, .bot], [(104, .box [Ti y6.1, Ti o12.1, Ti y6.2.2.1, Ti y6.2.2.2]), (96, .box [Ti o12.2.1, Ti o12.2.2.1, Ti o12.2.2.2]), (88, .box [Ti y5.2.1, Ti y5.2.2.1, Ti y5.2.2.2.1, Ti y5.2.2.2.2]), (56, .box [Ti y3.2.1, Ti y3.2.2.1, Ti y3.2.2.2.1, Ti y3.2.2.2.2]), (40, .box [Ti 0, Ti 0, Ti 0, Ti 0]), (32, .box [Ti 0, Ti 0, Ti 0])]⟩) ?_ ?_
  · clear h
    refine V_block (V_loop (fun n s => ∃ (f7 : Int) (f8 : Int) (f9 : Int) (f10 : Int), s.keep [false, true, false, false, true, true, false, true, false, false, true, true, true, true, false, false, false, false, false, false, false, false, false, false, false, false, false, false, false, false, false, false, false, false, false, false, false, false, false, false, false, false, false, false, false, false, false, false, false, false, false, false, false, false, false, false, false, false, false, false, false, false, false, false, false, false, false, false, false, false, false, false, false, false, false, false, false, false, false, false, false, false, false, false, false, false, false, false, false] [104, 96, 88, 80, 56, 40, 32] = (⟨[.bot, I p2, .bot, .bot, .pt 32 0, .pt 40 0, .bot, .pt 56 0, .bot, .bot, .pt 80 0, .pt 88 0, .pt 96 0, .pt 104 0, .bot, .bot, .bot, .bot, .bot, .bot, .bot, .bot, .bot, .bot, .bot, .bot, .bot, .bot, .bot, .bot, .bot, .bot, .bot, .bot, .bot, .bot, .bot, .bot, .bot, .bot, .bot, .bot, .bot, .bot, .bot, .bot, .bot, .bot, .bot, .bot, .bot, .bot, .bot, .bot, .bot, .bot, .bot, .bot, .bot, .bot, .bot, .bot, .bot, .bot, .bot, .bot, .bot, .bot, .bot, .bot, .bot, .bot, .bot, .bot, .bot, .bot, .bot, .bot, .bot, .bot, .bot, .bot, .bot, .bot, .bot, .bot, .bot, .bot, .bot], [(104, .box [Ti y6.1, Ti f7, Ti y6.2.2.1, Ti y6.2.2.2]), (96, .box [Ti f8, Ti f9, Ti f10]), (88, .box [Ti y5.2.1, Ti y5.2.2.1, Ti y5.2.2.2.1, Ti y5.2.2.2.2]), (80, .box [Ti y5.1.1, Ti y5.1.2.1, Ti y5.1.2.2]), (56, .box [Ti y3.2.1, Ti y3.2.2.1, Ti y3.2.2.2.1, Ti y3.2.2.2.2]), (40, .box [Ti 0, Ti 0, Ti 0, Ti 0]), (32, .box [Ti 0, Ti 0, Ti 0])]⟩ : St) ∧ r_impl_descend_L11 p2 y3 y5 y6 n f7 f8 f9 f10 = some o12) FU ⟨_, _, _, _,  by rfl, hLo12⟩ ?_)
    clear hLo12
    rintro n s ⟨f7, f8, f9, f10, hs, h⟩
    refine V_keep _ _ hs ?_
    clear hs
    cases n with
    | zero => cases h
    | succ n =>
      rw [r_impl_descend_L11] at h
      refine V_seq ?_
      obtain ⟨z13, hz13, h⟩ := of_bind h
      obtain ⟨b16, hb16, h⟩ := of_bind h
      refine V_sreg [false, true, false, false, true, true, false, true, false, false, true, true, true, true, false, false, false, false, false, false, false, false, false, false, false, false, false, false, false, false, false, false, false, false, false, false, false, false, false, false, false, false, false, false, false, false, false, false, false, false, true, false, false, false, false, false, false, false, false, false, false, false, false, false, false, false, false, false, false, false, false, false, false, false, false, false, false, false, false, false, false, false, false, false, false, false, false, false, false] [104, 96, 88, 80, 56, 40, 32] (s1 := ⟨[.bot, I p2, .bot, .bot, .pt 32 0, .pt 40 0, .bot, .pt 56 0, .bot, .bot, .pt 80 0, .pt 88 0, .pt 96 0, .pt 104 0, .bot, .bot, .bot, .bot, .bot, .bot, .bot, .bot, .bot, .bot, .bot, .bot, .bot, .bot, .bot, .bot, .bot, .bot, .bot, .bot, .bot, .bot, .bot, .bot, .bot, .bot, .bot, .bot, .bot, .bot, .bot, .bot, .bot, .bot, .bot, .bot, Bo b16, .bot, .bot, .bot, .bot, .bot, .bot, .bot, .bot, .bot, .bot, .bot, .bot, .bot, .bot, .bot, .bot, .bot, .bot, .bot, .bot, .bot, .bot, .bot, .bot, .bot, .bot, .bot, .bot, .bot, .bot, .bot, .bot, .bot, .bot, .bot, .bot, .bot, .bot], [(104, .box [Ti y6.1, Ti f7, Ti y6.2.2.1, Ti y6.2.2.2]), (96, .box [Ti f8, Ti f9, Ti f10]), (88, .box [Ti y5.2.1, Ti y5.2.2.1, Ti y5.2.2.2.1, Ti y5.2.2.2.2]), (80, .box [Ti y5.1.1, Ti y5.1.2.1, Ti y5.1.2.2]), (56, .box [Ti y3.2.1, Ti y3.2.2.1, Ti y3.2.2.2.1, Ti y3.2.2.2.2]), (40, .box [Ti 0, Ti 0, Ti 0, Ti 0]), (32, .box [Ti 0, Ti 0, Ti 0])]⟩) ?_ ?_
      · refine XL_cons rfl (X_of_Y0 rfl (E_field (.pt 96 1) Try.underlying36 rfl sz3 rfl (by kernel_rfl) (by intro hh; cases hh))) ?_
        refine XL_cons rfl (X_of_Y0 rfl (Y0_load1 (c := Ti f9) (cs := [Ti f10]) sc3 rfl (by kernel_rfl))) ?_
        refine XL_cons rfl (X_of_Y0 rfl (E_move (I p2) rfl (by kernel_rfl))) ?_
        refine XL_cons rfl (X_of_Y0 rfl (Y0_rem (k := .i64) (a := f9) (b := p2) rfl (by kernel_rfl) (by kernel_rfl) (nz_some hz13))) ?_
        refine XL_cons rfl (X_of_Y0 rfl (Y0_new (k := .i64) (a := Int.tmod f9 p2) (b := 0) rfl (by kernel_rfl) (by kernel_rfl))) ?_
        refine XL_cons rfl (X_of_Y0 rfl (E_move (Bo (!eqI (Int.tmod f9 p2) 0)) rfl (by kernel_rfl))) ?_
        refine XL_split (!eqI (Int.tmod f9 p2) 0) (fun hc14 => ?_) (fun hc14 => ?_)
        · have hb16 := some_inj (of_true hb16 hc14)
          refine XL_skipF (!eqI (Int.tmod f9 p2) 0) rfl rfl (by kernel_rfl) hc14 rfl ?_
          refine XL_skipF (!eqI (Int.tmod f9 p2) 0) rfl rfl (by kernel_rfl) hc14 rfl ?_
          refine XL_skipF (!eqI (Int.tmod f9 p2) 0) rfl rfl (by kernel_rfl) hc14 rfl ?_
          refine XL_skipF (!eqI (Int.tmod f9 p2) 0) rfl rfl (by kernel_rfl) hc14 rfl ?_
          refine XL_skipF (!eqI (Int.tmod f9 p2) 0) rfl rfl (by kernel_rfl) hc14 rfl ?_
          refine XL_skipF (!eqI (Int.tmod f9 p2) 0) rfl rfl (by kernel_rfl) hc14 rfl ?_
          refine XL_skipF (!eqI (Int.tmod f9 p2) 0) rfl rfl (by kernel_rfl) hc14 rfl ?_
          refine XL_cons rfl (X_of_Y0 rfl (Y0_pickTe (b := !eqI (Int.tmod f9 p2) 0) (p := true) rfl (by kernel_rfl) hc14 (by kernel_rfl) hb16)) ?_
          refine XL_nil ?_
          kernel_rfl
        · have hb16 := of_false hb16 hc14
          obtain ⟨z15, hz15, hb16⟩ := of_bind hb16
          have hb16 := some_inj hb16
          refine XL_takeC (!eqI (Int.tmod f9 p2) 0) rfl rfl (by kernel_rfl) hc14 (X_of_Y0 rfl (E_field (.pt 96 2) Try.underlying36 rfl sz3 rfl (by kernel_rfl) (by intro hh; cases hh))) ?_
          refine XL_takeC (!eqI (Int.tmod f9 p2) 0) rfl rfl (by kernel_rfl) hc14 (X_of_Y0 rfl (Y0_load1 (c := Ti f10) (cs := []) sc3 rfl (by kernel_rfl))) ?_
          refine XL_takeC (!eqI (Int.tmod f9 p2) 0) rfl rfl (by kernel_rfl) hc14 (X_of_Y0 rfl (E_move (I p2) rfl (by kernel_rfl))) ?_
          refine XL_takeC (!eqI (Int.tmod f9 p2) 0) rfl rfl (by kernel_rfl) hc14 (X_of_Y0 rfl (E_move (I p2) rfl (by kernel_rfl))) ?_
          refine XL_takeC (!eqI (Int.tmod f9 p2) 0) rfl rfl (by kernel_rfl) hc14 (X_of_Y0 rfl (Y0_mul64 (a := p2) (b := p2) rfl (by kernel_rfl) (by kernel_rfl))) ?_
          refine XL_takeC (!eqI (Int.tmod f9 p2) 0) rfl rfl (by kernel_rfl) hc14 (X_of_Y0 rfl (Y0_rem (k := .i64) (a := f10) (b := w64 (p2 * p2)) rfl (by kernel_rfl) (by kernel_rfl) (nz_some hz15))) ?_
          refine XL_takeC (!eqI (Int.tmod f9 p2) 0) rfl rfl (by kernel_rfl) hc14 (X_of_Y0 rfl (Y0_new (k := .i64) (a := Int.tmod f10 (w64 (p2 * p2))) (b := 0) rfl (by kernel_rfl) (by kernel_rfl))) ?_
          refine XL_cons rfl (X_of_Y0 rfl (Y0_pickFe (b := !eqI (Int.tmod f9 p2) 0) (p := !eqI (Int.tmod f10 (w64 (p2 * p2))) 0) rfl (by kernel_rfl) hc14 (by kernel_rfl) hb16)) ?_
          refine XL_nil ?_
          kernel_rfl
      refine V_cond rfl (fun hc17 => ?_) (fun hc17 => ?_)
      · have h := of_true h hc17
        refine V_skip ?_
        show V _ _ _ _
        refine V_block ?_
        obtain ⟨f18, hf18, h⟩ := of_sI h
        refine V_sreg [false, true, false, false, true, true, false, true, false, false, true, true, true, true, false, false, false, false, false, false, false, false, false, false, false, false, false, false, false, false, false, false, false, false, false, false, false, false, false, false, false, false, false, false, false, false, false, false, false, false, false, false, false, false, false, false, false, false, false, false, false, false, false, false, false, false, false, false, false, false, false, false, false, false, false, false, false, false, false, false, false, false, false, false, false, false, false, false, false] [104, 96, 88, 80, 56, 40, 32] (s1 := ⟨[.bot, I p2, .bot, .bot, .pt 32 0, .pt 40 0, .bot, .pt 56 0, .bot, .bot, .pt 80 0, .pt 88 0, .pt 96 0, .pt 104 0, .bot, .bot, .bot, .bot, .bot, .bot, .bot, .bot, .bot, .bot, .bot, .bot, .bot, .bot, .bot, .bot, .bot, .bot, .bot, .bot, .bot, .bot, .bot, .bot, .bot, .bot, .bot, .bot, .bot, .bot, .bot, .bot, .bot, .bot, .bot, .bot, .bot, .bot, .bot, .bot, .bot, .bot, .bot, .bot, .bot, .bot, .bot, .bot, .bot, .bot, .bot, .bot, .bot, .bot, .bot, .bot, .bot, .bot, .bot, .bot, .bot, .bot, .bot, .bot, .bot, .bot, .bot, .bot, .bot, .bot, .bot, .bot, .bot, .bot, .bot], [(104, .box [Ti y6.1, Ti f18, Ti y6.2.2.1, Ti y6.2.2.2]), (96, .box [Ti f8, Ti f9, Ti f10]), (88, .box [Ti y5.2.1, Ti y5.2.2.1, Ti y5.2.2.2.1, Ti y5.2.2.2.2]), (80, .box [Ti y5.1.1, Ti y5.1.2.1, Ti y5.1.2.2]), (56, .box [Ti y3.2.1, Ti y3.2.2.1, Ti y3.2.2.2.1, Ti y3.2.2.2.2]), (40, .box [Ti 0, Ti 0, Ti 0, Ti 0]), (32, .box [Ti 0, Ti 0, Ti 0])]⟩) ?_ ?_
        · refine XL_cons rfl (X_of_Y0 rfl (E_field (.pt 104 1) Try.underlying38 rfl sz3 rfl (by kernel_rfl) (by intro hh; cases hh))) ?_
          refine XL_cons rfl (X_of_Y0 rfl (Y0_load1 (c := Ti f7) (cs := [Ti y6.2.2.1, Ti y6.2.2.2]) sc3 rfl (by kernel_rfl))) ?_
          refine XL_cons rfl (X_of_Y0 rfl (Y0_add64 (a := f7) (b := 1) rfl (by kernel_rfl) (by kernel_rfl))) ?_
          refine XL_cons rfl (X_of_Y0 rfl (E_field (.pt 104 1) Try.underlying38 rfl sz3 rfl (by kernel_rfl) (by intro hh; cases hh))) ?_
          refine XL_cons rfl (E_store (id := 104) (off := 1) (cs := [Ti y6.1, Ti f7, Ti y6.2.2.1, Ti y6.2.2.2]) (vc := [Ti (w64 (f7 + 1))]) [Ti y6.1, Ti (w64 (f7 + 1)), Ti y6.2.2.1, Ti y6.2.2.2] rfl rfl (by kernel_rfl) (by kernel_rfl) (by kernel_rfl) sz3 (Nat.le_of_ble_eq_true rfl) (by kernel_rfl)) ?_
          refine XL_nil ?_
          subst hf18
          kernel_rfl
        obtain ⟨y19, hy19, h⟩ := of_bind h
        refine V_reg [false, true, false, false, true, true, false, true, false, false, true, true, true, true, false, false, false, false, false, false, false, false, false, false, false, false, false, false, false, false, false, false, false, false, false, false, false, false, false, false, false, false, false, false, false, false, false, false, false, false, false, false, false, false, false, false, false, false, false, false, false, false, false, false, false, false, false, false, false, false, false, false, false, false, false, false, false, false, false, false, false, false, false, false, false, false, false, false, false] [104, 96, 88, 80, 56, 40, 32] (s1 := ⟨[.bot, I p2, .bot, .bot, .pt 32 0, .pt 40 0, .bot, .pt 56 0, .bot, .bot, .pt 80 0, .pt 88 0, .pt 96 0, .pt 104 0, .bot, .bot, .bot, .bot, .bot, .bot, .bot, .bot, .bot, .bot, .bot, .bot, .bot, .bot, .bot, .bot, .bot, .bot, .bot, .bot, .bot, .bot, .bot, .bot, .bot, .bot, .bot, .bot, .bot, .bot, .bot, .bot, .bot, .bot, .bot, .bot, .bot, .bot, .bot, .bot, .bot, .bot, .bot, .bot, .bot, .bot, .bot, .bot, .bot, .bot, .bot, .bot, .bot, .bot, .bot, .bot, .bot, .bot, .bot, .bot, .bot, .bot, .bot, .bot, .bot, .bot, .bot, .bot, .bot, .bot, .bot, .bot, .bot, .bot, .bot], [(104, .box [Ti y6.1, Ti f18, Ti y6.2.2.1, Ti y6.2.2.2]), (96, .box [Ti y19.1, Ti y19.2.1, Ti y19.2.2]), (88, .box [Ti y5.2.1, Ti y5.2.2.1, Ti y5.2.2.2.1, Ti y5.2.2.2.2]), (80, .box [Ti y5.1.1, Ti y5.1.2.1, Ti y5.1.2.2]), (56, .box [Ti y3.2.1, Ti y3.2.2.1, Ti y3.2.2.2.1, Ti y3.2.2.2.2]), (40, .box [Ti 0, Ti 0, Ti 0, Ti 0]), (32, .box [Ti 0, Ti 0, Ti 0])]⟩) ?_ ?_
        · refine XL_cons rfl (X_of_Y0 rfl (E_loadn (cs := [Ti y5.1.1, Ti y5.1.2.1, Ti y5.1.2.2]) [Ti y5.1.1, Ti y5.1.2.1, Ti y5.1.2.2] wd36 rfl (by kernel_rfl) (Nat.le_of_ble_eq_true rfl) (by kernel_rfl))) ?_
          refine XL_cons rfl (X_of_Y0 rfl (E_loadn (cs := [Ti y6.1, Ti f18, Ti y6.2.2.1, Ti y6.2.2.2]) [Ti y6.1, Ti f18, Ti y6.2.2.1, Ti y6.2.2.2] wd38 rfl (by kernel_rfl) (Nat.le_of_ble_eq_true rfl) (by kernel_rfl))) ?_
          refine XL_cons rfl (X_of_Y1 rfl (Y1_call (s_impl_Form_substitute hy19) cf_impl_Form_substitute rfl (by kernel_rfl))) ?_
          refine XL_cons rfl (E_store (id := 96) (off := 0) (cs := [Ti f8, Ti f9, Ti f10]) (vc := [Ti y19.1, Ti y19.2.1, Ti y19.2.2]) [Ti y19.1, Ti y19.2.1, Ti y19.2.2] rfl rfl (by kernel_rfl) (by kernel_rfl) (by kernel_rfl) sz36 (Nat.le_of_ble_eq_true rfl) (by kernel_rfl)) ?_
          refine XL_nil ?_
          kernel_rfl
        exact ⟨n, Nat.lt_succ_self n, _, _, _, _,  by rfl, h⟩
      · have h := of_false h hc17
        refine V_exit ?_
        obtain rfl := some_inj h
        show St.keep _ _ _ = _
        rfl
  show V _ _ _ _
  obtain ⟨z20, hz20, h⟩ := of_bind h
  obtain ⟨z21, hz21, h⟩ := of_bind h
  obtain ⟨y22, hy22, h⟩ := of_bind h
  refine V_sdreg [0, 1, 0, 4, 0, 28, 0, 64, 0, 0, 768, 1984, 4095, 8191, 16383, 32767, 32767, 0, 0, 458751, 1048575] 20 [[.z, .z, .b, .b, .b, .b, .b, .b, .b, .b, .b, .b, .z, .z, .z, .z, .z, .b, .b, .z], [.a, .z, .b, .b, .b, .b, .b, .b, .b, .b, .b, .b, .z, .z, .z, .z, .z, .b, .b, .z], [.b, .b, .z, .z, .b, .z, .b, .b, .b, .b, .b, .b, .z, .z, .z, .z, .z, .b, .b, .z], [.b, .b, .a, .z, .b, .z, .b, .b, .b, .b, .b, .b, .z, .z, .z, .z, .z, .b, .b, .z], [.b, .b, .b, .b, .z, .z, .b, .b, .b, .b, .b, .b, .z, .z, .z, .z, .z, .b, .b, .z], [.b, .b, .a, .a, .a, .z, .b, .b, .b, .b, .b, .b, .z, .z, .z, .z, .z, .b, .b, .z], [.b, .b, .b, .b, .b, .b, .z, .z, .b, .b, .b, .z, .z, .z, .z, .z, .z, .b, .b, .z], [.b, .b, .b, .b, .b, .b, .a, .z, .b, .b, .b, .z, .z, .z, .z, .z, .z, .b, .b, .z], [.b, .b, .b, .b, .b, .b, .b, .b, .z, .b, .z, .z, .z, .z, .z, .z, .z, .b, .b, .z], [.b, .b, .b, .b, .b, .b, .b, .b, .b, .z, .z, .z, .z, .z, .z, .z, .z, .b, .b, .z], [.b, .b, .b, .b, .b, .b, .b, .b, .a, .a, .z, .z, .z, .z, .z, .z, .z, .b, .b, .z], [.b, .b, .b, .b, .b, .b, .a, .a, .a, .a, .a, .z, .z, .z, .z, .z, .z, .b, .b, .z], [.a, .a, .a, .a, .a, .a, .a, .a, .a, .a, .a, .a, .z, .z, .z, .z, .z, .b, .b, .z], [.a, .a, .a, .a, .a, .a, .a, .a, .a, .a, .a, .a, .a, .z, .z, .z, .z, .b, .b, .z], [.a, .a, .a, .a, .a, .a, .a, .a, .a, .a, .a, .a, .a, .a, .z, .z, .z, .b, .b, .z], [.a, .a, .a, .a, .a, .a, .a, .a, .a, .a, .a, .a, .a, .a, .a, .z, .b, .b, .b, .z], [.a, .a, .a, .a, .a, .a, .a, .a, .a, .a, .a, .a, .a, .a, .a, .b, .z, .b, .b, .r 112], [.b, .b, .b, .b, .b, .b, .b, .b, .b, .b, .b, .b, .b, .b, .b, .b, .b, .z, .b, .z], [.b, .b, .b, .b, .b, .b, .b, .b, .b, .b, .b, .b, .b, .b, .b, .b, .b, .b, .z, .z], [.a, .a, .a, .a, .a, .a, .a, .a, .a, .a, .a, .a, .a, .a, .a, .a, .b, .a, .a, .z]] [false, true, false, false, true, true, false, true, false, false, false, true, false, true, true, true, false, false, false, false, false, false, false, false, false, false, false, false, false, false, false, false, false, false, false, false, false, false, false, false, false, false, false, false, false, false, false, false, false, false, false, false, false, false, false, false, false, false, false, false, false, false, false, false, false, false, false, false, false, false, false, false, false, false, false, false, false, false, false, false, false, false, false, false, false, false, false, false, false] [120, 112, 104, 88, 56, 40, 32] (s1 := ⟨[.bot, I p2, .bot, .bot, .pt 32 0, .pt 40 0, .bot, .pt 56 0, .bot, .bot, .bot, .pt 88 0, .bot, .pt 104 0, .pt 112 0, .pt 120 0, .bot, .bot, .bot, .bot, .bot, .bot, .bot, .bot, .bot, .bot, .bot, .bot, .bot, .bot, .bot, .bot, .bot, .bot, .bot, .bot, .bot, .bot, .bot, .bot, .bot, .bot, .bot, .bot, .bot, .bot, .bot, .bot, .bot, .bot, .bot, .bot, .bot, .bot, .bot, .bot, .bot, .bot, .bot, .bot, .bot, .bot, .bot, .bot, .bot, .bot, .bot, .bot, .bot, .bot, .bot, .bot, .bot, .bot, .bot, .bot, .bot, .bot, .bot, .bot, .bot, .bot, .bot, .bot, .bot, .bot, .bot, .bot, .bot], [(120, .box [Ti y22.2.1, Ti y22.2.2.1, Ti y22.2.2.2.1, Ti y22.2.2.2.2]), (112, .box [Ti y22.1.1, Ti y22.1.2.1, Ti y22.1.2.2]), (104, .box [Ti y6.1, Ti o12.1, Ti y6.2.2.1, Ti y6.2.2.2]), (88, .box [Ti y5.2.1, Ti y5.2.2.1, Ti y5.2.2.2.1, Ti y5.2.2.2.2]), (56, .box [Ti y3.2.1, Ti y3.2.2.1, Ti y3.2.2.2.1, Ti y3.2.2.2.2]), (40, .box [Ti 0, Ti 0, Ti 0, Ti 0]), (32, .box [Ti 0, Ti 0, Ti 0])]⟩) (by kernel_rfl) (by kernel_rfl) ?_ ?_
  · refine DE_0 0 (.pt 96 0) (by kernel_rfl) rfl rfl rfl (gsat_none rfl) (by kernel_rfl) (E_field (.pt 96 0) Try.underlying36 rfl sz3 rfl (by kernel_rfl) (by intro hh; cases hh)) 59 rfl ?_
    refine DE_0 1 (I o12.2.1) (by kernel_rfl) rfl rfl rfl (gsat_none rfl) (by kernel_rfl) (Y0_load1 (c := Ti o12.2.1) (cs := [Ti o12.2.2.1, Ti o12.2.2.2]) sc3 rfl (by kernel_rfl)) 60 rfl ?_
    refine DE_0 2 (.pt 96 1) (by kernel_rfl) rfl rfl rfl (gsat_none rfl) (by kernel_rfl) (E_field (.pt 96 1) Try.underlying36 rfl sz3 rfl (by kernel_rfl) (by intro hh; cases hh)) 61 rfl ?_
    refine DE_0 3 (I o12.2.2.1) (by kernel_rfl) rfl rfl rfl (gsat_none rfl) (by kernel_rfl) (Y0_load1 (c := Ti o12.2.2.1) (cs := [Ti o12.2.2.2]) sc3 rfl (by kernel_rfl)) 62 rfl ?_
    refine DE_0 4 (I p2) (by kernel_rfl) rfl rfl rfl (gsat_none rfl) (by kernel_rfl) (E_move (I p2) rfl (by kernel_rfl)) 63 rfl ?_
    refine DE_0 5 (I (w64 (Int.tdiv o12.2.2.1 p2))) (by kernel_rfl) rfl rfl rfl (gsat_none rfl) (by kernel_rfl) (Y0_quo64 (a := o12.2.2.1) (b := p2) rfl (by kernel_rfl) (by kernel_rfl) (nz_some hz20)) 64 rfl ?_
    refine DE_0 6 (.pt 96 2) (by kernel_rfl) rfl rfl rfl (gsat_none rfl) (by kernel_rfl) (E_field (.pt 96 2) Try.underlying36 rfl sz3 rfl (by kernel_rfl) (by intro hh; cases hh)) 65 rfl ?_
    refine DE_0 7 (I o12.2.2.2) (by kernel_rfl) rfl rfl rfl (gsat_none rfl) (by kernel_rfl) (Y0_load1 (c := Ti o12.2.2.2) (cs := []) sc3 rfl (by kernel_rfl)) 66 rfl ?_
    refine DE_0 8 (I p2) (by kernel_rfl) rfl rfl rfl (gsat_none rfl) (by kernel_rfl) (E_move (I p2) rfl (by kernel_rfl)) 67 rfl ?_
    refine DE_0 9 (I p2) (by kernel_rfl) rfl rfl rfl (gsat_none rfl) (by kernel_rfl) (E_move (I p2) rfl (by kernel_rfl)) 68 rfl ?_
    refine DE_0 10 (I (w64 (p2 * p2))) (by kernel_rfl) rfl rfl rfl (gsat_none rfl) (by kernel_rfl) (Y0_mul64 (a := p2) (b := p2) rfl (by kernel_rfl) (by kernel_rfl)) 69 rfl ?_
    refine DE_0 11 (I (w64 (Int.tdiv o12.2.2.2 (w64 (p2 * p2))))) (by kernel_rfl) rfl rfl rfl (gsat_none rfl) (by kernel_rfl) (Y0_quo64 (a := o12.2.2.2) (b := w64 (p2 * p2)) rfl (by kernel_rfl) (by kernel_rfl) (nz_some hz21)) 70 rfl ?_
    refine DE_0 12 (.ag [Ti o12.2.1, Ti (w64 (Int.tdiv o12.2.2.1 p2)), Ti (w64 (Int.tdiv o12.2.2.2 (w64 (p2 * p2))))]) (by kernel_rfl) rfl rfl rfl (gsat_none rfl) (by kernel_rfl) (Y0_build (cs := [Ti o12.2.1, Ti (w64 (Int.tdiv o12.2.2.1 p2)), Ti (w64 (Int.tdiv o12.2.2.2 (w64 (p2 * p2))))]) pl36 bt36 rfl rfl (by kernel_rfl)) 71 rfl ?_
    refine DE_1 13 (by kernel_rfl) rfl rfl rfl (gsat_none rfl) (Y1_call (s_impl_reduce hy22) cf_impl_reduce rfl (by kernel_rfl)) rfl rfl rfl 72 rfl ?_
    refine DE_0 14 (.tc (.ag [Ti y22.1.1, Ti y22.1.2.1, Ti y22.1.2.2]) (.tc (.ag [Ti y22.2.1, Ti y22.2.2.1, Ti y22.2.2.2.1, Ti y22.2.2.2.2]) .tn)) (by kernel_rfl) rfl rfl rfl (gsat_none rfl) (by kernel_rfl) (E_move (.tc (.ag [Ti y22.1.1, Ti y22.1.2.1, Ti y22.1.2.2]) (.tc (.ag [Ti y22.2.1, Ti y22.2.2.1, Ti y22.2.2.2.1, Ti y22.2.2.2.2]) .tn)) rfl (by kernel_rfl)) 58 rfl ?_
    refine DE_0 15 (.ag [Ti y22.1.1, Ti y22.1.2.1, Ti y22.1.2.2]) (by kernel_rfl) rfl rfl rfl (gsat_none rfl) (by kernel_rfl) (E_ext (n := 0) (.ag [Ti y22.1.1, Ti y22.1.2.1, Ti y22.1.2.2]) (.tc (.ag [Ti y22.2.1, Ti y22.2.2.1, Ti y22.2.2.2.1, Ti y22.2.2.2.2]) .tn) (.ag [Ti y22.1.1, Ti y22.1.2.1, Ti y22.1.2.2]) rfl (by kernel_rfl) (by kernel_rfl) (by intro hh; cases hh)) 73 rfl ?_
    refine DE_0 16 (.ag [Ti y22.2.1, Ti y22.2.2.1, Ti y22.2.2.2.1, Ti y22.2.2.2.2]) (by kernel_rfl) rfl rfl rfl (gsat_none rfl) (by kernel_rfl) (E_ext (n := 1) (.ag [Ti y22.1.1, Ti y22.1.2.1, Ti y22.1.2.2]) (.tc (.ag [Ti y22.2.1, Ti y22.2.2.1, Ti y22.2.2.2.1, Ti y22.2.2.2.2]) .tn) (.ag [Ti y22.2.1, Ti y22.2.2.1, Ti y22.2.2.2.1, Ti y22.2.2.2.2]) rfl (by kernel_rfl) (by kernel_rfl) (by intro hh; cases hh)) 74 rfl ?_
    refine DE_1 17 (by kernel_rfl) rfl rfl rfl (gsat_none rfl) (Y1_alloc (z := zv36) rfl zf36 rfl) rfl rfl rfl 14 rfl ?_
    refine DE_1 18 (by kernel_rfl) rfl rfl rfl (gsat_none rfl) (Y1_alloc (z := zv38) rfl zf38 rfl) rfl rfl rfl 15 rfl ?_
    refine DE_2 (off := 0) (cs := [Ti 0, Ti 0, Ti 0]) (vc := [Ti y22.1.1, Ti y22.1.2.1, Ti y22.1.2.2]) 19 112 [Ti y22.1.1, Ti y22.1.2.1, Ti y22.1.2.2] (by kernel_rfl) rfl rfl rfl (gsat_none rfl) rfl rfl (by kernel_rfl) (by kernel_rfl) (by kernel_rfl) sz36 (Nat.le_of_ble_eq_true rfl) (by kernel_rfl) (by kernel_rfl) (by kernel_rfl) (by kernel_rfl) ?_
    refine DL_nil (by kernel_rfl) ?_
    refine XL_cons rfl (E_store (id := 120) (off := 0) (cs := [Ti 0, Ti 0, Ti 0, Ti 0]) (vc := [Ti y22.2.1, Ti y22.2.2.1, Ti y22.2.2.2.1, Ti y22.2.2.2.2]) [Ti y22.2.1, Ti y22.2.2.1, Ti y22.2.2.2.1, Ti y22.2.2.2.2] rfl rfl (by kernel_rfl) (by kernel_rfl) (by kernel_rfl) sz38 (Nat.le_of_ble_eq_true rfl) (by kernel_rfl)) ?_
    refine XL_nil ?_
    kernel_rfl
  obtain ⟨y23, hy23, h⟩ := of_bind h
  obtain ⟨y24, hy24, h⟩ := of_bind h
  refine V_sdreg [0, 0, 3, 0, 15, 0, 63] 6 [[.z, .b, .z, .b, .z, .b], [.b, .z, .z, .b, .z, .b], [.a, .a, .z, .b, .z, .b], [.b, .b, .b, .z, .z, .b], [.a, .a, .a, .a, .z, .b], [.b, .b, .b, .b, .b, .z]] [false, true, false, false, true, true, false, false, false, false, false, false, false, false, true, true, true, false, false, false, false, false, false, false, false, false, false, false, false, false, false, false, false, false, false, false, false, false, false, false, false, false, false, false, false, false, false, false, false, false, false, false, false, false, false, false, false, false, false, false, false, false, false, false, false, false, false, false, false, false, false, false, false, false, false, false, false, false, false, false, false, false, false, false, false, false, false, false, false] [128, 120, 112, 40, 32] (s1 := ⟨[.bot, I p2, .bot, .bot, .pt 32 0, .pt 40 0, .bot, .bot, .bot, .bot, .bot, .bot, .bot, .bot, .pt 112 0, .pt 120 0, .pt 128 0, .bot, .bot, .bot, .bot, .bot, .bot, .bot, .bot, .bot, .bot, .bot, .bot, .bot, .bot, .bot, .bot, .bot, .bot, .bot, .bot, .bot, .bot, .bot, .bot, .bot, .bot, .bot, .bot, .bot, .bot, .bot, .bot, .bot, .bot, .bot, .bot, .bot, .bot, .bot, .bot, .bot, .bot, .bot, .bot, .bot, .bot, .bot, .bot, .bot, .bot, .bot, .bot, .bot, .bot, .bot, .bot, .bot, .bot, .bot, .bot, .bot, .bot, .bot, .bot, .bot, .bot, .bot, .bot, .bot, .bot, .bot, .bot], [(128, .box [Ti y24.1, Ti y24.2.1, Ti y24.2.2.1, Ti y24.2.2.2]), (120, .box [Ti y22.2.1, Ti y22.2.2.1, Ti y22.2.2.2.1, Ti y22.2.2.2.2]), (112, .box [Ti y22.1.1, Ti y22.1.2.1, Ti y22.1.2.2]), (40, .box [Ti 0, Ti 0, Ti 0, Ti 0]), (32, .box [Ti 0, Ti 0, Ti 0])]⟩) (by kernel_rfl) (by kernel_rfl) ?_ ?_
  · refine DE_0 0 (.ag [Ti y3.2.1, Ti y3.2.2.1, Ti y3.2.2.2.1, Ti y3.2.2.2.2]) (by kernel_rfl) rfl rfl rfl (gsat_none rfl) (by kernel_rfl) (E_loadn (cs := [Ti y3.2.1, Ti y3.2.2.1, Ti y3.2.2.2.1, Ti y3.2.2.2.2]) [Ti y3.2.1, Ti y3.2.2.1, Ti y3.2.2.2.1, Ti y3.2.2.2.2] wd38 rfl (by kernel_rfl) (Nat.le_of_ble_eq_true rfl) (by kernel_rfl)) 75 rfl ?_
    refine DE_0 1 (.ag [Ti y5.2.1, Ti y5.2.2.1, Ti y5.2.2.2.1, Ti y5.2.2.2.2]) (by kernel_rfl) rfl rfl rfl (gsat_none rfl) (by kernel_rfl) (E_loadn (cs := [Ti y5.2.1, Ti y5.2.2.1, Ti y5.2.2.2.1, Ti y5.2.2.2.2]) [Ti y5.2.1, Ti y5.2.2.1, Ti y5.2.2.2.1, Ti y5.2.2.2.2] wd38 rfl (by kernel_rfl) (Nat.le_of_ble_eq_true rfl) (by kernel_rfl)) 76 rfl ?_
    refine DE_1 2 (by kernel_rfl) rfl rfl rfl (gsat_none rfl) (Y1_call (s_impl_Matrix_times hy23) cf_impl_Matrix_times rfl (by kernel_rfl)) rfl rfl rfl 77 rfl ?_
    refine DE_0 3 (.ag [Ti y6.1, Ti o12.1, Ti y6.2.2.1, Ti y6.2.2.2]) (by kernel_rfl) rfl rfl rfl (gsat_none rfl) (by kernel_rfl) (E_loadn (cs := [Ti y6.1, Ti o12.1, Ti y6.2.2.1, Ti y6.2.2.2]) [Ti y6.1, Ti o12.1, Ti y6.2.2.1, Ti y6.2.2.2] wd38 rfl (by kernel_rfl) (Nat.le_of_ble_eq_true rfl) (by kernel_rfl)) 78 rfl ?_
    refine DE_1 4 (by kernel_rfl) rfl rfl rfl (gsat_none rfl) (Y1_call (s_impl_Matrix_times hy24) cf_impl_Matrix_times rfl (by kernel_rfl)) rfl rfl rfl 79 rfl ?_
    refine DE_1 5 (by kernel_rfl) rfl rfl rfl (gsat_none rfl) (Y1_alloc (z := zv38) rfl zf38 rfl) rfl rfl rfl 16 rfl ?_
    refine DL_nil (by kernel_rfl) ?_
    refine XL_cons rfl (E_store (id := 128) (off := 0) (cs := [Ti 0, Ti 0, Ti 0, Ti 0]) (vc := [Ti y24.1, Ti y24.2.1, Ti y24.2.2.1, Ti y24.2.2.2]) [Ti y24.1, Ti y24.2.1, Ti y24.2.2.1, Ti y24.2.2.2] rfl rfl (by kernel_rfl) (by kernel_rfl) (by kernel_rfl) sz38 (Nat.le_of_ble_eq_true rfl) (by kernel_rfl)) ?_
    refine XL_nil ?_
    kernel_rfl
  obtain ⟨y25, hy25, h⟩ := of_bind h
  obtain ⟨y26, hy26, h⟩ := of_bind h
  obtain ⟨y27, hy27, h⟩ := of_bind h
  obtain ⟨y28, hy28, h⟩ := of_bind h
  refine V_sdreg [0, 0, 2, 0, 8, 30, 0, 126, 254, 511, 1023] 9 [[.z, .b, .b, .b, .b, .b, .b, .b, .b], [.b, .z, .z, .b, .b, .z, .b, .z, .z], [.b, .a, .z, .b, .b, .z, .b, .z, .z], [.b, .b, .b, .z, .z, .z, .b, .z, .z], [.b, .b, .b, .a, .z, .z, .b, .z, .z], [.b, .a, .a, .a, .a, .z, .b, .z, .z], [.b, .b, .b, .b, .b, .b, .z, .z, .z], [.b, .a, .a, .a, .a, .a, .a, .z, .z], [.b, .a, .a, .a, .a, .a, .a, .a, .z]] [false, false, false, false, true, true, false, false, false, false, false, false, false, false, false, false, false, false, false, false, false, false, false, false, false, false, false, false, false, false, false, false, false, false, false, false, false, false, false, false, false, false, false, false, false, false, false, false, false, false, false, false, false, false, false, false, false, false, false, false, false, false, false, false, false, false, false, false, false, false, false, false, false, false, false, false, false, false, false, false, false, false, false, false, false, false, false, false, false] [40, 32] (s1 := ⟨[.bot, .bot, .bot, .bot, .pt 32 0, .pt 40 0, .bot, .bot, .bot, .bot, .bot, .bot, .bot, .bot, .bot, .bot, .bot, .bot, .bot, .bot, .bot, .bot, .bot, .bot, .bot, .bot, .bot, .bot, .bot, .bot, .bot, .bot, .bot, .bot, .bot, .bot, .bot, .bot, .bot, .bot, .bot, .bot, .bot, .bot, .bot, .bot, .bot, .bot, .bot, .bot, .bot, .bot, .bot, .bot, .bot, .bot, .bot, .bot, .bot, .bot, .bot, .bot, .bot, .bot, .bot, .bot, .bot, .bot, .bot, .bot, .bot, .bot, .bot, .bot, .bot, .bot, .bot, .bot, .bot, .bot, .bot, .bot, .bot, .bot, .bot, .bot, .bot, .bot, .bot], [(40, .box [Ti y28.1, Ti y28.2.1, Ti y28.2.2.1, Ti y28.2.2.2]), (32, .box [Ti y22.1.1, Ti y22.1.2.1, Ti y22.1.2.2])]⟩) (by kernel_rfl) (by kernel_rfl) ?_ ?_
  · refine DE_0 0 (.ag [Ti y22.1.1, Ti y22.1.2.1, Ti y22.1.2.2]) (by kernel_rfl) rfl rfl rfl (gsat_none rfl) (by kernel_rfl) (E_loadn (cs := [Ti y22.1.1, Ti y22.1.2.1, Ti y22.1.2.2]) [Ti y22.1.1, Ti y22.1.2.1, Ti y22.1.2.2] wd36 rfl (by kernel_rfl) (Nat.le_of_ble_eq_true rfl) (by kernel_rfl)) 80 rfl ?_
    refine DE_0 1 (.ag [Ti y22.2.1, Ti y22.2.2.1, Ti y22.2.2.2.1, Ti y22.2.2.2.2]) (by kernel_rfl) rfl rfl rfl (gsat_none rfl) (by kernel_rfl) (E_loadn (cs := [Ti y22.2.1, Ti y22.2.2.1, Ti y22.2.2.2.1, Ti y22.2.2.2.2]) [Ti y22.2.1, Ti y22.2.2.1, Ti y22.2.2.2.1, Ti y22.2.2.2.2] wd38 rfl (by kernel_rfl) (Nat.le_of_ble_eq_true rfl) (by kernel_rfl)) 81 rfl ?_
    refine DE_1 2 (by kernel_rfl) rfl rfl rfl (gsat_none rfl) (Y1_call (s_impl_Matrix_inverse hy25) cf_impl_Matrix_inverse rfl (by kernel_rfl)) rfl rfl rfl 82 rfl ?_
    refine DE_0 3 (I p2) (by kernel_rfl) rfl rfl rfl (gsat_none rfl) (by kernel_rfl) (E_move (I p2) rfl (by kernel_rfl)) 83 rfl ?_
    refine DE_0 4 (.ag [Ti 1, Ti 0, Ti 0, Ti p2]) (by kernel_rfl) rfl rfl rfl (gsat_none rfl) (by kernel_rfl) (Y0_build (cs := [Ti 1, Ti 0, Ti 0, Ti p2]) pl38 bt38 rfl rfl (by kernel_rfl)) 84 rfl ?_
    refine DE_1 5 (by kernel_rfl) rfl rfl rfl (gsat_none rfl) (Y1_call (s_impl_Matrix_times hy26) cf_impl_Matrix_times rfl (by kernel_rfl)) rfl rfl rfl 85 rfl ?_
    refine DE_0 6 (.ag [Ti y24.1, Ti y24.2.1, Ti y24.2.2.1, Ti y24.2.2.2]) (by kernel_rfl) rfl rfl rfl (gsat_none rfl) (by kernel_rfl) (E_loadn (cs := [Ti y24.1, Ti y24.2.1, Ti y24.2.2.1, Ti y24.2.2.2]) [Ti y24.1, Ti y24.2.1, Ti y24.2.2.1, Ti y24.2.2.2] wd38 rfl (by kernel_rfl) (Nat.le_of_ble_eq_true rfl) (by kernel_rfl)) 86 rfl ?_
    refine DE_1 7 (by kernel_rfl) rfl rfl rfl (gsat_none rfl) (Y1_call (s_impl_Matrix_inverse hy27) cf_impl_Matrix_inverse rfl (by kernel_rfl)) rfl rfl rfl 87 rfl ?_
    refine DE_1 8 (by kernel_rfl) rfl rfl rfl (gsat_none rfl) (Y1_call (s_impl_Matrix_times hy28) cf_impl_Matrix_times rfl (by kernel_rfl)) rfl rfl rfl 88 rfl ?_
    refine DL_nil (by kernel_rfl) ?_
    refine XL_cons rfl (E_store (id := 32) (off := 0) (cs := [Ti 0, Ti 0, Ti 0]) (vc := [Ti y22.1.1, Ti y22.1.2.1, Ti y22.1.2.2]) [Ti y22.1.1, Ti y22.1.2.1, Ti y22.1.2.2] rfl rfl (by kernel_rfl) (by kernel_rfl) (by kernel_rfl) sz36 (Nat.le_of_ble_eq_true rfl) (by kernel_rfl)) ?_
    refine XL_cons rfl (E_store (id := 40) (off := 0) (cs := [Ti 0, Ti 0, Ti 0, Ti 0]) (vc := [Ti y28.1, Ti y28.2.1, Ti y28.2.2.1, Ti y28.2.2.2]) [Ti y28.1, Ti y28.2.1, Ti y28.2.2.1, Ti y28.2.2.2] rfl rfl (by kernel_rfl) (by kernel_rfl) (by kernel_rfl) sz38 (Nat.le_of_ble_eq_true rfl) (by kernel_rfl)) ?_
    refine XL_nil ?_
    kernel_rfl
  refine V_ret ?_
  obtain rfl := some_inj h
  show Post _ _ _ _ _
  exact ⟨.inr rfl, rfl, rfl, rfl⟩
theorem cf_impl_DescendForm : ∀ args w, (callFunc 35 args).run Try.prog w = .ok (.enter 35 args) w := run_callFunc Try.func35 (by kernel_rfl) (by kernel_rfl)
set_option maxRecDepth 100000 in
set_option maxHeartbeats 400000 in
theorem s_impl_DescendForm {f1 : (Int × Int × Int)} {p2 : Int} {r : (((Int × Int × Int)) × Bool)} (h : r_impl_DescendForm f1 p2 = some r) : CallS Try.prog 35 [.ag [Ti f1.1, Ti f1.2.1, Ti f1.2.2], I p2] (.tc (.ag [Ti r.1.1, Ti r.1.2.1, Ti r.1.2.2]) (.tc (Bo r.2) .tn)) [] := by
  refine CallS_of_text (rs := [.w 4 3, .t 5]) (vs := [.cell 4 36, .tmp 5]) Try.func35 rfl rfl (.cons ⟨rfl, wd36⟩ (.cons rfl FitsL.nil)) (by decide) 20 rfl ?_
  unfold r_impl_DescendForm at h
  show V _ _ ⟨[.ag [Ti f1.1, Ti f1.2.1, Ti f1.2.2], I p2, .bot, .bot, .bot, .bot, .bot, .bot, .bot, .bot, .bot, .bot, .bot, .bot, .bot, .bot, .bot, .bot, .bot, .bot], []⟩ _
  refine V_sreg [false, true, true, false, true, false, false, false, false, false, false, false, false, false, false, false, false, false, false, false] [32, 16] (s1 := ⟨[.bot, I p2, .pt 16 0, .bot, .pt 32 0, .bot, .bot, .bot, .bot, .bot, .bot, .bot, .bot, .bot, .bot, .bot, .bot, .bot, .bot, .bot], [(32, .box [Ti 0, Ti 0, Ti 0]), (16, .box [Ti f1.1, Ti f1.2.1, Ti f1.2.2])]⟩) ?_ ?_
  · refine XL_cons rfl (X_of_Y1 rfl (Y1_box (cs := [Ti f1.1, Ti f1.2.1, Ti f1.2.2]) rfl (by kernel_rfl))) ?_
    refine XL_cons rfl (X_of_Y1 rfl (Y1_alloc (z := zv36) rfl zf36 rfl)) ?_
    refine XL_cons rfl (X_of_Y0 rfl (E_assign (Bo false) rfl (by kernel_rfl))) ?_
    refine XL_nil ?_
    kernel_rfl
  refine V_seq ?_
  obtain ⟨y3, hy3, h⟩ := of_bind h
  refine V_sreg [false, true, true, false, true, false, false, false, false, false, false, true, false, false, false, false, false, false, false, false] [32, 16] (s1 := ⟨[.bot, I p2, .pt 16 0, .bot, .pt 32 0, .bot, .bot, .bot, .bot, .bot, .bot, Bo (!y3), .bot, .bot, .bot, .bot, .bot, .bot, .bot, .bot], [(32, .box [Ti 0, Ti 0, Ti 0]), (16, .box [Ti f1.1, Ti f1.2.1, Ti f1.2.2])]⟩) ?_ ?_
  · refine XL_cons rfl (X_of_Y0 rfl (E_loadn (cs := [Ti f1.1, Ti f1.2.1, Ti f1.2.2]) [Ti f1.1, Ti f1.2.1, Ti f1.2.2] wd36 rfl (by kernel_rfl) (Nat.le_of_ble_eq_true rfl) (by kernel_rfl))) ?_
    refine XL_cons rfl (X_of_Y0 rfl (E_move (I p2) rfl (by kernel_rfl))) ?_
    refine XL_cons rfl (X_of_Y1 rfl (Y1_call (s_impl_canDescend hy3) cf_impl_canDescend rfl (by kernel_rfl))) ?_
    refine XL_cons rfl (X_of_Y0 rfl (Y0_not (b := y3) rfl (by kernel_rfl))) ?_
    refine XL_nil ?_
    kernel_rfl
  refine V_cond rfl (fun hc4 => ?_) (fun hc4 => ?_)
  · have h := of_true h hc4
    refine V_sreg [false, false, false, false, true, true, false, false, false, false, false, false, false, false, false, false, false, false, false, false] [32] (s1 := ⟨[.bot, .bot, .bot, .bot, .pt 32 0, Bo false, .bot, .bot, .bot, .bot, .bot, .bot, .bot, .bot, .bot, .bot, .bot, .bot, .bot, .bot], [(32, .box [Ti 0, Ti 0, Ti 0])]⟩) ?_ ?_
    · refine XL_cons rfl (X_of_Y0 rfl (Y0_build (cs := [Ti 0, Ti 0, Ti 0]) pl36 bt36 rfl rfl (by kernel_rfl))) ?_
      refine XL_cons rfl (E_store (id := 32) (off := 0) (cs := [Ti 0, Ti 0, Ti 0]) (vc := [Ti 0, Ti 0, Ti 0]) [Ti 0, Ti 0, Ti 0] rfl rfl (by kernel_rfl) (by kernel_rfl) (by kernel_rfl) sz36 (Nat.le_of_ble_eq_true rfl) (by kernel_rfl)) ?_
      refine XL_cons rfl (X_of_Y0 rfl (E_assign (Bo false) rfl (by kernel_rfl))) ?_
      refine XL_nil ?_
      kernel_rfl
    refine V_ret ?_
    obtain rfl := some_inj h
    show Post _ _ _ _ _
    exact ⟨.inr rfl, rfl, rfl, rfl⟩
  · have h := of_false h hc4
    refine V_skip ?_
    show V _ _ _ _
    obtain ⟨y5, hy5, h⟩ := of_bind h
    refine V_sreg [false, false, false, false, true, false, true, false, false, false, false, false, false, false, false, false, false, false, false, false] [48, 32] (s1 := ⟨[.bot, .bot, .bot, .bot, .pt 32 0, .bot, .pt 48 0, .bot, .bot, .bot, .bot, .bot, .bot, .bot, .bot, .bot, .bot, .bot, .bot, .bot], [(48, .box [Ti y5.1.1, Ti y5.1.2.1, Ti y5.1.2.2]), (32, .box [Ti 0, Ti 0, Ti 0])]⟩) ?_ ?_
    · refine XL_cons rfl (X_of_Y0 rfl (E_loadn (cs := [Ti f1.1, Ti f1.2.1, Ti f1.2.2]) [Ti f1.1, Ti f1.2.1, Ti f1.2.2] wd36 rfl (by kernel_rfl) (Nat.le_of_ble_eq_true rfl) (by kernel_rfl))) ?_
      refine XL_cons rfl (X_of_Y0 rfl (E_move (I p2) rfl (by kernel_rfl))) ?_
      refine XL_cons rfl (X_of_Y1 rfl (Y1_call (s_impl_descend hy5) cf_impl_descend rfl (by kernel_rfl))) ?_
      refine XL_cons rfl (X_of_Y0 rfl (E_move (.tc (.ag [Ti y5.1.1, Ti y5.1.2.1, Ti y5.1.2.2]) (.tc (.ag [Ti y5.2.1, Ti y5.2.2.1, Ti y5.2.2.2.1, Ti y5.2.2.2.2]) .tn)) rfl (by kernel_rfl))) ?_
      refine XL_cons rfl (X_of_Y0 rfl (E_ext (n := 0) (.ag [Ti y5.1.1, Ti y5.1.2.1, Ti y5.1.2.2]) (.tc (.ag [Ti y5.2.1, Ti y5.2.2.1, Ti y5.2.2.2.1, Ti y5.2.2.2.2]) .tn) (.ag [Ti y5.1.1, Ti y5.1.2.1, Ti y5.1.2.2]) rfl (by kernel_rfl) (by kernel_rfl) (by intro hh; cases hh))) ?_
      refine XL_cons rfl (X_of_Y0 rfl (E_ext (n := 1) (.ag [Ti y5.1.1, Ti y5.1.2.1, Ti y5.1.2.2]) (.tc (.ag [Ti y5.2.1, Ti y5.2.2.1, Ti y5.2.2.2.1, Ti y5.2.2.2.2]) .tn) (.ag [Ti y5.2.1, Ti y5.2.2.1, Ti y5.2.2.2.1, Ti y5.2.2.2.2]) rfl (by kernel_rfl) (by kernel_rfl) (by intro hh; cases hh))) ?_
      refine XL_cons rfl (X_of_Y1 rfl (Y1_alloc (z := zv36) rfl zf36 rfl)) ?_
      refine XL_cons rfl (X_of_Y1 rfl (Y1_alloc (z := zv38) rfl zf38 rfl)) ?_
      refine XL_cons rfl (E_store (id := 48) (off := 0) (cs := [Ti 0, Ti 0, Ti 0]) (vc := [Ti y5.1.1, Ti y5.1.2.1, Ti y5.1.2.2]) [Ti y5.1.1, Ti y5.1.2.1, Ti y5.1.2.2] rfl rfl (by kernel_rfl) (by kernel_rfl) (by kernel_rfl) sz36 (Nat.le_of_ble_eq_true rfl) (by kernel_rfl)) ?_
      refine XL_cons rfl (E_store (id := 56) (off := 0) (cs := [Ti 0, Ti 0, Ti 0, Ti 0]) (vc := [Ti y5.2.1, Ti y5.2.2.1, Ti y5.2.2.2.1, Ti y5.2.2.2.2]) [Ti y5.2.1, Ti y5.2.2.1, Ti y5.2.2.2.1, Ti y5.2.2.2.2] rfl rfl (by kernel_rfl) (by kernel_rfl) (by kernel_rfl) sz38 (Nat.le_of_ble_eq_true rfl) (by kernel_rfl)) ?_
      refine XL_nil ?_
      kernel_rfl
    refine V_sreg [false, false, false, false, true, true, false, false, false, false, false, false, false, false, false, false, false, false, false, false] [32] (s1 := ⟨[.bot, .bot, .bot, .bot, .pt 32 0, Bo true, .bot, .bot, .bot, .bot, .bot, .bot, .bot, .bot, .bot, .bot, .bot, .bot, .bot, .bot], [(32, .box [Ti y5.1.1, Ti y5.1.2.1, Ti y5.1.2.2])]⟩) ?_ ?_
    · refine XL_cons rfl (X_of_Y0 rfl (E_loadn (cs := [Ti y5.1.1, Ti y5.1.2.1, Ti y5.1.2.2]) [Ti y5.1.1, Ti y5.1.2.1, Ti y5.1.2.2] wd36 rfl (by kernel_rfl) (Nat.le_of_ble_eq_true rfl) (by kernel_rfl))) ?_
      refine XL_cons rfl (E_store (id := 32) (off := 0) (cs := [Ti 0, Ti 0, Ti 0]) (vc := [Ti y5.1.1, Ti y5.1.2.1, Ti y5.1.2.2]) [Ti y5.1.1, Ti y5.1.2.1, Ti y5.1.2.2] rfl rfl (by kernel_rfl) (by kernel_rfl) (by kernel_rfl) sz36 (Nat.le_of_ble_eq_true rfl) (by kernel_rfl)) ?_
      refine XL_cons rfl (X_of_Y0 rfl (E_assign (Bo true) rfl (by kernel_rfl))) ?_
      refine XL_nil ?_
      kernel_rfl
    refine V_ret ?_
    obtain rfl := some_inj h
    show Post _ _ _ _ _
    exact ⟨.inr rfl, rfl, rfl, rfl⟩
theorem cf_laws_eqForm : ∀ args w, (callFunc 36 args).run Try.prog w = .ok (.enter 36 args) w := run_callFunc Try.func36 (by kernel_rfl) (by kernel_rfl)
set_option maxRecDepth 100000 in
set_option maxHeartbeats 400000 in
theorem s_laws_eqForm {a1 : (Int × Int × Int)} {b2 : (Int × Int × Int)} {r : Bool} (h : r_laws_eqForm a1 b2 = some r) : CallS Try.prog 36 [.ag [Ti a1.1, Ti a1.2.1, Ti a1.2.2], .ag [Ti b2.1, Ti b2.2.1, Ti b2.2.2]] (Bo r) [] := by
  refine CallS_of_text (rs := [.t 4]) (vs := [.tmp 4]) Try.func36 rfl rfl (.cons rfl FitsL.nil) (by decide) 20 rfl ?_
  unfold r_laws_eqForm at h
  show V _ _ ⟨[.ag [Ti a1.1, Ti a1.2.1, Ti a1.2.2], .ag [Ti b2.1, Ti b2.2.1, Ti b2.2.2], .bot, .bot, .bot, .bot, .bot, .bot, .bot, .bot, .bot, .bot, .bot, .bot, .bot, .bot, .bot, .bot, .bot, .bot], []⟩ _
  refine V_sreg [false, false, true, true, false, false, false, false, false, false, false, false, false, false, false, false, false, false, false, false] [24, 16] (s1 := ⟨[.bot, .bot, .pt 16 0, .pt 24 0, .bot, .bot, .bot, .bot, .bot, .bot, .bot, .bot, .bot, .bot, .bot, .bot, .bot, .bot, .bot, .bot], [(24, .box [Ti b2.1, Ti b2.2.1, Ti b2.2.2]), (16, .box [Ti a1.1, Ti a1.2.1, Ti a1.2.2])]⟩) ?_ ?_
  · refine XL_cons rfl (X_of_Y1 rfl (Y1_box (cs := [Ti a1.1, Ti a1.2.1, Ti a1.2.2]) rfl (by kernel_rfl))) ?_
    refine XL_cons rfl (X_of_Y1 rfl (Y1_box (cs := [Ti b2.1, Ti b2.2.1, Ti b2.2.2]) rfl (by kernel_rfl))) ?_
    refine XL_cons rfl (X_of_Y0 rfl (E_assign (Bo false) rfl (by kernel_rfl))) ?_
    refine XL_nil ?_
    kernel_rfl
  refine V_seq ?_
  refine V_sreg [false, false, true, true, false, false, false, false, false, true, false, false, false, false, false, false, false, false, false, false] [24, 16] (s1 := ⟨[.bot, .bot, .pt 16 0, .pt 24 0, .bot, .bot, .bot, .bot, .bot, Bo (!eqI a1.1 b2.1), .bot, .bot, .bot, .bot, .bot, .bot, .bot, .bot, .bot, .bot], [(24, .box [Ti b2.1, Ti b2.2.1, Ti b2.2.2]), (16, .box [Ti a1.1, Ti a1.2.1, Ti a1.2.2])]⟩) ?_ ?_
  · refine XL_cons rfl (X_of_Y0 rfl (E_field (.pt 16 0) Try.underlying36 rfl sz3 rfl (by kernel_rfl) (by intro hh; cases hh))) ?_
    refine XL_cons rfl (X_of_Y0 rfl (Y0_load1 (c := Ti a1.1) (cs := [Ti a1.2.1, Ti a1.2.2]) sc3 rfl (by kernel_rfl))) ?_
    refine XL_cons rfl (X_of_Y0 rfl (E_field (.pt 24 0) Try.underlying36 rfl sz3 rfl (by kernel_rfl) (by intro hh; cases hh))) ?_
    refine XL_cons rfl (X_of_Y0 rfl (Y0_load1 (c := Ti b2.1) (cs := [Ti b2.2.1, Ti b2.2.2]) sc3 rfl (by kernel_rfl))) ?_
    refine XL_cons rfl (X_of_Y0 rfl (Y0_new (k := .i64) (a := a1.1) (b := b2.1) rfl (by kernel_rfl) (by kernel_rfl))) ?_
    refine XL_nil ?_
    kernel_rfl
  refine V_cond rfl (fun hc3 => ?_) (fun hc3 => ?_)
  · have h := of_true h hc3
    refine V_sreg [false, false, false, false, true, false, false, false, false, false, false, false, false, false, false, false, false, false, false, false] [] (s1 := ⟨[.bot, .bot, .bot, .bot, Bo false, .bot, .bot, .bot, .bot, .bot, .bot, .bot, .bot, .bot, .bot, .bot, .bot, .bot, .bot, .bot], []⟩) ?_ ?_
    · refine XL_cons rfl (X_of_Y0 rfl (E_assign (Bo false) rfl (by kernel_rfl))) ?_
      refine XL_nil ?_
      kernel_rfl
    refine V_ret ?_
    obtain rfl := some_inj h
    show Post _ _ _ _ _
    exact ⟨.inr rfl, rfl, rfl, rfl⟩
  · have h := of_false h hc3
    refine V_skip ?_
    show V _ _ _ _
    refine V_seq ?_
    refine V_sreg [false, false, true, true, false, false, false, false, false, false, false, false, false, false, true, false, false, false, false, false] [24, 16] (s1 := ⟨[.bot, .bot, .pt 16 0, .pt 24 0, .bot, .bot, .bot, .bot, .bot, .bot, .bot, .bot, .bot, .bot, Bo (!eqI a1.2.1 b2.2.1), .bot, .bot, .bot, .bot, .bot], [(24, .box [Ti b2.1, Ti b2.2.1, Ti b2.2.2]), (16, .box [Ti a1.1, Ti a1.2.1, Ti a1.2.2])]⟩) ?_ ?_
    · refine XL_cons rfl (X_of_Y0 rfl (E_field (.pt 16 1) Try.underlying36 rfl sz3 rfl (by kernel_rfl) (by intro hh; cases hh))) ?_
      refine XL_cons rfl (X_of_Y0 rfl (Y0_load1 (c := Ti a1.2.1) (cs := [Ti a1.2.2]) sc3 rfl (by kernel_rfl))) ?_
      refine XL_cons rfl (X_of_Y0 rfl (E_field (.pt 24 1) Try.underlying36 rfl sz3 rfl (by kernel_rfl) (by intro hh; cases hh))) ?_
      refine XL_cons rfl (X_of_Y0 rfl (Y0_load1 (c := Ti b2.2.1) (cs := [Ti b2.2.2]) sc3 rfl (by kernel_rfl))) ?_
      refine XL_cons rfl (X_of_Y0 rfl (Y0_new (k := .i64) (a := a1.2.1) (b := b2.2.1) rfl (by kernel_rfl) (by kernel_rfl))) ?_
      refine XL_nil ?_
      kernel_rfl
    refine V_cond rfl (fun hc4 => ?_) (fun hc4 => ?_)
    · have h := of_true h hc4
      refine V_sreg [false, false, false, false, true, false, false, false, false, false, false, false, false, false, false, false, false, false, false, false] [] (s1 := ⟨[.bot, .bot, .bot, .bot, Bo false, .bot, .bot, .bot, .bot, .bot, .bot, .bot, .bot, .bot, .bot, .bot, .bot, .bot, .bot, .bot], []⟩) ?_ ?_
      · refine XL_cons rfl (X_of_Y0 rfl (E_assign (Bo false) rfl (by kernel_rfl))) ?_
        refine XL_nil ?_
        kernel_rfl
      refine V_ret ?_
      obtain rfl := some_inj h
      show Post _ _ _ _ _
      exact ⟨.inr rfl, rfl, rfl, rfl⟩
    · have h := of_false h hc4
      refine V_skip ?_
      show V _ _ _ _
      refine V_seq ?_
      refine V_sreg [false, false, false, false, false, false, false, false, false, false, false, false, false, false, false, false, false, false, false, true] [] (s1 := ⟨[.bot, .bot, .bot, .bot, .bot, .bot, .bot, .bot, .bot, .bot, .bot, .bot, .bot, .bot, .bot, .bot, .bot, .bot, .bot, Bo (!eqI a1.2.2 b2.2.2)], []⟩) ?_ ?_
      · refine XL_cons rfl (X_of_Y0 rfl (E_field (.pt 16 2) Try.underlying36 rfl sz3 rfl (by kernel_rfl) (by intro hh; cases hh))) ?_
        refine XL_cons rfl (X_of_Y0 rfl (Y0_load1 (c := Ti a1.2.2) (cs := []) sc3 rfl (by kernel_rfl))) ?_
        refine XL_cons rfl (X_of_Y0 rfl (E_field (.pt 24 2) Try.underlying36 rfl sz3 rfl (by kernel_rfl) (by intro hh; cases hh))) ?_
        refine XL_cons rfl (X_of_Y0 rfl (Y0_load1 (c := Ti b2.2.2) (cs := []) sc3 rfl (by kernel_rfl))) ?_
        refine XL_cons rfl (X_of_Y0 rfl (Y0_new (k := .i64) (a := a1.2.2) (b := b2.2.2) rfl (by kernel_rfl) (by kernel_rfl))) ?_
        refine XL_nil ?_
        kernel_rfl
      refine V_cond rfl (fun hc5 => ?_) (fun hc5 => ?_)
      · have h := of_true h hc5
        refine V_sreg [false, false, false, false, true, false, false, false, false, false, false, false, false, false, false, false, false, false, false, false] [] (s1 := ⟨[.bot, .bot, .bot, .bot, Bo false, .bot, .bot, .bot, .bot, .bot, .bot, .bot, .bot, .bot, .bot, .bot, .bot, .bot, .bot, .bot], []⟩) ?_ ?_
        · refine XL_cons rfl (X_of_Y0 rfl (E_assign (Bo false) rfl (by kernel_rfl))) ?_
          refine XL_nil ?_
          kernel_rfl
        refine V_ret ?_
        obtain rfl := some_inj h
        show Post _ _ _ _ _
        exact ⟨.inr rfl, rfl, rfl, rfl⟩
      · have h := of_false h hc5
        refine V_skip ?_
        show V _ _ _ _
        refine V_sreg [false, false, false, false, true, false, false, false, false, false, false, false, false, false, false, false, false, false, false, false] [] (s1 := ⟨[.bot, .bot, .bot, .bot, Bo true, .bot, .bot, .bot, .bot, .bot, .bot, .bot, .bot, .bot, .bot, .bot, .bot, .bot, .bot, .bot], []⟩) ?_ ?_
        · refine XL_cons rfl (X_of_Y0 rfl (E_assign (Bo true) rfl (by kernel_rfl))) ?_
          refine XL_nil ?_
          kernel_rfl
        refine V_ret ?_
        obtain rfl := some_inj h
        show Post _ _ _ _ _
        exact ⟨.inr rfl, rfl, rfl, rfl⟩
theorem cf_laws_FnExactDescendForm : ∀ args w, (callFunc 9 args).run Try.prog w = .ok (.enter 9 args) w := run_callFunc Try.func9 (by kernel_rfl) (by kernel_rfl)
set_option maxRecDepth 100000 in
set_option maxHeartbeats 400000 in
theorem s_laws_FnExactDescendForm {aF1 : (Int × Int × Int)} {aP2 : Int} {r : Bool} (h : r_laws_FnExactDescendForm aF1 aP2 = some r) : CallS Try.prog 9 [.ag [Ti aF1.1, Ti aF1.2.1, Ti aF1.2.2], I aP2] (Bo r) [] := by
  refine CallS_of_text (rs := [.t 4]) (vs := [.tmp 4]) Try.func9 rfl rfl (.cons rfl FitsL.nil) (by decide) 32 rfl ?_
  unfold r_laws_FnExactDescendForm at h
  show V _ _ ⟨[.ag [Ti aF1.1, Ti aF1.2.1, Ti aF1.2.2], I aP2, .bot, .bot, .bot, .bot, .bot, .bot, .bot, .bot, .bot, .bot, .bot, .bot, .bot, .bot, .bot, .bot, .bot, .bot, .bot, .bot, .bot, .bot, .bot, .bot, .bot, .bot, .bot, .bot, .bot, .bot], []⟩ _
  refine V_sreg [false, true, true, false, false, false, false, false, false, false, false, false, false, false, false, false, false, false, false, false, false, false, false, false, false, false, false, false, false, false, false, false] [16] (s1 := ⟨[.bot, I aP2, .pt 16 0, .bot, .bot, .bot, .bot, .bot, .bot, .bot, .bot, .bot, .bot, .bot, .bot, .bot, .bot, .bot, .bot, .bot, .bot, .bot, .bot, .bot, .bot, .bot, .bot, .bot, .bot, .bot, .bot, .bot], [(16, .box [Ti aF1.1, Ti aF1.2.1, Ti aF1.2.2])]⟩) ?_ ?_
  · refine XL_cons rfl (X_of_Y1 rfl (Y1_box (cs := [Ti aF1.1, Ti aF1.2.1, Ti aF1.2.2]) rfl (by kernel_rfl))) ?_
    refine XL_cons rfl (X_of_Y0 rfl (E_assign (Bo false) rfl (by kernel_rfl))) ?_
    refine XL_nil ?_
    kernel_rfl
  obtain ⟨y3, hy3, h⟩ := of_bind h
  obtain ⟨y4, hy4, h⟩ := of_bind h
  refine V_sreg [false, true, true, false, false, true, true, false, false, false, false, false, false, false, false, false, false, false, false, false, false, false, false, false, false, false, false, false, false, false, false, false] [40, 16] (s1 := ⟨[.bot, I aP2, .pt 16 0, .bot, .bot, .pt 40 0, Bo y4.2, .bot, .bot, .bot, .bot, .bot, .bot, .bot, .bot, .bot, .bot, .bot, .bot, .bot, .bot, .bot, .bot, .bot, .bot, .bot, .bot, .bot, .bot, .bot, .bot, .bot], [(40, .box [Ti y4.1.1, Ti y4.1.2.1, Ti y4.1.2.2]), (16, .box [Ti aF1.1, Ti aF1.2.1, Ti aF1.2.2])]⟩) ?_ ?_
  · refine XL_cons rfl (X_of_Y0 rfl (E_loadn (cs := [Ti aF1.1, Ti aF1.2.1, Ti aF1.2.2]) [Ti aF1.1, Ti aF1.2.1, Ti aF1.2.2] wd31 rfl (by kernel_rfl) (Nat.le_of_ble_eq_true rfl) (by kernel_rfl))) ?_
    refine XL_cons rfl (X_of_Y1 rfl (Y1_call (s_laws_toForm hy3) cf_laws_toForm rfl (by kernel_rfl))) ?_
    refine XL_cons rfl (X_of_Y0 rfl (E_move (I aP2) rfl (by kernel_rfl))) ?_
    refine XL_cons rfl (X_of_Y1 rfl (Y1_call (s_spec_DescendForm hy4) cf_spec_DescendForm rfl (by kernel_rfl))) ?_
    refine XL_cons rfl (X_of_Y0 rfl (E_move (.tc (.ag [Ti y4.1.1, Ti y4.1.2.1, Ti y4.1.2.2]) (.tc (Bo y4.2) .tn)) rfl (by kernel_rfl))) ?_
    refine XL_cons rfl (X_of_Y0 rfl (E_ext (n := 0) (.ag [Ti y4.1.1, Ti y4.1.2.1, Ti y4.1.2.2]) (.tc (Bo y4.2) .tn) (.ag [Ti y4.1.1, Ti y4.1.2.1, Ti y4.1.2.2]) rfl (by kernel_rfl) (by kernel_rfl) (by intro hh; cases hh))) ?_
    refine XL_cons rfl (X_of_Y0 rfl (E_ext (n := 1) (.ag [Ti y4.1.1, Ti y4.1.2.1, Ti y4.1.2.2]) (.tc (Bo y4.2) .tn) (Bo y4.2) rfl (by kernel_rfl) (by kernel_rfl) (by intro hh; cases hh))) ?_
    refine XL_cons rfl (X_of_Y1 rfl (Y1_alloc (z := zv36) rfl zf36 rfl)) ?_
    refine XL_cons rfl (E_store (id := 40) (off := 0) (cs := [Ti 0, Ti 0, Ti 0]) (vc := [Ti y4.1.1, Ti y4.1.2.1, Ti y4.1.2.2]) [Ti y4.1.1, Ti y4.1.2.1, Ti y4.1.2.2] rfl rfl (by kernel_rfl) (by kernel_rfl) (by kernel_rfl) sz36 (Nat.le_of_ble_eq_true rfl) (by kernel_rfl)) ?_
    refine XL_cons rfl (X_of_Y0 rfl (E_assign (Bo y4.2) rfl (by kernel_rfl))) ?_
    refine XL_nil ?_
    kernel_rfl
  obtain ⟨y5, hy5, h⟩ := of_bind h
  obtain ⟨y6, hy6, h⟩ := of_bind h
  refine V_sreg [false, false, false, false, false, true, true, true, true, false, false, false, false, false, false, false, false, false, false, false, false, false, false, false, false, false, false, false, false, false, false, false] [56, 40] (s1 := ⟨[.bot, .bot, .bot, .bot, .bot, .pt 40 0, Bo y4.2, .pt 56 0, Bo y6.2, .bot, .bot, .bot, .bot, .bot, .bot, .bot, .bot, .bot, .bot, .bot, .bot, .bot, .bot, .bot, .bot, .bot, .bot, .bot, .bot, .bot, .bot, .bot], [(56, .box [Ti y6.1.1, Ti y6.1.2.1, Ti y6.1.2.2]), (40, .box [Ti y4.1.1, Ti y4.1.2.1, Ti y4.1.2.2])]⟩) ?_ ?_
  · refine XL_cons rfl (X_of_Y0 rfl (E_loadn (cs := [Ti aF1.1, Ti aF1.2.1, Ti aF1.2.2]) [Ti aF1.1, Ti aF1.2.1, Ti aF1.2.2] wd31 rfl (by kernel_rfl) (Nat.le_of_ble_eq_true rfl) (by kernel_rfl))) ?_
    refine XL_cons rfl (X_of_Y1 rfl (Y1_call (s_laws_toForm hy5) cf_laws_toForm rfl (by kernel_rfl))) ?_
    refine XL_cons rfl (X_of_Y0 rfl (E_move (I aP2) rfl (by kernel_rfl))) ?_
    refine XL_cons rfl (X_of_Y1 rfl (Y1_call (s_impl_DescendForm hy6) cf_impl_DescendForm rfl (by kernel_rfl))) ?_
    refine XL_cons rfl (X_of_Y0 rfl (E_move (.tc (.ag [Ti y6.1.1, Ti y6.1.2.1, Ti y6.1.2.2]) (.tc (Bo y6.2) .tn)) rfl (by kernel_rfl))) ?_
    refine XL_cons rfl (X_of_Y0 rfl (E_ext (n := 0) (.ag [Ti y6.1.1, Ti y6.1.2.1, Ti y6.1.2.2]) (.tc (Bo y6.2) .tn) (.ag [Ti y6.1.1, Ti y6.1.2.1, Ti y6.1.2.2]) rfl (by kernel_rfl) (by kernel_rfl) (by intro hh; cases hh))) ?_
    refine XL_cons rfl (X_of_Y0 rfl (E_ext (n := 1) (.ag [Ti y6.1.1, Ti y6.1.2.1, Ti y6.1.2.2]) (.tc (Bo y6.2) .tn) (Bo y6.2) rfl (by kernel_rfl) (by kernel_rfl) (by intro hh; cases hh))) ?_
    refine XL_cons rfl (X_of_Y1 rfl (Y1_alloc (z := zv36) rfl zf36 rfl)) ?_
    refine XL_cons rfl (E_store (id := 56) (off := 0) (cs := [Ti 0, Ti 0, Ti 0]) (vc := [Ti y6.1.1, Ti y6.1.2.1, Ti y6.1.2.2]) [Ti y6.1.1, Ti y6.1.2.1, Ti y6.1.2.2] rfl rfl (by kernel_rfl) (by kernel_rfl) (by kernel_rfl) sz36 (Nat.le_of_ble_eq_true rfl) (by kernel_rfl)) ?_
    refine XL_cons rfl (X_of_Y0 rfl (E_assign (Bo y6.2) rfl (by kernel_rfl))) ?_
    refine XL_nil ?_
    kernel_rfl
  refine V_seq ?_
  obtain ⟨y7, hy7, h⟩ := of_bind h
  refine V_sreg [false, false, false, false, false, false, false, false, false, false, false, false, false, false, false, false, false, false, false, false, false, false, false, false, false, false, false, false, false, false, false, true] [] (s1 := ⟨[.bot, .bot, .bot, .bot, .bot, .bot, .bot, .bot, .bot, .bot, .bot, .bot, .bot, .bot, .bot, .bot, .bot, .bot, .bot, .bot, .bot, .bot, .bot, .bot, .bot, .bot, .bot, .bot, .bot, .bot, .bot, Bo (bif (!y7) then true else (y6.2 != y4.2))], []⟩) ?_ ?_
  · refine XL_cons rfl (X_of_Y0 rfl (E_loadn (cs := [Ti y6.1.1, Ti y6.1.2.1, Ti y6.1.2.2]) [Ti y6.1.1, Ti y6.1.2.1, Ti y6.1.2.2] wd36 rfl (by kernel_rfl) (Nat.le_of_ble_eq_true rfl) (by kernel_rfl))) ?_
    refine XL_cons rfl (X_of_Y0 rfl (E_loadn (cs := [Ti y4.1.1, Ti y4.1.2.1, Ti y4.1.2.2]) [Ti y4.1.1, Ti y4.1.2.1, Ti y4.1.2.2] wd36 rfl (by kernel_rfl) (Nat.le_of_ble_eq_true rfl) (by kernel_rfl))) ?_
    refine XL_cons rfl (X_of_Y1 rfl (Y1_call (s_laws_eqForm hy7) cf_laws_eqForm rfl (by kernel_rfl))) ?_
    refine XL_cons rfl (X_of_Y0 rfl (Y0_not (b := y7) rfl (by kernel_rfl))) ?_
    refine XL_cons rfl (X_of_Y0 rfl (E_move (Bo (!y7)) rfl (by kernel_rfl))) ?_
    refine XL_split (!y7) (fun hc8 => ?_) (fun hc8 => ?_)
    · refine XL_skipF (!y7) rfl rfl (by kernel_rfl) hc8 rfl ?_
      refine XL_skipF (!y7) rfl rfl (by kernel_rfl) hc8 rfl ?_
      refine XL_skipF (!y7) rfl rfl (by kernel_rfl) hc8 rfl ?_
      refine XL_cons rfl (X_of_Y0 rfl (Y0_pick1 (b := !y7) (p := true) (q := y6.2 != y4.2) rfl (by kernel_rfl) hc8 (by kernel_rfl))) ?_
      refine XL_nil ?_
      kernel_rfl
    · refine XL_takeC (!y7) rfl rfl (by kernel_rfl) hc8 (X_of_Y0 rfl (E_move (Bo y6.2) rfl (by kernel_rfl))) ?_
      refine XL_takeC (!y7) rfl rfl (by kernel_rfl) hc8 (X_of_Y0 rfl (E_move (Bo y4.2) rfl (by kernel_rfl))) ?_
      refine XL_takeC (!y7) rfl rfl (by kernel_rfl) hc8 (X_of_Y0 rfl (Y0_neb (a := y6.2) (b := y4.2) Try.underlying4 rfl (by kernel_rfl) (by kernel_rfl))) ?_
      refine XL_cons rfl (X_of_Y0 rfl (Y0_pick0 (b := !y7) (p := true) (q := y6.2 != y4.2) rfl (by kernel_rfl) hc8 (by kernel_rfl))) ?_
      refine XL_nil ?_
      kernel_rfl
  refine V_cond rfl (fun hc9 => ?_) (fun hc9 => ?_)
  · have h := of_true h hc9
    refine V_sreg [false, false, false, false, true, false, false, false, false, false, false, false, false, false, false, false, false, false, false, false, false, false, false, false, false, false, false, false, false, false, false, false] [] (s1 := ⟨[.bot, .bot, .bot, .bot, Bo false, .bot, .bot, .bot, .bot, .bot, .bot, .bot, .bot, .bot, .bot, .bot, .bot, .bot, .bot, .bot, .bot, .bot, .bot, .bot, .bot, .bot, .bot, .bot, .bot, .bot, .bot, .bot], []⟩) ?_ ?_
    · refine XL_cons rfl (X_of_Y0 rfl (E_assign (Bo false) rfl (by kernel_rfl))) ?_
      refine XL_nil ?_
      kernel_rfl
    refine V_ret ?_
    obtain rfl := some_inj h
    show Post _ _ _ _ _
    exact ⟨.inr rfl, rfl, rfl, rfl⟩
  · have h := of_false h hc9
    refine V_skip ?_
    show V _ _ _ _
    refine V_sreg [false, false, false, false, true, false, false, false, false, false, false, false, false, false, false, false, false, false, false, false, false, false, false, false, false, false, false, false, false, false, false, false] [] (s1 := ⟨[.bot, .bot, .bot, .bot, Bo true, .bot, .bot, .bot, .bot, .bot, .bot, .bot, .bot, .bot, .bot, .bot, .bot, .bot, .bot, .bot, .bot, .bot, .bot, .bot, .bot, .bot, .bot, .bot, .bot, .bot, .bot, .bot], []⟩) ?_ ?_
    · refine XL_cons rfl (X_of_Y0 rfl (E_assign (Bo true) rfl (by kernel_rfl))) ?_
      refine XL_nil ?_
      kernel_rfl
    refine V_ret ?_
    obtain rfl := some_inj h
    show Post _ _ _ _ _
    exact ⟨.inr rfl, rfl, rfl, rfl⟩
theorem cf_spec_foMatrix : ∀ args w, (callFunc 57 args).run Try.prog w = .ok (.enter 57 args) w := run_callFunc Try.func57 (by kernel_rfl) (by kernel_rfl)
set_option maxRecDepth 100000 in
set_option maxHeartbeats 400000 in
theorem s_spec_foMatrix {vm1 : (Int × Int × Int × Int)} {r : Bool} (h : r_spec_foMatrix vm1 = some r) : CallS Try.prog 57 [.ag [Ti vm1.1, Ti vm1.2.1, Ti vm1.2.2.1, Ti vm1.2.2.2]] (Bo r) [] := by
  refine CallS_of_text (rs := [.t 2]) (vs := [.tmp 2]) Try.func57 rfl rfl (.cons rfl FitsL.nil) (by decide) 21 rfl ?_
  unfold r_spec_foMatrix at h
  show V _ _ ⟨[.ag [Ti vm1.1, Ti vm1.2.1, Ti vm1.2.2.1, Ti vm1.2.2.2], .bot, .bot, .bot, .bot, .bot, .bot, .bot, .bot, .bot, .bot, .bot, .bot, .bot, .bot, .bot, .bot, .bot, .bot, .bot, .bot], []⟩ _
  refine V_sreg [false, true, false, false, false, false, false, false, false, false, false, false, false, false, false, false, false, false, false, false, false] [8] (s1 := ⟨[.bot, .pt 8 0, .bot, .bot, .bot, .bot, .bot, .bot, .bot, .bot, .bot, .bot, .bot, .bot, .bot, .bot, .bot, .bot, .bot, .bot, .bot], [(8, .box [Ti vm1.1, Ti vm1.2.1, Ti vm1.2.2.1, Ti vm1.2.2.2])]⟩) ?_ ?_
  · refine XL_cons rfl (X_of_Y1 rfl (Y1_box (cs := [Ti vm1.1, Ti vm1.2.1, Ti vm1.2.2.1, Ti vm1.2.2.2]) rfl (by kernel_rfl))) ?_
    refine XL_cons rfl (X_of_Y0 rfl (E_assign (Bo false) rfl (by kernel_rfl))) ?_
    refine XL_nil ?_
    kernel_rfl
  obtain ⟨y2, hy2, h⟩ := of_bind h
  obtain ⟨b5, hb5, h⟩ := of_bind h
  obtain ⟨b8, hb8, h⟩ := of_bind h
  obtain ⟨b11, hb11, h⟩ := of_bind h
  refine V_sreg [false, false, true, false, false, false, false, false, false, false, false, false, false, false, false, false, false, false, false, false, false] [] (s1 := ⟨[.bot, .bot, Bo b11, .bot, .bot, .bot, .bot, .bot, .bot, .bot, .bot, .bot, .bot, .bot, .bot, .bot, .bot, .bot, .bot, .bot, .bot], []⟩) ?_ ?_
  · refine XL_cons rfl (X_of_Y0 rfl (E_field (.pt 8 0) Try.underlying38 rfl sz3 rfl (by kernel_rfl) (by intro hh; cases hh))) ?_
    refine XL_cons rfl (X_of_Y0 rfl (Y0_load1 (c := Ti vm1.1) (cs := [Ti vm1.2.1, Ti vm1.2.2.1, Ti vm1.2.2.2]) sc3 rfl (by kernel_rfl))) ?_
    refine XL_cons rfl (X_of_Y1 rfl (Y1_call (s_spec_nuGood hy2) cf_spec_nuGood rfl (by kernel_rfl))) ?_
    refine XL_cons rfl (X_of_Y0 rfl (E_move (Bo y2) rfl (by kernel_rfl))) ?_
    refine XL_split y2 (fun hc3 => ?_) (fun hc3 => ?_)
    · have hb5 := of_true hb5 hc3
      obtain ⟨y4, hy4, hb5⟩ := of_bind hb5
      have hb5 := some_inj hb5
      refine XL_takeC (y2) rfl rfl (by kernel_rfl) hc3 (X_of_Y0 rfl (E_field (.pt 8 1) Try.underlying38 rfl sz3 rfl (by kernel_rfl) (by intro hh; cases hh))) ?_
      refine XL_takeC (y2) rfl rfl (by kernel_rfl) hc3 (X_of_Y0 rfl (Y0_load1 (c := Ti vm1.2.1) (cs := [Ti vm1.2.2.1, Ti vm1.2.2.2]) sc3 rfl (by kernel_rfl))) ?_
      refine XL_takeC (y2) rfl rfl (by kernel_rfl) hc3 (X_of_Y1 rfl (Y1_call (s_spec_nuGood hy4) cf_spec_nuGood rfl (by kernel_rfl))) ?_
      refine XL_cons rfl (X_of_Y0 rfl (Y0_pickTe (b := y2) (p := y4) rfl (by kernel_rfl) hc3 (by kernel_rfl) hb5)) ?_
      refine XL_cons rfl (X_of_Y0 rfl (E_move (Bo b5) rfl (by kernel_rfl))) ?_
      refine XL_split b5 (fun hc6 => ?_) (fun hc6 => ?_)
      · have hb8 := of_true hb8 hc6
        obtain ⟨y7, hy7, hb8⟩ := of_bind hb8
        have hb8 := some_inj hb8
        refine XL_takeC (b5) rfl rfl (by kernel_rfl) hc6 (X_of_Y0 rfl (E_field (.pt 8 2) Try.underlying38 rfl sz3 rfl (by kernel_rfl) (by intro hh; cases hh))) ?_
        refine XL_takeC (b5) rfl rfl (by kernel_rfl) hc6 (X_of_Y0 rfl (Y0_load1 (c := Ti vm1.2.2.1) (cs := [Ti vm1.2.2.2]) sc3 rfl (by kernel_rfl))) ?_
        refine XL_takeC (b5) rfl rfl (by kernel_rfl) hc6 (X_of_Y1 rfl (Y1_call (s_spec_nuGood hy7) cf_spec_nuGood rfl (by kernel_rfl))) ?_
        refine XL_cons rfl (X_of_Y0 rfl (Y0_pickTe (b := b5) (p := y7) rfl (by kernel_rfl) hc6 (by kernel_rfl) hb8)) ?_
        refine XL_cons rfl (X_of_Y0 rfl (E_move (Bo b8) rfl (by kernel_rfl))) ?_
        refine XL_split b8 (fun hc9 => ?_) (fun hc9 => ?_)
        · have hb11 := of_true hb11 hc9
          obtain ⟨y10, hy10, hb11⟩ := of_bind hb11
          have hb11 := some_inj hb11
          refine XL_takeC (b8) rfl rfl (by kernel_rfl) hc9 (X_of_Y0 rfl (E_field (.pt 8 3) Try.underlying38 rfl sz3 rfl (by kernel_rfl) (by intro hh; cases hh))) ?_
          refine XL_takeC (b8) rfl rfl (by kernel_rfl) hc9 (X_of_Y0 rfl (Y0_load1 (c := Ti vm1.2.2.2) (cs := []) sc3 rfl (by kernel_rfl))) ?_
          refine XL_takeC (b8) rfl rfl (by kernel_rfl) hc9 (X_of_Y1 rfl (Y1_call (s_spec_nuGood hy10) cf_spec_nuGood rfl (by kernel_rfl))) ?_
          refine XL_cons rfl (X_of_Y0 rfl (Y0_pickTe (b := b8) (p := y10) rfl (by kernel_rfl) hc9 (by kernel_rfl) hb11)) ?_
          refine XL_cons rfl (X_of_Y0 rfl (E_assign (Bo b11) rfl (by kernel_rfl))) ?_
          refine XL_nil ?_
          kernel_rfl
        · have hb11 := some_inj (of_false hb11 hc9)
          refine XL_skipT (b8) rfl rfl (by kernel_rfl) hc9 rfl ?_
          refine XL_skipT (b8) rfl rfl (by kernel_rfl) hc9 rfl ?_
          refine XL_skipT (b8) rfl rfl (by kernel_rfl) hc9 rfl ?_
          refine XL_cons rfl (X_of_Y0 rfl (Y0_pickFe (b := b8) (p := false) rfl (by kernel_rfl) hc9 (by kernel_rfl) hb11)) ?_
          refine XL_cons rfl (X_of_Y0 rfl (E_assign (Bo b11) rfl (by kernel_rfl))) ?_
          refine XL_nil ?_
          kernel_rfl
      · have hb8 := some_inj (of_false hb8 hc6)
        refine XL_skipT (b5) rfl rfl (by kernel_rfl) hc6 rfl ?_
        refine XL_skipT (b5) rfl rfl (by kernel_rfl) hc6 rfl ?_
        refine XL_skipT (b5) rfl rfl (by kernel_rfl) hc6 rfl ?_
        refine XL_cons rfl (X_of_Y0 rfl (Y0_pickFe (b := b5) (p := false) rfl (by kernel_rfl) hc6 (by kernel_rfl) hb8)) ?_
        refine XL_cons rfl (X_of_Y0 rfl (E_move (Bo b8) rfl (by kernel_rfl))) ?_
        refine XL_split b8 (fun hc9 => ?_) (fun hc9 => ?_)
        · have hb11 := of_true hb11 hc9
          obtain ⟨y10, hy10, hb11⟩ := of_bind hb11
          have hb11 := some_inj hb11
          refine XL_takeC (b8) rfl rfl (by kernel_rfl) hc9 (X_of_Y0 rfl (E_field (.pt 8 3) Try.underlying38 rfl sz3 rfl (by kernel_rfl) (by intro hh; cases hh))) ?_
          refine XL_takeC (b8) rfl rfl (by kernel_rfl) hc9 (X_of_Y0 rfl (Y0_load1 (c := Ti vm1.2.2.2) (cs := []) sc3 rfl (by kernel_rfl))) ?_
          refine XL_takeC (b8) rfl rfl (by kernel_rfl) hc9 (X_of_Y1 rfl (Y1_call (s_spec_nuGood hy10) cf_spec_nuGood rfl (by kernel_rfl))) ?_
          refine XL_cons rfl (X_of_Y0 rfl (Y0_pickTe (b := b8) (p := y10) rfl (by kernel_rfl) hc9 (by kernel_rfl) hb11)) ?_
          refine XL_cons rfl (X_of_Y0 rfl (E_assign (Bo b11) rfl (by kernel_rfl))) ?_
          refine XL_nil ?_
          kernel_rfl
        · have hb11 := some_inj (of_false hb11 hc9)
          refine XL_skipT (b8) rfl rfl (by kernel_rfl) hc9 rfl ?_
          refine XL_skipT (b8) rfl rfl (by kernel_rfl) hc9 rfl ?_
          refine XL_skipT (b8) rfl rfl (by kernel_rfl) hc9 rfl ?_
          refine XL_cons rfl (X_of_Y0 rfl (Y0_pickFe (b := b8) (p := false) rfl (by kernel_rfl) hc9 (by kernel_rfl) hb11)) ?_
          refine XL_cons rfl (X_of_Y0 rfl (E_assign (Bo b11) rfl (by kernel_rfl))) ?_
          refine XL_nil ?_
          kernel_rfl
    · have hb5 := some_inj (of_false hb5 hc3)
      refine XL_skipT (y2) rfl rfl (by kernel_rfl) hc3 rfl ?_
      refine XL_skipT (y2) rfl rfl (by kernel_rfl) hc3 rfl ?_
      refine XL_skipT (y2) rfl rfl (by kernel_rfl) hc3 rfl ?_
      refine XL_cons rfl (X_of_Y0 rfl (Y0_pickFe (b := y2) (p := false) rfl (by kernel_rfl) hc3 (by kernel_rfl) hb5)) ?_
      refine XL_cons rfl (X_of_Y0 rfl (E_move (Bo b5) rfl (by kernel_rfl))) ?_
      refine XL_split b5 (fun hc6 => ?_) (fun hc6 => ?_)
      · have hb8 := of_true hb8 hc6
        obtain ⟨y7, hy7, hb8⟩ := of_bind hb8
        have hb8 := some_inj hb8
        refine XL_takeC (b5) rfl rfl (by kernel_rfl) hc6 (X_of_Y0 rfl (E_field (.pt 8 2) Try.underlying38 rfl sz3 rfl (by kernel_rfl) (by intro hh; cases hh))) ?_
        refine XL_takeC (b5) rfl rfl (by kernel_rfl) hc6 (X_of_Y0 rfl (Y0_load1 (c := Ti vm1.2.2.1) (cs := [Ti vm1.2.2.2]) sc3 rfl (by kernel_rfl))) ?_
        refine XL_takeC (b5) rfl rfl (by kernel_rfl) hc6 (X_of_Y1 rfl (Y1_call (s_spec_nuGood hy7) cf_spec_nuGood rfl (by kernel_rfl))) ?_
        refine XL_cons rfl (X_of_Y0 rfl (Y0_pickTe (b := b5) (p := y7) rfl (by kernel_rfl) hc6 (by kernel_rfl) hb8)) ?_
        refine XL_cons rfl (X_of_Y0 rfl (E_move (Bo b8) rfl (by kernel_rfl))) ?_
        refine XL_split b8 (fun hc9 => ?_) (fun hc9 => ?_)
        · have hb11 := of_true hb11 hc9
          obtain ⟨y10, hy10, hb11⟩ := of_bind hb11
          have hb11 := some_inj hb11
          refine XL_takeC (b8) rfl rfl (by kernel_rfl) hc9 (X_of_Y0 rfl (E_field (.pt 8 3) Try.underlying38 rfl sz3 rfl (by kernel_rfl) (by intro hh; cases hh))) ?_
          refine XL_takeC (b8) rfl rfl (by kernel_rfl) hc9 (X_of_Y0 rfl (Y0_load1 (c := Ti vm1.2.2.2) (cs := []) sc3 rfl (by kernel_rfl))) ?_
          refine XL_takeC (b8) rfl rfl (by kernel_rfl) hc9 (X_of_Y1 rfl (Y1_call (s_spec_nuGood hy10) cf_spec_nuGood rfl (by kernel_rfl))) ?_
          refine XL_cons rfl (X_of_Y0 rfl (Y0_pickTe (b := b8) (p := y10) rfl (by kernel_rfl) hc9 (by kernel_rfl) hb11)) ?_
          refine XL_cons rfl (X_of_Y0 rfl (E_assign (Bo b11) rfl (by kernel_rfl))) ?_
          refine XL_nil ?_
          kernel_rfl
        · have hb11 := some_inj (of_false hb11 hc9)
          refine XL_skipT (b8) rfl rfl (by kernel_rfl) hc9 rfl ?_
          refine XL_skipT (b8) rfl rfl (by kernel_rfl) hc9 rfl ?_
          refine XL_skipT (b8) rfl rfl (by kernel_rfl) hc9 rfl ?_
          refine XL_cons rfl (X_of_Y0 rfl (Y0_pickFe (b := b8) (p := false) rfl (by kernel_rfl) hc9 (by kernel_rfl) hb11)) ?_
          refine XL_cons rfl (X_of_Y0 rfl (E_assign (Bo b11) rfl (by kernel_rfl))) ?_
          refine XL_nil ?_
          kernel_rfl
      · have hb8 := some_inj (of_false hb8 hc6)
        refine XL_skipT (b5) rfl rfl (by kernel_rfl) hc6 rfl ?_
        refine XL_skipT (b5) rfl rfl (by kernel_rfl) hc6 rfl ?_
        refine XL_skipT (b5) rfl rfl (by kernel_rfl) hc6 rfl ?_
        refine XL_cons rfl (X_of_Y0 rfl (Y0_pickFe (b := b5) (p := false) rfl (by kernel_rfl) hc6 (by kernel_rfl) hb8)) ?_
        refine XL_cons rfl (X_of_Y0 rfl (E_move (Bo b8) rfl (by kernel_rfl))) ?_
        refine XL_split b8 (fun hc9 => ?_) (fun hc9 => ?_)
        · have hb11 := of_true hb11 hc9
          obtain ⟨y10, hy10, hb11⟩ := of_bind hb11
          have hb11 := some_inj hb11
          refine XL_takeC (b8) rfl rfl (by kernel_rfl) hc9 (X_of_Y0 rfl (E_field (.pt 8 3) Try.underlying38 rfl sz3 rfl (by kernel_rfl) (by intro hh; cases hh))) ?_
          refine XL_takeC (b8) rfl rfl (by kernel_rfl) hc9 (X_of_Y0 rfl (Y0_load1 (c := Ti vm1.2.2.2) (cs := []) sc3 rfl (by kernel_rfl))) ?_
          refine XL_takeC (b8) rfl rfl (by kernel_rfl) hc9 (X_of_Y1 rfl (Y1_call (s_spec_nuGood hy10) cf_spec_nuGood rfl (by kernel_rfl))) ?_
          refine XL_cons rfl (X_of_Y0 rfl (Y0_pickTe (b := b8) (p := y10) rfl (by kernel_rfl) hc9 (by kernel_rfl) hb11)) ?_
          refine XL_cons rfl (X_of_Y0 rfl (E_assign (Bo b11) rfl (by kernel_rfl))) ?_
          refine XL_nil ?_
          kernel_rfl
        · have hb11 := some_inj (of_false hb11 hc9)
          refine XL_skipT (b8) rfl rfl (by kernel_rfl) hc9 rfl ?_
          refine XL_skipT (b8) rfl rfl (by kernel_rfl) hc9 rfl ?_
          refine XL_skipT (b8) rfl rfl (by kernel_rfl) hc9 rfl ?_
          refine XL_cons rfl (X_of_Y0 rfl (Y0_pickFe (b := b8) (p := false) rfl (by kernel_rfl) hc9 (by kernel_rfl) hb11)) ?_
          refine XL_cons rfl (X_of_Y0 rfl (E_assign (Bo b11) rfl (by kernel_rfl))) ?_
          refine XL_nil ?_
          kernel_rfl
  refine V_ret ?_
  obtain rfl := some_inj h
  show Post _ _ _ _ _
  exact ⟨.inr rfl, rfl, rfl, rfl⟩
theorem cf_spec_DescentMatrix : ∀ args w, (callFunc 39 args).run Try.prog w = .ok (.enter 39 args) w := run_callFunc Try.func39 (by kernel_rfl) (by kernel_rfl)
set_option maxRecDepth 100000 in
set_option maxHeartbeats 400000 in
theorem s_spec_DescentMatrix {f1 : (Int × Int × Int)} {p2 : Int} {r : (((Int × Int × Int × Int)) × Bool)} (h : r_spec_DescentMatrix f1 p2 = some r) : CallS Try.prog 39 [.ag [Ti f1.1, Ti f1.2.1, Ti f1.2.2], I p2] (.tc (.ag [Ti r.1.1, Ti r.1.2.1, Ti r.1.2.2.1, Ti r.1.2.2.2]) (.tc (Bo r.2) .tn)) [] := by
  refine CallS_of_text (rs := [.w 4 4, .t 5]) (vs := [.cell 4 38, .tmp 5]) Try.func39 rfl rfl (.cons ⟨rfl, wd38⟩ (.cons rfl FitsL.nil)) (by decide) 24 rfl ?_
  unfold r_spec_DescentMatrix at h
  show V _ _ ⟨[.ag [Ti f1.1, Ti f1.2.1, Ti f1.2.2], I p2, .bot, .bot, .bot, .bot, .bot, .bot, .bot, .bot, .bot, .bot, .bot, .bot, .bot, .bot, .bot, .bot, .bot, .bot, .bot, .bot, .bot, .bot], []⟩ _
  refine V_sreg [false, true, true, false, true, false, false, false, false, false, false, false, false, false, false, false, false, false, false, false, false, false, false, false] [32, 16] (s1 := ⟨[.bot, I p2, .pt 16 0, .bot, .pt 32 0, .bot, .bot, .bot, .bot, .bot, .bot, .bot, .bot, .bot, .bot, .bot, .bot, .bot, .bot, .bot, .bot, .bot, .bot, .bot], [(32, .box [Ti 0, Ti 0, Ti 0, Ti 0]), (16, .box [Ti f1.1, Ti f1.2.1, Ti f1.2.2])]⟩) ?_ ?_
  · refine XL_cons rfl (X_of_Y1 rfl (Y1_box (cs := [Ti f1.1, Ti f1.2.1, Ti f1.2.2]) rfl (by kernel_rfl))) ?_
    refine XL_cons rfl (X_of_Y1 rfl (Y1_alloc (z := zv38) rfl zf38 rfl)) ?_
    refine XL_cons rfl (X_of_Y0 rfl (E_assign (Bo false) rfl (by kernel_rfl))) ?_
    refine XL_nil ?_
    kernel_rfl
  refine V_seq ?_
  obtain ⟨y3, hy3, h⟩ := of_bind h
  refine V_sreg [false, true, true, false, true, false, false, false, false, false, false, true, false, false, false, false, false, false, false, false, false, false, false, false] [32, 16] (s1 := ⟨[.bot, I p2, .pt 16 0, .bot, .pt 32 0, .bot, .bot, .bot, .bot, .bot, .bot, Bo (!y3), .bot, .bot, .bot, .bot, .bot, .bot, .bot, .bot, .bot, .bot, .bot, .bot], [(32, .box [Ti 0, Ti 0, Ti 0, Ti 0]), (16, .box [Ti f1.1, Ti f1.2.1, Ti f1.2.2])]⟩) ?_ ?_
  · refine XL_cons rfl (X_of_Y0 rfl (E_loadn (cs := [Ti f1.1, Ti f1.2.1, Ti f1.2.2]) [Ti f1.1, Ti f1.2.1, Ti f1.2.2] wd36 rfl (by kernel_rfl) (Nat.le_of_ble_eq_true rfl) (by kernel_rfl))) ?_
    refine XL_cons rfl (X_of_Y0 rfl (E_move (I p2) rfl (by kernel_rfl))) ?_
    refine XL_cons rfl (X_of_Y1 rfl (Y1_call (s_spec_odDown hy3) cf_spec_odDown rfl (by kernel_rfl))) ?_
    refine XL_cons rfl (X_of_Y0 rfl (Y0_not (b := y3) rfl (by kernel_rfl))) ?_
    refine XL_nil ?_
    kernel_rfl
  refine V_cond rfl (fun hc4 => ?_) (fun hc4 => ?_)
  · have h := of_true h hc4
    refine V_sreg [false, false, false, false, true, true, false, false, false, false, false, false, false, false, false, false, false, false, false, false, false, false, false, false] [32] (s1 := ⟨[.bot, .bot, .bot, .bot, .pt 32 0, Bo false, .bot, .bot, .bot, .bot, .bot, .bot, .bot, .bot, .bot, .bot, .bot, .bot, .bot, .bot, .bot, .bot, .bot, .bot], [(32, .box [Ti 0, Ti 0, Ti 0, Ti 0])]⟩) ?_ ?_
    · refine XL_cons rfl (X_of_Y0 rfl (Y0_build (cs := [Ti 0, Ti 0, Ti 0, Ti 0]) pl38 bt38 rfl rfl (by kernel_rfl))) ?_
      refine XL_cons rfl (E_store (id := 32) (off := 0) (cs := [Ti 0, Ti 0, Ti 0, Ti 0]) (vc := [Ti 0, Ti 0, Ti 0, Ti 0]) [Ti 0, Ti 0, Ti 0, Ti 0] rfl rfl (by kernel_rfl) (by kernel_rfl) (by kernel_rfl) sz38 (Nat.le_of_ble_eq_true rfl) (by kernel_rfl)) ?_
      refine XL_cons rfl (X_of_Y0 rfl (E_assign (Bo false) rfl (by kernel_rfl))) ?_
      refine XL_nil ?_
      kernel_rfl
    refine V_ret ?_
    obtain rfl := some_inj h
    show Post _ _ _ _ _
    exact ⟨.inr rfl, rfl, rfl, rfl⟩
  · have h := of_false h hc4
    refine V_skip ?_
    show V _ _ _ _
    obtain ⟨y5, hy5, h⟩ := of_bind h
    refine V_sreg [false, false, false, false, true, false, false, true, false, false, false, false, false, false, false, false, false, false, false, false, false, false, false, false] [56, 32] (s1 := ⟨[.bot, .bot, .bot, .bot, .pt 32 0, .bot, .bot, .pt 56 0, .bot, .bot, .bot, .bot, .bot, .bot, .bot, .bot, .bot, .bot, .bot, .bot, .bot, .bot, .bot, .bot], [(56, .box [Ti y5.2.1, Ti y5.2.2.1, Ti y5.2.2.2.1, Ti y5.2.2.2.2]), (32, .box [Ti 0, Ti 0, Ti 0, Ti 0])]⟩) ?_ ?_
    · refine XL_cons rfl (X_of_Y0 rfl (E_loadn (cs := [Ti f1.1, Ti f1.2.1, Ti f1.2.2]) [Ti f1.1, Ti f1.2.1, Ti f1.2.2] wd36 rfl (by kernel_rfl) (Nat.le_of_ble_eq_true rfl) (by kernel_rfl))) ?_
      refine XL_cons rfl (X_of_Y0 rfl (E_move (I p2) rfl (by kernel_rfl))) ?_
      refine XL_cons rfl (X_of_Y1 rfl (Y1_call (s_spec_odDescend hy5) cf_spec_odDescend rfl (by kernel_rfl))) ?_
      refine XL_cons rfl (X_of_Y0 rfl (E_move (.tc (.ag [Ti y5.1.1, Ti y5.1.2.1, Ti y5.1.2.2]) (.tc (.ag [Ti y5.2.1, Ti y5.2.2.1, Ti y5.2.2.2.1, Ti y5.2.2.2.2]) .tn)) rfl (by kernel_rfl))) ?_
      refine XL_cons rfl (X_of_Y0 rfl (E_ext (n := 0) (.ag [Ti y5.1.1, Ti y5.1.2.1, Ti y5.1.2.2]) (.tc (.ag [Ti y5.2.1, Ti y5.2.2.1, Ti y5.2.2.2.1, Ti y5.2.2.2.2]) .tn) (.ag [Ti y5.1.1, Ti y5.1.2.1, Ti y5.1.2.2]) rfl (by kernel_rfl) (by kernel_rfl) (by intro hh; cases hh))) ?_
      refine XL_cons rfl (X_of_Y0 rfl (E_ext (n := 1) (.ag [Ti y5.1.1, Ti y5.1.2.1, Ti y5.1.2.2]) (.tc (.ag [Ti y5.2.1, Ti y5.2.2.1, Ti y5.2.2.2.1, Ti y5.2.2.2.2]) .tn) (.ag [Ti y5.2.1, Ti y5.2.2.1, Ti y5.2.2.2.1, Ti y5.2.2.2.2]) rfl (by kernel_rfl) (by kernel_rfl) (by intro hh; cases hh))) ?_
      refine XL_cons rfl (X_of_Y1 rfl (Y1_alloc (z := zv36) rfl zf36 rfl)) ?_
      refine XL_cons rfl (X_of_Y1 rfl (Y1_alloc (z := zv38) rfl zf38 rfl)) ?_
      refine XL_cons rfl (E_store (id := 48) (off := 0) (cs := [Ti 0, Ti 0, Ti 0]) (vc := [Ti y5.1.1, Ti y5.1.2.1, Ti y5.1.2.2]) [Ti y5.1.1, Ti y5.1.2.1, Ti y5.1.2.2] rfl rfl (by kernel_rfl) (by kernel_rfl) (by kernel_rfl) sz36 (Nat.le_of_ble_eq_true rfl) (by kernel_rfl)) ?_
      refine XL_cons rfl (E_store (id := 56) (off := 0) (cs := [Ti 0, Ti 0, Ti 0, Ti 0]) (vc := [Ti y5.2.1, Ti y5.2.2.1, Ti y5.2.2.2.1, Ti y5.2.2.2.2]) [Ti y5.2.1, Ti y5.2.2.1, Ti y5.2.2.2.1, Ti y5.2.2.2.2] rfl rfl (by kernel_rfl) (by kernel_rfl) (by kernel_rfl) sz38 (Nat.le_of_ble_eq_true rfl) (by kernel_rfl)) ?_
      refine XL_nil ?_
      kernel_rfl
    refine V_seq ?_
    obtain ⟨y6, hy6, h⟩ := of_bind h
    refine V_sreg [false, false, false, false, true, false, false, true, false, false, false, false, false, false, false, false, false, false, false, false, false, true, false, false] [56, 32] (s1 := ⟨[.bot, .bot, .bot, .bot, .pt 32 0, .bot, .bot, .pt 56 0, .bot, .bot, .bot, .bot, .bot, .bot, .bot, .bot, .bot, .bot, .bot, .bot, .bot, Bo (!y6), .bot, .bot], [(56, .box [Ti y5.2.1, Ti y5.2.2.1, Ti y5.2.2.2.1, Ti y5.2.2.2.2]), (32, .box [Ti 0, Ti 0, Ti 0, Ti 0])]⟩) ?_ ?_
    · refine XL_cons rfl (X_of_Y0 rfl (E_loadn (cs := [Ti y5.2.1, Ti y5.2.2.1, Ti y5.2.2.2.1, Ti y5.2.2.2.2]) [Ti y5.2.1, Ti y5.2.2.1, Ti y5.2.2.2.1, Ti y5.2.2.2.2] wd38 rfl (by kernel_rfl) (Nat.le_of_ble_eq_true rfl) (by kernel_rfl))) ?_
      refine XL_cons rfl (X_of_Y1 rfl (Y1_call (s_spec_foMatrix hy6) cf_spec_foMatrix rfl (by kernel_rfl))) ?_
      refine XL_cons rfl (X_of_Y0 rfl (Y0_not (b := y6) rfl (by kernel_rfl))) ?_
      refine XL_nil ?_
      kernel_rfl
    refine V_cond rfl (fun hc7 => ?_) (fun hc7 => ?_)
    · have h := of_true h hc7
      refine V_sreg [false, false, false, false, true, true, false, false, false, false, false, false, false, false, false, false, false, false, false, false, false, false, false, false] [32] (s1 := ⟨[.bot, .bot, .bot, .bot, .pt 32 0, Bo false, .bot, .bot, .bot, .bot, .bot, .bot, .bot, .bot, .bot, .bot, .bot, .bot, .bot, .bot, .bot, .bot, .bot, .bot], [(32, .box [Ti 0, Ti 0, Ti 0, Ti 0])]⟩) ?_ ?_
      · refine XL_cons rfl (X_of_Y0 rfl (Y0_build (cs := [Ti 0, Ti 0, Ti 0, Ti 0]) pl38 bt38 rfl rfl (by kernel_rfl))) ?_
        refine XL_cons rfl (E_store (id := 32) (off := 0) (cs := [Ti 0, Ti 0, Ti 0, Ti 0]) (vc := [Ti 0, Ti 0, Ti 0, Ti 0]) [Ti 0, Ti 0, Ti 0, Ti 0] rfl rfl (by kernel_rfl) (by kernel_rfl) (by kernel_rfl) sz38 (Nat.le_of_ble_eq_true rfl) (by kernel_rfl)) ?_
        refine XL_cons rfl (X_of_Y0 rfl (E_assign (Bo false) rfl (by kernel_rfl))) ?_
        refine XL_nil ?_
        kernel_rfl
      refine V_ret ?_
      obtain rfl := some_inj h
      show Post _ _ _ _ _
      exact ⟨.inr rfl, rfl, rfl, rfl⟩
    · have h := of_false h hc7
      refine V_skip ?_
      show V _ _ _ _
      refine V_sreg [false, false, false, false, true, true, false, false, false, false, false, false, false, false, false, false, false, false, false, false, false, false, false, false] [32] (s1 := ⟨[.bot, .bot, .bot, .bot, .pt 32 0, Bo true, .bot, .bot, .bot, .bot, .bot, .bot, .bot, .bot, .bot, .bot, .bot, .bot, .bot, .bot, .bot, .bot, .bot, .bot], [(32, .box [Ti y5.2.1, Ti y5.2.2.1, Ti y5.2.2.2.1, Ti y5.2.2.2.2])]⟩) ?_ ?_
      · refine XL_cons rfl (X_of_Y0 rfl (E_loadn (cs := [Ti y5.2.1, Ti y5.2.2.1, Ti y5.2.2.2.1, Ti y5.2.2.2.2]) [Ti y5.2.1, Ti y5.2.2.1, Ti y5.2.2.2.1, Ti y5.2.2.2.2] wd38 rfl (by kernel_rfl) (Nat.le_of_ble_eq_true rfl) (by kernel_rfl))) ?_
        refine XL_cons rfl (E_store (id := 32) (off := 0) (cs := [Ti 0, Ti 0, Ti 0, Ti 0]) (vc := [Ti y5.2.1, Ti y5.2.2.1, Ti y5.2.2.2.1, Ti y5.2.2.2.2]) [Ti y5.2.1, Ti y5.2.2.1, Ti y5.2.2.2.1, Ti y5.2.2.2.2] rfl rfl (by kernel_rfl) (by kernel_rfl) (by kernel_rfl) sz38 (Nat.le_of_ble_eq_true rfl) (by kernel_rfl)) ?_
        refine XL_cons rfl (X_of_Y0 rfl (E_assign (Bo true) rfl (by kernel_rfl))) ?_
        refine XL_nil ?_
        kernel_rfl
      refine V_ret ?_
      obtain rfl := some_inj h
      show Post _ _ _ _ _
      exact ⟨.inr rfl, rfl, rfl, rfl⟩
theorem cf_impl_IsMatrix : ∀ args w, (callFunc 61 args).run Try.prog w = .ok (.enter 61 args) w := run_callFunc Try.func61 (by kernel_rfl) (by kernel_rfl)
set_option maxRecDepth 100000 in
set_option maxHeartbeats 400000 in
theorem s_impl_IsMatrix {vm1 : (Int × Int × Int × Int)} {r : Bool} (h : r_impl_IsMatrix vm1 = some r) : CallS Try.prog 61 [.ag [Ti vm1.1, Ti vm1.2.1, Ti vm1.2.2.1, Ti vm1.2.2.2]] (Bo r) [] := by
  refine CallS_of_text (rs := [.t 2]) (vs := [.tmp 2]) Try.func61 rfl rfl (.cons rfl FitsL.nil) (by decide) 13 rfl ?_
  unfold r_impl_IsMatrix at h
  show V _ _ ⟨[.ag [Ti vm1.1, Ti vm1.2.1, Ti vm1.2.2.1, Ti vm1.2.2.2], .bot, .bot, .bot, .bot, .bot, .bot, .bot, .bot, .bot, .bot, .bot, .bot], []⟩ _
  refine V_sreg [false, true, false, false, false, false, false, false, false, false, false, false, false] [8] (s1 := ⟨[.bot, .pt 8 0, .bot, .bot, .bot, .bot, .bot, .bot, .bot, .bot, .bot, .bot, .bot], [(8, .box [Ti vm1.1, Ti vm1.2.1, Ti vm1.2.2.1, Ti vm1.2.2.2])]⟩) ?_ ?_
  · refine XL_cons rfl (X_of_Y1 rfl (Y1_box (cs := [Ti vm1.1, Ti vm1.2.1, Ti vm1.2.2.1, Ti vm1.2.2.2]) rfl (by kernel_rfl))) ?_
    refine XL_cons rfl (X_of_Y0 rfl (E_assign (Bo false) rfl (by kernel_rfl))) ?_
    refine XL_nil ?_
    kernel_rfl
  obtain ⟨y2, hy2, h⟩ := of_bind h
  refine V_sreg [false, false, true, false, false, false, false, false, false, false, false, false, false] [] (s1 := ⟨[.bot, .bot, Bo y2, .bot, .bot, .bot, .bot, .bot, .bot, .bot, .bot, .bot, .bot], []⟩) ?_ ?_
  · refine XL_cons rfl (X_of_Y0 rfl (E_field (.pt 8 0) Try.underlying38 rfl sz3 rfl (by kernel_rfl) (by intro hh; cases hh))) ?_
    refine XL_cons rfl (X_of_Y0 rfl (Y0_load1 (c := Ti vm1.1) (cs := [Ti vm1.2.1, Ti vm1.2.2.1, Ti vm1.2.2.2]) sc3 rfl (by kernel_rfl))) ?_
    refine XL_cons rfl (X_of_Y0 rfl (E_field (.pt 8 1) Try.underlying38 rfl sz3 rfl (by kernel_rfl) (by intro hh; cases hh))) ?_
    refine XL_cons rfl (X_of_Y0 rfl (Y0_load1 (c := Ti vm1.2.1) (cs := [Ti vm1.2.2.1, Ti vm1.2.2.2]) sc3 rfl (by kernel_rfl))) ?_
    refine XL_cons rfl (X_of_Y0 rfl (E_field (.pt 8 2) Try.underlying38 rfl sz3 rfl (by kernel_rfl) (by intro hh; cases hh))) ?_
    refine XL_cons rfl (X_of_Y0 rfl (Y0_load1 (c := Ti vm1.2.2.1) (cs := [Ti vm1.2.2.2]) sc3 rfl (by kernel_rfl))) ?_
    refine XL_cons rfl (X_of_Y0 rfl (E_field (.pt 8 3) Try.underlying38 rfl sz3 rfl (by kernel_rfl) (by intro hh; cases hh))) ?_
    refine XL_cons rfl (X_of_Y0 rfl (Y0_load1 (c := Ti vm1.2.2.2) (cs := []) sc3 rfl (by kernel_rfl))) ?_
    refine XL_cons rfl (X_of_Y1 rfl (Y1_bslice (z := zv3) (els := [vm1.1, vm1.2.1, vm1.2.2.1, vm1.2.2.2].map c3) Try.underlying25 iz3 rfl (by decide) rfl (by kernel_rfl) rfl (by simp [c3]) (by decide) (by decide))) ?_
    refine XL_cons rfl (X_of_Y1 rfl (Y1_callS (s_impl_areNumbers hy2) cf_impl_areNumbers rfl (by kernel_rfl) rfl rfl)) ?_
    refine XL_cons rfl (X_of_Y0 rfl (E_assign (Bo y2) rfl (by kernel_rfl))) ?_
    refine XL_nil ?_
    kernel_rfl
  refine V_ret ?_
  obtain rfl := some_inj h
  show Post _ _ _ _ _
  exact ⟨.inr rfl, rfl, rfl, rfl⟩
theorem cf_impl_checked : ∀ args w, (callFunc 88 args).run Try.prog w = .ok (.enter 88 args) w := run_callFunc Try.func88 (by kernel_rfl) (by kernel_rfl)
set_option maxRecDepth 100000 in
set_option maxHeartbeats 400000 in
theorem s_impl_checked {vm1 : (Int × Int × Int × Int)} {r : (((Int × Int × Int × Int)) × Bool)} (h : r_impl_checked vm1 = some r) : CallS Try.prog 88 [.ag [Ti vm1.1, Ti vm1.2.1, Ti vm1.2.2.1, Ti vm1.2.2.2]] (.tc (.ag [Ti r.1.1, Ti r.1.2.1, Ti r.1.2.2.1, Ti r.1.2.2.2]) (.tc (Bo r.2) .tn)) [] := by
  refine CallS_of_text (rs := [.w 2 4, .t 3]) (vs := [.cell 2 38, .tmp 3]) Try.func88 rfl rfl (.cons ⟨rfl, wd38⟩ (.cons rfl FitsL.nil)) (by decide) 9 rfl ?_
  unfold r_impl_checked at h
  show V _ _ ⟨[.ag [Ti vm1.1, Ti vm1.2.1, Ti vm1.2.2.1, Ti vm1.2.2.2], .bot, .bot, .bot, .bot, .bot, .bot, .bot, .bot], []⟩ _
  refine V_sreg [false, true, true, false, false, false, false, false, false] [16, 8] (s1 := ⟨[.bot, .pt 8 0, .pt 16 0, .bot, .bot, .bot, .bot, .bot, .bot], [(16, .box [Ti 0, Ti 0, Ti 0, Ti 0]), (8, .box [Ti vm1.1, Ti vm1.2.1, Ti vm1.2.2.1, Ti vm1.2.2.2])]⟩) ?_ ?_
  · refine XL_cons rfl (X_of_Y1 rfl (Y1_box (cs := [Ti vm1.1, Ti vm1.2.1, Ti vm1.2.2.1, Ti vm1.2.2.2]) rfl (by kernel_rfl))) ?_
    refine XL_cons rfl (X_of_Y1 rfl (Y1_alloc (z := zv38) rfl zf38 rfl)) ?_
    refine XL_cons rfl (X_of_Y0 rfl (E_assign (Bo false) rfl (by kernel_rfl))) ?_
    refine XL_nil ?_
    kernel_rfl
  refine V_seq ?_
  obtain ⟨y2, hy2, h⟩ := of_bind h
  refine V_sreg [false, true, true, false, false, false, true, false, false] [16, 8] (s1 := ⟨[.bot, .pt 8 0, .pt 16 0, .bot, .bot, .bot, Bo (!y2), .bot, .bot], [(16, .box [Ti 0, Ti 0, Ti 0, Ti 0]), (8, .box [Ti vm1.1, Ti vm1.2.1, Ti vm1.2.2.1, Ti vm1.2.2.2])]⟩) ?_ ?_
  · refine XL_cons rfl (X_of_Y0 rfl (E_loadn (cs := [Ti vm1.1, Ti vm1.2.1, Ti vm1.2.2.1, Ti vm1.2.2.2]) [Ti vm1.1, Ti vm1.2.1, Ti vm1.2.2.1, Ti vm1.2.2.2] wd38 rfl (by kernel_rfl) (Nat.le_of_ble_eq_true rfl) (by kernel_rfl))) ?_
    refine XL_cons rfl (X_of_Y1 rfl (Y1_call (s_impl_IsMatrix hy2) cf_impl_IsMatrix rfl (by kernel_rfl))) ?_
    refine XL_cons rfl (X_of_Y0 rfl (Y0_not (b := y2) rfl (by kernel_rfl))) ?_
    refine XL_nil ?_
    kernel_rfl
  refine V_cond rfl (fun hc3 => ?_) (fun hc3 => ?_)
  · have h := of_true h hc3
    refine V_sreg [false, false, true, true, false, false, false, false, false] [16] (s1 := ⟨[.bot, .bot, .pt 16 0, Bo false, .bot, .bot, .bot, .bot, .bot], [(16, .box [Ti 0, Ti 0, Ti 0, Ti 0])]⟩) ?_ ?_
    · refine XL_cons rfl (X_of_Y0 rfl (Y0_build (cs := [Ti 0, Ti 0, Ti 0, Ti 0]) pl38 bt38 rfl rfl (by kernel_rfl))) ?_
      refine XL_cons rfl (E_store (id := 16) (off := 0) (cs := [Ti 0, Ti 0, Ti 0, Ti 0]) (vc := [Ti 0, Ti 0, Ti 0, Ti 0]) [Ti 0, Ti 0, Ti 0, Ti 0] rfl rfl (by kernel_rfl) (by kernel_rfl) (by kernel_rfl) sz38 (Nat.le_of_ble_eq_true rfl) (by kernel_rfl)) ?_
      refine XL_cons rfl (X_of_Y0 rfl (E_assign (Bo false) rfl (by kernel_rfl))) ?_
      refine XL_nil ?_
      kernel_rfl
    refine V_ret ?_
    obtain rfl := some_inj h
    show Post _ _ _ _ _
    exact ⟨.inr rfl, rfl, rfl, rfl⟩
  · have h := of_false h hc3
    refine V_skip ?_
    show V _ _ _ _
    refine V_sreg [false, false, true, true, false, false, false, false, false] [16] (s1 := ⟨[.bot, .bot, .pt 16 0, Bo true, .bot, .bot, .bot, .bot, .bot], [(16, .box [Ti vm1.1, Ti vm1.2.1, Ti vm1.2.2.1, Ti vm1.2.2.2])]⟩) ?_ ?_
    · refine XL_cons rfl (X_of_Y0 rfl (E_loadn (cs := [Ti vm1.1, Ti vm1.2.1, Ti vm1.2.2.1, Ti vm1.2.2.2]) [Ti vm1.1, Ti vm1.2.1, Ti vm1.2.2.1, Ti vm1.2.2.2] wd38 rfl (by kernel_rfl) (Nat.le_of_ble_eq_true rfl) (by kernel_rfl))) ?_
      refine XL_cons rfl (E_store (id := 16) (off := 0) (cs := [Ti 0, Ti 0, Ti 0, Ti 0]) (vc := [Ti vm1.1, Ti vm1.2.1, Ti vm1.2.2.1, Ti vm1.2.2.2]) [Ti vm1.1, Ti vm1.2.1, Ti vm1.2.2.1, Ti vm1.2.2.2] rfl rfl (by kernel_rfl) (by kernel_rfl) (by kernel_rfl) sz38 (Nat.le_of_ble_eq_true rfl) (by kernel_rfl)) ?_
      refine XL_cons rfl (X_of_Y0 rfl (E_assign (Bo true) rfl (by kernel_rfl))) ?_
      refine XL_nil ?_
      kernel_rfl
    refine V_ret ?_
    obtain rfl := some_inj h
    show Post _ _ _ _ _
    exact ⟨.inr rfl, rfl, rfl, rfl⟩
theorem cf_impl_DescentMatrix : ∀ args w, (callFunc 40 args).run Try.prog w = .ok (.enter 40 args) w := run_callFunc Try.func40 (by kernel_rfl) (by kernel_rfl)
set_option maxRecDepth 100000 in
set_option maxHeartbeats 400000 in
theorem s_impl_DescentMatrix {f1 : (Int × Int × Int)} {p2 : Int} {r : (((Int × Int × Int × Int)) × Bool)} (h : r_impl_DescentMatrix f1 p2 = some r) : CallS Try.prog 40 [.ag [Ti f1.1, Ti f1.2.1, Ti f1.2.2], I p2] (.tc (.ag [Ti r.1.1, Ti r.1.2.1, Ti r.1.2.2.1, Ti r.1.2.2.2]) (.tc (Bo r.2) .tn)) [] := by
  refine CallS_of_text (rs := [.w 4 4, .t 5]) (vs := [.cell 4 38, .tmp 5]) Try.func40 rfl rfl (.cons ⟨rfl, wd38⟩ (.cons rfl FitsL.nil)) (by decide) 23 rfl ?_
  unfold r_impl_DescentMatrix at h
  show V _ _ ⟨[.ag [Ti f1.1, Ti f1.2.1, Ti f1.2.2], I p2, .bot, .bot, .bot, .bot, .bot, .bot, .bot, .bot, .bot, .bot, .bot, .bot, .bot, .bot, .bot, .bot, .bot, .bot, .bot, .bot, .bot], []⟩ _
  refine V_sreg [false, true, true, false, true, false, false, false, false, false, false, false, false, false, false, false, false, false, false, false, false, false, false] [32, 16] (s1 := ⟨[.bot, I p2, .pt 16 0, .bot, .pt 32 0, .bot, .bot, .bot, .bot, .bot, .bot, .bot, .bot, .bot, .bot, .bot, .bot, .bot, .bot, .bot, .bot, .bot, .bot], [(32, .box [Ti 0, Ti 0, Ti 0, Ti 0]), (16, .box [Ti f1.1, Ti f1.2.1, Ti f1.2.2])]⟩) ?_ ?_
  · refine XL_cons rfl (X_of_Y1 rfl (Y1_box (cs := [Ti f1.1, Ti f1.2.1, Ti f1.2.2]) rfl (by kernel_rfl))) ?_
    refine XL_cons rfl (X_of_Y1 rfl (Y1_alloc (z := zv38) rfl zf38 rfl)) ?_
    refine XL_cons rfl (X_of_Y0 rfl (E_assign (Bo false) rfl (by kernel_rfl))) ?_
    refine XL_nil ?_
    kernel_rfl
  refine V_seq ?_
  obtain ⟨y3, hy3, h⟩ := of_bind h
  refine V_sreg [false, true, true, false, true, false, false, false, false, false, false, true, false, false, false, false, false, false, false, false, false, false, false] [32, 16] (s1 := ⟨[.bot, I p2, .pt 16 0, .bot, .pt 32 0, .bot, .bot, .bot, .bot, .bot, .bot, Bo (!y3), .bot, .bot, .bot, .bot, .bot, .bot, .bot, .bot, .bot, .bot, .bot], [(32, .box [Ti 0, Ti 0, Ti 0, Ti 0]), (16, .box [Ti f1.1, Ti f1.2.1, Ti f1.2.2])]⟩) ?_ ?_
  · refine XL_cons rfl (X_of_Y0 rfl (E_loadn (cs := [Ti f1.1, Ti f1.2.1, Ti f1.2.2]) [Ti f1.1, Ti f1.2.1, Ti f1.2.2] wd36 rfl (by kernel_rfl) (Nat.le_of_ble_eq_true rfl) (by kernel_rfl))) ?_
    refine XL_cons rfl (X_of_Y0 rfl (E_move (I p2) rfl (by kernel_rfl))) ?_
    refine XL_cons rfl (X_of_Y1 rfl (Y1_call (s_impl_canDescend hy3) cf_impl_canDescend rfl (by kernel_rfl))) ?_
    refine XL_cons rfl (X_of_Y0 rfl (Y0_not (b := y3) rfl (by kernel_rfl))) ?_
    refine XL_nil ?_
    kernel_rfl
  refine V_cond rfl (fun hc4 => ?_) (fun hc4 => ?_)
  · have h := of_true h hc4
    refine V_sreg [false, false, false, false, true, true, false, false, false, false, false, false, false, false, false, false, false, false, false, false, false, false, false] [32] (s1 := ⟨[.bot, .bot, .bot, .bot, .pt 32 0, Bo false, .bot, .bot, .bot, .bot, .bot, .bot, .bot, .bot, .bot, .bot, .bot, .bot, .bot, .bot, .bot, .bot, .bot], [(32, .box [Ti 0, Ti 0, Ti 0, Ti 0])]⟩) ?_ ?_
    · refine XL_cons rfl (X_of_Y0 rfl (Y0_build (cs := [Ti 0, Ti 0, Ti 0, Ti 0]) pl38 bt38 rfl rfl (by kernel_rfl))) ?_
      refine XL_cons rfl (E_store (id := 32) (off := 0) (cs := [Ti 0, Ti 0, Ti 0, Ti 0]) (vc := [Ti 0, Ti 0, Ti 0, Ti 0]) [Ti 0, Ti 0, Ti 0, Ti 0] rfl rfl (by kernel_rfl) (by kernel_rfl) (by kernel_rfl) sz38 (Nat.le_of_ble_eq_true rfl) (by kernel_rfl)) ?_
      refine XL_cons rfl (X_of_Y0 rfl (E_assign (Bo false) rfl (by kernel_rfl))) ?_
      refine XL_nil ?_
      kernel_rfl
    refine V_ret ?_
    obtain rfl := some_inj h
    show Post _ _ _ _ _
    exact ⟨.inr rfl, rfl, rfl, rfl⟩
  · have h := of_false h hc4
    refine V_skip ?_
    show V _ _ _ _
    obtain ⟨y5, hy5, h⟩ := of_bind h
    refine V_sreg [false, false, false, false, true, false, false, true, false, false, false, false, false, false, false, false, false, false, false, false, false, false, false] [56, 32] (s1 := ⟨[.bot, .bot, .bot, .bot, .pt 32 0, .bot, .bot, .pt 56 0, .bot, .bot, .bot, .bot, .bot, .bot, .bot, .bot, .bot, .bot, .bot, .bot, .bot, .bot, .bot], [(56, .box [Ti y5.2.1, Ti y5.2.2.1, Ti y5.2.2.2.1, Ti y5.2.2.2.2]), (32, .box [Ti 0, Ti 0, Ti 0, Ti 0])]⟩) ?_ ?_
    · refine XL_cons rfl (X_of_Y0 rfl (E_loadn (cs := [Ti f1.1, Ti f1.2.1, Ti f1.2.2]) [Ti f1.1, Ti f1.2.1, Ti f1.2.2] wd36 rfl (by kernel_rfl) (Nat.le_of_ble_eq_true rfl) (by kernel_rfl))) ?_
      refine XL_cons rfl (X_of_Y0 rfl (E_move (I p2) rfl (by kernel_rfl))) ?_
      refine XL_cons rfl (X_of_Y1 rfl (Y1_call (s_impl_descend hy5) cf_impl_descend rfl (by kernel_rfl))) ?_
      refine XL_cons rfl (X_of_Y0 rfl (E_move (.tc (.ag [Ti y5.1.1, Ti y5.1.2.1, Ti y5.1.2.2]) (.tc (.ag [Ti y5.2.1, Ti y5.2.2.1, Ti y5.2.2.2.1, Ti y5.2.2.2.2]) .tn)) rfl (by kernel_rfl))) ?_
      refine XL_cons rfl (X_of_Y0 rfl (E_ext (n := 0) (.ag [Ti y5.1.1, Ti y5.1.2.1, Ti y5.1.2.2]) (.tc (.ag [Ti y5.2.1, Ti y5.2.2.1, Ti y5.2.2.2.1, Ti y5.2.2.2.2]) .tn) (.ag [Ti y5.1.1, Ti y5.1.2.1, Ti y5.1.2.2]) rfl (by kernel_rfl) (by kernel_rfl) (by intro hh; cases hh))) ?_
      refine XL_cons rfl (X_of_Y0 rfl (E_ext (n := 1) (.ag [Ti y5.1.1, Ti y5.1.2.1, Ti y5.1.2.2]) (.tc (.ag [Ti y5.2.1, Ti y5.2.2.1, Ti y5.2.2.2.1, Ti y5.2.2.2.2]) .tn) (.ag [Ti y5.2.1, Ti y5.2.2.1, Ti y5.2.2.2.1, Ti y5.2.2.2.2]) rfl (by kernel_rfl) (by kernel_rfl) (by intro hh; cases hh))) ?_
      refine XL_cons rfl (X_of_Y1 rfl (Y1_alloc (z := zv36) rfl zf36 rfl)) ?_
      refine XL_cons rfl (X_of_Y1 rfl (Y1_alloc (z := zv38) rfl zf38 rfl)) ?_
      refine XL_cons rfl (E_store (id := 48) (off := 0) (cs := [Ti 0, Ti 0, Ti 0]) (vc := [Ti y5.1.1, Ti y5.1.2.1, Ti y5.1.2.2]) [Ti y5.1.1, Ti y5.1.2.1, Ti y5.1.2.2] rfl rfl (by kernel_rfl) (by kernel_rfl) (by kernel_rfl) sz36 (Nat.le_of_ble_eq_true rfl) (by kernel_rfl)) ?_
      refine XL_cons rfl (E_store (id := 56) (off := 0) (cs := [Ti 0, Ti 0, Ti 0, Ti 0]) (vc := [Ti y5.2.1, Ti y5.2.2.1, Ti y5.2.2.2.1, Ti y5.2.2.2.2]) [Ti y5.2.1, Ti y5.2.2.1, Ti y5.2.2.2.1, Ti y5.2.2.2.2] rfl rfl (by kernel_rfl) (by kernel_rfl) (by kernel_rfl) sz38 (Nat.le_of_ble_eq_true rfl) (by kernel_rfl)) ?_
      refine XL_nil ?_
      kernel_rfl
    obtain ⟨y6, hy6, h⟩ := of_bind h
    refine V_sreg [false, false, false, false, true, true, false, false, false, false, false, false, false, false, false, false, false, false, false, false, false, false, false] [32] (s1 := ⟨[.bot, .bot, .bot, .bot, .pt 32 0, Bo y6.2, .bot, .bot, .bot, .bot, .bot, .bot, .bot, .bot, .bot, .bot, .bot, .bot, .bot, .bot, .bot, .bot, .bot], [(32, .box [Ti y6.1.1, Ti y6.1.2.1, Ti y6.1.2.2.1, Ti y6.1.2.2.2])]⟩) ?_ ?_
    · refine XL_cons rfl (X_of_Y0 rfl (E_loadn (cs := [Ti y5.2.1, Ti y5.2.2.1, Ti y5.2.2.2.1, Ti y5.2.2.2.2]) [Ti y5.2.1, Ti y5.2.2.1, Ti y5.2.2.2.1, Ti y5.2.2.2.2] wd38 rfl (by kernel_rfl) (Nat.le_of_ble_eq_true rfl) (by kernel_rfl))) ?_
      refine XL_cons rfl (X_of_Y1 rfl (Y1_call (s_impl_checked hy6) cf_impl_checked rfl (by kernel_rfl))) ?_
      refine XL_cons rfl (X_of_Y0 rfl (E_ext (n := 0) (.ag [Ti y6.1.1, Ti y6.1.2.1, Ti y6.1.2.2.1, Ti y6.1.2.2.2]) (.tc (Bo y6.2) .tn) (.ag [Ti y6.1.1, Ti y6.1.2.1, Ti y6.1.2.2.1, Ti y6.1.2.2.2]) rfl (by kernel_rfl) (by kernel_rfl) (by intro hh; cases hh))) ?_
      refine XL_cons rfl (X_of_Y0 rfl (E_ext (n := 1) (.ag [Ti y6.1.1, Ti y6.1.2.1, Ti y6.1.2.2.1, Ti y6.1.2.2.2]) (.tc (Bo y6.2) .tn) (Bo y6.2) rfl (by kernel_rfl) (by kernel_rfl) (by intro hh; cases hh))) ?_
      refine XL_cons rfl (E_store (id := 32) (off := 0) (cs := [Ti 0, Ti 0, Ti 0, Ti 0]) (vc := [Ti y6.1.1, Ti y6.1.2.1, Ti y6.1.2.2.1, Ti y6.1.2.2.2]) [Ti y6.1.1, Ti y6.1.2.1, Ti y6.1.2.2.1, Ti y6.1.2.2.2] rfl rfl (by kernel_rfl) (by kernel_rfl) (by kernel_rfl) sz38 (Nat.le_of_ble_eq_true rfl) (by kernel_rfl)) ?_
      refine XL_cons rfl (X_of_Y0 rfl (E_assign (Bo y6.2) rfl (by kernel_rfl))) ?_
      refine XL_nil ?_
      kernel_rfl
    refine V_ret ?_
    obtain rfl := some_inj h
    show Post _ _ _ _ _
    exact ⟨.inr rfl, rfl, rfl, rfl⟩
theorem cf_laws_eqMatrix : ∀ args w, (callFunc 41 args).run Try.prog w = .ok (.enter 41 args) w := run_callFunc Try.func41 (by kernel_rfl) (by kernel_rfl)
set_option maxRecDepth 100000 in
set_option maxHeartbeats 400000 in
theorem s_laws_eqMatrix {a1 : (Int × Int × Int × Int)} {b2 : (Int × Int × Int × Int)} {r : Bool} (h : r_laws_eqMatrix a1 b2 = some r) : CallS Try.prog 41 [.ag [Ti a1.1, Ti a1.2.1, Ti a1.2.2.1, Ti a1.2.2.2], .ag [Ti b2.1, Ti b2.2.1, Ti b2.2.2.1, Ti b2.2.2.2]] (Bo r) [] := by
  refine CallS_of_text (rs := [.t 4]) (vs := [.tmp 4]) Try.func41 rfl rfl (.cons rfl FitsL.nil) (by decide) 25 rfl ?_
  unfold r_laws_eqMatrix at h
  show V _ _ ⟨[.ag [Ti a1.1, Ti a1.2.1, Ti a1.2.2.1, Ti a1.2.2.2], .ag [Ti b2.1, Ti b2.2.1, Ti b2.2.2.1, Ti b2.2.2.2], .bot, .bot, .bot, .bot, .bot, .bot, .bot, .bot, .bot, .bot, .bot, .bot, .bot, .bot, .bot, .bot, .bot, .bot, .bot, .bot, .bot, .bot, .bot], []⟩ _
  refine V_sreg [false, false, true, true, false, false, false, false, false, false, false, false, false, false, false, false, false, false, false, false, false, false, false, false, false] [24, 16] (s1 := ⟨[.bot, .bot, .pt 16 0, .pt 24 0, .bot, .bot, .bot, .bot, .bot, .bot, .bot, .bot, .bot, .bot, .bot, .bot, .bot, .bot, .bot, .bot, .bot, .bot, .bot, .bot, .bot], [(24, .box [Ti b2.1, Ti b2.2.1, Ti b2.2.2.1, Ti b2.2.2.2]), (16, .box [Ti a1.1, Ti a1.2.1, Ti a1.2.2.1, Ti a1.2.2.2])]⟩) ?_ ?_
  · refine XL_cons rfl (X_of_Y1 rfl (Y1_box (cs := [Ti a1.1, Ti a1.2.1, Ti a1.2.2.1, Ti a1.2.2.2]) rfl (by kernel_rfl))) ?_
    refine XL_cons rfl (X_of_Y1 rfl (Y1_box (cs := [Ti b2.1, Ti b2.2.1, Ti b2.2.2.1, Ti b2.2.2.2]) rfl (by kernel_rfl))) ?_
    refine XL_cons rfl (X_of_Y0 rfl (E_assign (Bo false) rfl (by kernel_rfl))) ?_
    refine XL_nil ?_
    kernel_rfl
  refine V_seq ?_
  refine V_sreg [false, false, true, true, false, false, false, false, false, true, false, false, false, false, false, false, false, false, false, false, false, false, false, false, false] [24, 16] (s1 := ⟨[.bot, .bot, .pt 16 0, .pt 24 0, .bot, .bot, .bot, .bot, .bot, Bo (!eqI a1.1 b2.1), .bot, .bot, .bot, .bot, .bot, .bot, .bot, .bot, .bot, .bot, .bot, .bot, .bot, .bot, .bot], [(24, .box [Ti b2.1, Ti b2.2.1, Ti b2.2.2.1, Ti b2.2.2.2]), (16, .box [Ti a1.1, Ti a1.2.1, Ti a1.2.2.1, Ti a1.2.2.2])]⟩) ?_ ?_
  · refine XL_cons rfl (X_of_Y0 rfl (E_field (.pt 16 0) Try.underlying38 rfl sz3 rfl (by kernel_rfl) (by intro hh; cases hh))) ?_
    refine XL_cons rfl (X_of_Y0 rfl (Y0_load1 (c := Ti a1.1) (cs := [Ti a1.2.1, Ti a1.2.2.1, Ti a1.2.2.2]) sc3 rfl (by kernel_rfl))) ?_
    refine XL_cons rfl (X_of_Y0 rfl (E_field (.pt 24 0) Try.underlying38 rfl sz3 rfl (by kernel_rfl) (by intro hh; cases hh))) ?_
    refine XL_cons rfl (X_of_Y0 rfl (Y0_load1 (c := Ti b2.1) (cs := [Ti b2.2.1, Ti b2.2.2.1, Ti b2.2.2.2]) sc3 rfl (by kernel_rfl))) ?_
    refine XL_cons rfl (X_of_Y0 rfl (Y0_new (k := .i64) (a := a1.1) (b := b2.1) rfl (by kernel_rfl) (by kernel_rfl))) ?_
    refine XL_nil ?_
    kernel_rfl
  refine V_cond rfl (fun hc3 => ?_) (fun hc3 => ?_)
  · have h := of_true h hc3
    refine V_sreg [false, false, false, false, true, false, false, false, false, false, false, false, false, false, false, false, false, false, false, false, false, false, false, false, false] [] (s1 := ⟨[.bot, .bot, .bot, .bot, Bo false, .bot, .bot, .bot, .bot, .bot, .bot, .bot, .bot, .bot, .bot, .bot, .bot, .bot, .bot, .bot, .bot, .bot, .bot, .bot, .bot], []⟩) ?_ ?_
    · refine XL_cons rfl (X_of_Y0 rfl (E_assign (Bo false) rfl (by kernel_rfl))) ?_
      refine XL_nil ?_
      kernel_rfl
    refine V_ret ?_
    obtain rfl := some_inj h
    show Post _ _ _ _ _
    exact ⟨.inr rfl, rfl, rfl, rfl⟩
  · have h := of_false h hc3
    refine V_skip ?_
    show V _ _ _ _
    refine V_seq ?_
    refine V_sreg [false, false, true, true, false, false, false, false, false, false, false, false, false, false, true, false, false, false, false, false, false, false, false, false, false] [24, 16] (s1 := ⟨[.bot, .bot, .pt 16 0, .pt 24 0, .bot, .bot, .bot, .bot, .bot, .bot, .bot, .bot, .bot, .bot, Bo (!eqI a1.2.1 b2.2.1), .bot, .bot, .bot, .bot, .bot, .bot, .bot, .bot, .bot, .bot], [(24, .box [Ti b2.1, Ti b2.2.1, Ti b2.2.2.1, Ti b2.2.2.2]), (16, .box [Ti a1.1, Ti a1.2.1, Ti a1.2.2.1, Ti a1.2.2.2])]⟩) ?_ ?_
    · refine XL_cons rfl (X_of_Y0 rfl (E_field (.pt 16 1) Try.underlying38 rfl sz3 rfl (by kernel_rfl) (by intro hh; cases hh))) ?_
      refine XL_cons rfl (X_of_Y0 rfl (Y0_load1 (c := Ti a1.2.1) (cs := [Ti a1.2.2.1, Ti a1.2.2.2]) sc3 rfl (by kernel_rfl))) ?_
      refine XL_cons rfl (X_of_Y0 rfl (E_field (.pt 24 1) Try.underlying38 rfl sz3 rfl (by kernel_rfl) (by intro hh; cases hh))) ?_
      refine XL_cons rfl (X_of_Y0 rfl (Y0_load1 (c := Ti b2.2.1) (cs := [Ti b2.2.2.1, Ti b2.2.2.2]) sc3 rfl (by kernel_rfl))) ?_
      refine XL_cons rfl (X_of_Y0 rfl (Y0_new (k := .i64) (a := a1.2.1) (b := b2.2.1) rfl (by kernel_rfl) (by kernel_rfl))) ?_
      refine XL_nil ?_
      kernel_rfl
    refine V_cond rfl (fun hc4 => ?_) (fun hc4 => ?_)
    · have h := of_true h hc4
      refine V_sreg [false, false, false, false, true, false, false, false, false, false, false, false, false, false, false, false, false, false, false, false, false, false, false, false, false] [] (s1 := ⟨[.bot, .bot, .bot, .bot, Bo false, .bot, .bot, .bot, .bot, .bot, .bot, .bot, .bot, .bot, .bot, .bot, .bot, .bot, .bot, .bot, .bot, .bot, .bot, .bot, .bot], []⟩) ?_ ?_
      · refine XL_cons rfl (X_of_Y0 rfl (E_assign (Bo false) rfl (by kernel_rfl))) ?_
        refine XL_nil ?_
        kernel_rfl
      refine V_ret ?_
      obtain rfl := some_inj h
      show Post _ _ _ _ _
      exact ⟨.inr rfl, rfl, rfl, rfl⟩
    · have h := of_false h hc4
      refine V_skip ?_
      show V _ _ _ _
      refine V_seq ?_
      refine V_sreg [false, false, true, true, false, false, false, false, false, false, false, false, false, false, false, false, false, false, false, true, false, false, false, false, false] [24, 16] (s1 := ⟨[.bot, .bot, .pt 16 0, .pt 24 0, .bot, .bot, .bot, .bot, .bot, .bot, .bot, .bot, .bot, .bot, .bot, .bot, .bot, .bot, .bot, Bo (!eqI a1.2.2.1 b2.2.2.1), .bot, .bot, .bot, .bot, .bot], [(24, .box [Ti b2.1, Ti b2.2.1, Ti b2.2.2.1, Ti b2.2.2.2]), (16, .box [Ti a1.1, Ti a1.2.1, Ti a1.2.2.1, Ti a1.2.2.2])]⟩) ?_ ?_
      · refine XL_cons rfl (X_of_Y0 rfl (E_field (.pt 16 2) Try.underlying38 rfl sz3 rfl (by kernel_rfl) (by intro hh; cases hh))) ?_
        refine XL_cons rfl (X_of_Y0 rfl (Y0_load1 (c := Ti a1.2.2.1) (cs := [Ti a1.2.2.2]) sc3 rfl (by kernel_rfl))) ?_
        refine XL_cons rfl (X_of_Y0 rfl (E_field (.pt 24 2) Try.underlying38 rfl sz3 rfl (by kernel_rfl) (by intro hh; cases hh))) ?_
        refine XL_cons rfl (X_of_Y0 rfl (Y0_load1 (c := Ti b2.2.2.1) (cs := [Ti b2.2.2.2]) sc3 rfl (by kernel_rfl))) ?_
        refine XL_cons rfl (X_of_Y0 rfl (Y0_new (k := .i64) (a := a1.2.2.1) (b := b2.2.2.1) rfl (by kernel_rfl) (by kernel_rfl))) ?_
        refine XL_nil ?_
        kernel_rfl
      refine V_cond rfl (fun hc5 => ?_) (fun hc5 => ?_)
      · have h := of_true h hc5
        refine V_sreg [false, false, false, false, true, false, false, false, false, false, false, false, false, false, false, false, false, false, false, false, false, false, false, false, false] [] (s1 := ⟨[.bot, .bot, .bot, .bot, Bo false, .bot, .bot, .bot, .bot, .bot, .bot, .bot, .bot, .bot, .bot, .bot, .bot, .bot, .bot, .bot, .bot, .bot, .bot, .bot, .bot], []⟩) ?_ ?_
        · refine XL_cons rfl (X_of_Y0 rfl (E_assign (Bo false) rfl (by kernel_rfl))) ?_
          refine XL_nil ?_
          kernel_rfl
        refine V_ret ?_
        obtain rfl := some_inj h
        show Post _ _ _ _ _
        exact ⟨.inr rfl, rfl, rfl, rfl⟩
      · have h := of_false h hc5
        refine V_skip ?_
        show V _ _ _ _
        refine V_seq ?_
        refine V_sreg [false, false, false, false, false, false, false, false, false, false, false, false, false, false, false, false, false, false, false, false, false, false, false, false, true] [] (s1 := ⟨[.bot, .bot, .bot, .bot, .bot, .bot, .bot, .bot, .bot, .bot, .bot, .bot, .bot, .bot, .bot, .bot, .bot, .bot, .bot, .bot, .bot, .bot, .bot, .bot, Bo (!eqI a1.2.2.2 b2.2.2.2)], []⟩) ?_ ?_
        · refine XL_cons rfl (X_of_Y0 rfl (E_field (.pt 16 3) Try.underlying38 rfl sz3 rfl (by kernel_rfl) (by intro hh; cases hh))) ?_
          refine XL_cons rfl (X_of_Y0 rfl (Y0_load1 (c := Ti a1.2.2.2) (cs := []) sc3 rfl (by kernel_rfl))) ?_
          refine XL_cons rfl (X_of_Y0 rfl (E_field (.pt 24 3) Try.underlying38 rfl sz3 rfl (by kernel_rfl) (by intro hh; cases hh))) ?_
          refine XL_cons rfl (X_of_Y0 rfl (Y0_load1 (c := Ti b2.2.2.2) (cs := []) sc3 rfl (by kernel_rfl))) ?_
          refine XL_cons rfl (X_of_Y0 rfl (Y0_new (k := .i64) (a := a1.2.2.2) (b := b2.2.2.2) rfl (by kernel_rfl) (by kernel_rfl))) ?_
          refine XL_nil ?_
          kernel_rfl
        refine V_cond rfl (fun hc6 => ?_) (fun hc6 => ?_)
        · have h := of_true h hc6
          refine V_sreg [false, false, false, false, true, false, false, false, false, false, false, false, false, false, false, false, false, false, false, false, false, false, false, false, false] [] (s1 := ⟨[.bot, .bot, .bot, .bot, Bo false, .bot, .bot, .bot, .bot, .bot, .bot, .bot, .bot, .bot, .bot, .bot, .bot, .bot, .bot, .bot, .bot, .bot, .bot, .bot, .bot], []⟩) ?_ ?_
          · refine XL_cons rfl (X_of_Y0 rfl (E_assign (Bo false) rfl (by kernel_rfl))) ?_
            refine XL_nil ?_
            kernel_rfl
          refine V_ret ?_
          obtain rfl := some_inj h
          show Post _ _ _ _ _
          exact ⟨.inr rfl, rfl, rfl, rfl⟩
        · have h := of_false h hc6
          refine V_skip ?_
          show V _ _ _ _
          refine V_sreg [false, false, false, false, true, false, false, false, false, false, false, false, false, false, false, false, false, false, false, false, false, false, false, false, false] [] (s1 := ⟨[.bot, .bot, .bot, .bot, Bo true, .bot, .bot, .bot, .bot, .bot, .bot, .bot, .bot, .bot, .bot, .bot, .bot, .bot, .bot, .bot, .bot, .bot, .bot, .bot, .bot], []⟩) ?_ ?_
          · refine XL_cons rfl (X_of_Y0 rfl (E_assign (Bo true) rfl (by kernel_rfl))) ?_
            refine XL_nil ?_
            kernel_rfl
          refine V_ret ?_
          obtain rfl := some_inj h
          show Post _ _ _ _ _
          exact ⟨.inr rfl, rfl, rfl, rfl⟩
theorem cf_laws_FnExactDescentMatrix : ∀ args w, (callFunc 11 args).run Try.prog w = .ok (.enter 11 args) w := run_callFunc Try.func11 (by kernel_rfl) (by kernel_rfl)
set_option maxRecDepth 100000 in
set_option maxHeartbeats 400000 in
theorem s_laws_FnExactDescentMatrix {aF1 : (Int × Int × Int)} {aP2 : Int} {r : Bool} (h : r_laws_FnExactDescentMatrix aF1 aP2 = some r) : CallS Try.prog 11 [.ag [Ti aF1.1, Ti aF1.2.1, Ti aF1.2.2], I aP2] (Bo r) [] := by
  refine CallS_of_text (rs := [.t 4]) (vs := [.tmp 4]) Try.func11 rfl rfl (.cons rfl FitsL.nil) (by decide) 32 rfl ?_
  unfold r_laws_FnExactDescentMatrix at h
  show V _ _ ⟨[.ag [Ti aF1.1, Ti aF1.2.1, Ti aF1.2.2], I aP2, .bot, .bot, .bot, .bot, .bot, .bot, .bot, .bot, .bot, .bot, .bot, .bot, .bot, .bot, .bot, .bot, .bot, .bot, .bot, .bot, .bot, .bot, .bot, .bot, .bot, .bot, .bot, .bot, .bot, .bot], []⟩ _
  refine V_sreg [false, true, true, false, false, false, false, false, false, false, false, false, false, false, false, false, false, false, false, false, false, false, false, false, false, false, false, false, false, false, false, false] [16] (s1 := ⟨[.bot, I aP2, .pt 16 0, .bot, .bot, .bot, .bot, .bot, .bot, .bot, .bot, .bot, .bot, .bot, .bot, .bot, .bot, .bot, .bot, .bot, .bot, .bot, .bot, .bot, .bot, .bot, .bot, .bot, .bot, .bot, .bot, .bot], [(16, .box [Ti aF1.1, Ti aF1.2.1, Ti aF1.2.2])]⟩) ?_ ?_
  · refine XL_cons rfl (X_of_Y1 rfl (Y1_box (cs := [Ti aF1.1, Ti aF1.2.1, Ti aF1.2.2]) rfl (by kernel_rfl))) ?_
    refine XL_cons rfl (X_of_Y0 rfl (E_assign (Bo false) rfl (by kernel_rfl))) ?_
    refine XL_nil ?_
    kernel_rfl
  obtain ⟨y3, hy3, h⟩ := of_bind h
  obtain ⟨y4, hy4, h⟩ := of_bind h
  refine V_sreg [false, true, true, false, false, true, true, false, false, false, false, false, false, false, false, false, false, false, false, false, false, false, false, false, false, false, false, false, false, false, false, false] [40, 16] (s1 := ⟨[.bot, I aP2, .pt 16 0, .bot, .bot, .pt 40 0, Bo y4.2, .bot, .bot, .bot, .bot, .bot, .bot, .bot, .bot, .bot, .bot, .bot, .bot, .bot, .bot, .bot, .bot, .bot, .bot, .bot, .bot, .bot, .bot, .bot, .bot, .bot], [(40, .box [Ti y4.1.1, Ti y4.1.2.1, Ti y4.1.2.2.1, Ti y4.1.2.2.2]), (16, .box [Ti aF1.1, Ti aF1.2.1, Ti aF1.2.2])]⟩) ?_ ?_
  · refine XL_cons rfl (X_of_Y0 rfl (E_loadn (cs := [Ti aF1.1, Ti aF1.2.1, Ti aF1.2.2]) [Ti aF1.1, Ti aF1.2.1, Ti aF1.2.2] wd31 rfl (by kernel_rfl) (Nat.le_of_ble_eq_true rfl) (by kernel_rfl))) ?_
    refine XL_cons rfl (X_of_Y1 rfl (Y1_call (s_laws_toForm hy3) cf_laws_toForm rfl (by kernel_rfl))) ?_
    refine XL_cons rfl (X_of_Y0 rfl (E_move (I aP2) rfl (by kernel_rfl))) ?_
    refine XL_cons rfl (X_of_Y1 rfl (Y1_call (s_spec_DescentMatrix hy4) cf_spec_DescentMatrix rfl (by kernel_rfl))) ?_
    refine XL_cons rfl (X_of_Y0 rfl (E_move (.tc (.ag [Ti y4.1.1, Ti y4.1.2.1, Ti y4.1.2.2.1, Ti y4.1.2.2.2]) (.tc (Bo y4.2) .tn)) rfl (by kernel_rfl))) ?_
    refine XL_cons rfl (X_of_Y0 rfl (E_ext (n := 0) (.ag [Ti y4.1.1, Ti y4.1.2.1, Ti y4.1.2.2.1, Ti y4.1.2.2.2]) (.tc (Bo y4.2) .tn) (.ag [Ti y4.1.1, Ti y4.1.2.1, Ti y4.1.2.2.1, Ti y4.1.2.2.2]) rfl (by kernel_rfl) (by kernel_rfl) (by intro hh; cases hh))) ?_
    refine XL_cons rfl (X_of_Y0 rfl (E_ext (n := 1) (.ag [Ti y4.1.1, Ti y4.1.2.1, Ti y4.1.2.2.1, Ti y4.1.2.2.2]) (.tc (Bo y4.2) .tn) (Bo y4.2) rfl (by kernel_rfl) (by kernel_rfl) (by intro hh; cases hh))) ?_
    refine XL_cons rfl (X_of_Y1 rfl (Y1_alloc (z := zv38) rfl zf38 rfl)) ?_
    refine XL_cons rfl (E_store (id := 40) (off := 0) (cs := [Ti 0, Ti 0, Ti 0, Ti 0]) (vc := [Ti y4.1.1, Ti y4.1.2.1, Ti y4.1.2.2.1, Ti y4.1.2.2.2]) [Ti y4.1.1, Ti y4.1.2.1, Ti y4.1.2.2.1, Ti y4.1.2.2.2] rfl rfl (by kernel_rfl) (by kernel_rfl) (by kernel_rfl) sz38 (Nat.le_of_ble_eq_true rfl) (by kernel_rfl)) ?_
    refine XL_cons rfl (X_of_Y0 rfl (E_assign (Bo y4.2) rfl (by kernel_rfl))) ?_
    refine XL_nil ?_
    kernel_rfl
  obtain ⟨y5, hy5, h⟩ := of_bind h
  obtain ⟨y6, hy6, h⟩ := of_bind h
  refine V_sreg [false, false, false, false, false, true, true, true, true, false, false, false, false, false, false, false, false, false, false, false, false, false, false, false, false, false, false, false, false, false, false, false] [56, 40] (s1 := ⟨[.bot, .bot, .bot, .bot, .bot, .pt 40 0, Bo y4.2, .pt 56 0, Bo y6.2, .bot, .bot, .bot, .bot, .bot, .bot, .bot, .bot, .bot, .bot, .bot, .bot, .bot, .bot, .bot, .bot, .bot, .bot, .bot, .bot, .bot, .bot, .bot], [(56, .box [Ti y6.1.1, Ti y6.1.2.1, Ti y6.1.2.2.1, Ti y6.1.2.2.2]), (40, .box [Ti y4.1.1, Ti y4.1.2.1, Ti y4.1.2.2.1, Ti y4.1.2.2.2])]⟩) ?_ ?_
  · refine XL_cons rfl (X_of_Y0 rfl (E_loadn (cs := [Ti aF1.1, Ti aF1.2.1, Ti aF1.2.2]) [Ti aF1.1, Ti aF1.2.1, Ti aF1.2.2] wd31 rfl (by kernel_rfl) (Nat.le_of_ble_eq_true rfl) (by kernel_rfl))) ?_
    refine XL_cons rfl (X_of_Y1 rfl (Y1_call (s_laws_toForm hy5) cf_laws_toForm rfl (by kernel_rfl))) ?_
    refine XL_cons rfl (X_of_Y0 rfl (E_move (I aP2) rfl (by kernel_rfl))) ?_
    refine XL_cons rfl (X_of_Y1 rfl (Y1_call (s_impl_DescentMatrix hy6) cf_impl_DescentMatrix rfl (by kernel_rfl))) ?_
    refine XL_cons rfl (X_of_Y0 rfl (E_move (.tc (.ag [Ti y6.1.1, Ti y6.1.2.1, Ti y6.1.2.2.1, Ti y6.1.2.2.2]) (.tc (Bo y6.2) .tn)) rfl (by kernel_rfl))) ?_
    refine XL_cons rfl (X_of_Y0 rfl (E_ext (n := 0) (.ag [Ti y6.1.1, Ti y6.1.2.1, Ti y6.1.2.2.1, Ti y6.1.2.2.2]) (.tc (Bo y6.2) .tn) (.ag [Ti y6.1.1, Ti y6.1.2.1, Ti y6.1.2.2.1, Ti y6.1.2.2.2]) rfl (by kernel_rfl) (by kernel_rfl) (by intro hh; cases hh))) ?_
    refine XL_cons rfl (X_of_Y0 rfl (E_ext (n := 1) (.ag [Ti y6.1.1, Ti y6.1.2.1, Ti y6.1.2.2.1, Ti y6.1.2.2.2]) (.tc (Bo y6.2) .tn) (Bo y6.2) rfl (by kernel_rfl) (by kernel_rfl) (by intro hh; cases hh))) ?_
    refine XL_cons rfl (X_of_Y1 rfl (Y1_alloc (z := zv38) rfl zf38 rfl)) ?_
    refine XL_cons rfl (E_store (id := 56) (off := 0) (cs := [Ti 0, Ti 0, Ti 0, Ti 0]) (vc := [Ti y6.1.1, Ti y6.1.2.1, Ti y6.1.2.2.1, Ti y6.1.2.2.2]) [Ti y6.1.1, Ti y6.1.2.1, Ti y6.1.2.2.1, Ti y6.1.2.2.2] rfl rfl (by kernel_rfl) (by kernel_rfl) (by kernel_rfl) sz38 (Nat.le_of_ble_eq_true rfl) (by kernel_rfl)) ?_
    refine XL_cons rfl (X_of_Y0 rfl (E_assign (Bo y6.2) rfl (by kernel_rfl))) ?_
    refine XL_nil ?_
    kernel_rfl
  refine V_seq ?_
  obtain ⟨y7, hy7, h⟩ := of_bind h
  refine V_sreg [false, false, false, false, false, false, false, false, false, false, false, false, false, false, false, false, false, false, false, false, false, false, false, false, false, false, false, false, false, false, false, true] [] (s1 := ⟨[.bot, .bot, .bot, .bot, .bot, .bot, .bot, .bot, .bot, .bot, .bot, .bot, .bot, .bot, .bot, .bot, .bot, .bot, .bot, .bot, .bot, .bot, .bot, .bot, .bot, .bot, .bot, .bot, .bot, .bot, .bot, Bo (bif (!y7) then true else (y6.2 != y4.2))], []⟩) ?_ ?_
  · refine XL_cons rfl (X_of_Y0 rfl (E_loadn (cs := [Ti y6.1.1, Ti y6.1.2.1, Ti y6.1.2.2.1, Ti y6.1.2.2.2]) [Ti y6.1.1, Ti y6.1.2.1, Ti y6.1.2.2.1, Ti y6.1.2.2.2] wd38 rfl (by kernel_rfl) (Nat.le_of_ble_eq_true rfl) (by kernel_rfl))) ?_
    refine XL_cons rfl (X_of_Y0 rfl (E_loadn (cs := [Ti y4.1.1, Ti y4.1.2.1, Ti y4.1.2.2.1, Ti y4.1.2.2.2]) [Ti y4.1.1, Ti y4.1.2.1, Ti y4.1.2.2.1, Ti y4.1.2.2.2] wd38 rfl (by kernel_rfl) (Nat.le_of_ble_eq_true rfl) (by kernel_rfl))) ?_
    refine XL_cons rfl (X_of_Y1 rfl (Y1_call (s_laws_eqMatrix hy7) cf_laws_eqMatrix rfl (by kernel_rfl))) ?_
    refine XL_cons rfl (X_of_Y0 rfl (Y0_not (b := y7) rfl (by kernel_rfl))) ?_
    refine XL_cons rfl (X_of_Y0 rfl (E_move (Bo (!y7)) rfl (by kernel_rfl))) ?_
    refine XL_split (!y7) (fun hc8 => ?_) (fun hc8 => ?_)
    · refine XL_skipF (!y7) rfl rfl (by kernel_rfl) hc8 rfl ?_
      refine XL_skipF (!y7) rfl rfl (by kernel_rfl) hc8 rfl ?_
      refine XL_skipF (!y7) rfl rfl (by kernel_rfl) hc8 rfl ?_
      refine XL_cons rfl (X_of_Y0 rfl (Y0_pick1 (b := !y7) (p := true) (q := y6.2 != y4.2) rfl (by kernel_rfl) hc8 (by kernel_rfl))) ?_
      refine XL_nil ?_
      kernel_rfl
    · refine XL_takeC (!y7) rfl rfl (by kernel_rfl) hc8 (X_of_Y0 rfl (E_move (Bo y6.2) rfl (by kernel_rfl))) ?_
      refine XL_takeC (!y7) rfl rfl (by kernel_rfl) hc8 (X_of_Y0 rfl (E_move (Bo y4.2) rfl (by kernel_rfl))) ?_
      refine XL_takeC (!y7) rfl rfl (by kernel_rfl) hc8 (X_of_Y0 rfl (Y0_neb (a := y6.2) (b := y4.2) Try.underlying4 rfl (by kernel_rfl) (by kernel_rfl))) ?_
      refine XL_cons rfl (X_of_Y0 rfl (Y0_pick0 (b := !y7) (p := true) (q := y6.2 != y4.2) rfl (by kernel_rfl) hc8 (by kernel_rfl))) ?_
      refine XL_nil ?_
      kernel_rfl
  refine V_cond rfl (fun hc9 => ?_) (fun hc9 => ?_)
  · have h := of_true h hc9
    refine V_sreg [false, false, false, false, true, false, false, false, false, false, false, false, false, false, false, false, false, false, false, false, false, false, false, false, false, false, false, false, false, false, false, false] [] (s1 := ⟨[.bot, .bot, .bot, .bot, Bo false, .bot, .bot, .bot, .bot, .bot, .bot, .bot, .bot, .bot, .bot, .bot, .bot, .bot, .bot, .bot, .bot, .bot, .bot, .bot, .bot, .bot, .bot, .bot, .bot, .bot, .bot, .bot], []⟩) ?_ ?_
    · refine XL_cons rfl (X_of_Y0 rfl (E_assign (Bo false) rfl (by kernel_rfl))) ?_
      refine XL_nil ?_
      kernel_rfl
    refine V_ret ?_
    obtain rfl := some_inj h
    show Post _ _ _ _ _
    exact ⟨.inr rfl, rfl, rfl, rfl⟩
  · have h := of_false h hc9
    refine V_skip ?_
    show V _ _ _ _
    refine V_sreg [false, false, false, false, true, false, false, false, false, false, false, false, false, false, false, false, false, false, false, false, false, false, false, false, false, false, false, false, false, false, false, false] [] (s1 := ⟨[.bot, .bot, .bot, .bot, Bo true, .bot, .bot, .bot, .bot, .bot, .bot, .bot, .bot, .bot, .bot, .bot, .bot, .bot, .bot, .bot, .bot, .bot, .bot, .bot, .bot, .bot, .bot, .bot, .bot, .bot, .bot, .bot], []⟩) ?_ ?_
    · refine XL_cons rfl (X_of_Y0 rfl (E_assign (Bo true) rfl (by kernel_rfl))) ?_
      refine XL_nil ?_
      kernel_rfl
    refine V_ret ?_
    obtain rfl := some_inj h
    show Post _ _ _ _ _
    exact ⟨.inr rfl, rfl, rfl, rfl⟩
theorem cf_spec_reClass : ∀ args w, (callFunc 84 args).run Try.prog w = .ok (.enter 84 args) w := run_callFunc Try.func84 (by kernel_rfl) (by kernel_rfl)
set_option maxRecDepth 100000 in
set_option maxHeartbeats 400000 in
theorem s_spec_reClass {f1 : (Int × Int × Int)} {r : (Int × Int × Int)} (h : r_spec_reClass f1 = some r) : CallS Try.prog 84 [.ag [Ti f1.1, Ti f1.2.1, Ti f1.2.2]] (.ag [Ti r.1, Ti r.2.1, Ti r.2.2]) [] := by
  refine CallS_of_text (rs := [.w 2 3]) (vs := [.cell 2 36]) Try.func84 rfl rfl (.cons ⟨rfl, wd36⟩ FitsL.nil) (by decide) 11 rfl ?_
  unfold r_spec_reClass at h
  show V _ _ ⟨[.ag [Ti f1.1, Ti f1.2.1, Ti f1.2.2], .bot, .bot, .bot, .bot, .bot, .bot, .bot, .bot, .bot, .bot], []⟩ _
  refine V_sreg [false, true, true, false, false, false, false, false, false, false, false] [16, 8] (s1 := ⟨[.bot, .pt 8 0, .pt 16 0, .bot, .bot, .bot, .bot, .bot, .bot, .bot, .bot], [(16, .box [Ti 0, Ti 0, Ti 0]), (8, .box [Ti f1.1, Ti f1.2.1, Ti f1.2.2])]⟩) ?_ ?_
  · refine XL_cons rfl (X_of_Y1 rfl (Y1_box (cs := [Ti f1.1, Ti f1.2.1, Ti f1.2.2]) rfl (by kernel_rfl))) ?_
    refine XL_cons rfl (X_of_Y1 rfl (Y1_alloc (z := zv36) rfl zf36 rfl)) ?_
    refine XL_nil ?_
    kernel_rfl
  obtain ⟨y2, hy2, h⟩ := of_bind h
  refine V_sreg [false, false, true, true, false, false, false, false, false, false, false] [24, 16] (s1 := ⟨[.bot, .bot, .pt 16 0, .pt 24 0, .bot, .bot, .bot, .bot, .bot, .bot, .bot], [(24, .box [Ti y2.1.1, Ti y2.1.2.1, Ti y2.1.2.2]), (16, .box [Ti 0, Ti 0, Ti 0])]⟩) ?_ ?_
  · refine XL_cons rfl (X_of_Y0 rfl (E_loadn (cs := [Ti f1.1, Ti f1.2.1, Ti f1.2.2]) [Ti f1.1, Ti f1.2.1, Ti f1.2.2] wd36 rfl (by kernel_rfl) (Nat.le_of_ble_eq_true rfl) (by kernel_rfl))) ?_
    refine XL_cons rfl (X_of_Y1 rfl (Y1_call (s_spec_reReduce hy2) cf_spec_reReduce rfl (by kernel_rfl))) ?_
    refine XL_cons rfl (X_of_Y0 rfl (E_move (.tc (.ag [Ti y2.1.1, Ti y2.1.2.1, Ti y2.1.2.2]) (.tc (.ag [Ti y2.2.1, Ti y2.2.2.1, Ti y2.2.2.2.1, Ti y2.2.2.2.2]) .tn)) rfl (by kernel_rfl))) ?_
    refine XL_cons rfl (X_of_Y0 rfl (E_ext (n := 0) (.ag [Ti y2.1.1, Ti y2.1.2.1, Ti y2.1.2.2]) (.tc (.ag [Ti y2.2.1, Ti y2.2.2.1, Ti y2.2.2.2.1, Ti y2.2.2.2.2]) .tn) (.ag [Ti y2.1.1, Ti y2.1.2.1, Ti y2.1.2.2]) rfl (by kernel_rfl) (by kernel_rfl) (by intro hh; cases hh))) ?_
    refine XL_cons rfl (X_of_Y0 rfl (E_ext (n := 1) (.ag [Ti y2.1.1, Ti y2.1.2.1, Ti y2.1.2.2]) (.tc (.ag [Ti y2.2.1, Ti y2.2.2.1, Ti y2.2.2.2.1, Ti y2.2.2.2.2]) .tn) (.ag [Ti y2.2.1, Ti y2.2.2.1, Ti y2.2.2.2.1, Ti y2.2.2.2.2]) rfl (by kernel_rfl) (by kernel_rfl) (by intro hh; cases hh))) ?_
    refine XL_cons rfl (X_of_Y1 rfl (Y1_alloc (z := zv36) rfl zf36 rfl)) ?_
    refine XL_cons rfl (X_of_Y1 rfl (Y1_alloc (z := zv38) rfl zf38 rfl)) ?_
    refine XL_cons rfl (E_store (id := 24) (off := 0) (cs := [Ti 0, Ti 0, Ti 0]) (vc := [Ti y2.1.1, Ti y2.1.2.1, Ti y2.1.2.2]) [Ti y2.1.1, Ti y2.1.2.1, Ti y2.1.2.2] rfl rfl (by kernel_rfl) (by kernel_rfl) (by kernel_rfl) sz36 (Nat.le_of_ble_eq_true rfl) (by kernel_rfl)) ?_
    refine XL_cons rfl (E_store (id := 32) (off := 0) (cs := [Ti 0, Ti 0, Ti 0, Ti 0]) (vc := [Ti y2.2.1, Ti y2.2.2.1, Ti y2.2.2.2.1, Ti y2.2.2.2.2]) [Ti y2.2.1, Ti y2.2.2.1, Ti y2.2.2.2.1, Ti y2.2.2.2.2] rfl rfl (by kernel_rfl) (by kernel_rfl) (by kernel_rfl) sz38 (Nat.le_of_ble_eq_true rfl) (by kernel_rfl)) ?_
    refine XL_nil ?_
    kernel_rfl
  refine V_sreg [false, false, true, false, false, false, false, false, false, false, false] [16] (s1 := ⟨[.bot, .bot, .pt 16 0, .bot, .bot, .bot, .bot, .bot, .bot, .bot, .bot], [(16, .box [Ti y2.1.1, Ti y2.1.2.1, Ti y2.1.2.2])]⟩) ?_ ?_
  · refine XL_cons rfl (X_of_Y0 rfl (E_loadn (cs := [Ti y2.1.1, Ti y2.1.2.1, Ti y2.1.2.2]) [Ti y2.1.1, Ti y2.1.2.1, Ti y2.1.2.2] wd36 rfl (by kernel_rfl) (Nat.le_of_ble_eq_true rfl) (by kernel_rfl))) ?_
    refine XL_cons rfl (E_store (id := 16) (off := 0) (cs := [Ti 0, Ti 0, Ti 0]) (vc := [Ti y2.1.1, Ti y2.1.2.1, Ti y2.1.2.2]) [Ti y2.1.1, Ti y2.1.2.1, Ti y2.1.2.2] rfl rfl (by kernel_rfl) (by kernel_rfl) (by kernel_rfl) sz36 (Nat.le_of_ble_eq_true rfl) (by kernel_rfl)) ?_
    refine XL_nil ?_
    kernel_rfl
  refine V_ret ?_
  obtain rfl := some_inj h
  show Post _ _ _ _ _
  exact ⟨.inr rfl, rfl, rfl, rfl⟩
theorem cf_spec_nuFactors : ∀ args w, (callFunc 85 args).run Try.prog w = .ok (.enter 85 args) w := run_callFunc Try.func85 (by kernel_rfl) (by kernel_rfl)
set_option maxRecDepth 100000 in
set_option maxHeartbeats 400000 in
theorem s_spec_nuFactors {vn1 : Int} {r : List Int} (h : r_spec_nuFactors vn1 = some r) : CallS Try.prog 85 [I vn1] (.ow 0) [(0, .arr 3 1 (r.map c3))] := by
  refine CallS_of_text (rs := [.t 2]) (vs := [.tmp 2]) Try.func85 rfl rfl (.cons rfl FitsL.nil) (by decide) 30 rfl ?_
  unfold r_spec_nuFactors at h
  show V _ _ ⟨[I vn1, .bot, .bot, .bot, .bot, .bot, .bot, .bot, .bot, .bot, .bot, .bot, .bot, .bot, .bot, .bot, .bot, .bot, .bot, .bot, .bot, .bot, .bot, .bot, .bot, .bot, .bot, .bot, .bot, .bot], []⟩ _
  refine V_sreg [true, false, false, false, false, false, false, false, false, false, false, false, false, false, false, false, false, false, false, false, false, false, false, false, false, false, false, false, false, false] [] (s1 := ⟨[I vn1, .bot, .bot, .bot, .bot, .bot, .bot, .bot, .bot, .bot, .bot, .bot, .bot, .bot, .bot, .bot, .bot, .bot, .bot, .bot, .bot, .bot, .bot, .bot, .bot, .bot, .bot, .bot, .bot, .bot], []⟩) ?_ ?_
  · refine XL_cons rfl (X_of_Y1 rfl (Y1_nil (e := 3) 1 (by decide) (.inl rfl))) ?_
    refine XL_nil ?_
    kernel_rfl
  refine V_sreg [true, false, false, true, false, false, false, false, false, false, false, false, false, false, false, false, false, false, false, false, false, false, false, false, false, false, false, false, false, false] [24] (s1 := ⟨[I vn1, .bot, .bot, .ow 24, .bot, .bot, .bot, .bot, .bot, .bot, .bot, .bot, .bot, .bot, .bot, .bot, .bot, .bot, .bot, .bot, .bot, .bot, .bot, .bot, .bot, .bot, .bot, .bot, .bot, .bot], [(24, .arr 3 1 ((([] : List Int)).map c3))]⟩) ?_ ?_
  · refine XL_cons rfl (X_of_Y1 rfl (Y1_nil (e := 3) 1 (by decide) (.inl rfl))) ?_
    refine XL_nil ?_
    kernel_rfl
  refine V_seq ?_
  refine V_sreg [true, false, false, true, true, false, false, false, false, false, false, false, false, false, false, false, false, false, false, false, false, false, false, false, false, false, false, false, false, false] [24] (s1 := ⟨[I vn1, .bot, .bot, .ow 24, I 2, .bot, .bot, .bot, .bot, .bot, .bot, .bot, .bot, .bot, .bot, .bot, .bot, .bot, .bot, .bot, .bot, .bot, .bot, .bot, .bot, .bot, .bot, .bot, .bot, .bot], [(24, .arr 3 1 ((([] : List Int)).map c3))]⟩) ?_ ?_
  · refine XL_cons rfl (X_of_Y0 rfl (E_assign (I 2) rfl (by kernel_rfl))) ?_
    refine XL_nil ?_
    kernel_rfl
  obtain ⟨o6, hLo6, h⟩ := of_bind h
  refine V_toK [true, false, false, true, false, false, false, false, false, false, false, false, false, false, false, false, false, false, false, false, false, false, false, false, false, false, false, false, false, false] [24] (s1 := ⟨[I o6.1, .bot, .bot, .ow 24, .bot, .bot, .bot, .bot, .bot, .bot, .bot, .bot, .bot, .bot, .bot, .bot, .bot, .bot, .bot, .bot, .bot, .bot, .bot, .bot, .bot, .bot, .bot, .bot, .bot, .bot], [(24, .arr 3 1 (o6.2.map c3))]⟩) ?_ ?_
  · clear h
    refine V_block (V_loop (fun n s => ∃ (vn2 : Int) (d3 : Int) (l4 : List Int), s.keep [true, false, false, true, true, false, false, false, false, false, false, false, false, false, false, false, false, false, false, false, false, false, false, false, false, false, false, false, false, false] [24] = (⟨[I vn2, .bot, .bot, .ow 24, I d3, .bot, .bot, .bot, .bot, .bot, .bot, .bot, .bot, .bot, .bot, .bot, .bot, .bot, .bot, .bot, .bot, .bot, .bot, .bot, .bot, .bot, .bot, .bot, .bot, .bot], [(24, .arr 3 1 (l4.map c3))]⟩ : St) ∧ r_spec_nuFactors_L5 n vn2 d3 l4 = some o6) FU ⟨_, _, _,  by rfl, hLo6⟩ ?_)
    clear hLo6
    rintro n s ⟨vn2, d3, l4, hs, h⟩
    refine V_keep _ _ hs ?_
    clear hs
    cases n with
    | zero => cases h
    | succ n =>
      rw [r_spec_nuFactors_L5] at h
      refine V_seq ?_
      refine V_sreg [true, false, false, true, true, false, false, false, false, true, false, false, false, false, false, false, false, false, false, false, false, false, false, false, false, false, false, false, false, false] [24] (s1 := ⟨[I vn2, .bot, .bot, .ow 24, I d3, .bot, .bot, .bot, .bot, Bo (leI (w64 (d3 * d3)) vn2), .bot, .bot, .bot, .bot, .bot, .bot, .bot, .bot, .bot, .bot, .bot, .bot, .bot, .bot, .bot, .bot, .bot, .bot, .bot, .bot], [(24, .arr 3 1 (l4.map c3))]⟩) ?_ ?_
      · refine XL_cons rfl (X_of_Y0 rfl (E_move (I d3) rfl (by kernel_rfl))) ?_
        refine XL_cons rfl (X_of_Y0 rfl (E_move (I d3) rfl (by kernel_rfl))) ?_
        refine XL_cons rfl (X_of_Y0 rfl (Y0_mul64 (a := d3) (b := d3) rfl (by kernel_rfl) (by kernel_rfl))) ?_
        refine XL_cons rfl (X_of_Y0 rfl (E_move (I vn2) rfl (by kernel_rfl))) ?_
        refine XL_cons rfl (X_of_Y0 rfl (Y0_lew (k := .i64) (a := w64 (d3 * d3)) (b := vn2) rfl (by kernel_rfl) (by kernel_rfl))) ?_
        refine XL_nil ?_
        kernel_rfl
      refine V_cond rfl (fun hc7 => ?_) (fun hc7 => ?_)
      · have h := of_true h hc7
        refine V_skip ?_
        show V _ _ _ _
        refine V_seq ?_
        refine V_block ?_
        obtain ⟨o11, hLo11, h⟩ := of_bind h
        refine V_toK [true, false, false, true, true, false, false, false, false, false, false, false, false, false, false, false, false, false, false, false, false, false, false, false, false, false, false, false, false, false] [24] (s1 := ⟨[I o11.1, .bot, .bot, .ow 24, I d3, .bot, .bot, .bot, .bot, .bot, .bot, .bot, .bot, .bot, .bot, .bot, .bot, .bot, .bot, .bot, .bot, .bot, .bot, .bot, .bot, .bot, .bot, .bot, .bot, .bot], [(24, .arr 3 1 (o11.2.map c3))]⟩) ?_ ?_
        · clear h
          refine V_block (V_loop (fun n s => ∃ (vn8 : Int) (l9 : List Int), s.keep [true, false, false, true, true, false, false, false, false, false, false, false, false, false, false, false, false, false, false, false, false, false, false, false, false, false, false, false, false, false] [24] = (⟨[I vn8, .bot, .bot, .ow 24, I d3, .bot, .bot, .bot, .bot, .bot, .bot, .bot, .bot, .bot, .bot, .bot, .bot, .bot, .bot, .bot, .bot, .bot, .bot, .bot, .bot, .bot, .bot, .bot, .bot, .bot], [(24, .arr 3 1 (l9.map c3))]⟩ : St) ∧ r_spec_nuFactors_L10 d3 n vn8 l9 = some o11) FU ⟨_, _,  by rfl, hLo11⟩ ?_)
          clear hLo11
          rintro n s ⟨vn8, l9, hs, h⟩
          refine V_keep _ _ hs ?_
          clear hs
          cases n with
          | zero => cases h
          | succ n =>
            rw [r_spec_nuFactors_L10] at h
            refine V_seq ?_
            obtain ⟨z12, hz12, h⟩ := of_bind h
            refine V_sreg [true, false, false, true, true, false, false, false, false, false, false, false, false, false, false, true, false, false, false, false, false, false, false, false, false, false, false, false, false, false] [24] (s1 := ⟨[I vn8, .bot, .bot, .ow 24, I d3, .bot, .bot, .bot, .bot, .bot, .bot, .bot, .bot, .bot, .bot, Bo (eqI (Int.tmod vn8 d3) 0), .bot, .bot, .bot, .bot, .bot, .bot, .bot, .bot, .bot, .bot, .bot, .bot, .bot, .bot], [(24, .arr 3 1 (l9.map c3))]⟩) ?_ ?_
            · refine XL_cons rfl (X_of_Y0 rfl (E_move (I vn8) rfl (by kernel_rfl))) ?_
              refine XL_cons rfl (X_of_Y0 rfl (E_move (I d3) rfl (by kernel_rfl))) ?_
              refine XL_cons rfl (X_of_Y0 rfl (Y0_rem (k := .i64) (a := vn8) (b := d3) rfl (by kernel_rfl) (by kernel_rfl) (nz_some hz12))) ?_
              refine XL_cons rfl (X_of_Y0 rfl (Y0_eqw (k := .i64) (a := Int.tmod vn8 d3) (b := 0) rfl (by kernel_rfl) (by kernel_rfl))) ?_
              refine XL_nil ?_
              kernel_rfl
            refine V_cond rfl (fun hc13 => ?_) (fun hc13 => ?_)
            · have h := of_true h hc13
              refine V_skip ?_
              show V _ _ _ _
              refine V_block ?_
              obtain ⟨u14, hu14, h⟩ := of_bind h
              refine V_sreg [true, false, false, true, true, false, false, false, false, false, false, false, false, false, false, false, false, false, false, false, false, false, false, false, false, false, false, false, false, false] [24] (s1 := ⟨[I vn8, .bot, .bot, .ow 24, I d3, .bot, .bot, .bot, .bot, .bot, .bot, .bot, .bot, .bot, .bot, .bot, .bot, .bot, .bot, .bot, .bot, .bot, .bot, .bot, .bot, .bot, .bot, .bot, .bot, .bot], [(24, .arr 3 1 ((l9 ++ ([d3])).map c3))]⟩) ?_ ?_
              · refine XL_cons rfl (X_of_Y0 rfl (E_move (.ow 24) rfl (by kernel_rfl))) ?_
                refine XL_cons rfl (X_of_Y0 rfl (E_move (I d3) rfl (by kernel_rfl))) ?_
                refine XL_cons rfl (X_of_Y1 rfl (Y1_bslice (z := zv3) (els := [d3].map c3) Try.underlying25 iz3 rfl (by decide) rfl (by kernel_rfl) rfl (by simp [c3]) (by decide) (by decide))) ?_
                refine XL_cons rfl (X_appendM (c := c3) (xs := l9) (ys := [d3]) (id := 24) (z := zv3) rfl rfl Try.underlying25 izb3 rfl (by kernel_rfl) (by kernel_rfl) (by kernel_rfl) (fun _ => rfl) (by simp) (room_some hu14) (by decide)) ?_
                refine XL_cons rfl (X_of_Y0 rfl (E_assign (.ow 24) rfl (by kernel_rfl))) ?_
                refine XL_nil ?_
                kernel_rfl
              obtain ⟨z15, hz15, h⟩ := of_bind h
              obtain ⟨vn16, hvn16, h⟩ := of_sI h
              refine V_reg [true, false, false, true, true, false, false, false, false, false, false, false, false, false, false, false, false, false, false, false, false, false, false, false, false, false, false, false, false, false] [24] (s1 := ⟨[I vn16, .bot, .bot, .ow 24, I d3, .bot, .bot, .bot, .bot, .bot, .bot, .bot, .bot, .bot, .bot, .bot, .bot, .bot, .bot, .bot, .bot, .bot, .bot, .bot, .bot, .bot, .bot, .bot, .bot, .bot], [(24, .arr 3 1 ((l9 ++ ([d3])).map c3))]⟩) ?_ ?_
              · refine XL_cons rfl (X_of_Y0 rfl (E_move (I vn8) rfl (by kernel_rfl))) ?_
                refine XL_cons rfl (X_of_Y0 rfl (E_move (I d3) rfl (by kernel_rfl))) ?_
                refine XL_cons rfl (X_of_Y0 rfl (Y0_quo64 (a := vn8) (b := d3) rfl (by kernel_rfl) (by kernel_rfl) (nz_some hz15))) ?_
                refine XL_cons rfl (X_of_Y0 rfl (E_assign (I (w64 (Int.tdiv vn8 d3))) rfl (by kernel_rfl))) ?_
                refine XL_nil ?_
                subst hvn16
                kernel_rfl
              exact ⟨n, Nat.lt_succ_self n, _, _,  by rfl, h⟩
            · have h := of_false h hc13
              refine V_exit ?_
              obtain rfl := some_inj h
              show St.keep _ _ _ = _
              rfl
        show V _ _ _ _
        obtain ⟨d17, hd17, h⟩ := of_sI h
        refine V_reg [true, false, false, true, true, false, false, false, false, false, false, false, false, false, false, false, false, false, false, false, false, false, false, false, false, false, false, false, false, false] [24] (s1 := ⟨[I o11.1, .bot, .bot, .ow 24, I d17, .bot, .bot, .bot, .bot, .bot, .bot, .bot, .bot, .bot, .bot, .bot, .bot, .bot, .bot, .bot, .bot, .bot, .bot, .bot, .bot, .bot, .bot, .bot, .bot, .bot], [(24, .arr 3 1 (o11.2.map c3))]⟩) ?_ ?_
        · refine XL_cons rfl (X_of_Y0 rfl (E_move (I d3) rfl (by kernel_rfl))) ?_
          refine XL_cons rfl (X_of_Y0 rfl (Y0_add64 (a := d3) (b := 1) rfl (by kernel_rfl) (by kernel_rfl))) ?_
          refine XL_cons rfl (X_of_Y0 rfl (E_assign (I (w64 (d3 + 1))) rfl (by kernel_rfl))) ?_
          refine XL_nil ?_
          subst hd17
          kernel_rfl
        exact ⟨n, Nat.lt_succ_self n, _, _, _,  by rfl, h⟩
      · have h := of_false h hc7
        refine V_exit ?_
        obtain rfl := some_inj h
        show St.keep _ _ _ = _
        rfl
  show V _ _ _ _
  refine V_seq ?_
  refine V_sreg [true, false, false, true, false, false, false, false, false, false, false, false, false, false, false, false, false, false, false, false, false, false, false, false, true, false, false, false, false, false] [24] (s1 := ⟨[I o6.1, .bot, .bot, .ow 24, .bot, .bot, .bot, .bot, .bot, .bot, .bot, .bot, .bot, .bot, .bot, .bot, .bot, .bot, .bot, .bot, .bot, .bot, .bot, .bot, Bo (ltI 1 o6.1), .bot, .bot, .bot, .bot, .bot], [(24, .arr 3 1 (o6.2.map c3))]⟩) ?_ ?_
  · refine XL_cons rfl (X_of_Y0 rfl (E_move (I o6.1) rfl (by kernel_rfl))) ?_
    refine XL_cons rfl (X_of_Y0 rfl (Y0_gtw (k := .i64) (a := o6.1) (b := 1) rfl (by kernel_rfl) (by kernel_rfl))) ?_
    refine XL_nil ?_
    kernel_rfl
  refine V_cond rfl (fun hc18 => ?_) (fun hc18 => ?_)
  · have h := of_true h hc18
    obtain ⟨u19, hu19, h⟩ := of_bind h
    refine V_reg [false, false, false, true, false, false, false, false, false, false, false, false, false, false, false, false, false, false, false, false, false, false, false, false, false, false, false, false, false, false] [24] (s1 := ⟨[.bot, .bot, .bot, .ow 24, .bot, .bot, .bot, .bot, .bot, .bot, .bot, .bot, .bot, .bot, .bot, .bot, .bot, .bot, .bot, .bot, .bot, .bot, .bot, .bot, .bot, .bot, .bot, .bot, .bot, .bot], [(24, .arr 3 1 ((o6.2 ++ ([o6.1])).map c3))]⟩) ?_ ?_
    · refine XL_cons rfl (X_of_Y0 rfl (E_move (.ow 24) rfl (by kernel_rfl))) ?_
      refine XL_cons rfl (X_of_Y0 rfl (E_move (I o6.1) rfl (by kernel_rfl))) ?_
      refine XL_cons rfl (X_of_Y1 rfl (Y1_bslice (z := zv3) (els := [o6.1].map c3) Try.underlying25 iz3 rfl (by decide) rfl (by kernel_rfl) rfl (by simp [c3]) (by decide) (by decide))) ?_
      refine XL_cons rfl (X_appendM (c := c3) (xs := o6.2) (ys := [o6.1]) (id := 24) (z := zv3) rfl rfl Try.underlying25 izb3 rfl (by kernel_rfl) (by kernel_rfl) (by kernel_rfl) (fun _ => rfl) (by simp) (room_some hu19) (by decide)) ?_
      refine XL_cons rfl (X_of_Y0 rfl (E_assign (.ow 24) rfl (by kernel_rfl))) ?_
      refine XL_nil ?_
      kernel_rfl
    show V _ _ _ _
    refine V_sreg [false, false, true, false, false, false, false, false, false, false, false, false, false, false, false, false, false, false, false, false, false, false, false, false, false, false, false, false, false, false] [24] (s1 := ⟨[.bot, .bot, .ow 24, .bot, .bot, .bot, .bot, .bot, .bot, .bot, .bot, .bot, .bot, .bot, .bot, .bot, .bot, .bot, .bot, .bot, .bot, .bot, .bot, .bot, .bot, .bot, .bot, .bot, .bot, .bot], [(24, .arr 3 1 ((o6.2 ++ ([o6.1])).map c3))]⟩) ?_ ?_
    · refine XL_cons rfl (X_of_Y0 rfl (E_move (.ow 24) rfl (by kernel_rfl))) ?_
      refine XL_cons rfl (X_of_Y0 rfl (E_assign (.ow 24) rfl (by kernel_rfl))) ?_
      refine XL_nil ?_
      kernel_rfl
    refine V_ret ?_
    obtain rfl := some_inj h
    show Post _ _ _ _ _
    exact ⟨.inr rfl, rfl, rfl, rfl⟩
  · have h := of_false h hc18
    refine V_skip ?_
    show V _ _ _ _
    refine V_sreg [false, false, true, false, false, false, false, false, false, false, false, false, false, false, false, false, false, false, false, false, false, false, false, false, false, false, false, false, false, false] [24] (s1 := ⟨[.bot, .bot, .ow 24, .bot, .bot, .bot, .bot, .bot, .bot, .bot, .bot, .bot, .bot, .bot, .bot, .bot, .bot, .bot, .bot, .bot, .bot, .bot, .bot, .bot, .bot, .bot, .bot, .bot, .bot, .bot], [(24, .arr 3 1 (o6.2.map c3))]⟩) ?_ ?_
    · refine XL_cons rfl (X_of_Y0 rfl (E_move (.ow 24) rfl (by kernel_rfl))) ?_
      refine XL_cons rfl (X_of_Y0 rfl (E_assign (.ow 24) rfl (by kernel_rfl))) ?_
      refine XL_nil ?_
      kernel_rfl
    refine V_ret ?_
    obtain rfl := some_inj h
    show Post _ _ _ _ _
    exact ⟨.inr rfl, rfl, rfl, rfl⟩
theorem cf_spec_DescendTo : ∀ args w, (callFunc 37 args).run Try.prog w = .ok (.enter 37 args) w := run_callFunc Try.func37 (by kernel_rfl) (by kernel_rfl)
set_option maxRecDepth 100000 in
set_option maxHeartbeats 400000 in
theorem s_spec_DescendTo {f1 : (Int × Int × Int)} {k2 : Int} {r : (((Int × Int × Int)) × Bool)} (h : r_spec_DescendTo f1 k2 = some r) : CallS Try.prog 37 [.ag [Ti f1.1, Ti f1.2.1, Ti f1.2.2], I k2] (.tc (.ag [Ti r.1.1, Ti r.1.2.1, Ti r.1.2.2]) (.tc (Bo r.2) .tn)) [] := by
  refine CallS_of_text (rs := [.w 4 3, .t 5]) (vs := [.cell 4 36, .tmp 5]) Try.func37 rfl rfl (.cons ⟨rfl, wd36⟩ (.cons rfl FitsL.nil)) (by decide) 54 rfl ?_
  unfold r_spec_DescendTo at h
  show V _ _ ⟨[.ag [Ti f1.1, Ti f1.2.1, Ti f1.2.2], I k2, .bot, .bot, .bot, .bot, .bot, .bot, .bot, .bot, .bot, .bot, .bot, .bot, .bot, .bot, .bot, .bot, .bot, .bot, .bot, .bot, .bot, .bot, .bot, .bot, .bot, .bot, .bot, .bot, .bot, .bot, .bot, .bot, .bot, .bot, .bot, .bot, .bot, .bot, .bot, .bot, .bot, .bot, .bot, .bot, .bot, .bot, .bot, .bot, .bot, .bot, .bot, .bot], []⟩ _
  refine V_sreg [false, true, true, false, true, false, false, false, false, false, false, false, false, false, false, false, false, false, false, false, false, false, false, false, false, false, false, false, false, false, false, false, false, false, false, false, false, false, false, false, false, false, false, false, false, false, false, false, false, false, false, false, false, false] [32, 16] (s1 := ⟨[.bot, I k2, .pt 16 0, .bot, .pt 32 0, .bot, .bot, .bot, .bot, .bot, .bot, .bot, .bot, .bot, .bot, .bot, .bot, .bot, .bot, .bot, .bot, .bot, .bot, .bot, .bot, .bot, .bot, .bot, .bot, .bot, .bot, .bot, .bot, .bot, .bot, .bot, .bot, .bot, .bot, .bot, .bot, .bot, .bot, .bot, .bot, .bot, .bot, .bot, .bot, .bot, .bot, .bot, .bot, .bot], [(32, .box [Ti 0, Ti 0, Ti 0]), (16, .box [Ti f1.1, Ti f1.2.1, Ti f1.2.2])]⟩) ?_ ?_
  · refine XL_cons rfl (X_of_Y1 rfl (Y1_box (cs := [Ti f1.1, Ti f1.2.1, Ti f1.2.2]) rfl (by kernel_rfl))) ?_
    refine XL_cons rfl (X_of_Y1 rfl (Y1_alloc (z := zv36) rfl zf36 rfl)) ?_
    refine XL_cons rfl (X_of_Y0 rfl (E_assign (Bo false) rfl (by kernel_rfl))) ?_
    refine XL_nil ?_
    kernel_rfl
  refine V_seq ?_
  obtain ⟨y3, hy3, h⟩ := of_bind h
  obtain ⟨b6, hb6, h⟩ := of_bind h
  obtain ⟨b10, hb10, h⟩ := of_bind h
  obtain ⟨b15, hb15, h⟩ := of_bind h
  refine V_sreg [false, true, true, false, true, false, false, false, false, false, false, false, false, false, false, false, false, false, false, false, false, false, false, false, false, false, false, false, false, false, false, false, false, false, false, true, false, false, false, false, false, false, false, false, false, false, false, false, false, false, false, false, false, false] [32, 16] (s1 := ⟨[.bot, I k2, .pt 16 0, .bot, .pt 32 0, .bot, .bot, .bot, .bot, .bot, .bot, .bot, .bot, .bot, .bot, .bot, .bot, .bot, .bot, .bot, .bot, .bot, .bot, .bot, .bot, .bot, .bot, .bot, .bot, .bot, .bot, .bot, .bot, .bot, .bot, Bo b15, .bot, .bot, .bot, .bot, .bot, .bot, .bot, .bot, .bot, .bot, .bot, .bot, .bot, .bot, .bot, .bot, .bot, .bot], [(32, .box [Ti 0, Ti 0, Ti 0]), (16, .box [Ti f1.1, Ti f1.2.1, Ti f1.2.2])]⟩) ?_ ?_
  · refine XL_cons rfl (X_of_Y0 rfl (E_loadn (cs := [Ti f1.1, Ti f1.2.1, Ti f1.2.2]) [Ti f1.1, Ti f1.2.1, Ti f1.2.2] wd36 rfl (by kernel_rfl) (Nat.le_of_ble_eq_true rfl) (by kernel_rfl))) ?_
    refine XL_cons rfl (X_of_Y1 rfl (Y1_call (s_spec_coGood hy3) cf_spec_coGood rfl (by kernel_rfl))) ?_
    refine XL_cons rfl (X_of_Y0 rfl (Y0_not (b := y3) rfl (by kernel_rfl))) ?_
    refine XL_cons rfl (X_of_Y0 rfl (E_move (Bo (!y3)) rfl (by kernel_rfl))) ?_
    refine XL_split (!y3) (fun hc4 => ?_) (fun hc4 => ?_)
    · have hb6 := some_inj (of_true hb6 hc4)
      refine XL_skipF (!y3) rfl rfl (by kernel_rfl) hc4 rfl ?_
      refine XL_skipF (!y3) rfl rfl (by kernel_rfl) hc4 rfl ?_
      refine XL_skipF (!y3) rfl rfl (by kernel_rfl) hc4 rfl ?_
      refine XL_cons rfl (X_of_Y0 rfl (Y0_pickTe (b := !y3) (p := true) rfl (by kernel_rfl) hc4 (by kernel_rfl) hb6)) ?_
      refine XL_cons rfl (X_of_Y0 rfl (E_move (Bo b6) rfl (by kernel_rfl))) ?_
      refine XL_split b6 (fun hc7 => ?_) (fun hc7 => ?_)
      · have hb10 := some_inj (of_true hb10 hc7)
        refine XL_skipF (b6) rfl rfl (by kernel_rfl) hc7 rfl ?_
        refine XL_skipF (b6) rfl rfl (by kernel_rfl) hc7 rfl ?_
        refine XL_skipF (b6) rfl rfl (by kernel_rfl) hc7 rfl ?_
        refine XL_skipF (b6) rfl rfl (by kernel_rfl) hc7 rfl ?_
        refine XL_skipF (b6) rfl rfl (by kernel_rfl) hc7 rfl ?_
        refine XL_skipF (b6) rfl rfl (by kernel_rfl) hc7 rfl ?_
        refine XL_skipF (b6) rfl rfl (by kernel_rfl) hc7 rfl ?_
        refine XL_cons rfl (X_of_Y0 rfl (Y0_pickTe (b := b6) (p := true) rfl (by kernel_rfl) hc7 (by kernel_rfl) hb10)) ?_
        refine XL_cons rfl (X_of_Y0 rfl (E_move (Bo b10) rfl (by kernel_rfl))) ?_
        refine XL_split b10 (fun hc11 => ?_) (fun hc11 => ?_)
        · have hb15 := some_inj (of_true hb15 hc11)
          refine XL_skipF (b10) rfl rfl (by kernel_rfl) hc11 rfl ?_
          refine XL_skipF (b10) rfl rfl (by kernel_rfl) hc11 rfl ?_
          refine XL_skipF (b10) rfl rfl (by kernel_rfl) hc11 rfl ?_
          refine XL_skipF (b10) rfl rfl (by kernel_rfl) hc11 rfl ?_
          refine XL_skipF (b10) rfl rfl (by kernel_rfl) hc11 rfl ?_
          refine XL_skipF (b10) rfl rfl (by kernel_rfl) hc11 rfl ?_
          refine XL_skipF (b10) rfl rfl (by kernel_rfl) hc11 rfl ?_
          refine XL_skipF (b10) rfl rfl (by kernel_rfl) hc11 rfl ?_
          refine XL_cons rfl (X_of_Y0 rfl (Y0_pickTe (b := b10) (p := true) rfl (by kernel_rfl) hc11 (by kernel_rfl) hb15)) ?_
          refine XL_nil ?_
          kernel_rfl
        · have hb15 := of_false hb15 hc11
          obtain ⟨y12, hy12, hb15⟩ := of_bind hb15
          obtain ⟨z13, hz13, hb15⟩ := of_bind hb15
          obtain ⟨y14, hy14, hb15⟩ := of_bind hb15
          have hb15 := some_inj hb15
          refine XL_takeC (b10) rfl rfl (by kernel_rfl) hc11 (X_of_Y0 rfl (E_loadn (cs := [Ti f1.1, Ti f1.2.1, Ti f1.2.2]) [Ti f1.1, Ti f1.2.1, Ti f1.2.2] wd36 rfl (by kernel_rfl) (Nat.le_of_ble_eq_true rfl) (by kernel_rfl))) ?_
          refine XL_takeC (b10) rfl rfl (by kernel_rfl) hc11 (X_of_Y1 rfl (Y1_call (s_spec_foDisc hy12) cf_spec_foDisc rfl (by kernel_rfl))) ?_
          refine XL_takeC (b10) rfl rfl (by kernel_rfl) hc11 (X_of_Y0 rfl (E_move (I k2) rfl (by kernel_rfl))) ?_
          refine XL_takeC (b10) rfl rfl (by kernel_rfl) hc11 (X_of_Y0 rfl (E_move (I k2) rfl (by kernel_rfl))) ?_
          refine XL_takeC (b10) rfl rfl (by kernel_rfl) hc11 (X_of_Y0 rfl (Y0_mul64 (a := k2) (b := k2) rfl (by kernel_rfl) (by kernel_rfl))) ?_
          refine XL_takeC (b10) rfl rfl (by kernel_rfl) hc11 (X_of_Y0 rfl (Y0_quo64 (a := y12) (b := w64 (k2 * k2)) rfl (by kernel_rfl) (by kernel_rfl) (nz_some hz13))) ?_
          refine XL_takeC (b10) rfl rfl (by kernel_rfl) hc11 (X_of_Y1 rfl (Y1_call (s_spec_reDisc hy14) cf_spec_reDisc rfl (by kernel_rfl))) ?_
          refine XL_takeC (b10) rfl rfl (by kernel_rfl) hc11 (X_of_Y0 rfl (Y0_not (b := y14) rfl (by kernel_rfl))) ?_
          refine XL_cons rfl (X_of_Y0 rfl (Y0_pickFe (b := b10) (p := !y14) rfl (by kernel_rfl) hc11 (by kernel_rfl) hb15)) ?_
          refine XL_nil ?_
          kernel_rfl
      · have hb10 := of_false hb10 hc7
        obtain ⟨y8, hy8, hb10⟩ := of_bind hb10
        obtain ⟨z9, hz9, hb10⟩ := of_bind hb10
        have hb10 := some_inj hb10
        refine XL_takeC (b6) rfl rfl (by kernel_rfl) hc7 (X_of_Y0 rfl (E_loadn (cs := [Ti f1.1, Ti f1.2.1, Ti f1.2.2]) [Ti f1.1, Ti f1.2.1, Ti f1.2.2] wd36 rfl (by kernel_rfl) (Nat.le_of_ble_eq_true rfl) (by kernel_rfl))) ?_
        refine XL_takeC (b6) rfl rfl (by kernel_rfl) hc7 (X_of_Y1 rfl (Y1_call (s_spec_foDisc hy8) cf_spec_foDisc rfl (by kernel_rfl))) ?_
        refine XL_takeC (b6) rfl rfl (by kernel_rfl) hc7 (X_of_Y0 rfl (E_move (I k2) rfl (by kernel_rfl))) ?_
        refine XL_takeC (b6) rfl rfl (by kernel_rfl) hc7 (X_of_Y0 rfl (E_move (I k2) rfl (by kernel_rfl))) ?_
        refine XL_takeC (b6) rfl rfl (by kernel_rfl) hc7 (X_of_Y0 rfl (Y0_mul64 (a := k2) (b := k2) rfl (by kernel_rfl) (by kernel_rfl))) ?_
        refine XL_takeC (b6) rfl rfl (by kernel_rfl) hc7 (X_of_Y0 rfl (Y0_rem (k := .i64) (a := y8) (b := w64 (k2 * k2)) rfl (by kernel_rfl) (by kernel_rfl) (nz_some hz9))) ?_
        refine XL_takeC (b6) rfl rfl (by kernel_rfl) hc7 (X_of_Y0 rfl (Y0_new (k := .i64) (a := Int.tmod y8 (w64 (k2 * k2))) (b := 0) rfl (by kernel_rfl) (by kernel_rfl))) ?_
        refine XL_cons rfl (X_of_Y0 rfl (Y0_pickFe (b := b6) (p := !eqI (Int.tmod y8 (w64 (k2 * k2))) 0) rfl (by kernel_rfl) hc7 (by kernel_rfl) hb10)) ?_
        refine XL_cons rfl (X_of_Y0 rfl (E_move (Bo b10) rfl (by kernel_rfl))) ?_
        refine XL_split b10 (fun hc11 => ?_) (fun hc11 => ?_)
        · have hb15 := some_inj (of_true hb15 hc11)
          refine XL_skipF (b10) rfl rfl (by kernel_rfl) hc11 rfl ?_
          refine XL_skipF (b10) rfl rfl (by kernel_rfl) hc11 rfl ?_
          refine XL_skipF (b10) rfl rfl (by kernel_rfl) hc11 rfl ?_
          refine XL_skipF (b10) rfl rfl (by kernel_rfl) hc11 rfl ?_
          refine XL_skipF (b10) rfl rfl (by kernel_rfl) hc11 rfl ?_
          refine XL_skipF (b10) rfl rfl (by kernel_rfl) hc11 rfl ?_
          refine XL_skipF (b10) rfl rfl (by kernel_rfl) hc11 rfl ?_
          refine XL_skipF (b10) rfl rfl (by kernel_rfl) hc11 rfl ?_
          refine XL_cons rfl (X_of_Y0 rfl (Y0_pickTe (b := b10) (p := true) rfl (by kernel_rfl) hc11 (by kernel_rfl) hb15)) ?_
          refine XL_nil ?_
          kernel_rfl
        · have hb15 := of_false hb15 hc11
          obtain ⟨y12, hy12, hb15⟩ := of_bind hb15
          obtain ⟨z13, hz13, hb15⟩ := of_bind hb15
          obtain ⟨y14, hy14, hb15⟩ := of_bind hb15
          have hb15 := some_inj hb15
          refine XL_takeC (b10) rfl rfl (by kernel_rfl) hc11 (X_of_Y0 rfl (E_loadn (cs := [Ti f1.1, Ti f1.2.1, Ti f1.2.2]) [Ti f1.1, Ti f1.2.1, Ti f1.2.2] wd36 rfl (by kernel_rfl) (Nat.le_of_ble_eq_true rfl) (by kernel_rfl))) ?_
          refine XL_takeC (b10) rfl rfl (by kernel_rfl) hc11 (X_of_Y1 rfl (Y1_call (s_spec_foDisc hy12) cf_spec_foDisc rfl (by kernel_rfl))) ?_
          refine XL_takeC (b10) rfl rfl (by kernel_rfl) hc11 (X_of_Y0 rfl (E_move (I k2) rfl (by kernel_rfl))) ?_
          refine XL_takeC (b10) rfl rfl (by kernel_rfl) hc11 (X_of_Y0 rfl (E_move (I k2) rfl (by kernel_rfl))) ?_
          refine XL_takeC (b10) rfl rfl (by kernel_rfl) hc11 (X_of_Y0 rfl (Y0_mul64 (a := k2) (b := k2) rfl (by kernel_rfl) (by kernel_rfl))) ?_
          refine XL_takeC (b10) rfl rfl (by kernel_rfl) hc11 (X_of_Y0 rfl (Y0_quo64 (a := y12) (b := w64 (k2 * k2)) rfl (by kernel_rfl) (by kernel_rfl) (nz_some hz13))) ?_
          refine XL_takeC (b10) rfl rfl (by kernel_rfl) hc11 (X_of_Y1 rfl (Y1_call (s_spec_reDisc hy14) cf_spec_reDisc rfl (by kernel_rfl))) ?_
          refine XL_takeC (b10) rfl rfl (by kernel_rfl) hc11 (X_of_Y0 rfl (Y0_not (b := y14) rfl (by kernel_rfl))) ?_
          refine XL_cons rfl (X_of_Y0 rfl (Y0_pickFe (b := b10) (p := !y14) rfl (by kernel_rfl) hc11 (by kernel_rfl) hb15)) ?_
          refine XL_nil ?_
          kernel_rfl
    · have hb6 := of_false hb6 hc4
      obtain ⟨y5, hy5, hb6⟩ := of_bind hb6
      have hb6 := some_inj hb6
      refine XL_takeC (!y3) rfl rfl (by kernel_rfl) hc4 (X_of_Y0 rfl (E_move (I k2) rfl (by kernel_rfl))) ?_
      refine XL_takeC (!y3) rfl rfl (by kernel_rfl) hc4 (X_of_Y1 rfl (Y1_call (s_spec_l1In hy5) cf_spec_l1In rfl (by kernel_rfl))) ?_
      refine XL_takeC (!y3) rfl rfl (by kernel_rfl) hc4 (X_of_Y0 rfl (Y0_not (b := y5) rfl (by kernel_rfl))) ?_
      refine XL_cons rfl (X_of_Y0 rfl (Y0_pickFe (b := !y3) (p := !y5) rfl (by kernel_rfl) hc4 (by kernel_rfl) hb6)) ?_
      refine XL_cons rfl (X_of_Y0 rfl (E_move (Bo b6) rfl (by kernel_rfl))) ?_
      refine XL_split b6 (fun hc7 => ?_) (fun hc7 => ?_)
      · have hb10 := some_inj (of_true hb10 hc7)
        refine XL_skipF (b6) rfl rfl (by kernel_rfl) hc7 rfl ?_
        refine XL_skipF (b6) rfl rfl (by kernel_rfl) hc7 rfl ?_
        refine XL_skipF (b6) rfl rfl (by kernel_rfl) hc7 rfl ?_
        refine XL_skipF (b6) rfl rfl (by kernel_rfl) hc7 rfl ?_
        refine XL_skipF (b6) rfl rfl (by kernel_rfl) hc7 rfl ?_
        refine XL_skipF (b6) rfl rfl (by kernel_rfl) hc7 rfl ?_
        refine XL_skipF (b6) rfl rfl (by kernel_rfl) hc7 rfl ?_
        refine XL_cons rfl (X_of_Y0 rfl (Y0_pickTe (b := b6) (p := true) rfl (by kernel_rfl) hc7 (by kernel_rfl) hb10)) ?_
        refine XL_cons rfl (X_of_Y0 rfl (E_move (Bo b10) rfl (by kernel_rfl))) ?_
        refine XL_split b10 (fun hc11 => ?_) (fun hc11 => ?_)
        · have hb15 := some_inj (of_true hb15 hc11)
          refine XL_skipF (b10) rfl rfl (by kernel_rfl) hc11 rfl ?_
          refine XL_skipF (b10) rfl rfl (by kernel_rfl) hc11 rfl ?_
          refine XL_skipF (b10) rfl rfl (by kernel_rfl) hc11 rfl ?_
          refine XL_skipF (b10) rfl rfl (by kernel_rfl) hc11 rfl ?_
          refine XL_skipF (b10) rfl rfl (by kernel_rfl) hc11 rfl ?_
          refine XL_skipF (b10) rfl rfl (by kernel_rfl) hc11 rfl ?_
          refine XL_skipF (b10) rfl rfl (by kernel_rfl) hc11 rfl ?_
          refine XL_skipF (b10) rfl rfl (by kernel_rfl) hc11 rfl ?_
          refine XL_cons rfl (X_of_Y0 rfl (Y0_pickTe (b := b10) (p := true) rfl (by kernel_rfl) hc11 (by kernel_rfl) hb15)) ?_
          refine XL_nil ?_
          kernel_rfl
        · have hb15 := of_false hb15 hc11
          obtain ⟨y12, hy12, hb15⟩ := of_bind hb15
          obtain ⟨z13, hz13, hb15⟩ := of_bind hb15
          obtain ⟨y14, hy14, hb15⟩ := of_bind hb15
          have hb15 := some_inj hb15
          refine XL_takeC (b10) rfl rfl (by kernel_rfl) hc11 (X_of_Y0 rfl (E_loadn (cs := [Ti f1.1, Ti f1.2.1, Ti f1.2.2]) [Ti f1.1, Ti f1.2.1, Ti f1.2.2] wd36 rfl (by kernel_rfl) (Nat.le_of_ble_eq_true rfl) (by kernel_rfl))) ?_
          refine XL_takeC (b10) rfl rfl (by kernel_rfl) hc11 (X_of_Y1 rfl (Y1_call (s_spec_foDisc hy12) cf_spec_foDisc rfl (by kernel_rfl))) ?_
          refine XL_takeC (b10) rfl rfl (by kernel_rfl) hc11 (X_of_Y0 rfl (E_move (I k2) rfl (by kernel_rfl))) ?_
          refine XL_takeC (b10) rfl rfl (by kernel_rfl) hc11 (X_of_Y0 rfl (E_move (I k2) rfl (by kernel_rfl))) ?_
          refine XL_takeC (b10) rfl rfl (by kernel_rfl) hc11 (X_of_Y0 rfl (Y0_mul64 (a := k2) (b := k2) rfl (by kernel_rfl) (by kernel_rfl))) ?_
          refine XL_takeC (b10) rfl rfl (by kernel_rfl) hc11 (X_of_Y0 rfl (Y0_quo64 (a := y12) (b := w64 (k2 * k2)) rfl (by kernel_rfl) (by kernel_rfl) (nz_some hz13))) ?_
          refine XL_takeC (b10) rfl rfl (by kernel_rfl) hc11 (X_of_Y1 rfl (Y1_call (s_spec_reDisc hy14) cf_spec_reDisc rfl (by kernel_rfl))) ?_
          refine XL_takeC (b10) rfl rfl (by kernel_rfl) hc11 (X_of_Y0 rfl (Y0_not (b := y14) rfl (by kernel_rfl))) ?_
          refine XL_cons rfl (X_of_Y0 rfl (Y0_pickFe (b := b10) (p := !y14) rfl (by kernel_rfl) hc11 (by kernel_rfl) hb15)) ?_
          refine XL_nil ?_
          kernel_rfl
      · have hb10 := of_false hb10 hc7
        obtain ⟨y8, hy8, hb10⟩ := of_bind hb10
        obtain ⟨z9, hz9, hb10⟩ := of_bind hb10
        have hb10 := some_inj hb10
        refine XL_takeC (b6) rfl rfl (by kernel_rfl) hc7 (X_of_Y0 rfl (E_loadn (cs := [Ti f1.1, Ti f1.2.1, Ti f1.2.2]) [Ti f1.1, Ti f1.2.1, Ti f1.2.2] wd36 rfl (by kernel_rfl) (Nat.le_of_ble_eq_true rfl) (by kernel_rfl))) ?_
        refine XL_takeC (b6) rfl rfl (by kernel_rfl) hc7 (X_of_Y1 rfl (Y1_call (s_spec_foDisc hy8) cf_spec_foDisc rfl (by kernel_rfl))) ?_
        refine XL_takeC (b6) rfl rfl (by kernel_rfl) hc7 (X_of_Y0 rfl (E_move (I k2) rfl (by kernel_rfl))) ?_
        refine XL_takeC (b6) rfl rfl (by kernel_rfl) hc7 (X_of_Y0 rfl (E_move (I k2) rfl (by kernel_rfl))) ?_
        refine XL_takeC (b6) rfl rfl (by kernel_rfl) hc7 (X_of_Y0 rfl (Y0_mul64 (a := k2) (b := k2) rfl (by kernel_rfl) (by kernel_rfl))) ?_
        refine XL_takeC (b6) rfl rfl (by kernel_rfl) hc7 (X_of_Y0 rfl (Y0_rem (k := .i64) (a := y8) (b := w64 (k2 * k2)) rfl (by kernel_rfl) (by kernel_rfl) (nz_some hz9))) ?_
        refine XL_takeC (b6) rfl rfl (by kernel_rfl) hc7 (X_of_Y0 rfl (Y0_new (k := .i64) (a := Int.tmod y8 (w64 (k2 * k2))) (b := 0) rfl (by kernel_rfl) (by kernel_rfl))) ?_
        refine XL_cons rfl (X_of_Y0 rfl (Y0_pickFe (b := b6) (p := !eqI (Int.tmod y8 (w64 (k2 * k2))) 0) rfl (by kernel_rfl) hc7 (by kernel_rfl) hb10)) ?_
        refine XL_cons rfl (X_of_Y0 rfl (E_move (Bo b10) rfl (by kernel_rfl))) ?_
        refine XL_split b10 (fun hc11 => ?_) (fun hc11 => ?_)
        · have hb15 := some_inj (of_true hb15 hc11)
          refine XL_skipF (b10) rfl rfl (by kernel_rfl) hc11 rfl ?_
          refine XL_skipF (b10) rfl rfl (by kernel_rfl) hc11 rfl ?_
          refine XL_skipF (b10) rfl rfl (by kernel_rfl) hc11 rfl ?_
          refine XL_skipF (b10) rfl rfl (by kernel_rfl) hc11 rfl ?_
          refine XL_skipF (b10) rfl rfl (by kernel_rfl) hc11 rfl ?_
          refine XL_skipF (b10) rfl rfl (by kernel_rfl) hc11 rfl ?_
          refine XL_skipF (b10) rfl rfl (by kernel_rfl) hc11 rfl ?_
          refine XL_skipF (b10) rfl rfl (by kernel_rfl) hc11 rfl ?_
          refine XL_cons rfl (X_of_Y0 rfl (Y0_pickTe (b := b10) (p := true) rfl (by kernel_rfl) hc11 (by kernel_rfl) hb15)) ?_
          refine XL_nil ?_
          kernel_rfl
        · have hb15 := of_false hb15 hc11
          obtain ⟨y12, hy12, hb15⟩ := of_bind hb15
          obtain ⟨z13, hz13, hb15⟩ := of_bind hb15
          obtain ⟨y14, hy14, hb15⟩ := of_bind hb15
          have hb15 := some_inj hb15
          refine XL_takeC (b10) rfl rfl (by kernel_rfl) hc11 (X_of_Y0 rfl (E_loadn (cs := [Ti f1.1, Ti f1.2.1, Ti f1.2.2]) [Ti f1.1, Ti f1.2.1, Ti f1.2.2] wd36 rfl (by kernel_rfl) (Nat.le_of_ble_eq_true rfl) (by kernel_rfl))) ?_
          refine XL_takeC (b10) rfl rfl (by kernel_rfl) hc11 (X_of_Y1 rfl (Y1_call (s_spec_foDisc hy12) cf_spec_foDisc rfl (by kernel_rfl))) ?_
          refine XL_takeC (b10) rfl rfl (by kernel_rfl) hc11 (X_of_Y0 rfl (E_move (I k2) rfl (by kernel_rfl))) ?_
          refine XL_takeC (b10) rfl rfl (by kernel_rfl) hc11 (X_of_Y0 rfl (E_move (I k2) rfl (by kernel_rfl))) ?_
          refine XL_takeC (b10) rfl rfl (by kernel_rfl) hc11 (X_of_Y0 rfl (Y0_mul64 (a := k2) (b := k2) rfl (by kernel_rfl) (by kernel_rfl))) ?_
          refine XL_takeC (b10) rfl rfl (by kernel_rfl) hc11 (X_of_Y0 rfl (Y0_quo64 (a := y12) (b := w64 (k2 * k2)) rfl (by kernel_rfl) (by kernel_rfl) (nz_some hz13))) ?_
          refine XL_takeC (b10) rfl rfl (by kernel_rfl) hc11 (X_of_Y1 rfl (Y1_call (s_spec_reDisc hy14) cf_spec_reDisc rfl (by kernel_rfl))) ?_
          refine XL_takeC (b10) rfl rfl (by kernel_rfl) hc11 (X_of_Y0 rfl (Y0_not (b := y14) rfl (by kernel_rfl))) ?_
          refine XL_cons rfl (X_of_Y0 rfl (Y0_pickFe (b := b10) (p := !y14) rfl (by kernel_rfl) hc11 (by kernel_rfl) hb15)) ?_
          refine XL_nil ?_
          kernel_rfl
  refine V_cond rfl (fun hc16 => ?_) (fun hc16 => ?_)
  · have h := of_true h hc16
    refine V_sreg [false, false, false, false, true, true, false, false, false, false, false, false, false, false, false, false, false, false, false, false, false, false, false, false, false, false, false, false, false, false, false, false, false, false, false, false, false, false, false, false, false, false, false, false, false, false, false, false, false, false, false, false, false, false] [32] (s1 := ⟨[.bot, .bot, .bot, .bot, .pt 32 0, Bo false, .bot, .bot, .bot, .bot, .bot, .bot, .bot, .bot, .bot, .bot, .bot, .bot, .bot, .bot, .bot, .bot, .bot, .bot, .bot, .bot, .bot, .bot, .bot, .bot, .bot, .bot, .bot, .bot, .bot, .bot, .bot, .bot, .bot, .bot, .bot, .bot, .bot, .bot, .bot, .bot, .bot, .bot, .bot, .bot, .bot, .bot, .bot, .bot], [(32, .box [Ti 0, Ti 0, Ti 0])]⟩) ?_ ?_
    · refine XL_cons rfl (X_of_Y0 rfl (Y0_build (cs := [Ti 0, Ti 0, Ti 0]) pl36 bt36 rfl rfl (by kernel_rfl))) ?_
      refine XL_cons rfl (E_store (id := 32) (off := 0) (cs := [Ti 0, Ti 0, Ti 0]) (vc := [Ti 0, Ti 0, Ti 0]) [Ti 0, Ti 0, Ti 0] rfl rfl (by kernel_rfl) (by kernel_rfl) (by kernel_rfl) sz36 (Nat.le_of_ble_eq_true rfl) (by kernel_rfl)) ?_
      refine XL_cons rfl (X_of_Y0 rfl (E_assign (Bo false) rfl (by kernel_rfl))) ?_
      refine XL_nil ?_
      kernel_rfl
    refine V_ret ?_
    obtain rfl := some_inj h
    show Post _ _ _ _ _
    exact ⟨.inr rfl, rfl, rfl, rfl⟩
  · have h := of_false h hc16
    refine V_skip ?_
    show V _ _ _ _
    obtain ⟨y17, hy17, h⟩ := of_bind h
    refine V_sreg [false, true, false, false, true, false, true, false, false, false, false, false, false, false, false, false, false, false, false, false, false, false, false, false, false, false, false, false, false, false, false, false, false, false, false, false, false, false, false, false, false, false, false, false, false, false, false, false, false, false, false, false, false, false] [48, 32] (s1 := ⟨[.bot, I k2, .bot, .bot, .pt 32 0, .bot, .pt 48 0, .bot, .bot, .bot, .bot, .bot, .bot, .bot, .bot, .bot, .bot, .bot, .bot, .bot, .bot, .bot, .bot, .bot, .bot, .bot, .bot, .bot, .bot, .bot, .bot, .bot, .bot, .bot, .bot, .bot, .bot, .bot, .bot, .bot, .bot, .bot, .bot, .bot, .bot, .bot, .bot, .bot, .bot, .bot, .bot, .bot, .bot, .bot], [(48, .box [Ti y17.1, Ti y17.2.1, Ti y17.2.2]), (32, .box [Ti 0, Ti 0, Ti 0])]⟩) ?_ ?_
    · refine XL_cons rfl (X_of_Y0 rfl (E_loadn (cs := [Ti f1.1, Ti f1.2.1, Ti f1.2.2]) [Ti f1.1, Ti f1.2.1, Ti f1.2.2] wd36 rfl (by kernel_rfl) (Nat.le_of_ble_eq_true rfl) (by kernel_rfl))) ?_
      refine XL_cons rfl (X_of_Y1 rfl (Y1_call (s_spec_reClass hy17) cf_spec_reClass rfl (by kernel_rfl))) ?_
      refine XL_cons rfl (X_of_Y1 rfl (Y1_alloc (z := zv36) rfl zf36 rfl)) ?_
      refine XL_cons rfl (E_store (id := 48) (off := 0) (cs := [Ti 0, Ti 0, Ti 0]) (vc := [Ti y17.1, Ti y17.2.1, Ti y17.2.2]) [Ti y17.1, Ti y17.2.1, Ti y17.2.2] rfl rfl (by kernel_rfl) (by kernel_rfl) (by kernel_rfl) sz36 (Nat.le_of_ble_eq_true rfl) (by kernel_rfl)) ?_
      refine XL_nil ?_
      kernel_rfl
    refine V_seq ?_
    obtain ⟨y18, hy18, h⟩ := of_bind h
    refine V_sreg [false, false, false, false, true, false, true, false, false, false, false, false, false, false, false, false, false, false, false, false, false, false, false, false, false, false, false, false, false, false, false, false, false, false, false, false, false, false, false, false, true, true, true, false, false, false, false, false, false, false, false, false, false, false] [320, 48, 32] (s1 := ⟨[.bot, .bot, .bot, .bot, .pt 32 0, .bot, .pt 48 0, .bot, .bot, .bot, .bot, .bot, .bot, .bot, .bot, .bot, .bot, .bot, .bot, .bot, .bot, .bot, .bot, .bot, .bot, .bot, .bot, .bot, .bot, .bot, .bot, .bot, .bot, .bot, .bot, .bot, .bot, .bot, .bot, .bot, .ow 320, I ((y18.length : Int)), I 0, .bot, .bot, .bot, .bot, .bot, .bot, .bot, .bot, .bot, .bot, .bot], [(320, .arr 3 1 (y18.map c3)), (48, .box [Ti y17.1, Ti y17.2.1, Ti y17.2.2]), (32, .box [Ti 0, Ti 0, Ti 0])]⟩) ?_ ?_
    · refine XL_cons rfl (X_of_Y0 rfl (E_move (I k2) rfl (by kernel_rfl))) ?_
      refine XL_cons rfl (X_of_Y1 rfl (Y1_call (s_spec_nuFactors hy18) cf_spec_nuFactors rfl (by kernel_rfl))) ?_
      refine XL_cons rfl (X_of_Y0 rfl (Y0_lenM (c := c3) (xs := y18) Try.underlying25 rfl (by kernel_rfl))) ?_
      refine XL_cons rfl (X_of_Y0 rfl (E_move (I 0) rfl (by kernel_rfl))) ?_
      refine XL_nil ?_
      kernel_rfl
    obtain ⟨o24, hLo24, h⟩ := of_bind h
    refine V_toK [false, false, false, false, true, false, true, false, false, false, false, false, false, false, false, false, false, false, false, false, false, false, false, false, false, false, false, false, false, false, false, false, false, false, false, false, false, false, false, false, false, false, false, false, false, false, false, false, false, false, false, false, false, false] [48, 32] (s1 := ⟨[.bot, .bot, .bot, .bot, .pt 32 0, .bot, .pt 48 0, .bot, .bot, .bot, .bot, .bot, .bot, .bot, .bot, .bot, .bot, .bot, .bot, .bot, .bot, .bot, .bot, .bot, .bot, .bot, .bot, .bot, .bot, .bot, .bot, .bot, .bot, .bot, .bot, .bot, .bot, .bot, .bot, .bot, .bot, .bot, .bot, .bot, .bot, .bot, .bot, .bot, .bot, .bot, .bot, .bot, .bot, .bot], [(48, .box [Ti o24.1, Ti o24.2.1, Ti o24.2.2]), (32, .box [Ti 0, Ti 0, Ti 0])]⟩) ?_ ?_
    · clear h
      refine V_block (V_loop (fun n s => ∃ (t19 : Int) (f20 : Int) (f21 : Int) (f22 : Int), s.keep [false, false, false, false, true, false, true, false, false, false, false, false, false, false, false, false, false, false, false, false, false, false, false, false, false, false, false, false, false, false, false, false, false, false, false, false, false, false, false, false, true, true, true, false, false, false, false, false, false, false, false, false, false, false] [320, 48, 32] = (⟨[.bot, .bot, .bot, .bot, .pt 32 0, .bot, .pt 48 0, .bot, .bot, .bot, .bot, .bot, .bot, .bot, .bot, .bot, .bot, .bot, .bot, .bot, .bot, .bot, .bot, .bot, .bot, .bot, .bot, .bot, .bot, .bot, .bot, .bot, .bot, .bot, .bot, .bot, .bot, .bot, .bot, .bot, .ow 320, I ((y18.length : Int)), I t19, .bot, .bot, .bot, .bot, .bot, .bot, .bot, .bot, .bot, .bot, .bot], [(320, .arr 3 1 (y18.map c3)), (48, .box [Ti f20, Ti f21, Ti f22]), (32, .box [Ti 0, Ti 0, Ti 0])]⟩ : St) ∧ r_spec_DescendTo_L23 y18 n t19 f20 f21 f22 = some o24) FU ⟨_, _, _, _,  by rfl, hLo24⟩ ?_)
      clear hLo24
      rintro n s ⟨t19, f20, f21, f22, hs, h⟩
      refine V_keep _ _ hs ?_
      clear hs
      cases n with
      | zero => cases h
      | succ n =>
        rw [r_spec_DescendTo_L23] at h
        refine V_sreg [false, false, false, false, true, false, true, false, false, false, false, false, false, false, false, false, false, false, false, false, false, false, false, false, false, false, false, false, false, false, false, false, false, false, false, false, false, false, false, false, true, true, true, true, false, false, false, false, false, false, false, false, false, false] [320, 48, 32] (s1 := ⟨[.bot, .bot, .bot, .bot, .pt 32 0, .bot, .pt 48 0, .bot, .bot, .bot, .bot, .bot, .bot, .bot, .bot, .bot, .bot, .bot, .bot, .bot, .bot, .bot, .bot, .bot, .bot, .bot, .bot, .bot, .bot, .bot, .bot, .bot, .bot, .bot, .bot, .bot, .bot, .bot, .bot, .bot, .ow 320, I ((y18.length : Int)), I t19, Bo (ltI t19 ((y18.length : Int))), .bot, .bot, .bot, .bot, .bot, .bot, .bot, .bot, .bot, .bot], [(320, .arr 3 1 (y18.map c3)), (48, .box [Ti f20, Ti f21, Ti f22]), (32, .box [Ti 0, Ti 0, Ti 0])]⟩) ?_ ?_
        · refine XL_cons rfl (X_of_Y0 rfl (Y0_ltw (k := .i64) (a := t19) (b := (y18.length : Int)) rfl (by kernel_rfl) (by kernel_rfl))) ?_
          refine XL_nil ?_
          kernel_rfl
        refine V_seq ?_
        refine V_cond rfl (fun hc25 => ?_) (fun hc25 => ?_)
        · have h := of_true h hc25
          refine V_skip ?_
          show V _ _ _ _
          refine V_seq ?_
          refine V_block ?_
          obtain ⟨e26, he26, h⟩ := of_bind h
          obtain ⟨e27, he27, h⟩ := of_bind h
          refine V_sreg [false, false, false, false, true, false, true, false, true, false, false, false, false, false, false, false, false, false, false, false, false, false, false, false, false, false, false, false, false, false, false, false, false, false, false, false, false, false, false, false, true, true, true, false, false, false, false, false, false, false, false, false, false, false] [320, 48, 32] (s1 := ⟨[.bot, .bot, .bot, .bot, .pt 32 0, .bot, .pt 48 0, .bot, I e27, .bot, .bot, .bot, .bot, .bot, .bot, .bot, .bot, .bot, .bot, .bot, .bot, .bot, .bot, .bot, .bot, .bot, .bot, .bot, .bot, .bot, .bot, .bot, .bot, .bot, .bot, .bot, .bot, .bot, .bot, .bot, .ow 320, I ((y18.length : Int)), I t19, .bot, .bot, .bot, .bot, .bot, .bot, .bot, .bot, .bot, .bot, .bot], [(320, .arr 3 1 (y18.map c3)), (48, .box [Ti f20, Ti f21, Ti f22]), (32, .box [Ti 0, Ti 0, Ti 0])]⟩) ?_ ?_
          · refine XL_cons rfl (X_of_Y0 rfl (Y0_idxoM (c := c3) (xs := y18) (v := e26) (id := 320) (T := 3) (sz := 1) (n := t19) Try.underlying25 sz3 rfl (by kernel_rfl) (by kernel_rfl) (by kernel_rfl) he26)) ?_
            refine XL_cons rfl (X_of_Y0 rfl (Y0_loado1 (c := c3) (xs := y18) (v := e27) (id := 320) (sz := 1) (T := 3) (off := 0) (n := t19) (d := Ti e27) (ds := []) sc3 rfl (by kernel_rfl) (by kernel_rfl) he27 (by kernel_rfl))) ?_
            refine XL_cons rfl (X_of_Y0 rfl (E_assign (I e27) rfl (by kernel_rfl))) ?_
            refine XL_nil ?_
            kernel_rfl
          obtain ⟨y28, hy28, h⟩ := of_bind h
          refine V_reg [false, false, false, false, true, false, true, false, false, false, false, false, false, false, false, false, false, false, false, false, false, false, false, false, false, false, false, false, false, false, false, false, false, false, false, false, false, false, false, false, true, true, true, false, false, false, false, false, false, false, false, false, false, false] [320, 48, 32] (s1 := ⟨[.bot, .bot, .bot, .bot, .pt 32 0, .bot, .pt 48 0, .bot, .bot, .bot, .bot, .bot, .bot, .bot, .bot, .bot, .bot, .bot, .bot, .bot, .bot, .bot, .bot, .bot, .bot, .bot, .bot, .bot, .bot, .bot, .bot, .bot, .bot, .bot, .bot, .bot, .bot, .bot, .bot, .bot, .ow 320, I ((y18.length : Int)), I t19, .bot, .bot, .bot, .bot, .bot, .bot, .bot, .bot, .bot, .bot, .bot], [(320, .arr 3 1 (y18.map c3)), (48, .box [Ti y28.1.1, Ti y28.1.2.1, Ti y28.1.2.2]), (32, .box [Ti 0, Ti 0, Ti 0])]⟩) ?_ ?_
          · refine XL_cons rfl (X_of_Y0 rfl (E_loadn (cs := [Ti f20, Ti f21, Ti f22]) [Ti f20, Ti f21, Ti f22] wd36 rfl (by kernel_rfl) (Nat.le_of_ble_eq_true rfl) (by kernel_rfl))) ?_
            refine XL_cons rfl (X_of_Y0 rfl (E_move (I e27) rfl (by kernel_rfl))) ?_
            refine XL_cons rfl (X_of_Y1 rfl (Y1_call (s_spec_odDescend hy28) cf_spec_odDescend rfl (by kernel_rfl))) ?_
            refine XL_cons rfl (X_of_Y0 rfl (E_move (.tc (.ag [Ti y28.1.1, Ti y28.1.2.1, Ti y28.1.2.2]) (.tc (.ag [Ti y28.2.1, Ti y28.2.2.1, Ti y28.2.2.2.1, Ti y28.2.2.2.2]) .tn)) rfl (by kernel_rfl))) ?_
            refine XL_cons rfl (X_of_Y0 rfl (E_ext (n := 0) (.ag [Ti y28.1.1, Ti y28.1.2.1, Ti y28.1.2.2]) (.tc (.ag [Ti y28.2.1, Ti y28.2.2.1, Ti y28.2.2.2.1, Ti y28.2.2.2.2]) .tn) (.ag [Ti y28.1.1, Ti y28.1.2.1, Ti y28.1.2.2]) rfl (by kernel_rfl) (by kernel_rfl) (by intro hh; cases hh))) ?_
            refine XL_cons rfl (X_of_Y0 rfl (E_ext (n := 1) (.ag [Ti y28.1.1, Ti y28.1.2.1, Ti y28.1.2.2]) (.tc (.ag [Ti y28.2.1, Ti y28.2.2.1, Ti y28.2.2.2.1, Ti y28.2.2.2.2]) .tn) (.ag [Ti y28.2.1, Ti y28.2.2.1, Ti y28.2.2.2.1, Ti y28.2.2.2.2]) rfl (by kernel_rfl) (by kernel_rfl) (by intro hh; cases hh))) ?_
            refine XL_cons rfl (E_store (id := 48) (off := 0) (cs := [Ti f20, Ti f21, Ti f22]) (vc := [Ti y28.1.1, Ti y28.1.2.1, Ti y28.1.2.2]) [Ti y28.1.1, Ti y28.1.2.1, Ti y28.1.2.2] rfl rfl (by kernel_rfl) (by kernel_rfl) (by kernel_rfl) sz36 (Nat.le_of_ble_eq_true rfl) (by kernel_rfl)) ?_
            refine XL_nil ?_
            kernel_rfl
          show V _ _ _ _
          obtain ⟨t29, ht29, h⟩ := of_sI h
          refine V_reg [false, false, false, false, true, false, true, false, false, false, false, false, false, false, false, false, false, false, false, false, false, false, false, false, false, false, false, false, false, false, false, false, false, false, false, false, false, false, false, false, true, true, true, false, false, false, false, false, false, false, false, false, false, false] [320, 48, 32] (s1 := ⟨[.bot, .bot, .bot, .bot, .pt 32 0, .bot, .pt 48 0, .bot, .bot, .bot, .bot, .bot, .bot, .bot, .bot, .bot, .bot, .bot, .bot, .bot, .bot, .bot, .bot, .bot, .bot, .bot, .bot, .bot, .bot, .bot, .bot, .bot, .bot, .bot, .bot, .bot, .bot, .bot, .bot, .bot, .ow 320, I ((y18.length : Int)), I t29, .bot, .bot, .bot, .bot, .bot, .bot, .bot, .bot, .bot, .bot, .bot], [(320, .arr 3 1 (y18.map c3)), (48, .box [Ti y28.1.1, Ti y28.1.2.1, Ti y28.1.2.2]), (32, .box [Ti 0, Ti 0, Ti 0])]⟩) ?_ ?_
          · refine XL_cons rfl (X_of_Y0 rfl (Y0_add64 (a := t19) (b := 1) rfl (by kernel_rfl) (by kernel_rfl))) ?_
            refine XL_cons rfl (X_of_Y0 rfl (E_move (I (w64 (t19 + 1))) rfl (by kernel_rfl))) ?_
            refine XL_nil ?_
            subst ht29
            kernel_rfl
          exact ⟨n, Nat.lt_succ_self n, _, _, _, _,  by rfl, h⟩
        · have h := of_false h hc25
          refine V_exit ?_
          obtain rfl := some_inj h
          show St.keep _ _ _ = _
          rfl
    show V _ _ _ _
    refine V_sreg [false, false, false, false, true, true, false, false, false, false, false, false, false, false, false, false, false, false, false, false, false, false, false, false, false, false, false, false, false, false, false, false, false, false, false, false, false, false, false, false, false, false, false, false, false, false, false, false, false, false, false, false, false, false] [32] (s1 := ⟨[.bot, .bot, .bot, .bot, .pt 32 0, Bo true, .bot, .bot, .bot, .bot, .bot, .bot, .bot, .bot, .bot, .bot, .bot, .bot, .bot, .bot, .bot, .bot, .bot, .bot, .bot, .bot, .bot, .bot, .bot, .bot, .bot, .bot, .bot, .bot, .bot, .bot, .bot, .bot, .bot, .bot, .bot, .bot, .bot, .bot, .bot, .bot, .bot, .bot, .bot, .bot, .bot, .bot, .bot, .bot], [(32, .box [Ti o24.1, Ti o24.2.1, Ti o24.2.2])]⟩) ?_ ?_
    · refine XL_cons rfl (X_of_Y0 rfl (E_loadn (cs := [Ti o24.1, Ti o24.2.1, Ti o24.2.2]) [Ti o24.1, Ti o24.2.1, Ti o24.2.2] wd36 rfl (by kernel_rfl) (Nat.le_of_ble_eq_true rfl) (by kernel_rfl))) ?_
      refine XL_cons rfl (E_store (id := 32) (off := 0) (cs := [Ti 0, Ti 0, Ti 0]) (vc := [Ti o24.1, Ti o24.2.1, Ti o24.2.2]) [Ti o24.1, Ti o24.2.1, Ti o24.2.2] rfl rfl (by kernel_rfl) (by kernel_rfl) (by kernel_rfl) sz36 (Nat.le_of_ble_eq_true rfl) (by kernel_rfl)) ?_
      refine XL_cons rfl (X_of_Y0 rfl (E_assign (Bo true) rfl (by kernel_rfl))) ?_
      refine XL_nil ?_
      kernel_rfl
    refine V_ret ?_
    obtain rfl := some_inj h
    show Post _ _ _ _ _
    exact ⟨.inr rfl, rfl, rfl, rfl⟩
theorem cf_impl_reduced : ∀ args w, (callFunc 86 args).run Try.prog w = .ok (.enter 86 args) w := run_callFunc Try.func86 (by kernel_rfl) (by kernel_rfl)
set_option maxRecDepth 100000 in
set_option maxHeartbeats 400000 in
theorem s_impl_reduced {f1 : (Int × Int × Int)} {r : (Int × Int × Int)} (h : r_impl_reduced f1 = some r) : CallS Try.prog 86 [.ag [Ti f1.1, Ti f1.2.1, Ti f1.2.2]] (.ag [Ti r.1, Ti r.2.1, Ti r.2.2]) [] := by
  refine CallS_of_text (rs := [.w 2 3]) (vs := [.cell 2 36]) Try.func86 rfl rfl (.cons ⟨rfl, wd36⟩ FitsL.nil) (by decide) 11 rfl ?_
  unfold r_impl_reduced at h
  show V _ _ ⟨[.ag [Ti f1.1, Ti f1.2.1, Ti f1.2.2], .bot, .bot, .bot, .bot, .bot, .bot, .bot, .bot, .bot, .bot], []⟩ _
  refine V_sreg [false, true, true, false, false, false, false, false, false, false, false] [16, 8] (s1 := ⟨[.bot, .pt 8 0, .pt 16 0, .bot, .bot, .bot, .bot, .bot, .bot, .bot, .bot], [(16, .box [Ti 0, Ti 0, Ti 0]), (8, .box [Ti f1.1, Ti f1.2.1, Ti f1.2.2])]⟩) ?_ ?_
  · refine XL_cons rfl (X_of_Y1 rfl (Y1_box (cs := [Ti f1.1, Ti f1.2.1, Ti f1.2.2]) rfl (by kernel_rfl))) ?_
    refine XL_cons rfl (X_of_Y1 rfl (Y1_alloc (z := zv36) rfl zf36 rfl)) ?_
    refine XL_nil ?_
    kernel_rfl
  obtain ⟨y2, hy2, h⟩ := of_bind h
  refine V_sreg [false, false, true, true, false, false, false, false, false, false, false] [24, 16] (s1 := ⟨[.bot, .bot, .pt 16 0, .pt 24 0, .bot, .bot, .bot, .bot, .bot, .bot, .bot], [(24, .box [Ti y2.1.1, Ti y2.1.2.1, Ti y2.1.2.2]), (16, .box [Ti 0, Ti 0, Ti 0])]⟩) ?_ ?_
  · refine XL_cons rfl (X_of_Y0 rfl (E_loadn (cs := [Ti f1.1, Ti f1.2.1, Ti f1.2.2]) [Ti f1.1, Ti f1.2.1, Ti f1.2.2] wd36 rfl (by kernel_rfl) (Nat.le_of_ble_eq_true rfl) (by kernel_rfl))) ?_
    refine XL_cons rfl (X_of_Y1 rfl (Y1_call (s_impl_reduce hy2) cf_impl_reduce rfl (by kernel_rfl))) ?_
    refine XL_cons rfl (X_of_Y0 rfl (E_move (.tc (.ag [Ti y2.1.1, Ti y2.1.2.1, Ti y2.1.2.2]) (.tc (.ag [Ti y2.2.1, Ti y2.2.2.1, Ti y2.2.2.2.1, Ti y2.2.2.2.2]) .tn)) rfl (by kernel_rfl))) ?_
    refine XL_cons rfl (X_of_Y0 rfl (E_ext (n := 0) (.ag [Ti y2.1.1, Ti y2.1.2.1, Ti y2.1.2.2]) (.tc (.ag [Ti y2.2.1, Ti y2.2.2.1, Ti y2.2.2.2.1, Ti y2.2.2.2.2]) .tn) (.ag [Ti y2.1.1, Ti y2.1.2.1, Ti y2.1.2.2]) rfl (by kernel_rfl) (by kernel_rfl) (by intro hh; cases hh))) ?_
    refine XL_cons rfl (X_of_Y0 rfl (E_ext (n := 1) (.ag [Ti y2.1.1, Ti y2.1.2.1, Ti y2.1.2.2]) (.tc (.ag [Ti y2.2.1, Ti y2.2.2.1, Ti y2.2.2.2.1, Ti y2.2.2.2.2]) .tn) (.ag [Ti y2.2.1, Ti y2.2.2.1, Ti y2.2.2.2.1, Ti y2.2.2.2.2]) rfl (by kernel_rfl) (by kernel_rfl) (by intro hh; cases hh))) ?_
    refine XL_cons rfl (X_of_Y1 rfl (Y1_alloc (z := zv36) rfl zf36 rfl)) ?_
    refine XL_cons rfl (X_of_Y1 rfl (Y1_alloc (z := zv38) rfl zf38 rfl)) ?_
    refine XL_cons rfl (E_store (id := 24) (off := 0) (cs := [Ti 0, Ti 0, Ti 0]) (vc := [Ti y2.1.1, Ti y2.1.2.1, Ti y2.1.2.2]) [Ti y2.1.1, Ti y2.1.2.1, Ti y2.1.2.2] rfl rfl (by kernel_rfl) (by kernel_rfl) (by kernel_rfl) sz36 (Nat.le_of_ble_eq_true rfl) (by kernel_rfl)) ?_
    refine XL_cons rfl (E_store (id := 32) (off := 0) (cs := [Ti 0, Ti 0, Ti 0, Ti 0]) (vc := [Ti y2.2.1, Ti y2.2.2.1, Ti y2.2.2.2.1, Ti y2.2.2.2.2]) [Ti y2.2.1, Ti y2.2.2.1, Ti y2.2.2.2.1, Ti y2.2.2.2.2] rfl rfl (by kernel_rfl) (by kernel_rfl) (by kernel_rfl) sz38 (Nat.le_of_ble_eq_true rfl) (by kernel_rfl)) ?_
    refine XL_nil ?_
    kernel_rfl
  refine V_sreg [false, false, true, false, false, false, false, false, false, false, false] [16] (s1 := ⟨[.bot, .bot, .pt 16 0, .bot, .bot, .bot, .bot, .bot, .bot, .bot, .bot], [(16, .box [Ti y2.1.1, Ti y2.1.2.1, Ti y2.1.2.2])]⟩) ?_ ?_
  · refine XL_cons rfl (X_of_Y0 rfl (E_loadn (cs := [Ti y2.1.1, Ti y2.1.2.1, Ti y2.1.2.2]) [Ti y2.1.1, Ti y2.1.2.1, Ti y2.1.2.2] wd36 rfl (by kernel_rfl) (Nat.le_of_ble_eq_true rfl) (by kernel_rfl))) ?_
    refine XL_cons rfl (E_store (id := 16) (off := 0) (cs := [Ti 0, Ti 0, Ti 0]) (vc := [Ti y2.1.1, Ti y2.1.2.1, Ti y2.1.2.2]) [Ti y2.1.1, Ti y2.1.2.1, Ti y2.1.2.2] rfl rfl (by kernel_rfl) (by kernel_rfl) (by kernel_rfl) sz36 (Nat.le_of_ble_eq_true rfl) (by kernel_rfl)) ?_
    refine XL_nil ?_
    kernel_rfl
  refine V_ret ?_
  obtain rfl := some_inj h
  show Post _ _ _ _ _
  exact ⟨.inr rfl, rfl, rfl, rfl⟩
theorem cf_impl_factors : ∀ args w, (callFunc 87 args).run Try.prog w = .ok (.enter 87 args) w := run_callFunc Try.func87 (by kernel_rfl) (by kernel_rfl)
set_option maxRecDepth 100000 in
set_option maxHeartbeats 400000 in
theorem s_impl_factors {vn1 : Int} {r : List Int} (h : r_impl_factors vn1 = some r) : CallS Try.prog 87 [I vn1] (.ow 0) [(0, .arr 3 1 (r.map c3))] := by
  refine CallS_of_text (rs := [.t 2]) (vs := [.tmp 2]) Try.func87 rfl rfl (.cons rfl FitsL.nil) (by decide) 31 rfl ?_
  unfold r_impl_factors at h
  show V _ _ ⟨[I vn1, .bot, .bot, .bot, .bot, .bot, .bot, .bot, .bot, .bot, .bot, .bot, .bot, .bot, .bot, .bot, .bot, .bot, .bot, .bot, .bot, .bot, .bot, .bot, .bot, .bot, .bot, .bot, .bot, .bot, .bot], []⟩ _
  refine V_sreg [true, false, false, false, false, false, false, false, false, false, false, false, false, false, false, false, false, false, false, false, false, false, false, false, false, false, false, false, false, false, false] [] (s1 := ⟨[I vn1, .bot, .bot, .bot, .bot, .bot, .bot, .bot, .bot, .bot, .bot, .bot, .bot, .bot, .bot, .bot, .bot, .bot, .bot, .bot, .bot, .bot, .bot, .bot, .bot, .bot, .bot, .bot, .bot, .bot, .bot], []⟩) ?_ ?_
  · refine XL_cons rfl (X_of_Y1 rfl (Y1_nil (e := 3) 1 (by decide) (.inl rfl))) ?_
    refine XL_nil ?_
    kernel_rfl
  refine V_sreg [true, false, false, true, false, false, false, false, false, false, false, false, false, false, false, false, false, false, false, false, false, false, false, false, false, false, false, false, false, false, false] [40] (s1 := ⟨[I vn1, .bot, .bot, .ow 40, .bot, .bot, .bot, .bot, .bot, .bot, .bot, .bot, .bot, .bot, .bot, .bot, .bot, .bot, .bot, .bot, .bot, .bot, .bot, .bot, .bot, .bot, .bot, .bot, .bot, .bot, .bot], [(40, .arr 3 1 ((([] : List Int)).map c3))]⟩) ?_ ?_
  · refine XL_cons rfl (X_of_Y1 rfl (Y1_bslice0 Try.underlying25 sz3 (by decide) rfl rfl)) ?_
    refine XL_cons rfl (X_of_Y0 rfl (E_assign (.ow 40) rfl (by kernel_rfl))) ?_
    refine XL_nil ?_
    kernel_rfl
  refine V_seq ?_
  refine V_sreg [true, false, false, true, true, false, false, false, false, false, false, false, false, false, false, false, false, false, false, false, false, false, false, false, false, false, false, false, false, false, false] [40] (s1 := ⟨[I vn1, .bot, .bot, .ow 40, I 2, .bot, .bot, .bot, .bot, .bot, .bot, .bot, .bot, .bot, .bot, .bot, .bot, .bot, .bot, .bot, .bot, .bot, .bot, .bot, .bot, .bot, .bot, .bot, .bot, .bot, .bot], [(40, .arr 3 1 ((([] : List Int)).map c3))]⟩) ?_ ?_
  · refine XL_cons rfl (X_of_Y0 rfl (E_assign (I 2) rfl (by kernel_rfl))) ?_
    refine XL_nil ?_
    kernel_rfl
  obtain ⟨o6, hLo6, h⟩ := of_bind h
  refine V_toK [true, false, false, true, false, false, false, false, false, false, false, false, false, false, false, false, false, false, false, false, false, false, false, false, false, false, false, false, false, false, false] [40] (s1 := ⟨[I o6.1, .bot, .bot, .ow 40, .bot, .bot, .bot, .bot, .bot, .bot, .bot, .bot, .bot, .bot, .bot, .bot, .bot, .bot, .bot, .bot, .bot, .bot, .bot, .bot, .bot, .bot, .bot, .bot, .bot, .bot, .bot], [(40, .arr 3 1 (o6.2.map c3))]⟩) ?_ ?_
  · clear h
    refine V_block (V_loop (fun n s => ∃ (vn2 : Int) (p3 : Int) (l4 : List Int), s.keep [true, false, false, true, true, false, false, false, false, false, false, false, false, false, false, false, false, false, false, false, false, false, false, false, false, false, false, false, false, false, false] [40] = (⟨[I vn2, .bot, .bot, .ow 40, I p3, .bot, .bot, .bot, .bot, .bot, .bot, .bot, .bot, .bot, .bot, .bot, .bot, .bot, .bot, .bot, .bot, .bot, .bot, .bot, .bot, .bot, .bot, .bot, .bot, .bot, .bot], [(40, .arr 3 1 (l4.map c3))]⟩ : St) ∧ r_impl_factors_L5 n vn2 p3 l4 = some o6) FU ⟨_, _, _,  by rfl, hLo6⟩ ?_)
    clear hLo6
    rintro n s ⟨vn2, p3, l4, hs, h⟩
    refine V_keep _ _ hs ?_
    clear hs
    cases n with
    | zero => cases h
    | succ n =>
      rw [r_impl_factors_L5] at h
      refine V_seq ?_
      refine V_sreg [true, false, false, true, true, false, false, false, false, false, true, false, false, false, false, false, false, false, false, false, false, false, false, false, false, false, false, false, false, false, false] [40] (s1 := ⟨[I vn2, .bot, .bot, .ow 40, I p3, .bot, .bot, .bot, .bot, .bot, Bo (leI (w64 (p3 * p3)) vn2), .bot, .bot, .bot, .bot, .bot, .bot, .bot, .bot, .bot, .bot, .bot, .bot, .bot, .bot, .bot, .bot, .bot, .bot, .bot, .bot], [(40, .arr 3 1 (l4.map c3))]⟩) ?_ ?_
      · refine XL_cons rfl (X_of_Y0 rfl (E_move (I p3) rfl (by kernel_rfl))) ?_
        refine XL_cons rfl (X_of_Y0 rfl (E_move (I p3) rfl (by kernel_rfl))) ?_
        refine XL_cons rfl (X_of_Y0 rfl (Y0_mul64 (a := p3) (b := p3) rfl (by kernel_rfl) (by kernel_rfl))) ?_
        refine XL_cons rfl (X_of_Y0 rfl (E_move (I vn2) rfl (by kernel_rfl))) ?_
        refine XL_cons rfl (X_of_Y0 rfl (Y0_lew (k := .i64) (a := w64 (p3 * p3)) (b := vn2) rfl (by kernel_rfl) (by kernel_rfl))) ?_
        refine XL_nil ?_
        kernel_rfl
      refine V_cond rfl (fun hc7 => ?_) (fun hc7 => ?_)
      · have h := of_true h hc7
        refine V_skip ?_
        show V _ _ _ _
        refine V_seq ?_
        refine V_block ?_
        obtain ⟨o11, hLo11, h⟩ := of_bind h
        refine V_toK [true, false, false, true, true, false, false, false, false, false, false, false, false, false, false, false, false, false, false, false, false, false, false, false, false, false, false, false, false, false, false] [40] (s1 := ⟨[I o11.1, .bot, .bot, .ow 40, I p3, .bot, .bot, .bot, .bot, .bot, .bot, .bot, .bot, .bot, .bot, .bot, .bot, .bot, .bot, .bot, .bot, .bot, .bot, .bot, .bot, .bot, .bot, .bot, .bot, .bot, .bot], [(40, .arr 3 1 (o11.2.map c3))]⟩) ?_ ?_
        · clear h
          refine V_block (V_loop (fun n s => ∃ (vn8 : Int) (l9 : List Int), s.keep [true, false, false, true, true, false, false, false, false, false, false, false, false, false, false, false, false, false, false, false, false, false, false, false, false, false, false, false, false, false, false] [40] = (⟨[I vn8, .bot, .bot, .ow 40, I p3, .bot, .bot, .bot, .bot, .bot, .bot, .bot, .bot, .bot, .bot, .bot, .bot, .bot, .bot, .bot, .bot, .bot, .bot, .bot, .bot, .bot, .bot, .bot, .bot, .bot, .bot], [(40, .arr 3 1 (l9.map c3))]⟩ : St) ∧ r_impl_factors_L10 p3 n vn8 l9 = some o11) FU ⟨_, _,  by rfl, hLo11⟩ ?_)
          clear hLo11
          rintro n s ⟨vn8, l9, hs, h⟩
          refine V_keep _ _ hs ?_
          clear hs
          cases n with
          | zero => cases h
          | succ n =>
            rw [r_impl_factors_L10] at h
            refine V_seq ?_
            obtain ⟨z12, hz12, h⟩ := of_bind h
            refine V_sreg [true, false, false, true, true, false, false, false, false, false, false, false, false, false, false, false, true, false, false, false, false, false, false, false, false, false, false, false, false, false, false] [40] (s1 := ⟨[I vn8, .bot, .bot, .ow 40, I p3, .bot, .bot, .bot, .bot, .bot, .bot, .bot, .bot, .bot, .bot, .bot, Bo (eqI (Int.tmod vn8 p3) 0), .bot, .bot, .bot, .bot, .bot, .bot, .bot, .bot, .bot, .bot, .bot, .bot, .bot, .bot], [(40, .arr 3 1 (l9.map c3))]⟩) ?_ ?_
            · refine XL_cons rfl (X_of_Y0 rfl (E_move (I vn8) rfl (by kernel_rfl))) ?_
              refine XL_cons rfl (X_of_Y0 rfl (E_move (I p3) rfl (by kernel_rfl))) ?_
              refine XL_cons rfl (X_of_Y0 rfl (Y0_rem (k := .i64) (a := vn8) (b := p3) rfl (by kernel_rfl) (by kernel_rfl) (nz_some hz12))) ?_
              refine XL_cons rfl (X_of_Y0 rfl (Y0_eqw (k := .i64) (a := Int.tmod vn8 p3) (b := 0) rfl (by kernel_rfl) (by kernel_rfl))) ?_
              refine XL_nil ?_
              kernel_rfl
            refine V_cond rfl (fun hc13 => ?_) (fun hc13 => ?_)
            · have h := of_true h hc13
              refine V_skip ?_
              show V _ _ _ _
              refine V_block ?_
              obtain ⟨u14, hu14, h⟩ := of_bind h
              refine V_sreg [true, false, false, true, true, false, false, false, false, false, false, false, false, false, false, false, false, false, false, false, false, false, false, false, false, false, false, false, false, false, false] [40] (s1 := ⟨[I vn8, .bot, .bot, .ow 40, I p3, .bot, .bot, .bot, .bot, .bot, .bot, .bot, .bot, .bot, .bot, .bot, .bot, .bot, .bot, .bot, .bot, .bot, .bot, .bot, .bot, .bot, .bot, .bot, .bot, .bot, .bot], [(40, .arr 3 1 ((l9 ++ ([p3])).map c3))]⟩) ?_ ?_
              · refine XL_cons rfl (X_of_Y0 rfl (E_move (.ow 40) rfl (by kernel_rfl))) ?_
                refine XL_cons rfl (X_of_Y0 rfl (E_move (I p3) rfl (by kernel_rfl))) ?_
                refine XL_cons rfl (X_of_Y1 rfl (Y1_bslice (z := zv3) (els := [p3].map c3) Try.underlying25 iz3 rfl (by decide) rfl (by kernel_rfl) rfl (by simp [c3]) (by decide) (by decide))) ?_
                refine XL_cons rfl (X_appendM (c := c3) (xs := l9) (ys := [p3]) (id := 40) (z := zv3) rfl rfl Try.underlying25 izb3 rfl (by kernel_rfl) (by kernel_rfl) (by kernel_rfl) (fun _ => rfl) (by simp) (room_some hu14) (by decide)) ?_
                refine XL_cons rfl (X_of_Y0 rfl (E_assign (.ow 40) rfl (by kernel_rfl))) ?_
                refine XL_nil ?_
                kernel_rfl
              obtain ⟨z15, hz15, h⟩ := of_bind h
              obtain ⟨vn16, hvn16, h⟩ := of_sI h
              refine V_reg [true, false, false, true, true, false, false, false, false, false, false, false, false, false, false, false, false, false, false, false, false, false, false, false, false, false, false, false, false, false, false] [40] (s1 := ⟨[I vn16, .bot, .bot, .ow 40, I p3, .bot, .bot, .bot, .bot, .bot, .bot, .bot, .bot, .bot, .bot, .bot, .bot, .bot, .bot, .bot, .bot, .bot, .bot, .bot, .bot, .bot, .bot, .bot, .bot, .bot, .bot], [(40, .arr 3 1 ((l9 ++ ([p3])).map c3))]⟩) ?_ ?_
              · refine XL_cons rfl (X_of_Y0 rfl (E_move (I vn8) rfl (by kernel_rfl))) ?_
                refine XL_cons rfl (X_of_Y0 rfl (E_move (I p3) rfl (by kernel_rfl))) ?_
                refine XL_cons rfl (X_of_Y0 rfl (Y0_quo64 (a := vn8) (b := p3) rfl (by kernel_rfl) (by kernel_rfl) (nz_some hz15))) ?_
                refine XL_cons rfl (X_of_Y0 rfl (E_assign (I (w64 (Int.tdiv vn8 p3))) rfl (by kernel_rfl))) ?_
                refine XL_nil ?_
                subst hvn16
                kernel_rfl
              exact ⟨n, Nat.lt_succ_self n, _, _,  by rfl, h⟩
            · have h := of_false h hc13
              refine V_exit ?_
              obtain rfl := some_inj h
              show St.keep _ _ _ = _
              rfl
        show V _ _ _ _
        obtain ⟨p17, hp17, h⟩ := of_sI h
        refine V_reg [true, false, false, true, true, false, false, false, false, false, false, false, false, false, false, false, false, false, false, false, false, false, false, false, false, false, false, false, false, false, false] [40] (s1 := ⟨[I o11.1, .bot, .bot, .ow 40, I p17, .bot, .bot, .bot, .bot, .bot, .bot, .bot, .bot, .bot, .bot, .bot, .bot, .bot, .bot, .bot, .bot, .bot, .bot, .bot, .bot, .bot, .bot, .bot, .bot, .bot, .bot], [(40, .arr 3 1 (o11.2.map c3))]⟩) ?_ ?_
        · refine XL_cons rfl (X_of_Y0 rfl (E_move (I p3) rfl (by kernel_rfl))) ?_
          refine XL_cons rfl (X_of_Y0 rfl (Y0_add64 (a := p3) (b := 1) rfl (by kernel_rfl) (by kernel_rfl))) ?_
          refine XL_cons rfl (X_of_Y0 rfl (E_assign (I (w64 (p3 + 1))) rfl (by kernel_rfl))) ?_
          refine XL_nil ?_
          subst hp17
          kernel_rfl
        exact ⟨n, Nat.lt_succ_self n, _, _, _,  by rfl, h⟩
      · have h := of_false h hc7
        refine V_exit ?_
        obtain rfl := some_inj h
        show St.keep _ _ _ = _
        rfl
  show V _ _ _ _
  refine V_seq ?_
  refine V_sreg [true, false, false, true, false, false, false, false, false, false, false, false, false, false, false, false, false, false, false, false, false, false, false, false, false, true, false, false, false, false, false] [40] (s1 := ⟨[I o6.1, .bot, .bot, .ow 40, .bot, .bot, .bot, .bot, .bot, .bot, .bot, .bot, .bot, .bot, .bot, .bot, .bot, .bot, .bot, .bot, .bot, .bot, .bot, .bot, .bot, Bo (ltI 1 o6.1), .bot, .bot, .bot, .bot, .bot], [(40, .arr 3 1 (o6.2.map c3))]⟩) ?_ ?_
  · refine XL_cons rfl (X_of_Y0 rfl (E_move (I o6.1) rfl (by kernel_rfl))) ?_
    refine XL_cons rfl (X_of_Y0 rfl (Y0_gtw (k := .i64) (a := o6.1) (b := 1) rfl (by kernel_rfl) (by kernel_rfl))) ?_
    refine XL_nil ?_
    kernel_rfl
  refine V_cond rfl (fun hc18 => ?_) (fun hc18 => ?_)
  · have h := of_true h hc18
    obtain ⟨u19, hu19, h⟩ := of_bind h
    refine V_reg [false, false, false, true, false, false, false, false, false, false, false, false, false, false, false, false, false, false, false, false, false, false, false, false, false, false, false, false, false, false, false] [40] (s1 := ⟨[.bot, .bot, .bot, .ow 40, .bot, .bot, .bot, .bot, .bot, .bot, .bot, .bot, .bot, .bot, .bot, .bot, .bot, .bot, .bot, .bot, .bot, .bot, .bot, .bot, .bot, .bot, .bot, .bot, .bot, .bot, .bot], [(40, .arr 3 1 ((o6.2 ++ ([o6.1])).map c3))]⟩) ?_ ?_
    · refine XL_cons rfl (X_of_Y0 rfl (E_move (.ow 40) rfl (by kernel_rfl))) ?_
      refine XL_cons rfl (X_of_Y0 rfl (E_move (I o6.1) rfl (by kernel_rfl))) ?_
      refine XL_cons rfl (X_of_Y1 rfl (Y1_bslice (z := zv3) (els := [o6.1].map c3) Try.underlying25 iz3 rfl (by decide) rfl (by kernel_rfl) rfl (by simp [c3]) (by decide) (by decide))) ?_
      refine XL_cons rfl (X_appendM (c := c3) (xs := o6.2) (ys := [o6.1]) (id := 40) (z := zv3) rfl rfl Try.underlying25 izb3 rfl (by kernel_rfl) (by kernel_rfl) (by kernel_rfl) (fun _ => rfl) (by simp) (room_some hu19) (by decide)) ?_
      refine XL_cons rfl (X_of_Y0 rfl (E_assign (.ow 40) rfl (by kernel_rfl))) ?_
      refine XL_nil ?_
      kernel_rfl
    show V _ _ _ _
    refine V_sreg [false, false, true, false, false, false, false, false, false, false, false, false, false, false, false, false, false, false, false, false, false, false, false, false, false, false, false, false, false, false, false] [40] (s1 := ⟨[.bot, .bot, .ow 40, .bot, .bot, .bot, .bot, .bot, .bot, .bot, .bot, .bot, .bot, .bot, .bot, .bot, .bot, .bot, .bot, .bot, .bot, .bot, .bot, .bot, .bot, .bot, .bot, .bot, .bot, .bot, .bot], [(40, .arr 3 1 ((o6.2 ++ ([o6.1])).map c3))]⟩) ?_ ?_
    · refine XL_cons rfl (X_of_Y0 rfl (E_move (.ow 40) rfl (by kernel_rfl))) ?_
      refine XL_cons rfl (X_of_Y0 rfl (E_assign (.ow 40) rfl (by kernel_rfl))) ?_
      refine XL_nil ?_
      kernel_rfl
    refine V_ret ?_
    obtain rfl := some_inj h
    show Post _ _ _ _ _
    exact ⟨.inr rfl, rfl, rfl, rfl⟩
  · have h := of_false h hc18
    refine V_skip ?_
    show V _ _ _ _
    refine V_sreg [false, false, true, false, false, false, false, false, false, false, false, false, false, false, false, false, false, false, false, false, false, false, false, false, false, false, false, false, false, false, false] [40] (s1 := ⟨[.bot, .bot, .ow 40, .bot, .bot, .bot, .bot, .bot, .bot, .bot, .bot, .bot, .bot, .bot, .bot, .bot, .bot, .bot, .bot, .bot, .bot, .bot, .bot, .bot, .bot, .bot, .bot, .bot, .bot, .bot, .bot], [(40, .arr 3 1 (o6.2.map c3))]⟩) ?_ ?_
    · refine XL_cons rfl (X_of_Y0 rfl (E_move (.ow 40) rfl (by kernel_rfl))) ?_
      refine XL_cons rfl (X_of_Y0 rfl (E_assign (.ow 40) rfl (by kernel_rfl))) ?_
      refine XL_nil ?_
      kernel_rfl
    refine V_ret ?_
    obtain rfl := some_inj h
    show Post _ _ _ _ _
    exact ⟨.inr rfl, rfl, rfl, rfl⟩
theorem cf_impl_DescendTo : ∀ args w, (callFunc 38 args).run Try.prog w = .ok (.enter 38 args) w := run_callFunc Try.func38 (by kernel_rfl) (by kernel_rfl)
set_option maxRecDepth 100000 in
set_option maxHeartbeats 400000 in
theorem s_impl_DescendTo {f1 : (Int × Int × Int)} {k2 : Int} {r : (((Int × Int × Int)) × Bool)} (h : r_impl_DescendTo f1 k2 = some r) : CallS Try.prog 38 [.ag [Ti f1.1, Ti f1.2.1, Ti f1.2.2], I k2] (.tc (.ag [Ti r.1.1, Ti r.1.2.1, Ti r.1.2.2]) (.tc (Bo r.2) .tn)) [] := by
  refine CallS_of_text (rs := [.w 4 3, .t 5]) (vs := [.cell 4 36, .tmp 5]) Try.func38 rfl rfl (.cons ⟨rfl, wd36⟩ (.cons rfl FitsL.nil)) (by decide) 57 rfl ?_
  unfold r_impl_DescendTo at h
  show V _ _ ⟨[.ag [Ti f1.1, Ti f1.2.1, Ti f1.2.2], I k2, .bot, .bot, .bot, .bot, .bot, .bot, .bot, .bot, .bot, .bot, .bot, .bot, .bot, .bot, .bot, .bot, .bot, .bot, .bot, .bot, .bot, .bot, .bot, .bot, .bot, .bot, .bot, .bot, .bot, .bot, .bot, .bot, .bot, .bot, .bot, .bot, .bot, .bot, .bot, .bot, .bot, .bot, .bot, .bot, .bot, .bot, .bot, .bot, .bot, .bot, .bot, .bot, .bot, .bot, .bot], []⟩ _
  refine V_sreg [false, true, true, false, true, false, false, false, false, false, false, false, false, false, false, false, false, false, false, false, false, false, false, false, false, false, false, false, false, false, false, false, false, false, false, false, false, false, false, false, false, false, false, false, false, false, false, false, false, false, false, false, false, false, false, false, false] [32, 16] (s1 := ⟨[.bot, I k2, .pt 16 0, .bot, .pt 32 0, .bot, .bot, .bot, .bot, .bot, .bot, .bot, .bot, .bot, .bot, .bot, .bot, .bot, .bot, .bot, .bot, .bot, .bot, .bot, .bot, .bot, .bot, .bot, .bot, .bot, .bot, .bot, .bot, .bot, .bot, .bot, .bot, .bot, .bot, .bot, .bot, .bot, .bot, .bot, .bot, .bot, .bot, .bot, .bot, .bot, .bot, .bot, .bot, .bot, .bot, .bot, .bot], [(32, .box [Ti 0, Ti 0, Ti 0]), (16, .box [Ti f1.1, Ti f1.2.1, Ti f1.2.2])]⟩) ?_ ?_
  · refine XL_cons rfl (X_of_Y1 rfl (Y1_box (cs := [Ti f1.1, Ti f1.2.1, Ti f1.2.2]) rfl (by kernel_rfl))) ?_
    refine XL_cons rfl (X_of_Y1 rfl (Y1_alloc (z := zv36) rfl zf36 rfl)) ?_
    refine XL_cons rfl (X_of_Y0 rfl (E_assign (Bo false) rfl (by kernel_rfl))) ?_
    refine XL_nil ?_
    kernel_rfl
  refine V_seq ?_
  obtain ⟨y3, hy3, h⟩ := of_bind h
  obtain ⟨b9, hb9, h⟩ := of_bind h
  obtain ⟨b14, hb14, h⟩ := of_bind h
  refine V_sreg [false, true, true, false, true, false, false, false, false, false, false, false, false, false, false, false, false, false, false, false, false, false, false, false, false, false, false, false, false, false, false, false, false, false, false, false, false, false, true, false, false, false, false, false, false, false, false, false, false, false, false, false, false, false, false, false, false] [32, 16] (s1 := ⟨[.bot, I k2, .pt 16 0, .bot, .pt 32 0, .bot, .bot, .bot, .bot, .bot, .bot, .bot, .bot, .bot, .bot, .bot, .bot, .bot, .bot, .bot, .bot, .bot, .bot, .bot, .bot, .bot, .bot, .bot, .bot, .bot, .bot, .bot, .bot, .bot, .bot, .bot, .bot, .bot, Bo b14, .bot, .bot, .bot, .bot, .bot, .bot, .bot, .bot, .bot, .bot, .bot, .bot, .bot, .bot, .bot, .bot, .bot, .bot], [(32, .box [Ti 0, Ti 0, Ti 0]), (16, .box [Ti f1.1, Ti f1.2.1, Ti f1.2.2])]⟩) ?_ ?_
  · refine XL_cons rfl (X_of_Y0 rfl (E_loadn (cs := [Ti f1.1, Ti f1.2.1, Ti f1.2.2]) [Ti f1.1, Ti f1.2.1, Ti f1.2.2] wd36 rfl (by kernel_rfl) (Nat.le_of_ble_eq_true rfl) (by kernel_rfl))) ?_
    refine XL_cons rfl (X_of_Y1 rfl (Y1_call (s_impl_isClassForm hy3) cf_impl_isClassForm rfl (by kernel_rfl))) ?_
    refine XL_cons rfl (X_of_Y0 rfl (Y0_not (b := y3) rfl (by kernel_rfl))) ?_
    refine XL_cons rfl (X_of_Y0 rfl (E_move (Bo (!y3)) rfl (by kernel_rfl))) ?_
    refine XL_split (!y3) (fun hc4 => ?_) (fun hc4 => ?_)
    · refine XL_skipF (!y3) rfl rfl (by kernel_rfl) hc4 rfl ?_
      refine XL_skipF (!y3) rfl rfl (by kernel_rfl) hc4 rfl ?_
      refine XL_cons rfl (X_of_Y0 rfl (Y0_pick1 (b := !y3) (p := true) (q := ltI k2 1) rfl (by kernel_rfl) hc4 (by kernel_rfl))) ?_
      refine XL_cons rfl (X_of_Y0 rfl (E_move (Bo (bif (!y3) then true else (ltI k2 1))) rfl (by kernel_rfl))) ?_
      refine XL_split (bif (!y3) then true else (ltI k2 1)) (fun hc5 => ?_) (fun hc5 => ?_)
      · refine XL_skipF (bif (!y3) then true else (ltI k2 1)) rfl rfl (by kernel_rfl) hc5 rfl ?_
        refine XL_skipF (bif (!y3) then true else (ltI k2 1)) rfl rfl (by kernel_rfl) hc5 rfl ?_
        refine XL_cons rfl (X_of_Y0 rfl (Y0_pick1 (b := bif (!y3) then true else (ltI k2 1)) (p := true) (q := ltI 1000 k2) rfl (by kernel_rfl) hc5 (by kernel_rfl))) ?_
        refine XL_cons rfl (X_of_Y0 rfl (E_move (Bo (bif (bif (!y3) then true else (ltI k2 1)) then true else (ltI 1000 k2))) rfl (by kernel_rfl))) ?_
        refine XL_split (bif (bif (!y3) then true else (ltI k2 1)) then true else (ltI 1000 k2)) (fun hc6 => ?_) (fun hc6 => ?_)
        · have hb9 := some_inj (of_true hb9 hc6)
          refine XL_skipF (bif (bif (!y3) then true else (ltI k2 1)) then true else (ltI 1000 k2)) rfl rfl (by kernel_rfl) hc6 rfl ?_
          refine XL_skipF (bif (bif (!y3) then true else (ltI k2 1)) then true else (ltI 1000 k2)) rfl rfl (by kernel_rfl) hc6 rfl ?_
          refine XL_skipF (bif (bif (!y3) then true else (ltI k2 1)) then true else (ltI 1000 k2)) rfl rfl (by kernel_rfl) hc6 rfl ?_
          refine XL_skipF (bif (bif (!y3) then true else (ltI k2 1)) then true else (ltI 1000 k2)) rfl rfl (by kernel_rfl) hc6 rfl ?_
          refine XL_skipF (bif (bif (!y3) then true else (ltI k2 1)) then true else (ltI 1000 k2)) rfl rfl (by kernel_rfl) hc6 rfl ?_
          refine XL_skipF (bif (bif (!y3) then true else (ltI k2 1)) then true else (ltI 1000 k2)) rfl rfl (by kernel_rfl) hc6 rfl ?_
          refine XL_skipF (bif (bif (!y3) then true else (ltI k2 1)) then true else (ltI 1000 k2)) rfl rfl (by kernel_rfl) hc6 rfl ?_
          refine XL_cons rfl (X_of_Y0 rfl (Y0_pickTe (b := bif (bif (!y3) then true else (ltI k2 1)) then true else (ltI 1000 k2)) (p := true) rfl (by kernel_rfl) hc6 (by kernel_rfl) hb9)) ?_
          refine XL_cons rfl (X_of_Y0 rfl (E_move (Bo b9) rfl (by kernel_rfl))) ?_
          refine XL_split b9 (fun hc10 => ?_) (fun hc10 => ?_)
          · have hb14 := some_inj (of_true hb14 hc10)
            refine XL_skipF (b9) rfl rfl (by kernel_rfl) hc10 rfl ?_
            refine XL_skipF (b9) rfl rfl (by kernel_rfl) hc10 rfl ?_
            refine XL_skipF (b9) rfl rfl (by kernel_rfl) hc10 rfl ?_
            refine XL_skipF (b9) rfl rfl (by kernel_rfl) hc10 rfl ?_
            refine XL_skipF (b9) rfl rfl (by kernel_rfl) hc10 rfl ?_
            refine XL_skipF (b9) rfl rfl (by kernel_rfl) hc10 rfl ?_
            refine XL_skipF (b9) rfl rfl (by kernel_rfl) hc10 rfl ?_
            refine XL_skipF (b9) rfl rfl (by kernel_rfl) hc10 rfl ?_
            refine XL_cons rfl (X_of_Y0 rfl (Y0_pickTe (b := b9) (p := true) rfl (by kernel_rfl) hc10 (by kernel_rfl) hb14)) ?_
            refine XL_nil ?_
            kernel_rfl
          · have hb14 := of_false hb14 hc10
            obtain ⟨y11, hy11, hb14⟩ := of_bind hb14
            obtain ⟨z12, hz12, hb14⟩ := of_bind hb14
            obtain ⟨y13, hy13, hb14⟩ := of_bind hb14
            have hb14 := some_inj hb14
            refine XL_takeC (b9) rfl rfl (by kernel_rfl) hc10 (X_of_Y0 rfl (E_loadn (cs := [Ti f1.1, Ti f1.2.1, Ti f1.2.2]) [Ti f1.1, Ti f1.2.1, Ti f1.2.2] wd36 rfl (by kernel_rfl) (Nat.le_of_ble_eq_true rfl) (by kernel_rfl))) ?_
            refine XL_takeC (b9) rfl rfl (by kernel_rfl) hc10 (X_of_Y1 rfl (Y1_call (s_impl_Form_disc hy11) cf_impl_Form_disc rfl (by kernel_rfl))) ?_
            refine XL_takeC (b9) rfl rfl (by kernel_rfl) hc10 (X_of_Y0 rfl (E_move (I k2) rfl (by kernel_rfl))) ?_
            refine XL_takeC (b9) rfl rfl (by kernel_rfl) hc10 (X_of_Y0 rfl (E_move (I k2) rfl (by kernel_rfl))) ?_
            refine XL_takeC (b9) rfl rfl (by kernel_rfl) hc10 (X_of_Y0 rfl (Y0_mul64 (a := k2) (b := k2) rfl (by kernel_rfl) (by kernel_rfl))) ?_
            refine XL_takeC (b9) rfl rfl (by kernel_rfl) hc10 (X_of_Y0 rfl (Y0_quo64 (a := y11) (b := w64 (k2 * k2)) rfl (by kernel_rfl) (by kernel_rfl) (nz_some hz12))) ?_
            refine XL_takeC (b9) rfl rfl (by kernel_rfl) hc10 (X_of_Y1 rfl (Y1_call (s_impl_isNegativeDisc hy13) cf_impl_isNegativeDisc rfl (by kernel_rfl))) ?_
            refine XL_takeC (b9) rfl rfl (by kernel_rfl) hc10 (X_of_Y0 rfl (Y0_not (b := y13) rfl (by kernel_rfl))) ?_
            refine XL_cons rfl (X_of_Y0 rfl (Y0_pickFe (b := b9) (p := !y13) rfl (by kernel_rfl) hc10 (by kernel_rfl) hb14)) ?_
            refine XL_nil ?_
            kernel_rfl
        · have hb9 := of_false hb9 hc6
          obtain ⟨y7, hy7, hb9⟩ := of_bind hb9
          obtain ⟨z8, hz8, hb9⟩ := of_bind hb9
          have hb9 := some_inj hb9
          refine XL_takeC (bif (bif (!y3) then true else (ltI k2 1)) then true else (ltI 1000 k2)) rfl rfl (by kernel_rfl) hc6 (X_of_Y0 rfl (E_loadn (cs := [Ti f1.1, Ti f1.2.1, Ti f1.2.2]) [Ti f1.1, Ti f1.2.1, Ti f1.2.2] wd36 rfl (by kernel_rfl) (Nat.le_of_ble_eq_true rfl) (by kernel_rfl))) ?_
          refine XL_takeC (bif (bif (!y3) then true else (ltI k2 1)) then true else (ltI 1000 k2)) rfl rfl (by kernel_rfl) hc6 (X_of_Y1 rfl (Y1_call (s_impl_Form_disc hy7) cf_impl_Form_disc rfl (by kernel_rfl))) ?_
          refine XL_takeC (bif (bif (!y3) then true else (ltI k2 1)) then true else (ltI 1000 k2)) rfl rfl (by kernel_rfl) hc6 (X_of_Y0 rfl (E_move (I k2) rfl (by kernel_rfl))) ?_
          refine XL_takeC (bif (bif (!y3) then true else (ltI k2 1)) then true else (ltI 1000 k2)) rfl rfl (by kernel_rfl) hc6 (X_of_Y0 rfl (E_move (I k2) rfl (by kernel_rfl))) ?_
          refine XL_takeC (bif (bif (!y3) then true else (ltI k2 1)) then true else (ltI 1000 k2)) rfl rfl (by kernel_rfl) hc6 (X_of_Y0 rfl (Y0_mul64 (a := k2) (b := k2) rfl (by kernel_rfl) (by kernel_rfl))) ?_
          refine XL_takeC (bif (bif (!y3) then true else (ltI k2 1)) then true else (ltI 1000 k2)) rfl rfl (by kernel_rfl) hc6 (X_of_Y0 rfl (Y0_rem (k := .i64) (a := y7) (b := w64 (k2 * k2)) rfl (by kernel_rfl) (by kernel_rfl) (nz_some hz8))) ?_
          refine XL_takeC (bif (bif (!y3) then true else (ltI k2 1)) then true else (ltI 1000 k2)) rfl rfl (by kernel_rfl) hc6 (X_of_Y0 rfl (Y0_new (k := .i64) (a := Int.tmod y7 (w64 (k2 * k2))) (b := 0) rfl (by kernel_rfl) (by kernel_rfl))) ?_
          refine XL_cons rfl (X_of_Y0 rfl (Y0_pickFe (b := bif (bif (!y3) then true else (ltI k2 1)) then true else (ltI 1000 k2)) (p := !eqI (Int.tmod y7 (w64 (k2 * k2))) 0) rfl (by kernel_rfl) hc6 (by kernel_rfl) hb9)) ?_
          refine XL_cons rfl (X_of_Y0 rfl (E_move (Bo b9) rfl (by kernel_rfl))) ?_
          refine XL_split b9 (fun hc10 => ?_) (fun hc10 => ?_)
          · have hb14 := some_inj (of_true hb14 hc10)
            refine XL_skipF (b9) rfl rfl (by kernel_rfl) hc10 rfl ?_
            refine XL_skipF (b9) rfl rfl (by kernel_rfl) hc10 rfl ?_
            refine XL_skipF (b9) rfl rfl (by kernel_rfl) hc10 rfl ?_
            refine XL_skipF (b9) rfl rfl (by kernel_rfl) hc10 rfl ?_
            refine XL_skipF (b9) rfl rfl (by kernel_rfl) hc10 rfl ?_
            refine XL_skipF (b9) rfl rfl (by kernel_rfl) hc10 rfl ?_
            refine XL_skipF (b9) rfl rfl (by kernel_rfl) hc10 rfl ?_
            refine XL_skipF (b9) rfl rfl (by kernel_rfl) hc10 rfl ?_
            refine XL_cons rfl (X_of_Y0 rfl (Y0_pickTe (b := b9) (p := true) rfl (by kernel_rfl) hc10 (by kernel_rfl) hb14)) ?_
            refine XL_nil ?_
            kernel_rfl
          · have hb14 := of_false hb14 hc10
            obtain ⟨y11, hy11, hb14⟩ := of_bind hb14
            obtain ⟨z12, hz12, hb14⟩ := of_bind hb14
            obtain ⟨y13, hy13, hb14⟩ := of_bind hb14
            have hb14 := some_inj hb14
            refine XL_takeC (b9) rfl rfl (by kernel_rfl) hc10 (X_of_Y0 rfl (E_loadn (cs := [Ti f1.1, Ti f1.2.1, Ti f1.2.2]) [Ti f1.1, Ti f1.2.1, Ti f1.2.2] wd36 rfl (by kernel_rfl) (Nat.le_of_ble_eq_true rfl) (by kernel_rfl))) ?_
            refine XL_takeC (b9) rfl rfl (by kernel_rfl) hc10 (X_of_Y1 rfl (Y1_call (s_impl_Form_disc hy11) cf_impl_Form_disc rfl (by kernel_rfl))) ?_
            refine XL_takeC (b9) rfl rfl (by kernel_rfl) hc10 (X_of_Y0 rfl (E_move (I k2) rfl (by kernel_rfl))) ?_
            refine XL_takeC (b9) rfl rfl (by kernel_rfl) hc10 (X_of_Y0 rfl (E_move (I k2) rfl (by kernel_rfl))) ?_
            refine XL_takeC (b9) rfl rfl (by kernel_rfl) hc10 (X_of_Y0 rfl (Y0_mul64 (a := k2) (b := k2) rfl (by kernel_rfl) (by kernel_rfl))) ?_
            refine XL_takeC (b9) rfl rfl (by kernel_rfl) hc10 (X_of_Y0 rfl (Y0_quo64 (a := y11) (b := w64 (k2 * k2)) rfl (by kernel_rfl) (by kernel_rfl) (nz_some hz12))) ?_
            refine XL_takeC (b9) rfl rfl (by kernel_rfl) hc10 (X_of_Y1 rfl (Y1_call (s_impl_isNegativeDisc hy13) cf_impl_isNegativeDisc rfl (by kernel_rfl))) ?_
            refine XL_takeC (b9) rfl rfl (by kernel_rfl) hc10 (X_of_Y0 rfl (Y0_not (b := y13) rfl (by kernel_rfl))) ?_
            refine XL_cons rfl (X_of_Y0 rfl (Y0_pickFe (b := b9) (p := !y13) rfl (by kernel_rfl) hc10 (by kernel_rfl) hb14)) ?_
            refine XL_nil ?_
            kernel_rfl
      · refine XL_takeC (bif (!y3) then true else (ltI k2 1)) rfl rfl (by kernel_rfl) hc5 (X_of_Y0 rfl (E_move (I k2) rfl (by kernel_rfl))) ?_
        refine XL_takeC (bif (!y3) then true else (ltI k2 1)) rfl rfl (by kernel_rfl) hc5 (X_of_Y0 rfl (Y0_gtw (k := .i64) (a := k2) (b := 1000) rfl (by kernel_rfl) (by kernel_rfl))) ?_
        refine XL_cons rfl (X_of_Y0 rfl (Y0_pick0 (b := bif (!y3) then true else (ltI k2 1)) (p := true) (q := ltI 1000 k2) rfl (by kernel_rfl) hc5 (by kernel_rfl))) ?_
        refine XL_cons rfl (X_of_Y0 rfl (E_move (Bo (bif (bif (!y3) then true else (ltI k2 1)) then true else (ltI 1000 k2))) rfl (by kernel_rfl))) ?_
        refine XL_split (bif (bif (!y3) then true else (ltI k2 1)) then true else (ltI 1000 k2)) (fun hc6 => ?_) (fun hc6 => ?_)
        · have hb9 := some_inj (of_true hb9 hc6)
          refine XL_skipF (bif (bif (!y3) then true else (ltI k2 1)) then true else (ltI 1000 k2)) rfl rfl (by kernel_rfl) hc6 rfl ?_
          refine XL_skipF (bif (bif (!y3) then true else (ltI k2 1)) then true else (ltI 1000 k2)) rfl rfl (by kernel_rfl) hc6 rfl ?_
          refine XL_skipF (bif (bif (!y3) then true else (ltI k2 1)) then true else (ltI 1000 k2)) rfl rfl (by kernel_rfl) hc6 rfl ?_
          refine XL_skipF (bif (bif (!y3) then true else (ltI k2 1)) then true else (ltI 1000 k2)) rfl rfl (by kernel_rfl) hc6 rfl ?_
          refine XL_skipF (bif (bif (!y3) then true else (ltI k2 1)) then true else (ltI 1000 k2)) rfl rfl (by kernel_rfl) hc6 rfl ?_
          refine XL_skipF (bif (bif (!y3) then true else (ltI k2 1)) then true else (ltI 1000 k2)) rfl rfl (by kernel_rfl) hc6 rfl ?_
          refine XL_skipF (bif (bif (!y3) then true else (ltI k2 1)) then true else (ltI 1000 k2)) rfl rfl (by kernel_rfl) hc6 rfl ?_
          refine XL_cons rfl (X_of_Y0 rfl (Y0_pickTe (b := bif (bif (!y3) then true else (ltI k2 1)) then true else (ltI 1000 k2)) (p := true) rfl (by kernel_rfl) hc6 (by kernel_rfl) hb9)) ?_
          refine XL_cons rfl (X_of_Y0 rfl (E_move (Bo b9) rfl (by kernel_rfl))) ?_
          refine XL_split b9 (fun hc10 => ?_) (fun hc10 => ?_)
          · have hb14 := some_inj (of_true hb14 hc10)
            refine XL_skipF (b9) rfl rfl (by kernel_rfl) hc10 rfl ?_
            refine XL_skipF (b9) rfl rfl (by kernel_rfl) hc10 rfl ?_
            refine XL_skipF (b9) rfl rfl (by kernel_rfl) hc10 rfl ?_
            refine XL_skipF (b9) rfl rfl (by kernel_rfl) hc10 rfl ?_
            refine XL_skipF (b9) rfl rfl (by kernel_rfl) hc10 rfl ?_
            refine XL_skipF (b9) rfl rfl (by kernel_rfl) hc10 rfl ?_
            refine XL_skipF (b9) rfl rfl (by kernel_rfl) hc10 rfl ?_
            refine XL_skipF (b9) rfl rfl (by kernel_rfl) hc10 rfl ?_
            refine XL_cons rfl (X_of_Y0 rfl (Y0_pickTe (b := b9) (p := true) rfl (by kernel_rfl) hc10 (by kernel_rfl) hb14)) ?_
            refine XL_nil ?_
            kernel_rfl
          · have hb14 := of_false hb14 hc10
            obtain ⟨y11, hy11, hb14⟩ := of_bind hb14
            obtain ⟨z12, hz12, hb14⟩ := of_bind hb14
            obtain ⟨y13, hy13, hb14⟩ := of_bind hb14
            have hb14 := some_inj hb14
            refine XL_takeC (b9) rfl rfl (by kernel_rfl) hc10 (X_of_Y0 rfl (E_loadn (cs := [Ti f1.1, Ti f1.2.1, Ti f1.2.2]) [Ti f1.1, Ti f1.2.1, Ti f1.2.2] wd36 rfl (by kernel_rfl) (Nat.le_of_ble_eq_true rfl) (by kernel_rfl))) ?_
            refine XL_takeC (b9) rfl rfl (by kernel_rfl) hc10 (X_of_Y1 rfl (Y1_call (s_impl_Form_disc hy11) cf_impl_Form_disc rfl (by kernel_rfl))) ?_
            refine XL_takeC (b9) rfl rfl (by kernel_rfl) hc10 (X_of_Y0 rfl (E_move (I k2) rfl (by kernel_rfl))) ?_
            refine XL_takeC (b9) rfl rfl (by kernel_rfl) hc10 (X_of_Y0 rfl (E_move (I k2) rfl (by kernel_rfl))) ?_
            refine XL_takeC (b9) rfl rfl (by kernel_rfl) hc10 (X_of_Y0 rfl (Y0_mul64 (a := k2) (b := k2) rfl (by kernel_rfl) (by kernel_rfl))) ?_
            refine XL_takeC (b9) rfl rfl (by kernel_rfl) hc10 (X_of_Y0 rfl (Y0_quo64 (a := y11) (b := w64 (k2 * k2)) rfl (by kernel_rfl) (by kernel_rfl) (nz_some hz12))) ?_
            refine XL_takeC (b9) rfl rfl (by kernel_rfl) hc10 (X_of_Y1 rfl (Y1_call (s_impl_isNegativeDisc hy13) cf_impl_isNegativeDisc rfl (by kernel_rfl))) ?_
            refine XL_takeC (b9) rfl rfl (by kernel_rfl) hc10 (X_of_Y0 rfl (Y0_not (b := y13) rfl (by kernel_rfl))) ?_
            refine XL_cons rfl (X_of_Y0 rfl (Y0_pickFe (b := b9) (p := !y13) rfl (by kernel_rfl) hc10 (by kernel_rfl) hb14)) ?_
            refine XL_nil ?_
            kernel_rfl
        · have hb9 := of_false hb9 hc6
          obtain ⟨y7, hy7, hb9⟩ := of_bind hb9
          obtain ⟨z8, hz8, hb9⟩ := of_bind hb9
          have hb9 := some_inj hb9
          refine XL_takeC (bif (bif (!y3) then true else (ltI k2 1)) then true else (ltI 1000 k2)) rfl rfl (by kernel_rfl) hc6 (X_of_Y0 rfl (E_loadn (cs := [Ti f1.1, Ti f1.2.1, Ti f1.2.2]) [Ti f1.1, Ti f1.2.1, Ti f1.2.2] wd36 rfl (by kernel_rfl) (Nat.le_of_ble_eq_true rfl) (by kernel_rfl))) ?_
          refine XL_takeC (bif (bif (!y3) then true else (ltI k2 1)) then true else (ltI 1000 k2)) rfl rfl (by kernel_rfl) hc6 (X_of_Y1 rfl (Y1_call (s_impl_Form_disc hy7) cf_impl_Form_disc rfl (by kernel_rfl))) ?_
          refine XL_takeC (bif (bif (!y3) then true else (ltI k2 1)) then true else (ltI 1000 k2)) rfl rfl (by kernel_rfl) hc6 (X_of_Y0 rfl (E_move (I k2) rfl (by kernel_rfl))) ?_
          refine XL_takeC (bif (bif (!y3) then true else (ltI k2 1)) then true else (ltI 1000 k2)) rfl rfl (by kernel_rfl) hc6 (X_of_Y0 rfl (E_move (I k2) rfl (by kernel_rfl))) ?_
          refine XL_takeC (bif (bif (!y3) then true else (ltI k2 1)) then true else (ltI 1000 k2)) rfl rfl (by kernel_rfl) hc6 (X_of_Y0 rfl (Y0_mul64 (a := k2) (b := k2) rfl (by kernel_rfl) (by kernel_rfl))) ?_
          refine XL_takeC (bif (bif (!y3) then true else (ltI k2 1)) then true else (ltI 1000 k2)) rfl rfl (by kernel_rfl) hc6 (X_of_Y0 rfl (Y0_rem (k := .i64) (a := y7) (b := w64 (k2 * k2)) rfl (by kernel_rfl) (by kernel_rfl) (nz_some hz8))) ?_
          refine XL_takeC (bif (bif (!y3) then true else (ltI k2 1)) then true else (ltI 1000 k2)) rfl rfl (by kernel_rfl) hc6 (X_of_Y0 rfl (Y0_new (k := .i64) (a := Int.tmod y7 (w64 (k2 * k2))) (b := 0) rfl (by kernel_rfl) (by kernel_rfl))) ?_
          refine XL_cons rfl (X_of_Y0 rfl (Y0_pickFe (b := bif (bif (!y3) then true else (ltI k2 1)) then true else (ltI 1000 k2)) (p := !eqI (Int.tmod y7 (w64 (k2 * k2))) 0) rfl (by kernel_rfl) hc6 (by kernel_rfl) hb9)) ?_
          refine XL_cons rfl (X_of_Y0 rfl (E_move (Bo b9) rfl (by kernel_rfl))) ?_
          refine XL_split b9 (fun hc10 => ?_) (fun hc10 => ?_)
          · have hb14 := some_inj (of_true hb14 hc10)
            refine XL_skipF (b9) rfl rfl (by kernel_rfl) hc10 rfl ?_
            refine XL_skipF (b9) rfl rfl (by kernel_rfl) hc10 rfl ?_
            refine XL_skipF (b9) rfl rfl (by kernel_rfl) hc10 rfl ?_
            refine XL_skipF (b9) rfl rfl (by kernel_rfl) hc10 rfl ?_
            refine XL_skipF (b9) rfl rfl (by kernel_rfl) hc10 rfl ?_
            refine XL_skipF (b9) rfl rfl (by kernel_rfl) hc10 rfl ?_
            refine XL_skipF (b9) rfl rfl (by kernel_rfl) hc10 rfl ?_
            refine XL_skipF (b9) rfl rfl (by kernel_rfl) hc10 rfl ?_
            refine XL_cons rfl (X_of_Y0 rfl (Y0_pickTe (b := b9) (p := true) rfl (by kernel_rfl) hc10 (by kernel_rfl) hb14)) ?_
            refine XL_nil ?_
            kernel_rfl
          · have hb14 := of_false hb14 hc10
            obtain ⟨y11, hy11, hb14⟩ := of_bind hb14
            obtain ⟨z12, hz12, hb14⟩ := of_bind hb14
            obtain ⟨y13, hy13, hb14⟩ := of_bind hb14
            have hb14 := some_inj hb14
            refine XL_takeC (b9) rfl rfl (by kernel_rfl) hc10 (X_of_Y0 rfl (E_loadn (cs := [Ti f1.1, Ti f1.2.1, Ti f1.2.2]) [Ti f1.1, Ti f1.2.1, Ti f1.2.2] wd36 rfl (by kernel_rfl) (Nat.le_of_ble_eq_true rfl) (by kernel_rfl))) ?_
            refine XL_takeC (b9) rfl rfl (by kernel_rfl) hc10 (X_of_Y1 rfl (Y1_call (s_impl_Form_disc hy11) cf_impl_Form_disc rfl (by kernel_rfl))) ?_
            refine XL_takeC (b9) rfl rfl (by kernel_rfl) hc10 (X_of_Y0 rfl (E_move (I k2) rfl (by kernel_rfl))) ?_
            refine XL_takeC (b9) rfl rfl (by kernel_rfl) hc10 (X_of_Y0 rfl (E_move (I k2) rfl (by kernel_rfl))) ?_
            refine XL_takeC (b9) rfl rfl (by kernel_rfl) hc10 (X_of_Y0 rfl (Y0_mul64 (a := k2) (b := k2) rfl (by kernel_rfl) (by kernel_rfl))) ?_
            refine XL_takeC (b9) rfl rfl (by kernel_rfl) hc10 (X_of_Y0 rfl (Y0_quo64 (a := y11) (b := w64 (k2 * k2)) rfl (by kernel_rfl) (by kernel_rfl) (nz_some hz12))) ?_
            refine XL_takeC (b9) rfl rfl (by kernel_rfl) hc10 (X_of_Y1 rfl (Y1_call (s_impl_isNegativeDisc hy13) cf_impl_isNegativeDisc rfl (by kernel_rfl))) ?_
            refine XL_takeC (b9) rfl rfl (by kernel_rfl) hc10 (X_of_Y0 rfl (Y0_not (b := y13) rfl (by kernel_rfl))) ?_
            refine XL_cons rfl (X_of_Y0 rfl (Y0_pickFe (b := b9) (p := !y13) rfl (by kernel_rfl) hc10 (by kernel_rfl) hb14)) ?_
            refine XL_nil ?_
            kernel_rfl
    · refine XL_takeC (!y3) rfl rfl (by kernel_rfl) hc4 (X_of_Y0 rfl (E_move (I k2) rfl (by kernel_rfl))) ?_
      refine XL_takeC (!y3) rfl rfl (by kernel_rfl) hc4 (X_of_Y0 rfl (Y0_ltw (k := .i64) (a := k2) (b := 1) rfl (by kernel_rfl) (by kernel_rfl))) ?_
      refine XL_cons rfl (X_of_Y0 rfl (Y0_pick0 (b := !y3) (p := true) (q := ltI k2 1) rfl (by kernel_rfl) hc4 (by kernel_rfl))) ?_
      refine XL_cons rfl (X_of_Y0 rfl (E_move (Bo (bif (!y3) then true else (ltI k2 1))) rfl (by kernel_rfl))) ?_
      refine XL_split (bif (!y3) then true else (ltI k2 1)) (fun hc5 => ?_) (fun hc5 => ?_)
      · refine XL_skipF (bif (!y3) then true else (ltI k2 1)) rfl rfl (by kernel_rfl) hc5 rfl ?_
        refine XL_skipF (bif (!y3) then true else (ltI k2 1)) rfl rfl (by kernel_rfl) hc5 rfl ?_
        refine XL_cons rfl (X_of_Y0 rfl (Y0_pick1 (b := bif (!y3) then true else (ltI k2 1)) (p := true) (q := ltI 1000 k2) rfl (by kernel_rfl) hc5 (by kernel_rfl))) ?_
        refine XL_cons rfl (X_of_Y0 rfl (E_move (Bo (bif (bif (!y3) then true else (ltI k2 1)) then true else (ltI 1000 k2))) rfl (by kernel_rfl))) ?_
        refine XL_split (bif (bif (!y3) then true else (ltI k2 1)) then true else (ltI 1000 k2)) (fun hc6 => ?_) (fun hc6 => ?_)
        · have hb9 := some_inj (of_true hb9 hc6)
          refine XL_skipF (bif (bif (!y3) then true else (ltI k2 1)) then true else (ltI 1000 k2)) rfl rfl (by kernel_rfl) hc6 rfl ?_
          refine XL_skipF (bif (bif (!y3) then true else (ltI k2 1)) then true else (ltI 1000 k2)) rfl rfl (by kernel_rfl) hc6 rfl ?_
          refine XL_skipF (bif (bif (!y3) then true else (ltI k2 1)) then true else (ltI 1000 k2)) rfl rfl (by kernel_rfl) hc6 rfl ?_
          refine XL_skipF (bif (bif (!y3) then true else (ltI k2 1)) then true else (ltI 1000 k2)) rfl rfl (by kernel_rfl) hc6 rfl ?_
          refine XL_skipF (bif (bif (!y3) then true else (ltI k2 1)) then true else (ltI 1000 k2)) rfl rfl (by kernel_rfl) hc6 rfl ?_
          refine XL_skipF (bif (bif (!y3) then true else (ltI k2 1)) then true else (ltI 1000 k2)) rfl rfl (by kernel_rfl) hc6 rfl ?_
          refine XL_skipF (bif (bif (!y3) then true else (ltI k2 1)) then true else (ltI 1000 k2)) rfl rfl (by kernel_rfl) hc6 rfl ?_
          refine XL_cons rfl (X_of_Y0 rfl (Y0_pickTe (b := bif (bif (!y3) then true else (ltI k2 1)) then true else (ltI 1000 k2)) (p := true) rfl (by kernel_rfl) hc6 (by kernel_rfl) hb9)) ?_
          refine XL_cons rfl (X_of_Y0 rfl (E_move (Bo b9) rfl (by kernel_rfl))) ?_
          refine XL_split b9 (fun hc10 => ?_) (fun hc10 => ?_)
          · have hb14 := some_inj (of_true hb14 hc10)
            refine XL_skipF (b9) rfl rfl (by kernel_rfl) hc10 rfl ?_
            refine XL_skipF (b9) rfl rfl (by kernel_rfl) hc10 rfl ?_
            refine XL_skipF (b9) rfl rfl (by kernel_rfl) hc10 rfl ?_
            refine XL_skipF (b9) rfl rfl (by kernel_rfl) hc10 rfl ?_
            refine XL_skipF (b9) rfl rfl (by kernel_rfl) hc10 rfl ?_
            refine XL_skipF (b9) rfl rfl (by kernel_rfl) hc10 rfl ?_
            refine XL_skipF (b9) rfl rfl (by kernel_rfl) hc10 rfl ?_
            refine XL_skipF (b9) rfl rfl (by kernel_rfl) hc10 rfl ?_
            refine XL_cons rfl (X_of_Y0 rfl (Y0_pickTe (b := b9) (p := true) rfl (by kernel_rfl) hc10 (by kernel_rfl) hb14)) ?_
            refine XL_nil ?_
            kernel_rfl
          · have hb14 := of_false hb14 hc10
            obtain ⟨y11, hy11, hb14⟩ := of_bind hb14
            obtain ⟨z12, hz12, hb14⟩ := of_bind hb14
            obtain ⟨y13, hy13, hb14⟩ := of_bind hb14
            have hb14 := some_inj hb14
            refine XL_takeC (b9) rfl rfl (by kernel_rfl) hc10 (X_of_Y0 rfl (E_loadn (cs := [Ti f1.1, Ti f1.2.1, Ti f1.2.2]) [Ti f1.1, Ti f1.2.1, Ti f1.2.2] wd36 rfl (by kernel_rfl) (Nat.le_of_ble_eq_true rfl) (by kernel_rfl))) ?_
            refine XL_takeC (b9) rfl rfl (by kernel_rfl) hc10 (X_of_Y1 rfl (Y1_call (s_impl_Form_disc hy11) cf_impl_Form_disc rfl (by kernel_rfl))) ?_
            refine XL_takeC (b9) rfl rfl (by kernel_rfl) hc10 (X_of_Y0 rfl (E_move (I k2) rfl (by kernel_rfl))) ?_
            refine XL_takeC (b9) rfl rfl (by kernel_rfl) hc10 (X_of_Y0 rfl (E_move (I k2) rfl (by kernel_rfl))) ?_
            refine XL_takeC (b9) rfl rfl (by kernel_rfl) hc10 (X_of_Y0 rfl (Y0_mul64 (a := k2) (b := k2) rfl (by kernel_rfl) (by kernel_rfl))) ?_
            refine XL_takeC (b9) rfl rfl (by kernel_rfl) hc10 (X_of_Y0 rfl (Y0_quo64 (a := y11) (b := w64 (k2 * k2)) rfl (by kernel_rfl) (by kernel_rfl) (nz_some hz12))) ?_
            refine XL_takeC (b9) rfl rfl (by kernel_rfl) hc10 (X_of_Y1 rfl (Y1_call (s_impl_isNegativeDisc hy13) cf_impl_isNegativeDisc rfl (by kernel_rfl))) ?_
            refine XL_takeC (b9) rfl rfl (by kernel_rfl) hc10 (X_of_Y0 rfl (Y0_not (b := y13) rfl (by kernel_rfl))) ?_
            refine XL_cons rfl (X_of_Y0 rfl (Y0_pickFe (b := b9) (p := !y13) rfl (by kernel_rfl) hc10 (by kernel_rfl) hb14)) ?_
            refine XL_nil ?_
            kernel_rfl
        · have hb9 := of_false hb9 hc6
          obtain ⟨y7, hy7, hb9⟩ := of_bind hb9
          obtain ⟨z8, hz8, hb9⟩ := of_bind hb9
          have hb9 := some_inj hb9
          refine XL_takeC (bif (bif (!y3) then true else (ltI k2 1)) then true else (ltI 1000 k2)) rfl rfl (by kernel_rfl) hc6 (X_of_Y0 rfl (E_loadn (cs := [Ti f1.1, Ti f1.2.1, Ti f1.2.2]) [Ti f1.1, Ti f1.2.1, Ti f1.2.2] wd36 rfl (by kernel_rfl) (Nat.le_of_ble_eq_true rfl) (by kernel_rfl))) ?_
          refine XL_takeC (bif (bif (!y3) then true else (ltI k2 1)) then true else (ltI 1000 k2)) rfl rfl (by kernel_rfl) hc6 (X_of_Y1 rfl (Y1_call (s_impl_Form_disc hy7) cf_impl_Form_disc rfl (by kernel_rfl))) ?_
          refine XL_takeC (bif (bif (!y3) then true else (ltI k2 1)) then true else (ltI 1000 k2)) rfl rfl (by kernel_rfl) hc6 (X_of_Y0 rfl (E_move (I k2) rfl (by kernel_rfl))) ?_
          refine XL_takeC (bif (bif (!y3) then true else (ltI k2 1)) then true else (ltI 1000 k2)) rfl rfl (by kernel_rfl) hc6 (X_of_Y0 rfl (E_move (I k2) rfl (by kernel_rfl))) ?_
          refine XL_takeC (bif (bif (!y3) then true else (ltI k2 1)) then true else (ltI 1000 k2)) rfl rfl (by kernel_rfl) hc6 (X_of_Y0 rfl (Y0_mul64 (a := k2) (b := k2) rfl (by kernel_rfl) (by kernel_rfl))) ?_
          refine XL_takeC (bif (bif (!y3) then true else (ltI k2 1)) then true else (ltI 1000 k2)) rfl rfl (by kernel_rfl) hc6 (X_of_Y0 rfl (Y0_rem (k := .i64) (a := y7) (b := w64 (k2 * k2)) rfl (by kernel_rfl) (by kernel_rfl) (nz_some hz8))) ?_
          refine XL_takeC (bif (bif (!y3) then true else (ltI k2 1)) then true else (ltI 1000 k2)) rfl rfl (by kernel_rfl) hc6 (X_of_Y0 rfl (Y0_new (k := .i64) (a := Int.tmod y7 (w64 (k2 * k2))) (b := 0) rfl (by kernel_rfl) (by kernel_rfl))) ?_
          refine XL_cons rfl (X_of_Y0 rfl (Y0_pickFe (b := bif (bif (!y3) then true else (ltI k2 1)) then true else (ltI 1000 k2)) (p := !eqI (Int.tmod y7 (w64 (k2 * k2))) 0) rfl (by kernel_rfl) hc6 (by kernel_rfl) hb9)) ?_
          refine XL_cons rfl (X_of_Y0 rfl (E_move (Bo b9) rfl (by kernel_rfl))) ?_
          refine XL_split b9 (fun hc10 => ?_) (fun hc10 => ?_)
          · have hb14 := some_inj (of_true hb14 hc10)
            refine XL_skipF (b9) rfl rfl (by kernel_rfl) hc10 rfl ?_
            refine XL_skipF (b9) rfl rfl (by kernel_rfl) hc10 rfl ?_
            refine XL_skipF (b9) rfl rfl (by kernel_rfl) hc10 rfl ?_
            refine XL_skipF (b9) rfl rfl (by kernel_rfl) hc10 rfl ?_
            refine XL_skipF (b9) rfl rfl (by kernel_rfl) hc10 rfl ?_
            refine XL_skipF (b9) rfl rfl (by kernel_rfl) hc10 rfl ?_
            refine XL_skipF (b9) rfl rfl (by kernel_rfl) hc10 rfl ?_
            refine XL_skipF (b9) rfl rfl (by kernel_rfl) hc10 rfl ?_
            refine XL_cons rfl (X_of_Y0 rfl (Y0_pickTe (b := b9) (p := true) rfl (by kernel_rfl) hc10 (by kernel_rfl) hb14)) ?_
            refine XL_nil ?_
            kernel_rfl
          · have hb14 := of_false hb14 hc10
            obtain ⟨y11, hy11, hb14⟩ := of_bind hb14
            obtain ⟨z12, hz12, hb14⟩ := of_bind hb14
            obtain ⟨y13, hy13, hb14⟩ := of_bind hb14
            have hb14 := some_inj hb14
            refine XL_takeC (b9) rfl rfl (by kernel_rfl) hc10 (X_of_Y0 rfl (E_loadn (cs := [Ti f1.1, Ti f1.2.1, Ti f1.2.2]) [Ti f1.1, Ti f1.2.1, Ti f1.2.2] wd36 rfl (by kernel_rfl) (Nat.le_of_ble_eq_true rfl) (by kernel_rfl))) ?_
            refine XL_takeC (b9) rfl rfl (by kernel_rfl) hc10 (X_of_Y1 rfl (Y1_call (s_impl_Form_disc hy11) cf_impl_Form_disc rfl (by kernel_rfl))) ?_
            refine XL_takeC (b9) rfl rfl (by kernel_rfl) hc10 (X_of_Y0 rfl (E_move (I k2) rfl (by kernel_rfl))) ?_
            refine XL_takeC (b9) rfl rfl (by kernel_rfl) hc10 (X_of_Y0 rfl (E_move (I k2) rfl (by kernel_rfl))) ?_
            refine XL_takeC (b9) rfl rfl (by kernel_rfl) hc10 (X_of_Y0 rfl (Y0_mul64 (a := k2) (b := k2) rfl (by kernel_rfl) (by kernel_rfl))) ?_
            refine XL_takeC (b9) rfl rfl (by kernel_rfl) hc10 (X_of_Y0 rfl (Y0_quo64 (a := y11) (b := w64 (k2 * k2)) rfl (by kernel_rfl) (by kernel_rfl) (nz_some hz12))) ?_
            refine XL_takeC (b9) rfl rfl (by kernel_rfl) hc10 (X_of_Y1 rfl (Y1_call (s_impl_isNegativeDisc hy13) cf_impl_isNegativeDisc rfl (by kernel_rfl))) ?_
            refine XL_takeC (b9) rfl rfl (by kernel_rfl) hc10 (X_of_Y0 rfl (Y0_not (b := y13) rfl (by kernel_rfl))) ?_
            refine XL_cons rfl (X_of_Y0 rfl (Y0_pickFe (b := b9) (p := !y13) rfl (by kernel_rfl) hc10 (by kernel_rfl) hb14)) ?_
            refine XL_nil ?_
            kernel_rfl
      · refine XL_takeC (bif (!y3) then true else (ltI k2 1)) rfl rfl (by kernel_rfl) hc5 (X_of_Y0 rfl (E_move (I k2) rfl (by kernel_rfl))) ?_
        refine XL_takeC (bif (!y3) then true else (ltI k2 1)) rfl rfl (by kernel_rfl) hc5 (X_of_Y0 rfl (Y0_gtw (k := .i64) (a := k2) (b := 1000) rfl (by kernel_rfl) (by kernel_rfl))) ?_
        refine XL_cons rfl (X_of_Y0 rfl (Y0_pick0 (b := bif (!y3) then true else (ltI k2 1)) (p := true) (q := ltI 1000 k2) rfl (by kernel_rfl) hc5 (by kernel_rfl))) ?_
        refine XL_cons rfl (X_of_Y0 rfl (E_move (Bo (bif (bif (!y3) then true else (ltI k2 1)) then true else (ltI 1000 k2))) rfl (by kernel_rfl))) ?_
        refine XL_split (bif (bif (!y3) then true else (ltI k2 1)) then true else (ltI 1000 k2)) (fun hc6 => ?_) (fun hc6 => ?_)
        · have hb9 := some_inj (of_true hb9 hc6)
          refine XL_skipF (bif (bif (!y3) then true else (ltI k2 1)) then true else (ltI 1000 k2)) rfl rfl (by kernel_rfl) hc6 rfl ?_
          refine XL_skipF (bif (bif (!y3) then true else (ltI k2 1)) then true else (ltI 1000 k2)) rfl rfl (by kernel_rfl) hc6 rfl ?_
          refine XL_skipF (bif (bif (!y3) then true else (ltI k2 1)) then true else (ltI 1000 k2)) rfl rfl (by kernel_rfl) hc6 rfl ?_
          refine XL_skipF (bif (bif (!y3) then true else (ltI k2 1)) then true else (ltI 1000 k2)) rfl rfl (by kernel_rfl) hc6 rfl ?_
          refine XL_skipF (bif (bif (!y3) then true else (ltI k2 1)) then true else (ltI 1000 k2)) rfl rfl (by kernel_rfl) hc6 rfl ?_
          refine XL_skipF (bif (bif (!y3) then true else (ltI k2 1)) then true else (ltI 1000 k2)) rfl rfl (by kernel_rfl) hc6 rfl ?_
          refine XL_skipF (bif (bif (!y3) then true else (ltI k2 1)) then true else (ltI 1000 k2)) rfl rfl (by kernel_rfl) hc6 rfl ?_
          refine XL_cons rfl (X_of_Y0 rfl (Y0_pickTe (b := bif (bif (!y3) then true else (ltI k2 1)) then true else (ltI 1000 k2)) (p := true) rfl (by kernel_rfl) hc6 (by kernel_rfl) hb9)) ?_
          refine XL_cons rfl (X_of_Y0 rfl (E_move (Bo b9) rfl (by kernel_rfl))) ?_
          refine XL_split b9 (fun hc10 => ?_) (fun hc10 => ?_)
          · have hb14 := some_inj (of_true hb14 hc10)
            refine XL_skipF (b9) rfl rfl (by kernel_rfl) hc10 rfl ?_
            refine XL_skipF (b9) rfl rfl (by kernel_rfl) hc10 rfl ?_
            refine XL_skipF (b9) rfl rfl (by kernel_rfl) hc10 rfl ?_
            refine XL_skipF (b9) rfl rfl (by kernel_rfl) hc10 rfl ?_
            refine XL_skipF (b9) rfl rfl (by kernel_rfl) hc10 rfl ?_
            refine XL_skipF (b9) rfl rfl (by kernel_rfl) hc10 rfl ?_
            refine XL_skipF (b9) rfl rfl (by kernel_rfl) hc10 rfl ?_
            refine XL_skipF (b9) rfl rfl (by kernel_rfl) hc10 rfl ?_
            refine XL_cons rfl (X_of_Y0 rfl (Y0_pickTe (b := b9) (p := true) rfl (by kernel_rfl) hc10 (by kernel_rfl) hb14)) ?_
            refine XL_nil ?_
            kernel_rfl
          · have hb14 := of_false hb14 hc10
            obtain ⟨y11, hy11, hb14⟩ := of_bind hb14
            obtain ⟨z12, hz12, hb14⟩ := of_bind hb14
            obtain ⟨y13, hy13, hb14⟩ := of_bind hb14
            have hb14 := some_inj hb14
            refine XL_takeC (b9) rfl rfl (by kernel_rfl) hc10 (X_of_Y0 rfl (E_loadn (cs := [Ti f1.1, Ti f1.2.1, Ti f1.2.2]) [Ti f1.1, Ti f1.2.1, Ti f1.2.2] wd36 rfl (by kernel_rfl) (Nat.le_of_ble_eq_true rfl) (by kernel_rfl))) ?_
            refine XL_takeC (b9) rfl rfl (by kernel_rfl) hc10 (X_of_Y1 rfl (Y1_call (s_impl_Form_disc hy11) cf_impl_Form_disc rfl (by kernel_rfl))) ?_
            refine XL_takeC (b9) rfl rfl (by kernel_rfl) hc10 (X_of_Y0 rfl (E_move (I k2) rfl (by kernel_rfl))) ?_
            refine XL_takeC (b9) rfl rfl (by kernel_rfl) hc10 (X_of_Y0 rfl (E_move (I k2) rfl (by kernel_rfl))) ?_
            refine XL_takeC (b9) rfl rfl (by kernel_rfl) hc10 (X_of_Y0 rfl (Y0_mul64 (a := k2) (b := k2) rfl (by kernel_rfl) (by kernel_rfl))) ?_
            refine XL_takeC (b9) rfl rfl (by kernel_rfl) hc10 (X_of_Y0 rfl (Y0_quo64 (a := y11) (b := w64 (k2 * k2)) rfl (by kernel_rfl) (by kernel_rfl) (nz_some hz12))) ?_
            refine XL_takeC (b9) rfl rfl (by kernel_rfl) hc10 (X_of_Y1 rfl (Y1_call (s_impl_isNegativeDisc hy13) cf_impl_isNegativeDisc rfl (by kernel_rfl))) ?_
            refine XL_takeC (b9) rfl rfl (by kernel_rfl) hc10 (X_of_Y0 rfl (Y0_not (b := y13) rfl (by kernel_rfl))) ?_
            refine XL_cons rfl (X_of_Y0 rfl (Y0_pickFe (b := b9) (p := !y13) rfl (by kernel_rfl) hc10 (by kernel_rfl) hb14)) ?_
            refine XL_nil ?_
            kernel_rfl
        · have hb9 := of_false hb9 hc6
          obtain ⟨y7, hy7, hb9⟩ := of_bind hb9
          obtain ⟨z8, hz8, hb9⟩ := of_bind hb9
          have hb9 := some_inj hb9
          refine XL_takeC (bif (bif (!y3) then true else (ltI k2 1)) then true else (ltI 1000 k2)) rfl rfl (by kernel_rfl) hc6 (X_of_Y0 rfl (E_loadn (cs := [Ti f1.1, Ti f1.2.1, Ti f1.2.2]) [Ti f1.1, Ti f1.2.1, Ti f1.2.2] wd36 rfl (by kernel_rfl) (Nat.le_of_ble_eq_true rfl) (by kernel_rfl))) ?_
          refine XL_takeC (bif (bif (!y3) then true else (ltI k2 1)) then true else (ltI 1000 k2)) rfl rfl (by kernel_rfl) hc6 (X_of_Y1 rfl (Y1_call (s_impl_Form_disc hy7) cf_impl_Form_disc rfl (by kernel_rfl))) ?_
          refine XL_takeC (bif (bif (!y3) then true else (ltI k2 1)) then true else (ltI 1000 k2)) rfl rfl (by kernel_rfl) hc6 (X_of_Y0 rfl (E_move (I k2) rfl (by kernel_rfl))) ?_
          refine XL_takeC (bif (bif (!y3) then true else (ltI k2 1)) then true else (ltI 1000 k2)) rfl rfl (by kernel_rfl) hc6 (X_of_Y0 rfl (E_move (I k2) rfl (by kernel_rfl))) ?_
          refine XL_takeC (bif (bif (!y3) then true else (ltI k2 1)) then true else (ltI 1000 k2)) rfl rfl (by kernel_rfl) hc6 (X_of_Y0 rfl (Y0_mul64 (a := k2) (b := k2) rfl (by kernel_rfl) (by kernel_rfl))) ?_
          refine XL_takeC (bif (bif (!y3) then true else (ltI k2 1)) then true else (ltI 1000 k2)) rfl rfl (by kernel_rfl) hc6 (X_of_Y0 rfl (Y0_rem (k := .i64) (a := y7) (b := w64 (k2 * k2)) rfl (by kernel_rfl) (by kernel_rfl) (nz_some hz8))) ?_
          refine XL_takeC (bif (bif (!y3) then true else (ltI k2 1)) then true else (ltI 1000 k2)) rfl rfl (by kernel_rfl) hc6 (X_of_Y0 rfl (Y0_new (k := .i64) (a := Int.tmod y7 (w64 (k2 * k2))) (b := 0) rfl (by kernel_rfl) (by kernel_rfl))) ?_
          refine XL_cons rfl (X_of_Y0 rfl (Y0_pickFe (b := bif (bif (!y3) then true else (ltI k2 1)) then true else (ltI 1000 k2)) (p := !eqI (Int.tmod y7 (w64 (k2 * k2))) 0) rfl (by kernel_rfl) hc6 (by kernel_rfl) hb9)) ?_
          refine XL_cons rfl (X_of_Y0 rfl (E_move (Bo b9) rfl (by kernel_rfl))) ?_
          refine XL_split b9 (fun hc10 => ?_) (fun hc10 => ?_)
          · have hb14 := some_inj (of_true hb14 hc10)
            refine XL_skipF (b9) rfl rfl (by kernel_rfl) hc10 rfl ?_
            refine XL_skipF (b9) rfl rfl (by kernel_rfl) hc10 rfl ?_
            refine XL_skipF (b9) rfl rfl (by kernel_rfl) hc10 rfl ?_
            refine XL_skipF (b9) rfl rfl (by kernel_rfl) hc10 rfl ?_
            refine XL_skipF (b9) rfl rfl (by kernel_rfl) hc10 rfl ?_
            refine XL_skipF (b9) rfl rfl (by kernel_rfl) hc10 rfl ?_
            refine XL_skipF (b9) rfl rfl (by kernel_rfl) hc10 rfl ?_
            refine XL_skipF (b9) rfl rfl (by kernel_rfl) hc10 rfl ?_
            refine XL_cons rfl (X_of_Y0 rfl (Y0_pickTe (b := b9) (p := true) rfl (by kernel_rfl) hc10 (by kernel_rfl) hb14)) ?_
            refine XL_nil ?_
            kernel_rfl
          · have hb14 := of_false hb14 hc10
            obtain ⟨y11, hy11, hb14⟩ := of_bind hb14
            obtain ⟨z12, hz12, hb14⟩ := of_bind hb14
            obtain ⟨y13, hy13, hb14⟩ := of_bind hb14
            have hb14 := some_inj hb14
            refine XL_takeC (b9) rfl rfl (by kernel_rfl) hc10 (X_of_Y0 rfl (E_loadn (cs := [Ti f1.1, Ti f1.2.1, Ti f1.2.2]) [Ti f1.1, Ti f1.2.1, Ti f1.2.2] wd36 rfl (by kernel_rfl) (Nat.le_of_ble_eq_true rfl) (by kernel_rfl))) ?_
            refine XL_takeC (b9) rfl rfl (by kernel_rfl) hc10 (X_of_Y1 rfl (Y1_call (s_impl_Form_disc hy11) cf_impl_Form_disc rfl (by kernel_rfl))) ?_
            refine XL_takeC (b9) rfl rfl (by kernel_rfl) hc10 (X_of_Y0 rfl (E_move (I k2) rfl (by kernel_rfl))) ?_
            refine XL_takeC (b9) rfl rfl (by kernel_rfl) hc10 (X_of_Y0 rfl (E_move (I k2) rfl (by kernel_rfl))) ?_
            refine XL_takeC (b9) rfl rfl (by kernel_rfl) hc10 (X_of_Y0 rfl (Y0_mul64 (a := k2) (b := k2) rfl (by kernel_rfl) (by kernel_rfl))) ?_
            refine XL_takeC (b9) rfl rfl (by kernel_rfl) hc10 (X_of_Y0 rfl (Y0_quo64 (a := y11) (b := w64 (k2 * k2)) rfl (by kernel_rfl) (by kernel_rfl) (nz_some hz12))) ?_
            refine XL_takeC (b9) rfl rfl (by kernel_rfl) hc10 (X_of_Y1 rfl (Y1_call (s_impl_isNegativeDisc hy13) cf_impl_isNegativeDisc rfl (by kernel_rfl))) ?_
            refine XL_takeC (b9) rfl rfl (by kernel_rfl) hc10 (X_of_Y0 rfl (Y0_not (b := y13) rfl (by kernel_rfl))) ?_
            refine XL_cons rfl (X_of_Y0 rfl (Y0_pickFe (b := b9) (p := !y13) rfl (by kernel_rfl) hc10 (by kernel_rfl) hb14)) ?_
            refine XL_nil ?_
            kernel_rfl
  refine V_cond rfl (fun hc15 => ?_) (fun hc15 => ?_)
  · have h := of_true h hc15
    refine V_sreg [false, false, false, false, true, true, false, false, false, false, false, false, false, false, false, false, false, false, false, false, false, false, false, false, false, false, false, false, false, false, false, false, false, false, false, false, false, false, false, false, false, false, false, false, false, false, false, false, false, false, false, false, false, false, false, false, false] [32] (s1 := ⟨[.bot, .bot, .bot, .bot, .pt 32 0, Bo false, .bot, .bot, .bot, .bot, .bot, .bot, .bot, .bot, .bot, .bot, .bot, .bot, .bot, .bot, .bot, .bot, .bot, .bot, .bot, .bot, .bot, .bot, .bot, .bot, .bot, .bot, .bot, .bot, .bot, .bot, .bot, .bot, .bot, .bot, .bot, .bot, .bot, .bot, .bot, .bot, .bot, .bot, .bot, .bot, .bot, .bot, .bot, .bot, .bot, .bot, .bot], [(32, .box [Ti 0, Ti 0, Ti 0])]⟩) ?_ ?_
    · refine XL_cons rfl (X_of_Y0 rfl (Y0_build (cs := [Ti 0, Ti 0, Ti 0]) pl36 bt36 rfl rfl (by kernel_rfl))) ?_
      refine XL_cons rfl (E_store (id := 32) (off := 0) (cs := [Ti 0, Ti 0, Ti 0]) (vc := [Ti 0, Ti 0, Ti 0]) [Ti 0, Ti 0, Ti 0] rfl rfl (by kernel_rfl) (by kernel_rfl) (by kernel_rfl) sz36 (Nat.le_of_ble_eq_true rfl) (by kernel_rfl)) ?_
      refine XL_cons rfl (X_of_Y0 rfl (E_assign (Bo false) rfl (by kernel_rfl))) ?_
      refine XL_nil ?_
      kernel_rfl
    refine V_ret ?_
    obtain rfl := some_inj h
    show Post _ _ _ _ _
    exact ⟨.inr rfl, rfl, rfl, rfl⟩
  · have h := of_false h hc15
    refine V_skip ?_
    show V _ _ _ _
    obtain ⟨y16, hy16, h⟩ := of_bind h
    refine V_sreg [false, true, false, false, true, false, true, false, false, false, false, false, false, false, false, false, false, false, false, false, false, false, false, false, false, false, false, false, false, false, false, false, false, false, false, false, false, false, false, false, false, false, false, false, false, false, false, false, false, false, false, false, false, false, false, false, false] [48, 32] (s1 := ⟨[.bot, I k2, .bot, .bot, .pt 32 0, .bot, .pt 48 0, .bot, .bot, .bot, .bot, .bot, .bot, .bot, .bot, .bot, .bot, .bot, .bot, .bot, .bot, .bot, .bot, .bot, .bot, .bot, .bot, .bot, .bot, .bot, .bot, .bot, .bot, .bot, .bot, .bot, .bot, .bot, .bot, .bot, .bot, .bot, .bot, .bot, .bot, .bot, .bot, .bot, .bot, .bot, .bot, .bot, .bot, .bot, .bot, .bot, .bot], [(48, .box [Ti y16.1, Ti y16.2.1, Ti y16.2.2]), (32, .box [Ti 0, Ti 0, Ti 0])]⟩) ?_ ?_
    · refine XL_cons rfl (X_of_Y0 rfl (E_loadn (cs := [Ti f1.1, Ti f1.2.1, Ti f1.2.2]) [Ti f1.1, Ti f1.2.1, Ti f1.2.2] wd36 rfl (by kernel_rfl) (Nat.le_of_ble_eq_true rfl) (by kernel_rfl))) ?_
      refine XL_cons rfl (X_of_Y1 rfl (Y1_call (s_impl_reduced hy16) cf_impl_reduced rfl (by kernel_rfl))) ?_
      refine XL_cons rfl (X_of_Y1 rfl (Y1_alloc (z := zv36) rfl zf36 rfl)) ?_
      refine XL_cons rfl (E_store (id := 48) (off := 0) (cs := [Ti 0, Ti 0, Ti 0]) (vc := [Ti y16.1, Ti y16.2.1, Ti y16.2.2]) [Ti y16.1, Ti y16.2.1, Ti y16.2.2] rfl rfl (by kernel_rfl) (by kernel_rfl) (by kernel_rfl) sz36 (Nat.le_of_ble_eq_true rfl) (by kernel_rfl)) ?_
      refine XL_nil ?_
      kernel_rfl
    refine V_seq ?_
    obtain ⟨y17, hy17, h⟩ := of_bind h
    refine V_sreg [false, false, false, false, true, false, true, false, false, false, false, false, false, false, false, false, false, false, false, false, false, false, false, false, false, false, false, false, false, false, false, false, false, false, false, false, false, false, false, false, false, false, false, true, true, true, false, false, false, false, false, false, false, false, false, false, false] [344, 48, 32] (s1 := ⟨[.bot, .bot, .bot, .bot, .pt 32 0, .bot, .pt 48 0, .bot, .bot, .bot, .bot, .bot, .bot, .bot, .bot, .bot, .bot, .bot, .bot, .bot, .bot, .bot, .bot, .bot, .bot, .bot, .bot, .bot, .bot, .bot, .bot, .bot, .bot, .bot, .bot, .bot, .bot, .bot, .bot, .bot, .bot, .bot, .bot, .ow 344, I ((y17.length : Int)), I 0, .bot, .bot, .bot, .bot, .bot, .bot, .bot, .bot, .bot, .bot, .bot], [(344, .arr 3 1 (y17.map c3)), (48, .box [Ti y16.1, Ti y16.2.1, Ti y16.2.2]), (32, .box [Ti 0, Ti 0, Ti 0])]⟩) ?_ ?_
    · refine XL_cons rfl (X_of_Y0 rfl (E_move (I k2) rfl (by kernel_rfl))) ?_
      refine XL_cons rfl (X_of_Y1 rfl (Y1_call (s_impl_factors hy17) cf_impl_factors rfl (by kernel_rfl))) ?_
      refine XL_cons rfl (X_of_Y0 rfl (Y0_lenM (c := c3) (xs := y17) Try.underlying25 rfl (by kernel_rfl))) ?_
      refine XL_cons rfl (X_of_Y0 rfl (E_move (I 0) rfl (by kernel_rfl))) ?_
      refine XL_nil ?_
      kernel_rfl
    obtain ⟨o23, hLo23, h⟩ := of_bind h
    refine V_toK [false, false, false, false, true, false, true, false, false, false, false, false, false, false, false, false, false, false, false, false, false, false, false, false, false, false, false, false, false, false, false, false, false, false, false, false, false, false, false, false, false, false, false, false, false, false, false, false, false, false, false, false, false, false, false, false, false] [48, 32] (s1 := ⟨[.bot, .bot, .bot, .bot, .pt 32 0, .bot, .pt 48 0, .bot, .bot, .bot, .bot, .bot, .bot, .bot, .bot, .bot, .bot, .bot, .bot, .bot, .bot, .bot, .bot, .bot, .bot, .bot, .bot, .bot, .bot, .bot, .bot, .bot, .bot, .bot, .bot, .bot, .bot, .bot, .bot, .bot, .bot, .bot, .bot, .bot, .bot, .bot, .bot, .bot, .bot, .bot, .bot, .bot, .bot, .bot, .bot, .bot, .bot], [(48, .box [Ti o23.1, Ti o23.2.1, Ti o23.2.2]), (32, .box [Ti 0, Ti 0, Ti 0])]⟩) ?_ ?_
    · clear h
      refine V_block (V_loop (fun n s => ∃ (t18 : Int) (f19 : Int) (f20 : Int) (f21 : Int), s.keep [false, false, false, false, true, false, true, false, false, false, false, false, false, false, false, false, false, false, false, false, false, false, false, false, false, false, false, false, false, false, false, false, false, false, false, false, false, false, false, false, false, false, false, true, true, true, false, false, false, false, false, false, false, false, false, false, false] [344, 48, 32] = (⟨[.bot, .bot, .bot, .bot, .pt 32 0, .bot, .pt 48 0, .bot, .bot, .bot, .bot, .bot, .bot, .bot, .bot, .bot, .bot, .bot, .bot, .bot, .bot, .bot, .bot, .bot, .bot, .bot, .bot, .bot, .bot, .bot, .bot, .bot, .bot, .bot, .bot, .bot, .bot, .bot, .bot, .bot, .bot, .bot, .bot, .ow 344, I ((y17.length : Int)), I t18, .bot, .bot, .bot, .bot, .bot, .bot, .bot, .bot, .bot, .bot, .bot], [(344, .arr 3 1 (y17.map c3)), (48, .box [Ti f19, Ti f20, Ti f21]), (32, .box [Ti 0, Ti 0, Ti 0])]⟩ : St) ∧ r_impl_DescendTo_L22 y17 n t18 f19 f20 f21 = some o23) FU ⟨_, _, _, _,  by rfl, hLo23⟩ ?_)
      clear hLo23
      rintro n s ⟨t18, f19, f20, f21, hs, h⟩
      refine V_keep _ _ hs ?_
      clear hs
      cases n with
      | zero => cases h
      | succ n =>
        rw [r_impl_DescendTo_L22] at h
        refine V_sreg [false, false, false, false, true, false, true, false, false, false, false, false, false, false, false, false, false, false, false, false, false, false, false, false, false, false, false, false, false, false, false, false, false, false, false, false, false, false, false, false, false, false, false, true, true, true, true, false, false, false, false, false, false, false, false, false, false] [344, 48, 32] (s1 := ⟨[.bot, .bot, .bot, .bot, .pt 32 0, .bot, .pt 48 0, .bot, .bot, .bot, .bot, .bot, .bot, .bot, .bot, .bot, .bot, .bot, .bot, .bot, .bot, .bot, .bot, .bot, .bot, .bot, .bot, .bot, .bot, .bot, .bot, .bot, .bot, .bot, .bot, .bot, .bot, .bot, .bot, .bot, .bot, .bot, .bot, .ow 344, I ((y17.length : Int)), I t18, Bo (ltI t18 ((y17.length : Int))), .bot, .bot, .bot, .bot, .bot, .bot, .bot, .bot, .bot, .bot], [(344, .arr 3 1 (y17.map c3)), (48, .box [Ti f19, Ti f20, Ti f21]), (32, .box [Ti 0, Ti 0, Ti 0])]⟩) ?_ ?_
        · refine XL_cons rfl (X_of_Y0 rfl (Y0_ltw (k := .i64) (a := t18) (b := (y17.length : Int)) rfl (by kernel_rfl) (by kernel_rfl))) ?_
          refine XL_nil ?_
          kernel_rfl
        refine V_seq ?_
        refine V_cond rfl (fun hc24 => ?_) (fun hc24 => ?_)
        · have h := of_true h hc24
          refine V_skip ?_
          show V _ _ _ _
          refine V_seq ?_
          refine V_block ?_
          obtain ⟨e25, he25, h⟩ := of_bind h
          obtain ⟨e26, he26, h⟩ := of_bind h
          refine V_sreg [false, false, false, false, true, false, true, false, true, false, false, false, false, false, false, false, false, false, false, false, false, false, false, false, false, false, false, false, false, false, false, false, false, false, false, false, false, false, false, false, false, false, false, true, true, true, false, false, false, false, false, false, false, false, false, false, false] [344, 48, 32] (s1 := ⟨[.bot, .bot, .bot, .bot, .pt 32 0, .bot, .pt 48 0, .bot, I e26, .bot, .bot, .bot, .bot, .bot, .bot, .bot, .bot, .bot, .bot, .bot, .bot, .bot, .bot, .bot, .bot, .bot, .bot, .bot, .bot, .bot, .bot, .bot, .bot, .bot, .bot, .bot, .bot, .bot, .bot, .bot, .bot, .bot, .bot, .ow 344, I ((y17.length : Int)), I t18, .bot, .bot, .bot, .bot, .bot, .bot, .bot, .bot, .bot, .bot, .bot], [(344, .arr 3 1 (y17.map c3)), (48, .box [Ti f19, Ti f20, Ti f21]), (32, .box [Ti 0, Ti 0, Ti 0])]⟩) ?_ ?_
          · refine XL_cons rfl (X_of_Y0 rfl (Y0_idxoM (c := c3) (xs := y17) (v := e25) (id := 344) (T := 3) (sz := 1) (n := t18) Try.underlying25 sz3 rfl (by kernel_rfl) (by kernel_rfl) (by kernel_rfl) he25)) ?_
            refine XL_cons rfl (X_of_Y0 rfl (Y0_loado1 (c := c3) (xs := y17) (v := e26) (id := 344) (sz := 1) (T := 3) (off := 0) (n := t18) (d := Ti e26) (ds := []) sc3 rfl (by kernel_rfl) (by kernel_rfl) he26 (by kernel_rfl))) ?_
            refine XL_cons rfl (X_of_Y0 rfl (E_assign (I e26) rfl (by kernel_rfl))) ?_
            refine XL_nil ?_
            kernel_rfl
          obtain ⟨y27, hy27, h⟩ := of_bind h
          refine V_reg [false, false, false, false, true, false, true, false, false, false, false, false, false, false, false, false, false, false, false, false, false, false, false, false, false, false, false, false, false, false, false, false, false, false, false, false, false, false, false, false, false, false, false, true, true, true, false, false, false, false, false, false, false, false, false, false, false] [344, 48, 32] (s1 := ⟨[.bot, .bot, .bot, .bot, .pt 32 0, .bot, .pt 48 0, .bot, .bot, .bot, .bot, .bot, .bot, .bot, .bot, .bot, .bot, .bot, .bot, .bot, .bot, .bot, .bot, .bot, .bot, .bot, .bot, .bot, .bot, .bot, .bot, .bot, .bot, .bot, .bot, .bot, .bot, .bot, .bot, .bot, .bot, .bot, .bot, .ow 344, I ((y17.length : Int)), I t18, .bot, .bot, .bot, .bot, .bot, .bot, .bot, .bot, .bot, .bot, .bot], [(344, .arr 3 1 (y17.map c3)), (48, .box [Ti y27.1.1, Ti y27.1.2.1, Ti y27.1.2.2]), (32, .box [Ti 0, Ti 0, Ti 0])]⟩) ?_ ?_
          · refine XL_cons rfl (X_of_Y0 rfl (E_loadn (cs := [Ti f19, Ti f20, Ti f21]) [Ti f19, Ti f20, Ti f21] wd36 rfl (by kernel_rfl) (Nat.le_of_ble_eq_true rfl) (by kernel_rfl))) ?_
            refine XL_cons rfl (X_of_Y0 rfl (E_move (I e26) rfl (by kernel_rfl))) ?_
            refine XL_cons rfl (X_of_Y1 rfl (Y1_call (s_impl_descend hy27) cf_impl_descend rfl (by kernel_rfl))) ?_
            refine XL_cons rfl (X_of_Y0 rfl (E_move (.tc (.ag [Ti y27.1.1, Ti y27.1.2.1, Ti y27.1.2.2]) (.tc (.ag [Ti y27.2.1, Ti y27.2.2.1, Ti y27.2.2.2.1, Ti y27.2.2.2.2]) .tn)) rfl (by kernel_rfl))) ?_
            refine XL_cons rfl (X_of_Y0 rfl (E_ext (n := 0) (.ag [Ti y27.1.1, Ti y27.1.2.1, Ti y27.1.2.2]) (.tc (.ag [Ti y27.2.1, Ti y27.2.2.1, Ti y27.2.2.2.1, Ti y27.2.2.2.2]) .tn) (.ag [Ti y27.1.1, Ti y27.1.2.1, Ti y27.1.2.2]) rfl (by kernel_rfl) (by kernel_rfl) (by intro hh; cases hh))) ?_
            refine XL_cons rfl (X_of_Y0 rfl (E_ext (n := 1) (.ag [Ti y27.1.1, Ti y27.1.2.1, Ti y27.1.2.2]) (.tc (.ag [Ti y27.2.1, Ti y27.2.2.1, Ti y27.2.2.2.1, Ti y27.2.2.2.2]) .tn) (.ag [Ti y27.2.1, Ti y27.2.2.1, Ti y27.2.2.2.1, Ti y27.2.2.2.2]) rfl (by kernel_rfl) (by kernel_rfl) (by intro hh; cases hh))) ?_
            refine XL_cons rfl (E_store (id := 48) (off := 0) (cs := [Ti f19, Ti f20, Ti f21]) (vc := [Ti y27.1.1, Ti y27.1.2.1, Ti y27.1.2.2]) [Ti y27.1.1, Ti y27.1.2.1, Ti y27.1.2.2] rfl rfl (by kernel_rfl) (by kernel_rfl) (by kernel_rfl) sz36 (Nat.le_of_ble_eq_true rfl) (by kernel_rfl)) ?_
            refine XL_nil ?_
            kernel_rfl
          show V _ _ _ _
          obtain ⟨t28, ht28, h⟩ := of_sI h
          refine V_reg [false, false, false, false, true, false, true, false, false, false, false, false, false, false, false, false, false, false, false, false, false, false, false, false, false, false, false, false, false, false, false, false, false, false, false, false, false, false, false, false, false, false, false, true, true, true, false, false, false, false, false, false, false, false, false, false, false] [344, 48, 32] (s1 := ⟨[.bot, .bot, .bot, .bot, .pt 32 0, .bot, .pt 48 0, .bot, .bot, .bot, .bot, .bot, .bot, .bot, .bot, .bot, .bot, .bot, .bot, .bot, .bot, .bot, .bot, .bot, .bot, .bot, .bot, .bot, .bot, .bot, .bot, .bot, .bot, .bot, .bot, .bot, .bot, .bot, .bot, .bot, .bot, .bot, .bot, .ow 344, I ((y17.length : Int)), I t28, .bot, .bot, .bot, .bot, .bot, .bot, .bot, .bot, .bot, .bot, .bot], [(344, .arr 3 1 (y17.map c3)), (48, .box [Ti y27.1.1, Ti y27.1.2.1, Ti y27.1.2.2]), (32, .box [Ti 0, Ti 0, Ti 0])]⟩) ?_ ?_
          · refine XL_cons rfl (X_of_Y0 rfl (Y0_add64 (a := t18) (b := 1) rfl (by kernel_rfl) (by kernel_rfl))) ?_
            refine XL_cons rfl (X_of_Y0 rfl (E_move (I (w64 (t18 + 1))) rfl (by kernel_rfl))) ?_
            refine XL_nil ?_
            subst ht28
            kernel_rfl
          exact ⟨n, Nat.lt_succ_self n, _, _, _, _,  by rfl, h⟩
        · have h := of_false h hc24
          refine V_exit ?_
          obtain rfl := some_inj h
          show St.keep _ _ _ = _
          rfl
    show V _ _ _ _
    refine V_sreg [false, false, false, false, true, true, false, false, false, false, false, false, false, false, false, false, false, false, false, false, false, false, false, false, false, false, false, false, false, false, false, false, false, false, false, false, false, false, false, false, false, false, false, false, false, false, false, false, false, false, false, false, false, false, false, false, false] [32] (s1 := ⟨[.bot, .bot, .bot, .bot, .pt 32 0, Bo true, .bot, .bot, .bot, .bot, .bot, .bot, .bot, .bot, .bot, .bot, .bot, .bot, .bot, .bot, .bot, .bot, .bot, .bot, .bot, .bot, .bot, .bot, .bot, .bot, .bot, .bot, .bot, .bot, .bot, .bot, .bot, .bot, .bot, .bot, .bot, .bot, .bot, .bot, .bot, .bot, .bot, .bot, .bot, .bot, .bot, .bot, .bot, .bot, .bot, .bot, .bot], [(32, .box [Ti o23.1, Ti o23.2.1, Ti o23.2.2])]⟩) ?_ ?_
    · refine XL_cons rfl (X_of_Y0 rfl (E_loadn (cs := [Ti o23.1, Ti o23.2.1, Ti o23.2.2]) [Ti o23.1, Ti o23.2.1, Ti o23.2.2] wd36 rfl (by kernel_rfl) (Nat.le_of_ble_eq_true rfl) (by kernel_rfl))) ?_
      refine XL_cons rfl (E_store (id := 32) (off := 0) (cs := [Ti 0, Ti 0, Ti 0]) (vc := [Ti o23.1, Ti o23.2.1, Ti o23.2.2]) [Ti o23.1, Ti o23.2.1, Ti o23.2.2] rfl rfl (by kernel_rfl) (by kernel_rfl) (by kernel_rfl) sz36 (Nat.le_of_ble_eq_true rfl) (by kernel_rfl)) ?_
      refine XL_cons rfl (X_of_Y0 rfl (E_assign (Bo true) rfl (by kernel_rfl))) ?_
      refine XL_nil ?_
      kernel_rfl
    refine V_ret ?_
    obtain rfl := some_inj h
    show Post _ _ _ _ _
    exact ⟨.inr rfl, rfl, rfl, rfl⟩
theorem cf_laws_FnExactDescendTo : ∀ args w, (callFunc 10 args).run Try.prog w = .ok (.enter 10 args) w := run_callFunc Try.func10 (by kernel_rfl) (by kernel_rfl)
set_option maxRecDepth 100000 in
set_option maxHeartbeats 400000 in
theorem s_laws_FnExactDescendTo {aF1 : (Int × Int × Int)} {aK2 : Int} {r : Bool} (h : r_laws_FnExactDescendTo aF1 aK2 = some r) : CallS Try.prog 10 [.ag [Ti aF1.1, Ti aF1.2.1, Ti aF1.2.2], I aK2] (Bo r) [] := by
  refine CallS_of_text (rs := [.t 4]) (vs := [.tmp 4]) Try.func10 rfl rfl (.cons rfl FitsL.nil) (by decide) 32 rfl ?_
  unfold r_laws_FnExactDescendTo at h
  show V _ _ ⟨[.ag [Ti aF1.1, Ti aF1.2.1, Ti aF1.2.2], I aK2, .bot, .bot, .bot, .bot, .bot, .bot, .bot, .bot, .bot, .bot, .bot, .bot, .bot, .bot, .bot, .bot, .bot, .bot, .bot, .bot, .bot, .bot, .bot, .bot, .bot, .bot, .bot, .bot, .bot, .bot], []⟩ _
  refine V_sreg [false, true, true, false, false, false, false, false, false, false, false, false, false, false, false, false, false, false, false, false, false, false, false, false, false, false, false, false, false, false, false, false] [16] (s1 := ⟨[.bot, I aK2, .pt 16 0, .bot, .bot, .bot, .bot, .bot, .bot, .bot, .bot, .bot, .bot, .bot, .bot, .bot, .bot, .bot, .bot, .bot, .bot, .bot, .bot, .bot, .bot, .bot, .bot, .bot, .bot, .bot, .bot, .bot], [(16, .box [Ti aF1.1, Ti aF1.2.1, Ti aF1.2.2])]⟩) ?_ ?_
  · refine XL_cons rfl (X_of_Y1 rfl (Y1_box (cs := [Ti aF1.1, Ti aF1.2.1, Ti aF1.2.2]) rfl (by kernel_rfl))) ?_
    refine XL_cons rfl (X_of_Y0 rfl (E_assign (Bo false) rfl (by kernel_rfl))) ?_
    refine XL_nil ?_
    kernel_rfl
  obtain ⟨y3, hy3, h⟩ := of_bind h
  obtain ⟨y4, hy4, h⟩ := of_bind h
  refine V_sreg [false, true, true, false, false, true, true, false, false, false, false, false, false, false, false, false, false, false, false, false, false, false, false, false, false, false, false, false, false, false, false, false] [40, 16] (s1 := ⟨[.bot, I aK2, .pt 16 0, .bot, .bot, .pt 40 0, Bo y4.2, .bot, .bot, .bot, .bot, .bot, .bot, .bot, .bot, .bot, .bot, .bot, .bot, .bot, .bot, .bot, .bot, .bot, .bot, .bot, .bot, .bot, .bot, .bot, .bot, .bot], [(40, .box [Ti y4.1.1, Ti y4.1.2.1, Ti y4.1.2.2]), (16, .box [Ti aF1.1, Ti aF1.2.1, Ti aF1.2.2])]⟩) ?_ ?_
  · refine XL_cons rfl (X_of_Y0 rfl (E_loadn (cs := [Ti aF1.1, Ti aF1.2.1, Ti aF1.2.2]) [Ti aF1.1, Ti aF1.2.1, Ti aF1.2.2] wd31 rfl (by kernel_rfl) (Nat.le_of_ble_eq_true rfl) (by kernel_rfl))) ?_
    refine XL_cons rfl (X_of_Y1 rfl (Y1_call (s_laws_toForm hy3) cf_laws_toForm rfl (by kernel_rfl))) ?_
    refine XL_cons rfl (X_of_Y0 rfl (E_move (I aK2) rfl (by kernel_rfl))) ?_
    refine XL_cons rfl (X_of_Y1 rfl (Y1_call (s_spec_DescendTo hy4) cf_spec_DescendTo rfl (by kernel_rfl))) ?_
    refine XL_cons rfl (X_of_Y0 rfl (E_move (.tc (.ag [Ti y4.1.1, Ti y4.1.2.1, Ti y4.1.2.2]) (.tc (Bo y4.2) .tn)) rfl (by kernel_rfl))) ?_
    refine XL_cons rfl (X_of_Y0 rfl (E_ext (n := 0) (.ag [Ti y4.1.1, Ti y4.1.2.1, Ti y4.1.2.2]) (.tc (Bo y4.2) .tn) (.ag [Ti y4.1.1, Ti y4.1.2.1, Ti y4.1.2.2]) rfl (by kernel_rfl) (by kernel_rfl) (by intro hh; cases hh))) ?_
    refine XL_cons rfl (X_of_Y0 rfl (E_ext (n := 1) (.ag [Ti y4.1.1, Ti y4.1.2.1, Ti y4.1.2.2]) (.tc (Bo y4.2) .tn) (Bo y4.2) rfl (by kernel_rfl) (by kernel_rfl) (by intro hh; cases hh))) ?_
    refine XL_cons rfl (X_of_Y1 rfl (Y1_alloc (z := zv36) rfl zf36 rfl)) ?_
    refine XL_cons rfl (E_store (id := 40) (off := 0) (cs := [Ti 0, Ti 0, Ti 0]) (vc := [Ti y4.1.1, Ti y4.1.2.1, Ti y4.1.2.2]) [Ti y4.1.1, Ti y4.1.2.1, Ti y4.1.2.2] rfl rfl (by kernel_rfl) (by kernel_rfl) (by kernel_rfl) sz36 (Nat.le_of_ble_eq_true rfl) (by kernel_rfl)) ?_
    refine XL_cons rfl (X_of_Y0 rfl (E_assign (Bo y4.2) rfl (by kernel_rfl))) ?_
    refine XL_nil ?_
    kernel_rfl
  obtain ⟨y5, hy5, h⟩ := of_bind h
  obtain ⟨y6, hy6, h⟩ := of_bind h
  refine V_sreg [false, false, false, false, false, true, true, true, true, false, false, false, false, false, false, false, false, false, false, false, false, false, false, false, false, false, false, false, false, false, false, false] [56, 40] (s1 := ⟨[.bot, .bot, .bot, .bot, .bot, .pt 40 0, Bo y4.2, .pt 56 0, Bo y6.2, .bot, .bot, .bot, .bot, .bot, .bot, .bot, .bot, .bot, .bot, .bot, .bot, .bot, .bot, .bot, .bot, .bot, .bot, .bot, .bot, .bot, .bot, .bot], [(56, .box [Ti y6.1.1, Ti y6.1.2.1, Ti y6.1.2.2]), (40, .box [Ti y4.1.1, Ti y4.1.2.1, Ti y4.1.2.2])]⟩) ?_ ?_
  · refine XL_cons rfl (X_of_Y0 rfl (E_loadn (cs := [Ti aF1.1, Ti aF1.2.1, Ti aF1.2.2]) [Ti aF1.1, Ti aF1.2.1, Ti aF1.2.2] wd31 rfl (by kernel_rfl) (Nat.le_of_ble_eq_true rfl) (by kernel_rfl))) ?_
    refine XL_cons rfl (X_of_Y1 rfl (Y1_call (s_laws_toForm hy5) cf_laws_toForm rfl (by kernel_rfl))) ?_
    refine XL_cons rfl (X_of_Y0 rfl (E_move (I aK2) rfl (by kernel_rfl))) ?_
    refine XL_cons rfl (X_of_Y1 rfl (Y1_call (s_impl_DescendTo hy6) cf_impl_DescendTo rfl (by kernel_rfl))) ?_
    refine XL_cons rfl (X_of_Y0 rfl (E_move (.tc (.ag [Ti y6.1.1, Ti y6.1.2.1, Ti y6.1.2.2]) (.tc (Bo y6.2) .tn)) rfl (by kernel_rfl))) ?_
    refine XL_cons rfl (X_of_Y0 rfl (E_ext (n := 0) (.ag [Ti y6.1.1, Ti y6.1.2.1, Ti y6.1.2.2]) (.tc (Bo y6.2) .tn) (.ag [Ti y6.1.1, Ti y6.1.2.1, Ti y6.1.2.2]) rfl (by kernel_rfl) (by kernel_rfl) (by intro hh; cases hh))) ?_
    refine XL_cons rfl (X_of_Y0 rfl (E_ext (n := 1) (.ag [Ti y6.1.1, Ti y6.1.2.1, Ti y6.1.2.2]) (.tc (Bo y6.2) .tn) (Bo y6.2) rfl (by kernel_rfl) (by kernel_rfl) (by intro hh; cases hh))) ?_
    refine XL_cons rfl (X_of_Y1 rfl (Y1_alloc (z := zv36) rfl zf36 rfl)) ?_
    refine XL_cons rfl (E_store (id := 56) (off := 0) (cs := [Ti 0, Ti 0, Ti 0]) (vc := [Ti y6.1.1, Ti y6.1.2.1, Ti y6.1.2.2]) [Ti y6.1.1, Ti y6.1.2.1, Ti y6.1.2.2] rfl rfl (by kernel_rfl) (by kernel_rfl) (by kernel_rfl) sz36 (Nat.le_of_ble_eq_true rfl) (by kernel_rfl)) ?_
    refine XL_cons rfl (X_of_Y0 rfl (E_assign (Bo y6.2) rfl (by kernel_rfl))) ?_
    refine XL_nil ?_
    kernel_rfl
  refine V_seq ?_
  obtain ⟨y7, hy7, h⟩ := of_bind h
  refine V_sreg [false, false, false, false, false, false, false, false, false, false, false, false, false, false, false, false, false, false, false, false, false, false, false, false, false, false, false, false, false, false, false, true] [] (s1 := ⟨[.bot, .bot, .bot, .bot, .bot, .bot, .bot, .bot, .bot, .bot, .bot, .bot, .bot, .bot, .bot, .bot, .bot, .bot, .bot, .bot, .bot, .bot, .bot, .bot, .bot, .bot, .bot, .bot, .bot, .bot, .bot, Bo (bif (!y7) then true else (y6.2 != y4.2))], []⟩) ?_ ?_
  · refine XL_cons rfl (X_of_Y0 rfl (E_loadn (cs := [Ti y6.1.1, Ti y6.1.2.1, Ti y6.1.2.2]) [Ti y6.1.1, Ti y6.1.2.1, Ti y6.1.2.2] wd36 rfl (by kernel_rfl) (Nat.le_of_ble_eq_true rfl) (by kernel_rfl))) ?_
    refine XL_cons rfl (X_of_Y0 rfl (E_loadn (cs := [Ti y4.1.1, Ti y4.1.2.1, Ti y4.1.2.2]) [Ti y4.1.1, Ti y4.1.2.1, Ti y4.1.2.2] wd36 rfl (by kernel_rfl) (Nat.le_of_ble_eq_true rfl) (by kernel_rfl))) ?_
    refine XL_cons rfl (X_of_Y1 rfl (Y1_call (s_laws_eqForm hy7) cf_laws_eqForm rfl (by kernel_rfl))) ?_
    refine XL_cons rfl (X_of_Y0 rfl (Y0_not (b := y7) rfl (by kernel_rfl))) ?_
    refine XL_cons rfl (X_of_Y0 rfl (E_move (Bo (!y7)) rfl (by kernel_rfl))) ?_
    refine XL_split (!y7) (fun hc8 => ?_) (fun hc8 => ?_)
    · refine XL_skipF (!y7) rfl rfl (by kernel_rfl) hc8 rfl ?_
      refine XL_skipF (!y7) rfl rfl (by kernel_rfl) hc8 rfl ?_
      refine XL_skipF (!y7) rfl rfl (by kernel_rfl) hc8 rfl ?_
      refine XL_cons rfl (X_of_Y0 rfl (Y0_pick1 (b := !y7) (p := true) (q := y6.2 != y4.2) rfl (by kernel_rfl) hc8 (by kernel_rfl))) ?_
      refine XL_nil ?_
      kernel_rfl
    · refine XL_takeC (!y7) rfl rfl (by kernel_rfl) hc8 (X_of_Y0 rfl (E_move (Bo y6.2) rfl (by kernel_rfl))) ?_
      refine XL_takeC (!y7) rfl rfl (by kernel_rfl) hc8 (X_of_Y0 rfl (E_move (Bo y4.2) rfl (by kernel_rfl))) ?_
      refine XL_takeC (!y7) rfl rfl (by kernel_rfl) hc8 (X_of_Y0 rfl (Y0_neb (a := y6.2) (b := y4.2) Try.underlying4 rfl (by kernel_rfl) (by kernel_rfl))) ?_
      refine XL_cons rfl (X_of_Y0 rfl (Y0_pick0 (b := !y7) (p := true) (q := y6.2 != y4.2) rfl (by kernel_rfl) hc8 (by kernel_rfl))) ?_
      refine XL_nil ?_
      kernel_rfl
  refine V_cond rfl (fun hc9 => ?_) (fun hc9 => ?_)
  · have h := of_true h hc9
    refine V_sreg [false, false, false, false, true, false, false, false, false, false, false, false, false, false, false, false, false, false, false, false, false, false, false, false, false, false, false, false, false, false, false, false] [] (s1 := ⟨[.bot, .bot, .bot, .bot, Bo false, .bot, .bot, .bot, .bot, .bot, .bot, .bot, .bot, .bot, .bot, .bot, .bot, .bot, .bot, .bot, .bot, .bot, .bot, .bot, .bot, .bot, .bot, .bot, .bot, .bot, .bot, .bot], []⟩) ?_ ?_
    · refine XL_cons rfl (X_of_Y0 rfl (E_assign (Bo false) rfl (by kernel_rfl))) ?_
      refine XL_nil ?_
      kernel_rfl
    refine V_ret ?_
    obtain rfl := some_inj h
    show Post _ _ _ _ _
    exact ⟨.inr rfl, rfl, rfl, rfl⟩
  · have h := of_false h hc9
    refine V_skip ?_
    show V _ _ _ _
    refine V_sreg [false, false, false, false, true, false, false, false, false, false, false, false, false, false, false, false, false, false, false, false, false, false, false, false, false, false, false, false, false, false, false, false] [] (s1 := ⟨[.bot, .bot, .bot, .bot, Bo true, .bot, .bot, .bot, .bot, .bot, .bot, .bot, .bot, .bot, .bot, .bot, .bot, .bot, .bot, .bot, .bot, .bot, .bot, .bot, .bot, .bot, .bot, .bot, .bot, .bot, .bot, .bot], []⟩) ?_ ?_
    · refine XL_cons rfl (X_of_Y0 rfl (E_assign (Bo true) rfl (by kernel_rfl))) ?_
      refine XL_nil ?_
      kernel_rfl
    refine V_ret ?_
    obtain rfl := some_inj h
    show Post _ _ _ _ _
    exact ⟨.inr rfl, rfl, rfl, rfl⟩
end Go.Proofs.Ytdffhgibkeifmaa
