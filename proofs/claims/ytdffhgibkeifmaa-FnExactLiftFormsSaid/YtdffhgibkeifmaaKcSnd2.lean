/-
  The functions of the program compute what the plain functions say: more of them.
  Conditions: none.
-/
import Derived.Test.YtdffhgibkeifmaaKcSnd1
namespace Go.Proofs.Ytdffhgibkeifmaa
open Go.RowKit
set_option linter.unusedVariables false
set_option linter.unusedSimpArgs false
theorem cf_spec_odDescend : ∀ args w, (callFunc 80 args).run Try.prog w = .ok (.enter 80 args) w := run_callFunc Try.func80 (by kernel_rfl) (by kernel_rfl)
set_option maxRecDepth 100000 in
set_option maxHeartbeats 400000 in
theorem s_spec_odDescend {f1 : (Int × Int × Int)} {p2 : Int} {r : (((Int × Int × Int)) × ((Int × Int × Int × Int)))} (h : r_spec_odDescend f1 p2 = some r) : CallS Try.prog 80 [.ag [Ti f1.1, Ti f1.2.1, Ti f1.2.2], I p2] (.tc (.ag [Ti r.1.1, Ti r.1.2.1, Ti r.1.2.2]) (.tc (.ag [Ti r.2.1, Ti r.2.2.1, Ti r.2.2.2.1, Ti r.2.2.2.2]) .tn)) [] := by
  refine CallS_of_text (rs := [.w 4 3, .w 5 4]) (vs := [.cell 4 36, .cell 5 38]) Try.func80 rfl rfl (.cons ⟨rfl, wd36⟩ (.cons ⟨rfl, wd38⟩ FitsL.nil)) (by decide) 92 rfl ?_
  unfold r_spec_odDescend at h
  show V _ _ ⟨[.ag [Ti f1.1, Ti f1.2.1, Ti f1.2.2], I p2, .bot, .bot, .bot, .bot, .bot, .bot, .bot, .bot, .bot, .bot, .bot, .bot, .bot, .bot, .bot, .bot, .bot, .bot, .bot, .bot, .bot, .bot, .bot, .bot, .bot, .bot, .bot, .bot, .bot, .bot, .bot, .bot, .bot, .bot, .bot, .bot, .bot, .bot, .bot, .bot, .bot, .bot, .bot, .bot, .bot, .bot, .bot, .bot, .bot, .bot, .bot, .bot, .bot, .bot, .bot, .bot, .bot, .bot, .bot, .bot, .bot, .bot, .bot, .bot, .bot, .bot, .bot, .bot, .bot, .bot, .bot, .bot, .bot, .bot, .bot, .bot, .bot, .bot, .bot, .bot, .bot, .bot, .bot, .bot, .bot, .bot, .bot, .bot, .bot, .bot], []⟩ _
  refine V_sreg [false, true, true, false, true, true, false, false, false, false, false, false, false, false, false, false, false, false, false, false, false, false, false, false, false, false, false, false, false, false, false, false, false, false, false, false, false, false, false, false, false, false, false, false, false, false, false, false, false, false, false, false, false, false, false, false, false, false, false, false, false, false, false, false, false, false, false, false, false, false, false, false, false, false, false, false, false, false, false, false, false, false, false, false, false, false, false, false, false, false, false, false] [40, 32, 16] (s1 := ⟨[.bot, I p2, .pt 16 0, .bot, .pt 32 0, .pt 40 0, .bot, .bot, .bot, .bot, .bot, .bot, .bot, .bot, .bot, .bot, .bot, .bot, .bot, .bot, .bot, .bot, .bot, .bot, .bot, .bot, .bot, .bot, .bot, .bot, .bot, .bot, .bot, .bot, .bot, .bot, .bot, .bot, .bot, .bot, .bot, .bot, .bot, .bot, .bot, .bot, .bot, .bot, .bot, .bot, .bot, .bot, .bot, .bot, .bot, .bot, .bot, .bot, .bot, .bot, .bot, .bot, .bot, .bot, .bot, .bot, .bot, .bot, .bot, .bot, .bot, .bot, .bot, .bot, .bot, .bot, .bot, .bot, .bot, .bot, .bot, .bot, .bot, .bot, .bot, .bot, .bot, .bot, .bot, .bot, .bot, .bot], [(40, .box [Ti 0, Ti 0, Ti 0, Ti 0]), (32, .box [Ti 0, Ti 0, Ti 0]), (16, .box [Ti f1.1, Ti f1.2.1, Ti f1.2.2])]⟩) ?_ ?_
  · refine XL_cons rfl (X_of_Y1 rfl (Y1_box (cs := [Ti f1.1, Ti f1.2.1, Ti f1.2.2]) rfl (by kernel_rfl))) ?_
    refine XL_cons rfl (X_of_Y1 rfl (Y1_alloc (z := zv36) rfl zf36 rfl)) ?_
    refine XL_cons rfl (X_of_Y1 rfl (Y1_alloc (z := zv38) rfl zf38 rfl)) ?_
    refine XL_nil ?_
    kernel_rfl
  obtain ⟨y3, hy3, h⟩ := of_bind h
  refine V_sreg [false, true, false, false, true, true, true, true, false, false, false, false, false, false, false, false, false, false, false, false, false, false, false, false, false, false, false, false, false, false, false, false, false, false, false, false, false, false, false, false, false, false, false, false, false, false, false, false, false, false, false, false, false, false, false, false, false, false, false, false, false, false, false, false, false, false, false, false, false, false, false, false, false, false, false, false, false, false, false, false, false, false, false, false, false, false, false, false, false, false, false, false] [56, 48, 40, 32] (s1 := ⟨[.bot, I p2, .bot, .bot, .pt 32 0, .pt 40 0, .pt 48 0, .pt 56 0, .bot, .bot, .bot, .bot, .bot, .bot, .bot, .bot, .bot, .bot, .bot, .bot, .bot, .bot, .bot, .bot, .bot, .bot, .bot, .bot, .bot, .bot, .bot, .bot, .bot, .bot, .bot, .bot, .bot, .bot, .bot, .bot, .bot, .bot, .bot, .bot, .bot, .bot, .bot, .bot, .bot, .bot, .bot, .bot, .bot, .bot, .bot, .bot, .bot, .bot, .bot, .bot, .bot, .bot, .bot, .bot, .bot, .bot, .bot, .bot, .bot, .bot, .bot, .bot, .bot, .bot, .bot, .bot, .bot, .bot, .bot, .bot, .bot, .bot, .bot, .bot, .bot, .bot, .bot, .bot, .bot, .bot, .bot, .bot], [(56, .box [Ti y3.2.1, Ti y3.2.2.1, Ti y3.2.2.2.1, Ti y3.2.2.2.2]), (48, .box [Ti y3.1.1, Ti y3.1.2.1, Ti y3.1.2.2]), (40, .box [Ti 0, Ti 0, Ti 0, Ti 0]), (32, .box [Ti 0, Ti 0, Ti 0])]⟩) ?_ ?_
  · refine XL_cons rfl (X_of_Y0 rfl (E_loadn (cs := [Ti f1.1, Ti f1.2.1, Ti f1.2.2]) [Ti f1.1, Ti f1.2.1, Ti f1.2.2] wd36 rfl (by kernel_rfl) (Nat.le_of_ble_eq_true rfl) (by kernel_rfl))) ?_
    refine XL_cons rfl (X_of_Y1 rfl (Y1_call (s_spec_reReduce hy3) cf_spec_reReduce rfl (by kernel_rfl))) ?_
    refine XL_cons rfl (X_of_Y0 rfl (E_move (.tc (.ag [Ti y3.1.1, Ti y3.1.2.1, Ti y3.1.2.2]) (.tc (.ag [Ti y3.2.1, Ti y3.2.2.1, Ti y3.2.2.2.1, Ti y3.2.2.2.2]) .tn)) rfl (by kernel_rfl))) ?_
    refine XL_cons rfl (X_of_Y0 rfl (E_ext (n := 0) (.ag [Ti y3.1.1, Ti y3.1.2.1, Ti y3.1.2.2]) (.tc (.ag [Ti y3.2.1, Ti y3.2.2.1, Ti y3.2.2.2.1, Ti y3.2.2.2.2]) .tn) (.ag [Ti y3.1.1, Ti y3.1.2.1, Ti y3.1.2.2]) rfl (by kernel_rfl) (by kernel_rfl) (by intro hh; cases hh))) ?_
    refine XL_cons rfl (X_of_Y0 rfl (E_ext (n := 1) (.ag [Ti y3.1.1, Ti y3.1.2.1, Ti y3.1.2.2]) (.tc (.ag [Ti y3.2.1, Ti y3.2.2.1, Ti y3.2.2.2.1, Ti y3.2.2.2.2]) .tn) (.ag [Ti y3.2.1, Ti y3.2.2.1, Ti y3.2.2.2.1, Ti y3.2.2.2.2]) rfl (by kernel_rfl) (by kernel_rfl) (by intro hh; cases hh))) ?_
    refine XL_cons rfl (X_of_Y1 rfl (Y1_alloc (z := zv36) rfl zf36 rfl)) ?_
    refine XL_cons rfl (X_of_Y1 rfl (Y1_alloc (z := zv38) rfl zf38 rfl)) ?_
    refine XL_cons rfl (E_store (id := 48) (off := 0) (cs := [Ti 0, Ti 0, Ti 0]) (vc := [Ti y3.1.1, Ti y3.1.2.1, Ti y3.1.2.2]) [Ti y3.1.1, Ti y3.1.2.1, Ti y3.1.2.2] rfl rfl (by kernel_rfl) (by kernel_rfl) (by kernel_rfl) sz36 (Nat.le_of_ble_eq_true rfl) (by kernel_rfl)) ?_
    refine XL_cons rfl (E_store (id := 56) (off := 0) (cs := [Ti 0, Ti 0, Ti 0, Ti 0]) (vc := [Ti y3.2.1, Ti y3.2.2.1, Ti y3.2.2.2.1, Ti y3.2.2.2.2]) [Ti y3.2.1, Ti y3.2.2.1, Ti y3.2.2.2.1, Ti y3.2.2.2.2] rfl rfl (by kernel_rfl) (by kernel_rfl) (by kernel_rfl) sz38 (Nat.le_of_ble_eq_true rfl) (by kernel_rfl)) ?_
    refine XL_nil ?_
    kernel_rfl
  obtain ⟨y4, hy4, h⟩ := of_bind h
  refine V_sreg [false, true, false, false, true, true, true, true, true, true, false, false, false, false, false, false, false, false, false, false, false, false, false, false, false, false, false, false, false, false, false, false, false, false, false, false, false, false, false, false, false, false, false, false, false, false, false, false, false, false, false, false, false, false, false, false, false, false, false, false, false, false, false, false, false, false, false, false, false, false, false, false, false, false, false, false, false, false, false, false, false, false, false, false, false, false, false, false, false, false, false, false] [56, 48, 40, 32] (s1 := ⟨[.bot, I p2, .bot, .bot, .pt 32 0, .pt 40 0, .pt 48 0, .pt 56 0, I y4.1, I y4.2, .bot, .bot, .bot, .bot, .bot, .bot, .bot, .bot, .bot, .bot, .bot, .bot, .bot, .bot, .bot, .bot, .bot, .bot, .bot, .bot, .bot, .bot, .bot, .bot, .bot, .bot, .bot, .bot, .bot, .bot, .bot, .bot, .bot, .bot, .bot, .bot, .bot, .bot, .bot, .bot, .bot, .bot, .bot, .bot, .bot, .bot, .bot, .bot, .bot, .bot, .bot, .bot, .bot, .bot, .bot, .bot, .bot, .bot, .bot, .bot, .bot, .bot, .bot, .bot, .bot, .bot, .bot, .bot, .bot, .bot, .bot, .bot, .bot, .bot, .bot, .bot, .bot, .bot, .bot, .bot, .bot, .bot], [(56, .box [Ti y3.2.1, Ti y3.2.2.1, Ti y3.2.2.2.1, Ti y3.2.2.2.2]), (48, .box [Ti y3.1.1, Ti y3.1.2.1, Ti y3.1.2.2]), (40, .box [Ti 0, Ti 0, Ti 0, Ti 0]), (32, .box [Ti 0, Ti 0, Ti 0])]⟩) ?_ ?_
  · refine XL_cons rfl (X_of_Y0 rfl (E_loadn (cs := [Ti y3.1.1, Ti y3.1.2.1, Ti y3.1.2.2]) [Ti y3.1.1, Ti y3.1.2.1, Ti y3.1.2.2] wd36 rfl (by kernel_rfl) (Nat.le_of_ble_eq_true rfl) (by kernel_rfl))) ?_
    refine XL_cons rfl (X_of_Y0 rfl (E_move (I p2) rfl (by kernel_rfl))) ?_
    refine XL_cons rfl (X_of_Y1 rfl (Y1_call (s_spec_coPoint hy4) cf_spec_coPoint rfl (by kernel_rfl))) ?_
    refine XL_cons rfl (X_of_Y0 rfl (E_move (.tc (I y4.1) (.tc (I y4.2) .tn)) rfl (by kernel_rfl))) ?_
    refine XL_cons rfl (X_of_Y0 rfl (E_ext (n := 0) (I y4.1) (.tc (I y4.2) .tn) (I y4.1) rfl (by kernel_rfl) (by kernel_rfl) (by intro hh; cases hh))) ?_
    refine XL_cons rfl (X_of_Y0 rfl (E_ext (n := 1) (I y4.1) (.tc (I y4.2) .tn) (I y4.2) rfl (by kernel_rfl) (by kernel_rfl) (by intro hh; cases hh))) ?_
    refine XL_cons rfl (X_of_Y0 rfl (E_assign (I y4.1) rfl (by kernel_rfl))) ?_
    refine XL_cons rfl (X_of_Y0 rfl (E_assign (I y4.2) rfl (by kernel_rfl))) ?_
    refine XL_nil ?_
    kernel_rfl
  obtain ⟨y5, hy5, h⟩ := of_bind h
  refine V_sreg [false, true, false, false, true, true, false, true, false, false, true, true, false, false, false, false, false, false, false, false, false, false, false, false, false, false, false, false, false, false, false, false, false, false, false, false, false, false, false, false, false, false, false, false, false, false, false, false, false, false, false, false, false, false, false, false, false, false, false, false, false, false, false, false, false, false, false, false, false, false, false, false, false, false, false, false, false, false, false, false, false, false, false, false, false, false, false, false, false, false, false, false] [88, 80, 56, 40, 32] (s1 := ⟨[.bot, I p2, .bot, .bot, .pt 32 0, .pt 40 0, .bot, .pt 56 0, .bot, .bot, .pt 80 0, .pt 88 0, .bot, .bot, .bot, .bot, .bot, .bot, .bot, .bot, .bot, .bot, .bot, .bot, .bot, .bot, .bot, .bot, .bot, .bot, .bot, .bot, .bot, .bot, .bot, .bot, .bot, .bot, .bot, .bot, .bot, .bot, .bot, .bot, .bot, .bot, .bot, .bot, .bot, .bot, .bot, .bot, .bot, .bot, .bot, .bot, .bot, .bot, .bot, .bot, .bot, .bot, .bot, .bot, .bot, .bot, .bot, .bot, .bot, .bot, .bot, .bot, .bot, .bot, .bot, .bot, .bot, .bot, .bot, .bot, .bot, .bot, .bot, .bot, .bot, .bot, .bot, .bot, .bot, .bot, .bot, .bot], [(88, .box [Ti y5.2.1, Ti y5.2.2.1, Ti y5.2.2.2.1, Ti y5.2.2.2.2]), (80, .box [Ti y5.1.1, Ti y5.1.2.1, Ti y5.1.2.2]), (56, .box [Ti y3.2.1, Ti y3.2.2.1, Ti y3.2.2.2.1, Ti y3.2.2.2.2]), (40, .box [Ti 0, Ti 0, Ti 0, Ti 0]), (32, .box [Ti 0, Ti 0, Ti 0])]⟩) ?_ ?_
  · refine XL_cons rfl (X_of_Y0 rfl (E_loadn (cs := [Ti y3.1.1, Ti y3.1.2.1, Ti y3.1.2.2]) [Ti y3.1.1, Ti y3.1.2.1, Ti y3.1.2.2] wd36 rfl (by kernel_rfl) (Nat.le_of_ble_eq_true rfl) (by kernel_rfl))) ?_
    refine XL_cons rfl (X_of_Y0 rfl (E_move (I y4.1) rfl (by kernel_rfl))) ?_
    refine XL_cons rfl (X_of_Y0 rfl (E_move (I y4.2) rfl (by kernel_rfl))) ?_
    refine XL_cons rfl (X_of_Y1 rfl (Y1_call (s_spec_vaComplete hy5) cf_spec_vaComplete rfl (by kernel_rfl))) ?_
    refine XL_cons rfl (X_of_Y0 rfl (E_move (.tc (.ag [Ti y5.1.1, Ti y5.1.2.1, Ti y5.1.2.2]) (.tc (.ag [Ti y5.2.1, Ti y5.2.2.1, Ti y5.2.2.2.1, Ti y5.2.2.2.2]) .tn)) rfl (by kernel_rfl))) ?_
    refine XL_cons rfl (X_of_Y0 rfl (E_ext (n := 0) (.ag [Ti y5.1.1, Ti y5.1.2.1, Ti y5.1.2.2]) (.tc (.ag [Ti y5.2.1, Ti y5.2.2.1, Ti y5.2.2.2.1, Ti y5.2.2.2.2]) .tn) (.ag [Ti y5.1.1, Ti y5.1.2.1, Ti y5.1.2.2]) rfl (by kernel_rfl) (by kernel_rfl) (by intro hh; cases hh))) ?_
    refine XL_cons rfl (X_of_Y0 rfl (E_ext (n := 1) (.ag [Ti y5.1.1, Ti y5.1.2.1, Ti y5.1.2.2]) (.tc (.ag [Ti y5.2.1, Ti y5.2.2.1, Ti y5.2.2.2.1, Ti y5.2.2.2.2]) .tn) (.ag [Ti y5.2.1, Ti y5.2.2.1, Ti y5.2.2.2.1, Ti y5.2.2.2.2]) rfl (by kernel_rfl) (by kernel_rfl) (by intro hh; cases hh))) ?_
    refine XL_cons rfl (X_of_Y1 rfl (Y1_alloc (z := zv36) rfl zf36 rfl)) ?_
    refine XL_cons rfl (X_of_Y1 rfl (Y1_alloc (z := zv38) rfl zf38 rfl)) ?_
    refine XL_cons rfl (E_store (id := 80) (off := 0) (cs := [Ti 0, Ti 0, Ti 0]) (vc := [Ti y5.1.1, Ti y5.1.2.1, Ti y5.1.2.2]) [Ti y5.1.1, Ti y5.1.2.1, Ti y5.1.2.2] rfl rfl (by kernel_rfl) (by kernel_rfl) (by kernel_rfl) sz36 (Nat.le_of_ble_eq_true rfl) (by kernel_rfl)) ?_
    refine XL_cons rfl (E_store (id := 88) (off := 0) (cs := [Ti 0, Ti 0, Ti 0, Ti 0]) (vc := [Ti y5.2.1, Ti y5.2.2.1, Ti y5.2.2.2.1, Ti y5.2.2.2.2]) [Ti y5.2.1, Ti y5.2.2.1, Ti y5.2.2.2.1, Ti y5.2.2.2.2] rfl rfl (by kernel_rfl) (by kernel_rfl) (by kernel_rfl) sz38 (Nat.le_of_ble_eq_true rfl) (by kernel_rfl)) ?_
    refine XL_nil ?_
    kernel_rfl
  obtain ⟨y6, hy6, h⟩ := of_bind h
  refine V_sreg [false, true, false, false, true, true, false, true, false, false, true, false, false, false, false, false, false, false, false, false, false, false, false, false, false, false, false, false, false, false, false, false, false, false, false, false, false, false, false, false, false, false, false, false, false, false, false, false, false, false, false, false, false, false, false, false, false, false, false, false, false, false, false, false, false, false, false, false, false, false, false, false, false, false, false, false, false, false, false, false, false, false, false, false, false, false, false, false, false, false, false, false] [80, 56, 40, 32] (s1 := ⟨[.bot, I p2, .bot, .bot, .pt 32 0, .pt 40 0, .bot, .pt 56 0, .bot, .bot, .pt 80 0, .bot, .bot, .bot, .bot, .bot, .bot, .bot, .bot, .bot, .bot, .bot, .bot, .bot, .bot, .bot, .bot, .bot, .bot, .bot, .bot, .bot, .bot, .bot, .bot, .bot, .bot, .bot, .bot, .bot, .bot, .bot, .bot, .bot, .bot, .bot, .bot, .bot, .bot, .bot, .bot, .bot, .bot, .bot, .bot, .bot, .bot, .bot, .bot, .bot, .bot, .bot, .bot, .bot, .bot, .bot, .bot, .bot, .bot, .bot, .bot, .bot, .bot, .bot, .bot, .bot, .bot, .bot, .bot, .bot, .bot, .bot, .bot, .bot, .bot, .bot, .bot, .bot, .bot, .bot, .bot, .bot], [(80, .box [Ti y5.1.1, Ti y5.1.2.1, Ti y5.1.2.2]), (56, .box [Ti y6.1, Ti y6.2.1, Ti y6.2.2.1, Ti y6.2.2.2]), (40, .box [Ti 0, Ti 0, Ti 0, Ti 0]), (32, .box [Ti 0, Ti 0, Ti 0])]⟩) ?_ ?_
  · refine XL_cons rfl (X_of_Y0 rfl (E_loadn (cs := [Ti y3.2.1, Ti y3.2.2.1, Ti y3.2.2.2.1, Ti y3.2.2.2.2]) [Ti y3.2.1, Ti y3.2.2.1, Ti y3.2.2.2.1, Ti y3.2.2.2.2] wd38 rfl (by kernel_rfl) (Nat.le_of_ble_eq_true rfl) (by kernel_rfl))) ?_
    refine XL_cons rfl (X_of_Y0 rfl (E_loadn (cs := [Ti y5.2.1, Ti y5.2.2.1, Ti y5.2.2.2.1, Ti y5.2.2.2.2]) [Ti y5.2.1, Ti y5.2.2.1, Ti y5.2.2.2.1, Ti y5.2.2.2.2] wd38 rfl (by kernel_rfl) (Nat.le_of_ble_eq_true rfl) (by kernel_rfl))) ?_
    refine XL_cons rfl (X_of_Y1 rfl (Y1_call (s_spec_foMul hy6) cf_spec_foMul rfl (by kernel_rfl))) ?_
    refine XL_cons rfl (E_store (id := 56) (off := 0) (cs := [Ti y3.2.1, Ti y3.2.2.1, Ti y3.2.2.2.1, Ti y3.2.2.2.2]) (vc := [Ti y6.1, Ti y6.2.1, Ti y6.2.2.1, Ti y6.2.2.2]) [Ti y6.1, Ti y6.2.1, Ti y6.2.2.1, Ti y6.2.2.2] rfl rfl (by kernel_rfl) (by kernel_rfl) (by kernel_rfl) sz38 (Nat.le_of_ble_eq_true rfl) (by kernel_rfl)) ?_
    refine XL_nil ?_
    kernel_rfl
  refine V_seq ?_
  refine V_sreg [false, true, false, false, true, true, false, true, false, false, true, false, true, false, false, false, false, false, false, false, false, false, false, false, false, false, false, false, false, false, false, false, false, false, false, false, false, false, false, false, false, false, false, false, false, false, false, false, false, false, false, false, false, false, false, false, false, false, false, false, false, false, false, false, false, false, false, false, false, false, false, false, false, false, false, false, false, false, false, false, false, false, false, false, false, false, false, false, false, false, false, false] [80, 56, 40, 32] (s1 := ⟨[.bot, I p2, .bot, .bot, .pt 32 0, .pt 40 0, .bot, .pt 56 0, .bot, .bot, .pt 80 0, .bot, I 0, .bot, .bot, .bot, .bot, .bot, .bot, .bot, .bot, .bot, .bot, .bot, .bot, .bot, .bot, .bot, .bot, .bot, .bot, .bot, .bot, .bot, .bot, .bot, .bot, .bot, .bot, .bot, .bot, .bot, .bot, .bot, .bot, .bot, .bot, .bot, .bot, .bot, .bot, .bot, .bot, .bot, .bot, .bot, .bot, .bot, .bot, .bot, .bot, .bot, .bot, .bot, .bot, .bot, .bot, .bot, .bot, .bot, .bot, .bot, .bot, .bot, .bot, .bot, .bot, .bot, .bot, .bot, .bot, .bot, .bot, .bot, .bot, .bot, .bot, .bot, .bot, .bot, .bot, .bot], [(80, .box [Ti y5.1.1, Ti y5.1.2.1, Ti y5.1.2.2]), (56, .box [Ti y6.1, Ti y6.2.1, Ti y6.2.2.1, Ti y6.2.2.2]), (40, .box [Ti 0, Ti 0, Ti 0, Ti 0]), (32, .box [Ti 0, Ti 0, Ti 0])]⟩) ?_ ?_
  · refine XL_cons rfl (X_of_Y0 rfl (E_assign (I 0) rfl (by kernel_rfl))) ?_
    refine XL_nil ?_
    kernel_rfl
  obtain ⟨qo9, hLo9, hko9⟩ := of_bind h
  refine V_toS (q := qo9) (S := fun o9 => ⟨[.bot, .bot, .bot, .bot, .pt 32 0, .pt 40 0, .bot, .bot, .bot, .bot, .bot, .bot, .bot, .bot, .bot, .bot, .bot, .bot, .bot, .bot, .bot, .bot, .bot, .bot, .bot, .bot, .bot, .bot, .bot, .bot, .bot, .bot, .bot, .bot, .bot, .bot, .bot, .bot, .bot, .bot, .bot, .bot, .bot, .bot, .bot, .bot, .bot, .bot, .bot, .bot, .bot, .bot, .bot, .bot, .bot, .bot, .bot, .bot, .bot, .bot, .bot, .bot, .bot, .bot, .bot, .bot, .bot, .bot, .bot, .bot, .bot, .bot, .bot, .bot, .bot, .bot, .bot, .bot, .bot, .bot, .bot, .bot, .bot, .bot, .bot, .bot, .bot, .bot, .bot, .bot, .bot, .bot], [(40, .box [Ti 0, Ti 0, Ti 0, Ti 0]), (32, .box [Ti 0, Ti 0, Ti 0])]⟩) [false, false, false, false, true, true, false, false, false, false, false, false, false, false, false, false, false, false, false, false, false, false, false, false, false, false, false, false, false, false, false, false, false, false, false, false, false, false, false, false, false, false, false, false, false, false, false, false, false, false, false, false, false, false, false, false, false, false, false, false, false, false, false, false, false, false, false, false, false, false, false, false, false, false, false, false, false, false, false, false, false, false, false, false, false, false, false, false, false, false, false, false] [40, 32] ?_ ?_
  · refine V_block (V_loop (fun n s => ∃ (t7 : Int), s.keep [false, true, false, false, true, true, false, true, false, false, true, false, true, false, false, false, false, false, false, false, false, false, false, false, false, false, false, false, false, false, false, false, false, false, false, false, false, false, false, false, false, false, false, false, false, false, false, false, false, false, false, false, false, false, false, false, false, false, false, false, false, false, false, false, false, false, false, false, false, false, false, false, false, false, false, false, false, false, false, false, false, false, false, false, false, false, false, false, false, false, false, false] [80, 56, 40, 32] = (⟨[.bot, I p2, .bot, .bot, .pt 32 0, .pt 40 0, .bot, .pt 56 0, .bot, .bot, .pt 80 0, .bot, I t7, .bot, .bot, .bot, .bot, .bot, .bot, .bot, .bot, .bot, .bot, .bot, .bot, .bot, .bot, .bot, .bot, .bot, .bot, .bot, .bot, .bot, .bot, .bot, .bot, .bot, .bot, .bot, .bot, .bot, .bot, .bot, .bot, .bot, .bot, .bot, .bot, .bot, .bot, .bot, .bot, .bot, .bot, .bot, .bot, .bot, .bot, .bot, .bot, .bot, .bot, .bot, .bot, .bot, .bot, .bot, .bot, .bot, .bot, .bot, .bot, .bot, .bot, .bot, .bot, .bot, .bot, .bot, .bot, .bot, .bot, .bot, .bot, .bot, .bot, .bot, .bot, .bot, .bot, .bot], [(80, .box [Ti y5.1.1, Ti y5.1.2.1, Ti y5.1.2.2]), (56, .box [Ti y6.1, Ti y6.2.1, Ti y6.2.2.1, Ti y6.2.2.2]), (40, .box [Ti 0, Ti 0, Ti 0, Ti 0]), (32, .box [Ti 0, Ti 0, Ti 0])]⟩ : St) ∧ r_spec_odDescend_L8 p2 y5 y6 n t7 = some qo9) FU ⟨_,  by rfl, hLo9⟩ ?_)
    clear hLo9
    rintro n s ⟨t7, hs, h⟩
    refine V_keep _ _ hs ?_
    clear hs
    cases n with
    | zero => cases h
    | succ n =>
      rw [r_spec_odDescend_L8] at h
      refine V_seq ?_
      refine V_sreg [false, true, false, false, true, true, false, true, false, false, true, false, true, false, false, false, false, false, false, false, false, false, false, false, false, false, false, false, false, false, false, false, false, false, false, false, false, false, false, true, false, false, false, false, false, false, false, false, false, false, false, false, false, false, false, false, false, false, false, false, false, false, false, false, false, false, false, false, false, false, false, false, false, false, false, false, false, false, false, false, false, false, false, false, false, false, false, false, false, false, false, false] [80, 56, 40, 32] (s1 := ⟨[.bot, I p2, .bot, .bot, .pt 32 0, .pt 40 0, .bot, .pt 56 0, .bot, .bot, .pt 80 0, .bot, I t7, .bot, .bot, .bot, .bot, .bot, .bot, .bot, .bot, .bot, .bot, .bot, .bot, .bot, .bot, .bot, .bot, .bot, .bot, .bot, .bot, .bot, .bot, .bot, .bot, .bot, .bot, Bo (ltI t7 p2), .bot, .bot, .bot, .bot, .bot, .bot, .bot, .bot, .bot, .bot, .bot, .bot, .bot, .bot, .bot, .bot, .bot, .bot, .bot, .bot, .bot, .bot, .bot, .bot, .bot, .bot, .bot, .bot, .bot, .bot, .bot, .bot, .bot, .bot, .bot, .bot, .bot, .bot, .bot, .bot, .bot, .bot, .bot, .bot, .bot, .bot, .bot, .bot, .bot, .bot, .bot, .bot], [(80, .box [Ti y5.1.1, Ti y5.1.2.1, Ti y5.1.2.2]), (56, .box [Ti y6.1, Ti y6.2.1, Ti y6.2.2.1, Ti y6.2.2.2]), (40, .box [Ti 0, Ti 0, Ti 0, Ti 0]), (32, .box [Ti 0, Ti 0, Ti 0])]⟩) ?_ ?_
      · refine XL_cons rfl (X_of_Y0 rfl (E_move (I t7) rfl (by kernel_rfl))) ?_
        refine XL_cons rfl (X_of_Y0 rfl (E_move (I p2) rfl (by kernel_rfl))) ?_
        refine XL_cons rfl (X_of_Y0 rfl (Y0_ltw (k := .i64) (a := t7) (b := p2) rfl (by kernel_rfl) (by kernel_rfl))) ?_
        refine XL_nil ?_
        kernel_rfl
      refine V_cond rfl (fun hc10 => ?_) (fun hc10 => ?_)
      · have h := of_true h hc10
        refine V_skip ?_
        show V _ _ _ _
        refine V_seq ?_
        refine V_block ?_
        obtain ⟨y11, hy11, h⟩ := of_bind h
        obtain ⟨y12, hy12, h⟩ := of_bind h
        refine V_sdreg [0, 0, 2, 7, 0, 31] 5 [[.z, .b, .b, .z, .b], [.b, .z, .z, .z, .b], [.b, .a, .z, .z, .b], [.a, .a, .a, .z, .b], [.b, .b, .b, .b, .z]] [false, true, false, false, true, true, false, true, false, false, true, false, true, true, false, false, false, false, false, false, false, false, false, false, false, false, false, false, false, false, false, false, false, false, false, false, false, false, false, false, false, false, false, false, false, false, false, false, false, false, false, false, false, false, false, false, false, false, false, false, false, false, false, false, false, false, false, false, false, false, false, false, false, false, false, false, false, false, false, false, false, false, false, false, false, false, false, false, false, false, false, false] [104, 80, 56, 40, 32] (s1 := ⟨[.bot, I p2, .bot, .bot, .pt 32 0, .pt 40 0, .bot, .pt 56 0, .bot, .bot, .pt 80 0, .bot, I t7, .pt 104 0, .bot, .bot, .bot, .bot, .bot, .bot, .bot, .bot, .bot, .bot, .bot, .bot, .bot, .bot, .bot, .bot, .bot, .bot, .bot, .bot, .bot, .bot, .bot, .bot, .bot, .bot, .bot, .bot, .bot, .bot, .bot, .bot, .bot, .bot, .bot, .bot, .bot, .bot, .bot, .bot, .bot, .bot, .bot, .bot, .bot, .bot, .bot, .bot, .bot, .bot, .bot, .bot, .bot, .bot, .bot, .bot, .bot, .bot, .bot, .bot, .bot, .bot, .bot, .bot, .bot, .bot, .bot, .bot, .bot, .bot, .bot, .bot, .bot, .bot, .bot, .bot, .bot, .bot], [(104, .box [Ti y12.1, Ti y12.2.1, Ti y12.2.2]), (80, .box [Ti y5.1.1, Ti y5.1.2.1, Ti y5.1.2.2]), (56, .box [Ti y6.1, Ti y6.2.1, Ti y6.2.2.1, Ti y6.2.2.2]), (40, .box [Ti 0, Ti 0, Ti 0, Ti 0]), (32, .box [Ti 0, Ti 0, Ti 0])]⟩) (by kernel_rfl) (by kernel_rfl) ?_ ?_
        · refine DE_0 0 (.ag [Ti y5.1.1, Ti y5.1.2.1, Ti y5.1.2.2]) (by kernel_rfl) rfl rfl rfl (gsat_none rfl) (by kernel_rfl) (E_loadn (cs := [Ti y5.1.1, Ti y5.1.2.1, Ti y5.1.2.2]) [Ti y5.1.1, Ti y5.1.2.1, Ti y5.1.2.2] wd36 rfl (by kernel_rfl) (Nat.le_of_ble_eq_true rfl) (by kernel_rfl)) 42 rfl ?_
          refine DE_0 1 (I t7) (by kernel_rfl) rfl rfl rfl (gsat_none rfl) (by kernel_rfl) (E_move (I t7) rfl (by kernel_rfl)) 43 rfl ?_
          refine DE_1 2 (by kernel_rfl) rfl rfl rfl (gsat_none rfl) (Y1_call (s_spec_coShift hy11) cf_spec_coShift rfl (by kernel_rfl)) rfl rfl rfl 44 rfl ?_
          refine DE_1 3 (by kernel_rfl) rfl rfl rfl (gsat_none rfl) (Y1_call (s_spec_foAct hy12) cf_spec_foAct rfl (by kernel_rfl)) rfl rfl rfl 45 rfl ?_
          refine DE_1 4 (by kernel_rfl) rfl rfl rfl (gsat_none rfl) (Y1_alloc (z := zv36) rfl zf36 rfl) rfl rfl rfl 13 rfl ?_
          refine DL_nil (by kernel_rfl) ?_
          refine XL_cons rfl (E_store (id := 104) (off := 0) (cs := [Ti 0, Ti 0, Ti 0]) (vc := [Ti y12.1, Ti y12.2.1, Ti y12.2.2]) [Ti y12.1, Ti y12.2.1, Ti y12.2.2] rfl rfl (by kernel_rfl) (by kernel_rfl) (by kernel_rfl) sz36 (Nat.le_of_ble_eq_true rfl) (by kernel_rfl)) ?_
          refine XL_nil ?_
          kernel_rfl
        refine V_seq ?_
        obtain ⟨z13, hz13, h⟩ := of_bind h
        obtain ⟨b16, hb16, h⟩ := of_bind h
        refine V_sreg [false, true, false, false, true, true, false, true, false, false, true, false, true, true, false, false, false, false, false, false, false, false, false, false, false, false, false, false, false, false, false, false, false, false, false, false, false, false, false, false, false, false, false, false, false, false, false, false, false, false, false, false, false, false, false, false, false, false, false, true, false, false, false, false, false, false, false, false, false, false, false, false, false, false, false, false, false, false, false, false, false, false, false, false, false, false, false, false, false, false, false, false] [104, 80, 56, 40, 32] (s1 := ⟨[.bot, I p2, .bot, .bot, .pt 32 0, .pt 40 0, .bot, .pt 56 0, .bot, .bot, .pt 80 0, .bot, I t7, .pt 104 0, .bot, .bot, .bot, .bot, .bot, .bot, .bot, .bot, .bot, .bot, .bot, .bot, .bot, .bot, .bot, .bot, .bot, .bot, .bot, .bot, .bot, .bot, .bot, .bot, .bot, .bot, .bot, .bot, .bot, .bot, .bot, .bot, .bot, .bot, .bot, .bot, .bot, .bot, .bot, .bot, .bot, .bot, .bot, .bot, .bot, Bo b16, .bot, .bot, .bot, .bot, .bot, .bot, .bot, .bot, .bot, .bot, .bot, .bot, .bot, .bot, .bot, .bot, .bot, .bot, .bot, .bot, .bot, .bot, .bot, .bot, .bot, .bot, .bot, .bot, .bot, .bot, .bot, .bot], [(104, .box [Ti y12.1, Ti y12.2.1, Ti y12.2.2]), (80, .box [Ti y5.1.1, Ti y5.1.2.1, Ti y5.1.2.2]), (56, .box [Ti y6.1, Ti y6.2.1, Ti y6.2.2.1, Ti y6.2.2.2]), (40, .box [Ti 0, Ti 0, Ti 0, Ti 0]), (32, .box [Ti 0, Ti 0, Ti 0])]⟩) ?_ ?_
        · refine XL_cons rfl (X_of_Y0 rfl (E_field (.pt 104 1) Try.underlying36 rfl sz3 rfl (by kernel_rfl) (by intro hh; cases hh))) ?_
          refine XL_cons rfl (X_of_Y0 rfl (Y0_load1 (c := Ti y12.2.1) (cs := [Ti y12.2.2]) sc3 rfl (by kernel_rfl))) ?_
          refine XL_cons rfl (X_of_Y0 rfl (E_move (I p2) rfl (by kernel_rfl))) ?_
          refine XL_cons rfl (X_of_Y0 rfl (Y0_rem (k := .i64) (a := y12.2.1) (b := p2) rfl (by kernel_rfl) (by kernel_rfl) (nz_some hz13))) ?_
          refine XL_cons rfl (X_of_Y0 rfl (Y0_new (k := .i64) (a := Int.tmod y12.2.1 p2) (b := 0) rfl (by kernel_rfl) (by kernel_rfl))) ?_
          refine XL_cons rfl (X_of_Y0 rfl (E_move (Bo (!eqI (Int.tmod y12.2.1 p2) 0)) rfl (by kernel_rfl))) ?_
          refine XL_split (!eqI (Int.tmod y12.2.1 p2) 0) (fun hc14 => ?_) (fun hc14 => ?_)
          · have hb16 := some_inj (of_true hb16 hc14)
            refine XL_skipF (!eqI (Int.tmod y12.2.1 p2) 0) rfl rfl (by kernel_rfl) hc14 rfl ?_
            refine XL_skipF (!eqI (Int.tmod y12.2.1 p2) 0) rfl rfl (by kernel_rfl) hc14 rfl ?_
            refine XL_skipF (!eqI (Int.tmod y12.2.1 p2) 0) rfl rfl (by kernel_rfl) hc14 rfl ?_
            refine XL_skipF (!eqI (Int.tmod y12.2.1 p2) 0) rfl rfl (by kernel_rfl) hc14 rfl ?_
            refine XL_skipF (!eqI (Int.tmod y12.2.1 p2) 0) rfl rfl (by kernel_rfl) hc14 rfl ?_
            refine XL_skipF (!eqI (Int.tmod y12.2.1 p2) 0) rfl rfl (by kernel_rfl) hc14 rfl ?_
            refine XL_skipF (!eqI (Int.tmod y12.2.1 p2) 0) rfl rfl (by kernel_rfl) hc14 rfl ?_
            refine XL_cons rfl (X_of_Y0 rfl (Y0_pickTe (b := !eqI (Int.tmod y12.2.1 p2) 0) (p := true) rfl (by kernel_rfl) hc14 (by kernel_rfl) hb16)) ?_
            refine XL_nil ?_
            kernel_rfl
          · have hb16 := of_false hb16 hc14
            obtain ⟨z15, hz15, hb16⟩ := of_bind hb16
            have hb16 := some_inj hb16
            refine XL_takeC (!eqI (Int.tmod y12.2.1 p2) 0) rfl rfl (by kernel_rfl) hc14 (X_of_Y0 rfl (E_field (.pt 104 2) Try.underlying36 rfl sz3 rfl (by kernel_rfl) (by intro hh; cases hh))) ?_
            refine XL_takeC (!eqI (Int.tmod y12.2.1 p2) 0) rfl rfl (by kernel_rfl) hc14 (X_of_Y0 rfl (Y0_load1 (c := Ti y12.2.2) (cs := []) sc3 rfl (by kernel_rfl))) ?_
            refine XL_takeC (!eqI (Int.tmod y12.2.1 p2) 0) rfl rfl (by kernel_rfl) hc14 (X_of_Y0 rfl (E_move (I p2) rfl (by kernel_rfl))) ?_
            refine XL_takeC (!eqI (Int.tmod y12.2.1 p2) 0) rfl rfl (by kernel_rfl) hc14 (X_of_Y0 rfl (E_move (I p2) rfl (by kernel_rfl))) ?_
            refine XL_takeC (!eqI (Int.tmod y12.2.1 p2) 0) rfl rfl (by kernel_rfl) hc14 (X_of_Y0 rfl (Y0_mul64 (a := p2) (b := p2) rfl (by kernel_rfl) (by kernel_rfl))) ?_
            refine XL_takeC (!eqI (Int.tmod y12.2.1 p2) 0) rfl rfl (by kernel_rfl) hc14 (X_of_Y0 rfl (Y0_rem (k := .i64) (a := y12.2.2) (b := w64 (p2 * p2)) rfl (by kernel_rfl) (by kernel_rfl) (nz_some hz15))) ?_
            refine XL_takeC (!eqI (Int.tmod y12.2.1 p2) 0) rfl rfl (by kernel_rfl) hc14 (X_of_Y0 rfl (Y0_new (k := .i64) (a := Int.tmod y12.2.2 (w64 (p2 * p2))) (b := 0) rfl (by kernel_rfl) (by kernel_rfl))) ?_
            refine XL_cons rfl (X_of_Y0 rfl (Y0_pickFe (b := !eqI (Int.tmod y12.2.1 p2) 0) (p := !eqI (Int.tmod y12.2.2 (w64 (p2 * p2))) 0) rfl (by kernel_rfl) hc14 (by kernel_rfl) hb16)) ?_
            refine XL_nil ?_
            kernel_rfl
        refine V_cond rfl (fun hc17 => ?_) (fun hc17 => ?_)
        · have h := of_true h hc17
          refine V_exit ?_
          show V _ _ _ _
          obtain ⟨t18, ht18, h⟩ := of_sI h
          refine V_reg [false, true, false, false, true, true, false, true, false, false, true, false, true, false, false, false, false, false, false, false, false, false, false, false, false, false, false, false, false, false, false, false, false, false, false, false, false, false, false, false, false, false, false, false, false, false, false, false, false, false, false, false, false, false, false, false, false, false, false, false, false, false, false, false, false, false, false, false, false, false, false, false, false, false, false, false, false, false, false, false, false, false, false, false, false, false, false, false, false, false, false, false] [80, 56, 40, 32] (s1 := ⟨[.bot, I p2, .bot, .bot, .pt 32 0, .pt 40 0, .bot, .pt 56 0, .bot, .bot, .pt 80 0, .bot, I t18, .bot, .bot, .bot, .bot, .bot, .bot, .bot, .bot, .bot, .bot, .bot, .bot, .bot, .bot, .bot, .bot, .bot, .bot, .bot, .bot, .bot, .bot, .bot, .bot, .bot, .bot, .bot, .bot, .bot, .bot, .bot, .bot, .bot, .bot, .bot, .bot, .bot, .bot, .bot, .bot, .bot, .bot, .bot, .bot, .bot, .bot, .bot, .bot, .bot, .bot, .bot, .bot, .bot, .bot, .bot, .bot, .bot, .bot, .bot, .bot, .bot, .bot, .bot, .bot, .bot, .bot, .bot, .bot, .bot, .bot, .bot, .bot, .bot, .bot, .bot, .bot, .bot, .bot, .bot], [(80, .box [Ti y5.1.1, Ti y5.1.2.1, Ti y5.1.2.2]), (56, .box [Ti y6.1, Ti y6.2.1, Ti y6.2.2.1, Ti y6.2.2.2]), (40, .box [Ti 0, Ti 0, Ti 0, Ti 0]), (32, .box [Ti 0, Ti 0, Ti 0])]⟩) ?_ ?_
          · refine XL_cons rfl (X_of_Y0 rfl (E_move (I t7) rfl (by kernel_rfl))) ?_
            refine XL_cons rfl (X_of_Y0 rfl (Y0_add64 (a := t7) (b := 1) rfl (by kernel_rfl) (by kernel_rfl))) ?_
            refine XL_cons rfl (X_of_Y0 rfl (E_assign (I (w64 (t7 + 1))) rfl (by kernel_rfl))) ?_
            refine XL_nil ?_
            subst ht18
            kernel_rfl
          exact ⟨n, Nat.lt_succ_self n, _,  by rfl, h⟩
        · have h := of_false h hc17
          refine V_skip ?_
          show V _ _ _ _
          obtain ⟨z19, hz19, h⟩ := of_bind h
          obtain ⟨z20, hz20, h⟩ := of_bind h
          obtain ⟨y21, hy21, h⟩ := of_bind h
          refine V_sdreg [0, 1, 0, 4, 0, 28, 0, 64, 0, 0, 768, 1984, 4095, 8191, 16383, 32767, 32767, 0, 0, 458751, 1048575] 20 [[.z, .z, .b, .b, .b, .b, .b, .b, .b, .b, .b, .b, .z, .z, .z, .z, .z, .b, .b, .z], [.a, .z, .b, .b, .b, .b, .b, .b, .b, .b, .b, .b, .z, .z, .z, .z, .z, .b, .b, .z], [.b, .b, .z, .z, .b, .z, .b, .b, .b, .b, .b, .b, .z, .z, .z, .z, .z, .b, .b, .z], [.b, .b, .a, .z, .b, .z, .b, .b, .b, .b, .b, .b, .z, .z, .z, .z, .z, .b, .b, .z], [.b, .b, .b, .b, .z, .z, .b, .b, .b, .b, .b, .b, .z, .z, .z, .z, .z, .b, .b, .z], [.b, .b, .a, .a, .a, .z, .b, .b, .b, .b, .b, .b, .z, .z, .z, .z, .z, .b, .b, .z], [.b, .b, .b, .b, .b, .b, .z, .z, .b, .b, .b, .z, .z, .z, .z, .z, .z, .b, .b, .z], [.b, .b, .b, .b, .b, .b, .a, .z, .b, .b, .b, .z, .z, .z, .z, .z, .z, .b, .b, .z], [.b, .b, .b, .b, .b, .b, .b, .b, .z, .b, .z, .z, .z, .z, .z, .z, .z, .b, .b, .z], [.b, .b, .b, .b, .b, .b, .b, .b, .b, .z, .z, .z, .z, .z, .z, .z, .z, .b, .b, .z], [.b, .b, .b, .b, .b, .b, .b, .b, .a, .a, .z, .z, .z, .z, .z, .z, .z, .b, .b, .z], [.b, .b, .b, .b, .b, .b, .a, .a, .a, .a, .a, .z, .z, .z, .z, .z, .z, .b, .b, .z], [.a, .a, .a, .a, .a, .a, .a, .a, .a, .a, .a, .a, .z, .z, .z, .z, .z, .b, .b, .z], [.a, .a, .a, .a, .a, .a, .a, .a, .a, .a, .a, .a, .a, .z, .z, .z, .z, .b, .b, .z], [.a, .a, .a, .a, .a, .a, .a, .a, .a, .a, .a, .a, .a, .a, .z, .z, .z, .b, .b, .z], [.a, .a, .a, .a, .a, .a, .a, .a, .a, .a, .a, .a, .a, .a, .a, .z, .b, .b, .b, .z], [.a, .a, .a, .a, .a, .a, .a, .a, .a, .a, .a, .a, .a, .a, .a, .b, .z, .b, .b, .r 112], [.b, .b, .b, .b, .b, .b, .b, .b, .b, .b, .b, .b, .b, .b, .b, .b, .b, .z, .b, .z], [.b, .b, .b, .b, .b, .b, .b, .b, .b, .b, .b, .b, .b, .b, .b, .b, .b, .b, .z, .z], [.a, .a, .a, .a, .a, .a, .a, .a, .a, .a, .a, .a, .a, .a, .a, .a, .b, .a, .a, .z]] [false, true, false, false, true, true, false, true, false, false, false, false, true, false, true, true, false, false, false, false, false, false, false, false, false, false, false, false, false, false, false, false, false, false, false, false, false, false, false, false, false, false, false, false, false, false, false, false, false, false, false, false, false, false, false, false, false, false, false, false, false, false, false, false, false, false, false, false, false, false, false, false, false, false, false, false, false, false, false, false, false, false, false, false, false, false, false, false, false, false, false, false] [120, 112, 56, 40, 32] (s1 := ⟨[.bot, I p2, .bot, .bot, .pt 32 0, .pt 40 0, .bot, .pt 56 0, .bot, .bot, .bot, .bot, I t7, .bot, .pt 112 0, .pt 120 0, .bot, .bot, .bot, .bot, .bot, .bot, .bot, .bot, .bot, .bot, .bot, .bot, .bot, .bot, .bot, .bot, .bot, .bot, .bot, .bot, .bot, .bot, .bot, .bot, .bot, .bot, .bot, .bot, .bot, .bot, .bot, .bot, .bot, .bot, .bot, .bot, .bot, .bot, .bot, .bot, .bot, .bot, .bot, .bot, .bot, .bot, .bot, .bot, .bot, .bot, .bot, .bot, .bot, .bot, .bot, .bot, .bot, .bot, .bot, .bot, .bot, .bot, .bot, .bot, .bot, .bot, .bot, .bot, .bot, .bot, .bot, .bot, .bot, .bot, .bot, .bot], [(120, .box [Ti y21.2.1, Ti y21.2.2.1, Ti y21.2.2.2.1, Ti y21.2.2.2.2]), (112, .box [Ti y21.1.1, Ti y21.1.2.1, Ti y21.1.2.2]), (56, .box [Ti y6.1, Ti y6.2.1, Ti y6.2.2.1, Ti y6.2.2.2]), (40, .box [Ti 0, Ti 0, Ti 0, Ti 0]), (32, .box [Ti 0, Ti 0, Ti 0])]⟩) (by kernel_rfl) (by kernel_rfl) ?_ ?_
          · refine DE_0 0 (.pt 104 0) (by kernel_rfl) rfl rfl rfl (gsat_none rfl) (by kernel_rfl) (E_field (.pt 104 0) Try.underlying36 rfl sz3 rfl (by kernel_rfl) (by intro hh; cases hh)) 61 rfl ?_
            refine DE_0 1 (I y12.1) (by kernel_rfl) rfl rfl rfl (gsat_none rfl) (by kernel_rfl) (Y0_load1 (c := Ti y12.1) (cs := [Ti y12.2.1, Ti y12.2.2]) sc3 rfl (by kernel_rfl)) 62 rfl ?_
            refine DE_0 2 (.pt 104 1) (by kernel_rfl) rfl rfl rfl (gsat_none rfl) (by kernel_rfl) (E_field (.pt 104 1) Try.underlying36 rfl sz3 rfl (by kernel_rfl) (by intro hh; cases hh)) 63 rfl ?_
            refine DE_0 3 (I y12.2.1) (by kernel_rfl) rfl rfl rfl (gsat_none rfl) (by kernel_rfl) (Y0_load1 (c := Ti y12.2.1) (cs := [Ti y12.2.2]) sc3 rfl (by kernel_rfl)) 64 rfl ?_
            refine DE_0 4 (I p2) (by kernel_rfl) rfl rfl rfl (gsat_none rfl) (by kernel_rfl) (E_move (I p2) rfl (by kernel_rfl)) 65 rfl ?_
            refine DE_0 5 (I (w64 (Int.tdiv y12.2.1 p2))) (by kernel_rfl) rfl rfl rfl (gsat_none rfl) (by kernel_rfl) (Y0_quo64 (a := y12.2.1) (b := p2) rfl (by kernel_rfl) (by kernel_rfl) (nz_some hz19)) 66 rfl ?_
            refine DE_0 6 (.pt 104 2) (by kernel_rfl) rfl rfl rfl (gsat_none rfl) (by kernel_rfl) (E_field (.pt 104 2) Try.underlying36 rfl sz3 rfl (by kernel_rfl) (by intro hh; cases hh)) 67 rfl ?_
            refine DE_0 7 (I y12.2.2) (by kernel_rfl) rfl rfl rfl (gsat_none rfl) (by kernel_rfl) (Y0_load1 (c := Ti y12.2.2) (cs := []) sc3 rfl (by kernel_rfl)) 68 rfl ?_
            refine DE_0 8 (I p2) (by kernel_rfl) rfl rfl rfl (gsat_none rfl) (by kernel_rfl) (E_move (I p2) rfl (by kernel_rfl)) 69 rfl ?_
            refine DE_0 9 (I p2) (by kernel_rfl) rfl rfl rfl (gsat_none rfl) (by kernel_rfl) (E_move (I p2) rfl (by kernel_rfl)) 70 rfl ?_
            refine DE_0 10 (I (w64 (p2 * p2))) (by kernel_rfl) rfl rfl rfl (gsat_none rfl) (by kernel_rfl) (Y0_mul64 (a := p2) (b := p2) rfl (by kernel_rfl) (by kernel_rfl)) 71 rfl ?_
            refine DE_0 11 (I (w64 (Int.tdiv y12.2.2 (w64 (p2 * p2))))) (by kernel_rfl) rfl rfl rfl (gsat_none rfl) (by kernel_rfl) (Y0_quo64 (a := y12.2.2) (b := w64 (p2 * p2)) rfl (by kernel_rfl) (by kernel_rfl) (nz_some hz20)) 72 rfl ?_
            refine DE_0 12 (.ag [Ti y12.1, Ti (w64 (Int.tdiv y12.2.1 p2)), Ti (w64 (Int.tdiv y12.2.2 (w64 (p2 * p2))))]) (by kernel_rfl) rfl rfl rfl (gsat_none rfl) (by kernel_rfl) (Y0_build (cs := [Ti y12.1, Ti (w64 (Int.tdiv y12.2.1 p2)), Ti (w64 (Int.tdiv y12.2.2 (w64 (p2 * p2))))]) pl36 bt36 rfl rfl (by kernel_rfl)) 73 rfl ?_
            refine DE_1 13 (by kernel_rfl) rfl rfl rfl (gsat_none rfl) (Y1_call (s_spec_reReduce hy21) cf_spec_reReduce rfl (by kernel_rfl)) rfl rfl rfl 74 rfl ?_
            refine DE_0 14 (.tc (.ag [Ti y21.1.1, Ti y21.1.2.1, Ti y21.1.2.2]) (.tc (.ag [Ti y21.2.1, Ti y21.2.2.1, Ti y21.2.2.2.1, Ti y21.2.2.2.2]) .tn)) (by kernel_rfl) rfl rfl rfl (gsat_none rfl) (by kernel_rfl) (E_move (.tc (.ag [Ti y21.1.1, Ti y21.1.2.1, Ti y21.1.2.2]) (.tc (.ag [Ti y21.2.1, Ti y21.2.2.1, Ti y21.2.2.2.1, Ti y21.2.2.2.2]) .tn)) rfl (by kernel_rfl)) 60 rfl ?_
            refine DE_0 15 (.ag [Ti y21.1.1, Ti y21.1.2.1, Ti y21.1.2.2]) (by kernel_rfl) rfl rfl rfl (gsat_none rfl) (by kernel_rfl) (E_ext (n := 0) (.ag [Ti y21.1.1, Ti y21.1.2.1, Ti y21.1.2.2]) (.tc (.ag [Ti y21.2.1, Ti y21.2.2.1, Ti y21.2.2.2.1, Ti y21.2.2.2.2]) .tn) (.ag [Ti y21.1.1, Ti y21.1.2.1, Ti y21.1.2.2]) rfl (by kernel_rfl) (by kernel_rfl) (by intro hh; cases hh)) 75 rfl ?_
            refine DE_0 16 (.ag [Ti y21.2.1, Ti y21.2.2.1, Ti y21.2.2.2.1, Ti y21.2.2.2.2]) (by kernel_rfl) rfl rfl rfl (gsat_none rfl) (by kernel_rfl) (E_ext (n := 1) (.ag [Ti y21.1.1, Ti y21.1.2.1, Ti y21.1.2.2]) (.tc (.ag [Ti y21.2.1, Ti y21.2.2.1, Ti y21.2.2.2.1, Ti y21.2.2.2.2]) .tn) (.ag [Ti y21.2.1, Ti y21.2.2.1, Ti y21.2.2.2.1, Ti y21.2.2.2.2]) rfl (by kernel_rfl) (by kernel_rfl) (by intro hh; cases hh)) 76 rfl ?_
            refine DE_1 17 (by kernel_rfl) rfl rfl rfl (gsat_none rfl) (Y1_alloc (z := zv36) rfl zf36 rfl) rfl rfl rfl 14 rfl ?_
            refine DE_1 18 (by kernel_rfl) rfl rfl rfl (gsat_none rfl) (Y1_alloc (z := zv38) rfl zf38 rfl) rfl rfl rfl 15 rfl ?_
            refine DE_2 (off := 0) (cs := [Ti 0, Ti 0, Ti 0]) (vc := [Ti y21.1.1, Ti y21.1.2.1, Ti y21.1.2.2]) 19 112 [Ti y21.1.1, Ti y21.1.2.1, Ti y21.1.2.2] (by kernel_rfl) rfl rfl rfl (gsat_none rfl) rfl rfl (by kernel_rfl) (by kernel_rfl) (by kernel_rfl) sz36 (Nat.le_of_ble_eq_true rfl) (by kernel_rfl) (by kernel_rfl) (by kernel_rfl) (by kernel_rfl) ?_
            refine DL_nil (by kernel_rfl) ?_
            refine XL_cons rfl (E_store (id := 120) (off := 0) (cs := [Ti 0, Ti 0, Ti 0, Ti 0]) (vc := [Ti y21.2.1, Ti y21.2.2.1, Ti y21.2.2.2.1, Ti y21.2.2.2.2]) [Ti y21.2.1, Ti y21.2.2.1, Ti y21.2.2.2.1, Ti y21.2.2.2.2] rfl rfl (by kernel_rfl) (by kernel_rfl) (by kernel_rfl) sz38 (Nat.le_of_ble_eq_true rfl) (by kernel_rfl)) ?_
            refine XL_nil ?_
            kernel_rfl
          obtain ⟨y22, hy22, h⟩ := of_bind h
          obtain ⟨y23, hy23, h⟩ := of_bind h
          refine V_sdreg [0, 0, 2, 7, 15] 4 [[.z, .b, .b, .z], [.b, .z, .z, .z], [.b, .a, .z, .z], [.a, .a, .a, .z]] [false, true, false, false, true, true, false, true, false, false, false, false, false, false, true, true, false, false, false, false, false, false, false, false, false, false, false, false, false, false, false, false, false, false, false, false, false, false, false, false, false, false, false, false, false, false, false, false, false, false, false, false, false, false, false, false, false, false, false, false, false, false, false, false, false, false, false, false, false, false, false, false, false, false, false, false, false, false, false, false, false, false, false, false, false, false, false, false, false, false, false, false] [120, 112, 56, 40, 32] (s1 := ⟨[.bot, I p2, .bot, .bot, .pt 32 0, .pt 40 0, .bot, .pt 56 0, .bot, .bot, .bot, .bot, .bot, .bot, .pt 112 0, .pt 120 0, .bot, .bot, .bot, .bot, .bot, .bot, .bot, .bot, .bot, .bot, .bot, .bot, .bot, .bot, .bot, .bot, .bot, .bot, .bot, .bot, .bot, .bot, .bot, .bot, .bot, .bot, .bot, .bot, .bot, .bot, .bot, .bot, .bot, .bot, .bot, .bot, .bot, .bot, .bot, .bot, .bot, .bot, .bot, .bot, .bot, .bot, .bot, .bot, .bot, .bot, .bot, .bot, .bot, .bot, .bot, .bot, .bot, .bot, .bot, .bot, .bot, .bot, .bot, .bot, .bot, .bot, .bot, .bot, .bot, .bot, .bot, .bot, .bot, .bot, .bot, .bot], [(120, .box [Ti y21.2.1, Ti y21.2.2.1, Ti y21.2.2.2.1, Ti y21.2.2.2.2]), (112, .box [Ti y21.1.1, Ti y21.1.2.1, Ti y21.1.2.2]), (56, .box [Ti y23.1, Ti y23.2.1, Ti y23.2.2.1, Ti y23.2.2.2]), (40, .box [Ti 0, Ti 0, Ti 0, Ti 0]), (32, .box [Ti 0, Ti 0, Ti 0])]⟩) (by kernel_rfl) (by kernel_rfl) ?_ ?_
          · refine DE_0 0 (.ag [Ti y6.1, Ti y6.2.1, Ti y6.2.2.1, Ti y6.2.2.2]) (by kernel_rfl) rfl rfl rfl (gsat_none rfl) (by kernel_rfl) (E_loadn (cs := [Ti y6.1, Ti y6.2.1, Ti y6.2.2.1, Ti y6.2.2.2]) [Ti y6.1, Ti y6.2.1, Ti y6.2.2.1, Ti y6.2.2.2] wd38 rfl (by kernel_rfl) (Nat.le_of_ble_eq_true rfl) (by kernel_rfl)) 77 rfl ?_
            refine DE_0 1 (I t7) (by kernel_rfl) rfl rfl rfl (gsat_none rfl) (by kernel_rfl) (E_move (I t7) rfl (by kernel_rfl)) 78 rfl ?_
            refine DE_1 2 (by kernel_rfl) rfl rfl rfl (gsat_none rfl) (Y1_call (s_spec_coShift hy22) cf_spec_coShift rfl (by kernel_rfl)) rfl rfl rfl 79 rfl ?_
            refine DE_1 3 (by kernel_rfl) rfl rfl rfl (gsat_none rfl) (Y1_call (s_spec_foMul hy23) cf_spec_foMul rfl (by kernel_rfl)) rfl rfl rfl 80 rfl ?_
            refine DL_nil (by kernel_rfl) ?_
            refine XL_cons rfl (E_store (id := 56) (off := 0) (cs := [Ti y6.1, Ti y6.2.1, Ti y6.2.2.1, Ti y6.2.2.2]) (vc := [Ti y23.1, Ti y23.2.1, Ti y23.2.2.1, Ti y23.2.2.2]) [Ti y23.1, Ti y23.2.1, Ti y23.2.2.1, Ti y23.2.2.2] rfl rfl (by kernel_rfl) (by kernel_rfl) (by kernel_rfl) sz38 (Nat.le_of_ble_eq_true rfl) (by kernel_rfl)) ?_
            refine XL_nil ?_
            kernel_rfl
          obtain ⟨y24, hy24, h⟩ := of_bind h
          obtain ⟨y25, hy25, h⟩ := of_bind h
          obtain ⟨y26, hy26, h⟩ := of_bind h
          obtain ⟨y27, hy27, h⟩ := of_bind h
          refine V_sdreg [0, 0, 2, 0, 8, 30, 0, 126, 254, 511, 1023] 9 [[.z, .b, .b, .b, .b, .b, .b, .b, .b], [.b, .z, .z, .b, .b, .z, .b, .z, .z], [.b, .a, .z, .b, .b, .z, .b, .z, .z], [.b, .b, .b, .z, .z, .z, .b, .z, .z], [.b, .b, .b, .a, .z, .z, .b, .z, .z], [.b, .a, .a, .a, .a, .z, .b, .z, .z], [.b, .b, .b, .b, .b, .b, .z, .z, .z], [.b, .a, .a, .a, .a, .a, .a, .z, .z], [.b, .a, .a, .a, .a, .a, .a, .a, .z]] [false, false, false, false, true, true, false, false, false, false, false, false, false, false, false, false, false, false, false, false, false, false, false, false, false, false, false, false, false, false, false, false, false, false, false, false, false, false, false, false, false, false, false, false, false, false, false, false, false, false, false, false, false, false, false, false, false, false, false, false, false, false, false, false, false, false, false, false, false, false, false, false, false, false, false, false, false, false, false, false, false, false, false, false, false, false, false, false, false, false, false, false] [40, 32] (s1 := ⟨[.bot, .bot, .bot, .bot, .pt 32 0, .pt 40 0, .bot, .bot, .bot, .bot, .bot, .bot, .bot, .bot, .bot, .bot, .bot, .bot, .bot, .bot, .bot, .bot, .bot, .bot, .bot, .bot, .bot, .bot, .bot, .bot, .bot, .bot, .bot, .bot, .bot, .bot, .bot, .bot, .bot, .bot, .bot, .bot, .bot, .bot, .bot, .bot, .bot, .bot, .bot, .bot, .bot, .bot, .bot, .bot, .bot, .bot, .bot, .bot, .bot, .bot, .bot, .bot, .bot, .bot, .bot, .bot, .bot, .bot, .bot, .bot, .bot, .bot, .bot, .bot, .bot, .bot, .bot, .bot, .bot, .bot, .bot, .bot, .bot, .bot, .bot, .bot, .bot, .bot, .bot, .bot, .bot, .bot], [(40, .box [Ti y27.1, Ti y27.2.1, Ti y27.2.2.1, Ti y27.2.2.2]), (32, .box [Ti y21.1.1, Ti y21.1.2.1, Ti y21.1.2.2])]⟩) (by kernel_rfl) (by kernel_rfl) ?_ ?_
          · refine DE_0 0 (.ag [Ti y21.1.1, Ti y21.1.2.1, Ti y21.1.2.2]) (by kernel_rfl) rfl rfl rfl (gsat_none rfl) (by kernel_rfl) (E_loadn (cs := [Ti y21.1.1, Ti y21.1.2.1, Ti y21.1.2.2]) [Ti y21.1.1, Ti y21.1.2.1, Ti y21.1.2.2] wd36 rfl (by kernel_rfl) (Nat.le_of_ble_eq_true rfl) (by kernel_rfl)) 81 rfl ?_
            refine DE_0 1 (.ag [Ti y21.2.1, Ti y21.2.2.1, Ti y21.2.2.2.1, Ti y21.2.2.2.2]) (by kernel_rfl) rfl rfl rfl (gsat_none rfl) (by kernel_rfl) (E_loadn (cs := [Ti y21.2.1, Ti y21.2.2.1, Ti y21.2.2.2.1, Ti y21.2.2.2.2]) [Ti y21.2.1, Ti y21.2.2.1, Ti y21.2.2.2.1, Ti y21.2.2.2.2] wd38 rfl (by kernel_rfl) (Nat.le_of_ble_eq_true rfl) (by kernel_rfl)) 82 rfl ?_
            refine DE_1 2 (by kernel_rfl) rfl rfl rfl (gsat_none rfl) (Y1_call (s_spec_foInverse hy24) cf_spec_foInverse rfl (by kernel_rfl)) rfl rfl rfl 83 rfl ?_
            refine DE_0 3 (I p2) (by kernel_rfl) rfl rfl rfl (gsat_none rfl) (by kernel_rfl) (E_move (I p2) rfl (by kernel_rfl)) 84 rfl ?_
            refine DE_0 4 (.ag [Ti 1, Ti 0, Ti 0, Ti p2]) (by kernel_rfl) rfl rfl rfl (gsat_none rfl) (by kernel_rfl) (Y0_build (cs := [Ti 1, Ti 0, Ti 0, Ti p2]) pl38 bt38 rfl rfl (by kernel_rfl)) 85 rfl ?_
            refine DE_1 5 (by kernel_rfl) rfl rfl rfl (gsat_none rfl) (Y1_call (s_spec_foMul hy25) cf_spec_foMul rfl (by kernel_rfl)) rfl rfl rfl 86 rfl ?_
            refine DE_0 6 (.ag [Ti y23.1, Ti y23.2.1, Ti y23.2.2.1, Ti y23.2.2.2]) (by kernel_rfl) rfl rfl rfl (gsat_none rfl) (by kernel_rfl) (E_loadn (cs := [Ti y23.1, Ti y23.2.1, Ti y23.2.2.1, Ti y23.2.2.2]) [Ti y23.1, Ti y23.2.1, Ti y23.2.2.1, Ti y23.2.2.2] wd38 rfl (by kernel_rfl) (Nat.le_of_ble_eq_true rfl) (by kernel_rfl)) 87 rfl ?_
            refine DE_1 7 (by kernel_rfl) rfl rfl rfl (gsat_none rfl) (Y1_call (s_spec_foInverse hy26) cf_spec_foInverse rfl (by kernel_rfl)) rfl rfl rfl 88 rfl ?_
            refine DE_1 8 (by kernel_rfl) rfl rfl rfl (gsat_none rfl) (Y1_call (s_spec_foMul hy27) cf_spec_foMul rfl (by kernel_rfl)) rfl rfl rfl 89 rfl ?_
            refine DL_nil (by kernel_rfl) ?_
            refine XL_cons rfl (E_store (id := 32) (off := 0) (cs := [Ti 0, Ti 0, Ti 0]) (vc := [Ti y21.1.1, Ti y21.1.2.1, Ti y21.1.2.2]) [Ti y21.1.1, Ti y21.1.2.1, Ti y21.1.2.2] rfl rfl (by kernel_rfl) (by kernel_rfl) (by kernel_rfl) sz36 (Nat.le_of_ble_eq_true rfl) (by kernel_rfl)) ?_
            refine XL_cons rfl (E_store (id := 40) (off := 0) (cs := [Ti 0, Ti 0, Ti 0, Ti 0]) (vc := [Ti y27.1, Ti y27.2.1, Ti y27.2.2.1, Ti y27.2.2.2]) [Ti y27.1, Ti y27.2.1, Ti y27.2.2.1, Ti y27.2.2.2] rfl rfl (by kernel_rfl) (by kernel_rfl) (by kernel_rfl) sz38 (Nat.le_of_ble_eq_true rfl) (by kernel_rfl)) ?_
            refine XL_nil ?_
            kernel_rfl
          refine V_ret ?_
          obtain rfl := some_inj h
          have h := hko9
          obtain rfl := some_inj h
          show Post _ _ _ _ _
          exact ⟨.inr rfl, rfl, rfl, rfl⟩
      · have h := of_false h hc10
        refine V_exit ?_
        obtain rfl := some_inj h
        exact ⟨_, rfl, by rfl⟩
  rintro o9 rfl
  have h := hko9
  clear hko9
  show V _ _ _ _
  refine V_sreg [false, false, false, false, true, true, false, false, false, false, false, false, false, false, false, false, false, false, false, false, false, false, false, false, false, false, false, false, false, false, false, false, false, false, false, false, false, false, false, false, false, false, false, false, false, false, false, false, false, false, false, false, false, false, false, false, false, false, false, false, false, false, false, false, false, false, false, false, false, false, false, false, false, false, false, false, false, false, false, false, false, false, false, false, false, false, false, false, false, false, false, false] [40, 32] (s1 := ⟨[.bot, .bot, .bot, .bot, .pt 32 0, .pt 40 0, .bot, .bot, .bot, .bot, .bot, .bot, .bot, .bot, .bot, .bot, .bot, .bot, .bot, .bot, .bot, .bot, .bot, .bot, .bot, .bot, .bot, .bot, .bot, .bot, .bot, .bot, .bot, .bot, .bot, .bot, .bot, .bot, .bot, .bot, .bot, .bot, .bot, .bot, .bot, .bot, .bot, .bot, .bot, .bot, .bot, .bot, .bot, .bot, .bot, .bot, .bot, .bot, .bot, .bot, .bot, .bot, .bot, .bot, .bot, .bot, .bot, .bot, .bot, .bot, .bot, .bot, .bot, .bot, .bot, .bot, .bot, .bot, .bot, .bot, .bot, .bot, .bot, .bot, .bot, .bot, .bot, .bot, .bot, .bot, .bot, .bot], [(40, .box [Ti 0, Ti 0, Ti 0, Ti 0]), (32, .box [Ti 0, Ti 0, Ti 0])]⟩) ?_ ?_
  · refine XL_cons rfl (X_of_Y0 rfl (Y0_build (cs := [Ti 0, Ti 0, Ti 0]) pl36 bt36 rfl rfl (by kernel_rfl))) ?_
    refine XL_cons rfl (X_of_Y0 rfl (Y0_build (cs := [Ti 0, Ti 0, Ti 0, Ti 0]) pl38 bt38 rfl rfl (by kernel_rfl))) ?_
    refine XL_cons rfl (E_store (id := 32) (off := 0) (cs := [Ti 0, Ti 0, Ti 0]) (vc := [Ti 0, Ti 0, Ti 0]) [Ti 0, Ti 0, Ti 0] rfl rfl (by kernel_rfl) (by kernel_rfl) (by kernel_rfl) sz36 (Nat.le_of_ble_eq_true rfl) (by kernel_rfl)) ?_
    refine XL_cons rfl (E_store (id := 40) (off := 0) (cs := [Ti 0, Ti 0, Ti 0, Ti 0]) (vc := [Ti 0, Ti 0, Ti 0, Ti 0]) [Ti 0, Ti 0, Ti 0, Ti 0] rfl rfl (by kernel_rfl) (by kernel_rfl) (by kernel_rfl) sz38 (Nat.le_of_ble_eq_true rfl) (by kernel_rfl)) ?_
    refine XL_nil ?_
    kernel_rfl
  refine V_ret ?_
  obtain rfl := some_inj h
  show Post _ _ _ _ _
  exact ⟨.inr rfl, rfl, rfl, rfl⟩
theorem cf_spec_odLifts : ∀ args w, (callFunc 89 args).run Try.prog w = .ok (.enter 89 args) w := run_callFunc Try.func89 (by kernel_rfl) (by kernel_rfl)
set_option maxRecDepth 100000 in
set_option maxHeartbeats 400000 in
theorem s_spec_odLifts {g1 : (Int × Int × Int)} {p2 : Int} {r : List ((Int × Int × Int))} (h : r_spec_odLifts g1 p2 = some r) : CallS Try.prog 89 [.ag [Ti g1.1, Ti g1.2.1, Ti g1.2.2], I p2] (.ow 0) [(0, .arr 36 3 (r.map c36))] := by
  refine CallS_of_text (rs := [.t 4]) (vs := [.tmp 4]) Try.func89 rfl rfl (.cons rfl FitsL.nil) (by decide) 37 rfl ?_
  unfold r_spec_odLifts at h
  show V _ _ ⟨[.ag [Ti g1.1, Ti g1.2.1, Ti g1.2.2], I p2, .bot, .bot, .bot, .bot, .bot, .bot, .bot, .bot, .bot, .bot, .bot, .bot, .bot, .bot, .bot, .bot, .bot, .bot, .bot, .bot, .bot, .bot, .bot, .bot, .bot, .bot, .bot, .bot, .bot, .bot, .bot, .bot, .bot, .bot, .bot], []⟩ _
  refine V_sreg [false, true, true, false, false, false, false, false, false, false, false, false, false, false, false, false, false, false, false, false, false, false, false, false, false, false, false, false, false, false, false, false, false, false, false, false, false] [16] (s1 := ⟨[.bot, I p2, .pt 16 0, .bot, .bot, .bot, .bot, .bot, .bot, .bot, .bot, .bot, .bot, .bot, .bot, .bot, .bot, .bot, .bot, .bot, .bot, .bot, .bot, .bot, .bot, .bot, .bot, .bot, .bot, .bot, .bot, .bot, .bot, .bot, .bot, .bot, .bot], [(16, .box [Ti g1.1, Ti g1.2.1, Ti g1.2.2])]⟩) ?_ ?_
  · refine XL_cons rfl (X_of_Y1 rfl (Y1_box (cs := [Ti g1.1, Ti g1.2.1, Ti g1.2.2]) rfl (by kernel_rfl))) ?_
    refine XL_cons rfl (X_of_Y1 rfl (Y1_nil (e := 36) 3 (by decide) (.inl rfl))) ?_
    refine XL_nil ?_
    kernel_rfl
  refine V_sreg [false, true, true, false, false, true, false, false, false, false, false, false, false, false, false, false, false, false, false, false, false, false, false, false, false, false, false, false, false, false, false, false, false, false, false, false, false] [40, 16] (s1 := ⟨[.bot, I p2, .pt 16 0, .bot, .bot, .ow 40, .bot, .bot, .bot, .bot, .bot, .bot, .bot, .bot, .bot, .bot, .bot, .bot, .bot, .bot, .bot, .bot, .bot, .bot, .bot, .bot, .bot, .bot, .bot, .bot, .bot, .bot, .bot, .bot, .bot, .bot, .bot], [(40, .arr 36 3 ((([] : List ((Int × Int × Int)))).map c36)), (16, .box [Ti g1.1, Ti g1.2.1, Ti g1.2.2])]⟩) ?_ ?_
  · refine XL_cons rfl (X_of_Y1 rfl (Y1_nil (e := 36) 3 (by decide) (.inl rfl))) ?_
    refine XL_nil ?_
    kernel_rfl
  refine V_seq ?_
  obtain ⟨y3, hy3, h⟩ := of_bind h
  obtain ⟨y4, hy4, h⟩ := of_bind h
  refine V_sreg [false, true, true, false, false, true, false, false, false, false, false, false, false, false, false, false, true, true, true, false, false, false, false, false, false, false, false, false, false, false, false, false, false, false, false, false, false] [128, 40, 16] (s1 := ⟨[.bot, I p2, .pt 16 0, .bot, .bot, .ow 40, .bot, .bot, .bot, .bot, .bot, .bot, .bot, .bot, .bot, .bot, .ow 128, I ((y4.length : Int)), I 0, .bot, .bot, .bot, .bot, .bot, .bot, .bot, .bot, .bot, .bot, .bot, .bot, .bot, .bot, .bot, .bot, .bot, .bot], [(128, .arr 36 3 (y4.map c36)), (40, .arr 36 3 ((([] : List ((Int × Int × Int)))).map c36)), (16, .box [Ti g1.1, Ti g1.2.1, Ti g1.2.2])]⟩) ?_ ?_
  · refine XL_cons rfl (X_of_Y0 rfl (E_loadn (cs := [Ti g1.1, Ti g1.2.1, Ti g1.2.2]) [Ti g1.1, Ti g1.2.1, Ti g1.2.2] wd36 rfl (by kernel_rfl) (Nat.le_of_ble_eq_true rfl) (by kernel_rfl))) ?_
    refine XL_cons rfl (X_of_Y1 rfl (Y1_call (s_spec_foDisc hy3) cf_spec_foDisc rfl (by kernel_rfl))) ?_
    refine XL_cons rfl (X_of_Y0 rfl (E_move (I p2) rfl (by kernel_rfl))) ?_
    refine XL_cons rfl (X_of_Y0 rfl (Y0_mul64 (a := y3) (b := p2) rfl (by kernel_rfl) (by kernel_rfl))) ?_
    refine XL_cons rfl (X_of_Y0 rfl (E_move (I p2) rfl (by kernel_rfl))) ?_
    refine XL_cons rfl (X_of_Y0 rfl (Y0_mul64 (a := w64 (y3 * p2)) (b := p2) rfl (by kernel_rfl) (by kernel_rfl))) ?_
    refine XL_cons rfl (X_of_Y1 rfl (Y1_call (s_spec_reList hy4) cf_spec_reList rfl (by kernel_rfl))) ?_
    refine XL_cons rfl (X_of_Y0 rfl (Y0_lenM (c := c36) (xs := y4) Try.underlying53 rfl (by kernel_rfl))) ?_
    refine XL_cons rfl (X_of_Y0 rfl (E_move (I 0) rfl (by kernel_rfl))) ?_
    refine XL_nil ?_
    kernel_rfl
  obtain ⟨o8, hLo8, h⟩ := of_bind h
  refine V_toK [false, false, false, false, false, true, false, false, false, false, false, false, false, false, false, false, false, false, false, false, false, false, false, false, false, false, false, false, false, false, false, false, false, false, false, false, false] [40] (s1 := ⟨[.bot, .bot, .bot, .bot, .bot, .ow 40, .bot, .bot, .bot, .bot, .bot, .bot, .bot, .bot, .bot, .bot, .bot, .bot, .bot, .bot, .bot, .bot, .bot, .bot, .bot, .bot, .bot, .bot, .bot, .bot, .bot, .bot, .bot, .bot, .bot, .bot, .bot], [(40, .arr 36 3 (o8.map c36))]⟩) ?_ ?_
  · clear h
    refine V_block (V_loop (fun n s => ∃ (t5 : Int) (l6 : List ((Int × Int × Int))), s.keep [false, true, true, false, false, true, false, false, false, false, false, false, false, false, false, false, true, true, true, false, false, false, false, false, false, false, false, false, false, false, false, false, false, false, false, false, false] [128, 40, 16] = (⟨[.bot, I p2, .pt 16 0, .bot, .bot, .ow 40, .bot, .bot, .bot, .bot, .bot, .bot, .bot, .bot, .bot, .bot, .ow 128, I ((y4.length : Int)), I t5, .bot, .bot, .bot, .bot, .bot, .bot, .bot, .bot, .bot, .bot, .bot, .bot, .bot, .bot, .bot, .bot, .bot, .bot], [(128, .arr 36 3 (y4.map c36)), (40, .arr 36 3 (l6.map c36)), (16, .box [Ti g1.1, Ti g1.2.1, Ti g1.2.2])]⟩ : St) ∧ r_spec_odLifts_L7 g1 p2 y4 n t5 l6 = some o8) FU ⟨_, _,  by rfl, hLo8⟩ ?_)
    clear hLo8
    rintro n s ⟨t5, l6, hs, h⟩
    refine V_keep _ _ hs ?_
    clear hs
    cases n with
    | zero => cases h
    | succ n =>
      rw [r_spec_odLifts_L7] at h
      refine V_sreg [false, true, true, false, false, true, false, false, false, false, false, false, false, false, false, false, true, true, true, true, false, false, false, false, false, false, false, false, false, false, false, false, false, false, false, false, false] [128, 40, 16] (s1 := ⟨[.bot, I p2, .pt 16 0, .bot, .bot, .ow 40, .bot, .bot, .bot, .bot, .bot, .bot, .bot, .bot, .bot, .bot, .ow 128, I ((y4.length : Int)), I t5, Bo (ltI t5 ((y4.length : Int))), .bot, .bot, .bot, .bot, .bot, .bot, .bot, .bot, .bot, .bot, .bot, .bot, .bot, .bot, .bot, .bot, .bot], [(128, .arr 36 3 (y4.map c36)), (40, .arr 36 3 (l6.map c36)), (16, .box [Ti g1.1, Ti g1.2.1, Ti g1.2.2])]⟩) ?_ ?_
      · refine XL_cons rfl (X_of_Y0 rfl (Y0_ltw (k := .i64) (a := t5) (b := (y4.length : Int)) rfl (by kernel_rfl) (by kernel_rfl))) ?_
        refine XL_nil ?_
        kernel_rfl
      refine V_seq ?_
      refine V_cond rfl (fun hc9 => ?_) (fun hc9 => ?_)
      · have h := of_true h hc9
        refine V_skip ?_
        show V _ _ _ _
        refine V_seq ?_
        refine V_block ?_
        obtain ⟨e10, he10, h⟩ := of_bind h
        obtain ⟨e11, he11, h⟩ := of_bind h
        refine V_sreg [false, true, true, false, false, true, false, true, false, false, false, false, false, false, false, false, true, true, true, false, false, false, false, false, false, false, false, false, false, false, false, false, false, false, false, false, false] [56, 128, 40, 16] (s1 := ⟨[.bot, I p2, .pt 16 0, .bot, .bot, .ow 40, .bot, .pt 56 0, .bot, .bot, .bot, .bot, .bot, .bot, .bot, .bot, .ow 128, I ((y4.length : Int)), I t5, .bot, .bot, .bot, .bot, .bot, .bot, .bot, .bot, .bot, .bot, .bot, .bot, .bot, .bot, .bot, .bot, .bot, .bot], [(56, .box [Ti e11.1, Ti e11.2.1, Ti e11.2.2]), (128, .arr 36 3 (y4.map c36)), (40, .arr 36 3 (l6.map c36)), (16, .box [Ti g1.1, Ti g1.2.1, Ti g1.2.2])]⟩) ?_ ?_
        · refine XL_cons rfl (X_of_Y0 rfl (Y0_idxoM (c := c36) (xs := y4) (v := e10) (id := 128) (T := 36) (sz := 3) (n := t5) Try.underlying53 sz36 rfl (by kernel_rfl) (by kernel_rfl) (by kernel_rfl) he10)) ?_
          refine XL_cons rfl (X_of_Y0 rfl (E_loadon (c := c36) (xs := y4) (v := e11) (id := 128) (sz := 3) (T := 36) (off := 0) (n := t5) [Ti e11.1, Ti e11.2.1, Ti e11.2.2] wd36 rfl (by kernel_rfl) (by kernel_rfl) he11 (Nat.le_of_ble_eq_true rfl) (by kernel_rfl))) ?_
          refine XL_cons rfl (X_of_Y1 rfl (Y1_alloc (z := zv36) rfl zf36 rfl)) ?_
          refine XL_cons rfl (E_store (id := 56) (off := 0) (cs := [Ti 0, Ti 0, Ti 0]) (vc := [Ti e11.1, Ti e11.2.1, Ti e11.2.2]) [Ti e11.1, Ti e11.2.1, Ti e11.2.2] rfl rfl (by kernel_rfl) (by kernel_rfl) (by kernel_rfl) sz36 (Nat.le_of_ble_eq_true rfl) (by kernel_rfl)) ?_
          refine XL_nil ?_
          kernel_rfl
        obtain ⟨y12, hy12, h⟩ := of_bind h
        refine V_sreg [false, true, true, false, false, true, false, true, true, false, false, false, false, false, false, false, true, true, true, false, false, false, false, false, false, false, false, false, false, false, false, false, false, false, false, false, false] [64, 56, 128, 40, 16] (s1 := ⟨[.bot, I p2, .pt 16 0, .bot, .bot, .ow 40, .bot, .pt 56 0, .pt 64 0, .bot, .bot, .bot, .bot, .bot, .bot, .bot, .ow 128, I ((y4.length : Int)), I t5, .bot, .bot, .bot, .bot, .bot, .bot, .bot, .bot, .bot, .bot, .bot, .bot, .bot, .bot, .bot, .bot, .bot, .bot], [(64, .box [Ti y12.1.1, Ti y12.1.2.1, Ti y12.1.2.2]), (56, .box [Ti e11.1, Ti e11.2.1, Ti e11.2.2]), (128, .arr 36 3 (y4.map c36)), (40, .arr 36 3 (l6.map c36)), (16, .box [Ti g1.1, Ti g1.2.1, Ti g1.2.2])]⟩) ?_ ?_
        · refine XL_cons rfl (X_of_Y0 rfl (E_loadn (cs := [Ti e11.1, Ti e11.2.1, Ti e11.2.2]) [Ti e11.1, Ti e11.2.1, Ti e11.2.2] wd36 rfl (by kernel_rfl) (Nat.le_of_ble_eq_true rfl) (by kernel_rfl))) ?_
          refine XL_cons rfl (X_of_Y0 rfl (E_move (I p2) rfl (by kernel_rfl))) ?_
          refine XL_cons rfl (X_of_Y1 rfl (Y1_call (s_spec_odDescend hy12) cf_spec_odDescend rfl (by kernel_rfl))) ?_
          refine XL_cons rfl (X_of_Y0 rfl (E_move (.tc (.ag [Ti y12.1.1, Ti y12.1.2.1, Ti y12.1.2.2]) (.tc (.ag [Ti y12.2.1, Ti y12.2.2.1, Ti y12.2.2.2.1, Ti y12.2.2.2.2]) .tn)) rfl (by kernel_rfl))) ?_
          refine XL_cons rfl (X_of_Y0 rfl (E_ext (n := 0) (.ag [Ti y12.1.1, Ti y12.1.2.1, Ti y12.1.2.2]) (.tc (.ag [Ti y12.2.1, Ti y12.2.2.1, Ti y12.2.2.2.1, Ti y12.2.2.2.2]) .tn) (.ag [Ti y12.1.1, Ti y12.1.2.1, Ti y12.1.2.2]) rfl (by kernel_rfl) (by kernel_rfl) (by intro hh; cases hh))) ?_
          refine XL_cons rfl (X_of_Y0 rfl (E_ext (n := 1) (.ag [Ti y12.1.1, Ti y12.1.2.1, Ti y12.1.2.2]) (.tc (.ag [Ti y12.2.1, Ti y12.2.2.1, Ti y12.2.2.2.1, Ti y12.2.2.2.2]) .tn) (.ag [Ti y12.2.1, Ti y12.2.2.1, Ti y12.2.2.2.1, Ti y12.2.2.2.2]) rfl (by kernel_rfl) (by kernel_rfl) (by intro hh; cases hh))) ?_
          refine XL_cons rfl (X_of_Y1 rfl (Y1_alloc (z := zv36) rfl zf36 rfl)) ?_
          refine XL_cons rfl (X_of_Y1 rfl (Y1_alloc (z := zv38) rfl zf38 rfl)) ?_
          refine XL_cons rfl (E_store (id := 64) (off := 0) (cs := [Ti 0, Ti 0, Ti 0]) (vc := [Ti y12.1.1, Ti y12.1.2.1, Ti y12.1.2.2]) [Ti y12.1.1, Ti y12.1.2.1, Ti y12.1.2.2] rfl rfl (by kernel_rfl) (by kernel_rfl) (by kernel_rfl) sz36 (Nat.le_of_ble_eq_true rfl) (by kernel_rfl)) ?_
          refine XL_cons rfl (E_store (id := 72) (off := 0) (cs := [Ti 0, Ti 0, Ti 0, Ti 0]) (vc := [Ti y12.2.1, Ti y12.2.2.1, Ti y12.2.2.2.1, Ti y12.2.2.2.2]) [Ti y12.2.1, Ti y12.2.2.1, Ti y12.2.2.2.1, Ti y12.2.2.2.2] rfl rfl (by kernel_rfl) (by kernel_rfl) (by kernel_rfl) sz38 (Nat.le_of_ble_eq_true rfl) (by kernel_rfl)) ?_
          refine XL_nil ?_
          kernel_rfl
        obtain ⟨t13, ht13, h⟩ := of_bind h
        have ht13 := some_inj ht13
        refine V_sreg [false, true, true, false, false, true, false, true, false, false, false, false, false, false, false, false, true, true, true, false, false, false, false, false, false, false, false, false, false, false, true, false, false, false, false, false, false] [56, 128, 40, 16] (s1 := ⟨[.bot, I p2, .pt 16 0, .bot, .bot, .ow 40, .bot, .pt 56 0, .bot, .bot, .bot, .bot, .bot, .bot, .bot, .bot, .ow 128, I ((y4.length : Int)), I t5, .bot, .bot, .bot, .bot, .bot, .bot, .bot, .bot, .bot, .bot, .bot, Bo t13, .bot, .bot, .bot, .bot, .bot, .bot], [(56, .box [Ti e11.1, Ti e11.2.1, Ti e11.2.2]), (128, .arr 36 3 (y4.map c36)), (40, .arr 36 3 (l6.map c36)), (16, .box [Ti g1.1, Ti g1.2.1, Ti g1.2.2])]⟩) ?_ ?_
        · refine XL_cons rfl (X_of_Y0 rfl (E_loadn (cs := [Ti y12.1.1, Ti y12.1.2.1, Ti y12.1.2.2]) [Ti y12.1.1, Ti y12.1.2.1, Ti y12.1.2.2] wd36 rfl (by kernel_rfl) (Nat.le_of_ble_eq_true rfl) (by kernel_rfl))) ?_
          refine XL_cons rfl (X_of_Y0 rfl (E_loadn (cs := [Ti g1.1, Ti g1.2.1, Ti g1.2.2]) [Ti g1.1, Ti g1.2.1, Ti g1.2.2] wd36 rfl (by kernel_rfl) (Nat.le_of_ble_eq_true rfl) (by kernel_rfl))) ?_
          refine XL_cons rfl (X_of_Y0 rfl (Y0_eqg3 (a0 := y12.1.1) (b0 := g1.1) (a1 := y12.1.2.1) (b1 := g1.2.1) (a2 := y12.1.2.2) (b2 := g1.2.2) eqg36 rfl (by kernel_rfl) (by kernel_rfl))) ?_
          refine XL_nil ?_
          subst ht13
          kernel_rfl
        refine V_cond rfl (fun hc14 => ?_) (fun hc14 => ?_)
        · have h := of_true h hc14
          obtain ⟨u15, hu15, h⟩ := of_bind h
          refine V_reg [false, true, true, false, false, true, false, false, false, false, false, false, false, false, false, false, true, true, true, false, false, false, false, false, false, false, false, false, false, false, false, false, false, false, false, false, false] [128, 40, 16] (s1 := ⟨[.bot, I p2, .pt 16 0, .bot, .bot, .ow 40, .bot, .bot, .bot, .bot, .bot, .bot, .bot, .bot, .bot, .bot, .ow 128, I ((y4.length : Int)), I t5, .bot, .bot, .bot, .bot, .bot, .bot, .bot, .bot, .bot, .bot, .bot, .bot, .bot, .bot, .bot, .bot, .bot, .bot], [(128, .arr 36 3 (y4.map c36)), (40, .arr 36 3 ((l6 ++ ([e11])).map c36)), (16, .box [Ti g1.1, Ti g1.2.1, Ti g1.2.2])]⟩) ?_ ?_
          · refine XL_cons rfl (X_of_Y0 rfl (E_move (.ow 40) rfl (by kernel_rfl))) ?_
            refine XL_cons rfl (X_of_Y0 rfl (E_loadn (cs := [Ti e11.1, Ti e11.2.1, Ti e11.2.2]) [Ti e11.1, Ti e11.2.1, Ti e11.2.2] wd36 rfl (by kernel_rfl) (Nat.le_of_ble_eq_true rfl) (by kernel_rfl))) ?_
            refine XL_cons rfl (X_of_Y1 rfl (Y1_bslice (z := zv36) (els := [e11].map c36) Try.underlying53 iz36 rfl (by decide) rfl (by kernel_rfl) rfl (by simp [c36]) (by decide) (by decide))) ?_
            refine XL_cons rfl (X_appendM (c := c36) (xs := l6) (ys := [e11]) (id := 40) (z := zv36) rfl rfl Try.underlying53 izb36 rfl (by kernel_rfl) (by kernel_rfl) (by kernel_rfl) (fun _ => rfl) (by simp) (room_some hu15) (by decide)) ?_
            refine XL_cons rfl (X_of_Y0 rfl (E_assign (.ow 40) rfl (by kernel_rfl))) ?_
            refine XL_nil ?_
            kernel_rfl
          show V _ _ _ _
          obtain ⟨t16, ht16, h⟩ := of_sI h
          refine V_reg [false, true, true, false, false, true, false, false, false, false, false, false, false, false, false, false, true, true, true, false, false, false, false, false, false, false, false, false, false, false, false, false, false, false, false, false, false] [128, 40, 16] (s1 := ⟨[.bot, I p2, .pt 16 0, .bot, .bot, .ow 40, .bot, .bot, .bot, .bot, .bot, .bot, .bot, .bot, .bot, .bot, .ow 128, I ((y4.length : Int)), I t16, .bot, .bot, .bot, .bot, .bot, .bot, .bot, .bot, .bot, .bot, .bot, .bot, .bot, .bot, .bot, .bot, .bot, .bot], [(128, .arr 36 3 (y4.map c36)), (40, .arr 36 3 ((l6 ++ ([e11])).map c36)), (16, .box [Ti g1.1, Ti g1.2.1, Ti g1.2.2])]⟩) ?_ ?_
          · refine XL_cons rfl (X_of_Y0 rfl (Y0_add64 (a := t5) (b := 1) rfl (by kernel_rfl) (by kernel_rfl))) ?_
            refine XL_cons rfl (X_of_Y0 rfl (E_move (I (w64 (t5 + 1))) rfl (by kernel_rfl))) ?_
            refine XL_nil ?_
            subst ht16
            kernel_rfl
          exact ⟨n, Nat.lt_succ_self n, _, _,  by rfl, h⟩
        · have h := of_false h hc14
          refine V_skip ?_
          show V _ _ _ _
          obtain ⟨t17, ht17, h⟩ := of_sI h
          refine V_reg [false, true, true, false, false, true, false, false, false, false, false, false, false, false, false, false, true, true, true, false, false, false, false, false, false, false, false, false, false, false, false, false, false, false, false, false, false] [128, 40, 16] (s1 := ⟨[.bot, I p2, .pt 16 0, .bot, .bot, .ow 40, .bot, .bot, .bot, .bot, .bot, .bot, .bot, .bot, .bot, .bot, .ow 128, I ((y4.length : Int)), I t17, .bot, .bot, .bot, .bot, .bot, .bot, .bot, .bot, .bot, .bot, .bot, .bot, .bot, .bot, .bot, .bot, .bot, .bot], [(128, .arr 36 3 (y4.map c36)), (40, .arr 36 3 (l6.map c36)), (16, .box [Ti g1.1, Ti g1.2.1, Ti g1.2.2])]⟩) ?_ ?_
          · refine XL_cons rfl (X_of_Y0 rfl (Y0_add64 (a := t5) (b := 1) rfl (by kernel_rfl) (by kernel_rfl))) ?_
            refine XL_cons rfl (X_of_Y0 rfl (E_move (I (w64 (t5 + 1))) rfl (by kernel_rfl))) ?_
            refine XL_nil ?_
            subst ht17
            kernel_rfl
          exact ⟨n, Nat.lt_succ_self n, _, _,  by rfl, h⟩
      · have h := of_false h hc9
        refine V_exit ?_
        obtain rfl := some_inj h
        show St.keep _ _ _ = _
        rfl
  show V _ _ _ _
  refine V_sreg [false, false, false, false, true, false, false, false, false, false, false, false, false, false, false, false, false, false, false, false, false, false, false, false, false, false, false, false, false, false, false, false, false, false, false, false, false] [40] (s1 := ⟨[.bot, .bot, .bot, .bot, .ow 40, .bot, .bot, .bot, .bot, .bot, .bot, .bot, .bot, .bot, .bot, .bot, .bot, .bot, .bot, .bot, .bot, .bot, .bot, .bot, .bot, .bot, .bot, .bot, .bot, .bot, .bot, .bot, .bot, .bot, .bot, .bot, .bot], [(40, .arr 36 3 (o8.map c36))]⟩) ?_ ?_
  · refine XL_cons rfl (X_of_Y0 rfl (E_move (.ow 40) rfl (by kernel_rfl))) ?_
    refine XL_cons rfl (X_of_Y0 rfl (E_assign (.ow 40) rfl (by kernel_rfl))) ?_
    refine XL_nil ?_
    kernel_rfl
  refine V_ret ?_
  obtain rfl := some_inj h
  show Post _ _ _ _ _
  exact ⟨.inr rfl, rfl, rfl, rfl⟩
theorem cf_spec_KernelClasses : ∀ args w, (callFunc 42 args).run Try.prog w = .ok (.enter 42 args) w := run_callFunc Try.func42 (by kernel_rfl) (by kernel_rfl)
set_option maxRecDepth 100000 in
set_option maxHeartbeats 400000 in
theorem s_spec_KernelClasses {d1 : Int} {p2 : Int} {r : ((List ((Int × Int × Int))) × Bool)} (h : r_spec_KernelClasses d1 p2 = some r) : CallS Try.prog 42 [I d1, I p2] (.tc (.ow 0) (.tc (Bo r.2) .tn)) [(0, .arr 36 3 (r.1.map c36))] := by
  refine CallS_of_text (rs := [.t 4, .t 5]) (vs := [.tmp 4, .tmp 5]) Try.func42 rfl rfl (.cons rfl (.cons rfl FitsL.nil)) (by decide) 14 rfl ?_
  unfold r_spec_KernelClasses at h
  show V _ _ ⟨[I d1, I p2, .bot, .bot, .bot, .bot, .bot, .bot, .bot, .bot, .bot, .bot, .bot, .bot], []⟩ _
  refine V_sreg [true, true, false, false, false, false, false, false, false, false, false, false, false, false] [] (s1 := ⟨[I d1, I p2, .bot, .bot, .bot, .bot, .bot, .bot, .bot, .bot, .bot, .bot, .bot, .bot], []⟩) ?_ ?_
  · refine XL_cons rfl (X_of_Y1 rfl (Y1_nil (e := 36) 3 (by decide) (.inl rfl))) ?_
    refine XL_cons rfl (X_of_Y0 rfl (E_assign (Bo false) rfl (by kernel_rfl))) ?_
    refine XL_nil ?_
    kernel_rfl
  refine V_seq ?_
  obtain ⟨y3, hy3, h⟩ := of_bind h
  refine V_sreg [true, true, false, false, false, false, false, false, false, true, false, false, false, false] [] (s1 := ⟨[I d1, I p2, .bot, .bot, .bot, .bot, .bot, .bot, .bot, Bo (!y3), .bot, .bot, .bot, .bot], []⟩) ?_ ?_
  · refine XL_cons rfl (X_of_Y0 rfl (E_move (I d1) rfl (by kernel_rfl))) ?_
    refine XL_cons rfl (X_of_Y0 rfl (E_move (I p2) rfl (by kernel_rfl))) ?_
    refine XL_cons rfl (X_of_Y1 rfl (Y1_call (s_spec_odUp hy3) cf_spec_odUp rfl (by kernel_rfl))) ?_
    refine XL_cons rfl (X_of_Y0 rfl (Y0_not (b := y3) rfl (by kernel_rfl))) ?_
    refine XL_nil ?_
    kernel_rfl
  refine V_cond rfl (fun hc4 => ?_) (fun hc4 => ?_)
  · have h := of_true h hc4
    refine V_sreg [false, false, false, false, true, true, false, false, false, false, false, false, false, false] [32] (s1 := ⟨[.bot, .bot, .bot, .bot, .ow 32, Bo false, .bot, .bot, .bot, .bot, .bot, .bot, .bot, .bot], [(32, .arr 36 3 ((([] : List ((Int × Int × Int)))).map c36))]⟩) ?_ ?_
    · refine XL_cons rfl (X_of_Y1 rfl (Y1_nil (e := 36) 3 (by decide) (.inl rfl))) ?_
      refine XL_cons rfl (X_of_Y0 rfl (E_assign (Bo false) rfl (by kernel_rfl))) ?_
      refine XL_nil ?_
      kernel_rfl
    refine V_ret ?_
    obtain rfl := some_inj h
    show Post _ _ _ _ _
    exact ⟨.inr rfl, rfl, rfl, rfl⟩
  · have h := of_false h hc4
    refine V_skip ?_
    show V _ _ _ _
    obtain ⟨y5, hy5, h⟩ := of_bind h
    obtain ⟨y6, hy6, h⟩ := of_bind h
    refine V_sreg [false, false, false, false, true, true, false, false, false, false, false, false, false, false] [104] (s1 := ⟨[.bot, .bot, .bot, .bot, .ow 104, Bo true, .bot, .bot, .bot, .bot, .bot, .bot, .bot, .bot], [(104, .arr 36 3 (y6.map c36))]⟩) ?_ ?_
    · refine XL_cons rfl (X_of_Y0 rfl (E_move (I d1) rfl (by kernel_rfl))) ?_
      refine XL_cons rfl (X_of_Y1 rfl (Y1_call (s_spec_coOne hy5) cf_spec_coOne rfl (by kernel_rfl))) ?_
      refine XL_cons rfl (X_of_Y0 rfl (E_move (I p2) rfl (by kernel_rfl))) ?_
      refine XL_cons rfl (X_of_Y1 rfl (Y1_call (s_spec_odLifts hy6) cf_spec_odLifts rfl (by kernel_rfl))) ?_
      refine XL_cons rfl (X_of_Y0 rfl (E_assign (.ow 104) rfl (by kernel_rfl))) ?_
      refine XL_cons rfl (X_of_Y0 rfl (E_assign (Bo true) rfl (by kernel_rfl))) ?_
      refine XL_nil ?_
      kernel_rfl
    refine V_ret ?_
    obtain rfl := some_inj h
    show Post _ _ _ _ _
    exact ⟨.inr rfl, rfl, rfl, rfl⟩
theorem cf_impl_mod : ∀ args w, (callFunc 113 args).run Try.prog w = .ok (.enter 113 args) w := run_callFunc Try.func113 (by kernel_rfl) (by kernel_rfl)
set_option maxRecDepth 100000 in
set_option maxHeartbeats 400000 in
theorem s_impl_mod {a1 : Int} {vm2 : Int} {r : Int} (h : r_impl_mod a1 vm2 = some r) : CallS Try.prog 113 [I a1, I vm2] (I r) [] := by
  refine CallS_of_text (rs := [.t 4]) (vs := [.tmp 4]) Try.func113 rfl rfl (.cons rfl FitsL.nil) (by decide) 15 rfl ?_
  unfold r_impl_mod at h
  show V _ _ ⟨[I a1, I vm2, .bot, .bot, .bot, .bot, .bot, .bot, .bot, .bot, .bot, .bot, .bot, .bot, .bot], []⟩ _
  refine V_sreg [true, true, false, false, false, false, false, false, false, false, false, false, false, false, false] [] (s1 := ⟨[I a1, I vm2, .bot, .bot, .bot, .bot, .bot, .bot, .bot, .bot, .bot, .bot, .bot, .bot, .bot], []⟩) ?_ ?_
  · refine XL_cons rfl (X_of_Y0 rfl (E_assign (I 0) rfl (by kernel_rfl))) ?_
    refine XL_nil ?_
    kernel_rfl
  obtain ⟨z3, hz3, h⟩ := of_bind h
  obtain ⟨vr4, hvr4, h⟩ := of_sI h
  refine V_sreg [false, true, false, false, false, true, false, false, false, false, false, false, false, false, false] [] (s1 := ⟨[.bot, I vm2, .bot, .bot, .bot, I vr4, .bot, .bot, .bot, .bot, .bot, .bot, .bot, .bot, .bot], []⟩) ?_ ?_
  · refine XL_cons rfl (X_of_Y0 rfl (E_move (I a1) rfl (by kernel_rfl))) ?_
    refine XL_cons rfl (X_of_Y0 rfl (E_move (I vm2) rfl (by kernel_rfl))) ?_
    refine XL_cons rfl (X_of_Y0 rfl (Y0_rem (k := .i64) (a := a1) (b := vm2) rfl (by kernel_rfl) (by kernel_rfl) (nz_some hz3))) ?_
    refine XL_cons rfl (X_of_Y0 rfl (E_assign (I (Int.tmod a1 vm2)) rfl (by kernel_rfl))) ?_
    refine XL_nil ?_
    subst hvr4
    kernel_rfl
  refine V_seq ?_
  refine V_sreg [false, true, false, false, false, true, false, false, false, false, true, false, false, false, false] [] (s1 := ⟨[.bot, I vm2, .bot, .bot, .bot, I vr4, .bot, .bot, .bot, .bot, Bo (ltI vr4 0), .bot, .bot, .bot, .bot], []⟩) ?_ ?_
  · refine XL_cons rfl (X_of_Y0 rfl (E_move (I vr4) rfl (by kernel_rfl))) ?_
    refine XL_cons rfl (X_of_Y0 rfl (Y0_ltw (k := .i64) (a := vr4) (b := 0) rfl (by kernel_rfl) (by kernel_rfl))) ?_
    refine XL_nil ?_
    kernel_rfl
  refine V_cond rfl (fun hc5 => ?_) (fun hc5 => ?_)
  · have h := of_true h hc5
    obtain ⟨vr6, hvr6, h⟩ := of_sI h
    refine V_reg [false, false, false, false, false, true, false, false, false, false, false, false, false, false, false] [] (s1 := ⟨[.bot, .bot, .bot, .bot, .bot, I vr6, .bot, .bot, .bot, .bot, .bot, .bot, .bot, .bot, .bot], []⟩) ?_ ?_
    · refine XL_cons rfl (X_of_Y0 rfl (E_move (I vr4) rfl (by kernel_rfl))) ?_
      refine XL_cons rfl (X_of_Y0 rfl (E_move (I vm2) rfl (by kernel_rfl))) ?_
      refine XL_cons rfl (X_of_Y0 rfl (Y0_add64 (a := vr4) (b := vm2) rfl (by kernel_rfl) (by kernel_rfl))) ?_
      refine XL_cons rfl (X_of_Y0 rfl (E_assign (I (w64 (vr4 + vm2))) rfl (by kernel_rfl))) ?_
      refine XL_nil ?_
      subst hvr6
      kernel_rfl
    show V _ _ _ _
    refine V_sreg [false, false, false, false, true, false, false, false, false, false, false, false, false, false, false] [] (s1 := ⟨[.bot, .bot, .bot, .bot, I vr6, .bot, .bot, .bot, .bot, .bot, .bot, .bot, .bot, .bot, .bot], []⟩) ?_ ?_
    · refine XL_cons rfl (X_of_Y0 rfl (E_move (I vr6) rfl (by kernel_rfl))) ?_
      refine XL_cons rfl (X_of_Y0 rfl (E_assign (I vr6) rfl (by kernel_rfl))) ?_
      refine XL_nil ?_
      kernel_rfl
    refine V_ret ?_
    obtain rfl := some_inj h
    show Post _ _ _ _ _
    exact ⟨.inr rfl, rfl, rfl, rfl⟩
  · have h := of_false h hc5
    refine V_skip ?_
    show V _ _ _ _
    refine V_sreg [false, false, false, false, true, false, false, false, false, false, false, false, false, false, false] [] (s1 := ⟨[.bot, .bot, .bot, .bot, I vr4, .bot, .bot, .bot, .bot, .bot, .bot, .bot, .bot, .bot, .bot], []⟩) ?_ ?_
    · refine XL_cons rfl (X_of_Y0 rfl (E_move (I vr4) rfl (by kernel_rfl))) ?_
      refine XL_cons rfl (X_of_Y0 rfl (E_assign (I vr4) rfl (by kernel_rfl))) ?_
      refine XL_nil ?_
      kernel_rfl
    refine V_ret ?_
    obtain rfl := some_inj h
    show Post _ _ _ _ _
    exact ⟨.inr rfl, rfl, rfl, rfl⟩
theorem cf_impl_isNegativeDisc : ∀ args w, (callFunc 71 args).run Try.prog w = .ok (.enter 71 args) w := run_callFunc Try.func71 (by kernel_rfl) (by kernel_rfl)
set_option maxRecDepth 100000 in
set_option maxHeartbeats 400000 in
theorem s_impl_isNegativeDisc {d1 : Int} {r : Bool} (h : r_impl_isNegativeDisc d1 = some r) : CallS Try.prog 71 [I d1] (Bo r) [] := by
  refine CallS_of_text (rs := [.t 2]) (vs := [.tmp 2]) Try.func71 rfl rfl (.cons rfl FitsL.nil) (by decide) 14 rfl ?_
  unfold r_impl_isNegativeDisc at h
  show V _ _ ⟨[I d1, .bot, .bot, .bot, .bot, .bot, .bot, .bot, .bot, .bot, .bot, .bot, .bot, .bot], []⟩ _
  refine V_sreg [true, false, false, false, false, false, false, false, false, false, false, false, false, false] [] (s1 := ⟨[I d1, .bot, .bot, .bot, .bot, .bot, .bot, .bot, .bot, .bot, .bot, .bot, .bot, .bot], []⟩) ?_ ?_
  · refine XL_cons rfl (X_of_Y0 rfl (E_assign (Bo false) rfl (by kernel_rfl))) ?_
    refine XL_nil ?_
    kernel_rfl
  obtain ⟨b5, hb5, h⟩ := of_bind h
  refine V_sreg [false, false, true, false, false, false, false, false, false, false, false, false, false, false] [] (s1 := ⟨[.bot, .bot, Bo b5, .bot, .bot, .bot, .bot, .bot, .bot, .bot, .bot, .bot, .bot, .bot], []⟩) ?_ ?_
  · refine XL_cons rfl (X_of_Y0 rfl (E_move (I d1) rfl (by kernel_rfl))) ?_
    refine XL_cons rfl (X_of_Y0 rfl (Y0_gew (k := .i64) (a := d1) (b := -2000) rfl (by kernel_rfl) (by kernel_rfl))) ?_
    refine XL_cons rfl (X_of_Y0 rfl (E_move (Bo (leI (-2000) d1)) rfl (by kernel_rfl))) ?_
    refine XL_split (leI (-2000) d1) (fun hc2 => ?_) (fun hc2 => ?_)
    · refine XL_takeC (leI (-2000) d1) rfl rfl (by kernel_rfl) hc2 (X_of_Y0 rfl (E_move (I d1) rfl (by kernel_rfl))) ?_
      refine XL_takeC (leI (-2000) d1) rfl rfl (by kernel_rfl) hc2 (X_of_Y0 rfl (Y0_lew (k := .i64) (a := d1) (b := -3) rfl (by kernel_rfl) (by kernel_rfl))) ?_
      refine XL_cons rfl (X_of_Y0 rfl (Y0_pick1 (b := leI (-2000) d1) (p := leI d1 (-3)) (q := false) rfl (by kernel_rfl) hc2 (by kernel_rfl))) ?_
      refine XL_cons rfl (X_of_Y0 rfl (E_move (Bo (bif (leI (-2000) d1) then (leI d1 (-3)) else false)) rfl (by kernel_rfl))) ?_
      refine XL_split (bif (leI (-2000) d1) then (leI d1 (-3)) else false) (fun hc3 => ?_) (fun hc3 => ?_)
      · have hb5 := of_true hb5 hc3
        obtain ⟨y4, hy4, hb5⟩ := of_bind hb5
        have hb5 := some_inj hb5
        refine XL_takeC (bif (leI (-2000) d1) then (leI d1 (-3)) else false) rfl rfl (by kernel_rfl) hc3 (X_of_Y0 rfl (E_move (I d1) rfl (by kernel_rfl))) ?_
        refine XL_takeC (bif (leI (-2000) d1) then (leI d1 (-3)) else false) rfl rfl (by kernel_rfl) hc3 (X_of_Y1 rfl (Y1_call (s_impl_mod hy4) cf_impl_mod rfl (by kernel_rfl))) ?_
        refine XL_takeC (bif (leI (-2000) d1) then (leI d1 (-3)) else false) rfl rfl (by kernel_rfl) hc3 (X_of_Y0 rfl (Y0_lew (k := .i64) (a := y4) (b := 1) rfl (by kernel_rfl) (by kernel_rfl))) ?_
        refine XL_cons rfl (X_of_Y0 rfl (Y0_pickTe (b := bif (leI (-2000) d1) then (leI d1 (-3)) else false) (p := leI y4 1) rfl (by kernel_rfl) hc3 (by kernel_rfl) hb5)) ?_
        refine XL_cons rfl (X_of_Y0 rfl (E_assign (Bo b5) rfl (by kernel_rfl))) ?_
        refine XL_nil ?_
        kernel_rfl
      · have hb5 := some_inj (of_false hb5 hc3)
        refine XL_skipT (bif (leI (-2000) d1) then (leI d1 (-3)) else false) rfl rfl (by kernel_rfl) hc3 rfl ?_
        refine XL_skipT (bif (leI (-2000) d1) then (leI d1 (-3)) else false) rfl rfl (by kernel_rfl) hc3 rfl ?_
        refine XL_skipT (bif (leI (-2000) d1) then (leI d1 (-3)) else false) rfl rfl (by kernel_rfl) hc3 rfl ?_
        refine XL_cons rfl (X_of_Y0 rfl (Y0_pickFe (b := bif (leI (-2000) d1) then (leI d1 (-3)) else false) (p := false) rfl (by kernel_rfl) hc3 (by kernel_rfl) hb5)) ?_
        refine XL_cons rfl (X_of_Y0 rfl (E_assign (Bo b5) rfl (by kernel_rfl))) ?_
        refine XL_nil ?_
        kernel_rfl
    · refine XL_skipT (leI (-2000) d1) rfl rfl (by kernel_rfl) hc2 rfl ?_
      refine XL_skipT (leI (-2000) d1) rfl rfl (by kernel_rfl) hc2 rfl ?_
      refine XL_cons rfl (X_of_Y0 rfl (Y0_pick0 (b := leI (-2000) d1) (p := leI d1 (-3)) (q := false) rfl (by kernel_rfl) hc2 (by kernel_rfl))) ?_
      refine XL_cons rfl (X_of_Y0 rfl (E_move (Bo (bif (leI (-2000) d1) then (leI d1 (-3)) else false)) rfl (by kernel_rfl))) ?_
      refine XL_split (bif (leI (-2000) d1) then (leI d1 (-3)) else false) (fun hc3 => ?_) (fun hc3 => ?_)
      · have hb5 := of_true hb5 hc3
        obtain ⟨y4, hy4, hb5⟩ := of_bind hb5
        have hb5 := some_inj hb5
        refine XL_takeC (bif (leI (-2000) d1) then (leI d1 (-3)) else false) rfl rfl (by kernel_rfl) hc3 (X_of_Y0 rfl (E_move (I d1) rfl (by kernel_rfl))) ?_
        refine XL_takeC (bif (leI (-2000) d1) then (leI d1 (-3)) else false) rfl rfl (by kernel_rfl) hc3 (X_of_Y1 rfl (Y1_call (s_impl_mod hy4) cf_impl_mod rfl (by kernel_rfl))) ?_
        refine XL_takeC (bif (leI (-2000) d1) then (leI d1 (-3)) else false) rfl rfl (by kernel_rfl) hc3 (X_of_Y0 rfl (Y0_lew (k := .i64) (a := y4) (b := 1) rfl (by kernel_rfl) (by kernel_rfl))) ?_
        refine XL_cons rfl (X_of_Y0 rfl (Y0_pickTe (b := bif (leI (-2000) d1) then (leI d1 (-3)) else false) (p := leI y4 1) rfl (by kernel_rfl) hc3 (by kernel_rfl) hb5)) ?_
        refine XL_cons rfl (X_of_Y0 rfl (E_assign (Bo b5) rfl (by kernel_rfl))) ?_
        refine XL_nil ?_
        kernel_rfl
      · have hb5 := some_inj (of_false hb5 hc3)
        refine XL_skipT (bif (leI (-2000) d1) then (leI d1 (-3)) else false) rfl rfl (by kernel_rfl) hc3 rfl ?_
        refine XL_skipT (bif (leI (-2000) d1) then (leI d1 (-3)) else false) rfl rfl (by kernel_rfl) hc3 rfl ?_
        refine XL_skipT (bif (leI (-2000) d1) then (leI d1 (-3)) else false) rfl rfl (by kernel_rfl) hc3 rfl ?_
        refine XL_cons rfl (X_of_Y0 rfl (Y0_pickFe (b := bif (leI (-2000) d1) then (leI d1 (-3)) else false) (p := false) rfl (by kernel_rfl) hc3 (by kernel_rfl) hb5)) ?_
        refine XL_cons rfl (X_of_Y0 rfl (E_assign (Bo b5) rfl (by kernel_rfl))) ?_
        refine XL_nil ?_
        kernel_rfl
  refine V_ret ?_
  obtain rfl := some_inj h
  show Post _ _ _ _ _
  exact ⟨.inr rfl, rfl, rfl, rfl⟩
theorem cf_impl_areNumbers : ∀ args w, (callFunc 104 args).run Try.prog w = .ok (.enter 104 args) w := run_callFunc Try.func104 (by kernel_rfl) (by kernel_rfl)
set_option maxRecDepth 100000 in
set_option maxHeartbeats 400000 in
theorem s_impl_areNumbers {list1 : List Int} {r : Bool} (h : r_impl_areNumbers list1 = some r) : CallS Try.prog 104 [.c (.sl (list1.map c3))] (Bo r) [] := by
  refine CallS_of_text (rs := [.t 2]) (vs := [.tmp 2]) Try.func104 rfl rfl (.cons rfl FitsL.nil) (by decide) 18 rfl ?_
  unfold r_impl_areNumbers at h
  show V _ _ ⟨[.c (.sl (list1.map c3)), .bot, .bot, .bot, .bot, .bot, .bot, .bot, .bot, .bot, .bot, .bot, .bot, .bot, .bot, .bot, .bot, .bot], []⟩ _
  refine V_sreg [true, false, false, false, false, false, false, false, false, false, false, false, false, false, false, false, false, false] [] (s1 := ⟨[.c (.sl (list1.map c3)), .bot, .bot, .bot, .bot, .bot, .bot, .bot, .bot, .bot, .bot, .bot, .bot, .bot, .bot, .bot, .bot, .bot], []⟩) ?_ ?_
  · refine XL_cons rfl (X_of_Y0 rfl (E_assign (Bo false) rfl (by kernel_rfl))) ?_
    refine XL_nil ?_
    kernel_rfl
  refine V_seq ?_
  refine V_sreg [false, false, false, false, false, true, true, true, false, false, false, false, false, false, false, false, false, false] [] (s1 := ⟨[.bot, .bot, .bot, .bot, .bot, .c (.sl (list1.map c3)), I ((list1.length : Int)), I 0, .bot, .bot, .bot, .bot, .bot, .bot, .bot, .bot, .bot, .bot], []⟩) ?_ ?_
  · refine XL_cons rfl (X_of_Y0 rfl (E_move (.c (.sl (list1.map c3))) rfl (by kernel_rfl))) ?_
    refine XL_cons rfl (X_of_Y0 rfl (Y0_lenM (c := c3) (xs := list1) Try.underlying25 rfl (by kernel_rfl))) ?_
    refine XL_cons rfl (X_of_Y0 rfl (E_move (I 0) rfl (by kernel_rfl))) ?_
    refine XL_nil ?_
    kernel_rfl
  obtain ⟨qo4, hLo4, hko4⟩ := of_bind h
  refine V_toS (q := qo4) (S := fun o4 => ⟨[.bot, .bot, .bot, .bot, .bot, .bot, .bot, .bot, .bot, .bot, .bot, .bot, .bot, .bot, .bot, .bot, .bot, .bot], []⟩) [false, false, false, false, false, false, false, false, false, false, false, false, false, false, false, false, false, false] [] ?_ ?_
  · refine V_block (V_loop (fun n s => ∃ (t2 : Int), s.keep [false, false, false, false, false, true, true, true, false, false, false, false, false, false, false, false, false, false] [] = (⟨[.bot, .bot, .bot, .bot, .bot, .c (.sl (list1.map c3)), I ((list1.length : Int)), I t2, .bot, .bot, .bot, .bot, .bot, .bot, .bot, .bot, .bot, .bot], []⟩ : St) ∧ r_impl_areNumbers_L3 list1 n t2 = some qo4) FU ⟨_,  by rfl, hLo4⟩ ?_)
    clear hLo4
    rintro n s ⟨t2, hs, h⟩
    refine V_keep _ _ hs ?_
    clear hs
    cases n with
    | zero => cases h
    | succ n =>
      rw [r_impl_areNumbers_L3] at h
      refine V_sreg [false, false, false, false, false, true, true, true, true, false, false, false, false, false, false, false, false, false] [] (s1 := ⟨[.bot, .bot, .bot, .bot, .bot, .c (.sl (list1.map c3)), I ((list1.length : Int)), I t2, Bo (ltI t2 ((list1.length : Int))), .bot, .bot, .bot, .bot, .bot, .bot, .bot, .bot, .bot], []⟩) ?_ ?_
      · refine XL_cons rfl (X_of_Y0 rfl (Y0_ltw (k := .i64) (a := t2) (b := (list1.length : Int)) rfl (by kernel_rfl) (by kernel_rfl))) ?_
        refine XL_nil ?_
        kernel_rfl
      refine V_seq ?_
      refine V_cond rfl (fun hc5 => ?_) (fun hc5 => ?_)
      · have h := of_true h hc5
        refine V_skip ?_
        show V _ _ _ _
        refine V_seq ?_
        refine V_block ?_
        obtain ⟨e6, he6, h⟩ := of_bind h
        refine V_sreg [false, false, false, false, true, true, true, true, false, false, false, false, false, false, false, false, false, false] [] (s1 := ⟨[.bot, .bot, .bot, .bot, I e6, .c (.sl (list1.map c3)), I ((list1.length : Int)), I t2, .bot, .bot, .bot, .bot, .bot, .bot, .bot, .bot, .bot, .bot], []⟩) ?_ ?_
        · refine XL_cons rfl (X_of_Y0 rfl (Y0_idxM (c := c3) (xs := list1) (v := e6) (n := t2) Try.underlying25 sz3 rfl (by kernel_rfl) (by kernel_rfl) he6)) ?_
          refine XL_cons rfl (X_of_Y0 rfl (Y0_load1 (c := Ti e6) (cs := []) sc3 rfl (by kernel_rfl))) ?_
          refine XL_cons rfl (X_of_Y0 rfl (E_assign (I e6) rfl (by kernel_rfl))) ?_
          refine XL_nil ?_
          kernel_rfl
        refine V_sreg [false, false, false, false, false, true, true, true, false, false, false, false, false, false, false, false, true, false] [] (s1 := ⟨[.bot, .bot, .bot, .bot, .bot, .c (.sl (list1.map c3)), I ((list1.length : Int)), I t2, .bot, .bot, .bot, .bot, .bot, .bot, .bot, .bot, Bo (bif (ltI e6 (-1000000)) then true else (ltI 1000000 e6)), .bot], []⟩) ?_ ?_
        · refine XL_cons rfl (X_of_Y0 rfl (E_move (I e6) rfl (by kernel_rfl))) ?_
          refine XL_cons rfl (X_of_Y0 rfl (Y0_ltw (k := .i64) (a := e6) (b := -1000000) rfl (by kernel_rfl) (by kernel_rfl))) ?_
          refine XL_cons rfl (X_of_Y0 rfl (E_move (Bo (ltI e6 (-1000000))) rfl (by kernel_rfl))) ?_
          refine XL_split (ltI e6 (-1000000)) (fun hc7 => ?_) (fun hc7 => ?_)
          · refine XL_skipF (ltI e6 (-1000000)) rfl rfl (by kernel_rfl) hc7 rfl ?_
            refine XL_skipF (ltI e6 (-1000000)) rfl rfl (by kernel_rfl) hc7 rfl ?_
            refine XL_cons rfl (X_of_Y0 rfl (Y0_pick1 (b := ltI e6 (-1000000)) (p := true) (q := ltI 1000000 e6) rfl (by kernel_rfl) hc7 (by kernel_rfl))) ?_
            refine XL_nil ?_
            kernel_rfl
          · refine XL_takeC (ltI e6 (-1000000)) rfl rfl (by kernel_rfl) hc7 (X_of_Y0 rfl (E_move (I e6) rfl (by kernel_rfl))) ?_
            refine XL_takeC (ltI e6 (-1000000)) rfl rfl (by kernel_rfl) hc7 (X_of_Y0 rfl (Y0_gtw (k := .i64) (a := e6) (b := 1000000) rfl (by kernel_rfl) (by kernel_rfl))) ?_
            refine XL_cons rfl (X_of_Y0 rfl (Y0_pick0 (b := ltI e6 (-1000000)) (p := true) (q := ltI 1000000 e6) rfl (by kernel_rfl) hc7 (by kernel_rfl))) ?_
            refine XL_nil ?_
            kernel_rfl
        refine V_cond rfl (fun hc8 => ?_) (fun hc8 => ?_)
        · have h := of_true h hc8
          refine V_sreg [false, false, true, false, false, false, false, false, false, false, false, false, false, false, false, false, false, false] [] (s1 := ⟨[.bot, .bot, Bo false, .bot, .bot, .bot, .bot, .bot, .bot, .bot, .bot, .bot, .bot, .bot, .bot, .bot, .bot, .bot], []⟩) ?_ ?_
          · refine XL_cons rfl (X_of_Y0 rfl (E_assign (Bo false) rfl (by kernel_rfl))) ?_
            refine XL_nil ?_
            kernel_rfl
          refine V_ret ?_
          obtain rfl := some_inj h
          have h := hko4
          obtain rfl := some_inj h
          show Post _ _ _ _ _
          exact ⟨.inr rfl, rfl, rfl, rfl⟩
        · have h := of_false h hc8
          refine V_skip ?_
          show V _ _ _ _
          obtain ⟨t9, ht9, h⟩ := of_sI h
          refine V_reg [false, false, false, false, false, true, true, true, false, false, false, false, false, false, false, false, false, false] [] (s1 := ⟨[.bot, .bot, .bot, .bot, .bot, .c (.sl (list1.map c3)), I ((list1.length : Int)), I t9, .bot, .bot, .bot, .bot, .bot, .bot, .bot, .bot, .bot, .bot], []⟩) ?_ ?_
          · refine XL_cons rfl (X_of_Y0 rfl (Y0_add64 (a := t2) (b := 1) rfl (by kernel_rfl) (by kernel_rfl))) ?_
            refine XL_cons rfl (X_of_Y0 rfl (E_move (I (w64 (t2 + 1))) rfl (by kernel_rfl))) ?_
            refine XL_nil ?_
            subst ht9
            kernel_rfl
          exact ⟨n, Nat.lt_succ_self n, _,  by rfl, h⟩
      · have h := of_false h hc5
        refine V_exit ?_
        obtain rfl := some_inj h
        exact ⟨_, rfl, by rfl⟩
  rintro o4 rfl
  have h := hko4
  clear hko4
  show V _ _ _ _
  refine V_sreg [false, false, true, false, false, false, false, false, false, false, false, false, false, false, false, false, false, false] [] (s1 := ⟨[.bot, .bot, Bo true, .bot, .bot, .bot, .bot, .bot, .bot, .bot, .bot, .bot, .bot, .bot, .bot, .bot, .bot, .bot], []⟩) ?_ ?_
  · refine XL_cons rfl (X_of_Y0 rfl (E_assign (Bo true) rfl (by kernel_rfl))) ?_
    refine XL_nil ?_
    kernel_rfl
  refine V_ret ?_
  obtain rfl := some_inj h
  show Post _ _ _ _ _
  exact ⟨.inr rfl, rfl, rfl, rfl⟩
theorem cf_impl_isPrime : ∀ args w, (callFunc 105 args).run Try.prog w = .ok (.enter 105 args) w := run_callFunc Try.func105 (by kernel_rfl) (by kernel_rfl)
set_option maxRecDepth 100000 in
set_option maxHeartbeats 400000 in
theorem s_impl_isPrime {vn1 : Int} {r : Bool} (h : r_impl_isPrime vn1 = some r) : CallS Try.prog 105 [I vn1] (Bo r) [] := by
  refine CallS_of_text (rs := [.t 2]) (vs := [.tmp 2]) Try.func105 rfl rfl (.cons rfl FitsL.nil) (by decide) 17 rfl ?_
  unfold r_impl_isPrime at h
  show V _ _ ⟨[I vn1, .bot, .bot, .bot, .bot, .bot, .bot, .bot, .bot, .bot, .bot, .bot, .bot, .bot, .bot, .bot, .bot], []⟩ _
  refine V_sreg [true, false, false, false, false, false, false, false, false, false, false, false, false, false, false, false, false] [] (s1 := ⟨[I vn1, .bot, .bot, .bot, .bot, .bot, .bot, .bot, .bot, .bot, .bot, .bot, .bot, .bot, .bot, .bot, .bot], []⟩) ?_ ?_
  · refine XL_cons rfl (X_of_Y0 rfl (E_assign (Bo false) rfl (by kernel_rfl))) ?_
    refine XL_nil ?_
    kernel_rfl
  refine V_seq ?_
  refine V_sreg [true, false, false, false, false, true, false, false, false, false, false, false, false, false, false, false, false] [] (s1 := ⟨[I vn1, .bot, .bot, .bot, .bot, Bo (ltI vn1 2), .bot, .bot, .bot, .bot, .bot, .bot, .bot, .bot, .bot, .bot, .bot], []⟩) ?_ ?_
  · refine XL_cons rfl (X_of_Y0 rfl (E_move (I vn1) rfl (by kernel_rfl))) ?_
    refine XL_cons rfl (X_of_Y0 rfl (Y0_ltw (k := .i64) (a := vn1) (b := 2) rfl (by kernel_rfl) (by kernel_rfl))) ?_
    refine XL_nil ?_
    kernel_rfl
  refine V_cond rfl (fun hc2 => ?_) (fun hc2 => ?_)
  · have h := of_true h hc2
    refine V_sreg [false, false, true, false, false, false, false, false, false, false, false, false, false, false, false, false, false] [] (s1 := ⟨[.bot, .bot, Bo false, .bot, .bot, .bot, .bot, .bot, .bot, .bot, .bot, .bot, .bot, .bot, .bot, .bot, .bot], []⟩) ?_ ?_
    · refine XL_cons rfl (X_of_Y0 rfl (E_assign (Bo false) rfl (by kernel_rfl))) ?_
      refine XL_nil ?_
      kernel_rfl
    refine V_ret ?_
    obtain rfl := some_inj h
    show Post _ _ _ _ _
    exact ⟨.inr rfl, rfl, rfl, rfl⟩
  · have h := of_false h hc2
    refine V_skip ?_
    show V _ _ _ _
    refine V_seq ?_
    refine V_sreg [true, false, false, true, false, false, false, false, false, false, false, false, false, false, false, false, false] [] (s1 := ⟨[I vn1, .bot, .bot, I 2, .bot, .bot, .bot, .bot, .bot, .bot, .bot, .bot, .bot, .bot, .bot, .bot, .bot], []⟩) ?_ ?_
    · refine XL_cons rfl (X_of_Y0 rfl (E_assign (I 2) rfl (by kernel_rfl))) ?_
      refine XL_nil ?_
      kernel_rfl
    obtain ⟨qo5, hLo5, hko5⟩ := of_bind h
    refine V_toS (q := qo5) (S := fun o5 => ⟨[.bot, .bot, .bot, .bot, .bot, .bot, .bot, .bot, .bot, .bot, .bot, .bot, .bot, .bot, .bot, .bot, .bot], []⟩) [false, false, false, false, false, false, false, false, false, false, false, false, false, false, false, false, false] [] ?_ ?_
    · refine V_block (V_loop (fun n s => ∃ (p3 : Int), s.keep [true, false, false, true, false, false, false, false, false, false, false, false, false, false, false, false, false] [] = (⟨[I vn1, .bot, .bot, I p3, .bot, .bot, .bot, .bot, .bot, .bot, .bot, .bot, .bot, .bot, .bot, .bot, .bot], []⟩ : St) ∧ r_impl_isPrime_L4 vn1 n p3 = some qo5) FU ⟨_,  by rfl, hLo5⟩ ?_)
      clear hLo5
      rintro n s ⟨p3, hs, h⟩
      refine V_keep _ _ hs ?_
      clear hs
      cases n with
      | zero => cases h
      | succ n =>
        rw [r_impl_isPrime_L4] at h
        refine V_seq ?_
        refine V_sreg [true, false, false, true, false, false, false, false, false, false, true, false, false, false, false, false, false] [] (s1 := ⟨[I vn1, .bot, .bot, I p3, .bot, .bot, .bot, .bot, .bot, .bot, Bo (leI (w64 (p3 * p3)) vn1), .bot, .bot, .bot, .bot, .bot, .bot], []⟩) ?_ ?_
        · refine XL_cons rfl (X_of_Y0 rfl (E_move (I p3) rfl (by kernel_rfl))) ?_
          refine XL_cons rfl (X_of_Y0 rfl (E_move (I p3) rfl (by kernel_rfl))) ?_
          refine XL_cons rfl (X_of_Y0 rfl (Y0_mul64 (a := p3) (b := p3) rfl (by kernel_rfl) (by kernel_rfl))) ?_
          refine XL_cons rfl (X_of_Y0 rfl (E_move (I vn1) rfl (by kernel_rfl))) ?_
          refine XL_cons rfl (X_of_Y0 rfl (Y0_lew (k := .i64) (a := w64 (p3 * p3)) (b := vn1) rfl (by kernel_rfl) (by kernel_rfl))) ?_
          refine XL_nil ?_
          kernel_rfl
        refine V_cond rfl (fun hc6 => ?_) (fun hc6 => ?_)
        · have h := of_true h hc6
          refine V_skip ?_
          show V _ _ _ _
          refine V_seq ?_
          refine V_block ?_
          obtain ⟨z7, hz7, h⟩ := of_bind h
          refine V_sreg [true, false, false, true, false, false, false, false, false, false, false, false, false, false, false, false, true] [] (s1 := ⟨[I vn1, .bot, .bot, I p3, .bot, .bot, .bot, .bot, .bot, .bot, .bot, .bot, .bot, .bot, .bot, .bot, Bo (eqI (Int.tmod vn1 p3) 0)], []⟩) ?_ ?_
          · refine XL_cons rfl (X_of_Y0 rfl (E_move (I vn1) rfl (by kernel_rfl))) ?_
            refine XL_cons rfl (X_of_Y0 rfl (E_move (I p3) rfl (by kernel_rfl))) ?_
            refine XL_cons rfl (X_of_Y0 rfl (Y0_rem (k := .i64) (a := vn1) (b := p3) rfl (by kernel_rfl) (by kernel_rfl) (nz_some hz7))) ?_
            refine XL_cons rfl (X_of_Y0 rfl (Y0_eqw (k := .i64) (a := Int.tmod vn1 p3) (b := 0) rfl (by kernel_rfl) (by kernel_rfl))) ?_
            refine XL_nil ?_
            kernel_rfl
          refine V_cond rfl (fun hc8 => ?_) (fun hc8 => ?_)
          · have h := of_true h hc8
            refine V_sreg [false, false, true, false, false, false, false, false, false, false, false, false, false, false, false, false, false] [] (s1 := ⟨[.bot, .bot, Bo false, .bot, .bot, .bot, .bot, .bot, .bot, .bot, .bot, .bot, .bot, .bot, .bot, .bot, .bot], []⟩) ?_ ?_
            · refine XL_cons rfl (X_of_Y0 rfl (E_assign (Bo false) rfl (by kernel_rfl))) ?_
              refine XL_nil ?_
              kernel_rfl
            refine V_ret ?_
            obtain rfl := some_inj h
            have h := hko5
            obtain rfl := some_inj h
            show Post _ _ _ _ _
            exact ⟨.inr rfl, rfl, rfl, rfl⟩
          · have h := of_false h hc8
            refine V_skip ?_
            show V _ _ _ _
            obtain ⟨p9, hp9, h⟩ := of_sI h
            refine V_reg [true, false, false, true, false, false, false, false, false, false, false, false, false, false, false, false, false] [] (s1 := ⟨[I vn1, .bot, .bot, I p9, .bot, .bot, .bot, .bot, .bot, .bot, .bot, .bot, .bot, .bot, .bot, .bot, .bot], []⟩) ?_ ?_
            · refine XL_cons rfl (X_of_Y0 rfl (E_move (I p3) rfl (by kernel_rfl))) ?_
              refine XL_cons rfl (X_of_Y0 rfl (Y0_add64 (a := p3) (b := 1) rfl (by kernel_rfl) (by kernel_rfl))) ?_
              refine XL_cons rfl (X_of_Y0 rfl (E_assign (I (w64 (p3 + 1))) rfl (by kernel_rfl))) ?_
              refine XL_nil ?_
              subst hp9
              kernel_rfl
            exact ⟨n, Nat.lt_succ_self n, _,  by rfl, h⟩
        · have h := of_false h hc6
          refine V_exit ?_
          obtain rfl := some_inj h
          exact ⟨_, rfl, by rfl⟩
    rintro o5 rfl
    have h := hko5
    clear hko5
    show V _ _ _ _
    refine V_sreg [false, false, true, false, false, false, false, false, false, false, false, false, false, false, false, false, false] [] (s1 := ⟨[.bot, .bot, Bo true, .bot, .bot, .bot, .bot, .bot, .bot, .bot, .bot, .bot, .bot, .bot, .bot, .bot, .bot], []⟩) ?_ ?_
    · refine XL_cons rfl (X_of_Y0 rfl (E_assign (Bo true) rfl (by kernel_rfl))) ?_
      refine XL_nil ?_
      kernel_rfl
    refine V_ret ?_
    obtain rfl := some_inj h
    show Post _ _ _ _ _
    exact ⟨.inr rfl, rfl, rfl, rfl⟩
theorem cf_impl_IsPrime : ∀ args w, (callFunc 62 args).run Try.prog w = .ok (.enter 62 args) w := run_callFunc Try.func62 (by kernel_rfl) (by kernel_rfl)
set_option maxRecDepth 100000 in
set_option maxHeartbeats 400000 in
theorem s_impl_IsPrime {vn1 : Int} {r : Bool} (h : r_impl_IsPrime vn1 = some r) : CallS Try.prog 62 [I vn1] (Bo r) [] := by
  refine CallS_of_text (rs := [.t 2]) (vs := [.tmp 2]) Try.func62 rfl rfl (.cons rfl FitsL.nil) (by decide) 10 rfl ?_
  unfold r_impl_IsPrime at h
  show V _ _ ⟨[I vn1, .bot, .bot, .bot, .bot, .bot, .bot, .bot, .bot, .bot], []⟩ _
  refine V_sreg [true, false, false, false, false, false, false, false, false, false] [] (s1 := ⟨[I vn1, .bot, .bot, .bot, .bot, .bot, .bot, .bot, .bot, .bot], []⟩) ?_ ?_
  · refine XL_cons rfl (X_of_Y0 rfl (E_assign (Bo false) rfl (by kernel_rfl))) ?_
    refine XL_nil ?_
    kernel_rfl
  obtain ⟨y2, hy2, h⟩ := of_bind h
  obtain ⟨b5, hb5, h⟩ := of_bind h
  refine V_sreg [false, false, true, false, false, false, false, false, false, false] [] (s1 := ⟨[.bot, .bot, Bo b5, .bot, .bot, .bot, .bot, .bot, .bot, .bot], []⟩) ?_ ?_
  · refine XL_cons rfl (X_of_Y0 rfl (E_move (I vn1) rfl (by kernel_rfl))) ?_
    refine XL_cons rfl (X_of_Y1 rfl (Y1_bslice (z := zv3) (els := [vn1].map c3) Try.underlying25 iz3 rfl (by decide) rfl (by kernel_rfl) rfl (by simp [c3]) (by decide) (by decide))) ?_
    refine XL_cons rfl (X_of_Y1 rfl (Y1_callS (s_impl_areNumbers hy2) cf_impl_areNumbers rfl (by kernel_rfl) rfl rfl)) ?_
    refine XL_cons rfl (X_of_Y0 rfl (E_move (Bo y2) rfl (by kernel_rfl))) ?_
    refine XL_split y2 (fun hc3 => ?_) (fun hc3 => ?_)
    · have hb5 := of_true hb5 hc3
      obtain ⟨y4, hy4, hb5⟩ := of_bind hb5
      have hb5 := some_inj hb5
      refine XL_takeC (y2) rfl rfl (by kernel_rfl) hc3 (X_of_Y0 rfl (E_move (I vn1) rfl (by kernel_rfl))) ?_
      refine XL_takeC (y2) rfl rfl (by kernel_rfl) hc3 (X_of_Y1 rfl (Y1_call (s_impl_isPrime hy4) cf_impl_isPrime rfl (by kernel_rfl))) ?_
      refine XL_cons rfl (X_of_Y0 rfl (Y0_pickTe (b := y2) (p := y4) rfl (by kernel_rfl) hc3 (by kernel_rfl) hb5)) ?_
      refine XL_cons rfl (X_of_Y0 rfl (E_assign (Bo b5) rfl (by kernel_rfl))) ?_
      refine XL_nil ?_
      kernel_rfl
    · have hb5 := some_inj (of_false hb5 hc3)
      refine XL_skipT (y2) rfl rfl (by kernel_rfl) hc3 rfl ?_
      refine XL_skipT (y2) rfl rfl (by kernel_rfl) hc3 rfl ?_
      refine XL_cons rfl (X_of_Y0 rfl (Y0_pickFe (b := y2) (p := false) rfl (by kernel_rfl) hc3 (by kernel_rfl) hb5)) ?_
      refine XL_cons rfl (X_of_Y0 rfl (E_assign (Bo b5) rfl (by kernel_rfl))) ?_
      refine XL_nil ?_
      kernel_rfl
  refine V_ret ?_
  obtain rfl := some_inj h
  show Post _ _ _ _ _
  exact ⟨.inr rfl, rfl, rfl, rfl⟩
theorem cf_impl_canRise : ∀ args w, (callFunc 76 args).run Try.prog w = .ok (.enter 76 args) w := run_callFunc Try.func76 (by kernel_rfl) (by kernel_rfl)
set_option maxRecDepth 100000 in
set_option maxHeartbeats 400000 in
theorem s_impl_canRise {d1 : Int} {p2 : Int} {r : Bool} (h : r_impl_canRise d1 p2 = some r) : CallS Try.prog 76 [I d1, I p2] (Bo r) [] := by
  refine CallS_of_text (rs := [.t 4]) (vs := [.tmp 4]) Try.func76 rfl rfl (.cons rfl FitsL.nil) (by decide) 19 rfl ?_
  unfold r_impl_canRise at h
  show V _ _ ⟨[I d1, I p2, .bot, .bot, .bot, .bot, .bot, .bot, .bot, .bot, .bot, .bot, .bot, .bot, .bot, .bot, .bot, .bot, .bot], []⟩ _
  refine V_sreg [true, true, false, false, false, false, false, false, false, false, false, false, false, false, false, false, false, false, false] [] (s1 := ⟨[I d1, I p2, .bot, .bot, .bot, .bot, .bot, .bot, .bot, .bot, .bot, .bot, .bot, .bot, .bot, .bot, .bot, .bot, .bot], []⟩) ?_ ?_
  · refine XL_cons rfl (X_of_Y0 rfl (E_assign (Bo false) rfl (by kernel_rfl))) ?_
    refine XL_nil ?_
    kernel_rfl
  obtain ⟨y3, hy3, h⟩ := of_bind h
  obtain ⟨b7, hb7, h⟩ := of_bind h
  refine V_sreg [false, false, false, false, true, false, false, false, false, false, false, false, false, false, false, false, false, false, false] [] (s1 := ⟨[.bot, .bot, .bot, .bot, Bo b7, .bot, .bot, .bot, .bot, .bot, .bot, .bot, .bot, .bot, .bot, .bot, .bot, .bot, .bot], []⟩) ?_ ?_
  · refine XL_cons rfl (X_of_Y0 rfl (E_move (I p2) rfl (by kernel_rfl))) ?_
    refine XL_cons rfl (X_of_Y1 rfl (Y1_call (s_impl_IsPrime hy3) cf_impl_IsPrime rfl (by kernel_rfl))) ?_
    refine XL_cons rfl (X_of_Y0 rfl (E_move (Bo y3) rfl (by kernel_rfl))) ?_
    refine XL_split y3 (fun hc4 => ?_) (fun hc4 => ?_)
    · refine XL_takeC (y3) rfl rfl (by kernel_rfl) hc4 (X_of_Y0 rfl (E_move (I p2) rfl (by kernel_rfl))) ?_
      refine XL_takeC (y3) rfl rfl (by kernel_rfl) hc4 (X_of_Y0 rfl (Y0_lew (k := .i64) (a := p2) (b := 2000) rfl (by kernel_rfl) (by kernel_rfl))) ?_
      refine XL_cons rfl (X_of_Y0 rfl (Y0_pick1 (b := y3) (p := leI p2 2000) (q := false) rfl (by kernel_rfl) hc4 (by kernel_rfl))) ?_
      refine XL_cons rfl (X_of_Y0 rfl (E_move (Bo (bif y3 then (leI p2 2000) else false)) rfl (by kernel_rfl))) ?_
      refine XL_split (bif y3 then (leI p2 2000) else false) (fun hc5 => ?_) (fun hc5 => ?_)
      · have hb7 := of_true hb7 hc5
        obtain ⟨y6, hy6, hb7⟩ := of_bind hb7
        have hb7 := some_inj hb7
        refine XL_takeC (bif y3 then (leI p2 2000) else false) rfl rfl (by kernel_rfl) hc5 (X_of_Y0 rfl (E_move (I d1) rfl (by kernel_rfl))) ?_
        refine XL_takeC (bif y3 then (leI p2 2000) else false) rfl rfl (by kernel_rfl) hc5 (X_of_Y0 rfl (E_move (I p2) rfl (by kernel_rfl))) ?_
        refine XL_takeC (bif y3 then (leI p2 2000) else false) rfl rfl (by kernel_rfl) hc5 (X_of_Y0 rfl (Y0_mul64 (a := d1) (b := p2) rfl (by kernel_rfl) (by kernel_rfl))) ?_
        refine XL_takeC (bif y3 then (leI p2 2000) else false) rfl rfl (by kernel_rfl) hc5 (X_of_Y0 rfl (E_move (I p2) rfl (by kernel_rfl))) ?_
        refine XL_takeC (bif y3 then (leI p2 2000) else false) rfl rfl (by kernel_rfl) hc5 (X_of_Y0 rfl (Y0_mul64 (a := w64 (d1 * p2)) (b := p2) rfl (by kernel_rfl) (by kernel_rfl))) ?_
        refine XL_takeC (bif y3 then (leI p2 2000) else false) rfl rfl (by kernel_rfl) hc5 (X_of_Y1 rfl (Y1_call (s_impl_isNegativeDisc hy6) cf_impl_isNegativeDisc rfl (by kernel_rfl))) ?_
        refine XL_cons rfl (X_of_Y0 rfl (Y0_pickTe (b := bif y3 then (leI p2 2000) else false) (p := y6) rfl (by kernel_rfl) hc5 (by kernel_rfl) hb7)) ?_
        refine XL_cons rfl (X_of_Y0 rfl (E_assign (Bo b7) rfl (by kernel_rfl))) ?_
        refine XL_nil ?_
        kernel_rfl
      · have hb7 := some_inj (of_false hb7 hc5)
        refine XL_skipT (bif y3 then (leI p2 2000) else false) rfl rfl (by kernel_rfl) hc5 rfl ?_
        refine XL_skipT (bif y3 then (leI p2 2000) else false) rfl rfl (by kernel_rfl) hc5 rfl ?_
        refine XL_skipT (bif y3 then (leI p2 2000) else false) rfl rfl (by kernel_rfl) hc5 rfl ?_
        refine XL_skipT (bif y3 then (leI p2 2000) else false) rfl rfl (by kernel_rfl) hc5 rfl ?_
        refine XL_skipT (bif y3 then (leI p2 2000) else false) rfl rfl (by kernel_rfl) hc5 rfl ?_
        refine XL_skipT (bif y3 then (leI p2 2000) else false) rfl rfl (by kernel_rfl) hc5 rfl ?_
        refine XL_cons rfl (X_of_Y0 rfl (Y0_pickFe (b := bif y3 then (leI p2 2000) else false) (p := false) rfl (by kernel_rfl) hc5 (by kernel_rfl) hb7)) ?_
        refine XL_cons rfl (X_of_Y0 rfl (E_assign (Bo b7) rfl (by kernel_rfl))) ?_
        refine XL_nil ?_
        kernel_rfl
    · refine XL_skipT (y3) rfl rfl (by kernel_rfl) hc4 rfl ?_
      refine XL_skipT (y3) rfl rfl (by kernel_rfl) hc4 rfl ?_
      refine XL_cons rfl (X_of_Y0 rfl (Y0_pick0 (b := y3) (p := leI p2 2000) (q := false) rfl (by kernel_rfl) hc4 (by kernel_rfl))) ?_
      refine XL_cons rfl (X_of_Y0 rfl (E_move (Bo (bif y3 then (leI p2 2000) else false)) rfl (by kernel_rfl))) ?_
      refine XL_split (bif y3 then (leI p2 2000) else false) (fun hc5 => ?_) (fun hc5 => ?_)
      · have hb7 := of_true hb7 hc5
        obtain ⟨y6, hy6, hb7⟩ := of_bind hb7
        have hb7 := some_inj hb7
        refine XL_takeC (bif y3 then (leI p2 2000) else false) rfl rfl (by kernel_rfl) hc5 (X_of_Y0 rfl (E_move (I d1) rfl (by kernel_rfl))) ?_
        refine XL_takeC (bif y3 then (leI p2 2000) else false) rfl rfl (by kernel_rfl) hc5 (X_of_Y0 rfl (E_move (I p2) rfl (by kernel_rfl))) ?_
        refine XL_takeC (bif y3 then (leI p2 2000) else false) rfl rfl (by kernel_rfl) hc5 (X_of_Y0 rfl (Y0_mul64 (a := d1) (b := p2) rfl (by kernel_rfl) (by kernel_rfl))) ?_
        refine XL_takeC (bif y3 then (leI p2 2000) else false) rfl rfl (by kernel_rfl) hc5 (X_of_Y0 rfl (E_move (I p2) rfl (by kernel_rfl))) ?_
        refine XL_takeC (bif y3 then (leI p2 2000) else false) rfl rfl (by kernel_rfl) hc5 (X_of_Y0 rfl (Y0_mul64 (a := w64 (d1 * p2)) (b := p2) rfl (by kernel_rfl) (by kernel_rfl))) ?_
        refine XL_takeC (bif y3 then (leI p2 2000) else false) rfl rfl (by kernel_rfl) hc5 (X_of_Y1 rfl (Y1_call (s_impl_isNegativeDisc hy6) cf_impl_isNegativeDisc rfl (by kernel_rfl))) ?_
        refine XL_cons rfl (X_of_Y0 rfl (Y0_pickTe (b := bif y3 then (leI p2 2000) else false) (p := y6) rfl (by kernel_rfl) hc5 (by kernel_rfl) hb7)) ?_
        refine XL_cons rfl (X_of_Y0 rfl (E_assign (Bo b7) rfl (by kernel_rfl))) ?_
        refine XL_nil ?_
        kernel_rfl
      · have hb7 := some_inj (of_false hb7 hc5)
        refine XL_skipT (bif y3 then (leI p2 2000) else false) rfl rfl (by kernel_rfl) hc5 rfl ?_
        refine XL_skipT (bif y3 then (leI p2 2000) else false) rfl rfl (by kernel_rfl) hc5 rfl ?_
        refine XL_skipT (bif y3 then (leI p2 2000) else false) rfl rfl (by kernel_rfl) hc5 rfl ?_
        refine XL_skipT (bif y3 then (leI p2 2000) else false) rfl rfl (by kernel_rfl) hc5 rfl ?_
        refine XL_skipT (bif y3 then (leI p2 2000) else false) rfl rfl (by kernel_rfl) hc5 rfl ?_
        refine XL_skipT (bif y3 then (leI p2 2000) else false) rfl rfl (by kernel_rfl) hc5 rfl ?_
        refine XL_cons rfl (X_of_Y0 rfl (Y0_pickFe (b := bif y3 then (leI p2 2000) else false) (p := false) rfl (by kernel_rfl) hc5 (by kernel_rfl) hb7)) ?_
        refine XL_cons rfl (X_of_Y0 rfl (E_assign (Bo b7) rfl (by kernel_rfl))) ?_
        refine XL_nil ?_
        kernel_rfl
  refine V_ret ?_
  obtain rfl := some_inj h
  show Post _ _ _ _ _
  exact ⟨.inr rfl, rfl, rfl, rfl⟩
theorem cf_impl_principalForm : ∀ args w, (callFunc 92 args).run Try.prog w = .ok (.enter 92 args) w := run_callFunc Try.func92 (by kernel_rfl) (by kernel_rfl)
set_option maxRecDepth 100000 in
set_option maxHeartbeats 400000 in
theorem s_impl_principalForm {d1 : Int} {r : (Int × Int × Int)} (h : r_impl_principalForm d1 = some r) : CallS Try.prog 92 [I d1] (.ag [Ti r.1, Ti r.2.1, Ti r.2.2]) [] := by
  refine CallS_of_text (rs := [.w 2 3]) (vs := [.cell 2 36]) Try.func92 rfl rfl (.cons ⟨rfl, wd36⟩ FitsL.nil) (by decide) 12 rfl ?_
  unfold r_impl_principalForm at h
  show V _ _ ⟨[I d1, .bot, .bot, .bot, .bot, .bot, .bot, .bot, .bot, .bot, .bot, .bot], []⟩ _
  refine V_sreg [true, false, true, false, false, false, false, false, false, false, false, false] [16] (s1 := ⟨[I d1, .bot, .pt 16 0, .bot, .bot, .bot, .bot, .bot, .bot, .bot, .bot, .bot], [(16, .box [Ti 0, Ti 0, Ti 0])]⟩) ?_ ?_
  · refine XL_cons rfl (X_of_Y1 rfl (Y1_alloc (z := zv36) rfl zf36 rfl)) ?_
    refine XL_nil ?_
    kernel_rfl
  obtain ⟨y2, hy2, h⟩ := of_bind h
  refine V_sreg [true, false, true, true, false, false, false, false, false, false, false, false] [16] (s1 := ⟨[I d1, .bot, .pt 16 0, I y2, .bot, .bot, .bot, .bot, .bot, .bot, .bot, .bot], [(16, .box [Ti 0, Ti 0, Ti 0])]⟩) ?_ ?_
  · refine XL_cons rfl (X_of_Y0 rfl (E_move (I d1) rfl (by kernel_rfl))) ?_
    refine XL_cons rfl (X_of_Y1 rfl (Y1_call (s_impl_mod hy2) cf_impl_mod rfl (by kernel_rfl))) ?_
    refine XL_cons rfl (X_of_Y0 rfl (E_assign (I y2) rfl (by kernel_rfl))) ?_
    refine XL_nil ?_
    kernel_rfl
  obtain ⟨f3, hf3, h⟩ := of_sI h
  refine V_sreg [false, false, true, false, false, false, false, false, false, false, false, false] [16] (s1 := ⟨[.bot, .bot, .pt 16 0, .bot, .bot, .bot, .bot, .bot, .bot, .bot, .bot, .bot], [(16, .box [Ti 1, Ti y2, Ti f3])]⟩) ?_ ?_
  · refine XL_cons rfl (X_of_Y0 rfl (E_move (I y2) rfl (by kernel_rfl))) ?_
    refine XL_cons rfl (X_of_Y0 rfl (E_move (I y2) rfl (by kernel_rfl))) ?_
    refine XL_cons rfl (X_of_Y0 rfl (E_move (I d1) rfl (by kernel_rfl))) ?_
    refine XL_cons rfl (X_of_Y0 rfl (Y0_sub64 (a := y2) (b := d1) rfl (by kernel_rfl) (by kernel_rfl))) ?_
    refine XL_cons rfl (X_of_Y0 rfl (Y0_quo64 (a := w64 (y2 - d1)) (b := 4) rfl (by kernel_rfl) (by kernel_rfl) (by decide))) ?_
    refine XL_cons rfl (X_of_Y0 rfl (Y0_build (cs := [Ti 1, Ti y2, Ti (w64 (Int.tdiv (w64 (y2 - d1)) 4))]) pl36 bt36 rfl rfl (by kernel_rfl))) ?_
    refine XL_cons rfl (E_store (id := 16) (off := 0) (cs := [Ti 0, Ti 0, Ti 0]) (vc := [Ti 1, Ti y2, Ti (w64 (Int.tdiv (w64 (y2 - d1)) 4))]) [Ti 1, Ti y2, Ti (w64 (Int.tdiv (w64 (y2 - d1)) 4))] rfl rfl (by kernel_rfl) (by kernel_rfl) (by kernel_rfl) sz36 (Nat.le_of_ble_eq_true rfl) (by kernel_rfl)) ?_
    refine XL_nil ?_
    subst hf3
    kernel_rfl
  refine V_ret ?_
  obtain rfl := some_inj h
  show Post _ _ _ _ _
  exact ⟨.inr rfl, rfl, rfl, rfl⟩
theorem cf_impl_one : ∀ args w, (callFunc 129 args).run Try.prog w = .ok (.enter 129 args) w := run_callFunc Try.func129 (by kernel_rfl) (by kernel_rfl)
set_option maxRecDepth 100000 in
set_option maxHeartbeats 400000 in
theorem s_impl_one {r : (Int × Int × Int × Int)} (h : r_impl_one = some r) : CallS Try.prog 129 [] (.ag [Ti r.1, Ti r.2.1, Ti r.2.2.1, Ti r.2.2.2]) [] := by
  refine CallS_of_text (rs := [.w 0 4]) (vs := [.cell 0 38]) Try.func129 rfl rfl (.cons ⟨rfl, wd38⟩ FitsL.nil) (by decide) 2 rfl ?_
  unfold r_impl_one at h
  show V _ _ ⟨[.bot, .bot], []⟩ _
  refine V_sreg [true, false] [0] (s1 := ⟨[.pt 0 0, .bot], [(0, .box [Ti 0, Ti 0, Ti 0, Ti 0])]⟩) ?_ ?_
  · refine XL_cons rfl (X_of_Y1 rfl (Y1_alloc (z := zv38) rfl zf38 rfl)) ?_
    refine XL_nil ?_
    kernel_rfl
  refine V_sreg [true, false] [0] (s1 := ⟨[.pt 0 0, .bot], [(0, .box [Ti 1, Ti 0, Ti 0, Ti 1])]⟩) ?_ ?_
  · refine XL_cons rfl (X_of_Y0 rfl (Y0_build (cs := [Ti 1, Ti 0, Ti 0, Ti 1]) pl38 bt38 rfl rfl (by kernel_rfl))) ?_
    refine XL_cons rfl (E_store (id := 0) (off := 0) (cs := [Ti 0, Ti 0, Ti 0, Ti 0]) (vc := [Ti 1, Ti 0, Ti 0, Ti 1]) [Ti 1, Ti 0, Ti 0, Ti 1] rfl rfl (by kernel_rfl) (by kernel_rfl) (by kernel_rfl) sz38 (Nat.le_of_ble_eq_true rfl) (by kernel_rfl)) ?_
    refine XL_nil ?_
    kernel_rfl
  refine V_ret ?_
  obtain rfl := some_inj h
  show Post _ _ _ _ _
  exact ⟨.inr rfl, rfl, rfl, rfl⟩
theorem cf_impl_Form_isNormal : ∀ args w, (callFunc 151 args).run Try.prog w = .ok (.enter 151 args) w := run_callFunc Try.func151 (by kernel_rfl) (by kernel_rfl)
set_option maxRecDepth 100000 in
set_option maxHeartbeats 400000 in
theorem s_impl_Form_isNormal {f1 : (Int × Int × Int)} {r : Bool} (h : r_impl_Form_isNormal f1 = some r) : CallS Try.prog 151 [.ag [Ti f1.1, Ti f1.2.1, Ti f1.2.2]] (Bo r) [] := by
  refine CallS_of_text (rs := [.t 2]) (vs := [.tmp 2]) Try.func151 rfl rfl (.cons rfl FitsL.nil) (by decide) 16 rfl ?_
  unfold r_impl_Form_isNormal at h
  show V _ _ ⟨[.ag [Ti f1.1, Ti f1.2.1, Ti f1.2.2], .bot, .bot, .bot, .bot, .bot, .bot, .bot, .bot, .bot, .bot, .bot, .bot, .bot, .bot, .bot], []⟩ _
  refine V_sreg [false, true, false, false, false, false, false, false, false, false, false, false, false, false, false, false] [8] (s1 := ⟨[.bot, .pt 8 0, .bot, .bot, .bot, .bot, .bot, .bot, .bot, .bot, .bot, .bot, .bot, .bot, .bot, .bot], [(8, .box [Ti f1.1, Ti f1.2.1, Ti f1.2.2])]⟩) ?_ ?_
  · refine XL_cons rfl (X_of_Y1 rfl (Y1_box (cs := [Ti f1.1, Ti f1.2.1, Ti f1.2.2]) rfl (by kernel_rfl))) ?_
    refine XL_cons rfl (X_of_Y0 rfl (E_assign (Bo false) rfl (by kernel_rfl))) ?_
    refine XL_nil ?_
    kernel_rfl
  obtain ⟨t3, ht3, h⟩ := of_bind h
  have ht3 := some_inj ht3
  refine V_sreg [false, false, true, false, false, false, false, false, false, false, false, false, false, false, false, false] [] (s1 := ⟨[.bot, .bot, Bo t3, .bot, .bot, .bot, .bot, .bot, .bot, .bot, .bot, .bot, .bot, .bot, .bot, .bot], []⟩) ?_ ?_
  · refine XL_cons rfl (X_of_Y0 rfl (E_field (.pt 8 0) Try.underlying36 rfl sz3 rfl (by kernel_rfl) (by intro hh; cases hh))) ?_
    refine XL_cons rfl (X_of_Y0 rfl (Y0_load1 (c := Ti f1.1) (cs := [Ti f1.2.1, Ti f1.2.2]) sc3 rfl (by kernel_rfl))) ?_
    refine XL_cons rfl (X_of_Y0 rfl (Y0_neg64 (a := f1.1) rfl (by kernel_rfl))) ?_
    refine XL_cons rfl (X_of_Y0 rfl (E_field (.pt 8 1) Try.underlying36 rfl sz3 rfl (by kernel_rfl) (by intro hh; cases hh))) ?_
    refine XL_cons rfl (X_of_Y0 rfl (Y0_load1 (c := Ti f1.2.1) (cs := [Ti f1.2.2]) sc3 rfl (by kernel_rfl))) ?_
    refine XL_cons rfl (X_of_Y0 rfl (Y0_ltw (k := .i64) (a := w64 (0 - f1.1)) (b := f1.2.1) rfl (by kernel_rfl) (by kernel_rfl))) ?_
    refine XL_cons rfl (X_of_Y0 rfl (E_move (Bo (ltI (w64 (0 - f1.1)) f1.2.1)) rfl (by kernel_rfl))) ?_
    refine XL_split (ltI (w64 (0 - f1.1)) f1.2.1) (fun hc2 => ?_) (fun hc2 => ?_)
    · refine XL_takeC (ltI (w64 (0 - f1.1)) f1.2.1) rfl rfl (by kernel_rfl) hc2 (X_of_Y0 rfl (E_field (.pt 8 1) Try.underlying36 rfl sz3 rfl (by kernel_rfl) (by intro hh; cases hh))) ?_
      refine XL_takeC (ltI (w64 (0 - f1.1)) f1.2.1) rfl rfl (by kernel_rfl) hc2 (X_of_Y0 rfl (Y0_load1 (c := Ti f1.2.1) (cs := [Ti f1.2.2]) sc3 rfl (by kernel_rfl))) ?_
      refine XL_takeC (ltI (w64 (0 - f1.1)) f1.2.1) rfl rfl (by kernel_rfl) hc2 (X_of_Y0 rfl (E_field (.pt 8 0) Try.underlying36 rfl sz3 rfl (by kernel_rfl) (by intro hh; cases hh))) ?_
      refine XL_takeC (ltI (w64 (0 - f1.1)) f1.2.1) rfl rfl (by kernel_rfl) hc2 (X_of_Y0 rfl (Y0_load1 (c := Ti f1.1) (cs := [Ti f1.2.1, Ti f1.2.2]) sc3 rfl (by kernel_rfl))) ?_
      refine XL_takeC (ltI (w64 (0 - f1.1)) f1.2.1) rfl rfl (by kernel_rfl) hc2 (X_of_Y0 rfl (Y0_lew (k := .i64) (a := f1.2.1) (b := f1.1) rfl (by kernel_rfl) (by kernel_rfl))) ?_
      refine XL_cons rfl (X_of_Y0 rfl (Y0_pick1 (b := ltI (w64 (0 - f1.1)) f1.2.1) (p := leI f1.2.1 f1.1) (q := false) rfl (by kernel_rfl) hc2 (by kernel_rfl))) ?_
      refine XL_cons rfl (X_of_Y0 rfl (E_assign (Bo (bif (ltI (w64 (0 - f1.1)) f1.2.1) then (leI f1.2.1 f1.1) else false)) rfl (by kernel_rfl))) ?_
      refine XL_nil ?_
      subst ht3
      kernel_rfl
    · refine XL_skipT (ltI (w64 (0 - f1.1)) f1.2.1) rfl rfl (by kernel_rfl) hc2 rfl ?_
      refine XL_skipT (ltI (w64 (0 - f1.1)) f1.2.1) rfl rfl (by kernel_rfl) hc2 rfl ?_
      refine XL_skipT (ltI (w64 (0 - f1.1)) f1.2.1) rfl rfl (by kernel_rfl) hc2 rfl ?_
      refine XL_skipT (ltI (w64 (0 - f1.1)) f1.2.1) rfl rfl (by kernel_rfl) hc2 rfl ?_
      refine XL_skipT (ltI (w64 (0 - f1.1)) f1.2.1) rfl rfl (by kernel_rfl) hc2 rfl ?_
      refine XL_cons rfl (X_of_Y0 rfl (Y0_pick0 (b := ltI (w64 (0 - f1.1)) f1.2.1) (p := leI f1.2.1 f1.1) (q := false) rfl (by kernel_rfl) hc2 (by kernel_rfl))) ?_
      refine XL_cons rfl (X_of_Y0 rfl (E_assign (Bo (bif (ltI (w64 (0 - f1.1)) f1.2.1) then (leI f1.2.1 f1.1) else false)) rfl (by kernel_rfl))) ?_
      refine XL_nil ?_
      subst ht3
      kernel_rfl
  refine V_ret ?_
  obtain rfl := some_inj h
  show Post _ _ _ _ _
  exact ⟨.inr rfl, rfl, rfl, rfl⟩
theorem cf_impl_Form_isReduced : ∀ args w, (callFunc 139 args).run Try.prog w = .ok (.enter 139 args) w := run_callFunc Try.func139 (by kernel_rfl) (by kernel_rfl)
set_option maxRecDepth 100000 in
set_option maxHeartbeats 400000 in
theorem s_impl_Form_isReduced {f1 : (Int × Int × Int)} {r : Bool} (h : r_impl_Form_isReduced f1 = some r) : CallS Try.prog 139 [.ag [Ti f1.1, Ti f1.2.1, Ti f1.2.2]] (Bo r) [] := by
  refine CallS_of_text (rs := [.t 2]) (vs := [.tmp 2]) Try.func139 rfl rfl (.cons rfl FitsL.nil) (by decide) 24 rfl ?_
  unfold r_impl_Form_isReduced at h
  show V _ _ ⟨[.ag [Ti f1.1, Ti f1.2.1, Ti f1.2.2], .bot, .bot, .bot, .bot, .bot, .bot, .bot, .bot, .bot, .bot, .bot, .bot, .bot, .bot, .bot, .bot, .bot, .bot, .bot, .bot, .bot, .bot, .bot], []⟩ _
  refine V_sreg [false, true, false, false, false, false, false, false, false, false, false, false, false, false, false, false, false, false, false, false, false, false, false, false] [8] (s1 := ⟨[.bot, .pt 8 0, .bot, .bot, .bot, .bot, .bot, .bot, .bot, .bot, .bot, .bot, .bot, .bot, .bot, .bot, .bot, .bot, .bot, .bot, .bot, .bot, .bot, .bot], [(8, .box [Ti f1.1, Ti f1.2.1, Ti f1.2.2])]⟩) ?_ ?_
  · refine XL_cons rfl (X_of_Y1 rfl (Y1_box (cs := [Ti f1.1, Ti f1.2.1, Ti f1.2.2]) rfl (by kernel_rfl))) ?_
    refine XL_cons rfl (X_of_Y0 rfl (E_assign (Bo false) rfl (by kernel_rfl))) ?_
    refine XL_nil ?_
    kernel_rfl
  obtain ⟨y2, hy2, h⟩ := of_bind h
  obtain ⟨t6, ht6, h⟩ := of_bind h
  have ht6 := some_inj ht6
  refine V_sreg [false, false, true, false, false, false, false, false, false, false, false, false, false, false, false, false, false, false, false, false, false, false, false, false] [] (s1 := ⟨[.bot, .bot, Bo t6, .bot, .bot, .bot, .bot, .bot, .bot, .bot, .bot, .bot, .bot, .bot, .bot, .bot, .bot, .bot, .bot, .bot, .bot, .bot, .bot, .bot], []⟩) ?_ ?_
  · refine XL_cons rfl (X_of_Y0 rfl (E_loadn (cs := [Ti f1.1, Ti f1.2.1, Ti f1.2.2]) [Ti f1.1, Ti f1.2.1, Ti f1.2.2] wd36 rfl (by kernel_rfl) (Nat.le_of_ble_eq_true rfl) (by kernel_rfl))) ?_
    refine XL_cons rfl (X_of_Y1 rfl (Y1_call (s_impl_Form_isNormal hy2) cf_impl_Form_isNormal rfl (by kernel_rfl))) ?_
    refine XL_cons rfl (X_of_Y0 rfl (E_move (Bo y2) rfl (by kernel_rfl))) ?_
    refine XL_split y2 (fun hc3 => ?_) (fun hc3 => ?_)
    · refine XL_takeC (y2) rfl rfl (by kernel_rfl) hc3 (X_of_Y0 rfl (E_field (.pt 8 0) Try.underlying36 rfl sz3 rfl (by kernel_rfl) (by intro hh; cases hh))) ?_
      refine XL_takeC (y2) rfl rfl (by kernel_rfl) hc3 (X_of_Y0 rfl (Y0_load1 (c := Ti f1.1) (cs := [Ti f1.2.1, Ti f1.2.2]) sc3 rfl (by kernel_rfl))) ?_
      refine XL_takeC (y2) rfl rfl (by kernel_rfl) hc3 (X_of_Y0 rfl (E_field (.pt 8 2) Try.underlying36 rfl sz3 rfl (by kernel_rfl) (by intro hh; cases hh))) ?_
      refine XL_takeC (y2) rfl rfl (by kernel_rfl) hc3 (X_of_Y0 rfl (Y0_load1 (c := Ti f1.2.2) (cs := []) sc3 rfl (by kernel_rfl))) ?_
      refine XL_takeC (y2) rfl rfl (by kernel_rfl) hc3 (X_of_Y0 rfl (Y0_ltw (k := .i64) (a := f1.1) (b := f1.2.2) rfl (by kernel_rfl) (by kernel_rfl))) ?_
      refine XL_takeC (y2) rfl rfl (by kernel_rfl) hc3 (X_of_Y0 rfl (E_move (Bo (ltI f1.1 f1.2.2)) rfl (by kernel_rfl))) ?_
      refine XL_split (ltI f1.1 f1.2.2) (fun hc4 => ?_) (fun hc4 => ?_)
      · refine XL_skipF (ltI f1.1 f1.2.2) rfl rfl (by kernel_rfl) hc4 rfl ?_
        refine XL_skipF (ltI f1.1 f1.2.2) rfl rfl (by kernel_rfl) hc4 rfl ?_
        refine XL_skipF (ltI f1.1 f1.2.2) rfl rfl (by kernel_rfl) hc4 rfl ?_
        refine XL_skipF (ltI f1.1 f1.2.2) rfl rfl (by kernel_rfl) hc4 rfl ?_
        refine XL_skipF (ltI f1.1 f1.2.2) rfl rfl (by kernel_rfl) hc4 rfl ?_
        refine XL_skipF (ltI f1.1 f1.2.2) rfl rfl (by kernel_rfl) hc4 rfl ?_
        refine XL_skip2 rfl rfl (by kernel_rfl) rfl ?_
        refine XL_skip2 rfl rfl (by kernel_rfl) rfl ?_
        refine XL_skip2 rfl rfl (by kernel_rfl) rfl ?_
        refine XL_skipF (ltI f1.1 f1.2.2) rfl rfl (by kernel_rfl) hc4 rfl ?_
        refine XL_takeC (y2) rfl rfl (by kernel_rfl) hc3 (X_of_Y0 rfl (Y0_pick1 (b := ltI f1.1 f1.2.2) (p := true) (q := bif (eqI f1.1 f1.2.2) then (leI 0 f1.2.1) else false) rfl (by kernel_rfl) hc4 (by kernel_rfl))) ?_
        refine XL_cons rfl (X_of_Y0 rfl (Y0_pick1 (b := y2) (p := bif (ltI f1.1 f1.2.2) then true else (bif (eqI f1.1 f1.2.2) then (leI 0 f1.2.1) else false)) (q := false) rfl (by kernel_rfl) hc3 (by kernel_rfl))) ?_
        refine XL_cons rfl (X_of_Y0 rfl (E_assign (Bo (bif y2 then (bif (ltI f1.1 f1.2.2) then true else (bif (eqI f1.1 f1.2.2) then (leI 0 f1.2.1) else false)) else false)) rfl (by kernel_rfl))) ?_
        refine XL_nil ?_
        subst ht6
        kernel_rfl
      · refine XL_takeC (ltI f1.1 f1.2.2) rfl rfl (by kernel_rfl) hc4 (X_of_Y0 rfl (E_field (.pt 8 0) Try.underlying36 rfl sz3 rfl (by kernel_rfl) (by intro hh; cases hh))) ?_
        refine XL_takeC (ltI f1.1 f1.2.2) rfl rfl (by kernel_rfl) hc4 (X_of_Y0 rfl (Y0_load1 (c := Ti f1.1) (cs := [Ti f1.2.1, Ti f1.2.2]) sc3 rfl (by kernel_rfl))) ?_
        refine XL_takeC (ltI f1.1 f1.2.2) rfl rfl (by kernel_rfl) hc4 (X_of_Y0 rfl (E_field (.pt 8 2) Try.underlying36 rfl sz3 rfl (by kernel_rfl) (by intro hh; cases hh))) ?_
        refine XL_takeC (ltI f1.1 f1.2.2) rfl rfl (by kernel_rfl) hc4 (X_of_Y0 rfl (Y0_load1 (c := Ti f1.2.2) (cs := []) sc3 rfl (by kernel_rfl))) ?_
        refine XL_takeC (ltI f1.1 f1.2.2) rfl rfl (by kernel_rfl) hc4 (X_of_Y0 rfl (Y0_eqw (k := .i64) (a := f1.1) (b := f1.2.2) rfl (by kernel_rfl) (by kernel_rfl))) ?_
        refine XL_takeC (ltI f1.1 f1.2.2) rfl rfl (by kernel_rfl) hc4 (X_of_Y0 rfl (E_move (Bo (eqI f1.1 f1.2.2)) rfl (by kernel_rfl))) ?_
        refine XL_split (eqI f1.1 f1.2.2) (fun hc5 => ?_) (fun hc5 => ?_)
        · refine XL_takeC (eqI f1.1 f1.2.2) rfl rfl (by kernel_rfl) hc5 (X_of_Y0 rfl (E_field (.pt 8 1) Try.underlying36 rfl sz3 rfl (by kernel_rfl) (by intro hh; cases hh))) ?_
          refine XL_takeC (eqI f1.1 f1.2.2) rfl rfl (by kernel_rfl) hc5 (X_of_Y0 rfl (Y0_load1 (c := Ti f1.2.1) (cs := [Ti f1.2.2]) sc3 rfl (by kernel_rfl))) ?_
          refine XL_takeC (eqI f1.1 f1.2.2) rfl rfl (by kernel_rfl) hc5 (X_of_Y0 rfl (Y0_gew (k := .i64) (a := f1.2.1) (b := 0) rfl (by kernel_rfl) (by kernel_rfl))) ?_
          refine XL_takeC (ltI f1.1 f1.2.2) rfl rfl (by kernel_rfl) hc4 (X_of_Y0 rfl (Y0_pick1 (b := eqI f1.1 f1.2.2) (p := leI 0 f1.2.1) (q := false) rfl (by kernel_rfl) hc5 (by kernel_rfl))) ?_
          refine XL_takeC (y2) rfl rfl (by kernel_rfl) hc3 (X_of_Y0 rfl (Y0_pick0 (b := ltI f1.1 f1.2.2) (p := true) (q := bif (eqI f1.1 f1.2.2) then (leI 0 f1.2.1) else false) rfl (by kernel_rfl) hc4 (by kernel_rfl))) ?_
          refine XL_cons rfl (X_of_Y0 rfl (Y0_pick1 (b := y2) (p := bif (ltI f1.1 f1.2.2) then true else (bif (eqI f1.1 f1.2.2) then (leI 0 f1.2.1) else false)) (q := false) rfl (by kernel_rfl) hc3 (by kernel_rfl))) ?_
          refine XL_cons rfl (X_of_Y0 rfl (E_assign (Bo (bif y2 then (bif (ltI f1.1 f1.2.2) then true else (bif (eqI f1.1 f1.2.2) then (leI 0 f1.2.1) else false)) else false)) rfl (by kernel_rfl))) ?_
          refine XL_nil ?_
          subst ht6
          kernel_rfl
        · refine XL_skipT (eqI f1.1 f1.2.2) rfl rfl (by kernel_rfl) hc5 rfl ?_
          refine XL_skipT (eqI f1.1 f1.2.2) rfl rfl (by kernel_rfl) hc5 rfl ?_
          refine XL_skipT (eqI f1.1 f1.2.2) rfl rfl (by kernel_rfl) hc5 rfl ?_
          refine XL_takeC (ltI f1.1 f1.2.2) rfl rfl (by kernel_rfl) hc4 (X_of_Y0 rfl (Y0_pick0 (b := eqI f1.1 f1.2.2) (p := leI 0 f1.2.1) (q := false) rfl (by kernel_rfl) hc5 (by kernel_rfl))) ?_
          refine XL_takeC (y2) rfl rfl (by kernel_rfl) hc3 (X_of_Y0 rfl (Y0_pick0 (b := ltI f1.1 f1.2.2) (p := true) (q := bif (eqI f1.1 f1.2.2) then (leI 0 f1.2.1) else false) rfl (by kernel_rfl) hc4 (by kernel_rfl))) ?_
          refine XL_cons rfl (X_of_Y0 rfl (Y0_pick1 (b := y2) (p := bif (ltI f1.1 f1.2.2) then true else (bif (eqI f1.1 f1.2.2) then (leI 0 f1.2.1) else false)) (q := false) rfl (by kernel_rfl) hc3 (by kernel_rfl))) ?_
          refine XL_cons rfl (X_of_Y0 rfl (E_assign (Bo (bif y2 then (bif (ltI f1.1 f1.2.2) then true else (bif (eqI f1.1 f1.2.2) then (leI 0 f1.2.1) else false)) else false)) rfl (by kernel_rfl))) ?_
          refine XL_nil ?_
          subst ht6
          kernel_rfl
    · refine XL_skipT (y2) rfl rfl (by kernel_rfl) hc3 rfl ?_
      refine XL_skipT (y2) rfl rfl (by kernel_rfl) hc3 rfl ?_
      refine XL_skipT (y2) rfl rfl (by kernel_rfl) hc3 rfl ?_
      refine XL_skipT (y2) rfl rfl (by kernel_rfl) hc3 rfl ?_
      refine XL_skipT (y2) rfl rfl (by kernel_rfl) hc3 rfl ?_
      refine XL_skipT (y2) rfl rfl (by kernel_rfl) hc3 rfl ?_
      refine XL_skip2 rfl rfl (by kernel_rfl) rfl ?_
      refine XL_skip2 rfl rfl (by kernel_rfl) rfl ?_
      refine XL_skip2 rfl rfl (by kernel_rfl) rfl ?_
      refine XL_skip2 rfl rfl (by kernel_rfl) rfl ?_
      refine XL_skip2 rfl rfl (by kernel_rfl) rfl ?_
      refine XL_skip2 rfl rfl (by kernel_rfl) rfl ?_
      refine XL_skip2 rfl rfl (by kernel_rfl) rfl ?_
      refine XL_skip2 rfl rfl (by kernel_rfl) rfl ?_
      refine XL_skip2 rfl rfl (by kernel_rfl) rfl ?_
      refine XL_skip2 rfl rfl (by kernel_rfl) rfl ?_
      refine XL_skipT (y2) rfl rfl (by kernel_rfl) hc3 rfl ?_
      refine XL_cons rfl (X_of_Y0 rfl (Y0_pick0 (b := y2) (p := bif (ltI f1.1 f1.2.2) then true else (bif (eqI f1.1 f1.2.2) then (leI 0 f1.2.1) else false)) (q := false) rfl (by kernel_rfl) hc3 (by kernel_rfl))) ?_
      refine XL_cons rfl (X_of_Y0 rfl (E_assign (Bo (bif y2 then (bif (ltI f1.1 f1.2.2) then true else (bif (eqI f1.1 f1.2.2) then (leI 0 f1.2.1) else false)) else false)) rfl (by kernel_rfl))) ?_
      refine XL_nil ?_
      subst ht6
      kernel_rfl
  refine V_ret ?_
  obtain rfl := some_inj h
  show Post _ _ _ _ _
  exact ⟨.inr rfl, rfl, rfl, rfl⟩
theorem cf_impl_floorDiv : ∀ args w, (callFunc 146 args).run Try.prog w = .ok (.enter 146 args) w := run_callFunc Try.func146 (by kernel_rfl) (by kernel_rfl)
set_option maxRecDepth 100000 in
set_option maxHeartbeats 400000 in
theorem s_impl_floorDiv {a1 : Int} {vm2 : Int} {r : Int} (h : r_impl_floorDiv a1 vm2 = some r) : CallS Try.prog 146 [I a1, I vm2] (I r) [] := by
  refine CallS_of_text (rs := [.t 4]) (vs := [.tmp 4]) Try.func146 rfl rfl (.cons rfl FitsL.nil) (by decide) 12 rfl ?_
  unfold r_impl_floorDiv at h
  show V _ _ ⟨[I a1, I vm2, .bot, .bot, .bot, .bot, .bot, .bot, .bot, .bot, .bot, .bot], []⟩ _
  refine V_sreg [true, true, false, false, false, false, false, false, false, false, false, false] [] (s1 := ⟨[I a1, I vm2, .bot, .bot, .bot, .bot, .bot, .bot, .bot, .bot, .bot, .bot], []⟩) ?_ ?_
  · refine XL_cons rfl (X_of_Y0 rfl (E_assign (I 0) rfl (by kernel_rfl))) ?_
    refine XL_nil ?_
    kernel_rfl
  obtain ⟨y3, hy3, h⟩ := of_bind h
  obtain ⟨z4, hz4, h⟩ := of_bind h
  obtain ⟨t5, ht5, h⟩ := of_sI h
  refine V_sreg [false, false, false, false, true, false, false, false, false, false, false, false] [] (s1 := ⟨[.bot, .bot, .bot, .bot, I t5, .bot, .bot, .bot, .bot, .bot, .bot, .bot], []⟩) ?_ ?_
  · refine XL_cons rfl (X_of_Y0 rfl (E_move (I a1) rfl (by kernel_rfl))) ?_
    refine XL_cons rfl (X_of_Y0 rfl (E_move (I a1) rfl (by kernel_rfl))) ?_
    refine XL_cons rfl (X_of_Y0 rfl (E_move (I vm2) rfl (by kernel_rfl))) ?_
    refine XL_cons rfl (X_of_Y1 rfl (Y1_call (s_impl_mod hy3) cf_impl_mod rfl (by kernel_rfl))) ?_
    refine XL_cons rfl (X_of_Y0 rfl (Y0_sub64 (a := a1) (b := y3) rfl (by kernel_rfl) (by kernel_rfl))) ?_
    refine XL_cons rfl (X_of_Y0 rfl (E_move (I vm2) rfl (by kernel_rfl))) ?_
    refine XL_cons rfl (X_of_Y0 rfl (Y0_quo64 (a := w64 (a1 - y3)) (b := vm2) rfl (by kernel_rfl) (by kernel_rfl) (nz_some hz4))) ?_
    refine XL_cons rfl (X_of_Y0 rfl (E_assign (I (w64 (Int.tdiv (w64 (a1 - y3)) vm2))) rfl (by kernel_rfl))) ?_
    refine XL_nil ?_
    subst ht5
    kernel_rfl
  refine V_ret ?_
  obtain rfl := some_inj h
  show Post _ _ _ _ _
  exact ⟨.inr rfl, rfl, rfl, rfl⟩
theorem cf_impl_Form_step : ∀ args w, (callFunc 144 args).run Try.prog w = .ok (.enter 144 args) w := run_callFunc Try.func144 (by kernel_rfl) (by kernel_rfl)
set_option maxRecDepth 100000 in
set_option maxHeartbeats 400000 in
theorem s_impl_Form_step {f1 : (Int × Int × Int)} {r : (Int × Int × Int × Int)} (h : r_impl_Form_step f1 = some r) : CallS Try.prog 144 [.ag [Ti f1.1, Ti f1.2.1, Ti f1.2.2]] (.ag [Ti r.1, Ti r.2.1, Ti r.2.2.1, Ti r.2.2.2]) [] := by
  refine CallS_of_text (rs := [.w 2 4]) (vs := [.cell 2 38]) Try.func144 rfl rfl (.cons ⟨rfl, wd38⟩ FitsL.nil) (by decide) 22 rfl ?_
  unfold r_impl_Form_step at h
  show V _ _ ⟨[.ag [Ti f1.1, Ti f1.2.1, Ti f1.2.2], .bot, .bot, .bot, .bot, .bot, .bot, .bot, .bot, .bot, .bot, .bot, .bot, .bot, .bot, .bot, .bot, .bot, .bot, .bot, .bot, .bot], []⟩ _
  refine V_sreg [false, true, true, false, false, false, false, false, false, false, false, false, false, false, false, false, false, false, false, false, false, false] [16, 8] (s1 := ⟨[.bot, .pt 8 0, .pt 16 0, .bot, .bot, .bot, .bot, .bot, .bot, .bot, .bot, .bot, .bot, .bot, .bot, .bot, .bot, .bot, .bot, .bot, .bot, .bot], [(16, .box [Ti 0, Ti 0, Ti 0, Ti 0]), (8, .box [Ti f1.1, Ti f1.2.1, Ti f1.2.2])]⟩) ?_ ?_
  · refine XL_cons rfl (X_of_Y1 rfl (Y1_box (cs := [Ti f1.1, Ti f1.2.1, Ti f1.2.2]) rfl (by kernel_rfl))) ?_
    refine XL_cons rfl (X_of_Y1 rfl (Y1_alloc (z := zv38) rfl zf38 rfl)) ?_
    refine XL_nil ?_
    kernel_rfl
  refine V_seq ?_
  refine V_block ?_
  obtain ⟨y2, hy2, h⟩ := of_bind h
  refine V_sreg [false, true, true, true, false, false, false, false, false, false, false, false, false, false, false, false, false, false, false, false, false, false] [16, 8] (s1 := ⟨[.bot, .pt 8 0, .pt 16 0, Bo y2, .bot, .bot, .bot, .bot, .bot, .bot, .bot, .bot, .bot, .bot, .bot, .bot, .bot, .bot, .bot, .bot, .bot, .bot], [(16, .box [Ti 0, Ti 0, Ti 0, Ti 0]), (8, .box [Ti f1.1, Ti f1.2.1, Ti f1.2.2])]⟩) ?_ ?_
  · refine XL_cons rfl (X_of_Y0 rfl (E_loadn (cs := [Ti f1.1, Ti f1.2.1, Ti f1.2.2]) [Ti f1.1, Ti f1.2.1, Ti f1.2.2] wd36 rfl (by kernel_rfl) (Nat.le_of_ble_eq_true rfl) (by kernel_rfl))) ?_
    refine XL_cons rfl (X_of_Y1 rfl (Y1_call (s_impl_Form_isReduced hy2) cf_impl_Form_isReduced rfl (by kernel_rfl))) ?_
    refine XL_cons rfl (X_of_Y0 rfl (E_assign (Bo y2) rfl (by kernel_rfl))) ?_
    refine XL_nil ?_
    kernel_rfl
  refine V_cond rfl (fun hc3 => ?_) (fun hc3 => ?_)
  · have h := of_true h hc3
    obtain ⟨y4, hy4, h⟩ := of_bind h
    refine V_sreg [false, false, true, false, false, false, false, false, false, false, false, false, false, false, false, false, false, false, false, false, false, false] [16] (s1 := ⟨[.bot, .bot, .pt 16 0, .bot, .bot, .bot, .bot, .bot, .bot, .bot, .bot, .bot, .bot, .bot, .bot, .bot, .bot, .bot, .bot, .bot, .bot, .bot], [(16, .box [Ti y4.1, Ti y4.2.1, Ti y4.2.2.1, Ti y4.2.2.2])]⟩) ?_ ?_
    · refine XL_cons rfl (X_of_Y1 rfl (Y1_call (s_impl_one hy4) cf_impl_one rfl (by kernel_rfl))) ?_
      refine XL_cons rfl (E_store (id := 16) (off := 0) (cs := [Ti 0, Ti 0, Ti 0, Ti 0]) (vc := [Ti y4.1, Ti y4.2.1, Ti y4.2.2.1, Ti y4.2.2.2]) [Ti y4.1, Ti y4.2.1, Ti y4.2.2.1, Ti y4.2.2.2] rfl rfl (by kernel_rfl) (by kernel_rfl) (by kernel_rfl) sz38 (Nat.le_of_ble_eq_true rfl) (by kernel_rfl)) ?_
      refine XL_nil ?_
      kernel_rfl
    refine V_ret ?_
    obtain rfl := some_inj h
    show Post _ _ _ _ _
    exact ⟨.inr rfl, rfl, rfl, rfl⟩
  · have h := of_false h hc3
    obtain ⟨y5, hy5, h⟩ := of_bind h
    refine V_sreg [false, true, true, false, false, false, false, true, false, false, false, false, false, false, false, false, false, false, false, false, false, false] [16, 8] (s1 := ⟨[.bot, .pt 8 0, .pt 16 0, .bot, .bot, .bot, .bot, Bo (!y5), .bot, .bot, .bot, .bot, .bot, .bot, .bot, .bot, .bot, .bot, .bot, .bot, .bot, .bot], [(16, .box [Ti 0, Ti 0, Ti 0, Ti 0]), (8, .box [Ti f1.1, Ti f1.2.1, Ti f1.2.2])]⟩) ?_ ?_
    · refine XL_cons rfl (X_of_Y0 rfl (E_loadn (cs := [Ti f1.1, Ti f1.2.1, Ti f1.2.2]) [Ti f1.1, Ti f1.2.1, Ti f1.2.2] wd36 rfl (by kernel_rfl) (Nat.le_of_ble_eq_true rfl) (by kernel_rfl))) ?_
      refine XL_cons rfl (X_of_Y1 rfl (Y1_call (s_impl_Form_isNormal hy5) cf_impl_Form_isNormal rfl (by kernel_rfl))) ?_
      refine XL_cons rfl (X_of_Y0 rfl (Y0_not (b := y5) rfl (by kernel_rfl))) ?_
      refine XL_cons rfl (X_of_Y0 rfl (E_assign (Bo (!y5)) rfl (by kernel_rfl))) ?_
      refine XL_nil ?_
      kernel_rfl
    refine V_cond rfl (fun hc6 => ?_) (fun hc6 => ?_)
    · have h := of_true h hc6
      obtain ⟨y7, hy7, h⟩ := of_bind h
      refine V_sreg [false, false, true, false, false, false, false, false, false, false, false, false, false, false, false, false, false, false, false, false, false, false] [16] (s1 := ⟨[.bot, .bot, .pt 16 0, .bot, .bot, .bot, .bot, .bot, .bot, .bot, .bot, .bot, .bot, .bot, .bot, .bot, .bot, .bot, .bot, .bot, .bot, .bot], [(16, .box [Ti 1, Ti y7, Ti 0, Ti 1])]⟩) ?_ ?_
      · refine XL_cons rfl (X_of_Y0 rfl (E_field (.pt 8 0) Try.underlying36 rfl sz3 rfl (by kernel_rfl) (by intro hh; cases hh))) ?_
        refine XL_cons rfl (X_of_Y0 rfl (Y0_load1 (c := Ti f1.1) (cs := [Ti f1.2.1, Ti f1.2.2]) sc3 rfl (by kernel_rfl))) ?_
        refine XL_cons rfl (X_of_Y0 rfl (E_field (.pt 8 1) Try.underlying36 rfl sz3 rfl (by kernel_rfl) (by intro hh; cases hh))) ?_
        refine XL_cons rfl (X_of_Y0 rfl (Y0_load1 (c := Ti f1.2.1) (cs := [Ti f1.2.2]) sc3 rfl (by kernel_rfl))) ?_
        refine XL_cons rfl (X_of_Y0 rfl (Y0_sub64 (a := f1.1) (b := f1.2.1) rfl (by kernel_rfl) (by kernel_rfl))) ?_
        refine XL_cons rfl (X_of_Y0 rfl (E_field (.pt 8 0) Try.underlying36 rfl sz3 rfl (by kernel_rfl) (by intro hh; cases hh))) ?_
        refine XL_cons rfl (X_of_Y0 rfl (Y0_load1 (c := Ti f1.1) (cs := [Ti f1.2.1, Ti f1.2.2]) sc3 rfl (by kernel_rfl))) ?_
        refine XL_cons rfl (X_of_Y0 rfl (Y0_mul64 (a := 2) (b := f1.1) rfl (by kernel_rfl) (by kernel_rfl))) ?_
        refine XL_cons rfl (X_of_Y1 rfl (Y1_call (s_impl_floorDiv hy7) cf_impl_floorDiv rfl (by kernel_rfl))) ?_
        refine XL_cons rfl (X_of_Y0 rfl (Y0_build (cs := [Ti 1, Ti y7, Ti 0, Ti 1]) pl38 bt38 rfl rfl (by kernel_rfl))) ?_
        refine XL_cons rfl (E_store (id := 16) (off := 0) (cs := [Ti 0, Ti 0, Ti 0, Ti 0]) (vc := [Ti 1, Ti y7, Ti 0, Ti 1]) [Ti 1, Ti y7, Ti 0, Ti 1] rfl rfl (by kernel_rfl) (by kernel_rfl) (by kernel_rfl) sz38 (Nat.le_of_ble_eq_true rfl) (by kernel_rfl)) ?_
        refine XL_nil ?_
        kernel_rfl
      refine V_ret ?_
      obtain rfl := some_inj h
      show Post _ _ _ _ _
      exact ⟨.inr rfl, rfl, rfl, rfl⟩
    · have h := of_false h hc6
      refine V_skip ?_
      show V _ _ _ _
      refine V_sreg [false, false, true, false, false, false, false, false, false, false, false, false, false, false, false, false, false, false, false, false, false, false] [16] (s1 := ⟨[.bot, .bot, .pt 16 0, .bot, .bot, .bot, .bot, .bot, .bot, .bot, .bot, .bot, .bot, .bot, .bot, .bot, .bot, .bot, .bot, .bot, .bot, .bot], [(16, .box [Ti 0, Ti (-1), Ti 1, Ti 0])]⟩) ?_ ?_
      · refine XL_cons rfl (X_of_Y0 rfl (Y0_build (cs := [Ti 0, Ti (-1), Ti 1, Ti 0]) pl38 bt38 rfl rfl (by kernel_rfl))) ?_
        refine XL_cons rfl (E_store (id := 16) (off := 0) (cs := [Ti 0, Ti 0, Ti 0, Ti 0]) (vc := [Ti 0, Ti (-1), Ti 1, Ti 0]) [Ti 0, Ti (-1), Ti 1, Ti 0] rfl rfl (by kernel_rfl) (by kernel_rfl) (by kernel_rfl) sz38 (Nat.le_of_ble_eq_true rfl) (by kernel_rfl)) ?_
        refine XL_nil ?_
        kernel_rfl
      refine V_ret ?_
      obtain rfl := some_inj h
      show Post _ _ _ _ _
      exact ⟨.inr rfl, rfl, rfl, rfl⟩
theorem cf_impl_Form_at : ∀ args w, (callFunc 106 args).run Try.prog w = .ok (.enter 106 args) w := run_callFunc Try.func106 (by kernel_rfl) (by kernel_rfl)
set_option maxRecDepth 100000 in
set_option maxHeartbeats 400000 in
theorem s_impl_Form_at {f1 : (Int × Int × Int)} {x2 : Int} {y3 : Int} {r : Int} (h : r_impl_Form_at f1 x2 y3 = some r) : CallS Try.prog 106 [.ag [Ti f1.1, Ti f1.2.1, Ti f1.2.2], I x2, I y3] (I r) [] := by
  refine CallS_of_text (rs := [.t 6]) (vs := [.tmp 6]) Try.func106 rfl rfl (.cons rfl FitsL.nil) (by decide) 27 rfl ?_
  unfold r_impl_Form_at at h
  show V _ _ ⟨[.ag [Ti f1.1, Ti f1.2.1, Ti f1.2.2], I x2, I y3, .bot, .bot, .bot, .bot, .bot, .bot, .bot, .bot, .bot, .bot, .bot, .bot, .bot, .bot, .bot, .bot, .bot, .bot, .bot, .bot, .bot, .bot, .bot, .bot], []⟩ _
  refine V_sreg [false, true, true, true, false, false, false, false, false, false, false, false, false, false, false, false, false, false, false, false, false, false, false, false, false, false, false] [24] (s1 := ⟨[.bot, I x2, I y3, .pt 24 0, .bot, .bot, .bot, .bot, .bot, .bot, .bot, .bot, .bot, .bot, .bot, .bot, .bot, .bot, .bot, .bot, .bot, .bot, .bot, .bot, .bot, .bot, .bot], [(24, .box [Ti f1.1, Ti f1.2.1, Ti f1.2.2])]⟩) ?_ ?_
  · refine XL_cons rfl (X_of_Y1 rfl (Y1_box (cs := [Ti f1.1, Ti f1.2.1, Ti f1.2.2]) rfl (by kernel_rfl))) ?_
    refine XL_cons rfl (X_of_Y0 rfl (E_assign (I 0) rfl (by kernel_rfl))) ?_
    refine XL_nil ?_
    kernel_rfl
  obtain ⟨t4, ht4, h⟩ := of_sI h
  refine V_sreg [false, false, false, false, false, false, true, false, false, false, false, false, false, false, false, false, false, false, false, false, false, false, false, false, false, false, false] [] (s1 := ⟨[.bot, .bot, .bot, .bot, .bot, .bot, I t4, .bot, .bot, .bot, .bot, .bot, .bot, .bot, .bot, .bot, .bot, .bot, .bot, .bot, .bot, .bot, .bot, .bot, .bot, .bot, .bot], []⟩) ?_ ?_
  · refine XL_cons rfl (X_of_Y0 rfl (E_field (.pt 24 0) Try.underlying36 rfl sz3 rfl (by kernel_rfl) (by intro hh; cases hh))) ?_
    refine XL_cons rfl (X_of_Y0 rfl (Y0_load1 (c := Ti f1.1) (cs := [Ti f1.2.1, Ti f1.2.2]) sc3 rfl (by kernel_rfl))) ?_
    refine XL_cons rfl (X_of_Y0 rfl (E_move (I x2) rfl (by kernel_rfl))) ?_
    refine XL_cons rfl (X_of_Y0 rfl (Y0_mul64 (a := f1.1) (b := x2) rfl (by kernel_rfl) (by kernel_rfl))) ?_
    refine XL_cons rfl (X_of_Y0 rfl (E_move (I x2) rfl (by kernel_rfl))) ?_
    refine XL_cons rfl (X_of_Y0 rfl (Y0_mul64 (a := w64 (f1.1 * x2)) (b := x2) rfl (by kernel_rfl) (by kernel_rfl))) ?_
    refine XL_cons rfl (X_of_Y0 rfl (E_field (.pt 24 1) Try.underlying36 rfl sz3 rfl (by kernel_rfl) (by intro hh; cases hh))) ?_
    refine XL_cons rfl (X_of_Y0 rfl (Y0_load1 (c := Ti f1.2.1) (cs := [Ti f1.2.2]) sc3 rfl (by kernel_rfl))) ?_
    refine XL_cons rfl (X_of_Y0 rfl (E_move (I x2) rfl (by kernel_rfl))) ?_
    refine XL_cons rfl (X_of_Y0 rfl (Y0_mul64 (a := f1.2.1) (b := x2) rfl (by kernel_rfl) (by kernel_rfl))) ?_
    refine XL_cons rfl (X_of_Y0 rfl (E_move (I y3) rfl (by kernel_rfl))) ?_
    refine XL_cons rfl (X_of_Y0 rfl (Y0_mul64 (a := w64 (f1.2.1 * x2)) (b := y3) rfl (by kernel_rfl) (by kernel_rfl))) ?_
    refine XL_cons rfl (X_of_Y0 rfl (Y0_add64 (a := w64 ((w64 (f1.1 * x2)) * x2)) (b := w64 ((w64 (f1.2.1 * x2)) * y3)) rfl (by kernel_rfl) (by kernel_rfl))) ?_
    refine XL_cons rfl (X_of_Y0 rfl (E_field (.pt 24 2) Try.underlying36 rfl sz3 rfl (by kernel_rfl) (by intro hh; cases hh))) ?_
    refine XL_cons rfl (X_of_Y0 rfl (Y0_load1 (c := Ti f1.2.2) (cs := []) sc3 rfl (by kernel_rfl))) ?_
    refine XL_cons rfl (X_of_Y0 rfl (E_move (I y3) rfl (by kernel_rfl))) ?_
    refine XL_cons rfl (X_of_Y0 rfl (Y0_mul64 (a := f1.2.2) (b := y3) rfl (by kernel_rfl) (by kernel_rfl))) ?_
    refine XL_cons rfl (X_of_Y0 rfl (E_move (I y3) rfl (by kernel_rfl))) ?_
    refine XL_cons rfl (X_of_Y0 rfl (Y0_mul64 (a := w64 (f1.2.2 * y3)) (b := y3) rfl (by kernel_rfl) (by kernel_rfl))) ?_
    refine XL_cons rfl (X_of_Y0 rfl (Y0_add64 (a := w64 ((w64 ((w64 (f1.1 * x2)) * x2)) + (w64 ((w64 (f1.2.1 * x2)) * y3)))) (b := w64 ((w64 (f1.2.2 * y3)) * y3)) rfl (by kernel_rfl) (by kernel_rfl))) ?_
    refine XL_cons rfl (X_of_Y0 rfl (E_assign (I (w64 ((w64 ((w64 ((w64 (f1.1 * x2)) * x2)) + (w64 ((w64 (f1.2.1 * x2)) * y3)))) + (w64 ((w64 (f1.2.2 * y3)) * y3))))) rfl (by kernel_rfl))) ?_
    refine XL_nil ?_
    subst ht4
    kernel_rfl
  refine V_ret ?_
  obtain rfl := some_inj h
  show Post _ _ _ _ _
  exact ⟨.inr rfl, rfl, rfl, rfl⟩
theorem cf_impl_Form_polar : ∀ args w, (callFunc 107 args).run Try.prog w = .ok (.enter 107 args) w := run_callFunc Try.func107 (by kernel_rfl) (by kernel_rfl)
set_option maxRecDepth 100000 in
set_option maxHeartbeats 400000 in
theorem s_impl_Form_polar {f1 : (Int × Int × Int)} {x2 : Int} {y3 : Int} {u4 : Int} {v5 : Int} {r : Int} (h : r_impl_Form_polar f1 x2 y3 u4 v5 = some r) : CallS Try.prog 107 [.ag [Ti f1.1, Ti f1.2.1, Ti f1.2.2], I x2, I y3, I u4, I v5] (I r) [] := by
  refine CallS_of_text (rs := [.t 10]) (vs := [.tmp 10]) Try.func107 rfl rfl (.cons rfl FitsL.nil) (by decide) 37 rfl ?_
  unfold r_impl_Form_polar at h
  show V _ _ ⟨[.ag [Ti f1.1, Ti f1.2.1, Ti f1.2.2], I x2, I y3, I u4, I v5, .bot, .bot, .bot, .bot, .bot, .bot, .bot, .bot, .bot, .bot, .bot, .bot, .bot, .bot, .bot, .bot, .bot, .bot, .bot, .bot, .bot, .bot, .bot, .bot, .bot, .bot, .bot, .bot, .bot, .bot, .bot, .bot], []⟩ _
  refine V_sreg [false, true, true, true, true, true, false, false, false, false, false, false, false, false, false, false, false, false, false, false, false, false, false, false, false, false, false, false, false, false, false, false, false, false, false, false, false] [40] (s1 := ⟨[.bot, I x2, I y3, I u4, I v5, .pt 40 0, .bot, .bot, .bot, .bot, .bot, .bot, .bot, .bot, .bot, .bot, .bot, .bot, .bot, .bot, .bot, .bot, .bot, .bot, .bot, .bot, .bot, .bot, .bot, .bot, .bot, .bot, .bot, .bot, .bot, .bot, .bot], [(40, .box [Ti f1.1, Ti f1.2.1, Ti f1.2.2])]⟩) ?_ ?_
  · refine XL_cons rfl (X_of_Y1 rfl (Y1_box (cs := [Ti f1.1, Ti f1.2.1, Ti f1.2.2]) rfl (by kernel_rfl))) ?_
    refine XL_cons rfl (X_of_Y0 rfl (E_assign (I 0) rfl (by kernel_rfl))) ?_
    refine XL_nil ?_
    kernel_rfl
  obtain ⟨t6, ht6, h⟩ := of_sI h
  refine V_sreg [false, false, false, false, false, false, false, false, false, false, true, false, false, false, false, false, false, false, false, false, false, false, false, false, false, false, false, false, false, false, false, false, false, false, false, false, false] [] (s1 := ⟨[.bot, .bot, .bot, .bot, .bot, .bot, .bot, .bot, .bot, .bot, I t6, .bot, .bot, .bot, .bot, .bot, .bot, .bot, .bot, .bot, .bot, .bot, .bot, .bot, .bot, .bot, .bot, .bot, .bot, .bot, .bot, .bot, .bot, .bot, .bot, .bot, .bot], []⟩) ?_ ?_
  · refine XL_cons rfl (X_of_Y0 rfl (E_field (.pt 40 0) Try.underlying36 rfl sz3 rfl (by kernel_rfl) (by intro hh; cases hh))) ?_
    refine XL_cons rfl (X_of_Y0 rfl (Y0_load1 (c := Ti f1.1) (cs := [Ti f1.2.1, Ti f1.2.2]) sc3 rfl (by kernel_rfl))) ?_
    refine XL_cons rfl (X_of_Y0 rfl (Y0_mul64 (a := 2) (b := f1.1) rfl (by kernel_rfl) (by kernel_rfl))) ?_
    refine XL_cons rfl (X_of_Y0 rfl (E_move (I x2) rfl (by kernel_rfl))) ?_
    refine XL_cons rfl (X_of_Y0 rfl (Y0_mul64 (a := w64 (2 * f1.1)) (b := x2) rfl (by kernel_rfl) (by kernel_rfl))) ?_
    refine XL_cons rfl (X_of_Y0 rfl (E_move (I u4) rfl (by kernel_rfl))) ?_
    refine XL_cons rfl (X_of_Y0 rfl (Y0_mul64 (a := w64 ((w64 (2 * f1.1)) * x2)) (b := u4) rfl (by kernel_rfl) (by kernel_rfl))) ?_
    refine XL_cons rfl (X_of_Y0 rfl (E_field (.pt 40 1) Try.underlying36 rfl sz3 rfl (by kernel_rfl) (by intro hh; cases hh))) ?_
    refine XL_cons rfl (X_of_Y0 rfl (Y0_load1 (c := Ti f1.2.1) (cs := [Ti f1.2.2]) sc3 rfl (by kernel_rfl))) ?_
    refine XL_cons rfl (X_of_Y0 rfl (E_move (I x2) rfl (by kernel_rfl))) ?_
    refine XL_cons rfl (X_of_Y0 rfl (E_move (I v5) rfl (by kernel_rfl))) ?_
    refine XL_cons rfl (X_of_Y0 rfl (Y0_mul64 (a := x2) (b := v5) rfl (by kernel_rfl) (by kernel_rfl))) ?_
    refine XL_cons rfl (X_of_Y0 rfl (E_move (I y3) rfl (by kernel_rfl))) ?_
    refine XL_cons rfl (X_of_Y0 rfl (E_move (I u4) rfl (by kernel_rfl))) ?_
    refine XL_cons rfl (X_of_Y0 rfl (Y0_mul64 (a := y3) (b := u4) rfl (by kernel_rfl) (by kernel_rfl))) ?_
    refine XL_cons rfl (X_of_Y0 rfl (Y0_add64 (a := w64 (x2 * v5)) (b := w64 (y3 * u4)) rfl (by kernel_rfl) (by kernel_rfl))) ?_
    refine XL_cons rfl (X_of_Y0 rfl (Y0_mul64 (a := f1.2.1) (b := w64 ((w64 (x2 * v5)) + (w64 (y3 * u4)))) rfl (by kernel_rfl) (by kernel_rfl))) ?_
    refine XL_cons rfl (X_of_Y0 rfl (Y0_add64 (a := w64 ((w64 ((w64 (2 * f1.1)) * x2)) * u4)) (b := w64 (f1.2.1 * (w64 ((w64 (x2 * v5)) + (w64 (y3 * u4)))))) rfl (by kernel_rfl) (by kernel_rfl))) ?_
    refine XL_cons rfl (X_of_Y0 rfl (E_field (.pt 40 2) Try.underlying36 rfl sz3 rfl (by kernel_rfl) (by intro hh; cases hh))) ?_
    refine XL_cons rfl (X_of_Y0 rfl (Y0_load1 (c := Ti f1.2.2) (cs := []) sc3 rfl (by kernel_rfl))) ?_
    refine XL_cons rfl (X_of_Y0 rfl (Y0_mul64 (a := 2) (b := f1.2.2) rfl (by kernel_rfl) (by kernel_rfl))) ?_
    refine XL_cons rfl (X_of_Y0 rfl (E_move (I y3) rfl (by kernel_rfl))) ?_
    refine XL_cons rfl (X_of_Y0 rfl (Y0_mul64 (a := w64 (2 * f1.2.2)) (b := y3) rfl (by kernel_rfl) (by kernel_rfl))) ?_
    refine XL_cons rfl (X_of_Y0 rfl (E_move (I v5) rfl (by kernel_rfl))) ?_
    refine XL_cons rfl (X_of_Y0 rfl (Y0_mul64 (a := w64 ((w64 (2 * f1.2.2)) * y3)) (b := v5) rfl (by kernel_rfl) (by kernel_rfl))) ?_
    refine XL_cons rfl (X_of_Y0 rfl (Y0_add64 (a := w64 ((w64 ((w64 ((w64 (2 * f1.1)) * x2)) * u4)) + (w64 (f1.2.1 * (w64 ((w64 (x2 * v5)) + (w64 (y3 * u4)))))))) (b := w64 ((w64 ((w64 (2 * f1.2.2)) * y3)) * v5)) rfl (by kernel_rfl) (by kernel_rfl))) ?_
    refine XL_cons rfl (X_of_Y0 rfl (E_assign (I (w64 ((w64 ((w64 ((w64 ((w64 (2 * f1.1)) * x2)) * u4)) + (w64 (f1.2.1 * (w64 ((w64 (x2 * v5)) + (w64 (y3 * u4)))))))) + (w64 ((w64 ((w64 (2 * f1.2.2)) * y3)) * v5))))) rfl (by kernel_rfl))) ?_
    refine XL_nil ?_
    subst ht6
    kernel_rfl
  refine V_ret ?_
  obtain rfl := some_inj h
  show Post _ _ _ _ _
  exact ⟨.inr rfl, rfl, rfl, rfl⟩
theorem cf_impl_Form_substitute : ∀ args w, (callFunc 65 args).run Try.prog w = .ok (.enter 65 args) w := run_callFunc Try.func65 (by kernel_rfl) (by kernel_rfl)
set_option maxRecDepth 100000 in
set_option maxHeartbeats 400000 in
theorem s_impl_Form_substitute {f1 : (Int × Int × Int)} {vm2 : (Int × Int × Int × Int)} {r : (Int × Int × Int)} (h : r_impl_Form_substitute f1 vm2 = some r) : CallS Try.prog 65 [.ag [Ti f1.1, Ti f1.2.1, Ti f1.2.2], .ag [Ti vm2.1, Ti vm2.2.1, Ti vm2.2.2.1, Ti vm2.2.2.2]] (.ag [Ti r.1, Ti r.2.1, Ti r.2.2]) [] := by
  refine CallS_of_text (rs := [.w 4 3]) (vs := [.cell 4 36]) Try.func65 rfl rfl (.cons ⟨rfl, wd36⟩ FitsL.nil) (by decide) 28 rfl ?_
  unfold r_impl_Form_substitute at h
  show V _ _ ⟨[.ag [Ti f1.1, Ti f1.2.1, Ti f1.2.2], .ag [Ti vm2.1, Ti vm2.2.1, Ti vm2.2.2.1, Ti vm2.2.2.2], .bot, .bot, .bot, .bot, .bot, .bot, .bot, .bot, .bot, .bot, .bot, .bot, .bot, .bot, .bot, .bot, .bot, .bot, .bot, .bot, .bot, .bot, .bot, .bot, .bot, .bot], []⟩ _
  refine V_sreg [false, false, true, true, true, false, false, false, false, false, false, false, false, false, false, false, false, false, false, false, false, false, false, false, false, false, false, false] [32, 24, 16] (s1 := ⟨[.bot, .bot, .pt 16 0, .pt 24 0, .pt 32 0, .bot, .bot, .bot, .bot, .bot, .bot, .bot, .bot, .bot, .bot, .bot, .bot, .bot, .bot, .bot, .bot, .bot, .bot, .bot, .bot, .bot, .bot, .bot], [(32, .box [Ti 0, Ti 0, Ti 0]), (24, .box [Ti vm2.1, Ti vm2.2.1, Ti vm2.2.2.1, Ti vm2.2.2.2]), (16, .box [Ti f1.1, Ti f1.2.1, Ti f1.2.2])]⟩) ?_ ?_
  · refine XL_cons rfl (X_of_Y1 rfl (Y1_box (cs := [Ti f1.1, Ti f1.2.1, Ti f1.2.2]) rfl (by kernel_rfl))) ?_
    refine XL_cons rfl (X_of_Y1 rfl (Y1_box (cs := [Ti vm2.1, Ti vm2.2.1, Ti vm2.2.2.1, Ti vm2.2.2.2]) rfl (by kernel_rfl))) ?_
    refine XL_cons rfl (X_of_Y1 rfl (Y1_alloc (z := zv36) rfl zf36 rfl)) ?_
    refine XL_nil ?_
    kernel_rfl
  obtain ⟨y3, hy3, h⟩ := of_bind h
  obtain ⟨y4, hy4, h⟩ := of_bind h
  obtain ⟨y5, hy5, h⟩ := of_bind h
  refine V_sdreg [0, 0, 2, 0, 8, 31, 0, 0, 128, 0, 512, 0, 2048, 0, 8192, 32767, 0, 0, 131072, 0, 524288, 2097151, 4194303, 8388607] 23 [[.z, .b, .b, .b, .b, .z, .b, .b, .b, .b, .b, .b, .b, .b, .b, .z, .b, .b, .b, .b, .b, .z, .z], [.b, .z, .z, .b, .b, .z, .b, .b, .b, .b, .b, .b, .b, .b, .b, .z, .b, .b, .b, .b, .b, .z, .z], [.b, .a, .z, .b, .b, .z, .b, .b, .b, .b, .b, .b, .b, .b, .b, .z, .b, .b, .b, .b, .b, .z, .z], [.b, .b, .b, .z, .z, .z, .b, .b, .b, .b, .b, .b, .b, .b, .b, .z, .b, .b, .b, .b, .b, .z, .z], [.b, .b, .b, .a, .z, .z, .b, .b, .b, .b, .b, .b, .b, .b, .b, .z, .b, .b, .b, .b, .b, .z, .z], [.a, .a, .a, .a, .a, .z, .b, .b, .b, .b, .b, .b, .b, .b, .b, .z, .b, .b, .b, .b, .b, .z, .z], [.b, .b, .b, .b, .b, .b, .z, .b, .b, .b, .b, .b, .b, .b, .b, .z, .b, .b, .b, .b, .b, .z, .z], [.b, .b, .b, .b, .b, .b, .b, .z, .z, .b, .b, .b, .b, .b, .b, .z, .b, .b, .b, .b, .b, .z, .z], [.b, .b, .b, .b, .b, .b, .b, .a, .z, .b, .b, .b, .b, .b, .b, .z, .b, .b, .b, .b, .b, .z, .z], [.b, .b, .b, .b, .b, .b, .b, .b, .b, .z, .z, .b, .b, .b, .b, .z, .b, .b, .b, .b, .b, .z, .z], [.b, .b, .b, .b, .b, .b, .b, .b, .b, .a, .z, .b, .b, .b, .b, .z, .b, .b, .b, .b, .b, .z, .z], [.b, .b, .b, .b, .b, .b, .b, .b, .b, .b, .b, .z, .z, .b, .b, .z, .b, .b, .b, .b, .b, .z, .z], [.b, .b, .b, .b, .b, .b, .b, .b, .b, .b, .b, .a, .z, .b, .b, .z, .b, .b, .b, .b, .b, .z, .z], [.b, .b, .b, .b, .b, .b, .b, .b, .b, .b, .b, .b, .b, .z, .z, .z, .b, .b, .b, .b, .b, .z, .z], [.b, .b, .b, .b, .b, .b, .b, .b, .b, .b, .b, .b, .b, .a, .z, .z, .b, .b, .b, .b, .b, .z, .z], [.a, .a, .a, .a, .a, .a, .a, .a, .a, .a, .a, .a, .a, .a, .a, .z, .b, .b, .b, .b, .b, .z, .z], [.b, .b, .b, .b, .b, .b, .b, .b, .b, .b, .b, .b, .b, .b, .b, .b, .z, .b, .b, .b, .b, .z, .z], [.b, .b, .b, .b, .b, .b, .b, .b, .b, .b, .b, .b, .b, .b, .b, .b, .b, .z, .z, .b, .b, .z, .z], [.b, .b, .b, .b, .b, .b, .b, .b, .b, .b, .b, .b, .b, .b, .b, .b, .b, .a, .z, .b, .b, .z, .z], [.b, .b, .b, .b, .b, .b, .b, .b, .b, .b, .b, .b, .b, .b, .b, .b, .b, .b, .b, .z, .z, .z, .z], [.b, .b, .b, .b, .b, .b, .b, .b, .b, .b, .b, .b, .b, .b, .b, .b, .b, .b, .b, .a, .z, .z, .z], [.a, .a, .a, .a, .a, .a, .a, .a, .a, .a, .a, .a, .a, .a, .a, .a, .a, .a, .a, .a, .a, .z, .z], [.a, .a, .a, .a, .a, .a, .a, .a, .a, .a, .a, .a, .a, .a, .a, .a, .a, .a, .a, .a, .a, .a, .z]] [false, false, false, false, true, false, false, false, false, false, false, false, false, false, false, false, false, false, false, false, false, false, false, false, false, false, false, false] [32] (s1 := ⟨[.bot, .bot, .bot, .bot, .pt 32 0, .bot, .bot, .bot, .bot, .bot, .bot, .bot, .bot, .bot, .bot, .bot, .bot, .bot, .bot, .bot, .bot, .bot, .bot, .bot, .bot, .bot, .bot, .bot], [(32, .box [Ti y3, Ti y4, Ti y5])]⟩) (by kernel_rfl) (by kernel_rfl) ?_ ?_
  · refine DE_0 0 (.ag [Ti f1.1, Ti f1.2.1, Ti f1.2.2]) (by kernel_rfl) rfl rfl rfl (gsat_none rfl) (by kernel_rfl) (E_loadn (cs := [Ti f1.1, Ti f1.2.1, Ti f1.2.2]) [Ti f1.1, Ti f1.2.1, Ti f1.2.2] wd36 rfl (by kernel_rfl) (Nat.le_of_ble_eq_true rfl) (by kernel_rfl)) 5 rfl ?_
    refine DE_0 1 (.pt 24 0) (by kernel_rfl) rfl rfl rfl (gsat_none rfl) (by kernel_rfl) (E_field (.pt 24 0) Try.underlying38 rfl sz3 rfl (by kernel_rfl) (by intro hh; cases hh)) 6 rfl ?_
    refine DE_0 2 (I vm2.1) (by kernel_rfl) rfl rfl rfl (gsat_none rfl) (by kernel_rfl) (Y0_load1 (c := Ti vm2.1) (cs := [Ti vm2.2.1, Ti vm2.2.2.1, Ti vm2.2.2.2]) sc3 rfl (by kernel_rfl)) 7 rfl ?_
    refine DE_0 3 (.pt 24 2) (by kernel_rfl) rfl rfl rfl (gsat_none rfl) (by kernel_rfl) (E_field (.pt 24 2) Try.underlying38 rfl sz3 rfl (by kernel_rfl) (by intro hh; cases hh)) 8 rfl ?_
    refine DE_0 4 (I vm2.2.2.1) (by kernel_rfl) rfl rfl rfl (gsat_none rfl) (by kernel_rfl) (Y0_load1 (c := Ti vm2.2.2.1) (cs := [Ti vm2.2.2.2]) sc3 rfl (by kernel_rfl)) 9 rfl ?_
    refine DE_1 5 (by kernel_rfl) rfl rfl rfl (gsat_none rfl) (Y1_call (s_impl_Form_at hy3) cf_impl_Form_at rfl (by kernel_rfl)) rfl rfl rfl 10 rfl ?_
    refine DE_0 6 (.ag [Ti f1.1, Ti f1.2.1, Ti f1.2.2]) (by kernel_rfl) rfl rfl rfl (gsat_none rfl) (by kernel_rfl) (E_loadn (cs := [Ti f1.1, Ti f1.2.1, Ti f1.2.2]) [Ti f1.1, Ti f1.2.1, Ti f1.2.2] wd36 rfl (by kernel_rfl) (Nat.le_of_ble_eq_true rfl) (by kernel_rfl)) 11 rfl ?_
    refine DE_0 7 (.pt 24 0) (by kernel_rfl) rfl rfl rfl (gsat_none rfl) (by kernel_rfl) (E_field (.pt 24 0) Try.underlying38 rfl sz3 rfl (by kernel_rfl) (by intro hh; cases hh)) 12 rfl ?_
    refine DE_0 8 (I vm2.1) (by kernel_rfl) rfl rfl rfl (gsat_none rfl) (by kernel_rfl) (Y0_load1 (c := Ti vm2.1) (cs := [Ti vm2.2.1, Ti vm2.2.2.1, Ti vm2.2.2.2]) sc3 rfl (by kernel_rfl)) 13 rfl ?_
    refine DE_0 9 (.pt 24 2) (by kernel_rfl) rfl rfl rfl (gsat_none rfl) (by kernel_rfl) (E_field (.pt 24 2) Try.underlying38 rfl sz3 rfl (by kernel_rfl) (by intro hh; cases hh)) 14 rfl ?_
    refine DE_0 10 (I vm2.2.2.1) (by kernel_rfl) rfl rfl rfl (gsat_none rfl) (by kernel_rfl) (Y0_load1 (c := Ti vm2.2.2.1) (cs := [Ti vm2.2.2.2]) sc3 rfl (by kernel_rfl)) 15 rfl ?_
    refine DE_0 11 (.pt 24 1) (by kernel_rfl) rfl rfl rfl (gsat_none rfl) (by kernel_rfl) (E_field (.pt 24 1) Try.underlying38 rfl sz3 rfl (by kernel_rfl) (by intro hh; cases hh)) 16 rfl ?_
    refine DE_0 12 (I vm2.2.1) (by kernel_rfl) rfl rfl rfl (gsat_none rfl) (by kernel_rfl) (Y0_load1 (c := Ti vm2.2.1) (cs := [Ti vm2.2.2.1, Ti vm2.2.2.2]) sc3 rfl (by kernel_rfl)) 17 rfl ?_
    refine DE_0 13 (.pt 24 3) (by kernel_rfl) rfl rfl rfl (gsat_none rfl) (by kernel_rfl) (E_field (.pt 24 3) Try.underlying38 rfl sz3 rfl (by kernel_rfl) (by intro hh; cases hh)) 18 rfl ?_
    refine DE_0 14 (I vm2.2.2.2) (by kernel_rfl) rfl rfl rfl (gsat_none rfl) (by kernel_rfl) (Y0_load1 (c := Ti vm2.2.2.2) (cs := []) sc3 rfl (by kernel_rfl)) 19 rfl ?_
    refine DE_1 15 (by kernel_rfl) rfl rfl rfl (gsat_none rfl) (Y1_call (s_impl_Form_polar hy4) cf_impl_Form_polar rfl (by kernel_rfl)) rfl rfl rfl 20 rfl ?_
    refine DE_0 16 (.ag [Ti f1.1, Ti f1.2.1, Ti f1.2.2]) (by kernel_rfl) rfl rfl rfl (gsat_none rfl) (by kernel_rfl) (E_loadn (cs := [Ti f1.1, Ti f1.2.1, Ti f1.2.2]) [Ti f1.1, Ti f1.2.1, Ti f1.2.2] wd36 rfl (by kernel_rfl) (Nat.le_of_ble_eq_true rfl) (by kernel_rfl)) 21 rfl ?_
    refine DE_0 17 (.pt 24 1) (by kernel_rfl) rfl rfl rfl (gsat_none rfl) (by kernel_rfl) (E_field (.pt 24 1) Try.underlying38 rfl sz3 rfl (by kernel_rfl) (by intro hh; cases hh)) 22 rfl ?_
    refine DE_0 18 (I vm2.2.1) (by kernel_rfl) rfl rfl rfl (gsat_none rfl) (by kernel_rfl) (Y0_load1 (c := Ti vm2.2.1) (cs := [Ti vm2.2.2.1, Ti vm2.2.2.2]) sc3 rfl (by kernel_rfl)) 23 rfl ?_
    refine DE_0 19 (.pt 24 3) (by kernel_rfl) rfl rfl rfl (gsat_none rfl) (by kernel_rfl) (E_field (.pt 24 3) Try.underlying38 rfl sz3 rfl (by kernel_rfl) (by intro hh; cases hh)) 24 rfl ?_
    refine DE_0 20 (I vm2.2.2.2) (by kernel_rfl) rfl rfl rfl (gsat_none rfl) (by kernel_rfl) (Y0_load1 (c := Ti vm2.2.2.2) (cs := []) sc3 rfl (by kernel_rfl)) 25 rfl ?_
    refine DE_1 21 (by kernel_rfl) rfl rfl rfl (gsat_none rfl) (Y1_call (s_impl_Form_at hy5) cf_impl_Form_at rfl (by kernel_rfl)) rfl rfl rfl 26 rfl ?_
    refine DE_0 22 (.ag [Ti y3, Ti y4, Ti y5]) (by kernel_rfl) rfl rfl rfl (gsat_none rfl) (by kernel_rfl) (Y0_build (cs := [Ti y3, Ti y4, Ti y5]) pl36 bt36 rfl rfl (by kernel_rfl)) 27 rfl ?_
    refine DL_nil (by kernel_rfl) ?_
    refine XL_cons rfl (E_store (id := 32) (off := 0) (cs := [Ti 0, Ti 0, Ti 0]) (vc := [Ti y3, Ti y4, Ti y5]) [Ti y3, Ti y4, Ti y5] rfl rfl (by kernel_rfl) (by kernel_rfl) (by kernel_rfl) sz36 (Nat.le_of_ble_eq_true rfl) (by kernel_rfl)) ?_
    refine XL_nil ?_
    kernel_rfl
  refine V_ret ?_
  obtain rfl := some_inj h
  show Post _ _ _ _ _
  exact ⟨.inr rfl, rfl, rfl, rfl⟩
theorem cf_impl_Matrix_times : ∀ args w, (callFunc 130 args).run Try.prog w = .ok (.enter 130 args) w := run_callFunc Try.func130 (by kernel_rfl) (by kernel_rfl)
set_option maxRecDepth 100000 in
set_option maxHeartbeats 400000 in
theorem s_impl_Matrix_times {vm1 : (Int × Int × Int × Int)} {vn2 : (Int × Int × Int × Int)} {r : (Int × Int × Int × Int)} (h : r_impl_Matrix_times vm1 vn2 = some r) : CallS Try.prog 130 [.ag [Ti vm1.1, Ti vm1.2.1, Ti vm1.2.2.1, Ti vm1.2.2.2], .ag [Ti vn2.1, Ti vn2.2.1, Ti vn2.2.2.1, Ti vn2.2.2.2]] (.ag [Ti r.1, Ti r.2.1, Ti r.2.2.1, Ti r.2.2.2]) [] := by
  refine CallS_of_text (rs := [.w 4 4]) (vs := [.cell 4 38]) Try.func130 rfl rfl (.cons ⟨rfl, wd38⟩ FitsL.nil) (by decide) 50 rfl ?_
  unfold r_impl_Matrix_times at h
  show V _ _ ⟨[.ag [Ti vm1.1, Ti vm1.2.1, Ti vm1.2.2.1, Ti vm1.2.2.2], .ag [Ti vn2.1, Ti vn2.2.1, Ti vn2.2.2.1, Ti vn2.2.2.2], .bot, .bot, .bot, .bot, .bot, .bot, .bot, .bot, .bot, .bot, .bot, .bot, .bot, .bot, .bot, .bot, .bot, .bot, .bot, .bot, .bot, .bot, .bot, .bot, .bot, .bot, .bot, .bot, .bot, .bot, .bot, .bot, .bot, .bot, .bot, .bot, .bot, .bot, .bot, .bot, .bot, .bot, .bot, .bot, .bot, .bot, .bot, .bot], []⟩ _
  refine V_sreg [false, false, true, true, true, false, false, false, false, false, false, false, false, false, false, false, false, false, false, false, false, false, false, false, false, false, false, false, false, false, false, false, false, false, false, false, false, false, false, false, false, false, false, false, false, false, false, false, false, false] [32, 24, 16] (s1 := ⟨[.bot, .bot, .pt 16 0, .pt 24 0, .pt 32 0, .bot, .bot, .bot, .bot, .bot, .bot, .bot, .bot, .bot, .bot, .bot, .bot, .bot, .bot, .bot, .bot, .bot, .bot, .bot, .bot, .bot, .bot, .bot, .bot, .bot, .bot, .bot, .bot, .bot, .bot, .bot, .bot, .bot, .bot, .bot, .bot, .bot, .bot, .bot, .bot, .bot, .bot, .bot, .bot, .bot], [(32, .box [Ti 0, Ti 0, Ti 0, Ti 0]), (24, .box [Ti vn2.1, Ti vn2.2.1, Ti vn2.2.2.1, Ti vn2.2.2.2]), (16, .box [Ti vm1.1, Ti vm1.2.1, Ti vm1.2.2.1, Ti vm1.2.2.2])]⟩) ?_ ?_
  · refine XL_cons rfl (X_of_Y1 rfl (Y1_box (cs := [Ti vm1.1, Ti vm1.2.1, Ti vm1.2.2.1, Ti vm1.2.2.2]) rfl (by kernel_rfl))) ?_
    refine XL_cons rfl (X_of_Y1 rfl (Y1_box (cs := [Ti vn2.1, Ti vn2.2.1, Ti vn2.2.2.1, Ti vn2.2.2.2]) rfl (by kernel_rfl))) ?_
    refine XL_cons rfl (X_of_Y1 rfl (Y1_alloc (z := zv38) rfl zf38 rfl)) ?_
    refine XL_nil ?_
    kernel_rfl
  obtain ⟨f3, hf3, h⟩ := of_sI h
  obtain ⟨f4, hf4, h⟩ := of_sI h
  obtain ⟨f5, hf5, h⟩ := of_sI h
  obtain ⟨f6, hf6, h⟩ := of_sI h
  refine V_sreg [false, false, false, false, true, false, false, false, false, false, false, false, false, false, false, false, false, false, false, false, false, false, false, false, false, false, false, false, false, false, false, false, false, false, false, false, false, false, false, false, false, false, false, false, false, false, false, false, false, false] [32] (s1 := ⟨[.bot, .bot, .bot, .bot, .pt 32 0, .bot, .bot, .bot, .bot, .bot, .bot, .bot, .bot, .bot, .bot, .bot, .bot, .bot, .bot, .bot, .bot, .bot, .bot, .bot, .bot, .bot, .bot, .bot, .bot, .bot, .bot, .bot, .bot, .bot, .bot, .bot, .bot, .bot, .bot, .bot, .bot, .bot, .bot, .bot, .bot, .bot, .bot, .bot, .bot, .bot], [(32, .box [Ti f3, Ti f4, Ti f5, Ti f6])]⟩) ?_ ?_
  · refine XL_cons rfl (X_of_Y0 rfl (E_field (.pt 16 0) Try.underlying38 rfl sz3 rfl (by kernel_rfl) (by intro hh; cases hh))) ?_
    refine XL_cons rfl (X_of_Y0 rfl (Y0_load1 (c := Ti vm1.1) (cs := [Ti vm1.2.1, Ti vm1.2.2.1, Ti vm1.2.2.2]) sc3 rfl (by kernel_rfl))) ?_
    refine XL_cons rfl (X_of_Y0 rfl (E_field (.pt 24 0) Try.underlying38 rfl sz3 rfl (by kernel_rfl) (by intro hh; cases hh))) ?_
    refine XL_cons rfl (X_of_Y0 rfl (Y0_load1 (c := Ti vn2.1) (cs := [Ti vn2.2.1, Ti vn2.2.2.1, Ti vn2.2.2.2]) sc3 rfl (by kernel_rfl))) ?_
    refine XL_cons rfl (X_of_Y0 rfl (Y0_mul64 (a := vm1.1) (b := vn2.1) rfl (by kernel_rfl) (by kernel_rfl))) ?_
    refine XL_cons rfl (X_of_Y0 rfl (E_field (.pt 16 1) Try.underlying38 rfl sz3 rfl (by kernel_rfl) (by intro hh; cases hh))) ?_
    refine XL_cons rfl (X_of_Y0 rfl (Y0_load1 (c := Ti vm1.2.1) (cs := [Ti vm1.2.2.1, Ti vm1.2.2.2]) sc3 rfl (by kernel_rfl))) ?_
    refine XL_cons rfl (X_of_Y0 rfl (E_field (.pt 24 2) Try.underlying38 rfl sz3 rfl (by kernel_rfl) (by intro hh; cases hh))) ?_
    refine XL_cons rfl (X_of_Y0 rfl (Y0_load1 (c := Ti vn2.2.2.1) (cs := [Ti vn2.2.2.2]) sc3 rfl (by kernel_rfl))) ?_
    refine XL_cons rfl (X_of_Y0 rfl (Y0_mul64 (a := vm1.2.1) (b := vn2.2.2.1) rfl (by kernel_rfl) (by kernel_rfl))) ?_
    refine XL_cons rfl (X_of_Y0 rfl (Y0_add64 (a := w64 (vm1.1 * vn2.1)) (b := w64 (vm1.2.1 * vn2.2.2.1)) rfl (by kernel_rfl) (by kernel_rfl))) ?_
    refine XL_cons rfl (X_of_Y0 rfl (E_field (.pt 16 0) Try.underlying38 rfl sz3 rfl (by kernel_rfl) (by intro hh; cases hh))) ?_
    refine XL_cons rfl (X_of_Y0 rfl (Y0_load1 (c := Ti vm1.1) (cs := [Ti vm1.2.1, Ti vm1.2.2.1, Ti vm1.2.2.2]) sc3 rfl (by kernel_rfl))) ?_
    refine XL_cons rfl (X_of_Y0 rfl (E_field (.pt 24 1) Try.underlying38 rfl sz3 rfl (by kernel_rfl) (by intro hh; cases hh))) ?_
    refine XL_cons rfl (X_of_Y0 rfl (Y0_load1 (c := Ti vn2.2.1) (cs := [Ti vn2.2.2.1, Ti vn2.2.2.2]) sc3 rfl (by kernel_rfl))) ?_
    refine XL_cons rfl (X_of_Y0 rfl (Y0_mul64 (a := vm1.1) (b := vn2.2.1) rfl (by kernel_rfl) (by kernel_rfl))) ?_
    refine XL_cons rfl (X_of_Y0 rfl (E_field (.pt 16 1) Try.underlying38 rfl sz3 rfl (by kernel_rfl) (by intro hh; cases hh))) ?_
    refine XL_cons rfl (X_of_Y0 rfl (Y0_load1 (c := Ti vm1.2.1) (cs := [Ti vm1.2.2.1, Ti vm1.2.2.2]) sc3 rfl (by kernel_rfl))) ?_
    refine XL_cons rfl (X_of_Y0 rfl (E_field (.pt 24 3) Try.underlying38 rfl sz3 rfl (by kernel_rfl) (by intro hh; cases hh))) ?_
    refine XL_cons rfl (X_of_Y0 rfl (Y0_load1 (c := Ti vn2.2.2.2) (cs := []) sc3 rfl (by kernel_rfl))) ?_
    refine XL_cons rfl (X_of_Y0 rfl (Y0_mul64 (a := vm1.2.1) (b := vn2.2.2.2) rfl (by kernel_rfl) (by kernel_rfl))) ?_
    refine XL_cons rfl (X_of_Y0 rfl (Y0_add64 (a := w64 (vm1.1 * vn2.2.1)) (b := w64 (vm1.2.1 * vn2.2.2.2)) rfl (by kernel_rfl) (by kernel_rfl))) ?_
    refine XL_cons rfl (X_of_Y0 rfl (E_field (.pt 16 2) Try.underlying38 rfl sz3 rfl (by kernel_rfl) (by intro hh; cases hh))) ?_
    refine XL_cons rfl (X_of_Y0 rfl (Y0_load1 (c := Ti vm1.2.2.1) (cs := [Ti vm1.2.2.2]) sc3 rfl (by kernel_rfl))) ?_
    refine XL_cons rfl (X_of_Y0 rfl (E_field (.pt 24 0) Try.underlying38 rfl sz3 rfl (by kernel_rfl) (by intro hh; cases hh))) ?_
    refine XL_cons rfl (X_of_Y0 rfl (Y0_load1 (c := Ti vn2.1) (cs := [Ti vn2.2.1, Ti vn2.2.2.1, Ti vn2.2.2.2]) sc3 rfl (by kernel_rfl))) ?_
    refine XL_cons rfl (X_of_Y0 rfl (Y0_mul64 (a := vm1.2.2.1) (b := vn2.1) rfl (by kernel_rfl) (by kernel_rfl))) ?_
    refine XL_cons rfl (X_of_Y0 rfl (E_field (.pt 16 3) Try.underlying38 rfl sz3 rfl (by kernel_rfl) (by intro hh; cases hh))) ?_
    refine XL_cons rfl (X_of_Y0 rfl (Y0_load1 (c := Ti vm1.2.2.2) (cs := []) sc3 rfl (by kernel_rfl))) ?_
    refine XL_cons rfl (X_of_Y0 rfl (E_field (.pt 24 2) Try.underlying38 rfl sz3 rfl (by kernel_rfl) (by intro hh; cases hh))) ?_
    refine XL_cons rfl (X_of_Y0 rfl (Y0_load1 (c := Ti vn2.2.2.1) (cs := [Ti vn2.2.2.2]) sc3 rfl (by kernel_rfl))) ?_
    refine XL_cons rfl (X_of_Y0 rfl (Y0_mul64 (a := vm1.2.2.2) (b := vn2.2.2.1) rfl (by kernel_rfl) (by kernel_rfl))) ?_
    refine XL_cons rfl (X_of_Y0 rfl (Y0_add64 (a := w64 (vm1.2.2.1 * vn2.1)) (b := w64 (vm1.2.2.2 * vn2.2.2.1)) rfl (by kernel_rfl) (by kernel_rfl))) ?_
    refine XL_cons rfl (X_of_Y0 rfl (E_field (.pt 16 2) Try.underlying38 rfl sz3 rfl (by kernel_rfl) (by intro hh; cases hh))) ?_
    refine XL_cons rfl (X_of_Y0 rfl (Y0_load1 (c := Ti vm1.2.2.1) (cs := [Ti vm1.2.2.2]) sc3 rfl (by kernel_rfl))) ?_
    refine XL_cons rfl (X_of_Y0 rfl (E_field (.pt 24 1) Try.underlying38 rfl sz3 rfl (by kernel_rfl) (by intro hh; cases hh))) ?_
    refine XL_cons rfl (X_of_Y0 rfl (Y0_load1 (c := Ti vn2.2.1) (cs := [Ti vn2.2.2.1, Ti vn2.2.2.2]) sc3 rfl (by kernel_rfl))) ?_
    refine XL_cons rfl (X_of_Y0 rfl (Y0_mul64 (a := vm1.2.2.1) (b := vn2.2.1) rfl (by kernel_rfl) (by kernel_rfl))) ?_
    refine XL_cons rfl (X_of_Y0 rfl (E_field (.pt 16 3) Try.underlying38 rfl sz3 rfl (by kernel_rfl) (by intro hh; cases hh))) ?_
    refine XL_cons rfl (X_of_Y0 rfl (Y0_load1 (c := Ti vm1.2.2.2) (cs := []) sc3 rfl (by kernel_rfl))) ?_
    refine XL_cons rfl (X_of_Y0 rfl (E_field (.pt 24 3) Try.underlying38 rfl sz3 rfl (by kernel_rfl) (by intro hh; cases hh))) ?_
    refine XL_cons rfl (X_of_Y0 rfl (Y0_load1 (c := Ti vn2.2.2.2) (cs := []) sc3 rfl (by kernel_rfl))) ?_
    refine XL_cons rfl (X_of_Y0 rfl (Y0_mul64 (a := vm1.2.2.2) (b := vn2.2.2.2) rfl (by kernel_rfl) (by kernel_rfl))) ?_
    refine XL_cons rfl (X_of_Y0 rfl (Y0_add64 (a := w64 (vm1.2.2.1 * vn2.2.1)) (b := w64 (vm1.2.2.2 * vn2.2.2.2)) rfl (by kernel_rfl) (by kernel_rfl))) ?_
    refine XL_cons rfl (X_of_Y0 rfl (Y0_build (cs := [Ti (w64 ((w64 (vm1.1 * vn2.1)) + (w64 (vm1.2.1 * vn2.2.2.1)))), Ti (w64 ((w64 (vm1.1 * vn2.2.1)) + (w64 (vm1.2.1 * vn2.2.2.2)))), Ti (w64 ((w64 (vm1.2.2.1 * vn2.1)) + (w64 (vm1.2.2.2 * vn2.2.2.1)))), Ti (w64 ((w64 (vm1.2.2.1 * vn2.2.1)) + (w64 (vm1.2.2.2 * vn2.2.2.2))))]) pl38 bt38 rfl rfl (by kernel_rfl))) ?_
    refine XL_cons rfl (E_store (id := 32) (off := 0) (cs := [Ti 0, Ti 0, Ti 0, Ti 0]) (vc := [Ti (w64 ((w64 (vm1.1 * vn2.1)) + (w64 (vm1.2.1 * vn2.2.2.1)))), Ti (w64 ((w64 (vm1.1 * vn2.2.1)) + (w64 (vm1.2.1 * vn2.2.2.2)))), Ti (w64 ((w64 (vm1.2.2.1 * vn2.1)) + (w64 (vm1.2.2.2 * vn2.2.2.1)))), Ti (w64 ((w64 (vm1.2.2.1 * vn2.2.1)) + (w64 (vm1.2.2.2 * vn2.2.2.2))))]) [Ti (w64 ((w64 (vm1.1 * vn2.1)) + (w64 (vm1.2.1 * vn2.2.2.1)))), Ti (w64 ((w64 (vm1.1 * vn2.2.1)) + (w64 (vm1.2.1 * vn2.2.2.2)))), Ti (w64 ((w64 (vm1.2.2.1 * vn2.1)) + (w64 (vm1.2.2.2 * vn2.2.2.1)))), Ti (w64 ((w64 (vm1.2.2.1 * vn2.2.1)) + (w64 (vm1.2.2.2 * vn2.2.2.2))))] rfl rfl (by kernel_rfl) (by kernel_rfl) (by kernel_rfl) sz38 (Nat.le_of_ble_eq_true rfl) (by kernel_rfl)) ?_
    refine XL_nil ?_
    subst hf3 hf4 hf5 hf6
    kernel_rfl
  refine V_ret ?_
  obtain rfl := some_inj h
  show Post _ _ _ _ _
  exact ⟨.inr rfl, rfl, rfl, rfl⟩
theorem cf_impl_reduce : ∀ args w, (callFunc 126 args).run Try.prog w = .ok (.enter 126 args) w := run_callFunc Try.func126 (by kernel_rfl) (by kernel_rfl)
set_option maxRecDepth 100000 in
set_option maxHeartbeats 400000 in
theorem s_impl_reduce {f1 : (Int × Int × Int)} {r : (((Int × Int × Int)) × ((Int × Int × Int × Int)))} (h : r_impl_reduce f1 = some r) : CallS Try.prog 126 [.ag [Ti f1.1, Ti f1.2.1, Ti f1.2.2]] (.tc (.ag [Ti r.1.1, Ti r.1.2.1, Ti r.1.2.2]) (.tc (.ag [Ti r.2.1, Ti r.2.2.1, Ti r.2.2.2.1, Ti r.2.2.2.2]) .tn)) [] := by
  refine CallS_of_text (rs := [.w 2 3, .w 3 4]) (vs := [.cell 2 36, .cell 3 38]) Try.func126 rfl rfl (.cons ⟨rfl, wd36⟩ (.cons ⟨rfl, wd38⟩ FitsL.nil)) (by decide) 20 rfl ?_
  unfold r_impl_reduce at h
  show V _ _ ⟨[.ag [Ti f1.1, Ti f1.2.1, Ti f1.2.2], .bot, .bot, .bot, .bot, .bot, .bot, .bot, .bot, .bot, .bot, .bot, .bot, .bot, .bot, .bot, .bot, .bot, .bot, .bot], []⟩ _
  refine V_sreg [false, true, true, true, false, false, false, false, false, false, false, false, false, false, false, false, false, false, false, false] [24, 16, 8] (s1 := ⟨[.bot, .pt 8 0, .pt 16 0, .pt 24 0, .bot, .bot, .bot, .bot, .bot, .bot, .bot, .bot, .bot, .bot, .bot, .bot, .bot, .bot, .bot, .bot], [(24, .box [Ti 0, Ti 0, Ti 0, Ti 0]), (16, .box [Ti 0, Ti 0, Ti 0]), (8, .box [Ti f1.1, Ti f1.2.1, Ti f1.2.2])]⟩) ?_ ?_
  · refine XL_cons rfl (X_of_Y1 rfl (Y1_box (cs := [Ti f1.1, Ti f1.2.1, Ti f1.2.2]) rfl (by kernel_rfl))) ?_
    refine XL_cons rfl (X_of_Y1 rfl (Y1_alloc (z := zv36) rfl zf36 rfl)) ?_
    refine XL_cons rfl (X_of_Y1 rfl (Y1_alloc (z := zv38) rfl zf38 rfl)) ?_
    refine XL_nil ?_
    kernel_rfl
  obtain ⟨y2, hy2, h⟩ := of_bind h
  refine V_sreg [false, true, true, true, true, false, false, false, false, false, false, false, false, false, false, false, false, false, false, false] [32, 24, 16, 8] (s1 := ⟨[.bot, .pt 8 0, .pt 16 0, .pt 24 0, .pt 32 0, .bot, .bot, .bot, .bot, .bot, .bot, .bot, .bot, .bot, .bot, .bot, .bot, .bot, .bot, .bot], [(32, .box [Ti y2.1, Ti y2.2.1, Ti y2.2.2.1, Ti y2.2.2.2]), (24, .box [Ti 0, Ti 0, Ti 0, Ti 0]), (16, .box [Ti 0, Ti 0, Ti 0]), (8, .box [Ti f1.1, Ti f1.2.1, Ti f1.2.2])]⟩) ?_ ?_
  · refine XL_cons rfl (X_of_Y1 rfl (Y1_call (s_impl_one hy2) cf_impl_one rfl (by kernel_rfl))) ?_
    refine XL_cons rfl (X_of_Y1 rfl (Y1_alloc (z := zv38) rfl zf38 rfl)) ?_
    refine XL_cons rfl (E_store (id := 32) (off := 0) (cs := [Ti 0, Ti 0, Ti 0, Ti 0]) (vc := [Ti y2.1, Ti y2.2.1, Ti y2.2.2.1, Ti y2.2.2.2]) [Ti y2.1, Ti y2.2.1, Ti y2.2.2.1, Ti y2.2.2.2] rfl rfl (by kernel_rfl) (by kernel_rfl) (by kernel_rfl) sz38 (Nat.le_of_ble_eq_true rfl) (by kernel_rfl)) ?_
    refine XL_nil ?_
    kernel_rfl
  refine V_seq ?_
  obtain ⟨o11, hLo11, h⟩ := of_bind h
  refine V_toK [false, true, true, true, true, false, false, false, false, false, false, false, false, false, false, false, false, false, false, false] [32, 24, 16, 8] (s1 := ⟨[.bot, .pt 8 0, .pt 16 0, .pt 24 0, .pt 32 0, .bot, .bot, .bot, .bot, .bot, .bot, .bot, .bot, .bot, .bot, .bot, .bot, .bot, .bot, .bot], [(32, .box [Ti o11.1, Ti o11.2.1, Ti o11.2.2.1, Ti o11.2.2.2.1]), (24, .box [Ti 0, Ti 0, Ti 0, Ti 0]), (16, .box [Ti 0, Ti 0, Ti 0]), (8, .box [Ti o11.2.2.2.2.1, Ti o11.2.2.2.2.2.1, Ti o11.2.2.2.2.2.2])]⟩) ?_ ?_
  · clear h
    refine V_block (V_loop (fun n s => ∃ (f3 : Int) (f4 : Int) (f5 : Int) (f6 : Int) (f7 : Int) (f8 : Int) (f9 : Int), s.keep [false, true, true, true, true, false, false, false, false, false, false, false, false, false, false, false, false, false, false, false] [32, 24, 16, 8] = (⟨[.bot, .pt 8 0, .pt 16 0, .pt 24 0, .pt 32 0, .bot, .bot, .bot, .bot, .bot, .bot, .bot, .bot, .bot, .bot, .bot, .bot, .bot, .bot, .bot], [(32, .box [Ti f3, Ti f4, Ti f5, Ti f6]), (24, .box [Ti 0, Ti 0, Ti 0, Ti 0]), (16, .box [Ti 0, Ti 0, Ti 0]), (8, .box [Ti f7, Ti f8, Ti f9])]⟩ : St) ∧ r_impl_reduce_L10 n f3 f4 f5 f6 f7 f8 f9 = some o11) FU ⟨_, _, _, _, _, _, _,  by rfl, hLo11⟩ ?_)
    clear hLo11
    rintro n s ⟨f3, f4, f5, f6, f7, f8, f9, hs, h⟩
    refine V_keep _ _ hs ?_
    clear hs
    cases n with
    | zero => cases h
    | succ n =>
      rw [r_impl_reduce_L10] at h
      refine V_seq ?_
      obtain ⟨y12, hy12, h⟩ := of_bind h
      refine V_sreg [false, true, true, true, true, false, false, false, false, true, false, false, false, false, false, false, false, false, false, false] [32, 24, 16, 8] (s1 := ⟨[.bot, .pt 8 0, .pt 16 0, .pt 24 0, .pt 32 0, .bot, .bot, .bot, .bot, Bo (!y12), .bot, .bot, .bot, .bot, .bot, .bot, .bot, .bot, .bot, .bot], [(32, .box [Ti f3, Ti f4, Ti f5, Ti f6]), (24, .box [Ti 0, Ti 0, Ti 0, Ti 0]), (16, .box [Ti 0, Ti 0, Ti 0]), (8, .box [Ti f7, Ti f8, Ti f9])]⟩) ?_ ?_
      · refine XL_cons rfl (X_of_Y0 rfl (E_loadn (cs := [Ti f7, Ti f8, Ti f9]) [Ti f7, Ti f8, Ti f9] wd36 rfl (by kernel_rfl) (Nat.le_of_ble_eq_true rfl) (by kernel_rfl))) ?_
        refine XL_cons rfl (X_of_Y1 rfl (Y1_call (s_impl_Form_isReduced hy12) cf_impl_Form_isReduced rfl (by kernel_rfl))) ?_
        refine XL_cons rfl (X_of_Y0 rfl (Y0_not (b := y12) rfl (by kernel_rfl))) ?_
        refine XL_nil ?_
        kernel_rfl
      refine V_cond rfl (fun hc13 => ?_) (fun hc13 => ?_)
      · have h := of_true h hc13
        refine V_skip ?_
        show V _ _ _ _
        refine V_block ?_
        obtain ⟨y14, hy14, h⟩ := of_bind h
        refine V_sreg [false, true, true, true, true, true, false, false, false, false, false, false, false, false, false, false, false, false, false, false] [40, 32, 24, 16, 8] (s1 := ⟨[.bot, .pt 8 0, .pt 16 0, .pt 24 0, .pt 32 0, .pt 40 0, .bot, .bot, .bot, .bot, .bot, .bot, .bot, .bot, .bot, .bot, .bot, .bot, .bot, .bot], [(40, .box [Ti y14.1, Ti y14.2.1, Ti y14.2.2.1, Ti y14.2.2.2]), (32, .box [Ti f3, Ti f4, Ti f5, Ti f6]), (24, .box [Ti 0, Ti 0, Ti 0, Ti 0]), (16, .box [Ti 0, Ti 0, Ti 0]), (8, .box [Ti f7, Ti f8, Ti f9])]⟩) ?_ ?_
        · refine XL_cons rfl (X_of_Y0 rfl (E_loadn (cs := [Ti f7, Ti f8, Ti f9]) [Ti f7, Ti f8, Ti f9] wd36 rfl (by kernel_rfl) (Nat.le_of_ble_eq_true rfl) (by kernel_rfl))) ?_
          refine XL_cons rfl (X_of_Y1 rfl (Y1_call (s_impl_Form_step hy14) cf_impl_Form_step rfl (by kernel_rfl))) ?_
          refine XL_cons rfl (X_of_Y1 rfl (Y1_alloc (z := zv38) rfl zf38 rfl)) ?_
          refine XL_cons rfl (E_store (id := 40) (off := 0) (cs := [Ti 0, Ti 0, Ti 0, Ti 0]) (vc := [Ti y14.1, Ti y14.2.1, Ti y14.2.2.1, Ti y14.2.2.2]) [Ti y14.1, Ti y14.2.1, Ti y14.2.2.1, Ti y14.2.2.2] rfl rfl (by kernel_rfl) (by kernel_rfl) (by kernel_rfl) sz38 (Nat.le_of_ble_eq_true rfl) (by kernel_rfl)) ?_
          refine XL_nil ?_
          kernel_rfl
        obtain ⟨y15, hy15, h⟩ := of_bind h
        refine V_sreg [false, true, true, true, true, true, false, false, false, false, false, false, false, false, false, false, false, false, false, false] [40, 32, 24, 16, 8] (s1 := ⟨[.bot, .pt 8 0, .pt 16 0, .pt 24 0, .pt 32 0, .pt 40 0, .bot, .bot, .bot, .bot, .bot, .bot, .bot, .bot, .bot, .bot, .bot, .bot, .bot, .bot], [(40, .box [Ti y14.1, Ti y14.2.1, Ti y14.2.2.1, Ti y14.2.2.2]), (32, .box [Ti f3, Ti f4, Ti f5, Ti f6]), (24, .box [Ti 0, Ti 0, Ti 0, Ti 0]), (16, .box [Ti 0, Ti 0, Ti 0]), (8, .box [Ti y15.1, Ti y15.2.1, Ti y15.2.2])]⟩) ?_ ?_
        · refine XL_cons rfl (X_of_Y0 rfl (E_loadn (cs := [Ti f7, Ti f8, Ti f9]) [Ti f7, Ti f8, Ti f9] wd36 rfl (by kernel_rfl) (Nat.le_of_ble_eq_true rfl) (by kernel_rfl))) ?_
          refine XL_cons rfl (X_of_Y0 rfl (E_loadn (cs := [Ti y14.1, Ti y14.2.1, Ti y14.2.2.1, Ti y14.2.2.2]) [Ti y14.1, Ti y14.2.1, Ti y14.2.2.1, Ti y14.2.2.2] wd38 rfl (by kernel_rfl) (Nat.le_of_ble_eq_true rfl) (by kernel_rfl))) ?_
          refine XL_cons rfl (X_of_Y1 rfl (Y1_call (s_impl_Form_substitute hy15) cf_impl_Form_substitute rfl (by kernel_rfl))) ?_
          refine XL_cons rfl (E_store (id := 8) (off := 0) (cs := [Ti f7, Ti f8, Ti f9]) (vc := [Ti y15.1, Ti y15.2.1, Ti y15.2.2]) [Ti y15.1, Ti y15.2.1, Ti y15.2.2] rfl rfl (by kernel_rfl) (by kernel_rfl) (by kernel_rfl) sz36 (Nat.le_of_ble_eq_true rfl) (by kernel_rfl)) ?_
          refine XL_nil ?_
          kernel_rfl
        obtain ⟨y16, hy16, h⟩ := of_bind h
        refine V_reg [false, true, true, true, true, false, false, false, false, false, false, false, false, false, false, false, false, false, false, false] [32, 24, 16, 8] (s1 := ⟨[.bot, .pt 8 0, .pt 16 0, .pt 24 0, .pt 32 0, .bot, .bot, .bot, .bot, .bot, .bot, .bot, .bot, .bot, .bot, .bot, .bot, .bot, .bot, .bot], [(32, .box [Ti y16.1, Ti y16.2.1, Ti y16.2.2.1, Ti y16.2.2.2]), (24, .box [Ti 0, Ti 0, Ti 0, Ti 0]), (16, .box [Ti 0, Ti 0, Ti 0]), (8, .box [Ti y15.1, Ti y15.2.1, Ti y15.2.2])]⟩) ?_ ?_
        · refine XL_cons rfl (X_of_Y0 rfl (E_loadn (cs := [Ti f3, Ti f4, Ti f5, Ti f6]) [Ti f3, Ti f4, Ti f5, Ti f6] wd38 rfl (by kernel_rfl) (Nat.le_of_ble_eq_true rfl) (by kernel_rfl))) ?_
          refine XL_cons rfl (X_of_Y0 rfl (E_loadn (cs := [Ti y14.1, Ti y14.2.1, Ti y14.2.2.1, Ti y14.2.2.2]) [Ti y14.1, Ti y14.2.1, Ti y14.2.2.1, Ti y14.2.2.2] wd38 rfl (by kernel_rfl) (Nat.le_of_ble_eq_true rfl) (by kernel_rfl))) ?_
          refine XL_cons rfl (X_of_Y1 rfl (Y1_call (s_impl_Matrix_times hy16) cf_impl_Matrix_times rfl (by kernel_rfl))) ?_
          refine XL_cons rfl (E_store (id := 32) (off := 0) (cs := [Ti f3, Ti f4, Ti f5, Ti f6]) (vc := [Ti y16.1, Ti y16.2.1, Ti y16.2.2.1, Ti y16.2.2.2]) [Ti y16.1, Ti y16.2.1, Ti y16.2.2.1, Ti y16.2.2.2] rfl rfl (by kernel_rfl) (by kernel_rfl) (by kernel_rfl) sz38 (Nat.le_of_ble_eq_true rfl) (by kernel_rfl)) ?_
          refine XL_nil ?_
          kernel_rfl
        exact ⟨n, Nat.lt_succ_self n, _, _, _, _, _, _, _,  by rfl, h⟩
      · have h := of_false h hc13
        refine V_exit ?_
        obtain rfl := some_inj h
        show St.keep _ _ _ = _
        rfl
  show V _ _ _ _
  refine V_sdreg [0, 0, 1, 7] 3 [[.z, .b, .z], [.b, .z, .r 16], [.a, .b, .z]] [false, false, true, true, false, false, false, false, false, false, false, false, false, false, false, false, false, false, false, false] [24, 16] (s1 := ⟨[.bot, .bot, .pt 16 0, .pt 24 0, .bot, .bot, .bot, .bot, .bot, .bot, .bot, .bot, .bot, .bot, .bot, .bot, .bot, .bot, .bot, .bot], [(24, .box [Ti o11.1, Ti o11.2.1, Ti o11.2.2.1, Ti o11.2.2.2.1]), (16, .box [Ti o11.2.2.2.2.1, Ti o11.2.2.2.2.2.1, Ti o11.2.2.2.2.2.2])]⟩) (by kernel_rfl) (by kernel_rfl) ?_ ?_
  · refine DE_0 0 (.ag [Ti o11.2.2.2.2.1, Ti o11.2.2.2.2.2.1, Ti o11.2.2.2.2.2.2]) (by kernel_rfl) rfl rfl rfl (gsat_none rfl) (by kernel_rfl) (E_loadn (cs := [Ti o11.2.2.2.2.1, Ti o11.2.2.2.2.2.1, Ti o11.2.2.2.2.2.2]) [Ti o11.2.2.2.2.1, Ti o11.2.2.2.2.2.1, Ti o11.2.2.2.2.2.2] wd36 rfl (by kernel_rfl) (Nat.le_of_ble_eq_true rfl) (by kernel_rfl)) 18 rfl ?_
    refine DE_0 1 (.ag [Ti o11.1, Ti o11.2.1, Ti o11.2.2.1, Ti o11.2.2.2.1]) (by kernel_rfl) rfl rfl rfl (gsat_none rfl) (by kernel_rfl) (E_loadn (cs := [Ti o11.1, Ti o11.2.1, Ti o11.2.2.1, Ti o11.2.2.2.1]) [Ti o11.1, Ti o11.2.1, Ti o11.2.2.1, Ti o11.2.2.2.1] wd38 rfl (by kernel_rfl) (Nat.le_of_ble_eq_true rfl) (by kernel_rfl)) 19 rfl ?_
    refine DE_2 (off := 0) (cs := [Ti 0, Ti 0, Ti 0]) (vc := [Ti o11.2.2.2.2.1, Ti o11.2.2.2.2.2.1, Ti o11.2.2.2.2.2.2]) 2 16 [Ti o11.2.2.2.2.1, Ti o11.2.2.2.2.2.1, Ti o11.2.2.2.2.2.2] (by kernel_rfl) rfl rfl rfl (gsat_none rfl) rfl rfl (by kernel_rfl) (by kernel_rfl) (by kernel_rfl) sz36 (Nat.le_of_ble_eq_true rfl) (by kernel_rfl) (by kernel_rfl) (by kernel_rfl) (by kernel_rfl) ?_
    refine DL_nil (by kernel_rfl) ?_
    refine XL_cons rfl (E_store (id := 24) (off := 0) (cs := [Ti 0, Ti 0, Ti 0, Ti 0]) (vc := [Ti o11.1, Ti o11.2.1, Ti o11.2.2.1, Ti o11.2.2.2.1]) [Ti o11.1, Ti o11.2.1, Ti o11.2.2.1, Ti o11.2.2.2.1] rfl rfl (by kernel_rfl) (by kernel_rfl) (by kernel_rfl) sz38 (Nat.le_of_ble_eq_true rfl) (by kernel_rfl)) ?_
    refine XL_nil ?_
    kernel_rfl
  refine V_ret ?_
  obtain rfl := some_inj h
  show Post _ _ _ _ _
  exact ⟨.inr rfl, rfl, rfl, rfl⟩
theorem cf_impl_reduced : ∀ args w, (callFunc 86 args).run Try.prog w = .ok (.enter 86 args) w := run_callFunc Try.func86 (by kernel_rfl) (by kernel_rfl)
set_option maxRecDepth 100000 in
set_option maxHeartbeats 400000 in
theorem s_impl_reduced {f1 : (Int × Int × Int)} {r : (Int × Int × Int)} (h : r_impl_reduced f1 = some r) : CallS Try.prog 86 [.ag [Ti f1.1, Ti f1.2.1, Ti f1.2.2]] (.ag [Ti r.1, Ti r.2.1, Ti r.2.2]) [] := by
  refine CallS_of_text (rs := [.w 2 3]) (vs := [.cell 2 36]) Try.func86 rfl rfl (.cons ⟨rfl, wd36⟩ FitsL.nil) (by decide) 11 rfl ?_
  unfold r_impl_reduced at h
  show V _ _ ⟨[.ag [Ti f1.1, Ti f1.2.1, Ti f1.2.2], .bot, .bot, .bot, .bot, .bot, .bot, .bot, .bot, .bot, .bot], []⟩ _
  refine V_sreg [false, true, true, false, false, false, false, false, false, false, false] [16, 8] (s1 := ⟨[.bot, .pt 8 0, .pt 16 0, .bot, .bot, .bot, .bot, .bot, .bot, .bot, .bot], [(16, .box [Ti 0, Ti 0, Ti 0]), (8, .box [Ti f1.1, Ti f1.2.1, Ti f1.2.2])]⟩) ?_ ?_
  · refine XL_cons rfl (X_of_Y1 rfl (Y1_box (cs := [Ti f1.1, Ti f1.2.1, Ti f1.2.2]) rfl (by kernel_rfl))) ?_
    refine XL_cons rfl (X_of_Y1 rfl (Y1_alloc (z := zv36) rfl zf36 rfl)) ?_
    refine XL_nil ?_
    kernel_rfl
  obtain ⟨y2, hy2, h⟩ := of_bind h
  refine V_sreg [false, false, true, true, false, false, false, false, false, false, false] [24, 16] (s1 := ⟨[.bot, .bot, .pt 16 0, .pt 24 0, .bot, .bot, .bot, .bot, .bot, .bot, .bot], [(24, .box [Ti y2.1.1, Ti y2.1.2.1, Ti y2.1.2.2]), (16, .box [Ti 0, Ti 0, Ti 0])]⟩) ?_ ?_
  · refine XL_cons rfl (X_of_Y0 rfl (E_loadn (cs := [Ti f1.1, Ti f1.2.1, Ti f1.2.2]) [Ti f1.1, Ti f1.2.1, Ti f1.2.2] wd36 rfl (by kernel_rfl) (Nat.le_of_ble_eq_true rfl) (by kernel_rfl))) ?_
    refine XL_cons rfl (X_of_Y1 rfl (Y1_call (s_impl_reduce hy2) cf_impl_reduce rfl (by kernel_rfl))) ?_
    refine XL_cons rfl (X_of_Y0 rfl (E_move (.tc (.ag [Ti y2.1.1, Ti y2.1.2.1, Ti y2.1.2.2]) (.tc (.ag [Ti y2.2.1, Ti y2.2.2.1, Ti y2.2.2.2.1, Ti y2.2.2.2.2]) .tn)) rfl (by kernel_rfl))) ?_
    refine XL_cons rfl (X_of_Y0 rfl (E_ext (n := 0) (.ag [Ti y2.1.1, Ti y2.1.2.1, Ti y2.1.2.2]) (.tc (.ag [Ti y2.2.1, Ti y2.2.2.1, Ti y2.2.2.2.1, Ti y2.2.2.2.2]) .tn) (.ag [Ti y2.1.1, Ti y2.1.2.1, Ti y2.1.2.2]) rfl (by kernel_rfl) (by kernel_rfl) (by intro hh; cases hh))) ?_
    refine XL_cons rfl (X_of_Y0 rfl (E_ext (n := 1) (.ag [Ti y2.1.1, Ti y2.1.2.1, Ti y2.1.2.2]) (.tc (.ag [Ti y2.2.1, Ti y2.2.2.1, Ti y2.2.2.2.1, Ti y2.2.2.2.2]) .tn) (.ag [Ti y2.2.1, Ti y2.2.2.1, Ti y2.2.2.2.1, Ti y2.2.2.2.2]) rfl (by kernel_rfl) (by kernel_rfl) (by intro hh; cases hh))) ?_
    refine XL_cons rfl (X_of_Y1 rfl (Y1_alloc (z := zv36) rfl zf36 rfl)) ?_
    refine XL_cons rfl (X_of_Y1 rfl (Y1_alloc (z := zv38) rfl zf38 rfl)) ?_
    refine XL_cons rfl (E_store (id := 24) (off := 0) (cs := [Ti 0, Ti 0, Ti 0]) (vc := [Ti y2.1.1, Ti y2.1.2.1, Ti y2.1.2.2]) [Ti y2.1.1, Ti y2.1.2.1, Ti y2.1.2.2] rfl rfl (by kernel_rfl) (by kernel_rfl) (by kernel_rfl) sz36 (Nat.le_of_ble_eq_true rfl) (by kernel_rfl)) ?_
    refine XL_cons rfl (E_store (id := 32) (off := 0) (cs := [Ti 0, Ti 0, Ti 0, Ti 0]) (vc := [Ti y2.2.1, Ti y2.2.2.1, Ti y2.2.2.2.1, Ti y2.2.2.2.2]) [Ti y2.2.1, Ti y2.2.2.1, Ti y2.2.2.2.1, Ti y2.2.2.2.2] rfl rfl (by kernel_rfl) (by kernel_rfl) (by kernel_rfl) sz38 (Nat.le_of_ble_eq_true rfl) (by kernel_rfl)) ?_
    refine XL_nil ?_
    kernel_rfl
  refine V_sreg [false, false, true, false, false, false, false, false, false, false, false] [16] (s1 := ⟨[.bot, .bot, .pt 16 0, .bot, .bot, .bot, .bot, .bot, .bot, .bot, .bot], [(16, .box [Ti y2.1.1, Ti y2.1.2.1, Ti y2.1.2.2])]⟩) ?_ ?_
  · refine XL_cons rfl (X_of_Y0 rfl (E_loadn (cs := [Ti y2.1.1, Ti y2.1.2.1, Ti y2.1.2.2]) [Ti y2.1.1, Ti y2.1.2.1, Ti y2.1.2.2] wd36 rfl (by kernel_rfl) (Nat.le_of_ble_eq_true rfl) (by kernel_rfl))) ?_
    refine XL_cons rfl (E_store (id := 16) (off := 0) (cs := [Ti 0, Ti 0, Ti 0]) (vc := [Ti y2.1.1, Ti y2.1.2.1, Ti y2.1.2.2]) [Ti y2.1.1, Ti y2.1.2.1, Ti y2.1.2.2] rfl rfl (by kernel_rfl) (by kernel_rfl) (by kernel_rfl) sz36 (Nat.le_of_ble_eq_true rfl) (by kernel_rfl)) ?_
    refine XL_nil ?_
    kernel_rfl
  refine V_ret ?_
  obtain rfl := some_inj h
  show Post _ _ _ _ _
  exact ⟨.inr rfl, rfl, rfl, rfl⟩
theorem cf_impl_Form_disc : ∀ args w, (callFunc 63 args).run Try.prog w = .ok (.enter 63 args) w := run_callFunc Try.func63 (by kernel_rfl) (by kernel_rfl)
set_option maxRecDepth 100000 in
set_option maxHeartbeats 400000 in
theorem s_impl_Form_disc {f1 : (Int × Int × Int)} {r : Int} (h : r_impl_Form_disc f1 = some r) : CallS Try.prog 63 [.ag [Ti f1.1, Ti f1.2.1, Ti f1.2.2]] (I r) [] := by
  refine CallS_of_text (rs := [.t 2]) (vs := [.tmp 2]) Try.func63 rfl rfl (.cons rfl FitsL.nil) (by decide) 15 rfl ?_
  unfold r_impl_Form_disc at h
  show V _ _ ⟨[.ag [Ti f1.1, Ti f1.2.1, Ti f1.2.2], .bot, .bot, .bot, .bot, .bot, .bot, .bot, .bot, .bot, .bot, .bot, .bot, .bot, .bot], []⟩ _
  refine V_sreg [false, true, false, false, false, false, false, false, false, false, false, false, false, false, false] [8] (s1 := ⟨[.bot, .pt 8 0, .bot, .bot, .bot, .bot, .bot, .bot, .bot, .bot, .bot, .bot, .bot, .bot, .bot], [(8, .box [Ti f1.1, Ti f1.2.1, Ti f1.2.2])]⟩) ?_ ?_
  · refine XL_cons rfl (X_of_Y1 rfl (Y1_box (cs := [Ti f1.1, Ti f1.2.1, Ti f1.2.2]) rfl (by kernel_rfl))) ?_
    refine XL_cons rfl (X_of_Y0 rfl (E_assign (I 0) rfl (by kernel_rfl))) ?_
    refine XL_nil ?_
    kernel_rfl
  obtain ⟨t2, ht2, h⟩ := of_sI h
  refine V_sreg [false, false, true, false, false, false, false, false, false, false, false, false, false, false, false] [] (s1 := ⟨[.bot, .bot, I t2, .bot, .bot, .bot, .bot, .bot, .bot, .bot, .bot, .bot, .bot, .bot, .bot], []⟩) ?_ ?_
  · refine XL_cons rfl (X_of_Y0 rfl (E_field (.pt 8 1) Try.underlying36 rfl sz3 rfl (by kernel_rfl) (by intro hh; cases hh))) ?_
    refine XL_cons rfl (X_of_Y0 rfl (Y0_load1 (c := Ti f1.2.1) (cs := [Ti f1.2.2]) sc3 rfl (by kernel_rfl))) ?_
    refine XL_cons rfl (X_of_Y0 rfl (E_field (.pt 8 1) Try.underlying36 rfl sz3 rfl (by kernel_rfl) (by intro hh; cases hh))) ?_
    refine XL_cons rfl (X_of_Y0 rfl (Y0_load1 (c := Ti f1.2.1) (cs := [Ti f1.2.2]) sc3 rfl (by kernel_rfl))) ?_
    refine XL_cons rfl (X_of_Y0 rfl (Y0_mul64 (a := f1.2.1) (b := f1.2.1) rfl (by kernel_rfl) (by kernel_rfl))) ?_
    refine XL_cons rfl (X_of_Y0 rfl (E_field (.pt 8 0) Try.underlying36 rfl sz3 rfl (by kernel_rfl) (by intro hh; cases hh))) ?_
    refine XL_cons rfl (X_of_Y0 rfl (Y0_load1 (c := Ti f1.1) (cs := [Ti f1.2.1, Ti f1.2.2]) sc3 rfl (by kernel_rfl))) ?_
    refine XL_cons rfl (X_of_Y0 rfl (Y0_mul64 (a := 4) (b := f1.1) rfl (by kernel_rfl) (by kernel_rfl))) ?_
    refine XL_cons rfl (X_of_Y0 rfl (E_field (.pt 8 2) Try.underlying36 rfl sz3 rfl (by kernel_rfl) (by intro hh; cases hh))) ?_
    refine XL_cons rfl (X_of_Y0 rfl (Y0_load1 (c := Ti f1.2.2) (cs := []) sc3 rfl (by kernel_rfl))) ?_
    refine XL_cons rfl (X_of_Y0 rfl (Y0_mul64 (a := w64 (4 * f1.1)) (b := f1.2.2) rfl (by kernel_rfl) (by kernel_rfl))) ?_
    refine XL_cons rfl (X_of_Y0 rfl (Y0_sub64 (a := w64 (f1.2.1 * f1.2.1)) (b := w64 ((w64 (4 * f1.1)) * f1.2.2)) rfl (by kernel_rfl) (by kernel_rfl))) ?_
    refine XL_cons rfl (X_of_Y0 rfl (E_assign (I (w64 ((w64 (f1.2.1 * f1.2.1)) - (w64 ((w64 (4 * f1.1)) * f1.2.2))))) rfl (by kernel_rfl))) ?_
    refine XL_nil ?_
    subst ht2
    kernel_rfl
  refine V_ret ?_
  obtain rfl := some_inj h
  show Post _ _ _ _ _
  exact ⟨.inr rfl, rfl, rfl, rfl⟩
theorem cf_impl_allReduced : ∀ args w, (callFunc 111 args).run Try.prog w = .ok (.enter 111 args) w := run_callFunc Try.func111 (by kernel_rfl) (by kernel_rfl)
set_option maxRecDepth 100000 in
set_option maxHeartbeats 400000 in
theorem s_impl_allReduced {d1 : Int} {r : List ((Int × Int × Int))} (h : r_impl_allReduced d1 = some r) : CallS Try.prog 111 [I d1] (.ow 0) [(0, .arr 36 3 (r.map c36))] := by
  refine CallS_of_text (rs := [.t 2]) (vs := [.tmp 2]) Try.func111 rfl rfl (.cons rfl FitsL.nil) (by decide) 51 rfl ?_
  unfold r_impl_allReduced at h
  show V _ _ ⟨[I d1, .bot, .bot, .bot, .bot, .bot, .bot, .bot, .bot, .bot, .bot, .bot, .bot, .bot, .bot, .bot, .bot, .bot, .bot, .bot, .bot, .bot, .bot, .bot, .bot, .bot, .bot, .bot, .bot, .bot, .bot, .bot, .bot, .bot, .bot, .bot, .bot, .bot, .bot, .bot, .bot, .bot, .bot, .bot, .bot, .bot, .bot, .bot, .bot, .bot, .bot], []⟩ _
  refine V_sreg [true, false, false, false, false, false, false, false, false, false, false, false, false, false, false, false, false, false, false, false, false, false, false, false, false, false, false, false, false, false, false, false, false, false, false, false, false, false, false, false, false, false, false, false, false, false, false, false, false, false, false] [] (s1 := ⟨[I d1, .bot, .bot, .bot, .bot, .bot, .bot, .bot, .bot, .bot, .bot, .bot, .bot, .bot, .bot, .bot, .bot, .bot, .bot, .bot, .bot, .bot, .bot, .bot, .bot, .bot, .bot, .bot, .bot, .bot, .bot, .bot, .bot, .bot, .bot, .bot, .bot, .bot, .bot, .bot, .bot, .bot, .bot, .bot, .bot, .bot, .bot, .bot, .bot, .bot, .bot], []⟩) ?_ ?_
  · refine XL_cons rfl (X_of_Y1 rfl (Y1_nil (e := 36) 3 (by decide) (.inl rfl))) ?_
    refine XL_nil ?_
    kernel_rfl
  refine V_sreg [true, false, false, true, false, false, false, false, false, false, false, false, false, false, false, false, false, false, false, false, false, false, false, false, false, false, false, false, false, false, false, false, false, false, false, false, false, false, false, false, false, false, false, false, false, false, false, false, false, false, false] [56] (s1 := ⟨[I d1, .bot, .bot, .ow 56, .bot, .bot, .bot, .bot, .bot, .bot, .bot, .bot, .bot, .bot, .bot, .bot, .bot, .bot, .bot, .bot, .bot, .bot, .bot, .bot, .bot, .bot, .bot, .bot, .bot, .bot, .bot, .bot, .bot, .bot, .bot, .bot, .bot, .bot, .bot, .bot, .bot, .bot, .bot, .bot, .bot, .bot, .bot, .bot, .bot, .bot, .bot], [(56, .arr 36 3 ((([] : List ((Int × Int × Int)))).map c36))]⟩) ?_ ?_
  · refine XL_cons rfl (X_of_Y1 rfl (Y1_bslice0 Try.underlying53 sz36 (by decide) rfl rfl)) ?_
    refine XL_cons rfl (X_of_Y0 rfl (E_assign (.ow 56) rfl (by kernel_rfl))) ?_
    refine XL_nil ?_
    kernel_rfl
  refine V_seq ?_
  refine V_sreg [true, false, false, true, true, false, false, false, false, false, false, false, false, false, false, false, false, false, false, false, false, false, false, false, false, false, false, false, false, false, false, false, false, false, false, false, false, false, false, false, false, false, false, false, false, false, false, false, false, false, false] [56] (s1 := ⟨[I d1, .bot, .bot, .ow 56, I 1, .bot, .bot, .bot, .bot, .bot, .bot, .bot, .bot, .bot, .bot, .bot, .bot, .bot, .bot, .bot, .bot, .bot, .bot, .bot, .bot, .bot, .bot, .bot, .bot, .bot, .bot, .bot, .bot, .bot, .bot, .bot, .bot, .bot, .bot, .bot, .bot, .bot, .bot, .bot, .bot, .bot, .bot, .bot, .bot, .bot, .bot], [(56, .arr 36 3 ((([] : List ((Int × Int × Int)))).map c36))]⟩) ?_ ?_
  · refine XL_cons rfl (X_of_Y0 rfl (E_assign (I 1) rfl (by kernel_rfl))) ?_
    refine XL_nil ?_
    kernel_rfl
  obtain ⟨o5, hLo5, h⟩ := of_bind h
  refine V_toK [false, false, false, true, false, false, false, false, false, false, false, false, false, false, false, false, false, false, false, false, false, false, false, false, false, false, false, false, false, false, false, false, false, false, false, false, false, false, false, false, false, false, false, false, false, false, false, false, false, false, false] [56] (s1 := ⟨[.bot, .bot, .bot, .ow 56, .bot, .bot, .bot, .bot, .bot, .bot, .bot, .bot, .bot, .bot, .bot, .bot, .bot, .bot, .bot, .bot, .bot, .bot, .bot, .bot, .bot, .bot, .bot, .bot, .bot, .bot, .bot, .bot, .bot, .bot, .bot, .bot, .bot, .bot, .bot, .bot, .bot, .bot, .bot, .bot, .bot, .bot, .bot, .bot, .bot, .bot, .bot], [(56, .arr 36 3 (o5.map c36))]⟩) ?_ ?_
  · clear h
    refine V_block (V_loop (fun n s => ∃ (a2 : Int) (l3 : List ((Int × Int × Int))), s.keep [true, false, false, true, true, false, false, false, false, false, false, false, false, false, false, false, false, false, false, false, false, false, false, false, false, false, false, false, false, false, false, false, false, false, false, false, false, false, false, false, false, false, false, false, false, false, false, false, false, false, false] [56] = (⟨[I d1, .bot, .bot, .ow 56, I a2, .bot, .bot, .bot, .bot, .bot, .bot, .bot, .bot, .bot, .bot, .bot, .bot, .bot, .bot, .bot, .bot, .bot, .bot, .bot, .bot, .bot, .bot, .bot, .bot, .bot, .bot, .bot, .bot, .bot, .bot, .bot, .bot, .bot, .bot, .bot, .bot, .bot, .bot, .bot, .bot, .bot, .bot, .bot, .bot, .bot, .bot], [(56, .arr 36 3 (l3.map c36))]⟩ : St) ∧ r_impl_allReduced_L4 d1 n a2 l3 = some o5) FU ⟨_, _,  by rfl, hLo5⟩ ?_)
    clear hLo5
    rintro n s ⟨a2, l3, hs, h⟩
    refine V_keep _ _ hs ?_
    clear hs
    cases n with
    | zero => cases h
    | succ n =>
      rw [r_impl_allReduced_L4] at h
      refine V_seq ?_
      refine V_sreg [true, false, false, true, true, false, false, false, false, false, false, false, false, false, true, false, false, false, false, false, false, false, false, false, false, false, false, false, false, false, false, false, false, false, false, false, false, false, false, false, false, false, false, false, false, false, false, false, false, false, false] [56] (s1 := ⟨[I d1, .bot, .bot, .ow 56, I a2, .bot, .bot, .bot, .bot, .bot, .bot, .bot, .bot, .bot, Bo (leI (w64 ((w64 (3 * a2)) * a2)) (w64 (0 - d1))), .bot, .bot, .bot, .bot, .bot, .bot, .bot, .bot, .bot, .bot, .bot, .bot, .bot, .bot, .bot, .bot, .bot, .bot, .bot, .bot, .bot, .bot, .bot, .bot, .bot, .bot, .bot, .bot, .bot, .bot, .bot, .bot, .bot, .bot, .bot, .bot], [(56, .arr 36 3 (l3.map c36))]⟩) ?_ ?_
      · refine XL_cons rfl (X_of_Y0 rfl (E_move (I a2) rfl (by kernel_rfl))) ?_
        refine XL_cons rfl (X_of_Y0 rfl (Y0_mul64 (a := 3) (b := a2) rfl (by kernel_rfl) (by kernel_rfl))) ?_
        refine XL_cons rfl (X_of_Y0 rfl (E_move (I a2) rfl (by kernel_rfl))) ?_
        refine XL_cons rfl (X_of_Y0 rfl (Y0_mul64 (a := w64 (3 * a2)) (b := a2) rfl (by kernel_rfl) (by kernel_rfl))) ?_
        refine XL_cons rfl (X_of_Y0 rfl (E_move (I d1) rfl (by kernel_rfl))) ?_
        refine XL_cons rfl (X_of_Y0 rfl (Y0_neg64 (a := d1) rfl (by kernel_rfl))) ?_
        refine XL_cons rfl (X_of_Y0 rfl (Y0_lew (k := .i64) (a := w64 ((w64 (3 * a2)) * a2)) (b := w64 (0 - d1)) rfl (by kernel_rfl) (by kernel_rfl))) ?_
        refine XL_nil ?_
        kernel_rfl
      refine V_cond rfl (fun hc6 => ?_) (fun hc6 => ?_)
      · have h := of_true h hc6
        refine V_skip ?_
        show V _ _ _ _
        refine V_seq ?_
        refine V_block ?_
        obtain ⟨b7, hb7, h⟩ := of_sI h
        refine V_sreg [true, false, false, true, true, true, false, false, false, false, false, false, false, false, false, false, false, false, false, false, false, false, false, false, false, false, false, false, false, false, false, false, false, false, false, false, false, false, false, false, false, false, false, false, false, false, false, false, false, false, false] [56] (s1 := ⟨[I d1, .bot, .bot, .ow 56, I a2, I b7, .bot, .bot, .bot, .bot, .bot, .bot, .bot, .bot, .bot, .bot, .bot, .bot, .bot, .bot, .bot, .bot, .bot, .bot, .bot, .bot, .bot, .bot, .bot, .bot, .bot, .bot, .bot, .bot, .bot, .bot, .bot, .bot, .bot, .bot, .bot, .bot, .bot, .bot, .bot, .bot, .bot, .bot, .bot, .bot, .bot], [(56, .arr 36 3 (l3.map c36))]⟩) ?_ ?_
        · refine XL_cons rfl (X_of_Y0 rfl (E_move (I a2) rfl (by kernel_rfl))) ?_
          refine XL_cons rfl (X_of_Y0 rfl (Y0_sub64 (a := 1) (b := a2) rfl (by kernel_rfl) (by kernel_rfl))) ?_
          refine XL_cons rfl (X_of_Y0 rfl (E_assign (I (w64 (1 - a2))) rfl (by kernel_rfl))) ?_
          refine XL_nil ?_
          subst hb7
          kernel_rfl
        obtain ⟨o11, hLo11, h⟩ := of_bind h
        refine V_toK [true, false, false, true, true, false, false, false, false, false, false, false, false, false, false, false, false, false, false, false, false, false, false, false, false, false, false, false, false, false, false, false, false, false, false, false, false, false, false, false, false, false, false, false, false, false, false, false, false, false, false] [56] (s1 := ⟨[I d1, .bot, .bot, .ow 56, I a2, .bot, .bot, .bot, .bot, .bot, .bot, .bot, .bot, .bot, .bot, .bot, .bot, .bot, .bot, .bot, .bot, .bot, .bot, .bot, .bot, .bot, .bot, .bot, .bot, .bot, .bot, .bot, .bot, .bot, .bot, .bot, .bot, .bot, .bot, .bot, .bot, .bot, .bot, .bot, .bot, .bot, .bot, .bot, .bot, .bot, .bot], [(56, .arr 36 3 (o11.map c36))]⟩) ?_ ?_
        · clear h
          refine V_block (V_loop (fun n s => ∃ (b8 : Int) (l9 : List ((Int × Int × Int))), s.keep [true, false, false, true, true, true, false, false, false, false, false, false, false, false, false, false, false, false, false, false, false, false, false, false, false, false, false, false, false, false, false, false, false, false, false, false, false, false, false, false, false, false, false, false, false, false, false, false, false, false, false] [56] = (⟨[I d1, .bot, .bot, .ow 56, I a2, I b8, .bot, .bot, .bot, .bot, .bot, .bot, .bot, .bot, .bot, .bot, .bot, .bot, .bot, .bot, .bot, .bot, .bot, .bot, .bot, .bot, .bot, .bot, .bot, .bot, .bot, .bot, .bot, .bot, .bot, .bot, .bot, .bot, .bot, .bot, .bot, .bot, .bot, .bot, .bot, .bot, .bot, .bot, .bot, .bot, .bot], [(56, .arr 36 3 (l9.map c36))]⟩ : St) ∧ r_impl_allReduced_L10 a2 d1 n b8 l9 = some o11) FU ⟨_, _,  by rfl, hLo11⟩ ?_)
          clear hLo11
          rintro n s ⟨b8, l9, hs, h⟩
          refine V_keep _ _ hs ?_
          clear hs
          cases n with
          | zero => cases h
          | succ n =>
            rw [r_impl_allReduced_L10] at h
            refine V_seq ?_
            refine V_sreg [true, false, false, true, true, true, false, false, false, false, false, false, false, false, false, false, false, false, false, false, false, true, false, false, false, false, false, false, false, false, false, false, false, false, false, false, false, false, false, false, false, false, false, false, false, false, false, false, false, false, false] [56] (s1 := ⟨[I d1, .bot, .bot, .ow 56, I a2, I b8, .bot, .bot, .bot, .bot, .bot, .bot, .bot, .bot, .bot, .bot, .bot, .bot, .bot, .bot, .bot, Bo (leI b8 a2), .bot, .bot, .bot, .bot, .bot, .bot, .bot, .bot, .bot, .bot, .bot, .bot, .bot, .bot, .bot, .bot, .bot, .bot, .bot, .bot, .bot, .bot, .bot, .bot, .bot, .bot, .bot, .bot, .bot], [(56, .arr 36 3 (l9.map c36))]⟩) ?_ ?_
            · refine XL_cons rfl (X_of_Y0 rfl (E_move (I b8) rfl (by kernel_rfl))) ?_
              refine XL_cons rfl (X_of_Y0 rfl (E_move (I a2) rfl (by kernel_rfl))) ?_
              refine XL_cons rfl (X_of_Y0 rfl (Y0_lew (k := .i64) (a := b8) (b := a2) rfl (by kernel_rfl) (by kernel_rfl))) ?_
              refine XL_nil ?_
              kernel_rfl
            refine V_cond rfl (fun hc12 => ?_) (fun hc12 => ?_)
            · have h := of_true h hc12
              refine V_skip ?_
              show V _ _ _ _
              refine V_seq ?_
              refine V_block ?_
              refine V_seq ?_
              obtain ⟨z13, hz13, h⟩ := of_bind h
              obtain ⟨t14, ht14, h⟩ := of_bind h
              have ht14 := some_inj ht14
              refine V_sreg [true, false, false, true, true, true, false, false, false, false, false, false, false, false, false, false, false, false, false, false, false, false, false, false, false, false, false, false, false, false, false, false, true, false, false, false, false, false, false, false, false, false, false, false, false, false, false, false, false, false, false] [56] (s1 := ⟨[I d1, .bot, .bot, .ow 56, I a2, I b8, .bot, .bot, .bot, .bot, .bot, .bot, .bot, .bot, .bot, .bot, .bot, .bot, .bot, .bot, .bot, .bot, .bot, .bot, .bot, .bot, .bot, .bot, .bot, .bot, .bot, .bot, Bo t14, .bot, .bot, .bot, .bot, .bot, .bot, .bot, .bot, .bot, .bot, .bot, .bot, .bot, .bot, .bot, .bot, .bot, .bot], [(56, .arr 36 3 (l9.map c36))]⟩) ?_ ?_
              · refine XL_cons rfl (X_of_Y0 rfl (E_move (I b8) rfl (by kernel_rfl))) ?_
                refine XL_cons rfl (X_of_Y0 rfl (E_move (I b8) rfl (by kernel_rfl))) ?_
                refine XL_cons rfl (X_of_Y0 rfl (Y0_mul64 (a := b8) (b := b8) rfl (by kernel_rfl) (by kernel_rfl))) ?_
                refine XL_cons rfl (X_of_Y0 rfl (E_move (I d1) rfl (by kernel_rfl))) ?_
                refine XL_cons rfl (X_of_Y0 rfl (Y0_sub64 (a := w64 (b8 * b8)) (b := d1) rfl (by kernel_rfl) (by kernel_rfl))) ?_
                refine XL_cons rfl (X_of_Y0 rfl (E_move (I a2) rfl (by kernel_rfl))) ?_
                refine XL_cons rfl (X_of_Y0 rfl (Y0_mul64 (a := 4) (b := a2) rfl (by kernel_rfl) (by kernel_rfl))) ?_
                refine XL_cons rfl (X_of_Y0 rfl (Y0_rem (k := .i64) (a := w64 ((w64 (b8 * b8)) - d1)) (b := w64 (4 * a2)) rfl (by kernel_rfl) (by kernel_rfl) (nz_some hz13))) ?_
                refine XL_cons rfl (X_of_Y0 rfl (Y0_new (k := .i64) (a := Int.tmod (w64 ((w64 (b8 * b8)) - d1)) (w64 (4 * a2))) (b := 0) rfl (by kernel_rfl) (by kernel_rfl))) ?_
                refine XL_nil ?_
                subst ht14
                kernel_rfl
              refine V_cond rfl (fun hc15 => ?_) (fun hc15 => ?_)
              · have h := of_true h hc15
                refine V_exit ?_
                show V _ _ _ _
                obtain ⟨b16, hb16, h⟩ := of_sI h
                refine V_reg [true, false, false, true, true, true, false, false, false, false, false, false, false, false, false, false, false, false, false, false, false, false, false, false, false, false, false, false, false, false, false, false, false, false, false, false, false, false, false, false, false, false, false, false, false, false, false, false, false, false, false] [56] (s1 := ⟨[I d1, .bot, .bot, .ow 56, I a2, I b16, .bot, .bot, .bot, .bot, .bot, .bot, .bot, .bot, .bot, .bot, .bot, .bot, .bot, .bot, .bot, .bot, .bot, .bot, .bot, .bot, .bot, .bot, .bot, .bot, .bot, .bot, .bot, .bot, .bot, .bot, .bot, .bot, .bot, .bot, .bot, .bot, .bot, .bot, .bot, .bot, .bot, .bot, .bot, .bot, .bot], [(56, .arr 36 3 (l9.map c36))]⟩) ?_ ?_
                · refine XL_cons rfl (X_of_Y0 rfl (E_move (I b8) rfl (by kernel_rfl))) ?_
                  refine XL_cons rfl (X_of_Y0 rfl (Y0_add64 (a := b8) (b := 1) rfl (by kernel_rfl) (by kernel_rfl))) ?_
                  refine XL_cons rfl (X_of_Y0 rfl (E_assign (I (w64 (b8 + 1))) rfl (by kernel_rfl))) ?_
                  refine XL_nil ?_
                  subst hb16
                  kernel_rfl
                exact ⟨n, Nat.lt_succ_self n, _, _,  by rfl, h⟩
              · have h := of_false h hc15
                refine V_skip ?_
                show V _ _ _ _
                obtain ⟨z17, hz17, h⟩ := of_bind h
                obtain ⟨f18, hf18, h⟩ := of_sI h
                refine V_sreg [true, false, false, true, true, true, true, false, false, false, false, false, false, false, false, false, false, false, false, false, false, false, false, false, false, false, false, false, false, false, false, false, false, false, false, false, false, false, false, false, false, false, false, false, false, false, false, false, false, false, false] [48, 56] (s1 := ⟨[I d1, .bot, .bot, .ow 56, I a2, I b8, .pt 48 0, .bot, .bot, .bot, .bot, .bot, .bot, .bot, .bot, .bot, .bot, .bot, .bot, .bot, .bot, .bot, .bot, .bot, .bot, .bot, .bot, .bot, .bot, .bot, .bot, .bot, .bot, .bot, .bot, .bot, .bot, .bot, .bot, .bot, .bot, .bot, .bot, .bot, .bot, .bot, .bot, .bot, .bot, .bot, .bot], [(48, .box [Ti a2, Ti b8, Ti f18]), (56, .arr 36 3 (l9.map c36))]⟩) ?_ ?_
                · refine XL_cons rfl (X_of_Y0 rfl (E_move (I a2) rfl (by kernel_rfl))) ?_
                  refine XL_cons rfl (X_of_Y0 rfl (E_move (I b8) rfl (by kernel_rfl))) ?_
                  refine XL_cons rfl (X_of_Y0 rfl (E_move (I b8) rfl (by kernel_rfl))) ?_
                  refine XL_cons rfl (X_of_Y0 rfl (E_move (I b8) rfl (by kernel_rfl))) ?_
                  refine XL_cons rfl (X_of_Y0 rfl (Y0_mul64 (a := b8) (b := b8) rfl (by kernel_rfl) (by kernel_rfl))) ?_
                  refine XL_cons rfl (X_of_Y0 rfl (E_move (I d1) rfl (by kernel_rfl))) ?_
                  refine XL_cons rfl (X_of_Y0 rfl (Y0_sub64 (a := w64 (b8 * b8)) (b := d1) rfl (by kernel_rfl) (by kernel_rfl))) ?_
                  refine XL_cons rfl (X_of_Y0 rfl (E_move (I a2) rfl (by kernel_rfl))) ?_
                  refine XL_cons rfl (X_of_Y0 rfl (Y0_mul64 (a := 4) (b := a2) rfl (by kernel_rfl) (by kernel_rfl))) ?_
                  refine XL_cons rfl (X_of_Y0 rfl (Y0_quo64 (a := w64 ((w64 (b8 * b8)) - d1)) (b := w64 (4 * a2)) rfl (by kernel_rfl) (by kernel_rfl) (nz_some hz17))) ?_
                  refine XL_cons rfl (X_of_Y0 rfl (Y0_build (cs := [Ti a2, Ti b8, Ti (w64 (Int.tdiv (w64 ((w64 (b8 * b8)) - d1)) (w64 (4 * a2))))]) pl36 bt36 rfl rfl (by kernel_rfl))) ?_
                  refine XL_cons rfl (X_of_Y1 rfl (Y1_alloc (z := zv36) rfl zf36 rfl)) ?_
                  refine XL_cons rfl (E_store (id := 48) (off := 0) (cs := [Ti 0, Ti 0, Ti 0]) (vc := [Ti a2, Ti b8, Ti (w64 (Int.tdiv (w64 ((w64 (b8 * b8)) - d1)) (w64 (4 * a2))))]) [Ti a2, Ti b8, Ti (w64 (Int.tdiv (w64 ((w64 (b8 * b8)) - d1)) (w64 (4 * a2))))] rfl rfl (by kernel_rfl) (by kernel_rfl) (by kernel_rfl) sz36 (Nat.le_of_ble_eq_true rfl) (by kernel_rfl)) ?_
                  refine XL_nil ?_
                  subst hf18
                  kernel_rfl
                obtain ⟨y19, hy19, h⟩ := of_bind h
                refine V_sreg [true, false, false, true, true, true, true, false, false, false, false, false, false, false, false, false, false, false, false, false, false, false, false, false, false, false, false, false, false, false, false, false, false, false, false, false, false, false, false, false, false, false, false, false, false, true, false, false, false, false, false] [48, 56] (s1 := ⟨[I d1, .bot, .bot, .ow 56, I a2, I b8, .pt 48 0, .bot, .bot, .bot, .bot, .bot, .bot, .bot, .bot, .bot, .bot, .bot, .bot, .bot, .bot, .bot, .bot, .bot, .bot, .bot, .bot, .bot, .bot, .bot, .bot, .bot, .bot, .bot, .bot, .bot, .bot, .bot, .bot, .bot, .bot, .bot, .bot, .bot, .bot, Bo y19, .bot, .bot, .bot, .bot, .bot], [(48, .box [Ti a2, Ti b8, Ti f18]), (56, .arr 36 3 (l9.map c36))]⟩) ?_ ?_
                · refine XL_cons rfl (X_of_Y0 rfl (E_loadn (cs := [Ti a2, Ti b8, Ti f18]) [Ti a2, Ti b8, Ti f18] wd36 rfl (by kernel_rfl) (Nat.le_of_ble_eq_true rfl) (by kernel_rfl))) ?_
                  refine XL_cons rfl (X_of_Y1 rfl (Y1_call (s_impl_Form_isReduced hy19) cf_impl_Form_isReduced rfl (by kernel_rfl))) ?_
                  refine XL_nil ?_
                  kernel_rfl
                refine V_cond rfl (fun hc20 => ?_) (fun hc20 => ?_)
                · have h := of_true h hc20
                  obtain ⟨u21, hu21, h⟩ := of_bind h
                  refine V_reg [true, false, false, true, true, true, false, false, false, false, false, false, false, false, false, false, false, false, false, false, false, false, false, false, false, false, false, false, false, false, false, false, false, false, false, false, false, false, false, false, false, false, false, false, false, false, false, false, false, false, false] [56] (s1 := ⟨[I d1, .bot, .bot, .ow 56, I a2, I b8, .bot, .bot, .bot, .bot, .bot, .bot, .bot, .bot, .bot, .bot, .bot, .bot, .bot, .bot, .bot, .bot, .bot, .bot, .bot, .bot, .bot, .bot, .bot, .bot, .bot, .bot, .bot, .bot, .bot, .bot, .bot, .bot, .bot, .bot, .bot, .bot, .bot, .bot, .bot, .bot, .bot, .bot, .bot, .bot, .bot], [(56, .arr 36 3 ((l9 ++ ([(a2, b8, f18)])).map c36))]⟩) ?_ ?_
                  · refine XL_cons rfl (X_of_Y0 rfl (E_move (.ow 56) rfl (by kernel_rfl))) ?_
                    refine XL_cons rfl (X_of_Y0 rfl (E_loadn (cs := [Ti a2, Ti b8, Ti f18]) [Ti a2, Ti b8, Ti f18] wd36 rfl (by kernel_rfl) (Nat.le_of_ble_eq_true rfl) (by kernel_rfl))) ?_
                    refine XL_cons rfl (X_of_Y1 rfl (Y1_bslice (z := zv36) (els := [(a2, b8, f18)].map c36) Try.underlying53 iz36 rfl (by decide) rfl (by kernel_rfl) rfl (by simp [c36]) (by decide) (by decide))) ?_
                    refine XL_cons rfl (X_appendM (c := c36) (xs := l9) (ys := [(a2, b8, f18)]) (id := 56) (z := zv36) rfl rfl Try.underlying53 izb36 rfl (by kernel_rfl) (by kernel_rfl) (by kernel_rfl) (fun _ => rfl) (by simp) (room_some hu21) (by decide)) ?_
                    refine XL_cons rfl (X_of_Y0 rfl (E_assign (.ow 56) rfl (by kernel_rfl))) ?_
                    refine XL_nil ?_
                    kernel_rfl
                  show V _ _ _ _
                  obtain ⟨b22, hb22, h⟩ := of_sI h
                  refine V_reg [true, false, false, true, true, true, false, false, false, false, false, false, false, false, false, false, false, false, false, false, false, false, false, false, false, false, false, false, false, false, false, false, false, false, false, false, false, false, false, false, false, false, false, false, false, false, false, false, false, false, false] [56] (s1 := ⟨[I d1, .bot, .bot, .ow 56, I a2, I b22, .bot, .bot, .bot, .bot, .bot, .bot, .bot, .bot, .bot, .bot, .bot, .bot, .bot, .bot, .bot, .bot, .bot, .bot, .bot, .bot, .bot, .bot, .bot, .bot, .bot, .bot, .bot, .bot, .bot, .bot, .bot, .bot, .bot, .bot, .bot, .bot, .bot, .bot, .bot, .bot, .bot, .bot, .bot, .bot, .bot], [(56, .arr 36 3 ((l9 ++ ([(a2, b8, f18)])).map c36))]⟩) ?_ ?_
                  · refine XL_cons rfl (X_of_Y0 rfl (E_move (I b8) rfl (by kernel_rfl))) ?_
                    refine XL_cons rfl (X_of_Y0 rfl (Y0_add64 (a := b8) (b := 1) rfl (by kernel_rfl) (by kernel_rfl))) ?_
                    refine XL_cons rfl (X_of_Y0 rfl (E_assign (I (w64 (b8 + 1))) rfl (by kernel_rfl))) ?_
                    refine XL_nil ?_
                    subst hb22
                    kernel_rfl
                  exact ⟨n, Nat.lt_succ_self n, _, _,  by rfl, h⟩
                · have h := of_false h hc20
                  refine V_skip ?_
                  show V _ _ _ _
                  obtain ⟨b23, hb23, h⟩ := of_sI h
                  refine V_reg [true, false, false, true, true, true, false, false, false, false, false, false, false, false, false, false, false, false, false, false, false, false, false, false, false, false, false, false, false, false, false, false, false, false, false, false, false, false, false, false, false, false, false, false, false, false, false, false, false, false, false] [56] (s1 := ⟨[I d1, .bot, .bot, .ow 56, I a2, I b23, .bot, .bot, .bot, .bot, .bot, .bot, .bot, .bot, .bot, .bot, .bot, .bot, .bot, .bot, .bot, .bot, .bot, .bot, .bot, .bot, .bot, .bot, .bot, .bot, .bot, .bot, .bot, .bot, .bot, .bot, .bot, .bot, .bot, .bot, .bot, .bot, .bot, .bot, .bot, .bot, .bot, .bot, .bot, .bot, .bot], [(56, .arr 36 3 (l9.map c36))]⟩) ?_ ?_
                  · refine XL_cons rfl (X_of_Y0 rfl (E_move (I b8) rfl (by kernel_rfl))) ?_
                    refine XL_cons rfl (X_of_Y0 rfl (Y0_add64 (a := b8) (b := 1) rfl (by kernel_rfl) (by kernel_rfl))) ?_
                    refine XL_cons rfl (X_of_Y0 rfl (E_assign (I (w64 (b8 + 1))) rfl (by kernel_rfl))) ?_
                    refine XL_nil ?_
                    subst hb23
                    kernel_rfl
                  exact ⟨n, Nat.lt_succ_self n, _, _,  by rfl, h⟩
            · have h := of_false h hc12
              refine V_exit ?_
              obtain rfl := some_inj h
              show St.keep _ _ _ = _
              rfl
        show V _ _ _ _
        obtain ⟨a24, ha24, h⟩ := of_sI h
        refine V_reg [true, false, false, true, true, false, false, false, false, false, false, false, false, false, false, false, false, false, false, false, false, false, false, false, false, false, false, false, false, false, false, false, false, false, false, false, false, false, false, false, false, false, false, false, false, false, false, false, false, false, false] [56] (s1 := ⟨[I d1, .bot, .bot, .ow 56, I a24, .bot, .bot, .bot, .bot, .bot, .bot, .bot, .bot, .bot, .bot, .bot, .bot, .bot, .bot, .bot, .bot, .bot, .bot, .bot, .bot, .bot, .bot, .bot, .bot, .bot, .bot, .bot, .bot, .bot, .bot, .bot, .bot, .bot, .bot, .bot, .bot, .bot, .bot, .bot, .bot, .bot, .bot, .bot, .bot, .bot, .bot], [(56, .arr 36 3 (o11.map c36))]⟩) ?_ ?_
        · refine XL_cons rfl (X_of_Y0 rfl (E_move (I a2) rfl (by kernel_rfl))) ?_
          refine XL_cons rfl (X_of_Y0 rfl (Y0_add64 (a := a2) (b := 1) rfl (by kernel_rfl) (by kernel_rfl))) ?_
          refine XL_cons rfl (X_of_Y0 rfl (E_assign (I (w64 (a2 + 1))) rfl (by kernel_rfl))) ?_
          refine XL_nil ?_
          subst ha24
          kernel_rfl
        exact ⟨n, Nat.lt_succ_self n, _, _,  by rfl, h⟩
      · have h := of_false h hc6
        refine V_exit ?_
        obtain rfl := some_inj h
        show St.keep _ _ _ = _
        rfl
  show V _ _ _ _
  refine V_sreg [false, false, true, false, false, false, false, false, false, false, false, false, false, false, false, false, false, false, false, false, false, false, false, false, false, false, false, false, false, false, false, false, false, false, false, false, false, false, false, false, false, false, false, false, false, false, false, false, false, false, false] [56] (s1 := ⟨[.bot, .bot, .ow 56, .bot, .bot, .bot, .bot, .bot, .bot, .bot, .bot, .bot, .bot, .bot, .bot, .bot, .bot, .bot, .bot, .bot, .bot, .bot, .bot, .bot, .bot, .bot, .bot, .bot, .bot, .bot, .bot, .bot, .bot, .bot, .bot, .bot, .bot, .bot, .bot, .bot, .bot, .bot, .bot, .bot, .bot, .bot, .bot, .bot, .bot, .bot, .bot], [(56, .arr 36 3 (o5.map c36))]⟩) ?_ ?_
  · refine XL_cons rfl (X_of_Y0 rfl (E_move (.ow 56) rfl (by kernel_rfl))) ?_
    refine XL_cons rfl (X_of_Y0 rfl (E_assign (.ow 56) rfl (by kernel_rfl))) ?_
    refine XL_nil ?_
    kernel_rfl
  refine V_ret ?_
  obtain rfl := some_inj h
  show Post _ _ _ _ _
  exact ⟨.inr rfl, rfl, rfl, rfl⟩
theorem cf_impl_abs : ∀ args w, (callFunc 117 args).run Try.prog w = .ok (.enter 117 args) w := run_callFunc Try.func117 (by kernel_rfl) (by kernel_rfl)
set_option maxRecDepth 100000 in
set_option maxHeartbeats 400000 in
theorem s_impl_abs {vn1 : Int} {r : Int} (h : r_impl_abs vn1 = some r) : CallS Try.prog 117 [I vn1] (I r) [] := by
  refine CallS_of_text (rs := [.t 2]) (vs := [.tmp 2]) Try.func117 rfl rfl (.cons rfl FitsL.nil) (by decide) 8 rfl ?_
  unfold r_impl_abs at h
  show V _ _ ⟨[I vn1, .bot, .bot, .bot, .bot, .bot, .bot, .bot], []⟩ _
  refine V_sreg [true, false, false, false, false, false, false, false] [] (s1 := ⟨[I vn1, .bot, .bot, .bot, .bot, .bot, .bot, .bot], []⟩) ?_ ?_
  · refine XL_cons rfl (X_of_Y0 rfl (E_assign (I 0) rfl (by kernel_rfl))) ?_
    refine XL_nil ?_
    kernel_rfl
  obtain ⟨t2, ht2, h⟩ := of_sI h
  refine V_sreg [false, false, true, false, false, false, false, false] [] (s1 := ⟨[.bot, .bot, I t2, .bot, .bot, .bot, .bot, .bot], []⟩) ?_ ?_
  · refine XL_cons rfl (X_of_Y0 rfl (E_move (I vn1) rfl (by kernel_rfl))) ?_
    refine XL_cons rfl (X_of_Y0 rfl (E_move (I vn1) rfl (by kernel_rfl))) ?_
    refine XL_cons rfl (X_of_Y0 rfl (Y0_max (a := vn1) (b := -9223372036854775807) rfl (by kernel_rfl) (by kernel_rfl))) ?_
    refine XL_cons rfl (X_of_Y0 rfl (Y0_neg64 (a := mxI vn1 (-9223372036854775807)) rfl (by kernel_rfl))) ?_
    refine XL_cons rfl (X_of_Y0 rfl (Y0_max (a := vn1) (b := w64 (0 - (mxI vn1 (-9223372036854775807)))) rfl (by kernel_rfl) (by kernel_rfl))) ?_
    refine XL_cons rfl (X_of_Y0 rfl (E_assign (I (mxI vn1 (w64 (0 - (mxI vn1 (-9223372036854775807)))))) rfl (by kernel_rfl))) ?_
    refine XL_nil ?_
    subst ht2
    kernel_rfl
  refine V_ret ?_
  obtain rfl := some_inj h
  show Post _ _ _ _ _
  exact ⟨.inr rfl, rfl, rfl, rfl⟩
theorem cf_impl_gcd : ∀ args w, (callFunc 137 args).run Try.prog w = .ok (.enter 137 args) w := run_callFunc Try.func137 (by kernel_rfl) (by kernel_rfl)
set_option maxRecDepth 100000 in
set_option maxHeartbeats 400000 in
theorem s_impl_gcd {a1 : Int} {b2 : Int} {r : Int} (h : r_impl_gcd a1 b2 = some r) : CallS Try.prog 137 [I a1, I b2] (I r) [] := by
  refine CallS_of_text (rs := [.t 4]) (vs := [.tmp 4]) Try.func137 rfl rfl (.cons rfl FitsL.nil) (by decide) 13 rfl ?_
  unfold r_impl_gcd at h
  show V _ _ ⟨[I a1, I b2, .bot, .bot, .bot, .bot, .bot, .bot, .bot, .bot, .bot, .bot, .bot], []⟩ _
  refine V_sreg [true, true, false, false, false, false, false, false, false, false, false, false, false] [] (s1 := ⟨[I a1, I b2, .bot, .bot, .bot, .bot, .bot, .bot, .bot, .bot, .bot, .bot, .bot], []⟩) ?_ ?_
  · refine XL_cons rfl (X_of_Y0 rfl (E_assign (I 0) rfl (by kernel_rfl))) ?_
    refine XL_nil ?_
    kernel_rfl
  refine V_seq ?_
  obtain ⟨o6, hLo6, h⟩ := of_bind h
  refine V_toK [true, false, false, false, false, false, false, false, false, false, false, false, false] [] (s1 := ⟨[I o6, .bot, .bot, .bot, .bot, .bot, .bot, .bot, .bot, .bot, .bot, .bot, .bot], []⟩) ?_ ?_
  · clear h
    refine V_block (V_loop (fun n s => ∃ (a3 : Int) (b4 : Int), s.keep [true, true, false, false, false, false, false, false, false, false, false, false, false] [] = (⟨[I a3, I b4, .bot, .bot, .bot, .bot, .bot, .bot, .bot, .bot, .bot, .bot, .bot], []⟩ : St) ∧ r_impl_gcd_L5 n a3 b4 = some o6) FU ⟨_, _,  by rfl, hLo6⟩ ?_)
    clear hLo6
    rintro n s ⟨a3, b4, hs, h⟩
    refine V_keep _ _ hs ?_
    clear hs
    cases n with
    | zero => cases h
    | succ n =>
      rw [r_impl_gcd_L5] at h
      refine V_seq ?_
      refine V_sreg [true, true, false, false, false, false, true, false, false, false, false, false, false] [] (s1 := ⟨[I a3, I b4, .bot, .bot, .bot, .bot, Bo (!eqI b4 0), .bot, .bot, .bot, .bot, .bot, .bot], []⟩) ?_ ?_
      · refine XL_cons rfl (X_of_Y0 rfl (E_move (I b4) rfl (by kernel_rfl))) ?_
        refine XL_cons rfl (X_of_Y0 rfl (Y0_new (k := .i64) (a := b4) (b := 0) rfl (by kernel_rfl) (by kernel_rfl))) ?_
        refine XL_nil ?_
        kernel_rfl
      refine V_cond rfl (fun hc7 => ?_) (fun hc7 => ?_)
      · have h := of_true h hc7
        refine V_skip ?_
        show V _ _ _ _
        refine V_block ?_
        obtain ⟨z8, hz8, h⟩ := of_bind h
        obtain ⟨b9, hb9, h⟩ := of_sI h
        refine V_dreg [0, 0, 0, 6, 3, 31] 6 [[.z, .b, .b, .b, .z, .z], [.b, .z, .b, .z, .z, .z], [.b, .b, .z, .z, .b, .z], [.b, .a, .a, .z, .b, .z], [.a, .a, .b, .b, .z, .z], [.a, .a, .a, .a, .a, .z]] [true, true, false, false, false, false, false, false, false, false, false, false, false] [] (s1 := ⟨[I b4, I b9, .bot, .bot, .bot, .bot, .bot, .bot, .bot, .bot, .bot, .bot, .bot], []⟩) (by kernel_rfl) (by kernel_rfl) ?_ ?_
        · refine DE_0 0 (I b4) (by kernel_rfl) rfl rfl rfl (gsat_none rfl) (by kernel_rfl) (E_move (I b4) rfl (by kernel_rfl)) 7 rfl ?_
          refine DE_0 1 (I a3) (by kernel_rfl) rfl rfl rfl (gsat_none rfl) (by kernel_rfl) (E_move (I a3) rfl (by kernel_rfl)) 8 rfl ?_
          refine DE_0 2 (I b4) (by kernel_rfl) rfl rfl rfl (gsat_none rfl) (by kernel_rfl) (E_move (I b4) rfl (by kernel_rfl)) 9 rfl ?_
          refine DE_0 3 (I (Int.tmod a3 b4)) (by kernel_rfl) rfl rfl rfl (gsat_none rfl) (by kernel_rfl) (Y0_rem (k := .i64) (a := a3) (b := b4) rfl (by kernel_rfl) (by kernel_rfl) (nz_some hz8)) 10 rfl ?_
          refine DE_0 4 (I b4) (by kernel_rfl) rfl rfl rfl (gsat_none rfl) (by kernel_rfl) (E_assign (I b4) rfl (by kernel_rfl)) 0 rfl ?_
          refine DE_0 5 (I (Int.tmod a3 b4)) (by kernel_rfl) rfl rfl rfl (gsat_none rfl) (by kernel_rfl) (E_assign (I (Int.tmod a3 b4)) rfl (by kernel_rfl)) 1 rfl ?_
          refine DL_nil (by kernel_rfl) ?_
          refine XL_nil ?_
          subst hb9
          kernel_rfl
        exact ⟨n, Nat.lt_succ_self n, _, _,  by rfl, h⟩
      · have h := of_false h hc7
        refine V_exit ?_
        obtain rfl := some_inj h
        show St.keep _ _ _ = _
        rfl
  show V _ _ _ _
  obtain ⟨y10, hy10, h⟩ := of_bind h
  refine V_sreg [false, false, false, false, true, false, false, false, false, false, false, false, false] [] (s1 := ⟨[.bot, .bot, .bot, .bot, I y10, .bot, .bot, .bot, .bot, .bot, .bot, .bot, .bot], []⟩) ?_ ?_
  · refine XL_cons rfl (X_of_Y0 rfl (E_move (I o6) rfl (by kernel_rfl))) ?_
    refine XL_cons rfl (X_of_Y1 rfl (Y1_call (s_impl_abs hy10) cf_impl_abs rfl (by kernel_rfl))) ?_
    refine XL_cons rfl (X_of_Y0 rfl (E_assign (I y10) rfl (by kernel_rfl))) ?_
    refine XL_nil ?_
    kernel_rfl
  refine V_ret ?_
  obtain rfl := some_inj h
  show Post _ _ _ _ _
  exact ⟨.inr rfl, rfl, rfl, rfl⟩
theorem cf_impl_Form_content : ∀ args w, (callFunc 103 args).run Try.prog w = .ok (.enter 103 args) w := run_callFunc Try.func103 (by kernel_rfl) (by kernel_rfl)
set_option maxRecDepth 100000 in
set_option maxHeartbeats 400000 in
theorem s_impl_Form_content {f1 : (Int × Int × Int)} {r : Int} (h : r_impl_Form_content f1 = some r) : CallS Try.prog 103 [.ag [Ti f1.1, Ti f1.2.1, Ti f1.2.2]] (I r) [] := by
  refine CallS_of_text (rs := [.t 2]) (vs := [.tmp 2]) Try.func103 rfl rfl (.cons rfl FitsL.nil) (by decide) 11 rfl ?_
  unfold r_impl_Form_content at h
  show V _ _ ⟨[.ag [Ti f1.1, Ti f1.2.1, Ti f1.2.2], .bot, .bot, .bot, .bot, .bot, .bot, .bot, .bot, .bot, .bot], []⟩ _
  refine V_sreg [false, true, false, false, false, false, false, false, false, false, false] [8] (s1 := ⟨[.bot, .pt 8 0, .bot, .bot, .bot, .bot, .bot, .bot, .bot, .bot, .bot], [(8, .box [Ti f1.1, Ti f1.2.1, Ti f1.2.2])]⟩) ?_ ?_
  · refine XL_cons rfl (X_of_Y1 rfl (Y1_box (cs := [Ti f1.1, Ti f1.2.1, Ti f1.2.2]) rfl (by kernel_rfl))) ?_
    refine XL_cons rfl (X_of_Y0 rfl (E_assign (I 0) rfl (by kernel_rfl))) ?_
    refine XL_nil ?_
    kernel_rfl
  obtain ⟨y2, hy2, h⟩ := of_bind h
  obtain ⟨y3, hy3, h⟩ := of_bind h
  refine V_sdreg [0, 1, 0, 4, 0, 16, 60, 127, 255] 9 [[.z, .z, .b, .b, .b, .b, .b, .z, .z], [.a, .z, .b, .b, .b, .b, .b, .z, .z], [.b, .b, .z, .z, .b, .b, .z, .z, .z], [.b, .b, .a, .z, .b, .b, .z, .z, .z], [.b, .b, .b, .b, .z, .z, .z, .z, .z], [.b, .b, .b, .b, .a, .z, .z, .z, .z], [.b, .b, .a, .a, .a, .a, .z, .z, .z], [.a, .a, .a, .a, .a, .a, .a, .z, .z], [.a, .a, .a, .a, .a, .a, .a, .a, .z]] [false, false, true, false, false, false, false, false, false, false, false] [] (s1 := ⟨[.bot, .bot, I y3, .bot, .bot, .bot, .bot, .bot, .bot, .bot, .bot], []⟩) (by kernel_rfl) (by kernel_rfl) ?_ ?_
  · refine DE_0 0 (.pt 8 0) (by kernel_rfl) rfl rfl rfl (gsat_none rfl) (by kernel_rfl) (E_field (.pt 8 0) Try.underlying36 rfl sz3 rfl (by kernel_rfl) (by intro hh; cases hh)) 3 rfl ?_
    refine DE_0 1 (I f1.1) (by kernel_rfl) rfl rfl rfl (gsat_none rfl) (by kernel_rfl) (Y0_load1 (c := Ti f1.1) (cs := [Ti f1.2.1, Ti f1.2.2]) sc3 rfl (by kernel_rfl)) 4 rfl ?_
    refine DE_0 2 (.pt 8 1) (by kernel_rfl) rfl rfl rfl (gsat_none rfl) (by kernel_rfl) (E_field (.pt 8 1) Try.underlying36 rfl sz3 rfl (by kernel_rfl) (by intro hh; cases hh)) 5 rfl ?_
    refine DE_0 3 (I f1.2.1) (by kernel_rfl) rfl rfl rfl (gsat_none rfl) (by kernel_rfl) (Y0_load1 (c := Ti f1.2.1) (cs := [Ti f1.2.2]) sc3 rfl (by kernel_rfl)) 6 rfl ?_
    refine DE_0 4 (.pt 8 2) (by kernel_rfl) rfl rfl rfl (gsat_none rfl) (by kernel_rfl) (E_field (.pt 8 2) Try.underlying36 rfl sz3 rfl (by kernel_rfl) (by intro hh; cases hh)) 7 rfl ?_
    refine DE_0 5 (I f1.2.2) (by kernel_rfl) rfl rfl rfl (gsat_none rfl) (by kernel_rfl) (Y0_load1 (c := Ti f1.2.2) (cs := []) sc3 rfl (by kernel_rfl)) 8 rfl ?_
    refine DE_1 6 (by kernel_rfl) rfl rfl rfl (gsat_none rfl) (Y1_call (s_impl_gcd hy2) cf_impl_gcd rfl (by kernel_rfl)) rfl rfl rfl 9 rfl ?_
    refine DE_1 7 (by kernel_rfl) rfl rfl rfl (gsat_none rfl) (Y1_call (s_impl_gcd hy3) cf_impl_gcd rfl (by kernel_rfl)) rfl rfl rfl 10 rfl ?_
    refine DE_0 8 (I y3) (by kernel_rfl) rfl rfl rfl (gsat_none rfl) (by kernel_rfl) (E_assign (I y3) rfl (by kernel_rfl)) 2 rfl ?_
    refine DL_nil (by kernel_rfl) ?_
    refine XL_nil ?_
    kernel_rfl
  refine V_ret ?_
  obtain rfl := some_inj h
  show Post _ _ _ _ _
  exact ⟨.inr rfl, rfl, rfl, rfl⟩
theorem cf_impl_primitiveOf : ∀ args w, (callFunc 115 args).run Try.prog w = .ok (.enter 115 args) w := run_callFunc Try.func115 (by kernel_rfl) (by kernel_rfl)
set_option maxRecDepth 100000 in
set_option maxHeartbeats 400000 in
theorem s_impl_primitiveOf {forms1 : List ((Int × Int × Int))} {r : List ((Int × Int × Int))} (h : r_impl_primitiveOf forms1 = some r) : CallS Try.prog 115 [.c (.sl (forms1.map c36))] (.ow 0) [(0, .arr 36 3 (r.map c36))] := by
  refine CallS_of_text (rs := [.t 2]) (vs := [.tmp 2]) Try.func115 rfl rfl (.cons rfl FitsL.nil) (by decide) 22 rfl ?_
  unfold r_impl_primitiveOf at h
  show V _ _ ⟨[.c (.sl (forms1.map c36)), .bot, .bot, .bot, .bot, .bot, .bot, .bot, .bot, .bot, .bot, .bot, .bot, .bot, .bot, .bot, .bot, .bot, .bot, .bot, .bot, .bot], []⟩ _
  refine V_sreg [true, false, false, false, false, false, false, false, false, false, false, false, false, false, false, false, false, false, false, false, false, false] [] (s1 := ⟨[.c (.sl (forms1.map c36)), .bot, .bot, .bot, .bot, .bot, .bot, .bot, .bot, .bot, .bot, .bot, .bot, .bot, .bot, .bot, .bot, .bot, .bot, .bot, .bot, .bot], []⟩) ?_ ?_
  · refine XL_cons rfl (X_of_Y1 rfl (Y1_nil (e := 36) 3 (by decide) (.inl rfl))) ?_
    refine XL_nil ?_
    kernel_rfl
  refine V_sreg [true, false, false, true, false, false, false, false, false, false, false, false, false, false, false, false, false, false, false, false, false, false] [48] (s1 := ⟨[.c (.sl (forms1.map c36)), .bot, .bot, .ow 48, .bot, .bot, .bot, .bot, .bot, .bot, .bot, .bot, .bot, .bot, .bot, .bot, .bot, .bot, .bot, .bot, .bot, .bot], [(48, .arr 36 3 ((([] : List ((Int × Int × Int)))).map c36))]⟩) ?_ ?_
  · refine XL_cons rfl (X_of_Y1 rfl (Y1_bslice0 Try.underlying53 sz36 (by decide) rfl rfl)) ?_
    refine XL_cons rfl (X_of_Y0 rfl (E_assign (.ow 48) rfl (by kernel_rfl))) ?_
    refine XL_nil ?_
    kernel_rfl
  refine V_seq ?_
  refine V_sreg [false, false, false, true, false, false, false, true, true, true, false, false, false, false, false, false, false, false, false, false, false, false] [48] (s1 := ⟨[.bot, .bot, .bot, .ow 48, .bot, .bot, .bot, .c (.sl (forms1.map c36)), I ((forms1.length : Int)), I 0, .bot, .bot, .bot, .bot, .bot, .bot, .bot, .bot, .bot, .bot, .bot, .bot], [(48, .arr 36 3 ((([] : List ((Int × Int × Int)))).map c36))]⟩) ?_ ?_
  · refine XL_cons rfl (X_of_Y0 rfl (E_move (.c (.sl (forms1.map c36))) rfl (by kernel_rfl))) ?_
    refine XL_cons rfl (X_of_Y0 rfl (Y0_lenM (c := c36) (xs := forms1) Try.underlying53 rfl (by kernel_rfl))) ?_
    refine XL_cons rfl (X_of_Y0 rfl (E_move (I 0) rfl (by kernel_rfl))) ?_
    refine XL_nil ?_
    kernel_rfl
  obtain ⟨o5, hLo5, h⟩ := of_bind h
  refine V_toK [false, false, false, true, false, false, false, false, false, false, false, false, false, false, false, false, false, false, false, false, false, false] [48] (s1 := ⟨[.bot, .bot, .bot, .ow 48, .bot, .bot, .bot, .bot, .bot, .bot, .bot, .bot, .bot, .bot, .bot, .bot, .bot, .bot, .bot, .bot, .bot, .bot], [(48, .arr 36 3 (o5.map c36))]⟩) ?_ ?_
  · clear h
    refine V_block (V_loop (fun n s => ∃ (t2 : Int) (l3 : List ((Int × Int × Int))), s.keep [false, false, false, true, false, false, false, true, true, true, false, false, false, false, false, false, false, false, false, false, false, false] [48] = (⟨[.bot, .bot, .bot, .ow 48, .bot, .bot, .bot, .c (.sl (forms1.map c36)), I ((forms1.length : Int)), I t2, .bot, .bot, .bot, .bot, .bot, .bot, .bot, .bot, .bot, .bot, .bot, .bot], [(48, .arr 36 3 (l3.map c36))]⟩ : St) ∧ r_impl_primitiveOf_L4 forms1 n t2 l3 = some o5) FU ⟨_, _,  by rfl, hLo5⟩ ?_)
    clear hLo5
    rintro n s ⟨t2, l3, hs, h⟩
    refine V_keep _ _ hs ?_
    clear hs
    cases n with
    | zero => cases h
    | succ n =>
      rw [r_impl_primitiveOf_L4] at h
      refine V_sreg [false, false, false, true, false, false, false, true, true, true, true, false, false, false, false, false, false, false, false, false, false, false] [48] (s1 := ⟨[.bot, .bot, .bot, .ow 48, .bot, .bot, .bot, .c (.sl (forms1.map c36)), I ((forms1.length : Int)), I t2, Bo (ltI t2 ((forms1.length : Int))), .bot, .bot, .bot, .bot, .bot, .bot, .bot, .bot, .bot, .bot, .bot], [(48, .arr 36 3 (l3.map c36))]⟩) ?_ ?_
      · refine XL_cons rfl (X_of_Y0 rfl (Y0_ltw (k := .i64) (a := t2) (b := (forms1.length : Int)) rfl (by kernel_rfl) (by kernel_rfl))) ?_
        refine XL_nil ?_
        kernel_rfl
      refine V_seq ?_
      refine V_cond rfl (fun hc6 => ?_) (fun hc6 => ?_)
      · have h := of_true h hc6
        refine V_skip ?_
        show V _ _ _ _
        refine V_seq ?_
        refine V_block ?_
        obtain ⟨e7, he7, h⟩ := of_bind h
        refine V_sreg [false, false, false, true, false, true, false, true, true, true, false, false, false, false, false, false, false, false, false, false, false, false] [40, 48] (s1 := ⟨[.bot, .bot, .bot, .ow 48, .bot, .pt 40 0, .bot, .c (.sl (forms1.map c36)), I ((forms1.length : Int)), I t2, .bot, .bot, .bot, .bot, .bot, .bot, .bot, .bot, .bot, .bot, .bot, .bot], [(40, .box [Ti e7.1, Ti e7.2.1, Ti e7.2.2]), (48, .arr 36 3 (l3.map c36))]⟩) ?_ ?_
        · refine XL_cons rfl (X_of_Y0 rfl (Y0_idxM (c := c36) (xs := forms1) (v := e7) (n := t2) Try.underlying53 sz36 rfl (by kernel_rfl) (by kernel_rfl) he7)) ?_
          refine XL_cons rfl (X_of_Y0 rfl (E_loadn (cs := [Ti e7.1, Ti e7.2.1, Ti e7.2.2]) [Ti e7.1, Ti e7.2.1, Ti e7.2.2] wd36 rfl (by kernel_rfl) (Nat.le_of_ble_eq_true rfl) (by kernel_rfl))) ?_
          refine XL_cons rfl (X_of_Y1 rfl (Y1_alloc (z := zv36) rfl zf36 rfl)) ?_
          refine XL_cons rfl (E_store (id := 40) (off := 0) (cs := [Ti 0, Ti 0, Ti 0]) (vc := [Ti e7.1, Ti e7.2.1, Ti e7.2.2]) [Ti e7.1, Ti e7.2.1, Ti e7.2.2] rfl rfl (by kernel_rfl) (by kernel_rfl) (by kernel_rfl) sz36 (Nat.le_of_ble_eq_true rfl) (by kernel_rfl)) ?_
          refine XL_nil ?_
          kernel_rfl
        obtain ⟨y8, hy8, h⟩ := of_bind h
        refine V_sreg [false, false, false, true, false, true, false, true, true, true, false, false, false, false, false, true, false, false, false, false, false, false] [40, 48] (s1 := ⟨[.bot, .bot, .bot, .ow 48, .bot, .pt 40 0, .bot, .c (.sl (forms1.map c36)), I ((forms1.length : Int)), I t2, .bot, .bot, .bot, .bot, .bot, Bo (eqI y8 1), .bot, .bot, .bot, .bot, .bot, .bot], [(40, .box [Ti e7.1, Ti e7.2.1, Ti e7.2.2]), (48, .arr 36 3 (l3.map c36))]⟩) ?_ ?_
        · refine XL_cons rfl (X_of_Y0 rfl (E_loadn (cs := [Ti e7.1, Ti e7.2.1, Ti e7.2.2]) [Ti e7.1, Ti e7.2.1, Ti e7.2.2] wd36 rfl (by kernel_rfl) (Nat.le_of_ble_eq_true rfl) (by kernel_rfl))) ?_
          refine XL_cons rfl (X_of_Y1 rfl (Y1_call (s_impl_Form_content hy8) cf_impl_Form_content rfl (by kernel_rfl))) ?_
          refine XL_cons rfl (X_of_Y0 rfl (Y0_eqw (k := .i64) (a := y8) (b := 1) rfl (by kernel_rfl) (by kernel_rfl))) ?_
          refine XL_nil ?_
          kernel_rfl
        refine V_cond rfl (fun hc9 => ?_) (fun hc9 => ?_)
        · have h := of_true h hc9
          obtain ⟨u10, hu10, h⟩ := of_bind h
          refine V_reg [false, false, false, true, false, false, false, true, true, true, false, false, false, false, false, false, false, false, false, false, false, false] [48] (s1 := ⟨[.bot, .bot, .bot, .ow 48, .bot, .bot, .bot, .c (.sl (forms1.map c36)), I ((forms1.length : Int)), I t2, .bot, .bot, .bot, .bot, .bot, .bot, .bot, .bot, .bot, .bot, .bot, .bot], [(48, .arr 36 3 ((l3 ++ ([e7])).map c36))]⟩) ?_ ?_
          · refine XL_cons rfl (X_of_Y0 rfl (E_move (.ow 48) rfl (by kernel_rfl))) ?_
            refine XL_cons rfl (X_of_Y0 rfl (E_loadn (cs := [Ti e7.1, Ti e7.2.1, Ti e7.2.2]) [Ti e7.1, Ti e7.2.1, Ti e7.2.2] wd36 rfl (by kernel_rfl) (Nat.le_of_ble_eq_true rfl) (by kernel_rfl))) ?_
            refine XL_cons rfl (X_of_Y1 rfl (Y1_bslice (z := zv36) (els := [e7].map c36) Try.underlying53 iz36 rfl (by decide) rfl (by kernel_rfl) rfl (by simp [c36]) (by decide) (by decide))) ?_
            refine XL_cons rfl (X_appendM (c := c36) (xs := l3) (ys := [e7]) (id := 48) (z := zv36) rfl rfl Try.underlying53 izb36 rfl (by kernel_rfl) (by kernel_rfl) (by kernel_rfl) (fun _ => rfl) (by simp) (room_some hu10) (by decide)) ?_
            refine XL_cons rfl (X_of_Y0 rfl (E_assign (.ow 48) rfl (by kernel_rfl))) ?_
            refine XL_nil ?_
            kernel_rfl
          show V _ _ _ _
          obtain ⟨t11, ht11, h⟩ := of_sI h
          refine V_reg [false, false, false, true, false, false, false, true, true, true, false, false, false, false, false, false, false, false, false, false, false, false] [48] (s1 := ⟨[.bot, .bot, .bot, .ow 48, .bot, .bot, .bot, .c (.sl (forms1.map c36)), I ((forms1.length : Int)), I t11, .bot, .bot, .bot, .bot, .bot, .bot, .bot, .bot, .bot, .bot, .bot, .bot], [(48, .arr 36 3 ((l3 ++ ([e7])).map c36))]⟩) ?_ ?_
          · refine XL_cons rfl (X_of_Y0 rfl (Y0_add64 (a := t2) (b := 1) rfl (by kernel_rfl) (by kernel_rfl))) ?_
            refine XL_cons rfl (X_of_Y0 rfl (E_move (I (w64 (t2 + 1))) rfl (by kernel_rfl))) ?_
            refine XL_nil ?_
            subst ht11
            kernel_rfl
          exact ⟨n, Nat.lt_succ_self n, _, _,  by rfl, h⟩
        · have h := of_false h hc9
          refine V_skip ?_
          show V _ _ _ _
          obtain ⟨t12, ht12, h⟩ := of_sI h
          refine V_reg [false, false, false, true, false, false, false, true, true, true, false, false, false, false, false, false, false, false, false, false, false, false] [48] (s1 := ⟨[.bot, .bot, .bot, .ow 48, .bot, .bot, .bot, .c (.sl (forms1.map c36)), I ((forms1.length : Int)), I t12, .bot, .bot, .bot, .bot, .bot, .bot, .bot, .bot, .bot, .bot, .bot, .bot], [(48, .arr 36 3 (l3.map c36))]⟩) ?_ ?_
          · refine XL_cons rfl (X_of_Y0 rfl (Y0_add64 (a := t2) (b := 1) rfl (by kernel_rfl) (by kernel_rfl))) ?_
            refine XL_cons rfl (X_of_Y0 rfl (E_move (I (w64 (t2 + 1))) rfl (by kernel_rfl))) ?_
            refine XL_nil ?_
            subst ht12
            kernel_rfl
          exact ⟨n, Nat.lt_succ_self n, _, _,  by rfl, h⟩
      · have h := of_false h hc6
        refine V_exit ?_
        obtain rfl := some_inj h
        show St.keep _ _ _ = _
        rfl
  show V _ _ _ _
  refine V_sreg [false, false, true, false, false, false, false, false, false, false, false, false, false, false, false, false, false, false, false, false, false, false] [48] (s1 := ⟨[.bot, .bot, .ow 48, .bot, .bot, .bot, .bot, .bot, .bot, .bot, .bot, .bot, .bot, .bot, .bot, .bot, .bot, .bot, .bot, .bot, .bot, .bot], [(48, .arr 36 3 (o5.map c36))]⟩) ?_ ?_
  · refine XL_cons rfl (X_of_Y0 rfl (E_move (.ow 48) rfl (by kernel_rfl))) ?_
    refine XL_cons rfl (X_of_Y0 rfl (E_assign (.ow 48) rfl (by kernel_rfl))) ?_
    refine XL_nil ?_
    kernel_rfl
  refine V_ret ?_
  obtain rfl := some_inj h
  show Post _ _ _ _ _
  exact ⟨.inr rfl, rfl, rfl, rfl⟩
theorem cf_impl_reducedForms : ∀ args w, (callFunc 73 args).run Try.prog w = .ok (.enter 73 args) w := run_callFunc Try.func73 (by kernel_rfl) (by kernel_rfl)
set_option maxRecDepth 100000 in
set_option maxHeartbeats 400000 in
theorem s_impl_reducedForms {d1 : Int} {r : List ((Int × Int × Int))} (h : r_impl_reducedForms d1 = some r) : CallS Try.prog 73 [I d1] (.ow 0) [(0, .arr 36 3 (r.map c36))] := by
  refine CallS_of_text (rs := [.t 2]) (vs := [.tmp 2]) Try.func73 rfl rfl (.cons rfl FitsL.nil) (by decide) 6 rfl ?_
  unfold r_impl_reducedForms at h
  show V _ _ ⟨[I d1, .bot, .bot, .bot, .bot, .bot], []⟩ _
  refine V_sreg [true, false, false, false, false, false] [] (s1 := ⟨[I d1, .bot, .bot, .bot, .bot, .bot], []⟩) ?_ ?_
  · refine XL_cons rfl (X_of_Y1 rfl (Y1_nil (e := 36) 3 (by decide) (.inl rfl))) ?_
    refine XL_nil ?_
    kernel_rfl
  obtain ⟨y2, hy2, h⟩ := of_bind h
  obtain ⟨y3, hy3, h⟩ := of_bind h
  refine V_sreg [false, false, true, false, false, false] [40] (s1 := ⟨[.bot, .bot, .ow 40, .bot, .bot, .bot], [(40, .arr 36 3 (y3.map c36))]⟩) ?_ ?_
  · refine XL_cons rfl (X_of_Y0 rfl (E_move (I d1) rfl (by kernel_rfl))) ?_
    refine XL_cons rfl (X_of_Y1 rfl (Y1_call (s_impl_allReduced hy2) cf_impl_allReduced rfl (by kernel_rfl))) ?_
    refine XL_cons rfl (X_of_Y1 rfl (Y1_callS (s_impl_primitiveOf hy3) cf_impl_primitiveOf rfl (by kernel_rfl) rfl (flatE_cons (fun _ => rfl) rfl))) ?_
    refine XL_cons rfl (X_of_Y0 rfl (E_assign (.ow 40) rfl (by kernel_rfl))) ?_
    refine XL_nil ?_
    kernel_rfl
  refine V_ret ?_
  obtain rfl := some_inj h
  show Post _ _ _ _ _
  exact ⟨.inr rfl, rfl, rfl, rfl⟩
theorem cf_impl_formsLike : ∀ args w, (callFunc 132 args).run Try.prog w = .ok (.enter 132 args) w := run_callFunc Try.func132 (by kernel_rfl) (by kernel_rfl)
set_option maxRecDepth 100000 in
set_option maxHeartbeats 400000 in
theorem s_impl_formsLike {d1 : Int} {so2 : (((Int × Int × Int)) → Option Bool)} {fso2 : FuncId} {cso2 : List (List Tr)} (kso2 : ∀ args w, (callFunc fso2 args).run Try.prog w = .ok (.enter fso2 args) w) (hso2 : ∀ {x0 : (Int × Int × Int)} {r : Bool}, so2 x0 = some r → CallS Try.prog fso2 ([.ag [Ti x0.1, Ti x0.2.1, Ti x0.2.2]] ++ cso2.map AV.pe) (Bo r) []) {r : List ((Int × Int × Int))} (h : r_impl_formsLike d1 so2 = some r) : CallS Try.prog 132 [I d1, .fn fso2 cso2] (.ow 0) [(0, .arr 36 3 (r.map c36))] := by
  refine CallS_of_text (rs := [.t 4]) (vs := [.tmp 4]) Try.func132 rfl rfl (.cons rfl FitsL.nil) (by decide) 25 rfl ?_
  unfold r_impl_formsLike at h
  show V _ _ ⟨[I d1, .fn fso2 cso2, .bot, .bot, .bot, .bot, .bot, .bot, .bot, .bot, .bot, .bot, .bot, .bot, .bot, .bot, .bot, .bot, .bot, .bot, .bot, .bot, .bot, .bot, .bot], []⟩ _
  refine V_sreg [true, true, false, false, false, false, false, false, false, false, false, false, false, false, false, false, false, false, false, false, false, false, false, false, false] [] (s1 := ⟨[I d1, .fn fso2 cso2, .bot, .bot, .bot, .bot, .bot, .bot, .bot, .bot, .bot, .bot, .bot, .bot, .bot, .bot, .bot, .bot, .bot, .bot, .bot, .bot, .bot, .bot, .bot], []⟩) ?_ ?_
  · refine XL_cons rfl (X_of_Y1 rfl (Y1_nil (e := 36) 3 (by decide) (.inl rfl))) ?_
    refine XL_nil ?_
    kernel_rfl
  refine V_sreg [true, true, false, false, false, true, false, false, false, false, false, false, false, false, false, false, false, false, false, false, false, false, false, false, false] [64] (s1 := ⟨[I d1, .fn fso2 cso2, .bot, .bot, .bot, .ow 64, .bot, .bot, .bot, .bot, .bot, .bot, .bot, .bot, .bot, .bot, .bot, .bot, .bot, .bot, .bot, .bot, .bot, .bot, .bot], [(64, .arr 36 3 ((([] : List ((Int × Int × Int)))).map c36))]⟩) ?_ ?_
  · refine XL_cons rfl (X_of_Y1 rfl (Y1_bslice0 Try.underlying53 sz36 (by decide) rfl rfl)) ?_
    refine XL_cons rfl (X_of_Y0 rfl (E_assign (.ow 64) rfl (by kernel_rfl))) ?_
    refine XL_nil ?_
    kernel_rfl
  refine V_seq ?_
  obtain ⟨y3, hy3, h⟩ := of_bind h
  refine V_sreg [false, true, false, false, false, true, false, false, false, false, true, true, true, false, false, false, false, false, false, false, false, false, false, false, false] [80, 64] (s1 := ⟨[.bot, .fn fso2 cso2, .bot, .bot, .bot, .ow 64, .bot, .bot, .bot, .bot, .ow 80, I ((y3.length : Int)), I 0, .bot, .bot, .bot, .bot, .bot, .bot, .bot, .bot, .bot, .bot, .bot, .bot], [(80, .arr 36 3 (y3.map c36)), (64, .arr 36 3 ((([] : List ((Int × Int × Int)))).map c36))]⟩) ?_ ?_
  · refine XL_cons rfl (X_of_Y0 rfl (E_move (I d1) rfl (by kernel_rfl))) ?_
    refine XL_cons rfl (X_of_Y1 rfl (Y1_call (s_impl_reducedForms hy3) cf_impl_reducedForms rfl (by kernel_rfl))) ?_
    refine XL_cons rfl (X_of_Y0 rfl (Y0_lenM (c := c36) (xs := y3) Try.underlying53 rfl (by kernel_rfl))) ?_
    refine XL_cons rfl (X_of_Y0 rfl (E_move (I 0) rfl (by kernel_rfl))) ?_
    refine XL_nil ?_
    kernel_rfl
  obtain ⟨o7, hLo7, h⟩ := of_bind h
  refine V_toK [false, false, false, false, false, true, false, false, false, false, false, false, false, false, false, false, false, false, false, false, false, false, false, false, false] [64] (s1 := ⟨[.bot, .bot, .bot, .bot, .bot, .ow 64, .bot, .bot, .bot, .bot, .bot, .bot, .bot, .bot, .bot, .bot, .bot, .bot, .bot, .bot, .bot, .bot, .bot, .bot, .bot], [(64, .arr 36 3 (o7.map c36))]⟩) ?_ ?_
  · clear h
    refine V_block (V_loop (fun n s => ∃ (t4 : Int) (l5 : List ((Int × Int × Int))), s.keep [false, true, false, false, false, true, false, false, false, false, true, true, true, false, false, false, false, false, false, false, false, false, false, false, false] [80, 64] = (⟨[.bot, .fn fso2 cso2, .bot, .bot, .bot, .ow 64, .bot, .bot, .bot, .bot, .ow 80, I ((y3.length : Int)), I t4, .bot, .bot, .bot, .bot, .bot, .bot, .bot, .bot, .bot, .bot, .bot, .bot], [(80, .arr 36 3 (y3.map c36)), (64, .arr 36 3 (l5.map c36))]⟩ : St) ∧ r_impl_formsLike_L6 so2 y3 n t4 l5 = some o7) FU ⟨_, _,  by rfl, hLo7⟩ ?_)
    clear hLo7
    rintro n s ⟨t4, l5, hs, h⟩
    refine V_keep _ _ hs ?_
    clear hs
    cases n with
    | zero => cases h
    | succ n =>
      rw [r_impl_formsLike_L6] at h
      refine V_sreg [false, true, false, false, false, true, false, false, false, false, true, true, true, true, false, false, false, false, false, false, false, false, false, false, false] [80, 64] (s1 := ⟨[.bot, .fn fso2 cso2, .bot, .bot, .bot, .ow 64, .bot, .bot, .bot, .bot, .ow 80, I ((y3.length : Int)), I t4, Bo (ltI t4 ((y3.length : Int))), .bot, .bot, .bot, .bot, .bot, .bot, .bot, .bot, .bot, .bot, .bot], [(80, .arr 36 3 (y3.map c36)), (64, .arr 36 3 (l5.map c36))]⟩) ?_ ?_
      · refine XL_cons rfl (X_of_Y0 rfl (Y0_ltw (k := .i64) (a := t4) (b := (y3.length : Int)) rfl (by kernel_rfl) (by kernel_rfl))) ?_
        refine XL_nil ?_
        kernel_rfl
      refine V_seq ?_
      refine V_cond rfl (fun hc8 => ?_) (fun hc8 => ?_)
      · have h := of_true h hc8
        refine V_skip ?_
        show V _ _ _ _
        refine V_seq ?_
        refine V_block ?_
        obtain ⟨e9, he9, h⟩ := of_bind h
        obtain ⟨e10, he10, h⟩ := of_bind h
        refine V_sreg [false, true, false, false, false, true, false, true, false, false, true, true, true, false, false, false, false, false, false, false, false, false, false, false, false] [56, 80, 64] (s1 := ⟨[.bot, .fn fso2 cso2, .bot, .bot, .bot, .ow 64, .bot, .pt 56 0, .bot, .bot, .ow 80, I ((y3.length : Int)), I t4, .bot, .bot, .bot, .bot, .bot, .bot, .bot, .bot, .bot, .bot, .bot, .bot], [(56, .box [Ti e10.1, Ti e10.2.1, Ti e10.2.2]), (80, .arr 36 3 (y3.map c36)), (64, .arr 36 3 (l5.map c36))]⟩) ?_ ?_
        · refine XL_cons rfl (X_of_Y0 rfl (Y0_idxoM (c := c36) (xs := y3) (v := e9) (id := 80) (T := 36) (sz := 3) (n := t4) Try.underlying53 sz36 rfl (by kernel_rfl) (by kernel_rfl) (by kernel_rfl) he9)) ?_
          refine XL_cons rfl (X_of_Y0 rfl (E_loadon (c := c36) (xs := y3) (v := e10) (id := 80) (sz := 3) (T := 36) (off := 0) (n := t4) [Ti e10.1, Ti e10.2.1, Ti e10.2.2] wd36 rfl (by kernel_rfl) (by kernel_rfl) he10 (Nat.le_of_ble_eq_true rfl) (by kernel_rfl))) ?_
          refine XL_cons rfl (X_of_Y1 rfl (Y1_alloc (z := zv36) rfl zf36 rfl)) ?_
          refine XL_cons rfl (E_store (id := 56) (off := 0) (cs := [Ti 0, Ti 0, Ti 0]) (vc := [Ti e10.1, Ti e10.2.1, Ti e10.2.2]) [Ti e10.1, Ti e10.2.1, Ti e10.2.2] rfl rfl (by kernel_rfl) (by kernel_rfl) (by kernel_rfl) sz36 (Nat.le_of_ble_eq_true rfl) (by kernel_rfl)) ?_
          refine XL_nil ?_
          kernel_rfl
        obtain ⟨y11, hy11, h⟩ := of_bind h
        refine V_sreg [false, true, false, false, false, true, false, true, false, false, true, true, true, false, false, false, false, false, true, false, false, false, false, false, false] [56, 80, 64] (s1 := ⟨[.bot, .fn fso2 cso2, .bot, .bot, .bot, .ow 64, .bot, .pt 56 0, .bot, .bot, .ow 80, I ((y3.length : Int)), I t4, .bot, .bot, .bot, .bot, .bot, Bo y11, .bot, .bot, .bot, .bot, .bot, .bot], [(56, .box [Ti e10.1, Ti e10.2.1, Ti e10.2.2]), (80, .arr 36 3 (y3.map c36)), (64, .arr 36 3 (l5.map c36))]⟩) ?_ ?_
        · refine XL_cons rfl (X_of_Y0 rfl (E_move (.fn fso2 cso2) rfl (by kernel_rfl))) ?_
          refine XL_cons rfl (X_of_Y0 rfl (E_loadn (cs := [Ti e10.1, Ti e10.2.1, Ti e10.2.2]) [Ti e10.1, Ti e10.2.1, Ti e10.2.2] wd36 rfl (by kernel_rfl) (Nat.le_of_ble_eq_true rfl) (by kernel_rfl))) ?_
          refine XL_cons rfl (X_of_Y1 rfl (Y1_callF (hso2 hy11) kso2 rfl (by kernel_rfl) (by kernel_rfl))) ?_
          refine XL_nil ?_
          kernel_rfl
        refine V_cond rfl (fun hc12 => ?_) (fun hc12 => ?_)
        · have h := of_true h hc12
          obtain ⟨u13, hu13, h⟩ := of_bind h
          refine V_reg [false, true, false, false, false, true, false, false, false, false, true, true, true, false, false, false, false, false, false, false, false, false, false, false, false] [80, 64] (s1 := ⟨[.bot, .fn fso2 cso2, .bot, .bot, .bot, .ow 64, .bot, .bot, .bot, .bot, .ow 80, I ((y3.length : Int)), I t4, .bot, .bot, .bot, .bot, .bot, .bot, .bot, .bot, .bot, .bot, .bot, .bot], [(80, .arr 36 3 (y3.map c36)), (64, .arr 36 3 ((l5 ++ ([e10])).map c36))]⟩) ?_ ?_
          · refine XL_cons rfl (X_of_Y0 rfl (E_move (.ow 64) rfl (by kernel_rfl))) ?_
            refine XL_cons rfl (X_of_Y0 rfl (E_loadn (cs := [Ti e10.1, Ti e10.2.1, Ti e10.2.2]) [Ti e10.1, Ti e10.2.1, Ti e10.2.2] wd36 rfl (by kernel_rfl) (Nat.le_of_ble_eq_true rfl) (by kernel_rfl))) ?_
            refine XL_cons rfl (X_of_Y1 rfl (Y1_bslice (z := zv36) (els := [e10].map c36) Try.underlying53 iz36 rfl (by decide) rfl (by kernel_rfl) rfl (by simp [c36]) (by decide) (by decide))) ?_
            refine XL_cons rfl (X_appendM (c := c36) (xs := l5) (ys := [e10]) (id := 64) (z := zv36) rfl rfl Try.underlying53 izb36 rfl (by kernel_rfl) (by kernel_rfl) (by kernel_rfl) (fun _ => rfl) (by simp) (room_some hu13) (by decide)) ?_
            refine XL_cons rfl (X_of_Y0 rfl (E_assign (.ow 64) rfl (by kernel_rfl))) ?_
            refine XL_nil ?_
            kernel_rfl
          show V _ _ _ _
          obtain ⟨t14, ht14, h⟩ := of_sI h
          refine V_reg [false, true, false, false, false, true, false, false, false, false, true, true, true, false, false, false, false, false, false, false, false, false, false, false, false] [80, 64] (s1 := ⟨[.bot, .fn fso2 cso2, .bot, .bot, .bot, .ow 64, .bot, .bot, .bot, .bot, .ow 80, I ((y3.length : Int)), I t14, .bot, .bot, .bot, .bot, .bot, .bot, .bot, .bot, .bot, .bot, .bot, .bot], [(80, .arr 36 3 (y3.map c36)), (64, .arr 36 3 ((l5 ++ ([e10])).map c36))]⟩) ?_ ?_
          · refine XL_cons rfl (X_of_Y0 rfl (Y0_add64 (a := t4) (b := 1) rfl (by kernel_rfl) (by kernel_rfl))) ?_
            refine XL_cons rfl (X_of_Y0 rfl (E_move (I (w64 (t4 + 1))) rfl (by kernel_rfl))) ?_
            refine XL_nil ?_
            subst ht14
            kernel_rfl
          exact ⟨n, Nat.lt_succ_self n, _, _,  by rfl, h⟩
        · have h := of_false h hc12
          refine V_skip ?_
          show V _ _ _ _
          obtain ⟨t15, ht15, h⟩ := of_sI h
          refine V_reg [false, true, false, false, false, true, false, false, false, false, true, true, true, false, false, false, false, false, false, false, false, false, false, false, false] [80, 64] (s1 := ⟨[.bot, .fn fso2 cso2, .bot, .bot, .bot, .ow 64, .bot, .bot, .bot, .bot, .ow 80, I ((y3.length : Int)), I t15, .bot, .bot, .bot, .bot, .bot, .bot, .bot, .bot, .bot, .bot, .bot, .bot], [(80, .arr 36 3 (y3.map c36)), (64, .arr 36 3 (l5.map c36))]⟩) ?_ ?_
          · refine XL_cons rfl (X_of_Y0 rfl (Y0_add64 (a := t4) (b := 1) rfl (by kernel_rfl) (by kernel_rfl))) ?_
            refine XL_cons rfl (X_of_Y0 rfl (E_move (I (w64 (t4 + 1))) rfl (by kernel_rfl))) ?_
            refine XL_nil ?_
            subst ht15
            kernel_rfl
          exact ⟨n, Nat.lt_succ_self n, _, _,  by rfl, h⟩
      · have h := of_false h hc8
        refine V_exit ?_
        obtain rfl := some_inj h
        show St.keep _ _ _ = _
        rfl
  show V _ _ _ _
  refine V_sreg [false, false, false, false, true, false, false, false, false, false, false, false, false, false, false, false, false, false, false, false, false, false, false, false, false] [64] (s1 := ⟨[.bot, .bot, .bot, .bot, .ow 64, .bot, .bot, .bot, .bot, .bot, .bot, .bot, .bot, .bot, .bot, .bot, .bot, .bot, .bot, .bot, .bot, .bot, .bot, .bot, .bot], [(64, .arr 36 3 (o7.map c36))]⟩) ?_ ?_
  · refine XL_cons rfl (X_of_Y0 rfl (E_move (.ow 64) rfl (by kernel_rfl))) ?_
    refine XL_cons rfl (X_of_Y0 rfl (E_assign (.ow 64) rfl (by kernel_rfl))) ?_
    refine XL_nil ?_
    kernel_rfl
  refine V_ret ?_
  obtain rfl := some_inj h
  show Post _ _ _ _ _
  exact ⟨.inr rfl, rfl, rfl, rfl⟩
theorem cf_impl_firstPoint : ∀ args w, (callFunc 127 args).run Try.prog w = .ok (.enter 127 args) w := run_callFunc Try.func127 (by kernel_rfl) (by kernel_rfl)
set_option maxRecDepth 100000 in
set_option maxHeartbeats 400000 in
theorem s_impl_firstPoint {g1 : (Int × Int × Int)} {a2 : Int} {r : (Int × Int)} (h : r_impl_firstPoint g1 a2 = some r) : CallS Try.prog 127 [.ag [Ti g1.1, Ti g1.2.1, Ti g1.2.2], I a2] (.tc (I r.1) (.tc (I r.2) .tn)) [] := by
  refine CallS_of_text (rs := [.t 4, .t 5]) (vs := [.tmp 4, .tmp 5]) Try.func127 rfl rfl (.cons rfl (.cons rfl FitsL.nil)) (by decide) 43 rfl ?_
  unfold r_impl_firstPoint at h
  show V _ _ ⟨[.ag [Ti g1.1, Ti g1.2.1, Ti g1.2.2], I a2, .bot, .bot, .bot, .bot, .bot, .bot, .bot, .bot, .bot, .bot, .bot, .bot, .bot, .bot, .bot, .bot, .bot, .bot, .bot, .bot, .bot, .bot, .bot, .bot, .bot, .bot, .bot, .bot, .bot, .bot, .bot, .bot, .bot, .bot, .bot, .bot, .bot, .bot, .bot, .bot, .bot], []⟩ _
  refine V_sreg [false, true, true, false, false, false, false, false, false, false, false, false, false, false, false, false, false, false, false, false, false, false, false, false, false, false, false, false, false, false, false, false, false, false, false, false, false, false, false, false, false, false, false] [16] (s1 := ⟨[.bot, I a2, .pt 16 0, .bot, .bot, .bot, .bot, .bot, .bot, .bot, .bot, .bot, .bot, .bot, .bot, .bot, .bot, .bot, .bot, .bot, .bot, .bot, .bot, .bot, .bot, .bot, .bot, .bot, .bot, .bot, .bot, .bot, .bot, .bot, .bot, .bot, .bot, .bot, .bot, .bot, .bot, .bot, .bot], [(16, .box [Ti g1.1, Ti g1.2.1, Ti g1.2.2])]⟩) ?_ ?_
  · refine XL_cons rfl (X_of_Y1 rfl (Y1_box (cs := [Ti g1.1, Ti g1.2.1, Ti g1.2.2]) rfl (by kernel_rfl))) ?_
    refine XL_cons rfl (X_of_Y0 rfl (E_assign (I 0) rfl (by kernel_rfl))) ?_
    refine XL_cons rfl (X_of_Y0 rfl (E_assign (I 0) rfl (by kernel_rfl))) ?_
    refine XL_nil ?_
    kernel_rfl
  refine V_sreg [false, true, true, false, false, false, true, false, false, false, false, false, false, false, false, false, false, false, false, false, false, false, false, false, false, false, false, false, false, false, false, false, false, false, false, false, false, false, false, false, false, false, false] [16] (s1 := ⟨[.bot, I a2, .pt 16 0, .bot, .bot, .bot, I 0, .bot, .bot, .bot, .bot, .bot, .bot, .bot, .bot, .bot, .bot, .bot, .bot, .bot, .bot, .bot, .bot, .bot, .bot, .bot, .bot, .bot, .bot, .bot, .bot, .bot, .bot, .bot, .bot, .bot, .bot, .bot, .bot, .bot, .bot, .bot, .bot], [(16, .box [Ti g1.1, Ti g1.2.1, Ti g1.2.2])]⟩) ?_ ?_
  · refine XL_cons rfl (X_of_Y0 rfl (E_assign (I 0) rfl (by kernel_rfl))) ?_
    refine XL_nil ?_
    kernel_rfl
  obtain ⟨qo5, hLo5, hko5⟩ := of_bind h
  refine V_toS (q := qo5) (S := fun _ => (⟨[], []⟩ : St)) [] [] ?_ ?_
  · refine V_block (V_loop (fun n s => ∃ (size3 : Int), s.keep [false, true, true, false, false, false, true, false, false, false, false, false, false, false, false, false, false, false, false, false, false, false, false, false, false, false, false, false, false, false, false, false, false, false, false, false, false, false, false, false, false, false, false] [16] = (⟨[.bot, I a2, .pt 16 0, .bot, .bot, .bot, I size3, .bot, .bot, .bot, .bot, .bot, .bot, .bot, .bot, .bot, .bot, .bot, .bot, .bot, .bot, .bot, .bot, .bot, .bot, .bot, .bot, .bot, .bot, .bot, .bot, .bot, .bot, .bot, .bot, .bot, .bot, .bot, .bot, .bot, .bot, .bot, .bot], [(16, .box [Ti g1.1, Ti g1.2.1, Ti g1.2.2])]⟩ : St) ∧ r_impl_firstPoint_L4 a2 g1 n size3 = some qo5) FU ⟨_,  by rfl, hLo5⟩ ?_)
    clear hLo5
    rintro n s ⟨size3, hs, h⟩
    refine V_keep _ _ hs ?_
    clear hs
    cases n with
    | zero => cases h
    | succ n =>
      rw [r_impl_firstPoint_L4] at h
      refine V_seq ?_
      refine V_block ?_
      refine V_sreg [false, true, true, false, false, false, true, true, false, false, false, false, false, false, false, false, false, false, false, false, false, false, false, false, false, false, false, false, false, false, false, false, false, false, false, false, false, false, false, false, false, false, false] [16] (s1 := ⟨[.bot, I a2, .pt 16 0, .bot, .bot, .bot, I size3, I 0, .bot, .bot, .bot, .bot, .bot, .bot, .bot, .bot, .bot, .bot, .bot, .bot, .bot, .bot, .bot, .bot, .bot, .bot, .bot, .bot, .bot, .bot, .bot, .bot, .bot, .bot, .bot, .bot, .bot, .bot, .bot, .bot, .bot, .bot, .bot], [(16, .box [Ti g1.1, Ti g1.2.1, Ti g1.2.2])]⟩) ?_ ?_
      · refine XL_cons rfl (X_of_Y0 rfl (E_assign (I 0) rfl (by kernel_rfl))) ?_
        refine XL_nil ?_
        kernel_rfl
      obtain ⟨qo8, hLo8, hko8⟩ := of_bind h
      refine V_toS (q := qo8) (S := fun o8 => ⟨[.bot, I a2, .pt 16 0, .bot, .bot, .bot, I size3, .bot, .bot, .bot, .bot, .bot, .bot, .bot, .bot, .bot, .bot, .bot, .bot, .bot, .bot, .bot, .bot, .bot, .bot, .bot, .bot, .bot, .bot, .bot, .bot, .bot, .bot, .bot, .bot, .bot, .bot, .bot, .bot, .bot, .bot, .bot, .bot], [(16, .box [Ti g1.1, Ti g1.2.1, Ti g1.2.2])]⟩) [false, true, true, false, false, false, true, false, false, false, false, false, false, false, false, false, false, false, false, false, false, false, false, false, false, false, false, false, false, false, false, false, false, false, false, false, false, false, false, false, false, false, false] [16] ?_ ?_
      · refine V_block (V_loop (fun n s => ∃ (x6 : Int), s.keep [false, true, true, false, false, false, true, true, false, false, false, false, false, false, false, false, false, false, false, false, false, false, false, false, false, false, false, false, false, false, false, false, false, false, false, false, false, false, false, false, false, false, false] [16] = (⟨[.bot, I a2, .pt 16 0, .bot, .bot, .bot, I size3, I x6, .bot, .bot, .bot, .bot, .bot, .bot, .bot, .bot, .bot, .bot, .bot, .bot, .bot, .bot, .bot, .bot, .bot, .bot, .bot, .bot, .bot, .bot, .bot, .bot, .bot, .bot, .bot, .bot, .bot, .bot, .bot, .bot, .bot, .bot, .bot], [(16, .box [Ti g1.1, Ti g1.2.1, Ti g1.2.2])]⟩ : St) ∧ r_impl_firstPoint_L7 a2 g1 size3 n x6 = some qo8) FU ⟨_,  by rfl, hLo8⟩ ?_)
        clear hLo8
        rintro n s ⟨x6, hs, h⟩
        refine V_keep _ _ hs ?_
        clear hs
        cases n with
        | zero => cases h
        | succ n =>
          rw [r_impl_firstPoint_L7] at h
          refine V_seq ?_
          refine V_sreg [false, true, true, false, false, false, true, true, false, false, false, false, false, true, false, false, false, false, false, false, false, false, false, false, false, false, false, false, false, false, false, false, false, false, false, false, false, false, false, false, false, false, false] [16] (s1 := ⟨[.bot, I a2, .pt 16 0, .bot, .bot, .bot, I size3, I x6, .bot, .bot, .bot, .bot, .bot, Bo (leI x6 size3), .bot, .bot, .bot, .bot, .bot, .bot, .bot, .bot, .bot, .bot, .bot, .bot, .bot, .bot, .bot, .bot, .bot, .bot, .bot, .bot, .bot, .bot, .bot, .bot, .bot, .bot, .bot, .bot, .bot], [(16, .box [Ti g1.1, Ti g1.2.1, Ti g1.2.2])]⟩) ?_ ?_
          · refine XL_cons rfl (X_of_Y0 rfl (E_move (I x6) rfl (by kernel_rfl))) ?_
            refine XL_cons rfl (X_of_Y0 rfl (E_move (I size3) rfl (by kernel_rfl))) ?_
            refine XL_cons rfl (X_of_Y0 rfl (Y0_lew (k := .i64) (a := x6) (b := size3) rfl (by kernel_rfl) (by kernel_rfl))) ?_
            refine XL_nil ?_
            kernel_rfl
          refine V_cond rfl (fun hc9 => ?_) (fun hc9 => ?_)
          · have h := of_true h hc9
            refine V_skip ?_
            show V _ _ _ _
            refine V_seq ?_
            refine V_block ?_
            refine V_sreg [false, true, true, false, false, false, true, true, true, false, false, false, false, false, false, false, false, false, false, false, false, false, false, false, false, false, false, false, false, false, false, false, false, false, false, false, false, false, false, false, false, false, false] [16] (s1 := ⟨[.bot, I a2, .pt 16 0, .bot, .bot, .bot, I size3, I x6, I 0, .bot, .bot, .bot, .bot, .bot, .bot, .bot, .bot, .bot, .bot, .bot, .bot, .bot, .bot, .bot, .bot, .bot, .bot, .bot, .bot, .bot, .bot, .bot, .bot, .bot, .bot, .bot, .bot, .bot, .bot, .bot, .bot, .bot, .bot], [(16, .box [Ti g1.1, Ti g1.2.1, Ti g1.2.2])]⟩) ?_ ?_
            · refine XL_cons rfl (X_of_Y0 rfl (E_assign (I 0) rfl (by kernel_rfl))) ?_
              refine XL_nil ?_
              kernel_rfl
            obtain ⟨qo12, hLo12, hko12⟩ := of_bind h
            refine V_toS (q := qo12) (S := fun o12 => ⟨[.bot, I a2, .pt 16 0, .bot, .bot, .bot, I size3, I x6, .bot, .bot, .bot, .bot, .bot, .bot, .bot, .bot, .bot, .bot, .bot, .bot, .bot, .bot, .bot, .bot, .bot, .bot, .bot, .bot, .bot, .bot, .bot, .bot, .bot, .bot, .bot, .bot, .bot, .bot, .bot, .bot, .bot, .bot, .bot], [(16, .box [Ti g1.1, Ti g1.2.1, Ti g1.2.2])]⟩) [false, true, true, false, false, false, true, true, false, false, false, false, false, false, false, false, false, false, false, false, false, false, false, false, false, false, false, false, false, false, false, false, false, false, false, false, false, false, false, false, false, false, false] [16] ?_ ?_
            · refine V_block (V_loop (fun n s => ∃ (y10 : Int), s.keep [false, true, true, false, false, false, true, true, true, false, false, false, false, false, false, false, false, false, false, false, false, false, false, false, false, false, false, false, false, false, false, false, false, false, false, false, false, false, false, false, false, false, false] [16] = (⟨[.bot, I a2, .pt 16 0, .bot, .bot, .bot, I size3, I x6, I y10, .bot, .bot, .bot, .bot, .bot, .bot, .bot, .bot, .bot, .bot, .bot, .bot, .bot, .bot, .bot, .bot, .bot, .bot, .bot, .bot, .bot, .bot, .bot, .bot, .bot, .bot, .bot, .bot, .bot, .bot, .bot, .bot, .bot, .bot], [(16, .box [Ti g1.1, Ti g1.2.1, Ti g1.2.2])]⟩ : St) ∧ r_impl_firstPoint_L11 a2 g1 size3 x6 n y10 = some qo12) FU ⟨_,  by rfl, hLo12⟩ ?_)
              clear hLo12
              rintro n s ⟨y10, hs, h⟩
              refine V_keep _ _ hs ?_
              clear hs
              cases n with
              | zero => cases h
              | succ n =>
                rw [r_impl_firstPoint_L11] at h
                refine V_seq ?_
                refine V_sreg [false, true, true, false, false, false, true, true, true, false, false, false, false, false, false, false, false, false, true, false, false, false, false, false, false, false, false, false, false, false, false, false, false, false, false, false, false, false, false, false, false, false, false] [16] (s1 := ⟨[.bot, I a2, .pt 16 0, .bot, .bot, .bot, I size3, I x6, I y10, .bot, .bot, .bot, .bot, .bot, .bot, .bot, .bot, .bot, Bo (leI y10 size3), .bot, .bot, .bot, .bot, .bot, .bot, .bot, .bot, .bot, .bot, .bot, .bot, .bot, .bot, .bot, .bot, .bot, .bot, .bot, .bot, .bot, .bot, .bot, .bot], [(16, .box [Ti g1.1, Ti g1.2.1, Ti g1.2.2])]⟩) ?_ ?_
                · refine XL_cons rfl (X_of_Y0 rfl (E_move (I y10) rfl (by kernel_rfl))) ?_
                  refine XL_cons rfl (X_of_Y0 rfl (E_move (I size3) rfl (by kernel_rfl))) ?_
                  refine XL_cons rfl (X_of_Y0 rfl (Y0_lew (k := .i64) (a := y10) (b := size3) rfl (by kernel_rfl) (by kernel_rfl))) ?_
                  refine XL_nil ?_
                  kernel_rfl
                refine V_cond rfl (fun hc13 => ?_) (fun hc13 => ?_)
                · have h := of_true h hc13
                  refine V_skip ?_
                  show V _ _ _ _
                  refine V_seq ?_
                  refine V_block ?_
                  obtain ⟨b16, hb16, h⟩ := of_bind h
                  obtain ⟨b20, hb20, h⟩ := of_bind h
                  refine V_sreg [false, true, true, false, false, false, true, true, true, false, false, false, false, false, false, false, false, false, false, false, false, false, false, false, false, false, false, false, false, false, false, false, false, false, false, false, false, false, false, false, true, false, false] [16] (s1 := ⟨[.bot, I a2, .pt 16 0, .bot, .bot, .bot, I size3, I x6, I y10, .bot, .bot, .bot, .bot, .bot, .bot, .bot, .bot, .bot, .bot, .bot, .bot, .bot, .bot, .bot, .bot, .bot, .bot, .bot, .bot, .bot, .bot, .bot, .bot, .bot, .bot, .bot, .bot, .bot, .bot, .bot, Bo b20, .bot, .bot], [(16, .box [Ti g1.1, Ti g1.2.1, Ti g1.2.2])]⟩) ?_ ?_
                  · refine XL_cons rfl (X_of_Y0 rfl (E_move (I x6) rfl (by kernel_rfl))) ?_
                    refine XL_cons rfl (X_of_Y0 rfl (E_move (I y10) rfl (by kernel_rfl))) ?_
                    refine XL_cons rfl (X_of_Y0 rfl (Y0_max (a := x6) (b := y10) rfl (by kernel_rfl) (by kernel_rfl))) ?_
                    refine XL_cons rfl (X_of_Y0 rfl (E_move (I size3) rfl (by kernel_rfl))) ?_
                    refine XL_cons rfl (X_of_Y0 rfl (Y0_eqw (k := .i64) (a := mxI x6 y10) (b := size3) rfl (by kernel_rfl) (by kernel_rfl))) ?_
                    refine XL_cons rfl (X_of_Y0 rfl (E_move (Bo (eqI (mxI x6 y10) size3)) rfl (by kernel_rfl))) ?_
                    refine XL_split (eqI (mxI x6 y10) size3) (fun hc14 => ?_) (fun hc14 => ?_)
                    · have hb16 := of_true hb16 hc14
                      obtain ⟨y15, hy15, hb16⟩ := of_bind hb16
                      have hb16 := some_inj hb16
                      refine XL_takeC (eqI (mxI x6 y10) size3) rfl rfl (by kernel_rfl) hc14 (X_of_Y0 rfl (E_move (I x6) rfl (by kernel_rfl))) ?_
                      refine XL_takeC (eqI (mxI x6 y10) size3) rfl rfl (by kernel_rfl) hc14 (X_of_Y0 rfl (E_move (I y10) rfl (by kernel_rfl))) ?_
                      refine XL_takeC (eqI (mxI x6 y10) size3) rfl rfl (by kernel_rfl) hc14 (X_of_Y1 rfl (Y1_call (s_impl_gcd hy15) cf_impl_gcd rfl (by kernel_rfl))) ?_
                      refine XL_takeC (eqI (mxI x6 y10) size3) rfl rfl (by kernel_rfl) hc14 (X_of_Y0 rfl (Y0_eqw (k := .i64) (a := y15) (b := 1) rfl (by kernel_rfl) (by kernel_rfl))) ?_
                      refine XL_cons rfl (X_of_Y0 rfl (Y0_pickTe (b := eqI (mxI x6 y10) size3) (p := eqI y15 1) rfl (by kernel_rfl) hc14 (by kernel_rfl) hb16)) ?_
                      refine XL_cons rfl (X_of_Y0 rfl (E_move (Bo b16) rfl (by kernel_rfl))) ?_
                      refine XL_split b16 (fun hc17 => ?_) (fun hc17 => ?_)
                      · have hb20 := of_true hb20 hc17
                        obtain ⟨y18, hy18, hb20⟩ := of_bind hb20
                        obtain ⟨y19, hy19, hb20⟩ := of_bind hb20
                        have hb20 := some_inj hb20
                        refine XL_takeC (b16) rfl rfl (by kernel_rfl) hc17 (X_of_Y0 rfl (E_loadn (cs := [Ti g1.1, Ti g1.2.1, Ti g1.2.2]) [Ti g1.1, Ti g1.2.1, Ti g1.2.2] wd36 rfl (by kernel_rfl) (Nat.le_of_ble_eq_true rfl) (by kernel_rfl))) ?_
                        refine XL_takeC (b16) rfl rfl (by kernel_rfl) hc17 (X_of_Y0 rfl (E_move (I x6) rfl (by kernel_rfl))) ?_
                        refine XL_takeC (b16) rfl rfl (by kernel_rfl) hc17 (X_of_Y0 rfl (E_move (I y10) rfl (by kernel_rfl))) ?_
                        refine XL_takeC (b16) rfl rfl (by kernel_rfl) hc17 (X_of_Y1 rfl (Y1_call (s_impl_Form_at hy18) cf_impl_Form_at rfl (by kernel_rfl))) ?_
                        refine XL_takeC (b16) rfl rfl (by kernel_rfl) hc17 (X_of_Y0 rfl (E_move (I a2) rfl (by kernel_rfl))) ?_
                        refine XL_takeC (b16) rfl rfl (by kernel_rfl) hc17 (X_of_Y1 rfl (Y1_call (s_impl_gcd hy19) cf_impl_gcd rfl (by kernel_rfl))) ?_
                        refine XL_takeC (b16) rfl rfl (by kernel_rfl) hc17 (X_of_Y0 rfl (Y0_eqw (k := .i64) (a := y19) (b := 1) rfl (by kernel_rfl) (by kernel_rfl))) ?_
                        refine XL_cons rfl (X_of_Y0 rfl (Y0_pickTe (b := b16) (p := eqI y19 1) rfl (by kernel_rfl) hc17 (by kernel_rfl) hb20)) ?_
                        refine XL_nil ?_
                        kernel_rfl
                      · have hb20 := some_inj (of_false hb20 hc17)
                        refine XL_skipT (b16) rfl rfl (by kernel_rfl) hc17 rfl ?_
                        refine XL_skipT (b16) rfl rfl (by kernel_rfl) hc17 rfl ?_
                        refine XL_skipT (b16) rfl rfl (by kernel_rfl) hc17 rfl ?_
                        refine XL_skipT (b16) rfl rfl (by kernel_rfl) hc17 rfl ?_
                        refine XL_skipT (b16) rfl rfl (by kernel_rfl) hc17 rfl ?_
                        refine XL_skipT (b16) rfl rfl (by kernel_rfl) hc17 rfl ?_
                        refine XL_skipT (b16) rfl rfl (by kernel_rfl) hc17 rfl ?_
                        refine XL_cons rfl (X_of_Y0 rfl (Y0_pickFe (b := b16) (p := false) rfl (by kernel_rfl) hc17 (by kernel_rfl) hb20)) ?_
                        refine XL_nil ?_
                        kernel_rfl
                    · have hb16 := some_inj (of_false hb16 hc14)
                      refine XL_skipT (eqI (mxI x6 y10) size3) rfl rfl (by kernel_rfl) hc14 rfl ?_
                      refine XL_skipT (eqI (mxI x6 y10) size3) rfl rfl (by kernel_rfl) hc14 rfl ?_
                      refine XL_skipT (eqI (mxI x6 y10) size3) rfl rfl (by kernel_rfl) hc14 rfl ?_
                      refine XL_skipT (eqI (mxI x6 y10) size3) rfl rfl (by kernel_rfl) hc14 rfl ?_
                      refine XL_cons rfl (X_of_Y0 rfl (Y0_pickFe (b := eqI (mxI x6 y10) size3) (p := false) rfl (by kernel_rfl) hc14 (by kernel_rfl) hb16)) ?_
                      refine XL_cons rfl (X_of_Y0 rfl (E_move (Bo b16) rfl (by kernel_rfl))) ?_
                      refine XL_split b16 (fun hc17 => ?_) (fun hc17 => ?_)
                      · have hb20 := of_true hb20 hc17
                        obtain ⟨y18, hy18, hb20⟩ := of_bind hb20
                        obtain ⟨y19, hy19, hb20⟩ := of_bind hb20
                        have hb20 := some_inj hb20
                        refine XL_takeC (b16) rfl rfl (by kernel_rfl) hc17 (X_of_Y0 rfl (E_loadn (cs := [Ti g1.1, Ti g1.2.1, Ti g1.2.2]) [Ti g1.1, Ti g1.2.1, Ti g1.2.2] wd36 rfl (by kernel_rfl) (Nat.le_of_ble_eq_true rfl) (by kernel_rfl))) ?_
                        refine XL_takeC (b16) rfl rfl (by kernel_rfl) hc17 (X_of_Y0 rfl (E_move (I x6) rfl (by kernel_rfl))) ?_
                        refine XL_takeC (b16) rfl rfl (by kernel_rfl) hc17 (X_of_Y0 rfl (E_move (I y10) rfl (by kernel_rfl))) ?_
                        refine XL_takeC (b16) rfl rfl (by kernel_rfl) hc17 (X_of_Y1 rfl (Y1_call (s_impl_Form_at hy18) cf_impl_Form_at rfl (by kernel_rfl))) ?_
                        refine XL_takeC (b16) rfl rfl (by kernel_rfl) hc17 (X_of_Y0 rfl (E_move (I a2) rfl (by kernel_rfl))) ?_
                        refine XL_takeC (b16) rfl rfl (by kernel_rfl) hc17 (X_of_Y1 rfl (Y1_call (s_impl_gcd hy19) cf_impl_gcd rfl (by kernel_rfl))) ?_
                        refine XL_takeC (b16) rfl rfl (by kernel_rfl) hc17 (X_of_Y0 rfl (Y0_eqw (k := .i64) (a := y19) (b := 1) rfl (by kernel_rfl) (by kernel_rfl))) ?_
                        refine XL_cons rfl (X_of_Y0 rfl (Y0_pickTe (b := b16) (p := eqI y19 1) rfl (by kernel_rfl) hc17 (by kernel_rfl) hb20)) ?_
                        refine XL_nil ?_
                        kernel_rfl
                      · have hb20 := some_inj (of_false hb20 hc17)
                        refine XL_skipT (b16) rfl rfl (by kernel_rfl) hc17 rfl ?_
                        refine XL_skipT (b16) rfl rfl (by kernel_rfl) hc17 rfl ?_
                        refine XL_skipT (b16) rfl rfl (by kernel_rfl) hc17 rfl ?_
                        refine XL_skipT (b16) rfl rfl (by kernel_rfl) hc17 rfl ?_
                        refine XL_skipT (b16) rfl rfl (by kernel_rfl) hc17 rfl ?_
                        refine XL_skipT (b16) rfl rfl (by kernel_rfl) hc17 rfl ?_
                        refine XL_skipT (b16) rfl rfl (by kernel_rfl) hc17 rfl ?_
                        refine XL_cons rfl (X_of_Y0 rfl (Y0_pickFe (b := b16) (p := false) rfl (by kernel_rfl) hc17 (by kernel_rfl) hb20)) ?_
                        refine XL_nil ?_
                        kernel_rfl
                  refine V_cond rfl (fun hc21 => ?_) (fun hc21 => ?_)
                  · have h := of_true h hc21
                    refine V_sreg [false, false, false, false, true, true, false, false, false, false, false, false, false, false, false, false, false, false, false, false, false, false, false, false, false, false, false, false, false, false, false, false, false, false, false, false, false, false, false, false, false, false, false] [] (s1 := ⟨[.bot, .bot, .bot, .bot, I x6, I y10, .bot, .bot, .bot, .bot, .bot, .bot, .bot, .bot, .bot, .bot, .bot, .bot, .bot, .bot, .bot, .bot, .bot, .bot, .bot, .bot, .bot, .bot, .bot, .bot, .bot, .bot, .bot, .bot, .bot, .bot, .bot, .bot, .bot, .bot, .bot, .bot, .bot], []⟩) ?_ ?_
                    · refine XL_cons rfl (X_of_Y0 rfl (E_move (I x6) rfl (by kernel_rfl))) ?_
                      refine XL_cons rfl (X_of_Y0 rfl (E_move (I y10) rfl (by kernel_rfl))) ?_
                      refine XL_cons rfl (X_of_Y0 rfl (E_assign (I x6) rfl (by kernel_rfl))) ?_
                      refine XL_cons rfl (X_of_Y0 rfl (E_assign (I y10) rfl (by kernel_rfl))) ?_
                      refine XL_nil ?_
                      kernel_rfl
                    refine V_ret ?_
                    obtain rfl := some_inj h
                    have h := hko12
                    obtain rfl := some_inj h
                    have h := hko8
                    obtain rfl := some_inj h
                    have h := hko5
                    obtain rfl := some_inj h
                    show Post _ _ _ _ _
                    exact ⟨.inr rfl, rfl, rfl, rfl⟩
                  · have h := of_false h hc21
                    refine V_skip ?_
                    show V _ _ _ _
                    obtain ⟨y22, hy22, h⟩ := of_sI h
                    refine V_reg [false, true, true, false, false, false, true, true, true, false, false, false, false, false, false, false, false, false, false, false, false, false, false, false, false, false, false, false, false, false, false, false, false, false, false, false, false, false, false, false, false, false, false] [16] (s1 := ⟨[.bot, I a2, .pt 16 0, .bot, .bot, .bot, I size3, I x6, I y22, .bot, .bot, .bot, .bot, .bot, .bot, .bot, .bot, .bot, .bot, .bot, .bot, .bot, .bot, .bot, .bot, .bot, .bot, .bot, .bot, .bot, .bot, .bot, .bot, .bot, .bot, .bot, .bot, .bot, .bot, .bot, .bot, .bot, .bot], [(16, .box [Ti g1.1, Ti g1.2.1, Ti g1.2.2])]⟩) ?_ ?_
                    · refine XL_cons rfl (X_of_Y0 rfl (E_move (I y10) rfl (by kernel_rfl))) ?_
                      refine XL_cons rfl (X_of_Y0 rfl (Y0_add64 (a := y10) (b := 1) rfl (by kernel_rfl) (by kernel_rfl))) ?_
                      refine XL_cons rfl (X_of_Y0 rfl (E_assign (I (w64 (y10 + 1))) rfl (by kernel_rfl))) ?_
                      refine XL_nil ?_
                      subst hy22
                      kernel_rfl
                    exact ⟨n, Nat.lt_succ_self n, _,  by rfl, h⟩
                · have h := of_false h hc13
                  refine V_exit ?_
                  obtain rfl := some_inj h
                  exact ⟨_, rfl, by rfl⟩
            rintro o12 rfl
            have h := hko12
            clear hko12
            show V _ _ _ _
            obtain ⟨x23, hx23, h⟩ := of_sI h
            refine V_reg [false, true, true, false, false, false, true, true, false, false, false, false, false, false, false, false, false, false, false, false, false, false, false, false, false, false, false, false, false, false, false, false, false, false, false, false, false, false, false, false, false, false, false] [16] (s1 := ⟨[.bot, I a2, .pt 16 0, .bot, .bot, .bot, I size3, I x23, .bot, .bot, .bot, .bot, .bot, .bot, .bot, .bot, .bot, .bot, .bot, .bot, .bot, .bot, .bot, .bot, .bot, .bot, .bot, .bot, .bot, .bot, .bot, .bot, .bot, .bot, .bot, .bot, .bot, .bot, .bot, .bot, .bot, .bot, .bot], [(16, .box [Ti g1.1, Ti g1.2.1, Ti g1.2.2])]⟩) ?_ ?_
            · refine XL_cons rfl (X_of_Y0 rfl (E_move (I x6) rfl (by kernel_rfl))) ?_
              refine XL_cons rfl (X_of_Y0 rfl (Y0_add64 (a := x6) (b := 1) rfl (by kernel_rfl) (by kernel_rfl))) ?_
              refine XL_cons rfl (X_of_Y0 rfl (E_assign (I (w64 (x6 + 1))) rfl (by kernel_rfl))) ?_
              refine XL_nil ?_
              subst hx23
              kernel_rfl
            exact ⟨n, Nat.lt_succ_self n, _,  by rfl, h⟩
          · have h := of_false h hc9
            refine V_exit ?_
            obtain rfl := some_inj h
            exact ⟨_, rfl, by rfl⟩
      rintro o8 rfl
      have h := hko8
      clear hko8
      show V _ _ _ _
      obtain ⟨size24, hsize24, h⟩ := of_sI h
      refine V_reg [false, true, true, false, false, false, true, false, false, false, false, false, false, false, false, false, false, false, false, false, false, false, false, false, false, false, false, false, false, false, false, false, false, false, false, false, false, false, false, false, false, false, false] [16] (s1 := ⟨[.bot, I a2, .pt 16 0, .bot, .bot, .bot, I size24, .bot, .bot, .bot, .bot, .bot, .bot, .bot, .bot, .bot, .bot, .bot, .bot, .bot, .bot, .bot, .bot, .bot, .bot, .bot, .bot, .bot, .bot, .bot, .bot, .bot, .bot, .bot, .bot, .bot, .bot, .bot, .bot, .bot, .bot, .bot, .bot], [(16, .box [Ti g1.1, Ti g1.2.1, Ti g1.2.2])]⟩) ?_ ?_
      · refine XL_cons rfl (X_of_Y0 rfl (E_move (I size3) rfl (by kernel_rfl))) ?_
        refine XL_cons rfl (X_of_Y0 rfl (Y0_add64 (a := size3) (b := 1) rfl (by kernel_rfl) (by kernel_rfl))) ?_
        refine XL_cons rfl (X_of_Y0 rfl (E_assign (I (w64 (size3 + 1))) rfl (by kernel_rfl))) ?_
        refine XL_nil ?_
        subst hsize24
        kernel_rfl
      exact ⟨n, Nat.lt_succ_self n, _,  by rfl, h⟩
  rintro o5 rfl
  cases hko5
end Go.Proofs.Ytdffhgibkeifmaa
