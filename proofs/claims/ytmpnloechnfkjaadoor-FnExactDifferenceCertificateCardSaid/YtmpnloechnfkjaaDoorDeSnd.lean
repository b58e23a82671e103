/-
  The functions of the program compute what the plain functions say: more of them.
  Conditions: none.
-/
import Derived.Test.YtmpnloechnfkjaaDoorDeSnd1
namespace Go.Proofs.YtmpnloechnfkjaaDoor
open Go.RowKit
set_option linter.unusedVariables false
set_option linter.unusedSimpArgs false
theorem cf_impl_ReduceForm : ∀ args w, (callFunc 47 args).run Tryd.prog w = .ok (.enter 47 args) w := run_callFunc Tryd.func47 (by kernel_rfl) (by kernel_rfl)
set_option maxRecDepth 100000 in
set_option maxHeartbeats 400000 in
theorem s_impl_ReduceForm {f1 : (Int × Int × Int)} {r : (((Int × Int × Int)) × ((Int × Int × Int × Int)) × Bool)} (h : r_impl_ReduceForm f1 = some r) : CallS Tryd.prog 47 [.ag [Ti f1.1, Ti f1.2.1, Ti f1.2.2]] (.tc (.ag [Ti r.1.1, Ti r.1.2.1, Ti r.1.2.2]) (.tc (.ag [Ti r.2.1.1, Ti r.2.1.2.1, Ti r.2.1.2.2.1, Ti r.2.1.2.2.2]) (.tc (Bo r.2.2) .tn))) [] := by
  refine CallS_of_text (rs := [.w 2 3, .w 3 4, .t 4]) (vs := [.cell 2 33, .cell 3 53, .tmp 4]) Tryd.func47 rfl rfl (.cons ⟨rfl, wd33⟩ (.cons ⟨rfl, wd53⟩ (.cons rfl FitsL.nil))) (by decide) 24 rfl ?_
  unfold r_impl_ReduceForm at h
  show V _ _ ⟨[.ag [Ti f1.1, Ti f1.2.1, Ti f1.2.2], .bot, .bot, .bot, .bot, .bot, .bot, .bot, .bot, .bot, .bot, .bot, .bot, .bot, .bot, .bot, .bot, .bot, .bot, .bot, .bot, .bot, .bot, .bot], []⟩ _
  refine V_sreg [false, true, true, true, false, false, false, false, false, false, false, false, false, false, false, false, false, false, false, false, false, false, false, false] [24, 16, 8] (s1 := ⟨[.bot, .pt 8 0, .pt 16 0, .pt 24 0, .bot, .bot, .bot, .bot, .bot, .bot, .bot, .bot, .bot, .bot, .bot, .bot, .bot, .bot, .bot, .bot, .bot, .bot, .bot, .bot], [(24, .box [Ti 0, Ti 0, Ti 0, Ti 0]), (16, .box [Ti 0, Ti 0, Ti 0]), (8, .box [Ti f1.1, Ti f1.2.1, Ti f1.2.2])]⟩) ?_ ?_
  · refine XL_cons rfl (X_of_Y1 rfl (Y1_box (cs := [Ti f1.1, Ti f1.2.1, Ti f1.2.2]) rfl (by kernel_rfl))) ?_
    refine XL_cons rfl (X_of_Y1 rfl (Y1_alloc (z := zv33) rfl zf33 rfl)) ?_
    refine XL_cons rfl (X_of_Y1 rfl (Y1_alloc (z := zv53) rfl zf53 rfl)) ?_
    refine XL_cons rfl (X_of_Y0 rfl (E_assign (Bo false) rfl (by kernel_rfl))) ?_
    refine XL_nil ?_
    kernel_rfl
  refine V_seq ?_
  obtain ⟨y2, hy2, h⟩ := of_bind h
  refine V_sreg [false, true, true, true, false, false, false, false, false, true, false, false, false, false, false, false, false, false, false, false, false, false, false, false] [24, 16, 8] (s1 := ⟨[.bot, .pt 8 0, .pt 16 0, .pt 24 0, .bot, .bot, .bot, .bot, .bot, Bo (!y2), .bot, .bot, .bot, .bot, .bot, .bot, .bot, .bot, .bot, .bot, .bot, .bot, .bot, .bot], [(24, .box [Ti 0, Ti 0, Ti 0, Ti 0]), (16, .box [Ti 0, Ti 0, Ti 0]), (8, .box [Ti f1.1, Ti f1.2.1, Ti f1.2.2])]⟩) ?_ ?_
  · refine XL_cons rfl (X_of_Y0 rfl (E_loadn (cs := [Ti f1.1, Ti f1.2.1, Ti f1.2.2]) [Ti f1.1, Ti f1.2.1, Ti f1.2.2] wd33 rfl (by kernel_rfl) (Nat.le_of_ble_eq_true rfl) (by kernel_rfl))) ?_
    refine XL_cons rfl (X_of_Y1 rfl (Y1_call (s_impl_isDefinite hy2) cf_impl_isDefinite rfl (by kernel_rfl))) ?_
    refine XL_cons rfl (X_of_Y0 rfl (Y0_not (b := y2) rfl (by kernel_rfl))) ?_
    refine XL_nil ?_
    kernel_rfl
  refine V_cond rfl (fun hc3 => ?_) (fun hc3 => ?_)
  · have h := of_true h hc3
    refine V_sreg [false, false, true, true, true, false, false, false, false, false, false, false, false, false, false, false, false, false, false, false, false, false, false, false] [24, 16] (s1 := ⟨[.bot, .bot, .pt 16 0, .pt 24 0, Bo false, .bot, .bot, .bot, .bot, .bot, .bot, .bot, .bot, .bot, .bot, .bot, .bot, .bot, .bot, .bot, .bot, .bot, .bot, .bot], [(24, .box [Ti 0, Ti 0, Ti 0, Ti 0]), (16, .box [Ti 0, Ti 0, Ti 0])]⟩) ?_ ?_
    · refine XL_cons rfl (X_of_Y0 rfl (Y0_build (cs := [Ti 0, Ti 0, Ti 0]) pl33 bt33 rfl rfl (by kernel_rfl))) ?_
      refine XL_cons rfl (X_of_Y0 rfl (Y0_build (cs := [Ti 0, Ti 0, Ti 0, Ti 0]) pl53 bt53 rfl rfl (by kernel_rfl))) ?_
      refine XL_cons rfl (E_store (id := 16) (off := 0) (cs := [Ti 0, Ti 0, Ti 0]) (vc := [Ti 0, Ti 0, Ti 0]) [Ti 0, Ti 0, Ti 0] rfl rfl (by kernel_rfl) (by kernel_rfl) (by kernel_rfl) sz33 (Nat.le_of_ble_eq_true rfl) (by kernel_rfl)) ?_
      refine XL_cons rfl (E_store (id := 24) (off := 0) (cs := [Ti 0, Ti 0, Ti 0, Ti 0]) (vc := [Ti 0, Ti 0, Ti 0, Ti 0]) [Ti 0, Ti 0, Ti 0, Ti 0] rfl rfl (by kernel_rfl) (by kernel_rfl) (by kernel_rfl) sz53 (Nat.le_of_ble_eq_true rfl) (by kernel_rfl)) ?_
      refine XL_cons rfl (X_of_Y0 rfl (E_assign (Bo false) rfl (by kernel_rfl))) ?_
      refine XL_nil ?_
      kernel_rfl
    refine V_ret ?_
    obtain rfl := some_inj h
    show Post _ _ _ _ _
    exact ⟨.inr rfl, rfl, rfl, rfl⟩
  · have h := of_false h hc3
    refine V_skip ?_
    show V _ _ _ _
    obtain ⟨y4, hy4, h⟩ := of_bind h
    refine V_sreg [false, false, true, true, false, true, true, false, false, false, false, false, false, false, false, false, false, false, false, false, false, false, false, false] [48, 40, 24, 16] (s1 := ⟨[.bot, .bot, .pt 16 0, .pt 24 0, .bot, .pt 40 0, .pt 48 0, .bot, .bot, .bot, .bot, .bot, .bot, .bot, .bot, .bot, .bot, .bot, .bot, .bot, .bot, .bot, .bot, .bot], [(48, .box [Ti y4.2.1, Ti y4.2.2.1, Ti y4.2.2.2.1, Ti y4.2.2.2.2]), (40, .box [Ti y4.1.1, Ti y4.1.2.1, Ti y4.1.2.2]), (24, .box [Ti 0, Ti 0, Ti 0, Ti 0]), (16, .box [Ti 0, Ti 0, Ti 0])]⟩) ?_ ?_
    · refine XL_cons rfl (X_of_Y0 rfl (E_loadn (cs := [Ti f1.1, Ti f1.2.1, Ti f1.2.2]) [Ti f1.1, Ti f1.2.1, Ti f1.2.2] wd33 rfl (by kernel_rfl) (Nat.le_of_ble_eq_true rfl) (by kernel_rfl))) ?_
      refine XL_cons rfl (X_of_Y1 rfl (Y1_call (s_impl_reduce hy4) cf_impl_reduce rfl (by kernel_rfl))) ?_
      refine XL_cons rfl (X_of_Y0 rfl (E_move (.tc (.ag [Ti y4.1.1, Ti y4.1.2.1, Ti y4.1.2.2]) (.tc (.ag [Ti y4.2.1, Ti y4.2.2.1, Ti y4.2.2.2.1, Ti y4.2.2.2.2]) .tn)) rfl (by kernel_rfl))) ?_
      refine XL_cons rfl (X_of_Y0 rfl (E_ext (n := 0) (.ag [Ti y4.1.1, Ti y4.1.2.1, Ti y4.1.2.2]) (.tc (.ag [Ti y4.2.1, Ti y4.2.2.1, Ti y4.2.2.2.1, Ti y4.2.2.2.2]) .tn) (.ag [Ti y4.1.1, Ti y4.1.2.1, Ti y4.1.2.2]) rfl (by kernel_rfl) (by kernel_rfl) (by intro hh; cases hh))) ?_
      refine XL_cons rfl (X_of_Y0 rfl (E_ext (n := 1) (.ag [Ti y4.1.1, Ti y4.1.2.1, Ti y4.1.2.2]) (.tc (.ag [Ti y4.2.1, Ti y4.2.2.1, Ti y4.2.2.2.1, Ti y4.2.2.2.2]) .tn) (.ag [Ti y4.2.1, Ti y4.2.2.1, Ti y4.2.2.2.1, Ti y4.2.2.2.2]) rfl (by kernel_rfl) (by kernel_rfl) (by intro hh; cases hh))) ?_
      refine XL_cons rfl (X_of_Y1 rfl (Y1_alloc (z := zv33) rfl zf33 rfl)) ?_
      refine XL_cons rfl (X_of_Y1 rfl (Y1_alloc (z := zv53) rfl zf53 rfl)) ?_
      refine XL_cons rfl (E_store (id := 40) (off := 0) (cs := [Ti 0, Ti 0, Ti 0]) (vc := [Ti y4.1.1, Ti y4.1.2.1, Ti y4.1.2.2]) [Ti y4.1.1, Ti y4.1.2.1, Ti y4.1.2.2] rfl rfl (by kernel_rfl) (by kernel_rfl) (by kernel_rfl) sz33 (Nat.le_of_ble_eq_true rfl) (by kernel_rfl)) ?_
      refine XL_cons rfl (E_store (id := 48) (off := 0) (cs := [Ti 0, Ti 0, Ti 0, Ti 0]) (vc := [Ti y4.2.1, Ti y4.2.2.1, Ti y4.2.2.2.1, Ti y4.2.2.2.2]) [Ti y4.2.1, Ti y4.2.2.1, Ti y4.2.2.2.1, Ti y4.2.2.2.2] rfl rfl (by kernel_rfl) (by kernel_rfl) (by kernel_rfl) sz53 (Nat.le_of_ble_eq_true rfl) (by kernel_rfl)) ?_
      refine XL_nil ?_
      kernel_rfl
    refine V_seq ?_
    obtain ⟨y5, hy5, h⟩ := of_bind h
    refine V_sreg [false, false, true, true, false, true, true, false, false, false, false, false, false, false, false, false, false, false, false, true, false, false, false, false] [48, 40, 24, 16] (s1 := ⟨[.bot, .bot, .pt 16 0, .pt 24 0, .bot, .pt 40 0, .pt 48 0, .bot, .bot, .bot, .bot, .bot, .bot, .bot, .bot, .bot, .bot, .bot, .bot, Bo (!y5), .bot, .bot, .bot, .bot], [(48, .box [Ti y4.2.1, Ti y4.2.2.1, Ti y4.2.2.2.1, Ti y4.2.2.2.2]), (40, .box [Ti y4.1.1, Ti y4.1.2.1, Ti y4.1.2.2]), (24, .box [Ti 0, Ti 0, Ti 0, Ti 0]), (16, .box [Ti 0, Ti 0, Ti 0])]⟩) ?_ ?_
    · refine XL_cons rfl (X_of_Y0 rfl (E_loadn (cs := [Ti y4.2.1, Ti y4.2.2.1, Ti y4.2.2.2.1, Ti y4.2.2.2.2]) [Ti y4.2.1, Ti y4.2.2.1, Ti y4.2.2.2.1, Ti y4.2.2.2.2] wd53 rfl (by kernel_rfl) (Nat.le_of_ble_eq_true rfl) (by kernel_rfl))) ?_
      refine XL_cons rfl (X_of_Y1 rfl (Y1_call (s_impl_IsMatrix hy5) cf_impl_IsMatrix rfl (by kernel_rfl))) ?_
      refine XL_cons rfl (X_of_Y0 rfl (Y0_not (b := y5) rfl (by kernel_rfl))) ?_
      refine XL_nil ?_
      kernel_rfl
    refine V_cond rfl (fun hc6 => ?_) (fun hc6 => ?_)
    · have h := of_true h hc6
      refine V_sreg [false, false, true, true, true, false, false, false, false, false, false, false, false, false, false, false, false, false, false, false, false, false, false, false] [24, 16] (s1 := ⟨[.bot, .bot, .pt 16 0, .pt 24 0, Bo false, .bot, .bot, .bot, .bot, .bot, .bot, .bot, .bot, .bot, .bot, .bot, .bot, .bot, .bot, .bot, .bot, .bot, .bot, .bot], [(24, .box [Ti 0, Ti 0, Ti 0, Ti 0]), (16, .box [Ti 0, Ti 0, Ti 0])]⟩) ?_ ?_
      · refine XL_cons rfl (X_of_Y0 rfl (Y0_build (cs := [Ti 0, Ti 0, Ti 0]) pl33 bt33 rfl rfl (by kernel_rfl))) ?_
        refine XL_cons rfl (X_of_Y0 rfl (Y0_build (cs := [Ti 0, Ti 0, Ti 0, Ti 0]) pl53 bt53 rfl rfl (by kernel_rfl))) ?_
        refine XL_cons rfl (E_store (id := 16) (off := 0) (cs := [Ti 0, Ti 0, Ti 0]) (vc := [Ti 0, Ti 0, Ti 0]) [Ti 0, Ti 0, Ti 0] rfl rfl (by kernel_rfl) (by kernel_rfl) (by kernel_rfl) sz33 (Nat.le_of_ble_eq_true rfl) (by kernel_rfl)) ?_
        refine XL_cons rfl (E_store (id := 24) (off := 0) (cs := [Ti 0, Ti 0, Ti 0, Ti 0]) (vc := [Ti 0, Ti 0, Ti 0, Ti 0]) [Ti 0, Ti 0, Ti 0, Ti 0] rfl rfl (by kernel_rfl) (by kernel_rfl) (by kernel_rfl) sz53 (Nat.le_of_ble_eq_true rfl) (by kernel_rfl)) ?_
        refine XL_cons rfl (X_of_Y0 rfl (E_assign (Bo false) rfl (by kernel_rfl))) ?_
        refine XL_nil ?_
        kernel_rfl
      refine V_ret ?_
      obtain rfl := some_inj h
      show Post _ _ _ _ _
      exact ⟨.inr rfl, rfl, rfl, rfl⟩
    · have h := of_false h hc6
      refine V_skip ?_
      show V _ _ _ _
      refine V_sdreg [0, 0, 1, 7, 15] 3 [[.z, .b, .z], [.b, .z, .r 16], [.a, .b, .z]] [false, false, true, true, true, false, false, false, false, false, false, false, false, false, false, false, false, false, false, false, false, false, false, false] [24, 16] (s1 := ⟨[.bot, .bot, .pt 16 0, .pt 24 0, Bo true, .bot, .bot, .bot, .bot, .bot, .bot, .bot, .bot, .bot, .bot, .bot, .bot, .bot, .bot, .bot, .bot, .bot, .bot, .bot], [(24, .box [Ti y4.2.1, Ti y4.2.2.1, Ti y4.2.2.2.1, Ti y4.2.2.2.2]), (16, .box [Ti y4.1.1, Ti y4.1.2.1, Ti y4.1.2.2])]⟩) (by kernel_rfl) (by kernel_rfl) ?_ ?_
      · refine DE_0 0 (.ag [Ti y4.1.1, Ti y4.1.2.1, Ti y4.1.2.2]) (by kernel_rfl) rfl rfl rfl (gsat_none rfl) (by kernel_rfl) (E_loadn (cs := [Ti y4.1.1, Ti y4.1.2.1, Ti y4.1.2.2]) [Ti y4.1.1, Ti y4.1.2.1, Ti y4.1.2.2] wd33 rfl (by kernel_rfl) (Nat.le_of_ble_eq_true rfl) (by kernel_rfl)) 22 rfl ?_
        refine DE_0 1 (.ag [Ti y4.2.1, Ti y4.2.2.1, Ti y4.2.2.2.1, Ti y4.2.2.2.2]) (by kernel_rfl) rfl rfl rfl (gsat_none rfl) (by kernel_rfl) (E_loadn (cs := [Ti y4.2.1, Ti y4.2.2.1, Ti y4.2.2.2.1, Ti y4.2.2.2.2]) [Ti y4.2.1, Ti y4.2.2.1, Ti y4.2.2.2.1, Ti y4.2.2.2.2] wd53 rfl (by kernel_rfl) (Nat.le_of_ble_eq_true rfl) (by kernel_rfl)) 23 rfl ?_
        refine DE_2 (off := 0) (cs := [Ti 0, Ti 0, Ti 0]) (vc := [Ti y4.1.1, Ti y4.1.2.1, Ti y4.1.2.2]) 2 16 [Ti y4.1.1, Ti y4.1.2.1, Ti y4.1.2.2] (by kernel_rfl) rfl rfl rfl (gsat_none rfl) rfl rfl (by kernel_rfl) (by kernel_rfl) (by kernel_rfl) sz33 (Nat.le_of_ble_eq_true rfl) (by kernel_rfl) (by kernel_rfl) (by kernel_rfl) (by kernel_rfl) ?_
        refine DL_nil (by kernel_rfl) ?_
        refine XL_cons rfl (E_store (id := 24) (off := 0) (cs := [Ti 0, Ti 0, Ti 0, Ti 0]) (vc := [Ti y4.2.1, Ti y4.2.2.1, Ti y4.2.2.2.1, Ti y4.2.2.2.2]) [Ti y4.2.1, Ti y4.2.2.1, Ti y4.2.2.2.1, Ti y4.2.2.2.2] rfl rfl (by kernel_rfl) (by kernel_rfl) (by kernel_rfl) sz53 (Nat.le_of_ble_eq_true rfl) (by kernel_rfl)) ?_
        refine XL_cons rfl (X_of_Y0 rfl (E_assign (Bo true) rfl (by kernel_rfl))) ?_
        refine XL_nil ?_
        kernel_rfl
      refine V_ret ?_
      obtain rfl := some_inj h
      show Post _ _ _ _ _
      exact ⟨.inr rfl, rfl, rfl, rfl⟩
theorem cf_impl_formText : ∀ args w, (callFunc 48 args).run Tryd.prog w = .ok (.enter 48 args) w := run_callFunc Tryd.func48 (by kernel_rfl) (by kernel_rfl)
set_option maxRecDepth 100000 in
set_option maxHeartbeats 400000 in
theorem s_impl_formText {f1 : (Int × Int × Int)} {r : ByteArray} (h : r_impl_formText f1 = some r) : CallS Tryd.prog 48 [.ag [Ti f1.1, Ti f1.2.1, Ti f1.2.2]] (.c (.v (.string r))) [] := by
  refine CallS_of_text (rs := [.t 2]) (vs := [.tmp 2]) Tryd.func48 rfl rfl (.cons rfl FitsL.nil) (by decide) 18 rfl ?_
  unfold r_impl_formText at h
  show V _ _ ⟨[.ag [Ti f1.1, Ti f1.2.1, Ti f1.2.2], .bot, .bot, .bot, .bot, .bot, .bot, .bot, .bot, .bot, .bot, .bot, .bot, .bot, .bot, .bot, .bot, .bot], []⟩ _
  refine V_sreg [false, true, false, false, false, false, false, false, false, false, false, false, false, false, false, false, false, false] [8] (s1 := ⟨[.bot, .pt 8 0, .bot, .bot, .bot, .bot, .bot, .bot, .bot, .bot, .bot, .bot, .bot, .bot, .bot, .bot, .bot, .bot], [(8, .box [Ti f1.1, Ti f1.2.1, Ti f1.2.2])]⟩) ?_ ?_
  · refine XL_cons rfl (X_of_Y1 rfl (Y1_box (cs := [Ti f1.1, Ti f1.2.1, Ti f1.2.2]) rfl (by kernel_rfl))) ?_
    refine XL_cons rfl (X_of_Y0 rfl (E_assign (.c (.v (.string ((⟨#[]⟩ : ByteArray))))) rfl (by kernel_rfl))) ?_
    refine XL_nil ?_
    kernel_rfl
  obtain ⟨y2, hy2, h⟩ := of_bind h
  obtain ⟨u3, hu3, h⟩ := of_bind h
  obtain ⟨u4, hu4, h⟩ := of_bind h
  obtain ⟨y5, hy5, h⟩ := of_bind h
  obtain ⟨u6, hu6, h⟩ := of_bind h
  obtain ⟨u7, hu7, h⟩ := of_bind h
  obtain ⟨y8, hy8, h⟩ := of_bind h
  obtain ⟨u9, hu9, h⟩ := of_bind h
  obtain ⟨u10, hu10, h⟩ := of_bind h
  refine V_sdreg [0, 1, 3, 7, 15, 0, 32, 103, 255, 511, 0, 1024, 3303, 8191, 16383, 32767] 16 [[.z, .z, .z, .z, .z, .b, .b, .z, .z, .z, .b, .b, .z, .z, .z, .z], [.a, .z, .z, .z, .z, .b, .b, .z, .z, .z, .b, .b, .z, .z, .z, .z], [.a, .a, .z, .z, .z, .b, .b, .z, .z, .z, .b, .b, .z, .z, .z, .z], [.a, .a, .a, .z, .z, .b, .b, .b, .z, .z, .b, .b, .b, .z, .z, .z], [.a, .a, .a, .a, .z, .b, .b, .b, .z, .z, .b, .b, .b, .z, .z, .z], [.b, .b, .b, .b, .b, .z, .z, .z, .z, .z, .b, .b, .z, .z, .z, .z], [.b, .b, .b, .b, .b, .a, .z, .z, .z, .z, .b, .b, .z, .z, .z, .z], [.a, .a, .a, .b, .b, .a, .a, .z, .z, .z, .b, .b, .z, .z, .z, .z], [.a, .a, .a, .a, .a, .a, .a, .a, .z, .z, .b, .b, .b, .z, .z, .z], [.a, .a, .a, .a, .a, .a, .a, .a, .a, .z, .b, .b, .b, .z, .z, .z], [.b, .b, .b, .b, .b, .b, .b, .b, .b, .b, .z, .z, .z, .z, .z, .z], [.b, .b, .b, .b, .b, .b, .b, .b, .b, .b, .a, .z, .z, .z, .z, .z], [.a, .a, .a, .b, .b, .a, .a, .a, .b, .b, .a, .a, .z, .z, .z, .z], [.a, .a, .a, .a, .a, .a, .a, .a, .a, .a, .a, .a, .a, .z, .z, .z], [.a, .a, .a, .a, .a, .a, .a, .a, .a, .a, .a, .a, .a, .a, .z, .z], [.a, .a, .a, .a, .a, .a, .a, .a, .a, .a, .a, .a, .a, .a, .a, .z]] [false, false, true, false, false, false, false, false, false, false, false, false, false, false, false, false, false, false] [] (s1 := ⟨[.bot, .bot, .c (.v (.string ((((((((⟨#[40]⟩ : ByteArray)) ++ y2) ++ ((⟨#[44]⟩ : ByteArray))) ++ y5) ++ ((⟨#[44]⟩ : ByteArray))) ++ y8) ++ ((⟨#[41]⟩ : ByteArray))))), .bot, .bot, .bot, .bot, .bot, .bot, .bot, .bot, .bot, .bot, .bot, .bot, .bot, .bot, .bot], []⟩) (by kernel_rfl) (by kernel_rfl) ?_ ?_
  · refine DE_0 0 (.pt 8 0) (by kernel_rfl) rfl rfl rfl (gsat_none rfl) (by kernel_rfl) (E_field (.pt 8 0) Tryd.underlying33 rfl sz3 rfl (by kernel_rfl) (by intro hh; cases hh)) 3 rfl ?_
    refine DE_0 1 (I f1.1) (by kernel_rfl) rfl rfl rfl (gsat_none rfl) (by kernel_rfl) (Y0_load1 (c := Ti f1.1) (cs := [Ti f1.2.1, Ti f1.2.2]) sc3 rfl (by kernel_rfl)) 4 rfl ?_
    refine DE_1 2 (by kernel_rfl) rfl rfl rfl (gsat_none rfl) (Y1_call (s_strconv_Itoa hy2) cf_strconv_Itoa rfl (by kernel_rfl)) rfl rfl rfl 5 rfl ?_
    refine DE_0 3 (.c (.v (.string (((⟨#[40]⟩ : ByteArray)) ++ y2)))) (by kernel_rfl) rfl rfl rfl (gsat_none rfl) (by kernel_rfl) (Y0_cat (a := (⟨#[40]⟩ : ByteArray)) (b := y2) rfl (by kernel_rfl) (by kernel_rfl) (catR_some hu3)) 6 rfl ?_
    refine DE_0 4 (.c (.v (.string ((((⟨#[40]⟩ : ByteArray)) ++ y2) ++ ((⟨#[44]⟩ : ByteArray)))))) (by kernel_rfl) rfl rfl rfl (gsat_none rfl) (by kernel_rfl) (Y0_cat (a := ((⟨#[40]⟩ : ByteArray)) ++ y2) (b := (⟨#[44]⟩ : ByteArray)) rfl (by kernel_rfl) (by kernel_rfl) (catR_some hu4)) 7 rfl ?_
    refine DE_0 5 (.pt 8 1) (by kernel_rfl) rfl rfl rfl (gsat_none rfl) (by kernel_rfl) (E_field (.pt 8 1) Tryd.underlying33 rfl sz3 rfl (by kernel_rfl) (by intro hh; cases hh)) 8 rfl ?_
    refine DE_0 6 (I f1.2.1) (by kernel_rfl) rfl rfl rfl (gsat_none rfl) (by kernel_rfl) (Y0_load1 (c := Ti f1.2.1) (cs := [Ti f1.2.2]) sc3 rfl (by kernel_rfl)) 9 rfl ?_
    refine DE_1 7 (by kernel_rfl) rfl rfl rfl (gsat_none rfl) (Y1_call (s_strconv_Itoa hy5) cf_strconv_Itoa rfl (by kernel_rfl)) rfl rfl rfl 10 rfl ?_
    refine DE_0 8 (.c (.v (.string (((((⟨#[40]⟩ : ByteArray)) ++ y2) ++ ((⟨#[44]⟩ : ByteArray))) ++ y5)))) (by kernel_rfl) rfl rfl rfl (gsat_none rfl) (by kernel_rfl) (Y0_cat (a := (((⟨#[40]⟩ : ByteArray)) ++ y2) ++ ((⟨#[44]⟩ : ByteArray))) (b := y5) rfl (by kernel_rfl) (by kernel_rfl) (catR_some hu6)) 11 rfl ?_
    refine DE_0 9 (.c (.v (.string ((((((⟨#[40]⟩ : ByteArray)) ++ y2) ++ ((⟨#[44]⟩ : ByteArray))) ++ y5) ++ ((⟨#[44]⟩ : ByteArray)))))) (by kernel_rfl) rfl rfl rfl (gsat_none rfl) (by kernel_rfl) (Y0_cat (a := ((((⟨#[40]⟩ : ByteArray)) ++ y2) ++ ((⟨#[44]⟩ : ByteArray))) ++ y5) (b := (⟨#[44]⟩ : ByteArray)) rfl (by kernel_rfl) (by kernel_rfl) (catR_some hu7)) 12 rfl ?_
    refine DE_0 10 (.pt 8 2) (by kernel_rfl) rfl rfl rfl (gsat_none rfl) (by kernel_rfl) (E_field (.pt 8 2) Tryd.underlying33 rfl sz3 rfl (by kernel_rfl) (by intro hh; cases hh)) 13 rfl ?_
    refine DE_0 11 (I f1.2.2) (by kernel_rfl) rfl rfl rfl (gsat_none rfl) (by kernel_rfl) (Y0_load1 (c := Ti f1.2.2) (cs := []) sc3 rfl (by kernel_rfl)) 14 rfl ?_
    refine DE_1 12 (by kernel_rfl) rfl rfl rfl (gsat_none rfl) (Y1_call (s_strconv_Itoa hy8) cf_strconv_Itoa rfl (by kernel_rfl)) rfl rfl rfl 15 rfl ?_
    refine DE_0 13 (.c (.v (.string (((((((⟨#[40]⟩ : ByteArray)) ++ y2) ++ ((⟨#[44]⟩ : ByteArray))) ++ y5) ++ ((⟨#[44]⟩ : ByteArray))) ++ y8)))) (by kernel_rfl) rfl rfl rfl (gsat_none rfl) (by kernel_rfl) (Y0_cat (a := (((((⟨#[40]⟩ : ByteArray)) ++ y2) ++ ((⟨#[44]⟩ : ByteArray))) ++ y5) ++ ((⟨#[44]⟩ : ByteArray))) (b := y8) rfl (by kernel_rfl) (by kernel_rfl) (catR_some hu9)) 16 rfl ?_
    refine DE_0 14 (.c (.v (.string ((((((((⟨#[40]⟩ : ByteArray)) ++ y2) ++ ((⟨#[44]⟩ : ByteArray))) ++ y5) ++ ((⟨#[44]⟩ : ByteArray))) ++ y8) ++ ((⟨#[41]⟩ : ByteArray)))))) (by kernel_rfl) rfl rfl rfl (gsat_none rfl) (by kernel_rfl) (Y0_cat (a := ((((((⟨#[40]⟩ : ByteArray)) ++ y2) ++ ((⟨#[44]⟩ : ByteArray))) ++ y5) ++ ((⟨#[44]⟩ : ByteArray))) ++ y8) (b := (⟨#[41]⟩ : ByteArray)) rfl (by kernel_rfl) (by kernel_rfl) (catR_some hu10)) 17 rfl ?_
    refine DE_0 15 (.c (.v (.string ((((((((⟨#[40]⟩ : ByteArray)) ++ y2) ++ ((⟨#[44]⟩ : ByteArray))) ++ y5) ++ ((⟨#[44]⟩ : ByteArray))) ++ y8) ++ ((⟨#[41]⟩ : ByteArray)))))) (by kernel_rfl) rfl rfl rfl (gsat_none rfl) (by kernel_rfl) (E_assign (.c (.v (.string ((((((((⟨#[40]⟩ : ByteArray)) ++ y2) ++ ((⟨#[44]⟩ : ByteArray))) ++ y5) ++ ((⟨#[44]⟩ : ByteArray))) ++ y8) ++ ((⟨#[41]⟩ : ByteArray)))))) rfl (by kernel_rfl)) 2 rfl ?_
    refine DL_nil (by kernel_rfl) ?_
    refine XL_nil ?_
    kernel_rfl
  refine V_ret ?_
  obtain rfl := some_inj h
  show Post _ _ _ _ _
  exact ⟨.inr rfl, rfl, rfl, rfl⟩
theorem cf_impl_matrixText : ∀ args w, (callFunc 49 args).run Tryd.prog w = .ok (.enter 49 args) w := run_callFunc Tryd.func49 (by kernel_rfl) (by kernel_rfl)
set_option maxRecDepth 100000 in
set_option maxHeartbeats 400000 in
theorem s_impl_matrixText {vm1 : (Int × Int × Int × Int)} {r : ByteArray} (h : r_impl_matrixText vm1 = some r) : CallS Tryd.prog 49 [.ag [Ti vm1.1, Ti vm1.2.1, Ti vm1.2.2.1, Ti vm1.2.2.2]] (.c (.v (.string r))) [] := by
  refine CallS_of_text (rs := [.t 2]) (vs := [.tmp 2]) Tryd.func49 rfl rfl (.cons rfl FitsL.nil) (by decide) 23 rfl ?_
  unfold r_impl_matrixText at h
  show V _ _ ⟨[.ag [Ti vm1.1, Ti vm1.2.1, Ti vm1.2.2.1, Ti vm1.2.2.2], .bot, .bot, .bot, .bot, .bot, .bot, .bot, .bot, .bot, .bot, .bot, .bot, .bot, .bot, .bot, .bot, .bot, .bot, .bot, .bot, .bot, .bot], []⟩ _
  refine V_sreg [false, true, false, false, false, false, false, false, false, false, false, false, false, false, false, false, false, false, false, false, false, false, false] [8] (s1 := ⟨[.bot, .pt 8 0, .bot, .bot, .bot, .bot, .bot, .bot, .bot, .bot, .bot, .bot, .bot, .bot, .bot, .bot, .bot, .bot, .bot, .bot, .bot, .bot, .bot], [(8, .box [Ti vm1.1, Ti vm1.2.1, Ti vm1.2.2.1, Ti vm1.2.2.2])]⟩) ?_ ?_
  · refine XL_cons rfl (X_of_Y1 rfl (Y1_box (cs := [Ti vm1.1, Ti vm1.2.1, Ti vm1.2.2.1, Ti vm1.2.2.2]) rfl (by kernel_rfl))) ?_
    refine XL_cons rfl (X_of_Y0 rfl (E_assign (.c (.v (.string ((⟨#[]⟩ : ByteArray))))) rfl (by kernel_rfl))) ?_
    refine XL_nil ?_
    kernel_rfl
  obtain ⟨y2, hy2, h⟩ := of_bind h
  obtain ⟨u3, hu3, h⟩ := of_bind h
  obtain ⟨u4, hu4, h⟩ := of_bind h
  obtain ⟨y5, hy5, h⟩ := of_bind h
  obtain ⟨u6, hu6, h⟩ := of_bind h
  obtain ⟨u7, hu7, h⟩ := of_bind h
  obtain ⟨y8, hy8, h⟩ := of_bind h
  obtain ⟨u9, hu9, h⟩ := of_bind h
  obtain ⟨u10, hu10, h⟩ := of_bind h
  obtain ⟨y11, hy11, h⟩ := of_bind h
  obtain ⟨u12, hu12, h⟩ := of_bind h
  obtain ⟨u13, hu13, h⟩ := of_bind h
  refine V_sdreg [0, 1, 3, 7, 15, 0, 32, 103, 255, 511, 0, 1024, 3303, 8191, 16383, 0, 32768, 105703, 262143, 524287, 1048575] 21 [[.z, .z, .z, .z, .z, .b, .b, .z, .z, .z, .b, .b, .z, .z, .z, .b, .b, .z, .z, .z, .z], [.a, .z, .z, .z, .z, .b, .b, .z, .z, .z, .b, .b, .z, .z, .z, .b, .b, .z, .z, .z, .z], [.a, .a, .z, .z, .z, .b, .b, .z, .z, .z, .b, .b, .z, .z, .z, .b, .b, .z, .z, .z, .z], [.a, .a, .a, .z, .z, .b, .b, .b, .z, .z, .b, .b, .b, .z, .z, .b, .b, .b, .z, .z, .z], [.a, .a, .a, .a, .z, .b, .b, .b, .z, .z, .b, .b, .b, .z, .z, .b, .b, .b, .z, .z, .z], [.b, .b, .b, .b, .b, .z, .z, .z, .z, .z, .b, .b, .z, .z, .z, .b, .b, .z, .z, .z, .z], [.b, .b, .b, .b, .b, .a, .z, .z, .z, .z, .b, .b, .z, .z, .z, .b, .b, .z, .z, .z, .z], [.a, .a, .a, .b, .b, .a, .a, .z, .z, .z, .b, .b, .z, .z, .z, .b, .b, .z, .z, .z, .z], [.a, .a, .a, .a, .a, .a, .a, .a, .z, .z, .b, .b, .b, .z, .z, .b, .b, .b, .z, .z, .z], [.a, .a, .a, .a, .a, .a, .a, .a, .a, .z, .b, .b, .b, .z, .z, .b, .b, .b, .z, .z, .z], [.b, .b, .b, .b, .b, .b, .b, .b, .b, .b, .z, .z, .z, .z, .z, .b, .b, .z, .z, .z, .z], [.b, .b, .b, .b, .b, .b, .b, .b, .b, .b, .a, .z, .z, .z, .z, .b, .b, .z, .z, .z, .z], [.a, .a, .a, .b, .b, .a, .a, .a, .b, .b, .a, .a, .z, .z, .z, .b, .b, .z, .z, .z, .z], [.a, .a, .a, .a, .a, .a, .a, .a, .a, .a, .a, .a, .a, .z, .z, .b, .b, .b, .z, .z, .z], [.a, .a, .a, .a, .a, .a, .a, .a, .a, .a, .a, .a, .a, .a, .z, .b, .b, .b, .z, .z, .z], [.b, .b, .b, .b, .b, .b, .b, .b, .b, .b, .b, .b, .b, .b, .b, .z, .z, .z, .z, .z, .z], [.b, .b, .b, .b, .b, .b, .b, .b, .b, .b, .b, .b, .b, .b, .b, .a, .z, .z, .z, .z, .z], [.a, .a, .a, .b, .b, .a, .a, .a, .b, .b, .a, .a, .a, .b, .b, .a, .a, .z, .z, .z, .z], [.a, .a, .a, .a, .a, .a, .a, .a, .a, .a, .a, .a, .a, .a, .a, .a, .a, .a, .z, .z, .z], [.a, .a, .a, .a, .a, .a, .a, .a, .a, .a, .a, .a, .a, .a, .a, .a, .a, .a, .a, .z, .z], [.a, .a, .a, .a, .a, .a, .a, .a, .a, .a, .a, .a, .a, .a, .a, .a, .a, .a, .a, .a, .z]] [false, false, true, false, false, false, false, false, false, false, false, false, false, false, false, false, false, false, false, false, false, false, false] [] (s1 := ⟨[.bot, .bot, .c (.v (.string ((((((((((⟨#[91]⟩ : ByteArray)) ++ y2) ++ ((⟨#[44]⟩ : ByteArray))) ++ y5) ++ ((⟨#[59]⟩ : ByteArray))) ++ y8) ++ ((⟨#[44]⟩ : ByteArray))) ++ y11) ++ ((⟨#[93]⟩ : ByteArray))))), .bot, .bot, .bot, .bot, .bot, .bot, .bot, .bot, .bot, .bot, .bot, .bot, .bot, .bot, .bot, .bot, .bot, .bot, .bot, .bot], []⟩) (by kernel_rfl) (by kernel_rfl) ?_ ?_
  · refine DE_0 0 (.pt 8 0) (by kernel_rfl) rfl rfl rfl (gsat_none rfl) (by kernel_rfl) (E_field (.pt 8 0) Tryd.underlying53 rfl sz3 rfl (by kernel_rfl) (by intro hh; cases hh)) 3 rfl ?_
    refine DE_0 1 (I vm1.1) (by kernel_rfl) rfl rfl rfl (gsat_none rfl) (by kernel_rfl) (Y0_load1 (c := Ti vm1.1) (cs := [Ti vm1.2.1, Ti vm1.2.2.1, Ti vm1.2.2.2]) sc3 rfl (by kernel_rfl)) 4 rfl ?_
    refine DE_1 2 (by kernel_rfl) rfl rfl rfl (gsat_none rfl) (Y1_call (s_strconv_Itoa hy2) cf_strconv_Itoa rfl (by kernel_rfl)) rfl rfl rfl 5 rfl ?_
    refine DE_0 3 (.c (.v (.string (((⟨#[91]⟩ : ByteArray)) ++ y2)))) (by kernel_rfl) rfl rfl rfl (gsat_none rfl) (by kernel_rfl) (Y0_cat (a := (⟨#[91]⟩ : ByteArray)) (b := y2) rfl (by kernel_rfl) (by kernel_rfl) (catR_some hu3)) 6 rfl ?_
    refine DE_0 4 (.c (.v (.string ((((⟨#[91]⟩ : ByteArray)) ++ y2) ++ ((⟨#[44]⟩ : ByteArray)))))) (by kernel_rfl) rfl rfl rfl (gsat_none rfl) (by kernel_rfl) (Y0_cat (a := ((⟨#[91]⟩ : ByteArray)) ++ y2) (b := (⟨#[44]⟩ : ByteArray)) rfl (by kernel_rfl) (by kernel_rfl) (catR_some hu4)) 7 rfl ?_
    refine DE_0 5 (.pt 8 1) (by kernel_rfl) rfl rfl rfl (gsat_none rfl) (by kernel_rfl) (E_field (.pt 8 1) Tryd.underlying53 rfl sz3 rfl (by kernel_rfl) (by intro hh; cases hh)) 8 rfl ?_
    refine DE_0 6 (I vm1.2.1) (by kernel_rfl) rfl rfl rfl (gsat_none rfl) (by kernel_rfl) (Y0_load1 (c := Ti vm1.2.1) (cs := [Ti vm1.2.2.1, Ti vm1.2.2.2]) sc3 rfl (by kernel_rfl)) 9 rfl ?_
    refine DE_1 7 (by kernel_rfl) rfl rfl rfl (gsat_none rfl) (Y1_call (s_strconv_Itoa hy5) cf_strconv_Itoa rfl (by kernel_rfl)) rfl rfl rfl 10 rfl ?_
    refine DE_0 8 (.c (.v (.string (((((⟨#[91]⟩ : ByteArray)) ++ y2) ++ ((⟨#[44]⟩ : ByteArray))) ++ y5)))) (by kernel_rfl) rfl rfl rfl (gsat_none rfl) (by kernel_rfl) (Y0_cat (a := (((⟨#[91]⟩ : ByteArray)) ++ y2) ++ ((⟨#[44]⟩ : ByteArray))) (b := y5) rfl (by kernel_rfl) (by kernel_rfl) (catR_some hu6)) 11 rfl ?_
    refine DE_0 9 (.c (.v (.string ((((((⟨#[91]⟩ : ByteArray)) ++ y2) ++ ((⟨#[44]⟩ : ByteArray))) ++ y5) ++ ((⟨#[59]⟩ : ByteArray)))))) (by kernel_rfl) rfl rfl rfl (gsat_none rfl) (by kernel_rfl) (Y0_cat (a := ((((⟨#[91]⟩ : ByteArray)) ++ y2) ++ ((⟨#[44]⟩ : ByteArray))) ++ y5) (b := (⟨#[59]⟩ : ByteArray)) rfl (by kernel_rfl) (by kernel_rfl) (catR_some hu7)) 12 rfl ?_
    refine DE_0 10 (.pt 8 2) (by kernel_rfl) rfl rfl rfl (gsat_none rfl) (by kernel_rfl) (E_field (.pt 8 2) Tryd.underlying53 rfl sz3 rfl (by kernel_rfl) (by intro hh; cases hh)) 13 rfl ?_
    refine DE_0 11 (I vm1.2.2.1) (by kernel_rfl) rfl rfl rfl (gsat_none rfl) (by kernel_rfl) (Y0_load1 (c := Ti vm1.2.2.1) (cs := [Ti vm1.2.2.2]) sc3 rfl (by kernel_rfl)) 14 rfl ?_
    refine DE_1 12 (by kernel_rfl) rfl rfl rfl (gsat_none rfl) (Y1_call (s_strconv_Itoa hy8) cf_strconv_Itoa rfl (by kernel_rfl)) rfl rfl rfl 15 rfl ?_
    refine DE_0 13 (.c (.v (.string (((((((⟨#[91]⟩ : ByteArray)) ++ y2) ++ ((⟨#[44]⟩ : ByteArray))) ++ y5) ++ ((⟨#[59]⟩ : ByteArray))) ++ y8)))) (by kernel_rfl) rfl rfl rfl (gsat_none rfl) (by kernel_rfl) (Y0_cat (a := (((((⟨#[91]⟩ : ByteArray)) ++ y2) ++ ((⟨#[44]⟩ : ByteArray))) ++ y5) ++ ((⟨#[59]⟩ : ByteArray))) (b := y8) rfl (by kernel_rfl) (by kernel_rfl) (catR_some hu9)) 16 rfl ?_
    refine DE_0 14 (.c (.v (.string ((((((((⟨#[91]⟩ : ByteArray)) ++ y2) ++ ((⟨#[44]⟩ : ByteArray))) ++ y5) ++ ((⟨#[59]⟩ : ByteArray))) ++ y8) ++ ((⟨#[44]⟩ : ByteArray)))))) (by kernel_rfl) rfl rfl rfl (gsat_none rfl) (by kernel_rfl) (Y0_cat (a := ((((((⟨#[91]⟩ : ByteArray)) ++ y2) ++ ((⟨#[44]⟩ : ByteArray))) ++ y5) ++ ((⟨#[59]⟩ : ByteArray))) ++ y8) (b := (⟨#[44]⟩ : ByteArray)) rfl (by kernel_rfl) (by kernel_rfl) (catR_some hu10)) 17 rfl ?_
    refine DE_0 15 (.pt 8 3) (by kernel_rfl) rfl rfl rfl (gsat_none rfl) (by kernel_rfl) (E_field (.pt 8 3) Tryd.underlying53 rfl sz3 rfl (by kernel_rfl) (by intro hh; cases hh)) 18 rfl ?_
    refine DE_0 16 (I vm1.2.2.2) (by kernel_rfl) rfl rfl rfl (gsat_none rfl) (by kernel_rfl) (Y0_load1 (c := Ti vm1.2.2.2) (cs := []) sc3 rfl (by kernel_rfl)) 19 rfl ?_
    refine DE_1 17 (by kernel_rfl) rfl rfl rfl (gsat_none rfl) (Y1_call (s_strconv_Itoa hy11) cf_strconv_Itoa rfl (by kernel_rfl)) rfl rfl rfl 20 rfl ?_
    refine DE_0 18 (.c (.v (.string (((((((((⟨#[91]⟩ : ByteArray)) ++ y2) ++ ((⟨#[44]⟩ : ByteArray))) ++ y5) ++ ((⟨#[59]⟩ : ByteArray))) ++ y8) ++ ((⟨#[44]⟩ : ByteArray))) ++ y11)))) (by kernel_rfl) rfl rfl rfl (gsat_none rfl) (by kernel_rfl) (Y0_cat (a := (((((((⟨#[91]⟩ : ByteArray)) ++ y2) ++ ((⟨#[44]⟩ : ByteArray))) ++ y5) ++ ((⟨#[59]⟩ : ByteArray))) ++ y8) ++ ((⟨#[44]⟩ : ByteArray))) (b := y11) rfl (by kernel_rfl) (by kernel_rfl) (catR_some hu12)) 21 rfl ?_
    refine DE_0 19 (.c (.v (.string ((((((((((⟨#[91]⟩ : ByteArray)) ++ y2) ++ ((⟨#[44]⟩ : ByteArray))) ++ y5) ++ ((⟨#[59]⟩ : ByteArray))) ++ y8) ++ ((⟨#[44]⟩ : ByteArray))) ++ y11) ++ ((⟨#[93]⟩ : ByteArray)))))) (by kernel_rfl) rfl rfl rfl (gsat_none rfl) (by kernel_rfl) (Y0_cat (a := ((((((((⟨#[91]⟩ : ByteArray)) ++ y2) ++ ((⟨#[44]⟩ : ByteArray))) ++ y5) ++ ((⟨#[59]⟩ : ByteArray))) ++ y8) ++ ((⟨#[44]⟩ : ByteArray))) ++ y11) (b := (⟨#[93]⟩ : ByteArray)) rfl (by kernel_rfl) (by kernel_rfl) (catR_some hu13)) 22 rfl ?_
    refine DE_0 20 (.c (.v (.string ((((((((((⟨#[91]⟩ : ByteArray)) ++ y2) ++ ((⟨#[44]⟩ : ByteArray))) ++ y5) ++ ((⟨#[59]⟩ : ByteArray))) ++ y8) ++ ((⟨#[44]⟩ : ByteArray))) ++ y11) ++ ((⟨#[93]⟩ : ByteArray)))))) (by kernel_rfl) rfl rfl rfl (gsat_none rfl) (by kernel_rfl) (E_assign (.c (.v (.string ((((((((((⟨#[91]⟩ : ByteArray)) ++ y2) ++ ((⟨#[44]⟩ : ByteArray))) ++ y5) ++ ((⟨#[59]⟩ : ByteArray))) ++ y8) ++ ((⟨#[44]⟩ : ByteArray))) ++ y11) ++ ((⟨#[93]⟩ : ByteArray)))))) rfl (by kernel_rfl)) 2 rfl ?_
    refine DL_nil (by kernel_rfl) ?_
    refine XL_nil ?_
    kernel_rfl
  refine V_ret ?_
  obtain rfl := some_inj h
  show Post _ _ _ _ _
  exact ⟨.inr rfl, rfl, rfl, rfl⟩
theorem cf_impl_certificate : ∀ args w, (callFunc 38 args).run Tryd.prog w = .ok (.enter 38 args) w := run_callFunc Tryd.func38 (by kernel_rfl) (by kernel_rfl)
set_option maxRecDepth 100000 in
set_option maxHeartbeats 400000 in
theorem s_impl_certificate {kind1 : ByteArray} {words2 : List ByteArray} {r : ByteArray} (h : r_impl_certificate kind1 words2 = some r) : CallS Tryd.prog 38 [.c (.v (.string kind1)), .c (.sl (words2.map c9))] (.c (.v (.string r))) [] := by
  refine CallS_of_text (rs := [.t 4]) (vs := [.tmp 4]) Tryd.func38 rfl rfl (.cons rfl FitsL.nil) (by decide) 10 rfl ?_
  unfold r_impl_certificate at h
  show V _ _ ⟨[.c (.v (.string kind1)), .c (.sl (words2.map c9)), .bot, .bot, .bot, .bot, .bot, .bot, .bot, .bot], []⟩ _
  refine V_sreg [true, true, false, false, false, false, false, false, false, false] [] (s1 := ⟨[.c (.v (.string kind1)), .c (.sl (words2.map c9)), .bot, .bot, .bot, .bot, .bot, .bot, .bot, .bot], []⟩) ?_ ?_
  · refine XL_cons rfl (X_of_Y0 rfl (E_assign (.c (.v (.string ((⟨#[]⟩ : ByteArray))))) rfl (by kernel_rfl))) ?_
    refine XL_nil ?_
    kernel_rfl
  obtain ⟨u3, hu3, h⟩ := of_bind h
  obtain ⟨y4, hy4, h⟩ := of_bind h
  obtain ⟨u5, hu5, h⟩ := of_bind h
  refine V_sreg [false, false, false, false, true, false, false, false, false, false] [] (s1 := ⟨[.bot, .bot, .bot, .bot, .c (.v (.string ((kind1 ++ ((⟨#[32]⟩ : ByteArray))) ++ y4))), .bot, .bot, .bot, .bot, .bot], []⟩) ?_ ?_
  · refine XL_cons rfl (X_of_Y0 rfl (E_move (.c (.v (.string kind1))) rfl (by kernel_rfl))) ?_
    refine XL_cons rfl (X_of_Y0 rfl (Y0_cat (a := kind1) (b := (⟨#[32]⟩ : ByteArray)) rfl (by kernel_rfl) (by kernel_rfl) (catR_some hu3))) ?_
    refine XL_cons rfl (X_of_Y0 rfl (E_move (.c (.sl (words2.map c9))) rfl (by kernel_rfl))) ?_
    refine XL_cons rfl (X_of_Y1 rfl (Y1_call (s_strings_Join hy4) cf_strings_Join rfl (by kernel_rfl))) ?_
    refine XL_cons rfl (X_of_Y0 rfl (Y0_cat (a := kind1 ++ ((⟨#[32]⟩ : ByteArray))) (b := y4) rfl (by kernel_rfl) (by kernel_rfl) (catR_some hu5))) ?_
    refine XL_cons rfl (X_of_Y0 rfl (E_assign (.c (.v (.string ((kind1 ++ ((⟨#[32]⟩ : ByteArray))) ++ y4)))) rfl (by kernel_rfl))) ?_
    refine XL_nil ?_
    kernel_rfl
  refine V_ret ?_
  obtain rfl := some_inj h
  show Post _ _ _ _ _
  exact ⟨.inr rfl, rfl, rfl, rfl⟩
theorem cf_impl_DifferenceCertificate : ∀ args w, (callFunc 21 args).run Tryd.prog w = .ok (.enter 21 args) w := run_callFunc Tryd.func21 (by kernel_rfl) (by kernel_rfl)
set_option maxRecDepth 100000 in
set_option maxHeartbeats 400000 in
theorem s_impl_DifferenceCertificate {f1 : (Int × Int × Int)} {g2 : (Int × Int × Int)} {r : (ByteArray × Bool)} (h : r_impl_DifferenceCertificate f1 g2 = some r) : CallS Tryd.prog 21 [.ag [Ti f1.1, Ti f1.2.1, Ti f1.2.2], .ag [Ti g2.1, Ti g2.2.1, Ti g2.2.2]] (.tc (.c (.v (.string r.1))) (.tc (Bo r.2) .tn)) [] := by
  refine CallS_of_text (rs := [.t 4, .t 5]) (vs := [.tmp 4, .tmp 5]) Tryd.func21 rfl rfl (.cons rfl (.cons rfl FitsL.nil)) (by decide) 49 rfl ?_
  unfold r_impl_DifferenceCertificate at h
  show V _ _ ⟨[.ag [Ti f1.1, Ti f1.2.1, Ti f1.2.2], .ag [Ti g2.1, Ti g2.2.1, Ti g2.2.2], .bot, .bot, .bot, .bot, .bot, .bot, .bot, .bot, .bot, .bot, .bot, .bot, .bot, .bot, .bot, .bot, .bot, .bot, .bot, .bot, .bot, .bot, .bot, .bot, .bot, .bot, .bot, .bot, .bot, .bot, .bot, .bot, .bot, .bot, .bot, .bot, .bot, .bot, .bot, .bot, .bot, .bot, .bot, .bot, .bot, .bot, .bot], []⟩ _
  refine V_sreg [false, false, true, true, false, false, false, false, false, false, false, false, false, false, false, false, false, false, false, false, false, false, false, false, false, false, false, false, false, false, false, false, false, false, false, false, false, false, false, false, false, false, false, false, false, false, false, false, false] [24, 16] (s1 := ⟨[.bot, .bot, .pt 16 0, .pt 24 0, .bot, .bot, .bot, .bot, .bot, .bot, .bot, .bot, .bot, .bot, .bot, .bot, .bot, .bot, .bot, .bot, .bot, .bot, .bot, .bot, .bot, .bot, .bot, .bot, .bot, .bot, .bot, .bot, .bot, .bot, .bot, .bot, .bot, .bot, .bot, .bot, .bot, .bot, .bot, .bot, .bot, .bot, .bot, .bot, .bot], [(24, .box [Ti g2.1, Ti g2.2.1, Ti g2.2.2]), (16, .box [Ti f1.1, Ti f1.2.1, Ti f1.2.2])]⟩) ?_ ?_
  · refine XL_cons rfl (X_of_Y1 rfl (Y1_box (cs := [Ti f1.1, Ti f1.2.1, Ti f1.2.2]) rfl (by kernel_rfl))) ?_
    refine XL_cons rfl (X_of_Y1 rfl (Y1_box (cs := [Ti g2.1, Ti g2.2.1, Ti g2.2.2]) rfl (by kernel_rfl))) ?_
    refine XL_cons rfl (X_of_Y0 rfl (E_assign (.c (.v (.string ((⟨#[]⟩ : ByteArray))))) rfl (by kernel_rfl))) ?_
    refine XL_cons rfl (X_of_Y0 rfl (E_assign (Bo false) rfl (by kernel_rfl))) ?_
    refine XL_nil ?_
    kernel_rfl
  obtain ⟨y3, hy3, h⟩ := of_bind h
  refine V_sreg [false, false, true, true, false, false, true, true, true, false, false, false, false, false, false, false, false, false, false, false, false, false, false, false, false, false, false, false, false, false, false, false, false, false, false, false, false, false, false, false, false, false, false, false, false, false, false, false, false] [56, 48, 24, 16] (s1 := ⟨[.bot, .bot, .pt 16 0, .pt 24 0, .bot, .bot, .pt 48 0, .pt 56 0, Bo y3.2.2, .bot, .bot, .bot, .bot, .bot, .bot, .bot, .bot, .bot, .bot, .bot, .bot, .bot, .bot, .bot, .bot, .bot, .bot, .bot, .bot, .bot, .bot, .bot, .bot, .bot, .bot, .bot, .bot, .bot, .bot, .bot, .bot, .bot, .bot, .bot, .bot, .bot, .bot, .bot, .bot], [(56, .box [Ti y3.2.1.1, Ti y3.2.1.2.1, Ti y3.2.1.2.2.1, Ti y3.2.1.2.2.2]), (48, .box [Ti y3.1.1, Ti y3.1.2.1, Ti y3.1.2.2]), (24, .box [Ti g2.1, Ti g2.2.1, Ti g2.2.2]), (16, .box [Ti f1.1, Ti f1.2.1, Ti f1.2.2])]⟩) ?_ ?_
  · refine XL_cons rfl (X_of_Y0 rfl (E_loadn (cs := [Ti f1.1, Ti f1.2.1, Ti f1.2.2]) [Ti f1.1, Ti f1.2.1, Ti f1.2.2] wd33 rfl (by kernel_rfl) (Nat.le_of_ble_eq_true rfl) (by kernel_rfl))) ?_
    refine XL_cons rfl (X_of_Y1 rfl (Y1_call (s_impl_ReduceForm hy3) cf_impl_ReduceForm rfl (by kernel_rfl))) ?_
    refine XL_cons rfl (X_of_Y0 rfl (E_move (.tc (.ag [Ti y3.1.1, Ti y3.1.2.1, Ti y3.1.2.2]) (.tc (.ag [Ti y3.2.1.1, Ti y3.2.1.2.1, Ti y3.2.1.2.2.1, Ti y3.2.1.2.2.2]) (.tc (Bo y3.2.2) .tn))) rfl (by kernel_rfl))) ?_
    refine XL_cons rfl (X_of_Y0 rfl (E_ext (n := 0) (.ag [Ti y3.1.1, Ti y3.1.2.1, Ti y3.1.2.2]) (.tc (.ag [Ti y3.2.1.1, Ti y3.2.1.2.1, Ti y3.2.1.2.2.1, Ti y3.2.1.2.2.2]) (.tc (Bo y3.2.2) .tn)) (.ag [Ti y3.1.1, Ti y3.1.2.1, Ti y3.1.2.2]) rfl (by kernel_rfl) (by kernel_rfl) (by intro hh; cases hh))) ?_
    refine XL_cons rfl (X_of_Y0 rfl (E_ext (n := 1) (.ag [Ti y3.1.1, Ti y3.1.2.1, Ti y3.1.2.2]) (.tc (.ag [Ti y3.2.1.1, Ti y3.2.1.2.1, Ti y3.2.1.2.2.1, Ti y3.2.1.2.2.2]) (.tc (Bo y3.2.2) .tn)) (.ag [Ti y3.2.1.1, Ti y3.2.1.2.1, Ti y3.2.1.2.2.1, Ti y3.2.1.2.2.2]) rfl (by kernel_rfl) (by kernel_rfl) (by intro hh; cases hh))) ?_
    refine XL_cons rfl (X_of_Y0 rfl (E_ext (n := 2) (.ag [Ti y3.1.1, Ti y3.1.2.1, Ti y3.1.2.2]) (.tc (.ag [Ti y3.2.1.1, Ti y3.2.1.2.1, Ti y3.2.1.2.2.1, Ti y3.2.1.2.2.2]) (.tc (Bo y3.2.2) .tn)) (Bo y3.2.2) rfl (by kernel_rfl) (by kernel_rfl) (by intro hh; cases hh))) ?_
    refine XL_cons rfl (X_of_Y1 rfl (Y1_alloc (z := zv33) rfl zf33 rfl)) ?_
    refine XL_cons rfl (X_of_Y1 rfl (Y1_alloc (z := zv53) rfl zf53 rfl)) ?_
    refine XL_cons rfl (E_store (id := 48) (off := 0) (cs := [Ti 0, Ti 0, Ti 0]) (vc := [Ti y3.1.1, Ti y3.1.2.1, Ti y3.1.2.2]) [Ti y3.1.1, Ti y3.1.2.1, Ti y3.1.2.2] rfl rfl (by kernel_rfl) (by kernel_rfl) (by kernel_rfl) sz33 (Nat.le_of_ble_eq_true rfl) (by kernel_rfl)) ?_
    refine XL_cons rfl (E_store (id := 56) (off := 0) (cs := [Ti 0, Ti 0, Ti 0, Ti 0]) (vc := [Ti y3.2.1.1, Ti y3.2.1.2.1, Ti y3.2.1.2.2.1, Ti y3.2.1.2.2.2]) [Ti y3.2.1.1, Ti y3.2.1.2.1, Ti y3.2.1.2.2.1, Ti y3.2.1.2.2.2] rfl rfl (by kernel_rfl) (by kernel_rfl) (by kernel_rfl) sz53 (Nat.le_of_ble_eq_true rfl) (by kernel_rfl)) ?_
    refine XL_cons rfl (X_of_Y0 rfl (E_assign (Bo y3.2.2) rfl (by kernel_rfl))) ?_
    refine XL_nil ?_
    kernel_rfl
  obtain ⟨y4, hy4, h⟩ := of_bind h
  refine V_sreg [false, false, true, true, false, false, true, true, true, true, true, true, false, false, false, false, false, false, false, false, false, false, false, false, false, false, false, false, false, false, false, false, false, false, false, false, false, false, false, false, false, false, false, false, false, false, false, false, false] [80, 72, 56, 48, 24, 16] (s1 := ⟨[.bot, .bot, .pt 16 0, .pt 24 0, .bot, .bot, .pt 48 0, .pt 56 0, Bo y3.2.2, .pt 72 0, .pt 80 0, Bo y4.2.2, .bot, .bot, .bot, .bot, .bot, .bot, .bot, .bot, .bot, .bot, .bot, .bot, .bot, .bot, .bot, .bot, .bot, .bot, .bot, .bot, .bot, .bot, .bot, .bot, .bot, .bot, .bot, .bot, .bot, .bot, .bot, .bot, .bot, .bot, .bot, .bot, .bot], [(80, .box [Ti y4.2.1.1, Ti y4.2.1.2.1, Ti y4.2.1.2.2.1, Ti y4.2.1.2.2.2]), (72, .box [Ti y4.1.1, Ti y4.1.2.1, Ti y4.1.2.2]), (56, .box [Ti y3.2.1.1, Ti y3.2.1.2.1, Ti y3.2.1.2.2.1, Ti y3.2.1.2.2.2]), (48, .box [Ti y3.1.1, Ti y3.1.2.1, Ti y3.1.2.2]), (24, .box [Ti g2.1, Ti g2.2.1, Ti g2.2.2]), (16, .box [Ti f1.1, Ti f1.2.1, Ti f1.2.2])]⟩) ?_ ?_
  · refine XL_cons rfl (X_of_Y0 rfl (E_loadn (cs := [Ti g2.1, Ti g2.2.1, Ti g2.2.2]) [Ti g2.1, Ti g2.2.1, Ti g2.2.2] wd33 rfl (by kernel_rfl) (Nat.le_of_ble_eq_true rfl) (by kernel_rfl))) ?_
    refine XL_cons rfl (X_of_Y1 rfl (Y1_call (s_impl_ReduceForm hy4) cf_impl_ReduceForm rfl (by kernel_rfl))) ?_
    refine XL_cons rfl (X_of_Y0 rfl (E_move (.tc (.ag [Ti y4.1.1, Ti y4.1.2.1, Ti y4.1.2.2]) (.tc (.ag [Ti y4.2.1.1, Ti y4.2.1.2.1, Ti y4.2.1.2.2.1, Ti y4.2.1.2.2.2]) (.tc (Bo y4.2.2) .tn))) rfl (by kernel_rfl))) ?_
    refine XL_cons rfl (X_of_Y0 rfl (E_ext (n := 0) (.ag [Ti y4.1.1, Ti y4.1.2.1, Ti y4.1.2.2]) (.tc (.ag [Ti y4.2.1.1, Ti y4.2.1.2.1, Ti y4.2.1.2.2.1, Ti y4.2.1.2.2.2]) (.tc (Bo y4.2.2) .tn)) (.ag [Ti y4.1.1, Ti y4.1.2.1, Ti y4.1.2.2]) rfl (by kernel_rfl) (by kernel_rfl) (by intro hh; cases hh))) ?_
    refine XL_cons rfl (X_of_Y0 rfl (E_ext (n := 1) (.ag [Ti y4.1.1, Ti y4.1.2.1, Ti y4.1.2.2]) (.tc (.ag [Ti y4.2.1.1, Ti y4.2.1.2.1, Ti y4.2.1.2.2.1, Ti y4.2.1.2.2.2]) (.tc (Bo y4.2.2) .tn)) (.ag [Ti y4.2.1.1, Ti y4.2.1.2.1, Ti y4.2.1.2.2.1, Ti y4.2.1.2.2.2]) rfl (by kernel_rfl) (by kernel_rfl) (by intro hh; cases hh))) ?_
    refine XL_cons rfl (X_of_Y0 rfl (E_ext (n := 2) (.ag [Ti y4.1.1, Ti y4.1.2.1, Ti y4.1.2.2]) (.tc (.ag [Ti y4.2.1.1, Ti y4.2.1.2.1, Ti y4.2.1.2.2.1, Ti y4.2.1.2.2.2]) (.tc (Bo y4.2.2) .tn)) (Bo y4.2.2) rfl (by kernel_rfl) (by kernel_rfl) (by intro hh; cases hh))) ?_
    refine XL_cons rfl (X_of_Y1 rfl (Y1_alloc (z := zv33) rfl zf33 rfl)) ?_
    refine XL_cons rfl (X_of_Y1 rfl (Y1_alloc (z := zv53) rfl zf53 rfl)) ?_
    refine XL_cons rfl (E_store (id := 72) (off := 0) (cs := [Ti 0, Ti 0, Ti 0]) (vc := [Ti y4.1.1, Ti y4.1.2.1, Ti y4.1.2.2]) [Ti y4.1.1, Ti y4.1.2.1, Ti y4.1.2.2] rfl rfl (by kernel_rfl) (by kernel_rfl) (by kernel_rfl) sz33 (Nat.le_of_ble_eq_true rfl) (by kernel_rfl)) ?_
    refine XL_cons rfl (E_store (id := 80) (off := 0) (cs := [Ti 0, Ti 0, Ti 0, Ti 0]) (vc := [Ti y4.2.1.1, Ti y4.2.1.2.1, Ti y4.2.1.2.2.1, Ti y4.2.1.2.2.2]) [Ti y4.2.1.1, Ti y4.2.1.2.1, Ti y4.2.1.2.2.1, Ti y4.2.1.2.2.2] rfl rfl (by kernel_rfl) (by kernel_rfl) (by kernel_rfl) sz53 (Nat.le_of_ble_eq_true rfl) (by kernel_rfl)) ?_
    refine XL_cons rfl (X_of_Y0 rfl (E_assign (Bo y4.2.2) rfl (by kernel_rfl))) ?_
    refine XL_nil ?_
    kernel_rfl
  refine V_seq ?_
  obtain ⟨t7, ht7, h⟩ := of_bind h
  have ht7 := some_inj ht7
  refine V_sreg [false, false, true, true, false, false, true, true, false, true, true, false, false, false, false, false, false, false, false, false, false, false, false, false, false, false, false, false, false, false, false, false, false, false, true, false, false, false, false, false, false, false, false, false, false, false, false, false, false] [80, 72, 56, 48, 24, 16] (s1 := ⟨[.bot, .bot, .pt 16 0, .pt 24 0, .bot, .bot, .pt 48 0, .pt 56 0, .bot, .pt 72 0, .pt 80 0, .bot, .bot, .bot, .bot, .bot, .bot, .bot, .bot, .bot, .bot, .bot, .bot, .bot, .bot, .bot, .bot, .bot, .bot, .bot, .bot, .bot, .bot, .bot, Bo t7, .bot, .bot, .bot, .bot, .bot, .bot, .bot, .bot, .bot, .bot, .bot, .bot, .bot, .bot], [(80, .box [Ti y4.2.1.1, Ti y4.2.1.2.1, Ti y4.2.1.2.2.1, Ti y4.2.1.2.2.2]), (72, .box [Ti y4.1.1, Ti y4.1.2.1, Ti y4.1.2.2]), (56, .box [Ti y3.2.1.1, Ti y3.2.1.2.1, Ti y3.2.1.2.2.1, Ti y3.2.1.2.2.2]), (48, .box [Ti y3.1.1, Ti y3.1.2.1, Ti y3.1.2.2]), (24, .box [Ti g2.1, Ti g2.2.1, Ti g2.2.2]), (16, .box [Ti f1.1, Ti f1.2.1, Ti f1.2.2])]⟩) ?_ ?_
  · refine XL_cons rfl (X_of_Y0 rfl (E_move (Bo y3.2.2) rfl (by kernel_rfl))) ?_
    refine XL_cons rfl (X_of_Y0 rfl (Y0_not (b := y3.2.2) rfl (by kernel_rfl))) ?_
    refine XL_cons rfl (X_of_Y0 rfl (E_move (Bo (!y3.2.2)) rfl (by kernel_rfl))) ?_
    refine XL_split (!y3.2.2) (fun hc5 => ?_) (fun hc5 => ?_)
    · refine XL_skipF (!y3.2.2) rfl rfl (by kernel_rfl) hc5 rfl ?_
      refine XL_skipF (!y3.2.2) rfl rfl (by kernel_rfl) hc5 rfl ?_
      refine XL_cons rfl (X_of_Y0 rfl (Y0_pick1 (b := !y3.2.2) (p := true) (q := !y4.2.2) rfl (by kernel_rfl) hc5 (by kernel_rfl))) ?_
      refine XL_cons rfl (X_of_Y0 rfl (E_move (Bo (bif (!y3.2.2) then true else (!y4.2.2))) rfl (by kernel_rfl))) ?_
      refine XL_split (bif (!y3.2.2) then true else (!y4.2.2)) (fun hc6 => ?_) (fun hc6 => ?_)
      · refine XL_skipF (bif (!y3.2.2) then true else (!y4.2.2)) rfl rfl (by kernel_rfl) hc6 rfl ?_
        refine XL_skipF (bif (!y3.2.2) then true else (!y4.2.2)) rfl rfl (by kernel_rfl) hc6 rfl ?_
        refine XL_skipF (bif (!y3.2.2) then true else (!y4.2.2)) rfl rfl (by kernel_rfl) hc6 rfl ?_
        refine XL_cons rfl (X_of_Y0 rfl (Y0_pick1 (b := bif (!y3.2.2) then true else (!y4.2.2)) (p := true) (q := ((y3.1.1 == y4.1.1) && ((y3.1.2.1 == y4.1.2.1) && (y3.1.2.2 == y4.1.2.2)))) rfl (by kernel_rfl) hc6 (by kernel_rfl))) ?_
        refine XL_nil ?_
        subst ht7
        kernel_rfl
      · refine XL_takeC (bif (!y3.2.2) then true else (!y4.2.2)) rfl rfl (by kernel_rfl) hc6 (X_of_Y0 rfl (E_loadn (cs := [Ti y3.1.1, Ti y3.1.2.1, Ti y3.1.2.2]) [Ti y3.1.1, Ti y3.1.2.1, Ti y3.1.2.2] wd33 rfl (by kernel_rfl) (Nat.le_of_ble_eq_true rfl) (by kernel_rfl))) ?_
        refine XL_takeC (bif (!y3.2.2) then true else (!y4.2.2)) rfl rfl (by kernel_rfl) hc6 (X_of_Y0 rfl (E_loadn (cs := [Ti y4.1.1, Ti y4.1.2.1, Ti y4.1.2.2]) [Ti y4.1.1, Ti y4.1.2.1, Ti y4.1.2.2] wd33 rfl (by kernel_rfl) (Nat.le_of_ble_eq_true rfl) (by kernel_rfl))) ?_
        refine XL_takeC (bif (!y3.2.2) then true else (!y4.2.2)) rfl rfl (by kernel_rfl) hc6 (X_of_Y0 rfl (Y0_eqg3 (a0 := y3.1.1) (b0 := y4.1.1) (a1 := y3.1.2.1) (b1 := y4.1.2.1) (a2 := y3.1.2.2) (b2 := y4.1.2.2) eqg33 rfl (by kernel_rfl) (by kernel_rfl))) ?_
        refine XL_cons rfl (X_of_Y0 rfl (Y0_pick0 (b := bif (!y3.2.2) then true else (!y4.2.2)) (p := true) (q := ((y3.1.1 == y4.1.1) && ((y3.1.2.1 == y4.1.2.1) && (y3.1.2.2 == y4.1.2.2)))) rfl (by kernel_rfl) hc6 (by kernel_rfl))) ?_
        refine XL_nil ?_
        subst ht7
        kernel_rfl
    · refine XL_takeC (!y3.2.2) rfl rfl (by kernel_rfl) hc5 (X_of_Y0 rfl (E_move (Bo y4.2.2) rfl (by kernel_rfl))) ?_
      refine XL_takeC (!y3.2.2) rfl rfl (by kernel_rfl) hc5 (X_of_Y0 rfl (Y0_not (b := y4.2.2) rfl (by kernel_rfl))) ?_
      refine XL_cons rfl (X_of_Y0 rfl (Y0_pick0 (b := !y3.2.2) (p := true) (q := !y4.2.2) rfl (by kernel_rfl) hc5 (by kernel_rfl))) ?_
      refine XL_cons rfl (X_of_Y0 rfl (E_move (Bo (bif (!y3.2.2) then true else (!y4.2.2))) rfl (by kernel_rfl))) ?_
      refine XL_split (bif (!y3.2.2) then true else (!y4.2.2)) (fun hc6 => ?_) (fun hc6 => ?_)
      · refine XL_skipF (bif (!y3.2.2) then true else (!y4.2.2)) rfl rfl (by kernel_rfl) hc6 rfl ?_
        refine XL_skipF (bif (!y3.2.2) then true else (!y4.2.2)) rfl rfl (by kernel_rfl) hc6 rfl ?_
        refine XL_skipF (bif (!y3.2.2) then true else (!y4.2.2)) rfl rfl (by kernel_rfl) hc6 rfl ?_
        refine XL_cons rfl (X_of_Y0 rfl (Y0_pick1 (b := bif (!y3.2.2) then true else (!y4.2.2)) (p := true) (q := ((y3.1.1 == y4.1.1) && ((y3.1.2.1 == y4.1.2.1) && (y3.1.2.2 == y4.1.2.2)))) rfl (by kernel_rfl) hc6 (by kernel_rfl))) ?_
        refine XL_nil ?_
        subst ht7
        kernel_rfl
      · refine XL_takeC (bif (!y3.2.2) then true else (!y4.2.2)) rfl rfl (by kernel_rfl) hc6 (X_of_Y0 rfl (E_loadn (cs := [Ti y3.1.1, Ti y3.1.2.1, Ti y3.1.2.2]) [Ti y3.1.1, Ti y3.1.2.1, Ti y3.1.2.2] wd33 rfl (by kernel_rfl) (Nat.le_of_ble_eq_true rfl) (by kernel_rfl))) ?_
        refine XL_takeC (bif (!y3.2.2) then true else (!y4.2.2)) rfl rfl (by kernel_rfl) hc6 (X_of_Y0 rfl (E_loadn (cs := [Ti y4.1.1, Ti y4.1.2.1, Ti y4.1.2.2]) [Ti y4.1.1, Ti y4.1.2.1, Ti y4.1.2.2] wd33 rfl (by kernel_rfl) (Nat.le_of_ble_eq_true rfl) (by kernel_rfl))) ?_
        refine XL_takeC (bif (!y3.2.2) then true else (!y4.2.2)) rfl rfl (by kernel_rfl) hc6 (X_of_Y0 rfl (Y0_eqg3 (a0 := y3.1.1) (b0 := y4.1.1) (a1 := y3.1.2.1) (b1 := y4.1.2.1) (a2 := y3.1.2.2) (b2 := y4.1.2.2) eqg33 rfl (by kernel_rfl) (by kernel_rfl))) ?_
        refine XL_cons rfl (X_of_Y0 rfl (Y0_pick0 (b := bif (!y3.2.2) then true else (!y4.2.2)) (p := true) (q := ((y3.1.1 == y4.1.1) && ((y3.1.2.1 == y4.1.2.1) && (y3.1.2.2 == y4.1.2.2)))) rfl (by kernel_rfl) hc6 (by kernel_rfl))) ?_
        refine XL_nil ?_
        subst ht7
        kernel_rfl
  refine V_cond rfl (fun hc8 => ?_) (fun hc8 => ?_)
  · have h := of_true h hc8
    refine V_sreg [false, false, false, false, true, true, false, false, false, false, false, false, false, false, false, false, false, false, false, false, false, false, false, false, false, false, false, false, false, false, false, false, false, false, false, false, false, false, false, false, false, false, false, false, false, false, false, false, false] [] (s1 := ⟨[.bot, .bot, .bot, .bot, .c (.v (.string ((⟨#[]⟩ : ByteArray)))), Bo false, .bot, .bot, .bot, .bot, .bot, .bot, .bot, .bot, .bot, .bot, .bot, .bot, .bot, .bot, .bot, .bot, .bot, .bot, .bot, .bot, .bot, .bot, .bot, .bot, .bot, .bot, .bot, .bot, .bot, .bot, .bot, .bot, .bot, .bot, .bot, .bot, .bot, .bot, .bot, .bot, .bot, .bot, .bot], []⟩) ?_ ?_
    · refine XL_cons rfl (X_of_Y0 rfl (E_assign (.c (.v (.string ((⟨#[]⟩ : ByteArray))))) rfl (by kernel_rfl))) ?_
      refine XL_cons rfl (X_of_Y0 rfl (E_assign (Bo false) rfl (by kernel_rfl))) ?_
      refine XL_nil ?_
      kernel_rfl
    refine V_ret ?_
    obtain rfl := some_inj h
    show Post _ _ _ _ _
    exact ⟨.inr rfl, rfl, rfl, rfl⟩
  · have h := of_false h hc8
    refine V_skip ?_
    show V _ _ _ _
    obtain ⟨y9, hy9, h⟩ := of_bind h
    obtain ⟨y10, hy10, h⟩ := of_bind h
    obtain ⟨y11, hy11, h⟩ := of_bind h
    obtain ⟨y12, hy12, h⟩ := of_bind h
    obtain ⟨y13, hy13, h⟩ := of_bind h
    obtain ⟨y14, hy14, h⟩ := of_bind h
    obtain ⟨y15, hy15, h⟩ := of_bind h
    refine V_sdreg [0, 1, 0, 7, 0, 31, 0, 127, 0, 511, 0, 2047, 4095, 8191, 16383, 32767] 16 [[.z, .z, .b, .z, .b, .z, .b, .z, .b, .z, .b, .z, .z, .z, .z, .z], [.a, .z, .b, .z, .b, .z, .b, .z, .b, .z, .b, .z, .z, .z, .z, .z], [.b, .b, .z, .z, .b, .z, .b, .z, .b, .z, .b, .z, .z, .z, .z, .z], [.a, .a, .a, .z, .b, .z, .b, .z, .b, .z, .b, .z, .z, .z, .z, .z], [.b, .b, .b, .b, .z, .z, .b, .z, .b, .z, .b, .z, .z, .z, .z, .z], [.a, .a, .a, .a, .a, .z, .b, .z, .b, .z, .b, .z, .z, .z, .z, .z], [.b, .b, .b, .b, .b, .b, .z, .z, .b, .z, .b, .z, .z, .z, .z, .z], [.a, .a, .a, .a, .a, .a, .a, .z, .b, .z, .b, .z, .z, .z, .z, .z], [.b, .b, .b, .b, .b, .b, .b, .b, .z, .z, .b, .z, .z, .z, .z, .z], [.a, .a, .a, .a, .a, .a, .a, .a, .a, .z, .b, .z, .z, .z, .z, .z], [.b, .b, .b, .b, .b, .b, .b, .b, .b, .b, .z, .z, .z, .z, .z, .z], [.a, .a, .a, .a, .a, .a, .a, .a, .a, .a, .a, .z, .z, .z, .z, .z], [.a, .a, .a, .a, .a, .a, .a, .a, .a, .a, .a, .a, .z, .z, .z, .z], [.a, .a, .a, .a, .a, .a, .a, .a, .a, .a, .a, .a, .a, .z, .z, .z], [.a, .a, .a, .a, .a, .a, .a, .a, .a, .a, .a, .a, .a, .a, .z, .z], [.a, .a, .a, .a, .a, .a, .a, .a, .a, .a, .a, .a, .a, .a, .a, .z]] [false, false, false, false, true, true, false, false, false, false, false, false, false, false, false, false, false, false, false, false, false, false, false, false, false, false, false, false, false, false, false, false, false, false, false, false, false, false, false, false, false, false, false, false, false, false, false, false, false] [] (s1 := ⟨[.bot, .bot, .bot, .bot, .c (.v (.string y15)), Bo true, .bot, .bot, .bot, .bot, .bot, .bot, .bot, .bot, .bot, .bot, .bot, .bot, .bot, .bot, .bot, .bot, .bot, .bot, .bot, .bot, .bot, .bot, .bot, .bot, .bot, .bot, .bot, .bot, .bot, .bot, .bot, .bot, .bot, .bot, .bot, .bot, .bot, .bot, .bot, .bot, .bot, .bot, .bot], []⟩) (by kernel_rfl) (by kernel_rfl) ?_ ?_
    · refine DE_0 0 (.ag [Ti f1.1, Ti f1.2.1, Ti f1.2.2]) (by kernel_rfl) rfl rfl rfl (gsat_none rfl) (by kernel_rfl) (E_loadn (cs := [Ti f1.1, Ti f1.2.1, Ti f1.2.2]) [Ti f1.1, Ti f1.2.1, Ti f1.2.2] wd33 rfl (by kernel_rfl) (Nat.le_of_ble_eq_true rfl) (by kernel_rfl)) 35 rfl ?_
      refine DE_1 1 (by kernel_rfl) rfl rfl rfl (gsat_none rfl) (Y1_call (s_impl_formText hy9) cf_impl_formText rfl (by kernel_rfl)) rfl rfl rfl 36 rfl ?_
      refine DE_0 2 (.ag [Ti y3.2.1.1, Ti y3.2.1.2.1, Ti y3.2.1.2.2.1, Ti y3.2.1.2.2.2]) (by kernel_rfl) rfl rfl rfl (gsat_none rfl) (by kernel_rfl) (E_loadn (cs := [Ti y3.2.1.1, Ti y3.2.1.2.1, Ti y3.2.1.2.2.1, Ti y3.2.1.2.2.2]) [Ti y3.2.1.1, Ti y3.2.1.2.1, Ti y3.2.1.2.2.1, Ti y3.2.1.2.2.2] wd53 rfl (by kernel_rfl) (Nat.le_of_ble_eq_true rfl) (by kernel_rfl)) 37 rfl ?_
      refine DE_1 3 (by kernel_rfl) rfl rfl rfl (gsat_none rfl) (Y1_call (s_impl_matrixText hy10) cf_impl_matrixText rfl (by kernel_rfl)) rfl rfl rfl 38 rfl ?_
      refine DE_0 4 (.ag [Ti y3.1.1, Ti y3.1.2.1, Ti y3.1.2.2]) (by kernel_rfl) rfl rfl rfl (gsat_none rfl) (by kernel_rfl) (E_loadn (cs := [Ti y3.1.1, Ti y3.1.2.1, Ti y3.1.2.2]) [Ti y3.1.1, Ti y3.1.2.1, Ti y3.1.2.2] wd33 rfl (by kernel_rfl) (Nat.le_of_ble_eq_true rfl) (by kernel_rfl)) 39 rfl ?_
      refine DE_1 5 (by kernel_rfl) rfl rfl rfl (gsat_none rfl) (Y1_call (s_impl_formText hy11) cf_impl_formText rfl (by kernel_rfl)) rfl rfl rfl 40 rfl ?_
      refine DE_0 6 (.ag [Ti g2.1, Ti g2.2.1, Ti g2.2.2]) (by kernel_rfl) rfl rfl rfl (gsat_none rfl) (by kernel_rfl) (E_loadn (cs := [Ti g2.1, Ti g2.2.1, Ti g2.2.2]) [Ti g2.1, Ti g2.2.1, Ti g2.2.2] wd33 rfl (by kernel_rfl) (Nat.le_of_ble_eq_true rfl) (by kernel_rfl)) 41 rfl ?_
      refine DE_1 7 (by kernel_rfl) rfl rfl rfl (gsat_none rfl) (Y1_call (s_impl_formText hy12) cf_impl_formText rfl (by kernel_rfl)) rfl rfl rfl 42 rfl ?_
      refine DE_0 8 (.ag [Ti y4.2.1.1, Ti y4.2.1.2.1, Ti y4.2.1.2.2.1, Ti y4.2.1.2.2.2]) (by kernel_rfl) rfl rfl rfl (gsat_none rfl) (by kernel_rfl) (E_loadn (cs := [Ti y4.2.1.1, Ti y4.2.1.2.1, Ti y4.2.1.2.2.1, Ti y4.2.1.2.2.2]) [Ti y4.2.1.1, Ti y4.2.1.2.1, Ti y4.2.1.2.2.1, Ti y4.2.1.2.2.2] wd53 rfl (by kernel_rfl) (Nat.le_of_ble_eq_true rfl) (by kernel_rfl)) 43 rfl ?_
      refine DE_1 9 (by kernel_rfl) rfl rfl rfl (gsat_none rfl) (Y1_call (s_impl_matrixText hy13) cf_impl_matrixText rfl (by kernel_rfl)) rfl rfl rfl 44 rfl ?_
      refine DE_0 10 (.ag [Ti y4.1.1, Ti y4.1.2.1, Ti y4.1.2.2]) (by kernel_rfl) rfl rfl rfl (gsat_none rfl) (by kernel_rfl) (E_loadn (cs := [Ti y4.1.1, Ti y4.1.2.1, Ti y4.1.2.2]) [Ti y4.1.1, Ti y4.1.2.1, Ti y4.1.2.2] wd33 rfl (by kernel_rfl) (Nat.le_of_ble_eq_true rfl) (by kernel_rfl)) 45 rfl ?_
      refine DE_1 11 (by kernel_rfl) rfl rfl rfl (gsat_none rfl) (Y1_call (s_impl_formText hy14) cf_impl_formText rfl (by kernel_rfl)) rfl rfl rfl 46 rfl ?_
      refine DE_1 12 (by kernel_rfl) rfl rfl rfl (gsat_none rfl) (Y1_bslice (z := zv9) (els := [y9, y10, y11, y12, y13, y14].map c9) Tryd.underlying22 iz9 rfl (by decide) rfl (by kernel_rfl) rfl (by simp [c9]) (by decide) (by decide)) rfl rfl rfl 47 rfl ?_
      refine DE_1 13 (by kernel_rfl) rfl rfl rfl (gsat_none rfl) (Y1_callS (s_impl_certificate hy15) cf_impl_certificate rfl (by kernel_rfl) rfl rfl) rfl rfl rfl 48 rfl ?_
      refine DE_0 14 (.c (.v (.string y15))) (by kernel_rfl) rfl rfl rfl (gsat_none rfl) (by kernel_rfl) (E_assign (.c (.v (.string y15))) rfl (by kernel_rfl)) 4 rfl ?_
      refine DE_0 15 (Bo true) (by kernel_rfl) rfl rfl rfl (gsat_none rfl) (by kernel_rfl) (E_assign (Bo true) rfl (by kernel_rfl)) 5 rfl ?_
      refine DL_nil (by kernel_rfl) ?_
      refine XL_nil ?_
      kernel_rfl
    refine V_ret ?_
    obtain rfl := some_inj h
    show Post _ _ _ _ _
    exact ⟨.inr rfl, rfl, rfl, rfl⟩
theorem cf_laws_FnExactDifferenceCertificate : ∀ args w, (callFunc 5 args).run Tryd.prog w = .ok (.enter 5 args) w := run_callFunc Tryd.func5 (by kernel_rfl) (by kernel_rfl)
set_option maxRecDepth 100000 in
set_option maxHeartbeats 400000 in
theorem s_laws_FnExactDifferenceCertificate {aF1 : (Int × Int × Int)} {aG2 : (Int × Int × Int)} {r : Bool} (h : r_laws_FnExactDifferenceCertificate aF1 aG2 = some r) : CallS Tryd.prog 5 [.ag [Ti aF1.1, Ti aF1.2.1, Ti aF1.2.2], .ag [Ti aG2.1, Ti aG2.2.1, Ti aG2.2.2]] (Bo r) [] := by
  refine CallS_of_text (rs := [.t 4]) (vs := [.tmp 4]) Tryd.func5 rfl rfl (.cons rfl FitsL.nil) (by decide) 33 rfl ?_
  unfold r_laws_FnExactDifferenceCertificate at h
  show V _ _ ⟨[.ag [Ti aF1.1, Ti aF1.2.1, Ti aF1.2.2], .ag [Ti aG2.1, Ti aG2.2.1, Ti aG2.2.2], .bot, .bot, .bot, .bot, .bot, .bot, .bot, .bot, .bot, .bot, .bot, .bot, .bot, .bot, .bot, .bot, .bot, .bot, .bot, .bot, .bot, .bot, .bot, .bot, .bot, .bot, .bot, .bot, .bot, .bot, .bot], []⟩ _
  refine V_sreg [false, false, true, true, false, false, false, false, false, false, false, false, false, false, false, false, false, false, false, false, false, false, false, false, false, false, false, false, false, false, false, false, false] [24, 16] (s1 := ⟨[.bot, .bot, .pt 16 0, .pt 24 0, .bot, .bot, .bot, .bot, .bot, .bot, .bot, .bot, .bot, .bot, .bot, .bot, .bot, .bot, .bot, .bot, .bot, .bot, .bot, .bot, .bot, .bot, .bot, .bot, .bot, .bot, .bot, .bot, .bot], [(24, .box [Ti aG2.1, Ti aG2.2.1, Ti aG2.2.2]), (16, .box [Ti aF1.1, Ti aF1.2.1, Ti aF1.2.2])]⟩) ?_ ?_
  · refine XL_cons rfl (X_of_Y1 rfl (Y1_box (cs := [Ti aF1.1, Ti aF1.2.1, Ti aF1.2.2]) rfl (by kernel_rfl))) ?_
    refine XL_cons rfl (X_of_Y1 rfl (Y1_box (cs := [Ti aG2.1, Ti aG2.2.1, Ti aG2.2.2]) rfl (by kernel_rfl))) ?_
    refine XL_cons rfl (X_of_Y0 rfl (E_assign (Bo false) rfl (by kernel_rfl))) ?_
    refine XL_nil ?_
    kernel_rfl
  obtain ⟨y3, hy3, h⟩ := of_bind h
  obtain ⟨y4, hy4, h⟩ := of_bind h
  obtain ⟨y5, hy5, h⟩ := of_bind h
  refine V_sdreg [0, 1, 0, 7, 15, 31, 63, 63, 127, 511] 10 [[.z, .z, .b, .z, .z, .z, .z, .z, .z, .z], [.a, .z, .b, .z, .z, .z, .z, .z, .z, .z], [.b, .b, .z, .z, .z, .z, .z, .z, .z, .z], [.a, .a, .a, .z, .z, .z, .z, .z, .z, .z], [.a, .a, .a, .a, .z, .z, .z, .z, .z, .z], [.a, .a, .a, .a, .a, .z, .z, .z, .z, .z], [.a, .a, .a, .a, .a, .a, .z, .b, .z, .z], [.a, .a, .a, .a, .a, .a, .b, .z, .b, .z], [.a, .a, .a, .a, .a, .a, .a, .b, .z, .z], [.a, .a, .a, .a, .a, .a, .a, .a, .a, .z]] [false, false, true, true, false, true, true, false, false, false, false, false, false, false, false, false, false, false, false, false, false, false, false, false, false, false, false, false, false, false, false, false, false] [24, 16] (s1 := ⟨[.bot, .bot, .pt 16 0, .pt 24 0, .bot, .c (.v (.string y5.1)), Bo y5.2, .bot, .bot, .bot, .bot, .bot, .bot, .bot, .bot, .bot, .bot, .bot, .bot, .bot, .bot, .bot, .bot, .bot, .bot, .bot, .bot, .bot, .bot, .bot, .bot, .bot, .bot], [(24, .box [Ti aG2.1, Ti aG2.2.1, Ti aG2.2.2]), (16, .box [Ti aF1.1, Ti aF1.2.1, Ti aF1.2.2])]⟩) (by kernel_rfl) (by kernel_rfl) ?_ ?_
  · refine DE_0 0 (.ag [Ti aF1.1, Ti aF1.2.1, Ti aF1.2.2]) (by kernel_rfl) rfl rfl rfl (gsat_none rfl) (by kernel_rfl) (E_loadn (cs := [Ti aF1.1, Ti aF1.2.1, Ti aF1.2.2]) [Ti aF1.1, Ti aF1.2.1, Ti aF1.2.2] wd31 rfl (by kernel_rfl) (Nat.le_of_ble_eq_true rfl) (by kernel_rfl)) 10 rfl ?_
    refine DE_1 1 (by kernel_rfl) rfl rfl rfl (gsat_none rfl) (Y1_call (s_laws_toForm hy3) cf_laws_toForm rfl (by kernel_rfl)) rfl rfl rfl 11 rfl ?_
    refine DE_0 2 (.ag [Ti aG2.1, Ti aG2.2.1, Ti aG2.2.2]) (by kernel_rfl) rfl rfl rfl (gsat_none rfl) (by kernel_rfl) (E_loadn (cs := [Ti aG2.1, Ti aG2.2.1, Ti aG2.2.2]) [Ti aG2.1, Ti aG2.2.1, Ti aG2.2.2] wd31 rfl (by kernel_rfl) (Nat.le_of_ble_eq_true rfl) (by kernel_rfl)) 12 rfl ?_
    refine DE_1 3 (by kernel_rfl) rfl rfl rfl (gsat_none rfl) (Y1_call (s_laws_toForm hy4) cf_laws_toForm rfl (by kernel_rfl)) rfl rfl rfl 13 rfl ?_
    refine DE_1 4 (by kernel_rfl) rfl rfl rfl (gsat_none rfl) (Y1_call (s_spec_DifferenceCertificate hy5) cf_spec_DifferenceCertificate rfl (by kernel_rfl)) rfl rfl rfl 14 rfl ?_
    refine DE_0 5 (.tc (.c (.v (.string y5.1))) (.tc (Bo y5.2) .tn)) (by kernel_rfl) rfl rfl rfl (gsat_none rfl) (by kernel_rfl) (E_move (.tc (.c (.v (.string y5.1))) (.tc (Bo y5.2) .tn)) rfl (by kernel_rfl)) 9 rfl ?_
    refine DE_0 6 (.c (.v (.string y5.1))) (by kernel_rfl) rfl rfl rfl (gsat_none rfl) (by kernel_rfl) (E_ext (n := 0) (.c (.v (.string y5.1))) (.tc (Bo y5.2) .tn) (.c (.v (.string y5.1))) rfl (by kernel_rfl) (by kernel_rfl) (by intro hh; cases hh)) 15 rfl ?_
    refine DE_0 7 (Bo y5.2) (by kernel_rfl) rfl rfl rfl (gsat_none rfl) (by kernel_rfl) (E_ext (n := 1) (.c (.v (.string y5.1))) (.tc (Bo y5.2) .tn) (Bo y5.2) rfl (by kernel_rfl) (by kernel_rfl) (by intro hh; cases hh)) 16 rfl ?_
    refine DE_0 8 (.c (.v (.string y5.1))) (by kernel_rfl) rfl rfl rfl (gsat_none rfl) (by kernel_rfl) (E_assign (.c (.v (.string y5.1))) rfl (by kernel_rfl)) 5 rfl ?_
    refine DE_0 9 (Bo y5.2) (by kernel_rfl) rfl rfl rfl (gsat_none rfl) (by kernel_rfl) (E_assign (Bo y5.2) rfl (by kernel_rfl)) 6 rfl ?_
    refine DL_nil (by kernel_rfl) ?_
    refine XL_nil ?_
    kernel_rfl
  obtain ⟨y6, hy6, h⟩ := of_bind h
  obtain ⟨y7, hy7, h⟩ := of_bind h
  obtain ⟨y8, hy8, h⟩ := of_bind h
  refine V_sdreg [0, 1, 0, 7, 15, 31, 63, 63, 127, 511] 10 [[.z, .z, .b, .z, .z, .z, .z, .z, .z, .z], [.a, .z, .b, .z, .z, .z, .z, .z, .z, .z], [.b, .b, .z, .z, .z, .z, .z, .z, .z, .z], [.a, .a, .a, .z, .z, .z, .z, .z, .z, .z], [.a, .a, .a, .a, .z, .z, .z, .z, .z, .z], [.a, .a, .a, .a, .a, .z, .z, .z, .z, .z], [.a, .a, .a, .a, .a, .a, .z, .b, .z, .z], [.a, .a, .a, .a, .a, .a, .b, .z, .b, .z], [.a, .a, .a, .a, .a, .a, .a, .b, .z, .z], [.a, .a, .a, .a, .a, .a, .a, .a, .a, .z]] [false, false, false, false, false, true, true, true, true, false, false, false, false, false, false, false, false, false, false, false, false, false, false, false, false, false, false, false, false, false, false, false, false] [] (s1 := ⟨[.bot, .bot, .bot, .bot, .bot, .c (.v (.string y5.1)), Bo y5.2, .c (.v (.string y8.1)), Bo y8.2, .bot, .bot, .bot, .bot, .bot, .bot, .bot, .bot, .bot, .bot, .bot, .bot, .bot, .bot, .bot, .bot, .bot, .bot, .bot, .bot, .bot, .bot, .bot, .bot], []⟩) (by kernel_rfl) (by kernel_rfl) ?_ ?_
  · refine DE_0 0 (.ag [Ti aF1.1, Ti aF1.2.1, Ti aF1.2.2]) (by kernel_rfl) rfl rfl rfl (gsat_none rfl) (by kernel_rfl) (E_loadn (cs := [Ti aF1.1, Ti aF1.2.1, Ti aF1.2.2]) [Ti aF1.1, Ti aF1.2.1, Ti aF1.2.2] wd31 rfl (by kernel_rfl) (Nat.le_of_ble_eq_true rfl) (by kernel_rfl)) 18 rfl ?_
    refine DE_1 1 (by kernel_rfl) rfl rfl rfl (gsat_none rfl) (Y1_call (s_laws_toForm hy6) cf_laws_toForm rfl (by kernel_rfl)) rfl rfl rfl 19 rfl ?_
    refine DE_0 2 (.ag [Ti aG2.1, Ti aG2.2.1, Ti aG2.2.2]) (by kernel_rfl) rfl rfl rfl (gsat_none rfl) (by kernel_rfl) (E_loadn (cs := [Ti aG2.1, Ti aG2.2.1, Ti aG2.2.2]) [Ti aG2.1, Ti aG2.2.1, Ti aG2.2.2] wd31 rfl (by kernel_rfl) (Nat.le_of_ble_eq_true rfl) (by kernel_rfl)) 20 rfl ?_
    refine DE_1 3 (by kernel_rfl) rfl rfl rfl (gsat_none rfl) (Y1_call (s_laws_toForm hy7) cf_laws_toForm rfl (by kernel_rfl)) rfl rfl rfl 21 rfl ?_
    refine DE_1 4 (by kernel_rfl) rfl rfl rfl (gsat_none rfl) (Y1_call (s_impl_DifferenceCertificate hy8) cf_impl_DifferenceCertificate rfl (by kernel_rfl)) rfl rfl rfl 22 rfl ?_
    refine DE_0 5 (.tc (.c (.v (.string y8.1))) (.tc (Bo y8.2) .tn)) (by kernel_rfl) rfl rfl rfl (gsat_none rfl) (by kernel_rfl) (E_move (.tc (.c (.v (.string y8.1))) (.tc (Bo y8.2) .tn)) rfl (by kernel_rfl)) 17 rfl ?_
    refine DE_0 6 (.c (.v (.string y8.1))) (by kernel_rfl) rfl rfl rfl (gsat_none rfl) (by kernel_rfl) (E_ext (n := 0) (.c (.v (.string y8.1))) (.tc (Bo y8.2) .tn) (.c (.v (.string y8.1))) rfl (by kernel_rfl) (by kernel_rfl) (by intro hh; cases hh)) 23 rfl ?_
    refine DE_0 7 (Bo y8.2) (by kernel_rfl) rfl rfl rfl (gsat_none rfl) (by kernel_rfl) (E_ext (n := 1) (.c (.v (.string y8.1))) (.tc (Bo y8.2) .tn) (Bo y8.2) rfl (by kernel_rfl) (by kernel_rfl) (by intro hh; cases hh)) 24 rfl ?_
    refine DE_0 8 (.c (.v (.string y8.1))) (by kernel_rfl) rfl rfl rfl (gsat_none rfl) (by kernel_rfl) (E_assign (.c (.v (.string y8.1))) rfl (by kernel_rfl)) 7 rfl ?_
    refine DE_0 9 (Bo y8.2) (by kernel_rfl) rfl rfl rfl (gsat_none rfl) (by kernel_rfl) (E_assign (Bo y8.2) rfl (by kernel_rfl)) 8 rfl ?_
    refine DL_nil (by kernel_rfl) ?_
    refine XL_nil ?_
    kernel_rfl
  refine V_seq ?_
  obtain ⟨t10, ht10, h⟩ := of_bind h
  have ht10 := some_inj ht10
  refine V_sreg [false, false, false, false, false, false, false, false, false, false, false, false, false, false, false, false, false, false, false, false, false, false, false, false, false, false, false, false, false, false, false, false, true] [] (s1 := ⟨[.bot, .bot, .bot, .bot, .bot, .bot, .bot, .bot, .bot, .bot, .bot, .bot, .bot, .bot, .bot, .bot, .bot, .bot, .bot, .bot, .bot, .bot, .bot, .bot, .bot, .bot, .bot, .bot, .bot, .bot, .bot, .bot, Bo t10], []⟩) ?_ ?_
  · refine XL_cons rfl (X_of_Y0 rfl (E_move (.c (.v (.string y8.1))) rfl (by kernel_rfl))) ?_
    refine XL_cons rfl (X_of_Y0 rfl (E_move (.c (.v (.string y5.1))) rfl (by kernel_rfl))) ?_
    refine XL_cons rfl (X_of_Y0 rfl (Y0_nes (a := y8.1) (b := y5.1) rfl (by kernel_rfl) (by kernel_rfl))) ?_
    refine XL_cons rfl (X_of_Y0 rfl (E_move (Bo (!(y8.1.toList == y5.1.toList))) rfl (by kernel_rfl))) ?_
    refine XL_split (!(y8.1.toList == y5.1.toList)) (fun hc9 => ?_) (fun hc9 => ?_)
    · refine XL_skipF (!(y8.1.toList == y5.1.toList)) rfl rfl (by kernel_rfl) hc9 rfl ?_
      refine XL_skipF (!(y8.1.toList == y5.1.toList)) rfl rfl (by kernel_rfl) hc9 rfl ?_
      refine XL_skipF (!(y8.1.toList == y5.1.toList)) rfl rfl (by kernel_rfl) hc9 rfl ?_
      refine XL_cons rfl (X_of_Y0 rfl (Y0_pick1 (b := !(y8.1.toList == y5.1.toList)) (p := true) (q := y8.2 != y5.2) rfl (by kernel_rfl) hc9 (by kernel_rfl))) ?_
      refine XL_nil ?_
      subst ht10
      kernel_rfl
    · refine XL_takeC (!(y8.1.toList == y5.1.toList)) rfl rfl (by kernel_rfl) hc9 (X_of_Y0 rfl (E_move (Bo y8.2) rfl (by kernel_rfl))) ?_
      refine XL_takeC (!(y8.1.toList == y5.1.toList)) rfl rfl (by kernel_rfl) hc9 (X_of_Y0 rfl (E_move (Bo y5.2) rfl (by kernel_rfl))) ?_
      refine XL_takeC (!(y8.1.toList == y5.1.toList)) rfl rfl (by kernel_rfl) hc9 (X_of_Y0 rfl (Y0_neb (a := y8.2) (b := y5.2) Tryd.underlying4 rfl (by kernel_rfl) (by kernel_rfl))) ?_
      refine XL_cons rfl (X_of_Y0 rfl (Y0_pick0 (b := !(y8.1.toList == y5.1.toList)) (p := true) (q := y8.2 != y5.2) rfl (by kernel_rfl) hc9 (by kernel_rfl))) ?_
      refine XL_nil ?_
      subst ht10
      kernel_rfl
  refine V_cond rfl (fun hc11 => ?_) (fun hc11 => ?_)
  · have h := of_true h hc11
    refine V_sreg [false, false, false, false, true, false, false, false, false, false, false, false, false, false, false, false, false, false, false, false, false, false, false, false, false, false, false, false, false, false, false, false, false] [] (s1 := ⟨[.bot, .bot, .bot, .bot, Bo false, .bot, .bot, .bot, .bot, .bot, .bot, .bot, .bot, .bot, .bot, .bot, .bot, .bot, .bot, .bot, .bot, .bot, .bot, .bot, .bot, .bot, .bot, .bot, .bot, .bot, .bot, .bot, .bot], []⟩) ?_ ?_
    · refine XL_cons rfl (X_of_Y0 rfl (E_assign (Bo false) rfl (by kernel_rfl))) ?_
      refine XL_nil ?_
      kernel_rfl
    refine V_ret ?_
    obtain rfl := some_inj h
    show Post _ _ _ _ _
    exact ⟨.inr rfl, rfl, rfl, rfl⟩
  · have h := of_false h hc11
    refine V_skip ?_
    show V _ _ _ _
    refine V_sreg [false, false, false, false, true, false, false, false, false, false, false, false, false, false, false, false, false, false, false, false, false, false, false, false, false, false, false, false, false, false, false, false, false] [] (s1 := ⟨[.bot, .bot, .bot, .bot, Bo true, .bot, .bot, .bot, .bot, .bot, .bot, .bot, .bot, .bot, .bot, .bot, .bot, .bot, .bot, .bot, .bot, .bot, .bot, .bot, .bot, .bot, .bot, .bot, .bot, .bot, .bot, .bot, .bot], []⟩) ?_ ?_
    · refine XL_cons rfl (X_of_Y0 rfl (E_assign (Bo true) rfl (by kernel_rfl))) ?_
      refine XL_nil ?_
      kernel_rfl
    refine V_ret ?_
    obtain rfl := some_inj h
    show Post _ _ _ _ _
    exact ⟨.inr rfl, rfl, rfl, rfl⟩
theorem cf_spec_foDet : ∀ args w, (callFunc 138 args).run Tryd.prog w = .ok (.enter 138 args) w := run_callFunc Tryd.func138 (by kernel_rfl) (by kernel_rfl)
set_option maxRecDepth 100000 in
set_option maxHeartbeats 400000 in
theorem s_spec_foDet {vm1 : (Int × Int × Int × Int)} {r : Int} (h : r_spec_foDet vm1 = some r) : CallS Tryd.prog 138 [.ag [Ti vm1.1, Ti vm1.2.1, Ti vm1.2.2.1, Ti vm1.2.2.2]] (I r) [] := by
  refine CallS_of_text (rs := [.t 2]) (vs := [.tmp 2]) Tryd.func138 rfl rfl (.cons rfl FitsL.nil) (by decide) 14 rfl ?_
  unfold r_spec_foDet at h
  show V _ _ ⟨[.ag [Ti vm1.1, Ti vm1.2.1, Ti vm1.2.2.1, Ti vm1.2.2.2], .bot, .bot, .bot, .bot, .bot, .bot, .bot, .bot, .bot, .bot, .bot, .bot, .bot], []⟩ _
  refine V_sreg [false, true, false, false, false, false, false, false, false, false, false, false, false, false] [8] (s1 := ⟨[.bot, .pt 8 0, .bot, .bot, .bot, .bot, .bot, .bot, .bot, .bot, .bot, .bot, .bot, .bot], [(8, .box [Ti vm1.1, Ti vm1.2.1, Ti vm1.2.2.1, Ti vm1.2.2.2])]⟩) ?_ ?_
  · refine XL_cons rfl (X_of_Y1 rfl (Y1_box (cs := [Ti vm1.1, Ti vm1.2.1, Ti vm1.2.2.1, Ti vm1.2.2.2]) rfl (by kernel_rfl))) ?_
    refine XL_cons rfl (X_of_Y0 rfl (E_assign (I 0) rfl (by kernel_rfl))) ?_
    refine XL_nil ?_
    kernel_rfl
  obtain ⟨t2, ht2, h⟩ := of_sI h
  refine V_sreg [false, false, true, false, false, false, false, false, false, false, false, false, false, false] [] (s1 := ⟨[.bot, .bot, I t2, .bot, .bot, .bot, .bot, .bot, .bot, .bot, .bot, .bot, .bot, .bot], []⟩) ?_ ?_
  · refine XL_cons rfl (X_of_Y0 rfl (E_field (.pt 8 0) Tryd.underlying53 rfl sz3 rfl (by kernel_rfl) (by intro hh; cases hh))) ?_
    refine XL_cons rfl (X_of_Y0 rfl (Y0_load1 (c := Ti vm1.1) (cs := [Ti vm1.2.1, Ti vm1.2.2.1, Ti vm1.2.2.2]) sc3 rfl (by kernel_rfl))) ?_
    refine XL_cons rfl (X_of_Y0 rfl (E_field (.pt 8 3) Tryd.underlying53 rfl sz3 rfl (by kernel_rfl) (by intro hh; cases hh))) ?_
    refine XL_cons rfl (X_of_Y0 rfl (Y0_load1 (c := Ti vm1.2.2.2) (cs := []) sc3 rfl (by kernel_rfl))) ?_
    refine XL_cons rfl (X_of_Y0 rfl (Y0_mul64 (a := vm1.1) (b := vm1.2.2.2) rfl (by kernel_rfl) (by kernel_rfl))) ?_
    refine XL_cons rfl (X_of_Y0 rfl (E_field (.pt 8 1) Tryd.underlying53 rfl sz3 rfl (by kernel_rfl) (by intro hh; cases hh))) ?_
    refine XL_cons rfl (X_of_Y0 rfl (Y0_load1 (c := Ti vm1.2.1) (cs := [Ti vm1.2.2.1, Ti vm1.2.2.2]) sc3 rfl (by kernel_rfl))) ?_
    refine XL_cons rfl (X_of_Y0 rfl (E_field (.pt 8 2) Tryd.underlying53 rfl sz3 rfl (by kernel_rfl) (by intro hh; cases hh))) ?_
    refine XL_cons rfl (X_of_Y0 rfl (Y0_load1 (c := Ti vm1.2.2.1) (cs := [Ti vm1.2.2.2]) sc3 rfl (by kernel_rfl))) ?_
    refine XL_cons rfl (X_of_Y0 rfl (Y0_mul64 (a := vm1.2.1) (b := vm1.2.2.1) rfl (by kernel_rfl) (by kernel_rfl))) ?_
    refine XL_cons rfl (X_of_Y0 rfl (Y0_sub64 (a := w64 (vm1.1 * vm1.2.2.2)) (b := w64 (vm1.2.1 * vm1.2.2.1)) rfl (by kernel_rfl) (by kernel_rfl))) ?_
    refine XL_cons rfl (X_of_Y0 rfl (E_assign (I (w64 ((w64 (vm1.1 * vm1.2.2.2)) - (w64 (vm1.2.1 * vm1.2.2.1))))) rfl (by kernel_rfl))) ?_
    refine XL_nil ?_
    subst ht2
    kernel_rfl
  refine V_ret ?_
  obtain rfl := some_inj h
  show Post _ _ _ _ _
  exact ⟨.inr rfl, rfl, rfl, rfl⟩
theorem cf_spec_foInverse : ∀ args w, (callFunc 89 args).run Tryd.prog w = .ok (.enter 89 args) w := run_callFunc Tryd.func89 (by kernel_rfl) (by kernel_rfl)
set_option maxRecDepth 100000 in
set_option maxHeartbeats 400000 in
theorem s_spec_foInverse {vm1 : (Int × Int × Int × Int)} {r : (Int × Int × Int × Int)} (h : r_spec_foInverse vm1 = some r) : CallS Tryd.prog 89 [.ag [Ti vm1.1, Ti vm1.2.1, Ti vm1.2.2.1, Ti vm1.2.2.2]] (.ag [Ti r.1, Ti r.2.1, Ti r.2.2.1, Ti r.2.2.2]) [] := by
  refine CallS_of_text (rs := [.w 2 4]) (vs := [.cell 2 53]) Tryd.func89 rfl rfl (.cons ⟨rfl, wd53⟩ FitsL.nil) (by decide) 25 rfl ?_
  unfold r_spec_foInverse at h
  show V _ _ ⟨[.ag [Ti vm1.1, Ti vm1.2.1, Ti vm1.2.2.1, Ti vm1.2.2.2], .bot, .bot, .bot, .bot, .bot, .bot, .bot, .bot, .bot, .bot, .bot, .bot, .bot, .bot, .bot, .bot, .bot, .bot, .bot, .bot, .bot, .bot, .bot, .bot], []⟩ _
  refine V_sreg [false, true, true, false, false, false, false, false, false, false, false, false, false, false, false, false, false, false, false, false, false, false, false, false, false] [16, 8] (s1 := ⟨[.bot, .pt 8 0, .pt 16 0, .bot, .bot, .bot, .bot, .bot, .bot, .bot, .bot, .bot, .bot, .bot, .bot, .bot, .bot, .bot, .bot, .bot, .bot, .bot, .bot, .bot, .bot], [(16, .box [Ti 0, Ti 0, Ti 0, Ti 0]), (8, .box [Ti vm1.1, Ti vm1.2.1, Ti vm1.2.2.1, Ti vm1.2.2.2])]⟩) ?_ ?_
  · refine XL_cons rfl (X_of_Y1 rfl (Y1_box (cs := [Ti vm1.1, Ti vm1.2.1, Ti vm1.2.2.1, Ti vm1.2.2.2]) rfl (by kernel_rfl))) ?_
    refine XL_cons rfl (X_of_Y1 rfl (Y1_alloc (z := zv53) rfl zf53 rfl)) ?_
    refine XL_nil ?_
    kernel_rfl
  obtain ⟨y2, hy2, h⟩ := of_bind h
  refine V_sreg [false, true, true, true, false, false, false, false, false, false, false, false, false, false, false, false, false, false, false, false, false, false, false, false, false] [16, 8] (s1 := ⟨[.bot, .pt 8 0, .pt 16 0, I y2, .bot, .bot, .bot, .bot, .bot, .bot, .bot, .bot, .bot, .bot, .bot, .bot, .bot, .bot, .bot, .bot, .bot, .bot, .bot, .bot, .bot], [(16, .box [Ti 0, Ti 0, Ti 0, Ti 0]), (8, .box [Ti vm1.1, Ti vm1.2.1, Ti vm1.2.2.1, Ti vm1.2.2.2])]⟩) ?_ ?_
  · refine XL_cons rfl (X_of_Y0 rfl (E_loadn (cs := [Ti vm1.1, Ti vm1.2.1, Ti vm1.2.2.1, Ti vm1.2.2.2]) [Ti vm1.1, Ti vm1.2.1, Ti vm1.2.2.1, Ti vm1.2.2.2] wd53 rfl (by kernel_rfl) (Nat.le_of_ble_eq_true rfl) (by kernel_rfl))) ?_
    refine XL_cons rfl (X_of_Y1 rfl (Y1_call (s_spec_foDet hy2) cf_spec_foDet rfl (by kernel_rfl))) ?_
    refine XL_cons rfl (X_of_Y0 rfl (E_assign (I y2) rfl (by kernel_rfl))) ?_
    refine XL_nil ?_
    kernel_rfl
  obtain ⟨f3, hf3, h⟩ := of_sI h
  obtain ⟨f4, hf4, h⟩ := of_sI h
  obtain ⟨f5, hf5, h⟩ := of_sI h
  obtain ⟨f6, hf6, h⟩ := of_sI h
  refine V_sreg [false, false, true, false, false, false, false, false, false, false, false, false, false, false, false, false, false, false, false, false, false, false, false, false, false] [16] (s1 := ⟨[.bot, .bot, .pt 16 0, .bot, .bot, .bot, .bot, .bot, .bot, .bot, .bot, .bot, .bot, .bot, .bot, .bot, .bot, .bot, .bot, .bot, .bot, .bot, .bot, .bot, .bot], [(16, .box [Ti f3, Ti f4, Ti f5, Ti f6])]⟩) ?_ ?_
  · refine XL_cons rfl (X_of_Y0 rfl (E_move (I y2) rfl (by kernel_rfl))) ?_
    refine XL_cons rfl (X_of_Y0 rfl (E_field (.pt 8 3) Tryd.underlying53 rfl sz3 rfl (by kernel_rfl) (by intro hh; cases hh))) ?_
    refine XL_cons rfl (X_of_Y0 rfl (Y0_load1 (c := Ti vm1.2.2.2) (cs := []) sc3 rfl (by kernel_rfl))) ?_
    refine XL_cons rfl (X_of_Y0 rfl (Y0_mul64 (a := y2) (b := vm1.2.2.2) rfl (by kernel_rfl) (by kernel_rfl))) ?_
    refine XL_cons rfl (X_of_Y0 rfl (E_move (I y2) rfl (by kernel_rfl))) ?_
    refine XL_cons rfl (X_of_Y0 rfl (Y0_neg64 (a := y2) rfl (by kernel_rfl))) ?_
    refine XL_cons rfl (X_of_Y0 rfl (E_field (.pt 8 1) Tryd.underlying53 rfl sz3 rfl (by kernel_rfl) (by intro hh; cases hh))) ?_
    refine XL_cons rfl (X_of_Y0 rfl (Y0_load1 (c := Ti vm1.2.1) (cs := [Ti vm1.2.2.1, Ti vm1.2.2.2]) sc3 rfl (by kernel_rfl))) ?_
    refine XL_cons rfl (X_of_Y0 rfl (Y0_mul64 (a := w64 (0 - y2)) (b := vm1.2.1) rfl (by kernel_rfl) (by kernel_rfl))) ?_
    refine XL_cons rfl (X_of_Y0 rfl (E_move (I y2) rfl (by kernel_rfl))) ?_
    refine XL_cons rfl (X_of_Y0 rfl (Y0_neg64 (a := y2) rfl (by kernel_rfl))) ?_
    refine XL_cons rfl (X_of_Y0 rfl (E_field (.pt 8 2) Tryd.underlying53 rfl sz3 rfl (by kernel_rfl) (by intro hh; cases hh))) ?_
    refine XL_cons rfl (X_of_Y0 rfl (Y0_load1 (c := Ti vm1.2.2.1) (cs := [Ti vm1.2.2.2]) sc3 rfl (by kernel_rfl))) ?_
    refine XL_cons rfl (X_of_Y0 rfl (Y0_mul64 (a := w64 (0 - y2)) (b := vm1.2.2.1) rfl (by kernel_rfl) (by kernel_rfl))) ?_
    refine XL_cons rfl (X_of_Y0 rfl (E_move (I y2) rfl (by kernel_rfl))) ?_
    refine XL_cons rfl (X_of_Y0 rfl (E_field (.pt 8 0) Tryd.underlying53 rfl sz3 rfl (by kernel_rfl) (by intro hh; cases hh))) ?_
    refine XL_cons rfl (X_of_Y0 rfl (Y0_load1 (c := Ti vm1.1) (cs := [Ti vm1.2.1, Ti vm1.2.2.1, Ti vm1.2.2.2]) sc3 rfl (by kernel_rfl))) ?_
    refine XL_cons rfl (X_of_Y0 rfl (Y0_mul64 (a := y2) (b := vm1.1) rfl (by kernel_rfl) (by kernel_rfl))) ?_
    refine XL_cons rfl (X_of_Y0 rfl (Y0_build (cs := [Ti (w64 (y2 * vm1.2.2.2)), Ti (w64 ((w64 (0 - y2)) * vm1.2.1)), Ti (w64 ((w64 (0 - y2)) * vm1.2.2.1)), Ti (w64 (y2 * vm1.1))]) pl53 bt53 rfl rfl (by kernel_rfl))) ?_
    refine XL_cons rfl (E_store (id := 16) (off := 0) (cs := [Ti 0, Ti 0, Ti 0, Ti 0]) (vc := [Ti (w64 (y2 * vm1.2.2.2)), Ti (w64 ((w64 (0 - y2)) * vm1.2.1)), Ti (w64 ((w64 (0 - y2)) * vm1.2.2.1)), Ti (w64 (y2 * vm1.1))]) [Ti (w64 (y2 * vm1.2.2.2)), Ti (w64 ((w64 (0 - y2)) * vm1.2.1)), Ti (w64 ((w64 (0 - y2)) * vm1.2.2.1)), Ti (w64 (y2 * vm1.1))] rfl rfl (by kernel_rfl) (by kernel_rfl) (by kernel_rfl) sz53 (Nat.le_of_ble_eq_true rfl) (by kernel_rfl)) ?_
    refine XL_nil ?_
    subst hf3 hf4 hf5 hf6
    kernel_rfl
  refine V_ret ?_
  obtain rfl := some_inj h
  show Post _ _ _ _ _
  exact ⟨.inr rfl, rfl, rfl, rfl⟩
theorem cf_spec_foMatrix : ∀ args w, (callFunc 90 args).run Tryd.prog w = .ok (.enter 90 args) w := run_callFunc Tryd.func90 (by kernel_rfl) (by kernel_rfl)
set_option maxRecDepth 100000 in
set_option maxHeartbeats 400000 in
theorem s_spec_foMatrix {vm1 : (Int × Int × Int × Int)} {r : Bool} (h : r_spec_foMatrix vm1 = some r) : CallS Tryd.prog 90 [.ag [Ti vm1.1, Ti vm1.2.1, Ti vm1.2.2.1, Ti vm1.2.2.2]] (Bo r) [] := by
  refine CallS_of_text (rs := [.t 2]) (vs := [.tmp 2]) Tryd.func90 rfl rfl (.cons rfl FitsL.nil) (by decide) 21 rfl ?_
  unfold r_spec_foMatrix at h
  show V _ _ ⟨[.ag [Ti vm1.1, Ti vm1.2.1, Ti vm1.2.2.1, Ti vm1.2.2.2], .bot, .bot, .bot, .bot, .bot, .bot, .bot, .bot, .bot, .bot, .bot, .bot, .bot, .bot, .bot, .bot, .bot, .bot, .bot, .bot], []⟩ _
  refine V_sreg [false, true, false, false, false, false, false, false, false, false, false, false, false, false, false, false, false, false, false, false, false] [8] (s1 := ⟨[.bot, .pt 8 0, .bot, .bot, .bot, .bot, .bot, .bot, .bot, .bot, .bot, .bot, .bot, .bot, .bot, .bot, .bot, .bot, .bot, .bot, .bot], [(8, .box [Ti vm1.1, Ti vm1.2.1, Ti vm1.2.2.1, Ti vm1.2.2.2])]⟩) ?_ ?_
  · refine XL_cons rfl (X_of_Y1 rfl (Y1_box (cs := [Ti vm1.1, Ti vm1.2.1, Ti vm1.2.2.1, Ti vm1.2.2.2]) rfl (by kernel_rfl))) ?_
    refine XL_cons rfl (X_of_Y0 rfl (E_assign (Bo false) rfl (by kernel_rfl))) ?_
    refine XL_nil ?_
    kernel_rfl
  obtain ⟨y2, hy2, h⟩ := of_bind h
  obtain ⟨b5, hb5, h⟩ := of_bind h
  obtain ⟨b8, hb8, h⟩ := of_bind h
  obtain ⟨b11, hb11, h⟩ := of_bind h
  refine V_sreg [false, false, true, false, false, false, false, false, false, false, false, false, false, false, false, false, false, false, false, false, false] [] (s1 := ⟨[.bot, .bot, Bo b11, .bot, .bot, .bot, .bot, .bot, .bot, .bot, .bot, .bot, .bot, .bot, .bot, .bot, .bot, .bot, .bot, .bot, .bot], []⟩) ?_ ?_
  · refine XL_cons rfl (X_of_Y0 rfl (E_field (.pt 8 0) Tryd.underlying53 rfl sz3 rfl (by kernel_rfl) (by intro hh; cases hh))) ?_
    refine XL_cons rfl (X_of_Y0 rfl (Y0_load1 (c := Ti vm1.1) (cs := [Ti vm1.2.1, Ti vm1.2.2.1, Ti vm1.2.2.2]) sc3 rfl (by kernel_rfl))) ?_
    refine XL_cons rfl (X_of_Y1 rfl (Y1_call (s_spec_nuGood hy2) cf_spec_nuGood rfl (by kernel_rfl))) ?_
    refine XL_cons rfl (X_of_Y0 rfl (E_move (Bo y2) rfl (by kernel_rfl))) ?_
    refine XL_split y2 (fun hc3 => ?_) (fun hc3 => ?_)
    · have hb5 := of_true hb5 hc3
      obtain ⟨y4, hy4, hb5⟩ := of_bind hb5
      have hb5 := some_inj hb5
      refine XL_takeC (y2) rfl rfl (by kernel_rfl) hc3 (X_of_Y0 rfl (E_field (.pt 8 1) Tryd.underlying53 rfl sz3 rfl (by kernel_rfl) (by intro hh; cases hh))) ?_
      refine XL_takeC (y2) rfl rfl (by kernel_rfl) hc3 (X_of_Y0 rfl (Y0_load1 (c := Ti vm1.2.1) (cs := [Ti vm1.2.2.1, Ti vm1.2.2.2]) sc3 rfl (by kernel_rfl))) ?_
      refine XL_takeC (y2) rfl rfl (by kernel_rfl) hc3 (X_of_Y1 rfl (Y1_call (s_spec_nuGood hy4) cf_spec_nuGood rfl (by kernel_rfl))) ?_
      refine XL_cons rfl (X_of_Y0 rfl (Y0_pickTe (b := y2) (p := y4) rfl (by kernel_rfl) hc3 (by kernel_rfl) hb5)) ?_
      refine XL_cons rfl (X_of_Y0 rfl (E_move (Bo b5) rfl (by kernel_rfl))) ?_
      refine XL_split b5 (fun hc6 => ?_) (fun hc6 => ?_)
      · have hb8 := of_true hb8 hc6
        obtain ⟨y7, hy7, hb8⟩ := of_bind hb8
        have hb8 := some_inj hb8
        refine XL_takeC (b5) rfl rfl (by kernel_rfl) hc6 (X_of_Y0 rfl (E_field (.pt 8 2) Tryd.underlying53 rfl sz3 rfl (by kernel_rfl) (by intro hh; cases hh))) ?_
        refine XL_takeC (b5) rfl rfl (by kernel_rfl) hc6 (X_of_Y0 rfl (Y0_load1 (c := Ti vm1.2.2.1) (cs := [Ti vm1.2.2.2]) sc3 rfl (by kernel_rfl))) ?_
        refine XL_takeC (b5) rfl rfl (by kernel_rfl) hc6 (X_of_Y1 rfl (Y1_call (s_spec_nuGood hy7) cf_spec_nuGood rfl (by kernel_rfl))) ?_
        refine XL_cons rfl (X_of_Y0 rfl (Y0_pickTe (b := b5) (p := y7) rfl (by kernel_rfl) hc6 (by kernel_rfl) hb8)) ?_
        refine XL_cons rfl (X_of_Y0 rfl (E_move (Bo b8) rfl (by kernel_rfl))) ?_
        refine XL_split b8 (fun hc9 => ?_) (fun hc9 => ?_)
        · have hb11 := of_true hb11 hc9
          obtain ⟨y10, hy10, hb11⟩ := of_bind hb11
          have hb11 := some_inj hb11
          refine XL_takeC (b8) rfl rfl (by kernel_rfl) hc9 (X_of_Y0 rfl (E_field (.pt 8 3) Tryd.underlying53 rfl sz3 rfl (by kernel_rfl) (by intro hh; cases hh))) ?_
          refine XL_takeC (b8) rfl rfl (by kernel_rfl) hc9 (X_of_Y0 rfl (Y0_load1 (c := Ti vm1.2.2.2) (cs := []) sc3 rfl (by kernel_rfl))) ?_
          refine XL_takeC (b8) rfl rfl (by kernel_rfl) hc9 (X_of_Y1 rfl (Y1_call (s_spec_nuGood hy10) cf_spec_nuGood rfl (by kernel_rfl))) ?_
          refine XL_cons rfl (X_of_Y0 rfl (Y0_pickTe (b := b8) (p := y10) rfl (by kernel_rfl) hc9 (by kernel_rfl) hb11)) ?_
          refine XL_cons rfl (X_of_Y0 rfl (E_assign (Bo b11) rfl (by kernel_rfl))) ?_
          refine XL_nil ?_
          kernel_rfl
        · have hb11 := some_inj (of_false hb11 hc9)
          refine XL_skipT (b8) rfl rfl (by kernel_rfl) hc9 rfl ?_
          refine XL_skipT (b8) rfl rfl (by kernel_rfl) hc9 rfl ?_
          refine XL_skipT (b8) rfl rfl (by kernel_rfl) hc9 rfl ?_
          refine XL_cons rfl (X_of_Y0 rfl (Y0_pickFe (b := b8) (p := false) rfl (by kernel_rfl) hc9 (by kernel_rfl) hb11)) ?_
          refine XL_cons rfl (X_of_Y0 rfl (E_assign (Bo b11) rfl (by kernel_rfl))) ?_
          refine XL_nil ?_
          kernel_rfl
      · have hb8 := some_inj (of_false hb8 hc6)
        refine XL_skipT (b5) rfl rfl (by kernel_rfl) hc6 rfl ?_
        refine XL_skipT (b5) rfl rfl (by kernel_rfl) hc6 rfl ?_
        refine XL_skipT (b5) rfl rfl (by kernel_rfl) hc6 rfl ?_
        refine XL_cons rfl (X_of_Y0 rfl (Y0_pickFe (b := b5) (p := false) rfl (by kernel_rfl) hc6 (by kernel_rfl) hb8)) ?_
        refine XL_cons rfl (X_of_Y0 rfl (E_move (Bo b8) rfl (by kernel_rfl))) ?_
        refine XL_split b8 (fun hc9 => ?_) (fun hc9 => ?_)
        · have hb11 := of_true hb11 hc9
          obtain ⟨y10, hy10, hb11⟩ := of_bind hb11
          have hb11 := some_inj hb11
          refine XL_takeC (b8) rfl rfl (by kernel_rfl) hc9 (X_of_Y0 rfl (E_field (.pt 8 3) Tryd.underlying53 rfl sz3 rfl (by kernel_rfl) (by intro hh; cases hh))) ?_
          refine XL_takeC (b8) rfl rfl (by kernel_rfl) hc9 (X_of_Y0 rfl (Y0_load1 (c := Ti vm1.2.2.2) (cs := []) sc3 rfl (by kernel_rfl))) ?_
          refine XL_takeC (b8) rfl rfl (by kernel_rfl) hc9 (X_of_Y1 rfl (Y1_call (s_spec_nuGood hy10) cf_spec_nuGood rfl (by kernel_rfl))) ?_
          refine XL_cons rfl (X_of_Y0 rfl (Y0_pickTe (b := b8) (p := y10) rfl (by kernel_rfl) hc9 (by kernel_rfl) hb11)) ?_
          refine XL_cons rfl (X_of_Y0 rfl (E_assign (Bo b11) rfl (by kernel_rfl))) ?_
          refine XL_nil ?_
          kernel_rfl
        · have hb11 := some_inj (of_false hb11 hc9)
          refine XL_skipT (b8) rfl rfl (by kernel_rfl) hc9 rfl ?_
          refine XL_skipT (b8) rfl rfl (by kernel_rfl) hc9 rfl ?_
          refine XL_skipT (b8) rfl rfl (by kernel_rfl) hc9 rfl ?_
          refine XL_cons rfl (X_of_Y0 rfl (Y0_pickFe (b := b8) (p := false) rfl (by kernel_rfl) hc9 (by kernel_rfl) hb11)) ?_
          refine XL_cons rfl (X_of_Y0 rfl (E_assign (Bo b11) rfl (by kernel_rfl))) ?_
          refine XL_nil ?_
          kernel_rfl
    · have hb5 := some_inj (of_false hb5 hc3)
      refine XL_skipT (y2) rfl rfl (by kernel_rfl) hc3 rfl ?_
      refine XL_skipT (y2) rfl rfl (by kernel_rfl) hc3 rfl ?_
      refine XL_skipT (y2) rfl rfl (by kernel_rfl) hc3 rfl ?_
      refine XL_cons rfl (X_of_Y0 rfl (Y0_pickFe (b := y2) (p := false) rfl (by kernel_rfl) hc3 (by kernel_rfl) hb5)) ?_
      refine XL_cons rfl (X_of_Y0 rfl (E_move (Bo b5) rfl (by kernel_rfl))) ?_
      refine XL_split b5 (fun hc6 => ?_) (fun hc6 => ?_)
      · have hb8 := of_true hb8 hc6
        obtain ⟨y7, hy7, hb8⟩ := of_bind hb8
        have hb8 := some_inj hb8
        refine XL_takeC (b5) rfl rfl (by kernel_rfl) hc6 (X_of_Y0 rfl (E_field (.pt 8 2) Tryd.underlying53 rfl sz3 rfl (by kernel_rfl) (by intro hh; cases hh))) ?_
        refine XL_takeC (b5) rfl rfl (by kernel_rfl) hc6 (X_of_Y0 rfl (Y0_load1 (c := Ti vm1.2.2.1) (cs := [Ti vm1.2.2.2]) sc3 rfl (by kernel_rfl))) ?_
        refine XL_takeC (b5) rfl rfl (by kernel_rfl) hc6 (X_of_Y1 rfl (Y1_call (s_spec_nuGood hy7) cf_spec_nuGood rfl (by kernel_rfl))) ?_
        refine XL_cons rfl (X_of_Y0 rfl (Y0_pickTe (b := b5) (p := y7) rfl (by kernel_rfl) hc6 (by kernel_rfl) hb8)) ?_
        refine XL_cons rfl (X_of_Y0 rfl (E_move (Bo b8) rfl (by kernel_rfl))) ?_
        refine XL_split b8 (fun hc9 => ?_) (fun hc9 => ?_)
        · have hb11 := of_true hb11 hc9
          obtain ⟨y10, hy10, hb11⟩ := of_bind hb11
          have hb11 := some_inj hb11
          refine XL_takeC (b8) rfl rfl (by kernel_rfl) hc9 (X_of_Y0 rfl (E_field (.pt 8 3) Tryd.underlying53 rfl sz3 rfl (by kernel_rfl) (by intro hh; cases hh))) ?_
          refine XL_takeC (b8) rfl rfl (by kernel_rfl) hc9 (X_of_Y0 rfl (Y0_load1 (c := Ti vm1.2.2.2) (cs := []) sc3 rfl (by kernel_rfl))) ?_
          refine XL_takeC (b8) rfl rfl (by kernel_rfl) hc9 (X_of_Y1 rfl (Y1_call (s_spec_nuGood hy10) cf_spec_nuGood rfl (by kernel_rfl))) ?_
          refine XL_cons rfl (X_of_Y0 rfl (Y0_pickTe (b := b8) (p := y10) rfl (by kernel_rfl) hc9 (by kernel_rfl) hb11)) ?_
          refine XL_cons rfl (X_of_Y0 rfl (E_assign (Bo b11) rfl (by kernel_rfl))) ?_
          refine XL_nil ?_
          kernel_rfl
        · have hb11 := some_inj (of_false hb11 hc9)
          refine XL_skipT (b8) rfl rfl (by kernel_rfl) hc9 rfl ?_
          refine XL_skipT (b8) rfl rfl (by kernel_rfl) hc9 rfl ?_
          refine XL_skipT (b8) rfl rfl (by kernel_rfl) hc9 rfl ?_
          refine XL_cons rfl (X_of_Y0 rfl (Y0_pickFe (b := b8) (p := false) rfl (by kernel_rfl) hc9 (by kernel_rfl) hb11)) ?_
          refine XL_cons rfl (X_of_Y0 rfl (E_assign (Bo b11) rfl (by kernel_rfl))) ?_
          refine XL_nil ?_
          kernel_rfl
      · have hb8 := some_inj (of_false hb8 hc6)
        refine XL_skipT (b5) rfl rfl (by kernel_rfl) hc6 rfl ?_
        refine XL_skipT (b5) rfl rfl (by kernel_rfl) hc6 rfl ?_
        refine XL_skipT (b5) rfl rfl (by kernel_rfl) hc6 rfl ?_
        refine XL_cons rfl (X_of_Y0 rfl (Y0_pickFe (b := b5) (p := false) rfl (by kernel_rfl) hc6 (by kernel_rfl) hb8)) ?_
        refine XL_cons rfl (X_of_Y0 rfl (E_move (Bo b8) rfl (by kernel_rfl))) ?_
        refine XL_split b8 (fun hc9 => ?_) (fun hc9 => ?_)
        · have hb11 := of_true hb11 hc9
          obtain ⟨y10, hy10, hb11⟩ := of_bind hb11
          have hb11 := some_inj hb11
          refine XL_takeC (b8) rfl rfl (by kernel_rfl) hc9 (X_of_Y0 rfl (E_field (.pt 8 3) Tryd.underlying53 rfl sz3 rfl (by kernel_rfl) (by intro hh; cases hh))) ?_
          refine XL_takeC (b8) rfl rfl (by kernel_rfl) hc9 (X_of_Y0 rfl (Y0_load1 (c := Ti vm1.2.2.2) (cs := []) sc3 rfl (by kernel_rfl))) ?_
          refine XL_takeC (b8) rfl rfl (by kernel_rfl) hc9 (X_of_Y1 rfl (Y1_call (s_spec_nuGood hy10) cf_spec_nuGood rfl (by kernel_rfl))) ?_
          refine XL_cons rfl (X_of_Y0 rfl (Y0_pickTe (b := b8) (p := y10) rfl (by kernel_rfl) hc9 (by kernel_rfl) hb11)) ?_
          refine XL_cons rfl (X_of_Y0 rfl (E_assign (Bo b11) rfl (by kernel_rfl))) ?_
          refine XL_nil ?_
          kernel_rfl
        · have hb11 := some_inj (of_false hb11 hc9)
          refine XL_skipT (b8) rfl rfl (by kernel_rfl) hc9 rfl ?_
          refine XL_skipT (b8) rfl rfl (by kernel_rfl) hc9 rfl ?_
          refine XL_skipT (b8) rfl rfl (by kernel_rfl) hc9 rfl ?_
          refine XL_cons rfl (X_of_Y0 rfl (Y0_pickFe (b := b8) (p := false) rfl (by kernel_rfl) hc9 (by kernel_rfl) hb11)) ?_
          refine XL_cons rfl (X_of_Y0 rfl (E_assign (Bo b11) rfl (by kernel_rfl))) ?_
          refine XL_nil ?_
          kernel_rfl
  refine V_ret ?_
  obtain rfl := some_inj h
  show Post _ _ _ _ _
  exact ⟨.inr rfl, rfl, rfl, rfl⟩
theorem cf_spec_EquivalenceMatrix : ∀ args w, (callFunc 50 args).run Tryd.prog w = .ok (.enter 50 args) w := run_callFunc Tryd.func50 (by kernel_rfl) (by kernel_rfl)
set_option maxRecDepth 100000 in
set_option maxHeartbeats 400000 in
theorem s_spec_EquivalenceMatrix {f1 : (Int × Int × Int)} {g2 : (Int × Int × Int)} {r : (((Int × Int × Int × Int)) × Bool)} (h : r_spec_EquivalenceMatrix f1 g2 = some r) : CallS Tryd.prog 50 [.ag [Ti f1.1, Ti f1.2.1, Ti f1.2.2], .ag [Ti g2.1, Ti g2.2.1, Ti g2.2.2]] (.tc (.ag [Ti r.1.1, Ti r.1.2.1, Ti r.1.2.2.1, Ti r.1.2.2.2]) (.tc (Bo r.2) .tn)) [] := by
  refine CallS_of_text (rs := [.w 4 4, .t 5]) (vs := [.cell 4 53, .tmp 5]) Tryd.func50 rfl rfl (.cons ⟨rfl, wd53⟩ (.cons rfl FitsL.nil)) (by decide) 44 rfl ?_
  unfold r_spec_EquivalenceMatrix at h
  show V _ _ ⟨[.ag [Ti f1.1, Ti f1.2.1, Ti f1.2.2], .ag [Ti g2.1, Ti g2.2.1, Ti g2.2.2], .bot, .bot, .bot, .bot, .bot, .bot, .bot, .bot, .bot, .bot, .bot, .bot, .bot, .bot, .bot, .bot, .bot, .bot, .bot, .bot, .bot, .bot, .bot, .bot, .bot, .bot, .bot, .bot, .bot, .bot, .bot, .bot, .bot, .bot, .bot, .bot, .bot, .bot, .bot, .bot, .bot, .bot], []⟩ _
  refine V_sreg [false, false, true, true, true, false, false, false, false, false, false, false, false, false, false, false, false, false, false, false, false, false, false, false, false, false, false, false, false, false, false, false, false, false, false, false, false, false, false, false, false, false, false, false] [32, 24, 16] (s1 := ⟨[.bot, .bot, .pt 16 0, .pt 24 0, .pt 32 0, .bot, .bot, .bot, .bot, .bot, .bot, .bot, .bot, .bot, .bot, .bot, .bot, .bot, .bot, .bot, .bot, .bot, .bot, .bot, .bot, .bot, .bot, .bot, .bot, .bot, .bot, .bot, .bot, .bot, .bot, .bot, .bot, .bot, .bot, .bot, .bot, .bot, .bot, .bot], [(32, .box [Ti 0, Ti 0, Ti 0, Ti 0]), (24, .box [Ti g2.1, Ti g2.2.1, Ti g2.2.2]), (16, .box [Ti f1.1, Ti f1.2.1, Ti f1.2.2])]⟩) ?_ ?_
  · refine XL_cons rfl (X_of_Y1 rfl (Y1_box (cs := [Ti f1.1, Ti f1.2.1, Ti f1.2.2]) rfl (by kernel_rfl))) ?_
    refine XL_cons rfl (X_of_Y1 rfl (Y1_box (cs := [Ti g2.1, Ti g2.2.1, Ti g2.2.2]) rfl (by kernel_rfl))) ?_
    refine XL_cons rfl (X_of_Y1 rfl (Y1_alloc (z := zv53) rfl zf53 rfl)) ?_
    refine XL_cons rfl (X_of_Y0 rfl (E_assign (Bo false) rfl (by kernel_rfl))) ?_
    refine XL_nil ?_
    kernel_rfl
  refine V_seq ?_
  obtain ⟨y3, hy3, h⟩ := of_bind h
  obtain ⟨b6, hb6, h⟩ := of_bind h
  refine V_sreg [false, false, true, true, true, false, false, false, false, false, false, false, false, false, false, false, false, false, true, false, false, false, false, false, false, false, false, false, false, false, false, false, false, false, false, false, false, false, false, false, false, false, false, false] [32, 24, 16] (s1 := ⟨[.bot, .bot, .pt 16 0, .pt 24 0, .pt 32 0, .bot, .bot, .bot, .bot, .bot, .bot, .bot, .bot, .bot, .bot, .bot, .bot, .bot, Bo b6, .bot, .bot, .bot, .bot, .bot, .bot, .bot, .bot, .bot, .bot, .bot, .bot, .bot, .bot, .bot, .bot, .bot, .bot, .bot, .bot, .bot, .bot, .bot, .bot, .bot], [(32, .box [Ti 0, Ti 0, Ti 0, Ti 0]), (24, .box [Ti g2.1, Ti g2.2.1, Ti g2.2.2]), (16, .box [Ti f1.1, Ti f1.2.1, Ti f1.2.2])]⟩) ?_ ?_
  · refine XL_cons rfl (X_of_Y0 rfl (E_loadn (cs := [Ti f1.1, Ti f1.2.1, Ti f1.2.2]) [Ti f1.1, Ti f1.2.1, Ti f1.2.2] wd33 rfl (by kernel_rfl) (Nat.le_of_ble_eq_true rfl) (by kernel_rfl))) ?_
    refine XL_cons rfl (X_of_Y1 rfl (Y1_call (s_spec_foDefinite hy3) cf_spec_foDefinite rfl (by kernel_rfl))) ?_
    refine XL_cons rfl (X_of_Y0 rfl (Y0_not (b := y3) rfl (by kernel_rfl))) ?_
    refine XL_cons rfl (X_of_Y0 rfl (E_move (Bo (!y3)) rfl (by kernel_rfl))) ?_
    refine XL_split (!y3) (fun hc4 => ?_) (fun hc4 => ?_)
    · have hb6 := some_inj (of_true hb6 hc4)
      refine XL_skipF (!y3) rfl rfl (by kernel_rfl) hc4 rfl ?_
      refine XL_skipF (!y3) rfl rfl (by kernel_rfl) hc4 rfl ?_
      refine XL_skipF (!y3) rfl rfl (by kernel_rfl) hc4 rfl ?_
      refine XL_cons rfl (X_of_Y0 rfl (Y0_pickTe (b := !y3) (p := true) rfl (by kernel_rfl) hc4 (by kernel_rfl) hb6)) ?_
      refine XL_nil ?_
      kernel_rfl
    · have hb6 := of_false hb6 hc4
      obtain ⟨y5, hy5, hb6⟩ := of_bind hb6
      have hb6 := some_inj hb6
      refine XL_takeC (!y3) rfl rfl (by kernel_rfl) hc4 (X_of_Y0 rfl (E_loadn (cs := [Ti g2.1, Ti g2.2.1, Ti g2.2.2]) [Ti g2.1, Ti g2.2.1, Ti g2.2.2] wd33 rfl (by kernel_rfl) (Nat.le_of_ble_eq_true rfl) (by kernel_rfl))) ?_
      refine XL_takeC (!y3) rfl rfl (by kernel_rfl) hc4 (X_of_Y1 rfl (Y1_call (s_spec_foDefinite hy5) cf_spec_foDefinite rfl (by kernel_rfl))) ?_
      refine XL_takeC (!y3) rfl rfl (by kernel_rfl) hc4 (X_of_Y0 rfl (Y0_not (b := y5) rfl (by kernel_rfl))) ?_
      refine XL_cons rfl (X_of_Y0 rfl (Y0_pickFe (b := !y3) (p := !y5) rfl (by kernel_rfl) hc4 (by kernel_rfl) hb6)) ?_
      refine XL_nil ?_
      kernel_rfl
  refine V_cond rfl (fun hc7 => ?_) (fun hc7 => ?_)
  · have h := of_true h hc7
    refine V_sreg [false, false, false, false, true, true, false, false, false, false, false, false, false, false, false, false, false, false, false, false, false, false, false, false, false, false, false, false, false, false, false, false, false, false, false, false, false, false, false, false, false, false, false, false] [32] (s1 := ⟨[.bot, .bot, .bot, .bot, .pt 32 0, Bo false, .bot, .bot, .bot, .bot, .bot, .bot, .bot, .bot, .bot, .bot, .bot, .bot, .bot, .bot, .bot, .bot, .bot, .bot, .bot, .bot, .bot, .bot, .bot, .bot, .bot, .bot, .bot, .bot, .bot, .bot, .bot, .bot, .bot, .bot, .bot, .bot, .bot, .bot], [(32, .box [Ti 0, Ti 0, Ti 0, Ti 0])]⟩) ?_ ?_
    · refine XL_cons rfl (X_of_Y0 rfl (Y0_build (cs := [Ti 0, Ti 0, Ti 0, Ti 0]) pl53 bt53 rfl rfl (by kernel_rfl))) ?_
      refine XL_cons rfl (E_store (id := 32) (off := 0) (cs := [Ti 0, Ti 0, Ti 0, Ti 0]) (vc := [Ti 0, Ti 0, Ti 0, Ti 0]) [Ti 0, Ti 0, Ti 0, Ti 0] rfl rfl (by kernel_rfl) (by kernel_rfl) (by kernel_rfl) sz53 (Nat.le_of_ble_eq_true rfl) (by kernel_rfl)) ?_
      refine XL_cons rfl (X_of_Y0 rfl (E_assign (Bo false) rfl (by kernel_rfl))) ?_
      refine XL_nil ?_
      kernel_rfl
    refine V_ret ?_
    obtain rfl := some_inj h
    show Post _ _ _ _ _
    exact ⟨.inr rfl, rfl, rfl, rfl⟩
  · have h := of_false h hc7
    refine V_skip ?_
    show V _ _ _ _
    obtain ⟨y8, hy8, h⟩ := of_bind h
    refine V_sreg [false, false, false, true, true, false, true, true, false, false, false, false, false, false, false, false, false, false, false, false, false, false, false, false, false, false, false, false, false, false, false, false, false, false, false, false, false, false, false, false, false, false, false, false] [56, 48, 32, 24] (s1 := ⟨[.bot, .bot, .bot, .pt 24 0, .pt 32 0, .bot, .pt 48 0, .pt 56 0, .bot, .bot, .bot, .bot, .bot, .bot, .bot, .bot, .bot, .bot, .bot, .bot, .bot, .bot, .bot, .bot, .bot, .bot, .bot, .bot, .bot, .bot, .bot, .bot, .bot, .bot, .bot, .bot, .bot, .bot, .bot, .bot, .bot, .bot, .bot, .bot], [(56, .box [Ti y8.2.1, Ti y8.2.2.1, Ti y8.2.2.2.1, Ti y8.2.2.2.2]), (48, .box [Ti y8.1.1, Ti y8.1.2.1, Ti y8.1.2.2]), (32, .box [Ti 0, Ti 0, Ti 0, Ti 0]), (24, .box [Ti g2.1, Ti g2.2.1, Ti g2.2.2])]⟩) ?_ ?_
    · refine XL_cons rfl (X_of_Y0 rfl (E_loadn (cs := [Ti f1.1, Ti f1.2.1, Ti f1.2.2]) [Ti f1.1, Ti f1.2.1, Ti f1.2.2] wd33 rfl (by kernel_rfl) (Nat.le_of_ble_eq_true rfl) (by kernel_rfl))) ?_
      refine XL_cons rfl (X_of_Y1 rfl (Y1_call (s_spec_reReduce hy8) cf_spec_reReduce rfl (by kernel_rfl))) ?_
      refine XL_cons rfl (X_of_Y0 rfl (E_move (.tc (.ag [Ti y8.1.1, Ti y8.1.2.1, Ti y8.1.2.2]) (.tc (.ag [Ti y8.2.1, Ti y8.2.2.1, Ti y8.2.2.2.1, Ti y8.2.2.2.2]) .tn)) rfl (by kernel_rfl))) ?_
      refine XL_cons rfl (X_of_Y0 rfl (E_ext (n := 0) (.ag [Ti y8.1.1, Ti y8.1.2.1, Ti y8.1.2.2]) (.tc (.ag [Ti y8.2.1, Ti y8.2.2.1, Ti y8.2.2.2.1, Ti y8.2.2.2.2]) .tn) (.ag [Ti y8.1.1, Ti y8.1.2.1, Ti y8.1.2.2]) rfl (by kernel_rfl) (by kernel_rfl) (by intro hh; cases hh))) ?_
      refine XL_cons rfl (X_of_Y0 rfl (E_ext (n := 1) (.ag [Ti y8.1.1, Ti y8.1.2.1, Ti y8.1.2.2]) (.tc (.ag [Ti y8.2.1, Ti y8.2.2.1, Ti y8.2.2.2.1, Ti y8.2.2.2.2]) .tn) (.ag [Ti y8.2.1, Ti y8.2.2.1, Ti y8.2.2.2.1, Ti y8.2.2.2.2]) rfl (by kernel_rfl) (by kernel_rfl) (by intro hh; cases hh))) ?_
      refine XL_cons rfl (X_of_Y1 rfl (Y1_alloc (z := zv33) rfl zf33 rfl)) ?_
      refine XL_cons rfl (X_of_Y1 rfl (Y1_alloc (z := zv53) rfl zf53 rfl)) ?_
      refine XL_cons rfl (E_store (id := 48) (off := 0) (cs := [Ti 0, Ti 0, Ti 0]) (vc := [Ti y8.1.1, Ti y8.1.2.1, Ti y8.1.2.2]) [Ti y8.1.1, Ti y8.1.2.1, Ti y8.1.2.2] rfl rfl (by kernel_rfl) (by kernel_rfl) (by kernel_rfl) sz33 (Nat.le_of_ble_eq_true rfl) (by kernel_rfl)) ?_
      refine XL_cons rfl (E_store (id := 56) (off := 0) (cs := [Ti 0, Ti 0, Ti 0, Ti 0]) (vc := [Ti y8.2.1, Ti y8.2.2.1, Ti y8.2.2.2.1, Ti y8.2.2.2.2]) [Ti y8.2.1, Ti y8.2.2.1, Ti y8.2.2.2.1, Ti y8.2.2.2.2] rfl rfl (by kernel_rfl) (by kernel_rfl) (by kernel_rfl) sz53 (Nat.le_of_ble_eq_true rfl) (by kernel_rfl)) ?_
      refine XL_nil ?_
      kernel_rfl
    obtain ⟨y9, hy9, h⟩ := of_bind h
    refine V_sreg [false, false, false, false, true, false, true, true, true, true, false, false, false, false, false, false, false, false, false, false, false, false, false, false, false, false, false, false, false, false, false, false, false, false, false, false, false, false, false, false, false, false, false, false] [72, 64, 56, 48, 32] (s1 := ⟨[.bot, .bot, .bot, .bot, .pt 32 0, .bot, .pt 48 0, .pt 56 0, .pt 64 0, .pt 72 0, .bot, .bot, .bot, .bot, .bot, .bot, .bot, .bot, .bot, .bot, .bot, .bot, .bot, .bot, .bot, .bot, .bot, .bot, .bot, .bot, .bot, .bot, .bot, .bot, .bot, .bot, .bot, .bot, .bot, .bot, .bot, .bot, .bot, .bot], [(72, .box [Ti y9.2.1, Ti y9.2.2.1, Ti y9.2.2.2.1, Ti y9.2.2.2.2]), (64, .box [Ti y9.1.1, Ti y9.1.2.1, Ti y9.1.2.2]), (56, .box [Ti y8.2.1, Ti y8.2.2.1, Ti y8.2.2.2.1, Ti y8.2.2.2.2]), (48, .box [Ti y8.1.1, Ti y8.1.2.1, Ti y8.1.2.2]), (32, .box [Ti 0, Ti 0, Ti 0, Ti 0])]⟩) ?_ ?_
    · refine XL_cons rfl (X_of_Y0 rfl (E_loadn (cs := [Ti g2.1, Ti g2.2.1, Ti g2.2.2]) [Ti g2.1, Ti g2.2.1, Ti g2.2.2] wd33 rfl (by kernel_rfl) (Nat.le_of_ble_eq_true rfl) (by kernel_rfl))) ?_
      refine XL_cons rfl (X_of_Y1 rfl (Y1_call (s_spec_reReduce hy9) cf_spec_reReduce rfl (by kernel_rfl))) ?_
      refine XL_cons rfl (X_of_Y0 rfl (E_move (.tc (.ag [Ti y9.1.1, Ti y9.1.2.1, Ti y9.1.2.2]) (.tc (.ag [Ti y9.2.1, Ti y9.2.2.1, Ti y9.2.2.2.1, Ti y9.2.2.2.2]) .tn)) rfl (by kernel_rfl))) ?_
      refine XL_cons rfl (X_of_Y0 rfl (E_ext (n := 0) (.ag [Ti y9.1.1, Ti y9.1.2.1, Ti y9.1.2.2]) (.tc (.ag [Ti y9.2.1, Ti y9.2.2.1, Ti y9.2.2.2.1, Ti y9.2.2.2.2]) .tn) (.ag [Ti y9.1.1, Ti y9.1.2.1, Ti y9.1.2.2]) rfl (by kernel_rfl) (by kernel_rfl) (by intro hh; cases hh))) ?_
      refine XL_cons rfl (X_of_Y0 rfl (E_ext (n := 1) (.ag [Ti y9.1.1, Ti y9.1.2.1, Ti y9.1.2.2]) (.tc (.ag [Ti y9.2.1, Ti y9.2.2.1, Ti y9.2.2.2.1, Ti y9.2.2.2.2]) .tn) (.ag [Ti y9.2.1, Ti y9.2.2.1, Ti y9.2.2.2.1, Ti y9.2.2.2.2]) rfl (by kernel_rfl) (by kernel_rfl) (by intro hh; cases hh))) ?_
      refine XL_cons rfl (X_of_Y1 rfl (Y1_alloc (z := zv33) rfl zf33 rfl)) ?_
      refine XL_cons rfl (X_of_Y1 rfl (Y1_alloc (z := zv53) rfl zf53 rfl)) ?_
      refine XL_cons rfl (E_store (id := 64) (off := 0) (cs := [Ti 0, Ti 0, Ti 0]) (vc := [Ti y9.1.1, Ti y9.1.2.1, Ti y9.1.2.2]) [Ti y9.1.1, Ti y9.1.2.1, Ti y9.1.2.2] rfl rfl (by kernel_rfl) (by kernel_rfl) (by kernel_rfl) sz33 (Nat.le_of_ble_eq_true rfl) (by kernel_rfl)) ?_
      refine XL_cons rfl (E_store (id := 72) (off := 0) (cs := [Ti 0, Ti 0, Ti 0, Ti 0]) (vc := [Ti y9.2.1, Ti y9.2.2.1, Ti y9.2.2.2.1, Ti y9.2.2.2.2]) [Ti y9.2.1, Ti y9.2.2.1, Ti y9.2.2.2.1, Ti y9.2.2.2.2] rfl rfl (by kernel_rfl) (by kernel_rfl) (by kernel_rfl) sz53 (Nat.le_of_ble_eq_true rfl) (by kernel_rfl)) ?_
      refine XL_nil ?_
      kernel_rfl
    obtain ⟨y10, hy10, h⟩ := of_bind h
    obtain ⟨y11, hy11, h⟩ := of_bind h
    refine V_sdreg [0, 0, 2, 7, 0, 31] 5 [[.z, .b, .b, .z, .b], [.b, .z, .z, .z, .b], [.b, .a, .z, .z, .b], [.a, .a, .a, .z, .b], [.b, .b, .b, .b, .z]] [false, false, false, false, true, false, true, false, true, false, true, false, false, false, false, false, false, false, false, false, false, false, false, false, false, false, false, false, false, false, false, false, false, false, false, false, false, false, false, false, false, false, false, false] [80, 64, 48, 32] (s1 := ⟨[.bot, .bot, .bot, .bot, .pt 32 0, .bot, .pt 48 0, .bot, .pt 64 0, .bot, .pt 80 0, .bot, .bot, .bot, .bot, .bot, .bot, .bot, .bot, .bot, .bot, .bot, .bot, .bot, .bot, .bot, .bot, .bot, .bot, .bot, .bot, .bot, .bot, .bot, .bot, .bot, .bot, .bot, .bot, .bot, .bot, .bot, .bot, .bot], [(80, .box [Ti y11.1, Ti y11.2.1, Ti y11.2.2.1, Ti y11.2.2.2]), (64, .box [Ti y9.1.1, Ti y9.1.2.1, Ti y9.1.2.2]), (48, .box [Ti y8.1.1, Ti y8.1.2.1, Ti y8.1.2.2]), (32, .box [Ti 0, Ti 0, Ti 0, Ti 0])]⟩) (by kernel_rfl) (by kernel_rfl) ?_ ?_
    · refine DE_0 0 (.ag [Ti y8.2.1, Ti y8.2.2.1, Ti y8.2.2.2.1, Ti y8.2.2.2.2]) (by kernel_rfl) rfl rfl rfl (gsat_none rfl) (by kernel_rfl) (E_loadn (cs := [Ti y8.2.1, Ti y8.2.2.1, Ti y8.2.2.2.1, Ti y8.2.2.2.2]) [Ti y8.2.1, Ti y8.2.2.1, Ti y8.2.2.2.1, Ti y8.2.2.2.2] wd53 rfl (by kernel_rfl) (Nat.le_of_ble_eq_true rfl) (by kernel_rfl)) 30 rfl ?_
      refine DE_0 1 (.ag [Ti y9.2.1, Ti y9.2.2.1, Ti y9.2.2.2.1, Ti y9.2.2.2.2]) (by kernel_rfl) rfl rfl rfl (gsat_none rfl) (by kernel_rfl) (E_loadn (cs := [Ti y9.2.1, Ti y9.2.2.1, Ti y9.2.2.2.1, Ti y9.2.2.2.2]) [Ti y9.2.1, Ti y9.2.2.1, Ti y9.2.2.2.1, Ti y9.2.2.2.2] wd53 rfl (by kernel_rfl) (Nat.le_of_ble_eq_true rfl) (by kernel_rfl)) 31 rfl ?_
      refine DE_1 2 (by kernel_rfl) rfl rfl rfl (gsat_none rfl) (Y1_call (s_spec_foInverse hy10) cf_spec_foInverse rfl (by kernel_rfl)) rfl rfl rfl 32 rfl ?_
      refine DE_1 3 (by kernel_rfl) rfl rfl rfl (gsat_none rfl) (Y1_call (s_spec_foMul hy11) cf_spec_foMul rfl (by kernel_rfl)) rfl rfl rfl 33 rfl ?_
      refine DE_1 4 (by kernel_rfl) rfl rfl rfl (gsat_none rfl) (Y1_alloc (z := zv53) rfl zf53 rfl) rfl rfl rfl 10 rfl ?_
      refine DL_nil (by kernel_rfl) ?_
      refine XL_cons rfl (E_store (id := 80) (off := 0) (cs := [Ti 0, Ti 0, Ti 0, Ti 0]) (vc := [Ti y11.1, Ti y11.2.1, Ti y11.2.2.1, Ti y11.2.2.2]) [Ti y11.1, Ti y11.2.1, Ti y11.2.2.1, Ti y11.2.2.2] rfl rfl (by kernel_rfl) (by kernel_rfl) (by kernel_rfl) sz53 (Nat.le_of_ble_eq_true rfl) (by kernel_rfl)) ?_
      refine XL_nil ?_
      kernel_rfl
    refine V_seq ?_
    obtain ⟨b14, hb14, h⟩ := of_bind h
    refine V_sreg [false, false, false, false, true, false, false, false, false, false, true, false, false, false, false, false, false, false, false, false, false, false, false, false, false, false, false, false, false, false, false, false, false, false, false, false, false, false, false, false, false, true, false, false] [80, 32] (s1 := ⟨[.bot, .bot, .bot, .bot, .pt 32 0, .bot, .bot, .bot, .bot, .bot, .pt 80 0, .bot, .bot, .bot, .bot, .bot, .bot, .bot, .bot, .bot, .bot, .bot, .bot, .bot, .bot, .bot, .bot, .bot, .bot, .bot, .bot, .bot, .bot, .bot, .bot, .bot, .bot, .bot, .bot, .bot, .bot, Bo b14, .bot, .bot], [(80, .box [Ti y11.1, Ti y11.2.1, Ti y11.2.2.1, Ti y11.2.2.2]), (32, .box [Ti 0, Ti 0, Ti 0, Ti 0])]⟩) ?_ ?_
    · refine XL_cons rfl (X_of_Y0 rfl (E_loadn (cs := [Ti y8.1.1, Ti y8.1.2.1, Ti y8.1.2.2]) [Ti y8.1.1, Ti y8.1.2.1, Ti y8.1.2.2] wd33 rfl (by kernel_rfl) (Nat.le_of_ble_eq_true rfl) (by kernel_rfl))) ?_
      refine XL_cons rfl (X_of_Y0 rfl (E_loadn (cs := [Ti y9.1.1, Ti y9.1.2.1, Ti y9.1.2.2]) [Ti y9.1.1, Ti y9.1.2.1, Ti y9.1.2.2] wd33 rfl (by kernel_rfl) (Nat.le_of_ble_eq_true rfl) (by kernel_rfl))) ?_
      refine XL_cons rfl (X_of_Y0 rfl (Y0_neg3 (a0 := y8.1.1) (b0 := y9.1.1) (a1 := y8.1.2.1) (b1 := y9.1.2.1) (a2 := y8.1.2.2) (b2 := y9.1.2.2) neg33 rfl (by kernel_rfl) (by kernel_rfl))) ?_
      refine XL_cons rfl (X_of_Y0 rfl (E_move (Bo (!((y8.1.1 == y9.1.1) && ((y8.1.2.1 == y9.1.2.1) && (y8.1.2.2 == y9.1.2.2))))) rfl (by kernel_rfl))) ?_
      refine XL_split (!((y8.1.1 == y9.1.1) && ((y8.1.2.1 == y9.1.2.1) && (y8.1.2.2 == y9.1.2.2)))) (fun hc12 => ?_) (fun hc12 => ?_)
      · have hb14 := some_inj (of_true hb14 hc12)
        refine XL_skipF (!((y8.1.1 == y9.1.1) && ((y8.1.2.1 == y9.1.2.1) && (y8.1.2.2 == y9.1.2.2)))) rfl rfl (by kernel_rfl) hc12 rfl ?_
        refine XL_skipF (!((y8.1.1 == y9.1.1) && ((y8.1.2.1 == y9.1.2.1) && (y8.1.2.2 == y9.1.2.2)))) rfl rfl (by kernel_rfl) hc12 rfl ?_
        refine XL_skipF (!((y8.1.1 == y9.1.1) && ((y8.1.2.1 == y9.1.2.1) && (y8.1.2.2 == y9.1.2.2)))) rfl rfl (by kernel_rfl) hc12 rfl ?_
        refine XL_cons rfl (X_of_Y0 rfl (Y0_pickTe (b := !((y8.1.1 == y9.1.1) && ((y8.1.2.1 == y9.1.2.1) && (y8.1.2.2 == y9.1.2.2)))) (p := true) rfl (by kernel_rfl) hc12 (by kernel_rfl) hb14)) ?_
        refine XL_nil ?_
        kernel_rfl
      · have hb14 := of_false hb14 hc12
        obtain ⟨y13, hy13, hb14⟩ := of_bind hb14
        have hb14 := some_inj hb14
        refine XL_takeC (!((y8.1.1 == y9.1.1) && ((y8.1.2.1 == y9.1.2.1) && (y8.1.2.2 == y9.1.2.2)))) rfl rfl (by kernel_rfl) hc12 (X_of_Y0 rfl (E_loadn (cs := [Ti y11.1, Ti y11.2.1, Ti y11.2.2.1, Ti y11.2.2.2]) [Ti y11.1, Ti y11.2.1, Ti y11.2.2.1, Ti y11.2.2.2] wd53 rfl (by kernel_rfl) (Nat.le_of_ble_eq_true rfl) (by kernel_rfl))) ?_
        refine XL_takeC (!((y8.1.1 == y9.1.1) && ((y8.1.2.1 == y9.1.2.1) && (y8.1.2.2 == y9.1.2.2)))) rfl rfl (by kernel_rfl) hc12 (X_of_Y1 rfl (Y1_call (s_spec_foMatrix hy13) cf_spec_foMatrix rfl (by kernel_rfl))) ?_
        refine XL_takeC (!((y8.1.1 == y9.1.1) && ((y8.1.2.1 == y9.1.2.1) && (y8.1.2.2 == y9.1.2.2)))) rfl rfl (by kernel_rfl) hc12 (X_of_Y0 rfl (Y0_not (b := y13) rfl (by kernel_rfl))) ?_
        refine XL_cons rfl (X_of_Y0 rfl (Y0_pickFe (b := !((y8.1.1 == y9.1.1) && ((y8.1.2.1 == y9.1.2.1) && (y8.1.2.2 == y9.1.2.2)))) (p := !y13) rfl (by kernel_rfl) hc12 (by kernel_rfl) hb14)) ?_
        refine XL_nil ?_
        kernel_rfl
    refine V_cond rfl (fun hc15 => ?_) (fun hc15 => ?_)
    · have h := of_true h hc15
      refine V_sreg [false, false, false, false, true, true, false, false, false, false, false, false, false, false, false, false, false, false, false, false, false, false, false, false, false, false, false, false, false, false, false, false, false, false, false, false, false, false, false, false, false, false, false, false] [32] (s1 := ⟨[.bot, .bot, .bot, .bot, .pt 32 0, Bo false, .bot, .bot, .bot, .bot, .bot, .bot, .bot, .bot, .bot, .bot, .bot, .bot, .bot, .bot, .bot, .bot, .bot, .bot, .bot, .bot, .bot, .bot, .bot, .bot, .bot, .bot, .bot, .bot, .bot, .bot, .bot, .bot, .bot, .bot, .bot, .bot, .bot, .bot], [(32, .box [Ti 0, Ti 0, Ti 0, Ti 0])]⟩) ?_ ?_
      · refine XL_cons rfl (X_of_Y0 rfl (Y0_build (cs := [Ti 0, Ti 0, Ti 0, Ti 0]) pl53 bt53 rfl rfl (by kernel_rfl))) ?_
        refine XL_cons rfl (E_store (id := 32) (off := 0) (cs := [Ti 0, Ti 0, Ti 0, Ti 0]) (vc := [Ti 0, Ti 0, Ti 0, Ti 0]) [Ti 0, Ti 0, Ti 0, Ti 0] rfl rfl (by kernel_rfl) (by kernel_rfl) (by kernel_rfl) sz53 (Nat.le_of_ble_eq_true rfl) (by kernel_rfl)) ?_
        refine XL_cons rfl (X_of_Y0 rfl (E_assign (Bo false) rfl (by kernel_rfl))) ?_
        refine XL_nil ?_
        kernel_rfl
      refine V_ret ?_
      obtain rfl := some_inj h
      show Post _ _ _ _ _
      exact ⟨.inr rfl, rfl, rfl, rfl⟩
    · have h := of_false h hc15
      refine V_skip ?_
      show V _ _ _ _
      refine V_sreg [false, false, false, false, true, true, false, false, false, false, false, false, false, false, false, false, false, false, false, false, false, false, false, false, false, false, false, false, false, false, false, false, false, false, false, false, false, false, false, false, false, false, false, false] [32] (s1 := ⟨[.bot, .bot, .bot, .bot, .pt 32 0, Bo true, .bot, .bot, .bot, .bot, .bot, .bot, .bot, .bot, .bot, .bot, .bot, .bot, .bot, .bot, .bot, .bot, .bot, .bot, .bot, .bot, .bot, .bot, .bot, .bot, .bot, .bot, .bot, .bot, .bot, .bot, .bot, .bot, .bot, .bot, .bot, .bot, .bot, .bot], [(32, .box [Ti y11.1, Ti y11.2.1, Ti y11.2.2.1, Ti y11.2.2.2])]⟩) ?_ ?_
      · refine XL_cons rfl (X_of_Y0 rfl (E_loadn (cs := [Ti y11.1, Ti y11.2.1, Ti y11.2.2.1, Ti y11.2.2.2]) [Ti y11.1, Ti y11.2.1, Ti y11.2.2.1, Ti y11.2.2.2] wd53 rfl (by kernel_rfl) (Nat.le_of_ble_eq_true rfl) (by kernel_rfl))) ?_
        refine XL_cons rfl (E_store (id := 32) (off := 0) (cs := [Ti 0, Ti 0, Ti 0, Ti 0]) (vc := [Ti y11.1, Ti y11.2.1, Ti y11.2.2.1, Ti y11.2.2.2]) [Ti y11.1, Ti y11.2.1, Ti y11.2.2.1, Ti y11.2.2.2] rfl rfl (by kernel_rfl) (by kernel_rfl) (by kernel_rfl) sz53 (Nat.le_of_ble_eq_true rfl) (by kernel_rfl)) ?_
        refine XL_cons rfl (X_of_Y0 rfl (E_assign (Bo true) rfl (by kernel_rfl))) ?_
        refine XL_nil ?_
        kernel_rfl
      refine V_ret ?_
      obtain rfl := some_inj h
      show Post _ _ _ _ _
      exact ⟨.inr rfl, rfl, rfl, rfl⟩
theorem cf_spec_EquivalenceCertificate : ∀ args w, (callFunc 22 args).run Tryd.prog w = .ok (.enter 22 args) w := run_callFunc Tryd.func22 (by kernel_rfl) (by kernel_rfl)
set_option maxRecDepth 100000 in
set_option maxHeartbeats 400000 in
theorem s_spec_EquivalenceCertificate {f1 : (Int × Int × Int)} {g2 : (Int × Int × Int)} {r : (ByteArray × Bool)} (h : r_spec_EquivalenceCertificate f1 g2 = some r) : CallS Tryd.prog 22 [.ag [Ti f1.1, Ti f1.2.1, Ti f1.2.2], .ag [Ti g2.1, Ti g2.2.1, Ti g2.2.2]] (.tc (.c (.v (.string r.1))) (.tc (Bo r.2) .tn)) [] := by
  refine CallS_of_text (rs := [.t 4, .t 5]) (vs := [.tmp 4, .tmp 5]) Tryd.func22 rfl rfl (.cons rfl (.cons rfl FitsL.nil)) (by decide) 24 rfl ?_
  unfold r_spec_EquivalenceCertificate at h
  show V _ _ ⟨[.ag [Ti f1.1, Ti f1.2.1, Ti f1.2.2], .ag [Ti g2.1, Ti g2.2.1, Ti g2.2.2], .bot, .bot, .bot, .bot, .bot, .bot, .bot, .bot, .bot, .bot, .bot, .bot, .bot, .bot, .bot, .bot, .bot, .bot, .bot, .bot, .bot, .bot], []⟩ _
  refine V_sreg [false, false, true, true, false, false, false, false, false, false, false, false, false, false, false, false, false, false, false, false, false, false, false, false] [24, 16] (s1 := ⟨[.bot, .bot, .pt 16 0, .pt 24 0, .bot, .bot, .bot, .bot, .bot, .bot, .bot, .bot, .bot, .bot, .bot, .bot, .bot, .bot, .bot, .bot, .bot, .bot, .bot, .bot], [(24, .box [Ti g2.1, Ti g2.2.1, Ti g2.2.2]), (16, .box [Ti f1.1, Ti f1.2.1, Ti f1.2.2])]⟩) ?_ ?_
  · refine XL_cons rfl (X_of_Y1 rfl (Y1_box (cs := [Ti f1.1, Ti f1.2.1, Ti f1.2.2]) rfl (by kernel_rfl))) ?_
    refine XL_cons rfl (X_of_Y1 rfl (Y1_box (cs := [Ti g2.1, Ti g2.2.1, Ti g2.2.2]) rfl (by kernel_rfl))) ?_
    refine XL_cons rfl (X_of_Y0 rfl (E_assign (.c (.v (.string ((⟨#[]⟩ : ByteArray))))) rfl (by kernel_rfl))) ?_
    refine XL_cons rfl (X_of_Y0 rfl (E_assign (Bo false) rfl (by kernel_rfl))) ?_
    refine XL_nil ?_
    kernel_rfl
  obtain ⟨y3, hy3, h⟩ := of_bind h
  refine V_sreg [false, false, true, true, false, false, true, true, false, false, false, false, false, false, false, false, false, false, false, false, false, false, false, false] [48, 24, 16] (s1 := ⟨[.bot, .bot, .pt 16 0, .pt 24 0, .bot, .bot, .pt 48 0, Bo y3.2, .bot, .bot, .bot, .bot, .bot, .bot, .bot, .bot, .bot, .bot, .bot, .bot, .bot, .bot, .bot, .bot], [(48, .box [Ti y3.1.1, Ti y3.1.2.1, Ti y3.1.2.2.1, Ti y3.1.2.2.2]), (24, .box [Ti g2.1, Ti g2.2.1, Ti g2.2.2]), (16, .box [Ti f1.1, Ti f1.2.1, Ti f1.2.2])]⟩) ?_ ?_
  · refine XL_cons rfl (X_of_Y0 rfl (E_loadn (cs := [Ti f1.1, Ti f1.2.1, Ti f1.2.2]) [Ti f1.1, Ti f1.2.1, Ti f1.2.2] wd33 rfl (by kernel_rfl) (Nat.le_of_ble_eq_true rfl) (by kernel_rfl))) ?_
    refine XL_cons rfl (X_of_Y0 rfl (E_loadn (cs := [Ti g2.1, Ti g2.2.1, Ti g2.2.2]) [Ti g2.1, Ti g2.2.1, Ti g2.2.2] wd33 rfl (by kernel_rfl) (Nat.le_of_ble_eq_true rfl) (by kernel_rfl))) ?_
    refine XL_cons rfl (X_of_Y1 rfl (Y1_call (s_spec_EquivalenceMatrix hy3) cf_spec_EquivalenceMatrix rfl (by kernel_rfl))) ?_
    refine XL_cons rfl (X_of_Y0 rfl (E_move (.tc (.ag [Ti y3.1.1, Ti y3.1.2.1, Ti y3.1.2.2.1, Ti y3.1.2.2.2]) (.tc (Bo y3.2) .tn)) rfl (by kernel_rfl))) ?_
    refine XL_cons rfl (X_of_Y0 rfl (E_ext (n := 0) (.ag [Ti y3.1.1, Ti y3.1.2.1, Ti y3.1.2.2.1, Ti y3.1.2.2.2]) (.tc (Bo y3.2) .tn) (.ag [Ti y3.1.1, Ti y3.1.2.1, Ti y3.1.2.2.1, Ti y3.1.2.2.2]) rfl (by kernel_rfl) (by kernel_rfl) (by intro hh; cases hh))) ?_
    refine XL_cons rfl (X_of_Y0 rfl (E_ext (n := 1) (.ag [Ti y3.1.1, Ti y3.1.2.1, Ti y3.1.2.2.1, Ti y3.1.2.2.2]) (.tc (Bo y3.2) .tn) (Bo y3.2) rfl (by kernel_rfl) (by kernel_rfl) (by intro hh; cases hh))) ?_
    refine XL_cons rfl (X_of_Y1 rfl (Y1_alloc (z := zv53) rfl zf53 rfl)) ?_
    refine XL_cons rfl (E_store (id := 48) (off := 0) (cs := [Ti 0, Ti 0, Ti 0, Ti 0]) (vc := [Ti y3.1.1, Ti y3.1.2.1, Ti y3.1.2.2.1, Ti y3.1.2.2.2]) [Ti y3.1.1, Ti y3.1.2.1, Ti y3.1.2.2.1, Ti y3.1.2.2.2] rfl rfl (by kernel_rfl) (by kernel_rfl) (by kernel_rfl) sz53 (Nat.le_of_ble_eq_true rfl) (by kernel_rfl)) ?_
    refine XL_cons rfl (X_of_Y0 rfl (E_assign (Bo y3.2) rfl (by kernel_rfl))) ?_
    refine XL_nil ?_
    kernel_rfl
  refine V_seq ?_
  refine V_sreg [false, false, true, true, false, false, true, false, false, false, false, false, false, false, false, true, false, false, false, false, false, false, false, false] [48, 24, 16] (s1 := ⟨[.bot, .bot, .pt 16 0, .pt 24 0, .bot, .bot, .pt 48 0, .bot, .bot, .bot, .bot, .bot, .bot, .bot, .bot, Bo (!y3.2), .bot, .bot, .bot, .bot, .bot, .bot, .bot, .bot], [(48, .box [Ti y3.1.1, Ti y3.1.2.1, Ti y3.1.2.2.1, Ti y3.1.2.2.2]), (24, .box [Ti g2.1, Ti g2.2.1, Ti g2.2.2]), (16, .box [Ti f1.1, Ti f1.2.1, Ti f1.2.2])]⟩) ?_ ?_
  · refine XL_cons rfl (X_of_Y0 rfl (E_move (Bo y3.2) rfl (by kernel_rfl))) ?_
    refine XL_cons rfl (X_of_Y0 rfl (Y0_not (b := y3.2) rfl (by kernel_rfl))) ?_
    refine XL_nil ?_
    kernel_rfl
  refine V_cond rfl (fun hc4 => ?_) (fun hc4 => ?_)
  · have h := of_true h hc4
    refine V_sreg [false, false, false, false, true, true, false, false, false, false, false, false, false, false, false, false, false, false, false, false, false, false, false, false] [] (s1 := ⟨[.bot, .bot, .bot, .bot, .c (.v (.string ((⟨#[]⟩ : ByteArray)))), Bo false, .bot, .bot, .bot, .bot, .bot, .bot, .bot, .bot, .bot, .bot, .bot, .bot, .bot, .bot, .bot, .bot, .bot, .bot], []⟩) ?_ ?_
    · refine XL_cons rfl (X_of_Y0 rfl (E_assign (.c (.v (.string ((⟨#[]⟩ : ByteArray))))) rfl (by kernel_rfl))) ?_
      refine XL_cons rfl (X_of_Y0 rfl (E_assign (Bo false) rfl (by kernel_rfl))) ?_
      refine XL_nil ?_
      kernel_rfl
    refine V_ret ?_
    obtain rfl := some_inj h
    show Post _ _ _ _ _
    exact ⟨.inr rfl, rfl, rfl, rfl⟩
  · have h := of_false h hc4
    refine V_skip ?_
    show V _ _ _ _
    obtain ⟨y5, hy5, h⟩ := of_bind h
    obtain ⟨y6, hy6, h⟩ := of_bind h
    obtain ⟨y7, hy7, h⟩ := of_bind h
    obtain ⟨y8, hy8, h⟩ := of_bind h
    refine V_sdreg [0, 1, 0, 7, 0, 31, 63, 127, 255, 511] 10 [[.z, .z, .b, .z, .b, .z, .z, .z, .z, .z], [.a, .z, .b, .z, .b, .z, .z, .z, .z, .z], [.b, .b, .z, .z, .b, .z, .z, .z, .z, .z], [.a, .a, .a, .z, .b, .z, .z, .z, .z, .z], [.b, .b, .b, .b, .z, .z, .z, .z, .z, .z], [.a, .a, .a, .a, .a, .z, .z, .z, .z, .z], [.a, .a, .a, .a, .a, .a, .z, .z, .z, .z], [.a, .a, .a, .a, .a, .a, .a, .z, .z, .z], [.a, .a, .a, .a, .a, .a, .a, .a, .z, .z], [.a, .a, .a, .a, .a, .a, .a, .a, .a, .z]] [false, false, false, false, true, true, false, false, false, false, false, false, false, false, false, false, false, false, false, false, false, false, false, false] [] (s1 := ⟨[.bot, .bot, .bot, .bot, .c (.v (.string y8)), Bo true, .bot, .bot, .bot, .bot, .bot, .bot, .bot, .bot, .bot, .bot, .bot, .bot, .bot, .bot, .bot, .bot, .bot, .bot], []⟩) (by kernel_rfl) (by kernel_rfl) ?_ ?_
    · refine DE_0 0 (.ag [Ti f1.1, Ti f1.2.1, Ti f1.2.2]) (by kernel_rfl) rfl rfl rfl (gsat_none rfl) (by kernel_rfl) (E_loadn (cs := [Ti f1.1, Ti f1.2.1, Ti f1.2.2]) [Ti f1.1, Ti f1.2.1, Ti f1.2.2] wd33 rfl (by kernel_rfl) (Nat.le_of_ble_eq_true rfl) (by kernel_rfl)) 16 rfl ?_
      refine DE_1 1 (by kernel_rfl) rfl rfl rfl (gsat_none rfl) (Y1_call (s_spec_foText hy5) cf_spec_foText rfl (by kernel_rfl)) rfl rfl rfl 17 rfl ?_
      refine DE_0 2 (.ag [Ti g2.1, Ti g2.2.1, Ti g2.2.2]) (by kernel_rfl) rfl rfl rfl (gsat_none rfl) (by kernel_rfl) (E_loadn (cs := [Ti g2.1, Ti g2.2.1, Ti g2.2.2]) [Ti g2.1, Ti g2.2.1, Ti g2.2.2] wd33 rfl (by kernel_rfl) (Nat.le_of_ble_eq_true rfl) (by kernel_rfl)) 18 rfl ?_
      refine DE_1 3 (by kernel_rfl) rfl rfl rfl (gsat_none rfl) (Y1_call (s_spec_foText hy6) cf_spec_foText rfl (by kernel_rfl)) rfl rfl rfl 19 rfl ?_
      refine DE_0 4 (.ag [Ti y3.1.1, Ti y3.1.2.1, Ti y3.1.2.2.1, Ti y3.1.2.2.2]) (by kernel_rfl) rfl rfl rfl (gsat_none rfl) (by kernel_rfl) (E_loadn (cs := [Ti y3.1.1, Ti y3.1.2.1, Ti y3.1.2.2.1, Ti y3.1.2.2.2]) [Ti y3.1.1, Ti y3.1.2.1, Ti y3.1.2.2.1, Ti y3.1.2.2.2] wd53 rfl (by kernel_rfl) (Nat.le_of_ble_eq_true rfl) (by kernel_rfl)) 20 rfl ?_
      refine DE_1 5 (by kernel_rfl) rfl rfl rfl (gsat_none rfl) (Y1_call (s_spec_foMatrixText hy7) cf_spec_foMatrixText rfl (by kernel_rfl)) rfl rfl rfl 21 rfl ?_
      refine DE_1 6 (by kernel_rfl) rfl rfl rfl (gsat_none rfl) (Y1_bslice (z := zv9) (els := [(⟨#[101, 113, 117, 105, 118, 97, 108, 101, 110, 116]⟩ : ByteArray), y5, y6, y7].map c9) Tryd.underlying22 iz9 rfl (by decide) rfl (by kernel_rfl) rfl (by simp [c9]) (by decide) (by decide)) rfl rfl rfl 22 rfl ?_
      refine DE_1 7 (by kernel_rfl) rfl rfl rfl (gsat_none rfl) (Y1_callS (s_spec_prText hy8) cf_spec_prText rfl (by kernel_rfl) rfl rfl) rfl rfl rfl 23 rfl ?_
      refine DE_0 8 (.c (.v (.string y8))) (by kernel_rfl) rfl rfl rfl (gsat_none rfl) (by kernel_rfl) (E_assign (.c (.v (.string y8))) rfl (by kernel_rfl)) 4 rfl ?_
      refine DE_0 9 (Bo true) (by kernel_rfl) rfl rfl rfl (gsat_none rfl) (by kernel_rfl) (E_assign (Bo true) rfl (by kernel_rfl)) 5 rfl ?_
      refine DL_nil (by kernel_rfl) ?_
      refine XL_nil ?_
      kernel_rfl
    refine V_ret ?_
    obtain rfl := some_inj h
    show Post _ _ _ _ _
    exact ⟨.inr rfl, rfl, rfl, rfl⟩
theorem cf_impl_Matrix_det : ∀ args w, (callFunc 139 args).run Tryd.prog w = .ok (.enter 139 args) w := run_callFunc Tryd.func139 (by kernel_rfl) (by kernel_rfl)
set_option maxRecDepth 100000 in
set_option maxHeartbeats 400000 in
theorem s_impl_Matrix_det {vm1 : (Int × Int × Int × Int)} {r : Int} (h : r_impl_Matrix_det vm1 = some r) : CallS Tryd.prog 139 [.ag [Ti vm1.1, Ti vm1.2.1, Ti vm1.2.2.1, Ti vm1.2.2.2]] (I r) [] := by
  refine CallS_of_text (rs := [.t 2]) (vs := [.tmp 2]) Tryd.func139 rfl rfl (.cons rfl FitsL.nil) (by decide) 14 rfl ?_
  unfold r_impl_Matrix_det at h
  show V _ _ ⟨[.ag [Ti vm1.1, Ti vm1.2.1, Ti vm1.2.2.1, Ti vm1.2.2.2], .bot, .bot, .bot, .bot, .bot, .bot, .bot, .bot, .bot, .bot, .bot, .bot, .bot], []⟩ _
  refine V_sreg [false, true, false, false, false, false, false, false, false, false, false, false, false, false] [8] (s1 := ⟨[.bot, .pt 8 0, .bot, .bot, .bot, .bot, .bot, .bot, .bot, .bot, .bot, .bot, .bot, .bot], [(8, .box [Ti vm1.1, Ti vm1.2.1, Ti vm1.2.2.1, Ti vm1.2.2.2])]⟩) ?_ ?_
  · refine XL_cons rfl (X_of_Y1 rfl (Y1_box (cs := [Ti vm1.1, Ti vm1.2.1, Ti vm1.2.2.1, Ti vm1.2.2.2]) rfl (by kernel_rfl))) ?_
    refine XL_cons rfl (X_of_Y0 rfl (E_assign (I 0) rfl (by kernel_rfl))) ?_
    refine XL_nil ?_
    kernel_rfl
  obtain ⟨t2, ht2, h⟩ := of_sI h
  refine V_sreg [false, false, true, false, false, false, false, false, false, false, false, false, false, false] [] (s1 := ⟨[.bot, .bot, I t2, .bot, .bot, .bot, .bot, .bot, .bot, .bot, .bot, .bot, .bot, .bot], []⟩) ?_ ?_
  · refine XL_cons rfl (X_of_Y0 rfl (E_field (.pt 8 0) Tryd.underlying53 rfl sz3 rfl (by kernel_rfl) (by intro hh; cases hh))) ?_
    refine XL_cons rfl (X_of_Y0 rfl (Y0_load1 (c := Ti vm1.1) (cs := [Ti vm1.2.1, Ti vm1.2.2.1, Ti vm1.2.2.2]) sc3 rfl (by kernel_rfl))) ?_
    refine XL_cons rfl (X_of_Y0 rfl (E_field (.pt 8 3) Tryd.underlying53 rfl sz3 rfl (by kernel_rfl) (by intro hh; cases hh))) ?_
    refine XL_cons rfl (X_of_Y0 rfl (Y0_load1 (c := Ti vm1.2.2.2) (cs := []) sc3 rfl (by kernel_rfl))) ?_
    refine XL_cons rfl (X_of_Y0 rfl (Y0_mul64 (a := vm1.1) (b := vm1.2.2.2) rfl (by kernel_rfl) (by kernel_rfl))) ?_
    refine XL_cons rfl (X_of_Y0 rfl (E_field (.pt 8 1) Tryd.underlying53 rfl sz3 rfl (by kernel_rfl) (by intro hh; cases hh))) ?_
    refine XL_cons rfl (X_of_Y0 rfl (Y0_load1 (c := Ti vm1.2.1) (cs := [Ti vm1.2.2.1, Ti vm1.2.2.2]) sc3 rfl (by kernel_rfl))) ?_
    refine XL_cons rfl (X_of_Y0 rfl (E_field (.pt 8 2) Tryd.underlying53 rfl sz3 rfl (by kernel_rfl) (by intro hh; cases hh))) ?_
    refine XL_cons rfl (X_of_Y0 rfl (Y0_load1 (c := Ti vm1.2.2.1) (cs := [Ti vm1.2.2.2]) sc3 rfl (by kernel_rfl))) ?_
    refine XL_cons rfl (X_of_Y0 rfl (Y0_mul64 (a := vm1.2.1) (b := vm1.2.2.1) rfl (by kernel_rfl) (by kernel_rfl))) ?_
    refine XL_cons rfl (X_of_Y0 rfl (Y0_sub64 (a := w64 (vm1.1 * vm1.2.2.2)) (b := w64 (vm1.2.1 * vm1.2.2.1)) rfl (by kernel_rfl) (by kernel_rfl))) ?_
    refine XL_cons rfl (X_of_Y0 rfl (E_assign (I (w64 ((w64 (vm1.1 * vm1.2.2.2)) - (w64 (vm1.2.1 * vm1.2.2.1))))) rfl (by kernel_rfl))) ?_
    refine XL_nil ?_
    subst ht2
    kernel_rfl
  refine V_ret ?_
  obtain rfl := some_inj h
  show Post _ _ _ _ _
  exact ⟨.inr rfl, rfl, rfl, rfl⟩
theorem cf_impl_Matrix_inverse : ∀ args w, (callFunc 93 args).run Tryd.prog w = .ok (.enter 93 args) w := run_callFunc Tryd.func93 (by kernel_rfl) (by kernel_rfl)
set_option maxRecDepth 100000 in
set_option maxHeartbeats 400000 in
theorem s_impl_Matrix_inverse {vm1 : (Int × Int × Int × Int)} {r : (Int × Int × Int × Int)} (h : r_impl_Matrix_inverse vm1 = some r) : CallS Tryd.prog 93 [.ag [Ti vm1.1, Ti vm1.2.1, Ti vm1.2.2.1, Ti vm1.2.2.2]] (.ag [Ti r.1, Ti r.2.1, Ti r.2.2.1, Ti r.2.2.2]) [] := by
  refine CallS_of_text (rs := [.w 2 4]) (vs := [.cell 2 53]) Tryd.func93 rfl rfl (.cons ⟨rfl, wd53⟩ FitsL.nil) (by decide) 25 rfl ?_
  unfold r_impl_Matrix_inverse at h
  show V _ _ ⟨[.ag [Ti vm1.1, Ti vm1.2.1, Ti vm1.2.2.1, Ti vm1.2.2.2], .bot, .bot, .bot, .bot, .bot, .bot, .bot, .bot, .bot, .bot, .bot, .bot, .bot, .bot, .bot, .bot, .bot, .bot, .bot, .bot, .bot, .bot, .bot, .bot], []⟩ _
  refine V_sreg [false, true, true, false, false, false, false, false, false, false, false, false, false, false, false, false, false, false, false, false, false, false, false, false, false] [16, 8] (s1 := ⟨[.bot, .pt 8 0, .pt 16 0, .bot, .bot, .bot, .bot, .bot, .bot, .bot, .bot, .bot, .bot, .bot, .bot, .bot, .bot, .bot, .bot, .bot, .bot, .bot, .bot, .bot, .bot], [(16, .box [Ti 0, Ti 0, Ti 0, Ti 0]), (8, .box [Ti vm1.1, Ti vm1.2.1, Ti vm1.2.2.1, Ti vm1.2.2.2])]⟩) ?_ ?_
  · refine XL_cons rfl (X_of_Y1 rfl (Y1_box (cs := [Ti vm1.1, Ti vm1.2.1, Ti vm1.2.2.1, Ti vm1.2.2.2]) rfl (by kernel_rfl))) ?_
    refine XL_cons rfl (X_of_Y1 rfl (Y1_alloc (z := zv53) rfl zf53 rfl)) ?_
    refine XL_nil ?_
    kernel_rfl
  obtain ⟨y2, hy2, h⟩ := of_bind h
  refine V_sreg [false, true, true, true, false, false, false, false, false, false, false, false, false, false, false, false, false, false, false, false, false, false, false, false, false] [16, 8] (s1 := ⟨[.bot, .pt 8 0, .pt 16 0, I y2, .bot, .bot, .bot, .bot, .bot, .bot, .bot, .bot, .bot, .bot, .bot, .bot, .bot, .bot, .bot, .bot, .bot, .bot, .bot, .bot, .bot], [(16, .box [Ti 0, Ti 0, Ti 0, Ti 0]), (8, .box [Ti vm1.1, Ti vm1.2.1, Ti vm1.2.2.1, Ti vm1.2.2.2])]⟩) ?_ ?_
  · refine XL_cons rfl (X_of_Y0 rfl (E_loadn (cs := [Ti vm1.1, Ti vm1.2.1, Ti vm1.2.2.1, Ti vm1.2.2.2]) [Ti vm1.1, Ti vm1.2.1, Ti vm1.2.2.1, Ti vm1.2.2.2] wd53 rfl (by kernel_rfl) (Nat.le_of_ble_eq_true rfl) (by kernel_rfl))) ?_
    refine XL_cons rfl (X_of_Y1 rfl (Y1_call (s_impl_Matrix_det hy2) cf_impl_Matrix_det rfl (by kernel_rfl))) ?_
    refine XL_cons rfl (X_of_Y0 rfl (E_assign (I y2) rfl (by kernel_rfl))) ?_
    refine XL_nil ?_
    kernel_rfl
  obtain ⟨f3, hf3, h⟩ := of_sI h
  obtain ⟨f4, hf4, h⟩ := of_sI h
  obtain ⟨f5, hf5, h⟩ := of_sI h
  obtain ⟨f6, hf6, h⟩ := of_sI h
  refine V_sreg [false, false, true, false, false, false, false, false, false, false, false, false, false, false, false, false, false, false, false, false, false, false, false, false, false] [16] (s1 := ⟨[.bot, .bot, .pt 16 0, .bot, .bot, .bot, .bot, .bot, .bot, .bot, .bot, .bot, .bot, .bot, .bot, .bot, .bot, .bot, .bot, .bot, .bot, .bot, .bot, .bot, .bot], [(16, .box [Ti f3, Ti f4, Ti f5, Ti f6])]⟩) ?_ ?_
  · refine XL_cons rfl (X_of_Y0 rfl (E_move (I y2) rfl (by kernel_rfl))) ?_
    refine XL_cons rfl (X_of_Y0 rfl (E_field (.pt 8 3) Tryd.underlying53 rfl sz3 rfl (by kernel_rfl) (by intro hh; cases hh))) ?_
    refine XL_cons rfl (X_of_Y0 rfl (Y0_load1 (c := Ti vm1.2.2.2) (cs := []) sc3 rfl (by kernel_rfl))) ?_
    refine XL_cons rfl (X_of_Y0 rfl (Y0_mul64 (a := y2) (b := vm1.2.2.2) rfl (by kernel_rfl) (by kernel_rfl))) ?_
    refine XL_cons rfl (X_of_Y0 rfl (E_move (I y2) rfl (by kernel_rfl))) ?_
    refine XL_cons rfl (X_of_Y0 rfl (Y0_neg64 (a := y2) rfl (by kernel_rfl))) ?_
    refine XL_cons rfl (X_of_Y0 rfl (E_field (.pt 8 1) Tryd.underlying53 rfl sz3 rfl (by kernel_rfl) (by intro hh; cases hh))) ?_
    refine XL_cons rfl (X_of_Y0 rfl (Y0_load1 (c := Ti vm1.2.1) (cs := [Ti vm1.2.2.1, Ti vm1.2.2.2]) sc3 rfl (by kernel_rfl))) ?_
    refine XL_cons rfl (X_of_Y0 rfl (Y0_mul64 (a := w64 (0 - y2)) (b := vm1.2.1) rfl (by kernel_rfl) (by kernel_rfl))) ?_
    refine XL_cons rfl (X_of_Y0 rfl (E_move (I y2) rfl (by kernel_rfl))) ?_
    refine XL_cons rfl (X_of_Y0 rfl (Y0_neg64 (a := y2) rfl (by kernel_rfl))) ?_
    refine XL_cons rfl (X_of_Y0 rfl (E_field (.pt 8 2) Tryd.underlying53 rfl sz3 rfl (by kernel_rfl) (by intro hh; cases hh))) ?_
    refine XL_cons rfl (X_of_Y0 rfl (Y0_load1 (c := Ti vm1.2.2.1) (cs := [Ti vm1.2.2.2]) sc3 rfl (by kernel_rfl))) ?_
    refine XL_cons rfl (X_of_Y0 rfl (Y0_mul64 (a := w64 (0 - y2)) (b := vm1.2.2.1) rfl (by kernel_rfl) (by kernel_rfl))) ?_
    refine XL_cons rfl (X_of_Y0 rfl (E_move (I y2) rfl (by kernel_rfl))) ?_
    refine XL_cons rfl (X_of_Y0 rfl (E_field (.pt 8 0) Tryd.underlying53 rfl sz3 rfl (by kernel_rfl) (by intro hh; cases hh))) ?_
    refine XL_cons rfl (X_of_Y0 rfl (Y0_load1 (c := Ti vm1.1) (cs := [Ti vm1.2.1, Ti vm1.2.2.1, Ti vm1.2.2.2]) sc3 rfl (by kernel_rfl))) ?_
    refine XL_cons rfl (X_of_Y0 rfl (Y0_mul64 (a := y2) (b := vm1.1) rfl (by kernel_rfl) (by kernel_rfl))) ?_
    refine XL_cons rfl (X_of_Y0 rfl (Y0_build (cs := [Ti (w64 (y2 * vm1.2.2.2)), Ti (w64 ((w64 (0 - y2)) * vm1.2.1)), Ti (w64 ((w64 (0 - y2)) * vm1.2.2.1)), Ti (w64 (y2 * vm1.1))]) pl53 bt53 rfl rfl (by kernel_rfl))) ?_
    refine XL_cons rfl (E_store (id := 16) (off := 0) (cs := [Ti 0, Ti 0, Ti 0, Ti 0]) (vc := [Ti (w64 (y2 * vm1.2.2.2)), Ti (w64 ((w64 (0 - y2)) * vm1.2.1)), Ti (w64 ((w64 (0 - y2)) * vm1.2.2.1)), Ti (w64 (y2 * vm1.1))]) [Ti (w64 (y2 * vm1.2.2.2)), Ti (w64 ((w64 (0 - y2)) * vm1.2.1)), Ti (w64 ((w64 (0 - y2)) * vm1.2.2.1)), Ti (w64 (y2 * vm1.1))] rfl rfl (by kernel_rfl) (by kernel_rfl) (by kernel_rfl) sz53 (Nat.le_of_ble_eq_true rfl) (by kernel_rfl)) ?_
    refine XL_nil ?_
    subst hf3 hf4 hf5 hf6
    kernel_rfl
  refine V_ret ?_
  obtain rfl := some_inj h
  show Post _ _ _ _ _
  exact ⟨.inr rfl, rfl, rfl, rfl⟩
theorem cf_impl_checked : ∀ args w, (callFunc 91 args).run Tryd.prog w = .ok (.enter 91 args) w := run_callFunc Tryd.func91 (by kernel_rfl) (by kernel_rfl)
set_option maxRecDepth 100000 in
set_option maxHeartbeats 400000 in
theorem s_impl_checked {vm1 : (Int × Int × Int × Int)} {r : (((Int × Int × Int × Int)) × Bool)} (h : r_impl_checked vm1 = some r) : CallS Tryd.prog 91 [.ag [Ti vm1.1, Ti vm1.2.1, Ti vm1.2.2.1, Ti vm1.2.2.2]] (.tc (.ag [Ti r.1.1, Ti r.1.2.1, Ti r.1.2.2.1, Ti r.1.2.2.2]) (.tc (Bo r.2) .tn)) [] := by
  refine CallS_of_text (rs := [.w 2 4, .t 3]) (vs := [.cell 2 53, .tmp 3]) Tryd.func91 rfl rfl (.cons ⟨rfl, wd53⟩ (.cons rfl FitsL.nil)) (by decide) 9 rfl ?_
  unfold r_impl_checked at h
  show V _ _ ⟨[.ag [Ti vm1.1, Ti vm1.2.1, Ti vm1.2.2.1, Ti vm1.2.2.2], .bot, .bot, .bot, .bot, .bot, .bot, .bot, .bot], []⟩ _
  refine V_sreg [false, true, true, false, false, false, false, false, false] [16, 8] (s1 := ⟨[.bot, .pt 8 0, .pt 16 0, .bot, .bot, .bot, .bot, .bot, .bot], [(16, .box [Ti 0, Ti 0, Ti 0, Ti 0]), (8, .box [Ti vm1.1, Ti vm1.2.1, Ti vm1.2.2.1, Ti vm1.2.2.2])]⟩) ?_ ?_
  · refine XL_cons rfl (X_of_Y1 rfl (Y1_box (cs := [Ti vm1.1, Ti vm1.2.1, Ti vm1.2.2.1, Ti vm1.2.2.2]) rfl (by kernel_rfl))) ?_
    refine XL_cons rfl (X_of_Y1 rfl (Y1_alloc (z := zv53) rfl zf53 rfl)) ?_
    refine XL_cons rfl (X_of_Y0 rfl (E_assign (Bo false) rfl (by kernel_rfl))) ?_
    refine XL_nil ?_
    kernel_rfl
  refine V_seq ?_
  obtain ⟨y2, hy2, h⟩ := of_bind h
  refine V_sreg [false, true, true, false, false, false, true, false, false] [16, 8] (s1 := ⟨[.bot, .pt 8 0, .pt 16 0, .bot, .bot, .bot, Bo (!y2), .bot, .bot], [(16, .box [Ti 0, Ti 0, Ti 0, Ti 0]), (8, .box [Ti vm1.1, Ti vm1.2.1, Ti vm1.2.2.1, Ti vm1.2.2.2])]⟩) ?_ ?_
  · refine XL_cons rfl (X_of_Y0 rfl (E_loadn (cs := [Ti vm1.1, Ti vm1.2.1, Ti vm1.2.2.1, Ti vm1.2.2.2]) [Ti vm1.1, Ti vm1.2.1, Ti vm1.2.2.1, Ti vm1.2.2.2] wd53 rfl (by kernel_rfl) (Nat.le_of_ble_eq_true rfl) (by kernel_rfl))) ?_
    refine XL_cons rfl (X_of_Y1 rfl (Y1_call (s_impl_IsMatrix hy2) cf_impl_IsMatrix rfl (by kernel_rfl))) ?_
    refine XL_cons rfl (X_of_Y0 rfl (Y0_not (b := y2) rfl (by kernel_rfl))) ?_
    refine XL_nil ?_
    kernel_rfl
  refine V_cond rfl (fun hc3 => ?_) (fun hc3 => ?_)
  · have h := of_true h hc3
    refine V_sreg [false, false, true, true, false, false, false, false, false] [16] (s1 := ⟨[.bot, .bot, .pt 16 0, Bo false, .bot, .bot, .bot, .bot, .bot], [(16, .box [Ti 0, Ti 0, Ti 0, Ti 0])]⟩) ?_ ?_
    · refine XL_cons rfl (X_of_Y0 rfl (Y0_build (cs := [Ti 0, Ti 0, Ti 0, Ti 0]) pl53 bt53 rfl rfl (by kernel_rfl))) ?_
      refine XL_cons rfl (E_store (id := 16) (off := 0) (cs := [Ti 0, Ti 0, Ti 0, Ti 0]) (vc := [Ti 0, Ti 0, Ti 0, Ti 0]) [Ti 0, Ti 0, Ti 0, Ti 0] rfl rfl (by kernel_rfl) (by kernel_rfl) (by kernel_rfl) sz53 (Nat.le_of_ble_eq_true rfl) (by kernel_rfl)) ?_
      refine XL_cons rfl (X_of_Y0 rfl (E_assign (Bo false) rfl (by kernel_rfl))) ?_
      refine XL_nil ?_
      kernel_rfl
    refine V_ret ?_
    obtain rfl := some_inj h
    show Post _ _ _ _ _
    exact ⟨.inr rfl, rfl, rfl, rfl⟩
  · have h := of_false h hc3
    refine V_skip ?_
    show V _ _ _ _
    refine V_sreg [false, false, true, true, false, false, false, false, false] [16] (s1 := ⟨[.bot, .bot, .pt 16 0, Bo true, .bot, .bot, .bot, .bot, .bot], [(16, .box [Ti vm1.1, Ti vm1.2.1, Ti vm1.2.2.1, Ti vm1.2.2.2])]⟩) ?_ ?_
    · refine XL_cons rfl (X_of_Y0 rfl (E_loadn (cs := [Ti vm1.1, Ti vm1.2.1, Ti vm1.2.2.1, Ti vm1.2.2.2]) [Ti vm1.1, Ti vm1.2.1, Ti vm1.2.2.1, Ti vm1.2.2.2] wd53 rfl (by kernel_rfl) (Nat.le_of_ble_eq_true rfl) (by kernel_rfl))) ?_
      refine XL_cons rfl (E_store (id := 16) (off := 0) (cs := [Ti 0, Ti 0, Ti 0, Ti 0]) (vc := [Ti vm1.1, Ti vm1.2.1, Ti vm1.2.2.1, Ti vm1.2.2.2]) [Ti vm1.1, Ti vm1.2.1, Ti vm1.2.2.1, Ti vm1.2.2.2] rfl rfl (by kernel_rfl) (by kernel_rfl) (by kernel_rfl) sz53 (Nat.le_of_ble_eq_true rfl) (by kernel_rfl)) ?_
      refine XL_cons rfl (X_of_Y0 rfl (E_assign (Bo true) rfl (by kernel_rfl))) ?_
      refine XL_nil ?_
      kernel_rfl
    refine V_ret ?_
    obtain rfl := some_inj h
    show Post _ _ _ _ _
    exact ⟨.inr rfl, rfl, rfl, rfl⟩
theorem cf_impl_EquivalenceMatrix : ∀ args w, (callFunc 51 args).run Tryd.prog w = .ok (.enter 51 args) w := run_callFunc Tryd.func51 (by kernel_rfl) (by kernel_rfl)
set_option maxRecDepth 100000 in
set_option maxHeartbeats 400000 in
theorem s_impl_EquivalenceMatrix {f1 : (Int × Int × Int)} {g2 : (Int × Int × Int)} {r : (((Int × Int × Int × Int)) × Bool)} (h : r_impl_EquivalenceMatrix f1 g2 = some r) : CallS Tryd.prog 51 [.ag [Ti f1.1, Ti f1.2.1, Ti f1.2.2], .ag [Ti g2.1, Ti g2.2.1, Ti g2.2.2]] (.tc (.ag [Ti r.1.1, Ti r.1.2.1, Ti r.1.2.2.1, Ti r.1.2.2.2]) (.tc (Bo r.2) .tn)) [] := by
  refine CallS_of_text (rs := [.w 4 4, .t 5]) (vs := [.cell 4 53, .tmp 5]) Tryd.func51 rfl rfl (.cons ⟨rfl, wd53⟩ (.cons rfl FitsL.nil)) (by decide) 40 rfl ?_
  unfold r_impl_EquivalenceMatrix at h
  show V _ _ ⟨[.ag [Ti f1.1, Ti f1.2.1, Ti f1.2.2], .ag [Ti g2.1, Ti g2.2.1, Ti g2.2.2], .bot, .bot, .bot, .bot, .bot, .bot, .bot, .bot, .bot, .bot, .bot, .bot, .bot, .bot, .bot, .bot, .bot, .bot, .bot, .bot, .bot, .bot, .bot, .bot, .bot, .bot, .bot, .bot, .bot, .bot, .bot, .bot, .bot, .bot, .bot, .bot, .bot, .bot], []⟩ _
  refine V_sreg [false, false, true, true, true, false, false, false, false, false, false, false, false, false, false, false, false, false, false, false, false, false, false, false, false, false, false, false, false, false, false, false, false, false, false, false, false, false, false, false] [32, 24, 16] (s1 := ⟨[.bot, .bot, .pt 16 0, .pt 24 0, .pt 32 0, .bot, .bot, .bot, .bot, .bot, .bot, .bot, .bot, .bot, .bot, .bot, .bot, .bot, .bot, .bot, .bot, .bot, .bot, .bot, .bot, .bot, .bot, .bot, .bot, .bot, .bot, .bot, .bot, .bot, .bot, .bot, .bot, .bot, .bot, .bot], [(32, .box [Ti 0, Ti 0, Ti 0, Ti 0]), (24, .box [Ti g2.1, Ti g2.2.1, Ti g2.2.2]), (16, .box [Ti f1.1, Ti f1.2.1, Ti f1.2.2])]⟩) ?_ ?_
  · refine XL_cons rfl (X_of_Y1 rfl (Y1_box (cs := [Ti f1.1, Ti f1.2.1, Ti f1.2.2]) rfl (by kernel_rfl))) ?_
    refine XL_cons rfl (X_of_Y1 rfl (Y1_box (cs := [Ti g2.1, Ti g2.2.1, Ti g2.2.2]) rfl (by kernel_rfl))) ?_
    refine XL_cons rfl (X_of_Y1 rfl (Y1_alloc (z := zv53) rfl zf53 rfl)) ?_
    refine XL_cons rfl (X_of_Y0 rfl (E_assign (Bo false) rfl (by kernel_rfl))) ?_
    refine XL_nil ?_
    kernel_rfl
  refine V_seq ?_
  obtain ⟨y3, hy3, h⟩ := of_bind h
  obtain ⟨b6, hb6, h⟩ := of_bind h
  refine V_sreg [false, false, true, true, true, false, false, false, false, false, false, false, false, false, false, false, false, true, false, false, false, false, false, false, false, false, false, false, false, false, false, false, false, false, false, false, false, false, false, false] [32, 24, 16] (s1 := ⟨[.bot, .bot, .pt 16 0, .pt 24 0, .pt 32 0, .bot, .bot, .bot, .bot, .bot, .bot, .bot, .bot, .bot, .bot, .bot, .bot, Bo b6, .bot, .bot, .bot, .bot, .bot, .bot, .bot, .bot, .bot, .bot, .bot, .bot, .bot, .bot, .bot, .bot, .bot, .bot, .bot, .bot, .bot, .bot], [(32, .box [Ti 0, Ti 0, Ti 0, Ti 0]), (24, .box [Ti g2.1, Ti g2.2.1, Ti g2.2.2]), (16, .box [Ti f1.1, Ti f1.2.1, Ti f1.2.2])]⟩) ?_ ?_
  · refine XL_cons rfl (X_of_Y0 rfl (E_loadn (cs := [Ti f1.1, Ti f1.2.1, Ti f1.2.2]) [Ti f1.1, Ti f1.2.1, Ti f1.2.2] wd33 rfl (by kernel_rfl) (Nat.le_of_ble_eq_true rfl) (by kernel_rfl))) ?_
    refine XL_cons rfl (X_of_Y1 rfl (Y1_call (s_impl_isDefinite hy3) cf_impl_isDefinite rfl (by kernel_rfl))) ?_
    refine XL_cons rfl (X_of_Y0 rfl (Y0_not (b := y3) rfl (by kernel_rfl))) ?_
    refine XL_cons rfl (X_of_Y0 rfl (E_move (Bo (!y3)) rfl (by kernel_rfl))) ?_
    refine XL_split (!y3) (fun hc4 => ?_) (fun hc4 => ?_)
    · have hb6 := some_inj (of_true hb6 hc4)
      refine XL_skipF (!y3) rfl rfl (by kernel_rfl) hc4 rfl ?_
      refine XL_skipF (!y3) rfl rfl (by kernel_rfl) hc4 rfl ?_
      refine XL_skipF (!y3) rfl rfl (by kernel_rfl) hc4 rfl ?_
      refine XL_cons rfl (X_of_Y0 rfl (Y0_pickTe (b := !y3) (p := true) rfl (by kernel_rfl) hc4 (by kernel_rfl) hb6)) ?_
      refine XL_nil ?_
      kernel_rfl
    · have hb6 := of_false hb6 hc4
      obtain ⟨y5, hy5, hb6⟩ := of_bind hb6
      have hb6 := some_inj hb6
      refine XL_takeC (!y3) rfl rfl (by kernel_rfl) hc4 (X_of_Y0 rfl (E_loadn (cs := [Ti g2.1, Ti g2.2.1, Ti g2.2.2]) [Ti g2.1, Ti g2.2.1, Ti g2.2.2] wd33 rfl (by kernel_rfl) (Nat.le_of_ble_eq_true rfl) (by kernel_rfl))) ?_
      refine XL_takeC (!y3) rfl rfl (by kernel_rfl) hc4 (X_of_Y1 rfl (Y1_call (s_impl_isDefinite hy5) cf_impl_isDefinite rfl (by kernel_rfl))) ?_
      refine XL_takeC (!y3) rfl rfl (by kernel_rfl) hc4 (X_of_Y0 rfl (Y0_not (b := y5) rfl (by kernel_rfl))) ?_
      refine XL_cons rfl (X_of_Y0 rfl (Y0_pickFe (b := !y3) (p := !y5) rfl (by kernel_rfl) hc4 (by kernel_rfl) hb6)) ?_
      refine XL_nil ?_
      kernel_rfl
  refine V_cond rfl (fun hc7 => ?_) (fun hc7 => ?_)
  · have h := of_true h hc7
    refine V_sreg [false, false, false, false, true, true, false, false, false, false, false, false, false, false, false, false, false, false, false, false, false, false, false, false, false, false, false, false, false, false, false, false, false, false, false, false, false, false, false, false] [32] (s1 := ⟨[.bot, .bot, .bot, .bot, .pt 32 0, Bo false, .bot, .bot, .bot, .bot, .bot, .bot, .bot, .bot, .bot, .bot, .bot, .bot, .bot, .bot, .bot, .bot, .bot, .bot, .bot, .bot, .bot, .bot, .bot, .bot, .bot, .bot, .bot, .bot, .bot, .bot, .bot, .bot, .bot, .bot], [(32, .box [Ti 0, Ti 0, Ti 0, Ti 0])]⟩) ?_ ?_
    · refine XL_cons rfl (X_of_Y0 rfl (Y0_build (cs := [Ti 0, Ti 0, Ti 0, Ti 0]) pl53 bt53 rfl rfl (by kernel_rfl))) ?_
      refine XL_cons rfl (E_store (id := 32) (off := 0) (cs := [Ti 0, Ti 0, Ti 0, Ti 0]) (vc := [Ti 0, Ti 0, Ti 0, Ti 0]) [Ti 0, Ti 0, Ti 0, Ti 0] rfl rfl (by kernel_rfl) (by kernel_rfl) (by kernel_rfl) sz53 (Nat.le_of_ble_eq_true rfl) (by kernel_rfl)) ?_
      refine XL_cons rfl (X_of_Y0 rfl (E_assign (Bo false) rfl (by kernel_rfl))) ?_
      refine XL_nil ?_
      kernel_rfl
    refine V_ret ?_
    obtain rfl := some_inj h
    show Post _ _ _ _ _
    exact ⟨.inr rfl, rfl, rfl, rfl⟩
  · have h := of_false h hc7
    refine V_skip ?_
    show V _ _ _ _
    obtain ⟨y8, hy8, h⟩ := of_bind h
    refine V_sreg [false, false, false, true, true, false, true, true, false, false, false, false, false, false, false, false, false, false, false, false, false, false, false, false, false, false, false, false, false, false, false, false, false, false, false, false, false, false, false, false] [56, 48, 32, 24] (s1 := ⟨[.bot, .bot, .bot, .pt 24 0, .pt 32 0, .bot, .pt 48 0, .pt 56 0, .bot, .bot, .bot, .bot, .bot, .bot, .bot, .bot, .bot, .bot, .bot, .bot, .bot, .bot, .bot, .bot, .bot, .bot, .bot, .bot, .bot, .bot, .bot, .bot, .bot, .bot, .bot, .bot, .bot, .bot, .bot, .bot], [(56, .box [Ti y8.2.1, Ti y8.2.2.1, Ti y8.2.2.2.1, Ti y8.2.2.2.2]), (48, .box [Ti y8.1.1, Ti y8.1.2.1, Ti y8.1.2.2]), (32, .box [Ti 0, Ti 0, Ti 0, Ti 0]), (24, .box [Ti g2.1, Ti g2.2.1, Ti g2.2.2])]⟩) ?_ ?_
    · refine XL_cons rfl (X_of_Y0 rfl (E_loadn (cs := [Ti f1.1, Ti f1.2.1, Ti f1.2.2]) [Ti f1.1, Ti f1.2.1, Ti f1.2.2] wd33 rfl (by kernel_rfl) (Nat.le_of_ble_eq_true rfl) (by kernel_rfl))) ?_
      refine XL_cons rfl (X_of_Y1 rfl (Y1_call (s_impl_reduce hy8) cf_impl_reduce rfl (by kernel_rfl))) ?_
      refine XL_cons rfl (X_of_Y0 rfl (E_move (.tc (.ag [Ti y8.1.1, Ti y8.1.2.1, Ti y8.1.2.2]) (.tc (.ag [Ti y8.2.1, Ti y8.2.2.1, Ti y8.2.2.2.1, Ti y8.2.2.2.2]) .tn)) rfl (by kernel_rfl))) ?_
      refine XL_cons rfl (X_of_Y0 rfl (E_ext (n := 0) (.ag [Ti y8.1.1, Ti y8.1.2.1, Ti y8.1.2.2]) (.tc (.ag [Ti y8.2.1, Ti y8.2.2.1, Ti y8.2.2.2.1, Ti y8.2.2.2.2]) .tn) (.ag [Ti y8.1.1, Ti y8.1.2.1, Ti y8.1.2.2]) rfl (by kernel_rfl) (by kernel_rfl) (by intro hh; cases hh))) ?_
      refine XL_cons rfl (X_of_Y0 rfl (E_ext (n := 1) (.ag [Ti y8.1.1, Ti y8.1.2.1, Ti y8.1.2.2]) (.tc (.ag [Ti y8.2.1, Ti y8.2.2.1, Ti y8.2.2.2.1, Ti y8.2.2.2.2]) .tn) (.ag [Ti y8.2.1, Ti y8.2.2.1, Ti y8.2.2.2.1, Ti y8.2.2.2.2]) rfl (by kernel_rfl) (by kernel_rfl) (by intro hh; cases hh))) ?_
      refine XL_cons rfl (X_of_Y1 rfl (Y1_alloc (z := zv33) rfl zf33 rfl)) ?_
      refine XL_cons rfl (X_of_Y1 rfl (Y1_alloc (z := zv53) rfl zf53 rfl)) ?_
      refine XL_cons rfl (E_store (id := 48) (off := 0) (cs := [Ti 0, Ti 0, Ti 0]) (vc := [Ti y8.1.1, Ti y8.1.2.1, Ti y8.1.2.2]) [Ti y8.1.1, Ti y8.1.2.1, Ti y8.1.2.2] rfl rfl (by kernel_rfl) (by kernel_rfl) (by kernel_rfl) sz33 (Nat.le_of_ble_eq_true rfl) (by kernel_rfl)) ?_
      refine XL_cons rfl (E_store (id := 56) (off := 0) (cs := [Ti 0, Ti 0, Ti 0, Ti 0]) (vc := [Ti y8.2.1, Ti y8.2.2.1, Ti y8.2.2.2.1, Ti y8.2.2.2.2]) [Ti y8.2.1, Ti y8.2.2.1, Ti y8.2.2.2.1, Ti y8.2.2.2.2] rfl rfl (by kernel_rfl) (by kernel_rfl) (by kernel_rfl) sz53 (Nat.le_of_ble_eq_true rfl) (by kernel_rfl)) ?_
      refine XL_nil ?_
      kernel_rfl
    obtain ⟨y9, hy9, h⟩ := of_bind h
    refine V_sreg [false, false, false, false, true, false, true, true, true, true, false, false, false, false, false, false, false, false, false, false, false, false, false, false, false, false, false, false, false, false, false, false, false, false, false, false, false, false, false, false] [72, 64, 56, 48, 32] (s1 := ⟨[.bot, .bot, .bot, .bot, .pt 32 0, .bot, .pt 48 0, .pt 56 0, .pt 64 0, .pt 72 0, .bot, .bot, .bot, .bot, .bot, .bot, .bot, .bot, .bot, .bot, .bot, .bot, .bot, .bot, .bot, .bot, .bot, .bot, .bot, .bot, .bot, .bot, .bot, .bot, .bot, .bot, .bot, .bot, .bot, .bot], [(72, .box [Ti y9.2.1, Ti y9.2.2.1, Ti y9.2.2.2.1, Ti y9.2.2.2.2]), (64, .box [Ti y9.1.1, Ti y9.1.2.1, Ti y9.1.2.2]), (56, .box [Ti y8.2.1, Ti y8.2.2.1, Ti y8.2.2.2.1, Ti y8.2.2.2.2]), (48, .box [Ti y8.1.1, Ti y8.1.2.1, Ti y8.1.2.2]), (32, .box [Ti 0, Ti 0, Ti 0, Ti 0])]⟩) ?_ ?_
    · refine XL_cons rfl (X_of_Y0 rfl (E_loadn (cs := [Ti g2.1, Ti g2.2.1, Ti g2.2.2]) [Ti g2.1, Ti g2.2.1, Ti g2.2.2] wd33 rfl (by kernel_rfl) (Nat.le_of_ble_eq_true rfl) (by kernel_rfl))) ?_
      refine XL_cons rfl (X_of_Y1 rfl (Y1_call (s_impl_reduce hy9) cf_impl_reduce rfl (by kernel_rfl))) ?_
      refine XL_cons rfl (X_of_Y0 rfl (E_move (.tc (.ag [Ti y9.1.1, Ti y9.1.2.1, Ti y9.1.2.2]) (.tc (.ag [Ti y9.2.1, Ti y9.2.2.1, Ti y9.2.2.2.1, Ti y9.2.2.2.2]) .tn)) rfl (by kernel_rfl))) ?_
      refine XL_cons rfl (X_of_Y0 rfl (E_ext (n := 0) (.ag [Ti y9.1.1, Ti y9.1.2.1, Ti y9.1.2.2]) (.tc (.ag [Ti y9.2.1, Ti y9.2.2.1, Ti y9.2.2.2.1, Ti y9.2.2.2.2]) .tn) (.ag [Ti y9.1.1, Ti y9.1.2.1, Ti y9.1.2.2]) rfl (by kernel_rfl) (by kernel_rfl) (by intro hh; cases hh))) ?_
      refine XL_cons rfl (X_of_Y0 rfl (E_ext (n := 1) (.ag [Ti y9.1.1, Ti y9.1.2.1, Ti y9.1.2.2]) (.tc (.ag [Ti y9.2.1, Ti y9.2.2.1, Ti y9.2.2.2.1, Ti y9.2.2.2.2]) .tn) (.ag [Ti y9.2.1, Ti y9.2.2.1, Ti y9.2.2.2.1, Ti y9.2.2.2.2]) rfl (by kernel_rfl) (by kernel_rfl) (by intro hh; cases hh))) ?_
      refine XL_cons rfl (X_of_Y1 rfl (Y1_alloc (z := zv33) rfl zf33 rfl)) ?_
      refine XL_cons rfl (X_of_Y1 rfl (Y1_alloc (z := zv53) rfl zf53 rfl)) ?_
      refine XL_cons rfl (E_store (id := 64) (off := 0) (cs := [Ti 0, Ti 0, Ti 0]) (vc := [Ti y9.1.1, Ti y9.1.2.1, Ti y9.1.2.2]) [Ti y9.1.1, Ti y9.1.2.1, Ti y9.1.2.2] rfl rfl (by kernel_rfl) (by kernel_rfl) (by kernel_rfl) sz33 (Nat.le_of_ble_eq_true rfl) (by kernel_rfl)) ?_
      refine XL_cons rfl (E_store (id := 72) (off := 0) (cs := [Ti 0, Ti 0, Ti 0, Ti 0]) (vc := [Ti y9.2.1, Ti y9.2.2.1, Ti y9.2.2.2.1, Ti y9.2.2.2.2]) [Ti y9.2.1, Ti y9.2.2.1, Ti y9.2.2.2.1, Ti y9.2.2.2.2] rfl rfl (by kernel_rfl) (by kernel_rfl) (by kernel_rfl) sz53 (Nat.le_of_ble_eq_true rfl) (by kernel_rfl)) ?_
      refine XL_nil ?_
      kernel_rfl
    refine V_seq ?_
    obtain ⟨t10, ht10, h⟩ := of_bind h
    have ht10 := some_inj ht10
    refine V_sreg [false, false, false, false, true, false, false, true, false, true, false, false, false, false, false, false, false, false, false, false, false, false, false, false, false, false, false, false, false, false, false, true, false, false, false, false, false, false, false, false] [72, 56, 32] (s1 := ⟨[.bot, .bot, .bot, .bot, .pt 32 0, .bot, .bot, .pt 56 0, .bot, .pt 72 0, .bot, .bot, .bot, .bot, .bot, .bot, .bot, .bot, .bot, .bot, .bot, .bot, .bot, .bot, .bot, .bot, .bot, .bot, .bot, .bot, .bot, Bo t10, .bot, .bot, .bot, .bot, .bot, .bot, .bot, .bot], [(72, .box [Ti y9.2.1, Ti y9.2.2.1, Ti y9.2.2.2.1, Ti y9.2.2.2.2]), (56, .box [Ti y8.2.1, Ti y8.2.2.1, Ti y8.2.2.2.1, Ti y8.2.2.2.2]), (32, .box [Ti 0, Ti 0, Ti 0, Ti 0])]⟩) ?_ ?_
    · refine XL_cons rfl (X_of_Y0 rfl (E_loadn (cs := [Ti y8.1.1, Ti y8.1.2.1, Ti y8.1.2.2]) [Ti y8.1.1, Ti y8.1.2.1, Ti y8.1.2.2] wd33 rfl (by kernel_rfl) (Nat.le_of_ble_eq_true rfl) (by kernel_rfl))) ?_
      refine XL_cons rfl (X_of_Y0 rfl (E_loadn (cs := [Ti y9.1.1, Ti y9.1.2.1, Ti y9.1.2.2]) [Ti y9.1.1, Ti y9.1.2.1, Ti y9.1.2.2] wd33 rfl (by kernel_rfl) (Nat.le_of_ble_eq_true rfl) (by kernel_rfl))) ?_
      refine XL_cons rfl (X_of_Y0 rfl (Y0_neg3 (a0 := y8.1.1) (b0 := y9.1.1) (a1 := y8.1.2.1) (b1 := y9.1.2.1) (a2 := y8.1.2.2) (b2 := y9.1.2.2) neg33 rfl (by kernel_rfl) (by kernel_rfl))) ?_
      refine XL_nil ?_
      subst ht10
      kernel_rfl
    refine V_cond rfl (fun hc11 => ?_) (fun hc11 => ?_)
    · have h := of_true h hc11
      refine V_sreg [false, false, false, false, true, true, false, false, false, false, false, false, false, false, false, false, false, false, false, false, false, false, false, false, false, false, false, false, false, false, false, false, false, false, false, false, false, false, false, false] [32] (s1 := ⟨[.bot, .bot, .bot, .bot, .pt 32 0, Bo false, .bot, .bot, .bot, .bot, .bot, .bot, .bot, .bot, .bot, .bot, .bot, .bot, .bot, .bot, .bot, .bot, .bot, .bot, .bot, .bot, .bot, .bot, .bot, .bot, .bot, .bot, .bot, .bot, .bot, .bot, .bot, .bot, .bot, .bot], [(32, .box [Ti 0, Ti 0, Ti 0, Ti 0])]⟩) ?_ ?_
      · refine XL_cons rfl (X_of_Y0 rfl (Y0_build (cs := [Ti 0, Ti 0, Ti 0, Ti 0]) pl53 bt53 rfl rfl (by kernel_rfl))) ?_
        refine XL_cons rfl (E_store (id := 32) (off := 0) (cs := [Ti 0, Ti 0, Ti 0, Ti 0]) (vc := [Ti 0, Ti 0, Ti 0, Ti 0]) [Ti 0, Ti 0, Ti 0, Ti 0] rfl rfl (by kernel_rfl) (by kernel_rfl) (by kernel_rfl) sz53 (Nat.le_of_ble_eq_true rfl) (by kernel_rfl)) ?_
        refine XL_cons rfl (X_of_Y0 rfl (E_assign (Bo false) rfl (by kernel_rfl))) ?_
        refine XL_nil ?_
        kernel_rfl
      refine V_ret ?_
      obtain rfl := some_inj h
      show Post _ _ _ _ _
      exact ⟨.inr rfl, rfl, rfl, rfl⟩
    · have h := of_false h hc11
      refine V_skip ?_
      show V _ _ _ _
      obtain ⟨y12, hy12, h⟩ := of_bind h
      obtain ⟨y13, hy13, h⟩ := of_bind h
      obtain ⟨y14, hy14, h⟩ := of_bind h
      refine V_sdreg [0, 0, 2, 7, 15, 31, 31, 127, 255] 7 [[.z, .b, .b, .z, .z, .z, .z], [.b, .z, .z, .z, .z, .z, .z], [.b, .a, .z, .z, .z, .z, .z], [.a, .a, .a, .z, .z, .z, .z], [.a, .a, .a, .a, .z, .z, .z], [.a, .a, .a, .a, .a, .z, .b], [.a, .a, .a, .a, .a, .b, .z]] [false, false, false, false, true, true, false, false, false, false, false, false, false, false, false, false, false, false, false, false, false, false, false, false, false, false, false, false, false, false, false, false, false, false, false, false, false, false, false, false] [32] (s1 := ⟨[.bot, .bot, .bot, .bot, .pt 32 0, Bo y14.2, .bot, .bot, .bot, .bot, .bot, .bot, .bot, .bot, .bot, .bot, .bot, .bot, .bot, .bot, .bot, .bot, .bot, .bot, .bot, .bot, .bot, .bot, .bot, .bot, .bot, .bot, .bot, .bot, .bot, .bot, .bot, .bot, .bot, .bot], [(32, .box [Ti y14.1.1, Ti y14.1.2.1, Ti y14.1.2.2.1, Ti y14.1.2.2.2])]⟩) (by kernel_rfl) (by kernel_rfl) ?_ ?_
      · refine DE_0 0 (.ag [Ti y8.2.1, Ti y8.2.2.1, Ti y8.2.2.2.1, Ti y8.2.2.2.2]) (by kernel_rfl) rfl rfl rfl (gsat_none rfl) (by kernel_rfl) (E_loadn (cs := [Ti y8.2.1, Ti y8.2.2.1, Ti y8.2.2.2.1, Ti y8.2.2.2.2]) [Ti y8.2.1, Ti y8.2.2.1, Ti y8.2.2.2.1, Ti y8.2.2.2.2] wd53 rfl (by kernel_rfl) (Nat.le_of_ble_eq_true rfl) (by kernel_rfl)) 33 rfl ?_
        refine DE_0 1 (.ag [Ti y9.2.1, Ti y9.2.2.1, Ti y9.2.2.2.1, Ti y9.2.2.2.2]) (by kernel_rfl) rfl rfl rfl (gsat_none rfl) (by kernel_rfl) (E_loadn (cs := [Ti y9.2.1, Ti y9.2.2.1, Ti y9.2.2.2.1, Ti y9.2.2.2.2]) [Ti y9.2.1, Ti y9.2.2.1, Ti y9.2.2.2.1, Ti y9.2.2.2.2] wd53 rfl (by kernel_rfl) (Nat.le_of_ble_eq_true rfl) (by kernel_rfl)) 34 rfl ?_
        refine DE_1 2 (by kernel_rfl) rfl rfl rfl (gsat_none rfl) (Y1_call (s_impl_Matrix_inverse hy12) cf_impl_Matrix_inverse rfl (by kernel_rfl)) rfl rfl rfl 35 rfl ?_
        refine DE_1 3 (by kernel_rfl) rfl rfl rfl (gsat_none rfl) (Y1_call (s_impl_Matrix_times hy13) cf_impl_Matrix_times rfl (by kernel_rfl)) rfl rfl rfl 36 rfl ?_
        refine DE_1 4 (by kernel_rfl) rfl rfl rfl (gsat_none rfl) (Y1_call (s_impl_checked hy14) cf_impl_checked rfl (by kernel_rfl)) rfl rfl rfl 37 rfl ?_
        refine DE_0 5 (.ag [Ti y14.1.1, Ti y14.1.2.1, Ti y14.1.2.2.1, Ti y14.1.2.2.2]) (by kernel_rfl) rfl rfl rfl (gsat_none rfl) (by kernel_rfl) (E_ext (n := 0) (.ag [Ti y14.1.1, Ti y14.1.2.1, Ti y14.1.2.2.1, Ti y14.1.2.2.2]) (.tc (Bo y14.2) .tn) (.ag [Ti y14.1.1, Ti y14.1.2.1, Ti y14.1.2.2.1, Ti y14.1.2.2.2]) rfl (by kernel_rfl) (by kernel_rfl) (by intro hh; cases hh)) 38 rfl ?_
        refine DE_0 6 (Bo y14.2) (by kernel_rfl) rfl rfl rfl (gsat_none rfl) (by kernel_rfl) (E_ext (n := 1) (.ag [Ti y14.1.1, Ti y14.1.2.1, Ti y14.1.2.2.1, Ti y14.1.2.2.2]) (.tc (Bo y14.2) .tn) (Bo y14.2) rfl (by kernel_rfl) (by kernel_rfl) (by intro hh; cases hh)) 39 rfl ?_
        refine DL_nil (by kernel_rfl) ?_
        refine XL_cons rfl (E_store (id := 32) (off := 0) (cs := [Ti 0, Ti 0, Ti 0, Ti 0]) (vc := [Ti y14.1.1, Ti y14.1.2.1, Ti y14.1.2.2.1, Ti y14.1.2.2.2]) [Ti y14.1.1, Ti y14.1.2.1, Ti y14.1.2.2.1, Ti y14.1.2.2.2] rfl rfl (by kernel_rfl) (by kernel_rfl) (by kernel_rfl) sz53 (Nat.le_of_ble_eq_true rfl) (by kernel_rfl)) ?_
        refine XL_cons rfl (X_of_Y0 rfl (E_assign (Bo y14.2) rfl (by kernel_rfl))) ?_
        refine XL_nil ?_
        kernel_rfl
      refine V_ret ?_
      obtain rfl := some_inj h
      show Post _ _ _ _ _
      exact ⟨.inr rfl, rfl, rfl, rfl⟩
theorem cf_impl_EquivalenceCertificate : ∀ args w, (callFunc 23 args).run Tryd.prog w = .ok (.enter 23 args) w := run_callFunc Tryd.func23 (by kernel_rfl) (by kernel_rfl)
set_option maxRecDepth 100000 in
set_option maxHeartbeats 400000 in
theorem s_impl_EquivalenceCertificate {f1 : (Int × Int × Int)} {g2 : (Int × Int × Int)} {r : (ByteArray × Bool)} (h : r_impl_EquivalenceCertificate f1 g2 = some r) : CallS Tryd.prog 23 [.ag [Ti f1.1, Ti f1.2.1, Ti f1.2.2], .ag [Ti g2.1, Ti g2.2.1, Ti g2.2.2]] (.tc (.c (.v (.string r.1))) (.tc (Bo r.2) .tn)) [] := by
  refine CallS_of_text (rs := [.t 4, .t 5]) (vs := [.tmp 4, .tmp 5]) Tryd.func23 rfl rfl (.cons rfl (.cons rfl FitsL.nil)) (by decide) 24 rfl ?_
  unfold r_impl_EquivalenceCertificate at h
  show V _ _ ⟨[.ag [Ti f1.1, Ti f1.2.1, Ti f1.2.2], .ag [Ti g2.1, Ti g2.2.1, Ti g2.2.2], .bot, .bot, .bot, .bot, .bot, .bot, .bot, .bot, .bot, .bot, .bot, .bot, .bot, .bot, .bot, .bot, .bot, .bot, .bot, .bot, .bot, .bot], []⟩ _
  refine V_sreg [false, false, true, true, false, false, false, false, false, false, false, false, false, false, false, false, false, false, false, false, false, false, false, false] [24, 16] (s1 := ⟨[.bot, .bot, .pt 16 0, .pt 24 0, .bot, .bot, .bot, .bot, .bot, .bot, .bot, .bot, .bot, .bot, .bot, .bot, .bot, .bot, .bot, .bot, .bot, .bot, .bot, .bot], [(24, .box [Ti g2.1, Ti g2.2.1, Ti g2.2.2]), (16, .box [Ti f1.1, Ti f1.2.1, Ti f1.2.2])]⟩) ?_ ?_
  · refine XL_cons rfl (X_of_Y1 rfl (Y1_box (cs := [Ti f1.1, Ti f1.2.1, Ti f1.2.2]) rfl (by kernel_rfl))) ?_
    refine XL_cons rfl (X_of_Y1 rfl (Y1_box (cs := [Ti g2.1, Ti g2.2.1, Ti g2.2.2]) rfl (by kernel_rfl))) ?_
    refine XL_cons rfl (X_of_Y0 rfl (E_assign (.c (.v (.string ((⟨#[]⟩ : ByteArray))))) rfl (by kernel_rfl))) ?_
    refine XL_cons rfl (X_of_Y0 rfl (E_assign (Bo false) rfl (by kernel_rfl))) ?_
    refine XL_nil ?_
    kernel_rfl
  obtain ⟨y3, hy3, h⟩ := of_bind h
  refine V_sreg [false, false, true, true, false, false, true, true, false, false, false, false, false, false, false, false, false, false, false, false, false, false, false, false] [48, 24, 16] (s1 := ⟨[.bot, .bot, .pt 16 0, .pt 24 0, .bot, .bot, .pt 48 0, Bo y3.2, .bot, .bot, .bot, .bot, .bot, .bot, .bot, .bot, .bot, .bot, .bot, .bot, .bot, .bot, .bot, .bot], [(48, .box [Ti y3.1.1, Ti y3.1.2.1, Ti y3.1.2.2.1, Ti y3.1.2.2.2]), (24, .box [Ti g2.1, Ti g2.2.1, Ti g2.2.2]), (16, .box [Ti f1.1, Ti f1.2.1, Ti f1.2.2])]⟩) ?_ ?_
  · refine XL_cons rfl (X_of_Y0 rfl (E_loadn (cs := [Ti f1.1, Ti f1.2.1, Ti f1.2.2]) [Ti f1.1, Ti f1.2.1, Ti f1.2.2] wd33 rfl (by kernel_rfl) (Nat.le_of_ble_eq_true rfl) (by kernel_rfl))) ?_
    refine XL_cons rfl (X_of_Y0 rfl (E_loadn (cs := [Ti g2.1, Ti g2.2.1, Ti g2.2.2]) [Ti g2.1, Ti g2.2.1, Ti g2.2.2] wd33 rfl (by kernel_rfl) (Nat.le_of_ble_eq_true rfl) (by kernel_rfl))) ?_
    refine XL_cons rfl (X_of_Y1 rfl (Y1_call (s_impl_EquivalenceMatrix hy3) cf_impl_EquivalenceMatrix rfl (by kernel_rfl))) ?_
    refine XL_cons rfl (X_of_Y0 rfl (E_move (.tc (.ag [Ti y3.1.1, Ti y3.1.2.1, Ti y3.1.2.2.1, Ti y3.1.2.2.2]) (.tc (Bo y3.2) .tn)) rfl (by kernel_rfl))) ?_
    refine XL_cons rfl (X_of_Y0 rfl (E_ext (n := 0) (.ag [Ti y3.1.1, Ti y3.1.2.1, Ti y3.1.2.2.1, Ti y3.1.2.2.2]) (.tc (Bo y3.2) .tn) (.ag [Ti y3.1.1, Ti y3.1.2.1, Ti y3.1.2.2.1, Ti y3.1.2.2.2]) rfl (by kernel_rfl) (by kernel_rfl) (by intro hh; cases hh))) ?_
    refine XL_cons rfl (X_of_Y0 rfl (E_ext (n := 1) (.ag [Ti y3.1.1, Ti y3.1.2.1, Ti y3.1.2.2.1, Ti y3.1.2.2.2]) (.tc (Bo y3.2) .tn) (Bo y3.2) rfl (by kernel_rfl) (by kernel_rfl) (by intro hh; cases hh))) ?_
    refine XL_cons rfl (X_of_Y1 rfl (Y1_alloc (z := zv53) rfl zf53 rfl)) ?_
    refine XL_cons rfl (E_store (id := 48) (off := 0) (cs := [Ti 0, Ti 0, Ti 0, Ti 0]) (vc := [Ti y3.1.1, Ti y3.1.2.1, Ti y3.1.2.2.1, Ti y3.1.2.2.2]) [Ti y3.1.1, Ti y3.1.2.1, Ti y3.1.2.2.1, Ti y3.1.2.2.2] rfl rfl (by kernel_rfl) (by kernel_rfl) (by kernel_rfl) sz53 (Nat.le_of_ble_eq_true rfl) (by kernel_rfl)) ?_
    refine XL_cons rfl (X_of_Y0 rfl (E_assign (Bo y3.2) rfl (by kernel_rfl))) ?_
    refine XL_nil ?_
    kernel_rfl
  refine V_seq ?_
  refine V_sreg [false, false, true, true, false, false, true, false, false, false, false, false, false, false, false, true, false, false, false, false, false, false, false, false] [48, 24, 16] (s1 := ⟨[.bot, .bot, .pt 16 0, .pt 24 0, .bot, .bot, .pt 48 0, .bot, .bot, .bot, .bot, .bot, .bot, .bot, .bot, Bo (!y3.2), .bot, .bot, .bot, .bot, .bot, .bot, .bot, .bot], [(48, .box [Ti y3.1.1, Ti y3.1.2.1, Ti y3.1.2.2.1, Ti y3.1.2.2.2]), (24, .box [Ti g2.1, Ti g2.2.1, Ti g2.2.2]), (16, .box [Ti f1.1, Ti f1.2.1, Ti f1.2.2])]⟩) ?_ ?_
  · refine XL_cons rfl (X_of_Y0 rfl (E_move (Bo y3.2) rfl (by kernel_rfl))) ?_
    refine XL_cons rfl (X_of_Y0 rfl (Y0_not (b := y3.2) rfl (by kernel_rfl))) ?_
    refine XL_nil ?_
    kernel_rfl
  refine V_cond rfl (fun hc4 => ?_) (fun hc4 => ?_)
  · have h := of_true h hc4
    refine V_sreg [false, false, false, false, true, true, false, false, false, false, false, false, false, false, false, false, false, false, false, false, false, false, false, false] [] (s1 := ⟨[.bot, .bot, .bot, .bot, .c (.v (.string ((⟨#[]⟩ : ByteArray)))), Bo false, .bot, .bot, .bot, .bot, .bot, .bot, .bot, .bot, .bot, .bot, .bot, .bot, .bot, .bot, .bot, .bot, .bot, .bot], []⟩) ?_ ?_
    · refine XL_cons rfl (X_of_Y0 rfl (E_assign (.c (.v (.string ((⟨#[]⟩ : ByteArray))))) rfl (by kernel_rfl))) ?_
      refine XL_cons rfl (X_of_Y0 rfl (E_assign (Bo false) rfl (by kernel_rfl))) ?_
      refine XL_nil ?_
      kernel_rfl
    refine V_ret ?_
    obtain rfl := some_inj h
    show Post _ _ _ _ _
    exact ⟨.inr rfl, rfl, rfl, rfl⟩
  · have h := of_false h hc4
    refine V_skip ?_
    show V _ _ _ _
    obtain ⟨y5, hy5, h⟩ := of_bind h
    obtain ⟨y6, hy6, h⟩ := of_bind h
    obtain ⟨y7, hy7, h⟩ := of_bind h
    obtain ⟨y8, hy8, h⟩ := of_bind h
    refine V_sdreg [0, 1, 0, 7, 0, 31, 63, 127, 255, 511] 10 [[.z, .z, .b, .z, .b, .z, .z, .z, .z, .z], [.a, .z, .b, .z, .b, .z, .z, .z, .z, .z], [.b, .b, .z, .z, .b, .z, .z, .z, .z, .z], [.a, .a, .a, .z, .b, .z, .z, .z, .z, .z], [.b, .b, .b, .b, .z, .z, .z, .z, .z, .z], [.a, .a, .a, .a, .a, .z, .z, .z, .z, .z], [.a, .a, .a, .a, .a, .a, .z, .z, .z, .z], [.a, .a, .a, .a, .a, .a, .a, .z, .z, .z], [.a, .a, .a, .a, .a, .a, .a, .a, .z, .z], [.a, .a, .a, .a, .a, .a, .a, .a, .a, .z]] [false, false, false, false, true, true, false, false, false, false, false, false, false, false, false, false, false, false, false, false, false, false, false, false] [] (s1 := ⟨[.bot, .bot, .bot, .bot, .c (.v (.string y8)), Bo true, .bot, .bot, .bot, .bot, .bot, .bot, .bot, .bot, .bot, .bot, .bot, .bot, .bot, .bot, .bot, .bot, .bot, .bot], []⟩) (by kernel_rfl) (by kernel_rfl) ?_ ?_
    · refine DE_0 0 (.ag [Ti f1.1, Ti f1.2.1, Ti f1.2.2]) (by kernel_rfl) rfl rfl rfl (gsat_none rfl) (by kernel_rfl) (E_loadn (cs := [Ti f1.1, Ti f1.2.1, Ti f1.2.2]) [Ti f1.1, Ti f1.2.1, Ti f1.2.2] wd33 rfl (by kernel_rfl) (Nat.le_of_ble_eq_true rfl) (by kernel_rfl)) 16 rfl ?_
      refine DE_1 1 (by kernel_rfl) rfl rfl rfl (gsat_none rfl) (Y1_call (s_impl_formText hy5) cf_impl_formText rfl (by kernel_rfl)) rfl rfl rfl 17 rfl ?_
      refine DE_0 2 (.ag [Ti g2.1, Ti g2.2.1, Ti g2.2.2]) (by kernel_rfl) rfl rfl rfl (gsat_none rfl) (by kernel_rfl) (E_loadn (cs := [Ti g2.1, Ti g2.2.1, Ti g2.2.2]) [Ti g2.1, Ti g2.2.1, Ti g2.2.2] wd33 rfl (by kernel_rfl) (Nat.le_of_ble_eq_true rfl) (by kernel_rfl)) 18 rfl ?_
      refine DE_1 3 (by kernel_rfl) rfl rfl rfl (gsat_none rfl) (Y1_call (s_impl_formText hy6) cf_impl_formText rfl (by kernel_rfl)) rfl rfl rfl 19 rfl ?_
      refine DE_0 4 (.ag [Ti y3.1.1, Ti y3.1.2.1, Ti y3.1.2.2.1, Ti y3.1.2.2.2]) (by kernel_rfl) rfl rfl rfl (gsat_none rfl) (by kernel_rfl) (E_loadn (cs := [Ti y3.1.1, Ti y3.1.2.1, Ti y3.1.2.2.1, Ti y3.1.2.2.2]) [Ti y3.1.1, Ti y3.1.2.1, Ti y3.1.2.2.1, Ti y3.1.2.2.2] wd53 rfl (by kernel_rfl) (Nat.le_of_ble_eq_true rfl) (by kernel_rfl)) 20 rfl ?_
      refine DE_1 5 (by kernel_rfl) rfl rfl rfl (gsat_none rfl) (Y1_call (s_impl_matrixText hy7) cf_impl_matrixText rfl (by kernel_rfl)) rfl rfl rfl 21 rfl ?_
      refine DE_1 6 (by kernel_rfl) rfl rfl rfl (gsat_none rfl) (Y1_bslice (z := zv9) (els := [y5, y6, y7].map c9) Tryd.underlying22 iz9 rfl (by decide) rfl (by kernel_rfl) rfl (by simp [c9]) (by decide) (by decide)) rfl rfl rfl 22 rfl ?_
      refine DE_1 7 (by kernel_rfl) rfl rfl rfl (gsat_none rfl) (Y1_callS (s_impl_certificate hy8) cf_impl_certificate rfl (by kernel_rfl) rfl rfl) rfl rfl rfl 23 rfl ?_
      refine DE_0 8 (.c (.v (.string y8))) (by kernel_rfl) rfl rfl rfl (gsat_none rfl) (by kernel_rfl) (E_assign (.c (.v (.string y8))) rfl (by kernel_rfl)) 4 rfl ?_
      refine DE_0 9 (Bo true) (by kernel_rfl) rfl rfl rfl (gsat_none rfl) (by kernel_rfl) (E_assign (Bo true) rfl (by kernel_rfl)) 5 rfl ?_
      refine DL_nil (by kernel_rfl) ?_
      refine XL_nil ?_
      kernel_rfl
    refine V_ret ?_
    obtain rfl := some_inj h
    show Post _ _ _ _ _
    exact ⟨.inr rfl, rfl, rfl, rfl⟩
theorem cf_laws_FnExactEquivalenceCertificate : ∀ args w, (callFunc 6 args).run Tryd.prog w = .ok (.enter 6 args) w := run_callFunc Tryd.func6 (by kernel_rfl) (by kernel_rfl)
set_option maxRecDepth 100000 in
set_option maxHeartbeats 400000 in
theorem s_laws_FnExactEquivalenceCertificate {aF1 : (Int × Int × Int)} {aG2 : (Int × Int × Int)} {r : Bool} (h : r_laws_FnExactEquivalenceCertificate aF1 aG2 = some r) : CallS Tryd.prog 6 [.ag [Ti aF1.1, Ti aF1.2.1, Ti aF1.2.2], .ag [Ti aG2.1, Ti aG2.2.1, Ti aG2.2.2]] (Bo r) [] := by
  refine CallS_of_text (rs := [.t 4]) (vs := [.tmp 4]) Tryd.func6 rfl rfl (.cons rfl FitsL.nil) (by decide) 33 rfl ?_
  unfold r_laws_FnExactEquivalenceCertificate at h
  show V _ _ ⟨[.ag [Ti aF1.1, Ti aF1.2.1, Ti aF1.2.2], .ag [Ti aG2.1, Ti aG2.2.1, Ti aG2.2.2], .bot, .bot, .bot, .bot, .bot, .bot, .bot, .bot, .bot, .bot, .bot, .bot, .bot, .bot, .bot, .bot, .bot, .bot, .bot, .bot, .bot, .bot, .bot, .bot, .bot, .bot, .bot, .bot, .bot, .bot, .bot], []⟩ _
  refine V_sreg [false, false, true, true, false, false, false, false, false, false, false, false, false, false, false, false, false, false, false, false, false, false, false, false, false, false, false, false, false, false, false, false, false] [24, 16] (s1 := ⟨[.bot, .bot, .pt 16 0, .pt 24 0, .bot, .bot, .bot, .bot, .bot, .bot, .bot, .bot, .bot, .bot, .bot, .bot, .bot, .bot, .bot, .bot, .bot, .bot, .bot, .bot, .bot, .bot, .bot, .bot, .bot, .bot, .bot, .bot, .bot], [(24, .box [Ti aG2.1, Ti aG2.2.1, Ti aG2.2.2]), (16, .box [Ti aF1.1, Ti aF1.2.1, Ti aF1.2.2])]⟩) ?_ ?_
  · refine XL_cons rfl (X_of_Y1 rfl (Y1_box (cs := [Ti aF1.1, Ti aF1.2.1, Ti aF1.2.2]) rfl (by kernel_rfl))) ?_
    refine XL_cons rfl (X_of_Y1 rfl (Y1_box (cs := [Ti aG2.1, Ti aG2.2.1, Ti aG2.2.2]) rfl (by kernel_rfl))) ?_
    refine XL_cons rfl (X_of_Y0 rfl (E_assign (Bo false) rfl (by kernel_rfl))) ?_
    refine XL_nil ?_
    kernel_rfl
  obtain ⟨y3, hy3, h⟩ := of_bind h
  obtain ⟨y4, hy4, h⟩ := of_bind h
  obtain ⟨y5, hy5, h⟩ := of_bind h
  refine V_sdreg [0, 1, 0, 7, 15, 31, 63, 63, 127, 511] 10 [[.z, .z, .b, .z, .z, .z, .z, .z, .z, .z], [.a, .z, .b, .z, .z, .z, .z, .z, .z, .z], [.b, .b, .z, .z, .z, .z, .z, .z, .z, .z], [.a, .a, .a, .z, .z, .z, .z, .z, .z, .z], [.a, .a, .a, .a, .z, .z, .z, .z, .z, .z], [.a, .a, .a, .a, .a, .z, .z, .z, .z, .z], [.a, .a, .a, .a, .a, .a, .z, .b, .z, .z], [.a, .a, .a, .a, .a, .a, .b, .z, .b, .z], [.a, .a, .a, .a, .a, .a, .a, .b, .z, .z], [.a, .a, .a, .a, .a, .a, .a, .a, .a, .z]] [false, false, true, true, false, true, true, false, false, false, false, false, false, false, false, false, false, false, false, false, false, false, false, false, false, false, false, false, false, false, false, false, false] [24, 16] (s1 := ⟨[.bot, .bot, .pt 16 0, .pt 24 0, .bot, .c (.v (.string y5.1)), Bo y5.2, .bot, .bot, .bot, .bot, .bot, .bot, .bot, .bot, .bot, .bot, .bot, .bot, .bot, .bot, .bot, .bot, .bot, .bot, .bot, .bot, .bot, .bot, .bot, .bot, .bot, .bot], [(24, .box [Ti aG2.1, Ti aG2.2.1, Ti aG2.2.2]), (16, .box [Ti aF1.1, Ti aF1.2.1, Ti aF1.2.2])]⟩) (by kernel_rfl) (by kernel_rfl) ?_ ?_
  · refine DE_0 0 (.ag [Ti aF1.1, Ti aF1.2.1, Ti aF1.2.2]) (by kernel_rfl) rfl rfl rfl (gsat_none rfl) (by kernel_rfl) (E_loadn (cs := [Ti aF1.1, Ti aF1.2.1, Ti aF1.2.2]) [Ti aF1.1, Ti aF1.2.1, Ti aF1.2.2] wd31 rfl (by kernel_rfl) (Nat.le_of_ble_eq_true rfl) (by kernel_rfl)) 10 rfl ?_
    refine DE_1 1 (by kernel_rfl) rfl rfl rfl (gsat_none rfl) (Y1_call (s_laws_toForm hy3) cf_laws_toForm rfl (by kernel_rfl)) rfl rfl rfl 11 rfl ?_
    refine DE_0 2 (.ag [Ti aG2.1, Ti aG2.2.1, Ti aG2.2.2]) (by kernel_rfl) rfl rfl rfl (gsat_none rfl) (by kernel_rfl) (E_loadn (cs := [Ti aG2.1, Ti aG2.2.1, Ti aG2.2.2]) [Ti aG2.1, Ti aG2.2.1, Ti aG2.2.2] wd31 rfl (by kernel_rfl) (Nat.le_of_ble_eq_true rfl) (by kernel_rfl)) 12 rfl ?_
    refine DE_1 3 (by kernel_rfl) rfl rfl rfl (gsat_none rfl) (Y1_call (s_laws_toForm hy4) cf_laws_toForm rfl (by kernel_rfl)) rfl rfl rfl 13 rfl ?_
    refine DE_1 4 (by kernel_rfl) rfl rfl rfl (gsat_none rfl) (Y1_call (s_spec_EquivalenceCertificate hy5) cf_spec_EquivalenceCertificate rfl (by kernel_rfl)) rfl rfl rfl 14 rfl ?_
    refine DE_0 5 (.tc (.c (.v (.string y5.1))) (.tc (Bo y5.2) .tn)) (by kernel_rfl) rfl rfl rfl (gsat_none rfl) (by kernel_rfl) (E_move (.tc (.c (.v (.string y5.1))) (.tc (Bo y5.2) .tn)) rfl (by kernel_rfl)) 9 rfl ?_
    refine DE_0 6 (.c (.v (.string y5.1))) (by kernel_rfl) rfl rfl rfl (gsat_none rfl) (by kernel_rfl) (E_ext (n := 0) (.c (.v (.string y5.1))) (.tc (Bo y5.2) .tn) (.c (.v (.string y5.1))) rfl (by kernel_rfl) (by kernel_rfl) (by intro hh; cases hh)) 15 rfl ?_
    refine DE_0 7 (Bo y5.2) (by kernel_rfl) rfl rfl rfl (gsat_none rfl) (by kernel_rfl) (E_ext (n := 1) (.c (.v (.string y5.1))) (.tc (Bo y5.2) .tn) (Bo y5.2) rfl (by kernel_rfl) (by kernel_rfl) (by intro hh; cases hh)) 16 rfl ?_
    refine DE_0 8 (.c (.v (.string y5.1))) (by kernel_rfl) rfl rfl rfl (gsat_none rfl) (by kernel_rfl) (E_assign (.c (.v (.string y5.1))) rfl (by kernel_rfl)) 5 rfl ?_
    refine DE_0 9 (Bo y5.2) (by kernel_rfl) rfl rfl rfl (gsat_none rfl) (by kernel_rfl) (E_assign (Bo y5.2) rfl (by kernel_rfl)) 6 rfl ?_
    refine DL_nil (by kernel_rfl) ?_
    refine XL_nil ?_
    kernel_rfl
  obtain ⟨y6, hy6, h⟩ := of_bind h
  obtain ⟨y7, hy7, h⟩ := of_bind h
  obtain ⟨y8, hy8, h⟩ := of_bind h
  refine V_sdreg [0, 1, 0, 7, 15, 31, 63, 63, 127, 511] 10 [[.z, .z, .b, .z, .z, .z, .z, .z, .z, .z], [.a, .z, .b, .z, .z, .z, .z, .z, .z, .z], [.b, .b, .z, .z, .z, .z, .z, .z, .z, .z], [.a, .a, .a, .z, .z, .z, .z, .z, .z, .z], [.a, .a, .a, .a, .z, .z, .z, .z, .z, .z], [.a, .a, .a, .a, .a, .z, .z, .z, .z, .z], [.a, .a, .a, .a, .a, .a, .z, .b, .z, .z], [.a, .a, .a, .a, .a, .a, .b, .z, .b, .z], [.a, .a, .a, .a, .a, .a, .a, .b, .z, .z], [.a, .a, .a, .a, .a, .a, .a, .a, .a, .z]] [false, false, false, false, false, true, true, true, true, false, false, false, false, false, false, false, false, false, false, false, false, false, false, false, false, false, false, false, false, false, false, false, false] [] (s1 := ⟨[.bot, .bot, .bot, .bot, .bot, .c (.v (.string y5.1)), Bo y5.2, .c (.v (.string y8.1)), Bo y8.2, .bot, .bot, .bot, .bot, .bot, .bot, .bot, .bot, .bot, .bot, .bot, .bot, .bot, .bot, .bot, .bot, .bot, .bot, .bot, .bot, .bot, .bot, .bot, .bot], []⟩) (by kernel_rfl) (by kernel_rfl) ?_ ?_
  · refine DE_0 0 (.ag [Ti aF1.1, Ti aF1.2.1, Ti aF1.2.2]) (by kernel_rfl) rfl rfl rfl (gsat_none rfl) (by kernel_rfl) (E_loadn (cs := [Ti aF1.1, Ti aF1.2.1, Ti aF1.2.2]) [Ti aF1.1, Ti aF1.2.1, Ti aF1.2.2] wd31 rfl (by kernel_rfl) (Nat.le_of_ble_eq_true rfl) (by kernel_rfl)) 18 rfl ?_
    refine DE_1 1 (by kernel_rfl) rfl rfl rfl (gsat_none rfl) (Y1_call (s_laws_toForm hy6) cf_laws_toForm rfl (by kernel_rfl)) rfl rfl rfl 19 rfl ?_
    refine DE_0 2 (.ag [Ti aG2.1, Ti aG2.2.1, Ti aG2.2.2]) (by kernel_rfl) rfl rfl rfl (gsat_none rfl) (by kernel_rfl) (E_loadn (cs := [Ti aG2.1, Ti aG2.2.1, Ti aG2.2.2]) [Ti aG2.1, Ti aG2.2.1, Ti aG2.2.2] wd31 rfl (by kernel_rfl) (Nat.le_of_ble_eq_true rfl) (by kernel_rfl)) 20 rfl ?_
    refine DE_1 3 (by kernel_rfl) rfl rfl rfl (gsat_none rfl) (Y1_call (s_laws_toForm hy7) cf_laws_toForm rfl (by kernel_rfl)) rfl rfl rfl 21 rfl ?_
    refine DE_1 4 (by kernel_rfl) rfl rfl rfl (gsat_none rfl) (Y1_call (s_impl_EquivalenceCertificate hy8) cf_impl_EquivalenceCertificate rfl (by kernel_rfl)) rfl rfl rfl 22 rfl ?_
    refine DE_0 5 (.tc (.c (.v (.string y8.1))) (.tc (Bo y8.2) .tn)) (by kernel_rfl) rfl rfl rfl (gsat_none rfl) (by kernel_rfl) (E_move (.tc (.c (.v (.string y8.1))) (.tc (Bo y8.2) .tn)) rfl (by kernel_rfl)) 17 rfl ?_
    refine DE_0 6 (.c (.v (.string y8.1))) (by kernel_rfl) rfl rfl rfl (gsat_none rfl) (by kernel_rfl) (E_ext (n := 0) (.c (.v (.string y8.1))) (.tc (Bo y8.2) .tn) (.c (.v (.string y8.1))) rfl (by kernel_rfl) (by kernel_rfl) (by intro hh; cases hh)) 23 rfl ?_
    refine DE_0 7 (Bo y8.2) (by kernel_rfl) rfl rfl rfl (gsat_none rfl) (by kernel_rfl) (E_ext (n := 1) (.c (.v (.string y8.1))) (.tc (Bo y8.2) .tn) (Bo y8.2) rfl (by kernel_rfl) (by kernel_rfl) (by intro hh; cases hh)) 24 rfl ?_
    refine DE_0 8 (.c (.v (.string y8.1))) (by kernel_rfl) rfl rfl rfl (gsat_none rfl) (by kernel_rfl) (E_assign (.c (.v (.string y8.1))) rfl (by kernel_rfl)) 7 rfl ?_
    refine DE_0 9 (Bo y8.2) (by kernel_rfl) rfl rfl rfl (gsat_none rfl) (by kernel_rfl) (E_assign (Bo y8.2) rfl (by kernel_rfl)) 8 rfl ?_
    refine DL_nil (by kernel_rfl) ?_
    refine XL_nil ?_
    kernel_rfl
  refine V_seq ?_
  obtain ⟨t10, ht10, h⟩ := of_bind h
  have ht10 := some_inj ht10
  refine V_sreg [false, false, false, false, false, false, false, false, false, false, false, false, false, false, false, false, false, false, false, false, false, false, false, false, false, false, false, false, false, false, false, false, true] [] (s1 := ⟨[.bot, .bot, .bot, .bot, .bot, .bot, .bot, .bot, .bot, .bot, .bot, .bot, .bot, .bot, .bot, .bot, .bot, .bot, .bot, .bot, .bot, .bot, .bot, .bot, .bot, .bot, .bot, .bot, .bot, .bot, .bot, .bot, Bo t10], []⟩) ?_ ?_
  · refine XL_cons rfl (X_of_Y0 rfl (E_move (.c (.v (.string y8.1))) rfl (by kernel_rfl))) ?_
    refine XL_cons rfl (X_of_Y0 rfl (E_move (.c (.v (.string y5.1))) rfl (by kernel_rfl))) ?_
    refine XL_cons rfl (X_of_Y0 rfl (Y0_nes (a := y8.1) (b := y5.1) rfl (by kernel_rfl) (by kernel_rfl))) ?_
    refine XL_cons rfl (X_of_Y0 rfl (E_move (Bo (!(y8.1.toList == y5.1.toList))) rfl (by kernel_rfl))) ?_
    refine XL_split (!(y8.1.toList == y5.1.toList)) (fun hc9 => ?_) (fun hc9 => ?_)
    · refine XL_skipF (!(y8.1.toList == y5.1.toList)) rfl rfl (by kernel_rfl) hc9 rfl ?_
      refine XL_skipF (!(y8.1.toList == y5.1.toList)) rfl rfl (by kernel_rfl) hc9 rfl ?_
      refine XL_skipF (!(y8.1.toList == y5.1.toList)) rfl rfl (by kernel_rfl) hc9 rfl ?_
      refine XL_cons rfl (X_of_Y0 rfl (Y0_pick1 (b := !(y8.1.toList == y5.1.toList)) (p := true) (q := y8.2 != y5.2) rfl (by kernel_rfl) hc9 (by kernel_rfl))) ?_
      refine XL_nil ?_
      subst ht10
      kernel_rfl
    · refine XL_takeC (!(y8.1.toList == y5.1.toList)) rfl rfl (by kernel_rfl) hc9 (X_of_Y0 rfl (E_move (Bo y8.2) rfl (by kernel_rfl))) ?_
      refine XL_takeC (!(y8.1.toList == y5.1.toList)) rfl rfl (by kernel_rfl) hc9 (X_of_Y0 rfl (E_move (Bo y5.2) rfl (by kernel_rfl))) ?_
      refine XL_takeC (!(y8.1.toList == y5.1.toList)) rfl rfl (by kernel_rfl) hc9 (X_of_Y0 rfl (Y0_neb (a := y8.2) (b := y5.2) Tryd.underlying4 rfl (by kernel_rfl) (by kernel_rfl))) ?_
      refine XL_cons rfl (X_of_Y0 rfl (Y0_pick0 (b := !(y8.1.toList == y5.1.toList)) (p := true) (q := y8.2 != y5.2) rfl (by kernel_rfl) hc9 (by kernel_rfl))) ?_
      refine XL_nil ?_
      subst ht10
      kernel_rfl
  refine V_cond rfl (fun hc11 => ?_) (fun hc11 => ?_)
  · have h := of_true h hc11
    refine V_sreg [false, false, false, false, true, false, false, false, false, false, false, false, false, false, false, false, false, false, false, false, false, false, false, false, false, false, false, false, false, false, false, false, false] [] (s1 := ⟨[.bot, .bot, .bot, .bot, Bo false, .bot, .bot, .bot, .bot, .bot, .bot, .bot, .bot, .bot, .bot, .bot, .bot, .bot, .bot, .bot, .bot, .bot, .bot, .bot, .bot, .bot, .bot, .bot, .bot, .bot, .bot, .bot, .bot], []⟩) ?_ ?_
    · refine XL_cons rfl (X_of_Y0 rfl (E_assign (Bo false) rfl (by kernel_rfl))) ?_
      refine XL_nil ?_
      kernel_rfl
    refine V_ret ?_
    obtain rfl := some_inj h
    show Post _ _ _ _ _
    exact ⟨.inr rfl, rfl, rfl, rfl⟩
  · have h := of_false h hc11
    refine V_skip ?_
    show V _ _ _ _
    refine V_sreg [false, false, false, false, true, false, false, false, false, false, false, false, false, false, false, false, false, false, false, false, false, false, false, false, false, false, false, false, false, false, false, false, false] [] (s1 := ⟨[.bot, .bot, .bot, .bot, Bo true, .bot, .bot, .bot, .bot, .bot, .bot, .bot, .bot, .bot, .bot, .bot, .bot, .bot, .bot, .bot, .bot, .bot, .bot, .bot, .bot, .bot, .bot, .bot, .bot, .bot, .bot, .bot, .bot], []⟩) ?_ ?_
    · refine XL_cons rfl (X_of_Y0 rfl (E_assign (Bo true) rfl (by kernel_rfl))) ?_
      refine XL_nil ?_
      kernel_rfl
    refine V_ret ?_
    obtain rfl := some_inj h
    show Post _ _ _ _ _
    exact ⟨.inr rfl, rfl, rfl, rfl⟩
end Go.Proofs.YtmpnloechnfkjaaDoor
