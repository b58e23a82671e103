/-
  The functions of the program compute what the plain functions say: more of them.
  Conditions: none.
-/
import Derived.Test.YtmpnloechnfkjaaDoorVlSnd1
namespace Go.Proofs.YtmpnloechnfkjaaDoor
open Go.RowKit
set_option linter.unusedVariables false
set_option linter.unusedSimpArgs false
theorem cf_impl_Form_points : ∀ args w, (callFunc 145 args).run Tryd.prog w = .ok (.enter 145 args) w := run_callFunc Tryd.func145 (by kernel_rfl) (by kernel_rfl)
set_option maxRecDepth 100000 in
set_option maxHeartbeats 400000 in
theorem s_impl_Form_points {f1 : (Int × Int × Int)} {vn2 : Int} {r : List ((Int × Int))} (h : r_impl_Form_points f1 vn2 = some r) : CallS Tryd.prog 145 [.ag [Ti f1.1, Ti f1.2.1, Ti f1.2.2], I vn2] (.ow 0) [(0, .arr 66 2 (r.map c66))] := by
  refine CallS_of_text (rs := [.t 4]) (vs := [.tmp 4]) Tryd.func145 rfl rfl (.cons rfl FitsL.nil) (by decide) 107 rfl ?_
  unfold r_impl_Form_points at h
  show V _ _ ⟨[.ag [Ti f1.1, Ti f1.2.1, Ti f1.2.2], I vn2, .bot, .bot, .bot, .bot, .bot, .bot, .bot, .bot, .bot, .bot, .bot, .bot, .bot, .bot, .bot, .bot, .bot, .bot, .bot, .bot, .bot, .bot, .bot, .bot, .bot, .bot, .bot, .bot, .bot, .bot, .bot, .bot, .bot, .bot, .bot, .bot, .bot, .bot, .bot, .bot, .bot, .bot, .bot, .bot, .bot, .bot, .bot, .bot, .bot, .bot, .bot, .bot, .bot, .bot, .bot, .bot, .bot, .bot, .bot, .bot, .bot, .bot, .bot, .bot, .bot, .bot, .bot, .bot, .bot, .bot, .bot, .bot, .bot, .bot, .bot, .bot, .bot, .bot, .bot, .bot, .bot, .bot, .bot, .bot, .bot, .bot, .bot, .bot, .bot, .bot, .bot, .bot, .bot, .bot, .bot, .bot, .bot, .bot, .bot, .bot, .bot, .bot, .bot, .bot, .bot], []⟩ _
  refine V_sreg [false, true, true, false, false, false, false, false, false, false, false, false, false, false, false, false, false, false, false, false, false, false, false, false, false, false, false, false, false, false, false, false, false, false, false, false, false, false, false, false, false, false, false, false, false, false, false, false, false, false, false, false, false, false, false, false, false, false, false, false, false, false, false, false, false, false, false, false, false, false, false, false, false, false, false, false, false, false, false, false, false, false, false, false, false, false, false, false, false, false, false, false, false, false, false, false, false, false, false, false, false, false, false, false, false, false, false] [16] (s1 := ⟨[.bot, I vn2, .pt 16 0, .bot, .bot, .bot, .bot, .bot, .bot, .bot, .bot, .bot, .bot, .bot, .bot, .bot, .bot, .bot, .bot, .bot, .bot, .bot, .bot, .bot, .bot, .bot, .bot, .bot, .bot, .bot, .bot, .bot, .bot, .bot, .bot, .bot, .bot, .bot, .bot, .bot, .bot, .bot, .bot, .bot, .bot, .bot, .bot, .bot, .bot, .bot, .bot, .bot, .bot, .bot, .bot, .bot, .bot, .bot, .bot, .bot, .bot, .bot, .bot, .bot, .bot, .bot, .bot, .bot, .bot, .bot, .bot, .bot, .bot, .bot, .bot, .bot, .bot, .bot, .bot, .bot, .bot, .bot, .bot, .bot, .bot, .bot, .bot, .bot, .bot, .bot, .bot, .bot, .bot, .bot, .bot, .bot, .bot, .bot, .bot, .bot, .bot, .bot, .bot, .bot, .bot, .bot, .bot], [(16, .box [Ti f1.1, Ti f1.2.1, Ti f1.2.2])]⟩) ?_ ?_
  · refine XL_cons rfl (X_of_Y1 rfl (Y1_box (cs := [Ti f1.1, Ti f1.2.1, Ti f1.2.2]) rfl (by kernel_rfl))) ?_
    refine XL_cons rfl (X_of_Y1 rfl (Y1_nil (e := 66) 2 (by decide) (.inl rfl))) ?_
    refine XL_nil ?_
    kernel_rfl
  refine V_sreg [false, true, true, false, false, true, false, false, false, false, false, false, false, false, false, false, false, false, false, false, false, false, false, false, false, false, false, false, false, false, false, false, false, false, false, false, false, false, false, false, false, false, false, false, false, false, false, false, false, false, false, false, false, false, false, false, false, false, false, false, false, false, false, false, false, false, false, false, false, false, false, false, false, false, false, false, false, false, false, false, false, false, false, false, false, false, false, false, false, false, false, false, false, false, false, false, false, false, false, false, false, false, false, false, false, false, false] [88, 16] (s1 := ⟨[.bot, I vn2, .pt 16 0, .bot, .bot, .ow 88, .bot, .bot, .bot, .bot, .bot, .bot, .bot, .bot, .bot, .bot, .bot, .bot, .bot, .bot, .bot, .bot, .bot, .bot, .bot, .bot, .bot, .bot, .bot, .bot, .bot, .bot, .bot, .bot, .bot, .bot, .bot, .bot, .bot, .bot, .bot, .bot, .bot, .bot, .bot, .bot, .bot, .bot, .bot, .bot, .bot, .bot, .bot, .bot, .bot, .bot, .bot, .bot, .bot, .bot, .bot, .bot, .bot, .bot, .bot, .bot, .bot, .bot, .bot, .bot, .bot, .bot, .bot, .bot, .bot, .bot, .bot, .bot, .bot, .bot, .bot, .bot, .bot, .bot, .bot, .bot, .bot, .bot, .bot, .bot, .bot, .bot, .bot, .bot, .bot, .bot, .bot, .bot, .bot, .bot, .bot, .bot, .bot, .bot, .bot, .bot, .bot], [(88, .arr 66 2 ((([] : List ((Int × Int)))).map c66)), (16, .box [Ti f1.1, Ti f1.2.1, Ti f1.2.2])]⟩) ?_ ?_
  · refine XL_cons rfl (X_of_Y1 rfl (Y1_bslice0 Tryd.underlying62 sz66 (by decide) rfl rfl)) ?_
    refine XL_cons rfl (X_of_Y0 rfl (E_assign (.ow 88) rfl (by kernel_rfl))) ?_
    refine XL_nil ?_
    kernel_rfl
  obtain ⟨y3, hy3, h⟩ := of_bind h
  refine V_sreg [false, true, true, false, false, true, true, false, false, false, false, false, false, false, false, false, false, false, false, false, false, false, false, false, false, false, false, false, false, false, false, false, false, false, false, false, false, false, false, false, false, false, false, false, false, false, false, false, false, false, false, false, false, false, false, false, false, false, false, false, false, false, false, false, false, false, false, false, false, false, false, false, false, false, false, false, false, false, false, false, false, false, false, false, false, false, false, false, false, false, false, false, false, false, false, false, false, false, false, false, false, false, false, false, false, false, false] [88, 16] (s1 := ⟨[.bot, I vn2, .pt 16 0, .bot, .bot, .ow 88, I y3, .bot, .bot, .bot, .bot, .bot, .bot, .bot, .bot, .bot, .bot, .bot, .bot, .bot, .bot, .bot, .bot, .bot, .bot, .bot, .bot, .bot, .bot, .bot, .bot, .bot, .bot, .bot, .bot, .bot, .bot, .bot, .bot, .bot, .bot, .bot, .bot, .bot, .bot, .bot, .bot, .bot, .bot, .bot, .bot, .bot, .bot, .bot, .bot, .bot, .bot, .bot, .bot, .bot, .bot, .bot, .bot, .bot, .bot, .bot, .bot, .bot, .bot, .bot, .bot, .bot, .bot, .bot, .bot, .bot, .bot, .bot, .bot, .bot, .bot, .bot, .bot, .bot, .bot, .bot, .bot, .bot, .bot, .bot, .bot, .bot, .bot, .bot, .bot, .bot, .bot, .bot, .bot, .bot, .bot, .bot, .bot, .bot, .bot, .bot, .bot], [(88, .arr 66 2 ((([] : List ((Int × Int)))).map c66)), (16, .box [Ti f1.1, Ti f1.2.1, Ti f1.2.2])]⟩) ?_ ?_
  · refine XL_cons rfl (X_of_Y0 rfl (E_loadn (cs := [Ti f1.1, Ti f1.2.1, Ti f1.2.2]) [Ti f1.1, Ti f1.2.1, Ti f1.2.2] wd33 rfl (by kernel_rfl) (Nat.le_of_ble_eq_true rfl) (by kernel_rfl))) ?_
    refine XL_cons rfl (X_of_Y1 rfl (Y1_call (s_impl_Form_disc hy3) cf_impl_Form_disc rfl (by kernel_rfl))) ?_
    refine XL_cons rfl (X_of_Y0 rfl (E_assign (I y3) rfl (by kernel_rfl))) ?_
    refine XL_nil ?_
    kernel_rfl
  obtain ⟨z4, hz4, h⟩ := of_bind h
  obtain ⟨y5, hy5, h⟩ := of_bind h
  refine V_sreg [false, true, true, false, false, true, true, true, false, false, false, false, false, false, false, false, false, false, false, false, false, false, false, false, false, false, false, false, false, false, false, false, false, false, false, false, false, false, false, false, false, false, false, false, false, false, false, false, false, false, false, false, false, false, false, false, false, false, false, false, false, false, false, false, false, false, false, false, false, false, false, false, false, false, false, false, false, false, false, false, false, false, false, false, false, false, false, false, false, false, false, false, false, false, false, false, false, false, false, false, false, false, false, false, false, false, false] [88, 16] (s1 := ⟨[.bot, I vn2, .pt 16 0, .bot, .bot, .ow 88, I y3, I y5, .bot, .bot, .bot, .bot, .bot, .bot, .bot, .bot, .bot, .bot, .bot, .bot, .bot, .bot, .bot, .bot, .bot, .bot, .bot, .bot, .bot, .bot, .bot, .bot, .bot, .bot, .bot, .bot, .bot, .bot, .bot, .bot, .bot, .bot, .bot, .bot, .bot, .bot, .bot, .bot, .bot, .bot, .bot, .bot, .bot, .bot, .bot, .bot, .bot, .bot, .bot, .bot, .bot, .bot, .bot, .bot, .bot, .bot, .bot, .bot, .bot, .bot, .bot, .bot, .bot, .bot, .bot, .bot, .bot, .bot, .bot, .bot, .bot, .bot, .bot, .bot, .bot, .bot, .bot, .bot, .bot, .bot, .bot, .bot, .bot, .bot, .bot, .bot, .bot, .bot, .bot, .bot, .bot, .bot, .bot, .bot, .bot, .bot, .bot], [(88, .arr 66 2 ((([] : List ((Int × Int)))).map c66)), (16, .box [Ti f1.1, Ti f1.2.1, Ti f1.2.2])]⟩) ?_ ?_
  · refine XL_cons rfl (X_of_Y0 rfl (E_field (.pt 16 2) Tryd.underlying33 rfl sz3 rfl (by kernel_rfl) (by intro hh; cases hh))) ?_
    refine XL_cons rfl (X_of_Y0 rfl (Y0_load1 (c := Ti f1.2.2) (cs := []) sc3 rfl (by kernel_rfl))) ?_
    refine XL_cons rfl (X_of_Y0 rfl (Y0_mul64 (a := 4) (b := f1.2.2) rfl (by kernel_rfl) (by kernel_rfl))) ?_
    refine XL_cons rfl (X_of_Y0 rfl (E_move (I vn2) rfl (by kernel_rfl))) ?_
    refine XL_cons rfl (X_of_Y0 rfl (Y0_mul64 (a := w64 (4 * f1.2.2)) (b := vn2) rfl (by kernel_rfl) (by kernel_rfl))) ?_
    refine XL_cons rfl (X_of_Y0 rfl (E_move (I y3) rfl (by kernel_rfl))) ?_
    refine XL_cons rfl (X_of_Y0 rfl (Y0_neg64 (a := y3) rfl (by kernel_rfl))) ?_
    refine XL_cons rfl (X_of_Y0 rfl (Y0_quo64 (a := w64 ((w64 (4 * f1.2.2)) * vn2)) (b := w64 (0 - y3)) rfl (by kernel_rfl) (by kernel_rfl) (nz_some hz4))) ?_
    refine XL_cons rfl (X_of_Y1 rfl (Y1_call (s_impl_root hy5) cf_impl_root rfl (by kernel_rfl))) ?_
    refine XL_cons rfl (X_of_Y0 rfl (E_assign (I y5) rfl (by kernel_rfl))) ?_
    refine XL_nil ?_
    kernel_rfl
  refine V_seq ?_
  obtain ⟨x6, hx6, h⟩ := of_sI h
  refine V_sreg [false, true, true, false, false, true, true, true, true, false, false, false, false, false, false, false, false, false, false, false, false, false, false, false, false, false, false, false, false, false, false, false, false, false, false, false, false, false, false, false, false, false, false, false, false, false, false, false, false, false, false, false, false, false, false, false, false, false, false, false, false, false, false, false, false, false, false, false, false, false, false, false, false, false, false, false, false, false, false, false, false, false, false, false, false, false, false, false, false, false, false, false, false, false, false, false, false, false, false, false, false, false, false, false, false, false, false] [88, 16] (s1 := ⟨[.bot, I vn2, .pt 16 0, .bot, .bot, .ow 88, I y3, I y5, I x6, .bot, .bot, .bot, .bot, .bot, .bot, .bot, .bot, .bot, .bot, .bot, .bot, .bot, .bot, .bot, .bot, .bot, .bot, .bot, .bot, .bot, .bot, .bot, .bot, .bot, .bot, .bot, .bot, .bot, .bot, .bot, .bot, .bot, .bot, .bot, .bot, .bot, .bot, .bot, .bot, .bot, .bot, .bot, .bot, .bot, .bot, .bot, .bot, .bot, .bot, .bot, .bot, .bot, .bot, .bot, .bot, .bot, .bot, .bot, .bot, .bot, .bot, .bot, .bot, .bot, .bot, .bot, .bot, .bot, .bot, .bot, .bot, .bot, .bot, .bot, .bot, .bot, .bot, .bot, .bot, .bot, .bot, .bot, .bot, .bot, .bot, .bot, .bot, .bot, .bot, .bot, .bot, .bot, .bot, .bot, .bot, .bot, .bot], [(88, .arr 66 2 ((([] : List ((Int × Int)))).map c66)), (16, .box [Ti f1.1, Ti f1.2.1, Ti f1.2.2])]⟩) ?_ ?_
  · refine XL_cons rfl (X_of_Y0 rfl (E_move (I y5) rfl (by kernel_rfl))) ?_
    refine XL_cons rfl (X_of_Y0 rfl (Y0_neg64 (a := y5) rfl (by kernel_rfl))) ?_
    refine XL_cons rfl (X_of_Y0 rfl (E_assign (I (w64 (0 - y5))) rfl (by kernel_rfl))) ?_
    refine XL_nil ?_
    subst hx6
    kernel_rfl
  obtain ⟨o10, hLo10, h⟩ := of_bind h
  refine V_toK [false, false, false, false, false, true, false, false, false, false, false, false, false, false, false, false, false, false, false, false, false, false, false, false, false, false, false, false, false, false, false, false, false, false, false, false, false, false, false, false, false, false, false, false, false, false, false, false, false, false, false, false, false, false, false, false, false, false, false, false, false, false, false, false, false, false, false, false, false, false, false, false, false, false, false, false, false, false, false, false, false, false, false, false, false, false, false, false, false, false, false, false, false, false, false, false, false, false, false, false, false, false, false, false, false, false, false] [88] (s1 := ⟨[.bot, .bot, .bot, .bot, .bot, .ow 88, .bot, .bot, .bot, .bot, .bot, .bot, .bot, .bot, .bot, .bot, .bot, .bot, .bot, .bot, .bot, .bot, .bot, .bot, .bot, .bot, .bot, .bot, .bot, .bot, .bot, .bot, .bot, .bot, .bot, .bot, .bot, .bot, .bot, .bot, .bot, .bot, .bot, .bot, .bot, .bot, .bot, .bot, .bot, .bot, .bot, .bot, .bot, .bot, .bot, .bot, .bot, .bot, .bot, .bot, .bot, .bot, .bot, .bot, .bot, .bot, .bot, .bot, .bot, .bot, .bot, .bot, .bot, .bot, .bot, .bot, .bot, .bot, .bot, .bot, .bot, .bot, .bot, .bot, .bot, .bot, .bot, .bot, .bot, .bot, .bot, .bot, .bot, .bot, .bot, .bot, .bot, .bot, .bot, .bot, .bot, .bot, .bot, .bot, .bot, .bot, .bot], [(88, .arr 66 2 (o10.map c66))]⟩) ?_ ?_
  · clear h
    refine V_block (V_loop (fun n s => ∃ (x7 : Int) (l8 : List ((Int × Int))), s.keep [false, true, true, false, false, true, true, true, true, false, false, false, false, false, false, false, false, false, false, false, false, false, false, false, false, false, false, false, false, false, false, false, false, false, false, false, false, false, false, false, false, false, false, false, false, false, false, false, false, false, false, false, false, false, false, false, false, false, false, false, false, false, false, false, false, false, false, false, false, false, false, false, false, false, false, false, false, false, false, false, false, false, false, false, false, false, false, false, false, false, false, false, false, false, false, false, false, false, false, false, false, false, false, false, false, false, false] [88, 16] = (⟨[.bot, I vn2, .pt 16 0, .bot, .bot, .ow 88, I y3, I y5, I x7, .bot, .bot, .bot, .bot, .bot, .bot, .bot, .bot, .bot, .bot, .bot, .bot, .bot, .bot, .bot, .bot, .bot, .bot, .bot, .bot, .bot, .bot, .bot, .bot, .bot, .bot, .bot, .bot, .bot, .bot, .bot, .bot, .bot, .bot, .bot, .bot, .bot, .bot, .bot, .bot, .bot, .bot, .bot, .bot, .bot, .bot, .bot, .bot, .bot, .bot, .bot, .bot, .bot, .bot, .bot, .bot, .bot, .bot, .bot, .bot, .bot, .bot, .bot, .bot, .bot, .bot, .bot, .bot, .bot, .bot, .bot, .bot, .bot, .bot, .bot, .bot, .bot, .bot, .bot, .bot, .bot, .bot, .bot, .bot, .bot, .bot, .bot, .bot, .bot, .bot, .bot, .bot, .bot, .bot, .bot, .bot, .bot, .bot], [(88, .arr 66 2 (l8.map c66)), (16, .box [Ti f1.1, Ti f1.2.1, Ti f1.2.2])]⟩ : St) ∧ r_impl_Form_points_L9 f1 vn2 y3 y5 n x7 l8 = some o10) FU ⟨_, _,  by rfl, hLo10⟩ ?_)
    clear hLo10
    rintro n s ⟨x7, l8, hs, h⟩
    refine V_keep _ _ hs ?_
    clear hs
    cases n with
    | zero => cases h
    | succ n =>
      rw [r_impl_Form_points_L9] at h
      refine V_seq ?_
      refine V_sreg [false, true, true, false, false, true, true, true, true, false, false, false, false, false, false, false, false, false, false, false, false, false, false, false, false, false, false, true, false, false, false, false, false, false, false, false, false, false, false, false, false, false, false, false, false, false, false, false, false, false, false, false, false, false, false, false, false, false, false, false, false, false, false, false, false, false, false, false, false, false, false, false, false, false, false, false, false, false, false, false, false, false, false, false, false, false, false, false, false, false, false, false, false, false, false, false, false, false, false, false, false, false, false, false, false, false, false] [88, 16] (s1 := ⟨[.bot, I vn2, .pt 16 0, .bot, .bot, .ow 88, I y3, I y5, I x7, .bot, .bot, .bot, .bot, .bot, .bot, .bot, .bot, .bot, .bot, .bot, .bot, .bot, .bot, .bot, .bot, .bot, .bot, Bo (leI x7 y5), .bot, .bot, .bot, .bot, .bot, .bot, .bot, .bot, .bot, .bot, .bot, .bot, .bot, .bot, .bot, .bot, .bot, .bot, .bot, .bot, .bot, .bot, .bot, .bot, .bot, .bot, .bot, .bot, .bot, .bot, .bot, .bot, .bot, .bot, .bot, .bot, .bot, .bot, .bot, .bot, .bot, .bot, .bot, .bot, .bot, .bot, .bot, .bot, .bot, .bot, .bot, .bot, .bot, .bot, .bot, .bot, .bot, .bot, .bot, .bot, .bot, .bot, .bot, .bot, .bot, .bot, .bot, .bot, .bot, .bot, .bot, .bot, .bot, .bot, .bot, .bot, .bot, .bot, .bot], [(88, .arr 66 2 (l8.map c66)), (16, .box [Ti f1.1, Ti f1.2.1, Ti f1.2.2])]⟩) ?_ ?_
      · refine XL_cons rfl (X_of_Y0 rfl (E_move (I x7) rfl (by kernel_rfl))) ?_
        refine XL_cons rfl (X_of_Y0 rfl (E_move (I y5) rfl (by kernel_rfl))) ?_
        refine XL_cons rfl (X_of_Y0 rfl (Y0_lew (k := .i64) (a := x7) (b := y5) rfl (by kernel_rfl) (by kernel_rfl))) ?_
        refine XL_nil ?_
        kernel_rfl
      refine V_cond rfl (fun hc11 => ?_) (fun hc11 => ?_)
      · have h := of_true h hc11
        refine V_skip ?_
        show V _ _ _ _
        refine V_seq ?_
        refine V_block ?_
        obtain ⟨square12, hsquare12, h⟩ := of_sI h
        refine V_sreg [false, true, true, false, false, true, true, true, true, true, false, false, false, false, false, false, false, false, false, false, false, false, false, false, false, false, false, false, false, false, false, false, false, false, false, false, false, false, false, false, false, false, false, false, false, false, false, false, false, false, false, false, false, false, false, false, false, false, false, false, false, false, false, false, false, false, false, false, false, false, false, false, false, false, false, false, false, false, false, false, false, false, false, false, false, false, false, false, false, false, false, false, false, false, false, false, false, false, false, false, false, false, false, false, false, false, false] [88, 16] (s1 := ⟨[.bot, I vn2, .pt 16 0, .bot, .bot, .ow 88, I y3, I y5, I x7, I square12, .bot, .bot, .bot, .bot, .bot, .bot, .bot, .bot, .bot, .bot, .bot, .bot, .bot, .bot, .bot, .bot, .bot, .bot, .bot, .bot, .bot, .bot, .bot, .bot, .bot, .bot, .bot, .bot, .bot, .bot, .bot, .bot, .bot, .bot, .bot, .bot, .bot, .bot, .bot, .bot, .bot, .bot, .bot, .bot, .bot, .bot, .bot, .bot, .bot, .bot, .bot, .bot, .bot, .bot, .bot, .bot, .bot, .bot, .bot, .bot, .bot, .bot, .bot, .bot, .bot, .bot, .bot, .bot, .bot, .bot, .bot, .bot, .bot, .bot, .bot, .bot, .bot, .bot, .bot, .bot, .bot, .bot, .bot, .bot, .bot, .bot, .bot, .bot, .bot, .bot, .bot, .bot, .bot, .bot, .bot, .bot, .bot], [(88, .arr 66 2 (l8.map c66)), (16, .box [Ti f1.1, Ti f1.2.1, Ti f1.2.2])]⟩) ?_ ?_
        · refine XL_cons rfl (X_of_Y0 rfl (E_move (I y3) rfl (by kernel_rfl))) ?_
          refine XL_cons rfl (X_of_Y0 rfl (E_move (I x7) rfl (by kernel_rfl))) ?_
          refine XL_cons rfl (X_of_Y0 rfl (Y0_mul64 (a := y3) (b := x7) rfl (by kernel_rfl) (by kernel_rfl))) ?_
          refine XL_cons rfl (X_of_Y0 rfl (E_move (I x7) rfl (by kernel_rfl))) ?_
          refine XL_cons rfl (X_of_Y0 rfl (Y0_mul64 (a := w64 (y3 * x7)) (b := x7) rfl (by kernel_rfl) (by kernel_rfl))) ?_
          refine XL_cons rfl (X_of_Y0 rfl (E_field (.pt 16 2) Tryd.underlying33 rfl sz3 rfl (by kernel_rfl) (by intro hh; cases hh))) ?_
          refine XL_cons rfl (X_of_Y0 rfl (Y0_load1 (c := Ti f1.2.2) (cs := []) sc3 rfl (by kernel_rfl))) ?_
          refine XL_cons rfl (X_of_Y0 rfl (Y0_mul64 (a := 4) (b := f1.2.2) rfl (by kernel_rfl) (by kernel_rfl))) ?_
          refine XL_cons rfl (X_of_Y0 rfl (E_move (I vn2) rfl (by kernel_rfl))) ?_
          refine XL_cons rfl (X_of_Y0 rfl (Y0_mul64 (a := w64 (4 * f1.2.2)) (b := vn2) rfl (by kernel_rfl) (by kernel_rfl))) ?_
          refine XL_cons rfl (X_of_Y0 rfl (Y0_add64 (a := w64 ((w64 (y3 * x7)) * x7)) (b := w64 ((w64 (4 * f1.2.2)) * vn2)) rfl (by kernel_rfl) (by kernel_rfl))) ?_
          refine XL_cons rfl (X_of_Y0 rfl (E_assign (I (w64 ((w64 ((w64 (y3 * x7)) * x7)) + (w64 ((w64 (4 * f1.2.2)) * vn2))))) rfl (by kernel_rfl))) ?_
          refine XL_nil ?_
          subst hsquare12
          kernel_rfl
        refine V_seq ?_
        obtain ⟨y13, hy13, h⟩ := of_bind h
        refine V_sreg [false, true, true, false, false, true, true, true, true, true, false, false, false, false, false, false, false, false, false, false, false, false, false, false, false, false, false, false, false, false, false, false, false, false, false, false, false, false, false, false, false, false, false, true, false, false, false, false, false, false, false, false, false, false, false, false, false, false, false, false, false, false, false, false, false, false, false, false, false, false, false, false, false, false, false, false, false, false, false, false, false, false, false, false, false, false, false, false, false, false, false, false, false, false, false, false, false, false, false, false, false, false, false, false, false, false, false] [88, 16] (s1 := ⟨[.bot, I vn2, .pt 16 0, .bot, .bot, .ow 88, I y3, I y5, I x7, I square12, .bot, .bot, .bot, .bot, .bot, .bot, .bot, .bot, .bot, .bot, .bot, .bot, .bot, .bot, .bot, .bot, .bot, .bot, .bot, .bot, .bot, .bot, .bot, .bot, .bot, .bot, .bot, .bot, .bot, .bot, .bot, .bot, .bot, Bo (!y13), .bot, .bot, .bot, .bot, .bot, .bot, .bot, .bot, .bot, .bot, .bot, .bot, .bot, .bot, .bot, .bot, .bot, .bot, .bot, .bot, .bot, .bot, .bot, .bot, .bot, .bot, .bot, .bot, .bot, .bot, .bot, .bot, .bot, .bot, .bot, .bot, .bot, .bot, .bot, .bot, .bot, .bot, .bot, .bot, .bot, .bot, .bot, .bot, .bot, .bot, .bot, .bot, .bot, .bot, .bot, .bot, .bot, .bot, .bot, .bot, .bot, .bot, .bot], [(88, .arr 66 2 (l8.map c66)), (16, .box [Ti f1.1, Ti f1.2.1, Ti f1.2.2])]⟩) ?_ ?_
        · refine XL_cons rfl (X_of_Y0 rfl (E_move (I square12) rfl (by kernel_rfl))) ?_
          refine XL_cons rfl (X_of_Y1 rfl (Y1_call (s_impl_isSquare hy13) cf_impl_isSquare rfl (by kernel_rfl))) ?_
          refine XL_cons rfl (X_of_Y0 rfl (Y0_not (b := y13) rfl (by kernel_rfl))) ?_
          refine XL_nil ?_
          kernel_rfl
        refine V_cond rfl (fun hc14 => ?_) (fun hc14 => ?_)
        · have h := of_true h hc14
          refine V_exit ?_
          show V _ _ _ _
          obtain ⟨x15, hx15, h⟩ := of_sI h
          refine V_reg [false, true, true, false, false, true, true, true, true, false, false, false, false, false, false, false, false, false, false, false, false, false, false, false, false, false, false, false, false, false, false, false, false, false, false, false, false, false, false, false, false, false, false, false, false, false, false, false, false, false, false, false, false, false, false, false, false, false, false, false, false, false, false, false, false, false, false, false, false, false, false, false, false, false, false, false, false, false, false, false, false, false, false, false, false, false, false, false, false, false, false, false, false, false, false, false, false, false, false, false, false, false, false, false, false, false, false] [88, 16] (s1 := ⟨[.bot, I vn2, .pt 16 0, .bot, .bot, .ow 88, I y3, I y5, I x15, .bot, .bot, .bot, .bot, .bot, .bot, .bot, .bot, .bot, .bot, .bot, .bot, .bot, .bot, .bot, .bot, .bot, .bot, .bot, .bot, .bot, .bot, .bot, .bot, .bot, .bot, .bot, .bot, .bot, .bot, .bot, .bot, .bot, .bot, .bot, .bot, .bot, .bot, .bot, .bot, .bot, .bot, .bot, .bot, .bot, .bot, .bot, .bot, .bot, .bot, .bot, .bot, .bot, .bot, .bot, .bot, .bot, .bot, .bot, .bot, .bot, .bot, .bot, .bot, .bot, .bot, .bot, .bot, .bot, .bot, .bot, .bot, .bot, .bot, .bot, .bot, .bot, .bot, .bot, .bot, .bot, .bot, .bot, .bot, .bot, .bot, .bot, .bot, .bot, .bot, .bot, .bot, .bot, .bot, .bot, .bot, .bot, .bot], [(88, .arr 66 2 (l8.map c66)), (16, .box [Ti f1.1, Ti f1.2.1, Ti f1.2.2])]⟩) ?_ ?_
          · refine XL_cons rfl (X_of_Y0 rfl (E_move (I x7) rfl (by kernel_rfl))) ?_
            refine XL_cons rfl (X_of_Y0 rfl (Y0_add64 (a := x7) (b := 1) rfl (by kernel_rfl) (by kernel_rfl))) ?_
            refine XL_cons rfl (X_of_Y0 rfl (E_assign (I (w64 (x7 + 1))) rfl (by kernel_rfl))) ?_
            refine XL_nil ?_
            subst hx15
            kernel_rfl
          exact ⟨n, Nat.lt_succ_self n, _, _,  by rfl, h⟩
        · have h := of_false h hc14
          refine V_skip ?_
          show V _ _ _ _
          obtain ⟨y16, hy16, h⟩ := of_bind h
          refine V_sreg [false, true, true, false, false, true, true, true, true, false, true, false, false, false, false, false, false, false, false, false, false, false, false, false, false, false, false, false, false, false, false, false, false, false, false, false, false, false, false, false, false, false, false, false, false, false, false, false, false, false, false, false, false, false, false, false, false, false, false, false, false, false, false, false, false, false, false, false, false, false, false, false, false, false, false, false, false, false, false, false, false, false, false, false, false, false, false, false, false, false, false, false, false, false, false, false, false, false, false, false, false, false, false, false, false, false, false] [88, 16] (s1 := ⟨[.bot, I vn2, .pt 16 0, .bot, .bot, .ow 88, I y3, I y5, I x7, .bot, I y16, .bot, .bot, .bot, .bot, .bot, .bot, .bot, .bot, .bot, .bot, .bot, .bot, .bot, .bot, .bot, .bot, .bot, .bot, .bot, .bot, .bot, .bot, .bot, .bot, .bot, .bot, .bot, .bot, .bot, .bot, .bot, .bot, .bot, .bot, .bot, .bot, .bot, .bot, .bot, .bot, .bot, .bot, .bot, .bot, .bot, .bot, .bot, .bot, .bot, .bot, .bot, .bot, .bot, .bot, .bot, .bot, .bot, .bot, .bot, .bot, .bot, .bot, .bot, .bot, .bot, .bot, .bot, .bot, .bot, .bot, .bot, .bot, .bot, .bot, .bot, .bot, .bot, .bot, .bot, .bot, .bot, .bot, .bot, .bot, .bot, .bot, .bot, .bot, .bot, .bot, .bot, .bot, .bot, .bot, .bot, .bot], [(88, .arr 66 2 (l8.map c66)), (16, .box [Ti f1.1, Ti f1.2.1, Ti f1.2.2])]⟩) ?_ ?_
          · refine XL_cons rfl (X_of_Y0 rfl (E_move (I square12) rfl (by kernel_rfl))) ?_
            refine XL_cons rfl (X_of_Y1 rfl (Y1_call (s_impl_root hy16) cf_impl_root rfl (by kernel_rfl))) ?_
            refine XL_cons rfl (X_of_Y0 rfl (E_assign (I y16) rfl (by kernel_rfl))) ?_
            refine XL_nil ?_
            kernel_rfl
          obtain ⟨j17, hj17, h⟩ := of_bind h
          refine V_cutK [false, true, true, false, false, true, true, true, true, false, true, false, false, false, false, false, false, false, false, false, false, false, false, false, false, false, false, false, false, false, false, false, false, false, false, false, false, false, false, false, false, false, false, false, false, false, false, false, false, false, false, false, false, false, false, false, false, false, false, false, false, false, false, false, false, false, false, false, false, false, false, false, false, false, false, false, false, false, false, false, false, false, false, false, false, false, false, false, false, false, false, false, false, false, false, false, false, false, false, false, false, false, false, false, false, false, false] [88, 16] (s1 := ⟨[.bot, I vn2, .pt 16 0, .bot, .bot, .ow 88, I y3, I y5, I x7, .bot, I y16, .bot, .bot, .bot, .bot, .bot, .bot, .bot, .bot, .bot, .bot, .bot, .bot, .bot, .bot, .bot, .bot, .bot, .bot, .bot, .bot, .bot, .bot, .bot, .bot, .bot, .bot, .bot, .bot, .bot, .bot, .bot, .bot, .bot, .bot, .bot, .bot, .bot, .bot, .bot, .bot, .bot, .bot, .bot, .bot, .bot, .bot, .bot, .bot, .bot, .bot, .bot, .bot, .bot, .bot, .bot, .bot, .bot, .bot, .bot, .bot, .bot, .bot, .bot, .bot, .bot, .bot, .bot, .bot, .bot, .bot, .bot, .bot, .bot, .bot, .bot, .bot, .bot, .bot, .bot, .bot, .bot, .bot, .bot, .bot, .bot, .bot, .bot, .bot, .bot, .bot, .bot, .bot, .bot, .bot, .bot, .bot], [(88, .arr 66 2 (j17.map c66)), (16, .box [Ti f1.1, Ti f1.2.1, Ti f1.2.2])]⟩) ?_ ?_
          · clear h
            have h := hj17
            clear hj17
            obtain ⟨z18, hz18, h⟩ := of_bind h
            obtain ⟨t19, ht19, h⟩ := of_bind h
            have ht19 := some_inj ht19
            refine V_sreg [false, true, true, false, false, true, true, true, true, false, true, false, false, false, false, false, false, false, false, false, false, false, false, false, false, false, false, false, false, false, false, false, false, false, false, false, false, false, false, false, false, false, false, false, false, false, false, false, false, false, false, false, false, false, false, false, false, true, false, false, false, false, false, false, false, false, false, false, false, false, false, false, false, false, false, false, false, false, false, false, false, false, false, false, false, false, false, false, false, false, false, false, false, false, false, false, false, false, false, false, false, false, false, false, false, false, false] [88, 16] (s1 := ⟨[.bot, I vn2, .pt 16 0, .bot, .bot, .ow 88, I y3, I y5, I x7, .bot, I y16, .bot, .bot, .bot, .bot, .bot, .bot, .bot, .bot, .bot, .bot, .bot, .bot, .bot, .bot, .bot, .bot, .bot, .bot, .bot, .bot, .bot, .bot, .bot, .bot, .bot, .bot, .bot, .bot, .bot, .bot, .bot, .bot, .bot, .bot, .bot, .bot, .bot, .bot, .bot, .bot, .bot, .bot, .bot, .bot, .bot, .bot, Bo t19, .bot, .bot, .bot, .bot, .bot, .bot, .bot, .bot, .bot, .bot, .bot, .bot, .bot, .bot, .bot, .bot, .bot, .bot, .bot, .bot, .bot, .bot, .bot, .bot, .bot, .bot, .bot, .bot, .bot, .bot, .bot, .bot, .bot, .bot, .bot, .bot, .bot, .bot, .bot, .bot, .bot, .bot, .bot, .bot, .bot, .bot, .bot, .bot, .bot], [(88, .arr 66 2 (l8.map c66)), (16, .box [Ti f1.1, Ti f1.2.1, Ti f1.2.2])]⟩) ?_ ?_
            · refine XL_cons rfl (X_of_Y0 rfl (E_field (.pt 16 1) Tryd.underlying33 rfl sz3 rfl (by kernel_rfl) (by intro hh; cases hh))) ?_
              refine XL_cons rfl (X_of_Y0 rfl (Y0_load1 (c := Ti f1.2.1) (cs := [Ti f1.2.2]) sc3 rfl (by kernel_rfl))) ?_
              refine XL_cons rfl (X_of_Y0 rfl (Y0_neg64 (a := f1.2.1) rfl (by kernel_rfl))) ?_
              refine XL_cons rfl (X_of_Y0 rfl (E_move (I x7) rfl (by kernel_rfl))) ?_
              refine XL_cons rfl (X_of_Y0 rfl (Y0_mul64 (a := w64 (0 - f1.2.1)) (b := x7) rfl (by kernel_rfl) (by kernel_rfl))) ?_
              refine XL_cons rfl (X_of_Y0 rfl (E_move (I y16) rfl (by kernel_rfl))) ?_
              refine XL_cons rfl (X_of_Y0 rfl (Y0_sub64 (a := w64 ((w64 (0 - f1.2.1)) * x7)) (b := y16) rfl (by kernel_rfl) (by kernel_rfl))) ?_
              refine XL_cons rfl (X_of_Y0 rfl (E_field (.pt 16 2) Tryd.underlying33 rfl sz3 rfl (by kernel_rfl) (by intro hh; cases hh))) ?_
              refine XL_cons rfl (X_of_Y0 rfl (Y0_load1 (c := Ti f1.2.2) (cs := []) sc3 rfl (by kernel_rfl))) ?_
              refine XL_cons rfl (X_of_Y0 rfl (Y0_mul64 (a := 2) (b := f1.2.2) rfl (by kernel_rfl) (by kernel_rfl))) ?_
              refine XL_cons rfl (X_of_Y0 rfl (Y0_rem (k := .i64) (a := w64 ((w64 ((w64 (0 - f1.2.1)) * x7)) - y16)) (b := w64 (2 * f1.2.2)) rfl (by kernel_rfl) (by kernel_rfl) (nz_some hz18))) ?_
              refine XL_cons rfl (X_of_Y0 rfl (Y0_eqw (k := .i64) (a := Int.tmod (w64 ((w64 ((w64 (0 - f1.2.1)) * x7)) - y16)) (w64 (2 * f1.2.2))) (b := 0) rfl (by kernel_rfl) (by kernel_rfl))) ?_
              refine XL_nil ?_
              subst ht19
              kernel_rfl
            refine V_cond rfl (fun hc20 => ?_) (fun hc20 => ?_)
            · have h := of_true h hc20
              obtain ⟨z21, hz21, h⟩ := of_bind h
              obtain ⟨u22, hu22, h⟩ := of_bind h
              obtain ⟨l23, hl23, h⟩ := of_bind h
              have hl23 := some_inj hl23
              refine V_reg [false, true, true, false, false, true, true, true, true, false, true, false, false, false, false, false, false, false, false, false, false, false, false, false, false, false, false, false, false, false, false, false, false, false, false, false, false, false, false, false, false, false, false, false, false, false, false, false, false, false, false, false, false, false, false, false, false, false, false, false, false, false, false, false, false, false, false, false, false, false, false, false, false, false, false, false, false, false, false, false, false, false, false, false, false, false, false, false, false, false, false, false, false, false, false, false, false, false, false, false, false, false, false, false, false, false, false] [88, 16] (s1 := ⟨[.bot, I vn2, .pt 16 0, .bot, .bot, .ow 88, I y3, I y5, I x7, .bot, I y16, .bot, .bot, .bot, .bot, .bot, .bot, .bot, .bot, .bot, .bot, .bot, .bot, .bot, .bot, .bot, .bot, .bot, .bot, .bot, .bot, .bot, .bot, .bot, .bot, .bot, .bot, .bot, .bot, .bot, .bot, .bot, .bot, .bot, .bot, .bot, .bot, .bot, .bot, .bot, .bot, .bot, .bot, .bot, .bot, .bot, .bot, .bot, .bot, .bot, .bot, .bot, .bot, .bot, .bot, .bot, .bot, .bot, .bot, .bot, .bot, .bot, .bot, .bot, .bot, .bot, .bot, .bot, .bot, .bot, .bot, .bot, .bot, .bot, .bot, .bot, .bot, .bot, .bot, .bot, .bot, .bot, .bot, .bot, .bot, .bot, .bot, .bot, .bot, .bot, .bot, .bot, .bot, .bot, .bot, .bot, .bot], [(88, .arr 66 2 (l23.map c66)), (16, .box [Ti f1.1, Ti f1.2.1, Ti f1.2.2])]⟩) ?_ ?_
              · refine XL_cons rfl (X_of_Y0 rfl (E_move (.ow 88) rfl (by kernel_rfl))) ?_
                refine XL_cons rfl (X_of_Y0 rfl (E_move (I x7) rfl (by kernel_rfl))) ?_
                refine XL_cons rfl (X_of_Y0 rfl (E_field (.pt 16 1) Tryd.underlying33 rfl sz3 rfl (by kernel_rfl) (by intro hh; cases hh))) ?_
                refine XL_cons rfl (X_of_Y0 rfl (Y0_load1 (c := Ti f1.2.1) (cs := [Ti f1.2.2]) sc3 rfl (by kernel_rfl))) ?_
                refine XL_cons rfl (X_of_Y0 rfl (Y0_neg64 (a := f1.2.1) rfl (by kernel_rfl))) ?_
                refine XL_cons rfl (X_of_Y0 rfl (E_move (I x7) rfl (by kernel_rfl))) ?_
                refine XL_cons rfl (X_of_Y0 rfl (Y0_mul64 (a := w64 (0 - f1.2.1)) (b := x7) rfl (by kernel_rfl) (by kernel_rfl))) ?_
                refine XL_cons rfl (X_of_Y0 rfl (E_move (I y16) rfl (by kernel_rfl))) ?_
                refine XL_cons rfl (X_of_Y0 rfl (Y0_sub64 (a := w64 ((w64 (0 - f1.2.1)) * x7)) (b := y16) rfl (by kernel_rfl) (by kernel_rfl))) ?_
                refine XL_cons rfl (X_of_Y0 rfl (E_field (.pt 16 2) Tryd.underlying33 rfl sz3 rfl (by kernel_rfl) (by intro hh; cases hh))) ?_
                refine XL_cons rfl (X_of_Y0 rfl (Y0_load1 (c := Ti f1.2.2) (cs := []) sc3 rfl (by kernel_rfl))) ?_
                refine XL_cons rfl (X_of_Y0 rfl (Y0_mul64 (a := 2) (b := f1.2.2) rfl (by kernel_rfl) (by kernel_rfl))) ?_
                refine XL_cons rfl (X_of_Y0 rfl (Y0_quo64 (a := w64 ((w64 ((w64 (0 - f1.2.1)) * x7)) - y16)) (b := w64 (2 * f1.2.2)) rfl (by kernel_rfl) (by kernel_rfl) (nz_some hz21))) ?_
                refine XL_cons rfl (X_of_Y0 rfl (Y0_build (cs := [Ti x7, Ti (w64 (Int.tdiv (w64 ((w64 ((w64 (0 - f1.2.1)) * x7)) - y16)) (w64 (2 * f1.2.2))))]) pl66 bt66 rfl rfl (by kernel_rfl))) ?_
                refine XL_cons rfl (X_of_Y1 rfl (Y1_bslice (z := zv66) (els := [(x7, w64 (Int.tdiv (w64 ((w64 ((w64 (0 - f1.2.1)) * x7)) - y16)) (w64 (2 * f1.2.2))))].map c66) Tryd.underlying62 iz66 rfl (by decide) rfl (by kernel_rfl) rfl (by simp [c66]) (by decide) (by decide))) ?_
                refine XL_cons rfl (X_appendM (c := c66) (xs := l8) (ys := [(x7, w64 (Int.tdiv (w64 ((w64 ((w64 (0 - f1.2.1)) * x7)) - y16)) (w64 (2 * f1.2.2))))]) (id := 88) (z := zv66) rfl rfl Tryd.underlying62 izb66 rfl (by kernel_rfl) (by kernel_rfl) (by kernel_rfl) (fun _ => rfl) (by simp) (room_some hu22) (by decide)) ?_
                refine XL_cons rfl (X_of_Y0 rfl (E_assign (.ow 88) rfl (by kernel_rfl))) ?_
                refine XL_nil ?_
                subst hl23
                kernel_rfl
              obtain rfl := some_inj h
              show St.keep _ _ _ = _
              rfl
            · have h := of_false h hc20
              refine V_skip ?_
              obtain rfl := some_inj h
              show St.keep _ _ _ = _
              rfl
          obtain ⟨b26, hb26, h⟩ := of_bind h
          refine V_sreg [false, true, true, false, false, true, true, true, true, false, true, false, false, false, false, false, false, false, false, false, false, false, false, false, false, false, false, false, false, false, false, false, false, false, false, false, false, false, false, false, false, false, false, false, false, false, false, false, false, false, false, false, false, false, false, false, false, false, false, false, false, false, false, false, false, false, false, false, false, false, false, false, false, false, false, false, false, false, false, false, false, false, false, false, false, false, false, false, false, true, false, false, false, false, false, false, false, false, false, false, false, false, false, false, false, false, false] [88, 16] (s1 := ⟨[.bot, I vn2, .pt 16 0, .bot, .bot, .ow 88, I y3, I y5, I x7, .bot, I y16, .bot, .bot, .bot, .bot, .bot, .bot, .bot, .bot, .bot, .bot, .bot, .bot, .bot, .bot, .bot, .bot, .bot, .bot, .bot, .bot, .bot, .bot, .bot, .bot, .bot, .bot, .bot, .bot, .bot, .bot, .bot, .bot, .bot, .bot, .bot, .bot, .bot, .bot, .bot, .bot, .bot, .bot, .bot, .bot, .bot, .bot, .bot, .bot, .bot, .bot, .bot, .bot, .bot, .bot, .bot, .bot, .bot, .bot, .bot, .bot, .bot, .bot, .bot, .bot, .bot, .bot, .bot, .bot, .bot, .bot, .bot, .bot, .bot, .bot, .bot, .bot, .bot, .bot, Bo b26, .bot, .bot, .bot, .bot, .bot, .bot, .bot, .bot, .bot, .bot, .bot, .bot, .bot, .bot, .bot, .bot, .bot], [(88, .arr 66 2 (j17.map c66)), (16, .box [Ti f1.1, Ti f1.2.1, Ti f1.2.2])]⟩) ?_ ?_
          · refine XL_cons rfl (X_of_Y0 rfl (E_move (I y16) rfl (by kernel_rfl))) ?_
            refine XL_cons rfl (X_of_Y0 rfl (Y0_gtw (k := .i64) (a := y16) (b := 0) rfl (by kernel_rfl) (by kernel_rfl))) ?_
            refine XL_cons rfl (X_of_Y0 rfl (E_move (Bo (ltI 0 y16)) rfl (by kernel_rfl))) ?_
            refine XL_split (ltI 0 y16) (fun hc24 => ?_) (fun hc24 => ?_)
            · have hb26 := of_true hb26 hc24
              obtain ⟨z25, hz25, hb26⟩ := of_bind hb26
              have hb26 := some_inj hb26
              refine XL_takeC (ltI 0 y16) rfl rfl (by kernel_rfl) hc24 (X_of_Y0 rfl (E_field (.pt 16 1) Tryd.underlying33 rfl sz3 rfl (by kernel_rfl) (by intro hh; cases hh))) ?_
              refine XL_takeC (ltI 0 y16) rfl rfl (by kernel_rfl) hc24 (X_of_Y0 rfl (Y0_load1 (c := Ti f1.2.1) (cs := [Ti f1.2.2]) sc3 rfl (by kernel_rfl))) ?_
              refine XL_takeC (ltI 0 y16) rfl rfl (by kernel_rfl) hc24 (X_of_Y0 rfl (Y0_neg64 (a := f1.2.1) rfl (by kernel_rfl))) ?_
              refine XL_takeC (ltI 0 y16) rfl rfl (by kernel_rfl) hc24 (X_of_Y0 rfl (E_move (I x7) rfl (by kernel_rfl))) ?_
              refine XL_takeC (ltI 0 y16) rfl rfl (by kernel_rfl) hc24 (X_of_Y0 rfl (Y0_mul64 (a := w64 (0 - f1.2.1)) (b := x7) rfl (by kernel_rfl) (by kernel_rfl))) ?_
              refine XL_takeC (ltI 0 y16) rfl rfl (by kernel_rfl) hc24 (X_of_Y0 rfl (E_move (I y16) rfl (by kernel_rfl))) ?_
              refine XL_takeC (ltI 0 y16) rfl rfl (by kernel_rfl) hc24 (X_of_Y0 rfl (Y0_add64 (a := w64 ((w64 (0 - f1.2.1)) * x7)) (b := y16) rfl (by kernel_rfl) (by kernel_rfl))) ?_
              refine XL_takeC (ltI 0 y16) rfl rfl (by kernel_rfl) hc24 (X_of_Y0 rfl (E_field (.pt 16 2) Tryd.underlying33 rfl sz3 rfl (by kernel_rfl) (by intro hh; cases hh))) ?_
              refine XL_takeC (ltI 0 y16) rfl rfl (by kernel_rfl) hc24 (X_of_Y0 rfl (Y0_load1 (c := Ti f1.2.2) (cs := []) sc3 rfl (by kernel_rfl))) ?_
              refine XL_takeC (ltI 0 y16) rfl rfl (by kernel_rfl) hc24 (X_of_Y0 rfl (Y0_mul64 (a := 2) (b := f1.2.2) rfl (by kernel_rfl) (by kernel_rfl))) ?_
              refine XL_takeC (ltI 0 y16) rfl rfl (by kernel_rfl) hc24 (X_of_Y0 rfl (Y0_rem (k := .i64) (a := w64 ((w64 ((w64 (0 - f1.2.1)) * x7)) + y16)) (b := w64 (2 * f1.2.2)) rfl (by kernel_rfl) (by kernel_rfl) (nz_some hz25))) ?_
              refine XL_takeC (ltI 0 y16) rfl rfl (by kernel_rfl) hc24 (X_of_Y0 rfl (Y0_eqw (k := .i64) (a := Int.tmod (w64 ((w64 ((w64 (0 - f1.2.1)) * x7)) + y16)) (w64 (2 * f1.2.2))) (b := 0) rfl (by kernel_rfl) (by kernel_rfl))) ?_
              refine XL_cons rfl (X_of_Y0 rfl (Y0_pickTe (b := ltI 0 y16) (p := eqI (Int.tmod (w64 ((w64 ((w64 (0 - f1.2.1)) * x7)) + y16)) (w64 (2 * f1.2.2))) 0) rfl (by kernel_rfl) hc24 (by kernel_rfl) hb26)) ?_
              refine XL_nil ?_
              kernel_rfl
            · have hb26 := some_inj (of_false hb26 hc24)
              refine XL_skipT (ltI 0 y16) rfl rfl (by kernel_rfl) hc24 rfl ?_
              refine XL_skipT (ltI 0 y16) rfl rfl (by kernel_rfl) hc24 rfl ?_
              refine XL_skipT (ltI 0 y16) rfl rfl (by kernel_rfl) hc24 rfl ?_
              refine XL_skipT (ltI 0 y16) rfl rfl (by kernel_rfl) hc24 rfl ?_
              refine XL_skipT (ltI 0 y16) rfl rfl (by kernel_rfl) hc24 rfl ?_
              refine XL_skipT (ltI 0 y16) rfl rfl (by kernel_rfl) hc24 rfl ?_
              refine XL_skipT (ltI 0 y16) rfl rfl (by kernel_rfl) hc24 rfl ?_
              refine XL_skipT (ltI 0 y16) rfl rfl (by kernel_rfl) hc24 rfl ?_
              refine XL_skipT (ltI 0 y16) rfl rfl (by kernel_rfl) hc24 rfl ?_
              refine XL_skipT (ltI 0 y16) rfl rfl (by kernel_rfl) hc24 rfl ?_
              refine XL_skipT (ltI 0 y16) rfl rfl (by kernel_rfl) hc24 rfl ?_
              refine XL_skipT (ltI 0 y16) rfl rfl (by kernel_rfl) hc24 rfl ?_
              refine XL_cons rfl (X_of_Y0 rfl (Y0_pickFe (b := ltI 0 y16) (p := false) rfl (by kernel_rfl) hc24 (by kernel_rfl) hb26)) ?_
              refine XL_nil ?_
              kernel_rfl
          refine V_cond rfl (fun hc27 => ?_) (fun hc27 => ?_)
          · have h := of_true h hc27
            obtain ⟨z28, hz28, h⟩ := of_bind h
            obtain ⟨u29, hu29, h⟩ := of_bind h
            obtain ⟨l30, hl30, h⟩ := of_bind h
            have hl30 := some_inj hl30
            refine V_reg [false, true, true, false, false, true, true, true, true, false, false, false, false, false, false, false, false, false, false, false, false, false, false, false, false, false, false, false, false, false, false, false, false, false, false, false, false, false, false, false, false, false, false, false, false, false, false, false, false, false, false, false, false, false, false, false, false, false, false, false, false, false, false, false, false, false, false, false, false, false, false, false, false, false, false, false, false, false, false, false, false, false, false, false, false, false, false, false, false, false, false, false, false, false, false, false, false, false, false, false, false, false, false, false, false, false, false] [88, 16] (s1 := ⟨[.bot, I vn2, .pt 16 0, .bot, .bot, .ow 88, I y3, I y5, I x7, .bot, .bot, .bot, .bot, .bot, .bot, .bot, .bot, .bot, .bot, .bot, .bot, .bot, .bot, .bot, .bot, .bot, .bot, .bot, .bot, .bot, .bot, .bot, .bot, .bot, .bot, .bot, .bot, .bot, .bot, .bot, .bot, .bot, .bot, .bot, .bot, .bot, .bot, .bot, .bot, .bot, .bot, .bot, .bot, .bot, .bot, .bot, .bot, .bot, .bot, .bot, .bot, .bot, .bot, .bot, .bot, .bot, .bot, .bot, .bot, .bot, .bot, .bot, .bot, .bot, .bot, .bot, .bot, .bot, .bot, .bot, .bot, .bot, .bot, .bot, .bot, .bot, .bot, .bot, .bot, .bot, .bot, .bot, .bot, .bot, .bot, .bot, .bot, .bot, .bot, .bot, .bot, .bot, .bot, .bot, .bot, .bot, .bot], [(88, .arr 66 2 (l30.map c66)), (16, .box [Ti f1.1, Ti f1.2.1, Ti f1.2.2])]⟩) ?_ ?_
            · refine XL_cons rfl (X_of_Y0 rfl (E_move (.ow 88) rfl (by kernel_rfl))) ?_
              refine XL_cons rfl (X_of_Y0 rfl (E_move (I x7) rfl (by kernel_rfl))) ?_
              refine XL_cons rfl (X_of_Y0 rfl (E_field (.pt 16 1) Tryd.underlying33 rfl sz3 rfl (by kernel_rfl) (by intro hh; cases hh))) ?_
              refine XL_cons rfl (X_of_Y0 rfl (Y0_load1 (c := Ti f1.2.1) (cs := [Ti f1.2.2]) sc3 rfl (by kernel_rfl))) ?_
              refine XL_cons rfl (X_of_Y0 rfl (Y0_neg64 (a := f1.2.1) rfl (by kernel_rfl))) ?_
              refine XL_cons rfl (X_of_Y0 rfl (E_move (I x7) rfl (by kernel_rfl))) ?_
              refine XL_cons rfl (X_of_Y0 rfl (Y0_mul64 (a := w64 (0 - f1.2.1)) (b := x7) rfl (by kernel_rfl) (by kernel_rfl))) ?_
              refine XL_cons rfl (X_of_Y0 rfl (E_move (I y16) rfl (by kernel_rfl))) ?_
              refine XL_cons rfl (X_of_Y0 rfl (Y0_add64 (a := w64 ((w64 (0 - f1.2.1)) * x7)) (b := y16) rfl (by kernel_rfl) (by kernel_rfl))) ?_
              refine XL_cons rfl (X_of_Y0 rfl (E_field (.pt 16 2) Tryd.underlying33 rfl sz3 rfl (by kernel_rfl) (by intro hh; cases hh))) ?_
              refine XL_cons rfl (X_of_Y0 rfl (Y0_load1 (c := Ti f1.2.2) (cs := []) sc3 rfl (by kernel_rfl))) ?_
              refine XL_cons rfl (X_of_Y0 rfl (Y0_mul64 (a := 2) (b := f1.2.2) rfl (by kernel_rfl) (by kernel_rfl))) ?_
              refine XL_cons rfl (X_of_Y0 rfl (Y0_quo64 (a := w64 ((w64 ((w64 (0 - f1.2.1)) * x7)) + y16)) (b := w64 (2 * f1.2.2)) rfl (by kernel_rfl) (by kernel_rfl) (nz_some hz28))) ?_
              refine XL_cons rfl (X_of_Y0 rfl (Y0_build (cs := [Ti x7, Ti (w64 (Int.tdiv (w64 ((w64 ((w64 (0 - f1.2.1)) * x7)) + y16)) (w64 (2 * f1.2.2))))]) pl66 bt66 rfl rfl (by kernel_rfl))) ?_
              refine XL_cons rfl (X_of_Y1 rfl (Y1_bslice (z := zv66) (els := [(x7, w64 (Int.tdiv (w64 ((w64 ((w64 (0 - f1.2.1)) * x7)) + y16)) (w64 (2 * f1.2.2))))].map c66) Tryd.underlying62 iz66 rfl (by decide) rfl (by kernel_rfl) rfl (by simp [c66]) (by decide) (by decide))) ?_
              refine XL_cons rfl (X_appendM (c := c66) (xs := j17) (ys := [(x7, w64 (Int.tdiv (w64 ((w64 ((w64 (0 - f1.2.1)) * x7)) + y16)) (w64 (2 * f1.2.2))))]) (id := 88) (z := zv66) rfl rfl Tryd.underlying62 izb66 rfl (by kernel_rfl) (by kernel_rfl) (by kernel_rfl) (fun _ => rfl) (by simp) (room_some hu29) (by decide)) ?_
              refine XL_cons rfl (X_of_Y0 rfl (E_assign (.ow 88) rfl (by kernel_rfl))) ?_
              refine XL_nil ?_
              subst hl30
              kernel_rfl
            show V _ _ _ _
            obtain ⟨x31, hx31, h⟩ := of_sI h
            refine V_reg [false, true, true, false, false, true, true, true, true, false, false, false, false, false, false, false, false, false, false, false, false, false, false, false, false, false, false, false, false, false, false, false, false, false, false, false, false, false, false, false, false, false, false, false, false, false, false, false, false, false, false, false, false, false, false, false, false, false, false, false, false, false, false, false, false, false, false, false, false, false, false, false, false, false, false, false, false, false, false, false, false, false, false, false, false, false, false, false, false, false, false, false, false, false, false, false, false, false, false, false, false, false, false, false, false, false, false] [88, 16] (s1 := ⟨[.bot, I vn2, .pt 16 0, .bot, .bot, .ow 88, I y3, I y5, I x31, .bot, .bot, .bot, .bot, .bot, .bot, .bot, .bot, .bot, .bot, .bot, .bot, .bot, .bot, .bot, .bot, .bot, .bot, .bot, .bot, .bot, .bot, .bot, .bot, .bot, .bot, .bot, .bot, .bot, .bot, .bot, .bot, .bot, .bot, .bot, .bot, .bot, .bot, .bot, .bot, .bot, .bot, .bot, .bot, .bot, .bot, .bot, .bot, .bot, .bot, .bot, .bot, .bot, .bot, .bot, .bot, .bot, .bot, .bot, .bot, .bot, .bot, .bot, .bot, .bot, .bot, .bot, .bot, .bot, .bot, .bot, .bot, .bot, .bot, .bot, .bot, .bot, .bot, .bot, .bot, .bot, .bot, .bot, .bot, .bot, .bot, .bot, .bot, .bot, .bot, .bot, .bot, .bot, .bot, .bot, .bot, .bot, .bot], [(88, .arr 66 2 (l30.map c66)), (16, .box [Ti f1.1, Ti f1.2.1, Ti f1.2.2])]⟩) ?_ ?_
            · refine XL_cons rfl (X_of_Y0 rfl (E_move (I x7) rfl (by kernel_rfl))) ?_
              refine XL_cons rfl (X_of_Y0 rfl (Y0_add64 (a := x7) (b := 1) rfl (by kernel_rfl) (by kernel_rfl))) ?_
              refine XL_cons rfl (X_of_Y0 rfl (E_assign (I (w64 (x7 + 1))) rfl (by kernel_rfl))) ?_
              refine XL_nil ?_
              subst hx31
              kernel_rfl
            exact ⟨n, Nat.lt_succ_self n, _, _,  by rfl, h⟩
          · have h := of_false h hc27
            refine V_skip ?_
            show V _ _ _ _
            obtain ⟨x32, hx32, h⟩ := of_sI h
            refine V_reg [false, true, true, false, false, true, true, true, true, false, false, false, false, false, false, false, false, false, false, false, false, false, false, false, false, false, false, false, false, false, false, false, false, false, false, false, false, false, false, false, false, false, false, false, false, false, false, false, false, false, false, false, false, false, false, false, false, false, false, false, false, false, false, false, false, false, false, false, false, false, false, false, false, false, false, false, false, false, false, false, false, false, false, false, false, false, false, false, false, false, false, false, false, false, false, false, false, false, false, false, false, false, false, false, false, false, false] [88, 16] (s1 := ⟨[.bot, I vn2, .pt 16 0, .bot, .bot, .ow 88, I y3, I y5, I x32, .bot, .bot, .bot, .bot, .bot, .bot, .bot, .bot, .bot, .bot, .bot, .bot, .bot, .bot, .bot, .bot, .bot, .bot, .bot, .bot, .bot, .bot, .bot, .bot, .bot, .bot, .bot, .bot, .bot, .bot, .bot, .bot, .bot, .bot, .bot, .bot, .bot, .bot, .bot, .bot, .bot, .bot, .bot, .bot, .bot, .bot, .bot, .bot, .bot, .bot, .bot, .bot, .bot, .bot, .bot, .bot, .bot, .bot, .bot, .bot, .bot, .bot, .bot, .bot, .bot, .bot, .bot, .bot, .bot, .bot, .bot, .bot, .bot, .bot, .bot, .bot, .bot, .bot, .bot, .bot, .bot, .bot, .bot, .bot, .bot, .bot, .bot, .bot, .bot, .bot, .bot, .bot, .bot, .bot, .bot, .bot, .bot, .bot], [(88, .arr 66 2 (j17.map c66)), (16, .box [Ti f1.1, Ti f1.2.1, Ti f1.2.2])]⟩) ?_ ?_
            · refine XL_cons rfl (X_of_Y0 rfl (E_move (I x7) rfl (by kernel_rfl))) ?_
              refine XL_cons rfl (X_of_Y0 rfl (Y0_add64 (a := x7) (b := 1) rfl (by kernel_rfl) (by kernel_rfl))) ?_
              refine XL_cons rfl (X_of_Y0 rfl (E_assign (I (w64 (x7 + 1))) rfl (by kernel_rfl))) ?_
              refine XL_nil ?_
              subst hx32
              kernel_rfl
            exact ⟨n, Nat.lt_succ_self n, _, _,  by rfl, h⟩
      · have h := of_false h hc11
        refine V_exit ?_
        obtain rfl := some_inj h
        show St.keep _ _ _ = _
        rfl
  show V _ _ _ _
  refine V_sreg [false, false, false, false, true, false, false, false, false, false, false, false, false, false, false, false, false, false, false, false, false, false, false, false, false, false, false, false, false, false, false, false, false, false, false, false, false, false, false, false, false, false, false, false, false, false, false, false, false, false, false, false, false, false, false, false, false, false, false, false, false, false, false, false, false, false, false, false, false, false, false, false, false, false, false, false, false, false, false, false, false, false, false, false, false, false, false, false, false, false, false, false, false, false, false, false, false, false, false, false, false, false, false, false, false, false, false] [88] (s1 := ⟨[.bot, .bot, .bot, .bot, .ow 88, .bot, .bot, .bot, .bot, .bot, .bot, .bot, .bot, .bot, .bot, .bot, .bot, .bot, .bot, .bot, .bot, .bot, .bot, .bot, .bot, .bot, .bot, .bot, .bot, .bot, .bot, .bot, .bot, .bot, .bot, .bot, .bot, .bot, .bot, .bot, .bot, .bot, .bot, .bot, .bot, .bot, .bot, .bot, .bot, .bot, .bot, .bot, .bot, .bot, .bot, .bot, .bot, .bot, .bot, .bot, .bot, .bot, .bot, .bot, .bot, .bot, .bot, .bot, .bot, .bot, .bot, .bot, .bot, .bot, .bot, .bot, .bot, .bot, .bot, .bot, .bot, .bot, .bot, .bot, .bot, .bot, .bot, .bot, .bot, .bot, .bot, .bot, .bot, .bot, .bot, .bot, .bot, .bot, .bot, .bot, .bot, .bot, .bot, .bot, .bot, .bot, .bot], [(88, .arr 66 2 (o10.map c66))]⟩) ?_ ?_
  · refine XL_cons rfl (X_of_Y0 rfl (E_move (.ow 88) rfl (by kernel_rfl))) ?_
    refine XL_cons rfl (X_of_Y0 rfl (E_assign (.ow 88) rfl (by kernel_rfl))) ?_
    refine XL_nil ?_
    kernel_rfl
  refine V_ret ?_
  obtain rfl := some_inj h
  show Post _ _ _ _ _
  exact ⟨.inr rfl, rfl, rfl, rfl⟩
theorem cf_impl_Representations : ∀ args w, (callFunc 97 args).run Tryd.prog w = .ok (.enter 97 args) w := run_callFunc Tryd.func97 (by kernel_rfl) (by kernel_rfl)
set_option maxRecDepth 100000 in
set_option maxHeartbeats 400000 in
theorem s_impl_Representations {f1 : (Int × Int × Int)} {vn2 : Int} {r : ((List ((Int × Int))) × Bool)} (h : r_impl_Representations f1 vn2 = some r) : CallS Tryd.prog 97 [.ag [Ti f1.1, Ti f1.2.1, Ti f1.2.2], I vn2] (.tc (.ow 0) (.tc (Bo r.2) .tn)) [(0, .arr 66 2 (r.1.map c66))] := by
  refine CallS_of_text (rs := [.t 4, .t 5]) (vs := [.tmp 4, .tmp 5]) Tryd.func97 rfl rfl (.cons rfl (.cons rfl FitsL.nil)) (by decide) 18 rfl ?_
  unfold r_impl_Representations at h
  show V _ _ ⟨[.ag [Ti f1.1, Ti f1.2.1, Ti f1.2.2], I vn2, .bot, .bot, .bot, .bot, .bot, .bot, .bot, .bot, .bot, .bot, .bot, .bot, .bot, .bot, .bot, .bot], []⟩ _
  refine V_sreg [false, true, true, false, false, false, false, false, false, false, false, false, false, false, false, false, false, false] [16] (s1 := ⟨[.bot, I vn2, .pt 16 0, .bot, .bot, .bot, .bot, .bot, .bot, .bot, .bot, .bot, .bot, .bot, .bot, .bot, .bot, .bot], [(16, .box [Ti f1.1, Ti f1.2.1, Ti f1.2.2])]⟩) ?_ ?_
  · refine XL_cons rfl (X_of_Y1 rfl (Y1_box (cs := [Ti f1.1, Ti f1.2.1, Ti f1.2.2]) rfl (by kernel_rfl))) ?_
    refine XL_cons rfl (X_of_Y1 rfl (Y1_nil (e := 66) 2 (by decide) (.inl rfl))) ?_
    refine XL_cons rfl (X_of_Y0 rfl (E_assign (Bo false) rfl (by kernel_rfl))) ?_
    refine XL_nil ?_
    kernel_rfl
  refine V_seq ?_
  obtain ⟨y3, hy3, h⟩ := of_bind h
  obtain ⟨b6, hb6, h⟩ := of_bind h
  refine V_sreg [false, true, true, false, false, false, false, false, false, false, false, false, false, true, false, false, false, false] [16] (s1 := ⟨[.bot, I vn2, .pt 16 0, .bot, .bot, .bot, .bot, .bot, .bot, .bot, .bot, .bot, .bot, Bo b6, .bot, .bot, .bot, .bot], [(16, .box [Ti f1.1, Ti f1.2.1, Ti f1.2.2])]⟩) ?_ ?_
  · refine XL_cons rfl (X_of_Y0 rfl (E_loadn (cs := [Ti f1.1, Ti f1.2.1, Ti f1.2.2]) [Ti f1.1, Ti f1.2.1, Ti f1.2.2] wd33 rfl (by kernel_rfl) (Nat.le_of_ble_eq_true rfl) (by kernel_rfl))) ?_
    refine XL_cons rfl (X_of_Y1 rfl (Y1_call (s_impl_isShownForm hy3) cf_impl_isShownForm rfl (by kernel_rfl))) ?_
    refine XL_cons rfl (X_of_Y0 rfl (Y0_not (b := y3) rfl (by kernel_rfl))) ?_
    refine XL_cons rfl (X_of_Y0 rfl (E_move (Bo (!y3)) rfl (by kernel_rfl))) ?_
    refine XL_split (!y3) (fun hc4 => ?_) (fun hc4 => ?_)
    · have hb6 := some_inj (of_true hb6 hc4)
      refine XL_skipF (!y3) rfl rfl (by kernel_rfl) hc4 rfl ?_
      refine XL_skipF (!y3) rfl rfl (by kernel_rfl) hc4 rfl ?_
      refine XL_skipF (!y3) rfl rfl (by kernel_rfl) hc4 rfl ?_
      refine XL_cons rfl (X_of_Y0 rfl (Y0_pickTe (b := !y3) (p := true) rfl (by kernel_rfl) hc4 (by kernel_rfl) hb6)) ?_
      refine XL_nil ?_
      kernel_rfl
    · have hb6 := of_false hb6 hc4
      obtain ⟨y5, hy5, hb6⟩ := of_bind hb6
      have hb6 := some_inj hb6
      refine XL_takeC (!y3) rfl rfl (by kernel_rfl) hc4 (X_of_Y0 rfl (E_move (I vn2) rfl (by kernel_rfl))) ?_
      refine XL_takeC (!y3) rfl rfl (by kernel_rfl) hc4 (X_of_Y1 rfl (Y1_call (s_impl_isShown hy5) cf_impl_isShown rfl (by kernel_rfl))) ?_
      refine XL_takeC (!y3) rfl rfl (by kernel_rfl) hc4 (X_of_Y0 rfl (Y0_not (b := y5) rfl (by kernel_rfl))) ?_
      refine XL_cons rfl (X_of_Y0 rfl (Y0_pickFe (b := !y3) (p := !y5) rfl (by kernel_rfl) hc4 (by kernel_rfl) hb6)) ?_
      refine XL_nil ?_
      kernel_rfl
  refine V_cond rfl (fun hc7 => ?_) (fun hc7 => ?_)
  · have h := of_true h hc7
    refine V_sreg [false, false, false, false, true, true, false, false, false, false, false, false, false, false, false, false, false, false] [112] (s1 := ⟨[.bot, .bot, .bot, .bot, .ow 112, Bo false, .bot, .bot, .bot, .bot, .bot, .bot, .bot, .bot, .bot, .bot, .bot, .bot], [(112, .arr 66 2 ((([] : List ((Int × Int)))).map c66))]⟩) ?_ ?_
    · refine XL_cons rfl (X_of_Y1 rfl (Y1_bslice0 Tryd.underlying62 sz66 (by decide) rfl rfl)) ?_
      refine XL_cons rfl (X_of_Y0 rfl (E_assign (.ow 112) rfl (by kernel_rfl))) ?_
      refine XL_cons rfl (X_of_Y0 rfl (E_assign (Bo false) rfl (by kernel_rfl))) ?_
      refine XL_nil ?_
      kernel_rfl
    refine V_ret ?_
    obtain rfl := some_inj h
    show Post _ _ _ _ _
    exact ⟨.inr rfl, rfl, rfl, rfl⟩
  · have h := of_false h hc7
    refine V_skip ?_
    show V _ _ _ _
    obtain ⟨y8, hy8, h⟩ := of_bind h
    refine V_sreg [false, false, false, false, true, true, false, false, false, false, false, false, false, false, false, false, false, false] [136] (s1 := ⟨[.bot, .bot, .bot, .bot, .ow 136, Bo true, .bot, .bot, .bot, .bot, .bot, .bot, .bot, .bot, .bot, .bot, .bot, .bot], [(136, .arr 66 2 (y8.map c66))]⟩) ?_ ?_
    · refine XL_cons rfl (X_of_Y0 rfl (E_loadn (cs := [Ti f1.1, Ti f1.2.1, Ti f1.2.2]) [Ti f1.1, Ti f1.2.1, Ti f1.2.2] wd33 rfl (by kernel_rfl) (Nat.le_of_ble_eq_true rfl) (by kernel_rfl))) ?_
      refine XL_cons rfl (X_of_Y0 rfl (E_move (I vn2) rfl (by kernel_rfl))) ?_
      refine XL_cons rfl (X_of_Y1 rfl (Y1_call (s_impl_Form_points hy8) cf_impl_Form_points rfl (by kernel_rfl))) ?_
      refine XL_cons rfl (X_of_Y0 rfl (E_assign (.ow 136) rfl (by kernel_rfl))) ?_
      refine XL_cons rfl (X_of_Y0 rfl (E_assign (Bo true) rfl (by kernel_rfl))) ?_
      refine XL_nil ?_
      kernel_rfl
    refine V_ret ?_
    obtain rfl := some_inj h
    show Post _ _ _ _ _
    exact ⟨.inr rfl, rfl, rfl, rfl⟩
theorem cf_impl_abs : ∀ args w, (callFunc 146 args).run Tryd.prog w = .ok (.enter 146 args) w := run_callFunc Tryd.func146 (by kernel_rfl) (by kernel_rfl)
set_option maxRecDepth 100000 in
set_option maxHeartbeats 400000 in
theorem s_impl_abs {vn1 : Int} {r : Int} (h : r_impl_abs vn1 = some r) : CallS Tryd.prog 146 [I vn1] (I r) [] := by
  refine CallS_of_text (rs := [.t 2]) (vs := [.tmp 2]) Tryd.func146 rfl rfl (.cons rfl FitsL.nil) (by decide) 8 rfl ?_
  unfold r_impl_abs at h
  show V _ _ ⟨[I vn1, .bot, .bot, .bot, .bot, .bot, .bot, .bot], []⟩ _
  refine V_sreg [true, false, false, false, false, false, false, false] [] (s1 := ⟨[I vn1, .bot, .bot, .bot, .bot, .bot, .bot, .bot], []⟩) ?_ ?_
  · refine XL_cons rfl (X_of_Y0 rfl (E_assign (I 0) rfl (by kernel_rfl))) ?_
    refine XL_nil ?_
    kernel_rfl
  obtain ⟨t2, ht2, h⟩ := of_sI h
  refine V_sreg [false, false, true, false, false, false, false, false] [] (s1 := ⟨[.bot, .bot, I t2, .bot, .bot, .bot, .bot, .bot], []⟩) ?_ ?_
  · refine XL_cons rfl (X_of_Y0 rfl (E_move (I vn1) rfl (by kernel_rfl))) ?_
    refine XL_cons rfl (X_of_Y0 rfl (E_move (I vn1) rfl (by kernel_rfl))) ?_
    refine XL_cons rfl (X_of_Y0 rfl (Y0_max (a := vn1) (b := -9223372036854775807) rfl (by kernel_rfl) (by kernel_rfl))) ?_
    refine XL_cons rfl (X_of_Y0 rfl (Y0_neg64 (a := mxI vn1 (-9223372036854775807)) rfl (by kernel_rfl))) ?_
    refine XL_cons rfl (X_of_Y0 rfl (Y0_max (a := vn1) (b := w64 (0 - (mxI vn1 (-9223372036854775807)))) rfl (by kernel_rfl) (by kernel_rfl))) ?_
    refine XL_cons rfl (X_of_Y0 rfl (E_assign (I (mxI vn1 (w64 (0 - (mxI vn1 (-9223372036854775807)))))) rfl (by kernel_rfl))) ?_
    refine XL_nil ?_
    subst ht2
    kernel_rfl
  refine V_ret ?_
  obtain rfl := some_inj h
  show Post _ _ _ _ _
  exact ⟨.inr rfl, rfl, rfl, rfl⟩
theorem cf_impl_gcd : ∀ args w, (callFunc 98 args).run Tryd.prog w = .ok (.enter 98 args) w := run_callFunc Tryd.func98 (by kernel_rfl) (by kernel_rfl)
set_option maxRecDepth 100000 in
set_option maxHeartbeats 400000 in
theorem s_impl_gcd {a1 : Int} {b2 : Int} {r : Int} (h : r_impl_gcd a1 b2 = some r) : CallS Tryd.prog 98 [I a1, I b2] (I r) [] := by
  refine CallS_of_text (rs := [.t 4]) (vs := [.tmp 4]) Tryd.func98 rfl rfl (.cons rfl FitsL.nil) (by decide) 13 rfl ?_
  unfold r_impl_gcd at h
  show V _ _ ⟨[I a1, I b2, .bot, .bot, .bot, .bot, .bot, .bot, .bot, .bot, .bot, .bot, .bot], []⟩ _
  refine V_sreg [true, true, false, false, false, false, false, false, false, false, false, false, false] [] (s1 := ⟨[I a1, I b2, .bot, .bot, .bot, .bot, .bot, .bot, .bot, .bot, .bot, .bot, .bot], []⟩) ?_ ?_
  · refine XL_cons rfl (X_of_Y0 rfl (E_assign (I 0) rfl (by kernel_rfl))) ?_
    refine XL_nil ?_
    kernel_rfl
  refine V_seq ?_
  obtain ⟨o6, hLo6, h⟩ := of_bind h
  refine V_toK [true, false, false, false, false, false, false, false, false, false, false, false, false] [] (s1 := ⟨[I o6, .bot, .bot, .bot, .bot, .bot, .bot, .bot, .bot, .bot, .bot, .bot, .bot], []⟩) ?_ ?_
  · clear h
    refine V_block (V_loop (fun n s => ∃ (a3 : Int) (b4 : Int), s.keep [true, true, false, false, false, false, false, false, false, false, false, false, false] [] = (⟨[I a3, I b4, .bot, .bot, .bot, .bot, .bot, .bot, .bot, .bot, .bot, .bot, .bot], []⟩ : St) ∧ r_impl_gcd_L5 n a3 b4 = some o6) FU ⟨_, _,  by rfl, hLo6⟩ ?_)
    clear hLo6
    rintro n s ⟨a3, b4, hs, h⟩
    refine V_keep _ _ hs ?_
    clear hs
    cases n with
    | zero => cases h
    | succ n =>
      rw [r_impl_gcd_L5] at h
      refine V_seq ?_
      refine V_sreg [true, true, false, false, false, false, true, false, false, false, false, false, false] [] (s1 := ⟨[I a3, I b4, .bot, .bot, .bot, .bot, Bo (!eqI b4 0), .bot, .bot, .bot, .bot, .bot, .bot], []⟩) ?_ ?_
      · refine XL_cons rfl (X_of_Y0 rfl (E_move (I b4) rfl (by kernel_rfl))) ?_
        refine XL_cons rfl (X_of_Y0 rfl (Y0_new (k := .i64) (a := b4) (b := 0) rfl (by kernel_rfl) (by kernel_rfl))) ?_
        refine XL_nil ?_
        kernel_rfl
      refine V_cond rfl (fun hc7 => ?_) (fun hc7 => ?_)
      · have h := of_true h hc7
        refine V_skip ?_
        show V _ _ _ _
        refine V_block ?_
        obtain ⟨z8, hz8, h⟩ := of_bind h
        obtain ⟨b9, hb9, h⟩ := of_sI h
        refine V_dreg [0, 0, 0, 6, 3, 31] 6 [[.z, .b, .b, .b, .z, .z], [.b, .z, .b, .z, .z, .z], [.b, .b, .z, .z, .b, .z], [.b, .a, .a, .z, .b, .z], [.a, .a, .b, .b, .z, .z], [.a, .a, .a, .a, .a, .z]] [true, true, false, false, false, false, false, false, false, false, false, false, false] [] (s1 := ⟨[I b4, I b9, .bot, .bot, .bot, .bot, .bot, .bot, .bot, .bot, .bot, .bot, .bot], []⟩) (by kernel_rfl) (by kernel_rfl) ?_ ?_
        · refine DE_0 0 (I b4) (by kernel_rfl) rfl rfl rfl (gsat_none rfl) (by kernel_rfl) (E_move (I b4) rfl (by kernel_rfl)) 7 rfl ?_
          refine DE_0 1 (I a3) (by kernel_rfl) rfl rfl rfl (gsat_none rfl) (by kernel_rfl) (E_move (I a3) rfl (by kernel_rfl)) 8 rfl ?_
          refine DE_0 2 (I b4) (by kernel_rfl) rfl rfl rfl (gsat_none rfl) (by kernel_rfl) (E_move (I b4) rfl (by kernel_rfl)) 9 rfl ?_
          refine DE_0 3 (I (Int.tmod a3 b4)) (by kernel_rfl) rfl rfl rfl (gsat_none rfl) (by kernel_rfl) (Y0_rem (k := .i64) (a := a3) (b := b4) rfl (by kernel_rfl) (by kernel_rfl) (nz_some hz8)) 10 rfl ?_
          refine DE_0 4 (I b4) (by kernel_rfl) rfl rfl rfl (gsat_none rfl) (by kernel_rfl) (E_assign (I b4) rfl (by kernel_rfl)) 0 rfl ?_
          refine DE_0 5 (I (Int.tmod a3 b4)) (by kernel_rfl) rfl rfl rfl (gsat_none rfl) (by kernel_rfl) (E_assign (I (Int.tmod a3 b4)) rfl (by kernel_rfl)) 1 rfl ?_
          refine DL_nil (by kernel_rfl) ?_
          refine XL_nil ?_
          subst hb9
          kernel_rfl
        exact ⟨n, Nat.lt_succ_self n, _, _,  by rfl, h⟩
      · have h := of_false h hc7
        refine V_exit ?_
        obtain rfl := some_inj h
        show St.keep _ _ _ = _
        rfl
  show V _ _ _ _
  obtain ⟨y10, hy10, h⟩ := of_bind h
  refine V_sreg [false, false, false, false, true, false, false, false, false, false, false, false, false] [] (s1 := ⟨[.bot, .bot, .bot, .bot, I y10, .bot, .bot, .bot, .bot, .bot, .bot, .bot, .bot], []⟩) ?_ ?_
  · refine XL_cons rfl (X_of_Y0 rfl (E_move (I o6) rfl (by kernel_rfl))) ?_
    refine XL_cons rfl (X_of_Y1 rfl (Y1_call (s_impl_abs hy10) cf_impl_abs rfl (by kernel_rfl))) ?_
    refine XL_cons rfl (X_of_Y0 rfl (E_assign (I y10) rfl (by kernel_rfl))) ?_
    refine XL_nil ?_
    kernel_rfl
  refine V_ret ?_
  obtain rfl := some_inj h
  show Post _ _ _ _ _
  exact ⟨.inr rfl, rfl, rfl, rfl⟩
theorem cf_impl_PrimitivePoints : ∀ args w, (callFunc 53 args).run Tryd.prog w = .ok (.enter 53 args) w := run_callFunc Tryd.func53 (by kernel_rfl) (by kernel_rfl)
set_option maxRecDepth 100000 in
set_option maxHeartbeats 400000 in
theorem s_impl_PrimitivePoints {f1 : (Int × Int × Int)} {vn2 : Int} {r : ((List ((Int × Int))) × Bool)} (h : r_impl_PrimitivePoints f1 vn2 = some r) : CallS Tryd.prog 53 [.ag [Ti f1.1, Ti f1.2.1, Ti f1.2.2], I vn2] (.tc (.ow 0) (.tc (Bo r.2) .tn)) [(0, .arr 66 2 (r.1.map c66))] := by
  refine CallS_of_text (rs := [.t 4, .t 5]) (vs := [.tmp 4, .tmp 5]) Tryd.func53 rfl rfl (.cons rfl (.cons rfl FitsL.nil)) (by decide) 37 rfl ?_
  unfold r_impl_PrimitivePoints at h
  show V _ _ ⟨[.ag [Ti f1.1, Ti f1.2.1, Ti f1.2.2], I vn2, .bot, .bot, .bot, .bot, .bot, .bot, .bot, .bot, .bot, .bot, .bot, .bot, .bot, .bot, .bot, .bot, .bot, .bot, .bot, .bot, .bot, .bot, .bot, .bot, .bot, .bot, .bot, .bot, .bot, .bot, .bot, .bot, .bot, .bot, .bot], []⟩ _
  refine V_sreg [false, true, true, false, false, false, false, false, false, false, false, false, false, false, false, false, false, false, false, false, false, false, false, false, false, false, false, false, false, false, false, false, false, false, false, false, false] [16] (s1 := ⟨[.bot, I vn2, .pt 16 0, .bot, .bot, .bot, .bot, .bot, .bot, .bot, .bot, .bot, .bot, .bot, .bot, .bot, .bot, .bot, .bot, .bot, .bot, .bot, .bot, .bot, .bot, .bot, .bot, .bot, .bot, .bot, .bot, .bot, .bot, .bot, .bot, .bot, .bot], [(16, .box [Ti f1.1, Ti f1.2.1, Ti f1.2.2])]⟩) ?_ ?_
  · refine XL_cons rfl (X_of_Y1 rfl (Y1_box (cs := [Ti f1.1, Ti f1.2.1, Ti f1.2.2]) rfl (by kernel_rfl))) ?_
    refine XL_cons rfl (X_of_Y1 rfl (Y1_nil (e := 66) 2 (by decide) (.inl rfl))) ?_
    refine XL_cons rfl (X_of_Y0 rfl (E_assign (Bo false) rfl (by kernel_rfl))) ?_
    refine XL_nil ?_
    kernel_rfl
  obtain ⟨y3, hy3, h⟩ := of_bind h
  refine V_sreg [false, false, false, false, false, false, true, true, false, false, false, false, false, false, false, false, false, false, false, false, false, false, false, false, false, false, false, false, false, false, false, false, false, false, false, false, false] [112] (s1 := ⟨[.bot, .bot, .bot, .bot, .bot, .bot, .ow 112, Bo y3.2, .bot, .bot, .bot, .bot, .bot, .bot, .bot, .bot, .bot, .bot, .bot, .bot, .bot, .bot, .bot, .bot, .bot, .bot, .bot, .bot, .bot, .bot, .bot, .bot, .bot, .bot, .bot, .bot, .bot], [(112, .arr 66 2 (y3.1.map c66))]⟩) ?_ ?_
  · refine XL_cons rfl (X_of_Y0 rfl (E_loadn (cs := [Ti f1.1, Ti f1.2.1, Ti f1.2.2]) [Ti f1.1, Ti f1.2.1, Ti f1.2.2] wd33 rfl (by kernel_rfl) (Nat.le_of_ble_eq_true rfl) (by kernel_rfl))) ?_
    refine XL_cons rfl (X_of_Y0 rfl (E_move (I vn2) rfl (by kernel_rfl))) ?_
    refine XL_cons rfl (X_of_Y1 rfl (Y1_call (s_impl_Representations hy3) cf_impl_Representations rfl (by kernel_rfl))) ?_
    refine XL_cons rfl (X_of_Y0 rfl (E_move (.tc (.ow 112) (.tc (Bo y3.2) .tn)) rfl (by kernel_rfl))) ?_
    refine XL_cons rfl (X_of_Y0 rfl (E_ext (n := 0) (.ow 112) (.tc (Bo y3.2) .tn) (.ow 112) rfl (by kernel_rfl) (by kernel_rfl) (by intro hh; cases hh))) ?_
    refine XL_cons rfl (X_of_Y0 rfl (E_ext (n := 1) (.ow 112) (.tc (Bo y3.2) .tn) (Bo y3.2) rfl (by kernel_rfl) (by kernel_rfl) (by intro hh; cases hh))) ?_
    refine XL_cons rfl (X_of_Y0 rfl (E_assign (.ow 112) rfl (by kernel_rfl))) ?_
    refine XL_cons rfl (X_of_Y0 rfl (E_assign (Bo y3.2) rfl (by kernel_rfl))) ?_
    refine XL_nil ?_
    kernel_rfl
  refine V_sreg [false, false, false, false, false, false, true, true, true, false, false, false, false, false, false, false, false, false, false, false, false, false, false, false, false, false, false, false, false, false, false, false, false, false, false, false, false] [136, 112] (s1 := ⟨[.bot, .bot, .bot, .bot, .bot, .bot, .ow 112, Bo y3.2, .ow 136, .bot, .bot, .bot, .bot, .bot, .bot, .bot, .bot, .bot, .bot, .bot, .bot, .bot, .bot, .bot, .bot, .bot, .bot, .bot, .bot, .bot, .bot, .bot, .bot, .bot, .bot, .bot, .bot], [(136, .arr 66 2 ((([] : List ((Int × Int)))).map c66)), (112, .arr 66 2 (y3.1.map c66))]⟩) ?_ ?_
  · refine XL_cons rfl (X_of_Y1 rfl (Y1_bslice0 Tryd.underlying62 sz66 (by decide) rfl rfl)) ?_
    refine XL_cons rfl (X_of_Y0 rfl (E_assign (.ow 136) rfl (by kernel_rfl))) ?_
    refine XL_nil ?_
    kernel_rfl
  refine V_seq ?_
  refine V_sreg [false, false, false, false, false, false, false, true, true, false, false, false, false, false, false, false, false, false, true, true, true, false, false, false, false, false, false, false, false, false, false, false, false, false, false, false, false] [136, 112] (s1 := ⟨[.bot, .bot, .bot, .bot, .bot, .bot, .bot, Bo y3.2, .ow 136, .bot, .bot, .bot, .bot, .bot, .bot, .bot, .bot, .bot, .ow 112, I ((y3.1.length : Int)), I 0, .bot, .bot, .bot, .bot, .bot, .bot, .bot, .bot, .bot, .bot, .bot, .bot, .bot, .bot, .bot, .bot], [(136, .arr 66 2 ((([] : List ((Int × Int)))).map c66)), (112, .arr 66 2 (y3.1.map c66))]⟩) ?_ ?_
  · refine XL_cons rfl (X_of_Y0 rfl (E_move (.ow 112) rfl (by kernel_rfl))) ?_
    refine XL_cons rfl (X_of_Y0 rfl (Y0_lenM (c := c66) (xs := y3.1) Tryd.underlying62 rfl (by kernel_rfl))) ?_
    refine XL_cons rfl (X_of_Y0 rfl (E_move (I 0) rfl (by kernel_rfl))) ?_
    refine XL_nil ?_
    kernel_rfl
  obtain ⟨o7, hLo7, h⟩ := of_bind h
  refine V_toK [false, false, false, false, false, false, false, true, true, false, false, false, false, false, false, false, false, false, false, false, false, false, false, false, false, false, false, false, false, false, false, false, false, false, false, false, false] [136] (s1 := ⟨[.bot, .bot, .bot, .bot, .bot, .bot, .bot, Bo y3.2, .ow 136, .bot, .bot, .bot, .bot, .bot, .bot, .bot, .bot, .bot, .bot, .bot, .bot, .bot, .bot, .bot, .bot, .bot, .bot, .bot, .bot, .bot, .bot, .bot, .bot, .bot, .bot, .bot, .bot], [(136, .arr 66 2 (o7.map c66))]⟩) ?_ ?_
  · clear h
    refine V_block (V_loop (fun n s => ∃ (t4 : Int) (l5 : List ((Int × Int))), s.keep [false, false, false, false, false, false, false, true, true, false, false, false, false, false, false, false, false, false, true, true, true, false, false, false, false, false, false, false, false, false, false, false, false, false, false, false, false] [136, 112] = (⟨[.bot, .bot, .bot, .bot, .bot, .bot, .bot, Bo y3.2, .ow 136, .bot, .bot, .bot, .bot, .bot, .bot, .bot, .bot, .bot, .ow 112, I ((y3.1.length : Int)), I t4, .bot, .bot, .bot, .bot, .bot, .bot, .bot, .bot, .bot, .bot, .bot, .bot, .bot, .bot, .bot, .bot], [(136, .arr 66 2 (l5.map c66)), (112, .arr 66 2 (y3.1.map c66))]⟩ : St) ∧ r_impl_PrimitivePoints_L6 y3 n t4 l5 = some o7) FU ⟨_, _,  by rfl, hLo7⟩ ?_)
    clear hLo7
    rintro n s ⟨t4, l5, hs, h⟩
    refine V_keep _ _ hs ?_
    clear hs
    cases n with
    | zero => cases h
    | succ n =>
      rw [r_impl_PrimitivePoints_L6] at h
      refine V_sreg [false, false, false, false, false, false, false, true, true, false, false, false, false, false, false, false, false, false, true, true, true, true, false, false, false, false, false, false, false, false, false, false, false, false, false, false, false] [136, 112] (s1 := ⟨[.bot, .bot, .bot, .bot, .bot, .bot, .bot, Bo y3.2, .ow 136, .bot, .bot, .bot, .bot, .bot, .bot, .bot, .bot, .bot, .ow 112, I ((y3.1.length : Int)), I t4, Bo (ltI t4 ((y3.1.length : Int))), .bot, .bot, .bot, .bot, .bot, .bot, .bot, .bot, .bot, .bot, .bot, .bot, .bot, .bot, .bot], [(136, .arr 66 2 (l5.map c66)), (112, .arr 66 2 (y3.1.map c66))]⟩) ?_ ?_
      · refine XL_cons rfl (X_of_Y0 rfl (Y0_ltw (k := .i64) (a := t4) (b := (y3.1.length : Int)) rfl (by kernel_rfl) (by kernel_rfl))) ?_
        refine XL_nil ?_
        kernel_rfl
      refine V_seq ?_
      refine V_cond rfl (fun hc8 => ?_) (fun hc8 => ?_)
      · have h := of_true h hc8
        refine V_skip ?_
        show V _ _ _ _
        refine V_seq ?_
        refine V_block ?_
        obtain ⟨e9, he9, h⟩ := of_bind h
        obtain ⟨e10, he10, h⟩ := of_bind h
        refine V_sreg [false, false, false, false, false, false, false, true, true, false, true, false, false, false, false, false, false, false, true, true, true, false, false, false, false, false, false, false, false, false, false, false, false, false, false, false, false] [80, 136, 112] (s1 := ⟨[.bot, .bot, .bot, .bot, .bot, .bot, .bot, Bo y3.2, .ow 136, .bot, .pt 80 0, .bot, .bot, .bot, .bot, .bot, .bot, .bot, .ow 112, I ((y3.1.length : Int)), I t4, .bot, .bot, .bot, .bot, .bot, .bot, .bot, .bot, .bot, .bot, .bot, .bot, .bot, .bot, .bot, .bot], [(80, .box [Ti e10.1, Ti e10.2]), (136, .arr 66 2 (l5.map c66)), (112, .arr 66 2 (y3.1.map c66))]⟩) ?_ ?_
        · refine XL_cons rfl (X_of_Y0 rfl (Y0_idxoM (c := c66) (xs := y3.1) (v := e9) (id := 112) (T := 66) (sz := 2) (n := t4) Tryd.underlying62 sz66 rfl (by kernel_rfl) (by kernel_rfl) (by kernel_rfl) he9)) ?_
          refine XL_cons rfl (X_of_Y0 rfl (E_loadon (c := c66) (xs := y3.1) (v := e10) (id := 112) (sz := 2) (T := 66) (off := 0) (n := t4) [Ti e10.1, Ti e10.2] wd66 rfl (by kernel_rfl) (by kernel_rfl) he10 (Nat.le_of_ble_eq_true rfl) (by kernel_rfl))) ?_
          refine XL_cons rfl (X_of_Y1 rfl (Y1_alloc (z := zv66) rfl zf66 rfl)) ?_
          refine XL_cons rfl (E_store (id := 80) (off := 0) (cs := [Ti 0, Ti 0]) (vc := [Ti e10.1, Ti e10.2]) [Ti e10.1, Ti e10.2] rfl rfl (by kernel_rfl) (by kernel_rfl) (by kernel_rfl) sz66 (Nat.le_of_ble_eq_true rfl) (by kernel_rfl)) ?_
          refine XL_nil ?_
          kernel_rfl
        obtain ⟨y11, hy11, h⟩ := of_bind h
        refine V_sreg [false, false, false, false, false, false, false, true, true, false, true, false, false, false, false, false, false, false, true, true, true, false, false, false, false, false, false, false, false, true, false, false, false, false, false, false, false] [80, 136, 112] (s1 := ⟨[.bot, .bot, .bot, .bot, .bot, .bot, .bot, Bo y3.2, .ow 136, .bot, .pt 80 0, .bot, .bot, .bot, .bot, .bot, .bot, .bot, .ow 112, I ((y3.1.length : Int)), I t4, .bot, .bot, .bot, .bot, .bot, .bot, .bot, .bot, Bo (eqI y11 1), .bot, .bot, .bot, .bot, .bot, .bot, .bot], [(80, .box [Ti e10.1, Ti e10.2]), (136, .arr 66 2 (l5.map c66)), (112, .arr 66 2 (y3.1.map c66))]⟩) ?_ ?_
        · refine XL_cons rfl (X_of_Y0 rfl (E_field (.pt 80 0) Tryd.underlying66 rfl sz3 rfl (by kernel_rfl) (by intro hh; cases hh))) ?_
          refine XL_cons rfl (X_of_Y0 rfl (Y0_load1 (c := Ti e10.1) (cs := [Ti e10.2]) sc3 rfl (by kernel_rfl))) ?_
          refine XL_cons rfl (X_of_Y0 rfl (E_field (.pt 80 1) Tryd.underlying66 rfl sz3 rfl (by kernel_rfl) (by intro hh; cases hh))) ?_
          refine XL_cons rfl (X_of_Y0 rfl (Y0_load1 (c := Ti e10.2) (cs := []) sc3 rfl (by kernel_rfl))) ?_
          refine XL_cons rfl (X_of_Y1 rfl (Y1_call (s_impl_gcd hy11) cf_impl_gcd rfl (by kernel_rfl))) ?_
          refine XL_cons rfl (X_of_Y0 rfl (Y0_eqw (k := .i64) (a := y11) (b := 1) rfl (by kernel_rfl) (by kernel_rfl))) ?_
          refine XL_nil ?_
          kernel_rfl
        refine V_cond rfl (fun hc12 => ?_) (fun hc12 => ?_)
        · have h := of_true h hc12
          obtain ⟨u13, hu13, h⟩ := of_bind h
          refine V_reg [false, false, false, false, false, false, false, true, true, false, false, false, false, false, false, false, false, false, true, true, true, false, false, false, false, false, false, false, false, false, false, false, false, false, false, false, false] [136, 112] (s1 := ⟨[.bot, .bot, .bot, .bot, .bot, .bot, .bot, Bo y3.2, .ow 136, .bot, .bot, .bot, .bot, .bot, .bot, .bot, .bot, .bot, .ow 112, I ((y3.1.length : Int)), I t4, .bot, .bot, .bot, .bot, .bot, .bot, .bot, .bot, .bot, .bot, .bot, .bot, .bot, .bot, .bot, .bot], [(136, .arr 66 2 ((l5 ++ ([e10])).map c66)), (112, .arr 66 2 (y3.1.map c66))]⟩) ?_ ?_
          · refine XL_cons rfl (X_of_Y0 rfl (E_move (.ow 136) rfl (by kernel_rfl))) ?_
            refine XL_cons rfl (X_of_Y0 rfl (E_loadn (cs := [Ti e10.1, Ti e10.2]) [Ti e10.1, Ti e10.2] wd66 rfl (by kernel_rfl) (Nat.le_of_ble_eq_true rfl) (by kernel_rfl))) ?_
            refine XL_cons rfl (X_of_Y1 rfl (Y1_bslice (z := zv66) (els := [e10].map c66) Tryd.underlying62 iz66 rfl (by decide) rfl (by kernel_rfl) rfl (by simp [c66]) (by decide) (by decide))) ?_
            refine XL_cons rfl (X_appendM (c := c66) (xs := l5) (ys := [e10]) (id := 136) (z := zv66) rfl rfl Tryd.underlying62 izb66 rfl (by kernel_rfl) (by kernel_rfl) (by kernel_rfl) (fun _ => rfl) (by simp) (room_some hu13) (by decide)) ?_
            refine XL_cons rfl (X_of_Y0 rfl (E_assign (.ow 136) rfl (by kernel_rfl))) ?_
            refine XL_nil ?_
            kernel_rfl
          show V _ _ _ _
          obtain ⟨t14, ht14, h⟩ := of_sI h
          refine V_reg [false, false, false, false, false, false, false, true, true, false, false, false, false, false, false, false, false, false, true, true, true, false, false, false, false, false, false, false, false, false, false, false, false, false, false, false, false] [136, 112] (s1 := ⟨[.bot, .bot, .bot, .bot, .bot, .bot, .bot, Bo y3.2, .ow 136, .bot, .bot, .bot, .bot, .bot, .bot, .bot, .bot, .bot, .ow 112, I ((y3.1.length : Int)), I t14, .bot, .bot, .bot, .bot, .bot, .bot, .bot, .bot, .bot, .bot, .bot, .bot, .bot, .bot, .bot, .bot], [(136, .arr 66 2 ((l5 ++ ([e10])).map c66)), (112, .arr 66 2 (y3.1.map c66))]⟩) ?_ ?_
          · refine XL_cons rfl (X_of_Y0 rfl (Y0_add64 (a := t4) (b := 1) rfl (by kernel_rfl) (by kernel_rfl))) ?_
            refine XL_cons rfl (X_of_Y0 rfl (E_move (I (w64 (t4 + 1))) rfl (by kernel_rfl))) ?_
            refine XL_nil ?_
            subst ht14
            kernel_rfl
          exact ⟨n, Nat.lt_succ_self n, _, _,  by rfl, h⟩
        · have h := of_false h hc12
          refine V_skip ?_
          show V _ _ _ _
          obtain ⟨t15, ht15, h⟩ := of_sI h
          refine V_reg [false, false, false, false, false, false, false, true, true, false, false, false, false, false, false, false, false, false, true, true, true, false, false, false, false, false, false, false, false, false, false, false, false, false, false, false, false] [136, 112] (s1 := ⟨[.bot, .bot, .bot, .bot, .bot, .bot, .bot, Bo y3.2, .ow 136, .bot, .bot, .bot, .bot, .bot, .bot, .bot, .bot, .bot, .ow 112, I ((y3.1.length : Int)), I t15, .bot, .bot, .bot, .bot, .bot, .bot, .bot, .bot, .bot, .bot, .bot, .bot, .bot, .bot, .bot, .bot], [(136, .arr 66 2 (l5.map c66)), (112, .arr 66 2 (y3.1.map c66))]⟩) ?_ ?_
          · refine XL_cons rfl (X_of_Y0 rfl (Y0_add64 (a := t4) (b := 1) rfl (by kernel_rfl) (by kernel_rfl))) ?_
            refine XL_cons rfl (X_of_Y0 rfl (E_move (I (w64 (t4 + 1))) rfl (by kernel_rfl))) ?_
            refine XL_nil ?_
            subst ht15
            kernel_rfl
          exact ⟨n, Nat.lt_succ_self n, _, _,  by rfl, h⟩
      · have h := of_false h hc8
        refine V_exit ?_
        obtain rfl := some_inj h
        show St.keep _ _ _ = _
        rfl
  show V _ _ _ _
  refine V_sreg [false, false, false, false, true, true, false, false, false, false, false, false, false, false, false, false, false, false, false, false, false, false, false, false, false, false, false, false, false, false, false, false, false, false, false, false, false] [136] (s1 := ⟨[.bot, .bot, .bot, .bot, .ow 136, Bo y3.2, .bot, .bot, .bot, .bot, .bot, .bot, .bot, .bot, .bot, .bot, .bot, .bot, .bot, .bot, .bot, .bot, .bot, .bot, .bot, .bot, .bot, .bot, .bot, .bot, .bot, .bot, .bot, .bot, .bot, .bot, .bot], [(136, .arr 66 2 (o7.map c66))]⟩) ?_ ?_
  · refine XL_cons rfl (X_of_Y0 rfl (E_move (.ow 136) rfl (by kernel_rfl))) ?_
    refine XL_cons rfl (X_of_Y0 rfl (E_move (Bo y3.2) rfl (by kernel_rfl))) ?_
    refine XL_cons rfl (X_of_Y0 rfl (E_assign (.ow 136) rfl (by kernel_rfl))) ?_
    refine XL_cons rfl (X_of_Y0 rfl (E_assign (Bo y3.2) rfl (by kernel_rfl))) ?_
    refine XL_nil ?_
    kernel_rfl
  refine V_ret ?_
  obtain rfl := some_inj h
  show Post _ _ _ _ _
  exact ⟨.inr rfl, rfl, rfl, rfl⟩
theorem cf_impl_formText : ∀ args w, (callFunc 48 args).run Tryd.prog w = .ok (.enter 48 args) w := run_callFunc Tryd.func48 (by kernel_rfl) (by kernel_rfl)
set_option maxRecDepth 100000 in
set_option maxHeartbeats 400000 in
theorem s_impl_formText {f1 : (Int × Int × Int)} {r : ByteArray} (h : r_impl_formText f1 = some r) : CallS Tryd.prog 48 [.ag [Ti f1.1, Ti f1.2.1, Ti f1.2.2]] (.c (.v (.string r))) [] := by
  refine CallS_of_text (rs := [.t 2]) (vs := [.tmp 2]) Tryd.func48 rfl rfl (.cons rfl FitsL.nil) (by decide) 18 rfl ?_
  unfold r_impl_formText at h
  show V _ _ ⟨[.ag [Ti f1.1, Ti f1.2.1, Ti f1.2.2], .bot, .bot, .bot, .bot, .bot, .bot, .bot, .bot, .bot, .bot, .bot, .bot, .bot, .bot, .bot, .bot, .bot], []⟩ _
  refine V_sreg [false, true, false, false, false, false, false, false, false, false, false, false, false, false, false, false, false, false] [8] (s1 := ⟨[.bot, .pt 8 0, .bot, .bot, .bot, .bot, .bot, .bot, .bot, .bot, .bot, .bot, .bot, .bot, .bot, .bot, .bot, .bot], [(8, .box [Ti f1.1, Ti f1.2.1, Ti f1.2.2])]⟩) ?_ ?_
  · refine XL_cons rfl (X_of_Y1 rfl (Y1_box (cs := [Ti f1.1, Ti f1.2.1, Ti f1.2.2]) rfl (by kernel_rfl))) ?_
    refine XL_cons rfl (X_of_Y0 rfl (E_assign (.c (.v (.string ((⟨#[]⟩ : ByteArray))))) rfl (by kernel_rfl))) ?_
    refine XL_nil ?_
    kernel_rfl
  obtain ⟨y2, hy2, h⟩ := of_bind h
  obtain ⟨u3, hu3, h⟩ := of_bind h
  obtain ⟨u4, hu4, h⟩ := of_bind h
  obtain ⟨y5, hy5, h⟩ := of_bind h
  obtain ⟨u6, hu6, h⟩ := of_bind h
  obtain ⟨u7, hu7, h⟩ := of_bind h
  obtain ⟨y8, hy8, h⟩ := of_bind h
  obtain ⟨u9, hu9, h⟩ := of_bind h
  obtain ⟨u10, hu10, h⟩ := of_bind h
  refine V_sdreg [0, 1, 3, 7, 15, 0, 32, 103, 255, 511, 0, 1024, 3303, 8191, 16383, 32767] 16 [[.z, .z, .z, .z, .z, .b, .b, .z, .z, .z, .b, .b, .z, .z, .z, .z], [.a, .z, .z, .z, .z, .b, .b, .z, .z, .z, .b, .b, .z, .z, .z, .z], [.a, .a, .z, .z, .z, .b, .b, .z, .z, .z, .b, .b, .z, .z, .z, .z], [.a, .a, .a, .z, .z, .b, .b, .b, .z, .z, .b, .b, .b, .z, .z, .z], [.a, .a, .a, .a, .z, .b, .b, .b, .z, .z, .b, .b, .b, .z, .z, .z], [.b, .b, .b, .b, .b, .z, .z, .z, .z, .z, .b, .b, .z, .z, .z, .z], [.b, .b, .b, .b, .b, .a, .z, .z, .z, .z, .b, .b, .z, .z, .z, .z], [.a, .a, .a, .b, .b, .a, .a, .z, .z, .z, .b, .b, .z, .z, .z, .z], [.a, .a, .a, .a, .a, .a, .a, .a, .z, .z, .b, .b, .b, .z, .z, .z], [.a, .a, .a, .a, .a, .a, .a, .a, .a, .z, .b, .b, .b, .z, .z, .z], [.b, .b, .b, .b, .b, .b, .b, .b, .b, .b, .z, .z, .z, .z, .z, .z], [.b, .b, .b, .b, .b, .b, .b, .b, .b, .b, .a, .z, .z, .z, .z, .z], [.a, .a, .a, .b, .b, .a, .a, .a, .b, .b, .a, .a, .z, .z, .z, .z], [.a, .a, .a, .a, .a, .a, .a, .a, .a, .a, .a, .a, .a, .z, .z, .z], [.a, .a, .a, .a, .a, .a, .a, .a, .a, .a, .a, .a, .a, .a, .z, .z], [.a, .a, .a, .a, .a, .a, .a, .a, .a, .a, .a, .a, .a, .a, .a, .z]] [false, false, true, false, false, false, false, false, false, false, false, false, false, false, false, false, false, false] [] (s1 := ⟨[.bot, .bot, .c (.v (.string ((((((((⟨#[40]⟩ : ByteArray)) ++ y2) ++ ((⟨#[44]⟩ : ByteArray))) ++ y5) ++ ((⟨#[44]⟩ : ByteArray))) ++ y8) ++ ((⟨#[41]⟩ : ByteArray))))), .bot, .bot, .bot, .bot, .bot, .bot, .bot, .bot, .bot, .bot, .bot, .bot, .bot, .bot, .bot], []⟩) (by kernel_rfl) (by kernel_rfl) ?_ ?_
  · refine DE_0 0 (.pt 8 0) (by kernel_rfl) rfl rfl rfl (gsat_none rfl) (by kernel_rfl) (E_field (.pt 8 0) Tryd.underlying33 rfl sz3 rfl (by kernel_rfl) (by intro hh; cases hh)) 3 rfl ?_
    refine DE_0 1 (I f1.1) (by kernel_rfl) rfl rfl rfl (gsat_none rfl) (by kernel_rfl) (Y0_load1 (c := Ti f1.1) (cs := [Ti f1.2.1, Ti f1.2.2]) sc3 rfl (by kernel_rfl)) 4 rfl ?_
    refine DE_1 2 (by kernel_rfl) rfl rfl rfl (gsat_none rfl) (Y1_call (s_strconv_Itoa hy2) cf_strconv_Itoa rfl (by kernel_rfl)) rfl rfl rfl 5 rfl ?_
    refine DE_0 3 (.c (.v (.string (((⟨#[40]⟩ : ByteArray)) ++ y2)))) (by kernel_rfl) rfl rfl rfl (gsat_none rfl) (by kernel_rfl) (Y0_cat (a := (⟨#[40]⟩ : ByteArray)) (b := y2) rfl (by kernel_rfl) (by kernel_rfl) (catR_some hu3)) 6 rfl ?_
    refine DE_0 4 (.c (.v (.string ((((⟨#[40]⟩ : ByteArray)) ++ y2) ++ ((⟨#[44]⟩ : ByteArray)))))) (by kernel_rfl) rfl rfl rfl (gsat_none rfl) (by kernel_rfl) (Y0_cat (a := ((⟨#[40]⟩ : ByteArray)) ++ y2) (b := (⟨#[44]⟩ : ByteArray)) rfl (by kernel_rfl) (by kernel_rfl) (catR_some hu4)) 7 rfl ?_
    refine DE_0 5 (.pt 8 1) (by kernel_rfl) rfl rfl rfl (gsat_none rfl) (by kernel_rfl) (E_field (.pt 8 1) Tryd.underlying33 rfl sz3 rfl (by kernel_rfl) (by intro hh; cases hh)) 8 rfl ?_
    refine DE_0 6 (I f1.2.1) (by kernel_rfl) rfl rfl rfl (gsat_none rfl) (by kernel_rfl) (Y0_load1 (c := Ti f1.2.1) (cs := [Ti f1.2.2]) sc3 rfl (by kernel_rfl)) 9 rfl ?_
    refine DE_1 7 (by kernel_rfl) rfl rfl rfl (gsat_none rfl) (Y1_call (s_strconv_Itoa hy5) cf_strconv_Itoa rfl (by kernel_rfl)) rfl rfl rfl 10 rfl ?_
    refine DE_0 8 (.c (.v (.string (((((⟨#[40]⟩ : ByteArray)) ++ y2) ++ ((⟨#[44]⟩ : ByteArray))) ++ y5)))) (by kernel_rfl) rfl rfl rfl (gsat_none rfl) (by kernel_rfl) (Y0_cat (a := (((⟨#[40]⟩ : ByteArray)) ++ y2) ++ ((⟨#[44]⟩ : ByteArray))) (b := y5) rfl (by kernel_rfl) (by kernel_rfl) (catR_some hu6)) 11 rfl ?_
    refine DE_0 9 (.c (.v (.string ((((((⟨#[40]⟩ : ByteArray)) ++ y2) ++ ((⟨#[44]⟩ : ByteArray))) ++ y5) ++ ((⟨#[44]⟩ : ByteArray)))))) (by kernel_rfl) rfl rfl rfl (gsat_none rfl) (by kernel_rfl) (Y0_cat (a := ((((⟨#[40]⟩ : ByteArray)) ++ y2) ++ ((⟨#[44]⟩ : ByteArray))) ++ y5) (b := (⟨#[44]⟩ : ByteArray)) rfl (by kernel_rfl) (by kernel_rfl) (catR_some hu7)) 12 rfl ?_
    refine DE_0 10 (.pt 8 2) (by kernel_rfl) rfl rfl rfl (gsat_none rfl) (by kernel_rfl) (E_field (.pt 8 2) Tryd.underlying33 rfl sz3 rfl (by kernel_rfl) (by intro hh; cases hh)) 13 rfl ?_
    refine DE_0 11 (I f1.2.2) (by kernel_rfl) rfl rfl rfl (gsat_none rfl) (by kernel_rfl) (Y0_load1 (c := Ti f1.2.2) (cs := []) sc3 rfl (by kernel_rfl)) 14 rfl ?_
    refine DE_1 12 (by kernel_rfl) rfl rfl rfl (gsat_none rfl) (Y1_call (s_strconv_Itoa hy8) cf_strconv_Itoa rfl (by kernel_rfl)) rfl rfl rfl 15 rfl ?_
    refine DE_0 13 (.c (.v (.string (((((((⟨#[40]⟩ : ByteArray)) ++ y2) ++ ((⟨#[44]⟩ : ByteArray))) ++ y5) ++ ((⟨#[44]⟩ : ByteArray))) ++ y8)))) (by kernel_rfl) rfl rfl rfl (gsat_none rfl) (by kernel_rfl) (Y0_cat (a := (((((⟨#[40]⟩ : ByteArray)) ++ y2) ++ ((⟨#[44]⟩ : ByteArray))) ++ y5) ++ ((⟨#[44]⟩ : ByteArray))) (b := y8) rfl (by kernel_rfl) (by kernel_rfl) (catR_some hu9)) 16 rfl ?_
    refine DE_0 14 (.c (.v (.string ((((((((⟨#[40]⟩ : ByteArray)) ++ y2) ++ ((⟨#[44]⟩ : ByteArray))) ++ y5) ++ ((⟨#[44]⟩ : ByteArray))) ++ y8) ++ ((⟨#[41]⟩ : ByteArray)))))) (by kernel_rfl) rfl rfl rfl (gsat_none rfl) (by kernel_rfl) (Y0_cat (a := ((((((⟨#[40]⟩ : ByteArray)) ++ y2) ++ ((⟨#[44]⟩ : ByteArray))) ++ y5) ++ ((⟨#[44]⟩ : ByteArray))) ++ y8) (b := (⟨#[41]⟩ : ByteArray)) rfl (by kernel_rfl) (by kernel_rfl) (catR_some hu10)) 17 rfl ?_
    refine DE_0 15 (.c (.v (.string ((((((((⟨#[40]⟩ : ByteArray)) ++ y2) ++ ((⟨#[44]⟩ : ByteArray))) ++ y5) ++ ((⟨#[44]⟩ : ByteArray))) ++ y8) ++ ((⟨#[41]⟩ : ByteArray)))))) (by kernel_rfl) rfl rfl rfl (gsat_none rfl) (by kernel_rfl) (E_assign (.c (.v (.string ((((((((⟨#[40]⟩ : ByteArray)) ++ y2) ++ ((⟨#[44]⟩ : ByteArray))) ++ y5) ++ ((⟨#[44]⟩ : ByteArray))) ++ y8) ++ ((⟨#[41]⟩ : ByteArray)))))) rfl (by kernel_rfl)) 2 rfl ?_
    refine DL_nil (by kernel_rfl) ?_
    refine XL_nil ?_
    kernel_rfl
  refine V_ret ?_
  obtain rfl := some_inj h
  show Post _ _ _ _ _
  exact ⟨.inr rfl, rfl, rfl, rfl⟩
theorem cf_impl_certificate : ∀ args w, (callFunc 38 args).run Tryd.prog w = .ok (.enter 38 args) w := run_callFunc Tryd.func38 (by kernel_rfl) (by kernel_rfl)
set_option maxRecDepth 100000 in
set_option maxHeartbeats 400000 in
theorem s_impl_certificate {kind1 : ByteArray} {words2 : List ByteArray} {r : ByteArray} (h : r_impl_certificate kind1 words2 = some r) : CallS Tryd.prog 38 [.c (.v (.string kind1)), .c (.sl (words2.map c9))] (.c (.v (.string r))) [] := by
  refine CallS_of_text (rs := [.t 4]) (vs := [.tmp 4]) Tryd.func38 rfl rfl (.cons rfl FitsL.nil) (by decide) 10 rfl ?_
  unfold r_impl_certificate at h
  show V _ _ ⟨[.c (.v (.string kind1)), .c (.sl (words2.map c9)), .bot, .bot, .bot, .bot, .bot, .bot, .bot, .bot], []⟩ _
  refine V_sreg [true, true, false, false, false, false, false, false, false, false] [] (s1 := ⟨[.c (.v (.string kind1)), .c (.sl (words2.map c9)), .bot, .bot, .bot, .bot, .bot, .bot, .bot, .bot], []⟩) ?_ ?_
  · refine XL_cons rfl (X_of_Y0 rfl (E_assign (.c (.v (.string ((⟨#[]⟩ : ByteArray))))) rfl (by kernel_rfl))) ?_
    refine XL_nil ?_
    kernel_rfl
  obtain ⟨u3, hu3, h⟩ := of_bind h
  obtain ⟨y4, hy4, h⟩ := of_bind h
  obtain ⟨u5, hu5, h⟩ := of_bind h
  refine V_sreg [false, false, false, false, true, false, false, false, false, false] [] (s1 := ⟨[.bot, .bot, .bot, .bot, .c (.v (.string ((kind1 ++ ((⟨#[32]⟩ : ByteArray))) ++ y4))), .bot, .bot, .bot, .bot, .bot], []⟩) ?_ ?_
  · refine XL_cons rfl (X_of_Y0 rfl (E_move (.c (.v (.string kind1))) rfl (by kernel_rfl))) ?_
    refine XL_cons rfl (X_of_Y0 rfl (Y0_cat (a := kind1) (b := (⟨#[32]⟩ : ByteArray)) rfl (by kernel_rfl) (by kernel_rfl) (catR_some hu3))) ?_
    refine XL_cons rfl (X_of_Y0 rfl (E_move (.c (.sl (words2.map c9))) rfl (by kernel_rfl))) ?_
    refine XL_cons rfl (X_of_Y1 rfl (Y1_call (s_strings_Join hy4) cf_strings_Join rfl (by kernel_rfl))) ?_
    refine XL_cons rfl (X_of_Y0 rfl (Y0_cat (a := kind1 ++ ((⟨#[32]⟩ : ByteArray))) (b := y4) rfl (by kernel_rfl) (by kernel_rfl) (catR_some hu5))) ?_
    refine XL_cons rfl (X_of_Y0 rfl (E_assign (.c (.v (.string ((kind1 ++ ((⟨#[32]⟩ : ByteArray))) ++ y4)))) rfl (by kernel_rfl))) ?_
    refine XL_nil ?_
    kernel_rfl
  refine V_ret ?_
  obtain rfl := some_inj h
  show Post _ _ _ _ _
  exact ⟨.inr rfl, rfl, rfl, rfl⟩
theorem cf_impl_ValueCertificate : ∀ args w, (callFunc 25 args).run Tryd.prog w = .ok (.enter 25 args) w := run_callFunc Tryd.func25 (by kernel_rfl) (by kernel_rfl)
set_option maxRecDepth 100000 in
set_option maxHeartbeats 400000 in
theorem s_impl_ValueCertificate {f1 : (Int × Int × Int)} {vn2 : Int} {r : (ByteArray × Bool)} (h : r_impl_ValueCertificate f1 vn2 = some r) : CallS Tryd.prog 25 [.ag [Ti f1.1, Ti f1.2.1, Ti f1.2.2], I vn2] (.tc (.c (.v (.string r.1))) (.tc (Bo r.2) .tn)) [] := by
  refine CallS_of_text (rs := [.t 4, .t 5]) (vs := [.tmp 4, .tmp 5]) Tryd.func25 rfl rfl (.cons rfl (.cons rfl FitsL.nil)) (by decide) 37 rfl ?_
  unfold r_impl_ValueCertificate at h
  show V _ _ ⟨[.ag [Ti f1.1, Ti f1.2.1, Ti f1.2.2], I vn2, .bot, .bot, .bot, .bot, .bot, .bot, .bot, .bot, .bot, .bot, .bot, .bot, .bot, .bot, .bot, .bot, .bot, .bot, .bot, .bot, .bot, .bot, .bot, .bot, .bot, .bot, .bot, .bot, .bot, .bot, .bot, .bot, .bot, .bot, .bot], []⟩ _
  refine V_sreg [false, true, true, false, false, false, false, false, false, false, false, false, false, false, false, false, false, false, false, false, false, false, false, false, false, false, false, false, false, false, false, false, false, false, false, false, false] [16] (s1 := ⟨[.bot, I vn2, .pt 16 0, .bot, .bot, .bot, .bot, .bot, .bot, .bot, .bot, .bot, .bot, .bot, .bot, .bot, .bot, .bot, .bot, .bot, .bot, .bot, .bot, .bot, .bot, .bot, .bot, .bot, .bot, .bot, .bot, .bot, .bot, .bot, .bot, .bot, .bot], [(16, .box [Ti f1.1, Ti f1.2.1, Ti f1.2.2])]⟩) ?_ ?_
  · refine XL_cons rfl (X_of_Y1 rfl (Y1_box (cs := [Ti f1.1, Ti f1.2.1, Ti f1.2.2]) rfl (by kernel_rfl))) ?_
    refine XL_cons rfl (X_of_Y0 rfl (E_assign (.c (.v (.string ((⟨#[]⟩ : ByteArray))))) rfl (by kernel_rfl))) ?_
    refine XL_cons rfl (X_of_Y0 rfl (E_assign (Bo false) rfl (by kernel_rfl))) ?_
    refine XL_nil ?_
    kernel_rfl
  obtain ⟨y3, hy3, h⟩ := of_bind h
  refine V_sreg [false, true, true, false, false, false, true, true, false, false, false, false, false, false, false, false, false, false, false, false, false, false, false, false, false, false, false, false, false, false, false, false, false, false, false, false, false] [88, 16] (s1 := ⟨[.bot, I vn2, .pt 16 0, .bot, .bot, .bot, .ow 88, Bo y3.2, .bot, .bot, .bot, .bot, .bot, .bot, .bot, .bot, .bot, .bot, .bot, .bot, .bot, .bot, .bot, .bot, .bot, .bot, .bot, .bot, .bot, .bot, .bot, .bot, .bot, .bot, .bot, .bot, .bot], [(88, .arr 66 2 (y3.1.map c66)), (16, .box [Ti f1.1, Ti f1.2.1, Ti f1.2.2])]⟩) ?_ ?_
  · refine XL_cons rfl (X_of_Y0 rfl (E_loadn (cs := [Ti f1.1, Ti f1.2.1, Ti f1.2.2]) [Ti f1.1, Ti f1.2.1, Ti f1.2.2] wd33 rfl (by kernel_rfl) (Nat.le_of_ble_eq_true rfl) (by kernel_rfl))) ?_
    refine XL_cons rfl (X_of_Y0 rfl (E_move (I vn2) rfl (by kernel_rfl))) ?_
    refine XL_cons rfl (X_of_Y1 rfl (Y1_call (s_impl_PrimitivePoints hy3) cf_impl_PrimitivePoints rfl (by kernel_rfl))) ?_
    refine XL_cons rfl (X_of_Y0 rfl (E_move (.tc (.ow 88) (.tc (Bo y3.2) .tn)) rfl (by kernel_rfl))) ?_
    refine XL_cons rfl (X_of_Y0 rfl (E_ext (n := 0) (.ow 88) (.tc (Bo y3.2) .tn) (.ow 88) rfl (by kernel_rfl) (by kernel_rfl) (by intro hh; cases hh))) ?_
    refine XL_cons rfl (X_of_Y0 rfl (E_ext (n := 1) (.ow 88) (.tc (Bo y3.2) .tn) (Bo y3.2) rfl (by kernel_rfl) (by kernel_rfl) (by intro hh; cases hh))) ?_
    refine XL_cons rfl (X_of_Y0 rfl (E_assign (.ow 88) rfl (by kernel_rfl))) ?_
    refine XL_cons rfl (X_of_Y0 rfl (E_assign (Bo y3.2) rfl (by kernel_rfl))) ?_
    refine XL_nil ?_
    kernel_rfl
  refine V_seq ?_
  refine V_sreg [false, true, true, false, false, false, true, false, false, false, false, false, false, false, false, false, false, false, false, false, true, false, false, false, false, false, false, false, false, false, false, false, false, false, false, false, false] [88, 16] (s1 := ⟨[.bot, I vn2, .pt 16 0, .bot, .bot, .bot, .ow 88, .bot, .bot, .bot, .bot, .bot, .bot, .bot, .bot, .bot, .bot, .bot, .bot, .bot, Bo (bif (!y3.2) then true else (eqI ((y3.1.length : Int)) 0)), .bot, .bot, .bot, .bot, .bot, .bot, .bot, .bot, .bot, .bot, .bot, .bot, .bot, .bot, .bot, .bot], [(88, .arr 66 2 (y3.1.map c66)), (16, .box [Ti f1.1, Ti f1.2.1, Ti f1.2.2])]⟩) ?_ ?_
  · refine XL_cons rfl (X_of_Y0 rfl (E_move (Bo y3.2) rfl (by kernel_rfl))) ?_
    refine XL_cons rfl (X_of_Y0 rfl (Y0_not (b := y3.2) rfl (by kernel_rfl))) ?_
    refine XL_cons rfl (X_of_Y0 rfl (E_move (Bo (!y3.2)) rfl (by kernel_rfl))) ?_
    refine XL_split (!y3.2) (fun hc4 => ?_) (fun hc4 => ?_)
    · refine XL_skipF (!y3.2) rfl rfl (by kernel_rfl) hc4 rfl ?_
      refine XL_skipF (!y3.2) rfl rfl (by kernel_rfl) hc4 rfl ?_
      refine XL_skipF (!y3.2) rfl rfl (by kernel_rfl) hc4 rfl ?_
      refine XL_cons rfl (X_of_Y0 rfl (Y0_pick1 (b := !y3.2) (p := true) (q := eqI ((y3.1.length : Int)) 0) rfl (by kernel_rfl) hc4 (by kernel_rfl))) ?_
      refine XL_nil ?_
      kernel_rfl
    · refine XL_takeC (!y3.2) rfl rfl (by kernel_rfl) hc4 (X_of_Y0 rfl (E_move (.ow 88) rfl (by kernel_rfl))) ?_
      refine XL_takeC (!y3.2) rfl rfl (by kernel_rfl) hc4 (X_of_Y0 rfl (Y0_lenM (c := c66) (xs := y3.1) Tryd.underlying62 rfl (by kernel_rfl))) ?_
      refine XL_takeC (!y3.2) rfl rfl (by kernel_rfl) hc4 (X_of_Y0 rfl (Y0_eqw (k := .i64) (a := (y3.1.length : Int)) (b := 0) rfl (by kernel_rfl) (by kernel_rfl))) ?_
      refine XL_cons rfl (X_of_Y0 rfl (Y0_pick0 (b := !y3.2) (p := true) (q := eqI ((y3.1.length : Int)) 0) rfl (by kernel_rfl) hc4 (by kernel_rfl))) ?_
      refine XL_nil ?_
      kernel_rfl
  refine V_cond rfl (fun hc5 => ?_) (fun hc5 => ?_)
  · have h := of_true h hc5
    refine V_sreg [false, false, false, false, true, true, false, false, false, false, false, false, false, false, false, false, false, false, false, false, false, false, false, false, false, false, false, false, false, false, false, false, false, false, false, false, false] [] (s1 := ⟨[.bot, .bot, .bot, .bot, .c (.v (.string ((⟨#[]⟩ : ByteArray)))), Bo false, .bot, .bot, .bot, .bot, .bot, .bot, .bot, .bot, .bot, .bot, .bot, .bot, .bot, .bot, .bot, .bot, .bot, .bot, .bot, .bot, .bot, .bot, .bot, .bot, .bot, .bot, .bot, .bot, .bot, .bot, .bot], []⟩) ?_ ?_
    · refine XL_cons rfl (X_of_Y0 rfl (E_assign (.c (.v (.string ((⟨#[]⟩ : ByteArray))))) rfl (by kernel_rfl))) ?_
      refine XL_cons rfl (X_of_Y0 rfl (E_assign (Bo false) rfl (by kernel_rfl))) ?_
      refine XL_nil ?_
      kernel_rfl
    refine V_ret ?_
    obtain rfl := some_inj h
    show Post _ _ _ _ _
    exact ⟨.inr rfl, rfl, rfl, rfl⟩
  · have h := of_false h hc5
    refine V_skip ?_
    show V _ _ _ _
    obtain ⟨y6, hy6, h⟩ := of_bind h
    obtain ⟨y7, hy7, h⟩ := of_bind h
    obtain ⟨e8, he8, h⟩ := of_bind h
    obtain ⟨e9, he9, h⟩ := of_bind h
    obtain ⟨y10, hy10, h⟩ := of_bind h
    obtain ⟨e11, he11, h⟩ := of_bind h
    obtain ⟨e12, he12, h⟩ := of_bind h
    obtain ⟨y13, hy13, h⟩ := of_bind h
    obtain ⟨y14, hy14, h⟩ := of_bind h
    refine V_sdreg [0, 1, 0, 7, 0, 16, 48, 112, 255, 0, 512, 1536, 3584, 8191, 16383, 32767, 65535, 131071] 18 [[.z, .z, .b, .z, .b, .b, .b, .b, .z, .b, .b, .b, .b, .z, .z, .z, .z, .z], [.a, .z, .b, .z, .b, .b, .b, .b, .z, .b, .b, .b, .b, .z, .z, .z, .z, .z], [.b, .b, .z, .z, .b, .b, .b, .b, .z, .b, .b, .b, .b, .z, .z, .z, .z, .z], [.a, .a, .a, .z, .b, .b, .b, .b, .z, .b, .b, .b, .b, .z, .z, .z, .z, .z], [.b, .b, .b, .b, .z, .z, .z, .z, .z, .b, .b, .b, .b, .z, .z, .z, .z, .z], [.b, .b, .b, .b, .a, .z, .z, .z, .z, .b, .b, .b, .b, .z, .z, .z, .z, .z], [.b, .b, .b, .b, .a, .a, .z, .z, .z, .b, .b, .b, .b, .z, .z, .z, .z, .z], [.b, .b, .b, .b, .a, .a, .a, .z, .z, .b, .b, .b, .b, .z, .z, .z, .z, .z], [.a, .a, .a, .a, .a, .a, .a, .a, .z, .b, .b, .b, .b, .z, .z, .z, .z, .z], [.b, .b, .b, .b, .b, .b, .b, .b, .b, .z, .z, .z, .z, .z, .z, .z, .z, .z], [.b, .b, .b, .b, .b, .b, .b, .b, .b, .a, .z, .z, .z, .z, .z, .z, .z, .z], [.b, .b, .b, .b, .b, .b, .b, .b, .b, .a, .a, .z, .z, .z, .z, .z, .z, .z], [.b, .b, .b, .b, .b, .b, .b, .b, .b, .a, .a, .a, .z, .z, .z, .z, .z, .z], [.a, .a, .a, .a, .a, .a, .a, .a, .a, .a, .a, .a, .a, .z, .z, .z, .z, .z], [.a, .a, .a, .a, .a, .a, .a, .a, .a, .a, .a, .a, .a, .a, .z, .z, .z, .z], [.a, .a, .a, .a, .a, .a, .a, .a, .a, .a, .a, .a, .a, .a, .a, .z, .z, .z], [.a, .a, .a, .a, .a, .a, .a, .a, .a, .a, .a, .a, .a, .a, .a, .a, .z, .z], [.a, .a, .a, .a, .a, .a, .a, .a, .a, .a, .a, .a, .a, .a, .a, .a, .a, .z]] [false, false, false, false, true, true, false, false, false, false, false, false, false, false, false, false, false, false, false, false, false, false, false, false, false, false, false, false, false, false, false, false, false, false, false, false, false] [] (s1 := ⟨[.bot, .bot, .bot, .bot, .c (.v (.string y14)), Bo true, .bot, .bot, .bot, .bot, .bot, .bot, .bot, .bot, .bot, .bot, .bot, .bot, .bot, .bot, .bot, .bot, .bot, .bot, .bot, .bot, .bot, .bot, .bot, .bot, .bot, .bot, .bot, .bot, .bot, .bot, .bot], []⟩) (by kernel_rfl) (by kernel_rfl) ?_ ?_
    · refine DE_0 0 (.ag [Ti f1.1, Ti f1.2.1, Ti f1.2.2]) (by kernel_rfl) rfl rfl rfl (gsat_none rfl) (by kernel_rfl) (E_loadn (cs := [Ti f1.1, Ti f1.2.1, Ti f1.2.2]) [Ti f1.1, Ti f1.2.1, Ti f1.2.2] wd33 rfl (by kernel_rfl) (Nat.le_of_ble_eq_true rfl) (by kernel_rfl)) 21 rfl ?_
      refine DE_1 1 (by kernel_rfl) rfl rfl rfl (gsat_none rfl) (Y1_call (s_impl_formText hy6) cf_impl_formText rfl (by kernel_rfl)) rfl rfl rfl 22 rfl ?_
      refine DE_0 2 (I vn2) (by kernel_rfl) rfl rfl rfl (gsat_none rfl) (by kernel_rfl) (E_move (I vn2) rfl (by kernel_rfl)) 23 rfl ?_
      refine DE_1 3 (by kernel_rfl) rfl rfl rfl (gsat_none rfl) (Y1_call (s_strconv_Itoa hy7) cf_strconv_Itoa rfl (by kernel_rfl)) rfl rfl rfl 24 rfl ?_
      refine DE_0 4 (.ow 88) (by kernel_rfl) rfl rfl rfl (gsat_none rfl) (by kernel_rfl) (E_move (.ow 88) rfl (by kernel_rfl)) 25 rfl ?_
      refine DE_0 5 (.po 88 2 (Int.toNat (0)) 0) (by kernel_rfl) rfl rfl rfl (gsat_none rfl) (by kernel_rfl) (Y0_idxoM (c := c66) (xs := y3.1) (v := e8) (id := 88) (T := 66) (sz := 2) (n := 0) Tryd.underlying62 sz66 rfl (by kernel_rfl) (by kernel_rfl) (by kernel_rfl) he8) 26 rfl ?_
      refine DE_0 6 (.po 88 2 (Int.toNat (0)) 0) (by kernel_rfl) rfl rfl rfl (gsat_none rfl) (by kernel_rfl) (E_field (.po 88 2 (Int.toNat (0)) 0) Tryd.underlying66 rfl sz3 rfl (by kernel_rfl) (by intro hh; cases hh)) 27 rfl ?_
      refine DE_0 7 (I e9.1) (by kernel_rfl) rfl rfl rfl (gsat_none rfl) (by kernel_rfl) (Y0_loado1 (c := c66) (xs := y3.1) (v := e9) (id := 88) (sz := 2) (T := 66) (off := 0) (n := 0) (d := Ti e9.1) (ds := [Ti e9.2]) sc3 rfl (by kernel_rfl) (by kernel_rfl) he9 (by kernel_rfl)) 28 rfl ?_
      refine DE_1 8 (by kernel_rfl) rfl rfl rfl (gsat_none rfl) (Y1_call (s_strconv_Itoa hy10) cf_strconv_Itoa rfl (by kernel_rfl)) rfl rfl rfl 29 rfl ?_
      refine DE_0 9 (.ow 88) (by kernel_rfl) rfl rfl rfl (gsat_none rfl) (by kernel_rfl) (E_move (.ow 88) rfl (by kernel_rfl)) 30 rfl ?_
      refine DE_0 10 (.po 88 2 (Int.toNat (0)) 0) (by kernel_rfl) rfl rfl rfl (gsat_none rfl) (by kernel_rfl) (Y0_idxoM (c := c66) (xs := y3.1) (v := e11) (id := 88) (T := 66) (sz := 2) (n := 0) Tryd.underlying62 sz66 rfl (by kernel_rfl) (by kernel_rfl) (by kernel_rfl) he11) 31 rfl ?_
      refine DE_0 11 (.po 88 2 (Int.toNat (0)) 1) (by kernel_rfl) rfl rfl rfl (gsat_none rfl) (by kernel_rfl) (E_field (.po 88 2 (Int.toNat (0)) 1) Tryd.underlying66 rfl sz3 rfl (by kernel_rfl) (by intro hh; cases hh)) 32 rfl ?_
      refine DE_0 12 (I e12.2) (by kernel_rfl) rfl rfl rfl (gsat_none rfl) (by kernel_rfl) (Y0_loado1 (c := c66) (xs := y3.1) (v := e12) (id := 88) (sz := 2) (T := 66) (off := 1) (n := 0) (d := Ti e12.2) (ds := []) sc3 rfl (by kernel_rfl) (by kernel_rfl) he12 (by kernel_rfl)) 33 rfl ?_
      refine DE_1 13 (by kernel_rfl) rfl rfl rfl (gsat_none rfl) (Y1_call (s_strconv_Itoa hy13) cf_strconv_Itoa rfl (by kernel_rfl)) rfl rfl rfl 34 rfl ?_
      refine DE_1 14 (by kernel_rfl) rfl rfl rfl (gsat_none rfl) (Y1_bslice (z := zv9) (els := [y6, y7, y10, y13].map c9) Tryd.underlying22 iz9 rfl (by decide) rfl (by kernel_rfl) rfl (by simp [c9]) (by decide) (by decide)) rfl rfl rfl 35 rfl ?_
      refine DE_1 15 (by kernel_rfl) rfl rfl rfl (gsat_none rfl) (Y1_callS (s_impl_certificate hy14) cf_impl_certificate rfl (by kernel_rfl) rfl rfl) rfl rfl rfl 36 rfl ?_
      refine DE_0 16 (.c (.v (.string y14))) (by kernel_rfl) rfl rfl rfl (gsat_none rfl) (by kernel_rfl) (E_assign (.c (.v (.string y14))) rfl (by kernel_rfl)) 4 rfl ?_
      refine DE_0 17 (Bo true) (by kernel_rfl) rfl rfl rfl (gsat_none rfl) (by kernel_rfl) (E_assign (Bo true) rfl (by kernel_rfl)) 5 rfl ?_
      refine DL_nil (by kernel_rfl) ?_
      refine XL_nil ?_
      kernel_rfl
    refine V_ret ?_
    obtain rfl := some_inj h
    show Post _ _ _ _ _
    exact ⟨.inr rfl, rfl, rfl, rfl⟩
theorem cf_laws_FnExactValueCertificate : ∀ args w, (callFunc 7 args).run Tryd.prog w = .ok (.enter 7 args) w := run_callFunc Tryd.func7 (by kernel_rfl) (by kernel_rfl)
set_option maxRecDepth 100000 in
set_option maxHeartbeats 400000 in
theorem s_laws_FnExactValueCertificate {aF1 : (Int × Int × Int)} {aN2 : Int} {r : Bool} (h : r_laws_FnExactValueCertificate aF1 aN2 = some r) : CallS Tryd.prog 7 [.ag [Ti aF1.1, Ti aF1.2.1, Ti aF1.2.2], I aN2] (Bo r) [] := by
  refine CallS_of_text (rs := [.t 4]) (vs := [.tmp 4]) Tryd.func7 rfl rfl (.cons rfl FitsL.nil) (by decide) 31 rfl ?_
  unfold r_laws_FnExactValueCertificate at h
  show V _ _ ⟨[.ag [Ti aF1.1, Ti aF1.2.1, Ti aF1.2.2], I aN2, .bot, .bot, .bot, .bot, .bot, .bot, .bot, .bot, .bot, .bot, .bot, .bot, .bot, .bot, .bot, .bot, .bot, .bot, .bot, .bot, .bot, .bot, .bot, .bot, .bot, .bot, .bot, .bot, .bot], []⟩ _
  refine V_sreg [false, true, true, false, false, false, false, false, false, false, false, false, false, false, false, false, false, false, false, false, false, false, false, false, false, false, false, false, false, false, false] [16] (s1 := ⟨[.bot, I aN2, .pt 16 0, .bot, .bot, .bot, .bot, .bot, .bot, .bot, .bot, .bot, .bot, .bot, .bot, .bot, .bot, .bot, .bot, .bot, .bot, .bot, .bot, .bot, .bot, .bot, .bot, .bot, .bot, .bot, .bot], [(16, .box [Ti aF1.1, Ti aF1.2.1, Ti aF1.2.2])]⟩) ?_ ?_
  · refine XL_cons rfl (X_of_Y1 rfl (Y1_box (cs := [Ti aF1.1, Ti aF1.2.1, Ti aF1.2.2]) rfl (by kernel_rfl))) ?_
    refine XL_cons rfl (X_of_Y0 rfl (E_assign (Bo false) rfl (by kernel_rfl))) ?_
    refine XL_nil ?_
    kernel_rfl
  obtain ⟨y3, hy3, h⟩ := of_bind h
  obtain ⟨y4, hy4, h⟩ := of_bind h
  refine V_sreg [false, true, true, false, false, true, true, false, false, false, false, false, false, false, false, false, false, false, false, false, false, false, false, false, false, false, false, false, false, false, false] [16] (s1 := ⟨[.bot, I aN2, .pt 16 0, .bot, .bot, .c (.v (.string y4.1)), Bo y4.2, .bot, .bot, .bot, .bot, .bot, .bot, .bot, .bot, .bot, .bot, .bot, .bot, .bot, .bot, .bot, .bot, .bot, .bot, .bot, .bot, .bot, .bot, .bot, .bot], [(16, .box [Ti aF1.1, Ti aF1.2.1, Ti aF1.2.2])]⟩) ?_ ?_
  · refine XL_cons rfl (X_of_Y0 rfl (E_loadn (cs := [Ti aF1.1, Ti aF1.2.1, Ti aF1.2.2]) [Ti aF1.1, Ti aF1.2.1, Ti aF1.2.2] wd31 rfl (by kernel_rfl) (Nat.le_of_ble_eq_true rfl) (by kernel_rfl))) ?_
    refine XL_cons rfl (X_of_Y1 rfl (Y1_call (s_laws_toForm hy3) cf_laws_toForm rfl (by kernel_rfl))) ?_
    refine XL_cons rfl (X_of_Y0 rfl (E_move (I aN2) rfl (by kernel_rfl))) ?_
    refine XL_cons rfl (X_of_Y1 rfl (Y1_call (s_spec_ValueCertificate hy4) cf_spec_ValueCertificate rfl (by kernel_rfl))) ?_
    refine XL_cons rfl (X_of_Y0 rfl (E_move (.tc (.c (.v (.string y4.1))) (.tc (Bo y4.2) .tn)) rfl (by kernel_rfl))) ?_
    refine XL_cons rfl (X_of_Y0 rfl (E_ext (n := 0) (.c (.v (.string y4.1))) (.tc (Bo y4.2) .tn) (.c (.v (.string y4.1))) rfl (by kernel_rfl) (by kernel_rfl) (by intro hh; cases hh))) ?_
    refine XL_cons rfl (X_of_Y0 rfl (E_ext (n := 1) (.c (.v (.string y4.1))) (.tc (Bo y4.2) .tn) (Bo y4.2) rfl (by kernel_rfl) (by kernel_rfl) (by intro hh; cases hh))) ?_
    refine XL_cons rfl (X_of_Y0 rfl (E_assign (.c (.v (.string y4.1))) rfl (by kernel_rfl))) ?_
    refine XL_cons rfl (X_of_Y0 rfl (E_assign (Bo y4.2) rfl (by kernel_rfl))) ?_
    refine XL_nil ?_
    kernel_rfl
  obtain ⟨y5, hy5, h⟩ := of_bind h
  obtain ⟨y6, hy6, h⟩ := of_bind h
  refine V_sreg [false, false, false, false, false, true, true, true, true, false, false, false, false, false, false, false, false, false, false, false, false, false, false, false, false, false, false, false, false, false, false] [] (s1 := ⟨[.bot, .bot, .bot, .bot, .bot, .c (.v (.string y4.1)), Bo y4.2, .c (.v (.string y6.1)), Bo y6.2, .bot, .bot, .bot, .bot, .bot, .bot, .bot, .bot, .bot, .bot, .bot, .bot, .bot, .bot, .bot, .bot, .bot, .bot, .bot, .bot, .bot, .bot], []⟩) ?_ ?_
  · refine XL_cons rfl (X_of_Y0 rfl (E_loadn (cs := [Ti aF1.1, Ti aF1.2.1, Ti aF1.2.2]) [Ti aF1.1, Ti aF1.2.1, Ti aF1.2.2] wd31 rfl (by kernel_rfl) (Nat.le_of_ble_eq_true rfl) (by kernel_rfl))) ?_
    refine XL_cons rfl (X_of_Y1 rfl (Y1_call (s_laws_toForm hy5) cf_laws_toForm rfl (by kernel_rfl))) ?_
    refine XL_cons rfl (X_of_Y0 rfl (E_move (I aN2) rfl (by kernel_rfl))) ?_
    refine XL_cons rfl (X_of_Y1 rfl (Y1_call (s_impl_ValueCertificate hy6) cf_impl_ValueCertificate rfl (by kernel_rfl))) ?_
    refine XL_cons rfl (X_of_Y0 rfl (E_move (.tc (.c (.v (.string y6.1))) (.tc (Bo y6.2) .tn)) rfl (by kernel_rfl))) ?_
    refine XL_cons rfl (X_of_Y0 rfl (E_ext (n := 0) (.c (.v (.string y6.1))) (.tc (Bo y6.2) .tn) (.c (.v (.string y6.1))) rfl (by kernel_rfl) (by kernel_rfl) (by intro hh; cases hh))) ?_
    refine XL_cons rfl (X_of_Y0 rfl (E_ext (n := 1) (.c (.v (.string y6.1))) (.tc (Bo y6.2) .tn) (Bo y6.2) rfl (by kernel_rfl) (by kernel_rfl) (by intro hh; cases hh))) ?_
    refine XL_cons rfl (X_of_Y0 rfl (E_assign (.c (.v (.string y6.1))) rfl (by kernel_rfl))) ?_
    refine XL_cons rfl (X_of_Y0 rfl (E_assign (Bo y6.2) rfl (by kernel_rfl))) ?_
    refine XL_nil ?_
    kernel_rfl
  refine V_seq ?_
  obtain ⟨t8, ht8, h⟩ := of_bind h
  have ht8 := some_inj ht8
  refine V_sreg [false, false, false, false, false, false, false, false, false, false, false, false, false, false, false, false, false, false, false, false, false, false, false, false, false, false, false, false, false, false, true] [] (s1 := ⟨[.bot, .bot, .bot, .bot, .bot, .bot, .bot, .bot, .bot, .bot, .bot, .bot, .bot, .bot, .bot, .bot, .bot, .bot, .bot, .bot, .bot, .bot, .bot, .bot, .bot, .bot, .bot, .bot, .bot, .bot, Bo t8], []⟩) ?_ ?_
  · refine XL_cons rfl (X_of_Y0 rfl (E_move (.c (.v (.string y6.1))) rfl (by kernel_rfl))) ?_
    refine XL_cons rfl (X_of_Y0 rfl (E_move (.c (.v (.string y4.1))) rfl (by kernel_rfl))) ?_
    refine XL_cons rfl (X_of_Y0 rfl (Y0_nes (a := y6.1) (b := y4.1) rfl (by kernel_rfl) (by kernel_rfl))) ?_
    refine XL_cons rfl (X_of_Y0 rfl (E_move (Bo (!(y6.1.toList == y4.1.toList))) rfl (by kernel_rfl))) ?_
    refine XL_split (!(y6.1.toList == y4.1.toList)) (fun hc7 => ?_) (fun hc7 => ?_)
    · refine XL_skipF (!(y6.1.toList == y4.1.toList)) rfl rfl (by kernel_rfl) hc7 rfl ?_
      refine XL_skipF (!(y6.1.toList == y4.1.toList)) rfl rfl (by kernel_rfl) hc7 rfl ?_
      refine XL_skipF (!(y6.1.toList == y4.1.toList)) rfl rfl (by kernel_rfl) hc7 rfl ?_
      refine XL_cons rfl (X_of_Y0 rfl (Y0_pick1 (b := !(y6.1.toList == y4.1.toList)) (p := true) (q := y6.2 != y4.2) rfl (by kernel_rfl) hc7 (by kernel_rfl))) ?_
      refine XL_nil ?_
      subst ht8
      kernel_rfl
    · refine XL_takeC (!(y6.1.toList == y4.1.toList)) rfl rfl (by kernel_rfl) hc7 (X_of_Y0 rfl (E_move (Bo y6.2) rfl (by kernel_rfl))) ?_
      refine XL_takeC (!(y6.1.toList == y4.1.toList)) rfl rfl (by kernel_rfl) hc7 (X_of_Y0 rfl (E_move (Bo y4.2) rfl (by kernel_rfl))) ?_
      refine XL_takeC (!(y6.1.toList == y4.1.toList)) rfl rfl (by kernel_rfl) hc7 (X_of_Y0 rfl (Y0_neb (a := y6.2) (b := y4.2) Tryd.underlying4 rfl (by kernel_rfl) (by kernel_rfl))) ?_
      refine XL_cons rfl (X_of_Y0 rfl (Y0_pick0 (b := !(y6.1.toList == y4.1.toList)) (p := true) (q := y6.2 != y4.2) rfl (by kernel_rfl) hc7 (by kernel_rfl))) ?_
      refine XL_nil ?_
      subst ht8
      kernel_rfl
  refine V_cond rfl (fun hc9 => ?_) (fun hc9 => ?_)
  · have h := of_true h hc9
    refine V_sreg [false, false, false, false, true, false, false, false, false, false, false, false, false, false, false, false, false, false, false, false, false, false, false, false, false, false, false, false, false, false, false] [] (s1 := ⟨[.bot, .bot, .bot, .bot, Bo false, .bot, .bot, .bot, .bot, .bot, .bot, .bot, .bot, .bot, .bot, .bot, .bot, .bot, .bot, .bot, .bot, .bot, .bot, .bot, .bot, .bot, .bot, .bot, .bot, .bot, .bot], []⟩) ?_ ?_
    · refine XL_cons rfl (X_of_Y0 rfl (E_assign (Bo false) rfl (by kernel_rfl))) ?_
      refine XL_nil ?_
      kernel_rfl
    refine V_ret ?_
    obtain rfl := some_inj h
    show Post _ _ _ _ _
    exact ⟨.inr rfl, rfl, rfl, rfl⟩
  · have h := of_false h hc9
    refine V_skip ?_
    show V _ _ _ _
    refine V_sreg [false, false, false, false, true, false, false, false, false, false, false, false, false, false, false, false, false, false, false, false, false, false, false, false, false, false, false, false, false, false, false] [] (s1 := ⟨[.bot, .bot, .bot, .bot, Bo true, .bot, .bot, .bot, .bot, .bot, .bot, .bot, .bot, .bot, .bot, .bot, .bot, .bot, .bot, .bot, .bot, .bot, .bot, .bot, .bot, .bot, .bot, .bot, .bot, .bot, .bot], []⟩) ?_ ?_
    · refine XL_cons rfl (X_of_Y0 rfl (E_assign (Bo true) rfl (by kernel_rfl))) ?_
      refine XL_nil ?_
      kernel_rfl
    refine V_ret ?_
    obtain rfl := some_inj h
    show Post _ _ _ _ _
    exact ⟨.inr rfl, rfl, rfl, rfl⟩
end Go.Proofs.YtmpnloechnfkjaaDoor
