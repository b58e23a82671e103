/-
  The functions of the program compute what the plain functions say: more of them.
  Conditions: none.
-/
import Derived.Test.YtdffhgibkeifmaaKcSnd2
namespace Go.Proofs.Ytdffhgibkeifmaa
open Go.RowKit
set_option linter.unusedVariables false
set_option linter.unusedSimpArgs false
theorem cf_impl_inverse : ∀ args w, (callFunc 145 args).run Try.prog w = .ok (.enter 145 args) w := run_callFunc Try.func145 (by kernel_rfl) (by kernel_rfl)
set_option maxRecDepth 100000 in
set_option maxHeartbeats 400000 in
theorem s_impl_inverse {a1 : Int} {vm2 : Int} {r : Int} (h : r_impl_inverse a1 vm2 = some r) : CallS Try.prog 145 [I a1, I vm2] (I r) [] := by
  refine CallS_of_text (rs := [.t 4]) (vs := [.tmp 4]) Try.func145 rfl rfl (.cons rfl FitsL.nil) (by decide) 34 rfl ?_
  unfold r_impl_inverse at h
  show V _ _ ⟨[I a1, I vm2, .bot, .bot, .bot, .bot, .bot, .bot, .bot, .bot, .bot, .bot, .bot, .bot, .bot, .bot, .bot, .bot, .bot, .bot, .bot, .bot, .bot, .bot, .bot, .bot, .bot, .bot, .bot, .bot, .bot, .bot, .bot, .bot], []⟩ _
  refine V_sreg [true, true, false, false, false, false, false, false, false, false, false, false, false, false, false, false, false, false, false, false, false, false, false, false, false, false, false, false, false, false, false, false, false, false] [] (s1 := ⟨[I a1, I vm2, .bot, .bot, .bot, .bot, .bot, .bot, .bot, .bot, .bot, .bot, .bot, .bot, .bot, .bot, .bot, .bot, .bot, .bot, .bot, .bot, .bot, .bot, .bot, .bot, .bot, .bot, .bot, .bot, .bot, .bot, .bot, .bot], []⟩) ?_ ?_
  · refine XL_cons rfl (X_of_Y0 rfl (E_assign (I 0) rfl (by kernel_rfl))) ?_
    refine XL_nil ?_
    kernel_rfl
  refine V_sreg [true, true, false, false, false, true, true, false, false, false, false, false, false, false, false, false, false, false, false, false, false, false, false, false, false, false, false, false, false, false, false, false, false, false] [] (s1 := ⟨[I a1, I vm2, .bot, .bot, .bot, I 1, I 0, .bot, .bot, .bot, .bot, .bot, .bot, .bot, .bot, .bot, .bot, .bot, .bot, .bot, .bot, .bot, .bot, .bot, .bot, .bot, .bot, .bot, .bot, .bot, .bot, .bot, .bot, .bot], []⟩) ?_ ?_
  · refine XL_cons rfl (X_of_Y0 rfl (E_assign (I 1) rfl (by kernel_rfl))) ?_
    refine XL_cons rfl (X_of_Y0 rfl (E_assign (I 0) rfl (by kernel_rfl))) ?_
    refine XL_nil ?_
    kernel_rfl
  refine V_seq ?_
  obtain ⟨y3, hy3, h⟩ := of_bind h
  refine V_sreg [false, true, false, false, false, true, true, true, true, false, false, false, false, false, false, false, false, false, false, false, false, false, false, false, false, false, false, false, false, false, false, false, false, false] [] (s1 := ⟨[.bot, I vm2, .bot, .bot, .bot, I 1, I 0, I y3, I vm2, .bot, .bot, .bot, .bot, .bot, .bot, .bot, .bot, .bot, .bot, .bot, .bot, .bot, .bot, .bot, .bot, .bot, .bot, .bot, .bot, .bot, .bot, .bot, .bot, .bot], []⟩) ?_ ?_
  · refine XL_cons rfl (X_of_Y0 rfl (E_move (I a1) rfl (by kernel_rfl))) ?_
    refine XL_cons rfl (X_of_Y0 rfl (E_move (I vm2) rfl (by kernel_rfl))) ?_
    refine XL_cons rfl (X_of_Y1 rfl (Y1_call (s_impl_mod hy3) cf_impl_mod rfl (by kernel_rfl))) ?_
    refine XL_cons rfl (X_of_Y0 rfl (E_move (I vm2) rfl (by kernel_rfl))) ?_
    refine XL_cons rfl (X_of_Y0 rfl (E_assign (I y3) rfl (by kernel_rfl))) ?_
    refine XL_cons rfl (X_of_Y0 rfl (E_assign (I vm2) rfl (by kernel_rfl))) ?_
    refine XL_nil ?_
    kernel_rfl
  obtain ⟨o9, hLo9, h⟩ := of_bind h
  refine V_toK [false, true, false, false, false, true, false, false, false, false, false, false, false, false, false, false, false, false, false, false, false, false, false, false, false, false, false, false, false, false, false, false, false, false] [] (s1 := ⟨[.bot, I vm2, .bot, .bot, .bot, I o9, .bot, .bot, .bot, .bot, .bot, .bot, .bot, .bot, .bot, .bot, .bot, .bot, .bot, .bot, .bot, .bot, .bot, .bot, .bot, .bot, .bot, .bot, .bot, .bot, .bot, .bot, .bot, .bot], []⟩) ?_ ?_
  · clear h
    refine V_block (V_loop (fun n s => ∃ (x4 : Int) (y5 : Int) (vr6 : Int) (vs7 : Int), s.keep [false, true, false, false, false, true, true, true, true, false, false, false, false, false, false, false, false, false, false, false, false, false, false, false, false, false, false, false, false, false, false, false, false, false] [] = (⟨[.bot, I vm2, .bot, .bot, .bot, I x4, I y5, I vr6, I vs7, .bot, .bot, .bot, .bot, .bot, .bot, .bot, .bot, .bot, .bot, .bot, .bot, .bot, .bot, .bot, .bot, .bot, .bot, .bot, .bot, .bot, .bot, .bot, .bot, .bot], []⟩ : St) ∧ r_impl_inverse_L8 vm2 n x4 y5 vr6 vs7 = some o9) FU ⟨_, _, _, _,  by rfl, hLo9⟩ ?_)
    clear hLo9
    rintro n s ⟨x4, y5, vr6, vs7, hs, h⟩
    refine V_keep _ _ hs ?_
    clear hs
    cases n with
    | zero => cases h
    | succ n =>
      rw [r_impl_inverse_L8] at h
      refine V_seq ?_
      refine V_sreg [false, true, false, false, false, true, true, true, true, false, false, false, false, false, false, true, false, false, false, false, false, false, false, false, false, false, false, false, false, false, false, false, false, false] [] (s1 := ⟨[.bot, I vm2, .bot, .bot, .bot, I x4, I y5, I vr6, I vs7, .bot, .bot, .bot, .bot, .bot, .bot, Bo (!eqI vs7 0), .bot, .bot, .bot, .bot, .bot, .bot, .bot, .bot, .bot, .bot, .bot, .bot, .bot, .bot, .bot, .bot, .bot, .bot], []⟩) ?_ ?_
      · refine XL_cons rfl (X_of_Y0 rfl (E_move (I vs7) rfl (by kernel_rfl))) ?_
        refine XL_cons rfl (X_of_Y0 rfl (Y0_new (k := .i64) (a := vs7) (b := 0) rfl (by kernel_rfl) (by kernel_rfl))) ?_
        refine XL_nil ?_
        kernel_rfl
      refine V_cond rfl (fun hc10 => ?_) (fun hc10 => ?_)
      · have h := of_true h hc10
        refine V_skip ?_
        show V _ _ _ _
        refine V_block ?_
        obtain ⟨z11, hz11, h⟩ := of_bind h
        obtain ⟨q12, hq12, h⟩ := of_sI h
        refine V_sreg [false, true, false, false, false, true, true, true, true, true, false, false, false, false, false, false, false, false, false, false, false, false, false, false, false, false, false, false, false, false, false, false, false, false] [] (s1 := ⟨[.bot, I vm2, .bot, .bot, .bot, I x4, I y5, I vr6, I vs7, I q12, .bot, .bot, .bot, .bot, .bot, .bot, .bot, .bot, .bot, .bot, .bot, .bot, .bot, .bot, .bot, .bot, .bot, .bot, .bot, .bot, .bot, .bot, .bot, .bot], []⟩) ?_ ?_
        · refine XL_cons rfl (X_of_Y0 rfl (E_move (I vr6) rfl (by kernel_rfl))) ?_
          refine XL_cons rfl (X_of_Y0 rfl (E_move (I vs7) rfl (by kernel_rfl))) ?_
          refine XL_cons rfl (X_of_Y0 rfl (Y0_quo64 (a := vr6) (b := vs7) rfl (by kernel_rfl) (by kernel_rfl) (nz_some hz11))) ?_
          refine XL_cons rfl (X_of_Y0 rfl (E_assign (I (w64 (Int.tdiv vr6 vs7))) rfl (by kernel_rfl))) ?_
          refine XL_nil ?_
          subst hq12
          kernel_rfl
        obtain ⟨vs13, hvs13, h⟩ := of_sI h
        refine V_sreg [false, true, false, false, false, true, true, true, true, true, false, false, false, false, false, false, false, false, false, false, false, false, false, false, false, false, false, false, false, false, false, false, false, false] [] (s1 := ⟨[.bot, I vm2, .bot, .bot, .bot, I x4, I y5, I vs7, I vs13, I q12, .bot, .bot, .bot, .bot, .bot, .bot, .bot, .bot, .bot, .bot, .bot, .bot, .bot, .bot, .bot, .bot, .bot, .bot, .bot, .bot, .bot, .bot, .bot, .bot], []⟩) ?_ ?_
        · refine XL_cons rfl (X_of_Y0 rfl (E_move (I vs7) rfl (by kernel_rfl))) ?_
          refine XL_cons rfl (X_of_Y0 rfl (E_move (I vr6) rfl (by kernel_rfl))) ?_
          refine XL_cons rfl (X_of_Y0 rfl (E_move (I q12) rfl (by kernel_rfl))) ?_
          refine XL_cons rfl (X_of_Y0 rfl (E_move (I vs7) rfl (by kernel_rfl))) ?_
          refine XL_cons rfl (X_of_Y0 rfl (Y0_mul64 (a := q12) (b := vs7) rfl (by kernel_rfl) (by kernel_rfl))) ?_
          refine XL_cons rfl (X_of_Y0 rfl (Y0_sub64 (a := vr6) (b := w64 (q12 * vs7)) rfl (by kernel_rfl) (by kernel_rfl))) ?_
          refine XL_cons rfl (X_of_Y0 rfl (E_assign (I vs7) rfl (by kernel_rfl))) ?_
          refine XL_cons rfl (X_of_Y0 rfl (E_assign (I (w64 (vr6 - (w64 (q12 * vs7))))) rfl (by kernel_rfl))) ?_
          refine XL_nil ?_
          subst hvs13
          kernel_rfl
        obtain ⟨y14, hy14, h⟩ := of_sI h
        refine V_reg [false, true, false, false, false, true, true, true, true, false, false, false, false, false, false, false, false, false, false, false, false, false, false, false, false, false, false, false, false, false, false, false, false, false] [] (s1 := ⟨[.bot, I vm2, .bot, .bot, .bot, I y5, I y14, I vs7, I vs13, .bot, .bot, .bot, .bot, .bot, .bot, .bot, .bot, .bot, .bot, .bot, .bot, .bot, .bot, .bot, .bot, .bot, .bot, .bot, .bot, .bot, .bot, .bot, .bot, .bot], []⟩) ?_ ?_
        · refine XL_cons rfl (X_of_Y0 rfl (E_move (I y5) rfl (by kernel_rfl))) ?_
          refine XL_cons rfl (X_of_Y0 rfl (E_move (I x4) rfl (by kernel_rfl))) ?_
          refine XL_cons rfl (X_of_Y0 rfl (E_move (I q12) rfl (by kernel_rfl))) ?_
          refine XL_cons rfl (X_of_Y0 rfl (E_move (I y5) rfl (by kernel_rfl))) ?_
          refine XL_cons rfl (X_of_Y0 rfl (Y0_mul64 (a := q12) (b := y5) rfl (by kernel_rfl) (by kernel_rfl))) ?_
          refine XL_cons rfl (X_of_Y0 rfl (Y0_sub64 (a := x4) (b := w64 (q12 * y5)) rfl (by kernel_rfl) (by kernel_rfl))) ?_
          refine XL_cons rfl (X_of_Y0 rfl (E_assign (I y5) rfl (by kernel_rfl))) ?_
          refine XL_cons rfl (X_of_Y0 rfl (E_assign (I (w64 (x4 - (w64 (q12 * y5))))) rfl (by kernel_rfl))) ?_
          refine XL_nil ?_
          subst hy14
          kernel_rfl
        exact ⟨n, Nat.lt_succ_self n, _, _, _, _,  by rfl, h⟩
      · have h := of_false h hc10
        refine V_exit ?_
        obtain rfl := some_inj h
        show St.keep _ _ _ = _
        rfl
  show V _ _ _ _
  obtain ⟨y15, hy15, h⟩ := of_bind h
  refine V_sreg [false, false, false, false, true, false, false, false, false, false, false, false, false, false, false, false, false, false, false, false, false, false, false, false, false, false, false, false, false, false, false, false, false, false] [] (s1 := ⟨[.bot, .bot, .bot, .bot, I y15, .bot, .bot, .bot, .bot, .bot, .bot, .bot, .bot, .bot, .bot, .bot, .bot, .bot, .bot, .bot, .bot, .bot, .bot, .bot, .bot, .bot, .bot, .bot, .bot, .bot, .bot, .bot, .bot, .bot], []⟩) ?_ ?_
  · refine XL_cons rfl (X_of_Y0 rfl (E_move (I o9) rfl (by kernel_rfl))) ?_
    refine XL_cons rfl (X_of_Y0 rfl (E_move (I vm2) rfl (by kernel_rfl))) ?_
    refine XL_cons rfl (X_of_Y1 rfl (Y1_call (s_impl_mod hy15) cf_impl_mod rfl (by kernel_rfl))) ?_
    refine XL_cons rfl (X_of_Y0 rfl (E_assign (I y15) rfl (by kernel_rfl))) ?_
    refine XL_nil ?_
    kernel_rfl
  refine V_ret ?_
  obtain rfl := some_inj h
  show Post _ _ _ _ _
  exact ⟨.inr rfl, rfl, rfl, rfl⟩
theorem cf_impl_Form_complete : ∀ args w, (callFunc 128 args).run Try.prog w = .ok (.enter 128 args) w := run_callFunc Try.func128 (by kernel_rfl) (by kernel_rfl)
set_option maxRecDepth 100000 in
set_option maxHeartbeats 400000 in
theorem s_impl_Form_complete {f1 : (Int × Int × Int)} {x2 : Int} {y3 : Int} {r : (((Int × Int × Int)) × ((Int × Int × Int × Int)))} (h : r_impl_Form_complete f1 x2 y3 = some r) : CallS Try.prog 128 [.ag [Ti f1.1, Ti f1.2.1, Ti f1.2.2], I x2, I y3] (.tc (.ag [Ti r.1.1, Ti r.1.2.1, Ti r.1.2.2]) (.tc (.ag [Ti r.2.1, Ti r.2.2.1, Ti r.2.2.2.1, Ti r.2.2.2.2]) .tn)) [] := by
  refine CallS_of_text (rs := [.w 6 3, .w 7 4]) (vs := [.cell 6 36, .cell 7 38]) Try.func128 rfl rfl (.cons ⟨rfl, wd36⟩ (.cons ⟨rfl, wd38⟩ FitsL.nil)) (by decide) 59 rfl ?_
  unfold r_impl_Form_complete at h
  show V _ _ ⟨[.ag [Ti f1.1, Ti f1.2.1, Ti f1.2.2], I x2, I y3, .bot, .bot, .bot, .bot, .bot, .bot, .bot, .bot, .bot, .bot, .bot, .bot, .bot, .bot, .bot, .bot, .bot, .bot, .bot, .bot, .bot, .bot, .bot, .bot, .bot, .bot, .bot, .bot, .bot, .bot, .bot, .bot, .bot, .bot, .bot, .bot, .bot, .bot, .bot, .bot, .bot, .bot, .bot, .bot, .bot, .bot, .bot, .bot, .bot, .bot, .bot, .bot, .bot, .bot, .bot, .bot], []⟩ _
  refine V_sreg [false, true, true, true, false, false, true, true, false, false, false, false, false, false, false, false, false, false, false, false, false, false, false, false, false, false, false, false, false, false, false, false, false, false, false, false, false, false, false, false, false, false, false, false, false, false, false, false, false, false, false, false, false, false, false, false, false, false, false] [56, 48, 24] (s1 := ⟨[.bot, I x2, I y3, .pt 24 0, .bot, .bot, .pt 48 0, .pt 56 0, .bot, .bot, .bot, .bot, .bot, .bot, .bot, .bot, .bot, .bot, .bot, .bot, .bot, .bot, .bot, .bot, .bot, .bot, .bot, .bot, .bot, .bot, .bot, .bot, .bot, .bot, .bot, .bot, .bot, .bot, .bot, .bot, .bot, .bot, .bot, .bot, .bot, .bot, .bot, .bot, .bot, .bot, .bot, .bot, .bot, .bot, .bot, .bot, .bot, .bot, .bot], [(56, .box [Ti 0, Ti 0, Ti 0, Ti 0]), (48, .box [Ti 0, Ti 0, Ti 0]), (24, .box [Ti f1.1, Ti f1.2.1, Ti f1.2.2])]⟩) ?_ ?_
  · refine XL_cons rfl (X_of_Y1 rfl (Y1_box (cs := [Ti f1.1, Ti f1.2.1, Ti f1.2.2]) rfl (by kernel_rfl))) ?_
    refine XL_cons rfl (X_of_Y1 rfl (Y1_alloc (z := zv36) rfl zf36 rfl)) ?_
    refine XL_cons rfl (X_of_Y1 rfl (Y1_alloc (z := zv38) rfl zf38 rfl)) ?_
    refine XL_nil ?_
    kernel_rfl
  refine V_sreg [false, true, true, true, false, false, true, true, true, false, false, false, false, false, false, false, false, false, false, false, false, false, false, false, false, false, false, false, false, false, false, false, false, false, false, false, false, false, false, false, false, false, false, false, false, false, false, false, false, false, false, false, false, false, false, false, false, false, false] [64, 56, 48, 24] (s1 := ⟨[.bot, I x2, I y3, .pt 24 0, .bot, .bot, .pt 48 0, .pt 56 0, .pt 64 0, .bot, .bot, .bot, .bot, .bot, .bot, .bot, .bot, .bot, .bot, .bot, .bot, .bot, .bot, .bot, .bot, .bot, .bot, .bot, .bot, .bot, .bot, .bot, .bot, .bot, .bot, .bot, .bot, .bot, .bot, .bot, .bot, .bot, .bot, .bot, .bot, .bot, .bot, .bot, .bot, .bot, .bot, .bot, .bot, .bot, .bot, .bot, .bot, .bot, .bot], [(64, .box [Ti x2, Ti 0, Ti y3, Ti 0]), (56, .box [Ti 0, Ti 0, Ti 0, Ti 0]), (48, .box [Ti 0, Ti 0, Ti 0]), (24, .box [Ti f1.1, Ti f1.2.1, Ti f1.2.2])]⟩) ?_ ?_
  · refine XL_cons rfl (X_of_Y0 rfl (E_move (I x2) rfl (by kernel_rfl))) ?_
    refine XL_cons rfl (X_of_Y0 rfl (E_move (I y3) rfl (by kernel_rfl))) ?_
    refine XL_cons rfl (X_of_Y0 rfl (Y0_build (cs := [Ti x2, Ti 0, Ti y3, Ti 0]) pl38 bt38 rfl rfl (by kernel_rfl))) ?_
    refine XL_cons rfl (X_of_Y1 rfl (Y1_alloc (z := zv38) rfl zf38 rfl)) ?_
    refine XL_cons rfl (E_store (id := 64) (off := 0) (cs := [Ti 0, Ti 0, Ti 0, Ti 0]) (vc := [Ti x2, Ti 0, Ti y3, Ti 0]) [Ti x2, Ti 0, Ti y3, Ti 0] rfl rfl (by kernel_rfl) (by kernel_rfl) (by kernel_rfl) sz38 (Nat.le_of_ble_eq_true rfl) (by kernel_rfl)) ?_
    refine XL_nil ?_
    kernel_rfl
  obtain ⟨j4, hj4, h⟩ := of_bind h
  refine V_cutK [false, true, true, true, false, false, true, true, true, false, false, false, false, false, false, false, false, false, false, false, false, false, false, false, false, false, false, false, false, false, false, false, false, false, false, false, false, false, false, false, false, false, false, false, false, false, false, false, false, false, false, false, false, false, false, false, false, false, false] [64, 56, 48, 24] (s1 := ⟨[.bot, I x2, I y3, .pt 24 0, .bot, .bot, .pt 48 0, .pt 56 0, .pt 64 0, .bot, .bot, .bot, .bot, .bot, .bot, .bot, .bot, .bot, .bot, .bot, .bot, .bot, .bot, .bot, .bot, .bot, .bot, .bot, .bot, .bot, .bot, .bot, .bot, .bot, .bot, .bot, .bot, .bot, .bot, .bot, .bot, .bot, .bot, .bot, .bot, .bot, .bot, .bot, .bot, .bot, .bot, .bot, .bot, .bot, .bot, .bot, .bot, .bot, .bot], [(64, .box [Ti x2, Ti j4.1, Ti y3, Ti j4.2]), (56, .box [Ti 0, Ti 0, Ti 0, Ti 0]), (48, .box [Ti 0, Ti 0, Ti 0]), (24, .box [Ti f1.1, Ti f1.2.1, Ti f1.2.2])]⟩) ?_ ?_
  · clear h
    have h := hj4
    clear hj4
    refine V_sreg [false, true, true, true, false, false, true, true, true, false, false, false, false, false, false, true, false, false, false, false, false, false, false, false, false, false, false, false, false, false, false, false, false, false, false, false, false, false, false, false, false, false, false, false, false, false, false, false, false, false, false, false, false, false, false, false, false, false, false] [64, 56, 48, 24] (s1 := ⟨[.bot, I x2, I y3, .pt 24 0, .bot, .bot, .pt 48 0, .pt 56 0, .pt 64 0, .bot, .bot, .bot, .bot, .bot, .bot, Bo (eqI y3 0), .bot, .bot, .bot, .bot, .bot, .bot, .bot, .bot, .bot, .bot, .bot, .bot, .bot, .bot, .bot, .bot, .bot, .bot, .bot, .bot, .bot, .bot, .bot, .bot, .bot, .bot, .bot, .bot, .bot, .bot, .bot, .bot, .bot, .bot, .bot, .bot, .bot, .bot, .bot, .bot, .bot, .bot, .bot], [(64, .box [Ti x2, Ti 0, Ti y3, Ti 0]), (56, .box [Ti 0, Ti 0, Ti 0, Ti 0]), (48, .box [Ti 0, Ti 0, Ti 0]), (24, .box [Ti f1.1, Ti f1.2.1, Ti f1.2.2])]⟩) ?_ ?_
    · refine XL_cons rfl (X_of_Y0 rfl (E_move (I y3) rfl (by kernel_rfl))) ?_
      refine XL_cons rfl (X_of_Y0 rfl (Y0_eqw (k := .i64) (a := y3) (b := 0) rfl (by kernel_rfl) (by kernel_rfl))) ?_
      refine XL_nil ?_
      kernel_rfl
    refine V_cond rfl (fun hc5 => ?_) (fun hc5 => ?_)
    · have h := of_true h hc5
      refine V_reg [false, true, true, true, false, false, true, true, true, false, false, false, false, false, false, false, false, false, false, false, false, false, false, false, false, false, false, false, false, false, false, false, false, false, false, false, false, false, false, false, false, false, false, false, false, false, false, false, false, false, false, false, false, false, false, false, false, false, false] [64, 56, 48, 24] (s1 := ⟨[.bot, I x2, I y3, .pt 24 0, .bot, .bot, .pt 48 0, .pt 56 0, .pt 64 0, .bot, .bot, .bot, .bot, .bot, .bot, .bot, .bot, .bot, .bot, .bot, .bot, .bot, .bot, .bot, .bot, .bot, .bot, .bot, .bot, .bot, .bot, .bot, .bot, .bot, .bot, .bot, .bot, .bot, .bot, .bot, .bot, .bot, .bot, .bot, .bot, .bot, .bot, .bot, .bot, .bot, .bot, .bot, .bot, .bot, .bot, .bot, .bot, .bot, .bot], [(64, .box [Ti x2, Ti 0, Ti y3, Ti x2]), (56, .box [Ti 0, Ti 0, Ti 0, Ti 0]), (48, .box [Ti 0, Ti 0, Ti 0]), (24, .box [Ti f1.1, Ti f1.2.1, Ti f1.2.2])]⟩) ?_ ?_
      · refine XL_cons rfl (X_of_Y0 rfl (E_move (I x2) rfl (by kernel_rfl))) ?_
        refine XL_cons rfl (X_of_Y0 rfl (E_field (.pt 64 3) Try.underlying38 rfl sz3 rfl (by kernel_rfl) (by intro hh; cases hh))) ?_
        refine XL_cons rfl (E_store (id := 64) (off := 3) (cs := [Ti x2, Ti 0, Ti y3, Ti 0]) (vc := [Ti x2]) [Ti x2, Ti 0, Ti y3, Ti x2] rfl rfl (by kernel_rfl) (by kernel_rfl) (by kernel_rfl) sz3 (Nat.le_of_ble_eq_true rfl) (by kernel_rfl)) ?_
        refine XL_nil ?_
        kernel_rfl
      obtain rfl := some_inj h
      show St.keep _ _ _ = _
      rfl
    · have h := of_false h hc5
      obtain ⟨y6, hy6, h⟩ := of_bind h
      obtain ⟨y7, hy7, h⟩ := of_bind h
      refine V_sreg [false, true, true, true, false, false, true, true, true, false, false, false, false, false, false, false, false, false, false, false, false, false, false, false, false, false, false, false, false, false, false, false, false, false, false, false, false, false, false, false, false, false, false, false, false, false, false, false, false, false, false, false, false, false, false, false, false, false, false] [64, 56, 48, 24] (s1 := ⟨[.bot, I x2, I y3, .pt 24 0, .bot, .bot, .pt 48 0, .pt 56 0, .pt 64 0, .bot, .bot, .bot, .bot, .bot, .bot, .bot, .bot, .bot, .bot, .bot, .bot, .bot, .bot, .bot, .bot, .bot, .bot, .bot, .bot, .bot, .bot, .bot, .bot, .bot, .bot, .bot, .bot, .bot, .bot, .bot, .bot, .bot, .bot, .bot, .bot, .bot, .bot, .bot, .bot, .bot, .bot, .bot, .bot, .bot, .bot, .bot, .bot, .bot, .bot], [(64, .box [Ti x2, Ti 0, Ti y3, Ti y7]), (56, .box [Ti 0, Ti 0, Ti 0, Ti 0]), (48, .box [Ti 0, Ti 0, Ti 0]), (24, .box [Ti f1.1, Ti f1.2.1, Ti f1.2.2])]⟩) ?_ ?_
      · refine XL_cons rfl (X_of_Y0 rfl (E_move (I x2) rfl (by kernel_rfl))) ?_
        refine XL_cons rfl (X_of_Y0 rfl (E_move (I y3) rfl (by kernel_rfl))) ?_
        refine XL_cons rfl (X_of_Y1 rfl (Y1_call (s_impl_abs hy6) cf_impl_abs rfl (by kernel_rfl))) ?_
        refine XL_cons rfl (X_of_Y1 rfl (Y1_call (s_impl_inverse hy7) cf_impl_inverse rfl (by kernel_rfl))) ?_
        refine XL_cons rfl (X_of_Y0 rfl (E_field (.pt 64 3) Try.underlying38 rfl sz3 rfl (by kernel_rfl) (by intro hh; cases hh))) ?_
        refine XL_cons rfl (E_store (id := 64) (off := 3) (cs := [Ti x2, Ti 0, Ti y3, Ti 0]) (vc := [Ti y7]) [Ti x2, Ti 0, Ti y3, Ti y7] rfl rfl (by kernel_rfl) (by kernel_rfl) (by kernel_rfl) sz3 (Nat.le_of_ble_eq_true rfl) (by kernel_rfl)) ?_
        refine XL_nil ?_
        kernel_rfl
      obtain ⟨z8, hz8, h⟩ := of_bind h
      obtain ⟨f9, hf9, h⟩ := of_sI h
      refine V_reg [false, true, true, true, false, false, true, true, true, false, false, false, false, false, false, false, false, false, false, false, false, false, false, false, false, false, false, false, false, false, false, false, false, false, false, false, false, false, false, false, false, false, false, false, false, false, false, false, false, false, false, false, false, false, false, false, false, false, false] [64, 56, 48, 24] (s1 := ⟨[.bot, I x2, I y3, .pt 24 0, .bot, .bot, .pt 48 0, .pt 56 0, .pt 64 0, .bot, .bot, .bot, .bot, .bot, .bot, .bot, .bot, .bot, .bot, .bot, .bot, .bot, .bot, .bot, .bot, .bot, .bot, .bot, .bot, .bot, .bot, .bot, .bot, .bot, .bot, .bot, .bot, .bot, .bot, .bot, .bot, .bot, .bot, .bot, .bot, .bot, .bot, .bot, .bot, .bot, .bot, .bot, .bot, .bot, .bot, .bot, .bot, .bot, .bot], [(64, .box [Ti x2, Ti f9, Ti y3, Ti y7]), (56, .box [Ti 0, Ti 0, Ti 0, Ti 0]), (48, .box [Ti 0, Ti 0, Ti 0]), (24, .box [Ti f1.1, Ti f1.2.1, Ti f1.2.2])]⟩) ?_ ?_
      · refine XL_cons rfl (X_of_Y0 rfl (E_move (I x2) rfl (by kernel_rfl))) ?_
        refine XL_cons rfl (X_of_Y0 rfl (E_field (.pt 64 3) Try.underlying38 rfl sz3 rfl (by kernel_rfl) (by intro hh; cases hh))) ?_
        refine XL_cons rfl (X_of_Y0 rfl (Y0_load1 (c := Ti y7) (cs := []) sc3 rfl (by kernel_rfl))) ?_
        refine XL_cons rfl (X_of_Y0 rfl (Y0_mul64 (a := x2) (b := y7) rfl (by kernel_rfl) (by kernel_rfl))) ?_
        refine XL_cons rfl (X_of_Y0 rfl (Y0_sub64 (a := w64 (x2 * y7)) (b := 1) rfl (by kernel_rfl) (by kernel_rfl))) ?_
        refine XL_cons rfl (X_of_Y0 rfl (E_move (I y3) rfl (by kernel_rfl))) ?_
        refine XL_cons rfl (X_of_Y0 rfl (Y0_quo64 (a := w64 ((w64 (x2 * y7)) - 1)) (b := y3) rfl (by kernel_rfl) (by kernel_rfl) (nz_some hz8))) ?_
        refine XL_cons rfl (X_of_Y0 rfl (E_field (.pt 64 1) Try.underlying38 rfl sz3 rfl (by kernel_rfl) (by intro hh; cases hh))) ?_
        refine XL_cons rfl (E_store (id := 64) (off := 1) (cs := [Ti x2, Ti 0, Ti y3, Ti y7]) (vc := [Ti (w64 (Int.tdiv (w64 ((w64 (x2 * y7)) - 1)) y3))]) [Ti x2, Ti (w64 (Int.tdiv (w64 ((w64 (x2 * y7)) - 1)) y3)), Ti y3, Ti y7] rfl rfl (by kernel_rfl) (by kernel_rfl) (by kernel_rfl) sz3 (Nat.le_of_ble_eq_true rfl) (by kernel_rfl)) ?_
        refine XL_nil ?_
        subst hf9
        kernel_rfl
      obtain rfl := some_inj h
      show St.keep _ _ _ = _
      rfl
  obtain ⟨y10, hy10, h⟩ := of_bind h
  refine V_sreg [false, true, true, true, false, false, true, true, true, true, false, false, false, false, false, false, false, false, false, false, false, false, false, false, false, false, false, false, false, false, false, false, false, false, false, false, false, false, false, false, false, false, false, false, false, false, false, false, false, false, false, false, false, false, false, false, false, false, false] [72, 64, 56, 48, 24] (s1 := ⟨[.bot, I x2, I y3, .pt 24 0, .bot, .bot, .pt 48 0, .pt 56 0, .pt 64 0, .pt 72 0, .bot, .bot, .bot, .bot, .bot, .bot, .bot, .bot, .bot, .bot, .bot, .bot, .bot, .bot, .bot, .bot, .bot, .bot, .bot, .bot, .bot, .bot, .bot, .bot, .bot, .bot, .bot, .bot, .bot, .bot, .bot, .bot, .bot, .bot, .bot, .bot, .bot, .bot, .bot, .bot, .bot, .bot, .bot, .bot, .bot, .bot, .bot, .bot, .bot], [(72, .box [Ti y10.1, Ti y10.2.1, Ti y10.2.2]), (64, .box [Ti x2, Ti j4.1, Ti y3, Ti j4.2]), (56, .box [Ti 0, Ti 0, Ti 0, Ti 0]), (48, .box [Ti 0, Ti 0, Ti 0]), (24, .box [Ti f1.1, Ti f1.2.1, Ti f1.2.2])]⟩) ?_ ?_
  · refine XL_cons rfl (X_of_Y0 rfl (E_loadn (cs := [Ti f1.1, Ti f1.2.1, Ti f1.2.2]) [Ti f1.1, Ti f1.2.1, Ti f1.2.2] wd36 rfl (by kernel_rfl) (Nat.le_of_ble_eq_true rfl) (by kernel_rfl))) ?_
    refine XL_cons rfl (X_of_Y0 rfl (E_loadn (cs := [Ti x2, Ti j4.1, Ti y3, Ti j4.2]) [Ti x2, Ti j4.1, Ti y3, Ti j4.2] wd38 rfl (by kernel_rfl) (Nat.le_of_ble_eq_true rfl) (by kernel_rfl))) ?_
    refine XL_cons rfl (X_of_Y1 rfl (Y1_call (s_impl_Form_substitute hy10) cf_impl_Form_substitute rfl (by kernel_rfl))) ?_
    refine XL_cons rfl (X_of_Y1 rfl (Y1_alloc (z := zv36) rfl zf36 rfl)) ?_
    refine XL_cons rfl (E_store (id := 72) (off := 0) (cs := [Ti 0, Ti 0, Ti 0]) (vc := [Ti y10.1, Ti y10.2.1, Ti y10.2.2]) [Ti y10.1, Ti y10.2.1, Ti y10.2.2] rfl rfl (by kernel_rfl) (by kernel_rfl) (by kernel_rfl) sz36 (Nat.le_of_ble_eq_true rfl) (by kernel_rfl)) ?_
    refine XL_nil ?_
    kernel_rfl
  obtain ⟨y11, hy11, h⟩ := of_bind h
  obtain ⟨t12, ht12, h⟩ := of_sI h
  refine V_sreg [false, true, true, true, false, false, true, true, true, false, true, false, false, false, false, false, false, false, false, false, false, false, false, false, false, false, false, false, false, false, false, false, false, false, false, false, false, false, false, false, false, false, false, false, false, false, false, false, false, false, false, false, false, false, false, false, false, false, false] [64, 56, 48, 24] (s1 := ⟨[.bot, I x2, I y3, .pt 24 0, .bot, .bot, .pt 48 0, .pt 56 0, .pt 64 0, .bot, I t12, .bot, .bot, .bot, .bot, .bot, .bot, .bot, .bot, .bot, .bot, .bot, .bot, .bot, .bot, .bot, .bot, .bot, .bot, .bot, .bot, .bot, .bot, .bot, .bot, .bot, .bot, .bot, .bot, .bot, .bot, .bot, .bot, .bot, .bot, .bot, .bot, .bot, .bot, .bot, .bot, .bot, .bot, .bot, .bot, .bot, .bot, .bot, .bot], [(64, .box [Ti x2, Ti j4.1, Ti y3, Ti j4.2]), (56, .box [Ti 0, Ti 0, Ti 0, Ti 0]), (48, .box [Ti 0, Ti 0, Ti 0]), (24, .box [Ti f1.1, Ti f1.2.1, Ti f1.2.2])]⟩) ?_ ?_
  · refine XL_cons rfl (X_of_Y0 rfl (E_field (.pt 72 1) Try.underlying36 rfl sz3 rfl (by kernel_rfl) (by intro hh; cases hh))) ?_
    refine XL_cons rfl (X_of_Y0 rfl (Y0_load1 (c := Ti y10.2.1) (cs := [Ti y10.2.2]) sc3 rfl (by kernel_rfl))) ?_
    refine XL_cons rfl (X_of_Y0 rfl (E_field (.pt 72 0) Try.underlying36 rfl sz3 rfl (by kernel_rfl) (by intro hh; cases hh))) ?_
    refine XL_cons rfl (X_of_Y0 rfl (Y0_load1 (c := Ti y10.1) (cs := [Ti y10.2.1, Ti y10.2.2]) sc3 rfl (by kernel_rfl))) ?_
    refine XL_cons rfl (X_of_Y0 rfl (Y0_mul64 (a := 2) (b := y10.1) rfl (by kernel_rfl) (by kernel_rfl))) ?_
    refine XL_cons rfl (X_of_Y1 rfl (Y1_call (s_impl_floorDiv hy11) cf_impl_floorDiv rfl (by kernel_rfl))) ?_
    refine XL_cons rfl (X_of_Y0 rfl (Y0_neg64 (a := y11) rfl (by kernel_rfl))) ?_
    refine XL_cons rfl (X_of_Y0 rfl (E_assign (I (w64 (0 - y11))) rfl (by kernel_rfl))) ?_
    refine XL_nil ?_
    subst ht12
    kernel_rfl
  obtain ⟨f13, hf13, h⟩ := of_sI h
  refine V_sreg [false, false, true, true, false, false, true, true, true, false, true, false, false, false, false, false, false, false, false, false, false, false, false, false, false, false, false, false, false, false, false, false, false, false, false, false, false, false, false, false, false, false, false, false, false, false, false, false, false, false, false, false, false, false, false, false, false, false, false] [64, 56, 48, 24] (s1 := ⟨[.bot, .bot, I y3, .pt 24 0, .bot, .bot, .pt 48 0, .pt 56 0, .pt 64 0, .bot, I t12, .bot, .bot, .bot, .bot, .bot, .bot, .bot, .bot, .bot, .bot, .bot, .bot, .bot, .bot, .bot, .bot, .bot, .bot, .bot, .bot, .bot, .bot, .bot, .bot, .bot, .bot, .bot, .bot, .bot, .bot, .bot, .bot, .bot, .bot, .bot, .bot, .bot, .bot, .bot, .bot, .bot, .bot, .bot, .bot, .bot, .bot, .bot, .bot], [(64, .box [Ti x2, Ti f13, Ti y3, Ti j4.2]), (56, .box [Ti 0, Ti 0, Ti 0, Ti 0]), (48, .box [Ti 0, Ti 0, Ti 0]), (24, .box [Ti f1.1, Ti f1.2.1, Ti f1.2.2])]⟩) ?_ ?_
  · refine XL_cons rfl (X_of_Y0 rfl (E_field (.pt 64 1) Try.underlying38 rfl sz3 rfl (by kernel_rfl) (by intro hh; cases hh))) ?_
    refine XL_cons rfl (X_of_Y0 rfl (Y0_load1 (c := Ti j4.1) (cs := [Ti y3, Ti j4.2]) sc3 rfl (by kernel_rfl))) ?_
    refine XL_cons rfl (X_of_Y0 rfl (E_move (I t12) rfl (by kernel_rfl))) ?_
    refine XL_cons rfl (X_of_Y0 rfl (E_move (I x2) rfl (by kernel_rfl))) ?_
    refine XL_cons rfl (X_of_Y0 rfl (Y0_mul64 (a := t12) (b := x2) rfl (by kernel_rfl) (by kernel_rfl))) ?_
    refine XL_cons rfl (X_of_Y0 rfl (Y0_add64 (a := j4.1) (b := w64 (t12 * x2)) rfl (by kernel_rfl) (by kernel_rfl))) ?_
    refine XL_cons rfl (X_of_Y0 rfl (E_field (.pt 64 1) Try.underlying38 rfl sz3 rfl (by kernel_rfl) (by intro hh; cases hh))) ?_
    refine XL_cons rfl (E_store (id := 64) (off := 1) (cs := [Ti x2, Ti j4.1, Ti y3, Ti j4.2]) (vc := [Ti (w64 (j4.1 + (w64 (t12 * x2))))]) [Ti x2, Ti (w64 (j4.1 + (w64 (t12 * x2)))), Ti y3, Ti j4.2] rfl rfl (by kernel_rfl) (by kernel_rfl) (by kernel_rfl) sz3 (Nat.le_of_ble_eq_true rfl) (by kernel_rfl)) ?_
    refine XL_nil ?_
    subst hf13
    kernel_rfl
  obtain ⟨f14, hf14, h⟩ := of_sI h
  refine V_sreg [false, false, false, true, false, false, true, true, true, false, false, false, false, false, false, false, false, false, false, false, false, false, false, false, false, false, false, false, false, false, false, false, false, false, false, false, false, false, false, false, false, false, false, false, false, false, false, false, false, false, false, false, false, false, false, false, false, false, false] [64, 56, 48, 24] (s1 := ⟨[.bot, .bot, .bot, .pt 24 0, .bot, .bot, .pt 48 0, .pt 56 0, .pt 64 0, .bot, .bot, .bot, .bot, .bot, .bot, .bot, .bot, .bot, .bot, .bot, .bot, .bot, .bot, .bot, .bot, .bot, .bot, .bot, .bot, .bot, .bot, .bot, .bot, .bot, .bot, .bot, .bot, .bot, .bot, .bot, .bot, .bot, .bot, .bot, .bot, .bot, .bot, .bot, .bot, .bot, .bot, .bot, .bot, .bot, .bot, .bot, .bot, .bot, .bot], [(64, .box [Ti x2, Ti f13, Ti y3, Ti f14]), (56, .box [Ti 0, Ti 0, Ti 0, Ti 0]), (48, .box [Ti 0, Ti 0, Ti 0]), (24, .box [Ti f1.1, Ti f1.2.1, Ti f1.2.2])]⟩) ?_ ?_
  · refine XL_cons rfl (X_of_Y0 rfl (E_field (.pt 64 3) Try.underlying38 rfl sz3 rfl (by kernel_rfl) (by intro hh; cases hh))) ?_
    refine XL_cons rfl (X_of_Y0 rfl (Y0_load1 (c := Ti j4.2) (cs := []) sc3 rfl (by kernel_rfl))) ?_
    refine XL_cons rfl (X_of_Y0 rfl (E_move (I t12) rfl (by kernel_rfl))) ?_
    refine XL_cons rfl (X_of_Y0 rfl (E_move (I y3) rfl (by kernel_rfl))) ?_
    refine XL_cons rfl (X_of_Y0 rfl (Y0_mul64 (a := t12) (b := y3) rfl (by kernel_rfl) (by kernel_rfl))) ?_
    refine XL_cons rfl (X_of_Y0 rfl (Y0_add64 (a := j4.2) (b := w64 (t12 * y3)) rfl (by kernel_rfl) (by kernel_rfl))) ?_
    refine XL_cons rfl (X_of_Y0 rfl (E_field (.pt 64 3) Try.underlying38 rfl sz3 rfl (by kernel_rfl) (by intro hh; cases hh))) ?_
    refine XL_cons rfl (E_store (id := 64) (off := 3) (cs := [Ti x2, Ti f13, Ti y3, Ti j4.2]) (vc := [Ti (w64 (j4.2 + (w64 (t12 * y3))))]) [Ti x2, Ti f13, Ti y3, Ti (w64 (j4.2 + (w64 (t12 * y3))))] rfl rfl (by kernel_rfl) (by kernel_rfl) (by kernel_rfl) sz3 (Nat.le_of_ble_eq_true rfl) (by kernel_rfl)) ?_
    refine XL_nil ?_
    subst hf14
    kernel_rfl
  obtain ⟨y15, hy15, h⟩ := of_bind h
  refine V_sdreg [0, 0, 3, 0, 7, 31] 5 [[.z, .b, .z, .b, .z], [.b, .z, .z, .b, .z], [.a, .a, .z, .b, .z], [.b, .b, .b, .z, .r 48], [.a, .a, .a, .b, .z]] [false, false, false, false, false, false, true, true, false, false, false, false, false, false, false, false, false, false, false, false, false, false, false, false, false, false, false, false, false, false, false, false, false, false, false, false, false, false, false, false, false, false, false, false, false, false, false, false, false, false, false, false, false, false, false, false, false, false, false] [56, 48] (s1 := ⟨[.bot, .bot, .bot, .bot, .bot, .bot, .pt 48 0, .pt 56 0, .bot, .bot, .bot, .bot, .bot, .bot, .bot, .bot, .bot, .bot, .bot, .bot, .bot, .bot, .bot, .bot, .bot, .bot, .bot, .bot, .bot, .bot, .bot, .bot, .bot, .bot, .bot, .bot, .bot, .bot, .bot, .bot, .bot, .bot, .bot, .bot, .bot, .bot, .bot, .bot, .bot, .bot, .bot, .bot, .bot, .bot, .bot, .bot, .bot, .bot, .bot], [(56, .box [Ti x2, Ti f13, Ti y3, Ti f14]), (48, .box [Ti y15.1, Ti y15.2.1, Ti y15.2.2])]⟩) (by kernel_rfl) (by kernel_rfl) ?_ ?_
  · refine DE_0 0 (.ag [Ti f1.1, Ti f1.2.1, Ti f1.2.2]) (by kernel_rfl) rfl rfl rfl (gsat_none rfl) (by kernel_rfl) (E_loadn (cs := [Ti f1.1, Ti f1.2.1, Ti f1.2.2]) [Ti f1.1, Ti f1.2.1, Ti f1.2.2] wd36 rfl (by kernel_rfl) (Nat.le_of_ble_eq_true rfl) (by kernel_rfl)) 55 rfl ?_
    refine DE_0 1 (.ag [Ti x2, Ti f13, Ti y3, Ti f14]) (by kernel_rfl) rfl rfl rfl (gsat_none rfl) (by kernel_rfl) (E_loadn (cs := [Ti x2, Ti f13, Ti y3, Ti f14]) [Ti x2, Ti f13, Ti y3, Ti f14] wd38 rfl (by kernel_rfl) (Nat.le_of_ble_eq_true rfl) (by kernel_rfl)) 56 rfl ?_
    refine DE_1 2 (by kernel_rfl) rfl rfl rfl (gsat_none rfl) (Y1_call (s_impl_Form_substitute hy15) cf_impl_Form_substitute rfl (by kernel_rfl)) rfl rfl rfl 57 rfl ?_
    refine DE_0 3 (.ag [Ti x2, Ti f13, Ti y3, Ti f14]) (by kernel_rfl) rfl rfl rfl (gsat_none rfl) (by kernel_rfl) (E_loadn (cs := [Ti x2, Ti f13, Ti y3, Ti f14]) [Ti x2, Ti f13, Ti y3, Ti f14] wd38 rfl (by kernel_rfl) (Nat.le_of_ble_eq_true rfl) (by kernel_rfl)) 58 rfl ?_
    refine DE_2 (off := 0) (cs := [Ti 0, Ti 0, Ti 0]) (vc := [Ti y15.1, Ti y15.2.1, Ti y15.2.2]) 4 48 [Ti y15.1, Ti y15.2.1, Ti y15.2.2] (by kernel_rfl) rfl rfl rfl (gsat_none rfl) rfl rfl (by kernel_rfl) (by kernel_rfl) (by kernel_rfl) sz36 (Nat.le_of_ble_eq_true rfl) (by kernel_rfl) (by kernel_rfl) (by kernel_rfl) (by kernel_rfl) ?_
    refine DL_nil (by kernel_rfl) ?_
    refine XL_cons rfl (E_store (id := 56) (off := 0) (cs := [Ti 0, Ti 0, Ti 0, Ti 0]) (vc := [Ti x2, Ti f13, Ti y3, Ti f14]) [Ti x2, Ti f13, Ti y3, Ti f14] rfl rfl (by kernel_rfl) (by kernel_rfl) (by kernel_rfl) sz38 (Nat.le_of_ble_eq_true rfl) (by kernel_rfl)) ?_
    refine XL_nil ?_
    kernel_rfl
  refine V_ret ?_
  obtain rfl := some_inj h
  show Post _ _ _ _ _
  exact ⟨.inr rfl, rfl, rfl, rfl⟩
theorem cf_impl_Matrix_det : ∀ args w, (callFunc 64 args).run Try.prog w = .ok (.enter 64 args) w := run_callFunc Try.func64 (by kernel_rfl) (by kernel_rfl)
set_option maxRecDepth 100000 in
set_option maxHeartbeats 400000 in
theorem s_impl_Matrix_det {vm1 : (Int × Int × Int × Int)} {r : Int} (h : r_impl_Matrix_det vm1 = some r) : CallS Try.prog 64 [.ag [Ti vm1.1, Ti vm1.2.1, Ti vm1.2.2.1, Ti vm1.2.2.2]] (I r) [] := by
  refine CallS_of_text (rs := [.t 2]) (vs := [.tmp 2]) Try.func64 rfl rfl (.cons rfl FitsL.nil) (by decide) 14 rfl ?_
  unfold r_impl_Matrix_det at h
  show V _ _ ⟨[.ag [Ti vm1.1, Ti vm1.2.1, Ti vm1.2.2.1, Ti vm1.2.2.2], .bot, .bot, .bot, .bot, .bot, .bot, .bot, .bot, .bot, .bot, .bot, .bot, .bot], []⟩ _
  refine V_sreg [false, true, false, false, false, false, false, false, false, false, false, false, false, false] [8] (s1 := ⟨[.bot, .pt 8 0, .bot, .bot, .bot, .bot, .bot, .bot, .bot, .bot, .bot, .bot, .bot, .bot], [(8, .box [Ti vm1.1, Ti vm1.2.1, Ti vm1.2.2.1, Ti vm1.2.2.2])]⟩) ?_ ?_
  · refine XL_cons rfl (X_of_Y1 rfl (Y1_box (cs := [Ti vm1.1, Ti vm1.2.1, Ti vm1.2.2.1, Ti vm1.2.2.2]) rfl (by kernel_rfl))) ?_
    refine XL_cons rfl (X_of_Y0 rfl (E_assign (I 0) rfl (by kernel_rfl))) ?_
    refine XL_nil ?_
    kernel_rfl
  obtain ⟨t2, ht2, h⟩ := of_sI h
  refine V_sreg [false, false, true, false, false, false, false, false, false, false, false, false, false, false] [] (s1 := ⟨[.bot, .bot, I t2, .bot, .bot, .bot, .bot, .bot, .bot, .bot, .bot, .bot, .bot, .bot], []⟩) ?_ ?_
  · refine XL_cons rfl (X_of_Y0 rfl (E_field (.pt 8 0) Try.underlying38 rfl sz3 rfl (by kernel_rfl) (by intro hh; cases hh))) ?_
    refine XL_cons rfl (X_of_Y0 rfl (Y0_load1 (c := Ti vm1.1) (cs := [Ti vm1.2.1, Ti vm1.2.2.1, Ti vm1.2.2.2]) sc3 rfl (by kernel_rfl))) ?_
    refine XL_cons rfl (X_of_Y0 rfl (E_field (.pt 8 3) Try.underlying38 rfl sz3 rfl (by kernel_rfl) (by intro hh; cases hh))) ?_
    refine XL_cons rfl (X_of_Y0 rfl (Y0_load1 (c := Ti vm1.2.2.2) (cs := []) sc3 rfl (by kernel_rfl))) ?_
    refine XL_cons rfl (X_of_Y0 rfl (Y0_mul64 (a := vm1.1) (b := vm1.2.2.2) rfl (by kernel_rfl) (by kernel_rfl))) ?_
    refine XL_cons rfl (X_of_Y0 rfl (E_field (.pt 8 1) Try.underlying38 rfl sz3 rfl (by kernel_rfl) (by intro hh; cases hh))) ?_
    refine XL_cons rfl (X_of_Y0 rfl (Y0_load1 (c := Ti vm1.2.1) (cs := [Ti vm1.2.2.1, Ti vm1.2.2.2]) sc3 rfl (by kernel_rfl))) ?_
    refine XL_cons rfl (X_of_Y0 rfl (E_field (.pt 8 2) Try.underlying38 rfl sz3 rfl (by kernel_rfl) (by intro hh; cases hh))) ?_
    refine XL_cons rfl (X_of_Y0 rfl (Y0_load1 (c := Ti vm1.2.2.1) (cs := [Ti vm1.2.2.2]) sc3 rfl (by kernel_rfl))) ?_
    refine XL_cons rfl (X_of_Y0 rfl (Y0_mul64 (a := vm1.2.1) (b := vm1.2.2.1) rfl (by kernel_rfl) (by kernel_rfl))) ?_
    refine XL_cons rfl (X_of_Y0 rfl (Y0_sub64 (a := w64 (vm1.1 * vm1.2.2.2)) (b := w64 (vm1.2.1 * vm1.2.2.1)) rfl (by kernel_rfl) (by kernel_rfl))) ?_
    refine XL_cons rfl (X_of_Y0 rfl (E_assign (I (w64 ((w64 (vm1.1 * vm1.2.2.2)) - (w64 (vm1.2.1 * vm1.2.2.1))))) rfl (by kernel_rfl))) ?_
    refine XL_nil ?_
    subst ht2
    kernel_rfl
  refine V_ret ?_
  obtain rfl := some_inj h
  show Post _ _ _ _ _
  exact ⟨.inr rfl, rfl, rfl, rfl⟩
theorem cf_impl_Matrix_inverse : ∀ args w, (callFunc 131 args).run Try.prog w = .ok (.enter 131 args) w := run_callFunc Try.func131 (by kernel_rfl) (by kernel_rfl)
set_option maxRecDepth 100000 in
set_option maxHeartbeats 400000 in
theorem s_impl_Matrix_inverse {vm1 : (Int × Int × Int × Int)} {r : (Int × Int × Int × Int)} (h : r_impl_Matrix_inverse vm1 = some r) : CallS Try.prog 131 [.ag [Ti vm1.1, Ti vm1.2.1, Ti vm1.2.2.1, Ti vm1.2.2.2]] (.ag [Ti r.1, Ti r.2.1, Ti r.2.2.1, Ti r.2.2.2]) [] := by
  refine CallS_of_text (rs := [.w 2 4]) (vs := [.cell 2 38]) Try.func131 rfl rfl (.cons ⟨rfl, wd38⟩ FitsL.nil) (by decide) 25 rfl ?_
  unfold r_impl_Matrix_inverse at h
  show V _ _ ⟨[.ag [Ti vm1.1, Ti vm1.2.1, Ti vm1.2.2.1, Ti vm1.2.2.2], .bot, .bot, .bot, .bot, .bot, .bot, .bot, .bot, .bot, .bot, .bot, .bot, .bot, .bot, .bot, .bot, .bot, .bot, .bot, .bot, .bot, .bot, .bot, .bot], []⟩ _
  refine V_sreg [false, true, true, false, false, false, false, false, false, false, false, false, false, false, false, false, false, false, false, false, false, false, false, false, false] [16, 8] (s1 := ⟨[.bot, .pt 8 0, .pt 16 0, .bot, .bot, .bot, .bot, .bot, .bot, .bot, .bot, .bot, .bot, .bot, .bot, .bot, .bot, .bot, .bot, .bot, .bot, .bot, .bot, .bot, .bot], [(16, .box [Ti 0, Ti 0, Ti 0, Ti 0]), (8, .box [Ti vm1.1, Ti vm1.2.1, Ti vm1.2.2.1, Ti vm1.2.2.2])]⟩) ?_ ?_
  · refine XL_cons rfl (X_of_Y1 rfl (Y1_box (cs := [Ti vm1.1, Ti vm1.2.1, Ti vm1.2.2.1, Ti vm1.2.2.2]) rfl (by kernel_rfl))) ?_
    refine XL_cons rfl (X_of_Y1 rfl (Y1_alloc (z := zv38) rfl zf38 rfl)) ?_
    refine XL_nil ?_
    kernel_rfl
  obtain ⟨y2, hy2, h⟩ := of_bind h
  refine V_sreg [false, true, true, true, false, false, false, false, false, false, false, false, false, false, false, false, false, false, false, false, false, false, false, false, false] [16, 8] (s1 := ⟨[.bot, .pt 8 0, .pt 16 0, I y2, .bot, .bot, .bot, .bot, .bot, .bot, .bot, .bot, .bot, .bot, .bot, .bot, .bot, .bot, .bot, .bot, .bot, .bot, .bot, .bot, .bot], [(16, .box [Ti 0, Ti 0, Ti 0, Ti 0]), (8, .box [Ti vm1.1, Ti vm1.2.1, Ti vm1.2.2.1, Ti vm1.2.2.2])]⟩) ?_ ?_
  · refine XL_cons rfl (X_of_Y0 rfl (E_loadn (cs := [Ti vm1.1, Ti vm1.2.1, Ti vm1.2.2.1, Ti vm1.2.2.2]) [Ti vm1.1, Ti vm1.2.1, Ti vm1.2.2.1, Ti vm1.2.2.2] wd38 rfl (by kernel_rfl) (Nat.le_of_ble_eq_true rfl) (by kernel_rfl))) ?_
    refine XL_cons rfl (X_of_Y1 rfl (Y1_call (s_impl_Matrix_det hy2) cf_impl_Matrix_det rfl (by kernel_rfl))) ?_
    refine XL_cons rfl (X_of_Y0 rfl (E_assign (I y2) rfl (by kernel_rfl))) ?_
    refine XL_nil ?_
    kernel_rfl
  obtain ⟨f3, hf3, h⟩ := of_sI h
  obtain ⟨f4, hf4, h⟩ := of_sI h
  obtain ⟨f5, hf5, h⟩ := of_sI h
  obtain ⟨f6, hf6, h⟩ := of_sI h
  refine V_sreg [false, false, true, false, false, false, false, false, false, false, false, false, false, false, false, false, false, false, false, false, false, false, false, false, false] [16] (s1 := ⟨[.bot, .bot, .pt 16 0, .bot, .bot, .bot, .bot, .bot, .bot, .bot, .bot, .bot, .bot, .bot, .bot, .bot, .bot, .bot, .bot, .bot, .bot, .bot, .bot, .bot, .bot], [(16, .box [Ti f3, Ti f4, Ti f5, Ti f6])]⟩) ?_ ?_
  · refine XL_cons rfl (X_of_Y0 rfl (E_move (I y2) rfl (by kernel_rfl))) ?_
    refine XL_cons rfl (X_of_Y0 rfl (E_field (.pt 8 3) Try.underlying38 rfl sz3 rfl (by kernel_rfl) (by intro hh; cases hh))) ?_
    refine XL_cons rfl (X_of_Y0 rfl (Y0_load1 (c := Ti vm1.2.2.2) (cs := []) sc3 rfl (by kernel_rfl))) ?_
    refine XL_cons rfl (X_of_Y0 rfl (Y0_mul64 (a := y2) (b := vm1.2.2.2) rfl (by kernel_rfl) (by kernel_rfl))) ?_
    refine XL_cons rfl (X_of_Y0 rfl (E_move (I y2) rfl (by kernel_rfl))) ?_
    refine XL_cons rfl (X_of_Y0 rfl (Y0_neg64 (a := y2) rfl (by kernel_rfl))) ?_
    refine XL_cons rfl (X_of_Y0 rfl (E_field (.pt 8 1) Try.underlying38 rfl sz3 rfl (by kernel_rfl) (by intro hh; cases hh))) ?_
    refine XL_cons rfl (X_of_Y0 rfl (Y0_load1 (c := Ti vm1.2.1) (cs := [Ti vm1.2.2.1, Ti vm1.2.2.2]) sc3 rfl (by kernel_rfl))) ?_
    refine XL_cons rfl (X_of_Y0 rfl (Y0_mul64 (a := w64 (0 - y2)) (b := vm1.2.1) rfl (by kernel_rfl) (by kernel_rfl))) ?_
    refine XL_cons rfl (X_of_Y0 rfl (E_move (I y2) rfl (by kernel_rfl))) ?_
    refine XL_cons rfl (X_of_Y0 rfl (Y0_neg64 (a := y2) rfl (by kernel_rfl))) ?_
    refine XL_cons rfl (X_of_Y0 rfl (E_field (.pt 8 2) Try.underlying38 rfl sz3 rfl (by kernel_rfl) (by intro hh; cases hh))) ?_
    refine XL_cons rfl (X_of_Y0 rfl (Y0_load1 (c := Ti vm1.2.2.1) (cs := [Ti vm1.2.2.2]) sc3 rfl (by kernel_rfl))) ?_
    refine XL_cons rfl (X_of_Y0 rfl (Y0_mul64 (a := w64 (0 - y2)) (b := vm1.2.2.1) rfl (by kernel_rfl) (by kernel_rfl))) ?_
    refine XL_cons rfl (X_of_Y0 rfl (E_move (I y2) rfl (by kernel_rfl))) ?_
    refine XL_cons rfl (X_of_Y0 rfl (E_field (.pt 8 0) Try.underlying38 rfl sz3 rfl (by kernel_rfl) (by intro hh; cases hh))) ?_
    refine XL_cons rfl (X_of_Y0 rfl (Y0_load1 (c := Ti vm1.1) (cs := [Ti vm1.2.1, Ti vm1.2.2.1, Ti vm1.2.2.2]) sc3 rfl (by kernel_rfl))) ?_
    refine XL_cons rfl (X_of_Y0 rfl (Y0_mul64 (a := y2) (b := vm1.1) rfl (by kernel_rfl) (by kernel_rfl))) ?_
    refine XL_cons rfl (X_of_Y0 rfl (Y0_build (cs := [Ti (w64 (y2 * vm1.2.2.2)), Ti (w64 ((w64 (0 - y2)) * vm1.2.1)), Ti (w64 ((w64 (0 - y2)) * vm1.2.2.1)), Ti (w64 (y2 * vm1.1))]) pl38 bt38 rfl rfl (by kernel_rfl))) ?_
    refine XL_cons rfl (E_store (id := 16) (off := 0) (cs := [Ti 0, Ti 0, Ti 0, Ti 0]) (vc := [Ti (w64 (y2 * vm1.2.2.2)), Ti (w64 ((w64 (0 - y2)) * vm1.2.1)), Ti (w64 ((w64 (0 - y2)) * vm1.2.2.1)), Ti (w64 (y2 * vm1.1))]) [Ti (w64 (y2 * vm1.2.2.2)), Ti (w64 ((w64 (0 - y2)) * vm1.2.1)), Ti (w64 ((w64 (0 - y2)) * vm1.2.2.1)), Ti (w64 (y2 * vm1.1))] rfl rfl (by kernel_rfl) (by kernel_rfl) (by kernel_rfl) sz38 (Nat.le_of_ble_eq_true rfl) (by kernel_rfl)) ?_
    refine XL_nil ?_
    subst hf3 hf4 hf5 hf6
    kernel_rfl
  refine V_ret ?_
  obtain rfl := some_inj h
  show Post _ _ _ _ _
  exact ⟨.inr rfl, rfl, rfl, rfl⟩
theorem cf_impl_descend : ∀ args w, (callFunc 82 args).run Try.prog w = .ok (.enter 82 args) w := run_callFunc Try.func82 (by kernel_rfl) (by kernel_rfl)
set_option maxRecDepth 100000 in
set_option maxHeartbeats 400000 in
theorem s_impl_descend {f1 : (Int × Int × Int)} {p2 : Int} {r : (((Int × Int × Int)) × ((Int × Int × Int × Int)))} (h : r_impl_descend f1 p2 = some r) : CallS Try.prog 82 [.ag [Ti f1.1, Ti f1.2.1, Ti f1.2.2], I p2] (.tc (.ag [Ti r.1.1, Ti r.1.2.1, Ti r.1.2.2]) (.tc (.ag [Ti r.2.1, Ti r.2.2.1, Ti r.2.2.2.1, Ti r.2.2.2.2]) .tn)) [] := by
  refine CallS_of_text (rs := [.w 4 3, .w 5 4]) (vs := [.cell 4 36, .cell 5 38]) Try.func82 rfl rfl (.cons ⟨rfl, wd36⟩ (.cons ⟨rfl, wd38⟩ FitsL.nil)) (by decide) 89 rfl ?_
  unfold r_impl_descend at h
  show V _ _ ⟨[.ag [Ti f1.1, Ti f1.2.1, Ti f1.2.2], I p2, .bot, .bot, .bot, .bot, .bot, .bot, .bot, .bot, .bot, .bot, .bot, .bot, .bot, .bot, .bot, .bot, .bot, .bot, .bot, .bot, .bot, .bot, .bot, .bot, .bot, .bot, .bot, .bot, .bot, .bot, .bot, .bot, .bot, .bot, .bot, .bot, .bot, .bot, .bot, .bot, .bot, .bot, .bot, .bot, .bot, .bot, .bot, .bot, .bot, .bot, .bot, .bot, .bot, .bot, .bot, .bot, .bot, .bot, .bot, .bot, .bot, .bot, .bot, .bot, .bot, .bot, .bot, .bot, .bot, .bot, .bot, .bot, .bot, .bot, .bot, .bot, .bot, .bot, .bot, .bot, .bot, .bot, .bot, .bot, .bot, .bot, .bot], []⟩ _
  refine V_sreg [false, true, true, false, true, true, false, false, false, false, false, false, false, false, false, false, false, false, false, false, false, false, false, false, false, false, false, false, false, false, false, false, false, false, false, false, false, false, false, false, false, false, false, false, false, false, false, false, false, false, false, false, false, false, false, false, false, false, false, false, false, false, false, false, false, false, false, false, false, false, false, false, false, false, false, false, false, false, false, false, false, false, false, false, false, false, false, false, false] [40, 32, 16] (s1 := ⟨[.bot, I p2, .pt 16 0, .bot, .pt 32 0, .pt 40 0, .bot, .bot, .bot, .bot, .bot, .bot, .bot, .bot, .bot, .bot, .bot, .bot, .bot, .bot, .bot, .bot, .bot, .bot, .bot, .bot, .bot, .bot, .bot, .bot, .bot, .bot, .bot, .bot, .bot, .bot, .bot, .bot, .bot, .bot, .bot, .bot, .bot, .bot, .bot, .bot, .bot, .bot, .bot, .bot, .bot, .bot, .bot, .bot, .bot, .bot, .bot, .bot, .bot, .bot, .bot, .bot, .bot, .bot, .bot, .bot, .bot, .bot, .bot, .bot, .bot, .bot, .bot, .bot, .bot, .bot, .bot, .bot, .bot, .bot, .bot, .bot, .bot, .bot, .bot, .bot, .bot, .bot, .bot], [(40, .box [Ti 0, Ti 0, Ti 0, Ti 0]), (32, .box [Ti 0, Ti 0, Ti 0]), (16, .box [Ti f1.1, Ti f1.2.1, Ti f1.2.2])]⟩) ?_ ?_
  · refine XL_cons rfl (X_of_Y1 rfl (Y1_box (cs := [Ti f1.1, Ti f1.2.1, Ti f1.2.2]) rfl (by kernel_rfl))) ?_
    refine XL_cons rfl (X_of_Y1 rfl (Y1_alloc (z := zv36) rfl zf36 rfl)) ?_
    refine XL_cons rfl (X_of_Y1 rfl (Y1_alloc (z := zv38) rfl zf38 rfl)) ?_
    refine XL_nil ?_
    kernel_rfl
  obtain ⟨y3, hy3, h⟩ := of_bind h
  refine V_sreg [false, true, false, false, true, true, true, true, false, false, false, false, false, false, false, false, false, false, false, false, false, false, false, false, false, false, false, false, false, false, false, false, false, false, false, false, false, false, false, false, false, false, false, false, false, false, false, false, false, false, false, false, false, false, false, false, false, false, false, false, false, false, false, false, false, false, false, false, false, false, false, false, false, false, false, false, false, false, false, false, false, false, false, false, false, false, false, false, false] [56, 48, 40, 32] (s1 := ⟨[.bot, I p2, .bot, .bot, .pt 32 0, .pt 40 0, .pt 48 0, .pt 56 0, .bot, .bot, .bot, .bot, .bot, .bot, .bot, .bot, .bot, .bot, .bot, .bot, .bot, .bot, .bot, .bot, .bot, .bot, .bot, .bot, .bot, .bot, .bot, .bot, .bot, .bot, .bot, .bot, .bot, .bot, .bot, .bot, .bot, .bot, .bot, .bot, .bot, .bot, .bot, .bot, .bot, .bot, .bot, .bot, .bot, .bot, .bot, .bot, .bot, .bot, .bot, .bot, .bot, .bot, .bot, .bot, .bot, .bot, .bot, .bot, .bot, .bot, .bot, .bot, .bot, .bot, .bot, .bot, .bot, .bot, .bot, .bot, .bot, .bot, .bot, .bot, .bot, .bot, .bot, .bot, .bot], [(56, .box [Ti y3.2.1, Ti y3.2.2.1, Ti y3.2.2.2.1, Ti y3.2.2.2.2]), (48, .box [Ti y3.1.1, Ti y3.1.2.1, Ti y3.1.2.2]), (40, .box [Ti 0, Ti 0, Ti 0, Ti 0]), (32, .box [Ti 0, Ti 0, Ti 0])]⟩) ?_ ?_
  · refine XL_cons rfl (X_of_Y0 rfl (E_loadn (cs := [Ti f1.1, Ti f1.2.1, Ti f1.2.2]) [Ti f1.1, Ti f1.2.1, Ti f1.2.2] wd36 rfl (by kernel_rfl) (Nat.le_of_ble_eq_true rfl) (by kernel_rfl))) ?_
    refine XL_cons rfl (X_of_Y1 rfl (Y1_call (s_impl_reduce hy3) cf_impl_reduce rfl (by kernel_rfl))) ?_
    refine XL_cons rfl (X_of_Y0 rfl (E_move (.tc (.ag [Ti y3.1.1, Ti y3.1.2.1, Ti y3.1.2.2]) (.tc (.ag [Ti y3.2.1, Ti y3.2.2.1, Ti y3.2.2.2.1, Ti y3.2.2.2.2]) .tn)) rfl (by kernel_rfl))) ?_
    refine XL_cons rfl (X_of_Y0 rfl (E_ext (n := 0) (.ag [Ti y3.1.1, Ti y3.1.2.1, Ti y3.1.2.2]) (.tc (.ag [Ti y3.2.1, Ti y3.2.2.1, Ti y3.2.2.2.1, Ti y3.2.2.2.2]) .tn) (.ag [Ti y3.1.1, Ti y3.1.2.1, Ti y3.1.2.2]) rfl (by kernel_rfl) (by kernel_rfl) (by intro hh; cases hh))) ?_
    refine XL_cons rfl (X_of_Y0 rfl (E_ext (n := 1) (.ag [Ti y3.1.1, Ti y3.1.2.1, Ti y3.1.2.2]) (.tc (.ag [Ti y3.2.1, Ti y3.2.2.1, Ti y3.2.2.2.1, Ti y3.2.2.2.2]) .tn) (.ag [Ti y3.2.1, Ti y3.2.2.1, Ti y3.2.2.2.1, Ti y3.2.2.2.2]) rfl (by kernel_rfl) (by kernel_rfl) (by intro hh; cases hh))) ?_
    refine XL_cons rfl (X_of_Y1 rfl (Y1_alloc (z := zv36) rfl zf36 rfl)) ?_
    refine XL_cons rfl (X_of_Y1 rfl (Y1_alloc (z := zv38) rfl zf38 rfl)) ?_
    refine XL_cons rfl (E_store (id := 48) (off := 0) (cs := [Ti 0, Ti 0, Ti 0]) (vc := [Ti y3.1.1, Ti y3.1.2.1, Ti y3.1.2.2]) [Ti y3.1.1, Ti y3.1.2.1, Ti y3.1.2.2] rfl rfl (by kernel_rfl) (by kernel_rfl) (by kernel_rfl) sz36 (Nat.le_of_ble_eq_true rfl) (by kernel_rfl)) ?_
    refine XL_cons rfl (E_store (id := 56) (off := 0) (cs := [Ti 0, Ti 0, Ti 0, Ti 0]) (vc := [Ti y3.2.1, Ti y3.2.2.1, Ti y3.2.2.2.1, Ti y3.2.2.2.2]) [Ti y3.2.1, Ti y3.2.2.1, Ti y3.2.2.2.1, Ti y3.2.2.2.2] rfl rfl (by kernel_rfl) (by kernel_rfl) (by kernel_rfl) sz38 (Nat.le_of_ble_eq_true rfl) (by kernel_rfl)) ?_
    refine XL_nil ?_
    kernel_rfl
  obtain ⟨y4, hy4, h⟩ := of_bind h
  refine V_sreg [false, true, false, false, true, true, true, true, true, true, false, false, false, false, false, false, false, false, false, false, false, false, false, false, false, false, false, false, false, false, false, false, false, false, false, false, false, false, false, false, false, false, false, false, false, false, false, false, false, false, false, false, false, false, false, false, false, false, false, false, false, false, false, false, false, false, false, false, false, false, false, false, false, false, false, false, false, false, false, false, false, false, false, false, false, false, false, false, false] [56, 48, 40, 32] (s1 := ⟨[.bot, I p2, .bot, .bot, .pt 32 0, .pt 40 0, .pt 48 0, .pt 56 0, I y4.1, I y4.2, .bot, .bot, .bot, .bot, .bot, .bot, .bot, .bot, .bot, .bot, .bot, .bot, .bot, .bot, .bot, .bot, .bot, .bot, .bot, .bot, .bot, .bot, .bot, .bot, .bot, .bot, .bot, .bot, .bot, .bot, .bot, .bot, .bot, .bot, .bot, .bot, .bot, .bot, .bot, .bot, .bot, .bot, .bot, .bot, .bot, .bot, .bot, .bot, .bot, .bot, .bot, .bot, .bot, .bot, .bot, .bot, .bot, .bot, .bot, .bot, .bot, .bot, .bot, .bot, .bot, .bot, .bot, .bot, .bot, .bot, .bot, .bot, .bot, .bot, .bot, .bot, .bot, .bot, .bot], [(56, .box [Ti y3.2.1, Ti y3.2.2.1, Ti y3.2.2.2.1, Ti y3.2.2.2.2]), (48, .box [Ti y3.1.1, Ti y3.1.2.1, Ti y3.1.2.2]), (40, .box [Ti 0, Ti 0, Ti 0, Ti 0]), (32, .box [Ti 0, Ti 0, Ti 0])]⟩) ?_ ?_
  · refine XL_cons rfl (X_of_Y0 rfl (E_loadn (cs := [Ti y3.1.1, Ti y3.1.2.1, Ti y3.1.2.2]) [Ti y3.1.1, Ti y3.1.2.1, Ti y3.1.2.2] wd36 rfl (by kernel_rfl) (Nat.le_of_ble_eq_true rfl) (by kernel_rfl))) ?_
    refine XL_cons rfl (X_of_Y0 rfl (E_move (I p2) rfl (by kernel_rfl))) ?_
    refine XL_cons rfl (X_of_Y1 rfl (Y1_call (s_impl_firstPoint hy4) cf_impl_firstPoint rfl (by kernel_rfl))) ?_
    refine XL_cons rfl (X_of_Y0 rfl (E_move (.tc (I y4.1) (.tc (I y4.2) .tn)) rfl (by kernel_rfl))) ?_
    refine XL_cons rfl (X_of_Y0 rfl (E_ext (n := 0) (I y4.1) (.tc (I y4.2) .tn) (I y4.1) rfl (by kernel_rfl) (by kernel_rfl) (by intro hh; cases hh))) ?_
    refine XL_cons rfl (X_of_Y0 rfl (E_ext (n := 1) (I y4.1) (.tc (I y4.2) .tn) (I y4.2) rfl (by kernel_rfl) (by kernel_rfl) (by intro hh; cases hh))) ?_
    refine XL_cons rfl (X_of_Y0 rfl (E_assign (I y4.1) rfl (by kernel_rfl))) ?_
    refine XL_cons rfl (X_of_Y0 rfl (E_assign (I y4.2) rfl (by kernel_rfl))) ?_
    refine XL_nil ?_
    kernel_rfl
  obtain ⟨y5, hy5, h⟩ := of_bind h
  refine V_sreg [false, true, false, false, true, true, false, true, false, false, true, true, false, false, false, false, false, false, false, false, false, false, false, false, false, false, false, false, false, false, false, false, false, false, false, false, false, false, false, false, false, false, false, false, false, false, false, false, false, false, false, false, false, false, false, false, false, false, false, false, false, false, false, false, false, false, false, false, false, false, false, false, false, false, false, false, false, false, false, false, false, false, false, false, false, false, false, false, false] [88, 80, 56, 40, 32] (s1 := ⟨[.bot, I p2, .bot, .bot, .pt 32 0, .pt 40 0, .bot, .pt 56 0, .bot, .bot, .pt 80 0, .pt 88 0, .bot, .bot, .bot, .bot, .bot, .bot, .bot, .bot, .bot, .bot, .bot, .bot, .bot, .bot, .bot, .bot, .bot, .bot, .bot, .bot, .bot, .bot, .bot, .bot, .bot, .bot, .bot, .bot, .bot, .bot, .bot, .bot, .bot, .bot, .bot, .bot, .bot, .bot, .bot, .bot, .bot, .bot, .bot, .bot, .bot, .bot, .bot, .bot, .bot, .bot, .bot, .bot, .bot, .bot, .bot, .bot, .bot, .bot, .bot, .bot, .bot, .bot, .bot, .bot, .bot, .bot, .bot, .bot, .bot, .bot, .bot, .bot, .bot, .bot, .bot, .bot, .bot], [(88, .box [Ti y5.2.1, Ti y5.2.2.1, Ti y5.2.2.2.1, Ti y5.2.2.2.2]), (80, .box [Ti y5.1.1, Ti y5.1.2.1, Ti y5.1.2.2]), (56, .box [Ti y3.2.1, Ti y3.2.2.1, Ti y3.2.2.2.1, Ti y3.2.2.2.2]), (40, .box [Ti 0, Ti 0, Ti 0, Ti 0]), (32, .box [Ti 0, Ti 0, Ti 0])]⟩) ?_ ?_
  · refine XL_cons rfl (X_of_Y0 rfl (E_loadn (cs := [Ti y3.1.1, Ti y3.1.2.1, Ti y3.1.2.2]) [Ti y3.1.1, Ti y3.1.2.1, Ti y3.1.2.2] wd36 rfl (by kernel_rfl) (Nat.le_of_ble_eq_true rfl) (by kernel_rfl))) ?_
    refine XL_cons rfl (X_of_Y0 rfl (E_move (I y4.1) rfl (by kernel_rfl))) ?_
    refine XL_cons rfl (X_of_Y0 rfl (E_move (I y4.2) rfl (by kernel_rfl))) ?_
    refine XL_cons rfl (X_of_Y1 rfl (Y1_call (s_impl_Form_complete hy5) cf_impl_Form_complete rfl (by kernel_rfl))) ?_
    refine XL_cons rfl (X_of_Y0 rfl (E_move (.tc (.ag [Ti y5.1.1, Ti y5.1.2.1, Ti y5.1.2.2]) (.tc (.ag [Ti y5.2.1, Ti y5.2.2.1, Ti y5.2.2.2.1, Ti y5.2.2.2.2]) .tn)) rfl (by kernel_rfl))) ?_
    refine XL_cons rfl (X_of_Y0 rfl (E_ext (n := 0) (.ag [Ti y5.1.1, Ti y5.1.2.1, Ti y5.1.2.2]) (.tc (.ag [Ti y5.2.1, Ti y5.2.2.1, Ti y5.2.2.2.1, Ti y5.2.2.2.2]) .tn) (.ag [Ti y5.1.1, Ti y5.1.2.1, Ti y5.1.2.2]) rfl (by kernel_rfl) (by kernel_rfl) (by intro hh; cases hh))) ?_
    refine XL_cons rfl (X_of_Y0 rfl (E_ext (n := 1) (.ag [Ti y5.1.1, Ti y5.1.2.1, Ti y5.1.2.2]) (.tc (.ag [Ti y5.2.1, Ti y5.2.2.1, Ti y5.2.2.2.1, Ti y5.2.2.2.2]) .tn) (.ag [Ti y5.2.1, Ti y5.2.2.1, Ti y5.2.2.2.1, Ti y5.2.2.2.2]) rfl (by kernel_rfl) (by kernel_rfl) (by intro hh; cases hh))) ?_
    refine XL_cons rfl (X_of_Y1 rfl (Y1_alloc (z := zv36) rfl zf36 rfl)) ?_
    refine XL_cons rfl (X_of_Y1 rfl (Y1_alloc (z := zv38) rfl zf38 rfl)) ?_
    refine XL_cons rfl (E_store (id := 80) (off := 0) (cs := [Ti 0, Ti 0, Ti 0]) (vc := [Ti y5.1.1, Ti y5.1.2.1, Ti y5.1.2.2]) [Ti y5.1.1, Ti y5.1.2.1, Ti y5.1.2.2] rfl rfl (by kernel_rfl) (by kernel_rfl) (by kernel_rfl) sz36 (Nat.le_of_ble_eq_true rfl) (by kernel_rfl)) ?_
    refine XL_cons rfl (E_store (id := 88) (off := 0) (cs := [Ti 0, Ti 0, Ti 0, Ti 0]) (vc := [Ti y5.2.1, Ti y5.2.2.1, Ti y5.2.2.2.1, Ti y5.2.2.2.2]) [Ti y5.2.1, Ti y5.2.2.1, Ti y5.2.2.2.1, Ti y5.2.2.2.2] rfl rfl (by kernel_rfl) (by kernel_rfl) (by kernel_rfl) sz38 (Nat.le_of_ble_eq_true rfl) (by kernel_rfl)) ?_
    refine XL_nil ?_
    kernel_rfl
  obtain ⟨y6, hy6, h⟩ := of_bind h
  refine V_sdreg [0, 0, 0, 0, 15, 31] 4 [[.z, .b, .b, .b], [.b, .z, .b, .b], [.b, .b, .z, .b], [.b, .b, .b, .z]] [false, true, false, false, true, true, false, true, false, false, true, true, true, true, false, false, false, false, false, false, false, false, false, false, false, false, false, false, false, false, false, false, false, false, false, false, false, false, false, false, false, false, false, false, false, false, false, false, false, false, false, false, false, false, false, false, false, false, false, false, false, false, false, false, false, false, false, false, false, false, false, false, false, false, false, false, false, false, false, false, false, false, false, false, false, false, false, false, false] [104, 96, 88, 80, 56, 40, 32] (s1 := ⟨[.bot, I p2, .bot, .bot, .pt 32 0, .pt 40 0, .bot, .pt 56 0, .bot, .bot, .pt 80 0, .pt 88 0, .pt 96 0, .pt 104 0, .bot, .bot, .bot, .bot, .bot, .bot, .bot, .bot, .bot, .bot, .bot, .bot, .bot, .bot, .bot, .bot, .bot, .bot, .bot, .bot, .bot, .bot, .bot, .bot, .bot, .bot, .bot, .bot, .bot, .bot, .bot, .bot, .bot, .bot, .bot, .bot, .bot, .bot, .bot, .bot, .bot, .bot, .bot, .bot, .bot, .bot, .bot, .bot, .bot, .bot, .bot, .bot, .bot, .bot, .bot, .bot, .bot, .bot, .bot, .bot, .bot, .bot, .bot, .bot, .bot, .bot, .bot, .bot, .bot, .bot, .bot, .bot, .bot, .bot, .bot], [(104, .box [Ti y6.1, Ti y6.2.1, Ti y6.2.2.1, Ti y6.2.2.2]), (96, .box [Ti y5.1.1, Ti y5.1.2.1, Ti y5.1.2.2]), (88, .box [Ti y5.2.1, Ti y5.2.2.1, Ti y5.2.2.2.1, Ti y5.2.2.2.2]), (80, .box [Ti y5.1.1, Ti y5.1.2.1, Ti y5.1.2.2]), (56, .box [Ti y3.2.1, Ti y3.2.2.1, Ti y3.2.2.2.1, Ti y3.2.2.2.2]), (40, .box [Ti 0, Ti 0, Ti 0, Ti 0]), (32, .box [Ti 0, Ti 0, Ti 0])]⟩) (by kernel_rfl) (by kernel_rfl) ?_ ?_
  · refine DE_0 0 (.ag [Ti y5.1.1, Ti y5.1.2.1, Ti y5.1.2.2]) (by kernel_rfl) rfl rfl rfl (gsat_none rfl) (by kernel_rfl) (E_loadn (cs := [Ti y5.1.1, Ti y5.1.2.1, Ti y5.1.2.2]) [Ti y5.1.1, Ti y5.1.2.1, Ti y5.1.2.2] wd36 rfl (by kernel_rfl) (Nat.le_of_ble_eq_true rfl) (by kernel_rfl)) 35 rfl ?_
    refine DE_1 1 (by kernel_rfl) rfl rfl rfl (gsat_none rfl) (Y1_call (s_impl_one hy6) cf_impl_one rfl (by kernel_rfl)) rfl rfl rfl 36 rfl ?_
    refine DE_1 2 (by kernel_rfl) rfl rfl rfl (gsat_none rfl) (Y1_alloc (z := zv36) rfl zf36 rfl) rfl rfl rfl 12 rfl ?_
    refine DE_1 3 (by kernel_rfl) rfl rfl rfl (gsat_none rfl) (Y1_alloc (z := zv38) rfl zf38 rfl) rfl rfl rfl 13 rfl ?_
    refine DL_nil (by kernel_rfl) ?_
    refine XL_cons rfl (E_store (id := 96) (off := 0) (cs := [Ti 0, Ti 0, Ti 0]) (vc := [Ti y5.1.1, Ti y5.1.2.1, Ti y5.1.2.2]) [Ti y5.1.1, Ti y5.1.2.1, Ti y5.1.2.2] rfl rfl (by kernel_rfl) (by kernel_rfl) (by kernel_rfl) sz36 (Nat.le_of_ble_eq_true rfl) (by kernel_rfl)) ?_
    refine XL_cons rfl (E_store (id := 104) (off := 0) (cs := [Ti 0, Ti 0, Ti 0, Ti 0]) (vc := [Ti y6.1, Ti y6.2.1, Ti y6.2.2.1, Ti y6.2.2.2]) [Ti y6.1, Ti y6.2.1, Ti y6.2.2.1, Ti y6.2.2.2] rfl rfl (by kernel_rfl) (by kernel_rfl) (by kernel_rfl) sz38 (Nat.le_of_ble_eq_true rfl) (by kernel_rfl)) ?_
    refine XL_nil ?_
    kernel_rfl
  refine V_seq ?_
  obtain ⟨o12, hLo12, h⟩ := of_bind h
  refine V_toK [false, true, false, false, true, true, false, true, false, false, false, true, true, true, false, false, false, false, false, false, false, false, false, false, false, false, false, false, false, false, false, false, false, false, false, false, false, false, false, false, false, false, false, false, false, false, false, false, false, false, false, false, false, false, false, false, false, false, false, false, false, false, false, false, false, false, false, false, false, false, false, false, false, false, false, false, false, false, false, false, false, false, false, false, false, false, false, false, false] [104, 96, 88, 56, 40, 32] (s1 := ⟨[.bot, I p2, .bot, .bot, .pt 32 0, .pt 40 0, .bot, .pt 56 0, .bot, .bot, .bot, .pt 88 0, .pt 96 0, .pt 104 0, .bot, .bot, .bot, .bot, .bot, .bot, .bot, .bot, .bot, .bot, .bot, .bot, .bot, .bot, .bot, .bot, .bot, .bot, .bot, .bot, .bot, .bot, .bot, .bot, .bot, .bot, .bot, .bot, .bot, .bot, .bot, .bot, .bot, .bot, .bot, .bot, .bot, .bot, .bot, .bot, .bot, .bot, .bot, .bot, .bot, .bot, .bot, .bot, .bot, .bot, .bot, .bot, .bot, .bot, .bot, .bot, .bot, .bot, .bot, .bot, .bot, .bot, .bot, .bot, .bot, .bot, .bot, .bot, .bot, .bot, .bot, .bot, .bot, .bot, .bot], [(104, .box [Ti y6.1, Ti o12.1, Ti y6.2.2.1, Ti y6.2.2.2]), (96, .box [Ti o12.2.1, Ti o12.2.2.1, Ti o12.2.2.2]), (88, .box [Ti y5.2.1, Ti y5.2.2.1, Ti y5.2.2.2.1, Ti y5.2.2.2.2]), (56, .box [Ti y3.2.1, Ti y3.2.2.1, Ti y3.2.2.2.1, Ti y3.2.2.2.2]), (40, .box [Ti 0, Ti 0, Ti 0, Ti 0]), (32, .box [Ti 0, Ti 0, Ti 0])]⟩) ?_ ?_
  · clear h
    refine V_block (V_loop (fun n s => ∃ (f7 : Int) (f8 : Int) (f9 : Int) (f10 : Int), s.keep [false, true, false, false, true, true, false, true, false, false, true, true, true, true, false, false, false, false, false, false, false, false, false, false, false, false, false, false, false, false, false, false, false, false, false, false, false, false, false, false, false, false, false, false, false, false, false, false, false, false, false, false, false, false, false, false, false, false, false, false, false, false, false, false, false, false, false, false, false, false, false, false, false, false, false, false, false, false, false, false, false, false, false, false, false, false, false, false, false] [104, 96, 88, 80, 56, 40, 32] = (⟨[.bot, I p2, .bot, .bot, .pt 32 0, .pt 40 0, .bot, .pt 56 0, .bot, .bot, .pt 80 0, .pt 88 0, .pt 96 0, .pt 104 0, .bot, .bot, .bot, .bot, .bot, .bot, .bot, .bot, .bot, .bot, .bot, .bot, .bot, .bot, .bot, .bot, .bot, .bot, .bot, .bot, .bot, .bot, .bot, .bot, .bot, .bot, .bot, .bot, .bot, .bot, .bot, .bot, .bot, .bot, .bot, .bot, .bot, .bot, .bot, .bot, .bot, .bot, .bot, .bot, .bot, .bot, .bot, .bot, .bot, .bot, .bot, .bot, .bot, .bot, .bot, .bot, .bot, .bot, .bot, .bot, .bot, .bot, .bot, .bot, .bot, .bot, .bot, .bot, .bot, .bot, .bot, .bot, .bot, .bot, .bot], [(104, .box [Ti y6.1, Ti f7, Ti y6.2.2.1, Ti y6.2.2.2]), (96, .box [Ti f8, Ti f9, Ti f10]), (88, .box [Ti y5.2.1, Ti y5.2.2.1, Ti y5.2.2.2.1, Ti y5.2.2.2.2]), (80, .box [Ti y5.1.1, Ti y5.1.2.1, Ti y5.1.2.2]), (56, .box [Ti y3.2.1, Ti y3.2.2.1, Ti y3.2.2.2.1, Ti y3.2.2.2.2]), (40, .box [Ti 0, Ti 0, Ti 0, Ti 0]), (32, .box [Ti 0, Ti 0, Ti 0])]⟩ : St) ∧ r_impl_descend_L11 p2 y3 y5 y6 n f7 f8 f9 f10 = some o12) FU ⟨_, _, _, _,  by rfl, hLo12⟩ ?_)
    clear hLo12
    rintro n s ⟨f7, f8, f9, f10, hs, h⟩
    refine V_keep _ _ hs ?_
    clear hs
    cases n with
    | zero => cases h
    | succ n =>
      rw [r_impl_descend_L11] at h
      refine V_seq ?_
      obtain ⟨z13, hz13, h⟩ := of_bind h
      obtain ⟨b16, hb16, h⟩ := of_bind h
      refine V_sreg [false, true, false, false, true, true, false, true, false, false, true, true, true, true, false, false, false, false, false, false, false, false, false, false, false, false, false, false, false, false, false, false, false, false, false, false, false, false, false, false, false, false, false, false, false, false, false, false, false, false, true, false, false, false, false, false, false, false, false, false, false, false, false, false, false, false, false, false, false, false, false, false, false, false, false, false, false, false, false, false, false, false, false, false, false, false, false, false, false] [104, 96, 88, 80, 56, 40, 32] (s1 := ⟨[.bot, I p2, .bot, .bot, .pt 32 0, .pt 40 0, .bot, .pt 56 0, .bot, .bot, .pt 80 0, .pt 88 0, .pt 96 0, .pt 104 0, .bot, .bot, .bot, .bot, .bot, .bot, .bot, .bot, .bot, .bot, .bot, .bot, .bot, .bot, .bot, .bot, .bot, .bot, .bot, .bot, .bot, .bot, .bot, .bot, .bot, .bot, .bot, .bot, .bot, .bot, .bot, .bot, .bot, .bot, .bot, .bot, Bo b16, .bot, .bot, .bot, .bot, .bot, .bot, .bot, .bot, .bot, .bot, .bot, .bot, .bot, .bot, .bot, .bot, .bot, .bot, .bot, .bot, .bot, .bot, .bot, .bot, .bot, .bot, .bot, .bot, .bot, .bot, .bot, .bot, .bot, .bot, .bot, .bot, .bot, .bot], [(104, .box [Ti y6.1, Ti f7, Ti y6.2.2.1, Ti y6.2.2.2]), (96, .box [Ti f8, Ti f9, Ti f10]), (88, .box [Ti y5.2.1, Ti y5.2.2.1, Ti y5.2.2.2.1, Ti y5.2.2.2.2]), (80, .box [Ti y5.1.1, Ti y5.1.2.1, Ti y5.1.2.2]), (56, .box [Ti y3.2.1, Ti y3.2.2.1, Ti y3.2.2.2.1, Ti y3.2.2.2.2]), (40, .box [Ti 0, Ti 0, Ti 0, Ti 0]), (32, .box [Ti 0, Ti 0, Ti 0])]⟩) ?_ ?_
      · refine XL_cons rfl (X_of_Y0 rfl (E_field (.pt 96 1) Try.underlying36 rfl sz3 rfl (by kernel_rfl) (by intro hh; cases hh))) ?_
        refine XL_cons rfl (X_of_Y0 rfl (Y0_load1 (c := Ti f9) (cs := [Ti f10]) sc3 rfl (by kernel_rfl))) ?_
        refine XL_cons rfl (X_of_Y0 rfl (E_move (I p2) rfl (by kernel_rfl))) ?_
        refine XL_cons rfl (X_of_Y0 rfl (Y0_rem (k := .i64) (a := f9) (b := p2) rfl (by kernel_rfl) (by kernel_rfl) (nz_some hz13))) ?_
        refine XL_cons rfl (X_of_Y0 rfl (Y0_new (k := .i64) (a := Int.tmod f9 p2) (b := 0) rfl (by kernel_rfl) (by kernel_rfl))) ?_
        refine XL_cons rfl (X_of_Y0 rfl (E_move (Bo (!eqI (Int.tmod f9 p2) 0)) rfl (by kernel_rfl))) ?_
        refine XL_split (!eqI (Int.tmod f9 p2) 0) (fun hc14 => ?_) (fun hc14 => ?_)
        · have hb16 := some_inj (of_true hb16 hc14)
          refine XL_skipF (!eqI (Int.tmod f9 p2) 0) rfl rfl (by kernel_rfl) hc14 rfl ?_
          refine XL_skipF (!eqI (Int.tmod f9 p2) 0) rfl rfl (by kernel_rfl) hc14 rfl ?_
          refine XL_skipF (!eqI (Int.tmod f9 p2) 0) rfl rfl (by kernel_rfl) hc14 rfl ?_
          refine XL_skipF (!eqI (Int.tmod f9 p2) 0) rfl rfl (by kernel_rfl) hc14 rfl ?_
          refine XL_skipF (!eqI (Int.tmod f9 p2) 0) rfl rfl (by kernel_rfl) hc14 rfl ?_
          refine XL_skipF (!eqI (Int.tmod f9 p2) 0) rfl rfl (by kernel_rfl) hc14 rfl ?_
          refine XL_skipF (!eqI (Int.tmod f9 p2) 0) rfl rfl (by kernel_rfl) hc14 rfl ?_
          refine XL_cons rfl (X_of_Y0 rfl (Y0_pickTe (b := !eqI (Int.tmod f9 p2) 0) (p := true) rfl (by kernel_rfl) hc14 (by kernel_rfl) hb16)) ?_
          refine XL_nil ?_
          kernel_rfl
        · have hb16 := of_false hb16 hc14
          obtain ⟨z15, hz15, hb16⟩ := of_bind hb16
          have hb16 := some_inj hb16
          refine XL_takeC (!eqI (Int.tmod f9 p2) 0) rfl rfl (by kernel_rfl) hc14 (X_of_Y0 rfl (E_field (.pt 96 2) Try.underlying36 rfl sz3 rfl (by kernel_rfl) (by intro hh; cases hh))) ?_
          refine XL_takeC (!eqI (Int.tmod f9 p2) 0) rfl rfl (by kernel_rfl) hc14 (X_of_Y0 rfl (Y0_load1 (c := Ti f10) (cs := []) sc3 rfl (by kernel_rfl))) ?_
          refine XL_takeC (!eqI (Int.tmod f9 p2) 0) rfl rfl (by kernel_rfl) hc14 (X_of_Y0 rfl (E_move (I p2) rfl (by kernel_rfl))) ?_
          refine XL_takeC (!eqI (Int.tmod f9 p2) 0) rfl rfl (by kernel_rfl) hc14 (X_of_Y0 rfl (E_move (I p2) rfl (by kernel_rfl))) ?_
          refine XL_takeC (!eqI (Int.tmod f9 p2) 0) rfl rfl (by kernel_rfl) hc14 (X_of_Y0 rfl (Y0_mul64 (a := p2) (b := p2) rfl (by kernel_rfl) (by kernel_rfl))) ?_
          refine XL_takeC (!eqI (Int.tmod f9 p2) 0) rfl rfl (by kernel_rfl) hc14 (X_of_Y0 rfl (Y0_rem (k := .i64) (a := f10) (b := w64 (p2 * p2)) rfl (by kernel_rfl) (by kernel_rfl) (nz_some hz15))) ?_
          refine XL_takeC (!eqI (Int.tmod f9 p2) 0) rfl rfl (by kernel_rfl) hc14 (X_of_Y0 rfl (Y0_new (k := .i64) (a := Int.tmod f10 (w64 (p2 * p2))) (b := 0) rfl (by kernel_rfl) (by kernel_rfl))) ?_
          refine XL_cons rfl (X_of_Y0 rfl (Y0_pickFe (b := !eqI (Int.tmod f9 p2) 0) (p := !eqI (Int.tmod f10 (w64 (p2 * p2))) 0) rfl (by kernel_rfl) hc14 (by kernel_rfl) hb16)) ?_
          refine XL_nil ?_
          kernel_rfl
      refine V_cond rfl (fun hc17 => ?_) (fun hc17 => ?_)
      · have h := of_true h hc17
        refine V_skip ?_
        show V _ _ _ _
        refine V_block ?_
        obtain ⟨f18, hf18, h⟩ := of_sI h
        refine V_sreg [false, true, false, false, true, true, false, true, false, false, true, true, true, true, false, false, false, false, false, false, false, false, false, false, false, false, false, false, false, false, false, false, false, false, false, false, false, false, false, false, false, false, false, false, false, false, false, false, false, false, false, false, false, false, false, false, false, false, false, false, false, false, false, false, false, false, false, false, false, false, false, false, false, false, false, false, false, false, false, false, false, false, false, false, false, false, false, false, false] [104, 96, 88, 80, 56, 40, 32] (s1 := ⟨[.bot, I p2, .bot, .bot, .pt 32 0, .pt 40 0, .bot, .pt 56 0, .bot, .bot, .pt 80 0, .pt 88 0, .pt 96 0, .pt 104 0, .bot, .bot, .bot, .bot, .bot, .bot, .bot, .bot, .bot, .bot, .bot, .bot, .bot, .bot, .bot, .bot, .bot, .bot, .bot, .bot, .bot, .bot, .bot, .bot, .bot, .bot, .bot, .bot, .bot, .bot, .bot, .bot, .bot, .bot, .bot, .bot, .bot, .bot, .bot, .bot, .bot, .bot, .bot, .bot, .bot, .bot, .bot, .bot, .bot, .bot, .bot, .bot, .bot, .bot, .bot, .bot, .bot, .bot, .bot, .bot, .bot, .bot, .bot, .bot, .bot, .bot, .bot, .bot, .bot, .bot, .bot, .bot, .bot, .bot, .bot], [(104, .box [Ti y6.1, Ti f18, Ti y6.2.2.1, Ti y6.2.2.2]), (96, .box [Ti f8, Ti f9, Ti f10]), (88, .box [Ti y5.2.1, Ti y5.2.2.1, Ti y5.2.2.2.1, Ti y5.2.2.2.2]), (80, .box [Ti y5.1.1, Ti y5.1.2.1, Ti y5.1.2.2]), (56, .box [Ti y3.2.1, Ti y3.2.2.1, Ti y3.2.2.2.1, Ti y3.2.2.2.2]), (40, .box [Ti 0, Ti 0, Ti 0, Ti 0]), (32, .box [Ti 0, Ti 0, Ti 0])]⟩) ?_ ?_
        · refine XL_cons rfl (X_of_Y0 rfl (E_field (.pt 104 1) Try.underlying38 rfl sz3 rfl (by kernel_rfl) (by intro hh; cases hh))) ?_
          refine XL_cons rfl (X_of_Y0 rfl (Y0_load1 (c := Ti f7) (cs := [Ti y6.2.2.1, Ti y6.2.2.2]) sc3 rfl (by kernel_rfl))) ?_
          refine XL_cons rfl (X_of_Y0 rfl (Y0_add64 (a := f7) (b := 1) rfl (by kernel_rfl) (by kernel_rfl))) ?_
          refine XL_cons rfl (X_of_Y0 rfl (E_field (.pt 104 1) Try.underlying38 rfl sz3 rfl (by kernel_rfl) (by intro hh; cases hh))) ?_
          refine XL_cons rfl (E_store (id := 104) (off := 1) (cs := [Ti y6.1, Ti f7, Ti y6.2.2.1, Ti y6.2.2.2]) (vc := [Ti (w64 (f7 + 1))]) [Ti y6.1, Ti (w64 (f7 + 1)), Ti y6.2.2.1, Ti y6.2.2.2] rfl rfl (by kernel_rfl) (by kernel_rfl) (by kernel_rfl) sz3 (Nat.le_of_ble_eq_true rfl) (by kernel_rfl)) ?_
          refine XL_nil ?_
          subst hf18
          kernel_rfl
        obtain ⟨y19, hy19, h⟩ := of_bind h
        refine V_reg [false, true, false, false, true, true, false, true, false, false, true, true, true, true, false, false, false, false, false, false, false, false, false, false, false, false, false, false, false, false, false, false, false, false, false, false, false, false, false, false, false, false, false, false, false, false, false, false, false, false, false, false, false, false, false, false, false, false, false, false, false, false, false, false, false, false, false, false, false, false, false, false, false, false, false, false, false, false, false, false, false, false, false, false, false, false, false, false, false] [104, 96, 88, 80, 56, 40, 32] (s1 := ⟨[.bot, I p2, .bot, .bot, .pt 32 0, .pt 40 0, .bot, .pt 56 0, .bot, .bot, .pt 80 0, .pt 88 0, .pt 96 0, .pt 104 0, .bot, .bot, .bot, .bot, .bot, .bot, .bot, .bot, .bot, .bot, .bot, .bot, .bot, .bot, .bot, .bot, .bot, .bot, .bot, .bot, .bot, .bot, .bot, .bot, .bot, .bot, .bot, .bot, .bot, .bot, .bot, .bot, .bot, .bot, .bot, .bot, .bot, .bot, .bot, .bot, .bot, .bot, .bot, .bot, .bot, .bot, .bot, .bot, .bot, .bot, .bot, .bot, .bot, .bot, .bot, .bot, .bot, .bot, .bot, .bot, .bot, .bot, .bot, .bot, .bot, .bot, .bot, .bot, .bot, .bot, .bot, .bot, .bot, .bot, .bot], [(104, .box [Ti y6.1, Ti f18, Ti y6.2.2.1, Ti y6.2.2.2]), (96, .box [Ti y19.1, Ti y19.2.1, Ti y19.2.2]), (88, .box [Ti y5.2.1, Ti y5.2.2.1, Ti y5.2.2.2.1, Ti y5.2.2.2.2]), (80, .box [Ti y5.1.1, Ti y5.1.2.1, Ti y5.1.2.2]), (56, .box [Ti y3.2.1, Ti y3.2.2.1, Ti y3.2.2.2.1, Ti y3.2.2.2.2]), (40, .box [Ti 0, Ti 0, Ti 0, Ti 0]), (32, .box [Ti 0, Ti 0, Ti 0])]⟩) ?_ ?_
        · refine XL_cons rfl (X_of_Y0 rfl (E_loadn (cs := [Ti y5.1.1, Ti y5.1.2.1, Ti y5.1.2.2]) [Ti y5.1.1, Ti y5.1.2.1, Ti y5.1.2.2] wd36 rfl (by kernel_rfl) (Nat.le_of_ble_eq_true rfl) (by kernel_rfl))) ?_
          refine XL_cons rfl (X_of_Y0 rfl (E_loadn (cs := [Ti y6.1, Ti f18, Ti y6.2.2.1, Ti y6.2.2.2]) [Ti y6.1, Ti f18, Ti y6.2.2.1, Ti y6.2.2.2] wd38 rfl (by kernel_rfl) (Nat.le_of_ble_eq_true rfl) (by kernel_rfl))) ?_
          refine XL_cons rfl (X_of_Y1 rfl (Y1_call (s_impl_Form_substitute hy19) cf_impl_Form_substitute rfl (by kernel_rfl))) ?_
          refine XL_cons rfl (E_store (id := 96) (off := 0) (cs := [Ti f8, Ti f9, Ti f10]) (vc := [Ti y19.1, Ti y19.2.1, Ti y19.2.2]) [Ti y19.1, Ti y19.2.1, Ti y19.2.2] rfl rfl (by kernel_rfl) (by kernel_rfl) (by kernel_rfl) sz36 (Nat.le_of_ble_eq_true rfl) (by kernel_rfl)) ?_
          refine XL_nil ?_
          kernel_rfl
        exact ⟨n, Nat.lt_succ_self n, _, _, _, _,  by rfl, h⟩
      · have h := of_false h hc17
        refine V_exit ?_
        obtain rfl := some_inj h
        show St.keep _ _ _ = _
        rfl
  show V _ _ _ _
  obtain ⟨z20, hz20, h⟩ := of_bind h
  obtain ⟨z21, hz21, h⟩ := of_bind h
  obtain ⟨y22, hy22, h⟩ := of_bind h
  refine V_sdreg [0, 1, 0, 4, 0, 28, 0, 64, 0, 0, 768, 1984, 4095, 8191, 16383, 32767, 32767, 0, 0, 458751, 1048575] 20 [[.z, .z, .b, .b, .b, .b, .b, .b, .b, .b, .b, .b, .z, .z, .z, .z, .z, .b, .b, .z], [.a, .z, .b, .b, .b, .b, .b, .b, .b, .b, .b, .b, .z, .z, .z, .z, .z, .b, .b, .z], [.b, .b, .z, .z, .b, .z, .b, .b, .b, .b, .b, .b, .z, .z, .z, .z, .z, .b, .b, .z], [.b, .b, .a, .z, .b, .z, .b, .b, .b, .b, .b, .b, .z, .z, .z, .z, .z, .b, .b, .z], [.b, .b, .b, .b, .z, .z, .b, .b, .b, .b, .b, .b, .z, .z, .z, .z, .z, .b, .b, .z], [.b, .b, .a, .a, .a, .z, .b, .b, .b, .b, .b, .b, .z, .z, .z, .z, .z, .b, .b, .z], [.b, .b, .b, .b, .b, .b, .z, .z, .b, .b, .b, .z, .z, .z, .z, .z, .z, .b, .b, .z], [.b, .b, .b, .b, .b, .b, .a, .z, .b, .b, .b, .z, .z, .z, .z, .z, .z, .b, .b, .z], [.b, .b, .b, .b, .b, .b, .b, .b, .z, .b, .z, .z, .z, .z, .z, .z, .z, .b, .b, .z], [.b, .b, .b, .b, .b, .b, .b, .b, .b, .z, .z, .z, .z, .z, .z, .z, .z, .b, .b, .z], [.b, .b, .b, .b, .b, .b, .b, .b, .a, .a, .z, .z, .z, .z, .z, .z, .z, .b, .b, .z], [.b, .b, .b, .b, .b, .b, .a, .a, .a, .a, .a, .z, .z, .z, .z, .z, .z, .b, .b, .z], [.a, .a, .a, .a, .a, .a, .a, .a, .a, .a, .a, .a, .z, .z, .z, .z, .z, .b, .b, .z], [.a, .a, .a, .a, .a, .a, .a, .a, .a, .a, .a, .a, .a, .z, .z, .z, .z, .b, .b, .z], [.a, .a, .a, .a, .a, .a, .a, .a, .a, .a, .a, .a, .a, .a, .z, .z, .z, .b, .b, .z], [.a, .a, .a, .a, .a, .a, .a, .a, .a, .a, .a, .a, .a, .a, .a, .z, .b, .b, .b, .z], [.a, .a, .a, .a, .a, .a, .a, .a, .a, .a, .a, .a, .a, .a, .a, .b, .z, .b, .b, .r 112], [.b, .b, .b, .b, .b, .b, .b, .b, .b, .b, .b, .b, .b, .b, .b, .b, .b, .z, .b, .z], [.b, .b, .b, .b, .b, .b, .b, .b, .b, .b, .b, .b, .b, .b, .b, .b, .b, .b, .z, .z], [.a, .a, .a, .a, .a, .a, .a, .a, .a, .a, .a, .a, .a, .a, .a, .a, .b, .a, .a, .z]] [false, true, false, false, true, true, false, true, false, false, false, true, false, true, true, true, false, false, false, false, false, false, false, false, false, false, false, false, false, false, false, false, false, false, false, false, false, false, false, false, false, false, false, false, false, false, false, false, false, false, false, false, false, false, false, false, false, false, false, false, false, false, false, false, false, false, false, false, false, false, false, false, false, false, false, false, false, false, false, false, false, false, false, false, false, false, false, false, false] [120, 112, 104, 88, 56, 40, 32] (s1 := ⟨[.bot, I p2, .bot, .bot, .pt 32 0, .pt 40 0, .bot, .pt 56 0, .bot, .bot, .bot, .pt 88 0, .bot, .pt 104 0, .pt 112 0, .pt 120 0, .bot, .bot, .bot, .bot, .bot, .bot, .bot, .bot, .bot, .bot, .bot, .bot, .bot, .bot, .bot, .bot, .bot, .bot, .bot, .bot, .bot, .bot, .bot, .bot, .bot, .bot, .bot, .bot, .bot, .bot, .bot, .bot, .bot, .bot, .bot, .bot, .bot, .bot, .bot, .bot, .bot, .bot, .bot, .bot, .bot, .bot, .bot, .bot, .bot, .bot, .bot, .bot, .bot, .bot, .bot, .bot, .bot, .bot, .bot, .bot, .bot, .bot, .bot, .bot, .bot, .bot, .bot, .bot, .bot, .bot, .bot, .bot, .bot], [(120, .box [Ti y22.2.1, Ti y22.2.2.1, Ti y22.2.2.2.1, Ti y22.2.2.2.2]), (112, .box [Ti y22.1.1, Ti y22.1.2.1, Ti y22.1.2.2]), (104, .box [Ti y6.1, Ti o12.1, Ti y6.2.2.1, Ti y6.2.2.2]), (88, .box [Ti y5.2.1, Ti y5.2.2.1, Ti y5.2.2.2.1, Ti y5.2.2.2.2]), (56, .box [Ti y3.2.1, Ti y3.2.2.1, Ti y3.2.2.2.1, Ti y3.2.2.2.2]), (40, .box [Ti 0, Ti 0, Ti 0, Ti 0]), (32, .box [Ti 0, Ti 0, Ti 0])]⟩) (by kernel_rfl) (by kernel_rfl) ?_ ?_
  · refine DE_0 0 (.pt 96 0) (by kernel_rfl) rfl rfl rfl (gsat_none rfl) (by kernel_rfl) (E_field (.pt 96 0) Try.underlying36 rfl sz3 rfl (by kernel_rfl) (by intro hh; cases hh)) 59 rfl ?_
    refine DE_0 1 (I o12.2.1) (by kernel_rfl) rfl rfl rfl (gsat_none rfl) (by kernel_rfl) (Y0_load1 (c := Ti o12.2.1) (cs := [Ti o12.2.2.1, Ti o12.2.2.2]) sc3 rfl (by kernel_rfl)) 60 rfl ?_
    refine DE_0 2 (.pt 96 1) (by kernel_rfl) rfl rfl rfl (gsat_none rfl) (by kernel_rfl) (E_field (.pt 96 1) Try.underlying36 rfl sz3 rfl (by kernel_rfl) (by intro hh; cases hh)) 61 rfl ?_
    refine DE_0 3 (I o12.2.2.1) (by kernel_rfl) rfl rfl rfl (gsat_none rfl) (by kernel_rfl) (Y0_load1 (c := Ti o12.2.2.1) (cs := [Ti o12.2.2.2]) sc3 rfl (by kernel_rfl)) 62 rfl ?_
    refine DE_0 4 (I p2) (by kernel_rfl) rfl rfl rfl (gsat_none rfl) (by kernel_rfl) (E_move (I p2) rfl (by kernel_rfl)) 63 rfl ?_
    refine DE_0 5 (I (w64 (Int.tdiv o12.2.2.1 p2))) (by kernel_rfl) rfl rfl rfl (gsat_none rfl) (by kernel_rfl) (Y0_quo64 (a := o12.2.2.1) (b := p2) rfl (by kernel_rfl) (by kernel_rfl) (nz_some hz20)) 64 rfl ?_
    refine DE_0 6 (.pt 96 2) (by kernel_rfl) rfl rfl rfl (gsat_none rfl) (by kernel_rfl) (E_field (.pt 96 2) Try.underlying36 rfl sz3 rfl (by kernel_rfl) (by intro hh; cases hh)) 65 rfl ?_
    refine DE_0 7 (I o12.2.2.2) (by kernel_rfl) rfl rfl rfl (gsat_none rfl) (by kernel_rfl) (Y0_load1 (c := Ti o12.2.2.2) (cs := []) sc3 rfl (by kernel_rfl)) 66 rfl ?_
    refine DE_0 8 (I p2) (by kernel_rfl) rfl rfl rfl (gsat_none rfl) (by kernel_rfl) (E_move (I p2) rfl (by kernel_rfl)) 67 rfl ?_
    refine DE_0 9 (I p2) (by kernel_rfl) rfl rfl rfl (gsat_none rfl) (by kernel_rfl) (E_move (I p2) rfl (by kernel_rfl)) 68 rfl ?_
    refine DE_0 10 (I (w64 (p2 * p2))) (by kernel_rfl) rfl rfl rfl (gsat_none rfl) (by kernel_rfl) (Y0_mul64 (a := p2) (b := p2) rfl (by kernel_rfl) (by kernel_rfl)) 69 rfl ?_
    refine DE_0 11 (I (w64 (Int.tdiv o12.2.2.2 (w64 (p2 * p2))))) (by kernel_rfl) rfl rfl rfl (gsat_none rfl) (by kernel_rfl) (Y0_quo64 (a := o12.2.2.2) (b := w64 (p2 * p2)) rfl (by kernel_rfl) (by kernel_rfl) (nz_some hz21)) 70 rfl ?_
    refine DE_0 12 (.ag [Ti o12.2.1, Ti (w64 (Int.tdiv o12.2.2.1 p2)), Ti (w64 (Int.tdiv o12.2.2.2 (w64 (p2 * p2))))]) (by kernel_rfl) rfl rfl rfl (gsat_none rfl) (by kernel_rfl) (Y0_build (cs := [Ti o12.2.1, Ti (w64 (Int.tdiv o12.2.2.1 p2)), Ti (w64 (Int.tdiv o12.2.2.2 (w64 (p2 * p2))))]) pl36 bt36 rfl rfl (by kernel_rfl)) 71 rfl ?_
    refine DE_1 13 (by kernel_rfl) rfl rfl rfl (gsat_none rfl) (Y1_call (s_impl_reduce hy22) cf_impl_reduce rfl (by kernel_rfl)) rfl rfl rfl 72 rfl ?_
    refine DE_0 14 (.tc (.ag [Ti y22.1.1, Ti y22.1.2.1, Ti y22.1.2.2]) (.tc (.ag [Ti y22.2.1, Ti y22.2.2.1, Ti y22.2.2.2.1, Ti y22.2.2.2.2]) .tn)) (by kernel_rfl) rfl rfl rfl (gsat_none rfl) (by kernel_rfl) (E_move (.tc (.ag [Ti y22.1.1, Ti y22.1.2.1, Ti y22.1.2.2]) (.tc (.ag [Ti y22.2.1, Ti y22.2.2.1, Ti y22.2.2.2.1, Ti y22.2.2.2.2]) .tn)) rfl (by kernel_rfl)) 58 rfl ?_
    refine DE_0 15 (.ag [Ti y22.1.1, Ti y22.1.2.1, Ti y22.1.2.2]) (by kernel_rfl) rfl rfl rfl (gsat_none rfl) (by kernel_rfl) (E_ext (n := 0) (.ag [Ti y22.1.1, Ti y22.1.2.1, Ti y22.1.2.2]) (.tc (.ag [Ti y22.2.1, Ti y22.2.2.1, Ti y22.2.2.2.1, Ti y22.2.2.2.2]) .tn) (.ag [Ti y22.1.1, Ti y22.1.2.1, Ti y22.1.2.2]) rfl (by kernel_rfl) (by kernel_rfl) (by intro hh; cases hh)) 73 rfl ?_
    refine DE_0 16 (.ag [Ti y22.2.1, Ti y22.2.2.1, Ti y22.2.2.2.1, Ti y22.2.2.2.2]) (by kernel_rfl) rfl rfl rfl (gsat_none rfl) (by kernel_rfl) (E_ext (n := 1) (.ag [Ti y22.1.1, Ti y22.1.2.1, Ti y22.1.2.2]) (.tc (.ag [Ti y22.2.1, Ti y22.2.2.1, Ti y22.2.2.2.1, Ti y22.2.2.2.2]) .tn) (.ag [Ti y22.2.1, Ti y22.2.2.1, Ti y22.2.2.2.1, Ti y22.2.2.2.2]) rfl (by kernel_rfl) (by kernel_rfl) (by intro hh; cases hh)) 74 rfl ?_
    refine DE_1 17 (by kernel_rfl) rfl rfl rfl (gsat_none rfl) (Y1_alloc (z := zv36) rfl zf36 rfl) rfl rfl rfl 14 rfl ?_
    refine DE_1 18 (by kernel_rfl) rfl rfl rfl (gsat_none rfl) (Y1_alloc (z := zv38) rfl zf38 rfl) rfl rfl rfl 15 rfl ?_
    refine DE_2 (off := 0) (cs := [Ti 0, Ti 0, Ti 0]) (vc := [Ti y22.1.1, Ti y22.1.2.1, Ti y22.1.2.2]) 19 112 [Ti y22.1.1, Ti y22.1.2.1, Ti y22.1.2.2] (by kernel_rfl) rfl rfl rfl (gsat_none rfl) rfl rfl (by kernel_rfl) (by kernel_rfl) (by kernel_rfl) sz36 (Nat.le_of_ble_eq_true rfl) (by kernel_rfl) (by kernel_rfl) (by kernel_rfl) (by kernel_rfl) ?_
    refine DL_nil (by kernel_rfl) ?_
    refine XL_cons rfl (E_store (id := 120) (off := 0) (cs := [Ti 0, Ti 0, Ti 0, Ti 0]) (vc := [Ti y22.2.1, Ti y22.2.2.1, Ti y22.2.2.2.1, Ti y22.2.2.2.2]) [Ti y22.2.1, Ti y22.2.2.1, Ti y22.2.2.2.1, Ti y22.2.2.2.2] rfl rfl (by kernel_rfl) (by kernel_rfl) (by kernel_rfl) sz38 (Nat.le_of_ble_eq_true rfl) (by kernel_rfl)) ?_
    refine XL_nil ?_
    kernel_rfl
  obtain ⟨y23, hy23, h⟩ := of_bind h
  obtain ⟨y24, hy24, h⟩ := of_bind h
  refine V_sdreg [0, 0, 3, 0, 15, 0, 63] 6 [[.z, .b, .z, .b, .z, .b], [.b, .z, .z, .b, .z, .b], [.a, .a, .z, .b, .z, .b], [.b, .b, .b, .z, .z, .b], [.a, .a, .a, .a, .z, .b], [.b, .b, .b, .b, .b, .z]] [false, true, false, false, true, true, false, false, false, false, false, false, false, false, true, true, true, false, false, false, false, false, false, false, false, false, false, false, false, false, false, false, false, false, false, false, false, false, false, false, false, false, false, false, false, false, false, false, false, false, false, false, false, false, false, false, false, false, false, false, false, false, false, false, false, false, false, false, false, false, false, false, false, false, false, false, false, false, false, false, false, false, false, false, false, false, false, false, false] [128, 120, 112, 40, 32] (s1 := ⟨[.bot, I p2, .bot, .bot, .pt 32 0, .pt 40 0, .bot, .bot, .bot, .bot, .bot, .bot, .bot, .bot, .pt 112 0, .pt 120 0, .pt 128 0, .bot, .bot, .bot, .bot, .bot, .bot, .bot, .bot, .bot, .bot, .bot, .bot, .bot, .bot, .bot, .bot, .bot, .bot, .bot, .bot, .bot, .bot, .bot, .bot, .bot, .bot, .bot, .bot, .bot, .bot, .bot, .bot, .bot, .bot, .bot, .bot, .bot, .bot, .bot, .bot, .bot, .bot, .bot, .bot, .bot, .bot, .bot, .bot, .bot, .bot, .bot, .bot, .bot, .bot, .bot, .bot, .bot, .bot, .bot, .bot, .bot, .bot, .bot, .bot, .bot, .bot, .bot, .bot, .bot, .bot, .bot, .bot], [(128, .box [Ti y24.1, Ti y24.2.1, Ti y24.2.2.1, Ti y24.2.2.2]), (120, .box [Ti y22.2.1, Ti y22.2.2.1, Ti y22.2.2.2.1, Ti y22.2.2.2.2]), (112, .box [Ti y22.1.1, Ti y22.1.2.1, Ti y22.1.2.2]), (40, .box [Ti 0, Ti 0, Ti 0, Ti 0]), (32, .box [Ti 0, Ti 0, Ti 0])]⟩) (by kernel_rfl) (by kernel_rfl) ?_ ?_
  · refine DE_0 0 (.ag [Ti y3.2.1, Ti y3.2.2.1, Ti y3.2.2.2.1, Ti y3.2.2.2.2]) (by kernel_rfl) rfl rfl rfl (gsat_none rfl) (by kernel_rfl) (E_loadn (cs := [Ti y3.2.1, Ti y3.2.2.1, Ti y3.2.2.2.1, Ti y3.2.2.2.2]) [Ti y3.2.1, Ti y3.2.2.1, Ti y3.2.2.2.1, Ti y3.2.2.2.2] wd38 rfl (by kernel_rfl) (Nat.le_of_ble_eq_true rfl) (by kernel_rfl)) 75 rfl ?_
    refine DE_0 1 (.ag [Ti y5.2.1, Ti y5.2.2.1, Ti y5.2.2.2.1, Ti y5.2.2.2.2]) (by kernel_rfl) rfl rfl rfl (gsat_none rfl) (by kernel_rfl) (E_loadn (cs := [Ti y5.2.1, Ti y5.2.2.1, Ti y5.2.2.2.1, Ti y5.2.2.2.2]) [Ti y5.2.1, Ti y5.2.2.1, Ti y5.2.2.2.1, Ti y5.2.2.2.2] wd38 rfl (by kernel_rfl) (Nat.le_of_ble_eq_true rfl) (by kernel_rfl)) 76 rfl ?_
    refine DE_1 2 (by kernel_rfl) rfl rfl rfl (gsat_none rfl) (Y1_call (s_impl_Matrix_times hy23) cf_impl_Matrix_times rfl (by kernel_rfl)) rfl rfl rfl 77 rfl ?_
    refine DE_0 3 (.ag [Ti y6.1, Ti o12.1, Ti y6.2.2.1, Ti y6.2.2.2]) (by kernel_rfl) rfl rfl rfl (gsat_none rfl) (by kernel_rfl) (E_loadn (cs := [Ti y6.1, Ti o12.1, Ti y6.2.2.1, Ti y6.2.2.2]) [Ti y6.1, Ti o12.1, Ti y6.2.2.1, Ti y6.2.2.2] wd38 rfl (by kernel_rfl) (Nat.le_of_ble_eq_true rfl) (by kernel_rfl)) 78 rfl ?_
    refine DE_1 4 (by kernel_rfl) rfl rfl rfl (gsat_none rfl) (Y1_call (s_impl_Matrix_times hy24) cf_impl_Matrix_times rfl (by kernel_rfl)) rfl rfl rfl 79 rfl ?_
    refine DE_1 5 (by kernel_rfl) rfl rfl rfl (gsat_none rfl) (Y1_alloc (z := zv38) rfl zf38 rfl) rfl rfl rfl 16 rfl ?_
    refine DL_nil (by kernel_rfl) ?_
    refine XL_cons rfl (E_store (id := 128) (off := 0) (cs := [Ti 0, Ti 0, Ti 0, Ti 0]) (vc := [Ti y24.1, Ti y24.2.1, Ti y24.2.2.1, Ti y24.2.2.2]) [Ti y24.1, Ti y24.2.1, Ti y24.2.2.1, Ti y24.2.2.2] rfl rfl (by kernel_rfl) (by kernel_rfl) (by kernel_rfl) sz38 (Nat.le_of_ble_eq_true rfl) (by kernel_rfl)) ?_
    refine XL_nil ?_
    kernel_rfl
  obtain ⟨y25, hy25, h⟩ := of_bind h
  obtain ⟨y26, hy26, h⟩ := of_bind h
  obtain ⟨y27, hy27, h⟩ := of_bind h
  obtain ⟨y28, hy28, h⟩ := of_bind h
  refine V_sdreg [0, 0, 2, 0, 8, 30, 0, 126, 254, 511, 1023] 9 [[.z, .b, .b, .b, .b, .b, .b, .b, .b], [.b, .z, .z, .b, .b, .z, .b, .z, .z], [.b, .a, .z, .b, .b, .z, .b, .z, .z], [.b, .b, .b, .z, .z, .z, .b, .z, .z], [.b, .b, .b, .a, .z, .z, .b, .z, .z], [.b, .a, .a, .a, .a, .z, .b, .z, .z], [.b, .b, .b, .b, .b, .b, .z, .z, .z], [.b, .a, .a, .a, .a, .a, .a, .z, .z], [.b, .a, .a, .a, .a, .a, .a, .a, .z]] [false, false, false, false, true, true, false, false, false, false, false, false, false, false, false, false, false, false, false, false, false, false, false, false, false, false, false, false, false, false, false, false, false, false, false, false, false, false, false, false, false, false, false, false, false, false, false, false, false, false, false, false, false, false, false, false, false, false, false, false, false, false, false, false, false, false, false, false, false, false, false, false, false, false, false, false, false, false, false, false, false, false, false, false, false, false, false, false, false] [40, 32] (s1 := ⟨[.bot, .bot, .bot, .bot, .pt 32 0, .pt 40 0, .bot, .bot, .bot, .bot, .bot, .bot, .bot, .bot, .bot, .bot, .bot, .bot, .bot, .bot, .bot, .bot, .bot, .bot, .bot, .bot, .bot, .bot, .bot, .bot, .bot, .bot, .bot, .bot, .bot, .bot, .bot, .bot, .bot, .bot, .bot, .bot, .bot, .bot, .bot, .bot, .bot, .bot, .bot, .bot, .bot, .bot, .bot, .bot, .bot, .bot, .bot, .bot, .bot, .bot, .bot, .bot, .bot, .bot, .bot, .bot, .bot, .bot, .bot, .bot, .bot, .bot, .bot, .bot, .bot, .bot, .bot, .bot, .bot, .bot, .bot, .bot, .bot, .bot, .bot, .bot, .bot, .bot, .bot], [(40, .box [Ti y28.1, Ti y28.2.1, Ti y28.2.2.1, Ti y28.2.2.2]), (32, .box [Ti y22.1.1, Ti y22.1.2.1, Ti y22.1.2.2])]⟩) (by kernel_rfl) (by kernel_rfl) ?_ ?_
  · refine DE_0 0 (.ag [Ti y22.1.1, Ti y22.1.2.1, Ti y22.1.2.2]) (by kernel_rfl) rfl rfl rfl (gsat_none rfl) (by kernel_rfl) (E_loadn (cs := [Ti y22.1.1, Ti y22.1.2.1, Ti y22.1.2.2]) [Ti y22.1.1, Ti y22.1.2.1, Ti y22.1.2.2] wd36 rfl (by kernel_rfl) (Nat.le_of_ble_eq_true rfl) (by kernel_rfl)) 80 rfl ?_
    refine DE_0 1 (.ag [Ti y22.2.1, Ti y22.2.2.1, Ti y22.2.2.2.1, Ti y22.2.2.2.2]) (by kernel_rfl) rfl rfl rfl (gsat_none rfl) (by kernel_rfl) (E_loadn (cs := [Ti y22.2.1, Ti y22.2.2.1, Ti y22.2.2.2.1, Ti y22.2.2.2.2]) [Ti y22.2.1, Ti y22.2.2.1, Ti y22.2.2.2.1, Ti y22.2.2.2.2] wd38 rfl (by kernel_rfl) (Nat.le_of_ble_eq_true rfl) (by kernel_rfl)) 81 rfl ?_
    refine DE_1 2 (by kernel_rfl) rfl rfl rfl (gsat_none rfl) (Y1_call (s_impl_Matrix_inverse hy25) cf_impl_Matrix_inverse rfl (by kernel_rfl)) rfl rfl rfl 82 rfl ?_
    refine DE_0 3 (I p2) (by kernel_rfl) rfl rfl rfl (gsat_none rfl) (by kernel_rfl) (E_move (I p2) rfl (by kernel_rfl)) 83 rfl ?_
    refine DE_0 4 (.ag [Ti 1, Ti 0, Ti 0, Ti p2]) (by kernel_rfl) rfl rfl rfl (gsat_none rfl) (by kernel_rfl) (Y0_build (cs := [Ti 1, Ti 0, Ti 0, Ti p2]) pl38 bt38 rfl rfl (by kernel_rfl)) 84 rfl ?_
    refine DE_1 5 (by kernel_rfl) rfl rfl rfl (gsat_none rfl) (Y1_call (s_impl_Matrix_times hy26) cf_impl_Matrix_times rfl (by kernel_rfl)) rfl rfl rfl 85 rfl ?_
    refine DE_0 6 (.ag [Ti y24.1, Ti y24.2.1, Ti y24.2.2.1, Ti y24.2.2.2]) (by kernel_rfl) rfl rfl rfl (gsat_none rfl) (by kernel_rfl) (E_loadn (cs := [Ti y24.1, Ti y24.2.1, Ti y24.2.2.1, Ti y24.2.2.2]) [Ti y24.1, Ti y24.2.1, Ti y24.2.2.1, Ti y24.2.2.2] wd38 rfl (by kernel_rfl) (Nat.le_of_ble_eq_true rfl) (by kernel_rfl)) 86 rfl ?_
    refine DE_1 7 (by kernel_rfl) rfl rfl rfl (gsat_none rfl) (Y1_call (s_impl_Matrix_inverse hy27) cf_impl_Matrix_inverse rfl (by kernel_rfl)) rfl rfl rfl 87 rfl ?_
    refine DE_1 8 (by kernel_rfl) rfl rfl rfl (gsat_none rfl) (Y1_call (s_impl_Matrix_times hy28) cf_impl_Matrix_times rfl (by kernel_rfl)) rfl rfl rfl 88 rfl ?_
    refine DL_nil (by kernel_rfl) ?_
    refine XL_cons rfl (E_store (id := 32) (off := 0) (cs := [Ti 0, Ti 0, Ti 0]) (vc := [Ti y22.1.1, Ti y22.1.2.1, Ti y22.1.2.2]) [Ti y22.1.1, Ti y22.1.2.1, Ti y22.1.2.2] rfl rfl (by kernel_rfl) (by kernel_rfl) (by kernel_rfl) sz36 (Nat.le_of_ble_eq_true rfl) (by kernel_rfl)) ?_
    refine XL_cons rfl (E_store (id := 40) (off := 0) (cs := [Ti 0, Ti 0, Ti 0, Ti 0]) (vc := [Ti y28.1, Ti y28.2.1, Ti y28.2.2.1, Ti y28.2.2.2]) [Ti y28.1, Ti y28.2.1, Ti y28.2.2.1, Ti y28.2.2.2] rfl rfl (by kernel_rfl) (by kernel_rfl) (by kernel_rfl) sz38 (Nat.le_of_ble_eq_true rfl) (by kernel_rfl)) ?_
    refine XL_nil ?_
    kernel_rfl
  refine V_ret ?_
  obtain rfl := some_inj h
  show Post _ _ _ _ _
  exact ⟨.inr rfl, rfl, rfl, rfl⟩
theorem cf_impl_above_1 : ∀ args w, (callFunc 133 args).run Try.prog w = .ok (.enter 133 args) w := run_callFunc Try.func133 (by kernel_rfl) (by kernel_rfl)
set_option maxRecDepth 100000 in
set_option maxHeartbeats 400000 in
theorem s_impl_above_1 {g1 : (Int × Int × Int)} {cap2 : Int} {cap3 : (Int × Int × Int)} {r : Bool} (h : r_impl_above_1 g1 cap2 cap3 = some r) : CallS Try.prog 133 [.ag [Ti g1.1, Ti g1.2.1, Ti g1.2.2], .pe [Ti cap2], .pe [Ti cap3.1, Ti cap3.2.1, Ti cap3.2.2]] (Bo r) [] := by
  refine CallS_of_text (rs := [.t 4]) (vs := [.tmp 4]) Try.func133 rfl rfl (.cons rfl FitsL.nil) (by decide) 16 rfl ?_
  unfold r_impl_above_1 at h
  show V _ _ ⟨[.ag [Ti g1.1, Ti g1.2.1, Ti g1.2.2], .pe [Ti cap2], .pe [Ti cap3.1, Ti cap3.2.1, Ti cap3.2.2], .bot, .bot, .bot, .bot, .bot, .bot, .bot, .bot, .bot, .bot, .bot, .bot, .bot], []⟩ _
  refine V_sreg [false, true, true, true, false, false, false, false, false, false, false, false, false, false, false, false] [24] (s1 := ⟨[.bot, .pe [Ti cap2], .pe [Ti cap3.1, Ti cap3.2.1, Ti cap3.2.2], .pt 24 0, .bot, .bot, .bot, .bot, .bot, .bot, .bot, .bot, .bot, .bot, .bot, .bot], [(24, .box [Ti g1.1, Ti g1.2.1, Ti g1.2.2])]⟩) ?_ ?_
  · refine XL_cons rfl (X_of_Y1 rfl (Y1_box (cs := [Ti g1.1, Ti g1.2.1, Ti g1.2.2]) rfl (by kernel_rfl))) ?_
    refine XL_cons rfl (X_of_Y0 rfl (E_assign (Bo false) rfl (by kernel_rfl))) ?_
    refine XL_nil ?_
    kernel_rfl
  obtain ⟨y4, hy4, h⟩ := of_bind h
  refine V_sreg [false, false, true, false, false, true, false, false, false, false, false, false, false, false, false, false] [40] (s1 := ⟨[.bot, .bot, .pe [Ti cap3.1, Ti cap3.2.1, Ti cap3.2.2], .bot, .bot, .pt 40 0, .bot, .bot, .bot, .bot, .bot, .bot, .bot, .bot, .bot, .bot], [(40, .box [Ti y4.1.1, Ti y4.1.2.1, Ti y4.1.2.2])]⟩) ?_ ?_
  · refine XL_cons rfl (X_of_Y0 rfl (E_loadn (cs := [Ti g1.1, Ti g1.2.1, Ti g1.2.2]) [Ti g1.1, Ti g1.2.1, Ti g1.2.2] wd36 rfl (by kernel_rfl) (Nat.le_of_ble_eq_true rfl) (by kernel_rfl))) ?_
    refine XL_cons rfl (X_of_Y0 rfl (Y0_load1 (c := Ti cap2) (cs := []) sc3 rfl (by kernel_rfl))) ?_
    refine XL_cons rfl (X_of_Y1 rfl (Y1_call (s_impl_descend hy4) cf_impl_descend rfl (by kernel_rfl))) ?_
    refine XL_cons rfl (X_of_Y0 rfl (E_move (.tc (.ag [Ti y4.1.1, Ti y4.1.2.1, Ti y4.1.2.2]) (.tc (.ag [Ti y4.2.1, Ti y4.2.2.1, Ti y4.2.2.2.1, Ti y4.2.2.2.2]) .tn)) rfl (by kernel_rfl))) ?_
    refine XL_cons rfl (X_of_Y0 rfl (E_ext (n := 0) (.ag [Ti y4.1.1, Ti y4.1.2.1, Ti y4.1.2.2]) (.tc (.ag [Ti y4.2.1, Ti y4.2.2.1, Ti y4.2.2.2.1, Ti y4.2.2.2.2]) .tn) (.ag [Ti y4.1.1, Ti y4.1.2.1, Ti y4.1.2.2]) rfl (by kernel_rfl) (by kernel_rfl) (by intro hh; cases hh))) ?_
    refine XL_cons rfl (X_of_Y0 rfl (E_ext (n := 1) (.ag [Ti y4.1.1, Ti y4.1.2.1, Ti y4.1.2.2]) (.tc (.ag [Ti y4.2.1, Ti y4.2.2.1, Ti y4.2.2.2.1, Ti y4.2.2.2.2]) .tn) (.ag [Ti y4.2.1, Ti y4.2.2.1, Ti y4.2.2.2.1, Ti y4.2.2.2.2]) rfl (by kernel_rfl) (by kernel_rfl) (by intro hh; cases hh))) ?_
    refine XL_cons rfl (X_of_Y1 rfl (Y1_alloc (z := zv36) rfl zf36 rfl)) ?_
    refine XL_cons rfl (X_of_Y1 rfl (Y1_alloc (z := zv38) rfl zf38 rfl)) ?_
    refine XL_cons rfl (E_store (id := 40) (off := 0) (cs := [Ti 0, Ti 0, Ti 0]) (vc := [Ti y4.1.1, Ti y4.1.2.1, Ti y4.1.2.2]) [Ti y4.1.1, Ti y4.1.2.1, Ti y4.1.2.2] rfl rfl (by kernel_rfl) (by kernel_rfl) (by kernel_rfl) sz36 (Nat.le_of_ble_eq_true rfl) (by kernel_rfl)) ?_
    refine XL_cons rfl (E_store (id := 48) (off := 0) (cs := [Ti 0, Ti 0, Ti 0, Ti 0]) (vc := [Ti y4.2.1, Ti y4.2.2.1, Ti y4.2.2.2.1, Ti y4.2.2.2.2]) [Ti y4.2.1, Ti y4.2.2.1, Ti y4.2.2.2.1, Ti y4.2.2.2.2] rfl rfl (by kernel_rfl) (by kernel_rfl) (by kernel_rfl) sz38 (Nat.le_of_ble_eq_true rfl) (by kernel_rfl)) ?_
    refine XL_nil ?_
    kernel_rfl
  obtain ⟨t5, ht5, h⟩ := of_bind h
  have ht5 := some_inj ht5
  refine V_sreg [false, false, false, false, true, false, false, false, false, false, false, false, false, false, false, false] [] (s1 := ⟨[.bot, .bot, .bot, .bot, Bo t5, .bot, .bot, .bot, .bot, .bot, .bot, .bot, .bot, .bot, .bot, .bot], []⟩) ?_ ?_
  · refine XL_cons rfl (X_of_Y0 rfl (E_loadn (cs := [Ti y4.1.1, Ti y4.1.2.1, Ti y4.1.2.2]) [Ti y4.1.1, Ti y4.1.2.1, Ti y4.1.2.2] wd36 rfl (by kernel_rfl) (Nat.le_of_ble_eq_true rfl) (by kernel_rfl))) ?_
    refine XL_cons rfl (X_of_Y0 rfl (E_loadn (cs := [Ti cap3.1, Ti cap3.2.1, Ti cap3.2.2]) [Ti cap3.1, Ti cap3.2.1, Ti cap3.2.2] wd36 rfl (by kernel_rfl) (Nat.le_of_ble_eq_true rfl) (by kernel_rfl))) ?_
    refine XL_cons rfl (X_of_Y0 rfl (Y0_eqg3 (a0 := y4.1.1) (b0 := cap3.1) (a1 := y4.1.2.1) (b1 := cap3.2.1) (a2 := y4.1.2.2) (b2 := cap3.2.2) eqg36 rfl (by kernel_rfl) (by kernel_rfl))) ?_
    refine XL_cons rfl (X_of_Y0 rfl (E_assign (Bo (((y4.1.1 == cap3.1) && ((y4.1.2.1 == cap3.2.1) && (y4.1.2.2 == cap3.2.2))))) rfl (by kernel_rfl))) ?_
    refine XL_nil ?_
    subst ht5
    kernel_rfl
  refine V_ret ?_
  obtain rfl := some_inj h
  show Post _ _ _ _ _
  exact ⟨.inr rfl, rfl, rfl, rfl⟩
theorem cf_impl_above : ∀ args w, (callFunc 91 args).run Try.prog w = .ok (.enter 91 args) w := run_callFunc Try.func91 (by kernel_rfl) (by kernel_rfl)
set_option maxRecDepth 100000 in
set_option maxHeartbeats 400000 in
theorem s_impl_above {f1 : (Int × Int × Int)} {p2 : Int} {r : List ((Int × Int × Int))} (h : r_impl_above f1 p2 = some r) : CallS Try.prog 91 [.ag [Ti f1.1, Ti f1.2.1, Ti f1.2.2], I p2] (.ow 0) [(0, .arr 36 3 (r.map c36))] := by
  refine CallS_of_text (rs := [.t 4]) (vs := [.tmp 4]) Try.func91 rfl rfl (.cons rfl FitsL.nil) (by decide) 13 rfl ?_
  unfold r_impl_above at h
  show V _ _ ⟨[.ag [Ti f1.1, Ti f1.2.1, Ti f1.2.2], I p2, .bot, .bot, .bot, .bot, .bot, .bot, .bot, .bot, .bot, .bot, .bot], []⟩ _
  refine V_sreg [false, false, true, true, false, false, false, false, false, false, false, false, false] [24, 16] (s1 := ⟨[.bot, .bot, .pt 16 0, .pt 24 0, .bot, .bot, .bot, .bot, .bot, .bot, .bot, .bot, .bot], [(24, .box [Ti p2]), (16, .box [Ti f1.1, Ti f1.2.1, Ti f1.2.2])]⟩) ?_ ?_
  · refine XL_cons rfl (X_of_Y1 rfl (Y1_box (cs := [Ti f1.1, Ti f1.2.1, Ti f1.2.2]) rfl (by kernel_rfl))) ?_
    refine XL_cons rfl (X_of_Y1 rfl (Y1_box (cs := [Ti p2]) rfl (by kernel_rfl))) ?_
    refine XL_cons rfl (X_of_Y1 rfl (Y1_nil (e := 36) 3 (by decide) (.inl rfl))) ?_
    refine XL_nil ?_
    kernel_rfl
  refine V_freezeB 24 (cs := [Ti p2]) (s1 := ⟨[.bot, .bot, .pt 16 0, .pe [Ti p2], .bot, .bot, .bot, .bot, .bot, .bot, .bot, .bot, .bot], [(16, .box [Ti f1.1, Ti f1.2.1, Ti f1.2.2])]⟩) (by kernel_rfl) (by kernel_rfl) ?_
  refine V_freezeB 16 (cs := [Ti f1.1, Ti f1.2.1, Ti f1.2.2]) (s1 := ⟨[.bot, .bot, .pe [Ti f1.1, Ti f1.2.1, Ti f1.2.2], .pe [Ti p2], .bot, .bot, .bot, .bot, .bot, .bot, .bot, .bot, .bot], []⟩) (by kernel_rfl) (by kernel_rfl) ?_
  obtain ⟨y3, hy3, h⟩ := of_bind h
  obtain ⟨y4, hy4, h⟩ := of_bind h
  refine V_sdreg [0, 1, 0, 7, 0, 31, 0, 127, 255] 9 [[.z, .z, .b, .z, .b, .z, .b, .z, .z], [.a, .z, .b, .z, .b, .z, .b, .z, .z], [.b, .b, .z, .z, .b, .z, .b, .z, .z], [.a, .a, .a, .z, .b, .z, .b, .z, .z], [.b, .b, .b, .b, .z, .z, .b, .z, .z], [.a, .a, .a, .a, .a, .z, .b, .z, .z], [.b, .b, .b, .b, .b, .b, .z, .z, .z], [.a, .a, .a, .a, .a, .a, .a, .z, .z], [.a, .a, .a, .a, .a, .a, .a, .a, .z]] [false, false, false, false, true, false, false, false, false, false, false, false, false] [96] (s1 := ⟨[.bot, .bot, .bot, .bot, .ow 96, .bot, .bot, .bot, .bot, .bot, .bot, .bot, .bot], [(96, .arr 36 3 (y4.map c36))]⟩) (by kernel_rfl) (by kernel_rfl) ?_ ?_
  · refine DE_0 0 (.ag [Ti f1.1, Ti f1.2.1, Ti f1.2.2]) (by kernel_rfl) rfl rfl rfl (gsat_none rfl) (by kernel_rfl) (E_loadn (cs := [Ti f1.1, Ti f1.2.1, Ti f1.2.2]) [Ti f1.1, Ti f1.2.1, Ti f1.2.2] wd36 rfl (by kernel_rfl) (Nat.le_of_ble_eq_true rfl) (by kernel_rfl)) 5 rfl ?_
    refine DE_1 1 (by kernel_rfl) rfl rfl rfl (gsat_none rfl) (Y1_call (s_impl_Form_disc hy3) cf_impl_Form_disc rfl (by kernel_rfl)) rfl rfl rfl 6 rfl ?_
    refine DE_0 2 (I p2) (by kernel_rfl) rfl rfl rfl (gsat_none rfl) (by kernel_rfl) (Y0_load1 (c := Ti p2) (cs := []) sc3 rfl (by kernel_rfl)) 7 rfl ?_
    refine DE_0 3 (I (w64 (y3 * p2))) (by kernel_rfl) rfl rfl rfl (gsat_none rfl) (by kernel_rfl) (Y0_mul64 (a := y3) (b := p2) rfl (by kernel_rfl) (by kernel_rfl)) 8 rfl ?_
    refine DE_0 4 (I p2) (by kernel_rfl) rfl rfl rfl (gsat_none rfl) (by kernel_rfl) (Y0_load1 (c := Ti p2) (cs := []) sc3 rfl (by kernel_rfl)) 9 rfl ?_
    refine DE_0 5 (I (w64 ((w64 (y3 * p2)) * p2))) (by kernel_rfl) rfl rfl rfl (gsat_none rfl) (by kernel_rfl) (Y0_mul64 (a := w64 (y3 * p2)) (b := p2) rfl (by kernel_rfl) (by kernel_rfl)) 10 rfl ?_
    refine DE_0 6 (.fn 133 [[Ti p2], [Ti f1.1, Ti f1.2.1, Ti f1.2.2]]) (by kernel_rfl) rfl rfl rfl (gsat_none rfl) (by kernel_rfl) (Y0_makeFunc (f := 133) (cs := [[Ti p2], [Ti f1.1, Ti f1.2.1, Ti f1.2.2]]) rfl (by kernel_rfl)) 11 rfl ?_
    refine DE_1 7 (by kernel_rfl) rfl rfl rfl (gsat_none rfl) (Y1_call (s_impl_formsLike (fso2 := 133) (cso2 := [[Ti p2], [Ti f1.1, Ti f1.2.1, Ti f1.2.2]]) cf_impl_above_1 (fun hh => s_impl_above_1 hh) hy4) cf_impl_formsLike rfl (by kernel_rfl)) rfl rfl rfl 12 rfl ?_
    refine DE_0 8 (.ow 96) (by kernel_rfl) rfl rfl rfl (gsat_none rfl) (by kernel_rfl) (E_assign (.ow 96) rfl (by kernel_rfl)) 4 rfl ?_
    refine DL_nil (by kernel_rfl) ?_
    refine XL_nil ?_
    kernel_rfl
  refine V_ret ?_
  obtain rfl := some_inj h
  show Post _ _ _ _ _
  exact ⟨.inr rfl, rfl, rfl, rfl⟩
theorem cf_impl_KernelClasses : ∀ args w, (callFunc 43 args).run Try.prog w = .ok (.enter 43 args) w := run_callFunc Try.func43 (by kernel_rfl) (by kernel_rfl)
set_option maxRecDepth 100000 in
set_option maxHeartbeats 400000 in
theorem s_impl_KernelClasses {d1 : Int} {p2 : Int} {r : ((List ((Int × Int × Int))) × Bool)} (h : r_impl_KernelClasses d1 p2 = some r) : CallS Try.prog 43 [I d1, I p2] (.tc (.ow 0) (.tc (Bo r.2) .tn)) [(0, .arr 36 3 (r.1.map c36))] := by
  refine CallS_of_text (rs := [.t 4, .t 5]) (vs := [.tmp 4, .tmp 5]) Try.func43 rfl rfl (.cons rfl (.cons rfl FitsL.nil)) (by decide) 21 rfl ?_
  unfold r_impl_KernelClasses at h
  show V _ _ ⟨[I d1, I p2, .bot, .bot, .bot, .bot, .bot, .bot, .bot, .bot, .bot, .bot, .bot, .bot, .bot, .bot, .bot, .bot, .bot, .bot, .bot], []⟩ _
  refine V_sreg [true, true, false, false, false, false, false, false, false, false, false, false, false, false, false, false, false, false, false, false, false] [] (s1 := ⟨[I d1, I p2, .bot, .bot, .bot, .bot, .bot, .bot, .bot, .bot, .bot, .bot, .bot, .bot, .bot, .bot, .bot, .bot, .bot, .bot, .bot], []⟩) ?_ ?_
  · refine XL_cons rfl (X_of_Y1 rfl (Y1_nil (e := 36) 3 (by decide) (.inl rfl))) ?_
    refine XL_cons rfl (X_of_Y0 rfl (E_assign (Bo false) rfl (by kernel_rfl))) ?_
    refine XL_nil ?_
    kernel_rfl
  refine V_seq ?_
  obtain ⟨y3, hy3, h⟩ := of_bind h
  obtain ⟨b6, hb6, h⟩ := of_bind h
  refine V_sreg [true, true, false, false, false, false, false, false, false, false, false, false, false, false, true, false, false, false, false, false, false] [] (s1 := ⟨[I d1, I p2, .bot, .bot, .bot, .bot, .bot, .bot, .bot, .bot, .bot, .bot, .bot, .bot, Bo b6, .bot, .bot, .bot, .bot, .bot, .bot], []⟩) ?_ ?_
  · refine XL_cons rfl (X_of_Y0 rfl (E_move (I d1) rfl (by kernel_rfl))) ?_
    refine XL_cons rfl (X_of_Y1 rfl (Y1_call (s_impl_isNegativeDisc hy3) cf_impl_isNegativeDisc rfl (by kernel_rfl))) ?_
    refine XL_cons rfl (X_of_Y0 rfl (Y0_not (b := y3) rfl (by kernel_rfl))) ?_
    refine XL_cons rfl (X_of_Y0 rfl (E_move (Bo (!y3)) rfl (by kernel_rfl))) ?_
    refine XL_split (!y3) (fun hc4 => ?_) (fun hc4 => ?_)
    · have hb6 := some_inj (of_true hb6 hc4)
      refine XL_skipF (!y3) rfl rfl (by kernel_rfl) hc4 rfl ?_
      refine XL_skipF (!y3) rfl rfl (by kernel_rfl) hc4 rfl ?_
      refine XL_skipF (!y3) rfl rfl (by kernel_rfl) hc4 rfl ?_
      refine XL_skipF (!y3) rfl rfl (by kernel_rfl) hc4 rfl ?_
      refine XL_cons rfl (X_of_Y0 rfl (Y0_pickTe (b := !y3) (p := true) rfl (by kernel_rfl) hc4 (by kernel_rfl) hb6)) ?_
      refine XL_nil ?_
      kernel_rfl
    · have hb6 := of_false hb6 hc4
      obtain ⟨y5, hy5, hb6⟩ := of_bind hb6
      have hb6 := some_inj hb6
      refine XL_takeC (!y3) rfl rfl (by kernel_rfl) hc4 (X_of_Y0 rfl (E_move (I d1) rfl (by kernel_rfl))) ?_
      refine XL_takeC (!y3) rfl rfl (by kernel_rfl) hc4 (X_of_Y0 rfl (E_move (I p2) rfl (by kernel_rfl))) ?_
      refine XL_takeC (!y3) rfl rfl (by kernel_rfl) hc4 (X_of_Y1 rfl (Y1_call (s_impl_canRise hy5) cf_impl_canRise rfl (by kernel_rfl))) ?_
      refine XL_takeC (!y3) rfl rfl (by kernel_rfl) hc4 (X_of_Y0 rfl (Y0_not (b := y5) rfl (by kernel_rfl))) ?_
      refine XL_cons rfl (X_of_Y0 rfl (Y0_pickFe (b := !y3) (p := !y5) rfl (by kernel_rfl) hc4 (by kernel_rfl) hb6)) ?_
      refine XL_nil ?_
      kernel_rfl
  refine V_cond rfl (fun hc7 => ?_) (fun hc7 => ?_)
  · have h := of_true h hc7
    refine V_sreg [false, false, false, false, true, true, false, false, false, false, false, false, false, false, false, false, false, false, false, false, false] [120] (s1 := ⟨[.bot, .bot, .bot, .bot, .ow 120, Bo false, .bot, .bot, .bot, .bot, .bot, .bot, .bot, .bot, .bot, .bot, .bot, .bot, .bot, .bot, .bot], [(120, .arr 36 3 ((([] : List ((Int × Int × Int)))).map c36))]⟩) ?_ ?_
    · refine XL_cons rfl (X_of_Y1 rfl (Y1_bslice0 Try.underlying53 sz36 (by decide) rfl rfl)) ?_
      refine XL_cons rfl (X_of_Y0 rfl (E_assign (.ow 120) rfl (by kernel_rfl))) ?_
      refine XL_cons rfl (X_of_Y0 rfl (E_assign (Bo false) rfl (by kernel_rfl))) ?_
      refine XL_nil ?_
      kernel_rfl
    refine V_ret ?_
    obtain rfl := some_inj h
    show Post _ _ _ _ _
    exact ⟨.inr rfl, rfl, rfl, rfl⟩
  · have h := of_false h hc7
    refine V_skip ?_
    show V _ _ _ _
    obtain ⟨y8, hy8, h⟩ := of_bind h
    obtain ⟨y9, hy9, h⟩ := of_bind h
    obtain ⟨y10, hy10, h⟩ := of_bind h
    refine V_sreg [false, false, false, false, true, true, false, false, false, false, false, false, false, false, false, false, false, false, false, false, false] [160] (s1 := ⟨[.bot, .bot, .bot, .bot, .ow 160, Bo true, .bot, .bot, .bot, .bot, .bot, .bot, .bot, .bot, .bot, .bot, .bot, .bot, .bot, .bot, .bot], [(160, .arr 36 3 (y10.map c36))]⟩) ?_ ?_
    · refine XL_cons rfl (X_of_Y0 rfl (E_move (I d1) rfl (by kernel_rfl))) ?_
      refine XL_cons rfl (X_of_Y1 rfl (Y1_call (s_impl_principalForm hy8) cf_impl_principalForm rfl (by kernel_rfl))) ?_
      refine XL_cons rfl (X_of_Y1 rfl (Y1_call (s_impl_reduced hy9) cf_impl_reduced rfl (by kernel_rfl))) ?_
      refine XL_cons rfl (X_of_Y0 rfl (E_move (I p2) rfl (by kernel_rfl))) ?_
      refine XL_cons rfl (X_of_Y1 rfl (Y1_call (s_impl_above hy10) cf_impl_above rfl (by kernel_rfl))) ?_
      refine XL_cons rfl (X_of_Y0 rfl (E_assign (.ow 160) rfl (by kernel_rfl))) ?_
      refine XL_cons rfl (X_of_Y0 rfl (E_assign (Bo true) rfl (by kernel_rfl))) ?_
      refine XL_nil ?_
      kernel_rfl
    refine V_ret ?_
    obtain rfl := some_inj h
    show Post _ _ _ _ _
    exact ⟨.inr rfl, rfl, rfl, rfl⟩
theorem cf_laws_eqForm : ∀ args w, (callFunc 36 args).run Try.prog w = .ok (.enter 36 args) w := run_callFunc Try.func36 (by kernel_rfl) (by kernel_rfl)
set_option maxRecDepth 100000 in
set_option maxHeartbeats 400000 in
theorem s_laws_eqForm {a1 : (Int × Int × Int)} {b2 : (Int × Int × Int)} {r : Bool} (h : r_laws_eqForm a1 b2 = some r) : CallS Try.prog 36 [.ag [Ti a1.1, Ti a1.2.1, Ti a1.2.2], .ag [Ti b2.1, Ti b2.2.1, Ti b2.2.2]] (Bo r) [] := by
  refine CallS_of_text (rs := [.t 4]) (vs := [.tmp 4]) Try.func36 rfl rfl (.cons rfl FitsL.nil) (by decide) 20 rfl ?_
  unfold r_laws_eqForm at h
  show V _ _ ⟨[.ag [Ti a1.1, Ti a1.2.1, Ti a1.2.2], .ag [Ti b2.1, Ti b2.2.1, Ti b2.2.2], .bot, .bot, .bot, .bot, .bot, .bot, .bot, .bot, .bot, .bot, .bot, .bot, .bot, .bot, .bot, .bot, .bot, .bot], []⟩ _
  refine V_sreg [false, false, true, true, false, false, false, false, false, false, false, false, false, false, false, false, false, false, false, false] [24, 16] (s1 := ⟨[.bot, .bot, .pt 16 0, .pt 24 0, .bot, .bot, .bot, .bot, .bot, .bot, .bot, .bot, .bot, .bot, .bot, .bot, .bot, .bot, .bot, .bot], [(24, .box [Ti b2.1, Ti b2.2.1, Ti b2.2.2]), (16, .box [Ti a1.1, Ti a1.2.1, Ti a1.2.2])]⟩) ?_ ?_
  · refine XL_cons rfl (X_of_Y1 rfl (Y1_box (cs := [Ti a1.1, Ti a1.2.1, Ti a1.2.2]) rfl (by kernel_rfl))) ?_
    refine XL_cons rfl (X_of_Y1 rfl (Y1_box (cs := [Ti b2.1, Ti b2.2.1, Ti b2.2.2]) rfl (by kernel_rfl))) ?_
    refine XL_cons rfl (X_of_Y0 rfl (E_assign (Bo false) rfl (by kernel_rfl))) ?_
    refine XL_nil ?_
    kernel_rfl
  refine V_seq ?_
  refine V_sreg [false, false, true, true, false, false, false, false, false, true, false, false, false, false, false, false, false, false, false, false] [24, 16] (s1 := ⟨[.bot, .bot, .pt 16 0, .pt 24 0, .bot, .bot, .bot, .bot, .bot, Bo (!eqI a1.1 b2.1), .bot, .bot, .bot, .bot, .bot, .bot, .bot, .bot, .bot, .bot], [(24, .box [Ti b2.1, Ti b2.2.1, Ti b2.2.2]), (16, .box [Ti a1.1, Ti a1.2.1, Ti a1.2.2])]⟩) ?_ ?_
  · refine XL_cons rfl (X_of_Y0 rfl (E_field (.pt 16 0) Try.underlying36 rfl sz3 rfl (by kernel_rfl) (by intro hh; cases hh))) ?_
    refine XL_cons rfl (X_of_Y0 rfl (Y0_load1 (c := Ti a1.1) (cs := [Ti a1.2.1, Ti a1.2.2]) sc3 rfl (by kernel_rfl))) ?_
    refine XL_cons rfl (X_of_Y0 rfl (E_field (.pt 24 0) Try.underlying36 rfl sz3 rfl (by kernel_rfl) (by intro hh; cases hh))) ?_
    refine XL_cons rfl (X_of_Y0 rfl (Y0_load1 (c := Ti b2.1) (cs := [Ti b2.2.1, Ti b2.2.2]) sc3 rfl (by kernel_rfl))) ?_
    refine XL_cons rfl (X_of_Y0 rfl (Y0_new (k := .i64) (a := a1.1) (b := b2.1) rfl (by kernel_rfl) (by kernel_rfl))) ?_
    refine XL_nil ?_
    kernel_rfl
  refine V_cond rfl (fun hc3 => ?_) (fun hc3 => ?_)
  · have h := of_true h hc3
    refine V_sreg [false, false, false, false, true, false, false, false, false, false, false, false, false, false, false, false, false, false, false, false] [] (s1 := ⟨[.bot, .bot, .bot, .bot, Bo false, .bot, .bot, .bot, .bot, .bot, .bot, .bot, .bot, .bot, .bot, .bot, .bot, .bot, .bot, .bot], []⟩) ?_ ?_
    · refine XL_cons rfl (X_of_Y0 rfl (E_assign (Bo false) rfl (by kernel_rfl))) ?_
      refine XL_nil ?_
      kernel_rfl
    refine V_ret ?_
    obtain rfl := some_inj h
    show Post _ _ _ _ _
    exact ⟨.inr rfl, rfl, rfl, rfl⟩
  · have h := of_false h hc3
    refine V_skip ?_
    show V _ _ _ _
    refine V_seq ?_
    refine V_sreg [false, false, true, true, false, false, false, false, false, false, false, false, false, false, true, false, false, false, false, false] [24, 16] (s1 := ⟨[.bot, .bot, .pt 16 0, .pt 24 0, .bot, .bot, .bot, .bot, .bot, .bot, .bot, .bot, .bot, .bot, Bo (!eqI a1.2.1 b2.2.1), .bot, .bot, .bot, .bot, .bot], [(24, .box [Ti b2.1, Ti b2.2.1, Ti b2.2.2]), (16, .box [Ti a1.1, Ti a1.2.1, Ti a1.2.2])]⟩) ?_ ?_
    · refine XL_cons rfl (X_of_Y0 rfl (E_field (.pt 16 1) Try.underlying36 rfl sz3 rfl (by kernel_rfl) (by intro hh; cases hh))) ?_
      refine XL_cons rfl (X_of_Y0 rfl (Y0_load1 (c := Ti a1.2.1) (cs := [Ti a1.2.2]) sc3 rfl (by kernel_rfl))) ?_
      refine XL_cons rfl (X_of_Y0 rfl (E_field (.pt 24 1) Try.underlying36 rfl sz3 rfl (by kernel_rfl) (by intro hh; cases hh))) ?_
      refine XL_cons rfl (X_of_Y0 rfl (Y0_load1 (c := Ti b2.2.1) (cs := [Ti b2.2.2]) sc3 rfl (by kernel_rfl))) ?_
      refine XL_cons rfl (X_of_Y0 rfl (Y0_new (k := .i64) (a := a1.2.1) (b := b2.2.1) rfl (by kernel_rfl) (by kernel_rfl))) ?_
      refine XL_nil ?_
      kernel_rfl
    refine V_cond rfl (fun hc4 => ?_) (fun hc4 => ?_)
    · have h := of_true h hc4
      refine V_sreg [false, false, false, false, true, false, false, false, false, false, false, false, false, false, false, false, false, false, false, false] [] (s1 := ⟨[.bot, .bot, .bot, .bot, Bo false, .bot, .bot, .bot, .bot, .bot, .bot, .bot, .bot, .bot, .bot, .bot, .bot, .bot, .bot, .bot], []⟩) ?_ ?_
      · refine XL_cons rfl (X_of_Y0 rfl (E_assign (Bo false) rfl (by kernel_rfl))) ?_
        refine XL_nil ?_
        kernel_rfl
      refine V_ret ?_
      obtain rfl := some_inj h
      show Post _ _ _ _ _
      exact ⟨.inr rfl, rfl, rfl, rfl⟩
    · have h := of_false h hc4
      refine V_skip ?_
      show V _ _ _ _
      refine V_seq ?_
      refine V_sreg [false, false, false, false, false, false, false, false, false, false, false, false, false, false, false, false, false, false, false, true] [] (s1 := ⟨[.bot, .bot, .bot, .bot, .bot, .bot, .bot, .bot, .bot, .bot, .bot, .bot, .bot, .bot, .bot, .bot, .bot, .bot, .bot, Bo (!eqI a1.2.2 b2.2.2)], []⟩) ?_ ?_
      · refine XL_cons rfl (X_of_Y0 rfl (E_field (.pt 16 2) Try.underlying36 rfl sz3 rfl (by kernel_rfl) (by intro hh; cases hh))) ?_
        refine XL_cons rfl (X_of_Y0 rfl (Y0_load1 (c := Ti a1.2.2) (cs := []) sc3 rfl (by kernel_rfl))) ?_
        refine XL_cons rfl (X_of_Y0 rfl (E_field (.pt 24 2) Try.underlying36 rfl sz3 rfl (by kernel_rfl) (by intro hh; cases hh))) ?_
        refine XL_cons rfl (X_of_Y0 rfl (Y0_load1 (c := Ti b2.2.2) (cs := []) sc3 rfl (by kernel_rfl))) ?_
        refine XL_cons rfl (X_of_Y0 rfl (Y0_new (k := .i64) (a := a1.2.2) (b := b2.2.2) rfl (by kernel_rfl) (by kernel_rfl))) ?_
        refine XL_nil ?_
        kernel_rfl
      refine V_cond rfl (fun hc5 => ?_) (fun hc5 => ?_)
      · have h := of_true h hc5
        refine V_sreg [false, false, false, false, true, false, false, false, false, false, false, false, false, false, false, false, false, false, false, false] [] (s1 := ⟨[.bot, .bot, .bot, .bot, Bo false, .bot, .bot, .bot, .bot, .bot, .bot, .bot, .bot, .bot, .bot, .bot, .bot, .bot, .bot, .bot], []⟩) ?_ ?_
        · refine XL_cons rfl (X_of_Y0 rfl (E_assign (Bo false) rfl (by kernel_rfl))) ?_
          refine XL_nil ?_
          kernel_rfl
        refine V_ret ?_
        obtain rfl := some_inj h
        show Post _ _ _ _ _
        exact ⟨.inr rfl, rfl, rfl, rfl⟩
      · have h := of_false h hc5
        refine V_skip ?_
        show V _ _ _ _
        refine V_sreg [false, false, false, false, true, false, false, false, false, false, false, false, false, false, false, false, false, false, false, false] [] (s1 := ⟨[.bot, .bot, .bot, .bot, Bo true, .bot, .bot, .bot, .bot, .bot, .bot, .bot, .bot, .bot, .bot, .bot, .bot, .bot, .bot, .bot], []⟩) ?_ ?_
        · refine XL_cons rfl (X_of_Y0 rfl (E_assign (Bo true) rfl (by kernel_rfl))) ?_
          refine XL_nil ?_
          kernel_rfl
        refine V_ret ?_
        obtain rfl := some_inj h
        show Post _ _ _ _ _
        exact ⟨.inr rfl, rfl, rfl, rfl⟩
theorem cf_laws_eqFormS : ∀ args w, (callFunc 44 args).run Try.prog w = .ok (.enter 44 args) w := run_callFunc Try.func44 (by kernel_rfl) (by kernel_rfl)
set_option maxRecDepth 100000 in
set_option maxHeartbeats 400000 in
theorem s_laws_eqFormS {a1 : List ((Int × Int × Int))} {b2 : List ((Int × Int × Int))} {r : Bool} (h : r_laws_eqFormS a1 b2 = some r) : CallS Try.prog 44 [.c (.sl (a1.map c36)), .c (.sl (b2.map c36))] (Bo r) [] := by
  refine CallS_of_text (rs := [.t 4]) (vs := [.tmp 4]) Try.func44 rfl rfl (.cons rfl FitsL.nil) (by decide) 27 rfl ?_
  unfold r_laws_eqFormS at h
  show V _ _ ⟨[.c (.sl (a1.map c36)), .c (.sl (b2.map c36)), .bot, .bot, .bot, .bot, .bot, .bot, .bot, .bot, .bot, .bot, .bot, .bot, .bot, .bot, .bot, .bot, .bot, .bot, .bot, .bot, .bot, .bot, .bot, .bot, .bot], []⟩ _
  refine V_sreg [true, true, false, false, false, false, false, false, false, false, false, false, false, false, false, false, false, false, false, false, false, false, false, false, false, false, false] [] (s1 := ⟨[.c (.sl (a1.map c36)), .c (.sl (b2.map c36)), .bot, .bot, .bot, .bot, .bot, .bot, .bot, .bot, .bot, .bot, .bot, .bot, .bot, .bot, .bot, .bot, .bot, .bot, .bot, .bot, .bot, .bot, .bot, .bot, .bot], []⟩) ?_ ?_
  · refine XL_cons rfl (X_of_Y0 rfl (E_assign (Bo false) rfl (by kernel_rfl))) ?_
    refine XL_nil ?_
    kernel_rfl
  refine V_seq ?_
  refine V_sreg [true, true, false, false, false, false, false, false, false, false, true, false, false, false, false, false, false, false, false, false, false, false, false, false, false, false, false] [] (s1 := ⟨[.c (.sl (a1.map c36)), .c (.sl (b2.map c36)), .bot, .bot, .bot, .bot, .bot, .bot, .bot, .bot, Bo (!eqI ((a1.length : Int)) ((b2.length : Int))), .bot, .bot, .bot, .bot, .bot, .bot, .bot, .bot, .bot, .bot, .bot, .bot, .bot, .bot, .bot, .bot], []⟩) ?_ ?_
  · refine XL_cons rfl (X_of_Y0 rfl (E_move (.c (.sl (a1.map c36))) rfl (by kernel_rfl))) ?_
    refine XL_cons rfl (X_of_Y0 rfl (Y0_lenM (c := c36) (xs := a1) Try.underlying53 rfl (by kernel_rfl))) ?_
    refine XL_cons rfl (X_of_Y0 rfl (E_move (.c (.sl (b2.map c36))) rfl (by kernel_rfl))) ?_
    refine XL_cons rfl (X_of_Y0 rfl (Y0_lenM (c := c36) (xs := b2) Try.underlying53 rfl (by kernel_rfl))) ?_
    refine XL_cons rfl (X_of_Y0 rfl (Y0_new (k := .i64) (a := (a1.length : Int)) (b := (b2.length : Int)) rfl (by kernel_rfl) (by kernel_rfl))) ?_
    refine XL_nil ?_
    kernel_rfl
  refine V_cond rfl (fun hc3 => ?_) (fun hc3 => ?_)
  · have h := of_true h hc3
    refine V_sreg [false, false, false, false, true, false, false, false, false, false, false, false, false, false, false, false, false, false, false, false, false, false, false, false, false, false, false] [] (s1 := ⟨[.bot, .bot, .bot, .bot, Bo false, .bot, .bot, .bot, .bot, .bot, .bot, .bot, .bot, .bot, .bot, .bot, .bot, .bot, .bot, .bot, .bot, .bot, .bot, .bot, .bot, .bot, .bot], []⟩) ?_ ?_
    · refine XL_cons rfl (X_of_Y0 rfl (E_assign (Bo false) rfl (by kernel_rfl))) ?_
      refine XL_nil ?_
      kernel_rfl
    refine V_ret ?_
    obtain rfl := some_inj h
    show Post _ _ _ _ _
    exact ⟨.inr rfl, rfl, rfl, rfl⟩
  · have h := of_false h hc3
    refine V_skip ?_
    show V _ _ _ _
    refine V_seq ?_
    refine V_sreg [true, true, false, false, false, true, false, false, false, false, false, false, false, false, false, false, false, false, false, false, false, false, false, false, false, false, false] [] (s1 := ⟨[.c (.sl (a1.map c36)), .c (.sl (b2.map c36)), .bot, .bot, .bot, I 0, .bot, .bot, .bot, .bot, .bot, .bot, .bot, .bot, .bot, .bot, .bot, .bot, .bot, .bot, .bot, .bot, .bot, .bot, .bot, .bot, .bot], []⟩) ?_ ?_
    · refine XL_cons rfl (X_of_Y0 rfl (E_assign (I 0) rfl (by kernel_rfl))) ?_
      refine XL_nil ?_
      kernel_rfl
    obtain ⟨qo6, hLo6, hko6⟩ := of_bind h
    refine V_toS (q := qo6) (S := fun o6 => ⟨[.bot, .bot, .bot, .bot, .bot, .bot, .bot, .bot, .bot, .bot, .bot, .bot, .bot, .bot, .bot, .bot, .bot, .bot, .bot, .bot, .bot, .bot, .bot, .bot, .bot, .bot, .bot], []⟩) [false, false, false, false, false, false, false, false, false, false, false, false, false, false, false, false, false, false, false, false, false, false, false, false, false, false, false] [] ?_ ?_
    · refine V_block (V_loop (fun n s => ∃ (i4 : Int), s.keep [true, true, false, false, false, true, false, false, false, false, false, false, false, false, false, false, false, false, false, false, false, false, false, false, false, false, false] [] = (⟨[.c (.sl (a1.map c36)), .c (.sl (b2.map c36)), .bot, .bot, .bot, I i4, .bot, .bot, .bot, .bot, .bot, .bot, .bot, .bot, .bot, .bot, .bot, .bot, .bot, .bot, .bot, .bot, .bot, .bot, .bot, .bot, .bot], []⟩ : St) ∧ r_laws_eqFormS_L5 a1 b2 n i4 = some qo6) FU ⟨_,  by rfl, hLo6⟩ ?_)
      clear hLo6
      rintro n s ⟨i4, hs, h⟩
      refine V_keep _ _ hs ?_
      clear hs
      cases n with
      | zero => cases h
      | succ n =>
        rw [r_laws_eqFormS_L5] at h
        refine V_seq ?_
        refine V_sreg [true, true, false, false, false, true, false, false, false, false, false, false, false, false, true, false, false, false, false, false, false, false, false, false, false, false, false] [] (s1 := ⟨[.c (.sl (a1.map c36)), .c (.sl (b2.map c36)), .bot, .bot, .bot, I i4, .bot, .bot, .bot, .bot, .bot, .bot, .bot, .bot, Bo (ltI i4 ((a1.length : Int))), .bot, .bot, .bot, .bot, .bot, .bot, .bot, .bot, .bot, .bot, .bot, .bot], []⟩) ?_ ?_
        · refine XL_cons rfl (X_of_Y0 rfl (E_move (I i4) rfl (by kernel_rfl))) ?_
          refine XL_cons rfl (X_of_Y0 rfl (E_move (.c (.sl (a1.map c36))) rfl (by kernel_rfl))) ?_
          refine XL_cons rfl (X_of_Y0 rfl (Y0_lenM (c := c36) (xs := a1) Try.underlying53 rfl (by kernel_rfl))) ?_
          refine XL_cons rfl (X_of_Y0 rfl (Y0_ltw (k := .i64) (a := i4) (b := (a1.length : Int)) rfl (by kernel_rfl) (by kernel_rfl))) ?_
          refine XL_nil ?_
          kernel_rfl
        refine V_cond rfl (fun hc7 => ?_) (fun hc7 => ?_)
        · have h := of_true h hc7
          refine V_skip ?_
          show V _ _ _ _
          refine V_seq ?_
          refine V_block ?_
          obtain ⟨e8, he8, h⟩ := of_bind h
          obtain ⟨e9, he9, h⟩ := of_bind h
          obtain ⟨y10, hy10, h⟩ := of_bind h
          refine V_sdreg [0, 0, 3, 7, 0, 0, 48, 112, 255, 511] 10 [[.z, .b, .z, .z, .b, .b, .b, .b, .z, .z], [.b, .z, .z, .z, .b, .b, .b, .b, .z, .z], [.a, .a, .z, .z, .b, .b, .b, .b, .z, .z], [.a, .a, .a, .z, .b, .b, .b, .b, .z, .z], [.b, .b, .b, .b, .z, .b, .z, .z, .z, .z], [.b, .b, .b, .b, .b, .z, .z, .z, .z, .z], [.b, .b, .b, .b, .a, .a, .z, .z, .z, .z], [.b, .b, .b, .b, .a, .a, .a, .z, .z, .z], [.a, .a, .a, .a, .a, .a, .a, .a, .z, .z], [.a, .a, .a, .a, .a, .a, .a, .a, .a, .z]] [true, true, false, false, false, true, false, false, false, false, false, false, false, false, false, false, false, false, false, false, false, false, false, false, false, false, true] [] (s1 := ⟨[.c (.sl (a1.map c36)), .c (.sl (b2.map c36)), .bot, .bot, .bot, I i4, .bot, .bot, .bot, .bot, .bot, .bot, .bot, .bot, .bot, .bot, .bot, .bot, .bot, .bot, .bot, .bot, .bot, .bot, .bot, .bot, Bo (!y10)], []⟩) (by kernel_rfl) (by kernel_rfl) ?_ ?_
          · refine DE_0 0 (.c (.sl (a1.map c36))) (by kernel_rfl) rfl rfl rfl (gsat_none rfl) (by kernel_rfl) (E_move (.c (.sl (a1.map c36))) rfl (by kernel_rfl)) 17 rfl ?_
            refine DE_0 1 (I i4) (by kernel_rfl) rfl rfl rfl (gsat_none rfl) (by kernel_rfl) (E_move (I i4) rfl (by kernel_rfl)) 18 rfl ?_
            refine DE_0 2 (.pe [Ti e8.1, Ti e8.2.1, Ti e8.2.2]) (by kernel_rfl) rfl rfl rfl (gsat_none rfl) (by kernel_rfl) (Y0_idxM (c := c36) (xs := a1) (v := e8) (n := i4) Try.underlying53 sz36 rfl (by kernel_rfl) (by kernel_rfl) he8) 19 rfl ?_
            refine DE_0 3 (.ag [Ti e8.1, Ti e8.2.1, Ti e8.2.2]) (by kernel_rfl) rfl rfl rfl (gsat_none rfl) (by kernel_rfl) (E_loadn (cs := [Ti e8.1, Ti e8.2.1, Ti e8.2.2]) [Ti e8.1, Ti e8.2.1, Ti e8.2.2] wd36 rfl (by kernel_rfl) (Nat.le_of_ble_eq_true rfl) (by kernel_rfl)) 20 rfl ?_
            refine DE_0 4 (.c (.sl (b2.map c36))) (by kernel_rfl) rfl rfl rfl (gsat_none rfl) (by kernel_rfl) (E_move (.c (.sl (b2.map c36))) rfl (by kernel_rfl)) 21 rfl ?_
            refine DE_0 5 (I i4) (by kernel_rfl) rfl rfl rfl (gsat_none rfl) (by kernel_rfl) (E_move (I i4) rfl (by kernel_rfl)) 22 rfl ?_
            refine DE_0 6 (.pe [Ti e9.1, Ti e9.2.1, Ti e9.2.2]) (by kernel_rfl) rfl rfl rfl (gsat_none rfl) (by kernel_rfl) (Y0_idxM (c := c36) (xs := b2) (v := e9) (n := i4) Try.underlying53 sz36 rfl (by kernel_rfl) (by kernel_rfl) he9) 23 rfl ?_
            refine DE_0 7 (.ag [Ti e9.1, Ti e9.2.1, Ti e9.2.2]) (by kernel_rfl) rfl rfl rfl (gsat_none rfl) (by kernel_rfl) (E_loadn (cs := [Ti e9.1, Ti e9.2.1, Ti e9.2.2]) [Ti e9.1, Ti e9.2.1, Ti e9.2.2] wd36 rfl (by kernel_rfl) (Nat.le_of_ble_eq_true rfl) (by kernel_rfl)) 24 rfl ?_
            refine DE_1 8 (by kernel_rfl) rfl rfl rfl (gsat_none rfl) (Y1_call (s_laws_eqForm hy10) cf_laws_eqForm rfl (by kernel_rfl)) rfl rfl rfl 25 rfl ?_
            refine DE_0 9 (Bo (!y10)) (by kernel_rfl) rfl rfl rfl (gsat_none rfl) (by kernel_rfl) (Y0_not (b := y10) rfl (by kernel_rfl)) 26 rfl ?_
            refine DL_nil (by kernel_rfl) ?_
            refine XL_nil ?_
            kernel_rfl
          refine V_cond rfl (fun hc11 => ?_) (fun hc11 => ?_)
          · have h := of_true h hc11
            refine V_sreg [false, false, false, false, true, false, false, false, false, false, false, false, false, false, false, false, false, false, false, false, false, false, false, false, false, false, false] [] (s1 := ⟨[.bot, .bot, .bot, .bot, Bo false, .bot, .bot, .bot, .bot, .bot, .bot, .bot, .bot, .bot, .bot, .bot, .bot, .bot, .bot, .bot, .bot, .bot, .bot, .bot, .bot, .bot, .bot], []⟩) ?_ ?_
            · refine XL_cons rfl (X_of_Y0 rfl (E_assign (Bo false) rfl (by kernel_rfl))) ?_
              refine XL_nil ?_
              kernel_rfl
            refine V_ret ?_
            obtain rfl := some_inj h
            have h := hko6
            obtain rfl := some_inj h
            show Post _ _ _ _ _
            exact ⟨.inr rfl, rfl, rfl, rfl⟩
          · have h := of_false h hc11
            refine V_skip ?_
            show V _ _ _ _
            obtain ⟨i12, hi12, h⟩ := of_sI h
            refine V_reg [true, true, false, false, false, true, false, false, false, false, false, false, false, false, false, false, false, false, false, false, false, false, false, false, false, false, false] [] (s1 := ⟨[.c (.sl (a1.map c36)), .c (.sl (b2.map c36)), .bot, .bot, .bot, I i12, .bot, .bot, .bot, .bot, .bot, .bot, .bot, .bot, .bot, .bot, .bot, .bot, .bot, .bot, .bot, .bot, .bot, .bot, .bot, .bot, .bot], []⟩) ?_ ?_
            · refine XL_cons rfl (X_of_Y0 rfl (E_move (I i4) rfl (by kernel_rfl))) ?_
              refine XL_cons rfl (X_of_Y0 rfl (Y0_add64 (a := i4) (b := 1) rfl (by kernel_rfl) (by kernel_rfl))) ?_
              refine XL_cons rfl (X_of_Y0 rfl (E_assign (I (w64 (i4 + 1))) rfl (by kernel_rfl))) ?_
              refine XL_nil ?_
              subst hi12
              kernel_rfl
            exact ⟨n, Nat.lt_succ_self n, _,  by rfl, h⟩
        · have h := of_false h hc7
          refine V_exit ?_
          obtain rfl := some_inj h
          exact ⟨_, rfl, by rfl⟩
    rintro o6 rfl
    have h := hko6
    clear hko6
    show V _ _ _ _
    refine V_sreg [false, false, false, false, true, false, false, false, false, false, false, false, false, false, false, false, false, false, false, false, false, false, false, false, false, false, false] [] (s1 := ⟨[.bot, .bot, .bot, .bot, Bo true, .bot, .bot, .bot, .bot, .bot, .bot, .bot, .bot, .bot, .bot, .bot, .bot, .bot, .bot, .bot, .bot, .bot, .bot, .bot, .bot, .bot, .bot], []⟩) ?_ ?_
    · refine XL_cons rfl (X_of_Y0 rfl (E_assign (Bo true) rfl (by kernel_rfl))) ?_
      refine XL_nil ?_
      kernel_rfl
    refine V_ret ?_
    obtain rfl := some_inj h
    show Post _ _ _ _ _
    exact ⟨.inr rfl, rfl, rfl, rfl⟩
theorem cf_laws_markFormS : ∀ args w, (callFunc 45 args).run Try.prog w = .ok (.enter 45 args) w := run_callFunc Try.func45 (by kernel_rfl) (by kernel_rfl)
set_option maxRecDepth 100000 in
set_option maxHeartbeats 400000 in
theorem s_laws_markFormS {a1 : List ((Int × Int × Int))} {k2 : Int} {r : (Int × (List ((Int × Int × Int))))} (h : r_laws_markFormS a1 k2 = some r) : CallR Try.prog 45 [.ow 80000, I k2] [(80000, .arr 36 3 (a1.map c36))] (I r.1) [] [(80000, .arr 36 3 (r.2.map c36))] := by
  refine CallR_of_text (rs := [.t 4]) (vs := [.tmp 4]) Try.func45 rfl rfl (.cons rfl FitsL.nil) (by decide) 34 rfl rfl fun σ => ?_
  unfold r_laws_markFormS at h
  show V _ _ ⟨[.ow 80000, I k2, .bot, .bot, .bot, .bot, .bot, .bot, .bot, .bot, .bot, .bot, .bot, .bot, .bot, .bot, .bot, .bot, .bot, .bot, .bot, .bot, .bot, .bot, .bot, .bot, .bot, .bot, .bot, .bot, .bot, .bot, .bot, .bot], [(80000, .parr (σ 80000) 36 3 (a1.map c36))]⟩ _
  refine V_sreg [true, true, false, false, false, false, false, false, false, false, false, false, false, false, false, false, false, false, false, false, false, false, false, false, false, false, false, false, false, false, false, false, false, false] [80000] (s1 := ⟨[.ow 80000, I k2, .bot, .bot, .bot, .bot, .bot, .bot, .bot, .bot, .bot, .bot, .bot, .bot, .bot, .bot, .bot, .bot, .bot, .bot, .bot, .bot, .bot, .bot, .bot, .bot, .bot, .bot, .bot, .bot, .bot, .bot, .bot, .bot], [(80000, .parr (σ 80000) 36 3 (a1.map c36))]⟩) ?_ ?_
  · refine XL_cons rfl (X_of_Y0 rfl (E_assign (I 0) rfl (by kernel_rfl))) ?_
    refine XL_nil ?_
    kernel_rfl
  refine V_seq ?_
  refine V_sreg [true, true, false, false, false, true, false, false, false, false, false, false, false, false, false, false, false, false, false, false, false, false, false, false, false, false, false, false, false, false, false, false, false, false] [80000] (s1 := ⟨[.ow 80000, I k2, .bot, .bot, .bot, I 0, .bot, .bot, .bot, .bot, .bot, .bot, .bot, .bot, .bot, .bot, .bot, .bot, .bot, .bot, .bot, .bot, .bot, .bot, .bot, .bot, .bot, .bot, .bot, .bot, .bot, .bot, .bot, .bot], [(80000, .parr (σ 80000) 36 3 (a1.map c36))]⟩) ?_ ?_
  · refine XL_cons rfl (X_of_Y0 rfl (E_assign (I 0) rfl (by kernel_rfl))) ?_
    refine XL_nil ?_
    kernel_rfl
  obtain ⟨o7, hLo7, h⟩ := of_bind h
  refine V_toK [false, true, false, false, false, false, false, false, false, false, false, false, false, false, false, false, false, false, false, false, false, false, false, false, false, false, false, false, false, false, false, false, false, false] [80000] (s1 := ⟨[.bot, I o7.1, .bot, .bot, .bot, .bot, .bot, .bot, .bot, .bot, .bot, .bot, .bot, .bot, .bot, .bot, .bot, .bot, .bot, .bot, .bot, .bot, .bot, .bot, .bot, .bot, .bot, .bot, .bot, .bot, .bot, .bot, .bot, .bot], [(80000, .parr (σ 80000) 36 3 (o7.2.map c36))]⟩) ?_ ?_
  · clear h
    refine V_block (V_loop (fun n s => ∃ (k3 : Int) (i4 : Int) (l5 : List ((Int × Int × Int))), s.keep [true, true, false, false, false, true, false, false, false, false, false, false, false, false, false, false, false, false, false, false, false, false, false, false, false, false, false, false, false, false, false, false, false, false] [80000] = (⟨[.ow 80000, I k3, .bot, .bot, .bot, I i4, .bot, .bot, .bot, .bot, .bot, .bot, .bot, .bot, .bot, .bot, .bot, .bot, .bot, .bot, .bot, .bot, .bot, .bot, .bot, .bot, .bot, .bot, .bot, .bot, .bot, .bot, .bot, .bot], [(80000, .parr (σ 80000) 36 3 (l5.map c36))]⟩ : St) ∧ r_laws_markFormS_L6 n k3 i4 l5 = some o7) FU ⟨_, _, _,  by rfl, hLo7⟩ ?_)
    clear hLo7
    rintro n s ⟨k3, i4, l5, hs, h⟩
    refine V_keep _ _ hs ?_
    clear hs
    cases n with
    | zero => cases h
    | succ n =>
      rw [r_laws_markFormS_L6] at h
      refine V_seq ?_
      refine V_sreg [true, true, false, false, false, true, false, false, false, true, false, false, false, false, false, false, false, false, false, false, false, false, false, false, false, false, false, false, false, false, false, false, false, false] [80000] (s1 := ⟨[.ow 80000, I k3, .bot, .bot, .bot, I i4, .bot, .bot, .bot, Bo (ltI i4 ((l5.length : Int))), .bot, .bot, .bot, .bot, .bot, .bot, .bot, .bot, .bot, .bot, .bot, .bot, .bot, .bot, .bot, .bot, .bot, .bot, .bot, .bot, .bot, .bot, .bot, .bot], [(80000, .parr (σ 80000) 36 3 (l5.map c36))]⟩) ?_ ?_
      · refine XL_cons rfl (X_of_Y0 rfl (E_move (I i4) rfl (by kernel_rfl))) ?_
        refine XL_cons rfl (X_of_Y0 rfl (E_move (.ow 80000) rfl (by kernel_rfl))) ?_
        refine XL_cons rfl (X_of_Y0 rfl (Y0_lenM (c := c36) (xs := l5) Try.underlying53 rfl (by kernel_rfl))) ?_
        refine XL_cons rfl (X_of_Y0 rfl (Y0_ltw (k := .i64) (a := i4) (b := (l5.length : Int)) rfl (by kernel_rfl) (by kernel_rfl))) ?_
        refine XL_nil ?_
        kernel_rfl
      refine V_cond rfl (fun hc8 => ?_) (fun hc8 => ?_)
      · have h := of_true h hc8
        refine V_skip ?_
        show V _ _ _ _
        refine V_seq ?_
        refine V_block ?_
        obtain ⟨e9, he9, h⟩ := of_bind h
        obtain ⟨e10, he10, h⟩ := of_bind h
        refine V_sreg [true, true, false, false, false, true, false, false, false, false, false, false, false, false, false, false, false, false, false, false, false, false, false, false, false, false, false, false, false, false, false, false, false, false] [80000] (s1 := ⟨[.ow 80000, I k3, .bot, .bot, .bot, I i4, .bot, .bot, .bot, .bot, .bot, .bot, .bot, .bot, .bot, .bot, .bot, .bot, .bot, .bot, .bot, .bot, .bot, .bot, .bot, .bot, .bot, .bot, .bot, .bot, .bot, .bot, .bot, .bot], [(80000, .parr (σ 80000) 36 3 ((l5.set (Int.toNat (i4)) ((k3, e10.2.1, e10.2.2))).map c36))]⟩) ?_ ?_
        · refine XL_cons rfl (X_of_Y0 rfl (E_move (.ow 80000) rfl (by kernel_rfl))) ?_
          refine XL_cons rfl (X_of_Y0 rfl (E_move (I i4) rfl (by kernel_rfl))) ?_
          refine XL_cons rfl (X_of_Y0 rfl (E_move (I k3) rfl (by kernel_rfl))) ?_
          refine XL_cons rfl (X_of_Y0 rfl (Y0_idxoM (c := c36) (xs := l5) (v := e9) (id := 80000) (T := 36) (sz := 3) (n := i4) Try.underlying53 sz36 rfl (by kernel_rfl) (by kernel_rfl) (by kernel_rfl) he9)) ?_
          refine XL_cons rfl (X_of_Y0 rfl (E_field (.po 80000 3 (Int.toNat (i4)) 0) Try.underlying36 rfl sz3 rfl (by kernel_rfl) (by intro hh; cases hh))) ?_
          refine XL_cons rfl (X_storeopM (l := σ 80000) (c := c36) (xs := l5) (v := e10) (u := (k3, e10.2.1, e10.2.2)) (id := 80000) (sz := 3) (off := 0) (T0 := 36) (n := i4) (vc := [Ti k3]) rfl rfl (by kernel_rfl) (by kernel_rfl) he10 (by kernel_rfl) sz3 (Nat.le_of_ble_eq_true rfl) (by kernel_rfl)) ?_
          refine XL_nil ?_
          kernel_rfl
        obtain ⟨k11, hk11, h⟩ := of_sI h
        refine V_sreg [true, true, false, false, false, true, false, false, false, false, false, false, false, false, false, false, false, false, false, false, false, false, false, false, false, false, false, false, false, false, false, false, false, false] [80000] (s1 := ⟨[.ow 80000, I k11, .bot, .bot, .bot, I i4, .bot, .bot, .bot, .bot, .bot, .bot, .bot, .bot, .bot, .bot, .bot, .bot, .bot, .bot, .bot, .bot, .bot, .bot, .bot, .bot, .bot, .bot, .bot, .bot, .bot, .bot, .bot, .bot], [(80000, .parr (σ 80000) 36 3 ((l5.set (Int.toNat (i4)) ((k3, e10.2.1, e10.2.2))).map c36))]⟩) ?_ ?_
        · refine XL_cons rfl (X_of_Y0 rfl (E_move (I k3) rfl (by kernel_rfl))) ?_
          refine XL_cons rfl (X_of_Y0 rfl (Y0_add64 (a := k3) (b := 1) rfl (by kernel_rfl) (by kernel_rfl))) ?_
          refine XL_cons rfl (X_of_Y0 rfl (E_assign (I (w64 (k3 + 1))) rfl (by kernel_rfl))) ?_
          refine XL_nil ?_
          subst hk11
          kernel_rfl
        obtain ⟨e12, he12, h⟩ := of_bind h
        obtain ⟨e13, he13, h⟩ := of_bind h
        obtain ⟨l14, hl14, h⟩ := of_bind h
        have hl14 := some_inj hl14
        refine V_sreg [true, true, false, false, false, true, false, false, false, false, false, false, false, false, false, false, false, false, false, false, false, false, false, false, false, false, false, false, false, false, false, false, false, false] [80000] (s1 := ⟨[.ow 80000, I k11, .bot, .bot, .bot, I i4, .bot, .bot, .bot, .bot, .bot, .bot, .bot, .bot, .bot, .bot, .bot, .bot, .bot, .bot, .bot, .bot, .bot, .bot, .bot, .bot, .bot, .bot, .bot, .bot, .bot, .bot, .bot, .bot], [(80000, .parr (σ 80000) 36 3 (l14.map c36))]⟩) ?_ ?_
        · refine XL_cons rfl (X_of_Y0 rfl (E_move (.ow 80000) rfl (by kernel_rfl))) ?_
          refine XL_cons rfl (X_of_Y0 rfl (E_move (I i4) rfl (by kernel_rfl))) ?_
          refine XL_cons rfl (X_of_Y0 rfl (E_move (I k11) rfl (by kernel_rfl))) ?_
          refine XL_cons rfl (X_of_Y0 rfl (Y0_idxoM (c := c36) (xs := l5.set (Int.toNat (i4)) ((k3, e10.2.1, e10.2.2))) (v := e12) (id := 80000) (T := 36) (sz := 3) (n := i4) Try.underlying53 sz36 rfl (by kernel_rfl) (by kernel_rfl) (by kernel_rfl) he12)) ?_
          refine XL_cons rfl (X_of_Y0 rfl (E_field (.po 80000 3 (Int.toNat (i4)) 1) Try.underlying36 rfl sz3 rfl (by kernel_rfl) (by intro hh; cases hh))) ?_
          refine XL_cons rfl (X_storeopM (l := σ 80000) (c := c36) (xs := l5.set (Int.toNat (i4)) ((k3, e10.2.1, e10.2.2))) (v := e13) (u := (e13.1, k11, e13.2.2)) (id := 80000) (sz := 3) (off := 1) (T0 := 36) (n := i4) (vc := [Ti k11]) rfl rfl (by kernel_rfl) (by kernel_rfl) he13 (by kernel_rfl) sz3 (Nat.le_of_ble_eq_true rfl) (by kernel_rfl)) ?_
          refine XL_nil ?_
          subst hl14
          kernel_rfl
        obtain ⟨k15, hk15, h⟩ := of_sI h
        refine V_sreg [true, true, false, false, false, true, false, false, false, false, false, false, false, false, false, false, false, false, false, false, false, false, false, false, false, false, false, false, false, false, false, false, false, false] [80000] (s1 := ⟨[.ow 80000, I k15, .bot, .bot, .bot, I i4, .bot, .bot, .bot, .bot, .bot, .bot, .bot, .bot, .bot, .bot, .bot, .bot, .bot, .bot, .bot, .bot, .bot, .bot, .bot, .bot, .bot, .bot, .bot, .bot, .bot, .bot, .bot, .bot], [(80000, .parr (σ 80000) 36 3 (l14.map c36))]⟩) ?_ ?_
        · refine XL_cons rfl (X_of_Y0 rfl (E_move (I k11) rfl (by kernel_rfl))) ?_
          refine XL_cons rfl (X_of_Y0 rfl (Y0_add64 (a := k11) (b := 1) rfl (by kernel_rfl) (by kernel_rfl))) ?_
          refine XL_cons rfl (X_of_Y0 rfl (E_assign (I (w64 (k11 + 1))) rfl (by kernel_rfl))) ?_
          refine XL_nil ?_
          subst hk15
          kernel_rfl
        obtain ⟨e16, he16, h⟩ := of_bind h
        obtain ⟨e17, he17, h⟩ := of_bind h
        refine V_sreg [true, true, false, false, false, true, false, false, false, false, false, false, false, false, false, false, false, false, false, false, false, false, false, false, false, false, false, false, false, false, false, false, false, false] [80000] (s1 := ⟨[.ow 80000, I k15, .bot, .bot, .bot, I i4, .bot, .bot, .bot, .bot, .bot, .bot, .bot, .bot, .bot, .bot, .bot, .bot, .bot, .bot, .bot, .bot, .bot, .bot, .bot, .bot, .bot, .bot, .bot, .bot, .bot, .bot, .bot, .bot], [(80000, .parr (σ 80000) 36 3 ((l14.set (Int.toNat (i4)) ((e17.1, e17.2.1, k15))).map c36))]⟩) ?_ ?_
        · refine XL_cons rfl (X_of_Y0 rfl (E_move (.ow 80000) rfl (by kernel_rfl))) ?_
          refine XL_cons rfl (X_of_Y0 rfl (E_move (I i4) rfl (by kernel_rfl))) ?_
          refine XL_cons rfl (X_of_Y0 rfl (E_move (I k15) rfl (by kernel_rfl))) ?_
          refine XL_cons rfl (X_of_Y0 rfl (Y0_idxoM (c := c36) (xs := l14) (v := e16) (id := 80000) (T := 36) (sz := 3) (n := i4) Try.underlying53 sz36 rfl (by kernel_rfl) (by kernel_rfl) (by kernel_rfl) he16)) ?_
          refine XL_cons rfl (X_of_Y0 rfl (E_field (.po 80000 3 (Int.toNat (i4)) 2) Try.underlying36 rfl sz3 rfl (by kernel_rfl) (by intro hh; cases hh))) ?_
          refine XL_cons rfl (X_storeopM (l := σ 80000) (c := c36) (xs := l14) (v := e17) (u := (e17.1, e17.2.1, k15)) (id := 80000) (sz := 3) (off := 2) (T0 := 36) (n := i4) (vc := [Ti k15]) rfl rfl (by kernel_rfl) (by kernel_rfl) he17 (by kernel_rfl) sz3 (Nat.le_of_ble_eq_true rfl) (by kernel_rfl)) ?_
          refine XL_nil ?_
          kernel_rfl
        obtain ⟨k18, hk18, h⟩ := of_sI h
        refine V_reg [true, true, false, false, false, true, false, false, false, false, false, false, false, false, false, false, false, false, false, false, false, false, false, false, false, false, false, false, false, false, false, false, false, false] [80000] (s1 := ⟨[.ow 80000, I k18, .bot, .bot, .bot, I i4, .bot, .bot, .bot, .bot, .bot, .bot, .bot, .bot, .bot, .bot, .bot, .bot, .bot, .bot, .bot, .bot, .bot, .bot, .bot, .bot, .bot, .bot, .bot, .bot, .bot, .bot, .bot, .bot], [(80000, .parr (σ 80000) 36 3 ((l14.set (Int.toNat (i4)) ((e17.1, e17.2.1, k15))).map c36))]⟩) ?_ ?_
        · refine XL_cons rfl (X_of_Y0 rfl (E_move (I k15) rfl (by kernel_rfl))) ?_
          refine XL_cons rfl (X_of_Y0 rfl (Y0_add64 (a := k15) (b := 1) rfl (by kernel_rfl) (by kernel_rfl))) ?_
          refine XL_cons rfl (X_of_Y0 rfl (E_assign (I (w64 (k15 + 1))) rfl (by kernel_rfl))) ?_
          refine XL_nil ?_
          subst hk18
          kernel_rfl
        show V _ _ _ _
        obtain ⟨i19, hi19, h⟩ := of_sI h
        refine V_reg [true, true, false, false, false, true, false, false, false, false, false, false, false, false, false, false, false, false, false, false, false, false, false, false, false, false, false, false, false, false, false, false, false, false] [80000] (s1 := ⟨[.ow 80000, I k18, .bot, .bot, .bot, I i19, .bot, .bot, .bot, .bot, .bot, .bot, .bot, .bot, .bot, .bot, .bot, .bot, .bot, .bot, .bot, .bot, .bot, .bot, .bot, .bot, .bot, .bot, .bot, .bot, .bot, .bot, .bot, .bot], [(80000, .parr (σ 80000) 36 3 ((l14.set (Int.toNat (i4)) ((e17.1, e17.2.1, k15))).map c36))]⟩) ?_ ?_
        · refine XL_cons rfl (X_of_Y0 rfl (E_move (I i4) rfl (by kernel_rfl))) ?_
          refine XL_cons rfl (X_of_Y0 rfl (Y0_add64 (a := i4) (b := 1) rfl (by kernel_rfl) (by kernel_rfl))) ?_
          refine XL_cons rfl (X_of_Y0 rfl (E_assign (I (w64 (i4 + 1))) rfl (by kernel_rfl))) ?_
          refine XL_nil ?_
          subst hi19
          kernel_rfl
        exact ⟨n, Nat.lt_succ_self n, _, _, _,  by rfl, h⟩
      · have h := of_false h hc8
        refine V_exit ?_
        obtain rfl := some_inj h
        show St.keep _ _ _ = _
        rfl
  show V _ _ _ _
  refine V_sreg [false, false, false, false, true, false, false, false, false, false, false, false, false, false, false, false, false, false, false, false, false, false, false, false, false, false, false, false, false, false, false, false, false, false] [80000] (s1 := ⟨[.bot, .bot, .bot, .bot, I o7.1, .bot, .bot, .bot, .bot, .bot, .bot, .bot, .bot, .bot, .bot, .bot, .bot, .bot, .bot, .bot, .bot, .bot, .bot, .bot, .bot, .bot, .bot, .bot, .bot, .bot, .bot, .bot, .bot, .bot], [(80000, .parr (σ 80000) 36 3 (o7.2.map c36))]⟩) ?_ ?_
  · refine XL_cons rfl (X_of_Y0 rfl (E_move (I o7.1) rfl (by kernel_rfl))) ?_
    refine XL_cons rfl (X_of_Y0 rfl (E_assign (I o7.1) rfl (by kernel_rfl))) ?_
    refine XL_nil ?_
    kernel_rfl
  refine V_ret ?_
  obtain rfl := some_inj h
  show PostR _ _ _ _ _ _
  exact ⟨⟨.inr rfl, rfl, rfl, rfl⟩, ⟨rfl, trivial⟩⟩
theorem cf_laws_heldFormS : ∀ args w, (callFunc 46 args).run Try.prog w = .ok (.enter 46 args) w := run_callFunc Try.func46 (by kernel_rfl) (by kernel_rfl)
set_option maxRecDepth 100000 in
set_option maxHeartbeats 400000 in
theorem s_laws_heldFormS {a1 : List ((Int × Int × Int))} {k2 : Int} {r : Int} (h : r_laws_heldFormS a1 k2 = some r) : CallS Try.prog 46 [.c (.sl (a1.map c36)), I k2] (I r) [] := by
  refine CallS_of_text (rs := [.t 4]) (vs := [.tmp 4]) Try.func46 rfl rfl (.cons rfl FitsL.nil) (by decide) 40 rfl ?_
  unfold r_laws_heldFormS at h
  show V _ _ ⟨[.c (.sl (a1.map c36)), I k2, .bot, .bot, .bot, .bot, .bot, .bot, .bot, .bot, .bot, .bot, .bot, .bot, .bot, .bot, .bot, .bot, .bot, .bot, .bot, .bot, .bot, .bot, .bot, .bot, .bot, .bot, .bot, .bot, .bot, .bot, .bot, .bot, .bot, .bot, .bot, .bot, .bot, .bot], []⟩ _
  refine V_sreg [true, true, false, false, false, false, false, false, false, false, false, false, false, false, false, false, false, false, false, false, false, false, false, false, false, false, false, false, false, false, false, false, false, false, false, false, false, false, false, false] [] (s1 := ⟨[.c (.sl (a1.map c36)), I k2, .bot, .bot, .bot, .bot, .bot, .bot, .bot, .bot, .bot, .bot, .bot, .bot, .bot, .bot, .bot, .bot, .bot, .bot, .bot, .bot, .bot, .bot, .bot, .bot, .bot, .bot, .bot, .bot, .bot, .bot, .bot, .bot, .bot, .bot, .bot, .bot, .bot, .bot], []⟩) ?_ ?_
  · refine XL_cons rfl (X_of_Y0 rfl (E_assign (I 0) rfl (by kernel_rfl))) ?_
    refine XL_nil ?_
    kernel_rfl
  refine V_seq ?_
  refine V_sreg [true, true, false, false, false, true, false, false, false, false, false, false, false, false, false, false, false, false, false, false, false, false, false, false, false, false, false, false, false, false, false, false, false, false, false, false, false, false, false, false] [] (s1 := ⟨[.c (.sl (a1.map c36)), I k2, .bot, .bot, .bot, I 0, .bot, .bot, .bot, .bot, .bot, .bot, .bot, .bot, .bot, .bot, .bot, .bot, .bot, .bot, .bot, .bot, .bot, .bot, .bot, .bot, .bot, .bot, .bot, .bot, .bot, .bot, .bot, .bot, .bot, .bot, .bot, .bot, .bot, .bot], []⟩) ?_ ?_
  · refine XL_cons rfl (X_of_Y0 rfl (E_assign (I 0) rfl (by kernel_rfl))) ?_
    refine XL_nil ?_
    kernel_rfl
  obtain ⟨qo6, hLo6, hko6⟩ := of_bind h
  refine V_toS (q := qo6) (S := fun o6 => ⟨[.bot, I o6, .bot, .bot, .bot, .bot, .bot, .bot, .bot, .bot, .bot, .bot, .bot, .bot, .bot, .bot, .bot, .bot, .bot, .bot, .bot, .bot, .bot, .bot, .bot, .bot, .bot, .bot, .bot, .bot, .bot, .bot, .bot, .bot, .bot, .bot, .bot, .bot, .bot, .bot], []⟩) [false, true, false, false, false, false, false, false, false, false, false, false, false, false, false, false, false, false, false, false, false, false, false, false, false, false, false, false, false, false, false, false, false, false, false, false, false, false, false, false] [] ?_ ?_
  · refine V_block (V_loop (fun n s => ∃ (k3 : Int) (i4 : Int), s.keep [true, true, false, false, false, true, false, false, false, false, false, false, false, false, false, false, false, false, false, false, false, false, false, false, false, false, false, false, false, false, false, false, false, false, false, false, false, false, false, false] [] = (⟨[.c (.sl (a1.map c36)), I k3, .bot, .bot, .bot, I i4, .bot, .bot, .bot, .bot, .bot, .bot, .bot, .bot, .bot, .bot, .bot, .bot, .bot, .bot, .bot, .bot, .bot, .bot, .bot, .bot, .bot, .bot, .bot, .bot, .bot, .bot, .bot, .bot, .bot, .bot, .bot, .bot, .bot, .bot], []⟩ : St) ∧ r_laws_heldFormS_L5 a1 n k3 i4 = some qo6) FU ⟨_, _,  by rfl, hLo6⟩ ?_)
    clear hLo6
    rintro n s ⟨k3, i4, hs, h⟩
    refine V_keep _ _ hs ?_
    clear hs
    cases n with
    | zero => cases h
    | succ n =>
      rw [r_laws_heldFormS_L5] at h
      refine V_seq ?_
      refine V_sreg [true, true, false, false, false, true, false, false, false, true, false, false, false, false, false, false, false, false, false, false, false, false, false, false, false, false, false, false, false, false, false, false, false, false, false, false, false, false, false, false] [] (s1 := ⟨[.c (.sl (a1.map c36)), I k3, .bot, .bot, .bot, I i4, .bot, .bot, .bot, Bo (ltI i4 ((a1.length : Int))), .bot, .bot, .bot, .bot, .bot, .bot, .bot, .bot, .bot, .bot, .bot, .bot, .bot, .bot, .bot, .bot, .bot, .bot, .bot, .bot, .bot, .bot, .bot, .bot, .bot, .bot, .bot, .bot, .bot, .bot], []⟩) ?_ ?_
      · refine XL_cons rfl (X_of_Y0 rfl (E_move (I i4) rfl (by kernel_rfl))) ?_
        refine XL_cons rfl (X_of_Y0 rfl (E_move (.c (.sl (a1.map c36))) rfl (by kernel_rfl))) ?_
        refine XL_cons rfl (X_of_Y0 rfl (Y0_lenM (c := c36) (xs := a1) Try.underlying53 rfl (by kernel_rfl))) ?_
        refine XL_cons rfl (X_of_Y0 rfl (Y0_ltw (k := .i64) (a := i4) (b := (a1.length : Int)) rfl (by kernel_rfl) (by kernel_rfl))) ?_
        refine XL_nil ?_
        kernel_rfl
      refine V_cond rfl (fun hc7 => ?_) (fun hc7 => ?_)
      · have h := of_true h hc7
        refine V_skip ?_
        show V _ _ _ _
        refine V_seq ?_
        refine V_block ?_
        refine V_seq ?_
        obtain ⟨e8, he8, h⟩ := of_bind h
        refine V_sreg [true, true, false, false, false, true, false, false, false, false, false, false, false, false, false, false, false, false, true, false, false, false, false, false, false, false, false, false, false, false, false, false, false, false, false, false, false, false, false, false] [] (s1 := ⟨[.c (.sl (a1.map c36)), I k3, .bot, .bot, .bot, I i4, .bot, .bot, .bot, .bot, .bot, .bot, .bot, .bot, .bot, .bot, .bot, .bot, Bo (!eqI e8.1 k3), .bot, .bot, .bot, .bot, .bot, .bot, .bot, .bot, .bot, .bot, .bot, .bot, .bot, .bot, .bot, .bot, .bot, .bot, .bot, .bot, .bot], []⟩) ?_ ?_
        · refine XL_cons rfl (X_of_Y0 rfl (E_move (.c (.sl (a1.map c36))) rfl (by kernel_rfl))) ?_
          refine XL_cons rfl (X_of_Y0 rfl (E_move (I i4) rfl (by kernel_rfl))) ?_
          refine XL_cons rfl (X_of_Y0 rfl (Y0_idxM (c := c36) (xs := a1) (v := e8) (n := i4) Try.underlying53 sz36 rfl (by kernel_rfl) (by kernel_rfl) he8)) ?_
          refine XL_cons rfl (X_of_Y0 rfl (E_field (.pe [Ti e8.1, Ti e8.2.1, Ti e8.2.2]) Try.underlying36 rfl sz3 rfl (by kernel_rfl) (by intro hh; cases hh))) ?_
          refine XL_cons rfl (X_of_Y0 rfl (Y0_load1 (c := Ti e8.1) (cs := [Ti e8.2.1, Ti e8.2.2]) sc3 rfl (by kernel_rfl))) ?_
          refine XL_cons rfl (X_of_Y0 rfl (E_move (I k3) rfl (by kernel_rfl))) ?_
          refine XL_cons rfl (X_of_Y0 rfl (Y0_new (k := .i64) (a := e8.1) (b := k3) rfl (by kernel_rfl) (by kernel_rfl))) ?_
          refine XL_nil ?_
          kernel_rfl
        refine V_cond rfl (fun hc9 => ?_) (fun hc9 => ?_)
        · have h := of_true h hc9
          refine V_sreg [false, false, false, false, true, false, false, false, false, false, false, false, false, false, false, false, false, false, false, false, false, false, false, false, false, false, false, false, false, false, false, false, false, false, false, false, false, false, false, false] [] (s1 := ⟨[.bot, .bot, .bot, .bot, I (-1), .bot, .bot, .bot, .bot, .bot, .bot, .bot, .bot, .bot, .bot, .bot, .bot, .bot, .bot, .bot, .bot, .bot, .bot, .bot, .bot, .bot, .bot, .bot, .bot, .bot, .bot, .bot, .bot, .bot, .bot, .bot, .bot, .bot, .bot, .bot], []⟩) ?_ ?_
          · refine XL_cons rfl (X_of_Y0 rfl (E_assign (I (-1)) rfl (by kernel_rfl))) ?_
            refine XL_nil ?_
            kernel_rfl
          refine V_ret ?_
          obtain rfl := some_inj h
          have h := hko6
          obtain rfl := some_inj h
          show Post _ _ _ _ _
          exact ⟨.inr rfl, rfl, rfl, rfl⟩
        · have h := of_false h hc9
          refine V_skip ?_
          show V _ _ _ _
          obtain ⟨k10, hk10, h⟩ := of_sI h
          refine V_sreg [true, true, false, false, false, true, false, false, false, false, false, false, false, false, false, false, false, false, false, false, false, false, false, false, false, false, false, false, false, false, false, false, false, false, false, false, false, false, false, false] [] (s1 := ⟨[.c (.sl (a1.map c36)), I k10, .bot, .bot, .bot, I i4, .bot, .bot, .bot, .bot, .bot, .bot, .bot, .bot, .bot, .bot, .bot, .bot, .bot, .bot, .bot, .bot, .bot, .bot, .bot, .bot, .bot, .bot, .bot, .bot, .bot, .bot, .bot, .bot, .bot, .bot, .bot, .bot, .bot, .bot], []⟩) ?_ ?_
          · refine XL_cons rfl (X_of_Y0 rfl (E_move (I k3) rfl (by kernel_rfl))) ?_
            refine XL_cons rfl (X_of_Y0 rfl (Y0_add64 (a := k3) (b := 1) rfl (by kernel_rfl) (by kernel_rfl))) ?_
            refine XL_cons rfl (X_of_Y0 rfl (E_assign (I (w64 (k3 + 1))) rfl (by kernel_rfl))) ?_
            refine XL_nil ?_
            subst hk10
            kernel_rfl
          refine V_seq ?_
          obtain ⟨e11, he11, h⟩ := of_bind h
          refine V_sreg [true, true, false, false, false, true, false, false, false, false, false, false, false, false, false, false, false, false, false, false, false, false, false, false, false, false, false, true, false, false, false, false, false, false, false, false, false, false, false, false] [] (s1 := ⟨[.c (.sl (a1.map c36)), I k10, .bot, .bot, .bot, I i4, .bot, .bot, .bot, .bot, .bot, .bot, .bot, .bot, .bot, .bot, .bot, .bot, .bot, .bot, .bot, .bot, .bot, .bot, .bot, .bot, .bot, Bo (!eqI e11.2.1 k10), .bot, .bot, .bot, .bot, .bot, .bot, .bot, .bot, .bot, .bot, .bot, .bot], []⟩) ?_ ?_
          · refine XL_cons rfl (X_of_Y0 rfl (E_move (.c (.sl (a1.map c36))) rfl (by kernel_rfl))) ?_
            refine XL_cons rfl (X_of_Y0 rfl (E_move (I i4) rfl (by kernel_rfl))) ?_
            refine XL_cons rfl (X_of_Y0 rfl (Y0_idxM (c := c36) (xs := a1) (v := e11) (n := i4) Try.underlying53 sz36 rfl (by kernel_rfl) (by kernel_rfl) he11)) ?_
            refine XL_cons rfl (X_of_Y0 rfl (E_field (.pe [Ti e11.2.1, Ti e11.2.2]) Try.underlying36 rfl sz3 rfl (by kernel_rfl) (by intro hh; cases hh))) ?_
            refine XL_cons rfl (X_of_Y0 rfl (Y0_load1 (c := Ti e11.2.1) (cs := [Ti e11.2.2]) sc3 rfl (by kernel_rfl))) ?_
            refine XL_cons rfl (X_of_Y0 rfl (E_move (I k10) rfl (by kernel_rfl))) ?_
            refine XL_cons rfl (X_of_Y0 rfl (Y0_new (k := .i64) (a := e11.2.1) (b := k10) rfl (by kernel_rfl) (by kernel_rfl))) ?_
            refine XL_nil ?_
            kernel_rfl
          refine V_cond rfl (fun hc12 => ?_) (fun hc12 => ?_)
          · have h := of_true h hc12
            refine V_sreg [false, false, false, false, true, false, false, false, false, false, false, false, false, false, false, false, false, false, false, false, false, false, false, false, false, false, false, false, false, false, false, false, false, false, false, false, false, false, false, false] [] (s1 := ⟨[.bot, .bot, .bot, .bot, I (-1), .bot, .bot, .bot, .bot, .bot, .bot, .bot, .bot, .bot, .bot, .bot, .bot, .bot, .bot, .bot, .bot, .bot, .bot, .bot, .bot, .bot, .bot, .bot, .bot, .bot, .bot, .bot, .bot, .bot, .bot, .bot, .bot, .bot, .bot, .bot], []⟩) ?_ ?_
            · refine XL_cons rfl (X_of_Y0 rfl (E_assign (I (-1)) rfl (by kernel_rfl))) ?_
              refine XL_nil ?_
              kernel_rfl
            refine V_ret ?_
            obtain rfl := some_inj h
            have h := hko6
            obtain rfl := some_inj h
            show Post _ _ _ _ _
            exact ⟨.inr rfl, rfl, rfl, rfl⟩
          · have h := of_false h hc12
            refine V_skip ?_
            show V _ _ _ _
            obtain ⟨k13, hk13, h⟩ := of_sI h
            refine V_sreg [true, true, false, false, false, true, false, false, false, false, false, false, false, false, false, false, false, false, false, false, false, false, false, false, false, false, false, false, false, false, false, false, false, false, false, false, false, false, false, false] [] (s1 := ⟨[.c (.sl (a1.map c36)), I k13, .bot, .bot, .bot, I i4, .bot, .bot, .bot, .bot, .bot, .bot, .bot, .bot, .bot, .bot, .bot, .bot, .bot, .bot, .bot, .bot, .bot, .bot, .bot, .bot, .bot, .bot, .bot, .bot, .bot, .bot, .bot, .bot, .bot, .bot, .bot, .bot, .bot, .bot], []⟩) ?_ ?_
            · refine XL_cons rfl (X_of_Y0 rfl (E_move (I k10) rfl (by kernel_rfl))) ?_
              refine XL_cons rfl (X_of_Y0 rfl (Y0_add64 (a := k10) (b := 1) rfl (by kernel_rfl) (by kernel_rfl))) ?_
              refine XL_cons rfl (X_of_Y0 rfl (E_assign (I (w64 (k10 + 1))) rfl (by kernel_rfl))) ?_
              refine XL_nil ?_
              subst hk13
              kernel_rfl
            refine V_seq ?_
            obtain ⟨e14, he14, h⟩ := of_bind h
            refine V_sreg [true, true, false, false, false, true, false, false, false, false, false, false, false, false, false, false, false, false, false, false, false, false, false, false, false, false, false, false, false, false, false, false, false, false, false, false, true, false, false, false] [] (s1 := ⟨[.c (.sl (a1.map c36)), I k13, .bot, .bot, .bot, I i4, .bot, .bot, .bot, .bot, .bot, .bot, .bot, .bot, .bot, .bot, .bot, .bot, .bot, .bot, .bot, .bot, .bot, .bot, .bot, .bot, .bot, .bot, .bot, .bot, .bot, .bot, .bot, .bot, .bot, .bot, Bo (!eqI e14.2.2 k13), .bot, .bot, .bot], []⟩) ?_ ?_
            · refine XL_cons rfl (X_of_Y0 rfl (E_move (.c (.sl (a1.map c36))) rfl (by kernel_rfl))) ?_
              refine XL_cons rfl (X_of_Y0 rfl (E_move (I i4) rfl (by kernel_rfl))) ?_
              refine XL_cons rfl (X_of_Y0 rfl (Y0_idxM (c := c36) (xs := a1) (v := e14) (n := i4) Try.underlying53 sz36 rfl (by kernel_rfl) (by kernel_rfl) he14)) ?_
              refine XL_cons rfl (X_of_Y0 rfl (E_field (.pe [Ti e14.2.2]) Try.underlying36 rfl sz3 rfl (by kernel_rfl) (by intro hh; cases hh))) ?_
              refine XL_cons rfl (X_of_Y0 rfl (Y0_load1 (c := Ti e14.2.2) (cs := []) sc3 rfl (by kernel_rfl))) ?_
              refine XL_cons rfl (X_of_Y0 rfl (E_move (I k13) rfl (by kernel_rfl))) ?_
              refine XL_cons rfl (X_of_Y0 rfl (Y0_new (k := .i64) (a := e14.2.2) (b := k13) rfl (by kernel_rfl) (by kernel_rfl))) ?_
              refine XL_nil ?_
              kernel_rfl
            refine V_cond rfl (fun hc15 => ?_) (fun hc15 => ?_)
            · have h := of_true h hc15
              refine V_sreg [false, false, false, false, true, false, false, false, false, false, false, false, false, false, false, false, false, false, false, false, false, false, false, false, false, false, false, false, false, false, false, false, false, false, false, false, false, false, false, false] [] (s1 := ⟨[.bot, .bot, .bot, .bot, I (-1), .bot, .bot, .bot, .bot, .bot, .bot, .bot, .bot, .bot, .bot, .bot, .bot, .bot, .bot, .bot, .bot, .bot, .bot, .bot, .bot, .bot, .bot, .bot, .bot, .bot, .bot, .bot, .bot, .bot, .bot, .bot, .bot, .bot, .bot, .bot], []⟩) ?_ ?_
              · refine XL_cons rfl (X_of_Y0 rfl (E_assign (I (-1)) rfl (by kernel_rfl))) ?_
                refine XL_nil ?_
                kernel_rfl
              refine V_ret ?_
              obtain rfl := some_inj h
              have h := hko6
              obtain rfl := some_inj h
              show Post _ _ _ _ _
              exact ⟨.inr rfl, rfl, rfl, rfl⟩
            · have h := of_false h hc15
              refine V_skip ?_
              show V _ _ _ _
              obtain ⟨k16, hk16, h⟩ := of_sI h
              refine V_reg [true, true, false, false, false, true, false, false, false, false, false, false, false, false, false, false, false, false, false, false, false, false, false, false, false, false, false, false, false, false, false, false, false, false, false, false, false, false, false, false] [] (s1 := ⟨[.c (.sl (a1.map c36)), I k16, .bot, .bot, .bot, I i4, .bot, .bot, .bot, .bot, .bot, .bot, .bot, .bot, .bot, .bot, .bot, .bot, .bot, .bot, .bot, .bot, .bot, .bot, .bot, .bot, .bot, .bot, .bot, .bot, .bot, .bot, .bot, .bot, .bot, .bot, .bot, .bot, .bot, .bot], []⟩) ?_ ?_
              · refine XL_cons rfl (X_of_Y0 rfl (E_move (I k13) rfl (by kernel_rfl))) ?_
                refine XL_cons rfl (X_of_Y0 rfl (Y0_add64 (a := k13) (b := 1) rfl (by kernel_rfl) (by kernel_rfl))) ?_
                refine XL_cons rfl (X_of_Y0 rfl (E_assign (I (w64 (k13 + 1))) rfl (by kernel_rfl))) ?_
                refine XL_nil ?_
                subst hk16
                kernel_rfl
              show V _ _ _ _
              obtain ⟨i17, hi17, h⟩ := of_sI h
              refine V_reg [true, true, false, false, false, true, false, false, false, false, false, false, false, false, false, false, false, false, false, false, false, false, false, false, false, false, false, false, false, false, false, false, false, false, false, false, false, false, false, false] [] (s1 := ⟨[.c (.sl (a1.map c36)), I k16, .bot, .bot, .bot, I i17, .bot, .bot, .bot, .bot, .bot, .bot, .bot, .bot, .bot, .bot, .bot, .bot, .bot, .bot, .bot, .bot, .bot, .bot, .bot, .bot, .bot, .bot, .bot, .bot, .bot, .bot, .bot, .bot, .bot, .bot, .bot, .bot, .bot, .bot], []⟩) ?_ ?_
              · refine XL_cons rfl (X_of_Y0 rfl (E_move (I i4) rfl (by kernel_rfl))) ?_
                refine XL_cons rfl (X_of_Y0 rfl (Y0_add64 (a := i4) (b := 1) rfl (by kernel_rfl) (by kernel_rfl))) ?_
                refine XL_cons rfl (X_of_Y0 rfl (E_assign (I (w64 (i4 + 1))) rfl (by kernel_rfl))) ?_
                refine XL_nil ?_
                subst hi17
                kernel_rfl
              exact ⟨n, Nat.lt_succ_self n, _, _,  by rfl, h⟩
      · have h := of_false h hc7
        refine V_exit ?_
        obtain rfl := some_inj h
        exact ⟨_, rfl, by rfl⟩
  rintro o6 rfl
  have h := hko6
  clear hko6
  show V _ _ _ _
  refine V_sreg [false, false, false, false, true, false, false, false, false, false, false, false, false, false, false, false, false, false, false, false, false, false, false, false, false, false, false, false, false, false, false, false, false, false, false, false, false, false, false, false] [] (s1 := ⟨[.bot, .bot, .bot, .bot, I o6, .bot, .bot, .bot, .bot, .bot, .bot, .bot, .bot, .bot, .bot, .bot, .bot, .bot, .bot, .bot, .bot, .bot, .bot, .bot, .bot, .bot, .bot, .bot, .bot, .bot, .bot, .bot, .bot, .bot, .bot, .bot, .bot, .bot, .bot, .bot], []⟩) ?_ ?_
  · refine XL_cons rfl (X_of_Y0 rfl (E_move (I o6) rfl (by kernel_rfl))) ?_
    refine XL_cons rfl (X_of_Y0 rfl (E_assign (I o6) rfl (by kernel_rfl))) ?_
    refine XL_nil ?_
    kernel_rfl
  refine V_ret ?_
  obtain rfl := some_inj h
  show Post _ _ _ _ _
  exact ⟨.inr rfl, rfl, rfl, rfl⟩
theorem cf_laws_FnExactKernelClasses : ∀ args w, (callFunc 12 args).run Try.prog w = .ok (.enter 12 args) w := run_callFunc Try.func12 (by kernel_rfl) (by kernel_rfl)
set_option maxRecDepth 100000 in
set_option maxHeartbeats 400000 in
theorem s_laws_FnExactKernelClasses {aD1 : Int} {aP2 : Int} {r : Bool} (h : r_laws_FnExactKernelClasses aD1 aP2 = some r) : CallS Try.prog 12 [I aD1, I aP2] (Bo r) [] := by
  refine CallS_of_text (rs := [.t 4]) (vs := [.tmp 4]) Try.func12 rfl rfl (.cons rfl FitsL.nil) (by decide) 68 rfl ?_
  unfold r_laws_FnExactKernelClasses at h
  show V _ _ ⟨[I aD1, I aP2, .bot, .bot, .bot, .bot, .bot, .bot, .bot, .bot, .bot, .bot, .bot, .bot, .bot, .bot, .bot, .bot, .bot, .bot, .bot, .bot, .bot, .bot, .bot, .bot, .bot, .bot, .bot, .bot, .bot, .bot, .bot, .bot, .bot, .bot, .bot, .bot, .bot, .bot, .bot, .bot, .bot, .bot, .bot, .bot, .bot, .bot, .bot, .bot, .bot, .bot, .bot, .bot, .bot, .bot, .bot, .bot, .bot, .bot, .bot, .bot, .bot, .bot, .bot, .bot, .bot, .bot], []⟩ _
  refine V_sreg [true, true, false, false, false, false, false, false, false, false, false, false, false, false, false, false, false, false, false, false, false, false, false, false, false, false, false, false, false, false, false, false, false, false, false, false, false, false, false, false, false, false, false, false, false, false, false, false, false, false, false, false, false, false, false, false, false, false, false, false, false, false, false, false, false, false, false, false] [] (s1 := ⟨[I aD1, I aP2, .bot, .bot, .bot, .bot, .bot, .bot, .bot, .bot, .bot, .bot, .bot, .bot, .bot, .bot, .bot, .bot, .bot, .bot, .bot, .bot, .bot, .bot, .bot, .bot, .bot, .bot, .bot, .bot, .bot, .bot, .bot, .bot, .bot, .bot, .bot, .bot, .bot, .bot, .bot, .bot, .bot, .bot, .bot, .bot, .bot, .bot, .bot, .bot, .bot, .bot, .bot, .bot, .bot, .bot, .bot, .bot, .bot, .bot, .bot, .bot, .bot, .bot, .bot, .bot, .bot, .bot], []⟩) ?_ ?_
  · refine XL_cons rfl (X_of_Y0 rfl (E_assign (Bo false) rfl (by kernel_rfl))) ?_
    refine XL_nil ?_
    kernel_rfl
  obtain ⟨y3, hy3, h⟩ := of_bind h
  refine V_sreg [true, true, false, false, false, true, true, false, false, false, false, false, false, false, false, false, false, false, false, false, false, false, false, false, false, false, false, false, false, false, false, false, false, false, false, false, false, false, false, false, false, false, false, false, false, false, false, false, false, false, false, false, false, false, false, false, false, false, false, false, false, false, false, false, false, false, false, false] [128] (s1 := ⟨[I aD1, I aP2, .bot, .bot, .bot, .ow 128, Bo y3.2, .bot, .bot, .bot, .bot, .bot, .bot, .bot, .bot, .bot, .bot, .bot, .bot, .bot, .bot, .bot, .bot, .bot, .bot, .bot, .bot, .bot, .bot, .bot, .bot, .bot, .bot, .bot, .bot, .bot, .bot, .bot, .bot, .bot, .bot, .bot, .bot, .bot, .bot, .bot, .bot, .bot, .bot, .bot, .bot, .bot, .bot, .bot, .bot, .bot, .bot, .bot, .bot, .bot, .bot, .bot, .bot, .bot, .bot, .bot, .bot, .bot], [(128, .arr 36 3 (y3.1.map c36))]⟩) ?_ ?_
  · refine XL_cons rfl (X_of_Y0 rfl (E_move (I aD1) rfl (by kernel_rfl))) ?_
    refine XL_cons rfl (X_of_Y0 rfl (E_move (I aP2) rfl (by kernel_rfl))) ?_
    refine XL_cons rfl (X_of_Y1 rfl (Y1_call (s_spec_KernelClasses hy3) cf_spec_KernelClasses rfl (by kernel_rfl))) ?_
    refine XL_cons rfl (X_of_Y0 rfl (E_move (.tc (.ow 128) (.tc (Bo y3.2) .tn)) rfl (by kernel_rfl))) ?_
    refine XL_cons rfl (X_of_Y0 rfl (E_ext (n := 0) (.ow 128) (.tc (Bo y3.2) .tn) (.ow 128) rfl (by kernel_rfl) (by kernel_rfl) (by intro hh; cases hh))) ?_
    refine XL_cons rfl (X_of_Y0 rfl (E_ext (n := 1) (.ow 128) (.tc (Bo y3.2) .tn) (Bo y3.2) rfl (by kernel_rfl) (by kernel_rfl) (by intro hh; cases hh))) ?_
    refine XL_cons rfl (X_of_Y0 rfl (E_assign (.ow 128) rfl (by kernel_rfl))) ?_
    refine XL_cons rfl (X_of_Y0 rfl (E_assign (Bo y3.2) rfl (by kernel_rfl))) ?_
    refine XL_nil ?_
    kernel_rfl
  obtain ⟨y4, hy4, h⟩ := of_bind h
  refine V_sreg [true, true, false, false, false, true, true, true, true, false, false, false, false, false, false, false, false, false, false, false, false, false, false, false, false, false, false, false, false, false, false, false, false, false, false, false, false, false, false, false, false, false, false, false, false, false, false, false, false, false, false, false, false, false, false, false, false, false, false, false, false, false, false, false, false, false, false, false] [176, 128] (s1 := ⟨[I aD1, I aP2, .bot, .bot, .bot, .ow 128, Bo y3.2, .ow 176, Bo y4.2, .bot, .bot, .bot, .bot, .bot, .bot, .bot, .bot, .bot, .bot, .bot, .bot, .bot, .bot, .bot, .bot, .bot, .bot, .bot, .bot, .bot, .bot, .bot, .bot, .bot, .bot, .bot, .bot, .bot, .bot, .bot, .bot, .bot, .bot, .bot, .bot, .bot, .bot, .bot, .bot, .bot, .bot, .bot, .bot, .bot, .bot, .bot, .bot, .bot, .bot, .bot, .bot, .bot, .bot, .bot, .bot, .bot, .bot, .bot], [(176, .arr 36 3 (y4.1.map c36)), (128, .arr 36 3 (y3.1.map c36))]⟩) ?_ ?_
  · refine XL_cons rfl (X_of_Y0 rfl (E_move (I aD1) rfl (by kernel_rfl))) ?_
    refine XL_cons rfl (X_of_Y0 rfl (E_move (I aP2) rfl (by kernel_rfl))) ?_
    refine XL_cons rfl (X_of_Y1 rfl (Y1_call (s_impl_KernelClasses hy4) cf_impl_KernelClasses rfl (by kernel_rfl))) ?_
    refine XL_cons rfl (X_of_Y0 rfl (E_move (.tc (.ow 176) (.tc (Bo y4.2) .tn)) rfl (by kernel_rfl))) ?_
    refine XL_cons rfl (X_of_Y0 rfl (E_ext (n := 0) (.ow 176) (.tc (Bo y4.2) .tn) (.ow 176) rfl (by kernel_rfl) (by kernel_rfl) (by intro hh; cases hh))) ?_
    refine XL_cons rfl (X_of_Y0 rfl (E_ext (n := 1) (.ow 176) (.tc (Bo y4.2) .tn) (Bo y4.2) rfl (by kernel_rfl) (by kernel_rfl) (by intro hh; cases hh))) ?_
    refine XL_cons rfl (X_of_Y0 rfl (E_assign (.ow 176) rfl (by kernel_rfl))) ?_
    refine XL_cons rfl (X_of_Y0 rfl (E_assign (Bo y4.2) rfl (by kernel_rfl))) ?_
    refine XL_nil ?_
    kernel_rfl
  refine V_seq ?_
  obtain ⟨y5, hy5, h⟩ := of_bind h
  refine V_sreg [true, true, false, false, false, true, true, true, false, false, false, false, false, false, false, false, false, false, false, false, false, false, false, false, false, false, false, false, false, false, false, false, false, true, false, false, false, false, false, false, false, false, false, false, false, false, false, false, false, false, false, false, false, false, false, false, false, false, false, false, false, false, false, false, false, false, false, false] [176, 128] (s1 := ⟨[I aD1, I aP2, .bot, .bot, .bot, .ow 128, Bo y3.2, .ow 176, .bot, .bot, .bot, .bot, .bot, .bot, .bot, .bot, .bot, .bot, .bot, .bot, .bot, .bot, .bot, .bot, .bot, .bot, .bot, .bot, .bot, .bot, .bot, .bot, .bot, Bo (bif (!y5) then true else (y4.2 != y3.2)), .bot, .bot, .bot, .bot, .bot, .bot, .bot, .bot, .bot, .bot, .bot, .bot, .bot, .bot, .bot, .bot, .bot, .bot, .bot, .bot, .bot, .bot, .bot, .bot, .bot, .bot, .bot, .bot, .bot, .bot, .bot, .bot, .bot, .bot], [(176, .arr 36 3 (y4.1.map c36)), (128, .arr 36 3 (y3.1.map c36))]⟩) ?_ ?_
  · refine XL_cons rfl (X_of_Y0 rfl (E_move (.ow 176) rfl (by kernel_rfl))) ?_
    refine XL_cons rfl (X_of_Y0 rfl (E_move (.ow 128) rfl (by kernel_rfl))) ?_
    refine XL_cons rfl (X_of_Y1 rfl (Y1_callS (s_laws_eqFormS hy5) cf_laws_eqFormS rfl (by kernel_rfl) rfl rfl)) ?_
    refine XL_cons rfl (X_of_Y0 rfl (Y0_not (b := y5) rfl (by kernel_rfl))) ?_
    refine XL_cons rfl (X_of_Y0 rfl (E_move (Bo (!y5)) rfl (by kernel_rfl))) ?_
    refine XL_split (!y5) (fun hc6 => ?_) (fun hc6 => ?_)
    · refine XL_skipF (!y5) rfl rfl (by kernel_rfl) hc6 rfl ?_
      refine XL_skipF (!y5) rfl rfl (by kernel_rfl) hc6 rfl ?_
      refine XL_skipF (!y5) rfl rfl (by kernel_rfl) hc6 rfl ?_
      refine XL_cons rfl (X_of_Y0 rfl (Y0_pick1 (b := !y5) (p := true) (q := y4.2 != y3.2) rfl (by kernel_rfl) hc6 (by kernel_rfl))) ?_
      refine XL_nil ?_
      kernel_rfl
    · refine XL_takeC (!y5) rfl rfl (by kernel_rfl) hc6 (X_of_Y0 rfl (E_move (Bo y4.2) rfl (by kernel_rfl))) ?_
      refine XL_takeC (!y5) rfl rfl (by kernel_rfl) hc6 (X_of_Y0 rfl (E_move (Bo y3.2) rfl (by kernel_rfl))) ?_
      refine XL_takeC (!y5) rfl rfl (by kernel_rfl) hc6 (X_of_Y0 rfl (Y0_neb (a := y4.2) (b := y3.2) Try.underlying4 rfl (by kernel_rfl) (by kernel_rfl))) ?_
      refine XL_cons rfl (X_of_Y0 rfl (Y0_pick0 (b := !y5) (p := true) (q := y4.2 != y3.2) rfl (by kernel_rfl) hc6 (by kernel_rfl))) ?_
      refine XL_nil ?_
      kernel_rfl
  refine V_cond rfl (fun hc7 => ?_) (fun hc7 => ?_)
  · have h := of_true h hc7
    refine V_sreg [false, false, false, false, true, false, false, false, false, false, false, false, false, false, false, false, false, false, false, false, false, false, false, false, false, false, false, false, false, false, false, false, false, false, false, false, false, false, false, false, false, false, false, false, false, false, false, false, false, false, false, false, false, false, false, false, false, false, false, false, false, false, false, false, false, false, false, false] [] (s1 := ⟨[.bot, .bot, .bot, .bot, Bo false, .bot, .bot, .bot, .bot, .bot, .bot, .bot, .bot, .bot, .bot, .bot, .bot, .bot, .bot, .bot, .bot, .bot, .bot, .bot, .bot, .bot, .bot, .bot, .bot, .bot, .bot, .bot, .bot, .bot, .bot, .bot, .bot, .bot, .bot, .bot, .bot, .bot, .bot, .bot, .bot, .bot, .bot, .bot, .bot, .bot, .bot, .bot, .bot, .bot, .bot, .bot, .bot, .bot, .bot, .bot, .bot, .bot, .bot, .bot, .bot, .bot, .bot, .bot], []⟩) ?_ ?_
    · refine XL_cons rfl (X_of_Y0 rfl (E_assign (Bo false) rfl (by kernel_rfl))) ?_
      refine XL_nil ?_
      kernel_rfl
    refine V_ret ?_
    obtain rfl := some_inj h
    show Post _ _ _ _ _
    exact ⟨.inr rfl, rfl, rfl, rfl⟩
  · have h := of_false h hc7
    refine V_skip ?_
    show V _ _ _ _
    refine V_sreg [true, true, false, false, false, true, true, true, false, true, false, false, false, false, false, false, false, false, false, false, false, false, false, false, false, false, false, false, false, false, false, false, false, false, false, false, false, false, false, false, false, false, false, false, false, false, false, false, false, false, false, false, false, false, false, false, false, false, false, false, false, false, false, false, false, false, false, false] [176, 128] (s1 := ⟨[I aD1, I aP2, .bot, .bot, .bot, .ow 128, Bo y3.2, .ow 176, .bot, I 1, .bot, .bot, .bot, .bot, .bot, .bot, .bot, .bot, .bot, .bot, .bot, .bot, .bot, .bot, .bot, .bot, .bot, .bot, .bot, .bot, .bot, .bot, .bot, .bot, .bot, .bot, .bot, .bot, .bot, .bot, .bot, .bot, .bot, .bot, .bot, .bot, .bot, .bot, .bot, .bot, .bot, .bot, .bot, .bot, .bot, .bot, .bot, .bot, .bot, .bot, .bot, .bot, .bot, .bot, .bot, .bot, .bot, .bot], [(176, .arr 36 3 (y4.1.map c36)), (128, .arr 36 3 (y3.1.map c36))]⟩) ?_ ?_
    · refine XL_cons rfl (X_of_Y0 rfl (E_assign (I 1) rfl (by kernel_rfl))) ?_
      refine XL_nil ?_
      kernel_rfl
    obtain ⟨y8, hy8, h⟩ := of_bind h
    refine V_sreg [true, true, false, false, false, true, true, true, false, true, false, false, false, false, false, false, false, false, false, false, false, false, false, false, false, false, false, false, false, false, false, false, false, false, false, false, false, false, false, false, false, false, false, false, false, false, false, false, false, false, false, false, false, false, false, false, false, false, false, false, false, false, false, false, false, false, false, false] [176, 128] (s1 := ⟨[I aD1, I aP2, .bot, .bot, .bot, .ow 128, Bo y3.2, .ow 176, .bot, I y8.1, .bot, .bot, .bot, .bot, .bot, .bot, .bot, .bot, .bot, .bot, .bot, .bot, .bot, .bot, .bot, .bot, .bot, .bot, .bot, .bot, .bot, .bot, .bot, .bot, .bot, .bot, .bot, .bot, .bot, .bot, .bot, .bot, .bot, .bot, .bot, .bot, .bot, .bot, .bot, .bot, .bot, .bot, .bot, .bot, .bot, .bot, .bot, .bot, .bot, .bot, .bot, .bot, .bot, .bot, .bot, .bot, .bot, .bot], [(176, .arr 36 3 (y8.2.map c36)), (128, .arr 36 3 (y3.1.map c36))]⟩) ?_ ?_
    · refine XL_cons rfl (X_of_Y0 rfl (E_move (.ow 176) rfl (by kernel_rfl))) ?_
      refine XL_cons rfl (X_of_Y0 rfl (E_move (I 1) rfl (by kernel_rfl))) ?_
      refine XL_cons rfl (X_callR (E' := [(176, .arr 36 3 (y8.2.map c36)), (128, .arr 36 3 (y3.1.map c36))]) [(80000, 176)] 36 (s_laws_markFormS hy8) cf_laws_markFormS rfl rfl (by kernel_rfl) rfl (mE_cons (by kernel_rfl) mE_nil) rfl (by kernel_rfl) rfl rfl (by kernel_rfl)) ?_
      refine XL_cons rfl (X_of_Y0 rfl (E_assign (I y8.1) rfl (by kernel_rfl))) ?_
      refine XL_nil ?_
      kernel_rfl
    refine V_sreg [true, true, false, false, false, true, true, true, false, true, true, false, false, false, false, false, false, false, false, false, false, false, false, false, false, false, false, false, false, false, false, false, false, false, false, false, false, false, false, false, false, false, false, false, false, false, false, false, false, false, false, false, false, false, false, false, false, false, false, false, false, false, false, false, false, false, false, false] [176, 128] (s1 := ⟨[I aD1, I aP2, .bot, .bot, .bot, .ow 128, Bo y3.2, .ow 176, .bot, I y8.1, I 1, .bot, .bot, .bot, .bot, .bot, .bot, .bot, .bot, .bot, .bot, .bot, .bot, .bot, .bot, .bot, .bot, .bot, .bot, .bot, .bot, .bot, .bot, .bot, .bot, .bot, .bot, .bot, .bot, .bot, .bot, .bot, .bot, .bot, .bot, .bot, .bot, .bot, .bot, .bot, .bot, .bot, .bot, .bot, .bot, .bot, .bot, .bot, .bot, .bot, .bot, .bot, .bot, .bot, .bot, .bot, .bot, .bot], [(176, .arr 36 3 (y8.2.map c36)), (128, .arr 36 3 (y3.1.map c36))]⟩) ?_ ?_
    · refine XL_cons rfl (X_of_Y0 rfl (E_assign (I 1) rfl (by kernel_rfl))) ?_
      refine XL_nil ?_
      kernel_rfl
    obtain ⟨y9, hy9, h⟩ := of_bind h
    refine V_sreg [true, true, false, false, false, true, true, true, false, true, true, false, false, false, false, false, false, false, false, false, false, false, false, false, false, false, false, false, false, false, false, false, false, false, false, false, false, false, false, false, false, false, false, false, false, false, false, false, false, false, false, false, false, false, false, false, false, false, false, false, false, false, false, false, false, false, false, false] [176, 128] (s1 := ⟨[I aD1, I aP2, .bot, .bot, .bot, .ow 128, Bo y3.2, .ow 176, .bot, I y8.1, I y9, .bot, .bot, .bot, .bot, .bot, .bot, .bot, .bot, .bot, .bot, .bot, .bot, .bot, .bot, .bot, .bot, .bot, .bot, .bot, .bot, .bot, .bot, .bot, .bot, .bot, .bot, .bot, .bot, .bot, .bot, .bot, .bot, .bot, .bot, .bot, .bot, .bot, .bot, .bot, .bot, .bot, .bot, .bot, .bot, .bot, .bot, .bot, .bot, .bot, .bot, .bot, .bot, .bot, .bot, .bot, .bot, .bot], [(176, .arr 36 3 (y8.2.map c36)), (128, .arr 36 3 (y3.1.map c36))]⟩) ?_ ?_
    · refine XL_cons rfl (X_of_Y0 rfl (E_move (.ow 176) rfl (by kernel_rfl))) ?_
      refine XL_cons rfl (X_of_Y0 rfl (E_move (I 1) rfl (by kernel_rfl))) ?_
      refine XL_cons rfl (X_of_Y1 rfl (Y1_callS (s_laws_heldFormS hy9) cf_laws_heldFormS rfl (by kernel_rfl) rfl rfl)) ?_
      refine XL_cons rfl (X_of_Y0 rfl (E_assign (I y9) rfl (by kernel_rfl))) ?_
      refine XL_nil ?_
      kernel_rfl
    refine V_seq ?_
    refine V_sreg [true, true, false, false, false, true, true, true, false, true, true, false, false, false, false, false, false, false, false, false, false, false, false, false, false, false, false, false, false, false, false, false, false, false, false, false, false, false, false, false, false, true, false, false, false, false, false, false, false, false, false, false, false, false, false, false, false, false, false, false, false, false, false, false, false, false, false, false] [176, 128] (s1 := ⟨[I aD1, I aP2, .bot, .bot, .bot, .ow 128, Bo y3.2, .ow 176, .bot, I y8.1, I y9, .bot, .bot, .bot, .bot, .bot, .bot, .bot, .bot, .bot, .bot, .bot, .bot, .bot, .bot, .bot, .bot, .bot, .bot, .bot, .bot, .bot, .bot, .bot, .bot, .bot, .bot, .bot, .bot, .bot, .bot, Bo (ltI y9 0), .bot, .bot, .bot, .bot, .bot, .bot, .bot, .bot, .bot, .bot, .bot, .bot, .bot, .bot, .bot, .bot, .bot, .bot, .bot, .bot, .bot, .bot, .bot, .bot, .bot, .bot], [(176, .arr 36 3 (y8.2.map c36)), (128, .arr 36 3 (y3.1.map c36))]⟩) ?_ ?_
    · refine XL_cons rfl (X_of_Y0 rfl (E_move (I y9) rfl (by kernel_rfl))) ?_
      refine XL_cons rfl (X_of_Y0 rfl (Y0_ltw (k := .i64) (a := y9) (b := 0) rfl (by kernel_rfl) (by kernel_rfl))) ?_
      refine XL_nil ?_
      kernel_rfl
    refine V_cond rfl (fun hc10 => ?_) (fun hc10 => ?_)
    · have h := of_true h hc10
      refine V_sreg [false, false, false, false, true, false, false, false, false, false, false, false, false, false, false, false, false, false, false, false, false, false, false, false, false, false, false, false, false, false, false, false, false, false, false, false, false, false, false, false, false, false, false, false, false, false, false, false, false, false, false, false, false, false, false, false, false, false, false, false, false, false, false, false, false, false, false, false] [] (s1 := ⟨[.bot, .bot, .bot, .bot, Bo false, .bot, .bot, .bot, .bot, .bot, .bot, .bot, .bot, .bot, .bot, .bot, .bot, .bot, .bot, .bot, .bot, .bot, .bot, .bot, .bot, .bot, .bot, .bot, .bot, .bot, .bot, .bot, .bot, .bot, .bot, .bot, .bot, .bot, .bot, .bot, .bot, .bot, .bot, .bot, .bot, .bot, .bot, .bot, .bot, .bot, .bot, .bot, .bot, .bot, .bot, .bot, .bot, .bot, .bot, .bot, .bot, .bot, .bot, .bot, .bot, .bot, .bot, .bot], []⟩) ?_ ?_
      · refine XL_cons rfl (X_of_Y0 rfl (E_assign (Bo false) rfl (by kernel_rfl))) ?_
        refine XL_nil ?_
        kernel_rfl
      refine V_ret ?_
      obtain rfl := some_inj h
      show Post _ _ _ _ _
      exact ⟨.inr rfl, rfl, rfl, rfl⟩
    · have h := of_false h hc10
      refine V_skip ?_
      show V _ _ _ _
      refine V_seq ?_
      refine V_sreg [true, true, false, false, false, true, true, true, false, true, false, false, false, false, false, false, false, false, false, false, false, false, false, false, false, false, false, false, false, false, false, false, false, false, false, false, false, false, false, false, false, false, false, false, true, false, false, false, false, false, false, false, false, false, false, false, false, false, false, false, false, false, false, false, false, false, false, false] [176, 128] (s1 := ⟨[I aD1, I aP2, .bot, .bot, .bot, .ow 128, Bo y3.2, .ow 176, .bot, I y8.1, .bot, .bot, .bot, .bot, .bot, .bot, .bot, .bot, .bot, .bot, .bot, .bot, .bot, .bot, .bot, .bot, .bot, .bot, .bot, .bot, .bot, .bot, .bot, .bot, .bot, .bot, .bot, .bot, .bot, .bot, .bot, .bot, .bot, .bot, Bo (!eqI y9 y8.1), .bot, .bot, .bot, .bot, .bot, .bot, .bot, .bot, .bot, .bot, .bot, .bot, .bot, .bot, .bot, .bot, .bot, .bot, .bot, .bot, .bot, .bot, .bot], [(176, .arr 36 3 (y8.2.map c36)), (128, .arr 36 3 (y3.1.map c36))]⟩) ?_ ?_
      · refine XL_cons rfl (X_of_Y0 rfl (E_move (I y9) rfl (by kernel_rfl))) ?_
        refine XL_cons rfl (X_of_Y0 rfl (E_move (I y8.1) rfl (by kernel_rfl))) ?_
        refine XL_cons rfl (X_of_Y0 rfl (Y0_new (k := .i64) (a := y9) (b := y8.1) rfl (by kernel_rfl) (by kernel_rfl))) ?_
        refine XL_nil ?_
        kernel_rfl
      refine V_cond rfl (fun hc11 => ?_) (fun hc11 => ?_)
      · have h := of_true h hc11
        refine V_sreg [false, false, false, false, true, false, false, false, false, false, false, false, false, false, false, false, false, false, false, false, false, false, false, false, false, false, false, false, false, false, false, false, false, false, false, false, false, false, false, false, false, false, false, false, false, false, false, false, false, false, false, false, false, false, false, false, false, false, false, false, false, false, false, false, false, false, false, false] [] (s1 := ⟨[.bot, .bot, .bot, .bot, Bo false, .bot, .bot, .bot, .bot, .bot, .bot, .bot, .bot, .bot, .bot, .bot, .bot, .bot, .bot, .bot, .bot, .bot, .bot, .bot, .bot, .bot, .bot, .bot, .bot, .bot, .bot, .bot, .bot, .bot, .bot, .bot, .bot, .bot, .bot, .bot, .bot, .bot, .bot, .bot, .bot, .bot, .bot, .bot, .bot, .bot, .bot, .bot, .bot, .bot, .bot, .bot, .bot, .bot, .bot, .bot, .bot, .bot, .bot, .bot, .bot, .bot, .bot, .bot], []⟩) ?_ ?_
        · refine XL_cons rfl (X_of_Y0 rfl (E_assign (Bo false) rfl (by kernel_rfl))) ?_
          refine XL_nil ?_
          kernel_rfl
        refine V_ret ?_
        obtain rfl := some_inj h
        show Post _ _ _ _ _
        exact ⟨.inr rfl, rfl, rfl, rfl⟩
      · have h := of_false h hc11
        refine V_skip ?_
        show V _ _ _ _
        obtain ⟨y12, hy12, h⟩ := of_bind h
        refine V_sreg [false, false, false, false, false, true, true, true, false, true, false, true, true, false, false, false, false, false, false, false, false, false, false, false, false, false, false, false, false, false, false, false, false, false, false, false, false, false, false, false, false, false, false, false, false, false, false, false, false, false, false, false, false, false, false, false, false, false, false, false, false, false, false, false, false, false, false, false] [384, 176, 128] (s1 := ⟨[.bot, .bot, .bot, .bot, .bot, .ow 128, Bo y3.2, .ow 176, .bot, I y8.1, .bot, .ow 384, Bo y12.2, .bot, .bot, .bot, .bot, .bot, .bot, .bot, .bot, .bot, .bot, .bot, .bot, .bot, .bot, .bot, .bot, .bot, .bot, .bot, .bot, .bot, .bot, .bot, .bot, .bot, .bot, .bot, .bot, .bot, .bot, .bot, .bot, .bot, .bot, .bot, .bot, .bot, .bot, .bot, .bot, .bot, .bot, .bot, .bot, .bot, .bot, .bot, .bot, .bot, .bot, .bot, .bot, .bot, .bot, .bot], [(384, .arr 36 3 (y12.1.map c36)), (176, .arr 36 3 (y8.2.map c36)), (128, .arr 36 3 (y3.1.map c36))]⟩) ?_ ?_
        · refine XL_cons rfl (X_of_Y0 rfl (E_move (I aD1) rfl (by kernel_rfl))) ?_
          refine XL_cons rfl (X_of_Y0 rfl (E_move (I aP2) rfl (by kernel_rfl))) ?_
          refine XL_cons rfl (X_of_Y1 rfl (Y1_call (s_impl_KernelClasses hy12) cf_impl_KernelClasses rfl (by kernel_rfl))) ?_
          refine XL_cons rfl (X_of_Y0 rfl (E_move (.tc (.ow 384) (.tc (Bo y12.2) .tn)) rfl (by kernel_rfl))) ?_
          refine XL_cons rfl (X_of_Y0 rfl (E_ext (n := 0) (.ow 384) (.tc (Bo y12.2) .tn) (.ow 384) rfl (by kernel_rfl) (by kernel_rfl) (by intro hh; cases hh))) ?_
          refine XL_cons rfl (X_of_Y0 rfl (E_ext (n := 1) (.ow 384) (.tc (Bo y12.2) .tn) (Bo y12.2) rfl (by kernel_rfl) (by kernel_rfl) (by intro hh; cases hh))) ?_
          refine XL_cons rfl (X_of_Y0 rfl (E_assign (.ow 384) rfl (by kernel_rfl))) ?_
          refine XL_cons rfl (X_of_Y0 rfl (E_assign (Bo y12.2) rfl (by kernel_rfl))) ?_
          refine XL_nil ?_
          kernel_rfl
        refine V_seq ?_
        obtain ⟨y13, hy13, h⟩ := of_bind h
        refine V_sreg [false, false, false, false, false, false, false, true, false, true, false, false, false, false, false, false, false, false, false, false, false, false, false, false, false, false, false, false, false, false, false, false, false, false, false, false, false, false, false, false, false, false, false, false, false, false, false, false, false, false, false, false, false, false, false, false, false, false, false, true, false, false, false, false, false, false, false, false] [176] (s1 := ⟨[.bot, .bot, .bot, .bot, .bot, .bot, .bot, .ow 176, .bot, I y8.1, .bot, .bot, .bot, .bot, .bot, .bot, .bot, .bot, .bot, .bot, .bot, .bot, .bot, .bot, .bot, .bot, .bot, .bot, .bot, .bot, .bot, .bot, .bot, .bot, .bot, .bot, .bot, .bot, .bot, .bot, .bot, .bot, .bot, .bot, .bot, .bot, .bot, .bot, .bot, .bot, .bot, .bot, .bot, .bot, .bot, .bot, .bot, .bot, .bot, Bo (bif (!y13) then true else (y12.2 != y3.2)), .bot, .bot, .bot, .bot, .bot, .bot, .bot, .bot], [(176, .arr 36 3 (y8.2.map c36))]⟩) ?_ ?_
        · refine XL_cons rfl (X_of_Y0 rfl (E_move (.ow 384) rfl (by kernel_rfl))) ?_
          refine XL_cons rfl (X_of_Y0 rfl (E_move (.ow 128) rfl (by kernel_rfl))) ?_
          refine XL_cons rfl (X_of_Y1 rfl (Y1_callS (s_laws_eqFormS hy13) cf_laws_eqFormS rfl (by kernel_rfl) rfl rfl)) ?_
          refine XL_cons rfl (X_of_Y0 rfl (Y0_not (b := y13) rfl (by kernel_rfl))) ?_
          refine XL_cons rfl (X_of_Y0 rfl (E_move (Bo (!y13)) rfl (by kernel_rfl))) ?_
          refine XL_split (!y13) (fun hc14 => ?_) (fun hc14 => ?_)
          · refine XL_skipF (!y13) rfl rfl (by kernel_rfl) hc14 rfl ?_
            refine XL_skipF (!y13) rfl rfl (by kernel_rfl) hc14 rfl ?_
            refine XL_skipF (!y13) rfl rfl (by kernel_rfl) hc14 rfl ?_
            refine XL_cons rfl (X_of_Y0 rfl (Y0_pick1 (b := !y13) (p := true) (q := y12.2 != y3.2) rfl (by kernel_rfl) hc14 (by kernel_rfl))) ?_
            refine XL_nil ?_
            kernel_rfl
          · refine XL_takeC (!y13) rfl rfl (by kernel_rfl) hc14 (X_of_Y0 rfl (E_move (Bo y12.2) rfl (by kernel_rfl))) ?_
            refine XL_takeC (!y13) rfl rfl (by kernel_rfl) hc14 (X_of_Y0 rfl (E_move (Bo y3.2) rfl (by kernel_rfl))) ?_
            refine XL_takeC (!y13) rfl rfl (by kernel_rfl) hc14 (X_of_Y0 rfl (Y0_neb (a := y12.2) (b := y3.2) Try.underlying4 rfl (by kernel_rfl) (by kernel_rfl))) ?_
            refine XL_cons rfl (X_of_Y0 rfl (Y0_pick0 (b := !y13) (p := true) (q := y12.2 != y3.2) rfl (by kernel_rfl) hc14 (by kernel_rfl))) ?_
            refine XL_nil ?_
            kernel_rfl
        refine V_cond rfl (fun hc15 => ?_) (fun hc15 => ?_)
        · have h := of_true h hc15
          refine V_sreg [false, false, false, false, true, false, false, false, false, false, false, false, false, false, false, false, false, false, false, false, false, false, false, false, false, false, false, false, false, false, false, false, false, false, false, false, false, false, false, false, false, false, false, false, false, false, false, false, false, false, false, false, false, false, false, false, false, false, false, false, false, false, false, false, false, false, false, false] [] (s1 := ⟨[.bot, .bot, .bot, .bot, Bo false, .bot, .bot, .bot, .bot, .bot, .bot, .bot, .bot, .bot, .bot, .bot, .bot, .bot, .bot, .bot, .bot, .bot, .bot, .bot, .bot, .bot, .bot, .bot, .bot, .bot, .bot, .bot, .bot, .bot, .bot, .bot, .bot, .bot, .bot, .bot, .bot, .bot, .bot, .bot, .bot, .bot, .bot, .bot, .bot, .bot, .bot, .bot, .bot, .bot, .bot, .bot, .bot, .bot, .bot, .bot, .bot, .bot, .bot, .bot, .bot, .bot, .bot, .bot], []⟩) ?_ ?_
          · refine XL_cons rfl (X_of_Y0 rfl (E_assign (Bo false) rfl (by kernel_rfl))) ?_
            refine XL_nil ?_
            kernel_rfl
          refine V_ret ?_
          obtain rfl := some_inj h
          show Post _ _ _ _ _
          exact ⟨.inr rfl, rfl, rfl, rfl⟩
        · have h := of_false h hc15
          refine V_skip ?_
          show V _ _ _ _
          refine V_sreg [false, false, false, false, false, false, false, true, false, true, true, false, false, false, false, false, false, false, false, false, false, false, false, false, false, false, false, false, false, false, false, false, false, false, false, false, false, false, false, false, false, false, false, false, false, false, false, false, false, false, false, false, false, false, false, false, false, false, false, false, false, false, false, false, false, false, false, false] [176] (s1 := ⟨[.bot, .bot, .bot, .bot, .bot, .bot, .bot, .ow 176, .bot, I y8.1, I 1, .bot, .bot, .bot, .bot, .bot, .bot, .bot, .bot, .bot, .bot, .bot, .bot, .bot, .bot, .bot, .bot, .bot, .bot, .bot, .bot, .bot, .bot, .bot, .bot, .bot, .bot, .bot, .bot, .bot, .bot, .bot, .bot, .bot, .bot, .bot, .bot, .bot, .bot, .bot, .bot, .bot, .bot, .bot, .bot, .bot, .bot, .bot, .bot, .bot, .bot, .bot, .bot, .bot, .bot, .bot, .bot, .bot], [(176, .arr 36 3 (y8.2.map c36))]⟩) ?_ ?_
          · refine XL_cons rfl (X_of_Y0 rfl (E_assign (I 1) rfl (by kernel_rfl))) ?_
            refine XL_nil ?_
            kernel_rfl
          obtain ⟨y16, hy16, h⟩ := of_bind h
          refine V_sreg [false, false, false, false, false, false, false, false, false, true, true, false, false, false, false, false, false, false, false, false, false, false, false, false, false, false, false, false, false, false, false, false, false, false, false, false, false, false, false, false, false, false, false, false, false, false, false, false, false, false, false, false, false, false, false, false, false, false, false, false, false, false, false, false, false, false, false, false] [] (s1 := ⟨[.bot, .bot, .bot, .bot, .bot, .bot, .bot, .bot, .bot, I y8.1, I y16, .bot, .bot, .bot, .bot, .bot, .bot, .bot, .bot, .bot, .bot, .bot, .bot, .bot, .bot, .bot, .bot, .bot, .bot, .bot, .bot, .bot, .bot, .bot, .bot, .bot, .bot, .bot, .bot, .bot, .bot, .bot, .bot, .bot, .bot, .bot, .bot, .bot, .bot, .bot, .bot, .bot, .bot, .bot, .bot, .bot, .bot, .bot, .bot, .bot, .bot, .bot, .bot, .bot, .bot, .bot, .bot, .bot], []⟩) ?_ ?_
          · refine XL_cons rfl (X_of_Y0 rfl (E_move (.ow 176) rfl (by kernel_rfl))) ?_
            refine XL_cons rfl (X_of_Y0 rfl (E_move (I 1) rfl (by kernel_rfl))) ?_
            refine XL_cons rfl (X_of_Y1 rfl (Y1_callS (s_laws_heldFormS hy16) cf_laws_heldFormS rfl (by kernel_rfl) rfl rfl)) ?_
            refine XL_cons rfl (X_of_Y0 rfl (E_assign (I y16) rfl (by kernel_rfl))) ?_
            refine XL_nil ?_
            kernel_rfl
          refine V_seq ?_
          refine V_sreg [false, false, false, false, false, false, false, false, false, true, true, false, false, false, false, false, false, false, false, false, false, false, false, false, false, false, false, false, false, false, false, false, false, false, false, false, false, false, false, false, false, false, false, false, false, false, false, false, false, false, false, false, false, false, false, false, false, false, false, false, false, false, false, false, true, false, false, false] [] (s1 := ⟨[.bot, .bot, .bot, .bot, .bot, .bot, .bot, .bot, .bot, I y8.1, I y16, .bot, .bot, .bot, .bot, .bot, .bot, .bot, .bot, .bot, .bot, .bot, .bot, .bot, .bot, .bot, .bot, .bot, .bot, .bot, .bot, .bot, .bot, .bot, .bot, .bot, .bot, .bot, .bot, .bot, .bot, .bot, .bot, .bot, .bot, .bot, .bot, .bot, .bot, .bot, .bot, .bot, .bot, .bot, .bot, .bot, .bot, .bot, .bot, .bot, .bot, .bot, .bot, .bot, Bo (ltI y16 0), .bot, .bot, .bot], []⟩) ?_ ?_
          · refine XL_cons rfl (X_of_Y0 rfl (E_move (I y16) rfl (by kernel_rfl))) ?_
            refine XL_cons rfl (X_of_Y0 rfl (Y0_ltw (k := .i64) (a := y16) (b := 0) rfl (by kernel_rfl) (by kernel_rfl))) ?_
            refine XL_nil ?_
            kernel_rfl
          refine V_cond rfl (fun hc17 => ?_) (fun hc17 => ?_)
          · have h := of_true h hc17
            refine V_sreg [false, false, false, false, true, false, false, false, false, false, false, false, false, false, false, false, false, false, false, false, false, false, false, false, false, false, false, false, false, false, false, false, false, false, false, false, false, false, false, false, false, false, false, false, false, false, false, false, false, false, false, false, false, false, false, false, false, false, false, false, false, false, false, false, false, false, false, false] [] (s1 := ⟨[.bot, .bot, .bot, .bot, Bo false, .bot, .bot, .bot, .bot, .bot, .bot, .bot, .bot, .bot, .bot, .bot, .bot, .bot, .bot, .bot, .bot, .bot, .bot, .bot, .bot, .bot, .bot, .bot, .bot, .bot, .bot, .bot, .bot, .bot, .bot, .bot, .bot, .bot, .bot, .bot, .bot, .bot, .bot, .bot, .bot, .bot, .bot, .bot, .bot, .bot, .bot, .bot, .bot, .bot, .bot, .bot, .bot, .bot, .bot, .bot, .bot, .bot, .bot, .bot, .bot, .bot, .bot, .bot], []⟩) ?_ ?_
            · refine XL_cons rfl (X_of_Y0 rfl (E_assign (Bo false) rfl (by kernel_rfl))) ?_
              refine XL_nil ?_
              kernel_rfl
            refine V_ret ?_
            obtain rfl := some_inj h
            show Post _ _ _ _ _
            exact ⟨.inr rfl, rfl, rfl, rfl⟩
          · have h := of_false h hc17
            refine V_skip ?_
            show V _ _ _ _
            refine V_seq ?_
            refine V_sreg [false, false, false, false, false, false, false, false, false, false, false, false, false, false, false, false, false, false, false, false, false, false, false, false, false, false, false, false, false, false, false, false, false, false, false, false, false, false, false, false, false, false, false, false, false, false, false, false, false, false, false, false, false, false, false, false, false, false, false, false, false, false, false, false, false, false, false, true] [] (s1 := ⟨[.bot, .bot, .bot, .bot, .bot, .bot, .bot, .bot, .bot, .bot, .bot, .bot, .bot, .bot, .bot, .bot, .bot, .bot, .bot, .bot, .bot, .bot, .bot, .bot, .bot, .bot, .bot, .bot, .bot, .bot, .bot, .bot, .bot, .bot, .bot, .bot, .bot, .bot, .bot, .bot, .bot, .bot, .bot, .bot, .bot, .bot, .bot, .bot, .bot, .bot, .bot, .bot, .bot, .bot, .bot, .bot, .bot, .bot, .bot, .bot, .bot, .bot, .bot, .bot, .bot, .bot, .bot, Bo (!eqI y16 y8.1)], []⟩) ?_ ?_
            · refine XL_cons rfl (X_of_Y0 rfl (E_move (I y16) rfl (by kernel_rfl))) ?_
              refine XL_cons rfl (X_of_Y0 rfl (E_move (I y8.1) rfl (by kernel_rfl))) ?_
              refine XL_cons rfl (X_of_Y0 rfl (Y0_new (k := .i64) (a := y16) (b := y8.1) rfl (by kernel_rfl) (by kernel_rfl))) ?_
              refine XL_nil ?_
              kernel_rfl
            refine V_cond rfl (fun hc18 => ?_) (fun hc18 => ?_)
            · have h := of_true h hc18
              refine V_sreg [false, false, false, false, true, false, false, false, false, false, false, false, false, false, false, false, false, false, false, false, false, false, false, false, false, false, false, false, false, false, false, false, false, false, false, false, false, false, false, false, false, false, false, false, false, false, false, false, false, false, false, false, false, false, false, false, false, false, false, false, false, false, false, false, false, false, false, false] [] (s1 := ⟨[.bot, .bot, .bot, .bot, Bo false, .bot, .bot, .bot, .bot, .bot, .bot, .bot, .bot, .bot, .bot, .bot, .bot, .bot, .bot, .bot, .bot, .bot, .bot, .bot, .bot, .bot, .bot, .bot, .bot, .bot, .bot, .bot, .bot, .bot, .bot, .bot, .bot, .bot, .bot, .bot, .bot, .bot, .bot, .bot, .bot, .bot, .bot, .bot, .bot, .bot, .bot, .bot, .bot, .bot, .bot, .bot, .bot, .bot, .bot, .bot, .bot, .bot, .bot, .bot, .bot, .bot, .bot, .bot], []⟩) ?_ ?_
              · refine XL_cons rfl (X_of_Y0 rfl (E_assign (Bo false) rfl (by kernel_rfl))) ?_
                refine XL_nil ?_
                kernel_rfl
              refine V_ret ?_
              obtain rfl := some_inj h
              show Post _ _ _ _ _
              exact ⟨.inr rfl, rfl, rfl, rfl⟩
            · have h := of_false h hc18
              refine V_skip ?_
              show V _ _ _ _
              refine V_sreg [false, false, false, false, true, false, false, false, false, false, false, false, false, false, false, false, false, false, false, false, false, false, false, false, false, false, false, false, false, false, false, false, false, false, false, false, false, false, false, false, false, false, false, false, false, false, false, false, false, false, false, false, false, false, false, false, false, false, false, false, false, false, false, false, false, false, false, false] [] (s1 := ⟨[.bot, .bot, .bot, .bot, Bo true, .bot, .bot, .bot, .bot, .bot, .bot, .bot, .bot, .bot, .bot, .bot, .bot, .bot, .bot, .bot, .bot, .bot, .bot, .bot, .bot, .bot, .bot, .bot, .bot, .bot, .bot, .bot, .bot, .bot, .bot, .bot, .bot, .bot, .bot, .bot, .bot, .bot, .bot, .bot, .bot, .bot, .bot, .bot, .bot, .bot, .bot, .bot, .bot, .bot, .bot, .bot, .bot, .bot, .bot, .bot, .bot, .bot, .bot, .bot, .bot, .bot, .bot, .bot], []⟩) ?_ ?_
              · refine XL_cons rfl (X_of_Y0 rfl (E_assign (Bo true) rfl (by kernel_rfl))) ?_
                refine XL_nil ?_
                kernel_rfl
              refine V_ret ?_
              obtain rfl := some_inj h
              show Post _ _ _ _ _
              exact ⟨.inr rfl, rfl, rfl, rfl⟩
theorem cf_laws_toForm : ∀ args w, (callFunc 22 args).run Try.prog w = .ok (.enter 22 args) w := run_callFunc Try.func22 (by kernel_rfl) (by kernel_rfl)
set_option maxRecDepth 100000 in
set_option maxHeartbeats 400000 in
theorem s_laws_toForm {a1 : (Int × Int × Int)} {r : (Int × Int × Int)} (h : r_laws_toForm a1 = some r) : CallS Try.prog 22 [.ag [Ti a1.1, Ti a1.2.1, Ti a1.2.2]] (.ag [Ti r.1, Ti r.2.1, Ti r.2.2]) [] := by
  refine CallS_of_text (rs := [.w 2 3]) (vs := [.cell 2 36]) Try.func22 rfl rfl (.cons ⟨rfl, wd36⟩ FitsL.nil) (by decide) 14 rfl ?_
  unfold r_laws_toForm at h
  show V _ _ ⟨[.ag [Ti a1.1, Ti a1.2.1, Ti a1.2.2], .bot, .bot, .bot, .bot, .bot, .bot, .bot, .bot, .bot, .bot, .bot, .bot, .bot], []⟩ _
  refine V_sreg [false, true, true, false, false, false, false, false, false, false, false, false, false, false] [16, 8] (s1 := ⟨[.bot, .pt 8 0, .pt 16 0, .bot, .bot, .bot, .bot, .bot, .bot, .bot, .bot, .bot, .bot, .bot], [(16, .box [Ti 0, Ti 0, Ti 0]), (8, .box [Ti a1.1, Ti a1.2.1, Ti a1.2.2])]⟩) ?_ ?_
  · refine XL_cons rfl (X_of_Y1 rfl (Y1_box (cs := [Ti a1.1, Ti a1.2.1, Ti a1.2.2]) rfl (by kernel_rfl))) ?_
    refine XL_cons rfl (X_of_Y1 rfl (Y1_alloc (z := zv36) rfl zf36 rfl)) ?_
    refine XL_nil ?_
    kernel_rfl
  refine V_sreg [false, true, true, true, false, false, false, false, false, false, false, false, false, false] [24, 16, 8] (s1 := ⟨[.bot, .pt 8 0, .pt 16 0, .pt 24 0, .bot, .bot, .bot, .bot, .bot, .bot, .bot, .bot, .bot, .bot], [(24, .box [Ti 0, Ti 0, Ti 0]), (16, .box [Ti 0, Ti 0, Ti 0]), (8, .box [Ti a1.1, Ti a1.2.1, Ti a1.2.2])]⟩) ?_ ?_
  · refine XL_cons rfl (X_of_Y1 rfl (Y1_alloc (z := zv36) rfl zf36 rfl)) ?_
    refine XL_nil ?_
    kernel_rfl
  refine V_sreg [false, true, true, true, false, false, false, false, false, false, false, false, false, false] [24, 16, 8] (s1 := ⟨[.bot, .pt 8 0, .pt 16 0, .pt 24 0, .bot, .bot, .bot, .bot, .bot, .bot, .bot, .bot, .bot, .bot], [(24, .box [Ti a1.1, Ti 0, Ti 0]), (16, .box [Ti 0, Ti 0, Ti 0]), (8, .box [Ti a1.1, Ti a1.2.1, Ti a1.2.2])]⟩) ?_ ?_
  · refine XL_cons rfl (X_of_Y0 rfl (E_field (.pt 8 0) Try.underlying31 rfl sz3 rfl (by kernel_rfl) (by intro hh; cases hh))) ?_
    refine XL_cons rfl (X_of_Y0 rfl (Y0_load1 (c := Ti a1.1) (cs := [Ti a1.2.1, Ti a1.2.2]) sc3 rfl (by kernel_rfl))) ?_
    refine XL_cons rfl (X_of_Y0 rfl (E_field (.pt 24 0) Try.underlying36 rfl sz3 rfl (by kernel_rfl) (by intro hh; cases hh))) ?_
    refine XL_cons rfl (E_store (id := 24) (off := 0) (cs := [Ti 0, Ti 0, Ti 0]) (vc := [Ti a1.1]) [Ti a1.1, Ti 0, Ti 0] rfl rfl (by kernel_rfl) (by kernel_rfl) (by kernel_rfl) sz3 (Nat.le_of_ble_eq_true rfl) (by kernel_rfl)) ?_
    refine XL_nil ?_
    kernel_rfl
  refine V_sreg [false, true, true, true, false, false, false, false, false, false, false, false, false, false] [24, 16, 8] (s1 := ⟨[.bot, .pt 8 0, .pt 16 0, .pt 24 0, .bot, .bot, .bot, .bot, .bot, .bot, .bot, .bot, .bot, .bot], [(24, .box [Ti a1.1, Ti a1.2.1, Ti 0]), (16, .box [Ti 0, Ti 0, Ti 0]), (8, .box [Ti a1.1, Ti a1.2.1, Ti a1.2.2])]⟩) ?_ ?_
  · refine XL_cons rfl (X_of_Y0 rfl (E_field (.pt 8 1) Try.underlying31 rfl sz3 rfl (by kernel_rfl) (by intro hh; cases hh))) ?_
    refine XL_cons rfl (X_of_Y0 rfl (Y0_load1 (c := Ti a1.2.1) (cs := [Ti a1.2.2]) sc3 rfl (by kernel_rfl))) ?_
    refine XL_cons rfl (X_of_Y0 rfl (E_field (.pt 24 1) Try.underlying36 rfl sz3 rfl (by kernel_rfl) (by intro hh; cases hh))) ?_
    refine XL_cons rfl (E_store (id := 24) (off := 1) (cs := [Ti a1.1, Ti 0, Ti 0]) (vc := [Ti a1.2.1]) [Ti a1.1, Ti a1.2.1, Ti 0] rfl rfl (by kernel_rfl) (by kernel_rfl) (by kernel_rfl) sz3 (Nat.le_of_ble_eq_true rfl) (by kernel_rfl)) ?_
    refine XL_nil ?_
    kernel_rfl
  refine V_sreg [false, false, true, true, false, false, false, false, false, false, false, false, false, false] [24, 16] (s1 := ⟨[.bot, .bot, .pt 16 0, .pt 24 0, .bot, .bot, .bot, .bot, .bot, .bot, .bot, .bot, .bot, .bot], [(24, .box [Ti a1.1, Ti a1.2.1, Ti a1.2.2]), (16, .box [Ti 0, Ti 0, Ti 0])]⟩) ?_ ?_
  · refine XL_cons rfl (X_of_Y0 rfl (E_field (.pt 8 2) Try.underlying31 rfl sz3 rfl (by kernel_rfl) (by intro hh; cases hh))) ?_
    refine XL_cons rfl (X_of_Y0 rfl (Y0_load1 (c := Ti a1.2.2) (cs := []) sc3 rfl (by kernel_rfl))) ?_
    refine XL_cons rfl (X_of_Y0 rfl (E_field (.pt 24 2) Try.underlying36 rfl sz3 rfl (by kernel_rfl) (by intro hh; cases hh))) ?_
    refine XL_cons rfl (E_store (id := 24) (off := 2) (cs := [Ti a1.1, Ti a1.2.1, Ti 0]) (vc := [Ti a1.2.2]) [Ti a1.1, Ti a1.2.1, Ti a1.2.2] rfl rfl (by kernel_rfl) (by kernel_rfl) (by kernel_rfl) sz3 (Nat.le_of_ble_eq_true rfl) (by kernel_rfl)) ?_
    refine XL_nil ?_
    kernel_rfl
  refine V_sreg [false, false, true, false, false, false, false, false, false, false, false, false, false, false] [16] (s1 := ⟨[.bot, .bot, .pt 16 0, .bot, .bot, .bot, .bot, .bot, .bot, .bot, .bot, .bot, .bot, .bot], [(16, .box [Ti a1.1, Ti a1.2.1, Ti a1.2.2])]⟩) ?_ ?_
  · refine XL_cons rfl (X_of_Y0 rfl (E_loadn (cs := [Ti a1.1, Ti a1.2.1, Ti a1.2.2]) [Ti a1.1, Ti a1.2.1, Ti a1.2.2] wd36 rfl (by kernel_rfl) (Nat.le_of_ble_eq_true rfl) (by kernel_rfl))) ?_
    refine XL_cons rfl (E_store (id := 16) (off := 0) (cs := [Ti 0, Ti 0, Ti 0]) (vc := [Ti a1.1, Ti a1.2.1, Ti a1.2.2]) [Ti a1.1, Ti a1.2.1, Ti a1.2.2] rfl rfl (by kernel_rfl) (by kernel_rfl) (by kernel_rfl) sz36 (Nat.le_of_ble_eq_true rfl) (by kernel_rfl)) ?_
    refine XL_nil ?_
    kernel_rfl
  refine V_ret ?_
  obtain rfl := some_inj h
  show Post _ _ _ _ _
  exact ⟨.inr rfl, rfl, rfl, rfl⟩
theorem cf_spec_nuGood : ∀ args w, (callFunc 99 args).run Try.prog w = .ok (.enter 99 args) w := run_callFunc Try.func99 (by kernel_rfl) (by kernel_rfl)
set_option maxRecDepth 100000 in
set_option maxHeartbeats 400000 in
theorem s_spec_nuGood {vn1 : Int} {r : Bool} (h : r_spec_nuGood vn1 = some r) : CallS Try.prog 99 [I vn1] (Bo r) [] := by
  refine CallS_of_text (rs := [.t 2]) (vs := [.tmp 2]) Try.func99 rfl rfl (.cons rfl FitsL.nil) (by decide) 5 rfl ?_
  unfold r_spec_nuGood at h
  show V _ _ ⟨[I vn1, .bot, .bot, .bot, .bot], []⟩ _
  refine V_sreg [true, false, false, false, false] [] (s1 := ⟨[I vn1, .bot, .bot, .bot, .bot], []⟩) ?_ ?_
  · refine XL_cons rfl (X_of_Y0 rfl (E_assign (Bo false) rfl (by kernel_rfl))) ?_
    refine XL_nil ?_
    kernel_rfl
  obtain ⟨y2, hy2, h⟩ := of_bind h
  refine V_sreg [false, false, true, false, false] [] (s1 := ⟨[.bot, .bot, Bo y2, .bot, .bot], []⟩) ?_ ?_
  · refine XL_cons rfl (X_of_Y0 rfl (E_move (I vn1) rfl (by kernel_rfl))) ?_
    refine XL_cons rfl (X_of_Y1 rfl (Y1_call (s_spec_l1In hy2) cf_spec_l1In rfl (by kernel_rfl))) ?_
    refine XL_cons rfl (X_of_Y0 rfl (E_assign (Bo y2) rfl (by kernel_rfl))) ?_
    refine XL_nil ?_
    kernel_rfl
  refine V_ret ?_
  obtain rfl := some_inj h
  show Post _ _ _ _ _
  exact ⟨.inr rfl, rfl, rfl, rfl⟩
theorem cf_spec_foGood : ∀ args w, (callFunc 147 args).run Try.prog w = .ok (.enter 147 args) w := run_callFunc Try.func147 (by kernel_rfl) (by kernel_rfl)
set_option maxRecDepth 100000 in
set_option maxHeartbeats 400000 in
theorem s_spec_foGood {f1 : (Int × Int × Int)} {r : Bool} (h : r_spec_foGood f1 = some r) : CallS Try.prog 147 [.ag [Ti f1.1, Ti f1.2.1, Ti f1.2.2]] (Bo r) [] := by
  refine CallS_of_text (rs := [.t 2]) (vs := [.tmp 2]) Try.func147 rfl rfl (.cons rfl FitsL.nil) (by decide) 16 rfl ?_
  unfold r_spec_foGood at h
  show V _ _ ⟨[.ag [Ti f1.1, Ti f1.2.1, Ti f1.2.2], .bot, .bot, .bot, .bot, .bot, .bot, .bot, .bot, .bot, .bot, .bot, .bot, .bot, .bot, .bot], []⟩ _
  refine V_sreg [false, true, false, false, false, false, false, false, false, false, false, false, false, false, false, false] [8] (s1 := ⟨[.bot, .pt 8 0, .bot, .bot, .bot, .bot, .bot, .bot, .bot, .bot, .bot, .bot, .bot, .bot, .bot, .bot], [(8, .box [Ti f1.1, Ti f1.2.1, Ti f1.2.2])]⟩) ?_ ?_
  · refine XL_cons rfl (X_of_Y1 rfl (Y1_box (cs := [Ti f1.1, Ti f1.2.1, Ti f1.2.2]) rfl (by kernel_rfl))) ?_
    refine XL_cons rfl (X_of_Y0 rfl (E_assign (Bo false) rfl (by kernel_rfl))) ?_
    refine XL_nil ?_
    kernel_rfl
  obtain ⟨y2, hy2, h⟩ := of_bind h
  obtain ⟨b5, hb5, h⟩ := of_bind h
  obtain ⟨b8, hb8, h⟩ := of_bind h
  refine V_sreg [false, false, true, false, false, false, false, false, false, false, false, false, false, false, false, false] [] (s1 := ⟨[.bot, .bot, Bo b8, .bot, .bot, .bot, .bot, .bot, .bot, .bot, .bot, .bot, .bot, .bot, .bot, .bot], []⟩) ?_ ?_
  · refine XL_cons rfl (X_of_Y0 rfl (E_field (.pt 8 0) Try.underlying36 rfl sz3 rfl (by kernel_rfl) (by intro hh; cases hh))) ?_
    refine XL_cons rfl (X_of_Y0 rfl (Y0_load1 (c := Ti f1.1) (cs := [Ti f1.2.1, Ti f1.2.2]) sc3 rfl (by kernel_rfl))) ?_
    refine XL_cons rfl (X_of_Y1 rfl (Y1_call (s_spec_nuGood hy2) cf_spec_nuGood rfl (by kernel_rfl))) ?_
    refine XL_cons rfl (X_of_Y0 rfl (E_move (Bo y2) rfl (by kernel_rfl))) ?_
    refine XL_split y2 (fun hc3 => ?_) (fun hc3 => ?_)
    · have hb5 := of_true hb5 hc3
      obtain ⟨y4, hy4, hb5⟩ := of_bind hb5
      have hb5 := some_inj hb5
      refine XL_takeC (y2) rfl rfl (by kernel_rfl) hc3 (X_of_Y0 rfl (E_field (.pt 8 1) Try.underlying36 rfl sz3 rfl (by kernel_rfl) (by intro hh; cases hh))) ?_
      refine XL_takeC (y2) rfl rfl (by kernel_rfl) hc3 (X_of_Y0 rfl (Y0_load1 (c := Ti f1.2.1) (cs := [Ti f1.2.2]) sc3 rfl (by kernel_rfl))) ?_
      refine XL_takeC (y2) rfl rfl (by kernel_rfl) hc3 (X_of_Y1 rfl (Y1_call (s_spec_nuGood hy4) cf_spec_nuGood rfl (by kernel_rfl))) ?_
      refine XL_cons rfl (X_of_Y0 rfl (Y0_pickTe (b := y2) (p := y4) rfl (by kernel_rfl) hc3 (by kernel_rfl) hb5)) ?_
      refine XL_cons rfl (X_of_Y0 rfl (E_move (Bo b5) rfl (by kernel_rfl))) ?_
      refine XL_split b5 (fun hc6 => ?_) (fun hc6 => ?_)
      · have hb8 := of_true hb8 hc6
        obtain ⟨y7, hy7, hb8⟩ := of_bind hb8
        have hb8 := some_inj hb8
        refine XL_takeC (b5) rfl rfl (by kernel_rfl) hc6 (X_of_Y0 rfl (E_field (.pt 8 2) Try.underlying36 rfl sz3 rfl (by kernel_rfl) (by intro hh; cases hh))) ?_
        refine XL_takeC (b5) rfl rfl (by kernel_rfl) hc6 (X_of_Y0 rfl (Y0_load1 (c := Ti f1.2.2) (cs := []) sc3 rfl (by kernel_rfl))) ?_
        refine XL_takeC (b5) rfl rfl (by kernel_rfl) hc6 (X_of_Y1 rfl (Y1_call (s_spec_nuGood hy7) cf_spec_nuGood rfl (by kernel_rfl))) ?_
        refine XL_cons rfl (X_of_Y0 rfl (Y0_pickTe (b := b5) (p := y7) rfl (by kernel_rfl) hc6 (by kernel_rfl) hb8)) ?_
        refine XL_cons rfl (X_of_Y0 rfl (E_assign (Bo b8) rfl (by kernel_rfl))) ?_
        refine XL_nil ?_
        kernel_rfl
      · have hb8 := some_inj (of_false hb8 hc6)
        refine XL_skipT (b5) rfl rfl (by kernel_rfl) hc6 rfl ?_
        refine XL_skipT (b5) rfl rfl (by kernel_rfl) hc6 rfl ?_
        refine XL_skipT (b5) rfl rfl (by kernel_rfl) hc6 rfl ?_
        refine XL_cons rfl (X_of_Y0 rfl (Y0_pickFe (b := b5) (p := false) rfl (by kernel_rfl) hc6 (by kernel_rfl) hb8)) ?_
        refine XL_cons rfl (X_of_Y0 rfl (E_assign (Bo b8) rfl (by kernel_rfl))) ?_
        refine XL_nil ?_
        kernel_rfl
    · have hb5 := some_inj (of_false hb5 hc3)
      refine XL_skipT (y2) rfl rfl (by kernel_rfl) hc3 rfl ?_
      refine XL_skipT (y2) rfl rfl (by kernel_rfl) hc3 rfl ?_
      refine XL_skipT (y2) rfl rfl (by kernel_rfl) hc3 rfl ?_
      refine XL_cons rfl (X_of_Y0 rfl (Y0_pickFe (b := y2) (p := false) rfl (by kernel_rfl) hc3 (by kernel_rfl) hb5)) ?_
      refine XL_cons rfl (X_of_Y0 rfl (E_move (Bo b5) rfl (by kernel_rfl))) ?_
      refine XL_split b5 (fun hc6 => ?_) (fun hc6 => ?_)
      · have hb8 := of_true hb8 hc6
        obtain ⟨y7, hy7, hb8⟩ := of_bind hb8
        have hb8 := some_inj hb8
        refine XL_takeC (b5) rfl rfl (by kernel_rfl) hc6 (X_of_Y0 rfl (E_field (.pt 8 2) Try.underlying36 rfl sz3 rfl (by kernel_rfl) (by intro hh; cases hh))) ?_
        refine XL_takeC (b5) rfl rfl (by kernel_rfl) hc6 (X_of_Y0 rfl (Y0_load1 (c := Ti f1.2.2) (cs := []) sc3 rfl (by kernel_rfl))) ?_
        refine XL_takeC (b5) rfl rfl (by kernel_rfl) hc6 (X_of_Y1 rfl (Y1_call (s_spec_nuGood hy7) cf_spec_nuGood rfl (by kernel_rfl))) ?_
        refine XL_cons rfl (X_of_Y0 rfl (Y0_pickTe (b := b5) (p := y7) rfl (by kernel_rfl) hc6 (by kernel_rfl) hb8)) ?_
        refine XL_cons rfl (X_of_Y0 rfl (E_assign (Bo b8) rfl (by kernel_rfl))) ?_
        refine XL_nil ?_
        kernel_rfl
      · have hb8 := some_inj (of_false hb8 hc6)
        refine XL_skipT (b5) rfl rfl (by kernel_rfl) hc6 rfl ?_
        refine XL_skipT (b5) rfl rfl (by kernel_rfl) hc6 rfl ?_
        refine XL_skipT (b5) rfl rfl (by kernel_rfl) hc6 rfl ?_
        refine XL_cons rfl (X_of_Y0 rfl (Y0_pickFe (b := b5) (p := false) rfl (by kernel_rfl) hc6 (by kernel_rfl) hb8)) ?_
        refine XL_cons rfl (X_of_Y0 rfl (E_assign (Bo b8) rfl (by kernel_rfl))) ?_
        refine XL_nil ?_
        kernel_rfl
  refine V_ret ?_
  obtain rfl := some_inj h
  show Post _ _ _ _ _
  exact ⟨.inr rfl, rfl, rfl, rfl⟩
theorem cf_spec_foDefinite : ∀ args w, (callFunc 134 args).run Try.prog w = .ok (.enter 134 args) w := run_callFunc Try.func134 (by kernel_rfl) (by kernel_rfl)
set_option maxRecDepth 100000 in
set_option maxHeartbeats 400000 in
theorem s_spec_foDefinite {f1 : (Int × Int × Int)} {r : Bool} (h : r_spec_foDefinite f1 = some r) : CallS Try.prog 134 [.ag [Ti f1.1, Ti f1.2.1, Ti f1.2.2]] (Bo r) [] := by
  refine CallS_of_text (rs := [.t 2]) (vs := [.tmp 2]) Try.func134 rfl rfl (.cons rfl FitsL.nil) (by decide) 15 rfl ?_
  unfold r_spec_foDefinite at h
  show V _ _ ⟨[.ag [Ti f1.1, Ti f1.2.1, Ti f1.2.2], .bot, .bot, .bot, .bot, .bot, .bot, .bot, .bot, .bot, .bot, .bot, .bot, .bot, .bot], []⟩ _
  refine V_sreg [false, true, false, false, false, false, false, false, false, false, false, false, false, false, false] [8] (s1 := ⟨[.bot, .pt 8 0, .bot, .bot, .bot, .bot, .bot, .bot, .bot, .bot, .bot, .bot, .bot, .bot, .bot], [(8, .box [Ti f1.1, Ti f1.2.1, Ti f1.2.2])]⟩) ?_ ?_
  · refine XL_cons rfl (X_of_Y1 rfl (Y1_box (cs := [Ti f1.1, Ti f1.2.1, Ti f1.2.2]) rfl (by kernel_rfl))) ?_
    refine XL_cons rfl (X_of_Y0 rfl (E_assign (Bo false) rfl (by kernel_rfl))) ?_
    refine XL_nil ?_
    kernel_rfl
  obtain ⟨y2, hy2, h⟩ := of_bind h
  obtain ⟨b5, hb5, h⟩ := of_bind h
  refine V_sreg [false, false, true, false, false, false, false, false, false, false, false, false, false, false, false] [] (s1 := ⟨[.bot, .bot, Bo (bif b5 then (ltI 0 f1.1) else false), .bot, .bot, .bot, .bot, .bot, .bot, .bot, .bot, .bot, .bot, .bot, .bot], []⟩) ?_ ?_
  · refine XL_cons rfl (X_of_Y0 rfl (E_loadn (cs := [Ti f1.1, Ti f1.2.1, Ti f1.2.2]) [Ti f1.1, Ti f1.2.1, Ti f1.2.2] wd36 rfl (by kernel_rfl) (Nat.le_of_ble_eq_true rfl) (by kernel_rfl))) ?_
    refine XL_cons rfl (X_of_Y1 rfl (Y1_call (s_spec_foGood hy2) cf_spec_foGood rfl (by kernel_rfl))) ?_
    refine XL_cons rfl (X_of_Y0 rfl (E_move (Bo y2) rfl (by kernel_rfl))) ?_
    refine XL_split y2 (fun hc3 => ?_) (fun hc3 => ?_)
    · have hb5 := of_true hb5 hc3
      obtain ⟨y4, hy4, hb5⟩ := of_bind hb5
      have hb5 := some_inj hb5
      refine XL_takeC (y2) rfl rfl (by kernel_rfl) hc3 (X_of_Y0 rfl (E_loadn (cs := [Ti f1.1, Ti f1.2.1, Ti f1.2.2]) [Ti f1.1, Ti f1.2.1, Ti f1.2.2] wd36 rfl (by kernel_rfl) (Nat.le_of_ble_eq_true rfl) (by kernel_rfl))) ?_
      refine XL_takeC (y2) rfl rfl (by kernel_rfl) hc3 (X_of_Y1 rfl (Y1_call (s_spec_foDisc hy4) cf_spec_foDisc rfl (by kernel_rfl))) ?_
      refine XL_takeC (y2) rfl rfl (by kernel_rfl) hc3 (X_of_Y0 rfl (Y0_ltw (k := .i64) (a := y4) (b := 0) rfl (by kernel_rfl) (by kernel_rfl))) ?_
      refine XL_cons rfl (X_of_Y0 rfl (Y0_pickTe (b := y2) (p := ltI y4 0) rfl (by kernel_rfl) hc3 (by kernel_rfl) hb5)) ?_
      refine XL_cons rfl (X_of_Y0 rfl (E_move (Bo b5) rfl (by kernel_rfl))) ?_
      refine XL_split b5 (fun hc6 => ?_) (fun hc6 => ?_)
      · refine XL_takeC (b5) rfl rfl (by kernel_rfl) hc6 (X_of_Y0 rfl (E_field (.pt 8 0) Try.underlying36 rfl sz3 rfl (by kernel_rfl) (by intro hh; cases hh))) ?_
        refine XL_takeC (b5) rfl rfl (by kernel_rfl) hc6 (X_of_Y0 rfl (Y0_load1 (c := Ti f1.1) (cs := [Ti f1.2.1, Ti f1.2.2]) sc3 rfl (by kernel_rfl))) ?_
        refine XL_takeC (b5) rfl rfl (by kernel_rfl) hc6 (X_of_Y0 rfl (Y0_gtw (k := .i64) (a := f1.1) (b := 0) rfl (by kernel_rfl) (by kernel_rfl))) ?_
        refine XL_cons rfl (X_of_Y0 rfl (Y0_pick1 (b := b5) (p := ltI 0 f1.1) (q := false) rfl (by kernel_rfl) hc6 (by kernel_rfl))) ?_
        refine XL_cons rfl (X_of_Y0 rfl (E_assign (Bo (bif b5 then (ltI 0 f1.1) else false)) rfl (by kernel_rfl))) ?_
        refine XL_nil ?_
        kernel_rfl
      · refine XL_skipT (b5) rfl rfl (by kernel_rfl) hc6 rfl ?_
        refine XL_skipT (b5) rfl rfl (by kernel_rfl) hc6 rfl ?_
        refine XL_skipT (b5) rfl rfl (by kernel_rfl) hc6 rfl ?_
        refine XL_cons rfl (X_of_Y0 rfl (Y0_pick0 (b := b5) (p := ltI 0 f1.1) (q := false) rfl (by kernel_rfl) hc6 (by kernel_rfl))) ?_
        refine XL_cons rfl (X_of_Y0 rfl (E_assign (Bo (bif b5 then (ltI 0 f1.1) else false)) rfl (by kernel_rfl))) ?_
        refine XL_nil ?_
        kernel_rfl
    · have hb5 := some_inj (of_false hb5 hc3)
      refine XL_skipT (y2) rfl rfl (by kernel_rfl) hc3 rfl ?_
      refine XL_skipT (y2) rfl rfl (by kernel_rfl) hc3 rfl ?_
      refine XL_skipT (y2) rfl rfl (by kernel_rfl) hc3 rfl ?_
      refine XL_cons rfl (X_of_Y0 rfl (Y0_pickFe (b := y2) (p := false) rfl (by kernel_rfl) hc3 (by kernel_rfl) hb5)) ?_
      refine XL_cons rfl (X_of_Y0 rfl (E_move (Bo b5) rfl (by kernel_rfl))) ?_
      refine XL_split b5 (fun hc6 => ?_) (fun hc6 => ?_)
      · refine XL_takeC (b5) rfl rfl (by kernel_rfl) hc6 (X_of_Y0 rfl (E_field (.pt 8 0) Try.underlying36 rfl sz3 rfl (by kernel_rfl) (by intro hh; cases hh))) ?_
        refine XL_takeC (b5) rfl rfl (by kernel_rfl) hc6 (X_of_Y0 rfl (Y0_load1 (c := Ti f1.1) (cs := [Ti f1.2.1, Ti f1.2.2]) sc3 rfl (by kernel_rfl))) ?_
        refine XL_takeC (b5) rfl rfl (by kernel_rfl) hc6 (X_of_Y0 rfl (Y0_gtw (k := .i64) (a := f1.1) (b := 0) rfl (by kernel_rfl) (by kernel_rfl))) ?_
        refine XL_cons rfl (X_of_Y0 rfl (Y0_pick1 (b := b5) (p := ltI 0 f1.1) (q := false) rfl (by kernel_rfl) hc6 (by kernel_rfl))) ?_
        refine XL_cons rfl (X_of_Y0 rfl (E_assign (Bo (bif b5 then (ltI 0 f1.1) else false)) rfl (by kernel_rfl))) ?_
        refine XL_nil ?_
        kernel_rfl
      · refine XL_skipT (b5) rfl rfl (by kernel_rfl) hc6 rfl ?_
        refine XL_skipT (b5) rfl rfl (by kernel_rfl) hc6 rfl ?_
        refine XL_skipT (b5) rfl rfl (by kernel_rfl) hc6 rfl ?_
        refine XL_cons rfl (X_of_Y0 rfl (Y0_pick0 (b := b5) (p := ltI 0 f1.1) (q := false) rfl (by kernel_rfl) hc6 (by kernel_rfl))) ?_
        refine XL_cons rfl (X_of_Y0 rfl (E_assign (Bo (bif b5 then (ltI 0 f1.1) else false)) rfl (by kernel_rfl))) ?_
        refine XL_nil ?_
        kernel_rfl
  refine V_ret ?_
  obtain rfl := some_inj h
  show Post _ _ _ _ _
  exact ⟨.inr rfl, rfl, rfl, rfl⟩
theorem cf_spec_vaForm : ∀ args w, (callFunc 96 args).run Try.prog w = .ok (.enter 96 args) w := run_callFunc Try.func96 (by kernel_rfl) (by kernel_rfl)
set_option maxRecDepth 100000 in
set_option maxHeartbeats 400000 in
theorem s_spec_vaForm {f1 : (Int × Int × Int)} {r : Bool} (h : r_spec_vaForm f1 = some r) : CallS Try.prog 96 [.ag [Ti f1.1, Ti f1.2.1, Ti f1.2.2]] (Bo r) [] := by
  refine CallS_of_text (rs := [.t 2]) (vs := [.tmp 2]) Try.func96 rfl rfl (.cons rfl FitsL.nil) (by decide) 10 rfl ?_
  unfold r_spec_vaForm at h
  show V _ _ ⟨[.ag [Ti f1.1, Ti f1.2.1, Ti f1.2.2], .bot, .bot, .bot, .bot, .bot, .bot, .bot, .bot, .bot], []⟩ _
  refine V_sreg [false, true, false, false, false, false, false, false, false, false] [8] (s1 := ⟨[.bot, .pt 8 0, .bot, .bot, .bot, .bot, .bot, .bot, .bot, .bot], [(8, .box [Ti f1.1, Ti f1.2.1, Ti f1.2.2])]⟩) ?_ ?_
  · refine XL_cons rfl (X_of_Y1 rfl (Y1_box (cs := [Ti f1.1, Ti f1.2.1, Ti f1.2.2]) rfl (by kernel_rfl))) ?_
    refine XL_cons rfl (X_of_Y0 rfl (E_assign (Bo false) rfl (by kernel_rfl))) ?_
    refine XL_nil ?_
    kernel_rfl
  obtain ⟨y2, hy2, h⟩ := of_bind h
  obtain ⟨b5, hb5, h⟩ := of_bind h
  refine V_sreg [false, false, true, false, false, false, false, false, false, false] [] (s1 := ⟨[.bot, .bot, Bo b5, .bot, .bot, .bot, .bot, .bot, .bot, .bot], []⟩) ?_ ?_
  · refine XL_cons rfl (X_of_Y0 rfl (E_loadn (cs := [Ti f1.1, Ti f1.2.1, Ti f1.2.2]) [Ti f1.1, Ti f1.2.1, Ti f1.2.2] wd36 rfl (by kernel_rfl) (Nat.le_of_ble_eq_true rfl) (by kernel_rfl))) ?_
    refine XL_cons rfl (X_of_Y1 rfl (Y1_call (s_spec_foDefinite hy2) cf_spec_foDefinite rfl (by kernel_rfl))) ?_
    refine XL_cons rfl (X_of_Y0 rfl (E_move (Bo y2) rfl (by kernel_rfl))) ?_
    refine XL_split y2 (fun hc3 => ?_) (fun hc3 => ?_)
    · have hb5 := of_true hb5 hc3
      obtain ⟨y4, hy4, hb5⟩ := of_bind hb5
      have hb5 := some_inj hb5
      refine XL_takeC (y2) rfl rfl (by kernel_rfl) hc3 (X_of_Y0 rfl (E_loadn (cs := [Ti f1.1, Ti f1.2.1, Ti f1.2.2]) [Ti f1.1, Ti f1.2.1, Ti f1.2.2] wd36 rfl (by kernel_rfl) (Nat.le_of_ble_eq_true rfl) (by kernel_rfl))) ?_
      refine XL_takeC (y2) rfl rfl (by kernel_rfl) hc3 (X_of_Y1 rfl (Y1_call (s_spec_foDisc hy4) cf_spec_foDisc rfl (by kernel_rfl))) ?_
      refine XL_takeC (y2) rfl rfl (by kernel_rfl) hc3 (X_of_Y0 rfl (Y0_gew (k := .i64) (a := y4) (b := -2000) rfl (by kernel_rfl) (by kernel_rfl))) ?_
      refine XL_cons rfl (X_of_Y0 rfl (Y0_pickTe (b := y2) (p := leI (-2000) y4) rfl (by kernel_rfl) hc3 (by kernel_rfl) hb5)) ?_
      refine XL_cons rfl (X_of_Y0 rfl (E_assign (Bo b5) rfl (by kernel_rfl))) ?_
      refine XL_nil ?_
      kernel_rfl
    · have hb5 := some_inj (of_false hb5 hc3)
      refine XL_skipT (y2) rfl rfl (by kernel_rfl) hc3 rfl ?_
      refine XL_skipT (y2) rfl rfl (by kernel_rfl) hc3 rfl ?_
      refine XL_skipT (y2) rfl rfl (by kernel_rfl) hc3 rfl ?_
      refine XL_cons rfl (X_of_Y0 rfl (Y0_pickFe (b := y2) (p := false) rfl (by kernel_rfl) hc3 (by kernel_rfl) hb5)) ?_
      refine XL_cons rfl (X_of_Y0 rfl (E_assign (Bo b5) rfl (by kernel_rfl))) ?_
      refine XL_nil ?_
      kernel_rfl
  refine V_ret ?_
  obtain rfl := some_inj h
  show Post _ _ _ _ _
  exact ⟨.inr rfl, rfl, rfl, rfl⟩
theorem cf_spec_coGood : ∀ args w, (callFunc 54 args).run Try.prog w = .ok (.enter 54 args) w := run_callFunc Try.func54 (by kernel_rfl) (by kernel_rfl)
set_option maxRecDepth 100000 in
set_option maxHeartbeats 400000 in
theorem s_spec_coGood {f1 : (Int × Int × Int)} {r : Bool} (h : r_spec_coGood f1 = some r) : CallS Try.prog 54 [.ag [Ti f1.1, Ti f1.2.1, Ti f1.2.2]] (Bo r) [] := by
  refine CallS_of_text (rs := [.t 2]) (vs := [.tmp 2]) Try.func54 rfl rfl (.cons rfl FitsL.nil) (by decide) 10 rfl ?_
  unfold r_spec_coGood at h
  show V _ _ ⟨[.ag [Ti f1.1, Ti f1.2.1, Ti f1.2.2], .bot, .bot, .bot, .bot, .bot, .bot, .bot, .bot, .bot], []⟩ _
  refine V_sreg [false, true, false, false, false, false, false, false, false, false] [8] (s1 := ⟨[.bot, .pt 8 0, .bot, .bot, .bot, .bot, .bot, .bot, .bot, .bot], [(8, .box [Ti f1.1, Ti f1.2.1, Ti f1.2.2])]⟩) ?_ ?_
  · refine XL_cons rfl (X_of_Y1 rfl (Y1_box (cs := [Ti f1.1, Ti f1.2.1, Ti f1.2.2]) rfl (by kernel_rfl))) ?_
    refine XL_cons rfl (X_of_Y0 rfl (E_assign (Bo false) rfl (by kernel_rfl))) ?_
    refine XL_nil ?_
    kernel_rfl
  obtain ⟨y2, hy2, h⟩ := of_bind h
  obtain ⟨b5, hb5, h⟩ := of_bind h
  refine V_sreg [false, false, true, false, false, false, false, false, false, false] [] (s1 := ⟨[.bot, .bot, Bo b5, .bot, .bot, .bot, .bot, .bot, .bot, .bot], []⟩) ?_ ?_
  · refine XL_cons rfl (X_of_Y0 rfl (E_loadn (cs := [Ti f1.1, Ti f1.2.1, Ti f1.2.2]) [Ti f1.1, Ti f1.2.1, Ti f1.2.2] wd36 rfl (by kernel_rfl) (Nat.le_of_ble_eq_true rfl) (by kernel_rfl))) ?_
    refine XL_cons rfl (X_of_Y1 rfl (Y1_call (s_spec_vaForm hy2) cf_spec_vaForm rfl (by kernel_rfl))) ?_
    refine XL_cons rfl (X_of_Y0 rfl (E_move (Bo y2) rfl (by kernel_rfl))) ?_
    refine XL_split y2 (fun hc3 => ?_) (fun hc3 => ?_)
    · have hb5 := of_true hb5 hc3
      obtain ⟨y4, hy4, hb5⟩ := of_bind hb5
      have hb5 := some_inj hb5
      refine XL_takeC (y2) rfl rfl (by kernel_rfl) hc3 (X_of_Y0 rfl (E_loadn (cs := [Ti f1.1, Ti f1.2.1, Ti f1.2.2]) [Ti f1.1, Ti f1.2.1, Ti f1.2.2] wd36 rfl (by kernel_rfl) (Nat.le_of_ble_eq_true rfl) (by kernel_rfl))) ?_
      refine XL_takeC (y2) rfl rfl (by kernel_rfl) hc3 (X_of_Y1 rfl (Y1_call (s_spec_foContent hy4) cf_spec_foContent rfl (by kernel_rfl))) ?_
      refine XL_takeC (y2) rfl rfl (by kernel_rfl) hc3 (X_of_Y0 rfl (Y0_eqw (k := .i64) (a := y4) (b := 1) rfl (by kernel_rfl) (by kernel_rfl))) ?_
      refine XL_cons rfl (X_of_Y0 rfl (Y0_pickTe (b := y2) (p := eqI y4 1) rfl (by kernel_rfl) hc3 (by kernel_rfl) hb5)) ?_
      refine XL_cons rfl (X_of_Y0 rfl (E_assign (Bo b5) rfl (by kernel_rfl))) ?_
      refine XL_nil ?_
      kernel_rfl
    · have hb5 := some_inj (of_false hb5 hc3)
      refine XL_skipT (y2) rfl rfl (by kernel_rfl) hc3 rfl ?_
      refine XL_skipT (y2) rfl rfl (by kernel_rfl) hc3 rfl ?_
      refine XL_skipT (y2) rfl rfl (by kernel_rfl) hc3 rfl ?_
      refine XL_cons rfl (X_of_Y0 rfl (Y0_pickFe (b := y2) (p := false) rfl (by kernel_rfl) hc3 (by kernel_rfl) hb5)) ?_
      refine XL_cons rfl (X_of_Y0 rfl (E_assign (Bo b5) rfl (by kernel_rfl))) ?_
      refine XL_nil ?_
      kernel_rfl
  refine V_ret ?_
  obtain rfl := some_inj h
  show Post _ _ _ _ _
  exact ⟨.inr rfl, rfl, rfl, rfl⟩
theorem cf_spec_reClass : ∀ args w, (callFunc 84 args).run Try.prog w = .ok (.enter 84 args) w := run_callFunc Try.func84 (by kernel_rfl) (by kernel_rfl)
set_option maxRecDepth 100000 in
set_option maxHeartbeats 400000 in
theorem s_spec_reClass {f1 : (Int × Int × Int)} {r : (Int × Int × Int)} (h : r_spec_reClass f1 = some r) : CallS Try.prog 84 [.ag [Ti f1.1, Ti f1.2.1, Ti f1.2.2]] (.ag [Ti r.1, Ti r.2.1, Ti r.2.2]) [] := by
  refine CallS_of_text (rs := [.w 2 3]) (vs := [.cell 2 36]) Try.func84 rfl rfl (.cons ⟨rfl, wd36⟩ FitsL.nil) (by decide) 11 rfl ?_
  unfold r_spec_reClass at h
  show V _ _ ⟨[.ag [Ti f1.1, Ti f1.2.1, Ti f1.2.2], .bot, .bot, .bot, .bot, .bot, .bot, .bot, .bot, .bot, .bot], []⟩ _
  refine V_sreg [false, true, true, false, false, false, false, false, false, false, false] [16, 8] (s1 := ⟨[.bot, .pt 8 0, .pt 16 0, .bot, .bot, .bot, .bot, .bot, .bot, .bot, .bot], [(16, .box [Ti 0, Ti 0, Ti 0]), (8, .box [Ti f1.1, Ti f1.2.1, Ti f1.2.2])]⟩) ?_ ?_
  · refine XL_cons rfl (X_of_Y1 rfl (Y1_box (cs := [Ti f1.1, Ti f1.2.1, Ti f1.2.2]) rfl (by kernel_rfl))) ?_
    refine XL_cons rfl (X_of_Y1 rfl (Y1_alloc (z := zv36) rfl zf36 rfl)) ?_
    refine XL_nil ?_
    kernel_rfl
  obtain ⟨y2, hy2, h⟩ := of_bind h
  refine V_sreg [false, false, true, true, false, false, false, false, false, false, false] [24, 16] (s1 := ⟨[.bot, .bot, .pt 16 0, .pt 24 0, .bot, .bot, .bot, .bot, .bot, .bot, .bot], [(24, .box [Ti y2.1.1, Ti y2.1.2.1, Ti y2.1.2.2]), (16, .box [Ti 0, Ti 0, Ti 0])]⟩) ?_ ?_
  · refine XL_cons rfl (X_of_Y0 rfl (E_loadn (cs := [Ti f1.1, Ti f1.2.1, Ti f1.2.2]) [Ti f1.1, Ti f1.2.1, Ti f1.2.2] wd36 rfl (by kernel_rfl) (Nat.le_of_ble_eq_true rfl) (by kernel_rfl))) ?_
    refine XL_cons rfl (X_of_Y1 rfl (Y1_call (s_spec_reReduce hy2) cf_spec_reReduce rfl (by kernel_rfl))) ?_
    refine XL_cons rfl (X_of_Y0 rfl (E_move (.tc (.ag [Ti y2.1.1, Ti y2.1.2.1, Ti y2.1.2.2]) (.tc (.ag [Ti y2.2.1, Ti y2.2.2.1, Ti y2.2.2.2.1, Ti y2.2.2.2.2]) .tn)) rfl (by kernel_rfl))) ?_
    refine XL_cons rfl (X_of_Y0 rfl (E_ext (n := 0) (.ag [Ti y2.1.1, Ti y2.1.2.1, Ti y2.1.2.2]) (.tc (.ag [Ti y2.2.1, Ti y2.2.2.1, Ti y2.2.2.2.1, Ti y2.2.2.2.2]) .tn) (.ag [Ti y2.1.1, Ti y2.1.2.1, Ti y2.1.2.2]) rfl (by kernel_rfl) (by kernel_rfl) (by intro hh; cases hh))) ?_
    refine XL_cons rfl (X_of_Y0 rfl (E_ext (n := 1) (.ag [Ti y2.1.1, Ti y2.1.2.1, Ti y2.1.2.2]) (.tc (.ag [Ti y2.2.1, Ti y2.2.2.1, Ti y2.2.2.2.1, Ti y2.2.2.2.2]) .tn) (.ag [Ti y2.2.1, Ti y2.2.2.1, Ti y2.2.2.2.1, Ti y2.2.2.2.2]) rfl (by kernel_rfl) (by kernel_rfl) (by intro hh; cases hh))) ?_
    refine XL_cons rfl (X_of_Y1 rfl (Y1_alloc (z := zv36) rfl zf36 rfl)) ?_
    refine XL_cons rfl (X_of_Y1 rfl (Y1_alloc (z := zv38) rfl zf38 rfl)) ?_
    refine XL_cons rfl (E_store (id := 24) (off := 0) (cs := [Ti 0, Ti 0, Ti 0]) (vc := [Ti y2.1.1, Ti y2.1.2.1, Ti y2.1.2.2]) [Ti y2.1.1, Ti y2.1.2.1, Ti y2.1.2.2] rfl rfl (by kernel_rfl) (by kernel_rfl) (by kernel_rfl) sz36 (Nat.le_of_ble_eq_true rfl) (by kernel_rfl)) ?_
    refine XL_cons rfl (E_store (id := 32) (off := 0) (cs := [Ti 0, Ti 0, Ti 0, Ti 0]) (vc := [Ti y2.2.1, Ti y2.2.2.1, Ti y2.2.2.2.1, Ti y2.2.2.2.2]) [Ti y2.2.1, Ti y2.2.2.1, Ti y2.2.2.2.1, Ti y2.2.2.2.2] rfl rfl (by kernel_rfl) (by kernel_rfl) (by kernel_rfl) sz38 (Nat.le_of_ble_eq_true rfl) (by kernel_rfl)) ?_
    refine XL_nil ?_
    kernel_rfl
  refine V_sreg [false, false, true, false, false, false, false, false, false, false, false] [16] (s1 := ⟨[.bot, .bot, .pt 16 0, .bot, .bot, .bot, .bot, .bot, .bot, .bot, .bot], [(16, .box [Ti y2.1.1, Ti y2.1.2.1, Ti y2.1.2.2])]⟩) ?_ ?_
  · refine XL_cons rfl (X_of_Y0 rfl (E_loadn (cs := [Ti y2.1.1, Ti y2.1.2.1, Ti y2.1.2.2]) [Ti y2.1.1, Ti y2.1.2.1, Ti y2.1.2.2] wd36 rfl (by kernel_rfl) (Nat.le_of_ble_eq_true rfl) (by kernel_rfl))) ?_
    refine XL_cons rfl (E_store (id := 16) (off := 0) (cs := [Ti 0, Ti 0, Ti 0]) (vc := [Ti y2.1.1, Ti y2.1.2.1, Ti y2.1.2.2]) [Ti y2.1.1, Ti y2.1.2.1, Ti y2.1.2.2] rfl rfl (by kernel_rfl) (by kernel_rfl) (by kernel_rfl) sz36 (Nat.le_of_ble_eq_true rfl) (by kernel_rfl)) ?_
    refine XL_nil ?_
    kernel_rfl
  refine V_ret ?_
  obtain rfl := some_inj h
  show Post _ _ _ _ _
  exact ⟨.inr rfl, rfl, rfl, rfl⟩
theorem cf_spec_LiftForms : ∀ args w, (callFunc 47 args).run Try.prog w = .ok (.enter 47 args) w := run_callFunc Try.func47 (by kernel_rfl) (by kernel_rfl)
set_option maxRecDepth 100000 in
set_option maxHeartbeats 400000 in
theorem s_spec_LiftForms {f1 : (Int × Int × Int)} {p2 : Int} {r : ((List ((Int × Int × Int))) × Bool)} (h : r_spec_LiftForms f1 p2 = some r) : CallS Try.prog 47 [.ag [Ti f1.1, Ti f1.2.1, Ti f1.2.2], I p2] (.tc (.ow 0) (.tc (Bo r.2) .tn)) [(0, .arr 36 3 (r.1.map c36))] := by
  refine CallS_of_text (rs := [.t 4, .t 5]) (vs := [.tmp 4, .tmp 5]) Try.func47 rfl rfl (.cons rfl (.cons rfl FitsL.nil)) (by decide) 20 rfl ?_
  unfold r_spec_LiftForms at h
  show V _ _ ⟨[.ag [Ti f1.1, Ti f1.2.1, Ti f1.2.2], I p2, .bot, .bot, .bot, .bot, .bot, .bot, .bot, .bot, .bot, .bot, .bot, .bot, .bot, .bot, .bot, .bot, .bot, .bot], []⟩ _
  refine V_sreg [false, true, true, false, false, false, false, false, false, false, false, false, false, false, false, false, false, false, false, false] [16] (s1 := ⟨[.bot, I p2, .pt 16 0, .bot, .bot, .bot, .bot, .bot, .bot, .bot, .bot, .bot, .bot, .bot, .bot, .bot, .bot, .bot, .bot, .bot], [(16, .box [Ti f1.1, Ti f1.2.1, Ti f1.2.2])]⟩) ?_ ?_
  · refine XL_cons rfl (X_of_Y1 rfl (Y1_box (cs := [Ti f1.1, Ti f1.2.1, Ti f1.2.2]) rfl (by kernel_rfl))) ?_
    refine XL_cons rfl (X_of_Y1 rfl (Y1_nil (e := 36) 3 (by decide) (.inl rfl))) ?_
    refine XL_cons rfl (X_of_Y0 rfl (E_assign (Bo false) rfl (by kernel_rfl))) ?_
    refine XL_nil ?_
    kernel_rfl
  refine V_seq ?_
  obtain ⟨y3, hy3, h⟩ := of_bind h
  obtain ⟨b7, hb7, h⟩ := of_bind h
  refine V_sreg [false, true, true, false, false, false, false, false, false, false, false, false, false, false, false, true, false, false, false, false] [16] (s1 := ⟨[.bot, I p2, .pt 16 0, .bot, .bot, .bot, .bot, .bot, .bot, .bot, .bot, .bot, .bot, .bot, .bot, Bo b7, .bot, .bot, .bot, .bot], [(16, .box [Ti f1.1, Ti f1.2.1, Ti f1.2.2])]⟩) ?_ ?_
  · refine XL_cons rfl (X_of_Y0 rfl (E_loadn (cs := [Ti f1.1, Ti f1.2.1, Ti f1.2.2]) [Ti f1.1, Ti f1.2.1, Ti f1.2.2] wd36 rfl (by kernel_rfl) (Nat.le_of_ble_eq_true rfl) (by kernel_rfl))) ?_
    refine XL_cons rfl (X_of_Y1 rfl (Y1_call (s_spec_coGood hy3) cf_spec_coGood rfl (by kernel_rfl))) ?_
    refine XL_cons rfl (X_of_Y0 rfl (Y0_not (b := y3) rfl (by kernel_rfl))) ?_
    refine XL_cons rfl (X_of_Y0 rfl (E_move (Bo (!y3)) rfl (by kernel_rfl))) ?_
    refine XL_split (!y3) (fun hc4 => ?_) (fun hc4 => ?_)
    · have hb7 := some_inj (of_true hb7 hc4)
      refine XL_skipF (!y3) rfl rfl (by kernel_rfl) hc4 rfl ?_
      refine XL_skipF (!y3) rfl rfl (by kernel_rfl) hc4 rfl ?_
      refine XL_skipF (!y3) rfl rfl (by kernel_rfl) hc4 rfl ?_
      refine XL_skipF (!y3) rfl rfl (by kernel_rfl) hc4 rfl ?_
      refine XL_skipF (!y3) rfl rfl (by kernel_rfl) hc4 rfl ?_
      refine XL_cons rfl (X_of_Y0 rfl (Y0_pickTe (b := !y3) (p := true) rfl (by kernel_rfl) hc4 (by kernel_rfl) hb7)) ?_
      refine XL_nil ?_
      kernel_rfl
    · have hb7 := of_false hb7 hc4
      obtain ⟨y5, hy5, hb7⟩ := of_bind hb7
      obtain ⟨y6, hy6, hb7⟩ := of_bind hb7
      have hb7 := some_inj hb7
      refine XL_takeC (!y3) rfl rfl (by kernel_rfl) hc4 (X_of_Y0 rfl (E_loadn (cs := [Ti f1.1, Ti f1.2.1, Ti f1.2.2]) [Ti f1.1, Ti f1.2.1, Ti f1.2.2] wd36 rfl (by kernel_rfl) (Nat.le_of_ble_eq_true rfl) (by kernel_rfl))) ?_
      refine XL_takeC (!y3) rfl rfl (by kernel_rfl) hc4 (X_of_Y1 rfl (Y1_call (s_spec_foDisc hy5) cf_spec_foDisc rfl (by kernel_rfl))) ?_
      refine XL_takeC (!y3) rfl rfl (by kernel_rfl) hc4 (X_of_Y0 rfl (E_move (I p2) rfl (by kernel_rfl))) ?_
      refine XL_takeC (!y3) rfl rfl (by kernel_rfl) hc4 (X_of_Y1 rfl (Y1_call (s_spec_odUp hy6) cf_spec_odUp rfl (by kernel_rfl))) ?_
      refine XL_takeC (!y3) rfl rfl (by kernel_rfl) hc4 (X_of_Y0 rfl (Y0_not (b := y6) rfl (by kernel_rfl))) ?_
      refine XL_cons rfl (X_of_Y0 rfl (Y0_pickFe (b := !y3) (p := !y6) rfl (by kernel_rfl) hc4 (by kernel_rfl) hb7)) ?_
      refine XL_nil ?_
      kernel_rfl
  refine V_cond rfl (fun hc8 => ?_) (fun hc8 => ?_)
  · have h := of_true h hc8
    refine V_sreg [false, false, false, false, true, true, false, false, false, false, false, false, false, false, false, false, false, false, false, false] [32] (s1 := ⟨[.bot, .bot, .bot, .bot, .ow 32, Bo false, .bot, .bot, .bot, .bot, .bot, .bot, .bot, .bot, .bot, .bot, .bot, .bot, .bot, .bot], [(32, .arr 36 3 ((([] : List ((Int × Int × Int)))).map c36))]⟩) ?_ ?_
    · refine XL_cons rfl (X_of_Y1 rfl (Y1_nil (e := 36) 3 (by decide) (.inl rfl))) ?_
      refine XL_cons rfl (X_of_Y0 rfl (E_assign (Bo false) rfl (by kernel_rfl))) ?_
      refine XL_nil ?_
      kernel_rfl
    refine V_ret ?_
    obtain rfl := some_inj h
    show Post _ _ _ _ _
    exact ⟨.inr rfl, rfl, rfl, rfl⟩
  · have h := of_false h hc8
    refine V_skip ?_
    show V _ _ _ _
    obtain ⟨y9, hy9, h⟩ := of_bind h
    obtain ⟨y10, hy10, h⟩ := of_bind h
    refine V_sreg [false, false, false, false, true, true, false, false, false, false, false, false, false, false, false, false, false, false, false, false] [152] (s1 := ⟨[.bot, .bot, .bot, .bot, .ow 152, Bo true, .bot, .bot, .bot, .bot, .bot, .bot, .bot, .bot, .bot, .bot, .bot, .bot, .bot, .bot], [(152, .arr 36 3 (y10.map c36))]⟩) ?_ ?_
    · refine XL_cons rfl (X_of_Y0 rfl (E_loadn (cs := [Ti f1.1, Ti f1.2.1, Ti f1.2.2]) [Ti f1.1, Ti f1.2.1, Ti f1.2.2] wd36 rfl (by kernel_rfl) (Nat.le_of_ble_eq_true rfl) (by kernel_rfl))) ?_
      refine XL_cons rfl (X_of_Y1 rfl (Y1_call (s_spec_reClass hy9) cf_spec_reClass rfl (by kernel_rfl))) ?_
      refine XL_cons rfl (X_of_Y0 rfl (E_move (I p2) rfl (by kernel_rfl))) ?_
      refine XL_cons rfl (X_of_Y1 rfl (Y1_call (s_spec_odLifts hy10) cf_spec_odLifts rfl (by kernel_rfl))) ?_
      refine XL_cons rfl (X_of_Y0 rfl (E_assign (.ow 152) rfl (by kernel_rfl))) ?_
      refine XL_cons rfl (X_of_Y0 rfl (E_assign (Bo true) rfl (by kernel_rfl))) ?_
      refine XL_nil ?_
      kernel_rfl
    refine V_ret ?_
    obtain rfl := some_inj h
    show Post _ _ _ _ _
    exact ⟨.inr rfl, rfl, rfl, rfl⟩
theorem cf_impl_IsForm : ∀ args w, (callFunc 149 args).run Try.prog w = .ok (.enter 149 args) w := run_callFunc Try.func149 (by kernel_rfl) (by kernel_rfl)
set_option maxRecDepth 100000 in
set_option maxHeartbeats 400000 in
theorem s_impl_IsForm {f1 : (Int × Int × Int)} {r : Bool} (h : r_impl_IsForm f1 = some r) : CallS Try.prog 149 [.ag [Ti f1.1, Ti f1.2.1, Ti f1.2.2]] (Bo r) [] := by
  refine CallS_of_text (rs := [.t 2]) (vs := [.tmp 2]) Try.func149 rfl rfl (.cons rfl FitsL.nil) (by decide) 11 rfl ?_
  unfold r_impl_IsForm at h
  show V _ _ ⟨[.ag [Ti f1.1, Ti f1.2.1, Ti f1.2.2], .bot, .bot, .bot, .bot, .bot, .bot, .bot, .bot, .bot, .bot], []⟩ _
  refine V_sreg [false, true, false, false, false, false, false, false, false, false, false] [8] (s1 := ⟨[.bot, .pt 8 0, .bot, .bot, .bot, .bot, .bot, .bot, .bot, .bot, .bot], [(8, .box [Ti f1.1, Ti f1.2.1, Ti f1.2.2])]⟩) ?_ ?_
  · refine XL_cons rfl (X_of_Y1 rfl (Y1_box (cs := [Ti f1.1, Ti f1.2.1, Ti f1.2.2]) rfl (by kernel_rfl))) ?_
    refine XL_cons rfl (X_of_Y0 rfl (E_assign (Bo false) rfl (by kernel_rfl))) ?_
    refine XL_nil ?_
    kernel_rfl
  obtain ⟨y2, hy2, h⟩ := of_bind h
  refine V_sreg [false, false, true, false, false, false, false, false, false, false, false] [] (s1 := ⟨[.bot, .bot, Bo y2, .bot, .bot, .bot, .bot, .bot, .bot, .bot, .bot], []⟩) ?_ ?_
  · refine XL_cons rfl (X_of_Y0 rfl (E_field (.pt 8 0) Try.underlying36 rfl sz3 rfl (by kernel_rfl) (by intro hh; cases hh))) ?_
    refine XL_cons rfl (X_of_Y0 rfl (Y0_load1 (c := Ti f1.1) (cs := [Ti f1.2.1, Ti f1.2.2]) sc3 rfl (by kernel_rfl))) ?_
    refine XL_cons rfl (X_of_Y0 rfl (E_field (.pt 8 1) Try.underlying36 rfl sz3 rfl (by kernel_rfl) (by intro hh; cases hh))) ?_
    refine XL_cons rfl (X_of_Y0 rfl (Y0_load1 (c := Ti f1.2.1) (cs := [Ti f1.2.2]) sc3 rfl (by kernel_rfl))) ?_
    refine XL_cons rfl (X_of_Y0 rfl (E_field (.pt 8 2) Try.underlying36 rfl sz3 rfl (by kernel_rfl) (by intro hh; cases hh))) ?_
    refine XL_cons rfl (X_of_Y0 rfl (Y0_load1 (c := Ti f1.2.2) (cs := []) sc3 rfl (by kernel_rfl))) ?_
    refine XL_cons rfl (X_of_Y1 rfl (Y1_bslice (z := zv3) (els := [f1.1, f1.2.1, f1.2.2].map c3) Try.underlying25 iz3 rfl (by decide) rfl (by kernel_rfl) rfl (by simp [c3]) (by decide) (by decide))) ?_
    refine XL_cons rfl (X_of_Y1 rfl (Y1_callS (s_impl_areNumbers hy2) cf_impl_areNumbers rfl (by kernel_rfl) rfl rfl)) ?_
    refine XL_cons rfl (X_of_Y0 rfl (E_assign (Bo y2) rfl (by kernel_rfl))) ?_
    refine XL_nil ?_
    kernel_rfl
  refine V_ret ?_
  obtain rfl := some_inj h
  show Post _ _ _ _ _
  exact ⟨.inr rfl, rfl, rfl, rfl⟩
theorem cf_impl_isDefinite : ∀ args w, (callFunc 136 args).run Try.prog w = .ok (.enter 136 args) w := run_callFunc Try.func136 (by kernel_rfl) (by kernel_rfl)
set_option maxRecDepth 100000 in
set_option maxHeartbeats 400000 in
theorem s_impl_isDefinite {f1 : (Int × Int × Int)} {r : Bool} (h : r_impl_isDefinite f1 = some r) : CallS Try.prog 136 [.ag [Ti f1.1, Ti f1.2.1, Ti f1.2.2]] (Bo r) [] := by
  refine CallS_of_text (rs := [.t 2]) (vs := [.tmp 2]) Try.func136 rfl rfl (.cons rfl FitsL.nil) (by decide) 15 rfl ?_
  unfold r_impl_isDefinite at h
  show V _ _ ⟨[.ag [Ti f1.1, Ti f1.2.1, Ti f1.2.2], .bot, .bot, .bot, .bot, .bot, .bot, .bot, .bot, .bot, .bot, .bot, .bot, .bot, .bot], []⟩ _
  refine V_sreg [false, true, false, false, false, false, false, false, false, false, false, false, false, false, false] [8] (s1 := ⟨[.bot, .pt 8 0, .bot, .bot, .bot, .bot, .bot, .bot, .bot, .bot, .bot, .bot, .bot, .bot, .bot], [(8, .box [Ti f1.1, Ti f1.2.1, Ti f1.2.2])]⟩) ?_ ?_
  · refine XL_cons rfl (X_of_Y1 rfl (Y1_box (cs := [Ti f1.1, Ti f1.2.1, Ti f1.2.2]) rfl (by kernel_rfl))) ?_
    refine XL_cons rfl (X_of_Y0 rfl (E_assign (Bo false) rfl (by kernel_rfl))) ?_
    refine XL_nil ?_
    kernel_rfl
  obtain ⟨y2, hy2, h⟩ := of_bind h
  obtain ⟨b5, hb5, h⟩ := of_bind h
  refine V_sreg [false, false, true, false, false, false, false, false, false, false, false, false, false, false, false] [] (s1 := ⟨[.bot, .bot, Bo (bif b5 then (ltI 0 f1.1) else false), .bot, .bot, .bot, .bot, .bot, .bot, .bot, .bot, .bot, .bot, .bot, .bot], []⟩) ?_ ?_
  · refine XL_cons rfl (X_of_Y0 rfl (E_loadn (cs := [Ti f1.1, Ti f1.2.1, Ti f1.2.2]) [Ti f1.1, Ti f1.2.1, Ti f1.2.2] wd36 rfl (by kernel_rfl) (Nat.le_of_ble_eq_true rfl) (by kernel_rfl))) ?_
    refine XL_cons rfl (X_of_Y1 rfl (Y1_call (s_impl_IsForm hy2) cf_impl_IsForm rfl (by kernel_rfl))) ?_
    refine XL_cons rfl (X_of_Y0 rfl (E_move (Bo y2) rfl (by kernel_rfl))) ?_
    refine XL_split y2 (fun hc3 => ?_) (fun hc3 => ?_)
    · have hb5 := of_true hb5 hc3
      obtain ⟨y4, hy4, hb5⟩ := of_bind hb5
      have hb5 := some_inj hb5
      refine XL_takeC (y2) rfl rfl (by kernel_rfl) hc3 (X_of_Y0 rfl (E_loadn (cs := [Ti f1.1, Ti f1.2.1, Ti f1.2.2]) [Ti f1.1, Ti f1.2.1, Ti f1.2.2] wd36 rfl (by kernel_rfl) (Nat.le_of_ble_eq_true rfl) (by kernel_rfl))) ?_
      refine XL_takeC (y2) rfl rfl (by kernel_rfl) hc3 (X_of_Y1 rfl (Y1_call (s_impl_Form_disc hy4) cf_impl_Form_disc rfl (by kernel_rfl))) ?_
      refine XL_takeC (y2) rfl rfl (by kernel_rfl) hc3 (X_of_Y0 rfl (Y0_ltw (k := .i64) (a := y4) (b := 0) rfl (by kernel_rfl) (by kernel_rfl))) ?_
      refine XL_cons rfl (X_of_Y0 rfl (Y0_pickTe (b := y2) (p := ltI y4 0) rfl (by kernel_rfl) hc3 (by kernel_rfl) hb5)) ?_
      refine XL_cons rfl (X_of_Y0 rfl (E_move (Bo b5) rfl (by kernel_rfl))) ?_
      refine XL_split b5 (fun hc6 => ?_) (fun hc6 => ?_)
      · refine XL_takeC (b5) rfl rfl (by kernel_rfl) hc6 (X_of_Y0 rfl (E_field (.pt 8 0) Try.underlying36 rfl sz3 rfl (by kernel_rfl) (by intro hh; cases hh))) ?_
        refine XL_takeC (b5) rfl rfl (by kernel_rfl) hc6 (X_of_Y0 rfl (Y0_load1 (c := Ti f1.1) (cs := [Ti f1.2.1, Ti f1.2.2]) sc3 rfl (by kernel_rfl))) ?_
        refine XL_takeC (b5) rfl rfl (by kernel_rfl) hc6 (X_of_Y0 rfl (Y0_gtw (k := .i64) (a := f1.1) (b := 0) rfl (by kernel_rfl) (by kernel_rfl))) ?_
        refine XL_cons rfl (X_of_Y0 rfl (Y0_pick1 (b := b5) (p := ltI 0 f1.1) (q := false) rfl (by kernel_rfl) hc6 (by kernel_rfl))) ?_
        refine XL_cons rfl (X_of_Y0 rfl (E_assign (Bo (bif b5 then (ltI 0 f1.1) else false)) rfl (by kernel_rfl))) ?_
        refine XL_nil ?_
        kernel_rfl
      · refine XL_skipT (b5) rfl rfl (by kernel_rfl) hc6 rfl ?_
        refine XL_skipT (b5) rfl rfl (by kernel_rfl) hc6 rfl ?_
        refine XL_skipT (b5) rfl rfl (by kernel_rfl) hc6 rfl ?_
        refine XL_cons rfl (X_of_Y0 rfl (Y0_pick0 (b := b5) (p := ltI 0 f1.1) (q := false) rfl (by kernel_rfl) hc6 (by kernel_rfl))) ?_
        refine XL_cons rfl (X_of_Y0 rfl (E_assign (Bo (bif b5 then (ltI 0 f1.1) else false)) rfl (by kernel_rfl))) ?_
        refine XL_nil ?_
        kernel_rfl
    · have hb5 := some_inj (of_false hb5 hc3)
      refine XL_skipT (y2) rfl rfl (by kernel_rfl) hc3 rfl ?_
      refine XL_skipT (y2) rfl rfl (by kernel_rfl) hc3 rfl ?_
      refine XL_skipT (y2) rfl rfl (by kernel_rfl) hc3 rfl ?_
      refine XL_cons rfl (X_of_Y0 rfl (Y0_pickFe (b := y2) (p := false) rfl (by kernel_rfl) hc3 (by kernel_rfl) hb5)) ?_
      refine XL_cons rfl (X_of_Y0 rfl (E_move (Bo b5) rfl (by kernel_rfl))) ?_
      refine XL_split b5 (fun hc6 => ?_) (fun hc6 => ?_)
      · refine XL_takeC (b5) rfl rfl (by kernel_rfl) hc6 (X_of_Y0 rfl (E_field (.pt 8 0) Try.underlying36 rfl sz3 rfl (by kernel_rfl) (by intro hh; cases hh))) ?_
        refine XL_takeC (b5) rfl rfl (by kernel_rfl) hc6 (X_of_Y0 rfl (Y0_load1 (c := Ti f1.1) (cs := [Ti f1.2.1, Ti f1.2.2]) sc3 rfl (by kernel_rfl))) ?_
        refine XL_takeC (b5) rfl rfl (by kernel_rfl) hc6 (X_of_Y0 rfl (Y0_gtw (k := .i64) (a := f1.1) (b := 0) rfl (by kernel_rfl) (by kernel_rfl))) ?_
        refine XL_cons rfl (X_of_Y0 rfl (Y0_pick1 (b := b5) (p := ltI 0 f1.1) (q := false) rfl (by kernel_rfl) hc6 (by kernel_rfl))) ?_
        refine XL_cons rfl (X_of_Y0 rfl (E_assign (Bo (bif b5 then (ltI 0 f1.1) else false)) rfl (by kernel_rfl))) ?_
        refine XL_nil ?_
        kernel_rfl
      · refine XL_skipT (b5) rfl rfl (by kernel_rfl) hc6 rfl ?_
        refine XL_skipT (b5) rfl rfl (by kernel_rfl) hc6 rfl ?_
        refine XL_skipT (b5) rfl rfl (by kernel_rfl) hc6 rfl ?_
        refine XL_cons rfl (X_of_Y0 rfl (Y0_pick0 (b := b5) (p := ltI 0 f1.1) (q := false) rfl (by kernel_rfl) hc6 (by kernel_rfl))) ?_
        refine XL_cons rfl (X_of_Y0 rfl (E_assign (Bo (bif b5 then (ltI 0 f1.1) else false)) rfl (by kernel_rfl))) ?_
        refine XL_nil ?_
        kernel_rfl
  refine V_ret ?_
  obtain rfl := some_inj h
  show Post _ _ _ _ _
  exact ⟨.inr rfl, rfl, rfl, rfl⟩
theorem cf_impl_isShownForm : ∀ args w, (callFunc 102 args).run Try.prog w = .ok (.enter 102 args) w := run_callFunc Try.func102 (by kernel_rfl) (by kernel_rfl)
set_option maxRecDepth 100000 in
set_option maxHeartbeats 400000 in
theorem s_impl_isShownForm {f1 : (Int × Int × Int)} {r : Bool} (h : r_impl_isShownForm f1 = some r) : CallS Try.prog 102 [.ag [Ti f1.1, Ti f1.2.1, Ti f1.2.2]] (Bo r) [] := by
  refine CallS_of_text (rs := [.t 2]) (vs := [.tmp 2]) Try.func102 rfl rfl (.cons rfl FitsL.nil) (by decide) 10 rfl ?_
  unfold r_impl_isShownForm at h
  show V _ _ ⟨[.ag [Ti f1.1, Ti f1.2.1, Ti f1.2.2], .bot, .bot, .bot, .bot, .bot, .bot, .bot, .bot, .bot], []⟩ _
  refine V_sreg [false, true, false, false, false, false, false, false, false, false] [8] (s1 := ⟨[.bot, .pt 8 0, .bot, .bot, .bot, .bot, .bot, .bot, .bot, .bot], [(8, .box [Ti f1.1, Ti f1.2.1, Ti f1.2.2])]⟩) ?_ ?_
  · refine XL_cons rfl (X_of_Y1 rfl (Y1_box (cs := [Ti f1.1, Ti f1.2.1, Ti f1.2.2]) rfl (by kernel_rfl))) ?_
    refine XL_cons rfl (X_of_Y0 rfl (E_assign (Bo false) rfl (by kernel_rfl))) ?_
    refine XL_nil ?_
    kernel_rfl
  obtain ⟨y2, hy2, h⟩ := of_bind h
  obtain ⟨b5, hb5, h⟩ := of_bind h
  refine V_sreg [false, false, true, false, false, false, false, false, false, false] [] (s1 := ⟨[.bot, .bot, Bo b5, .bot, .bot, .bot, .bot, .bot, .bot, .bot], []⟩) ?_ ?_
  · refine XL_cons rfl (X_of_Y0 rfl (E_loadn (cs := [Ti f1.1, Ti f1.2.1, Ti f1.2.2]) [Ti f1.1, Ti f1.2.1, Ti f1.2.2] wd36 rfl (by kernel_rfl) (Nat.le_of_ble_eq_true rfl) (by kernel_rfl))) ?_
    refine XL_cons rfl (X_of_Y1 rfl (Y1_call (s_impl_isDefinite hy2) cf_impl_isDefinite rfl (by kernel_rfl))) ?_
    refine XL_cons rfl (X_of_Y0 rfl (E_move (Bo y2) rfl (by kernel_rfl))) ?_
    refine XL_split y2 (fun hc3 => ?_) (fun hc3 => ?_)
    · have hb5 := of_true hb5 hc3
      obtain ⟨y4, hy4, hb5⟩ := of_bind hb5
      have hb5 := some_inj hb5
      refine XL_takeC (y2) rfl rfl (by kernel_rfl) hc3 (X_of_Y0 rfl (E_loadn (cs := [Ti f1.1, Ti f1.2.1, Ti f1.2.2]) [Ti f1.1, Ti f1.2.1, Ti f1.2.2] wd36 rfl (by kernel_rfl) (Nat.le_of_ble_eq_true rfl) (by kernel_rfl))) ?_
      refine XL_takeC (y2) rfl rfl (by kernel_rfl) hc3 (X_of_Y1 rfl (Y1_call (s_impl_Form_disc hy4) cf_impl_Form_disc rfl (by kernel_rfl))) ?_
      refine XL_takeC (y2) rfl rfl (by kernel_rfl) hc3 (X_of_Y0 rfl (Y0_gew (k := .i64) (a := y4) (b := -2000) rfl (by kernel_rfl) (by kernel_rfl))) ?_
      refine XL_cons rfl (X_of_Y0 rfl (Y0_pickTe (b := y2) (p := leI (-2000) y4) rfl (by kernel_rfl) hc3 (by kernel_rfl) hb5)) ?_
      refine XL_cons rfl (X_of_Y0 rfl (E_assign (Bo b5) rfl (by kernel_rfl))) ?_
      refine XL_nil ?_
      kernel_rfl
    · have hb5 := some_inj (of_false hb5 hc3)
      refine XL_skipT (y2) rfl rfl (by kernel_rfl) hc3 rfl ?_
      refine XL_skipT (y2) rfl rfl (by kernel_rfl) hc3 rfl ?_
      refine XL_skipT (y2) rfl rfl (by kernel_rfl) hc3 rfl ?_
      refine XL_cons rfl (X_of_Y0 rfl (Y0_pickFe (b := y2) (p := false) rfl (by kernel_rfl) hc3 (by kernel_rfl) hb5)) ?_
      refine XL_cons rfl (X_of_Y0 rfl (E_assign (Bo b5) rfl (by kernel_rfl))) ?_
      refine XL_nil ?_
      kernel_rfl
  refine V_ret ?_
  obtain rfl := some_inj h
  show Post _ _ _ _ _
  exact ⟨.inr rfl, rfl, rfl, rfl⟩
theorem cf_impl_isClassForm : ∀ args w, (callFunc 60 args).run Try.prog w = .ok (.enter 60 args) w := run_callFunc Try.func60 (by kernel_rfl) (by kernel_rfl)
set_option maxRecDepth 100000 in
set_option maxHeartbeats 400000 in
theorem s_impl_isClassForm {f1 : (Int × Int × Int)} {r : Bool} (h : r_impl_isClassForm f1 = some r) : CallS Try.prog 60 [.ag [Ti f1.1, Ti f1.2.1, Ti f1.2.2]] (Bo r) [] := by
  refine CallS_of_text (rs := [.t 2]) (vs := [.tmp 2]) Try.func60 rfl rfl (.cons rfl FitsL.nil) (by decide) 10 rfl ?_
  unfold r_impl_isClassForm at h
  show V _ _ ⟨[.ag [Ti f1.1, Ti f1.2.1, Ti f1.2.2], .bot, .bot, .bot, .bot, .bot, .bot, .bot, .bot, .bot], []⟩ _
  refine V_sreg [false, true, false, false, false, false, false, false, false, false] [8] (s1 := ⟨[.bot, .pt 8 0, .bot, .bot, .bot, .bot, .bot, .bot, .bot, .bot], [(8, .box [Ti f1.1, Ti f1.2.1, Ti f1.2.2])]⟩) ?_ ?_
  · refine XL_cons rfl (X_of_Y1 rfl (Y1_box (cs := [Ti f1.1, Ti f1.2.1, Ti f1.2.2]) rfl (by kernel_rfl))) ?_
    refine XL_cons rfl (X_of_Y0 rfl (E_assign (Bo false) rfl (by kernel_rfl))) ?_
    refine XL_nil ?_
    kernel_rfl
  obtain ⟨y2, hy2, h⟩ := of_bind h
  obtain ⟨b5, hb5, h⟩ := of_bind h
  refine V_sreg [false, false, true, false, false, false, false, false, false, false] [] (s1 := ⟨[.bot, .bot, Bo b5, .bot, .bot, .bot, .bot, .bot, .bot, .bot], []⟩) ?_ ?_
  · refine XL_cons rfl (X_of_Y0 rfl (E_loadn (cs := [Ti f1.1, Ti f1.2.1, Ti f1.2.2]) [Ti f1.1, Ti f1.2.1, Ti f1.2.2] wd36 rfl (by kernel_rfl) (Nat.le_of_ble_eq_true rfl) (by kernel_rfl))) ?_
    refine XL_cons rfl (X_of_Y1 rfl (Y1_call (s_impl_isShownForm hy2) cf_impl_isShownForm rfl (by kernel_rfl))) ?_
    refine XL_cons rfl (X_of_Y0 rfl (E_move (Bo y2) rfl (by kernel_rfl))) ?_
    refine XL_split y2 (fun hc3 => ?_) (fun hc3 => ?_)
    · have hb5 := of_true hb5 hc3
      obtain ⟨y4, hy4, hb5⟩ := of_bind hb5
      have hb5 := some_inj hb5
      refine XL_takeC (y2) rfl rfl (by kernel_rfl) hc3 (X_of_Y0 rfl (E_loadn (cs := [Ti f1.1, Ti f1.2.1, Ti f1.2.2]) [Ti f1.1, Ti f1.2.1, Ti f1.2.2] wd36 rfl (by kernel_rfl) (Nat.le_of_ble_eq_true rfl) (by kernel_rfl))) ?_
      refine XL_takeC (y2) rfl rfl (by kernel_rfl) hc3 (X_of_Y1 rfl (Y1_call (s_impl_Form_content hy4) cf_impl_Form_content rfl (by kernel_rfl))) ?_
      refine XL_takeC (y2) rfl rfl (by kernel_rfl) hc3 (X_of_Y0 rfl (Y0_eqw (k := .i64) (a := y4) (b := 1) rfl (by kernel_rfl) (by kernel_rfl))) ?_
      refine XL_cons rfl (X_of_Y0 rfl (Y0_pickTe (b := y2) (p := eqI y4 1) rfl (by kernel_rfl) hc3 (by kernel_rfl) hb5)) ?_
      refine XL_cons rfl (X_of_Y0 rfl (E_assign (Bo b5) rfl (by kernel_rfl))) ?_
      refine XL_nil ?_
      kernel_rfl
    · have hb5 := some_inj (of_false hb5 hc3)
      refine XL_skipT (y2) rfl rfl (by kernel_rfl) hc3 rfl ?_
      refine XL_skipT (y2) rfl rfl (by kernel_rfl) hc3 rfl ?_
      refine XL_skipT (y2) rfl rfl (by kernel_rfl) hc3 rfl ?_
      refine XL_cons rfl (X_of_Y0 rfl (Y0_pickFe (b := y2) (p := false) rfl (by kernel_rfl) hc3 (by kernel_rfl) hb5)) ?_
      refine XL_cons rfl (X_of_Y0 rfl (E_assign (Bo b5) rfl (by kernel_rfl))) ?_
      refine XL_nil ?_
      kernel_rfl
  refine V_ret ?_
  obtain rfl := some_inj h
  show Post _ _ _ _ _
  exact ⟨.inr rfl, rfl, rfl, rfl⟩
theorem cf_impl_LiftForms : ∀ args w, (callFunc 48 args).run Try.prog w = .ok (.enter 48 args) w := run_callFunc Try.func48 (by kernel_rfl) (by kernel_rfl)
set_option maxRecDepth 100000 in
set_option maxHeartbeats 400000 in
theorem s_impl_LiftForms {f1 : (Int × Int × Int)} {p2 : Int} {r : ((List ((Int × Int × Int))) × Bool)} (h : r_impl_LiftForms f1 p2 = some r) : CallS Try.prog 48 [.ag [Ti f1.1, Ti f1.2.1, Ti f1.2.2], I p2] (.tc (.ow 0) (.tc (Bo r.2) .tn)) [(0, .arr 36 3 (r.1.map c36))] := by
  refine CallS_of_text (rs := [.t 4, .t 5]) (vs := [.tmp 4, .tmp 5]) Try.func48 rfl rfl (.cons rfl (.cons rfl FitsL.nil)) (by decide) 21 rfl ?_
  unfold r_impl_LiftForms at h
  show V _ _ ⟨[.ag [Ti f1.1, Ti f1.2.1, Ti f1.2.2], I p2, .bot, .bot, .bot, .bot, .bot, .bot, .bot, .bot, .bot, .bot, .bot, .bot, .bot, .bot, .bot, .bot, .bot, .bot, .bot], []⟩ _
  refine V_sreg [false, true, true, false, false, false, false, false, false, false, false, false, false, false, false, false, false, false, false, false, false] [16] (s1 := ⟨[.bot, I p2, .pt 16 0, .bot, .bot, .bot, .bot, .bot, .bot, .bot, .bot, .bot, .bot, .bot, .bot, .bot, .bot, .bot, .bot, .bot, .bot], [(16, .box [Ti f1.1, Ti f1.2.1, Ti f1.2.2])]⟩) ?_ ?_
  · refine XL_cons rfl (X_of_Y1 rfl (Y1_box (cs := [Ti f1.1, Ti f1.2.1, Ti f1.2.2]) rfl (by kernel_rfl))) ?_
    refine XL_cons rfl (X_of_Y1 rfl (Y1_nil (e := 36) 3 (by decide) (.inl rfl))) ?_
    refine XL_cons rfl (X_of_Y0 rfl (E_assign (Bo false) rfl (by kernel_rfl))) ?_
    refine XL_nil ?_
    kernel_rfl
  refine V_seq ?_
  obtain ⟨y3, hy3, h⟩ := of_bind h
  obtain ⟨b7, hb7, h⟩ := of_bind h
  refine V_sreg [false, true, true, false, false, false, false, false, false, false, false, false, false, false, false, true, false, false, false, false, false] [16] (s1 := ⟨[.bot, I p2, .pt 16 0, .bot, .bot, .bot, .bot, .bot, .bot, .bot, .bot, .bot, .bot, .bot, .bot, Bo b7, .bot, .bot, .bot, .bot, .bot], [(16, .box [Ti f1.1, Ti f1.2.1, Ti f1.2.2])]⟩) ?_ ?_
  · refine XL_cons rfl (X_of_Y0 rfl (E_loadn (cs := [Ti f1.1, Ti f1.2.1, Ti f1.2.2]) [Ti f1.1, Ti f1.2.1, Ti f1.2.2] wd36 rfl (by kernel_rfl) (Nat.le_of_ble_eq_true rfl) (by kernel_rfl))) ?_
    refine XL_cons rfl (X_of_Y1 rfl (Y1_call (s_impl_isClassForm hy3) cf_impl_isClassForm rfl (by kernel_rfl))) ?_
    refine XL_cons rfl (X_of_Y0 rfl (Y0_not (b := y3) rfl (by kernel_rfl))) ?_
    refine XL_cons rfl (X_of_Y0 rfl (E_move (Bo (!y3)) rfl (by kernel_rfl))) ?_
    refine XL_split (!y3) (fun hc4 => ?_) (fun hc4 => ?_)
    · have hb7 := some_inj (of_true hb7 hc4)
      refine XL_skipF (!y3) rfl rfl (by kernel_rfl) hc4 rfl ?_
      refine XL_skipF (!y3) rfl rfl (by kernel_rfl) hc4 rfl ?_
      refine XL_skipF (!y3) rfl rfl (by kernel_rfl) hc4 rfl ?_
      refine XL_skipF (!y3) rfl rfl (by kernel_rfl) hc4 rfl ?_
      refine XL_skipF (!y3) rfl rfl (by kernel_rfl) hc4 rfl ?_
      refine XL_cons rfl (X_of_Y0 rfl (Y0_pickTe (b := !y3) (p := true) rfl (by kernel_rfl) hc4 (by kernel_rfl) hb7)) ?_
      refine XL_nil ?_
      kernel_rfl
    · have hb7 := of_false hb7 hc4
      obtain ⟨y5, hy5, hb7⟩ := of_bind hb7
      obtain ⟨y6, hy6, hb7⟩ := of_bind hb7
      have hb7 := some_inj hb7
      refine XL_takeC (!y3) rfl rfl (by kernel_rfl) hc4 (X_of_Y0 rfl (E_loadn (cs := [Ti f1.1, Ti f1.2.1, Ti f1.2.2]) [Ti f1.1, Ti f1.2.1, Ti f1.2.2] wd36 rfl (by kernel_rfl) (Nat.le_of_ble_eq_true rfl) (by kernel_rfl))) ?_
      refine XL_takeC (!y3) rfl rfl (by kernel_rfl) hc4 (X_of_Y1 rfl (Y1_call (s_impl_Form_disc hy5) cf_impl_Form_disc rfl (by kernel_rfl))) ?_
      refine XL_takeC (!y3) rfl rfl (by kernel_rfl) hc4 (X_of_Y0 rfl (E_move (I p2) rfl (by kernel_rfl))) ?_
      refine XL_takeC (!y3) rfl rfl (by kernel_rfl) hc4 (X_of_Y1 rfl (Y1_call (s_impl_canRise hy6) cf_impl_canRise rfl (by kernel_rfl))) ?_
      refine XL_takeC (!y3) rfl rfl (by kernel_rfl) hc4 (X_of_Y0 rfl (Y0_not (b := y6) rfl (by kernel_rfl))) ?_
      refine XL_cons rfl (X_of_Y0 rfl (Y0_pickFe (b := !y3) (p := !y6) rfl (by kernel_rfl) hc4 (by kernel_rfl) hb7)) ?_
      refine XL_nil ?_
      kernel_rfl
  refine V_cond rfl (fun hc8 => ?_) (fun hc8 => ?_)
  · have h := of_true h hc8
    refine V_sreg [false, false, false, false, true, true, false, false, false, false, false, false, false, false, false, false, false, false, false, false, false] [128] (s1 := ⟨[.bot, .bot, .bot, .bot, .ow 128, Bo false, .bot, .bot, .bot, .bot, .bot, .bot, .bot, .bot, .bot, .bot, .bot, .bot, .bot, .bot, .bot], [(128, .arr 36 3 ((([] : List ((Int × Int × Int)))).map c36))]⟩) ?_ ?_
    · refine XL_cons rfl (X_of_Y1 rfl (Y1_bslice0 Try.underlying53 sz36 (by decide) rfl rfl)) ?_
      refine XL_cons rfl (X_of_Y0 rfl (E_assign (.ow 128) rfl (by kernel_rfl))) ?_
      refine XL_cons rfl (X_of_Y0 rfl (E_assign (Bo false) rfl (by kernel_rfl))) ?_
      refine XL_nil ?_
      kernel_rfl
    refine V_ret ?_
    obtain rfl := some_inj h
    show Post _ _ _ _ _
    exact ⟨.inr rfl, rfl, rfl, rfl⟩
  · have h := of_false h hc8
    refine V_skip ?_
    show V _ _ _ _
    obtain ⟨y9, hy9, h⟩ := of_bind h
    obtain ⟨y10, hy10, h⟩ := of_bind h
    refine V_sreg [false, false, false, false, true, true, false, false, false, false, false, false, false, false, false, false, false, false, false, false, false] [160] (s1 := ⟨[.bot, .bot, .bot, .bot, .ow 160, Bo true, .bot, .bot, .bot, .bot, .bot, .bot, .bot, .bot, .bot, .bot, .bot, .bot, .bot, .bot, .bot], [(160, .arr 36 3 (y10.map c36))]⟩) ?_ ?_
    · refine XL_cons rfl (X_of_Y0 rfl (E_loadn (cs := [Ti f1.1, Ti f1.2.1, Ti f1.2.2]) [Ti f1.1, Ti f1.2.1, Ti f1.2.2] wd36 rfl (by kernel_rfl) (Nat.le_of_ble_eq_true rfl) (by kernel_rfl))) ?_
      refine XL_cons rfl (X_of_Y1 rfl (Y1_call (s_impl_reduced hy9) cf_impl_reduced rfl (by kernel_rfl))) ?_
      refine XL_cons rfl (X_of_Y0 rfl (E_move (I p2) rfl (by kernel_rfl))) ?_
      refine XL_cons rfl (X_of_Y1 rfl (Y1_call (s_impl_above hy10) cf_impl_above rfl (by kernel_rfl))) ?_
      refine XL_cons rfl (X_of_Y0 rfl (E_assign (.ow 160) rfl (by kernel_rfl))) ?_
      refine XL_cons rfl (X_of_Y0 rfl (E_assign (Bo true) rfl (by kernel_rfl))) ?_
      refine XL_nil ?_
      kernel_rfl
    refine V_ret ?_
    obtain rfl := some_inj h
    show Post _ _ _ _ _
    exact ⟨.inr rfl, rfl, rfl, rfl⟩
end Go.Proofs.Ytdffhgibkeifmaa
