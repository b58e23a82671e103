/-
  The functions of the program compute what the plain functions say: more of them.
  Conditions: none.
-/
import Derived.Test.YtgeajejmikaniaaLaSnd1
namespace Go.Proofs.Ytgeajejmikaniaa
open Go.RowKit
set_option linter.unusedVariables false
set_option linter.unusedSimpArgs false
theorem cf_impl_SumOfLattices : ∀ args w, (callFunc 12 args).run Try.prog w = .ok (.enter 12 args) w := run_callFunc Try.func12 (by kernel_rfl) (by kernel_rfl)
set_option maxRecDepth 100000 in
set_option maxHeartbeats 400000 in
theorem s_impl_SumOfLattices {a1 : (Int × Int × Int)} {b2 : (Int × Int × Int)} {r : (((Int × Int × Int)) × Bool)} (h : r_impl_SumOfLattices a1 b2 = some r) : CallS Try.prog 12 [.ag [Ti a1.1, Ti a1.2.1, Ti a1.2.2], .ag [Ti b2.1, Ti b2.2.1, Ti b2.2.2]] (.tc (.ag [Ti r.1.1, Ti r.1.2.1, Ti r.1.2.2]) (.tc (Bo r.2) .tn)) [] := by
  refine CallS_of_text (rs := [.w 4 3, .t 5]) (vs := [.cell 4 25, .tmp 5]) Try.func12 rfl rfl (.cons ⟨rfl, wd25⟩ (.cons rfl FitsL.nil)) (by decide) 23 rfl ?_
  unfold r_impl_SumOfLattices at h
  show V _ _ ⟨.ag [Ti a1.1, Ti a1.2.1, Ti a1.2.2] :: .ag [Ti b2.1, Ti b2.2.1, Ti b2.2.2] :: bt 21 [], []⟩ _
  refine V_sreg (mb 23 28) [32, 24, 16] (s1 := ⟨.bot :: .bot :: .pt 16 0 :: .pt 24 0 :: .pt 32 0 :: bt 18 [], [(32, .box [Ti 0, Ti 0, Ti 0]), (24, .box [Ti b2.1, Ti b2.2.1, Ti b2.2.2]), (16, .box [Ti a1.1, Ti a1.2.1, Ti a1.2.2])]⟩) ?_ ?_
  ·refine L1 rfl rfl (Y1_box (cs := [Ti a1.1, Ti a1.2.1, Ti a1.2.2]) rfl (by kernel_rfl)) ?_
   refine L1 rfl rfl (Y1_box (cs := [Ti b2.1, Ti b2.2.1, Ti b2.2.2]) rfl (by kernel_rfl)) ?_
   refine L1 rfl rfl (Y1_alloc (z := zv25) rfl zf25 rfl) ?_
   refine L0 rfl rfl (E_assign (Bo false) rfl (by kernel_rfl)) ?_
   refine XL_nil ?_
   kernel_rfl
  refine V_seq ?_
  obtain ⟨y3, hy3, h⟩ := of_bind h
  obtain ⟨b6, hb6, h⟩ := of_bind h
  refine V_sreg (mb 23 8220) [32, 24, 16] (s1 := ⟨.bot :: .bot :: .pt 16 0 :: .pt 24 0 :: .pt 32 0 :: bt 8 (Bo b6 :: bt 9 []), [(32, .box [Ti 0, Ti 0, Ti 0]), (24, .box [Ti b2.1, Ti b2.2.1, Ti b2.2.2]), (16, .box [Ti a1.1, Ti a1.2.1, Ti a1.2.2])]⟩) ?_ ?_
  ·refine L0 rfl rfl (E_loadn (cs := [Ti a1.1, Ti a1.2.1, Ti a1.2.2]) [Ti a1.1, Ti a1.2.1, Ti a1.2.2] wd25 rfl (by kernel_rfl) (Nat.le_of_ble_eq_true rfl) (by kernel_rfl)) ?_
   refine L1 rfl rfl (Y1_call (s_impl_isLattice hy3) cf_impl_isLattice rfl (by kernel_rfl)) ?_
   refine L0 rfl rfl (Y0_not (b := y3) rfl (by kernel_rfl)) ?_
   refine L0 rfl rfl (E_move (Bo (!y3)) rfl (by kernel_rfl)) ?_
   refine XL_split (!y3) (fun hc4 => ?_) (fun hc4 => ?_)
   ·have hb6 := some_inj (of_true hb6 hc4)
    refine XL_skipF _ rfl rfl (by kernel_rfl) hc4 rfl ?_
    refine XL_skipF _ rfl rfl (by kernel_rfl) hc4 rfl ?_
    refine XL_skipF _ rfl rfl (by kernel_rfl) hc4 rfl ?_
    refine XL_cons rfl (X_of_Y0 rfl (Y0_pickTe (b := !y3) (p := true) rfl (by kernel_rfl) hc4 (by kernel_rfl) hb6)) ?_
    refine XL_nil ?_
    kernel_rfl
   ·have hb6 := of_false hb6 hc4
    obtain ⟨y5, hy5, hb6⟩ := of_bind hb6
    have hb6 := some_inj hb6
    refine XL_takeC _ rfl rfl (by kernel_rfl) hc4 (X_of_Y0 rfl (E_loadn (cs := [Ti b2.1, Ti b2.2.1, Ti b2.2.2]) [Ti b2.1, Ti b2.2.1, Ti b2.2.2] wd25 rfl (by kernel_rfl) (Nat.le_of_ble_eq_true rfl) (by kernel_rfl))) ?_
    refine XL_takeC _ rfl rfl (by kernel_rfl) hc4 (X_of_Y1 rfl (Y1_call (s_impl_isLattice hy5) cf_impl_isLattice rfl (by kernel_rfl))) ?_
    refine XL_takeC _ rfl rfl (by kernel_rfl) hc4 (X_of_Y0 rfl (Y0_not (b := y5) rfl (by kernel_rfl))) ?_
    refine XL_cons rfl (X_of_Y0 rfl (Y0_pickFe (b := !y3) (p := !y5) rfl (by kernel_rfl) hc4 (by kernel_rfl) hb6)) ?_
    refine XL_nil ?_
    kernel_rfl
  refine V_cond rfl (fun hc7 => ?_) (fun hc7 => ?_)
  ·have h := of_true h hc7
   refine V_sreg (mb 23 48) [32] (s1 := ⟨bt 4 (.pt 32 0 :: Bo false :: bt 17 []), [(32, .box [Ti 0, Ti 0, Ti 0])]⟩) ?_ ?_
   ·refine L0 rfl rfl (Y0_build (cs := [Ti 0, Ti 0, Ti 0]) pl25 bt25 rfl rfl (by kernel_rfl)) ?_
    refine XL_cons rfl (E_store (id := 32) (off := 0) (cs := [Ti 0, Ti 0, Ti 0]) (vc := [Ti 0, Ti 0, Ti 0]) [Ti 0, Ti 0, Ti 0] rfl rfl (by kernel_rfl) (by kernel_rfl) (by kernel_rfl) sz25 (Nat.le_of_ble_eq_true rfl) (by kernel_rfl)) ?_
    refine L0 rfl rfl (E_assign (Bo false) rfl (by kernel_rfl)) ?_
    refine XL_nil ?_
    kernel_rfl
   refine V_ret ?_
   obtain rfl := some_inj h
   show Post _ _ _ _ _
   exact ⟨.inr rfl, rfl, rfl, rfl⟩
  ·have h := of_false h hc7
   refine V_skip ?_
   show V _ _ _ _
   obtain ⟨y8, hy8, h⟩ := of_bind h
   obtain ⟨y9, hy9, h⟩ := of_bind h
   obtain ⟨u10, hu10, h⟩ := of_bind h
   obtain ⟨y11, hy11, h⟩ := of_bind h
   refine V_sdagK (mb 23 48) [32] [0, 1, 0, 7, 15, 31, 63, 63, 255, 511] [(0, ⟨.bot :: .bot :: .pt 16 0 :: .pt 24 0 :: .pt 32 0 :: bt 8 (Bo b6 :: bt 9 []), [(32, .box [Ti 0, Ti 0, Ti 0]), (24, .box [Ti b2.1, Ti b2.2.1, Ti b2.2.2]), (16, .box [Ti a1.1, Ti a1.2.1, Ti a1.2.2])]⟩), (1, ⟨.bot :: .bot :: .pt 16 0 :: .pt 24 0 :: .pt 32 0 :: bt 8 (Bo b6 :: .bot :: .ag [Ti a1.1, Ti a1.2.1, Ti a1.2.2] :: bt 7 []), [(32, .box [Ti 0, Ti 0, Ti 0]), (24, .box [Ti b2.1, Ti b2.2.1, Ti b2.2.2]), (16, .box [Ti a1.1, Ti a1.2.1, Ti a1.2.2])]⟩), (3, ⟨.bot :: .bot :: .pt 16 0 :: .pt 24 0 :: .pt 32 0 :: bt 8 (Bo b6 :: .bot :: .ag [Ti a1.1, Ti a1.2.1, Ti a1.2.2] :: .ow 128 :: bt 6 []), [(128, .arr 123 2 (y8.map c123)), (32, .box [Ti 0, Ti 0, Ti 0]), (24, .box [Ti b2.1, Ti b2.2.1, Ti b2.2.2]), (16, .box [Ti a1.1, Ti a1.2.1, Ti a1.2.2])]⟩), (4, ⟨.bot :: .bot :: .pt 16 0 :: .pt 24 0 :: .pt 32 0 :: bt 8 (Bo b6 :: bt 3 (.ag [Ti b2.1, Ti b2.2.1, Ti b2.2.2] :: bt 5 [])), [(32, .box [Ti 0, Ti 0, Ti 0]), (24, .box [Ti b2.1, Ti b2.2.1, Ti b2.2.2]), (16, .box [Ti a1.1, Ti a1.2.1, Ti a1.2.2])]⟩), (5, ⟨.bot :: .bot :: .pt 16 0 :: .pt 24 0 :: .pt 32 0 :: bt 8 (Bo b6 :: .bot :: .ag [Ti a1.1, Ti a1.2.1, Ti a1.2.2] :: .bot :: .ag [Ti b2.1, Ti b2.2.1, Ti b2.2.2] :: bt 5 []), [(32, .box [Ti 0, Ti 0, Ti 0]), (24, .box [Ti b2.1, Ti b2.2.1, Ti b2.2.2]), (16, .box [Ti a1.1, Ti a1.2.1, Ti a1.2.2])]⟩), (7, ⟨.bot :: .bot :: .pt 16 0 :: .pt 24 0 :: .pt 32 0 :: bt 8 (Bo b6 :: .bot :: .ag [Ti a1.1, Ti a1.2.1, Ti a1.2.2] :: .ow 128 :: .ag [Ti b2.1, Ti b2.2.1, Ti b2.2.2] :: bt 5 []), [(128, .arr 123 2 (y8.map c123)), (32, .box [Ti 0, Ti 0, Ti 0]), (24, .box [Ti b2.1, Ti b2.2.1, Ti b2.2.2]), (16, .box [Ti a1.1, Ti a1.2.1, Ti a1.2.2])]⟩), (15, ⟨.bot :: .bot :: .pt 16 0 :: .pt 24 0 :: .pt 32 0 :: bt 8 (Bo b6 :: .bot :: .ag [Ti a1.1, Ti a1.2.1, Ti a1.2.2] :: .ow 128 :: .ag [Ti b2.1, Ti b2.2.1, Ti b2.2.2] :: .ow 144 :: bt 4 []), [(144, .arr 123 2 (y9.map c123)), (128, .arr 123 2 (y8.map c123)), (32, .box [Ti 0, Ti 0, Ti 0]), (24, .box [Ti b2.1, Ti b2.2.1, Ti b2.2.2]), (16, .box [Ti a1.1, Ti a1.2.1, Ti a1.2.2])]⟩), (31, ⟨.bot :: .bot :: .pt 16 0 :: .pt 24 0 :: .pt 32 0 :: bt 8 (Bo b6 :: .bot :: .ag [Ti a1.1, Ti a1.2.1, Ti a1.2.2] :: .bot :: .ag [Ti b2.1, Ti b2.2.1, Ti b2.2.2] :: .ow 144 :: .ow 128 :: bt 3 []), [(144, .arr 123 2 (y9.map c123)), (128, .arr 123 2 ((y8 ++ y9).map c123)), (32, .box [Ti 0, Ti 0, Ti 0]), (24, .box [Ti b2.1, Ti b2.2.1, Ti b2.2.2]), (16, .box [Ti a1.1, Ti a1.2.1, Ti a1.2.2])]⟩), (63, ⟨.bot :: .bot :: .pt 16 0 :: .pt 24 0 :: .pt 32 0 :: bt 8 (Bo b6 :: .bot :: .ag [Ti a1.1, Ti a1.2.1, Ti a1.2.2] :: .bot :: .ag [Ti b2.1, Ti b2.2.1, Ti b2.2.2] :: .ow 144 :: .ow 128 :: .tc (.ag [Ti y11.1.1, Ti y11.1.2.1, Ti y11.1.2.2]) (.tc (Bo y11.2) .tn) :: .bot :: .bot :: []), [(144, .arr 123 2 (y9.map c123)), (128, .arr 123 2 ((y8 ++ y9).map c123)), (32, .box [Ti 0, Ti 0, Ti 0]), (24, .box [Ti b2.1, Ti b2.2.1, Ti b2.2.2]), (16, .box [Ti a1.1, Ti a1.2.1, Ti a1.2.2])]⟩), (127, ⟨.bot :: .bot :: .pt 16 0 :: .pt 24 0 :: .pt 32 0 :: bt 8 (Bo b6 :: .bot :: .ag [Ti a1.1, Ti a1.2.1, Ti a1.2.2] :: .bot :: .ag [Ti b2.1, Ti b2.2.1, Ti b2.2.2] :: .ow 144 :: .ow 128 :: .tc (.ag [Ti y11.1.1, Ti y11.1.2.1, Ti y11.1.2.2]) (.tc (Bo y11.2) .tn) :: .ag [Ti y11.1.1, Ti y11.1.2.1, Ti y11.1.2.2] :: .bot :: []), [(144, .arr 123 2 (y9.map c123)), (128, .arr 123 2 ((y8 ++ y9).map c123)), (32, .box [Ti 0, Ti 0, Ti 0]), (24, .box [Ti b2.1, Ti b2.2.1, Ti b2.2.2]), (16, .box [Ti a1.1, Ti a1.2.1, Ti a1.2.2])]⟩), (191, ⟨.bot :: .bot :: .pt 16 0 :: .pt 24 0 :: .pt 32 0 :: bt 8 (Bo b6 :: .bot :: .ag [Ti a1.1, Ti a1.2.1, Ti a1.2.2] :: .bot :: .ag [Ti b2.1, Ti b2.2.1, Ti b2.2.2] :: .ow 144 :: .ow 128 :: .tc (.ag [Ti y11.1.1, Ti y11.1.2.1, Ti y11.1.2.2]) (.tc (Bo y11.2) .tn) :: .bot :: Bo y11.2 :: []), [(144, .arr 123 2 (y9.map c123)), (128, .arr 123 2 ((y8 ++ y9).map c123)), (32, .box [Ti 0, Ti 0, Ti 0]), (24, .box [Ti b2.1, Ti b2.2.1, Ti b2.2.2]), (16, .box [Ti a1.1, Ti a1.2.1, Ti a1.2.2])]⟩), (255, ⟨.bot :: .bot :: .pt 16 0 :: .pt 24 0 :: .pt 32 0 :: bt 8 (Bo b6 :: .bot :: .ag [Ti a1.1, Ti a1.2.1, Ti a1.2.2] :: .bot :: .ag [Ti b2.1, Ti b2.2.1, Ti b2.2.2] :: .ow 144 :: .ow 128 :: .tc (.ag [Ti y11.1.1, Ti y11.1.2.1, Ti y11.1.2.2]) (.tc (Bo y11.2) .tn) :: .ag [Ti y11.1.1, Ti y11.1.2.1, Ti y11.1.2.2] :: Bo y11.2 :: []), [(144, .arr 123 2 (y9.map c123)), (128, .arr 123 2 ((y8 ++ y9).map c123)), (32, .box [Ti 0, Ti 0, Ti 0]), (24, .box [Ti b2.1, Ti b2.2.1, Ti b2.2.2]), (16, .box [Ti a1.1, Ti a1.2.1, Ti a1.2.2])]⟩), (511, ⟨.bot :: .bot :: .pt 16 0 :: .pt 24 0 :: .pt 32 0 :: bt 8 (Bo b6 :: .bot :: .ag [Ti a1.1, Ti a1.2.1, Ti a1.2.2] :: .bot :: .ag [Ti b2.1, Ti b2.2.1, Ti b2.2.2] :: .ow 144 :: .ow 128 :: .tc (.ag [Ti y11.1.1, Ti y11.1.2.1, Ti y11.1.2.2]) (.tc (Bo y11.2) .tn) :: .ag [Ti y11.1.1, Ti y11.1.2.1, Ti y11.1.2.2] :: Bo y11.2 :: []), [(144, .arr 123 2 (y9.map c123)), (128, .arr 123 2 ((y8 ++ y9).map c123)), (32, .box [Ti y11.1.1, Ti y11.1.2.1, Ti y11.1.2.2]), (24, .box [Ti b2.1, Ti b2.2.1, Ti b2.2.2]), (16, .box [Ti a1.1, Ti a1.2.1, Ti a1.2.2])]⟩), (1023, ⟨.bot :: .bot :: .pt 16 0 :: .pt 24 0 :: .pt 32 0 :: Bo y11.2 :: bt 7 (Bo b6 :: .bot :: .ag [Ti a1.1, Ti a1.2.1, Ti a1.2.2] :: .bot :: .ag [Ti b2.1, Ti b2.2.1, Ti b2.2.2] :: .ow 144 :: .ow 128 :: .tc (.ag [Ti y11.1.1, Ti y11.1.2.1, Ti y11.1.2.2]) (.tc (Bo y11.2) .tn) :: .ag [Ti y11.1.1, Ti y11.1.2.1, Ti y11.1.2.2] :: Bo y11.2 :: []), [(144, .arr 123 2 (y9.map c123)), (128, .arr 123 2 ((y8 ++ y9).map c123)), (32, .box [Ti y11.1.1, Ti y11.1.2.1, Ti y11.1.2.2]), (24, .box [Ti b2.1, Ti b2.2.1, Ti b2.2.2]), (16, .box [Ti a1.1, Ti a1.2.1, Ti a1.2.2])]⟩)] (s1 := ⟨bt 4 (.pt 32 0 :: Bo y11.2 :: bt 17 []), [(32, .box [Ti y11.1.1, Ti y11.1.2.1, Ti y11.1.2.2])]⟩) (by kernel_rfl) (by kernel_rfl) (by kernel_rfl) ?_ ?_
   ·refine tab_row [2, 0] (by kernel_rfl) (by kernel_rfl) ?_ ?_
    ·refine step_cons (s2 := ⟨.bot :: .bot :: .pt 16 0 :: .pt 24 0 :: .pt 32 0 :: bt 8 (Bo b6 :: bt 3 (.ag [Ti b2.1, Ti b2.2.1, Ti b2.2.2] :: bt 5 [])), [(32, .box [Ti 0, Ti 0, Ti 0]), (24, .box [Ti b2.1, Ti b2.2.1, Ti b2.2.2]), (16, .box [Ti a1.1, Ti a1.2.1, Ti a1.2.2])]⟩) rfl rfl (X_of_Y0 rfl (E_loadn (cs := [Ti b2.1, Ti b2.2.1, Ti b2.2.2]) [Ti b2.1, Ti b2.2.1, Ti b2.2.2] wd25 rfl (by kernel_rfl) (Nat.le_of_ble_eq_true rfl) (by kernel_rfl))) (by kernel_rfl) rfl (hE_cons (by kernel_rfl) (hE_cons (by kernel_rfl) (hE_cons (by kernel_rfl) hE_nil))) ?_
     refine step_cons (s2 := ⟨.bot :: .bot :: .pt 16 0 :: .pt 24 0 :: .pt 32 0 :: bt 8 (Bo b6 :: .bot :: .ag [Ti a1.1, Ti a1.2.1, Ti a1.2.2] :: bt 7 []), [(32, .box [Ti 0, Ti 0, Ti 0]), (24, .box [Ti b2.1, Ti b2.2.1, Ti b2.2.2]), (16, .box [Ti a1.1, Ti a1.2.1, Ti a1.2.2])]⟩) rfl rfl (X_of_Y0 rfl (E_loadn (cs := [Ti a1.1, Ti a1.2.1, Ti a1.2.2]) [Ti a1.1, Ti a1.2.1, Ti a1.2.2] wd25 rfl (by kernel_rfl) (Nat.le_of_ble_eq_true rfl) (by kernel_rfl))) (by kernel_rfl) rfl (hE_cons (by kernel_rfl) (hE_cons (by kernel_rfl) (hE_cons (by kernel_rfl) hE_nil))) ?_
     exact step_nil
    refine tab_row [2, 1] (by kernel_rfl) (by kernel_rfl) ?_ ?_
    ·refine step_cons (s2 := ⟨.bot :: .bot :: .pt 16 0 :: .pt 24 0 :: .pt 32 0 :: bt 8 (Bo b6 :: .bot :: .ag [Ti a1.1, Ti a1.2.1, Ti a1.2.2] :: .bot :: .ag [Ti b2.1, Ti b2.2.1, Ti b2.2.2] :: bt 5 []), [(32, .box [Ti 0, Ti 0, Ti 0]), (24, .box [Ti b2.1, Ti b2.2.1, Ti b2.2.2]), (16, .box [Ti a1.1, Ti a1.2.1, Ti a1.2.2])]⟩) rfl rfl (X_of_Y0 rfl (E_loadn (cs := [Ti b2.1, Ti b2.2.1, Ti b2.2.2]) [Ti b2.1, Ti b2.2.1, Ti b2.2.2] wd25 rfl (by kernel_rfl) (Nat.le_of_ble_eq_true rfl) (by kernel_rfl))) (by kernel_rfl) rfl (hE_cons (by kernel_rfl) (hE_cons (by kernel_rfl) (hE_cons (by kernel_rfl) hE_nil))) ?_
     refine step_cons (s2 := ⟨.bot :: .bot :: .pt 16 0 :: .pt 24 0 :: .pt 32 0 :: bt 8 (Bo b6 :: .bot :: .ag [Ti a1.1, Ti a1.2.1, Ti a1.2.2] :: .ow 128 :: bt 6 []), [(128, .arr 123 2 (y8.map c123)), (32, .box [Ti 0, Ti 0, Ti 0]), (24, .box [Ti b2.1, Ti b2.2.1, Ti b2.2.2]), (16, .box [Ti a1.1, Ti a1.2.1, Ti a1.2.2])]⟩) rfl rfl (X_of_Y1 rfl (Y1_call (s_impl_Lattice_basis hy8) cf_impl_Lattice_basis rfl (by kernel_rfl))) (by kernel_rfl) rfl (hE_cons (by kernel_rfl) (hE_cons (by kernel_rfl) (hE_cons (by kernel_rfl) (hE_cons (by kernel_rfl) hE_nil)))) ?_
     exact step_nil
    refine tab_row [2] (by kernel_rfl) (by kernel_rfl) ?_ ?_
    ·refine step_cons (s2 := ⟨.bot :: .bot :: .pt 16 0 :: .pt 24 0 :: .pt 32 0 :: bt 8 (Bo b6 :: .bot :: .ag [Ti a1.1, Ti a1.2.1, Ti a1.2.2] :: .ow 128 :: .ag [Ti b2.1, Ti b2.2.1, Ti b2.2.2] :: bt 5 []), [(128, .arr 123 2 (y8.map c123)), (32, .box [Ti 0, Ti 0, Ti 0]), (24, .box [Ti b2.1, Ti b2.2.1, Ti b2.2.2]), (16, .box [Ti a1.1, Ti a1.2.1, Ti a1.2.2])]⟩) rfl rfl (X_of_Y0 rfl (E_loadn (cs := [Ti b2.1, Ti b2.2.1, Ti b2.2.2]) [Ti b2.1, Ti b2.2.1, Ti b2.2.2] wd25 rfl (by kernel_rfl) (Nat.le_of_ble_eq_true rfl) (by kernel_rfl))) (by kernel_rfl) rfl (hE_cons (by kernel_rfl) (hE_cons (by kernel_rfl) (hE_cons (by kernel_rfl) (hE_cons (by kernel_rfl) hE_nil)))) ?_
     exact step_nil
    refine tab_row [0] (by kernel_rfl) (by kernel_rfl) ?_ ?_
    ·refine step_cons (s2 := ⟨.bot :: .bot :: .pt 16 0 :: .pt 24 0 :: .pt 32 0 :: bt 8 (Bo b6 :: .bot :: .ag [Ti a1.1, Ti a1.2.1, Ti a1.2.2] :: .bot :: .ag [Ti b2.1, Ti b2.2.1, Ti b2.2.2] :: bt 5 []), [(32, .box [Ti 0, Ti 0, Ti 0]), (24, .box [Ti b2.1, Ti b2.2.1, Ti b2.2.2]), (16, .box [Ti a1.1, Ti a1.2.1, Ti a1.2.2])]⟩) rfl rfl (X_of_Y0 rfl (E_loadn (cs := [Ti a1.1, Ti a1.2.1, Ti a1.2.2]) [Ti a1.1, Ti a1.2.1, Ti a1.2.2] wd25 rfl (by kernel_rfl) (Nat.le_of_ble_eq_true rfl) (by kernel_rfl))) (by kernel_rfl) rfl (hE_cons (by kernel_rfl) (hE_cons (by kernel_rfl) (hE_cons (by kernel_rfl) hE_nil))) ?_
     exact step_nil
    refine tab_row [1] (by kernel_rfl) (by kernel_rfl) ?_ ?_
    ·refine step_cons (s2 := ⟨.bot :: .bot :: .pt 16 0 :: .pt 24 0 :: .pt 32 0 :: bt 8 (Bo b6 :: .bot :: .ag [Ti a1.1, Ti a1.2.1, Ti a1.2.2] :: .ow 128 :: .ag [Ti b2.1, Ti b2.2.1, Ti b2.2.2] :: bt 5 []), [(128, .arr 123 2 (y8.map c123)), (32, .box [Ti 0, Ti 0, Ti 0]), (24, .box [Ti b2.1, Ti b2.2.1, Ti b2.2.2]), (16, .box [Ti a1.1, Ti a1.2.1, Ti a1.2.2])]⟩) rfl rfl (X_of_Y1 rfl (Y1_call (s_impl_Lattice_basis hy8) cf_impl_Lattice_basis rfl (by kernel_rfl))) (by kernel_rfl) rfl (hE_cons (by kernel_rfl) (hE_cons (by kernel_rfl) (hE_cons (by kernel_rfl) (hE_cons (by kernel_rfl) hE_nil)))) ?_
     exact step_nil
    refine tab_row [3] (by kernel_rfl) (by kernel_rfl) ?_ ?_
    ·refine step_cons (s2 := ⟨.bot :: .bot :: .pt 16 0 :: .pt 24 0 :: .pt 32 0 :: bt 8 (Bo b6 :: .bot :: .ag [Ti a1.1, Ti a1.2.1, Ti a1.2.2] :: .ow 128 :: .ag [Ti b2.1, Ti b2.2.1, Ti b2.2.2] :: .ow 144 :: bt 4 []), [(144, .arr 123 2 (y9.map c123)), (128, .arr 123 2 (y8.map c123)), (32, .box [Ti 0, Ti 0, Ti 0]), (24, .box [Ti b2.1, Ti b2.2.1, Ti b2.2.2]), (16, .box [Ti a1.1, Ti a1.2.1, Ti a1.2.2])]⟩) rfl rfl (X_of_Y1 rfl (Y1_call (s_impl_Lattice_basis hy9) cf_impl_Lattice_basis rfl (by kernel_rfl))) (by kernel_rfl) rfl (hE_cons (by kernel_rfl) (hE_cons (by kernel_rfl) (hE_cons (by kernel_rfl) (hE_cons (by kernel_rfl) (hE_cons (by kernel_rfl) hE_nil))))) ?_
     exact step_nil
    refine tab_row [4] (by kernel_rfl) (by kernel_rfl) ?_ ?_
    ·refine step_cons (s2 := ⟨.bot :: .bot :: .pt 16 0 :: .pt 24 0 :: .pt 32 0 :: bt 8 (Bo b6 :: .bot :: .ag [Ti a1.1, Ti a1.2.1, Ti a1.2.2] :: .bot :: .ag [Ti b2.1, Ti b2.2.1, Ti b2.2.2] :: .ow 144 :: .ow 128 :: bt 3 []), [(144, .arr 123 2 (y9.map c123)), (128, .arr 123 2 ((y8 ++ y9).map c123)), (32, .box [Ti 0, Ti 0, Ti 0]), (24, .box [Ti b2.1, Ti b2.2.1, Ti b2.2.2]), (16, .box [Ti a1.1, Ti a1.2.1, Ti a1.2.2])]⟩) rfl rfl (X_appendA (c := c123) (xs := y8) (ys := y9) (id := 128) (z := zv123) rfl rfl Try.underlying81 izb123 rfl (by kernel_rfl) (by kernel_rfl) (by kernel_rfl) (fun _ => rfl) (room_some hu10) (by decide)) (by kernel_rfl) rfl (hE_cons (by kernel_rfl) (hE_cons (by kernel_rfl) (hE_cons (by kernel_rfl) (hE_cons (by kernel_rfl) (hE_cons (by kernel_rfl) hE_nil))))) ?_
     exact step_nil
    refine tab_row [5] (by kernel_rfl) (by kernel_rfl) ?_ ?_
    ·refine step_cons (s2 := ⟨.bot :: .bot :: .pt 16 0 :: .pt 24 0 :: .pt 32 0 :: bt 8 (Bo b6 :: .bot :: .ag [Ti a1.1, Ti a1.2.1, Ti a1.2.2] :: .bot :: .ag [Ti b2.1, Ti b2.2.1, Ti b2.2.2] :: .ow 144 :: .ow 128 :: .tc (.ag [Ti y11.1.1, Ti y11.1.2.1, Ti y11.1.2.2]) (.tc (Bo y11.2) .tn) :: .bot :: .bot :: []), [(144, .arr 123 2 (y9.map c123)), (128, .arr 123 2 ((y8 ++ y9).map c123)), (32, .box [Ti 0, Ti 0, Ti 0]), (24, .box [Ti b2.1, Ti b2.2.1, Ti b2.2.2]), (16, .box [Ti a1.1, Ti a1.2.1, Ti a1.2.2])]⟩) rfl rfl (X_of_Y1 rfl (Y1_callS (s_impl_latticeOf hy11) cf_impl_latticeOf rfl (by kernel_rfl) rfl rfl)) (by kernel_rfl) rfl (hE_cons (by kernel_rfl) (hE_cons (by kernel_rfl) (hE_cons (by kernel_rfl) (hE_cons (by kernel_rfl) (hE_cons (by kernel_rfl) hE_nil))))) ?_
     exact step_nil
    refine tab_row [7, 6] (by kernel_rfl) (by kernel_rfl) ?_ ?_
    ·refine step_cons (s2 := ⟨.bot :: .bot :: .pt 16 0 :: .pt 24 0 :: .pt 32 0 :: bt 8 (Bo b6 :: .bot :: .ag [Ti a1.1, Ti a1.2.1, Ti a1.2.2] :: .bot :: .ag [Ti b2.1, Ti b2.2.1, Ti b2.2.2] :: .ow 144 :: .ow 128 :: .tc (.ag [Ti y11.1.1, Ti y11.1.2.1, Ti y11.1.2.2]) (.tc (Bo y11.2) .tn) :: .bot :: Bo y11.2 :: []), [(144, .arr 123 2 (y9.map c123)), (128, .arr 123 2 ((y8 ++ y9).map c123)), (32, .box [Ti 0, Ti 0, Ti 0]), (24, .box [Ti b2.1, Ti b2.2.1, Ti b2.2.2]), (16, .box [Ti a1.1, Ti a1.2.1, Ti a1.2.2])]⟩) rfl rfl (X_of_Y0 rfl (E_ext (n := 1) (.ag [Ti y11.1.1, Ti y11.1.2.1, Ti y11.1.2.2]) (.tc (Bo y11.2) .tn) (Bo y11.2) rfl (by kernel_rfl) (by kernel_rfl) (by intro hh; cases hh))) (by kernel_rfl) rfl (hE_cons (by kernel_rfl) (hE_cons (by kernel_rfl) (hE_cons (by kernel_rfl) (hE_cons (by kernel_rfl) (hE_cons (by kernel_rfl) hE_nil))))) ?_
     refine step_cons (s2 := ⟨.bot :: .bot :: .pt 16 0 :: .pt 24 0 :: .pt 32 0 :: bt 8 (Bo b6 :: .bot :: .ag [Ti a1.1, Ti a1.2.1, Ti a1.2.2] :: .bot :: .ag [Ti b2.1, Ti b2.2.1, Ti b2.2.2] :: .ow 144 :: .ow 128 :: .tc (.ag [Ti y11.1.1, Ti y11.1.2.1, Ti y11.1.2.2]) (.tc (Bo y11.2) .tn) :: .ag [Ti y11.1.1, Ti y11.1.2.1, Ti y11.1.2.2] :: .bot :: []), [(144, .arr 123 2 (y9.map c123)), (128, .arr 123 2 ((y8 ++ y9).map c123)), (32, .box [Ti 0, Ti 0, Ti 0]), (24, .box [Ti b2.1, Ti b2.2.1, Ti b2.2.2]), (16, .box [Ti a1.1, Ti a1.2.1, Ti a1.2.2])]⟩) rfl rfl (X_of_Y0 rfl (E_ext (n := 0) (.ag [Ti y11.1.1, Ti y11.1.2.1, Ti y11.1.2.2]) (.tc (Bo y11.2) .tn) (.ag [Ti y11.1.1, Ti y11.1.2.1, Ti y11.1.2.2]) rfl (by kernel_rfl) (by kernel_rfl) (by intro hh; cases hh))) (by kernel_rfl) rfl (hE_cons (by kernel_rfl) (hE_cons (by kernel_rfl) (hE_cons (by kernel_rfl) (hE_cons (by kernel_rfl) (hE_cons (by kernel_rfl) hE_nil))))) ?_
     exact step_nil
    refine tab_row [7] (by kernel_rfl) (by kernel_rfl) ?_ ?_
    ·refine step_cons (s2 := ⟨.bot :: .bot :: .pt 16 0 :: .pt 24 0 :: .pt 32 0 :: bt 8 (Bo b6 :: .bot :: .ag [Ti a1.1, Ti a1.2.1, Ti a1.2.2] :: .bot :: .ag [Ti b2.1, Ti b2.2.1, Ti b2.2.2] :: .ow 144 :: .ow 128 :: .tc (.ag [Ti y11.1.1, Ti y11.1.2.1, Ti y11.1.2.2]) (.tc (Bo y11.2) .tn) :: .ag [Ti y11.1.1, Ti y11.1.2.1, Ti y11.1.2.2] :: Bo y11.2 :: []), [(144, .arr 123 2 (y9.map c123)), (128, .arr 123 2 ((y8 ++ y9).map c123)), (32, .box [Ti 0, Ti 0, Ti 0]), (24, .box [Ti b2.1, Ti b2.2.1, Ti b2.2.2]), (16, .box [Ti a1.1, Ti a1.2.1, Ti a1.2.2])]⟩) rfl rfl (X_of_Y0 rfl (E_ext (n := 1) (.ag [Ti y11.1.1, Ti y11.1.2.1, Ti y11.1.2.2]) (.tc (Bo y11.2) .tn) (Bo y11.2) rfl (by kernel_rfl) (by kernel_rfl) (by intro hh; cases hh))) (by kernel_rfl) rfl (hE_cons (by kernel_rfl) (hE_cons (by kernel_rfl) (hE_cons (by kernel_rfl) (hE_cons (by kernel_rfl) (hE_cons (by kernel_rfl) hE_nil))))) ?_
     exact step_nil
    refine tab_row [6] (by kernel_rfl) (by kernel_rfl) ?_ ?_
    ·refine step_cons (s2 := ⟨.bot :: .bot :: .pt 16 0 :: .pt 24 0 :: .pt 32 0 :: bt 8 (Bo b6 :: .bot :: .ag [Ti a1.1, Ti a1.2.1, Ti a1.2.2] :: .bot :: .ag [Ti b2.1, Ti b2.2.1, Ti b2.2.2] :: .ow 144 :: .ow 128 :: .tc (.ag [Ti y11.1.1, Ti y11.1.2.1, Ti y11.1.2.2]) (.tc (Bo y11.2) .tn) :: .ag [Ti y11.1.1, Ti y11.1.2.1, Ti y11.1.2.2] :: Bo y11.2 :: []), [(144, .arr 123 2 (y9.map c123)), (128, .arr 123 2 ((y8 ++ y9).map c123)), (32, .box [Ti 0, Ti 0, Ti 0]), (24, .box [Ti b2.1, Ti b2.2.1, Ti b2.2.2]), (16, .box [Ti a1.1, Ti a1.2.1, Ti a1.2.2])]⟩) rfl rfl (X_of_Y0 rfl (E_ext (n := 0) (.ag [Ti y11.1.1, Ti y11.1.2.1, Ti y11.1.2.2]) (.tc (Bo y11.2) .tn) (.ag [Ti y11.1.1, Ti y11.1.2.1, Ti y11.1.2.2]) rfl (by kernel_rfl) (by kernel_rfl) (by intro hh; cases hh))) (by kernel_rfl) rfl (hE_cons (by kernel_rfl) (hE_cons (by kernel_rfl) (hE_cons (by kernel_rfl) (hE_cons (by kernel_rfl) (hE_cons (by kernel_rfl) hE_nil))))) ?_
     exact step_nil
    refine tab_row [8] (by kernel_rfl) (by kernel_rfl) ?_ ?_
    ·refine step_cons (s2 := ⟨.bot :: .bot :: .pt 16 0 :: .pt 24 0 :: .pt 32 0 :: bt 8 (Bo b6 :: .bot :: .ag [Ti a1.1, Ti a1.2.1, Ti a1.2.2] :: .bot :: .ag [Ti b2.1, Ti b2.2.1, Ti b2.2.2] :: .ow 144 :: .ow 128 :: .tc (.ag [Ti y11.1.1, Ti y11.1.2.1, Ti y11.1.2.2]) (.tc (Bo y11.2) .tn) :: .ag [Ti y11.1.1, Ti y11.1.2.1, Ti y11.1.2.2] :: Bo y11.2 :: []), [(144, .arr 123 2 (y9.map c123)), (128, .arr 123 2 ((y8 ++ y9).map c123)), (32, .box [Ti y11.1.1, Ti y11.1.2.1, Ti y11.1.2.2]), (24, .box [Ti b2.1, Ti b2.2.1, Ti b2.2.2]), (16, .box [Ti a1.1, Ti a1.2.1, Ti a1.2.2])]⟩) rfl rfl (E_store (id := 32) (off := 0) (cs := [Ti 0, Ti 0, Ti 0]) (vc := [Ti y11.1.1, Ti y11.1.2.1, Ti y11.1.2.2]) [Ti y11.1.1, Ti y11.1.2.1, Ti y11.1.2.2] rfl rfl (by kernel_rfl) (by kernel_rfl) (by kernel_rfl) sz25 (Nat.le_of_ble_eq_true rfl) (by kernel_rfl)) (by kernel_rfl) rfl (hE_cons (by kernel_rfl) (hE_cons (by kernel_rfl) (hE_cons (by kernel_rfl) (hE_cons (by kernel_rfl) (hE_cons (by kernel_rfl) hE_nil))))) ?_
     exact step_nil
    refine tab_row [9] (by kernel_rfl) (by kernel_rfl) ?_ ?_
    ·refine step_cons (s2 := ⟨.bot :: .bot :: .pt 16 0 :: .pt 24 0 :: .pt 32 0 :: Bo y11.2 :: bt 7 (Bo b6 :: .bot :: .ag [Ti a1.1, Ti a1.2.1, Ti a1.2.2] :: .bot :: .ag [Ti b2.1, Ti b2.2.1, Ti b2.2.2] :: .ow 144 :: .ow 128 :: .tc (.ag [Ti y11.1.1, Ti y11.1.2.1, Ti y11.1.2.2]) (.tc (Bo y11.2) .tn) :: .ag [Ti y11.1.1, Ti y11.1.2.1, Ti y11.1.2.2] :: Bo y11.2 :: []), [(144, .arr 123 2 (y9.map c123)), (128, .arr 123 2 ((y8 ++ y9).map c123)), (32, .box [Ti y11.1.1, Ti y11.1.2.1, Ti y11.1.2.2]), (24, .box [Ti b2.1, Ti b2.2.1, Ti b2.2.2]), (16, .box [Ti a1.1, Ti a1.2.1, Ti a1.2.2])]⟩) rfl rfl (X_of_Y0 rfl (E_assign (Bo y11.2) rfl (by kernel_rfl))) (by kernel_rfl) rfl (hE_cons (by kernel_rfl) (hE_cons (by kernel_rfl) (hE_cons (by kernel_rfl) (hE_cons (by kernel_rfl) (hE_cons (by kernel_rfl) hE_nil))))) ?_
     exact step_nil
    refine tab_last (by kernel_rfl) ?_ tab_nil
    kernel_rfl
   refine V_ret ?_
   obtain rfl := some_inj h
   show Post _ _ _ _ _
   exact ⟨.inr rfl, rfl, rfl, rfl⟩
theorem cf_spec_laBasis : ∀ args w, (callFunc 67 args).run Try.prog w = .ok (.enter 67 args) w := run_callFunc Try.func67 (by kernel_rfl) (by kernel_rfl)
set_option maxRecDepth 100000 in
set_option maxHeartbeats 400000 in
theorem s_spec_laBasis {l1 : (Int × Int × Int)} {r : List ((Int × Int))} (h : r_spec_laBasis l1 = some r) : CallS Try.prog 67 [.ag [Ti l1.1, Ti l1.2.1, Ti l1.2.2]] (.ow 0) [(0, .arr 34 2 (r.map c34))] := by
  refine CallS_of_text (rs := [.t 2]) (vs := [.tmp 2]) Try.func67 rfl rfl (.cons rfl FitsL.nil) (by decide) 12 rfl ?_
  unfold r_spec_laBasis at h
  show V _ _ ⟨.ag [Ti l1.1, Ti l1.2.1, Ti l1.2.2] :: bt 11 [], []⟩ _
  refine V_sreg (mb 12 2) [8] (s1 := ⟨.bot :: .pt 8 0 :: bt 10 [], [(8, .box [Ti l1.1, Ti l1.2.1, Ti l1.2.2])]⟩) ?_ ?_
  ·refine L1 rfl rfl (Y1_box (cs := [Ti l1.1, Ti l1.2.1, Ti l1.2.2]) rfl (by kernel_rfl)) ?_
   refine L1 rfl rfl (Y1_nil (e := 34) 2 (by decide) (.inl rfl)) ?_
   refine XL_nil ?_
   kernel_rfl
  refine V_sreg (mb 12 4) [88] (s1 := ⟨.bot :: .bot :: .ow 88 :: bt 9 [], [(88, .arr 34 2 (([(l1.1, 0), l1.2]).map c34))]⟩) ?_ ?_
  ·refine L0 rfl rfl (E_field (.pt 8 0) Try.underlying25 rfl sz3 rfl (by kernel_rfl) (by intro hh; cases hh)) ?_
   refine L0 rfl rfl (Y0_load1 (c := Ti l1.1) (cs := [Ti l1.2.1, Ti l1.2.2]) sc3 rfl (by kernel_rfl)) ?_
   refine L0 rfl rfl (Y0_build (cs := [Ti l1.1, Ti 0]) pl34 bt34 rfl rfl (by kernel_rfl)) ?_
   refine L0 rfl rfl (E_field (.pt 8 1) Try.underlying25 rfl sz3 rfl (by kernel_rfl) (by intro hh; cases hh)) ?_
   refine L0 rfl rfl (Y0_load1 (c := Ti l1.2.1) (cs := [Ti l1.2.2]) sc3 rfl (by kernel_rfl)) ?_
   refine L0 rfl rfl (E_field (.pt 8 2) Try.underlying25 rfl sz3 rfl (by kernel_rfl) (by intro hh; cases hh)) ?_
   refine L0 rfl rfl (Y0_load1 (c := Ti l1.2.2) (cs := []) sc3 rfl (by kernel_rfl)) ?_
   refine L0 rfl rfl (Y0_build (cs := [Ti l1.2.1, Ti l1.2.2]) pl34 bt34 rfl rfl (by kernel_rfl)) ?_
   refine L1 rfl rfl (Y1_bslice (z := zv34) (els := [(l1.1, 0), l1.2].map c34) Try.underlying71 iz34 rfl (by decide) rfl (by kernel_rfl) rfl (by simp [c34]) (by decide) (by decide)) ?_
   refine L0 rfl rfl (E_assign (.ow 88) rfl (by kernel_rfl)) ?_
   refine XL_nil ?_
   kernel_rfl
  refine V_ret ?_
  obtain rfl := some_inj h
  show Post _ _ _ _ _
  exact ⟨.inr rfl, rfl, rfl, rfl⟩
theorem cf_spec_laHermite : ∀ args w, (callFunc 66 args).run Try.prog w = .ok (.enter 66 args) w := run_callFunc Try.func66 (by kernel_rfl) (by kernel_rfl)
set_option maxRecDepth 100000 in
set_option maxHeartbeats 400000 in
theorem s_spec_laHermite {p1 : List ((Int × Int))} {r : (Int × Int × Int)} (h : r_spec_laHermite p1 = some r) : CallS Try.prog 66 [.c (.sl (p1.map c34))] (.ag [Ti r.1, Ti r.2.1, Ti r.2.2]) [] := by
  refine CallS_of_text (rs := [.w 2 3]) (vs := [.cell 2 25]) Try.func66 rfl rfl (.cons ⟨rfl, wd25⟩ FitsL.nil) (by decide) 67 rfl ?_
  unfold r_spec_laHermite at h
  show V _ _ ⟨.c (.sl (p1.map c34)) :: bt 66 [], []⟩ _
  refine V_sreg (mb 67 5) [16] (s1 := ⟨.c (.sl (p1.map c34)) :: .bot :: .pt 16 0 :: bt 64 [], [(16, .box [Ti 0, Ti 0, Ti 0])]⟩) ?_ ?_
  ·refine L1 rfl rfl (Y1_alloc (z := zv25) rfl zf25 rfl) ?_
   refine XL_nil ?_
   kernel_rfl
  refine V_sreg (mb 67 29) [32, 16] (s1 := ⟨.c (.sl (p1.map c34)) :: .bot :: .pt 16 0 :: I 0 :: .pt 32 0 :: bt 62 [], [(32, .box [Ti 0, Ti 0]), (16, .box [Ti 0, Ti 0, Ti 0])]⟩) ?_ ?_
  ·refine L0 rfl rfl (Y0_build (cs := [Ti 0, Ti 0]) pl34 bt34 rfl rfl (by kernel_rfl)) ?_
   refine L1 rfl rfl (Y1_alloc (z := zv34) rfl zf34 rfl) ?_
   refine L0 rfl rfl (E_assign (I 0) rfl (by kernel_rfl)) ?_
   refine XL_cons rfl (E_store (id := 32) (off := 0) (cs := [Ti 0, Ti 0]) (vc := [Ti 0, Ti 0]) [Ti 0, Ti 0] rfl rfl (by kernel_rfl) (by kernel_rfl) (by kernel_rfl) sz34 (Nat.le_of_ble_eq_true rfl) (by kernel_rfl)) ?_
   refine XL_nil ?_
   kernel_rfl
  refine V_seq ?_
  refine V_sreg (mb 67 3612) [32, 16] (s1 := ⟨.bot :: .bot :: .pt 16 0 :: I 0 :: .pt 32 0 :: bt 4 (.c (.sl (p1.map c34)) :: I ((p1.length : Int)) :: I 0 :: bt 55 []), [(32, .box [Ti 0, Ti 0]), (16, .box [Ti 0, Ti 0, Ti 0])]⟩) ?_ ?_
  ·refine L0 rfl rfl (E_move (.c (.sl (p1.map c34))) rfl (by kernel_rfl)) ?_
   refine L0 rfl rfl (Y0_lenM (c := c34) (xs := p1) Try.underlying71 rfl (by kernel_rfl)) ?_
   refine L0 rfl rfl (E_move (I 0) rfl (by kernel_rfl)) ?_
   refine XL_nil ?_
   kernel_rfl
  obtain ⟨o7, hLo7, h⟩ := of_bind h
  refine V_toK (mb 67 28) [32, 16] (s1 := ⟨.bot :: .bot :: .pt 16 0 :: I o7.1 :: .pt 32 0 :: bt 62 [], [(32, .box [Ti o7.2.1, Ti o7.2.2]), (16, .box [Ti 0, Ti 0, Ti 0])]⟩) ?_ ?_
  ·clear h
   refine V_block (V_loop (fun n s => ∃ (a2 : Int) (t3 : Int) (f4 : Int) (f5 : Int), s.keep (mb 67 3612) [32, 16] = (⟨.bot :: .bot :: .pt 16 0 :: I a2 :: .pt 32 0 :: bt 4 (.c (.sl (p1.map c34)) :: I ((p1.length : Int)) :: I t3 :: bt 55 []), [(32, .box [Ti f4, Ti f5]), (16, .box [Ti 0, Ti 0, Ti 0])]⟩ : St) ∧ r_spec_laHermite_L6 p1 n a2 t3 f4 f5 = some o7) FU ⟨_, _, _, _,  by rfl, hLo7⟩ ?_)
   clear hLo7
   rintro n s ⟨a2, t3, f4, f5, hs, h⟩
   refine V_keep _ _ hs ?_
   clear hs
   cases n with
   | zero => cases h
   | succ n =>
    rw [r_spec_laHermite_L6] at h
    refine V_sreg (mb 67 7708) [32, 16] (s1 := ⟨.bot :: .bot :: .pt 16 0 :: I a2 :: .pt 32 0 :: bt 4 (.c (.sl (p1.map c34)) :: I ((p1.length : Int)) :: I t3 :: Bo (ltI t3 ((p1.length : Int))) :: bt 54 []), [(32, .box [Ti f4, Ti f5]), (16, .box [Ti 0, Ti 0, Ti 0])]⟩) ?_ ?_
    ·refine L0 rfl rfl (Y0_ltw (k := .i64) (a := t3) (b := (p1.length : Int)) rfl (by kernel_rfl) (by kernel_rfl)) ?_
     refine XL_nil ?_
     kernel_rfl
    refine V_seq ?_
    refine V_cond rfl (fun hc8 => ?_) (fun hc8 => ?_)
    ·have h := of_true h hc8
     refine V_skip ?_
     show V _ _ _ _
     refine V_seq ?_
     refine V_block ?_
     obtain ⟨e9, he9, h⟩ := of_bind h
     refine V_sreg (mb 67 3676) [48, 32, 16] (s1 := ⟨.bot :: .bot :: .pt 16 0 :: I a2 :: .pt 32 0 :: .bot :: .pt 48 0 :: .bot :: .bot :: .c (.sl (p1.map c34)) :: I ((p1.length : Int)) :: I t3 :: bt 55 [], [(48, .box [Ti e9.1, Ti e9.2]), (32, .box [Ti f4, Ti f5]), (16, .box [Ti 0, Ti 0, Ti 0])]⟩) ?_ ?_
     ·refine L0 rfl rfl (Y0_idxM (c := c34) (xs := p1) (v := e9) (n := t3) Try.underlying71 sz34 rfl (by kernel_rfl) (by kernel_rfl) he9) ?_
      refine L0 rfl rfl (E_loadn (cs := [Ti e9.1, Ti e9.2]) [Ti e9.1, Ti e9.2] wd34 rfl (by kernel_rfl) (Nat.le_of_ble_eq_true rfl) (by kernel_rfl)) ?_
      refine L1 rfl rfl (Y1_alloc (z := zv34) rfl zf34 rfl) ?_
      refine XL_cons rfl (E_store (id := 48) (off := 0) (cs := [Ti 0, Ti 0]) (vc := [Ti e9.1, Ti e9.2]) [Ti e9.1, Ti e9.2] rfl rfl (by kernel_rfl) (by kernel_rfl) (by kernel_rfl) sz34 (Nat.le_of_ble_eq_true rfl) (by kernel_rfl)) ?_
      refine XL_nil ?_
      kernel_rfl
     refine V_seq ?_
     obtain ⟨o15, hLo15, h⟩ := of_bind h
     refine V_toK (mb 67 3676) [48, 32, 16] (s1 := ⟨.bot :: .bot :: .pt 16 0 :: I a2 :: .pt 32 0 :: .bot :: .pt 48 0 :: .bot :: .bot :: .c (.sl (p1.map c34)) :: I ((p1.length : Int)) :: I t3 :: bt 55 [], [(48, .box [Ti o15.1, Ti o15.2.1]), (32, .box [Ti o15.2.2.1, Ti o15.2.2.2]), (16, .box [Ti 0, Ti 0, Ti 0])]⟩) ?_ ?_
     ·clear h
      refine V_block (V_loop (fun n s => ∃ (f10 : Int) (f11 : Int) (f12 : Int) (f13 : Int), s.keep (mb 67 3676) [48, 32, 16] = (⟨.bot :: .bot :: .pt 16 0 :: I a2 :: .pt 32 0 :: .bot :: .pt 48 0 :: .bot :: .bot :: .c (.sl (p1.map c34)) :: I ((p1.length : Int)) :: I t3 :: bt 55 [], [(48, .box [Ti f10, Ti f11]), (32, .box [Ti f12, Ti f13]), (16, .box [Ti 0, Ti 0, Ti 0])]⟩ : St) ∧ r_spec_laHermite_L14 a2 p1 t3 n f10 f11 f12 f13 = some o15) FU ⟨_, _, _, _,  by rfl, hLo15⟩ ?_)
      clear hLo15
      rintro n s ⟨f10, f11, f12, f13, hs, h⟩
      refine V_keep _ _ hs ?_
      clear hs
      cases n with
      | zero => cases h
      | succ n =>
       rw [r_spec_laHermite_L14] at h
       refine V_seq ?_
       refine V_sreg (mb 67 134748) [48, 32, 16] (s1 := ⟨.bot :: .bot :: .pt 16 0 :: I a2 :: .pt 32 0 :: .bot :: .pt 48 0 :: .bot :: .bot :: .c (.sl (p1.map c34)) :: I ((p1.length : Int)) :: I t3 :: bt 5 (Bo (!eqI f11 0) :: bt 49 []), [(48, .box [Ti f10, Ti f11]), (32, .box [Ti f12, Ti f13]), (16, .box [Ti 0, Ti 0, Ti 0])]⟩) ?_ ?_
       ·refine L0 rfl rfl (E_field (.pt 48 1) Try.underlying34 rfl sz3 rfl (by kernel_rfl) (by intro hh; cases hh)) ?_
        refine L0 rfl rfl (Y0_load1 (c := Ti f11) (cs := []) sc3 rfl (by kernel_rfl)) ?_
        refine L0 rfl rfl (Y0_new (k := .i64) (a := f11) (b := 0) rfl (by kernel_rfl) (by kernel_rfl)) ?_
        refine XL_nil ?_
        kernel_rfl
       refine V_cond rfl (fun hc16 => ?_) (fun hc16 => ?_)
       ·have h := of_true h hc16
        refine V_skip ?_
        show V _ _ _ _
        refine V_block ?_
        obtain ⟨z17, hz17, h⟩ := of_bind h
        obtain ⟨k18, hk18, h⟩ := of_sI h
        refine V_sreg (mb 67 3804) [48, 32, 16] (s1 := ⟨.bot :: .bot :: .pt 16 0 :: I a2 :: .pt 32 0 :: .bot :: .pt 48 0 :: I k18 :: .bot :: .c (.sl (p1.map c34)) :: I ((p1.length : Int)) :: I t3 :: bt 55 [], [(48, .box [Ti f10, Ti f11]), (32, .box [Ti f12, Ti f13]), (16, .box [Ti 0, Ti 0, Ti 0])]⟩) ?_ ?_
        ·refine L0 rfl rfl (E_field (.pt 32 1) Try.underlying34 rfl sz3 rfl (by kernel_rfl) (by intro hh; cases hh)) ?_
         refine L0 rfl rfl (Y0_load1 (c := Ti f13) (cs := []) sc3 rfl (by kernel_rfl)) ?_
         refine L0 rfl rfl (E_field (.pt 48 1) Try.underlying34 rfl sz3 rfl (by kernel_rfl) (by intro hh; cases hh)) ?_
         refine L0 rfl rfl (Y0_load1 (c := Ti f11) (cs := []) sc3 rfl (by kernel_rfl)) ?_
         refine L0 rfl rfl (Y0_quo64 (a := f13) (b := f11) rfl (by kernel_rfl) (by kernel_rfl) (nz_some hz17)) ?_
         refine L0 rfl rfl (E_assign (I (w64 (Int.tdiv f13 f11))) rfl (by kernel_rfl)) ?_
         refine XL_nil ?_
         subst hk18
         kernel_rfl
        obtain ⟨f19, hf19, h⟩ := of_sI h
        obtain ⟨f20, hf20, h⟩ := of_sI h
        refine V_dreg [0, 0, 2, 0, 0, 16, 56, 126, 0, 256, 0, 0, 2048, 7168, 16128, 32766, 775, 131071] 17 [[.z, .b, .b, .b, .b, .b, .b, .b, .b, .b, .b, .b, .b, .b, .b, .b, .z], [.b, .z, .z, .b, .b, .b, .b, .z, .b, .b, .b, .b, .b, .b, .b, .z, .z], [.b, .a, .z, .b, .b, .b, .b, .z, .b, .b, .b, .b, .b, .b, .b, .z, .z], [.b, .b, .b, .z, .b, .b, .z, .z, .b, .b, .b, .b, .b, .b, .b, .z, .r 32], [.b, .b, .b, .b, .z, .z, .z, .z, .b, .b, .b, .b, .b, .b, .b, .z, .r 32], [.b, .b, .b, .b, .a, .z, .z, .z, .b, .b, .b, .b, .b, .b, .b, .z, .r 32], [.b, .b, .b, .a, .a, .a, .z, .z, .b, .b, .b, .b, .b, .b, .b, .z, .r 32], [.b, .a, .a, .a, .a, .a, .a, .z, .b, .b, .b, .b, .b, .b, .b, .z, .r 32], [.b, .b, .b, .b, .b, .b, .b, .b, .z, .z, .b, .b, .b, .b, .z, .z, .z], [.b, .b, .b, .b, .b, .b, .b, .b, .a, .z, .b, .b, .b, .b, .z, .z, .z], [.b, .b, .b, .b, .b, .b, .b, .b, .b, .b, .z, .b, .b, .z, .z, .z, .r 32], [.b, .b, .b, .b, .b, .b, .b, .b, .b, .b, .b, .z, .z, .z, .z, .z, .r 32], [.b, .b, .b, .b, .b, .b, .b, .b, .b, .b, .b, .a, .z, .z, .z, .z, .r 32], [.b, .b, .b, .b, .b, .b, .b, .b, .b, .b, .a, .a, .a, .z, .z, .z, .r 32], [.b, .b, .b, .b, .b, .b, .b, .b, .a, .a, .a, .a, .a, .a, .z, .z, .r 32], [.b, .a, .a, .a, .a, .a, .a, .a, .a, .a, .a, .a, .a, .a, .a, .z, .r 32], [.a, .a, .a, .b, .b, .b, .b, .b, .a, .a, .b, .b, .b, .b, .b, .b, .z]] (mb 67 3676) [48, 32, 16] (s1 := ⟨.bot :: .bot :: .pt 16 0 :: I a2 :: .pt 32 0 :: .bot :: .pt 48 0 :: .bot :: .bot :: .c (.sl (p1.map c34)) :: I ((p1.length : Int)) :: I t3 :: bt 55 [], [(48, .box [Ti f19, Ti f20]), (32, .box [Ti f10, Ti f11]), (16, .box [Ti 0, Ti 0, Ti 0])]⟩) (by kernel_rfl) (by kernel_rfl) ?_ ?_
        ·refine DE_0 0 (.ag [Ti f10, Ti f11]) (by kernel_rfl) rfl rfl rfl (gsat_none rfl) (by kernel_rfl) (E_loadn (cs := [Ti f10, Ti f11]) [Ti f10, Ti f11] wd34 rfl (by kernel_rfl) (Nat.le_of_ble_eq_true rfl) (by kernel_rfl)) 23 rfl ?_
         refine DE_0 1 (.pt 32 0) (by kernel_rfl) rfl rfl rfl (gsat_none rfl) (by kernel_rfl) (E_field (.pt 32 0) Try.underlying34 rfl sz3 rfl (by kernel_rfl) (by intro hh; cases hh)) 24 rfl ?_
         refine DE_0 2 (I f12) (by kernel_rfl) rfl rfl rfl (gsat_none rfl) (by kernel_rfl) (Y0_load1 (c := Ti f12) (cs := [Ti f13]) sc3 rfl (by kernel_rfl)) 25 rfl ?_
         refine DE_0 3 (I k18) (by kernel_rfl) rfl rfl rfl (gsat_none rfl) (by kernel_rfl) (E_move (I k18) rfl (by kernel_rfl)) 26 rfl ?_
         refine DE_0 4 (.pt 48 0) (by kernel_rfl) rfl rfl rfl (gsat_none rfl) (by kernel_rfl) (E_field (.pt 48 0) Try.underlying34 rfl sz3 rfl (by kernel_rfl) (by intro hh; cases hh)) 27 rfl ?_
         refine DE_0 5 (I f10) (by kernel_rfl) rfl rfl rfl (gsat_none rfl) (by kernel_rfl) (Y0_load1 (c := Ti f10) (cs := [Ti f11]) sc3 rfl (by kernel_rfl)) 28 rfl ?_
         refine DE_0 6 (I (w64 (k18 * f10))) (by kernel_rfl) rfl rfl rfl (gsat_none rfl) (by kernel_rfl) (Y0_mul64 (a := k18) (b := f10) rfl (by kernel_rfl) (by kernel_rfl)) 29 rfl ?_
         refine DE_0 7 (I (w64 (f12 - (w64 (k18 * f10))))) (by kernel_rfl) rfl rfl rfl (gsat_none rfl) (by kernel_rfl) (Y0_sub64 (a := f12) (b := w64 (k18 * f10)) rfl (by kernel_rfl) (by kernel_rfl)) 30 rfl ?_
         refine DE_0 8 (.pt 32 1) (by kernel_rfl) rfl rfl rfl (gsat_none rfl) (by kernel_rfl) (E_field (.pt 32 1) Try.underlying34 rfl sz3 rfl (by kernel_rfl) (by intro hh; cases hh)) 31 rfl ?_
         refine DE_0 9 (I f13) (by kernel_rfl) rfl rfl rfl (gsat_none rfl) (by kernel_rfl) (Y0_load1 (c := Ti f13) (cs := []) sc3 rfl (by kernel_rfl)) 32 rfl ?_
         refine DE_0 10 (I k18) (by kernel_rfl) rfl rfl rfl (gsat_none rfl) (by kernel_rfl) (E_move (I k18) rfl (by kernel_rfl)) 33 rfl ?_
         refine DE_0 11 (.pt 48 1) (by kernel_rfl) rfl rfl rfl (gsat_none rfl) (by kernel_rfl) (E_field (.pt 48 1) Try.underlying34 rfl sz3 rfl (by kernel_rfl) (by intro hh; cases hh)) 34 rfl ?_
         refine DE_0 12 (I f11) (by kernel_rfl) rfl rfl rfl (gsat_none rfl) (by kernel_rfl) (Y0_load1 (c := Ti f11) (cs := []) sc3 rfl (by kernel_rfl)) 35 rfl ?_
         refine DE_0 13 (I (w64 (k18 * f11))) (by kernel_rfl) rfl rfl rfl (gsat_none rfl) (by kernel_rfl) (Y0_mul64 (a := k18) (b := f11) rfl (by kernel_rfl) (by kernel_rfl)) 36 rfl ?_
         refine DE_0 14 (I (w64 (f13 - (w64 (k18 * f11))))) (by kernel_rfl) rfl rfl rfl (gsat_none rfl) (by kernel_rfl) (Y0_sub64 (a := f13) (b := w64 (k18 * f11)) rfl (by kernel_rfl) (by kernel_rfl)) 37 rfl ?_
         refine DE_0 15 (.ag [Ti (w64 (f12 - (w64 (k18 * f10)))), Ti (w64 (f13 - (w64 (k18 * f11))))]) (by kernel_rfl) rfl rfl rfl (gsat_none rfl) (by kernel_rfl) (Y0_build (cs := [Ti (w64 (f12 - (w64 (k18 * f10)))), Ti (w64 (f13 - (w64 (k18 * f11))))]) pl34 bt34 rfl rfl (by kernel_rfl)) 38 rfl ?_
         refine DE_2 (off := 0) (cs := [Ti f12, Ti f13]) (vc := [Ti f10, Ti f11]) 16 32 [Ti f10, Ti f11] (by kernel_rfl) rfl rfl rfl (gsat_none rfl) rfl rfl (by kernel_rfl) (by kernel_rfl) (by kernel_rfl) sz34 (Nat.le_of_ble_eq_true rfl) (by kernel_rfl) (by kernel_rfl) (by kernel_rfl) (by kernel_rfl) ?_
         refine DL_nil (by kernel_rfl) ?_
         refine XL_cons rfl (E_store (id := 48) (off := 0) (cs := [Ti f10, Ti f11]) (vc := [Ti (w64 (f12 - (w64 (k18 * f10)))), Ti (w64 (f13 - (w64 (k18 * f11))))]) [Ti (w64 (f12 - (w64 (k18 * f10)))), Ti (w64 (f13 - (w64 (k18 * f11))))] rfl rfl (by kernel_rfl) (by kernel_rfl) (by kernel_rfl) sz34 (Nat.le_of_ble_eq_true rfl) (by kernel_rfl)) ?_
         refine XL_nil ?_
         subst hf19 hf20
         kernel_rfl
        exact ⟨n, Nat.lt_succ_self n, _, _, _, _,  by rfl, h⟩
       ·have h := of_false h hc16
        refine V_exit ?_
        obtain rfl := some_inj h
        show St.keep _ _ _ = _
        rfl
     show V _ _ _ _
     obtain ⟨y21, hy21, h⟩ := of_bind h
     refine V_sreg (mb 67 3612) [32, 16] (s1 := ⟨.bot :: .bot :: .pt 16 0 :: I y21 :: .pt 32 0 :: bt 4 (.c (.sl (p1.map c34)) :: I ((p1.length : Int)) :: I t3 :: bt 55 []), [(32, .box [Ti o15.2.2.1, Ti o15.2.2.2]), (16, .box [Ti 0, Ti 0, Ti 0])]⟩) ?_ ?_
     ·refine L0 rfl rfl (E_move (I a2) rfl (by kernel_rfl)) ?_
      refine L0 rfl rfl (E_field (.pt 48 0) Try.underlying34 rfl sz3 rfl (by kernel_rfl) (by intro hh; cases hh)) ?_
      refine L0 rfl rfl (Y0_load1 (c := Ti o15.1) (cs := [Ti o15.2.1]) sc3 rfl (by kernel_rfl)) ?_
      refine L1 rfl rfl (Y1_call (s_spec_nuGcd hy21) cf_spec_nuGcd rfl (by kernel_rfl)) ?_
      refine L0 rfl rfl (E_assign (I y21) rfl (by kernel_rfl)) ?_
      refine XL_nil ?_
      kernel_rfl
     obtain ⟨j22, hj22, h⟩ := of_bind h
     refine V_cutK (mb 67 3612) [32, 16] (s1 := ⟨.bot :: .bot :: .pt 16 0 :: I y21 :: .pt 32 0 :: bt 4 (.c (.sl (p1.map c34)) :: I ((p1.length : Int)) :: I t3 :: bt 55 []), [(32, .box [Ti j22.1, Ti j22.2]), (16, .box [Ti 0, Ti 0, Ti 0])]⟩) ?_ ?_
     ·clear h
      have h := hj22
      clear hj22
      refine V_sreg (mb 67 35184372092444) [32, 16] (s1 := ⟨.bot :: .bot :: .pt 16 0 :: I y21 :: .pt 32 0 :: bt 4 (.c (.sl (p1.map c34)) :: I ((p1.length : Int)) :: I t3 :: bt 33 (Bo (ltI o15.2.2.2 0) :: bt 21 [])), [(32, .box [Ti o15.2.2.1, Ti o15.2.2.2]), (16, .box [Ti 0, Ti 0, Ti 0])]⟩) ?_ ?_
      ·refine L0 rfl rfl (E_field (.pt 32 1) Try.underlying34 rfl sz3 rfl (by kernel_rfl) (by intro hh; cases hh)) ?_
       refine L0 rfl rfl (Y0_load1 (c := Ti o15.2.2.2) (cs := []) sc3 rfl (by kernel_rfl)) ?_
       refine L0 rfl rfl (Y0_ltw (k := .i64) (a := o15.2.2.2) (b := 0) rfl (by kernel_rfl) (by kernel_rfl)) ?_
       refine XL_nil ?_
       kernel_rfl
      refine V_cond rfl (fun hc23 => ?_) (fun hc23 => ?_)
      ·have h := of_true h hc23
       obtain ⟨f24, hf24, h⟩ := of_sI h
       obtain ⟨f25, hf25, h⟩ := of_sI h
       refine V_reg (mb 67 3612) [32, 16] (s1 := ⟨.bot :: .bot :: .pt 16 0 :: I y21 :: .pt 32 0 :: bt 4 (.c (.sl (p1.map c34)) :: I ((p1.length : Int)) :: I t3 :: bt 55 []), [(32, .box [Ti f24, Ti f25]), (16, .box [Ti 0, Ti 0, Ti 0])]⟩) ?_ ?_
       ·refine L0 rfl rfl (E_field (.pt 32 0) Try.underlying34 rfl sz3 rfl (by kernel_rfl) (by intro hh; cases hh)) ?_
        refine L0 rfl rfl (Y0_load1 (c := Ti o15.2.2.1) (cs := [Ti o15.2.2.2]) sc3 rfl (by kernel_rfl)) ?_
        refine L0 rfl rfl (Y0_neg64 (a := o15.2.2.1) rfl (by kernel_rfl)) ?_
        refine L0 rfl rfl (E_field (.pt 32 1) Try.underlying34 rfl sz3 rfl (by kernel_rfl) (by intro hh; cases hh)) ?_
        refine L0 rfl rfl (Y0_load1 (c := Ti o15.2.2.2) (cs := []) sc3 rfl (by kernel_rfl)) ?_
        refine L0 rfl rfl (Y0_neg64 (a := o15.2.2.2) rfl (by kernel_rfl)) ?_
        refine L0 rfl rfl (Y0_build (cs := [Ti (w64 (0 - o15.2.2.1)), Ti (w64 (0 - o15.2.2.2))]) pl34 bt34 rfl rfl (by kernel_rfl)) ?_
        refine XL_cons rfl (E_store (id := 32) (off := 0) (cs := [Ti o15.2.2.1, Ti o15.2.2.2]) (vc := [Ti (w64 (0 - o15.2.2.1)), Ti (w64 (0 - o15.2.2.2))]) [Ti (w64 (0 - o15.2.2.1)), Ti (w64 (0 - o15.2.2.2))] rfl rfl (by kernel_rfl) (by kernel_rfl) (by kernel_rfl) sz34 (Nat.le_of_ble_eq_true rfl) (by kernel_rfl)) ?_
        refine XL_nil ?_
        subst hf24 hf25
        kernel_rfl
       obtain rfl := some_inj h
       show St.keep _ _ _ = _
       rfl
      ·have h := of_false h hc23
       refine V_skip ?_
       obtain rfl := some_inj h
       show St.keep _ _ _ = _
       rfl
     refine V_sreg (mb 67 18014398509485596) [32, 16] (s1 := ⟨.bot :: .bot :: .pt 16 0 :: I y21 :: .pt 32 0 :: bt 4 (.c (.sl (p1.map c34)) :: I ((p1.length : Int)) :: I t3 :: bt 42 (Bo (ltI 0 y21) :: bt 12 [])), [(32, .box [Ti j22.1, Ti j22.2]), (16, .box [Ti 0, Ti 0, Ti 0])]⟩) ?_ ?_
     ·refine L0 rfl rfl (E_move (I y21) rfl (by kernel_rfl)) ?_
      refine L0 rfl rfl (Y0_gtw (k := .i64) (a := y21) (b := 0) rfl (by kernel_rfl) (by kernel_rfl)) ?_
      refine XL_nil ?_
      kernel_rfl
     refine V_cond rfl (fun hc26 => ?_) (fun hc26 => ?_)
     ·have h := of_true h hc26
      obtain ⟨y27, hy27, h⟩ := of_bind h
      refine V_reg (mb 67 3612) [32, 16] (s1 := ⟨.bot :: .bot :: .pt 16 0 :: I y21 :: .pt 32 0 :: bt 4 (.c (.sl (p1.map c34)) :: I ((p1.length : Int)) :: I t3 :: bt 55 []), [(32, .box [Ti y27, Ti j22.2]), (16, .box [Ti 0, Ti 0, Ti 0])]⟩) ?_ ?_
      ·refine L0 rfl rfl (E_field (.pt 32 0) Try.underlying34 rfl sz3 rfl (by kernel_rfl) (by intro hh; cases hh)) ?_
       refine L0 rfl rfl (Y0_load1 (c := Ti j22.1) (cs := [Ti j22.2]) sc3 rfl (by kernel_rfl)) ?_
       refine L0 rfl rfl (E_move (I y21) rfl (by kernel_rfl)) ?_
       refine L1 rfl rfl (Y1_call (s_spec_nuMod hy27) cf_spec_nuMod rfl (by kernel_rfl)) ?_
       refine L0 rfl rfl (E_field (.pt 32 0) Try.underlying34 rfl sz3 rfl (by kernel_rfl) (by intro hh; cases hh)) ?_
       refine XL_cons rfl (E_store (id := 32) (off := 0) (cs := [Ti j22.1, Ti j22.2]) (vc := [Ti y27]) [Ti y27, Ti j22.2] rfl rfl (by kernel_rfl) (by kernel_rfl) (by kernel_rfl) sz3 (Nat.le_of_ble_eq_true rfl) (by kernel_rfl)) ?_
       refine XL_nil ?_
       kernel_rfl
      show V _ _ _ _
      obtain ⟨t28, ht28, h⟩ := of_sI h
      refine V_reg (mb 67 3612) [32, 16] (s1 := ⟨.bot :: .bot :: .pt 16 0 :: I y21 :: .pt 32 0 :: bt 4 (.c (.sl (p1.map c34)) :: I ((p1.length : Int)) :: I t28 :: bt 55 []), [(32, .box [Ti y27, Ti j22.2]), (16, .box [Ti 0, Ti 0, Ti 0])]⟩) ?_ ?_
      ·refine L0 rfl rfl (Y0_add64 (a := t3) (b := 1) rfl (by kernel_rfl) (by kernel_rfl)) ?_
       refine L0 rfl rfl (E_move (I (w64 (t3 + 1))) rfl (by kernel_rfl)) ?_
       refine XL_nil ?_
       subst ht28
       kernel_rfl
      exact ⟨n, Nat.lt_succ_self n, _, _, _, _,  by rfl, h⟩
     ·have h := of_false h hc26
      refine V_skip ?_
      show V _ _ _ _
      obtain ⟨t29, ht29, h⟩ := of_sI h
      refine V_reg (mb 67 3612) [32, 16] (s1 := ⟨.bot :: .bot :: .pt 16 0 :: I y21 :: .pt 32 0 :: bt 4 (.c (.sl (p1.map c34)) :: I ((p1.length : Int)) :: I t29 :: bt 55 []), [(32, .box [Ti j22.1, Ti j22.2]), (16, .box [Ti 0, Ti 0, Ti 0])]⟩) ?_ ?_
      ·refine L0 rfl rfl (Y0_add64 (a := t3) (b := 1) rfl (by kernel_rfl) (by kernel_rfl)) ?_
       refine L0 rfl rfl (E_move (I (w64 (t3 + 1))) rfl (by kernel_rfl)) ?_
       refine XL_nil ?_
       subst ht29
       kernel_rfl
      exact ⟨n, Nat.lt_succ_self n, _, _, _, _,  by rfl, h⟩
    ·have h := of_false h hc8
     refine V_exit ?_
     obtain rfl := some_inj h
     show St.keep _ _ _ = _
     rfl
  show V _ _ _ _
  refine V_sreg (mb 67 4) [16] (s1 := ⟨.bot :: .bot :: .pt 16 0 :: bt 64 [], [(16, .box [Ti o7.1, Ti o7.2.1, Ti o7.2.2])]⟩) ?_ ?_
  ·refine L0 rfl rfl (E_move (I o7.1) rfl (by kernel_rfl)) ?_
   refine L0 rfl rfl (E_field (.pt 32 0) Try.underlying34 rfl sz3 rfl (by kernel_rfl) (by intro hh; cases hh)) ?_
   refine L0 rfl rfl (Y0_load1 (c := Ti o7.2.1) (cs := [Ti o7.2.2]) sc3 rfl (by kernel_rfl)) ?_
   refine L0 rfl rfl (E_field (.pt 32 1) Try.underlying34 rfl sz3 rfl (by kernel_rfl) (by intro hh; cases hh)) ?_
   refine L0 rfl rfl (Y0_load1 (c := Ti o7.2.2) (cs := []) sc3 rfl (by kernel_rfl)) ?_
   refine L0 rfl rfl (Y0_build (cs := [Ti o7.1, Ti o7.2.1, Ti o7.2.2]) pl25 bt25 rfl rfl (by kernel_rfl)) ?_
   refine XL_cons rfl (E_store (id := 16) (off := 0) (cs := [Ti 0, Ti 0, Ti 0]) (vc := [Ti o7.1, Ti o7.2.1, Ti o7.2.2]) [Ti o7.1, Ti o7.2.1, Ti o7.2.2] rfl rfl (by kernel_rfl) (by kernel_rfl) (by kernel_rfl) sz25 (Nat.le_of_ble_eq_true rfl) (by kernel_rfl)) ?_
   refine XL_nil ?_
   kernel_rfl
  refine V_ret ?_
  obtain rfl := some_inj h
  show Post _ _ _ _ _
  exact ⟨.inr rfl, rfl, rfl, rfl⟩
theorem cf_spec_SumOfLattices : ∀ args w, (callFunc 13 args).run Try.prog w = .ok (.enter 13 args) w := run_callFunc Try.func13 (by kernel_rfl) (by kernel_rfl)
set_option maxRecDepth 100000 in
set_option maxHeartbeats 400000 in
theorem s_spec_SumOfLattices {a1 : (Int × Int × Int)} {b2 : (Int × Int × Int)} {r : (((Int × Int × Int)) × Bool)} (h : r_spec_SumOfLattices a1 b2 = some r) : CallS Try.prog 13 [.ag [Ti a1.1, Ti a1.2.1, Ti a1.2.2], .ag [Ti b2.1, Ti b2.2.1, Ti b2.2.2]] (.tc (.ag [Ti r.1.1, Ti r.1.2.1, Ti r.1.2.2]) (.tc (Bo r.2) .tn)) [] := by
  refine CallS_of_text (rs := [.w 4 3, .t 5]) (vs := [.cell 4 25, .tmp 5]) Try.func13 rfl rfl (.cons ⟨rfl, wd25⟩ (.cons rfl FitsL.nil)) (by decide) 21 rfl ?_
  unfold r_spec_SumOfLattices at h
  show V _ _ ⟨.ag [Ti a1.1, Ti a1.2.1, Ti a1.2.2] :: .ag [Ti b2.1, Ti b2.2.1, Ti b2.2.2] :: bt 19 [], []⟩ _
  refine V_sreg (mb 21 28) [32, 24, 16] (s1 := ⟨.bot :: .bot :: .pt 16 0 :: .pt 24 0 :: .pt 32 0 :: bt 16 [], [(32, .box [Ti 0, Ti 0, Ti 0]), (24, .box [Ti b2.1, Ti b2.2.1, Ti b2.2.2]), (16, .box [Ti a1.1, Ti a1.2.1, Ti a1.2.2])]⟩) ?_ ?_
  ·refine L1 rfl rfl (Y1_box (cs := [Ti a1.1, Ti a1.2.1, Ti a1.2.2]) rfl (by kernel_rfl)) ?_
   refine L1 rfl rfl (Y1_box (cs := [Ti b2.1, Ti b2.2.1, Ti b2.2.2]) rfl (by kernel_rfl)) ?_
   refine L1 rfl rfl (Y1_alloc (z := zv25) rfl zf25 rfl) ?_
   refine L0 rfl rfl (E_assign (Bo false) rfl (by kernel_rfl)) ?_
   refine XL_nil ?_
   kernel_rfl
  refine V_seq ?_
  obtain ⟨y3, hy3, h⟩ := of_bind h
  obtain ⟨b6, hb6, h⟩ := of_bind h
  refine V_sreg (mb 21 8220) [32, 24, 16] (s1 := ⟨.bot :: .bot :: .pt 16 0 :: .pt 24 0 :: .pt 32 0 :: bt 8 (Bo b6 :: bt 7 []), [(32, .box [Ti 0, Ti 0, Ti 0]), (24, .box [Ti b2.1, Ti b2.2.1, Ti b2.2.2]), (16, .box [Ti a1.1, Ti a1.2.1, Ti a1.2.2])]⟩) ?_ ?_
  ·refine L0 rfl rfl (E_loadn (cs := [Ti a1.1, Ti a1.2.1, Ti a1.2.2]) [Ti a1.1, Ti a1.2.1, Ti a1.2.2] wd25 rfl (by kernel_rfl) (Nat.le_of_ble_eq_true rfl) (by kernel_rfl)) ?_
   refine L1 rfl rfl (Y1_call (s_spec_laGood hy3) cf_spec_laGood rfl (by kernel_rfl)) ?_
   refine L0 rfl rfl (Y0_not (b := y3) rfl (by kernel_rfl)) ?_
   refine L0 rfl rfl (E_move (Bo (!y3)) rfl (by kernel_rfl)) ?_
   refine XL_split (!y3) (fun hc4 => ?_) (fun hc4 => ?_)
   ·have hb6 := some_inj (of_true hb6 hc4)
    refine XL_skipF _ rfl rfl (by kernel_rfl) hc4 rfl ?_
    refine XL_skipF _ rfl rfl (by kernel_rfl) hc4 rfl ?_
    refine XL_skipF _ rfl rfl (by kernel_rfl) hc4 rfl ?_
    refine XL_cons rfl (X_of_Y0 rfl (Y0_pickTe (b := !y3) (p := true) rfl (by kernel_rfl) hc4 (by kernel_rfl) hb6)) ?_
    refine XL_nil ?_
    kernel_rfl
   ·have hb6 := of_false hb6 hc4
    obtain ⟨y5, hy5, hb6⟩ := of_bind hb6
    have hb6 := some_inj hb6
    refine XL_takeC _ rfl rfl (by kernel_rfl) hc4 (X_of_Y0 rfl (E_loadn (cs := [Ti b2.1, Ti b2.2.1, Ti b2.2.2]) [Ti b2.1, Ti b2.2.1, Ti b2.2.2] wd25 rfl (by kernel_rfl) (Nat.le_of_ble_eq_true rfl) (by kernel_rfl))) ?_
    refine XL_takeC _ rfl rfl (by kernel_rfl) hc4 (X_of_Y1 rfl (Y1_call (s_spec_laGood hy5) cf_spec_laGood rfl (by kernel_rfl))) ?_
    refine XL_takeC _ rfl rfl (by kernel_rfl) hc4 (X_of_Y0 rfl (Y0_not (b := y5) rfl (by kernel_rfl))) ?_
    refine XL_cons rfl (X_of_Y0 rfl (Y0_pickFe (b := !y3) (p := !y5) rfl (by kernel_rfl) hc4 (by kernel_rfl) hb6)) ?_
    refine XL_nil ?_
    kernel_rfl
  refine V_cond rfl (fun hc7 => ?_) (fun hc7 => ?_)
  ·have h := of_true h hc7
   refine V_sreg (mb 21 48) [32] (s1 := ⟨bt 4 (.pt 32 0 :: Bo false :: bt 15 []), [(32, .box [Ti 0, Ti 0, Ti 0])]⟩) ?_ ?_
   ·refine L0 rfl rfl (Y0_build (cs := [Ti 0, Ti 0, Ti 0]) pl25 bt25 rfl rfl (by kernel_rfl)) ?_
    refine XL_cons rfl (E_store (id := 32) (off := 0) (cs := [Ti 0, Ti 0, Ti 0]) (vc := [Ti 0, Ti 0, Ti 0]) [Ti 0, Ti 0, Ti 0] rfl rfl (by kernel_rfl) (by kernel_rfl) (by kernel_rfl) sz25 (Nat.le_of_ble_eq_true rfl) (by kernel_rfl)) ?_
    refine L0 rfl rfl (E_assign (Bo false) rfl (by kernel_rfl)) ?_
    refine XL_nil ?_
    kernel_rfl
   refine V_ret ?_
   obtain rfl := some_inj h
   show Post _ _ _ _ _
   exact ⟨.inr rfl, rfl, rfl, rfl⟩
  ·have h := of_false h hc7
   refine V_skip ?_
   show V _ _ _ _
   obtain ⟨y8, hy8, h⟩ := of_bind h
   obtain ⟨y9, hy9, h⟩ := of_bind h
   obtain ⟨u10, hu10, h⟩ := of_bind h
   obtain ⟨y11, hy11, h⟩ := of_bind h
   refine V_sdreg [0, 1, 0, 7, 15, 31, 63, 127] 4 [[.z, .z, .b, .z], [.a, .z, .b, .z], [.b, .b, .z, .z], [.a, .a, .a, .z]] (mb 21 48) [32] (s1 := ⟨bt 4 (.pt 32 0 :: Bo true :: bt 15 []), [(32, .box [Ti y11.1, Ti y11.2.1, Ti y11.2.2])]⟩) (by kernel_rfl) (by kernel_rfl) ?_ ?_
   ·refine DE_0 0 (.ag [Ti a1.1, Ti a1.2.1, Ti a1.2.2]) (by kernel_rfl) rfl rfl rfl (gsat_none rfl) (by kernel_rfl) (E_loadn (cs := [Ti a1.1, Ti a1.2.1, Ti a1.2.2]) [Ti a1.1, Ti a1.2.1, Ti a1.2.2] wd25 rfl (by kernel_rfl) (Nat.le_of_ble_eq_true rfl) (by kernel_rfl)) 15 rfl ?_
    refine DE_1 1 (by kernel_rfl) rfl rfl rfl (gsat_none rfl) (Y1_call (s_spec_laBasis hy8) cf_spec_laBasis rfl (by kernel_rfl)) rfl rfl rfl 16 rfl ?_
    refine DE_0 2 (.ag [Ti b2.1, Ti b2.2.1, Ti b2.2.2]) (by kernel_rfl) rfl rfl rfl (gsat_none rfl) (by kernel_rfl) (E_loadn (cs := [Ti b2.1, Ti b2.2.1, Ti b2.2.2]) [Ti b2.1, Ti b2.2.1, Ti b2.2.2] wd25 rfl (by kernel_rfl) (Nat.le_of_ble_eq_true rfl) (by kernel_rfl)) 17 rfl ?_
    refine DE_1 3 (by kernel_rfl) rfl rfl rfl (gsat_none rfl) (Y1_call (s_spec_laBasis hy9) cf_spec_laBasis rfl (by kernel_rfl)) rfl rfl rfl 18 rfl ?_
    refine DL_nil (by kernel_rfl) ?_
    refine XL_cons rfl (X_appendA (c := c34) (xs := y8) (ys := y9) (id := 128) (z := zv34) rfl rfl Try.underlying71 izb34 rfl (by kernel_rfl) (by kernel_rfl) (by kernel_rfl) (fun _ => rfl) (room_some hu10) (by decide)) ?_
    refine L1 rfl rfl (Y1_callS (s_spec_laHermite hy11) cf_spec_laHermite rfl (by kernel_rfl) rfl rfl) ?_
    refine XL_cons rfl (E_store (id := 32) (off := 0) (cs := [Ti 0, Ti 0, Ti 0]) (vc := [Ti y11.1, Ti y11.2.1, Ti y11.2.2]) [Ti y11.1, Ti y11.2.1, Ti y11.2.2] rfl rfl (by kernel_rfl) (by kernel_rfl) (by kernel_rfl) sz25 (Nat.le_of_ble_eq_true rfl) (by kernel_rfl)) ?_
    refine L0 rfl rfl (E_assign (Bo true) rfl (by kernel_rfl)) ?_
    refine XL_nil ?_
    kernel_rfl
   refine V_ret ?_
   obtain rfl := some_inj h
   show Post _ _ _ _ _
   exact ⟨.inr rfl, rfl, rfl, rfl⟩
theorem cf_impl_LatticeIndex : ∀ args w, (callFunc 14 args).run Try.prog w = .ok (.enter 14 args) w := run_callFunc Try.func14 (by kernel_rfl) (by kernel_rfl)
set_option maxRecDepth 100000 in
set_option maxHeartbeats 400000 in
theorem s_impl_LatticeIndex {l1 : (Int × Int × Int)} {r : (Int × Bool)} (h : r_impl_LatticeIndex l1 = some r) : CallS Try.prog 14 [.ag [Ti l1.1, Ti l1.2.1, Ti l1.2.2]] (.tc (I r.1) (.tc (Bo r.2) .tn)) [] := by
  refine CallS_of_text (rs := [.t 2, .t 3]) (vs := [.tmp 2, .tmp 3]) Try.func14 rfl rfl (.cons rfl (.cons rfl FitsL.nil)) (by decide) 12 rfl ?_
  unfold r_impl_LatticeIndex at h
  show V _ _ ⟨.ag [Ti l1.1, Ti l1.2.1, Ti l1.2.2] :: bt 11 [], []⟩ _
  refine V_sreg (mb 12 2) [8] (s1 := ⟨.bot :: .pt 8 0 :: bt 10 [], [(8, .box [Ti l1.1, Ti l1.2.1, Ti l1.2.2])]⟩) ?_ ?_
  ·refine L1 rfl rfl (Y1_box (cs := [Ti l1.1, Ti l1.2.1, Ti l1.2.2]) rfl (by kernel_rfl)) ?_
   refine L0 rfl rfl (E_assign (I 0) rfl (by kernel_rfl)) ?_
   refine L0 rfl rfl (E_assign (Bo false) rfl (by kernel_rfl)) ?_
   refine XL_nil ?_
   kernel_rfl
  refine V_seq ?_
  obtain ⟨y2, hy2, h⟩ := of_bind h
  refine V_sreg (mb 12 66) [8] (s1 := ⟨.bot :: .pt 8 0 :: bt 4 (Bo (!y2) :: bt 5 []), [(8, .box [Ti l1.1, Ti l1.2.1, Ti l1.2.2])]⟩) ?_ ?_
  ·refine L0 rfl rfl (E_loadn (cs := [Ti l1.1, Ti l1.2.1, Ti l1.2.2]) [Ti l1.1, Ti l1.2.1, Ti l1.2.2] wd25 rfl (by kernel_rfl) (Nat.le_of_ble_eq_true rfl) (by kernel_rfl)) ?_
   refine L1 rfl rfl (Y1_call (s_impl_isLattice hy2) cf_impl_isLattice rfl (by kernel_rfl)) ?_
   refine L0 rfl rfl (Y0_not (b := y2) rfl (by kernel_rfl)) ?_
   refine XL_nil ?_
   kernel_rfl
  refine V_cond rfl (fun hc3 => ?_) (fun hc3 => ?_)
  ·have h := of_true h hc3
   refine V_sreg (mb 12 12) [] (s1 := ⟨.bot :: .bot :: I 0 :: Bo false :: bt 8 [], []⟩) ?_ ?_
   ·refine L0 rfl rfl (E_assign (I 0) rfl (by kernel_rfl)) ?_
    refine L0 rfl rfl (E_assign (Bo false) rfl (by kernel_rfl)) ?_
    refine XL_nil ?_
    kernel_rfl
   refine V_ret ?_
   obtain rfl := some_inj h
   show Post _ _ _ _ _
   exact ⟨.inr rfl, rfl, rfl, rfl⟩
  ·have h := of_false h hc3
   refine V_skip ?_
   show V _ _ _ _
   obtain ⟨t4, ht4, h⟩ := of_sI h
   refine V_sreg (mb 12 12) [] (s1 := ⟨.bot :: .bot :: I t4 :: Bo true :: bt 8 [], []⟩) ?_ ?_
   ·refine L0 rfl rfl (E_field (.pt 8 0) Try.underlying25 rfl sz3 rfl (by kernel_rfl) (by intro hh; cases hh)) ?_
    refine L0 rfl rfl (Y0_load1 (c := Ti l1.1) (cs := [Ti l1.2.1, Ti l1.2.2]) sc3 rfl (by kernel_rfl)) ?_
    refine L0 rfl rfl (E_field (.pt 8 2) Try.underlying25 rfl sz3 rfl (by kernel_rfl) (by intro hh; cases hh)) ?_
    refine L0 rfl rfl (Y0_load1 (c := Ti l1.2.2) (cs := []) sc3 rfl (by kernel_rfl)) ?_
    refine L0 rfl rfl (Y0_mul64 (a := l1.1) (b := l1.2.2) rfl (by kernel_rfl) (by kernel_rfl)) ?_
    refine L0 rfl rfl (E_assign (I (w64 (l1.1 * l1.2.2))) rfl (by kernel_rfl)) ?_
    refine L0 rfl rfl (E_assign (Bo true) rfl (by kernel_rfl)) ?_
    refine XL_nil ?_
    subst ht4
    kernel_rfl
   refine V_ret ?_
   obtain rfl := some_inj h
   show Post _ _ _ _ _
   exact ⟨.inr rfl, rfl, rfl, rfl⟩
theorem cf_laws_numberOf : ∀ args w, (callFunc 15 args).run Try.prog w = .ok (.enter 15 args) w := run_callFunc Try.func15 (by kernel_rfl) (by kernel_rfl)
set_option maxRecDepth 100000 in
set_option maxHeartbeats 400000 in
theorem s_laws_numberOf {b1 : List Int} {r : Int} (h : r_laws_numberOf b1 = some r) : CallS Try.prog 15 [.c (.sl (b1.map c5))] (I r) [] := by
  refine CallS_of_text (rs := [.t 2]) (vs := [.tmp 2]) Try.func15 rfl rfl (.cons rfl FitsL.nil) (by decide) 20 rfl ?_
  unfold r_laws_numberOf at h
  show V _ _ ⟨.c (.sl (b1.map c5)) :: bt 19 [], []⟩ _
  refine V_sreg (mb 20 1) [] (s1 := ⟨.c (.sl (b1.map c5)) :: bt 19 [], []⟩) ?_ ?_
  ·refine L0 rfl rfl (E_assign (I 0) rfl (by kernel_rfl)) ?_
   refine XL_nil ?_
   kernel_rfl
  refine V_sreg (mb 20 9) [] (s1 := ⟨.c (.sl (b1.map c5)) :: .bot :: .bot :: I 0 :: bt 16 [], []⟩) ?_ ?_
  ·refine L0 rfl rfl (E_assign (I 0) rfl (by kernel_rfl)) ?_
   refine XL_nil ?_
   kernel_rfl
  refine V_seq ?_
  refine V_sreg (mb 20 456) [] (s1 := ⟨bt 3 (I 0 :: .bot :: .bot :: .c (.sl (b1.map c5)) :: I ((b1.length : Int)) :: I 0 :: bt 11 []), []⟩) ?_ ?_
  ·refine L0 rfl rfl (E_move (.c (.sl (b1.map c5))) rfl (by kernel_rfl)) ?_
   refine L0 rfl rfl (Y0_lenM (c := c5) (xs := b1) Try.underlying22 rfl (by kernel_rfl)) ?_
   refine L0 rfl rfl (E_move (I 0) rfl (by kernel_rfl)) ?_
   refine XL_nil ?_
   kernel_rfl
  obtain ⟨o5, hLo5, h⟩ := of_bind h
  refine V_toK (mb 20 8) [] (s1 := ⟨bt 3 (I o5 :: bt 16 []), []⟩) ?_ ?_
  ·clear h
   refine V_block (V_loop (fun n s => ∃ (vn2 : Int) (t3 : Int), s.keep (mb 20 456) [] = (⟨bt 3 (I vn2 :: .bot :: .bot :: .c (.sl (b1.map c5)) :: I ((b1.length : Int)) :: I t3 :: bt 11 []), []⟩ : St) ∧ r_laws_numberOf_L4 b1 n vn2 t3 = some o5) FU ⟨_, _,  by rfl, hLo5⟩ ?_)
   clear hLo5
   rintro n s ⟨vn2, t3, hs, h⟩
   refine V_keep _ _ hs ?_
   clear hs
   cases n with
   | zero => cases h
   | succ n =>
    rw [r_laws_numberOf_L4] at h
    refine V_sreg (mb 20 968) [] (s1 := ⟨bt 3 (I vn2 :: .bot :: .bot :: .c (.sl (b1.map c5)) :: I ((b1.length : Int)) :: I t3 :: Bo (ltI t3 ((b1.length : Int))) :: bt 10 []), []⟩) ?_ ?_
    ·refine L0 rfl rfl (Y0_ltw (k := .i64) (a := t3) (b := (b1.length : Int)) rfl (by kernel_rfl) (by kernel_rfl)) ?_
     refine XL_nil ?_
     kernel_rfl
    refine V_seq ?_
    refine V_cond rfl (fun hc6 => ?_) (fun hc6 => ?_)
    ·have h := of_true h hc6
     refine V_skip ?_
     show V _ _ _ _
     refine V_seq ?_
     refine V_block ?_
     obtain ⟨e7, he7, h⟩ := of_bind h
     refine V_sreg (mb 20 488) [] (s1 := ⟨bt 3 (I vn2 :: .bot :: .c (.v (.int .u8 e7)) :: .c (.sl (b1.map c5)) :: I ((b1.length : Int)) :: I t3 :: bt 11 []), []⟩) ?_ ?_
     ·refine L0 rfl rfl (Y0_idxM (c := c5) (xs := b1) (v := e7) (n := t3) Try.underlying22 sz5 rfl (by kernel_rfl) (by kernel_rfl) he7) ?_
      refine L0 rfl rfl (Y0_load1 (c := .v (.int .u8 e7)) (cs := []) sc5 rfl (by kernel_rfl)) ?_
      refine L0 rfl rfl (E_assign (.c (.v (.int .u8 e7))) rfl (by kernel_rfl)) ?_
      refine XL_nil ?_
      kernel_rfl
     obtain ⟨vn8, hvn8, h⟩ := of_sI h
     refine V_reg (mb 20 456) [] (s1 := ⟨bt 3 (I vn8 :: .bot :: .bot :: .c (.sl (b1.map c5)) :: I ((b1.length : Int)) :: I t3 :: bt 11 []), []⟩) ?_ ?_
     ·refine L0 rfl rfl (E_move (I vn2) rfl (by kernel_rfl)) ?_
      refine L0 rfl rfl (Y0_mul64 (a := 31) (b := vn2) rfl (by kernel_rfl) (by kernel_rfl)) ?_
      refine L0 rfl rfl (E_move (.c (.v (.int .u8 e7))) rfl (by kernel_rfl)) ?_
      refine L0 rfl rfl (Y0_conv (k2 := .u8) (a := e7) Try.underlying5 Try.underlying3 rfl (by kernel_rfl)) ?_
      refine L0 rfl rfl (Y0_add64 (a := w64 (31 * vn2)) (b := IntKind.i64.wrap e7) rfl (by kernel_rfl) (by kernel_rfl)) ?_
      refine L0 rfl rfl (Y0_rem (k := .i64) (a := w64 ((w64 (31 * vn2)) + (IntKind.i64.wrap e7))) (b := 1000003) rfl (by kernel_rfl) (by kernel_rfl) (by decide)) ?_
      refine L0 rfl rfl (E_assign (I (Int.tmod (w64 ((w64 (31 * vn2)) + (IntKind.i64.wrap e7))) 1000003)) rfl (by kernel_rfl)) ?_
      refine XL_nil ?_
      subst hvn8
      kernel_rfl
     show V _ _ _ _
     obtain ⟨t9, ht9, h⟩ := of_sI h
     refine V_reg (mb 20 456) [] (s1 := ⟨bt 3 (I vn8 :: .bot :: .bot :: .c (.sl (b1.map c5)) :: I ((b1.length : Int)) :: I t9 :: bt 11 []), []⟩) ?_ ?_
     ·refine L0 rfl rfl (Y0_add64 (a := t3) (b := 1) rfl (by kernel_rfl) (by kernel_rfl)) ?_
      refine L0 rfl rfl (E_move (I (w64 (t3 + 1))) rfl (by kernel_rfl)) ?_
      refine XL_nil ?_
      subst ht9
      kernel_rfl
     exact ⟨n, Nat.lt_succ_self n, _, _,  by rfl, h⟩
    ·have h := of_false h hc6
     refine V_exit ?_
     obtain rfl := some_inj h
     show St.keep _ _ _ = _
     rfl
  show V _ _ _ _
  refine V_sreg (mb 20 4) [] (s1 := ⟨.bot :: .bot :: I o5 :: bt 17 [], []⟩) ?_ ?_
  ·refine L0 rfl rfl (E_move (I o5) rfl (by kernel_rfl)) ?_
   refine L0 rfl rfl (E_assign (I o5) rfl (by kernel_rfl)) ?_
   refine XL_nil ?_
   kernel_rfl
  refine V_ret ?_
  obtain rfl := some_inj h
  show Post _ _ _ _ _
  exact ⟨.inr rfl, rfl, rfl, rfl⟩
theorem cf_impl_isPlain : ∀ args w, (callFunc 68 args).run Try.prog w = .ok (.enter 68 args) w := run_callFunc Try.func68 (by kernel_rfl) (by kernel_rfl)
set_option maxRecDepth 100000 in
set_option maxHeartbeats 400000 in
theorem s_impl_isPlain {p1 : (Int × Int)} {r : Bool} (h : r_impl_isPlain p1 = some r) : CallS Try.prog 68 [.ag [Ti p1.1, Ti p1.2]] (Bo r) [] := by
  refine CallS_of_text (rs := [.t 2]) (vs := [.tmp 2]) Try.func68 rfl rfl (.cons rfl FitsL.nil) (by decide) 13 rfl ?_
  unfold r_impl_isPlain at h
  show V _ _ ⟨.ag [Ti p1.1, Ti p1.2] :: bt 12 [], []⟩ _
  refine V_sreg (mb 13 2) [8] (s1 := ⟨.bot :: .pt 8 0 :: bt 11 [], [(8, .box [Ti p1.1, Ti p1.2])]⟩) ?_ ?_
  ·refine L1 rfl rfl (Y1_box (cs := [Ti p1.1, Ti p1.2]) rfl (by kernel_rfl)) ?_
   refine L0 rfl rfl (E_assign (Bo false) rfl (by kernel_rfl)) ?_
   refine XL_nil ?_
   kernel_rfl
  obtain ⟨y2, hy2, h⟩ := of_bind h
  obtain ⟨b5, hb5, h⟩ := of_bind h
  refine V_sreg (mb 13 4) [] (s1 := ⟨.bot :: .bot :: Bo b5 :: bt 10 [], []⟩) ?_ ?_
  ·refine L0 rfl rfl (E_field (.pt 8 0) Try.underlying34 rfl sz3 rfl (by kernel_rfl) (by intro hh; cases hh)) ?_
   refine L0 rfl rfl (Y0_load1 (c := Ti p1.1) (cs := [Ti p1.2]) sc3 rfl (by kernel_rfl)) ?_
   refine L1 rfl rfl (Y1_call (s_impl_abs hy2) cf_impl_abs rfl (by kernel_rfl)) ?_
   refine L0 rfl rfl (Y0_lew (k := .i64) (a := y2) (b := 10000) rfl (by kernel_rfl) (by kernel_rfl)) ?_
   refine L0 rfl rfl (E_move (Bo (leI y2 10000)) rfl (by kernel_rfl)) ?_
   refine XL_split (leI y2 10000) (fun hc3 => ?_) (fun hc3 => ?_)
   ·have hb5 := of_true hb5 hc3
    obtain ⟨y4, hy4, hb5⟩ := of_bind hb5
    have hb5 := some_inj hb5
    refine XL_takeC _ rfl rfl (by kernel_rfl) hc3 (X_of_Y0 rfl (E_field (.pt 8 1) Try.underlying34 rfl sz3 rfl (by kernel_rfl) (by intro hh; cases hh))) ?_
    refine XL_takeC _ rfl rfl (by kernel_rfl) hc3 (X_of_Y0 rfl (Y0_load1 (c := Ti p1.2) (cs := []) sc3 rfl (by kernel_rfl))) ?_
    refine XL_takeC _ rfl rfl (by kernel_rfl) hc3 (X_of_Y1 rfl (Y1_call (s_impl_abs hy4) cf_impl_abs rfl (by kernel_rfl))) ?_
    refine XL_takeC _ rfl rfl (by kernel_rfl) hc3 (X_of_Y0 rfl (Y0_lew (k := .i64) (a := y4) (b := 10000) rfl (by kernel_rfl) (by kernel_rfl))) ?_
    refine XL_cons rfl (X_of_Y0 rfl (Y0_pickTe (b := leI y2 10000) (p := leI y4 10000) rfl (by kernel_rfl) hc3 (by kernel_rfl) hb5)) ?_
    refine L0 rfl rfl (E_assign (Bo b5) rfl (by kernel_rfl)) ?_
    refine XL_nil ?_
    kernel_rfl
   ·have hb5 := some_inj (of_false hb5 hc3)
    refine XL_skipT _ rfl rfl (by kernel_rfl) hc3 rfl ?_
    refine XL_skipT _ rfl rfl (by kernel_rfl) hc3 rfl ?_
    refine XL_skipT _ rfl rfl (by kernel_rfl) hc3 rfl ?_
    refine XL_skipT _ rfl rfl (by kernel_rfl) hc3 rfl ?_
    refine XL_cons rfl (X_of_Y0 rfl (Y0_pickFe (b := leI y2 10000) (p := false) rfl (by kernel_rfl) hc3 (by kernel_rfl) hb5)) ?_
    refine L0 rfl rfl (E_assign (Bo b5) rfl (by kernel_rfl)) ?_
    refine XL_nil ?_
    kernel_rfl
  refine V_ret ?_
  obtain rfl := some_inj h
  show Post _ _ _ _ _
  exact ⟨.inr rfl, rfl, rfl, rfl⟩
theorem cf_impl_Lattice_has : ∀ args w, (callFunc 69 args).run Try.prog w = .ok (.enter 69 args) w := run_callFunc Try.func69 (by kernel_rfl) (by kernel_rfl)
set_option maxRecDepth 100000 in
set_option maxHeartbeats 400000 in
theorem s_impl_Lattice_has {l1 : (Int × Int × Int)} {x2 : Int} {y3 : Int} {r : Bool} (h : r_impl_Lattice_has l1 x2 y3 = some r) : CallS Try.prog 69 [.ag [Ti l1.1, Ti l1.2.1, Ti l1.2.2], I x2, I y3] (Bo r) [] := by
  refine CallS_of_text (rs := [.t 6]) (vs := [.tmp 6]) Try.func69 rfl rfl (.cons rfl FitsL.nil) (by decide) 27 rfl ?_
  unfold r_impl_Lattice_has at h
  show V _ _ ⟨.ag [Ti l1.1, Ti l1.2.1, Ti l1.2.2] :: I x2 :: I y3 :: bt 24 [], []⟩ _
  refine V_sreg (mb 27 14) [24] (s1 := ⟨.bot :: I x2 :: I y3 :: .pt 24 0 :: bt 23 [], [(24, .box [Ti l1.1, Ti l1.2.1, Ti l1.2.2])]⟩) ?_ ?_
  ·refine L1 rfl rfl (Y1_box (cs := [Ti l1.1, Ti l1.2.1, Ti l1.2.2]) rfl (by kernel_rfl)) ?_
   refine L0 rfl rfl (E_assign (Bo false) rfl (by kernel_rfl)) ?_
   refine XL_nil ?_
   kernel_rfl
  obtain ⟨z4, hz4, h⟩ := of_bind h
  obtain ⟨b8, hb8, h⟩ := of_bind h
  refine V_sdreg [0, 0, 2, 7, 15, 31, 63, 63, 63, 319, 959, 63, 2111, 8127, 16383, 63, 32831, 131071, 262143, 524287, 1048575] 21 [[.z, .b, .b, .z, .z, .z, .z, .z, .z, .z, .z, .z, .z, .z, .z, .z, .z, .z, .z, .z, .z], [.b, .z, .z, .z, .z, .z, .z, .z, .z, .z, .z, .z, .z, .z, .z, .z, .z, .z, .z, .z, .z], [.b, .a, .z, .z, .z, .z, .z, .z, .z, .z, .z, .z, .z, .z, .z, .z, .z, .z, .z, .z, .z], [.a, .a, .a, .z, .z, .z, .z, .z, .z, .z, .z, .z, .z, .z, .z, .z, .z, .z, .z, .z, .z], [.a, .a, .a, .a, .z, .z, .z, .z, .z, .z, .z, .z, .z, .z, .z, .z, .z, .z, .z, .z, .z], [.a, .a, .a, .a, .a, .z, .z, .z, .z, .z, .z, .z, .z, .z, .z, .z, .z, .z, .z, .z, .z], [.a, .a, .a, .a, .a, .a, .z, .b, .b, .b, .b, .b, .b, .b, .z, .b, .b, .z, .z, .z, .z], [.a, .a, .a, .a, .a, .a, .b, .z, .b, .b, .z, .b, .b, .z, .z, .b, .b, .z, .z, .z, .z], [.a, .a, .a, .a, .a, .a, .b, .b, .z, .z, .z, .b, .b, .z, .z, .b, .b, .z, .z, .z, .z], [.a, .a, .a, .a, .a, .a, .b, .b, .a, .z, .z, .b, .b, .z, .z, .b, .b, .z, .z, .z, .z], [.a, .a, .a, .a, .a, .a, .b, .a, .a, .a, .z, .b, .b, .z, .z, .b, .b, .z, .z, .z, .z], [.a, .a, .a, .a, .a, .a, .b, .b, .b, .b, .b, .z, .z, .z, .z, .b, .b, .z, .z, .z, .z], [.a, .a, .a, .a, .a, .a, .b, .b, .b, .b, .b, .a, .z, .z, .z, .b, .b, .z, .z, .z, .z], [.a, .a, .a, .a, .a, .a, .b, .a, .a, .a, .a, .a, .a, .z, .z, .b, .b, .z, .z, .z, .z], [.a, .a, .a, .a, .a, .a, .a, .a, .a, .a, .a, .a, .a, .a, .z, .b, .b, .z, .z, .z, .z], [.a, .a, .a, .a, .a, .a, .b, .b, .b, .b, .b, .b, .b, .b, .b, .z, .z, .z, .z, .z, .z], [.a, .a, .a, .a, .a, .a, .b, .b, .b, .b, .b, .b, .b, .b, .b, .a, .z, .z, .z, .z, .z], [.a, .a, .a, .a, .a, .a, .a, .a, .a, .a, .a, .a, .a, .a, .a, .a, .a, .z, .z, .z, .z], [.a, .a, .a, .a, .a, .a, .a, .a, .a, .a, .a, .a, .a, .a, .a, .a, .a, .a, .z, .z, .z], [.a, .a, .a, .a, .a, .a, .a, .a, .a, .a, .a, .a, .a, .a, .a, .a, .a, .a, .a, .z, .z], [.a, .a, .a, .a, .a, .a, .a, .a, .a, .a, .a, .a, .a, .a, .a, .a, .a, .a, .a, .a, .z]] (mb 27 64) [] (s1 := ⟨bt 6 (Bo b8 :: bt 20 []), []⟩) (by kernel_rfl) (by kernel_rfl) ?_ ?_
  ·refine DE_0 0 (I y3) (by kernel_rfl) rfl rfl rfl (gsat_none rfl) (by kernel_rfl) (E_move (I y3) rfl (by kernel_rfl)) 7 rfl ?_
   refine DE_0 1 (.pt 24 2) (by kernel_rfl) rfl rfl rfl (gsat_none rfl) (by kernel_rfl) (E_field (.pt 24 2) Try.underlying25 rfl sz3 rfl (by kernel_rfl) (by intro hh; cases hh)) 8 rfl ?_
   refine DE_0 2 (I l1.2.2) (by kernel_rfl) rfl rfl rfl (gsat_none rfl) (by kernel_rfl) (Y0_load1 (c := Ti l1.2.2) (cs := []) sc3 rfl (by kernel_rfl)) 9 rfl ?_
   refine DE_0 3 (I (Int.tmod y3 l1.2.2)) (by kernel_rfl) rfl rfl rfl (gsat_none rfl) (by kernel_rfl) (Y0_rem (k := .i64) (a := y3) (b := l1.2.2) rfl (by kernel_rfl) (by kernel_rfl) (nz_some hz4)) 10 rfl ?_
   refine DE_0 4 (Bo (eqI (Int.tmod y3 l1.2.2) 0)) (by kernel_rfl) rfl rfl rfl (gsat_none rfl) (by kernel_rfl) (Y0_eqw (k := .i64) (a := Int.tmod y3 l1.2.2) (b := 0) rfl (by kernel_rfl) (by kernel_rfl)) 11 rfl ?_
   refine DE_0 5 (Bo (eqI (Int.tmod y3 l1.2.2) 0)) (by kernel_rfl) rfl rfl rfl (gsat_none rfl) (by kernel_rfl) (E_move (Bo (eqI (Int.tmod y3 l1.2.2) 0)) rfl (by kernel_rfl)) 12 rfl ?_
   refine DL_split (eqI (Int.tmod y3 l1.2.2) 0) (fun hc5 => ?_) (fun hc5 => ?_)
   ·have hb8 := of_true hb8 hc5
    obtain ⟨z6, hz6, hb8⟩ := of_bind hb8
    obtain ⟨z7, hz7, hb8⟩ := of_bind hb8
    have hb8 := some_inj hb8
    refine DE_0 6 (I x2) (by kernel_rfl) rfl rfl rfl (gsat_C (eqI (Int.tmod y3 l1.2.2) 0) rfl rfl (by kernel_rfl) hc5) (by kernel_rfl) (E_move (I x2) rfl (by kernel_rfl)) 13 rfl ?_
    refine DE_0 7 (I y3) (by kernel_rfl) rfl rfl rfl (gsat_C (eqI (Int.tmod y3 l1.2.2) 0) rfl rfl (by kernel_rfl) hc5) (by kernel_rfl) (E_move (I y3) rfl (by kernel_rfl)) 14 rfl ?_
    refine DE_0 8 (.pt 24 2) (by kernel_rfl) rfl rfl rfl (gsat_C (eqI (Int.tmod y3 l1.2.2) 0) rfl rfl (by kernel_rfl) hc5) (by kernel_rfl) (E_field (.pt 24 2) Try.underlying25 rfl sz3 rfl (by kernel_rfl) (by intro hh; cases hh)) 15 rfl ?_
    refine DE_0 9 (I l1.2.2) (by kernel_rfl) rfl rfl rfl (gsat_C (eqI (Int.tmod y3 l1.2.2) 0) rfl rfl (by kernel_rfl) hc5) (by kernel_rfl) (Y0_load1 (c := Ti l1.2.2) (cs := []) sc3 rfl (by kernel_rfl)) 16 rfl ?_
    refine DE_0 10 (I (w64 (Int.tdiv y3 l1.2.2))) (by kernel_rfl) rfl rfl rfl (gsat_C (eqI (Int.tmod y3 l1.2.2) 0) rfl rfl (by kernel_rfl) hc5) (by kernel_rfl) (Y0_quo64 (a := y3) (b := l1.2.2) rfl (by kernel_rfl) (by kernel_rfl) (nz_some hz6)) 17 rfl ?_
    refine DE_0 11 (.pt 24 1) (by kernel_rfl) rfl rfl rfl (gsat_C (eqI (Int.tmod y3 l1.2.2) 0) rfl rfl (by kernel_rfl) hc5) (by kernel_rfl) (E_field (.pt 24 1) Try.underlying25 rfl sz3 rfl (by kernel_rfl) (by intro hh; cases hh)) 18 rfl ?_
    refine DE_0 12 (I l1.2.1) (by kernel_rfl) rfl rfl rfl (gsat_C (eqI (Int.tmod y3 l1.2.2) 0) rfl rfl (by kernel_rfl) hc5) (by kernel_rfl) (Y0_load1 (c := Ti l1.2.1) (cs := [Ti l1.2.2]) sc3 rfl (by kernel_rfl)) 19 rfl ?_
    refine DE_0 13 (I (w64 ((w64 (Int.tdiv y3 l1.2.2)) * l1.2.1))) (by kernel_rfl) rfl rfl rfl (gsat_C (eqI (Int.tmod y3 l1.2.2) 0) rfl rfl (by kernel_rfl) hc5) (by kernel_rfl) (Y0_mul64 (a := w64 (Int.tdiv y3 l1.2.2)) (b := l1.2.1) rfl (by kernel_rfl) (by kernel_rfl)) 20 rfl ?_
    refine DE_0 14 (I (w64 (x2 - (w64 ((w64 (Int.tdiv y3 l1.2.2)) * l1.2.1))))) (by kernel_rfl) rfl rfl rfl (gsat_C (eqI (Int.tmod y3 l1.2.2) 0) rfl rfl (by kernel_rfl) hc5) (by kernel_rfl) (Y0_sub64 (a := x2) (b := w64 ((w64 (Int.tdiv y3 l1.2.2)) * l1.2.1)) rfl (by kernel_rfl) (by kernel_rfl)) 21 rfl ?_
    refine DE_0 15 (.pt 24 0) (by kernel_rfl) rfl rfl rfl (gsat_C (eqI (Int.tmod y3 l1.2.2) 0) rfl rfl (by kernel_rfl) hc5) (by kernel_rfl) (E_field (.pt 24 0) Try.underlying25 rfl sz3 rfl (by kernel_rfl) (by intro hh; cases hh)) 22 rfl ?_
    refine DE_0 16 (I l1.1) (by kernel_rfl) rfl rfl rfl (gsat_C (eqI (Int.tmod y3 l1.2.2) 0) rfl rfl (by kernel_rfl) hc5) (by kernel_rfl) (Y0_load1 (c := Ti l1.1) (cs := [Ti l1.2.1, Ti l1.2.2]) sc3 rfl (by kernel_rfl)) 23 rfl ?_
    refine DE_0 17 (I (Int.tmod (w64 (x2 - (w64 ((w64 (Int.tdiv y3 l1.2.2)) * l1.2.1)))) l1.1)) (by kernel_rfl) rfl rfl rfl (gsat_C (eqI (Int.tmod y3 l1.2.2) 0) rfl rfl (by kernel_rfl) hc5) (by kernel_rfl) (Y0_rem (k := .i64) (a := w64 (x2 - (w64 ((w64 (Int.tdiv y3 l1.2.2)) * l1.2.1)))) (b := l1.1) rfl (by kernel_rfl) (by kernel_rfl) (nz_some hz7)) 24 rfl ?_
    refine DE_0 18 (Bo (eqI (Int.tmod (w64 (x2 - (w64 ((w64 (Int.tdiv y3 l1.2.2)) * l1.2.1)))) l1.1) 0)) (by kernel_rfl) rfl rfl rfl (gsat_C (eqI (Int.tmod y3 l1.2.2) 0) rfl rfl (by kernel_rfl) hc5) (by kernel_rfl) (Y0_eqw (k := .i64) (a := Int.tmod (w64 (x2 - (w64 ((w64 (Int.tdiv y3 l1.2.2)) * l1.2.1)))) l1.1) (b := 0) rfl (by kernel_rfl) (by kernel_rfl)) 25 rfl ?_
    refine DE_0 19 (Bo (b8)) (by kernel_rfl) rfl rfl rfl (gsat_none rfl) (by kernel_rfl) (Y0_pickTe (b := eqI (Int.tmod y3 l1.2.2) 0) (p := eqI (Int.tmod (w64 (x2 - (w64 ((w64 (Int.tdiv y3 l1.2.2)) * l1.2.1)))) l1.1) 0) rfl (by kernel_rfl) hc5 (by kernel_rfl) hb8) 26 rfl ?_
    refine DE_0 20 (Bo b8) (by kernel_rfl) rfl rfl rfl (gsat_none rfl) (by kernel_rfl) (E_assign (Bo b8) rfl (by kernel_rfl)) 6 rfl ?_
    refine DL_nil (by kernel_rfl) ?_
    refine XL_nil ?_
    kernel_rfl
   ·have hb8 := some_inj (of_false hb8 hc5)
    refine DE_t 6 (by kernel_rfl) rfl rfl rfl (gun_T (eqI (Int.tmod y3 l1.2.2) 0) rfl rfl (by kernel_rfl) hc5) 13 rfl ?_
    refine DE_t 7 (by kernel_rfl) rfl rfl rfl (gun_T (eqI (Int.tmod y3 l1.2.2) 0) rfl rfl (by kernel_rfl) hc5) 14 rfl ?_
    refine DE_t 8 (by kernel_rfl) rfl rfl rfl (gun_T (eqI (Int.tmod y3 l1.2.2) 0) rfl rfl (by kernel_rfl) hc5) 15 rfl ?_
    refine DE_t 9 (by kernel_rfl) rfl rfl rfl (gun_T (eqI (Int.tmod y3 l1.2.2) 0) rfl rfl (by kernel_rfl) hc5) 16 rfl ?_
    refine DE_t 10 (by kernel_rfl) rfl rfl rfl (gun_T (eqI (Int.tmod y3 l1.2.2) 0) rfl rfl (by kernel_rfl) hc5) 17 rfl ?_
    refine DE_t 11 (by kernel_rfl) rfl rfl rfl (gun_T (eqI (Int.tmod y3 l1.2.2) 0) rfl rfl (by kernel_rfl) hc5) 18 rfl ?_
    refine DE_t 12 (by kernel_rfl) rfl rfl rfl (gun_T (eqI (Int.tmod y3 l1.2.2) 0) rfl rfl (by kernel_rfl) hc5) 19 rfl ?_
    refine DE_t 13 (by kernel_rfl) rfl rfl rfl (gun_T (eqI (Int.tmod y3 l1.2.2) 0) rfl rfl (by kernel_rfl) hc5) 20 rfl ?_
    refine DE_t 14 (by kernel_rfl) rfl rfl rfl (gun_T (eqI (Int.tmod y3 l1.2.2) 0) rfl rfl (by kernel_rfl) hc5) 21 rfl ?_
    refine DE_t 15 (by kernel_rfl) rfl rfl rfl (gun_T (eqI (Int.tmod y3 l1.2.2) 0) rfl rfl (by kernel_rfl) hc5) 22 rfl ?_
    refine DE_t 16 (by kernel_rfl) rfl rfl rfl (gun_T (eqI (Int.tmod y3 l1.2.2) 0) rfl rfl (by kernel_rfl) hc5) 23 rfl ?_
    refine DE_t 17 (by kernel_rfl) rfl rfl rfl (gun_T (eqI (Int.tmod y3 l1.2.2) 0) rfl rfl (by kernel_rfl) hc5) 24 rfl ?_
    refine DE_t 18 (by kernel_rfl) rfl rfl rfl (gun_T (eqI (Int.tmod y3 l1.2.2) 0) rfl rfl (by kernel_rfl) hc5) 25 rfl ?_
    refine DE_0 19 (Bo (b8)) (by kernel_rfl) rfl rfl rfl (gsat_none rfl) (by kernel_rfl) (Y0_pickFe (b := eqI (Int.tmod y3 l1.2.2) 0) (p := false) rfl (by kernel_rfl) hc5 (by kernel_rfl) hb8) 26 rfl ?_
    refine DE_0 20 (Bo b8) (by kernel_rfl) rfl rfl rfl (gsat_none rfl) (by kernel_rfl) (E_assign (Bo b8) rfl (by kernel_rfl)) 6 rfl ?_
    refine DL_nil (by kernel_rfl) ?_
    refine XL_nil ?_
    kernel_rfl
  refine V_ret ?_
  obtain rfl := some_inj h
  show Post _ _ _ _ _
  exact ⟨.inr rfl, rfl, rfl, rfl⟩
theorem cf_impl_IsInLattice : ∀ args w, (callFunc 16 args).run Try.prog w = .ok (.enter 16 args) w := run_callFunc Try.func16 (by kernel_rfl) (by kernel_rfl)
set_option maxRecDepth 100000 in
set_option maxHeartbeats 400000 in
theorem s_impl_IsInLattice {l1 : (Int × Int × Int)} {p2 : (Int × Int)} {r : (Bool × Bool)} (h : r_impl_IsInLattice l1 p2 = some r) : CallS Try.prog 16 [.ag [Ti l1.1, Ti l1.2.1, Ti l1.2.2], .ag [Ti p2.1, Ti p2.2]] (.tc (Bo r.1) (.tc (Bo r.2) .tn)) [] := by
  refine CallS_of_text (rs := [.t 4, .t 5]) (vs := [.tmp 4, .tmp 5]) Try.func16 rfl rfl (.cons rfl (.cons rfl FitsL.nil)) (by decide) 20 rfl ?_
  unfold r_impl_IsInLattice at h
  show V _ _ ⟨.ag [Ti l1.1, Ti l1.2.1, Ti l1.2.2] :: .ag [Ti p2.1, Ti p2.2] :: bt 18 [], []⟩ _
  refine V_sreg (mb 20 12) [24, 16] (s1 := ⟨.bot :: .bot :: .pt 16 0 :: .pt 24 0 :: bt 16 [], [(24, .box [Ti p2.1, Ti p2.2]), (16, .box [Ti l1.1, Ti l1.2.1, Ti l1.2.2])]⟩) ?_ ?_
  ·refine L1 rfl rfl (Y1_box (cs := [Ti l1.1, Ti l1.2.1, Ti l1.2.2]) rfl (by kernel_rfl)) ?_
   refine L1 rfl rfl (Y1_box (cs := [Ti p2.1, Ti p2.2]) rfl (by kernel_rfl)) ?_
   refine L0 rfl rfl (E_assign (Bo false) rfl (by kernel_rfl)) ?_
   refine L0 rfl rfl (E_assign (Bo false) rfl (by kernel_rfl)) ?_
   refine XL_nil ?_
   kernel_rfl
  refine V_seq ?_
  obtain ⟨y3, hy3, h⟩ := of_bind h
  obtain ⟨b6, hb6, h⟩ := of_bind h
  refine V_sreg (mb 20 8204) [24, 16] (s1 := ⟨.bot :: .bot :: .pt 16 0 :: .pt 24 0 :: bt 9 (Bo b6 :: bt 6 []), [(24, .box [Ti p2.1, Ti p2.2]), (16, .box [Ti l1.1, Ti l1.2.1, Ti l1.2.2])]⟩) ?_ ?_
  ·refine L0 rfl rfl (E_loadn (cs := [Ti l1.1, Ti l1.2.1, Ti l1.2.2]) [Ti l1.1, Ti l1.2.1, Ti l1.2.2] wd25 rfl (by kernel_rfl) (Nat.le_of_ble_eq_true rfl) (by kernel_rfl)) ?_
   refine L1 rfl rfl (Y1_call (s_impl_isLattice hy3) cf_impl_isLattice rfl (by kernel_rfl)) ?_
   refine L0 rfl rfl (Y0_not (b := y3) rfl (by kernel_rfl)) ?_
   refine L0 rfl rfl (E_move (Bo (!y3)) rfl (by kernel_rfl)) ?_
   refine XL_split (!y3) (fun hc4 => ?_) (fun hc4 => ?_)
   ·have hb6 := some_inj (of_true hb6 hc4)
    refine XL_skipF _ rfl rfl (by kernel_rfl) hc4 rfl ?_
    refine XL_skipF _ rfl rfl (by kernel_rfl) hc4 rfl ?_
    refine XL_skipF _ rfl rfl (by kernel_rfl) hc4 rfl ?_
    refine XL_cons rfl (X_of_Y0 rfl (Y0_pickTe (b := !y3) (p := true) rfl (by kernel_rfl) hc4 (by kernel_rfl) hb6)) ?_
    refine XL_nil ?_
    kernel_rfl
   ·have hb6 := of_false hb6 hc4
    obtain ⟨y5, hy5, hb6⟩ := of_bind hb6
    have hb6 := some_inj hb6
    refine XL_takeC _ rfl rfl (by kernel_rfl) hc4 (X_of_Y0 rfl (E_loadn (cs := [Ti p2.1, Ti p2.2]) [Ti p2.1, Ti p2.2] wd34 rfl (by kernel_rfl) (Nat.le_of_ble_eq_true rfl) (by kernel_rfl))) ?_
    refine XL_takeC _ rfl rfl (by kernel_rfl) hc4 (X_of_Y1 rfl (Y1_call (s_impl_isPlain hy5) cf_impl_isPlain rfl (by kernel_rfl))) ?_
    refine XL_takeC _ rfl rfl (by kernel_rfl) hc4 (X_of_Y0 rfl (Y0_not (b := y5) rfl (by kernel_rfl))) ?_
    refine XL_cons rfl (X_of_Y0 rfl (Y0_pickFe (b := !y3) (p := !y5) rfl (by kernel_rfl) hc4 (by kernel_rfl) hb6)) ?_
    refine XL_nil ?_
    kernel_rfl
  refine V_cond rfl (fun hc7 => ?_) (fun hc7 => ?_)
  ·have h := of_true h hc7
   refine V_sreg (mb 20 48) [] (s1 := ⟨bt 4 (Bo false :: Bo false :: bt 14 []), []⟩) ?_ ?_
   ·refine L0 rfl rfl (E_assign (Bo false) rfl (by kernel_rfl)) ?_
    refine L0 rfl rfl (E_assign (Bo false) rfl (by kernel_rfl)) ?_
    refine XL_nil ?_
    kernel_rfl
   refine V_ret ?_
   obtain rfl := some_inj h
   show Post _ _ _ _ _
   exact ⟨.inr rfl, rfl, rfl, rfl⟩
  ·have h := of_false h hc7
   refine V_skip ?_
   show V _ _ _ _
   obtain ⟨y8, hy8, h⟩ := of_bind h
   refine V_sreg (mb 20 48) [] (s1 := ⟨bt 4 (Bo y8 :: Bo true :: bt 14 []), []⟩) ?_ ?_
   ·refine L0 rfl rfl (E_loadn (cs := [Ti l1.1, Ti l1.2.1, Ti l1.2.2]) [Ti l1.1, Ti l1.2.1, Ti l1.2.2] wd25 rfl (by kernel_rfl) (Nat.le_of_ble_eq_true rfl) (by kernel_rfl)) ?_
    refine L0 rfl rfl (E_field (.pt 24 0) Try.underlying34 rfl sz3 rfl (by kernel_rfl) (by intro hh; cases hh)) ?_
    refine L0 rfl rfl (Y0_load1 (c := Ti p2.1) (cs := [Ti p2.2]) sc3 rfl (by kernel_rfl)) ?_
    refine L0 rfl rfl (E_field (.pt 24 1) Try.underlying34 rfl sz3 rfl (by kernel_rfl) (by intro hh; cases hh)) ?_
    refine L0 rfl rfl (Y0_load1 (c := Ti p2.2) (cs := []) sc3 rfl (by kernel_rfl)) ?_
    refine L1 rfl rfl (Y1_call (s_impl_Lattice_has hy8) cf_impl_Lattice_has rfl (by kernel_rfl)) ?_
    refine L0 rfl rfl (E_assign (Bo y8) rfl (by kernel_rfl)) ?_
    refine L0 rfl rfl (E_assign (Bo true) rfl (by kernel_rfl)) ?_
    refine XL_nil ?_
    kernel_rfl
   refine V_ret ?_
   obtain rfl := some_inj h
   show Post _ _ _ _ _
   exact ⟨.inr rfl, rfl, rfl, rfl⟩
theorem cf_impl_IsSublattice : ∀ args w, (callFunc 17 args).run Try.prog w = .ok (.enter 17 args) w := run_callFunc Try.func17 (by kernel_rfl) (by kernel_rfl)
set_option maxRecDepth 100000 in
set_option maxHeartbeats 400000 in
theorem s_impl_IsSublattice {a1 : (Int × Int × Int)} {b2 : (Int × Int × Int)} {r : (Bool × Bool)} (h : r_impl_IsSublattice a1 b2 = some r) : CallS Try.prog 17 [.ag [Ti a1.1, Ti a1.2.1, Ti a1.2.2], .ag [Ti b2.1, Ti b2.2.1, Ti b2.2.2]] (.tc (Bo r.1) (.tc (Bo r.2) .tn)) [] := by
  refine CallS_of_text (rs := [.t 4, .t 5]) (vs := [.tmp 4, .tmp 5]) Try.func17 rfl rfl (.cons rfl (.cons rfl FitsL.nil)) (by decide) 26 rfl ?_
  unfold r_impl_IsSublattice at h
  show V _ _ ⟨.ag [Ti a1.1, Ti a1.2.1, Ti a1.2.2] :: .ag [Ti b2.1, Ti b2.2.1, Ti b2.2.2] :: bt 24 [], []⟩ _
  refine V_sreg (mb 26 12) [24, 16] (s1 := ⟨.bot :: .bot :: .pt 16 0 :: .pt 24 0 :: bt 22 [], [(24, .box [Ti b2.1, Ti b2.2.1, Ti b2.2.2]), (16, .box [Ti a1.1, Ti a1.2.1, Ti a1.2.2])]⟩) ?_ ?_
  ·refine L1 rfl rfl (Y1_box (cs := [Ti a1.1, Ti a1.2.1, Ti a1.2.2]) rfl (by kernel_rfl)) ?_
   refine L1 rfl rfl (Y1_box (cs := [Ti b2.1, Ti b2.2.1, Ti b2.2.2]) rfl (by kernel_rfl)) ?_
   refine L0 rfl rfl (E_assign (Bo false) rfl (by kernel_rfl)) ?_
   refine L0 rfl rfl (E_assign (Bo false) rfl (by kernel_rfl)) ?_
   refine XL_nil ?_
   kernel_rfl
  refine V_seq ?_
  obtain ⟨y3, hy3, h⟩ := of_bind h
  obtain ⟨b6, hb6, h⟩ := of_bind h
  refine V_sreg (mb 26 8204) [24, 16] (s1 := ⟨.bot :: .bot :: .pt 16 0 :: .pt 24 0 :: bt 9 (Bo b6 :: bt 12 []), [(24, .box [Ti b2.1, Ti b2.2.1, Ti b2.2.2]), (16, .box [Ti a1.1, Ti a1.2.1, Ti a1.2.2])]⟩) ?_ ?_
  ·refine L0 rfl rfl (E_loadn (cs := [Ti a1.1, Ti a1.2.1, Ti a1.2.2]) [Ti a1.1, Ti a1.2.1, Ti a1.2.2] wd25 rfl (by kernel_rfl) (Nat.le_of_ble_eq_true rfl) (by kernel_rfl)) ?_
   refine L1 rfl rfl (Y1_call (s_impl_isLattice hy3) cf_impl_isLattice rfl (by kernel_rfl)) ?_
   refine L0 rfl rfl (Y0_not (b := y3) rfl (by kernel_rfl)) ?_
   refine L0 rfl rfl (E_move (Bo (!y3)) rfl (by kernel_rfl)) ?_
   refine XL_split (!y3) (fun hc4 => ?_) (fun hc4 => ?_)
   ·have hb6 := some_inj (of_true hb6 hc4)
    refine XL_skipF _ rfl rfl (by kernel_rfl) hc4 rfl ?_
    refine XL_skipF _ rfl rfl (by kernel_rfl) hc4 rfl ?_
    refine XL_skipF _ rfl rfl (by kernel_rfl) hc4 rfl ?_
    refine XL_cons rfl (X_of_Y0 rfl (Y0_pickTe (b := !y3) (p := true) rfl (by kernel_rfl) hc4 (by kernel_rfl) hb6)) ?_
    refine XL_nil ?_
    kernel_rfl
   ·have hb6 := of_false hb6 hc4
    obtain ⟨y5, hy5, hb6⟩ := of_bind hb6
    have hb6 := some_inj hb6
    refine XL_takeC _ rfl rfl (by kernel_rfl) hc4 (X_of_Y0 rfl (E_loadn (cs := [Ti b2.1, Ti b2.2.1, Ti b2.2.2]) [Ti b2.1, Ti b2.2.1, Ti b2.2.2] wd25 rfl (by kernel_rfl) (Nat.le_of_ble_eq_true rfl) (by kernel_rfl))) ?_
    refine XL_takeC _ rfl rfl (by kernel_rfl) hc4 (X_of_Y1 rfl (Y1_call (s_impl_isLattice hy5) cf_impl_isLattice rfl (by kernel_rfl))) ?_
    refine XL_takeC _ rfl rfl (by kernel_rfl) hc4 (X_of_Y0 rfl (Y0_not (b := y5) rfl (by kernel_rfl))) ?_
    refine XL_cons rfl (X_of_Y0 rfl (Y0_pickFe (b := !y3) (p := !y5) rfl (by kernel_rfl) hc4 (by kernel_rfl) hb6)) ?_
    refine XL_nil ?_
    kernel_rfl
  refine V_cond rfl (fun hc7 => ?_) (fun hc7 => ?_)
  ·have h := of_true h hc7
   refine V_sreg (mb 26 48) [] (s1 := ⟨bt 4 (Bo false :: Bo false :: bt 20 []), []⟩) ?_ ?_
   ·refine L0 rfl rfl (E_assign (Bo false) rfl (by kernel_rfl)) ?_
    refine L0 rfl rfl (E_assign (Bo false) rfl (by kernel_rfl)) ?_
    refine XL_nil ?_
    kernel_rfl
   refine V_ret ?_
   obtain rfl := some_inj h
   show Post _ _ _ _ _
   exact ⟨.inr rfl, rfl, rfl, rfl⟩
  ·have h := of_false h hc7
   refine V_skip ?_
   show V _ _ _ _
   obtain ⟨y8, hy8, h⟩ := of_bind h
   obtain ⟨b11, hb11, h⟩ := of_bind h
   refine V_sreg (mb 26 48) [] (s1 := ⟨bt 4 (Bo b11 :: Bo true :: bt 20 []), []⟩) ?_ ?_
   ·refine L0 rfl rfl (E_loadn (cs := [Ti b2.1, Ti b2.2.1, Ti b2.2.2]) [Ti b2.1, Ti b2.2.1, Ti b2.2.2] wd25 rfl (by kernel_rfl) (Nat.le_of_ble_eq_true rfl) (by kernel_rfl)) ?_
    refine L0 rfl rfl (E_field (.pt 16 0) Try.underlying25 rfl sz3 rfl (by kernel_rfl) (by intro hh; cases hh)) ?_
    refine L0 rfl rfl (Y0_load1 (c := Ti a1.1) (cs := [Ti a1.2.1, Ti a1.2.2]) sc3 rfl (by kernel_rfl)) ?_
    refine L1 rfl rfl (Y1_call (s_impl_Lattice_has hy8) cf_impl_Lattice_has rfl (by kernel_rfl)) ?_
    refine L0 rfl rfl (E_move (Bo y8) rfl (by kernel_rfl)) ?_
    refine XL_split y8 (fun hc9 => ?_) (fun hc9 => ?_)
    ·have hb11 := of_true hb11 hc9
     obtain ⟨y10, hy10, hb11⟩ := of_bind hb11
     have hb11 := some_inj hb11
     refine XL_takeC _ rfl rfl (by kernel_rfl) hc9 (X_of_Y0 rfl (E_loadn (cs := [Ti b2.1, Ti b2.2.1, Ti b2.2.2]) [Ti b2.1, Ti b2.2.1, Ti b2.2.2] wd25 rfl (by kernel_rfl) (Nat.le_of_ble_eq_true rfl) (by kernel_rfl))) ?_
     refine XL_takeC _ rfl rfl (by kernel_rfl) hc9 (X_of_Y0 rfl (E_field (.pt 16 1) Try.underlying25 rfl sz3 rfl (by kernel_rfl) (by intro hh; cases hh))) ?_
     refine XL_takeC _ rfl rfl (by kernel_rfl) hc9 (X_of_Y0 rfl (Y0_load1 (c := Ti a1.2.1) (cs := [Ti a1.2.2]) sc3 rfl (by kernel_rfl))) ?_
     refine XL_takeC _ rfl rfl (by kernel_rfl) hc9 (X_of_Y0 rfl (E_field (.pt 16 2) Try.underlying25 rfl sz3 rfl (by kernel_rfl) (by intro hh; cases hh))) ?_
     refine XL_takeC _ rfl rfl (by kernel_rfl) hc9 (X_of_Y0 rfl (Y0_load1 (c := Ti a1.2.2) (cs := []) sc3 rfl (by kernel_rfl))) ?_
     refine XL_takeC _ rfl rfl (by kernel_rfl) hc9 (X_of_Y1 rfl (Y1_call (s_impl_Lattice_has hy10) cf_impl_Lattice_has rfl (by kernel_rfl))) ?_
     refine XL_cons rfl (X_of_Y0 rfl (Y0_pickTe (b := y8) (p := y10) rfl (by kernel_rfl) hc9 (by kernel_rfl) hb11)) ?_
     refine L0 rfl rfl (E_assign (Bo b11) rfl (by kernel_rfl)) ?_
     refine L0 rfl rfl (E_assign (Bo true) rfl (by kernel_rfl)) ?_
     refine XL_nil ?_
     kernel_rfl
    ·have hb11 := some_inj (of_false hb11 hc9)
     refine XL_skipT _ rfl rfl (by kernel_rfl) hc9 rfl ?_
     refine XL_skipT _ rfl rfl (by kernel_rfl) hc9 rfl ?_
     refine XL_skipT _ rfl rfl (by kernel_rfl) hc9 rfl ?_
     refine XL_skipT _ rfl rfl (by kernel_rfl) hc9 rfl ?_
     refine XL_skipT _ rfl rfl (by kernel_rfl) hc9 rfl ?_
     refine XL_skipT _ rfl rfl (by kernel_rfl) hc9 rfl ?_
     refine XL_cons rfl (X_of_Y0 rfl (Y0_pickFe (b := y8) (p := false) rfl (by kernel_rfl) hc9 (by kernel_rfl) hb11)) ?_
     refine L0 rfl rfl (E_assign (Bo b11) rfl (by kernel_rfl)) ?_
     refine L0 rfl rfl (E_assign (Bo true) rfl (by kernel_rfl)) ?_
     refine XL_nil ?_
     kernel_rfl
   refine V_ret ?_
   obtain rfl := some_inj h
   show Post _ _ _ _ _
   exact ⟨.inr rfl, rfl, rfl, rfl⟩
end Go.Proofs.Ytgeajejmikaniaa
