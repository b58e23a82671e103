/-
  The functions of the program compute what the plain functions say: more of them.
  Conditions: none.
-/
import Derived.Test.YtgeajejmikaniaaSpSnd1
namespace Go.Proofs.Ytgeajejmikaniaa
open Go.RowKit
set_option linter.unusedVariables false
set_option linter.unusedSimpArgs false
theorem cf_spec_l1Cur_shown : ∀ args w, (callFunc 201 args).run Try.prog w = .ok (.enter 201 args) w := run_callFunc Try.func201 (by kernel_rfl) (by kernel_rfl)
set_option maxRecDepth 100000 in
set_option maxHeartbeats 400000 in
theorem s_spec_l1Cur_shown {c1 : ((List Int) × Int × Int)} {f2 : (Int × Int × Int)} {r : (Int × (((List Int) × Int × Int)))} (h : r_spec_l1Cur_shown c1 f2 = some r) : CallR Try.prog 201 [.pt 80000 0, .ag [Ti f2.1, Ti f2.2.1, Ti f2.2.2]] [(80000, .box [.sl (c1.1.map c5), Ti c1.2.1, .v (.int .u64 c1.2.2)])] (I r.1) [] [(80000, .box [.sl (r.2.1.map c5), Ti r.2.2.1, .v (.int .u64 r.2.2.2)])] := by
  refine CallR_of_text (rs := [.t 4]) (vs := [.tmp 4]) Try.func201 rfl rfl (.cons rfl FitsL.nil) (by decide) 49 rfl rfl fun σ => ?_
  unfold r_spec_l1Cur_shown at h
  show V _ _ ⟨.pt 80000 0 :: .ag [Ti f2.1, Ti f2.2.1, Ti f2.2.2] :: bt 47 [], [(80000, .pbox (σ 80000) [.sl (c1.1.map c5), Ti c1.2.1, .v (.int .u64 c1.2.2)])]⟩ _
  refine V_sreg (mb 49 9) [24, 80000] (s1 := ⟨.pt 80000 0 :: .bot :: .bot :: .pt 24 0 :: bt 45 [], [(24, .box [Ti f2.1, Ti f2.2.1, Ti f2.2.2]), (80000, .pbox (σ 80000) [.sl (c1.1.map c5), Ti c1.2.1, .v (.int .u64 c1.2.2)])]⟩) ?_ ?_
  ·refine L1 rfl rfl (Y1_box (cs := [Ti f2.1, Ti f2.2.1, Ti f2.2.2]) rfl (by kernel_rfl)) ?_
   refine L0 rfl rfl (E_assign (I 0) rfl (by kernel_rfl)) ?_
   refine XL_nil ?_
   kernel_rfl
  refine V_seq ?_
  obtain ⟨y3, hy3, h⟩ := of_bind h
  refine V_sreg (mb 49 265) [24, 80000] (s1 := ⟨.pt 80000 0 :: .bot :: .bot :: .pt 24 0 :: bt 4 (I y3.1 :: bt 40 []), [(24, .box [Ti f2.1, Ti f2.2.1, Ti f2.2.2]), (80000, .pbox (σ 80000) [.sl (y3.2.1.map c5), Ti y3.2.2.1, .v (.int .u64 y3.2.2.2)])]⟩) ?_ ?_
  ·refine L0 rfl rfl (E_move (.pt 80000 0) rfl (by kernel_rfl)) ?_
   refine XL_cons rfl (X_callR (E' := [(24, .box [Ti f2.1, Ti f2.2.1, Ti f2.2.2]), (80000, .pbox (σ 80000) [.sl (y3.2.1.map c5), Ti y3.2.2.1, .v (.int .u64 y3.2.2.2)])]) [(80000, 80000)] 8 (s_spec_l1Cur_pick hy3) cf_spec_l1Cur_pick rfl rfl (by kernel_rfl) rfl (mE_cons (by kernel_rfl) mE_nil) rfl (by kernel_rfl) rfl rfl (by kernel_rfl)) ?_
   refine XL_nil ?_
   kernel_rfl
  refine V_block ?_
  refine V_sreg (mb 49 777) [24, 80000] (s1 := ⟨.pt 80000 0 :: .bot :: .bot :: .pt 24 0 :: bt 4 (I y3.1 :: Bo (eqI y3.1 0) :: bt 39 []), [(24, .box [Ti f2.1, Ti f2.2.1, Ti f2.2.2]), (80000, .pbox (σ 80000) [.sl (y3.2.1.map c5), Ti y3.2.2.1, .v (.int .u64 y3.2.2.2)])]⟩) ?_ ?_
  ·refine L0 rfl rfl (Y0_eqw (k := .i64) (a := y3.1) (b := 0) rfl (by kernel_rfl) (by kernel_rfl)) ?_
   refine L0 rfl rfl (E_assign (Bo (eqI y3.1 0)) rfl (by kernel_rfl)) ?_
   refine XL_nil ?_
   kernel_rfl
  refine V_cond rfl (fun hc4 => ?_) (fun hc4 => ?_)
  ·have h := of_true h hc4
   obtain ⟨y5, hy5, h⟩ := of_bind h
   refine V_sreg (mb 49 16) [80000] (s1 := ⟨bt 4 (I y5.1 :: bt 44 []), [(80000, .pbox (σ 80000) [.sl (y5.2.1.map c5), Ti y5.2.2.1, .v (.int .u64 y5.2.2.2)])]⟩) ?_ ?_
   ·refine L0 rfl rfl (E_move (.pt 80000 0) rfl (by kernel_rfl)) ?_
    refine L1 rfl rfl (Y1_bslice (z := zv3) (els := [0, 1, -1, 10000, 10001, 4611686018427387904].map c3) Try.underlying41 iz3 rfl (by decide) rfl (by kernel_rfl) rfl (by simp [c3]) (by decide) (by decide)) ?_
    refine XL_freeze 96 (T := 3) (sz := 1) (els := ([0, 1, -1, 10000, 10001, 4611686018427387904]).map c3) (s1 := ⟨.pt 80000 0 :: .bot :: .bot :: .pt 24 0 :: bt 4 (I y3.1 :: Bo (eqI y3.1 0) :: .bot :: .pt 80000 0 :: .c (.sl (([0, 1, -1, 10000, 10001, 4611686018427387904]).map c3)) :: bt 36 []), [(24, .box [Ti f2.1, Ti f2.2.1, Ti f2.2.2]), (80000, .pbox (σ 80000) [.sl (y3.2.1.map c5), Ti y3.2.2.1, .v (.int .u64 y3.2.2.2)])]⟩) (by kernel_rfl) (by kernel_rfl) ?_
    refine XL_cons rfl (X_callR (E' := [(24, .box [Ti f2.1, Ti f2.2.1, Ti f2.2.2]), (80000, .pbox (σ 80000) [.sl (y5.2.1.map c5), Ti y5.2.2.1, .v (.int .u64 y5.2.2.2)])]) [(80000, 80000)] 13 (s_spec_l1Cur_among hy5) cf_spec_l1Cur_among rfl rfl (by kernel_rfl) rfl (mE_cons (by kernel_rfl) mE_nil) rfl (by kernel_rfl) rfl rfl (by kernel_rfl)) ?_
    refine L0 rfl rfl (E_assign (I y5.1) rfl (by kernel_rfl)) ?_
    refine XL_nil ?_
    kernel_rfl
   refine V_ret ?_
   obtain rfl := some_inj h
   show PostR _ _ _ _ _ _
   exact ⟨⟨.inr rfl, rfl, rfl, rfl⟩, ⟨rfl, trivial⟩⟩
  ·have h := of_false h hc4
   obtain ⟨j6, hj6, h⟩ := of_bind h
   refine V_cutK (mb 49 16649) [24, 80000] (s1 := ⟨.pt 80000 0 :: .bot :: .bot :: .pt 24 0 :: bt 4 (I y3.1 :: bt 5 (Bo j6 :: bt 34 [])), [(24, .box [Ti f2.1, Ti f2.2.1, Ti f2.2.2]), (80000, .pbox (σ 80000) [.sl (y3.2.1.map c5), Ti y3.2.2.1, .v (.int .u64 y3.2.2.2)])]⟩) ?_ ?_
   ·clear h
    have h := hj6
    clear hj6
    refine V_sreg (mb 49 16649) [24, 80000] (s1 := ⟨.pt 80000 0 :: .bot :: .bot :: .pt 24 0 :: bt 4 (I y3.1 :: bt 5 (Bo (eqI y3.1 1) :: bt 34 [])), [(24, .box [Ti f2.1, Ti f2.2.1, Ti f2.2.2]), (80000, .pbox (σ 80000) [.sl (y3.2.1.map c5), Ti y3.2.2.1, .v (.int .u64 y3.2.2.2)])]⟩) ?_ ?_
    ·refine L0 rfl rfl (Y0_eqw (k := .i64) (a := y3.1) (b := 1) rfl (by kernel_rfl) (by kernel_rfl)) ?_
     refine L0 rfl rfl (E_assign (Bo (eqI y3.1 1)) rfl (by kernel_rfl)) ?_
     refine XL_nil ?_
     kernel_rfl
    refine V_cond rfl (fun hc7 => ?_) (fun hc7 => ?_)
    ·have h := of_true h hc7
     refine V_skip ?_
     obtain rfl := some_inj h
     show St.keep _ _ _ = _
     rfl
    ·have h := of_false h hc7
     refine V_reg (mb 49 16649) [24, 80000] (s1 := ⟨.pt 80000 0 :: .bot :: .bot :: .pt 24 0 :: bt 4 (I y3.1 :: bt 5 (Bo (eqI y3.1 2) :: bt 34 [])), [(24, .box [Ti f2.1, Ti f2.2.1, Ti f2.2.2]), (80000, .pbox (σ 80000) [.sl (y3.2.1.map c5), Ti y3.2.2.1, .v (.int .u64 y3.2.2.2)])]⟩) ?_ ?_
     ·refine L0 rfl rfl (Y0_eqw (k := .i64) (a := y3.1) (b := 2) rfl (by kernel_rfl) (by kernel_rfl)) ?_
      refine L0 rfl rfl (E_assign (Bo (eqI y3.1 2)) rfl (by kernel_rfl)) ?_
      refine XL_nil ?_
      kernel_rfl
     obtain rfl := some_inj h
     show St.keep _ _ _ = _
     rfl
   refine V_cond rfl (fun hc8 => ?_) (fun hc8 => ?_)
   ·have h := of_true h hc8
    obtain ⟨y9, hy9, h⟩ := of_bind h
    obtain ⟨t10, ht10, h⟩ := of_sI h
    refine V_sreg (mb 49 16) [80000] (s1 := ⟨bt 4 (I t10 :: bt 44 []), [(80000, .pbox (σ 80000) [.sl (y9.2.1.map c5), Ti y9.2.2.1, .v (.int .u64 y9.2.2.2)])]⟩) ?_ ?_
    ·refine L0 rfl rfl (E_move (.pt 80000 0) rfl (by kernel_rfl)) ?_
     refine XL_cons rfl (X_callR (E' := [(24, .box [Ti f2.1, Ti f2.2.1, Ti f2.2.2]), (80000, .pbox (σ 80000) [.sl (y9.2.1.map c5), Ti y9.2.2.1, .v (.int .u64 y9.2.2.2)])]) [(80000, 80000)] 18 (s_spec_l1Cur_pick hy9) cf_spec_l1Cur_pick rfl rfl (by kernel_rfl) rfl (mE_cons (by kernel_rfl) mE_nil) rfl (by kernel_rfl) rfl rfl (by kernel_rfl)) ?_
     refine L0 rfl rfl (Y0_add64 (a := 1) (b := y9.1) rfl (by kernel_rfl) (by kernel_rfl)) ?_
     refine L0 rfl rfl (E_assign (I (w64 (1 + y9.1))) rfl (by kernel_rfl)) ?_
     refine XL_nil ?_
     subst ht10
     kernel_rfl
    refine V_ret ?_
    obtain rfl := some_inj h
    show PostR _ _ _ _ _ _
    exact ⟨⟨.inr rfl, rfl, rfl, rfl⟩, ⟨rfl, trivial⟩⟩
   ·have h := of_false h hc8
    refine V_sreg (mb 49 1048585) [24, 80000] (s1 := ⟨.pt 80000 0 :: .bot :: .bot :: .pt 24 0 :: bt 16 (Bo (eqI y3.1 3) :: bt 28 []), [(24, .box [Ti f2.1, Ti f2.2.1, Ti f2.2.2]), (80000, .pbox (σ 80000) [.sl (y3.2.1.map c5), Ti y3.2.2.1, .v (.int .u64 y3.2.2.2)])]⟩) ?_ ?_
    ·refine L0 rfl rfl (Y0_eqw (k := .i64) (a := y3.1) (b := 3) rfl (by kernel_rfl) (by kernel_rfl)) ?_
     refine L0 rfl rfl (E_assign (Bo (eqI y3.1 3)) rfl (by kernel_rfl)) ?_
     refine XL_nil ?_
     kernel_rfl
    refine V_cond rfl (fun hc11 => ?_) (fun hc11 => ?_)
    ·have h := of_true h hc11
     obtain ⟨y12, hy12, h⟩ := of_bind h
     obtain ⟨t13, ht13, h⟩ := of_sI h
     refine V_sreg (mb 49 16) [80000] (s1 := ⟨bt 4 (I t13 :: bt 44 []), [(80000, .pbox (σ 80000) [.sl (y12.2.1.map c5), Ti y12.2.2.1, .v (.int .u64 y12.2.2.2)])]⟩) ?_ ?_
     ·refine L0 rfl rfl (E_move (.pt 80000 0) rfl (by kernel_rfl)) ?_
      refine XL_cons rfl (X_callR (E' := [(24, .box [Ti f2.1, Ti f2.2.1, Ti f2.2.2]), (80000, .pbox (σ 80000) [.sl (y12.2.1.map c5), Ti y12.2.2.1, .v (.int .u64 y12.2.2.2)])]) [(80000, 80000)] 23 (s_spec_l1Cur_pick hy12) cf_spec_l1Cur_pick rfl rfl (by kernel_rfl) rfl (mE_cons (by kernel_rfl) mE_nil) rfl (by kernel_rfl) rfl rfl (by kernel_rfl)) ?_
      refine L0 rfl rfl (Y0_add64 (a := 1) (b := y12.1) rfl (by kernel_rfl) (by kernel_rfl)) ?_
      refine L0 rfl rfl (E_assign (I (w64 (1 + y12.1))) rfl (by kernel_rfl)) ?_
      refine XL_nil ?_
      subst ht13
      kernel_rfl
     refine V_ret ?_
     obtain rfl := some_inj h
     show PostR _ _ _ _ _ _
     exact ⟨⟨.inr rfl, rfl, rfl, rfl⟩, ⟨rfl, trivial⟩⟩
    ·have h := of_false h hc11
     refine V_skip ?_
     show V _ _ _ _
     refine V_seq ?_
     obtain ⟨y14, hy14, h⟩ := of_bind h
     refine V_sreg (mb 49 134217737) [24, 80000] (s1 := ⟨.pt 80000 0 :: .bot :: .bot :: .pt 24 0 :: bt 23 (Bo (!y14) :: bt 21 []), [(24, .box [Ti f2.1, Ti f2.2.1, Ti f2.2.2]), (80000, .pbox (σ 80000) [.sl (y3.2.1.map c5), Ti y3.2.2.1, .v (.int .u64 y3.2.2.2)])]⟩) ?_ ?_
     ·refine L0 rfl rfl (E_loadn (cs := [Ti f2.1, Ti f2.2.1, Ti f2.2.2]) [Ti f2.1, Ti f2.2.1, Ti f2.2.2] wd45 rfl (by kernel_rfl) (Nat.le_of_ble_eq_true rfl) (by kernel_rfl)) ?_
      refine L1 rfl rfl (Y1_call (s_spec_vaForm hy14) cf_spec_vaForm rfl (by kernel_rfl)) ?_
      refine L0 rfl rfl (Y0_not (b := y14) rfl (by kernel_rfl)) ?_
      refine XL_nil ?_
      kernel_rfl
     refine V_cond rfl (fun hc15 => ?_) (fun hc15 => ?_)
     ·have h := of_true h hc15
      obtain ⟨y16, hy16, h⟩ := of_bind h
      obtain ⟨t17, ht17, h⟩ := of_sI h
      refine V_sreg (mb 49 16) [80000] (s1 := ⟨bt 4 (I t17 :: bt 44 []), [(80000, .pbox (σ 80000) [.sl (y16.2.1.map c5), Ti y16.2.2.1, .v (.int .u64 y16.2.2.2)])]⟩) ?_ ?_
      ·refine L0 rfl rfl (E_move (.pt 80000 0) rfl (by kernel_rfl)) ?_
       refine XL_cons rfl (X_callR (E' := [(24, .box [Ti f2.1, Ti f2.2.1, Ti f2.2.2]), (80000, .pbox (σ 80000) [.sl (y16.2.1.map c5), Ti y16.2.2.1, .v (.int .u64 y16.2.2.2)])]) [(80000, 80000)] 29 (s_spec_l1Cur_pick hy16) cf_spec_l1Cur_pick rfl rfl (by kernel_rfl) rfl (mE_cons (by kernel_rfl) mE_nil) rfl (by kernel_rfl) rfl rfl (by kernel_rfl)) ?_
       refine L0 rfl rfl (Y0_add64 (a := 1) (b := y16.1) rfl (by kernel_rfl) (by kernel_rfl)) ?_
       refine L0 rfl rfl (E_assign (I (w64 (1 + y16.1))) rfl (by kernel_rfl)) ?_
       refine XL_nil ?_
       subst ht17
       kernel_rfl
      refine V_ret ?_
      obtain rfl := some_inj h
      show PostR _ _ _ _ _ _
      exact ⟨⟨.inr rfl, rfl, rfl, rfl⟩, ⟨rfl, trivial⟩⟩
     ·have h := of_false h hc15
      refine V_skip ?_
      show V _ _ _ _
      obtain ⟨y18, hy18, h⟩ := of_bind h
      refine V_sreg (mb 49 33) [40, 80000] (s1 := ⟨.pt 80000 0 :: bt 4 (.pt 40 0 :: bt 43 []), [(40, .box [Ti y18.1, Ti y18.2.1, Ti y18.2.2]), (80000, .pbox (σ 80000) [.sl (y3.2.1.map c5), Ti y3.2.2.1, .v (.int .u64 y3.2.2.2)])]⟩) ?_ ?_
      ·refine L0 rfl rfl (E_loadn (cs := [Ti f2.1, Ti f2.2.1, Ti f2.2.2]) [Ti f2.1, Ti f2.2.1, Ti f2.2.2] wd45 rfl (by kernel_rfl) (Nat.le_of_ble_eq_true rfl) (by kernel_rfl)) ?_
       refine L1 rfl rfl (Y1_call (s_spec_reClass hy18) cf_spec_reClass rfl (by kernel_rfl)) ?_
       refine L1 rfl rfl (Y1_alloc (z := zv45) rfl zf45 rfl) ?_
       refine XL_cons rfl (E_store (id := 40) (off := 0) (cs := [Ti 0, Ti 0, Ti 0]) (vc := [Ti y18.1, Ti y18.2.1, Ti y18.2.2]) [Ti y18.1, Ti y18.2.1, Ti y18.2.2] rfl rfl (by kernel_rfl) (by kernel_rfl) (by kernel_rfl) sz45 (Nat.le_of_ble_eq_true rfl) (by kernel_rfl)) ?_
       refine XL_nil ?_
       kernel_rfl
      obtain ⟨y19, hy19, h⟩ := of_bind h
      obtain ⟨y20, hy20, h⟩ := of_bind h
      obtain ⟨y21, hy21, h⟩ := of_bind h
      refine V_sdagK (mb 49 65) [80000] [0, 0, 2, 6, 0, 22, 54, 127, 255] [(0, ⟨.pt 80000 0 :: bt 4 (.pt 40 0 :: bt 43 []), [(40, .box [Ti y18.1, Ti y18.2.1, Ti y18.2.2]), (80000, .pbox (σ 80000) [.sl (y3.2.1.map c5), Ti y3.2.2.1, .v (.int .u64 y3.2.2.2)])]⟩), (1, ⟨.pt 80000 0 :: bt 4 (.pt 40 0 :: bt 27 (.ag [Ti y18.1, Ti y18.2.1, Ti y18.2.2] :: bt 15 [])), [(40, .box [Ti y18.1, Ti y18.2.1, Ti y18.2.2]), (80000, .pbox (σ 80000) [.sl (y3.2.1.map c5), Ti y3.2.2.1, .v (.int .u64 y3.2.2.2)])]⟩), (2, ⟨.pt 80000 0 :: bt 4 (.pt 40 0 :: bt 28 (.pt 80000 0 :: bt 14 [])), [(40, .box [Ti y18.1, Ti y18.2.1, Ti y18.2.2]), (80000, .pbox (σ 80000) [.sl (y3.2.1.map c5), Ti y3.2.2.1, .v (.int .u64 y3.2.2.2)])]⟩), (3, ⟨.pt 80000 0 :: bt 4 (.pt 40 0 :: bt 27 (.ag [Ti y18.1, Ti y18.2.1, Ti y18.2.2] :: .pt 80000 0 :: bt 14 [])), [(40, .box [Ti y18.1, Ti y18.2.1, Ti y18.2.2]), (80000, .pbox (σ 80000) [.sl (y3.2.1.map c5), Ti y3.2.2.1, .v (.int .u64 y3.2.2.2)])]⟩), (6, ⟨.pt 80000 0 :: bt 4 (.pt 40 0 :: bt 28 (.pt 80000 0 :: I y19.1 :: bt 13 [])), [(40, .box [Ti y18.1, Ti y18.2.1, Ti y18.2.2]), (80000, .pbox (σ 80000) [.sl (y19.2.1.map c5), Ti y19.2.2.1, .v (.int .u64 y19.2.2.2)])]⟩), (7, ⟨.pt 80000 0 :: bt 4 (.pt 40 0 :: bt 27 (.ag [Ti y18.1, Ti y18.2.1, Ti y18.2.2] :: .pt 80000 0 :: I y19.1 :: bt 13 [])), [(40, .box [Ti y18.1, Ti y18.2.1, Ti y18.2.2]), (80000, .pbox (σ 80000) [.sl (y19.2.1.map c5), Ti y19.2.2.1, .v (.int .u64 y19.2.2.2)])]⟩), (14, ⟨.pt 80000 0 :: bt 4 (.pt 40 0 :: bt 28 (.pt 80000 0 :: I y19.1 :: I (w64 (y19.1 - 6)) :: bt 12 [])), [(40, .box [Ti y18.1, Ti y18.2.1, Ti y18.2.2]), (80000, .pbox (σ 80000) [.sl (y19.2.1.map c5), Ti y19.2.2.1, .v (.int .u64 y19.2.2.2)])]⟩), (15, ⟨.pt 80000 0 :: bt 4 (.pt 40 0 :: bt 27 (.ag [Ti y18.1, Ti y18.2.1, Ti y18.2.2] :: .pt 80000 0 :: I y19.1 :: I (w64 (y19.1 - 6)) :: bt 12 [])), [(40, .box [Ti y18.1, Ti y18.2.1, Ti y18.2.2]), (80000, .pbox (σ 80000) [.sl (y19.2.1.map c5), Ti y19.2.2.1, .v (.int .u64 y19.2.2.2)])]⟩), (16, ⟨.pt 80000 0 :: bt 4 (.pt 40 0 :: bt 31 (.pt 80000 0 :: bt 11 [])), [(40, .box [Ti y18.1, Ti y18.2.1, Ti y18.2.2]), (80000, .pbox (σ 80000) [.sl (y3.2.1.map c5), Ti y3.2.2.1, .v (.int .u64 y3.2.2.2)])]⟩), (17, ⟨.pt 80000 0 :: bt 4 (.pt 40 0 :: bt 27 (.ag [Ti y18.1, Ti y18.2.1, Ti y18.2.2] :: bt 3 (.pt 80000 0 :: bt 11 []))), [(40, .box [Ti y18.1, Ti y18.2.1, Ti y18.2.2]), (80000, .pbox (σ 80000) [.sl (y3.2.1.map c5), Ti y3.2.2.1, .v (.int .u64 y3.2.2.2)])]⟩), (18, ⟨.pt 80000 0 :: bt 4 (.pt 40 0 :: bt 28 (.pt 80000 0 :: .bot :: .bot :: .pt 80000 0 :: bt 11 [])), [(40, .box [Ti y18.1, Ti y18.2.1, Ti y18.2.2]), (80000, .pbox (σ 80000) [.sl (y3.2.1.map c5), Ti y3.2.2.1, .v (.int .u64 y3.2.2.2)])]⟩), (19, ⟨.pt 80000 0 :: bt 4 (.pt 40 0 :: bt 27 (.ag [Ti y18.1, Ti y18.2.1, Ti y18.2.2] :: .pt 80000 0 :: .bot :: .bot :: .pt 80000 0 :: bt 11 [])), [(40, .box [Ti y18.1, Ti y18.2.1, Ti y18.2.2]), (80000, .pbox (σ 80000) [.sl (y3.2.1.map c5), Ti y3.2.2.1, .v (.int .u64 y3.2.2.2)])]⟩), (22, ⟨.pt 80000 0 :: bt 4 (.pt 40 0 :: bt 28 (.pt 80000 0 :: I y19.1 :: .bot :: .pt 80000 0 :: bt 11 [])), [(40, .box [Ti y18.1, Ti y18.2.1, Ti y18.2.2]), (80000, .pbox (σ 80000) [.sl (y19.2.1.map c5), Ti y19.2.2.1, .v (.int .u64 y19.2.2.2)])]⟩), (23, ⟨.pt 80000 0 :: bt 4 (.pt 40 0 :: bt 27 (.ag [Ti y18.1, Ti y18.2.1, Ti y18.2.2] :: .pt 80000 0 :: I y19.1 :: .bot :: .pt 80000 0 :: bt 11 [])), [(40, .box [Ti y18.1, Ti y18.2.1, Ti y18.2.2]), (80000, .pbox (σ 80000) [.sl (y19.2.1.map c5), Ti y19.2.2.1, .v (.int .u64 y19.2.2.2)])]⟩), (30, ⟨.pt 80000 0 :: bt 4 (.pt 40 0 :: bt 28 (.pt 80000 0 :: I y19.1 :: I (w64 (y19.1 - 6)) :: .pt 80000 0 :: bt 11 [])), [(40, .box [Ti y18.1, Ti y18.2.1, Ti y18.2.2]), (80000, .pbox (σ 80000) [.sl (y19.2.1.map c5), Ti y19.2.2.1, .v (.int .u64 y19.2.2.2)])]⟩), (31, ⟨.pt 80000 0 :: bt 4 (.pt 40 0 :: bt 27 (.ag [Ti y18.1, Ti y18.2.1, Ti y18.2.2] :: .pt 80000 0 :: I y19.1 :: I (w64 (y19.1 - 6)) :: .pt 80000 0 :: bt 11 [])), [(40, .box [Ti y18.1, Ti y18.2.1, Ti y18.2.2]), (80000, .pbox (σ 80000) [.sl (y19.2.1.map c5), Ti y19.2.2.1, .v (.int .u64 y19.2.2.2)])]⟩), (54, ⟨.pt 80000 0 :: bt 4 (.pt 40 0 :: bt 28 (.pt 80000 0 :: I y19.1 :: .bot :: .pt 80000 0 :: I y20.1 :: bt 10 [])), [(40, .box [Ti y18.1, Ti y18.2.1, Ti y18.2.2]), (80000, .pbox (σ 80000) [.sl (y20.2.1.map c5), Ti y20.2.2.1, .v (.int .u64 y20.2.2.2)])]⟩), (55, ⟨.pt 80000 0 :: bt 4 (.pt 40 0 :: bt 27 (.ag [Ti y18.1, Ti y18.2.1, Ti y18.2.2] :: .pt 80000 0 :: I y19.1 :: .bot :: .pt 80000 0 :: I y20.1 :: bt 10 [])), [(40, .box [Ti y18.1, Ti y18.2.1, Ti y18.2.2]), (80000, .pbox (σ 80000) [.sl (y20.2.1.map c5), Ti y20.2.2.1, .v (.int .u64 y20.2.2.2)])]⟩), (62, ⟨.pt 80000 0 :: bt 4 (.pt 40 0 :: bt 28 (.pt 80000 0 :: I y19.1 :: I (w64 (y19.1 - 6)) :: .pt 80000 0 :: I y20.1 :: bt 10 [])), [(40, .box [Ti y18.1, Ti y18.2.1, Ti y18.2.2]), (80000, .pbox (σ 80000) [.sl (y20.2.1.map c5), Ti y20.2.2.1, .v (.int .u64 y20.2.2.2)])]⟩), (63, ⟨.pt 80000 0 :: bt 4 (.pt 40 0 :: bt 27 (.ag [Ti y18.1, Ti y18.2.1, Ti y18.2.2] :: .pt 80000 0 :: I y19.1 :: I (w64 (y19.1 - 6)) :: .pt 80000 0 :: I y20.1 :: bt 10 [])), [(40, .box [Ti y18.1, Ti y18.2.1, Ti y18.2.2]), (80000, .pbox (σ 80000) [.sl (y20.2.1.map c5), Ti y20.2.2.1, .v (.int .u64 y20.2.2.2)])]⟩), (118, ⟨.pt 80000 0 :: bt 4 (.pt 40 0 :: bt 28 (.pt 80000 0 :: I y19.1 :: .bot :: .pt 80000 0 :: I y20.1 :: I (w64 (y20.1 - 6)) :: bt 9 [])), [(40, .box [Ti y18.1, Ti y18.2.1, Ti y18.2.2]), (80000, .pbox (σ 80000) [.sl (y20.2.1.map c5), Ti y20.2.2.1, .v (.int .u64 y20.2.2.2)])]⟩), (119, ⟨.pt 80000 0 :: bt 4 (.pt 40 0 :: bt 27 (.ag [Ti y18.1, Ti y18.2.1, Ti y18.2.2] :: .pt 80000 0 :: I y19.1 :: .bot :: .pt 80000 0 :: I y20.1 :: I (w64 (y20.1 - 6)) :: bt 9 [])), [(40, .box [Ti y18.1, Ti y18.2.1, Ti y18.2.2]), (80000, .pbox (σ 80000) [.sl (y20.2.1.map c5), Ti y20.2.2.1, .v (.int .u64 y20.2.2.2)])]⟩), (126, ⟨.pt 80000 0 :: bt 4 (.pt 40 0 :: bt 28 (.pt 80000 0 :: I y19.1 :: I (w64 (y19.1 - 6)) :: .pt 80000 0 :: I y20.1 :: I (w64 (y20.1 - 6)) :: bt 9 [])), [(40, .box [Ti y18.1, Ti y18.2.1, Ti y18.2.2]), (80000, .pbox (σ 80000) [.sl (y20.2.1.map c5), Ti y20.2.2.1, .v (.int .u64 y20.2.2.2)])]⟩), (127, ⟨.pt 80000 0 :: bt 4 (.pt 40 0 :: bt 27 (.ag [Ti y18.1, Ti y18.2.1, Ti y18.2.2] :: .pt 80000 0 :: I y19.1 :: I (w64 (y19.1 - 6)) :: .pt 80000 0 :: I y20.1 :: I (w64 (y20.1 - 6)) :: bt 9 [])), [(40, .box [Ti y18.1, Ti y18.2.1, Ti y18.2.2]), (80000, .pbox (σ 80000) [.sl (y20.2.1.map c5), Ti y20.2.2.1, .v (.int .u64 y20.2.2.2)])]⟩), (255, ⟨.pt 80000 0 :: bt 4 (.pt 40 0 :: bt 27 (.ag [Ti y18.1, Ti y18.2.1, Ti y18.2.2] :: .pt 80000 0 :: I y19.1 :: I (w64 (y19.1 - 6)) :: .pt 80000 0 :: I y20.1 :: I (w64 (y20.1 - 6)) :: I y21 :: bt 8 [])), [(40, .box [Ti y18.1, Ti y18.2.1, Ti y18.2.2]), (80000, .pbox (σ 80000) [.sl (y20.2.1.map c5), Ti y20.2.2.1, .v (.int .u64 y20.2.2.2)])]⟩), (511, ⟨.pt 80000 0 :: bt 4 (.pt 40 0 :: I y21 :: bt 26 (.ag [Ti y18.1, Ti y18.2.1, Ti y18.2.2] :: .pt 80000 0 :: I y19.1 :: I (w64 (y19.1 - 6)) :: .pt 80000 0 :: I y20.1 :: I (w64 (y20.1 - 6)) :: I y21 :: bt 8 [])), [(40, .box [Ti y18.1, Ti y18.2.1, Ti y18.2.2]), (80000, .pbox (σ 80000) [.sl (y20.2.1.map c5), Ti y20.2.2.1, .v (.int .u64 y20.2.2.2)])]⟩)] (s1 := ⟨.pt 80000 0 :: bt 5 (I y21 :: bt 42 []), [(80000, .pbox (σ 80000) [.sl (y20.2.1.map c5), Ti y20.2.2.1, .v (.int .u64 y20.2.2.2)])]⟩) (by kernel_rfl) (by kernel_rfl) (by kernel_rfl) ?_ ?_
      ·refine tab_row [4, 1, 0] (by kernel_rfl) (by kernel_rfl) ?_ ?_
       ·refine step_cons (s2 := ⟨.pt 80000 0 :: bt 4 (.pt 40 0 :: bt 31 (.pt 80000 0 :: bt 11 [])), [(40, .box [Ti y18.1, Ti y18.2.1, Ti y18.2.2]), (80000, .pbox (σ 80000) [.sl (y3.2.1.map c5), Ti y3.2.2.1, .v (.int .u64 y3.2.2.2)])]⟩) rfl rfl (X_of_Y0 rfl (E_move (.pt 80000 0) rfl (by kernel_rfl))) (by kernel_rfl) rfl (hE_cons (by kernel_rfl) (hE_cons (by kernel_rfl) hE_nil)) ?_
        refine step_cons (s2 := ⟨.pt 80000 0 :: bt 4 (.pt 40 0 :: bt 28 (.pt 80000 0 :: bt 14 [])), [(40, .box [Ti y18.1, Ti y18.2.1, Ti y18.2.2]), (80000, .pbox (σ 80000) [.sl (y3.2.1.map c5), Ti y3.2.2.1, .v (.int .u64 y3.2.2.2)])]⟩) rfl rfl (X_of_Y0 rfl (E_move (.pt 80000 0) rfl (by kernel_rfl))) (by kernel_rfl) rfl (hE_cons (by kernel_rfl) (hE_cons (by kernel_rfl) hE_nil)) ?_
        refine step_cons (s2 := ⟨.pt 80000 0 :: bt 4 (.pt 40 0 :: bt 27 (.ag [Ti y18.1, Ti y18.2.1, Ti y18.2.2] :: bt 15 [])), [(40, .box [Ti y18.1, Ti y18.2.1, Ti y18.2.2]), (80000, .pbox (σ 80000) [.sl (y3.2.1.map c5), Ti y3.2.2.1, .v (.int .u64 y3.2.2.2)])]⟩) rfl rfl (X_of_Y0 rfl (E_loadn (cs := [Ti y18.1, Ti y18.2.1, Ti y18.2.2]) [Ti y18.1, Ti y18.2.1, Ti y18.2.2] wd45 rfl (by kernel_rfl) (Nat.le_of_ble_eq_true rfl) (by kernel_rfl))) (by kernel_rfl) rfl (hE_cons (by kernel_rfl) (hE_cons (by kernel_rfl) hE_nil)) ?_
        exact step_nil
       refine tab_row [4, 1] (by kernel_rfl) (by kernel_rfl) ?_ ?_
       ·refine step_cons (s2 := ⟨.pt 80000 0 :: bt 4 (.pt 40 0 :: bt 27 (.ag [Ti y18.1, Ti y18.2.1, Ti y18.2.2] :: bt 3 (.pt 80000 0 :: bt 11 []))), [(40, .box [Ti y18.1, Ti y18.2.1, Ti y18.2.2]), (80000, .pbox (σ 80000) [.sl (y3.2.1.map c5), Ti y3.2.2.1, .v (.int .u64 y3.2.2.2)])]⟩) rfl rfl (X_of_Y0 rfl (E_move (.pt 80000 0) rfl (by kernel_rfl))) (by kernel_rfl) rfl (hE_cons (by kernel_rfl) (hE_cons (by kernel_rfl) hE_nil)) ?_
        refine step_cons (s2 := ⟨.pt 80000 0 :: bt 4 (.pt 40 0 :: bt 27 (.ag [Ti y18.1, Ti y18.2.1, Ti y18.2.2] :: .pt 80000 0 :: bt 14 [])), [(40, .box [Ti y18.1, Ti y18.2.1, Ti y18.2.2]), (80000, .pbox (σ 80000) [.sl (y3.2.1.map c5), Ti y3.2.2.1, .v (.int .u64 y3.2.2.2)])]⟩) rfl rfl (X_of_Y0 rfl (E_move (.pt 80000 0) rfl (by kernel_rfl))) (by kernel_rfl) rfl (hE_cons (by kernel_rfl) (hE_cons (by kernel_rfl) hE_nil)) ?_
        exact step_nil
       refine tab_row [4, 2, 0] (by kernel_rfl) (by kernel_rfl) ?_ ?_
       ·refine step_cons (s2 := ⟨.pt 80000 0 :: bt 4 (.pt 40 0 :: bt 28 (.pt 80000 0 :: .bot :: .bot :: .pt 80000 0 :: bt 11 [])), [(40, .box [Ti y18.1, Ti y18.2.1, Ti y18.2.2]), (80000, .pbox (σ 80000) [.sl (y3.2.1.map c5), Ti y3.2.2.1, .v (.int .u64 y3.2.2.2)])]⟩) rfl rfl (X_of_Y0 rfl (E_move (.pt 80000 0) rfl (by kernel_rfl))) (by kernel_rfl) rfl (hE_cons (by kernel_rfl) (hE_cons (by kernel_rfl) hE_nil)) ?_
        refine step_cons (s2 := ⟨.pt 80000 0 :: bt 4 (.pt 40 0 :: bt 28 (.pt 80000 0 :: I y19.1 :: bt 13 [])), [(40, .box [Ti y18.1, Ti y18.2.1, Ti y18.2.2]), (80000, .pbox (σ 80000) [.sl (y19.2.1.map c5), Ti y19.2.2.1, .v (.int .u64 y19.2.2.2)])]⟩) rfl rfl (X_callR (E' := [(40, .box [Ti y18.1, Ti y18.2.1, Ti y18.2.2]), (80000, .pbox (σ 80000) [.sl (y19.2.1.map c5), Ti y19.2.2.1, .v (.int .u64 y19.2.2.2)])]) [(80000, 80000)] 35 (s_spec_l1Cur_pick hy19) cf_spec_l1Cur_pick rfl rfl (by kernel_rfl) rfl (mE_cons (by kernel_rfl) mE_nil) rfl (by kernel_rfl) rfl rfl (by kernel_rfl)) (by kernel_rfl) rfl (hE_cons (by kernel_rfl) (hE_cons (by kernel_rfl) hE_nil)) ?_
        refine step_cons (s2 := ⟨.pt 80000 0 :: bt 4 (.pt 40 0 :: bt 27 (.ag [Ti y18.1, Ti y18.2.1, Ti y18.2.2] :: .pt 80000 0 :: bt 14 [])), [(40, .box [Ti y18.1, Ti y18.2.1, Ti y18.2.2]), (80000, .pbox (σ 80000) [.sl (y3.2.1.map c5), Ti y3.2.2.1, .v (.int .u64 y3.2.2.2)])]⟩) rfl rfl (X_of_Y0 rfl (E_loadn (cs := [Ti y18.1, Ti y18.2.1, Ti y18.2.2]) [Ti y18.1, Ti y18.2.1, Ti y18.2.2] wd45 rfl (by kernel_rfl) (Nat.le_of_ble_eq_true rfl) (by kernel_rfl))) (by kernel_rfl) rfl (hE_cons (by kernel_rfl) (hE_cons (by kernel_rfl) hE_nil)) ?_
        exact step_nil
       refine tab_row [4, 2] (by kernel_rfl) (by kernel_rfl) ?_ ?_
       ·refine step_cons (s2 := ⟨.pt 80000 0 :: bt 4 (.pt 40 0 :: bt 27 (.ag [Ti y18.1, Ti y18.2.1, Ti y18.2.2] :: .pt 80000 0 :: .bot :: .bot :: .pt 80000 0 :: bt 11 [])), [(40, .box [Ti y18.1, Ti y18.2.1, Ti y18.2.2]), (80000, .pbox (σ 80000) [.sl (y3.2.1.map c5), Ti y3.2.2.1, .v (.int .u64 y3.2.2.2)])]⟩) rfl rfl (X_of_Y0 rfl (E_move (.pt 80000 0) rfl (by kernel_rfl))) (by kernel_rfl) rfl (hE_cons (by kernel_rfl) (hE_cons (by kernel_rfl) hE_nil)) ?_
        refine step_cons (s2 := ⟨.pt 80000 0 :: bt 4 (.pt 40 0 :: bt 27 (.ag [Ti y18.1, Ti y18.2.1, Ti y18.2.2] :: .pt 80000 0 :: I y19.1 :: bt 13 [])), [(40, .box [Ti y18.1, Ti y18.2.1, Ti y18.2.2]), (80000, .pbox (σ 80000) [.sl (y19.2.1.map c5), Ti y19.2.2.1, .v (.int .u64 y19.2.2.2)])]⟩) rfl rfl (X_callR (E' := [(40, .box [Ti y18.1, Ti y18.2.1, Ti y18.2.2]), (80000, .pbox (σ 80000) [.sl (y19.2.1.map c5), Ti y19.2.2.1, .v (.int .u64 y19.2.2.2)])]) [(80000, 80000)] 35 (s_spec_l1Cur_pick hy19) cf_spec_l1Cur_pick rfl rfl (by kernel_rfl) rfl (mE_cons (by kernel_rfl) mE_nil) rfl (by kernel_rfl) rfl rfl (by kernel_rfl)) (by kernel_rfl) rfl (hE_cons (by kernel_rfl) (hE_cons (by kernel_rfl) hE_nil)) ?_
        exact step_nil
       refine tab_row [4, 3, 0] (by kernel_rfl) (by kernel_rfl) ?_ ?_
       ·refine step_cons (s2 := ⟨.pt 80000 0 :: bt 4 (.pt 40 0 :: bt 28 (.pt 80000 0 :: I y19.1 :: .bot :: .pt 80000 0 :: bt 11 [])), [(40, .box [Ti y18.1, Ti y18.2.1, Ti y18.2.2]), (80000, .pbox (σ 80000) [.sl (y19.2.1.map c5), Ti y19.2.2.1, .v (.int .u64 y19.2.2.2)])]⟩) rfl rfl (X_of_Y0 rfl (E_move (.pt 80000 0) rfl (by kernel_rfl))) (by kernel_rfl) rfl (hE_cons (by kernel_rfl) (hE_cons (by kernel_rfl) hE_nil)) ?_
        refine step_cons (s2 := ⟨.pt 80000 0 :: bt 4 (.pt 40 0 :: bt 28 (.pt 80000 0 :: I y19.1 :: I (w64 (y19.1 - 6)) :: bt 12 [])), [(40, .box [Ti y18.1, Ti y18.2.1, Ti y18.2.2]), (80000, .pbox (σ 80000) [.sl (y19.2.1.map c5), Ti y19.2.2.1, .v (.int .u64 y19.2.2.2)])]⟩) rfl rfl (X_of_Y0 rfl (Y0_sub64 (a := y19.1) (b := 6) rfl (by kernel_rfl) (by kernel_rfl))) (by kernel_rfl) rfl (hE_cons (by kernel_rfl) (hE_cons (by kernel_rfl) hE_nil)) ?_
        refine step_cons (s2 := ⟨.pt 80000 0 :: bt 4 (.pt 40 0 :: bt 27 (.ag [Ti y18.1, Ti y18.2.1, Ti y18.2.2] :: .pt 80000 0 :: I y19.1 :: bt 13 [])), [(40, .box [Ti y18.1, Ti y18.2.1, Ti y18.2.2]), (80000, .pbox (σ 80000) [.sl (y19.2.1.map c5), Ti y19.2.2.1, .v (.int .u64 y19.2.2.2)])]⟩) rfl rfl (X_of_Y0 rfl (E_loadn (cs := [Ti y18.1, Ti y18.2.1, Ti y18.2.2]) [Ti y18.1, Ti y18.2.1, Ti y18.2.2] wd45 rfl (by kernel_rfl) (Nat.le_of_ble_eq_true rfl) (by kernel_rfl))) (by kernel_rfl) rfl (hE_cons (by kernel_rfl) (hE_cons (by kernel_rfl) hE_nil)) ?_
        exact step_nil
       refine tab_row [4, 3] (by kernel_rfl) (by kernel_rfl) ?_ ?_
       ·refine step_cons (s2 := ⟨.pt 80000 0 :: bt 4 (.pt 40 0 :: bt 27 (.ag [Ti y18.1, Ti y18.2.1, Ti y18.2.2] :: .pt 80000 0 :: I y19.1 :: .bot :: .pt 80000 0 :: bt 11 [])), [(40, .box [Ti y18.1, Ti y18.2.1, Ti y18.2.2]), (80000, .pbox (σ 80000) [.sl (y19.2.1.map c5), Ti y19.2.2.1, .v (.int .u64 y19.2.2.2)])]⟩) rfl rfl (X_of_Y0 rfl (E_move (.pt 80000 0) rfl (by kernel_rfl))) (by kernel_rfl) rfl (hE_cons (by kernel_rfl) (hE_cons (by kernel_rfl) hE_nil)) ?_
        refine step_cons (s2 := ⟨.pt 80000 0 :: bt 4 (.pt 40 0 :: bt 27 (.ag [Ti y18.1, Ti y18.2.1, Ti y18.2.2] :: .pt 80000 0 :: I y19.1 :: I (w64 (y19.1 - 6)) :: bt 12 [])), [(40, .box [Ti y18.1, Ti y18.2.1, Ti y18.2.2]), (80000, .pbox (σ 80000) [.sl (y19.2.1.map c5), Ti y19.2.2.1, .v (.int .u64 y19.2.2.2)])]⟩) rfl rfl (X_of_Y0 rfl (Y0_sub64 (a := y19.1) (b := 6) rfl (by kernel_rfl) (by kernel_rfl))) (by kernel_rfl) rfl (hE_cons (by kernel_rfl) (hE_cons (by kernel_rfl) hE_nil)) ?_
        exact step_nil
       refine tab_row [4, 0] (by kernel_rfl) (by kernel_rfl) ?_ ?_
       ·refine step_cons (s2 := ⟨.pt 80000 0 :: bt 4 (.pt 40 0 :: bt 28 (.pt 80000 0 :: I y19.1 :: I (w64 (y19.1 - 6)) :: .pt 80000 0 :: bt 11 [])), [(40, .box [Ti y18.1, Ti y18.2.1, Ti y18.2.2]), (80000, .pbox (σ 80000) [.sl (y19.2.1.map c5), Ti y19.2.2.1, .v (.int .u64 y19.2.2.2)])]⟩) rfl rfl (X_of_Y0 rfl (E_move (.pt 80000 0) rfl (by kernel_rfl))) (by kernel_rfl) rfl (hE_cons (by kernel_rfl) (hE_cons (by kernel_rfl) hE_nil)) ?_
        refine step_cons (s2 := ⟨.pt 80000 0 :: bt 4 (.pt 40 0 :: bt 27 (.ag [Ti y18.1, Ti y18.2.1, Ti y18.2.2] :: .pt 80000 0 :: I y19.1 :: I (w64 (y19.1 - 6)) :: bt 12 [])), [(40, .box [Ti y18.1, Ti y18.2.1, Ti y18.2.2]), (80000, .pbox (σ 80000) [.sl (y19.2.1.map c5), Ti y19.2.2.1, .v (.int .u64 y19.2.2.2)])]⟩) rfl rfl (X_of_Y0 rfl (E_loadn (cs := [Ti y18.1, Ti y18.2.1, Ti y18.2.2]) [Ti y18.1, Ti y18.2.1, Ti y18.2.2] wd45 rfl (by kernel_rfl) (Nat.le_of_ble_eq_true rfl) (by kernel_rfl))) (by kernel_rfl) rfl (hE_cons (by kernel_rfl) (hE_cons (by kernel_rfl) hE_nil)) ?_
        exact step_nil
       refine tab_row [4] (by kernel_rfl) (by kernel_rfl) ?_ ?_
       ·refine step_cons (s2 := ⟨.pt 80000 0 :: bt 4 (.pt 40 0 :: bt 27 (.ag [Ti y18.1, Ti y18.2.1, Ti y18.2.2] :: .pt 80000 0 :: I y19.1 :: I (w64 (y19.1 - 6)) :: .pt 80000 0 :: bt 11 [])), [(40, .box [Ti y18.1, Ti y18.2.1, Ti y18.2.2]), (80000, .pbox (σ 80000) [.sl (y19.2.1.map c5), Ti y19.2.2.1, .v (.int .u64 y19.2.2.2)])]⟩) rfl rfl (X_of_Y0 rfl (E_move (.pt 80000 0) rfl (by kernel_rfl))) (by kernel_rfl) rfl (hE_cons (by kernel_rfl) (hE_cons (by kernel_rfl) hE_nil)) ?_
        exact step_nil
       refine tab_row [1, 0] (by kernel_rfl) (by kernel_rfl) ?_ ?_
       ·refine step_cons (s2 := ⟨.pt 80000 0 :: bt 4 (.pt 40 0 :: bt 28 (.pt 80000 0 :: .bot :: .bot :: .pt 80000 0 :: bt 11 [])), [(40, .box [Ti y18.1, Ti y18.2.1, Ti y18.2.2]), (80000, .pbox (σ 80000) [.sl (y3.2.1.map c5), Ti y3.2.2.1, .v (.int .u64 y3.2.2.2)])]⟩) rfl rfl (X_of_Y0 rfl (E_move (.pt 80000 0) rfl (by kernel_rfl))) (by kernel_rfl) rfl (hE_cons (by kernel_rfl) (hE_cons (by kernel_rfl) hE_nil)) ?_
        refine step_cons (s2 := ⟨.pt 80000 0 :: bt 4 (.pt 40 0 :: bt 27 (.ag [Ti y18.1, Ti y18.2.1, Ti y18.2.2] :: bt 3 (.pt 80000 0 :: bt 11 []))), [(40, .box [Ti y18.1, Ti y18.2.1, Ti y18.2.2]), (80000, .pbox (σ 80000) [.sl (y3.2.1.map c5), Ti y3.2.2.1, .v (.int .u64 y3.2.2.2)])]⟩) rfl rfl (X_of_Y0 rfl (E_loadn (cs := [Ti y18.1, Ti y18.2.1, Ti y18.2.2]) [Ti y18.1, Ti y18.2.1, Ti y18.2.2] wd45 rfl (by kernel_rfl) (Nat.le_of_ble_eq_true rfl) (by kernel_rfl))) (by kernel_rfl) rfl (hE_cons (by kernel_rfl) (hE_cons (by kernel_rfl) hE_nil)) ?_
        exact step_nil
       refine tab_row [1] (by kernel_rfl) (by kernel_rfl) ?_ ?_
       ·refine step_cons (s2 := ⟨.pt 80000 0 :: bt 4 (.pt 40 0 :: bt 27 (.ag [Ti y18.1, Ti y18.2.1, Ti y18.2.2] :: .pt 80000 0 :: .bot :: .bot :: .pt 80000 0 :: bt 11 [])), [(40, .box [Ti y18.1, Ti y18.2.1, Ti y18.2.2]), (80000, .pbox (σ 80000) [.sl (y3.2.1.map c5), Ti y3.2.2.1, .v (.int .u64 y3.2.2.2)])]⟩) rfl rfl (X_of_Y0 rfl (E_move (.pt 80000 0) rfl (by kernel_rfl))) (by kernel_rfl) rfl (hE_cons (by kernel_rfl) (hE_cons (by kernel_rfl) hE_nil)) ?_
        exact step_nil
       refine tab_row [2, 0] (by kernel_rfl) (by kernel_rfl) ?_ ?_
       ·refine step_cons (s2 := ⟨.pt 80000 0 :: bt 4 (.pt 40 0 :: bt 28 (.pt 80000 0 :: I y19.1 :: .bot :: .pt 80000 0 :: bt 11 [])), [(40, .box [Ti y18.1, Ti y18.2.1, Ti y18.2.2]), (80000, .pbox (σ 80000) [.sl (y19.2.1.map c5), Ti y19.2.2.1, .v (.int .u64 y19.2.2.2)])]⟩) rfl rfl (X_callR (E' := [(40, .box [Ti y18.1, Ti y18.2.1, Ti y18.2.2]), (80000, .pbox (σ 80000) [.sl (y19.2.1.map c5), Ti y19.2.2.1, .v (.int .u64 y19.2.2.2)])]) [(80000, 80000)] 35 (s_spec_l1Cur_pick hy19) cf_spec_l1Cur_pick rfl rfl (by kernel_rfl) rfl (mE_cons (by kernel_rfl) mE_nil) rfl (by kernel_rfl) rfl rfl (by kernel_rfl)) (by kernel_rfl) rfl (hE_cons (by kernel_rfl) (hE_cons (by kernel_rfl) hE_nil)) ?_
        refine step_cons (s2 := ⟨.pt 80000 0 :: bt 4 (.pt 40 0 :: bt 27 (.ag [Ti y18.1, Ti y18.2.1, Ti y18.2.2] :: .pt 80000 0 :: .bot :: .bot :: .pt 80000 0 :: bt 11 [])), [(40, .box [Ti y18.1, Ti y18.2.1, Ti y18.2.2]), (80000, .pbox (σ 80000) [.sl (y3.2.1.map c5), Ti y3.2.2.1, .v (.int .u64 y3.2.2.2)])]⟩) rfl rfl (X_of_Y0 rfl (E_loadn (cs := [Ti y18.1, Ti y18.2.1, Ti y18.2.2]) [Ti y18.1, Ti y18.2.1, Ti y18.2.2] wd45 rfl (by kernel_rfl) (Nat.le_of_ble_eq_true rfl) (by kernel_rfl))) (by kernel_rfl) rfl (hE_cons (by kernel_rfl) (hE_cons (by kernel_rfl) hE_nil)) ?_
        exact step_nil
       refine tab_row [2] (by kernel_rfl) (by kernel_rfl) ?_ ?_
       ·refine step_cons (s2 := ⟨.pt 80000 0 :: bt 4 (.pt 40 0 :: bt 27 (.ag [Ti y18.1, Ti y18.2.1, Ti y18.2.2] :: .pt 80000 0 :: I y19.1 :: .bot :: .pt 80000 0 :: bt 11 [])), [(40, .box [Ti y18.1, Ti y18.2.1, Ti y18.2.2]), (80000, .pbox (σ 80000) [.sl (y19.2.1.map c5), Ti y19.2.2.1, .v (.int .u64 y19.2.2.2)])]⟩) rfl rfl (X_callR (E' := [(40, .box [Ti y18.1, Ti y18.2.1, Ti y18.2.2]), (80000, .pbox (σ 80000) [.sl (y19.2.1.map c5), Ti y19.2.2.1, .v (.int .u64 y19.2.2.2)])]) [(80000, 80000)] 35 (s_spec_l1Cur_pick hy19) cf_spec_l1Cur_pick rfl rfl (by kernel_rfl) rfl (mE_cons (by kernel_rfl) mE_nil) rfl (by kernel_rfl) rfl rfl (by kernel_rfl)) (by kernel_rfl) rfl (hE_cons (by kernel_rfl) (hE_cons (by kernel_rfl) hE_nil)) ?_
        exact step_nil
       refine tab_row [5, 3, 0] (by kernel_rfl) (by kernel_rfl) ?_ ?_
       ·refine step_cons (s2 := ⟨.pt 80000 0 :: bt 4 (.pt 40 0 :: bt 28 (.pt 80000 0 :: I y19.1 :: .bot :: .pt 80000 0 :: I y20.1 :: bt 10 [])), [(40, .box [Ti y18.1, Ti y18.2.1, Ti y18.2.2]), (80000, .pbox (σ 80000) [.sl (y20.2.1.map c5), Ti y20.2.2.1, .v (.int .u64 y20.2.2.2)])]⟩) rfl rfl (X_callR (E' := [(40, .box [Ti y18.1, Ti y18.2.1, Ti y18.2.2]), (80000, .pbox (σ 80000) [.sl (y20.2.1.map c5), Ti y20.2.2.1, .v (.int .u64 y20.2.2.2)])]) [(80000, 80000)] 38 (s_spec_l1Cur_pick hy20) cf_spec_l1Cur_pick rfl rfl (by kernel_rfl) rfl (mE_cons (by kernel_rfl) mE_nil) rfl (by kernel_rfl) rfl rfl (by kernel_rfl)) (by kernel_rfl) rfl (hE_cons (by kernel_rfl) (hE_cons (by kernel_rfl) hE_nil)) ?_
        refine step_cons (s2 := ⟨.pt 80000 0 :: bt 4 (.pt 40 0 :: bt 28 (.pt 80000 0 :: I y19.1 :: I (w64 (y19.1 - 6)) :: .pt 80000 0 :: bt 11 [])), [(40, .box [Ti y18.1, Ti y18.2.1, Ti y18.2.2]), (80000, .pbox (σ 80000) [.sl (y19.2.1.map c5), Ti y19.2.2.1, .v (.int .u64 y19.2.2.2)])]⟩) rfl rfl (X_of_Y0 rfl (Y0_sub64 (a := y19.1) (b := 6) rfl (by kernel_rfl) (by kernel_rfl))) (by kernel_rfl) rfl (hE_cons (by kernel_rfl) (hE_cons (by kernel_rfl) hE_nil)) ?_
        refine step_cons (s2 := ⟨.pt 80000 0 :: bt 4 (.pt 40 0 :: bt 27 (.ag [Ti y18.1, Ti y18.2.1, Ti y18.2.2] :: .pt 80000 0 :: I y19.1 :: .bot :: .pt 80000 0 :: bt 11 [])), [(40, .box [Ti y18.1, Ti y18.2.1, Ti y18.2.2]), (80000, .pbox (σ 80000) [.sl (y19.2.1.map c5), Ti y19.2.2.1, .v (.int .u64 y19.2.2.2)])]⟩) rfl rfl (X_of_Y0 rfl (E_loadn (cs := [Ti y18.1, Ti y18.2.1, Ti y18.2.2]) [Ti y18.1, Ti y18.2.1, Ti y18.2.2] wd45 rfl (by kernel_rfl) (Nat.le_of_ble_eq_true rfl) (by kernel_rfl))) (by kernel_rfl) rfl (hE_cons (by kernel_rfl) (hE_cons (by kernel_rfl) hE_nil)) ?_
        exact step_nil
       refine tab_row [5, 3] (by kernel_rfl) (by kernel_rfl) ?_ ?_
       ·refine step_cons (s2 := ⟨.pt 80000 0 :: bt 4 (.pt 40 0 :: bt 27 (.ag [Ti y18.1, Ti y18.2.1, Ti y18.2.2] :: .pt 80000 0 :: I y19.1 :: .bot :: .pt 80000 0 :: I y20.1 :: bt 10 [])), [(40, .box [Ti y18.1, Ti y18.2.1, Ti y18.2.2]), (80000, .pbox (σ 80000) [.sl (y20.2.1.map c5), Ti y20.2.2.1, .v (.int .u64 y20.2.2.2)])]⟩) rfl rfl (X_callR (E' := [(40, .box [Ti y18.1, Ti y18.2.1, Ti y18.2.2]), (80000, .pbox (σ 80000) [.sl (y20.2.1.map c5), Ti y20.2.2.1, .v (.int .u64 y20.2.2.2)])]) [(80000, 80000)] 38 (s_spec_l1Cur_pick hy20) cf_spec_l1Cur_pick rfl rfl (by kernel_rfl) rfl (mE_cons (by kernel_rfl) mE_nil) rfl (by kernel_rfl) rfl rfl (by kernel_rfl)) (by kernel_rfl) rfl (hE_cons (by kernel_rfl) (hE_cons (by kernel_rfl) hE_nil)) ?_
        refine step_cons (s2 := ⟨.pt 80000 0 :: bt 4 (.pt 40 0 :: bt 27 (.ag [Ti y18.1, Ti y18.2.1, Ti y18.2.2] :: .pt 80000 0 :: I y19.1 :: I (w64 (y19.1 - 6)) :: .pt 80000 0 :: bt 11 [])), [(40, .box [Ti y18.1, Ti y18.2.1, Ti y18.2.2]), (80000, .pbox (σ 80000) [.sl (y19.2.1.map c5), Ti y19.2.2.1, .v (.int .u64 y19.2.2.2)])]⟩) rfl rfl (X_of_Y0 rfl (Y0_sub64 (a := y19.1) (b := 6) rfl (by kernel_rfl) (by kernel_rfl))) (by kernel_rfl) rfl (hE_cons (by kernel_rfl) (hE_cons (by kernel_rfl) hE_nil)) ?_
        exact step_nil
       refine tab_row [5, 0] (by kernel_rfl) (by kernel_rfl) ?_ ?_
       ·refine step_cons (s2 := ⟨.pt 80000 0 :: bt 4 (.pt 40 0 :: bt 28 (.pt 80000 0 :: I y19.1 :: I (w64 (y19.1 - 6)) :: .pt 80000 0 :: I y20.1 :: bt 10 [])), [(40, .box [Ti y18.1, Ti y18.2.1, Ti y18.2.2]), (80000, .pbox (σ 80000) [.sl (y20.2.1.map c5), Ti y20.2.2.1, .v (.int .u64 y20.2.2.2)])]⟩) rfl rfl (X_callR (E' := [(40, .box [Ti y18.1, Ti y18.2.1, Ti y18.2.2]), (80000, .pbox (σ 80000) [.sl (y20.2.1.map c5), Ti y20.2.2.1, .v (.int .u64 y20.2.2.2)])]) [(80000, 80000)] 38 (s_spec_l1Cur_pick hy20) cf_spec_l1Cur_pick rfl rfl (by kernel_rfl) rfl (mE_cons (by kernel_rfl) mE_nil) rfl (by kernel_rfl) rfl rfl (by kernel_rfl)) (by kernel_rfl) rfl (hE_cons (by kernel_rfl) (hE_cons (by kernel_rfl) hE_nil)) ?_
        refine step_cons (s2 := ⟨.pt 80000 0 :: bt 4 (.pt 40 0 :: bt 27 (.ag [Ti y18.1, Ti y18.2.1, Ti y18.2.2] :: .pt 80000 0 :: I y19.1 :: I (w64 (y19.1 - 6)) :: .pt 80000 0 :: bt 11 [])), [(40, .box [Ti y18.1, Ti y18.2.1, Ti y18.2.2]), (80000, .pbox (σ 80000) [.sl (y19.2.1.map c5), Ti y19.2.2.1, .v (.int .u64 y19.2.2.2)])]⟩) rfl rfl (X_of_Y0 rfl (E_loadn (cs := [Ti y18.1, Ti y18.2.1, Ti y18.2.2]) [Ti y18.1, Ti y18.2.1, Ti y18.2.2] wd45 rfl (by kernel_rfl) (Nat.le_of_ble_eq_true rfl) (by kernel_rfl))) (by kernel_rfl) rfl (hE_cons (by kernel_rfl) (hE_cons (by kernel_rfl) hE_nil)) ?_
        exact step_nil
       refine tab_row [5] (by kernel_rfl) (by kernel_rfl) ?_ ?_
       ·refine step_cons (s2 := ⟨.pt 80000 0 :: bt 4 (.pt 40 0 :: bt 27 (.ag [Ti y18.1, Ti y18.2.1, Ti y18.2.2] :: .pt 80000 0 :: I y19.1 :: I (w64 (y19.1 - 6)) :: .pt 80000 0 :: I y20.1 :: bt 10 [])), [(40, .box [Ti y18.1, Ti y18.2.1, Ti y18.2.2]), (80000, .pbox (σ 80000) [.sl (y20.2.1.map c5), Ti y20.2.2.1, .v (.int .u64 y20.2.2.2)])]⟩) rfl rfl (X_callR (E' := [(40, .box [Ti y18.1, Ti y18.2.1, Ti y18.2.2]), (80000, .pbox (σ 80000) [.sl (y20.2.1.map c5), Ti y20.2.2.1, .v (.int .u64 y20.2.2.2)])]) [(80000, 80000)] 38 (s_spec_l1Cur_pick hy20) cf_spec_l1Cur_pick rfl rfl (by kernel_rfl) rfl (mE_cons (by kernel_rfl) mE_nil) rfl (by kernel_rfl) rfl rfl (by kernel_rfl)) (by kernel_rfl) rfl (hE_cons (by kernel_rfl) (hE_cons (by kernel_rfl) hE_nil)) ?_
        exact step_nil
       refine tab_row [6, 3, 0] (by kernel_rfl) (by kernel_rfl) ?_ ?_
       ·refine step_cons (s2 := ⟨.pt 80000 0 :: bt 4 (.pt 40 0 :: bt 28 (.pt 80000 0 :: I y19.1 :: .bot :: .pt 80000 0 :: I y20.1 :: I (w64 (y20.1 - 6)) :: bt 9 [])), [(40, .box [Ti y18.1, Ti y18.2.1, Ti y18.2.2]), (80000, .pbox (σ 80000) [.sl (y20.2.1.map c5), Ti y20.2.2.1, .v (.int .u64 y20.2.2.2)])]⟩) rfl rfl (X_of_Y0 rfl (Y0_sub64 (a := y20.1) (b := 6) rfl (by kernel_rfl) (by kernel_rfl))) (by kernel_rfl) rfl (hE_cons (by kernel_rfl) (hE_cons (by kernel_rfl) hE_nil)) ?_
        refine step_cons (s2 := ⟨.pt 80000 0 :: bt 4 (.pt 40 0 :: bt 28 (.pt 80000 0 :: I y19.1 :: I (w64 (y19.1 - 6)) :: .pt 80000 0 :: I y20.1 :: bt 10 [])), [(40, .box [Ti y18.1, Ti y18.2.1, Ti y18.2.2]), (80000, .pbox (σ 80000) [.sl (y20.2.1.map c5), Ti y20.2.2.1, .v (.int .u64 y20.2.2.2)])]⟩) rfl rfl (X_of_Y0 rfl (Y0_sub64 (a := y19.1) (b := 6) rfl (by kernel_rfl) (by kernel_rfl))) (by kernel_rfl) rfl (hE_cons (by kernel_rfl) (hE_cons (by kernel_rfl) hE_nil)) ?_
        refine step_cons (s2 := ⟨.pt 80000 0 :: bt 4 (.pt 40 0 :: bt 27 (.ag [Ti y18.1, Ti y18.2.1, Ti y18.2.2] :: .pt 80000 0 :: I y19.1 :: .bot :: .pt 80000 0 :: I y20.1 :: bt 10 [])), [(40, .box [Ti y18.1, Ti y18.2.1, Ti y18.2.2]), (80000, .pbox (σ 80000) [.sl (y20.2.1.map c5), Ti y20.2.2.1, .v (.int .u64 y20.2.2.2)])]⟩) rfl rfl (X_of_Y0 rfl (E_loadn (cs := [Ti y18.1, Ti y18.2.1, Ti y18.2.2]) [Ti y18.1, Ti y18.2.1, Ti y18.2.2] wd45 rfl (by kernel_rfl) (Nat.le_of_ble_eq_true rfl) (by kernel_rfl))) (by kernel_rfl) rfl (hE_cons (by kernel_rfl) (hE_cons (by kernel_rfl) hE_nil)) ?_
        exact step_nil
       refine tab_row [6, 3] (by kernel_rfl) (by kernel_rfl) ?_ ?_
       ·refine step_cons (s2 := ⟨.pt 80000 0 :: bt 4 (.pt 40 0 :: bt 27 (.ag [Ti y18.1, Ti y18.2.1, Ti y18.2.2] :: .pt 80000 0 :: I y19.1 :: .bot :: .pt 80000 0 :: I y20.1 :: I (w64 (y20.1 - 6)) :: bt 9 [])), [(40, .box [Ti y18.1, Ti y18.2.1, Ti y18.2.2]), (80000, .pbox (σ 80000) [.sl (y20.2.1.map c5), Ti y20.2.2.1, .v (.int .u64 y20.2.2.2)])]⟩) rfl rfl (X_of_Y0 rfl (Y0_sub64 (a := y20.1) (b := 6) rfl (by kernel_rfl) (by kernel_rfl))) (by kernel_rfl) rfl (hE_cons (by kernel_rfl) (hE_cons (by kernel_rfl) hE_nil)) ?_
        refine step_cons (s2 := ⟨.pt 80000 0 :: bt 4 (.pt 40 0 :: bt 27 (.ag [Ti y18.1, Ti y18.2.1, Ti y18.2.2] :: .pt 80000 0 :: I y19.1 :: I (w64 (y19.1 - 6)) :: .pt 80000 0 :: I y20.1 :: bt 10 [])), [(40, .box [Ti y18.1, Ti y18.2.1, Ti y18.2.2]), (80000, .pbox (σ 80000) [.sl (y20.2.1.map c5), Ti y20.2.2.1, .v (.int .u64 y20.2.2.2)])]⟩) rfl rfl (X_of_Y0 rfl (Y0_sub64 (a := y19.1) (b := 6) rfl (by kernel_rfl) (by kernel_rfl))) (by kernel_rfl) rfl (hE_cons (by kernel_rfl) (hE_cons (by kernel_rfl) hE_nil)) ?_
        exact step_nil
       refine tab_row [6, 0] (by kernel_rfl) (by kernel_rfl) ?_ ?_
       ·refine step_cons (s2 := ⟨.pt 80000 0 :: bt 4 (.pt 40 0 :: bt 28 (.pt 80000 0 :: I y19.1 :: I (w64 (y19.1 - 6)) :: .pt 80000 0 :: I y20.1 :: I (w64 (y20.1 - 6)) :: bt 9 [])), [(40, .box [Ti y18.1, Ti y18.2.1, Ti y18.2.2]), (80000, .pbox (σ 80000) [.sl (y20.2.1.map c5), Ti y20.2.2.1, .v (.int .u64 y20.2.2.2)])]⟩) rfl rfl (X_of_Y0 rfl (Y0_sub64 (a := y20.1) (b := 6) rfl (by kernel_rfl) (by kernel_rfl))) (by kernel_rfl) rfl (hE_cons (by kernel_rfl) (hE_cons (by kernel_rfl) hE_nil)) ?_
        refine step_cons (s2 := ⟨.pt 80000 0 :: bt 4 (.pt 40 0 :: bt 27 (.ag [Ti y18.1, Ti y18.2.1, Ti y18.2.2] :: .pt 80000 0 :: I y19.1 :: I (w64 (y19.1 - 6)) :: .pt 80000 0 :: I y20.1 :: bt 10 [])), [(40, .box [Ti y18.1, Ti y18.2.1, Ti y18.2.2]), (80000, .pbox (σ 80000) [.sl (y20.2.1.map c5), Ti y20.2.2.1, .v (.int .u64 y20.2.2.2)])]⟩) rfl rfl (X_of_Y0 rfl (E_loadn (cs := [Ti y18.1, Ti y18.2.1, Ti y18.2.2]) [Ti y18.1, Ti y18.2.1, Ti y18.2.2] wd45 rfl (by kernel_rfl) (Nat.le_of_ble_eq_true rfl) (by kernel_rfl))) (by kernel_rfl) rfl (hE_cons (by kernel_rfl) (hE_cons (by kernel_rfl) hE_nil)) ?_
        exact step_nil
       refine tab_row [6] (by kernel_rfl) (by kernel_rfl) ?_ ?_
       ·refine step_cons (s2 := ⟨.pt 80000 0 :: bt 4 (.pt 40 0 :: bt 27 (.ag [Ti y18.1, Ti y18.2.1, Ti y18.2.2] :: .pt 80000 0 :: I y19.1 :: I (w64 (y19.1 - 6)) :: .pt 80000 0 :: I y20.1 :: I (w64 (y20.1 - 6)) :: bt 9 [])), [(40, .box [Ti y18.1, Ti y18.2.1, Ti y18.2.2]), (80000, .pbox (σ 80000) [.sl (y20.2.1.map c5), Ti y20.2.2.1, .v (.int .u64 y20.2.2.2)])]⟩) rfl rfl (X_of_Y0 rfl (Y0_sub64 (a := y20.1) (b := 6) rfl (by kernel_rfl) (by kernel_rfl))) (by kernel_rfl) rfl (hE_cons (by kernel_rfl) (hE_cons (by kernel_rfl) hE_nil)) ?_
        exact step_nil
       refine tab_row [3, 0] (by kernel_rfl) (by kernel_rfl) ?_ ?_
       ·refine step_cons (s2 := ⟨.pt 80000 0 :: bt 4 (.pt 40 0 :: bt 28 (.pt 80000 0 :: I y19.1 :: I (w64 (y19.1 - 6)) :: .pt 80000 0 :: I y20.1 :: I (w64 (y20.1 - 6)) :: bt 9 [])), [(40, .box [Ti y18.1, Ti y18.2.1, Ti y18.2.2]), (80000, .pbox (σ 80000) [.sl (y20.2.1.map c5), Ti y20.2.2.1, .v (.int .u64 y20.2.2.2)])]⟩) rfl rfl (X_of_Y0 rfl (Y0_sub64 (a := y19.1) (b := 6) rfl (by kernel_rfl) (by kernel_rfl))) (by kernel_rfl) rfl (hE_cons (by kernel_rfl) (hE_cons (by kernel_rfl) hE_nil)) ?_
        refine step_cons (s2 := ⟨.pt 80000 0 :: bt 4 (.pt 40 0 :: bt 27 (.ag [Ti y18.1, Ti y18.2.1, Ti y18.2.2] :: .pt 80000 0 :: I y19.1 :: .bot :: .pt 80000 0 :: I y20.1 :: I (w64 (y20.1 - 6)) :: bt 9 [])), [(40, .box [Ti y18.1, Ti y18.2.1, Ti y18.2.2]), (80000, .pbox (σ 80000) [.sl (y20.2.1.map c5), Ti y20.2.2.1, .v (.int .u64 y20.2.2.2)])]⟩) rfl rfl (X_of_Y0 rfl (E_loadn (cs := [Ti y18.1, Ti y18.2.1, Ti y18.2.2]) [Ti y18.1, Ti y18.2.1, Ti y18.2.2] wd45 rfl (by kernel_rfl) (Nat.le_of_ble_eq_true rfl) (by kernel_rfl))) (by kernel_rfl) rfl (hE_cons (by kernel_rfl) (hE_cons (by kernel_rfl) hE_nil)) ?_
        exact step_nil
       refine tab_row [3] (by kernel_rfl) (by kernel_rfl) ?_ ?_
       ·refine step_cons (s2 := ⟨.pt 80000 0 :: bt 4 (.pt 40 0 :: bt 27 (.ag [Ti y18.1, Ti y18.2.1, Ti y18.2.2] :: .pt 80000 0 :: I y19.1 :: I (w64 (y19.1 - 6)) :: .pt 80000 0 :: I y20.1 :: I (w64 (y20.1 - 6)) :: bt 9 [])), [(40, .box [Ti y18.1, Ti y18.2.1, Ti y18.2.2]), (80000, .pbox (σ 80000) [.sl (y20.2.1.map c5), Ti y20.2.2.1, .v (.int .u64 y20.2.2.2)])]⟩) rfl rfl (X_of_Y0 rfl (Y0_sub64 (a := y19.1) (b := 6) rfl (by kernel_rfl) (by kernel_rfl))) (by kernel_rfl) rfl (hE_cons (by kernel_rfl) (hE_cons (by kernel_rfl) hE_nil)) ?_
        exact step_nil
       refine tab_row [0] (by kernel_rfl) (by kernel_rfl) ?_ ?_
       ·refine step_cons (s2 := ⟨.pt 80000 0 :: bt 4 (.pt 40 0 :: bt 27 (.ag [Ti y18.1, Ti y18.2.1, Ti y18.2.2] :: .pt 80000 0 :: I y19.1 :: I (w64 (y19.1 - 6)) :: .pt 80000 0 :: I y20.1 :: I (w64 (y20.1 - 6)) :: bt 9 [])), [(40, .box [Ti y18.1, Ti y18.2.1, Ti y18.2.2]), (80000, .pbox (σ 80000) [.sl (y20.2.1.map c5), Ti y20.2.2.1, .v (.int .u64 y20.2.2.2)])]⟩) rfl rfl (X_of_Y0 rfl (E_loadn (cs := [Ti y18.1, Ti y18.2.1, Ti y18.2.2]) [Ti y18.1, Ti y18.2.1, Ti y18.2.2] wd45 rfl (by kernel_rfl) (Nat.le_of_ble_eq_true rfl) (by kernel_rfl))) (by kernel_rfl) rfl (hE_cons (by kernel_rfl) (hE_cons (by kernel_rfl) hE_nil)) ?_
        exact step_nil
       refine tab_row [7] (by kernel_rfl) (by kernel_rfl) ?_ ?_
       ·refine step_cons (s2 := ⟨.pt 80000 0 :: bt 4 (.pt 40 0 :: bt 27 (.ag [Ti y18.1, Ti y18.2.1, Ti y18.2.2] :: .pt 80000 0 :: I y19.1 :: I (w64 (y19.1 - 6)) :: .pt 80000 0 :: I y20.1 :: I (w64 (y20.1 - 6)) :: I y21 :: bt 8 [])), [(40, .box [Ti y18.1, Ti y18.2.1, Ti y18.2.2]), (80000, .pbox (σ 80000) [.sl (y20.2.1.map c5), Ti y20.2.2.1, .v (.int .u64 y20.2.2.2)])]⟩) rfl rfl (X_of_Y1 rfl (Y1_call (s_spec_foValue hy21) cf_spec_foValue rfl (by kernel_rfl))) (by kernel_rfl) rfl (hE_cons (by kernel_rfl) (hE_cons (by kernel_rfl) hE_nil)) ?_
        exact step_nil
       refine tab_row [8] (by kernel_rfl) (by kernel_rfl) ?_ ?_
       ·refine step_cons (s2 := ⟨.pt 80000 0 :: bt 4 (.pt 40 0 :: I y21 :: bt 26 (.ag [Ti y18.1, Ti y18.2.1, Ti y18.2.2] :: .pt 80000 0 :: I y19.1 :: I (w64 (y19.1 - 6)) :: .pt 80000 0 :: I y20.1 :: I (w64 (y20.1 - 6)) :: I y21 :: bt 8 [])), [(40, .box [Ti y18.1, Ti y18.2.1, Ti y18.2.2]), (80000, .pbox (σ 80000) [.sl (y20.2.1.map c5), Ti y20.2.2.1, .v (.int .u64 y20.2.2.2)])]⟩) rfl rfl (X_of_Y0 rfl (E_assign (I y21) rfl (by kernel_rfl))) (by kernel_rfl) rfl (hE_cons (by kernel_rfl) (hE_cons (by kernel_rfl) hE_nil)) ?_
        exact step_nil
       refine tab_last (by kernel_rfl) ?_ tab_nil
       kernel_rfl
      refine V_seq ?_
      obtain ⟨y22, hy22, h⟩ := of_bind h
      refine V_sreg (mb 49 4398046511169) [80000] (s1 := ⟨.pt 80000 0 :: bt 5 (I y21 :: bt 35 (Bo y22.1 :: bt 6 [])), [(80000, .pbox (σ 80000) [.sl (y22.2.1.map c5), Ti y22.2.2.1, .v (.int .u64 y22.2.2.2)])]⟩) ?_ ?_
      ·refine L0 rfl rfl (E_move (.pt 80000 0) rfl (by kernel_rfl)) ?_
       refine XL_cons rfl (X_callR (E' := [(80000, .pbox (σ 80000) [.sl (y22.2.1.map c5), Ti y22.2.2.1, .v (.int .u64 y22.2.2.2)])]) [(80000, 80000)] 42 (s_spec_l1Cur_one hy22) cf_spec_l1Cur_one rfl rfl (by kernel_rfl) rfl (mE_cons (by kernel_rfl) mE_nil) rfl (by kernel_rfl) rfl rfl (by kernel_rfl)) ?_
       refine XL_nil ?_
       kernel_rfl
      refine V_cond rfl (fun hc23 => ?_) (fun hc23 => ?_)
      ·have h := of_true h hc23
       obtain ⟨y24, hy24, h⟩ := of_bind h
       obtain ⟨vn25, hvn25, h⟩ := of_sI h
       refine V_reg (mb 49 64) [80000] (s1 := ⟨bt 6 (I vn25 :: bt 42 []), [(80000, .pbox (σ 80000) [.sl (y24.2.1.map c5), Ti y24.2.2.1, .v (.int .u64 y24.2.2.2)])]⟩) ?_ ?_
       ·refine L0 rfl rfl (E_move (I y21) rfl (by kernel_rfl)) ?_
        refine L0 rfl rfl (E_move (.pt 80000 0) rfl (by kernel_rfl)) ?_
        refine L1 rfl rfl (Y1_bslice (z := zv3) (els := [4, 9, 25, 2, 3].map c3) Try.underlying41 iz3 rfl (by decide) rfl (by kernel_rfl) rfl (by simp [c3]) (by decide) (by decide)) ?_
        refine XL_freeze 360 (T := 3) (sz := 1) (els := ([4, 9, 25, 2, 3]).map c3) (s1 := ⟨.pt 80000 0 :: bt 5 (I y21 :: bt 35 (Bo y22.1 :: I y21 :: .pt 80000 0 :: .c (.sl (([4, 9, 25, 2, 3]).map c3)) :: bt 3 [])), [(80000, .pbox (σ 80000) [.sl (y22.2.1.map c5), Ti y22.2.2.1, .v (.int .u64 y22.2.2.2)])]⟩) (by kernel_rfl) (by kernel_rfl) ?_
        refine XL_cons rfl (X_callR (E' := [(80000, .pbox (σ 80000) [.sl (y24.2.1.map c5), Ti y24.2.2.1, .v (.int .u64 y24.2.2.2)])]) [(80000, 80000)] 46 (s_spec_l1Cur_among hy24) cf_spec_l1Cur_among rfl rfl (by kernel_rfl) rfl (mE_cons (by kernel_rfl) mE_nil) rfl (by kernel_rfl) rfl rfl (by kernel_rfl)) ?_
        refine L0 rfl rfl (Y0_mul64 (a := y21) (b := y24.1) rfl (by kernel_rfl) (by kernel_rfl)) ?_
        refine L0 rfl rfl (E_assign (I (w64 (y21 * y24.1))) rfl (by kernel_rfl)) ?_
        refine XL_nil ?_
        subst hvn25
        kernel_rfl
       show V _ _ _ _
       refine V_sreg (mb 49 16) [80000] (s1 := ⟨bt 4 (I vn25 :: bt 44 []), [(80000, .pbox (σ 80000) [.sl (y24.2.1.map c5), Ti y24.2.2.1, .v (.int .u64 y24.2.2.2)])]⟩) ?_ ?_
       ·refine L0 rfl rfl (E_move (I vn25) rfl (by kernel_rfl)) ?_
        refine L0 rfl rfl (E_assign (I vn25) rfl (by kernel_rfl)) ?_
        refine XL_nil ?_
        kernel_rfl
       refine V_ret ?_
       obtain rfl := some_inj h
       show PostR _ _ _ _ _ _
       exact ⟨⟨.inr rfl, rfl, rfl, rfl⟩, ⟨rfl, trivial⟩⟩
      ·have h := of_false h hc23
       refine V_skip ?_
       show V _ _ _ _
       refine V_sreg (mb 49 16) [80000] (s1 := ⟨bt 4 (I y21 :: bt 44 []), [(80000, .pbox (σ 80000) [.sl (y22.2.1.map c5), Ti y22.2.2.1, .v (.int .u64 y22.2.2.2)])]⟩) ?_ ?_
       ·refine L0 rfl rfl (E_move (I y21) rfl (by kernel_rfl)) ?_
        refine L0 rfl rfl (E_assign (I y21) rfl (by kernel_rfl)) ?_
        refine XL_nil ?_
        kernel_rfl
       refine V_ret ?_
       obtain rfl := some_inj h
       show PostR _ _ _ _ _ _
       exact ⟨⟨.inr rfl, rfl, rfl, rfl⟩, ⟨rfl, trivial⟩⟩
theorem cf_spec_l1Cur_valued : ∀ args w, (callFunc 148 args).run Try.prog w = .ok (.enter 148 args) w := run_callFunc Try.func148 (by kernel_rfl) (by kernel_rfl)
set_option maxRecDepth 100000 in
set_option maxHeartbeats 400000 in
theorem s_spec_l1Cur_valued {c1 : ((List Int) × Int × Int)} {r : (((Int × Int × Int)) × Int × (((List Int) × Int × Int)))} (h : r_spec_l1Cur_valued c1 = some r) : CallR Try.prog 148 [.pt 80000 0] [(80000, .box [.sl (c1.1.map c5), Ti c1.2.1, .v (.int .u64 c1.2.2)])] (.tc (.ag [Ti r.1.1, Ti r.1.2.1, Ti r.1.2.2]) (.tc (I r.2.1) .tn)) [] [(80000, .box [.sl (r.2.2.1.map c5), Ti r.2.2.2.1, .v (.int .u64 r.2.2.2.2)])] := by
  refine CallR_of_text (rs := [.w 2 3, .t 3]) (vs := [.cell 2 45, .tmp 3]) Try.func148 rfl rfl (.cons ⟨rfl, wd45⟩ (.cons rfl FitsL.nil)) (by decide) 35 rfl rfl fun σ => ?_
  unfold r_spec_l1Cur_valued at h
  show V _ _ ⟨.pt 80000 0 :: bt 34 [], [(80000, .pbox (σ 80000) [.sl (c1.1.map c5), Ti c1.2.1, .v (.int .u64 c1.2.2)])]⟩ _
  refine V_sreg (mb 35 5) [16, 80000] (s1 := ⟨.pt 80000 0 :: .bot :: .pt 16 0 :: bt 32 [], [(16, .box [Ti 0, Ti 0, Ti 0]), (80000, .pbox (σ 80000) [.sl (c1.1.map c5), Ti c1.2.1, .v (.int .u64 c1.2.2)])]⟩) ?_ ?_
  ·refine L1 rfl rfl (Y1_alloc (z := zv45) rfl zf45 rfl) ?_
   refine L0 rfl rfl (E_assign (I 0) rfl (by kernel_rfl)) ?_
   refine XL_nil ?_
   kernel_rfl
  obtain ⟨y2, hy2, h⟩ := of_bind h
  obtain ⟨y3, hy3, h⟩ := of_bind h
  obtain ⟨y4, hy4, h⟩ := of_bind h
  refine V_sreg (mb 35 21) [32, 16, 80000] (s1 := ⟨.pt 80000 0 :: .bot :: .pt 16 0 :: .bot :: .pt 32 0 :: bt 30 [], [(32, .box [Ti y4.1.1, Ti y4.1.2.1, Ti y4.1.2.2]), (16, .box [Ti 0, Ti 0, Ti 0]), (80000, .pbox (σ 80000) [.sl (y4.2.1.map c5), Ti y4.2.2.1, .v (.int .u64 y4.2.2.2)])]⟩) ?_ ?_
  ·refine L0 rfl rfl (E_move (.pt 80000 0) rfl (by kernel_rfl)) ?_
   refine L0 rfl rfl (E_move (.pt 80000 0) rfl (by kernel_rfl)) ?_
   refine L0 rfl rfl (E_move (.pt 80000 0) rfl (by kernel_rfl)) ?_
   refine XL_cons rfl (X_callR (E' := [(16, .box [Ti 0, Ti 0, Ti 0]), (80000, .pbox (σ 80000) [.sl (y2.2.1.map c5), Ti y2.2.2.1, .v (.int .u64 y2.2.2.2)])]) [(80000, 80000)] 8 (s_spec_l1Cur_goodDisc hy2) cf_spec_l1Cur_goodDisc rfl rfl (by kernel_rfl) rfl (mE_cons (by kernel_rfl) mE_nil) rfl (by kernel_rfl) rfl rfl (by kernel_rfl)) ?_
   refine XL_cons rfl (X_callR (E' := [(16, .box [Ti 0, Ti 0, Ti 0]), (80000, .pbox (σ 80000) [.sl (y3.2.1.map c5), Ti y3.2.2.1, .v (.int .u64 y3.2.2.2)])]) [(80000, 80000)] 9 (s_spec_l1Cur_reduced hy3) cf_spec_l1Cur_reduced rfl rfl (by kernel_rfl) rfl (mE_cons (by kernel_rfl) mE_nil) rfl (by kernel_rfl) rfl rfl (by kernel_rfl)) ?_
   refine XL_cons rfl (X_callR (E' := [(16, .box [Ti 0, Ti 0, Ti 0]), (80000, .pbox (σ 80000) [.sl (y4.2.1.map c5), Ti y4.2.2.1, .v (.int .u64 y4.2.2.2)])]) [(80000, 80000)] 10 (s_spec_l1Cur_moved hy4) cf_spec_l1Cur_moved rfl rfl (by kernel_rfl) rfl (mE_cons (by kernel_rfl) mE_nil) rfl (by kernel_rfl) rfl rfl (by kernel_rfl)) ?_
   refine L1 rfl rfl (Y1_alloc (z := zv45) rfl zf45 rfl) ?_
   refine XL_cons rfl (E_store (id := 32) (off := 0) (cs := [Ti 0, Ti 0, Ti 0]) (vc := [Ti y4.1.1, Ti y4.1.2.1, Ti y4.1.2.2]) [Ti y4.1.1, Ti y4.1.2.1, Ti y4.1.2.2] rfl rfl (by kernel_rfl) (by kernel_rfl) (by kernel_rfl) sz45 (Nat.le_of_ble_eq_true rfl) (by kernel_rfl)) ?_
   refine XL_nil ?_
   kernel_rfl
  obtain ⟨j5, hj5, h⟩ := of_bind h
  refine V_cutK (mb 35 21) [32, 16, 80000] (s1 := ⟨.pt 80000 0 :: .bot :: .pt 16 0 :: .bot :: .pt 32 0 :: bt 30 [], [(32, .box [Ti j5.1, Ti j5.2.1, Ti j5.2.2.1]), (16, .box [Ti 0, Ti 0, Ti 0]), (80000, .pbox (σ 80000) [.sl (j5.2.2.2.1.map c5), Ti j5.2.2.2.2.1, .v (.int .u64 j5.2.2.2.2.2)])]⟩) ?_ ?_
  ·clear h
   have h := hj5
   clear hj5
   obtain ⟨y6, hy6, h⟩ := of_bind h
   refine V_sreg (mb 35 4117) [32, 16, 80000] (s1 := ⟨.pt 80000 0 :: .bot :: .pt 16 0 :: .bot :: .pt 32 0 :: bt 7 (I y6.1 :: bt 22 []), [(32, .box [Ti y4.1.1, Ti y4.1.2.1, Ti y4.1.2.2]), (16, .box [Ti 0, Ti 0, Ti 0]), (80000, .pbox (σ 80000) [.sl (y6.2.1.map c5), Ti y6.2.2.1, .v (.int .u64 y6.2.2.2)])]⟩) ?_ ?_
   ·refine L0 rfl rfl (E_move (.pt 80000 0) rfl (by kernel_rfl)) ?_
    refine XL_cons rfl (X_callR (E' := [(32, .box [Ti y4.1.1, Ti y4.1.2.1, Ti y4.1.2.2]), (16, .box [Ti 0, Ti 0, Ti 0]), (80000, .pbox (σ 80000) [.sl (y6.2.1.map c5), Ti y6.2.2.1, .v (.int .u64 y6.2.2.2)])]) [(80000, 80000)] 12 (s_spec_l1Cur_pick hy6) cf_spec_l1Cur_pick rfl rfl (by kernel_rfl) rfl (mE_cons (by kernel_rfl) mE_nil) rfl (by kernel_rfl) rfl rfl (by kernel_rfl)) ?_
    refine XL_nil ?_
    kernel_rfl
   refine V_block ?_
   refine V_sreg (mb 35 12309) [32, 16, 80000] (s1 := ⟨.pt 80000 0 :: .bot :: .pt 16 0 :: .bot :: .pt 32 0 :: bt 7 (I y6.1 :: Bo (eqI y6.1 0) :: bt 21 []), [(32, .box [Ti y4.1.1, Ti y4.1.2.1, Ti y4.1.2.2]), (16, .box [Ti 0, Ti 0, Ti 0]), (80000, .pbox (σ 80000) [.sl (y6.2.1.map c5), Ti y6.2.2.1, .v (.int .u64 y6.2.2.2)])]⟩) ?_ ?_
   ·refine L0 rfl rfl (Y0_eqw (k := .i64) (a := y6.1) (b := 0) rfl (by kernel_rfl) (by kernel_rfl)) ?_
    refine L0 rfl rfl (E_assign (Bo (eqI y6.1 0)) rfl (by kernel_rfl)) ?_
    refine XL_nil ?_
    kernel_rfl
   refine V_cond rfl (fun hc7 => ?_) (fun hc7 => ?_)
   ·have h := of_true h hc7
    obtain ⟨y8, hy8, h⟩ := of_bind h
    refine V_reg (mb 35 21) [32, 16, 80000] (s1 := ⟨.pt 80000 0 :: .bot :: .pt 16 0 :: .bot :: .pt 32 0 :: bt 30 [], [(32, .box [Ti y8.1.1, Ti y8.1.2.1, Ti y8.1.2.2]), (16, .box [Ti 0, Ti 0, Ti 0]), (80000, .pbox (σ 80000) [.sl (y8.2.1.map c5), Ti y8.2.2.1, .v (.int .u64 y8.2.2.2)])]⟩) ?_ ?_
    ·refine L0 rfl rfl (E_move (.pt 80000 0) rfl (by kernel_rfl)) ?_
     refine XL_cons rfl (X_callR (E' := [(32, .box [Ti y4.1.1, Ti y4.1.2.1, Ti y4.1.2.2]), (16, .box [Ti 0, Ti 0, Ti 0]), (80000, .pbox (σ 80000) [.sl (y8.2.1.map c5), Ti y8.2.2.1, .v (.int .u64 y8.2.2.2)])]) [(80000, 80000)] 16 (s_spec_l1Cur_definite hy8) cf_spec_l1Cur_definite rfl rfl (by kernel_rfl) rfl (mE_cons (by kernel_rfl) mE_nil) rfl (by kernel_rfl) rfl rfl (by kernel_rfl)) ?_
     refine XL_cons rfl (E_store (id := 32) (off := 0) (cs := [Ti y4.1.1, Ti y4.1.2.1, Ti y4.1.2.2]) (vc := [Ti y8.1.1, Ti y8.1.2.1, Ti y8.1.2.2]) [Ti y8.1.1, Ti y8.1.2.1, Ti y8.1.2.2] rfl rfl (by kernel_rfl) (by kernel_rfl) (by kernel_rfl) sz45 (Nat.le_of_ble_eq_true rfl) (by kernel_rfl)) ?_
     refine XL_nil ?_
     kernel_rfl
    obtain rfl := some_inj h
    show St.keep _ _ _ = _
    rfl
   ·have h := of_false h hc7
    refine V_sreg (mb 35 135189) [32, 16, 80000] (s1 := ⟨.pt 80000 0 :: .bot :: .pt 16 0 :: .bot :: .pt 32 0 :: bt 7 (I y6.1 :: bt 4 (Bo (eqI y6.1 1) :: bt 17 [])), [(32, .box [Ti y4.1.1, Ti y4.1.2.1, Ti y4.1.2.2]), (16, .box [Ti 0, Ti 0, Ti 0]), (80000, .pbox (σ 80000) [.sl (y6.2.1.map c5), Ti y6.2.2.1, .v (.int .u64 y6.2.2.2)])]⟩) ?_ ?_
    ·refine L0 rfl rfl (Y0_eqw (k := .i64) (a := y6.1) (b := 1) rfl (by kernel_rfl) (by kernel_rfl)) ?_
     refine L0 rfl rfl (E_assign (Bo (eqI y6.1 1)) rfl (by kernel_rfl)) ?_
     refine XL_nil ?_
     kernel_rfl
    refine V_cond rfl (fun hc9 => ?_) (fun hc9 => ?_)
    ·have h := of_true h hc9
     obtain ⟨y10, hy10, h⟩ := of_bind h
     refine V_reg (mb 35 21) [32, 16, 80000] (s1 := ⟨.pt 80000 0 :: .bot :: .pt 16 0 :: .bot :: .pt 32 0 :: bt 30 [], [(32, .box [Ti 3, Ti y10.1, Ti 3]), (16, .box [Ti 0, Ti 0, Ti 0]), (80000, .pbox (σ 80000) [.sl (y10.2.1.map c5), Ti y10.2.2.1, .v (.int .u64 y10.2.2.2)])]⟩) ?_ ?_
     ·refine L0 rfl rfl (E_move (.pt 80000 0) rfl (by kernel_rfl)) ?_
      refine XL_cons rfl (X_callR (E' := [(32, .box [Ti y4.1.1, Ti y4.1.2.1, Ti y4.1.2.2]), (16, .box [Ti 0, Ti 0, Ti 0]), (80000, .pbox (σ 80000) [.sl (y10.2.1.map c5), Ti y10.2.2.1, .v (.int .u64 y10.2.2.2)])]) [(80000, 80000)] 20 (s_spec_l1Cur_pick hy10) cf_spec_l1Cur_pick rfl rfl (by kernel_rfl) rfl (mE_cons (by kernel_rfl) mE_nil) rfl (by kernel_rfl) rfl rfl (by kernel_rfl)) ?_
      refine L0 rfl rfl (Y0_build (cs := [Ti 3, Ti y10.1, Ti 3]) pl45 bt45 rfl rfl (by kernel_rfl)) ?_
      refine XL_cons rfl (E_store (id := 32) (off := 0) (cs := [Ti y4.1.1, Ti y4.1.2.1, Ti y4.1.2.2]) (vc := [Ti 3, Ti y10.1, Ti 3]) [Ti 3, Ti y10.1, Ti 3] rfl rfl (by kernel_rfl) (by kernel_rfl) (by kernel_rfl) sz45 (Nat.le_of_ble_eq_true rfl) (by kernel_rfl)) ?_
      refine XL_nil ?_
      kernel_rfl
     obtain rfl := some_inj h
     show St.keep _ _ _ = _
     rfl
    ·have h := of_false h hc9
     refine V_sreg (mb 35 4194325) [32, 16, 80000] (s1 := ⟨.pt 80000 0 :: .bot :: .pt 16 0 :: .bot :: .pt 32 0 :: bt 17 (Bo (eqI y6.1 2) :: bt 12 []), [(32, .box [Ti y4.1.1, Ti y4.1.2.1, Ti y4.1.2.2]), (16, .box [Ti 0, Ti 0, Ti 0]), (80000, .pbox (σ 80000) [.sl (y6.2.1.map c5), Ti y6.2.2.1, .v (.int .u64 y6.2.2.2)])]⟩) ?_ ?_
     ·refine L0 rfl rfl (Y0_eqw (k := .i64) (a := y6.1) (b := 2) rfl (by kernel_rfl) (by kernel_rfl)) ?_
      refine L0 rfl rfl (E_assign (Bo (eqI y6.1 2)) rfl (by kernel_rfl)) ?_
      refine XL_nil ?_
      kernel_rfl
     refine V_cond rfl (fun hc11 => ?_) (fun hc11 => ?_)
     ·have h := of_true h hc11
      obtain ⟨y12, hy12, h⟩ := of_bind h
      obtain ⟨y13, hy13, h⟩ := of_bind h
      obtain ⟨f14, hf14, h⟩ := of_sI h
      obtain ⟨f15, hf15, h⟩ := of_sI h
      refine V_reg (mb 35 21) [32, 16, 80000] (s1 := ⟨.pt 80000 0 :: .bot :: .pt 16 0 :: .bot :: .pt 32 0 :: bt 30 [], [(32, .box [Ti f14, Ti 0, Ti f15]), (16, .box [Ti 0, Ti 0, Ti 0]), (80000, .pbox (σ 80000) [.sl (y13.2.1.map c5), Ti y13.2.2.1, .v (.int .u64 y13.2.2.2)])]⟩) ?_ ?_
      ·refine L0 rfl rfl (E_move (.pt 80000 0) rfl (by kernel_rfl)) ?_
       refine XL_cons rfl (X_callR (E' := [(32, .box [Ti y4.1.1, Ti y4.1.2.1, Ti y4.1.2.2]), (16, .box [Ti 0, Ti 0, Ti 0]), (80000, .pbox (σ 80000) [.sl (y12.2.1.map c5), Ti y12.2.2.1, .v (.int .u64 y12.2.2.2)])]) [(80000, 80000)] 25 (s_spec_l1Cur_pick hy12) cf_spec_l1Cur_pick rfl rfl (by kernel_rfl) rfl (mE_cons (by kernel_rfl) mE_nil) rfl (by kernel_rfl) rfl rfl (by kernel_rfl)) ?_
       refine L0 rfl rfl (Y0_add64 (a := 1) (b := y12.1) rfl (by kernel_rfl) (by kernel_rfl)) ?_
       refine L0 rfl rfl (E_move (.pt 80000 0) rfl (by kernel_rfl)) ?_
       refine XL_cons rfl (X_callR (E' := [(32, .box [Ti y4.1.1, Ti y4.1.2.1, Ti y4.1.2.2]), (16, .box [Ti 0, Ti 0, Ti 0]), (80000, .pbox (σ 80000) [.sl (y13.2.1.map c5), Ti y13.2.2.1, .v (.int .u64 y13.2.2.2)])]) [(80000, 80000)] 28 (s_spec_l1Cur_pick hy13) cf_spec_l1Cur_pick rfl rfl (by kernel_rfl) rfl (mE_cons (by kernel_rfl) mE_nil) rfl (by kernel_rfl) rfl rfl (by kernel_rfl)) ?_
       refine L0 rfl rfl (Y0_add64 (a := 1) (b := y13.1) rfl (by kernel_rfl) (by kernel_rfl)) ?_
       refine L0 rfl rfl (Y0_build (cs := [Ti (w64 (1 + y12.1)), Ti 0, Ti (w64 (1 + y13.1))]) pl45 bt45 rfl rfl (by kernel_rfl)) ?_
       refine XL_cons rfl (E_store (id := 32) (off := 0) (cs := [Ti y4.1.1, Ti y4.1.2.1, Ti y4.1.2.2]) (vc := [Ti (w64 (1 + y12.1)), Ti 0, Ti (w64 (1 + y13.1))]) [Ti (w64 (1 + y12.1)), Ti 0, Ti (w64 (1 + y13.1))] rfl rfl (by kernel_rfl) (by kernel_rfl) (by kernel_rfl) sz45 (Nat.le_of_ble_eq_true rfl) (by kernel_rfl)) ?_
       refine XL_nil ?_
       subst hf14 hf15
       kernel_rfl
      obtain rfl := some_inj h
      show St.keep _ _ _ = _
      rfl
     ·have h := of_false h hc11
      refine V_skip ?_
      obtain rfl := some_inj h
      show St.keep _ _ _ = _
      rfl
  obtain ⟨y16, hy16, h⟩ := of_bind h
  refine V_sdagK (mb 35 12) [16, 80000] [0, 0, 0, 6, 15, 31] [(0, ⟨.pt 80000 0 :: .bot :: .pt 16 0 :: .bot :: .pt 32 0 :: bt 30 [], [(32, .box [Ti j5.1, Ti j5.2.1, Ti j5.2.2.1]), (16, .box [Ti 0, Ti 0, Ti 0]), (80000, .pbox (σ 80000) [.sl (j5.2.2.2.1.map c5), Ti j5.2.2.2.2.1, .v (.int .u64 j5.2.2.2.2.2)])]⟩), (1, ⟨.pt 80000 0 :: .bot :: .pt 16 0 :: .bot :: .pt 32 0 :: bt 26 (.ag [Ti j5.1, Ti j5.2.1, Ti j5.2.2.1] :: bt 3 []), [(32, .box [Ti j5.1, Ti j5.2.1, Ti j5.2.2.1]), (16, .box [Ti 0, Ti 0, Ti 0]), (80000, .pbox (σ 80000) [.sl (j5.2.2.2.1.map c5), Ti j5.2.2.2.2.1, .v (.int .u64 j5.2.2.2.2.2)])]⟩), (2, ⟨.pt 80000 0 :: .bot :: .pt 16 0 :: .bot :: .pt 32 0 :: bt 27 (.pt 80000 0 :: .bot :: .bot :: []), [(32, .box [Ti j5.1, Ti j5.2.1, Ti j5.2.2.1]), (16, .box [Ti 0, Ti 0, Ti 0]), (80000, .pbox (σ 80000) [.sl (j5.2.2.2.1.map c5), Ti j5.2.2.2.2.1, .v (.int .u64 j5.2.2.2.2.2)])]⟩), (3, ⟨.pt 80000 0 :: .bot :: .pt 16 0 :: .bot :: .pt 32 0 :: bt 26 (.ag [Ti j5.1, Ti j5.2.1, Ti j5.2.2.1] :: .pt 80000 0 :: .bot :: .bot :: []), [(32, .box [Ti j5.1, Ti j5.2.1, Ti j5.2.2.1]), (16, .box [Ti 0, Ti 0, Ti 0]), (80000, .pbox (σ 80000) [.sl (j5.2.2.2.1.map c5), Ti j5.2.2.2.2.1, .v (.int .u64 j5.2.2.2.2.2)])]⟩), (4, ⟨.pt 80000 0 :: .bot :: .pt 16 0 :: .bot :: .pt 32 0 :: bt 28 (.ag [Ti j5.1, Ti j5.2.1, Ti j5.2.2.1] :: .bot :: []), [(32, .box [Ti j5.1, Ti j5.2.1, Ti j5.2.2.1]), (16, .box [Ti 0, Ti 0, Ti 0]), (80000, .pbox (σ 80000) [.sl (j5.2.2.2.1.map c5), Ti j5.2.2.2.2.1, .v (.int .u64 j5.2.2.2.2.2)])]⟩), (5, ⟨.pt 80000 0 :: .bot :: .pt 16 0 :: .bot :: .pt 32 0 :: bt 26 (.ag [Ti j5.1, Ti j5.2.1, Ti j5.2.2.1] :: .bot :: .ag [Ti j5.1, Ti j5.2.1, Ti j5.2.2.1] :: .bot :: []), [(32, .box [Ti j5.1, Ti j5.2.1, Ti j5.2.2.1]), (16, .box [Ti 0, Ti 0, Ti 0]), (80000, .pbox (σ 80000) [.sl (j5.2.2.2.1.map c5), Ti j5.2.2.2.2.1, .v (.int .u64 j5.2.2.2.2.2)])]⟩), (6, ⟨.pt 80000 0 :: .bot :: .pt 16 0 :: .bot :: .pt 32 0 :: bt 27 (.pt 80000 0 :: .ag [Ti j5.1, Ti j5.2.1, Ti j5.2.2.1] :: .bot :: []), [(32, .box [Ti j5.1, Ti j5.2.1, Ti j5.2.2.1]), (16, .box [Ti 0, Ti 0, Ti 0]), (80000, .pbox (σ 80000) [.sl (j5.2.2.2.1.map c5), Ti j5.2.2.2.2.1, .v (.int .u64 j5.2.2.2.2.2)])]⟩), (7, ⟨.pt 80000 0 :: .bot :: .pt 16 0 :: .bot :: .pt 32 0 :: bt 26 (.ag [Ti j5.1, Ti j5.2.1, Ti j5.2.2.1] :: .pt 80000 0 :: .ag [Ti j5.1, Ti j5.2.1, Ti j5.2.2.1] :: .bot :: []), [(32, .box [Ti j5.1, Ti j5.2.1, Ti j5.2.2.1]), (16, .box [Ti 0, Ti 0, Ti 0]), (80000, .pbox (σ 80000) [.sl (j5.2.2.2.1.map c5), Ti j5.2.2.2.2.1, .v (.int .u64 j5.2.2.2.2.2)])]⟩), (14, ⟨.pt 80000 0 :: .bot :: .pt 16 0 :: .bot :: .pt 32 0 :: bt 27 (.pt 80000 0 :: .ag [Ti j5.1, Ti j5.2.1, Ti j5.2.2.1] :: I y16.1 :: []), [(32, .box [Ti j5.1, Ti j5.2.1, Ti j5.2.2.1]), (16, .box [Ti 0, Ti 0, Ti 0]), (80000, .pbox (σ 80000) [.sl (y16.2.1.map c5), Ti y16.2.2.1, .v (.int .u64 y16.2.2.2)])]⟩), (15, ⟨.pt 80000 0 :: .bot :: .pt 16 0 :: .bot :: .pt 32 0 :: bt 26 (.ag [Ti j5.1, Ti j5.2.1, Ti j5.2.2.1] :: .pt 80000 0 :: .ag [Ti j5.1, Ti j5.2.1, Ti j5.2.2.1] :: I y16.1 :: []), [(32, .box [Ti j5.1, Ti j5.2.1, Ti j5.2.2.1]), (16, .box [Ti 0, Ti 0, Ti 0]), (80000, .pbox (σ 80000) [.sl (y16.2.1.map c5), Ti y16.2.2.1, .v (.int .u64 y16.2.2.2)])]⟩), (31, ⟨.pt 80000 0 :: .bot :: .pt 16 0 :: .bot :: .pt 32 0 :: bt 26 (.ag [Ti j5.1, Ti j5.2.1, Ti j5.2.2.1] :: .pt 80000 0 :: .ag [Ti j5.1, Ti j5.2.1, Ti j5.2.2.1] :: I y16.1 :: []), [(32, .box [Ti j5.1, Ti j5.2.1, Ti j5.2.2.1]), (16, .box [Ti j5.1, Ti j5.2.1, Ti j5.2.2.1]), (80000, .pbox (σ 80000) [.sl (y16.2.1.map c5), Ti y16.2.2.1, .v (.int .u64 y16.2.2.2)])]⟩), (63, ⟨.pt 80000 0 :: .bot :: .pt 16 0 :: I y16.1 :: .pt 32 0 :: bt 26 (.ag [Ti j5.1, Ti j5.2.1, Ti j5.2.2.1] :: .pt 80000 0 :: .ag [Ti j5.1, Ti j5.2.1, Ti j5.2.2.1] :: I y16.1 :: []), [(32, .box [Ti j5.1, Ti j5.2.1, Ti j5.2.2.1]), (16, .box [Ti j5.1, Ti j5.2.1, Ti j5.2.2.1]), (80000, .pbox (σ 80000) [.sl (y16.2.1.map c5), Ti y16.2.2.1, .v (.int .u64 y16.2.2.2)])]⟩)] (s1 := ⟨.bot :: .bot :: .pt 16 0 :: I y16.1 :: bt 31 [], [(16, .box [Ti j5.1, Ti j5.2.1, Ti j5.2.2.1]), (80000, .pbox (σ 80000) [.sl (y16.2.1.map c5), Ti y16.2.2.1, .v (.int .u64 y16.2.2.2)])]⟩) (by kernel_rfl) (by kernel_rfl) (by kernel_rfl) ?_ ?_
  ·refine tab_row [2, 1, 0] (by kernel_rfl) (by kernel_rfl) ?_ ?_
   ·refine step_cons (s2 := ⟨.pt 80000 0 :: .bot :: .pt 16 0 :: .bot :: .pt 32 0 :: bt 28 (.ag [Ti j5.1, Ti j5.2.1, Ti j5.2.2.1] :: .bot :: []), [(32, .box [Ti j5.1, Ti j5.2.1, Ti j5.2.2.1]), (16, .box [Ti 0, Ti 0, Ti 0]), (80000, .pbox (σ 80000) [.sl (j5.2.2.2.1.map c5), Ti j5.2.2.2.2.1, .v (.int .u64 j5.2.2.2.2.2)])]⟩) rfl rfl (X_of_Y0 rfl (E_loadn (cs := [Ti j5.1, Ti j5.2.1, Ti j5.2.2.1]) [Ti j5.1, Ti j5.2.1, Ti j5.2.2.1] wd45 rfl (by kernel_rfl) (Nat.le_of_ble_eq_true rfl) (by kernel_rfl))) (by kernel_rfl) rfl (hE_cons (by kernel_rfl) (hE_cons (by kernel_rfl) (hE_cons (by kernel_rfl) hE_nil))) ?_
    refine step_cons (s2 := ⟨.pt 80000 0 :: .bot :: .pt 16 0 :: .bot :: .pt 32 0 :: bt 27 (.pt 80000 0 :: .bot :: .bot :: []), [(32, .box [Ti j5.1, Ti j5.2.1, Ti j5.2.2.1]), (16, .box [Ti 0, Ti 0, Ti 0]), (80000, .pbox (σ 80000) [.sl (j5.2.2.2.1.map c5), Ti j5.2.2.2.2.1, .v (.int .u64 j5.2.2.2.2.2)])]⟩) rfl rfl (X_of_Y0 rfl (E_move (.pt 80000 0) rfl (by kernel_rfl))) (by kernel_rfl) rfl (hE_cons (by kernel_rfl) (hE_cons (by kernel_rfl) (hE_cons (by kernel_rfl) hE_nil))) ?_
    refine step_cons (s2 := ⟨.pt 80000 0 :: .bot :: .pt 16 0 :: .bot :: .pt 32 0 :: bt 26 (.ag [Ti j5.1, Ti j5.2.1, Ti j5.2.2.1] :: bt 3 []), [(32, .box [Ti j5.1, Ti j5.2.1, Ti j5.2.2.1]), (16, .box [Ti 0, Ti 0, Ti 0]), (80000, .pbox (σ 80000) [.sl (j5.2.2.2.1.map c5), Ti j5.2.2.2.2.1, .v (.int .u64 j5.2.2.2.2.2)])]⟩) rfl rfl (X_of_Y0 rfl (E_loadn (cs := [Ti j5.1, Ti j5.2.1, Ti j5.2.2.1]) [Ti j5.1, Ti j5.2.1, Ti j5.2.2.1] wd45 rfl (by kernel_rfl) (Nat.le_of_ble_eq_true rfl) (by kernel_rfl))) (by kernel_rfl) rfl (hE_cons (by kernel_rfl) (hE_cons (by kernel_rfl) (hE_cons (by kernel_rfl) hE_nil))) ?_
    exact step_nil
   refine tab_row [2, 1] (by kernel_rfl) (by kernel_rfl) ?_ ?_
   ·refine step_cons (s2 := ⟨.pt 80000 0 :: .bot :: .pt 16 0 :: .bot :: .pt 32 0 :: bt 26 (.ag [Ti j5.1, Ti j5.2.1, Ti j5.2.2.1] :: .bot :: .ag [Ti j5.1, Ti j5.2.1, Ti j5.2.2.1] :: .bot :: []), [(32, .box [Ti j5.1, Ti j5.2.1, Ti j5.2.2.1]), (16, .box [Ti 0, Ti 0, Ti 0]), (80000, .pbox (σ 80000) [.sl (j5.2.2.2.1.map c5), Ti j5.2.2.2.2.1, .v (.int .u64 j5.2.2.2.2.2)])]⟩) rfl rfl (X_of_Y0 rfl (E_loadn (cs := [Ti j5.1, Ti j5.2.1, Ti j5.2.2.1]) [Ti j5.1, Ti j5.2.1, Ti j5.2.2.1] wd45 rfl (by kernel_rfl) (Nat.le_of_ble_eq_true rfl) (by kernel_rfl))) (by kernel_rfl) rfl (hE_cons (by kernel_rfl) (hE_cons (by kernel_rfl) (hE_cons (by kernel_rfl) hE_nil))) ?_
    refine step_cons (s2 := ⟨.pt 80000 0 :: .bot :: .pt 16 0 :: .bot :: .pt 32 0 :: bt 26 (.ag [Ti j5.1, Ti j5.2.1, Ti j5.2.2.1] :: .pt 80000 0 :: .bot :: .bot :: []), [(32, .box [Ti j5.1, Ti j5.2.1, Ti j5.2.2.1]), (16, .box [Ti 0, Ti 0, Ti 0]), (80000, .pbox (σ 80000) [.sl (j5.2.2.2.1.map c5), Ti j5.2.2.2.2.1, .v (.int .u64 j5.2.2.2.2.2)])]⟩) rfl rfl (X_of_Y0 rfl (E_move (.pt 80000 0) rfl (by kernel_rfl))) (by kernel_rfl) rfl (hE_cons (by kernel_rfl) (hE_cons (by kernel_rfl) (hE_cons (by kernel_rfl) hE_nil))) ?_
    exact step_nil
   refine tab_row [2, 0] (by kernel_rfl) (by kernel_rfl) ?_ ?_
   ·refine step_cons (s2 := ⟨.pt 80000 0 :: .bot :: .pt 16 0 :: .bot :: .pt 32 0 :: bt 27 (.pt 80000 0 :: .ag [Ti j5.1, Ti j5.2.1, Ti j5.2.2.1] :: .bot :: []), [(32, .box [Ti j5.1, Ti j5.2.1, Ti j5.2.2.1]), (16, .box [Ti 0, Ti 0, Ti 0]), (80000, .pbox (σ 80000) [.sl (j5.2.2.2.1.map c5), Ti j5.2.2.2.2.1, .v (.int .u64 j5.2.2.2.2.2)])]⟩) rfl rfl (X_of_Y0 rfl (E_loadn (cs := [Ti j5.1, Ti j5.2.1, Ti j5.2.2.1]) [Ti j5.1, Ti j5.2.1, Ti j5.2.2.1] wd45 rfl (by kernel_rfl) (Nat.le_of_ble_eq_true rfl) (by kernel_rfl))) (by kernel_rfl) rfl (hE_cons (by kernel_rfl) (hE_cons (by kernel_rfl) (hE_cons (by kernel_rfl) hE_nil))) ?_
    refine step_cons (s2 := ⟨.pt 80000 0 :: .bot :: .pt 16 0 :: .bot :: .pt 32 0 :: bt 26 (.ag [Ti j5.1, Ti j5.2.1, Ti j5.2.2.1] :: .pt 80000 0 :: .bot :: .bot :: []), [(32, .box [Ti j5.1, Ti j5.2.1, Ti j5.2.2.1]), (16, .box [Ti 0, Ti 0, Ti 0]), (80000, .pbox (σ 80000) [.sl (j5.2.2.2.1.map c5), Ti j5.2.2.2.2.1, .v (.int .u64 j5.2.2.2.2.2)])]⟩) rfl rfl (X_of_Y0 rfl (E_loadn (cs := [Ti j5.1, Ti j5.2.1, Ti j5.2.2.1]) [Ti j5.1, Ti j5.2.1, Ti j5.2.2.1] wd45 rfl (by kernel_rfl) (Nat.le_of_ble_eq_true rfl) (by kernel_rfl))) (by kernel_rfl) rfl (hE_cons (by kernel_rfl) (hE_cons (by kernel_rfl) (hE_cons (by kernel_rfl) hE_nil))) ?_
    exact step_nil
   refine tab_row [2] (by kernel_rfl) (by kernel_rfl) ?_ ?_
   ·refine step_cons (s2 := ⟨.pt 80000 0 :: .bot :: .pt 16 0 :: .bot :: .pt 32 0 :: bt 26 (.ag [Ti j5.1, Ti j5.2.1, Ti j5.2.2.1] :: .pt 80000 0 :: .ag [Ti j5.1, Ti j5.2.1, Ti j5.2.2.1] :: .bot :: []), [(32, .box [Ti j5.1, Ti j5.2.1, Ti j5.2.2.1]), (16, .box [Ti 0, Ti 0, Ti 0]), (80000, .pbox (σ 80000) [.sl (j5.2.2.2.1.map c5), Ti j5.2.2.2.2.1, .v (.int .u64 j5.2.2.2.2.2)])]⟩) rfl rfl (X_of_Y0 rfl (E_loadn (cs := [Ti j5.1, Ti j5.2.1, Ti j5.2.2.1]) [Ti j5.1, Ti j5.2.1, Ti j5.2.2.1] wd45 rfl (by kernel_rfl) (Nat.le_of_ble_eq_true rfl) (by kernel_rfl))) (by kernel_rfl) rfl (hE_cons (by kernel_rfl) (hE_cons (by kernel_rfl) (hE_cons (by kernel_rfl) hE_nil))) ?_
    exact step_nil
   refine tab_row [1, 0] (by kernel_rfl) (by kernel_rfl) ?_ ?_
   ·refine step_cons (s2 := ⟨.pt 80000 0 :: .bot :: .pt 16 0 :: .bot :: .pt 32 0 :: bt 27 (.pt 80000 0 :: .ag [Ti j5.1, Ti j5.2.1, Ti j5.2.2.1] :: .bot :: []), [(32, .box [Ti j5.1, Ti j5.2.1, Ti j5.2.2.1]), (16, .box [Ti 0, Ti 0, Ti 0]), (80000, .pbox (σ 80000) [.sl (j5.2.2.2.1.map c5), Ti j5.2.2.2.2.1, .v (.int .u64 j5.2.2.2.2.2)])]⟩) rfl rfl (X_of_Y0 rfl (E_move (.pt 80000 0) rfl (by kernel_rfl))) (by kernel_rfl) rfl (hE_cons (by kernel_rfl) (hE_cons (by kernel_rfl) (hE_cons (by kernel_rfl) hE_nil))) ?_
    refine step_cons (s2 := ⟨.pt 80000 0 :: .bot :: .pt 16 0 :: .bot :: .pt 32 0 :: bt 26 (.ag [Ti j5.1, Ti j5.2.1, Ti j5.2.2.1] :: .bot :: .ag [Ti j5.1, Ti j5.2.1, Ti j5.2.2.1] :: .bot :: []), [(32, .box [Ti j5.1, Ti j5.2.1, Ti j5.2.2.1]), (16, .box [Ti 0, Ti 0, Ti 0]), (80000, .pbox (σ 80000) [.sl (j5.2.2.2.1.map c5), Ti j5.2.2.2.2.1, .v (.int .u64 j5.2.2.2.2.2)])]⟩) rfl rfl (X_of_Y0 rfl (E_loadn (cs := [Ti j5.1, Ti j5.2.1, Ti j5.2.2.1]) [Ti j5.1, Ti j5.2.1, Ti j5.2.2.1] wd45 rfl (by kernel_rfl) (Nat.le_of_ble_eq_true rfl) (by kernel_rfl))) (by kernel_rfl) rfl (hE_cons (by kernel_rfl) (hE_cons (by kernel_rfl) (hE_cons (by kernel_rfl) hE_nil))) ?_
    exact step_nil
   refine tab_row [1] (by kernel_rfl) (by kernel_rfl) ?_ ?_
   ·refine step_cons (s2 := ⟨.pt 80000 0 :: .bot :: .pt 16 0 :: .bot :: .pt 32 0 :: bt 26 (.ag [Ti j5.1, Ti j5.2.1, Ti j5.2.2.1] :: .pt 80000 0 :: .ag [Ti j5.1, Ti j5.2.1, Ti j5.2.2.1] :: .bot :: []), [(32, .box [Ti j5.1, Ti j5.2.1, Ti j5.2.2.1]), (16, .box [Ti 0, Ti 0, Ti 0]), (80000, .pbox (σ 80000) [.sl (j5.2.2.2.1.map c5), Ti j5.2.2.2.2.1, .v (.int .u64 j5.2.2.2.2.2)])]⟩) rfl rfl (X_of_Y0 rfl (E_move (.pt 80000 0) rfl (by kernel_rfl))) (by kernel_rfl) rfl (hE_cons (by kernel_rfl) (hE_cons (by kernel_rfl) (hE_cons (by kernel_rfl) hE_nil))) ?_
    exact step_nil
   refine tab_row [3, 0] (by kernel_rfl) (by kernel_rfl) ?_ ?_
   ·refine step_cons (s2 := ⟨.pt 80000 0 :: .bot :: .pt 16 0 :: .bot :: .pt 32 0 :: bt 27 (.pt 80000 0 :: .ag [Ti j5.1, Ti j5.2.1, Ti j5.2.2.1] :: I y16.1 :: []), [(32, .box [Ti j5.1, Ti j5.2.1, Ti j5.2.2.1]), (16, .box [Ti 0, Ti 0, Ti 0]), (80000, .pbox (σ 80000) [.sl (y16.2.1.map c5), Ti y16.2.2.1, .v (.int .u64 y16.2.2.2)])]⟩) rfl rfl (X_callR (E' := [(32, .box [Ti j5.1, Ti j5.2.1, Ti j5.2.2.1]), (16, .box [Ti 0, Ti 0, Ti 0]), (80000, .pbox (σ 80000) [.sl (y16.2.1.map c5), Ti y16.2.2.1, .v (.int .u64 y16.2.2.2)])]) [(80000, 80000)] 34 (s_spec_l1Cur_shown hy16) cf_spec_l1Cur_shown rfl rfl (by kernel_rfl) rfl (mE_cons (by kernel_rfl) mE_nil) rfl (by kernel_rfl) rfl rfl (by kernel_rfl)) (by kernel_rfl) rfl (hE_cons (by kernel_rfl) (hE_cons (by kernel_rfl) (hE_cons (by kernel_rfl) hE_nil))) ?_
    refine step_cons (s2 := ⟨.pt 80000 0 :: .bot :: .pt 16 0 :: .bot :: .pt 32 0 :: bt 26 (.ag [Ti j5.1, Ti j5.2.1, Ti j5.2.2.1] :: .pt 80000 0 :: .ag [Ti j5.1, Ti j5.2.1, Ti j5.2.2.1] :: .bot :: []), [(32, .box [Ti j5.1, Ti j5.2.1, Ti j5.2.2.1]), (16, .box [Ti 0, Ti 0, Ti 0]), (80000, .pbox (σ 80000) [.sl (j5.2.2.2.1.map c5), Ti j5.2.2.2.2.1, .v (.int .u64 j5.2.2.2.2.2)])]⟩) rfl rfl (X_of_Y0 rfl (E_loadn (cs := [Ti j5.1, Ti j5.2.1, Ti j5.2.2.1]) [Ti j5.1, Ti j5.2.1, Ti j5.2.2.1] wd45 rfl (by kernel_rfl) (Nat.le_of_ble_eq_true rfl) (by kernel_rfl))) (by kernel_rfl) rfl (hE_cons (by kernel_rfl) (hE_cons (by kernel_rfl) (hE_cons (by kernel_rfl) hE_nil))) ?_
    exact step_nil
   refine tab_row [3] (by kernel_rfl) (by kernel_rfl) ?_ ?_
   ·refine step_cons (s2 := ⟨.pt 80000 0 :: .bot :: .pt 16 0 :: .bot :: .pt 32 0 :: bt 26 (.ag [Ti j5.1, Ti j5.2.1, Ti j5.2.2.1] :: .pt 80000 0 :: .ag [Ti j5.1, Ti j5.2.1, Ti j5.2.2.1] :: I y16.1 :: []), [(32, .box [Ti j5.1, Ti j5.2.1, Ti j5.2.2.1]), (16, .box [Ti 0, Ti 0, Ti 0]), (80000, .pbox (σ 80000) [.sl (y16.2.1.map c5), Ti y16.2.2.1, .v (.int .u64 y16.2.2.2)])]⟩) rfl rfl (X_callR (E' := [(32, .box [Ti j5.1, Ti j5.2.1, Ti j5.2.2.1]), (16, .box [Ti 0, Ti 0, Ti 0]), (80000, .pbox (σ 80000) [.sl (y16.2.1.map c5), Ti y16.2.2.1, .v (.int .u64 y16.2.2.2)])]) [(80000, 80000)] 34 (s_spec_l1Cur_shown hy16) cf_spec_l1Cur_shown rfl rfl (by kernel_rfl) rfl (mE_cons (by kernel_rfl) mE_nil) rfl (by kernel_rfl) rfl rfl (by kernel_rfl)) (by kernel_rfl) rfl (hE_cons (by kernel_rfl) (hE_cons (by kernel_rfl) (hE_cons (by kernel_rfl) hE_nil))) ?_
    exact step_nil
   refine tab_row [0] (by kernel_rfl) (by kernel_rfl) ?_ ?_
   ·refine step_cons (s2 := ⟨.pt 80000 0 :: .bot :: .pt 16 0 :: .bot :: .pt 32 0 :: bt 26 (.ag [Ti j5.1, Ti j5.2.1, Ti j5.2.2.1] :: .pt 80000 0 :: .ag [Ti j5.1, Ti j5.2.1, Ti j5.2.2.1] :: I y16.1 :: []), [(32, .box [Ti j5.1, Ti j5.2.1, Ti j5.2.2.1]), (16, .box [Ti 0, Ti 0, Ti 0]), (80000, .pbox (σ 80000) [.sl (y16.2.1.map c5), Ti y16.2.2.1, .v (.int .u64 y16.2.2.2)])]⟩) rfl rfl (X_of_Y0 rfl (E_loadn (cs := [Ti j5.1, Ti j5.2.1, Ti j5.2.2.1]) [Ti j5.1, Ti j5.2.1, Ti j5.2.2.1] wd45 rfl (by kernel_rfl) (Nat.le_of_ble_eq_true rfl) (by kernel_rfl))) (by kernel_rfl) rfl (hE_cons (by kernel_rfl) (hE_cons (by kernel_rfl) (hE_cons (by kernel_rfl) hE_nil))) ?_
    exact step_nil
   refine tab_row [4] (by kernel_rfl) (by kernel_rfl) ?_ ?_
   ·refine step_cons (s2 := ⟨.pt 80000 0 :: .bot :: .pt 16 0 :: .bot :: .pt 32 0 :: bt 26 (.ag [Ti j5.1, Ti j5.2.1, Ti j5.2.2.1] :: .pt 80000 0 :: .ag [Ti j5.1, Ti j5.2.1, Ti j5.2.2.1] :: I y16.1 :: []), [(32, .box [Ti j5.1, Ti j5.2.1, Ti j5.2.2.1]), (16, .box [Ti j5.1, Ti j5.2.1, Ti j5.2.2.1]), (80000, .pbox (σ 80000) [.sl (y16.2.1.map c5), Ti y16.2.2.1, .v (.int .u64 y16.2.2.2)])]⟩) rfl rfl (E_store (id := 16) (off := 0) (cs := [Ti 0, Ti 0, Ti 0]) (vc := [Ti j5.1, Ti j5.2.1, Ti j5.2.2.1]) [Ti j5.1, Ti j5.2.1, Ti j5.2.2.1] rfl rfl (by kernel_rfl) (by kernel_rfl) (by kernel_rfl) sz45 (Nat.le_of_ble_eq_true rfl) (by kernel_rfl)) (by kernel_rfl) rfl (hE_cons (by kernel_rfl) (hE_cons (by kernel_rfl) (hE_cons (by kernel_rfl) hE_nil))) ?_
    exact step_nil
   refine tab_row [5] (by kernel_rfl) (by kernel_rfl) ?_ ?_
   ·refine step_cons (s2 := ⟨.pt 80000 0 :: .bot :: .pt 16 0 :: I y16.1 :: .pt 32 0 :: bt 26 (.ag [Ti j5.1, Ti j5.2.1, Ti j5.2.2.1] :: .pt 80000 0 :: .ag [Ti j5.1, Ti j5.2.1, Ti j5.2.2.1] :: I y16.1 :: []), [(32, .box [Ti j5.1, Ti j5.2.1, Ti j5.2.2.1]), (16, .box [Ti j5.1, Ti j5.2.1, Ti j5.2.2.1]), (80000, .pbox (σ 80000) [.sl (y16.2.1.map c5), Ti y16.2.2.1, .v (.int .u64 y16.2.2.2)])]⟩) rfl rfl (X_of_Y0 rfl (E_assign (I y16.1) rfl (by kernel_rfl))) (by kernel_rfl) rfl (hE_cons (by kernel_rfl) (hE_cons (by kernel_rfl) (hE_cons (by kernel_rfl) hE_nil))) ?_
    exact step_nil
   refine tab_last (by kernel_rfl) ?_ tab_nil
   kernel_rfl
  refine V_ret ?_
  obtain rfl := some_inj h
  show PostR _ _ _ _ _ _
  exact ⟨⟨.inr rfl, rfl, rfl, rfl⟩, ⟨rfl, trivial⟩⟩
theorem cf_spec_l1Cur_shownForm : ∀ args w, (callFunc 84 args).run Try.prog w = .ok (.enter 84 args) w := run_callFunc Try.func84 (by kernel_rfl) (by kernel_rfl)
set_option maxRecDepth 100000 in
set_option maxHeartbeats 400000 in
theorem s_spec_l1Cur_shownForm {c1 : ((List Int) × Int × Int)} {r : (((Int × Int × Int)) × (((List Int) × Int × Int)))} (h : r_spec_l1Cur_shownForm c1 = some r) : CallR Try.prog 84 [.pt 80000 0] [(80000, .box [.sl (c1.1.map c5), Ti c1.2.1, .v (.int .u64 c1.2.2)])] (.ag [Ti r.1.1, Ti r.1.2.1, Ti r.1.2.2]) [] [(80000, .box [.sl (r.2.1.map c5), Ti r.2.2.1, .v (.int .u64 r.2.2.2)])] := by
  refine CallR_of_text (rs := [.w 2 3]) (vs := [.cell 2 45]) Try.func84 rfl rfl (.cons ⟨rfl, wd45⟩ FitsL.nil) (by decide) 20 rfl rfl fun σ => ?_
  unfold r_spec_l1Cur_shownForm at h
  show V _ _ ⟨.pt 80000 0 :: bt 19 [], [(80000, .pbox (σ 80000) [.sl (c1.1.map c5), Ti c1.2.1, .v (.int .u64 c1.2.2)])]⟩ _
  refine V_sreg (mb 20 5) [16, 80000] (s1 := ⟨.pt 80000 0 :: .bot :: .pt 16 0 :: bt 17 [], [(16, .box [Ti 0, Ti 0, Ti 0]), (80000, .pbox (σ 80000) [.sl (c1.1.map c5), Ti c1.2.1, .v (.int .u64 c1.2.2)])]⟩) ?_ ?_
  ·refine L1 rfl rfl (Y1_alloc (z := zv45) rfl zf45 rfl) ?_
   refine XL_nil ?_
   kernel_rfl
  refine V_seq ?_
  obtain ⟨y2, hy2, h⟩ := of_bind h
  refine V_sreg (mb 20 69) [16, 80000] (s1 := ⟨.pt 80000 0 :: .bot :: .pt 16 0 :: bt 3 (Bo y2.1 :: bt 13 []), [(16, .box [Ti 0, Ti 0, Ti 0]), (80000, .pbox (σ 80000) [.sl (y2.2.1.map c5), Ti y2.2.2.1, .v (.int .u64 y2.2.2.2)])]⟩) ?_ ?_
  ·refine L0 rfl rfl (E_move (.pt 80000 0) rfl (by kernel_rfl)) ?_
   refine XL_cons rfl (X_callR (E' := [(16, .box [Ti 0, Ti 0, Ti 0]), (80000, .pbox (σ 80000) [.sl (y2.2.1.map c5), Ti y2.2.2.1, .v (.int .u64 y2.2.2.2)])]) [(80000, 80000)] 6 (s_spec_l1Cur_one hy2) cf_spec_l1Cur_one rfl rfl (by kernel_rfl) rfl (mE_cons (by kernel_rfl) mE_nil) rfl (by kernel_rfl) rfl rfl (by kernel_rfl)) ?_
   refine XL_nil ?_
   kernel_rfl
  refine V_cond rfl (fun hc3 => ?_) (fun hc3 => ?_)
  ·have h := of_true h hc3
   obtain ⟨y4, hy4, h⟩ := of_bind h
   obtain ⟨y5, hy5, h⟩ := of_bind h
   obtain ⟨y6, hy6, h⟩ := of_bind h
   refine V_sreg (mb 20 4) [16, 80000] (s1 := ⟨.bot :: .bot :: .pt 16 0 :: bt 17 [], [(16, .box [Ti y6.1.1, Ti y6.1.2.1, Ti y6.1.2.2]), (80000, .pbox (σ 80000) [.sl (y6.2.1.map c5), Ti y6.2.2.1, .v (.int .u64 y6.2.2.2)])]⟩) ?_ ?_
   ·refine L0 rfl rfl (E_move (.pt 80000 0) rfl (by kernel_rfl)) ?_
    refine L0 rfl rfl (E_move (.pt 80000 0) rfl (by kernel_rfl)) ?_
    refine L0 rfl rfl (E_move (.pt 80000 0) rfl (by kernel_rfl)) ?_
    refine L1 rfl rfl (Y1_bslice (z := zv3) (els := [-3, -4, -7, -8, -23, -15, -20, -12, -16, -84].map c3) Try.underlying41 iz3 rfl (by decide) rfl (by kernel_rfl) rfl (by simp [c3]) (by decide) (by decide)) ?_
    refine XL_freeze 80 (T := 3) (sz := 1) (els := ([-3, -4, -7, -8, -23, -15, -20, -12, -16, -84]).map c3) (s1 := ⟨.pt 80000 0 :: .bot :: .pt 16 0 :: bt 3 (Bo y2.1 :: .pt 80000 0 :: .pt 80000 0 :: .pt 80000 0 :: .c (.sl (([-3, -4, -7, -8, -23, -15, -20, -12, -16, -84]).map c3)) :: bt 9 []), [(16, .box [Ti 0, Ti 0, Ti 0]), (80000, .pbox (σ 80000) [.sl (y2.2.1.map c5), Ti y2.2.2.1, .v (.int .u64 y2.2.2.2)])]⟩) (by kernel_rfl) (by kernel_rfl) ?_
    refine XL_cons rfl (X_callR (E' := [(16, .box [Ti 0, Ti 0, Ti 0]), (80000, .pbox (σ 80000) [.sl (y4.2.1.map c5), Ti y4.2.2.1, .v (.int .u64 y4.2.2.2)])]) [(80000, 80000)] 11 (s_spec_l1Cur_among hy4) cf_spec_l1Cur_among rfl rfl (by kernel_rfl) rfl (mE_cons (by kernel_rfl) mE_nil) rfl (by kernel_rfl) rfl rfl (by kernel_rfl)) ?_
    refine XL_cons rfl (X_callR (E' := [(16, .box [Ti 0, Ti 0, Ti 0]), (80000, .pbox (σ 80000) [.sl (y5.2.1.map c5), Ti y5.2.2.1, .v (.int .u64 y5.2.2.2)])]) [(80000, 80000)] 12 (s_spec_l1Cur_reduced hy5) cf_spec_l1Cur_reduced rfl rfl (by kernel_rfl) rfl (mE_cons (by kernel_rfl) mE_nil) rfl (by kernel_rfl) rfl rfl (by kernel_rfl)) ?_
    refine XL_cons rfl (X_callR (E' := [(16, .box [Ti 0, Ti 0, Ti 0]), (80000, .pbox (σ 80000) [.sl (y6.2.1.map c5), Ti y6.2.2.1, .v (.int .u64 y6.2.2.2)])]) [(80000, 80000)] 13 (s_spec_l1Cur_moved hy6) cf_spec_l1Cur_moved rfl rfl (by kernel_rfl) rfl (mE_cons (by kernel_rfl) mE_nil) rfl (by kernel_rfl) rfl rfl (by kernel_rfl)) ?_
    refine XL_cons rfl (E_store (id := 16) (off := 0) (cs := [Ti 0, Ti 0, Ti 0]) (vc := [Ti y6.1.1, Ti y6.1.2.1, Ti y6.1.2.2]) [Ti y6.1.1, Ti y6.1.2.1, Ti y6.1.2.2] rfl rfl (by kernel_rfl) (by kernel_rfl) (by kernel_rfl) sz45 (Nat.le_of_ble_eq_true rfl) (by kernel_rfl)) ?_
    refine XL_nil ?_
    kernel_rfl
   refine V_ret ?_
   obtain rfl := some_inj h
   show PostR _ _ _ _ _ _
   exact ⟨⟨.inr rfl, rfl, rfl, rfl⟩, ⟨rfl, trivial⟩⟩
  ·have h := of_false h hc3
   refine V_skip ?_
   show V _ _ _ _
   obtain ⟨y7, hy7, h⟩ := of_bind h
   refine V_sreg (mb 20 12) [24, 16, 80000] (s1 := ⟨.bot :: .bot :: .pt 16 0 :: .pt 24 0 :: bt 16 [], [(24, .box [Ti y7.1.1, Ti y7.1.2.1, Ti y7.1.2.2]), (16, .box [Ti 0, Ti 0, Ti 0]), (80000, .pbox (σ 80000) [.sl (y7.2.2.1.map c5), Ti y7.2.2.2.1, .v (.int .u64 y7.2.2.2.2)])]⟩) ?_ ?_
   ·refine L0 rfl rfl (E_move (.pt 80000 0) rfl (by kernel_rfl)) ?_
    refine XL_cons rfl (X_callR (E' := [(16, .box [Ti 0, Ti 0, Ti 0]), (80000, .pbox (σ 80000) [.sl (y7.2.2.1.map c5), Ti y7.2.2.2.1, .v (.int .u64 y7.2.2.2.2)])]) [(80000, 80000)] 16 (s_spec_l1Cur_valued hy7) cf_spec_l1Cur_valued rfl rfl (by kernel_rfl) rfl (mE_cons (by kernel_rfl) mE_nil) rfl (by kernel_rfl) rfl rfl (by kernel_rfl)) ?_
    refine L0 rfl rfl (E_move (.tc (.ag [Ti y7.1.1, Ti y7.1.2.1, Ti y7.1.2.2]) (.tc (I y7.2.1) .tn)) rfl (by kernel_rfl)) ?_
    refine L0 rfl rfl (E_ext (n := 0) (.ag [Ti y7.1.1, Ti y7.1.2.1, Ti y7.1.2.2]) (.tc (I y7.2.1) .tn) (.ag [Ti y7.1.1, Ti y7.1.2.1, Ti y7.1.2.2]) rfl (by kernel_rfl) (by kernel_rfl) (by intro hh; cases hh)) ?_
    refine L0 rfl rfl (E_ext (n := 1) (.ag [Ti y7.1.1, Ti y7.1.2.1, Ti y7.1.2.2]) (.tc (I y7.2.1) .tn) (I y7.2.1) rfl (by kernel_rfl) (by kernel_rfl) (by intro hh; cases hh)) ?_
    refine L1 rfl rfl (Y1_alloc (z := zv45) rfl zf45 rfl) ?_
    refine XL_cons rfl (E_store (id := 24) (off := 0) (cs := [Ti 0, Ti 0, Ti 0]) (vc := [Ti y7.1.1, Ti y7.1.2.1, Ti y7.1.2.2]) [Ti y7.1.1, Ti y7.1.2.1, Ti y7.1.2.2] rfl rfl (by kernel_rfl) (by kernel_rfl) (by kernel_rfl) sz45 (Nat.le_of_ble_eq_true rfl) (by kernel_rfl)) ?_
    refine L0 rfl rfl (E_assign (I y7.2.1) rfl (by kernel_rfl)) ?_
    refine XL_nil ?_
    kernel_rfl
   refine V_sreg (mb 20 4) [16, 80000] (s1 := ⟨.bot :: .bot :: .pt 16 0 :: bt 17 [], [(16, .box [Ti y7.1.1, Ti y7.1.2.1, Ti y7.1.2.2]), (80000, .pbox (σ 80000) [.sl (y7.2.2.1.map c5), Ti y7.2.2.2.1, .v (.int .u64 y7.2.2.2.2)])]⟩) ?_ ?_
   ·refine L0 rfl rfl (E_loadn (cs := [Ti y7.1.1, Ti y7.1.2.1, Ti y7.1.2.2]) [Ti y7.1.1, Ti y7.1.2.1, Ti y7.1.2.2] wd45 rfl (by kernel_rfl) (Nat.le_of_ble_eq_true rfl) (by kernel_rfl)) ?_
    refine XL_cons rfl (E_store (id := 16) (off := 0) (cs := [Ti 0, Ti 0, Ti 0]) (vc := [Ti y7.1.1, Ti y7.1.2.1, Ti y7.1.2.2]) [Ti y7.1.1, Ti y7.1.2.1, Ti y7.1.2.2] rfl rfl (by kernel_rfl) (by kernel_rfl) (by kernel_rfl) sz45 (Nat.le_of_ble_eq_true rfl) (by kernel_rfl)) ?_
    refine XL_nil ?_
    kernel_rfl
   refine V_ret ?_
   obtain rfl := some_inj h
   show PostR _ _ _ _ _ _
   exact ⟨⟨.inr rfl, rfl, rfl, rfl⟩, ⟨rfl, trivial⟩⟩
theorem cf_spec_l1Cur_terms : ∀ args w, (callFunc 85 args).run Try.prog w = .ok (.enter 85 args) w := run_callFunc Try.func85 (by kernel_rfl) (by kernel_rfl)
set_option maxRecDepth 100000 in
set_option maxHeartbeats 400000 in
theorem s_spec_l1Cur_terms {c1 : ((List Int) × Int × Int)} {r : (Int × (((List Int) × Int × Int)))} (h : r_spec_l1Cur_terms c1 = some r) : CallR Try.prog 85 [.pt 80000 0] [(80000, .box [.sl (c1.1.map c5), Ti c1.2.1, .v (.int .u64 c1.2.2)])] (I r.1) [] [(80000, .box [.sl (r.2.1.map c5), Ti r.2.2.1, .v (.int .u64 r.2.2.2)])] := by
  refine CallR_of_text (rs := [.t 2]) (vs := [.tmp 2]) Try.func85 rfl rfl (.cons rfl FitsL.nil) (by decide) 8 rfl rfl fun σ => ?_
  unfold r_spec_l1Cur_terms at h
  show V _ _ ⟨.pt 80000 0 :: bt 7 [], [(80000, .pbox (σ 80000) [.sl (c1.1.map c5), Ti c1.2.1, .v (.int .u64 c1.2.2)])]⟩ _
  refine V_sreg (mb 8 1) [80000] (s1 := ⟨.pt 80000 0 :: bt 7 [], [(80000, .pbox (σ 80000) [.sl (c1.1.map c5), Ti c1.2.1, .v (.int .u64 c1.2.2)])]⟩) ?_ ?_
  ·refine L0 rfl rfl (E_assign (I 0) rfl (by kernel_rfl)) ?_
   refine XL_nil ?_
   kernel_rfl
  obtain ⟨y2, hy2, h⟩ := of_bind h
  obtain ⟨y3, hy3, h⟩ := of_bind h
  refine V_sreg (mb 8 4) [80000] (s1 := ⟨.bot :: .bot :: I y3.1 :: bt 5 [], [(80000, .pbox (σ 80000) [.sl (y3.2.1.map c5), Ti y3.2.2.1, .v (.int .u64 y3.2.2.2)])]⟩) ?_ ?_
  ·refine L0 rfl rfl (E_move (.pt 80000 0) rfl (by kernel_rfl)) ?_
   refine L0 rfl rfl (E_move (.pt 80000 0) rfl (by kernel_rfl)) ?_
   refine XL_cons rfl (X_callR (E' := [(80000, .pbox (σ 80000) [.sl (y2.2.1.map c5), Ti y2.2.2.1, .v (.int .u64 y2.2.2.2)])]) [(80000, 80000)] 5 (s_spec_l1Cur_pick hy2) cf_spec_l1Cur_pick rfl rfl (by kernel_rfl) rfl (mE_cons (by kernel_rfl) mE_nil) rfl (by kernel_rfl) rfl rfl (by kernel_rfl)) ?_
   refine L1 rfl rfl (Y1_bslice (z := zv3) (els := [0, 1, 2, 5, 10, 20, 40, 100, 101, -1, y2.1].map c3) Try.underlying41 iz3 rfl (by decide) rfl (by kernel_rfl) rfl (by simp [c3]) (by decide) (by decide)) ?_
   refine XL_freeze 48 (T := 3) (sz := 1) (els := ([0, 1, 2, 5, 10, 20, 40, 100, 101, -1, y2.1]).map c3) (s1 := ⟨.pt 80000 0 :: .bot :: .bot :: .pt 80000 0 :: .pt 80000 0 :: I y2.1 :: .c (.sl (([0, 1, 2, 5, 10, 20, 40, 100, 101, -1, y2.1]).map c3)) :: .bot :: [], [(80000, .pbox (σ 80000) [.sl (y2.2.1.map c5), Ti y2.2.2.1, .v (.int .u64 y2.2.2.2)])]⟩) (by kernel_rfl) (by kernel_rfl) ?_
   refine XL_cons rfl (X_callR (E' := [(80000, .pbox (σ 80000) [.sl (y3.2.1.map c5), Ti y3.2.2.1, .v (.int .u64 y3.2.2.2)])]) [(80000, 80000)] 7 (s_spec_l1Cur_among hy3) cf_spec_l1Cur_among rfl rfl (by kernel_rfl) rfl (mE_cons (by kernel_rfl) mE_nil) rfl (by kernel_rfl) rfl rfl (by kernel_rfl)) ?_
   refine L0 rfl rfl (E_assign (I y3.1) rfl (by kernel_rfl)) ?_
   refine XL_nil ?_
   kernel_rfl
  refine V_ret ?_
  obtain rfl := some_inj h
  show PostR _ _ _ _ _ _
  exact ⟨⟨.inr rfl, rfl, rfl, rfl⟩, ⟨rfl, trivial⟩⟩
theorem cf_spec_DrawPairSeries : ∀ args w, (callFunc 29 args).run Try.prog w = .ok (.enter 29 args) w := run_callFunc Try.func29 (by kernel_rfl) (by kernel_rfl)
set_option maxRecDepth 100000 in
set_option maxHeartbeats 400000 in
theorem s_spec_DrawPairSeries {code1 : List Int} {r : (((Int × Int × Int)) × ((Int × Int × Int)) × Int)} (h : r_spec_DrawPairSeries code1 = some r) : CallS Try.prog 29 [.c (.sl (code1.map c5))] (.tc (.ag [Ti r.1.1, Ti r.1.2.1, Ti r.1.2.2]) (.tc (.ag [Ti r.2.1.1, Ti r.2.1.2.1, Ti r.2.1.2.2]) (.tc (I r.2.2) .tn))) [] := by
  refine CallS_of_text (rs := [.w 2 3, .w 3 3, .t 4]) (vs := [.cell 2 45, .cell 3 45, .tmp 4]) Try.func29 rfl rfl (.cons ⟨rfl, wd45⟩ (.cons ⟨rfl, wd45⟩ (.cons rfl FitsL.nil))) (by decide) 15 rfl ?_
  unfold r_spec_DrawPairSeries at h
  show V _ _ ⟨.c (.sl (code1.map c5)) :: bt 14 [], []⟩ _
  refine V_sreg (mb 15 13) [24, 16] (s1 := ⟨.c (.sl (code1.map c5)) :: .bot :: .pt 16 0 :: .pt 24 0 :: bt 11 [], [(24, .box [Ti 0, Ti 0, Ti 0]), (16, .box [Ti 0, Ti 0, Ti 0])]⟩) ?_ ?_
  ·refine L1 rfl rfl (Y1_alloc (z := zv45) rfl zf45 rfl) ?_
   refine L1 rfl rfl (Y1_alloc (z := zv45) rfl zf45 rfl) ?_
   refine L0 rfl rfl (E_assign (I 0) rfl (by kernel_rfl)) ?_
   refine XL_nil ?_
   kernel_rfl
  refine V_sreg (mb 15 44) [64, 24, 16] (s1 := ⟨.bot :: .bot :: .pt 16 0 :: .pt 24 0 :: .bot :: .pt 64 0 :: bt 9 [], [(64, .box [.sl (code1.map c5), Ti 0, .v (.int .u64 0)]), (24, .box [Ti 0, Ti 0, Ti 0]), (16, .box [Ti 0, Ti 0, Ti 0])]⟩) ?_ ?_
  ·refine L0 rfl rfl (E_move (.c (.sl (code1.map c5))) rfl (by kernel_rfl)) ?_
   refine L0 rfl rfl (Y0_build (cs := [.sl (code1.map c5), Ti 0, .v (.int .u64 0)]) pl98 bt98 rfl rfl (by kernel_rfl)) ?_
   refine L1 rfl rfl (Y1_box (cs := [.sl (code1.map c5), Ti 0, .v (.int .u64 0)]) rfl (by kernel_rfl)) ?_
   refine L0 rfl rfl (E_assign (.pt 64 0) rfl (by kernel_rfl)) ?_
   refine XL_nil ?_
   kernel_rfl
  obtain ⟨y2, hy2, h⟩ := of_bind h
  obtain ⟨y3, hy3, h⟩ := of_bind h
  obtain ⟨y4, hy4, h⟩ := of_bind h
  refine V_sreg (mb 15 28) [24, 16] (s1 := ⟨.bot :: .bot :: .pt 16 0 :: .pt 24 0 :: I y4.1 :: bt 10 [], [(24, .box [Ti y3.1.1, Ti y3.1.2.1, Ti y3.1.2.2]), (16, .box [Ti y2.1.1, Ti y2.1.2.1, Ti y2.1.2.2])]⟩) ?_ ?_
  ·refine L0 rfl rfl (E_move (.pt 64 0) rfl (by kernel_rfl)) ?_
   refine XL_cons rfl (X_callR (E' := [(64, .box [.sl (y2.2.1.map c5), Ti y2.2.2.1, .v (.int .u64 y2.2.2.2)]), (24, .box [Ti 0, Ti 0, Ti 0]), (16, .box [Ti 0, Ti 0, Ti 0])]) [(80000, 64)] 10 (s_spec_l1Cur_shownForm hy2) cf_spec_l1Cur_shownForm rfl rfl (by kernel_rfl) rfl (mE_cons (by kernel_rfl) mE_nil) rfl (by kernel_rfl) rfl rfl (by kernel_rfl)) ?_
   refine L0 rfl rfl (E_move (.pt 64 0) rfl (by kernel_rfl)) ?_
   refine XL_cons rfl (X_callR (E' := [(64, .box [.sl (y3.2.1.map c5), Ti y3.2.2.1, .v (.int .u64 y3.2.2.2)]), (24, .box [Ti 0, Ti 0, Ti 0]), (16, .box [Ti 0, Ti 0, Ti 0])]) [(80000, 64)] 12 (s_spec_l1Cur_shownForm hy3) cf_spec_l1Cur_shownForm rfl rfl (by kernel_rfl) rfl (mE_cons (by kernel_rfl) mE_nil) rfl (by kernel_rfl) rfl rfl (by kernel_rfl)) ?_
   refine L0 rfl rfl (E_move (.pt 64 0) rfl (by kernel_rfl)) ?_
   refine XL_cons rfl (X_callR (E' := [(64, .box [.sl (y4.2.1.map c5), Ti y4.2.2.1, .v (.int .u64 y4.2.2.2)]), (24, .box [Ti 0, Ti 0, Ti 0]), (16, .box [Ti 0, Ti 0, Ti 0])]) [(80000, 64)] 14 (s_spec_l1Cur_terms hy4) cf_spec_l1Cur_terms rfl rfl (by kernel_rfl) rfl (mE_cons (by kernel_rfl) mE_nil) rfl (by kernel_rfl) rfl rfl (by kernel_rfl)) ?_
   refine XL_cons rfl (E_store (id := 16) (off := 0) (cs := [Ti 0, Ti 0, Ti 0]) (vc := [Ti y2.1.1, Ti y2.1.2.1, Ti y2.1.2.2]) [Ti y2.1.1, Ti y2.1.2.1, Ti y2.1.2.2] rfl rfl (by kernel_rfl) (by kernel_rfl) (by kernel_rfl) sz45 (Nat.le_of_ble_eq_true rfl) (by kernel_rfl)) ?_
   refine XL_cons rfl (E_store (id := 24) (off := 0) (cs := [Ti 0, Ti 0, Ti 0]) (vc := [Ti y3.1.1, Ti y3.1.2.1, Ti y3.1.2.2]) [Ti y3.1.1, Ti y3.1.2.1, Ti y3.1.2.2] rfl rfl (by kernel_rfl) (by kernel_rfl) (by kernel_rfl) sz45 (Nat.le_of_ble_eq_true rfl) (by kernel_rfl)) ?_
   refine L0 rfl rfl (E_assign (I y4.1) rfl (by kernel_rfl)) ?_
   refine XL_nil ?_
   kernel_rfl
  refine V_ret ?_
  obtain rfl := some_inj h
  show Post _ _ _ _ _
  exact ⟨.inr rfl, rfl, rfl, rfl⟩
theorem cf_impl_areNumbers : ∀ args w, (callFunc 79 args).run Try.prog w = .ok (.enter 79 args) w := run_callFunc Try.func79 (by kernel_rfl) (by kernel_rfl)
set_option maxRecDepth 100000 in
set_option maxHeartbeats 400000 in
theorem s_impl_areNumbers {list1 : List Int} {r : Bool} (h : r_impl_areNumbers list1 = some r) : CallS Try.prog 79 [.c (.sl (list1.map c3))] (Bo r) [] := by
  refine CallS_of_text (rs := [.t 2]) (vs := [.tmp 2]) Try.func79 rfl rfl (.cons rfl FitsL.nil) (by decide) 18 rfl ?_
  unfold r_impl_areNumbers at h
  show V _ _ ⟨.c (.sl (list1.map c3)) :: bt 17 [], []⟩ _
  refine V_sreg (mb 18 1) [] (s1 := ⟨.c (.sl (list1.map c3)) :: bt 17 [], []⟩) ?_ ?_
  ·refine L0 rfl rfl (E_assign (Bo false) rfl (by kernel_rfl)) ?_
   refine XL_nil ?_
   kernel_rfl
  refine V_seq ?_
  refine V_sreg (mb 18 224) [] (s1 := ⟨bt 5 (.c (.sl (list1.map c3)) :: I ((list1.length : Int)) :: I 0 :: bt 10 []), []⟩) ?_ ?_
  ·refine L0 rfl rfl (E_move (.c (.sl (list1.map c3))) rfl (by kernel_rfl)) ?_
   refine L0 rfl rfl (Y0_lenM (c := c3) (xs := list1) Try.underlying41 rfl (by kernel_rfl)) ?_
   refine L0 rfl rfl (E_move (I 0) rfl (by kernel_rfl)) ?_
   refine XL_nil ?_
   kernel_rfl
  obtain ⟨qo4, hLo4, hko4⟩ := of_bind h
  refine V_toS (q := qo4) (S := fun o4 => ⟨bt 18 [], []⟩) (mb 18 0) [] ?_ ?_
  ·refine V_block (V_loop (fun n s => ∃ (t2 : Int), s.keep (mb 18 224) [] = (⟨bt 5 (.c (.sl (list1.map c3)) :: I ((list1.length : Int)) :: I t2 :: bt 10 []), []⟩ : St) ∧ r_impl_areNumbers_L3 list1 n t2 = some qo4) FU ⟨_,  by rfl, hLo4⟩ ?_)
   clear hLo4
   rintro n s ⟨t2, hs, h⟩
   refine V_keep _ _ hs ?_
   clear hs
   cases n with
   | zero => cases h
   | succ n =>
    rw [r_impl_areNumbers_L3] at h
    refine V_sreg (mb 18 480) [] (s1 := ⟨bt 5 (.c (.sl (list1.map c3)) :: I ((list1.length : Int)) :: I t2 :: Bo (ltI t2 ((list1.length : Int))) :: bt 9 []), []⟩) ?_ ?_
    ·refine L0 rfl rfl (Y0_ltw (k := .i64) (a := t2) (b := (list1.length : Int)) rfl (by kernel_rfl) (by kernel_rfl)) ?_
     refine XL_nil ?_
     kernel_rfl
    refine V_seq ?_
    refine V_cond rfl (fun hc5 => ?_) (fun hc5 => ?_)
    ·have h := of_true h hc5
     refine V_skip ?_
     show V _ _ _ _
     refine V_seq ?_
     refine V_block ?_
     obtain ⟨e6, he6, h⟩ := of_bind h
     refine V_sreg (mb 18 240) [] (s1 := ⟨bt 4 (I e6 :: .c (.sl (list1.map c3)) :: I ((list1.length : Int)) :: I t2 :: bt 10 []), []⟩) ?_ ?_
     ·refine L0 rfl rfl (Y0_idxM (c := c3) (xs := list1) (v := e6) (n := t2) Try.underlying41 sz3 rfl (by kernel_rfl) (by kernel_rfl) he6) ?_
      refine L0 rfl rfl (Y0_load1 (c := Ti e6) (cs := []) sc3 rfl (by kernel_rfl)) ?_
      refine L0 rfl rfl (E_assign (I e6) rfl (by kernel_rfl)) ?_
      refine XL_nil ?_
      kernel_rfl
     refine V_sreg (mb 18 65760) [] (s1 := ⟨bt 5 (.c (.sl (list1.map c3)) :: I ((list1.length : Int)) :: I t2 :: bt 8 (Bo (bif (ltI e6 (-1000000)) then true else (ltI 1000000 e6)) :: .bot :: [])), []⟩) ?_ ?_
     ·refine L0 rfl rfl (E_move (I e6) rfl (by kernel_rfl)) ?_
      refine L0 rfl rfl (Y0_ltw (k := .i64) (a := e6) (b := -1000000) rfl (by kernel_rfl) (by kernel_rfl)) ?_
      refine L0 rfl rfl (E_move (Bo (ltI e6 (-1000000))) rfl (by kernel_rfl)) ?_
      refine XL_split (ltI e6 (-1000000)) (fun hc7 => ?_) (fun hc7 => ?_)
      ·refine XL_skipF _ rfl rfl (by kernel_rfl) hc7 rfl ?_
       refine XL_skipF _ rfl rfl (by kernel_rfl) hc7 rfl ?_
       refine XL_cons rfl (X_of_Y0 rfl (Y0_pick1 (b := ltI e6 (-1000000)) (p := true) (q := ltI 1000000 e6) rfl (by kernel_rfl) hc7 (by kernel_rfl))) ?_
       refine XL_nil ?_
       kernel_rfl
      ·refine XL_takeC _ rfl rfl (by kernel_rfl) hc7 (X_of_Y0 rfl (E_move (I e6) rfl (by kernel_rfl))) ?_
       refine XL_takeC _ rfl rfl (by kernel_rfl) hc7 (X_of_Y0 rfl (Y0_gtw (k := .i64) (a := e6) (b := 1000000) rfl (by kernel_rfl) (by kernel_rfl))) ?_
       refine XL_cons rfl (X_of_Y0 rfl (Y0_pick0 (b := ltI e6 (-1000000)) (p := true) (q := ltI 1000000 e6) rfl (by kernel_rfl) hc7 (by kernel_rfl))) ?_
       refine XL_nil ?_
       kernel_rfl
     refine V_cond rfl (fun hc8 => ?_) (fun hc8 => ?_)
     ·have h := of_true h hc8
      refine V_sreg (mb 18 4) [] (s1 := ⟨.bot :: .bot :: Bo false :: bt 15 [], []⟩) ?_ ?_
      ·refine L0 rfl rfl (E_assign (Bo false) rfl (by kernel_rfl)) ?_
       refine XL_nil ?_
       kernel_rfl
      refine V_ret ?_
      obtain rfl := some_inj h
      have h := hko4
      obtain rfl := some_inj h
      show Post _ _ _ _ _
      exact ⟨.inr rfl, rfl, rfl, rfl⟩
     ·have h := of_false h hc8
      refine V_skip ?_
      show V _ _ _ _
      obtain ⟨t9, ht9, h⟩ := of_sI h
      refine V_reg (mb 18 224) [] (s1 := ⟨bt 5 (.c (.sl (list1.map c3)) :: I ((list1.length : Int)) :: I t9 :: bt 10 []), []⟩) ?_ ?_
      ·refine L0 rfl rfl (Y0_add64 (a := t2) (b := 1) rfl (by kernel_rfl) (by kernel_rfl)) ?_
       refine L0 rfl rfl (E_move (I (w64 (t2 + 1))) rfl (by kernel_rfl)) ?_
       refine XL_nil ?_
       subst ht9
       kernel_rfl
      exact ⟨n, Nat.lt_succ_self n, _,  by rfl, h⟩
    ·have h := of_false h hc5
     refine V_exit ?_
     obtain rfl := some_inj h
     exact ⟨_, rfl, by rfl⟩
  rintro o4 rfl
  have h := hko4
  clear hko4
  show V _ _ _ _
  refine V_sreg (mb 18 4) [] (s1 := ⟨.bot :: .bot :: Bo true :: bt 15 [], []⟩) ?_ ?_
  ·refine L0 rfl rfl (E_assign (Bo true) rfl (by kernel_rfl)) ?_
   refine XL_nil ?_
   kernel_rfl
  refine V_ret ?_
  obtain rfl := some_inj h
  show Post _ _ _ _ _
  exact ⟨.inr rfl, rfl, rfl, rfl⟩
theorem cf_impl_IsForm : ∀ args w, (callFunc 77 args).run Try.prog w = .ok (.enter 77 args) w := run_callFunc Try.func77 (by kernel_rfl) (by kernel_rfl)
set_option maxRecDepth 100000 in
set_option maxHeartbeats 400000 in
theorem s_impl_IsForm {f1 : (Int × Int × Int)} {r : Bool} (h : r_impl_IsForm f1 = some r) : CallS Try.prog 77 [.ag [Ti f1.1, Ti f1.2.1, Ti f1.2.2]] (Bo r) [] := by
  refine CallS_of_text (rs := [.t 2]) (vs := [.tmp 2]) Try.func77 rfl rfl (.cons rfl FitsL.nil) (by decide) 11 rfl ?_
  unfold r_impl_IsForm at h
  show V _ _ ⟨.ag [Ti f1.1, Ti f1.2.1, Ti f1.2.2] :: bt 10 [], []⟩ _
  refine V_sreg (mb 11 2) [8] (s1 := ⟨.bot :: .pt 8 0 :: bt 9 [], [(8, .box [Ti f1.1, Ti f1.2.1, Ti f1.2.2])]⟩) ?_ ?_
  ·refine L1 rfl rfl (Y1_box (cs := [Ti f1.1, Ti f1.2.1, Ti f1.2.2]) rfl (by kernel_rfl)) ?_
   refine L0 rfl rfl (E_assign (Bo false) rfl (by kernel_rfl)) ?_
   refine XL_nil ?_
   kernel_rfl
  obtain ⟨y2, hy2, h⟩ := of_bind h
  refine V_sreg (mb 11 4) [] (s1 := ⟨.bot :: .bot :: Bo y2 :: bt 8 [], []⟩) ?_ ?_
  ·refine L0 rfl rfl (E_field (.pt 8 0) Try.underlying45 rfl sz3 rfl (by kernel_rfl) (by intro hh; cases hh)) ?_
   refine L0 rfl rfl (Y0_load1 (c := Ti f1.1) (cs := [Ti f1.2.1, Ti f1.2.2]) sc3 rfl (by kernel_rfl)) ?_
   refine L0 rfl rfl (E_field (.pt 8 1) Try.underlying45 rfl sz3 rfl (by kernel_rfl) (by intro hh; cases hh)) ?_
   refine L0 rfl rfl (Y0_load1 (c := Ti f1.2.1) (cs := [Ti f1.2.2]) sc3 rfl (by kernel_rfl)) ?_
   refine L0 rfl rfl (E_field (.pt 8 2) Try.underlying45 rfl sz3 rfl (by kernel_rfl) (by intro hh; cases hh)) ?_
   refine L0 rfl rfl (Y0_load1 (c := Ti f1.2.2) (cs := []) sc3 rfl (by kernel_rfl)) ?_
   refine L1 rfl rfl (Y1_bslice (z := zv3) (els := [f1.1, f1.2.1, f1.2.2].map c3) Try.underlying41 iz3 rfl (by decide) rfl (by kernel_rfl) rfl (by simp [c3]) (by decide) (by decide)) ?_
   refine L1 rfl rfl (Y1_callS (s_impl_areNumbers hy2) cf_impl_areNumbers rfl (by kernel_rfl) rfl rfl) ?_
   refine L0 rfl rfl (E_assign (Bo y2) rfl (by kernel_rfl)) ?_
   refine XL_nil ?_
   kernel_rfl
  refine V_ret ?_
  obtain rfl := some_inj h
  show Post _ _ _ _ _
  exact ⟨.inr rfl, rfl, rfl, rfl⟩
theorem cf_impl_Form_disc : ∀ args w, (callFunc 78 args).run Try.prog w = .ok (.enter 78 args) w := run_callFunc Try.func78 (by kernel_rfl) (by kernel_rfl)
set_option maxRecDepth 100000 in
set_option maxHeartbeats 400000 in
theorem s_impl_Form_disc {f1 : (Int × Int × Int)} {r : Int} (h : r_impl_Form_disc f1 = some r) : CallS Try.prog 78 [.ag [Ti f1.1, Ti f1.2.1, Ti f1.2.2]] (I r) [] := by
  refine CallS_of_text (rs := [.t 2]) (vs := [.tmp 2]) Try.func78 rfl rfl (.cons rfl FitsL.nil) (by decide) 15 rfl ?_
  unfold r_impl_Form_disc at h
  show V _ _ ⟨.ag [Ti f1.1, Ti f1.2.1, Ti f1.2.2] :: bt 14 [], []⟩ _
  refine V_sreg (mb 15 2) [8] (s1 := ⟨.bot :: .pt 8 0 :: bt 13 [], [(8, .box [Ti f1.1, Ti f1.2.1, Ti f1.2.2])]⟩) ?_ ?_
  ·refine L1 rfl rfl (Y1_box (cs := [Ti f1.1, Ti f1.2.1, Ti f1.2.2]) rfl (by kernel_rfl)) ?_
   refine L0 rfl rfl (E_assign (I 0) rfl (by kernel_rfl)) ?_
   refine XL_nil ?_
   kernel_rfl
  obtain ⟨t2, ht2, h⟩ := of_sI h
  refine V_sreg (mb 15 4) [] (s1 := ⟨.bot :: .bot :: I t2 :: bt 12 [], []⟩) ?_ ?_
  ·refine L0 rfl rfl (E_field (.pt 8 1) Try.underlying45 rfl sz3 rfl (by kernel_rfl) (by intro hh; cases hh)) ?_
   refine L0 rfl rfl (Y0_load1 (c := Ti f1.2.1) (cs := [Ti f1.2.2]) sc3 rfl (by kernel_rfl)) ?_
   refine L0 rfl rfl (E_field (.pt 8 1) Try.underlying45 rfl sz3 rfl (by kernel_rfl) (by intro hh; cases hh)) ?_
   refine L0 rfl rfl (Y0_load1 (c := Ti f1.2.1) (cs := [Ti f1.2.2]) sc3 rfl (by kernel_rfl)) ?_
   refine L0 rfl rfl (Y0_mul64 (a := f1.2.1) (b := f1.2.1) rfl (by kernel_rfl) (by kernel_rfl)) ?_
   refine L0 rfl rfl (E_field (.pt 8 0) Try.underlying45 rfl sz3 rfl (by kernel_rfl) (by intro hh; cases hh)) ?_
   refine L0 rfl rfl (Y0_load1 (c := Ti f1.1) (cs := [Ti f1.2.1, Ti f1.2.2]) sc3 rfl (by kernel_rfl)) ?_
   refine L0 rfl rfl (Y0_mul64 (a := 4) (b := f1.1) rfl (by kernel_rfl) (by kernel_rfl)) ?_
   refine L0 rfl rfl (E_field (.pt 8 2) Try.underlying45 rfl sz3 rfl (by kernel_rfl) (by intro hh; cases hh)) ?_
   refine L0 rfl rfl (Y0_load1 (c := Ti f1.2.2) (cs := []) sc3 rfl (by kernel_rfl)) ?_
   refine L0 rfl rfl (Y0_mul64 (a := w64 (4 * f1.1)) (b := f1.2.2) rfl (by kernel_rfl) (by kernel_rfl)) ?_
   refine L0 rfl rfl (Y0_sub64 (a := w64 (f1.2.1 * f1.2.1)) (b := w64 ((w64 (4 * f1.1)) * f1.2.2)) rfl (by kernel_rfl) (by kernel_rfl)) ?_
   refine L0 rfl rfl (E_assign (I (w64 ((w64 (f1.2.1 * f1.2.1)) - (w64 ((w64 (4 * f1.1)) * f1.2.2))))) rfl (by kernel_rfl)) ?_
   refine XL_nil ?_
   subst ht2
   kernel_rfl
  refine V_ret ?_
  obtain rfl := some_inj h
  show Post _ _ _ _ _
  exact ⟨.inr rfl, rfl, rfl, rfl⟩
theorem cf_impl_isDefinite : ∀ args w, (callFunc 149 args).run Try.prog w = .ok (.enter 149 args) w := run_callFunc Try.func149 (by kernel_rfl) (by kernel_rfl)
set_option maxRecDepth 100000 in
set_option maxHeartbeats 400000 in
theorem s_impl_isDefinite {f1 : (Int × Int × Int)} {r : Bool} (h : r_impl_isDefinite f1 = some r) : CallS Try.prog 149 [.ag [Ti f1.1, Ti f1.2.1, Ti f1.2.2]] (Bo r) [] := by
  refine CallS_of_text (rs := [.t 2]) (vs := [.tmp 2]) Try.func149 rfl rfl (.cons rfl FitsL.nil) (by decide) 15 rfl ?_
  unfold r_impl_isDefinite at h
  show V _ _ ⟨.ag [Ti f1.1, Ti f1.2.1, Ti f1.2.2] :: bt 14 [], []⟩ _
  refine V_sreg (mb 15 2) [8] (s1 := ⟨.bot :: .pt 8 0 :: bt 13 [], [(8, .box [Ti f1.1, Ti f1.2.1, Ti f1.2.2])]⟩) ?_ ?_
  ·refine L1 rfl rfl (Y1_box (cs := [Ti f1.1, Ti f1.2.1, Ti f1.2.2]) rfl (by kernel_rfl)) ?_
   refine L0 rfl rfl (E_assign (Bo false) rfl (by kernel_rfl)) ?_
   refine XL_nil ?_
   kernel_rfl
  obtain ⟨y2, hy2, h⟩ := of_bind h
  obtain ⟨b5, hb5, h⟩ := of_bind h
  refine V_sreg (mb 15 4) [] (s1 := ⟨.bot :: .bot :: Bo (bif b5 then (ltI 0 f1.1) else false) :: bt 12 [], []⟩) ?_ ?_
  ·refine L0 rfl rfl (E_loadn (cs := [Ti f1.1, Ti f1.2.1, Ti f1.2.2]) [Ti f1.1, Ti f1.2.1, Ti f1.2.2] wd45 rfl (by kernel_rfl) (Nat.le_of_ble_eq_true rfl) (by kernel_rfl)) ?_
   refine L1 rfl rfl (Y1_call (s_impl_IsForm hy2) cf_impl_IsForm rfl (by kernel_rfl)) ?_
   refine L0 rfl rfl (E_move (Bo y2) rfl (by kernel_rfl)) ?_
   refine XL_split y2 (fun hc3 => ?_) (fun hc3 => ?_)
   ·have hb5 := of_true hb5 hc3
    obtain ⟨y4, hy4, hb5⟩ := of_bind hb5
    have hb5 := some_inj hb5
    refine XL_takeC _ rfl rfl (by kernel_rfl) hc3 (X_of_Y0 rfl (E_loadn (cs := [Ti f1.1, Ti f1.2.1, Ti f1.2.2]) [Ti f1.1, Ti f1.2.1, Ti f1.2.2] wd45 rfl (by kernel_rfl) (Nat.le_of_ble_eq_true rfl) (by kernel_rfl))) ?_
    refine XL_takeC _ rfl rfl (by kernel_rfl) hc3 (X_of_Y1 rfl (Y1_call (s_impl_Form_disc hy4) cf_impl_Form_disc rfl (by kernel_rfl))) ?_
    refine XL_takeC _ rfl rfl (by kernel_rfl) hc3 (X_of_Y0 rfl (Y0_ltw (k := .i64) (a := y4) (b := 0) rfl (by kernel_rfl) (by kernel_rfl))) ?_
    refine XL_cons rfl (X_of_Y0 rfl (Y0_pickTe (b := y2) (p := ltI y4 0) rfl (by kernel_rfl) hc3 (by kernel_rfl) hb5)) ?_
    refine L0 rfl rfl (E_move (Bo b5) rfl (by kernel_rfl)) ?_
    refine XL_split b5 (fun hc6 => ?_) (fun hc6 => ?_)
    ·refine XL_takeC _ rfl rfl (by kernel_rfl) hc6 (X_of_Y0 rfl (E_field (.pt 8 0) Try.underlying45 rfl sz3 rfl (by kernel_rfl) (by intro hh; cases hh))) ?_
     refine XL_takeC _ rfl rfl (by kernel_rfl) hc6 (X_of_Y0 rfl (Y0_load1 (c := Ti f1.1) (cs := [Ti f1.2.1, Ti f1.2.2]) sc3 rfl (by kernel_rfl))) ?_
     refine XL_takeC _ rfl rfl (by kernel_rfl) hc6 (X_of_Y0 rfl (Y0_gtw (k := .i64) (a := f1.1) (b := 0) rfl (by kernel_rfl) (by kernel_rfl))) ?_
     refine XL_cons rfl (X_of_Y0 rfl (Y0_pick1 (b := b5) (p := ltI 0 f1.1) (q := false) rfl (by kernel_rfl) hc6 (by kernel_rfl))) ?_
     refine L0 rfl rfl (E_assign (Bo (bif b5 then (ltI 0 f1.1) else false)) rfl (by kernel_rfl)) ?_
     refine XL_nil ?_
     kernel_rfl
    ·refine XL_skipT _ rfl rfl (by kernel_rfl) hc6 rfl ?_
     refine XL_skipT _ rfl rfl (by kernel_rfl) hc6 rfl ?_
     refine XL_skipT _ rfl rfl (by kernel_rfl) hc6 rfl ?_
     refine XL_cons rfl (X_of_Y0 rfl (Y0_pick0 (b := b5) (p := ltI 0 f1.1) (q := false) rfl (by kernel_rfl) hc6 (by kernel_rfl))) ?_
     refine L0 rfl rfl (E_assign (Bo (bif b5 then (ltI 0 f1.1) else false)) rfl (by kernel_rfl)) ?_
     refine XL_nil ?_
     kernel_rfl
   ·have hb5 := some_inj (of_false hb5 hc3)
    refine XL_skipT _ rfl rfl (by kernel_rfl) hc3 rfl ?_
    refine XL_skipT _ rfl rfl (by kernel_rfl) hc3 rfl ?_
    refine XL_skipT _ rfl rfl (by kernel_rfl) hc3 rfl ?_
    refine XL_cons rfl (X_of_Y0 rfl (Y0_pickFe (b := y2) (p := false) rfl (by kernel_rfl) hc3 (by kernel_rfl) hb5)) ?_
    refine L0 rfl rfl (E_move (Bo b5) rfl (by kernel_rfl)) ?_
    refine XL_split b5 (fun hc6 => ?_) (fun hc6 => ?_)
    ·refine XL_takeC _ rfl rfl (by kernel_rfl) hc6 (X_of_Y0 rfl (E_field (.pt 8 0) Try.underlying45 rfl sz3 rfl (by kernel_rfl) (by intro hh; cases hh))) ?_
     refine XL_takeC _ rfl rfl (by kernel_rfl) hc6 (X_of_Y0 rfl (Y0_load1 (c := Ti f1.1) (cs := [Ti f1.2.1, Ti f1.2.2]) sc3 rfl (by kernel_rfl))) ?_
     refine XL_takeC _ rfl rfl (by kernel_rfl) hc6 (X_of_Y0 rfl (Y0_gtw (k := .i64) (a := f1.1) (b := 0) rfl (by kernel_rfl) (by kernel_rfl))) ?_
     refine XL_cons rfl (X_of_Y0 rfl (Y0_pick1 (b := b5) (p := ltI 0 f1.1) (q := false) rfl (by kernel_rfl) hc6 (by kernel_rfl))) ?_
     refine L0 rfl rfl (E_assign (Bo (bif b5 then (ltI 0 f1.1) else false)) rfl (by kernel_rfl)) ?_
     refine XL_nil ?_
     kernel_rfl
    ·refine XL_skipT _ rfl rfl (by kernel_rfl) hc6 rfl ?_
     refine XL_skipT _ rfl rfl (by kernel_rfl) hc6 rfl ?_
     refine XL_skipT _ rfl rfl (by kernel_rfl) hc6 rfl ?_
     refine XL_cons rfl (X_of_Y0 rfl (Y0_pick0 (b := b5) (p := ltI 0 f1.1) (q := false) rfl (by kernel_rfl) hc6 (by kernel_rfl))) ?_
     refine L0 rfl rfl (E_assign (Bo (bif b5 then (ltI 0 f1.1) else false)) rfl (by kernel_rfl)) ?_
     refine XL_nil ?_
     kernel_rfl
  refine V_ret ?_
  obtain rfl := some_inj h
  show Post _ _ _ _ _
  exact ⟨.inr rfl, rfl, rfl, rfl⟩
theorem cf_impl_isShownForm : ∀ args w, (callFunc 86 args).run Try.prog w = .ok (.enter 86 args) w := run_callFunc Try.func86 (by kernel_rfl) (by kernel_rfl)
set_option maxRecDepth 100000 in
set_option maxHeartbeats 400000 in
theorem s_impl_isShownForm {f1 : (Int × Int × Int)} {r : Bool} (h : r_impl_isShownForm f1 = some r) : CallS Try.prog 86 [.ag [Ti f1.1, Ti f1.2.1, Ti f1.2.2]] (Bo r) [] := by
  refine CallS_of_text (rs := [.t 2]) (vs := [.tmp 2]) Try.func86 rfl rfl (.cons rfl FitsL.nil) (by decide) 10 rfl ?_
  unfold r_impl_isShownForm at h
  show V _ _ ⟨.ag [Ti f1.1, Ti f1.2.1, Ti f1.2.2] :: bt 9 [], []⟩ _
  refine V_sreg (mb 10 2) [8] (s1 := ⟨.bot :: .pt 8 0 :: bt 8 [], [(8, .box [Ti f1.1, Ti f1.2.1, Ti f1.2.2])]⟩) ?_ ?_
  ·refine L1 rfl rfl (Y1_box (cs := [Ti f1.1, Ti f1.2.1, Ti f1.2.2]) rfl (by kernel_rfl)) ?_
   refine L0 rfl rfl (E_assign (Bo false) rfl (by kernel_rfl)) ?_
   refine XL_nil ?_
   kernel_rfl
  obtain ⟨y2, hy2, h⟩ := of_bind h
  obtain ⟨b5, hb5, h⟩ := of_bind h
  refine V_sreg (mb 10 4) [] (s1 := ⟨.bot :: .bot :: Bo b5 :: bt 7 [], []⟩) ?_ ?_
  ·refine L0 rfl rfl (E_loadn (cs := [Ti f1.1, Ti f1.2.1, Ti f1.2.2]) [Ti f1.1, Ti f1.2.1, Ti f1.2.2] wd45 rfl (by kernel_rfl) (Nat.le_of_ble_eq_true rfl) (by kernel_rfl)) ?_
   refine L1 rfl rfl (Y1_call (s_impl_isDefinite hy2) cf_impl_isDefinite rfl (by kernel_rfl)) ?_
   refine L0 rfl rfl (E_move (Bo y2) rfl (by kernel_rfl)) ?_
   refine XL_split y2 (fun hc3 => ?_) (fun hc3 => ?_)
   ·have hb5 := of_true hb5 hc3
    obtain ⟨y4, hy4, hb5⟩ := of_bind hb5
    have hb5 := some_inj hb5
    refine XL_takeC _ rfl rfl (by kernel_rfl) hc3 (X_of_Y0 rfl (E_loadn (cs := [Ti f1.1, Ti f1.2.1, Ti f1.2.2]) [Ti f1.1, Ti f1.2.1, Ti f1.2.2] wd45 rfl (by kernel_rfl) (Nat.le_of_ble_eq_true rfl) (by kernel_rfl))) ?_
    refine XL_takeC _ rfl rfl (by kernel_rfl) hc3 (X_of_Y1 rfl (Y1_call (s_impl_Form_disc hy4) cf_impl_Form_disc rfl (by kernel_rfl))) ?_
    refine XL_takeC _ rfl rfl (by kernel_rfl) hc3 (X_of_Y0 rfl (Y0_gew (k := .i64) (a := y4) (b := -2000) rfl (by kernel_rfl) (by kernel_rfl))) ?_
    refine XL_cons rfl (X_of_Y0 rfl (Y0_pickTe (b := y2) (p := leI (-2000) y4) rfl (by kernel_rfl) hc3 (by kernel_rfl) hb5)) ?_
    refine L0 rfl rfl (E_assign (Bo b5) rfl (by kernel_rfl)) ?_
    refine XL_nil ?_
    kernel_rfl
   ·have hb5 := some_inj (of_false hb5 hc3)
    refine XL_skipT _ rfl rfl (by kernel_rfl) hc3 rfl ?_
    refine XL_skipT _ rfl rfl (by kernel_rfl) hc3 rfl ?_
    refine XL_skipT _ rfl rfl (by kernel_rfl) hc3 rfl ?_
    refine XL_cons rfl (X_of_Y0 rfl (Y0_pickFe (b := y2) (p := false) rfl (by kernel_rfl) hc3 (by kernel_rfl) hb5)) ?_
    refine L0 rfl rfl (E_assign (Bo b5) rfl (by kernel_rfl)) ?_
    refine XL_nil ?_
    kernel_rfl
  refine V_ret ?_
  obtain rfl := some_inj h
  show Post _ _ _ _ _
  exact ⟨.inr rfl, rfl, rfl, rfl⟩
theorem cf_impl_isTerms : ∀ args w, (callFunc 87 args).run Try.prog w = .ok (.enter 87 args) w := run_callFunc Try.func87 (by kernel_rfl) (by kernel_rfl)
set_option maxRecDepth 100000 in
set_option maxHeartbeats 400000 in
theorem s_impl_isTerms {vn1 : Int} {r : Bool} (h : r_impl_isTerms vn1 = some r) : CallS Try.prog 87 [I vn1] (Bo r) [] := by
  refine CallS_of_text (rs := [.t 2]) (vs := [.tmp 2]) Try.func87 rfl rfl (.cons rfl FitsL.nil) (by decide) 9 rfl ?_
  unfold r_impl_isTerms at h
  show V _ _ ⟨I vn1 :: bt 8 [], []⟩ _
  refine V_sreg (mb 9 1) [] (s1 := ⟨I vn1 :: bt 8 [], []⟩) ?_ ?_
  ·refine L0 rfl rfl (E_assign (Bo false) rfl (by kernel_rfl)) ?_
   refine XL_nil ?_
   kernel_rfl
  refine V_sreg (mb 9 4) [] (s1 := ⟨.bot :: .bot :: Bo (bif (leI 0 vn1) then (leI vn1 100) else false) :: bt 6 [], []⟩) ?_ ?_
  ·refine L0 rfl rfl (E_move (I vn1) rfl (by kernel_rfl)) ?_
   refine L0 rfl rfl (Y0_gew (k := .i64) (a := vn1) (b := 0) rfl (by kernel_rfl) (by kernel_rfl)) ?_
   refine L0 rfl rfl (E_move (Bo (leI 0 vn1)) rfl (by kernel_rfl)) ?_
   refine XL_split (leI 0 vn1) (fun hc2 => ?_) (fun hc2 => ?_)
   ·refine XL_takeC _ rfl rfl (by kernel_rfl) hc2 (X_of_Y0 rfl (E_move (I vn1) rfl (by kernel_rfl))) ?_
    refine XL_takeC _ rfl rfl (by kernel_rfl) hc2 (X_of_Y0 rfl (Y0_lew (k := .i64) (a := vn1) (b := 100) rfl (by kernel_rfl) (by kernel_rfl))) ?_
    refine XL_cons rfl (X_of_Y0 rfl (Y0_pick1 (b := leI 0 vn1) (p := leI vn1 100) (q := false) rfl (by kernel_rfl) hc2 (by kernel_rfl))) ?_
    refine L0 rfl rfl (E_assign (Bo (bif (leI 0 vn1) then (leI vn1 100) else false)) rfl (by kernel_rfl)) ?_
    refine XL_nil ?_
    kernel_rfl
   ·refine XL_skipT _ rfl rfl (by kernel_rfl) hc2 rfl ?_
    refine XL_skipT _ rfl rfl (by kernel_rfl) hc2 rfl ?_
    refine XL_cons rfl (X_of_Y0 rfl (Y0_pick0 (b := leI 0 vn1) (p := leI vn1 100) (q := false) rfl (by kernel_rfl) hc2 (by kernel_rfl))) ?_
    refine L0 rfl rfl (E_assign (Bo (bif (leI 0 vn1) then (leI vn1 100) else false)) rfl (by kernel_rfl)) ?_
    refine XL_nil ?_
    kernel_rfl
  refine V_ret ?_
  obtain rfl := some_inj h
  show Post _ _ _ _ _
  exact ⟨.inr rfl, rfl, rfl, rfl⟩
theorem cf_impl_one : ∀ args w, (callFunc 210 args).run Try.prog w = .ok (.enter 210 args) w := run_callFunc Try.func210 (by kernel_rfl) (by kernel_rfl)
set_option maxRecDepth 100000 in
set_option maxHeartbeats 400000 in
theorem s_impl_one {r : (Int × Int × Int × Int)} (h : r_impl_one = some r) : CallS Try.prog 210 [] (.ag [Ti r.1, Ti r.2.1, Ti r.2.2.1, Ti r.2.2.2]) [] := by
  refine CallS_of_text (rs := [.w 0 4]) (vs := [.cell 0 110]) Try.func210 rfl rfl (.cons ⟨rfl, wd110⟩ FitsL.nil) (by decide) 2 rfl ?_
  unfold r_impl_one at h
  show V _ _ ⟨.bot :: .bot :: [], []⟩ _
  refine V_sreg (mb 2 1) [0] (s1 := ⟨.pt 0 0 :: .bot :: [], [(0, .box [Ti 0, Ti 0, Ti 0, Ti 0])]⟩) ?_ ?_
  ·refine L1 rfl rfl (Y1_alloc (z := zv110) rfl zf110 rfl) ?_
   refine XL_nil ?_
   kernel_rfl
  refine V_sreg (mb 2 1) [0] (s1 := ⟨.pt 0 0 :: .bot :: [], [(0, .box [Ti 1, Ti 0, Ti 0, Ti 1])]⟩) ?_ ?_
  ·refine L0 rfl rfl (Y0_build (cs := [Ti 1, Ti 0, Ti 0, Ti 1]) pl110 bt110 rfl rfl (by kernel_rfl)) ?_
   refine XL_cons rfl (E_store (id := 0) (off := 0) (cs := [Ti 0, Ti 0, Ti 0, Ti 0]) (vc := [Ti 1, Ti 0, Ti 0, Ti 1]) [Ti 1, Ti 0, Ti 0, Ti 1] rfl rfl (by kernel_rfl) (by kernel_rfl) (by kernel_rfl) sz110 (Nat.le_of_ble_eq_true rfl) (by kernel_rfl)) ?_
   refine XL_nil ?_
   kernel_rfl
  refine V_ret ?_
  obtain rfl := some_inj h
  show Post _ _ _ _ _
  exact ⟨.inr rfl, rfl, rfl, rfl⟩
theorem cf_impl_Form_isNormal : ∀ args w, (callFunc 223 args).run Try.prog w = .ok (.enter 223 args) w := run_callFunc Try.func223 (by kernel_rfl) (by kernel_rfl)
set_option maxRecDepth 100000 in
set_option maxHeartbeats 400000 in
theorem s_impl_Form_isNormal {f1 : (Int × Int × Int)} {r : Bool} (h : r_impl_Form_isNormal f1 = some r) : CallS Try.prog 223 [.ag [Ti f1.1, Ti f1.2.1, Ti f1.2.2]] (Bo r) [] := by
  refine CallS_of_text (rs := [.t 2]) (vs := [.tmp 2]) Try.func223 rfl rfl (.cons rfl FitsL.nil) (by decide) 16 rfl ?_
  unfold r_impl_Form_isNormal at h
  show V _ _ ⟨.ag [Ti f1.1, Ti f1.2.1, Ti f1.2.2] :: bt 15 [], []⟩ _
  refine V_sreg (mb 16 2) [8] (s1 := ⟨.bot :: .pt 8 0 :: bt 14 [], [(8, .box [Ti f1.1, Ti f1.2.1, Ti f1.2.2])]⟩) ?_ ?_
  ·refine L1 rfl rfl (Y1_box (cs := [Ti f1.1, Ti f1.2.1, Ti f1.2.2]) rfl (by kernel_rfl)) ?_
   refine L0 rfl rfl (E_assign (Bo false) rfl (by kernel_rfl)) ?_
   refine XL_nil ?_
   kernel_rfl
  obtain ⟨t3, ht3, h⟩ := of_bind h
  have ht3 := some_inj ht3
  refine V_sreg (mb 16 4) [] (s1 := ⟨.bot :: .bot :: Bo t3 :: bt 13 [], []⟩) ?_ ?_
  ·refine L0 rfl rfl (E_field (.pt 8 0) Try.underlying45 rfl sz3 rfl (by kernel_rfl) (by intro hh; cases hh)) ?_
   refine L0 rfl rfl (Y0_load1 (c := Ti f1.1) (cs := [Ti f1.2.1, Ti f1.2.2]) sc3 rfl (by kernel_rfl)) ?_
   refine L0 rfl rfl (Y0_neg64 (a := f1.1) rfl (by kernel_rfl)) ?_
   refine L0 rfl rfl (E_field (.pt 8 1) Try.underlying45 rfl sz3 rfl (by kernel_rfl) (by intro hh; cases hh)) ?_
   refine L0 rfl rfl (Y0_load1 (c := Ti f1.2.1) (cs := [Ti f1.2.2]) sc3 rfl (by kernel_rfl)) ?_
   refine L0 rfl rfl (Y0_ltw (k := .i64) (a := w64 (0 - f1.1)) (b := f1.2.1) rfl (by kernel_rfl) (by kernel_rfl)) ?_
   refine L0 rfl rfl (E_move (Bo (ltI (w64 (0 - f1.1)) f1.2.1)) rfl (by kernel_rfl)) ?_
   refine XL_split (ltI (w64 (0 - f1.1)) f1.2.1) (fun hc2 => ?_) (fun hc2 => ?_)
   ·refine XL_takeC _ rfl rfl (by kernel_rfl) hc2 (X_of_Y0 rfl (E_field (.pt 8 1) Try.underlying45 rfl sz3 rfl (by kernel_rfl) (by intro hh; cases hh))) ?_
    refine XL_takeC _ rfl rfl (by kernel_rfl) hc2 (X_of_Y0 rfl (Y0_load1 (c := Ti f1.2.1) (cs := [Ti f1.2.2]) sc3 rfl (by kernel_rfl))) ?_
    refine XL_takeC _ rfl rfl (by kernel_rfl) hc2 (X_of_Y0 rfl (E_field (.pt 8 0) Try.underlying45 rfl sz3 rfl (by kernel_rfl) (by intro hh; cases hh))) ?_
    refine XL_takeC _ rfl rfl (by kernel_rfl) hc2 (X_of_Y0 rfl (Y0_load1 (c := Ti f1.1) (cs := [Ti f1.2.1, Ti f1.2.2]) sc3 rfl (by kernel_rfl))) ?_
    refine XL_takeC _ rfl rfl (by kernel_rfl) hc2 (X_of_Y0 rfl (Y0_lew (k := .i64) (a := f1.2.1) (b := f1.1) rfl (by kernel_rfl) (by kernel_rfl))) ?_
    refine XL_cons rfl (X_of_Y0 rfl (Y0_pick1 (b := ltI (w64 (0 - f1.1)) f1.2.1) (p := leI f1.2.1 f1.1) (q := false) rfl (by kernel_rfl) hc2 (by kernel_rfl))) ?_
    refine L0 rfl rfl (E_assign (Bo (bif (ltI (w64 (0 - f1.1)) f1.2.1) then (leI f1.2.1 f1.1) else false)) rfl (by kernel_rfl)) ?_
    refine XL_nil ?_
    subst ht3
    kernel_rfl
   ·refine XL_skipT _ rfl rfl (by kernel_rfl) hc2 rfl ?_
    refine XL_skipT _ rfl rfl (by kernel_rfl) hc2 rfl ?_
    refine XL_skipT _ rfl rfl (by kernel_rfl) hc2 rfl ?_
    refine XL_skipT _ rfl rfl (by kernel_rfl) hc2 rfl ?_
    refine XL_skipT _ rfl rfl (by kernel_rfl) hc2 rfl ?_
    refine XL_cons rfl (X_of_Y0 rfl (Y0_pick0 (b := ltI (w64 (0 - f1.1)) f1.2.1) (p := leI f1.2.1 f1.1) (q := false) rfl (by kernel_rfl) hc2 (by kernel_rfl))) ?_
    refine L0 rfl rfl (E_assign (Bo (bif (ltI (w64 (0 - f1.1)) f1.2.1) then (leI f1.2.1 f1.1) else false)) rfl (by kernel_rfl)) ?_
    refine XL_nil ?_
    subst ht3
    kernel_rfl
  refine V_ret ?_
  obtain rfl := some_inj h
  show Post _ _ _ _ _
  exact ⟨.inr rfl, rfl, rfl, rfl⟩
theorem cf_impl_Form_isReduced : ∀ args w, (callFunc 203 args).run Try.prog w = .ok (.enter 203 args) w := run_callFunc Try.func203 (by kernel_rfl) (by kernel_rfl)
set_option maxRecDepth 100000 in
set_option maxHeartbeats 400000 in
theorem s_impl_Form_isReduced {f1 : (Int × Int × Int)} {r : Bool} (h : r_impl_Form_isReduced f1 = some r) : CallS Try.prog 203 [.ag [Ti f1.1, Ti f1.2.1, Ti f1.2.2]] (Bo r) [] := by
  refine CallS_of_text (rs := [.t 2]) (vs := [.tmp 2]) Try.func203 rfl rfl (.cons rfl FitsL.nil) (by decide) 24 rfl ?_
  unfold r_impl_Form_isReduced at h
  show V _ _ ⟨.ag [Ti f1.1, Ti f1.2.1, Ti f1.2.2] :: bt 23 [], []⟩ _
  refine V_sreg (mb 24 2) [8] (s1 := ⟨.bot :: .pt 8 0 :: bt 22 [], [(8, .box [Ti f1.1, Ti f1.2.1, Ti f1.2.2])]⟩) ?_ ?_
  ·refine L1 rfl rfl (Y1_box (cs := [Ti f1.1, Ti f1.2.1, Ti f1.2.2]) rfl (by kernel_rfl)) ?_
   refine L0 rfl rfl (E_assign (Bo false) rfl (by kernel_rfl)) ?_
   refine XL_nil ?_
   kernel_rfl
  obtain ⟨y2, hy2, h⟩ := of_bind h
  obtain ⟨t6, ht6, h⟩ := of_bind h
  have ht6 := some_inj ht6
  refine V_sreg (mb 24 4) [] (s1 := ⟨.bot :: .bot :: Bo t6 :: bt 21 [], []⟩) ?_ ?_
  ·refine L0 rfl rfl (E_loadn (cs := [Ti f1.1, Ti f1.2.1, Ti f1.2.2]) [Ti f1.1, Ti f1.2.1, Ti f1.2.2] wd45 rfl (by kernel_rfl) (Nat.le_of_ble_eq_true rfl) (by kernel_rfl)) ?_
   refine L1 rfl rfl (Y1_call (s_impl_Form_isNormal hy2) cf_impl_Form_isNormal rfl (by kernel_rfl)) ?_
   refine L0 rfl rfl (E_move (Bo y2) rfl (by kernel_rfl)) ?_
   refine XL_split y2 (fun hc3 => ?_) (fun hc3 => ?_)
   ·refine XL_takeC _ rfl rfl (by kernel_rfl) hc3 (X_of_Y0 rfl (E_field (.pt 8 0) Try.underlying45 rfl sz3 rfl (by kernel_rfl) (by intro hh; cases hh))) ?_
    refine XL_takeC _ rfl rfl (by kernel_rfl) hc3 (X_of_Y0 rfl (Y0_load1 (c := Ti f1.1) (cs := [Ti f1.2.1, Ti f1.2.2]) sc3 rfl (by kernel_rfl))) ?_
    refine XL_takeC _ rfl rfl (by kernel_rfl) hc3 (X_of_Y0 rfl (E_field (.pt 8 2) Try.underlying45 rfl sz3 rfl (by kernel_rfl) (by intro hh; cases hh))) ?_
    refine XL_takeC _ rfl rfl (by kernel_rfl) hc3 (X_of_Y0 rfl (Y0_load1 (c := Ti f1.2.2) (cs := []) sc3 rfl (by kernel_rfl))) ?_
    refine XL_takeC _ rfl rfl (by kernel_rfl) hc3 (X_of_Y0 rfl (Y0_ltw (k := .i64) (a := f1.1) (b := f1.2.2) rfl (by kernel_rfl) (by kernel_rfl))) ?_
    refine XL_takeC _ rfl rfl (by kernel_rfl) hc3 (X_of_Y0 rfl (E_move (Bo (ltI f1.1 f1.2.2)) rfl (by kernel_rfl))) ?_
    refine XL_split (ltI f1.1 f1.2.2) (fun hc4 => ?_) (fun hc4 => ?_)
    ·refine XL_skipF _ rfl rfl (by kernel_rfl) hc4 rfl ?_
     refine XL_skipF _ rfl rfl (by kernel_rfl) hc4 rfl ?_
     refine XL_skipF _ rfl rfl (by kernel_rfl) hc4 rfl ?_
     refine XL_skipF _ rfl rfl (by kernel_rfl) hc4 rfl ?_
     refine XL_skipF _ rfl rfl (by kernel_rfl) hc4 rfl ?_
     refine XL_skipF _ rfl rfl (by kernel_rfl) hc4 rfl ?_
     refine XL_skip2 rfl rfl (by kernel_rfl) rfl ?_
     refine XL_skip2 rfl rfl (by kernel_rfl) rfl ?_
     refine XL_skip2 rfl rfl (by kernel_rfl) rfl ?_
     refine XL_skipF _ rfl rfl (by kernel_rfl) hc4 rfl ?_
     refine XL_takeC _ rfl rfl (by kernel_rfl) hc3 (X_of_Y0 rfl (Y0_pick1 (b := ltI f1.1 f1.2.2) (p := true) (q := bif (eqI f1.1 f1.2.2) then (leI 0 f1.2.1) else false) rfl (by kernel_rfl) hc4 (by kernel_rfl))) ?_
     refine XL_cons rfl (X_of_Y0 rfl (Y0_pick1 (b := y2) (p := bif (ltI f1.1 f1.2.2) then true else (bif (eqI f1.1 f1.2.2) then (leI 0 f1.2.1) else false)) (q := false) rfl (by kernel_rfl) hc3 (by kernel_rfl))) ?_
     refine L0 rfl rfl (E_assign (Bo (bif y2 then (bif (ltI f1.1 f1.2.2) then true else (bif (eqI f1.1 f1.2.2) then (leI 0 f1.2.1) else false)) else false)) rfl (by kernel_rfl)) ?_
     refine XL_nil ?_
     subst ht6
     kernel_rfl
    ·refine XL_takeC _ rfl rfl (by kernel_rfl) hc4 (X_of_Y0 rfl (E_field (.pt 8 0) Try.underlying45 rfl sz3 rfl (by kernel_rfl) (by intro hh; cases hh))) ?_
     refine XL_takeC _ rfl rfl (by kernel_rfl) hc4 (X_of_Y0 rfl (Y0_load1 (c := Ti f1.1) (cs := [Ti f1.2.1, Ti f1.2.2]) sc3 rfl (by kernel_rfl))) ?_
     refine XL_takeC _ rfl rfl (by kernel_rfl) hc4 (X_of_Y0 rfl (E_field (.pt 8 2) Try.underlying45 rfl sz3 rfl (by kernel_rfl) (by intro hh; cases hh))) ?_
     refine XL_takeC _ rfl rfl (by kernel_rfl) hc4 (X_of_Y0 rfl (Y0_load1 (c := Ti f1.2.2) (cs := []) sc3 rfl (by kernel_rfl))) ?_
     refine XL_takeC _ rfl rfl (by kernel_rfl) hc4 (X_of_Y0 rfl (Y0_eqw (k := .i64) (a := f1.1) (b := f1.2.2) rfl (by kernel_rfl) (by kernel_rfl))) ?_
     refine XL_takeC _ rfl rfl (by kernel_rfl) hc4 (X_of_Y0 rfl (E_move (Bo (eqI f1.1 f1.2.2)) rfl (by kernel_rfl))) ?_
     refine XL_split (eqI f1.1 f1.2.2) (fun hc5 => ?_) (fun hc5 => ?_)
     ·refine XL_takeC _ rfl rfl (by kernel_rfl) hc5 (X_of_Y0 rfl (E_field (.pt 8 1) Try.underlying45 rfl sz3 rfl (by kernel_rfl) (by intro hh; cases hh))) ?_
      refine XL_takeC _ rfl rfl (by kernel_rfl) hc5 (X_of_Y0 rfl (Y0_load1 (c := Ti f1.2.1) (cs := [Ti f1.2.2]) sc3 rfl (by kernel_rfl))) ?_
      refine XL_takeC _ rfl rfl (by kernel_rfl) hc5 (X_of_Y0 rfl (Y0_gew (k := .i64) (a := f1.2.1) (b := 0) rfl (by kernel_rfl) (by kernel_rfl))) ?_
      refine XL_takeC _ rfl rfl (by kernel_rfl) hc4 (X_of_Y0 rfl (Y0_pick1 (b := eqI f1.1 f1.2.2) (p := leI 0 f1.2.1) (q := false) rfl (by kernel_rfl) hc5 (by kernel_rfl))) ?_
      refine XL_takeC _ rfl rfl (by kernel_rfl) hc3 (X_of_Y0 rfl (Y0_pick0 (b := ltI f1.1 f1.2.2) (p := true) (q := bif (eqI f1.1 f1.2.2) then (leI 0 f1.2.1) else false) rfl (by kernel_rfl) hc4 (by kernel_rfl))) ?_
      refine XL_cons rfl (X_of_Y0 rfl (Y0_pick1 (b := y2) (p := bif (ltI f1.1 f1.2.2) then true else (bif (eqI f1.1 f1.2.2) then (leI 0 f1.2.1) else false)) (q := false) rfl (by kernel_rfl) hc3 (by kernel_rfl))) ?_
      refine L0 rfl rfl (E_assign (Bo (bif y2 then (bif (ltI f1.1 f1.2.2) then true else (bif (eqI f1.1 f1.2.2) then (leI 0 f1.2.1) else false)) else false)) rfl (by kernel_rfl)) ?_
      refine XL_nil ?_
      subst ht6
      kernel_rfl
     ·refine XL_skipT _ rfl rfl (by kernel_rfl) hc5 rfl ?_
      refine XL_skipT _ rfl rfl (by kernel_rfl) hc5 rfl ?_
      refine XL_skipT _ rfl rfl (by kernel_rfl) hc5 rfl ?_
      refine XL_takeC _ rfl rfl (by kernel_rfl) hc4 (X_of_Y0 rfl (Y0_pick0 (b := eqI f1.1 f1.2.2) (p := leI 0 f1.2.1) (q := false) rfl (by kernel_rfl) hc5 (by kernel_rfl))) ?_
      refine XL_takeC _ rfl rfl (by kernel_rfl) hc3 (X_of_Y0 rfl (Y0_pick0 (b := ltI f1.1 f1.2.2) (p := true) (q := bif (eqI f1.1 f1.2.2) then (leI 0 f1.2.1) else false) rfl (by kernel_rfl) hc4 (by kernel_rfl))) ?_
      refine XL_cons rfl (X_of_Y0 rfl (Y0_pick1 (b := y2) (p := bif (ltI f1.1 f1.2.2) then true else (bif (eqI f1.1 f1.2.2) then (leI 0 f1.2.1) else false)) (q := false) rfl (by kernel_rfl) hc3 (by kernel_rfl))) ?_
      refine L0 rfl rfl (E_assign (Bo (bif y2 then (bif (ltI f1.1 f1.2.2) then true else (bif (eqI f1.1 f1.2.2) then (leI 0 f1.2.1) else false)) else false)) rfl (by kernel_rfl)) ?_
      refine XL_nil ?_
      subst ht6
      kernel_rfl
   ·refine XL_skipT _ rfl rfl (by kernel_rfl) hc3 rfl ?_
    refine XL_skipT _ rfl rfl (by kernel_rfl) hc3 rfl ?_
    refine XL_skipT _ rfl rfl (by kernel_rfl) hc3 rfl ?_
    refine XL_skipT _ rfl rfl (by kernel_rfl) hc3 rfl ?_
    refine XL_skipT _ rfl rfl (by kernel_rfl) hc3 rfl ?_
    refine XL_skipT _ rfl rfl (by kernel_rfl) hc3 rfl ?_
    refine XL_skip2 rfl rfl (by kernel_rfl) rfl ?_
    refine XL_skip2 rfl rfl (by kernel_rfl) rfl ?_
    refine XL_skip2 rfl rfl (by kernel_rfl) rfl ?_
    refine XL_skip2 rfl rfl (by kernel_rfl) rfl ?_
    refine XL_skip2 rfl rfl (by kernel_rfl) rfl ?_
    refine XL_skip2 rfl rfl (by kernel_rfl) rfl ?_
    refine XL_skip2 rfl rfl (by kernel_rfl) rfl ?_
    refine XL_skip2 rfl rfl (by kernel_rfl) rfl ?_
    refine XL_skip2 rfl rfl (by kernel_rfl) rfl ?_
    refine XL_skip2 rfl rfl (by kernel_rfl) rfl ?_
    refine XL_skipT _ rfl rfl (by kernel_rfl) hc3 rfl ?_
    refine XL_cons rfl (X_of_Y0 rfl (Y0_pick0 (b := y2) (p := bif (ltI f1.1 f1.2.2) then true else (bif (eqI f1.1 f1.2.2) then (leI 0 f1.2.1) else false)) (q := false) rfl (by kernel_rfl) hc3 (by kernel_rfl))) ?_
    refine L0 rfl rfl (E_assign (Bo (bif y2 then (bif (ltI f1.1 f1.2.2) then true else (bif (eqI f1.1 f1.2.2) then (leI 0 f1.2.1) else false)) else false)) rfl (by kernel_rfl)) ?_
    refine XL_nil ?_
    subst ht6
    kernel_rfl
  refine V_ret ?_
  obtain rfl := some_inj h
  show Post _ _ _ _ _
  exact ⟨.inr rfl, rfl, rfl, rfl⟩
theorem cf_impl_mod : ∀ args w, (callFunc 58 args).run Try.prog w = .ok (.enter 58 args) w := run_callFunc Try.func58 (by kernel_rfl) (by kernel_rfl)
set_option maxRecDepth 100000 in
set_option maxHeartbeats 400000 in
theorem s_impl_mod {a1 : Int} {vm2 : Int} {r : Int} (h : r_impl_mod a1 vm2 = some r) : CallS Try.prog 58 [I a1, I vm2] (I r) [] := by
  refine CallS_of_text (rs := [.t 4]) (vs := [.tmp 4]) Try.func58 rfl rfl (.cons rfl FitsL.nil) (by decide) 15 rfl ?_
  unfold r_impl_mod at h
  show V _ _ ⟨I a1 :: I vm2 :: bt 13 [], []⟩ _
  refine V_sreg (mb 15 3) [] (s1 := ⟨I a1 :: I vm2 :: bt 13 [], []⟩) ?_ ?_
  ·refine L0 rfl rfl (E_assign (I 0) rfl (by kernel_rfl)) ?_
   refine XL_nil ?_
   kernel_rfl
  obtain ⟨z3, hz3, h⟩ := of_bind h
  obtain ⟨vr4, hvr4, h⟩ := of_sI h
  refine V_sreg (mb 15 34) [] (s1 := ⟨.bot :: I vm2 :: bt 3 (I vr4 :: bt 9 []), []⟩) ?_ ?_
  ·refine L0 rfl rfl (E_move (I a1) rfl (by kernel_rfl)) ?_
   refine L0 rfl rfl (E_move (I vm2) rfl (by kernel_rfl)) ?_
   refine L0 rfl rfl (Y0_rem (k := .i64) (a := a1) (b := vm2) rfl (by kernel_rfl) (by kernel_rfl) (nz_some hz3)) ?_
   refine L0 rfl rfl (E_assign (I (Int.tmod a1 vm2)) rfl (by kernel_rfl)) ?_
   refine XL_nil ?_
   subst hvr4
   kernel_rfl
  refine V_seq ?_
  refine V_sreg (mb 15 1058) [] (s1 := ⟨.bot :: I vm2 :: bt 3 (I vr4 :: bt 4 (Bo (ltI vr4 0) :: bt 4 [])), []⟩) ?_ ?_
  ·refine L0 rfl rfl (E_move (I vr4) rfl (by kernel_rfl)) ?_
   refine L0 rfl rfl (Y0_ltw (k := .i64) (a := vr4) (b := 0) rfl (by kernel_rfl) (by kernel_rfl)) ?_
   refine XL_nil ?_
   kernel_rfl
  refine V_cond rfl (fun hc5 => ?_) (fun hc5 => ?_)
  ·have h := of_true h hc5
   obtain ⟨vr6, hvr6, h⟩ := of_sI h
   refine V_reg (mb 15 32) [] (s1 := ⟨bt 5 (I vr6 :: bt 9 []), []⟩) ?_ ?_
   ·refine L0 rfl rfl (E_move (I vr4) rfl (by kernel_rfl)) ?_
    refine L0 rfl rfl (E_move (I vm2) rfl (by kernel_rfl)) ?_
    refine L0 rfl rfl (Y0_add64 (a := vr4) (b := vm2) rfl (by kernel_rfl) (by kernel_rfl)) ?_
    refine L0 rfl rfl (E_assign (I (w64 (vr4 + vm2))) rfl (by kernel_rfl)) ?_
    refine XL_nil ?_
    subst hvr6
    kernel_rfl
   show V _ _ _ _
   refine V_sreg (mb 15 16) [] (s1 := ⟨bt 4 (I vr6 :: bt 10 []), []⟩) ?_ ?_
   ·refine L0 rfl rfl (E_move (I vr6) rfl (by kernel_rfl)) ?_
    refine L0 rfl rfl (E_assign (I vr6) rfl (by kernel_rfl)) ?_
    refine XL_nil ?_
    kernel_rfl
   refine V_ret ?_
   obtain rfl := some_inj h
   show Post _ _ _ _ _
   exact ⟨.inr rfl, rfl, rfl, rfl⟩
  ·have h := of_false h hc5
   refine V_skip ?_
   show V _ _ _ _
   refine V_sreg (mb 15 16) [] (s1 := ⟨bt 4 (I vr4 :: bt 10 []), []⟩) ?_ ?_
   ·refine L0 rfl rfl (E_move (I vr4) rfl (by kernel_rfl)) ?_
    refine L0 rfl rfl (E_assign (I vr4) rfl (by kernel_rfl)) ?_
    refine XL_nil ?_
    kernel_rfl
   refine V_ret ?_
   obtain rfl := some_inj h
   show Post _ _ _ _ _
   exact ⟨.inr rfl, rfl, rfl, rfl⟩
theorem cf_impl_floorDiv : ∀ args w, (callFunc 206 args).run Try.prog w = .ok (.enter 206 args) w := run_callFunc Try.func206 (by kernel_rfl) (by kernel_rfl)
set_option maxRecDepth 100000 in
set_option maxHeartbeats 400000 in
theorem s_impl_floorDiv {a1 : Int} {vm2 : Int} {r : Int} (h : r_impl_floorDiv a1 vm2 = some r) : CallS Try.prog 206 [I a1, I vm2] (I r) [] := by
  refine CallS_of_text (rs := [.t 4]) (vs := [.tmp 4]) Try.func206 rfl rfl (.cons rfl FitsL.nil) (by decide) 12 rfl ?_
  unfold r_impl_floorDiv at h
  show V _ _ ⟨I a1 :: I vm2 :: bt 10 [], []⟩ _
  refine V_sreg (mb 12 3) [] (s1 := ⟨I a1 :: I vm2 :: bt 10 [], []⟩) ?_ ?_
  ·refine L0 rfl rfl (E_assign (I 0) rfl (by kernel_rfl)) ?_
   refine XL_nil ?_
   kernel_rfl
  obtain ⟨y3, hy3, h⟩ := of_bind h
  obtain ⟨z4, hz4, h⟩ := of_bind h
  obtain ⟨t5, ht5, h⟩ := of_sI h
  refine V_sreg (mb 12 16) [] (s1 := ⟨bt 4 (I t5 :: bt 7 []), []⟩) ?_ ?_
  ·refine L0 rfl rfl (E_move (I a1) rfl (by kernel_rfl)) ?_
   refine L0 rfl rfl (E_move (I a1) rfl (by kernel_rfl)) ?_
   refine L0 rfl rfl (E_move (I vm2) rfl (by kernel_rfl)) ?_
   refine L1 rfl rfl (Y1_call (s_impl_mod hy3) cf_impl_mod rfl (by kernel_rfl)) ?_
   refine L0 rfl rfl (Y0_sub64 (a := a1) (b := y3) rfl (by kernel_rfl) (by kernel_rfl)) ?_
   refine L0 rfl rfl (E_move (I vm2) rfl (by kernel_rfl)) ?_
   refine L0 rfl rfl (Y0_quo64 (a := w64 (a1 - y3)) (b := vm2) rfl (by kernel_rfl) (by kernel_rfl) (nz_some hz4)) ?_
   refine L0 rfl rfl (E_assign (I (w64 (Int.tdiv (w64 (a1 - y3)) vm2))) rfl (by kernel_rfl)) ?_
   refine XL_nil ?_
   subst ht5
   kernel_rfl
  refine V_ret ?_
  obtain rfl := some_inj h
  show Post _ _ _ _ _
  exact ⟨.inr rfl, rfl, rfl, rfl⟩
theorem cf_impl_Form_step : ∀ args w, (callFunc 211 args).run Try.prog w = .ok (.enter 211 args) w := run_callFunc Try.func211 (by kernel_rfl) (by kernel_rfl)
set_option maxRecDepth 100000 in
set_option maxHeartbeats 400000 in
theorem s_impl_Form_step {f1 : (Int × Int × Int)} {r : (Int × Int × Int × Int)} (h : r_impl_Form_step f1 = some r) : CallS Try.prog 211 [.ag [Ti f1.1, Ti f1.2.1, Ti f1.2.2]] (.ag [Ti r.1, Ti r.2.1, Ti r.2.2.1, Ti r.2.2.2]) [] := by
  refine CallS_of_text (rs := [.w 2 4]) (vs := [.cell 2 110]) Try.func211 rfl rfl (.cons ⟨rfl, wd110⟩ FitsL.nil) (by decide) 22 rfl ?_
  unfold r_impl_Form_step at h
  show V _ _ ⟨.ag [Ti f1.1, Ti f1.2.1, Ti f1.2.2] :: bt 21 [], []⟩ _
  refine V_sreg (mb 22 6) [16, 8] (s1 := ⟨.bot :: .pt 8 0 :: .pt 16 0 :: bt 19 [], [(16, .box [Ti 0, Ti 0, Ti 0, Ti 0]), (8, .box [Ti f1.1, Ti f1.2.1, Ti f1.2.2])]⟩) ?_ ?_
  ·refine L1 rfl rfl (Y1_box (cs := [Ti f1.1, Ti f1.2.1, Ti f1.2.2]) rfl (by kernel_rfl)) ?_
   refine L1 rfl rfl (Y1_alloc (z := zv110) rfl zf110 rfl) ?_
   refine XL_nil ?_
   kernel_rfl
  refine V_seq ?_
  refine V_block ?_
  obtain ⟨y2, hy2, h⟩ := of_bind h
  refine V_sreg (mb 22 14) [16, 8] (s1 := ⟨.bot :: .pt 8 0 :: .pt 16 0 :: Bo y2 :: bt 18 [], [(16, .box [Ti 0, Ti 0, Ti 0, Ti 0]), (8, .box [Ti f1.1, Ti f1.2.1, Ti f1.2.2])]⟩) ?_ ?_
  ·refine L0 rfl rfl (E_loadn (cs := [Ti f1.1, Ti f1.2.1, Ti f1.2.2]) [Ti f1.1, Ti f1.2.1, Ti f1.2.2] wd45 rfl (by kernel_rfl) (Nat.le_of_ble_eq_true rfl) (by kernel_rfl)) ?_
   refine L1 rfl rfl (Y1_call (s_impl_Form_isReduced hy2) cf_impl_Form_isReduced rfl (by kernel_rfl)) ?_
   refine L0 rfl rfl (E_assign (Bo y2) rfl (by kernel_rfl)) ?_
   refine XL_nil ?_
   kernel_rfl
  refine V_cond rfl (fun hc3 => ?_) (fun hc3 => ?_)
  ·have h := of_true h hc3
   obtain ⟨y4, hy4, h⟩ := of_bind h
   refine V_sreg (mb 22 4) [16] (s1 := ⟨.bot :: .bot :: .pt 16 0 :: bt 19 [], [(16, .box [Ti y4.1, Ti y4.2.1, Ti y4.2.2.1, Ti y4.2.2.2])]⟩) ?_ ?_
   ·refine L1 rfl rfl (Y1_call (s_impl_one hy4) cf_impl_one rfl (by kernel_rfl)) ?_
    refine XL_cons rfl (E_store (id := 16) (off := 0) (cs := [Ti 0, Ti 0, Ti 0, Ti 0]) (vc := [Ti y4.1, Ti y4.2.1, Ti y4.2.2.1, Ti y4.2.2.2]) [Ti y4.1, Ti y4.2.1, Ti y4.2.2.1, Ti y4.2.2.2] rfl rfl (by kernel_rfl) (by kernel_rfl) (by kernel_rfl) sz110 (Nat.le_of_ble_eq_true rfl) (by kernel_rfl)) ?_
    refine XL_nil ?_
    kernel_rfl
   refine V_ret ?_
   obtain rfl := some_inj h
   show Post _ _ _ _ _
   exact ⟨.inr rfl, rfl, rfl, rfl⟩
  ·have h := of_false h hc3
   obtain ⟨y5, hy5, h⟩ := of_bind h
   refine V_sreg (mb 22 134) [16, 8] (s1 := ⟨.bot :: .pt 8 0 :: .pt 16 0 :: bt 4 (Bo (!y5) :: bt 14 []), [(16, .box [Ti 0, Ti 0, Ti 0, Ti 0]), (8, .box [Ti f1.1, Ti f1.2.1, Ti f1.2.2])]⟩) ?_ ?_
   ·refine L0 rfl rfl (E_loadn (cs := [Ti f1.1, Ti f1.2.1, Ti f1.2.2]) [Ti f1.1, Ti f1.2.1, Ti f1.2.2] wd45 rfl (by kernel_rfl) (Nat.le_of_ble_eq_true rfl) (by kernel_rfl)) ?_
    refine L1 rfl rfl (Y1_call (s_impl_Form_isNormal hy5) cf_impl_Form_isNormal rfl (by kernel_rfl)) ?_
    refine L0 rfl rfl (Y0_not (b := y5) rfl (by kernel_rfl)) ?_
    refine L0 rfl rfl (E_assign (Bo (!y5)) rfl (by kernel_rfl)) ?_
    refine XL_nil ?_
    kernel_rfl
   refine V_cond rfl (fun hc6 => ?_) (fun hc6 => ?_)
   ·have h := of_true h hc6
    obtain ⟨y7, hy7, h⟩ := of_bind h
    refine V_sreg (mb 22 4) [16] (s1 := ⟨.bot :: .bot :: .pt 16 0 :: bt 19 [], [(16, .box [Ti 1, Ti y7, Ti 0, Ti 1])]⟩) ?_ ?_
    ·refine L0 rfl rfl (E_field (.pt 8 0) Try.underlying45 rfl sz3 rfl (by kernel_rfl) (by intro hh; cases hh)) ?_
     refine L0 rfl rfl (Y0_load1 (c := Ti f1.1) (cs := [Ti f1.2.1, Ti f1.2.2]) sc3 rfl (by kernel_rfl)) ?_
     refine L0 rfl rfl (E_field (.pt 8 1) Try.underlying45 rfl sz3 rfl (by kernel_rfl) (by intro hh; cases hh)) ?_
     refine L0 rfl rfl (Y0_load1 (c := Ti f1.2.1) (cs := [Ti f1.2.2]) sc3 rfl (by kernel_rfl)) ?_
     refine L0 rfl rfl (Y0_sub64 (a := f1.1) (b := f1.2.1) rfl (by kernel_rfl) (by kernel_rfl)) ?_
     refine L0 rfl rfl (E_field (.pt 8 0) Try.underlying45 rfl sz3 rfl (by kernel_rfl) (by intro hh; cases hh)) ?_
     refine L0 rfl rfl (Y0_load1 (c := Ti f1.1) (cs := [Ti f1.2.1, Ti f1.2.2]) sc3 rfl (by kernel_rfl)) ?_
     refine L0 rfl rfl (Y0_mul64 (a := 2) (b := f1.1) rfl (by kernel_rfl) (by kernel_rfl)) ?_
     refine L1 rfl rfl (Y1_call (s_impl_floorDiv hy7) cf_impl_floorDiv rfl (by kernel_rfl)) ?_
     refine L0 rfl rfl (Y0_build (cs := [Ti 1, Ti y7, Ti 0, Ti 1]) pl110 bt110 rfl rfl (by kernel_rfl)) ?_
     refine XL_cons rfl (E_store (id := 16) (off := 0) (cs := [Ti 0, Ti 0, Ti 0, Ti 0]) (vc := [Ti 1, Ti y7, Ti 0, Ti 1]) [Ti 1, Ti y7, Ti 0, Ti 1] rfl rfl (by kernel_rfl) (by kernel_rfl) (by kernel_rfl) sz110 (Nat.le_of_ble_eq_true rfl) (by kernel_rfl)) ?_
     refine XL_nil ?_
     kernel_rfl
    refine V_ret ?_
    obtain rfl := some_inj h
    show Post _ _ _ _ _
    exact ⟨.inr rfl, rfl, rfl, rfl⟩
   ·have h := of_false h hc6
    refine V_skip ?_
    show V _ _ _ _
    refine V_sreg (mb 22 4) [16] (s1 := ⟨.bot :: .bot :: .pt 16 0 :: bt 19 [], [(16, .box [Ti 0, Ti (-1), Ti 1, Ti 0])]⟩) ?_ ?_
    ·refine L0 rfl rfl (Y0_build (cs := [Ti 0, Ti (-1), Ti 1, Ti 0]) pl110 bt110 rfl rfl (by kernel_rfl)) ?_
     refine XL_cons rfl (E_store (id := 16) (off := 0) (cs := [Ti 0, Ti 0, Ti 0, Ti 0]) (vc := [Ti 0, Ti (-1), Ti 1, Ti 0]) [Ti 0, Ti (-1), Ti 1, Ti 0] rfl rfl (by kernel_rfl) (by kernel_rfl) (by kernel_rfl) sz110 (Nat.le_of_ble_eq_true rfl) (by kernel_rfl)) ?_
     refine XL_nil ?_
     kernel_rfl
    refine V_ret ?_
    obtain rfl := some_inj h
    show Post _ _ _ _ _
    exact ⟨.inr rfl, rfl, rfl, rfl⟩
theorem cf_impl_Form_at : ∀ args w, (callFunc 131 args).run Try.prog w = .ok (.enter 131 args) w := run_callFunc Try.func131 (by kernel_rfl) (by kernel_rfl)
set_option maxRecDepth 100000 in
set_option maxHeartbeats 400000 in
theorem s_impl_Form_at {f1 : (Int × Int × Int)} {x2 : Int} {y3 : Int} {r : Int} (h : r_impl_Form_at f1 x2 y3 = some r) : CallS Try.prog 131 [.ag [Ti f1.1, Ti f1.2.1, Ti f1.2.2], I x2, I y3] (I r) [] := by
  refine CallS_of_text (rs := [.t 6]) (vs := [.tmp 6]) Try.func131 rfl rfl (.cons rfl FitsL.nil) (by decide) 27 rfl ?_
  unfold r_impl_Form_at at h
  show V _ _ ⟨.ag [Ti f1.1, Ti f1.2.1, Ti f1.2.2] :: I x2 :: I y3 :: bt 24 [], []⟩ _
  refine V_sreg (mb 27 14) [24] (s1 := ⟨.bot :: I x2 :: I y3 :: .pt 24 0 :: bt 23 [], [(24, .box [Ti f1.1, Ti f1.2.1, Ti f1.2.2])]⟩) ?_ ?_
  ·refine L1 rfl rfl (Y1_box (cs := [Ti f1.1, Ti f1.2.1, Ti f1.2.2]) rfl (by kernel_rfl)) ?_
   refine L0 rfl rfl (E_assign (I 0) rfl (by kernel_rfl)) ?_
   refine XL_nil ?_
   kernel_rfl
  obtain ⟨t4, ht4, h⟩ := of_sI h
  refine V_sreg (mb 27 64) [] (s1 := ⟨bt 6 (I t4 :: bt 20 []), []⟩) ?_ ?_
  ·refine L0 rfl rfl (E_field (.pt 24 0) Try.underlying45 rfl sz3 rfl (by kernel_rfl) (by intro hh; cases hh)) ?_
   refine L0 rfl rfl (Y0_load1 (c := Ti f1.1) (cs := [Ti f1.2.1, Ti f1.2.2]) sc3 rfl (by kernel_rfl)) ?_
   refine L0 rfl rfl (E_move (I x2) rfl (by kernel_rfl)) ?_
   refine L0 rfl rfl (Y0_mul64 (a := f1.1) (b := x2) rfl (by kernel_rfl) (by kernel_rfl)) ?_
   refine L0 rfl rfl (E_move (I x2) rfl (by kernel_rfl)) ?_
   refine L0 rfl rfl (Y0_mul64 (a := w64 (f1.1 * x2)) (b := x2) rfl (by kernel_rfl) (by kernel_rfl)) ?_
   refine L0 rfl rfl (E_field (.pt 24 1) Try.underlying45 rfl sz3 rfl (by kernel_rfl) (by intro hh; cases hh)) ?_
   refine L0 rfl rfl (Y0_load1 (c := Ti f1.2.1) (cs := [Ti f1.2.2]) sc3 rfl (by kernel_rfl)) ?_
   refine L0 rfl rfl (E_move (I x2) rfl (by kernel_rfl)) ?_
   refine L0 rfl rfl (Y0_mul64 (a := f1.2.1) (b := x2) rfl (by kernel_rfl) (by kernel_rfl)) ?_
   refine L0 rfl rfl (E_move (I y3) rfl (by kernel_rfl)) ?_
   refine L0 rfl rfl (Y0_mul64 (a := w64 (f1.2.1 * x2)) (b := y3) rfl (by kernel_rfl) (by kernel_rfl)) ?_
   refine L0 rfl rfl (Y0_add64 (a := w64 ((w64 (f1.1 * x2)) * x2)) (b := w64 ((w64 (f1.2.1 * x2)) * y3)) rfl (by kernel_rfl) (by kernel_rfl)) ?_
   refine L0 rfl rfl (E_field (.pt 24 2) Try.underlying45 rfl sz3 rfl (by kernel_rfl) (by intro hh; cases hh)) ?_
   refine L0 rfl rfl (Y0_load1 (c := Ti f1.2.2) (cs := []) sc3 rfl (by kernel_rfl)) ?_
   refine L0 rfl rfl (E_move (I y3) rfl (by kernel_rfl)) ?_
   refine L0 rfl rfl (Y0_mul64 (a := f1.2.2) (b := y3) rfl (by kernel_rfl) (by kernel_rfl)) ?_
   refine L0 rfl rfl (E_move (I y3) rfl (by kernel_rfl)) ?_
   refine L0 rfl rfl (Y0_mul64 (a := w64 (f1.2.2 * y3)) (b := y3) rfl (by kernel_rfl) (by kernel_rfl)) ?_
   refine L0 rfl rfl (Y0_add64 (a := w64 ((w64 ((w64 (f1.1 * x2)) * x2)) + (w64 ((w64 (f1.2.1 * x2)) * y3)))) (b := w64 ((w64 (f1.2.2 * y3)) * y3)) rfl (by kernel_rfl) (by kernel_rfl)) ?_
   refine L0 rfl rfl (E_assign (I (w64 ((w64 ((w64 ((w64 (f1.1 * x2)) * x2)) + (w64 ((w64 (f1.2.1 * x2)) * y3)))) + (w64 ((w64 (f1.2.2 * y3)) * y3))))) rfl (by kernel_rfl)) ?_
   refine XL_nil ?_
   subst ht4
   kernel_rfl
  refine V_ret ?_
  obtain rfl := some_inj h
  show Post _ _ _ _ _
  exact ⟨.inr rfl, rfl, rfl, rfl⟩
theorem cf_impl_Form_polar : ∀ args w, (callFunc 224 args).run Try.prog w = .ok (.enter 224 args) w := run_callFunc Try.func224 (by kernel_rfl) (by kernel_rfl)
set_option maxRecDepth 100000 in
set_option maxHeartbeats 400000 in
theorem s_impl_Form_polar {f1 : (Int × Int × Int)} {x2 : Int} {y3 : Int} {u4 : Int} {v5 : Int} {r : Int} (h : r_impl_Form_polar f1 x2 y3 u4 v5 = some r) : CallS Try.prog 224 [.ag [Ti f1.1, Ti f1.2.1, Ti f1.2.2], I x2, I y3, I u4, I v5] (I r) [] := by
  refine CallS_of_text (rs := [.t 10]) (vs := [.tmp 10]) Try.func224 rfl rfl (.cons rfl FitsL.nil) (by decide) 37 rfl ?_
  unfold r_impl_Form_polar at h
  show V _ _ ⟨.ag [Ti f1.1, Ti f1.2.1, Ti f1.2.2] :: I x2 :: I y3 :: I u4 :: I v5 :: bt 32 [], []⟩ _
  refine V_sreg (mb 37 62) [40] (s1 := ⟨.bot :: I x2 :: I y3 :: I u4 :: I v5 :: .pt 40 0 :: bt 31 [], [(40, .box [Ti f1.1, Ti f1.2.1, Ti f1.2.2])]⟩) ?_ ?_
  ·refine L1 rfl rfl (Y1_box (cs := [Ti f1.1, Ti f1.2.1, Ti f1.2.2]) rfl (by kernel_rfl)) ?_
   refine L0 rfl rfl (E_assign (I 0) rfl (by kernel_rfl)) ?_
   refine XL_nil ?_
   kernel_rfl
  obtain ⟨t6, ht6, h⟩ := of_sI h
  refine V_sreg (mb 37 1024) [] (s1 := ⟨bt 10 (I t6 :: bt 26 []), []⟩) ?_ ?_
  ·refine L0 rfl rfl (E_field (.pt 40 0) Try.underlying45 rfl sz3 rfl (by kernel_rfl) (by intro hh; cases hh)) ?_
   refine L0 rfl rfl (Y0_load1 (c := Ti f1.1) (cs := [Ti f1.2.1, Ti f1.2.2]) sc3 rfl (by kernel_rfl)) ?_
   refine L0 rfl rfl (Y0_mul64 (a := 2) (b := f1.1) rfl (by kernel_rfl) (by kernel_rfl)) ?_
   refine L0 rfl rfl (E_move (I x2) rfl (by kernel_rfl)) ?_
   refine L0 rfl rfl (Y0_mul64 (a := w64 (2 * f1.1)) (b := x2) rfl (by kernel_rfl) (by kernel_rfl)) ?_
   refine L0 rfl rfl (E_move (I u4) rfl (by kernel_rfl)) ?_
   refine L0 rfl rfl (Y0_mul64 (a := w64 ((w64 (2 * f1.1)) * x2)) (b := u4) rfl (by kernel_rfl) (by kernel_rfl)) ?_
   refine L0 rfl rfl (E_field (.pt 40 1) Try.underlying45 rfl sz3 rfl (by kernel_rfl) (by intro hh; cases hh)) ?_
   refine L0 rfl rfl (Y0_load1 (c := Ti f1.2.1) (cs := [Ti f1.2.2]) sc3 rfl (by kernel_rfl)) ?_
   refine L0 rfl rfl (E_move (I x2) rfl (by kernel_rfl)) ?_
   refine L0 rfl rfl (E_move (I v5) rfl (by kernel_rfl)) ?_
   refine L0 rfl rfl (Y0_mul64 (a := x2) (b := v5) rfl (by kernel_rfl) (by kernel_rfl)) ?_
   refine L0 rfl rfl (E_move (I y3) rfl (by kernel_rfl)) ?_
   refine L0 rfl rfl (E_move (I u4) rfl (by kernel_rfl)) ?_
   refine L0 rfl rfl (Y0_mul64 (a := y3) (b := u4) rfl (by kernel_rfl) (by kernel_rfl)) ?_
   refine L0 rfl rfl (Y0_add64 (a := w64 (x2 * v5)) (b := w64 (y3 * u4)) rfl (by kernel_rfl) (by kernel_rfl)) ?_
   refine L0 rfl rfl (Y0_mul64 (a := f1.2.1) (b := w64 ((w64 (x2 * v5)) + (w64 (y3 * u4)))) rfl (by kernel_rfl) (by kernel_rfl)) ?_
   refine L0 rfl rfl (Y0_add64 (a := w64 ((w64 ((w64 (2 * f1.1)) * x2)) * u4)) (b := w64 (f1.2.1 * (w64 ((w64 (x2 * v5)) + (w64 (y3 * u4)))))) rfl (by kernel_rfl) (by kernel_rfl)) ?_
   refine L0 rfl rfl (E_field (.pt 40 2) Try.underlying45 rfl sz3 rfl (by kernel_rfl) (by intro hh; cases hh)) ?_
   refine L0 rfl rfl (Y0_load1 (c := Ti f1.2.2) (cs := []) sc3 rfl (by kernel_rfl)) ?_
   refine L0 rfl rfl (Y0_mul64 (a := 2) (b := f1.2.2) rfl (by kernel_rfl) (by kernel_rfl)) ?_
   refine L0 rfl rfl (E_move (I y3) rfl (by kernel_rfl)) ?_
   refine L0 rfl rfl (Y0_mul64 (a := w64 (2 * f1.2.2)) (b := y3) rfl (by kernel_rfl) (by kernel_rfl)) ?_
   refine L0 rfl rfl (E_move (I v5) rfl (by kernel_rfl)) ?_
   refine L0 rfl rfl (Y0_mul64 (a := w64 ((w64 (2 * f1.2.2)) * y3)) (b := v5) rfl (by kernel_rfl) (by kernel_rfl)) ?_
   refine L0 rfl rfl (Y0_add64 (a := w64 ((w64 ((w64 ((w64 (2 * f1.1)) * x2)) * u4)) + (w64 (f1.2.1 * (w64 ((w64 (x2 * v5)) + (w64 (y3 * u4)))))))) (b := w64 ((w64 ((w64 (2 * f1.2.2)) * y3)) * v5)) rfl (by kernel_rfl) (by kernel_rfl)) ?_
   refine L0 rfl rfl (E_assign (I (w64 ((w64 ((w64 ((w64 ((w64 (2 * f1.1)) * x2)) * u4)) + (w64 (f1.2.1 * (w64 ((w64 (x2 * v5)) + (w64 (y3 * u4)))))))) + (w64 ((w64 ((w64 (2 * f1.2.2)) * y3)) * v5))))) rfl (by kernel_rfl)) ?_
   refine XL_nil ?_
   subst ht6
   kernel_rfl
  refine V_ret ?_
  obtain rfl := some_inj h
  show Post _ _ _ _ _
  exact ⟨.inr rfl, rfl, rfl, rfl⟩
theorem cf_impl_Form_substitute : ∀ args w, (callFunc 205 args).run Try.prog w = .ok (.enter 205 args) w := run_callFunc Try.func205 (by kernel_rfl) (by kernel_rfl)
set_option maxRecDepth 100000 in
set_option maxHeartbeats 400000 in
theorem s_impl_Form_substitute {f1 : (Int × Int × Int)} {vm2 : (Int × Int × Int × Int)} {r : (Int × Int × Int)} (h : r_impl_Form_substitute f1 vm2 = some r) : CallS Try.prog 205 [.ag [Ti f1.1, Ti f1.2.1, Ti f1.2.2], .ag [Ti vm2.1, Ti vm2.2.1, Ti vm2.2.2.1, Ti vm2.2.2.2]] (.ag [Ti r.1, Ti r.2.1, Ti r.2.2]) [] := by
  refine CallS_of_text (rs := [.w 4 3]) (vs := [.cell 4 45]) Try.func205 rfl rfl (.cons ⟨rfl, wd45⟩ FitsL.nil) (by decide) 28 rfl ?_
  unfold r_impl_Form_substitute at h
  show V _ _ ⟨.ag [Ti f1.1, Ti f1.2.1, Ti f1.2.2] :: .ag [Ti vm2.1, Ti vm2.2.1, Ti vm2.2.2.1, Ti vm2.2.2.2] :: bt 26 [], []⟩ _
  refine V_sreg (mb 28 28) [32, 24, 16] (s1 := ⟨.bot :: .bot :: .pt 16 0 :: .pt 24 0 :: .pt 32 0 :: bt 23 [], [(32, .box [Ti 0, Ti 0, Ti 0]), (24, .box [Ti vm2.1, Ti vm2.2.1, Ti vm2.2.2.1, Ti vm2.2.2.2]), (16, .box [Ti f1.1, Ti f1.2.1, Ti f1.2.2])]⟩) ?_ ?_
  ·refine L1 rfl rfl (Y1_box (cs := [Ti f1.1, Ti f1.2.1, Ti f1.2.2]) rfl (by kernel_rfl)) ?_
   refine L1 rfl rfl (Y1_box (cs := [Ti vm2.1, Ti vm2.2.1, Ti vm2.2.2.1, Ti vm2.2.2.2]) rfl (by kernel_rfl)) ?_
   refine L1 rfl rfl (Y1_alloc (z := zv45) rfl zf45 rfl) ?_
   refine XL_nil ?_
   kernel_rfl
  obtain ⟨y3, hy3, h⟩ := of_bind h
  obtain ⟨y4, hy4, h⟩ := of_bind h
  obtain ⟨y5, hy5, h⟩ := of_bind h
  refine V_sdreg [0, 0, 2, 0, 8, 31, 0, 0, 128, 0, 512, 0, 2048, 0, 8192, 32767, 0, 0, 131072, 0, 524288, 2097151, 4194303, 8388607] 23 [[.z, .b, .b, .b, .b, .z, .b, .b, .b, .b, .b, .b, .b, .b, .b, .z, .b, .b, .b, .b, .b, .z, .z], [.b, .z, .z, .b, .b, .z, .b, .b, .b, .b, .b, .b, .b, .b, .b, .z, .b, .b, .b, .b, .b, .z, .z], [.b, .a, .z, .b, .b, .z, .b, .b, .b, .b, .b, .b, .b, .b, .b, .z, .b, .b, .b, .b, .b, .z, .z], [.b, .b, .b, .z, .z, .z, .b, .b, .b, .b, .b, .b, .b, .b, .b, .z, .b, .b, .b, .b, .b, .z, .z], [.b, .b, .b, .a, .z, .z, .b, .b, .b, .b, .b, .b, .b, .b, .b, .z, .b, .b, .b, .b, .b, .z, .z], [.a, .a, .a, .a, .a, .z, .b, .b, .b, .b, .b, .b, .b, .b, .b, .z, .b, .b, .b, .b, .b, .z, .z], [.b, .b, .b, .b, .b, .b, .z, .b, .b, .b, .b, .b, .b, .b, .b, .z, .b, .b, .b, .b, .b, .z, .z], [.b, .b, .b, .b, .b, .b, .b, .z, .z, .b, .b, .b, .b, .b, .b, .z, .b, .b, .b, .b, .b, .z, .z], [.b, .b, .b, .b, .b, .b, .b, .a, .z, .b, .b, .b, .b, .b, .b, .z, .b, .b, .b, .b, .b, .z, .z], [.b, .b, .b, .b, .b, .b, .b, .b, .b, .z, .z, .b, .b, .b, .b, .z, .b, .b, .b, .b, .b, .z, .z], [.b, .b, .b, .b, .b, .b, .b, .b, .b, .a, .z, .b, .b, .b, .b, .z, .b, .b, .b, .b, .b, .z, .z], [.b, .b, .b, .b, .b, .b, .b, .b, .b, .b, .b, .z, .z, .b, .b, .z, .b, .b, .b, .b, .b, .z, .z], [.b, .b, .b, .b, .b, .b, .b, .b, .b, .b, .b, .a, .z, .b, .b, .z, .b, .b, .b, .b, .b, .z, .z], [.b, .b, .b, .b, .b, .b, .b, .b, .b, .b, .b, .b, .b, .z, .z, .z, .b, .b, .b, .b, .b, .z, .z], [.b, .b, .b, .b, .b, .b, .b, .b, .b, .b, .b, .b, .b, .a, .z, .z, .b, .b, .b, .b, .b, .z, .z], [.a, .a, .a, .a, .a, .a, .a, .a, .a, .a, .a, .a, .a, .a, .a, .z, .b, .b, .b, .b, .b, .z, .z], [.b, .b, .b, .b, .b, .b, .b, .b, .b, .b, .b, .b, .b, .b, .b, .b, .z, .b, .b, .b, .b, .z, .z], [.b, .b, .b, .b, .b, .b, .b, .b, .b, .b, .b, .b, .b, .b, .b, .b, .b, .z, .z, .b, .b, .z, .z], [.b, .b, .b, .b, .b, .b, .b, .b, .b, .b, .b, .b, .b, .b, .b, .b, .b, .a, .z, .b, .b, .z, .z], [.b, .b, .b, .b, .b, .b, .b, .b, .b, .b, .b, .b, .b, .b, .b, .b, .b, .b, .b, .z, .z, .z, .z], [.b, .b, .b, .b, .b, .b, .b, .b, .b, .b, .b, .b, .b, .b, .b, .b, .b, .b, .b, .a, .z, .z, .z], [.a, .a, .a, .a, .a, .a, .a, .a, .a, .a, .a, .a, .a, .a, .a, .a, .a, .a, .a, .a, .a, .z, .z], [.a, .a, .a, .a, .a, .a, .a, .a, .a, .a, .a, .a, .a, .a, .a, .a, .a, .a, .a, .a, .a, .a, .z]] (mb 28 16) [32] (s1 := ⟨bt 4 (.pt 32 0 :: bt 23 []), [(32, .box [Ti y3, Ti y4, Ti y5])]⟩) (by kernel_rfl) (by kernel_rfl) ?_ ?_
  ·refine DE_0 0 (.ag [Ti f1.1, Ti f1.2.1, Ti f1.2.2]) (by kernel_rfl) rfl rfl rfl (gsat_none rfl) (by kernel_rfl) (E_loadn (cs := [Ti f1.1, Ti f1.2.1, Ti f1.2.2]) [Ti f1.1, Ti f1.2.1, Ti f1.2.2] wd45 rfl (by kernel_rfl) (Nat.le_of_ble_eq_true rfl) (by kernel_rfl)) 5 rfl ?_
   refine DE_0 1 (.pt 24 0) (by kernel_rfl) rfl rfl rfl (gsat_none rfl) (by kernel_rfl) (E_field (.pt 24 0) Try.underlying110 rfl sz3 rfl (by kernel_rfl) (by intro hh; cases hh)) 6 rfl ?_
   refine DE_0 2 (I vm2.1) (by kernel_rfl) rfl rfl rfl (gsat_none rfl) (by kernel_rfl) (Y0_load1 (c := Ti vm2.1) (cs := [Ti vm2.2.1, Ti vm2.2.2.1, Ti vm2.2.2.2]) sc3 rfl (by kernel_rfl)) 7 rfl ?_
   refine DE_0 3 (.pt 24 2) (by kernel_rfl) rfl rfl rfl (gsat_none rfl) (by kernel_rfl) (E_field (.pt 24 2) Try.underlying110 rfl sz3 rfl (by kernel_rfl) (by intro hh; cases hh)) 8 rfl ?_
   refine DE_0 4 (I vm2.2.2.1) (by kernel_rfl) rfl rfl rfl (gsat_none rfl) (by kernel_rfl) (Y0_load1 (c := Ti vm2.2.2.1) (cs := [Ti vm2.2.2.2]) sc3 rfl (by kernel_rfl)) 9 rfl ?_
   refine DE_1 5 (by kernel_rfl) rfl rfl rfl (gsat_none rfl) (Y1_call (s_impl_Form_at hy3) cf_impl_Form_at rfl (by kernel_rfl)) rfl rfl rfl 10 rfl ?_
   refine DE_0 6 (.ag [Ti f1.1, Ti f1.2.1, Ti f1.2.2]) (by kernel_rfl) rfl rfl rfl (gsat_none rfl) (by kernel_rfl) (E_loadn (cs := [Ti f1.1, Ti f1.2.1, Ti f1.2.2]) [Ti f1.1, Ti f1.2.1, Ti f1.2.2] wd45 rfl (by kernel_rfl) (Nat.le_of_ble_eq_true rfl) (by kernel_rfl)) 11 rfl ?_
   refine DE_0 7 (.pt 24 0) (by kernel_rfl) rfl rfl rfl (gsat_none rfl) (by kernel_rfl) (E_field (.pt 24 0) Try.underlying110 rfl sz3 rfl (by kernel_rfl) (by intro hh; cases hh)) 12 rfl ?_
   refine DE_0 8 (I vm2.1) (by kernel_rfl) rfl rfl rfl (gsat_none rfl) (by kernel_rfl) (Y0_load1 (c := Ti vm2.1) (cs := [Ti vm2.2.1, Ti vm2.2.2.1, Ti vm2.2.2.2]) sc3 rfl (by kernel_rfl)) 13 rfl ?_
   refine DE_0 9 (.pt 24 2) (by kernel_rfl) rfl rfl rfl (gsat_none rfl) (by kernel_rfl) (E_field (.pt 24 2) Try.underlying110 rfl sz3 rfl (by kernel_rfl) (by intro hh; cases hh)) 14 rfl ?_
   refine DE_0 10 (I vm2.2.2.1) (by kernel_rfl) rfl rfl rfl (gsat_none rfl) (by kernel_rfl) (Y0_load1 (c := Ti vm2.2.2.1) (cs := [Ti vm2.2.2.2]) sc3 rfl (by kernel_rfl)) 15 rfl ?_
   refine DE_0 11 (.pt 24 1) (by kernel_rfl) rfl rfl rfl (gsat_none rfl) (by kernel_rfl) (E_field (.pt 24 1) Try.underlying110 rfl sz3 rfl (by kernel_rfl) (by intro hh; cases hh)) 16 rfl ?_
   refine DE_0 12 (I vm2.2.1) (by kernel_rfl) rfl rfl rfl (gsat_none rfl) (by kernel_rfl) (Y0_load1 (c := Ti vm2.2.1) (cs := [Ti vm2.2.2.1, Ti vm2.2.2.2]) sc3 rfl (by kernel_rfl)) 17 rfl ?_
   refine DE_0 13 (.pt 24 3) (by kernel_rfl) rfl rfl rfl (gsat_none rfl) (by kernel_rfl) (E_field (.pt 24 3) Try.underlying110 rfl sz3 rfl (by kernel_rfl) (by intro hh; cases hh)) 18 rfl ?_
   refine DE_0 14 (I vm2.2.2.2) (by kernel_rfl) rfl rfl rfl (gsat_none rfl) (by kernel_rfl) (Y0_load1 (c := Ti vm2.2.2.2) (cs := []) sc3 rfl (by kernel_rfl)) 19 rfl ?_
   refine DE_1 15 (by kernel_rfl) rfl rfl rfl (gsat_none rfl) (Y1_call (s_impl_Form_polar hy4) cf_impl_Form_polar rfl (by kernel_rfl)) rfl rfl rfl 20 rfl ?_
   refine DE_0 16 (.ag [Ti f1.1, Ti f1.2.1, Ti f1.2.2]) (by kernel_rfl) rfl rfl rfl (gsat_none rfl) (by kernel_rfl) (E_loadn (cs := [Ti f1.1, Ti f1.2.1, Ti f1.2.2]) [Ti f1.1, Ti f1.2.1, Ti f1.2.2] wd45 rfl (by kernel_rfl) (Nat.le_of_ble_eq_true rfl) (by kernel_rfl)) 21 rfl ?_
   refine DE_0 17 (.pt 24 1) (by kernel_rfl) rfl rfl rfl (gsat_none rfl) (by kernel_rfl) (E_field (.pt 24 1) Try.underlying110 rfl sz3 rfl (by kernel_rfl) (by intro hh; cases hh)) 22 rfl ?_
   refine DE_0 18 (I vm2.2.1) (by kernel_rfl) rfl rfl rfl (gsat_none rfl) (by kernel_rfl) (Y0_load1 (c := Ti vm2.2.1) (cs := [Ti vm2.2.2.1, Ti vm2.2.2.2]) sc3 rfl (by kernel_rfl)) 23 rfl ?_
   refine DE_0 19 (.pt 24 3) (by kernel_rfl) rfl rfl rfl (gsat_none rfl) (by kernel_rfl) (E_field (.pt 24 3) Try.underlying110 rfl sz3 rfl (by kernel_rfl) (by intro hh; cases hh)) 24 rfl ?_
   refine DE_0 20 (I vm2.2.2.2) (by kernel_rfl) rfl rfl rfl (gsat_none rfl) (by kernel_rfl) (Y0_load1 (c := Ti vm2.2.2.2) (cs := []) sc3 rfl (by kernel_rfl)) 25 rfl ?_
   refine DE_1 21 (by kernel_rfl) rfl rfl rfl (gsat_none rfl) (Y1_call (s_impl_Form_at hy5) cf_impl_Form_at rfl (by kernel_rfl)) rfl rfl rfl 26 rfl ?_
   refine DE_0 22 (.ag [Ti y3, Ti y4, Ti y5]) (by kernel_rfl) rfl rfl rfl (gsat_none rfl) (by kernel_rfl) (Y0_build (cs := [Ti y3, Ti y4, Ti y5]) pl45 bt45 rfl rfl (by kernel_rfl)) 27 rfl ?_
   refine DL_nil (by kernel_rfl) ?_
   refine XL_cons rfl (E_store (id := 32) (off := 0) (cs := [Ti 0, Ti 0, Ti 0]) (vc := [Ti y3, Ti y4, Ti y5]) [Ti y3, Ti y4, Ti y5] rfl rfl (by kernel_rfl) (by kernel_rfl) (by kernel_rfl) sz45 (Nat.le_of_ble_eq_true rfl) (by kernel_rfl)) ?_
   refine XL_nil ?_
   kernel_rfl
  refine V_ret ?_
  obtain rfl := some_inj h
  show Post _ _ _ _ _
  exact ⟨.inr rfl, rfl, rfl, rfl⟩
theorem cf_impl_Matrix_times : ∀ args w, (callFunc 169 args).run Try.prog w = .ok (.enter 169 args) w := run_callFunc Try.func169 (by kernel_rfl) (by kernel_rfl)
set_option maxRecDepth 100000 in
set_option maxHeartbeats 400000 in
theorem s_impl_Matrix_times {vm1 : (Int × Int × Int × Int)} {vn2 : (Int × Int × Int × Int)} {r : (Int × Int × Int × Int)} (h : r_impl_Matrix_times vm1 vn2 = some r) : CallS Try.prog 169 [.ag [Ti vm1.1, Ti vm1.2.1, Ti vm1.2.2.1, Ti vm1.2.2.2], .ag [Ti vn2.1, Ti vn2.2.1, Ti vn2.2.2.1, Ti vn2.2.2.2]] (.ag [Ti r.1, Ti r.2.1, Ti r.2.2.1, Ti r.2.2.2]) [] := by
  refine CallS_of_text (rs := [.w 4 4]) (vs := [.cell 4 110]) Try.func169 rfl rfl (.cons ⟨rfl, wd110⟩ FitsL.nil) (by decide) 50 rfl ?_
  unfold r_impl_Matrix_times at h
  show V _ _ ⟨.ag [Ti vm1.1, Ti vm1.2.1, Ti vm1.2.2.1, Ti vm1.2.2.2] :: .ag [Ti vn2.1, Ti vn2.2.1, Ti vn2.2.2.1, Ti vn2.2.2.2] :: bt 48 [], []⟩ _
  refine V_sreg (mb 50 28) [32, 24, 16] (s1 := ⟨.bot :: .bot :: .pt 16 0 :: .pt 24 0 :: .pt 32 0 :: bt 45 [], [(32, .box [Ti 0, Ti 0, Ti 0, Ti 0]), (24, .box [Ti vn2.1, Ti vn2.2.1, Ti vn2.2.2.1, Ti vn2.2.2.2]), (16, .box [Ti vm1.1, Ti vm1.2.1, Ti vm1.2.2.1, Ti vm1.2.2.2])]⟩) ?_ ?_
  ·refine L1 rfl rfl (Y1_box (cs := [Ti vm1.1, Ti vm1.2.1, Ti vm1.2.2.1, Ti vm1.2.2.2]) rfl (by kernel_rfl)) ?_
   refine L1 rfl rfl (Y1_box (cs := [Ti vn2.1, Ti vn2.2.1, Ti vn2.2.2.1, Ti vn2.2.2.2]) rfl (by kernel_rfl)) ?_
   refine L1 rfl rfl (Y1_alloc (z := zv110) rfl zf110 rfl) ?_
   refine XL_nil ?_
   kernel_rfl
  obtain ⟨f3, hf3, h⟩ := of_sI h
  obtain ⟨f4, hf4, h⟩ := of_sI h
  obtain ⟨f5, hf5, h⟩ := of_sI h
  obtain ⟨f6, hf6, h⟩ := of_sI h
  refine V_sreg (mb 50 16) [32] (s1 := ⟨bt 4 (.pt 32 0 :: bt 45 []), [(32, .box [Ti f3, Ti f4, Ti f5, Ti f6])]⟩) ?_ ?_
  ·refine L0 rfl rfl (E_field (.pt 16 0) Try.underlying110 rfl sz3 rfl (by kernel_rfl) (by intro hh; cases hh)) ?_
   refine L0 rfl rfl (Y0_load1 (c := Ti vm1.1) (cs := [Ti vm1.2.1, Ti vm1.2.2.1, Ti vm1.2.2.2]) sc3 rfl (by kernel_rfl)) ?_
   refine L0 rfl rfl (E_field (.pt 24 0) Try.underlying110 rfl sz3 rfl (by kernel_rfl) (by intro hh; cases hh)) ?_
   refine L0 rfl rfl (Y0_load1 (c := Ti vn2.1) (cs := [Ti vn2.2.1, Ti vn2.2.2.1, Ti vn2.2.2.2]) sc3 rfl (by kernel_rfl)) ?_
   refine L0 rfl rfl (Y0_mul64 (a := vm1.1) (b := vn2.1) rfl (by kernel_rfl) (by kernel_rfl)) ?_
   refine L0 rfl rfl (E_field (.pt 16 1) Try.underlying110 rfl sz3 rfl (by kernel_rfl) (by intro hh; cases hh)) ?_
   refine L0 rfl rfl (Y0_load1 (c := Ti vm1.2.1) (cs := [Ti vm1.2.2.1, Ti vm1.2.2.2]) sc3 rfl (by kernel_rfl)) ?_
   refine L0 rfl rfl (E_field (.pt 24 2) Try.underlying110 rfl sz3 rfl (by kernel_rfl) (by intro hh; cases hh)) ?_
   refine L0 rfl rfl (Y0_load1 (c := Ti vn2.2.2.1) (cs := [Ti vn2.2.2.2]) sc3 rfl (by kernel_rfl)) ?_
   refine L0 rfl rfl (Y0_mul64 (a := vm1.2.1) (b := vn2.2.2.1) rfl (by kernel_rfl) (by kernel_rfl)) ?_
   refine L0 rfl rfl (Y0_add64 (a := w64 (vm1.1 * vn2.1)) (b := w64 (vm1.2.1 * vn2.2.2.1)) rfl (by kernel_rfl) (by kernel_rfl)) ?_
   refine L0 rfl rfl (E_field (.pt 16 0) Try.underlying110 rfl sz3 rfl (by kernel_rfl) (by intro hh; cases hh)) ?_
   refine L0 rfl rfl (Y0_load1 (c := Ti vm1.1) (cs := [Ti vm1.2.1, Ti vm1.2.2.1, Ti vm1.2.2.2]) sc3 rfl (by kernel_rfl)) ?_
   refine L0 rfl rfl (E_field (.pt 24 1) Try.underlying110 rfl sz3 rfl (by kernel_rfl) (by intro hh; cases hh)) ?_
   refine L0 rfl rfl (Y0_load1 (c := Ti vn2.2.1) (cs := [Ti vn2.2.2.1, Ti vn2.2.2.2]) sc3 rfl (by kernel_rfl)) ?_
   refine L0 rfl rfl (Y0_mul64 (a := vm1.1) (b := vn2.2.1) rfl (by kernel_rfl) (by kernel_rfl)) ?_
   refine L0 rfl rfl (E_field (.pt 16 1) Try.underlying110 rfl sz3 rfl (by kernel_rfl) (by intro hh; cases hh)) ?_
   refine L0 rfl rfl (Y0_load1 (c := Ti vm1.2.1) (cs := [Ti vm1.2.2.1, Ti vm1.2.2.2]) sc3 rfl (by kernel_rfl)) ?_
   refine L0 rfl rfl (E_field (.pt 24 3) Try.underlying110 rfl sz3 rfl (by kernel_rfl) (by intro hh; cases hh)) ?_
   refine L0 rfl rfl (Y0_load1 (c := Ti vn2.2.2.2) (cs := []) sc3 rfl (by kernel_rfl)) ?_
   refine L0 rfl rfl (Y0_mul64 (a := vm1.2.1) (b := vn2.2.2.2) rfl (by kernel_rfl) (by kernel_rfl)) ?_
   refine L0 rfl rfl (Y0_add64 (a := w64 (vm1.1 * vn2.2.1)) (b := w64 (vm1.2.1 * vn2.2.2.2)) rfl (by kernel_rfl) (by kernel_rfl)) ?_
   refine L0 rfl rfl (E_field (.pt 16 2) Try.underlying110 rfl sz3 rfl (by kernel_rfl) (by intro hh; cases hh)) ?_
   refine L0 rfl rfl (Y0_load1 (c := Ti vm1.2.2.1) (cs := [Ti vm1.2.2.2]) sc3 rfl (by kernel_rfl)) ?_
   refine L0 rfl rfl (E_field (.pt 24 0) Try.underlying110 rfl sz3 rfl (by kernel_rfl) (by intro hh; cases hh)) ?_
   refine L0 rfl rfl (Y0_load1 (c := Ti vn2.1) (cs := [Ti vn2.2.1, Ti vn2.2.2.1, Ti vn2.2.2.2]) sc3 rfl (by kernel_rfl)) ?_
   refine L0 rfl rfl (Y0_mul64 (a := vm1.2.2.1) (b := vn2.1) rfl (by kernel_rfl) (by kernel_rfl)) ?_
   refine L0 rfl rfl (E_field (.pt 16 3) Try.underlying110 rfl sz3 rfl (by kernel_rfl) (by intro hh; cases hh)) ?_
   refine L0 rfl rfl (Y0_load1 (c := Ti vm1.2.2.2) (cs := []) sc3 rfl (by kernel_rfl)) ?_
   refine L0 rfl rfl (E_field (.pt 24 2) Try.underlying110 rfl sz3 rfl (by kernel_rfl) (by intro hh; cases hh)) ?_
   refine L0 rfl rfl (Y0_load1 (c := Ti vn2.2.2.1) (cs := [Ti vn2.2.2.2]) sc3 rfl (by kernel_rfl)) ?_
   refine L0 rfl rfl (Y0_mul64 (a := vm1.2.2.2) (b := vn2.2.2.1) rfl (by kernel_rfl) (by kernel_rfl)) ?_
   refine L0 rfl rfl (Y0_add64 (a := w64 (vm1.2.2.1 * vn2.1)) (b := w64 (vm1.2.2.2 * vn2.2.2.1)) rfl (by kernel_rfl) (by kernel_rfl)) ?_
   refine L0 rfl rfl (E_field (.pt 16 2) Try.underlying110 rfl sz3 rfl (by kernel_rfl) (by intro hh; cases hh)) ?_
   refine L0 rfl rfl (Y0_load1 (c := Ti vm1.2.2.1) (cs := [Ti vm1.2.2.2]) sc3 rfl (by kernel_rfl)) ?_
   refine L0 rfl rfl (E_field (.pt 24 1) Try.underlying110 rfl sz3 rfl (by kernel_rfl) (by intro hh; cases hh)) ?_
   refine L0 rfl rfl (Y0_load1 (c := Ti vn2.2.1) (cs := [Ti vn2.2.2.1, Ti vn2.2.2.2]) sc3 rfl (by kernel_rfl)) ?_
   refine L0 rfl rfl (Y0_mul64 (a := vm1.2.2.1) (b := vn2.2.1) rfl (by kernel_rfl) (by kernel_rfl)) ?_
   refine L0 rfl rfl (E_field (.pt 16 3) Try.underlying110 rfl sz3 rfl (by kernel_rfl) (by intro hh; cases hh)) ?_
   refine L0 rfl rfl (Y0_load1 (c := Ti vm1.2.2.2) (cs := []) sc3 rfl (by kernel_rfl)) ?_
   refine L0 rfl rfl (E_field (.pt 24 3) Try.underlying110 rfl sz3 rfl (by kernel_rfl) (by intro hh; cases hh)) ?_
   refine L0 rfl rfl (Y0_load1 (c := Ti vn2.2.2.2) (cs := []) sc3 rfl (by kernel_rfl)) ?_
   refine L0 rfl rfl (Y0_mul64 (a := vm1.2.2.2) (b := vn2.2.2.2) rfl (by kernel_rfl) (by kernel_rfl)) ?_
   refine L0 rfl rfl (Y0_add64 (a := w64 (vm1.2.2.1 * vn2.2.1)) (b := w64 (vm1.2.2.2 * vn2.2.2.2)) rfl (by kernel_rfl) (by kernel_rfl)) ?_
   refine L0 rfl rfl (Y0_build (cs := [Ti (w64 ((w64 (vm1.1 * vn2.1)) + (w64 (vm1.2.1 * vn2.2.2.1)))), Ti (w64 ((w64 (vm1.1 * vn2.2.1)) + (w64 (vm1.2.1 * vn2.2.2.2)))), Ti (w64 ((w64 (vm1.2.2.1 * vn2.1)) + (w64 (vm1.2.2.2 * vn2.2.2.1)))), Ti (w64 ((w64 (vm1.2.2.1 * vn2.2.1)) + (w64 (vm1.2.2.2 * vn2.2.2.2))))]) pl110 bt110 rfl rfl (by kernel_rfl)) ?_
   refine XL_cons rfl (E_store (id := 32) (off := 0) (cs := [Ti 0, Ti 0, Ti 0, Ti 0]) (vc := [Ti (w64 ((w64 (vm1.1 * vn2.1)) + (w64 (vm1.2.1 * vn2.2.2.1)))), Ti (w64 ((w64 (vm1.1 * vn2.2.1)) + (w64 (vm1.2.1 * vn2.2.2.2)))), Ti (w64 ((w64 (vm1.2.2.1 * vn2.1)) + (w64 (vm1.2.2.2 * vn2.2.2.1)))), Ti (w64 ((w64 (vm1.2.2.1 * vn2.2.1)) + (w64 (vm1.2.2.2 * vn2.2.2.2))))]) [Ti (w64 ((w64 (vm1.1 * vn2.1)) + (w64 (vm1.2.1 * vn2.2.2.1)))), Ti (w64 ((w64 (vm1.1 * vn2.2.1)) + (w64 (vm1.2.1 * vn2.2.2.2)))), Ti (w64 ((w64 (vm1.2.2.1 * vn2.1)) + (w64 (vm1.2.2.2 * vn2.2.2.1)))), Ti (w64 ((w64 (vm1.2.2.1 * vn2.2.1)) + (w64 (vm1.2.2.2 * vn2.2.2.2))))] rfl rfl (by kernel_rfl) (by kernel_rfl) (by kernel_rfl) sz110 (Nat.le_of_ble_eq_true rfl) (by kernel_rfl)) ?_
   refine XL_nil ?_
   subst hf3 hf4 hf5 hf6
   kernel_rfl
  refine V_ret ?_
  obtain rfl := some_inj h
  show Post _ _ _ _ _
  exact ⟨.inr rfl, rfl, rfl, rfl⟩
theorem cf_impl_reduce : ∀ args w, (callFunc 167 args).run Try.prog w = .ok (.enter 167 args) w := run_callFunc Try.func167 (by kernel_rfl) (by kernel_rfl)
set_option maxRecDepth 100000 in
set_option maxHeartbeats 400000 in
theorem s_impl_reduce {f1 : (Int × Int × Int)} {r : (((Int × Int × Int)) × ((Int × Int × Int × Int)))} (h : r_impl_reduce f1 = some r) : CallS Try.prog 167 [.ag [Ti f1.1, Ti f1.2.1, Ti f1.2.2]] (.tc (.ag [Ti r.1.1, Ti r.1.2.1, Ti r.1.2.2]) (.tc (.ag [Ti r.2.1, Ti r.2.2.1, Ti r.2.2.2.1, Ti r.2.2.2.2]) .tn)) [] := by
  refine CallS_of_text (rs := [.w 2 3, .w 3 4]) (vs := [.cell 2 45, .cell 3 110]) Try.func167 rfl rfl (.cons ⟨rfl, wd45⟩ (.cons ⟨rfl, wd110⟩ FitsL.nil)) (by decide) 20 rfl ?_
  unfold r_impl_reduce at h
  show V _ _ ⟨.ag [Ti f1.1, Ti f1.2.1, Ti f1.2.2] :: bt 19 [], []⟩ _
  refine V_sreg (mb 20 14) [24, 16, 8] (s1 := ⟨.bot :: .pt 8 0 :: .pt 16 0 :: .pt 24 0 :: bt 16 [], [(24, .box [Ti 0, Ti 0, Ti 0, Ti 0]), (16, .box [Ti 0, Ti 0, Ti 0]), (8, .box [Ti f1.1, Ti f1.2.1, Ti f1.2.2])]⟩) ?_ ?_
  ·refine L1 rfl rfl (Y1_box (cs := [Ti f1.1, Ti f1.2.1, Ti f1.2.2]) rfl (by kernel_rfl)) ?_
   refine L1 rfl rfl (Y1_alloc (z := zv45) rfl zf45 rfl) ?_
   refine L1 rfl rfl (Y1_alloc (z := zv110) rfl zf110 rfl) ?_
   refine XL_nil ?_
   kernel_rfl
  obtain ⟨y2, hy2, h⟩ := of_bind h
  refine V_sreg (mb 20 30) [32, 24, 16, 8] (s1 := ⟨.bot :: .pt 8 0 :: .pt 16 0 :: .pt 24 0 :: .pt 32 0 :: bt 15 [], [(32, .box [Ti y2.1, Ti y2.2.1, Ti y2.2.2.1, Ti y2.2.2.2]), (24, .box [Ti 0, Ti 0, Ti 0, Ti 0]), (16, .box [Ti 0, Ti 0, Ti 0]), (8, .box [Ti f1.1, Ti f1.2.1, Ti f1.2.2])]⟩) ?_ ?_
  ·refine L1 rfl rfl (Y1_call (s_impl_one hy2) cf_impl_one rfl (by kernel_rfl)) ?_
   refine L1 rfl rfl (Y1_alloc (z := zv110) rfl zf110 rfl) ?_
   refine XL_cons rfl (E_store (id := 32) (off := 0) (cs := [Ti 0, Ti 0, Ti 0, Ti 0]) (vc := [Ti y2.1, Ti y2.2.1, Ti y2.2.2.1, Ti y2.2.2.2]) [Ti y2.1, Ti y2.2.1, Ti y2.2.2.1, Ti y2.2.2.2] rfl rfl (by kernel_rfl) (by kernel_rfl) (by kernel_rfl) sz110 (Nat.le_of_ble_eq_true rfl) (by kernel_rfl)) ?_
   refine XL_nil ?_
   kernel_rfl
  refine V_seq ?_
  obtain ⟨o11, hLo11, h⟩ := of_bind h
  refine V_toK (mb 20 30) [32, 24, 16, 8] (s1 := ⟨.bot :: .pt 8 0 :: .pt 16 0 :: .pt 24 0 :: .pt 32 0 :: bt 15 [], [(32, .box [Ti o11.1, Ti o11.2.1, Ti o11.2.2.1, Ti o11.2.2.2.1]), (24, .box [Ti 0, Ti 0, Ti 0, Ti 0]), (16, .box [Ti 0, Ti 0, Ti 0]), (8, .box [Ti o11.2.2.2.2.1, Ti o11.2.2.2.2.2.1, Ti o11.2.2.2.2.2.2])]⟩) ?_ ?_
  ·clear h
   refine V_block (V_loop (fun n s => ∃ (f3 : Int) (f4 : Int) (f5 : Int) (f6 : Int) (f7 : Int) (f8 : Int) (f9 : Int), s.keep (mb 20 30) [32, 24, 16, 8] = (⟨.bot :: .pt 8 0 :: .pt 16 0 :: .pt 24 0 :: .pt 32 0 :: bt 15 [], [(32, .box [Ti f3, Ti f4, Ti f5, Ti f6]), (24, .box [Ti 0, Ti 0, Ti 0, Ti 0]), (16, .box [Ti 0, Ti 0, Ti 0]), (8, .box [Ti f7, Ti f8, Ti f9])]⟩ : St) ∧ r_impl_reduce_L10 n f3 f4 f5 f6 f7 f8 f9 = some o11) FU ⟨_, _, _, _, _, _, _,  by rfl, hLo11⟩ ?_)
   clear hLo11
   rintro n s ⟨f3, f4, f5, f6, f7, f8, f9, hs, h⟩
   refine V_keep _ _ hs ?_
   clear hs
   cases n with
   | zero => cases h
   | succ n =>
    rw [r_impl_reduce_L10] at h
    refine V_seq ?_
    obtain ⟨y12, hy12, h⟩ := of_bind h
    refine V_sreg (mb 20 542) [32, 24, 16, 8] (s1 := ⟨.bot :: .pt 8 0 :: .pt 16 0 :: .pt 24 0 :: .pt 32 0 :: bt 4 (Bo (!y12) :: bt 10 []), [(32, .box [Ti f3, Ti f4, Ti f5, Ti f6]), (24, .box [Ti 0, Ti 0, Ti 0, Ti 0]), (16, .box [Ti 0, Ti 0, Ti 0]), (8, .box [Ti f7, Ti f8, Ti f9])]⟩) ?_ ?_
    ·refine L0 rfl rfl (E_loadn (cs := [Ti f7, Ti f8, Ti f9]) [Ti f7, Ti f8, Ti f9] wd45 rfl (by kernel_rfl) (Nat.le_of_ble_eq_true rfl) (by kernel_rfl)) ?_
     refine L1 rfl rfl (Y1_call (s_impl_Form_isReduced hy12) cf_impl_Form_isReduced rfl (by kernel_rfl)) ?_
     refine L0 rfl rfl (Y0_not (b := y12) rfl (by kernel_rfl)) ?_
     refine XL_nil ?_
     kernel_rfl
    refine V_cond rfl (fun hc13 => ?_) (fun hc13 => ?_)
    ·have h := of_true h hc13
     refine V_skip ?_
     show V _ _ _ _
     refine V_block ?_
     obtain ⟨y14, hy14, h⟩ := of_bind h
     refine V_sreg (mb 20 62) [40, 32, 24, 16, 8] (s1 := ⟨.bot :: .pt 8 0 :: .pt 16 0 :: .pt 24 0 :: .pt 32 0 :: .pt 40 0 :: bt 14 [], [(40, .box [Ti y14.1, Ti y14.2.1, Ti y14.2.2.1, Ti y14.2.2.2]), (32, .box [Ti f3, Ti f4, Ti f5, Ti f6]), (24, .box [Ti 0, Ti 0, Ti 0, Ti 0]), (16, .box [Ti 0, Ti 0, Ti 0]), (8, .box [Ti f7, Ti f8, Ti f9])]⟩) ?_ ?_
     ·refine L0 rfl rfl (E_loadn (cs := [Ti f7, Ti f8, Ti f9]) [Ti f7, Ti f8, Ti f9] wd45 rfl (by kernel_rfl) (Nat.le_of_ble_eq_true rfl) (by kernel_rfl)) ?_
      refine L1 rfl rfl (Y1_call (s_impl_Form_step hy14) cf_impl_Form_step rfl (by kernel_rfl)) ?_
      refine L1 rfl rfl (Y1_alloc (z := zv110) rfl zf110 rfl) ?_
      refine XL_cons rfl (E_store (id := 40) (off := 0) (cs := [Ti 0, Ti 0, Ti 0, Ti 0]) (vc := [Ti y14.1, Ti y14.2.1, Ti y14.2.2.1, Ti y14.2.2.2]) [Ti y14.1, Ti y14.2.1, Ti y14.2.2.1, Ti y14.2.2.2] rfl rfl (by kernel_rfl) (by kernel_rfl) (by kernel_rfl) sz110 (Nat.le_of_ble_eq_true rfl) (by kernel_rfl)) ?_
      refine XL_nil ?_
      kernel_rfl
     obtain ⟨y15, hy15, h⟩ := of_bind h
     refine V_sreg (mb 20 62) [40, 32, 24, 16, 8] (s1 := ⟨.bot :: .pt 8 0 :: .pt 16 0 :: .pt 24 0 :: .pt 32 0 :: .pt 40 0 :: bt 14 [], [(40, .box [Ti y14.1, Ti y14.2.1, Ti y14.2.2.1, Ti y14.2.2.2]), (32, .box [Ti f3, Ti f4, Ti f5, Ti f6]), (24, .box [Ti 0, Ti 0, Ti 0, Ti 0]), (16, .box [Ti 0, Ti 0, Ti 0]), (8, .box [Ti y15.1, Ti y15.2.1, Ti y15.2.2])]⟩) ?_ ?_
     ·refine L0 rfl rfl (E_loadn (cs := [Ti f7, Ti f8, Ti f9]) [Ti f7, Ti f8, Ti f9] wd45 rfl (by kernel_rfl) (Nat.le_of_ble_eq_true rfl) (by kernel_rfl)) ?_
      refine L0 rfl rfl (E_loadn (cs := [Ti y14.1, Ti y14.2.1, Ti y14.2.2.1, Ti y14.2.2.2]) [Ti y14.1, Ti y14.2.1, Ti y14.2.2.1, Ti y14.2.2.2] wd110 rfl (by kernel_rfl) (Nat.le_of_ble_eq_true rfl) (by kernel_rfl)) ?_
      refine L1 rfl rfl (Y1_call (s_impl_Form_substitute hy15) cf_impl_Form_substitute rfl (by kernel_rfl)) ?_
      refine XL_cons rfl (E_store (id := 8) (off := 0) (cs := [Ti f7, Ti f8, Ti f9]) (vc := [Ti y15.1, Ti y15.2.1, Ti y15.2.2]) [Ti y15.1, Ti y15.2.1, Ti y15.2.2] rfl rfl (by kernel_rfl) (by kernel_rfl) (by kernel_rfl) sz45 (Nat.le_of_ble_eq_true rfl) (by kernel_rfl)) ?_
      refine XL_nil ?_
      kernel_rfl
     obtain ⟨y16, hy16, h⟩ := of_bind h
     refine V_reg (mb 20 30) [32, 24, 16, 8] (s1 := ⟨.bot :: .pt 8 0 :: .pt 16 0 :: .pt 24 0 :: .pt 32 0 :: bt 15 [], [(32, .box [Ti y16.1, Ti y16.2.1, Ti y16.2.2.1, Ti y16.2.2.2]), (24, .box [Ti 0, Ti 0, Ti 0, Ti 0]), (16, .box [Ti 0, Ti 0, Ti 0]), (8, .box [Ti y15.1, Ti y15.2.1, Ti y15.2.2])]⟩) ?_ ?_
     ·refine L0 rfl rfl (E_loadn (cs := [Ti f3, Ti f4, Ti f5, Ti f6]) [Ti f3, Ti f4, Ti f5, Ti f6] wd110 rfl (by kernel_rfl) (Nat.le_of_ble_eq_true rfl) (by kernel_rfl)) ?_
      refine L0 rfl rfl (E_loadn (cs := [Ti y14.1, Ti y14.2.1, Ti y14.2.2.1, Ti y14.2.2.2]) [Ti y14.1, Ti y14.2.1, Ti y14.2.2.1, Ti y14.2.2.2] wd110 rfl (by kernel_rfl) (Nat.le_of_ble_eq_true rfl) (by kernel_rfl)) ?_
      refine L1 rfl rfl (Y1_call (s_impl_Matrix_times hy16) cf_impl_Matrix_times rfl (by kernel_rfl)) ?_
      refine XL_cons rfl (E_store (id := 32) (off := 0) (cs := [Ti f3, Ti f4, Ti f5, Ti f6]) (vc := [Ti y16.1, Ti y16.2.1, Ti y16.2.2.1, Ti y16.2.2.2]) [Ti y16.1, Ti y16.2.1, Ti y16.2.2.1, Ti y16.2.2.2] rfl rfl (by kernel_rfl) (by kernel_rfl) (by kernel_rfl) sz110 (Nat.le_of_ble_eq_true rfl) (by kernel_rfl)) ?_
      refine XL_nil ?_
      kernel_rfl
     exact ⟨n, Nat.lt_succ_self n, _, _, _, _, _, _, _,  by rfl, h⟩
    ·have h := of_false h hc13
     refine V_exit ?_
     obtain rfl := some_inj h
     show St.keep _ _ _ = _
     rfl
  show V _ _ _ _
  refine V_sdreg [0, 0, 1, 7] 3 [[.z, .b, .z], [.b, .z, .r 16], [.a, .b, .z]] (mb 20 12) [24, 16] (s1 := ⟨.bot :: .bot :: .pt 16 0 :: .pt 24 0 :: bt 16 [], [(24, .box [Ti o11.1, Ti o11.2.1, Ti o11.2.2.1, Ti o11.2.2.2.1]), (16, .box [Ti o11.2.2.2.2.1, Ti o11.2.2.2.2.2.1, Ti o11.2.2.2.2.2.2])]⟩) (by kernel_rfl) (by kernel_rfl) ?_ ?_
  ·refine DE_0 0 (.ag [Ti o11.2.2.2.2.1, Ti o11.2.2.2.2.2.1, Ti o11.2.2.2.2.2.2]) (by kernel_rfl) rfl rfl rfl (gsat_none rfl) (by kernel_rfl) (E_loadn (cs := [Ti o11.2.2.2.2.1, Ti o11.2.2.2.2.2.1, Ti o11.2.2.2.2.2.2]) [Ti o11.2.2.2.2.1, Ti o11.2.2.2.2.2.1, Ti o11.2.2.2.2.2.2] wd45 rfl (by kernel_rfl) (Nat.le_of_ble_eq_true rfl) (by kernel_rfl)) 18 rfl ?_
   refine DE_0 1 (.ag [Ti o11.1, Ti o11.2.1, Ti o11.2.2.1, Ti o11.2.2.2.1]) (by kernel_rfl) rfl rfl rfl (gsat_none rfl) (by kernel_rfl) (E_loadn (cs := [Ti o11.1, Ti o11.2.1, Ti o11.2.2.1, Ti o11.2.2.2.1]) [Ti o11.1, Ti o11.2.1, Ti o11.2.2.1, Ti o11.2.2.2.1] wd110 rfl (by kernel_rfl) (Nat.le_of_ble_eq_true rfl) (by kernel_rfl)) 19 rfl ?_
   refine DE_2 (off := 0) (cs := [Ti 0, Ti 0, Ti 0]) (vc := [Ti o11.2.2.2.2.1, Ti o11.2.2.2.2.2.1, Ti o11.2.2.2.2.2.2]) 2 16 [Ti o11.2.2.2.2.1, Ti o11.2.2.2.2.2.1, Ti o11.2.2.2.2.2.2] (by kernel_rfl) rfl rfl rfl (gsat_none rfl) rfl rfl (by kernel_rfl) (by kernel_rfl) (by kernel_rfl) sz45 (Nat.le_of_ble_eq_true rfl) (by kernel_rfl) (by kernel_rfl) (by kernel_rfl) (by kernel_rfl) ?_
   refine DL_nil (by kernel_rfl) ?_
   refine XL_cons rfl (E_store (id := 24) (off := 0) (cs := [Ti 0, Ti 0, Ti 0, Ti 0]) (vc := [Ti o11.1, Ti o11.2.1, Ti o11.2.2.1, Ti o11.2.2.2.1]) [Ti o11.1, Ti o11.2.1, Ti o11.2.2.1, Ti o11.2.2.2.1] rfl rfl (by kernel_rfl) (by kernel_rfl) (by kernel_rfl) sz110 (Nat.le_of_ble_eq_true rfl) (by kernel_rfl)) ?_
   refine XL_nil ?_
   kernel_rfl
  refine V_ret ?_
  obtain rfl := some_inj h
  show Post _ _ _ _ _
  exact ⟨.inr rfl, rfl, rfl, rfl⟩
theorem cf_impl_reduced : ∀ args w, (callFunc 150 args).run Try.prog w = .ok (.enter 150 args) w := run_callFunc Try.func150 (by kernel_rfl) (by kernel_rfl)
set_option maxRecDepth 100000 in
set_option maxHeartbeats 400000 in
theorem s_impl_reduced {f1 : (Int × Int × Int)} {r : (Int × Int × Int)} (h : r_impl_reduced f1 = some r) : CallS Try.prog 150 [.ag [Ti f1.1, Ti f1.2.1, Ti f1.2.2]] (.ag [Ti r.1, Ti r.2.1, Ti r.2.2]) [] := by
  refine CallS_of_text (rs := [.w 2 3]) (vs := [.cell 2 45]) Try.func150 rfl rfl (.cons ⟨rfl, wd45⟩ FitsL.nil) (by decide) 11 rfl ?_
  unfold r_impl_reduced at h
  show V _ _ ⟨.ag [Ti f1.1, Ti f1.2.1, Ti f1.2.2] :: bt 10 [], []⟩ _
  refine V_sreg (mb 11 6) [16, 8] (s1 := ⟨.bot :: .pt 8 0 :: .pt 16 0 :: bt 8 [], [(16, .box [Ti 0, Ti 0, Ti 0]), (8, .box [Ti f1.1, Ti f1.2.1, Ti f1.2.2])]⟩) ?_ ?_
  ·refine L1 rfl rfl (Y1_box (cs := [Ti f1.1, Ti f1.2.1, Ti f1.2.2]) rfl (by kernel_rfl)) ?_
   refine L1 rfl rfl (Y1_alloc (z := zv45) rfl zf45 rfl) ?_
   refine XL_nil ?_
   kernel_rfl
  obtain ⟨y2, hy2, h⟩ := of_bind h
  refine V_sreg (mb 11 12) [24, 16] (s1 := ⟨.bot :: .bot :: .pt 16 0 :: .pt 24 0 :: bt 7 [], [(24, .box [Ti y2.1.1, Ti y2.1.2.1, Ti y2.1.2.2]), (16, .box [Ti 0, Ti 0, Ti 0])]⟩) ?_ ?_
  ·refine L0 rfl rfl (E_loadn (cs := [Ti f1.1, Ti f1.2.1, Ti f1.2.2]) [Ti f1.1, Ti f1.2.1, Ti f1.2.2] wd45 rfl (by kernel_rfl) (Nat.le_of_ble_eq_true rfl) (by kernel_rfl)) ?_
   refine L1 rfl rfl (Y1_call (s_impl_reduce hy2) cf_impl_reduce rfl (by kernel_rfl)) ?_
   refine L0 rfl rfl (E_move (.tc (.ag [Ti y2.1.1, Ti y2.1.2.1, Ti y2.1.2.2]) (.tc (.ag [Ti y2.2.1, Ti y2.2.2.1, Ti y2.2.2.2.1, Ti y2.2.2.2.2]) .tn)) rfl (by kernel_rfl)) ?_
   refine L0 rfl rfl (E_ext (n := 0) (.ag [Ti y2.1.1, Ti y2.1.2.1, Ti y2.1.2.2]) (.tc (.ag [Ti y2.2.1, Ti y2.2.2.1, Ti y2.2.2.2.1, Ti y2.2.2.2.2]) .tn) (.ag [Ti y2.1.1, Ti y2.1.2.1, Ti y2.1.2.2]) rfl (by kernel_rfl) (by kernel_rfl) (by intro hh; cases hh)) ?_
   refine L0 rfl rfl (E_ext (n := 1) (.ag [Ti y2.1.1, Ti y2.1.2.1, Ti y2.1.2.2]) (.tc (.ag [Ti y2.2.1, Ti y2.2.2.1, Ti y2.2.2.2.1, Ti y2.2.2.2.2]) .tn) (.ag [Ti y2.2.1, Ti y2.2.2.1, Ti y2.2.2.2.1, Ti y2.2.2.2.2]) rfl (by kernel_rfl) (by kernel_rfl) (by intro hh; cases hh)) ?_
   refine L1 rfl rfl (Y1_alloc (z := zv45) rfl zf45 rfl) ?_
   refine L1 rfl rfl (Y1_alloc (z := zv110) rfl zf110 rfl) ?_
   refine XL_cons rfl (E_store (id := 24) (off := 0) (cs := [Ti 0, Ti 0, Ti 0]) (vc := [Ti y2.1.1, Ti y2.1.2.1, Ti y2.1.2.2]) [Ti y2.1.1, Ti y2.1.2.1, Ti y2.1.2.2] rfl rfl (by kernel_rfl) (by kernel_rfl) (by kernel_rfl) sz45 (Nat.le_of_ble_eq_true rfl) (by kernel_rfl)) ?_
   refine XL_cons rfl (E_store (id := 32) (off := 0) (cs := [Ti 0, Ti 0, Ti 0, Ti 0]) (vc := [Ti y2.2.1, Ti y2.2.2.1, Ti y2.2.2.2.1, Ti y2.2.2.2.2]) [Ti y2.2.1, Ti y2.2.2.1, Ti y2.2.2.2.1, Ti y2.2.2.2.2] rfl rfl (by kernel_rfl) (by kernel_rfl) (by kernel_rfl) sz110 (Nat.le_of_ble_eq_true rfl) (by kernel_rfl)) ?_
   refine XL_nil ?_
   kernel_rfl
  refine V_sreg (mb 11 4) [16] (s1 := ⟨.bot :: .bot :: .pt 16 0 :: bt 8 [], [(16, .box [Ti y2.1.1, Ti y2.1.2.1, Ti y2.1.2.2])]⟩) ?_ ?_
  ·refine L0 rfl rfl (E_loadn (cs := [Ti y2.1.1, Ti y2.1.2.1, Ti y2.1.2.2]) [Ti y2.1.1, Ti y2.1.2.1, Ti y2.1.2.2] wd45 rfl (by kernel_rfl) (Nat.le_of_ble_eq_true rfl) (by kernel_rfl)) ?_
   refine XL_cons rfl (E_store (id := 16) (off := 0) (cs := [Ti 0, Ti 0, Ti 0]) (vc := [Ti y2.1.1, Ti y2.1.2.1, Ti y2.1.2.2]) [Ti y2.1.1, Ti y2.1.2.1, Ti y2.1.2.2] rfl rfl (by kernel_rfl) (by kernel_rfl) (by kernel_rfl) sz45 (Nat.le_of_ble_eq_true rfl) (by kernel_rfl)) ?_
   refine XL_nil ?_
   kernel_rfl
  refine V_ret ?_
  obtain rfl := some_inj h
  show Post _ _ _ _ _
  exact ⟨.inr rfl, rfl, rfl, rfl⟩
theorem cf_impl_root : ∀ args w, (callFunc 195 args).run Try.prog w = .ok (.enter 195 args) w := run_callFunc Try.func195 (by kernel_rfl) (by kernel_rfl)
set_option maxRecDepth 100000 in
set_option maxHeartbeats 400000 in
theorem s_impl_root {vn1 : Int} {r : Int} (h : r_impl_root vn1 = some r) : CallS Try.prog 195 [I vn1] (I r) [] := by
  refine CallS_of_text (rs := [.t 2]) (vs := [.tmp 2]) Try.func195 rfl rfl (.cons rfl FitsL.nil) (by decide) 23 rfl ?_
  unfold r_impl_root at h
  show V _ _ ⟨I vn1 :: bt 22 [], []⟩ _
  refine V_sreg (mb 23 1) [] (s1 := ⟨I vn1 :: bt 22 [], []⟩) ?_ ?_
  ·refine L0 rfl rfl (E_assign (I 0) rfl (by kernel_rfl)) ?_
   refine XL_nil ?_
   kernel_rfl
  refine V_sreg (mb 23 25) [] (s1 := ⟨I vn1 :: .bot :: .bot :: I 0 :: I 3000000000 :: bt 18 [], []⟩) ?_ ?_
  ·refine L0 rfl rfl (E_assign (I 0) rfl (by kernel_rfl)) ?_
   refine L0 rfl rfl (E_assign (I 3000000000) rfl (by kernel_rfl)) ?_
   refine XL_nil ?_
   kernel_rfl
  refine V_seq ?_
  obtain ⟨o5, hLo5, h⟩ := of_bind h
  refine V_toK (mb 23 8) [] (s1 := ⟨bt 3 (I o5 :: bt 19 []), []⟩) ?_ ?_
  ·clear h
   refine V_block (V_loop (fun n s => ∃ (low2 : Int) (high3 : Int), s.keep (mb 23 25) [] = (⟨I vn1 :: .bot :: .bot :: I low2 :: I high3 :: bt 18 [], []⟩ : St) ∧ r_impl_root_L4 vn1 n low2 high3 = some o5) FU ⟨_, _,  by rfl, hLo5⟩ ?_)
   clear hLo5
   rintro n s ⟨low2, high3, hs, h⟩
   refine V_keep _ _ hs ?_
   clear hs
   cases n with
   | zero => cases h
   | succ n =>
    rw [r_impl_root_L4] at h
    refine V_seq ?_
    refine V_sreg (mb 23 281) [] (s1 := ⟨I vn1 :: .bot :: .bot :: I low2 :: I high3 :: bt 3 (Bo (ltI low2 high3) :: bt 14 []), []⟩) ?_ ?_
    ·refine L0 rfl rfl (E_move (I low2) rfl (by kernel_rfl)) ?_
     refine L0 rfl rfl (E_move (I high3) rfl (by kernel_rfl)) ?_
     refine L0 rfl rfl (Y0_ltw (k := .i64) (a := low2) (b := high3) rfl (by kernel_rfl) (by kernel_rfl)) ?_
     refine XL_nil ?_
     kernel_rfl
    refine V_cond rfl (fun hc6 => ?_) (fun hc6 => ?_)
    ·have h := of_true h hc6
     refine V_skip ?_
     show V _ _ _ _
     refine V_block ?_
     obtain ⟨vm7, hvm7, h⟩ := of_sI h
     refine V_sreg (mb 23 57) [] (s1 := ⟨I vn1 :: .bot :: .bot :: I low2 :: I high3 :: I vm7 :: bt 17 [], []⟩) ?_ ?_
     ·refine L0 rfl rfl (E_move (I low2) rfl (by kernel_rfl)) ?_
      refine L0 rfl rfl (E_move (I high3) rfl (by kernel_rfl)) ?_
      refine L0 rfl rfl (Y0_add64 (a := low2) (b := high3) rfl (by kernel_rfl) (by kernel_rfl)) ?_
      refine L0 rfl rfl (Y0_add64 (a := w64 (low2 + high3)) (b := 1) rfl (by kernel_rfl) (by kernel_rfl)) ?_
      refine L0 rfl rfl (Y0_quo64 (a := w64 ((w64 (low2 + high3)) + 1)) (b := 2) rfl (by kernel_rfl) (by kernel_rfl) (by decide)) ?_
      refine L0 rfl rfl (E_assign (I (w64 (Int.tdiv (w64 ((w64 (low2 + high3)) + 1)) 2))) rfl (by kernel_rfl)) ?_
      refine XL_nil ?_
      subst hvm7
      kernel_rfl
     refine V_sreg (mb 23 262201) [] (s1 := ⟨I vn1 :: .bot :: .bot :: I low2 :: I high3 :: I vm7 :: bt 12 (Bo (leI (w64 (vm7 * vm7)) vn1) :: bt 4 []), []⟩) ?_ ?_
     ·refine L0 rfl rfl (E_move (I vm7) rfl (by kernel_rfl)) ?_
      refine L0 rfl rfl (E_move (I vm7) rfl (by kernel_rfl)) ?_
      refine L0 rfl rfl (Y0_mul64 (a := vm7) (b := vm7) rfl (by kernel_rfl) (by kernel_rfl)) ?_
      refine L0 rfl rfl (E_move (I vn1) rfl (by kernel_rfl)) ?_
      refine L0 rfl rfl (Y0_lew (k := .i64) (a := w64 (vm7 * vm7)) (b := vn1) rfl (by kernel_rfl) (by kernel_rfl)) ?_
      refine XL_nil ?_
      kernel_rfl
     refine V_cond rfl (fun hc8 => ?_) (fun hc8 => ?_)
     ·have h := of_true h hc8
      refine V_reg (mb 23 25) [] (s1 := ⟨I vn1 :: .bot :: .bot :: I vm7 :: I high3 :: bt 18 [], []⟩) ?_ ?_
      ·refine L0 rfl rfl (E_move (I vm7) rfl (by kernel_rfl)) ?_
       refine L0 rfl rfl (E_assign (I vm7) rfl (by kernel_rfl)) ?_
       refine XL_nil ?_
       kernel_rfl
      exact ⟨n, Nat.lt_succ_self n, _, _,  by rfl, h⟩
     ·have h := of_false h hc8
      obtain ⟨high9, hhigh9, h⟩ := of_sI h
      refine V_reg (mb 23 25) [] (s1 := ⟨I vn1 :: .bot :: .bot :: I low2 :: I high9 :: bt 18 [], []⟩) ?_ ?_
      ·refine L0 rfl rfl (E_move (I vm7) rfl (by kernel_rfl)) ?_
       refine L0 rfl rfl (Y0_sub64 (a := vm7) (b := 1) rfl (by kernel_rfl) (by kernel_rfl)) ?_
       refine L0 rfl rfl (E_assign (I (w64 (vm7 - 1))) rfl (by kernel_rfl)) ?_
       refine XL_nil ?_
       subst hhigh9
       kernel_rfl
      exact ⟨n, Nat.lt_succ_self n, _, _,  by rfl, h⟩
    ·have h := of_false h hc6
     refine V_exit ?_
     obtain rfl := some_inj h
     show St.keep _ _ _ = _
     rfl
  show V _ _ _ _
  refine V_sreg (mb 23 4) [] (s1 := ⟨.bot :: .bot :: I o5 :: bt 20 [], []⟩) ?_ ?_
  ·refine L0 rfl rfl (E_move (I o5) rfl (by kernel_rfl)) ?_
   refine L0 rfl rfl (E_assign (I o5) rfl (by kernel_rfl)) ?_
   refine XL_nil ?_
   kernel_rfl
  refine V_ret ?_
  obtain rfl := some_inj h
  show Post _ _ _ _ _
  exact ⟨.inr rfl, rfl, rfl, rfl⟩
theorem cf_impl_isSquare : ∀ args w, (callFunc 138 args).run Try.prog w = .ok (.enter 138 args) w := run_callFunc Try.func138 (by kernel_rfl) (by kernel_rfl)
set_option maxRecDepth 100000 in
set_option maxHeartbeats 400000 in
theorem s_impl_isSquare {vn1 : Int} {r : Bool} (h : r_impl_isSquare vn1 = some r) : CallS Try.prog 138 [I vn1] (Bo r) [] := by
  refine CallS_of_text (rs := [.t 2]) (vs := [.tmp 2]) Try.func138 rfl rfl (.cons rfl FitsL.nil) (by decide) 14 rfl ?_
  unfold r_impl_isSquare at h
  show V _ _ ⟨I vn1 :: bt 13 [], []⟩ _
  refine V_sreg (mb 14 1) [] (s1 := ⟨I vn1 :: bt 13 [], []⟩) ?_ ?_
  ·refine L0 rfl rfl (E_assign (Bo false) rfl (by kernel_rfl)) ?_
   refine XL_nil ?_
   kernel_rfl
  obtain ⟨b5, hb5, h⟩ := of_bind h
  refine V_sreg (mb 14 4) [] (s1 := ⟨.bot :: .bot :: Bo b5 :: bt 11 [], []⟩) ?_ ?_
  ·refine L0 rfl rfl (E_move (I vn1) rfl (by kernel_rfl)) ?_
   refine L0 rfl rfl (Y0_gew (k := .i64) (a := vn1) (b := 0) rfl (by kernel_rfl) (by kernel_rfl)) ?_
   refine L0 rfl rfl (E_move (Bo (leI 0 vn1)) rfl (by kernel_rfl)) ?_
   refine XL_split (leI 0 vn1) (fun hc2 => ?_) (fun hc2 => ?_)
   ·have hb5 := of_true hb5 hc2
    obtain ⟨y3, hy3, hb5⟩ := of_bind hb5
    obtain ⟨y4, hy4, hb5⟩ := of_bind hb5
    have hb5 := some_inj hb5
    refine XL_takeC _ rfl rfl (by kernel_rfl) hc2 (X_of_Y0 rfl (E_move (I vn1) rfl (by kernel_rfl))) ?_
    refine XL_takeC _ rfl rfl (by kernel_rfl) hc2 (X_of_Y1 rfl (Y1_call (s_impl_root hy3) cf_impl_root rfl (by kernel_rfl))) ?_
    refine XL_takeC _ rfl rfl (by kernel_rfl) hc2 (X_of_Y0 rfl (E_move (I vn1) rfl (by kernel_rfl))) ?_
    refine XL_takeC _ rfl rfl (by kernel_rfl) hc2 (X_of_Y1 rfl (Y1_call (s_impl_root hy4) cf_impl_root rfl (by kernel_rfl))) ?_
    refine XL_takeC _ rfl rfl (by kernel_rfl) hc2 (X_of_Y0 rfl (Y0_mul64 (a := y3) (b := y4) rfl (by kernel_rfl) (by kernel_rfl))) ?_
    refine XL_takeC _ rfl rfl (by kernel_rfl) hc2 (X_of_Y0 rfl (E_move (I vn1) rfl (by kernel_rfl))) ?_
    refine XL_takeC _ rfl rfl (by kernel_rfl) hc2 (X_of_Y0 rfl (Y0_eqw (k := .i64) (a := w64 (y3 * y4)) (b := vn1) rfl (by kernel_rfl) (by kernel_rfl))) ?_
    refine XL_cons rfl (X_of_Y0 rfl (Y0_pickTe (b := leI 0 vn1) (p := eqI (w64 (y3 * y4)) vn1) rfl (by kernel_rfl) hc2 (by kernel_rfl) hb5)) ?_
    refine L0 rfl rfl (E_assign (Bo b5) rfl (by kernel_rfl)) ?_
    refine XL_nil ?_
    kernel_rfl
   ·have hb5 := some_inj (of_false hb5 hc2)
    refine XL_skipT _ rfl rfl (by kernel_rfl) hc2 rfl ?_
    refine XL_skipT _ rfl rfl (by kernel_rfl) hc2 rfl ?_
    refine XL_skipT _ rfl rfl (by kernel_rfl) hc2 rfl ?_
    refine XL_skipT _ rfl rfl (by kernel_rfl) hc2 rfl ?_
    refine XL_skipT _ rfl rfl (by kernel_rfl) hc2 rfl ?_
    refine XL_skipT _ rfl rfl (by kernel_rfl) hc2 rfl ?_
    refine XL_skipT _ rfl rfl (by kernel_rfl) hc2 rfl ?_
    refine XL_cons rfl (X_of_Y0 rfl (Y0_pickFe (b := leI 0 vn1) (p := false) rfl (by kernel_rfl) hc2 (by kernel_rfl) hb5)) ?_
    refine L0 rfl rfl (E_assign (Bo b5) rfl (by kernel_rfl)) ?_
    refine XL_nil ?_
    kernel_rfl
  refine V_ret ?_
  obtain rfl := some_inj h
  show Post _ _ _ _ _
  exact ⟨.inr rfl, rfl, rfl, rfl⟩
theorem cf_impl_Form_points : ∀ args w, (callFunc 151 args).run Try.prog w = .ok (.enter 151 args) w := run_callFunc Try.func151 (by kernel_rfl) (by kernel_rfl)
set_option maxRecDepth 100000 in
set_option maxHeartbeats 400000 in
theorem s_impl_Form_points {f1 : (Int × Int × Int)} {vn2 : Int} {r : List ((Int × Int))} (h : r_impl_Form_points f1 vn2 = some r) : CallS Try.prog 151 [.ag [Ti f1.1, Ti f1.2.1, Ti f1.2.2], I vn2] (.ow 0) [(0, .arr 34 2 (r.map c34))] := by
  refine CallS_of_text (rs := [.t 4]) (vs := [.tmp 4]) Try.func151 rfl rfl (.cons rfl FitsL.nil) (by decide) 107 rfl ?_
  unfold r_impl_Form_points at h
  show V _ _ ⟨.ag [Ti f1.1, Ti f1.2.1, Ti f1.2.2] :: I vn2 :: bt 105 [], []⟩ _
  refine V_sreg (mb 107 6) [16] (s1 := ⟨.bot :: I vn2 :: .pt 16 0 :: bt 104 [], [(16, .box [Ti f1.1, Ti f1.2.1, Ti f1.2.2])]⟩) ?_ ?_
  ·refine L1 rfl rfl (Y1_box (cs := [Ti f1.1, Ti f1.2.1, Ti f1.2.2]) rfl (by kernel_rfl)) ?_
   refine L1 rfl rfl (Y1_nil (e := 34) 2 (by decide) (.inl rfl)) ?_
   refine XL_nil ?_
   kernel_rfl
  refine V_sreg (mb 107 38) [88, 16] (s1 := ⟨.bot :: I vn2 :: .pt 16 0 :: .bot :: .bot :: .ow 88 :: bt 101 [], [(88, .arr 34 2 ((([] : List ((Int × Int)))).map c34)), (16, .box [Ti f1.1, Ti f1.2.1, Ti f1.2.2])]⟩) ?_ ?_
  ·refine L1 rfl rfl (Y1_bslice0 Try.underlying71 sz34 (by decide) rfl rfl) ?_
   refine L0 rfl rfl (E_assign (.ow 88) rfl (by kernel_rfl)) ?_
   refine XL_nil ?_
   kernel_rfl
  obtain ⟨y3, hy3, h⟩ := of_bind h
  refine V_sreg (mb 107 102) [88, 16] (s1 := ⟨.bot :: I vn2 :: .pt 16 0 :: .bot :: .bot :: .ow 88 :: I y3 :: bt 100 [], [(88, .arr 34 2 ((([] : List ((Int × Int)))).map c34)), (16, .box [Ti f1.1, Ti f1.2.1, Ti f1.2.2])]⟩) ?_ ?_
  ·refine L0 rfl rfl (E_loadn (cs := [Ti f1.1, Ti f1.2.1, Ti f1.2.2]) [Ti f1.1, Ti f1.2.1, Ti f1.2.2] wd45 rfl (by kernel_rfl) (Nat.le_of_ble_eq_true rfl) (by kernel_rfl)) ?_
   refine L1 rfl rfl (Y1_call (s_impl_Form_disc hy3) cf_impl_Form_disc rfl (by kernel_rfl)) ?_
   refine L0 rfl rfl (E_assign (I y3) rfl (by kernel_rfl)) ?_
   refine XL_nil ?_
   kernel_rfl
  obtain ⟨z4, hz4, h⟩ := of_bind h
  obtain ⟨y5, hy5, h⟩ := of_bind h
  refine V_sreg (mb 107 230) [88, 16] (s1 := ⟨.bot :: I vn2 :: .pt 16 0 :: .bot :: .bot :: .ow 88 :: I y3 :: I y5 :: bt 99 [], [(88, .arr 34 2 ((([] : List ((Int × Int)))).map c34)), (16, .box [Ti f1.1, Ti f1.2.1, Ti f1.2.2])]⟩) ?_ ?_
  ·refine L0 rfl rfl (E_field (.pt 16 2) Try.underlying45 rfl sz3 rfl (by kernel_rfl) (by intro hh; cases hh)) ?_
   refine L0 rfl rfl (Y0_load1 (c := Ti f1.2.2) (cs := []) sc3 rfl (by kernel_rfl)) ?_
   refine L0 rfl rfl (Y0_mul64 (a := 4) (b := f1.2.2) rfl (by kernel_rfl) (by kernel_rfl)) ?_
   refine L0 rfl rfl (E_move (I vn2) rfl (by kernel_rfl)) ?_
   refine L0 rfl rfl (Y0_mul64 (a := w64 (4 * f1.2.2)) (b := vn2) rfl (by kernel_rfl) (by kernel_rfl)) ?_
   refine L0 rfl rfl (E_move (I y3) rfl (by kernel_rfl)) ?_
   refine L0 rfl rfl (Y0_neg64 (a := y3) rfl (by kernel_rfl)) ?_
   refine L0 rfl rfl (Y0_quo64 (a := w64 ((w64 (4 * f1.2.2)) * vn2)) (b := w64 (0 - y3)) rfl (by kernel_rfl) (by kernel_rfl) (nz_some hz4)) ?_
   refine L1 rfl rfl (Y1_call (s_impl_root hy5) cf_impl_root rfl (by kernel_rfl)) ?_
   refine L0 rfl rfl (E_assign (I y5) rfl (by kernel_rfl)) ?_
   refine XL_nil ?_
   kernel_rfl
  refine V_seq ?_
  obtain ⟨x6, hx6, h⟩ := of_sI h
  refine V_sreg (mb 107 486) [88, 16] (s1 := ⟨.bot :: I vn2 :: .pt 16 0 :: .bot :: .bot :: .ow 88 :: I y3 :: I y5 :: I x6 :: bt 98 [], [(88, .arr 34 2 ((([] : List ((Int × Int)))).map c34)), (16, .box [Ti f1.1, Ti f1.2.1, Ti f1.2.2])]⟩) ?_ ?_
  ·refine L0 rfl rfl (E_move (I y5) rfl (by kernel_rfl)) ?_
   refine L0 rfl rfl (Y0_neg64 (a := y5) rfl (by kernel_rfl)) ?_
   refine L0 rfl rfl (E_assign (I (w64 (0 - y5))) rfl (by kernel_rfl)) ?_
   refine XL_nil ?_
   subst hx6
   kernel_rfl
  obtain ⟨o10, hLo10, h⟩ := of_bind h
  refine V_toK (mb 107 32) [88] (s1 := ⟨bt 5 (.ow 88 :: bt 101 []), [(88, .arr 34 2 (o10.map c34))]⟩) ?_ ?_
  ·clear h
   refine V_block (V_loop (fun n s => ∃ (x7 : Int) (l8 : List ((Int × Int))), s.keep (mb 107 486) [88, 16] = (⟨.bot :: I vn2 :: .pt 16 0 :: .bot :: .bot :: .ow 88 :: I y3 :: I y5 :: I x7 :: bt 98 [], [(88, .arr 34 2 (l8.map c34)), (16, .box [Ti f1.1, Ti f1.2.1, Ti f1.2.2])]⟩ : St) ∧ r_impl_Form_points_L9 f1 vn2 y3 y5 n x7 l8 = some o10) FU ⟨_, _,  by rfl, hLo10⟩ ?_)
   clear hLo10
   rintro n s ⟨x7, l8, hs, h⟩
   refine V_keep _ _ hs ?_
   clear hs
   cases n with
   | zero => cases h
   | succ n =>
    rw [r_impl_Form_points_L9] at h
    refine V_seq ?_
    refine V_sreg (mb 107 134218214) [88, 16] (s1 := ⟨.bot :: I vn2 :: .pt 16 0 :: .bot :: .bot :: .ow 88 :: I y3 :: I y5 :: I x7 :: bt 18 (Bo (leI x7 y5) :: bt 79 []), [(88, .arr 34 2 (l8.map c34)), (16, .box [Ti f1.1, Ti f1.2.1, Ti f1.2.2])]⟩) ?_ ?_
    ·refine L0 rfl rfl (E_move (I x7) rfl (by kernel_rfl)) ?_
     refine L0 rfl rfl (E_move (I y5) rfl (by kernel_rfl)) ?_
     refine L0 rfl rfl (Y0_lew (k := .i64) (a := x7) (b := y5) rfl (by kernel_rfl) (by kernel_rfl)) ?_
     refine XL_nil ?_
     kernel_rfl
    refine V_cond rfl (fun hc11 => ?_) (fun hc11 => ?_)
    ·have h := of_true h hc11
     refine V_skip ?_
     show V _ _ _ _
     refine V_seq ?_
     refine V_block ?_
     obtain ⟨square12, hsquare12, h⟩ := of_sI h
     refine V_sreg (mb 107 998) [88, 16] (s1 := ⟨.bot :: I vn2 :: .pt 16 0 :: .bot :: .bot :: .ow 88 :: I y3 :: I y5 :: I x7 :: I square12 :: bt 97 [], [(88, .arr 34 2 (l8.map c34)), (16, .box [Ti f1.1, Ti f1.2.1, Ti f1.2.2])]⟩) ?_ ?_
     ·refine L0 rfl rfl (E_move (I y3) rfl (by kernel_rfl)) ?_
      refine L0 rfl rfl (E_move (I x7) rfl (by kernel_rfl)) ?_
      refine L0 rfl rfl (Y0_mul64 (a := y3) (b := x7) rfl (by kernel_rfl) (by kernel_rfl)) ?_
      refine L0 rfl rfl (E_move (I x7) rfl (by kernel_rfl)) ?_
      refine L0 rfl rfl (Y0_mul64 (a := w64 (y3 * x7)) (b := x7) rfl (by kernel_rfl) (by kernel_rfl)) ?_
      refine L0 rfl rfl (E_field (.pt 16 2) Try.underlying45 rfl sz3 rfl (by kernel_rfl) (by intro hh; cases hh)) ?_
      refine L0 rfl rfl (Y0_load1 (c := Ti f1.2.2) (cs := []) sc3 rfl (by kernel_rfl)) ?_
      refine L0 rfl rfl (Y0_mul64 (a := 4) (b := f1.2.2) rfl (by kernel_rfl) (by kernel_rfl)) ?_
      refine L0 rfl rfl (E_move (I vn2) rfl (by kernel_rfl)) ?_
      refine L0 rfl rfl (Y0_mul64 (a := w64 (4 * f1.2.2)) (b := vn2) rfl (by kernel_rfl) (by kernel_rfl)) ?_
      refine L0 rfl rfl (Y0_add64 (a := w64 ((w64 (y3 * x7)) * x7)) (b := w64 ((w64 (4 * f1.2.2)) * vn2)) rfl (by kernel_rfl) (by kernel_rfl)) ?_
      refine L0 rfl rfl (E_assign (I (w64 ((w64 ((w64 (y3 * x7)) * x7)) + (w64 ((w64 (4 * f1.2.2)) * vn2))))) rfl (by kernel_rfl)) ?_
      refine XL_nil ?_
      subst hsquare12
      kernel_rfl
     refine V_seq ?_
     obtain ⟨y13, hy13, h⟩ := of_bind h
     refine V_sreg (mb 107 8796093023206) [88, 16] (s1 := ⟨.bot :: I vn2 :: .pt 16 0 :: .bot :: .bot :: .ow 88 :: I y3 :: I y5 :: I x7 :: I square12 :: bt 33 (Bo (!y13) :: bt 63 []), [(88, .arr 34 2 (l8.map c34)), (16, .box [Ti f1.1, Ti f1.2.1, Ti f1.2.2])]⟩) ?_ ?_
     ·refine L0 rfl rfl (E_move (I square12) rfl (by kernel_rfl)) ?_
      refine L1 rfl rfl (Y1_call (s_impl_isSquare hy13) cf_impl_isSquare rfl (by kernel_rfl)) ?_
      refine L0 rfl rfl (Y0_not (b := y13) rfl (by kernel_rfl)) ?_
      refine XL_nil ?_
      kernel_rfl
     refine V_cond rfl (fun hc14 => ?_) (fun hc14 => ?_)
     ·have h := of_true h hc14
      refine V_exit ?_
      show V _ _ _ _
      obtain ⟨x15, hx15, h⟩ := of_sI h
      refine V_reg (mb 107 486) [88, 16] (s1 := ⟨.bot :: I vn2 :: .pt 16 0 :: .bot :: .bot :: .ow 88 :: I y3 :: I y5 :: I x15 :: bt 98 [], [(88, .arr 34 2 (l8.map c34)), (16, .box [Ti f1.1, Ti f1.2.1, Ti f1.2.2])]⟩) ?_ ?_
      ·refine L0 rfl rfl (E_move (I x7) rfl (by kernel_rfl)) ?_
       refine L0 rfl rfl (Y0_add64 (a := x7) (b := 1) rfl (by kernel_rfl) (by kernel_rfl)) ?_
       refine L0 rfl rfl (E_assign (I (w64 (x7 + 1))) rfl (by kernel_rfl)) ?_
       refine XL_nil ?_
       subst hx15
       kernel_rfl
      exact ⟨n, Nat.lt_succ_self n, _, _,  by rfl, h⟩
     ·have h := of_false h hc14
      refine V_skip ?_
      show V _ _ _ _
      obtain ⟨y16, hy16, h⟩ := of_bind h
      refine V_sreg (mb 107 1510) [88, 16] (s1 := ⟨.bot :: I vn2 :: .pt 16 0 :: .bot :: .bot :: .ow 88 :: I y3 :: I y5 :: I x7 :: .bot :: I y16 :: bt 96 [], [(88, .arr 34 2 (l8.map c34)), (16, .box [Ti f1.1, Ti f1.2.1, Ti f1.2.2])]⟩) ?_ ?_
      ·refine L0 rfl rfl (E_move (I square12) rfl (by kernel_rfl)) ?_
       refine L1 rfl rfl (Y1_call (s_impl_root hy16) cf_impl_root rfl (by kernel_rfl)) ?_
       refine L0 rfl rfl (E_assign (I y16) rfl (by kernel_rfl)) ?_
       refine XL_nil ?_
       kernel_rfl
      obtain ⟨j17, hj17, h⟩ := of_bind h
      refine V_cutK (mb 107 1510) [88, 16] (s1 := ⟨.bot :: I vn2 :: .pt 16 0 :: .bot :: .bot :: .ow 88 :: I y3 :: I y5 :: I x7 :: .bot :: I y16 :: bt 96 [], [(88, .arr 34 2 (j17.map c34)), (16, .box [Ti f1.1, Ti f1.2.1, Ti f1.2.2])]⟩) ?_ ?_
      ·clear h
       have h := hj17
       clear hj17
       obtain ⟨z18, hz18, h⟩ := of_bind h
       obtain ⟨t19, ht19, h⟩ := of_bind h
       have ht19 := some_inj ht19
       refine V_sreg (mb 107 144115188075857382) [88, 16] (s1 := ⟨.bot :: I vn2 :: .pt 16 0 :: .bot :: .bot :: .ow 88 :: I y3 :: I y5 :: I x7 :: .bot :: I y16 :: bt 46 (Bo t19 :: bt 49 []), [(88, .arr 34 2 (l8.map c34)), (16, .box [Ti f1.1, Ti f1.2.1, Ti f1.2.2])]⟩) ?_ ?_
       ·refine L0 rfl rfl (E_field (.pt 16 1) Try.underlying45 rfl sz3 rfl (by kernel_rfl) (by intro hh; cases hh)) ?_
        refine L0 rfl rfl (Y0_load1 (c := Ti f1.2.1) (cs := [Ti f1.2.2]) sc3 rfl (by kernel_rfl)) ?_
        refine L0 rfl rfl (Y0_neg64 (a := f1.2.1) rfl (by kernel_rfl)) ?_
        refine L0 rfl rfl (E_move (I x7) rfl (by kernel_rfl)) ?_
        refine L0 rfl rfl (Y0_mul64 (a := w64 (0 - f1.2.1)) (b := x7) rfl (by kernel_rfl) (by kernel_rfl)) ?_
        refine L0 rfl rfl (E_move (I y16) rfl (by kernel_rfl)) ?_
        refine L0 rfl rfl (Y0_sub64 (a := w64 ((w64 (0 - f1.2.1)) * x7)) (b := y16) rfl (by kernel_rfl) (by kernel_rfl)) ?_
        refine L0 rfl rfl (E_field (.pt 16 2) Try.underlying45 rfl sz3 rfl (by kernel_rfl) (by intro hh; cases hh)) ?_
        refine L0 rfl rfl (Y0_load1 (c := Ti f1.2.2) (cs := []) sc3 rfl (by kernel_rfl)) ?_
        refine L0 rfl rfl (Y0_mul64 (a := 2) (b := f1.2.2) rfl (by kernel_rfl) (by kernel_rfl)) ?_
        refine L0 rfl rfl (Y0_rem (k := .i64) (a := w64 ((w64 ((w64 (0 - f1.2.1)) * x7)) - y16)) (b := w64 (2 * f1.2.2)) rfl (by kernel_rfl) (by kernel_rfl) (nz_some hz18)) ?_
        refine L0 rfl rfl (Y0_eqw (k := .i64) (a := Int.tmod (w64 ((w64 ((w64 (0 - f1.2.1)) * x7)) - y16)) (w64 (2 * f1.2.2))) (b := 0) rfl (by kernel_rfl) (by kernel_rfl)) ?_
        refine XL_nil ?_
        subst ht19
        kernel_rfl
       refine V_cond rfl (fun hc20 => ?_) (fun hc20 => ?_)
       ·have h := of_true h hc20
        obtain ⟨z21, hz21, h⟩ := of_bind h
        obtain ⟨u22, hu22, h⟩ := of_bind h
        obtain ⟨l23, hl23, h⟩ := of_bind h
        have hl23 := some_inj hl23
        refine V_reg (mb 107 1510) [88, 16] (s1 := ⟨.bot :: I vn2 :: .pt 16 0 :: .bot :: .bot :: .ow 88 :: I y3 :: I y5 :: I x7 :: .bot :: I y16 :: bt 96 [], [(88, .arr 34 2 (l23.map c34)), (16, .box [Ti f1.1, Ti f1.2.1, Ti f1.2.2])]⟩) ?_ ?_
        ·refine L0 rfl rfl (E_move (.ow 88) rfl (by kernel_rfl)) ?_
         refine L0 rfl rfl (E_move (I x7) rfl (by kernel_rfl)) ?_
         refine L0 rfl rfl (E_field (.pt 16 1) Try.underlying45 rfl sz3 rfl (by kernel_rfl) (by intro hh; cases hh)) ?_
         refine L0 rfl rfl (Y0_load1 (c := Ti f1.2.1) (cs := [Ti f1.2.2]) sc3 rfl (by kernel_rfl)) ?_
         refine L0 rfl rfl (Y0_neg64 (a := f1.2.1) rfl (by kernel_rfl)) ?_
         refine L0 rfl rfl (E_move (I x7) rfl (by kernel_rfl)) ?_
         refine L0 rfl rfl (Y0_mul64 (a := w64 (0 - f1.2.1)) (b := x7) rfl (by kernel_rfl) (by kernel_rfl)) ?_
         refine L0 rfl rfl (E_move (I y16) rfl (by kernel_rfl)) ?_
         refine L0 rfl rfl (Y0_sub64 (a := w64 ((w64 (0 - f1.2.1)) * x7)) (b := y16) rfl (by kernel_rfl) (by kernel_rfl)) ?_
         refine L0 rfl rfl (E_field (.pt 16 2) Try.underlying45 rfl sz3 rfl (by kernel_rfl) (by intro hh; cases hh)) ?_
         refine L0 rfl rfl (Y0_load1 (c := Ti f1.2.2) (cs := []) sc3 rfl (by kernel_rfl)) ?_
         refine L0 rfl rfl (Y0_mul64 (a := 2) (b := f1.2.2) rfl (by kernel_rfl) (by kernel_rfl)) ?_
         refine L0 rfl rfl (Y0_quo64 (a := w64 ((w64 ((w64 (0 - f1.2.1)) * x7)) - y16)) (b := w64 (2 * f1.2.2)) rfl (by kernel_rfl) (by kernel_rfl) (nz_some hz21)) ?_
         refine L0 rfl rfl (Y0_build (cs := [Ti x7, Ti (w64 (Int.tdiv (w64 ((w64 ((w64 (0 - f1.2.1)) * x7)) - y16)) (w64 (2 * f1.2.2))))]) pl34 bt34 rfl rfl (by kernel_rfl)) ?_
         refine L1 rfl rfl (Y1_bslice (z := zv34) (els := [(x7, w64 (Int.tdiv (w64 ((w64 ((w64 (0 - f1.2.1)) * x7)) - y16)) (w64 (2 * f1.2.2))))].map c34) Try.underlying71 iz34 rfl (by decide) rfl (by kernel_rfl) rfl (by simp [c34]) (by decide) (by decide)) ?_
         refine XL_cons rfl (X_appendM (c := c34) (xs := l8) (ys := [(x7, w64 (Int.tdiv (w64 ((w64 ((w64 (0 - f1.2.1)) * x7)) - y16)) (w64 (2 * f1.2.2))))]) (id := 88) (z := zv34) rfl rfl Try.underlying71 izb34 rfl (by kernel_rfl) (by kernel_rfl) (by kernel_rfl) (fun _ => rfl) (by simp) (room_some hu22) (by decide)) ?_
         refine L0 rfl rfl (E_assign (.ow 88) rfl (by kernel_rfl)) ?_
         refine XL_nil ?_
         subst hl23
         kernel_rfl
        obtain rfl := some_inj h
        show St.keep _ _ _ = _
        rfl
       ·have h := of_false h hc20
        refine V_skip ?_
        obtain rfl := some_inj h
        show St.keep _ _ _ = _
        rfl
      obtain ⟨b26, hb26, h⟩ := of_bind h
      refine V_sreg (mb 107 618970019642690137449563622) [88, 16] (s1 := ⟨.bot :: I vn2 :: .pt 16 0 :: .bot :: .bot :: .ow 88 :: I y3 :: I y5 :: I x7 :: .bot :: I y16 :: bt 78 (Bo b26 :: bt 17 []), [(88, .arr 34 2 (j17.map c34)), (16, .box [Ti f1.1, Ti f1.2.1, Ti f1.2.2])]⟩) ?_ ?_
      ·refine L0 rfl rfl (E_move (I y16) rfl (by kernel_rfl)) ?_
       refine L0 rfl rfl (Y0_gtw (k := .i64) (a := y16) (b := 0) rfl (by kernel_rfl) (by kernel_rfl)) ?_
       refine L0 rfl rfl (E_move (Bo (ltI 0 y16)) rfl (by kernel_rfl)) ?_
       refine XL_split (ltI 0 y16) (fun hc24 => ?_) (fun hc24 => ?_)
       ·have hb26 := of_true hb26 hc24
        obtain ⟨z25, hz25, hb26⟩ := of_bind hb26
        have hb26 := some_inj hb26
        refine XL_takeC _ rfl rfl (by kernel_rfl) hc24 (X_of_Y0 rfl (E_field (.pt 16 1) Try.underlying45 rfl sz3 rfl (by kernel_rfl) (by intro hh; cases hh))) ?_
        refine XL_takeC _ rfl rfl (by kernel_rfl) hc24 (X_of_Y0 rfl (Y0_load1 (c := Ti f1.2.1) (cs := [Ti f1.2.2]) sc3 rfl (by kernel_rfl))) ?_
        refine XL_takeC _ rfl rfl (by kernel_rfl) hc24 (X_of_Y0 rfl (Y0_neg64 (a := f1.2.1) rfl (by kernel_rfl))) ?_
        refine XL_takeC _ rfl rfl (by kernel_rfl) hc24 (X_of_Y0 rfl (E_move (I x7) rfl (by kernel_rfl))) ?_
        refine XL_takeC _ rfl rfl (by kernel_rfl) hc24 (X_of_Y0 rfl (Y0_mul64 (a := w64 (0 - f1.2.1)) (b := x7) rfl (by kernel_rfl) (by kernel_rfl))) ?_
        refine XL_takeC _ rfl rfl (by kernel_rfl) hc24 (X_of_Y0 rfl (E_move (I y16) rfl (by kernel_rfl))) ?_
        refine XL_takeC _ rfl rfl (by kernel_rfl) hc24 (X_of_Y0 rfl (Y0_add64 (a := w64 ((w64 (0 - f1.2.1)) * x7)) (b := y16) rfl (by kernel_rfl) (by kernel_rfl))) ?_
        refine XL_takeC _ rfl rfl (by kernel_rfl) hc24 (X_of_Y0 rfl (E_field (.pt 16 2) Try.underlying45 rfl sz3 rfl (by kernel_rfl) (by intro hh; cases hh))) ?_
        refine XL_takeC _ rfl rfl (by kernel_rfl) hc24 (X_of_Y0 rfl (Y0_load1 (c := Ti f1.2.2) (cs := []) sc3 rfl (by kernel_rfl))) ?_
        refine XL_takeC _ rfl rfl (by kernel_rfl) hc24 (X_of_Y0 rfl (Y0_mul64 (a := 2) (b := f1.2.2) rfl (by kernel_rfl) (by kernel_rfl))) ?_
        refine XL_takeC _ rfl rfl (by kernel_rfl) hc24 (X_of_Y0 rfl (Y0_rem (k := .i64) (a := w64 ((w64 ((w64 (0 - f1.2.1)) * x7)) + y16)) (b := w64 (2 * f1.2.2)) rfl (by kernel_rfl) (by kernel_rfl) (nz_some hz25))) ?_
        refine XL_takeC _ rfl rfl (by kernel_rfl) hc24 (X_of_Y0 rfl (Y0_eqw (k := .i64) (a := Int.tmod (w64 ((w64 ((w64 (0 - f1.2.1)) * x7)) + y16)) (w64 (2 * f1.2.2))) (b := 0) rfl (by kernel_rfl) (by kernel_rfl))) ?_
        refine XL_cons rfl (X_of_Y0 rfl (Y0_pickTe (b := ltI 0 y16) (p := eqI (Int.tmod (w64 ((w64 ((w64 (0 - f1.2.1)) * x7)) + y16)) (w64 (2 * f1.2.2))) 0) rfl (by kernel_rfl) hc24 (by kernel_rfl) hb26)) ?_
        refine XL_nil ?_
        kernel_rfl
       ·have hb26 := some_inj (of_false hb26 hc24)
        refine XL_skipT _ rfl rfl (by kernel_rfl) hc24 rfl ?_
        refine XL_skipT _ rfl rfl (by kernel_rfl) hc24 rfl ?_
        refine XL_skipT _ rfl rfl (by kernel_rfl) hc24 rfl ?_
        refine XL_skipT _ rfl rfl (by kernel_rfl) hc24 rfl ?_
        refine XL_skipT _ rfl rfl (by kernel_rfl) hc24 rfl ?_
        refine XL_skipT _ rfl rfl (by kernel_rfl) hc24 rfl ?_
        refine XL_skipT _ rfl rfl (by kernel_rfl) hc24 rfl ?_
        refine XL_skipT _ rfl rfl (by kernel_rfl) hc24 rfl ?_
        refine XL_skipT _ rfl rfl (by kernel_rfl) hc24 rfl ?_
        refine XL_skipT _ rfl rfl (by kernel_rfl) hc24 rfl ?_
        refine XL_skipT _ rfl rfl (by kernel_rfl) hc24 rfl ?_
        refine XL_skipT _ rfl rfl (by kernel_rfl) hc24 rfl ?_
        refine XL_cons rfl (X_of_Y0 rfl (Y0_pickFe (b := ltI 0 y16) (p := false) rfl (by kernel_rfl) hc24 (by kernel_rfl) hb26)) ?_
        refine XL_nil ?_
        kernel_rfl
      refine V_cond rfl (fun hc27 => ?_) (fun hc27 => ?_)
      ·have h := of_true h hc27
       obtain ⟨z28, hz28, h⟩ := of_bind h
       obtain ⟨u29, hu29, h⟩ := of_bind h
       obtain ⟨l30, hl30, h⟩ := of_bind h
       have hl30 := some_inj hl30
       refine V_reg (mb 107 486) [88, 16] (s1 := ⟨.bot :: I vn2 :: .pt 16 0 :: .bot :: .bot :: .ow 88 :: I y3 :: I y5 :: I x7 :: bt 98 [], [(88, .arr 34 2 (l30.map c34)), (16, .box [Ti f1.1, Ti f1.2.1, Ti f1.2.2])]⟩) ?_ ?_
       ·refine L0 rfl rfl (E_move (.ow 88) rfl (by kernel_rfl)) ?_
        refine L0 rfl rfl (E_move (I x7) rfl (by kernel_rfl)) ?_
        refine L0 rfl rfl (E_field (.pt 16 1) Try.underlying45 rfl sz3 rfl (by kernel_rfl) (by intro hh; cases hh)) ?_
        refine L0 rfl rfl (Y0_load1 (c := Ti f1.2.1) (cs := [Ti f1.2.2]) sc3 rfl (by kernel_rfl)) ?_
        refine L0 rfl rfl (Y0_neg64 (a := f1.2.1) rfl (by kernel_rfl)) ?_
        refine L0 rfl rfl (E_move (I x7) rfl (by kernel_rfl)) ?_
        refine L0 rfl rfl (Y0_mul64 (a := w64 (0 - f1.2.1)) (b := x7) rfl (by kernel_rfl) (by kernel_rfl)) ?_
        refine L0 rfl rfl (E_move (I y16) rfl (by kernel_rfl)) ?_
        refine L0 rfl rfl (Y0_add64 (a := w64 ((w64 (0 - f1.2.1)) * x7)) (b := y16) rfl (by kernel_rfl) (by kernel_rfl)) ?_
        refine L0 rfl rfl (E_field (.pt 16 2) Try.underlying45 rfl sz3 rfl (by kernel_rfl) (by intro hh; cases hh)) ?_
        refine L0 rfl rfl (Y0_load1 (c := Ti f1.2.2) (cs := []) sc3 rfl (by kernel_rfl)) ?_
        refine L0 rfl rfl (Y0_mul64 (a := 2) (b := f1.2.2) rfl (by kernel_rfl) (by kernel_rfl)) ?_
        refine L0 rfl rfl (Y0_quo64 (a := w64 ((w64 ((w64 (0 - f1.2.1)) * x7)) + y16)) (b := w64 (2 * f1.2.2)) rfl (by kernel_rfl) (by kernel_rfl) (nz_some hz28)) ?_
        refine L0 rfl rfl (Y0_build (cs := [Ti x7, Ti (w64 (Int.tdiv (w64 ((w64 ((w64 (0 - f1.2.1)) * x7)) + y16)) (w64 (2 * f1.2.2))))]) pl34 bt34 rfl rfl (by kernel_rfl)) ?_
        refine L1 rfl rfl (Y1_bslice (z := zv34) (els := [(x7, w64 (Int.tdiv (w64 ((w64 ((w64 (0 - f1.2.1)) * x7)) + y16)) (w64 (2 * f1.2.2))))].map c34) Try.underlying71 iz34 rfl (by decide) rfl (by kernel_rfl) rfl (by simp [c34]) (by decide) (by decide)) ?_
        refine XL_cons rfl (X_appendM (c := c34) (xs := j17) (ys := [(x7, w64 (Int.tdiv (w64 ((w64 ((w64 (0 - f1.2.1)) * x7)) + y16)) (w64 (2 * f1.2.2))))]) (id := 88) (z := zv34) rfl rfl Try.underlying71 izb34 rfl (by kernel_rfl) (by kernel_rfl) (by kernel_rfl) (fun _ => rfl) (by simp) (room_some hu29) (by decide)) ?_
        refine L0 rfl rfl (E_assign (.ow 88) rfl (by kernel_rfl)) ?_
        refine XL_nil ?_
        subst hl30
        kernel_rfl
       show V _ _ _ _
       obtain ⟨x31, hx31, h⟩ := of_sI h
       refine V_reg (mb 107 486) [88, 16] (s1 := ⟨.bot :: I vn2 :: .pt 16 0 :: .bot :: .bot :: .ow 88 :: I y3 :: I y5 :: I x31 :: bt 98 [], [(88, .arr 34 2 (l30.map c34)), (16, .box [Ti f1.1, Ti f1.2.1, Ti f1.2.2])]⟩) ?_ ?_
       ·refine L0 rfl rfl (E_move (I x7) rfl (by kernel_rfl)) ?_
        refine L0 rfl rfl (Y0_add64 (a := x7) (b := 1) rfl (by kernel_rfl) (by kernel_rfl)) ?_
        refine L0 rfl rfl (E_assign (I (w64 (x7 + 1))) rfl (by kernel_rfl)) ?_
        refine XL_nil ?_
        subst hx31
        kernel_rfl
       exact ⟨n, Nat.lt_succ_self n, _, _,  by rfl, h⟩
      ·have h := of_false h hc27
       refine V_skip ?_
       show V _ _ _ _
       obtain ⟨x32, hx32, h⟩ := of_sI h
       refine V_reg (mb 107 486) [88, 16] (s1 := ⟨.bot :: I vn2 :: .pt 16 0 :: .bot :: .bot :: .ow 88 :: I y3 :: I y5 :: I x32 :: bt 98 [], [(88, .arr 34 2 (j17.map c34)), (16, .box [Ti f1.1, Ti f1.2.1, Ti f1.2.2])]⟩) ?_ ?_
       ·refine L0 rfl rfl (E_move (I x7) rfl (by kernel_rfl)) ?_
        refine L0 rfl rfl (Y0_add64 (a := x7) (b := 1) rfl (by kernel_rfl) (by kernel_rfl)) ?_
        refine L0 rfl rfl (E_assign (I (w64 (x7 + 1))) rfl (by kernel_rfl)) ?_
        refine XL_nil ?_
        subst hx32
        kernel_rfl
       exact ⟨n, Nat.lt_succ_self n, _, _,  by rfl, h⟩
    ·have h := of_false h hc11
     refine V_exit ?_
     obtain rfl := some_inj h
     show St.keep _ _ _ = _
     rfl
  show V _ _ _ _
  refine V_sreg (mb 107 16) [88] (s1 := ⟨bt 4 (.ow 88 :: bt 102 []), [(88, .arr 34 2 (o10.map c34))]⟩) ?_ ?_
  ·refine L0 rfl rfl (E_move (.ow 88) rfl (by kernel_rfl)) ?_
   refine L0 rfl rfl (E_assign (.ow 88) rfl (by kernel_rfl)) ?_
   refine XL_nil ?_
   kernel_rfl
  refine V_ret ?_
  obtain rfl := some_inj h
  show Post _ _ _ _ _
  exact ⟨.inr rfl, rfl, rfl, rfl⟩
theorem cf_impl_Form_theta : ∀ args w, (callFunc 90 args).run Try.prog w = .ok (.enter 90 args) w := run_callFunc Try.func90 (by kernel_rfl) (by kernel_rfl)
set_option maxRecDepth 100000 in
set_option maxHeartbeats 400000 in
theorem s_impl_Form_theta {f1 : (Int × Int × Int)} {vn2 : Int} {r : List Int} (h : r_impl_Form_theta f1 vn2 = some r) : CallS Try.prog 90 [.ag [Ti f1.1, Ti f1.2.1, Ti f1.2.2], I vn2] (.ow 0) [(0, .arr 3 1 (r.map c3))] := by
  refine CallS_of_text (rs := [.t 4]) (vs := [.tmp 4]) Try.func90 rfl rfl (.cons rfl FitsL.nil) (by decide) 24 rfl ?_
  unfold r_impl_Form_theta at h
  show V _ _ ⟨.ag [Ti f1.1, Ti f1.2.1, Ti f1.2.2] :: I vn2 :: bt 22 [], []⟩ _
  refine V_sreg (mb 24 6) [16] (s1 := ⟨.bot :: I vn2 :: .pt 16 0 :: bt 21 [], [(16, .box [Ti f1.1, Ti f1.2.1, Ti f1.2.2])]⟩) ?_ ?_
  ·refine L1 rfl rfl (Y1_box (cs := [Ti f1.1, Ti f1.2.1, Ti f1.2.2]) rfl (by kernel_rfl)) ?_
   refine L1 rfl rfl (Y1_nil (e := 3) 1 (by decide) (.inl rfl)) ?_
   refine XL_nil ?_
   kernel_rfl
  obtain ⟨y3, hy3, h⟩ := of_bind h
  refine V_sreg (mb 24 34) [40] (s1 := ⟨.bot :: I vn2 :: bt 3 (.pt 40 0 :: bt 18 []), [(40, .box [Ti y3.1, Ti y3.2.1, Ti y3.2.2])]⟩) ?_ ?_
  ·refine L0 rfl rfl (E_loadn (cs := [Ti f1.1, Ti f1.2.1, Ti f1.2.2]) [Ti f1.1, Ti f1.2.1, Ti f1.2.2] wd45 rfl (by kernel_rfl) (Nat.le_of_ble_eq_true rfl) (by kernel_rfl)) ?_
   refine L1 rfl rfl (Y1_call (s_impl_reduced hy3) cf_impl_reduced rfl (by kernel_rfl)) ?_
   refine L1 rfl rfl (Y1_alloc (z := zv45) rfl zf45 rfl) ?_
   refine XL_cons rfl (E_store (id := 40) (off := 0) (cs := [Ti 0, Ti 0, Ti 0]) (vc := [Ti y3.1, Ti y3.2.1, Ti y3.2.2]) [Ti y3.1, Ti y3.2.1, Ti y3.2.2] rfl rfl (by kernel_rfl) (by kernel_rfl) (by kernel_rfl) sz45 (Nat.le_of_ble_eq_true rfl) (by kernel_rfl)) ?_
   refine XL_nil ?_
   kernel_rfl
  refine V_sreg (mb 24 98) [80, 40] (s1 := ⟨.bot :: I vn2 :: bt 3 (.pt 40 0 :: .ow 80 :: bt 17 []), [(80, .arr 3 1 (([1]).map c3)), (40, .box [Ti y3.1, Ti y3.2.1, Ti y3.2.2])]⟩) ?_ ?_
  ·refine L1 rfl rfl (Y1_bslice (z := zv3) (els := [1].map c3) Try.underlying41 iz3 rfl (by decide) rfl (by kernel_rfl) rfl (by simp [c3]) (by decide) (by decide)) ?_
   refine L0 rfl rfl (E_assign (.ow 80) rfl (by kernel_rfl)) ?_
   refine XL_nil ?_
   kernel_rfl
  refine V_seq ?_
  refine V_sreg (mb 24 226) [80, 40] (s1 := ⟨.bot :: I vn2 :: bt 3 (.pt 40 0 :: .ow 80 :: I 1 :: bt 16 []), [(80, .arr 3 1 (([1]).map c3)), (40, .box [Ti y3.1, Ti y3.2.1, Ti y3.2.2])]⟩) ?_ ?_
  ·refine L0 rfl rfl (E_assign (I 1) rfl (by kernel_rfl)) ?_
   refine XL_nil ?_
   kernel_rfl
  obtain ⟨o7, hLo7, h⟩ := of_bind h
  refine V_toK (mb 24 64) [80] (s1 := ⟨bt 6 (.ow 80 :: bt 17 []), [(80, .arr 3 1 (o7.map c3))]⟩) ?_ ?_
  ·clear h
   refine V_block (V_loop (fun n s => ∃ (vm4 : Int) (l5 : List Int), s.keep (mb 24 226) [80, 40] = (⟨.bot :: I vn2 :: bt 3 (.pt 40 0 :: .ow 80 :: I vm4 :: bt 16 []), [(80, .arr 3 1 (l5.map c3)), (40, .box [Ti y3.1, Ti y3.2.1, Ti y3.2.2])]⟩ : St) ∧ r_impl_Form_theta_L6 vn2 y3 n vm4 l5 = some o7) FU ⟨_, _,  by rfl, hLo7⟩ ?_)
   clear hLo7
   rintro n s ⟨vm4, l5, hs, h⟩
   refine V_keep _ _ hs ?_
   clear hs
   cases n with
   | zero => cases h
   | succ n =>
    rw [r_impl_Form_theta_L6] at h
    refine V_seq ?_
    refine V_sreg (mb 24 8418) [80, 40] (s1 := ⟨.bot :: I vn2 :: bt 3 (.pt 40 0 :: .ow 80 :: I vm4 :: bt 5 (Bo (leI vm4 vn2) :: bt 10 [])), [(80, .arr 3 1 (l5.map c3)), (40, .box [Ti y3.1, Ti y3.2.1, Ti y3.2.2])]⟩) ?_ ?_
    ·refine L0 rfl rfl (E_move (I vm4) rfl (by kernel_rfl)) ?_
     refine L0 rfl rfl (E_move (I vn2) rfl (by kernel_rfl)) ?_
     refine L0 rfl rfl (Y0_lew (k := .i64) (a := vm4) (b := vn2) rfl (by kernel_rfl) (by kernel_rfl)) ?_
     refine XL_nil ?_
     kernel_rfl
    refine V_cond rfl (fun hc8 => ?_) (fun hc8 => ?_)
    ·have h := of_true h hc8
     refine V_skip ?_
     show V _ _ _ _
     refine V_seq ?_
     refine V_block ?_
     obtain ⟨y9, hy9, h⟩ := of_bind h
     obtain ⟨u10, hu10, h⟩ := of_bind h
     refine V_reg (mb 24 226) [80, 40] (s1 := ⟨.bot :: I vn2 :: bt 3 (.pt 40 0 :: .ow 80 :: I vm4 :: bt 16 []), [(80, .arr 3 1 ((l5 ++ ([(y9.length : Int)])).map c3)), (40, .box [Ti y3.1, Ti y3.2.1, Ti y3.2.2])]⟩) ?_ ?_
     ·refine L0 rfl rfl (E_move (.ow 80) rfl (by kernel_rfl)) ?_
      refine L0 rfl rfl (E_loadn (cs := [Ti y3.1, Ti y3.2.1, Ti y3.2.2]) [Ti y3.1, Ti y3.2.1, Ti y3.2.2] wd45 rfl (by kernel_rfl) (Nat.le_of_ble_eq_true rfl) (by kernel_rfl)) ?_
      refine L0 rfl rfl (E_move (I vm4) rfl (by kernel_rfl)) ?_
      refine L1 rfl rfl (Y1_call (s_impl_Form_points hy9) cf_impl_Form_points rfl (by kernel_rfl)) ?_
      refine L0 rfl rfl (Y0_lenM (c := c34) (xs := y9) Try.underlying71 rfl (by kernel_rfl)) ?_
      refine L1 rfl rfl (Y1_bslice (z := zv3) (els := [(y9.length : Int)].map c3) Try.underlying41 iz3 rfl (by decide) rfl (by kernel_rfl) rfl (by simp [c3]) (by decide) (by decide)) ?_
      refine XL_cons rfl (X_appendM (c := c3) (xs := l5) (ys := [(y9.length : Int)]) (id := 80) (z := zv3) rfl rfl Try.underlying41 izb3 rfl (by kernel_rfl) (by kernel_rfl) (by kernel_rfl) (fun _ => rfl) (by simp) (room_some hu10) (by decide)) ?_
      refine L0 rfl rfl (E_assign (.ow 80) rfl (by kernel_rfl)) ?_
      refine XL_nil ?_
      kernel_rfl
     show V _ _ _ _
     obtain ⟨vm11, hvm11, h⟩ := of_sI h
     refine V_reg (mb 24 226) [80, 40] (s1 := ⟨.bot :: I vn2 :: bt 3 (.pt 40 0 :: .ow 80 :: I vm11 :: bt 16 []), [(80, .arr 3 1 ((l5 ++ ([(y9.length : Int)])).map c3)), (40, .box [Ti y3.1, Ti y3.2.1, Ti y3.2.2])]⟩) ?_ ?_
     ·refine L0 rfl rfl (E_move (I vm4) rfl (by kernel_rfl)) ?_
      refine L0 rfl rfl (Y0_add64 (a := vm4) (b := 1) rfl (by kernel_rfl) (by kernel_rfl)) ?_
      refine L0 rfl rfl (E_assign (I (w64 (vm4 + 1))) rfl (by kernel_rfl)) ?_
      refine XL_nil ?_
      subst hvm11
      kernel_rfl
     exact ⟨n, Nat.lt_succ_self n, _, _,  by rfl, h⟩
    ·have h := of_false h hc8
     refine V_exit ?_
     obtain rfl := some_inj h
     show St.keep _ _ _ = _
     rfl
  show V _ _ _ _
  refine V_sreg (mb 24 16) [80] (s1 := ⟨bt 4 (.ow 80 :: bt 19 []), [(80, .arr 3 1 (o7.map c3))]⟩) ?_ ?_
  ·refine L0 rfl rfl (E_move (.ow 80) rfl (by kernel_rfl)) ?_
   refine L0 rfl rfl (E_assign (.ow 80) rfl (by kernel_rfl)) ?_
   refine XL_nil ?_
   kernel_rfl
  refine V_ret ?_
  obtain rfl := some_inj h
  show Post _ _ _ _ _
  exact ⟨.inr rfl, rfl, rfl, rfl⟩
theorem cf_impl_product : ∀ args w, (callFunc 89 args).run Try.prog w = .ok (.enter 89 args) w := run_callFunc Try.func89 (by kernel_rfl) (by kernel_rfl)
set_option maxRecDepth 100000 in
set_option maxHeartbeats 400000 in
theorem s_impl_product {a1 : List Int} {b2 : List Int} {r : List Int} (h : r_impl_product a1 b2 = some r) : CallS Try.prog 89 [.c (.sl (a1.map c3)), .c (.sl (b2.map c3))] (.ow 0) [(0, .arr 3 1 (r.map c3))] := by
  refine CallS_of_text (rs := [.t 4]) (vs := [.tmp 4]) Try.func89 rfl rfl (.cons rfl FitsL.nil) (by decide) 43 rfl ?_
  unfold r_impl_product at h
  show V _ _ ⟨.c (.sl (a1.map c3)) :: .c (.sl (b2.map c3)) :: bt 41 [], []⟩ _
  refine V_sreg (mb 43 3) [] (s1 := ⟨.c (.sl (a1.map c3)) :: .c (.sl (b2.map c3)) :: bt 41 [], []⟩) ?_ ?_
  ·refine L1 rfl rfl (Y1_nil (e := 3) 1 (by decide) (.inl rfl)) ?_
   refine XL_nil ?_
   kernel_rfl
  obtain ⟨u3, hu3, h⟩ := of_bind h
  obtain ⟨l4, hl4, h⟩ := of_bind h
  have hl4 := some_inj hl4
  refine V_sreg (mb 43 35) [104] (s1 := ⟨.c (.sl (a1.map c3)) :: .c (.sl (b2.map c3)) :: bt 3 (.ow 104 :: bt 37 []), [(104, .arr 3 1 (l4.map c3))]⟩) ?_ ?_
  ·refine L0 rfl rfl (E_move (.c (.sl (a1.map c3))) rfl (by kernel_rfl)) ?_
   refine L0 rfl rfl (Y0_lenM (c := c3) (xs := a1) Try.underlying41 rfl (by kernel_rfl)) ?_
   refine L0 rfl rfl (E_move (.c (.sl (b2.map c3))) rfl (by kernel_rfl)) ?_
   refine L0 rfl rfl (Y0_lenM (c := c3) (xs := b2) Try.underlying41 rfl (by kernel_rfl)) ?_
   refine L0 rfl rfl (Y0_min (a := (a1.length : Int)) (b := (b2.length : Int)) rfl (by kernel_rfl) (by kernel_rfl)) ?_
   refine L1 rfl rfl (Y1_make (c := c3) (zx := (0 : Int)) (z := zv3) (l := mnI ((a1.length : Int)) ((b2.length : Int))) (k := mnI ((a1.length : Int)) ((b2.length : Int))) Try.underlying41 izb3 rfl rfl (by decide) rfl rfl (by kernel_rfl) (by kernel_rfl) (mk_some hu3) (by decide)) ?_
   refine L0 rfl rfl (E_assign (.ow 104) rfl (by kernel_rfl)) ?_
   refine XL_nil ?_
   subst hl4
   kernel_rfl
  refine V_seq ?_
  refine V_sreg (mb 43 98339) [104] (s1 := ⟨.c (.sl (a1.map c3)) :: .c (.sl (b2.map c3)) :: bt 3 (.ow 104 :: bt 9 (I ((l4.length : Int)) :: I 0 :: bt 26 [])), [(104, .arr 3 1 (l4.map c3))]⟩) ?_ ?_
  ·refine L0 rfl rfl (E_move (.ow 104) rfl (by kernel_rfl)) ?_
   refine L0 rfl rfl (Y0_lenM (c := c3) (xs := l4) Try.underlying41 rfl (by kernel_rfl)) ?_
   refine L0 rfl rfl (E_move (I 0) rfl (by kernel_rfl)) ?_
   refine XL_nil ?_
   kernel_rfl
  obtain ⟨o8, hLo8, h⟩ := of_bind h
  refine V_toK (mb 43 32) [104] (s1 := ⟨bt 5 (.ow 104 :: bt 37 []), [(104, .arr 3 1 (o8.map c3))]⟩) ?_ ?_
  ·clear h
   refine V_block (V_loop (fun n s => ∃ (t5 : Int) (l6 : List Int), s.keep (mb 43 98339) [104] = (⟨.c (.sl (a1.map c3)) :: .c (.sl (b2.map c3)) :: bt 3 (.ow 104 :: bt 9 (I ((l4.length : Int)) :: I t5 :: bt 26 [])), [(104, .arr 3 1 (l6.map c3))]⟩ : St) ∧ r_impl_product_L7 a1 b2 l4 n t5 l6 = some o8) FU ⟨_, _,  by rfl, hLo8⟩ ?_)
   clear hLo8
   rintro n s ⟨t5, l6, hs, h⟩
   refine V_keep _ _ hs ?_
   clear hs
   cases n with
   | zero => cases h
   | succ n =>
    rw [r_impl_product_L7] at h
    refine V_sreg (mb 43 229411) [104] (s1 := ⟨.c (.sl (a1.map c3)) :: .c (.sl (b2.map c3)) :: bt 3 (.ow 104 :: bt 9 (I ((l4.length : Int)) :: I t5 :: Bo (ltI t5 ((l4.length : Int))) :: bt 25 [])), [(104, .arr 3 1 (l6.map c3))]⟩) ?_ ?_
    ·refine L0 rfl rfl (Y0_ltw (k := .i64) (a := t5) (b := (l4.length : Int)) rfl (by kernel_rfl) (by kernel_rfl)) ?_
     refine XL_nil ?_
     kernel_rfl
    refine V_seq ?_
    refine V_cond rfl (fun hc9 => ?_) (fun hc9 => ?_)
    ·have h := of_true h hc9
     refine V_skip ?_
     show V _ _ _ _
     refine V_seq ?_
     refine V_block ?_
     refine V_sreg (mb 43 98403) [104] (s1 := ⟨.c (.sl (a1.map c3)) :: .c (.sl (b2.map c3)) :: bt 3 (.ow 104 :: I t5 :: bt 8 (I ((l4.length : Int)) :: I t5 :: bt 26 [])), [(104, .arr 3 1 (l6.map c3))]⟩) ?_ ?_
     ·refine L0 rfl rfl (E_move (I t5) rfl (by kernel_rfl)) ?_
      refine L0 rfl rfl (E_assign (I t5) rfl (by kernel_rfl)) ?_
      refine XL_nil ?_
      kernel_rfl
     refine V_sreg (mb 43 98531) [104] (s1 := ⟨.c (.sl (a1.map c3)) :: .c (.sl (b2.map c3)) :: bt 3 (.ow 104 :: I t5 :: I 0 :: bt 7 (I ((l4.length : Int)) :: I t5 :: bt 26 [])), [(104, .arr 3 1 (l6.map c3))]⟩) ?_ ?_
     ·refine L0 rfl rfl (E_assign (I 0) rfl (by kernel_rfl)) ?_
      refine XL_nil ?_
      kernel_rfl
     obtain ⟨o13, hLo13, h⟩ := of_bind h
     refine V_toK (mb 43 98339) [104] (s1 := ⟨.c (.sl (a1.map c3)) :: .c (.sl (b2.map c3)) :: bt 3 (.ow 104 :: bt 9 (I ((l4.length : Int)) :: I t5 :: bt 26 [])), [(104, .arr 3 1 (o13.map c3))]⟩) ?_ ?_
     ·clear h
      refine V_block (V_loop (fun n s => ∃ (i10 : Int) (l11 : List Int), s.keep (mb 43 98531) [104] = (⟨.c (.sl (a1.map c3)) :: .c (.sl (b2.map c3)) :: bt 3 (.ow 104 :: I t5 :: I i10 :: bt 7 (I ((l4.length : Int)) :: I t5 :: bt 26 [])), [(104, .arr 3 1 (l11.map c3))]⟩ : St) ∧ r_impl_product_L12 a1 b2 l4 t5 n i10 l11 = some o13) FU ⟨_, _,  by rfl, hLo13⟩ ?_)
      clear hLo13
      rintro n s ⟨i10, l11, hs, h⟩
      refine V_keep _ _ hs ?_
      clear hs
      cases n with
      | zero => cases h
      | succ n =>
       rw [r_impl_product_L12] at h
       refine V_seq ?_
       refine V_sreg (mb 43 2195683) [104] (s1 := ⟨.c (.sl (a1.map c3)) :: .c (.sl (b2.map c3)) :: bt 3 (.ow 104 :: I t5 :: I i10 :: bt 7 (I ((l4.length : Int)) :: I t5 :: bt 4 (Bo (leI i10 t5) :: bt 21 []))), [(104, .arr 3 1 (l11.map c3))]⟩) ?_ ?_
       ·refine L0 rfl rfl (E_move (I i10) rfl (by kernel_rfl)) ?_
        refine L0 rfl rfl (E_move (I t5) rfl (by kernel_rfl)) ?_
        refine L0 rfl rfl (Y0_lew (k := .i64) (a := i10) (b := t5) rfl (by kernel_rfl) (by kernel_rfl)) ?_
        refine XL_nil ?_
        kernel_rfl
       refine V_cond rfl (fun hc14 => ?_) (fun hc14 => ?_)
       ·have h := of_true h hc14
        refine V_skip ?_
        show V _ _ _ _
        refine V_seq ?_
        refine V_block ?_
        obtain ⟨e15, he15, h⟩ := of_bind h
        obtain ⟨e16, he16, h⟩ := of_bind h
        obtain ⟨e17, he17, h⟩ := of_bind h
        obtain ⟨e18, he18, h⟩ := of_bind h
        obtain ⟨e19, he19, h⟩ := of_bind h
        obtain ⟨e20, he20, h⟩ := of_bind h
        refine V_dreg [0, 0, 3, 7, 0, 0, 48, 112, 0, 0, 0, 1536, 3840, 7936, 16368, 32767, 65535, 131071] 17 [[.z, .b, .z, .z, .b, .b, .b, .b, .b, .b, .b, .b, .b, .b, .b, .z, .z], [.b, .z, .z, .z, .b, .b, .b, .b, .b, .b, .b, .b, .b, .b, .b, .z, .z], [.a, .a, .z, .z, .b, .b, .b, .b, .b, .b, .b, .b, .b, .b, .b, .z, .z], [.a, .a, .a, .z, .b, .b, .b, .b, .b, .b, .b, .b, .b, .b, .b, .z, .z], [.b, .b, .b, .b, .z, .b, .z, .z, .b, .b, .b, .b, .b, .b, .z, .z, .z], [.b, .b, .b, .b, .b, .z, .z, .z, .b, .b, .b, .b, .b, .b, .z, .z, .z], [.b, .b, .b, .b, .a, .a, .z, .z, .b, .b, .b, .b, .b, .b, .z, .z, .z], [.b, .b, .b, .b, .a, .a, .a, .z, .b, .b, .b, .b, .b, .b, .z, .z, .z], [.b, .b, .b, .b, .b, .b, .b, .b, .z, .b, .b, .b, .z, .z, .z, .z, .z], [.b, .b, .b, .b, .b, .b, .b, .b, .b, .z, .b, .z, .z, .z, .z, .z, .z], [.b, .b, .b, .b, .b, .b, .b, .b, .b, .b, .z, .z, .z, .z, .z, .z, .z], [.b, .b, .b, .b, .b, .b, .b, .b, .b, .a, .a, .z, .z, .z, .z, .z, .z], [.b, .b, .b, .b, .b, .b, .b, .b, .a, .a, .a, .a, .z, .z, .z, .z, .z], [.b, .b, .b, .b, .b, .b, .b, .b, .a, .a, .a, .a, .a, .z, .z, .z, .z], [.b, .b, .b, .b, .a, .a, .a, .a, .a, .a, .a, .a, .a, .a, .z, .z, .z], [.a, .a, .a, .a, .a, .a, .a, .a, .a, .a, .a, .a, .a, .a, .a, .z, .z], [.a, .a, .a, .a, .a, .a, .a, .a, .a, .a, .a, .a, .a, .a, .a, .a, .z]] (mb 43 98531) [104] (s1 := ⟨.c (.sl (a1.map c3)) :: .c (.sl (b2.map c3)) :: bt 3 (.ow 104 :: I t5 :: I i10 :: bt 7 (I ((l4.length : Int)) :: I t5 :: bt 26 [])), [(104, .arr 3 1 ((l11.set (Int.toNat (t5)) (w64 (e16 + (w64 (e17 * e18))))).map c3))]⟩) (by kernel_rfl) (by kernel_rfl) ?_ ?_
        ·refine DE_0 0 (.ow 104) (by kernel_rfl) rfl rfl rfl (gsat_none rfl) (by kernel_rfl) (E_move (.ow 104) rfl (by kernel_rfl)) 24 rfl ?_
         refine DE_0 1 (I t5) (by kernel_rfl) rfl rfl rfl (gsat_none rfl) (by kernel_rfl) (E_move (I t5) rfl (by kernel_rfl)) 25 rfl ?_
         refine DE_0 2 (.po 104 1 (Int.toNat (t5)) 0) (by kernel_rfl) rfl rfl rfl (gsat_none rfl) (by kernel_rfl) (Y0_idxoM (c := c3) (xs := l11) (v := e15) (id := 104) (T := 3) (sz := 1) (n := t5) Try.underlying41 sz3 rfl (by kernel_rfl) (by kernel_rfl) (by kernel_rfl) he15) 26 rfl ?_
         refine DE_0 3 (I e16) (by kernel_rfl) rfl rfl rfl (gsat_none rfl) (by kernel_rfl) (Y0_loado1 (c := c3) (xs := l11) (v := e16) (id := 104) (sz := 1) (T := 3) (off := 0) (n := t5) (d := Ti e16) (ds := []) sc3 rfl (by kernel_rfl) (by kernel_rfl) he16 (by kernel_rfl)) 27 rfl ?_
         refine DE_0 4 (.c (.sl (a1.map c3))) (by kernel_rfl) rfl rfl rfl (gsat_none rfl) (by kernel_rfl) (E_move (.c (.sl (a1.map c3))) rfl (by kernel_rfl)) 28 rfl ?_
         refine DE_0 5 (I i10) (by kernel_rfl) rfl rfl rfl (gsat_none rfl) (by kernel_rfl) (E_move (I i10) rfl (by kernel_rfl)) 29 rfl ?_
         refine DE_0 6 (.pe [Ti e17]) (by kernel_rfl) rfl rfl rfl (gsat_none rfl) (by kernel_rfl) (Y0_idxM (c := c3) (xs := a1) (v := e17) (n := i10) Try.underlying41 sz3 rfl (by kernel_rfl) (by kernel_rfl) he17) 30 rfl ?_
         refine DE_0 7 (I e17) (by kernel_rfl) rfl rfl rfl (gsat_none rfl) (by kernel_rfl) (Y0_load1 (c := Ti e17) (cs := []) sc3 rfl (by kernel_rfl)) 31 rfl ?_
         refine DE_0 8 (.c (.sl (b2.map c3))) (by kernel_rfl) rfl rfl rfl (gsat_none rfl) (by kernel_rfl) (E_move (.c (.sl (b2.map c3))) rfl (by kernel_rfl)) 32 rfl ?_
         refine DE_0 9 (I t5) (by kernel_rfl) rfl rfl rfl (gsat_none rfl) (by kernel_rfl) (E_move (I t5) rfl (by kernel_rfl)) 33 rfl ?_
         refine DE_0 10 (I i10) (by kernel_rfl) rfl rfl rfl (gsat_none rfl) (by kernel_rfl) (E_move (I i10) rfl (by kernel_rfl)) 34 rfl ?_
         refine DE_0 11 (I (w64 (t5 - i10))) (by kernel_rfl) rfl rfl rfl (gsat_none rfl) (by kernel_rfl) (Y0_sub64 (a := t5) (b := i10) rfl (by kernel_rfl) (by kernel_rfl)) 35 rfl ?_
         refine DE_0 12 (.pe [Ti e18]) (by kernel_rfl) rfl rfl rfl (gsat_none rfl) (by kernel_rfl) (Y0_idxM (c := c3) (xs := b2) (v := e18) (n := w64 (t5 - i10)) Try.underlying41 sz3 rfl (by kernel_rfl) (by kernel_rfl) he18) 36 rfl ?_
         refine DE_0 13 (I e18) (by kernel_rfl) rfl rfl rfl (gsat_none rfl) (by kernel_rfl) (Y0_load1 (c := Ti e18) (cs := []) sc3 rfl (by kernel_rfl)) 37 rfl ?_
         refine DE_0 14 (I (w64 (e17 * e18))) (by kernel_rfl) rfl rfl rfl (gsat_none rfl) (by kernel_rfl) (Y0_mul64 (a := e17) (b := e18) rfl (by kernel_rfl) (by kernel_rfl)) 38 rfl ?_
         refine DE_0 15 (I (w64 (e16 + (w64 (e17 * e18))))) (by kernel_rfl) rfl rfl rfl (gsat_none rfl) (by kernel_rfl) (Y0_add64 (a := e16) (b := w64 (e17 * e18)) rfl (by kernel_rfl) (by kernel_rfl)) 39 rfl ?_
         refine DE_0 16 (.po 104 1 (Int.toNat (t5)) 0) (by kernel_rfl) rfl rfl rfl (gsat_none rfl) (by kernel_rfl) (Y0_idxoM (c := c3) (xs := l11) (v := e19) (id := 104) (T := 3) (sz := 1) (n := t5) Try.underlying41 sz3 rfl (by kernel_rfl) (by kernel_rfl) (by kernel_rfl) he19) 40 rfl ?_
         refine DL_nil (by kernel_rfl) ?_
         refine XL_cons rfl (X_storeoM (c := c3) (xs := l11) (v := e20) (u := w64 (e16 + (w64 (e17 * e18)))) (id := 104) (sz := 1) (off := 0) (T0 := 3) (n := t5) (vc := [Ti (w64 (e16 + (w64 (e17 * e18))))]) rfl rfl (by kernel_rfl) (by kernel_rfl) he20 (by kernel_rfl) sz3 (Nat.le_of_ble_eq_true rfl) (by kernel_rfl)) ?_
         refine XL_nil ?_
         kernel_rfl
        show V _ _ _ _
        obtain ⟨i21, hi21, h⟩ := of_sI h
        refine V_reg (mb 43 98531) [104] (s1 := ⟨.c (.sl (a1.map c3)) :: .c (.sl (b2.map c3)) :: bt 3 (.ow 104 :: I t5 :: I i21 :: bt 7 (I ((l4.length : Int)) :: I t5 :: bt 26 [])), [(104, .arr 3 1 ((l11.set (Int.toNat (t5)) (w64 (e16 + (w64 (e17 * e18))))).map c3))]⟩) ?_ ?_
        ·refine L0 rfl rfl (E_move (I i10) rfl (by kernel_rfl)) ?_
         refine L0 rfl rfl (Y0_add64 (a := i10) (b := 1) rfl (by kernel_rfl) (by kernel_rfl)) ?_
         refine L0 rfl rfl (E_assign (I (w64 (i10 + 1))) rfl (by kernel_rfl)) ?_
         refine XL_nil ?_
         subst hi21
         kernel_rfl
        exact ⟨n, Nat.lt_succ_self n, _, _,  by rfl, h⟩
       ·have h := of_false h hc14
        refine V_exit ?_
        obtain rfl := some_inj h
        show St.keep _ _ _ = _
        rfl
     show V _ _ _ _
     obtain ⟨t22, ht22, h⟩ := of_sI h
     refine V_reg (mb 43 98339) [104] (s1 := ⟨.c (.sl (a1.map c3)) :: .c (.sl (b2.map c3)) :: bt 3 (.ow 104 :: bt 9 (I ((l4.length : Int)) :: I t22 :: bt 26 [])), [(104, .arr 3 1 (o13.map c3))]⟩) ?_ ?_
     ·refine L0 rfl rfl (Y0_add64 (a := t5) (b := 1) rfl (by kernel_rfl) (by kernel_rfl)) ?_
      refine L0 rfl rfl (E_move (I (w64 (t5 + 1))) rfl (by kernel_rfl)) ?_
      refine XL_nil ?_
      subst ht22
      kernel_rfl
     exact ⟨n, Nat.lt_succ_self n, _, _,  by rfl, h⟩
    ·have h := of_false h hc9
     refine V_exit ?_
     obtain rfl := some_inj h
     show St.keep _ _ _ = _
     rfl
  show V _ _ _ _
  refine V_sreg (mb 43 16) [104] (s1 := ⟨bt 4 (.ow 104 :: bt 38 []), [(104, .arr 3 1 (o8.map c3))]⟩) ?_ ?_
  ·refine L0 rfl rfl (E_move (.ow 104) rfl (by kernel_rfl)) ?_
   refine L0 rfl rfl (E_assign (.ow 104) rfl (by kernel_rfl)) ?_
   refine XL_nil ?_
   kernel_rfl
  refine V_ret ?_
  obtain rfl := some_inj h
  show Post _ _ _ _ _
  exact ⟨.inr rfl, rfl, rfl, rfl⟩
theorem cf_impl_checkedSeries : ∀ args w, (callFunc 88 args).run Try.prog w = .ok (.enter 88 args) w := run_callFunc Try.func88 (by kernel_rfl) (by kernel_rfl)
set_option maxRecDepth 100000 in
set_option maxHeartbeats 400000 in
theorem s_impl_checkedSeries {l1 : List Int} {r : ((List Int) × Bool)} (h : r_impl_checkedSeries l1 = some r) : CallS Try.prog 88 [.c (.sl (l1.map c3))] (.tc (.c (.sl (r.1.map c3))) (.tc (Bo r.2) .tn)) [] := by
  refine CallS_of_text (rs := [.t 2, .t 3]) (vs := [.tmp 2, .tmp 3]) Try.func88 rfl rfl (.cons rfl (.cons rfl FitsL.nil)) (by decide) 9 rfl ?_
  unfold r_impl_checkedSeries at h
  show V _ _ ⟨.c (.sl (l1.map c3)) :: bt 8 [], []⟩ _
  refine V_sreg (mb 9 1) [] (s1 := ⟨.c (.sl (l1.map c3)) :: bt 8 [], []⟩) ?_ ?_
  ·refine L1 rfl rfl (Y1_nil (e := 3) 1 (by decide) (.inl rfl)) ?_
   refine L0 rfl rfl (E_assign (Bo false) rfl (by kernel_rfl)) ?_
   refine XL_nil ?_
   kernel_rfl
  refine V_seq ?_
  obtain ⟨y2, hy2, h⟩ := of_bind h
  refine V_sreg (mb 9 65) [] (s1 := ⟨.c (.sl (l1.map c3)) :: bt 5 (Bo (!y2) :: .bot :: .bot :: []), []⟩) ?_ ?_
  ·refine L0 rfl rfl (E_move (.c (.sl (l1.map c3))) rfl (by kernel_rfl)) ?_
   refine L1 rfl rfl (Y1_call (s_impl_areNumbers hy2) cf_impl_areNumbers rfl (by kernel_rfl)) ?_
   refine L0 rfl rfl (Y0_not (b := y2) rfl (by kernel_rfl)) ?_
   refine XL_nil ?_
   kernel_rfl
  refine V_cond rfl (fun hc3 => ?_) (fun hc3 => ?_)
  ·have h := of_true h hc3
   refine V_sreg (mb 9 12) [56] (s1 := ⟨.bot :: .bot :: .ow 56 :: Bo false :: bt 5 [], [(56, .arr 3 1 ((([] : List Int)).map c3))]⟩) ?_ ?_
   ·refine L1 rfl rfl (Y1_bslice0 Try.underlying41 sz3 (by decide) rfl rfl) ?_
    refine L0 rfl rfl (E_assign (.ow 56) rfl (by kernel_rfl)) ?_
    refine L0 rfl rfl (E_assign (Bo false) rfl (by kernel_rfl)) ?_
    refine XL_nil ?_
    kernel_rfl
   refine V_freeze 56 (T := 3) (sz := 1) (els := (([] : List Int)).map c3) (s1 := ⟨.bot :: .bot :: .c (.sl ((([] : List Int)).map c3)) :: Bo false :: bt 5 [], []⟩) (by kernel_rfl) (by kernel_rfl) ?_
   refine V_ret ?_
   obtain rfl := some_inj h
   show Post _ _ _ _ _
   exact ⟨.inr rfl, rfl, rfl, rfl⟩
  ·have h := of_false h hc3
   refine V_skip ?_
   show V _ _ _ _
   refine V_sreg (mb 9 12) [] (s1 := ⟨.bot :: .bot :: .c (.sl (l1.map c3)) :: Bo true :: bt 5 [], []⟩) ?_ ?_
   ·refine L0 rfl rfl (E_move (.c (.sl (l1.map c3))) rfl (by kernel_rfl)) ?_
    refine L0 rfl rfl (E_assign (.c (.sl (l1.map c3))) rfl (by kernel_rfl)) ?_
    refine L0 rfl rfl (E_assign (Bo true) rfl (by kernel_rfl)) ?_
    refine XL_nil ?_
    kernel_rfl
   refine V_ret ?_
   obtain rfl := some_inj h
   show Post _ _ _ _ _
   exact ⟨.inr rfl, rfl, rfl, rfl⟩
theorem cf_impl_PairSeries : ∀ args w, (callFunc 30 args).run Try.prog w = .ok (.enter 30 args) w := run_callFunc Try.func30 (by kernel_rfl) (by kernel_rfl)
set_option maxRecDepth 100000 in
set_option maxHeartbeats 400000 in
theorem s_impl_PairSeries {f1 : (Int × Int × Int)} {g2 : (Int × Int × Int)} {vn3 : Int} {r : ((List Int) × Bool)} (h : r_impl_PairSeries f1 g2 vn3 = some r) : CallS Try.prog 30 [.ag [Ti f1.1, Ti f1.2.1, Ti f1.2.2], .ag [Ti g2.1, Ti g2.2.1, Ti g2.2.2], I vn3] (.tc (.c (.sl (r.1.map c3))) (.tc (Bo r.2) .tn)) [] := by
  refine CallS_of_text (rs := [.t 6, .t 7]) (vs := [.tmp 6, .tmp 7]) Try.func30 rfl rfl (.cons rfl (.cons rfl FitsL.nil)) (by decide) 32 rfl ?_
  unfold r_impl_PairSeries at h
  show V _ _ ⟨.ag [Ti f1.1, Ti f1.2.1, Ti f1.2.2] :: .ag [Ti g2.1, Ti g2.2.1, Ti g2.2.2] :: I vn3 :: bt 29 [], []⟩ _
  refine V_sreg (mb 32 28) [32, 24] (s1 := ⟨.bot :: .bot :: I vn3 :: .pt 24 0 :: .pt 32 0 :: bt 27 [], [(32, .box [Ti g2.1, Ti g2.2.1, Ti g2.2.2]), (24, .box [Ti f1.1, Ti f1.2.1, Ti f1.2.2])]⟩) ?_ ?_
  ·refine L1 rfl rfl (Y1_box (cs := [Ti f1.1, Ti f1.2.1, Ti f1.2.2]) rfl (by kernel_rfl)) ?_
   refine L1 rfl rfl (Y1_box (cs := [Ti g2.1, Ti g2.2.1, Ti g2.2.2]) rfl (by kernel_rfl)) ?_
   refine L1 rfl rfl (Y1_nil (e := 3) 1 (by decide) (.inl rfl)) ?_
   refine L0 rfl rfl (E_assign (Bo false) rfl (by kernel_rfl)) ?_
   refine XL_nil ?_
   kernel_rfl
  refine V_seq ?_
  obtain ⟨y4, hy4, h⟩ := of_bind h
  obtain ⟨b7, hb7, h⟩ := of_bind h
  obtain ⟨b10, hb10, h⟩ := of_bind h
  refine V_sreg (mb 32 1048604) [32, 24] (s1 := ⟨.bot :: .bot :: I vn3 :: .pt 24 0 :: .pt 32 0 :: bt 15 (Bo b10 :: bt 11 []), [(32, .box [Ti g2.1, Ti g2.2.1, Ti g2.2.2]), (24, .box [Ti f1.1, Ti f1.2.1, Ti f1.2.2])]⟩) ?_ ?_
  ·refine L0 rfl rfl (E_loadn (cs := [Ti f1.1, Ti f1.2.1, Ti f1.2.2]) [Ti f1.1, Ti f1.2.1, Ti f1.2.2] wd45 rfl (by kernel_rfl) (Nat.le_of_ble_eq_true rfl) (by kernel_rfl)) ?_
   refine L1 rfl rfl (Y1_call (s_impl_isShownForm hy4) cf_impl_isShownForm rfl (by kernel_rfl)) ?_
   refine L0 rfl rfl (Y0_not (b := y4) rfl (by kernel_rfl)) ?_
   refine L0 rfl rfl (E_move (Bo (!y4)) rfl (by kernel_rfl)) ?_
   refine XL_split (!y4) (fun hc5 => ?_) (fun hc5 => ?_)
   ·have hb7 := some_inj (of_true hb7 hc5)
    refine XL_skipF _ rfl rfl (by kernel_rfl) hc5 rfl ?_
    refine XL_skipF _ rfl rfl (by kernel_rfl) hc5 rfl ?_
    refine XL_skipF _ rfl rfl (by kernel_rfl) hc5 rfl ?_
    refine XL_cons rfl (X_of_Y0 rfl (Y0_pickTe (b := !y4) (p := true) rfl (by kernel_rfl) hc5 (by kernel_rfl) hb7)) ?_
    refine L0 rfl rfl (E_move (Bo b7) rfl (by kernel_rfl)) ?_
    refine XL_split b7 (fun hc8 => ?_) (fun hc8 => ?_)
    ·have hb10 := some_inj (of_true hb10 hc8)
     refine XL_skipF _ rfl rfl (by kernel_rfl) hc8 rfl ?_
     refine XL_skipF _ rfl rfl (by kernel_rfl) hc8 rfl ?_
     refine XL_skipF _ rfl rfl (by kernel_rfl) hc8 rfl ?_
     refine XL_cons rfl (X_of_Y0 rfl (Y0_pickTe (b := b7) (p := true) rfl (by kernel_rfl) hc8 (by kernel_rfl) hb10)) ?_
     refine XL_nil ?_
     kernel_rfl
    ·have hb10 := of_false hb10 hc8
     obtain ⟨y9, hy9, hb10⟩ := of_bind hb10
     have hb10 := some_inj hb10
     refine XL_takeC _ rfl rfl (by kernel_rfl) hc8 (X_of_Y0 rfl (E_move (I vn3) rfl (by kernel_rfl))) ?_
     refine XL_takeC _ rfl rfl (by kernel_rfl) hc8 (X_of_Y1 rfl (Y1_call (s_impl_isTerms hy9) cf_impl_isTerms rfl (by kernel_rfl))) ?_
     refine XL_takeC _ rfl rfl (by kernel_rfl) hc8 (X_of_Y0 rfl (Y0_not (b := y9) rfl (by kernel_rfl))) ?_
     refine XL_cons rfl (X_of_Y0 rfl (Y0_pickFe (b := b7) (p := !y9) rfl (by kernel_rfl) hc8 (by kernel_rfl) hb10)) ?_
     refine XL_nil ?_
     kernel_rfl
   ·have hb7 := of_false hb7 hc5
    obtain ⟨y6, hy6, hb7⟩ := of_bind hb7
    have hb7 := some_inj hb7
    refine XL_takeC _ rfl rfl (by kernel_rfl) hc5 (X_of_Y0 rfl (E_loadn (cs := [Ti g2.1, Ti g2.2.1, Ti g2.2.2]) [Ti g2.1, Ti g2.2.1, Ti g2.2.2] wd45 rfl (by kernel_rfl) (Nat.le_of_ble_eq_true rfl) (by kernel_rfl))) ?_
    refine XL_takeC _ rfl rfl (by kernel_rfl) hc5 (X_of_Y1 rfl (Y1_call (s_impl_isShownForm hy6) cf_impl_isShownForm rfl (by kernel_rfl))) ?_
    refine XL_takeC _ rfl rfl (by kernel_rfl) hc5 (X_of_Y0 rfl (Y0_not (b := y6) rfl (by kernel_rfl))) ?_
    refine XL_cons rfl (X_of_Y0 rfl (Y0_pickFe (b := !y4) (p := !y6) rfl (by kernel_rfl) hc5 (by kernel_rfl) hb7)) ?_
    refine L0 rfl rfl (E_move (Bo b7) rfl (by kernel_rfl)) ?_
    refine XL_split b7 (fun hc8 => ?_) (fun hc8 => ?_)
    ·have hb10 := some_inj (of_true hb10 hc8)
     refine XL_skipF _ rfl rfl (by kernel_rfl) hc8 rfl ?_
     refine XL_skipF _ rfl rfl (by kernel_rfl) hc8 rfl ?_
     refine XL_skipF _ rfl rfl (by kernel_rfl) hc8 rfl ?_
     refine XL_cons rfl (X_of_Y0 rfl (Y0_pickTe (b := b7) (p := true) rfl (by kernel_rfl) hc8 (by kernel_rfl) hb10)) ?_
     refine XL_nil ?_
     kernel_rfl
    ·have hb10 := of_false hb10 hc8
     obtain ⟨y9, hy9, hb10⟩ := of_bind hb10
     have hb10 := some_inj hb10
     refine XL_takeC _ rfl rfl (by kernel_rfl) hc8 (X_of_Y0 rfl (E_move (I vn3) rfl (by kernel_rfl))) ?_
     refine XL_takeC _ rfl rfl (by kernel_rfl) hc8 (X_of_Y1 rfl (Y1_call (s_impl_isTerms hy9) cf_impl_isTerms rfl (by kernel_rfl))) ?_
     refine XL_takeC _ rfl rfl (by kernel_rfl) hc8 (X_of_Y0 rfl (Y0_not (b := y9) rfl (by kernel_rfl))) ?_
     refine XL_cons rfl (X_of_Y0 rfl (Y0_pickFe (b := b7) (p := !y9) rfl (by kernel_rfl) hc8 (by kernel_rfl) hb10)) ?_
     refine XL_nil ?_
     kernel_rfl
  refine V_cond rfl (fun hc11 => ?_) (fun hc11 => ?_)
  ·have h := of_true h hc11
   refine V_sreg (mb 32 192) [168] (s1 := ⟨bt 6 (.ow 168 :: Bo false :: bt 24 []), [(168, .arr 3 1 ((([] : List Int)).map c3))]⟩) ?_ ?_
   ·refine L1 rfl rfl (Y1_bslice0 Try.underlying41 sz3 (by decide) rfl rfl) ?_
    refine L0 rfl rfl (E_assign (.ow 168) rfl (by kernel_rfl)) ?_
    refine L0 rfl rfl (E_assign (Bo false) rfl (by kernel_rfl)) ?_
    refine XL_nil ?_
    kernel_rfl
   refine V_freeze 168 (T := 3) (sz := 1) (els := (([] : List Int)).map c3) (s1 := ⟨bt 6 (.c (.sl ((([] : List Int)).map c3)) :: Bo false :: bt 24 []), []⟩) (by kernel_rfl) (by kernel_rfl) ?_
   refine V_ret ?_
   obtain rfl := some_inj h
   show Post _ _ _ _ _
   exact ⟨.inr rfl, rfl, rfl, rfl⟩
  ·have h := of_false h hc11
   refine V_skip ?_
   show V _ _ _ _
   obtain ⟨y12, hy12, h⟩ := of_bind h
   obtain ⟨y13, hy13, h⟩ := of_bind h
   obtain ⟨y14, hy14, h⟩ := of_bind h
   obtain ⟨y15, hy15, h⟩ := of_bind h
   refine V_sdreg [0, 0, 3, 0, 0, 31, 63, 127, 255, 255, 1023, 2047] 10 [[.z, .b, .z, .b, .b, .z, .z, .z, .z, .z], [.b, .z, .z, .b, .b, .z, .z, .z, .z, .z], [.a, .a, .z, .b, .b, .z, .z, .z, .z, .z], [.b, .b, .b, .z, .b, .z, .z, .z, .z, .z], [.b, .b, .b, .b, .z, .z, .z, .z, .z, .z], [.a, .a, .a, .a, .a, .z, .z, .z, .z, .z], [.a, .a, .a, .a, .a, .a, .z, .z, .z, .z], [.a, .a, .a, .a, .a, .a, .a, .z, .z, .z], [.a, .a, .a, .a, .a, .a, .a, .a, .z, .b], [.a, .a, .a, .a, .a, .a, .a, .a, .b, .z]] (mb 32 192) [] (s1 := ⟨bt 6 (.c (.sl (y15.1.map c3)) :: Bo y15.2 :: bt 24 []), []⟩) (by kernel_rfl) (by kernel_rfl) ?_ ?_
   ·refine DE_0 0 (.ag [Ti f1.1, Ti f1.2.1, Ti f1.2.2]) (by kernel_rfl) rfl rfl rfl (gsat_none rfl) (by kernel_rfl) (E_loadn (cs := [Ti f1.1, Ti f1.2.1, Ti f1.2.2]) [Ti f1.1, Ti f1.2.1, Ti f1.2.2] wd45 rfl (by kernel_rfl) (Nat.le_of_ble_eq_true rfl) (by kernel_rfl)) 22 rfl ?_
    refine DE_0 1 (I vn3) (by kernel_rfl) rfl rfl rfl (gsat_none rfl) (by kernel_rfl) (E_move (I vn3) rfl (by kernel_rfl)) 23 rfl ?_
    refine DE_1 2 (by kernel_rfl) rfl rfl rfl (gsat_none rfl) (Y1_call (CallS_frz (s_impl_Form_theta hy12)) cf_impl_Form_theta rfl (by kernel_rfl)) rfl rfl rfl 24 rfl ?_
    refine DE_0 3 (.ag [Ti g2.1, Ti g2.2.1, Ti g2.2.2]) (by kernel_rfl) rfl rfl rfl (gsat_none rfl) (by kernel_rfl) (E_loadn (cs := [Ti g2.1, Ti g2.2.1, Ti g2.2.2]) [Ti g2.1, Ti g2.2.1, Ti g2.2.2] wd45 rfl (by kernel_rfl) (Nat.le_of_ble_eq_true rfl) (by kernel_rfl)) 25 rfl ?_
    refine DE_0 4 (I vn3) (by kernel_rfl) rfl rfl rfl (gsat_none rfl) (by kernel_rfl) (E_move (I vn3) rfl (by kernel_rfl)) 26 rfl ?_
    refine DE_1 5 (by kernel_rfl) rfl rfl rfl (gsat_none rfl) (Y1_call (CallS_frz (s_impl_Form_theta hy13)) cf_impl_Form_theta rfl (by kernel_rfl)) rfl rfl rfl 27 rfl ?_
    refine DE_1 6 (by kernel_rfl) rfl rfl rfl (gsat_none rfl) (Y1_call (CallS_frz (s_impl_product hy14)) cf_impl_product rfl (by kernel_rfl)) rfl rfl rfl 28 rfl ?_
    refine DE_1 7 (by kernel_rfl) rfl rfl rfl (gsat_none rfl) (Y1_call (s_impl_checkedSeries hy15) cf_impl_checkedSeries rfl (by kernel_rfl)) rfl rfl rfl 29 rfl ?_
    refine DE_0 8 (.c (.sl (y15.1.map c3))) (by kernel_rfl) rfl rfl rfl (gsat_none rfl) (by kernel_rfl) (E_ext (n := 0) (.c (.sl (y15.1.map c3))) (.tc (Bo y15.2) .tn) (.c (.sl (y15.1.map c3))) rfl (by kernel_rfl) (by kernel_rfl) (by intro hh; cases hh)) 30 rfl ?_
    refine DE_0 9 (Bo y15.2) (by kernel_rfl) rfl rfl rfl (gsat_none rfl) (by kernel_rfl) (E_ext (n := 1) (.c (.sl (y15.1.map c3))) (.tc (Bo y15.2) .tn) (Bo y15.2) rfl (by kernel_rfl) (by kernel_rfl) (by intro hh; cases hh)) 31 rfl ?_
    refine DL_nil (by kernel_rfl) ?_
    refine L0 rfl rfl (E_assign (.c (.sl (y15.1.map c3))) rfl (by kernel_rfl)) ?_
    refine L0 rfl rfl (E_assign (Bo y15.2) rfl (by kernel_rfl)) ?_
    refine XL_nil ?_
    kernel_rfl
   refine V_ret ?_
   obtain rfl := some_inj h
   show Post _ _ _ _ _
   exact ⟨.inr rfl, rfl, rfl, rfl⟩
theorem cf_spec_thTerms : ∀ args w, (callFunc 92 args).run Try.prog w = .ok (.enter 92 args) w := run_callFunc Try.func92 (by kernel_rfl) (by kernel_rfl)
set_option maxRecDepth 100000 in
set_option maxHeartbeats 400000 in
theorem s_spec_thTerms {vn1 : Int} {r : Bool} (h : r_spec_thTerms vn1 = some r) : CallS Try.prog 92 [I vn1] (Bo r) [] := by
  refine CallS_of_text (rs := [.t 2]) (vs := [.tmp 2]) Try.func92 rfl rfl (.cons rfl FitsL.nil) (by decide) 5 rfl ?_
  unfold r_spec_thTerms at h
  show V _ _ ⟨I vn1 :: bt 4 [], []⟩ _
  refine V_sreg (mb 5 1) [] (s1 := ⟨I vn1 :: bt 4 [], []⟩) ?_ ?_
  ·refine L0 rfl rfl (E_assign (Bo false) rfl (by kernel_rfl)) ?_
   refine XL_nil ?_
   kernel_rfl
  obtain ⟨y2, hy2, h⟩ := of_bind h
  refine V_sreg (mb 5 4) [] (s1 := ⟨.bot :: .bot :: Bo y2 :: .bot :: .bot :: [], []⟩) ?_ ?_
  ·refine L0 rfl rfl (E_move (I vn1) rfl (by kernel_rfl)) ?_
   refine L1 rfl rfl (Y1_call (s_spec_l1In hy2) cf_spec_l1In rfl (by kernel_rfl)) ?_
   refine L0 rfl rfl (E_assign (Bo y2) rfl (by kernel_rfl)) ?_
   refine XL_nil ?_
   kernel_rfl
  refine V_ret ?_
  obtain rfl := some_inj h
  show Post _ _ _ _ _
  exact ⟨.inr rfl, rfl, rfl, rfl⟩
theorem cf_spec_thSeries : ∀ args w, (callFunc 94 args).run Try.prog w = .ok (.enter 94 args) w := run_callFunc Try.func94 (by kernel_rfl) (by kernel_rfl)
set_option maxRecDepth 100000 in
set_option maxHeartbeats 400000 in
theorem s_spec_thSeries {f1 : (Int × Int × Int)} {vn2 : Int} {r : List Int} (h : r_spec_thSeries f1 vn2 = some r) : CallS Try.prog 94 [.ag [Ti f1.1, Ti f1.2.1, Ti f1.2.2], I vn2] (.ow 0) [(0, .arr 3 1 (r.map c3))] := by
  refine CallS_of_text (rs := [.t 4]) (vs := [.tmp 4]) Try.func94 rfl rfl (.cons rfl FitsL.nil) (by decide) 83 rfl ?_
  unfold r_spec_thSeries at h
  show V _ _ ⟨.ag [Ti f1.1, Ti f1.2.1, Ti f1.2.2] :: I vn2 :: bt 81 [], []⟩ _
  refine V_sreg (mb 83 6) [16] (s1 := ⟨.bot :: I vn2 :: .pt 16 0 :: bt 80 [], [(16, .box [Ti f1.1, Ti f1.2.1, Ti f1.2.2])]⟩) ?_ ?_
  ·refine L1 rfl rfl (Y1_box (cs := [Ti f1.1, Ti f1.2.1, Ti f1.2.2]) rfl (by kernel_rfl)) ?_
   refine L1 rfl rfl (Y1_nil (e := 3) 1 (by decide) (.inl rfl)) ?_
   refine XL_nil ?_
   kernel_rfl
  obtain ⟨u3, hu3, h⟩ := of_bind h
  refine V_sreg (mb 83 38) [112, 16] (s1 := ⟨.bot :: I vn2 :: .pt 16 0 :: .bot :: .bot :: .ow 112 :: bt 77 [], [(112, .arr 3 1 ((List.replicate (Int.toNat (w64 (vn2 + 1))) ((0 : Int))).map c3)), (16, .box [Ti f1.1, Ti f1.2.1, Ti f1.2.2])]⟩) ?_ ?_
  ·refine L0 rfl rfl (E_move (I vn2) rfl (by kernel_rfl)) ?_
   refine L0 rfl rfl (Y0_add64 (a := vn2) (b := 1) rfl (by kernel_rfl) (by kernel_rfl)) ?_
   refine L1 rfl rfl (Y1_make (c := c3) (zx := (0 : Int)) (z := zv3) (l := w64 (vn2 + 1)) (k := w64 (vn2 + 1)) Try.underlying41 izb3 rfl rfl (by decide) rfl rfl (by kernel_rfl) (by kernel_rfl) (mk_some hu3) (by decide)) ?_
   refine L0 rfl rfl (E_assign (.ow 112) rfl (by kernel_rfl)) ?_
   refine XL_nil ?_
   kernel_rfl
  obtain ⟨y4, hy4, h⟩ := of_bind h
  refine V_sreg (mb 83 38) [112, 16] (s1 := ⟨.bot :: I vn2 :: .pt 16 0 :: .bot :: .bot :: .ow 112 :: bt 77 [], [(112, .arr 3 1 ((List.replicate (Int.toNat (w64 (vn2 + 1))) ((0 : Int))).map c3)), (16, .box [Ti y4.1, Ti y4.2.1, Ti y4.2.2])]⟩) ?_ ?_
  ·refine L0 rfl rfl (E_loadn (cs := [Ti f1.1, Ti f1.2.1, Ti f1.2.2]) [Ti f1.1, Ti f1.2.1, Ti f1.2.2] wd45 rfl (by kernel_rfl) (Nat.le_of_ble_eq_true rfl) (by kernel_rfl)) ?_
   refine L1 rfl rfl (Y1_call (s_spec_reClass hy4) cf_spec_reClass rfl (by kernel_rfl)) ?_
   refine XL_cons rfl (E_store (id := 16) (off := 0) (cs := [Ti f1.1, Ti f1.2.1, Ti f1.2.2]) (vc := [Ti y4.1, Ti y4.2.1, Ti y4.2.2]) [Ti y4.1, Ti y4.2.1, Ti y4.2.2] rfl rfl (by kernel_rfl) (by kernel_rfl) (by kernel_rfl) sz45 (Nat.le_of_ble_eq_true rfl) (by kernel_rfl)) ?_
   refine XL_nil ?_
   kernel_rfl
  refine V_seq ?_
  refine V_sreg (mb 83 102) [112, 16] (s1 := ⟨.bot :: I vn2 :: .pt 16 0 :: .bot :: .bot :: .ow 112 :: I 0 :: bt 76 [], [(112, .arr 3 1 ((List.replicate (Int.toNat (w64 (vn2 + 1))) ((0 : Int))).map c3)), (16, .box [Ti y4.1, Ti y4.2.1, Ti y4.2.2])]⟩) ?_ ?_
  ·refine L0 rfl rfl (E_assign (I 0) rfl (by kernel_rfl)) ?_
   refine XL_nil ?_
   kernel_rfl
  obtain ⟨o8, hLo8, h⟩ := of_bind h
  refine V_toK (mb 83 32) [112] (s1 := ⟨bt 5 (.ow 112 :: bt 77 []), [(112, .arr 3 1 (o8.map c3))]⟩) ?_ ?_
  ·clear h
   refine V_block (V_loop (fun n s => ∃ (x5 : Int) (l6 : List Int), s.keep (mb 83 102) [112, 16] = (⟨.bot :: I vn2 :: .pt 16 0 :: .bot :: .bot :: .ow 112 :: I x5 :: bt 76 [], [(112, .arr 3 1 (l6.map c3)), (16, .box [Ti y4.1, Ti y4.2.1, Ti y4.2.2])]⟩ : St) ∧ r_spec_thSeries_L7 vn2 y4 n x5 l6 = some o8) FU ⟨_, _,  by rfl, hLo8⟩ ?_)
   clear hLo8
   rintro n s ⟨x5, l6, hs, h⟩
   refine V_keep _ _ hs ?_
   clear hs
   cases n with
   | zero => cases h
   | succ n =>
    rw [r_spec_thSeries_L7] at h
    refine V_seq ?_
    refine V_sreg (mb 83 33554534) [112, 16] (s1 := ⟨.bot :: I vn2 :: .pt 16 0 :: .bot :: .bot :: .ow 112 :: I x5 :: bt 18 (Bo (leI (w64 ((w64 (y4.1 * x5)) * x5)) (w64 (2 * vn2))) :: bt 57 []), [(112, .arr 3 1 (l6.map c3)), (16, .box [Ti y4.1, Ti y4.2.1, Ti y4.2.2])]⟩) ?_ ?_
    ·refine L0 rfl rfl (E_field (.pt 16 0) Try.underlying45 rfl sz3 rfl (by kernel_rfl) (by intro hh; cases hh)) ?_
     refine L0 rfl rfl (Y0_load1 (c := Ti y4.1) (cs := [Ti y4.2.1, Ti y4.2.2]) sc3 rfl (by kernel_rfl)) ?_
     refine L0 rfl rfl (E_move (I x5) rfl (by kernel_rfl)) ?_
     refine L0 rfl rfl (Y0_mul64 (a := y4.1) (b := x5) rfl (by kernel_rfl) (by kernel_rfl)) ?_
     refine L0 rfl rfl (E_move (I x5) rfl (by kernel_rfl)) ?_
     refine L0 rfl rfl (Y0_mul64 (a := w64 (y4.1 * x5)) (b := x5) rfl (by kernel_rfl) (by kernel_rfl)) ?_
     refine L0 rfl rfl (E_move (I vn2) rfl (by kernel_rfl)) ?_
     refine L0 rfl rfl (Y0_mul64 (a := 2) (b := vn2) rfl (by kernel_rfl) (by kernel_rfl)) ?_
     refine L0 rfl rfl (Y0_lew (k := .i64) (a := w64 ((w64 (y4.1 * x5)) * x5)) (b := w64 (2 * vn2)) rfl (by kernel_rfl) (by kernel_rfl)) ?_
     refine XL_nil ?_
     kernel_rfl
    refine V_cond rfl (fun hc9 => ?_) (fun hc9 => ?_)
    ·have h := of_true h hc9
     refine V_skip ?_
     show V _ _ _ _
     refine V_seq ?_
     refine V_block ?_
     refine V_sreg (mb 83 230) [112, 16] (s1 := ⟨.bot :: I vn2 :: .pt 16 0 :: .bot :: .bot :: .ow 112 :: I x5 :: I 0 :: bt 75 [], [(112, .arr 3 1 (l6.map c3)), (16, .box [Ti y4.1, Ti y4.2.1, Ti y4.2.2])]⟩) ?_ ?_
     ·refine L0 rfl rfl (E_assign (I 0) rfl (by kernel_rfl)) ?_
      refine XL_nil ?_
      kernel_rfl
     obtain ⟨o13, hLo13, h⟩ := of_bind h
     refine V_toK (mb 83 102) [112, 16] (s1 := ⟨.bot :: I vn2 :: .pt 16 0 :: .bot :: .bot :: .ow 112 :: I x5 :: bt 76 [], [(112, .arr 3 1 (o13.map c3)), (16, .box [Ti y4.1, Ti y4.2.1, Ti y4.2.2])]⟩) ?_ ?_
     ·clear h
      refine V_block (V_loop (fun n s => ∃ (y10 : Int) (l11 : List Int), s.keep (mb 83 230) [112, 16] = (⟨.bot :: I vn2 :: .pt 16 0 :: .bot :: .bot :: .ow 112 :: I x5 :: I y10 :: bt 75 [], [(112, .arr 3 1 (l11.map c3)), (16, .box [Ti y4.1, Ti y4.2.1, Ti y4.2.2])]⟩ : St) ∧ r_spec_thSeries_L12 vn2 x5 y4 n y10 l11 = some o13) FU ⟨_, _,  by rfl, hLo13⟩ ?_)
      clear hLo13
      rintro n s ⟨y10, l11, hs, h⟩
      refine V_keep _ _ hs ?_
      clear hs
      cases n with
      | zero => cases h
      | succ n =>
       rw [r_spec_thSeries_L12] at h
       refine V_seq ?_
       refine V_sreg (mb 83 68719476966) [112, 16] (s1 := ⟨.bot :: I vn2 :: .pt 16 0 :: .bot :: .bot :: .ow 112 :: I x5 :: I y10 :: bt 28 (Bo (leI (w64 ((w64 (y4.2.2 * y10)) * y10)) (w64 (2 * vn2))) :: bt 46 []), [(112, .arr 3 1 (l11.map c3)), (16, .box [Ti y4.1, Ti y4.2.1, Ti y4.2.2])]⟩) ?_ ?_
       ·refine L0 rfl rfl (E_field (.pt 16 2) Try.underlying45 rfl sz3 rfl (by kernel_rfl) (by intro hh; cases hh)) ?_
        refine L0 rfl rfl (Y0_load1 (c := Ti y4.2.2) (cs := []) sc3 rfl (by kernel_rfl)) ?_
        refine L0 rfl rfl (E_move (I y10) rfl (by kernel_rfl)) ?_
        refine L0 rfl rfl (Y0_mul64 (a := y4.2.2) (b := y10) rfl (by kernel_rfl) (by kernel_rfl)) ?_
        refine L0 rfl rfl (E_move (I y10) rfl (by kernel_rfl)) ?_
        refine L0 rfl rfl (Y0_mul64 (a := w64 (y4.2.2 * y10)) (b := y10) rfl (by kernel_rfl) (by kernel_rfl)) ?_
        refine L0 rfl rfl (E_move (I vn2) rfl (by kernel_rfl)) ?_
        refine L0 rfl rfl (Y0_mul64 (a := 2) (b := vn2) rfl (by kernel_rfl) (by kernel_rfl)) ?_
        refine L0 rfl rfl (Y0_lew (k := .i64) (a := w64 ((w64 (y4.2.2 * y10)) * y10)) (b := w64 (2 * vn2)) rfl (by kernel_rfl) (by kernel_rfl)) ?_
        refine XL_nil ?_
        kernel_rfl
       refine V_cond rfl (fun hc14 => ?_) (fun hc14 => ?_)
       ·have h := of_true h hc14
        refine V_skip ?_
        show V _ _ _ _
        refine V_seq ?_
        refine V_block ?_
        refine V_sreg (mb 83 486) [112, 16] (s1 := ⟨.bot :: I vn2 :: .pt 16 0 :: .bot :: .bot :: .ow 112 :: I x5 :: I y10 :: I 0 :: bt 74 [], [(112, .arr 3 1 (l11.map c3)), (16, .box [Ti y4.1, Ti y4.2.1, Ti y4.2.2])]⟩) ?_ ?_
        ·refine L0 rfl rfl (E_assign (I 0) rfl (by kernel_rfl)) ?_
         refine XL_nil ?_
         kernel_rfl
        obtain ⟨o18, hLo18, h⟩ := of_bind h
        refine V_toK (mb 83 230) [112, 16] (s1 := ⟨.bot :: I vn2 :: .pt 16 0 :: .bot :: .bot :: .ow 112 :: I x5 :: I y10 :: bt 75 [], [(112, .arr 3 1 (o18.map c3)), (16, .box [Ti y4.1, Ti y4.2.1, Ti y4.2.2])]⟩) ?_ ?_
        ·clear h
         refine V_block (V_loop (fun n s => ∃ (vs15 : Int) (l16 : List Int), s.keep (mb 83 486) [112, 16] = (⟨.bot :: I vn2 :: .pt 16 0 :: .bot :: .bot :: .ow 112 :: I x5 :: I y10 :: I vs15 :: bt 74 [], [(112, .arr 3 1 (l16.map c3)), (16, .box [Ti y4.1, Ti y4.2.1, Ti y4.2.2])]⟩ : St) ∧ r_spec_thSeries_L17 vn2 x5 y10 y4 n vs15 l16 = some o18) FU ⟨_, _,  by rfl, hLo18⟩ ?_)
         clear hLo18
         rintro n s ⟨vs15, l16, hs, h⟩
         refine V_keep _ _ hs ?_
         clear hs
         cases n with
         | zero => cases h
         | succ n =>
          rw [r_spec_thSeries_L17] at h
          refine V_seq ?_
          refine V_sreg (mb 83 1099511628262) [112, 16] (s1 := ⟨.bot :: I vn2 :: .pt 16 0 :: .bot :: .bot :: .ow 112 :: I x5 :: I y10 :: I vs15 :: bt 31 (Bo (ltI vs15 4) :: bt 42 []), [(112, .arr 3 1 (l16.map c3)), (16, .box [Ti y4.1, Ti y4.2.1, Ti y4.2.2])]⟩) ?_ ?_
          ·refine L0 rfl rfl (E_move (I vs15) rfl (by kernel_rfl)) ?_
           refine L0 rfl rfl (Y0_ltw (k := .i64) (a := vs15) (b := 4) rfl (by kernel_rfl) (by kernel_rfl)) ?_
           refine XL_nil ?_
           kernel_rfl
          refine V_cond rfl (fun hc19 => ?_) (fun hc19 => ?_)
          ·have h := of_true h hc19
           refine V_skip ?_
           show V _ _ _ _
           refine V_seq ?_
           refine V_block ?_
           refine V_sreg (mb 83 2022) [112, 16] (s1 := ⟨.bot :: I vn2 :: .pt 16 0 :: .bot :: .bot :: .ow 112 :: I x5 :: I y10 :: I vs15 :: I x5 :: I y10 :: bt 72 [], [(112, .arr 3 1 (l16.map c3)), (16, .box [Ti y4.1, Ti y4.2.1, Ti y4.2.2])]⟩) ?_ ?_
           ·refine L0 rfl rfl (E_move (I x5) rfl (by kernel_rfl)) ?_
            refine L0 rfl rfl (E_move (I y10) rfl (by kernel_rfl)) ?_
            refine L0 rfl rfl (E_assign (I x5) rfl (by kernel_rfl)) ?_
            refine L0 rfl rfl (E_assign (I y10) rfl (by kernel_rfl)) ?_
            refine XL_nil ?_
            kernel_rfl
           obtain ⟨j20, hj20, h⟩ := of_bind h
           refine V_cutK (mb 83 2022) [112, 16] (s1 := ⟨.bot :: I vn2 :: .pt 16 0 :: .bot :: .bot :: .ow 112 :: I x5 :: I y10 :: I vs15 :: I j20 :: I y10 :: bt 72 [], [(112, .arr 3 1 (l16.map c3)), (16, .box [Ti y4.1, Ti y4.2.1, Ti y4.2.2])]⟩) ?_ ?_
           ·clear h
            have h := hj20
            clear hj20
            refine V_sreg (mb 83 140737488357350) [112, 16] (s1 := ⟨.bot :: I vn2 :: .pt 16 0 :: .bot :: .bot :: .ow 112 :: I x5 :: I y10 :: I vs15 :: I x5 :: I y10 :: bt 36 (Bo (eqI (Int.tmod vs15 2) 1) :: bt 35 []), [(112, .arr 3 1 (l16.map c3)), (16, .box [Ti y4.1, Ti y4.2.1, Ti y4.2.2])]⟩) ?_ ?_
            ·refine L0 rfl rfl (E_move (I vs15) rfl (by kernel_rfl)) ?_
             refine L0 rfl rfl (Y0_rem (k := .i64) (a := vs15) (b := 2) rfl (by kernel_rfl) (by kernel_rfl) (by decide)) ?_
             refine L0 rfl rfl (Y0_eqw (k := .i64) (a := Int.tmod vs15 2) (b := 1) rfl (by kernel_rfl) (by kernel_rfl)) ?_
             refine XL_nil ?_
             kernel_rfl
            refine V_cond rfl (fun hc21 => ?_) (fun hc21 => ?_)
            ·have h := of_true h hc21
             obtain ⟨u22, hu22, h⟩ := of_sI h
             refine V_reg (mb 83 2022) [112, 16] (s1 := ⟨.bot :: I vn2 :: .pt 16 0 :: .bot :: .bot :: .ow 112 :: I x5 :: I y10 :: I vs15 :: I u22 :: I y10 :: bt 72 [], [(112, .arr 3 1 (l16.map c3)), (16, .box [Ti y4.1, Ti y4.2.1, Ti y4.2.2])]⟩) ?_ ?_
             ·refine L0 rfl rfl (E_move (I x5) rfl (by kernel_rfl)) ?_
              refine L0 rfl rfl (Y0_neg64 (a := x5) rfl (by kernel_rfl)) ?_
              refine L0 rfl rfl (E_assign (I (w64 (0 - x5))) rfl (by kernel_rfl)) ?_
              refine XL_nil ?_
              subst hu22
              kernel_rfl
             obtain rfl := some_inj h
             show St.keep _ _ _ = _
             rfl
            ·have h := of_false h hc21
             refine V_skip ?_
             obtain rfl := some_inj h
             show St.keep _ _ _ = _
             rfl
           obtain ⟨j23, hj23, h⟩ := of_bind h
           refine V_cutK (mb 83 2022) [112, 16] (s1 := ⟨.bot :: I vn2 :: .pt 16 0 :: .bot :: .bot :: .ow 112 :: I x5 :: I y10 :: I vs15 :: I j20 :: I j23 :: bt 72 [], [(112, .arr 3 1 (l16.map c3)), (16, .box [Ti y4.1, Ti y4.2.1, Ti y4.2.2])]⟩) ?_ ?_
           ·clear h
            have h := hj23
            clear hj23
            refine V_sreg (mb 83 2251799813687270) [112, 16] (s1 := ⟨.bot :: I vn2 :: .pt 16 0 :: .bot :: .bot :: .ow 112 :: I x5 :: I y10 :: I vs15 :: I j20 :: I y10 :: bt 40 (Bo (ltI 1 vs15) :: bt 31 []), [(112, .arr 3 1 (l16.map c3)), (16, .box [Ti y4.1, Ti y4.2.1, Ti y4.2.2])]⟩) ?_ ?_
            ·refine L0 rfl rfl (E_move (I vs15) rfl (by kernel_rfl)) ?_
             refine L0 rfl rfl (Y0_gtw (k := .i64) (a := vs15) (b := 1) rfl (by kernel_rfl) (by kernel_rfl)) ?_
             refine XL_nil ?_
             kernel_rfl
            refine V_cond rfl (fun hc24 => ?_) (fun hc24 => ?_)
            ·have h := of_true h hc24
             obtain ⟨v25, hv25, h⟩ := of_sI h
             refine V_reg (mb 83 2022) [112, 16] (s1 := ⟨.bot :: I vn2 :: .pt 16 0 :: .bot :: .bot :: .ow 112 :: I x5 :: I y10 :: I vs15 :: I j20 :: I v25 :: bt 72 [], [(112, .arr 3 1 (l16.map c3)), (16, .box [Ti y4.1, Ti y4.2.1, Ti y4.2.2])]⟩) ?_ ?_
             ·refine L0 rfl rfl (E_move (I y10) rfl (by kernel_rfl)) ?_
              refine L0 rfl rfl (Y0_neg64 (a := y10) rfl (by kernel_rfl)) ?_
              refine L0 rfl rfl (E_assign (I (w64 (0 - y10))) rfl (by kernel_rfl)) ?_
              refine XL_nil ?_
              subst hv25
              kernel_rfl
             obtain rfl := some_inj h
             show St.keep _ _ _ = _
             rfl
            ·have h := of_false h hc24
             refine V_skip ?_
             obtain rfl := some_inj h
             show St.keep _ _ _ = _
             rfl
           refine V_seq ?_
           obtain ⟨t29, ht29, h⟩ := of_bind h
           have ht29 := some_inj ht29
           refine V_sreg (mb 83 295147905179352827878) [112, 16] (s1 := ⟨.bot :: I vn2 :: .pt 16 0 :: .bot :: .bot :: .ow 112 :: I x5 :: I y10 :: I vs15 :: I j20 :: I j23 :: bt 57 (Bo t29 :: bt 14 []), [(112, .arr 3 1 (l16.map c3)), (16, .box [Ti y4.1, Ti y4.2.1, Ti y4.2.2])]⟩) ?_ ?_
           ·refine L0 rfl rfl (E_move (I vs15) rfl (by kernel_rfl)) ?_
            refine L0 rfl rfl (Y0_rem (k := .i64) (a := vs15) (b := 2) rfl (by kernel_rfl) (by kernel_rfl) (by decide)) ?_
            refine L0 rfl rfl (Y0_eqw (k := .i64) (a := Int.tmod vs15 2) (b := 1) rfl (by kernel_rfl) (by kernel_rfl)) ?_
            refine L0 rfl rfl (E_move (Bo (eqI (Int.tmod vs15 2) 1)) rfl (by kernel_rfl)) ?_
            refine XL_split (eqI (Int.tmod vs15 2) 1) (fun hc26 => ?_) (fun hc26 => ?_)
            ·refine XL_takeC _ rfl rfl (by kernel_rfl) hc26 (X_of_Y0 rfl (E_move (I x5) rfl (by kernel_rfl))) ?_
             refine XL_takeC _ rfl rfl (by kernel_rfl) hc26 (X_of_Y0 rfl (Y0_eqw (k := .i64) (a := x5) (b := 0) rfl (by kernel_rfl) (by kernel_rfl))) ?_
             refine XL_cons rfl (X_of_Y0 rfl (Y0_pick1 (b := eqI (Int.tmod vs15 2) 1) (p := eqI x5 0) (q := false) rfl (by kernel_rfl) hc26 (by kernel_rfl))) ?_
             refine L0 rfl rfl (E_move (Bo (bif (eqI (Int.tmod vs15 2) 1) then (eqI x5 0) else false)) rfl (by kernel_rfl)) ?_
             refine XL_split (bif (eqI (Int.tmod vs15 2) 1) then (eqI x5 0) else false) (fun hc27 => ?_) (fun hc27 => ?_)
             ·refine XL_skipF _ rfl rfl (by kernel_rfl) hc27 rfl ?_
              refine XL_skipF _ rfl rfl (by kernel_rfl) hc27 rfl ?_
              refine XL_skipF _ rfl rfl (by kernel_rfl) hc27 rfl ?_
              refine XL_skip2 rfl rfl (by kernel_rfl) rfl ?_
              refine XL_skip2 rfl rfl (by kernel_rfl) rfl ?_
              refine XL_skipF _ rfl rfl (by kernel_rfl) hc27 rfl ?_
              refine XL_cons rfl (X_of_Y0 rfl (Y0_pick1 (b := bif (eqI (Int.tmod vs15 2) 1) then (eqI x5 0) else false) (p := true) (q := bif (ltI 1 vs15) then (eqI y10 0) else false) rfl (by kernel_rfl) hc27 (by kernel_rfl))) ?_
              refine XL_nil ?_
              subst ht29
              kernel_rfl
             ·refine XL_takeC _ rfl rfl (by kernel_rfl) hc27 (X_of_Y0 rfl (E_move (I vs15) rfl (by kernel_rfl))) ?_
              refine XL_takeC _ rfl rfl (by kernel_rfl) hc27 (X_of_Y0 rfl (Y0_gtw (k := .i64) (a := vs15) (b := 1) rfl (by kernel_rfl) (by kernel_rfl))) ?_
              refine XL_takeC _ rfl rfl (by kernel_rfl) hc27 (X_of_Y0 rfl (E_move (Bo (ltI 1 vs15)) rfl (by kernel_rfl))) ?_
              refine XL_split (ltI 1 vs15) (fun hc28 => ?_) (fun hc28 => ?_)
              ·refine XL_takeC _ rfl rfl (by kernel_rfl) hc28 (X_of_Y0 rfl (E_move (I y10) rfl (by kernel_rfl))) ?_
               refine XL_takeC _ rfl rfl (by kernel_rfl) hc28 (X_of_Y0 rfl (Y0_eqw (k := .i64) (a := y10) (b := 0) rfl (by kernel_rfl) (by kernel_rfl))) ?_
               refine XL_takeC _ rfl rfl (by kernel_rfl) hc27 (X_of_Y0 rfl (Y0_pick1 (b := ltI 1 vs15) (p := eqI y10 0) (q := false) rfl (by kernel_rfl) hc28 (by kernel_rfl))) ?_
               refine XL_cons rfl (X_of_Y0 rfl (Y0_pick0 (b := bif (eqI (Int.tmod vs15 2) 1) then (eqI x5 0) else false) (p := true) (q := bif (ltI 1 vs15) then (eqI y10 0) else false) rfl (by kernel_rfl) hc27 (by kernel_rfl))) ?_
               refine XL_nil ?_
               subst ht29
               kernel_rfl
              ·refine XL_skipT _ rfl rfl (by kernel_rfl) hc28 rfl ?_
               refine XL_skipT _ rfl rfl (by kernel_rfl) hc28 rfl ?_
               refine XL_takeC _ rfl rfl (by kernel_rfl) hc27 (X_of_Y0 rfl (Y0_pick0 (b := ltI 1 vs15) (p := eqI y10 0) (q := false) rfl (by kernel_rfl) hc28 (by kernel_rfl))) ?_
               refine XL_cons rfl (X_of_Y0 rfl (Y0_pick0 (b := bif (eqI (Int.tmod vs15 2) 1) then (eqI x5 0) else false) (p := true) (q := bif (ltI 1 vs15) then (eqI y10 0) else false) rfl (by kernel_rfl) hc27 (by kernel_rfl))) ?_
               refine XL_nil ?_
               subst ht29
               kernel_rfl
            ·refine XL_skipT _ rfl rfl (by kernel_rfl) hc26 rfl ?_
             refine XL_skipT _ rfl rfl (by kernel_rfl) hc26 rfl ?_
             refine XL_cons rfl (X_of_Y0 rfl (Y0_pick0 (b := eqI (Int.tmod vs15 2) 1) (p := eqI x5 0) (q := false) rfl (by kernel_rfl) hc26 (by kernel_rfl))) ?_
             refine L0 rfl rfl (E_move (Bo (bif (eqI (Int.tmod vs15 2) 1) then (eqI x5 0) else false)) rfl (by kernel_rfl)) ?_
             refine XL_split (bif (eqI (Int.tmod vs15 2) 1) then (eqI x5 0) else false) (fun hc27 => ?_) (fun hc27 => ?_)
             ·refine XL_skipF _ rfl rfl (by kernel_rfl) hc27 rfl ?_
              refine XL_skipF _ rfl rfl (by kernel_rfl) hc27 rfl ?_
              refine XL_skipF _ rfl rfl (by kernel_rfl) hc27 rfl ?_
              refine XL_skip2 rfl rfl (by kernel_rfl) rfl ?_
              refine XL_skip2 rfl rfl (by kernel_rfl) rfl ?_
              refine XL_skipF _ rfl rfl (by kernel_rfl) hc27 rfl ?_
              refine XL_cons rfl (X_of_Y0 rfl (Y0_pick1 (b := bif (eqI (Int.tmod vs15 2) 1) then (eqI x5 0) else false) (p := true) (q := bif (ltI 1 vs15) then (eqI y10 0) else false) rfl (by kernel_rfl) hc27 (by kernel_rfl))) ?_
              refine XL_nil ?_
              subst ht29
              kernel_rfl
             ·refine XL_takeC _ rfl rfl (by kernel_rfl) hc27 (X_of_Y0 rfl (E_move (I vs15) rfl (by kernel_rfl))) ?_
              refine XL_takeC _ rfl rfl (by kernel_rfl) hc27 (X_of_Y0 rfl (Y0_gtw (k := .i64) (a := vs15) (b := 1) rfl (by kernel_rfl) (by kernel_rfl))) ?_
              refine XL_takeC _ rfl rfl (by kernel_rfl) hc27 (X_of_Y0 rfl (E_move (Bo (ltI 1 vs15)) rfl (by kernel_rfl))) ?_
              refine XL_split (ltI 1 vs15) (fun hc28 => ?_) (fun hc28 => ?_)
              ·refine XL_takeC _ rfl rfl (by kernel_rfl) hc28 (X_of_Y0 rfl (E_move (I y10) rfl (by kernel_rfl))) ?_
               refine XL_takeC _ rfl rfl (by kernel_rfl) hc28 (X_of_Y0 rfl (Y0_eqw (k := .i64) (a := y10) (b := 0) rfl (by kernel_rfl) (by kernel_rfl))) ?_
               refine XL_takeC _ rfl rfl (by kernel_rfl) hc27 (X_of_Y0 rfl (Y0_pick1 (b := ltI 1 vs15) (p := eqI y10 0) (q := false) rfl (by kernel_rfl) hc28 (by kernel_rfl))) ?_
               refine XL_cons rfl (X_of_Y0 rfl (Y0_pick0 (b := bif (eqI (Int.tmod vs15 2) 1) then (eqI x5 0) else false) (p := true) (q := bif (ltI 1 vs15) then (eqI y10 0) else false) rfl (by kernel_rfl) hc27 (by kernel_rfl))) ?_
               refine XL_nil ?_
               subst ht29
               kernel_rfl
              ·refine XL_skipT _ rfl rfl (by kernel_rfl) hc28 rfl ?_
               refine XL_skipT _ rfl rfl (by kernel_rfl) hc28 rfl ?_
               refine XL_takeC _ rfl rfl (by kernel_rfl) hc27 (X_of_Y0 rfl (Y0_pick0 (b := ltI 1 vs15) (p := eqI y10 0) (q := false) rfl (by kernel_rfl) hc28 (by kernel_rfl))) ?_
               refine XL_cons rfl (X_of_Y0 rfl (Y0_pick0 (b := bif (eqI (Int.tmod vs15 2) 1) then (eqI x5 0) else false) (p := true) (q := bif (ltI 1 vs15) then (eqI y10 0) else false) rfl (by kernel_rfl) hc27 (by kernel_rfl))) ?_
               refine XL_nil ?_
               subst ht29
               kernel_rfl
           refine V_cond rfl (fun hc30 => ?_) (fun hc30 => ?_)
           ·have h := of_true h hc30
            refine V_exit ?_
            show V _ _ _ _
            obtain ⟨vs31, hvs31, h⟩ := of_sI h
            refine V_reg (mb 83 486) [112, 16] (s1 := ⟨.bot :: I vn2 :: .pt 16 0 :: .bot :: .bot :: .ow 112 :: I x5 :: I y10 :: I vs31 :: bt 74 [], [(112, .arr 3 1 (l16.map c3)), (16, .box [Ti y4.1, Ti y4.2.1, Ti y4.2.2])]⟩) ?_ ?_
            ·refine L0 rfl rfl (E_move (I vs15) rfl (by kernel_rfl)) ?_
             refine L0 rfl rfl (Y0_add64 (a := vs15) (b := 1) rfl (by kernel_rfl) (by kernel_rfl)) ?_
             refine L0 rfl rfl (E_assign (I (w64 (vs15 + 1))) rfl (by kernel_rfl)) ?_
             refine XL_nil ?_
             subst hvs31
             kernel_rfl
            exact ⟨n, Nat.lt_succ_self n, _, _,  by rfl, h⟩
           ·have h := of_false h hc30
            refine V_skip ?_
            show V _ _ _ _
            obtain ⟨y32, hy32, h⟩ := of_bind h
            refine V_sreg (mb 83 2534) [112, 16] (s1 := ⟨.bot :: I vn2 :: .pt 16 0 :: .bot :: .bot :: .ow 112 :: I x5 :: I y10 :: I vs15 :: .bot :: .bot :: I y32 :: bt 71 [], [(112, .arr 3 1 (l16.map c3)), (16, .box [Ti y4.1, Ti y4.2.1, Ti y4.2.2])]⟩) ?_ ?_
            ·refine L0 rfl rfl (E_loadn (cs := [Ti y4.1, Ti y4.2.1, Ti y4.2.2]) [Ti y4.1, Ti y4.2.1, Ti y4.2.2] wd45 rfl (by kernel_rfl) (Nat.le_of_ble_eq_true rfl) (by kernel_rfl)) ?_
             refine L0 rfl rfl (E_move (I j20) rfl (by kernel_rfl)) ?_
             refine L0 rfl rfl (E_move (I j23) rfl (by kernel_rfl)) ?_
             refine L1 rfl rfl (Y1_call (s_spec_foValue hy32) cf_spec_foValue rfl (by kernel_rfl)) ?_
             refine L0 rfl rfl (E_assign (I y32) rfl (by kernel_rfl)) ?_
             refine XL_nil ?_
             kernel_rfl
            refine V_sreg (mb 83 37778931862957161712102) [112, 16] (s1 := ⟨.bot :: I vn2 :: .pt 16 0 :: .bot :: .bot :: .ow 112 :: I x5 :: I y10 :: I vs15 :: .bot :: .bot :: I y32 :: bt 63 (Bo (leI y32 vn2) :: bt 7 []), [(112, .arr 3 1 (l16.map c3)), (16, .box [Ti y4.1, Ti y4.2.1, Ti y4.2.2])]⟩) ?_ ?_
            ·refine L0 rfl rfl (E_move (I y32) rfl (by kernel_rfl)) ?_
             refine L0 rfl rfl (E_move (I vn2) rfl (by kernel_rfl)) ?_
             refine L0 rfl rfl (Y0_lew (k := .i64) (a := y32) (b := vn2) rfl (by kernel_rfl) (by kernel_rfl)) ?_
             refine XL_nil ?_
             kernel_rfl
            refine V_cond rfl (fun hc33 => ?_) (fun hc33 => ?_)
            ·have h := of_true h hc33
             obtain ⟨e34, he34, h⟩ := of_bind h
             obtain ⟨e35, he35, h⟩ := of_bind h
             obtain ⟨e36, he36, h⟩ := of_bind h
             obtain ⟨e37, he37, h⟩ := of_bind h
             refine V_reg (mb 83 486) [112, 16] (s1 := ⟨.bot :: I vn2 :: .pt 16 0 :: .bot :: .bot :: .ow 112 :: I x5 :: I y10 :: I vs15 :: bt 74 [], [(112, .arr 3 1 ((l16.set (Int.toNat (y32)) (w64 (e35 + 1))).map c3)), (16, .box [Ti y4.1, Ti y4.2.1, Ti y4.2.2])]⟩) ?_ ?_
             ·refine L0 rfl rfl (E_move (.ow 112) rfl (by kernel_rfl)) ?_
              refine L0 rfl rfl (E_move (I y32) rfl (by kernel_rfl)) ?_
              refine L0 rfl rfl (Y0_idxoM (c := c3) (xs := l16) (v := e34) (id := 112) (T := 3) (sz := 1) (n := y32) Try.underlying41 sz3 rfl (by kernel_rfl) (by kernel_rfl) (by kernel_rfl) he34) ?_
              refine L0 rfl rfl (Y0_loado1 (c := c3) (xs := l16) (v := e35) (id := 112) (sz := 1) (T := 3) (off := 0) (n := y32) (d := Ti e35) (ds := []) sc3 rfl (by kernel_rfl) (by kernel_rfl) he35 (by kernel_rfl)) ?_
              refine L0 rfl rfl (Y0_add64 (a := e35) (b := 1) rfl (by kernel_rfl) (by kernel_rfl)) ?_
              refine L0 rfl rfl (Y0_idxoM (c := c3) (xs := l16) (v := e36) (id := 112) (T := 3) (sz := 1) (n := y32) Try.underlying41 sz3 rfl (by kernel_rfl) (by kernel_rfl) (by kernel_rfl) he36) ?_
              refine XL_cons rfl (X_storeoM (c := c3) (xs := l16) (v := e37) (u := w64 (e35 + 1)) (id := 112) (sz := 1) (off := 0) (T0 := 3) (n := y32) (vc := [Ti (w64 (e35 + 1))]) rfl rfl (by kernel_rfl) (by kernel_rfl) he37 (by kernel_rfl) sz3 (Nat.le_of_ble_eq_true rfl) (by kernel_rfl)) ?_
              refine XL_nil ?_
              kernel_rfl
             show V _ _ _ _
             obtain ⟨vs38, hvs38, h⟩ := of_sI h
             refine V_reg (mb 83 486) [112, 16] (s1 := ⟨.bot :: I vn2 :: .pt 16 0 :: .bot :: .bot :: .ow 112 :: I x5 :: I y10 :: I vs38 :: bt 74 [], [(112, .arr 3 1 ((l16.set (Int.toNat (y32)) (w64 (e35 + 1))).map c3)), (16, .box [Ti y4.1, Ti y4.2.1, Ti y4.2.2])]⟩) ?_ ?_
             ·refine L0 rfl rfl (E_move (I vs15) rfl (by kernel_rfl)) ?_
              refine L0 rfl rfl (Y0_add64 (a := vs15) (b := 1) rfl (by kernel_rfl) (by kernel_rfl)) ?_
              refine L0 rfl rfl (E_assign (I (w64 (vs15 + 1))) rfl (by kernel_rfl)) ?_
              refine XL_nil ?_
              subst hvs38
              kernel_rfl
             exact ⟨n, Nat.lt_succ_self n, _, _,  by rfl, h⟩
            ·have h := of_false h hc33
             refine V_skip ?_
             show V _ _ _ _
             obtain ⟨vs39, hvs39, h⟩ := of_sI h
             refine V_reg (mb 83 486) [112, 16] (s1 := ⟨.bot :: I vn2 :: .pt 16 0 :: .bot :: .bot :: .ow 112 :: I x5 :: I y10 :: I vs39 :: bt 74 [], [(112, .arr 3 1 (l16.map c3)), (16, .box [Ti y4.1, Ti y4.2.1, Ti y4.2.2])]⟩) ?_ ?_
             ·refine L0 rfl rfl (E_move (I vs15) rfl (by kernel_rfl)) ?_
              refine L0 rfl rfl (Y0_add64 (a := vs15) (b := 1) rfl (by kernel_rfl) (by kernel_rfl)) ?_
              refine L0 rfl rfl (E_assign (I (w64 (vs15 + 1))) rfl (by kernel_rfl)) ?_
              refine XL_nil ?_
              subst hvs39
              kernel_rfl
             exact ⟨n, Nat.lt_succ_self n, _, _,  by rfl, h⟩
          ·have h := of_false h hc19
           refine V_exit ?_
           obtain rfl := some_inj h
           show St.keep _ _ _ = _
           rfl
        show V _ _ _ _
        obtain ⟨y40, hy40, h⟩ := of_sI h
        refine V_reg (mb 83 230) [112, 16] (s1 := ⟨.bot :: I vn2 :: .pt 16 0 :: .bot :: .bot :: .ow 112 :: I x5 :: I y40 :: bt 75 [], [(112, .arr 3 1 (o18.map c3)), (16, .box [Ti y4.1, Ti y4.2.1, Ti y4.2.2])]⟩) ?_ ?_
        ·refine L0 rfl rfl (E_move (I y10) rfl (by kernel_rfl)) ?_
         refine L0 rfl rfl (Y0_add64 (a := y10) (b := 1) rfl (by kernel_rfl) (by kernel_rfl)) ?_
         refine L0 rfl rfl (E_assign (I (w64 (y10 + 1))) rfl (by kernel_rfl)) ?_
         refine XL_nil ?_
         subst hy40
         kernel_rfl
        exact ⟨n, Nat.lt_succ_self n, _, _,  by rfl, h⟩
       ·have h := of_false h hc14
        refine V_exit ?_
        obtain rfl := some_inj h
        show St.keep _ _ _ = _
        rfl
     show V _ _ _ _
     obtain ⟨x41, hx41, h⟩ := of_sI h
     refine V_reg (mb 83 102) [112, 16] (s1 := ⟨.bot :: I vn2 :: .pt 16 0 :: .bot :: .bot :: .ow 112 :: I x41 :: bt 76 [], [(112, .arr 3 1 (o13.map c3)), (16, .box [Ti y4.1, Ti y4.2.1, Ti y4.2.2])]⟩) ?_ ?_
     ·refine L0 rfl rfl (E_move (I x5) rfl (by kernel_rfl)) ?_
      refine L0 rfl rfl (Y0_add64 (a := x5) (b := 1) rfl (by kernel_rfl) (by kernel_rfl)) ?_
      refine L0 rfl rfl (E_assign (I (w64 (x5 + 1))) rfl (by kernel_rfl)) ?_
      refine XL_nil ?_
      subst hx41
      kernel_rfl
     exact ⟨n, Nat.lt_succ_self n, _, _,  by rfl, h⟩
    ·have h := of_false h hc9
     refine V_exit ?_
     obtain rfl := some_inj h
     show St.keep _ _ _ = _
     rfl
  show V _ _ _ _
  refine V_sreg (mb 83 16) [112] (s1 := ⟨bt 4 (.ow 112 :: bt 78 []), [(112, .arr 3 1 (o8.map c3))]⟩) ?_ ?_
  ·refine L0 rfl rfl (E_move (.ow 112) rfl (by kernel_rfl)) ?_
   refine L0 rfl rfl (E_assign (.ow 112) rfl (by kernel_rfl)) ?_
   refine XL_nil ?_
   kernel_rfl
  refine V_ret ?_
  obtain rfl := some_inj h
  show Post _ _ _ _ _
  exact ⟨.inr rfl, rfl, rfl, rfl⟩
theorem cf_spec_l1Least : ∀ args w, (callFunc 153 args).run Try.prog w = .ok (.enter 153 args) w := run_callFunc Try.func153 (by kernel_rfl) (by kernel_rfl)
set_option maxRecDepth 100000 in
set_option maxHeartbeats 400000 in
theorem s_spec_l1Least {a1 : Int} {b2 : Int} {r : Int} (h : r_spec_l1Least a1 b2 = some r) : CallS Try.prog 153 [I a1, I b2] (I r) [] := by
  refine CallS_of_text (rs := [.t 4]) (vs := [.tmp 4]) Try.func153 rfl rfl (.cons rfl FitsL.nil) (by decide) 10 rfl ?_
  unfold r_spec_l1Least at h
  show V _ _ ⟨I a1 :: I b2 :: bt 8 [], []⟩ _
  refine V_sreg (mb 10 3) [] (s1 := ⟨I a1 :: I b2 :: bt 8 [], []⟩) ?_ ?_
  ·refine L0 rfl rfl (E_assign (I 0) rfl (by kernel_rfl)) ?_
   refine XL_nil ?_
   kernel_rfl
  refine V_seq ?_
  refine V_sreg (mb 10 131) [] (s1 := ⟨I a1 :: I b2 :: bt 5 (Bo (ltI a1 b2) :: .bot :: .bot :: []), []⟩) ?_ ?_
  ·refine L0 rfl rfl (E_move (I a1) rfl (by kernel_rfl)) ?_
   refine L0 rfl rfl (E_move (I b2) rfl (by kernel_rfl)) ?_
   refine L0 rfl rfl (Y0_ltw (k := .i64) (a := a1) (b := b2) rfl (by kernel_rfl) (by kernel_rfl)) ?_
   refine XL_nil ?_
   kernel_rfl
  refine V_cond rfl (fun hc3 => ?_) (fun hc3 => ?_)
  ·have h := of_true h hc3
   refine V_sreg (mb 10 16) [] (s1 := ⟨bt 4 (I a1 :: bt 5 []), []⟩) ?_ ?_
   ·refine L0 rfl rfl (E_move (I a1) rfl (by kernel_rfl)) ?_
    refine L0 rfl rfl (E_assign (I a1) rfl (by kernel_rfl)) ?_
    refine XL_nil ?_
    kernel_rfl
   refine V_ret ?_
   obtain rfl := some_inj h
   show Post _ _ _ _ _
   exact ⟨.inr rfl, rfl, rfl, rfl⟩
  ·have h := of_false h hc3
   refine V_skip ?_
   show V _ _ _ _
   refine V_sreg (mb 10 16) [] (s1 := ⟨bt 4 (I b2 :: bt 5 []), []⟩) ?_ ?_
   ·refine L0 rfl rfl (E_move (I b2) rfl (by kernel_rfl)) ?_
    refine L0 rfl rfl (E_assign (I b2) rfl (by kernel_rfl)) ?_
    refine XL_nil ?_
    kernel_rfl
   refine V_ret ?_
   obtain rfl := some_inj h
   show Post _ _ _ _ _
   exact ⟨.inr rfl, rfl, rfl, rfl⟩
end Go.Proofs.Ytgeajejmikaniaa
