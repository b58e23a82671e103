/-
  The functions of the program compute what the plain functions say: more of them.
  Conditions: none.
-/
import Derived.Test.YtpfnhgpepgeaiaaPgSnd1
namespace Go.Proofs.Ytpfnhgpepgeaiaa
open Go.RowKit
set_option linter.unusedVariables false
set_option linter.unusedSimpArgs false
theorem cf_spec_chAt : ∀ args w, (callFunc 111 args).run Try.prog w = .ok (.enter 111 args) w := run_callFunc Try.func111 (by kernel_rfl) (by kernel_rfl)
set_option maxRecDepth 100000 in
set_option maxHeartbeats 400000 in
theorem s_spec_chAt {x1 : (Int × Int)} {vn2 : Int} {r : Int} (h : r_spec_chAt x1 vn2 = some r) : CallS Try.prog 111 [.ag [Ti x1.1, Ti x1.2], I vn2] (I r) [] := by
  refine CallS_of_text (rs := [.t 4]) (vs := [.tmp 4]) Try.func111 rfl rfl (.cons rfl FitsL.nil) (by decide) 33 rfl ?_
  unfold r_spec_chAt at h
  show V _ _ ⟨.ag [Ti x1.1, Ti x1.2] :: I vn2 :: bt 31 [], []⟩ _
  refine V_sreg (mb 33 6) [16] (s1 := ⟨.bot :: I vn2 :: .pt 16 0 :: bt 30 [], [(16, .box [Ti x1.1, Ti x1.2])]⟩) ?_ ?_
  ·refine L1 rfl rfl (Y1_box (cs := [Ti x1.1, Ti x1.2]) rfl (by kernel_rfl)) ?_
   refine L0 rfl rfl (E_assign (I 0) rfl (by kernel_rfl)) ?_
   refine XL_nil ?_
   kernel_rfl
  refine V_seq ?_
  refine V_sreg (mb 33 518) [16] (s1 := ⟨.bot :: I vn2 :: .pt 16 0 :: bt 6 (Bo (eqI x1.1 1) :: bt 23 []), [(16, .box [Ti x1.1, Ti x1.2])]⟩) ?_ ?_
  ·refine L0 rfl rfl (E_field (.pt 16 0) Try.underlying94 rfl sz3 rfl (by kernel_rfl) (by intro hh; cases hh)) ?_
   refine L0 rfl rfl (Y0_load1 (c := Ti x1.1) (cs := [Ti x1.2]) sc3 rfl (by kernel_rfl)) ?_
   refine L0 rfl rfl (Y0_eqw (k := .i64) (a := x1.1) (b := 1) rfl (by kernel_rfl) (by kernel_rfl)) ?_
   refine XL_nil ?_
   kernel_rfl
  refine V_cond rfl (fun hc3 => ?_) (fun hc3 => ?_)
  ·have h := of_true h hc3
   obtain ⟨y4, hy4, h⟩ := of_bind h
   refine V_sreg (mb 33 16) [] (s1 := ⟨bt 4 (I y4 :: bt 28 []), []⟩) ?_ ?_
   ·refine L0 rfl rfl (E_move (I vn2) rfl (by kernel_rfl)) ?_
    refine L0 rfl rfl (E_field (.pt 16 1) Try.underlying94 rfl sz3 rfl (by kernel_rfl) (by intro hh; cases hh)) ?_
    refine L0 rfl rfl (Y0_load1 (c := Ti x1.2) (cs := []) sc3 rfl (by kernel_rfl)) ?_
    refine L1 rfl rfl (Y1_call (s_spec_syJacobi hy4) cf_spec_syJacobi rfl (by kernel_rfl)) ?_
    refine L0 rfl rfl (E_assign (I y4) rfl (by kernel_rfl)) ?_
    refine XL_nil ?_
    kernel_rfl
   refine V_ret ?_
   obtain rfl := some_inj h
   show Post _ _ _ _ _
   exact ⟨.inr rfl, rfl, rfl, rfl⟩
  ·have h := of_false h hc3
   refine V_skip ?_
   show V _ _ _ _
   refine V_seq ?_
   refine V_sreg (mb 33 65542) [16] (s1 := ⟨.bot :: I vn2 :: .pt 16 0 :: bt 13 (Bo (eqI (Int.tmod vn2 2) 0) :: bt 16 []), [(16, .box [Ti x1.1, Ti x1.2])]⟩) ?_ ?_
   ·refine L0 rfl rfl (E_move (I vn2) rfl (by kernel_rfl)) ?_
    refine L0 rfl rfl (Y0_rem (k := .i64) (a := vn2) (b := 2) rfl (by kernel_rfl) (by kernel_rfl) (by decide)) ?_
    refine L0 rfl rfl (Y0_eqw (k := .i64) (a := Int.tmod vn2 2) (b := 0) rfl (by kernel_rfl) (by kernel_rfl)) ?_
    refine XL_nil ?_
    kernel_rfl
   refine V_cond rfl (fun hc5 => ?_) (fun hc5 => ?_)
   ·have h := of_true h hc5
    refine V_sreg (mb 33 16) [] (s1 := ⟨bt 4 (I 0 :: bt 28 []), []⟩) ?_ ?_
    ·refine L0 rfl rfl (E_assign (I 0) rfl (by kernel_rfl)) ?_
     refine XL_nil ?_
     kernel_rfl
    refine V_ret ?_
    obtain rfl := some_inj h
    show Post _ _ _ _ _
    exact ⟨.inr rfl, rfl, rfl, rfl⟩
   ·have h := of_false h hc5
    refine V_skip ?_
    show V _ _ _ _
    obtain ⟨y6, hy6, h⟩ := of_bind h
    obtain ⟨y7, hy7, h⟩ := of_bind h
    obtain ⟨delta8, hdelta8, h⟩ := of_sI h
    refine V_sreg (mb 33 100) [16] (s1 := ⟨.bot :: .bot :: .pt 16 0 :: .bot :: .bot :: I delta8 :: I y7 :: bt 26 [], [(16, .box [Ti x1.1, Ti x1.2])]⟩) ?_ ?_
    ·refine L0 rfl rfl (E_move (I vn2) rfl (by kernel_rfl)) ?_
     refine L1 rfl rfl (Y1_call (s_spec_nuMod hy6) cf_spec_nuMod rfl (by kernel_rfl)) ?_
     refine L0 rfl rfl (Y0_sub64 (a := 2) (b := y6) rfl (by kernel_rfl) (by kernel_rfl)) ?_
     refine L0 rfl rfl (E_move (I vn2) rfl (by kernel_rfl)) ?_
     refine L1 rfl rfl (Y1_call (s_spec_syTwo hy7) cf_spec_syTwo rfl (by kernel_rfl)) ?_
     refine L0 rfl rfl (E_assign (I (w64 (2 - y6))) rfl (by kernel_rfl)) ?_
     refine L0 rfl rfl (E_assign (I y7) rfl (by kernel_rfl)) ?_
     refine XL_nil ?_
     subst hdelta8
     kernel_rfl
    refine V_seq ?_
    refine V_sreg (mb 33 8388704) [] (s1 := ⟨bt 5 (I delta8 :: I y7 :: bt 16 (I x1.1 :: bt 9 [])), []⟩) ?_ ?_
    ·refine L0 rfl rfl (E_field (.pt 16 0) Try.underlying94 rfl sz3 rfl (by kernel_rfl) (by intro hh; cases hh)) ?_
     refine L0 rfl rfl (Y0_load1 (c := Ti x1.1) (cs := [Ti x1.2]) sc3 rfl (by kernel_rfl)) ?_
     refine XL_nil ?_
     kernel_rfl
    refine V_block ?_
    refine V_sreg (mb 33 25165920) [] (s1 := ⟨bt 5 (I delta8 :: I y7 :: bt 16 (I x1.1 :: Bo (eqI x1.1 2) :: bt 8 [])), []⟩) ?_ ?_
    ·refine L0 rfl rfl (Y0_eqw (k := .i64) (a := x1.1) (b := 2) rfl (by kernel_rfl) (by kernel_rfl)) ?_
     refine L0 rfl rfl (E_assign (Bo (eqI x1.1 2)) rfl (by kernel_rfl)) ?_
     refine XL_nil ?_
     kernel_rfl
    refine V_cond rfl (fun hc9 => ?_) (fun hc9 => ?_)
    ·have h := of_true h hc9
     refine V_sreg (mb 33 16) [] (s1 := ⟨bt 4 (I delta8 :: bt 28 []), []⟩) ?_ ?_
     ·refine L0 rfl rfl (E_move (I delta8) rfl (by kernel_rfl)) ?_
      refine L0 rfl rfl (E_assign (I delta8) rfl (by kernel_rfl)) ?_
      refine XL_nil ?_
      kernel_rfl
     refine V_ret ?_
     obtain rfl := some_inj h
     show Post _ _ _ _ _
     exact ⟨.inr rfl, rfl, rfl, rfl⟩
    ·have h := of_false h hc9
     refine V_sreg (mb 33 134217824) [] (s1 := ⟨bt 5 (I delta8 :: I y7 :: bt 20 (Bo (eqI x1.1 3) :: bt 5 [])), []⟩) ?_ ?_
     ·refine L0 rfl rfl (Y0_eqw (k := .i64) (a := x1.1) (b := 3) rfl (by kernel_rfl) (by kernel_rfl)) ?_
      refine L0 rfl rfl (E_assign (Bo (eqI x1.1 3)) rfl (by kernel_rfl)) ?_
      refine XL_nil ?_
      kernel_rfl
     refine V_cond rfl (fun hc10 => ?_) (fun hc10 => ?_)
     ·have h := of_true h hc10
      refine V_sreg (mb 33 16) [] (s1 := ⟨bt 4 (I y7 :: bt 28 []), []⟩) ?_ ?_
      ·refine L0 rfl rfl (E_move (I y7) rfl (by kernel_rfl)) ?_
       refine L0 rfl rfl (E_assign (I y7) rfl (by kernel_rfl)) ?_
       refine XL_nil ?_
       kernel_rfl
      refine V_ret ?_
      obtain rfl := some_inj h
      show Post _ _ _ _ _
      exact ⟨.inr rfl, rfl, rfl, rfl⟩
     ·have h := of_false h hc10
      refine V_skip ?_
      show V _ _ _ _
      obtain ⟨t11, ht11, h⟩ := of_sI h
      refine V_sreg (mb 33 16) [] (s1 := ⟨bt 4 (I t11 :: bt 28 []), []⟩) ?_ ?_
      ·refine L0 rfl rfl (E_move (I delta8) rfl (by kernel_rfl)) ?_
       refine L0 rfl rfl (E_move (I y7) rfl (by kernel_rfl)) ?_
       refine L0 rfl rfl (Y0_mul64 (a := delta8) (b := y7) rfl (by kernel_rfl) (by kernel_rfl)) ?_
       refine L0 rfl rfl (E_assign (I (w64 (delta8 * y7))) rfl (by kernel_rfl)) ?_
       refine XL_nil ?_
       subst ht11
       kernel_rfl
      refine V_ret ?_
      obtain rfl := some_inj h
      show Post _ _ _ _ _
      exact ⟨.inr rfl, rfl, rfl, rfl⟩
theorem cf_spec_chList : ∀ args w, (callFunc 75 args).run Try.prog w = .ok (.enter 75 args) w := run_callFunc Try.func75 (by kernel_rfl) (by kernel_rfl)
set_option maxRecDepth 100000 in
set_option maxHeartbeats 400000 in
theorem s_spec_chList {d1 : Int} {vn2 : Int} {r : List Int} (h : r_spec_chList d1 vn2 = some r) : CallS Try.prog 75 [I d1, I vn2] (.ow 0) [(0, .arr 3 1 (r.map c3))] := by
  refine CallS_of_text (rs := [.t 4]) (vs := [.tmp 4]) Try.func75 rfl rfl (.cons rfl FitsL.nil) (by decide) 23 rfl ?_
  unfold r_spec_chList at h
  show V _ _ ⟨I d1 :: I vn2 :: bt 21 [], []⟩ _
  refine V_sreg (mb 23 3) [] (s1 := ⟨I d1 :: I vn2 :: bt 21 [], []⟩) ?_ ?_
  ·refine L1 rfl rfl (Y1_nil (e := 3) 1 (by decide) (.inl rfl)) ?_
   refine XL_nil ?_
   kernel_rfl
  refine V_sreg (mb 23 35) [40] (s1 := ⟨I d1 :: I vn2 :: bt 3 (.ow 40 :: bt 17 []), [(40, .arr 3 1 ((([] : List Int)).map c3))]⟩) ?_ ?_
  ·refine L1 rfl rfl (Y1_nil (e := 3) 1 (by decide) (.inl rfl)) ?_
   refine XL_nil ?_
   kernel_rfl
  refine V_seq ?_
  obtain ⟨y3, hy3, h⟩ := of_bind h
  refine V_sreg (mb 23 3618) [72, 40] (s1 := ⟨.bot :: I vn2 :: bt 3 (.ow 40 :: bt 3 (.ow 72 :: I ((y3.length : Int)) :: I 0 :: bt 11 [])), [(72, .arr 94 2 (y3.map c94)), (40, .arr 3 1 ((([] : List Int)).map c3))]⟩) ?_ ?_
  ·refine L0 rfl rfl (E_move (I d1) rfl (by kernel_rfl)) ?_
   refine L1 rfl rfl (Y1_call (s_spec_chAll hy3) cf_spec_chAll rfl (by kernel_rfl)) ?_
   refine L0 rfl rfl (Y0_lenM (c := c94) (xs := y3) Try.underlying91 rfl (by kernel_rfl)) ?_
   refine L0 rfl rfl (E_move (I 0) rfl (by kernel_rfl)) ?_
   refine XL_nil ?_
   kernel_rfl
  obtain ⟨o7, hLo7, h⟩ := of_bind h
  refine V_toK (mb 23 32) [40] (s1 := ⟨bt 5 (.ow 40 :: bt 17 []), [(40, .arr 3 1 (o7.map c3))]⟩) ?_ ?_
  ·clear h
   refine V_block (V_loop (fun n s => ∃ (t4 : Int) (l5 : List Int), s.keep (mb 23 3618) [72, 40] = (⟨.bot :: I vn2 :: bt 3 (.ow 40 :: bt 3 (.ow 72 :: I ((y3.length : Int)) :: I t4 :: bt 11 [])), [(72, .arr 94 2 (y3.map c94)), (40, .arr 3 1 (l5.map c3))]⟩ : St) ∧ r_spec_chList_L6 vn2 y3 n t4 l5 = some o7) FU ⟨_, _,  by rfl, hLo7⟩ ?_)
   clear hLo7
   rintro n s ⟨t4, l5, hs, h⟩
   refine V_keep _ _ hs ?_
   clear hs
   cases n with
   | zero => cases h
   | succ n =>
    rw [r_spec_chList_L6] at h
    refine V_sreg (mb 23 7714) [72, 40] (s1 := ⟨.bot :: I vn2 :: bt 3 (.ow 40 :: bt 3 (.ow 72 :: I ((y3.length : Int)) :: I t4 :: Bo (ltI t4 ((y3.length : Int))) :: bt 10 [])), [(72, .arr 94 2 (y3.map c94)), (40, .arr 3 1 (l5.map c3))]⟩) ?_ ?_
    ·refine L0 rfl rfl (Y0_ltw (k := .i64) (a := t4) (b := (y3.length : Int)) rfl (by kernel_rfl) (by kernel_rfl)) ?_
     refine XL_nil ?_
     kernel_rfl
    refine V_seq ?_
    refine V_cond rfl (fun hc8 => ?_) (fun hc8 => ?_)
    ·have h := of_true h hc8
     refine V_skip ?_
     show V _ _ _ _
     refine V_seq ?_
     refine V_block ?_
     obtain ⟨e9, he9, h⟩ := of_bind h
     obtain ⟨e10, he10, h⟩ := of_bind h
     refine V_sreg (mb 23 3746) [56, 72, 40] (s1 := ⟨.bot :: I vn2 :: bt 3 (.ow 40 :: .bot :: .pt 56 0 :: .bot :: .ow 72 :: I ((y3.length : Int)) :: I t4 :: bt 11 []), [(56, .box [Ti e10.1, Ti e10.2]), (72, .arr 94 2 (y3.map c94)), (40, .arr 3 1 (l5.map c3))]⟩) ?_ ?_
     ·refine L0 rfl rfl (Y0_idxoM (c := c94) (xs := y3) (v := e9) (id := 72) (T := 94) (sz := 2) (n := t4) Try.underlying91 sz94 rfl (by kernel_rfl) (by kernel_rfl) (by kernel_rfl) he9) ?_
      refine L0 rfl rfl (E_loadon (c := c94) (xs := y3) (v := e10) (id := 72) (sz := 2) (T := 94) (off := 0) (n := t4) [Ti e10.1, Ti e10.2] wd94 rfl (by kernel_rfl) (by kernel_rfl) he10 (Nat.le_of_ble_eq_true rfl) (by kernel_rfl)) ?_
      refine L1 rfl rfl (Y1_alloc (z := zv94) rfl zf94 rfl) ?_
      refine XL_cons rfl (E_store (id := 56) (off := 0) (cs := [Ti 0, Ti 0]) (vc := [Ti e10.1, Ti e10.2]) [Ti e10.1, Ti e10.2] rfl rfl (by kernel_rfl) (by kernel_rfl) (by kernel_rfl) sz94 (Nat.le_of_ble_eq_true rfl) (by kernel_rfl)) ?_
      refine XL_nil ?_
      kernel_rfl
     obtain ⟨y11, hy11, h⟩ := of_bind h
     obtain ⟨u12, hu12, h⟩ := of_bind h
     refine V_reg (mb 23 3618) [72, 40] (s1 := ⟨.bot :: I vn2 :: bt 3 (.ow 40 :: bt 3 (.ow 72 :: I ((y3.length : Int)) :: I t4 :: bt 11 [])), [(72, .arr 94 2 (y3.map c94)), (40, .arr 3 1 ((l5 ++ ([y11])).map c3))]⟩) ?_ ?_
     ·refine L0 rfl rfl (E_move (.ow 40) rfl (by kernel_rfl)) ?_
      refine L0 rfl rfl (E_loadn (cs := [Ti e10.1, Ti e10.2]) [Ti e10.1, Ti e10.2] wd94 rfl (by kernel_rfl) (Nat.le_of_ble_eq_true rfl) (by kernel_rfl)) ?_
      refine L0 rfl rfl (E_move (I vn2) rfl (by kernel_rfl)) ?_
      refine L1 rfl rfl (Y1_call (s_spec_chAt hy11) cf_spec_chAt rfl (by kernel_rfl)) ?_
      refine L1 rfl rfl (Y1_bslice (z := zv3) (els := [y11].map c3) Try.underlying28 iz3 rfl (by decide) rfl (by kernel_rfl) rfl (by simp [c3]) (by decide) (by decide)) ?_
      refine XL_cons rfl (X_appendM (c := c3) (xs := l5) (ys := [y11]) (id := 40) (z := zv3) rfl rfl Try.underlying28 izb3 rfl (by kernel_rfl) (by kernel_rfl) (by kernel_rfl) (fun _ => rfl) (by simp) (room_some hu12) (by decide)) ?_
      refine L0 rfl rfl (E_assign (.ow 40) rfl (by kernel_rfl)) ?_
      refine XL_nil ?_
      kernel_rfl
     show V _ _ _ _
     obtain ⟨t13, ht13, h⟩ := of_sI h
     refine V_reg (mb 23 3618) [72, 40] (s1 := ⟨.bot :: I vn2 :: bt 3 (.ow 40 :: bt 3 (.ow 72 :: I ((y3.length : Int)) :: I t13 :: bt 11 [])), [(72, .arr 94 2 (y3.map c94)), (40, .arr 3 1 ((l5 ++ ([y11])).map c3))]⟩) ?_ ?_
     ·refine L0 rfl rfl (Y0_add64 (a := t4) (b := 1) rfl (by kernel_rfl) (by kernel_rfl)) ?_
      refine L0 rfl rfl (E_move (I (w64 (t4 + 1))) rfl (by kernel_rfl)) ?_
      refine XL_nil ?_
      subst ht13
      kernel_rfl
     exact ⟨n, Nat.lt_succ_self n, _, _,  by rfl, h⟩
    ·have h := of_false h hc8
     refine V_exit ?_
     obtain rfl := some_inj h
     show St.keep _ _ _ = _
     rfl
  show V _ _ _ _
  refine V_sreg (mb 23 16) [40] (s1 := ⟨bt 4 (.ow 40 :: bt 18 []), [(40, .arr 3 1 (o7.map c3))]⟩) ?_ ?_
  ·refine L0 rfl rfl (E_move (.ow 40) rfl (by kernel_rfl)) ?_
   refine L0 rfl rfl (E_assign (.ow 40) rfl (by kernel_rfl)) ?_
   refine XL_nil ?_
   kernel_rfl
  refine V_ret ?_
  obtain rfl := some_inj h
  show Post _ _ _ _ _
  exact ⟨.inr rfl, rfl, rfl, rfl⟩
theorem cf_spec_ValuesAt : ∀ args w, (callFunc 32 args).run Try.prog w = .ok (.enter 32 args) w := run_callFunc Try.func32 (by kernel_rfl) (by kernel_rfl)
set_option maxRecDepth 100000 in
set_option maxHeartbeats 400000 in
theorem s_spec_ValuesAt {d1 : Int} {vn2 : Int} {r : ((List Int) × Bool)} (h : r_spec_ValuesAt d1 vn2 = some r) : CallS Try.prog 32 [I d1, I vn2] (.tc (.ow 0) (.tc (Bo r.2) .tn)) [(0, .arr 3 1 (r.1.map c3))] := by
  refine CallS_of_text (rs := [.t 4, .t 5]) (vs := [.tmp 4, .tmp 5]) Try.func32 rfl rfl (.cons rfl (.cons rfl FitsL.nil)) (by decide) 13 rfl ?_
  unfold r_spec_ValuesAt at h
  show V _ _ ⟨I d1 :: I vn2 :: bt 11 [], []⟩ _
  refine V_sreg (mb 13 3) [] (s1 := ⟨I d1 :: I vn2 :: bt 11 [], []⟩) ?_ ?_
  ·refine L1 rfl rfl (Y1_nil (e := 3) 1 (by decide) (.inl rfl)) ?_
   refine L0 rfl rfl (E_assign (Bo false) rfl (by kernel_rfl)) ?_
   refine XL_nil ?_
   kernel_rfl
  refine V_seq ?_
  obtain ⟨y3, hy3, h⟩ := of_bind h
  refine V_sreg (mb 13 515) [] (s1 := ⟨I d1 :: I vn2 :: bt 7 (Bo (!y3) :: bt 3 []), []⟩) ?_ ?_
  ·refine L0 rfl rfl (E_move (I d1) rfl (by kernel_rfl)) ?_
   refine L0 rfl rfl (E_move (I vn2) rfl (by kernel_rfl)) ?_
   refine L1 rfl rfl (Y1_call (s_spec_chPrime hy3) cf_spec_chPrime rfl (by kernel_rfl)) ?_
   refine L0 rfl rfl (Y0_not (b := y3) rfl (by kernel_rfl)) ?_
   refine XL_nil ?_
   kernel_rfl
  refine V_cond rfl (fun hc4 => ?_) (fun hc4 => ?_)
  ·have h := of_true h hc4
   refine V_sreg (mb 13 48) [32] (s1 := ⟨bt 4 (.ow 32 :: Bo false :: bt 7 []), [(32, .arr 3 1 ((([] : List Int)).map c3))]⟩) ?_ ?_
   ·refine L1 rfl rfl (Y1_nil (e := 3) 1 (by decide) (.inl rfl)) ?_
    refine L0 rfl rfl (E_assign (Bo false) rfl (by kernel_rfl)) ?_
    refine XL_nil ?_
    kernel_rfl
   refine V_ret ?_
   obtain rfl := some_inj h
   show Post _ _ _ _ _
   exact ⟨.inr rfl, rfl, rfl, rfl⟩
  ·have h := of_false h hc4
   refine V_skip ?_
   show V _ _ _ _
   obtain ⟨y5, hy5, h⟩ := of_bind h
   refine V_sreg (mb 13 48) [96] (s1 := ⟨bt 4 (.ow 96 :: Bo true :: bt 7 []), [(96, .arr 3 1 (y5.map c3))]⟩) ?_ ?_
   ·refine L0 rfl rfl (E_move (I d1) rfl (by kernel_rfl)) ?_
    refine L0 rfl rfl (E_move (I vn2) rfl (by kernel_rfl)) ?_
    refine L1 rfl rfl (Y1_call (s_spec_chList hy5) cf_spec_chList rfl (by kernel_rfl)) ?_
    refine L0 rfl rfl (E_assign (.ow 96) rfl (by kernel_rfl)) ?_
    refine L0 rfl rfl (E_assign (Bo true) rfl (by kernel_rfl)) ?_
    refine XL_nil ?_
    kernel_rfl
   refine V_ret ?_
   obtain rfl := some_inj h
   show Post _ _ _ _ _
   exact ⟨.inr rfl, rfl, rfl, rfl⟩
theorem cf_laws_sameInts : ∀ args w, (callFunc 16 args).run Try.prog w = .ok (.enter 16 args) w := run_callFunc Try.func16 (by kernel_rfl) (by kernel_rfl)
set_option maxRecDepth 100000 in
set_option maxHeartbeats 400000 in
theorem s_laws_sameInts {a1 : List Int} {b2 : List Int} {r : Bool} (h : r_laws_sameInts a1 b2 = some r) : CallS Try.prog 16 [.c (.sl (a1.map c3)), .c (.sl (b2.map c3))] (Bo r) [] := by
  refine CallS_of_text (rs := [.t 4]) (vs := [.tmp 4]) Try.func16 rfl rfl (.cons rfl FitsL.nil) (by decide) 26 rfl ?_
  unfold r_laws_sameInts at h
  show V _ _ ⟨.c (.sl (a1.map c3)) :: .c (.sl (b2.map c3)) :: bt 24 [], []⟩ _
  refine V_sreg (mb 26 3) [] (s1 := ⟨.c (.sl (a1.map c3)) :: .c (.sl (b2.map c3)) :: bt 24 [], []⟩) ?_ ?_
  ·refine L0 rfl rfl (E_assign (Bo false) rfl (by kernel_rfl)) ?_
   refine XL_nil ?_
   kernel_rfl
  refine V_seq ?_
  refine V_sreg (mb 26 1027) [] (s1 := ⟨.c (.sl (a1.map c3)) :: .c (.sl (b2.map c3)) :: bt 8 (Bo (!eqI ((a1.length : Int)) ((b2.length : Int))) :: bt 15 []), []⟩) ?_ ?_
  ·refine L0 rfl rfl (E_move (.c (.sl (a1.map c3))) rfl (by kernel_rfl)) ?_
   refine L0 rfl rfl (Y0_lenM (c := c3) (xs := a1) Try.underlying28 rfl (by kernel_rfl)) ?_
   refine L0 rfl rfl (E_move (.c (.sl (b2.map c3))) rfl (by kernel_rfl)) ?_
   refine L0 rfl rfl (Y0_lenM (c := c3) (xs := b2) Try.underlying28 rfl (by kernel_rfl)) ?_
   refine L0 rfl rfl (Y0_new (k := .i64) (a := (a1.length : Int)) (b := (b2.length : Int)) rfl (by kernel_rfl) (by kernel_rfl)) ?_
   refine XL_nil ?_
   kernel_rfl
  refine V_cond rfl (fun hc3 => ?_) (fun hc3 => ?_)
  ·have h := of_true h hc3
   refine V_sreg (mb 26 16) [] (s1 := ⟨bt 4 (Bo false :: bt 21 []), []⟩) ?_ ?_
   ·refine L0 rfl rfl (E_assign (Bo false) rfl (by kernel_rfl)) ?_
    refine XL_nil ?_
    kernel_rfl
   refine V_ret ?_
   obtain rfl := some_inj h
   show Post _ _ _ _ _
   exact ⟨.inr rfl, rfl, rfl, rfl⟩
  ·have h := of_false h hc3
   refine V_skip ?_
   show V _ _ _ _
   refine V_seq ?_
   refine V_sreg (mb 26 12291) [] (s1 := ⟨.c (.sl (a1.map c3)) :: .c (.sl (b2.map c3)) :: bt 10 (I ((a1.length : Int)) :: I 0 :: bt 12 []), []⟩) ?_ ?_
   ·refine L0 rfl rfl (E_move (.c (.sl (a1.map c3))) rfl (by kernel_rfl)) ?_
    refine L0 rfl rfl (Y0_lenM (c := c3) (xs := a1) Try.underlying28 rfl (by kernel_rfl)) ?_
    refine L0 rfl rfl (E_move (I 0) rfl (by kernel_rfl)) ?_
    refine XL_nil ?_
    kernel_rfl
   obtain ⟨qo6, hLo6, hko6⟩ := of_bind h
   refine V_toS (q := qo6) (S := fun o6 => ⟨bt 26 [], []⟩) (mb 26 0) [] ?_ ?_
   ·refine V_block (V_loop (fun n s => ∃ (t4 : Int), s.keep (mb 26 12291) [] = (⟨.c (.sl (a1.map c3)) :: .c (.sl (b2.map c3)) :: bt 10 (I ((a1.length : Int)) :: I t4 :: bt 12 []), []⟩ : St) ∧ r_laws_sameInts_L5 a1 b2 n t4 = some qo6) FU ⟨_,  by rfl, hLo6⟩ ?_)
    clear hLo6
    rintro n s ⟨t4, hs, h⟩
    refine V_keep _ _ hs ?_
    clear hs
    cases n with
    | zero => cases h
    | succ n =>
     rw [r_laws_sameInts_L5] at h
     refine V_sreg (mb 26 28675) [] (s1 := ⟨.c (.sl (a1.map c3)) :: .c (.sl (b2.map c3)) :: bt 10 (I ((a1.length : Int)) :: I t4 :: Bo (ltI t4 ((a1.length : Int))) :: bt 11 []), []⟩) ?_ ?_
     ·refine L0 rfl rfl (Y0_ltw (k := .i64) (a := t4) (b := (a1.length : Int)) rfl (by kernel_rfl) (by kernel_rfl)) ?_
      refine XL_nil ?_
      kernel_rfl
     refine V_seq ?_
     refine V_cond rfl (fun hc7 => ?_) (fun hc7 => ?_)
     ·have h := of_true h hc7
      refine V_skip ?_
      show V _ _ _ _
      refine V_seq ?_
      refine V_block ?_
      refine V_sreg (mb 26 12323) [] (s1 := ⟨.c (.sl (a1.map c3)) :: .c (.sl (b2.map c3)) :: bt 3 (I t4 :: bt 6 (I ((a1.length : Int)) :: I t4 :: bt 12 [])), []⟩) ?_ ?_
      ·refine L0 rfl rfl (E_move (I t4) rfl (by kernel_rfl)) ?_
       refine L0 rfl rfl (E_assign (I t4) rfl (by kernel_rfl)) ?_
       refine XL_nil ?_
       kernel_rfl
      obtain ⟨e8, he8, h⟩ := of_bind h
      obtain ⟨e9, he9, h⟩ := of_bind h
      refine V_sdreg [0, 0, 3, 7, 0, 0, 48, 112, 255] 9 [[.z, .b, .z, .z, .b, .b, .b, .b, .z], [.b, .z, .z, .z, .b, .b, .b, .b, .z], [.a, .a, .z, .z, .b, .b, .b, .b, .z], [.a, .a, .a, .z, .b, .b, .b, .b, .z], [.b, .b, .b, .b, .z, .b, .z, .z, .z], [.b, .b, .b, .b, .b, .z, .z, .z, .z], [.b, .b, .b, .b, .a, .a, .z, .z, .z], [.b, .b, .b, .b, .a, .a, .a, .z, .z], [.a, .a, .a, .a, .a, .a, .a, .a, .z]] (mb 26 16789507) [] (s1 := ⟨.c (.sl (a1.map c3)) :: .c (.sl (b2.map c3)) :: bt 10 (I ((a1.length : Int)) :: I t4 :: bt 10 (Bo (!eqI e8 e9) :: .bot :: [])), []⟩) (by kernel_rfl) (by kernel_rfl) ?_ ?_
      ·refine DE_0 0 (.c (.sl (a1.map c3))) (by kernel_rfl) rfl rfl rfl (gsat_none rfl) (by kernel_rfl) (E_move (.c (.sl (a1.map c3))) rfl (by kernel_rfl)) 16 rfl ?_
       refine DE_0 1 (I t4) (by kernel_rfl) rfl rfl rfl (gsat_none rfl) (by kernel_rfl) (E_move (I t4) rfl (by kernel_rfl)) 17 rfl ?_
       refine DE_0 2 (.pe [Ti e8]) (by kernel_rfl) rfl rfl rfl (gsat_none rfl) (by kernel_rfl) (Y0_idxM (c := c3) (xs := a1) (v := e8) (n := t4) Try.underlying28 sz3 rfl (by kernel_rfl) (by kernel_rfl) he8) 18 rfl ?_
       refine DE_0 3 (I e8) (by kernel_rfl) rfl rfl rfl (gsat_none rfl) (by kernel_rfl) (Y0_load1 (c := Ti e8) (cs := []) sc3 rfl (by kernel_rfl)) 19 rfl ?_
       refine DE_0 4 (.c (.sl (b2.map c3))) (by kernel_rfl) rfl rfl rfl (gsat_none rfl) (by kernel_rfl) (E_move (.c (.sl (b2.map c3))) rfl (by kernel_rfl)) 20 rfl ?_
       refine DE_0 5 (I t4) (by kernel_rfl) rfl rfl rfl (gsat_none rfl) (by kernel_rfl) (E_move (I t4) rfl (by kernel_rfl)) 21 rfl ?_
       refine DE_0 6 (.pe [Ti e9]) (by kernel_rfl) rfl rfl rfl (gsat_none rfl) (by kernel_rfl) (Y0_idxM (c := c3) (xs := b2) (v := e9) (n := t4) Try.underlying28 sz3 rfl (by kernel_rfl) (by kernel_rfl) he9) 22 rfl ?_
       refine DE_0 7 (I e9) (by kernel_rfl) rfl rfl rfl (gsat_none rfl) (by kernel_rfl) (Y0_load1 (c := Ti e9) (cs := []) sc3 rfl (by kernel_rfl)) 23 rfl ?_
       refine DE_0 8 (Bo (!eqI e8 e9)) (by kernel_rfl) rfl rfl rfl (gsat_none rfl) (by kernel_rfl) (Y0_new (k := .i64) (a := e8) (b := e9) rfl (by kernel_rfl) (by kernel_rfl)) 24 rfl ?_
       refine DL_nil (by kernel_rfl) ?_
       refine XL_nil ?_
       kernel_rfl
      refine V_cond rfl (fun hc10 => ?_) (fun hc10 => ?_)
      ·have h := of_true h hc10
       refine V_sreg (mb 26 16) [] (s1 := ⟨bt 4 (Bo false :: bt 21 []), []⟩) ?_ ?_
       ·refine L0 rfl rfl (E_assign (Bo false) rfl (by kernel_rfl)) ?_
        refine XL_nil ?_
        kernel_rfl
       refine V_ret ?_
       obtain rfl := some_inj h
       have h := hko6
       obtain rfl := some_inj h
       show Post _ _ _ _ _
       exact ⟨.inr rfl, rfl, rfl, rfl⟩
      ·have h := of_false h hc10
       refine V_skip ?_
       show V _ _ _ _
       obtain ⟨t11, ht11, h⟩ := of_sI h
       refine V_reg (mb 26 12291) [] (s1 := ⟨.c (.sl (a1.map c3)) :: .c (.sl (b2.map c3)) :: bt 10 (I ((a1.length : Int)) :: I t11 :: bt 12 []), []⟩) ?_ ?_
       ·refine L0 rfl rfl (Y0_add64 (a := t4) (b := 1) rfl (by kernel_rfl) (by kernel_rfl)) ?_
        refine L0 rfl rfl (E_move (I (w64 (t4 + 1))) rfl (by kernel_rfl)) ?_
        refine XL_nil ?_
        subst ht11
        kernel_rfl
       exact ⟨n, Nat.lt_succ_self n, _,  by rfl, h⟩
     ·have h := of_false h hc7
      refine V_exit ?_
      obtain rfl := some_inj h
      exact ⟨_, rfl, by rfl⟩
   rintro o6 rfl
   have h := hko6
   clear hko6
   show V _ _ _ _
   refine V_sreg (mb 26 16) [] (s1 := ⟨bt 4 (Bo true :: bt 21 []), []⟩) ?_ ?_
   ·refine L0 rfl rfl (E_assign (Bo true) rfl (by kernel_rfl)) ?_
    refine XL_nil ?_
    kernel_rfl
   refine V_ret ?_
   obtain rfl := some_inj h
   show Post _ _ _ _ _
   exact ⟨.inr rfl, rfl, rfl, rfl⟩
theorem cf_impl_kronecker : ∀ args w, (callFunc 49 args).run Try.prog w = .ok (.enter 49 args) w := run_callFunc Try.func49 (by kernel_rfl) (by kernel_rfl)
set_option maxRecDepth 100000 in
set_option maxHeartbeats 400000 in
theorem s_impl_kronecker {a1 : Int} {vn2 : Int} {r : Int} (h : r_impl_kronecker a1 vn2 = some r) : CallS Try.prog 49 [I a1, I vn2] (I r) [] := by
  refine CallS_of_text (rs := [.t 4]) (vs := [.tmp 4]) Try.func49 rfl rfl (.cons rfl FitsL.nil) (by decide) 36 rfl ?_
  unfold r_impl_kronecker at h
  show V _ _ ⟨I a1 :: I vn2 :: bt 34 [], []⟩ _
  refine V_sreg (mb 36 3) [] (s1 := ⟨I a1 :: I vn2 :: bt 34 [], []⟩) ?_ ?_
  ·refine L0 rfl rfl (E_assign (I 0) rfl (by kernel_rfl)) ?_
   refine XL_nil ?_
   kernel_rfl
  refine V_seq ?_
  refine V_sreg (mb 36 131) [] (s1 := ⟨I a1 :: I vn2 :: bt 5 (Bo (eqI vn2 0) :: bt 28 []), []⟩) ?_ ?_
  ·refine L0 rfl rfl (E_move (I vn2) rfl (by kernel_rfl)) ?_
   refine L0 rfl rfl (Y0_eqw (k := .i64) (a := vn2) (b := 0) rfl (by kernel_rfl) (by kernel_rfl)) ?_
   refine XL_nil ?_
   kernel_rfl
  refine V_cond rfl (fun hc3 => ?_) (fun hc3 => ?_)
  ·have h := of_true h hc3
   refine V_seq ?_
   obtain ⟨y4, hy4, h⟩ := of_bind h
   refine V_sreg (mb 36 1024) [] (s1 := ⟨bt 10 (Bo (eqI y4 1) :: bt 25 []), []⟩) ?_ ?_
   ·refine L0 rfl rfl (E_move (I a1) rfl (by kernel_rfl)) ?_
    refine L1 rfl rfl (Y1_call (s_impl_abs hy4) cf_impl_abs rfl (by kernel_rfl)) ?_
    refine L0 rfl rfl (Y0_eqw (k := .i64) (a := y4) (b := 1) rfl (by kernel_rfl) (by kernel_rfl)) ?_
    refine XL_nil ?_
    kernel_rfl
   refine V_cond rfl (fun hc5 => ?_) (fun hc5 => ?_)
   ·have h := of_true h hc5
    refine V_sreg (mb 36 16) [] (s1 := ⟨bt 4 (I 1 :: bt 31 []), []⟩) ?_ ?_
    ·refine L0 rfl rfl (E_assign (I 1) rfl (by kernel_rfl)) ?_
     refine XL_nil ?_
     kernel_rfl
    refine V_ret ?_
    obtain rfl := some_inj h
    show Post _ _ _ _ _
    exact ⟨.inr rfl, rfl, rfl, rfl⟩
   ·have h := of_false h hc5
    refine V_skip ?_
    show V _ _ _ _
    refine V_sreg (mb 36 16) [] (s1 := ⟨bt 4 (I 0 :: bt 31 []), []⟩) ?_ ?_
    ·refine L0 rfl rfl (E_assign (I 0) rfl (by kernel_rfl)) ?_
     refine XL_nil ?_
     kernel_rfl
    refine V_ret ?_
    obtain rfl := some_inj h
    show Post _ _ _ _ _
    exact ⟨.inr rfl, rfl, rfl, rfl⟩
  ·have h := of_false h hc3
   refine V_skip ?_
   show V _ _ _ _
   refine V_sreg (mb 36 35) [] (s1 := ⟨I a1 :: I vn2 :: bt 3 (I 1 :: bt 30 []), []⟩) ?_ ?_
   ·refine L0 rfl rfl (E_assign (I 1) rfl (by kernel_rfl)) ?_
    refine XL_nil ?_
    kernel_rfl
   obtain ⟨j6, hj6, h⟩ := of_bind h
   refine V_cutK (mb 36 35) [] (s1 := ⟨I a1 :: I vn2 :: bt 3 (I j6 :: bt 30 []), []⟩) ?_ ?_
   ·clear h
    have h := hj6
    clear hj6
    refine V_sreg (mb 36 65571) [] (s1 := ⟨I a1 :: I vn2 :: bt 3 (I 1 :: bt 10 (Bo (bif (ltI vn2 0) then (ltI a1 0) else false) :: bt 19 [])), []⟩) ?_ ?_
    ·refine L0 rfl rfl (E_move (I vn2) rfl (by kernel_rfl)) ?_
     refine L0 rfl rfl (Y0_ltw (k := .i64) (a := vn2) (b := 0) rfl (by kernel_rfl) (by kernel_rfl)) ?_
     refine L0 rfl rfl (E_move (Bo (ltI vn2 0)) rfl (by kernel_rfl)) ?_
     refine XL_split (ltI vn2 0) (fun hc7 => ?_) (fun hc7 => ?_)
     ·refine XL_takeC _ rfl rfl (by kernel_rfl) hc7 (X_of_Y0 rfl (E_move (I a1) rfl (by kernel_rfl))) ?_
      refine XL_takeC _ rfl rfl (by kernel_rfl) hc7 (X_of_Y0 rfl (Y0_ltw (k := .i64) (a := a1) (b := 0) rfl (by kernel_rfl) (by kernel_rfl))) ?_
      refine XL_cons rfl (X_of_Y0 rfl (Y0_pick1 (b := ltI vn2 0) (p := ltI a1 0) (q := false) rfl (by kernel_rfl) hc7 (by kernel_rfl))) ?_
      refine XL_nil ?_
      kernel_rfl
     ·refine XL_skipT _ rfl rfl (by kernel_rfl) hc7 rfl ?_
      refine XL_skipT _ rfl rfl (by kernel_rfl) hc7 rfl ?_
      refine XL_cons rfl (X_of_Y0 rfl (Y0_pick0 (b := ltI vn2 0) (p := ltI a1 0) (q := false) rfl (by kernel_rfl) hc7 (by kernel_rfl))) ?_
      refine XL_nil ?_
      kernel_rfl
    refine V_cond rfl (fun hc8 => ?_) (fun hc8 => ?_)
    ·have h := of_true h hc8
     refine V_reg (mb 36 35) [] (s1 := ⟨I a1 :: I vn2 :: bt 3 (I (-1) :: bt 30 []), []⟩) ?_ ?_
     ·refine L0 rfl rfl (E_assign (I (-1)) rfl (by kernel_rfl)) ?_
      refine XL_nil ?_
      kernel_rfl
     obtain rfl := some_inj h
     show St.keep _ _ _ = _
     rfl
    ·have h := of_false h hc8
     refine V_skip ?_
     obtain rfl := some_inj h
     show St.keep _ _ _ = _
     rfl
   obtain ⟨y9, hy9, h⟩ := of_bind h
   refine V_sreg (mb 36 35) [] (s1 := ⟨I a1 :: I y9 :: bt 3 (I j6 :: bt 30 []), []⟩) ?_ ?_
   ·refine L0 rfl rfl (E_move (I vn2) rfl (by kernel_rfl)) ?_
    refine L1 rfl rfl (Y1_call (s_impl_abs hy9) cf_impl_abs rfl (by kernel_rfl)) ?_
    refine L0 rfl rfl (E_assign (I y9) rfl (by kernel_rfl)) ?_
    refine XL_nil ?_
    kernel_rfl
   refine V_seq ?_
   obtain ⟨qo13, hLo13, hko13⟩ := of_bind h
   refine V_toS (q := qo13) (S := fun o13 => ⟨I a1 :: I o13.1 :: bt 3 (I o13.2 :: bt 30 []), []⟩) (mb 36 35) [] ?_ ?_
   ·refine V_block (V_loop (fun n s => ∃ (vn10 : Int) (vs11 : Int), s.keep (mb 36 35) [] = (⟨I a1 :: I vn10 :: bt 3 (I vs11 :: bt 30 []), []⟩ : St) ∧ r_impl_kronecker_L12 a1 n vn10 vs11 = some qo13) FU ⟨_, _,  by rfl, hLo13⟩ ?_)
    clear hLo13
    rintro n s ⟨vn10, vs11, hs, h⟩
    refine V_keep _ _ hs ?_
    clear hs
    cases n with
    | zero => cases h
    | succ n =>
     rw [r_impl_kronecker_L12] at h
     refine V_seq ?_
     refine V_sreg (mb 36 2097187) [] (s1 := ⟨I a1 :: I vn10 :: bt 3 (I vs11 :: bt 15 (Bo (eqI (Int.tmod vn10 2) 0) :: bt 14 [])), []⟩) ?_ ?_
     ·refine L0 rfl rfl (E_move (I vn10) rfl (by kernel_rfl)) ?_
      refine L0 rfl rfl (Y0_rem (k := .i64) (a := vn10) (b := 2) rfl (by kernel_rfl) (by kernel_rfl) (by decide)) ?_
      refine L0 rfl rfl (Y0_eqw (k := .i64) (a := Int.tmod vn10 2) (b := 0) rfl (by kernel_rfl) (by kernel_rfl)) ?_
      refine XL_nil ?_
      kernel_rfl
     refine V_cond rfl (fun hc14 => ?_) (fun hc14 => ?_)
     ·have h := of_true h hc14
      refine V_skip ?_
      show V _ _ _ _
      refine V_block ?_
      refine V_seq ?_
      refine V_sreg (mb 36 16777251) [] (s1 := ⟨I a1 :: I vn10 :: bt 3 (I vs11 :: bt 18 (Bo (eqI (Int.tmod a1 2) 0) :: bt 11 [])), []⟩) ?_ ?_
      ·refine L0 rfl rfl (E_move (I a1) rfl (by kernel_rfl)) ?_
       refine L0 rfl rfl (Y0_rem (k := .i64) (a := a1) (b := 2) rfl (by kernel_rfl) (by kernel_rfl) (by decide)) ?_
       refine L0 rfl rfl (Y0_eqw (k := .i64) (a := Int.tmod a1 2) (b := 0) rfl (by kernel_rfl) (by kernel_rfl)) ?_
       refine XL_nil ?_
       kernel_rfl
      refine V_cond rfl (fun hc15 => ?_) (fun hc15 => ?_)
      ·have h := of_true h hc15
       refine V_sreg (mb 36 16) [] (s1 := ⟨bt 4 (I 0 :: bt 31 []), []⟩) ?_ ?_
       ·refine L0 rfl rfl (E_assign (I 0) rfl (by kernel_rfl)) ?_
        refine XL_nil ?_
        kernel_rfl
       refine V_ret ?_
       obtain rfl := some_inj h
       have h := hko13
       obtain rfl := some_inj h
       show Post _ _ _ _ _
       exact ⟨.inr rfl, rfl, rfl, rfl⟩
      ·have h := of_false h hc15
       refine V_skip ?_
       show V _ _ _ _
       obtain ⟨vn16, hvn16, h⟩ := of_sI h
       refine V_sreg (mb 36 35) [] (s1 := ⟨I a1 :: I vn16 :: bt 3 (I vs11 :: bt 30 []), []⟩) ?_ ?_
       ·refine L0 rfl rfl (E_move (I vn10) rfl (by kernel_rfl)) ?_
        refine L0 rfl rfl (Y0_quo64 (a := vn10) (b := 2) rfl (by kernel_rfl) (by kernel_rfl) (by decide)) ?_
        refine L0 rfl rfl (E_assign (I (w64 (Int.tdiv vn10 2))) rfl (by kernel_rfl)) ?_
        refine XL_nil ?_
        subst hvn16
        kernel_rfl
       obtain ⟨y17, hy17, h⟩ := of_bind h
       obtain ⟨vs18, hvs18, h⟩ := of_sI h
       refine V_reg (mb 36 35) [] (s1 := ⟨I a1 :: I vn16 :: bt 3 (I vs18 :: bt 30 []), []⟩) ?_ ?_
       ·refine L0 rfl rfl (E_move (I vs11) rfl (by kernel_rfl)) ?_
        refine L0 rfl rfl (E_move (I a1) rfl (by kernel_rfl)) ?_
        refine L1 rfl rfl (Y1_call (s_impl_symbolOfTwo hy17) cf_impl_symbolOfTwo rfl (by kernel_rfl)) ?_
        refine L0 rfl rfl (Y0_mul64 (a := vs11) (b := y17) rfl (by kernel_rfl) (by kernel_rfl)) ?_
        refine L0 rfl rfl (E_assign (I (w64 (vs11 * y17))) rfl (by kernel_rfl)) ?_
        refine XL_nil ?_
        subst hvs18
        kernel_rfl
       exact ⟨n, Nat.lt_succ_self n, _, _,  by rfl, h⟩
     ·have h := of_false h hc14
      refine V_exit ?_
      obtain rfl := some_inj h
      exact ⟨_, rfl, by rfl⟩
   rintro o13 rfl
   have h := hko13
   clear hko13
   show V _ _ _ _
   obtain ⟨y19, hy19, h⟩ := of_bind h
   obtain ⟨t20, ht20, h⟩ := of_sI h
   refine V_sreg (mb 36 16) [] (s1 := ⟨bt 4 (I t20 :: bt 31 []), []⟩) ?_ ?_
   ·refine L0 rfl rfl (E_move (I o13.2) rfl (by kernel_rfl)) ?_
    refine L0 rfl rfl (E_move (I a1) rfl (by kernel_rfl)) ?_
    refine L0 rfl rfl (E_move (I o13.1) rfl (by kernel_rfl)) ?_
    refine L1 rfl rfl (Y1_call (s_impl_jacobi hy19) cf_impl_jacobi rfl (by kernel_rfl)) ?_
    refine L0 rfl rfl (Y0_mul64 (a := o13.2) (b := y19) rfl (by kernel_rfl) (by kernel_rfl)) ?_
    refine L0 rfl rfl (E_assign (I (w64 (o13.2 * y19))) rfl (by kernel_rfl)) ?_
    refine XL_nil ?_
    subst ht20
    kernel_rfl
   refine V_ret ?_
   obtain rfl := some_inj h
   show Post _ _ _ _ _
   exact ⟨.inr rfl, rfl, rfl, rfl⟩
theorem cf_impl_KroneckerSymbol : ∀ args w, (callFunc 28 args).run Try.prog w = .ok (.enter 28 args) w := run_callFunc Try.func28 (by kernel_rfl) (by kernel_rfl)
set_option maxRecDepth 100000 in
set_option maxHeartbeats 400000 in
theorem s_impl_KroneckerSymbol {a1 : Int} {vn2 : Int} {r : (Int × Bool)} (h : r_impl_KroneckerSymbol a1 vn2 = some r) : CallS Try.prog 28 [I a1, I vn2] (.tc (I r.1) (.tc (Bo r.2) .tn)) [] := by
  refine CallS_of_text (rs := [.t 4, .t 5]) (vs := [.tmp 4, .tmp 5]) Try.func28 rfl rfl (.cons rfl (.cons rfl FitsL.nil)) (by decide) 14 rfl ?_
  unfold r_impl_KroneckerSymbol at h
  show V _ _ ⟨I a1 :: I vn2 :: bt 12 [], []⟩ _
  refine V_sreg (mb 14 3) [] (s1 := ⟨I a1 :: I vn2 :: bt 12 [], []⟩) ?_ ?_
  ·refine L0 rfl rfl (E_assign (I 0) rfl (by kernel_rfl)) ?_
   refine L0 rfl rfl (E_assign (Bo false) rfl (by kernel_rfl)) ?_
   refine XL_nil ?_
   kernel_rfl
  refine V_seq ?_
  obtain ⟨y3, hy3, h⟩ := of_bind h
  refine V_sreg (mb 14 1027) [] (s1 := ⟨I a1 :: I vn2 :: bt 8 (Bo (!y3) :: bt 3 []), []⟩) ?_ ?_
  ·refine L0 rfl rfl (E_move (I a1) rfl (by kernel_rfl)) ?_
   refine L0 rfl rfl (E_move (I vn2) rfl (by kernel_rfl)) ?_
   refine L1 rfl rfl (Y1_bslice (z := zv3) (els := [a1, vn2].map c3) Try.underlying28 iz3 rfl (by decide) rfl (by kernel_rfl) rfl (by simp [c3]) (by decide) (by decide)) ?_
   refine L1 rfl rfl (Y1_callS (s_impl_areNumbers hy3) cf_impl_areNumbers rfl (by kernel_rfl) rfl rfl) ?_
   refine L0 rfl rfl (Y0_not (b := y3) rfl (by kernel_rfl)) ?_
   refine XL_nil ?_
   kernel_rfl
  refine V_cond rfl (fun hc4 => ?_) (fun hc4 => ?_)
  ·have h := of_true h hc4
   refine V_sreg (mb 14 48) [] (s1 := ⟨bt 4 (I 0 :: Bo false :: bt 8 []), []⟩) ?_ ?_
   ·refine L0 rfl rfl (E_assign (I 0) rfl (by kernel_rfl)) ?_
    refine L0 rfl rfl (E_assign (Bo false) rfl (by kernel_rfl)) ?_
    refine XL_nil ?_
    kernel_rfl
   refine V_ret ?_
   obtain rfl := some_inj h
   show Post _ _ _ _ _
   exact ⟨.inr rfl, rfl, rfl, rfl⟩
  ·have h := of_false h hc4
   refine V_skip ?_
   show V _ _ _ _
   obtain ⟨y5, hy5, h⟩ := of_bind h
   refine V_sreg (mb 14 48) [] (s1 := ⟨bt 4 (I y5 :: Bo true :: bt 8 []), []⟩) ?_ ?_
   ·refine L0 rfl rfl (E_move (I a1) rfl (by kernel_rfl)) ?_
    refine L0 rfl rfl (E_move (I vn2) rfl (by kernel_rfl)) ?_
    refine L1 rfl rfl (Y1_call (s_impl_kronecker hy5) cf_impl_kronecker rfl (by kernel_rfl)) ?_
    refine L0 rfl rfl (E_assign (I y5) rfl (by kernel_rfl)) ?_
    refine L0 rfl rfl (E_assign (Bo true) rfl (by kernel_rfl)) ?_
    refine XL_nil ?_
    kernel_rfl
   refine V_ret ?_
   obtain rfl := some_inj h
   show Post _ _ _ _ _
   exact ⟨.inr rfl, rfl, rfl, rfl⟩
theorem cf_impl_isShown : ∀ args w, (callFunc 76 args).run Try.prog w = .ok (.enter 76 args) w := run_callFunc Try.func76 (by kernel_rfl) (by kernel_rfl)
set_option maxRecDepth 100000 in
set_option maxHeartbeats 400000 in
theorem s_impl_isShown {vn1 : Int} {r : Bool} (h : r_impl_isShown vn1 = some r) : CallS Try.prog 76 [I vn1] (Bo r) [] := by
  refine CallS_of_text (rs := [.t 2]) (vs := [.tmp 2]) Try.func76 rfl rfl (.cons rfl FitsL.nil) (by decide) 9 rfl ?_
  unfold r_impl_isShown at h
  show V _ _ ⟨I vn1 :: bt 8 [], []⟩ _
  refine V_sreg (mb 9 1) [] (s1 := ⟨I vn1 :: bt 8 [], []⟩) ?_ ?_
  ·refine L0 rfl rfl (E_assign (Bo false) rfl (by kernel_rfl)) ?_
   refine XL_nil ?_
   kernel_rfl
  refine V_sreg (mb 9 4) [] (s1 := ⟨.bot :: .bot :: Bo (bif (leI 1 vn1) then (leI vn1 10000) else false) :: bt 6 [], []⟩) ?_ ?_
  ·refine L0 rfl rfl (E_move (I vn1) rfl (by kernel_rfl)) ?_
   refine L0 rfl rfl (Y0_gew (k := .i64) (a := vn1) (b := 1) rfl (by kernel_rfl) (by kernel_rfl)) ?_
   refine L0 rfl rfl (E_move (Bo (leI 1 vn1)) rfl (by kernel_rfl)) ?_
   refine XL_split (leI 1 vn1) (fun hc2 => ?_) (fun hc2 => ?_)
   ·refine XL_takeC _ rfl rfl (by kernel_rfl) hc2 (X_of_Y0 rfl (E_move (I vn1) rfl (by kernel_rfl))) ?_
    refine XL_takeC _ rfl rfl (by kernel_rfl) hc2 (X_of_Y0 rfl (Y0_lew (k := .i64) (a := vn1) (b := 10000) rfl (by kernel_rfl) (by kernel_rfl))) ?_
    refine XL_cons rfl (X_of_Y0 rfl (Y0_pick1 (b := leI 1 vn1) (p := leI vn1 10000) (q := false) rfl (by kernel_rfl) hc2 (by kernel_rfl))) ?_
    refine L0 rfl rfl (E_assign (Bo (bif (leI 1 vn1) then (leI vn1 10000) else false)) rfl (by kernel_rfl)) ?_
    refine XL_nil ?_
    kernel_rfl
   ·refine XL_skipT _ rfl rfl (by kernel_rfl) hc2 rfl ?_
    refine XL_skipT _ rfl rfl (by kernel_rfl) hc2 rfl ?_
    refine XL_cons rfl (X_of_Y0 rfl (Y0_pick0 (b := leI 1 vn1) (p := leI vn1 10000) (q := false) rfl (by kernel_rfl) hc2 (by kernel_rfl))) ?_
    refine L0 rfl rfl (E_assign (Bo (bif (leI 1 vn1) then (leI vn1 10000) else false)) rfl (by kernel_rfl)) ?_
    refine XL_nil ?_
    kernel_rfl
  refine V_ret ?_
  obtain rfl := some_inj h
  show Post _ _ _ _ _
  exact ⟨.inr rfl, rfl, rfl, rfl⟩
theorem cf_impl_Form_isNormal : ∀ args w, (callFunc 137 args).run Try.prog w = .ok (.enter 137 args) w := run_callFunc Try.func137 (by kernel_rfl) (by kernel_rfl)
set_option maxRecDepth 100000 in
set_option maxHeartbeats 400000 in
theorem s_impl_Form_isNormal {f1 : (Int × Int × Int)} {r : Bool} (h : r_impl_Form_isNormal f1 = some r) : CallS Try.prog 137 [.ag [Ti f1.1, Ti f1.2.1, Ti f1.2.2]] (Bo r) [] := by
  refine CallS_of_text (rs := [.t 2]) (vs := [.tmp 2]) Try.func137 rfl rfl (.cons rfl FitsL.nil) (by decide) 16 rfl ?_
  unfold r_impl_Form_isNormal at h
  show V _ _ ⟨.ag [Ti f1.1, Ti f1.2.1, Ti f1.2.2] :: bt 15 [], []⟩ _
  refine V_sreg (mb 16 2) [8] (s1 := ⟨.bot :: .pt 8 0 :: bt 14 [], [(8, .box [Ti f1.1, Ti f1.2.1, Ti f1.2.2])]⟩) ?_ ?_
  ·refine L1 rfl rfl (Y1_box (cs := [Ti f1.1, Ti f1.2.1, Ti f1.2.2]) rfl (by kernel_rfl)) ?_
   refine L0 rfl rfl (E_assign (Bo false) rfl (by kernel_rfl)) ?_
   refine XL_nil ?_
   kernel_rfl
  obtain ⟨t3, ht3, h⟩ := of_bind h
  have ht3 := some_inj ht3
  refine V_sreg (mb 16 4) [] (s1 := ⟨.bot :: .bot :: Bo t3 :: bt 13 [], []⟩) ?_ ?_
  ·refine L0 rfl rfl (E_field (.pt 8 0) Try.underlying43 rfl sz3 rfl (by kernel_rfl) (by intro hh; cases hh)) ?_
   refine L0 rfl rfl (Y0_load1 (c := Ti f1.1) (cs := [Ti f1.2.1, Ti f1.2.2]) sc3 rfl (by kernel_rfl)) ?_
   refine L0 rfl rfl (Y0_neg64 (a := f1.1) rfl (by kernel_rfl)) ?_
   refine L0 rfl rfl (E_field (.pt 8 1) Try.underlying43 rfl sz3 rfl (by kernel_rfl) (by intro hh; cases hh)) ?_
   refine L0 rfl rfl (Y0_load1 (c := Ti f1.2.1) (cs := [Ti f1.2.2]) sc3 rfl (by kernel_rfl)) ?_
   refine L0 rfl rfl (Y0_ltw (k := .i64) (a := w64 (0 - f1.1)) (b := f1.2.1) rfl (by kernel_rfl) (by kernel_rfl)) ?_
   refine L0 rfl rfl (E_move (Bo (ltI (w64 (0 - f1.1)) f1.2.1)) rfl (by kernel_rfl)) ?_
   refine XL_split (ltI (w64 (0 - f1.1)) f1.2.1) (fun hc2 => ?_) (fun hc2 => ?_)
   ·refine XL_takeC _ rfl rfl (by kernel_rfl) hc2 (X_of_Y0 rfl (E_field (.pt 8 1) Try.underlying43 rfl sz3 rfl (by kernel_rfl) (by intro hh; cases hh))) ?_
    refine XL_takeC _ rfl rfl (by kernel_rfl) hc2 (X_of_Y0 rfl (Y0_load1 (c := Ti f1.2.1) (cs := [Ti f1.2.2]) sc3 rfl (by kernel_rfl))) ?_
    refine XL_takeC _ rfl rfl (by kernel_rfl) hc2 (X_of_Y0 rfl (E_field (.pt 8 0) Try.underlying43 rfl sz3 rfl (by kernel_rfl) (by intro hh; cases hh))) ?_
    refine XL_takeC _ rfl rfl (by kernel_rfl) hc2 (X_of_Y0 rfl (Y0_load1 (c := Ti f1.1) (cs := [Ti f1.2.1, Ti f1.2.2]) sc3 rfl (by kernel_rfl))) ?_
    refine XL_takeC _ rfl rfl (by kernel_rfl) hc2 (X_of_Y0 rfl (Y0_lew (k := .i64) (a := f1.2.1) (b := f1.1) rfl (by kernel_rfl) (by kernel_rfl))) ?_
    refine XL_cons rfl (X_of_Y0 rfl (Y0_pick1 (b := ltI (w64 (0 - f1.1)) f1.2.1) (p := leI f1.2.1 f1.1) (q := false) rfl (by kernel_rfl) hc2 (by kernel_rfl))) ?_
    refine L0 rfl rfl (E_assign (Bo (bif (ltI (w64 (0 - f1.1)) f1.2.1) then (leI f1.2.1 f1.1) else false)) rfl (by kernel_rfl)) ?_
    refine XL_nil ?_
    subst ht3
    kernel_rfl
   ·refine XL_skipT _ rfl rfl (by kernel_rfl) hc2 rfl ?_
    refine XL_skipT _ rfl rfl (by kernel_rfl) hc2 rfl ?_
    refine XL_skipT _ rfl rfl (by kernel_rfl) hc2 rfl ?_
    refine XL_skipT _ rfl rfl (by kernel_rfl) hc2 rfl ?_
    refine XL_skipT _ rfl rfl (by kernel_rfl) hc2 rfl ?_
    refine XL_cons rfl (X_of_Y0 rfl (Y0_pick0 (b := ltI (w64 (0 - f1.1)) f1.2.1) (p := leI f1.2.1 f1.1) (q := false) rfl (by kernel_rfl) hc2 (by kernel_rfl))) ?_
    refine L0 rfl rfl (E_assign (Bo (bif (ltI (w64 (0 - f1.1)) f1.2.1) then (leI f1.2.1 f1.1) else false)) rfl (by kernel_rfl)) ?_
    refine XL_nil ?_
    subst ht3
    kernel_rfl
  refine V_ret ?_
  obtain rfl := some_inj h
  show Post _ _ _ _ _
  exact ⟨.inr rfl, rfl, rfl, rfl⟩
theorem cf_impl_Form_isReduced : ∀ args w, (callFunc 124 args).run Try.prog w = .ok (.enter 124 args) w := run_callFunc Try.func124 (by kernel_rfl) (by kernel_rfl)
set_option maxRecDepth 100000 in
set_option maxHeartbeats 400000 in
theorem s_impl_Form_isReduced {f1 : (Int × Int × Int)} {r : Bool} (h : r_impl_Form_isReduced f1 = some r) : CallS Try.prog 124 [.ag [Ti f1.1, Ti f1.2.1, Ti f1.2.2]] (Bo r) [] := by
  refine CallS_of_text (rs := [.t 2]) (vs := [.tmp 2]) Try.func124 rfl rfl (.cons rfl FitsL.nil) (by decide) 24 rfl ?_
  unfold r_impl_Form_isReduced at h
  show V _ _ ⟨.ag [Ti f1.1, Ti f1.2.1, Ti f1.2.2] :: bt 23 [], []⟩ _
  refine V_sreg (mb 24 2) [8] (s1 := ⟨.bot :: .pt 8 0 :: bt 22 [], [(8, .box [Ti f1.1, Ti f1.2.1, Ti f1.2.2])]⟩) ?_ ?_
  ·refine L1 rfl rfl (Y1_box (cs := [Ti f1.1, Ti f1.2.1, Ti f1.2.2]) rfl (by kernel_rfl)) ?_
   refine L0 rfl rfl (E_assign (Bo false) rfl (by kernel_rfl)) ?_
   refine XL_nil ?_
   kernel_rfl
  obtain ⟨y2, hy2, h⟩ := of_bind h
  obtain ⟨t6, ht6, h⟩ := of_bind h
  have ht6 := some_inj ht6
  refine V_sreg (mb 24 4) [] (s1 := ⟨.bot :: .bot :: Bo t6 :: bt 21 [], []⟩) ?_ ?_
  ·refine L0 rfl rfl (E_loadn (cs := [Ti f1.1, Ti f1.2.1, Ti f1.2.2]) [Ti f1.1, Ti f1.2.1, Ti f1.2.2] wd43 rfl (by kernel_rfl) (Nat.le_of_ble_eq_true rfl) (by kernel_rfl)) ?_
   refine L1 rfl rfl (Y1_call (s_impl_Form_isNormal hy2) cf_impl_Form_isNormal rfl (by kernel_rfl)) ?_
   refine L0 rfl rfl (E_move (Bo y2) rfl (by kernel_rfl)) ?_
   refine XL_split y2 (fun hc3 => ?_) (fun hc3 => ?_)
   ·refine XL_takeC _ rfl rfl (by kernel_rfl) hc3 (X_of_Y0 rfl (E_field (.pt 8 0) Try.underlying43 rfl sz3 rfl (by kernel_rfl) (by intro hh; cases hh))) ?_
    refine XL_takeC _ rfl rfl (by kernel_rfl) hc3 (X_of_Y0 rfl (Y0_load1 (c := Ti f1.1) (cs := [Ti f1.2.1, Ti f1.2.2]) sc3 rfl (by kernel_rfl))) ?_
    refine XL_takeC _ rfl rfl (by kernel_rfl) hc3 (X_of_Y0 rfl (E_field (.pt 8 2) Try.underlying43 rfl sz3 rfl (by kernel_rfl) (by intro hh; cases hh))) ?_
    refine XL_takeC _ rfl rfl (by kernel_rfl) hc3 (X_of_Y0 rfl (Y0_load1 (c := Ti f1.2.2) (cs := []) sc3 rfl (by kernel_rfl))) ?_
    refine XL_takeC _ rfl rfl (by kernel_rfl) hc3 (X_of_Y0 rfl (Y0_ltw (k := .i64) (a := f1.1) (b := f1.2.2) rfl (by kernel_rfl) (by kernel_rfl))) ?_
    refine XL_takeC _ rfl rfl (by kernel_rfl) hc3 (X_of_Y0 rfl (E_move (Bo (ltI f1.1 f1.2.2)) rfl (by kernel_rfl))) ?_
    refine XL_split (ltI f1.1 f1.2.2) (fun hc4 => ?_) (fun hc4 => ?_)
    ·refine XL_skipF _ rfl rfl (by kernel_rfl) hc4 rfl ?_
     refine XL_skipF _ rfl rfl (by kernel_rfl) hc4 rfl ?_
     refine XL_skipF _ rfl rfl (by kernel_rfl) hc4 rfl ?_
     refine XL_skipF _ rfl rfl (by kernel_rfl) hc4 rfl ?_
     refine XL_skipF _ rfl rfl (by kernel_rfl) hc4 rfl ?_
     refine XL_skipF _ rfl rfl (by kernel_rfl) hc4 rfl ?_
     refine XL_skip2 rfl rfl (by kernel_rfl) rfl ?_
     refine XL_skip2 rfl rfl (by kernel_rfl) rfl ?_
     refine XL_skip2 rfl rfl (by kernel_rfl) rfl ?_
     refine XL_skipF _ rfl rfl (by kernel_rfl) hc4 rfl ?_
     refine XL_takeC _ rfl rfl (by kernel_rfl) hc3 (X_of_Y0 rfl (Y0_pick1 (b := ltI f1.1 f1.2.2) (p := true) (q := bif (eqI f1.1 f1.2.2) then (leI 0 f1.2.1) else false) rfl (by kernel_rfl) hc4 (by kernel_rfl))) ?_
     refine XL_cons rfl (X_of_Y0 rfl (Y0_pick1 (b := y2) (p := bif (ltI f1.1 f1.2.2) then true else (bif (eqI f1.1 f1.2.2) then (leI 0 f1.2.1) else false)) (q := false) rfl (by kernel_rfl) hc3 (by kernel_rfl))) ?_
     refine L0 rfl rfl (E_assign (Bo (bif y2 then (bif (ltI f1.1 f1.2.2) then true else (bif (eqI f1.1 f1.2.2) then (leI 0 f1.2.1) else false)) else false)) rfl (by kernel_rfl)) ?_
     refine XL_nil ?_
     subst ht6
     kernel_rfl
    ·refine XL_takeC _ rfl rfl (by kernel_rfl) hc4 (X_of_Y0 rfl (E_field (.pt 8 0) Try.underlying43 rfl sz3 rfl (by kernel_rfl) (by intro hh; cases hh))) ?_
     refine XL_takeC _ rfl rfl (by kernel_rfl) hc4 (X_of_Y0 rfl (Y0_load1 (c := Ti f1.1) (cs := [Ti f1.2.1, Ti f1.2.2]) sc3 rfl (by kernel_rfl))) ?_
     refine XL_takeC _ rfl rfl (by kernel_rfl) hc4 (X_of_Y0 rfl (E_field (.pt 8 2) Try.underlying43 rfl sz3 rfl (by kernel_rfl) (by intro hh; cases hh))) ?_
     refine XL_takeC _ rfl rfl (by kernel_rfl) hc4 (X_of_Y0 rfl (Y0_load1 (c := Ti f1.2.2) (cs := []) sc3 rfl (by kernel_rfl))) ?_
     refine XL_takeC _ rfl rfl (by kernel_rfl) hc4 (X_of_Y0 rfl (Y0_eqw (k := .i64) (a := f1.1) (b := f1.2.2) rfl (by kernel_rfl) (by kernel_rfl))) ?_
     refine XL_takeC _ rfl rfl (by kernel_rfl) hc4 (X_of_Y0 rfl (E_move (Bo (eqI f1.1 f1.2.2)) rfl (by kernel_rfl))) ?_
     refine XL_split (eqI f1.1 f1.2.2) (fun hc5 => ?_) (fun hc5 => ?_)
     ·refine XL_takeC _ rfl rfl (by kernel_rfl) hc5 (X_of_Y0 rfl (E_field (.pt 8 1) Try.underlying43 rfl sz3 rfl (by kernel_rfl) (by intro hh; cases hh))) ?_
      refine XL_takeC _ rfl rfl (by kernel_rfl) hc5 (X_of_Y0 rfl (Y0_load1 (c := Ti f1.2.1) (cs := [Ti f1.2.2]) sc3 rfl (by kernel_rfl))) ?_
      refine XL_takeC _ rfl rfl (by kernel_rfl) hc5 (X_of_Y0 rfl (Y0_gew (k := .i64) (a := f1.2.1) (b := 0) rfl (by kernel_rfl) (by kernel_rfl))) ?_
      refine XL_takeC _ rfl rfl (by kernel_rfl) hc4 (X_of_Y0 rfl (Y0_pick1 (b := eqI f1.1 f1.2.2) (p := leI 0 f1.2.1) (q := false) rfl (by kernel_rfl) hc5 (by kernel_rfl))) ?_
      refine XL_takeC _ rfl rfl (by kernel_rfl) hc3 (X_of_Y0 rfl (Y0_pick0 (b := ltI f1.1 f1.2.2) (p := true) (q := bif (eqI f1.1 f1.2.2) then (leI 0 f1.2.1) else false) rfl (by kernel_rfl) hc4 (by kernel_rfl))) ?_
      refine XL_cons rfl (X_of_Y0 rfl (Y0_pick1 (b := y2) (p := bif (ltI f1.1 f1.2.2) then true else (bif (eqI f1.1 f1.2.2) then (leI 0 f1.2.1) else false)) (q := false) rfl (by kernel_rfl) hc3 (by kernel_rfl))) ?_
      refine L0 rfl rfl (E_assign (Bo (bif y2 then (bif (ltI f1.1 f1.2.2) then true else (bif (eqI f1.1 f1.2.2) then (leI 0 f1.2.1) else false)) else false)) rfl (by kernel_rfl)) ?_
      refine XL_nil ?_
      subst ht6
      kernel_rfl
     ·refine XL_skipT _ rfl rfl (by kernel_rfl) hc5 rfl ?_
      refine XL_skipT _ rfl rfl (by kernel_rfl) hc5 rfl ?_
      refine XL_skipT _ rfl rfl (by kernel_rfl) hc5 rfl ?_
      refine XL_takeC _ rfl rfl (by kernel_rfl) hc4 (X_of_Y0 rfl (Y0_pick0 (b := eqI f1.1 f1.2.2) (p := leI 0 f1.2.1) (q := false) rfl (by kernel_rfl) hc5 (by kernel_rfl))) ?_
      refine XL_takeC _ rfl rfl (by kernel_rfl) hc3 (X_of_Y0 rfl (Y0_pick0 (b := ltI f1.1 f1.2.2) (p := true) (q := bif (eqI f1.1 f1.2.2) then (leI 0 f1.2.1) else false) rfl (by kernel_rfl) hc4 (by kernel_rfl))) ?_
      refine XL_cons rfl (X_of_Y0 rfl (Y0_pick1 (b := y2) (p := bif (ltI f1.1 f1.2.2) then true else (bif (eqI f1.1 f1.2.2) then (leI 0 f1.2.1) else false)) (q := false) rfl (by kernel_rfl) hc3 (by kernel_rfl))) ?_
      refine L0 rfl rfl (E_assign (Bo (bif y2 then (bif (ltI f1.1 f1.2.2) then true else (bif (eqI f1.1 f1.2.2) then (leI 0 f1.2.1) else false)) else false)) rfl (by kernel_rfl)) ?_
      refine XL_nil ?_
      subst ht6
      kernel_rfl
   ·refine XL_skipT _ rfl rfl (by kernel_rfl) hc3 rfl ?_
    refine XL_skipT _ rfl rfl (by kernel_rfl) hc3 rfl ?_
    refine XL_skipT _ rfl rfl (by kernel_rfl) hc3 rfl ?_
    refine XL_skipT _ rfl rfl (by kernel_rfl) hc3 rfl ?_
    refine XL_skipT _ rfl rfl (by kernel_rfl) hc3 rfl ?_
    refine XL_skipT _ rfl rfl (by kernel_rfl) hc3 rfl ?_
    refine XL_skip2 rfl rfl (by kernel_rfl) rfl ?_
    refine XL_skip2 rfl rfl (by kernel_rfl) rfl ?_
    refine XL_skip2 rfl rfl (by kernel_rfl) rfl ?_
    refine XL_skip2 rfl rfl (by kernel_rfl) rfl ?_
    refine XL_skip2 rfl rfl (by kernel_rfl) rfl ?_
    refine XL_skip2 rfl rfl (by kernel_rfl) rfl ?_
    refine XL_skip2 rfl rfl (by kernel_rfl) rfl ?_
    refine XL_skip2 rfl rfl (by kernel_rfl) rfl ?_
    refine XL_skip2 rfl rfl (by kernel_rfl) rfl ?_
    refine XL_skip2 rfl rfl (by kernel_rfl) rfl ?_
    refine XL_skipT _ rfl rfl (by kernel_rfl) hc3 rfl ?_
    refine XL_cons rfl (X_of_Y0 rfl (Y0_pick0 (b := y2) (p := bif (ltI f1.1 f1.2.2) then true else (bif (eqI f1.1 f1.2.2) then (leI 0 f1.2.1) else false)) (q := false) rfl (by kernel_rfl) hc3 (by kernel_rfl))) ?_
    refine L0 rfl rfl (E_assign (Bo (bif y2 then (bif (ltI f1.1 f1.2.2) then true else (bif (eqI f1.1 f1.2.2) then (leI 0 f1.2.1) else false)) else false)) rfl (by kernel_rfl)) ?_
    refine XL_nil ?_
    subst ht6
    kernel_rfl
  refine V_ret ?_
  obtain rfl := some_inj h
  show Post _ _ _ _ _
  exact ⟨.inr rfl, rfl, rfl, rfl⟩
theorem cf_impl_allReduced : ∀ args w, (callFunc 98 args).run Try.prog w = .ok (.enter 98 args) w := run_callFunc Try.func98 (by kernel_rfl) (by kernel_rfl)
set_option maxRecDepth 100000 in
set_option maxHeartbeats 400000 in
theorem s_impl_allReduced {d1 : Int} {r : List ((Int × Int × Int))} (h : r_impl_allReduced d1 = some r) : CallS Try.prog 98 [I d1] (.ow 0) [(0, .arr 43 3 (r.map c43))] := by
  refine CallS_of_text (rs := [.t 2]) (vs := [.tmp 2]) Try.func98 rfl rfl (.cons rfl FitsL.nil) (by decide) 51 rfl ?_
  unfold r_impl_allReduced at h
  show V _ _ ⟨I d1 :: bt 50 [], []⟩ _
  refine V_sreg (mb 51 1) [] (s1 := ⟨I d1 :: bt 50 [], []⟩) ?_ ?_
  ·refine L1 rfl rfl (Y1_nil (e := 43) 3 (by decide) (.inl rfl)) ?_
   refine XL_nil ?_
   kernel_rfl
  refine V_sreg (mb 51 9) [56] (s1 := ⟨I d1 :: .bot :: .bot :: .ow 56 :: bt 47 [], [(56, .arr 43 3 ((([] : List ((Int × Int × Int)))).map c43))]⟩) ?_ ?_
  ·refine L1 rfl rfl (Y1_bslice0 Try.underlying40 sz43 (by decide) rfl rfl) ?_
   refine L0 rfl rfl (E_assign (.ow 56) rfl (by kernel_rfl)) ?_
   refine XL_nil ?_
   kernel_rfl
  refine V_seq ?_
  refine V_sreg (mb 51 25) [56] (s1 := ⟨I d1 :: .bot :: .bot :: .ow 56 :: I 1 :: bt 46 [], [(56, .arr 43 3 ((([] : List ((Int × Int × Int)))).map c43))]⟩) ?_ ?_
  ·refine L0 rfl rfl (E_assign (I 1) rfl (by kernel_rfl)) ?_
   refine XL_nil ?_
   kernel_rfl
  obtain ⟨o5, hLo5, h⟩ := of_bind h
  refine V_toK (mb 51 8) [56] (s1 := ⟨bt 3 (.ow 56 :: bt 47 []), [(56, .arr 43 3 (o5.map c43))]⟩) ?_ ?_
  ·clear h
   refine V_block (V_loop (fun n s => ∃ (a2 : Int) (l3 : List ((Int × Int × Int))), s.keep (mb 51 25) [56] = (⟨I d1 :: .bot :: .bot :: .ow 56 :: I a2 :: bt 46 [], [(56, .arr 43 3 (l3.map c43))]⟩ : St) ∧ r_impl_allReduced_L4 d1 n a2 l3 = some o5) FU ⟨_, _,  by rfl, hLo5⟩ ?_)
   clear hLo5
   rintro n s ⟨a2, l3, hs, h⟩
   refine V_keep _ _ hs ?_
   clear hs
   cases n with
   | zero => cases h
   | succ n =>
    rw [r_impl_allReduced_L4] at h
    refine V_seq ?_
    refine V_sreg (mb 51 16409) [56] (s1 := ⟨I d1 :: .bot :: .bot :: .ow 56 :: I a2 :: bt 9 (Bo (leI (w64 ((w64 (3 * a2)) * a2)) (w64 (0 - d1))) :: bt 36 []), [(56, .arr 43 3 (l3.map c43))]⟩) ?_ ?_
    ·refine L0 rfl rfl (E_move (I a2) rfl (by kernel_rfl)) ?_
     refine L0 rfl rfl (Y0_mul64 (a := 3) (b := a2) rfl (by kernel_rfl) (by kernel_rfl)) ?_
     refine L0 rfl rfl (E_move (I a2) rfl (by kernel_rfl)) ?_
     refine L0 rfl rfl (Y0_mul64 (a := w64 (3 * a2)) (b := a2) rfl (by kernel_rfl) (by kernel_rfl)) ?_
     refine L0 rfl rfl (E_move (I d1) rfl (by kernel_rfl)) ?_
     refine L0 rfl rfl (Y0_neg64 (a := d1) rfl (by kernel_rfl)) ?_
     refine L0 rfl rfl (Y0_lew (k := .i64) (a := w64 ((w64 (3 * a2)) * a2)) (b := w64 (0 - d1)) rfl (by kernel_rfl) (by kernel_rfl)) ?_
     refine XL_nil ?_
     kernel_rfl
    refine V_cond rfl (fun hc6 => ?_) (fun hc6 => ?_)
    ·have h := of_true h hc6
     refine V_skip ?_
     show V _ _ _ _
     refine V_seq ?_
     refine V_block ?_
     obtain ⟨b7, hb7, h⟩ := of_sI h
     refine V_sreg (mb 51 57) [56] (s1 := ⟨I d1 :: .bot :: .bot :: .ow 56 :: I a2 :: I b7 :: bt 45 [], [(56, .arr 43 3 (l3.map c43))]⟩) ?_ ?_
     ·refine L0 rfl rfl (E_move (I a2) rfl (by kernel_rfl)) ?_
      refine L0 rfl rfl (Y0_sub64 (a := 1) (b := a2) rfl (by kernel_rfl) (by kernel_rfl)) ?_
      refine L0 rfl rfl (E_assign (I (w64 (1 - a2))) rfl (by kernel_rfl)) ?_
      refine XL_nil ?_
      subst hb7
      kernel_rfl
     obtain ⟨o11, hLo11, h⟩ := of_bind h
     refine V_toK (mb 51 25) [56] (s1 := ⟨I d1 :: .bot :: .bot :: .ow 56 :: I a2 :: bt 46 [], [(56, .arr 43 3 (o11.map c43))]⟩) ?_ ?_
     ·clear h
      refine V_block (V_loop (fun n s => ∃ (b8 : Int) (l9 : List ((Int × Int × Int))), s.keep (mb 51 57) [56] = (⟨I d1 :: .bot :: .bot :: .ow 56 :: I a2 :: I b8 :: bt 45 [], [(56, .arr 43 3 (l9.map c43))]⟩ : St) ∧ r_impl_allReduced_L10 a2 d1 n b8 l9 = some o11) FU ⟨_, _,  by rfl, hLo11⟩ ?_)
      clear hLo11
      rintro n s ⟨b8, l9, hs, h⟩
      refine V_keep _ _ hs ?_
      clear hs
      cases n with
      | zero => cases h
      | succ n =>
       rw [r_impl_allReduced_L10] at h
       refine V_seq ?_
       refine V_sreg (mb 51 2097209) [56] (s1 := ⟨I d1 :: .bot :: .bot :: .ow 56 :: I a2 :: I b8 :: bt 15 (Bo (leI b8 a2) :: bt 29 []), [(56, .arr 43 3 (l9.map c43))]⟩) ?_ ?_
       ·refine L0 rfl rfl (E_move (I b8) rfl (by kernel_rfl)) ?_
        refine L0 rfl rfl (E_move (I a2) rfl (by kernel_rfl)) ?_
        refine L0 rfl rfl (Y0_lew (k := .i64) (a := b8) (b := a2) rfl (by kernel_rfl) (by kernel_rfl)) ?_
        refine XL_nil ?_
        kernel_rfl
       refine V_cond rfl (fun hc12 => ?_) (fun hc12 => ?_)
       ·have h := of_true h hc12
        refine V_skip ?_
        show V _ _ _ _
        refine V_seq ?_
        refine V_block ?_
        refine V_seq ?_
        obtain ⟨z13, hz13, h⟩ := of_bind h
        obtain ⟨t14, ht14, h⟩ := of_bind h
        have ht14 := some_inj ht14
        refine V_sreg (mb 51 4294967353) [56] (s1 := ⟨I d1 :: .bot :: .bot :: .ow 56 :: I a2 :: I b8 :: bt 26 (Bo t14 :: bt 18 []), [(56, .arr 43 3 (l9.map c43))]⟩) ?_ ?_
        ·refine L0 rfl rfl (E_move (I b8) rfl (by kernel_rfl)) ?_
         refine L0 rfl rfl (E_move (I b8) rfl (by kernel_rfl)) ?_
         refine L0 rfl rfl (Y0_mul64 (a := b8) (b := b8) rfl (by kernel_rfl) (by kernel_rfl)) ?_
         refine L0 rfl rfl (E_move (I d1) rfl (by kernel_rfl)) ?_
         refine L0 rfl rfl (Y0_sub64 (a := w64 (b8 * b8)) (b := d1) rfl (by kernel_rfl) (by kernel_rfl)) ?_
         refine L0 rfl rfl (E_move (I a2) rfl (by kernel_rfl)) ?_
         refine L0 rfl rfl (Y0_mul64 (a := 4) (b := a2) rfl (by kernel_rfl) (by kernel_rfl)) ?_
         refine L0 rfl rfl (Y0_rem (k := .i64) (a := w64 ((w64 (b8 * b8)) - d1)) (b := w64 (4 * a2)) rfl (by kernel_rfl) (by kernel_rfl) (nz_some hz13)) ?_
         refine L0 rfl rfl (Y0_new (k := .i64) (a := Int.tmod (w64 ((w64 (b8 * b8)) - d1)) (w64 (4 * a2))) (b := 0) rfl (by kernel_rfl) (by kernel_rfl)) ?_
         refine XL_nil ?_
         subst ht14
         kernel_rfl
        refine V_cond rfl (fun hc15 => ?_) (fun hc15 => ?_)
        ·have h := of_true h hc15
         refine V_exit ?_
         show V _ _ _ _
         obtain ⟨b16, hb16, h⟩ := of_sI h
         refine V_reg (mb 51 57) [56] (s1 := ⟨I d1 :: .bot :: .bot :: .ow 56 :: I a2 :: I b16 :: bt 45 [], [(56, .arr 43 3 (l9.map c43))]⟩) ?_ ?_
         ·refine L0 rfl rfl (E_move (I b8) rfl (by kernel_rfl)) ?_
          refine L0 rfl rfl (Y0_add64 (a := b8) (b := 1) rfl (by kernel_rfl) (by kernel_rfl)) ?_
          refine L0 rfl rfl (E_assign (I (w64 (b8 + 1))) rfl (by kernel_rfl)) ?_
          refine XL_nil ?_
          subst hb16
          kernel_rfl
         exact ⟨n, Nat.lt_succ_self n, _, _,  by rfl, h⟩
        ·have h := of_false h hc15
         refine V_skip ?_
         show V _ _ _ _
         obtain ⟨z17, hz17, h⟩ := of_bind h
         obtain ⟨f18, hf18, h⟩ := of_sI h
         refine V_sreg (mb 51 121) [48, 56] (s1 := ⟨I d1 :: .bot :: .bot :: .ow 56 :: I a2 :: I b8 :: .pt 48 0 :: bt 44 [], [(48, .box [Ti a2, Ti b8, Ti f18]), (56, .arr 43 3 (l9.map c43))]⟩) ?_ ?_
         ·refine L0 rfl rfl (E_move (I a2) rfl (by kernel_rfl)) ?_
          refine L0 rfl rfl (E_move (I b8) rfl (by kernel_rfl)) ?_
          refine L0 rfl rfl (E_move (I b8) rfl (by kernel_rfl)) ?_
          refine L0 rfl rfl (E_move (I b8) rfl (by kernel_rfl)) ?_
          refine L0 rfl rfl (Y0_mul64 (a := b8) (b := b8) rfl (by kernel_rfl) (by kernel_rfl)) ?_
          refine L0 rfl rfl (E_move (I d1) rfl (by kernel_rfl)) ?_
          refine L0 rfl rfl (Y0_sub64 (a := w64 (b8 * b8)) (b := d1) rfl (by kernel_rfl) (by kernel_rfl)) ?_
          refine L0 rfl rfl (E_move (I a2) rfl (by kernel_rfl)) ?_
          refine L0 rfl rfl (Y0_mul64 (a := 4) (b := a2) rfl (by kernel_rfl) (by kernel_rfl)) ?_
          refine L0 rfl rfl (Y0_quo64 (a := w64 ((w64 (b8 * b8)) - d1)) (b := w64 (4 * a2)) rfl (by kernel_rfl) (by kernel_rfl) (nz_some hz17)) ?_
          refine L0 rfl rfl (Y0_build (cs := [Ti a2, Ti b8, Ti (w64 (Int.tdiv (w64 ((w64 (b8 * b8)) - d1)) (w64 (4 * a2))))]) pl43 bt43 rfl rfl (by kernel_rfl)) ?_
          refine L1 rfl rfl (Y1_alloc (z := zv43) rfl zf43 rfl) ?_
          refine XL_cons rfl (E_store (id := 48) (off := 0) (cs := [Ti 0, Ti 0, Ti 0]) (vc := [Ti a2, Ti b8, Ti (w64 (Int.tdiv (w64 ((w64 (b8 * b8)) - d1)) (w64 (4 * a2))))]) [Ti a2, Ti b8, Ti (w64 (Int.tdiv (w64 ((w64 (b8 * b8)) - d1)) (w64 (4 * a2))))] rfl rfl (by kernel_rfl) (by kernel_rfl) (by kernel_rfl) sz43 (Nat.le_of_ble_eq_true rfl) (by kernel_rfl)) ?_
          refine XL_nil ?_
          subst hf18
          kernel_rfl
         obtain ⟨y19, hy19, h⟩ := of_bind h
         refine V_sreg (mb 51 35184372088953) [48, 56] (s1 := ⟨I d1 :: .bot :: .bot :: .ow 56 :: I a2 :: I b8 :: .pt 48 0 :: bt 38 (Bo y19 :: bt 5 []), [(48, .box [Ti a2, Ti b8, Ti f18]), (56, .arr 43 3 (l9.map c43))]⟩) ?_ ?_
         ·refine L0 rfl rfl (E_loadn (cs := [Ti a2, Ti b8, Ti f18]) [Ti a2, Ti b8, Ti f18] wd43 rfl (by kernel_rfl) (Nat.le_of_ble_eq_true rfl) (by kernel_rfl)) ?_
          refine L1 rfl rfl (Y1_call (s_impl_Form_isReduced hy19) cf_impl_Form_isReduced rfl (by kernel_rfl)) ?_
          refine XL_nil ?_
          kernel_rfl
         refine V_cond rfl (fun hc20 => ?_) (fun hc20 => ?_)
         ·have h := of_true h hc20
          obtain ⟨u21, hu21, h⟩ := of_bind h
          refine V_reg (mb 51 57) [56] (s1 := ⟨I d1 :: .bot :: .bot :: .ow 56 :: I a2 :: I b8 :: bt 45 [], [(56, .arr 43 3 ((l9 ++ ([(a2, b8, f18)])).map c43))]⟩) ?_ ?_
          ·refine L0 rfl rfl (E_move (.ow 56) rfl (by kernel_rfl)) ?_
           refine L0 rfl rfl (E_loadn (cs := [Ti a2, Ti b8, Ti f18]) [Ti a2, Ti b8, Ti f18] wd43 rfl (by kernel_rfl) (Nat.le_of_ble_eq_true rfl) (by kernel_rfl)) ?_
           refine L1 rfl rfl (Y1_bslice (z := zv43) (els := [(a2, b8, f18)].map c43) Try.underlying40 iz43 rfl (by decide) rfl (by kernel_rfl) rfl (by simp [c43]) (by decide) (by decide)) ?_
           refine XL_cons rfl (X_appendM (c := c43) (xs := l9) (ys := [(a2, b8, f18)]) (id := 56) (z := zv43) rfl rfl Try.underlying40 izb43 rfl (by kernel_rfl) (by kernel_rfl) (by kernel_rfl) (fun _ => rfl) (by simp) (room_some hu21) (by decide)) ?_
           refine L0 rfl rfl (E_assign (.ow 56) rfl (by kernel_rfl)) ?_
           refine XL_nil ?_
           kernel_rfl
          show V _ _ _ _
          obtain ⟨b22, hb22, h⟩ := of_sI h
          refine V_reg (mb 51 57) [56] (s1 := ⟨I d1 :: .bot :: .bot :: .ow 56 :: I a2 :: I b22 :: bt 45 [], [(56, .arr 43 3 ((l9 ++ ([(a2, b8, f18)])).map c43))]⟩) ?_ ?_
          ·refine L0 rfl rfl (E_move (I b8) rfl (by kernel_rfl)) ?_
           refine L0 rfl rfl (Y0_add64 (a := b8) (b := 1) rfl (by kernel_rfl) (by kernel_rfl)) ?_
           refine L0 rfl rfl (E_assign (I (w64 (b8 + 1))) rfl (by kernel_rfl)) ?_
           refine XL_nil ?_
           subst hb22
           kernel_rfl
          exact ⟨n, Nat.lt_succ_self n, _, _,  by rfl, h⟩
         ·have h := of_false h hc20
          refine V_skip ?_
          show V _ _ _ _
          obtain ⟨b23, hb23, h⟩ := of_sI h
          refine V_reg (mb 51 57) [56] (s1 := ⟨I d1 :: .bot :: .bot :: .ow 56 :: I a2 :: I b23 :: bt 45 [], [(56, .arr 43 3 (l9.map c43))]⟩) ?_ ?_
          ·refine L0 rfl rfl (E_move (I b8) rfl (by kernel_rfl)) ?_
           refine L0 rfl rfl (Y0_add64 (a := b8) (b := 1) rfl (by kernel_rfl) (by kernel_rfl)) ?_
           refine L0 rfl rfl (E_assign (I (w64 (b8 + 1))) rfl (by kernel_rfl)) ?_
           refine XL_nil ?_
           subst hb23
           kernel_rfl
          exact ⟨n, Nat.lt_succ_self n, _, _,  by rfl, h⟩
       ·have h := of_false h hc12
        refine V_exit ?_
        obtain rfl := some_inj h
        show St.keep _ _ _ = _
        rfl
     show V _ _ _ _
     obtain ⟨a24, ha24, h⟩ := of_sI h
     refine V_reg (mb 51 25) [56] (s1 := ⟨I d1 :: .bot :: .bot :: .ow 56 :: I a24 :: bt 46 [], [(56, .arr 43 3 (o11.map c43))]⟩) ?_ ?_
     ·refine L0 rfl rfl (E_move (I a2) rfl (by kernel_rfl)) ?_
      refine L0 rfl rfl (Y0_add64 (a := a2) (b := 1) rfl (by kernel_rfl) (by kernel_rfl)) ?_
      refine L0 rfl rfl (E_assign (I (w64 (a2 + 1))) rfl (by kernel_rfl)) ?_
      refine XL_nil ?_
      subst ha24
      kernel_rfl
     exact ⟨n, Nat.lt_succ_self n, _, _,  by rfl, h⟩
    ·have h := of_false h hc6
     refine V_exit ?_
     obtain rfl := some_inj h
     show St.keep _ _ _ = _
     rfl
  show V _ _ _ _
  refine V_sreg (mb 51 4) [56] (s1 := ⟨.bot :: .bot :: .ow 56 :: bt 48 [], [(56, .arr 43 3 (o5.map c43))]⟩) ?_ ?_
  ·refine L0 rfl rfl (E_move (.ow 56) rfl (by kernel_rfl)) ?_
   refine L0 rfl rfl (E_assign (.ow 56) rfl (by kernel_rfl)) ?_
   refine XL_nil ?_
   kernel_rfl
  refine V_ret ?_
  obtain rfl := some_inj h
  show Post _ _ _ _ _
  exact ⟨.inr rfl, rfl, rfl, rfl⟩
theorem cf_impl_Form_content : ∀ args w, (callFunc 117 args).run Try.prog w = .ok (.enter 117 args) w := run_callFunc Try.func117 (by kernel_rfl) (by kernel_rfl)
set_option maxRecDepth 100000 in
set_option maxHeartbeats 400000 in
theorem s_impl_Form_content {f1 : (Int × Int × Int)} {r : Int} (h : r_impl_Form_content f1 = some r) : CallS Try.prog 117 [.ag [Ti f1.1, Ti f1.2.1, Ti f1.2.2]] (I r) [] := by
  refine CallS_of_text (rs := [.t 2]) (vs := [.tmp 2]) Try.func117 rfl rfl (.cons rfl FitsL.nil) (by decide) 11 rfl ?_
  unfold r_impl_Form_content at h
  show V _ _ ⟨.ag [Ti f1.1, Ti f1.2.1, Ti f1.2.2] :: bt 10 [], []⟩ _
  refine V_sreg (mb 11 2) [8] (s1 := ⟨.bot :: .pt 8 0 :: bt 9 [], [(8, .box [Ti f1.1, Ti f1.2.1, Ti f1.2.2])]⟩) ?_ ?_
  ·refine L1 rfl rfl (Y1_box (cs := [Ti f1.1, Ti f1.2.1, Ti f1.2.2]) rfl (by kernel_rfl)) ?_
   refine L0 rfl rfl (E_assign (I 0) rfl (by kernel_rfl)) ?_
   refine XL_nil ?_
   kernel_rfl
  obtain ⟨y2, hy2, h⟩ := of_bind h
  obtain ⟨y3, hy3, h⟩ := of_bind h
  refine V_sdreg [0, 1, 0, 4, 0, 16, 60, 127, 255] 9 [[.z, .z, .b, .b, .b, .b, .b, .z, .z], [.a, .z, .b, .b, .b, .b, .b, .z, .z], [.b, .b, .z, .z, .b, .b, .z, .z, .z], [.b, .b, .a, .z, .b, .b, .z, .z, .z], [.b, .b, .b, .b, .z, .z, .z, .z, .z], [.b, .b, .b, .b, .a, .z, .z, .z, .z], [.b, .b, .a, .a, .a, .a, .z, .z, .z], [.a, .a, .a, .a, .a, .a, .a, .z, .z], [.a, .a, .a, .a, .a, .a, .a, .a, .z]] (mb 11 4) [] (s1 := ⟨.bot :: .bot :: I y3 :: bt 8 [], []⟩) (by kernel_rfl) (by kernel_rfl) ?_ ?_
  ·refine DE_0 0 (.pt 8 0) (by kernel_rfl) rfl rfl rfl (gsat_none rfl) (by kernel_rfl) (E_field (.pt 8 0) Try.underlying43 rfl sz3 rfl (by kernel_rfl) (by intro hh; cases hh)) 3 rfl ?_
   refine DE_0 1 (I f1.1) (by kernel_rfl) rfl rfl rfl (gsat_none rfl) (by kernel_rfl) (Y0_load1 (c := Ti f1.1) (cs := [Ti f1.2.1, Ti f1.2.2]) sc3 rfl (by kernel_rfl)) 4 rfl ?_
   refine DE_0 2 (.pt 8 1) (by kernel_rfl) rfl rfl rfl (gsat_none rfl) (by kernel_rfl) (E_field (.pt 8 1) Try.underlying43 rfl sz3 rfl (by kernel_rfl) (by intro hh; cases hh)) 5 rfl ?_
   refine DE_0 3 (I f1.2.1) (by kernel_rfl) rfl rfl rfl (gsat_none rfl) (by kernel_rfl) (Y0_load1 (c := Ti f1.2.1) (cs := [Ti f1.2.2]) sc3 rfl (by kernel_rfl)) 6 rfl ?_
   refine DE_0 4 (.pt 8 2) (by kernel_rfl) rfl rfl rfl (gsat_none rfl) (by kernel_rfl) (E_field (.pt 8 2) Try.underlying43 rfl sz3 rfl (by kernel_rfl) (by intro hh; cases hh)) 7 rfl ?_
   refine DE_0 5 (I f1.2.2) (by kernel_rfl) rfl rfl rfl (gsat_none rfl) (by kernel_rfl) (Y0_load1 (c := Ti f1.2.2) (cs := []) sc3 rfl (by kernel_rfl)) 8 rfl ?_
   refine DE_1 6 (by kernel_rfl) rfl rfl rfl (gsat_none rfl) (Y1_call (s_impl_gcd hy2) cf_impl_gcd rfl (by kernel_rfl)) rfl rfl rfl 9 rfl ?_
   refine DE_1 7 (by kernel_rfl) rfl rfl rfl (gsat_none rfl) (Y1_call (s_impl_gcd hy3) cf_impl_gcd rfl (by kernel_rfl)) rfl rfl rfl 10 rfl ?_
   refine DE_0 8 (I y3) (by kernel_rfl) rfl rfl rfl (gsat_none rfl) (by kernel_rfl) (E_assign (I y3) rfl (by kernel_rfl)) 2 rfl ?_
   refine DL_nil (by kernel_rfl) ?_
   refine XL_nil ?_
   kernel_rfl
  refine V_ret ?_
  obtain rfl := some_inj h
  show Post _ _ _ _ _
  exact ⟨.inr rfl, rfl, rfl, rfl⟩
theorem cf_impl_primitiveOf : ∀ args w, (callFunc 97 args).run Try.prog w = .ok (.enter 97 args) w := run_callFunc Try.func97 (by kernel_rfl) (by kernel_rfl)
set_option maxRecDepth 100000 in
set_option maxHeartbeats 400000 in
theorem s_impl_primitiveOf {forms1 : List ((Int × Int × Int))} {r : List ((Int × Int × Int))} (h : r_impl_primitiveOf forms1 = some r) : CallS Try.prog 97 [.c (.sl (forms1.map c43))] (.ow 0) [(0, .arr 43 3 (r.map c43))] := by
  refine CallS_of_text (rs := [.t 2]) (vs := [.tmp 2]) Try.func97 rfl rfl (.cons rfl FitsL.nil) (by decide) 22 rfl ?_
  unfold r_impl_primitiveOf at h
  show V _ _ ⟨.c (.sl (forms1.map c43)) :: bt 21 [], []⟩ _
  refine V_sreg (mb 22 1) [] (s1 := ⟨.c (.sl (forms1.map c43)) :: bt 21 [], []⟩) ?_ ?_
  ·refine L1 rfl rfl (Y1_nil (e := 43) 3 (by decide) (.inl rfl)) ?_
   refine XL_nil ?_
   kernel_rfl
  refine V_sreg (mb 22 9) [48] (s1 := ⟨.c (.sl (forms1.map c43)) :: .bot :: .bot :: .ow 48 :: bt 18 [], [(48, .arr 43 3 ((([] : List ((Int × Int × Int)))).map c43))]⟩) ?_ ?_
  ·refine L1 rfl rfl (Y1_bslice0 Try.underlying40 sz43 (by decide) rfl rfl) ?_
   refine L0 rfl rfl (E_assign (.ow 48) rfl (by kernel_rfl)) ?_
   refine XL_nil ?_
   kernel_rfl
  refine V_seq ?_
  refine V_sreg (mb 22 904) [48] (s1 := ⟨bt 3 (.ow 48 :: bt 3 (.c (.sl (forms1.map c43)) :: I ((forms1.length : Int)) :: I 0 :: bt 12 [])), [(48, .arr 43 3 ((([] : List ((Int × Int × Int)))).map c43))]⟩) ?_ ?_
  ·refine L0 rfl rfl (E_move (.c (.sl (forms1.map c43))) rfl (by kernel_rfl)) ?_
   refine L0 rfl rfl (Y0_lenM (c := c43) (xs := forms1) Try.underlying40 rfl (by kernel_rfl)) ?_
   refine L0 rfl rfl (E_move (I 0) rfl (by kernel_rfl)) ?_
   refine XL_nil ?_
   kernel_rfl
  obtain ⟨o5, hLo5, h⟩ := of_bind h
  refine V_toK (mb 22 8) [48] (s1 := ⟨bt 3 (.ow 48 :: bt 18 []), [(48, .arr 43 3 (o5.map c43))]⟩) ?_ ?_
  ·clear h
   refine V_block (V_loop (fun n s => ∃ (t2 : Int) (l3 : List ((Int × Int × Int))), s.keep (mb 22 904) [48] = (⟨bt 3 (.ow 48 :: bt 3 (.c (.sl (forms1.map c43)) :: I ((forms1.length : Int)) :: I t2 :: bt 12 [])), [(48, .arr 43 3 (l3.map c43))]⟩ : St) ∧ r_impl_primitiveOf_L4 forms1 n t2 l3 = some o5) FU ⟨_, _,  by rfl, hLo5⟩ ?_)
   clear hLo5
   rintro n s ⟨t2, l3, hs, h⟩
   refine V_keep _ _ hs ?_
   clear hs
   cases n with
   | zero => cases h
   | succ n =>
    rw [r_impl_primitiveOf_L4] at h
    refine V_sreg (mb 22 1928) [48] (s1 := ⟨bt 3 (.ow 48 :: bt 3 (.c (.sl (forms1.map c43)) :: I ((forms1.length : Int)) :: I t2 :: Bo (ltI t2 ((forms1.length : Int))) :: bt 11 [])), [(48, .arr 43 3 (l3.map c43))]⟩) ?_ ?_
    ·refine L0 rfl rfl (Y0_ltw (k := .i64) (a := t2) (b := (forms1.length : Int)) rfl (by kernel_rfl) (by kernel_rfl)) ?_
     refine XL_nil ?_
     kernel_rfl
    refine V_seq ?_
    refine V_cond rfl (fun hc6 => ?_) (fun hc6 => ?_)
    ·have h := of_true h hc6
     refine V_skip ?_
     show V _ _ _ _
     refine V_seq ?_
     refine V_block ?_
     obtain ⟨e7, he7, h⟩ := of_bind h
     refine V_sreg (mb 22 936) [40, 48] (s1 := ⟨bt 3 (.ow 48 :: .bot :: .pt 40 0 :: .bot :: .c (.sl (forms1.map c43)) :: I ((forms1.length : Int)) :: I t2 :: bt 12 []), [(40, .box [Ti e7.1, Ti e7.2.1, Ti e7.2.2]), (48, .arr 43 3 (l3.map c43))]⟩) ?_ ?_
     ·refine L0 rfl rfl (Y0_idxM (c := c43) (xs := forms1) (v := e7) (n := t2) Try.underlying40 sz43 rfl (by kernel_rfl) (by kernel_rfl) he7) ?_
      refine L0 rfl rfl (E_loadn (cs := [Ti e7.1, Ti e7.2.1, Ti e7.2.2]) [Ti e7.1, Ti e7.2.1, Ti e7.2.2] wd43 rfl (by kernel_rfl) (Nat.le_of_ble_eq_true rfl) (by kernel_rfl)) ?_
      refine L1 rfl rfl (Y1_alloc (z := zv43) rfl zf43 rfl) ?_
      refine XL_cons rfl (E_store (id := 40) (off := 0) (cs := [Ti 0, Ti 0, Ti 0]) (vc := [Ti e7.1, Ti e7.2.1, Ti e7.2.2]) [Ti e7.1, Ti e7.2.1, Ti e7.2.2] rfl rfl (by kernel_rfl) (by kernel_rfl) (by kernel_rfl) sz43 (Nat.le_of_ble_eq_true rfl) (by kernel_rfl)) ?_
      refine XL_nil ?_
      kernel_rfl
     obtain ⟨y8, hy8, h⟩ := of_bind h
     refine V_sreg (mb 22 33704) [40, 48] (s1 := ⟨bt 3 (.ow 48 :: .bot :: .pt 40 0 :: .bot :: .c (.sl (forms1.map c43)) :: I ((forms1.length : Int)) :: I t2 :: bt 5 (Bo (eqI y8 1) :: bt 6 [])), [(40, .box [Ti e7.1, Ti e7.2.1, Ti e7.2.2]), (48, .arr 43 3 (l3.map c43))]⟩) ?_ ?_
     ·refine L0 rfl rfl (E_loadn (cs := [Ti e7.1, Ti e7.2.1, Ti e7.2.2]) [Ti e7.1, Ti e7.2.1, Ti e7.2.2] wd43 rfl (by kernel_rfl) (Nat.le_of_ble_eq_true rfl) (by kernel_rfl)) ?_
      refine L1 rfl rfl (Y1_call (s_impl_Form_content hy8) cf_impl_Form_content rfl (by kernel_rfl)) ?_
      refine L0 rfl rfl (Y0_eqw (k := .i64) (a := y8) (b := 1) rfl (by kernel_rfl) (by kernel_rfl)) ?_
      refine XL_nil ?_
      kernel_rfl
     refine V_cond rfl (fun hc9 => ?_) (fun hc9 => ?_)
     ·have h := of_true h hc9
      obtain ⟨u10, hu10, h⟩ := of_bind h
      refine V_reg (mb 22 904) [48] (s1 := ⟨bt 3 (.ow 48 :: bt 3 (.c (.sl (forms1.map c43)) :: I ((forms1.length : Int)) :: I t2 :: bt 12 [])), [(48, .arr 43 3 ((l3 ++ ([e7])).map c43))]⟩) ?_ ?_
      ·refine L0 rfl rfl (E_move (.ow 48) rfl (by kernel_rfl)) ?_
       refine L0 rfl rfl (E_loadn (cs := [Ti e7.1, Ti e7.2.1, Ti e7.2.2]) [Ti e7.1, Ti e7.2.1, Ti e7.2.2] wd43 rfl (by kernel_rfl) (Nat.le_of_ble_eq_true rfl) (by kernel_rfl)) ?_
       refine L1 rfl rfl (Y1_bslice (z := zv43) (els := [e7].map c43) Try.underlying40 iz43 rfl (by decide) rfl (by kernel_rfl) rfl (by simp [c43]) (by decide) (by decide)) ?_
       refine XL_cons rfl (X_appendM (c := c43) (xs := l3) (ys := [e7]) (id := 48) (z := zv43) rfl rfl Try.underlying40 izb43 rfl (by kernel_rfl) (by kernel_rfl) (by kernel_rfl) (fun _ => rfl) (by simp) (room_some hu10) (by decide)) ?_
       refine L0 rfl rfl (E_assign (.ow 48) rfl (by kernel_rfl)) ?_
       refine XL_nil ?_
       kernel_rfl
      show V _ _ _ _
      obtain ⟨t11, ht11, h⟩ := of_sI h
      refine V_reg (mb 22 904) [48] (s1 := ⟨bt 3 (.ow 48 :: bt 3 (.c (.sl (forms1.map c43)) :: I ((forms1.length : Int)) :: I t11 :: bt 12 [])), [(48, .arr 43 3 ((l3 ++ ([e7])).map c43))]⟩) ?_ ?_
      ·refine L0 rfl rfl (Y0_add64 (a := t2) (b := 1) rfl (by kernel_rfl) (by kernel_rfl)) ?_
       refine L0 rfl rfl (E_move (I (w64 (t2 + 1))) rfl (by kernel_rfl)) ?_
       refine XL_nil ?_
       subst ht11
       kernel_rfl
      exact ⟨n, Nat.lt_succ_self n, _, _,  by rfl, h⟩
     ·have h := of_false h hc9
      refine V_skip ?_
      show V _ _ _ _
      obtain ⟨t12, ht12, h⟩ := of_sI h
      refine V_reg (mb 22 904) [48] (s1 := ⟨bt 3 (.ow 48 :: bt 3 (.c (.sl (forms1.map c43)) :: I ((forms1.length : Int)) :: I t12 :: bt 12 [])), [(48, .arr 43 3 (l3.map c43))]⟩) ?_ ?_
      ·refine L0 rfl rfl (Y0_add64 (a := t2) (b := 1) rfl (by kernel_rfl) (by kernel_rfl)) ?_
       refine L0 rfl rfl (E_move (I (w64 (t2 + 1))) rfl (by kernel_rfl)) ?_
       refine XL_nil ?_
       subst ht12
       kernel_rfl
      exact ⟨n, Nat.lt_succ_self n, _, _,  by rfl, h⟩
    ·have h := of_false h hc6
     refine V_exit ?_
     obtain rfl := some_inj h
     show St.keep _ _ _ = _
     rfl
  show V _ _ _ _
  refine V_sreg (mb 22 4) [48] (s1 := ⟨.bot :: .bot :: .ow 48 :: bt 19 [], [(48, .arr 43 3 (o5.map c43))]⟩) ?_ ?_
  ·refine L0 rfl rfl (E_move (.ow 48) rfl (by kernel_rfl)) ?_
   refine L0 rfl rfl (E_assign (.ow 48) rfl (by kernel_rfl)) ?_
   refine XL_nil ?_
   kernel_rfl
  refine V_ret ?_
  obtain rfl := some_inj h
  show Post _ _ _ _ _
  exact ⟨.inr rfl, rfl, rfl, rfl⟩
theorem cf_impl_reducedForms : ∀ args w, (callFunc 58 args).run Try.prog w = .ok (.enter 58 args) w := run_callFunc Try.func58 (by kernel_rfl) (by kernel_rfl)
set_option maxRecDepth 100000 in
set_option maxHeartbeats 400000 in
theorem s_impl_reducedForms {d1 : Int} {r : List ((Int × Int × Int))} (h : r_impl_reducedForms d1 = some r) : CallS Try.prog 58 [I d1] (.ow 0) [(0, .arr 43 3 (r.map c43))] := by
  refine CallS_of_text (rs := [.t 2]) (vs := [.tmp 2]) Try.func58 rfl rfl (.cons rfl FitsL.nil) (by decide) 6 rfl ?_
  unfold r_impl_reducedForms at h
  show V _ _ ⟨I d1 :: bt 5 [], []⟩ _
  refine V_sreg (mb 6 1) [] (s1 := ⟨I d1 :: bt 5 [], []⟩) ?_ ?_
  ·refine L1 rfl rfl (Y1_nil (e := 43) 3 (by decide) (.inl rfl)) ?_
   refine XL_nil ?_
   kernel_rfl
  obtain ⟨y2, hy2, h⟩ := of_bind h
  obtain ⟨y3, hy3, h⟩ := of_bind h
  refine V_sreg (mb 6 4) [40] (s1 := ⟨.bot :: .bot :: .ow 40 :: bt 3 [], [(40, .arr 43 3 (y3.map c43))]⟩) ?_ ?_
  ·refine L0 rfl rfl (E_move (I d1) rfl (by kernel_rfl)) ?_
   refine L1 rfl rfl (Y1_call (s_impl_allReduced hy2) cf_impl_allReduced rfl (by kernel_rfl)) ?_
   refine L1 rfl rfl (Y1_callS (s_impl_primitiveOf hy3) cf_impl_primitiveOf rfl (by kernel_rfl) rfl (flatE_cons (fun _ => rfl) rfl)) ?_
   refine L0 rfl rfl (E_assign (.ow 40) rfl (by kernel_rfl)) ?_
   refine XL_nil ?_
   kernel_rfl
  refine V_ret ?_
  obtain rfl := some_inj h
  show Post _ _ _ _ _
  exact ⟨.inr rfl, rfl, rfl, rfl⟩
theorem cf_impl_IsForm : ∀ args w, (callFunc 144 args).run Try.prog w = .ok (.enter 144 args) w := run_callFunc Try.func144 (by kernel_rfl) (by kernel_rfl)
set_option maxRecDepth 100000 in
set_option maxHeartbeats 400000 in
theorem s_impl_IsForm {f1 : (Int × Int × Int)} {r : Bool} (h : r_impl_IsForm f1 = some r) : CallS Try.prog 144 [.ag [Ti f1.1, Ti f1.2.1, Ti f1.2.2]] (Bo r) [] := by
  refine CallS_of_text (rs := [.t 2]) (vs := [.tmp 2]) Try.func144 rfl rfl (.cons rfl FitsL.nil) (by decide) 11 rfl ?_
  unfold r_impl_IsForm at h
  show V _ _ ⟨.ag [Ti f1.1, Ti f1.2.1, Ti f1.2.2] :: bt 10 [], []⟩ _
  refine V_sreg (mb 11 2) [8] (s1 := ⟨.bot :: .pt 8 0 :: bt 9 [], [(8, .box [Ti f1.1, Ti f1.2.1, Ti f1.2.2])]⟩) ?_ ?_
  ·refine L1 rfl rfl (Y1_box (cs := [Ti f1.1, Ti f1.2.1, Ti f1.2.2]) rfl (by kernel_rfl)) ?_
   refine L0 rfl rfl (E_assign (Bo false) rfl (by kernel_rfl)) ?_
   refine XL_nil ?_
   kernel_rfl
  obtain ⟨y2, hy2, h⟩ := of_bind h
  refine V_sreg (mb 11 4) [] (s1 := ⟨.bot :: .bot :: Bo y2 :: bt 8 [], []⟩) ?_ ?_
  ·refine L0 rfl rfl (E_field (.pt 8 0) Try.underlying43 rfl sz3 rfl (by kernel_rfl) (by intro hh; cases hh)) ?_
   refine L0 rfl rfl (Y0_load1 (c := Ti f1.1) (cs := [Ti f1.2.1, Ti f1.2.2]) sc3 rfl (by kernel_rfl)) ?_
   refine L0 rfl rfl (E_field (.pt 8 1) Try.underlying43 rfl sz3 rfl (by kernel_rfl) (by intro hh; cases hh)) ?_
   refine L0 rfl rfl (Y0_load1 (c := Ti f1.2.1) (cs := [Ti f1.2.2]) sc3 rfl (by kernel_rfl)) ?_
   refine L0 rfl rfl (E_field (.pt 8 2) Try.underlying43 rfl sz3 rfl (by kernel_rfl) (by intro hh; cases hh)) ?_
   refine L0 rfl rfl (Y0_load1 (c := Ti f1.2.2) (cs := []) sc3 rfl (by kernel_rfl)) ?_
   refine L1 rfl rfl (Y1_bslice (z := zv3) (els := [f1.1, f1.2.1, f1.2.2].map c3) Try.underlying28 iz3 rfl (by decide) rfl (by kernel_rfl) rfl (by simp [c3]) (by decide) (by decide)) ?_
   refine L1 rfl rfl (Y1_callS (s_impl_areNumbers hy2) cf_impl_areNumbers rfl (by kernel_rfl) rfl rfl) ?_
   refine L0 rfl rfl (E_assign (Bo y2) rfl (by kernel_rfl)) ?_
   refine XL_nil ?_
   kernel_rfl
  refine V_ret ?_
  obtain rfl := some_inj h
  show Post _ _ _ _ _
  exact ⟨.inr rfl, rfl, rfl, rfl⟩
theorem cf_impl_Form_disc : ∀ args w, (callFunc 104 args).run Try.prog w = .ok (.enter 104 args) w := run_callFunc Try.func104 (by kernel_rfl) (by kernel_rfl)
set_option maxRecDepth 100000 in
set_option maxHeartbeats 400000 in
theorem s_impl_Form_disc {f1 : (Int × Int × Int)} {r : Int} (h : r_impl_Form_disc f1 = some r) : CallS Try.prog 104 [.ag [Ti f1.1, Ti f1.2.1, Ti f1.2.2]] (I r) [] := by
  refine CallS_of_text (rs := [.t 2]) (vs := [.tmp 2]) Try.func104 rfl rfl (.cons rfl FitsL.nil) (by decide) 15 rfl ?_
  unfold r_impl_Form_disc at h
  show V _ _ ⟨.ag [Ti f1.1, Ti f1.2.1, Ti f1.2.2] :: bt 14 [], []⟩ _
  refine V_sreg (mb 15 2) [8] (s1 := ⟨.bot :: .pt 8 0 :: bt 13 [], [(8, .box [Ti f1.1, Ti f1.2.1, Ti f1.2.2])]⟩) ?_ ?_
  ·refine L1 rfl rfl (Y1_box (cs := [Ti f1.1, Ti f1.2.1, Ti f1.2.2]) rfl (by kernel_rfl)) ?_
   refine L0 rfl rfl (E_assign (I 0) rfl (by kernel_rfl)) ?_
   refine XL_nil ?_
   kernel_rfl
  obtain ⟨t2, ht2, h⟩ := of_sI h
  refine V_sreg (mb 15 4) [] (s1 := ⟨.bot :: .bot :: I t2 :: bt 12 [], []⟩) ?_ ?_
  ·refine L0 rfl rfl (E_field (.pt 8 1) Try.underlying43 rfl sz3 rfl (by kernel_rfl) (by intro hh; cases hh)) ?_
   refine L0 rfl rfl (Y0_load1 (c := Ti f1.2.1) (cs := [Ti f1.2.2]) sc3 rfl (by kernel_rfl)) ?_
   refine L0 rfl rfl (E_field (.pt 8 1) Try.underlying43 rfl sz3 rfl (by kernel_rfl) (by intro hh; cases hh)) ?_
   refine L0 rfl rfl (Y0_load1 (c := Ti f1.2.1) (cs := [Ti f1.2.2]) sc3 rfl (by kernel_rfl)) ?_
   refine L0 rfl rfl (Y0_mul64 (a := f1.2.1) (b := f1.2.1) rfl (by kernel_rfl) (by kernel_rfl)) ?_
   refine L0 rfl rfl (E_field (.pt 8 0) Try.underlying43 rfl sz3 rfl (by kernel_rfl) (by intro hh; cases hh)) ?_
   refine L0 rfl rfl (Y0_load1 (c := Ti f1.1) (cs := [Ti f1.2.1, Ti f1.2.2]) sc3 rfl (by kernel_rfl)) ?_
   refine L0 rfl rfl (Y0_mul64 (a := 4) (b := f1.1) rfl (by kernel_rfl) (by kernel_rfl)) ?_
   refine L0 rfl rfl (E_field (.pt 8 2) Try.underlying43 rfl sz3 rfl (by kernel_rfl) (by intro hh; cases hh)) ?_
   refine L0 rfl rfl (Y0_load1 (c := Ti f1.2.2) (cs := []) sc3 rfl (by kernel_rfl)) ?_
   refine L0 rfl rfl (Y0_mul64 (a := w64 (4 * f1.1)) (b := f1.2.2) rfl (by kernel_rfl) (by kernel_rfl)) ?_
   refine L0 rfl rfl (Y0_sub64 (a := w64 (f1.2.1 * f1.2.1)) (b := w64 ((w64 (4 * f1.1)) * f1.2.2)) rfl (by kernel_rfl) (by kernel_rfl)) ?_
   refine L0 rfl rfl (E_assign (I (w64 ((w64 (f1.2.1 * f1.2.1)) - (w64 ((w64 (4 * f1.1)) * f1.2.2))))) rfl (by kernel_rfl)) ?_
   refine XL_nil ?_
   subst ht2
   kernel_rfl
  refine V_ret ?_
  obtain rfl := some_inj h
  show Post _ _ _ _ _
  exact ⟨.inr rfl, rfl, rfl, rfl⟩
theorem cf_impl_isDefinite : ∀ args w, (callFunc 136 args).run Try.prog w = .ok (.enter 136 args) w := run_callFunc Try.func136 (by kernel_rfl) (by kernel_rfl)
set_option maxRecDepth 100000 in
set_option maxHeartbeats 400000 in
theorem s_impl_isDefinite {f1 : (Int × Int × Int)} {r : Bool} (h : r_impl_isDefinite f1 = some r) : CallS Try.prog 136 [.ag [Ti f1.1, Ti f1.2.1, Ti f1.2.2]] (Bo r) [] := by
  refine CallS_of_text (rs := [.t 2]) (vs := [.tmp 2]) Try.func136 rfl rfl (.cons rfl FitsL.nil) (by decide) 15 rfl ?_
  unfold r_impl_isDefinite at h
  show V _ _ ⟨.ag [Ti f1.1, Ti f1.2.1, Ti f1.2.2] :: bt 14 [], []⟩ _
  refine V_sreg (mb 15 2) [8] (s1 := ⟨.bot :: .pt 8 0 :: bt 13 [], [(8, .box [Ti f1.1, Ti f1.2.1, Ti f1.2.2])]⟩) ?_ ?_
  ·refine L1 rfl rfl (Y1_box (cs := [Ti f1.1, Ti f1.2.1, Ti f1.2.2]) rfl (by kernel_rfl)) ?_
   refine L0 rfl rfl (E_assign (Bo false) rfl (by kernel_rfl)) ?_
   refine XL_nil ?_
   kernel_rfl
  obtain ⟨y2, hy2, h⟩ := of_bind h
  obtain ⟨b5, hb5, h⟩ := of_bind h
  refine V_sreg (mb 15 4) [] (s1 := ⟨.bot :: .bot :: Bo (bif b5 then (ltI 0 f1.1) else false) :: bt 12 [], []⟩) ?_ ?_
  ·refine L0 rfl rfl (E_loadn (cs := [Ti f1.1, Ti f1.2.1, Ti f1.2.2]) [Ti f1.1, Ti f1.2.1, Ti f1.2.2] wd43 rfl (by kernel_rfl) (Nat.le_of_ble_eq_true rfl) (by kernel_rfl)) ?_
   refine L1 rfl rfl (Y1_call (s_impl_IsForm hy2) cf_impl_IsForm rfl (by kernel_rfl)) ?_
   refine L0 rfl rfl (E_move (Bo y2) rfl (by kernel_rfl)) ?_
   refine XL_split y2 (fun hc3 => ?_) (fun hc3 => ?_)
   ·have hb5 := of_true hb5 hc3
    obtain ⟨y4, hy4, hb5⟩ := of_bind hb5
    have hb5 := some_inj hb5
    refine XL_takeC _ rfl rfl (by kernel_rfl) hc3 (X_of_Y0 rfl (E_loadn (cs := [Ti f1.1, Ti f1.2.1, Ti f1.2.2]) [Ti f1.1, Ti f1.2.1, Ti f1.2.2] wd43 rfl (by kernel_rfl) (Nat.le_of_ble_eq_true rfl) (by kernel_rfl))) ?_
    refine XL_takeC _ rfl rfl (by kernel_rfl) hc3 (X_of_Y1 rfl (Y1_call (s_impl_Form_disc hy4) cf_impl_Form_disc rfl (by kernel_rfl))) ?_
    refine XL_takeC _ rfl rfl (by kernel_rfl) hc3 (X_of_Y0 rfl (Y0_ltw (k := .i64) (a := y4) (b := 0) rfl (by kernel_rfl) (by kernel_rfl))) ?_
    refine XL_cons rfl (X_of_Y0 rfl (Y0_pickTe (b := y2) (p := ltI y4 0) rfl (by kernel_rfl) hc3 (by kernel_rfl) hb5)) ?_
    refine L0 rfl rfl (E_move (Bo b5) rfl (by kernel_rfl)) ?_
    refine XL_split b5 (fun hc6 => ?_) (fun hc6 => ?_)
    ·refine XL_takeC _ rfl rfl (by kernel_rfl) hc6 (X_of_Y0 rfl (E_field (.pt 8 0) Try.underlying43 rfl sz3 rfl (by kernel_rfl) (by intro hh; cases hh))) ?_
     refine XL_takeC _ rfl rfl (by kernel_rfl) hc6 (X_of_Y0 rfl (Y0_load1 (c := Ti f1.1) (cs := [Ti f1.2.1, Ti f1.2.2]) sc3 rfl (by kernel_rfl))) ?_
     refine XL_takeC _ rfl rfl (by kernel_rfl) hc6 (X_of_Y0 rfl (Y0_gtw (k := .i64) (a := f1.1) (b := 0) rfl (by kernel_rfl) (by kernel_rfl))) ?_
     refine XL_cons rfl (X_of_Y0 rfl (Y0_pick1 (b := b5) (p := ltI 0 f1.1) (q := false) rfl (by kernel_rfl) hc6 (by kernel_rfl))) ?_
     refine L0 rfl rfl (E_assign (Bo (bif b5 then (ltI 0 f1.1) else false)) rfl (by kernel_rfl)) ?_
     refine XL_nil ?_
     kernel_rfl
    ·refine XL_skipT _ rfl rfl (by kernel_rfl) hc6 rfl ?_
     refine XL_skipT _ rfl rfl (by kernel_rfl) hc6 rfl ?_
     refine XL_skipT _ rfl rfl (by kernel_rfl) hc6 rfl ?_
     refine XL_cons rfl (X_of_Y0 rfl (Y0_pick0 (b := b5) (p := ltI 0 f1.1) (q := false) rfl (by kernel_rfl) hc6 (by kernel_rfl))) ?_
     refine L0 rfl rfl (E_assign (Bo (bif b5 then (ltI 0 f1.1) else false)) rfl (by kernel_rfl)) ?_
     refine XL_nil ?_
     kernel_rfl
   ·have hb5 := some_inj (of_false hb5 hc3)
    refine XL_skipT _ rfl rfl (by kernel_rfl) hc3 rfl ?_
    refine XL_skipT _ rfl rfl (by kernel_rfl) hc3 rfl ?_
    refine XL_skipT _ rfl rfl (by kernel_rfl) hc3 rfl ?_
    refine XL_cons rfl (X_of_Y0 rfl (Y0_pickFe (b := y2) (p := false) rfl (by kernel_rfl) hc3 (by kernel_rfl) hb5)) ?_
    refine L0 rfl rfl (E_move (Bo b5) rfl (by kernel_rfl)) ?_
    refine XL_split b5 (fun hc6 => ?_) (fun hc6 => ?_)
    ·refine XL_takeC _ rfl rfl (by kernel_rfl) hc6 (X_of_Y0 rfl (E_field (.pt 8 0) Try.underlying43 rfl sz3 rfl (by kernel_rfl) (by intro hh; cases hh))) ?_
     refine XL_takeC _ rfl rfl (by kernel_rfl) hc6 (X_of_Y0 rfl (Y0_load1 (c := Ti f1.1) (cs := [Ti f1.2.1, Ti f1.2.2]) sc3 rfl (by kernel_rfl))) ?_
     refine XL_takeC _ rfl rfl (by kernel_rfl) hc6 (X_of_Y0 rfl (Y0_gtw (k := .i64) (a := f1.1) (b := 0) rfl (by kernel_rfl) (by kernel_rfl))) ?_
     refine XL_cons rfl (X_of_Y0 rfl (Y0_pick1 (b := b5) (p := ltI 0 f1.1) (q := false) rfl (by kernel_rfl) hc6 (by kernel_rfl))) ?_
     refine L0 rfl rfl (E_assign (Bo (bif b5 then (ltI 0 f1.1) else false)) rfl (by kernel_rfl)) ?_
     refine XL_nil ?_
     kernel_rfl
    ·refine XL_skipT _ rfl rfl (by kernel_rfl) hc6 rfl ?_
     refine XL_skipT _ rfl rfl (by kernel_rfl) hc6 rfl ?_
     refine XL_skipT _ rfl rfl (by kernel_rfl) hc6 rfl ?_
     refine XL_cons rfl (X_of_Y0 rfl (Y0_pick0 (b := b5) (p := ltI 0 f1.1) (q := false) rfl (by kernel_rfl) hc6 (by kernel_rfl))) ?_
     refine L0 rfl rfl (E_assign (Bo (bif b5 then (ltI 0 f1.1) else false)) rfl (by kernel_rfl)) ?_
     refine XL_nil ?_
     kernel_rfl
  refine V_ret ?_
  obtain rfl := some_inj h
  show Post _ _ _ _ _
  exact ⟨.inr rfl, rfl, rfl, rfl⟩
theorem cf_impl_isShownForm : ∀ args w, (callFunc 116 args).run Try.prog w = .ok (.enter 116 args) w := run_callFunc Try.func116 (by kernel_rfl) (by kernel_rfl)
set_option maxRecDepth 100000 in
set_option maxHeartbeats 400000 in
theorem s_impl_isShownForm {f1 : (Int × Int × Int)} {r : Bool} (h : r_impl_isShownForm f1 = some r) : CallS Try.prog 116 [.ag [Ti f1.1, Ti f1.2.1, Ti f1.2.2]] (Bo r) [] := by
  refine CallS_of_text (rs := [.t 2]) (vs := [.tmp 2]) Try.func116 rfl rfl (.cons rfl FitsL.nil) (by decide) 10 rfl ?_
  unfold r_impl_isShownForm at h
  show V _ _ ⟨.ag [Ti f1.1, Ti f1.2.1, Ti f1.2.2] :: bt 9 [], []⟩ _
  refine V_sreg (mb 10 2) [8] (s1 := ⟨.bot :: .pt 8 0 :: bt 8 [], [(8, .box [Ti f1.1, Ti f1.2.1, Ti f1.2.2])]⟩) ?_ ?_
  ·refine L1 rfl rfl (Y1_box (cs := [Ti f1.1, Ti f1.2.1, Ti f1.2.2]) rfl (by kernel_rfl)) ?_
   refine L0 rfl rfl (E_assign (Bo false) rfl (by kernel_rfl)) ?_
   refine XL_nil ?_
   kernel_rfl
  obtain ⟨y2, hy2, h⟩ := of_bind h
  obtain ⟨b5, hb5, h⟩ := of_bind h
  refine V_sreg (mb 10 4) [] (s1 := ⟨.bot :: .bot :: Bo b5 :: bt 7 [], []⟩) ?_ ?_
  ·refine L0 rfl rfl (E_loadn (cs := [Ti f1.1, Ti f1.2.1, Ti f1.2.2]) [Ti f1.1, Ti f1.2.1, Ti f1.2.2] wd43 rfl (by kernel_rfl) (Nat.le_of_ble_eq_true rfl) (by kernel_rfl)) ?_
   refine L1 rfl rfl (Y1_call (s_impl_isDefinite hy2) cf_impl_isDefinite rfl (by kernel_rfl)) ?_
   refine L0 rfl rfl (E_move (Bo y2) rfl (by kernel_rfl)) ?_
   refine XL_split y2 (fun hc3 => ?_) (fun hc3 => ?_)
   ·have hb5 := of_true hb5 hc3
    obtain ⟨y4, hy4, hb5⟩ := of_bind hb5
    have hb5 := some_inj hb5
    refine XL_takeC _ rfl rfl (by kernel_rfl) hc3 (X_of_Y0 rfl (E_loadn (cs := [Ti f1.1, Ti f1.2.1, Ti f1.2.2]) [Ti f1.1, Ti f1.2.1, Ti f1.2.2] wd43 rfl (by kernel_rfl) (Nat.le_of_ble_eq_true rfl) (by kernel_rfl))) ?_
    refine XL_takeC _ rfl rfl (by kernel_rfl) hc3 (X_of_Y1 rfl (Y1_call (s_impl_Form_disc hy4) cf_impl_Form_disc rfl (by kernel_rfl))) ?_
    refine XL_takeC _ rfl rfl (by kernel_rfl) hc3 (X_of_Y0 rfl (Y0_gew (k := .i64) (a := y4) (b := -2000) rfl (by kernel_rfl) (by kernel_rfl))) ?_
    refine XL_cons rfl (X_of_Y0 rfl (Y0_pickTe (b := y2) (p := leI (-2000) y4) rfl (by kernel_rfl) hc3 (by kernel_rfl) hb5)) ?_
    refine L0 rfl rfl (E_assign (Bo b5) rfl (by kernel_rfl)) ?_
    refine XL_nil ?_
    kernel_rfl
   ·have hb5 := some_inj (of_false hb5 hc3)
    refine XL_skipT _ rfl rfl (by kernel_rfl) hc3 rfl ?_
    refine XL_skipT _ rfl rfl (by kernel_rfl) hc3 rfl ?_
    refine XL_skipT _ rfl rfl (by kernel_rfl) hc3 rfl ?_
    refine XL_cons rfl (X_of_Y0 rfl (Y0_pickFe (b := y2) (p := false) rfl (by kernel_rfl) hc3 (by kernel_rfl) hb5)) ?_
    refine L0 rfl rfl (E_assign (Bo b5) rfl (by kernel_rfl)) ?_
    refine XL_nil ?_
    kernel_rfl
  refine V_ret ?_
  obtain rfl := some_inj h
  show Post _ _ _ _ _
  exact ⟨.inr rfl, rfl, rfl, rfl⟩
theorem cf_impl_root : ∀ args w, (callFunc 121 args).run Try.prog w = .ok (.enter 121 args) w := run_callFunc Try.func121 (by kernel_rfl) (by kernel_rfl)
set_option maxRecDepth 100000 in
set_option maxHeartbeats 400000 in
theorem s_impl_root {vn1 : Int} {r : Int} (h : r_impl_root vn1 = some r) : CallS Try.prog 121 [I vn1] (I r) [] := by
  refine CallS_of_text (rs := [.t 2]) (vs := [.tmp 2]) Try.func121 rfl rfl (.cons rfl FitsL.nil) (by decide) 23 rfl ?_
  unfold r_impl_root at h
  show V _ _ ⟨I vn1 :: bt 22 [], []⟩ _
  refine V_sreg (mb 23 1) [] (s1 := ⟨I vn1 :: bt 22 [], []⟩) ?_ ?_
  ·refine L0 rfl rfl (E_assign (I 0) rfl (by kernel_rfl)) ?_
   refine XL_nil ?_
   kernel_rfl
  refine V_sreg (mb 23 25) [] (s1 := ⟨I vn1 :: .bot :: .bot :: I 0 :: I 3000000000 :: bt 18 [], []⟩) ?_ ?_
  ·refine L0 rfl rfl (E_assign (I 0) rfl (by kernel_rfl)) ?_
   refine L0 rfl rfl (E_assign (I 3000000000) rfl (by kernel_rfl)) ?_
   refine XL_nil ?_
   kernel_rfl
  refine V_seq ?_
  obtain ⟨o5, hLo5, h⟩ := of_bind h
  refine V_toK (mb 23 8) [] (s1 := ⟨bt 3 (I o5 :: bt 19 []), []⟩) ?_ ?_
  ·clear h
   refine V_block (V_loop (fun n s => ∃ (low2 : Int) (high3 : Int), s.keep (mb 23 25) [] = (⟨I vn1 :: .bot :: .bot :: I low2 :: I high3 :: bt 18 [], []⟩ : St) ∧ r_impl_root_L4 vn1 n low2 high3 = some o5) FU ⟨_, _,  by rfl, hLo5⟩ ?_)
   clear hLo5
   rintro n s ⟨low2, high3, hs, h⟩
   refine V_keep _ _ hs ?_
   clear hs
   cases n with
   | zero => cases h
   | succ n =>
    rw [r_impl_root_L4] at h
    refine V_seq ?_
    refine V_sreg (mb 23 281) [] (s1 := ⟨I vn1 :: .bot :: .bot :: I low2 :: I high3 :: bt 3 (Bo (ltI low2 high3) :: bt 14 []), []⟩) ?_ ?_
    ·refine L0 rfl rfl (E_move (I low2) rfl (by kernel_rfl)) ?_
     refine L0 rfl rfl (E_move (I high3) rfl (by kernel_rfl)) ?_
     refine L0 rfl rfl (Y0_ltw (k := .i64) (a := low2) (b := high3) rfl (by kernel_rfl) (by kernel_rfl)) ?_
     refine XL_nil ?_
     kernel_rfl
    refine V_cond rfl (fun hc6 => ?_) (fun hc6 => ?_)
    ·have h := of_true h hc6
     refine V_skip ?_
     show V _ _ _ _
     refine V_block ?_
     obtain ⟨vm7, hvm7, h⟩ := of_sI h
     refine V_sreg (mb 23 57) [] (s1 := ⟨I vn1 :: .bot :: .bot :: I low2 :: I high3 :: I vm7 :: bt 17 [], []⟩) ?_ ?_
     ·refine L0 rfl rfl (E_move (I low2) rfl (by kernel_rfl)) ?_
      refine L0 rfl rfl (E_move (I high3) rfl (by kernel_rfl)) ?_
      refine L0 rfl rfl (Y0_add64 (a := low2) (b := high3) rfl (by kernel_rfl) (by kernel_rfl)) ?_
      refine L0 rfl rfl (Y0_add64 (a := w64 (low2 + high3)) (b := 1) rfl (by kernel_rfl) (by kernel_rfl)) ?_
      refine L0 rfl rfl (Y0_quo64 (a := w64 ((w64 (low2 + high3)) + 1)) (b := 2) rfl (by kernel_rfl) (by kernel_rfl) (by decide)) ?_
      refine L0 rfl rfl (E_assign (I (w64 (Int.tdiv (w64 ((w64 (low2 + high3)) + 1)) 2))) rfl (by kernel_rfl)) ?_
      refine XL_nil ?_
      subst hvm7
      kernel_rfl
     refine V_sreg (mb 23 262201) [] (s1 := ⟨I vn1 :: .bot :: .bot :: I low2 :: I high3 :: I vm7 :: bt 12 (Bo (leI (w64 (vm7 * vm7)) vn1) :: bt 4 []), []⟩) ?_ ?_
     ·refine L0 rfl rfl (E_move (I vm7) rfl (by kernel_rfl)) ?_
      refine L0 rfl rfl (E_move (I vm7) rfl (by kernel_rfl)) ?_
      refine L0 rfl rfl (Y0_mul64 (a := vm7) (b := vm7) rfl (by kernel_rfl) (by kernel_rfl)) ?_
      refine L0 rfl rfl (E_move (I vn1) rfl (by kernel_rfl)) ?_
      refine L0 rfl rfl (Y0_lew (k := .i64) (a := w64 (vm7 * vm7)) (b := vn1) rfl (by kernel_rfl) (by kernel_rfl)) ?_
      refine XL_nil ?_
      kernel_rfl
     refine V_cond rfl (fun hc8 => ?_) (fun hc8 => ?_)
     ·have h := of_true h hc8
      refine V_reg (mb 23 25) [] (s1 := ⟨I vn1 :: .bot :: .bot :: I vm7 :: I high3 :: bt 18 [], []⟩) ?_ ?_
      ·refine L0 rfl rfl (E_move (I vm7) rfl (by kernel_rfl)) ?_
       refine L0 rfl rfl (E_assign (I vm7) rfl (by kernel_rfl)) ?_
       refine XL_nil ?_
       kernel_rfl
      exact ⟨n, Nat.lt_succ_self n, _, _,  by rfl, h⟩
     ·have h := of_false h hc8
      obtain ⟨high9, hhigh9, h⟩ := of_sI h
      refine V_reg (mb 23 25) [] (s1 := ⟨I vn1 :: .bot :: .bot :: I low2 :: I high9 :: bt 18 [], []⟩) ?_ ?_
      ·refine L0 rfl rfl (E_move (I vm7) rfl (by kernel_rfl)) ?_
       refine L0 rfl rfl (Y0_sub64 (a := vm7) (b := 1) rfl (by kernel_rfl) (by kernel_rfl)) ?_
       refine L0 rfl rfl (E_assign (I (w64 (vm7 - 1))) rfl (by kernel_rfl)) ?_
       refine XL_nil ?_
       subst hhigh9
       kernel_rfl
      exact ⟨n, Nat.lt_succ_self n, _, _,  by rfl, h⟩
    ·have h := of_false h hc6
     refine V_exit ?_
     obtain rfl := some_inj h
     show St.keep _ _ _ = _
     rfl
  show V _ _ _ _
  refine V_sreg (mb 23 4) [] (s1 := ⟨.bot :: .bot :: I o5 :: bt 20 [], []⟩) ?_ ?_
  ·refine L0 rfl rfl (E_move (I o5) rfl (by kernel_rfl)) ?_
   refine L0 rfl rfl (E_assign (I o5) rfl (by kernel_rfl)) ?_
   refine XL_nil ?_
   kernel_rfl
  refine V_ret ?_
  obtain rfl := some_inj h
  show Post _ _ _ _ _
  exact ⟨.inr rfl, rfl, rfl, rfl⟩
theorem cf_impl_isSquare : ∀ args w, (callFunc 91 args).run Try.prog w = .ok (.enter 91 args) w := run_callFunc Try.func91 (by kernel_rfl) (by kernel_rfl)
set_option maxRecDepth 100000 in
set_option maxHeartbeats 400000 in
theorem s_impl_isSquare {vn1 : Int} {r : Bool} (h : r_impl_isSquare vn1 = some r) : CallS Try.prog 91 [I vn1] (Bo r) [] := by
  refine CallS_of_text (rs := [.t 2]) (vs := [.tmp 2]) Try.func91 rfl rfl (.cons rfl FitsL.nil) (by decide) 14 rfl ?_
  unfold r_impl_isSquare at h
  show V _ _ ⟨I vn1 :: bt 13 [], []⟩ _
  refine V_sreg (mb 14 1) [] (s1 := ⟨I vn1 :: bt 13 [], []⟩) ?_ ?_
  ·refine L0 rfl rfl (E_assign (Bo false) rfl (by kernel_rfl)) ?_
   refine XL_nil ?_
   kernel_rfl
  obtain ⟨b5, hb5, h⟩ := of_bind h
  refine V_sreg (mb 14 4) [] (s1 := ⟨.bot :: .bot :: Bo b5 :: bt 11 [], []⟩) ?_ ?_
  ·refine L0 rfl rfl (E_move (I vn1) rfl (by kernel_rfl)) ?_
   refine L0 rfl rfl (Y0_gew (k := .i64) (a := vn1) (b := 0) rfl (by kernel_rfl) (by kernel_rfl)) ?_
   refine L0 rfl rfl (E_move (Bo (leI 0 vn1)) rfl (by kernel_rfl)) ?_
   refine XL_split (leI 0 vn1) (fun hc2 => ?_) (fun hc2 => ?_)
   ·have hb5 := of_true hb5 hc2
    obtain ⟨y3, hy3, hb5⟩ := of_bind hb5
    obtain ⟨y4, hy4, hb5⟩ := of_bind hb5
    have hb5 := some_inj hb5
    refine XL_takeC _ rfl rfl (by kernel_rfl) hc2 (X_of_Y0 rfl (E_move (I vn1) rfl (by kernel_rfl))) ?_
    refine XL_takeC _ rfl rfl (by kernel_rfl) hc2 (X_of_Y1 rfl (Y1_call (s_impl_root hy3) cf_impl_root rfl (by kernel_rfl))) ?_
    refine XL_takeC _ rfl rfl (by kernel_rfl) hc2 (X_of_Y0 rfl (E_move (I vn1) rfl (by kernel_rfl))) ?_
    refine XL_takeC _ rfl rfl (by kernel_rfl) hc2 (X_of_Y1 rfl (Y1_call (s_impl_root hy4) cf_impl_root rfl (by kernel_rfl))) ?_
    refine XL_takeC _ rfl rfl (by kernel_rfl) hc2 (X_of_Y0 rfl (Y0_mul64 (a := y3) (b := y4) rfl (by kernel_rfl) (by kernel_rfl))) ?_
    refine XL_takeC _ rfl rfl (by kernel_rfl) hc2 (X_of_Y0 rfl (E_move (I vn1) rfl (by kernel_rfl))) ?_
    refine XL_takeC _ rfl rfl (by kernel_rfl) hc2 (X_of_Y0 rfl (Y0_eqw (k := .i64) (a := w64 (y3 * y4)) (b := vn1) rfl (by kernel_rfl) (by kernel_rfl))) ?_
    refine XL_cons rfl (X_of_Y0 rfl (Y0_pickTe (b := leI 0 vn1) (p := eqI (w64 (y3 * y4)) vn1) rfl (by kernel_rfl) hc2 (by kernel_rfl) hb5)) ?_
    refine L0 rfl rfl (E_assign (Bo b5) rfl (by kernel_rfl)) ?_
    refine XL_nil ?_
    kernel_rfl
   ·have hb5 := some_inj (of_false hb5 hc2)
    refine XL_skipT _ rfl rfl (by kernel_rfl) hc2 rfl ?_
    refine XL_skipT _ rfl rfl (by kernel_rfl) hc2 rfl ?_
    refine XL_skipT _ rfl rfl (by kernel_rfl) hc2 rfl ?_
    refine XL_skipT _ rfl rfl (by kernel_rfl) hc2 rfl ?_
    refine XL_skipT _ rfl rfl (by kernel_rfl) hc2 rfl ?_
    refine XL_skipT _ rfl rfl (by kernel_rfl) hc2 rfl ?_
    refine XL_skipT _ rfl rfl (by kernel_rfl) hc2 rfl ?_
    refine XL_cons rfl (X_of_Y0 rfl (Y0_pickFe (b := leI 0 vn1) (p := false) rfl (by kernel_rfl) hc2 (by kernel_rfl) hb5)) ?_
    refine L0 rfl rfl (E_assign (Bo b5) rfl (by kernel_rfl)) ?_
    refine XL_nil ?_
    kernel_rfl
  refine V_ret ?_
  obtain rfl := some_inj h
  show Post _ _ _ _ _
  exact ⟨.inr rfl, rfl, rfl, rfl⟩
theorem cf_impl_Form_points : ∀ args w, (callFunc 123 args).run Try.prog w = .ok (.enter 123 args) w := run_callFunc Try.func123 (by kernel_rfl) (by kernel_rfl)
set_option maxRecDepth 100000 in
set_option maxHeartbeats 400000 in
theorem s_impl_Form_points {f1 : (Int × Int × Int)} {vn2 : Int} {r : List ((Int × Int))} (h : r_impl_Form_points f1 vn2 = some r) : CallS Try.prog 123 [.ag [Ti f1.1, Ti f1.2.1, Ti f1.2.2], I vn2] (.ow 0) [(0, .arr 97 2 (r.map c97))] := by
  refine CallS_of_text (rs := [.t 4]) (vs := [.tmp 4]) Try.func123 rfl rfl (.cons rfl FitsL.nil) (by decide) 107 rfl ?_
  unfold r_impl_Form_points at h
  show V _ _ ⟨.ag [Ti f1.1, Ti f1.2.1, Ti f1.2.2] :: I vn2 :: bt 105 [], []⟩ _
  refine V_sreg (mb 107 6) [16] (s1 := ⟨.bot :: I vn2 :: .pt 16 0 :: bt 104 [], [(16, .box [Ti f1.1, Ti f1.2.1, Ti f1.2.2])]⟩) ?_ ?_
  ·refine L1 rfl rfl (Y1_box (cs := [Ti f1.1, Ti f1.2.1, Ti f1.2.2]) rfl (by kernel_rfl)) ?_
   refine L1 rfl rfl (Y1_nil (e := 97) 2 (by decide) (.inl rfl)) ?_
   refine XL_nil ?_
   kernel_rfl
  refine V_sreg (mb 107 38) [88, 16] (s1 := ⟨.bot :: I vn2 :: .pt 16 0 :: .bot :: .bot :: .ow 88 :: bt 101 [], [(88, .arr 97 2 ((([] : List ((Int × Int)))).map c97)), (16, .box [Ti f1.1, Ti f1.2.1, Ti f1.2.2])]⟩) ?_ ?_
  ·refine L1 rfl rfl (Y1_bslice0 Try.underlying73 sz97 (by decide) rfl rfl) ?_
   refine L0 rfl rfl (E_assign (.ow 88) rfl (by kernel_rfl)) ?_
   refine XL_nil ?_
   kernel_rfl
  obtain ⟨y3, hy3, h⟩ := of_bind h
  refine V_sreg (mb 107 102) [88, 16] (s1 := ⟨.bot :: I vn2 :: .pt 16 0 :: .bot :: .bot :: .ow 88 :: I y3 :: bt 100 [], [(88, .arr 97 2 ((([] : List ((Int × Int)))).map c97)), (16, .box [Ti f1.1, Ti f1.2.1, Ti f1.2.2])]⟩) ?_ ?_
  ·refine L0 rfl rfl (E_loadn (cs := [Ti f1.1, Ti f1.2.1, Ti f1.2.2]) [Ti f1.1, Ti f1.2.1, Ti f1.2.2] wd43 rfl (by kernel_rfl) (Nat.le_of_ble_eq_true rfl) (by kernel_rfl)) ?_
   refine L1 rfl rfl (Y1_call (s_impl_Form_disc hy3) cf_impl_Form_disc rfl (by kernel_rfl)) ?_
   refine L0 rfl rfl (E_assign (I y3) rfl (by kernel_rfl)) ?_
   refine XL_nil ?_
   kernel_rfl
  obtain ⟨z4, hz4, h⟩ := of_bind h
  obtain ⟨y5, hy5, h⟩ := of_bind h
  refine V_sreg (mb 107 230) [88, 16] (s1 := ⟨.bot :: I vn2 :: .pt 16 0 :: .bot :: .bot :: .ow 88 :: I y3 :: I y5 :: bt 99 [], [(88, .arr 97 2 ((([] : List ((Int × Int)))).map c97)), (16, .box [Ti f1.1, Ti f1.2.1, Ti f1.2.2])]⟩) ?_ ?_
  ·refine L0 rfl rfl (E_field (.pt 16 2) Try.underlying43 rfl sz3 rfl (by kernel_rfl) (by intro hh; cases hh)) ?_
   refine L0 rfl rfl (Y0_load1 (c := Ti f1.2.2) (cs := []) sc3 rfl (by kernel_rfl)) ?_
   refine L0 rfl rfl (Y0_mul64 (a := 4) (b := f1.2.2) rfl (by kernel_rfl) (by kernel_rfl)) ?_
   refine L0 rfl rfl (E_move (I vn2) rfl (by kernel_rfl)) ?_
   refine L0 rfl rfl (Y0_mul64 (a := w64 (4 * f1.2.2)) (b := vn2) rfl (by kernel_rfl) (by kernel_rfl)) ?_
   refine L0 rfl rfl (E_move (I y3) rfl (by kernel_rfl)) ?_
   refine L0 rfl rfl (Y0_neg64 (a := y3) rfl (by kernel_rfl)) ?_
   refine L0 rfl rfl (Y0_quo64 (a := w64 ((w64 (4 * f1.2.2)) * vn2)) (b := w64 (0 - y3)) rfl (by kernel_rfl) (by kernel_rfl) (nz_some hz4)) ?_
   refine L1 rfl rfl (Y1_call (s_impl_root hy5) cf_impl_root rfl (by kernel_rfl)) ?_
   refine L0 rfl rfl (E_assign (I y5) rfl (by kernel_rfl)) ?_
   refine XL_nil ?_
   kernel_rfl
  refine V_seq ?_
  obtain ⟨x6, hx6, h⟩ := of_sI h
  refine V_sreg (mb 107 486) [88, 16] (s1 := ⟨.bot :: I vn2 :: .pt 16 0 :: .bot :: .bot :: .ow 88 :: I y3 :: I y5 :: I x6 :: bt 98 [], [(88, .arr 97 2 ((([] : List ((Int × Int)))).map c97)), (16, .box [Ti f1.1, Ti f1.2.1, Ti f1.2.2])]⟩) ?_ ?_
  ·refine L0 rfl rfl (E_move (I y5) rfl (by kernel_rfl)) ?_
   refine L0 rfl rfl (Y0_neg64 (a := y5) rfl (by kernel_rfl)) ?_
   refine L0 rfl rfl (E_assign (I (w64 (0 - y5))) rfl (by kernel_rfl)) ?_
   refine XL_nil ?_
   subst hx6
   kernel_rfl
  obtain ⟨o10, hLo10, h⟩ := of_bind h
  refine V_toK (mb 107 32) [88] (s1 := ⟨bt 5 (.ow 88 :: bt 101 []), [(88, .arr 97 2 (o10.map c97))]⟩) ?_ ?_
  ·clear h
   refine V_block (V_loop (fun n s => ∃ (x7 : Int) (l8 : List ((Int × Int))), s.keep (mb 107 486) [88, 16] = (⟨.bot :: I vn2 :: .pt 16 0 :: .bot :: .bot :: .ow 88 :: I y3 :: I y5 :: I x7 :: bt 98 [], [(88, .arr 97 2 (l8.map c97)), (16, .box [Ti f1.1, Ti f1.2.1, Ti f1.2.2])]⟩ : St) ∧ r_impl_Form_points_L9 f1 vn2 y3 y5 n x7 l8 = some o10) FU ⟨_, _,  by rfl, hLo10⟩ ?_)
   clear hLo10
   rintro n s ⟨x7, l8, hs, h⟩
   refine V_keep _ _ hs ?_
   clear hs
   cases n with
   | zero => cases h
   | succ n =>
    rw [r_impl_Form_points_L9] at h
    refine V_seq ?_
    refine V_sreg (mb 107 134218214) [88, 16] (s1 := ⟨.bot :: I vn2 :: .pt 16 0 :: .bot :: .bot :: .ow 88 :: I y3 :: I y5 :: I x7 :: bt 18 (Bo (leI x7 y5) :: bt 79 []), [(88, .arr 97 2 (l8.map c97)), (16, .box [Ti f1.1, Ti f1.2.1, Ti f1.2.2])]⟩) ?_ ?_
    ·refine L0 rfl rfl (E_move (I x7) rfl (by kernel_rfl)) ?_
     refine L0 rfl rfl (E_move (I y5) rfl (by kernel_rfl)) ?_
     refine L0 rfl rfl (Y0_lew (k := .i64) (a := x7) (b := y5) rfl (by kernel_rfl) (by kernel_rfl)) ?_
     refine XL_nil ?_
     kernel_rfl
    refine V_cond rfl (fun hc11 => ?_) (fun hc11 => ?_)
    ·have h := of_true h hc11
     refine V_skip ?_
     show V _ _ _ _
     refine V_seq ?_
     refine V_block ?_
     obtain ⟨square12, hsquare12, h⟩ := of_sI h
     refine V_sreg (mb 107 998) [88, 16] (s1 := ⟨.bot :: I vn2 :: .pt 16 0 :: .bot :: .bot :: .ow 88 :: I y3 :: I y5 :: I x7 :: I square12 :: bt 97 [], [(88, .arr 97 2 (l8.map c97)), (16, .box [Ti f1.1, Ti f1.2.1, Ti f1.2.2])]⟩) ?_ ?_
     ·refine L0 rfl rfl (E_move (I y3) rfl (by kernel_rfl)) ?_
      refine L0 rfl rfl (E_move (I x7) rfl (by kernel_rfl)) ?_
      refine L0 rfl rfl (Y0_mul64 (a := y3) (b := x7) rfl (by kernel_rfl) (by kernel_rfl)) ?_
      refine L0 rfl rfl (E_move (I x7) rfl (by kernel_rfl)) ?_
      refine L0 rfl rfl (Y0_mul64 (a := w64 (y3 * x7)) (b := x7) rfl (by kernel_rfl) (by kernel_rfl)) ?_
      refine L0 rfl rfl (E_field (.pt 16 2) Try.underlying43 rfl sz3 rfl (by kernel_rfl) (by intro hh; cases hh)) ?_
      refine L0 rfl rfl (Y0_load1 (c := Ti f1.2.2) (cs := []) sc3 rfl (by kernel_rfl)) ?_
      refine L0 rfl rfl (Y0_mul64 (a := 4) (b := f1.2.2) rfl (by kernel_rfl) (by kernel_rfl)) ?_
      refine L0 rfl rfl (E_move (I vn2) rfl (by kernel_rfl)) ?_
      refine L0 rfl rfl (Y0_mul64 (a := w64 (4 * f1.2.2)) (b := vn2) rfl (by kernel_rfl) (by kernel_rfl)) ?_
      refine L0 rfl rfl (Y0_add64 (a := w64 ((w64 (y3 * x7)) * x7)) (b := w64 ((w64 (4 * f1.2.2)) * vn2)) rfl (by kernel_rfl) (by kernel_rfl)) ?_
      refine L0 rfl rfl (E_assign (I (w64 ((w64 ((w64 (y3 * x7)) * x7)) + (w64 ((w64 (4 * f1.2.2)) * vn2))))) rfl (by kernel_rfl)) ?_
      refine XL_nil ?_
      subst hsquare12
      kernel_rfl
     refine V_seq ?_
     obtain ⟨y13, hy13, h⟩ := of_bind h
     refine V_sreg (mb 107 8796093023206) [88, 16] (s1 := ⟨.bot :: I vn2 :: .pt 16 0 :: .bot :: .bot :: .ow 88 :: I y3 :: I y5 :: I x7 :: I square12 :: bt 33 (Bo (!y13) :: bt 63 []), [(88, .arr 97 2 (l8.map c97)), (16, .box [Ti f1.1, Ti f1.2.1, Ti f1.2.2])]⟩) ?_ ?_
     ·refine L0 rfl rfl (E_move (I square12) rfl (by kernel_rfl)) ?_
      refine L1 rfl rfl (Y1_call (s_impl_isSquare hy13) cf_impl_isSquare rfl (by kernel_rfl)) ?_
      refine L0 rfl rfl (Y0_not (b := y13) rfl (by kernel_rfl)) ?_
      refine XL_nil ?_
      kernel_rfl
     refine V_cond rfl (fun hc14 => ?_) (fun hc14 => ?_)
     ·have h := of_true h hc14
      refine V_exit ?_
      show V _ _ _ _
      obtain ⟨x15, hx15, h⟩ := of_sI h
      refine V_reg (mb 107 486) [88, 16] (s1 := ⟨.bot :: I vn2 :: .pt 16 0 :: .bot :: .bot :: .ow 88 :: I y3 :: I y5 :: I x15 :: bt 98 [], [(88, .arr 97 2 (l8.map c97)), (16, .box [Ti f1.1, Ti f1.2.1, Ti f1.2.2])]⟩) ?_ ?_
      ·refine L0 rfl rfl (E_move (I x7) rfl (by kernel_rfl)) ?_
       refine L0 rfl rfl (Y0_add64 (a := x7) (b := 1) rfl (by kernel_rfl) (by kernel_rfl)) ?_
       refine L0 rfl rfl (E_assign (I (w64 (x7 + 1))) rfl (by kernel_rfl)) ?_
       refine XL_nil ?_
       subst hx15
       kernel_rfl
      exact ⟨n, Nat.lt_succ_self n, _, _,  by rfl, h⟩
     ·have h := of_false h hc14
      refine V_skip ?_
      show V _ _ _ _
      obtain ⟨y16, hy16, h⟩ := of_bind h
      refine V_sreg (mb 107 1510) [88, 16] (s1 := ⟨.bot :: I vn2 :: .pt 16 0 :: .bot :: .bot :: .ow 88 :: I y3 :: I y5 :: I x7 :: .bot :: I y16 :: bt 96 [], [(88, .arr 97 2 (l8.map c97)), (16, .box [Ti f1.1, Ti f1.2.1, Ti f1.2.2])]⟩) ?_ ?_
      ·refine L0 rfl rfl (E_move (I square12) rfl (by kernel_rfl)) ?_
       refine L1 rfl rfl (Y1_call (s_impl_root hy16) cf_impl_root rfl (by kernel_rfl)) ?_
       refine L0 rfl rfl (E_assign (I y16) rfl (by kernel_rfl)) ?_
       refine XL_nil ?_
       kernel_rfl
      obtain ⟨j17, hj17, h⟩ := of_bind h
      refine V_cutK (mb 107 1510) [88, 16] (s1 := ⟨.bot :: I vn2 :: .pt 16 0 :: .bot :: .bot :: .ow 88 :: I y3 :: I y5 :: I x7 :: .bot :: I y16 :: bt 96 [], [(88, .arr 97 2 (j17.map c97)), (16, .box [Ti f1.1, Ti f1.2.1, Ti f1.2.2])]⟩) ?_ ?_
      ·clear h
       have h := hj17
       clear hj17
       obtain ⟨z18, hz18, h⟩ := of_bind h
       obtain ⟨t19, ht19, h⟩ := of_bind h
       have ht19 := some_inj ht19
       refine V_sreg (mb 107 144115188075857382) [88, 16] (s1 := ⟨.bot :: I vn2 :: .pt 16 0 :: .bot :: .bot :: .ow 88 :: I y3 :: I y5 :: I x7 :: .bot :: I y16 :: bt 46 (Bo t19 :: bt 49 []), [(88, .arr 97 2 (l8.map c97)), (16, .box [Ti f1.1, Ti f1.2.1, Ti f1.2.2])]⟩) ?_ ?_
       ·refine L0 rfl rfl (E_field (.pt 16 1) Try.underlying43 rfl sz3 rfl (by kernel_rfl) (by intro hh; cases hh)) ?_
        refine L0 rfl rfl (Y0_load1 (c := Ti f1.2.1) (cs := [Ti f1.2.2]) sc3 rfl (by kernel_rfl)) ?_
        refine L0 rfl rfl (Y0_neg64 (a := f1.2.1) rfl (by kernel_rfl)) ?_
        refine L0 rfl rfl (E_move (I x7) rfl (by kernel_rfl)) ?_
        refine L0 rfl rfl (Y0_mul64 (a := w64 (0 - f1.2.1)) (b := x7) rfl (by kernel_rfl) (by kernel_rfl)) ?_
        refine L0 rfl rfl (E_move (I y16) rfl (by kernel_rfl)) ?_
        refine L0 rfl rfl (Y0_sub64 (a := w64 ((w64 (0 - f1.2.1)) * x7)) (b := y16) rfl (by kernel_rfl) (by kernel_rfl)) ?_
        refine L0 rfl rfl (E_field (.pt 16 2) Try.underlying43 rfl sz3 rfl (by kernel_rfl) (by intro hh; cases hh)) ?_
        refine L0 rfl rfl (Y0_load1 (c := Ti f1.2.2) (cs := []) sc3 rfl (by kernel_rfl)) ?_
        refine L0 rfl rfl (Y0_mul64 (a := 2) (b := f1.2.2) rfl (by kernel_rfl) (by kernel_rfl)) ?_
        refine L0 rfl rfl (Y0_rem (k := .i64) (a := w64 ((w64 ((w64 (0 - f1.2.1)) * x7)) - y16)) (b := w64 (2 * f1.2.2)) rfl (by kernel_rfl) (by kernel_rfl) (nz_some hz18)) ?_
        refine L0 rfl rfl (Y0_eqw (k := .i64) (a := Int.tmod (w64 ((w64 ((w64 (0 - f1.2.1)) * x7)) - y16)) (w64 (2 * f1.2.2))) (b := 0) rfl (by kernel_rfl) (by kernel_rfl)) ?_
        refine XL_nil ?_
        subst ht19
        kernel_rfl
       refine V_cond rfl (fun hc20 => ?_) (fun hc20 => ?_)
       ·have h := of_true h hc20
        obtain ⟨z21, hz21, h⟩ := of_bind h
        obtain ⟨u22, hu22, h⟩ := of_bind h
        obtain ⟨l23, hl23, h⟩ := of_bind h
        have hl23 := some_inj hl23
        refine V_reg (mb 107 1510) [88, 16] (s1 := ⟨.bot :: I vn2 :: .pt 16 0 :: .bot :: .bot :: .ow 88 :: I y3 :: I y5 :: I x7 :: .bot :: I y16 :: bt 96 [], [(88, .arr 97 2 (l23.map c97)), (16, .box [Ti f1.1, Ti f1.2.1, Ti f1.2.2])]⟩) ?_ ?_
        ·refine L0 rfl rfl (E_move (.ow 88) rfl (by kernel_rfl)) ?_
         refine L0 rfl rfl (E_move (I x7) rfl (by kernel_rfl)) ?_
         refine L0 rfl rfl (E_field (.pt 16 1) Try.underlying43 rfl sz3 rfl (by kernel_rfl) (by intro hh; cases hh)) ?_
         refine L0 rfl rfl (Y0_load1 (c := Ti f1.2.1) (cs := [Ti f1.2.2]) sc3 rfl (by kernel_rfl)) ?_
         refine L0 rfl rfl (Y0_neg64 (a := f1.2.1) rfl (by kernel_rfl)) ?_
         refine L0 rfl rfl (E_move (I x7) rfl (by kernel_rfl)) ?_
         refine L0 rfl rfl (Y0_mul64 (a := w64 (0 - f1.2.1)) (b := x7) rfl (by kernel_rfl) (by kernel_rfl)) ?_
         refine L0 rfl rfl (E_move (I y16) rfl (by kernel_rfl)) ?_
         refine L0 rfl rfl (Y0_sub64 (a := w64 ((w64 (0 - f1.2.1)) * x7)) (b := y16) rfl (by kernel_rfl) (by kernel_rfl)) ?_
         refine L0 rfl rfl (E_field (.pt 16 2) Try.underlying43 rfl sz3 rfl (by kernel_rfl) (by intro hh; cases hh)) ?_
         refine L0 rfl rfl (Y0_load1 (c := Ti f1.2.2) (cs := []) sc3 rfl (by kernel_rfl)) ?_
         refine L0 rfl rfl (Y0_mul64 (a := 2) (b := f1.2.2) rfl (by kernel_rfl) (by kernel_rfl)) ?_
         refine L0 rfl rfl (Y0_quo64 (a := w64 ((w64 ((w64 (0 - f1.2.1)) * x7)) - y16)) (b := w64 (2 * f1.2.2)) rfl (by kernel_rfl) (by kernel_rfl) (nz_some hz21)) ?_
         refine L0 rfl rfl (Y0_build (cs := [Ti x7, Ti (w64 (Int.tdiv (w64 ((w64 ((w64 (0 - f1.2.1)) * x7)) - y16)) (w64 (2 * f1.2.2))))]) pl97 bt97 rfl rfl (by kernel_rfl)) ?_
         refine L1 rfl rfl (Y1_bslice (z := zv97) (els := [(x7, w64 (Int.tdiv (w64 ((w64 ((w64 (0 - f1.2.1)) * x7)) - y16)) (w64 (2 * f1.2.2))))].map c97) Try.underlying73 iz97 rfl (by decide) rfl (by kernel_rfl) rfl (by simp [c97]) (by decide) (by decide)) ?_
         refine XL_cons rfl (X_appendM (c := c97) (xs := l8) (ys := [(x7, w64 (Int.tdiv (w64 ((w64 ((w64 (0 - f1.2.1)) * x7)) - y16)) (w64 (2 * f1.2.2))))]) (id := 88) (z := zv97) rfl rfl Try.underlying73 izb97 rfl (by kernel_rfl) (by kernel_rfl) (by kernel_rfl) (fun _ => rfl) (by simp) (room_some hu22) (by decide)) ?_
         refine L0 rfl rfl (E_assign (.ow 88) rfl (by kernel_rfl)) ?_
         refine XL_nil ?_
         subst hl23
         kernel_rfl
        obtain rfl := some_inj h
        show St.keep _ _ _ = _
        rfl
       ·have h := of_false h hc20
        refine V_skip ?_
        obtain rfl := some_inj h
        show St.keep _ _ _ = _
        rfl
      obtain ⟨b26, hb26, h⟩ := of_bind h
      refine V_sreg (mb 107 618970019642690137449563622) [88, 16] (s1 := ⟨.bot :: I vn2 :: .pt 16 0 :: .bot :: .bot :: .ow 88 :: I y3 :: I y5 :: I x7 :: .bot :: I y16 :: bt 78 (Bo b26 :: bt 17 []), [(88, .arr 97 2 (j17.map c97)), (16, .box [Ti f1.1, Ti f1.2.1, Ti f1.2.2])]⟩) ?_ ?_
      ·refine L0 rfl rfl (E_move (I y16) rfl (by kernel_rfl)) ?_
       refine L0 rfl rfl (Y0_gtw (k := .i64) (a := y16) (b := 0) rfl (by kernel_rfl) (by kernel_rfl)) ?_
       refine L0 rfl rfl (E_move (Bo (ltI 0 y16)) rfl (by kernel_rfl)) ?_
       refine XL_split (ltI 0 y16) (fun hc24 => ?_) (fun hc24 => ?_)
       ·have hb26 := of_true hb26 hc24
        obtain ⟨z25, hz25, hb26⟩ := of_bind hb26
        have hb26 := some_inj hb26
        refine XL_takeC _ rfl rfl (by kernel_rfl) hc24 (X_of_Y0 rfl (E_field (.pt 16 1) Try.underlying43 rfl sz3 rfl (by kernel_rfl) (by intro hh; cases hh))) ?_
        refine XL_takeC _ rfl rfl (by kernel_rfl) hc24 (X_of_Y0 rfl (Y0_load1 (c := Ti f1.2.1) (cs := [Ti f1.2.2]) sc3 rfl (by kernel_rfl))) ?_
        refine XL_takeC _ rfl rfl (by kernel_rfl) hc24 (X_of_Y0 rfl (Y0_neg64 (a := f1.2.1) rfl (by kernel_rfl))) ?_
        refine XL_takeC _ rfl rfl (by kernel_rfl) hc24 (X_of_Y0 rfl (E_move (I x7) rfl (by kernel_rfl))) ?_
        refine XL_takeC _ rfl rfl (by kernel_rfl) hc24 (X_of_Y0 rfl (Y0_mul64 (a := w64 (0 - f1.2.1)) (b := x7) rfl (by kernel_rfl) (by kernel_rfl))) ?_
        refine XL_takeC _ rfl rfl (by kernel_rfl) hc24 (X_of_Y0 rfl (E_move (I y16) rfl (by kernel_rfl))) ?_
        refine XL_takeC _ rfl rfl (by kernel_rfl) hc24 (X_of_Y0 rfl (Y0_add64 (a := w64 ((w64 (0 - f1.2.1)) * x7)) (b := y16) rfl (by kernel_rfl) (by kernel_rfl))) ?_
        refine XL_takeC _ rfl rfl (by kernel_rfl) hc24 (X_of_Y0 rfl (E_field (.pt 16 2) Try.underlying43 rfl sz3 rfl (by kernel_rfl) (by intro hh; cases hh))) ?_
        refine XL_takeC _ rfl rfl (by kernel_rfl) hc24 (X_of_Y0 rfl (Y0_load1 (c := Ti f1.2.2) (cs := []) sc3 rfl (by kernel_rfl))) ?_
        refine XL_takeC _ rfl rfl (by kernel_rfl) hc24 (X_of_Y0 rfl (Y0_mul64 (a := 2) (b := f1.2.2) rfl (by kernel_rfl) (by kernel_rfl))) ?_
        refine XL_takeC _ rfl rfl (by kernel_rfl) hc24 (X_of_Y0 rfl (Y0_rem (k := .i64) (a := w64 ((w64 ((w64 (0 - f1.2.1)) * x7)) + y16)) (b := w64 (2 * f1.2.2)) rfl (by kernel_rfl) (by kernel_rfl) (nz_some hz25))) ?_
        refine XL_takeC _ rfl rfl (by kernel_rfl) hc24 (X_of_Y0 rfl (Y0_eqw (k := .i64) (a := Int.tmod (w64 ((w64 ((w64 (0 - f1.2.1)) * x7)) + y16)) (w64 (2 * f1.2.2))) (b := 0) rfl (by kernel_rfl) (by kernel_rfl))) ?_
        refine XL_cons rfl (X_of_Y0 rfl (Y0_pickTe (b := ltI 0 y16) (p := eqI (Int.tmod (w64 ((w64 ((w64 (0 - f1.2.1)) * x7)) + y16)) (w64 (2 * f1.2.2))) 0) rfl (by kernel_rfl) hc24 (by kernel_rfl) hb26)) ?_
        refine XL_nil ?_
        kernel_rfl
       ·have hb26 := some_inj (of_false hb26 hc24)
        refine XL_skipT _ rfl rfl (by kernel_rfl) hc24 rfl ?_
        refine XL_skipT _ rfl rfl (by kernel_rfl) hc24 rfl ?_
        refine XL_skipT _ rfl rfl (by kernel_rfl) hc24 rfl ?_
        refine XL_skipT _ rfl rfl (by kernel_rfl) hc24 rfl ?_
        refine XL_skipT _ rfl rfl (by kernel_rfl) hc24 rfl ?_
        refine XL_skipT _ rfl rfl (by kernel_rfl) hc24 rfl ?_
        refine XL_skipT _ rfl rfl (by kernel_rfl) hc24 rfl ?_
        refine XL_skipT _ rfl rfl (by kernel_rfl) hc24 rfl ?_
        refine XL_skipT _ rfl rfl (by kernel_rfl) hc24 rfl ?_
        refine XL_skipT _ rfl rfl (by kernel_rfl) hc24 rfl ?_
        refine XL_skipT _ rfl rfl (by kernel_rfl) hc24 rfl ?_
        refine XL_skipT _ rfl rfl (by kernel_rfl) hc24 rfl ?_
        refine XL_cons rfl (X_of_Y0 rfl (Y0_pickFe (b := ltI 0 y16) (p := false) rfl (by kernel_rfl) hc24 (by kernel_rfl) hb26)) ?_
        refine XL_nil ?_
        kernel_rfl
      refine V_cond rfl (fun hc27 => ?_) (fun hc27 => ?_)
      ·have h := of_true h hc27
       obtain ⟨z28, hz28, h⟩ := of_bind h
       obtain ⟨u29, hu29, h⟩ := of_bind h
       obtain ⟨l30, hl30, h⟩ := of_bind h
       have hl30 := some_inj hl30
       refine V_reg (mb 107 486) [88, 16] (s1 := ⟨.bot :: I vn2 :: .pt 16 0 :: .bot :: .bot :: .ow 88 :: I y3 :: I y5 :: I x7 :: bt 98 [], [(88, .arr 97 2 (l30.map c97)), (16, .box [Ti f1.1, Ti f1.2.1, Ti f1.2.2])]⟩) ?_ ?_
       ·refine L0 rfl rfl (E_move (.ow 88) rfl (by kernel_rfl)) ?_
        refine L0 rfl rfl (E_move (I x7) rfl (by kernel_rfl)) ?_
        refine L0 rfl rfl (E_field (.pt 16 1) Try.underlying43 rfl sz3 rfl (by kernel_rfl) (by intro hh; cases hh)) ?_
        refine L0 rfl rfl (Y0_load1 (c := Ti f1.2.1) (cs := [Ti f1.2.2]) sc3 rfl (by kernel_rfl)) ?_
        refine L0 rfl rfl (Y0_neg64 (a := f1.2.1) rfl (by kernel_rfl)) ?_
        refine L0 rfl rfl (E_move (I x7) rfl (by kernel_rfl)) ?_
        refine L0 rfl rfl (Y0_mul64 (a := w64 (0 - f1.2.1)) (b := x7) rfl (by kernel_rfl) (by kernel_rfl)) ?_
        refine L0 rfl rfl (E_move (I y16) rfl (by kernel_rfl)) ?_
        refine L0 rfl rfl (Y0_add64 (a := w64 ((w64 (0 - f1.2.1)) * x7)) (b := y16) rfl (by kernel_rfl) (by kernel_rfl)) ?_
        refine L0 rfl rfl (E_field (.pt 16 2) Try.underlying43 rfl sz3 rfl (by kernel_rfl) (by intro hh; cases hh)) ?_
        refine L0 rfl rfl (Y0_load1 (c := Ti f1.2.2) (cs := []) sc3 rfl (by kernel_rfl)) ?_
        refine L0 rfl rfl (Y0_mul64 (a := 2) (b := f1.2.2) rfl (by kernel_rfl) (by kernel_rfl)) ?_
        refine L0 rfl rfl (Y0_quo64 (a := w64 ((w64 ((w64 (0 - f1.2.1)) * x7)) + y16)) (b := w64 (2 * f1.2.2)) rfl (by kernel_rfl) (by kernel_rfl) (nz_some hz28)) ?_
        refine L0 rfl rfl (Y0_build (cs := [Ti x7, Ti (w64 (Int.tdiv (w64 ((w64 ((w64 (0 - f1.2.1)) * x7)) + y16)) (w64 (2 * f1.2.2))))]) pl97 bt97 rfl rfl (by kernel_rfl)) ?_
        refine L1 rfl rfl (Y1_bslice (z := zv97) (els := [(x7, w64 (Int.tdiv (w64 ((w64 ((w64 (0 - f1.2.1)) * x7)) + y16)) (w64 (2 * f1.2.2))))].map c97) Try.underlying73 iz97 rfl (by decide) rfl (by kernel_rfl) rfl (by simp [c97]) (by decide) (by decide)) ?_
        refine XL_cons rfl (X_appendM (c := c97) (xs := j17) (ys := [(x7, w64 (Int.tdiv (w64 ((w64 ((w64 (0 - f1.2.1)) * x7)) + y16)) (w64 (2 * f1.2.2))))]) (id := 88) (z := zv97) rfl rfl Try.underlying73 izb97 rfl (by kernel_rfl) (by kernel_rfl) (by kernel_rfl) (fun _ => rfl) (by simp) (room_some hu29) (by decide)) ?_
        refine L0 rfl rfl (E_assign (.ow 88) rfl (by kernel_rfl)) ?_
        refine XL_nil ?_
        subst hl30
        kernel_rfl
       show V _ _ _ _
       obtain ⟨x31, hx31, h⟩ := of_sI h
       refine V_reg (mb 107 486) [88, 16] (s1 := ⟨.bot :: I vn2 :: .pt 16 0 :: .bot :: .bot :: .ow 88 :: I y3 :: I y5 :: I x31 :: bt 98 [], [(88, .arr 97 2 (l30.map c97)), (16, .box [Ti f1.1, Ti f1.2.1, Ti f1.2.2])]⟩) ?_ ?_
       ·refine L0 rfl rfl (E_move (I x7) rfl (by kernel_rfl)) ?_
        refine L0 rfl rfl (Y0_add64 (a := x7) (b := 1) rfl (by kernel_rfl) (by kernel_rfl)) ?_
        refine L0 rfl rfl (E_assign (I (w64 (x7 + 1))) rfl (by kernel_rfl)) ?_
        refine XL_nil ?_
        subst hx31
        kernel_rfl
       exact ⟨n, Nat.lt_succ_self n, _, _,  by rfl, h⟩
      ·have h := of_false h hc27
       refine V_skip ?_
       show V _ _ _ _
       obtain ⟨x32, hx32, h⟩ := of_sI h
       refine V_reg (mb 107 486) [88, 16] (s1 := ⟨.bot :: I vn2 :: .pt 16 0 :: .bot :: .bot :: .ow 88 :: I y3 :: I y5 :: I x32 :: bt 98 [], [(88, .arr 97 2 (j17.map c97)), (16, .box [Ti f1.1, Ti f1.2.1, Ti f1.2.2])]⟩) ?_ ?_
       ·refine L0 rfl rfl (E_move (I x7) rfl (by kernel_rfl)) ?_
        refine L0 rfl rfl (Y0_add64 (a := x7) (b := 1) rfl (by kernel_rfl) (by kernel_rfl)) ?_
        refine L0 rfl rfl (E_assign (I (w64 (x7 + 1))) rfl (by kernel_rfl)) ?_
        refine XL_nil ?_
        subst hx32
        kernel_rfl
       exact ⟨n, Nat.lt_succ_self n, _, _,  by rfl, h⟩
    ·have h := of_false h hc11
     refine V_exit ?_
     obtain rfl := some_inj h
     show St.keep _ _ _ = _
     rfl
  show V _ _ _ _
  refine V_sreg (mb 107 16) [88] (s1 := ⟨bt 4 (.ow 88 :: bt 102 []), [(88, .arr 97 2 (o10.map c97))]⟩) ?_ ?_
  ·refine L0 rfl rfl (E_move (.ow 88) rfl (by kernel_rfl)) ?_
   refine L0 rfl rfl (E_assign (.ow 88) rfl (by kernel_rfl)) ?_
   refine XL_nil ?_
   kernel_rfl
  refine V_ret ?_
  obtain rfl := some_inj h
  show Post _ _ _ _ _
  exact ⟨.inr rfl, rfl, rfl, rfl⟩
theorem cf_impl_Representations : ∀ args w, (callFunc 112 args).run Try.prog w = .ok (.enter 112 args) w := run_callFunc Try.func112 (by kernel_rfl) (by kernel_rfl)
set_option maxRecDepth 100000 in
set_option maxHeartbeats 400000 in
theorem s_impl_Representations {f1 : (Int × Int × Int)} {vn2 : Int} {r : ((List ((Int × Int))) × Bool)} (h : r_impl_Representations f1 vn2 = some r) : CallS Try.prog 112 [.ag [Ti f1.1, Ti f1.2.1, Ti f1.2.2], I vn2] (.tc (.ow 0) (.tc (Bo r.2) .tn)) [(0, .arr 97 2 (r.1.map c97))] := by
  refine CallS_of_text (rs := [.t 4, .t 5]) (vs := [.tmp 4, .tmp 5]) Try.func112 rfl rfl (.cons rfl (.cons rfl FitsL.nil)) (by decide) 18 rfl ?_
  unfold r_impl_Representations at h
  show V _ _ ⟨.ag [Ti f1.1, Ti f1.2.1, Ti f1.2.2] :: I vn2 :: bt 16 [], []⟩ _
  refine V_sreg (mb 18 6) [16] (s1 := ⟨.bot :: I vn2 :: .pt 16 0 :: bt 15 [], [(16, .box [Ti f1.1, Ti f1.2.1, Ti f1.2.2])]⟩) ?_ ?_
  ·refine L1 rfl rfl (Y1_box (cs := [Ti f1.1, Ti f1.2.1, Ti f1.2.2]) rfl (by kernel_rfl)) ?_
   refine L1 rfl rfl (Y1_nil (e := 97) 2 (by decide) (.inl rfl)) ?_
   refine L0 rfl rfl (E_assign (Bo false) rfl (by kernel_rfl)) ?_
   refine XL_nil ?_
   kernel_rfl
  refine V_seq ?_
  obtain ⟨y3, hy3, h⟩ := of_bind h
  obtain ⟨b6, hb6, h⟩ := of_bind h
  refine V_sreg (mb 18 8198) [16] (s1 := ⟨.bot :: I vn2 :: .pt 16 0 :: bt 10 (Bo b6 :: bt 4 []), [(16, .box [Ti f1.1, Ti f1.2.1, Ti f1.2.2])]⟩) ?_ ?_
  ·refine L0 rfl rfl (E_loadn (cs := [Ti f1.1, Ti f1.2.1, Ti f1.2.2]) [Ti f1.1, Ti f1.2.1, Ti f1.2.2] wd43 rfl (by kernel_rfl) (Nat.le_of_ble_eq_true rfl) (by kernel_rfl)) ?_
   refine L1 rfl rfl (Y1_call (s_impl_isShownForm hy3) cf_impl_isShownForm rfl (by kernel_rfl)) ?_
   refine L0 rfl rfl (Y0_not (b := y3) rfl (by kernel_rfl)) ?_
   refine L0 rfl rfl (E_move (Bo (!y3)) rfl (by kernel_rfl)) ?_
   refine XL_split (!y3) (fun hc4 => ?_) (fun hc4 => ?_)
   ·have hb6 := some_inj (of_true hb6 hc4)
    refine XL_skipF _ rfl rfl (by kernel_rfl) hc4 rfl ?_
    refine XL_skipF _ rfl rfl (by kernel_rfl) hc4 rfl ?_
    refine XL_skipF _ rfl rfl (by kernel_rfl) hc4 rfl ?_
    refine XL_cons rfl (X_of_Y0 rfl (Y0_pickTe (b := !y3) (p := true) rfl (by kernel_rfl) hc4 (by kernel_rfl) hb6)) ?_
    refine XL_nil ?_
    kernel_rfl
   ·have hb6 := of_false hb6 hc4
    obtain ⟨y5, hy5, hb6⟩ := of_bind hb6
    have hb6 := some_inj hb6
    refine XL_takeC _ rfl rfl (by kernel_rfl) hc4 (X_of_Y0 rfl (E_move (I vn2) rfl (by kernel_rfl))) ?_
    refine XL_takeC _ rfl rfl (by kernel_rfl) hc4 (X_of_Y1 rfl (Y1_call (s_impl_isShown hy5) cf_impl_isShown rfl (by kernel_rfl))) ?_
    refine XL_takeC _ rfl rfl (by kernel_rfl) hc4 (X_of_Y0 rfl (Y0_not (b := y5) rfl (by kernel_rfl))) ?_
    refine XL_cons rfl (X_of_Y0 rfl (Y0_pickFe (b := !y3) (p := !y5) rfl (by kernel_rfl) hc4 (by kernel_rfl) hb6)) ?_
    refine XL_nil ?_
    kernel_rfl
  refine V_cond rfl (fun hc7 => ?_) (fun hc7 => ?_)
  ·have h := of_true h hc7
   refine V_sreg (mb 18 48) [112] (s1 := ⟨bt 4 (.ow 112 :: Bo false :: bt 12 []), [(112, .arr 97 2 ((([] : List ((Int × Int)))).map c97))]⟩) ?_ ?_
   ·refine L1 rfl rfl (Y1_bslice0 Try.underlying73 sz97 (by decide) rfl rfl) ?_
    refine L0 rfl rfl (E_assign (.ow 112) rfl (by kernel_rfl)) ?_
    refine L0 rfl rfl (E_assign (Bo false) rfl (by kernel_rfl)) ?_
    refine XL_nil ?_
    kernel_rfl
   refine V_ret ?_
   obtain rfl := some_inj h
   show Post _ _ _ _ _
   exact ⟨.inr rfl, rfl, rfl, rfl⟩
  ·have h := of_false h hc7
   refine V_skip ?_
   show V _ _ _ _
   obtain ⟨y8, hy8, h⟩ := of_bind h
   refine V_sreg (mb 18 48) [136] (s1 := ⟨bt 4 (.ow 136 :: Bo true :: bt 12 []), [(136, .arr 97 2 (y8.map c97))]⟩) ?_ ?_
   ·refine L0 rfl rfl (E_loadn (cs := [Ti f1.1, Ti f1.2.1, Ti f1.2.2]) [Ti f1.1, Ti f1.2.1, Ti f1.2.2] wd43 rfl (by kernel_rfl) (Nat.le_of_ble_eq_true rfl) (by kernel_rfl)) ?_
    refine L0 rfl rfl (E_move (I vn2) rfl (by kernel_rfl)) ?_
    refine L1 rfl rfl (Y1_call (s_impl_Form_points hy8) cf_impl_Form_points rfl (by kernel_rfl)) ?_
    refine L0 rfl rfl (E_assign (.ow 136) rfl (by kernel_rfl)) ?_
    refine L0 rfl rfl (E_assign (Bo true) rfl (by kernel_rfl)) ?_
    refine XL_nil ?_
    kernel_rfl
   refine V_ret ?_
   obtain rfl := some_inj h
   show Post _ _ _ _ _
   exact ⟨.inr rfl, rfl, rfl, rfl⟩
theorem cf_impl_PrimitivePoints : ∀ args w, (callFunc 77 args).run Try.prog w = .ok (.enter 77 args) w := run_callFunc Try.func77 (by kernel_rfl) (by kernel_rfl)
set_option maxRecDepth 100000 in
set_option maxHeartbeats 400000 in
theorem s_impl_PrimitivePoints {f1 : (Int × Int × Int)} {vn2 : Int} {r : ((List ((Int × Int))) × Bool)} (h : r_impl_PrimitivePoints f1 vn2 = some r) : CallS Try.prog 77 [.ag [Ti f1.1, Ti f1.2.1, Ti f1.2.2], I vn2] (.tc (.ow 0) (.tc (Bo r.2) .tn)) [(0, .arr 97 2 (r.1.map c97))] := by
  refine CallS_of_text (rs := [.t 4, .t 5]) (vs := [.tmp 4, .tmp 5]) Try.func77 rfl rfl (.cons rfl (.cons rfl FitsL.nil)) (by decide) 37 rfl ?_
  unfold r_impl_PrimitivePoints at h
  show V _ _ ⟨.ag [Ti f1.1, Ti f1.2.1, Ti f1.2.2] :: I vn2 :: bt 35 [], []⟩ _
  refine V_sreg (mb 37 6) [16] (s1 := ⟨.bot :: I vn2 :: .pt 16 0 :: bt 34 [], [(16, .box [Ti f1.1, Ti f1.2.1, Ti f1.2.2])]⟩) ?_ ?_
  ·refine L1 rfl rfl (Y1_box (cs := [Ti f1.1, Ti f1.2.1, Ti f1.2.2]) rfl (by kernel_rfl)) ?_
   refine L1 rfl rfl (Y1_nil (e := 97) 2 (by decide) (.inl rfl)) ?_
   refine L0 rfl rfl (E_assign (Bo false) rfl (by kernel_rfl)) ?_
   refine XL_nil ?_
   kernel_rfl
  obtain ⟨y3, hy3, h⟩ := of_bind h
  refine V_sreg (mb 37 192) [112] (s1 := ⟨bt 6 (.ow 112 :: Bo y3.2 :: bt 29 []), [(112, .arr 97 2 (y3.1.map c97))]⟩) ?_ ?_
  ·refine L0 rfl rfl (E_loadn (cs := [Ti f1.1, Ti f1.2.1, Ti f1.2.2]) [Ti f1.1, Ti f1.2.1, Ti f1.2.2] wd43 rfl (by kernel_rfl) (Nat.le_of_ble_eq_true rfl) (by kernel_rfl)) ?_
   refine L0 rfl rfl (E_move (I vn2) rfl (by kernel_rfl)) ?_
   refine L1 rfl rfl (Y1_call (s_impl_Representations hy3) cf_impl_Representations rfl (by kernel_rfl)) ?_
   refine L0 rfl rfl (E_move (.tc (.ow 112) (.tc (Bo y3.2) .tn)) rfl (by kernel_rfl)) ?_
   refine L0 rfl rfl (E_ext (n := 0) (.ow 112) (.tc (Bo y3.2) .tn) (.ow 112) rfl (by kernel_rfl) (by kernel_rfl) (by intro hh; cases hh)) ?_
   refine L0 rfl rfl (E_ext (n := 1) (.ow 112) (.tc (Bo y3.2) .tn) (Bo y3.2) rfl (by kernel_rfl) (by kernel_rfl) (by intro hh; cases hh)) ?_
   refine L0 rfl rfl (E_assign (.ow 112) rfl (by kernel_rfl)) ?_
   refine L0 rfl rfl (E_assign (Bo y3.2) rfl (by kernel_rfl)) ?_
   refine XL_nil ?_
   kernel_rfl
  refine V_sreg (mb 37 448) [136, 112] (s1 := ⟨bt 6 (.ow 112 :: Bo y3.2 :: .ow 136 :: bt 28 []), [(136, .arr 97 2 ((([] : List ((Int × Int)))).map c97)), (112, .arr 97 2 (y3.1.map c97))]⟩) ?_ ?_
  ·refine L1 rfl rfl (Y1_bslice0 Try.underlying73 sz97 (by decide) rfl rfl) ?_
   refine L0 rfl rfl (E_assign (.ow 136) rfl (by kernel_rfl)) ?_
   refine XL_nil ?_
   kernel_rfl
  refine V_seq ?_
  refine V_sreg (mb 37 1835392) [136, 112] (s1 := ⟨bt 7 (Bo y3.2 :: .ow 136 :: bt 9 (.ow 112 :: I ((y3.1.length : Int)) :: I 0 :: bt 16 [])), [(136, .arr 97 2 ((([] : List ((Int × Int)))).map c97)), (112, .arr 97 2 (y3.1.map c97))]⟩) ?_ ?_
  ·refine L0 rfl rfl (E_move (.ow 112) rfl (by kernel_rfl)) ?_
   refine L0 rfl rfl (Y0_lenM (c := c97) (xs := y3.1) Try.underlying73 rfl (by kernel_rfl)) ?_
   refine L0 rfl rfl (E_move (I 0) rfl (by kernel_rfl)) ?_
   refine XL_nil ?_
   kernel_rfl
  obtain ⟨o7, hLo7, h⟩ := of_bind h
  refine V_toK (mb 37 384) [136] (s1 := ⟨bt 7 (Bo y3.2 :: .ow 136 :: bt 28 []), [(136, .arr 97 2 (o7.map c97))]⟩) ?_ ?_
  ·clear h
   refine V_block (V_loop (fun n s => ∃ (t4 : Int) (l5 : List ((Int × Int))), s.keep (mb 37 1835392) [136, 112] = (⟨bt 7 (Bo y3.2 :: .ow 136 :: bt 9 (.ow 112 :: I ((y3.1.length : Int)) :: I t4 :: bt 16 [])), [(136, .arr 97 2 (l5.map c97)), (112, .arr 97 2 (y3.1.map c97))]⟩ : St) ∧ r_impl_PrimitivePoints_L6 y3 n t4 l5 = some o7) FU ⟨_, _,  by rfl, hLo7⟩ ?_)
   clear hLo7
   rintro n s ⟨t4, l5, hs, h⟩
   refine V_keep _ _ hs ?_
   clear hs
   cases n with
   | zero => cases h
   | succ n =>
    rw [r_impl_PrimitivePoints_L6] at h
    refine V_sreg (mb 37 3932544) [136, 112] (s1 := ⟨bt 7 (Bo y3.2 :: .ow 136 :: bt 9 (.ow 112 :: I ((y3.1.length : Int)) :: I t4 :: Bo (ltI t4 ((y3.1.length : Int))) :: bt 15 [])), [(136, .arr 97 2 (l5.map c97)), (112, .arr 97 2 (y3.1.map c97))]⟩) ?_ ?_
    ·refine L0 rfl rfl (Y0_ltw (k := .i64) (a := t4) (b := (y3.1.length : Int)) rfl (by kernel_rfl) (by kernel_rfl)) ?_
     refine XL_nil ?_
     kernel_rfl
    refine V_seq ?_
    refine V_cond rfl (fun hc8 => ?_) (fun hc8 => ?_)
    ·have h := of_true h hc8
     refine V_skip ?_
     show V _ _ _ _
     refine V_seq ?_
     refine V_block ?_
     obtain ⟨e9, he9, h⟩ := of_bind h
     obtain ⟨e10, he10, h⟩ := of_bind h
     refine V_sreg (mb 37 1836416) [80, 136, 112] (s1 := ⟨bt 7 (Bo y3.2 :: .ow 136 :: .bot :: .pt 80 0 :: bt 7 (.ow 112 :: I ((y3.1.length : Int)) :: I t4 :: bt 16 [])), [(80, .box [Ti e10.1, Ti e10.2]), (136, .arr 97 2 (l5.map c97)), (112, .arr 97 2 (y3.1.map c97))]⟩) ?_ ?_
     ·refine L0 rfl rfl (Y0_idxoM (c := c97) (xs := y3.1) (v := e9) (id := 112) (T := 97) (sz := 2) (n := t4) Try.underlying73 sz97 rfl (by kernel_rfl) (by kernel_rfl) (by kernel_rfl) he9) ?_
      refine L0 rfl rfl (E_loadon (c := c97) (xs := y3.1) (v := e10) (id := 112) (sz := 2) (T := 97) (off := 0) (n := t4) [Ti e10.1, Ti e10.2] wd97 rfl (by kernel_rfl) (by kernel_rfl) he10 (Nat.le_of_ble_eq_true rfl) (by kernel_rfl)) ?_
      refine L1 rfl rfl (Y1_alloc (z := zv97) rfl zf97 rfl) ?_
      refine XL_cons rfl (E_store (id := 80) (off := 0) (cs := [Ti 0, Ti 0]) (vc := [Ti e10.1, Ti e10.2]) [Ti e10.1, Ti e10.2] rfl rfl (by kernel_rfl) (by kernel_rfl) (by kernel_rfl) sz97 (Nat.le_of_ble_eq_true rfl) (by kernel_rfl)) ?_
      refine XL_nil ?_
      kernel_rfl
     obtain ⟨y11, hy11, h⟩ := of_bind h
     refine V_sreg (mb 37 538707328) [80, 136, 112] (s1 := ⟨bt 7 (Bo y3.2 :: .ow 136 :: .bot :: .pt 80 0 :: bt 7 (.ow 112 :: I ((y3.1.length : Int)) :: I t4 :: bt 8 (Bo (eqI y11 1) :: bt 7 []))), [(80, .box [Ti e10.1, Ti e10.2]), (136, .arr 97 2 (l5.map c97)), (112, .arr 97 2 (y3.1.map c97))]⟩) ?_ ?_
     ·refine L0 rfl rfl (E_field (.pt 80 0) Try.underlying97 rfl sz3 rfl (by kernel_rfl) (by intro hh; cases hh)) ?_
      refine L0 rfl rfl (Y0_load1 (c := Ti e10.1) (cs := [Ti e10.2]) sc3 rfl (by kernel_rfl)) ?_
      refine L0 rfl rfl (E_field (.pt 80 1) Try.underlying97 rfl sz3 rfl (by kernel_rfl) (by intro hh; cases hh)) ?_
      refine L0 rfl rfl (Y0_load1 (c := Ti e10.2) (cs := []) sc3 rfl (by kernel_rfl)) ?_
      refine L1 rfl rfl (Y1_call (s_impl_gcd hy11) cf_impl_gcd rfl (by kernel_rfl)) ?_
      refine L0 rfl rfl (Y0_eqw (k := .i64) (a := y11) (b := 1) rfl (by kernel_rfl) (by kernel_rfl)) ?_
      refine XL_nil ?_
      kernel_rfl
     refine V_cond rfl (fun hc12 => ?_) (fun hc12 => ?_)
     ·have h := of_true h hc12
      obtain ⟨u13, hu13, h⟩ := of_bind h
      refine V_reg (mb 37 1835392) [136, 112] (s1 := ⟨bt 7 (Bo y3.2 :: .ow 136 :: bt 9 (.ow 112 :: I ((y3.1.length : Int)) :: I t4 :: bt 16 [])), [(136, .arr 97 2 ((l5 ++ ([e10])).map c97)), (112, .arr 97 2 (y3.1.map c97))]⟩) ?_ ?_
      ·refine L0 rfl rfl (E_move (.ow 136) rfl (by kernel_rfl)) ?_
       refine L0 rfl rfl (E_loadn (cs := [Ti e10.1, Ti e10.2]) [Ti e10.1, Ti e10.2] wd97 rfl (by kernel_rfl) (Nat.le_of_ble_eq_true rfl) (by kernel_rfl)) ?_
       refine L1 rfl rfl (Y1_bslice (z := zv97) (els := [e10].map c97) Try.underlying73 iz97 rfl (by decide) rfl (by kernel_rfl) rfl (by simp [c97]) (by decide) (by decide)) ?_
       refine XL_cons rfl (X_appendM (c := c97) (xs := l5) (ys := [e10]) (id := 136) (z := zv97) rfl rfl Try.underlying73 izb97 rfl (by kernel_rfl) (by kernel_rfl) (by kernel_rfl) (fun _ => rfl) (by simp) (room_some hu13) (by decide)) ?_
       refine L0 rfl rfl (E_assign (.ow 136) rfl (by kernel_rfl)) ?_
       refine XL_nil ?_
       kernel_rfl
      show V _ _ _ _
      obtain ⟨t14, ht14, h⟩ := of_sI h
      refine V_reg (mb 37 1835392) [136, 112] (s1 := ⟨bt 7 (Bo y3.2 :: .ow 136 :: bt 9 (.ow 112 :: I ((y3.1.length : Int)) :: I t14 :: bt 16 [])), [(136, .arr 97 2 ((l5 ++ ([e10])).map c97)), (112, .arr 97 2 (y3.1.map c97))]⟩) ?_ ?_
      ·refine L0 rfl rfl (Y0_add64 (a := t4) (b := 1) rfl (by kernel_rfl) (by kernel_rfl)) ?_
       refine L0 rfl rfl (E_move (I (w64 (t4 + 1))) rfl (by kernel_rfl)) ?_
       refine XL_nil ?_
       subst ht14
       kernel_rfl
      exact ⟨n, Nat.lt_succ_self n, _, _,  by rfl, h⟩
     ·have h := of_false h hc12
      refine V_skip ?_
      show V _ _ _ _
      obtain ⟨t15, ht15, h⟩ := of_sI h
      refine V_reg (mb 37 1835392) [136, 112] (s1 := ⟨bt 7 (Bo y3.2 :: .ow 136 :: bt 9 (.ow 112 :: I ((y3.1.length : Int)) :: I t15 :: bt 16 [])), [(136, .arr 97 2 (l5.map c97)), (112, .arr 97 2 (y3.1.map c97))]⟩) ?_ ?_
      ·refine L0 rfl rfl (Y0_add64 (a := t4) (b := 1) rfl (by kernel_rfl) (by kernel_rfl)) ?_
       refine L0 rfl rfl (E_move (I (w64 (t4 + 1))) rfl (by kernel_rfl)) ?_
       refine XL_nil ?_
       subst ht15
       kernel_rfl
      exact ⟨n, Nat.lt_succ_self n, _, _,  by rfl, h⟩
    ·have h := of_false h hc8
     refine V_exit ?_
     obtain rfl := some_inj h
     show St.keep _ _ _ = _
     rfl
  show V _ _ _ _
  refine V_sreg (mb 37 48) [136] (s1 := ⟨bt 4 (.ow 136 :: Bo y3.2 :: bt 31 []), [(136, .arr 97 2 (o7.map c97))]⟩) ?_ ?_
  ·refine L0 rfl rfl (E_move (.ow 136) rfl (by kernel_rfl)) ?_
   refine L0 rfl rfl (E_move (Bo y3.2) rfl (by kernel_rfl)) ?_
   refine L0 rfl rfl (E_assign (.ow 136) rfl (by kernel_rfl)) ?_
   refine L0 rfl rfl (E_assign (Bo y3.2) rfl (by kernel_rfl)) ?_
   refine XL_nil ?_
   kernel_rfl
  refine V_ret ?_
  obtain rfl := some_inj h
  show Post _ _ _ _ _
  exact ⟨.inr rfl, rfl, rfl, rfl⟩
theorem cf_impl_RepresentingForms : ∀ args w, (callFunc 33 args).run Try.prog w = .ok (.enter 33 args) w := run_callFunc Try.func33 (by kernel_rfl) (by kernel_rfl)
set_option maxRecDepth 100000 in
set_option maxHeartbeats 400000 in
theorem s_impl_RepresentingForms {d1 : Int} {vn2 : Int} {r : ((List ((Int × Int × Int))) × Bool)} (h : r_impl_RepresentingForms d1 vn2 = some r) : CallS Try.prog 33 [I d1, I vn2] (.tc (.ow 0) (.tc (Bo r.2) .tn)) [(0, .arr 43 3 (r.1.map c43))] := by
  refine CallS_of_text (rs := [.t 4, .t 5]) (vs := [.tmp 4, .tmp 5]) Try.func33 rfl rfl (.cons rfl (.cons rfl FitsL.nil)) (by decide) 43 rfl ?_
  unfold r_impl_RepresentingForms at h
  show V _ _ ⟨I d1 :: I vn2 :: bt 41 [], []⟩ _
  refine V_sreg (mb 43 3) [] (s1 := ⟨I d1 :: I vn2 :: bt 41 [], []⟩) ?_ ?_
  ·refine L1 rfl rfl (Y1_nil (e := 43) 3 (by decide) (.inl rfl)) ?_
   refine L0 rfl rfl (E_assign (Bo false) rfl (by kernel_rfl)) ?_
   refine XL_nil ?_
   kernel_rfl
  refine V_seq ?_
  obtain ⟨y3, hy3, h⟩ := of_bind h
  obtain ⟨b6, hb6, h⟩ := of_bind h
  refine V_sreg (mb 43 262147) [] (s1 := ⟨I d1 :: I vn2 :: bt 16 (Bo b6 :: bt 24 []), []⟩) ?_ ?_
  ·refine L0 rfl rfl (E_move (I d1) rfl (by kernel_rfl)) ?_
   refine L1 rfl rfl (Y1_call (s_impl_isNegativeDisc hy3) cf_impl_isNegativeDisc rfl (by kernel_rfl)) ?_
   refine L0 rfl rfl (Y0_not (b := y3) rfl (by kernel_rfl)) ?_
   refine L0 rfl rfl (E_move (Bo (!y3)) rfl (by kernel_rfl)) ?_
   refine XL_split (!y3) (fun hc4 => ?_) (fun hc4 => ?_)
   ·have hb6 := some_inj (of_true hb6 hc4)
    refine XL_skipF _ rfl rfl (by kernel_rfl) hc4 rfl ?_
    refine XL_skipF _ rfl rfl (by kernel_rfl) hc4 rfl ?_
    refine XL_skipF _ rfl rfl (by kernel_rfl) hc4 rfl ?_
    refine XL_cons rfl (X_of_Y0 rfl (Y0_pickTe (b := !y3) (p := true) rfl (by kernel_rfl) hc4 (by kernel_rfl) hb6)) ?_
    refine XL_nil ?_
    kernel_rfl
   ·have hb6 := of_false hb6 hc4
    obtain ⟨y5, hy5, hb6⟩ := of_bind hb6
    have hb6 := some_inj hb6
    refine XL_takeC _ rfl rfl (by kernel_rfl) hc4 (X_of_Y0 rfl (E_move (I vn2) rfl (by kernel_rfl))) ?_
    refine XL_takeC _ rfl rfl (by kernel_rfl) hc4 (X_of_Y1 rfl (Y1_call (s_impl_isShown hy5) cf_impl_isShown rfl (by kernel_rfl))) ?_
    refine XL_takeC _ rfl rfl (by kernel_rfl) hc4 (X_of_Y0 rfl (Y0_not (b := y5) rfl (by kernel_rfl))) ?_
    refine XL_cons rfl (X_of_Y0 rfl (Y0_pickFe (b := !y3) (p := !y5) rfl (by kernel_rfl) hc4 (by kernel_rfl) hb6)) ?_
    refine XL_nil ?_
    kernel_rfl
  refine V_cond rfl (fun hc7 => ?_) (fun hc7 => ?_)
  ·have h := of_true h hc7
   refine V_sreg (mb 43 48) [152] (s1 := ⟨bt 4 (.ow 152 :: Bo false :: bt 37 []), [(152, .arr 43 3 ((([] : List ((Int × Int × Int)))).map c43))]⟩) ?_ ?_
   ·refine L1 rfl rfl (Y1_bslice0 Try.underlying40 sz43 (by decide) rfl rfl) ?_
    refine L0 rfl rfl (E_assign (.ow 152) rfl (by kernel_rfl)) ?_
    refine L0 rfl rfl (E_assign (Bo false) rfl (by kernel_rfl)) ?_
    refine XL_nil ?_
    kernel_rfl
   refine V_ret ?_
   obtain rfl := some_inj h
   show Post _ _ _ _ _
   exact ⟨.inr rfl, rfl, rfl, rfl⟩
  ·have h := of_false h hc7
   refine V_skip ?_
   show V _ _ _ _
   refine V_sreg (mb 43 67) [160] (s1 := ⟨I d1 :: I vn2 :: bt 4 (.ow 160 :: bt 36 []), [(160, .arr 43 3 ((([] : List ((Int × Int × Int)))).map c43))]⟩) ?_ ?_
   ·refine L1 rfl rfl (Y1_bslice0 Try.underlying40 sz43 (by decide) rfl rfl) ?_
    refine L0 rfl rfl (E_assign (.ow 160) rfl (by kernel_rfl)) ?_
    refine XL_nil ?_
    kernel_rfl
   refine V_seq ?_
   obtain ⟨y8, hy8, h⟩ := of_bind h
   refine V_sreg (mb 43 29360194) [176, 160] (s1 := ⟨.bot :: I vn2 :: bt 4 (.ow 160 :: bt 15 (.ow 176 :: I ((y8.length : Int)) :: I 0 :: bt 18 [])), [(176, .arr 43 3 (y8.map c43)), (160, .arr 43 3 ((([] : List ((Int × Int × Int)))).map c43))]⟩) ?_ ?_
   ·refine L0 rfl rfl (E_move (I d1) rfl (by kernel_rfl)) ?_
    refine L1 rfl rfl (Y1_call (s_impl_reducedForms hy8) cf_impl_reducedForms rfl (by kernel_rfl)) ?_
    refine L0 rfl rfl (Y0_lenM (c := c43) (xs := y8) Try.underlying40 rfl (by kernel_rfl)) ?_
    refine L0 rfl rfl (E_move (I 0) rfl (by kernel_rfl)) ?_
    refine XL_nil ?_
    kernel_rfl
   obtain ⟨o12, hLo12, h⟩ := of_bind h
   refine V_toK (mb 43 64) [160] (s1 := ⟨bt 6 (.ow 160 :: bt 36 []), [(160, .arr 43 3 (o12.map c43))]⟩) ?_ ?_
   ·clear h
    refine V_block (V_loop (fun n s => ∃ (t9 : Int) (l10 : List ((Int × Int × Int))), s.keep (mb 43 29360194) [176, 160] = (⟨.bot :: I vn2 :: bt 4 (.ow 160 :: bt 15 (.ow 176 :: I ((y8.length : Int)) :: I t9 :: bt 18 [])), [(176, .arr 43 3 (y8.map c43)), (160, .arr 43 3 (l10.map c43))]⟩ : St) ∧ r_impl_RepresentingForms_L11 vn2 y8 n t9 l10 = some o12) FU ⟨_, _,  by rfl, hLo12⟩ ?_)
    clear hLo12
    rintro n s ⟨t9, l10, hs, h⟩
    refine V_keep _ _ hs ?_
    clear hs
    cases n with
    | zero => cases h
    | succ n =>
     rw [r_impl_RepresentingForms_L11] at h
     refine V_sreg (mb 43 62914626) [176, 160] (s1 := ⟨.bot :: I vn2 :: bt 4 (.ow 160 :: bt 15 (.ow 176 :: I ((y8.length : Int)) :: I t9 :: Bo (ltI t9 ((y8.length : Int))) :: bt 17 [])), [(176, .arr 43 3 (y8.map c43)), (160, .arr 43 3 (l10.map c43))]⟩) ?_ ?_
     ·refine L0 rfl rfl (Y0_ltw (k := .i64) (a := t9) (b := (y8.length : Int)) rfl (by kernel_rfl) (by kernel_rfl)) ?_
      refine XL_nil ?_
      kernel_rfl
     refine V_seq ?_
     refine V_cond rfl (fun hc13 => ?_) (fun hc13 => ?_)
     ·have h := of_true h hc13
      refine V_skip ?_
      show V _ _ _ _
      refine V_seq ?_
      refine V_block ?_
      obtain ⟨e14, he14, h⟩ := of_bind h
      obtain ⟨e15, he15, h⟩ := of_bind h
      refine V_sreg (mb 43 29360450) [64, 176, 160] (s1 := ⟨.bot :: I vn2 :: bt 4 (.ow 160 :: .bot :: .pt 64 0 :: bt 13 (.ow 176 :: I ((y8.length : Int)) :: I t9 :: bt 18 [])), [(64, .box [Ti e15.1, Ti e15.2.1, Ti e15.2.2]), (176, .arr 43 3 (y8.map c43)), (160, .arr 43 3 (l10.map c43))]⟩) ?_ ?_
      ·refine L0 rfl rfl (Y0_idxoM (c := c43) (xs := y8) (v := e14) (id := 176) (T := 43) (sz := 3) (n := t9) Try.underlying40 sz43 rfl (by kernel_rfl) (by kernel_rfl) (by kernel_rfl) he14) ?_
       refine L0 rfl rfl (E_loadon (c := c43) (xs := y8) (v := e15) (id := 176) (sz := 3) (T := 43) (off := 0) (n := t9) [Ti e15.1, Ti e15.2.1, Ti e15.2.2] wd43 rfl (by kernel_rfl) (by kernel_rfl) he15 (Nat.le_of_ble_eq_true rfl) (by kernel_rfl)) ?_
       refine L1 rfl rfl (Y1_alloc (z := zv43) rfl zf43 rfl) ?_
       refine XL_cons rfl (E_store (id := 64) (off := 0) (cs := [Ti 0, Ti 0, Ti 0]) (vc := [Ti e15.1, Ti e15.2.1, Ti e15.2.2]) [Ti e15.1, Ti e15.2.1, Ti e15.2.2] rfl rfl (by kernel_rfl) (by kernel_rfl) (by kernel_rfl) sz43 (Nat.le_of_ble_eq_true rfl) (by kernel_rfl)) ?_
       refine XL_nil ?_
       kernel_rfl
      obtain ⟨y16, hy16, h⟩ := of_bind h
      refine V_sreg (mb 43 29360962) [248, 64, 176, 160] (s1 := ⟨.bot :: I vn2 :: bt 4 (.ow 160 :: .bot :: .pt 64 0 :: .ow 248 :: bt 12 (.ow 176 :: I ((y8.length : Int)) :: I t9 :: bt 18 [])), [(248, .arr 97 2 (y16.1.map c97)), (64, .box [Ti e15.1, Ti e15.2.1, Ti e15.2.2]), (176, .arr 43 3 (y8.map c43)), (160, .arr 43 3 (l10.map c43))]⟩) ?_ ?_
      ·refine L0 rfl rfl (E_loadn (cs := [Ti e15.1, Ti e15.2.1, Ti e15.2.2]) [Ti e15.1, Ti e15.2.1, Ti e15.2.2] wd43 rfl (by kernel_rfl) (Nat.le_of_ble_eq_true rfl) (by kernel_rfl)) ?_
       refine L0 rfl rfl (E_move (I vn2) rfl (by kernel_rfl)) ?_
       refine L1 rfl rfl (Y1_call (s_impl_PrimitivePoints hy16) cf_impl_PrimitivePoints rfl (by kernel_rfl)) ?_
       refine L0 rfl rfl (E_move (.tc (.ow 248) (.tc (Bo y16.2) .tn)) rfl (by kernel_rfl)) ?_
       refine L0 rfl rfl (E_ext (n := 0) (.ow 248) (.tc (Bo y16.2) .tn) (.ow 248) rfl (by kernel_rfl) (by kernel_rfl) (by intro hh; cases hh)) ?_
       refine L0 rfl rfl (E_ext (n := 1) (.ow 248) (.tc (Bo y16.2) .tn) (Bo y16.2) rfl (by kernel_rfl) (by kernel_rfl) (by intro hh; cases hh)) ?_
       refine L0 rfl rfl (E_assign (.ow 248) rfl (by kernel_rfl)) ?_
       refine L0 rfl rfl (E_assign (Bo y16.2) rfl (by kernel_rfl)) ?_
       refine XL_nil ?_
       kernel_rfl
      refine V_sreg (mb 43 68748837186) [64, 176, 160] (s1 := ⟨.bot :: I vn2 :: bt 4 (.ow 160 :: .bot :: .pt 64 0 :: bt 13 (.ow 176 :: I ((y8.length : Int)) :: I t9 :: bt 11 (Bo (ltI 0 ((y16.1.length : Int))) :: bt 6 []))), [(64, .box [Ti e15.1, Ti e15.2.1, Ti e15.2.2]), (176, .arr 43 3 (y8.map c43)), (160, .arr 43 3 (l10.map c43))]⟩) ?_ ?_
      ·refine L0 rfl rfl (E_move (.ow 248) rfl (by kernel_rfl)) ?_
       refine L0 rfl rfl (Y0_lenM (c := c97) (xs := y16.1) Try.underlying73 rfl (by kernel_rfl)) ?_
       refine L0 rfl rfl (Y0_gtw (k := .i64) (a := (y16.1.length : Int)) (b := 0) rfl (by kernel_rfl) (by kernel_rfl)) ?_
       refine XL_nil ?_
       kernel_rfl
      refine V_cond rfl (fun hc17 => ?_) (fun hc17 => ?_)
      ·have h := of_true h hc17
       obtain ⟨u18, hu18, h⟩ := of_bind h
       refine V_reg (mb 43 29360194) [176, 160] (s1 := ⟨.bot :: I vn2 :: bt 4 (.ow 160 :: bt 15 (.ow 176 :: I ((y8.length : Int)) :: I t9 :: bt 18 [])), [(176, .arr 43 3 (y8.map c43)), (160, .arr 43 3 ((l10 ++ ([e15])).map c43))]⟩) ?_ ?_
       ·refine L0 rfl rfl (E_move (.ow 160) rfl (by kernel_rfl)) ?_
        refine L0 rfl rfl (E_loadn (cs := [Ti e15.1, Ti e15.2.1, Ti e15.2.2]) [Ti e15.1, Ti e15.2.1, Ti e15.2.2] wd43 rfl (by kernel_rfl) (Nat.le_of_ble_eq_true rfl) (by kernel_rfl)) ?_
        refine L1 rfl rfl (Y1_bslice (z := zv43) (els := [e15].map c43) Try.underlying40 iz43 rfl (by decide) rfl (by kernel_rfl) rfl (by simp [c43]) (by decide) (by decide)) ?_
        refine XL_cons rfl (X_appendM (c := c43) (xs := l10) (ys := [e15]) (id := 160) (z := zv43) rfl rfl Try.underlying40 izb43 rfl (by kernel_rfl) (by kernel_rfl) (by kernel_rfl) (fun _ => rfl) (by simp) (room_some hu18) (by decide)) ?_
        refine L0 rfl rfl (E_assign (.ow 160) rfl (by kernel_rfl)) ?_
        refine XL_nil ?_
        kernel_rfl
       show V _ _ _ _
       obtain ⟨t19, ht19, h⟩ := of_sI h
       refine V_reg (mb 43 29360194) [176, 160] (s1 := ⟨.bot :: I vn2 :: bt 4 (.ow 160 :: bt 15 (.ow 176 :: I ((y8.length : Int)) :: I t19 :: bt 18 [])), [(176, .arr 43 3 (y8.map c43)), (160, .arr 43 3 ((l10 ++ ([e15])).map c43))]⟩) ?_ ?_
       ·refine L0 rfl rfl (Y0_add64 (a := t9) (b := 1) rfl (by kernel_rfl) (by kernel_rfl)) ?_
        refine L0 rfl rfl (E_move (I (w64 (t9 + 1))) rfl (by kernel_rfl)) ?_
        refine XL_nil ?_
        subst ht19
        kernel_rfl
       exact ⟨n, Nat.lt_succ_self n, _, _,  by rfl, h⟩
      ·have h := of_false h hc17
       refine V_skip ?_
       show V _ _ _ _
       obtain ⟨t20, ht20, h⟩ := of_sI h
       refine V_reg (mb 43 29360194) [176, 160] (s1 := ⟨.bot :: I vn2 :: bt 4 (.ow 160 :: bt 15 (.ow 176 :: I ((y8.length : Int)) :: I t20 :: bt 18 [])), [(176, .arr 43 3 (y8.map c43)), (160, .arr 43 3 (l10.map c43))]⟩) ?_ ?_
       ·refine L0 rfl rfl (Y0_add64 (a := t9) (b := 1) rfl (by kernel_rfl) (by kernel_rfl)) ?_
        refine L0 rfl rfl (E_move (I (w64 (t9 + 1))) rfl (by kernel_rfl)) ?_
        refine XL_nil ?_
        subst ht20
        kernel_rfl
       exact ⟨n, Nat.lt_succ_self n, _, _,  by rfl, h⟩
     ·have h := of_false h hc13
      refine V_exit ?_
      obtain rfl := some_inj h
      show St.keep _ _ _ = _
      rfl
   show V _ _ _ _
   refine V_sreg (mb 43 48) [160] (s1 := ⟨bt 4 (.ow 160 :: Bo true :: bt 37 []), [(160, .arr 43 3 (o12.map c43))]⟩) ?_ ?_
   ·refine L0 rfl rfl (E_move (.ow 160) rfl (by kernel_rfl)) ?_
    refine L0 rfl rfl (E_assign (.ow 160) rfl (by kernel_rfl)) ?_
    refine L0 rfl rfl (E_assign (Bo true) rfl (by kernel_rfl)) ?_
    refine XL_nil ?_
    kernel_rfl
   refine V_ret ?_
   obtain rfl := some_inj h
   show Post _ _ _ _ _
   exact ⟨.inr rfl, rfl, rfl, rfl⟩
theorem cf_impl_isPrime : ∀ args w, (callFunc 106 args).run Try.prog w = .ok (.enter 106 args) w := run_callFunc Try.func106 (by kernel_rfl) (by kernel_rfl)
set_option maxRecDepth 100000 in
set_option maxHeartbeats 400000 in
theorem s_impl_isPrime {vn1 : Int} {r : Bool} (h : r_impl_isPrime vn1 = some r) : CallS Try.prog 106 [I vn1] (Bo r) [] := by
  refine CallS_of_text (rs := [.t 2]) (vs := [.tmp 2]) Try.func106 rfl rfl (.cons rfl FitsL.nil) (by decide) 17 rfl ?_
  unfold r_impl_isPrime at h
  show V _ _ ⟨I vn1 :: bt 16 [], []⟩ _
  refine V_sreg (mb 17 1) [] (s1 := ⟨I vn1 :: bt 16 [], []⟩) ?_ ?_
  ·refine L0 rfl rfl (E_assign (Bo false) rfl (by kernel_rfl)) ?_
   refine XL_nil ?_
   kernel_rfl
  refine V_seq ?_
  refine V_sreg (mb 17 33) [] (s1 := ⟨I vn1 :: bt 4 (Bo (ltI vn1 2) :: bt 11 []), []⟩) ?_ ?_
  ·refine L0 rfl rfl (E_move (I vn1) rfl (by kernel_rfl)) ?_
   refine L0 rfl rfl (Y0_ltw (k := .i64) (a := vn1) (b := 2) rfl (by kernel_rfl) (by kernel_rfl)) ?_
   refine XL_nil ?_
   kernel_rfl
  refine V_cond rfl (fun hc2 => ?_) (fun hc2 => ?_)
  ·have h := of_true h hc2
   refine V_sreg (mb 17 4) [] (s1 := ⟨.bot :: .bot :: Bo false :: bt 14 [], []⟩) ?_ ?_
   ·refine L0 rfl rfl (E_assign (Bo false) rfl (by kernel_rfl)) ?_
    refine XL_nil ?_
    kernel_rfl
   refine V_ret ?_
   obtain rfl := some_inj h
   show Post _ _ _ _ _
   exact ⟨.inr rfl, rfl, rfl, rfl⟩
  ·have h := of_false h hc2
   refine V_skip ?_
   show V _ _ _ _
   refine V_seq ?_
   refine V_sreg (mb 17 9) [] (s1 := ⟨I vn1 :: .bot :: .bot :: I 2 :: bt 13 [], []⟩) ?_ ?_
   ·refine L0 rfl rfl (E_assign (I 2) rfl (by kernel_rfl)) ?_
    refine XL_nil ?_
    kernel_rfl
   obtain ⟨qo5, hLo5, hko5⟩ := of_bind h
   refine V_toS (q := qo5) (S := fun o5 => ⟨bt 17 [], []⟩) (mb 17 0) [] ?_ ?_
   ·refine V_block (V_loop (fun n s => ∃ (p3 : Int), s.keep (mb 17 9) [] = (⟨I vn1 :: .bot :: .bot :: I p3 :: bt 13 [], []⟩ : St) ∧ r_impl_isPrime_L4 vn1 n p3 = some qo5) FU ⟨_,  by rfl, hLo5⟩ ?_)
    clear hLo5
    rintro n s ⟨p3, hs, h⟩
    refine V_keep _ _ hs ?_
    clear hs
    cases n with
    | zero => cases h
    | succ n =>
     rw [r_impl_isPrime_L4] at h
     refine V_seq ?_
     refine V_sreg (mb 17 1033) [] (s1 := ⟨I vn1 :: .bot :: .bot :: I p3 :: bt 6 (Bo (leI (w64 (p3 * p3)) vn1) :: bt 6 []), []⟩) ?_ ?_
     ·refine L0 rfl rfl (E_move (I p3) rfl (by kernel_rfl)) ?_
      refine L0 rfl rfl (E_move (I p3) rfl (by kernel_rfl)) ?_
      refine L0 rfl rfl (Y0_mul64 (a := p3) (b := p3) rfl (by kernel_rfl) (by kernel_rfl)) ?_
      refine L0 rfl rfl (E_move (I vn1) rfl (by kernel_rfl)) ?_
      refine L0 rfl rfl (Y0_lew (k := .i64) (a := w64 (p3 * p3)) (b := vn1) rfl (by kernel_rfl) (by kernel_rfl)) ?_
      refine XL_nil ?_
      kernel_rfl
     refine V_cond rfl (fun hc6 => ?_) (fun hc6 => ?_)
     ·have h := of_true h hc6
      refine V_skip ?_
      show V _ _ _ _
      refine V_seq ?_
      refine V_block ?_
      obtain ⟨z7, hz7, h⟩ := of_bind h
      refine V_sreg (mb 17 65545) [] (s1 := ⟨I vn1 :: .bot :: .bot :: I p3 :: bt 12 (Bo (eqI (Int.tmod vn1 p3) 0) :: []), []⟩) ?_ ?_
      ·refine L0 rfl rfl (E_move (I vn1) rfl (by kernel_rfl)) ?_
       refine L0 rfl rfl (E_move (I p3) rfl (by kernel_rfl)) ?_
       refine L0 rfl rfl (Y0_rem (k := .i64) (a := vn1) (b := p3) rfl (by kernel_rfl) (by kernel_rfl) (nz_some hz7)) ?_
       refine L0 rfl rfl (Y0_eqw (k := .i64) (a := Int.tmod vn1 p3) (b := 0) rfl (by kernel_rfl) (by kernel_rfl)) ?_
       refine XL_nil ?_
       kernel_rfl
      refine V_cond rfl (fun hc8 => ?_) (fun hc8 => ?_)
      ·have h := of_true h hc8
       refine V_sreg (mb 17 4) [] (s1 := ⟨.bot :: .bot :: Bo false :: bt 14 [], []⟩) ?_ ?_
       ·refine L0 rfl rfl (E_assign (Bo false) rfl (by kernel_rfl)) ?_
        refine XL_nil ?_
        kernel_rfl
       refine V_ret ?_
       obtain rfl := some_inj h
       have h := hko5
       obtain rfl := some_inj h
       show Post _ _ _ _ _
       exact ⟨.inr rfl, rfl, rfl, rfl⟩
      ·have h := of_false h hc8
       refine V_skip ?_
       show V _ _ _ _
       obtain ⟨p9, hp9, h⟩ := of_sI h
       refine V_reg (mb 17 9) [] (s1 := ⟨I vn1 :: .bot :: .bot :: I p9 :: bt 13 [], []⟩) ?_ ?_
       ·refine L0 rfl rfl (E_move (I p3) rfl (by kernel_rfl)) ?_
        refine L0 rfl rfl (Y0_add64 (a := p3) (b := 1) rfl (by kernel_rfl) (by kernel_rfl)) ?_
        refine L0 rfl rfl (E_assign (I (w64 (p3 + 1))) rfl (by kernel_rfl)) ?_
        refine XL_nil ?_
        subst hp9
        kernel_rfl
       exact ⟨n, Nat.lt_succ_self n, _,  by rfl, h⟩
     ·have h := of_false h hc6
      refine V_exit ?_
      obtain rfl := some_inj h
      exact ⟨_, rfl, by rfl⟩
   rintro o5 rfl
   have h := hko5
   clear hko5
   show V _ _ _ _
   refine V_sreg (mb 17 4) [] (s1 := ⟨.bot :: .bot :: Bo true :: bt 14 [], []⟩) ?_ ?_
   ·refine L0 rfl rfl (E_assign (Bo true) rfl (by kernel_rfl)) ?_
    refine XL_nil ?_
    kernel_rfl
   refine V_ret ?_
   obtain rfl := some_inj h
   show Post _ _ _ _ _
   exact ⟨.inr rfl, rfl, rfl, rfl⟩
theorem cf_impl_isShownPrime : ∀ args w, (callFunc 113 args).run Try.prog w = .ok (.enter 113 args) w := run_callFunc Try.func113 (by kernel_rfl) (by kernel_rfl)
set_option maxRecDepth 100000 in
set_option maxHeartbeats 400000 in
theorem s_impl_isShownPrime {p1 : Int} {r : Bool} (h : r_impl_isShownPrime p1 = some r) : CallS Try.prog 113 [I p1] (Bo r) [] := by
  refine CallS_of_text (rs := [.t 2]) (vs := [.tmp 2]) Try.func113 rfl rfl (.cons rfl FitsL.nil) (by decide) 9 rfl ?_
  unfold r_impl_isShownPrime at h
  show V _ _ ⟨I p1 :: bt 8 [], []⟩ _
  refine V_sreg (mb 9 1) [] (s1 := ⟨I p1 :: bt 8 [], []⟩) ?_ ?_
  ·refine L0 rfl rfl (E_assign (Bo false) rfl (by kernel_rfl)) ?_
   refine XL_nil ?_
   kernel_rfl
  obtain ⟨b4, hb4, h⟩ := of_bind h
  refine V_sreg (mb 9 4) [] (s1 := ⟨.bot :: .bot :: Bo b4 :: bt 6 [], []⟩) ?_ ?_
  ·refine L0 rfl rfl (E_move (I p1) rfl (by kernel_rfl)) ?_
   refine L0 rfl rfl (Y0_lew (k := .i64) (a := p1) (b := 10000) rfl (by kernel_rfl) (by kernel_rfl)) ?_
   refine L0 rfl rfl (E_move (Bo (leI p1 10000)) rfl (by kernel_rfl)) ?_
   refine XL_split (leI p1 10000) (fun hc2 => ?_) (fun hc2 => ?_)
   ·have hb4 := of_true hb4 hc2
    obtain ⟨y3, hy3, hb4⟩ := of_bind hb4
    have hb4 := some_inj hb4
    refine XL_takeC _ rfl rfl (by kernel_rfl) hc2 (X_of_Y0 rfl (E_move (I p1) rfl (by kernel_rfl))) ?_
    refine XL_takeC _ rfl rfl (by kernel_rfl) hc2 (X_of_Y1 rfl (Y1_call (s_impl_isPrime hy3) cf_impl_isPrime rfl (by kernel_rfl))) ?_
    refine XL_cons rfl (X_of_Y0 rfl (Y0_pickTe (b := leI p1 10000) (p := y3) rfl (by kernel_rfl) hc2 (by kernel_rfl) hb4)) ?_
    refine L0 rfl rfl (E_assign (Bo b4) rfl (by kernel_rfl)) ?_
    refine XL_nil ?_
    kernel_rfl
   ·have hb4 := some_inj (of_false hb4 hc2)
    refine XL_skipT _ rfl rfl (by kernel_rfl) hc2 rfl ?_
    refine XL_skipT _ rfl rfl (by kernel_rfl) hc2 rfl ?_
    refine XL_cons rfl (X_of_Y0 rfl (Y0_pickFe (b := leI p1 10000) (p := false) rfl (by kernel_rfl) hc2 (by kernel_rfl) hb4)) ?_
    refine L0 rfl rfl (E_assign (Bo b4) rfl (by kernel_rfl)) ?_
    refine XL_nil ?_
    kernel_rfl
  refine V_ret ?_
  obtain rfl := some_inj h
  show Post _ _ _ _ _
  exact ⟨.inr rfl, rfl, rfl, rfl⟩
theorem cf_impl_primeForm : ∀ args w, (callFunc 114 args).run Try.prog w = .ok (.enter 114 args) w := run_callFunc Try.func114 (by kernel_rfl) (by kernel_rfl)
set_option maxRecDepth 100000 in
set_option maxHeartbeats 400000 in
theorem s_impl_primeForm {d1 : Int} {p2 : Int} {r : (((Int × Int × Int)) × Bool)} (h : r_impl_primeForm d1 p2 = some r) : CallS Try.prog 114 [I d1, I p2] (.tc (.ag [Ti r.1.1, Ti r.1.2.1, Ti r.1.2.2]) (.tc (Bo r.2) .tn)) [] := by
  refine CallS_of_text (rs := [.w 4 3, .t 5]) (vs := [.cell 4 43, .tmp 5]) Try.func114 rfl rfl (.cons ⟨rfl, wd43⟩ (.cons rfl FitsL.nil)) (by decide) 38 rfl ?_
  unfold r_impl_primeForm at h
  show V _ _ ⟨I d1 :: I p2 :: bt 36 [], []⟩ _
  refine V_sreg (mb 38 19) [32] (s1 := ⟨I d1 :: I p2 :: .bot :: .bot :: .pt 32 0 :: bt 33 [], [(32, .box [Ti 0, Ti 0, Ti 0])]⟩) ?_ ?_
  ·refine L1 rfl rfl (Y1_alloc (z := zv43) rfl zf43 rfl) ?_
   refine L0 rfl rfl (E_assign (Bo false) rfl (by kernel_rfl)) ?_
   refine XL_nil ?_
   kernel_rfl
  refine V_seq ?_
  refine V_sreg (mb 38 83) [32] (s1 := ⟨I d1 :: I p2 :: .bot :: .bot :: .pt 32 0 :: .bot :: I 0 :: bt 31 [], [(32, .box [Ti 0, Ti 0, Ti 0])]⟩) ?_ ?_
  ·refine L0 rfl rfl (E_assign (I 0) rfl (by kernel_rfl)) ?_
   refine XL_nil ?_
   kernel_rfl
  obtain ⟨qo5, hLo5, hko5⟩ := of_bind h
  refine V_toS (q := qo5) (S := fun o5 => ⟨bt 4 (.pt 32 0 :: bt 33 []), [(32, .box [Ti 0, Ti 0, Ti 0])]⟩) (mb 38 16) [32] ?_ ?_
  ·refine V_block (V_loop (fun n s => ∃ (b3 : Int), s.keep (mb 38 83) [32] = (⟨I d1 :: I p2 :: .bot :: .bot :: .pt 32 0 :: .bot :: I b3 :: bt 31 [], [(32, .box [Ti 0, Ti 0, Ti 0])]⟩ : St) ∧ r_impl_primeForm_L4 d1 p2 n b3 = some qo5) FU ⟨_,  by rfl, hLo5⟩ ?_)
   clear hLo5
   rintro n s ⟨b3, hs, h⟩
   refine V_keep _ _ hs ?_
   clear hs
   cases n with
   | zero => cases h
   | succ n =>
    rw [r_impl_primeForm_L4] at h
    refine V_seq ?_
    refine V_sreg (mb 38 1107) [32] (s1 := ⟨I d1 :: I p2 :: .bot :: .bot :: .pt 32 0 :: .bot :: I b3 :: bt 3 (Bo (leI b3 p2) :: bt 27 []), [(32, .box [Ti 0, Ti 0, Ti 0])]⟩) ?_ ?_
    ·refine L0 rfl rfl (E_move (I b3) rfl (by kernel_rfl)) ?_
     refine L0 rfl rfl (E_move (I p2) rfl (by kernel_rfl)) ?_
     refine L0 rfl rfl (Y0_lew (k := .i64) (a := b3) (b := p2) rfl (by kernel_rfl) (by kernel_rfl)) ?_
     refine XL_nil ?_
     kernel_rfl
    refine V_cond rfl (fun hc6 => ?_) (fun hc6 => ?_)
    ·have h := of_true h hc6
     refine V_skip ?_
     show V _ _ _ _
     refine V_seq ?_
     refine V_block ?_
     obtain ⟨z7, hz7, h⟩ := of_bind h
     refine V_sreg (mb 38 2097235) [32] (s1 := ⟨I d1 :: I p2 :: .bot :: .bot :: .pt 32 0 :: .bot :: I b3 :: bt 14 (Bo (eqI (Int.tmod (w64 ((w64 (b3 * b3)) - d1)) (w64 (4 * p2))) 0) :: bt 16 []), [(32, .box [Ti 0, Ti 0, Ti 0])]⟩) ?_ ?_
     ·refine L0 rfl rfl (E_move (I b3) rfl (by kernel_rfl)) ?_
      refine L0 rfl rfl (E_move (I b3) rfl (by kernel_rfl)) ?_
      refine L0 rfl rfl (Y0_mul64 (a := b3) (b := b3) rfl (by kernel_rfl) (by kernel_rfl)) ?_
      refine L0 rfl rfl (E_move (I d1) rfl (by kernel_rfl)) ?_
      refine L0 rfl rfl (Y0_sub64 (a := w64 (b3 * b3)) (b := d1) rfl (by kernel_rfl) (by kernel_rfl)) ?_
      refine L0 rfl rfl (E_move (I p2) rfl (by kernel_rfl)) ?_
      refine L0 rfl rfl (Y0_mul64 (a := 4) (b := p2) rfl (by kernel_rfl) (by kernel_rfl)) ?_
      refine L0 rfl rfl (Y0_rem (k := .i64) (a := w64 ((w64 (b3 * b3)) - d1)) (b := w64 (4 * p2)) rfl (by kernel_rfl) (by kernel_rfl) (nz_some hz7)) ?_
      refine L0 rfl rfl (Y0_eqw (k := .i64) (a := Int.tmod (w64 ((w64 (b3 * b3)) - d1)) (w64 (4 * p2))) (b := 0) rfl (by kernel_rfl) (by kernel_rfl)) ?_
      refine XL_nil ?_
      kernel_rfl
     refine V_cond rfl (fun hc8 => ?_) (fun hc8 => ?_)
     ·have h := of_true h hc8
      obtain ⟨z9, hz9, h⟩ := of_bind h
      obtain ⟨f10, hf10, h⟩ := of_sI h
      refine V_sreg (mb 38 144) [56, 32] (s1 := ⟨bt 4 (.pt 32 0 :: .bot :: .bot :: .pt 56 0 :: bt 30 []), [(56, .box [Ti p2, Ti b3, Ti f10]), (32, .box [Ti 0, Ti 0, Ti 0])]⟩) ?_ ?_
      ·refine L0 rfl rfl (E_move (I p2) rfl (by kernel_rfl)) ?_
       refine L0 rfl rfl (E_move (I b3) rfl (by kernel_rfl)) ?_
       refine L0 rfl rfl (E_move (I b3) rfl (by kernel_rfl)) ?_
       refine L0 rfl rfl (E_move (I b3) rfl (by kernel_rfl)) ?_
       refine L0 rfl rfl (Y0_mul64 (a := b3) (b := b3) rfl (by kernel_rfl) (by kernel_rfl)) ?_
       refine L0 rfl rfl (E_move (I d1) rfl (by kernel_rfl)) ?_
       refine L0 rfl rfl (Y0_sub64 (a := w64 (b3 * b3)) (b := d1) rfl (by kernel_rfl) (by kernel_rfl)) ?_
       refine L0 rfl rfl (E_move (I p2) rfl (by kernel_rfl)) ?_
       refine L0 rfl rfl (Y0_mul64 (a := 4) (b := p2) rfl (by kernel_rfl) (by kernel_rfl)) ?_
       refine L0 rfl rfl (Y0_quo64 (a := w64 ((w64 (b3 * b3)) - d1)) (b := w64 (4 * p2)) rfl (by kernel_rfl) (by kernel_rfl) (nz_some hz9)) ?_
       refine L0 rfl rfl (Y0_build (cs := [Ti p2, Ti b3, Ti (w64 (Int.tdiv (w64 ((w64 (b3 * b3)) - d1)) (w64 (4 * p2))))]) pl43 bt43 rfl rfl (by kernel_rfl)) ?_
       refine L1 rfl rfl (Y1_alloc (z := zv43) rfl zf43 rfl) ?_
       refine XL_cons rfl (E_store (id := 56) (off := 0) (cs := [Ti 0, Ti 0, Ti 0]) (vc := [Ti p2, Ti b3, Ti (w64 (Int.tdiv (w64 ((w64 (b3 * b3)) - d1)) (w64 (4 * p2))))]) [Ti p2, Ti b3, Ti (w64 (Int.tdiv (w64 ((w64 (b3 * b3)) - d1)) (w64 (4 * p2))))] rfl rfl (by kernel_rfl) (by kernel_rfl) (by kernel_rfl) sz43 (Nat.le_of_ble_eq_true rfl) (by kernel_rfl)) ?_
       refine XL_nil ?_
       subst hf10
       kernel_rfl
      obtain ⟨y11, hy11, h⟩ := of_bind h
      refine V_sdreg [0, 0, 2, 6, 7, 31] 5 [[.z, .b, .b, .b, .z], [.b, .z, .z, .z, .z], [.b, .a, .z, .z, .z], [.b, .a, .a, .z, .r 32], [.a, .a, .a, .b, .z]] (mb 38 48) [32] (s1 := ⟨bt 4 (.pt 32 0 :: Bo (eqI y11 1) :: bt 32 []), [(32, .box [Ti p2, Ti b3, Ti f10])]⟩) (by kernel_rfl) (by kernel_rfl) ?_ ?_
      ·refine DE_0 0 (.ag [Ti p2, Ti b3, Ti f10]) (by kernel_rfl) rfl rfl rfl (gsat_none rfl) (by kernel_rfl) (E_loadn (cs := [Ti p2, Ti b3, Ti f10]) [Ti p2, Ti b3, Ti f10] wd43 rfl (by kernel_rfl) (Nat.le_of_ble_eq_true rfl) (by kernel_rfl)) 33 rfl ?_
       refine DE_0 1 (.ag [Ti p2, Ti b3, Ti f10]) (by kernel_rfl) rfl rfl rfl (gsat_none rfl) (by kernel_rfl) (E_loadn (cs := [Ti p2, Ti b3, Ti f10]) [Ti p2, Ti b3, Ti f10] wd43 rfl (by kernel_rfl) (Nat.le_of_ble_eq_true rfl) (by kernel_rfl)) 34 rfl ?_
       refine DE_1 2 (by kernel_rfl) rfl rfl rfl (gsat_none rfl) (Y1_call (s_impl_Form_content hy11) cf_impl_Form_content rfl (by kernel_rfl)) rfl rfl rfl 35 rfl ?_
       refine DE_0 3 (Bo (eqI y11 1)) (by kernel_rfl) rfl rfl rfl (gsat_none rfl) (by kernel_rfl) (Y0_eqw (k := .i64) (a := y11) (b := 1) rfl (by kernel_rfl) (by kernel_rfl)) 36 rfl ?_
       refine DE_2 (off := 0) (cs := [Ti 0, Ti 0, Ti 0]) (vc := [Ti p2, Ti b3, Ti f10]) 4 32 [Ti p2, Ti b3, Ti f10] (by kernel_rfl) rfl rfl rfl (gsat_none rfl) rfl rfl (by kernel_rfl) (by kernel_rfl) (by kernel_rfl) sz43 (Nat.le_of_ble_eq_true rfl) (by kernel_rfl) (by kernel_rfl) (by kernel_rfl) (by kernel_rfl) ?_
       refine DL_nil (by kernel_rfl) ?_
       refine L0 rfl rfl (E_assign (Bo (eqI y11 1)) rfl (by kernel_rfl)) ?_
       refine XL_nil ?_
       kernel_rfl
      refine V_ret ?_
      obtain rfl := some_inj h
      have h := hko5
      obtain rfl := some_inj h
      show Post _ _ _ _ _
      exact ⟨.inr rfl, rfl, rfl, rfl⟩
     ·have h := of_false h hc8
      refine V_skip ?_
      show V _ _ _ _
      obtain ⟨b12, hb12, h⟩ := of_sI h
      refine V_reg (mb 38 83) [32] (s1 := ⟨I d1 :: I p2 :: .bot :: .bot :: .pt 32 0 :: .bot :: I b12 :: bt 31 [], [(32, .box [Ti 0, Ti 0, Ti 0])]⟩) ?_ ?_
      ·refine L0 rfl rfl (E_move (I b3) rfl (by kernel_rfl)) ?_
       refine L0 rfl rfl (Y0_add64 (a := b3) (b := 1) rfl (by kernel_rfl) (by kernel_rfl)) ?_
       refine L0 rfl rfl (E_assign (I (w64 (b3 + 1))) rfl (by kernel_rfl)) ?_
       refine XL_nil ?_
       subst hb12
       kernel_rfl
      exact ⟨n, Nat.lt_succ_self n, _,  by rfl, h⟩
    ·have h := of_false h hc6
     refine V_exit ?_
     obtain rfl := some_inj h
     exact ⟨_, rfl, by rfl⟩
  rintro o5 rfl
  have h := hko5
  clear hko5
  show V _ _ _ _
  refine V_sreg (mb 38 48) [32] (s1 := ⟨bt 4 (.pt 32 0 :: Bo false :: bt 32 []), [(32, .box [Ti 0, Ti 0, Ti 0])]⟩) ?_ ?_
  ·refine L0 rfl rfl (Y0_build (cs := [Ti 0, Ti 0, Ti 0]) pl43 bt43 rfl rfl (by kernel_rfl)) ?_
   refine XL_cons rfl (E_store (id := 32) (off := 0) (cs := [Ti 0, Ti 0, Ti 0]) (vc := [Ti 0, Ti 0, Ti 0]) [Ti 0, Ti 0, Ti 0] rfl rfl (by kernel_rfl) (by kernel_rfl) (by kernel_rfl) sz43 (Nat.le_of_ble_eq_true rfl) (by kernel_rfl)) ?_
   refine L0 rfl rfl (E_assign (Bo false) rfl (by kernel_rfl)) ?_
   refine XL_nil ?_
   kernel_rfl
  refine V_ret ?_
  obtain rfl := some_inj h
  show Post _ _ _ _ _
  exact ⟨.inr rfl, rfl, rfl, rfl⟩
theorem cf_impl_PrimeForm : ∀ args w, (callFunc 78 args).run Try.prog w = .ok (.enter 78 args) w := run_callFunc Try.func78 (by kernel_rfl) (by kernel_rfl)
set_option maxRecDepth 100000 in
set_option maxHeartbeats 400000 in
theorem s_impl_PrimeForm {d1 : Int} {p2 : Int} {r : (((Int × Int × Int)) × Bool)} (h : r_impl_PrimeForm d1 p2 = some r) : CallS Try.prog 78 [I d1, I p2] (.tc (.ag [Ti r.1.1, Ti r.1.2.1, Ti r.1.2.2]) (.tc (Bo r.2) .tn)) [] := by
  refine CallS_of_text (rs := [.w 4 3, .t 5]) (vs := [.cell 4 43, .tmp 5]) Try.func78 rfl rfl (.cons ⟨rfl, wd43⟩ (.cons rfl FitsL.nil)) (by decide) 27 rfl ?_
  unfold r_impl_PrimeForm at h
  show V _ _ ⟨I d1 :: I p2 :: bt 25 [], []⟩ _
  refine V_sreg (mb 27 19) [32] (s1 := ⟨I d1 :: I p2 :: .bot :: .bot :: .pt 32 0 :: bt 22 [], [(32, .box [Ti 0, Ti 0, Ti 0])]⟩) ?_ ?_
  ·refine L1 rfl rfl (Y1_alloc (z := zv43) rfl zf43 rfl) ?_
   refine L0 rfl rfl (E_assign (Bo false) rfl (by kernel_rfl)) ?_
   refine XL_nil ?_
   kernel_rfl
  refine V_seq ?_
  obtain ⟨y3, hy3, h⟩ := of_bind h
  obtain ⟨b6, hb6, h⟩ := of_bind h
  refine V_sreg (mb 27 32787) [32] (s1 := ⟨I d1 :: I p2 :: .bot :: .bot :: .pt 32 0 :: bt 10 (Bo b6 :: bt 11 []), [(32, .box [Ti 0, Ti 0, Ti 0])]⟩) ?_ ?_
  ·refine L0 rfl rfl (E_move (I d1) rfl (by kernel_rfl)) ?_
   refine L1 rfl rfl (Y1_call (s_impl_isNegativeDisc hy3) cf_impl_isNegativeDisc rfl (by kernel_rfl)) ?_
   refine L0 rfl rfl (Y0_not (b := y3) rfl (by kernel_rfl)) ?_
   refine L0 rfl rfl (E_move (Bo (!y3)) rfl (by kernel_rfl)) ?_
   refine XL_split (!y3) (fun hc4 => ?_) (fun hc4 => ?_)
   ·have hb6 := some_inj (of_true hb6 hc4)
    refine XL_skipF _ rfl rfl (by kernel_rfl) hc4 rfl ?_
    refine XL_skipF _ rfl rfl (by kernel_rfl) hc4 rfl ?_
    refine XL_skipF _ rfl rfl (by kernel_rfl) hc4 rfl ?_
    refine XL_cons rfl (X_of_Y0 rfl (Y0_pickTe (b := !y3) (p := true) rfl (by kernel_rfl) hc4 (by kernel_rfl) hb6)) ?_
    refine XL_nil ?_
    kernel_rfl
   ·have hb6 := of_false hb6 hc4
    obtain ⟨y5, hy5, hb6⟩ := of_bind hb6
    have hb6 := some_inj hb6
    refine XL_takeC _ rfl rfl (by kernel_rfl) hc4 (X_of_Y0 rfl (E_move (I p2) rfl (by kernel_rfl))) ?_
    refine XL_takeC _ rfl rfl (by kernel_rfl) hc4 (X_of_Y1 rfl (Y1_call (s_impl_isShownPrime hy5) cf_impl_isShownPrime rfl (by kernel_rfl))) ?_
    refine XL_takeC _ rfl rfl (by kernel_rfl) hc4 (X_of_Y0 rfl (Y0_not (b := y5) rfl (by kernel_rfl))) ?_
    refine XL_cons rfl (X_of_Y0 rfl (Y0_pickFe (b := !y3) (p := !y5) rfl (by kernel_rfl) hc4 (by kernel_rfl) hb6)) ?_
    refine XL_nil ?_
    kernel_rfl
  refine V_cond rfl (fun hc7 => ?_) (fun hc7 => ?_)
  ·have h := of_true h hc7
   refine V_sreg (mb 27 48) [32] (s1 := ⟨bt 4 (.pt 32 0 :: Bo false :: bt 21 []), [(32, .box [Ti 0, Ti 0, Ti 0])]⟩) ?_ ?_
   ·refine L0 rfl rfl (Y0_build (cs := [Ti 0, Ti 0, Ti 0]) pl43 bt43 rfl rfl (by kernel_rfl)) ?_
    refine XL_cons rfl (E_store (id := 32) (off := 0) (cs := [Ti 0, Ti 0, Ti 0]) (vc := [Ti 0, Ti 0, Ti 0]) [Ti 0, Ti 0, Ti 0] rfl rfl (by kernel_rfl) (by kernel_rfl) (by kernel_rfl) sz43 (Nat.le_of_ble_eq_true rfl) (by kernel_rfl)) ?_
    refine L0 rfl rfl (E_assign (Bo false) rfl (by kernel_rfl)) ?_
    refine XL_nil ?_
    kernel_rfl
   refine V_ret ?_
   obtain rfl := some_inj h
   show Post _ _ _ _ _
   exact ⟨.inr rfl, rfl, rfl, rfl⟩
  ·have h := of_false h hc7
   refine V_skip ?_
   show V _ _ _ _
   obtain ⟨y8, hy8, h⟩ := of_bind h
   refine V_sreg (mb 27 208) [48, 32] (s1 := ⟨bt 4 (.pt 32 0 :: .bot :: .pt 48 0 :: Bo y8.2 :: bt 19 []), [(48, .box [Ti y8.1.1, Ti y8.1.2.1, Ti y8.1.2.2]), (32, .box [Ti 0, Ti 0, Ti 0])]⟩) ?_ ?_
   ·refine L0 rfl rfl (E_move (I d1) rfl (by kernel_rfl)) ?_
    refine L0 rfl rfl (E_move (I p2) rfl (by kernel_rfl)) ?_
    refine L1 rfl rfl (Y1_call (s_impl_primeForm hy8) cf_impl_primeForm rfl (by kernel_rfl)) ?_
    refine L0 rfl rfl (E_move (.tc (.ag [Ti y8.1.1, Ti y8.1.2.1, Ti y8.1.2.2]) (.tc (Bo y8.2) .tn)) rfl (by kernel_rfl)) ?_
    refine L0 rfl rfl (E_ext (n := 0) (.ag [Ti y8.1.1, Ti y8.1.2.1, Ti y8.1.2.2]) (.tc (Bo y8.2) .tn) (.ag [Ti y8.1.1, Ti y8.1.2.1, Ti y8.1.2.2]) rfl (by kernel_rfl) (by kernel_rfl) (by intro hh; cases hh)) ?_
    refine L0 rfl rfl (E_ext (n := 1) (.ag [Ti y8.1.1, Ti y8.1.2.1, Ti y8.1.2.2]) (.tc (Bo y8.2) .tn) (Bo y8.2) rfl (by kernel_rfl) (by kernel_rfl) (by intro hh; cases hh)) ?_
    refine L1 rfl rfl (Y1_alloc (z := zv43) rfl zf43 rfl) ?_
    refine XL_cons rfl (E_store (id := 48) (off := 0) (cs := [Ti 0, Ti 0, Ti 0]) (vc := [Ti y8.1.1, Ti y8.1.2.1, Ti y8.1.2.2]) [Ti y8.1.1, Ti y8.1.2.1, Ti y8.1.2.2] rfl rfl (by kernel_rfl) (by kernel_rfl) (by kernel_rfl) sz43 (Nat.le_of_ble_eq_true rfl) (by kernel_rfl)) ?_
    refine L0 rfl rfl (E_assign (Bo y8.2) rfl (by kernel_rfl)) ?_
    refine XL_nil ?_
    kernel_rfl
   refine V_seq ?_
   refine V_sreg (mb 27 16777296) [48, 32] (s1 := ⟨bt 4 (.pt 32 0 :: .bot :: .pt 48 0 :: bt 17 (Bo (!y8.2) :: .bot :: .bot :: [])), [(48, .box [Ti y8.1.1, Ti y8.1.2.1, Ti y8.1.2.2]), (32, .box [Ti 0, Ti 0, Ti 0])]⟩) ?_ ?_
   ·refine L0 rfl rfl (E_move (Bo y8.2) rfl (by kernel_rfl)) ?_
    refine L0 rfl rfl (Y0_not (b := y8.2) rfl (by kernel_rfl)) ?_
    refine XL_nil ?_
    kernel_rfl
   refine V_cond rfl (fun hc9 => ?_) (fun hc9 => ?_)
   ·have h := of_true h hc9
    refine V_sreg (mb 27 48) [32] (s1 := ⟨bt 4 (.pt 32 0 :: Bo false :: bt 21 []), [(32, .box [Ti 0, Ti 0, Ti 0])]⟩) ?_ ?_
    ·refine L0 rfl rfl (Y0_build (cs := [Ti 0, Ti 0, Ti 0]) pl43 bt43 rfl rfl (by kernel_rfl)) ?_
     refine XL_cons rfl (E_store (id := 32) (off := 0) (cs := [Ti 0, Ti 0, Ti 0]) (vc := [Ti 0, Ti 0, Ti 0]) [Ti 0, Ti 0, Ti 0] rfl rfl (by kernel_rfl) (by kernel_rfl) (by kernel_rfl) sz43 (Nat.le_of_ble_eq_true rfl) (by kernel_rfl)) ?_
     refine L0 rfl rfl (E_assign (Bo false) rfl (by kernel_rfl)) ?_
     refine XL_nil ?_
     kernel_rfl
    refine V_ret ?_
    obtain rfl := some_inj h
    show Post _ _ _ _ _
    exact ⟨.inr rfl, rfl, rfl, rfl⟩
   ·have h := of_false h hc9
    refine V_skip ?_
    show V _ _ _ _
    refine V_sreg (mb 27 48) [32] (s1 := ⟨bt 4 (.pt 32 0 :: Bo true :: bt 21 []), [(32, .box [Ti y8.1.1, Ti y8.1.2.1, Ti y8.1.2.2])]⟩) ?_ ?_
    ·refine L0 rfl rfl (E_loadn (cs := [Ti y8.1.1, Ti y8.1.2.1, Ti y8.1.2.2]) [Ti y8.1.1, Ti y8.1.2.1, Ti y8.1.2.2] wd43 rfl (by kernel_rfl) (Nat.le_of_ble_eq_true rfl) (by kernel_rfl)) ?_
     refine XL_cons rfl (E_store (id := 32) (off := 0) (cs := [Ti 0, Ti 0, Ti 0]) (vc := [Ti y8.1.1, Ti y8.1.2.1, Ti y8.1.2.2]) [Ti y8.1.1, Ti y8.1.2.1, Ti y8.1.2.2] rfl rfl (by kernel_rfl) (by kernel_rfl) (by kernel_rfl) sz43 (Nat.le_of_ble_eq_true rfl) (by kernel_rfl)) ?_
     refine L0 rfl rfl (E_assign (Bo true) rfl (by kernel_rfl)) ?_
     refine XL_nil ?_
     kernel_rfl
    refine V_ret ?_
    obtain rfl := some_inj h
    show Post _ _ _ _ _
    exact ⟨.inr rfl, rfl, rfl, rfl⟩
theorem cf_impl_one : ∀ args w, (callFunc 132 args).run Try.prog w = .ok (.enter 132 args) w := run_callFunc Try.func132 (by kernel_rfl) (by kernel_rfl)
set_option maxRecDepth 100000 in
set_option maxHeartbeats 400000 in
theorem s_impl_one {r : (Int × Int × Int × Int)} (h : r_impl_one = some r) : CallS Try.prog 132 [] (.ag [Ti r.1, Ti r.2.1, Ti r.2.2.1, Ti r.2.2.2]) [] := by
  refine CallS_of_text (rs := [.w 0 4]) (vs := [.cell 0 99]) Try.func132 rfl rfl (.cons ⟨rfl, wd99⟩ FitsL.nil) (by decide) 2 rfl ?_
  unfold r_impl_one at h
  show V _ _ ⟨.bot :: .bot :: [], []⟩ _
  refine V_sreg (mb 2 1) [0] (s1 := ⟨.pt 0 0 :: .bot :: [], [(0, .box [Ti 0, Ti 0, Ti 0, Ti 0])]⟩) ?_ ?_
  ·refine L1 rfl rfl (Y1_alloc (z := zv99) rfl zf99 rfl) ?_
   refine XL_nil ?_
   kernel_rfl
  refine V_sreg (mb 2 1) [0] (s1 := ⟨.pt 0 0 :: .bot :: [], [(0, .box [Ti 1, Ti 0, Ti 0, Ti 1])]⟩) ?_ ?_
  ·refine L0 rfl rfl (Y0_build (cs := [Ti 1, Ti 0, Ti 0, Ti 1]) pl99 bt99 rfl rfl (by kernel_rfl)) ?_
   refine XL_cons rfl (E_store (id := 0) (off := 0) (cs := [Ti 0, Ti 0, Ti 0, Ti 0]) (vc := [Ti 1, Ti 0, Ti 0, Ti 1]) [Ti 1, Ti 0, Ti 0, Ti 1] rfl rfl (by kernel_rfl) (by kernel_rfl) (by kernel_rfl) sz99 (Nat.le_of_ble_eq_true rfl) (by kernel_rfl)) ?_
   refine XL_nil ?_
   kernel_rfl
  refine V_ret ?_
  obtain rfl := some_inj h
  show Post _ _ _ _ _
  exact ⟨.inr rfl, rfl, rfl, rfl⟩
theorem cf_impl_floorDiv : ∀ args w, (callFunc 142 args).run Try.prog w = .ok (.enter 142 args) w := run_callFunc Try.func142 (by kernel_rfl) (by kernel_rfl)
set_option maxRecDepth 100000 in
set_option maxHeartbeats 400000 in
theorem s_impl_floorDiv {a1 : Int} {vm2 : Int} {r : Int} (h : r_impl_floorDiv a1 vm2 = some r) : CallS Try.prog 142 [I a1, I vm2] (I r) [] := by
  refine CallS_of_text (rs := [.t 4]) (vs := [.tmp 4]) Try.func142 rfl rfl (.cons rfl FitsL.nil) (by decide) 12 rfl ?_
  unfold r_impl_floorDiv at h
  show V _ _ ⟨I a1 :: I vm2 :: bt 10 [], []⟩ _
  refine V_sreg (mb 12 3) [] (s1 := ⟨I a1 :: I vm2 :: bt 10 [], []⟩) ?_ ?_
  ·refine L0 rfl rfl (E_assign (I 0) rfl (by kernel_rfl)) ?_
   refine XL_nil ?_
   kernel_rfl
  obtain ⟨y3, hy3, h⟩ := of_bind h
  obtain ⟨z4, hz4, h⟩ := of_bind h
  obtain ⟨t5, ht5, h⟩ := of_sI h
  refine V_sreg (mb 12 16) [] (s1 := ⟨bt 4 (I t5 :: bt 7 []), []⟩) ?_ ?_
  ·refine L0 rfl rfl (E_move (I a1) rfl (by kernel_rfl)) ?_
   refine L0 rfl rfl (E_move (I a1) rfl (by kernel_rfl)) ?_
   refine L0 rfl rfl (E_move (I vm2) rfl (by kernel_rfl)) ?_
   refine L1 rfl rfl (Y1_call (s_impl_mod hy3) cf_impl_mod rfl (by kernel_rfl)) ?_
   refine L0 rfl rfl (Y0_sub64 (a := a1) (b := y3) rfl (by kernel_rfl) (by kernel_rfl)) ?_
   refine L0 rfl rfl (E_move (I vm2) rfl (by kernel_rfl)) ?_
   refine L0 rfl rfl (Y0_quo64 (a := w64 (a1 - y3)) (b := vm2) rfl (by kernel_rfl) (by kernel_rfl) (nz_some hz4)) ?_
   refine L0 rfl rfl (E_assign (I (w64 (Int.tdiv (w64 (a1 - y3)) vm2))) rfl (by kernel_rfl)) ?_
   refine XL_nil ?_
   subst ht5
   kernel_rfl
  refine V_ret ?_
  obtain rfl := some_inj h
  show Post _ _ _ _ _
  exact ⟨.inr rfl, rfl, rfl, rfl⟩
theorem cf_impl_Form_step : ∀ args w, (callFunc 133 args).run Try.prog w = .ok (.enter 133 args) w := run_callFunc Try.func133 (by kernel_rfl) (by kernel_rfl)
set_option maxRecDepth 100000 in
set_option maxHeartbeats 400000 in
theorem s_impl_Form_step {f1 : (Int × Int × Int)} {r : (Int × Int × Int × Int)} (h : r_impl_Form_step f1 = some r) : CallS Try.prog 133 [.ag [Ti f1.1, Ti f1.2.1, Ti f1.2.2]] (.ag [Ti r.1, Ti r.2.1, Ti r.2.2.1, Ti r.2.2.2]) [] := by
  refine CallS_of_text (rs := [.w 2 4]) (vs := [.cell 2 99]) Try.func133 rfl rfl (.cons ⟨rfl, wd99⟩ FitsL.nil) (by decide) 22 rfl ?_
  unfold r_impl_Form_step at h
  show V _ _ ⟨.ag [Ti f1.1, Ti f1.2.1, Ti f1.2.2] :: bt 21 [], []⟩ _
  refine V_sreg (mb 22 6) [16, 8] (s1 := ⟨.bot :: .pt 8 0 :: .pt 16 0 :: bt 19 [], [(16, .box [Ti 0, Ti 0, Ti 0, Ti 0]), (8, .box [Ti f1.1, Ti f1.2.1, Ti f1.2.2])]⟩) ?_ ?_
  ·refine L1 rfl rfl (Y1_box (cs := [Ti f1.1, Ti f1.2.1, Ti f1.2.2]) rfl (by kernel_rfl)) ?_
   refine L1 rfl rfl (Y1_alloc (z := zv99) rfl zf99 rfl) ?_
   refine XL_nil ?_
   kernel_rfl
  refine V_seq ?_
  refine V_block ?_
  obtain ⟨y2, hy2, h⟩ := of_bind h
  refine V_sreg (mb 22 14) [16, 8] (s1 := ⟨.bot :: .pt 8 0 :: .pt 16 0 :: Bo y2 :: bt 18 [], [(16, .box [Ti 0, Ti 0, Ti 0, Ti 0]), (8, .box [Ti f1.1, Ti f1.2.1, Ti f1.2.2])]⟩) ?_ ?_
  ·refine L0 rfl rfl (E_loadn (cs := [Ti f1.1, Ti f1.2.1, Ti f1.2.2]) [Ti f1.1, Ti f1.2.1, Ti f1.2.2] wd43 rfl (by kernel_rfl) (Nat.le_of_ble_eq_true rfl) (by kernel_rfl)) ?_
   refine L1 rfl rfl (Y1_call (s_impl_Form_isReduced hy2) cf_impl_Form_isReduced rfl (by kernel_rfl)) ?_
   refine L0 rfl rfl (E_assign (Bo y2) rfl (by kernel_rfl)) ?_
   refine XL_nil ?_
   kernel_rfl
  refine V_cond rfl (fun hc3 => ?_) (fun hc3 => ?_)
  ·have h := of_true h hc3
   obtain ⟨y4, hy4, h⟩ := of_bind h
   refine V_sreg (mb 22 4) [16] (s1 := ⟨.bot :: .bot :: .pt 16 0 :: bt 19 [], [(16, .box [Ti y4.1, Ti y4.2.1, Ti y4.2.2.1, Ti y4.2.2.2])]⟩) ?_ ?_
   ·refine L1 rfl rfl (Y1_call (s_impl_one hy4) cf_impl_one rfl (by kernel_rfl)) ?_
    refine XL_cons rfl (E_store (id := 16) (off := 0) (cs := [Ti 0, Ti 0, Ti 0, Ti 0]) (vc := [Ti y4.1, Ti y4.2.1, Ti y4.2.2.1, Ti y4.2.2.2]) [Ti y4.1, Ti y4.2.1, Ti y4.2.2.1, Ti y4.2.2.2] rfl rfl (by kernel_rfl) (by kernel_rfl) (by kernel_rfl) sz99 (Nat.le_of_ble_eq_true rfl) (by kernel_rfl)) ?_
    refine XL_nil ?_
    kernel_rfl
   refine V_ret ?_
   obtain rfl := some_inj h
   show Post _ _ _ _ _
   exact ⟨.inr rfl, rfl, rfl, rfl⟩
  ·have h := of_false h hc3
   obtain ⟨y5, hy5, h⟩ := of_bind h
   refine V_sreg (mb 22 134) [16, 8] (s1 := ⟨.bot :: .pt 8 0 :: .pt 16 0 :: bt 4 (Bo (!y5) :: bt 14 []), [(16, .box [Ti 0, Ti 0, Ti 0, Ti 0]), (8, .box [Ti f1.1, Ti f1.2.1, Ti f1.2.2])]⟩) ?_ ?_
   ·refine L0 rfl rfl (E_loadn (cs := [Ti f1.1, Ti f1.2.1, Ti f1.2.2]) [Ti f1.1, Ti f1.2.1, Ti f1.2.2] wd43 rfl (by kernel_rfl) (Nat.le_of_ble_eq_true rfl) (by kernel_rfl)) ?_
    refine L1 rfl rfl (Y1_call (s_impl_Form_isNormal hy5) cf_impl_Form_isNormal rfl (by kernel_rfl)) ?_
    refine L0 rfl rfl (Y0_not (b := y5) rfl (by kernel_rfl)) ?_
    refine L0 rfl rfl (E_assign (Bo (!y5)) rfl (by kernel_rfl)) ?_
    refine XL_nil ?_
    kernel_rfl
   refine V_cond rfl (fun hc6 => ?_) (fun hc6 => ?_)
   ·have h := of_true h hc6
    obtain ⟨y7, hy7, h⟩ := of_bind h
    refine V_sreg (mb 22 4) [16] (s1 := ⟨.bot :: .bot :: .pt 16 0 :: bt 19 [], [(16, .box [Ti 1, Ti y7, Ti 0, Ti 1])]⟩) ?_ ?_
    ·refine L0 rfl rfl (E_field (.pt 8 0) Try.underlying43 rfl sz3 rfl (by kernel_rfl) (by intro hh; cases hh)) ?_
     refine L0 rfl rfl (Y0_load1 (c := Ti f1.1) (cs := [Ti f1.2.1, Ti f1.2.2]) sc3 rfl (by kernel_rfl)) ?_
     refine L0 rfl rfl (E_field (.pt 8 1) Try.underlying43 rfl sz3 rfl (by kernel_rfl) (by intro hh; cases hh)) ?_
     refine L0 rfl rfl (Y0_load1 (c := Ti f1.2.1) (cs := [Ti f1.2.2]) sc3 rfl (by kernel_rfl)) ?_
     refine L0 rfl rfl (Y0_sub64 (a := f1.1) (b := f1.2.1) rfl (by kernel_rfl) (by kernel_rfl)) ?_
     refine L0 rfl rfl (E_field (.pt 8 0) Try.underlying43 rfl sz3 rfl (by kernel_rfl) (by intro hh; cases hh)) ?_
     refine L0 rfl rfl (Y0_load1 (c := Ti f1.1) (cs := [Ti f1.2.1, Ti f1.2.2]) sc3 rfl (by kernel_rfl)) ?_
     refine L0 rfl rfl (Y0_mul64 (a := 2) (b := f1.1) rfl (by kernel_rfl) (by kernel_rfl)) ?_
     refine L1 rfl rfl (Y1_call (s_impl_floorDiv hy7) cf_impl_floorDiv rfl (by kernel_rfl)) ?_
     refine L0 rfl rfl (Y0_build (cs := [Ti 1, Ti y7, Ti 0, Ti 1]) pl99 bt99 rfl rfl (by kernel_rfl)) ?_
     refine XL_cons rfl (E_store (id := 16) (off := 0) (cs := [Ti 0, Ti 0, Ti 0, Ti 0]) (vc := [Ti 1, Ti y7, Ti 0, Ti 1]) [Ti 1, Ti y7, Ti 0, Ti 1] rfl rfl (by kernel_rfl) (by kernel_rfl) (by kernel_rfl) sz99 (Nat.le_of_ble_eq_true rfl) (by kernel_rfl)) ?_
     refine XL_nil ?_
     kernel_rfl
    refine V_ret ?_
    obtain rfl := some_inj h
    show Post _ _ _ _ _
    exact ⟨.inr rfl, rfl, rfl, rfl⟩
   ·have h := of_false h hc6
    refine V_skip ?_
    show V _ _ _ _
    refine V_sreg (mb 22 4) [16] (s1 := ⟨.bot :: .bot :: .pt 16 0 :: bt 19 [], [(16, .box [Ti 0, Ti (-1), Ti 1, Ti 0])]⟩) ?_ ?_
    ·refine L0 rfl rfl (Y0_build (cs := [Ti 0, Ti (-1), Ti 1, Ti 0]) pl99 bt99 rfl rfl (by kernel_rfl)) ?_
     refine XL_cons rfl (E_store (id := 16) (off := 0) (cs := [Ti 0, Ti 0, Ti 0, Ti 0]) (vc := [Ti 0, Ti (-1), Ti 1, Ti 0]) [Ti 0, Ti (-1), Ti 1, Ti 0] rfl rfl (by kernel_rfl) (by kernel_rfl) (by kernel_rfl) sz99 (Nat.le_of_ble_eq_true rfl) (by kernel_rfl)) ?_
     refine XL_nil ?_
     kernel_rfl
    refine V_ret ?_
    obtain rfl := some_inj h
    show Post _ _ _ _ _
    exact ⟨.inr rfl, rfl, rfl, rfl⟩
theorem cf_impl_Form_at : ∀ args w, (callFunc 119 args).run Try.prog w = .ok (.enter 119 args) w := run_callFunc Try.func119 (by kernel_rfl) (by kernel_rfl)
set_option maxRecDepth 100000 in
set_option maxHeartbeats 400000 in
theorem s_impl_Form_at {f1 : (Int × Int × Int)} {x2 : Int} {y3 : Int} {r : Int} (h : r_impl_Form_at f1 x2 y3 = some r) : CallS Try.prog 119 [.ag [Ti f1.1, Ti f1.2.1, Ti f1.2.2], I x2, I y3] (I r) [] := by
  refine CallS_of_text (rs := [.t 6]) (vs := [.tmp 6]) Try.func119 rfl rfl (.cons rfl FitsL.nil) (by decide) 27 rfl ?_
  unfold r_impl_Form_at at h
  show V _ _ ⟨.ag [Ti f1.1, Ti f1.2.1, Ti f1.2.2] :: I x2 :: I y3 :: bt 24 [], []⟩ _
  refine V_sreg (mb 27 14) [24] (s1 := ⟨.bot :: I x2 :: I y3 :: .pt 24 0 :: bt 23 [], [(24, .box [Ti f1.1, Ti f1.2.1, Ti f1.2.2])]⟩) ?_ ?_
  ·refine L1 rfl rfl (Y1_box (cs := [Ti f1.1, Ti f1.2.1, Ti f1.2.2]) rfl (by kernel_rfl)) ?_
   refine L0 rfl rfl (E_assign (I 0) rfl (by kernel_rfl)) ?_
   refine XL_nil ?_
   kernel_rfl
  obtain ⟨t4, ht4, h⟩ := of_sI h
  refine V_sreg (mb 27 64) [] (s1 := ⟨bt 6 (I t4 :: bt 20 []), []⟩) ?_ ?_
  ·refine L0 rfl rfl (E_field (.pt 24 0) Try.underlying43 rfl sz3 rfl (by kernel_rfl) (by intro hh; cases hh)) ?_
   refine L0 rfl rfl (Y0_load1 (c := Ti f1.1) (cs := [Ti f1.2.1, Ti f1.2.2]) sc3 rfl (by kernel_rfl)) ?_
   refine L0 rfl rfl (E_move (I x2) rfl (by kernel_rfl)) ?_
   refine L0 rfl rfl (Y0_mul64 (a := f1.1) (b := x2) rfl (by kernel_rfl) (by kernel_rfl)) ?_
   refine L0 rfl rfl (E_move (I x2) rfl (by kernel_rfl)) ?_
   refine L0 rfl rfl (Y0_mul64 (a := w64 (f1.1 * x2)) (b := x2) rfl (by kernel_rfl) (by kernel_rfl)) ?_
   refine L0 rfl rfl (E_field (.pt 24 1) Try.underlying43 rfl sz3 rfl (by kernel_rfl) (by intro hh; cases hh)) ?_
   refine L0 rfl rfl (Y0_load1 (c := Ti f1.2.1) (cs := [Ti f1.2.2]) sc3 rfl (by kernel_rfl)) ?_
   refine L0 rfl rfl (E_move (I x2) rfl (by kernel_rfl)) ?_
   refine L0 rfl rfl (Y0_mul64 (a := f1.2.1) (b := x2) rfl (by kernel_rfl) (by kernel_rfl)) ?_
   refine L0 rfl rfl (E_move (I y3) rfl (by kernel_rfl)) ?_
   refine L0 rfl rfl (Y0_mul64 (a := w64 (f1.2.1 * x2)) (b := y3) rfl (by kernel_rfl) (by kernel_rfl)) ?_
   refine L0 rfl rfl (Y0_add64 (a := w64 ((w64 (f1.1 * x2)) * x2)) (b := w64 ((w64 (f1.2.1 * x2)) * y3)) rfl (by kernel_rfl) (by kernel_rfl)) ?_
   refine L0 rfl rfl (E_field (.pt 24 2) Try.underlying43 rfl sz3 rfl (by kernel_rfl) (by intro hh; cases hh)) ?_
   refine L0 rfl rfl (Y0_load1 (c := Ti f1.2.2) (cs := []) sc3 rfl (by kernel_rfl)) ?_
   refine L0 rfl rfl (E_move (I y3) rfl (by kernel_rfl)) ?_
   refine L0 rfl rfl (Y0_mul64 (a := f1.2.2) (b := y3) rfl (by kernel_rfl) (by kernel_rfl)) ?_
   refine L0 rfl rfl (E_move (I y3) rfl (by kernel_rfl)) ?_
   refine L0 rfl rfl (Y0_mul64 (a := w64 (f1.2.2 * y3)) (b := y3) rfl (by kernel_rfl) (by kernel_rfl)) ?_
   refine L0 rfl rfl (Y0_add64 (a := w64 ((w64 ((w64 (f1.1 * x2)) * x2)) + (w64 ((w64 (f1.2.1 * x2)) * y3)))) (b := w64 ((w64 (f1.2.2 * y3)) * y3)) rfl (by kernel_rfl) (by kernel_rfl)) ?_
   refine L0 rfl rfl (E_assign (I (w64 ((w64 ((w64 ((w64 (f1.1 * x2)) * x2)) + (w64 ((w64 (f1.2.1 * x2)) * y3)))) + (w64 ((w64 (f1.2.2 * y3)) * y3))))) rfl (by kernel_rfl)) ?_
   refine XL_nil ?_
   subst ht4
   kernel_rfl
  refine V_ret ?_
  obtain rfl := some_inj h
  show Post _ _ _ _ _
  exact ⟨.inr rfl, rfl, rfl, rfl⟩
theorem cf_impl_Form_polar : ∀ args w, (callFunc 143 args).run Try.prog w = .ok (.enter 143 args) w := run_callFunc Try.func143 (by kernel_rfl) (by kernel_rfl)
set_option maxRecDepth 100000 in
set_option maxHeartbeats 400000 in
theorem s_impl_Form_polar {f1 : (Int × Int × Int)} {x2 : Int} {y3 : Int} {u4 : Int} {v5 : Int} {r : Int} (h : r_impl_Form_polar f1 x2 y3 u4 v5 = some r) : CallS Try.prog 143 [.ag [Ti f1.1, Ti f1.2.1, Ti f1.2.2], I x2, I y3, I u4, I v5] (I r) [] := by
  refine CallS_of_text (rs := [.t 10]) (vs := [.tmp 10]) Try.func143 rfl rfl (.cons rfl FitsL.nil) (by decide) 37 rfl ?_
  unfold r_impl_Form_polar at h
  show V _ _ ⟨.ag [Ti f1.1, Ti f1.2.1, Ti f1.2.2] :: I x2 :: I y3 :: I u4 :: I v5 :: bt 32 [], []⟩ _
  refine V_sreg (mb 37 62) [40] (s1 := ⟨.bot :: I x2 :: I y3 :: I u4 :: I v5 :: .pt 40 0 :: bt 31 [], [(40, .box [Ti f1.1, Ti f1.2.1, Ti f1.2.2])]⟩) ?_ ?_
  ·refine L1 rfl rfl (Y1_box (cs := [Ti f1.1, Ti f1.2.1, Ti f1.2.2]) rfl (by kernel_rfl)) ?_
   refine L0 rfl rfl (E_assign (I 0) rfl (by kernel_rfl)) ?_
   refine XL_nil ?_
   kernel_rfl
  obtain ⟨t6, ht6, h⟩ := of_sI h
  refine V_sreg (mb 37 1024) [] (s1 := ⟨bt 10 (I t6 :: bt 26 []), []⟩) ?_ ?_
  ·refine L0 rfl rfl (E_field (.pt 40 0) Try.underlying43 rfl sz3 rfl (by kernel_rfl) (by intro hh; cases hh)) ?_
   refine L0 rfl rfl (Y0_load1 (c := Ti f1.1) (cs := [Ti f1.2.1, Ti f1.2.2]) sc3 rfl (by kernel_rfl)) ?_
   refine L0 rfl rfl (Y0_mul64 (a := 2) (b := f1.1) rfl (by kernel_rfl) (by kernel_rfl)) ?_
   refine L0 rfl rfl (E_move (I x2) rfl (by kernel_rfl)) ?_
   refine L0 rfl rfl (Y0_mul64 (a := w64 (2 * f1.1)) (b := x2) rfl (by kernel_rfl) (by kernel_rfl)) ?_
   refine L0 rfl rfl (E_move (I u4) rfl (by kernel_rfl)) ?_
   refine L0 rfl rfl (Y0_mul64 (a := w64 ((w64 (2 * f1.1)) * x2)) (b := u4) rfl (by kernel_rfl) (by kernel_rfl)) ?_
   refine L0 rfl rfl (E_field (.pt 40 1) Try.underlying43 rfl sz3 rfl (by kernel_rfl) (by intro hh; cases hh)) ?_
   refine L0 rfl rfl (Y0_load1 (c := Ti f1.2.1) (cs := [Ti f1.2.2]) sc3 rfl (by kernel_rfl)) ?_
   refine L0 rfl rfl (E_move (I x2) rfl (by kernel_rfl)) ?_
   refine L0 rfl rfl (E_move (I v5) rfl (by kernel_rfl)) ?_
   refine L0 rfl rfl (Y0_mul64 (a := x2) (b := v5) rfl (by kernel_rfl) (by kernel_rfl)) ?_
   refine L0 rfl rfl (E_move (I y3) rfl (by kernel_rfl)) ?_
   refine L0 rfl rfl (E_move (I u4) rfl (by kernel_rfl)) ?_
   refine L0 rfl rfl (Y0_mul64 (a := y3) (b := u4) rfl (by kernel_rfl) (by kernel_rfl)) ?_
   refine L0 rfl rfl (Y0_add64 (a := w64 (x2 * v5)) (b := w64 (y3 * u4)) rfl (by kernel_rfl) (by kernel_rfl)) ?_
   refine L0 rfl rfl (Y0_mul64 (a := f1.2.1) (b := w64 ((w64 (x2 * v5)) + (w64 (y3 * u4)))) rfl (by kernel_rfl) (by kernel_rfl)) ?_
   refine L0 rfl rfl (Y0_add64 (a := w64 ((w64 ((w64 (2 * f1.1)) * x2)) * u4)) (b := w64 (f1.2.1 * (w64 ((w64 (x2 * v5)) + (w64 (y3 * u4)))))) rfl (by kernel_rfl) (by kernel_rfl)) ?_
   refine L0 rfl rfl (E_field (.pt 40 2) Try.underlying43 rfl sz3 rfl (by kernel_rfl) (by intro hh; cases hh)) ?_
   refine L0 rfl rfl (Y0_load1 (c := Ti f1.2.2) (cs := []) sc3 rfl (by kernel_rfl)) ?_
   refine L0 rfl rfl (Y0_mul64 (a := 2) (b := f1.2.2) rfl (by kernel_rfl) (by kernel_rfl)) ?_
   refine L0 rfl rfl (E_move (I y3) rfl (by kernel_rfl)) ?_
   refine L0 rfl rfl (Y0_mul64 (a := w64 (2 * f1.2.2)) (b := y3) rfl (by kernel_rfl) (by kernel_rfl)) ?_
   refine L0 rfl rfl (E_move (I v5) rfl (by kernel_rfl)) ?_
   refine L0 rfl rfl (Y0_mul64 (a := w64 ((w64 (2 * f1.2.2)) * y3)) (b := v5) rfl (by kernel_rfl) (by kernel_rfl)) ?_
   refine L0 rfl rfl (Y0_add64 (a := w64 ((w64 ((w64 ((w64 (2 * f1.1)) * x2)) * u4)) + (w64 (f1.2.1 * (w64 ((w64 (x2 * v5)) + (w64 (y3 * u4)))))))) (b := w64 ((w64 ((w64 (2 * f1.2.2)) * y3)) * v5)) rfl (by kernel_rfl) (by kernel_rfl)) ?_
   refine L0 rfl rfl (E_assign (I (w64 ((w64 ((w64 ((w64 ((w64 (2 * f1.1)) * x2)) * u4)) + (w64 (f1.2.1 * (w64 ((w64 (x2 * v5)) + (w64 (y3 * u4)))))))) + (w64 ((w64 ((w64 (2 * f1.2.2)) * y3)) * v5))))) rfl (by kernel_rfl)) ?_
   refine XL_nil ?_
   subst ht6
   kernel_rfl
  refine V_ret ?_
  obtain rfl := some_inj h
  show Post _ _ _ _ _
  exact ⟨.inr rfl, rfl, rfl, rfl⟩
theorem cf_impl_Form_substitute : ∀ args w, (callFunc 134 args).run Try.prog w = .ok (.enter 134 args) w := run_callFunc Try.func134 (by kernel_rfl) (by kernel_rfl)
set_option maxRecDepth 100000 in
set_option maxHeartbeats 400000 in
theorem s_impl_Form_substitute {f1 : (Int × Int × Int)} {vm2 : (Int × Int × Int × Int)} {r : (Int × Int × Int)} (h : r_impl_Form_substitute f1 vm2 = some r) : CallS Try.prog 134 [.ag [Ti f1.1, Ti f1.2.1, Ti f1.2.2], .ag [Ti vm2.1, Ti vm2.2.1, Ti vm2.2.2.1, Ti vm2.2.2.2]] (.ag [Ti r.1, Ti r.2.1, Ti r.2.2]) [] := by
  refine CallS_of_text (rs := [.w 4 3]) (vs := [.cell 4 43]) Try.func134 rfl rfl (.cons ⟨rfl, wd43⟩ FitsL.nil) (by decide) 28 rfl ?_
  unfold r_impl_Form_substitute at h
  show V _ _ ⟨.ag [Ti f1.1, Ti f1.2.1, Ti f1.2.2] :: .ag [Ti vm2.1, Ti vm2.2.1, Ti vm2.2.2.1, Ti vm2.2.2.2] :: bt 26 [], []⟩ _
  refine V_sreg (mb 28 28) [32, 24, 16] (s1 := ⟨.bot :: .bot :: .pt 16 0 :: .pt 24 0 :: .pt 32 0 :: bt 23 [], [(32, .box [Ti 0, Ti 0, Ti 0]), (24, .box [Ti vm2.1, Ti vm2.2.1, Ti vm2.2.2.1, Ti vm2.2.2.2]), (16, .box [Ti f1.1, Ti f1.2.1, Ti f1.2.2])]⟩) ?_ ?_
  ·refine L1 rfl rfl (Y1_box (cs := [Ti f1.1, Ti f1.2.1, Ti f1.2.2]) rfl (by kernel_rfl)) ?_
   refine L1 rfl rfl (Y1_box (cs := [Ti vm2.1, Ti vm2.2.1, Ti vm2.2.2.1, Ti vm2.2.2.2]) rfl (by kernel_rfl)) ?_
   refine L1 rfl rfl (Y1_alloc (z := zv43) rfl zf43 rfl) ?_
   refine XL_nil ?_
   kernel_rfl
  obtain ⟨y3, hy3, h⟩ := of_bind h
  obtain ⟨y4, hy4, h⟩ := of_bind h
  obtain ⟨y5, hy5, h⟩ := of_bind h
  refine V_sdreg [0, 0, 2, 0, 8, 31, 0, 0, 128, 0, 512, 0, 2048, 0, 8192, 32767, 0, 0, 131072, 0, 524288, 2097151, 4194303, 8388607] 23 [[.z, .b, .b, .b, .b, .z, .b, .b, .b, .b, .b, .b, .b, .b, .b, .z, .b, .b, .b, .b, .b, .z, .z], [.b, .z, .z, .b, .b, .z, .b, .b, .b, .b, .b, .b, .b, .b, .b, .z, .b, .b, .b, .b, .b, .z, .z], [.b, .a, .z, .b, .b, .z, .b, .b, .b, .b, .b, .b, .b, .b, .b, .z, .b, .b, .b, .b, .b, .z, .z], [.b, .b, .b, .z, .z, .z, .b, .b, .b, .b, .b, .b, .b, .b, .b, .z, .b, .b, .b, .b, .b, .z, .z], [.b, .b, .b, .a, .z, .z, .b, .b, .b, .b, .b, .b, .b, .b, .b, .z, .b, .b, .b, .b, .b, .z, .z], [.a, .a, .a, .a, .a, .z, .b, .b, .b, .b, .b, .b, .b, .b, .b, .z, .b, .b, .b, .b, .b, .z, .z], [.b, .b, .b, .b, .b, .b, .z, .b, .b, .b, .b, .b, .b, .b, .b, .z, .b, .b, .b, .b, .b, .z, .z], [.b, .b, .b, .b, .b, .b, .b, .z, .z, .b, .b, .b, .b, .b, .b, .z, .b, .b, .b, .b, .b, .z, .z], [.b, .b, .b, .b, .b, .b, .b, .a, .z, .b, .b, .b, .b, .b, .b, .z, .b, .b, .b, .b, .b, .z, .z], [.b, .b, .b, .b, .b, .b, .b, .b, .b, .z, .z, .b, .b, .b, .b, .z, .b, .b, .b, .b, .b, .z, .z], [.b, .b, .b, .b, .b, .b, .b, .b, .b, .a, .z, .b, .b, .b, .b, .z, .b, .b, .b, .b, .b, .z, .z], [.b, .b, .b, .b, .b, .b, .b, .b, .b, .b, .b, .z, .z, .b, .b, .z, .b, .b, .b, .b, .b, .z, .z], [.b, .b, .b, .b, .b, .b, .b, .b, .b, .b, .b, .a, .z, .b, .b, .z, .b, .b, .b, .b, .b, .z, .z], [.b, .b, .b, .b, .b, .b, .b, .b, .b, .b, .b, .b, .b, .z, .z, .z, .b, .b, .b, .b, .b, .z, .z], [.b, .b, .b, .b, .b, .b, .b, .b, .b, .b, .b, .b, .b, .a, .z, .z, .b, .b, .b, .b, .b, .z, .z], [.a, .a, .a, .a, .a, .a, .a, .a, .a, .a, .a, .a, .a, .a, .a, .z, .b, .b, .b, .b, .b, .z, .z], [.b, .b, .b, .b, .b, .b, .b, .b, .b, .b, .b, .b, .b, .b, .b, .b, .z, .b, .b, .b, .b, .z, .z], [.b, .b, .b, .b, .b, .b, .b, .b, .b, .b, .b, .b, .b, .b, .b, .b, .b, .z, .z, .b, .b, .z, .z], [.b, .b, .b, .b, .b, .b, .b, .b, .b, .b, .b, .b, .b, .b, .b, .b, .b, .a, .z, .b, .b, .z, .z], [.b, .b, .b, .b, .b, .b, .b, .b, .b, .b, .b, .b, .b, .b, .b, .b, .b, .b, .b, .z, .z, .z, .z], [.b, .b, .b, .b, .b, .b, .b, .b, .b, .b, .b, .b, .b, .b, .b, .b, .b, .b, .b, .a, .z, .z, .z], [.a, .a, .a, .a, .a, .a, .a, .a, .a, .a, .a, .a, .a, .a, .a, .a, .a, .a, .a, .a, .a, .z, .z], [.a, .a, .a, .a, .a, .a, .a, .a, .a, .a, .a, .a, .a, .a, .a, .a, .a, .a, .a, .a, .a, .a, .z]] (mb 28 16) [32] (s1 := ⟨bt 4 (.pt 32 0 :: bt 23 []), [(32, .box [Ti y3, Ti y4, Ti y5])]⟩) (by kernel_rfl) (by kernel_rfl) ?_ ?_
  ·refine DE_0 0 (.ag [Ti f1.1, Ti f1.2.1, Ti f1.2.2]) (by kernel_rfl) rfl rfl rfl (gsat_none rfl) (by kernel_rfl) (E_loadn (cs := [Ti f1.1, Ti f1.2.1, Ti f1.2.2]) [Ti f1.1, Ti f1.2.1, Ti f1.2.2] wd43 rfl (by kernel_rfl) (Nat.le_of_ble_eq_true rfl) (by kernel_rfl)) 5 rfl ?_
   refine DE_0 1 (.pt 24 0) (by kernel_rfl) rfl rfl rfl (gsat_none rfl) (by kernel_rfl) (E_field (.pt 24 0) Try.underlying99 rfl sz3 rfl (by kernel_rfl) (by intro hh; cases hh)) 6 rfl ?_
   refine DE_0 2 (I vm2.1) (by kernel_rfl) rfl rfl rfl (gsat_none rfl) (by kernel_rfl) (Y0_load1 (c := Ti vm2.1) (cs := [Ti vm2.2.1, Ti vm2.2.2.1, Ti vm2.2.2.2]) sc3 rfl (by kernel_rfl)) 7 rfl ?_
   refine DE_0 3 (.pt 24 2) (by kernel_rfl) rfl rfl rfl (gsat_none rfl) (by kernel_rfl) (E_field (.pt 24 2) Try.underlying99 rfl sz3 rfl (by kernel_rfl) (by intro hh; cases hh)) 8 rfl ?_
   refine DE_0 4 (I vm2.2.2.1) (by kernel_rfl) rfl rfl rfl (gsat_none rfl) (by kernel_rfl) (Y0_load1 (c := Ti vm2.2.2.1) (cs := [Ti vm2.2.2.2]) sc3 rfl (by kernel_rfl)) 9 rfl ?_
   refine DE_1 5 (by kernel_rfl) rfl rfl rfl (gsat_none rfl) (Y1_call (s_impl_Form_at hy3) cf_impl_Form_at rfl (by kernel_rfl)) rfl rfl rfl 10 rfl ?_
   refine DE_0 6 (.ag [Ti f1.1, Ti f1.2.1, Ti f1.2.2]) (by kernel_rfl) rfl rfl rfl (gsat_none rfl) (by kernel_rfl) (E_loadn (cs := [Ti f1.1, Ti f1.2.1, Ti f1.2.2]) [Ti f1.1, Ti f1.2.1, Ti f1.2.2] wd43 rfl (by kernel_rfl) (Nat.le_of_ble_eq_true rfl) (by kernel_rfl)) 11 rfl ?_
   refine DE_0 7 (.pt 24 0) (by kernel_rfl) rfl rfl rfl (gsat_none rfl) (by kernel_rfl) (E_field (.pt 24 0) Try.underlying99 rfl sz3 rfl (by kernel_rfl) (by intro hh; cases hh)) 12 rfl ?_
   refine DE_0 8 (I vm2.1) (by kernel_rfl) rfl rfl rfl (gsat_none rfl) (by kernel_rfl) (Y0_load1 (c := Ti vm2.1) (cs := [Ti vm2.2.1, Ti vm2.2.2.1, Ti vm2.2.2.2]) sc3 rfl (by kernel_rfl)) 13 rfl ?_
   refine DE_0 9 (.pt 24 2) (by kernel_rfl) rfl rfl rfl (gsat_none rfl) (by kernel_rfl) (E_field (.pt 24 2) Try.underlying99 rfl sz3 rfl (by kernel_rfl) (by intro hh; cases hh)) 14 rfl ?_
   refine DE_0 10 (I vm2.2.2.1) (by kernel_rfl) rfl rfl rfl (gsat_none rfl) (by kernel_rfl) (Y0_load1 (c := Ti vm2.2.2.1) (cs := [Ti vm2.2.2.2]) sc3 rfl (by kernel_rfl)) 15 rfl ?_
   refine DE_0 11 (.pt 24 1) (by kernel_rfl) rfl rfl rfl (gsat_none rfl) (by kernel_rfl) (E_field (.pt 24 1) Try.underlying99 rfl sz3 rfl (by kernel_rfl) (by intro hh; cases hh)) 16 rfl ?_
   refine DE_0 12 (I vm2.2.1) (by kernel_rfl) rfl rfl rfl (gsat_none rfl) (by kernel_rfl) (Y0_load1 (c := Ti vm2.2.1) (cs := [Ti vm2.2.2.1, Ti vm2.2.2.2]) sc3 rfl (by kernel_rfl)) 17 rfl ?_
   refine DE_0 13 (.pt 24 3) (by kernel_rfl) rfl rfl rfl (gsat_none rfl) (by kernel_rfl) (E_field (.pt 24 3) Try.underlying99 rfl sz3 rfl (by kernel_rfl) (by intro hh; cases hh)) 18 rfl ?_
   refine DE_0 14 (I vm2.2.2.2) (by kernel_rfl) rfl rfl rfl (gsat_none rfl) (by kernel_rfl) (Y0_load1 (c := Ti vm2.2.2.2) (cs := []) sc3 rfl (by kernel_rfl)) 19 rfl ?_
   refine DE_1 15 (by kernel_rfl) rfl rfl rfl (gsat_none rfl) (Y1_call (s_impl_Form_polar hy4) cf_impl_Form_polar rfl (by kernel_rfl)) rfl rfl rfl 20 rfl ?_
   refine DE_0 16 (.ag [Ti f1.1, Ti f1.2.1, Ti f1.2.2]) (by kernel_rfl) rfl rfl rfl (gsat_none rfl) (by kernel_rfl) (E_loadn (cs := [Ti f1.1, Ti f1.2.1, Ti f1.2.2]) [Ti f1.1, Ti f1.2.1, Ti f1.2.2] wd43 rfl (by kernel_rfl) (Nat.le_of_ble_eq_true rfl) (by kernel_rfl)) 21 rfl ?_
   refine DE_0 17 (.pt 24 1) (by kernel_rfl) rfl rfl rfl (gsat_none rfl) (by kernel_rfl) (E_field (.pt 24 1) Try.underlying99 rfl sz3 rfl (by kernel_rfl) (by intro hh; cases hh)) 22 rfl ?_
   refine DE_0 18 (I vm2.2.1) (by kernel_rfl) rfl rfl rfl (gsat_none rfl) (by kernel_rfl) (Y0_load1 (c := Ti vm2.2.1) (cs := [Ti vm2.2.2.1, Ti vm2.2.2.2]) sc3 rfl (by kernel_rfl)) 23 rfl ?_
   refine DE_0 19 (.pt 24 3) (by kernel_rfl) rfl rfl rfl (gsat_none rfl) (by kernel_rfl) (E_field (.pt 24 3) Try.underlying99 rfl sz3 rfl (by kernel_rfl) (by intro hh; cases hh)) 24 rfl ?_
   refine DE_0 20 (I vm2.2.2.2) (by kernel_rfl) rfl rfl rfl (gsat_none rfl) (by kernel_rfl) (Y0_load1 (c := Ti vm2.2.2.2) (cs := []) sc3 rfl (by kernel_rfl)) 25 rfl ?_
   refine DE_1 21 (by kernel_rfl) rfl rfl rfl (gsat_none rfl) (Y1_call (s_impl_Form_at hy5) cf_impl_Form_at rfl (by kernel_rfl)) rfl rfl rfl 26 rfl ?_
   refine DE_0 22 (.ag [Ti y3, Ti y4, Ti y5]) (by kernel_rfl) rfl rfl rfl (gsat_none rfl) (by kernel_rfl) (Y0_build (cs := [Ti y3, Ti y4, Ti y5]) pl43 bt43 rfl rfl (by kernel_rfl)) 27 rfl ?_
   refine DL_nil (by kernel_rfl) ?_
   refine XL_cons rfl (E_store (id := 32) (off := 0) (cs := [Ti 0, Ti 0, Ti 0]) (vc := [Ti y3, Ti y4, Ti y5]) [Ti y3, Ti y4, Ti y5] rfl rfl (by kernel_rfl) (by kernel_rfl) (by kernel_rfl) sz43 (Nat.le_of_ble_eq_true rfl) (by kernel_rfl)) ?_
   refine XL_nil ?_
   kernel_rfl
  refine V_ret ?_
  obtain rfl := some_inj h
  show Post _ _ _ _ _
  exact ⟨.inr rfl, rfl, rfl, rfl⟩
theorem cf_impl_Matrix_times : ∀ args w, (callFunc 135 args).run Try.prog w = .ok (.enter 135 args) w := run_callFunc Try.func135 (by kernel_rfl) (by kernel_rfl)
set_option maxRecDepth 100000 in
set_option maxHeartbeats 400000 in
theorem s_impl_Matrix_times {vm1 : (Int × Int × Int × Int)} {vn2 : (Int × Int × Int × Int)} {r : (Int × Int × Int × Int)} (h : r_impl_Matrix_times vm1 vn2 = some r) : CallS Try.prog 135 [.ag [Ti vm1.1, Ti vm1.2.1, Ti vm1.2.2.1, Ti vm1.2.2.2], .ag [Ti vn2.1, Ti vn2.2.1, Ti vn2.2.2.1, Ti vn2.2.2.2]] (.ag [Ti r.1, Ti r.2.1, Ti r.2.2.1, Ti r.2.2.2]) [] := by
  refine CallS_of_text (rs := [.w 4 4]) (vs := [.cell 4 99]) Try.func135 rfl rfl (.cons ⟨rfl, wd99⟩ FitsL.nil) (by decide) 50 rfl ?_
  unfold r_impl_Matrix_times at h
  show V _ _ ⟨.ag [Ti vm1.1, Ti vm1.2.1, Ti vm1.2.2.1, Ti vm1.2.2.2] :: .ag [Ti vn2.1, Ti vn2.2.1, Ti vn2.2.2.1, Ti vn2.2.2.2] :: bt 48 [], []⟩ _
  refine V_sreg (mb 50 28) [32, 24, 16] (s1 := ⟨.bot :: .bot :: .pt 16 0 :: .pt 24 0 :: .pt 32 0 :: bt 45 [], [(32, .box [Ti 0, Ti 0, Ti 0, Ti 0]), (24, .box [Ti vn2.1, Ti vn2.2.1, Ti vn2.2.2.1, Ti vn2.2.2.2]), (16, .box [Ti vm1.1, Ti vm1.2.1, Ti vm1.2.2.1, Ti vm1.2.2.2])]⟩) ?_ ?_
  ·refine L1 rfl rfl (Y1_box (cs := [Ti vm1.1, Ti vm1.2.1, Ti vm1.2.2.1, Ti vm1.2.2.2]) rfl (by kernel_rfl)) ?_
   refine L1 rfl rfl (Y1_box (cs := [Ti vn2.1, Ti vn2.2.1, Ti vn2.2.2.1, Ti vn2.2.2.2]) rfl (by kernel_rfl)) ?_
   refine L1 rfl rfl (Y1_alloc (z := zv99) rfl zf99 rfl) ?_
   refine XL_nil ?_
   kernel_rfl
  obtain ⟨f3, hf3, h⟩ := of_sI h
  obtain ⟨f4, hf4, h⟩ := of_sI h
  obtain ⟨f5, hf5, h⟩ := of_sI h
  obtain ⟨f6, hf6, h⟩ := of_sI h
  refine V_sreg (mb 50 16) [32] (s1 := ⟨bt 4 (.pt 32 0 :: bt 45 []), [(32, .box [Ti f3, Ti f4, Ti f5, Ti f6])]⟩) ?_ ?_
  ·refine L0 rfl rfl (E_field (.pt 16 0) Try.underlying99 rfl sz3 rfl (by kernel_rfl) (by intro hh; cases hh)) ?_
   refine L0 rfl rfl (Y0_load1 (c := Ti vm1.1) (cs := [Ti vm1.2.1, Ti vm1.2.2.1, Ti vm1.2.2.2]) sc3 rfl (by kernel_rfl)) ?_
   refine L0 rfl rfl (E_field (.pt 24 0) Try.underlying99 rfl sz3 rfl (by kernel_rfl) (by intro hh; cases hh)) ?_
   refine L0 rfl rfl (Y0_load1 (c := Ti vn2.1) (cs := [Ti vn2.2.1, Ti vn2.2.2.1, Ti vn2.2.2.2]) sc3 rfl (by kernel_rfl)) ?_
   refine L0 rfl rfl (Y0_mul64 (a := vm1.1) (b := vn2.1) rfl (by kernel_rfl) (by kernel_rfl)) ?_
   refine L0 rfl rfl (E_field (.pt 16 1) Try.underlying99 rfl sz3 rfl (by kernel_rfl) (by intro hh; cases hh)) ?_
   refine L0 rfl rfl (Y0_load1 (c := Ti vm1.2.1) (cs := [Ti vm1.2.2.1, Ti vm1.2.2.2]) sc3 rfl (by kernel_rfl)) ?_
   refine L0 rfl rfl (E_field (.pt 24 2) Try.underlying99 rfl sz3 rfl (by kernel_rfl) (by intro hh; cases hh)) ?_
   refine L0 rfl rfl (Y0_load1 (c := Ti vn2.2.2.1) (cs := [Ti vn2.2.2.2]) sc3 rfl (by kernel_rfl)) ?_
   refine L0 rfl rfl (Y0_mul64 (a := vm1.2.1) (b := vn2.2.2.1) rfl (by kernel_rfl) (by kernel_rfl)) ?_
   refine L0 rfl rfl (Y0_add64 (a := w64 (vm1.1 * vn2.1)) (b := w64 (vm1.2.1 * vn2.2.2.1)) rfl (by kernel_rfl) (by kernel_rfl)) ?_
   refine L0 rfl rfl (E_field (.pt 16 0) Try.underlying99 rfl sz3 rfl (by kernel_rfl) (by intro hh; cases hh)) ?_
   refine L0 rfl rfl (Y0_load1 (c := Ti vm1.1) (cs := [Ti vm1.2.1, Ti vm1.2.2.1, Ti vm1.2.2.2]) sc3 rfl (by kernel_rfl)) ?_
   refine L0 rfl rfl (E_field (.pt 24 1) Try.underlying99 rfl sz3 rfl (by kernel_rfl) (by intro hh; cases hh)) ?_
   refine L0 rfl rfl (Y0_load1 (c := Ti vn2.2.1) (cs := [Ti vn2.2.2.1, Ti vn2.2.2.2]) sc3 rfl (by kernel_rfl)) ?_
   refine L0 rfl rfl (Y0_mul64 (a := vm1.1) (b := vn2.2.1) rfl (by kernel_rfl) (by kernel_rfl)) ?_
   refine L0 rfl rfl (E_field (.pt 16 1) Try.underlying99 rfl sz3 rfl (by kernel_rfl) (by intro hh; cases hh)) ?_
   refine L0 rfl rfl (Y0_load1 (c := Ti vm1.2.1) (cs := [Ti vm1.2.2.1, Ti vm1.2.2.2]) sc3 rfl (by kernel_rfl)) ?_
   refine L0 rfl rfl (E_field (.pt 24 3) Try.underlying99 rfl sz3 rfl (by kernel_rfl) (by intro hh; cases hh)) ?_
   refine L0 rfl rfl (Y0_load1 (c := Ti vn2.2.2.2) (cs := []) sc3 rfl (by kernel_rfl)) ?_
   refine L0 rfl rfl (Y0_mul64 (a := vm1.2.1) (b := vn2.2.2.2) rfl (by kernel_rfl) (by kernel_rfl)) ?_
   refine L0 rfl rfl (Y0_add64 (a := w64 (vm1.1 * vn2.2.1)) (b := w64 (vm1.2.1 * vn2.2.2.2)) rfl (by kernel_rfl) (by kernel_rfl)) ?_
   refine L0 rfl rfl (E_field (.pt 16 2) Try.underlying99 rfl sz3 rfl (by kernel_rfl) (by intro hh; cases hh)) ?_
   refine L0 rfl rfl (Y0_load1 (c := Ti vm1.2.2.1) (cs := [Ti vm1.2.2.2]) sc3 rfl (by kernel_rfl)) ?_
   refine L0 rfl rfl (E_field (.pt 24 0) Try.underlying99 rfl sz3 rfl (by kernel_rfl) (by intro hh; cases hh)) ?_
   refine L0 rfl rfl (Y0_load1 (c := Ti vn2.1) (cs := [Ti vn2.2.1, Ti vn2.2.2.1, Ti vn2.2.2.2]) sc3 rfl (by kernel_rfl)) ?_
   refine L0 rfl rfl (Y0_mul64 (a := vm1.2.2.1) (b := vn2.1) rfl (by kernel_rfl) (by kernel_rfl)) ?_
   refine L0 rfl rfl (E_field (.pt 16 3) Try.underlying99 rfl sz3 rfl (by kernel_rfl) (by intro hh; cases hh)) ?_
   refine L0 rfl rfl (Y0_load1 (c := Ti vm1.2.2.2) (cs := []) sc3 rfl (by kernel_rfl)) ?_
   refine L0 rfl rfl (E_field (.pt 24 2) Try.underlying99 rfl sz3 rfl (by kernel_rfl) (by intro hh; cases hh)) ?_
   refine L0 rfl rfl (Y0_load1 (c := Ti vn2.2.2.1) (cs := [Ti vn2.2.2.2]) sc3 rfl (by kernel_rfl)) ?_
   refine L0 rfl rfl (Y0_mul64 (a := vm1.2.2.2) (b := vn2.2.2.1) rfl (by kernel_rfl) (by kernel_rfl)) ?_
   refine L0 rfl rfl (Y0_add64 (a := w64 (vm1.2.2.1 * vn2.1)) (b := w64 (vm1.2.2.2 * vn2.2.2.1)) rfl (by kernel_rfl) (by kernel_rfl)) ?_
   refine L0 rfl rfl (E_field (.pt 16 2) Try.underlying99 rfl sz3 rfl (by kernel_rfl) (by intro hh; cases hh)) ?_
   refine L0 rfl rfl (Y0_load1 (c := Ti vm1.2.2.1) (cs := [Ti vm1.2.2.2]) sc3 rfl (by kernel_rfl)) ?_
   refine L0 rfl rfl (E_field (.pt 24 1) Try.underlying99 rfl sz3 rfl (by kernel_rfl) (by intro hh; cases hh)) ?_
   refine L0 rfl rfl (Y0_load1 (c := Ti vn2.2.1) (cs := [Ti vn2.2.2.1, Ti vn2.2.2.2]) sc3 rfl (by kernel_rfl)) ?_
   refine L0 rfl rfl (Y0_mul64 (a := vm1.2.2.1) (b := vn2.2.1) rfl (by kernel_rfl) (by kernel_rfl)) ?_
   refine L0 rfl rfl (E_field (.pt 16 3) Try.underlying99 rfl sz3 rfl (by kernel_rfl) (by intro hh; cases hh)) ?_
   refine L0 rfl rfl (Y0_load1 (c := Ti vm1.2.2.2) (cs := []) sc3 rfl (by kernel_rfl)) ?_
   refine L0 rfl rfl (E_field (.pt 24 3) Try.underlying99 rfl sz3 rfl (by kernel_rfl) (by intro hh; cases hh)) ?_
   refine L0 rfl rfl (Y0_load1 (c := Ti vn2.2.2.2) (cs := []) sc3 rfl (by kernel_rfl)) ?_
   refine L0 rfl rfl (Y0_mul64 (a := vm1.2.2.2) (b := vn2.2.2.2) rfl (by kernel_rfl) (by kernel_rfl)) ?_
   refine L0 rfl rfl (Y0_add64 (a := w64 (vm1.2.2.1 * vn2.2.1)) (b := w64 (vm1.2.2.2 * vn2.2.2.2)) rfl (by kernel_rfl) (by kernel_rfl)) ?_
   refine L0 rfl rfl (Y0_build (cs := [Ti (w64 ((w64 (vm1.1 * vn2.1)) + (w64 (vm1.2.1 * vn2.2.2.1)))), Ti (w64 ((w64 (vm1.1 * vn2.2.1)) + (w64 (vm1.2.1 * vn2.2.2.2)))), Ti (w64 ((w64 (vm1.2.2.1 * vn2.1)) + (w64 (vm1.2.2.2 * vn2.2.2.1)))), Ti (w64 ((w64 (vm1.2.2.1 * vn2.2.1)) + (w64 (vm1.2.2.2 * vn2.2.2.2))))]) pl99 bt99 rfl rfl (by kernel_rfl)) ?_
   refine XL_cons rfl (E_store (id := 32) (off := 0) (cs := [Ti 0, Ti 0, Ti 0, Ti 0]) (vc := [Ti (w64 ((w64 (vm1.1 * vn2.1)) + (w64 (vm1.2.1 * vn2.2.2.1)))), Ti (w64 ((w64 (vm1.1 * vn2.2.1)) + (w64 (vm1.2.1 * vn2.2.2.2)))), Ti (w64 ((w64 (vm1.2.2.1 * vn2.1)) + (w64 (vm1.2.2.2 * vn2.2.2.1)))), Ti (w64 ((w64 (vm1.2.2.1 * vn2.2.1)) + (w64 (vm1.2.2.2 * vn2.2.2.2))))]) [Ti (w64 ((w64 (vm1.1 * vn2.1)) + (w64 (vm1.2.1 * vn2.2.2.1)))), Ti (w64 ((w64 (vm1.1 * vn2.2.1)) + (w64 (vm1.2.1 * vn2.2.2.2)))), Ti (w64 ((w64 (vm1.2.2.1 * vn2.1)) + (w64 (vm1.2.2.2 * vn2.2.2.1)))), Ti (w64 ((w64 (vm1.2.2.1 * vn2.2.1)) + (w64 (vm1.2.2.2 * vn2.2.2.2))))] rfl rfl (by kernel_rfl) (by kernel_rfl) (by kernel_rfl) sz99 (Nat.le_of_ble_eq_true rfl) (by kernel_rfl)) ?_
   refine XL_nil ?_
   subst hf3 hf4 hf5 hf6
   kernel_rfl
  refine V_ret ?_
  obtain rfl := some_inj h
  show Post _ _ _ _ _
  exact ⟨.inr rfl, rfl, rfl, rfl⟩
theorem cf_impl_reduce : ∀ args w, (callFunc 115 args).run Try.prog w = .ok (.enter 115 args) w := run_callFunc Try.func115 (by kernel_rfl) (by kernel_rfl)
set_option maxRecDepth 100000 in
set_option maxHeartbeats 400000 in
theorem s_impl_reduce {f1 : (Int × Int × Int)} {r : (((Int × Int × Int)) × ((Int × Int × Int × Int)))} (h : r_impl_reduce f1 = some r) : CallS Try.prog 115 [.ag [Ti f1.1, Ti f1.2.1, Ti f1.2.2]] (.tc (.ag [Ti r.1.1, Ti r.1.2.1, Ti r.1.2.2]) (.tc (.ag [Ti r.2.1, Ti r.2.2.1, Ti r.2.2.2.1, Ti r.2.2.2.2]) .tn)) [] := by
  refine CallS_of_text (rs := [.w 2 3, .w 3 4]) (vs := [.cell 2 43, .cell 3 99]) Try.func115 rfl rfl (.cons ⟨rfl, wd43⟩ (.cons ⟨rfl, wd99⟩ FitsL.nil)) (by decide) 20 rfl ?_
  unfold r_impl_reduce at h
  show V _ _ ⟨.ag [Ti f1.1, Ti f1.2.1, Ti f1.2.2] :: bt 19 [], []⟩ _
  refine V_sreg (mb 20 14) [24, 16, 8] (s1 := ⟨.bot :: .pt 8 0 :: .pt 16 0 :: .pt 24 0 :: bt 16 [], [(24, .box [Ti 0, Ti 0, Ti 0, Ti 0]), (16, .box [Ti 0, Ti 0, Ti 0]), (8, .box [Ti f1.1, Ti f1.2.1, Ti f1.2.2])]⟩) ?_ ?_
  ·refine L1 rfl rfl (Y1_box (cs := [Ti f1.1, Ti f1.2.1, Ti f1.2.2]) rfl (by kernel_rfl)) ?_
   refine L1 rfl rfl (Y1_alloc (z := zv43) rfl zf43 rfl) ?_
   refine L1 rfl rfl (Y1_alloc (z := zv99) rfl zf99 rfl) ?_
   refine XL_nil ?_
   kernel_rfl
  obtain ⟨y2, hy2, h⟩ := of_bind h
  refine V_sreg (mb 20 30) [32, 24, 16, 8] (s1 := ⟨.bot :: .pt 8 0 :: .pt 16 0 :: .pt 24 0 :: .pt 32 0 :: bt 15 [], [(32, .box [Ti y2.1, Ti y2.2.1, Ti y2.2.2.1, Ti y2.2.2.2]), (24, .box [Ti 0, Ti 0, Ti 0, Ti 0]), (16, .box [Ti 0, Ti 0, Ti 0]), (8, .box [Ti f1.1, Ti f1.2.1, Ti f1.2.2])]⟩) ?_ ?_
  ·refine L1 rfl rfl (Y1_call (s_impl_one hy2) cf_impl_one rfl (by kernel_rfl)) ?_
   refine L1 rfl rfl (Y1_alloc (z := zv99) rfl zf99 rfl) ?_
   refine XL_cons rfl (E_store (id := 32) (off := 0) (cs := [Ti 0, Ti 0, Ti 0, Ti 0]) (vc := [Ti y2.1, Ti y2.2.1, Ti y2.2.2.1, Ti y2.2.2.2]) [Ti y2.1, Ti y2.2.1, Ti y2.2.2.1, Ti y2.2.2.2] rfl rfl (by kernel_rfl) (by kernel_rfl) (by kernel_rfl) sz99 (Nat.le_of_ble_eq_true rfl) (by kernel_rfl)) ?_
   refine XL_nil ?_
   kernel_rfl
  refine V_seq ?_
  obtain ⟨o11, hLo11, h⟩ := of_bind h
  refine V_toK (mb 20 30) [32, 24, 16, 8] (s1 := ⟨.bot :: .pt 8 0 :: .pt 16 0 :: .pt 24 0 :: .pt 32 0 :: bt 15 [], [(32, .box [Ti o11.1, Ti o11.2.1, Ti o11.2.2.1, Ti o11.2.2.2.1]), (24, .box [Ti 0, Ti 0, Ti 0, Ti 0]), (16, .box [Ti 0, Ti 0, Ti 0]), (8, .box [Ti o11.2.2.2.2.1, Ti o11.2.2.2.2.2.1, Ti o11.2.2.2.2.2.2])]⟩) ?_ ?_
  ·clear h
   refine V_block (V_loop (fun n s => ∃ (f3 : Int) (f4 : Int) (f5 : Int) (f6 : Int) (f7 : Int) (f8 : Int) (f9 : Int), s.keep (mb 20 30) [32, 24, 16, 8] = (⟨.bot :: .pt 8 0 :: .pt 16 0 :: .pt 24 0 :: .pt 32 0 :: bt 15 [], [(32, .box [Ti f3, Ti f4, Ti f5, Ti f6]), (24, .box [Ti 0, Ti 0, Ti 0, Ti 0]), (16, .box [Ti 0, Ti 0, Ti 0]), (8, .box [Ti f7, Ti f8, Ti f9])]⟩ : St) ∧ r_impl_reduce_L10 n f3 f4 f5 f6 f7 f8 f9 = some o11) FU ⟨_, _, _, _, _, _, _,  by rfl, hLo11⟩ ?_)
   clear hLo11
   rintro n s ⟨f3, f4, f5, f6, f7, f8, f9, hs, h⟩
   refine V_keep _ _ hs ?_
   clear hs
   cases n with
   | zero => cases h
   | succ n =>
    rw [r_impl_reduce_L10] at h
    refine V_seq ?_
    obtain ⟨y12, hy12, h⟩ := of_bind h
    refine V_sreg (mb 20 542) [32, 24, 16, 8] (s1 := ⟨.bot :: .pt 8 0 :: .pt 16 0 :: .pt 24 0 :: .pt 32 0 :: bt 4 (Bo (!y12) :: bt 10 []), [(32, .box [Ti f3, Ti f4, Ti f5, Ti f6]), (24, .box [Ti 0, Ti 0, Ti 0, Ti 0]), (16, .box [Ti 0, Ti 0, Ti 0]), (8, .box [Ti f7, Ti f8, Ti f9])]⟩) ?_ ?_
    ·refine L0 rfl rfl (E_loadn (cs := [Ti f7, Ti f8, Ti f9]) [Ti f7, Ti f8, Ti f9] wd43 rfl (by kernel_rfl) (Nat.le_of_ble_eq_true rfl) (by kernel_rfl)) ?_
     refine L1 rfl rfl (Y1_call (s_impl_Form_isReduced hy12) cf_impl_Form_isReduced rfl (by kernel_rfl)) ?_
     refine L0 rfl rfl (Y0_not (b := y12) rfl (by kernel_rfl)) ?_
     refine XL_nil ?_
     kernel_rfl
    refine V_cond rfl (fun hc13 => ?_) (fun hc13 => ?_)
    ·have h := of_true h hc13
     refine V_skip ?_
     show V _ _ _ _
     refine V_block ?_
     obtain ⟨y14, hy14, h⟩ := of_bind h
     refine V_sreg (mb 20 62) [40, 32, 24, 16, 8] (s1 := ⟨.bot :: .pt 8 0 :: .pt 16 0 :: .pt 24 0 :: .pt 32 0 :: .pt 40 0 :: bt 14 [], [(40, .box [Ti y14.1, Ti y14.2.1, Ti y14.2.2.1, Ti y14.2.2.2]), (32, .box [Ti f3, Ti f4, Ti f5, Ti f6]), (24, .box [Ti 0, Ti 0, Ti 0, Ti 0]), (16, .box [Ti 0, Ti 0, Ti 0]), (8, .box [Ti f7, Ti f8, Ti f9])]⟩) ?_ ?_
     ·refine L0 rfl rfl (E_loadn (cs := [Ti f7, Ti f8, Ti f9]) [Ti f7, Ti f8, Ti f9] wd43 rfl (by kernel_rfl) (Nat.le_of_ble_eq_true rfl) (by kernel_rfl)) ?_
      refine L1 rfl rfl (Y1_call (s_impl_Form_step hy14) cf_impl_Form_step rfl (by kernel_rfl)) ?_
      refine L1 rfl rfl (Y1_alloc (z := zv99) rfl zf99 rfl) ?_
      refine XL_cons rfl (E_store (id := 40) (off := 0) (cs := [Ti 0, Ti 0, Ti 0, Ti 0]) (vc := [Ti y14.1, Ti y14.2.1, Ti y14.2.2.1, Ti y14.2.2.2]) [Ti y14.1, Ti y14.2.1, Ti y14.2.2.1, Ti y14.2.2.2] rfl rfl (by kernel_rfl) (by kernel_rfl) (by kernel_rfl) sz99 (Nat.le_of_ble_eq_true rfl) (by kernel_rfl)) ?_
      refine XL_nil ?_
      kernel_rfl
     obtain ⟨y15, hy15, h⟩ := of_bind h
     refine V_sreg (mb 20 62) [40, 32, 24, 16, 8] (s1 := ⟨.bot :: .pt 8 0 :: .pt 16 0 :: .pt 24 0 :: .pt 32 0 :: .pt 40 0 :: bt 14 [], [(40, .box [Ti y14.1, Ti y14.2.1, Ti y14.2.2.1, Ti y14.2.2.2]), (32, .box [Ti f3, Ti f4, Ti f5, Ti f6]), (24, .box [Ti 0, Ti 0, Ti 0, Ti 0]), (16, .box [Ti 0, Ti 0, Ti 0]), (8, .box [Ti y15.1, Ti y15.2.1, Ti y15.2.2])]⟩) ?_ ?_
     ·refine L0 rfl rfl (E_loadn (cs := [Ti f7, Ti f8, Ti f9]) [Ti f7, Ti f8, Ti f9] wd43 rfl (by kernel_rfl) (Nat.le_of_ble_eq_true rfl) (by kernel_rfl)) ?_
      refine L0 rfl rfl (E_loadn (cs := [Ti y14.1, Ti y14.2.1, Ti y14.2.2.1, Ti y14.2.2.2]) [Ti y14.1, Ti y14.2.1, Ti y14.2.2.1, Ti y14.2.2.2] wd99 rfl (by kernel_rfl) (Nat.le_of_ble_eq_true rfl) (by kernel_rfl)) ?_
      refine L1 rfl rfl (Y1_call (s_impl_Form_substitute hy15) cf_impl_Form_substitute rfl (by kernel_rfl)) ?_
      refine XL_cons rfl (E_store (id := 8) (off := 0) (cs := [Ti f7, Ti f8, Ti f9]) (vc := [Ti y15.1, Ti y15.2.1, Ti y15.2.2]) [Ti y15.1, Ti y15.2.1, Ti y15.2.2] rfl rfl (by kernel_rfl) (by kernel_rfl) (by kernel_rfl) sz43 (Nat.le_of_ble_eq_true rfl) (by kernel_rfl)) ?_
      refine XL_nil ?_
      kernel_rfl
     obtain ⟨y16, hy16, h⟩ := of_bind h
     refine V_reg (mb 20 30) [32, 24, 16, 8] (s1 := ⟨.bot :: .pt 8 0 :: .pt 16 0 :: .pt 24 0 :: .pt 32 0 :: bt 15 [], [(32, .box [Ti y16.1, Ti y16.2.1, Ti y16.2.2.1, Ti y16.2.2.2]), (24, .box [Ti 0, Ti 0, Ti 0, Ti 0]), (16, .box [Ti 0, Ti 0, Ti 0]), (8, .box [Ti y15.1, Ti y15.2.1, Ti y15.2.2])]⟩) ?_ ?_
     ·refine L0 rfl rfl (E_loadn (cs := [Ti f3, Ti f4, Ti f5, Ti f6]) [Ti f3, Ti f4, Ti f5, Ti f6] wd99 rfl (by kernel_rfl) (Nat.le_of_ble_eq_true rfl) (by kernel_rfl)) ?_
      refine L0 rfl rfl (E_loadn (cs := [Ti y14.1, Ti y14.2.1, Ti y14.2.2.1, Ti y14.2.2.2]) [Ti y14.1, Ti y14.2.1, Ti y14.2.2.1, Ti y14.2.2.2] wd99 rfl (by kernel_rfl) (Nat.le_of_ble_eq_true rfl) (by kernel_rfl)) ?_
      refine L1 rfl rfl (Y1_call (s_impl_Matrix_times hy16) cf_impl_Matrix_times rfl (by kernel_rfl)) ?_
      refine XL_cons rfl (E_store (id := 32) (off := 0) (cs := [Ti f3, Ti f4, Ti f5, Ti f6]) (vc := [Ti y16.1, Ti y16.2.1, Ti y16.2.2.1, Ti y16.2.2.2]) [Ti y16.1, Ti y16.2.1, Ti y16.2.2.1, Ti y16.2.2.2] rfl rfl (by kernel_rfl) (by kernel_rfl) (by kernel_rfl) sz99 (Nat.le_of_ble_eq_true rfl) (by kernel_rfl)) ?_
      refine XL_nil ?_
      kernel_rfl
     exact ⟨n, Nat.lt_succ_self n, _, _, _, _, _, _, _,  by rfl, h⟩
    ·have h := of_false h hc13
     refine V_exit ?_
     obtain rfl := some_inj h
     show St.keep _ _ _ = _
     rfl
  show V _ _ _ _
  refine V_sdreg [0, 0, 1, 7] 3 [[.z, .b, .z], [.b, .z, .r 16], [.a, .b, .z]] (mb 20 12) [24, 16] (s1 := ⟨.bot :: .bot :: .pt 16 0 :: .pt 24 0 :: bt 16 [], [(24, .box [Ti o11.1, Ti o11.2.1, Ti o11.2.2.1, Ti o11.2.2.2.1]), (16, .box [Ti o11.2.2.2.2.1, Ti o11.2.2.2.2.2.1, Ti o11.2.2.2.2.2.2])]⟩) (by kernel_rfl) (by kernel_rfl) ?_ ?_
  ·refine DE_0 0 (.ag [Ti o11.2.2.2.2.1, Ti o11.2.2.2.2.2.1, Ti o11.2.2.2.2.2.2]) (by kernel_rfl) rfl rfl rfl (gsat_none rfl) (by kernel_rfl) (E_loadn (cs := [Ti o11.2.2.2.2.1, Ti o11.2.2.2.2.2.1, Ti o11.2.2.2.2.2.2]) [Ti o11.2.2.2.2.1, Ti o11.2.2.2.2.2.1, Ti o11.2.2.2.2.2.2] wd43 rfl (by kernel_rfl) (Nat.le_of_ble_eq_true rfl) (by kernel_rfl)) 18 rfl ?_
   refine DE_0 1 (.ag [Ti o11.1, Ti o11.2.1, Ti o11.2.2.1, Ti o11.2.2.2.1]) (by kernel_rfl) rfl rfl rfl (gsat_none rfl) (by kernel_rfl) (E_loadn (cs := [Ti o11.1, Ti o11.2.1, Ti o11.2.2.1, Ti o11.2.2.2.1]) [Ti o11.1, Ti o11.2.1, Ti o11.2.2.1, Ti o11.2.2.2.1] wd99 rfl (by kernel_rfl) (Nat.le_of_ble_eq_true rfl) (by kernel_rfl)) 19 rfl ?_
   refine DE_2 (off := 0) (cs := [Ti 0, Ti 0, Ti 0]) (vc := [Ti o11.2.2.2.2.1, Ti o11.2.2.2.2.2.1, Ti o11.2.2.2.2.2.2]) 2 16 [Ti o11.2.2.2.2.1, Ti o11.2.2.2.2.2.1, Ti o11.2.2.2.2.2.2] (by kernel_rfl) rfl rfl rfl (gsat_none rfl) rfl rfl (by kernel_rfl) (by kernel_rfl) (by kernel_rfl) sz43 (Nat.le_of_ble_eq_true rfl) (by kernel_rfl) (by kernel_rfl) (by kernel_rfl) (by kernel_rfl) ?_
   refine DL_nil (by kernel_rfl) ?_
   refine XL_cons rfl (E_store (id := 24) (off := 0) (cs := [Ti 0, Ti 0, Ti 0, Ti 0]) (vc := [Ti o11.1, Ti o11.2.1, Ti o11.2.2.1, Ti o11.2.2.2.1]) [Ti o11.1, Ti o11.2.1, Ti o11.2.2.1, Ti o11.2.2.2.1] rfl rfl (by kernel_rfl) (by kernel_rfl) (by kernel_rfl) sz99 (Nat.le_of_ble_eq_true rfl) (by kernel_rfl)) ?_
   refine XL_nil ?_
   kernel_rfl
  refine V_ret ?_
  obtain rfl := some_inj h
  show Post _ _ _ _ _
  exact ⟨.inr rfl, rfl, rfl, rfl⟩
theorem cf_impl_reduced : ∀ args w, (callFunc 79 args).run Try.prog w = .ok (.enter 79 args) w := run_callFunc Try.func79 (by kernel_rfl) (by kernel_rfl)
set_option maxRecDepth 100000 in
set_option maxHeartbeats 400000 in
theorem s_impl_reduced {f1 : (Int × Int × Int)} {r : (Int × Int × Int)} (h : r_impl_reduced f1 = some r) : CallS Try.prog 79 [.ag [Ti f1.1, Ti f1.2.1, Ti f1.2.2]] (.ag [Ti r.1, Ti r.2.1, Ti r.2.2]) [] := by
  refine CallS_of_text (rs := [.w 2 3]) (vs := [.cell 2 43]) Try.func79 rfl rfl (.cons ⟨rfl, wd43⟩ FitsL.nil) (by decide) 11 rfl ?_
  unfold r_impl_reduced at h
  show V _ _ ⟨.ag [Ti f1.1, Ti f1.2.1, Ti f1.2.2] :: bt 10 [], []⟩ _
  refine V_sreg (mb 11 6) [16, 8] (s1 := ⟨.bot :: .pt 8 0 :: .pt 16 0 :: bt 8 [], [(16, .box [Ti 0, Ti 0, Ti 0]), (8, .box [Ti f1.1, Ti f1.2.1, Ti f1.2.2])]⟩) ?_ ?_
  ·refine L1 rfl rfl (Y1_box (cs := [Ti f1.1, Ti f1.2.1, Ti f1.2.2]) rfl (by kernel_rfl)) ?_
   refine L1 rfl rfl (Y1_alloc (z := zv43) rfl zf43 rfl) ?_
   refine XL_nil ?_
   kernel_rfl
  obtain ⟨y2, hy2, h⟩ := of_bind h
  refine V_sreg (mb 11 12) [24, 16] (s1 := ⟨.bot :: .bot :: .pt 16 0 :: .pt 24 0 :: bt 7 [], [(24, .box [Ti y2.1.1, Ti y2.1.2.1, Ti y2.1.2.2]), (16, .box [Ti 0, Ti 0, Ti 0])]⟩) ?_ ?_
  ·refine L0 rfl rfl (E_loadn (cs := [Ti f1.1, Ti f1.2.1, Ti f1.2.2]) [Ti f1.1, Ti f1.2.1, Ti f1.2.2] wd43 rfl (by kernel_rfl) (Nat.le_of_ble_eq_true rfl) (by kernel_rfl)) ?_
   refine L1 rfl rfl (Y1_call (s_impl_reduce hy2) cf_impl_reduce rfl (by kernel_rfl)) ?_
   refine L0 rfl rfl (E_move (.tc (.ag [Ti y2.1.1, Ti y2.1.2.1, Ti y2.1.2.2]) (.tc (.ag [Ti y2.2.1, Ti y2.2.2.1, Ti y2.2.2.2.1, Ti y2.2.2.2.2]) .tn)) rfl (by kernel_rfl)) ?_
   refine L0 rfl rfl (E_ext (n := 0) (.ag [Ti y2.1.1, Ti y2.1.2.1, Ti y2.1.2.2]) (.tc (.ag [Ti y2.2.1, Ti y2.2.2.1, Ti y2.2.2.2.1, Ti y2.2.2.2.2]) .tn) (.ag [Ti y2.1.1, Ti y2.1.2.1, Ti y2.1.2.2]) rfl (by kernel_rfl) (by kernel_rfl) (by intro hh; cases hh)) ?_
   refine L0 rfl rfl (E_ext (n := 1) (.ag [Ti y2.1.1, Ti y2.1.2.1, Ti y2.1.2.2]) (.tc (.ag [Ti y2.2.1, Ti y2.2.2.1, Ti y2.2.2.2.1, Ti y2.2.2.2.2]) .tn) (.ag [Ti y2.2.1, Ti y2.2.2.1, Ti y2.2.2.2.1, Ti y2.2.2.2.2]) rfl (by kernel_rfl) (by kernel_rfl) (by intro hh; cases hh)) ?_
   refine L1 rfl rfl (Y1_alloc (z := zv43) rfl zf43 rfl) ?_
   refine L1 rfl rfl (Y1_alloc (z := zv99) rfl zf99 rfl) ?_
   refine XL_cons rfl (E_store (id := 24) (off := 0) (cs := [Ti 0, Ti 0, Ti 0]) (vc := [Ti y2.1.1, Ti y2.1.2.1, Ti y2.1.2.2]) [Ti y2.1.1, Ti y2.1.2.1, Ti y2.1.2.2] rfl rfl (by kernel_rfl) (by kernel_rfl) (by kernel_rfl) sz43 (Nat.le_of_ble_eq_true rfl) (by kernel_rfl)) ?_
   refine XL_cons rfl (E_store (id := 32) (off := 0) (cs := [Ti 0, Ti 0, Ti 0, Ti 0]) (vc := [Ti y2.2.1, Ti y2.2.2.1, Ti y2.2.2.2.1, Ti y2.2.2.2.2]) [Ti y2.2.1, Ti y2.2.2.1, Ti y2.2.2.2.1, Ti y2.2.2.2.2] rfl rfl (by kernel_rfl) (by kernel_rfl) (by kernel_rfl) sz99 (Nat.le_of_ble_eq_true rfl) (by kernel_rfl)) ?_
   refine XL_nil ?_
   kernel_rfl
  refine V_sreg (mb 11 4) [16] (s1 := ⟨.bot :: .bot :: .pt 16 0 :: bt 8 [], [(16, .box [Ti y2.1.1, Ti y2.1.2.1, Ti y2.1.2.2])]⟩) ?_ ?_
  ·refine L0 rfl rfl (E_loadn (cs := [Ti y2.1.1, Ti y2.1.2.1, Ti y2.1.2.2]) [Ti y2.1.1, Ti y2.1.2.1, Ti y2.1.2.2] wd43 rfl (by kernel_rfl) (Nat.le_of_ble_eq_true rfl) (by kernel_rfl)) ?_
   refine XL_cons rfl (E_store (id := 16) (off := 0) (cs := [Ti 0, Ti 0, Ti 0]) (vc := [Ti y2.1.1, Ti y2.1.2.1, Ti y2.1.2.2]) [Ti y2.1.1, Ti y2.1.2.1, Ti y2.1.2.2] rfl rfl (by kernel_rfl) (by kernel_rfl) (by kernel_rfl) sz43 (Nat.le_of_ble_eq_true rfl) (by kernel_rfl)) ?_
   refine XL_nil ?_
   kernel_rfl
  refine V_ret ?_
  obtain rfl := some_inj h
  show Post _ _ _ _ _
  exact ⟨.inr rfl, rfl, rfl, rfl⟩
theorem cf_impl_PrimeClass : ∀ args w, (callFunc 34 args).run Try.prog w = .ok (.enter 34 args) w := run_callFunc Try.func34 (by kernel_rfl) (by kernel_rfl)
set_option maxRecDepth 100000 in
set_option maxHeartbeats 400000 in
theorem s_impl_PrimeClass {d1 : Int} {p2 : Int} {r : (((Int × Int × Int)) × Bool)} (h : r_impl_PrimeClass d1 p2 = some r) : CallS Try.prog 34 [I d1, I p2] (.tc (.ag [Ti r.1.1, Ti r.1.2.1, Ti r.1.2.2]) (.tc (Bo r.2) .tn)) [] := by
  refine CallS_of_text (rs := [.w 4 3, .t 5]) (vs := [.cell 4 43, .tmp 5]) Try.func34 rfl rfl (.cons ⟨rfl, wd43⟩ (.cons rfl FitsL.nil)) (by decide) 19 rfl ?_
  unfold r_impl_PrimeClass at h
  show V _ _ ⟨I d1 :: I p2 :: bt 17 [], []⟩ _
  refine V_sreg (mb 19 19) [32] (s1 := ⟨I d1 :: I p2 :: .bot :: .bot :: .pt 32 0 :: bt 14 [], [(32, .box [Ti 0, Ti 0, Ti 0])]⟩) ?_ ?_
  ·refine L1 rfl rfl (Y1_alloc (z := zv43) rfl zf43 rfl) ?_
   refine L0 rfl rfl (E_assign (Bo false) rfl (by kernel_rfl)) ?_
   refine XL_nil ?_
   kernel_rfl
  obtain ⟨y3, hy3, h⟩ := of_bind h
  refine V_sreg (mb 19 208) [48, 32] (s1 := ⟨bt 4 (.pt 32 0 :: .bot :: .pt 48 0 :: Bo y3.2 :: bt 11 []), [(48, .box [Ti y3.1.1, Ti y3.1.2.1, Ti y3.1.2.2]), (32, .box [Ti 0, Ti 0, Ti 0])]⟩) ?_ ?_
  ·refine L0 rfl rfl (E_move (I d1) rfl (by kernel_rfl)) ?_
   refine L0 rfl rfl (E_move (I p2) rfl (by kernel_rfl)) ?_
   refine L1 rfl rfl (Y1_call (s_impl_PrimeForm hy3) cf_impl_PrimeForm rfl (by kernel_rfl)) ?_
   refine L0 rfl rfl (E_move (.tc (.ag [Ti y3.1.1, Ti y3.1.2.1, Ti y3.1.2.2]) (.tc (Bo y3.2) .tn)) rfl (by kernel_rfl)) ?_
   refine L0 rfl rfl (E_ext (n := 0) (.ag [Ti y3.1.1, Ti y3.1.2.1, Ti y3.1.2.2]) (.tc (Bo y3.2) .tn) (.ag [Ti y3.1.1, Ti y3.1.2.1, Ti y3.1.2.2]) rfl (by kernel_rfl) (by kernel_rfl) (by intro hh; cases hh)) ?_
   refine L0 rfl rfl (E_ext (n := 1) (.ag [Ti y3.1.1, Ti y3.1.2.1, Ti y3.1.2.2]) (.tc (Bo y3.2) .tn) (Bo y3.2) rfl (by kernel_rfl) (by kernel_rfl) (by intro hh; cases hh)) ?_
   refine L1 rfl rfl (Y1_alloc (z := zv43) rfl zf43 rfl) ?_
   refine XL_cons rfl (E_store (id := 48) (off := 0) (cs := [Ti 0, Ti 0, Ti 0]) (vc := [Ti y3.1.1, Ti y3.1.2.1, Ti y3.1.2.2]) [Ti y3.1.1, Ti y3.1.2.1, Ti y3.1.2.2] rfl rfl (by kernel_rfl) (by kernel_rfl) (by kernel_rfl) sz43 (Nat.le_of_ble_eq_true rfl) (by kernel_rfl)) ?_
   refine L0 rfl rfl (E_assign (Bo y3.2) rfl (by kernel_rfl)) ?_
   refine XL_nil ?_
   kernel_rfl
  refine V_seq ?_
  refine V_sreg (mb 19 32848) [48, 32] (s1 := ⟨bt 4 (.pt 32 0 :: .bot :: .pt 48 0 :: bt 8 (Bo (!y3.2) :: bt 3 [])), [(48, .box [Ti y3.1.1, Ti y3.1.2.1, Ti y3.1.2.2]), (32, .box [Ti 0, Ti 0, Ti 0])]⟩) ?_ ?_
  ·refine L0 rfl rfl (E_move (Bo y3.2) rfl (by kernel_rfl)) ?_
   refine L0 rfl rfl (Y0_not (b := y3.2) rfl (by kernel_rfl)) ?_
   refine XL_nil ?_
   kernel_rfl
  refine V_cond rfl (fun hc4 => ?_) (fun hc4 => ?_)
  ·have h := of_true h hc4
   refine V_sreg (mb 19 48) [32] (s1 := ⟨bt 4 (.pt 32 0 :: Bo false :: bt 13 []), [(32, .box [Ti 0, Ti 0, Ti 0])]⟩) ?_ ?_
   ·refine L0 rfl rfl (Y0_build (cs := [Ti 0, Ti 0, Ti 0]) pl43 bt43 rfl rfl (by kernel_rfl)) ?_
    refine XL_cons rfl (E_store (id := 32) (off := 0) (cs := [Ti 0, Ti 0, Ti 0]) (vc := [Ti 0, Ti 0, Ti 0]) [Ti 0, Ti 0, Ti 0] rfl rfl (by kernel_rfl) (by kernel_rfl) (by kernel_rfl) sz43 (Nat.le_of_ble_eq_true rfl) (by kernel_rfl)) ?_
    refine L0 rfl rfl (E_assign (Bo false) rfl (by kernel_rfl)) ?_
    refine XL_nil ?_
    kernel_rfl
   refine V_ret ?_
   obtain rfl := some_inj h
   show Post _ _ _ _ _
   exact ⟨.inr rfl, rfl, rfl, rfl⟩
  ·have h := of_false h hc4
   refine V_skip ?_
   show V _ _ _ _
   obtain ⟨y5, hy5, h⟩ := of_bind h
   refine V_sreg (mb 19 48) [32] (s1 := ⟨bt 4 (.pt 32 0 :: Bo true :: bt 13 []), [(32, .box [Ti y5.1, Ti y5.2.1, Ti y5.2.2])]⟩) ?_ ?_
   ·refine L0 rfl rfl (E_loadn (cs := [Ti y3.1.1, Ti y3.1.2.1, Ti y3.1.2.2]) [Ti y3.1.1, Ti y3.1.2.1, Ti y3.1.2.2] wd43 rfl (by kernel_rfl) (Nat.le_of_ble_eq_true rfl) (by kernel_rfl)) ?_
    refine L1 rfl rfl (Y1_call (s_impl_reduced hy5) cf_impl_reduced rfl (by kernel_rfl)) ?_
    refine XL_cons rfl (E_store (id := 32) (off := 0) (cs := [Ti 0, Ti 0, Ti 0]) (vc := [Ti y5.1, Ti y5.2.1, Ti y5.2.2]) [Ti y5.1, Ti y5.2.1, Ti y5.2.2] rfl rfl (by kernel_rfl) (by kernel_rfl) (by kernel_rfl) sz43 (Nat.le_of_ble_eq_true rfl) (by kernel_rfl)) ?_
    refine L0 rfl rfl (E_assign (Bo true) rfl (by kernel_rfl)) ?_
    refine XL_nil ?_
    kernel_rfl
   refine V_ret ?_
   obtain rfl := some_inj h
   show Post _ _ _ _ _
   exact ⟨.inr rfl, rfl, rfl, rfl⟩
theorem cf_impl_isClassForm : ∀ args w, (callFunc 80 args).run Try.prog w = .ok (.enter 80 args) w := run_callFunc Try.func80 (by kernel_rfl) (by kernel_rfl)
set_option maxRecDepth 100000 in
set_option maxHeartbeats 400000 in
theorem s_impl_isClassForm {f1 : (Int × Int × Int)} {r : Bool} (h : r_impl_isClassForm f1 = some r) : CallS Try.prog 80 [.ag [Ti f1.1, Ti f1.2.1, Ti f1.2.2]] (Bo r) [] := by
  refine CallS_of_text (rs := [.t 2]) (vs := [.tmp 2]) Try.func80 rfl rfl (.cons rfl FitsL.nil) (by decide) 10 rfl ?_
  unfold r_impl_isClassForm at h
  show V _ _ ⟨.ag [Ti f1.1, Ti f1.2.1, Ti f1.2.2] :: bt 9 [], []⟩ _
  refine V_sreg (mb 10 2) [8] (s1 := ⟨.bot :: .pt 8 0 :: bt 8 [], [(8, .box [Ti f1.1, Ti f1.2.1, Ti f1.2.2])]⟩) ?_ ?_
  ·refine L1 rfl rfl (Y1_box (cs := [Ti f1.1, Ti f1.2.1, Ti f1.2.2]) rfl (by kernel_rfl)) ?_
   refine L0 rfl rfl (E_assign (Bo false) rfl (by kernel_rfl)) ?_
   refine XL_nil ?_
   kernel_rfl
  obtain ⟨y2, hy2, h⟩ := of_bind h
  obtain ⟨b5, hb5, h⟩ := of_bind h
  refine V_sreg (mb 10 4) [] (s1 := ⟨.bot :: .bot :: Bo b5 :: bt 7 [], []⟩) ?_ ?_
  ·refine L0 rfl rfl (E_loadn (cs := [Ti f1.1, Ti f1.2.1, Ti f1.2.2]) [Ti f1.1, Ti f1.2.1, Ti f1.2.2] wd43 rfl (by kernel_rfl) (Nat.le_of_ble_eq_true rfl) (by kernel_rfl)) ?_
   refine L1 rfl rfl (Y1_call (s_impl_isShownForm hy2) cf_impl_isShownForm rfl (by kernel_rfl)) ?_
   refine L0 rfl rfl (E_move (Bo y2) rfl (by kernel_rfl)) ?_
   refine XL_split y2 (fun hc3 => ?_) (fun hc3 => ?_)
   ·have hb5 := of_true hb5 hc3
    obtain ⟨y4, hy4, hb5⟩ := of_bind hb5
    have hb5 := some_inj hb5
    refine XL_takeC _ rfl rfl (by kernel_rfl) hc3 (X_of_Y0 rfl (E_loadn (cs := [Ti f1.1, Ti f1.2.1, Ti f1.2.2]) [Ti f1.1, Ti f1.2.1, Ti f1.2.2] wd43 rfl (by kernel_rfl) (Nat.le_of_ble_eq_true rfl) (by kernel_rfl))) ?_
    refine XL_takeC _ rfl rfl (by kernel_rfl) hc3 (X_of_Y1 rfl (Y1_call (s_impl_Form_content hy4) cf_impl_Form_content rfl (by kernel_rfl))) ?_
    refine XL_takeC _ rfl rfl (by kernel_rfl) hc3 (X_of_Y0 rfl (Y0_eqw (k := .i64) (a := y4) (b := 1) rfl (by kernel_rfl) (by kernel_rfl))) ?_
    refine XL_cons rfl (X_of_Y0 rfl (Y0_pickTe (b := y2) (p := eqI y4 1) rfl (by kernel_rfl) hc3 (by kernel_rfl) hb5)) ?_
    refine L0 rfl rfl (E_assign (Bo b5) rfl (by kernel_rfl)) ?_
    refine XL_nil ?_
    kernel_rfl
   ·have hb5 := some_inj (of_false hb5 hc3)
    refine XL_skipT _ rfl rfl (by kernel_rfl) hc3 rfl ?_
    refine XL_skipT _ rfl rfl (by kernel_rfl) hc3 rfl ?_
    refine XL_skipT _ rfl rfl (by kernel_rfl) hc3 rfl ?_
    refine XL_cons rfl (X_of_Y0 rfl (Y0_pickFe (b := y2) (p := false) rfl (by kernel_rfl) hc3 (by kernel_rfl) hb5)) ?_
    refine L0 rfl rfl (E_assign (Bo b5) rfl (by kernel_rfl)) ?_
    refine XL_nil ?_
    kernel_rfl
  refine V_ret ?_
  obtain rfl := some_inj h
  show Post _ _ _ _ _
  exact ⟨.inr rfl, rfl, rfl, rfl⟩
theorem cf_impl_Form_opposite : ∀ args w, (callFunc 81 args).run Try.prog w = .ok (.enter 81 args) w := run_callFunc Try.func81 (by kernel_rfl) (by kernel_rfl)
set_option maxRecDepth 100000 in
set_option maxHeartbeats 400000 in
theorem s_impl_Form_opposite {f1 : (Int × Int × Int)} {r : (Int × Int × Int)} (h : r_impl_Form_opposite f1 = some r) : CallS Try.prog 81 [.ag [Ti f1.1, Ti f1.2.1, Ti f1.2.2]] (.ag [Ti r.1, Ti r.2.1, Ti r.2.2]) [] := by
  refine CallS_of_text (rs := [.w 2 3]) (vs := [.cell 2 43]) Try.func81 rfl rfl (.cons ⟨rfl, wd43⟩ FitsL.nil) (by decide) 11 rfl ?_
  unfold r_impl_Form_opposite at h
  show V _ _ ⟨.ag [Ti f1.1, Ti f1.2.1, Ti f1.2.2] :: bt 10 [], []⟩ _
  refine V_sreg (mb 11 6) [16, 8] (s1 := ⟨.bot :: .pt 8 0 :: .pt 16 0 :: bt 8 [], [(16, .box [Ti 0, Ti 0, Ti 0]), (8, .box [Ti f1.1, Ti f1.2.1, Ti f1.2.2])]⟩) ?_ ?_
  ·refine L1 rfl rfl (Y1_box (cs := [Ti f1.1, Ti f1.2.1, Ti f1.2.2]) rfl (by kernel_rfl)) ?_
   refine L1 rfl rfl (Y1_alloc (z := zv43) rfl zf43 rfl) ?_
   refine XL_nil ?_
   kernel_rfl
  obtain ⟨f2, hf2, h⟩ := of_sI h
  refine V_sreg (mb 11 4) [16] (s1 := ⟨.bot :: .bot :: .pt 16 0 :: bt 8 [], [(16, .box [Ti f1.1, Ti f2, Ti f1.2.2])]⟩) ?_ ?_
  ·refine L0 rfl rfl (E_field (.pt 8 0) Try.underlying43 rfl sz3 rfl (by kernel_rfl) (by intro hh; cases hh)) ?_
   refine L0 rfl rfl (Y0_load1 (c := Ti f1.1) (cs := [Ti f1.2.1, Ti f1.2.2]) sc3 rfl (by kernel_rfl)) ?_
   refine L0 rfl rfl (E_field (.pt 8 1) Try.underlying43 rfl sz3 rfl (by kernel_rfl) (by intro hh; cases hh)) ?_
   refine L0 rfl rfl (Y0_load1 (c := Ti f1.2.1) (cs := [Ti f1.2.2]) sc3 rfl (by kernel_rfl)) ?_
   refine L0 rfl rfl (Y0_neg64 (a := f1.2.1) rfl (by kernel_rfl)) ?_
   refine L0 rfl rfl (E_field (.pt 8 2) Try.underlying43 rfl sz3 rfl (by kernel_rfl) (by intro hh; cases hh)) ?_
   refine L0 rfl rfl (Y0_load1 (c := Ti f1.2.2) (cs := []) sc3 rfl (by kernel_rfl)) ?_
   refine L0 rfl rfl (Y0_build (cs := [Ti f1.1, Ti (w64 (0 - f1.2.1)), Ti f1.2.2]) pl43 bt43 rfl rfl (by kernel_rfl)) ?_
   refine XL_cons rfl (E_store (id := 16) (off := 0) (cs := [Ti 0, Ti 0, Ti 0]) (vc := [Ti f1.1, Ti (w64 (0 - f1.2.1)), Ti f1.2.2]) [Ti f1.1, Ti (w64 (0 - f1.2.1)), Ti f1.2.2] rfl rfl (by kernel_rfl) (by kernel_rfl) (by kernel_rfl) sz43 (Nat.le_of_ble_eq_true rfl) (by kernel_rfl)) ?_
   refine XL_nil ?_
   subst hf2
   kernel_rfl
  refine V_ret ?_
  obtain rfl := some_inj h
  show Post _ _ _ _ _
  exact ⟨.inr rfl, rfl, rfl, rfl⟩
theorem cf_impl_InverseForm : ∀ args w, (callFunc 35 args).run Try.prog w = .ok (.enter 35 args) w := run_callFunc Try.func35 (by kernel_rfl) (by kernel_rfl)
set_option maxRecDepth 100000 in
set_option maxHeartbeats 400000 in
theorem s_impl_InverseForm {f1 : (Int × Int × Int)} {r : (((Int × Int × Int)) × Bool)} (h : r_impl_InverseForm f1 = some r) : CallS Try.prog 35 [.ag [Ti f1.1, Ti f1.2.1, Ti f1.2.2]] (.tc (.ag [Ti r.1.1, Ti r.1.2.1, Ti r.1.2.2]) (.tc (Bo r.2) .tn)) [] := by
  refine CallS_of_text (rs := [.w 2 3, .t 3]) (vs := [.cell 2 43, .tmp 3]) Try.func35 rfl rfl (.cons ⟨rfl, wd43⟩ (.cons rfl FitsL.nil)) (by decide) 11 rfl ?_
  unfold r_impl_InverseForm at h
  show V _ _ ⟨.ag [Ti f1.1, Ti f1.2.1, Ti f1.2.2] :: bt 10 [], []⟩ _
  refine V_sreg (mb 11 6) [16, 8] (s1 := ⟨.bot :: .pt 8 0 :: .pt 16 0 :: bt 8 [], [(16, .box [Ti 0, Ti 0, Ti 0]), (8, .box [Ti f1.1, Ti f1.2.1, Ti f1.2.2])]⟩) ?_ ?_
  ·refine L1 rfl rfl (Y1_box (cs := [Ti f1.1, Ti f1.2.1, Ti f1.2.2]) rfl (by kernel_rfl)) ?_
   refine L1 rfl rfl (Y1_alloc (z := zv43) rfl zf43 rfl) ?_
   refine L0 rfl rfl (E_assign (Bo false) rfl (by kernel_rfl)) ?_
   refine XL_nil ?_
   kernel_rfl
  refine V_seq ?_
  obtain ⟨y2, hy2, h⟩ := of_bind h
  refine V_sreg (mb 11 70) [16, 8] (s1 := ⟨.bot :: .pt 8 0 :: .pt 16 0 :: bt 3 (Bo (!y2) :: bt 4 []), [(16, .box [Ti 0, Ti 0, Ti 0]), (8, .box [Ti f1.1, Ti f1.2.1, Ti f1.2.2])]⟩) ?_ ?_
  ·refine L0 rfl rfl (E_loadn (cs := [Ti f1.1, Ti f1.2.1, Ti f1.2.2]) [Ti f1.1, Ti f1.2.1, Ti f1.2.2] wd43 rfl (by kernel_rfl) (Nat.le_of_ble_eq_true rfl) (by kernel_rfl)) ?_
   refine L1 rfl rfl (Y1_call (s_impl_isClassForm hy2) cf_impl_isClassForm rfl (by kernel_rfl)) ?_
   refine L0 rfl rfl (Y0_not (b := y2) rfl (by kernel_rfl)) ?_
   refine XL_nil ?_
   kernel_rfl
  refine V_cond rfl (fun hc3 => ?_) (fun hc3 => ?_)
  ·have h := of_true h hc3
   refine V_sreg (mb 11 12) [16] (s1 := ⟨.bot :: .bot :: .pt 16 0 :: Bo false :: bt 7 [], [(16, .box [Ti 0, Ti 0, Ti 0])]⟩) ?_ ?_
   ·refine L0 rfl rfl (Y0_build (cs := [Ti 0, Ti 0, Ti 0]) pl43 bt43 rfl rfl (by kernel_rfl)) ?_
    refine XL_cons rfl (E_store (id := 16) (off := 0) (cs := [Ti 0, Ti 0, Ti 0]) (vc := [Ti 0, Ti 0, Ti 0]) [Ti 0, Ti 0, Ti 0] rfl rfl (by kernel_rfl) (by kernel_rfl) (by kernel_rfl) sz43 (Nat.le_of_ble_eq_true rfl) (by kernel_rfl)) ?_
    refine L0 rfl rfl (E_assign (Bo false) rfl (by kernel_rfl)) ?_
    refine XL_nil ?_
    kernel_rfl
   refine V_ret ?_
   obtain rfl := some_inj h
   show Post _ _ _ _ _
   exact ⟨.inr rfl, rfl, rfl, rfl⟩
  ·have h := of_false h hc3
   refine V_skip ?_
   show V _ _ _ _
   obtain ⟨y4, hy4, h⟩ := of_bind h
   obtain ⟨y5, hy5, h⟩ := of_bind h
   refine V_sreg (mb 11 12) [16] (s1 := ⟨.bot :: .bot :: .pt 16 0 :: Bo true :: bt 7 [], [(16, .box [Ti y5.1, Ti y5.2.1, Ti y5.2.2])]⟩) ?_ ?_
   ·refine L0 rfl rfl (E_loadn (cs := [Ti f1.1, Ti f1.2.1, Ti f1.2.2]) [Ti f1.1, Ti f1.2.1, Ti f1.2.2] wd43 rfl (by kernel_rfl) (Nat.le_of_ble_eq_true rfl) (by kernel_rfl)) ?_
    refine L1 rfl rfl (Y1_call (s_impl_Form_opposite hy4) cf_impl_Form_opposite rfl (by kernel_rfl)) ?_
    refine L1 rfl rfl (Y1_call (s_impl_reduced hy5) cf_impl_reduced rfl (by kernel_rfl)) ?_
    refine XL_cons rfl (E_store (id := 16) (off := 0) (cs := [Ti 0, Ti 0, Ti 0]) (vc := [Ti y5.1, Ti y5.2.1, Ti y5.2.2]) [Ti y5.1, Ti y5.2.1, Ti y5.2.2] rfl rfl (by kernel_rfl) (by kernel_rfl) (by kernel_rfl) sz43 (Nat.le_of_ble_eq_true rfl) (by kernel_rfl)) ?_
    refine L0 rfl rfl (E_assign (Bo true) rfl (by kernel_rfl)) ?_
    refine XL_nil ?_
    kernel_rfl
   refine V_ret ?_
   obtain rfl := some_inj h
   show Post _ _ _ _ _
   exact ⟨.inr rfl, rfl, rfl, rfl⟩
theorem cf_impl_firstPoint : ∀ args w, (callFunc 118 args).run Try.prog w = .ok (.enter 118 args) w := run_callFunc Try.func118 (by kernel_rfl) (by kernel_rfl)
set_option maxRecDepth 100000 in
set_option maxHeartbeats 400000 in
theorem s_impl_firstPoint {g1 : (Int × Int × Int)} {a2 : Int} {r : (Int × Int)} (h : r_impl_firstPoint g1 a2 = some r) : CallS Try.prog 118 [.ag [Ti g1.1, Ti g1.2.1, Ti g1.2.2], I a2] (.tc (I r.1) (.tc (I r.2) .tn)) [] := by
  refine CallS_of_text (rs := [.t 4, .t 5]) (vs := [.tmp 4, .tmp 5]) Try.func118 rfl rfl (.cons rfl (.cons rfl FitsL.nil)) (by decide) 43 rfl ?_
  unfold r_impl_firstPoint at h
  show V _ _ ⟨.ag [Ti g1.1, Ti g1.2.1, Ti g1.2.2] :: I a2 :: bt 41 [], []⟩ _
  refine V_sreg (mb 43 6) [16] (s1 := ⟨.bot :: I a2 :: .pt 16 0 :: bt 40 [], [(16, .box [Ti g1.1, Ti g1.2.1, Ti g1.2.2])]⟩) ?_ ?_
  ·refine L1 rfl rfl (Y1_box (cs := [Ti g1.1, Ti g1.2.1, Ti g1.2.2]) rfl (by kernel_rfl)) ?_
   refine L0 rfl rfl (E_assign (I 0) rfl (by kernel_rfl)) ?_
   refine L0 rfl rfl (E_assign (I 0) rfl (by kernel_rfl)) ?_
   refine XL_nil ?_
   kernel_rfl
  refine V_sreg (mb 43 70) [16] (s1 := ⟨.bot :: I a2 :: .pt 16 0 :: bt 3 (I 0 :: bt 36 []), [(16, .box [Ti g1.1, Ti g1.2.1, Ti g1.2.2])]⟩) ?_ ?_
  ·refine L0 rfl rfl (E_assign (I 0) rfl (by kernel_rfl)) ?_
   refine XL_nil ?_
   kernel_rfl
  obtain ⟨qo5, hLo5, hko5⟩ := of_bind h
  refine V_toS (q := qo5) (S := fun _ => (⟨[], []⟩ : St)) [] [] ?_ ?_
  ·refine V_block (V_loop (fun n s => ∃ (size3 : Int), s.keep (mb 43 70) [16] = (⟨.bot :: I a2 :: .pt 16 0 :: bt 3 (I size3 :: bt 36 []), [(16, .box [Ti g1.1, Ti g1.2.1, Ti g1.2.2])]⟩ : St) ∧ r_impl_firstPoint_L4 a2 g1 n size3 = some qo5) FU ⟨_,  by rfl, hLo5⟩ ?_)
   clear hLo5
   rintro n s ⟨size3, hs, h⟩
   refine V_keep _ _ hs ?_
   clear hs
   cases n with
   | zero => cases h
   | succ n =>
    rw [r_impl_firstPoint_L4] at h
    refine V_seq ?_
    refine V_block ?_
    refine V_sreg (mb 43 198) [16] (s1 := ⟨.bot :: I a2 :: .pt 16 0 :: bt 3 (I size3 :: I 0 :: bt 35 []), [(16, .box [Ti g1.1, Ti g1.2.1, Ti g1.2.2])]⟩) ?_ ?_
    ·refine L0 rfl rfl (E_assign (I 0) rfl (by kernel_rfl)) ?_
     refine XL_nil ?_
     kernel_rfl
    obtain ⟨qo8, hLo8, hko8⟩ := of_bind h
    refine V_toS (q := qo8) (S := fun o8 => ⟨.bot :: I a2 :: .pt 16 0 :: bt 3 (I size3 :: bt 36 []), [(16, .box [Ti g1.1, Ti g1.2.1, Ti g1.2.2])]⟩) (mb 43 70) [16] ?_ ?_
    ·refine V_block (V_loop (fun n s => ∃ (x6 : Int), s.keep (mb 43 198) [16] = (⟨.bot :: I a2 :: .pt 16 0 :: bt 3 (I size3 :: I x6 :: bt 35 []), [(16, .box [Ti g1.1, Ti g1.2.1, Ti g1.2.2])]⟩ : St) ∧ r_impl_firstPoint_L7 a2 g1 size3 n x6 = some qo8) FU ⟨_,  by rfl, hLo8⟩ ?_)
     clear hLo8
     rintro n s ⟨x6, hs, h⟩
     refine V_keep _ _ hs ?_
     clear hs
     cases n with
     | zero => cases h
     | succ n =>
      rw [r_impl_firstPoint_L7] at h
      refine V_seq ?_
      refine V_sreg (mb 43 8390) [16] (s1 := ⟨.bot :: I a2 :: .pt 16 0 :: bt 3 (I size3 :: I x6 :: bt 5 (Bo (leI x6 size3) :: bt 29 [])), [(16, .box [Ti g1.1, Ti g1.2.1, Ti g1.2.2])]⟩) ?_ ?_
      ·refine L0 rfl rfl (E_move (I x6) rfl (by kernel_rfl)) ?_
       refine L0 rfl rfl (E_move (I size3) rfl (by kernel_rfl)) ?_
       refine L0 rfl rfl (Y0_lew (k := .i64) (a := x6) (b := size3) rfl (by kernel_rfl) (by kernel_rfl)) ?_
       refine XL_nil ?_
       kernel_rfl
      refine V_cond rfl (fun hc9 => ?_) (fun hc9 => ?_)
      ·have h := of_true h hc9
       refine V_skip ?_
       show V _ _ _ _
       refine V_seq ?_
       refine V_block ?_
       refine V_sreg (mb 43 454) [16] (s1 := ⟨.bot :: I a2 :: .pt 16 0 :: bt 3 (I size3 :: I x6 :: I 0 :: bt 34 []), [(16, .box [Ti g1.1, Ti g1.2.1, Ti g1.2.2])]⟩) ?_ ?_
       ·refine L0 rfl rfl (E_assign (I 0) rfl (by kernel_rfl)) ?_
        refine XL_nil ?_
        kernel_rfl
       obtain ⟨qo12, hLo12, hko12⟩ := of_bind h
       refine V_toS (q := qo12) (S := fun o12 => ⟨.bot :: I a2 :: .pt 16 0 :: bt 3 (I size3 :: I x6 :: bt 35 []), [(16, .box [Ti g1.1, Ti g1.2.1, Ti g1.2.2])]⟩) (mb 43 198) [16] ?_ ?_
       ·refine V_block (V_loop (fun n s => ∃ (y10 : Int), s.keep (mb 43 454) [16] = (⟨.bot :: I a2 :: .pt 16 0 :: bt 3 (I size3 :: I x6 :: I y10 :: bt 34 []), [(16, .box [Ti g1.1, Ti g1.2.1, Ti g1.2.2])]⟩ : St) ∧ r_impl_firstPoint_L11 a2 g1 size3 x6 n y10 = some qo12) FU ⟨_,  by rfl, hLo12⟩ ?_)
        clear hLo12
        rintro n s ⟨y10, hs, h⟩
        refine V_keep _ _ hs ?_
        clear hs
        cases n with
        | zero => cases h
        | succ n =>
         rw [r_impl_firstPoint_L11] at h
         refine V_seq ?_
         refine V_sreg (mb 43 262598) [16] (s1 := ⟨.bot :: I a2 :: .pt 16 0 :: bt 3 (I size3 :: I x6 :: I y10 :: bt 9 (Bo (leI y10 size3) :: bt 24 [])), [(16, .box [Ti g1.1, Ti g1.2.1, Ti g1.2.2])]⟩) ?_ ?_
         ·refine L0 rfl rfl (E_move (I y10) rfl (by kernel_rfl)) ?_
          refine L0 rfl rfl (E_move (I size3) rfl (by kernel_rfl)) ?_
          refine L0 rfl rfl (Y0_lew (k := .i64) (a := y10) (b := size3) rfl (by kernel_rfl) (by kernel_rfl)) ?_
          refine XL_nil ?_
          kernel_rfl
         refine V_cond rfl (fun hc13 => ?_) (fun hc13 => ?_)
         ·have h := of_true h hc13
          refine V_skip ?_
          show V _ _ _ _
          refine V_seq ?_
          refine V_block ?_
          obtain ⟨b16, hb16, h⟩ := of_bind h
          obtain ⟨b20, hb20, h⟩ := of_bind h
          refine V_sreg (mb 43 1099511628230) [16] (s1 := ⟨.bot :: I a2 :: .pt 16 0 :: bt 3 (I size3 :: I x6 :: I y10 :: bt 31 (Bo b20 :: .bot :: .bot :: [])), [(16, .box [Ti g1.1, Ti g1.2.1, Ti g1.2.2])]⟩) ?_ ?_
          ·refine L0 rfl rfl (E_move (I x6) rfl (by kernel_rfl)) ?_
           refine L0 rfl rfl (E_move (I y10) rfl (by kernel_rfl)) ?_
           refine L0 rfl rfl (Y0_max (a := x6) (b := y10) rfl (by kernel_rfl) (by kernel_rfl)) ?_
           refine L0 rfl rfl (E_move (I size3) rfl (by kernel_rfl)) ?_
           refine L0 rfl rfl (Y0_eqw (k := .i64) (a := mxI x6 y10) (b := size3) rfl (by kernel_rfl) (by kernel_rfl)) ?_
           refine L0 rfl rfl (E_move (Bo (eqI (mxI x6 y10) size3)) rfl (by kernel_rfl)) ?_
           refine XL_split (eqI (mxI x6 y10) size3) (fun hc14 => ?_) (fun hc14 => ?_)
           ·have hb16 := of_true hb16 hc14
            obtain ⟨y15, hy15, hb16⟩ := of_bind hb16
            have hb16 := some_inj hb16
            refine XL_takeC _ rfl rfl (by kernel_rfl) hc14 (X_of_Y0 rfl (E_move (I x6) rfl (by kernel_rfl))) ?_
            refine XL_takeC _ rfl rfl (by kernel_rfl) hc14 (X_of_Y0 rfl (E_move (I y10) rfl (by kernel_rfl))) ?_
            refine XL_takeC _ rfl rfl (by kernel_rfl) hc14 (X_of_Y1 rfl (Y1_call (s_impl_gcd hy15) cf_impl_gcd rfl (by kernel_rfl))) ?_
            refine XL_takeC _ rfl rfl (by kernel_rfl) hc14 (X_of_Y0 rfl (Y0_eqw (k := .i64) (a := y15) (b := 1) rfl (by kernel_rfl) (by kernel_rfl))) ?_
            refine XL_cons rfl (X_of_Y0 rfl (Y0_pickTe (b := eqI (mxI x6 y10) size3) (p := eqI y15 1) rfl (by kernel_rfl) hc14 (by kernel_rfl) hb16)) ?_
            refine L0 rfl rfl (E_move (Bo b16) rfl (by kernel_rfl)) ?_
            refine XL_split b16 (fun hc17 => ?_) (fun hc17 => ?_)
            ·have hb20 := of_true hb20 hc17
             obtain ⟨y18, hy18, hb20⟩ := of_bind hb20
             obtain ⟨y19, hy19, hb20⟩ := of_bind hb20
             have hb20 := some_inj hb20
             refine XL_takeC _ rfl rfl (by kernel_rfl) hc17 (X_of_Y0 rfl (E_loadn (cs := [Ti g1.1, Ti g1.2.1, Ti g1.2.2]) [Ti g1.1, Ti g1.2.1, Ti g1.2.2] wd43 rfl (by kernel_rfl) (Nat.le_of_ble_eq_true rfl) (by kernel_rfl))) ?_
             refine XL_takeC _ rfl rfl (by kernel_rfl) hc17 (X_of_Y0 rfl (E_move (I x6) rfl (by kernel_rfl))) ?_
             refine XL_takeC _ rfl rfl (by kernel_rfl) hc17 (X_of_Y0 rfl (E_move (I y10) rfl (by kernel_rfl))) ?_
             refine XL_takeC _ rfl rfl (by kernel_rfl) hc17 (X_of_Y1 rfl (Y1_call (s_impl_Form_at hy18) cf_impl_Form_at rfl (by kernel_rfl))) ?_
             refine XL_takeC _ rfl rfl (by kernel_rfl) hc17 (X_of_Y0 rfl (E_move (I a2) rfl (by kernel_rfl))) ?_
             refine XL_takeC _ rfl rfl (by kernel_rfl) hc17 (X_of_Y1 rfl (Y1_call (s_impl_gcd hy19) cf_impl_gcd rfl (by kernel_rfl))) ?_
             refine XL_takeC _ rfl rfl (by kernel_rfl) hc17 (X_of_Y0 rfl (Y0_eqw (k := .i64) (a := y19) (b := 1) rfl (by kernel_rfl) (by kernel_rfl))) ?_
             refine XL_cons rfl (X_of_Y0 rfl (Y0_pickTe (b := b16) (p := eqI y19 1) rfl (by kernel_rfl) hc17 (by kernel_rfl) hb20)) ?_
             refine XL_nil ?_
             kernel_rfl
            ·have hb20 := some_inj (of_false hb20 hc17)
             refine XL_skipT _ rfl rfl (by kernel_rfl) hc17 rfl ?_
             refine XL_skipT _ rfl rfl (by kernel_rfl) hc17 rfl ?_
             refine XL_skipT _ rfl rfl (by kernel_rfl) hc17 rfl ?_
             refine XL_skipT _ rfl rfl (by kernel_rfl) hc17 rfl ?_
             refine XL_skipT _ rfl rfl (by kernel_rfl) hc17 rfl ?_
             refine XL_skipT _ rfl rfl (by kernel_rfl) hc17 rfl ?_
             refine XL_skipT _ rfl rfl (by kernel_rfl) hc17 rfl ?_
             refine XL_cons rfl (X_of_Y0 rfl (Y0_pickFe (b := b16) (p := false) rfl (by kernel_rfl) hc17 (by kernel_rfl) hb20)) ?_
             refine XL_nil ?_
             kernel_rfl
           ·have hb16 := some_inj (of_false hb16 hc14)
            refine XL_skipT _ rfl rfl (by kernel_rfl) hc14 rfl ?_
            refine XL_skipT _ rfl rfl (by kernel_rfl) hc14 rfl ?_
            refine XL_skipT _ rfl rfl (by kernel_rfl) hc14 rfl ?_
            refine XL_skipT _ rfl rfl (by kernel_rfl) hc14 rfl ?_
            refine XL_cons rfl (X_of_Y0 rfl (Y0_pickFe (b := eqI (mxI x6 y10) size3) (p := false) rfl (by kernel_rfl) hc14 (by kernel_rfl) hb16)) ?_
            refine L0 rfl rfl (E_move (Bo b16) rfl (by kernel_rfl)) ?_
            refine XL_split b16 (fun hc17 => ?_) (fun hc17 => ?_)
            ·have hb20 := of_true hb20 hc17
             obtain ⟨y18, hy18, hb20⟩ := of_bind hb20
             obtain ⟨y19, hy19, hb20⟩ := of_bind hb20
             have hb20 := some_inj hb20
             refine XL_takeC _ rfl rfl (by kernel_rfl) hc17 (X_of_Y0 rfl (E_loadn (cs := [Ti g1.1, Ti g1.2.1, Ti g1.2.2]) [Ti g1.1, Ti g1.2.1, Ti g1.2.2] wd43 rfl (by kernel_rfl) (Nat.le_of_ble_eq_true rfl) (by kernel_rfl))) ?_
             refine XL_takeC _ rfl rfl (by kernel_rfl) hc17 (X_of_Y0 rfl (E_move (I x6) rfl (by kernel_rfl))) ?_
             refine XL_takeC _ rfl rfl (by kernel_rfl) hc17 (X_of_Y0 rfl (E_move (I y10) rfl (by kernel_rfl))) ?_
             refine XL_takeC _ rfl rfl (by kernel_rfl) hc17 (X_of_Y1 rfl (Y1_call (s_impl_Form_at hy18) cf_impl_Form_at rfl (by kernel_rfl))) ?_
             refine XL_takeC _ rfl rfl (by kernel_rfl) hc17 (X_of_Y0 rfl (E_move (I a2) rfl (by kernel_rfl))) ?_
             refine XL_takeC _ rfl rfl (by kernel_rfl) hc17 (X_of_Y1 rfl (Y1_call (s_impl_gcd hy19) cf_impl_gcd rfl (by kernel_rfl))) ?_
             refine XL_takeC _ rfl rfl (by kernel_rfl) hc17 (X_of_Y0 rfl (Y0_eqw (k := .i64) (a := y19) (b := 1) rfl (by kernel_rfl) (by kernel_rfl))) ?_
             refine XL_cons rfl (X_of_Y0 rfl (Y0_pickTe (b := b16) (p := eqI y19 1) rfl (by kernel_rfl) hc17 (by kernel_rfl) hb20)) ?_
             refine XL_nil ?_
             kernel_rfl
            ·have hb20 := some_inj (of_false hb20 hc17)
             refine XL_skipT _ rfl rfl (by kernel_rfl) hc17 rfl ?_
             refine XL_skipT _ rfl rfl (by kernel_rfl) hc17 rfl ?_
             refine XL_skipT _ rfl rfl (by kernel_rfl) hc17 rfl ?_
             refine XL_skipT _ rfl rfl (by kernel_rfl) hc17 rfl ?_
             refine XL_skipT _ rfl rfl (by kernel_rfl) hc17 rfl ?_
             refine XL_skipT _ rfl rfl (by kernel_rfl) hc17 rfl ?_
             refine XL_skipT _ rfl rfl (by kernel_rfl) hc17 rfl ?_
             refine XL_cons rfl (X_of_Y0 rfl (Y0_pickFe (b := b16) (p := false) rfl (by kernel_rfl) hc17 (by kernel_rfl) hb20)) ?_
             refine XL_nil ?_
             kernel_rfl
          refine V_cond rfl (fun hc21 => ?_) (fun hc21 => ?_)
          ·have h := of_true h hc21
           refine V_sreg (mb 43 48) [] (s1 := ⟨bt 4 (I x6 :: I y10 :: bt 37 []), []⟩) ?_ ?_
           ·refine L0 rfl rfl (E_move (I x6) rfl (by kernel_rfl)) ?_
            refine L0 rfl rfl (E_move (I y10) rfl (by kernel_rfl)) ?_
            refine L0 rfl rfl (E_assign (I x6) rfl (by kernel_rfl)) ?_
            refine L0 rfl rfl (E_assign (I y10) rfl (by kernel_rfl)) ?_
            refine XL_nil ?_
            kernel_rfl
           refine V_ret ?_
           obtain rfl := some_inj h
           have h := hko12
           obtain rfl := some_inj h
           have h := hko8
           obtain rfl := some_inj h
           have h := hko5
           obtain rfl := some_inj h
           show Post _ _ _ _ _
           exact ⟨.inr rfl, rfl, rfl, rfl⟩
          ·have h := of_false h hc21
           refine V_skip ?_
           show V _ _ _ _
           obtain ⟨y22, hy22, h⟩ := of_sI h
           refine V_reg (mb 43 454) [16] (s1 := ⟨.bot :: I a2 :: .pt 16 0 :: bt 3 (I size3 :: I x6 :: I y22 :: bt 34 []), [(16, .box [Ti g1.1, Ti g1.2.1, Ti g1.2.2])]⟩) ?_ ?_
           ·refine L0 rfl rfl (E_move (I y10) rfl (by kernel_rfl)) ?_
            refine L0 rfl rfl (Y0_add64 (a := y10) (b := 1) rfl (by kernel_rfl) (by kernel_rfl)) ?_
            refine L0 rfl rfl (E_assign (I (w64 (y10 + 1))) rfl (by kernel_rfl)) ?_
            refine XL_nil ?_
            subst hy22
            kernel_rfl
           exact ⟨n, Nat.lt_succ_self n, _,  by rfl, h⟩
         ·have h := of_false h hc13
          refine V_exit ?_
          obtain rfl := some_inj h
          exact ⟨_, rfl, by rfl⟩
       rintro o12 rfl
       have h := hko12
       clear hko12
       show V _ _ _ _
       obtain ⟨x23, hx23, h⟩ := of_sI h
       refine V_reg (mb 43 198) [16] (s1 := ⟨.bot :: I a2 :: .pt 16 0 :: bt 3 (I size3 :: I x23 :: bt 35 []), [(16, .box [Ti g1.1, Ti g1.2.1, Ti g1.2.2])]⟩) ?_ ?_
       ·refine L0 rfl rfl (E_move (I x6) rfl (by kernel_rfl)) ?_
        refine L0 rfl rfl (Y0_add64 (a := x6) (b := 1) rfl (by kernel_rfl) (by kernel_rfl)) ?_
        refine L0 rfl rfl (E_assign (I (w64 (x6 + 1))) rfl (by kernel_rfl)) ?_
        refine XL_nil ?_
        subst hx23
        kernel_rfl
       exact ⟨n, Nat.lt_succ_self n, _,  by rfl, h⟩
      ·have h := of_false h hc9
       refine V_exit ?_
       obtain rfl := some_inj h
       exact ⟨_, rfl, by rfl⟩
    rintro o8 rfl
    have h := hko8
    clear hko8
    show V _ _ _ _
    obtain ⟨size24, hsize24, h⟩ := of_sI h
    refine V_reg (mb 43 70) [16] (s1 := ⟨.bot :: I a2 :: .pt 16 0 :: bt 3 (I size24 :: bt 36 []), [(16, .box [Ti g1.1, Ti g1.2.1, Ti g1.2.2])]⟩) ?_ ?_
    ·refine L0 rfl rfl (E_move (I size3) rfl (by kernel_rfl)) ?_
     refine L0 rfl rfl (Y0_add64 (a := size3) (b := 1) rfl (by kernel_rfl) (by kernel_rfl)) ?_
     refine L0 rfl rfl (E_assign (I (w64 (size3 + 1))) rfl (by kernel_rfl)) ?_
     refine XL_nil ?_
     subst hsize24
     kernel_rfl
    exact ⟨n, Nat.lt_succ_self n, _,  by rfl, h⟩
  rintro o5 rfl
  cases hko5
theorem cf_impl_genusValues : ∀ args w, (callFunc 82 args).run Try.prog w = .ok (.enter 82 args) w := run_callFunc Try.func82 (by kernel_rfl) (by kernel_rfl)
set_option maxRecDepth 100000 in
set_option maxHeartbeats 400000 in
theorem s_impl_genusValues {f1 : (Int × Int × Int)} {r : List Int} (h : r_impl_genusValues f1 = some r) : CallS Try.prog 82 [.ag [Ti f1.1, Ti f1.2.1, Ti f1.2.2]] (.ow 0) [(0, .arr 3 1 (r.map c3))] := by
  refine CallS_of_text (rs := [.t 2]) (vs := [.tmp 2]) Try.func82 rfl rfl (.cons rfl FitsL.nil) (by decide) 24 rfl ?_
  unfold r_impl_genusValues at h
  show V _ _ ⟨.ag [Ti f1.1, Ti f1.2.1, Ti f1.2.2] :: bt 23 [], []⟩ _
  refine V_sreg (mb 24 2) [8] (s1 := ⟨.bot :: .pt 8 0 :: bt 22 [], [(8, .box [Ti f1.1, Ti f1.2.1, Ti f1.2.2])]⟩) ?_ ?_
  ·refine L1 rfl rfl (Y1_box (cs := [Ti f1.1, Ti f1.2.1, Ti f1.2.2]) rfl (by kernel_rfl)) ?_
   refine L1 rfl rfl (Y1_nil (e := 3) 1 (by decide) (.inl rfl)) ?_
   refine XL_nil ?_
   kernel_rfl
  obtain ⟨y2, hy2, h⟩ := of_bind h
  refine V_sreg (mb 24 8) [24] (s1 := ⟨bt 3 (.pt 24 0 :: bt 20 []), [(24, .box [Ti y2.1, Ti y2.2.1, Ti y2.2.2])]⟩) ?_ ?_
  ·refine L0 rfl rfl (E_loadn (cs := [Ti f1.1, Ti f1.2.1, Ti f1.2.2]) [Ti f1.1, Ti f1.2.1, Ti f1.2.2] wd43 rfl (by kernel_rfl) (Nat.le_of_ble_eq_true rfl) (by kernel_rfl)) ?_
   refine L1 rfl rfl (Y1_call (s_impl_reduced hy2) cf_impl_reduced rfl (by kernel_rfl)) ?_
   refine L1 rfl rfl (Y1_alloc (z := zv43) rfl zf43 rfl) ?_
   refine XL_cons rfl (E_store (id := 24) (off := 0) (cs := [Ti 0, Ti 0, Ti 0]) (vc := [Ti y2.1, Ti y2.2.1, Ti y2.2.2]) [Ti y2.1, Ti y2.2.1, Ti y2.2.2] rfl rfl (by kernel_rfl) (by kernel_rfl) (by kernel_rfl) sz43 (Nat.le_of_ble_eq_true rfl) (by kernel_rfl)) ?_
   refine XL_nil ?_
   kernel_rfl
  obtain ⟨y3, hy3, h⟩ := of_bind h
  refine V_sreg (mb 24 24) [24] (s1 := ⟨bt 3 (.pt 24 0 :: I y3 :: bt 19 []), [(24, .box [Ti y2.1, Ti y2.2.1, Ti y2.2.2])]⟩) ?_ ?_
  ·refine L0 rfl rfl (E_loadn (cs := [Ti y2.1, Ti y2.2.1, Ti y2.2.2]) [Ti y2.1, Ti y2.2.1, Ti y2.2.2] wd43 rfl (by kernel_rfl) (Nat.le_of_ble_eq_true rfl) (by kernel_rfl)) ?_
   refine L1 rfl rfl (Y1_call (s_impl_Form_disc hy3) cf_impl_Form_disc rfl (by kernel_rfl)) ?_
   refine L0 rfl rfl (E_assign (I y3) rfl (by kernel_rfl)) ?_
   refine XL_nil ?_
   kernel_rfl
  obtain ⟨y4, hy4, h⟩ := of_bind h
  refine V_sreg (mb 24 120) [24] (s1 := ⟨bt 3 (.pt 24 0 :: I y3 :: I y4.1 :: I y4.2 :: bt 17 []), [(24, .box [Ti y2.1, Ti y2.2.1, Ti y2.2.2])]⟩) ?_ ?_
  ·refine L0 rfl rfl (E_loadn (cs := [Ti y2.1, Ti y2.2.1, Ti y2.2.2]) [Ti y2.1, Ti y2.2.1, Ti y2.2.2] wd43 rfl (by kernel_rfl) (Nat.le_of_ble_eq_true rfl) (by kernel_rfl)) ?_
   refine L0 rfl rfl (E_move (I y3) rfl (by kernel_rfl)) ?_
   refine L0 rfl rfl (Y0_mul64 (a := 2) (b := y3) rfl (by kernel_rfl) (by kernel_rfl)) ?_
   refine L1 rfl rfl (Y1_call (s_impl_firstPoint hy4) cf_impl_firstPoint rfl (by kernel_rfl)) ?_
   refine L0 rfl rfl (E_move (.tc (I y4.1) (.tc (I y4.2) .tn)) rfl (by kernel_rfl)) ?_
   refine L0 rfl rfl (E_ext (n := 0) (I y4.1) (.tc (I y4.2) .tn) (I y4.1) rfl (by kernel_rfl) (by kernel_rfl) (by intro hh; cases hh)) ?_
   refine L0 rfl rfl (E_ext (n := 1) (I y4.1) (.tc (I y4.2) .tn) (I y4.2) rfl (by kernel_rfl) (by kernel_rfl) (by intro hh; cases hh)) ?_
   refine L0 rfl rfl (E_assign (I y4.1) rfl (by kernel_rfl)) ?_
   refine L0 rfl rfl (E_assign (I y4.2) rfl (by kernel_rfl)) ?_
   refine XL_nil ?_
   kernel_rfl
  obtain ⟨y5, hy5, h⟩ := of_bind h
  obtain ⟨y6, hy6, h⟩ := of_bind h
  refine V_sreg (mb 24 4) [184] (s1 := ⟨.bot :: .bot :: .ow 184 :: bt 21 [], [(184, .arr 3 1 (y6.map c3))]⟩) ?_ ?_
  ·refine L0 rfl rfl (E_move (I y3) rfl (by kernel_rfl)) ?_
   refine L0 rfl rfl (E_loadn (cs := [Ti y2.1, Ti y2.2.1, Ti y2.2.2]) [Ti y2.1, Ti y2.2.1, Ti y2.2.2] wd43 rfl (by kernel_rfl) (Nat.le_of_ble_eq_true rfl) (by kernel_rfl)) ?_
   refine L0 rfl rfl (E_move (I y4.1) rfl (by kernel_rfl)) ?_
   refine L0 rfl rfl (E_move (I y4.2) rfl (by kernel_rfl)) ?_
   refine L1 rfl rfl (Y1_call (s_impl_Form_at hy5) cf_impl_Form_at rfl (by kernel_rfl)) ?_
   refine L1 rfl rfl (Y1_call (s_impl_valuesAt hy6) cf_impl_valuesAt rfl (by kernel_rfl)) ?_
   refine L0 rfl rfl (E_assign (.ow 184) rfl (by kernel_rfl)) ?_
   refine XL_nil ?_
   kernel_rfl
  refine V_ret ?_
  obtain rfl := some_inj h
  show Post _ _ _ _ _
  exact ⟨.inr rfl, rfl, rfl, rfl⟩
theorem cf_impl_GenusValues : ∀ args w, (callFunc 36 args).run Try.prog w = .ok (.enter 36 args) w := run_callFunc Try.func36 (by kernel_rfl) (by kernel_rfl)
set_option maxRecDepth 100000 in
set_option maxHeartbeats 400000 in
theorem s_impl_GenusValues {f1 : (Int × Int × Int)} {r : ((List Int) × Bool)} (h : r_impl_GenusValues f1 = some r) : CallS Try.prog 36 [.ag [Ti f1.1, Ti f1.2.1, Ti f1.2.2]] (.tc (.ow 0) (.tc (Bo r.2) .tn)) [(0, .arr 3 1 (r.1.map c3))] := by
  refine CallS_of_text (rs := [.t 2, .t 3]) (vs := [.tmp 2, .tmp 3]) Try.func36 rfl rfl (.cons rfl (.cons rfl FitsL.nil)) (by decide) 10 rfl ?_
  unfold r_impl_GenusValues at h
  show V _ _ ⟨.ag [Ti f1.1, Ti f1.2.1, Ti f1.2.2] :: bt 9 [], []⟩ _
  refine V_sreg (mb 10 2) [8] (s1 := ⟨.bot :: .pt 8 0 :: bt 8 [], [(8, .box [Ti f1.1, Ti f1.2.1, Ti f1.2.2])]⟩) ?_ ?_
  ·refine L1 rfl rfl (Y1_box (cs := [Ti f1.1, Ti f1.2.1, Ti f1.2.2]) rfl (by kernel_rfl)) ?_
   refine L1 rfl rfl (Y1_nil (e := 3) 1 (by decide) (.inl rfl)) ?_
   refine L0 rfl rfl (E_assign (Bo false) rfl (by kernel_rfl)) ?_
   refine XL_nil ?_
   kernel_rfl
  refine V_seq ?_
  obtain ⟨y2, hy2, h⟩ := of_bind h
  refine V_sreg (mb 10 66) [8] (s1 := ⟨.bot :: .pt 8 0 :: bt 4 (Bo (!y2) :: bt 3 []), [(8, .box [Ti f1.1, Ti f1.2.1, Ti f1.2.2])]⟩) ?_ ?_
  ·refine L0 rfl rfl (E_loadn (cs := [Ti f1.1, Ti f1.2.1, Ti f1.2.2]) [Ti f1.1, Ti f1.2.1, Ti f1.2.2] wd43 rfl (by kernel_rfl) (Nat.le_of_ble_eq_true rfl) (by kernel_rfl)) ?_
   refine L1 rfl rfl (Y1_call (s_impl_isClassForm hy2) cf_impl_isClassForm rfl (by kernel_rfl)) ?_
   refine L0 rfl rfl (Y0_not (b := y2) rfl (by kernel_rfl)) ?_
   refine XL_nil ?_
   kernel_rfl
  refine V_cond rfl (fun hc3 => ?_) (fun hc3 => ?_)
  ·have h := of_true h hc3
   refine V_sreg (mb 10 12) [56] (s1 := ⟨.bot :: .bot :: .ow 56 :: Bo false :: bt 6 [], [(56, .arr 3 1 ((([] : List Int)).map c3))]⟩) ?_ ?_
   ·refine L1 rfl rfl (Y1_bslice0 Try.underlying28 sz3 (by decide) rfl rfl) ?_
    refine L0 rfl rfl (E_assign (.ow 56) rfl (by kernel_rfl)) ?_
    refine L0 rfl rfl (E_assign (Bo false) rfl (by kernel_rfl)) ?_
    refine XL_nil ?_
    kernel_rfl
   refine V_ret ?_
   obtain rfl := some_inj h
   show Post _ _ _ _ _
   exact ⟨.inr rfl, rfl, rfl, rfl⟩
  ·have h := of_false h hc3
   refine V_skip ?_
   show V _ _ _ _
   obtain ⟨y4, hy4, h⟩ := of_bind h
   refine V_sreg (mb 10 12) [72] (s1 := ⟨.bot :: .bot :: .ow 72 :: Bo true :: bt 6 [], [(72, .arr 3 1 (y4.map c3))]⟩) ?_ ?_
   ·refine L0 rfl rfl (E_loadn (cs := [Ti f1.1, Ti f1.2.1, Ti f1.2.2]) [Ti f1.1, Ti f1.2.1, Ti f1.2.2] wd43 rfl (by kernel_rfl) (Nat.le_of_ble_eq_true rfl) (by kernel_rfl)) ?_
    refine L1 rfl rfl (Y1_call (s_impl_genusValues hy4) cf_impl_genusValues rfl (by kernel_rfl)) ?_
    refine L0 rfl rfl (E_assign (.ow 72) rfl (by kernel_rfl)) ?_
    refine L0 rfl rfl (E_assign (Bo true) rfl (by kernel_rfl)) ?_
    refine XL_nil ?_
    kernel_rfl
   refine V_ret ?_
   obtain rfl := some_inj h
   show Post _ _ _ _ _
   exact ⟨.inr rfl, rfl, rfl, rfl⟩
theorem cf_impl_sameValues : ∀ args w, (callFunc 129 args).run Try.prog w = .ok (.enter 129 args) w := run_callFunc Try.func129 (by kernel_rfl) (by kernel_rfl)
set_option maxRecDepth 100000 in
set_option maxHeartbeats 400000 in
theorem s_impl_sameValues {x1 : List Int} {y2 : List Int} {r : Bool} (h : r_impl_sameValues x1 y2 = some r) : CallS Try.prog 129 [.c (.sl (x1.map c3)), .c (.sl (y2.map c3))] (Bo r) [] := by
  refine CallS_of_text (rs := [.t 4]) (vs := [.tmp 4]) Try.func129 rfl rfl (.cons rfl FitsL.nil) (by decide) 26 rfl ?_
  unfold r_impl_sameValues at h
  show V _ _ ⟨.c (.sl (x1.map c3)) :: .c (.sl (y2.map c3)) :: bt 24 [], []⟩ _
  refine V_sreg (mb 26 3) [] (s1 := ⟨.c (.sl (x1.map c3)) :: .c (.sl (y2.map c3)) :: bt 24 [], []⟩) ?_ ?_
  ·refine L0 rfl rfl (E_assign (Bo false) rfl (by kernel_rfl)) ?_
   refine XL_nil ?_
   kernel_rfl
  refine V_seq ?_
  refine V_sreg (mb 26 2051) [] (s1 := ⟨.c (.sl (x1.map c3)) :: .c (.sl (y2.map c3)) :: bt 9 (Bo (!eqI ((x1.length : Int)) ((y2.length : Int))) :: bt 14 []), []⟩) ?_ ?_
  ·refine L0 rfl rfl (E_move (.c (.sl (x1.map c3))) rfl (by kernel_rfl)) ?_
   refine L0 rfl rfl (Y0_lenM (c := c3) (xs := x1) Try.underlying28 rfl (by kernel_rfl)) ?_
   refine L0 rfl rfl (E_move (.c (.sl (y2.map c3))) rfl (by kernel_rfl)) ?_
   refine L0 rfl rfl (Y0_lenM (c := c3) (xs := y2) Try.underlying28 rfl (by kernel_rfl)) ?_
   refine L0 rfl rfl (Y0_new (k := .i64) (a := (x1.length : Int)) (b := (y2.length : Int)) rfl (by kernel_rfl) (by kernel_rfl)) ?_
   refine XL_nil ?_
   kernel_rfl
  refine V_cond rfl (fun hc3 => ?_) (fun hc3 => ?_)
  ·have h := of_true h hc3
   refine V_sreg (mb 26 16) [] (s1 := ⟨bt 4 (Bo false :: bt 21 []), []⟩) ?_ ?_
   ·refine L0 rfl rfl (E_assign (Bo false) rfl (by kernel_rfl)) ?_
    refine XL_nil ?_
    kernel_rfl
   refine V_ret ?_
   obtain rfl := some_inj h
   show Post _ _ _ _ _
   exact ⟨.inr rfl, rfl, rfl, rfl⟩
  ·have h := of_false h hc3
   refine V_skip ?_
   show V _ _ _ _
   refine V_seq ?_
   refine V_sreg (mb 26 28674) [] (s1 := ⟨.bot :: .c (.sl (y2.map c3)) :: bt 10 (.c (.sl (x1.map c3)) :: I ((x1.length : Int)) :: I 0 :: bt 11 []), []⟩) ?_ ?_
   ·refine L0 rfl rfl (E_move (.c (.sl (x1.map c3))) rfl (by kernel_rfl)) ?_
    refine L0 rfl rfl (Y0_lenM (c := c3) (xs := x1) Try.underlying28 rfl (by kernel_rfl)) ?_
    refine L0 rfl rfl (E_move (I 0) rfl (by kernel_rfl)) ?_
    refine XL_nil ?_
    kernel_rfl
   obtain ⟨qo6, hLo6, hko6⟩ := of_bind h
   refine V_toS (q := qo6) (S := fun o6 => ⟨bt 26 [], []⟩) (mb 26 0) [] ?_ ?_
   ·refine V_block (V_loop (fun n s => ∃ (t4 : Int), s.keep (mb 26 28674) [] = (⟨.bot :: .c (.sl (y2.map c3)) :: bt 10 (.c (.sl (x1.map c3)) :: I ((x1.length : Int)) :: I t4 :: bt 11 []), []⟩ : St) ∧ r_impl_sameValues_L5 x1 y2 n t4 = some qo6) FU ⟨_,  by rfl, hLo6⟩ ?_)
    clear hLo6
    rintro n s ⟨t4, hs, h⟩
    refine V_keep _ _ hs ?_
    clear hs
    cases n with
    | zero => cases h
    | succ n =>
     rw [r_impl_sameValues_L5] at h
     refine V_sreg (mb 26 61442) [] (s1 := ⟨.bot :: .c (.sl (y2.map c3)) :: bt 10 (.c (.sl (x1.map c3)) :: I ((x1.length : Int)) :: I t4 :: Bo (ltI t4 ((x1.length : Int))) :: bt 10 []), []⟩) ?_ ?_
     ·refine L0 rfl rfl (Y0_ltw (k := .i64) (a := t4) (b := (x1.length : Int)) rfl (by kernel_rfl) (by kernel_rfl)) ?_
      refine XL_nil ?_
      kernel_rfl
     refine V_seq ?_
     refine V_cond rfl (fun hc7 => ?_) (fun hc7 => ?_)
     ·have h := of_true h hc7
      refine V_skip ?_
      show V _ _ _ _
      refine V_seq ?_
      refine V_block ?_
      obtain ⟨e8, he8, h⟩ := of_bind h
      refine V_sreg (mb 26 28770) [] (s1 := ⟨.bot :: .c (.sl (y2.map c3)) :: bt 3 (I t4 :: I e8 :: bt 5 (.c (.sl (x1.map c3)) :: I ((x1.length : Int)) :: I t4 :: bt 11 [])), []⟩) ?_ ?_
      ·refine L0 rfl rfl (E_move (I t4) rfl (by kernel_rfl)) ?_
       refine L0 rfl rfl (Y0_idxM (c := c3) (xs := x1) (v := e8) (n := t4) Try.underlying28 sz3 rfl (by kernel_rfl) (by kernel_rfl) he8) ?_
       refine L0 rfl rfl (Y0_load1 (c := Ti e8) (cs := []) sc3 rfl (by kernel_rfl)) ?_
       refine L0 rfl rfl (E_assign (I t4) rfl (by kernel_rfl)) ?_
       refine L0 rfl rfl (E_assign (I e8) rfl (by kernel_rfl)) ?_
       refine XL_nil ?_
       kernel_rfl
      obtain ⟨e9, he9, h⟩ := of_bind h
      refine V_sreg (mb 26 16805890) [] (s1 := ⟨.bot :: .c (.sl (y2.map c3)) :: bt 10 (.c (.sl (x1.map c3)) :: I ((x1.length : Int)) :: I t4 :: bt 9 (Bo (!eqI e9 e8) :: .bot :: [])), []⟩) ?_ ?_
      ·refine L0 rfl rfl (E_move (.c (.sl (y2.map c3))) rfl (by kernel_rfl)) ?_
       refine L0 rfl rfl (E_move (I t4) rfl (by kernel_rfl)) ?_
       refine L0 rfl rfl (Y0_idxM (c := c3) (xs := y2) (v := e9) (n := t4) Try.underlying28 sz3 rfl (by kernel_rfl) (by kernel_rfl) he9) ?_
       refine L0 rfl rfl (Y0_load1 (c := Ti e9) (cs := []) sc3 rfl (by kernel_rfl)) ?_
       refine L0 rfl rfl (E_move (I e8) rfl (by kernel_rfl)) ?_
       refine L0 rfl rfl (Y0_new (k := .i64) (a := e9) (b := e8) rfl (by kernel_rfl) (by kernel_rfl)) ?_
       refine XL_nil ?_
       kernel_rfl
      refine V_cond rfl (fun hc10 => ?_) (fun hc10 => ?_)
      ·have h := of_true h hc10
       refine V_sreg (mb 26 16) [] (s1 := ⟨bt 4 (Bo false :: bt 21 []), []⟩) ?_ ?_
       ·refine L0 rfl rfl (E_assign (Bo false) rfl (by kernel_rfl)) ?_
        refine XL_nil ?_
        kernel_rfl
       refine V_ret ?_
       obtain rfl := some_inj h
       have h := hko6
       obtain rfl := some_inj h
       show Post _ _ _ _ _
       exact ⟨.inr rfl, rfl, rfl, rfl⟩
      ·have h := of_false h hc10
       refine V_skip ?_
       show V _ _ _ _
       obtain ⟨t11, ht11, h⟩ := of_sI h
       refine V_reg (mb 26 28674) [] (s1 := ⟨.bot :: .c (.sl (y2.map c3)) :: bt 10 (.c (.sl (x1.map c3)) :: I ((x1.length : Int)) :: I t11 :: bt 11 []), []⟩) ?_ ?_
       ·refine L0 rfl rfl (Y0_add64 (a := t4) (b := 1) rfl (by kernel_rfl) (by kernel_rfl)) ?_
        refine L0 rfl rfl (E_move (I (w64 (t4 + 1))) rfl (by kernel_rfl)) ?_
        refine XL_nil ?_
        subst ht11
        kernel_rfl
       exact ⟨n, Nat.lt_succ_self n, _,  by rfl, h⟩
     ·have h := of_false h hc7
      refine V_exit ?_
      obtain rfl := some_inj h
      exact ⟨_, rfl, by rfl⟩
   rintro o6 rfl
   have h := hko6
   clear hko6
   show V _ _ _ _
   refine V_sreg (mb 26 16) [] (s1 := ⟨bt 4 (Bo true :: bt 21 []), []⟩) ?_ ?_
   ·refine L0 rfl rfl (E_assign (Bo true) rfl (by kernel_rfl)) ?_
    refine XL_nil ?_
    kernel_rfl
   refine V_ret ?_
   obtain rfl := some_inj h
   show Post _ _ _ _ _
   exact ⟨.inr rfl, rfl, rfl, rfl⟩
theorem cf_impl_genusWith : ∀ args w, (callFunc 103 args).run Try.prog w = .ok (.enter 103 args) w := run_callFunc Try.func103 (by kernel_rfl) (by kernel_rfl)
set_option maxRecDepth 100000 in
set_option maxHeartbeats 400000 in
theorem s_impl_genusWith {d1 : Int} {values2 : List Int} {r : List ((Int × Int × Int))} (h : r_impl_genusWith d1 values2 = some r) : CallS Try.prog 103 [I d1, .c (.sl (values2.map c3))] (.ow 0) [(0, .arr 43 3 (r.map c43))] := by
  refine CallS_of_text (rs := [.t 4]) (vs := [.tmp 4]) Try.func103 rfl rfl (.cons rfl FitsL.nil) (by decide) 26 rfl ?_
  unfold r_impl_genusWith at h
  show V _ _ ⟨I d1 :: .c (.sl (values2.map c3)) :: bt 24 [], []⟩ _
  refine V_sreg (mb 26 3) [] (s1 := ⟨I d1 :: .c (.sl (values2.map c3)) :: bt 24 [], []⟩) ?_ ?_
  ·refine L1 rfl rfl (Y1_nil (e := 43) 3 (by decide) (.inl rfl)) ?_
   refine XL_nil ?_
   kernel_rfl
  refine V_sreg (mb 26 35) [64] (s1 := ⟨I d1 :: .c (.sl (values2.map c3)) :: bt 3 (.ow 64 :: bt 20 []), [(64, .arr 43 3 ((([] : List ((Int × Int × Int)))).map c43))]⟩) ?_ ?_
  ·refine L1 rfl rfl (Y1_bslice0 Try.underlying40 sz43 (by decide) rfl rfl) ?_
   refine L0 rfl rfl (E_assign (.ow 64) rfl (by kernel_rfl)) ?_
   refine XL_nil ?_
   kernel_rfl
  refine V_seq ?_
  obtain ⟨y3, hy3, h⟩ := of_bind h
  refine V_sreg (mb 26 7202) [80, 64] (s1 := ⟨.bot :: .c (.sl (values2.map c3)) :: bt 3 (.ow 64 :: bt 4 (.ow 80 :: I ((y3.length : Int)) :: I 0 :: bt 13 [])), [(80, .arr 43 3 (y3.map c43)), (64, .arr 43 3 ((([] : List ((Int × Int × Int)))).map c43))]⟩) ?_ ?_
  ·refine L0 rfl rfl (E_move (I d1) rfl (by kernel_rfl)) ?_
   refine L1 rfl rfl (Y1_call (s_impl_reducedForms hy3) cf_impl_reducedForms rfl (by kernel_rfl)) ?_
   refine L0 rfl rfl (Y0_lenM (c := c43) (xs := y3) Try.underlying40 rfl (by kernel_rfl)) ?_
   refine L0 rfl rfl (E_move (I 0) rfl (by kernel_rfl)) ?_
   refine XL_nil ?_
   kernel_rfl
  obtain ⟨o7, hLo7, h⟩ := of_bind h
  refine V_toK (mb 26 32) [64] (s1 := ⟨bt 5 (.ow 64 :: bt 20 []), [(64, .arr 43 3 (o7.map c43))]⟩) ?_ ?_
  ·clear h
   refine V_block (V_loop (fun n s => ∃ (t4 : Int) (l5 : List ((Int × Int × Int))), s.keep (mb 26 7202) [80, 64] = (⟨.bot :: .c (.sl (values2.map c3)) :: bt 3 (.ow 64 :: bt 4 (.ow 80 :: I ((y3.length : Int)) :: I t4 :: bt 13 [])), [(80, .arr 43 3 (y3.map c43)), (64, .arr 43 3 (l5.map c43))]⟩ : St) ∧ r_impl_genusWith_L6 values2 y3 n t4 l5 = some o7) FU ⟨_, _,  by rfl, hLo7⟩ ?_)
   clear hLo7
   rintro n s ⟨t4, l5, hs, h⟩
   refine V_keep _ _ hs ?_
   clear hs
   cases n with
   | zero => cases h
   | succ n =>
    rw [r_impl_genusWith_L6] at h
    refine V_sreg (mb 26 15394) [80, 64] (s1 := ⟨.bot :: .c (.sl (values2.map c3)) :: bt 3 (.ow 64 :: bt 4 (.ow 80 :: I ((y3.length : Int)) :: I t4 :: Bo (ltI t4 ((y3.length : Int))) :: bt 12 [])), [(80, .arr 43 3 (y3.map c43)), (64, .arr 43 3 (l5.map c43))]⟩) ?_ ?_
    ·refine L0 rfl rfl (Y0_ltw (k := .i64) (a := t4) (b := (y3.length : Int)) rfl (by kernel_rfl) (by kernel_rfl)) ?_
     refine XL_nil ?_
     kernel_rfl
    refine V_seq ?_
    refine V_cond rfl (fun hc8 => ?_) (fun hc8 => ?_)
    ·have h := of_true h hc8
     refine V_skip ?_
     show V _ _ _ _
     refine V_seq ?_
     refine V_block ?_
     obtain ⟨e9, he9, h⟩ := of_bind h
     obtain ⟨e10, he10, h⟩ := of_bind h
     refine V_sreg (mb 26 7330) [56, 80, 64] (s1 := ⟨.bot :: .c (.sl (values2.map c3)) :: bt 3 (.ow 64 :: .bot :: .pt 56 0 :: .bot :: .bot :: .ow 80 :: I ((y3.length : Int)) :: I t4 :: bt 13 []), [(56, .box [Ti e10.1, Ti e10.2.1, Ti e10.2.2]), (80, .arr 43 3 (y3.map c43)), (64, .arr 43 3 (l5.map c43))]⟩) ?_ ?_
     ·refine L0 rfl rfl (Y0_idxoM (c := c43) (xs := y3) (v := e9) (id := 80) (T := 43) (sz := 3) (n := t4) Try.underlying40 sz43 rfl (by kernel_rfl) (by kernel_rfl) (by kernel_rfl) he9) ?_
      refine L0 rfl rfl (E_loadon (c := c43) (xs := y3) (v := e10) (id := 80) (sz := 3) (T := 43) (off := 0) (n := t4) [Ti e10.1, Ti e10.2.1, Ti e10.2.2] wd43 rfl (by kernel_rfl) (by kernel_rfl) he10 (Nat.le_of_ble_eq_true rfl) (by kernel_rfl)) ?_
      refine L1 rfl rfl (Y1_alloc (z := zv43) rfl zf43 rfl) ?_
      refine XL_cons rfl (E_store (id := 56) (off := 0) (cs := [Ti 0, Ti 0, Ti 0]) (vc := [Ti e10.1, Ti e10.2.1, Ti e10.2.2]) [Ti e10.1, Ti e10.2.1, Ti e10.2.2] rfl rfl (by kernel_rfl) (by kernel_rfl) (by kernel_rfl) sz43 (Nat.le_of_ble_eq_true rfl) (by kernel_rfl)) ?_
      refine XL_nil ?_
      kernel_rfl
     obtain ⟨y11, hy11, h⟩ := of_bind h
     obtain ⟨y12, hy12, h⟩ := of_bind h
     refine V_sreg (mb 26 531618) [56, 80, 64] (s1 := ⟨.bot :: .c (.sl (values2.map c3)) :: bt 3 (.ow 64 :: .bot :: .pt 56 0 :: .bot :: .bot :: .ow 80 :: I ((y3.length : Int)) :: I t4 :: bt 6 (Bo y12 :: bt 6 [])), [(56, .box [Ti e10.1, Ti e10.2.1, Ti e10.2.2]), (80, .arr 43 3 (y3.map c43)), (64, .arr 43 3 (l5.map c43))]⟩) ?_ ?_
     ·refine L0 rfl rfl (E_loadn (cs := [Ti e10.1, Ti e10.2.1, Ti e10.2.2]) [Ti e10.1, Ti e10.2.1, Ti e10.2.2] wd43 rfl (by kernel_rfl) (Nat.le_of_ble_eq_true rfl) (by kernel_rfl)) ?_
      refine L1 rfl rfl (Y1_call (s_impl_genusValues hy11) cf_impl_genusValues rfl (by kernel_rfl)) ?_
      refine L0 rfl rfl (E_move (.c (.sl (values2.map c3))) rfl (by kernel_rfl)) ?_
      refine L1 rfl rfl (Y1_callS (s_impl_sameValues hy12) cf_impl_sameValues rfl (by kernel_rfl) rfl rfl) ?_
      refine XL_nil ?_
      kernel_rfl
     refine V_cond rfl (fun hc13 => ?_) (fun hc13 => ?_)
     ·have h := of_true h hc13
      obtain ⟨u14, hu14, h⟩ := of_bind h
      refine V_reg (mb 26 7202) [80, 64] (s1 := ⟨.bot :: .c (.sl (values2.map c3)) :: bt 3 (.ow 64 :: bt 4 (.ow 80 :: I ((y3.length : Int)) :: I t4 :: bt 13 [])), [(80, .arr 43 3 (y3.map c43)), (64, .arr 43 3 ((l5 ++ ([e10])).map c43))]⟩) ?_ ?_
      ·refine L0 rfl rfl (E_move (.ow 64) rfl (by kernel_rfl)) ?_
       refine L0 rfl rfl (E_loadn (cs := [Ti e10.1, Ti e10.2.1, Ti e10.2.2]) [Ti e10.1, Ti e10.2.1, Ti e10.2.2] wd43 rfl (by kernel_rfl) (Nat.le_of_ble_eq_true rfl) (by kernel_rfl)) ?_
       refine L1 rfl rfl (Y1_bslice (z := zv43) (els := [e10].map c43) Try.underlying40 iz43 rfl (by decide) rfl (by kernel_rfl) rfl (by simp [c43]) (by decide) (by decide)) ?_
       refine XL_cons rfl (X_appendM (c := c43) (xs := l5) (ys := [e10]) (id := 64) (z := zv43) rfl rfl Try.underlying40 izb43 rfl (by kernel_rfl) (by kernel_rfl) (by kernel_rfl) (fun _ => rfl) (by simp) (room_some hu14) (by decide)) ?_
       refine L0 rfl rfl (E_assign (.ow 64) rfl (by kernel_rfl)) ?_
       refine XL_nil ?_
       kernel_rfl
      show V _ _ _ _
      obtain ⟨t15, ht15, h⟩ := of_sI h
      refine V_reg (mb 26 7202) [80, 64] (s1 := ⟨.bot :: .c (.sl (values2.map c3)) :: bt 3 (.ow 64 :: bt 4 (.ow 80 :: I ((y3.length : Int)) :: I t15 :: bt 13 [])), [(80, .arr 43 3 (y3.map c43)), (64, .arr 43 3 ((l5 ++ ([e10])).map c43))]⟩) ?_ ?_
      ·refine L0 rfl rfl (Y0_add64 (a := t4) (b := 1) rfl (by kernel_rfl) (by kernel_rfl)) ?_
       refine L0 rfl rfl (E_move (I (w64 (t4 + 1))) rfl (by kernel_rfl)) ?_
       refine XL_nil ?_
       subst ht15
       kernel_rfl
      exact ⟨n, Nat.lt_succ_self n, _, _,  by rfl, h⟩
     ·have h := of_false h hc13
      refine V_skip ?_
      show V _ _ _ _
      obtain ⟨t16, ht16, h⟩ := of_sI h
      refine V_reg (mb 26 7202) [80, 64] (s1 := ⟨.bot :: .c (.sl (values2.map c3)) :: bt 3 (.ow 64 :: bt 4 (.ow 80 :: I ((y3.length : Int)) :: I t16 :: bt 13 [])), [(80, .arr 43 3 (y3.map c43)), (64, .arr 43 3 (l5.map c43))]⟩) ?_ ?_
      ·refine L0 rfl rfl (Y0_add64 (a := t4) (b := 1) rfl (by kernel_rfl) (by kernel_rfl)) ?_
       refine L0 rfl rfl (E_move (I (w64 (t4 + 1))) rfl (by kernel_rfl)) ?_
       refine XL_nil ?_
       subst ht16
       kernel_rfl
      exact ⟨n, Nat.lt_succ_self n, _, _,  by rfl, h⟩
    ·have h := of_false h hc8
     refine V_exit ?_
     obtain rfl := some_inj h
     show St.keep _ _ _ = _
     rfl
  show V _ _ _ _
  refine V_sreg (mb 26 16) [64] (s1 := ⟨bt 4 (.ow 64 :: bt 21 []), [(64, .arr 43 3 (o7.map c43))]⟩) ?_ ?_
  ·refine L0 rfl rfl (E_move (.ow 64) rfl (by kernel_rfl)) ?_
   refine L0 rfl rfl (E_assign (.ow 64) rfl (by kernel_rfl)) ?_
   refine XL_nil ?_
   kernel_rfl
  refine V_ret ?_
  obtain rfl := some_inj h
  show Post _ _ _ _ _
  exact ⟨.inr rfl, rfl, rfl, rfl⟩
theorem cf_impl_GenusWith : ∀ args w, (callFunc 83 args).run Try.prog w = .ok (.enter 83 args) w := run_callFunc Try.func83 (by kernel_rfl) (by kernel_rfl)
set_option maxRecDepth 100000 in
set_option maxHeartbeats 400000 in
theorem s_impl_GenusWith {d1 : Int} {values2 : List Int} {r : ((List ((Int × Int × Int))) × Bool)} (h : r_impl_GenusWith d1 values2 = some r) : CallS Try.prog 83 [I d1, .c (.sl (values2.map c3))] (.tc (.ow 0) (.tc (Bo r.2) .tn)) [(0, .arr 43 3 (r.1.map c43))] := by
  refine CallS_of_text (rs := [.t 4, .t 5]) (vs := [.tmp 4, .tmp 5]) Try.func83 rfl rfl (.cons rfl (.cons rfl FitsL.nil)) (by decide) 40 rfl ?_
  unfold r_impl_GenusWith at h
  show V _ _ ⟨I d1 :: .c (.sl (values2.map c3)) :: bt 38 [], []⟩ _
  refine V_sreg (mb 40 3) [] (s1 := ⟨I d1 :: .c (.sl (values2.map c3)) :: bt 38 [], []⟩) ?_ ?_
  ·refine L1 rfl rfl (Y1_nil (e := 43) 3 (by decide) (.inl rfl)) ?_
   refine L0 rfl rfl (E_assign (Bo false) rfl (by kernel_rfl)) ?_
   refine XL_nil ?_
   kernel_rfl
  refine V_seq ?_
  obtain ⟨y3, hy3, h⟩ := of_bind h
  obtain ⟨b6, hb6, h⟩ := of_bind h
  refine V_sreg (mb 40 524291) [] (s1 := ⟨I d1 :: .c (.sl (values2.map c3)) :: bt 17 (Bo b6 :: bt 20 []), []⟩) ?_ ?_
  ·refine L0 rfl rfl (E_move (I d1) rfl (by kernel_rfl)) ?_
   refine L1 rfl rfl (Y1_call (s_impl_isNegativeDisc hy3) cf_impl_isNegativeDisc rfl (by kernel_rfl)) ?_
   refine L0 rfl rfl (Y0_not (b := y3) rfl (by kernel_rfl)) ?_
   refine L0 rfl rfl (E_move (Bo (!y3)) rfl (by kernel_rfl)) ?_
   refine XL_split (!y3) (fun hc4 => ?_) (fun hc4 => ?_)
   ·have hb6 := some_inj (of_true hb6 hc4)
    refine XL_skipF _ rfl rfl (by kernel_rfl) hc4 rfl ?_
    refine XL_skipF _ rfl rfl (by kernel_rfl) hc4 rfl ?_
    refine XL_skipF _ rfl rfl (by kernel_rfl) hc4 rfl ?_
    refine XL_skipF _ rfl rfl (by kernel_rfl) hc4 rfl ?_
    refine XL_skipF _ rfl rfl (by kernel_rfl) hc4 rfl ?_
    refine XL_skipF _ rfl rfl (by kernel_rfl) hc4 rfl ?_
    refine XL_cons rfl (X_of_Y0 rfl (Y0_pickTe (b := !y3) (p := true) rfl (by kernel_rfl) hc4 (by kernel_rfl) hb6)) ?_
    refine XL_nil ?_
    kernel_rfl
   ·have hb6 := of_false hb6 hc4
    obtain ⟨y5, hy5, hb6⟩ := of_bind hb6
    have hb6 := some_inj hb6
    refine XL_takeC _ rfl rfl (by kernel_rfl) hc4 (X_of_Y0 rfl (E_move (.c (.sl (values2.map c3))) rfl (by kernel_rfl))) ?_
    refine XL_takeC _ rfl rfl (by kernel_rfl) hc4 (X_of_Y0 rfl (Y0_lenM (c := c3) (xs := values2) Try.underlying28 rfl (by kernel_rfl))) ?_
    refine XL_takeC _ rfl rfl (by kernel_rfl) hc4 (X_of_Y0 rfl (E_move (I d1) rfl (by kernel_rfl))) ?_
    refine XL_takeC _ rfl rfl (by kernel_rfl) hc4 (X_of_Y1 rfl (Y1_call (s_impl_assigned hy5) cf_impl_assigned rfl (by kernel_rfl))) ?_
    refine XL_takeC _ rfl rfl (by kernel_rfl) hc4 (X_of_Y0 rfl (Y0_lenM (c := c94) (xs := y5) Try.underlying91 rfl (by kernel_rfl))) ?_
    refine XL_takeC _ rfl rfl (by kernel_rfl) hc4 (X_of_Y0 rfl (Y0_new (k := .i64) (a := (values2.length : Int)) (b := (y5.length : Int)) rfl (by kernel_rfl) (by kernel_rfl))) ?_
    refine XL_cons rfl (X_of_Y0 rfl (Y0_pickFe (b := !y3) (p := !eqI ((values2.length : Int)) ((y5.length : Int))) rfl (by kernel_rfl) hc4 (by kernel_rfl) hb6)) ?_
    refine XL_nil ?_
    kernel_rfl
  refine V_cond rfl (fun hc7 => ?_) (fun hc7 => ?_)
  ·have h := of_true h hc7
   refine V_sreg (mb 40 48) [160] (s1 := ⟨bt 4 (.ow 160 :: Bo false :: bt 34 []), [(160, .arr 43 3 ((([] : List ((Int × Int × Int)))).map c43))]⟩) ?_ ?_
   ·refine L1 rfl rfl (Y1_bslice0 Try.underlying40 sz43 (by decide) rfl rfl) ?_
    refine L0 rfl rfl (E_assign (.ow 160) rfl (by kernel_rfl)) ?_
    refine L0 rfl rfl (E_assign (Bo false) rfl (by kernel_rfl)) ?_
    refine XL_nil ?_
    kernel_rfl
   refine V_ret ?_
   obtain rfl := some_inj h
   show Post _ _ _ _ _
   exact ⟨.inr rfl, rfl, rfl, rfl⟩
  ·have h := of_false h hc7
   refine V_skip ?_
   show V _ _ _ _
   refine V_seq ?_
   refine V_sreg (mb 40 14680067) [] (s1 := ⟨I d1 :: .c (.sl (values2.map c3)) :: bt 19 (.c (.sl (values2.map c3)) :: I ((values2.length : Int)) :: I 0 :: bt 16 []), []⟩) ?_ ?_
   ·refine L0 rfl rfl (E_move (.c (.sl (values2.map c3))) rfl (by kernel_rfl)) ?_
    refine L0 rfl rfl (Y0_lenM (c := c3) (xs := values2) Try.underlying28 rfl (by kernel_rfl)) ?_
    refine L0 rfl rfl (E_move (I 0) rfl (by kernel_rfl)) ?_
    refine XL_nil ?_
    kernel_rfl
   obtain ⟨qo10, hLo10, hko10⟩ := of_bind h
   refine V_toS (q := qo10) (S := fun o10 => ⟨I d1 :: .c (.sl (values2.map c3)) :: bt 38 [], []⟩) (mb 40 3) [] ?_ ?_
   ·refine V_block (V_loop (fun n s => ∃ (t8 : Int), s.keep (mb 40 14680067) [] = (⟨I d1 :: .c (.sl (values2.map c3)) :: bt 19 (.c (.sl (values2.map c3)) :: I ((values2.length : Int)) :: I t8 :: bt 16 []), []⟩ : St) ∧ r_impl_GenusWith_L9 d1 values2 n t8 = some qo10) FU ⟨_,  by rfl, hLo10⟩ ?_)
    clear hLo10
    rintro n s ⟨t8, hs, h⟩
    refine V_keep _ _ hs ?_
    clear hs
    cases n with
    | zero => cases h
    | succ n =>
     rw [r_impl_GenusWith_L9] at h
     refine V_sreg (mb 40 31457283) [] (s1 := ⟨I d1 :: .c (.sl (values2.map c3)) :: bt 19 (.c (.sl (values2.map c3)) :: I ((values2.length : Int)) :: I t8 :: Bo (ltI t8 ((values2.length : Int))) :: bt 15 []), []⟩) ?_ ?_
     ·refine L0 rfl rfl (Y0_ltw (k := .i64) (a := t8) (b := (values2.length : Int)) rfl (by kernel_rfl) (by kernel_rfl)) ?_
      refine XL_nil ?_
      kernel_rfl
     refine V_seq ?_
     refine V_cond rfl (fun hc11 => ?_) (fun hc11 => ?_)
     ·have h := of_true h hc11
      refine V_skip ?_
      show V _ _ _ _
      refine V_seq ?_
      refine V_block ?_
      obtain ⟨e12, he12, h⟩ := of_bind h
      refine V_sreg (mb 40 14680195) [] (s1 := ⟨I d1 :: .c (.sl (values2.map c3)) :: bt 5 (I e12 :: bt 13 (.c (.sl (values2.map c3)) :: I ((values2.length : Int)) :: I t8 :: bt 16 [])), []⟩) ?_ ?_
      ·refine L0 rfl rfl (Y0_idxM (c := c3) (xs := values2) (v := e12) (n := t8) Try.underlying28 sz3 rfl (by kernel_rfl) (by kernel_rfl) he12) ?_
       refine L0 rfl rfl (Y0_load1 (c := Ti e12) (cs := []) sc3 rfl (by kernel_rfl)) ?_
       refine L0 rfl rfl (E_assign (I e12) rfl (by kernel_rfl)) ?_
       refine XL_nil ?_
       kernel_rfl
      obtain ⟨y13, hy13, h⟩ := of_bind h
      refine V_sreg (mb 40 551550979) [] (s1 := ⟨I d1 :: .c (.sl (values2.map c3)) :: bt 19 (.c (.sl (values2.map c3)) :: I ((values2.length : Int)) :: I t8 :: bt 5 (Bo (!eqI y13 1) :: bt 10 [])), []⟩) ?_ ?_
      ·refine L0 rfl rfl (E_move (I e12) rfl (by kernel_rfl)) ?_
       refine L1 rfl rfl (Y1_call (s_impl_abs hy13) cf_impl_abs rfl (by kernel_rfl)) ?_
       refine L0 rfl rfl (Y0_new (k := .i64) (a := y13) (b := 1) rfl (by kernel_rfl) (by kernel_rfl)) ?_
       refine XL_nil ?_
       kernel_rfl
      refine V_cond rfl (fun hc14 => ?_) (fun hc14 => ?_)
      ·have h := of_true h hc14
       refine V_sreg (mb 40 48) [240] (s1 := ⟨bt 4 (.ow 240 :: Bo false :: bt 34 []), [(240, .arr 43 3 ((([] : List ((Int × Int × Int)))).map c43))]⟩) ?_ ?_
       ·refine L1 rfl rfl (Y1_bslice0 Try.underlying40 sz43 (by decide) rfl rfl) ?_
        refine L0 rfl rfl (E_assign (.ow 240) rfl (by kernel_rfl)) ?_
        refine L0 rfl rfl (E_assign (Bo false) rfl (by kernel_rfl)) ?_
        refine XL_nil ?_
        kernel_rfl
       refine V_ret ?_
       obtain rfl := some_inj h
       have h := hko10
       obtain rfl := some_inj h
       show Post _ _ _ _ _
       exact ⟨.inr rfl, rfl, rfl, rfl⟩
      ·have h := of_false h hc14
       refine V_skip ?_
       show V _ _ _ _
       obtain ⟨t15, ht15, h⟩ := of_sI h
       refine V_reg (mb 40 14680067) [] (s1 := ⟨I d1 :: .c (.sl (values2.map c3)) :: bt 19 (.c (.sl (values2.map c3)) :: I ((values2.length : Int)) :: I t15 :: bt 16 []), []⟩) ?_ ?_
       ·refine L0 rfl rfl (Y0_add64 (a := t8) (b := 1) rfl (by kernel_rfl) (by kernel_rfl)) ?_
        refine L0 rfl rfl (E_move (I (w64 (t8 + 1))) rfl (by kernel_rfl)) ?_
        refine XL_nil ?_
        subst ht15
        kernel_rfl
       exact ⟨n, Nat.lt_succ_self n, _,  by rfl, h⟩
     ·have h := of_false h hc11
      refine V_exit ?_
      obtain rfl := some_inj h
      exact ⟨_, rfl, by rfl⟩
   rintro o10 rfl
   have h := hko10
   clear hko10
   show V _ _ _ _
   obtain ⟨y16, hy16, h⟩ := of_bind h
   refine V_sreg (mb 40 256) [272] (s1 := ⟨bt 8 (.ow 272 :: bt 31 []), [(272, .arr 43 3 (y16.map c43))]⟩) ?_ ?_
   ·refine L0 rfl rfl (E_move (I d1) rfl (by kernel_rfl)) ?_
    refine L0 rfl rfl (E_move (.c (.sl (values2.map c3))) rfl (by kernel_rfl)) ?_
    refine L1 rfl rfl (Y1_call (s_impl_genusWith hy16) cf_impl_genusWith rfl (by kernel_rfl)) ?_
    refine L0 rfl rfl (E_assign (.ow 272) rfl (by kernel_rfl)) ?_
    refine XL_nil ?_
    kernel_rfl
   refine V_seq ?_
   refine V_sreg (mb 40 137438953728) [272] (s1 := ⟨bt 8 (.ow 272 :: bt 28 (Bo (eqI ((y16.length : Int)) 0) :: .bot :: .bot :: [])), [(272, .arr 43 3 (y16.map c43))]⟩) ?_ ?_
   ·refine L0 rfl rfl (E_move (.ow 272) rfl (by kernel_rfl)) ?_
    refine L0 rfl rfl (Y0_lenM (c := c43) (xs := y16) Try.underlying40 rfl (by kernel_rfl)) ?_
    refine L0 rfl rfl (Y0_eqw (k := .i64) (a := (y16.length : Int)) (b := 0) rfl (by kernel_rfl) (by kernel_rfl)) ?_
    refine XL_nil ?_
    kernel_rfl
   refine V_cond rfl (fun hc17 => ?_) (fun hc17 => ?_)
   ·have h := of_true h hc17
    refine V_sreg (mb 40 48) [304] (s1 := ⟨bt 4 (.ow 304 :: Bo false :: bt 34 []), [(304, .arr 43 3 ((([] : List ((Int × Int × Int)))).map c43))]⟩) ?_ ?_
    ·refine L1 rfl rfl (Y1_bslice0 Try.underlying40 sz43 (by decide) rfl rfl) ?_
     refine L0 rfl rfl (E_assign (.ow 304) rfl (by kernel_rfl)) ?_
     refine L0 rfl rfl (E_assign (Bo false) rfl (by kernel_rfl)) ?_
     refine XL_nil ?_
     kernel_rfl
    refine V_ret ?_
    obtain rfl := some_inj h
    show Post _ _ _ _ _
    exact ⟨.inr rfl, rfl, rfl, rfl⟩
   ·have h := of_false h hc17
    refine V_skip ?_
    show V _ _ _ _
    refine V_sreg (mb 40 48) [272] (s1 := ⟨bt 4 (.ow 272 :: Bo true :: bt 34 []), [(272, .arr 43 3 (y16.map c43))]⟩) ?_ ?_
    ·refine L0 rfl rfl (E_move (.ow 272) rfl (by kernel_rfl)) ?_
     refine L0 rfl rfl (E_assign (.ow 272) rfl (by kernel_rfl)) ?_
     refine L0 rfl rfl (E_assign (Bo true) rfl (by kernel_rfl)) ?_
     refine XL_nil ?_
     kernel_rfl
    refine V_ret ?_
    obtain rfl := some_inj h
    show Post _ _ _ _ _
    exact ⟨.inr rfl, rfl, rfl, rfl⟩
theorem cf_impl_GenusRepresenting : ∀ args w, (callFunc 37 args).run Try.prog w = .ok (.enter 37 args) w := run_callFunc Try.func37 (by kernel_rfl) (by kernel_rfl)
set_option maxRecDepth 100000 in
set_option maxHeartbeats 400000 in
theorem s_impl_GenusRepresenting {d1 : Int} {vn2 : Int} {r : ((List ((Int × Int × Int))) × Bool)} (h : r_impl_GenusRepresenting d1 vn2 = some r) : CallS Try.prog 37 [I d1, I vn2] (.tc (.ow 0) (.tc (Bo r.2) .tn)) [(0, .arr 43 3 (r.1.map c43))] := by
  refine CallS_of_text (rs := [.t 4, .t 5]) (vs := [.tmp 4, .tmp 5]) Try.func37 rfl rfl (.cons rfl (.cons rfl FitsL.nil)) (by decide) 22 rfl ?_
  unfold r_impl_GenusRepresenting at h
  show V _ _ ⟨I d1 :: I vn2 :: bt 20 [], []⟩ _
  refine V_sreg (mb 22 3) [] (s1 := ⟨I d1 :: I vn2 :: bt 20 [], []⟩) ?_ ?_
  ·refine L1 rfl rfl (Y1_nil (e := 43) 3 (by decide) (.inl rfl)) ?_
   refine L0 rfl rfl (E_assign (Bo false) rfl (by kernel_rfl)) ?_
   refine XL_nil ?_
   kernel_rfl
  obtain ⟨y3, hy3, h⟩ := of_bind h
  refine V_sreg (mb 22 193) [88] (s1 := ⟨I d1 :: bt 5 (.ow 88 :: Bo y3.2 :: bt 14 []), [(88, .arr 3 1 (y3.1.map c3))]⟩) ?_ ?_
  ·refine L0 rfl rfl (E_move (I d1) rfl (by kernel_rfl)) ?_
   refine L0 rfl rfl (E_move (I vn2) rfl (by kernel_rfl)) ?_
   refine L1 rfl rfl (Y1_call (s_impl_ValuesAt hy3) cf_impl_ValuesAt rfl (by kernel_rfl)) ?_
   refine L0 rfl rfl (E_move (.tc (.ow 88) (.tc (Bo y3.2) .tn)) rfl (by kernel_rfl)) ?_
   refine L0 rfl rfl (E_ext (n := 0) (.ow 88) (.tc (Bo y3.2) .tn) (.ow 88) rfl (by kernel_rfl) (by kernel_rfl) (by intro hh; cases hh)) ?_
   refine L0 rfl rfl (E_ext (n := 1) (.ow 88) (.tc (Bo y3.2) .tn) (Bo y3.2) rfl (by kernel_rfl) (by kernel_rfl) (by intro hh; cases hh)) ?_
   refine L0 rfl rfl (E_assign (.ow 88) rfl (by kernel_rfl)) ?_
   refine L0 rfl rfl (E_assign (Bo y3.2) rfl (by kernel_rfl)) ?_
   refine XL_nil ?_
   kernel_rfl
  refine V_seq ?_
  refine V_sreg (mb 22 32833) [88] (s1 := ⟨I d1 :: bt 5 (.ow 88 :: bt 8 (Bo (!y3.2) :: bt 6 [])), [(88, .arr 3 1 (y3.1.map c3))]⟩) ?_ ?_
  ·refine L0 rfl rfl (E_move (Bo y3.2) rfl (by kernel_rfl)) ?_
   refine L0 rfl rfl (Y0_not (b := y3.2) rfl (by kernel_rfl)) ?_
   refine XL_nil ?_
   kernel_rfl
  refine V_cond rfl (fun hc4 => ?_) (fun hc4 => ?_)
  ·have h := of_true h hc4
   refine V_sreg (mb 22 48) [128] (s1 := ⟨bt 4 (.ow 128 :: Bo false :: bt 16 []), [(128, .arr 43 3 ((([] : List ((Int × Int × Int)))).map c43))]⟩) ?_ ?_
   ·refine L1 rfl rfl (Y1_bslice0 Try.underlying40 sz43 (by decide) rfl rfl) ?_
    refine L0 rfl rfl (E_assign (.ow 128) rfl (by kernel_rfl)) ?_
    refine L0 rfl rfl (E_assign (Bo false) rfl (by kernel_rfl)) ?_
    refine XL_nil ?_
    kernel_rfl
   refine V_ret ?_
   obtain rfl := some_inj h
   show Post _ _ _ _ _
   exact ⟨.inr rfl, rfl, rfl, rfl⟩
  ·have h := of_false h hc4
   refine V_skip ?_
   show V _ _ _ _
   obtain ⟨y5, hy5, h⟩ := of_bind h
   refine V_sreg (mb 22 48) [152] (s1 := ⟨bt 4 (.ow 152 :: Bo y5.2 :: bt 16 []), [(152, .arr 43 3 (y5.1.map c43))]⟩) ?_ ?_
   ·refine L0 rfl rfl (E_move (I d1) rfl (by kernel_rfl)) ?_
    refine L0 rfl rfl (E_move (.ow 88) rfl (by kernel_rfl)) ?_
    refine L1 rfl rfl (Y1_callS (s_impl_GenusWith hy5) cf_impl_GenusWith rfl (by kernel_rfl) rfl (flatE_cons (fun _ => rfl) rfl)) ?_
    refine L0 rfl rfl (E_ext (n := 0) (.ow 152) (.tc (Bo y5.2) .tn) (.ow 152) rfl (by kernel_rfl) (by kernel_rfl) (by intro hh; cases hh)) ?_
    refine L0 rfl rfl (E_ext (n := 1) (.ow 152) (.tc (Bo y5.2) .tn) (Bo y5.2) rfl (by kernel_rfl) (by kernel_rfl) (by intro hh; cases hh)) ?_
    refine L0 rfl rfl (E_assign (.ow 152) rfl (by kernel_rfl)) ?_
    refine L0 rfl rfl (E_assign (Bo y5.2) rfl (by kernel_rfl)) ?_
    refine XL_nil ?_
    kernel_rfl
   refine V_ret ?_
   obtain rfl := some_inj h
   show Post _ _ _ _ _
   exact ⟨.inr rfl, rfl, rfl, rfl⟩
end Go.Proofs.Ytpfnhgpepgeaiaa
