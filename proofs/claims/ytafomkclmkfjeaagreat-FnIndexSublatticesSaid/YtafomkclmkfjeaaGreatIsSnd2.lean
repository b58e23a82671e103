/-
  The functions of the program compute what the plain functions say: more of them.
  Conditions: none.
-/
import Derived.Test.YtafomkclmkfjeaaGreatIsSnd1
namespace Go.Proofs.YtafomkclmkfjeaaGreat
open Go.RowKit
set_option linter.unusedVariables false
set_option linter.unusedSimpArgs false
set_option maxRecDepth 100000
set_option maxHeartbeats 400000
theorem cf_impl_Form_content : ∀ args w, (callFunc 108 args).run Tryz.prog w = .ok (.enter 108 args) w := run_callFunc Tryz.func108 (by kernel_rfl) (by kernel_rfl)
theorem s_impl_Form_content {f1 : (Int × Int × Int)} {r : Int} (h : r_impl_Form_content f1 = some r) : CallS Tryz.prog 108 [.ag [Ti f1.1, Ti f1.2.1, Ti f1.2.2]] (I r) [] := by
  refine CallS_of_text (rs := [.t 2]) (vs := [.tmp 2]) Tryz.func108 rfl rfl (.cons rfl FitsL.nil) (by decide) 11 rfl ?_
  unfold r_impl_Form_content at h
  show V _ _ ⟨.ag [Ti f1.1, Ti f1.2.1, Ti f1.2.2] :: bt 10 [], []⟩ _
  refine V_e (mb 11 2) [8] (s1 := ⟨.bot :: .pt 8 0 :: bt 9 [], [(8, .box [Ti f1.1, Ti f1.2.1, Ti f1.2.2])]⟩) ?_
  obtain ⟨y2, hy2, h⟩ := of_bind h
  obtain ⟨y3, hy3, h⟩ := of_bind h
  refine V_sdreg [0, 1, 0, 4, 0, 16, 60, 127, 255] 9 (cdm 9 [10912, 10913, 2570, 2586, 170, 426, 1370, 5461, 21845]) (mb 11 4) [] (s1 := ⟨.bot :: .bot :: I y3 :: bt 8 [], []⟩) (by kernel_rfl) (by kernel_rfl) ?_ ?_
  ·refine DR 6 ?_
   refine DC 6 (s_impl_gcd hy2) cf_impl_gcd rfl rfl rfl rfl 9 rfl ?_
   refine DC 7 (s_impl_gcd hy3) cf_impl_gcd rfl rfl rfl rfl 10 rfl ?_
   refine DA 1 ?_
   exact XE
  refine V_ret ?_
  obtain rfl := some_inj h
  show Post _ _ _ _ _
  exact ⟨.inr rfl, rfl, rfl, rfl⟩
theorem cf_impl_isClassForm : ∀ args w, (callFunc 73 args).run Tryz.prog w = .ok (.enter 73 args) w := run_callFunc Tryz.func73 (by kernel_rfl) (by kernel_rfl)
theorem s_impl_isClassForm {f1 : (Int × Int × Int)} {r : Bool} (h : r_impl_isClassForm f1 = some r) : CallS Tryz.prog 73 [.ag [Ti f1.1, Ti f1.2.1, Ti f1.2.2]] (Bo r) [] := by
  refine CallS_of_text (rs := [.t 2]) (vs := [.tmp 2]) Tryz.func73 rfl rfl (.cons rfl FitsL.nil) (by decide) 10 rfl ?_
  unfold r_impl_isClassForm at h
  show V _ _ ⟨.ag [Ti f1.1, Ti f1.2.1, Ti f1.2.2] :: bt 9 [], []⟩ _
  refine V_e (mb 10 2) [8] (s1 := ⟨.bot :: .pt 8 0 :: bt 8 [], [(8, .box [Ti f1.1, Ti f1.2.1, Ti f1.2.2])]⟩) ?_
  obtain ⟨y2, hy2, h⟩ := of_bind h
  obtain ⟨b5, hb5, h⟩ := of_bind h
  refine V_sreg (mb 10 4) [] (s1 := ⟨.bot :: .bot :: Bo b5 :: bt 7 [], []⟩) ?_ ?_
  ·refine XR 1 ?_
   refine XC (s_impl_isShownForm hy2) cf_impl_isShownForm rfl rfl rfl ?_
   refine XR 1 ?_
   refine XL_split y2 (fun hc3 => ?_) (fun hc3 => ?_)
   ·have hb5 := of_true hb5 hc3
    obtain ⟨y4, hy4, hb5⟩ := of_bind hb5
    have hb5 := some_inj hb5
    refine XL_takeC _ rfl rfl (by kernel_rfl) hc3 (X_of_Y0 rfl (E_loadn (cs := [Ti f1.1, Ti f1.2.1, Ti f1.2.2]) [Ti f1.1, Ti f1.2.1, Ti f1.2.2] wd25 rfl (by kernel_rfl) (Nat.le_of_ble_eq_true rfl) (by kernel_rfl))) ?_
    refine XL_takeC _ rfl rfl (by kernel_rfl) hc3 (X_of_Y1 rfl (Y1_call (s_impl_Form_content hy4) cf_impl_Form_content rfl (by kernel_rfl))) ?_
    refine XL_takeC _ rfl rfl (by kernel_rfl) hc3 (X_of_Y0 rfl (Y0_eqw (k := .i64) (a := y4) (b := 1) rfl (by kernel_rfl) (by kernel_rfl))) ?_
    refine XL_cons rfl (X_of_Y0 rfl (Y0_pickTe (b := y2) (p := eqI y4 1) rfl (by kernel_rfl) hc3 (by kernel_rfl) hb5)) ?_
    exact XE
   ·have hb5 := some_inj (of_false hb5 hc3)
    refine XL_skipT _ rfl rfl (by kernel_rfl) hc3 rfl ?_
    refine XL_skipT _ rfl rfl (by kernel_rfl) hc3 rfl ?_
    refine XL_skipT _ rfl rfl (by kernel_rfl) hc3 rfl ?_
    refine XL_cons rfl (X_of_Y0 rfl (Y0_pickFe (b := y2) (p := false) rfl (by kernel_rfl) hc3 (by kernel_rfl) hb5)) ?_
    exact XE
  refine V_ret ?_
  obtain rfl := some_inj h
  show Post _ _ _ _ _
  exact ⟨.inr rfl, rfl, rfl, rfl⟩
theorem cf_impl_isPrime : ∀ args w, (callFunc 168 args).run Tryz.prog w = .ok (.enter 168 args) w := run_callFunc Tryz.func168 (by kernel_rfl) (by kernel_rfl)
theorem s_impl_isPrime {vn1 : Int} {r : Bool} (h : r_impl_isPrime vn1 = some r) : CallS Tryz.prog 168 [I vn1] (Bo r) [] := by
  refine CallS_of_text (rs := [.t 2]) (vs := [.tmp 2]) Tryz.func168 rfl rfl (.cons rfl FitsL.nil) (by decide) 17 rfl ?_
  unfold r_impl_isPrime at h
  show V _ _ ⟨I vn1 :: bt 16 [], []⟩ _
  refine V_e (mb 17 1) [] (s1 := ⟨I vn1 :: bt 16 [], []⟩) ?_
  refine V_seq ?_
  refine V_e (mb 17 33) [] (s1 := ⟨I vn1 :: bt 4 (Bo (ltI vn1 2) :: bt 11 []), []⟩) ?_
  refine V_cond rfl (fun hc2 => ?_) (fun hc2 => ?_)
  ·have h := of_true h hc2
   refine V_e (mb 17 4) [] (s1 := ⟨.bot :: .bot :: Bo false :: bt 14 [], []⟩) ?_
   refine V_ret ?_
   obtain rfl := some_inj h
   show Post _ _ _ _ _
   exact ⟨.inr rfl, rfl, rfl, rfl⟩
  ·have h := of_false h hc2
   refine V_skip ?_
   show V _ _ _ _
   refine V_seq ?_
   refine V_e (mb 17 9) [] (s1 := ⟨I vn1 :: .bot :: .bot :: I 2 :: bt 13 [], []⟩) ?_
   obtain ⟨qo5, hLo5, hko5⟩ := of_bind h
   refine V_toS (q := qo5) (S := fun o5 => ⟨bt 17 [], []⟩) (mb 17 0) [] ?_ ?_
   ·refine V_block (V_loop (fun n s => ∃ (p3 : Int), s.keep (mb 17 9) [] = (⟨I vn1 :: .bot :: .bot :: I p3 :: bt 13 [], []⟩ : St) ∧ r_impl_isPrime_L4 vn1 n p3 = some qo5) FU ⟨_,  by rfl, hLo5⟩ ?_)
    clear hLo5
    rintro n s ⟨p3, hs, h⟩
    refine V_keep _ _ hs ?_
    clear hs
    cases n with
    | zero => cases h
    | succ n =>
     rw [r_impl_isPrime_L4] at h
     refine V_seq ?_
     refine V_e (mb 17 1033) [] (s1 := ⟨I vn1 :: .bot :: .bot :: I p3 :: bt 6 (Bo (leI (w64 (p3 * p3)) vn1) :: bt 6 []), []⟩) ?_
     refine V_cond rfl (fun hc6 => ?_) (fun hc6 => ?_)
     ·have h := of_true h hc6
      refine V_skip ?_
      show V _ _ _ _
      refine V_seq ?_
      refine V_block ?_
      obtain ⟨z7, hz7, h⟩ := of_bind h
      refine V_sreg (mb 17 65545) [] (s1 := ⟨I vn1 :: .bot :: .bot :: I p3 :: bt 12 (Bo (eqI (Int.tmod vn1 p3) 0) :: []), []⟩) ?_ ?_
      ·refine XR 2 ?_
       refine L0 rfl rfl (Y0_rem (k := .i64) (a := vn1) (b := p3) rfl (by kernel_rfl) (by kernel_rfl) (nz_some hz7)) ?_
       exact XE
      refine V_cond rfl (fun hc8 => ?_) (fun hc8 => ?_)
      ·have h := of_true h hc8
       refine V_e (mb 17 4) [] (s1 := ⟨.bot :: .bot :: Bo false :: bt 14 [], []⟩) ?_
       refine V_ret ?_
       obtain rfl := some_inj h
       have h := hko5
       obtain rfl := some_inj h
       show Post _ _ _ _ _
       exact ⟨.inr rfl, rfl, rfl, rfl⟩
      ·have h := of_false h hc8
       refine V_skip ?_
       show V _ _ _ _
       obtain ⟨p9, hp9, h⟩ := of_sI h
       refine V_reg (mb 17 9) [] (s1 := ⟨I vn1 :: .bot :: .bot :: I p9 :: bt 13 [], []⟩) ?_ ?_
       ·refine XR 3 ?_
        refine XL_nil ?_
        subst hp9
        kernel_rfl
       exact ⟨n, Nat.lt_succ_self n, _,  by rfl, h⟩
     ·have h := of_false h hc6
      refine V_exit ?_
      obtain rfl := some_inj h
      exact ⟨_, rfl, by rfl⟩
   rintro o5 rfl
   have h := hko5
   clear hko5
   show V _ _ _ _
   refine V_e (mb 17 4) [] (s1 := ⟨.bot :: .bot :: Bo true :: bt 14 [], []⟩) ?_
   refine V_ret ?_
   obtain rfl := some_inj h
   show Post _ _ _ _ _
   exact ⟨.inr rfl, rfl, rfl, rfl⟩
theorem cf_impl_isIndex : ∀ args w, (callFunc 86 args).run Tryz.prog w = .ok (.enter 86 args) w := run_callFunc Tryz.func86 (by kernel_rfl) (by kernel_rfl)
theorem s_impl_isIndex {p1 : Int} {r : Bool} (h : r_impl_isIndex p1 = some r) : CallS Tryz.prog 86 [I p1] (Bo r) [] := by
  refine CallS_of_text (rs := [.t 2]) (vs := [.tmp 2]) Tryz.func86 rfl rfl (.cons rfl FitsL.nil) (by decide) 9 rfl ?_
  unfold r_impl_isIndex at h
  show V _ _ ⟨I p1 :: bt 8 [], []⟩ _
  refine V_e (mb 9 1) [] (s1 := ⟨I p1 :: bt 8 [], []⟩) ?_
  obtain ⟨b4, hb4, h⟩ := of_bind h
  refine V_sreg (mb 9 4) [] (s1 := ⟨.bot :: .bot :: Bo b4 :: bt 6 [], []⟩) ?_ ?_
  ·refine XR 3 ?_
   refine XL_split (leI p1 43) (fun hc2 => ?_) (fun hc2 => ?_)
   ·have hb4 := of_true hb4 hc2
    obtain ⟨y3, hy3, hb4⟩ := of_bind hb4
    have hb4 := some_inj hb4
    refine XL_takeC _ rfl rfl (by kernel_rfl) hc2 (X_of_Y0 rfl (E_move (I p1) rfl (by kernel_rfl))) ?_
    refine XL_takeC _ rfl rfl (by kernel_rfl) hc2 (X_of_Y1 rfl (Y1_call (s_impl_isPrime hy3) cf_impl_isPrime rfl (by kernel_rfl))) ?_
    refine XL_cons rfl (X_of_Y0 rfl (Y0_pickTe (b := leI p1 43) (p := y3) rfl (by kernel_rfl) hc2 (by kernel_rfl) hb4)) ?_
    exact XE
   ·have hb4 := some_inj (of_false hb4 hc2)
    refine XL_skipT _ rfl rfl (by kernel_rfl) hc2 rfl ?_
    refine XL_skipT _ rfl rfl (by kernel_rfl) hc2 rfl ?_
    refine XL_cons rfl (X_of_Y0 rfl (Y0_pickFe (b := leI p1 43) (p := false) rfl (by kernel_rfl) hc2 (by kernel_rfl) hb4)) ?_
    exact XE
  refine V_ret ?_
  obtain rfl := some_inj h
  show Post _ _ _ _ _
  exact ⟨.inr rfl, rfl, rfl, rfl⟩
theorem cf_impl_one : ∀ args w, (callFunc 156 args).run Tryz.prog w = .ok (.enter 156 args) w := run_callFunc Tryz.func156 (by kernel_rfl) (by kernel_rfl)
theorem s_impl_one {r : (Int × Int × Int × Int)} (h : r_impl_one = some r) : CallS Tryz.prog 156 [] (.ag [Ti r.1, Ti r.2.1, Ti r.2.2.1, Ti r.2.2.2]) [] := by
  refine CallS_of_text (rs := [.w 0 4]) (vs := [.cell 0 31]) Tryz.func156 rfl rfl (.cons ⟨rfl, wd31⟩ FitsL.nil) (by decide) 2 rfl ?_
  unfold r_impl_one at h
  show V _ _ ⟨.bot :: .bot :: [], []⟩ _
  refine V_e (mb 2 1) [0] (s1 := ⟨.pt 0 0 :: .bot :: [], [(0, .box [Ti 0, Ti 0, Ti 0, Ti 0])]⟩) ?_
  refine V_sreg (mb 2 1) [0] (s1 := ⟨.pt 0 0 :: .bot :: [], [(0, .box [Ti 1, Ti 0, Ti 0, Ti 1])]⟩) ?_ ?_
  ·refine L0 rfl rfl (Y0_build (cs := [Ti 1, Ti 0, Ti 0, Ti 1]) pl31 bt31 rfl rfl (by kernel_rfl)) ?_
   exact XE
  refine V_ret ?_
  obtain rfl := some_inj h
  show Post _ _ _ _ _
  exact ⟨.inr rfl, rfl, rfl, rfl⟩
theorem cf_impl_Form_isNormal : ∀ args w, (callFunc 230 args).run Tryz.prog w = .ok (.enter 230 args) w := run_callFunc Tryz.func230 (by kernel_rfl) (by kernel_rfl)
theorem s_impl_Form_isNormal {f1 : (Int × Int × Int)} {r : Bool} (h : r_impl_Form_isNormal f1 = some r) : CallS Tryz.prog 230 [.ag [Ti f1.1, Ti f1.2.1, Ti f1.2.2]] (Bo r) [] := by
  refine CallS_of_text (rs := [.t 2]) (vs := [.tmp 2]) Tryz.func230 rfl rfl (.cons rfl FitsL.nil) (by decide) 16 rfl ?_
  unfold r_impl_Form_isNormal at h
  show V _ _ ⟨.ag [Ti f1.1, Ti f1.2.1, Ti f1.2.2] :: bt 15 [], []⟩ _
  refine V_e (mb 16 2) [8] (s1 := ⟨.bot :: .pt 8 0 :: bt 14 [], [(8, .box [Ti f1.1, Ti f1.2.1, Ti f1.2.2])]⟩) ?_
  obtain ⟨t3, ht3, h⟩ := of_bind h
  have ht3 := some_inj ht3
  refine V_sreg (mb 16 4) [] (s1 := ⟨.bot :: .bot :: Bo t3 :: bt 13 [], []⟩) ?_ ?_
  ·refine XR 7 ?_
   refine XL_split (ltI (w64 (0 - f1.1)) f1.2.1) (fun hc2 => ?_) (fun hc2 => ?_)
   ·refine XL_takeC _ rfl rfl (by kernel_rfl) hc2 (X_of_Y0 rfl (E_field (.pt 8 1) Tryz.underlying25 rfl sz3 rfl (by kernel_rfl) (by intro hh; cases hh))) ?_
    refine XL_takeC _ rfl rfl (by kernel_rfl) hc2 (X_of_Y0 rfl (Y0_load1 (c := Ti f1.2.1) (cs := [Ti f1.2.2]) sc3 rfl (by kernel_rfl))) ?_
    refine XL_takeC _ rfl rfl (by kernel_rfl) hc2 (X_of_Y0 rfl (E_field (.pt 8 0) Tryz.underlying25 rfl sz3 rfl (by kernel_rfl) (by intro hh; cases hh))) ?_
    refine XL_takeC _ rfl rfl (by kernel_rfl) hc2 (X_of_Y0 rfl (Y0_load1 (c := Ti f1.1) (cs := [Ti f1.2.1, Ti f1.2.2]) sc3 rfl (by kernel_rfl))) ?_
    refine XL_takeC _ rfl rfl (by kernel_rfl) hc2 (X_of_Y0 rfl (Y0_lew (k := .i64) (a := f1.2.1) (b := f1.1) rfl (by kernel_rfl) (by kernel_rfl))) ?_
    refine XL_cons rfl (X_of_Y0 rfl (Y0_pick1 (b := ltI (w64 (0 - f1.1)) f1.2.1) (p := leI f1.2.1 f1.1) (q := false) rfl (by kernel_rfl) hc2 (by kernel_rfl))) ?_
    refine XR 1 ?_
    refine XL_nil ?_
    subst ht3
    kernel_rfl
   ·refine XL_skipT _ rfl rfl (by kernel_rfl) hc2 rfl ?_
    refine XL_skipT _ rfl rfl (by kernel_rfl) hc2 rfl ?_
    refine XL_skipT _ rfl rfl (by kernel_rfl) hc2 rfl ?_
    refine XL_skipT _ rfl rfl (by kernel_rfl) hc2 rfl ?_
    refine XL_skipT _ rfl rfl (by kernel_rfl) hc2 rfl ?_
    refine XL_cons rfl (X_of_Y0 rfl (Y0_pick0 (b := ltI (w64 (0 - f1.1)) f1.2.1) (p := leI f1.2.1 f1.1) (q := false) rfl (by kernel_rfl) hc2 (by kernel_rfl))) ?_
    refine XR 1 ?_
    refine XL_nil ?_
    subst ht3
    kernel_rfl
  refine V_ret ?_
  obtain rfl := some_inj h
  show Post _ _ _ _ _
  exact ⟨.inr rfl, rfl, rfl, rfl⟩
theorem cf_impl_Form_isReduced : ∀ args w, (callFunc 191 args).run Tryz.prog w = .ok (.enter 191 args) w := run_callFunc Tryz.func191 (by kernel_rfl) (by kernel_rfl)
theorem s_impl_Form_isReduced {f1 : (Int × Int × Int)} {r : Bool} (h : r_impl_Form_isReduced f1 = some r) : CallS Tryz.prog 191 [.ag [Ti f1.1, Ti f1.2.1, Ti f1.2.2]] (Bo r) [] := by
  refine CallS_of_text (rs := [.t 2]) (vs := [.tmp 2]) Tryz.func191 rfl rfl (.cons rfl FitsL.nil) (by decide) 24 rfl ?_
  unfold r_impl_Form_isReduced at h
  show V _ _ ⟨.ag [Ti f1.1, Ti f1.2.1, Ti f1.2.2] :: bt 23 [], []⟩ _
  refine V_e (mb 24 2) [8] (s1 := ⟨.bot :: .pt 8 0 :: bt 22 [], [(8, .box [Ti f1.1, Ti f1.2.1, Ti f1.2.2])]⟩) ?_
  obtain ⟨y2, hy2, h⟩ := of_bind h
  obtain ⟨t6, ht6, h⟩ := of_bind h
  have ht6 := some_inj ht6
  refine V_sreg (mb 24 4) [] (s1 := ⟨.bot :: .bot :: Bo t6 :: bt 21 [], []⟩) ?_ ?_
  ·refine XR 1 ?_
   refine XC (s_impl_Form_isNormal hy2) cf_impl_Form_isNormal rfl rfl rfl ?_
   refine XR 1 ?_
   refine XL_split y2 (fun hc3 => ?_) (fun hc3 => ?_)
   ·refine XL_takeC _ rfl rfl (by kernel_rfl) hc3 (X_of_Y0 rfl (E_field (.pt 8 0) Tryz.underlying25 rfl sz3 rfl (by kernel_rfl) (by intro hh; cases hh))) ?_
    refine XL_takeC _ rfl rfl (by kernel_rfl) hc3 (X_of_Y0 rfl (Y0_load1 (c := Ti f1.1) (cs := [Ti f1.2.1, Ti f1.2.2]) sc3 rfl (by kernel_rfl))) ?_
    refine XL_takeC _ rfl rfl (by kernel_rfl) hc3 (X_of_Y0 rfl (E_field (.pt 8 2) Tryz.underlying25 rfl sz3 rfl (by kernel_rfl) (by intro hh; cases hh))) ?_
    refine XL_takeC _ rfl rfl (by kernel_rfl) hc3 (X_of_Y0 rfl (Y0_load1 (c := Ti f1.2.2) (cs := []) sc3 rfl (by kernel_rfl))) ?_
    refine XL_takeC _ rfl rfl (by kernel_rfl) hc3 (X_of_Y0 rfl (Y0_ltw (k := .i64) (a := f1.1) (b := f1.2.2) rfl (by kernel_rfl) (by kernel_rfl))) ?_
    refine XL_takeC _ rfl rfl (by kernel_rfl) hc3 (X_of_Y0 rfl (E_move (Bo (ltI f1.1 f1.2.2)) rfl (by kernel_rfl))) ?_
    refine XL_split (ltI f1.1 f1.2.2) (fun hc4 => ?_) (fun hc4 => ?_)
    ·refine XL_skipF _ rfl rfl (by kernel_rfl) hc4 rfl ?_
     refine XL_skipF _ rfl rfl (by kernel_rfl) hc4 rfl ?_
     refine XL_skipF _ rfl rfl (by kernel_rfl) hc4 rfl ?_
     refine XL_skipF _ rfl rfl (by kernel_rfl) hc4 rfl ?_
     refine XL_skipF _ rfl rfl (by kernel_rfl) hc4 rfl ?_
     refine XL_skipF _ rfl rfl (by kernel_rfl) hc4 rfl ?_
     refine XL_skip2 rfl rfl (by kernel_rfl) rfl ?_
     refine XL_skip2 rfl rfl (by kernel_rfl) rfl ?_
     refine XL_skip2 rfl rfl (by kernel_rfl) rfl ?_
     refine XL_skipF _ rfl rfl (by kernel_rfl) hc4 rfl ?_
     refine XL_takeC _ rfl rfl (by kernel_rfl) hc3 (X_of_Y0 rfl (Y0_pick1 (b := ltI f1.1 f1.2.2) (p := true) (q := bif (eqI f1.1 f1.2.2) then (leI 0 f1.2.1) else false) rfl (by kernel_rfl) hc4 (by kernel_rfl))) ?_
     refine XL_cons rfl (X_of_Y0 rfl (Y0_pick1 (b := y2) (p := bif (ltI f1.1 f1.2.2) then true else (bif (eqI f1.1 f1.2.2) then (leI 0 f1.2.1) else false)) (q := false) rfl (by kernel_rfl) hc3 (by kernel_rfl))) ?_
     refine XR 1 ?_
     refine XL_nil ?_
     subst ht6
     kernel_rfl
    ·refine XL_takeC _ rfl rfl (by kernel_rfl) hc4 (X_of_Y0 rfl (E_field (.pt 8 0) Tryz.underlying25 rfl sz3 rfl (by kernel_rfl) (by intro hh; cases hh))) ?_
     refine XL_takeC _ rfl rfl (by kernel_rfl) hc4 (X_of_Y0 rfl (Y0_load1 (c := Ti f1.1) (cs := [Ti f1.2.1, Ti f1.2.2]) sc3 rfl (by kernel_rfl))) ?_
     refine XL_takeC _ rfl rfl (by kernel_rfl) hc4 (X_of_Y0 rfl (E_field (.pt 8 2) Tryz.underlying25 rfl sz3 rfl (by kernel_rfl) (by intro hh; cases hh))) ?_
     refine XL_takeC _ rfl rfl (by kernel_rfl) hc4 (X_of_Y0 rfl (Y0_load1 (c := Ti f1.2.2) (cs := []) sc3 rfl (by kernel_rfl))) ?_
     refine XL_takeC _ rfl rfl (by kernel_rfl) hc4 (X_of_Y0 rfl (Y0_eqw (k := .i64) (a := f1.1) (b := f1.2.2) rfl (by kernel_rfl) (by kernel_rfl))) ?_
     refine XL_takeC _ rfl rfl (by kernel_rfl) hc4 (X_of_Y0 rfl (E_move (Bo (eqI f1.1 f1.2.2)) rfl (by kernel_rfl))) ?_
     refine XL_split (eqI f1.1 f1.2.2) (fun hc5 => ?_) (fun hc5 => ?_)
     ·refine XL_takeC _ rfl rfl (by kernel_rfl) hc5 (X_of_Y0 rfl (E_field (.pt 8 1) Tryz.underlying25 rfl sz3 rfl (by kernel_rfl) (by intro hh; cases hh))) ?_
      refine XL_takeC _ rfl rfl (by kernel_rfl) hc5 (X_of_Y0 rfl (Y0_load1 (c := Ti f1.2.1) (cs := [Ti f1.2.2]) sc3 rfl (by kernel_rfl))) ?_
      refine XL_takeC _ rfl rfl (by kernel_rfl) hc5 (X_of_Y0 rfl (Y0_gew (k := .i64) (a := f1.2.1) (b := 0) rfl (by kernel_rfl) (by kernel_rfl))) ?_
      refine XL_takeC _ rfl rfl (by kernel_rfl) hc4 (X_of_Y0 rfl (Y0_pick1 (b := eqI f1.1 f1.2.2) (p := leI 0 f1.2.1) (q := false) rfl (by kernel_rfl) hc5 (by kernel_rfl))) ?_
      refine XL_takeC _ rfl rfl (by kernel_rfl) hc3 (X_of_Y0 rfl (Y0_pick0 (b := ltI f1.1 f1.2.2) (p := true) (q := bif (eqI f1.1 f1.2.2) then (leI 0 f1.2.1) else false) rfl (by kernel_rfl) hc4 (by kernel_rfl))) ?_
      refine XL_cons rfl (X_of_Y0 rfl (Y0_pick1 (b := y2) (p := bif (ltI f1.1 f1.2.2) then true else (bif (eqI f1.1 f1.2.2) then (leI 0 f1.2.1) else false)) (q := false) rfl (by kernel_rfl) hc3 (by kernel_rfl))) ?_
      refine XR 1 ?_
      refine XL_nil ?_
      subst ht6
      kernel_rfl
     ·refine XL_skipT _ rfl rfl (by kernel_rfl) hc5 rfl ?_
      refine XL_skipT _ rfl rfl (by kernel_rfl) hc5 rfl ?_
      refine XL_skipT _ rfl rfl (by kernel_rfl) hc5 rfl ?_
      refine XL_takeC _ rfl rfl (by kernel_rfl) hc4 (X_of_Y0 rfl (Y0_pick0 (b := eqI f1.1 f1.2.2) (p := leI 0 f1.2.1) (q := false) rfl (by kernel_rfl) hc5 (by kernel_rfl))) ?_
      refine XL_takeC _ rfl rfl (by kernel_rfl) hc3 (X_of_Y0 rfl (Y0_pick0 (b := ltI f1.1 f1.2.2) (p := true) (q := bif (eqI f1.1 f1.2.2) then (leI 0 f1.2.1) else false) rfl (by kernel_rfl) hc4 (by kernel_rfl))) ?_
      refine XL_cons rfl (X_of_Y0 rfl (Y0_pick1 (b := y2) (p := bif (ltI f1.1 f1.2.2) then true else (bif (eqI f1.1 f1.2.2) then (leI 0 f1.2.1) else false)) (q := false) rfl (by kernel_rfl) hc3 (by kernel_rfl))) ?_
      refine XR 1 ?_
      refine XL_nil ?_
      subst ht6
      kernel_rfl
   ·refine XL_skipT _ rfl rfl (by kernel_rfl) hc3 rfl ?_
    refine XL_skipT _ rfl rfl (by kernel_rfl) hc3 rfl ?_
    refine XL_skipT _ rfl rfl (by kernel_rfl) hc3 rfl ?_
    refine XL_skipT _ rfl rfl (by kernel_rfl) hc3 rfl ?_
    refine XL_skipT _ rfl rfl (by kernel_rfl) hc3 rfl ?_
    refine XL_skipT _ rfl rfl (by kernel_rfl) hc3 rfl ?_
    refine XL_skip2 rfl rfl (by kernel_rfl) rfl ?_
    refine XL_skip2 rfl rfl (by kernel_rfl) rfl ?_
    refine XL_skip2 rfl rfl (by kernel_rfl) rfl ?_
    refine XL_skip2 rfl rfl (by kernel_rfl) rfl ?_
    refine XL_skip2 rfl rfl (by kernel_rfl) rfl ?_
    refine XL_skip2 rfl rfl (by kernel_rfl) rfl ?_
    refine XL_skip2 rfl rfl (by kernel_rfl) rfl ?_
    refine XL_skip2 rfl rfl (by kernel_rfl) rfl ?_
    refine XL_skip2 rfl rfl (by kernel_rfl) rfl ?_
    refine XL_skip2 rfl rfl (by kernel_rfl) rfl ?_
    refine XL_skipT _ rfl rfl (by kernel_rfl) hc3 rfl ?_
    refine XL_cons rfl (X_of_Y0 rfl (Y0_pick0 (b := y2) (p := bif (ltI f1.1 f1.2.2) then true else (bif (eqI f1.1 f1.2.2) then (leI 0 f1.2.1) else false)) (q := false) rfl (by kernel_rfl) hc3 (by kernel_rfl))) ?_
    refine XR 1 ?_
    refine XL_nil ?_
    subst ht6
    kernel_rfl
  refine V_ret ?_
  obtain rfl := some_inj h
  show Post _ _ _ _ _
  exact ⟨.inr rfl, rfl, rfl, rfl⟩
theorem cf_impl_mod : ∀ args w, (callFunc 171 args).run Tryz.prog w = .ok (.enter 171 args) w := run_callFunc Tryz.func171 (by kernel_rfl) (by kernel_rfl)
theorem s_impl_mod {a1 : Int} {vm2 : Int} {r : Int} (h : r_impl_mod a1 vm2 = some r) : CallS Tryz.prog 171 [I a1, I vm2] (I r) [] := by
  refine CallS_of_text (rs := [.t 4]) (vs := [.tmp 4]) Tryz.func171 rfl rfl (.cons rfl FitsL.nil) (by decide) 15 rfl ?_
  unfold r_impl_mod at h
  show V _ _ ⟨I a1 :: I vm2 :: bt 13 [], []⟩ _
  refine V_e (mb 15 3) [] (s1 := ⟨I a1 :: I vm2 :: bt 13 [], []⟩) ?_
  obtain ⟨z3, hz3, h⟩ := of_bind h
  obtain ⟨vr4, hvr4, h⟩ := of_sI h
  refine V_sreg (mb 15 34) [] (s1 := ⟨.bot :: I vm2 :: bt 3 (I vr4 :: bt 9 []), []⟩) ?_ ?_
  ·refine XR 2 ?_
   refine L0 rfl rfl (Y0_rem (k := .i64) (a := a1) (b := vm2) rfl (by kernel_rfl) (by kernel_rfl) (nz_some hz3)) ?_
   refine XR 1 ?_
   refine XL_nil ?_
   subst hvr4
   kernel_rfl
  refine V_seq ?_
  refine V_e (mb 15 1058) [] (s1 := ⟨.bot :: I vm2 :: bt 3 (I vr4 :: bt 4 (Bo (ltI vr4 0) :: bt 4 [])), []⟩) ?_
  refine V_cond rfl (fun hc5 => ?_) (fun hc5 => ?_)
  ·have h := of_true h hc5
   obtain ⟨vr6, hvr6, h⟩ := of_sI h
   refine V_reg (mb 15 32) [] (s1 := ⟨bt 5 (I vr6 :: bt 9 []), []⟩) ?_ ?_
   ·refine XR 4 ?_
    refine XL_nil ?_
    subst hvr6
    kernel_rfl
   show V _ _ _ _
   refine V_e (mb 15 16) [] (s1 := ⟨bt 4 (I vr6 :: bt 10 []), []⟩) ?_
   refine V_ret ?_
   obtain rfl := some_inj h
   show Post _ _ _ _ _
   exact ⟨.inr rfl, rfl, rfl, rfl⟩
  ·have h := of_false h hc5
   refine V_skip ?_
   show V _ _ _ _
   refine V_e (mb 15 16) [] (s1 := ⟨bt 4 (I vr4 :: bt 10 []), []⟩) ?_
   refine V_ret ?_
   obtain rfl := some_inj h
   show Post _ _ _ _ _
   exact ⟨.inr rfl, rfl, rfl, rfl⟩
theorem cf_impl_floorDiv : ∀ args w, (callFunc 218 args).run Tryz.prog w = .ok (.enter 218 args) w := run_callFunc Tryz.func218 (by kernel_rfl) (by kernel_rfl)
theorem s_impl_floorDiv {a1 : Int} {vm2 : Int} {r : Int} (h : r_impl_floorDiv a1 vm2 = some r) : CallS Tryz.prog 218 [I a1, I vm2] (I r) [] := by
  refine CallS_of_text (rs := [.t 4]) (vs := [.tmp 4]) Tryz.func218 rfl rfl (.cons rfl FitsL.nil) (by decide) 12 rfl ?_
  unfold r_impl_floorDiv at h
  show V _ _ ⟨I a1 :: I vm2 :: bt 10 [], []⟩ _
  refine V_e (mb 12 3) [] (s1 := ⟨I a1 :: I vm2 :: bt 10 [], []⟩) ?_
  obtain ⟨y3, hy3, h⟩ := of_bind h
  obtain ⟨z4, hz4, h⟩ := of_bind h
  obtain ⟨t5, ht5, h⟩ := of_sI h
  refine V_sreg (mb 12 16) [] (s1 := ⟨bt 4 (I t5 :: bt 7 []), []⟩) ?_ ?_
  ·refine XR 3 ?_
   refine XC (s_impl_mod hy3) cf_impl_mod rfl rfl rfl ?_
   refine XR 2 ?_
   refine L0 rfl rfl (Y0_quo64 (a := w64 (a1 - y3)) (b := vm2) rfl (by kernel_rfl) (by kernel_rfl) (nz_some hz4)) ?_
   refine XR 1 ?_
   refine XL_nil ?_
   subst ht5
   kernel_rfl
  refine V_ret ?_
  obtain rfl := some_inj h
  show Post _ _ _ _ _
  exact ⟨.inr rfl, rfl, rfl, rfl⟩
theorem cf_impl_Form_step : ∀ args w, (callFunc 192 args).run Tryz.prog w = .ok (.enter 192 args) w := run_callFunc Tryz.func192 (by kernel_rfl) (by kernel_rfl)
theorem s_impl_Form_step {f1 : (Int × Int × Int)} {r : (Int × Int × Int × Int)} (h : r_impl_Form_step f1 = some r) : CallS Tryz.prog 192 [.ag [Ti f1.1, Ti f1.2.1, Ti f1.2.2]] (.ag [Ti r.1, Ti r.2.1, Ti r.2.2.1, Ti r.2.2.2]) [] := by
  refine CallS_of_text (rs := [.w 2 4]) (vs := [.cell 2 31]) Tryz.func192 rfl rfl (.cons ⟨rfl, wd31⟩ FitsL.nil) (by decide) 22 rfl ?_
  unfold r_impl_Form_step at h
  show V _ _ ⟨.ag [Ti f1.1, Ti f1.2.1, Ti f1.2.2] :: bt 21 [], []⟩ _
  refine V_e (mb 22 6) [16, 8] (s1 := ⟨.bot :: .pt 8 0 :: .pt 16 0 :: bt 19 [], [(16, .box [Ti 0, Ti 0, Ti 0, Ti 0]), (8, .box [Ti f1.1, Ti f1.2.1, Ti f1.2.2])]⟩) ?_
  refine V_seq ?_
  refine V_block ?_
  obtain ⟨y2, hy2, h⟩ := of_bind h
  refine V_sreg (mb 22 14) [16, 8] (s1 := ⟨.bot :: .pt 8 0 :: .pt 16 0 :: Bo y2 :: bt 18 [], [(16, .box [Ti 0, Ti 0, Ti 0, Ti 0]), (8, .box [Ti f1.1, Ti f1.2.1, Ti f1.2.2])]⟩) ?_ ?_
  ·refine XR 1 ?_
   refine XC (s_impl_Form_isReduced hy2) cf_impl_Form_isReduced rfl rfl rfl ?_
   exact XE
  refine V_cond rfl (fun hc3 => ?_) (fun hc3 => ?_)
  ·have h := of_true h hc3
   obtain ⟨y4, hy4, h⟩ := of_bind h
   refine V_sreg (mb 22 4) [16] (s1 := ⟨.bot :: .bot :: .pt 16 0 :: bt 19 [], [(16, .box [Ti y4.1, Ti y4.2.1, Ti y4.2.2.1, Ti y4.2.2.2])]⟩) ?_ ?_
   ·refine XC (s_impl_one hy4) cf_impl_one rfl rfl rfl ?_
    exact XE
   refine V_ret ?_
   obtain rfl := some_inj h
   show Post _ _ _ _ _
   exact ⟨.inr rfl, rfl, rfl, rfl⟩
  ·have h := of_false h hc3
   obtain ⟨y5, hy5, h⟩ := of_bind h
   refine V_sreg (mb 22 134) [16, 8] (s1 := ⟨.bot :: .pt 8 0 :: .pt 16 0 :: bt 4 (Bo (!y5) :: bt 14 []), [(16, .box [Ti 0, Ti 0, Ti 0, Ti 0]), (8, .box [Ti f1.1, Ti f1.2.1, Ti f1.2.2])]⟩) ?_ ?_
   ·refine XR 1 ?_
    refine XC (s_impl_Form_isNormal hy5) cf_impl_Form_isNormal rfl rfl rfl ?_
    exact XE
   refine V_cond rfl (fun hc6 => ?_) (fun hc6 => ?_)
   ·have h := of_true h hc6
    obtain ⟨y7, hy7, h⟩ := of_bind h
    refine V_sreg (mb 22 4) [16] (s1 := ⟨.bot :: .bot :: .pt 16 0 :: bt 19 [], [(16, .box [Ti 1, Ti y7, Ti 0, Ti 1])]⟩) ?_ ?_
    ·refine XR 8 ?_
     refine XC (s_impl_floorDiv hy7) cf_impl_floorDiv rfl rfl rfl ?_
     refine L0 rfl rfl (Y0_build (cs := [Ti 1, Ti y7, Ti 0, Ti 1]) pl31 bt31 rfl rfl (by kernel_rfl)) ?_
     exact XE
    refine V_ret ?_
    obtain rfl := some_inj h
    show Post _ _ _ _ _
    exact ⟨.inr rfl, rfl, rfl, rfl⟩
   ·have h := of_false h hc6
    refine V_skip ?_
    show V _ _ _ _
    refine V_sreg (mb 22 4) [16] (s1 := ⟨.bot :: .bot :: .pt 16 0 :: bt 19 [], [(16, .box [Ti 0, Ti (-1), Ti 1, Ti 0])]⟩) ?_ ?_
    ·refine L0 rfl rfl (Y0_build (cs := [Ti 0, Ti (-1), Ti 1, Ti 0]) pl31 bt31 rfl rfl (by kernel_rfl)) ?_
     exact XE
    refine V_ret ?_
    obtain rfl := some_inj h
    show Post _ _ _ _ _
    exact ⟨.inr rfl, rfl, rfl, rfl⟩
theorem cf_impl_Form_at : ∀ args w, (callFunc 169 args).run Tryz.prog w = .ok (.enter 169 args) w := run_callFunc Tryz.func169 (by kernel_rfl) (by kernel_rfl)
theorem s_impl_Form_at {f1 : (Int × Int × Int)} {x2 : Int} {y3 : Int} {r : Int} (h : r_impl_Form_at f1 x2 y3 = some r) : CallS Tryz.prog 169 [.ag [Ti f1.1, Ti f1.2.1, Ti f1.2.2], I x2, I y3] (I r) [] := by
  refine CallS_of_text (rs := [.t 6]) (vs := [.tmp 6]) Tryz.func169 rfl rfl (.cons rfl FitsL.nil) (by decide) 27 rfl ?_
  unfold r_impl_Form_at at h
  show V _ _ ⟨.ag [Ti f1.1, Ti f1.2.1, Ti f1.2.2] :: I x2 :: I y3 :: bt 24 [], []⟩ _
  refine V_e (mb 27 14) [24] (s1 := ⟨.bot :: I x2 :: I y3 :: .pt 24 0 :: bt 23 [], [(24, .box [Ti f1.1, Ti f1.2.1, Ti f1.2.2])]⟩) ?_
  obtain ⟨t4, ht4, h⟩ := of_sI h
  refine V_sreg (mb 27 64) [] (s1 := ⟨bt 6 (I t4 :: bt 20 []), []⟩) ?_ ?_
  ·refine XR 21 ?_
   refine XL_nil ?_
   subst ht4
   kernel_rfl
  refine V_ret ?_
  obtain rfl := some_inj h
  show Post _ _ _ _ _
  exact ⟨.inr rfl, rfl, rfl, rfl⟩
theorem cf_impl_Form_polar : ∀ args w, (callFunc 170 args).run Tryz.prog w = .ok (.enter 170 args) w := run_callFunc Tryz.func170 (by kernel_rfl) (by kernel_rfl)
theorem s_impl_Form_polar {f1 : (Int × Int × Int)} {x2 : Int} {y3 : Int} {u4 : Int} {v5 : Int} {r : Int} (h : r_impl_Form_polar f1 x2 y3 u4 v5 = some r) : CallS Tryz.prog 170 [.ag [Ti f1.1, Ti f1.2.1, Ti f1.2.2], I x2, I y3, I u4, I v5] (I r) [] := by
  refine CallS_of_text (rs := [.t 10]) (vs := [.tmp 10]) Tryz.func170 rfl rfl (.cons rfl FitsL.nil) (by decide) 37 rfl ?_
  unfold r_impl_Form_polar at h
  show V _ _ ⟨.ag [Ti f1.1, Ti f1.2.1, Ti f1.2.2] :: I x2 :: I y3 :: I u4 :: I v5 :: bt 32 [], []⟩ _
  refine V_e (mb 37 62) [40] (s1 := ⟨.bot :: I x2 :: I y3 :: I u4 :: I v5 :: .pt 40 0 :: bt 31 [], [(40, .box [Ti f1.1, Ti f1.2.1, Ti f1.2.2])]⟩) ?_
  obtain ⟨t6, ht6, h⟩ := of_sI h
  refine V_sreg (mb 37 1024) [] (s1 := ⟨bt 10 (I t6 :: bt 26 []), []⟩) ?_ ?_
  ·refine XR 27 ?_
   refine XL_nil ?_
   subst ht6
   kernel_rfl
  refine V_ret ?_
  obtain rfl := some_inj h
  show Post _ _ _ _ _
  exact ⟨.inr rfl, rfl, rfl, rfl⟩
theorem cf_impl_Form_substitute : ∀ args w, (callFunc 78 args).run Tryz.prog w = .ok (.enter 78 args) w := run_callFunc Tryz.func78 (by kernel_rfl) (by kernel_rfl)
theorem s_impl_Form_substitute {f1 : (Int × Int × Int)} {vm2 : (Int × Int × Int × Int)} {r : (Int × Int × Int)} (h : r_impl_Form_substitute f1 vm2 = some r) : CallS Tryz.prog 78 [.ag [Ti f1.1, Ti f1.2.1, Ti f1.2.2], .ag [Ti vm2.1, Ti vm2.2.1, Ti vm2.2.2.1, Ti vm2.2.2.2]] (.ag [Ti r.1, Ti r.2.1, Ti r.2.2]) [] := by
  refine CallS_of_text (rs := [.w 4 3]) (vs := [.cell 4 25]) Tryz.func78 rfl rfl (.cons ⟨rfl, wd25⟩ FitsL.nil) (by decide) 28 rfl ?_
  unfold r_impl_Form_substitute at h
  show V _ _ ⟨.ag [Ti f1.1, Ti f1.2.1, Ti f1.2.2] :: .ag [Ti vm2.1, Ti vm2.2.1, Ti vm2.2.2.1, Ti vm2.2.2.2] :: bt 26 [], []⟩ _
  refine V_e (mb 28 28) [32, 24, 16] (s1 := ⟨.bot :: .bot :: .pt 16 0 :: .pt 24 0 :: .pt 32 0 :: bt 23 [], [(32, .box [Ti 0, Ti 0, Ti 0]), (24, .box [Ti vm2.1, Ti vm2.2.1, Ti vm2.2.2.1, Ti vm2.2.2.2]), (16, .box [Ti f1.1, Ti f1.2.1, Ti f1.2.2])]⟩) ?_
  obtain ⟨y3, hy3, h⟩ := of_bind h
  obtain ⟨y4, hy4, h⟩ := of_bind h
  obtain ⟨y5, hy5, h⟩ := of_bind h
  refine V_sdreg [0, 0, 2, 0, 8, 31, 0, 0, 128, 0, 512, 0, 2048, 0, 8192, 32767, 0, 0, 131072, 0, 524288, 2097151, 4194303, 8388607] 23 (cdm 23 [2929883521704, 2929883521666, 2929883521670, 2929883521066, 2929883521130, 2929883521365, 2929883515562, 2929883359914, 2929883376298, 2929880902314, 2929881164458, 2929841580714, 2929845775018, 2929212435114, 2929279543978, 2929525609813, 2923441072810, 2760232315562, 2777412184746, 183251937962, 458129844906, 1466015503701, 5864062014805]) (mb 28 16) [32] (s1 := ⟨bt 4 (.pt 32 0 :: bt 23 []), [(32, .box [Ti y3, Ti y4, Ti y5])]⟩) (by kernel_rfl) (by kernel_rfl) ?_ ?_
  ·refine DR 5 ?_
   refine DC 5 (s_impl_Form_at hy3) cf_impl_Form_at rfl rfl rfl rfl 10 rfl ?_
   refine DR 9 ?_
   refine DC 15 (s_impl_Form_polar hy4) cf_impl_Form_polar rfl rfl rfl rfl 20 rfl ?_
   refine DR 5 ?_
   refine DC 21 (s_impl_Form_at hy5) cf_impl_Form_at rfl rfl rfl rfl 26 rfl ?_
   refine DE_0 22 (.ag [Ti y3, Ti y4, Ti y5]) (by kernel_rfl) rfl rfl rfl (gsat_none rfl) (by kernel_rfl) (Y0_build (cs := [Ti y3, Ti y4, Ti y5]) pl25 bt25 rfl rfl (by kernel_rfl)) 27 rfl ?_
   refine DA 0 ?_
   exact XE
  refine V_ret ?_
  obtain rfl := some_inj h
  show Post _ _ _ _ _
  exact ⟨.inr rfl, rfl, rfl, rfl⟩
theorem cf_impl_Matrix_times : ∀ args w, (callFunc 157 args).run Tryz.prog w = .ok (.enter 157 args) w := run_callFunc Tryz.func157 (by kernel_rfl) (by kernel_rfl)
theorem s_impl_Matrix_times {vm1 : (Int × Int × Int × Int)} {vn2 : (Int × Int × Int × Int)} {r : (Int × Int × Int × Int)} (h : r_impl_Matrix_times vm1 vn2 = some r) : CallS Tryz.prog 157 [.ag [Ti vm1.1, Ti vm1.2.1, Ti vm1.2.2.1, Ti vm1.2.2.2], .ag [Ti vn2.1, Ti vn2.2.1, Ti vn2.2.2.1, Ti vn2.2.2.2]] (.ag [Ti r.1, Ti r.2.1, Ti r.2.2.1, Ti r.2.2.2]) [] := by
  refine CallS_of_text (rs := [.w 4 4]) (vs := [.cell 4 31]) Tryz.func157 rfl rfl (.cons ⟨rfl, wd31⟩ FitsL.nil) (by decide) 50 rfl ?_
  unfold r_impl_Matrix_times at h
  show V _ _ ⟨.ag [Ti vm1.1, Ti vm1.2.1, Ti vm1.2.2.1, Ti vm1.2.2.2] :: .ag [Ti vn2.1, Ti vn2.2.1, Ti vn2.2.2.1, Ti vn2.2.2.2] :: bt 48 [], []⟩ _
  refine V_e (mb 50 28) [32, 24, 16] (s1 := ⟨.bot :: .bot :: .pt 16 0 :: .pt 24 0 :: .pt 32 0 :: bt 45 [], [(32, .box [Ti 0, Ti 0, Ti 0, Ti 0]), (24, .box [Ti vn2.1, Ti vn2.2.1, Ti vn2.2.2.1, Ti vn2.2.2.2]), (16, .box [Ti vm1.1, Ti vm1.2.1, Ti vm1.2.2.1, Ti vm1.2.2.2])]⟩) ?_
  obtain ⟨f3, hf3, h⟩ := of_sI h
  obtain ⟨f4, hf4, h⟩ := of_sI h
  obtain ⟨f5, hf5, h⟩ := of_sI h
  obtain ⟨f6, hf6, h⟩ := of_sI h
  refine V_sreg (mb 50 16) [32] (s1 := ⟨bt 4 (.pt 32 0 :: bt 45 []), [(32, .box [Ti f3, Ti f4, Ti f5, Ti f6])]⟩) ?_ ?_
  ·refine XR 44 ?_
   refine L0 rfl rfl (Y0_build (cs := [Ti (w64 ((w64 (vm1.1 * vn2.1)) + (w64 (vm1.2.1 * vn2.2.2.1)))), Ti (w64 ((w64 (vm1.1 * vn2.2.1)) + (w64 (vm1.2.1 * vn2.2.2.2)))), Ti (w64 ((w64 (vm1.2.2.1 * vn2.1)) + (w64 (vm1.2.2.2 * vn2.2.2.1)))), Ti (w64 ((w64 (vm1.2.2.1 * vn2.2.1)) + (w64 (vm1.2.2.2 * vn2.2.2.2))))]) pl31 bt31 rfl rfl (by kernel_rfl)) ?_
   refine XR 1 ?_
   refine XL_nil ?_
   subst hf3 hf4 hf5 hf6
   kernel_rfl
  refine V_ret ?_
  obtain rfl := some_inj h
  show Post _ _ _ _ _
  exact ⟨.inr rfl, rfl, rfl, rfl⟩
theorem cf_impl_reduce : ∀ args w, (callFunc 104 args).run Tryz.prog w = .ok (.enter 104 args) w := run_callFunc Tryz.func104 (by kernel_rfl) (by kernel_rfl)
theorem s_impl_reduce {f1 : (Int × Int × Int)} {r : (((Int × Int × Int)) × ((Int × Int × Int × Int)))} (h : r_impl_reduce f1 = some r) : CallS Tryz.prog 104 [.ag [Ti f1.1, Ti f1.2.1, Ti f1.2.2]] (.tc (.ag [Ti r.1.1, Ti r.1.2.1, Ti r.1.2.2]) (.tc (.ag [Ti r.2.1, Ti r.2.2.1, Ti r.2.2.2.1, Ti r.2.2.2.2]) .tn)) [] := by
  refine CallS_of_text (rs := [.w 2 3, .w 3 4]) (vs := [.cell 2 25, .cell 3 31]) Tryz.func104 rfl rfl (.cons ⟨rfl, wd25⟩ (.cons ⟨rfl, wd31⟩ FitsL.nil)) (by decide) 20 rfl ?_
  unfold r_impl_reduce at h
  show V _ _ ⟨.ag [Ti f1.1, Ti f1.2.1, Ti f1.2.2] :: bt 19 [], []⟩ _
  refine V_e (mb 20 14) [24, 16, 8] (s1 := ⟨.bot :: .pt 8 0 :: .pt 16 0 :: .pt 24 0 :: bt 16 [], [(24, .box [Ti 0, Ti 0, Ti 0, Ti 0]), (16, .box [Ti 0, Ti 0, Ti 0]), (8, .box [Ti f1.1, Ti f1.2.1, Ti f1.2.2])]⟩) ?_
  obtain ⟨y2, hy2, h⟩ := of_bind h
  refine V_sreg (mb 20 30) [32, 24, 16, 8] (s1 := ⟨.bot :: .pt 8 0 :: .pt 16 0 :: .pt 24 0 :: .pt 32 0 :: bt 15 [], [(32, .box [Ti y2.1, Ti y2.2.1, Ti y2.2.2.1, Ti y2.2.2.2]), (24, .box [Ti 0, Ti 0, Ti 0, Ti 0]), (16, .box [Ti 0, Ti 0, Ti 0]), (8, .box [Ti f1.1, Ti f1.2.1, Ti f1.2.2])]⟩) ?_ ?_
  ·refine XC (s_impl_one hy2) cf_impl_one rfl rfl rfl ?_
   exact XE
  refine V_seq ?_
  obtain ⟨o11, hLo11, h⟩ := of_bind h
  refine V_toK (mb 20 30) [32, 24, 16, 8] (s1 := ⟨.bot :: .pt 8 0 :: .pt 16 0 :: .pt 24 0 :: .pt 32 0 :: bt 15 [], [(32, .box [Ti o11.1, Ti o11.2.1, Ti o11.2.2.1, Ti o11.2.2.2.1]), (24, .box [Ti 0, Ti 0, Ti 0, Ti 0]), (16, .box [Ti 0, Ti 0, Ti 0]), (8, .box [Ti o11.2.2.2.2.1, Ti o11.2.2.2.2.2.1, Ti o11.2.2.2.2.2.2])]⟩) ?_ ?_
  ·clear h
   refine V_block (V_loop (fun n s => ∃ (f3 : Int) (f4 : Int) (f5 : Int) (f6 : Int) (f7 : Int) (f8 : Int) (f9 : Int), s.keep (mb 20 30) [32, 24, 16, 8] = (⟨.bot :: .pt 8 0 :: .pt 16 0 :: .pt 24 0 :: .pt 32 0 :: bt 15 [], [(32, .box [Ti f3, Ti f4, Ti f5, Ti f6]), (24, .box [Ti 0, Ti 0, Ti 0, Ti 0]), (16, .box [Ti 0, Ti 0, Ti 0]), (8, .box [Ti f7, Ti f8, Ti f9])]⟩ : St) ∧ r_impl_reduce_L10 n f3 f4 f5 f6 f7 f8 f9 = some o11) FU ⟨_, _, _, _, _, _, _,  by rfl, hLo11⟩ ?_)
   clear hLo11
   rintro n s ⟨f3, f4, f5, f6, f7, f8, f9, hs, h⟩
   refine V_keep _ _ hs ?_
   clear hs
   cases n with
   | zero => cases h
   | succ n =>
    rw [r_impl_reduce_L10] at h
    refine V_seq ?_
    obtain ⟨y12, hy12, h⟩ := of_bind h
    refine V_sreg (mb 20 542) [32, 24, 16, 8] (s1 := ⟨.bot :: .pt 8 0 :: .pt 16 0 :: .pt 24 0 :: .pt 32 0 :: bt 4 (Bo (!y12) :: bt 10 []), [(32, .box [Ti f3, Ti f4, Ti f5, Ti f6]), (24, .box [Ti 0, Ti 0, Ti 0, Ti 0]), (16, .box [Ti 0, Ti 0, Ti 0]), (8, .box [Ti f7, Ti f8, Ti f9])]⟩) ?_ ?_
    ·refine XR 1 ?_
     refine XC (s_impl_Form_isReduced hy12) cf_impl_Form_isReduced rfl rfl rfl ?_
     exact XE
    refine V_cond rfl (fun hc13 => ?_) (fun hc13 => ?_)
    ·have h := of_true h hc13
     refine V_skip ?_
     show V _ _ _ _
     refine V_block ?_
     obtain ⟨y14, hy14, h⟩ := of_bind h
     refine V_sreg (mb 20 62) [40, 32, 24, 16, 8] (s1 := ⟨.bot :: .pt 8 0 :: .pt 16 0 :: .pt 24 0 :: .pt 32 0 :: .pt 40 0 :: bt 14 [], [(40, .box [Ti y14.1, Ti y14.2.1, Ti y14.2.2.1, Ti y14.2.2.2]), (32, .box [Ti f3, Ti f4, Ti f5, Ti f6]), (24, .box [Ti 0, Ti 0, Ti 0, Ti 0]), (16, .box [Ti 0, Ti 0, Ti 0]), (8, .box [Ti f7, Ti f8, Ti f9])]⟩) ?_ ?_
     ·refine XR 1 ?_
      refine XC (s_impl_Form_step hy14) cf_impl_Form_step rfl rfl rfl ?_
      exact XE
     obtain ⟨y15, hy15, h⟩ := of_bind h
     refine V_sreg (mb 20 62) [40, 32, 24, 16, 8] (s1 := ⟨.bot :: .pt 8 0 :: .pt 16 0 :: .pt 24 0 :: .pt 32 0 :: .pt 40 0 :: bt 14 [], [(40, .box [Ti y14.1, Ti y14.2.1, Ti y14.2.2.1, Ti y14.2.2.2]), (32, .box [Ti f3, Ti f4, Ti f5, Ti f6]), (24, .box [Ti 0, Ti 0, Ti 0, Ti 0]), (16, .box [Ti 0, Ti 0, Ti 0]), (8, .box [Ti y15.1, Ti y15.2.1, Ti y15.2.2])]⟩) ?_ ?_
     ·refine XR 2 ?_
      refine XC (s_impl_Form_substitute hy15) cf_impl_Form_substitute rfl rfl rfl ?_
      exact XE
     obtain ⟨y16, hy16, h⟩ := of_bind h
     refine V_reg (mb 20 30) [32, 24, 16, 8] (s1 := ⟨.bot :: .pt 8 0 :: .pt 16 0 :: .pt 24 0 :: .pt 32 0 :: bt 15 [], [(32, .box [Ti y16.1, Ti y16.2.1, Ti y16.2.2.1, Ti y16.2.2.2]), (24, .box [Ti 0, Ti 0, Ti 0, Ti 0]), (16, .box [Ti 0, Ti 0, Ti 0]), (8, .box [Ti y15.1, Ti y15.2.1, Ti y15.2.2])]⟩) ?_ ?_
     ·refine XR 2 ?_
      refine XC (s_impl_Matrix_times hy16) cf_impl_Matrix_times rfl rfl rfl ?_
      exact XE
     exact ⟨n, Nat.lt_succ_self n, _, _, _, _, _, _, _,  by rfl, h⟩
    ·have h := of_false h hc13
     refine V_exit ?_
     obtain rfl := some_inj h
     show St.keep _ _ _ = _
     rfl
  show V _ _ _ _
  refine V_sdreg [0, 0, 1, 7] 3 [[.z, .b, .z], [.b, .z, .r 16], [.a, .b, .z]] (mb 20 12) [24, 16] (s1 := ⟨.bot :: .bot :: .pt 16 0 :: .pt 24 0 :: bt 16 [], [(24, .box [Ti o11.1, Ti o11.2.1, Ti o11.2.2.1, Ti o11.2.2.2.1]), (16, .box [Ti o11.2.2.2.2.1, Ti o11.2.2.2.2.2.1, Ti o11.2.2.2.2.2.2])]⟩) (by kernel_rfl) (by kernel_rfl) ?_ ?_
  ·refine DA 3 ?_
   exact XE
  refine V_ret ?_
  obtain rfl := some_inj h
  show Post _ _ _ _ _
  exact ⟨.inr rfl, rfl, rfl, rfl⟩
theorem cf_impl_reduced : ∀ args w, (callFunc 96 args).run Tryz.prog w = .ok (.enter 96 args) w := run_callFunc Tryz.func96 (by kernel_rfl) (by kernel_rfl)
theorem s_impl_reduced {f1 : (Int × Int × Int)} {r : (Int × Int × Int)} (h : r_impl_reduced f1 = some r) : CallS Tryz.prog 96 [.ag [Ti f1.1, Ti f1.2.1, Ti f1.2.2]] (.ag [Ti r.1, Ti r.2.1, Ti r.2.2]) [] := by
  refine CallS_of_text (rs := [.w 2 3]) (vs := [.cell 2 25]) Tryz.func96 rfl rfl (.cons ⟨rfl, wd25⟩ FitsL.nil) (by decide) 11 rfl ?_
  unfold r_impl_reduced at h
  show V _ _ ⟨.ag [Ti f1.1, Ti f1.2.1, Ti f1.2.2] :: bt 10 [], []⟩ _
  refine V_e (mb 11 6) [16, 8] (s1 := ⟨.bot :: .pt 8 0 :: .pt 16 0 :: bt 8 [], [(16, .box [Ti 0, Ti 0, Ti 0]), (8, .box [Ti f1.1, Ti f1.2.1, Ti f1.2.2])]⟩) ?_
  obtain ⟨y2, hy2, h⟩ := of_bind h
  refine V_sreg (mb 11 12) [24, 16] (s1 := ⟨.bot :: .bot :: .pt 16 0 :: .pt 24 0 :: bt 7 [], [(24, .box [Ti y2.1.1, Ti y2.1.2.1, Ti y2.1.2.2]), (16, .box [Ti 0, Ti 0, Ti 0])]⟩) ?_ ?_
  ·refine XR 1 ?_
   refine XC (s_impl_reduce hy2) cf_impl_reduce rfl rfl rfl ?_
   exact XE
  refine V_e (mb 11 4) [16] (s1 := ⟨.bot :: .bot :: .pt 16 0 :: bt 8 [], [(16, .box [Ti y2.1.1, Ti y2.1.2.1, Ti y2.1.2.2])]⟩) ?_
  refine V_ret ?_
  obtain rfl := some_inj h
  show Post _ _ _ _ _
  exact ⟨.inr rfl, rfl, rfl, rfl⟩
theorem cf_impl_indexMatrices : ∀ args w, (callFunc 227 args).run Tryz.prog w = .ok (.enter 227 args) w := run_callFunc Tryz.func227 (by kernel_rfl) (by kernel_rfl)
theorem s_impl_indexMatrices {p1 : Int} {r : List ((Int × Int × Int × Int))} (h : r_impl_indexMatrices p1 = some r) : CallS Tryz.prog 227 [I p1] (.ow 0) [(0, .arr 31 4 (r.map c31))] := by
  refine CallS_of_text (rs := [.t 2]) (vs := [.tmp 2]) Tryz.func227 rfl rfl (.cons rfl FitsL.nil) (by decide) 22 rfl ?_
  unfold r_impl_indexMatrices at h
  show V _ _ ⟨I p1 :: bt 21 [], []⟩ _
  refine V_sreg (mb 22 1) [] (s1 := ⟨I p1 :: bt 21 [], []⟩) ?_ ?_
  ·refine L1 rfl rfl (Y1_nil (e := 31) 4 (by decide) (.inl rfl)) ?_
   exact XE
  refine V_sreg (mb 22 9) [40] (s1 := ⟨I p1 :: .bot :: .bot :: .ow 40 :: bt 18 [], [(40, .arr 31 4 ((([] : List ((Int × Int × Int × Int)))).map c31))]⟩) ?_ ?_
  ·refine L1 rfl rfl (Y1_bslice0 Tryz.underlying158 sz31 (by decide) rfl rfl) ?_
   exact XE
  refine V_seq ?_
  refine V_e (mb 22 25) [40] (s1 := ⟨I p1 :: .bot :: .bot :: .ow 40 :: I 0 :: bt 17 [], [(40, .arr 31 4 ((([] : List ((Int × Int × Int × Int)))).map c31))]⟩) ?_
  obtain ⟨o5, hLo5, h⟩ := of_bind h
  refine V_toK (mb 22 9) [40] (s1 := ⟨I p1 :: .bot :: .bot :: .ow 40 :: bt 18 [], [(40, .arr 31 4 (o5.map c31))]⟩) ?_ ?_
  ·clear h
   refine V_block (V_loop (fun n s => ∃ (k2 : Int) (l3 : List ((Int × Int × Int × Int))), s.keep (mb 22 25) [40] = (⟨I p1 :: .bot :: .bot :: .ow 40 :: I k2 :: bt 17 [], [(40, .arr 31 4 (l3.map c31))]⟩ : St) ∧ r_impl_indexMatrices_L4 p1 n k2 l3 = some o5) FU ⟨_, _,  by rfl, hLo5⟩ ?_)
   clear hLo5
   rintro n s ⟨k2, l3, hs, h⟩
   refine V_keep _ _ hs ?_
   clear hs
   cases n with
   | zero => cases h
   | succ n =>
    rw [r_impl_indexMatrices_L4] at h
    refine V_seq ?_
    refine V_e (mb 22 281) [40] (s1 := ⟨I p1 :: .bot :: .bot :: .ow 40 :: I k2 :: bt 3 (Bo (ltI k2 p1) :: bt 13 []), [(40, .arr 31 4 (l3.map c31))]⟩) ?_
    refine V_cond rfl (fun hc6 => ?_) (fun hc6 => ?_)
    ·have h := of_true h hc6
     refine V_skip ?_
     show V _ _ _ _
     refine V_seq ?_
     refine V_block ?_
     obtain ⟨u7, hu7, h⟩ := of_bind h
     refine V_reg (mb 22 25) [40] (s1 := ⟨I p1 :: .bot :: .bot :: .ow 40 :: I k2 :: bt 17 [], [(40, .arr 31 4 ((l3 ++ ([(1, 0, k2, p1)])).map c31))]⟩) ?_ ?_
     ·refine XR 3 ?_
      refine L0 rfl rfl (Y0_build (cs := [Ti 1, Ti 0, Ti k2, Ti p1]) pl31 bt31 rfl rfl (by kernel_rfl)) ?_
      refine L1 rfl rfl (Y1_bslice (z := zv31) (els := [(1, 0, k2, p1)].map c31) Tryz.underlying158 iz31 rfl (by decide) rfl (by kernel_rfl) rfl (by simp [c31]) (by decide) (by decide)) ?_
      refine XL_cons rfl (X_appendM (c := c31) (xs := l3) (ys := [(1, 0, k2, p1)]) (id := 40) (z := zv31) rfl rfl Tryz.underlying158 izb31 rfl (by kernel_rfl) (by kernel_rfl) (by kernel_rfl) (fun _ => rfl) (by simp) (room_some hu7) (by decide)) ?_
      exact XE
     show V _ _ _ _
     obtain ⟨k8, hk8, h⟩ := of_sI h
     refine V_reg (mb 22 25) [40] (s1 := ⟨I p1 :: .bot :: .bot :: .ow 40 :: I k8 :: bt 17 [], [(40, .arr 31 4 ((l3 ++ ([(1, 0, k2, p1)])).map c31))]⟩) ?_ ?_
     ·refine XR 3 ?_
      refine XL_nil ?_
      subst hk8
      kernel_rfl
     exact ⟨n, Nat.lt_succ_self n, _, _,  by rfl, h⟩
    ·have h := of_false h hc6
     refine V_exit ?_
     obtain rfl := some_inj h
     show St.keep _ _ _ = _
     rfl
  show V _ _ _ _
  obtain ⟨u9, hu9, h⟩ := of_bind h
  refine V_sreg (mb 22 4) [40] (s1 := ⟨.bot :: .bot :: .ow 40 :: bt 19 [], [(40, .arr 31 4 ((o5 ++ ([(p1, 0, 0, 1)])).map c31))]⟩) ?_ ?_
  ·refine XR 2 ?_
   refine L0 rfl rfl (Y0_build (cs := [Ti p1, Ti 0, Ti 0, Ti 1]) pl31 bt31 rfl rfl (by kernel_rfl)) ?_
   refine L1 rfl rfl (Y1_bslice (z := zv31) (els := [(p1, 0, 0, 1)].map c31) Tryz.underlying158 iz31 rfl (by decide) rfl (by kernel_rfl) rfl (by simp [c31]) (by decide) (by decide)) ?_
   refine XL_cons rfl (X_appendM (c := c31) (xs := o5) (ys := [(p1, 0, 0, 1)]) (id := 40) (z := zv31) rfl rfl Tryz.underlying158 izb31 rfl (by kernel_rfl) (by kernel_rfl) (by kernel_rfl) (fun _ => rfl) (by simp) (room_some hu9) (by decide)) ?_
   exact XE
  refine V_ret ?_
  obtain rfl := some_inj h
  show Post _ _ _ _ _
  exact ⟨.inr rfl, rfl, rfl, rfl⟩
theorem cf_impl_sublatticeForms : ∀ args w, (callFunc 188 args).run Tryz.prog w = .ok (.enter 188 args) w := run_callFunc Tryz.func188 (by kernel_rfl) (by kernel_rfl)
theorem s_impl_sublatticeForms {f1 : (Int × Int × Int)} {p2 : Int} {r : List ((Int × Int × Int))} (h : r_impl_sublatticeForms f1 p2 = some r) : CallS Tryz.prog 188 [.ag [Ti f1.1, Ti f1.2.1, Ti f1.2.2], I p2] (.ow 0) [(0, .arr 25 3 (r.map c25))] := by
  refine CallS_of_text (rs := [.t 4]) (vs := [.tmp 4]) Tryz.func188 rfl rfl (.cons rfl FitsL.nil) (by decide) 24 rfl ?_
  unfold r_impl_sublatticeForms at h
  show V _ _ ⟨.ag [Ti f1.1, Ti f1.2.1, Ti f1.2.2] :: I p2 :: bt 22 [], []⟩ _
  refine V_sreg (mb 24 6) [16] (s1 := ⟨.bot :: I p2 :: .pt 16 0 :: bt 21 [], [(16, .box [Ti f1.1, Ti f1.2.1, Ti f1.2.2])]⟩) ?_ ?_
  ·refine XR 1 ?_
   refine L1 rfl rfl (Y1_nil (e := 25) 3 (by decide) (.inl rfl)) ?_
   exact XE
  refine V_sreg (mb 24 38) [64, 16] (s1 := ⟨.bot :: I p2 :: .pt 16 0 :: .bot :: .bot :: .ow 64 :: bt 18 [], [(64, .arr 25 3 ((([] : List ((Int × Int × Int)))).map c25)), (16, .box [Ti f1.1, Ti f1.2.1, Ti f1.2.2])]⟩) ?_ ?_
  ·refine L1 rfl rfl (Y1_bslice0 Tryz.underlying38 sz25 (by decide) rfl rfl) ?_
   exact XE
  refine V_seq ?_
  obtain ⟨y3, hy3, h⟩ := of_bind h
  refine V_sreg (mb 24 7204) [80, 64, 16] (s1 := ⟨.bot :: .bot :: .pt 16 0 :: .bot :: .bot :: .ow 64 :: bt 4 (.ow 80 :: I ((y3.length : Int)) :: I 0 :: bt 11 []), [(80, .arr 31 4 (y3.map c31)), (64, .arr 25 3 ((([] : List ((Int × Int × Int)))).map c25)), (16, .box [Ti f1.1, Ti f1.2.1, Ti f1.2.2])]⟩) ?_ ?_
  ·refine XR 1 ?_
   refine XC (s_impl_indexMatrices hy3) cf_impl_indexMatrices rfl rfl rfl ?_
   refine L0 rfl rfl (Y0_lenM (c := c31) (xs := y3) Tryz.underlying158 rfl (by kernel_rfl)) ?_
   exact XE
  obtain ⟨o7, hLo7, h⟩ := of_bind h
  refine V_toK (mb 24 32) [64] (s1 := ⟨bt 5 (.ow 64 :: bt 18 []), [(64, .arr 25 3 (o7.map c25))]⟩) ?_ ?_
  ·clear h
   refine V_block (V_loop (fun n s => ∃ (t4 : Int) (l5 : List ((Int × Int × Int))), s.keep (mb 24 7204) [80, 64, 16] = (⟨.bot :: .bot :: .pt 16 0 :: .bot :: .bot :: .ow 64 :: bt 4 (.ow 80 :: I ((y3.length : Int)) :: I t4 :: bt 11 []), [(80, .arr 31 4 (y3.map c31)), (64, .arr 25 3 (l5.map c25)), (16, .box [Ti f1.1, Ti f1.2.1, Ti f1.2.2])]⟩ : St) ∧ r_impl_sublatticeForms_L6 f1 y3 n t4 l5 = some o7) FU ⟨_, _,  by rfl, hLo7⟩ ?_)
   clear hLo7
   rintro n s ⟨t4, l5, hs, h⟩
   refine V_keep _ _ hs ?_
   clear hs
   cases n with
   | zero => cases h
   | succ n =>
    rw [r_impl_sublatticeForms_L6] at h
    refine V_e (mb 24 15396) [80, 64, 16] (s1 := ⟨.bot :: .bot :: .pt 16 0 :: .bot :: .bot :: .ow 64 :: bt 4 (.ow 80 :: I ((y3.length : Int)) :: I t4 :: Bo (ltI t4 ((y3.length : Int))) :: bt 10 []), [(80, .arr 31 4 (y3.map c31)), (64, .arr 25 3 (l5.map c25)), (16, .box [Ti f1.1, Ti f1.2.1, Ti f1.2.2])]⟩) ?_
    refine V_seq ?_
    refine V_cond rfl (fun hc8 => ?_) (fun hc8 => ?_)
    ·have h := of_true h hc8
     refine V_skip ?_
     show V _ _ _ _
     refine V_seq ?_
     refine V_block ?_
     obtain ⟨e9, he9, h⟩ := of_bind h
     obtain ⟨e10, he10, h⟩ := of_bind h
     refine V_sreg (mb 24 7332) [56, 80, 64, 16] (s1 := ⟨.bot :: .bot :: .pt 16 0 :: .bot :: .bot :: .ow 64 :: .bot :: .pt 56 0 :: .bot :: .bot :: .ow 80 :: I ((y3.length : Int)) :: I t4 :: bt 11 [], [(56, .box [Ti e10.1, Ti e10.2.1, Ti e10.2.2.1, Ti e10.2.2.2]), (80, .arr 31 4 (y3.map c31)), (64, .arr 25 3 (l5.map c25)), (16, .box [Ti f1.1, Ti f1.2.1, Ti f1.2.2])]⟩) ?_ ?_
     ·refine L0 rfl rfl (Y0_idxoM (c := c31) (xs := y3) (v := e9) (id := 80) (T := 31) (sz := 4) (n := t4) Tryz.underlying158 sz31 rfl (by kernel_rfl) (by kernel_rfl) (by kernel_rfl) he9) ?_
      refine L0 rfl rfl (E_loadon (c := c31) (xs := y3) (v := e10) (id := 80) (sz := 4) (T := 31) (off := 0) (n := t4) [Ti e10.1, Ti e10.2.1, Ti e10.2.2.1, Ti e10.2.2.2] wd31 rfl (by kernel_rfl) (by kernel_rfl) he10 (Nat.le_of_ble_eq_true rfl) (by kernel_rfl)) ?_
      exact XE
     obtain ⟨y11, hy11, h⟩ := of_bind h
     obtain ⟨u12, hu12, h⟩ := of_bind h
     refine V_reg (mb 24 7204) [80, 64, 16] (s1 := ⟨.bot :: .bot :: .pt 16 0 :: .bot :: .bot :: .ow 64 :: bt 4 (.ow 80 :: I ((y3.length : Int)) :: I t4 :: bt 11 []), [(80, .arr 31 4 (y3.map c31)), (64, .arr 25 3 ((l5 ++ ([y11])).map c25)), (16, .box [Ti f1.1, Ti f1.2.1, Ti f1.2.2])]⟩) ?_ ?_
     ·refine XR 3 ?_
      refine XC (s_impl_Form_substitute hy11) cf_impl_Form_substitute rfl rfl rfl ?_
      refine L1 rfl rfl (Y1_bslice (z := zv25) (els := [y11].map c25) Tryz.underlying38 iz25 rfl (by decide) rfl (by kernel_rfl) rfl (by simp [c25]) (by decide) (by decide)) ?_
      refine XL_cons rfl (X_appendM (c := c25) (xs := l5) (ys := [y11]) (id := 64) (z := zv25) rfl rfl Tryz.underlying38 izb25 rfl (by kernel_rfl) (by kernel_rfl) (by kernel_rfl) (fun _ => rfl) (by simp) (room_some hu12) (by decide)) ?_
      exact XE
     show V _ _ _ _
     obtain ⟨t13, ht13, h⟩ := of_sI h
     refine V_reg (mb 24 7204) [80, 64, 16] (s1 := ⟨.bot :: .bot :: .pt 16 0 :: .bot :: .bot :: .ow 64 :: bt 4 (.ow 80 :: I ((y3.length : Int)) :: I t13 :: bt 11 []), [(80, .arr 31 4 (y3.map c31)), (64, .arr 25 3 ((l5 ++ ([y11])).map c25)), (16, .box [Ti f1.1, Ti f1.2.1, Ti f1.2.2])]⟩) ?_ ?_
     ·refine XR 2 ?_
      refine XL_nil ?_
      subst ht13
      kernel_rfl
     exact ⟨n, Nat.lt_succ_self n, _, _,  by rfl, h⟩
    ·have h := of_false h hc8
     refine V_exit ?_
     obtain rfl := some_inj h
     show St.keep _ _ _ = _
     rfl
  show V _ _ _ _
  refine V_e (mb 24 16) [64] (s1 := ⟨bt 4 (.ow 64 :: bt 19 []), [(64, .arr 25 3 (o7.map c25))]⟩) ?_
  refine V_ret ?_
  obtain rfl := some_inj h
  show Post _ _ _ _ _
  exact ⟨.inr rfl, rfl, rfl, rfl⟩
theorem cf_impl_sublatticeClasses : ∀ args w, (callFunc 100 args).run Tryz.prog w = .ok (.enter 100 args) w := run_callFunc Tryz.func100 (by kernel_rfl) (by kernel_rfl)
theorem s_impl_sublatticeClasses {f1 : (Int × Int × Int)} {p2 : Int} {r : List ((Int × Int × Int))} (h : r_impl_sublatticeClasses f1 p2 = some r) : CallS Tryz.prog 100 [.ag [Ti f1.1, Ti f1.2.1, Ti f1.2.2], I p2] (.ow 0) [(0, .arr 25 3 (r.map c25))] := by
  refine CallS_of_text (rs := [.t 4]) (vs := [.tmp 4]) Tryz.func100 rfl rfl (.cons rfl FitsL.nil) (by decide) 24 rfl ?_
  unfold r_impl_sublatticeClasses at h
  show V _ _ ⟨.ag [Ti f1.1, Ti f1.2.1, Ti f1.2.2] :: I p2 :: bt 22 [], []⟩ _
  refine V_sreg (mb 24 6) [16] (s1 := ⟨.bot :: I p2 :: .pt 16 0 :: bt 21 [], [(16, .box [Ti f1.1, Ti f1.2.1, Ti f1.2.2])]⟩) ?_ ?_
  ·refine XR 1 ?_
   refine L1 rfl rfl (Y1_nil (e := 25) 3 (by decide) (.inl rfl)) ?_
   exact XE
  refine V_sreg (mb 24 38) [64, 16] (s1 := ⟨.bot :: I p2 :: .pt 16 0 :: .bot :: .bot :: .ow 64 :: bt 18 [], [(64, .arr 25 3 ((([] : List ((Int × Int × Int)))).map c25)), (16, .box [Ti f1.1, Ti f1.2.1, Ti f1.2.2])]⟩) ?_ ?_
  ·refine L1 rfl rfl (Y1_bslice0 Tryz.underlying38 sz25 (by decide) rfl rfl) ?_
   exact XE
  refine V_seq ?_
  obtain ⟨y3, hy3, h⟩ := of_bind h
  refine V_sreg (mb 24 14368) [88, 64] (s1 := ⟨bt 5 (.ow 64 :: bt 5 (.ow 88 :: I ((y3.length : Int)) :: I 0 :: bt 10 [])), [(88, .arr 25 3 (y3.map c25)), (64, .arr 25 3 ((([] : List ((Int × Int × Int)))).map c25))]⟩) ?_ ?_
  ·refine XR 2 ?_
   refine XC (s_impl_sublatticeForms hy3) cf_impl_sublatticeForms rfl rfl rfl ?_
   refine L0 rfl rfl (Y0_lenM (c := c25) (xs := y3) Tryz.underlying38 rfl (by kernel_rfl)) ?_
   exact XE
  obtain ⟨o7, hLo7, h⟩ := of_bind h
  refine V_toK (mb 24 32) [64] (s1 := ⟨bt 5 (.ow 64 :: bt 18 []), [(64, .arr 25 3 (o7.map c25))]⟩) ?_ ?_
  ·clear h
   refine V_block (V_loop (fun n s => ∃ (t4 : Int) (l5 : List ((Int × Int × Int))), s.keep (mb 24 14368) [88, 64] = (⟨bt 5 (.ow 64 :: bt 5 (.ow 88 :: I ((y3.length : Int)) :: I t4 :: bt 10 [])), [(88, .arr 25 3 (y3.map c25)), (64, .arr 25 3 (l5.map c25))]⟩ : St) ∧ r_impl_sublatticeClasses_L6 y3 n t4 l5 = some o7) FU ⟨_, _,  by rfl, hLo7⟩ ?_)
   clear hLo7
   rintro n s ⟨t4, l5, hs, h⟩
   refine V_keep _ _ hs ?_
   clear hs
   cases n with
   | zero => cases h
   | succ n =>
    rw [r_impl_sublatticeClasses_L6] at h
    refine V_e (mb 24 30752) [88, 64] (s1 := ⟨bt 5 (.ow 64 :: bt 5 (.ow 88 :: I ((y3.length : Int)) :: I t4 :: Bo (ltI t4 ((y3.length : Int))) :: bt 9 [])), [(88, .arr 25 3 (y3.map c25)), (64, .arr 25 3 (l5.map c25))]⟩) ?_
    refine V_seq ?_
    refine V_cond rfl (fun hc8 => ?_) (fun hc8 => ?_)
    ·have h := of_true h hc8
     refine V_skip ?_
     show V _ _ _ _
     refine V_seq ?_
     refine V_block ?_
     obtain ⟨e9, he9, h⟩ := of_bind h
     obtain ⟨e10, he10, h⟩ := of_bind h
     refine V_sreg (mb 24 14496) [56, 88, 64] (s1 := ⟨bt 5 (.ow 64 :: .bot :: .pt 56 0 :: bt 3 (.ow 88 :: I ((y3.length : Int)) :: I t4 :: bt 10 [])), [(56, .box [Ti e10.1, Ti e10.2.1, Ti e10.2.2]), (88, .arr 25 3 (y3.map c25)), (64, .arr 25 3 (l5.map c25))]⟩) ?_ ?_
     ·refine L0 rfl rfl (Y0_idxoM (c := c25) (xs := y3) (v := e9) (id := 88) (T := 25) (sz := 3) (n := t4) Tryz.underlying38 sz25 rfl (by kernel_rfl) (by kernel_rfl) (by kernel_rfl) he9) ?_
      refine L0 rfl rfl (E_loadon (c := c25) (xs := y3) (v := e10) (id := 88) (sz := 3) (T := 25) (off := 0) (n := t4) [Ti e10.1, Ti e10.2.1, Ti e10.2.2] wd25 rfl (by kernel_rfl) (by kernel_rfl) he10 (Nat.le_of_ble_eq_true rfl) (by kernel_rfl)) ?_
      exact XE
     obtain ⟨y11, hy11, h⟩ := of_bind h
     obtain ⟨u12, hu12, h⟩ := of_bind h
     refine V_reg (mb 24 14368) [88, 64] (s1 := ⟨bt 5 (.ow 64 :: bt 5 (.ow 88 :: I ((y3.length : Int)) :: I t4 :: bt 10 [])), [(88, .arr 25 3 (y3.map c25)), (64, .arr 25 3 ((l5 ++ ([y11])).map c25))]⟩) ?_ ?_
     ·refine XR 2 ?_
      refine XC (s_impl_reduced hy11) cf_impl_reduced rfl rfl rfl ?_
      refine L1 rfl rfl (Y1_bslice (z := zv25) (els := [y11].map c25) Tryz.underlying38 iz25 rfl (by decide) rfl (by kernel_rfl) rfl (by simp [c25]) (by decide) (by decide)) ?_
      refine XL_cons rfl (X_appendM (c := c25) (xs := l5) (ys := [y11]) (id := 64) (z := zv25) rfl rfl Tryz.underlying38 izb25 rfl (by kernel_rfl) (by kernel_rfl) (by kernel_rfl) (fun _ => rfl) (by simp) (room_some hu12) (by decide)) ?_
      exact XE
     show V _ _ _ _
     obtain ⟨t13, ht13, h⟩ := of_sI h
     refine V_reg (mb 24 14368) [88, 64] (s1 := ⟨bt 5 (.ow 64 :: bt 5 (.ow 88 :: I ((y3.length : Int)) :: I t13 :: bt 10 [])), [(88, .arr 25 3 (y3.map c25)), (64, .arr 25 3 ((l5 ++ ([y11])).map c25))]⟩) ?_ ?_
     ·refine XR 2 ?_
      refine XL_nil ?_
      subst ht13
      kernel_rfl
     exact ⟨n, Nat.lt_succ_self n, _, _,  by rfl, h⟩
    ·have h := of_false h hc8
     refine V_exit ?_
     obtain rfl := some_inj h
     show St.keep _ _ _ = _
     rfl
  show V _ _ _ _
  refine V_e (mb 24 16) [64] (s1 := ⟨bt 4 (.ow 64 :: bt 19 []), [(64, .arr 25 3 (o7.map c25))]⟩) ?_
  refine V_ret ?_
  obtain rfl := some_inj h
  show Post _ _ _ _ _
  exact ⟨.inr rfl, rfl, rfl, rfl⟩
theorem cf_impl_SublatticeClasses : ∀ args w, (callFunc 31 args).run Tryz.prog w = .ok (.enter 31 args) w := run_callFunc Tryz.func31 (by kernel_rfl) (by kernel_rfl)
theorem s_impl_SublatticeClasses {f1 : (Int × Int × Int)} {p2 : Int} {r : ((List ((Int × Int × Int))) × Bool)} (h : r_impl_SublatticeClasses f1 p2 = some r) : CallS Tryz.prog 31 [.ag [Ti f1.1, Ti f1.2.1, Ti f1.2.2], I p2] (.tc (.ow 0) (.tc (Bo r.2) .tn)) [(0, .arr 25 3 (r.1.map c25))] := by
  refine CallS_of_text (rs := [.t 4, .t 5]) (vs := [.tmp 4, .tmp 5]) Tryz.func31 rfl rfl (.cons rfl (.cons rfl FitsL.nil)) (by decide) 19 rfl ?_
  unfold r_impl_SublatticeClasses at h
  show V _ _ ⟨.ag [Ti f1.1, Ti f1.2.1, Ti f1.2.2] :: I p2 :: bt 17 [], []⟩ _
  refine V_sreg (mb 19 6) [16] (s1 := ⟨.bot :: I p2 :: .pt 16 0 :: bt 16 [], [(16, .box [Ti f1.1, Ti f1.2.1, Ti f1.2.2])]⟩) ?_ ?_
  ·refine XR 1 ?_
   refine L1 rfl rfl (Y1_nil (e := 25) 3 (by decide) (.inl rfl)) ?_
   exact XE
  refine V_seq ?_
  obtain ⟨y3, hy3, h⟩ := of_bind h
  obtain ⟨b6, hb6, h⟩ := of_bind h
  refine V_sreg (mb 19 8198) [16] (s1 := ⟨.bot :: I p2 :: .pt 16 0 :: bt 10 (Bo b6 :: bt 5 []), [(16, .box [Ti f1.1, Ti f1.2.1, Ti f1.2.2])]⟩) ?_ ?_
  ·refine XR 1 ?_
   refine XC (s_impl_isClassForm hy3) cf_impl_isClassForm rfl rfl rfl ?_
   refine XR 2 ?_
   refine XL_split (!y3) (fun hc4 => ?_) (fun hc4 => ?_)
   ·have hb6 := some_inj (of_true hb6 hc4)
    refine XL_skipF _ rfl rfl (by kernel_rfl) hc4 rfl ?_
    refine XL_skipF _ rfl rfl (by kernel_rfl) hc4 rfl ?_
    refine XL_skipF _ rfl rfl (by kernel_rfl) hc4 rfl ?_
    refine XL_cons rfl (X_of_Y0 rfl (Y0_pickTe (b := !y3) (p := true) rfl (by kernel_rfl) hc4 (by kernel_rfl) hb6)) ?_
    exact XE
   ·have hb6 := of_false hb6 hc4
    obtain ⟨y5, hy5, hb6⟩ := of_bind hb6
    have hb6 := some_inj hb6
    refine XL_takeC _ rfl rfl (by kernel_rfl) hc4 (X_of_Y0 rfl (E_move (I p2) rfl (by kernel_rfl))) ?_
    refine XL_takeC _ rfl rfl (by kernel_rfl) hc4 (X_of_Y1 rfl (Y1_call (s_impl_isIndex hy5) cf_impl_isIndex rfl (by kernel_rfl))) ?_
    refine XL_takeC _ rfl rfl (by kernel_rfl) hc4 (X_of_Y0 rfl (Y0_not (b := y5) rfl (by kernel_rfl))) ?_
    refine XL_cons rfl (X_of_Y0 rfl (Y0_pickFe (b := !y3) (p := !y5) rfl (by kernel_rfl) hc4 (by kernel_rfl) hb6)) ?_
    exact XE
  refine V_cond rfl (fun hc7 => ?_) (fun hc7 => ?_)
  ·have h := of_true h hc7
   refine V_sreg (mb 19 48) [112] (s1 := ⟨bt 4 (.ow 112 :: Bo false :: bt 13 []), [(112, .arr 25 3 ((([] : List ((Int × Int × Int)))).map c25))]⟩) ?_ ?_
   ·refine L1 rfl rfl (Y1_bslice0 Tryz.underlying38 sz25 (by decide) rfl rfl) ?_
    exact XE
   refine V_ret ?_
   obtain rfl := some_inj h
   show Post _ _ _ _ _
   exact ⟨.inr rfl, rfl, rfl, rfl⟩
  ·have h := of_false h hc7
   refine V_skip ?_
   show V _ _ _ _
   obtain ⟨y8, hy8, h⟩ := of_bind h
   obtain ⟨y9, hy9, h⟩ := of_bind h
   refine V_sreg (mb 19 48) [144] (s1 := ⟨bt 4 (.ow 144 :: Bo true :: bt 13 []), [(144, .arr 25 3 (y9.map c25))]⟩) ?_ ?_
   ·refine XR 1 ?_
    refine XC (s_impl_reduced hy8) cf_impl_reduced rfl rfl rfl ?_
    refine XR 1 ?_
    refine XC (s_impl_sublatticeClasses hy9) cf_impl_sublatticeClasses rfl rfl rfl ?_
    exact XE
   refine V_ret ?_
   obtain rfl := some_inj h
   show Post _ _ _ _ _
   exact ⟨.inr rfl, rfl, rfl, rfl⟩
theorem cf_spec_foDefinite : ∀ args w, (callFunc 228 args).run Tryz.prog w = .ok (.enter 228 args) w := run_callFunc Tryz.func228 (by kernel_rfl) (by kernel_rfl)
theorem s_spec_foDefinite {f1 : (Int × Int × Int)} {r : Bool} (h : r_spec_foDefinite f1 = some r) : CallS Tryz.prog 228 [.ag [Ti f1.1, Ti f1.2.1, Ti f1.2.2]] (Bo r) [] := by
  refine CallS_of_text (rs := [.t 2]) (vs := [.tmp 2]) Tryz.func228 rfl rfl (.cons rfl FitsL.nil) (by decide) 15 rfl ?_
  unfold r_spec_foDefinite at h
  show V _ _ ⟨.ag [Ti f1.1, Ti f1.2.1, Ti f1.2.2] :: bt 14 [], []⟩ _
  refine V_e (mb 15 2) [8] (s1 := ⟨.bot :: .pt 8 0 :: bt 13 [], [(8, .box [Ti f1.1, Ti f1.2.1, Ti f1.2.2])]⟩) ?_
  obtain ⟨y2, hy2, h⟩ := of_bind h
  obtain ⟨b5, hb5, h⟩ := of_bind h
  refine V_sreg (mb 15 4) [] (s1 := ⟨.bot :: .bot :: Bo (bif b5 then (ltI 0 f1.1) else false) :: bt 12 [], []⟩) ?_ ?_
  ·refine XR 1 ?_
   refine XC (s_spec_foGood hy2) cf_spec_foGood rfl rfl rfl ?_
   refine XR 1 ?_
   refine XL_split y2 (fun hc3 => ?_) (fun hc3 => ?_)
   ·have hb5 := of_true hb5 hc3
    obtain ⟨y4, hy4, hb5⟩ := of_bind hb5
    have hb5 := some_inj hb5
    refine XL_takeC _ rfl rfl (by kernel_rfl) hc3 (X_of_Y0 rfl (E_loadn (cs := [Ti f1.1, Ti f1.2.1, Ti f1.2.2]) [Ti f1.1, Ti f1.2.1, Ti f1.2.2] wd25 rfl (by kernel_rfl) (Nat.le_of_ble_eq_true rfl) (by kernel_rfl))) ?_
    refine XL_takeC _ rfl rfl (by kernel_rfl) hc3 (X_of_Y1 rfl (Y1_call (s_spec_foDisc hy4) cf_spec_foDisc rfl (by kernel_rfl))) ?_
    refine XL_takeC _ rfl rfl (by kernel_rfl) hc3 (X_of_Y0 rfl (Y0_ltw (k := .i64) (a := y4) (b := 0) rfl (by kernel_rfl) (by kernel_rfl))) ?_
    refine XL_cons rfl (X_of_Y0 rfl (Y0_pickTe (b := y2) (p := ltI y4 0) rfl (by kernel_rfl) hc3 (by kernel_rfl) hb5)) ?_
    refine XR 1 ?_
    refine XL_split b5 (fun hc6 => ?_) (fun hc6 => ?_)
    ·refine XL_takeC _ rfl rfl (by kernel_rfl) hc6 (X_of_Y0 rfl (E_field (.pt 8 0) Tryz.underlying25 rfl sz3 rfl (by kernel_rfl) (by intro hh; cases hh))) ?_
     refine XL_takeC _ rfl rfl (by kernel_rfl) hc6 (X_of_Y0 rfl (Y0_load1 (c := Ti f1.1) (cs := [Ti f1.2.1, Ti f1.2.2]) sc3 rfl (by kernel_rfl))) ?_
     refine XL_takeC _ rfl rfl (by kernel_rfl) hc6 (X_of_Y0 rfl (Y0_gtw (k := .i64) (a := f1.1) (b := 0) rfl (by kernel_rfl) (by kernel_rfl))) ?_
     refine XL_cons rfl (X_of_Y0 rfl (Y0_pick1 (b := b5) (p := ltI 0 f1.1) (q := false) rfl (by kernel_rfl) hc6 (by kernel_rfl))) ?_
     exact XE
    ·refine XL_skipT _ rfl rfl (by kernel_rfl) hc6 rfl ?_
     refine XL_skipT _ rfl rfl (by kernel_rfl) hc6 rfl ?_
     refine XL_skipT _ rfl rfl (by kernel_rfl) hc6 rfl ?_
     refine XL_cons rfl (X_of_Y0 rfl (Y0_pick0 (b := b5) (p := ltI 0 f1.1) (q := false) rfl (by kernel_rfl) hc6 (by kernel_rfl))) ?_
     exact XE
   ·have hb5 := some_inj (of_false hb5 hc3)
    refine XL_skipT _ rfl rfl (by kernel_rfl) hc3 rfl ?_
    refine XL_skipT _ rfl rfl (by kernel_rfl) hc3 rfl ?_
    refine XL_skipT _ rfl rfl (by kernel_rfl) hc3 rfl ?_
    refine XL_cons rfl (X_of_Y0 rfl (Y0_pickFe (b := y2) (p := false) rfl (by kernel_rfl) hc3 (by kernel_rfl) hb5)) ?_
    refine XR 1 ?_
    refine XL_split b5 (fun hc6 => ?_) (fun hc6 => ?_)
    ·refine XL_takeC _ rfl rfl (by kernel_rfl) hc6 (X_of_Y0 rfl (E_field (.pt 8 0) Tryz.underlying25 rfl sz3 rfl (by kernel_rfl) (by intro hh; cases hh))) ?_
     refine XL_takeC _ rfl rfl (by kernel_rfl) hc6 (X_of_Y0 rfl (Y0_load1 (c := Ti f1.1) (cs := [Ti f1.2.1, Ti f1.2.2]) sc3 rfl (by kernel_rfl))) ?_
     refine XL_takeC _ rfl rfl (by kernel_rfl) hc6 (X_of_Y0 rfl (Y0_gtw (k := .i64) (a := f1.1) (b := 0) rfl (by kernel_rfl) (by kernel_rfl))) ?_
     refine XL_cons rfl (X_of_Y0 rfl (Y0_pick1 (b := b5) (p := ltI 0 f1.1) (q := false) rfl (by kernel_rfl) hc6 (by kernel_rfl))) ?_
     exact XE
    ·refine XL_skipT _ rfl rfl (by kernel_rfl) hc6 rfl ?_
     refine XL_skipT _ rfl rfl (by kernel_rfl) hc6 rfl ?_
     refine XL_skipT _ rfl rfl (by kernel_rfl) hc6 rfl ?_
     refine XL_cons rfl (X_of_Y0 rfl (Y0_pick0 (b := b5) (p := ltI 0 f1.1) (q := false) rfl (by kernel_rfl) hc6 (by kernel_rfl))) ?_
     exact XE
  refine V_ret ?_
  obtain rfl := some_inj h
  show Post _ _ _ _ _
  exact ⟨.inr rfl, rfl, rfl, rfl⟩
theorem cf_spec_vaForm : ∀ args w, (callFunc 189 args).run Tryz.prog w = .ok (.enter 189 args) w := run_callFunc Tryz.func189 (by kernel_rfl) (by kernel_rfl)
theorem s_spec_vaForm {f1 : (Int × Int × Int)} {r : Bool} (h : r_spec_vaForm f1 = some r) : CallS Tryz.prog 189 [.ag [Ti f1.1, Ti f1.2.1, Ti f1.2.2]] (Bo r) [] := by
  refine CallS_of_text (rs := [.t 2]) (vs := [.tmp 2]) Tryz.func189 rfl rfl (.cons rfl FitsL.nil) (by decide) 10 rfl ?_
  unfold r_spec_vaForm at h
  show V _ _ ⟨.ag [Ti f1.1, Ti f1.2.1, Ti f1.2.2] :: bt 9 [], []⟩ _
  refine V_e (mb 10 2) [8] (s1 := ⟨.bot :: .pt 8 0 :: bt 8 [], [(8, .box [Ti f1.1, Ti f1.2.1, Ti f1.2.2])]⟩) ?_
  obtain ⟨y2, hy2, h⟩ := of_bind h
  obtain ⟨b5, hb5, h⟩ := of_bind h
  refine V_sreg (mb 10 4) [] (s1 := ⟨.bot :: .bot :: Bo b5 :: bt 7 [], []⟩) ?_ ?_
  ·refine XR 1 ?_
   refine XC (s_spec_foDefinite hy2) cf_spec_foDefinite rfl rfl rfl ?_
   refine XR 1 ?_
   refine XL_split y2 (fun hc3 => ?_) (fun hc3 => ?_)
   ·have hb5 := of_true hb5 hc3
    obtain ⟨y4, hy4, hb5⟩ := of_bind hb5
    have hb5 := some_inj hb5
    refine XL_takeC _ rfl rfl (by kernel_rfl) hc3 (X_of_Y0 rfl (E_loadn (cs := [Ti f1.1, Ti f1.2.1, Ti f1.2.2]) [Ti f1.1, Ti f1.2.1, Ti f1.2.2] wd25 rfl (by kernel_rfl) (Nat.le_of_ble_eq_true rfl) (by kernel_rfl))) ?_
    refine XL_takeC _ rfl rfl (by kernel_rfl) hc3 (X_of_Y1 rfl (Y1_call (s_spec_foDisc hy4) cf_spec_foDisc rfl (by kernel_rfl))) ?_
    refine XL_takeC _ rfl rfl (by kernel_rfl) hc3 (X_of_Y0 rfl (Y0_gew (k := .i64) (a := y4) (b := -2000) rfl (by kernel_rfl) (by kernel_rfl))) ?_
    refine XL_cons rfl (X_of_Y0 rfl (Y0_pickTe (b := y2) (p := leI (-2000) y4) rfl (by kernel_rfl) hc3 (by kernel_rfl) hb5)) ?_
    exact XE
   ·have hb5 := some_inj (of_false hb5 hc3)
    refine XL_skipT _ rfl rfl (by kernel_rfl) hc3 rfl ?_
    refine XL_skipT _ rfl rfl (by kernel_rfl) hc3 rfl ?_
    refine XL_skipT _ rfl rfl (by kernel_rfl) hc3 rfl ?_
    refine XL_cons rfl (X_of_Y0 rfl (Y0_pickFe (b := y2) (p := false) rfl (by kernel_rfl) hc3 (by kernel_rfl) hb5)) ?_
    exact XE
  refine V_ret ?_
  obtain rfl := some_inj h
  show Post _ _ _ _ _
  exact ⟨.inr rfl, rfl, rfl, rfl⟩
theorem cf_spec_coGood : ∀ args w, (callFunc 101 args).run Tryz.prog w = .ok (.enter 101 args) w := run_callFunc Tryz.func101 (by kernel_rfl) (by kernel_rfl)
theorem s_spec_coGood {f1 : (Int × Int × Int)} {r : Bool} (h : r_spec_coGood f1 = some r) : CallS Tryz.prog 101 [.ag [Ti f1.1, Ti f1.2.1, Ti f1.2.2]] (Bo r) [] := by
  refine CallS_of_text (rs := [.t 2]) (vs := [.tmp 2]) Tryz.func101 rfl rfl (.cons rfl FitsL.nil) (by decide) 10 rfl ?_
  unfold r_spec_coGood at h
  show V _ _ ⟨.ag [Ti f1.1, Ti f1.2.1, Ti f1.2.2] :: bt 9 [], []⟩ _
  refine V_e (mb 10 2) [8] (s1 := ⟨.bot :: .pt 8 0 :: bt 8 [], [(8, .box [Ti f1.1, Ti f1.2.1, Ti f1.2.2])]⟩) ?_
  obtain ⟨y2, hy2, h⟩ := of_bind h
  obtain ⟨b5, hb5, h⟩ := of_bind h
  refine V_sreg (mb 10 4) [] (s1 := ⟨.bot :: .bot :: Bo b5 :: bt 7 [], []⟩) ?_ ?_
  ·refine XR 1 ?_
   refine XC (s_spec_vaForm hy2) cf_spec_vaForm rfl rfl rfl ?_
   refine XR 1 ?_
   refine XL_split y2 (fun hc3 => ?_) (fun hc3 => ?_)
   ·have hb5 := of_true hb5 hc3
    obtain ⟨y4, hy4, hb5⟩ := of_bind hb5
    have hb5 := some_inj hb5
    refine XL_takeC _ rfl rfl (by kernel_rfl) hc3 (X_of_Y0 rfl (E_loadn (cs := [Ti f1.1, Ti f1.2.1, Ti f1.2.2]) [Ti f1.1, Ti f1.2.1, Ti f1.2.2] wd25 rfl (by kernel_rfl) (Nat.le_of_ble_eq_true rfl) (by kernel_rfl))) ?_
    refine XL_takeC _ rfl rfl (by kernel_rfl) hc3 (X_of_Y1 rfl (Y1_call (s_spec_foContent hy4) cf_spec_foContent rfl (by kernel_rfl))) ?_
    refine XL_takeC _ rfl rfl (by kernel_rfl) hc3 (X_of_Y0 rfl (Y0_eqw (k := .i64) (a := y4) (b := 1) rfl (by kernel_rfl) (by kernel_rfl))) ?_
    refine XL_cons rfl (X_of_Y0 rfl (Y0_pickTe (b := y2) (p := eqI y4 1) rfl (by kernel_rfl) hc3 (by kernel_rfl) hb5)) ?_
    exact XE
   ·have hb5 := some_inj (of_false hb5 hc3)
    refine XL_skipT _ rfl rfl (by kernel_rfl) hc3 rfl ?_
    refine XL_skipT _ rfl rfl (by kernel_rfl) hc3 rfl ?_
    refine XL_skipT _ rfl rfl (by kernel_rfl) hc3 rfl ?_
    refine XL_cons rfl (X_of_Y0 rfl (Y0_pickFe (b := y2) (p := false) rfl (by kernel_rfl) hc3 (by kernel_rfl) hb5)) ?_
    exact XE
  refine V_ret ?_
  obtain rfl := some_inj h
  show Post _ _ _ _ _
  exact ⟨.inr rfl, rfl, rfl, rfl⟩
theorem cf_spec_nuPrime : ∀ args w, (callFunc 179 args).run Tryz.prog w = .ok (.enter 179 args) w := run_callFunc Tryz.func179 (by kernel_rfl) (by kernel_rfl)
theorem s_spec_nuPrime {vn1 : Int} {r : Bool} (h : r_spec_nuPrime vn1 = some r) : CallS Tryz.prog 179 [I vn1] (Bo r) [] := by
  refine CallS_of_text (rs := [.t 2]) (vs := [.tmp 2]) Tryz.func179 rfl rfl (.cons rfl FitsL.nil) (by decide) 17 rfl ?_
  unfold r_spec_nuPrime at h
  show V _ _ ⟨I vn1 :: bt 16 [], []⟩ _
  refine V_e (mb 17 1) [] (s1 := ⟨I vn1 :: bt 16 [], []⟩) ?_
  refine V_seq ?_
  refine V_e (mb 17 33) [] (s1 := ⟨I vn1 :: bt 4 (Bo (ltI vn1 2) :: bt 11 []), []⟩) ?_
  refine V_cond rfl (fun hc2 => ?_) (fun hc2 => ?_)
  ·have h := of_true h hc2
   refine V_e (mb 17 4) [] (s1 := ⟨.bot :: .bot :: Bo false :: bt 14 [], []⟩) ?_
   refine V_ret ?_
   obtain rfl := some_inj h
   show Post _ _ _ _ _
   exact ⟨.inr rfl, rfl, rfl, rfl⟩
  ·have h := of_false h hc2
   refine V_skip ?_
   show V _ _ _ _
   refine V_seq ?_
   refine V_e (mb 17 9) [] (s1 := ⟨I vn1 :: .bot :: .bot :: I 2 :: bt 13 [], []⟩) ?_
   obtain ⟨qo5, hLo5, hko5⟩ := of_bind h
   refine V_toS (q := qo5) (S := fun o5 => ⟨bt 17 [], []⟩) (mb 17 0) [] ?_ ?_
   ·refine V_block (V_loop (fun n s => ∃ (d3 : Int), s.keep (mb 17 9) [] = (⟨I vn1 :: .bot :: .bot :: I d3 :: bt 13 [], []⟩ : St) ∧ r_spec_nuPrime_L4 vn1 n d3 = some qo5) FU ⟨_,  by rfl, hLo5⟩ ?_)
    clear hLo5
    rintro n s ⟨d3, hs, h⟩
    refine V_keep _ _ hs ?_
    clear hs
    cases n with
    | zero => cases h
    | succ n =>
     rw [r_spec_nuPrime_L4] at h
     refine V_seq ?_
     refine V_e (mb 17 1033) [] (s1 := ⟨I vn1 :: .bot :: .bot :: I d3 :: bt 6 (Bo (leI (w64 (d3 * d3)) vn1) :: bt 6 []), []⟩) ?_
     refine V_cond rfl (fun hc6 => ?_) (fun hc6 => ?_)
     ·have h := of_true h hc6
      refine V_skip ?_
      show V _ _ _ _
      refine V_seq ?_
      refine V_block ?_
      obtain ⟨z7, hz7, h⟩ := of_bind h
      refine V_sreg (mb 17 65545) [] (s1 := ⟨I vn1 :: .bot :: .bot :: I d3 :: bt 12 (Bo (eqI (Int.tmod vn1 d3) 0) :: []), []⟩) ?_ ?_
      ·refine XR 2 ?_
       refine L0 rfl rfl (Y0_rem (k := .i64) (a := vn1) (b := d3) rfl (by kernel_rfl) (by kernel_rfl) (nz_some hz7)) ?_
       exact XE
      refine V_cond rfl (fun hc8 => ?_) (fun hc8 => ?_)
      ·have h := of_true h hc8
       refine V_e (mb 17 4) [] (s1 := ⟨.bot :: .bot :: Bo false :: bt 14 [], []⟩) ?_
       refine V_ret ?_
       obtain rfl := some_inj h
       have h := hko5
       obtain rfl := some_inj h
       show Post _ _ _ _ _
       exact ⟨.inr rfl, rfl, rfl, rfl⟩
      ·have h := of_false h hc8
       refine V_skip ?_
       show V _ _ _ _
       obtain ⟨d9, hd9, h⟩ := of_sI h
       refine V_reg (mb 17 9) [] (s1 := ⟨I vn1 :: .bot :: .bot :: I d9 :: bt 13 [], []⟩) ?_ ?_
       ·refine XR 3 ?_
        refine XL_nil ?_
        subst hd9
        kernel_rfl
       exact ⟨n, Nat.lt_succ_self n, _,  by rfl, h⟩
     ·have h := of_false h hc6
      refine V_exit ?_
      obtain rfl := some_inj h
      exact ⟨_, rfl, by rfl⟩
   rintro o5 rfl
   have h := hko5
   clear hko5
   show V _ _ _ _
   refine V_e (mb 17 4) [] (s1 := ⟨.bot :: .bot :: Bo true :: bt 14 [], []⟩) ?_
   refine V_ret ?_
   obtain rfl := some_inj h
   show Post _ _ _ _ _
   exact ⟨.inr rfl, rfl, rfl, rfl⟩
theorem cf_spec_hkPrime : ∀ args w, (callFunc 89 args).run Tryz.prog w = .ok (.enter 89 args) w := run_callFunc Tryz.func89 (by kernel_rfl) (by kernel_rfl)
theorem s_spec_hkPrime {p1 : Int} {r : Bool} (h : r_spec_hkPrime p1 = some r) : CallS Tryz.prog 89 [I p1] (Bo r) [] := by
  refine CallS_of_text (rs := [.t 2]) (vs := [.tmp 2]) Tryz.func89 rfl rfl (.cons rfl FitsL.nil) (by decide) 9 rfl ?_
  unfold r_spec_hkPrime at h
  show V _ _ ⟨I p1 :: bt 8 [], []⟩ _
  refine V_e (mb 9 1) [] (s1 := ⟨I p1 :: bt 8 [], []⟩) ?_
  obtain ⟨y2, hy2, h⟩ := of_bind h
  obtain ⟨b5, hb5, h⟩ := of_bind h
  refine V_sreg (mb 9 4) [] (s1 := ⟨.bot :: .bot :: Bo b5 :: bt 6 [], []⟩) ?_ ?_
  ·refine XR 1 ?_
   refine XC (s_spec_l1In hy2) cf_spec_l1In rfl rfl rfl ?_
   refine XR 1 ?_
   refine XL_split y2 (fun hc3 => ?_) (fun hc3 => ?_)
   ·have hb5 := of_true hb5 hc3
    obtain ⟨y4, hy4, hb5⟩ := of_bind hb5
    have hb5 := some_inj hb5
    refine XL_takeC _ rfl rfl (by kernel_rfl) hc3 (X_of_Y0 rfl (E_move (I p1) rfl (by kernel_rfl))) ?_
    refine XL_takeC _ rfl rfl (by kernel_rfl) hc3 (X_of_Y1 rfl (Y1_call (s_spec_nuPrime hy4) cf_spec_nuPrime rfl (by kernel_rfl))) ?_
    refine XL_cons rfl (X_of_Y0 rfl (Y0_pickTe (b := y2) (p := y4) rfl (by kernel_rfl) hc3 (by kernel_rfl) hb5)) ?_
    exact XE
   ·have hb5 := some_inj (of_false hb5 hc3)
    refine XL_skipT _ rfl rfl (by kernel_rfl) hc3 rfl ?_
    refine XL_skipT _ rfl rfl (by kernel_rfl) hc3 rfl ?_
    refine XL_cons rfl (X_of_Y0 rfl (Y0_pickFe (b := y2) (p := false) rfl (by kernel_rfl) hc3 (by kernel_rfl) hb5)) ?_
    exact XE
  refine V_ret ?_
  obtain rfl := some_inj h
  show Post _ _ _ _ _
  exact ⟨.inr rfl, rfl, rfl, rfl⟩
theorem cf_spec_reNormal : ∀ args w, (callFunc 248 args).run Tryz.prog w = .ok (.enter 248 args) w := run_callFunc Tryz.func248 (by kernel_rfl) (by kernel_rfl)
theorem s_spec_reNormal {f1 : (Int × Int × Int)} {r : Int} (h : r_spec_reNormal f1 = some r) : CallS Tryz.prog 248 [.ag [Ti f1.1, Ti f1.2.1, Ti f1.2.2]] (I r) [] := by
  refine CallS_of_text (rs := [.t 2]) (vs := [.tmp 2]) Tryz.func248 rfl rfl (.cons rfl FitsL.nil) (by decide) 22 rfl ?_
  unfold r_spec_reNormal at h
  show V _ _ ⟨.ag [Ti f1.1, Ti f1.2.1, Ti f1.2.2] :: bt 21 [], []⟩ _
  refine V_e (mb 22 2) [8] (s1 := ⟨.bot :: .pt 8 0 :: bt 20 [], [(8, .box [Ti f1.1, Ti f1.2.1, Ti f1.2.2])]⟩) ?_
  obtain ⟨y2, hy2, h⟩ := of_bind h
  obtain ⟨z3, hz3, h⟩ := of_bind h
  obtain ⟨t4, ht4, h⟩ := of_sI h
  refine V_sdreg [0, 1, 0, 4, 15, 0, 32, 0, 128, 480, 0, 1024, 3072, 8160, 16383, 0, 32768, 98304, 262143, 524287] 20 (cdm 20 [45276113056, 45276113057, 45276112906, 45276112922, 45276112981, 45141361322, 45141362346, 45141207722, 45141224106, 45141284522, 45097855658, 45098904234, 45103098538, 45119526570, 45186635093, 715827882, 1789569706, 6084537002, 22906492245, 91625968981]) (mb 22 4) [] (s1 := ⟨.bot :: .bot :: I t4 :: bt 19 [], []⟩) (by kernel_rfl) (by kernel_rfl) ?_ ?_
  ·refine DR 13 ?_
   refine DC 13 (s_spec_nuMod hy2) cf_spec_nuMod rfl rfl rfl rfl 16 rfl ?_
   refine DR 4 ?_
   refine DE_0 18 (I (w64 (Int.tdiv (w64 ((w64 (f1.1 - f1.2.1)) - y2)) (w64 (2 * f1.1))))) (by kernel_rfl) rfl rfl rfl (gsat_none rfl) (by kernel_rfl) (Y0_quo64 (a := w64 ((w64 (f1.1 - f1.2.1)) - y2)) (b := w64 (2 * f1.1)) rfl (by kernel_rfl) (by kernel_rfl) (nz_some hz3)) 21 rfl ?_
   refine DA 1 ?_
   refine XL_nil ?_
   subst ht4
   kernel_rfl
  refine V_ret ?_
  obtain rfl := some_inj h
  show Post _ _ _ _ _
  exact ⟨.inr rfl, rfl, rfl, rfl⟩
theorem cf_spec_reMove : ∀ args w, (callFunc 220 args).run Tryz.prog w = .ok (.enter 220 args) w := run_callFunc Tryz.func220 (by kernel_rfl) (by kernel_rfl)
theorem s_spec_reMove {f1 : (Int × Int × Int)} {r : (Int × Int × Int × Int)} (h : r_spec_reMove f1 = some r) : CallS Tryz.prog 220 [.ag [Ti f1.1, Ti f1.2.1, Ti f1.2.2]] (.ag [Ti r.1, Ti r.2.1, Ti r.2.2.1, Ti r.2.2.2]) [] := by
  refine CallS_of_text (rs := [.w 2 4]) (vs := [.cell 2 31]) Tryz.func220 rfl rfl (.cons ⟨rfl, wd31⟩ FitsL.nil) (by decide) 14 rfl ?_
  unfold r_spec_reMove at h
  show V _ _ ⟨.ag [Ti f1.1, Ti f1.2.1, Ti f1.2.2] :: bt 13 [], []⟩ _
  refine V_e (mb 14 6) [16, 8] (s1 := ⟨.bot :: .pt 8 0 :: .pt 16 0 :: bt 11 [], [(16, .box [Ti 0, Ti 0, Ti 0, Ti 0]), (8, .box [Ti f1.1, Ti f1.2.1, Ti f1.2.2])]⟩) ?_
  refine V_seq ?_
  obtain ⟨y2, hy2, h⟩ := of_bind h
  refine V_sreg (mb 14 14) [16, 8] (s1 := ⟨.bot :: .pt 8 0 :: .pt 16 0 :: I y2 :: bt 10 [], [(16, .box [Ti 0, Ti 0, Ti 0, Ti 0]), (8, .box [Ti f1.1, Ti f1.2.1, Ti f1.2.2])]⟩) ?_ ?_
  ·refine XR 1 ?_
   refine XC (s_spec_reNormal hy2) cf_spec_reNormal rfl rfl rfl ?_
   exact XE
  refine V_e (mb 14 142) [16, 8] (s1 := ⟨.bot :: .pt 8 0 :: .pt 16 0 :: I y2 :: bt 3 (Bo (!eqI y2 0) :: bt 6 []), [(16, .box [Ti 0, Ti 0, Ti 0, Ti 0]), (8, .box [Ti f1.1, Ti f1.2.1, Ti f1.2.2])]⟩) ?_
  refine V_cond rfl (fun hc3 => ?_) (fun hc3 => ?_)
  ·have h := of_true h hc3
   refine V_sreg (mb 14 4) [16] (s1 := ⟨.bot :: .bot :: .pt 16 0 :: bt 11 [], [(16, .box [Ti 1, Ti y2, Ti 0, Ti 1])]⟩) ?_ ?_
   ·refine XR 1 ?_
    refine L0 rfl rfl (Y0_build (cs := [Ti 1, Ti y2, Ti 0, Ti 1]) pl31 bt31 rfl rfl (by kernel_rfl)) ?_
    exact XE
   refine V_ret ?_
   obtain rfl := some_inj h
   show Post _ _ _ _ _
   exact ⟨.inr rfl, rfl, rfl, rfl⟩
  ·have h := of_false h hc3
   refine V_skip ?_
   show V _ _ _ _
   refine V_seq ?_
   obtain ⟨y4, hy4, h⟩ := of_bind h
   refine V_sreg (mb 14 2052) [16] (s1 := ⟨.bot :: .bot :: .pt 16 0 :: bt 8 (Bo y4 :: .bot :: .bot :: []), [(16, .box [Ti 0, Ti 0, Ti 0, Ti 0])]⟩) ?_ ?_
   ·refine XR 1 ?_
    refine XC (s_spec_reIs hy4) cf_spec_reIs rfl rfl rfl ?_
    exact XE
   refine V_cond rfl (fun hc5 => ?_) (fun hc5 => ?_)
   ·have h := of_true h hc5
    refine V_sreg (mb 14 4) [16] (s1 := ⟨.bot :: .bot :: .pt 16 0 :: bt 11 [], [(16, .box [Ti 1, Ti 0, Ti 0, Ti 1])]⟩) ?_ ?_
    ·refine L0 rfl rfl (Y0_build (cs := [Ti 1, Ti 0, Ti 0, Ti 1]) pl31 bt31 rfl rfl (by kernel_rfl)) ?_
     exact XE
    refine V_ret ?_
    obtain rfl := some_inj h
    show Post _ _ _ _ _
    exact ⟨.inr rfl, rfl, rfl, rfl⟩
   ·have h := of_false h hc5
    refine V_skip ?_
    show V _ _ _ _
    refine V_sreg (mb 14 4) [16] (s1 := ⟨.bot :: .bot :: .pt 16 0 :: bt 11 [], [(16, .box [Ti 0, Ti (-1), Ti 1, Ti 0])]⟩) ?_ ?_
    ·refine L0 rfl rfl (Y0_build (cs := [Ti 0, Ti (-1), Ti 1, Ti 0]) pl31 bt31 rfl rfl (by kernel_rfl)) ?_
     exact XE
    refine V_ret ?_
    obtain rfl := some_inj h
    show Post _ _ _ _ _
    exact ⟨.inr rfl, rfl, rfl, rfl⟩
theorem cf_spec_reReduce : ∀ args w, (callFunc 160 args).run Tryz.prog w = .ok (.enter 160 args) w := run_callFunc Tryz.func160 (by kernel_rfl) (by kernel_rfl)
theorem s_spec_reReduce {f1 : (Int × Int × Int)} {r : (((Int × Int × Int)) × ((Int × Int × Int × Int)))} (h : r_spec_reReduce f1 = some r) : CallS Tryz.prog 160 [.ag [Ti f1.1, Ti f1.2.1, Ti f1.2.2]] (.tc (.ag [Ti r.1.1, Ti r.1.2.1, Ti r.1.2.2]) (.tc (.ag [Ti r.2.1, Ti r.2.2.1, Ti r.2.2.2.1, Ti r.2.2.2.2]) .tn)) [] := by
  refine CallS_of_text (rs := [.w 2 3, .w 3 4]) (vs := [.cell 2 25, .cell 3 31]) Tryz.func160 rfl rfl (.cons ⟨rfl, wd25⟩ (.cons ⟨rfl, wd31⟩ FitsL.nil)) (by decide) 20 rfl ?_
  unfold r_spec_reReduce at h
  show V _ _ ⟨.ag [Ti f1.1, Ti f1.2.1, Ti f1.2.2] :: bt 19 [], []⟩ _
  refine V_e (mb 20 14) [24, 16, 8] (s1 := ⟨.bot :: .pt 8 0 :: .pt 16 0 :: .pt 24 0 :: bt 16 [], [(24, .box [Ti 0, Ti 0, Ti 0, Ti 0]), (16, .box [Ti 0, Ti 0, Ti 0]), (8, .box [Ti f1.1, Ti f1.2.1, Ti f1.2.2])]⟩) ?_
  refine V_sreg (mb 20 30) [32, 24, 16, 8] (s1 := ⟨.bot :: .pt 8 0 :: .pt 16 0 :: .pt 24 0 :: .pt 32 0 :: bt 15 [], [(32, .box [Ti 1, Ti 0, Ti 0, Ti 1]), (24, .box [Ti 0, Ti 0, Ti 0, Ti 0]), (16, .box [Ti 0, Ti 0, Ti 0]), (8, .box [Ti f1.1, Ti f1.2.1, Ti f1.2.2])]⟩) ?_ ?_
  ·refine L0 rfl rfl (Y0_build (cs := [Ti 1, Ti 0, Ti 0, Ti 1]) pl31 bt31 rfl rfl (by kernel_rfl)) ?_
   exact XE
  refine V_seq ?_
  obtain ⟨o10, hLo10, h⟩ := of_bind h
  refine V_toK (mb 20 30) [32, 24, 16, 8] (s1 := ⟨.bot :: .pt 8 0 :: .pt 16 0 :: .pt 24 0 :: .pt 32 0 :: bt 15 [], [(32, .box [Ti o10.1, Ti o10.2.1, Ti o10.2.2.1, Ti o10.2.2.2.1]), (24, .box [Ti 0, Ti 0, Ti 0, Ti 0]), (16, .box [Ti 0, Ti 0, Ti 0]), (8, .box [Ti o10.2.2.2.2.1, Ti o10.2.2.2.2.2.1, Ti o10.2.2.2.2.2.2])]⟩) ?_ ?_
  ·clear h
   refine V_block (V_loop (fun n s => ∃ (f2 : Int) (f3 : Int) (f4 : Int) (f5 : Int) (f6 : Int) (f7 : Int) (f8 : Int), s.keep (mb 20 30) [32, 24, 16, 8] = (⟨.bot :: .pt 8 0 :: .pt 16 0 :: .pt 24 0 :: .pt 32 0 :: bt 15 [], [(32, .box [Ti f2, Ti f3, Ti f4, Ti f5]), (24, .box [Ti 0, Ti 0, Ti 0, Ti 0]), (16, .box [Ti 0, Ti 0, Ti 0]), (8, .box [Ti f6, Ti f7, Ti f8])]⟩ : St) ∧ r_spec_reReduce_L9 n f2 f3 f4 f5 f6 f7 f8 = some o10) FU ⟨_, _, _, _, _, _, _,  by rfl, hLo10⟩ ?_)
   clear hLo10
   rintro n s ⟨f2, f3, f4, f5, f6, f7, f8, hs, h⟩
   refine V_keep _ _ hs ?_
   clear hs
   cases n with
   | zero => cases h
   | succ n =>
    rw [r_spec_reReduce_L9] at h
    refine V_seq ?_
    obtain ⟨y11, hy11, h⟩ := of_bind h
    refine V_sreg (mb 20 542) [32, 24, 16, 8] (s1 := ⟨.bot :: .pt 8 0 :: .pt 16 0 :: .pt 24 0 :: .pt 32 0 :: bt 4 (Bo (!y11) :: bt 10 []), [(32, .box [Ti f2, Ti f3, Ti f4, Ti f5]), (24, .box [Ti 0, Ti 0, Ti 0, Ti 0]), (16, .box [Ti 0, Ti 0, Ti 0]), (8, .box [Ti f6, Ti f7, Ti f8])]⟩) ?_ ?_
    ·refine XR 1 ?_
     refine XC (s_spec_reIs hy11) cf_spec_reIs rfl rfl rfl ?_
     exact XE
    refine V_cond rfl (fun hc12 => ?_) (fun hc12 => ?_)
    ·have h := of_true h hc12
     refine V_skip ?_
     show V _ _ _ _
     refine V_block ?_
     obtain ⟨y13, hy13, h⟩ := of_bind h
     refine V_sreg (mb 20 62) [40, 32, 24, 16, 8] (s1 := ⟨.bot :: .pt 8 0 :: .pt 16 0 :: .pt 24 0 :: .pt 32 0 :: .pt 40 0 :: bt 14 [], [(40, .box [Ti y13.1, Ti y13.2.1, Ti y13.2.2.1, Ti y13.2.2.2]), (32, .box [Ti f2, Ti f3, Ti f4, Ti f5]), (24, .box [Ti 0, Ti 0, Ti 0, Ti 0]), (16, .box [Ti 0, Ti 0, Ti 0]), (8, .box [Ti f6, Ti f7, Ti f8])]⟩) ?_ ?_
     ·refine XR 1 ?_
      refine XC (s_spec_reMove hy13) cf_spec_reMove rfl rfl rfl ?_
      exact XE
     obtain ⟨y14, hy14, h⟩ := of_bind h
     obtain ⟨y15, hy15, h⟩ := of_bind h
     refine V_dreg [0, 0, 3, 0, 0, 31, 63, 127] 6 (cdm 6 [648, 642, 645, 554, 170, 341]) (mb 20 30) [32, 24, 16, 8] (s1 := ⟨.bot :: .pt 8 0 :: .pt 16 0 :: .pt 24 0 :: .pt 32 0 :: bt 15 [], [(32, .box [Ti y15.1, Ti y15.2.1, Ti y15.2.2.1, Ti y15.2.2.2]), (24, .box [Ti 0, Ti 0, Ti 0, Ti 0]), (16, .box [Ti 0, Ti 0, Ti 0]), (8, .box [Ti y14.1, Ti y14.2.1, Ti y14.2.2])]⟩) (by kernel_rfl) (by kernel_rfl) ?_ ?_
     ·refine DR 2 ?_
      refine DC 2 (s_spec_foAct hy14) cf_spec_foAct rfl rfl rfl rfl 14 rfl ?_
      refine DR 2 ?_
      refine DC 5 (s_spec_foMul hy15) cf_spec_foMul rfl rfl rfl rfl 17 rfl ?_
      refine DA 0 ?_
      exact XE
     exact ⟨n, Nat.lt_succ_self n, _, _, _, _, _, _, _,  by rfl, h⟩
    ·have h := of_false h hc12
     refine V_exit ?_
     obtain rfl := some_inj h
     show St.keep _ _ _ = _
     rfl
  show V _ _ _ _
  refine V_sdreg [0, 0, 1, 7] 3 [[.z, .b, .z], [.b, .z, .r 16], [.a, .b, .z]] (mb 20 12) [24, 16] (s1 := ⟨.bot :: .bot :: .pt 16 0 :: .pt 24 0 :: bt 16 [], [(24, .box [Ti o10.1, Ti o10.2.1, Ti o10.2.2.1, Ti o10.2.2.2.1]), (16, .box [Ti o10.2.2.2.2.1, Ti o10.2.2.2.2.2.1, Ti o10.2.2.2.2.2.2])]⟩) (by kernel_rfl) (by kernel_rfl) ?_ ?_
  ·refine DA 3 ?_
   exact XE
  refine V_ret ?_
  obtain rfl := some_inj h
  show Post _ _ _ _ _
  exact ⟨.inr rfl, rfl, rfl, rfl⟩
theorem cf_spec_reClass : ∀ args w, (callFunc 115 args).run Tryz.prog w = .ok (.enter 115 args) w := run_callFunc Tryz.func115 (by kernel_rfl) (by kernel_rfl)
theorem s_spec_reClass {f1 : (Int × Int × Int)} {r : (Int × Int × Int)} (h : r_spec_reClass f1 = some r) : CallS Tryz.prog 115 [.ag [Ti f1.1, Ti f1.2.1, Ti f1.2.2]] (.ag [Ti r.1, Ti r.2.1, Ti r.2.2]) [] := by
  refine CallS_of_text (rs := [.w 2 3]) (vs := [.cell 2 25]) Tryz.func115 rfl rfl (.cons ⟨rfl, wd25⟩ FitsL.nil) (by decide) 11 rfl ?_
  unfold r_spec_reClass at h
  show V _ _ ⟨.ag [Ti f1.1, Ti f1.2.1, Ti f1.2.2] :: bt 10 [], []⟩ _
  refine V_e (mb 11 6) [16, 8] (s1 := ⟨.bot :: .pt 8 0 :: .pt 16 0 :: bt 8 [], [(16, .box [Ti 0, Ti 0, Ti 0]), (8, .box [Ti f1.1, Ti f1.2.1, Ti f1.2.2])]⟩) ?_
  obtain ⟨y2, hy2, h⟩ := of_bind h
  refine V_sreg (mb 11 12) [24, 16] (s1 := ⟨.bot :: .bot :: .pt 16 0 :: .pt 24 0 :: bt 7 [], [(24, .box [Ti y2.1.1, Ti y2.1.2.1, Ti y2.1.2.2]), (16, .box [Ti 0, Ti 0, Ti 0])]⟩) ?_ ?_
  ·refine XR 1 ?_
   refine XC (s_spec_reReduce hy2) cf_spec_reReduce rfl rfl rfl ?_
   exact XE
  refine V_e (mb 11 4) [16] (s1 := ⟨.bot :: .bot :: .pt 16 0 :: bt 8 [], [(16, .box [Ti y2.1.1, Ti y2.1.2.1, Ti y2.1.2.2])]⟩) ?_
  refine V_ret ?_
  obtain rfl := some_inj h
  show Post _ _ _ _ _
  exact ⟨.inr rfl, rfl, rfl, rfl⟩
theorem cf_spec_hkMatrices : ∀ args w, (callFunc 229 args).run Tryz.prog w = .ok (.enter 229 args) w := run_callFunc Tryz.func229 (by kernel_rfl) (by kernel_rfl)
theorem s_spec_hkMatrices {p1 : Int} {r : List ((Int × Int × Int × Int))} (h : r_spec_hkMatrices p1 = some r) : CallS Tryz.prog 229 [I p1] (.ow 0) [(0, .arr 31 4 (r.map c31))] := by
  refine CallS_of_text (rs := [.t 2]) (vs := [.tmp 2]) Tryz.func229 rfl rfl (.cons rfl FitsL.nil) (by decide) 21 rfl ?_
  unfold r_spec_hkMatrices at h
  show V _ _ ⟨I p1 :: bt 20 [], []⟩ _
  refine V_sreg (mb 21 1) [] (s1 := ⟨I p1 :: bt 20 [], []⟩) ?_ ?_
  ·refine L1 rfl rfl (Y1_nil (e := 31) 4 (by decide) (.inl rfl)) ?_
   exact XE
  refine V_sreg (mb 21 9) [24] (s1 := ⟨I p1 :: .bot :: .bot :: .ow 24 :: bt 17 [], [(24, .arr 31 4 ((([] : List ((Int × Int × Int × Int)))).map c31))]⟩) ?_ ?_
  ·refine L1 rfl rfl (Y1_nil (e := 31) 4 (by decide) (.inl rfl)) ?_
   exact XE
  refine V_seq ?_
  refine V_e (mb 21 25) [24] (s1 := ⟨I p1 :: .bot :: .bot :: .ow 24 :: I 0 :: bt 16 [], [(24, .arr 31 4 ((([] : List ((Int × Int × Int × Int)))).map c31))]⟩) ?_
  obtain ⟨o5, hLo5, h⟩ := of_bind h
  refine V_toK (mb 21 9) [24] (s1 := ⟨I p1 :: .bot :: .bot :: .ow 24 :: bt 17 [], [(24, .arr 31 4 (o5.map c31))]⟩) ?_ ?_
  ·clear h
   refine V_block (V_loop (fun n s => ∃ (k2 : Int) (l3 : List ((Int × Int × Int × Int))), s.keep (mb 21 25) [24] = (⟨I p1 :: .bot :: .bot :: .ow 24 :: I k2 :: bt 16 [], [(24, .arr 31 4 (l3.map c31))]⟩ : St) ∧ r_spec_hkMatrices_L4 p1 n k2 l3 = some o5) FU ⟨_, _,  by rfl, hLo5⟩ ?_)
   clear hLo5
   rintro n s ⟨k2, l3, hs, h⟩
   refine V_keep _ _ hs ?_
   clear hs
   cases n with
   | zero => cases h
   | succ n =>
    rw [r_spec_hkMatrices_L4] at h
    refine V_seq ?_
    refine V_e (mb 21 153) [24] (s1 := ⟨I p1 :: .bot :: .bot :: .ow 24 :: I k2 :: .bot :: .bot :: Bo (ltI k2 p1) :: bt 13 [], [(24, .arr 31 4 (l3.map c31))]⟩) ?_
    refine V_cond rfl (fun hc6 => ?_) (fun hc6 => ?_)
    ·have h := of_true h hc6
     refine V_skip ?_
     show V _ _ _ _
     refine V_seq ?_
     refine V_block ?_
     obtain ⟨u7, hu7, h⟩ := of_bind h
     refine V_reg (mb 21 25) [24] (s1 := ⟨I p1 :: .bot :: .bot :: .ow 24 :: I k2 :: bt 16 [], [(24, .arr 31 4 ((l3 ++ ([(1, 0, k2, p1)])).map c31))]⟩) ?_ ?_
     ·refine XR 3 ?_
      refine L0 rfl rfl (Y0_build (cs := [Ti 1, Ti 0, Ti k2, Ti p1]) pl31 bt31 rfl rfl (by kernel_rfl)) ?_
      refine L1 rfl rfl (Y1_bslice (z := zv31) (els := [(1, 0, k2, p1)].map c31) Tryz.underlying158 iz31 rfl (by decide) rfl (by kernel_rfl) rfl (by simp [c31]) (by decide) (by decide)) ?_
      refine XL_cons rfl (X_appendM (c := c31) (xs := l3) (ys := [(1, 0, k2, p1)]) (id := 24) (z := zv31) rfl rfl Tryz.underlying158 izb31 rfl (by kernel_rfl) (by kernel_rfl) (by kernel_rfl) (fun _ => rfl) (by simp) (room_some hu7) (by decide)) ?_
      exact XE
     show V _ _ _ _
     obtain ⟨k8, hk8, h⟩ := of_sI h
     refine V_reg (mb 21 25) [24] (s1 := ⟨I p1 :: .bot :: .bot :: .ow 24 :: I k8 :: bt 16 [], [(24, .arr 31 4 ((l3 ++ ([(1, 0, k2, p1)])).map c31))]⟩) ?_ ?_
     ·refine XR 3 ?_
      refine XL_nil ?_
      subst hk8
      kernel_rfl
     exact ⟨n, Nat.lt_succ_self n, _, _,  by rfl, h⟩
    ·have h := of_false h hc6
     refine V_exit ?_
     obtain rfl := some_inj h
     show St.keep _ _ _ = _
     rfl
  show V _ _ _ _
  obtain ⟨u9, hu9, h⟩ := of_bind h
  refine V_sreg (mb 21 4) [24] (s1 := ⟨.bot :: .bot :: .ow 24 :: bt 18 [], [(24, .arr 31 4 ((o5 ++ ([(p1, 0, 0, 1)])).map c31))]⟩) ?_ ?_
  ·refine XR 2 ?_
   refine L0 rfl rfl (Y0_build (cs := [Ti p1, Ti 0, Ti 0, Ti 1]) pl31 bt31 rfl rfl (by kernel_rfl)) ?_
   refine L1 rfl rfl (Y1_bslice (z := zv31) (els := [(p1, 0, 0, 1)].map c31) Tryz.underlying158 iz31 rfl (by decide) rfl (by kernel_rfl) rfl (by simp [c31]) (by decide) (by decide)) ?_
   refine XL_cons rfl (X_appendM (c := c31) (xs := o5) (ys := [(p1, 0, 0, 1)]) (id := 24) (z := zv31) rfl rfl Tryz.underlying158 izb31 rfl (by kernel_rfl) (by kernel_rfl) (by kernel_rfl) (fun _ => rfl) (by simp) (room_some hu9) (by decide)) ?_
   exact XE
  refine V_ret ?_
  obtain rfl := some_inj h
  show Post _ _ _ _ _
  exact ⟨.inr rfl, rfl, rfl, rfl⟩
theorem cf_spec_hkForms : ∀ args w, (callFunc 190 args).run Tryz.prog w = .ok (.enter 190 args) w := run_callFunc Tryz.func190 (by kernel_rfl) (by kernel_rfl)
theorem s_spec_hkForms {f1 : (Int × Int × Int)} {p2 : Int} {r : List ((Int × Int × Int))} (h : r_spec_hkForms f1 p2 = some r) : CallS Tryz.prog 190 [.ag [Ti f1.1, Ti f1.2.1, Ti f1.2.2], I p2] (.ow 0) [(0, .arr 25 3 (r.map c25))] := by
  refine CallS_of_text (rs := [.t 4]) (vs := [.tmp 4]) Tryz.func190 rfl rfl (.cons rfl FitsL.nil) (by decide) 26 rfl ?_
  unfold r_spec_hkForms at h
  show V _ _ ⟨.ag [Ti f1.1, Ti f1.2.1, Ti f1.2.2] :: I p2 :: bt 24 [], []⟩ _
  refine V_sreg (mb 26 6) [16] (s1 := ⟨.bot :: I p2 :: .pt 16 0 :: bt 23 [], [(16, .box [Ti f1.1, Ti f1.2.1, Ti f1.2.2])]⟩) ?_ ?_
  ·refine XR 1 ?_
   refine L1 rfl rfl (Y1_nil (e := 25) 3 (by decide) (.inl rfl)) ?_
   exact XE
  obtain ⟨y3, hy3, h⟩ := of_bind h
  refine V_sreg (mb 26 34) [40] (s1 := ⟨.bot :: I p2 :: bt 3 (.pt 40 0 :: bt 20 []), [(40, .box [Ti y3.1, Ti y3.2.1, Ti y3.2.2])]⟩) ?_ ?_
  ·refine XR 1 ?_
   refine XC (s_spec_reClass hy3) cf_spec_reClass rfl rfl rfl ?_
   exact XE
  refine V_sreg (mb 26 98) [48, 40] (s1 := ⟨.bot :: I p2 :: bt 3 (.pt 40 0 :: .ow 48 :: bt 19 []), [(48, .arr 25 3 ((([] : List ((Int × Int × Int)))).map c25)), (40, .box [Ti y3.1, Ti y3.2.1, Ti y3.2.2])]⟩) ?_ ?_
  ·refine L1 rfl rfl (Y1_nil (e := 25) 3 (by decide) (.inl rfl)) ?_
   exact XE
  refine V_seq ?_
  obtain ⟨y4, hy4, h⟩ := of_bind h
  refine V_sreg (mb 26 28768) [96, 48, 40] (s1 := ⟨bt 5 (.pt 40 0 :: .ow 48 :: bt 5 (.ow 96 :: I ((y4.length : Int)) :: I 0 :: bt 11 [])), [(96, .arr 31 4 (y4.map c31)), (48, .arr 25 3 ((([] : List ((Int × Int × Int)))).map c25)), (40, .box [Ti y3.1, Ti y3.2.1, Ti y3.2.2])]⟩) ?_ ?_
  ·refine XR 1 ?_
   refine XC (s_spec_hkMatrices hy4) cf_spec_hkMatrices rfl rfl rfl ?_
   refine L0 rfl rfl (Y0_lenM (c := c31) (xs := y4) Tryz.underlying158 rfl (by kernel_rfl)) ?_
   exact XE
  obtain ⟨o8, hLo8, h⟩ := of_bind h
  refine V_toK (mb 26 64) [48] (s1 := ⟨bt 6 (.ow 48 :: bt 19 []), [(48, .arr 25 3 (o8.map c25))]⟩) ?_ ?_
  ·clear h
   refine V_block (V_loop (fun n s => ∃ (t5 : Int) (l6 : List ((Int × Int × Int))), s.keep (mb 26 28768) [96, 48, 40] = (⟨bt 5 (.pt 40 0 :: .ow 48 :: bt 5 (.ow 96 :: I ((y4.length : Int)) :: I t5 :: bt 11 [])), [(96, .arr 31 4 (y4.map c31)), (48, .arr 25 3 (l6.map c25)), (40, .box [Ti y3.1, Ti y3.2.1, Ti y3.2.2])]⟩ : St) ∧ r_spec_hkForms_L7 y3 y4 n t5 l6 = some o8) FU ⟨_, _,  by rfl, hLo8⟩ ?_)
   clear hLo8
   rintro n s ⟨t5, l6, hs, h⟩
   refine V_keep _ _ hs ?_
   clear hs
   cases n with
   | zero => cases h
   | succ n =>
    rw [r_spec_hkForms_L7] at h
    refine V_e (mb 26 61536) [96, 48, 40] (s1 := ⟨bt 5 (.pt 40 0 :: .ow 48 :: bt 5 (.ow 96 :: I ((y4.length : Int)) :: I t5 :: Bo (ltI t5 ((y4.length : Int))) :: bt 10 [])), [(96, .arr 31 4 (y4.map c31)), (48, .arr 25 3 (l6.map c25)), (40, .box [Ti y3.1, Ti y3.2.1, Ti y3.2.2])]⟩) ?_
    refine V_seq ?_
    refine V_cond rfl (fun hc9 => ?_) (fun hc9 => ?_)
    ·have h := of_true h hc9
     refine V_skip ?_
     show V _ _ _ _
     refine V_seq ?_
     refine V_block ?_
     obtain ⟨e10, he10, h⟩ := of_bind h
     obtain ⟨e11, he11, h⟩ := of_bind h
     refine V_sreg (mb 26 29024) [64, 96, 48, 40] (s1 := ⟨bt 5 (.pt 40 0 :: .ow 48 :: .bot :: .pt 64 0 :: bt 3 (.ow 96 :: I ((y4.length : Int)) :: I t5 :: bt 11 [])), [(64, .box [Ti e11.1, Ti e11.2.1, Ti e11.2.2.1, Ti e11.2.2.2]), (96, .arr 31 4 (y4.map c31)), (48, .arr 25 3 (l6.map c25)), (40, .box [Ti y3.1, Ti y3.2.1, Ti y3.2.2])]⟩) ?_ ?_
     ·refine L0 rfl rfl (Y0_idxoM (c := c31) (xs := y4) (v := e10) (id := 96) (T := 31) (sz := 4) (n := t5) Tryz.underlying158 sz31 rfl (by kernel_rfl) (by kernel_rfl) (by kernel_rfl) he10) ?_
      refine L0 rfl rfl (E_loadon (c := c31) (xs := y4) (v := e11) (id := 96) (sz := 4) (T := 31) (off := 0) (n := t5) [Ti e11.1, Ti e11.2.1, Ti e11.2.2.1, Ti e11.2.2.2] wd31 rfl (by kernel_rfl) (by kernel_rfl) he11 (Nat.le_of_ble_eq_true rfl) (by kernel_rfl)) ?_
      exact XE
     obtain ⟨y12, hy12, h⟩ := of_bind h
     obtain ⟨u13, hu13, h⟩ := of_bind h
     refine V_reg (mb 26 28768) [96, 48, 40] (s1 := ⟨bt 5 (.pt 40 0 :: .ow 48 :: bt 5 (.ow 96 :: I ((y4.length : Int)) :: I t5 :: bt 11 [])), [(96, .arr 31 4 (y4.map c31)), (48, .arr 25 3 ((l6 ++ ([y12])).map c25)), (40, .box [Ti y3.1, Ti y3.2.1, Ti y3.2.2])]⟩) ?_ ?_
     ·refine XR 3 ?_
      refine XC (s_spec_foAct hy12) cf_spec_foAct rfl rfl rfl ?_
      refine L1 rfl rfl (Y1_bslice (z := zv25) (els := [y12].map c25) Tryz.underlying38 iz25 rfl (by decide) rfl (by kernel_rfl) rfl (by simp [c25]) (by decide) (by decide)) ?_
      refine XL_cons rfl (X_appendM (c := c25) (xs := l6) (ys := [y12]) (id := 48) (z := zv25) rfl rfl Tryz.underlying38 izb25 rfl (by kernel_rfl) (by kernel_rfl) (by kernel_rfl) (fun _ => rfl) (by simp) (room_some hu13) (by decide)) ?_
      exact XE
     show V _ _ _ _
     obtain ⟨t14, ht14, h⟩ := of_sI h
     refine V_reg (mb 26 28768) [96, 48, 40] (s1 := ⟨bt 5 (.pt 40 0 :: .ow 48 :: bt 5 (.ow 96 :: I ((y4.length : Int)) :: I t14 :: bt 11 [])), [(96, .arr 31 4 (y4.map c31)), (48, .arr 25 3 ((l6 ++ ([y12])).map c25)), (40, .box [Ti y3.1, Ti y3.2.1, Ti y3.2.2])]⟩) ?_ ?_
     ·refine XR 2 ?_
      refine XL_nil ?_
      subst ht14
      kernel_rfl
     exact ⟨n, Nat.lt_succ_self n, _, _,  by rfl, h⟩
    ·have h := of_false h hc9
     refine V_exit ?_
     obtain rfl := some_inj h
     show St.keep _ _ _ = _
     rfl
  show V _ _ _ _
  refine V_e (mb 26 16) [48] (s1 := ⟨bt 4 (.ow 48 :: bt 21 []), [(48, .arr 25 3 (o8.map c25))]⟩) ?_
  refine V_ret ?_
  obtain rfl := some_inj h
  show Post _ _ _ _ _
  exact ⟨.inr rfl, rfl, rfl, rfl⟩
theorem cf_spec_hkClasses : ∀ args w, (callFunc 102 args).run Tryz.prog w = .ok (.enter 102 args) w := run_callFunc Tryz.func102 (by kernel_rfl) (by kernel_rfl)
theorem s_spec_hkClasses {f1 : (Int × Int × Int)} {p2 : Int} {r : List ((Int × Int × Int))} (h : r_spec_hkClasses f1 p2 = some r) : CallS Tryz.prog 102 [.ag [Ti f1.1, Ti f1.2.1, Ti f1.2.2], I p2] (.ow 0) [(0, .arr 25 3 (r.map c25))] := by
  refine CallS_of_text (rs := [.t 4]) (vs := [.tmp 4]) Tryz.func102 rfl rfl (.cons rfl FitsL.nil) (by decide) 23 rfl ?_
  unfold r_spec_hkClasses at h
  show V _ _ ⟨.ag [Ti f1.1, Ti f1.2.1, Ti f1.2.2] :: I p2 :: bt 21 [], []⟩ _
  refine V_sreg (mb 23 6) [16] (s1 := ⟨.bot :: I p2 :: .pt 16 0 :: bt 20 [], [(16, .box [Ti f1.1, Ti f1.2.1, Ti f1.2.2])]⟩) ?_ ?_
  ·refine XR 1 ?_
   refine L1 rfl rfl (Y1_nil (e := 25) 3 (by decide) (.inl rfl)) ?_
   exact XE
  refine V_sreg (mb 23 38) [40, 16] (s1 := ⟨.bot :: I p2 :: .pt 16 0 :: .bot :: .bot :: .ow 40 :: bt 17 [], [(40, .arr 25 3 ((([] : List ((Int × Int × Int)))).map c25)), (16, .box [Ti f1.1, Ti f1.2.1, Ti f1.2.2])]⟩) ?_ ?_
  ·refine L1 rfl rfl (Y1_nil (e := 25) 3 (by decide) (.inl rfl)) ?_
   exact XE
  refine V_seq ?_
  obtain ⟨y3, hy3, h⟩ := of_bind h
  refine V_sreg (mb 23 7200) [80, 40] (s1 := ⟨bt 5 (.ow 40 :: bt 4 (.ow 80 :: I ((y3.length : Int)) :: I 0 :: bt 10 [])), [(80, .arr 25 3 (y3.map c25)), (40, .arr 25 3 ((([] : List ((Int × Int × Int)))).map c25))]⟩) ?_ ?_
  ·refine XR 2 ?_
   refine XC (s_spec_hkForms hy3) cf_spec_hkForms rfl rfl rfl ?_
   refine L0 rfl rfl (Y0_lenM (c := c25) (xs := y3) Tryz.underlying38 rfl (by kernel_rfl)) ?_
   exact XE
  obtain ⟨o7, hLo7, h⟩ := of_bind h
  refine V_toK (mb 23 32) [40] (s1 := ⟨bt 5 (.ow 40 :: bt 17 []), [(40, .arr 25 3 (o7.map c25))]⟩) ?_ ?_
  ·clear h
   refine V_block (V_loop (fun n s => ∃ (t4 : Int) (l5 : List ((Int × Int × Int))), s.keep (mb 23 7200) [80, 40] = (⟨bt 5 (.ow 40 :: bt 4 (.ow 80 :: I ((y3.length : Int)) :: I t4 :: bt 10 [])), [(80, .arr 25 3 (y3.map c25)), (40, .arr 25 3 (l5.map c25))]⟩ : St) ∧ r_spec_hkClasses_L6 y3 n t4 l5 = some o7) FU ⟨_, _,  by rfl, hLo7⟩ ?_)
   clear hLo7
   rintro n s ⟨t4, l5, hs, h⟩
   refine V_keep _ _ hs ?_
   clear hs
   cases n with
   | zero => cases h
   | succ n =>
    rw [r_spec_hkClasses_L6] at h
    refine V_e (mb 23 15392) [80, 40] (s1 := ⟨bt 5 (.ow 40 :: bt 4 (.ow 80 :: I ((y3.length : Int)) :: I t4 :: Bo (ltI t4 ((y3.length : Int))) :: bt 9 [])), [(80, .arr 25 3 (y3.map c25)), (40, .arr 25 3 (l5.map c25))]⟩) ?_
    refine V_seq ?_
    refine V_cond rfl (fun hc8 => ?_) (fun hc8 => ?_)
    ·have h := of_true h hc8
     refine V_skip ?_
     show V _ _ _ _
     refine V_seq ?_
     refine V_block ?_
     obtain ⟨e9, he9, h⟩ := of_bind h
     obtain ⟨e10, he10, h⟩ := of_bind h
     refine V_sreg (mb 23 7328) [56, 80, 40] (s1 := ⟨bt 5 (.ow 40 :: .bot :: .pt 56 0 :: .bot :: .bot :: .ow 80 :: I ((y3.length : Int)) :: I t4 :: bt 10 []), [(56, .box [Ti e10.1, Ti e10.2.1, Ti e10.2.2]), (80, .arr 25 3 (y3.map c25)), (40, .arr 25 3 (l5.map c25))]⟩) ?_ ?_
     ·refine L0 rfl rfl (Y0_idxoM (c := c25) (xs := y3) (v := e9) (id := 80) (T := 25) (sz := 3) (n := t4) Tryz.underlying38 sz25 rfl (by kernel_rfl) (by kernel_rfl) (by kernel_rfl) he9) ?_
      refine L0 rfl rfl (E_loadon (c := c25) (xs := y3) (v := e10) (id := 80) (sz := 3) (T := 25) (off := 0) (n := t4) [Ti e10.1, Ti e10.2.1, Ti e10.2.2] wd25 rfl (by kernel_rfl) (by kernel_rfl) he10 (Nat.le_of_ble_eq_true rfl) (by kernel_rfl)) ?_
      exact XE
     obtain ⟨y11, hy11, h⟩ := of_bind h
     obtain ⟨u12, hu12, h⟩ := of_bind h
     refine V_reg (mb 23 7200) [80, 40] (s1 := ⟨bt 5 (.ow 40 :: bt 4 (.ow 80 :: I ((y3.length : Int)) :: I t4 :: bt 10 [])), [(80, .arr 25 3 (y3.map c25)), (40, .arr 25 3 ((l5 ++ ([y11])).map c25))]⟩) ?_ ?_
     ·refine XR 2 ?_
      refine XC (s_spec_reClass hy11) cf_spec_reClass rfl rfl rfl ?_
      refine L1 rfl rfl (Y1_bslice (z := zv25) (els := [y11].map c25) Tryz.underlying38 iz25 rfl (by decide) rfl (by kernel_rfl) rfl (by simp [c25]) (by decide) (by decide)) ?_
      refine XL_cons rfl (X_appendM (c := c25) (xs := l5) (ys := [y11]) (id := 40) (z := zv25) rfl rfl Tryz.underlying38 izb25 rfl (by kernel_rfl) (by kernel_rfl) (by kernel_rfl) (fun _ => rfl) (by simp) (room_some hu12) (by decide)) ?_
      exact XE
     show V _ _ _ _
     obtain ⟨t13, ht13, h⟩ := of_sI h
     refine V_reg (mb 23 7200) [80, 40] (s1 := ⟨bt 5 (.ow 40 :: bt 4 (.ow 80 :: I ((y3.length : Int)) :: I t13 :: bt 10 [])), [(80, .arr 25 3 (y3.map c25)), (40, .arr 25 3 ((l5 ++ ([y11])).map c25))]⟩) ?_ ?_
     ·refine XR 2 ?_
      refine XL_nil ?_
      subst ht13
      kernel_rfl
     exact ⟨n, Nat.lt_succ_self n, _, _,  by rfl, h⟩
    ·have h := of_false h hc8
     refine V_exit ?_
     obtain rfl := some_inj h
     show St.keep _ _ _ = _
     rfl
  show V _ _ _ _
  refine V_e (mb 23 16) [40] (s1 := ⟨bt 4 (.ow 40 :: bt 18 []), [(40, .arr 25 3 (o7.map c25))]⟩) ?_
  refine V_ret ?_
  obtain rfl := some_inj h
  show Post _ _ _ _ _
  exact ⟨.inr rfl, rfl, rfl, rfl⟩
theorem cf_spec_SublatticeClasses : ∀ args w, (callFunc 32 args).run Tryz.prog w = .ok (.enter 32 args) w := run_callFunc Tryz.func32 (by kernel_rfl) (by kernel_rfl)
theorem s_spec_SublatticeClasses {f1 : (Int × Int × Int)} {p2 : Int} {r : ((List ((Int × Int × Int))) × Bool)} (h : r_spec_SublatticeClasses f1 p2 = some r) : CallS Tryz.prog 32 [.ag [Ti f1.1, Ti f1.2.1, Ti f1.2.2], I p2] (.tc (.ow 0) (.tc (Bo r.2) .tn)) [(0, .arr 25 3 (r.1.map c25))] := by
  refine CallS_of_text (rs := [.t 4, .t 5]) (vs := [.tmp 4, .tmp 5]) Tryz.func32 rfl rfl (.cons rfl (.cons rfl FitsL.nil)) (by decide) 17 rfl ?_
  unfold r_spec_SublatticeClasses at h
  show V _ _ ⟨.ag [Ti f1.1, Ti f1.2.1, Ti f1.2.2] :: I p2 :: bt 15 [], []⟩ _
  refine V_sreg (mb 17 6) [16] (s1 := ⟨.bot :: I p2 :: .pt 16 0 :: bt 14 [], [(16, .box [Ti f1.1, Ti f1.2.1, Ti f1.2.2])]⟩) ?_ ?_
  ·refine XR 1 ?_
   refine L1 rfl rfl (Y1_nil (e := 25) 3 (by decide) (.inl rfl)) ?_
   exact XE
  refine V_seq ?_
  obtain ⟨y3, hy3, h⟩ := of_bind h
  obtain ⟨b6, hb6, h⟩ := of_bind h
  refine V_sreg (mb 17 8198) [16] (s1 := ⟨.bot :: I p2 :: .pt 16 0 :: bt 10 (Bo b6 :: bt 3 []), [(16, .box [Ti f1.1, Ti f1.2.1, Ti f1.2.2])]⟩) ?_ ?_
  ·refine XR 1 ?_
   refine XC (s_spec_coGood hy3) cf_spec_coGood rfl rfl rfl ?_
   refine XR 2 ?_
   refine XL_split (!y3) (fun hc4 => ?_) (fun hc4 => ?_)
   ·have hb6 := some_inj (of_true hb6 hc4)
    refine XL_skipF _ rfl rfl (by kernel_rfl) hc4 rfl ?_
    refine XL_skipF _ rfl rfl (by kernel_rfl) hc4 rfl ?_
    refine XL_skipF _ rfl rfl (by kernel_rfl) hc4 rfl ?_
    refine XL_cons rfl (X_of_Y0 rfl (Y0_pickTe (b := !y3) (p := true) rfl (by kernel_rfl) hc4 (by kernel_rfl) hb6)) ?_
    exact XE
   ·have hb6 := of_false hb6 hc4
    obtain ⟨y5, hy5, hb6⟩ := of_bind hb6
    have hb6 := some_inj hb6
    refine XL_takeC _ rfl rfl (by kernel_rfl) hc4 (X_of_Y0 rfl (E_move (I p2) rfl (by kernel_rfl))) ?_
    refine XL_takeC _ rfl rfl (by kernel_rfl) hc4 (X_of_Y1 rfl (Y1_call (s_spec_hkPrime hy5) cf_spec_hkPrime rfl (by kernel_rfl))) ?_
    refine XL_takeC _ rfl rfl (by kernel_rfl) hc4 (X_of_Y0 rfl (Y0_not (b := y5) rfl (by kernel_rfl))) ?_
    refine XL_cons rfl (X_of_Y0 rfl (Y0_pickFe (b := !y3) (p := !y5) rfl (by kernel_rfl) hc4 (by kernel_rfl) hb6)) ?_
    exact XE
  refine V_cond rfl (fun hc7 => ?_) (fun hc7 => ?_)
  ·have h := of_true h hc7
   refine V_sreg (mb 17 48) [32] (s1 := ⟨bt 4 (.ow 32 :: Bo false :: bt 11 []), [(32, .arr 25 3 ((([] : List ((Int × Int × Int)))).map c25))]⟩) ?_ ?_
   ·refine L1 rfl rfl (Y1_nil (e := 25) 3 (by decide) (.inl rfl)) ?_
    exact XE
   refine V_ret ?_
   obtain rfl := some_inj h
   show Post _ _ _ _ _
   exact ⟨.inr rfl, rfl, rfl, rfl⟩
  ·have h := of_false h hc7
   refine V_skip ?_
   show V _ _ _ _
   obtain ⟨y8, hy8, h⟩ := of_bind h
   refine V_sreg (mb 17 48) [128] (s1 := ⟨bt 4 (.ow 128 :: Bo true :: bt 11 []), [(128, .arr 25 3 (y8.map c25))]⟩) ?_ ?_
   ·refine XR 2 ?_
    refine XC (s_spec_hkClasses hy8) cf_spec_hkClasses rfl rfl rfl ?_
    exact XE
   refine V_ret ?_
   obtain rfl := some_inj h
   show Post _ _ _ _ _
   exact ⟨.inr rfl, rfl, rfl, rfl⟩
theorem cf_laws_qForms : ∀ args w, (callFunc 33 args).run Tryz.prog w = .ok (.enter 33 args) w := run_callFunc Tryz.func33 (by kernel_rfl) (by kernel_rfl)
theorem s_laws_qForms {a1 : List ((Int × Int × Int))} {b2 : List ((Int × Int × Int))} {r : Bool} (h : r_laws_qForms a1 b2 = some r) : CallS Tryz.prog 33 [.c (.sl (a1.map c25)), .c (.sl (b2.map c25))] (Bo r) [] := by
  refine CallS_of_text (rs := [.t 4]) (vs := [.tmp 4]) Tryz.func33 rfl rfl (.cons rfl FitsL.nil) (by decide) 26 rfl ?_
  unfold r_laws_qForms at h
  show V _ _ ⟨.c (.sl (a1.map c25)) :: .c (.sl (b2.map c25)) :: bt 24 [], []⟩ _
  refine V_e (mb 26 3) [] (s1 := ⟨.c (.sl (a1.map c25)) :: .c (.sl (b2.map c25)) :: bt 24 [], []⟩) ?_
  refine V_seq ?_
  refine V_sreg (mb 26 1027) [] (s1 := ⟨.c (.sl (a1.map c25)) :: .c (.sl (b2.map c25)) :: bt 8 (Bo (!eqI ((a1.length : Int)) ((b2.length : Int))) :: bt 15 []), []⟩) ?_ ?_
  ·refine XR 1 ?_
   refine L0 rfl rfl (Y0_lenM (c := c25) (xs := a1) Tryz.underlying38 rfl (by kernel_rfl)) ?_
   refine XR 1 ?_
   refine L0 rfl rfl (Y0_lenM (c := c25) (xs := b2) Tryz.underlying38 rfl (by kernel_rfl)) ?_
   exact XE
  refine V_cond rfl (fun hc3 => ?_) (fun hc3 => ?_)
  ·have h := of_true h hc3
   refine V_e (mb 26 16) [] (s1 := ⟨bt 4 (Bo false :: bt 21 []), []⟩) ?_
   refine V_ret ?_
   obtain rfl := some_inj h
   show Post _ _ _ _ _
   exact ⟨.inr rfl, rfl, rfl, rfl⟩
  ·have h := of_false h hc3
   refine V_skip ?_
   show V _ _ _ _
   refine V_seq ?_
   refine V_sreg (mb 26 12291) [] (s1 := ⟨.c (.sl (a1.map c25)) :: .c (.sl (b2.map c25)) :: bt 10 (I ((a1.length : Int)) :: I 0 :: bt 12 []), []⟩) ?_ ?_
   ·refine XR 1 ?_
    refine L0 rfl rfl (Y0_lenM (c := c25) (xs := a1) Tryz.underlying38 rfl (by kernel_rfl)) ?_
    exact XE
   obtain ⟨qo6, hLo6, hko6⟩ := of_bind h
   refine V_toS (q := qo6) (S := fun o6 => ⟨bt 26 [], []⟩) (mb 26 0) [] ?_ ?_
   ·refine V_block (V_loop (fun n s => ∃ (t4 : Int), s.keep (mb 26 12291) [] = (⟨.c (.sl (a1.map c25)) :: .c (.sl (b2.map c25)) :: bt 10 (I ((a1.length : Int)) :: I t4 :: bt 12 []), []⟩ : St) ∧ r_laws_qForms_L5 a1 b2 n t4 = some qo6) FU ⟨_,  by rfl, hLo6⟩ ?_)
    clear hLo6
    rintro n s ⟨t4, hs, h⟩
    refine V_keep _ _ hs ?_
    clear hs
    cases n with
    | zero => cases h
    | succ n =>
     rw [r_laws_qForms_L5] at h
     refine V_e (mb 26 28675) [] (s1 := ⟨.c (.sl (a1.map c25)) :: .c (.sl (b2.map c25)) :: bt 10 (I ((a1.length : Int)) :: I t4 :: Bo (ltI t4 ((a1.length : Int))) :: bt 11 []), []⟩) ?_
     refine V_seq ?_
     refine V_cond rfl (fun hc7 => ?_) (fun hc7 => ?_)
     ·have h := of_true h hc7
      refine V_skip ?_
      show V _ _ _ _
      refine V_seq ?_
      refine V_block ?_
      refine V_e (mb 26 12323) [] (s1 := ⟨.c (.sl (a1.map c25)) :: .c (.sl (b2.map c25)) :: bt 3 (I t4 :: bt 6 (I ((a1.length : Int)) :: I t4 :: bt 12 [])), []⟩) ?_
      obtain ⟨e8, he8, h⟩ := of_bind h
      obtain ⟨e9, he9, h⟩ := of_bind h
      obtain ⟨t10, ht10, h⟩ := of_bind h
      have ht10 := some_inj ht10
      refine V_sdreg [0, 0, 3, 7, 0, 0, 48, 112, 255] 9 (cdm 9 [43528, 43522, 43525, 43541, 2218, 682, 1450, 5546, 21845]) (mb 26 16789507) [] (s1 := ⟨.c (.sl (a1.map c25)) :: .c (.sl (b2.map c25)) :: bt 10 (I ((a1.length : Int)) :: I t4 :: bt 10 (Bo t10 :: .bot :: [])), []⟩) (by kernel_rfl) (by kernel_rfl) ?_ ?_
      ·refine DR 2 ?_
       refine DE_0 2 (.pe [Ti e8.1, Ti e8.2.1, Ti e8.2.2]) (by kernel_rfl) rfl rfl rfl (gsat_none rfl) (by kernel_rfl) (Y0_idxM (c := c25) (xs := a1) (v := e8) (n := t4) Tryz.underlying38 sz25 rfl (by kernel_rfl) (by kernel_rfl) he8) 18 rfl ?_
       refine DR 3 ?_
       refine DE_0 6 (.pe [Ti e9.1, Ti e9.2.1, Ti e9.2.2]) (by kernel_rfl) rfl rfl rfl (gsat_none rfl) (by kernel_rfl) (Y0_idxM (c := c25) (xs := b2) (v := e9) (n := t4) Tryz.underlying38 sz25 rfl (by kernel_rfl) (by kernel_rfl) he9) 22 rfl ?_
       refine DR 1 ?_
       refine DE_0 8 (Bo (!((e8.1 == e9.1) && ((e8.2.1 == e9.2.1) && (e8.2.2 == e9.2.2))))) (by kernel_rfl) rfl rfl rfl (gsat_none rfl) (by kernel_rfl) (Y0_neg3 (a0 := e8.1) (b0 := e9.1) (a1 := e8.2.1) (b1 := e9.2.1) (a2 := e8.2.2) (b2 := e9.2.2) neg25 rfl (by kernel_rfl) (by kernel_rfl)) 24 rfl ?_
       refine DA 0 ?_
       refine XL_nil ?_
       subst ht10
       kernel_rfl
      refine V_cond rfl (fun hc11 => ?_) (fun hc11 => ?_)
      ·have h := of_true h hc11
       refine V_e (mb 26 16) [] (s1 := ⟨bt 4 (Bo false :: bt 21 []), []⟩) ?_
       refine V_ret ?_
       obtain rfl := some_inj h
       have h := hko6
       obtain rfl := some_inj h
       show Post _ _ _ _ _
       exact ⟨.inr rfl, rfl, rfl, rfl⟩
      ·have h := of_false h hc11
       refine V_skip ?_
       show V _ _ _ _
       obtain ⟨t12, ht12, h⟩ := of_sI h
       refine V_reg (mb 26 12291) [] (s1 := ⟨.c (.sl (a1.map c25)) :: .c (.sl (b2.map c25)) :: bt 10 (I ((a1.length : Int)) :: I t12 :: bt 12 []), []⟩) ?_ ?_
       ·refine XR 2 ?_
        refine XL_nil ?_
        subst ht12
        kernel_rfl
       exact ⟨n, Nat.lt_succ_self n, _,  by rfl, h⟩
     ·have h := of_false h hc7
      refine V_exit ?_
      obtain rfl := some_inj h
      exact ⟨_, rfl, by rfl⟩
   rintro o6 rfl
   have h := hko6
   clear hko6
   show V _ _ _ _
   refine V_e (mb 26 16) [] (s1 := ⟨bt 4 (Bo true :: bt 21 []), []⟩) ?_
   refine V_ret ?_
   obtain rfl := some_inj h
   show Post _ _ _ _ _
   exact ⟨.inr rfl, rfl, rfl, rfl⟩
theorem cf_impl_IsMatrix : ∀ args w, (callFunc 74 args).run Tryz.prog w = .ok (.enter 74 args) w := run_callFunc Tryz.func74 (by kernel_rfl) (by kernel_rfl)
theorem s_impl_IsMatrix {vm1 : (Int × Int × Int × Int)} {r : Bool} (h : r_impl_IsMatrix vm1 = some r) : CallS Tryz.prog 74 [.ag [Ti vm1.1, Ti vm1.2.1, Ti vm1.2.2.1, Ti vm1.2.2.2]] (Bo r) [] := by
  refine CallS_of_text (rs := [.t 2]) (vs := [.tmp 2]) Tryz.func74 rfl rfl (.cons rfl FitsL.nil) (by decide) 13 rfl ?_
  unfold r_impl_IsMatrix at h
  show V _ _ ⟨.ag [Ti vm1.1, Ti vm1.2.1, Ti vm1.2.2.1, Ti vm1.2.2.2] :: bt 12 [], []⟩ _
  refine V_e (mb 13 2) [8] (s1 := ⟨.bot :: .pt 8 0 :: bt 11 [], [(8, .box [Ti vm1.1, Ti vm1.2.1, Ti vm1.2.2.1, Ti vm1.2.2.2])]⟩) ?_
  obtain ⟨y2, hy2, h⟩ := of_bind h
  refine V_sreg (mb 13 4) [] (s1 := ⟨.bot :: .bot :: Bo y2 :: bt 10 [], []⟩) ?_ ?_
  ·refine XR 8 ?_
   refine L1 rfl rfl (Y1_bslice (z := zv3) (els := [vm1.1, vm1.2.1, vm1.2.2.1, vm1.2.2.2].map c3) Tryz.underlying51 iz3 rfl (by decide) rfl (by kernel_rfl) rfl (by simp [c3]) (by decide) (by decide)) ?_
   refine L1 rfl rfl (Y1_callS (s_impl_areNumbers hy2) cf_impl_areNumbers rfl (by kernel_rfl) rfl rfl) ?_
   exact XE
  refine V_ret ?_
  obtain rfl := some_inj h
  show Post _ _ _ _ _
  exact ⟨.inr rfl, rfl, rfl, rfl⟩
theorem cf_impl_ReduceForm : ∀ args w, (callFunc 34 args).run Tryz.prog w = .ok (.enter 34 args) w := run_callFunc Tryz.func34 (by kernel_rfl) (by kernel_rfl)
theorem s_impl_ReduceForm {f1 : (Int × Int × Int)} {r : (((Int × Int × Int)) × ((Int × Int × Int × Int)) × Bool)} (h : r_impl_ReduceForm f1 = some r) : CallS Tryz.prog 34 [.ag [Ti f1.1, Ti f1.2.1, Ti f1.2.2]] (.tc (.ag [Ti r.1.1, Ti r.1.2.1, Ti r.1.2.2]) (.tc (.ag [Ti r.2.1.1, Ti r.2.1.2.1, Ti r.2.1.2.2.1, Ti r.2.1.2.2.2]) (.tc (Bo r.2.2) .tn))) [] := by
  refine CallS_of_text (rs := [.w 2 3, .w 3 4, .t 4]) (vs := [.cell 2 25, .cell 3 31, .tmp 4]) Tryz.func34 rfl rfl (.cons ⟨rfl, wd25⟩ (.cons ⟨rfl, wd31⟩ (.cons rfl FitsL.nil))) (by decide) 24 rfl ?_
  unfold r_impl_ReduceForm at h
  show V _ _ ⟨.ag [Ti f1.1, Ti f1.2.1, Ti f1.2.2] :: bt 23 [], []⟩ _
  refine V_e (mb 24 14) [24, 16, 8] (s1 := ⟨.bot :: .pt 8 0 :: .pt 16 0 :: .pt 24 0 :: bt 20 [], [(24, .box [Ti 0, Ti 0, Ti 0, Ti 0]), (16, .box [Ti 0, Ti 0, Ti 0]), (8, .box [Ti f1.1, Ti f1.2.1, Ti f1.2.2])]⟩) ?_
  refine V_seq ?_
  obtain ⟨y2, hy2, h⟩ := of_bind h
  refine V_sreg (mb 24 526) [24, 16, 8] (s1 := ⟨.bot :: .pt 8 0 :: .pt 16 0 :: .pt 24 0 :: bt 5 (Bo (!y2) :: bt 14 []), [(24, .box [Ti 0, Ti 0, Ti 0, Ti 0]), (16, .box [Ti 0, Ti 0, Ti 0]), (8, .box [Ti f1.1, Ti f1.2.1, Ti f1.2.2])]⟩) ?_ ?_
  ·refine XR 1 ?_
   refine XC (s_impl_isDefinite hy2) cf_impl_isDefinite rfl rfl rfl ?_
   exact XE
  refine V_cond rfl (fun hc3 => ?_) (fun hc3 => ?_)
  ·have h := of_true h hc3
   refine V_sreg (mb 24 28) [24, 16] (s1 := ⟨.bot :: .bot :: .pt 16 0 :: .pt 24 0 :: Bo false :: bt 19 [], [(24, .box [Ti 0, Ti 0, Ti 0, Ti 0]), (16, .box [Ti 0, Ti 0, Ti 0])]⟩) ?_ ?_
   ·refine L0 rfl rfl (Y0_build (cs := [Ti 0, Ti 0, Ti 0]) pl25 bt25 rfl rfl (by kernel_rfl)) ?_
    refine L0 rfl rfl (Y0_build (cs := [Ti 0, Ti 0, Ti 0, Ti 0]) pl31 bt31 rfl rfl (by kernel_rfl)) ?_
    exact XE
   refine V_ret ?_
   obtain rfl := some_inj h
   show Post _ _ _ _ _
   exact ⟨.inr rfl, rfl, rfl, rfl⟩
  ·have h := of_false h hc3
   refine V_skip ?_
   show V _ _ _ _
   obtain ⟨y4, hy4, h⟩ := of_bind h
   refine V_sreg (mb 24 108) [48, 40, 24, 16] (s1 := ⟨.bot :: .bot :: .pt 16 0 :: .pt 24 0 :: .bot :: .pt 40 0 :: .pt 48 0 :: bt 17 [], [(48, .box [Ti y4.2.1, Ti y4.2.2.1, Ti y4.2.2.2.1, Ti y4.2.2.2.2]), (40, .box [Ti y4.1.1, Ti y4.1.2.1, Ti y4.1.2.2]), (24, .box [Ti 0, Ti 0, Ti 0, Ti 0]), (16, .box [Ti 0, Ti 0, Ti 0])]⟩) ?_ ?_
   ·refine XR 1 ?_
    refine XC (s_impl_reduce hy4) cf_impl_reduce rfl rfl rfl ?_
    exact XE
   refine V_seq ?_
   obtain ⟨y5, hy5, h⟩ := of_bind h
   refine V_sreg (mb 24 524396) [48, 40, 24, 16] (s1 := ⟨.bot :: .bot :: .pt 16 0 :: .pt 24 0 :: .bot :: .pt 40 0 :: .pt 48 0 :: bt 12 (Bo (!y5) :: bt 4 []), [(48, .box [Ti y4.2.1, Ti y4.2.2.1, Ti y4.2.2.2.1, Ti y4.2.2.2.2]), (40, .box [Ti y4.1.1, Ti y4.1.2.1, Ti y4.1.2.2]), (24, .box [Ti 0, Ti 0, Ti 0, Ti 0]), (16, .box [Ti 0, Ti 0, Ti 0])]⟩) ?_ ?_
   ·refine XR 1 ?_
    refine XC (s_impl_IsMatrix hy5) cf_impl_IsMatrix rfl rfl rfl ?_
    exact XE
   refine V_cond rfl (fun hc6 => ?_) (fun hc6 => ?_)
   ·have h := of_true h hc6
    refine V_sreg (mb 24 28) [24, 16] (s1 := ⟨.bot :: .bot :: .pt 16 0 :: .pt 24 0 :: Bo false :: bt 19 [], [(24, .box [Ti 0, Ti 0, Ti 0, Ti 0]), (16, .box [Ti 0, Ti 0, Ti 0])]⟩) ?_ ?_
    ·refine L0 rfl rfl (Y0_build (cs := [Ti 0, Ti 0, Ti 0]) pl25 bt25 rfl rfl (by kernel_rfl)) ?_
     refine L0 rfl rfl (Y0_build (cs := [Ti 0, Ti 0, Ti 0, Ti 0]) pl31 bt31 rfl rfl (by kernel_rfl)) ?_
     exact XE
    refine V_ret ?_
    obtain rfl := some_inj h
    show Post _ _ _ _ _
    exact ⟨.inr rfl, rfl, rfl, rfl⟩
   ·have h := of_false h hc6
    refine V_skip ?_
    show V _ _ _ _
    refine V_sdreg [0, 0, 1, 7, 15] 3 [[.z, .b, .z], [.b, .z, .r 16], [.a, .b, .z]] (mb 24 28) [24, 16] (s1 := ⟨.bot :: .bot :: .pt 16 0 :: .pt 24 0 :: Bo true :: bt 19 [], [(24, .box [Ti y4.2.1, Ti y4.2.2.1, Ti y4.2.2.2.1, Ti y4.2.2.2.2]), (16, .box [Ti y4.1.1, Ti y4.1.2.1, Ti y4.1.2.2])]⟩) (by kernel_rfl) (by kernel_rfl) ?_ ?_
    ·refine DA 3 ?_
     exact XE
    refine V_ret ?_
    obtain rfl := some_inj h
    show Post _ _ _ _ _
    exact ⟨.inr rfl, rfl, rfl, rfl⟩
theorem cf_impl_divisors : ∀ args w, (callFunc 105 args).run Tryz.prog w = .ok (.enter 105 args) w := run_callFunc Tryz.func105 (by kernel_rfl) (by kernel_rfl)
theorem s_impl_divisors {vn1 : Int} {r : List Int} (h : r_impl_divisors vn1 = some r) : CallS Tryz.prog 105 [I vn1] (.ow 0) [(0, .arr 3 1 (r.map c3))] := by
  refine CallS_of_text (rs := [.t 2]) (vs := [.tmp 2]) Tryz.func105 rfl rfl (.cons rfl FitsL.nil) (by decide) 50 rfl ?_
  unfold r_impl_divisors at h
  show V _ _ ⟨I vn1 :: bt 49 [], []⟩ _
  refine V_sreg (mb 50 1) [] (s1 := ⟨I vn1 :: bt 49 [], []⟩) ?_ ?_
  ·refine L1 rfl rfl (Y1_nil (e := 3) 1 (by decide) (.inl rfl)) ?_
   exact XE
  refine V_sreg (mb 50 25) [64, 56] (s1 := ⟨I vn1 :: .bot :: .bot :: .ow 56 :: .ow 64 :: bt 45 [], [(64, .arr 3 1 ((([] : List Int)).map c3)), (56, .arr 3 1 ((([] : List Int)).map c3))]⟩) ?_ ?_
  ·refine L1 rfl rfl (Y1_bslice0 Tryz.underlying51 sz3 (by decide) rfl rfl) ?_
   refine L1 rfl rfl (Y1_bslice0 Tryz.underlying51 sz3 (by decide) rfl rfl) ?_
   exact XE
  refine V_seq ?_
  refine V_e (mb 50 57) [64, 56] (s1 := ⟨I vn1 :: .bot :: .bot :: .ow 56 :: .ow 64 :: I 1 :: bt 44 [], [(64, .arr 3 1 ((([] : List Int)).map c3)), (56, .arr 3 1 ((([] : List Int)).map c3))]⟩) ?_
  obtain ⟨o6, hLo6, h⟩ := of_bind h
  refine V_toK (mb 50 24) [64, 56] (s1 := ⟨bt 3 (.ow 56 :: .ow 64 :: bt 45 []), [(64, .arr 3 1 (o6.1.map c3)), (56, .arr 3 1 (o6.2.map c3))]⟩) ?_ ?_
  ·clear h
   refine V_block (V_loop (fun n s => ∃ (k2 : Int) (l3 : List Int) (l4 : List Int), s.keep (mb 50 57) [64, 56] = (⟨I vn1 :: .bot :: .bot :: .ow 56 :: .ow 64 :: I k2 :: bt 44 [], [(64, .arr 3 1 (l3.map c3)), (56, .arr 3 1 (l4.map c3))]⟩ : St) ∧ r_impl_divisors_L5 vn1 n k2 l3 l4 = some o6) FU ⟨_, _, _,  by rfl, hLo6⟩ ?_)
   clear hLo6
   rintro n s ⟨k2, l3, l4, hs, h⟩
   refine V_keep _ _ hs ?_
   clear hs
   cases n with
   | zero => cases h
   | succ n =>
    rw [r_impl_divisors_L5] at h
    refine V_seq ?_
    refine V_e (mb 50 8249) [64, 56] (s1 := ⟨I vn1 :: .bot :: .bot :: .ow 56 :: .ow 64 :: I k2 :: bt 7 (Bo (leI (w64 (k2 * k2)) vn1) :: bt 36 []), [(64, .arr 3 1 (l3.map c3)), (56, .arr 3 1 (l4.map c3))]⟩) ?_
    refine V_cond rfl (fun hc7 => ?_) (fun hc7 => ?_)
    ·have h := of_true h hc7
     refine V_skip ?_
     show V _ _ _ _
     refine V_seq ?_
     refine V_block ?_
     refine V_seq ?_
     obtain ⟨z8, hz8, h⟩ := of_bind h
     refine V_sreg (mb 50 524345) [64, 56] (s1 := ⟨I vn1 :: .bot :: .bot :: .ow 56 :: .ow 64 :: I k2 :: bt 13 (Bo (!eqI (Int.tmod vn1 k2) 0) :: bt 30 []), [(64, .arr 3 1 (l3.map c3)), (56, .arr 3 1 (l4.map c3))]⟩) ?_ ?_
     ·refine XR 2 ?_
      refine L0 rfl rfl (Y0_rem (k := .i64) (a := vn1) (b := k2) rfl (by kernel_rfl) (by kernel_rfl) (nz_some hz8)) ?_
      exact XE
     refine V_cond rfl (fun hc9 => ?_) (fun hc9 => ?_)
     ·have h := of_true h hc9
      refine V_exit ?_
      show V _ _ _ _
      obtain ⟨k10, hk10, h⟩ := of_sI h
      refine V_reg (mb 50 57) [64, 56] (s1 := ⟨I vn1 :: .bot :: .bot :: .ow 56 :: .ow 64 :: I k10 :: bt 44 [], [(64, .arr 3 1 (l3.map c3)), (56, .arr 3 1 (l4.map c3))]⟩) ?_ ?_
      ·refine XR 3 ?_
       refine XL_nil ?_
       subst hk10
       kernel_rfl
      exact ⟨n, Nat.lt_succ_self n, _, _, _,  by rfl, h⟩
     ·have h := of_false h hc9
      refine V_skip ?_
      show V _ _ _ _
      obtain ⟨u11, hu11, h⟩ := of_bind h
      refine V_sreg (mb 50 57) [64, 56] (s1 := ⟨I vn1 :: .bot :: .bot :: .ow 56 :: .ow 64 :: I k2 :: bt 44 [], [(64, .arr 3 1 (l3.map c3)), (56, .arr 3 1 ((l4 ++ ([k2])).map c3))]⟩) ?_ ?_
      ·refine XR 2 ?_
       refine L1 rfl rfl (Y1_bslice (z := zv3) (els := [k2].map c3) Tryz.underlying51 iz3 rfl (by decide) rfl (by kernel_rfl) rfl (by simp [c3]) (by decide) (by decide)) ?_
       refine XL_cons rfl (X_appendM (c := c3) (xs := l4) (ys := [k2]) (id := 56) (z := zv3) rfl rfl Tryz.underlying51 izb3 rfl (by kernel_rfl) (by kernel_rfl) (by kernel_rfl) (fun _ => rfl) (by simp) (room_some hu11) (by decide)) ?_
       exact XE
      refine V_e (mb 50 268435513) [64, 56] (s1 := ⟨I vn1 :: .bot :: .bot :: .ow 56 :: .ow 64 :: I k2 :: bt 22 (Bo (!eqI (w64 (k2 * k2)) vn1) :: bt 21 []), [(64, .arr 3 1 (l3.map c3)), (56, .arr 3 1 ((l4 ++ ([k2])).map c3))]⟩) ?_
      refine V_cond rfl (fun hc12 => ?_) (fun hc12 => ?_)
      ·have h := of_true h hc12
       obtain ⟨z13, hz13, h⟩ := of_bind h
       obtain ⟨u14, hu14, h⟩ := of_bind h
       refine V_reg (mb 50 57) [64, 56] (s1 := ⟨I vn1 :: .bot :: .bot :: .ow 56 :: .ow 64 :: I k2 :: bt 44 [], [(64, .arr 3 1 ((l3 ++ ([w64 (Int.tdiv vn1 k2)])).map c3)), (56, .arr 3 1 ((l4 ++ ([k2])).map c3))]⟩) ?_ ?_
       ·refine XR 3 ?_
        refine L0 rfl rfl (Y0_quo64 (a := vn1) (b := k2) rfl (by kernel_rfl) (by kernel_rfl) (nz_some hz13)) ?_
        refine L1 rfl rfl (Y1_bslice (z := zv3) (els := [w64 (Int.tdiv vn1 k2)].map c3) Tryz.underlying51 iz3 rfl (by decide) rfl (by kernel_rfl) rfl (by simp [c3]) (by decide) (by decide)) ?_
        refine XL_cons rfl (X_appendM (c := c3) (xs := l3) (ys := [w64 (Int.tdiv vn1 k2)]) (id := 64) (z := zv3) rfl rfl Tryz.underlying51 izb3 rfl (by kernel_rfl) (by kernel_rfl) (by kernel_rfl) (fun _ => rfl) (by simp) (room_some hu14) (by decide)) ?_
        exact XE
       show V _ _ _ _
       obtain ⟨k15, hk15, h⟩ := of_sI h
       refine V_reg (mb 50 57) [64, 56] (s1 := ⟨I vn1 :: .bot :: .bot :: .ow 56 :: .ow 64 :: I k15 :: bt 44 [], [(64, .arr 3 1 ((l3 ++ ([w64 (Int.tdiv vn1 k2)])).map c3)), (56, .arr 3 1 ((l4 ++ ([k2])).map c3))]⟩) ?_ ?_
       ·refine XR 3 ?_
        refine XL_nil ?_
        subst hk15
        kernel_rfl
       exact ⟨n, Nat.lt_succ_self n, _, _, _,  by rfl, h⟩
      ·have h := of_false h hc12
       refine V_skip ?_
       show V _ _ _ _
       obtain ⟨k16, hk16, h⟩ := of_sI h
       refine V_reg (mb 50 57) [64, 56] (s1 := ⟨I vn1 :: .bot :: .bot :: .ow 56 :: .ow 64 :: I k16 :: bt 44 [], [(64, .arr 3 1 (l3.map c3)), (56, .arr 3 1 ((l4 ++ ([k2])).map c3))]⟩) ?_ ?_
       ·refine XR 3 ?_
        refine XL_nil ?_
        subst hk16
        kernel_rfl
       exact ⟨n, Nat.lt_succ_self n, _, _, _,  by rfl, h⟩
    ·have h := of_false h hc7
     refine V_exit ?_
     obtain rfl := some_inj h
     show St.keep _ _ _ = _
     rfl
  show V _ _ _ _
  refine V_seq ?_
  obtain ⟨i17, hi17, h⟩ := of_sI h
  refine V_sreg (mb 50 88) [64, 56] (s1 := ⟨bt 3 (.ow 56 :: .ow 64 :: .bot :: I i17 :: bt 43 []), [(64, .arr 3 1 (o6.1.map c3)), (56, .arr 3 1 (o6.2.map c3))]⟩) ?_ ?_
  ·refine XR 1 ?_
   refine L0 rfl rfl (Y0_lenM (c := c3) (xs := o6.1) Tryz.underlying51 rfl (by kernel_rfl)) ?_
   refine XR 2 ?_
   refine XL_nil ?_
   subst hi17
   kernel_rfl
  obtain ⟨o21, hLo21, h⟩ := of_bind h
  refine V_toK (mb 50 8) [56] (s1 := ⟨bt 3 (.ow 56 :: bt 46 []), [(56, .arr 3 1 (o21.map c3))]⟩) ?_ ?_
  ·clear h
   refine V_block (V_loop (fun n s => ∃ (i18 : Int) (l19 : List Int), s.keep (mb 50 88) [64, 56] = (⟨bt 3 (.ow 56 :: .ow 64 :: .bot :: I i18 :: bt 43 []), [(64, .arr 3 1 (o6.1.map c3)), (56, .arr 3 1 (l19.map c3))]⟩ : St) ∧ r_impl_divisors_L20 o6 n i18 l19 = some o21) FU ⟨_, _,  by rfl, hLo21⟩ ?_)
   clear hLo21
   rintro n s ⟨i18, l19, hs, h⟩
   refine V_keep _ _ hs ?_
   clear hs
   cases n with
   | zero => cases h
   | succ n =>
    rw [r_impl_divisors_L20] at h
    refine V_seq ?_
    refine V_e (mb 50 549755813976) [64, 56] (s1 := ⟨bt 3 (.ow 56 :: .ow 64 :: .bot :: I i18 :: bt 32 (Bo (leI 0 i18) :: bt 10 [])), [(64, .arr 3 1 (o6.1.map c3)), (56, .arr 3 1 (l19.map c3))]⟩) ?_
    refine V_cond rfl (fun hc22 => ?_) (fun hc22 => ?_)
    ·have h := of_true h hc22
     refine V_skip ?_
     show V _ _ _ _
     refine V_seq ?_
     refine V_block ?_
     obtain ⟨e23, he23, h⟩ := of_bind h
     obtain ⟨e24, he24, h⟩ := of_bind h
     obtain ⟨u25, hu25, h⟩ := of_bind h
     refine V_reg (mb 50 88) [64, 56] (s1 := ⟨bt 3 (.ow 56 :: .ow 64 :: .bot :: I i18 :: bt 43 []), [(64, .arr 3 1 (o6.1.map c3)), (56, .arr 3 1 ((l19 ++ ([e24])).map c3))]⟩) ?_ ?_
     ·refine XR 3 ?_
      refine L0 rfl rfl (Y0_idxoM (c := c3) (xs := o6.1) (v := e23) (id := 64) (T := 3) (sz := 1) (n := i18) Tryz.underlying51 sz3 rfl (by kernel_rfl) (by kernel_rfl) (by kernel_rfl) he23) ?_
      refine L0 rfl rfl (Y0_loado1 (c := c3) (xs := o6.1) (v := e24) (id := 64) (sz := 1) (T := 3) (off := 0) (n := i18) (d := Ti e24) (ds := []) sc3 rfl (by kernel_rfl) (by kernel_rfl) he24 (by kernel_rfl)) ?_
      refine L1 rfl rfl (Y1_bslice (z := zv3) (els := [e24].map c3) Tryz.underlying51 iz3 rfl (by decide) rfl (by kernel_rfl) rfl (by simp [c3]) (by decide) (by decide)) ?_
      refine XL_cons rfl (X_appendM (c := c3) (xs := l19) (ys := [e24]) (id := 56) (z := zv3) rfl rfl Tryz.underlying51 izb3 rfl (by kernel_rfl) (by kernel_rfl) (by kernel_rfl) (fun _ => rfl) (by simp) (room_some hu25) (by decide)) ?_
      exact XE
     show V _ _ _ _
     obtain ⟨i26, hi26, h⟩ := of_sI h
     refine V_reg (mb 50 88) [64, 56] (s1 := ⟨bt 3 (.ow 56 :: .ow 64 :: .bot :: I i26 :: bt 43 []), [(64, .arr 3 1 (o6.1.map c3)), (56, .arr 3 1 ((l19 ++ ([e24])).map c3))]⟩) ?_ ?_
     ·refine XR 3 ?_
      refine XL_nil ?_
      subst hi26
      kernel_rfl
     exact ⟨n, Nat.lt_succ_self n, _, _,  by rfl, h⟩
    ·have h := of_false h hc22
     refine V_exit ?_
     obtain rfl := some_inj h
     show St.keep _ _ _ = _
     rfl
  show V _ _ _ _
  refine V_e (mb 50 4) [56] (s1 := ⟨.bot :: .bot :: .ow 56 :: bt 47 [], [(56, .arr 3 1 (o21.map c3))]⟩) ?_
  refine V_ret ?_
  obtain rfl := some_inj h
  show Post _ _ _ _ _
  exact ⟨.inr rfl, rfl, rfl, rfl⟩
theorem cf_impl_SublatticesOf : ∀ args w, (callFunc 35 args).run Tryz.prog w = .ok (.enter 35 args) w := run_callFunc Tryz.func35 (by kernel_rfl) (by kernel_rfl)
theorem s_impl_SublatticesOf {vn1 : Int} {r : ((List ((Int × Int × Int))) × Bool)} (h : r_impl_SublatticesOf vn1 = some r) : CallS Tryz.prog 35 [I vn1] (.tc (.ow 0) (.tc (Bo r.2) .tn)) [(0, .arr 62 3 (r.1.map c62))] := by
  refine CallS_of_text (rs := [.t 2, .t 3]) (vs := [.tmp 2, .tmp 3]) Tryz.func35 rfl rfl (.cons rfl (.cons rfl FitsL.nil)) (by decide) 39 rfl ?_
  unfold r_impl_SublatticesOf at h
  show V _ _ ⟨I vn1 :: bt 38 [], []⟩ _
  refine V_sreg (mb 39 1) [] (s1 := ⟨I vn1 :: bt 38 [], []⟩) ?_ ?_
  ·refine L1 rfl rfl (Y1_nil (e := 62) 3 (by decide) (.inl rfl)) ?_
   exact XE
  refine V_seq ?_
  refine V_sreg (mb 39 8193) [] (s1 := ⟨I vn1 :: bt 12 (Bo (bif (ltI vn1 1) then true else (ltI 100 vn1)) :: bt 25 []), []⟩) ?_ ?_
  ·refine XR 3 ?_
   refine XL_split (ltI vn1 1) (fun hc2 => ?_) (fun hc2 => ?_)
   ·refine XL_skipF _ rfl rfl (by kernel_rfl) hc2 rfl ?_
    refine XL_skipF _ rfl rfl (by kernel_rfl) hc2 rfl ?_
    refine XL_cons rfl (X_of_Y0 rfl (Y0_pick1 (b := ltI vn1 1) (p := true) (q := ltI 100 vn1) rfl (by kernel_rfl) hc2 (by kernel_rfl))) ?_
    exact XE
   ·refine XL_takeC _ rfl rfl (by kernel_rfl) hc2 (X_of_Y0 rfl (E_move (I vn1) rfl (by kernel_rfl))) ?_
    refine XL_takeC _ rfl rfl (by kernel_rfl) hc2 (X_of_Y0 rfl (Y0_gtw (k := .i64) (a := vn1) (b := 100) rfl (by kernel_rfl) (by kernel_rfl))) ?_
    refine XL_cons rfl (X_of_Y0 rfl (Y0_pick0 (b := ltI vn1 1) (p := true) (q := ltI 100 vn1) rfl (by kernel_rfl) hc2 (by kernel_rfl))) ?_
    exact XE
  refine V_cond rfl (fun hc3 => ?_) (fun hc3 => ?_)
  ·have h := of_true h hc3
   refine V_sreg (mb 39 12) [112] (s1 := ⟨.bot :: .bot :: .ow 112 :: Bo false :: bt 35 [], [(112, .arr 62 3 ((([] : List ((Int × Int × Int)))).map c62))]⟩) ?_ ?_
   ·refine L1 rfl rfl (Y1_bslice0 Tryz.underlying58 sz62 (by decide) rfl rfl) ?_
    exact XE
   refine V_ret ?_
   obtain rfl := some_inj h
   show Post _ _ _ _ _
   exact ⟨.inr rfl, rfl, rfl, rfl⟩
  ·have h := of_false h hc3
   refine V_skip ?_
   show V _ _ _ _
   refine V_sreg (mb 39 17) [120] (s1 := ⟨I vn1 :: bt 3 (.ow 120 :: bt 34 []), [(120, .arr 62 3 ((([] : List ((Int × Int × Int)))).map c62))]⟩) ?_ ?_
   ·refine L1 rfl rfl (Y1_bslice0 Tryz.underlying58 sz62 (by decide) rfl rfl) ?_
    exact XE
   refine V_seq ?_
   obtain ⟨y4, hy4, h⟩ := of_bind h
   refine V_sreg (mb 39 917521) [136, 120] (s1 := ⟨I vn1 :: bt 3 (.ow 120 :: bt 12 (.ow 136 :: I ((y4.length : Int)) :: I 0 :: bt 19 [])), [(136, .arr 3 1 (y4.map c3)), (120, .arr 62 3 ((([] : List ((Int × Int × Int)))).map c62))]⟩) ?_ ?_
   ·refine XR 1 ?_
    refine XC (s_impl_divisors hy4) cf_impl_divisors rfl rfl rfl ?_
    refine L0 rfl rfl (Y0_lenM (c := c3) (xs := y4) Tryz.underlying51 rfl (by kernel_rfl)) ?_
    exact XE
   obtain ⟨o8, hLo8, h⟩ := of_bind h
   refine V_toK (mb 39 16) [120] (s1 := ⟨bt 4 (.ow 120 :: bt 34 []), [(120, .arr 62 3 (o8.map c62))]⟩) ?_ ?_
   ·clear h
    refine V_block (V_loop (fun n s => ∃ (t5 : Int) (l6 : List ((Int × Int × Int))), s.keep (mb 39 917521) [136, 120] = (⟨I vn1 :: bt 3 (.ow 120 :: bt 12 (.ow 136 :: I ((y4.length : Int)) :: I t5 :: bt 19 [])), [(136, .arr 3 1 (y4.map c3)), (120, .arr 62 3 (l6.map c62))]⟩ : St) ∧ r_impl_SublatticesOf_L7 vn1 y4 n t5 l6 = some o8) FU ⟨_, _,  by rfl, hLo8⟩ ?_)
    clear hLo8
    rintro n s ⟨t5, l6, hs, h⟩
    refine V_keep _ _ hs ?_
    clear hs
    cases n with
    | zero => cases h
    | succ n =>
     rw [r_impl_SublatticesOf_L7] at h
     refine V_e (mb 39 1966097) [136, 120] (s1 := ⟨I vn1 :: bt 3 (.ow 120 :: bt 12 (.ow 136 :: I ((y4.length : Int)) :: I t5 :: Bo (ltI t5 ((y4.length : Int))) :: bt 18 [])), [(136, .arr 3 1 (y4.map c3)), (120, .arr 62 3 (l6.map c62))]⟩) ?_
     refine V_seq ?_
     refine V_cond rfl (fun hc9 => ?_) (fun hc9 => ?_)
     ·have h := of_true h hc9
      refine V_skip ?_
      show V _ _ _ _
      refine V_seq ?_
      refine V_block ?_
      obtain ⟨e10, he10, h⟩ := of_bind h
      obtain ⟨e11, he11, h⟩ := of_bind h
      refine V_sreg (mb 39 917585) [136, 120] (s1 := ⟨I vn1 :: bt 3 (.ow 120 :: .bot :: I e11 :: bt 10 (.ow 136 :: I ((y4.length : Int)) :: I t5 :: bt 19 [])), [(136, .arr 3 1 (y4.map c3)), (120, .arr 62 3 (l6.map c62))]⟩) ?_ ?_
      ·refine L0 rfl rfl (Y0_idxoM (c := c3) (xs := y4) (v := e10) (id := 136) (T := 3) (sz := 1) (n := t5) Tryz.underlying51 sz3 rfl (by kernel_rfl) (by kernel_rfl) (by kernel_rfl) he10) ?_
       refine L0 rfl rfl (Y0_loado1 (c := c3) (xs := y4) (v := e11) (id := 136) (sz := 1) (T := 3) (off := 0) (n := t5) (d := Ti e11) (ds := []) sc3 rfl (by kernel_rfl) (by kernel_rfl) he11 (by kernel_rfl)) ?_
       exact XE
      refine V_e (mb 39 917713) [136, 120] (s1 := ⟨I vn1 :: bt 3 (.ow 120 :: .bot :: I e11 :: I 0 :: bt 9 (.ow 136 :: I ((y4.length : Int)) :: I t5 :: bt 19 [])), [(136, .arr 3 1 (y4.map c3)), (120, .arr 62 3 (l6.map c62))]⟩) ?_
      obtain ⟨o15, hLo15, h⟩ := of_bind h
      refine V_toK (mb 39 917521) [136, 120] (s1 := ⟨I vn1 :: bt 3 (.ow 120 :: bt 12 (.ow 136 :: I ((y4.length : Int)) :: I t5 :: bt 19 [])), [(136, .arr 3 1 (y4.map c3)), (120, .arr 62 3 (o15.map c62))]⟩) ?_ ?_
      ·clear h
       refine V_block (V_loop (fun n s => ∃ (b12 : Int) (l13 : List ((Int × Int × Int))), s.keep (mb 39 917713) [136, 120] = (⟨I vn1 :: bt 3 (.ow 120 :: .bot :: I e11 :: I b12 :: bt 9 (.ow 136 :: I ((y4.length : Int)) :: I t5 :: bt 19 [])), [(136, .arr 3 1 (y4.map c3)), (120, .arr 62 3 (l13.map c62))]⟩ : St) ∧ r_impl_SublatticesOf_L14 e11 t5 vn1 y4 n b12 l13 = some o15) FU ⟨_, _,  by rfl, hLo15⟩ ?_)
       clear hLo15
       rintro n s ⟨b12, l13, hs, h⟩
       refine V_keep _ _ hs ?_
       clear hs
       cases n with
       | zero => cases h
       | succ n =>
        rw [r_impl_SublatticesOf_L14] at h
        refine V_seq ?_
        refine V_e (mb 39 34472145) [136, 120] (s1 := ⟨I vn1 :: bt 3 (.ow 120 :: .bot :: I e11 :: I b12 :: bt 9 (.ow 136 :: I ((y4.length : Int)) :: I t5 :: bt 5 (Bo (ltI b12 e11) :: bt 13 []))), [(136, .arr 3 1 (y4.map c3)), (120, .arr 62 3 (l13.map c62))]⟩) ?_
        refine V_cond rfl (fun hc16 => ?_) (fun hc16 => ?_)
        ·have h := of_true h hc16
         refine V_skip ?_
         show V _ _ _ _
         refine V_seq ?_
         refine V_block ?_
         obtain ⟨z17, hz17, h⟩ := of_bind h
         obtain ⟨u18, hu18, h⟩ := of_bind h
         refine V_reg (mb 39 917713) [136, 120] (s1 := ⟨I vn1 :: bt 3 (.ow 120 :: .bot :: I e11 :: I b12 :: bt 9 (.ow 136 :: I ((y4.length : Int)) :: I t5 :: bt 19 [])), [(136, .arr 3 1 (y4.map c3)), (120, .arr 62 3 ((l13 ++ ([(e11, b12, w64 (Int.tdiv vn1 e11))])).map c62))]⟩) ?_ ?_
         ·refine XR 5 ?_
          refine L0 rfl rfl (Y0_quo64 (a := vn1) (b := e11) rfl (by kernel_rfl) (by kernel_rfl) (nz_some hz17)) ?_
          refine L0 rfl rfl (Y0_build (cs := [Ti e11, Ti b12, Ti (w64 (Int.tdiv vn1 e11))]) pl62 bt62 rfl rfl (by kernel_rfl)) ?_
          refine L1 rfl rfl (Y1_bslice (z := zv62) (els := [(e11, b12, w64 (Int.tdiv vn1 e11))].map c62) Tryz.underlying58 iz62 rfl (by decide) rfl (by kernel_rfl) rfl (by simp [c62]) (by decide) (by decide)) ?_
          refine XL_cons rfl (X_appendM (c := c62) (xs := l13) (ys := [(e11, b12, w64 (Int.tdiv vn1 e11))]) (id := 120) (z := zv62) rfl rfl Tryz.underlying58 izb62 rfl (by kernel_rfl) (by kernel_rfl) (by kernel_rfl) (fun _ => rfl) (by simp) (room_some hu18) (by decide)) ?_
          exact XE
         show V _ _ _ _
         obtain ⟨b19, hb19, h⟩ := of_sI h
         refine V_reg (mb 39 917713) [136, 120] (s1 := ⟨I vn1 :: bt 3 (.ow 120 :: .bot :: I e11 :: I b19 :: bt 9 (.ow 136 :: I ((y4.length : Int)) :: I t5 :: bt 19 [])), [(136, .arr 3 1 (y4.map c3)), (120, .arr 62 3 ((l13 ++ ([(e11, b12, w64 (Int.tdiv vn1 e11))])).map c62))]⟩) ?_ ?_
         ·refine XR 3 ?_
          refine XL_nil ?_
          subst hb19
          kernel_rfl
         exact ⟨n, Nat.lt_succ_self n, _, _,  by rfl, h⟩
        ·have h := of_false h hc16
         refine V_exit ?_
         obtain rfl := some_inj h
         show St.keep _ _ _ = _
         rfl
      show V _ _ _ _
      obtain ⟨t20, ht20, h⟩ := of_sI h
      refine V_reg (mb 39 917521) [136, 120] (s1 := ⟨I vn1 :: bt 3 (.ow 120 :: bt 12 (.ow 136 :: I ((y4.length : Int)) :: I t20 :: bt 19 [])), [(136, .arr 3 1 (y4.map c3)), (120, .arr 62 3 (o15.map c62))]⟩) ?_ ?_
      ·refine XR 2 ?_
       refine XL_nil ?_
       subst ht20
       kernel_rfl
      exact ⟨n, Nat.lt_succ_self n, _, _,  by rfl, h⟩
     ·have h := of_false h hc9
      refine V_exit ?_
      obtain rfl := some_inj h
      show St.keep _ _ _ = _
      rfl
   show V _ _ _ _
   refine V_e (mb 39 12) [120] (s1 := ⟨.bot :: .bot :: .ow 120 :: Bo true :: bt 35 [], [(120, .arr 62 3 (o8.map c62))]⟩) ?_
   refine V_ret ?_
   obtain rfl := some_inj h
   show Post _ _ _ _ _
   exact ⟨.inr rfl, rfl, rfl, rfl⟩
theorem cf_impl_primitiveOf : ∀ args w, (callFunc 106 args).run Tryz.prog w = .ok (.enter 106 args) w := run_callFunc Tryz.func106 (by kernel_rfl) (by kernel_rfl)
theorem s_impl_primitiveOf {forms1 : List ((Int × Int × Int))} {r : List ((Int × Int × Int))} (h : r_impl_primitiveOf forms1 = some r) : CallS Tryz.prog 106 [.c (.sl (forms1.map c25))] (.ow 0) [(0, .arr 25 3 (r.map c25))] := by
  refine CallS_of_text (rs := [.t 2]) (vs := [.tmp 2]) Tryz.func106 rfl rfl (.cons rfl FitsL.nil) (by decide) 22 rfl ?_
  unfold r_impl_primitiveOf at h
  show V _ _ ⟨.c (.sl (forms1.map c25)) :: bt 21 [], []⟩ _
  refine V_sreg (mb 22 1) [] (s1 := ⟨.c (.sl (forms1.map c25)) :: bt 21 [], []⟩) ?_ ?_
  ·refine L1 rfl rfl (Y1_nil (e := 25) 3 (by decide) (.inl rfl)) ?_
   exact XE
  refine V_sreg (mb 22 9) [48] (s1 := ⟨.c (.sl (forms1.map c25)) :: .bot :: .bot :: .ow 48 :: bt 18 [], [(48, .arr 25 3 ((([] : List ((Int × Int × Int)))).map c25))]⟩) ?_ ?_
  ·refine L1 rfl rfl (Y1_bslice0 Tryz.underlying38 sz25 (by decide) rfl rfl) ?_
   exact XE
  refine V_seq ?_
  refine V_sreg (mb 22 904) [48] (s1 := ⟨bt 3 (.ow 48 :: bt 3 (.c (.sl (forms1.map c25)) :: I ((forms1.length : Int)) :: I 0 :: bt 12 [])), [(48, .arr 25 3 ((([] : List ((Int × Int × Int)))).map c25))]⟩) ?_ ?_
  ·refine XR 1 ?_
   refine L0 rfl rfl (Y0_lenM (c := c25) (xs := forms1) Tryz.underlying38 rfl (by kernel_rfl)) ?_
   exact XE
  obtain ⟨o5, hLo5, h⟩ := of_bind h
  refine V_toK (mb 22 8) [48] (s1 := ⟨bt 3 (.ow 48 :: bt 18 []), [(48, .arr 25 3 (o5.map c25))]⟩) ?_ ?_
  ·clear h
   refine V_block (V_loop (fun n s => ∃ (t2 : Int) (l3 : List ((Int × Int × Int))), s.keep (mb 22 904) [48] = (⟨bt 3 (.ow 48 :: bt 3 (.c (.sl (forms1.map c25)) :: I ((forms1.length : Int)) :: I t2 :: bt 12 [])), [(48, .arr 25 3 (l3.map c25))]⟩ : St) ∧ r_impl_primitiveOf_L4 forms1 n t2 l3 = some o5) FU ⟨_, _,  by rfl, hLo5⟩ ?_)
   clear hLo5
   rintro n s ⟨t2, l3, hs, h⟩
   refine V_keep _ _ hs ?_
   clear hs
   cases n with
   | zero => cases h
   | succ n =>
    rw [r_impl_primitiveOf_L4] at h
    refine V_e (mb 22 1928) [48] (s1 := ⟨bt 3 (.ow 48 :: bt 3 (.c (.sl (forms1.map c25)) :: I ((forms1.length : Int)) :: I t2 :: Bo (ltI t2 ((forms1.length : Int))) :: bt 11 [])), [(48, .arr 25 3 (l3.map c25))]⟩) ?_
    refine V_seq ?_
    refine V_cond rfl (fun hc6 => ?_) (fun hc6 => ?_)
    ·have h := of_true h hc6
     refine V_skip ?_
     show V _ _ _ _
     refine V_seq ?_
     refine V_block ?_
     obtain ⟨e7, he7, h⟩ := of_bind h
     refine V_sreg (mb 22 936) [40, 48] (s1 := ⟨bt 3 (.ow 48 :: .bot :: .pt 40 0 :: .bot :: .c (.sl (forms1.map c25)) :: I ((forms1.length : Int)) :: I t2 :: bt 12 []), [(40, .box [Ti e7.1, Ti e7.2.1, Ti e7.2.2]), (48, .arr 25 3 (l3.map c25))]⟩) ?_ ?_
     ·refine L0 rfl rfl (Y0_idxM (c := c25) (xs := forms1) (v := e7) (n := t2) Tryz.underlying38 sz25 rfl (by kernel_rfl) (by kernel_rfl) he7) ?_
      exact XE
     obtain ⟨y8, hy8, h⟩ := of_bind h
     refine V_sreg (mb 22 33704) [40, 48] (s1 := ⟨bt 3 (.ow 48 :: .bot :: .pt 40 0 :: .bot :: .c (.sl (forms1.map c25)) :: I ((forms1.length : Int)) :: I t2 :: bt 5 (Bo (eqI y8 1) :: bt 6 [])), [(40, .box [Ti e7.1, Ti e7.2.1, Ti e7.2.2]), (48, .arr 25 3 (l3.map c25))]⟩) ?_ ?_
     ·refine XR 1 ?_
      refine XC (s_impl_Form_content hy8) cf_impl_Form_content rfl rfl rfl ?_
      exact XE
     refine V_cond rfl (fun hc9 => ?_) (fun hc9 => ?_)
     ·have h := of_true h hc9
      obtain ⟨u10, hu10, h⟩ := of_bind h
      refine V_reg (mb 22 904) [48] (s1 := ⟨bt 3 (.ow 48 :: bt 3 (.c (.sl (forms1.map c25)) :: I ((forms1.length : Int)) :: I t2 :: bt 12 [])), [(48, .arr 25 3 ((l3 ++ ([e7])).map c25))]⟩) ?_ ?_
      ·refine XR 2 ?_
       refine L1 rfl rfl (Y1_bslice (z := zv25) (els := [e7].map c25) Tryz.underlying38 iz25 rfl (by decide) rfl (by kernel_rfl) rfl (by simp [c25]) (by decide) (by decide)) ?_
       refine XL_cons rfl (X_appendM (c := c25) (xs := l3) (ys := [e7]) (id := 48) (z := zv25) rfl rfl Tryz.underlying38 izb25 rfl (by kernel_rfl) (by kernel_rfl) (by kernel_rfl) (fun _ => rfl) (by simp) (room_some hu10) (by decide)) ?_
       exact XE
      show V _ _ _ _
      obtain ⟨t11, ht11, h⟩ := of_sI h
      refine V_reg (mb 22 904) [48] (s1 := ⟨bt 3 (.ow 48 :: bt 3 (.c (.sl (forms1.map c25)) :: I ((forms1.length : Int)) :: I t11 :: bt 12 [])), [(48, .arr 25 3 ((l3 ++ ([e7])).map c25))]⟩) ?_ ?_
      ·refine XR 2 ?_
       refine XL_nil ?_
       subst ht11
       kernel_rfl
      exact ⟨n, Nat.lt_succ_self n, _, _,  by rfl, h⟩
     ·have h := of_false h hc9
      refine V_skip ?_
      show V _ _ _ _
      obtain ⟨t12, ht12, h⟩ := of_sI h
      refine V_reg (mb 22 904) [48] (s1 := ⟨bt 3 (.ow 48 :: bt 3 (.c (.sl (forms1.map c25)) :: I ((forms1.length : Int)) :: I t12 :: bt 12 [])), [(48, .arr 25 3 (l3.map c25))]⟩) ?_ ?_
      ·refine XR 2 ?_
       refine XL_nil ?_
       subst ht12
       kernel_rfl
      exact ⟨n, Nat.lt_succ_self n, _, _,  by rfl, h⟩
    ·have h := of_false h hc6
     refine V_exit ?_
     obtain rfl := some_inj h
     show St.keep _ _ _ = _
     rfl
  show V _ _ _ _
  refine V_e (mb 22 4) [48] (s1 := ⟨.bot :: .bot :: .ow 48 :: bt 19 [], [(48, .arr 25 3 (o5.map c25))]⟩) ?_
  refine V_ret ?_
  obtain rfl := some_inj h
  show Post _ _ _ _ _
  exact ⟨.inr rfl, rfl, rfl, rfl⟩
theorem cf_impl_LowerClasses : ∀ args w, (callFunc 36 args).run Tryz.prog w = .ok (.enter 36 args) w := run_callFunc Tryz.func36 (by kernel_rfl) (by kernel_rfl)
theorem s_impl_LowerClasses {f1 : (Int × Int × Int)} {p2 : Int} {r : ((List ((Int × Int × Int))) × Bool)} (h : r_impl_LowerClasses f1 p2 = some r) : CallS Tryz.prog 36 [.ag [Ti f1.1, Ti f1.2.1, Ti f1.2.2], I p2] (.tc (.ow 0) (.tc (Bo r.2) .tn)) [(0, .arr 25 3 (r.1.map c25))] := by
  refine CallS_of_text (rs := [.t 4, .t 5]) (vs := [.tmp 4, .tmp 5]) Tryz.func36 rfl rfl (.cons rfl (.cons rfl FitsL.nil)) (by decide) 17 rfl ?_
  unfold r_impl_LowerClasses at h
  show V _ _ ⟨.ag [Ti f1.1, Ti f1.2.1, Ti f1.2.2] :: I p2 :: bt 15 [], []⟩ _
  refine V_sreg (mb 17 6) [16] (s1 := ⟨.bot :: I p2 :: .pt 16 0 :: bt 14 [], [(16, .box [Ti f1.1, Ti f1.2.1, Ti f1.2.2])]⟩) ?_ ?_
  ·refine XR 1 ?_
   refine L1 rfl rfl (Y1_nil (e := 25) 3 (by decide) (.inl rfl)) ?_
   exact XE
  obtain ⟨y3, hy3, h⟩ := of_bind h
  refine V_sreg (mb 17 192) [88] (s1 := ⟨bt 6 (.ow 88 :: Bo y3.2 :: bt 9 []), [(88, .arr 25 3 (y3.1.map c25))]⟩) ?_ ?_
  ·refine XR 2 ?_
   refine XC (s_impl_SublatticeClasses hy3) cf_impl_SublatticeClasses rfl rfl rfl ?_
   exact XE
  obtain ⟨y4, hy4, h⟩ := of_bind h
  refine V_sreg (mb 17 48) [120] (s1 := ⟨bt 4 (.ow 120 :: Bo y3.2 :: bt 11 []), [(120, .arr 25 3 (y4.map c25))]⟩) ?_ ?_
  ·refine XR 1 ?_
   refine L1 rfl rfl (Y1_callS (s_impl_primitiveOf hy4) cf_impl_primitiveOf rfl (by kernel_rfl) rfl (flatE_cons (fun _ => rfl) rfl)) ?_
   exact XE
  refine V_ret ?_
  obtain rfl := some_inj h
  show Post _ _ _ _ _
  exact ⟨.inr rfl, rfl, rfl, rfl⟩
end Go.Proofs.YtafomkclmkfjeaaGreat
