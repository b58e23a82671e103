/-
  The functions of the program compute what the plain functions say: more of them.
  Conditions: none.
-/
import Derived.Test.YtafomkclmkfjeaaWkSnd2
namespace Go.Proofs.Ytafomkclmkfjeaa
open Go.RowKit
set_option linter.unusedVariables false
set_option linter.unusedSimpArgs false
set_option maxRecDepth 100000
set_option maxHeartbeats 400000
theorem cf_spec_foGood : ∀ args w, (callFunc 134 args).run Try.prog w = .ok (.enter 134 args) w := run_callFunc Try.func134 (by kernel_rfl) (by kernel_rfl)
theorem s_spec_foGood {f1 : (Int × Int × Int)} {r : Bool} (h : r_spec_foGood f1 = some r) : CallS Try.prog 134 [.ag [Ti f1.1, Ti f1.2.1, Ti f1.2.2]] (Bo r) [] := by
  refine CallS_of_text (rs := [.t 2]) (vs := [.tmp 2]) Try.func134 rfl rfl (.cons rfl FitsL.nil) (by decide) 16 rfl ?_
  unfold r_spec_foGood at h
  show V _ _ ⟨.ag [Ti f1.1, Ti f1.2.1, Ti f1.2.2] :: bt 15 [], []⟩ _
  refine V_e (mb 16 2) [8] (s1 := ⟨.bot :: .pt 8 0 :: bt 14 [], [(8, .box [Ti f1.1, Ti f1.2.1, Ti f1.2.2])]⟩) ?_
  obtain ⟨y2, hy2, h⟩ := of_bind h
  obtain ⟨b5, hb5, h⟩ := of_bind h
  obtain ⟨b8, hb8, h⟩ := of_bind h
  refine V_sreg (mb 16 4) [] (s1 := ⟨.bot :: .bot :: Bo b8 :: bt 13 [], []⟩) ?_ ?_
  ·refine XR 2 ?_
   refine XC (s_spec_nuGood hy2) cf_spec_nuGood rfl rfl rfl ?_
   refine XR 1 ?_
   refine XL_split y2 (fun hc3 => ?_) (fun hc3 => ?_)
   ·have hb5 := of_true hb5 hc3
    obtain ⟨y4, hy4, hb5⟩ := of_bind hb5
    have hb5 := some_inj hb5
    refine XL_takeC _ rfl rfl (by kernel_rfl) hc3 (X_of_Y0 rfl (E_field (.pt 8 1) Try.underlying25 rfl sz3 rfl (by kernel_rfl) (by intro hh; cases hh))) ?_
    refine XL_takeC _ rfl rfl (by kernel_rfl) hc3 (X_of_Y0 rfl (Y0_load1 (c := Ti f1.2.1) (cs := [Ti f1.2.2]) sc3 rfl (by kernel_rfl))) ?_
    refine XL_takeC _ rfl rfl (by kernel_rfl) hc3 (X_of_Y1 rfl (Y1_call (s_spec_nuGood hy4) cf_spec_nuGood rfl (by kernel_rfl))) ?_
    refine XL_cons rfl (X_of_Y0 rfl (Y0_pickTe (b := y2) (p := y4) rfl (by kernel_rfl) hc3 (by kernel_rfl) hb5)) ?_
    refine XR 1 ?_
    refine XL_split b5 (fun hc6 => ?_) (fun hc6 => ?_)
    ·have hb8 := of_true hb8 hc6
     obtain ⟨y7, hy7, hb8⟩ := of_bind hb8
     have hb8 := some_inj hb8
     refine XL_takeC _ rfl rfl (by kernel_rfl) hc6 (X_of_Y0 rfl (E_field (.pt 8 2) Try.underlying25 rfl sz3 rfl (by kernel_rfl) (by intro hh; cases hh))) ?_
     refine XL_takeC _ rfl rfl (by kernel_rfl) hc6 (X_of_Y0 rfl (Y0_load1 (c := Ti f1.2.2) (cs := []) sc3 rfl (by kernel_rfl))) ?_
     refine XL_takeC _ rfl rfl (by kernel_rfl) hc6 (X_of_Y1 rfl (Y1_call (s_spec_nuGood hy7) cf_spec_nuGood rfl (by kernel_rfl))) ?_
     refine XL_cons rfl (X_of_Y0 rfl (Y0_pickTe (b := b5) (p := y7) rfl (by kernel_rfl) hc6 (by kernel_rfl) hb8)) ?_
     exact XE
    ·have hb8 := some_inj (of_false hb8 hc6)
     refine XL_skipT _ rfl rfl (by kernel_rfl) hc6 rfl ?_
     refine XL_skipT _ rfl rfl (by kernel_rfl) hc6 rfl ?_
     refine XL_skipT _ rfl rfl (by kernel_rfl) hc6 rfl ?_
     refine XL_cons rfl (X_of_Y0 rfl (Y0_pickFe (b := b5) (p := false) rfl (by kernel_rfl) hc6 (by kernel_rfl) hb8)) ?_
     exact XE
   ·have hb5 := some_inj (of_false hb5 hc3)
    refine XL_skipT _ rfl rfl (by kernel_rfl) hc3 rfl ?_
    refine XL_skipT _ rfl rfl (by kernel_rfl) hc3 rfl ?_
    refine XL_skipT _ rfl rfl (by kernel_rfl) hc3 rfl ?_
    refine XL_cons rfl (X_of_Y0 rfl (Y0_pickFe (b := y2) (p := false) rfl (by kernel_rfl) hc3 (by kernel_rfl) hb5)) ?_
    refine XR 1 ?_
    refine XL_split b5 (fun hc6 => ?_) (fun hc6 => ?_)
    ·have hb8 := of_true hb8 hc6
     obtain ⟨y7, hy7, hb8⟩ := of_bind hb8
     have hb8 := some_inj hb8
     refine XL_takeC _ rfl rfl (by kernel_rfl) hc6 (X_of_Y0 rfl (E_field (.pt 8 2) Try.underlying25 rfl sz3 rfl (by kernel_rfl) (by intro hh; cases hh))) ?_
     refine XL_takeC _ rfl rfl (by kernel_rfl) hc6 (X_of_Y0 rfl (Y0_load1 (c := Ti f1.2.2) (cs := []) sc3 rfl (by kernel_rfl))) ?_
     refine XL_takeC _ rfl rfl (by kernel_rfl) hc6 (X_of_Y1 rfl (Y1_call (s_spec_nuGood hy7) cf_spec_nuGood rfl (by kernel_rfl))) ?_
     refine XL_cons rfl (X_of_Y0 rfl (Y0_pickTe (b := b5) (p := y7) rfl (by kernel_rfl) hc6 (by kernel_rfl) hb8)) ?_
     exact XE
    ·have hb8 := some_inj (of_false hb8 hc6)
     refine XL_skipT _ rfl rfl (by kernel_rfl) hc6 rfl ?_
     refine XL_skipT _ rfl rfl (by kernel_rfl) hc6 rfl ?_
     refine XL_skipT _ rfl rfl (by kernel_rfl) hc6 rfl ?_
     refine XL_cons rfl (X_of_Y0 rfl (Y0_pickFe (b := b5) (p := false) rfl (by kernel_rfl) hc6 (by kernel_rfl) hb8)) ?_
     exact XE
  refine V_ret ?_
  obtain rfl := some_inj h
  show Post _ _ _ _ _
  exact ⟨.inr rfl, rfl, rfl, rfl⟩
theorem cf_spec_foDefinite : ∀ args w, (callFunc 135 args).run Try.prog w = .ok (.enter 135 args) w := run_callFunc Try.func135 (by kernel_rfl) (by kernel_rfl)
theorem s_spec_foDefinite {f1 : (Int × Int × Int)} {r : Bool} (h : r_spec_foDefinite f1 = some r) : CallS Try.prog 135 [.ag [Ti f1.1, Ti f1.2.1, Ti f1.2.2]] (Bo r) [] := by
  refine CallS_of_text (rs := [.t 2]) (vs := [.tmp 2]) Try.func135 rfl rfl (.cons rfl FitsL.nil) (by decide) 15 rfl ?_
  unfold r_spec_foDefinite at h
  show V _ _ ⟨.ag [Ti f1.1, Ti f1.2.1, Ti f1.2.2] :: bt 14 [], []⟩ _
  refine V_e (mb 15 2) [8] (s1 := ⟨.bot :: .pt 8 0 :: bt 13 [], [(8, .box [Ti f1.1, Ti f1.2.1, Ti f1.2.2])]⟩) ?_
  obtain ⟨y2, hy2, h⟩ := of_bind h
  obtain ⟨b5, hb5, h⟩ := of_bind h
  refine V_sreg (mb 15 4) [] (s1 := ⟨.bot :: .bot :: Bo (bif b5 then (ltI 0 f1.1) else false) :: bt 12 [], []⟩) ?_ ?_
  ·refine XR 1 ?_
   refine XC (s_spec_foGood hy2) cf_spec_foGood rfl rfl rfl ?_
   refine XR 1 ?_
   refine XL_split y2 (fun hc3 => ?_) (fun hc3 => ?_)
   ·have hb5 := of_true hb5 hc3
    obtain ⟨y4, hy4, hb5⟩ := of_bind hb5
    have hb5 := some_inj hb5
    refine XL_takeC _ rfl rfl (by kernel_rfl) hc3 (X_of_Y0 rfl (E_loadn (cs := [Ti f1.1, Ti f1.2.1, Ti f1.2.2]) [Ti f1.1, Ti f1.2.1, Ti f1.2.2] wd25 rfl (by kernel_rfl) (Nat.le_of_ble_eq_true rfl) (by kernel_rfl))) ?_
    refine XL_takeC _ rfl rfl (by kernel_rfl) hc3 (X_of_Y1 rfl (Y1_call (s_spec_foDisc hy4) cf_spec_foDisc rfl (by kernel_rfl))) ?_
    refine XL_takeC _ rfl rfl (by kernel_rfl) hc3 (X_of_Y0 rfl (Y0_ltw (k := .i64) (a := y4) (b := 0) rfl (by kernel_rfl) (by kernel_rfl))) ?_
    refine XL_cons rfl (X_of_Y0 rfl (Y0_pickTe (b := y2) (p := ltI y4 0) rfl (by kernel_rfl) hc3 (by kernel_rfl) hb5)) ?_
    refine XR 1 ?_
    refine XL_split b5 (fun hc6 => ?_) (fun hc6 => ?_)
    ·refine XL_takeC _ rfl rfl (by kernel_rfl) hc6 (X_of_Y0 rfl (E_field (.pt 8 0) Try.underlying25 rfl sz3 rfl (by kernel_rfl) (by intro hh; cases hh))) ?_
     refine XL_takeC _ rfl rfl (by kernel_rfl) hc6 (X_of_Y0 rfl (Y0_load1 (c := Ti f1.1) (cs := [Ti f1.2.1, Ti f1.2.2]) sc3 rfl (by kernel_rfl))) ?_
     refine XL_takeC _ rfl rfl (by kernel_rfl) hc6 (X_of_Y0 rfl (Y0_gtw (k := .i64) (a := f1.1) (b := 0) rfl (by kernel_rfl) (by kernel_rfl))) ?_
     refine XL_cons rfl (X_of_Y0 rfl (Y0_pick1 (b := b5) (p := ltI 0 f1.1) (q := false) rfl (by kernel_rfl) hc6 (by kernel_rfl))) ?_
     exact XE
    ·refine XL_skipT _ rfl rfl (by kernel_rfl) hc6 rfl ?_
     refine XL_skipT _ rfl rfl (by kernel_rfl) hc6 rfl ?_
     refine XL_skipT _ rfl rfl (by kernel_rfl) hc6 rfl ?_
     refine XL_cons rfl (X_of_Y0 rfl (Y0_pick0 (b := b5) (p := ltI 0 f1.1) (q := false) rfl (by kernel_rfl) hc6 (by kernel_rfl))) ?_
     exact XE
   ·have hb5 := some_inj (of_false hb5 hc3)
    refine XL_skipT _ rfl rfl (by kernel_rfl) hc3 rfl ?_
    refine XL_skipT _ rfl rfl (by kernel_rfl) hc3 rfl ?_
    refine XL_skipT _ rfl rfl (by kernel_rfl) hc3 rfl ?_
    refine XL_cons rfl (X_of_Y0 rfl (Y0_pickFe (b := y2) (p := false) rfl (by kernel_rfl) hc3 (by kernel_rfl) hb5)) ?_
    refine XR 1 ?_
    refine XL_split b5 (fun hc6 => ?_) (fun hc6 => ?_)
    ·refine XL_takeC _ rfl rfl (by kernel_rfl) hc6 (X_of_Y0 rfl (E_field (.pt 8 0) Try.underlying25 rfl sz3 rfl (by kernel_rfl) (by intro hh; cases hh))) ?_
     refine XL_takeC _ rfl rfl (by kernel_rfl) hc6 (X_of_Y0 rfl (Y0_load1 (c := Ti f1.1) (cs := [Ti f1.2.1, Ti f1.2.2]) sc3 rfl (by kernel_rfl))) ?_
     refine XL_takeC _ rfl rfl (by kernel_rfl) hc6 (X_of_Y0 rfl (Y0_gtw (k := .i64) (a := f1.1) (b := 0) rfl (by kernel_rfl) (by kernel_rfl))) ?_
     refine XL_cons rfl (X_of_Y0 rfl (Y0_pick1 (b := b5) (p := ltI 0 f1.1) (q := false) rfl (by kernel_rfl) hc6 (by kernel_rfl))) ?_
     exact XE
    ·refine XL_skipT _ rfl rfl (by kernel_rfl) hc6 rfl ?_
     refine XL_skipT _ rfl rfl (by kernel_rfl) hc6 rfl ?_
     refine XL_skipT _ rfl rfl (by kernel_rfl) hc6 rfl ?_
     refine XL_cons rfl (X_of_Y0 rfl (Y0_pick0 (b := b5) (p := ltI 0 f1.1) (q := false) rfl (by kernel_rfl) hc6 (by kernel_rfl))) ?_
     exact XE
  refine V_ret ?_
  obtain rfl := some_inj h
  show Post _ _ _ _ _
  exact ⟨.inr rfl, rfl, rfl, rfl⟩
theorem cf_spec_vaForm : ∀ args w, (callFunc 111 args).run Try.prog w = .ok (.enter 111 args) w := run_callFunc Try.func111 (by kernel_rfl) (by kernel_rfl)
theorem s_spec_vaForm {f1 : (Int × Int × Int)} {r : Bool} (h : r_spec_vaForm f1 = some r) : CallS Try.prog 111 [.ag [Ti f1.1, Ti f1.2.1, Ti f1.2.2]] (Bo r) [] := by
  refine CallS_of_text (rs := [.t 2]) (vs := [.tmp 2]) Try.func111 rfl rfl (.cons rfl FitsL.nil) (by decide) 10 rfl ?_
  unfold r_spec_vaForm at h
  show V _ _ ⟨.ag [Ti f1.1, Ti f1.2.1, Ti f1.2.2] :: bt 9 [], []⟩ _
  refine V_e (mb 10 2) [8] (s1 := ⟨.bot :: .pt 8 0 :: bt 8 [], [(8, .box [Ti f1.1, Ti f1.2.1, Ti f1.2.2])]⟩) ?_
  obtain ⟨y2, hy2, h⟩ := of_bind h
  obtain ⟨b5, hb5, h⟩ := of_bind h
  refine V_sreg (mb 10 4) [] (s1 := ⟨.bot :: .bot :: Bo b5 :: bt 7 [], []⟩) ?_ ?_
  ·refine XR 1 ?_
   refine XC (s_spec_foDefinite hy2) cf_spec_foDefinite rfl rfl rfl ?_
   refine XR 1 ?_
   refine XL_split y2 (fun hc3 => ?_) (fun hc3 => ?_)
   ·have hb5 := of_true hb5 hc3
    obtain ⟨y4, hy4, hb5⟩ := of_bind hb5
    have hb5 := some_inj hb5
    refine XL_takeC _ rfl rfl (by kernel_rfl) hc3 (X_of_Y0 rfl (E_loadn (cs := [Ti f1.1, Ti f1.2.1, Ti f1.2.2]) [Ti f1.1, Ti f1.2.1, Ti f1.2.2] wd25 rfl (by kernel_rfl) (Nat.le_of_ble_eq_true rfl) (by kernel_rfl))) ?_
    refine XL_takeC _ rfl rfl (by kernel_rfl) hc3 (X_of_Y1 rfl (Y1_call (s_spec_foDisc hy4) cf_spec_foDisc rfl (by kernel_rfl))) ?_
    refine XL_takeC _ rfl rfl (by kernel_rfl) hc3 (X_of_Y0 rfl (Y0_gew (k := .i64) (a := y4) (b := -2000) rfl (by kernel_rfl) (by kernel_rfl))) ?_
    refine XL_cons rfl (X_of_Y0 rfl (Y0_pickTe (b := y2) (p := leI (-2000) y4) rfl (by kernel_rfl) hc3 (by kernel_rfl) hb5)) ?_
    exact XE
   ·have hb5 := some_inj (of_false hb5 hc3)
    refine XL_skipT _ rfl rfl (by kernel_rfl) hc3 rfl ?_
    refine XL_skipT _ rfl rfl (by kernel_rfl) hc3 rfl ?_
    refine XL_skipT _ rfl rfl (by kernel_rfl) hc3 rfl ?_
    refine XL_cons rfl (X_of_Y0 rfl (Y0_pickFe (b := y2) (p := false) rfl (by kernel_rfl) hc3 (by kernel_rfl) hb5)) ?_
    exact XE
  refine V_ret ?_
  obtain rfl := some_inj h
  show Post _ _ _ _ _
  exact ⟨.inr rfl, rfl, rfl, rfl⟩
theorem cf_spec_coGood : ∀ args w, (callFunc 78 args).run Try.prog w = .ok (.enter 78 args) w := run_callFunc Try.func78 (by kernel_rfl) (by kernel_rfl)
theorem s_spec_coGood {f1 : (Int × Int × Int)} {r : Bool} (h : r_spec_coGood f1 = some r) : CallS Try.prog 78 [.ag [Ti f1.1, Ti f1.2.1, Ti f1.2.2]] (Bo r) [] := by
  refine CallS_of_text (rs := [.t 2]) (vs := [.tmp 2]) Try.func78 rfl rfl (.cons rfl FitsL.nil) (by decide) 10 rfl ?_
  unfold r_spec_coGood at h
  show V _ _ ⟨.ag [Ti f1.1, Ti f1.2.1, Ti f1.2.2] :: bt 9 [], []⟩ _
  refine V_e (mb 10 2) [8] (s1 := ⟨.bot :: .pt 8 0 :: bt 8 [], [(8, .box [Ti f1.1, Ti f1.2.1, Ti f1.2.2])]⟩) ?_
  obtain ⟨y2, hy2, h⟩ := of_bind h
  obtain ⟨b5, hb5, h⟩ := of_bind h
  refine V_sreg (mb 10 4) [] (s1 := ⟨.bot :: .bot :: Bo b5 :: bt 7 [], []⟩) ?_ ?_
  ·refine XR 1 ?_
   refine XC (s_spec_vaForm hy2) cf_spec_vaForm rfl rfl rfl ?_
   refine XR 1 ?_
   refine XL_split y2 (fun hc3 => ?_) (fun hc3 => ?_)
   ·have hb5 := of_true hb5 hc3
    obtain ⟨y4, hy4, hb5⟩ := of_bind hb5
    have hb5 := some_inj hb5
    refine XL_takeC _ rfl rfl (by kernel_rfl) hc3 (X_of_Y0 rfl (E_loadn (cs := [Ti f1.1, Ti f1.2.1, Ti f1.2.2]) [Ti f1.1, Ti f1.2.1, Ti f1.2.2] wd25 rfl (by kernel_rfl) (Nat.le_of_ble_eq_true rfl) (by kernel_rfl))) ?_
    refine XL_takeC _ rfl rfl (by kernel_rfl) hc3 (X_of_Y1 rfl (Y1_call (s_spec_foContent hy4) cf_spec_foContent rfl (by kernel_rfl))) ?_
    refine XL_takeC _ rfl rfl (by kernel_rfl) hc3 (X_of_Y0 rfl (Y0_eqw (k := .i64) (a := y4) (b := 1) rfl (by kernel_rfl) (by kernel_rfl))) ?_
    refine XL_cons rfl (X_of_Y0 rfl (Y0_pickTe (b := y2) (p := eqI y4 1) rfl (by kernel_rfl) hc3 (by kernel_rfl) hb5)) ?_
    exact XE
   ·have hb5 := some_inj (of_false hb5 hc3)
    refine XL_skipT _ rfl rfl (by kernel_rfl) hc3 rfl ?_
    refine XL_skipT _ rfl rfl (by kernel_rfl) hc3 rfl ?_
    refine XL_skipT _ rfl rfl (by kernel_rfl) hc3 rfl ?_
    refine XL_cons rfl (X_of_Y0 rfl (Y0_pickFe (b := y2) (p := false) rfl (by kernel_rfl) hc3 (by kernel_rfl) hb5)) ?_
    exact XE
  refine V_ret ?_
  obtain rfl := some_inj h
  show Post _ _ _ _ _
  exact ⟨.inr rfl, rfl, rfl, rfl⟩
theorem cf_spec_coTwo : ∀ args w, (callFunc 34 args).run Try.prog w = .ok (.enter 34 args) w := run_callFunc Try.func34 (by kernel_rfl) (by kernel_rfl)
theorem s_spec_coTwo {f1 : (Int × Int × Int)} {g2 : (Int × Int × Int)} {r : Bool} (h : r_spec_coTwo f1 g2 = some r) : CallS Try.prog 34 [.ag [Ti f1.1, Ti f1.2.1, Ti f1.2.2], .ag [Ti g2.1, Ti g2.2.1, Ti g2.2.2]] (Bo r) [] := by
  refine CallS_of_text (rs := [.t 4]) (vs := [.tmp 4]) Try.func34 rfl rfl (.cons rfl FitsL.nil) (by decide) 18 rfl ?_
  unfold r_spec_coTwo at h
  show V _ _ ⟨.ag [Ti f1.1, Ti f1.2.1, Ti f1.2.2] :: .ag [Ti g2.1, Ti g2.2.1, Ti g2.2.2] :: bt 16 [], []⟩ _
  refine V_e (mb 18 12) [24, 16] (s1 := ⟨.bot :: .bot :: .pt 16 0 :: .pt 24 0 :: bt 14 [], [(24, .box [Ti g2.1, Ti g2.2.1, Ti g2.2.2]), (16, .box [Ti f1.1, Ti f1.2.1, Ti f1.2.2])]⟩) ?_
  obtain ⟨y3, hy3, h⟩ := of_bind h
  obtain ⟨b6, hb6, h⟩ := of_bind h
  obtain ⟨b10, hb10, h⟩ := of_bind h
  refine V_sdreg [0, 1, 3, 7, 15, 31, 63, 127, 255, 127, 1023, 2047, 4095, 8191] 14 (cdm 14 [0, 1, 5, 21, 85, 341, 1365, 529749, 546133, 169301, 349525, 1398101, 5592405, 22369621]) (mb 18 16) [] (s1 := ⟨bt 4 (Bo b10 :: bt 13 []), []⟩) (by kernel_rfl) (by kernel_rfl) ?_ ?_
  ·refine DR 1 ?_
   refine DC 1 (s_spec_coGood hy3) cf_spec_coGood rfl rfl rfl rfl 6 rfl ?_
   refine DR 1 ?_
   refine DL_split y3 (fun hc4 => ?_) (fun hc4 => ?_)
   ·have hb6 := of_true hb6 hc4
    obtain ⟨y5, hy5, hb6⟩ := of_bind hb6
    have hb6 := some_inj hb6
    refine DE_0 3 (.ag [Ti g2.1, Ti g2.2.1, Ti g2.2.2]) (by kernel_rfl) rfl rfl rfl (gsat_C (y3) rfl rfl (by kernel_rfl) hc4) (by kernel_rfl) (E_loadn (cs := [Ti g2.1, Ti g2.2.1, Ti g2.2.2]) [Ti g2.1, Ti g2.2.1, Ti g2.2.2] wd25 rfl (by kernel_rfl) (Nat.le_of_ble_eq_true rfl) (by kernel_rfl)) 8 rfl ?_
    refine DE_1 4 (by kernel_rfl) rfl rfl rfl (gsat_C (y3) rfl rfl (by kernel_rfl) hc4) (Y1_call (s_spec_coGood hy5) cf_spec_coGood rfl (by kernel_rfl)) rfl rfl rfl 9 rfl ?_
    refine DE_0 5 (Bo (b6)) (by kernel_rfl) rfl rfl rfl (gsat_none rfl) (by kernel_rfl) (Y0_pickTe (b := y3) (p := y5) rfl (by kernel_rfl) hc4 (by kernel_rfl) hb6) 10 rfl ?_
    refine DR 1 ?_
    refine DL_split b6 (fun hc7 => ?_) (fun hc7 => ?_)
    ·have hb10 := of_true hb10 hc7
     obtain ⟨y8, hy8, hb10⟩ := of_bind hb10
     obtain ⟨y9, hy9, hb10⟩ := of_bind hb10
     have hb10 := some_inj hb10
     refine DE_0 7 (.ag [Ti f1.1, Ti f1.2.1, Ti f1.2.2]) (by kernel_rfl) rfl rfl rfl (gsat_C (b6) rfl rfl (by kernel_rfl) hc7) (by kernel_rfl) (E_loadn (cs := [Ti f1.1, Ti f1.2.1, Ti f1.2.2]) [Ti f1.1, Ti f1.2.1, Ti f1.2.2] wd25 rfl (by kernel_rfl) (Nat.le_of_ble_eq_true rfl) (by kernel_rfl)) 12 rfl ?_
     refine DE_1 8 (by kernel_rfl) rfl rfl rfl (gsat_C (b6) rfl rfl (by kernel_rfl) hc7) (Y1_call (s_spec_foDisc hy8) cf_spec_foDisc rfl (by kernel_rfl)) rfl rfl rfl 13 rfl ?_
     refine DE_0 9 (.ag [Ti g2.1, Ti g2.2.1, Ti g2.2.2]) (by kernel_rfl) rfl rfl rfl (gsat_C (b6) rfl rfl (by kernel_rfl) hc7) (by kernel_rfl) (E_loadn (cs := [Ti g2.1, Ti g2.2.1, Ti g2.2.2]) [Ti g2.1, Ti g2.2.1, Ti g2.2.2] wd25 rfl (by kernel_rfl) (Nat.le_of_ble_eq_true rfl) (by kernel_rfl)) 14 rfl ?_
     refine DE_1 10 (by kernel_rfl) rfl rfl rfl (gsat_C (b6) rfl rfl (by kernel_rfl) hc7) (Y1_call (s_spec_foDisc hy9) cf_spec_foDisc rfl (by kernel_rfl)) rfl rfl rfl 15 rfl ?_
     refine DE_0 11 (Bo (eqI y8 y9)) (by kernel_rfl) rfl rfl rfl (gsat_C (b6) rfl rfl (by kernel_rfl) hc7) (by kernel_rfl) (Y0_eqw (k := .i64) (a := y8) (b := y9) rfl (by kernel_rfl) (by kernel_rfl)) 16 rfl ?_
     refine DE_0 12 (Bo (b10)) (by kernel_rfl) rfl rfl rfl (gsat_none rfl) (by kernel_rfl) (Y0_pickTe (b := b6) (p := eqI y8 y9) rfl (by kernel_rfl) hc7 (by kernel_rfl) hb10) 17 rfl ?_
     refine DA 1 ?_
     exact XE
    ·have hb10 := some_inj (of_false hb10 hc7)
     refine DE_t 7 (by kernel_rfl) rfl rfl rfl (gun_T (b6) rfl rfl (by kernel_rfl) hc7) 12 rfl ?_
     refine DE_t 8 (by kernel_rfl) rfl rfl rfl (gun_T (b6) rfl rfl (by kernel_rfl) hc7) 13 rfl ?_
     refine DE_t 9 (by kernel_rfl) rfl rfl rfl (gun_T (b6) rfl rfl (by kernel_rfl) hc7) 14 rfl ?_
     refine DE_t 10 (by kernel_rfl) rfl rfl rfl (gun_T (b6) rfl rfl (by kernel_rfl) hc7) 15 rfl ?_
     refine DE_t 11 (by kernel_rfl) rfl rfl rfl (gun_T (b6) rfl rfl (by kernel_rfl) hc7) 16 rfl ?_
     refine DE_0 12 (Bo (b10)) (by kernel_rfl) rfl rfl rfl (gsat_none rfl) (by kernel_rfl) (Y0_pickFe (b := b6) (p := false) rfl (by kernel_rfl) hc7 (by kernel_rfl) hb10) 17 rfl ?_
     refine DA 1 ?_
     exact XE
   ·have hb6 := some_inj (of_false hb6 hc4)
    refine DE_t 3 (by kernel_rfl) rfl rfl rfl (gun_T (y3) rfl rfl (by kernel_rfl) hc4) 8 rfl ?_
    refine DE_t 4 (by kernel_rfl) rfl rfl rfl (gun_T (y3) rfl rfl (by kernel_rfl) hc4) 9 rfl ?_
    refine DE_0 5 (Bo (b6)) (by kernel_rfl) rfl rfl rfl (gsat_none rfl) (by kernel_rfl) (Y0_pickFe (b := y3) (p := false) rfl (by kernel_rfl) hc4 (by kernel_rfl) hb6) 10 rfl ?_
    refine DR 1 ?_
    refine DL_split b6 (fun hc7 => ?_) (fun hc7 => ?_)
    ·have hb10 := of_true hb10 hc7
     obtain ⟨y8, hy8, hb10⟩ := of_bind hb10
     obtain ⟨y9, hy9, hb10⟩ := of_bind hb10
     have hb10 := some_inj hb10
     refine DE_0 7 (.ag [Ti f1.1, Ti f1.2.1, Ti f1.2.2]) (by kernel_rfl) rfl rfl rfl (gsat_C (b6) rfl rfl (by kernel_rfl) hc7) (by kernel_rfl) (E_loadn (cs := [Ti f1.1, Ti f1.2.1, Ti f1.2.2]) [Ti f1.1, Ti f1.2.1, Ti f1.2.2] wd25 rfl (by kernel_rfl) (Nat.le_of_ble_eq_true rfl) (by kernel_rfl)) 12 rfl ?_
     refine DE_1 8 (by kernel_rfl) rfl rfl rfl (gsat_C (b6) rfl rfl (by kernel_rfl) hc7) (Y1_call (s_spec_foDisc hy8) cf_spec_foDisc rfl (by kernel_rfl)) rfl rfl rfl 13 rfl ?_
     refine DE_0 9 (.ag [Ti g2.1, Ti g2.2.1, Ti g2.2.2]) (by kernel_rfl) rfl rfl rfl (gsat_C (b6) rfl rfl (by kernel_rfl) hc7) (by kernel_rfl) (E_loadn (cs := [Ti g2.1, Ti g2.2.1, Ti g2.2.2]) [Ti g2.1, Ti g2.2.1, Ti g2.2.2] wd25 rfl (by kernel_rfl) (Nat.le_of_ble_eq_true rfl) (by kernel_rfl)) 14 rfl ?_
     refine DE_1 10 (by kernel_rfl) rfl rfl rfl (gsat_C (b6) rfl rfl (by kernel_rfl) hc7) (Y1_call (s_spec_foDisc hy9) cf_spec_foDisc rfl (by kernel_rfl)) rfl rfl rfl 15 rfl ?_
     refine DE_0 11 (Bo (eqI y8 y9)) (by kernel_rfl) rfl rfl rfl (gsat_C (b6) rfl rfl (by kernel_rfl) hc7) (by kernel_rfl) (Y0_eqw (k := .i64) (a := y8) (b := y9) rfl (by kernel_rfl) (by kernel_rfl)) 16 rfl ?_
     refine DE_0 12 (Bo (b10)) (by kernel_rfl) rfl rfl rfl (gsat_none rfl) (by kernel_rfl) (Y0_pickTe (b := b6) (p := eqI y8 y9) rfl (by kernel_rfl) hc7 (by kernel_rfl) hb10) 17 rfl ?_
     refine DA 1 ?_
     exact XE
    ·have hb10 := some_inj (of_false hb10 hc7)
     refine DE_t 7 (by kernel_rfl) rfl rfl rfl (gun_T (b6) rfl rfl (by kernel_rfl) hc7) 12 rfl ?_
     refine DE_t 8 (by kernel_rfl) rfl rfl rfl (gun_T (b6) rfl rfl (by kernel_rfl) hc7) 13 rfl ?_
     refine DE_t 9 (by kernel_rfl) rfl rfl rfl (gun_T (b6) rfl rfl (by kernel_rfl) hc7) 14 rfl ?_
     refine DE_t 10 (by kernel_rfl) rfl rfl rfl (gun_T (b6) rfl rfl (by kernel_rfl) hc7) 15 rfl ?_
     refine DE_t 11 (by kernel_rfl) rfl rfl rfl (gun_T (b6) rfl rfl (by kernel_rfl) hc7) 16 rfl ?_
     refine DE_0 12 (Bo (b10)) (by kernel_rfl) rfl rfl rfl (gsat_none rfl) (by kernel_rfl) (Y0_pickFe (b := b6) (p := false) rfl (by kernel_rfl) hc7 (by kernel_rfl) hb10) 17 rfl ?_
     refine DA 1 ?_
     exact XE
  refine V_ret ?_
  obtain rfl := some_inj h
  show Post _ _ _ _ _
  exact ⟨.inr rfl, rfl, rfl, rfl⟩
theorem cf_spec_hkPrimes : ∀ args w, (callFunc 57 args).run Try.prog w = .ok (.enter 57 args) w := run_callFunc Try.func57 (by kernel_rfl) (by kernel_rfl)
theorem s_spec_hkPrimes {primes1 : List Int} {r : Bool} (h : r_spec_hkPrimes primes1 = some r) : CallS Try.prog 57 [.c (.sl (primes1.map c3))] (Bo r) [] := by
  refine CallS_of_text (rs := [.t 2]) (vs := [.tmp 2]) Try.func57 rfl rfl (.cons rfl FitsL.nil) (by decide) 18 rfl ?_
  unfold r_spec_hkPrimes at h
  show V _ _ ⟨.c (.sl (primes1.map c3)) :: bt 17 [], []⟩ _
  refine V_e (mb 18 1) [] (s1 := ⟨.c (.sl (primes1.map c3)) :: bt 17 [], []⟩) ?_
  refine V_seq ?_
  refine V_sreg (mb 18 225) [] (s1 := ⟨.c (.sl (primes1.map c3)) :: bt 4 (.c (.sl (primes1.map c3)) :: I ((primes1.length : Int)) :: I 0 :: bt 10 []), []⟩) ?_ ?_
  ·refine XR 1 ?_
   refine L0 rfl rfl (Y0_lenM (c := c3) (xs := primes1) Try.underlying47 rfl (by kernel_rfl)) ?_
   exact XE
  obtain ⟨qo4, hLo4, hko4⟩ := of_bind h
  refine V_toS (q := qo4) (S := fun o4 => ⟨.c (.sl (primes1.map c3)) :: bt 17 [], []⟩) (mb 18 1) [] ?_ ?_
  ·refine V_block (V_loop (fun n s => ∃ (t2 : Int), s.keep (mb 18 225) [] = (⟨.c (.sl (primes1.map c3)) :: bt 4 (.c (.sl (primes1.map c3)) :: I ((primes1.length : Int)) :: I t2 :: bt 10 []), []⟩ : St) ∧ r_spec_hkPrimes_L3 primes1 n t2 = some qo4) FU ⟨_,  by rfl, hLo4⟩ ?_)
   clear hLo4
   rintro n s ⟨t2, hs, h⟩
   refine V_keep _ _ hs ?_
   clear hs
   cases n with
   | zero => cases h
   | succ n =>
    rw [r_spec_hkPrimes_L3] at h
    refine V_e (mb 18 481) [] (s1 := ⟨.c (.sl (primes1.map c3)) :: bt 4 (.c (.sl (primes1.map c3)) :: I ((primes1.length : Int)) :: I t2 :: Bo (ltI t2 ((primes1.length : Int))) :: bt 9 []), []⟩) ?_
    refine V_seq ?_
    refine V_cond rfl (fun hc5 => ?_) (fun hc5 => ?_)
    ·have h := of_true h hc5
     refine V_skip ?_
     show V _ _ _ _
     refine V_seq ?_
     refine V_block ?_
     obtain ⟨e6, he6, h⟩ := of_bind h
     refine V_sreg (mb 18 241) [] (s1 := ⟨.c (.sl (primes1.map c3)) :: bt 3 (I e6 :: .c (.sl (primes1.map c3)) :: I ((primes1.length : Int)) :: I t2 :: bt 10 []), []⟩) ?_ ?_
     ·refine L0 rfl rfl (Y0_idxM (c := c3) (xs := primes1) (v := e6) (n := t2) Try.underlying47 sz3 rfl (by kernel_rfl) (by kernel_rfl) he6) ?_
      exact XE
     obtain ⟨y7, hy7, h⟩ := of_bind h
     refine V_sreg (mb 18 8417) [] (s1 := ⟨.c (.sl (primes1.map c3)) :: bt 4 (.c (.sl (primes1.map c3)) :: I ((primes1.length : Int)) :: I t2 :: bt 5 (Bo (!y7) :: bt 4 [])), []⟩) ?_ ?_
     ·refine XR 1 ?_
      refine XC (s_spec_hkPrime hy7) cf_spec_hkPrime rfl rfl rfl ?_
      exact XE
     refine V_cond rfl (fun hc8 => ?_) (fun hc8 => ?_)
     ·have h := of_true h hc8
      refine V_e (mb 18 4) [] (s1 := ⟨.bot :: .bot :: Bo false :: bt 15 [], []⟩) ?_
      refine V_ret ?_
      obtain rfl := some_inj h
      have h := hko4
      obtain rfl := some_inj h
      show Post _ _ _ _ _
      exact ⟨.inr rfl, rfl, rfl, rfl⟩
     ·have h := of_false h hc8
      refine V_skip ?_
      show V _ _ _ _
      obtain ⟨t9, ht9, h⟩ := of_sI h
      refine V_reg (mb 18 225) [] (s1 := ⟨.c (.sl (primes1.map c3)) :: bt 4 (.c (.sl (primes1.map c3)) :: I ((primes1.length : Int)) :: I t9 :: bt 10 []), []⟩) ?_ ?_
      ·refine XR 2 ?_
       refine XL_nil ?_
       subst ht9
       kernel_rfl
      exact ⟨n, Nat.lt_succ_self n, _,  by rfl, h⟩
    ·have h := of_false h hc5
     refine V_exit ?_
     obtain rfl := some_inj h
     exact ⟨_, rfl, by rfl⟩
  rintro o4 rfl
  have h := hko4
  clear hko4
  show V _ _ _ _
  obtain ⟨y10, hy10, h⟩ := of_bind h
  refine V_sreg (mb 18 4) [] (s1 := ⟨.bot :: .bot :: Bo y10 :: bt 15 [], []⟩) ?_ ?_
  ·refine XR 1 ?_
   refine L0 rfl rfl (Y0_lenM (c := c3) (xs := primes1) Try.underlying47 rfl (by kernel_rfl)) ?_
   refine XC (s_spec_l1In hy10) cf_spec_l1In rfl rfl rfl ?_
   exact XE
  refine V_ret ?_
  obtain rfl := some_inj h
  show Post _ _ _ _ _
  exact ⟨.inr rfl, rfl, rfl, rfl⟩
theorem cf_spec_cyHas : ∀ args w, (callFunc 60 args).run Try.prog w = .ok (.enter 60 args) w := run_callFunc Try.func60 (by kernel_rfl) (by kernel_rfl)
theorem s_spec_cyHas {l1 : List ((Int × Int × Int))} {f2 : (Int × Int × Int)} {r : Bool} (h : r_spec_cyHas l1 f2 = some r) : CallS Try.prog 60 [.c (.sl (l1.map c25)), .ag [Ti f2.1, Ti f2.2.1, Ti f2.2.2]] (Bo r) [] := by
  refine CallS_of_text (rs := [.t 4]) (vs := [.tmp 4]) Try.func60 rfl rfl (.cons rfl FitsL.nil) (by decide) 17 rfl ?_
  unfold r_spec_cyHas at h
  show V _ _ ⟨.c (.sl (l1.map c25)) :: .ag [Ti f2.1, Ti f2.2.1, Ti f2.2.2] :: bt 15 [], []⟩ _
  refine V_e (mb 17 9) [24] (s1 := ⟨.c (.sl (l1.map c25)) :: .bot :: .bot :: .pt 24 0 :: bt 13 [], [(24, .box [Ti f2.1, Ti f2.2.1, Ti f2.2.2])]⟩) ?_
  refine V_seq ?_
  refine V_sreg (mb 17 904) [24] (s1 := ⟨bt 3 (.pt 24 0 :: bt 3 (.c (.sl (l1.map c25)) :: I ((l1.length : Int)) :: I 0 :: bt 7 [])), [(24, .box [Ti f2.1, Ti f2.2.1, Ti f2.2.2])]⟩) ?_ ?_
  ·refine XR 1 ?_
   refine L0 rfl rfl (Y0_lenM (c := c25) (xs := l1) Try.underlying44 rfl (by kernel_rfl)) ?_
   exact XE
  obtain ⟨qo5, hLo5, hko5⟩ := of_bind h
  refine V_toS (q := qo5) (S := fun o5 => ⟨bt 17 [], []⟩) (mb 17 0) [] ?_ ?_
  ·refine V_block (V_loop (fun n s => ∃ (t3 : Int), s.keep (mb 17 904) [24] = (⟨bt 3 (.pt 24 0 :: bt 3 (.c (.sl (l1.map c25)) :: I ((l1.length : Int)) :: I t3 :: bt 7 [])), [(24, .box [Ti f2.1, Ti f2.2.1, Ti f2.2.2])]⟩ : St) ∧ r_spec_cyHas_L4 f2 l1 n t3 = some qo5) FU ⟨_,  by rfl, hLo5⟩ ?_)
   clear hLo5
   rintro n s ⟨t3, hs, h⟩
   refine V_keep _ _ hs ?_
   clear hs
   cases n with
   | zero => cases h
   | succ n =>
    rw [r_spec_cyHas_L4] at h
    refine V_e (mb 17 1928) [24] (s1 := ⟨bt 3 (.pt 24 0 :: bt 3 (.c (.sl (l1.map c25)) :: I ((l1.length : Int)) :: I t3 :: Bo (ltI t3 ((l1.length : Int))) :: bt 6 [])), [(24, .box [Ti f2.1, Ti f2.2.1, Ti f2.2.2])]⟩) ?_
    refine V_seq ?_
    refine V_cond rfl (fun hc6 => ?_) (fun hc6 => ?_)
    ·have h := of_true h hc6
     refine V_skip ?_
     show V _ _ _ _
     refine V_seq ?_
     refine V_block ?_
     obtain ⟨e7, he7, h⟩ := of_bind h
     refine V_sreg (mb 17 968) [48, 24] (s1 := ⟨bt 3 (.pt 24 0 :: .bot :: .bot :: .pt 48 0 :: .c (.sl (l1.map c25)) :: I ((l1.length : Int)) :: I t3 :: bt 7 []), [(48, .box [Ti e7.1, Ti e7.2.1, Ti e7.2.2]), (24, .box [Ti f2.1, Ti f2.2.1, Ti f2.2.2])]⟩) ?_ ?_
     ·refine L0 rfl rfl (Y0_idxM (c := c25) (xs := l1) (v := e7) (n := t3) Try.underlying44 sz25 rfl (by kernel_rfl) (by kernel_rfl) he7) ?_
      exact XE
     obtain ⟨t8, ht8, h⟩ := of_bind h
     have ht8 := some_inj ht8
     refine V_sreg (mb 17 33672) [24] (s1 := ⟨bt 3 (.pt 24 0 :: bt 3 (.c (.sl (l1.map c25)) :: I ((l1.length : Int)) :: I t3 :: bt 5 (Bo t8 :: .bot :: []))), [(24, .box [Ti f2.1, Ti f2.2.1, Ti f2.2.2])]⟩) ?_ ?_
     ·refine XR 2 ?_
      refine L0 rfl rfl (Y0_eqg3 (a0 := e7.1) (b0 := f2.1) (a1 := e7.2.1) (b1 := f2.2.1) (a2 := e7.2.2) (b2 := f2.2.2) eqg25 rfl (by kernel_rfl) (by kernel_rfl)) ?_
      refine XL_nil ?_
      subst ht8
      kernel_rfl
     refine V_cond rfl (fun hc9 => ?_) (fun hc9 => ?_)
     ·have h := of_true h hc9
      refine V_e (mb 17 16) [] (s1 := ⟨bt 4 (Bo true :: bt 12 []), []⟩) ?_
      refine V_ret ?_
      obtain rfl := some_inj h
      have h := hko5
      obtain rfl := some_inj h
      show Post _ _ _ _ _
      exact ⟨.inr rfl, rfl, rfl, rfl⟩
     ·have h := of_false h hc9
      refine V_skip ?_
      show V _ _ _ _
      obtain ⟨t10, ht10, h⟩ := of_sI h
      refine V_reg (mb 17 904) [24] (s1 := ⟨bt 3 (.pt 24 0 :: bt 3 (.c (.sl (l1.map c25)) :: I ((l1.length : Int)) :: I t10 :: bt 7 [])), [(24, .box [Ti f2.1, Ti f2.2.1, Ti f2.2.2])]⟩) ?_ ?_
      ·refine XR 2 ?_
       refine XL_nil ?_
       subst ht10
       kernel_rfl
      exact ⟨n, Nat.lt_succ_self n, _,  by rfl, h⟩
    ·have h := of_false h hc6
     refine V_exit ?_
     obtain rfl := some_inj h
     exact ⟨_, rfl, by rfl⟩
  rintro o5 rfl
  have h := hko5
  clear hko5
  show V _ _ _ _
  refine V_e (mb 17 16) [] (s1 := ⟨bt 4 (Bo false :: bt 12 []), []⟩) ?_
  refine V_ret ?_
  obtain rfl := some_inj h
  show Post _ _ _ _ _
  exact ⟨.inr rfl, rfl, rfl, rfl⟩
theorem cf_spec_WalkDistance : ∀ args w, (callFunc 22 args).run Try.prog w = .ok (.enter 22 args) w := run_callFunc Try.func22 (by kernel_rfl) (by kernel_rfl)
theorem s_spec_WalkDistance {f1 : (Int × Int × Int)} {g2 : (Int × Int × Int)} {primes3 : List Int} {r : (Int × Bool)} (h : r_spec_WalkDistance f1 g2 primes3 = some r) : CallS Try.prog 22 [.ag [Ti f1.1, Ti f1.2.1, Ti f1.2.2], .ag [Ti g2.1, Ti g2.2.1, Ti g2.2.2], .c (.sl (primes3.map c3))] (.tc (I r.1) (.tc (Bo r.2) .tn)) [] := by
  refine CallS_of_text (rs := [.t 6, .t 7]) (vs := [.tmp 6, .tmp 7]) Try.func22 rfl rfl (.cons rfl (.cons rfl FitsL.nil)) (by decide) 92 rfl ?_
  unfold r_spec_WalkDistance at h
  show V _ _ ⟨.ag [Ti f1.1, Ti f1.2.1, Ti f1.2.2] :: .ag [Ti g2.1, Ti g2.2.1, Ti g2.2.2] :: .c (.sl (primes3.map c3)) :: bt 89 [], []⟩ _
  refine V_e (mb 92 28) [32, 24] (s1 := ⟨.bot :: .bot :: .c (.sl (primes3.map c3)) :: .pt 24 0 :: .pt 32 0 :: bt 87 [], [(32, .box [Ti g2.1, Ti g2.2.1, Ti g2.2.2]), (24, .box [Ti f1.1, Ti f1.2.1, Ti f1.2.2])]⟩) ?_
  refine V_seq ?_
  obtain ⟨y4, hy4, h⟩ := of_bind h
  obtain ⟨b7, hb7, h⟩ := of_bind h
  refine V_sreg (mb 92 536870940) [32, 24] (s1 := ⟨.bot :: .bot :: .c (.sl (primes3.map c3)) :: .pt 24 0 :: .pt 32 0 :: bt 24 (Bo b7 :: bt 62 []), [(32, .box [Ti g2.1, Ti g2.2.1, Ti g2.2.2]), (24, .box [Ti f1.1, Ti f1.2.1, Ti f1.2.2])]⟩) ?_ ?_
  ·refine XR 2 ?_
   refine XC (s_spec_coTwo hy4) cf_spec_coTwo rfl rfl rfl ?_
   refine XR 2 ?_
   refine XL_split (!y4) (fun hc5 => ?_) (fun hc5 => ?_)
   ·have hb7 := some_inj (of_true hb7 hc5)
    refine XL_skipF _ rfl rfl (by kernel_rfl) hc5 rfl ?_
    refine XL_skipF _ rfl rfl (by kernel_rfl) hc5 rfl ?_
    refine XL_skipF _ rfl rfl (by kernel_rfl) hc5 rfl ?_
    refine XL_cons rfl (X_of_Y0 rfl (Y0_pickTe (b := !y4) (p := true) rfl (by kernel_rfl) hc5 (by kernel_rfl) hb7)) ?_
    exact XE
   ·have hb7 := of_false hb7 hc5
    obtain ⟨y6, hy6, hb7⟩ := of_bind hb7
    have hb7 := some_inj hb7
    refine XL_takeC _ rfl rfl (by kernel_rfl) hc5 (X_of_Y0 rfl (E_move (.c (.sl (primes3.map c3))) rfl (by kernel_rfl))) ?_
    refine XL_takeC _ rfl rfl (by kernel_rfl) hc5 (X_of_Y1 rfl (Y1_call (s_spec_hkPrimes hy6) cf_spec_hkPrimes rfl (by kernel_rfl))) ?_
    refine XL_takeC _ rfl rfl (by kernel_rfl) hc5 (X_of_Y0 rfl (Y0_not (b := y6) rfl (by kernel_rfl))) ?_
    refine XL_cons rfl (X_of_Y0 rfl (Y0_pickFe (b := !y4) (p := !y6) rfl (by kernel_rfl) hc5 (by kernel_rfl) hb7)) ?_
    exact XE
  refine V_cond rfl (fun hc8 => ?_) (fun hc8 => ?_)
  ·have h := of_true h hc8
   refine V_e (mb 92 192) [] (s1 := ⟨bt 6 (I 0 :: Bo false :: bt 84 []), []⟩) ?_
   refine V_ret ?_
   obtain rfl := some_inj h
   show Post _ _ _ _ _
   exact ⟨.inr rfl, rfl, rfl, rfl⟩
  ·have h := of_false h hc8
   refine V_skip ?_
   show V _ _ _ _
   obtain ⟨y9, hy9, h⟩ := of_bind h
   refine V_sreg (mb 92 268) [64, 24] (s1 := ⟨.bot :: .bot :: .c (.sl (primes3.map c3)) :: .pt 24 0 :: bt 4 (.pt 64 0 :: bt 83 []), [(64, .box [Ti y9.1, Ti y9.2.1, Ti y9.2.2]), (24, .box [Ti f1.1, Ti f1.2.1, Ti f1.2.2])]⟩) ?_ ?_
   ·refine XR 1 ?_
    refine XC (s_spec_reClass hy9) cf_spec_reClass rfl rfl rfl ?_
    exact XE
   obtain ⟨y10, hy10, h⟩ := of_bind h
   refine V_sreg (mb 92 772) [272, 64] (s1 := ⟨.bot :: .bot :: .c (.sl (primes3.map c3)) :: bt 5 (.pt 64 0 :: .ow 272 :: bt 82 []), [(272, .arr 25 3 (([y10]).map c25)), (64, .box [Ti y9.1, Ti y9.2.1, Ti y9.2.2])]⟩) ?_ ?_
   ·refine XR 1 ?_
    refine XC (s_spec_reClass hy10) cf_spec_reClass rfl rfl rfl ?_
    refine L1 rfl rfl (Y1_bslice (z := zv25) (els := [y10].map c25) Try.underlying44 iz25 rfl (by decide) rfl (by kernel_rfl) rfl (by simp [c25]) (by decide) (by decide)) ?_
    exact XE
   refine V_e (mb 92 1796) [272, 64] (s1 := ⟨.bot :: .bot :: .c (.sl (primes3.map c3)) :: bt 5 (.pt 64 0 :: .ow 272 :: I 0 :: bt 81 []), [(272, .arr 25 3 (([y10]).map c25)), (64, .box [Ti y9.1, Ti y9.2.1, Ti y9.2.2])]⟩) ?_
   refine V_seq ?_
   refine V_e (mb 92 3844) [272, 64] (s1 := ⟨.bot :: .bot :: .c (.sl (primes3.map c3)) :: bt 5 (.pt 64 0 :: .ow 272 :: I 0 :: I 0 :: bt 80 []), [(272, .arr 25 3 (([y10]).map c25)), (64, .box [Ti y9.1, Ti y9.2.1, Ti y9.2.2])]⟩) ?_
   obtain ⟨qo15, hLo15, hko15⟩ := of_bind h
   refine V_toS (q := qo15) (S := fun o15 => ⟨bt 92 [], []⟩) (mb 92 0) [] ?_ ?_
   ·refine V_block (V_loop (fun n s => ∃ (vfrom11 : Int) (vn12 : Int) (l13 : List ((Int × Int × Int))), s.keep (mb 92 3844) [272, 64] = (⟨.bot :: .bot :: .c (.sl (primes3.map c3)) :: bt 5 (.pt 64 0 :: .ow 272 :: I vfrom11 :: I vn12 :: bt 80 []), [(272, .arr 25 3 (l13.map c25)), (64, .box [Ti y9.1, Ti y9.2.1, Ti y9.2.2])]⟩ : St) ∧ r_spec_WalkDistance_L14 primes3 y9 n vfrom11 vn12 l13 = some qo15) FU ⟨_, _, _,  by rfl, hLo15⟩ ?_)
    clear hLo15
    rintro n s ⟨vfrom11, vn12, l13, hs, h⟩
    refine V_keep _ _ hs ?_
    clear hs
    cases n with
    | zero => cases h
    | succ n =>
     rw [r_spec_WalkDistance_L14] at h
     refine V_seq ?_
     refine V_sreg (mb 92 274877910788) [272, 64] (s1 := ⟨.bot :: .bot :: .c (.sl (primes3.map c3)) :: bt 5 (.pt 64 0 :: .ow 272 :: I vfrom11 :: I vn12 :: bt 26 (Bo (ltI vfrom11 ((l13.length : Int))) :: bt 53 [])), [(272, .arr 25 3 (l13.map c25)), (64, .box [Ti y9.1, Ti y9.2.1, Ti y9.2.2])]⟩) ?_ ?_
     ·refine XR 2 ?_
      refine L0 rfl rfl (Y0_lenM (c := c25) (xs := l13) Try.underlying44 rfl (by kernel_rfl)) ?_
      exact XE
     refine V_cond rfl (fun hc16 => ?_) (fun hc16 => ?_)
     ·have h := of_true h hc16
      refine V_skip ?_
      show V _ _ _ _
      refine V_seq ?_
      refine V_block ?_
      refine V_sreg (mb 92 7940) [272, 64] (s1 := ⟨.bot :: .bot :: .c (.sl (primes3.map c3)) :: bt 5 (.pt 64 0 :: .ow 272 :: I vfrom11 :: I vn12 :: I ((l13.length : Int)) :: bt 79 []), [(272, .arr 25 3 (l13.map c25)), (64, .box [Ti y9.1, Ti y9.2.1, Ti y9.2.2])]⟩) ?_ ?_
      ·refine XR 1 ?_
       refine L0 rfl rfl (Y0_lenM (c := c25) (xs := l13) Try.underlying44 rfl (by kernel_rfl)) ?_
       exact XE
      refine V_seq ?_
      obtain ⟨u17, hu17, h⟩ := of_bind h
      obtain ⟨t18, ht18, h⟩ := of_sI h
      refine V_sreg (mb 92 492581209251588) [272, 64] (s1 := ⟨.bot :: .bot :: .c (.sl (primes3.map c3)) :: bt 5 (.pt 64 0 :: .ow 272 :: I vfrom11 :: I vn12 :: I ((l13.length : Int)) :: bt 33 (.vw 272 (l13.map c25) (.sub (Int.toNat (vfrom11))) :: I t18 :: I 0 :: bt 43 [])), [(272, .arr 25 3 (l13.map c25)), (64, .box [Ti y9.1, Ti y9.2.1, Ti y9.2.2])]⟩) ?_ ?_
      ·refine XR 3 ?_
       refine L0 rfl rfl (Y0_viewF (c := c25) (xs := l13) (f := vfrom11) (h := (l13.length : Int)) (T := 25) (id := 272) Try.underlying44 sz25 rfl (by kernel_rfl) (by kernel_rfl) (by kernel_rfl) (by kernel_rfl) hu17) ?_
       refine L0 rfl rfl (Y0_lenF (c := c25) (xs := l13) (f := vfrom11) (id := 272) Try.underlying44 rfl (by kernel_rfl)) ?_
       refine XR 1 ?_
       refine XL_nil ?_
       subst ht18
       kernel_rfl
      obtain ⟨qo21, hLo21, hko21⟩ := of_bind h
      refine V_toS (q := qo21) (S := fun o21 => ⟨.bot :: .bot :: .c (.sl (primes3.map c3)) :: bt 5 (.pt 64 0 :: .ow 272 :: I vfrom11 :: I vn12 :: I ((l13.length : Int)) :: bt 79 []), [(272, .arr 25 3 (l13.map c25)), (64, .box [Ti y9.1, Ti y9.2.1, Ti y9.2.2])]⟩) (mb 92 7940) [272, 64] ?_ ?_
      ·refine V_block (V_loop (fun n s => ∃ (t19 : Int), s.keep (mb 92 492581209251588) [272, 64] = (⟨.bot :: .bot :: .c (.sl (primes3.map c3)) :: bt 5 (.pt 64 0 :: .ow 272 :: I vfrom11 :: I vn12 :: I ((l13.length : Int)) :: bt 33 (.vw 272 (l13.map c25) (.sub (Int.toNat (vfrom11))) :: I t18 :: I t19 :: bt 43 [])), [(272, .arr 25 3 (l13.map c25)), (64, .box [Ti y9.1, Ti y9.2.1, Ti y9.2.2])]⟩ : St) ∧ r_spec_WalkDistance_L20 l13 primes3 t18 vfrom11 vn12 y9 n t19 = some qo21) FU ⟨_,  by rfl, hLo21⟩ ?_)
       clear hLo21
       rintro n s ⟨t19, hs, h⟩
       refine V_keep _ _ hs ?_
       clear hs
       cases n with
       | zero => cases h
       | succ n =>
        rw [r_spec_WalkDistance_L20] at h
        refine V_e (mb 92 1055531162672900) [272, 64] (s1 := ⟨.bot :: .bot :: .c (.sl (primes3.map c3)) :: bt 5 (.pt 64 0 :: .ow 272 :: I vfrom11 :: I vn12 :: I ((l13.length : Int)) :: bt 33 (.vw 272 (l13.map c25) (.sub (Int.toNat (vfrom11))) :: I t18 :: I t19 :: Bo (ltI t19 t18) :: bt 42 [])), [(272, .arr 25 3 (l13.map c25)), (64, .box [Ti y9.1, Ti y9.2.1, Ti y9.2.2])]⟩) ?_
        refine V_seq ?_
        refine V_cond rfl (fun hc22 => ?_) (fun hc22 => ?_)
        ·have h := of_true h hc22
         refine V_skip ?_
         show V _ _ _ _
         refine V_seq ?_
         refine V_block ?_
         obtain ⟨e23, he23, h⟩ := of_bind h
         refine V_sreg (mb 92 492581209267972) [112, 272, 64] (s1 := ⟨.bot :: .bot :: .c (.sl (primes3.map c3)) :: bt 5 (.pt 64 0 :: .ow 272 :: I vfrom11 :: I vn12 :: I ((l13.length : Int)) :: .bot :: .pt 112 0 :: bt 31 (.vw 272 (l13.map c25) (.sub (Int.toNat (vfrom11))) :: I t18 :: I t19 :: bt 43 [])), [(112, .box [Ti e23.1, Ti e23.2.1, Ti e23.2.2]), (272, .arr 25 3 (l13.map c25)), (64, .box [Ti y9.1, Ti y9.2.1, Ti y9.2.2])]⟩) ?_ ?_
         ·refine L0 rfl rfl (Y0_idxF (c := c25) (xs := l13) (v := e23) (id := 272) (f := vfrom11) (n := t19) Try.underlying44 sz25 (fun _ => rfl) rfl (by kernel_rfl) (by kernel_rfl) he23) ?_
          refine L0 rfl rfl (Y0_loadV0 (c := c25) (xs := l13) (v := e23) (id := 272) (f := vfrom11) (n := t19) (sz := 3) (T := 25) [Ti e23.1, Ti e23.2.1, Ti e23.2.2] wd25 rfl (by kernel_rfl) (by kernel_rfl) he23 (by kernel_rfl) (by kernel_rfl)) ?_
          exact XE
         obtain ⟨t24, ht24, h⟩ := of_bind h
         have ht24 := some_inj ht24
         refine V_sreg (mb 92 18506979718733572) [272, 64] (s1 := ⟨.bot :: .bot :: .c (.sl (primes3.map c3)) :: bt 5 (.pt 64 0 :: .ow 272 :: I vfrom11 :: I vn12 :: I ((l13.length : Int)) :: bt 33 (.vw 272 (l13.map c25) (.sub (Int.toNat (vfrom11))) :: I t18 :: I t19 :: bt 5 (Bo t24 :: bt 37 []))), [(272, .arr 25 3 (l13.map c25)), (64, .box [Ti y9.1, Ti y9.2.1, Ti y9.2.2])]⟩) ?_ ?_
         ·refine XR 2 ?_
          refine L0 rfl rfl (Y0_eqg3 (a0 := e23.1) (b0 := y9.1) (a1 := e23.2.1) (b1 := y9.2.1) (a2 := e23.2.2) (b2 := y9.2.2) eqg25 rfl (by kernel_rfl) (by kernel_rfl)) ?_
          refine XL_nil ?_
          subst ht24
          kernel_rfl
         refine V_cond rfl (fun hc25 => ?_) (fun hc25 => ?_)
         ·have h := of_true h hc25
          refine V_e (mb 92 192) [] (s1 := ⟨bt 6 (I vn12 :: Bo true :: bt 84 []), []⟩) ?_
          refine V_ret ?_
          obtain rfl := some_inj h
          have h := hko21
          obtain rfl := some_inj h
          have h := hko15
          obtain rfl := some_inj h
          show Post _ _ _ _ _
          exact ⟨.inr rfl, rfl, rfl, rfl⟩
         ·have h := of_false h hc25
          refine V_skip ?_
          show V _ _ _ _
          obtain ⟨t26, ht26, h⟩ := of_sI h
          refine V_reg (mb 92 492581209251588) [272, 64] (s1 := ⟨.bot :: .bot :: .c (.sl (primes3.map c3)) :: bt 5 (.pt 64 0 :: .ow 272 :: I vfrom11 :: I vn12 :: I ((l13.length : Int)) :: bt 33 (.vw 272 (l13.map c25) (.sub (Int.toNat (vfrom11))) :: I t18 :: I t26 :: bt 43 [])), [(272, .arr 25 3 (l13.map c25)), (64, .box [Ti y9.1, Ti y9.2.1, Ti y9.2.2])]⟩) ?_ ?_
          ·refine XR 2 ?_
           refine XL_nil ?_
           subst ht26
           kernel_rfl
          exact ⟨n, Nat.lt_succ_self n, _,  by rfl, h⟩
        ·have h := of_false h hc22
         refine V_exit ?_
         obtain rfl := some_inj h
         exact ⟨_, rfl, by rfl⟩
      rintro o21 rfl
      have h := hko21
      clear hko21
      show V _ _ _ _
      refine V_seq ?_
      obtain ⟨u27, hu27, h⟩ := of_bind h
      obtain ⟨t28, ht28, h⟩ := of_sI h
      refine V_sreg (mb 92 8070450532247935748) [272, 64] (s1 := ⟨.bot :: .bot :: .c (.sl (primes3.map c3)) :: bt 5 (.pt 64 0 :: .ow 272 :: .bot :: I vn12 :: I ((l13.length : Int)) :: bt 47 (.vw 272 (l13.map c25) (.sub (Int.toNat (vfrom11))) :: I t28 :: I 0 :: bt 29 [])), [(272, .arr 25 3 (l13.map c25)), (64, .box [Ti y9.1, Ti y9.2.1, Ti y9.2.2])]⟩) ?_ ?_
      ·refine XR 3 ?_
       refine L0 rfl rfl (Y0_viewF (c := c25) (xs := l13) (f := vfrom11) (h := (l13.length : Int)) (T := 25) (id := 272) Try.underlying44 sz25 rfl (by kernel_rfl) (by kernel_rfl) (by kernel_rfl) (by kernel_rfl) hu27) ?_
       refine L0 rfl rfl (Y0_lenF (c := c25) (xs := l13) (f := vfrom11) (id := 272) Try.underlying44 rfl (by kernel_rfl)) ?_
       refine XR 1 ?_
       refine XL_nil ?_
       subst ht28
       kernel_rfl
      obtain ⟨o32, hLo32, h⟩ := of_bind h
      refine V_toK (mb 92 6916) [272, 64] (s1 := ⟨.bot :: .bot :: .c (.sl (primes3.map c3)) :: bt 5 (.pt 64 0 :: .ow 272 :: .bot :: I vn12 :: I ((l13.length : Int)) :: bt 79 []), [(272, .arr 25 3 (o32.map c25)), (64, .box [Ti y9.1, Ti y9.2.1, Ti y9.2.2])]⟩) ?_ ?_
      ·clear h
       refine V_block (V_loop (fun n s => ∃ (t29 : Int) (l30 : List ((Int × Int × Int))), s.keep (mb 92 8070450532247935748) [272, 64] = (⟨.bot :: .bot :: .c (.sl (primes3.map c3)) :: bt 5 (.pt 64 0 :: .ow 272 :: .bot :: I vn12 :: I ((l13.length : Int)) :: bt 47 (.vw 272 (l13.map c25) (.sub (Int.toNat (vfrom11))) :: I t28 :: I t29 :: bt 29 [])), [(272, .arr 25 3 ((l13 ++ l30).map c25)), (64, .box [Ti y9.1, Ti y9.2.1, Ti y9.2.2])]⟩ : St) ∧ r_spec_WalkDistance_L31 l13 primes3 t28 vfrom11 vn12 y9 n t29 l30 = some o32) FU ⟨_, ([] : List ((Int × Int × Int))),  by rw [List.append_nil]; rfl, hLo32⟩ ?_)
       clear hLo32
       rintro n s ⟨t29, l30, hs, h⟩
       refine V_keep _ _ hs ?_
       clear hs
       cases n with
       | zero => cases h
       | succ n =>
        rw [r_spec_WalkDistance_L31] at h
        refine V_e (mb 92 17293822569102711556) [272, 64] (s1 := ⟨.bot :: .bot :: .c (.sl (primes3.map c3)) :: bt 5 (.pt 64 0 :: .ow 272 :: .bot :: I vn12 :: I ((l13.length : Int)) :: bt 47 (.vw 272 (l13.map c25) (.sub (Int.toNat (vfrom11))) :: I t28 :: I t29 :: Bo (ltI t29 t28) :: bt 28 [])), [(272, .arr 25 3 ((l13 ++ l30).map c25)), (64, .box [Ti y9.1, Ti y9.2.1, Ti y9.2.2])]⟩) ?_
        refine V_seq ?_
        refine V_cond rfl (fun hc33 => ?_) (fun hc33 => ?_)
        ·have h := of_true h hc33
         refine V_skip ?_
         show V _ _ _ _
         refine V_seq ?_
         refine V_block ?_
         obtain ⟨e34, he34, h⟩ := of_bind h
         refine V_sreg (mb 92 8070450532248001284) [128, 272, 64] (s1 := ⟨.bot :: .bot :: .c (.sl (primes3.map c3)) :: bt 5 (.pt 64 0 :: .ow 272 :: .bot :: I vn12 :: I ((l13.length : Int)) :: bt 3 (.pt 128 0 :: bt 43 (.vw 272 (l13.map c25) (.sub (Int.toNat (vfrom11))) :: I t28 :: I t29 :: bt 29 []))), [(128, .box [Ti e34.1, Ti e34.2.1, Ti e34.2.2]), (272, .arr 25 3 ((l13 ++ l30).map c25)), (64, .box [Ti y9.1, Ti y9.2.1, Ti y9.2.2])]⟩) ?_ ?_
         ·refine L0 rfl rfl (Y0_idxF (c := c25) (xs := l13) (v := e34) (id := 272) (f := vfrom11) (n := t29) Try.underlying44 sz25 (fun _ => rfl) rfl (by kernel_rfl) (by kernel_rfl) he34) ?_
          refine L0 rfl rfl (Y0_loadVF (c := c25) (xs := l13) (ys := l30) (v := e34) (id := 272) (f := vfrom11) (n := t29) (sz := 3) (T := 25) [Ti e34.1, Ti e34.2.1, Ti e34.2.2] wd25 rfl (by kernel_rfl) (by kernel_rfl) he34 (by kernel_rfl) (by kernel_rfl)) ?_
          exact XE
         refine V_sreg (mb 92 524579284596115446532) [128, 272, 64] (s1 := ⟨.bot :: .bot :: .c (.sl (primes3.map c3)) :: bt 5 (.pt 64 0 :: .ow 272 :: .bot :: I vn12 :: I ((l13.length : Int)) :: bt 3 (.pt 128 0 :: bt 43 (.vw 272 (l13.map c25) (.sub (Int.toNat (vfrom11))) :: I t28 :: I t29 :: bt 3 (.c (.sl (primes3.map c3)) :: I ((primes3.length : Int)) :: I 0 :: bt 23 [])))), [(128, .box [Ti e34.1, Ti e34.2.1, Ti e34.2.2]), (272, .arr 25 3 ((l13 ++ l30).map c25)), (64, .box [Ti y9.1, Ti y9.2.1, Ti y9.2.2])]⟩) ?_ ?_
         ·refine XR 1 ?_
          refine L0 rfl rfl (Y0_lenM (c := c3) (xs := primes3) Try.underlying47 rfl (by kernel_rfl)) ?_
          exact XE
         obtain ⟨o38, hLo38, h⟩ := of_bind h
         refine V_toK (mb 92 8070450532247935748) [272, 64] (s1 := ⟨.bot :: .bot :: .c (.sl (primes3.map c3)) :: bt 5 (.pt 64 0 :: .ow 272 :: .bot :: I vn12 :: I ((l13.length : Int)) :: bt 47 (.vw 272 (l13.map c25) (.sub (Int.toNat (vfrom11))) :: I t28 :: I t29 :: bt 29 [])), [(272, .arr 25 3 ((l13 ++ o38).map c25)), (64, .box [Ti y9.1, Ti y9.2.1, Ti y9.2.2])]⟩) ?_ ?_
         ·clear h
          refine V_block (V_loop (fun n s => ∃ (t35 : Int) (l36 : List ((Int × Int × Int))), s.keep (mb 92 524579284596115446532) [128, 272, 64] = (⟨.bot :: .bot :: .c (.sl (primes3.map c3)) :: bt 5 (.pt 64 0 :: .ow 272 :: .bot :: I vn12 :: I ((l13.length : Int)) :: bt 3 (.pt 128 0 :: bt 43 (.vw 272 (l13.map c25) (.sub (Int.toNat (vfrom11))) :: I t28 :: I t29 :: bt 3 (.c (.sl (primes3.map c3)) :: I ((primes3.length : Int)) :: I t35 :: bt 23 [])))), [(128, .box [Ti e34.1, Ti e34.2.1, Ti e34.2.2]), (272, .arr 25 3 ((l13 ++ l36).map c25)), (64, .box [Ti y9.1, Ti y9.2.1, Ti y9.2.2])]⟩ : St) ∧ r_spec_WalkDistance_L37 e34 l13 primes3 t28 t29 vfrom11 vn12 y9 n t35 l36 = some o38) FU ⟨_, _,  by rfl, hLo38⟩ ?_)
          clear hLo38
          rintro n s ⟨t35, l36, hs, h⟩
          refine V_keep _ _ hs ?_
          clear hs
          cases n with
          | zero => cases h
          | succ n =>
           rw [r_spec_WalkDistance_L37] at h
           refine V_e (mb 92 1114875094954821098244) [128, 272, 64] (s1 := ⟨.bot :: .bot :: .c (.sl (primes3.map c3)) :: bt 5 (.pt 64 0 :: .ow 272 :: .bot :: I vn12 :: I ((l13.length : Int)) :: bt 3 (.pt 128 0 :: bt 43 (.vw 272 (l13.map c25) (.sub (Int.toNat (vfrom11))) :: I t28 :: I t29 :: bt 3 (.c (.sl (primes3.map c3)) :: I ((primes3.length : Int)) :: I t35 :: Bo (ltI t35 ((primes3.length : Int))) :: bt 22 [])))), [(128, .box [Ti e34.1, Ti e34.2.1, Ti e34.2.2]), (272, .arr 25 3 ((l13 ++ l36).map c25)), (64, .box [Ti y9.1, Ti y9.2.1, Ti y9.2.2])]⟩) ?_
           refine V_seq ?_
           refine V_cond rfl (fun hc39 => ?_) (fun hc39 => ?_)
           ·have h := of_true h hc39
            refine V_skip ?_
            show V _ _ _ _
            refine V_seq ?_
            refine V_block ?_
            obtain ⟨e40, he40, h⟩ := of_bind h
            refine V_sreg (mb 92 524579284596115708676) [128, 272, 64] (s1 := ⟨.bot :: .bot :: .c (.sl (primes3.map c3)) :: bt 5 (.pt 64 0 :: .ow 272 :: .bot :: I vn12 :: I ((l13.length : Int)) :: bt 3 (.pt 128 0 :: .bot :: I e40 :: bt 41 (.vw 272 (l13.map c25) (.sub (Int.toNat (vfrom11))) :: I t28 :: I t29 :: bt 3 (.c (.sl (primes3.map c3)) :: I ((primes3.length : Int)) :: I t35 :: bt 23 [])))), [(128, .box [Ti e34.1, Ti e34.2.1, Ti e34.2.2]), (272, .arr 25 3 ((l13 ++ l36).map c25)), (64, .box [Ti y9.1, Ti y9.2.1, Ti y9.2.2])]⟩) ?_ ?_
            ·refine L0 rfl rfl (Y0_idxM (c := c3) (xs := primes3) (v := e40) (n := t35) Try.underlying47 sz3 rfl (by kernel_rfl) (by kernel_rfl) he40) ?_
             exact XE
            obtain ⟨y41, hy41, h⟩ := of_bind h
            refine V_sreg (mb 92 132750840804946181430020) [592, 128, 272, 64] (s1 := ⟨.bot :: .bot :: .c (.sl (primes3.map c3)) :: bt 5 (.pt 64 0 :: .ow 272 :: .bot :: I vn12 :: I ((l13.length : Int)) :: bt 3 (.pt 128 0 :: bt 43 (.vw 272 (l13.map c25) (.sub (Int.toNat (vfrom11))) :: I t28 :: I t29 :: bt 3 (.c (.sl (primes3.map c3)) :: I ((primes3.length : Int)) :: I t35 :: bt 5 (.ow 592 :: I ((y41.length : Int)) :: I 0 :: bt 15 []))))), [(592, .arr 25 3 (y41.map c25)), (128, .box [Ti e34.1, Ti e34.2.1, Ti e34.2.2]), (272, .arr 25 3 ((l13 ++ l36).map c25)), (64, .box [Ti y9.1, Ti y9.2.1, Ti y9.2.2])]⟩) ?_ ?_
            ·refine XR 2 ?_
             refine XC (s_spec_hkNeighbours hy41) cf_spec_hkNeighbours rfl rfl rfl ?_
             refine L0 rfl rfl (Y0_lenM (c := c25) (xs := y41) Try.underlying44 rfl (by kernel_rfl)) ?_
             exact XE
            obtain ⟨o45, hLo45, h⟩ := of_bind h
            refine V_toK (mb 92 524579284596115446532) [128, 272, 64] (s1 := ⟨.bot :: .bot :: .c (.sl (primes3.map c3)) :: bt 5 (.pt 64 0 :: .ow 272 :: .bot :: I vn12 :: I ((l13.length : Int)) :: bt 3 (.pt 128 0 :: bt 43 (.vw 272 (l13.map c25) (.sub (Int.toNat (vfrom11))) :: I t28 :: I t29 :: bt 3 (.c (.sl (primes3.map c3)) :: I ((primes3.length : Int)) :: I t35 :: bt 23 [])))), [(128, .box [Ti e34.1, Ti e34.2.1, Ti e34.2.2]), (272, .arr 25 3 ((l13 ++ o45).map c25)), (64, .box [Ti y9.1, Ti y9.2.1, Ti y9.2.2])]⟩) ?_ ?_
            ·clear h
             refine V_block (V_loop (fun n s => ∃ (t42 : Int) (l43 : List ((Int × Int × Int))), s.keep (mb 92 132750840804946181430020) [592, 128, 272, 64] = (⟨.bot :: .bot :: .c (.sl (primes3.map c3)) :: bt 5 (.pt 64 0 :: .ow 272 :: .bot :: I vn12 :: I ((l13.length : Int)) :: bt 3 (.pt 128 0 :: bt 43 (.vw 272 (l13.map c25) (.sub (Int.toNat (vfrom11))) :: I t28 :: I t29 :: bt 3 (.c (.sl (primes3.map c3)) :: I ((primes3.length : Int)) :: I t35 :: bt 5 (.ow 592 :: I ((y41.length : Int)) :: I t42 :: bt 15 []))))), [(592, .arr 25 3 (y41.map c25)), (128, .box [Ti e34.1, Ti e34.2.1, Ti e34.2.2]), (272, .arr 25 3 ((l13 ++ l43).map c25)), (64, .box [Ti y9.1, Ti y9.2.1, Ti y9.2.2])]⟩ : St) ∧ r_spec_WalkDistance_L44 e34 l13 primes3 t28 t29 t35 vfrom11 vn12 y41 y9 n t42 l43 = some o45) FU ⟨_, _,  by rfl, hLo45⟩ ?_)
             clear hLo45
             rintro n s ⟨t42, l43, hs, h⟩
             refine V_keep _ _ hs ?_
             clear hs
             cases n with
             | zero => cases h
             | succ n =>
              rw [r_spec_WalkDistance_L44] at h
              refine V_e (mb 92 283866568256774828268292) [592, 128, 272, 64] (s1 := ⟨.bot :: .bot :: .c (.sl (primes3.map c3)) :: bt 5 (.pt 64 0 :: .ow 272 :: .bot :: I vn12 :: I ((l13.length : Int)) :: bt 3 (.pt 128 0 :: bt 43 (.vw 272 (l13.map c25) (.sub (Int.toNat (vfrom11))) :: I t28 :: I t29 :: bt 3 (.c (.sl (primes3.map c3)) :: I ((primes3.length : Int)) :: I t35 :: bt 5 (.ow 592 :: I ((y41.length : Int)) :: I t42 :: Bo (ltI t42 ((y41.length : Int))) :: bt 14 []))))), [(592, .arr 25 3 (y41.map c25)), (128, .box [Ti e34.1, Ti e34.2.1, Ti e34.2.2]), (272, .arr 25 3 ((l13 ++ l43).map c25)), (64, .box [Ti y9.1, Ti y9.2.1, Ti y9.2.2])]⟩) ?_
              refine V_seq ?_
              refine V_cond rfl (fun hc46 => ?_) (fun hc46 => ?_)
              ·have h := of_true h hc46
               refine V_skip ?_
               show V _ _ _ _
               refine V_seq ?_
               refine V_block ?_
               obtain ⟨e47, he47, h⟩ := of_bind h
               obtain ⟨e48, he48, h⟩ := of_bind h
               refine V_sreg (mb 92 132750840804946182478596) [160, 592, 128, 272, 64] (s1 := ⟨.bot :: .bot :: .c (.sl (primes3.map c3)) :: bt 5 (.pt 64 0 :: .ow 272 :: .bot :: I vn12 :: I ((l13.length : Int)) :: bt 3 (.pt 128 0 :: bt 3 (.pt 160 0 :: bt 39 (.vw 272 (l13.map c25) (.sub (Int.toNat (vfrom11))) :: I t28 :: I t29 :: bt 3 (.c (.sl (primes3.map c3)) :: I ((primes3.length : Int)) :: I t35 :: bt 5 (.ow 592 :: I ((y41.length : Int)) :: I t42 :: bt 15 [])))))), [(160, .box [Ti e48.1, Ti e48.2.1, Ti e48.2.2]), (592, .arr 25 3 (y41.map c25)), (128, .box [Ti e34.1, Ti e34.2.1, Ti e34.2.2]), (272, .arr 25 3 ((l13 ++ l43).map c25)), (64, .box [Ti y9.1, Ti y9.2.1, Ti y9.2.2])]⟩) ?_ ?_
               ·refine L0 rfl rfl (Y0_idxoM (c := c25) (xs := y41) (v := e47) (id := 592) (T := 25) (sz := 3) (n := t42) Try.underlying44 sz25 rfl (by kernel_rfl) (by kernel_rfl) (by kernel_rfl) he47) ?_
                refine L0 rfl rfl (E_loadon (c := c25) (xs := y41) (v := e48) (id := 592) (sz := 3) (T := 25) (off := 0) (n := t42) [Ti e48.1, Ti e48.2.1, Ti e48.2.2] wd25 rfl (by kernel_rfl) (by kernel_rfl) he48 (Nat.le_of_ble_eq_true rfl) (by kernel_rfl)) ?_
                exact XE
               obtain ⟨y49, hy49, h⟩ := of_bind h
               refine V_sreg (mb 92 9804157397721979580128004) [160, 592, 128, 272, 64] (s1 := ⟨.bot :: .bot :: .c (.sl (primes3.map c3)) :: bt 5 (.pt 64 0 :: .ow 272 :: .bot :: I vn12 :: I ((l13.length : Int)) :: bt 3 (.pt 128 0 :: bt 3 (.pt 160 0 :: bt 39 (.vw 272 (l13.map c25) (.sub (Int.toNat (vfrom11))) :: I t28 :: I t29 :: bt 3 (.c (.sl (primes3.map c3)) :: I ((primes3.length : Int)) :: I t35 :: bt 5 (.ow 592 :: I ((y41.length : Int)) :: I t42 :: bt 6 (Bo (!y49) :: bt 8 []))))))), [(160, .box [Ti e48.1, Ti e48.2.1, Ti e48.2.2]), (592, .arr 25 3 (y41.map c25)), (128, .box [Ti e34.1, Ti e34.2.1, Ti e34.2.2]), (272, .arr 25 3 ((l13 ++ l43).map c25)), (64, .box [Ti y9.1, Ti y9.2.1, Ti y9.2.2])]⟩) ?_ ?_
               ·refine XR 2 ?_
                refine L1 rfl rfl (Y1_callS (s_spec_cyHas hy49) cf_spec_cyHas rfl (by kernel_rfl) rfl rfl) ?_
                exact XE
               refine V_cond rfl (fun hc50 => ?_) (fun hc50 => ?_)
               ·have h := of_true h hc50
                obtain ⟨u51, hu51, h⟩ := of_bind h
                refine V_reg (mb 92 132750840804946181430020) [592, 128, 272, 64] (s1 := ⟨.bot :: .bot :: .c (.sl (primes3.map c3)) :: bt 5 (.pt 64 0 :: .ow 272 :: .bot :: I vn12 :: I ((l13.length : Int)) :: bt 3 (.pt 128 0 :: bt 43 (.vw 272 (l13.map c25) (.sub (Int.toNat (vfrom11))) :: I t28 :: I t29 :: bt 3 (.c (.sl (primes3.map c3)) :: I ((primes3.length : Int)) :: I t35 :: bt 5 (.ow 592 :: I ((y41.length : Int)) :: I t42 :: bt 15 []))))), [(592, .arr 25 3 (y41.map c25)), (128, .box [Ti e34.1, Ti e34.2.1, Ti e34.2.2]), (272, .arr 25 3 ((l13 ++ (l43 ++ ([e48]))).map c25)), (64, .box [Ti y9.1, Ti y9.2.1, Ti y9.2.2])]⟩) ?_ ?_
                ·refine XR 2 ?_
                 refine L1 rfl rfl (Y1_bslice (z := zv25) (els := [e48].map c25) Try.underlying44 iz25 rfl (by decide) rfl (by kernel_rfl) rfl (by simp [c25]) (by decide) (by decide)) ?_
                 refine XL_cons rfl (X_appendVM (m := .sub (Int.toNat (vfrom11))) (c := c25) (xs := l13) (ys := l43) (zs := [e48]) (id := 272) (z := zv25) 60 rfl rfl Try.underlying44 izb25 rfl (by kernel_rfl) (by kernel_rfl) (by kernel_rfl) (fun _ => rfl) (by simp) (room_some hu51) (by decide) (by kernel_rfl) (by decide)) ?_
                 exact XE
                show V _ _ _ _
                obtain ⟨t52, ht52, h⟩ := of_sI h
                refine V_reg (mb 92 132750840804946181430020) [592, 128, 272, 64] (s1 := ⟨.bot :: .bot :: .c (.sl (primes3.map c3)) :: bt 5 (.pt 64 0 :: .ow 272 :: .bot :: I vn12 :: I ((l13.length : Int)) :: bt 3 (.pt 128 0 :: bt 43 (.vw 272 (l13.map c25) (.sub (Int.toNat (vfrom11))) :: I t28 :: I t29 :: bt 3 (.c (.sl (primes3.map c3)) :: I ((primes3.length : Int)) :: I t35 :: bt 5 (.ow 592 :: I ((y41.length : Int)) :: I t52 :: bt 15 []))))), [(592, .arr 25 3 (y41.map c25)), (128, .box [Ti e34.1, Ti e34.2.1, Ti e34.2.2]), (272, .arr 25 3 ((l13 ++ (l43 ++ ([e48]))).map c25)), (64, .box [Ti y9.1, Ti y9.2.1, Ti y9.2.2])]⟩) ?_ ?_
                ·refine XR 2 ?_
                 refine XL_nil ?_
                 subst ht52
                 kernel_rfl
                exact ⟨n, Nat.lt_succ_self n, _, _,  by rfl, h⟩
               ·have h := of_false h hc50
                refine V_skip ?_
                show V _ _ _ _
                obtain ⟨t53, ht53, h⟩ := of_sI h
                refine V_reg (mb 92 132750840804946181430020) [592, 128, 272, 64] (s1 := ⟨.bot :: .bot :: .c (.sl (primes3.map c3)) :: bt 5 (.pt 64 0 :: .ow 272 :: .bot :: I vn12 :: I ((l13.length : Int)) :: bt 3 (.pt 128 0 :: bt 43 (.vw 272 (l13.map c25) (.sub (Int.toNat (vfrom11))) :: I t28 :: I t29 :: bt 3 (.c (.sl (primes3.map c3)) :: I ((primes3.length : Int)) :: I t35 :: bt 5 (.ow 592 :: I ((y41.length : Int)) :: I t53 :: bt 15 []))))), [(592, .arr 25 3 (y41.map c25)), (128, .box [Ti e34.1, Ti e34.2.1, Ti e34.2.2]), (272, .arr 25 3 ((l13 ++ l43).map c25)), (64, .box [Ti y9.1, Ti y9.2.1, Ti y9.2.2])]⟩) ?_ ?_
                ·refine XR 2 ?_
                 refine XL_nil ?_
                 subst ht53
                 kernel_rfl
                exact ⟨n, Nat.lt_succ_self n, _, _,  by rfl, h⟩
              ·have h := of_false h hc46
               refine V_exit ?_
               obtain rfl := some_inj h
               show St.keep _ _ _ = _
               rfl
            show V _ _ _ _
            obtain ⟨t54, ht54, h⟩ := of_sI h
            refine V_reg (mb 92 524579284596115446532) [128, 272, 64] (s1 := ⟨.bot :: .bot :: .c (.sl (primes3.map c3)) :: bt 5 (.pt 64 0 :: .ow 272 :: .bot :: I vn12 :: I ((l13.length : Int)) :: bt 3 (.pt 128 0 :: bt 43 (.vw 272 (l13.map c25) (.sub (Int.toNat (vfrom11))) :: I t28 :: I t29 :: bt 3 (.c (.sl (primes3.map c3)) :: I ((primes3.length : Int)) :: I t54 :: bt 23 [])))), [(128, .box [Ti e34.1, Ti e34.2.1, Ti e34.2.2]), (272, .arr 25 3 ((l13 ++ o45).map c25)), (64, .box [Ti y9.1, Ti y9.2.1, Ti y9.2.2])]⟩) ?_ ?_
            ·refine XR 2 ?_
             refine XL_nil ?_
             subst ht54
             kernel_rfl
            exact ⟨n, Nat.lt_succ_self n, _, _,  by rfl, h⟩
           ·have h := of_false h hc39
            refine V_exit ?_
            obtain rfl := some_inj h
            show St.keep _ _ _ = _
            rfl
         show V _ _ _ _
         obtain ⟨t55, ht55, h⟩ := of_sI h
         refine V_reg (mb 92 8070450532247935748) [272, 64] (s1 := ⟨.bot :: .bot :: .c (.sl (primes3.map c3)) :: bt 5 (.pt 64 0 :: .ow 272 :: .bot :: I vn12 :: I ((l13.length : Int)) :: bt 47 (.vw 272 (l13.map c25) (.sub (Int.toNat (vfrom11))) :: I t28 :: I t55 :: bt 29 [])), [(272, .arr 25 3 ((l13 ++ o38).map c25)), (64, .box [Ti y9.1, Ti y9.2.1, Ti y9.2.2])]⟩) ?_ ?_
         ·refine XR 2 ?_
          refine XL_nil ?_
          subst ht55
          kernel_rfl
         exact ⟨n, Nat.lt_succ_self n, _, _,  by rfl, h⟩
        ·have h := of_false h hc33
         refine V_exit ?_
         obtain rfl := some_inj h
         show St.keep _ _ _ = _
         rfl
      show V _ _ _ _
      refine V_reg (mb 92 3844) [272, 64] (s1 := ⟨.bot :: .bot :: .c (.sl (primes3.map c3)) :: bt 5 (.pt 64 0 :: .ow 272 :: I ((l13.length : Int)) :: I vn12 :: bt 80 []), [(272, .arr 25 3 (o32.map c25)), (64, .box [Ti y9.1, Ti y9.2.1, Ti y9.2.2])]⟩) ?_ ?_
      ·exact XE
      show V _ _ _ _
      obtain ⟨vn56, hvn56, h⟩ := of_sI h
      refine V_reg (mb 92 3844) [272, 64] (s1 := ⟨.bot :: .bot :: .c (.sl (primes3.map c3)) :: bt 5 (.pt 64 0 :: .ow 272 :: I ((l13.length : Int)) :: I vn56 :: bt 80 []), [(272, .arr 25 3 (o32.map c25)), (64, .box [Ti y9.1, Ti y9.2.1, Ti y9.2.2])]⟩) ?_ ?_
      ·refine XR 3 ?_
       refine XL_nil ?_
       subst hvn56
       kernel_rfl
      exact ⟨n, Nat.lt_succ_self n, _, _, _,  by rfl, h⟩
     ·have h := of_false h hc16
      refine V_exit ?_
      obtain rfl := some_inj h
      exact ⟨_, rfl, by rfl⟩
   rintro o15 rfl
   have h := hko15
   clear hko15
   show V _ _ _ _
   refine V_e (mb 92 192) [] (s1 := ⟨bt 6 (I 0 :: Bo false :: bt 84 []), []⟩) ?_
   refine V_ret ?_
   obtain rfl := some_inj h
   show Post _ _ _ _ _
   exact ⟨.inr rfl, rfl, rfl, rfl⟩
theorem cf_impl_merge : ∀ args w, (callFunc 62 args).run Try.prog w = .ok (.enter 62 args) w := run_callFunc Try.func62 (by kernel_rfl) (by kernel_rfl)
theorem s_impl_merge {part1 : List Int} {i2 : Int} {k3 : Int} {r : List Int} (h : r_impl_merge part1 i2 k3 = some r) : CallR Try.prog 62 [.ow 80000, I i2, I k3] [(80000, .arr 3 1 (part1.map c3))] (.tn) [] [(80000, .arr 3 1 (r.map c3))] := by
  refine CallR_of_text (rs := []) (vs := []) Try.func62 rfl rfl FitsL.nil (by decide) 43 rfl rfl fun σ => ?_
  unfold r_impl_merge at h
  show V _ _ ⟨.ow 80000 :: I i2 :: I k3 :: bt 40 [], [(80000, .parr (σ 80000) 3 1 (part1.map c3))]⟩ _
  obtain ⟨e4, he4, h⟩ := of_bind h
  obtain ⟨e5, he5, h⟩ := of_bind h
  obtain ⟨e6, he6, h⟩ := of_bind h
  obtain ⟨e7, he7, h⟩ := of_bind h
  obtain ⟨e8, he8, h⟩ := of_bind h
  obtain ⟨e9, he9, h⟩ := of_bind h
  obtain ⟨e10, he10, h⟩ := of_bind h
  obtain ⟨e11, he11, h⟩ := of_bind h
  obtain ⟨low12, hlow12, h⟩ := of_sI h
  obtain ⟨high13, hhigh13, h⟩ := of_sI h
  refine V_sdreg [0, 0, 3, 7, 0, 0, 48, 112, 255, 0, 0, 1536, 3584, 0, 0, 24576, 57344, 130560, 511, 524287] 20 (cdm 20 [45812853256, 45812853250, 45812853253, 45812853269, 45812811946, 45812810410, 45812811178, 45812815274, 45812831573, 148849732266, 148848159402, 148848945834, 148853140138, 138020563626, 137617910442, 137819237034, 138892978858, 143165663914, 45812897109, 91625968981]) (mb 43 193) [80000] (s1 := ⟨.ow 80000 :: bt 5 (I low12 :: I high13 :: bt 35 []), [(80000, .parr (σ 80000) 3 1 (part1.map c3))]⟩) (by kernel_rfl) (by kernel_rfl) ?_ ?_
  ·refine DR 2 ?_
   refine DE_0 2 (.po 80000 1 (Int.toNat (i2)) 0) (by kernel_rfl) rfl rfl rfl (gsat_none rfl) (by kernel_rfl) (Y0_idxoM (c := c3) (xs := part1) (v := e4) (id := 80000) (T := 3) (sz := 1) (n := i2) Try.underlying47 sz3 rfl (by kernel_rfl) (by kernel_rfl) (by kernel_rfl) he4) 11 rfl ?_
   refine DE_0 3 (I e5) (by kernel_rfl) rfl rfl rfl (gsat_none rfl) (by kernel_rfl) (Y0_loado1 (c := c3) (xs := part1) (v := e5) (id := 80000) (sz := 1) (T := 3) (off := 0) (n := i2) (d := Ti e5) (ds := []) sc3 rfl (by kernel_rfl) (by kernel_rfl) he5 (by kernel_rfl)) 12 rfl ?_
   refine DR 2 ?_
   refine DE_0 6 (.po 80000 1 (Int.toNat (k3)) 0) (by kernel_rfl) rfl rfl rfl (gsat_none rfl) (by kernel_rfl) (Y0_idxoM (c := c3) (xs := part1) (v := e6) (id := 80000) (T := 3) (sz := 1) (n := k3) Try.underlying47 sz3 rfl (by kernel_rfl) (by kernel_rfl) (by kernel_rfl) he6) 15 rfl ?_
   refine DE_0 7 (I e7) (by kernel_rfl) rfl rfl rfl (gsat_none rfl) (by kernel_rfl) (Y0_loado1 (c := c3) (xs := part1) (v := e7) (id := 80000) (sz := 1) (T := 3) (off := 0) (n := k3) (d := Ti e7) (ds := []) sc3 rfl (by kernel_rfl) (by kernel_rfl) he7 (by kernel_rfl)) 16 rfl ?_
   refine DE_0 8 (I (mnI e5 e7)) (by kernel_rfl) rfl rfl rfl (gsat_none rfl) (by kernel_rfl) (Y0_min (a := e5) (b := e7) rfl (by kernel_rfl) (by kernel_rfl)) 17 rfl ?_
   refine DR 2 ?_
   refine DE_0 11 (.po 80000 1 (Int.toNat (i2)) 0) (by kernel_rfl) rfl rfl rfl (gsat_none rfl) (by kernel_rfl) (Y0_idxoM (c := c3) (xs := part1) (v := e8) (id := 80000) (T := 3) (sz := 1) (n := i2) Try.underlying47 sz3 rfl (by kernel_rfl) (by kernel_rfl) (by kernel_rfl) he8) 20 rfl ?_
   refine DE_0 12 (I e9) (by kernel_rfl) rfl rfl rfl (gsat_none rfl) (by kernel_rfl) (Y0_loado1 (c := c3) (xs := part1) (v := e9) (id := 80000) (sz := 1) (T := 3) (off := 0) (n := i2) (d := Ti e9) (ds := []) sc3 rfl (by kernel_rfl) (by kernel_rfl) he9 (by kernel_rfl)) 21 rfl ?_
   refine DR 2 ?_
   refine DE_0 15 (.po 80000 1 (Int.toNat (k3)) 0) (by kernel_rfl) rfl rfl rfl (gsat_none rfl) (by kernel_rfl) (Y0_idxoM (c := c3) (xs := part1) (v := e10) (id := 80000) (T := 3) (sz := 1) (n := k3) Try.underlying47 sz3 rfl (by kernel_rfl) (by kernel_rfl) (by kernel_rfl) he10) 24 rfl ?_
   refine DE_0 16 (I e11) (by kernel_rfl) rfl rfl rfl (gsat_none rfl) (by kernel_rfl) (Y0_loado1 (c := c3) (xs := part1) (v := e11) (id := 80000) (sz := 1) (T := 3) (off := 0) (n := k3) (d := Ti e11) (ds := []) sc3 rfl (by kernel_rfl) (by kernel_rfl) he11 (by kernel_rfl)) 25 rfl ?_
   refine DE_0 17 (I (mxI e9 e11)) (by kernel_rfl) rfl rfl rfl (gsat_none rfl) (by kernel_rfl) (Y0_max (a := e9) (b := e11) rfl (by kernel_rfl) (by kernel_rfl)) 26 rfl ?_
   refine DA 2 ?_
   refine XL_nil ?_
   subst hlow12 hhigh13
   kernel_rfl
  refine V_sreg (mb 43 805306561) [80000] (s1 := ⟨.ow 80000 :: bt 5 (I low12 :: I high13 :: bt 20 (I ((part1.length : Int)) :: I 0 :: bt 13 [])), [(80000, .parr (σ 80000) 3 1 (part1.map c3))]⟩) ?_ ?_
  ·refine XR 1 ?_
   refine L0 rfl rfl (Y0_lenM (c := c3) (xs := part1) Try.underlying47 rfl (by kernel_rfl)) ?_
   exact XE
  obtain ⟨o17, hLo17, h⟩ := of_bind h
  refine V_toK (mb 43 0) [80000] (s1 := ⟨bt 43 [], [(80000, .parr (σ 80000) 3 1 (o17.map c3))]⟩) ?_ ?_
  ·clear h
   refine V_block (V_loop (fun n s => ∃ (t14 : Int) (l15 : List Int), s.keep (mb 43 805306561) [80000] = (⟨.ow 80000 :: bt 5 (I low12 :: I high13 :: bt 20 (I ((part1.length : Int)) :: I t14 :: bt 13 [])), [(80000, .parr (σ 80000) 3 1 (l15.map c3))]⟩ : St) ∧ r_impl_merge_L16 high13 low12 part1 n t14 l15 = some o17) FU ⟨_, _,  by rfl, hLo17⟩ ?_)
   clear hLo17
   rintro n s ⟨t14, l15, hs, h⟩
   refine V_keep _ _ hs ?_
   clear hs
   cases n with
   | zero => cases h
   | succ n =>
    rw [r_impl_merge_L16] at h
    refine V_e (mb 43 1879048385) [80000] (s1 := ⟨.ow 80000 :: bt 5 (I low12 :: I high13 :: bt 20 (I ((part1.length : Int)) :: I t14 :: Bo (ltI t14 ((part1.length : Int))) :: bt 12 [])), [(80000, .parr (σ 80000) 3 1 (l15.map c3))]⟩) ?_
    refine V_seq ?_
    refine V_cond rfl (fun hc18 => ?_) (fun hc18 => ?_)
    ·have h := of_true h hc18
     refine V_skip ?_
     show V _ _ _ _
     refine V_seq ?_
     refine V_block ?_
     refine V_e (mb 43 805306817) [80000] (s1 := ⟨.ow 80000 :: bt 5 (I low12 :: I high13 :: I t14 :: bt 19 (I ((part1.length : Int)) :: I t14 :: bt 13 [])), [(80000, .parr (σ 80000) 3 1 (l15.map c3))]⟩) ?_
     obtain ⟨e19, he19, h⟩ := of_bind h
     obtain ⟨e20, he20, h⟩ := of_bind h
     refine V_sreg (mb 43 138244260289) [80000] (s1 := ⟨.ow 80000 :: bt 5 (I low12 :: I high13 :: I t14 :: bt 19 (I ((part1.length : Int)) :: I t14 :: bt 7 (Bo (eqI e20 high13) :: bt 5 []))), [(80000, .parr (σ 80000) 3 1 (l15.map c3))]⟩) ?_ ?_
     ·refine XR 2 ?_
      refine L0 rfl rfl (Y0_idxoM (c := c3) (xs := l15) (v := e19) (id := 80000) (T := 3) (sz := 1) (n := t14) Try.underlying47 sz3 rfl (by kernel_rfl) (by kernel_rfl) (by kernel_rfl) he19) ?_
      refine L0 rfl rfl (Y0_loado1 (c := c3) (xs := l15) (v := e20) (id := 80000) (sz := 1) (T := 3) (off := 0) (n := t14) (d := Ti e20) (ds := []) sc3 rfl (by kernel_rfl) (by kernel_rfl) he20 (by kernel_rfl)) ?_
      exact XE
     refine V_cond rfl (fun hc21 => ?_) (fun hc21 => ?_)
     ·have h := of_true h hc21
      obtain ⟨e22, he22, h⟩ := of_bind h
      obtain ⟨e23, he23, h⟩ := of_bind h
      refine V_reg (mb 43 805306561) [80000] (s1 := ⟨.ow 80000 :: bt 5 (I low12 :: I high13 :: bt 20 (I ((part1.length : Int)) :: I t14 :: bt 13 [])), [(80000, .parr (σ 80000) 3 1 ((l15.set (Int.toNat (t14)) low12).map c3))]⟩) ?_ ?_
      ·refine XR 3 ?_
       refine L0 rfl rfl (Y0_idxoM (c := c3) (xs := l15) (v := e22) (id := 80000) (T := 3) (sz := 1) (n := t14) Try.underlying47 sz3 rfl (by kernel_rfl) (by kernel_rfl) (by kernel_rfl) he22) ?_
       refine XL_cons rfl (X_storeopM (l := σ 80000) (c := c3) (xs := l15) (v := e23) (u := low12) (id := 80000) (sz := 1) (off := 0) (T0 := 3) (n := t14) (vc := [Ti low12]) rfl rfl (by kernel_rfl) (by kernel_rfl) he23 (by kernel_rfl) sz3 (Nat.le_of_ble_eq_true rfl) (by kernel_rfl)) ?_
       exact XE
      show V _ _ _ _
      obtain ⟨t24, ht24, h⟩ := of_sI h
      refine V_reg (mb 43 805306561) [80000] (s1 := ⟨.ow 80000 :: bt 5 (I low12 :: I high13 :: bt 20 (I ((part1.length : Int)) :: I t24 :: bt 13 [])), [(80000, .parr (σ 80000) 3 1 ((l15.set (Int.toNat (t14)) low12).map c3))]⟩) ?_ ?_
      ·refine XR 2 ?_
       refine XL_nil ?_
       subst ht24
       kernel_rfl
      exact ⟨n, Nat.lt_succ_self n, _, _,  by rfl, h⟩
     ·have h := of_false h hc21
      refine V_skip ?_
      show V _ _ _ _
      obtain ⟨t25, ht25, h⟩ := of_sI h
      refine V_reg (mb 43 805306561) [80000] (s1 := ⟨.ow 80000 :: bt 5 (I low12 :: I high13 :: bt 20 (I ((part1.length : Int)) :: I t25 :: bt 13 [])), [(80000, .parr (σ 80000) 3 1 (l15.map c3))]⟩) ?_ ?_
      ·refine XR 2 ?_
       refine XL_nil ?_
       subst ht25
       kernel_rfl
      exact ⟨n, Nat.lt_succ_self n, _, _,  by rfl, h⟩
    ·have h := of_false h hc18
     refine V_exit ?_
     obtain rfl := some_inj h
     show St.keep _ _ _ = _
     rfl
  obtain rfl := some_inj h
  show PostR _ _ _ _ _ _
  exact ⟨⟨.inl rfl, rfl, rfl, rfl⟩, ⟨rfl, trivial⟩⟩
theorem cf_impl_WalkComponents : ∀ args w, (callFunc 23 args).run Try.prog w = .ok (.enter 23 args) w := run_callFunc Try.func23 (by kernel_rfl) (by kernel_rfl)
theorem s_impl_WalkComponents {d1 : Int} {primes2 : List Int} {r : ((List (List ((Int × Int × Int)))) × Bool)} (h : r_impl_WalkComponents d1 primes2 = some r) : CallS Try.prog 23 [I d1, .c (.sl (primes2.map c3))] (.tc (.ow 0) (.tc (Bo r.2) .tn)) [(0, .arr 44 1 (r.1.map c44))] := by
  refine CallS_of_text (rs := [.t 4, .t 5]) (vs := [.tmp 4, .tmp 5]) Try.func23 rfl rfl (.cons rfl (.cons rfl FitsL.nil)) (by decide) 118 rfl ?_
  unfold r_impl_WalkComponents at h
  show V _ _ ⟨I d1 :: .c (.sl (primes2.map c3)) :: bt 116 [], []⟩ _
  refine V_sreg (mb 118 3) [] (s1 := ⟨I d1 :: .c (.sl (primes2.map c3)) :: bt 116 [], []⟩) ?_ ?_
  ·refine L1 rfl rfl (Y1_nil (e := 44) 1 (by decide) (.inl rfl)) ?_
   exact XE
  refine V_seq ?_
  obtain ⟨y3, hy3, h⟩ := of_bind h
  obtain ⟨b6, hb6, h⟩ := of_bind h
  refine V_sreg (mb 118 134217731) [] (s1 := ⟨I d1 :: .c (.sl (primes2.map c3)) :: bt 25 (Bo b6 :: bt 90 []), []⟩) ?_ ?_
  ·refine XR 1 ?_
   refine XC (s_impl_isNegativeDisc hy3) cf_impl_isNegativeDisc rfl rfl rfl ?_
   refine XR 2 ?_
   refine XL_split (!y3) (fun hc4 => ?_) (fun hc4 => ?_)
   ·have hb6 := some_inj (of_true hb6 hc4)
    refine XL_skipF _ rfl rfl (by kernel_rfl) hc4 rfl ?_
    refine XL_skipF _ rfl rfl (by kernel_rfl) hc4 rfl ?_
    refine XL_skipF _ rfl rfl (by kernel_rfl) hc4 rfl ?_
    refine XL_cons rfl (X_of_Y0 rfl (Y0_pickTe (b := !y3) (p := true) rfl (by kernel_rfl) hc4 (by kernel_rfl) hb6)) ?_
    exact XE
   ·have hb6 := of_false hb6 hc4
    obtain ⟨y5, hy5, hb6⟩ := of_bind hb6
    have hb6 := some_inj hb6
    refine XL_takeC _ rfl rfl (by kernel_rfl) hc4 (X_of_Y0 rfl (E_move (.c (.sl (primes2.map c3))) rfl (by kernel_rfl))) ?_
    refine XL_takeC _ rfl rfl (by kernel_rfl) hc4 (X_of_Y1 rfl (Y1_call (s_impl_areIndices hy5) cf_impl_areIndices rfl (by kernel_rfl))) ?_
    refine XL_takeC _ rfl rfl (by kernel_rfl) hc4 (X_of_Y0 rfl (Y0_not (b := y5) rfl (by kernel_rfl))) ?_
    refine XL_cons rfl (X_of_Y0 rfl (Y0_pickFe (b := !y3) (p := !y5) rfl (by kernel_rfl) hc4 (by kernel_rfl) hb6)) ?_
    exact XE
  refine V_cond rfl (fun hc7 => ?_) (fun hc7 => ?_)
  ·have h := of_true h hc7
   refine V_sreg (mb 118 48) [224] (s1 := ⟨bt 4 (.ow 224 :: Bo false :: bt 112 []), [(224, .arr 44 1 ((([] : List (List ((Int × Int × Int))))).map c44))]⟩) ?_ ?_
   ·refine L1 rfl rfl (Y1_bslice0 Try.underlying49 sz44 (by decide) rfl rfl) ?_
    exact XE
   refine V_ret ?_
   obtain rfl := some_inj h
   show Post _ _ _ _ _
   exact ⟨.inr rfl, rfl, rfl, rfl⟩
  ·have h := of_false h hc7
   refine V_skip ?_
   show V _ _ _ _
   obtain ⟨y8, hy8, h⟩ := of_bind h
   refine V_sreg (mb 118 67) [] (s1 := ⟨I d1 :: .c (.sl (primes2.map c3)) :: bt 4 (.pe [.sl (y8.1.map c25), .mp (y8.2.map kv78)] :: bt 111 []), []⟩) ?_ ?_
   ·refine XR 1 ?_
    refine XC (s_impl_groupOf hy8) cf_impl_groupOf rfl rfl rfl ?_
    exact XE
   obtain ⟨u9, hu9, h⟩ := of_bind h
   refine V_sreg (mb 118 195) [288] (s1 := ⟨I d1 :: .c (.sl (primes2.map c3)) :: bt 4 (.pe [.sl (y8.1.map c25), .mp (y8.2.map kv78)] :: .ow 288 :: bt 110 []), [(288, .arr 3 1 ((List.replicate (Int.toNat ((y8.1.length : Int))) ((0 : Int))).map c3))]⟩) ?_ ?_
   ·refine XR 1 ?_
    refine L0 rfl rfl (E_nil (.pe [.sl (y8.1.map c25), .mp (y8.2.map kv78)]) rfl (by kernel_rfl) (by intro hh; cases hh)) ?_
    refine XR 2 ?_
    refine L0 rfl rfl (Y0_lenM (c := c25) (xs := y8.1) Try.underlying44 rfl (by kernel_rfl)) ?_
    refine L1 rfl rfl (Y1_make (c := c3) (zx := (0 : Int)) (z := zv3) (l := (y8.1.length : Int)) (k := (y8.1.length : Int)) Try.underlying47 izb3 rfl rfl (by decide) rfl rfl (by kernel_rfl) (by kernel_rfl) (mk_some hu9) (by decide)) ?_
    exact XE
   refine V_seq ?_
   obtain ⟨t10, ht10, h⟩ := of_sI h
   refine V_sreg (mb 118 824633721027) [288] (s1 := ⟨I d1 :: .c (.sl (primes2.map c3)) :: bt 4 (.pe [.sl (y8.1.map c25), .mp (y8.2.map kv78)] :: .ow 288 :: bt 30 (I t10 :: I 0 :: bt 78 [])), [(288, .arr 3 1 ((List.replicate (Int.toNat ((y8.1.length : Int))) ((0 : Int))).map c3))]⟩) ?_ ?_
   ·refine XR 1 ?_
    refine L0 rfl rfl (Y0_lenM (c := c3) (xs := List.replicate (Int.toNat ((y8.1.length : Int))) ((0 : Int))) Try.underlying47 rfl (by kernel_rfl)) ?_
    refine XR 1 ?_
    refine XL_nil ?_
    subst ht10
    kernel_rfl
   obtain ⟨o14, hLo14, h⟩ := of_bind h
   refine V_toK (mb 118 195) [288] (s1 := ⟨I d1 :: .c (.sl (primes2.map c3)) :: bt 4 (.pe [.sl (y8.1.map c25), .mp (y8.2.map kv78)] :: .ow 288 :: bt 110 []), [(288, .arr 3 1 (o14.map c3))]⟩) ?_ ?_
   ·clear h
    refine V_block (V_loop (fun n s => ∃ (t11 : Int) (l12 : List Int), s.keep (mb 118 824633721027) [288] = (⟨I d1 :: .c (.sl (primes2.map c3)) :: bt 4 (.pe [.sl (y8.1.map c25), .mp (y8.2.map kv78)] :: .ow 288 :: bt 30 (I t10 :: I t11 :: bt 78 [])), [(288, .arr 3 1 (l12.map c3))]⟩ : St) ∧ r_impl_WalkComponents_L13 d1 primes2 t10 y8 n t11 l12 = some o14) FU ⟨_, _,  by rfl, hLo14⟩ ?_)
    clear hLo14
    rintro n s ⟨t11, l12, hs, h⟩
    refine V_keep _ _ hs ?_
    clear hs
    cases n with
    | zero => cases h
    | succ n =>
     rw [r_impl_WalkComponents_L13] at h
     refine V_e (mb 118 1924145348803) [288] (s1 := ⟨I d1 :: .c (.sl (primes2.map c3)) :: bt 4 (.pe [.sl (y8.1.map c25), .mp (y8.2.map kv78)] :: .ow 288 :: bt 30 (I t10 :: I t11 :: Bo (ltI t11 t10) :: bt 77 [])), [(288, .arr 3 1 (l12.map c3))]⟩) ?_
     refine V_seq ?_
     refine V_cond rfl (fun hc15 => ?_) (fun hc15 => ?_)
     ·have h := of_true h hc15
      refine V_skip ?_
      show V _ _ _ _
      refine V_seq ?_
      refine V_block ?_
      refine V_e (mb 118 824633721283) [288] (s1 := ⟨I d1 :: .c (.sl (primes2.map c3)) :: bt 4 (.pe [.sl (y8.1.map c25), .mp (y8.2.map kv78)] :: .ow 288 :: I t11 :: bt 29 (I t10 :: I t11 :: bt 78 [])), [(288, .arr 3 1 (l12.map c3))]⟩) ?_
      obtain ⟨e16, he16, h⟩ := of_bind h
      obtain ⟨e17, he17, h⟩ := of_bind h
      refine V_reg (mb 118 824633721027) [288] (s1 := ⟨I d1 :: .c (.sl (primes2.map c3)) :: bt 4 (.pe [.sl (y8.1.map c25), .mp (y8.2.map kv78)] :: .ow 288 :: bt 30 (I t10 :: I t11 :: bt 78 [])), [(288, .arr 3 1 ((l12.set (Int.toNat (t11)) t11).map c3))]⟩) ?_ ?_
      ·refine XR 3 ?_
       refine L0 rfl rfl (Y0_idxoM (c := c3) (xs := l12) (v := e16) (id := 288) (T := 3) (sz := 1) (n := t11) Try.underlying47 sz3 rfl (by kernel_rfl) (by kernel_rfl) (by kernel_rfl) he16) ?_
       refine XL_cons rfl (X_storeoM (c := c3) (xs := l12) (v := e17) (u := t11) (id := 288) (sz := 1) (off := 0) (T0 := 3) (n := t11) (vc := [Ti t11]) rfl rfl (by kernel_rfl) (by kernel_rfl) he17 (by kernel_rfl) sz3 (Nat.le_of_ble_eq_true rfl) (by kernel_rfl)) ?_
       exact XE
      show V _ _ _ _
      obtain ⟨t18, ht18, h⟩ := of_sI h
      refine V_reg (mb 118 824633721027) [288] (s1 := ⟨I d1 :: .c (.sl (primes2.map c3)) :: bt 4 (.pe [.sl (y8.1.map c25), .mp (y8.2.map kv78)] :: .ow 288 :: bt 30 (I t10 :: I t18 :: bt 78 [])), [(288, .arr 3 1 ((l12.set (Int.toNat (t11)) t11).map c3))]⟩) ?_ ?_
      ·refine XR 2 ?_
       refine XL_nil ?_
       subst ht18
       kernel_rfl
      exact ⟨n, Nat.lt_succ_self n, _, _,  by rfl, h⟩
     ·have h := of_false h hc15
      refine V_exit ?_
      obtain rfl := some_inj h
      show St.keep _ _ _ = _
      rfl
   show V _ _ _ _
   refine V_seq ?_
   refine V_sreg (mb 118 985162418487489) [288] (s1 := ⟨I d1 :: bt 5 (.pe [.sl (y8.1.map c25), .mp (y8.2.map kv78)] :: .ow 288 :: bt 39 (.c (.sl (primes2.map c3)) :: I ((primes2.length : Int)) :: I 0 :: bt 68 [])), [(288, .arr 3 1 (o14.map c3))]⟩) ?_ ?_
   ·refine XR 1 ?_
    refine L0 rfl rfl (Y0_lenM (c := c3) (xs := primes2) Try.underlying47 rfl (by kernel_rfl)) ?_
    exact XE
   obtain ⟨o22, hLo22, h⟩ := of_bind h
   refine V_toK (mb 118 192) [288] (s1 := ⟨bt 6 (.pe [.sl (y8.1.map c25), .mp (y8.2.map kv78)] :: .ow 288 :: bt 110 []), [(288, .arr 3 1 (o22.map c3))]⟩) ?_ ?_
   ·clear h
    refine V_block (V_loop (fun n s => ∃ (t19 : Int) (l20 : List Int), s.keep (mb 118 985162418487489) [288] = (⟨I d1 :: bt 5 (.pe [.sl (y8.1.map c25), .mp (y8.2.map kv78)] :: .ow 288 :: bt 39 (.c (.sl (primes2.map c3)) :: I ((primes2.length : Int)) :: I t19 :: bt 68 [])), [(288, .arr 3 1 (l20.map c3))]⟩ : St) ∧ r_impl_WalkComponents_L21 d1 primes2 y8 n t19 l20 = some o22) FU ⟨_, _,  by rfl, hLo22⟩ ?_)
    clear hLo22
    rintro n s ⟨t19, l20, hs, h⟩
    refine V_keep _ _ hs ?_
    clear hs
    cases n with
    | zero => cases h
    | succ n =>
     rw [r_impl_WalkComponents_L21] at h
     refine V_e (mb 118 2111062325330113) [288] (s1 := ⟨I d1 :: bt 5 (.pe [.sl (y8.1.map c25), .mp (y8.2.map kv78)] :: .ow 288 :: bt 39 (.c (.sl (primes2.map c3)) :: I ((primes2.length : Int)) :: I t19 :: Bo (ltI t19 ((primes2.length : Int))) :: bt 67 [])), [(288, .arr 3 1 (l20.map c3))]⟩) ?_
     refine V_seq ?_
     refine V_cond rfl (fun hc23 => ?_) (fun hc23 => ?_)
     ·have h := of_true h hc23
      refine V_skip ?_
      show V _ _ _ _
      refine V_seq ?_
      refine V_block ?_
      obtain ⟨e24, he24, h⟩ := of_bind h
      refine V_sreg (mb 118 985162418488513) [288] (s1 := ⟨I d1 :: bt 5 (.pe [.sl (y8.1.map c25), .mp (y8.2.map kv78)] :: .ow 288 :: .bot :: .bot :: I e24 :: bt 36 (.c (.sl (primes2.map c3)) :: I ((primes2.length : Int)) :: I t19 :: bt 68 [])), [(288, .arr 3 1 (l20.map c3))]⟩) ?_ ?_
      ·refine L0 rfl rfl (Y0_idxM (c := c3) (xs := primes2) (v := e24) (n := t19) Try.underlying47 sz3 rfl (by kernel_rfl) (by kernel_rfl) he24) ?_
       exact XE
      obtain ⟨y25, hy25, h⟩ := of_bind h
      refine V_sreg (mb 118 253186741551235265) [440, 288] (s1 := ⟨I d1 :: bt 5 (.pe [.sl (y8.1.map c25), .mp (y8.2.map kv78)] :: .ow 288 :: bt 39 (.c (.sl (primes2.map c3)) :: I ((primes2.length : Int)) :: I t19 :: bt 5 (.ow 440 :: I ((y25.length : Int)) :: I 0 :: bt 60 []))), [(440, .arr 47 1 (y25.map c47)), (288, .arr 3 1 (l20.map c3))]⟩) ?_ ?_
      ·refine XR 2 ?_
       refine XC (s_impl_neighbourMatrix hy25) cf_impl_neighbourMatrix rfl rfl rfl ?_
       refine L0 rfl rfl (Y0_lenM (c := c47) (xs := y25) Try.underlying39 rfl (by kernel_rfl)) ?_
       exact XE
      obtain ⟨o29, hLo29, h⟩ := of_bind h
      refine V_toK (mb 118 985162418487489) [288] (s1 := ⟨I d1 :: bt 5 (.pe [.sl (y8.1.map c25), .mp (y8.2.map kv78)] :: .ow 288 :: bt 39 (.c (.sl (primes2.map c3)) :: I ((primes2.length : Int)) :: I t19 :: bt 68 [])), [(288, .arr 3 1 (o29.map c3))]⟩) ?_ ?_
      ·clear h
       refine V_block (V_loop (fun n s => ∃ (t26 : Int) (l27 : List Int), s.keep (mb 118 253186741551235265) [440, 288] = (⟨I d1 :: bt 5 (.pe [.sl (y8.1.map c25), .mp (y8.2.map kv78)] :: .ow 288 :: bt 39 (.c (.sl (primes2.map c3)) :: I ((primes2.length : Int)) :: I t19 :: bt 5 (.ow 440 :: I ((y25.length : Int)) :: I t26 :: bt 60 []))), [(440, .arr 47 1 (y25.map c47)), (288, .arr 3 1 (l27.map c3))]⟩ : St) ∧ r_impl_WalkComponents_L28 d1 primes2 t19 y25 y8 n t26 l27 = some o29) FU ⟨_, _,  by rfl, hLo29⟩ ?_)
       clear hLo29
       rintro n s ⟨t26, l27, hs, h⟩
       refine V_keep _ _ hs ?_
       clear hs
       cases n with
       | zero => cases h
       | succ n =>
        rw [r_impl_WalkComponents_L28] at h
        refine V_e (mb 118 541417117702947009) [440, 288] (s1 := ⟨I d1 :: bt 5 (.pe [.sl (y8.1.map c25), .mp (y8.2.map kv78)] :: .ow 288 :: bt 39 (.c (.sl (primes2.map c3)) :: I ((primes2.length : Int)) :: I t19 :: bt 5 (.ow 440 :: I ((y25.length : Int)) :: I t26 :: Bo (ltI t26 ((y25.length : Int))) :: bt 59 []))), [(440, .arr 47 1 (y25.map c47)), (288, .arr 3 1 (l27.map c3))]⟩) ?_
        refine V_seq ?_
        refine V_cond rfl (fun hc30 => ?_) (fun hc30 => ?_)
        ·have h := of_true h hc30
         refine V_skip ?_
         show V _ _ _ _
         refine V_seq ?_
         refine V_block ?_
         obtain ⟨e31, he31, h⟩ := of_bind h
         obtain ⟨e32, he32, h⟩ := of_bind h
         refine V_sreg (mb 118 253186741551241409) [440, 288] (s1 := ⟨I d1 :: bt 5 (.pe [.sl (y8.1.map c25), .mp (y8.2.map kv78)] :: .ow 288 :: bt 3 (I t26 :: .c (.sl (e32.map c3)) :: bt 34 (.c (.sl (primes2.map c3)) :: I ((primes2.length : Int)) :: I t19 :: bt 5 (.ow 440 :: I ((y25.length : Int)) :: I t26 :: bt 60 [])))), [(440, .arr 47 1 (y25.map c47)), (288, .arr 3 1 (l27.map c3))]⟩) ?_ ?_
         ·refine XR 1 ?_
          refine L0 rfl rfl (Y0_idxoM (c := c47) (xs := y25) (v := e31) (id := 440) (T := 47) (sz := 1) (n := t26) Try.underlying39 sz47 rfl (by kernel_rfl) (by kernel_rfl) (by kernel_rfl) he31) ?_
          refine L0 rfl rfl (Y0_loado1 (c := c47) (xs := y25) (v := e32) (id := 440) (sz := 1) (T := 47) (off := 0) (n := t26) (d := .sl (e32.map c3)) (ds := []) sc47 rfl (by kernel_rfl) (by kernel_rfl) he32 (by kernel_rfl)) ?_
          exact XE
         refine V_sreg (mb 118 32534988870542952641) [440, 288] (s1 := ⟨I d1 :: bt 5 (.pe [.sl (y8.1.map c25), .mp (y8.2.map kv78)] :: .ow 288 :: bt 3 (I t26 :: bt 35 (.c (.sl (primes2.map c3)) :: I ((primes2.length : Int)) :: I t19 :: bt 5 (.ow 440 :: I ((y25.length : Int)) :: I t26 :: bt 4 (.c (.sl (e32.map c3)) :: I ((e32.length : Int)) :: I 0 :: bt 53 []))))), [(440, .arr 47 1 (y25.map c47)), (288, .arr 3 1 (l27.map c3))]⟩) ?_ ?_
         ·refine XR 1 ?_
          refine L0 rfl rfl (Y0_lenM (c := c3) (xs := e32) Try.underlying47 rfl (by kernel_rfl)) ?_
          exact XE
         obtain ⟨o36, hLo36, h⟩ := of_bind h
         refine V_toK (mb 118 253186741551235265) [440, 288] (s1 := ⟨I d1 :: bt 5 (.pe [.sl (y8.1.map c25), .mp (y8.2.map kv78)] :: .ow 288 :: bt 39 (.c (.sl (primes2.map c3)) :: I ((primes2.length : Int)) :: I t19 :: bt 5 (.ow 440 :: I ((y25.length : Int)) :: I t26 :: bt 60 []))), [(440, .arr 47 1 (y25.map c47)), (288, .arr 3 1 (o36.map c3))]⟩) ?_ ?_
         ·clear h
          refine V_block (V_loop (fun n s => ∃ (t33 : Int) (l34 : List Int), s.keep (mb 118 32534988870542952641) [440, 288] = (⟨I d1 :: bt 5 (.pe [.sl (y8.1.map c25), .mp (y8.2.map kv78)] :: .ow 288 :: bt 3 (I t26 :: bt 35 (.c (.sl (primes2.map c3)) :: I ((primes2.length : Int)) :: I t19 :: bt 5 (.ow 440 :: I ((y25.length : Int)) :: I t26 :: bt 4 (.c (.sl (e32.map c3)) :: I ((e32.length : Int)) :: I t33 :: bt 53 []))))), [(440, .arr 47 1 (y25.map c47)), (288, .arr 3 1 (l34.map c3))]⟩ : St) ∧ r_impl_WalkComponents_L35 d1 e32 primes2 t19 t26 y25 y8 n t33 l34 = some o36) FU ⟨_, _,  by rfl, hLo36⟩ ?_)
          clear hLo36
          rintro n s ⟨t33, l34, hs, h⟩
          refine V_keep _ _ hs ?_
          clear hs
          cases n with
          | zero => cases h
          | succ n =>
           rw [r_impl_WalkComponents_L35] at h
           refine V_e (mb 118 69428477017962055873) [440, 288] (s1 := ⟨I d1 :: bt 5 (.pe [.sl (y8.1.map c25), .mp (y8.2.map kv78)] :: .ow 288 :: bt 3 (I t26 :: bt 35 (.c (.sl (primes2.map c3)) :: I ((primes2.length : Int)) :: I t19 :: bt 5 (.ow 440 :: I ((y25.length : Int)) :: I t26 :: bt 4 (.c (.sl (e32.map c3)) :: I ((e32.length : Int)) :: I t33 :: Bo (ltI t33 ((e32.length : Int))) :: bt 52 []))))), [(440, .arr 47 1 (y25.map c47)), (288, .arr 3 1 (l34.map c3))]⟩) ?_
           refine V_seq ?_
           refine V_cond rfl (fun hc37 => ?_) (fun hc37 => ?_)
           ·have h := of_true h hc37
            refine V_skip ?_
            show V _ _ _ _
            refine V_seq ?_
            refine V_block ?_
            obtain ⟨e38, he38, h⟩ := of_bind h
            refine V_sreg (mb 118 32534988870542977217) [440, 288] (s1 := ⟨I d1 :: bt 5 (.pe [.sl (y8.1.map c25), .mp (y8.2.map kv78)] :: .ow 288 :: bt 3 (I t26 :: .bot :: I t33 :: I e38 :: bt 32 (.c (.sl (primes2.map c3)) :: I ((primes2.length : Int)) :: I t19 :: bt 5 (.ow 440 :: I ((y25.length : Int)) :: I t26 :: bt 4 (.c (.sl (e32.map c3)) :: I ((e32.length : Int)) :: I t33 :: bt 53 []))))), [(440, .arr 47 1 (y25.map c47)), (288, .arr 3 1 (l34.map c3))]⟩) ?_ ?_
            ·refine XR 1 ?_
             refine L0 rfl rfl (Y0_idxM (c := c3) (xs := e32) (v := e38) (n := t33) Try.underlying47 sz3 rfl (by kernel_rfl) (by kernel_rfl) he38) ?_
             exact XE
            refine V_e (mb 118 1213126609587954264257) [440, 288] (s1 := ⟨I d1 :: bt 5 (.pe [.sl (y8.1.map c25), .mp (y8.2.map kv78)] :: .ow 288 :: bt 3 (I t26 :: .bot :: I t33 :: bt 33 (.c (.sl (primes2.map c3)) :: I ((primes2.length : Int)) :: I t19 :: bt 5 (.ow 440 :: I ((y25.length : Int)) :: I t26 :: bt 4 (.c (.sl (e32.map c3)) :: I ((e32.length : Int)) :: I t33 :: bt 5 (Bo (ltI 0 e38) :: bt 47 [])))))), [(440, .arr 47 1 (y25.map c47)), (288, .arr 3 1 (l34.map c3))]⟩) ?_
            refine V_cond rfl (fun hc39 => ?_) (fun hc39 => ?_)
            ·have h := of_true h hc39
             obtain ⟨y40, hy40, h⟩ := of_bind h
             refine V_reg (mb 118 32534988870542952641) [440, 288] (s1 := ⟨I d1 :: bt 5 (.pe [.sl (y8.1.map c25), .mp (y8.2.map kv78)] :: .ow 288 :: bt 3 (I t26 :: bt 35 (.c (.sl (primes2.map c3)) :: I ((primes2.length : Int)) :: I t19 :: bt 5 (.ow 440 :: I ((y25.length : Int)) :: I t26 :: bt 4 (.c (.sl (e32.map c3)) :: I ((e32.length : Int)) :: I t33 :: bt 53 []))))), [(440, .arr 47 1 (y25.map c47)), (288, .arr 3 1 (y40.map c3))]⟩) ?_ ?_
             ·refine XR 3 ?_
              refine XL_cons rfl (X_callR (E' := [(440, .arr 47 1 (y25.map c47)), (288, .arr 3 1 (y40.map c3))]) [(80000, 288)] 74 (s_impl_merge hy40) cf_impl_merge rfl rfl (by kernel_rfl) rfl (mE_cons (by kernel_rfl) mE_nil) rfl (by kernel_rfl) rfl rfl (by kernel_rfl)) ?_
              exact XE
             show V _ _ _ _
             obtain ⟨t41, ht41, h⟩ := of_sI h
             refine V_reg (mb 118 32534988870542952641) [440, 288] (s1 := ⟨I d1 :: bt 5 (.pe [.sl (y8.1.map c25), .mp (y8.2.map kv78)] :: .ow 288 :: bt 3 (I t26 :: bt 35 (.c (.sl (primes2.map c3)) :: I ((primes2.length : Int)) :: I t19 :: bt 5 (.ow 440 :: I ((y25.length : Int)) :: I t26 :: bt 4 (.c (.sl (e32.map c3)) :: I ((e32.length : Int)) :: I t41 :: bt 53 []))))), [(440, .arr 47 1 (y25.map c47)), (288, .arr 3 1 (y40.map c3))]⟩) ?_ ?_
             ·refine XR 2 ?_
              refine XL_nil ?_
              subst ht41
              kernel_rfl
             exact ⟨n, Nat.lt_succ_self n, _, _,  by rfl, h⟩
            ·have h := of_false h hc39
             refine V_skip ?_
             show V _ _ _ _
             obtain ⟨t42, ht42, h⟩ := of_sI h
             refine V_reg (mb 118 32534988870542952641) [440, 288] (s1 := ⟨I d1 :: bt 5 (.pe [.sl (y8.1.map c25), .mp (y8.2.map kv78)] :: .ow 288 :: bt 3 (I t26 :: bt 35 (.c (.sl (primes2.map c3)) :: I ((primes2.length : Int)) :: I t19 :: bt 5 (.ow 440 :: I ((y25.length : Int)) :: I t26 :: bt 4 (.c (.sl (e32.map c3)) :: I ((e32.length : Int)) :: I t42 :: bt 53 []))))), [(440, .arr 47 1 (y25.map c47)), (288, .arr 3 1 (l34.map c3))]⟩) ?_ ?_
             ·refine XR 2 ?_
              refine XL_nil ?_
              subst ht42
              kernel_rfl
             exact ⟨n, Nat.lt_succ_self n, _, _,  by rfl, h⟩
           ·have h := of_false h hc37
            refine V_exit ?_
            obtain rfl := some_inj h
            show St.keep _ _ _ = _
            rfl
         show V _ _ _ _
         obtain ⟨t43, ht43, h⟩ := of_sI h
         refine V_reg (mb 118 253186741551235265) [440, 288] (s1 := ⟨I d1 :: bt 5 (.pe [.sl (y8.1.map c25), .mp (y8.2.map kv78)] :: .ow 288 :: bt 39 (.c (.sl (primes2.map c3)) :: I ((primes2.length : Int)) :: I t19 :: bt 5 (.ow 440 :: I ((y25.length : Int)) :: I t43 :: bt 60 []))), [(440, .arr 47 1 (y25.map c47)), (288, .arr 3 1 (o36.map c3))]⟩) ?_ ?_
         ·refine XR 2 ?_
          refine XL_nil ?_
          subst ht43
          kernel_rfl
         exact ⟨n, Nat.lt_succ_self n, _, _,  by rfl, h⟩
        ·have h := of_false h hc30
         refine V_exit ?_
         obtain rfl := some_inj h
         show St.keep _ _ _ = _
         rfl
      show V _ _ _ _
      obtain ⟨t44, ht44, h⟩ := of_sI h
      refine V_reg (mb 118 985162418487489) [288] (s1 := ⟨I d1 :: bt 5 (.pe [.sl (y8.1.map c25), .mp (y8.2.map kv78)] :: .ow 288 :: bt 39 (.c (.sl (primes2.map c3)) :: I ((primes2.length : Int)) :: I t44 :: bt 68 [])), [(288, .arr 3 1 (o29.map c3))]⟩) ?_ ?_
      ·refine XR 2 ?_
       refine XL_nil ?_
       subst ht44
       kernel_rfl
      exact ⟨n, Nat.lt_succ_self n, _, _,  by rfl, h⟩
     ·have h := of_false h hc23
      refine V_exit ?_
      obtain rfl := some_inj h
      show St.keep _ _ _ = _
      rfl
   show V _ _ _ _
   refine V_sreg (mb 118 32960) [624, 288] (s1 := ⟨bt 6 (.pe [.sl (y8.1.map c25), .mp (y8.2.map kv78)] :: .ow 288 :: bt 7 (.ow 624 :: bt 102 [])), [(624, .arr 44 1 ((([] : List (List ((Int × Int × Int))))).map c44)), (288, .arr 3 1 (o22.map c3))]⟩) ?_ ?_
   ·refine L1 rfl rfl (Y1_bslice0 Try.underlying49 sz44 (by decide) rfl rfl) ?_
    exact XE
   refine V_seq ?_
   refine V_sreg (mb 118 3626777458843887524151488) [624, 288] (s1 := ⟨bt 6 (.pe [.sl (y8.1.map c25), .mp (y8.2.map kv78)] :: .ow 288 :: bt 7 (.ow 624 :: bt 64 (I ((o22.length : Int)) :: I 0 :: bt 36 []))), [(624, .arr 44 1 ((([] : List (List ((Int × Int × Int))))).map c44)), (288, .arr 3 1 (o22.map c3))]⟩) ?_ ?_
   ·refine XR 1 ?_
    refine L0 rfl rfl (Y0_lenM (c := c3) (xs := o22) Try.underlying47 rfl (by kernel_rfl)) ?_
    exact XE
   obtain ⟨o48, hLo48, h⟩ := of_bind h
   refine V_toK (mb 118 32768) [624] (s1 := ⟨bt 15 (.ow 624 :: bt 102 []), [(624, .arr 44 1 (o48.map c44))]⟩) ?_ ?_
   ·clear h
    refine V_block (V_loop (fun n s => ∃ (t45 : Int) (l46 : List (List ((Int × Int × Int)))), s.keep (mb 118 3626777458843887524151488) [624, 288] = (⟨bt 6 (.pe [.sl (y8.1.map c25), .mp (y8.2.map kv78)] :: .ow 288 :: bt 7 (.ow 624 :: bt 64 (I ((o22.length : Int)) :: I t45 :: bt 36 []))), [(624, .arr 44 1 (l46.map c44)), (288, .arr 3 1 (o22.map c3))]⟩ : St) ∧ r_impl_WalkComponents_L47 o22 y8 n t45 l46 = some o48) FU ⟨_, _,  by rfl, hLo48⟩ ?_)
    clear hLo48
    rintro n s ⟨t45, l46, hs, h⟩
    refine V_keep _ _ hs ?_
    clear hs
    cases n with
    | zero => cases h
    | succ n =>
     rw [r_impl_WalkComponents_L47] at h
     refine V_e (mb 118 8462480737302404222976192) [624, 288] (s1 := ⟨bt 6 (.pe [.sl (y8.1.map c25), .mp (y8.2.map kv78)] :: .ow 288 :: bt 7 (.ow 624 :: bt 64 (I ((o22.length : Int)) :: I t45 :: Bo (ltI t45 ((o22.length : Int))) :: bt 35 []))), [(624, .arr 44 1 (l46.map c44)), (288, .arr 3 1 (o22.map c3))]⟩) ?_
     refine V_seq ?_
     refine V_cond rfl (fun hc49 => ?_) (fun hc49 => ?_)
     ·have h := of_true h hc49
      refine V_skip ?_
      show V _ _ _ _
      refine V_seq ?_
      refine V_block ?_
      refine V_e (mb 118 3626777458843887524217024) [624, 288] (s1 := ⟨bt 6 (.pe [.sl (y8.1.map c25), .mp (y8.2.map kv78)] :: .ow 288 :: bt 7 (.ow 624 :: I t45 :: bt 63 (I ((o22.length : Int)) :: I t45 :: bt 36 []))), [(624, .arr 44 1 (l46.map c44)), (288, .arr 3 1 (o22.map c3))]⟩) ?_
      refine V_seq ?_
      obtain ⟨e50, he50, h⟩ := of_bind h
      obtain ⟨e51, he51, h⟩ := of_bind h
      refine V_sreg (mb 118 622596797101534024973779136) [624, 288] (s1 := ⟨bt 6 (.pe [.sl (y8.1.map c25), .mp (y8.2.map kv78)] :: .ow 288 :: bt 7 (.ow 624 :: I t45 :: bt 63 (I ((o22.length : Int)) :: I t45 :: bt 7 (Bo (!eqI e51 t45) :: bt 28 [])))), [(624, .arr 44 1 (l46.map c44)), (288, .arr 3 1 (o22.map c3))]⟩) ?_ ?_
      ·refine XR 2 ?_
       refine L0 rfl rfl (Y0_idxoM (c := c3) (xs := o22) (v := e50) (id := 288) (T := 3) (sz := 1) (n := t45) Try.underlying47 sz3 rfl (by kernel_rfl) (by kernel_rfl) (by kernel_rfl) he50) ?_
       refine L0 rfl rfl (Y0_loado1 (c := c3) (xs := o22) (v := e51) (id := 288) (sz := 1) (T := 3) (off := 0) (n := t45) (d := Ti e51) (ds := []) sc3 rfl (by kernel_rfl) (by kernel_rfl) he51 (by kernel_rfl)) ?_
       exact XE
      refine V_cond rfl (fun hc52 => ?_) (fun hc52 => ?_)
      ·have h := of_true h hc52
       refine V_exit ?_
       show V _ _ _ _
       obtain ⟨t53, ht53, h⟩ := of_sI h
       refine V_reg (mb 118 3626777458843887524151488) [624, 288] (s1 := ⟨bt 6 (.pe [.sl (y8.1.map c25), .mp (y8.2.map kv78)] :: .ow 288 :: bt 7 (.ow 624 :: bt 64 (I ((o22.length : Int)) :: I t53 :: bt 36 []))), [(624, .arr 44 1 (l46.map c44)), (288, .arr 3 1 (o22.map c3))]⟩) ?_ ?_
       ·refine XR 2 ?_
        refine XL_nil ?_
        subst ht53
        kernel_rfl
       exact ⟨n, Nat.lt_succ_self n, _, _,  by rfl, h⟩
      ·have h := of_false h hc52
       refine V_skip ?_
       show V _ _ _ _
       refine V_sreg (mb 118 3626777458843887524348096) [720, 624, 288] (s1 := ⟨bt 6 (.pe [.sl (y8.1.map c25), .mp (y8.2.map kv78)] :: .ow 288 :: bt 7 (.ow 624 :: I t45 :: .ow 720 :: bt 62 (I ((o22.length : Int)) :: I t45 :: bt 36 []))), [(720, .arr 25 3 ((([] : List ((Int × Int × Int)))).map c25)), (624, .arr 44 1 (l46.map c44)), (288, .arr 3 1 (o22.map c3))]⟩) ?_ ?_
       ·refine L1 rfl rfl (Y1_bslice0 Try.underlying44 sz25 (by decide) rfl rfl) ?_
        exact XE
       refine V_seq ?_
       refine V_sreg (mb 118 138652911177421434676226261184) [720, 624, 288] (s1 := ⟨bt 6 (.pe [.sl (y8.1.map c25), .mp (y8.2.map kv78)] :: .ow 288 :: bt 7 (.ow 624 :: I t45 :: .ow 720 :: bt 62 (I ((o22.length : Int)) :: I t45 :: bt 12 (.c (.sl (y8.1.map c25)) :: I ((y8.1.length : Int)) :: I 0 :: bt 21 [])))), [(720, .arr 25 3 ((([] : List ((Int × Int × Int)))).map c25)), (624, .arr 44 1 (l46.map c44)), (288, .arr 3 1 (o22.map c3))]⟩) ?_ ?_
       ·refine XR 1 ?_
        refine L0 rfl rfl (E_nil (.pe [.sl (y8.1.map c25), .mp (y8.2.map kv78)]) rfl (by kernel_rfl) (by intro hh; cases hh)) ?_
        refine XR 2 ?_
        refine L0 rfl rfl (Y0_lenM (c := c25) (xs := y8.1) Try.underlying44 rfl (by kernel_rfl)) ?_
        exact XE
       obtain ⟨o57, hLo57, h⟩ := of_bind h
       refine V_toK (mb 118 3626777458843887524282560) [720, 624, 288] (s1 := ⟨bt 6 (.pe [.sl (y8.1.map c25), .mp (y8.2.map kv78)] :: .ow 288 :: bt 7 (.ow 624 :: .bot :: .ow 720 :: bt 62 (I ((o22.length : Int)) :: I t45 :: bt 36 []))), [(720, .arr 25 3 (o57.map c25)), (624, .arr 44 1 (l46.map c44)), (288, .arr 3 1 (o22.map c3))]⟩) ?_ ?_
       ·clear h
        refine V_block (V_loop (fun n s => ∃ (t54 : Int) (l55 : List ((Int × Int × Int))), s.keep (mb 118 138652911177421434676226261184) [720, 624, 288] = (⟨bt 6 (.pe [.sl (y8.1.map c25), .mp (y8.2.map kv78)] :: .ow 288 :: bt 7 (.ow 624 :: I t45 :: .ow 720 :: bt 62 (I ((o22.length : Int)) :: I t45 :: bt 12 (.c (.sl (y8.1.map c25)) :: I ((y8.1.length : Int)) :: I t54 :: bt 21 [])))), [(720, .arr 25 3 (l55.map c25)), (624, .arr 44 1 (l46.map c44)), (288, .arr 3 1 (o22.map c3))]⟩ : St) ∧ r_impl_WalkComponents_L56 l46 o22 t45 y8 n t54 l55 = some o57) FU ⟨_, _,  by rfl, hLo57⟩ ?_)
        clear hLo57
        rintro n s ⟨t54, l55, hs, h⟩
        refine V_keep _ _ hs ?_
        clear hs
        cases n with
        | zero => cases h
        | succ n =>
         rw [r_impl_WalkComponents_L56] at h
         refine V_e (mb 118 297109236205950109863314161856) [720, 624, 288] (s1 := ⟨bt 6 (.pe [.sl (y8.1.map c25), .mp (y8.2.map kv78)] :: .ow 288 :: bt 7 (.ow 624 :: I t45 :: .ow 720 :: bt 62 (I ((o22.length : Int)) :: I t45 :: bt 12 (.c (.sl (y8.1.map c25)) :: I ((y8.1.length : Int)) :: I t54 :: Bo (ltI t54 ((y8.1.length : Int))) :: bt 20 [])))), [(720, .arr 25 3 (l55.map c25)), (624, .arr 44 1 (l46.map c44)), (288, .arr 3 1 (o22.map c3))]⟩) ?_
         refine V_seq ?_
         refine V_cond rfl (fun hc58 => ?_) (fun hc58 => ?_)
         ·have h := of_true h hc58
          refine V_skip ?_
          show V _ _ _ _
          refine V_seq ?_
          refine V_block ?_
          obtain ⟨e59, he59, h⟩ := of_bind h
          refine V_sreg (mb 118 138652911177421434676227047616) [152, 720, 624, 288] (s1 := ⟨bt 6 (.pe [.sl (y8.1.map c25), .mp (y8.2.map kv78)] :: .ow 288 :: bt 7 (.ow 624 :: I t45 :: .ow 720 :: I t54 :: .pt 152 0 :: bt 60 (I ((o22.length : Int)) :: I t45 :: bt 12 (.c (.sl (y8.1.map c25)) :: I ((y8.1.length : Int)) :: I t54 :: bt 21 [])))), [(152, .box [Ti e59.1, Ti e59.2.1, Ti e59.2.2]), (720, .arr 25 3 (l55.map c25)), (624, .arr 44 1 (l46.map c44)), (288, .arr 3 1 (o22.map c3))]⟩) ?_ ?_
          ·refine XR 1 ?_
           refine L0 rfl rfl (Y0_idxM (c := c25) (xs := y8.1) (v := e59) (n := t54) Try.underlying44 sz25 rfl (by kernel_rfl) (by kernel_rfl) he59) ?_
           exact XE
          obtain ⟨e60, he60, h⟩ := of_bind h
          obtain ⟨e61, he61, h⟩ := of_bind h
          refine V_sreg (mb 118 81268291325784103130465231929536) [152, 720, 624, 288] (s1 := ⟨bt 6 (.pe [.sl (y8.1.map c25), .mp (y8.2.map kv78)] :: .ow 288 :: bt 7 (.ow 624 :: I t45 :: .ow 720 :: .bot :: .pt 152 0 :: bt 60 (I ((o22.length : Int)) :: I t45 :: bt 12 (.c (.sl (y8.1.map c25)) :: I ((y8.1.length : Int)) :: I t54 :: bt 9 (Bo (eqI e61 t45) :: bt 11 []))))), [(152, .box [Ti e59.1, Ti e59.2.1, Ti e59.2.2]), (720, .arr 25 3 (l55.map c25)), (624, .arr 44 1 (l46.map c44)), (288, .arr 3 1 (o22.map c3))]⟩) ?_ ?_
          ·refine XR 2 ?_
           refine L0 rfl rfl (Y0_idxoM (c := c3) (xs := o22) (v := e60) (id := 288) (T := 3) (sz := 1) (n := t54) Try.underlying47 sz3 rfl (by kernel_rfl) (by kernel_rfl) (by kernel_rfl) he60) ?_
           refine L0 rfl rfl (Y0_loado1 (c := c3) (xs := o22) (v := e61) (id := 288) (sz := 1) (T := 3) (off := 0) (n := t54) (d := Ti e61) (ds := []) sc3 rfl (by kernel_rfl) (by kernel_rfl) he61 (by kernel_rfl)) ?_
           exact XE
          refine V_cond rfl (fun hc62 => ?_) (fun hc62 => ?_)
          ·have h := of_true h hc62
           obtain ⟨u63, hu63, h⟩ := of_bind h
           refine V_reg (mb 118 138652911177421434676226261184) [720, 624, 288] (s1 := ⟨bt 6 (.pe [.sl (y8.1.map c25), .mp (y8.2.map kv78)] :: .ow 288 :: bt 7 (.ow 624 :: I t45 :: .ow 720 :: bt 62 (I ((o22.length : Int)) :: I t45 :: bt 12 (.c (.sl (y8.1.map c25)) :: I ((y8.1.length : Int)) :: I t54 :: bt 21 [])))), [(720, .arr 25 3 ((l55 ++ ([e59])).map c25)), (624, .arr 44 1 (l46.map c44)), (288, .arr 3 1 (o22.map c3))]⟩) ?_ ?_
           ·refine XR 2 ?_
            refine L1 rfl rfl (Y1_bslice (z := zv25) (els := [e59].map c25) Try.underlying44 iz25 rfl (by decide) rfl (by kernel_rfl) rfl (by simp [c25]) (by decide) (by decide)) ?_
            refine XL_cons rfl (X_appendM (c := c25) (xs := l55) (ys := [e59]) (id := 720) (z := zv25) rfl rfl Try.underlying44 izb25 rfl (by kernel_rfl) (by kernel_rfl) (by kernel_rfl) (fun _ => rfl) (by simp) (room_some hu63) (by decide)) ?_
            exact XE
           show V _ _ _ _
           obtain ⟨t64, ht64, h⟩ := of_sI h
           refine V_reg (mb 118 138652911177421434676226261184) [720, 624, 288] (s1 := ⟨bt 6 (.pe [.sl (y8.1.map c25), .mp (y8.2.map kv78)] :: .ow 288 :: bt 7 (.ow 624 :: I t45 :: .ow 720 :: bt 62 (I ((o22.length : Int)) :: I t45 :: bt 12 (.c (.sl (y8.1.map c25)) :: I ((y8.1.length : Int)) :: I t64 :: bt 21 [])))), [(720, .arr 25 3 ((l55 ++ ([e59])).map c25)), (624, .arr 44 1 (l46.map c44)), (288, .arr 3 1 (o22.map c3))]⟩) ?_ ?_
           ·refine XR 2 ?_
            refine XL_nil ?_
            subst ht64
            kernel_rfl
           exact ⟨n, Nat.lt_succ_self n, _, _,  by rfl, h⟩
          ·have h := of_false h hc62
           refine V_skip ?_
           show V _ _ _ _
           obtain ⟨t65, ht65, h⟩ := of_sI h
           refine V_reg (mb 118 138652911177421434676226261184) [720, 624, 288] (s1 := ⟨bt 6 (.pe [.sl (y8.1.map c25), .mp (y8.2.map kv78)] :: .ow 288 :: bt 7 (.ow 624 :: I t45 :: .ow 720 :: bt 62 (I ((o22.length : Int)) :: I t45 :: bt 12 (.c (.sl (y8.1.map c25)) :: I ((y8.1.length : Int)) :: I t65 :: bt 21 [])))), [(720, .arr 25 3 (l55.map c25)), (624, .arr 44 1 (l46.map c44)), (288, .arr 3 1 (o22.map c3))]⟩) ?_ ?_
           ·refine XR 2 ?_
            refine XL_nil ?_
            subst ht65
            kernel_rfl
           exact ⟨n, Nat.lt_succ_self n, _, _,  by rfl, h⟩
         ·have h := of_false h hc58
          refine V_exit ?_
          obtain rfl := some_inj h
          show St.keep _ _ _ = _
          rfl
       show V _ _ _ _
       obtain ⟨u66, hu66, h⟩ := of_bind h
       refine V_reg (mb 118 3626777458843887524151488) [624, 288] (s1 := ⟨bt 6 (.pe [.sl (y8.1.map c25), .mp (y8.2.map kv78)] :: .ow 288 :: bt 7 (.ow 624 :: bt 64 (I ((o22.length : Int)) :: I t45 :: bt 36 []))), [(624, .arr 44 1 ((l46 ++ ([o57])).map c44)), (288, .arr 3 1 (o22.map c3))]⟩) ?_ ?_
       ·refine XR 2 ?_
        refine XL_freeze 720 (T := 25) (sz := 3) (els := o57.map c25) (s1 := ⟨bt 6 (.pe [.sl (y8.1.map c25), .mp (y8.2.map kv78)] :: .ow 288 :: bt 7 (.ow 624 :: .bot :: .c (.sl (o57.map c25)) :: bt 62 (I ((o22.length : Int)) :: I t45 :: bt 30 (.ow 624 :: .c (.sl (o57.map c25)) :: bt 4 [])))), [(624, .arr 44 1 (l46.map c44)), (288, .arr 3 1 (o22.map c3))]⟩) (by kernel_rfl) (by kernel_rfl) ?_
        refine L1 rfl rfl (Y1_bslice (z := zv44) (els := [o57].map c44) Try.underlying49 iz44 rfl (by decide) rfl (by kernel_rfl) rfl (by simp [c44]) (by decide) (by decide)) ?_
        refine XL_cons rfl (X_appendM (c := c44) (xs := l46) (ys := [o57]) (id := 624) (z := zv44) rfl rfl Try.underlying49 izb44 rfl (by kernel_rfl) (by kernel_rfl) (by kernel_rfl) (fun _ => rfl) (by simp) (room_some hu66) (by decide)) ?_
        exact XE
       show V _ _ _ _
       obtain ⟨t67, ht67, h⟩ := of_sI h
       refine V_reg (mb 118 3626777458843887524151488) [624, 288] (s1 := ⟨bt 6 (.pe [.sl (y8.1.map c25), .mp (y8.2.map kv78)] :: .ow 288 :: bt 7 (.ow 624 :: bt 64 (I ((o22.length : Int)) :: I t67 :: bt 36 []))), [(624, .arr 44 1 ((l46 ++ ([o57])).map c44)), (288, .arr 3 1 (o22.map c3))]⟩) ?_ ?_
       ·refine XR 2 ?_
        refine XL_nil ?_
        subst ht67
        kernel_rfl
       exact ⟨n, Nat.lt_succ_self n, _, _,  by rfl, h⟩
     ·have h := of_false h hc49
      refine V_exit ?_
      obtain rfl := some_inj h
      show St.keep _ _ _ = _
      rfl
   show V _ _ _ _
   refine V_e (mb 118 48) [624] (s1 := ⟨bt 4 (.ow 624 :: Bo true :: bt 112 []), [(624, .arr 44 1 (o48.map c44))]⟩) ?_
   refine V_ret ?_
   obtain rfl := some_inj h
   show Post _ _ _ _ _
   exact ⟨.inr rfl, rfl, rfl, rfl⟩
theorem cf_laws_qHas : ∀ args w, (callFunc 24 args).run Try.prog w = .ok (.enter 24 args) w := run_callFunc Try.func24 (by kernel_rfl) (by kernel_rfl)
theorem s_laws_qHas {l1 : List ((Int × Int × Int))} {f2 : (Int × Int × Int)} {r : Bool} (h : r_laws_qHas l1 f2 = some r) : CallS Try.prog 24 [.c (.sl (l1.map c25)), .ag [Ti f2.1, Ti f2.2.1, Ti f2.2.2]] (Bo r) [] := by
  refine CallS_of_text (rs := [.t 4]) (vs := [.tmp 4]) Try.func24 rfl rfl (.cons rfl FitsL.nil) (by decide) 17 rfl ?_
  unfold r_laws_qHas at h
  show V _ _ ⟨.c (.sl (l1.map c25)) :: .ag [Ti f2.1, Ti f2.2.1, Ti f2.2.2] :: bt 15 [], []⟩ _
  refine V_e (mb 17 9) [24] (s1 := ⟨.c (.sl (l1.map c25)) :: .bot :: .bot :: .pt 24 0 :: bt 13 [], [(24, .box [Ti f2.1, Ti f2.2.1, Ti f2.2.2])]⟩) ?_
  refine V_seq ?_
  refine V_sreg (mb 17 904) [24] (s1 := ⟨bt 3 (.pt 24 0 :: bt 3 (.c (.sl (l1.map c25)) :: I ((l1.length : Int)) :: I 0 :: bt 7 [])), [(24, .box [Ti f2.1, Ti f2.2.1, Ti f2.2.2])]⟩) ?_ ?_
  ·refine XR 1 ?_
   refine L0 rfl rfl (Y0_lenM (c := c25) (xs := l1) Try.underlying44 rfl (by kernel_rfl)) ?_
   exact XE
  obtain ⟨qo5, hLo5, hko5⟩ := of_bind h
  refine V_toS (q := qo5) (S := fun o5 => ⟨bt 17 [], []⟩) (mb 17 0) [] ?_ ?_
  ·refine V_block (V_loop (fun n s => ∃ (t3 : Int), s.keep (mb 17 904) [24] = (⟨bt 3 (.pt 24 0 :: bt 3 (.c (.sl (l1.map c25)) :: I ((l1.length : Int)) :: I t3 :: bt 7 [])), [(24, .box [Ti f2.1, Ti f2.2.1, Ti f2.2.2])]⟩ : St) ∧ r_laws_qHas_L4 f2 l1 n t3 = some qo5) FU ⟨_,  by rfl, hLo5⟩ ?_)
   clear hLo5
   rintro n s ⟨t3, hs, h⟩
   refine V_keep _ _ hs ?_
   clear hs
   cases n with
   | zero => cases h
   | succ n =>
    rw [r_laws_qHas_L4] at h
    refine V_e (mb 17 1928) [24] (s1 := ⟨bt 3 (.pt 24 0 :: bt 3 (.c (.sl (l1.map c25)) :: I ((l1.length : Int)) :: I t3 :: Bo (ltI t3 ((l1.length : Int))) :: bt 6 [])), [(24, .box [Ti f2.1, Ti f2.2.1, Ti f2.2.2])]⟩) ?_
    refine V_seq ?_
    refine V_cond rfl (fun hc6 => ?_) (fun hc6 => ?_)
    ·have h := of_true h hc6
     refine V_skip ?_
     show V _ _ _ _
     refine V_seq ?_
     refine V_block ?_
     obtain ⟨e7, he7, h⟩ := of_bind h
     refine V_sreg (mb 17 968) [48, 24] (s1 := ⟨bt 3 (.pt 24 0 :: .bot :: .bot :: .pt 48 0 :: .c (.sl (l1.map c25)) :: I ((l1.length : Int)) :: I t3 :: bt 7 []), [(48, .box [Ti e7.1, Ti e7.2.1, Ti e7.2.2]), (24, .box [Ti f2.1, Ti f2.2.1, Ti f2.2.2])]⟩) ?_ ?_
     ·refine L0 rfl rfl (Y0_idxM (c := c25) (xs := l1) (v := e7) (n := t3) Try.underlying44 sz25 rfl (by kernel_rfl) (by kernel_rfl) he7) ?_
      exact XE
     obtain ⟨t8, ht8, h⟩ := of_bind h
     have ht8 := some_inj ht8
     refine V_sreg (mb 17 33672) [24] (s1 := ⟨bt 3 (.pt 24 0 :: bt 3 (.c (.sl (l1.map c25)) :: I ((l1.length : Int)) :: I t3 :: bt 5 (Bo t8 :: .bot :: []))), [(24, .box [Ti f2.1, Ti f2.2.1, Ti f2.2.2])]⟩) ?_ ?_
     ·refine XR 2 ?_
      refine L0 rfl rfl (Y0_eqg3 (a0 := e7.1) (b0 := f2.1) (a1 := e7.2.1) (b1 := f2.2.1) (a2 := e7.2.2) (b2 := f2.2.2) eqg25 rfl (by kernel_rfl) (by kernel_rfl)) ?_
      refine XL_nil ?_
      subst ht8
      kernel_rfl
     refine V_cond rfl (fun hc9 => ?_) (fun hc9 => ?_)
     ·have h := of_true h hc9
      refine V_e (mb 17 16) [] (s1 := ⟨bt 4 (Bo true :: bt 12 []), []⟩) ?_
      refine V_ret ?_
      obtain rfl := some_inj h
      have h := hko5
      obtain rfl := some_inj h
      show Post _ _ _ _ _
      exact ⟨.inr rfl, rfl, rfl, rfl⟩
     ·have h := of_false h hc9
      refine V_skip ?_
      show V _ _ _ _
      obtain ⟨t10, ht10, h⟩ := of_sI h
      refine V_reg (mb 17 904) [24] (s1 := ⟨bt 3 (.pt 24 0 :: bt 3 (.c (.sl (l1.map c25)) :: I ((l1.length : Int)) :: I t10 :: bt 7 [])), [(24, .box [Ti f2.1, Ti f2.2.1, Ti f2.2.2])]⟩) ?_ ?_
      ·refine XR 2 ?_
       refine XL_nil ?_
       subst ht10
       kernel_rfl
      exact ⟨n, Nat.lt_succ_self n, _,  by rfl, h⟩
    ·have h := of_false h hc6
     refine V_exit ?_
     obtain rfl := some_inj h
     exact ⟨_, rfl, by rfl⟩
  rintro o5 rfl
  have h := hko5
  clear hko5
  show V _ _ _ _
  refine V_e (mb 17 16) [] (s1 := ⟨bt 4 (Bo false :: bt 12 []), []⟩) ?_
  refine V_ret ?_
  obtain rfl := some_inj h
  show Post _ _ _ _ _
  exact ⟨.inr rfl, rfl, rfl, rfl⟩
theorem cf_laws_FnWalks : ∀ args w, (callFunc 4 args).run Try.prog w = .ok (.enter 4 args) w := run_callFunc Try.func4 (by kernel_rfl) (by kernel_rfl)
theorem s_laws_FnWalks {code1 : List Int} {more2 : List Int} {r : Bool} (h : r_laws_FnWalks code1 more2 = some r) : CallS Try.prog 4 [.c (.sl (code1.map c5)), .c (.sl (more2.map c5))] (Bo r) [] := by
  refine CallS_of_text (rs := [.t 4]) (vs := [.tmp 4]) Try.func4 rfl rfl (.cons rfl FitsL.nil) (by decide) 265 rfl ?_
  unfold r_laws_FnWalks at h
  show V _ _ ⟨.c (.sl (code1.map c5)) :: .c (.sl (more2.map c5)) :: bt 263 [], []⟩ _
  refine V_e (mb 265 3) [] (s1 := ⟨.c (.sl (code1.map c5)) :: .c (.sl (more2.map c5)) :: bt 263 [], []⟩) ?_
  refine V_seq ?_
  obtain ⟨y3, hy3, h⟩ := of_bind h
  refine V_sreg (mb 265 17179869187) [] (s1 := ⟨.c (.sl (code1.map c5)) :: .c (.sl (more2.map c5)) :: bt 32 (Bo y3 :: bt 230 []), []⟩) ?_ ?_
  ·refine XR 2 ?_
   refine XC (s_laws_big hy3) cf_laws_big rfl rfl rfl ?_
   exact XE
  refine V_cond rfl (fun hc4 => ?_) (fun hc4 => ?_)
  ·have h := of_true h hc4
   refine V_e (mb 265 16) [] (s1 := ⟨bt 4 (Bo true :: bt 260 []), []⟩) ?_
   refine V_ret ?_
   obtain rfl := some_inj h
   show Post _ _ _ _ _
   exact ⟨.inr rfl, rfl, rfl, rfl⟩
  ·have h := of_false h hc4
   refine V_skip ?_
   show V _ _ _ _
   obtain ⟨y5, hy5, h⟩ := of_bind h
   refine V_sreg (mb 265 227) [] (s1 := ⟨.c (.sl (code1.map c5)) :: .c (.sl (more2.map c5)) :: bt 3 (I y5.1 :: I y5.2.1 :: I y5.2.2 :: bt 257 []), []⟩) ?_ ?_
   ·refine XR 1 ?_
    refine XC (s_spec_DrawWalkMatrix hy5) cf_spec_DrawWalkMatrix rfl rfl rfl ?_
    exact XE
   obtain ⟨y6, hy6, h⟩ := of_bind h
   refine V_sreg (mb 265 995) [360] (s1 := ⟨.c (.sl (code1.map c5)) :: .c (.sl (more2.map c5)) :: bt 3 (I y5.1 :: I y5.2.1 :: I y5.2.2 :: .ow 360 :: Bo y6.2 :: bt 255 []), [(360, .arr 47 1 (y6.1.map c47))]⟩) ?_ ?_
   ·refine XR 3 ?_
    refine XC (s_impl_WalkMatrix hy6) cf_impl_WalkMatrix rfl rfl rfl ?_
    exact XE
   obtain ⟨y7, hy7, h⟩ := of_bind h
   refine V_sreg (mb 265 4067) [416, 360] (s1 := ⟨.c (.sl (code1.map c5)) :: .c (.sl (more2.map c5)) :: bt 3 (I y5.1 :: I y5.2.1 :: I y5.2.2 :: .ow 360 :: Bo y6.2 :: .ow 416 :: Bo y7.2 :: bt 253 []), [(416, .arr 47 1 (y7.1.map c47)), (360, .arr 47 1 (y6.1.map c47))]⟩) ?_ ?_
   ·refine XR 3 ?_
    refine XC (s_spec_WalkMatrix hy7) cf_spec_WalkMatrix rfl rfl rfl ?_
    exact XE
   refine V_seq ?_
   obtain ⟨b10, hb10, h⟩ := of_bind h
   refine V_sreg (mb 265 9223372036854776803) [360] (s1 := ⟨.c (.sl (code1.map c5)) :: .c (.sl (more2.map c5)) :: bt 3 (I y5.1 :: I y5.2.1 :: I y5.2.2 :: .ow 360 :: Bo y6.2 :: bt 53 (Bo b10 :: bt 201 [])), [(360, .arr 47 1 (y6.1.map c47))]⟩) ?_ ?_
   ·refine XR 2 ?_
    refine L0 rfl rfl (Y0_neb (a := y6.2) (b := y7.2) Try.underlying4 rfl (by kernel_rfl) (by kernel_rfl)) ?_
    refine XR 1 ?_
    refine XL_split (y6.2 != y7.2) (fun hc8 => ?_) (fun hc8 => ?_)
    ·have hb10 := some_inj (of_true hb10 hc8)
     refine XL_skipF _ rfl rfl (by kernel_rfl) hc8 rfl ?_
     refine XL_skipF _ rfl rfl (by kernel_rfl) hc8 rfl ?_
     refine XL_skipF _ rfl rfl (by kernel_rfl) hc8 rfl ?_
     refine XL_skipF _ rfl rfl (by kernel_rfl) hc8 rfl ?_
     refine XL_cons rfl (X_of_Y0 rfl (Y0_pickTe (b := y6.2 != y7.2) (p := true) rfl (by kernel_rfl) hc8 (by kernel_rfl) hb10)) ?_
     exact XE
    ·have hb10 := of_false hb10 hc8
     obtain ⟨y9, hy9, hb10⟩ := of_bind hb10
     have hb10 := some_inj hb10
     refine XL_takeC _ rfl rfl (by kernel_rfl) hc8 (X_of_Y0 rfl (E_move (.ow 360) rfl (by kernel_rfl))) ?_
     refine XL_takeC _ rfl rfl (by kernel_rfl) hc8 (X_of_Y0 rfl (E_move (.ow 416) rfl (by kernel_rfl))) ?_
     refine XL_takeC _ rfl rfl (by kernel_rfl) hc8 (X_of_Y1 rfl (Y1_callS (s_laws_sameLists hy9) cf_laws_sameLists rfl (by kernel_rfl) rfl rfl)) ?_
     refine XL_takeC _ rfl rfl (by kernel_rfl) hc8 (X_of_Y0 rfl (Y0_not (b := y9) rfl (by kernel_rfl))) ?_
     refine XL_cons rfl (X_of_Y0 rfl (Y0_pickFe (b := y6.2 != y7.2) (p := !y9) rfl (by kernel_rfl) hc8 (by kernel_rfl) hb10)) ?_
     exact XE
   refine V_cond rfl (fun hc11 => ?_) (fun hc11 => ?_)
   ·have h := of_true h hc11
    refine V_e (mb 265 16) [] (s1 := ⟨bt 4 (Bo false :: bt 260 []), []⟩) ?_
    refine V_ret ?_
    obtain rfl := some_inj h
    show Post _ _ _ _ _
    exact ⟨.inr rfl, rfl, rfl, rfl⟩
   ·have h := of_false h hc11
    refine V_skip ?_
    show V _ _ _ _
    refine V_seq ?_
    refine V_e (mb 265 36893488147419103715) [360] (s1 := ⟨.c (.sl (code1.map c5)) :: .c (.sl (more2.map c5)) :: bt 3 (I y5.1 :: I y5.2.1 :: I y5.2.2 :: .ow 360 :: bt 56 (Bo (!y6.2) :: bt 199 [])), [(360, .arr 47 1 (y6.1.map c47))]⟩) ?_
    refine V_cond rfl (fun hc12 => ?_) (fun hc12 => ?_)
    ·have h := of_true h hc12
     refine V_e (mb 265 16) [] (s1 := ⟨bt 4 (Bo true :: bt 260 []), []⟩) ?_
     refine V_ret ?_
     obtain rfl := some_inj h
     show Post _ _ _ _ _
     exact ⟨.inr rfl, rfl, rfl, rfl⟩
    ·have h := of_false h hc12
     refine V_skip ?_
     show V _ _ _ _
     obtain ⟨y13, hy13, h⟩ := of_bind h
     refine V_sreg (mb 265 12771) [552, 360] (s1 := ⟨.c (.sl (code1.map c5)) :: .c (.sl (more2.map c5)) :: bt 3 (I y5.1 :: I y5.2.1 :: I y5.2.2 :: .ow 360 :: bt 3 (.ow 552 :: Bo y13.2 :: bt 251 [])), [(552, .arr 47 1 (y13.1.map c47)), (360, .arr 47 1 (y6.1.map c47))]⟩) ?_ ?_
     ·refine XR 2 ?_
      refine XC (s_impl_NeighbourMatrix hy13) cf_impl_NeighbourMatrix rfl rfl rfl ?_
      exact XE
     obtain ⟨y14, hy14, h⟩ := of_bind h
     refine V_sreg (mb 265 61923) [592, 552, 360] (s1 := ⟨.c (.sl (code1.map c5)) :: .c (.sl (more2.map c5)) :: bt 3 (I y5.1 :: I y5.2.1 :: I y5.2.2 :: .ow 360 :: bt 3 (.ow 552 :: Bo y13.2 :: .ow 592 :: Bo y14.2 :: bt 249 [])), [(592, .arr 25 3 (y14.1.map c25)), (552, .arr 47 1 (y13.1.map c47)), (360, .arr 47 1 (y6.1.map c47))]⟩) ?_ ?_
     ·refine XR 1 ?_
      refine XC (s_impl_ReducedForms hy14) cf_impl_ReducedForms rfl rfl rfl ?_
      exact XE
     refine V_seq ?_
     obtain ⟨t17, ht17, h⟩ := of_bind h
     have ht17 := some_inj ht17
     refine V_sreg (mb 265 618970019642690137449583075) [592, 552, 360] (s1 := ⟨.c (.sl (code1.map c5)) :: .c (.sl (more2.map c5)) :: bt 3 (I y5.1 :: I y5.2.1 :: I y5.2.2 :: .ow 360 :: bt 3 (.ow 552 :: .bot :: .ow 592 :: bt 74 (Bo t17 :: bt 175 []))), [(592, .arr 25 3 (y14.1.map c25)), (552, .arr 47 1 (y13.1.map c47)), (360, .arr 47 1 (y6.1.map c47))]⟩) ?_ ?_
     ·refine XR 3 ?_
      refine XL_split (!y13.2) (fun hc15 => ?_) (fun hc15 => ?_)
      ·refine XL_skipF _ rfl rfl (by kernel_rfl) hc15 rfl ?_
       refine XL_skipF _ rfl rfl (by kernel_rfl) hc15 rfl ?_
       refine XL_cons rfl (X_of_Y0 rfl (Y0_pick1 (b := !y13.2) (p := true) (q := !y14.2) rfl (by kernel_rfl) hc15 (by kernel_rfl))) ?_
       refine XR 1 ?_
       refine XL_split (bif (!y13.2) then true else (!y14.2)) (fun hc16 => ?_) (fun hc16 => ?_)
       ·refine XL_skipF _ rfl rfl (by kernel_rfl) hc16 rfl ?_
        refine XL_skipF _ rfl rfl (by kernel_rfl) hc16 rfl ?_
        refine XL_skipF _ rfl rfl (by kernel_rfl) hc16 rfl ?_
        refine XL_skipF _ rfl rfl (by kernel_rfl) hc16 rfl ?_
        refine XL_skipF _ rfl rfl (by kernel_rfl) hc16 rfl ?_
        refine XL_cons rfl (X_of_Y0 rfl (Y0_pick1 (b := bif (!y13.2) then true else (!y14.2)) (p := true) (q := !eqI ((y13.1.length : Int)) ((y6.1.length : Int))) rfl (by kernel_rfl) hc16 (by kernel_rfl))) ?_
        refine XL_nil ?_
        subst ht17
        kernel_rfl
       ·refine XL_takeC _ rfl rfl (by kernel_rfl) hc16 (X_of_Y0 rfl (E_move (.ow 552) rfl (by kernel_rfl))) ?_
        refine XL_takeC _ rfl rfl (by kernel_rfl) hc16 (X_of_Y0 rfl (Y0_lenM (c := c47) (xs := y13.1) Try.underlying39 rfl (by kernel_rfl))) ?_
        refine XL_takeC _ rfl rfl (by kernel_rfl) hc16 (X_of_Y0 rfl (E_move (.ow 360) rfl (by kernel_rfl))) ?_
        refine XL_takeC _ rfl rfl (by kernel_rfl) hc16 (X_of_Y0 rfl (Y0_lenM (c := c47) (xs := y6.1) Try.underlying39 rfl (by kernel_rfl))) ?_
        refine XL_takeC _ rfl rfl (by kernel_rfl) hc16 (X_of_Y0 rfl (Y0_new (k := .i64) (a := (y13.1.length : Int)) (b := (y6.1.length : Int)) rfl (by kernel_rfl) (by kernel_rfl))) ?_
        refine XL_cons rfl (X_of_Y0 rfl (Y0_pick0 (b := bif (!y13.2) then true else (!y14.2)) (p := true) (q := !eqI ((y13.1.length : Int)) ((y6.1.length : Int))) rfl (by kernel_rfl) hc16 (by kernel_rfl))) ?_
        refine XL_nil ?_
        subst ht17
        kernel_rfl
      ·refine XL_takeC _ rfl rfl (by kernel_rfl) hc15 (X_of_Y0 rfl (E_move (Bo y14.2) rfl (by kernel_rfl))) ?_
       refine XL_takeC _ rfl rfl (by kernel_rfl) hc15 (X_of_Y0 rfl (Y0_not (b := y14.2) rfl (by kernel_rfl))) ?_
       refine XL_cons rfl (X_of_Y0 rfl (Y0_pick0 (b := !y13.2) (p := true) (q := !y14.2) rfl (by kernel_rfl) hc15 (by kernel_rfl))) ?_
       refine XR 1 ?_
       refine XL_split (bif (!y13.2) then true else (!y14.2)) (fun hc16 => ?_) (fun hc16 => ?_)
       ·refine XL_skipF _ rfl rfl (by kernel_rfl) hc16 rfl ?_
        refine XL_skipF _ rfl rfl (by kernel_rfl) hc16 rfl ?_
        refine XL_skipF _ rfl rfl (by kernel_rfl) hc16 rfl ?_
        refine XL_skipF _ rfl rfl (by kernel_rfl) hc16 rfl ?_
        refine XL_skipF _ rfl rfl (by kernel_rfl) hc16 rfl ?_
        refine XL_cons rfl (X_of_Y0 rfl (Y0_pick1 (b := bif (!y13.2) then true else (!y14.2)) (p := true) (q := !eqI ((y13.1.length : Int)) ((y6.1.length : Int))) rfl (by kernel_rfl) hc16 (by kernel_rfl))) ?_
        refine XL_nil ?_
        subst ht17
        kernel_rfl
       ·refine XL_takeC _ rfl rfl (by kernel_rfl) hc16 (X_of_Y0 rfl (E_move (.ow 552) rfl (by kernel_rfl))) ?_
        refine XL_takeC _ rfl rfl (by kernel_rfl) hc16 (X_of_Y0 rfl (Y0_lenM (c := c47) (xs := y13.1) Try.underlying39 rfl (by kernel_rfl))) ?_
        refine XL_takeC _ rfl rfl (by kernel_rfl) hc16 (X_of_Y0 rfl (E_move (.ow 360) rfl (by kernel_rfl))) ?_
        refine XL_takeC _ rfl rfl (by kernel_rfl) hc16 (X_of_Y0 rfl (Y0_lenM (c := c47) (xs := y6.1) Try.underlying39 rfl (by kernel_rfl))) ?_
        refine XL_takeC _ rfl rfl (by kernel_rfl) hc16 (X_of_Y0 rfl (Y0_new (k := .i64) (a := (y13.1.length : Int)) (b := (y6.1.length : Int)) rfl (by kernel_rfl) (by kernel_rfl))) ?_
        refine XL_cons rfl (X_of_Y0 rfl (Y0_pick0 (b := bif (!y13.2) then true else (!y14.2)) (p := true) (q := !eqI ((y13.1.length : Int)) ((y6.1.length : Int))) rfl (by kernel_rfl) hc16 (by kernel_rfl))) ?_
        refine XL_nil ?_
        subst ht17
        kernel_rfl
     refine V_cond rfl (fun hc18 => ?_) (fun hc18 => ?_)
     ·have h := of_true h hc18
      refine V_e (mb 265 16) [] (s1 := ⟨bt 4 (Bo false :: bt 260 []), []⟩) ?_
      refine V_ret ?_
      obtain rfl := some_inj h
      show Post _ _ _ _ _
      exact ⟨.inr rfl, rfl, rfl, rfl⟩
     ·have h := of_false h hc18
      refine V_skip ?_
      show V _ _ _ _
      obtain ⟨y19, hy19, h⟩ := of_bind h
      obtain ⟨z20, hz20, h⟩ := of_bind h
      obtain ⟨i21, hi21, h⟩ := of_sI h
      refine V_sreg (mb 265 86497) [592, 552, 360] (s1 := ⟨.c (.sl (code1.map c5)) :: bt 4 (I y5.1 :: I y5.2.1 :: I y5.2.2 :: .ow 360 :: bt 3 (.ow 552 :: .bot :: .ow 592 :: .bot :: I i21 :: bt 248 [])), [(592, .arr 25 3 (y14.1.map c25)), (552, .arr 47 1 (y13.1.map c47)), (360, .arr 47 1 (y6.1.map c47))]⟩) ?_ ?_
      ·refine XR 1 ?_
       refine XC (s_laws_numberOf hy19) cf_laws_numberOf rfl rfl rfl ?_
       refine XR 1 ?_
       refine L0 rfl rfl (Y0_lenM (c := c25) (xs := y14.1) Try.underlying44 rfl (by kernel_rfl)) ?_
       refine L0 rfl rfl (Y0_rem (k := .i64) (a := y19) (b := (y14.1.length : Int)) rfl (by kernel_rfl) (by kernel_rfl) (nz_some hz20)) ?_
       refine XR 1 ?_
       refine XL_nil ?_
       subst hi21
       kernel_rfl
      obtain ⟨qo22, hLo22, hko22⟩ := of_bind h
      clear h
      refine V_cutS (q := qo22) (S := fun o22 => ⟨.c (.sl (code1.map c5)) :: bt 4 (I y5.1 :: I y5.2.1 :: I y5.2.2 :: .ow 360 :: bt 5 (.ow 592 :: .bot :: I i21 :: bt 248 [])), [(592, .arr 25 3 (y14.1.map c25)), (360, .arr 47 1 (y6.1.map c47))]⟩) (mb 265 82401) [592, 360] ?_ ?_
      ·have h := hLo22
       clear hLo22
       refine V_e (mb 265 79228162514264337593544036833) [592, 552, 360] (s1 := ⟨.c (.sl (code1.map c5)) :: bt 4 (I y5.1 :: I y5.2.1 :: I y5.2.2 :: .ow 360 :: bt 3 (.ow 552 :: .bot :: .ow 592 :: .bot :: I i21 :: bt 79 (Bo (ltI 0 y5.2.2) :: bt 168 []))), [(592, .arr 25 3 (y14.1.map c25)), (552, .arr 47 1 (y13.1.map c47)), (360, .arr 47 1 (y6.1.map c47))]⟩) ?_
       refine V_cond rfl (fun hc23 => ?_) (fun hc23 => ?_)
       ·have h := of_true h hc23
        obtain ⟨y24, hy24, h⟩ := of_bind h
        refine V_sreg (mb 265 479713) [816, 592, 552, 360] (s1 := ⟨.c (.sl (code1.map c5)) :: bt 4 (I y5.1 :: I y5.2.1 :: I y5.2.2 :: .ow 360 :: bt 3 (.ow 552 :: .bot :: .ow 592 :: .bot :: I i21 :: .ow 816 :: Bo y24.2 :: bt 246 [])), [(816, .arr 47 1 (y24.1.map c47)), (592, .arr 25 3 (y14.1.map c25)), (552, .arr 47 1 (y13.1.map c47)), (360, .arr 47 1 (y6.1.map c47))]⟩) ?_ ?_
        ·refine XR 4 ?_
         refine XC (s_impl_WalkMatrix hy24) cf_impl_WalkMatrix rfl rfl rfl ?_
         exact XE
        refine V_seq ?_
        obtain ⟨t26, ht26, h⟩ := of_bind h
        have ht26 := some_inj ht26
        refine V_sreg (mb 265 10384593717069655257060992658657761) [816, 592, 552, 360] (s1 := ⟨.c (.sl (code1.map c5)) :: bt 4 (I y5.1 :: I y5.2.1 :: I y5.2.2 :: .ow 360 :: bt 3 (.ow 552 :: .bot :: .ow 592 :: .bot :: I i21 :: .ow 816 :: bt 95 (Bo t26 :: bt 151 []))), [(816, .arr 47 1 (y24.1.map c47)), (592, .arr 25 3 (y14.1.map c25)), (552, .arr 47 1 (y13.1.map c47)), (360, .arr 47 1 (y6.1.map c47))]⟩) ?_ ?_
        ·refine XR 3 ?_
         refine XL_split (!y24.2) (fun hc25 => ?_) (fun hc25 => ?_)
         ·refine XL_skipF _ rfl rfl (by kernel_rfl) hc25 rfl ?_
          refine XL_skipF _ rfl rfl (by kernel_rfl) hc25 rfl ?_
          refine XL_skipF _ rfl rfl (by kernel_rfl) hc25 rfl ?_
          refine XL_skipF _ rfl rfl (by kernel_rfl) hc25 rfl ?_
          refine XL_skipF _ rfl rfl (by kernel_rfl) hc25 rfl ?_
          refine XL_cons rfl (X_of_Y0 rfl (Y0_pick1 (b := !y24.2) (p := true) (q := !eqI ((y24.1.length : Int)) ((y6.1.length : Int))) rfl (by kernel_rfl) hc25 (by kernel_rfl))) ?_
          refine XL_nil ?_
          subst ht26
          kernel_rfl
         ·refine XL_takeC _ rfl rfl (by kernel_rfl) hc25 (X_of_Y0 rfl (E_move (.ow 816) rfl (by kernel_rfl))) ?_
          refine XL_takeC _ rfl rfl (by kernel_rfl) hc25 (X_of_Y0 rfl (Y0_lenM (c := c47) (xs := y24.1) Try.underlying39 rfl (by kernel_rfl))) ?_
          refine XL_takeC _ rfl rfl (by kernel_rfl) hc25 (X_of_Y0 rfl (E_move (.ow 360) rfl (by kernel_rfl))) ?_
          refine XL_takeC _ rfl rfl (by kernel_rfl) hc25 (X_of_Y0 rfl (Y0_lenM (c := c47) (xs := y6.1) Try.underlying39 rfl (by kernel_rfl))) ?_
          refine XL_takeC _ rfl rfl (by kernel_rfl) hc25 (X_of_Y0 rfl (Y0_new (k := .i64) (a := (y24.1.length : Int)) (b := (y6.1.length : Int)) rfl (by kernel_rfl) (by kernel_rfl))) ?_
          refine XL_cons rfl (X_of_Y0 rfl (Y0_pick0 (b := !y24.2) (p := true) (q := !eqI ((y24.1.length : Int)) ((y6.1.length : Int))) rfl (by kernel_rfl) hc25 (by kernel_rfl))) ?_
          refine XL_nil ?_
          subst ht26
          kernel_rfl
        refine V_cond rfl (fun hc27 => ?_) (fun hc27 => ?_)
        ·have h := of_true h hc27
         refine V_e (mb 265 16) [] (s1 := ⟨bt 4 (Bo false :: bt 260 []), []⟩) ?_
         refine V_ret ?_
         obtain rfl := some_inj h
         have h := hko22
         obtain rfl := some_inj h
         show Post _ _ _ _ _
         exact ⟨.inr rfl, rfl, rfl, rfl⟩
        ·have h := of_false h hc27
         refine V_skip ?_
         show V _ _ _ _
         refine V_sreg (mb 265 124615124604835863084731911901499873) [816, 592, 552, 360] (s1 := ⟨.c (.sl (code1.map c5)) :: bt 4 (I y5.1 :: I y5.2.1 :: I y5.2.2 :: .ow 360 :: bt 3 (.ow 552 :: .bot :: .ow 592 :: .bot :: I i21 :: .ow 816 :: bt 97 (I ((y14.1.length : Int)) :: I 0 :: bt 148 []))), [(816, .arr 47 1 (y24.1.map c47)), (592, .arr 25 3 (y14.1.map c25)), (552, .arr 47 1 (y13.1.map c47)), (360, .arr 47 1 (y6.1.map c47))]⟩) ?_ ?_
         ·refine XR 1 ?_
          refine L0 rfl rfl (Y0_lenM (c := c25) (xs := y14.1) Try.underlying44 rfl (by kernel_rfl)) ?_
          exact XE
         obtain ⟨qo30, hLo30, hko30⟩ := of_bind h
         refine V_toS (q := qo30) (S := fun o30 => ⟨.c (.sl (code1.map c5)) :: bt 4 (I y5.1 :: I y5.2.1 :: I y5.2.2 :: .ow 360 :: bt 5 (.ow 592 :: .bot :: I i21 :: bt 248 [])), [(592, .arr 25 3 (y14.1.map c25)), (360, .arr 47 1 (y6.1.map c47))]⟩) (mb 265 82401) [592, 360] ?_ ?_
         ·refine V_block (V_loop (fun n s => ∃ (t28 : Int), s.keep (mb 265 124615124604835863084731911901499873) [816, 592, 552, 360] = (⟨.c (.sl (code1.map c5)) :: bt 4 (I y5.1 :: I y5.2.1 :: I y5.2.2 :: .ow 360 :: bt 3 (.ow 552 :: .bot :: .ow 592 :: .bot :: I i21 :: .ow 816 :: bt 97 (I ((y14.1.length : Int)) :: I t28 :: bt 148 []))), [(816, .arr 47 1 (y24.1.map c47)), (592, .arr 25 3 (y14.1.map c25)), (552, .arr 47 1 (y13.1.map c47)), (360, .arr 47 1 (y6.1.map c47))]⟩ : St) ∧ r_laws_FnWalks_L29 code1 i21 y13 y14 y24 y5 y6 n t28 = some qo30) FU ⟨_,  by rfl, hLo30⟩ ?_)
          clear hLo30
          rintro n s ⟨t28, hs, h⟩
          refine V_keep _ _ hs ?_
          clear hs
          cases n with
          | zero => cases h
          | succ n =>
           rw [r_laws_FnWalks_L29] at h
           refine V_e (mb 265 290768624077950347197707794436542945) [816, 592, 552, 360] (s1 := ⟨.c (.sl (code1.map c5)) :: bt 4 (I y5.1 :: I y5.2.1 :: I y5.2.2 :: .ow 360 :: bt 3 (.ow 552 :: .bot :: .ow 592 :: .bot :: I i21 :: .ow 816 :: bt 97 (I ((y14.1.length : Int)) :: I t28 :: Bo (ltI t28 ((y14.1.length : Int))) :: bt 147 []))), [(816, .arr 47 1 (y24.1.map c47)), (592, .arr 25 3 (y14.1.map c25)), (552, .arr 47 1 (y13.1.map c47)), (360, .arr 47 1 (y6.1.map c47))]⟩) ?_
           refine V_seq ?_
           refine V_cond rfl (fun hc31 => ?_) (fun hc31 => ?_)
           ·have h := of_true h hc31
            refine V_skip ?_
            show V _ _ _ _
            refine V_seq ?_
            refine V_block ?_
            refine V_e (mb 265 124615124604835863084731911902024161) [816, 592, 552, 360] (s1 := ⟨.c (.sl (code1.map c5)) :: bt 4 (I y5.1 :: I y5.2.1 :: I y5.2.2 :: .ow 360 :: bt 3 (.ow 552 :: .bot :: .ow 592 :: .bot :: I i21 :: .ow 816 :: .bot :: I t28 :: bt 95 (I ((y14.1.length : Int)) :: I t28 :: bt 148 []))), [(816, .arr 47 1 (y24.1.map c47)), (592, .arr 25 3 (y14.1.map c25)), (552, .arr 47 1 (y13.1.map c47)), (360, .arr 47 1 (y6.1.map c47))]⟩) ?_
            refine V_e (mb 265 124615124604835863084731911903072737) [816, 592, 552, 360] (s1 := ⟨.c (.sl (code1.map c5)) :: bt 4 (I y5.1 :: I y5.2.1 :: I y5.2.2 :: .ow 360 :: bt 3 (.ow 552 :: .bot :: .ow 592 :: .bot :: I i21 :: .ow 816 :: .bot :: I t28 :: I 0 :: bt 94 (I ((y14.1.length : Int)) :: I t28 :: bt 148 []))), [(816, .arr 47 1 (y24.1.map c47)), (592, .arr 25 3 (y14.1.map c25)), (552, .arr 47 1 (y13.1.map c47)), (360, .arr 47 1 (y6.1.map c47))]⟩) ?_
            refine V_seq ?_
            refine V_sreg (mb 265 4112299111959583481796153092744106465) [816, 592, 552, 360] (s1 := ⟨.c (.sl (code1.map c5)) :: bt 4 (I y5.1 :: I y5.2.1 :: I y5.2.2 :: .ow 360 :: bt 3 (.ow 552 :: .bot :: .ow 592 :: .bot :: I i21 :: .ow 816 :: .bot :: I t28 :: I 0 :: bt 94 (I ((y14.1.length : Int)) :: I t28 :: bt 3 (I ((y14.1.length : Int)) :: I 0 :: bt 143 [])))), [(816, .arr 47 1 (y24.1.map c47)), (592, .arr 25 3 (y14.1.map c25)), (552, .arr 47 1 (y13.1.map c47)), (360, .arr 47 1 (y6.1.map c47))]⟩) ?_ ?_
            ·refine XR 1 ?_
             refine L0 rfl rfl (Y0_lenM (c := c25) (xs := y14.1) Try.underlying44 rfl (by kernel_rfl)) ?_
             exact XE
            obtain ⟨o35, hLo35, h⟩ := of_bind h
            refine V_toK (mb 265 124615124604835863084731911903072737) [816, 592, 552, 360] (s1 := ⟨.c (.sl (code1.map c5)) :: bt 4 (I y5.1 :: I y5.2.1 :: I y5.2.2 :: .ow 360 :: bt 3 (.ow 552 :: .bot :: .ow 592 :: .bot :: I i21 :: .ow 816 :: .bot :: I t28 :: I o35 :: bt 94 (I ((y14.1.length : Int)) :: I t28 :: bt 148 []))), [(816, .arr 47 1 (y24.1.map c47)), (592, .arr 25 3 (y14.1.map c25)), (552, .arr 47 1 (y13.1.map c47)), (360, .arr 47 1 (y6.1.map c47))]⟩) ?_ ?_
            ·clear h
             refine V_block (V_loop (fun n s => ∃ (sum32 : Int) (t33 : Int), s.keep (mb 265 4112299111959583481796153092744106465) [816, 592, 552, 360] = (⟨.c (.sl (code1.map c5)) :: bt 4 (I y5.1 :: I y5.2.1 :: I y5.2.2 :: .ow 360 :: bt 3 (.ow 552 :: .bot :: .ow 592 :: .bot :: I i21 :: .ow 816 :: .bot :: I t28 :: I sum32 :: bt 94 (I ((y14.1.length : Int)) :: I t28 :: bt 3 (I ((y14.1.length : Int)) :: I t33 :: bt 143 [])))), [(816, .arr 47 1 (y24.1.map c47)), (592, .arr 25 3 (y14.1.map c25)), (552, .arr 47 1 (y13.1.map c47)), (360, .arr 47 1 (y6.1.map c47))]⟩ : St) ∧ r_laws_FnWalks_L34 code1 i21 t28 y13 y14 y24 y5 y6 n sum32 t33 = some o35) FU ⟨_, _,  by rfl, hLo35⟩ ?_)
             clear hLo35
             rintro n s ⟨sum32, t33, hs, h⟩
             refine V_keep _ _ hs ?_
             clear hs
             cases n with
             | zero => cases h
             | succ n =>
              rw [r_laws_FnWalks_L34] at h
              refine V_e (mb 265 9429211095099246973411381333865484769) [816, 592, 552, 360] (s1 := ⟨.c (.sl (code1.map c5)) :: bt 4 (I y5.1 :: I y5.2.1 :: I y5.2.2 :: .ow 360 :: bt 3 (.ow 552 :: .bot :: .ow 592 :: .bot :: I i21 :: .ow 816 :: .bot :: I t28 :: I sum32 :: bt 94 (I ((y14.1.length : Int)) :: I t28 :: bt 3 (I ((y14.1.length : Int)) :: I t33 :: Bo (ltI t33 ((y14.1.length : Int))) :: bt 142 [])))), [(816, .arr 47 1 (y24.1.map c47)), (592, .arr 25 3 (y14.1.map c25)), (552, .arr 47 1 (y13.1.map c47)), (360, .arr 47 1 (y6.1.map c47))]⟩) ?_
              refine V_seq ?_
              refine V_cond rfl (fun hc36 => ?_) (fun hc36 => ?_)
              ·have h := of_true h hc36
               refine V_skip ?_
               show V _ _ _ _
               refine V_seq ?_
               refine V_block ?_
               refine V_e (mb 265 4112299111959583481796153092746203617) [816, 592, 552, 360] (s1 := ⟨.c (.sl (code1.map c5)) :: bt 4 (I y5.1 :: I y5.2.1 :: I y5.2.2 :: .ow 360 :: bt 3 (.ow 552 :: .bot :: .ow 592 :: .bot :: I i21 :: .ow 816 :: .bot :: I t28 :: I sum32 :: I t33 :: bt 93 (I ((y14.1.length : Int)) :: I t28 :: bt 3 (I ((y14.1.length : Int)) :: I t33 :: bt 143 [])))), [(816, .arr 47 1 (y24.1.map c47)), (592, .arr 25 3 (y14.1.map c25)), (552, .arr 47 1 (y13.1.map c47)), (360, .arr 47 1 (y6.1.map c47))]⟩) ?_
               obtain ⟨e37, he37, h⟩ := of_bind h
               obtain ⟨e38, he38, h⟩ := of_bind h
               obtain ⟨e39, he39, h⟩ := of_bind h
               obtain ⟨e40, he40, h⟩ := of_bind h
               obtain ⟨e41, he41, h⟩ := of_bind h
               obtain ⟨e42, he42, h⟩ := of_bind h
               obtain ⟨sum43, hsum43, h⟩ := of_sI h
               refine V_dreg [0, 0, 0, 6, 14, 0, 62, 126, 0, 0, 768, 1792, 0, 7936, 16128, 32766, 65535, 131071] 18 (cdm 18 [2863311528, 715786274, 715786250, 715786262, 715786326, 715784874, 715785558, 715789654, 34122410, 33729194, 33925802, 34974378, 11184810, 22391466, 89500330, 357913942, 1431655765, 5726623061]) (mb 265 4112299111959583481796153092744106465) [816, 592, 552, 360] (s1 := ⟨.c (.sl (code1.map c5)) :: bt 4 (I y5.1 :: I y5.2.1 :: I y5.2.2 :: .ow 360 :: bt 3 (.ow 552 :: .bot :: .ow 592 :: .bot :: I i21 :: .ow 816 :: .bot :: I t28 :: I sum43 :: bt 94 (I ((y14.1.length : Int)) :: I t28 :: bt 3 (I ((y14.1.length : Int)) :: I t33 :: bt 143 [])))), [(816, .arr 47 1 (y24.1.map c47)), (592, .arr 25 3 (y14.1.map c25)), (552, .arr 47 1 (y13.1.map c47)), (360, .arr 47 1 (y6.1.map c47))]⟩) (by kernel_rfl) (by kernel_rfl) ?_ ?_
               ·refine DR 3 ?_
                refine DE_0 3 (.po 816 1 (Int.toNat (i21)) 0) (by kernel_rfl) rfl rfl rfl (gsat_none rfl) (by kernel_rfl) (Y0_idxoM (c := c47) (xs := y24.1) (v := e37) (id := 816) (T := 47) (sz := 1) (n := i21) Try.underlying39 sz47 rfl (by kernel_rfl) (by kernel_rfl) (by kernel_rfl) he37) 127 rfl ?_
                refine DE_0 4 (.c (.sl (e38.map c3))) (by kernel_rfl) rfl rfl rfl (gsat_none rfl) (by kernel_rfl) (Y0_loado1 (c := c47) (xs := y24.1) (v := e38) (id := 816) (sz := 1) (T := 47) (off := 0) (n := i21) (d := .sl (e38.map c3)) (ds := []) sc47 rfl (by kernel_rfl) (by kernel_rfl) he38 (by kernel_rfl)) 128 rfl ?_
                refine DR 1 ?_
                refine DE_0 6 (.pe [Ti e39]) (by kernel_rfl) rfl rfl rfl (gsat_none rfl) (by kernel_rfl) (Y0_idxM (c := c3) (xs := e38) (v := e39) (n := t33) Try.underlying47 sz3 rfl (by kernel_rfl) (by kernel_rfl) he39) 130 rfl ?_
                refine DR 3 ?_
                refine DE_0 10 (.po 552 1 (Int.toNat (t33)) 0) (by kernel_rfl) rfl rfl rfl (gsat_none rfl) (by kernel_rfl) (Y0_idxoM (c := c47) (xs := y13.1) (v := e40) (id := 552) (T := 47) (sz := 1) (n := t33) Try.underlying39 sz47 rfl (by kernel_rfl) (by kernel_rfl) (by kernel_rfl) he40) 134 rfl ?_
                refine DE_0 11 (.c (.sl (e41.map c3))) (by kernel_rfl) rfl rfl rfl (gsat_none rfl) (by kernel_rfl) (Y0_loado1 (c := c47) (xs := y13.1) (v := e41) (id := 552) (sz := 1) (T := 47) (off := 0) (n := t33) (d := .sl (e41.map c3)) (ds := []) sc47 rfl (by kernel_rfl) (by kernel_rfl) he41 (by kernel_rfl)) 135 rfl ?_
                refine DR 1 ?_
                refine DE_0 13 (.pe [Ti e42]) (by kernel_rfl) rfl rfl rfl (gsat_none rfl) (by kernel_rfl) (Y0_idxM (c := c3) (xs := e41) (v := e42) (n := t28) Try.underlying47 sz3 rfl (by kernel_rfl) (by kernel_rfl) he42) 137 rfl ?_
                refine DA 4 ?_
                refine XL_nil ?_
                subst hsum43
                kernel_rfl
               show V _ _ _ _
               obtain ⟨t44, ht44, h⟩ := of_sI h
               refine V_reg (mb 265 4112299111959583481796153092744106465) [816, 592, 552, 360] (s1 := ⟨.c (.sl (code1.map c5)) :: bt 4 (I y5.1 :: I y5.2.1 :: I y5.2.2 :: .ow 360 :: bt 3 (.ow 552 :: .bot :: .ow 592 :: .bot :: I i21 :: .ow 816 :: .bot :: I t28 :: I sum43 :: bt 94 (I ((y14.1.length : Int)) :: I t28 :: bt 3 (I ((y14.1.length : Int)) :: I t44 :: bt 143 [])))), [(816, .arr 47 1 (y24.1.map c47)), (592, .arr 25 3 (y14.1.map c25)), (552, .arr 47 1 (y13.1.map c47)), (360, .arr 47 1 (y6.1.map c47))]⟩) ?_ ?_
               ·refine XR 2 ?_
                refine XL_nil ?_
                subst ht44
                kernel_rfl
               exact ⟨n, Nat.lt_succ_self n, _, _,  by rfl, h⟩
              ·have h := of_false h hc36
               refine V_exit ?_
               obtain rfl := some_inj h
               show St.keep _ _ _ = _
               rfl
            show V _ _ _ _
            obtain ⟨e45, he45, h⟩ := of_bind h
            obtain ⟨e46, he46, h⟩ := of_bind h
            obtain ⟨e47, he47, h⟩ := of_bind h
            refine V_sreg (mb 265 1427247692830575005663121832534227048284246497) [816, 592, 552, 360] (s1 := ⟨.c (.sl (code1.map c5)) :: bt 4 (I y5.1 :: I y5.2.1 :: I y5.2.2 :: .ow 360 :: bt 3 (.ow 552 :: .bot :: .ow 592 :: .bot :: I i21 :: .ow 816 :: bt 97 (I ((y14.1.length : Int)) :: I t28 :: bt 33 (Bo (!eqI o35 e47) :: bt 114 [])))), [(816, .arr 47 1 (y24.1.map c47)), (592, .arr 25 3 (y14.1.map c25)), (552, .arr 47 1 (y13.1.map c47)), (360, .arr 47 1 (y6.1.map c47))]⟩) ?_ ?_
            ·refine XR 3 ?_
             refine L0 rfl rfl (Y0_idxoM (c := c47) (xs := y6.1) (v := e45) (id := 360) (T := 47) (sz := 1) (n := i21) Try.underlying39 sz47 rfl (by kernel_rfl) (by kernel_rfl) (by kernel_rfl) he45) ?_
             refine L0 rfl rfl (Y0_loado1 (c := c47) (xs := y6.1) (v := e46) (id := 360) (sz := 1) (T := 47) (off := 0) (n := i21) (d := .sl (e46.map c3)) (ds := []) sc47 rfl (by kernel_rfl) (by kernel_rfl) he46 (by kernel_rfl)) ?_
             refine XR 1 ?_
             refine L0 rfl rfl (Y0_idxM (c := c3) (xs := e46) (v := e47) (n := t28) Try.underlying47 sz3 rfl (by kernel_rfl) (by kernel_rfl) he47) ?_
             exact XE
            refine V_cond rfl (fun hc48 => ?_) (fun hc48 => ?_)
            ·have h := of_true h hc48
             refine V_e (mb 265 16) [] (s1 := ⟨bt 4 (Bo false :: bt 260 []), []⟩) ?_
             refine V_ret ?_
             obtain rfl := some_inj h
             have h := hko30
             obtain rfl := some_inj h
             have h := hko22
             obtain rfl := some_inj h
             show Post _ _ _ _ _
             exact ⟨.inr rfl, rfl, rfl, rfl⟩
            ·have h := of_false h hc48
             refine V_skip ?_
             show V _ _ _ _
             obtain ⟨t49, ht49, h⟩ := of_sI h
             refine V_reg (mb 265 124615124604835863084731911901499873) [816, 592, 552, 360] (s1 := ⟨.c (.sl (code1.map c5)) :: bt 4 (I y5.1 :: I y5.2.1 :: I y5.2.2 :: .ow 360 :: bt 3 (.ow 552 :: .bot :: .ow 592 :: .bot :: I i21 :: .ow 816 :: bt 97 (I ((y14.1.length : Int)) :: I t49 :: bt 148 []))), [(816, .arr 47 1 (y24.1.map c47)), (592, .arr 25 3 (y14.1.map c25)), (552, .arr 47 1 (y13.1.map c47)), (360, .arr 47 1 (y6.1.map c47))]⟩) ?_ ?_
             ·refine XR 2 ?_
              refine XL_nil ?_
              subst ht49
              kernel_rfl
             exact ⟨n, Nat.lt_succ_self n, _,  by rfl, h⟩
           ·have h := of_false h hc31
            refine V_exit ?_
            obtain rfl := some_inj h
            exact ⟨_, rfl, by rfl⟩
         rintro o30 rfl
         have h := hko30
         clear hko30
         obtain rfl := some_inj h
         exact ⟨_, rfl, by rfl⟩
       ·have h := of_false h hc23
        refine V_skip ?_
        obtain rfl := some_inj h
        exact ⟨_, rfl, by rfl⟩
      rintro o22 rfl
      have h := hko22
      clear hko22
      obtain ⟨y50, hy50, h⟩ := of_bind h
      obtain ⟨z51, hz51, h⟩ := of_bind h
      obtain ⟨j52, hj52, h⟩ := of_sI h
      refine V_sreg (mb 265 4276704) [592, 360] (s1 := ⟨bt 5 (I y5.1 :: I y5.2.1 :: I y5.2.2 :: .ow 360 :: bt 5 (.ow 592 :: .bot :: I i21 :: bt 5 (I j52 :: bt 242 []))), [(592, .arr 25 3 (y14.1.map c25)), (360, .arr 47 1 (y6.1.map c47))]⟩) ?_ ?_
      ·refine XR 1 ?_
       refine XC (s_laws_numberOf hy50) cf_laws_numberOf rfl rfl rfl ?_
       refine XR 1 ?_
       refine L0 rfl rfl (Y0_lenM (c := c25) (xs := y14.1) Try.underlying44 rfl (by kernel_rfl)) ?_
       refine L0 rfl rfl (Y0_rem (k := .i64) (a := y50) (b := (y14.1.length : Int)) rfl (by kernel_rfl) (by kernel_rfl) (nz_some hz51)) ?_
       refine XR 1 ?_
       refine XL_nil ?_
       subst hj52
       kernel_rfl
      obtain ⟨e53, he53, h⟩ := of_bind h
      obtain ⟨e54, he54, h⟩ := of_bind h
      obtain ⟨e55, he55, h⟩ := of_bind h
      obtain ⟨e56, he56, h⟩ := of_bind h
      obtain ⟨y57, hy57, h⟩ := of_bind h
      refine V_sdreg [0, 0, 3, 7, 0, 0, 48, 112, 0, 256, 1023, 2047, 4095, 4095, 8191, 32767] 16 (cdm 16 [698888, 698882, 698885, 698901, 657578, 656042, 656810, 660906, 43690, 109226, 349525, 1398101, 139810133, 576017749, 156587349, 357913941]) (mb 265 29442528) [592, 360] (s1 := ⟨bt 5 (I y5.1 :: I y5.2.1 :: I y5.2.2 :: .ow 360 :: bt 5 (.ow 592 :: .bot :: I i21 :: bt 5 (I j52 :: I y57.1 :: Bo y57.2 :: bt 240 []))), [(592, .arr 25 3 (y14.1.map c25)), (360, .arr 47 1 (y6.1.map c47))]⟩) (by kernel_rfl) (by kernel_rfl) ?_ ?_
      ·refine DR 2 ?_
       refine DE_0 2 (.po 592 3 (Int.toNat (i21)) 0) (by kernel_rfl) rfl rfl rfl (gsat_none rfl) (by kernel_rfl) (Y0_idxoM (c := c25) (xs := y14.1) (v := e53) (id := 592) (T := 25) (sz := 3) (n := i21) Try.underlying44 sz25 rfl (by kernel_rfl) (by kernel_rfl) (by kernel_rfl) he53) 160 rfl ?_
       refine DE_0 3 (.ag [Ti e54.1, Ti e54.2.1, Ti e54.2.2]) (by kernel_rfl) rfl rfl rfl (gsat_none rfl) (by kernel_rfl) (E_loadon (c := c25) (xs := y14.1) (v := e54) (id := 592) (sz := 3) (T := 25) (off := 0) (n := i21) [Ti e54.1, Ti e54.2.1, Ti e54.2.2] wd25 rfl (by kernel_rfl) (by kernel_rfl) he54 (Nat.le_of_ble_eq_true rfl) (by kernel_rfl)) 161 rfl ?_
       refine DR 2 ?_
       refine DE_0 6 (.po 592 3 (Int.toNat (j52)) 0) (by kernel_rfl) rfl rfl rfl (gsat_none rfl) (by kernel_rfl) (Y0_idxoM (c := c25) (xs := y14.1) (v := e55) (id := 592) (T := 25) (sz := 3) (n := j52) Try.underlying44 sz25 rfl (by kernel_rfl) (by kernel_rfl) (by kernel_rfl) he55) 164 rfl ?_
       refine DE_0 7 (.ag [Ti e56.1, Ti e56.2.1, Ti e56.2.2]) (by kernel_rfl) rfl rfl rfl (gsat_none rfl) (by kernel_rfl) (E_loadon (c := c25) (xs := y14.1) (v := e56) (id := 592) (sz := 3) (T := 25) (off := 0) (n := j52) [Ti e56.1, Ti e56.2.1, Ti e56.2.2] wd25 rfl (by kernel_rfl) (by kernel_rfl) he56 (Nat.le_of_ble_eq_true rfl) (by kernel_rfl)) 165 rfl ?_
       refine DR 1 ?_
       refine DE_1 9 (by kernel_rfl) rfl rfl rfl (gsat_none rfl) (Y1_bslice (z := zv3) (els := [y5.2.1].map c3) Try.underlying47 iz3 rfl (by decide) rfl (by kernel_rfl) rfl (by simp [c3]) (by decide) (by decide)) rfl rfl rfl 167 rfl ?_
       refine DE_1 10 (by kernel_rfl) rfl rfl rfl (gsat_none rfl) (Y1_callS (s_impl_WalkDistance hy57) cf_impl_WalkDistance rfl (by kernel_rfl) rfl rfl) rfl rfl rfl 168 rfl ?_
       refine DA 5 ?_
       exact XE
      obtain ⟨e58, he58, h⟩ := of_bind h
      obtain ⟨e59, he59, h⟩ := of_bind h
      obtain ⟨e60, he60, h⟩ := of_bind h
      obtain ⟨e61, he61, h⟩ := of_bind h
      obtain ⟨y62, hy62, h⟩ := of_bind h
      refine V_sdreg [0, 0, 3, 7, 0, 0, 48, 112, 0, 256, 1023, 2047, 4095, 4095, 8191, 32767] 16 (cdm 16 [698888, 698882, 698885, 698901, 657578, 656042, 656810, 660906, 43690, 109226, 349525, 1398101, 139810133, 576017749, 156587349, 357913941]) (mb 265 130105824) [592, 360] (s1 := ⟨bt 5 (I y5.1 :: I y5.2.1 :: I y5.2.2 :: .ow 360 :: bt 5 (.ow 592 :: .bot :: I i21 :: bt 5 (I j52 :: I y57.1 :: Bo y57.2 :: I y62.1 :: Bo y62.2 :: bt 238 []))), [(592, .arr 25 3 (y14.1.map c25)), (360, .arr 47 1 (y6.1.map c47))]⟩) (by kernel_rfl) (by kernel_rfl) ?_ ?_
      ·refine DR 2 ?_
       refine DE_0 2 (.po 592 3 (Int.toNat (i21)) 0) (by kernel_rfl) rfl rfl rfl (gsat_none rfl) (by kernel_rfl) (Y0_idxoM (c := c25) (xs := y14.1) (v := e58) (id := 592) (T := 25) (sz := 3) (n := i21) Try.underlying44 sz25 rfl (by kernel_rfl) (by kernel_rfl) (by kernel_rfl) he58) 174 rfl ?_
       refine DE_0 3 (.ag [Ti e59.1, Ti e59.2.1, Ti e59.2.2]) (by kernel_rfl) rfl rfl rfl (gsat_none rfl) (by kernel_rfl) (E_loadon (c := c25) (xs := y14.1) (v := e59) (id := 592) (sz := 3) (T := 25) (off := 0) (n := i21) [Ti e59.1, Ti e59.2.1, Ti e59.2.2] wd25 rfl (by kernel_rfl) (by kernel_rfl) he59 (Nat.le_of_ble_eq_true rfl) (by kernel_rfl)) 175 rfl ?_
       refine DR 2 ?_
       refine DE_0 6 (.po 592 3 (Int.toNat (j52)) 0) (by kernel_rfl) rfl rfl rfl (gsat_none rfl) (by kernel_rfl) (Y0_idxoM (c := c25) (xs := y14.1) (v := e60) (id := 592) (T := 25) (sz := 3) (n := j52) Try.underlying44 sz25 rfl (by kernel_rfl) (by kernel_rfl) (by kernel_rfl) he60) 178 rfl ?_
       refine DE_0 7 (.ag [Ti e61.1, Ti e61.2.1, Ti e61.2.2]) (by kernel_rfl) rfl rfl rfl (gsat_none rfl) (by kernel_rfl) (E_loadon (c := c25) (xs := y14.1) (v := e61) (id := 592) (sz := 3) (T := 25) (off := 0) (n := j52) [Ti e61.1, Ti e61.2.1, Ti e61.2.2] wd25 rfl (by kernel_rfl) (by kernel_rfl) he61 (Nat.le_of_ble_eq_true rfl) (by kernel_rfl)) 179 rfl ?_
       refine DR 1 ?_
       refine DE_1 9 (by kernel_rfl) rfl rfl rfl (gsat_none rfl) (Y1_bslice (z := zv3) (els := [y5.2.1].map c3) Try.underlying47 iz3 rfl (by decide) rfl (by kernel_rfl) rfl (by simp [c3]) (by decide) (by decide)) rfl rfl rfl 181 rfl ?_
       refine DE_1 10 (by kernel_rfl) rfl rfl rfl (gsat_none rfl) (Y1_callS (s_spec_WalkDistance hy62) cf_spec_WalkDistance rfl (by kernel_rfl) rfl rfl) rfl rfl rfl 182 rfl ?_
       refine DA 5 ?_
       exact XE
      obtain ⟨y63, hy63, h⟩ := of_bind h
      refine V_sreg (mb 265 532758912) [1512, 592, 360] (s1 := ⟨bt 7 (I y5.2.2 :: .ow 360 :: bt 5 (.ow 592 :: .bot :: I i21 :: bt 5 (I j52 :: I y57.1 :: Bo y57.2 :: I y62.1 :: Bo y62.2 :: .ow 1512 :: Bo y63.2 :: bt 236 []))), [(1512, .arr 44 1 (y63.1.map c44)), (592, .arr 25 3 (y14.1.map c25)), (360, .arr 47 1 (y6.1.map c47))]⟩) ?_ ?_
      ·refine XR 2 ?_
       refine L1 rfl rfl (Y1_bslice (z := zv3) (els := [y5.2.1].map c3) Try.underlying47 iz3 rfl (by decide) rfl (by kernel_rfl) rfl (by simp [c3]) (by decide) (by decide)) ?_
       refine XL_freeze 1504 (T := 3) (sz := 1) (els := ([y5.2.1]).map c3) (s1 := ⟨bt 5 (I y5.1 :: I y5.2.1 :: I y5.2.2 :: .ow 360 :: bt 5 (.ow 592 :: .bot :: I i21 :: bt 5 (I j52 :: I y57.1 :: Bo y57.2 :: I y62.1 :: Bo y62.2 :: bt 159 (I y5.1 :: I y5.2.1 :: .c (.sl (([y5.2.1]).map c3)) :: bt 76 [])))), [(592, .arr 25 3 (y14.1.map c25)), (360, .arr 47 1 (y6.1.map c47))]⟩) (by kernel_rfl) (by kernel_rfl) ?_
       refine XC (s_impl_WalkComponents hy63) cf_impl_WalkComponents rfl rfl rfl ?_
       exact XE
      refine V_seq ?_
      obtain ⟨t66, ht66, h⟩ := of_bind h
      have ht66 := some_inj ht66
      refine V_sreg (mb 265 12855504354071922204335696738729300820177623950262342846071168) [1512, 592, 360] (s1 := ⟨bt 7 (I y5.2.2 :: .ow 360 :: bt 5 (.ow 592 :: .bot :: I i21 :: bt 5 (I j52 :: I y57.1 :: Bo y57.2 :: .bot :: .bot :: .ow 1512 :: bt 175 (Bo t66 :: bt 61 [])))), [(1512, .arr 44 1 (y63.1.map c44)), (592, .arr 25 3 (y14.1.map c25)), (360, .arr 47 1 (y6.1.map c47))]⟩) ?_ ?_
      ·refine XR 2 ?_
       refine L0 rfl rfl (Y0_neb (a := y57.2) (b := y62.2) Try.underlying4 rfl (by kernel_rfl) (by kernel_rfl)) ?_
       refine XR 1 ?_
       refine XL_split (y57.2 != y62.2) (fun hc64 => ?_) (fun hc64 => ?_)
       ·refine XL_skipF _ rfl rfl (by kernel_rfl) hc64 rfl ?_
        refine XL_skipF _ rfl rfl (by kernel_rfl) hc64 rfl ?_
        refine XL_skipF _ rfl rfl (by kernel_rfl) hc64 rfl ?_
        refine XL_cons rfl (X_of_Y0 rfl (Y0_pick1 (b := y57.2 != y62.2) (p := true) (q := !eqI y57.1 y62.1) rfl (by kernel_rfl) hc64 (by kernel_rfl))) ?_
        refine XR 1 ?_
        refine XL_split (bif (y57.2 != y62.2) then true else (!eqI y57.1 y62.1)) (fun hc65 => ?_) (fun hc65 => ?_)
        ·refine XL_skipF _ rfl rfl (by kernel_rfl) hc65 rfl ?_
         refine XL_skipF _ rfl rfl (by kernel_rfl) hc65 rfl ?_
         refine XL_cons rfl (X_of_Y0 rfl (Y0_pick1 (b := bif (y57.2 != y62.2) then true else (!eqI y57.1 y62.1)) (p := true) (q := !y63.2) rfl (by kernel_rfl) hc65 (by kernel_rfl))) ?_
         refine XL_nil ?_
         subst ht66
         kernel_rfl
        ·refine XL_takeC _ rfl rfl (by kernel_rfl) hc65 (X_of_Y0 rfl (E_move (Bo y63.2) rfl (by kernel_rfl))) ?_
         refine XL_takeC _ rfl rfl (by kernel_rfl) hc65 (X_of_Y0 rfl (Y0_not (b := y63.2) rfl (by kernel_rfl))) ?_
         refine XL_cons rfl (X_of_Y0 rfl (Y0_pick0 (b := bif (y57.2 != y62.2) then true else (!eqI y57.1 y62.1)) (p := true) (q := !y63.2) rfl (by kernel_rfl) hc65 (by kernel_rfl))) ?_
         refine XL_nil ?_
         subst ht66
         kernel_rfl
       ·refine XL_takeC _ rfl rfl (by kernel_rfl) hc64 (X_of_Y0 rfl (E_move (I y57.1) rfl (by kernel_rfl))) ?_
        refine XL_takeC _ rfl rfl (by kernel_rfl) hc64 (X_of_Y0 rfl (E_move (I y62.1) rfl (by kernel_rfl))) ?_
        refine XL_takeC _ rfl rfl (by kernel_rfl) hc64 (X_of_Y0 rfl (Y0_new (k := .i64) (a := y57.1) (b := y62.1) rfl (by kernel_rfl) (by kernel_rfl))) ?_
        refine XL_cons rfl (X_of_Y0 rfl (Y0_pick0 (b := y57.2 != y62.2) (p := true) (q := !eqI y57.1 y62.1) rfl (by kernel_rfl) hc64 (by kernel_rfl))) ?_
        refine XR 1 ?_
        refine XL_split (bif (y57.2 != y62.2) then true else (!eqI y57.1 y62.1)) (fun hc65 => ?_) (fun hc65 => ?_)
        ·refine XL_skipF _ rfl rfl (by kernel_rfl) hc65 rfl ?_
         refine XL_skipF _ rfl rfl (by kernel_rfl) hc65 rfl ?_
         refine XL_cons rfl (X_of_Y0 rfl (Y0_pick1 (b := bif (y57.2 != y62.2) then true else (!eqI y57.1 y62.1)) (p := true) (q := !y63.2) rfl (by kernel_rfl) hc65 (by kernel_rfl))) ?_
         refine XL_nil ?_
         subst ht66
         kernel_rfl
        ·refine XL_takeC _ rfl rfl (by kernel_rfl) hc65 (X_of_Y0 rfl (E_move (Bo y63.2) rfl (by kernel_rfl))) ?_
         refine XL_takeC _ rfl rfl (by kernel_rfl) hc65 (X_of_Y0 rfl (Y0_not (b := y63.2) rfl (by kernel_rfl))) ?_
         refine XL_cons rfl (X_of_Y0 rfl (Y0_pick0 (b := bif (y57.2 != y62.2) then true else (!eqI y57.1 y62.1)) (p := true) (q := !y63.2) rfl (by kernel_rfl) hc65 (by kernel_rfl))) ?_
         refine XL_nil ?_
         subst ht66
         kernel_rfl
      refine V_cond rfl (fun hc67 => ?_) (fun hc67 => ?_)
      ·have h := of_true h hc67
       refine V_e (mb 265 16) [] (s1 := ⟨bt 4 (Bo false :: bt 260 []), []⟩) ?_
       refine V_ret ?_
       obtain rfl := some_inj h
       show Post _ _ _ _ _
       exact ⟨.inr rfl, rfl, rfl, rfl⟩
      ·have h := of_false h hc67
       refine V_skip ?_
       show V _ _ _ _
       refine V_seq ?_
       obtain ⟨b72, hb72, h⟩ := of_bind h
       obtain ⟨b80, hb80, h⟩ := of_bind h
       refine V_sreg (mb 265 13803492693581127574869511724554050904902217944340773110325048602869760) [1512, 592] (s1 := ⟨bt 14 (.ow 592 :: .bot :: I i21 :: bt 5 (I j52 :: .bot :: Bo y57.2 :: .bot :: .bot :: .ow 1512 :: bt 205 (Bo b80 :: bt 31 []))), [(1512, .arr 44 1 (y63.1.map c44)), (592, .arr 25 3 (y14.1.map c25))]⟩) ?_ ?_
       ·refine XR 2 ?_
        refine XL_split y57.2 (fun hc68 => ?_) (fun hc68 => ?_)
        ·have hb72 := of_true hb72 hc68
         obtain ⟨e69, he69, hb72⟩ := of_bind hb72
         obtain ⟨e70, he70, hb72⟩ := of_bind hb72
         obtain ⟨e71, he71, hb72⟩ := of_bind hb72
         have hb72 := some_inj hb72
         refine XL_takeC _ rfl rfl (by kernel_rfl) hc68 (X_of_Y0 rfl (E_move (.ow 360) rfl (by kernel_rfl))) ?_
         refine XL_takeC _ rfl rfl (by kernel_rfl) hc68 (X_of_Y0 rfl (E_move (I i21) rfl (by kernel_rfl))) ?_
         refine XL_takeC _ rfl rfl (by kernel_rfl) hc68 (X_of_Y0 rfl (Y0_idxoM (c := c47) (xs := y6.1) (v := e69) (id := 360) (T := 47) (sz := 1) (n := i21) Try.underlying39 sz47 rfl (by kernel_rfl) (by kernel_rfl) (by kernel_rfl) he69)) ?_
         refine XL_takeC _ rfl rfl (by kernel_rfl) hc68 (X_of_Y0 rfl (Y0_loado1 (c := c47) (xs := y6.1) (v := e70) (id := 360) (sz := 1) (T := 47) (off := 0) (n := i21) (d := .sl (e70.map c3)) (ds := []) sc47 rfl (by kernel_rfl) (by kernel_rfl) he70 (by kernel_rfl))) ?_
         refine XL_takeC _ rfl rfl (by kernel_rfl) hc68 (X_of_Y0 rfl (E_move (I j52) rfl (by kernel_rfl))) ?_
         refine XL_takeC _ rfl rfl (by kernel_rfl) hc68 (X_of_Y0 rfl (Y0_idxM (c := c3) (xs := e70) (v := e71) (n := j52) Try.underlying47 sz3 rfl (by kernel_rfl) (by kernel_rfl) he71)) ?_
         refine XL_takeC _ rfl rfl (by kernel_rfl) hc68 (X_of_Y0 rfl (Y0_load1 (c := Ti e71) (cs := []) sc3 rfl (by kernel_rfl))) ?_
         refine XL_takeC _ rfl rfl (by kernel_rfl) hc68 (X_of_Y0 rfl (Y0_gtw (k := .i64) (a := e71) (b := 0) rfl (by kernel_rfl) (by kernel_rfl))) ?_
         refine XL_cons rfl (X_of_Y0 rfl (Y0_pickTe (b := y57.2) (p := ltI 0 e71) rfl (by kernel_rfl) hc68 (by kernel_rfl) hb72)) ?_
         refine XR 1 ?_
         refine XL_split b72 (fun hc73 => ?_) (fun hc73 => ?_)
         ·refine XL_takeC _ rfl rfl (by kernel_rfl) hc73 (X_of_Y0 rfl (E_move (I y57.1) rfl (by kernel_rfl))) ?_
          refine XL_takeC _ rfl rfl (by kernel_rfl) hc73 (X_of_Y0 rfl (E_move (I y5.2.2) rfl (by kernel_rfl))) ?_
          refine XL_takeC _ rfl rfl (by kernel_rfl) hc73 (X_of_Y0 rfl (Y0_gtw (k := .i64) (a := y57.1) (b := y5.2.2) rfl (by kernel_rfl) (by kernel_rfl))) ?_
          refine XL_cons rfl (X_of_Y0 rfl (Y0_pick1 (b := b72) (p := ltI y5.2.2 y57.1) (q := false) rfl (by kernel_rfl) hc73 (by kernel_rfl))) ?_
          refine XR 1 ?_
          refine XL_split (bif b72 then (ltI y5.2.2 y57.1) else false) (fun hc74 => ?_) (fun hc74 => ?_)
          ·have hb80 := some_inj (of_true hb80 hc74)
           refine XL_skipF _ rfl rfl (by kernel_rfl) hc74 rfl ?_
           refine XL_skipF _ rfl rfl (by kernel_rfl) hc74 rfl ?_
           refine XL_skipF _ rfl rfl (by kernel_rfl) hc74 rfl ?_
           refine XL_skip2 rfl rfl (by kernel_rfl) rfl ?_
           refine XL_skip2 rfl rfl (by kernel_rfl) rfl ?_
           refine XL_skip2 rfl rfl (by kernel_rfl) rfl ?_
           refine XL_skip2 rfl rfl (by kernel_rfl) rfl ?_
           refine XL_skip2 rfl rfl (by kernel_rfl) rfl ?_
           refine XL_skip2 rfl rfl (by kernel_rfl) rfl ?_
           refine XL_skip2 rfl rfl (by kernel_rfl) rfl ?_
           refine XL_skip2 rfl rfl (by kernel_rfl) rfl ?_
           refine XL_skipF _ rfl rfl (by kernel_rfl) hc74 rfl ?_
           refine XL_cons rfl (X_of_Y0 rfl (Y0_pickTe (b := bif b72 then (ltI y5.2.2 y57.1) else false) (p := true) rfl (by kernel_rfl) hc74 (by kernel_rfl) hb80)) ?_
           exact XE
          ·have hb80 := of_false hb80 hc74
           obtain ⟨b79, hb79, hb80⟩ := of_bind hb80
           have hb80 := some_inj hb80
           refine XL_takeC _ rfl rfl (by kernel_rfl) hc74 (X_of_Y0 rfl (E_move (Bo y57.2) rfl (by kernel_rfl))) ?_
           refine XL_takeC _ rfl rfl (by kernel_rfl) hc74 (X_of_Y0 rfl (Y0_not (b := y57.2) rfl (by kernel_rfl))) ?_
           refine XL_takeC _ rfl rfl (by kernel_rfl) hc74 (X_of_Y0 rfl (E_move (Bo (!y57.2)) rfl (by kernel_rfl))) ?_
           refine XL_split (!y57.2) (fun hc75 => ?_) (fun hc75 => ?_)
           ·have hb79 := of_true hb79 hc75
            obtain ⟨e76, he76, hb79⟩ := of_bind hb79
            obtain ⟨e77, he77, hb79⟩ := of_bind hb79
            obtain ⟨e78, he78, hb79⟩ := of_bind hb79
            have hb79 := some_inj hb79
            refine XL_takeC _ rfl rfl (by kernel_rfl) hc75 (X_of_Y0 rfl (E_move (.ow 360) rfl (by kernel_rfl))) ?_
            refine XL_takeC _ rfl rfl (by kernel_rfl) hc75 (X_of_Y0 rfl (E_move (I i21) rfl (by kernel_rfl))) ?_
            refine XL_takeC _ rfl rfl (by kernel_rfl) hc75 (X_of_Y0 rfl (Y0_idxoM (c := c47) (xs := y6.1) (v := e76) (id := 360) (T := 47) (sz := 1) (n := i21) Try.underlying39 sz47 rfl (by kernel_rfl) (by kernel_rfl) (by kernel_rfl) he76)) ?_
            refine XL_takeC _ rfl rfl (by kernel_rfl) hc75 (X_of_Y0 rfl (Y0_loado1 (c := c47) (xs := y6.1) (v := e77) (id := 360) (sz := 1) (T := 47) (off := 0) (n := i21) (d := .sl (e77.map c3)) (ds := []) sc47 rfl (by kernel_rfl) (by kernel_rfl) he77 (by kernel_rfl))) ?_
            refine XL_takeC _ rfl rfl (by kernel_rfl) hc75 (X_of_Y0 rfl (E_move (I j52) rfl (by kernel_rfl))) ?_
            refine XL_takeC _ rfl rfl (by kernel_rfl) hc75 (X_of_Y0 rfl (Y0_idxM (c := c3) (xs := e77) (v := e78) (n := j52) Try.underlying47 sz3 rfl (by kernel_rfl) (by kernel_rfl) he78)) ?_
            refine XL_takeC _ rfl rfl (by kernel_rfl) hc75 (X_of_Y0 rfl (Y0_load1 (c := Ti e78) (cs := []) sc3 rfl (by kernel_rfl))) ?_
            refine XL_takeC _ rfl rfl (by kernel_rfl) hc75 (X_of_Y0 rfl (Y0_gtw (k := .i64) (a := e78) (b := 0) rfl (by kernel_rfl) (by kernel_rfl))) ?_
            refine XL_takeC _ rfl rfl (by kernel_rfl) hc74 (X_of_Y0 rfl (Y0_pickTe (b := !y57.2) (p := ltI 0 e78) rfl (by kernel_rfl) hc75 (by kernel_rfl) hb79)) ?_
            refine XL_cons rfl (X_of_Y0 rfl (Y0_pickFe (b := bif b72 then (ltI y5.2.2 y57.1) else false) (p := b79) rfl (by kernel_rfl) hc74 (by kernel_rfl) hb80)) ?_
            exact XE
           ·have hb79 := some_inj (of_false hb79 hc75)
            refine XL_skipT _ rfl rfl (by kernel_rfl) hc75 rfl ?_
            refine XL_skipT _ rfl rfl (by kernel_rfl) hc75 rfl ?_
            refine XL_skipT _ rfl rfl (by kernel_rfl) hc75 rfl ?_
            refine XL_skipT _ rfl rfl (by kernel_rfl) hc75 rfl ?_
            refine XL_skipT _ rfl rfl (by kernel_rfl) hc75 rfl ?_
            refine XL_skipT _ rfl rfl (by kernel_rfl) hc75 rfl ?_
            refine XL_skipT _ rfl rfl (by kernel_rfl) hc75 rfl ?_
            refine XL_skipT _ rfl rfl (by kernel_rfl) hc75 rfl ?_
            refine XL_takeC _ rfl rfl (by kernel_rfl) hc74 (X_of_Y0 rfl (Y0_pickFe (b := !y57.2) (p := false) rfl (by kernel_rfl) hc75 (by kernel_rfl) hb79)) ?_
            refine XL_cons rfl (X_of_Y0 rfl (Y0_pickFe (b := bif b72 then (ltI y5.2.2 y57.1) else false) (p := b79) rfl (by kernel_rfl) hc74 (by kernel_rfl) hb80)) ?_
            exact XE
         ·refine XL_skipT _ rfl rfl (by kernel_rfl) hc73 rfl ?_
          refine XL_skipT _ rfl rfl (by kernel_rfl) hc73 rfl ?_
          refine XL_skipT _ rfl rfl (by kernel_rfl) hc73 rfl ?_
          refine XL_cons rfl (X_of_Y0 rfl (Y0_pick0 (b := b72) (p := ltI y5.2.2 y57.1) (q := false) rfl (by kernel_rfl) hc73 (by kernel_rfl))) ?_
          refine XR 1 ?_
          refine XL_split (bif b72 then (ltI y5.2.2 y57.1) else false) (fun hc74 => ?_) (fun hc74 => ?_)
          ·have hb80 := some_inj (of_true hb80 hc74)
           refine XL_skipF _ rfl rfl (by kernel_rfl) hc74 rfl ?_
           refine XL_skipF _ rfl rfl (by kernel_rfl) hc74 rfl ?_
           refine XL_skipF _ rfl rfl (by kernel_rfl) hc74 rfl ?_
           refine XL_skip2 rfl rfl (by kernel_rfl) rfl ?_
           refine XL_skip2 rfl rfl (by kernel_rfl) rfl ?_
           refine XL_skip2 rfl rfl (by kernel_rfl) rfl ?_
           refine XL_skip2 rfl rfl (by kernel_rfl) rfl ?_
           refine XL_skip2 rfl rfl (by kernel_rfl) rfl ?_
           refine XL_skip2 rfl rfl (by kernel_rfl) rfl ?_
           refine XL_skip2 rfl rfl (by kernel_rfl) rfl ?_
           refine XL_skip2 rfl rfl (by kernel_rfl) rfl ?_
           refine XL_skipF _ rfl rfl (by kernel_rfl) hc74 rfl ?_
           refine XL_cons rfl (X_of_Y0 rfl (Y0_pickTe (b := bif b72 then (ltI y5.2.2 y57.1) else false) (p := true) rfl (by kernel_rfl) hc74 (by kernel_rfl) hb80)) ?_
           exact XE
          ·have hb80 := of_false hb80 hc74
           obtain ⟨b79, hb79, hb80⟩ := of_bind hb80
           have hb80 := some_inj hb80
           refine XL_takeC _ rfl rfl (by kernel_rfl) hc74 (X_of_Y0 rfl (E_move (Bo y57.2) rfl (by kernel_rfl))) ?_
           refine XL_takeC _ rfl rfl (by kernel_rfl) hc74 (X_of_Y0 rfl (Y0_not (b := y57.2) rfl (by kernel_rfl))) ?_
           refine XL_takeC _ rfl rfl (by kernel_rfl) hc74 (X_of_Y0 rfl (E_move (Bo (!y57.2)) rfl (by kernel_rfl))) ?_
           refine XL_split (!y57.2) (fun hc75 => ?_) (fun hc75 => ?_)
           ·have hb79 := of_true hb79 hc75
            obtain ⟨e76, he76, hb79⟩ := of_bind hb79
            obtain ⟨e77, he77, hb79⟩ := of_bind hb79
            obtain ⟨e78, he78, hb79⟩ := of_bind hb79
            have hb79 := some_inj hb79
            refine XL_takeC _ rfl rfl (by kernel_rfl) hc75 (X_of_Y0 rfl (E_move (.ow 360) rfl (by kernel_rfl))) ?_
            refine XL_takeC _ rfl rfl (by kernel_rfl) hc75 (X_of_Y0 rfl (E_move (I i21) rfl (by kernel_rfl))) ?_
            refine XL_takeC _ rfl rfl (by kernel_rfl) hc75 (X_of_Y0 rfl (Y0_idxoM (c := c47) (xs := y6.1) (v := e76) (id := 360) (T := 47) (sz := 1) (n := i21) Try.underlying39 sz47 rfl (by kernel_rfl) (by kernel_rfl) (by kernel_rfl) he76)) ?_
            refine XL_takeC _ rfl rfl (by kernel_rfl) hc75 (X_of_Y0 rfl (Y0_loado1 (c := c47) (xs := y6.1) (v := e77) (id := 360) (sz := 1) (T := 47) (off := 0) (n := i21) (d := .sl (e77.map c3)) (ds := []) sc47 rfl (by kernel_rfl) (by kernel_rfl) he77 (by kernel_rfl))) ?_
            refine XL_takeC _ rfl rfl (by kernel_rfl) hc75 (X_of_Y0 rfl (E_move (I j52) rfl (by kernel_rfl))) ?_
            refine XL_takeC _ rfl rfl (by kernel_rfl) hc75 (X_of_Y0 rfl (Y0_idxM (c := c3) (xs := e77) (v := e78) (n := j52) Try.underlying47 sz3 rfl (by kernel_rfl) (by kernel_rfl) he78)) ?_
            refine XL_takeC _ rfl rfl (by kernel_rfl) hc75 (X_of_Y0 rfl (Y0_load1 (c := Ti e78) (cs := []) sc3 rfl (by kernel_rfl))) ?_
            refine XL_takeC _ rfl rfl (by kernel_rfl) hc75 (X_of_Y0 rfl (Y0_gtw (k := .i64) (a := e78) (b := 0) rfl (by kernel_rfl) (by kernel_rfl))) ?_
            refine XL_takeC _ rfl rfl (by kernel_rfl) hc74 (X_of_Y0 rfl (Y0_pickTe (b := !y57.2) (p := ltI 0 e78) rfl (by kernel_rfl) hc75 (by kernel_rfl) hb79)) ?_
            refine XL_cons rfl (X_of_Y0 rfl (Y0_pickFe (b := bif b72 then (ltI y5.2.2 y57.1) else false) (p := b79) rfl (by kernel_rfl) hc74 (by kernel_rfl) hb80)) ?_
            exact XE
           ·have hb79 := some_inj (of_false hb79 hc75)
            refine XL_skipT _ rfl rfl (by kernel_rfl) hc75 rfl ?_
            refine XL_skipT _ rfl rfl (by kernel_rfl) hc75 rfl ?_
            refine XL_skipT _ rfl rfl (by kernel_rfl) hc75 rfl ?_
            refine XL_skipT _ rfl rfl (by kernel_rfl) hc75 rfl ?_
            refine XL_skipT _ rfl rfl (by kernel_rfl) hc75 rfl ?_
            refine XL_skipT _ rfl rfl (by kernel_rfl) hc75 rfl ?_
            refine XL_skipT _ rfl rfl (by kernel_rfl) hc75 rfl ?_
            refine XL_skipT _ rfl rfl (by kernel_rfl) hc75 rfl ?_
            refine XL_takeC _ rfl rfl (by kernel_rfl) hc74 (X_of_Y0 rfl (Y0_pickFe (b := !y57.2) (p := false) rfl (by kernel_rfl) hc75 (by kernel_rfl) hb79)) ?_
            refine XL_cons rfl (X_of_Y0 rfl (Y0_pickFe (b := bif b72 then (ltI y5.2.2 y57.1) else false) (p := b79) rfl (by kernel_rfl) hc74 (by kernel_rfl) hb80)) ?_
            exact XE
        ·have hb72 := some_inj (of_false hb72 hc68)
         refine XL_skipT _ rfl rfl (by kernel_rfl) hc68 rfl ?_
         refine XL_skipT _ rfl rfl (by kernel_rfl) hc68 rfl ?_
         refine XL_skipT _ rfl rfl (by kernel_rfl) hc68 rfl ?_
         refine XL_skipT _ rfl rfl (by kernel_rfl) hc68 rfl ?_
         refine XL_skipT _ rfl rfl (by kernel_rfl) hc68 rfl ?_
         refine XL_skipT _ rfl rfl (by kernel_rfl) hc68 rfl ?_
         refine XL_skipT _ rfl rfl (by kernel_rfl) hc68 rfl ?_
         refine XL_skipT _ rfl rfl (by kernel_rfl) hc68 rfl ?_
         refine XL_cons rfl (X_of_Y0 rfl (Y0_pickFe (b := y57.2) (p := false) rfl (by kernel_rfl) hc68 (by kernel_rfl) hb72)) ?_
         refine XR 1 ?_
         refine XL_split b72 (fun hc73 => ?_) (fun hc73 => ?_)
         ·refine XL_takeC _ rfl rfl (by kernel_rfl) hc73 (X_of_Y0 rfl (E_move (I y57.1) rfl (by kernel_rfl))) ?_
          refine XL_takeC _ rfl rfl (by kernel_rfl) hc73 (X_of_Y0 rfl (E_move (I y5.2.2) rfl (by kernel_rfl))) ?_
          refine XL_takeC _ rfl rfl (by kernel_rfl) hc73 (X_of_Y0 rfl (Y0_gtw (k := .i64) (a := y57.1) (b := y5.2.2) rfl (by kernel_rfl) (by kernel_rfl))) ?_
          refine XL_cons rfl (X_of_Y0 rfl (Y0_pick1 (b := b72) (p := ltI y5.2.2 y57.1) (q := false) rfl (by kernel_rfl) hc73 (by kernel_rfl))) ?_
          refine XR 1 ?_
          refine XL_split (bif b72 then (ltI y5.2.2 y57.1) else false) (fun hc74 => ?_) (fun hc74 => ?_)
          ·have hb80 := some_inj (of_true hb80 hc74)
           refine XL_skipF _ rfl rfl (by kernel_rfl) hc74 rfl ?_
           refine XL_skipF _ rfl rfl (by kernel_rfl) hc74 rfl ?_
           refine XL_skipF _ rfl rfl (by kernel_rfl) hc74 rfl ?_
           refine XL_skip2 rfl rfl (by kernel_rfl) rfl ?_
           refine XL_skip2 rfl rfl (by kernel_rfl) rfl ?_
           refine XL_skip2 rfl rfl (by kernel_rfl) rfl ?_
           refine XL_skip2 rfl rfl (by kernel_rfl) rfl ?_
           refine XL_skip2 rfl rfl (by kernel_rfl) rfl ?_
           refine XL_skip2 rfl rfl (by kernel_rfl) rfl ?_
           refine XL_skip2 rfl rfl (by kernel_rfl) rfl ?_
           refine XL_skip2 rfl rfl (by kernel_rfl) rfl ?_
           refine XL_skipF _ rfl rfl (by kernel_rfl) hc74 rfl ?_
           refine XL_cons rfl (X_of_Y0 rfl (Y0_pickTe (b := bif b72 then (ltI y5.2.2 y57.1) else false) (p := true) rfl (by kernel_rfl) hc74 (by kernel_rfl) hb80)) ?_
           exact XE
          ·have hb80 := of_false hb80 hc74
           obtain ⟨b79, hb79, hb80⟩ := of_bind hb80
           have hb80 := some_inj hb80
           refine XL_takeC _ rfl rfl (by kernel_rfl) hc74 (X_of_Y0 rfl (E_move (Bo y57.2) rfl (by kernel_rfl))) ?_
           refine XL_takeC _ rfl rfl (by kernel_rfl) hc74 (X_of_Y0 rfl (Y0_not (b := y57.2) rfl (by kernel_rfl))) ?_
           refine XL_takeC _ rfl rfl (by kernel_rfl) hc74 (X_of_Y0 rfl (E_move (Bo (!y57.2)) rfl (by kernel_rfl))) ?_
           refine XL_split (!y57.2) (fun hc75 => ?_) (fun hc75 => ?_)
           ·have hb79 := of_true hb79 hc75
            obtain ⟨e76, he76, hb79⟩ := of_bind hb79
            obtain ⟨e77, he77, hb79⟩ := of_bind hb79
            obtain ⟨e78, he78, hb79⟩ := of_bind hb79
            have hb79 := some_inj hb79
            refine XL_takeC _ rfl rfl (by kernel_rfl) hc75 (X_of_Y0 rfl (E_move (.ow 360) rfl (by kernel_rfl))) ?_
            refine XL_takeC _ rfl rfl (by kernel_rfl) hc75 (X_of_Y0 rfl (E_move (I i21) rfl (by kernel_rfl))) ?_
            refine XL_takeC _ rfl rfl (by kernel_rfl) hc75 (X_of_Y0 rfl (Y0_idxoM (c := c47) (xs := y6.1) (v := e76) (id := 360) (T := 47) (sz := 1) (n := i21) Try.underlying39 sz47 rfl (by kernel_rfl) (by kernel_rfl) (by kernel_rfl) he76)) ?_
            refine XL_takeC _ rfl rfl (by kernel_rfl) hc75 (X_of_Y0 rfl (Y0_loado1 (c := c47) (xs := y6.1) (v := e77) (id := 360) (sz := 1) (T := 47) (off := 0) (n := i21) (d := .sl (e77.map c3)) (ds := []) sc47 rfl (by kernel_rfl) (by kernel_rfl) he77 (by kernel_rfl))) ?_
            refine XL_takeC _ rfl rfl (by kernel_rfl) hc75 (X_of_Y0 rfl (E_move (I j52) rfl (by kernel_rfl))) ?_
            refine XL_takeC _ rfl rfl (by kernel_rfl) hc75 (X_of_Y0 rfl (Y0_idxM (c := c3) (xs := e77) (v := e78) (n := j52) Try.underlying47 sz3 rfl (by kernel_rfl) (by kernel_rfl) he78)) ?_
            refine XL_takeC _ rfl rfl (by kernel_rfl) hc75 (X_of_Y0 rfl (Y0_load1 (c := Ti e78) (cs := []) sc3 rfl (by kernel_rfl))) ?_
            refine XL_takeC _ rfl rfl (by kernel_rfl) hc75 (X_of_Y0 rfl (Y0_gtw (k := .i64) (a := e78) (b := 0) rfl (by kernel_rfl) (by kernel_rfl))) ?_
            refine XL_takeC _ rfl rfl (by kernel_rfl) hc74 (X_of_Y0 rfl (Y0_pickTe (b := !y57.2) (p := ltI 0 e78) rfl (by kernel_rfl) hc75 (by kernel_rfl) hb79)) ?_
            refine XL_cons rfl (X_of_Y0 rfl (Y0_pickFe (b := bif b72 then (ltI y5.2.2 y57.1) else false) (p := b79) rfl (by kernel_rfl) hc74 (by kernel_rfl) hb80)) ?_
            exact XE
           ·have hb79 := some_inj (of_false hb79 hc75)
            refine XL_skipT _ rfl rfl (by kernel_rfl) hc75 rfl ?_
            refine XL_skipT _ rfl rfl (by kernel_rfl) hc75 rfl ?_
            refine XL_skipT _ rfl rfl (by kernel_rfl) hc75 rfl ?_
            refine XL_skipT _ rfl rfl (by kernel_rfl) hc75 rfl ?_
            refine XL_skipT _ rfl rfl (by kernel_rfl) hc75 rfl ?_
            refine XL_skipT _ rfl rfl (by kernel_rfl) hc75 rfl ?_
            refine XL_skipT _ rfl rfl (by kernel_rfl) hc75 rfl ?_
            refine XL_skipT _ rfl rfl (by kernel_rfl) hc75 rfl ?_
            refine XL_takeC _ rfl rfl (by kernel_rfl) hc74 (X_of_Y0 rfl (Y0_pickFe (b := !y57.2) (p := false) rfl (by kernel_rfl) hc75 (by kernel_rfl) hb79)) ?_
            refine XL_cons rfl (X_of_Y0 rfl (Y0_pickFe (b := bif b72 then (ltI y5.2.2 y57.1) else false) (p := b79) rfl (by kernel_rfl) hc74 (by kernel_rfl) hb80)) ?_
            exact XE
         ·refine XL_skipT _ rfl rfl (by kernel_rfl) hc73 rfl ?_
          refine XL_skipT _ rfl rfl (by kernel_rfl) hc73 rfl ?_
          refine XL_skipT _ rfl rfl (by kernel_rfl) hc73 rfl ?_
          refine XL_cons rfl (X_of_Y0 rfl (Y0_pick0 (b := b72) (p := ltI y5.2.2 y57.1) (q := false) rfl (by kernel_rfl) hc73 (by kernel_rfl))) ?_
          refine XR 1 ?_
          refine XL_split (bif b72 then (ltI y5.2.2 y57.1) else false) (fun hc74 => ?_) (fun hc74 => ?_)
          ·have hb80 := some_inj (of_true hb80 hc74)
           refine XL_skipF _ rfl rfl (by kernel_rfl) hc74 rfl ?_
           refine XL_skipF _ rfl rfl (by kernel_rfl) hc74 rfl ?_
           refine XL_skipF _ rfl rfl (by kernel_rfl) hc74 rfl ?_
           refine XL_skip2 rfl rfl (by kernel_rfl) rfl ?_
           refine XL_skip2 rfl rfl (by kernel_rfl) rfl ?_
           refine XL_skip2 rfl rfl (by kernel_rfl) rfl ?_
           refine XL_skip2 rfl rfl (by kernel_rfl) rfl ?_
           refine XL_skip2 rfl rfl (by kernel_rfl) rfl ?_
           refine XL_skip2 rfl rfl (by kernel_rfl) rfl ?_
           refine XL_skip2 rfl rfl (by kernel_rfl) rfl ?_
           refine XL_skip2 rfl rfl (by kernel_rfl) rfl ?_
           refine XL_skipF _ rfl rfl (by kernel_rfl) hc74 rfl ?_
           refine XL_cons rfl (X_of_Y0 rfl (Y0_pickTe (b := bif b72 then (ltI y5.2.2 y57.1) else false) (p := true) rfl (by kernel_rfl) hc74 (by kernel_rfl) hb80)) ?_
           exact XE
          ·have hb80 := of_false hb80 hc74
           obtain ⟨b79, hb79, hb80⟩ := of_bind hb80
           have hb80 := some_inj hb80
           refine XL_takeC _ rfl rfl (by kernel_rfl) hc74 (X_of_Y0 rfl (E_move (Bo y57.2) rfl (by kernel_rfl))) ?_
           refine XL_takeC _ rfl rfl (by kernel_rfl) hc74 (X_of_Y0 rfl (Y0_not (b := y57.2) rfl (by kernel_rfl))) ?_
           refine XL_takeC _ rfl rfl (by kernel_rfl) hc74 (X_of_Y0 rfl (E_move (Bo (!y57.2)) rfl (by kernel_rfl))) ?_
           refine XL_split (!y57.2) (fun hc75 => ?_) (fun hc75 => ?_)
           ·have hb79 := of_true hb79 hc75
            obtain ⟨e76, he76, hb79⟩ := of_bind hb79
            obtain ⟨e77, he77, hb79⟩ := of_bind hb79
            obtain ⟨e78, he78, hb79⟩ := of_bind hb79
            have hb79 := some_inj hb79
            refine XL_takeC _ rfl rfl (by kernel_rfl) hc75 (X_of_Y0 rfl (E_move (.ow 360) rfl (by kernel_rfl))) ?_
            refine XL_takeC _ rfl rfl (by kernel_rfl) hc75 (X_of_Y0 rfl (E_move (I i21) rfl (by kernel_rfl))) ?_
            refine XL_takeC _ rfl rfl (by kernel_rfl) hc75 (X_of_Y0 rfl (Y0_idxoM (c := c47) (xs := y6.1) (v := e76) (id := 360) (T := 47) (sz := 1) (n := i21) Try.underlying39 sz47 rfl (by kernel_rfl) (by kernel_rfl) (by kernel_rfl) he76)) ?_
            refine XL_takeC _ rfl rfl (by kernel_rfl) hc75 (X_of_Y0 rfl (Y0_loado1 (c := c47) (xs := y6.1) (v := e77) (id := 360) (sz := 1) (T := 47) (off := 0) (n := i21) (d := .sl (e77.map c3)) (ds := []) sc47 rfl (by kernel_rfl) (by kernel_rfl) he77 (by kernel_rfl))) ?_
            refine XL_takeC _ rfl rfl (by kernel_rfl) hc75 (X_of_Y0 rfl (E_move (I j52) rfl (by kernel_rfl))) ?_
            refine XL_takeC _ rfl rfl (by kernel_rfl) hc75 (X_of_Y0 rfl (Y0_idxM (c := c3) (xs := e77) (v := e78) (n := j52) Try.underlying47 sz3 rfl (by kernel_rfl) (by kernel_rfl) he78)) ?_
            refine XL_takeC _ rfl rfl (by kernel_rfl) hc75 (X_of_Y0 rfl (Y0_load1 (c := Ti e78) (cs := []) sc3 rfl (by kernel_rfl))) ?_
            refine XL_takeC _ rfl rfl (by kernel_rfl) hc75 (X_of_Y0 rfl (Y0_gtw (k := .i64) (a := e78) (b := 0) rfl (by kernel_rfl) (by kernel_rfl))) ?_
            refine XL_takeC _ rfl rfl (by kernel_rfl) hc74 (X_of_Y0 rfl (Y0_pickTe (b := !y57.2) (p := ltI 0 e78) rfl (by kernel_rfl) hc75 (by kernel_rfl) hb79)) ?_
            refine XL_cons rfl (X_of_Y0 rfl (Y0_pickFe (b := bif b72 then (ltI y5.2.2 y57.1) else false) (p := b79) rfl (by kernel_rfl) hc74 (by kernel_rfl) hb80)) ?_
            exact XE
           ·have hb79 := some_inj (of_false hb79 hc75)
            refine XL_skipT _ rfl rfl (by kernel_rfl) hc75 rfl ?_
            refine XL_skipT _ rfl rfl (by kernel_rfl) hc75 rfl ?_
            refine XL_skipT _ rfl rfl (by kernel_rfl) hc75 rfl ?_
            refine XL_skipT _ rfl rfl (by kernel_rfl) hc75 rfl ?_
            refine XL_skipT _ rfl rfl (by kernel_rfl) hc75 rfl ?_
            refine XL_skipT _ rfl rfl (by kernel_rfl) hc75 rfl ?_
            refine XL_skipT _ rfl rfl (by kernel_rfl) hc75 rfl ?_
            refine XL_skipT _ rfl rfl (by kernel_rfl) hc75 rfl ?_
            refine XL_takeC _ rfl rfl (by kernel_rfl) hc74 (X_of_Y0 rfl (Y0_pickFe (b := !y57.2) (p := false) rfl (by kernel_rfl) hc75 (by kernel_rfl) hb79)) ?_
            refine XL_cons rfl (X_of_Y0 rfl (Y0_pickFe (b := bif b72 then (ltI y5.2.2 y57.1) else false) (p := b79) rfl (by kernel_rfl) hc74 (by kernel_rfl) hb80)) ?_
            exact XE
       refine V_cond rfl (fun hc81 => ?_) (fun hc81 => ?_)
       ·have h := of_true h hc81
        refine V_e (mb 265 16) [] (s1 := ⟨bt 4 (Bo false :: bt 260 []), []⟩) ?_
        refine V_ret ?_
        obtain rfl := some_inj h
        show Post _ _ _ _ _
        exact ⟨.inr rfl, rfl, rfl, rfl⟩
       ·have h := of_false h hc81
        refine V_skip ?_
        show V _ _ _ _
        refine V_e (mb 265 692142080) [1512, 592] (s1 := ⟨bt 14 (.ow 592 :: .bot :: I i21 :: bt 5 (I j52 :: .bot :: Bo y57.2 :: .bot :: .bot :: .ow 1512 :: .bot :: I 0 :: bt 235 [])), [(1512, .arr 44 1 (y63.1.map c44)), (592, .arr 25 3 (y14.1.map c25))]⟩) ?_
        refine V_seq ?_
        refine V_sreg (mb 265 193248897710135786048173164143756712668631051220770823544550678824304640) [1512, 592] (s1 := ⟨bt 14 (.ow 592 :: .bot :: I i21 :: bt 5 (I j52 :: .bot :: Bo y57.2 :: bt 4 (I 0 :: bt 204 (.ow 1512 :: I ((y63.1.length : Int)) :: I 0 :: bt 28 [])))), [(1512, .arr 44 1 (y63.1.map c44)), (592, .arr 25 3 (y14.1.map c25))]⟩) ?_ ?_
        ·refine XR 1 ?_
         refine L0 rfl rfl (Y0_lenM (c := c44) (xs := y63.1) Try.underlying49 rfl (by kernel_rfl)) ?_
         exact XE
        obtain ⟨qo85, hLo85, hko85⟩ := of_bind h
        refine V_toS (q := qo85) (S := fun o85 => ⟨bt 14 (.ow 592 :: bt 14 (I o85 :: bt 235 [])), [(592, .arr 25 3 (y14.1.map c25))]⟩) (mb 265 536887296) [592] ?_ ?_
        ·refine V_block (V_loop (fun n s => ∃ (count82 : Int) (t83 : Int), s.keep (mb 265 193248897710135786048173164143756712668631051220770823544550678824304640) [1512, 592] = (⟨bt 14 (.ow 592 :: .bot :: I i21 :: bt 5 (I j52 :: .bot :: Bo y57.2 :: bt 4 (I count82 :: bt 204 (.ow 1512 :: I ((y63.1.length : Int)) :: I t83 :: bt 28 [])))), [(1512, .arr 44 1 (y63.1.map c44)), (592, .arr 25 3 (y14.1.map c25))]⟩ : St) ∧ r_laws_FnWalks_L84 i21 j52 y14 y57 y63 n count82 t83 = some qo85) FU ⟨_, _,  by rfl, hLo85⟩ ?_)
         clear hLo85
         rintro n s ⟨count82, t83, hs, h⟩
         refine V_keep _ _ hs ?_
         clear hs
         cases n with
         | zero => cases h
         | succ n =>
          rw [r_laws_FnWalks_L84] at h
          refine V_e (mb 265 414104780807433827246085351736621527147066538330223193309751453985882112) [1512, 592] (s1 := ⟨bt 14 (.ow 592 :: .bot :: I i21 :: bt 5 (I j52 :: .bot :: Bo y57.2 :: bt 4 (I count82 :: bt 204 (.ow 1512 :: I ((y63.1.length : Int)) :: I t83 :: Bo (ltI t83 ((y63.1.length : Int))) :: bt 27 [])))), [(1512, .arr 44 1 (y63.1.map c44)), (592, .arr 25 3 (y14.1.map c25))]⟩) ?_
          refine V_seq ?_
          refine V_cond rfl (fun hc86 => ?_) (fun hc86 => ?_)
          ·have h := of_true h hc86
           refine V_skip ?_
           show V _ _ _ _
           refine V_seq ?_
           refine V_block ?_
           obtain ⟨e87, he87, h⟩ := of_bind h
           obtain ⟨e88, he88, h⟩ := of_bind h
           refine V_sreg (mb 265 193248897710135786048173164143756712668631051220770823544550680971788288) [1512, 592] (s1 := ⟨bt 14 (.ow 592 :: .bot :: I i21 :: bt 5 (I j52 :: .bot :: Bo y57.2 :: bt 4 (I count82 :: .bot :: .c (.sl (e88.map c25)) :: bt 202 (.ow 1512 :: I ((y63.1.length : Int)) :: I t83 :: bt 28 [])))), [(1512, .arr 44 1 (y63.1.map c44)), (592, .arr 25 3 (y14.1.map c25))]⟩) ?_ ?_
           ·refine L0 rfl rfl (Y0_idxoM (c := c44) (xs := y63.1) (v := e87) (id := 1512) (T := 44) (sz := 1) (n := t83) Try.underlying49 sz44 rfl (by kernel_rfl) (by kernel_rfl) (by kernel_rfl) he87) ?_
            refine L0 rfl rfl (Y0_loado1 (c := c44) (xs := y63.1) (v := e88) (id := 1512) (sz := 1) (T := 44) (off := 0) (n := t83) (d := .sl (e88.map c25)) (ds := []) sc44 rfl (by kernel_rfl) (by kernel_rfl) he88 (by kernel_rfl)) ?_
            exact XE
           obtain ⟨count89, hcount89, h⟩ := of_sI h
           refine V_sreg (mb 265 193248897710135786048173164143756712668631051220770823544550680971788288) [1512, 592] (s1 := ⟨bt 14 (.ow 592 :: .bot :: I i21 :: bt 5 (I j52 :: .bot :: Bo y57.2 :: bt 4 (I count89 :: .bot :: .c (.sl (e88.map c25)) :: bt 202 (.ow 1512 :: I ((y63.1.length : Int)) :: I t83 :: bt 28 [])))), [(1512, .arr 44 1 (y63.1.map c44)), (592, .arr 25 3 (y14.1.map c25))]⟩) ?_ ?_
           ·refine XR 2 ?_
            refine L0 rfl rfl (Y0_lenM (c := c25) (xs := e88) Try.underlying44 rfl (by kernel_rfl)) ?_
            refine XR 2 ?_
            refine XL_nil ?_
            subst hcount89
            kernel_rfl
           obtain ⟨b97, hb97, h⟩ := of_bind h
           refine V_sdreg [0, 1, 3, 3, 3, 27, 59, 127, 3, 3, 3, 1539, 3587, 8191, 16383, 32767] 16 (cdm 16 [0, 1, 44706437, 44696101, 44695717, 44695909, 44696933, 44701013, 44608165, 2271909, 699045, 1485477, 5679781, 22369621, 89478485, 357913941]) (mb 265 926336907147427273524353928242667406582872545956175733086484216613983861424128) [1512, 592] (s1 := ⟨bt 14 (.ow 592 :: .bot :: I i21 :: bt 5 (I j52 :: .bot :: Bo y57.2 :: bt 4 (I count89 :: bt 204 (.ow 1512 :: I ((y63.1.length : Int)) :: I t83 :: bt 22 (Bo b97 :: bt 5 []))))), [(1512, .arr 44 1 (y63.1.map c44)), (592, .arr 25 3 (y14.1.map c25))]⟩) (by kernel_rfl) (by kernel_rfl) ?_ ?_
           ·refine DR 2 ?_
            refine DL_split y57.2 (fun hc90 => ?_) (fun hc90 => ?_)
            ·have hb97 := of_true hb97 hc90
             obtain ⟨e91, he91, hb97⟩ := of_bind hb97
             obtain ⟨e92, he92, hb97⟩ := of_bind hb97
             obtain ⟨y93, hy93, hb97⟩ := of_bind hb97
             obtain ⟨e94, he94, hb97⟩ := of_bind hb97
             obtain ⟨e95, he95, hb97⟩ := of_bind hb97
             obtain ⟨y96, hy96, hb97⟩ := of_bind hb97
             have hb97 := some_inj hb97
             refine DE_0 2 (.c (.sl (e88.map c25))) (by kernel_rfl) rfl rfl rfl (gsat_C (y57.2) rfl rfl (by kernel_rfl) hc90) (by kernel_rfl) (E_move (.c (.sl (e88.map c25))) rfl (by kernel_rfl)) 246 rfl ?_
             refine DE_0 3 (.ow 592) (by kernel_rfl) rfl rfl rfl (gsat_C (y57.2) rfl rfl (by kernel_rfl) hc90) (by kernel_rfl) (E_move (.ow 592) rfl (by kernel_rfl)) 247 rfl ?_
             refine DE_0 4 (I i21) (by kernel_rfl) rfl rfl rfl (gsat_C (y57.2) rfl rfl (by kernel_rfl) hc90) (by kernel_rfl) (E_move (I i21) rfl (by kernel_rfl)) 248 rfl ?_
             refine DE_0 5 (.po 592 3 (Int.toNat (i21)) 0) (by kernel_rfl) rfl rfl rfl (gsat_C (y57.2) rfl rfl (by kernel_rfl) hc90) (by kernel_rfl) (Y0_idxoM (c := c25) (xs := y14.1) (v := e91) (id := 592) (T := 25) (sz := 3) (n := i21) Try.underlying44 sz25 rfl (by kernel_rfl) (by kernel_rfl) (by kernel_rfl) he91) 249 rfl ?_
             refine DE_0 6 (.ag [Ti e92.1, Ti e92.2.1, Ti e92.2.2]) (by kernel_rfl) rfl rfl rfl (gsat_C (y57.2) rfl rfl (by kernel_rfl) hc90) (by kernel_rfl) (E_loadon (c := c25) (xs := y14.1) (v := e92) (id := 592) (sz := 3) (T := 25) (off := 0) (n := i21) [Ti e92.1, Ti e92.2.1, Ti e92.2.2] wd25 rfl (by kernel_rfl) (by kernel_rfl) he92 (Nat.le_of_ble_eq_true rfl) (by kernel_rfl)) 250 rfl ?_
             refine DE_1 7 (by kernel_rfl) rfl rfl rfl (gsat_C (y57.2) rfl rfl (by kernel_rfl) hc90) (Y1_call (s_laws_qHas hy93) cf_laws_qHas rfl (by kernel_rfl)) rfl rfl rfl 251 rfl ?_
             refine DE_0 8 (.c (.sl (e88.map c25))) (by kernel_rfl) rfl rfl rfl (gsat_C (y57.2) rfl rfl (by kernel_rfl) hc90) (by kernel_rfl) (E_move (.c (.sl (e88.map c25))) rfl (by kernel_rfl)) 252 rfl ?_
             refine DE_0 9 (.ow 592) (by kernel_rfl) rfl rfl rfl (gsat_C (y57.2) rfl rfl (by kernel_rfl) hc90) (by kernel_rfl) (E_move (.ow 592) rfl (by kernel_rfl)) 253 rfl ?_
             refine DE_0 10 (I j52) (by kernel_rfl) rfl rfl rfl (gsat_C (y57.2) rfl rfl (by kernel_rfl) hc90) (by kernel_rfl) (E_move (I j52) rfl (by kernel_rfl)) 254 rfl ?_
             refine DE_0 11 (.po 592 3 (Int.toNat (j52)) 0) (by kernel_rfl) rfl rfl rfl (gsat_C (y57.2) rfl rfl (by kernel_rfl) hc90) (by kernel_rfl) (Y0_idxoM (c := c25) (xs := y14.1) (v := e94) (id := 592) (T := 25) (sz := 3) (n := j52) Try.underlying44 sz25 rfl (by kernel_rfl) (by kernel_rfl) (by kernel_rfl) he94) 255 rfl ?_
             refine DE_0 12 (.ag [Ti e95.1, Ti e95.2.1, Ti e95.2.2]) (by kernel_rfl) rfl rfl rfl (gsat_C (y57.2) rfl rfl (by kernel_rfl) hc90) (by kernel_rfl) (E_loadon (c := c25) (xs := y14.1) (v := e95) (id := 592) (sz := 3) (T := 25) (off := 0) (n := j52) [Ti e95.1, Ti e95.2.1, Ti e95.2.2] wd25 rfl (by kernel_rfl) (by kernel_rfl) he95 (Nat.le_of_ble_eq_true rfl) (by kernel_rfl)) 256 rfl ?_
             refine DE_1 13 (by kernel_rfl) rfl rfl rfl (gsat_C (y57.2) rfl rfl (by kernel_rfl) hc90) (Y1_call (s_laws_qHas hy96) cf_laws_qHas rfl (by kernel_rfl)) rfl rfl rfl 257 rfl ?_
             refine DE_0 14 (Bo (y93 != y96)) (by kernel_rfl) rfl rfl rfl (gsat_C (y57.2) rfl rfl (by kernel_rfl) hc90) (by kernel_rfl) (Y0_neb (a := y93) (b := y96) Try.underlying4 rfl (by kernel_rfl) (by kernel_rfl)) 258 rfl ?_
             refine DE_0 15 (Bo (b97)) (by kernel_rfl) rfl rfl rfl (gsat_none rfl) (by kernel_rfl) (Y0_pickTe (b := y57.2) (p := y93 != y96) rfl (by kernel_rfl) hc90 (by kernel_rfl) hb97) 259 rfl ?_
             refine DA 0 ?_
             exact XE
            ·have hb97 := some_inj (of_false hb97 hc90)
             refine DE_t 2 (by kernel_rfl) rfl rfl rfl (gun_T (y57.2) rfl rfl (by kernel_rfl) hc90) 246 rfl ?_
             refine DE_t 3 (by kernel_rfl) rfl rfl rfl (gun_T (y57.2) rfl rfl (by kernel_rfl) hc90) 247 rfl ?_
             refine DE_t 4 (by kernel_rfl) rfl rfl rfl (gun_T (y57.2) rfl rfl (by kernel_rfl) hc90) 248 rfl ?_
             refine DE_t 5 (by kernel_rfl) rfl rfl rfl (gun_T (y57.2) rfl rfl (by kernel_rfl) hc90) 249 rfl ?_
             refine DE_t 6 (by kernel_rfl) rfl rfl rfl (gun_T (y57.2) rfl rfl (by kernel_rfl) hc90) 250 rfl ?_
             refine DE_t 7 (by kernel_rfl) rfl rfl rfl (gun_T (y57.2) rfl rfl (by kernel_rfl) hc90) 251 rfl ?_
             refine DE_t 8 (by kernel_rfl) rfl rfl rfl (gun_T (y57.2) rfl rfl (by kernel_rfl) hc90) 252 rfl ?_
             refine DE_t 9 (by kernel_rfl) rfl rfl rfl (gun_T (y57.2) rfl rfl (by kernel_rfl) hc90) 253 rfl ?_
             refine DE_t 10 (by kernel_rfl) rfl rfl rfl (gun_T (y57.2) rfl rfl (by kernel_rfl) hc90) 254 rfl ?_
             refine DE_t 11 (by kernel_rfl) rfl rfl rfl (gun_T (y57.2) rfl rfl (by kernel_rfl) hc90) 255 rfl ?_
             refine DE_t 12 (by kernel_rfl) rfl rfl rfl (gun_T (y57.2) rfl rfl (by kernel_rfl) hc90) 256 rfl ?_
             refine DE_t 13 (by kernel_rfl) rfl rfl rfl (gun_T (y57.2) rfl rfl (by kernel_rfl) hc90) 257 rfl ?_
             refine DE_t 14 (by kernel_rfl) rfl rfl rfl (gun_T (y57.2) rfl rfl (by kernel_rfl) hc90) 258 rfl ?_
             refine DE_0 15 (Bo (b97)) (by kernel_rfl) rfl rfl rfl (gsat_none rfl) (by kernel_rfl) (Y0_pickFe (b := y57.2) (p := false) rfl (by kernel_rfl) hc90 (by kernel_rfl) hb97) 259 rfl ?_
             refine DA 0 ?_
             exact XE
           refine V_cond rfl (fun hc98 => ?_) (fun hc98 => ?_)
           ·have h := of_true h hc98
            refine V_e (mb 265 16) [] (s1 := ⟨bt 4 (Bo false :: bt 260 []), []⟩) ?_
            refine V_ret ?_
            obtain rfl := some_inj h
            have h := hko85
            obtain rfl := some_inj h
            show Post _ _ _ _ _
            exact ⟨.inr rfl, rfl, rfl, rfl⟩
           ·have h := of_false h hc98
            refine V_skip ?_
            show V _ _ _ _
            obtain ⟨t99, ht99, h⟩ := of_sI h
            refine V_reg (mb 265 193248897710135786048173164143756712668631051220770823544550678824304640) [1512, 592] (s1 := ⟨bt 14 (.ow 592 :: .bot :: I i21 :: bt 5 (I j52 :: .bot :: Bo y57.2 :: bt 4 (I count89 :: bt 204 (.ow 1512 :: I ((y63.1.length : Int)) :: I t99 :: bt 28 [])))), [(1512, .arr 44 1 (y63.1.map c44)), (592, .arr 25 3 (y14.1.map c25))]⟩) ?_ ?_
            ·refine XR 2 ?_
             refine XL_nil ?_
             subst ht99
             kernel_rfl
            exact ⟨n, Nat.lt_succ_self n, _, _,  by rfl, h⟩
          ·have h := of_false h hc86
           refine V_exit ?_
           obtain rfl := some_inj h
           exact ⟨_, rfl, by rfl⟩
        rintro o85 rfl
        have h := hko85
        clear hko85
        show V _ _ _ _
        refine V_sreg (mb 265 16) [] (s1 := ⟨bt 4 (Bo (eqI o85 ((y14.1.length : Int))) :: bt 260 []), []⟩) ?_ ?_
        ·refine XR 2 ?_
         refine L0 rfl rfl (Y0_lenM (c := c25) (xs := y14.1) Try.underlying44 rfl (by kernel_rfl)) ?_
         exact XE
        refine V_ret ?_
        obtain rfl := some_inj h
        show Post _ _ _ _ _
        exact ⟨.inr rfl, rfl, rfl, rfl⟩
end Go.Proofs.Ytafomkclmkfjeaa
