/-
  The functions of the program compute what the plain functions say: more of them.
  Conditions: none.
-/
import Derived.Test.YtgeajejmikaniaaLvSnd1
namespace Go.Proofs.Ytgeajejmikaniaa
open Go.RowKit
set_option linter.unusedVariables false
set_option linter.unusedSimpArgs false
set_option maxRecDepth 100000
set_option maxHeartbeats 400000
theorem cf_spec_reIs : ∀ args w, (callFunc 207 args).run Try.prog w = .ok (.enter 207 args) w := run_callFunc Try.func207 (by kernel_rfl) (by kernel_rfl)
theorem s_spec_reIs {f1 : (Int × Int × Int)} {r : Bool} (h : r_spec_reIs f1 = some r) : CallS Try.prog 207 [.ag [Ti f1.1, Ti f1.2.1, Ti f1.2.2]] (Bo r) [] := by
  refine CallS_of_text (rs := [.t 2]) (vs := [.tmp 2]) Try.func207 rfl rfl (.cons rfl FitsL.nil) (by decide) 35 rfl ?_
  unfold r_spec_reIs at h
  show V _ _ ⟨.ag [Ti f1.1, Ti f1.2.1, Ti f1.2.2] :: bt 34 [], []⟩ _
  refine V_e (mb 35 2) [8] (s1 := ⟨.bot :: .pt 8 0 :: bt 33 [], [(8, .box [Ti f1.1, Ti f1.2.1, Ti f1.2.2])]⟩) ?_
  obtain ⟨t6, ht6, h⟩ := of_bind h
  have ht6 := some_inj ht6
  refine V_sreg (mb 35 4) [] (s1 := ⟨.bot :: .bot :: Bo t6 :: bt 32 [], []⟩) ?_ ?_
  ·refine XR 7 ?_
   refine XL_split (ltI (w64 (0 - f1.1)) f1.2.1) (fun hc2 => ?_) (fun hc2 => ?_)
   ·refine XL_takeC _ rfl rfl (by kernel_rfl) hc2 (X_of_Y0 rfl (E_field (.pt 8 1) Try.underlying45 rfl sz3 rfl (by kernel_rfl) (by intro hh; cases hh))) ?_
    refine XL_takeC _ rfl rfl (by kernel_rfl) hc2 (X_of_Y0 rfl (Y0_load1 (c := Ti f1.2.1) (cs := [Ti f1.2.2]) sc3 rfl (by kernel_rfl))) ?_
    refine XL_takeC _ rfl rfl (by kernel_rfl) hc2 (X_of_Y0 rfl (E_field (.pt 8 0) Try.underlying45 rfl sz3 rfl (by kernel_rfl) (by intro hh; cases hh))) ?_
    refine XL_takeC _ rfl rfl (by kernel_rfl) hc2 (X_of_Y0 rfl (Y0_load1 (c := Ti f1.1) (cs := [Ti f1.2.1, Ti f1.2.2]) sc3 rfl (by kernel_rfl))) ?_
    refine XL_takeC _ rfl rfl (by kernel_rfl) hc2 (X_of_Y0 rfl (Y0_lew (k := .i64) (a := f1.2.1) (b := f1.1) rfl (by kernel_rfl) (by kernel_rfl))) ?_
    refine XL_cons rfl (X_of_Y0 rfl (Y0_pick1 (b := ltI (w64 (0 - f1.1)) f1.2.1) (p := leI f1.2.1 f1.1) (q := false) rfl (by kernel_rfl) hc2 (by kernel_rfl))) ?_
    refine XR 1 ?_
    refine XL_split (bif (ltI (w64 (0 - f1.1)) f1.2.1) then (leI f1.2.1 f1.1) else false) (fun hc3 => ?_) (fun hc3 => ?_)
    ·refine XL_takeC _ rfl rfl (by kernel_rfl) hc3 (X_of_Y0 rfl (E_field (.pt 8 0) Try.underlying45 rfl sz3 rfl (by kernel_rfl) (by intro hh; cases hh))) ?_
     refine XL_takeC _ rfl rfl (by kernel_rfl) hc3 (X_of_Y0 rfl (Y0_load1 (c := Ti f1.1) (cs := [Ti f1.2.1, Ti f1.2.2]) sc3 rfl (by kernel_rfl))) ?_
     refine XL_takeC _ rfl rfl (by kernel_rfl) hc3 (X_of_Y0 rfl (E_field (.pt 8 2) Try.underlying45 rfl sz3 rfl (by kernel_rfl) (by intro hh; cases hh))) ?_
     refine XL_takeC _ rfl rfl (by kernel_rfl) hc3 (X_of_Y0 rfl (Y0_load1 (c := Ti f1.2.2) (cs := []) sc3 rfl (by kernel_rfl))) ?_
     refine XL_takeC _ rfl rfl (by kernel_rfl) hc3 (X_of_Y0 rfl (Y0_ltw (k := .i64) (a := f1.1) (b := f1.2.2) rfl (by kernel_rfl) (by kernel_rfl))) ?_
     refine XL_takeC _ rfl rfl (by kernel_rfl) hc3 (X_of_Y0 rfl (E_move (Bo (ltI f1.1 f1.2.2)) rfl (by kernel_rfl))) ?_
     refine XL_split (ltI f1.1 f1.2.2) (fun hc4 => ?_) (fun hc4 => ?_)
     ·refine XL_skipF _ rfl rfl (by kernel_rfl) hc4 rfl ?_
      refine XL_skipF _ rfl rfl (by kernel_rfl) hc4 rfl ?_
      refine XL_skipF _ rfl rfl (by kernel_rfl) hc4 rfl ?_
      refine XL_skipF _ rfl rfl (by kernel_rfl) hc4 rfl ?_
      refine XL_skipF _ rfl rfl (by kernel_rfl) hc4 rfl ?_
      refine XL_skipF _ rfl rfl (by kernel_rfl) hc4 rfl ?_
      refine XL_skip2 rfl rfl (by kernel_rfl) rfl ?_
      refine XL_skip2 rfl rfl (by kernel_rfl) rfl ?_
      refine XL_skip2 rfl rfl (by kernel_rfl) rfl ?_
      refine XL_skipF _ rfl rfl (by kernel_rfl) hc4 rfl ?_
      refine XL_takeC _ rfl rfl (by kernel_rfl) hc3 (X_of_Y0 rfl (Y0_pick1 (b := ltI f1.1 f1.2.2) (p := true) (q := bif (eqI f1.1 f1.2.2) then (leI 0 f1.2.1) else false) rfl (by kernel_rfl) hc4 (by kernel_rfl))) ?_
      refine XL_cons rfl (X_of_Y0 rfl (Y0_pick1 (b := bif (ltI (w64 (0 - f1.1)) f1.2.1) then (leI f1.2.1 f1.1) else false) (p := bif (ltI f1.1 f1.2.2) then true else (bif (eqI f1.1 f1.2.2) then (leI 0 f1.2.1) else false)) (q := false) rfl (by kernel_rfl) hc3 (by kernel_rfl))) ?_
      refine XR 1 ?_
      refine XL_nil ?_
      subst ht6
      kernel_rfl
     ·refine XL_takeC _ rfl rfl (by kernel_rfl) hc4 (X_of_Y0 rfl (E_field (.pt 8 0) Try.underlying45 rfl sz3 rfl (by kernel_rfl) (by intro hh; cases hh))) ?_
      refine XL_takeC _ rfl rfl (by kernel_rfl) hc4 (X_of_Y0 rfl (Y0_load1 (c := Ti f1.1) (cs := [Ti f1.2.1, Ti f1.2.2]) sc3 rfl (by kernel_rfl))) ?_
      refine XL_takeC _ rfl rfl (by kernel_rfl) hc4 (X_of_Y0 rfl (E_field (.pt 8 2) Try.underlying45 rfl sz3 rfl (by kernel_rfl) (by intro hh; cases hh))) ?_
      refine XL_takeC _ rfl rfl (by kernel_rfl) hc4 (X_of_Y0 rfl (Y0_load1 (c := Ti f1.2.2) (cs := []) sc3 rfl (by kernel_rfl))) ?_
      refine XL_takeC _ rfl rfl (by kernel_rfl) hc4 (X_of_Y0 rfl (Y0_eqw (k := .i64) (a := f1.1) (b := f1.2.2) rfl (by kernel_rfl) (by kernel_rfl))) ?_
      refine XL_takeC _ rfl rfl (by kernel_rfl) hc4 (X_of_Y0 rfl (E_move (Bo (eqI f1.1 f1.2.2)) rfl (by kernel_rfl))) ?_
      refine XL_split (eqI f1.1 f1.2.2) (fun hc5 => ?_) (fun hc5 => ?_)
      ·refine XL_takeC _ rfl rfl (by kernel_rfl) hc5 (X_of_Y0 rfl (E_field (.pt 8 1) Try.underlying45 rfl sz3 rfl (by kernel_rfl) (by intro hh; cases hh))) ?_
       refine XL_takeC _ rfl rfl (by kernel_rfl) hc5 (X_of_Y0 rfl (Y0_load1 (c := Ti f1.2.1) (cs := [Ti f1.2.2]) sc3 rfl (by kernel_rfl))) ?_
       refine XL_takeC _ rfl rfl (by kernel_rfl) hc5 (X_of_Y0 rfl (Y0_gew (k := .i64) (a := f1.2.1) (b := 0) rfl (by kernel_rfl) (by kernel_rfl))) ?_
       refine XL_takeC _ rfl rfl (by kernel_rfl) hc4 (X_of_Y0 rfl (Y0_pick1 (b := eqI f1.1 f1.2.2) (p := leI 0 f1.2.1) (q := false) rfl (by kernel_rfl) hc5 (by kernel_rfl))) ?_
       refine XL_takeC _ rfl rfl (by kernel_rfl) hc3 (X_of_Y0 rfl (Y0_pick0 (b := ltI f1.1 f1.2.2) (p := true) (q := bif (eqI f1.1 f1.2.2) then (leI 0 f1.2.1) else false) rfl (by kernel_rfl) hc4 (by kernel_rfl))) ?_
       refine XL_cons rfl (X_of_Y0 rfl (Y0_pick1 (b := bif (ltI (w64 (0 - f1.1)) f1.2.1) then (leI f1.2.1 f1.1) else false) (p := bif (ltI f1.1 f1.2.2) then true else (bif (eqI f1.1 f1.2.2) then (leI 0 f1.2.1) else false)) (q := false) rfl (by kernel_rfl) hc3 (by kernel_rfl))) ?_
       refine XR 1 ?_
       refine XL_nil ?_
       subst ht6
       kernel_rfl
      ·refine XL_skipT _ rfl rfl (by kernel_rfl) hc5 rfl ?_
       refine XL_skipT _ rfl rfl (by kernel_rfl) hc5 rfl ?_
       refine XL_skipT _ rfl rfl (by kernel_rfl) hc5 rfl ?_
       refine XL_takeC _ rfl rfl (by kernel_rfl) hc4 (X_of_Y0 rfl (Y0_pick0 (b := eqI f1.1 f1.2.2) (p := leI 0 f1.2.1) (q := false) rfl (by kernel_rfl) hc5 (by kernel_rfl))) ?_
       refine XL_takeC _ rfl rfl (by kernel_rfl) hc3 (X_of_Y0 rfl (Y0_pick0 (b := ltI f1.1 f1.2.2) (p := true) (q := bif (eqI f1.1 f1.2.2) then (leI 0 f1.2.1) else false) rfl (by kernel_rfl) hc4 (by kernel_rfl))) ?_
       refine XL_cons rfl (X_of_Y0 rfl (Y0_pick1 (b := bif (ltI (w64 (0 - f1.1)) f1.2.1) then (leI f1.2.1 f1.1) else false) (p := bif (ltI f1.1 f1.2.2) then true else (bif (eqI f1.1 f1.2.2) then (leI 0 f1.2.1) else false)) (q := false) rfl (by kernel_rfl) hc3 (by kernel_rfl))) ?_
       refine XR 1 ?_
       refine XL_nil ?_
       subst ht6
       kernel_rfl
    ·refine XL_skipT _ rfl rfl (by kernel_rfl) hc3 rfl ?_
     refine XL_skipT _ rfl rfl (by kernel_rfl) hc3 rfl ?_
     refine XL_skipT _ rfl rfl (by kernel_rfl) hc3 rfl ?_
     refine XL_skipT _ rfl rfl (by kernel_rfl) hc3 rfl ?_
     refine XL_skipT _ rfl rfl (by kernel_rfl) hc3 rfl ?_
     refine XL_skipT _ rfl rfl (by kernel_rfl) hc3 rfl ?_
     refine XL_skip2 rfl rfl (by kernel_rfl) rfl ?_
     refine XL_skip2 rfl rfl (by kernel_rfl) rfl ?_
     refine XL_skip2 rfl rfl (by kernel_rfl) rfl ?_
     refine XL_skip2 rfl rfl (by kernel_rfl) rfl ?_
     refine XL_skip2 rfl rfl (by kernel_rfl) rfl ?_
     refine XL_skip2 rfl rfl (by kernel_rfl) rfl ?_
     refine XL_skip2 rfl rfl (by kernel_rfl) rfl ?_
     refine XL_skip2 rfl rfl (by kernel_rfl) rfl ?_
     refine XL_skip2 rfl rfl (by kernel_rfl) rfl ?_
     refine XL_skip2 rfl rfl (by kernel_rfl) rfl ?_
     refine XL_skipT _ rfl rfl (by kernel_rfl) hc3 rfl ?_
     refine XL_cons rfl (X_of_Y0 rfl (Y0_pick0 (b := bif (ltI (w64 (0 - f1.1)) f1.2.1) then (leI f1.2.1 f1.1) else false) (p := bif (ltI f1.1 f1.2.2) then true else (bif (eqI f1.1 f1.2.2) then (leI 0 f1.2.1) else false)) (q := false) rfl (by kernel_rfl) hc3 (by kernel_rfl))) ?_
     refine XR 1 ?_
     refine XL_nil ?_
     subst ht6
     kernel_rfl
   ·refine XL_skipT _ rfl rfl (by kernel_rfl) hc2 rfl ?_
    refine XL_skipT _ rfl rfl (by kernel_rfl) hc2 rfl ?_
    refine XL_skipT _ rfl rfl (by kernel_rfl) hc2 rfl ?_
    refine XL_skipT _ rfl rfl (by kernel_rfl) hc2 rfl ?_
    refine XL_skipT _ rfl rfl (by kernel_rfl) hc2 rfl ?_
    refine XL_cons rfl (X_of_Y0 rfl (Y0_pick0 (b := ltI (w64 (0 - f1.1)) f1.2.1) (p := leI f1.2.1 f1.1) (q := false) rfl (by kernel_rfl) hc2 (by kernel_rfl))) ?_
    refine XR 1 ?_
    refine XL_split (bif (ltI (w64 (0 - f1.1)) f1.2.1) then (leI f1.2.1 f1.1) else false) (fun hc3 => ?_) (fun hc3 => ?_)
    ·refine XL_takeC _ rfl rfl (by kernel_rfl) hc3 (X_of_Y0 rfl (E_field (.pt 8 0) Try.underlying45 rfl sz3 rfl (by kernel_rfl) (by intro hh; cases hh))) ?_
     refine XL_takeC _ rfl rfl (by kernel_rfl) hc3 (X_of_Y0 rfl (Y0_load1 (c := Ti f1.1) (cs := [Ti f1.2.1, Ti f1.2.2]) sc3 rfl (by kernel_rfl))) ?_
     refine XL_takeC _ rfl rfl (by kernel_rfl) hc3 (X_of_Y0 rfl (E_field (.pt 8 2) Try.underlying45 rfl sz3 rfl (by kernel_rfl) (by intro hh; cases hh))) ?_
     refine XL_takeC _ rfl rfl (by kernel_rfl) hc3 (X_of_Y0 rfl (Y0_load1 (c := Ti f1.2.2) (cs := []) sc3 rfl (by kernel_rfl))) ?_
     refine XL_takeC _ rfl rfl (by kernel_rfl) hc3 (X_of_Y0 rfl (Y0_ltw (k := .i64) (a := f1.1) (b := f1.2.2) rfl (by kernel_rfl) (by kernel_rfl))) ?_
     refine XL_takeC _ rfl rfl (by kernel_rfl) hc3 (X_of_Y0 rfl (E_move (Bo (ltI f1.1 f1.2.2)) rfl (by kernel_rfl))) ?_
     refine XL_split (ltI f1.1 f1.2.2) (fun hc4 => ?_) (fun hc4 => ?_)
     ·refine XL_skipF _ rfl rfl (by kernel_rfl) hc4 rfl ?_
      refine XL_skipF _ rfl rfl (by kernel_rfl) hc4 rfl ?_
      refine XL_skipF _ rfl rfl (by kernel_rfl) hc4 rfl ?_
      refine XL_skipF _ rfl rfl (by kernel_rfl) hc4 rfl ?_
      refine XL_skipF _ rfl rfl (by kernel_rfl) hc4 rfl ?_
      refine XL_skipF _ rfl rfl (by kernel_rfl) hc4 rfl ?_
      refine XL_skip2 rfl rfl (by kernel_rfl) rfl ?_
      refine XL_skip2 rfl rfl (by kernel_rfl) rfl ?_
      refine XL_skip2 rfl rfl (by kernel_rfl) rfl ?_
      refine XL_skipF _ rfl rfl (by kernel_rfl) hc4 rfl ?_
      refine XL_takeC _ rfl rfl (by kernel_rfl) hc3 (X_of_Y0 rfl (Y0_pick1 (b := ltI f1.1 f1.2.2) (p := true) (q := bif (eqI f1.1 f1.2.2) then (leI 0 f1.2.1) else false) rfl (by kernel_rfl) hc4 (by kernel_rfl))) ?_
      refine XL_cons rfl (X_of_Y0 rfl (Y0_pick1 (b := bif (ltI (w64 (0 - f1.1)) f1.2.1) then (leI f1.2.1 f1.1) else false) (p := bif (ltI f1.1 f1.2.2) then true else (bif (eqI f1.1 f1.2.2) then (leI 0 f1.2.1) else false)) (q := false) rfl (by kernel_rfl) hc3 (by kernel_rfl))) ?_
      refine XR 1 ?_
      refine XL_nil ?_
      subst ht6
      kernel_rfl
     ·refine XL_takeC _ rfl rfl (by kernel_rfl) hc4 (X_of_Y0 rfl (E_field (.pt 8 0) Try.underlying45 rfl sz3 rfl (by kernel_rfl) (by intro hh; cases hh))) ?_
      refine XL_takeC _ rfl rfl (by kernel_rfl) hc4 (X_of_Y0 rfl (Y0_load1 (c := Ti f1.1) (cs := [Ti f1.2.1, Ti f1.2.2]) sc3 rfl (by kernel_rfl))) ?_
      refine XL_takeC _ rfl rfl (by kernel_rfl) hc4 (X_of_Y0 rfl (E_field (.pt 8 2) Try.underlying45 rfl sz3 rfl (by kernel_rfl) (by intro hh; cases hh))) ?_
      refine XL_takeC _ rfl rfl (by kernel_rfl) hc4 (X_of_Y0 rfl (Y0_load1 (c := Ti f1.2.2) (cs := []) sc3 rfl (by kernel_rfl))) ?_
      refine XL_takeC _ rfl rfl (by kernel_rfl) hc4 (X_of_Y0 rfl (Y0_eqw (k := .i64) (a := f1.1) (b := f1.2.2) rfl (by kernel_rfl) (by kernel_rfl))) ?_
      refine XL_takeC _ rfl rfl (by kernel_rfl) hc4 (X_of_Y0 rfl (E_move (Bo (eqI f1.1 f1.2.2)) rfl (by kernel_rfl))) ?_
      refine XL_split (eqI f1.1 f1.2.2) (fun hc5 => ?_) (fun hc5 => ?_)
      ·refine XL_takeC _ rfl rfl (by kernel_rfl) hc5 (X_of_Y0 rfl (E_field (.pt 8 1) Try.underlying45 rfl sz3 rfl (by kernel_rfl) (by intro hh; cases hh))) ?_
       refine XL_takeC _ rfl rfl (by kernel_rfl) hc5 (X_of_Y0 rfl (Y0_load1 (c := Ti f1.2.1) (cs := [Ti f1.2.2]) sc3 rfl (by kernel_rfl))) ?_
       refine XL_takeC _ rfl rfl (by kernel_rfl) hc5 (X_of_Y0 rfl (Y0_gew (k := .i64) (a := f1.2.1) (b := 0) rfl (by kernel_rfl) (by kernel_rfl))) ?_
       refine XL_takeC _ rfl rfl (by kernel_rfl) hc4 (X_of_Y0 rfl (Y0_pick1 (b := eqI f1.1 f1.2.2) (p := leI 0 f1.2.1) (q := false) rfl (by kernel_rfl) hc5 (by kernel_rfl))) ?_
       refine XL_takeC _ rfl rfl (by kernel_rfl) hc3 (X_of_Y0 rfl (Y0_pick0 (b := ltI f1.1 f1.2.2) (p := true) (q := bif (eqI f1.1 f1.2.2) then (leI 0 f1.2.1) else false) rfl (by kernel_rfl) hc4 (by kernel_rfl))) ?_
       refine XL_cons rfl (X_of_Y0 rfl (Y0_pick1 (b := bif (ltI (w64 (0 - f1.1)) f1.2.1) then (leI f1.2.1 f1.1) else false) (p := bif (ltI f1.1 f1.2.2) then true else (bif (eqI f1.1 f1.2.2) then (leI 0 f1.2.1) else false)) (q := false) rfl (by kernel_rfl) hc3 (by kernel_rfl))) ?_
       refine XR 1 ?_
       refine XL_nil ?_
       subst ht6
       kernel_rfl
      ·refine XL_skipT _ rfl rfl (by kernel_rfl) hc5 rfl ?_
       refine XL_skipT _ rfl rfl (by kernel_rfl) hc5 rfl ?_
       refine XL_skipT _ rfl rfl (by kernel_rfl) hc5 rfl ?_
       refine XL_takeC _ rfl rfl (by kernel_rfl) hc4 (X_of_Y0 rfl (Y0_pick0 (b := eqI f1.1 f1.2.2) (p := leI 0 f1.2.1) (q := false) rfl (by kernel_rfl) hc5 (by kernel_rfl))) ?_
       refine XL_takeC _ rfl rfl (by kernel_rfl) hc3 (X_of_Y0 rfl (Y0_pick0 (b := ltI f1.1 f1.2.2) (p := true) (q := bif (eqI f1.1 f1.2.2) then (leI 0 f1.2.1) else false) rfl (by kernel_rfl) hc4 (by kernel_rfl))) ?_
       refine XL_cons rfl (X_of_Y0 rfl (Y0_pick1 (b := bif (ltI (w64 (0 - f1.1)) f1.2.1) then (leI f1.2.1 f1.1) else false) (p := bif (ltI f1.1 f1.2.2) then true else (bif (eqI f1.1 f1.2.2) then (leI 0 f1.2.1) else false)) (q := false) rfl (by kernel_rfl) hc3 (by kernel_rfl))) ?_
       refine XR 1 ?_
       refine XL_nil ?_
       subst ht6
       kernel_rfl
    ·refine XL_skipT _ rfl rfl (by kernel_rfl) hc3 rfl ?_
     refine XL_skipT _ rfl rfl (by kernel_rfl) hc3 rfl ?_
     refine XL_skipT _ rfl rfl (by kernel_rfl) hc3 rfl ?_
     refine XL_skipT _ rfl rfl (by kernel_rfl) hc3 rfl ?_
     refine XL_skipT _ rfl rfl (by kernel_rfl) hc3 rfl ?_
     refine XL_skipT _ rfl rfl (by kernel_rfl) hc3 rfl ?_
     refine XL_skip2 rfl rfl (by kernel_rfl) rfl ?_
     refine XL_skip2 rfl rfl (by kernel_rfl) rfl ?_
     refine XL_skip2 rfl rfl (by kernel_rfl) rfl ?_
     refine XL_skip2 rfl rfl (by kernel_rfl) rfl ?_
     refine XL_skip2 rfl rfl (by kernel_rfl) rfl ?_
     refine XL_skip2 rfl rfl (by kernel_rfl) rfl ?_
     refine XL_skip2 rfl rfl (by kernel_rfl) rfl ?_
     refine XL_skip2 rfl rfl (by kernel_rfl) rfl ?_
     refine XL_skip2 rfl rfl (by kernel_rfl) rfl ?_
     refine XL_skip2 rfl rfl (by kernel_rfl) rfl ?_
     refine XL_skipT _ rfl rfl (by kernel_rfl) hc3 rfl ?_
     refine XL_cons rfl (X_of_Y0 rfl (Y0_pick0 (b := bif (ltI (w64 (0 - f1.1)) f1.2.1) then (leI f1.2.1 f1.1) else false) (p := bif (ltI f1.1 f1.2.2) then true else (bif (eqI f1.1 f1.2.2) then (leI 0 f1.2.1) else false)) (q := false) rfl (by kernel_rfl) hc3 (by kernel_rfl))) ?_
     refine XR 1 ?_
     refine XL_nil ?_
     subst ht6
     kernel_rfl
  refine V_ret ?_
  obtain rfl := some_inj h
  show Post _ _ _ _ _
  exact ⟨.inr rfl, rfl, rfl, rfl⟩
theorem cf_spec_reAll : ∀ args w, (callFunc 163 args).run Try.prog w = .ok (.enter 163 args) w := run_callFunc Try.func163 (by kernel_rfl) (by kernel_rfl)
theorem s_spec_reAll {d1 : Int} {r : List ((Int × Int × Int))} (h : r_spec_reAll d1 = some r) : CallS Try.prog 163 [I d1] (.ow 0) [(0, .arr 45 3 (r.map c45))] := by
  refine CallS_of_text (rs := [.t 2]) (vs := [.tmp 2]) Try.func163 rfl rfl (.cons rfl FitsL.nil) (by decide) 47 rfl ?_
  unfold r_spec_reAll at h
  show V _ _ ⟨I d1 :: bt 46 [], []⟩ _
  refine V_sreg (mb 47 1) [] (s1 := ⟨I d1 :: bt 46 [], []⟩) ?_ ?_
  ·refine L1 rfl rfl (Y1_nil (e := 45) 3 (by decide) (.inl rfl)) ?_
   exact XE
  refine V_sreg (mb 47 9) [24] (s1 := ⟨I d1 :: .bot :: .bot :: .ow 24 :: bt 43 [], [(24, .arr 45 3 ((([] : List ((Int × Int × Int)))).map c45))]⟩) ?_ ?_
  ·refine L1 rfl rfl (Y1_nil (e := 45) 3 (by decide) (.inl rfl)) ?_
   exact XE
  refine V_seq ?_
  refine V_e (mb 47 25) [24] (s1 := ⟨I d1 :: .bot :: .bot :: .ow 24 :: I 1 :: bt 42 [], [(24, .arr 45 3 ((([] : List ((Int × Int × Int)))).map c45))]⟩) ?_
  obtain ⟨o5, hLo5, h⟩ := of_bind h
  refine V_toK (mb 47 8) [24] (s1 := ⟨bt 3 (.ow 24 :: bt 43 []), [(24, .arr 45 3 (o5.map c45))]⟩) ?_ ?_
  ·clear h
   refine V_block (V_loop (fun n s => ∃ (a2 : Int) (l3 : List ((Int × Int × Int))), s.keep (mb 47 25) [24] = (⟨I d1 :: .bot :: .bot :: .ow 24 :: I a2 :: bt 42 [], [(24, .arr 45 3 (l3.map c45))]⟩ : St) ∧ r_spec_reAll_L4 d1 n a2 l3 = some o5) FU ⟨_, _,  by rfl, hLo5⟩ ?_)
   clear hLo5
   rintro n s ⟨a2, l3, hs, h⟩
   refine V_keep _ _ hs ?_
   clear hs
   cases n with
   | zero => cases h
   | succ n =>
    rw [r_spec_reAll_L4] at h
    refine V_seq ?_
    refine V_e (mb 47 8217) [24] (s1 := ⟨I d1 :: .bot :: .bot :: .ow 24 :: I a2 :: bt 8 (Bo (leI (w64 ((w64 (3 * a2)) * a2)) (w64 (0 - d1))) :: bt 33 []), [(24, .arr 45 3 (l3.map c45))]⟩) ?_
    refine V_cond rfl (fun hc6 => ?_) (fun hc6 => ?_)
    ·have h := of_true h hc6
     refine V_skip ?_
     show V _ _ _ _
     refine V_seq ?_
     refine V_block ?_
     obtain ⟨b7, hb7, h⟩ := of_sI h
     refine V_sreg (mb 47 57) [24] (s1 := ⟨I d1 :: .bot :: .bot :: .ow 24 :: I a2 :: I b7 :: bt 41 [], [(24, .arr 45 3 (l3.map c45))]⟩) ?_ ?_
     ·refine XR 3 ?_
      refine XL_nil ?_
      subst hb7
      kernel_rfl
     obtain ⟨o11, hLo11, h⟩ := of_bind h
     refine V_toK (mb 47 25) [24] (s1 := ⟨I d1 :: .bot :: .bot :: .ow 24 :: I a2 :: bt 42 [], [(24, .arr 45 3 (o11.map c45))]⟩) ?_ ?_
     ·clear h
      refine V_block (V_loop (fun n s => ∃ (b8 : Int) (l9 : List ((Int × Int × Int))), s.keep (mb 47 57) [24] = (⟨I d1 :: .bot :: .bot :: .ow 24 :: I a2 :: I b8 :: bt 41 [], [(24, .arr 45 3 (l9.map c45))]⟩ : St) ∧ r_spec_reAll_L10 a2 d1 n b8 l9 = some o11) FU ⟨_, _,  by rfl, hLo11⟩ ?_)
      clear hLo11
      rintro n s ⟨b8, l9, hs, h⟩
      refine V_keep _ _ hs ?_
      clear hs
      cases n with
      | zero => cases h
      | succ n =>
       rw [r_spec_reAll_L10] at h
       refine V_seq ?_
       refine V_e (mb 47 1048633) [24] (s1 := ⟨I d1 :: .bot :: .bot :: .ow 24 :: I a2 :: I b8 :: bt 14 (Bo (leI b8 a2) :: bt 26 []), [(24, .arr 45 3 (l9.map c45))]⟩) ?_
       refine V_cond rfl (fun hc12 => ?_) (fun hc12 => ?_)
       ·have h := of_true h hc12
        refine V_skip ?_
        show V _ _ _ _
        refine V_seq ?_
        refine V_block ?_
        obtain ⟨z13, hz13, h⟩ := of_bind h
        obtain ⟨f14, hf14, h⟩ := of_sI h
        refine V_sreg (mb 47 121) [48, 24] (s1 := ⟨I d1 :: .bot :: .bot :: .ow 24 :: I a2 :: I b8 :: .pt 48 0 :: bt 40 [], [(48, .box [Ti a2, Ti b8, Ti f14]), (24, .arr 45 3 (l9.map c45))]⟩) ?_ ?_
        ·refine XR 9 ?_
         refine L0 rfl rfl (Y0_quo64 (a := w64 ((w64 (b8 * b8)) - d1)) (b := w64 (4 * a2)) rfl (by kernel_rfl) (by kernel_rfl) (nz_some hz13)) ?_
         refine L0 rfl rfl (Y0_build (cs := [Ti a2, Ti b8, Ti (w64 (Int.tdiv (w64 ((w64 (b8 * b8)) - d1)) (w64 (4 * a2))))]) pl45 bt45 rfl rfl (by kernel_rfl)) ?_
         refine XR 2 ?_
         refine XL_nil ?_
         subst hf14
         kernel_rfl
        obtain ⟨y15, hy15, h⟩ := of_bind h
        obtain ⟨b18, hb18, h⟩ := of_bind h
        refine V_sreg (mb 47 2199023255673) [48, 24] (s1 := ⟨I d1 :: .bot :: .bot :: .ow 24 :: I a2 :: I b8 :: .pt 48 0 :: bt 34 (Bo b18 :: bt 5 []), [(48, .box [Ti a2, Ti b8, Ti f14]), (24, .arr 45 3 (l9.map c45))]⟩) ?_ ?_
        ·refine XR 1 ?_
         refine XC (s_spec_foDisc hy15) cf_spec_foDisc rfl rfl rfl ?_
         refine XR 3 ?_
         refine XL_split (eqI y15 d1) (fun hc16 => ?_) (fun hc16 => ?_)
         ·have hb18 := of_true hb18 hc16
          obtain ⟨y17, hy17, hb18⟩ := of_bind hb18
          have hb18 := some_inj hb18
          refine XL_takeC _ rfl rfl (by kernel_rfl) hc16 (X_of_Y0 rfl (E_loadn (cs := [Ti a2, Ti b8, Ti f14]) [Ti a2, Ti b8, Ti f14] wd45 rfl (by kernel_rfl) (Nat.le_of_ble_eq_true rfl) (by kernel_rfl))) ?_
          refine XL_takeC _ rfl rfl (by kernel_rfl) hc16 (X_of_Y1 rfl (Y1_call (s_spec_reIs hy17) cf_spec_reIs rfl (by kernel_rfl))) ?_
          refine XL_cons rfl (X_of_Y0 rfl (Y0_pickTe (b := eqI y15 d1) (p := y17) rfl (by kernel_rfl) hc16 (by kernel_rfl) hb18)) ?_
          exact XE
         ·have hb18 := some_inj (of_false hb18 hc16)
          refine XL_skipT _ rfl rfl (by kernel_rfl) hc16 rfl ?_
          refine XL_skipT _ rfl rfl (by kernel_rfl) hc16 rfl ?_
          refine XL_cons rfl (X_of_Y0 rfl (Y0_pickFe (b := eqI y15 d1) (p := false) rfl (by kernel_rfl) hc16 (by kernel_rfl) hb18)) ?_
          exact XE
        refine V_cond rfl (fun hc19 => ?_) (fun hc19 => ?_)
        ·have h := of_true h hc19
         obtain ⟨u20, hu20, h⟩ := of_bind h
         refine V_reg (mb 47 57) [24] (s1 := ⟨I d1 :: .bot :: .bot :: .ow 24 :: I a2 :: I b8 :: bt 41 [], [(24, .arr 45 3 ((l9 ++ ([(a2, b8, f14)])).map c45))]⟩) ?_ ?_
         ·refine XR 2 ?_
          refine L1 rfl rfl (Y1_bslice (z := zv45) (els := [(a2, b8, f14)].map c45) Try.underlying62 iz45 rfl (by decide) rfl (by kernel_rfl) rfl (by simp [c45]) (by decide) (by decide)) ?_
          refine XL_cons rfl (X_appendM (c := c45) (xs := l9) (ys := [(a2, b8, f14)]) (id := 24) (z := zv45) rfl rfl Try.underlying62 izb45 rfl (by kernel_rfl) (by kernel_rfl) (by kernel_rfl) (fun _ => rfl) (by simp) (room_some hu20) (by decide)) ?_
          exact XE
         show V _ _ _ _
         obtain ⟨b21, hb21, h⟩ := of_sI h
         refine V_reg (mb 47 57) [24] (s1 := ⟨I d1 :: .bot :: .bot :: .ow 24 :: I a2 :: I b21 :: bt 41 [], [(24, .arr 45 3 ((l9 ++ ([(a2, b8, f14)])).map c45))]⟩) ?_ ?_
         ·refine XR 3 ?_
          refine XL_nil ?_
          subst hb21
          kernel_rfl
         exact ⟨n, Nat.lt_succ_self n, _, _,  by rfl, h⟩
        ·have h := of_false h hc19
         refine V_skip ?_
         show V _ _ _ _
         obtain ⟨b22, hb22, h⟩ := of_sI h
         refine V_reg (mb 47 57) [24] (s1 := ⟨I d1 :: .bot :: .bot :: .ow 24 :: I a2 :: I b22 :: bt 41 [], [(24, .arr 45 3 (l9.map c45))]⟩) ?_ ?_
         ·refine XR 3 ?_
          refine XL_nil ?_
          subst hb22
          kernel_rfl
         exact ⟨n, Nat.lt_succ_self n, _, _,  by rfl, h⟩
       ·have h := of_false h hc12
        refine V_exit ?_
        obtain rfl := some_inj h
        show St.keep _ _ _ = _
        rfl
     show V _ _ _ _
     obtain ⟨a23, ha23, h⟩ := of_sI h
     refine V_reg (mb 47 25) [24] (s1 := ⟨I d1 :: .bot :: .bot :: .ow 24 :: I a23 :: bt 42 [], [(24, .arr 45 3 (o11.map c45))]⟩) ?_ ?_
     ·refine XR 3 ?_
      refine XL_nil ?_
      subst ha23
      kernel_rfl
     exact ⟨n, Nat.lt_succ_self n, _, _,  by rfl, h⟩
    ·have h := of_false h hc6
     refine V_exit ?_
     obtain rfl := some_inj h
     show St.keep _ _ _ = _
     rfl
  show V _ _ _ _
  refine V_e (mb 47 4) [24] (s1 := ⟨.bot :: .bot :: .ow 24 :: bt 44 [], [(24, .arr 45 3 (o5.map c45))]⟩) ?_
  refine V_ret ?_
  obtain rfl := some_inj h
  show Post _ _ _ _ _
  exact ⟨.inr rfl, rfl, rfl, rfl⟩
theorem cf_spec_foContent : ∀ args w, (callFunc 164 args).run Try.prog w = .ok (.enter 164 args) w := run_callFunc Try.func164 (by kernel_rfl) (by kernel_rfl)
theorem s_spec_foContent {f1 : (Int × Int × Int)} {r : Int} (h : r_spec_foContent f1 = some r) : CallS Try.prog 164 [.ag [Ti f1.1, Ti f1.2.1, Ti f1.2.2]] (I r) [] := by
  refine CallS_of_text (rs := [.t 2]) (vs := [.tmp 2]) Try.func164 rfl rfl (.cons rfl FitsL.nil) (by decide) 11 rfl ?_
  unfold r_spec_foContent at h
  show V _ _ ⟨.ag [Ti f1.1, Ti f1.2.1, Ti f1.2.2] :: bt 10 [], []⟩ _
  refine V_e (mb 11 2) [8] (s1 := ⟨.bot :: .pt 8 0 :: bt 9 [], [(8, .box [Ti f1.1, Ti f1.2.1, Ti f1.2.2])]⟩) ?_
  obtain ⟨y2, hy2, h⟩ := of_bind h
  obtain ⟨y3, hy3, h⟩ := of_bind h
  refine V_sdreg [0, 1, 0, 4, 15, 0, 32, 127, 255] 9 (cdm 9 [10400, 10401, 10250, 10266, 10325, 682, 1706, 5461, 21845]) (mb 11 4) [] (s1 := ⟨.bot :: .bot :: I y3 :: bt 8 [], []⟩) (by kernel_rfl) (by kernel_rfl) ?_ ?_
  ·refine DR 4 ?_
   refine DC 4 (s_spec_nuGcd hy2) cf_spec_nuGcd rfl rfl rfl rfl 7 rfl ?_
   refine DR 2 ?_
   refine DC 7 (s_spec_nuGcd hy3) cf_spec_nuGcd rfl rfl rfl rfl 10 rfl ?_
   refine DA 1 ?_
   exact XE
  refine V_ret ?_
  obtain rfl := some_inj h
  show Post _ _ _ _ _
  exact ⟨.inr rfl, rfl, rfl, rfl⟩
theorem cf_spec_reList : ∀ args w, (callFunc 105 args).run Try.prog w = .ok (.enter 105 args) w := run_callFunc Try.func105 (by kernel_rfl) (by kernel_rfl)
theorem s_spec_reList {d1 : Int} {r : List ((Int × Int × Int))} (h : r_spec_reList d1 = some r) : CallS Try.prog 105 [I d1] (.ow 0) [(0, .arr 45 3 (r.map c45))] := by
  refine CallS_of_text (rs := [.t 2]) (vs := [.tmp 2]) Try.func105 rfl rfl (.cons rfl FitsL.nil) (by decide) 22 rfl ?_
  unfold r_spec_reList at h
  show V _ _ ⟨I d1 :: bt 21 [], []⟩ _
  refine V_sreg (mb 22 1) [] (s1 := ⟨I d1 :: bt 21 [], []⟩) ?_ ?_
  ·refine L1 rfl rfl (Y1_nil (e := 45) 3 (by decide) (.inl rfl)) ?_
   exact XE
  refine V_sreg (mb 22 9) [24] (s1 := ⟨I d1 :: .bot :: .bot :: .ow 24 :: bt 18 [], [(24, .arr 45 3 ((([] : List ((Int × Int × Int)))).map c45))]⟩) ?_ ?_
  ·refine L1 rfl rfl (Y1_nil (e := 45) 3 (by decide) (.inl rfl)) ?_
   exact XE
  refine V_seq ?_
  obtain ⟨y2, hy2, h⟩ := of_bind h
  refine V_sreg (mb 22 904) [56, 24] (s1 := ⟨bt 3 (.ow 24 :: bt 3 (.ow 56 :: I ((y2.length : Int)) :: I 0 :: bt 12 [])), [(56, .arr 45 3 (y2.map c45)), (24, .arr 45 3 ((([] : List ((Int × Int × Int)))).map c45))]⟩) ?_ ?_
  ·refine XR 1 ?_
   refine XC (s_spec_reAll hy2) cf_spec_reAll rfl rfl rfl ?_
   refine L0 rfl rfl (Y0_lenM (c := c45) (xs := y2) Try.underlying62 rfl (by kernel_rfl)) ?_
   exact XE
  obtain ⟨o6, hLo6, h⟩ := of_bind h
  refine V_toK (mb 22 8) [24] (s1 := ⟨bt 3 (.ow 24 :: bt 18 []), [(24, .arr 45 3 (o6.map c45))]⟩) ?_ ?_
  ·clear h
   refine V_block (V_loop (fun n s => ∃ (t3 : Int) (l4 : List ((Int × Int × Int))), s.keep (mb 22 904) [56, 24] = (⟨bt 3 (.ow 24 :: bt 3 (.ow 56 :: I ((y2.length : Int)) :: I t3 :: bt 12 [])), [(56, .arr 45 3 (y2.map c45)), (24, .arr 45 3 (l4.map c45))]⟩ : St) ∧ r_spec_reList_L5 y2 n t3 l4 = some o6) FU ⟨_, _,  by rfl, hLo6⟩ ?_)
   clear hLo6
   rintro n s ⟨t3, l4, hs, h⟩
   refine V_keep _ _ hs ?_
   clear hs
   cases n with
   | zero => cases h
   | succ n =>
    rw [r_spec_reList_L5] at h
    refine V_e (mb 22 1928) [56, 24] (s1 := ⟨bt 3 (.ow 24 :: bt 3 (.ow 56 :: I ((y2.length : Int)) :: I t3 :: Bo (ltI t3 ((y2.length : Int))) :: bt 11 [])), [(56, .arr 45 3 (y2.map c45)), (24, .arr 45 3 (l4.map c45))]⟩) ?_
    refine V_seq ?_
    refine V_cond rfl (fun hc7 => ?_) (fun hc7 => ?_)
    ·have h := of_true h hc7
     refine V_skip ?_
     show V _ _ _ _
     refine V_seq ?_
     refine V_block ?_
     obtain ⟨e8, he8, h⟩ := of_bind h
     obtain ⟨e9, he9, h⟩ := of_bind h
     refine V_sreg (mb 22 936) [40, 56, 24] (s1 := ⟨bt 3 (.ow 24 :: .bot :: .pt 40 0 :: .bot :: .ow 56 :: I ((y2.length : Int)) :: I t3 :: bt 12 []), [(40, .box [Ti e9.1, Ti e9.2.1, Ti e9.2.2]), (56, .arr 45 3 (y2.map c45)), (24, .arr 45 3 (l4.map c45))]⟩) ?_ ?_
     ·refine L0 rfl rfl (Y0_idxoM (c := c45) (xs := y2) (v := e8) (id := 56) (T := 45) (sz := 3) (n := t3) Try.underlying62 sz45 rfl (by kernel_rfl) (by kernel_rfl) (by kernel_rfl) he8) ?_
      refine L0 rfl rfl (E_loadon (c := c45) (xs := y2) (v := e9) (id := 56) (sz := 3) (T := 45) (off := 0) (n := t3) [Ti e9.1, Ti e9.2.1, Ti e9.2.2] wd45 rfl (by kernel_rfl) (by kernel_rfl) he9 (Nat.le_of_ble_eq_true rfl) (by kernel_rfl)) ?_
      exact XE
     obtain ⟨y10, hy10, h⟩ := of_bind h
     refine V_sreg (mb 22 33704) [40, 56, 24] (s1 := ⟨bt 3 (.ow 24 :: .bot :: .pt 40 0 :: .bot :: .ow 56 :: I ((y2.length : Int)) :: I t3 :: bt 5 (Bo (eqI y10 1) :: bt 6 [])), [(40, .box [Ti e9.1, Ti e9.2.1, Ti e9.2.2]), (56, .arr 45 3 (y2.map c45)), (24, .arr 45 3 (l4.map c45))]⟩) ?_ ?_
     ·refine XR 1 ?_
      refine XC (s_spec_foContent hy10) cf_spec_foContent rfl rfl rfl ?_
      exact XE
     refine V_cond rfl (fun hc11 => ?_) (fun hc11 => ?_)
     ·have h := of_true h hc11
      obtain ⟨u12, hu12, h⟩ := of_bind h
      refine V_reg (mb 22 904) [56, 24] (s1 := ⟨bt 3 (.ow 24 :: bt 3 (.ow 56 :: I ((y2.length : Int)) :: I t3 :: bt 12 [])), [(56, .arr 45 3 (y2.map c45)), (24, .arr 45 3 ((l4 ++ ([e9])).map c45))]⟩) ?_ ?_
      ·refine XR 2 ?_
       refine L1 rfl rfl (Y1_bslice (z := zv45) (els := [e9].map c45) Try.underlying62 iz45 rfl (by decide) rfl (by kernel_rfl) rfl (by simp [c45]) (by decide) (by decide)) ?_
       refine XL_cons rfl (X_appendM (c := c45) (xs := l4) (ys := [e9]) (id := 24) (z := zv45) rfl rfl Try.underlying62 izb45 rfl (by kernel_rfl) (by kernel_rfl) (by kernel_rfl) (fun _ => rfl) (by simp) (room_some hu12) (by decide)) ?_
       exact XE
      show V _ _ _ _
      obtain ⟨t13, ht13, h⟩ := of_sI h
      refine V_reg (mb 22 904) [56, 24] (s1 := ⟨bt 3 (.ow 24 :: bt 3 (.ow 56 :: I ((y2.length : Int)) :: I t13 :: bt 12 [])), [(56, .arr 45 3 (y2.map c45)), (24, .arr 45 3 ((l4 ++ ([e9])).map c45))]⟩) ?_ ?_
      ·refine XR 2 ?_
       refine XL_nil ?_
       subst ht13
       kernel_rfl
      exact ⟨n, Nat.lt_succ_self n, _, _,  by rfl, h⟩
     ·have h := of_false h hc11
      refine V_skip ?_
      show V _ _ _ _
      obtain ⟨t14, ht14, h⟩ := of_sI h
      refine V_reg (mb 22 904) [56, 24] (s1 := ⟨bt 3 (.ow 24 :: bt 3 (.ow 56 :: I ((y2.length : Int)) :: I t14 :: bt 12 [])), [(56, .arr 45 3 (y2.map c45)), (24, .arr 45 3 (l4.map c45))]⟩) ?_ ?_
      ·refine XR 2 ?_
       refine XL_nil ?_
       subst ht14
       kernel_rfl
      exact ⟨n, Nat.lt_succ_self n, _, _,  by rfl, h⟩
    ·have h := of_false h hc7
     refine V_exit ?_
     obtain rfl := some_inj h
     show St.keep _ _ _ = _
     rfl
  show V _ _ _ _
  refine V_e (mb 22 4) [24] (s1 := ⟨.bot :: .bot :: .ow 24 :: bt 19 [], [(24, .arr 45 3 (o6.map c45))]⟩) ?_
  refine V_ret ?_
  obtain rfl := some_inj h
  show Post _ _ _ _ _
  exact ⟨.inr rfl, rfl, rfl, rfl⟩
theorem cf_spec_reNormal : ∀ args w, (callFunc 228 args).run Try.prog w = .ok (.enter 228 args) w := run_callFunc Try.func228 (by kernel_rfl) (by kernel_rfl)
theorem s_spec_reNormal {f1 : (Int × Int × Int)} {r : Int} (h : r_spec_reNormal f1 = some r) : CallS Try.prog 228 [.ag [Ti f1.1, Ti f1.2.1, Ti f1.2.2]] (I r) [] := by
  refine CallS_of_text (rs := [.t 2]) (vs := [.tmp 2]) Try.func228 rfl rfl (.cons rfl FitsL.nil) (by decide) 22 rfl ?_
  unfold r_spec_reNormal at h
  show V _ _ ⟨.ag [Ti f1.1, Ti f1.2.1, Ti f1.2.2] :: bt 21 [], []⟩ _
  refine V_e (mb 22 2) [8] (s1 := ⟨.bot :: .pt 8 0 :: bt 20 [], [(8, .box [Ti f1.1, Ti f1.2.1, Ti f1.2.2])]⟩) ?_
  obtain ⟨y2, hy2, h⟩ := of_bind h
  obtain ⟨z3, hz3, h⟩ := of_bind h
  obtain ⟨t4, ht4, h⟩ := of_sI h
  refine V_sdreg [0, 1, 0, 4, 15, 0, 32, 0, 128, 480, 0, 1024, 3072, 8160, 16383, 0, 32768, 98304, 262143, 524287] 20 (cdm 20 [45276113056, 45276113057, 45276112906, 45276112922, 45276112981, 45141361322, 45141362346, 45141207722, 45141224106, 45141284522, 45097855658, 45098904234, 45103098538, 45119526570, 45186635093, 715827882, 1789569706, 6084537002, 22906492245, 91625968981]) (mb 22 4) [] (s1 := ⟨.bot :: .bot :: I t4 :: bt 19 [], []⟩) (by kernel_rfl) (by kernel_rfl) ?_ ?_
  ·refine DR 13 ?_
   refine DC 13 (s_spec_nuMod hy2) cf_spec_nuMod rfl rfl rfl rfl 16 rfl ?_
   refine DR 4 ?_
   refine DE_0 18 (I (w64 (Int.tdiv (w64 ((w64 (f1.1 - f1.2.1)) - y2)) (w64 (2 * f1.1))))) (by kernel_rfl) rfl rfl rfl (gsat_none rfl) (by kernel_rfl) (Y0_quo64 (a := w64 ((w64 (f1.1 - f1.2.1)) - y2)) (b := w64 (2 * f1.1)) rfl (by kernel_rfl) (by kernel_rfl) (nz_some hz3)) 21 rfl ?_
   refine DA 1 ?_
   refine XL_nil ?_
   subst ht4
   kernel_rfl
  refine V_ret ?_
  obtain rfl := some_inj h
  show Post _ _ _ _ _
  exact ⟨.inr rfl, rfl, rfl, rfl⟩
theorem cf_spec_reMove : ∀ args w, (callFunc 222 args).run Try.prog w = .ok (.enter 222 args) w := run_callFunc Try.func222 (by kernel_rfl) (by kernel_rfl)
theorem s_spec_reMove {f1 : (Int × Int × Int)} {r : (Int × Int × Int × Int)} (h : r_spec_reMove f1 = some r) : CallS Try.prog 222 [.ag [Ti f1.1, Ti f1.2.1, Ti f1.2.2]] (.ag [Ti r.1, Ti r.2.1, Ti r.2.2.1, Ti r.2.2.2]) [] := by
  refine CallS_of_text (rs := [.w 2 4]) (vs := [.cell 2 110]) Try.func222 rfl rfl (.cons ⟨rfl, wd110⟩ FitsL.nil) (by decide) 14 rfl ?_
  unfold r_spec_reMove at h
  show V _ _ ⟨.ag [Ti f1.1, Ti f1.2.1, Ti f1.2.2] :: bt 13 [], []⟩ _
  refine V_e (mb 14 6) [16, 8] (s1 := ⟨.bot :: .pt 8 0 :: .pt 16 0 :: bt 11 [], [(16, .box [Ti 0, Ti 0, Ti 0, Ti 0]), (8, .box [Ti f1.1, Ti f1.2.1, Ti f1.2.2])]⟩) ?_
  refine V_seq ?_
  obtain ⟨y2, hy2, h⟩ := of_bind h
  refine V_sreg (mb 14 14) [16, 8] (s1 := ⟨.bot :: .pt 8 0 :: .pt 16 0 :: I y2 :: bt 10 [], [(16, .box [Ti 0, Ti 0, Ti 0, Ti 0]), (8, .box [Ti f1.1, Ti f1.2.1, Ti f1.2.2])]⟩) ?_ ?_
  ·refine XR 1 ?_
   refine XC (s_spec_reNormal hy2) cf_spec_reNormal rfl rfl rfl ?_
   exact XE
  refine V_e (mb 14 142) [16, 8] (s1 := ⟨.bot :: .pt 8 0 :: .pt 16 0 :: I y2 :: bt 3 (Bo (!eqI y2 0) :: bt 6 []), [(16, .box [Ti 0, Ti 0, Ti 0, Ti 0]), (8, .box [Ti f1.1, Ti f1.2.1, Ti f1.2.2])]⟩) ?_
  refine V_cond rfl (fun hc3 => ?_) (fun hc3 => ?_)
  ·have h := of_true h hc3
   refine V_sreg (mb 14 4) [16] (s1 := ⟨.bot :: .bot :: .pt 16 0 :: bt 11 [], [(16, .box [Ti 1, Ti y2, Ti 0, Ti 1])]⟩) ?_ ?_
   ·refine XR 1 ?_
    refine L0 rfl rfl (Y0_build (cs := [Ti 1, Ti y2, Ti 0, Ti 1]) pl110 bt110 rfl rfl (by kernel_rfl)) ?_
    exact XE
   refine V_ret ?_
   obtain rfl := some_inj h
   show Post _ _ _ _ _
   exact ⟨.inr rfl, rfl, rfl, rfl⟩
  ·have h := of_false h hc3
   refine V_skip ?_
   show V _ _ _ _
   refine V_seq ?_
   obtain ⟨y4, hy4, h⟩ := of_bind h
   refine V_sreg (mb 14 2052) [16] (s1 := ⟨.bot :: .bot :: .pt 16 0 :: bt 8 (Bo y4 :: .bot :: .bot :: []), [(16, .box [Ti 0, Ti 0, Ti 0, Ti 0])]⟩) ?_ ?_
   ·refine XR 1 ?_
    refine XC (s_spec_reIs hy4) cf_spec_reIs rfl rfl rfl ?_
    exact XE
   refine V_cond rfl (fun hc5 => ?_) (fun hc5 => ?_)
   ·have h := of_true h hc5
    refine V_sreg (mb 14 4) [16] (s1 := ⟨.bot :: .bot :: .pt 16 0 :: bt 11 [], [(16, .box [Ti 1, Ti 0, Ti 0, Ti 1])]⟩) ?_ ?_
    ·refine L0 rfl rfl (Y0_build (cs := [Ti 1, Ti 0, Ti 0, Ti 1]) pl110 bt110 rfl rfl (by kernel_rfl)) ?_
     exact XE
    refine V_ret ?_
    obtain rfl := some_inj h
    show Post _ _ _ _ _
    exact ⟨.inr rfl, rfl, rfl, rfl⟩
   ·have h := of_false h hc5
    refine V_skip ?_
    show V _ _ _ _
    refine V_sreg (mb 14 4) [16] (s1 := ⟨.bot :: .bot :: .pt 16 0 :: bt 11 [], [(16, .box [Ti 0, Ti (-1), Ti 1, Ti 0])]⟩) ?_ ?_
    ·refine L0 rfl rfl (Y0_build (cs := [Ti 0, Ti (-1), Ti 1, Ti 0]) pl110 bt110 rfl rfl (by kernel_rfl)) ?_
     exact XE
    refine V_ret ?_
    obtain rfl := some_inj h
    show Post _ _ _ _ _
    exact ⟨.inr rfl, rfl, rfl, rfl⟩
theorem cf_spec_foValue : ∀ args w, (callFunc 119 args).run Try.prog w = .ok (.enter 119 args) w := run_callFunc Try.func119 (by kernel_rfl) (by kernel_rfl)
theorem s_spec_foValue {f1 : (Int × Int × Int)} {x2 : Int} {y3 : Int} {r : Int} (h : r_spec_foValue f1 x2 y3 = some r) : CallS Try.prog 119 [.ag [Ti f1.1, Ti f1.2.1, Ti f1.2.2], I x2, I y3] (I r) [] := by
  refine CallS_of_text (rs := [.t 6]) (vs := [.tmp 6]) Try.func119 rfl rfl (.cons rfl FitsL.nil) (by decide) 27 rfl ?_
  unfold r_spec_foValue at h
  show V _ _ ⟨.ag [Ti f1.1, Ti f1.2.1, Ti f1.2.2] :: I x2 :: I y3 :: bt 24 [], []⟩ _
  refine V_e (mb 27 14) [24] (s1 := ⟨.bot :: I x2 :: I y3 :: .pt 24 0 :: bt 23 [], [(24, .box [Ti f1.1, Ti f1.2.1, Ti f1.2.2])]⟩) ?_
  obtain ⟨t4, ht4, h⟩ := of_sI h
  refine V_sreg (mb 27 64) [] (s1 := ⟨bt 6 (I t4 :: bt 20 []), []⟩) ?_ ?_
  ·refine XR 21 ?_
   refine XL_nil ?_
   subst ht4
   kernel_rfl
  refine V_ret ?_
  obtain rfl := some_inj h
  show Post _ _ _ _ _
  exact ⟨.inr rfl, rfl, rfl, rfl⟩
theorem cf_spec_foPolar : ∀ args w, (callFunc 209 args).run Try.prog w = .ok (.enter 209 args) w := run_callFunc Try.func209 (by kernel_rfl) (by kernel_rfl)
theorem s_spec_foPolar {f1 : (Int × Int × Int)} {x2 : Int} {y3 : Int} {u4 : Int} {v5 : Int} {r : Int} (h : r_spec_foPolar f1 x2 y3 u4 v5 = some r) : CallS Try.prog 209 [.ag [Ti f1.1, Ti f1.2.1, Ti f1.2.2], I x2, I y3, I u4, I v5] (I r) [] := by
  refine CallS_of_text (rs := [.t 10]) (vs := [.tmp 10]) Try.func209 rfl rfl (.cons rfl FitsL.nil) (by decide) 37 rfl ?_
  unfold r_spec_foPolar at h
  show V _ _ ⟨.ag [Ti f1.1, Ti f1.2.1, Ti f1.2.2] :: I x2 :: I y3 :: I u4 :: I v5 :: bt 32 [], []⟩ _
  refine V_e (mb 37 62) [40] (s1 := ⟨.bot :: I x2 :: I y3 :: I u4 :: I v5 :: .pt 40 0 :: bt 31 [], [(40, .box [Ti f1.1, Ti f1.2.1, Ti f1.2.2])]⟩) ?_
  obtain ⟨t6, ht6, h⟩ := of_sI h
  refine V_sreg (mb 37 1024) [] (s1 := ⟨bt 10 (I t6 :: bt 26 []), []⟩) ?_ ?_
  ·refine XR 27 ?_
   refine XL_nil ?_
   subst ht6
   kernel_rfl
  refine V_ret ?_
  obtain rfl := some_inj h
  show Post _ _ _ _ _
  exact ⟨.inr rfl, rfl, rfl, rfl⟩
theorem cf_spec_foAct : ∀ args w, (callFunc 190 args).run Try.prog w = .ok (.enter 190 args) w := run_callFunc Try.func190 (by kernel_rfl) (by kernel_rfl)
theorem s_spec_foAct {f1 : (Int × Int × Int)} {vm2 : (Int × Int × Int × Int)} {r : (Int × Int × Int)} (h : r_spec_foAct f1 vm2 = some r) : CallS Try.prog 190 [.ag [Ti f1.1, Ti f1.2.1, Ti f1.2.2], .ag [Ti vm2.1, Ti vm2.2.1, Ti vm2.2.2.1, Ti vm2.2.2.2]] (.ag [Ti r.1, Ti r.2.1, Ti r.2.2]) [] := by
  refine CallS_of_text (rs := [.w 4 3]) (vs := [.cell 4 45]) Try.func190 rfl rfl (.cons ⟨rfl, wd45⟩ FitsL.nil) (by decide) 28 rfl ?_
  unfold r_spec_foAct at h
  show V _ _ ⟨.ag [Ti f1.1, Ti f1.2.1, Ti f1.2.2] :: .ag [Ti vm2.1, Ti vm2.2.1, Ti vm2.2.2.1, Ti vm2.2.2.2] :: bt 26 [], []⟩ _
  refine V_e (mb 28 28) [32, 24, 16] (s1 := ⟨.bot :: .bot :: .pt 16 0 :: .pt 24 0 :: .pt 32 0 :: bt 23 [], [(32, .box [Ti 0, Ti 0, Ti 0]), (24, .box [Ti vm2.1, Ti vm2.2.1, Ti vm2.2.2.1, Ti vm2.2.2.2]), (16, .box [Ti f1.1, Ti f1.2.1, Ti f1.2.2])]⟩) ?_
  obtain ⟨y3, hy3, h⟩ := of_bind h
  obtain ⟨y4, hy4, h⟩ := of_bind h
  obtain ⟨y5, hy5, h⟩ := of_bind h
  refine V_sdreg [0, 0, 2, 0, 8, 31, 0, 0, 128, 0, 512, 0, 2048, 0, 8192, 32767, 0, 0, 131072, 0, 524288, 2097151, 4194303, 8388607] 23 (cdm 23 [2929883521704, 2929883521666, 2929883521670, 2929883521066, 2929883521130, 2929883521365, 2929883515562, 2929883359914, 2929883376298, 2929880902314, 2929881164458, 2929841580714, 2929845775018, 2929212435114, 2929279543978, 2929525609813, 2923441072810, 2760232315562, 2777412184746, 183251937962, 458129844906, 1466015503701, 5864062014805]) (mb 28 16) [32] (s1 := ⟨bt 4 (.pt 32 0 :: bt 23 []), [(32, .box [Ti y3, Ti y4, Ti y5])]⟩) (by kernel_rfl) (by kernel_rfl) ?_ ?_
  ·refine DR 5 ?_
   refine DC 5 (s_spec_foValue hy3) cf_spec_foValue rfl rfl rfl rfl 10 rfl ?_
   refine DR 9 ?_
   refine DC 15 (s_spec_foPolar hy4) cf_spec_foPolar rfl rfl rfl rfl 20 rfl ?_
   refine DR 5 ?_
   refine DC 21 (s_spec_foValue hy5) cf_spec_foValue rfl rfl rfl rfl 26 rfl ?_
   refine DE_0 22 (.ag [Ti y3, Ti y4, Ti y5]) (by kernel_rfl) rfl rfl rfl (gsat_none rfl) (by kernel_rfl) (Y0_build (cs := [Ti y3, Ti y4, Ti y5]) pl45 bt45 rfl rfl (by kernel_rfl)) 27 rfl ?_
   refine DA 0 ?_
   exact XE
  refine V_ret ?_
  obtain rfl := some_inj h
  show Post _ _ _ _ _
  exact ⟨.inr rfl, rfl, rfl, rfl⟩
theorem cf_spec_foMul : ∀ args w, (callFunc 191 args).run Try.prog w = .ok (.enter 191 args) w := run_callFunc Try.func191 (by kernel_rfl) (by kernel_rfl)
theorem s_spec_foMul {vm1 : (Int × Int × Int × Int)} {vn2 : (Int × Int × Int × Int)} {r : (Int × Int × Int × Int)} (h : r_spec_foMul vm1 vn2 = some r) : CallS Try.prog 191 [.ag [Ti vm1.1, Ti vm1.2.1, Ti vm1.2.2.1, Ti vm1.2.2.2], .ag [Ti vn2.1, Ti vn2.2.1, Ti vn2.2.2.1, Ti vn2.2.2.2]] (.ag [Ti r.1, Ti r.2.1, Ti r.2.2.1, Ti r.2.2.2]) [] := by
  refine CallS_of_text (rs := [.w 4 4]) (vs := [.cell 4 110]) Try.func191 rfl rfl (.cons ⟨rfl, wd110⟩ FitsL.nil) (by decide) 50 rfl ?_
  unfold r_spec_foMul at h
  show V _ _ ⟨.ag [Ti vm1.1, Ti vm1.2.1, Ti vm1.2.2.1, Ti vm1.2.2.2] :: .ag [Ti vn2.1, Ti vn2.2.1, Ti vn2.2.2.1, Ti vn2.2.2.2] :: bt 48 [], []⟩ _
  refine V_e (mb 50 28) [32, 24, 16] (s1 := ⟨.bot :: .bot :: .pt 16 0 :: .pt 24 0 :: .pt 32 0 :: bt 45 [], [(32, .box [Ti 0, Ti 0, Ti 0, Ti 0]), (24, .box [Ti vn2.1, Ti vn2.2.1, Ti vn2.2.2.1, Ti vn2.2.2.2]), (16, .box [Ti vm1.1, Ti vm1.2.1, Ti vm1.2.2.1, Ti vm1.2.2.2])]⟩) ?_
  obtain ⟨f3, hf3, h⟩ := of_sI h
  obtain ⟨f4, hf4, h⟩ := of_sI h
  obtain ⟨f5, hf5, h⟩ := of_sI h
  obtain ⟨f6, hf6, h⟩ := of_sI h
  refine V_sreg (mb 50 16) [32] (s1 := ⟨bt 4 (.pt 32 0 :: bt 45 []), [(32, .box [Ti f3, Ti f4, Ti f5, Ti f6])]⟩) ?_ ?_
  ·refine XR 44 ?_
   refine L0 rfl rfl (Y0_build (cs := [Ti (w64 ((w64 (vm1.1 * vn2.1)) + (w64 (vm1.2.1 * vn2.2.2.1)))), Ti (w64 ((w64 (vm1.1 * vn2.2.1)) + (w64 (vm1.2.1 * vn2.2.2.2)))), Ti (w64 ((w64 (vm1.2.2.1 * vn2.1)) + (w64 (vm1.2.2.2 * vn2.2.2.1)))), Ti (w64 ((w64 (vm1.2.2.1 * vn2.2.1)) + (w64 (vm1.2.2.2 * vn2.2.2.2))))]) pl110 bt110 rfl rfl (by kernel_rfl)) ?_
   refine XR 1 ?_
   refine XL_nil ?_
   subst hf3 hf4 hf5 hf6
   kernel_rfl
  refine V_ret ?_
  obtain rfl := some_inj h
  show Post _ _ _ _ _
  exact ⟨.inr rfl, rfl, rfl, rfl⟩
theorem cf_spec_reReduce : ∀ args w, (callFunc 202 args).run Try.prog w = .ok (.enter 202 args) w := run_callFunc Try.func202 (by kernel_rfl) (by kernel_rfl)
theorem s_spec_reReduce {f1 : (Int × Int × Int)} {r : (((Int × Int × Int)) × ((Int × Int × Int × Int)))} (h : r_spec_reReduce f1 = some r) : CallS Try.prog 202 [.ag [Ti f1.1, Ti f1.2.1, Ti f1.2.2]] (.tc (.ag [Ti r.1.1, Ti r.1.2.1, Ti r.1.2.2]) (.tc (.ag [Ti r.2.1, Ti r.2.2.1, Ti r.2.2.2.1, Ti r.2.2.2.2]) .tn)) [] := by
  refine CallS_of_text (rs := [.w 2 3, .w 3 4]) (vs := [.cell 2 45, .cell 3 110]) Try.func202 rfl rfl (.cons ⟨rfl, wd45⟩ (.cons ⟨rfl, wd110⟩ FitsL.nil)) (by decide) 20 rfl ?_
  unfold r_spec_reReduce at h
  show V _ _ ⟨.ag [Ti f1.1, Ti f1.2.1, Ti f1.2.2] :: bt 19 [], []⟩ _
  refine V_e (mb 20 14) [24, 16, 8] (s1 := ⟨.bot :: .pt 8 0 :: .pt 16 0 :: .pt 24 0 :: bt 16 [], [(24, .box [Ti 0, Ti 0, Ti 0, Ti 0]), (16, .box [Ti 0, Ti 0, Ti 0]), (8, .box [Ti f1.1, Ti f1.2.1, Ti f1.2.2])]⟩) ?_
  refine V_sreg (mb 20 30) [32, 24, 16, 8] (s1 := ⟨.bot :: .pt 8 0 :: .pt 16 0 :: .pt 24 0 :: .pt 32 0 :: bt 15 [], [(32, .box [Ti 1, Ti 0, Ti 0, Ti 1]), (24, .box [Ti 0, Ti 0, Ti 0, Ti 0]), (16, .box [Ti 0, Ti 0, Ti 0]), (8, .box [Ti f1.1, Ti f1.2.1, Ti f1.2.2])]⟩) ?_ ?_
  ·refine L0 rfl rfl (Y0_build (cs := [Ti 1, Ti 0, Ti 0, Ti 1]) pl110 bt110 rfl rfl (by kernel_rfl)) ?_
   exact XE
  refine V_seq ?_
  obtain ⟨o10, hLo10, h⟩ := of_bind h
  refine V_toK (mb 20 30) [32, 24, 16, 8] (s1 := ⟨.bot :: .pt 8 0 :: .pt 16 0 :: .pt 24 0 :: .pt 32 0 :: bt 15 [], [(32, .box [Ti o10.1, Ti o10.2.1, Ti o10.2.2.1, Ti o10.2.2.2.1]), (24, .box [Ti 0, Ti 0, Ti 0, Ti 0]), (16, .box [Ti 0, Ti 0, Ti 0]), (8, .box [Ti o10.2.2.2.2.1, Ti o10.2.2.2.2.2.1, Ti o10.2.2.2.2.2.2])]⟩) ?_ ?_
  ·clear h
   refine V_block (V_loop (fun n s => ∃ (f2 : Int) (f3 : Int) (f4 : Int) (f5 : Int) (f6 : Int) (f7 : Int) (f8 : Int), s.keep (mb 20 30) [32, 24, 16, 8] = (⟨.bot :: .pt 8 0 :: .pt 16 0 :: .pt 24 0 :: .pt 32 0 :: bt 15 [], [(32, .box [Ti f2, Ti f3, Ti f4, Ti f5]), (24, .box [Ti 0, Ti 0, Ti 0, Ti 0]), (16, .box [Ti 0, Ti 0, Ti 0]), (8, .box [Ti f6, Ti f7, Ti f8])]⟩ : St) ∧ r_spec_reReduce_L9 n f2 f3 f4 f5 f6 f7 f8 = some o10) FU ⟨_, _, _, _, _, _, _,  by rfl, hLo10⟩ ?_)
   clear hLo10
   rintro n s ⟨f2, f3, f4, f5, f6, f7, f8, hs, h⟩
   refine V_keep _ _ hs ?_
   clear hs
   cases n with
   | zero => cases h
   | succ n =>
    rw [r_spec_reReduce_L9] at h
    refine V_seq ?_
    obtain ⟨y11, hy11, h⟩ := of_bind h
    refine V_sreg (mb 20 542) [32, 24, 16, 8] (s1 := ⟨.bot :: .pt 8 0 :: .pt 16 0 :: .pt 24 0 :: .pt 32 0 :: bt 4 (Bo (!y11) :: bt 10 []), [(32, .box [Ti f2, Ti f3, Ti f4, Ti f5]), (24, .box [Ti 0, Ti 0, Ti 0, Ti 0]), (16, .box [Ti 0, Ti 0, Ti 0]), (8, .box [Ti f6, Ti f7, Ti f8])]⟩) ?_ ?_
    ·refine XR 1 ?_
     refine XC (s_spec_reIs hy11) cf_spec_reIs rfl rfl rfl ?_
     exact XE
    refine V_cond rfl (fun hc12 => ?_) (fun hc12 => ?_)
    ·have h := of_true h hc12
     refine V_skip ?_
     show V _ _ _ _
     refine V_block ?_
     obtain ⟨y13, hy13, h⟩ := of_bind h
     refine V_sreg (mb 20 62) [40, 32, 24, 16, 8] (s1 := ⟨.bot :: .pt 8 0 :: .pt 16 0 :: .pt 24 0 :: .pt 32 0 :: .pt 40 0 :: bt 14 [], [(40, .box [Ti y13.1, Ti y13.2.1, Ti y13.2.2.1, Ti y13.2.2.2]), (32, .box [Ti f2, Ti f3, Ti f4, Ti f5]), (24, .box [Ti 0, Ti 0, Ti 0, Ti 0]), (16, .box [Ti 0, Ti 0, Ti 0]), (8, .box [Ti f6, Ti f7, Ti f8])]⟩) ?_ ?_
     ·refine XR 1 ?_
      refine XC (s_spec_reMove hy13) cf_spec_reMove rfl rfl rfl ?_
      exact XE
     obtain ⟨y14, hy14, h⟩ := of_bind h
     obtain ⟨y15, hy15, h⟩ := of_bind h
     refine V_dreg [0, 0, 3, 0, 0, 31, 63, 127] 6 (cdm 6 [648, 642, 645, 554, 170, 341]) (mb 20 30) [32, 24, 16, 8] (s1 := ⟨.bot :: .pt 8 0 :: .pt 16 0 :: .pt 24 0 :: .pt 32 0 :: bt 15 [], [(32, .box [Ti y15.1, Ti y15.2.1, Ti y15.2.2.1, Ti y15.2.2.2]), (24, .box [Ti 0, Ti 0, Ti 0, Ti 0]), (16, .box [Ti 0, Ti 0, Ti 0]), (8, .box [Ti y14.1, Ti y14.2.1, Ti y14.2.2])]⟩) (by kernel_rfl) (by kernel_rfl) ?_ ?_
     ·refine DR 2 ?_
      refine DC 2 (s_spec_foAct hy14) cf_spec_foAct rfl rfl rfl rfl 14 rfl ?_
      refine DR 2 ?_
      refine DC 5 (s_spec_foMul hy15) cf_spec_foMul rfl rfl rfl rfl 17 rfl ?_
      refine DA 0 ?_
      exact XE
     exact ⟨n, Nat.lt_succ_self n, _, _, _, _, _, _, _,  by rfl, h⟩
    ·have h := of_false h hc12
     refine V_exit ?_
     obtain rfl := some_inj h
     show St.keep _ _ _ = _
     rfl
  show V _ _ _ _
  refine V_sdreg [0, 0, 1, 7] 3 [[.z, .b, .z], [.b, .z, .r 16], [.a, .b, .z]] (mb 20 12) [24, 16] (s1 := ⟨.bot :: .bot :: .pt 16 0 :: .pt 24 0 :: bt 16 [], [(24, .box [Ti o10.1, Ti o10.2.1, Ti o10.2.2.1, Ti o10.2.2.2.1]), (16, .box [Ti o10.2.2.2.2.1, Ti o10.2.2.2.2.2.1, Ti o10.2.2.2.2.2.2])]⟩) (by kernel_rfl) (by kernel_rfl) ?_ ?_
  ·refine DA 3 ?_
   exact XE
  refine V_ret ?_
  obtain rfl := some_inj h
  show Post _ _ _ _ _
  exact ⟨.inr rfl, rfl, rfl, rfl⟩
theorem cf_spec_reClass : ∀ args w, (callFunc 154 args).run Try.prog w = .ok (.enter 154 args) w := run_callFunc Try.func154 (by kernel_rfl) (by kernel_rfl)
theorem s_spec_reClass {f1 : (Int × Int × Int)} {r : (Int × Int × Int)} (h : r_spec_reClass f1 = some r) : CallS Try.prog 154 [.ag [Ti f1.1, Ti f1.2.1, Ti f1.2.2]] (.ag [Ti r.1, Ti r.2.1, Ti r.2.2]) [] := by
  refine CallS_of_text (rs := [.w 2 3]) (vs := [.cell 2 45]) Try.func154 rfl rfl (.cons ⟨rfl, wd45⟩ FitsL.nil) (by decide) 11 rfl ?_
  unfold r_spec_reClass at h
  show V _ _ ⟨.ag [Ti f1.1, Ti f1.2.1, Ti f1.2.2] :: bt 10 [], []⟩ _
  refine V_e (mb 11 6) [16, 8] (s1 := ⟨.bot :: .pt 8 0 :: .pt 16 0 :: bt 8 [], [(16, .box [Ti 0, Ti 0, Ti 0]), (8, .box [Ti f1.1, Ti f1.2.1, Ti f1.2.2])]⟩) ?_
  obtain ⟨y2, hy2, h⟩ := of_bind h
  refine V_sreg (mb 11 12) [24, 16] (s1 := ⟨.bot :: .bot :: .pt 16 0 :: .pt 24 0 :: bt 7 [], [(24, .box [Ti y2.1.1, Ti y2.1.2.1, Ti y2.1.2.2]), (16, .box [Ti 0, Ti 0, Ti 0])]⟩) ?_ ?_
  ·refine XR 1 ?_
   refine XC (s_spec_reReduce hy2) cf_spec_reReduce rfl rfl rfl ?_
   exact XE
  refine V_e (mb 11 4) [16] (s1 := ⟨.bot :: .bot :: .pt 16 0 :: bt 8 [], [(16, .box [Ti y2.1.1, Ti y2.1.2.1, Ti y2.1.2.2])]⟩) ?_
  refine V_ret ?_
  obtain rfl := some_inj h
  show Post _ _ _ _ _
  exact ⟨.inr rfl, rfl, rfl, rfl⟩
theorem cf_spec_coPoint : ∀ args w, (callFunc 165 args).run Try.prog w = .ok (.enter 165 args) w := run_callFunc Try.func165 (by kernel_rfl) (by kernel_rfl)
theorem s_spec_coPoint {g1 : (Int × Int × Int)} {a2 : Int} {r : (Int × Int)} (h : r_spec_coPoint g1 a2 = some r) : CallS Try.prog 165 [.ag [Ti g1.1, Ti g1.2.1, Ti g1.2.2], I a2] (.tc (I r.1) (.tc (I r.2) .tn)) [] := by
  refine CallS_of_text (rs := [.t 4, .t 5]) (vs := [.tmp 4, .tmp 5]) Try.func165 rfl rfl (.cons rfl (.cons rfl FitsL.nil)) (by decide) 45 rfl ?_
  unfold r_spec_coPoint at h
  show V _ _ ⟨.ag [Ti g1.1, Ti g1.2.1, Ti g1.2.2] :: I a2 :: bt 43 [], []⟩ _
  refine V_e (mb 45 6) [16] (s1 := ⟨.bot :: I a2 :: .pt 16 0 :: bt 42 [], [(16, .box [Ti g1.1, Ti g1.2.1, Ti g1.2.2])]⟩) ?_
  refine V_seq ?_
  refine V_e (mb 45 70) [16] (s1 := ⟨.bot :: I a2 :: .pt 16 0 :: bt 3 (I 1 :: bt 38 []), [(16, .box [Ti g1.1, Ti g1.2.1, Ti g1.2.2])]⟩) ?_
  obtain ⟨qo5, hLo5, hko5⟩ := of_bind h
  refine V_toS (q := qo5) (S := fun o5 => ⟨bt 45 [], []⟩) (mb 45 0) [] ?_ ?_
  ·refine V_block (V_loop (fun n s => ∃ (k3 : Int), s.keep (mb 45 70) [16] = (⟨.bot :: I a2 :: .pt 16 0 :: bt 3 (I k3 :: bt 38 []), [(16, .box [Ti g1.1, Ti g1.2.1, Ti g1.2.2])]⟩ : St) ∧ r_spec_coPoint_L4 a2 g1 n k3 = some qo5) FU ⟨_,  by rfl, hLo5⟩ ?_)
   clear hLo5
   rintro n s ⟨k3, hs, h⟩
   refine V_keep _ _ hs ?_
   clear hs
   cases n with
   | zero => cases h
   | succ n =>
    rw [r_spec_coPoint_L4] at h
    refine V_seq ?_
    refine V_e (mb 45 1094) [16] (s1 := ⟨.bot :: I a2 :: .pt 16 0 :: bt 3 (I k3 :: bt 3 (Bo (leI k3 100) :: bt 34 [])), [(16, .box [Ti g1.1, Ti g1.2.1, Ti g1.2.2])]⟩) ?_
    refine V_cond rfl (fun hc6 => ?_) (fun hc6 => ?_)
    ·have h := of_true h hc6
     refine V_skip ?_
     show V _ _ _ _
     refine V_seq ?_
     refine V_block ?_
     refine V_e (mb 45 198) [16] (s1 := ⟨.bot :: I a2 :: .pt 16 0 :: bt 3 (I k3 :: I 0 :: bt 37 []), [(16, .box [Ti g1.1, Ti g1.2.1, Ti g1.2.2])]⟩) ?_
     obtain ⟨qo9, hLo9, hko9⟩ := of_bind h
     refine V_toS (q := qo9) (S := fun o9 => ⟨.bot :: I a2 :: .pt 16 0 :: bt 3 (I k3 :: bt 38 []), [(16, .box [Ti g1.1, Ti g1.2.1, Ti g1.2.2])]⟩) (mb 45 70) [16] ?_ ?_
     ·refine V_block (V_loop (fun n s => ∃ (x7 : Int), s.keep (mb 45 198) [16] = (⟨.bot :: I a2 :: .pt 16 0 :: bt 3 (I k3 :: I x7 :: bt 37 []), [(16, .box [Ti g1.1, Ti g1.2.1, Ti g1.2.2])]⟩ : St) ∧ r_spec_coPoint_L8 a2 g1 k3 n x7 = some qo9) FU ⟨_,  by rfl, hLo9⟩ ?_)
      clear hLo9
      rintro n s ⟨x7, hs, h⟩
      refine V_keep _ _ hs ?_
      clear hs
      cases n with
      | zero => cases h
      | succ n =>
       rw [r_spec_coPoint_L8] at h
       refine V_seq ?_
       refine V_e (mb 45 32966) [16] (s1 := ⟨.bot :: I a2 :: .pt 16 0 :: bt 3 (I k3 :: I x7 :: bt 7 (Bo (leI x7 k3) :: bt 29 [])), [(16, .box [Ti g1.1, Ti g1.2.1, Ti g1.2.2])]⟩) ?_
       refine V_cond rfl (fun hc10 => ?_) (fun hc10 => ?_)
       ·have h := of_true h hc10
        refine V_skip ?_
        show V _ _ _ _
        refine V_seq ?_
        refine V_block ?_
        refine V_e (mb 45 454) [16] (s1 := ⟨.bot :: I a2 :: .pt 16 0 :: bt 3 (I k3 :: I x7 :: I 0 :: bt 36 []), [(16, .box [Ti g1.1, Ti g1.2.1, Ti g1.2.2])]⟩) ?_
        obtain ⟨qo13, hLo13, hko13⟩ := of_bind h
        refine V_toS (q := qo13) (S := fun o13 => ⟨.bot :: I a2 :: .pt 16 0 :: bt 3 (I k3 :: I x7 :: bt 37 []), [(16, .box [Ti g1.1, Ti g1.2.1, Ti g1.2.2])]⟩) (mb 45 198) [16] ?_ ?_
        ·refine V_block (V_loop (fun n s => ∃ (y11 : Int), s.keep (mb 45 454) [16] = (⟨.bot :: I a2 :: .pt 16 0 :: bt 3 (I k3 :: I x7 :: I y11 :: bt 36 []), [(16, .box [Ti g1.1, Ti g1.2.1, Ti g1.2.2])]⟩ : St) ∧ r_spec_coPoint_L12 a2 g1 k3 x7 n y11 = some qo13) FU ⟨_,  by rfl, hLo13⟩ ?_)
         clear hLo13
         rintro n s ⟨y11, hs, h⟩
         refine V_keep _ _ hs ?_
         clear hs
         cases n with
         | zero => cases h
         | succ n =>
          rw [r_spec_coPoint_L12] at h
          refine V_seq ?_
          refine V_e (mb 45 1049030) [16] (s1 := ⟨.bot :: I a2 :: .pt 16 0 :: bt 3 (I k3 :: I x7 :: I y11 :: bt 11 (Bo (leI y11 k3) :: bt 24 [])), [(16, .box [Ti g1.1, Ti g1.2.1, Ti g1.2.2])]⟩) ?_
          refine V_cond rfl (fun hc14 => ?_) (fun hc14 => ?_)
          ·have h := of_true h hc14
           refine V_skip ?_
           show V _ _ _ _
           refine V_seq ?_
           refine V_block ?_
           obtain ⟨y15, hy15, h⟩ := of_bind h
           obtain ⟨b18, hb18, h⟩ := of_bind h
           obtain ⟨b22, hb22, h⟩ := of_bind h
           refine V_sreg (mb 45 4398046511558) [16] (s1 := ⟨.bot :: I a2 :: .pt 16 0 :: bt 3 (I k3 :: I x7 :: I y11 :: bt 33 (Bo b22 :: .bot :: .bot :: [])), [(16, .box [Ti g1.1, Ti g1.2.1, Ti g1.2.2])]⟩) ?_ ?_
           ·refine XR 2 ?_
            refine XC (s_spec_l1Most hy15) cf_spec_l1Most rfl rfl rfl ?_
            refine XR 3 ?_
            refine XL_split (eqI y15 k3) (fun hc16 => ?_) (fun hc16 => ?_)
            ·have hb18 := of_true hb18 hc16
             obtain ⟨y17, hy17, hb18⟩ := of_bind hb18
             have hb18 := some_inj hb18
             refine XL_takeC _ rfl rfl (by kernel_rfl) hc16 (X_of_Y0 rfl (E_move (I x7) rfl (by kernel_rfl))) ?_
             refine XL_takeC _ rfl rfl (by kernel_rfl) hc16 (X_of_Y0 rfl (E_move (I y11) rfl (by kernel_rfl))) ?_
             refine XL_takeC _ rfl rfl (by kernel_rfl) hc16 (X_of_Y1 rfl (Y1_call (s_spec_nuGcd hy17) cf_spec_nuGcd rfl (by kernel_rfl))) ?_
             refine XL_takeC _ rfl rfl (by kernel_rfl) hc16 (X_of_Y0 rfl (Y0_eqw (k := .i64) (a := y17) (b := 1) rfl (by kernel_rfl) (by kernel_rfl))) ?_
             refine XL_cons rfl (X_of_Y0 rfl (Y0_pickTe (b := eqI y15 k3) (p := eqI y17 1) rfl (by kernel_rfl) hc16 (by kernel_rfl) hb18)) ?_
             refine XR 1 ?_
             refine XL_split b18 (fun hc19 => ?_) (fun hc19 => ?_)
             ·have hb22 := of_true hb22 hc19
              obtain ⟨y20, hy20, hb22⟩ := of_bind hb22
              obtain ⟨y21, hy21, hb22⟩ := of_bind hb22
              have hb22 := some_inj hb22
              refine XL_takeC _ rfl rfl (by kernel_rfl) hc19 (X_of_Y0 rfl (E_loadn (cs := [Ti g1.1, Ti g1.2.1, Ti g1.2.2]) [Ti g1.1, Ti g1.2.1, Ti g1.2.2] wd45 rfl (by kernel_rfl) (Nat.le_of_ble_eq_true rfl) (by kernel_rfl))) ?_
              refine XL_takeC _ rfl rfl (by kernel_rfl) hc19 (X_of_Y0 rfl (E_move (I x7) rfl (by kernel_rfl))) ?_
              refine XL_takeC _ rfl rfl (by kernel_rfl) hc19 (X_of_Y0 rfl (E_move (I y11) rfl (by kernel_rfl))) ?_
              refine XL_takeC _ rfl rfl (by kernel_rfl) hc19 (X_of_Y1 rfl (Y1_call (s_spec_foValue hy20) cf_spec_foValue rfl (by kernel_rfl))) ?_
              refine XL_takeC _ rfl rfl (by kernel_rfl) hc19 (X_of_Y0 rfl (E_move (I a2) rfl (by kernel_rfl))) ?_
              refine XL_takeC _ rfl rfl (by kernel_rfl) hc19 (X_of_Y1 rfl (Y1_call (s_spec_nuGcd hy21) cf_spec_nuGcd rfl (by kernel_rfl))) ?_
              refine XL_takeC _ rfl rfl (by kernel_rfl) hc19 (X_of_Y0 rfl (Y0_eqw (k := .i64) (a := y21) (b := 1) rfl (by kernel_rfl) (by kernel_rfl))) ?_
              refine XL_cons rfl (X_of_Y0 rfl (Y0_pickTe (b := b18) (p := eqI y21 1) rfl (by kernel_rfl) hc19 (by kernel_rfl) hb22)) ?_
              exact XE
             ·have hb22 := some_inj (of_false hb22 hc19)
              refine XL_skipT _ rfl rfl (by kernel_rfl) hc19 rfl ?_
              refine XL_skipT _ rfl rfl (by kernel_rfl) hc19 rfl ?_
              refine XL_skipT _ rfl rfl (by kernel_rfl) hc19 rfl ?_
              refine XL_skipT _ rfl rfl (by kernel_rfl) hc19 rfl ?_
              refine XL_skipT _ rfl rfl (by kernel_rfl) hc19 rfl ?_
              refine XL_skipT _ rfl rfl (by kernel_rfl) hc19 rfl ?_
              refine XL_skipT _ rfl rfl (by kernel_rfl) hc19 rfl ?_
              refine XL_cons rfl (X_of_Y0 rfl (Y0_pickFe (b := b18) (p := false) rfl (by kernel_rfl) hc19 (by kernel_rfl) hb22)) ?_
              exact XE
            ·have hb18 := some_inj (of_false hb18 hc16)
             refine XL_skipT _ rfl rfl (by kernel_rfl) hc16 rfl ?_
             refine XL_skipT _ rfl rfl (by kernel_rfl) hc16 rfl ?_
             refine XL_skipT _ rfl rfl (by kernel_rfl) hc16 rfl ?_
             refine XL_skipT _ rfl rfl (by kernel_rfl) hc16 rfl ?_
             refine XL_cons rfl (X_of_Y0 rfl (Y0_pickFe (b := eqI y15 k3) (p := false) rfl (by kernel_rfl) hc16 (by kernel_rfl) hb18)) ?_
             refine XR 1 ?_
             refine XL_split b18 (fun hc19 => ?_) (fun hc19 => ?_)
             ·have hb22 := of_true hb22 hc19
              obtain ⟨y20, hy20, hb22⟩ := of_bind hb22
              obtain ⟨y21, hy21, hb22⟩ := of_bind hb22
              have hb22 := some_inj hb22
              refine XL_takeC _ rfl rfl (by kernel_rfl) hc19 (X_of_Y0 rfl (E_loadn (cs := [Ti g1.1, Ti g1.2.1, Ti g1.2.2]) [Ti g1.1, Ti g1.2.1, Ti g1.2.2] wd45 rfl (by kernel_rfl) (Nat.le_of_ble_eq_true rfl) (by kernel_rfl))) ?_
              refine XL_takeC _ rfl rfl (by kernel_rfl) hc19 (X_of_Y0 rfl (E_move (I x7) rfl (by kernel_rfl))) ?_
              refine XL_takeC _ rfl rfl (by kernel_rfl) hc19 (X_of_Y0 rfl (E_move (I y11) rfl (by kernel_rfl))) ?_
              refine XL_takeC _ rfl rfl (by kernel_rfl) hc19 (X_of_Y1 rfl (Y1_call (s_spec_foValue hy20) cf_spec_foValue rfl (by kernel_rfl))) ?_
              refine XL_takeC _ rfl rfl (by kernel_rfl) hc19 (X_of_Y0 rfl (E_move (I a2) rfl (by kernel_rfl))) ?_
              refine XL_takeC _ rfl rfl (by kernel_rfl) hc19 (X_of_Y1 rfl (Y1_call (s_spec_nuGcd hy21) cf_spec_nuGcd rfl (by kernel_rfl))) ?_
              refine XL_takeC _ rfl rfl (by kernel_rfl) hc19 (X_of_Y0 rfl (Y0_eqw (k := .i64) (a := y21) (b := 1) rfl (by kernel_rfl) (by kernel_rfl))) ?_
              refine XL_cons rfl (X_of_Y0 rfl (Y0_pickTe (b := b18) (p := eqI y21 1) rfl (by kernel_rfl) hc19 (by kernel_rfl) hb22)) ?_
              exact XE
             ·have hb22 := some_inj (of_false hb22 hc19)
              refine XL_skipT _ rfl rfl (by kernel_rfl) hc19 rfl ?_
              refine XL_skipT _ rfl rfl (by kernel_rfl) hc19 rfl ?_
              refine XL_skipT _ rfl rfl (by kernel_rfl) hc19 rfl ?_
              refine XL_skipT _ rfl rfl (by kernel_rfl) hc19 rfl ?_
              refine XL_skipT _ rfl rfl (by kernel_rfl) hc19 rfl ?_
              refine XL_skipT _ rfl rfl (by kernel_rfl) hc19 rfl ?_
              refine XL_skipT _ rfl rfl (by kernel_rfl) hc19 rfl ?_
              refine XL_cons rfl (X_of_Y0 rfl (Y0_pickFe (b := b18) (p := false) rfl (by kernel_rfl) hc19 (by kernel_rfl) hb22)) ?_
              exact XE
           refine V_cond rfl (fun hc23 => ?_) (fun hc23 => ?_)
           ·have h := of_true h hc23
            refine V_e (mb 45 48) [] (s1 := ⟨bt 4 (I x7 :: I y11 :: bt 39 []), []⟩) ?_
            refine V_ret ?_
            obtain rfl := some_inj h
            have h := hko13
            obtain rfl := some_inj h
            have h := hko9
            obtain rfl := some_inj h
            have h := hko5
            obtain rfl := some_inj h
            show Post _ _ _ _ _
            exact ⟨.inr rfl, rfl, rfl, rfl⟩
           ·have h := of_false h hc23
            refine V_skip ?_
            show V _ _ _ _
            obtain ⟨y24, hy24, h⟩ := of_sI h
            refine V_reg (mb 45 454) [16] (s1 := ⟨.bot :: I a2 :: .pt 16 0 :: bt 3 (I k3 :: I x7 :: I y24 :: bt 36 []), [(16, .box [Ti g1.1, Ti g1.2.1, Ti g1.2.2])]⟩) ?_ ?_
            ·refine XR 3 ?_
             refine XL_nil ?_
             subst hy24
             kernel_rfl
            exact ⟨n, Nat.lt_succ_self n, _,  by rfl, h⟩
          ·have h := of_false h hc14
           refine V_exit ?_
           obtain rfl := some_inj h
           exact ⟨_, rfl, by rfl⟩
        rintro o13 rfl
        have h := hko13
        clear hko13
        show V _ _ _ _
        obtain ⟨x25, hx25, h⟩ := of_sI h
        refine V_reg (mb 45 198) [16] (s1 := ⟨.bot :: I a2 :: .pt 16 0 :: bt 3 (I k3 :: I x25 :: bt 37 []), [(16, .box [Ti g1.1, Ti g1.2.1, Ti g1.2.2])]⟩) ?_ ?_
        ·refine XR 3 ?_
         refine XL_nil ?_
         subst hx25
         kernel_rfl
        exact ⟨n, Nat.lt_succ_self n, _,  by rfl, h⟩
       ·have h := of_false h hc10
        refine V_exit ?_
        obtain rfl := some_inj h
        exact ⟨_, rfl, by rfl⟩
     rintro o9 rfl
     have h := hko9
     clear hko9
     show V _ _ _ _
     obtain ⟨k26, hk26, h⟩ := of_sI h
     refine V_reg (mb 45 70) [16] (s1 := ⟨.bot :: I a2 :: .pt 16 0 :: bt 3 (I k26 :: bt 38 []), [(16, .box [Ti g1.1, Ti g1.2.1, Ti g1.2.2])]⟩) ?_ ?_
     ·refine XR 3 ?_
      refine XL_nil ?_
      subst hk26
      kernel_rfl
     exact ⟨n, Nat.lt_succ_self n, _,  by rfl, h⟩
    ·have h := of_false h hc6
     refine V_exit ?_
     obtain rfl := some_inj h
     exact ⟨_, rfl, by rfl⟩
  rintro o5 rfl
  have h := hko5
  clear hko5
  show V _ _ _ _
  refine V_e (mb 45 48) [] (s1 := ⟨bt 4 (I 1 :: I 0 :: bt 39 []), []⟩) ?_
  refine V_ret ?_
  obtain rfl := some_inj h
  show Post _ _ _ _ _
  exact ⟨.inr rfl, rfl, rfl, rfl⟩
theorem cf_spec_l1Sign : ∀ args w, (callFunc 225 args).run Try.prog w = .ok (.enter 225 args) w := run_callFunc Try.func225 (by kernel_rfl) (by kernel_rfl)
theorem s_spec_l1Sign {vn1 : Int} {r : Int} (h : r_spec_l1Sign vn1 = some r) : CallS Try.prog 225 [I vn1] (I r) [] := by
  refine CallS_of_text (rs := [.t 2]) (vs := [.tmp 2]) Try.func225 rfl rfl (.cons rfl FitsL.nil) (by decide) 9 rfl ?_
  unfold r_spec_l1Sign at h
  show V _ _ ⟨I vn1 :: bt 8 [], []⟩ _
  refine V_e (mb 9 1) [] (s1 := ⟨I vn1 :: bt 8 [], []⟩) ?_
  refine V_seq ?_
  refine V_block ?_
  refine V_e (mb 9 9) [] (s1 := ⟨I vn1 :: .bot :: .bot :: Bo (ltI 0 vn1) :: bt 5 [], []⟩) ?_
  refine V_cond rfl (fun hc2 => ?_) (fun hc2 => ?_)
  ·have h := of_true h hc2
   refine V_e (mb 9 4) [] (s1 := ⟨.bot :: .bot :: I 1 :: bt 6 [], []⟩) ?_
   refine V_ret ?_
   obtain rfl := some_inj h
   show Post _ _ _ _ _
   exact ⟨.inr rfl, rfl, rfl, rfl⟩
  ·have h := of_false h hc2
   refine V_e (mb 9 64) [] (s1 := ⟨bt 6 (Bo (ltI vn1 0) :: .bot :: .bot :: []), []⟩) ?_
   refine V_cond rfl (fun hc3 => ?_) (fun hc3 => ?_)
   ·have h := of_true h hc3
    refine V_e (mb 9 4) [] (s1 := ⟨.bot :: .bot :: I (-1) :: bt 6 [], []⟩) ?_
    refine V_ret ?_
    obtain rfl := some_inj h
    show Post _ _ _ _ _
    exact ⟨.inr rfl, rfl, rfl, rfl⟩
   ·have h := of_false h hc3
    refine V_skip ?_
    show V _ _ _ _
    refine V_e (mb 9 4) [] (s1 := ⟨.bot :: .bot :: I 0 :: bt 6 [], []⟩) ?_
    refine V_ret ?_
    obtain rfl := some_inj h
    show Post _ _ _ _ _
    exact ⟨.inr rfl, rfl, rfl, rfl⟩
theorem cf_spec_nuInverse : ∀ args w, (callFunc 134 args).run Try.prog w = .ok (.enter 134 args) w := run_callFunc Try.func134 (by kernel_rfl) (by kernel_rfl)
theorem s_spec_nuInverse {a1 : Int} {vm2 : Int} {r : Int} (h : r_spec_nuInverse a1 vm2 = some r) : CallS Try.prog 134 [I a1, I vm2] (I r) [] := by
  refine CallS_of_text (rs := [.t 4]) (vs := [.tmp 4]) Try.func134 rfl rfl (.cons rfl FitsL.nil) (by decide) 36 rfl ?_
  unfold r_spec_nuInverse at h
  show V _ _ ⟨I a1 :: I vm2 :: bt 34 [], []⟩ _
  refine V_e (mb 36 3) [] (s1 := ⟨I a1 :: I vm2 :: bt 34 [], []⟩) ?_
  obtain ⟨y3, hy3, h⟩ := of_bind h
  refine V_sreg (mb 36 482) [] (s1 := ⟨.bot :: I vm2 :: bt 3 (I vm2 :: I y3 :: I 0 :: I 1 :: bt 27 []), []⟩) ?_ ?_
  ·refine XR 3 ?_
   refine XC (s_spec_nuMod hy3) cf_spec_nuMod rfl rfl rfl ?_
   exact XE
  refine V_seq ?_
  obtain ⟨o9, hLo9, h⟩ := of_bind h
  refine V_toK (mb 36 162) [] (s1 := ⟨.bot :: I vm2 :: bt 3 (I o9.1 :: .bot :: I o9.2 :: bt 28 []), []⟩) ?_ ?_
  ·clear h
   refine V_block (V_loop (fun n s => ∃ (vr4 : Int) (next5 : Int) (x6 : Int) (y7 : Int), s.keep (mb 36 482) [] = (⟨.bot :: I vm2 :: bt 3 (I vr4 :: I next5 :: I x6 :: I y7 :: bt 27 []), []⟩ : St) ∧ r_spec_nuInverse_L8 vm2 n vr4 next5 x6 y7 = some o9) FU ⟨_, _, _, _,  by rfl, hLo9⟩ ?_)
   clear hLo9
   rintro n s ⟨vr4, next5, x6, y7, hs, h⟩
   refine V_keep _ _ hs ?_
   clear hs
   cases n with
   | zero => cases h
   | succ n =>
    rw [r_spec_nuInverse_L8] at h
    refine V_seq ?_
    refine V_e (mb 36 33250) [] (s1 := ⟨.bot :: I vm2 :: bt 3 (I vr4 :: I next5 :: I x6 :: I y7 :: bt 6 (Bo (!eqI next5 0) :: bt 20 [])), []⟩) ?_
    refine V_cond rfl (fun hc10 => ?_) (fun hc10 => ?_)
    ·have h := of_true h hc10
     refine V_skip ?_
     show V _ _ _ _
     refine V_block ?_
     obtain ⟨z11, hz11, h⟩ := of_bind h
     obtain ⟨q12, hq12, h⟩ := of_sI h
     refine V_sreg (mb 36 994) [] (s1 := ⟨.bot :: I vm2 :: bt 3 (I vr4 :: I next5 :: I x6 :: I y7 :: I q12 :: bt 26 []), []⟩) ?_ ?_
     ·refine XR 2 ?_
      refine L0 rfl rfl (Y0_quo64 (a := vr4) (b := next5) rfl (by kernel_rfl) (by kernel_rfl) (nz_some hz11)) ?_
      refine XR 1 ?_
      refine XL_nil ?_
      subst hq12
      kernel_rfl
     obtain ⟨next13, hnext13, h⟩ := of_sI h
     refine V_sreg (mb 36 994) [] (s1 := ⟨.bot :: I vm2 :: bt 3 (I next5 :: I next13 :: I x6 :: I y7 :: I q12 :: bt 26 []), []⟩) ?_ ?_
     ·refine XR 8 ?_
      refine XL_nil ?_
      subst hnext13
      kernel_rfl
     obtain ⟨y14, hy14, h⟩ := of_sI h
     refine V_reg (mb 36 482) [] (s1 := ⟨.bot :: I vm2 :: bt 3 (I next5 :: I next13 :: I y7 :: I y14 :: bt 27 []), []⟩) ?_ ?_
     ·refine XR 8 ?_
      refine XL_nil ?_
      subst hy14
      kernel_rfl
     exact ⟨n, Nat.lt_succ_self n, _, _, _, _,  by rfl, h⟩
    ·have h := of_false h hc10
     refine V_exit ?_
     obtain rfl := some_inj h
     show St.keep _ _ _ = _
     rfl
  show V _ _ _ _
  refine V_seq ?_
  refine V_e (mb 36 4294967426) [] (s1 := ⟨.bot :: I vm2 :: bt 5 (I o9.2 :: bt 24 (Bo (!eqI o9.1 1) :: bt 3 [])), []⟩) ?_
  refine V_cond rfl (fun hc15 => ?_) (fun hc15 => ?_)
  ·have h := of_true h hc15
   refine V_e (mb 36 16) [] (s1 := ⟨bt 4 (I (-1) :: bt 31 []), []⟩) ?_
   refine V_ret ?_
   obtain rfl := some_inj h
   show Post _ _ _ _ _
   exact ⟨.inr rfl, rfl, rfl, rfl⟩
  ·have h := of_false h hc15
   refine V_skip ?_
   show V _ _ _ _
   obtain ⟨y16, hy16, h⟩ := of_bind h
   refine V_sreg (mb 36 16) [] (s1 := ⟨bt 4 (I y16 :: bt 31 []), []⟩) ?_ ?_
   ·refine XR 2 ?_
    refine XC (s_spec_nuMod hy16) cf_spec_nuMod rfl rfl rfl ?_
    exact XE
   refine V_ret ?_
   obtain rfl := some_inj h
   show Post _ _ _ _ _
   exact ⟨.inr rfl, rfl, rfl, rfl⟩
theorem cf_spec_nuBezout : ∀ args w, (callFunc 208 args).run Try.prog w = .ok (.enter 208 args) w := run_callFunc Try.func208 (by kernel_rfl) (by kernel_rfl)
theorem s_spec_nuBezout {a1 : Int} {b2 : Int} {r : (Int × Int × Int)} (h : r_spec_nuBezout a1 b2 = some r) : CallS Try.prog 208 [I a1, I b2] (.tc (I r.1) (.tc (I r.2.1) (.tc (I r.2.2) .tn))) [] := by
  refine CallS_of_text (rs := [.t 4, .t 5, .t 6]) (vs := [.tmp 4, .tmp 5, .tmp 6]) Try.func208 rfl rfl (.cons rfl (.cons rfl (.cons rfl FitsL.nil))) (by decide) 34 rfl ?_
  unfold r_spec_nuBezout at h
  show V _ _ ⟨I a1 :: I b2 :: bt 32 [], []⟩ _
  refine V_e (mb 34 3) [] (s1 := ⟨I a1 :: I b2 :: bt 32 [], []⟩) ?_
  obtain ⟨y3, hy3, h⟩ := of_bind h
  refine V_sreg (mb 34 131) [] (s1 := ⟨I a1 :: I b2 :: bt 5 (I y3 :: bt 26 []), []⟩) ?_ ?_
  ·refine XR 2 ?_
   refine XC (s_spec_nuGcd hy3) cf_spec_nuGcd rfl rfl rfl ?_
   exact XE
  refine V_seq ?_
  refine V_e (mb 34 8323) [] (s1 := ⟨I a1 :: I b2 :: bt 5 (I y3 :: bt 5 (Bo (eqI b2 0) :: bt 20 [])), []⟩) ?_
  refine V_cond rfl (fun hc4 => ?_) (fun hc4 => ?_)
  ·have h := of_true h hc4
   obtain ⟨y5, hy5, h⟩ := of_bind h
   refine V_sreg (mb 34 112) [] (s1 := ⟨bt 4 (I y3 :: I y5 :: I 0 :: bt 27 []), []⟩) ?_ ?_
   ·refine XR 2 ?_
    refine XC (s_spec_l1Sign hy5) cf_spec_l1Sign rfl rfl rfl ?_
    exact XE
   refine V_ret ?_
   obtain rfl := some_inj h
   show Post _ _ _ _ _
   exact ⟨.inr rfl, rfl, rfl, rfl⟩
  ·have h := of_false h hc4
   refine V_skip ?_
   show V _ _ _ _
   obtain ⟨z6, hz6, h⟩ := of_bind h
   obtain ⟨y7, hy7, h⟩ := of_bind h
   obtain ⟨z8, hz8, h⟩ := of_bind h
   obtain ⟨y9, hy9, h⟩ := of_bind h
   refine V_sdreg [0, 0, 3, 0, 8, 0, 56, 127, 255] 9 (cdm 9 [10888, 10882, 10885, 2090, 2154, 682, 1386, 5461, 21845]) (mb 34 387) [] (s1 := ⟨I a1 :: I b2 :: bt 5 (I y3 :: I y9 :: bt 25 []), []⟩) (by kernel_rfl) (by kernel_rfl) ?_ ?_
   ·refine DR 2 ?_
    refine DE_0 2 (I (w64 (Int.tdiv a1 y3))) (by kernel_rfl) rfl rfl rfl (gsat_none rfl) (by kernel_rfl) (Y0_quo64 (a := a1) (b := y3) rfl (by kernel_rfl) (by kernel_rfl) (nz_some hz6)) 19 rfl ?_
    refine DR 1 ?_
    refine DC 4 (s_spec_l1Abs hy7) cf_spec_l1Abs rfl rfl rfl rfl 21 rfl ?_
    refine DR 1 ?_
    refine DE_0 6 (I (w64 (Int.tdiv y7 y3))) (by kernel_rfl) rfl rfl rfl (gsat_none rfl) (by kernel_rfl) (Y0_quo64 (a := y7) (b := y3) rfl (by kernel_rfl) (by kernel_rfl) (nz_some hz8)) 23 rfl ?_
    refine DC 7 (s_spec_nuInverse hy9) cf_spec_nuInverse rfl rfl rfl rfl 24 rfl ?_
    refine DA 1 ?_
    exact XE
   obtain ⟨z10, hz10, h⟩ := of_bind h
   obtain ⟨t11, ht11, h⟩ := of_sI h
   refine V_sdreg [0, 0, 0, 0, 0, 24, 60, 0, 252, 1, 515, 2047] 12 (cdm 12 [174760, 699042, 2656906, 2654762, 2654378, 2654570, 2655578, 2632362, 2643290, 174761, 436901, 1398101]) (mb 34 112) [] (s1 := ⟨bt 4 (I y3 :: I y9 :: I t11 :: bt 27 []), []⟩) (by kernel_rfl) (by kernel_rfl) ?_ ?_
   ·refine DR 8 ?_
    refine DE_0 8 (I (w64 (Int.tdiv (w64 (y3 - (w64 (a1 * y9)))) b2))) (by kernel_rfl) rfl rfl rfl (gsat_none rfl) (by kernel_rfl) (Y0_quo64 (a := w64 (y3 - (w64 (a1 * y9)))) (b := b2) rfl (by kernel_rfl) (by kernel_rfl) (nz_some hz10)) 33 rfl ?_
    refine DA 3 ?_
    refine XL_nil ?_
    subst ht11
    kernel_rfl
   refine V_ret ?_
   obtain rfl := some_inj h
   show Post _ _ _ _ _
   exact ⟨.inr rfl, rfl, rfl, rfl⟩
theorem cf_spec_vaComplete : ∀ args w, (callFunc 166 args).run Try.prog w = .ok (.enter 166 args) w := run_callFunc Try.func166 (by kernel_rfl) (by kernel_rfl)
theorem s_spec_vaComplete {f1 : (Int × Int × Int)} {x2 : Int} {y3 : Int} {r : (((Int × Int × Int)) × ((Int × Int × Int × Int)))} (h : r_spec_vaComplete f1 x2 y3 = some r) : CallS Try.prog 166 [.ag [Ti f1.1, Ti f1.2.1, Ti f1.2.2], I x2, I y3] (.tc (.ag [Ti r.1.1, Ti r.1.2.1, Ti r.1.2.2]) (.tc (.ag [Ti r.2.1, Ti r.2.2.1, Ti r.2.2.2.1, Ti r.2.2.2.2]) .tn)) [] := by
  refine CallS_of_text (rs := [.w 6 3, .w 7 4]) (vs := [.cell 6 45, .cell 7 110]) Try.func166 rfl rfl (.cons ⟨rfl, wd45⟩ (.cons ⟨rfl, wd110⟩ FitsL.nil)) (by decide) 76 rfl ?_
  unfold r_spec_vaComplete at h
  show V _ _ ⟨.ag [Ti f1.1, Ti f1.2.1, Ti f1.2.2] :: I x2 :: I y3 :: bt 73 [], []⟩ _
  refine V_e (mb 76 206) [56, 48, 24] (s1 := ⟨.bot :: I x2 :: I y3 :: .pt 24 0 :: .bot :: .bot :: .pt 48 0 :: .pt 56 0 :: bt 68 [], [(56, .box [Ti 0, Ti 0, Ti 0, Ti 0]), (48, .box [Ti 0, Ti 0, Ti 0]), (24, .box [Ti f1.1, Ti f1.2.1, Ti f1.2.2])]⟩) ?_
  obtain ⟨y4, hy4, h⟩ := of_bind h
  refine V_sreg (mb 76 1742) [56, 48, 24] (s1 := ⟨.bot :: I x2 :: I y3 :: .pt 24 0 :: .bot :: .bot :: .pt 48 0 :: .pt 56 0 :: .bot :: I y4.2.1 :: I y4.2.2 :: bt 65 [], [(56, .box [Ti 0, Ti 0, Ti 0, Ti 0]), (48, .box [Ti 0, Ti 0, Ti 0]), (24, .box [Ti f1.1, Ti f1.2.1, Ti f1.2.2])]⟩) ?_ ?_
  ·refine XR 2 ?_
   refine XC (s_spec_nuBezout hy4) cf_spec_nuBezout rfl rfl rfl ?_
   exact XE
  obtain ⟨y5, hy5, h⟩ := of_bind h
  obtain ⟨q6, hq6, h⟩ := of_sI h
  refine V_sreg (mb 76 6862) [56, 48, 24] (s1 := ⟨.bot :: I x2 :: I y3 :: .pt 24 0 :: .bot :: .bot :: .pt 48 0 :: .pt 56 0 :: .bot :: I y4.2.1 :: .bot :: I q6 :: I y5 :: bt 63 [], [(56, .box [Ti 0, Ti 0, Ti 0, Ti 0]), (48, .box [Ti 0, Ti 0, Ti 0]), (24, .box [Ti f1.1, Ti f1.2.1, Ti f1.2.2])]⟩) ?_ ?_
  ·refine XR 5 ?_
   refine XC (s_spec_foValue hy5) cf_spec_foValue rfl rfl rfl ?_
   refine XR 2 ?_
   refine XL_nil ?_
   subst hq6
   kernel_rfl
  obtain ⟨y7, hy7, h⟩ := of_bind h
  refine V_sreg (mb 76 15054) [56, 48, 24] (s1 := ⟨.bot :: I x2 :: I y3 :: .pt 24 0 :: .bot :: .bot :: .pt 48 0 :: .pt 56 0 :: .bot :: I y4.2.1 :: .bot :: I q6 :: I y5 :: I y7 :: bt 62 [], [(56, .box [Ti 0, Ti 0, Ti 0, Ti 0]), (48, .box [Ti 0, Ti 0, Ti 0]), (24, .box [Ti f1.1, Ti f1.2.1, Ti f1.2.2])]⟩) ?_ ?_
  ·refine XR 5 ?_
   refine XC (s_spec_foPolar hy7) cf_spec_foPolar rfl rfl rfl ?_
   exact XE
  obtain ⟨y8, hy8, h⟩ := of_bind h
  obtain ⟨z9, hz9, h⟩ := of_bind h
  obtain ⟨t10, ht10, h⟩ := of_sI h
  refine V_sreg (mb 76 31438) [56, 48, 24] (s1 := ⟨.bot :: I x2 :: I y3 :: .pt 24 0 :: .bot :: .bot :: .pt 48 0 :: .pt 56 0 :: .bot :: I y4.2.1 :: .bot :: I q6 :: I y5 :: I y7 :: I t10 :: bt 61 [], [(56, .box [Ti 0, Ti 0, Ti 0, Ti 0]), (48, .box [Ti 0, Ti 0, Ti 0]), (24, .box [Ti f1.1, Ti f1.2.1, Ti f1.2.2])]⟩) ?_ ?_
  ·refine XR 3 ?_
   refine XC (s_spec_nuMod hy8) cf_spec_nuMod rfl rfl rfl ?_
   refine XR 4 ?_
   refine L0 rfl rfl (Y0_quo64 (a := w64 (y8 - y7)) (b := w64 (2 * y5)) rfl (by kernel_rfl) (by kernel_rfl) (nz_some hz9)) ?_
   refine XR 1 ?_
   refine XL_nil ?_
   subst ht10
   kernel_rfl
  obtain ⟨f11, hf11, h⟩ := of_sI h
  obtain ⟨f12, hf12, h⟩ := of_sI h
  refine V_sreg (mb 76 61640) [120, 56, 48, 24] (s1 := ⟨bt 3 (.pt 24 0 :: .bot :: .bot :: .pt 48 0 :: .pt 56 0 :: bt 4 (I y5 :: I y7 :: I t10 :: .pt 120 0 :: bt 60 [])), [(120, .box [Ti x2, Ti f11, Ti y3, Ti f12]), (56, .box [Ti 0, Ti 0, Ti 0, Ti 0]), (48, .box [Ti 0, Ti 0, Ti 0]), (24, .box [Ti f1.1, Ti f1.2.1, Ti f1.2.2])]⟩) ?_ ?_
  ·refine XR 12 ?_
   refine L0 rfl rfl (Y0_build (cs := [Ti x2, Ti (w64 (q6 + (w64 (x2 * t10)))), Ti y3, Ti (w64 (y4.2.1 + (w64 (y3 * t10))))]) pl110 bt110 rfl rfl (by kernel_rfl)) ?_
   refine XR 2 ?_
   refine XL_nil ?_
   subst hf11 hf12
   kernel_rfl
  obtain ⟨b13, hb13, h⟩ := of_sI h
  refine V_sreg (mb 76 45256) [120, 56, 48, 24] (s1 := ⟨bt 3 (.pt 24 0 :: .bot :: .bot :: .pt 48 0 :: .pt 56 0 :: bt 4 (I y5 :: I b13 :: .bot :: .pt 120 0 :: bt 60 [])), [(120, .box [Ti x2, Ti f11, Ti y3, Ti f12]), (56, .box [Ti 0, Ti 0, Ti 0, Ti 0]), (48, .box [Ti 0, Ti 0, Ti 0]), (24, .box [Ti f1.1, Ti f1.2.1, Ti f1.2.2])]⟩) ?_ ?_
  ·refine XR 7 ?_
   refine XL_nil ?_
   subst hb13
   kernel_rfl
  obtain ⟨y14, hy14, h⟩ := of_bind h
  obtain ⟨z15, hz15, h⟩ := of_bind h
  obtain ⟨f16, hf16, h⟩ := of_sI h
  refine V_sdreg [0, 0, 0, 0, 12, 0, 32, 124, 0, 256, 1020, 2047, 0, 4095, 16383] 14 [[.z, .b, .b, .b, .b, .b, .b, .b, .b, .b, .b, .z, .b, .z], [.b, .z, .b, .b, .b, .b, .b, .b, .b, .b, .b, .z, .b, .z], [.b, .b, .z, .b, .z, .b, .b, .z, .b, .b, .z, .z, .b, .z], [.b, .b, .b, .z, .z, .b, .b, .z, .b, .b, .z, .z, .b, .z], [.b, .b, .a, .a, .z, .b, .b, .z, .b, .b, .z, .z, .b, .z], [.b, .b, .b, .b, .b, .z, .z, .z, .b, .b, .z, .z, .b, .z], [.b, .b, .b, .b, .b, .a, .z, .z, .b, .b, .z, .z, .b, .z], [.b, .b, .a, .a, .a, .a, .a, .z, .b, .b, .z, .z, .b, .z], [.b, .b, .b, .b, .b, .b, .b, .b, .z, .z, .z, .z, .b, .z], [.b, .b, .b, .b, .b, .b, .b, .b, .a, .z, .z, .z, .b, .z], [.b, .b, .a, .a, .a, .a, .a, .a, .a, .a, .z, .z, .b, .z], [.a, .a, .a, .a, .a, .a, .a, .a, .a, .a, .a, .z, .b, .z], [.b, .b, .b, .b, .b, .b, .b, .b, .b, .b, .b, .b, .z, .r 48], [.a, .a, .a, .a, .a, .a, .a, .a, .a, .a, .a, .a, .b, .z]] (mb 76 192) [56, 48] (s1 := ⟨bt 6 (.pt 48 0 :: .pt 56 0 :: bt 68 []), [(56, .box [Ti x2, Ti f11, Ti y3, Ti f12]), (48, .box [Ti y5, Ti b13, Ti f16])]⟩) (by kernel_rfl) (by kernel_rfl) ?_ ?_
  ·refine DR 6 ?_
   refine DC 6 (s_spec_foDisc hy14) cf_spec_foDisc rfl rfl rfl rfl 69 rfl ?_
   refine DR 3 ?_
   refine DE_0 10 (I (w64 (Int.tdiv (w64 ((w64 (b13 * b13)) - y14)) (w64 (4 * y5))))) (by kernel_rfl) rfl rfl rfl (gsat_none rfl) (by kernel_rfl) (Y0_quo64 (a := w64 ((w64 (b13 * b13)) - y14)) (b := w64 (4 * y5)) rfl (by kernel_rfl) (by kernel_rfl) (nz_some hz15)) 73 rfl ?_
   refine DE_0 11 (.ag [Ti y5, Ti b13, Ti (w64 (Int.tdiv (w64 ((w64 (b13 * b13)) - y14)) (w64 (4 * y5))))]) (by kernel_rfl) rfl rfl rfl (gsat_none rfl) (by kernel_rfl) (Y0_build (cs := [Ti y5, Ti b13, Ti (w64 (Int.tdiv (w64 ((w64 (b13 * b13)) - y14)) (w64 (4 * y5))))]) pl45 bt45 rfl rfl (by kernel_rfl)) 74 rfl ?_
   refine DA 2 ?_
   refine XR 1 ?_
   refine XL_nil ?_
   subst hf16
   kernel_rfl
  refine V_ret ?_
  obtain rfl := some_inj h
  show Post _ _ _ _ _
  exact ⟨.inr rfl, rfl, rfl, rfl⟩
theorem cf_spec_nuCommon : ∀ args w, (callFunc 62 args).run Try.prog w = .ok (.enter 62 args) w := run_callFunc Try.func62 (by kernel_rfl) (by kernel_rfl)
theorem s_spec_nuCommon {a1 : Int} {vm2 : Int} {b3 : Int} {vn4 : Int} {r : (Int × Int × Bool)} (h : r_spec_nuCommon a1 vm2 b3 vn4 = some r) : CallS Try.prog 62 [I a1, I vm2, I b3, I vn4] (.tc (I r.1) (.tc (I r.2.1) (.tc (Bo r.2.2) .tn))) [] := by
  refine CallS_of_text (rs := [.t 8, .t 9, .t 10]) (vs := [.tmp 8, .tmp 9, .tmp 10]) Try.func62 rfl rfl (.cons rfl (.cons rfl (.cons rfl FitsL.nil))) (by decide) 53 rfl ?_
  unfold r_spec_nuCommon at h
  show V _ _ ⟨I a1 :: I vm2 :: I b3 :: I vn4 :: bt 49 [], []⟩ _
  refine V_e (mb 53 15) [] (s1 := ⟨I a1 :: I vm2 :: I b3 :: I vn4 :: bt 49 [], []⟩) ?_
  obtain ⟨y5, hy5, h⟩ := of_bind h
  refine V_sreg (mb 53 2063) [] (s1 := ⟨I a1 :: I vm2 :: I b3 :: I vn4 :: bt 7 (I y5 :: bt 41 []), []⟩) ?_ ?_
  ·refine XR 2 ?_
   refine XC (s_spec_nuGcd hy5) cf_spec_nuGcd rfl rfl rfl ?_
   exact XE
  refine V_seq ?_
  obtain ⟨z6, hz6, h⟩ := of_bind h
  refine V_sreg (mb 53 4196367) [] (s1 := ⟨I a1 :: I vm2 :: I b3 :: I vn4 :: bt 7 (I y5 :: bt 10 (Bo (!eqI (Int.tmod (w64 (b3 - a1)) y5) 0) :: bt 30 [])), []⟩) ?_ ?_
  ·refine XR 4 ?_
   refine L0 rfl rfl (Y0_rem (k := .i64) (a := w64 (b3 - a1)) (b := y5) rfl (by kernel_rfl) (by kernel_rfl) (nz_some hz6)) ?_
   exact XE
  refine V_cond rfl (fun hc7 => ?_) (fun hc7 => ?_)
  ·have h := of_true h hc7
   refine V_e (mb 53 1792) [] (s1 := ⟨bt 8 (I 0 :: I 0 :: Bo false :: bt 42 []), []⟩) ?_
   refine V_ret ?_
   obtain rfl := some_inj h
   show Post _ _ _ _ _
   exact ⟨.inr rfl, rfl, rfl, rfl⟩
  ·have h := of_false h hc7
   refine V_skip ?_
   show V _ _ _ _
   obtain ⟨z8, hz8, h⟩ := of_bind h
   obtain ⟨z9, hz9, h⟩ := of_bind h
   obtain ⟨z10, hz10, h⟩ := of_bind h
   obtain ⟨y11, hy11, h⟩ := of_bind h
   obtain ⟨z12, hz12, h⟩ := of_bind h
   obtain ⟨y13, hy13, h⟩ := of_bind h
   refine V_sdreg [0, 0, 3, 0, 15, 0, 0, 96, 0, 0, 768, 2016, 4095, 0, 0, 24576, 65535, 131071] 18 (cdm 18 [2829756552, 2829756546, 2829756549, 2829756458, 2829756501, 2821333674, 2821327530, 2821330602, 2819140266, 2818747050, 2818943658, 2819970730, 2824164693, 581610154, 178956970, 380283562, 1431655765, 5726623061]) (mb 53 6155) [] (s1 := ⟨I a1 :: I vm2 :: .bot :: I vn4 :: bt 7 (I y5 :: I y13 :: bt 40 []), []⟩) (by kernel_rfl) (by kernel_rfl) ?_ ?_
   ·refine DR 4 ?_
    refine DE_0 4 (I (w64 (Int.tdiv (w64 (b3 - a1)) y5))) (by kernel_rfl) rfl rfl rfl (gsat_none rfl) (by kernel_rfl) (Y0_quo64 (a := w64 (b3 - a1)) (b := y5) rfl (by kernel_rfl) (by kernel_rfl) (nz_some hz8)) 27 rfl ?_
    refine DR 2 ?_
    refine DE_0 7 (I (w64 (Int.tdiv vm2 y5))) (by kernel_rfl) rfl rfl rfl (gsat_none rfl) (by kernel_rfl) (Y0_quo64 (a := vm2) (b := y5) rfl (by kernel_rfl) (by kernel_rfl) (nz_some hz9)) 30 rfl ?_
    refine DR 2 ?_
    refine DE_0 10 (I (w64 (Int.tdiv vn4 y5))) (by kernel_rfl) rfl rfl rfl (gsat_none rfl) (by kernel_rfl) (Y0_quo64 (a := vn4) (b := y5) rfl (by kernel_rfl) (by kernel_rfl) (nz_some hz10)) 33 rfl ?_
    refine DC 11 (s_spec_nuInverse hy11) cf_spec_nuInverse rfl rfl rfl rfl 34 rfl ?_
    refine DR 3 ?_
    refine DE_0 15 (I (w64 (Int.tdiv vn4 y5))) (by kernel_rfl) rfl rfl rfl (gsat_none rfl) (by kernel_rfl) (Y0_quo64 (a := vn4) (b := y5) rfl (by kernel_rfl) (by kernel_rfl) (nz_some hz12)) 38 rfl ?_
    refine DC 16 (s_spec_nuMod hy13) cf_spec_nuMod rfl rfl rfl rfl 39 rfl ?_
    refine DA 1 ?_
    exact XE
   obtain ⟨z14, hz14, h⟩ := of_bind h
   obtain ⟨all15, hall15, h⟩ := of_sI h
   refine V_sreg (mb 53 12291) [] (s1 := ⟨I a1 :: I vm2 :: bt 10 (I y13 :: I all15 :: bt 39 []), []⟩) ?_ ?_
   ·refine XR 2 ?_
    refine L0 rfl rfl (Y0_quo64 (a := vm2) (b := y5) rfl (by kernel_rfl) (by kernel_rfl) (nz_some hz14)) ?_
    refine XR 3 ?_
    refine XL_nil ?_
    subst hall15
    kernel_rfl
   obtain ⟨y16, hy16, h⟩ := of_bind h
   refine V_sreg (mb 53 1792) [] (s1 := ⟨bt 8 (I y16 :: I all15 :: Bo true :: bt 42 []), []⟩) ?_ ?_
   ·refine XR 6 ?_
    refine XC (s_spec_nuMod hy16) cf_spec_nuMod rfl rfl rfl ?_
    exact XE
   refine V_ret ?_
   obtain rfl := some_inj h
   show Post _ _ _ _ _
   exact ⟨.inr rfl, rfl, rfl, rfl⟩
theorem cf_spec_lvMake : ∀ args w, (callFunc 106 args).run Try.prog w = .ok (.enter 106 args) w := run_callFunc Try.func106 (by kernel_rfl) (by kernel_rfl)
theorem s_spec_lvMake {f1 : (Int × Int × Int)} {vn2 : Int} {vr3 : Int} {r : (Int × Int × Int)} (h : r_spec_lvMake f1 vn2 vr3 = some r) : CallS Try.prog 106 [.ag [Ti f1.1, Ti f1.2.1, Ti f1.2.2], I vn2, I vr3] (.ag [Ti r.1, Ti r.2.1, Ti r.2.2]) [] := by
  refine CallS_of_text (rs := [.w 6 3]) (vs := [.cell 6 45]) Try.func106 rfl rfl (.cons ⟨rfl, wd45⟩ FitsL.nil) (by decide) 69 rfl ?_
  unfold r_spec_lvMake at h
  show V _ _ ⟨.ag [Ti f1.1, Ti f1.2.1, Ti f1.2.2] :: I vn2 :: I vr3 :: bt 66 [], []⟩ _
  refine V_e (mb 69 78) [48, 24] (s1 := ⟨.bot :: I vn2 :: I vr3 :: .pt 24 0 :: .bot :: .bot :: .pt 48 0 :: bt 62 [], [(48, .box [Ti 0, Ti 0, Ti 0]), (24, .box [Ti f1.1, Ti f1.2.1, Ti f1.2.2])]⟩) ?_
  obtain ⟨y4, hy4, h⟩ := of_bind h
  refine V_sreg (mb 69 198) [56, 48] (s1 := ⟨.bot :: I vn2 :: I vr3 :: bt 3 (.pt 48 0 :: .pt 56 0 :: bt 61 []), [(56, .box [Ti y4.1, Ti y4.2.1, Ti y4.2.2]), (48, .box [Ti 0, Ti 0, Ti 0])]⟩) ?_ ?_
  ·refine XR 1 ?_
   refine XC (s_spec_reClass hy4) cf_spec_reClass rfl rfl rfl ?_
   exact XE
  obtain ⟨y5, hy5, h⟩ := of_bind h
  refine V_sreg (mb 69 966) [56, 48] (s1 := ⟨.bot :: I vn2 :: I vr3 :: bt 3 (.pt 48 0 :: .pt 56 0 :: I y5.1 :: I y5.2 :: bt 59 []), [(56, .box [Ti y4.1, Ti y4.2.1, Ti y4.2.2]), (48, .box [Ti 0, Ti 0, Ti 0])]⟩) ?_ ?_
  ·refine XR 2 ?_
   refine XC (s_spec_coPoint hy5) cf_spec_coPoint rfl rfl rfl ?_
   exact XE
  obtain ⟨y6, hy6, h⟩ := of_bind h
  refine V_sreg (mb 69 1222) [80, 56, 48] (s1 := ⟨.bot :: I vn2 :: I vr3 :: bt 3 (.pt 48 0 :: .pt 56 0 :: .bot :: .bot :: .pt 80 0 :: bt 58 []), [(80, .box [Ti y6.1.1, Ti y6.1.2.1, Ti y6.1.2.2]), (56, .box [Ti y4.1, Ti y4.2.1, Ti y4.2.2]), (48, .box [Ti 0, Ti 0, Ti 0])]⟩) ?_ ?_
  ·refine XR 3 ?_
   refine XC (s_spec_vaComplete hy6) cf_spec_vaComplete rfl rfl rfl ?_
   exact XE
  obtain ⟨y7, hy7, h⟩ := of_bind h
  obtain ⟨y8, hy8, h⟩ := of_bind h
  refine V_sdreg [0, 1, 0, 4, 12, 0, 32, 0, 128, 480, 0, 1024, 4095, 8191, 16383, 16383, 16383, 32767, 196607, 524287] 20 (cdm 20 [11184800, 11184801, 11184138, 11184154, 11184218, 10650282, 10651306, 10496682, 10513066, 10573482, 699050, 1747626, 5592405, 22369621, 10826896725, 43576022357, 174572524885, 11095332181, 27201459541, 91625968981]) (mb 69 13504) [80, 56, 48] (s1 := ⟨bt 6 (.pt 48 0 :: .pt 56 0 :: .bot :: .bot :: .pt 80 0 :: .bot :: I y8.1 :: I y8.2.1 :: bt 55 []), [(80, .box [Ti y6.1.1, Ti y6.1.2.1, Ti y6.1.2.2]), (56, .box [Ti y4.1, Ti y4.2.1, Ti y4.2.2]), (48, .box [Ti 0, Ti 0, Ti 0])]⟩) (by kernel_rfl) (by kernel_rfl) ?_ ?_
  ·refine DR 9 ?_
   refine DC 9 (s_spec_nuMod hy7) cf_spec_nuMod rfl rfl rfl rfl 40 rfl ?_
   refine DR 2 ?_
   refine DC 12 (s_spec_nuCommon hy8) cf_spec_nuCommon rfl rfl rfl rfl 43 rfl ?_
   refine DA 7 ?_
   exact XE
  obtain ⟨j9, hj9, h⟩ := of_bind h
  refine V_cutK (mb 69 5312) [80, 56, 48] (s1 := ⟨bt 6 (.pt 48 0 :: .pt 56 0 :: .bot :: .bot :: .pt 80 0 :: .bot :: I j9 :: bt 56 []), [(80, .box [Ti y6.1.1, Ti y6.1.2.1, Ti y6.1.2.2]), (56, .box [Ti y4.1, Ti y4.2.1, Ti y4.2.2]), (48, .box [Ti 0, Ti 0, Ti 0])]⟩) ?_ ?_
  ·clear h
   have h := hj9
   clear hj9
   refine V_sreg (mb 69 1125899906856128) [80, 56, 48] (s1 := ⟨bt 6 (.pt 48 0 :: .pt 56 0 :: .bot :: .bot :: .pt 80 0 :: .bot :: I y8.1 :: I y8.2.1 :: bt 36 (Bo (ltI (w64 (Int.tdiv y8.2.1 2)) y8.1) :: bt 18 [])), [(80, .box [Ti y6.1.1, Ti y6.1.2.1, Ti y6.1.2.2]), (56, .box [Ti y4.1, Ti y4.2.1, Ti y4.2.2]), (48, .box [Ti 0, Ti 0, Ti 0])]⟩) ?_ ?_
   ·refine XR 2 ?_
    refine L0 rfl rfl (Y0_quo64 (a := y8.2.1) (b := 2) rfl (by kernel_rfl) (by kernel_rfl) (by decide)) ?_
    exact XE
   refine V_cond rfl (fun hc10 => ?_) (fun hc10 => ?_)
   ·have h := of_true h hc10
    obtain ⟨b11, hb11, h⟩ := of_sI h
    refine V_reg (mb 69 5312) [80, 56, 48] (s1 := ⟨bt 6 (.pt 48 0 :: .pt 56 0 :: .bot :: .bot :: .pt 80 0 :: .bot :: I b11 :: bt 56 []), [(80, .box [Ti y6.1.1, Ti y6.1.2.1, Ti y6.1.2.2]), (56, .box [Ti y4.1, Ti y4.2.1, Ti y4.2.2]), (48, .box [Ti 0, Ti 0, Ti 0])]⟩) ?_ ?_
    ·refine XR 4 ?_
     refine XL_nil ?_
     subst hb11
     kernel_rfl
    obtain rfl := some_inj h
    show St.keep _ _ _ = _
    rfl
   ·have h := of_false h hc10
    refine V_skip ?_
    obtain rfl := some_inj h
    show St.keep _ _ _ = _
    rfl
  obtain ⟨y12, hy12, h⟩ := of_bind h
  obtain ⟨z13, hz13, h⟩ := of_bind h
  obtain ⟨f14, hf14, h⟩ := of_sI h
  obtain ⟨f15, hf15, h⟩ := of_sI h
  refine V_sdreg [0, 0, 3, 0, 8, 31, 0, 64, 192, 511, 0, 1024, 0, 4096, 16383, 32767] 15 (cdm 15 [178430600, 178430594, 178430597, 178429994, 178430058, 178430293, 178260650, 178264746, 178281130, 178345301, 168471210, 169519786, 11184810, 27962026, 89478485]) (mb 69 64) [48] (s1 := ⟨bt 6 (.pt 48 0 :: bt 62 []), [(48, .box [Ti f14, Ti f15, Ti y6.1.1])]⟩) (by kernel_rfl) (by kernel_rfl) ?_ ?_
  ·refine DR 4 ?_
   refine DC 4 (s_spec_foDisc hy12) cf_spec_foDisc rfl rfl rfl rfl 58 rfl ?_
   refine DR 4 ?_
   refine DE_0 9 (I (w64 (Int.tdiv (w64 ((w64 (j9 * j9)) - y12)) (w64 (4 * y6.1.1))))) (by kernel_rfl) rfl rfl rfl (gsat_none rfl) (by kernel_rfl) (Y0_quo64 (a := w64 ((w64 (j9 * j9)) - y12)) (b := w64 (4 * y6.1.1)) rfl (by kernel_rfl) (by kernel_rfl) (nz_some hz13)) 63 rfl ?_
   refine DR 4 ?_
   refine DE_0 14 (.ag [Ti (w64 (Int.tdiv (w64 ((w64 (j9 * j9)) - y12)) (w64 (4 * y6.1.1)))), Ti (w64 (0 - j9)), Ti y6.1.1]) (by kernel_rfl) rfl rfl rfl (gsat_none rfl) (by kernel_rfl) (Y0_build (cs := [Ti (w64 (Int.tdiv (w64 ((w64 (j9 * j9)) - y12)) (w64 (4 * y6.1.1)))), Ti (w64 (0 - j9)), Ti y6.1.1]) pl45 bt45 rfl rfl (by kernel_rfl)) 68 rfl ?_
   refine DA 0 ?_
   refine XR 1 ?_
   refine XL_nil ?_
   subst hf14 hf15
   kernel_rfl
  refine V_ret ?_
  obtain rfl := some_inj h
  show Post _ _ _ _ _
  exact ⟨.inr rfl, rfl, rfl, rfl⟩
theorem cf_spec_nuGood : ∀ args w, (callFunc 132 args).run Try.prog w = .ok (.enter 132 args) w := run_callFunc Try.func132 (by kernel_rfl) (by kernel_rfl)
theorem s_spec_nuGood {vn1 : Int} {r : Bool} (h : r_spec_nuGood vn1 = some r) : CallS Try.prog 132 [I vn1] (Bo r) [] := by
  refine CallS_of_text (rs := [.t 2]) (vs := [.tmp 2]) Try.func132 rfl rfl (.cons rfl FitsL.nil) (by decide) 5 rfl ?_
  unfold r_spec_nuGood at h
  show V _ _ ⟨I vn1 :: bt 4 [], []⟩ _
  refine V_e (mb 5 1) [] (s1 := ⟨I vn1 :: bt 4 [], []⟩) ?_
  obtain ⟨y2, hy2, h⟩ := of_bind h
  refine V_sreg (mb 5 4) [] (s1 := ⟨.bot :: .bot :: Bo y2 :: .bot :: .bot :: [], []⟩) ?_ ?_
  ·refine XR 1 ?_
   refine XC (s_spec_l1In hy2) cf_spec_l1In rfl rfl rfl ?_
   exact XE
  refine V_ret ?_
  obtain rfl := some_inj h
  show Post _ _ _ _ _
  exact ⟨.inr rfl, rfl, rfl, rfl⟩
theorem cf_spec_foGood : ∀ args w, (callFunc 107 args).run Try.prog w = .ok (.enter 107 args) w := run_callFunc Try.func107 (by kernel_rfl) (by kernel_rfl)
theorem s_spec_foGood {f1 : (Int × Int × Int)} {r : Bool} (h : r_spec_foGood f1 = some r) : CallS Try.prog 107 [.ag [Ti f1.1, Ti f1.2.1, Ti f1.2.2]] (Bo r) [] := by
  refine CallS_of_text (rs := [.t 2]) (vs := [.tmp 2]) Try.func107 rfl rfl (.cons rfl FitsL.nil) (by decide) 16 rfl ?_
  unfold r_spec_foGood at h
  show V _ _ ⟨.ag [Ti f1.1, Ti f1.2.1, Ti f1.2.2] :: bt 15 [], []⟩ _
  refine V_e (mb 16 2) [8] (s1 := ⟨.bot :: .pt 8 0 :: bt 14 [], [(8, .box [Ti f1.1, Ti f1.2.1, Ti f1.2.2])]⟩) ?_
  obtain ⟨y2, hy2, h⟩ := of_bind h
  obtain ⟨b5, hb5, h⟩ := of_bind h
  obtain ⟨b8, hb8, h⟩ := of_bind h
  refine V_sreg (mb 16 4) [] (s1 := ⟨.bot :: .bot :: Bo b8 :: bt 13 [], []⟩) ?_ ?_
  ·refine XR 2 ?_
   refine XC (s_spec_nuGood hy2) cf_spec_nuGood rfl rfl rfl ?_
   refine XR 1 ?_
   refine XL_split y2 (fun hc3 => ?_) (fun hc3 => ?_)
   ·have hb5 := of_true hb5 hc3
    obtain ⟨y4, hy4, hb5⟩ := of_bind hb5
    have hb5 := some_inj hb5
    refine XL_takeC _ rfl rfl (by kernel_rfl) hc3 (X_of_Y0 rfl (E_field (.pt 8 1) Try.underlying45 rfl sz3 rfl (by kernel_rfl) (by intro hh; cases hh))) ?_
    refine XL_takeC _ rfl rfl (by kernel_rfl) hc3 (X_of_Y0 rfl (Y0_load1 (c := Ti f1.2.1) (cs := [Ti f1.2.2]) sc3 rfl (by kernel_rfl))) ?_
    refine XL_takeC _ rfl rfl (by kernel_rfl) hc3 (X_of_Y1 rfl (Y1_call (s_spec_nuGood hy4) cf_spec_nuGood rfl (by kernel_rfl))) ?_
    refine XL_cons rfl (X_of_Y0 rfl (Y0_pickTe (b := y2) (p := y4) rfl (by kernel_rfl) hc3 (by kernel_rfl) hb5)) ?_
    refine XR 1 ?_
    refine XL_split b5 (fun hc6 => ?_) (fun hc6 => ?_)
    ·have hb8 := of_true hb8 hc6
     obtain ⟨y7, hy7, hb8⟩ := of_bind hb8
     have hb8 := some_inj hb8
     refine XL_takeC _ rfl rfl (by kernel_rfl) hc6 (X_of_Y0 rfl (E_field (.pt 8 2) Try.underlying45 rfl sz3 rfl (by kernel_rfl) (by intro hh; cases hh))) ?_
     refine XL_takeC _ rfl rfl (by kernel_rfl) hc6 (X_of_Y0 rfl (Y0_load1 (c := Ti f1.2.2) (cs := []) sc3 rfl (by kernel_rfl))) ?_
     refine XL_takeC _ rfl rfl (by kernel_rfl) hc6 (X_of_Y1 rfl (Y1_call (s_spec_nuGood hy7) cf_spec_nuGood rfl (by kernel_rfl))) ?_
     refine XL_cons rfl (X_of_Y0 rfl (Y0_pickTe (b := b5) (p := y7) rfl (by kernel_rfl) hc6 (by kernel_rfl) hb8)) ?_
     exact XE
    ·have hb8 := some_inj (of_false hb8 hc6)
     refine XL_skipT _ rfl rfl (by kernel_rfl) hc6 rfl ?_
     refine XL_skipT _ rfl rfl (by kernel_rfl) hc6 rfl ?_
     refine XL_skipT _ rfl rfl (by kernel_rfl) hc6 rfl ?_
     refine XL_cons rfl (X_of_Y0 rfl (Y0_pickFe (b := b5) (p := false) rfl (by kernel_rfl) hc6 (by kernel_rfl) hb8)) ?_
     exact XE
   ·have hb5 := some_inj (of_false hb5 hc3)
    refine XL_skipT _ rfl rfl (by kernel_rfl) hc3 rfl ?_
    refine XL_skipT _ rfl rfl (by kernel_rfl) hc3 rfl ?_
    refine XL_skipT _ rfl rfl (by kernel_rfl) hc3 rfl ?_
    refine XL_cons rfl (X_of_Y0 rfl (Y0_pickFe (b := y2) (p := false) rfl (by kernel_rfl) hc3 (by kernel_rfl) hb5)) ?_
    refine XR 1 ?_
    refine XL_split b5 (fun hc6 => ?_) (fun hc6 => ?_)
    ·have hb8 := of_true hb8 hc6
     obtain ⟨y7, hy7, hb8⟩ := of_bind hb8
     have hb8 := some_inj hb8
     refine XL_takeC _ rfl rfl (by kernel_rfl) hc6 (X_of_Y0 rfl (E_field (.pt 8 2) Try.underlying45 rfl sz3 rfl (by kernel_rfl) (by intro hh; cases hh))) ?_
     refine XL_takeC _ rfl rfl (by kernel_rfl) hc6 (X_of_Y0 rfl (Y0_load1 (c := Ti f1.2.2) (cs := []) sc3 rfl (by kernel_rfl))) ?_
     refine XL_takeC _ rfl rfl (by kernel_rfl) hc6 (X_of_Y1 rfl (Y1_call (s_spec_nuGood hy7) cf_spec_nuGood rfl (by kernel_rfl))) ?_
     refine XL_cons rfl (X_of_Y0 rfl (Y0_pickTe (b := b5) (p := y7) rfl (by kernel_rfl) hc6 (by kernel_rfl) hb8)) ?_
     exact XE
    ·have hb8 := some_inj (of_false hb8 hc6)
     refine XL_skipT _ rfl rfl (by kernel_rfl) hc6 rfl ?_
     refine XL_skipT _ rfl rfl (by kernel_rfl) hc6 rfl ?_
     refine XL_skipT _ rfl rfl (by kernel_rfl) hc6 rfl ?_
     refine XL_cons rfl (X_of_Y0 rfl (Y0_pickFe (b := b5) (p := false) rfl (by kernel_rfl) hc6 (by kernel_rfl) hb8)) ?_
     exact XE
  refine V_ret ?_
  obtain rfl := some_inj h
  show Post _ _ _ _ _
  exact ⟨.inr rfl, rfl, rfl, rfl⟩
theorem cf_spec_LevelClasses : ∀ args w, (callFunc 41 args).run Try.prog w = .ok (.enter 41 args) w := run_callFunc Try.func41 (by kernel_rfl) (by kernel_rfl)
theorem s_spec_LevelClasses {d1 : Int} {vn2 : Int} {r : ((List ((Int × Int × Int))) × Bool)} (h : r_spec_LevelClasses d1 vn2 = some r) : CallS Try.prog 41 [I d1, I vn2] (.tc (.ow 0) (.tc (Bo r.2) .tn)) [(0, .arr 45 3 (r.1.map c45))] := by
  refine CallS_of_text (rs := [.t 4, .t 5]) (vs := [.tmp 4, .tmp 5]) Try.func41 rfl rfl (.cons rfl (.cons rfl FitsL.nil)) (by decide) 50 rfl ?_
  unfold r_spec_LevelClasses at h
  show V _ _ ⟨I d1 :: I vn2 :: bt 48 [], []⟩ _
  refine V_sreg (mb 50 3) [] (s1 := ⟨I d1 :: I vn2 :: bt 48 [], []⟩) ?_ ?_
  ·refine L1 rfl rfl (Y1_nil (e := 45) 3 (by decide) (.inl rfl)) ?_
   exact XE
  refine V_seq ?_
  obtain ⟨y3, hy3, h⟩ := of_bind h
  obtain ⟨b6, hb6, h⟩ := of_bind h
  refine V_sreg (mb 50 1048579) [] (s1 := ⟨I d1 :: I vn2 :: bt 18 (Bo b6 :: bt 29 []), []⟩) ?_ ?_
  ·refine XR 1 ?_
   refine XC (s_spec_reDisc hy3) cf_spec_reDisc rfl rfl rfl ?_
   refine XR 2 ?_
   refine XL_split (!y3) (fun hc4 => ?_) (fun hc4 => ?_)
   ·have hb6 := some_inj (of_true hb6 hc4)
    refine XL_skipF _ rfl rfl (by kernel_rfl) hc4 rfl ?_
    refine XL_skipF _ rfl rfl (by kernel_rfl) hc4 rfl ?_
    refine XL_skipF _ rfl rfl (by kernel_rfl) hc4 rfl ?_
    refine XL_skipF _ rfl rfl (by kernel_rfl) hc4 rfl ?_
    refine XL_cons rfl (X_of_Y0 rfl (Y0_pickTe (b := !y3) (p := true) rfl (by kernel_rfl) hc4 (by kernel_rfl) hb6)) ?_
    exact XE
   ·have hb6 := of_false hb6 hc4
    obtain ⟨y5, hy5, hb6⟩ := of_bind hb6
    have hb6 := some_inj hb6
    refine XL_takeC _ rfl rfl (by kernel_rfl) hc4 (X_of_Y0 rfl (E_move (I d1) rfl (by kernel_rfl))) ?_
    refine XL_takeC _ rfl rfl (by kernel_rfl) hc4 (X_of_Y0 rfl (E_move (I vn2) rfl (by kernel_rfl))) ?_
    refine XL_takeC _ rfl rfl (by kernel_rfl) hc4 (X_of_Y1 rfl (Y1_call (s_spec_lvGood hy5) cf_spec_lvGood rfl (by kernel_rfl))) ?_
    refine XL_takeC _ rfl rfl (by kernel_rfl) hc4 (X_of_Y0 rfl (Y0_not (b := y5) rfl (by kernel_rfl))) ?_
    refine XL_cons rfl (X_of_Y0 rfl (Y0_pickFe (b := !y3) (p := !y5) rfl (by kernel_rfl) hc4 (by kernel_rfl) hb6)) ?_
    exact XE
  refine V_cond rfl (fun hc7 => ?_) (fun hc7 => ?_)
  ·have h := of_true h hc7
   refine V_sreg (mb 50 48) [32] (s1 := ⟨bt 4 (.ow 32 :: Bo false :: bt 44 []), [(32, .arr 45 3 ((([] : List ((Int × Int × Int)))).map c45))]⟩) ?_ ?_
   ·refine L1 rfl rfl (Y1_nil (e := 45) 3 (by decide) (.inl rfl)) ?_
    exact XE
   refine V_ret ?_
   obtain rfl := some_inj h
   show Post _ _ _ _ _
   exact ⟨.inr rfl, rfl, rfl, rfl⟩
  ·have h := of_false h hc7
   refine V_skip ?_
   show V _ _ _ _
   refine V_sreg (mb 50 67) [48] (s1 := ⟨I d1 :: I vn2 :: bt 4 (.ow 48 :: bt 43 []), [(48, .arr 45 3 ((([] : List ((Int × Int × Int)))).map c45))]⟩) ?_ ?_
   ·refine L1 rfl rfl (Y1_nil (e := 45) 3 (by decide) (.inl rfl)) ?_
    exact XE
   refine V_seq ?_
   obtain ⟨y8, hy8, h⟩ := of_bind h
   refine V_sreg (mb 50 58720323) [184, 48] (s1 := ⟨I d1 :: I vn2 :: bt 4 (.ow 48 :: bt 16 (.ow 184 :: I ((y8.length : Int)) :: I 0 :: bt 24 [])), [(184, .arr 3 1 (y8.map c3)), (48, .arr 45 3 ((([] : List ((Int × Int × Int)))).map c45))]⟩) ?_ ?_
   ·refine XR 2 ?_
    refine XC (s_spec_lvRoots hy8) cf_spec_lvRoots rfl rfl rfl ?_
    refine L0 rfl rfl (Y0_lenM (c := c3) (xs := y8) Try.underlying41 rfl (by kernel_rfl)) ?_
    exact XE
   obtain ⟨qo12, hLo12, hko12⟩ := of_bind h
   refine V_toS (q := qo12) (S := fun o12 => ⟨bt 6 (.ow 48 :: bt 43 []), [(48, .arr 45 3 (o12.map c45))]⟩) (mb 50 64) [48] ?_ ?_
   ·refine V_block (V_loop (fun n s => ∃ (t9 : Int) (l10 : List ((Int × Int × Int))), s.keep (mb 50 58720323) [184, 48] = (⟨I d1 :: I vn2 :: bt 4 (.ow 48 :: bt 16 (.ow 184 :: I ((y8.length : Int)) :: I t9 :: bt 24 [])), [(184, .arr 3 1 (y8.map c3)), (48, .arr 45 3 (l10.map c45))]⟩ : St) ∧ r_spec_LevelClasses_L11 d1 vn2 y8 n t9 l10 = some qo12) FU ⟨_, _,  by rfl, hLo12⟩ ?_)
    clear hLo12
    rintro n s ⟨t9, l10, hs, h⟩
    refine V_keep _ _ hs ?_
    clear hs
    cases n with
    | zero => cases h
    | succ n =>
     rw [r_spec_LevelClasses_L11] at h
     refine V_e (mb 50 125829187) [184, 48] (s1 := ⟨I d1 :: I vn2 :: bt 4 (.ow 48 :: bt 16 (.ow 184 :: I ((y8.length : Int)) :: I t9 :: Bo (ltI t9 ((y8.length : Int))) :: bt 23 [])), [(184, .arr 3 1 (y8.map c3)), (48, .arr 45 3 (l10.map c45))]⟩) ?_
     refine V_seq ?_
     refine V_cond rfl (fun hc13 => ?_) (fun hc13 => ?_)
     ·have h := of_true h hc13
      refine V_skip ?_
      show V _ _ _ _
      refine V_seq ?_
      refine V_block ?_
      obtain ⟨e14, he14, h⟩ := of_bind h
      obtain ⟨e15, he15, h⟩ := of_bind h
      refine V_sreg (mb 50 58720579) [184, 48] (s1 := ⟨I d1 :: I vn2 :: bt 4 (.ow 48 :: .bot :: I e15 :: bt 14 (.ow 184 :: I ((y8.length : Int)) :: I t9 :: bt 24 [])), [(184, .arr 3 1 (y8.map c3)), (48, .arr 45 3 (l10.map c45))]⟩) ?_ ?_
      ·refine L0 rfl rfl (Y0_idxoM (c := c3) (xs := y8) (v := e14) (id := 184) (T := 3) (sz := 1) (n := t9) Try.underlying41 sz3 rfl (by kernel_rfl) (by kernel_rfl) (by kernel_rfl) he14) ?_
       refine L0 rfl rfl (Y0_loado1 (c := c3) (xs := y8) (v := e15) (id := 184) (sz := 1) (T := 3) (off := 0) (n := t9) (d := Ti e15) (ds := []) sc3 rfl (by kernel_rfl) (by kernel_rfl) he15 (by kernel_rfl)) ?_
       exact XE
      obtain ⟨y16, hy16, h⟩ := of_bind h
      refine V_sreg (mb 50 7574913347) [240, 184, 48] (s1 := ⟨I d1 :: I vn2 :: bt 4 (.ow 48 :: .bot :: I e15 :: bt 14 (.ow 184 :: I ((y8.length : Int)) :: I t9 :: bt 4 (.ow 240 :: I ((y16.length : Int)) :: I 0 :: bt 17 []))), [(240, .arr 45 3 (y16.map c45)), (184, .arr 3 1 (y8.map c3)), (48, .arr 45 3 (l10.map c45))]⟩) ?_ ?_
      ·refine XR 1 ?_
       refine XC (s_spec_reList hy16) cf_spec_reList rfl rfl rfl ?_
       refine L0 rfl rfl (Y0_lenM (c := c45) (xs := y16) Try.underlying62 rfl (by kernel_rfl)) ?_
       exact XE
      obtain ⟨qo20, hLo20, hko20⟩ := of_bind h
      refine V_toS (q := qo20) (S := fun o20 => ⟨I d1 :: I vn2 :: bt 4 (.ow 48 :: bt 16 (.ow 184 :: I ((y8.length : Int)) :: I t9 :: bt 24 [])), [(184, .arr 3 1 (y8.map c3)), (48, .arr 45 3 (o20.map c45))]⟩) (mb 50 58720323) [184, 48] ?_ ?_
      ·refine V_block (V_loop (fun n s => ∃ (t17 : Int) (l18 : List ((Int × Int × Int))), s.keep (mb 50 7574913347) [240, 184, 48] = (⟨I d1 :: I vn2 :: bt 4 (.ow 48 :: .bot :: I e15 :: bt 14 (.ow 184 :: I ((y8.length : Int)) :: I t9 :: bt 4 (.ow 240 :: I ((y16.length : Int)) :: I t17 :: bt 17 []))), [(240, .arr 45 3 (y16.map c45)), (184, .arr 3 1 (y8.map c3)), (48, .arr 45 3 (l18.map c45))]⟩ : St) ∧ r_spec_LevelClasses_L19 d1 e15 t9 vn2 y16 y8 n t17 l18 = some qo20) FU ⟨_, _,  by rfl, hLo20⟩ ?_)
       clear hLo20
       rintro n s ⟨t17, l18, hs, h⟩
       refine V_keep _ _ hs ?_
       clear hs
       cases n with
       | zero => cases h
       | succ n =>
        rw [r_spec_LevelClasses_L19] at h
        refine V_e (mb 50 16164847939) [240, 184, 48] (s1 := ⟨I d1 :: I vn2 :: bt 4 (.ow 48 :: .bot :: I e15 :: bt 14 (.ow 184 :: I ((y8.length : Int)) :: I t9 :: bt 4 (.ow 240 :: I ((y16.length : Int)) :: I t17 :: Bo (ltI t17 ((y16.length : Int))) :: bt 16 []))), [(240, .arr 45 3 (y16.map c45)), (184, .arr 3 1 (y8.map c3)), (48, .arr 45 3 (l18.map c45))]⟩) ?_
        refine V_seq ?_
        refine V_cond rfl (fun hc21 => ?_) (fun hc21 => ?_)
        ·have h := of_true h hc21
         refine V_skip ?_
         show V _ _ _ _
         refine V_seq ?_
         refine V_block ?_
         obtain ⟨e22, he22, h⟩ := of_bind h
         obtain ⟨e23, he23, h⟩ := of_bind h
         refine V_sreg (mb 50 7574914371) [80, 240, 184, 48] (s1 := ⟨I d1 :: I vn2 :: bt 4 (.ow 48 :: .bot :: I e15 :: .bot :: .pt 80 0 :: bt 12 (.ow 184 :: I ((y8.length : Int)) :: I t9 :: bt 4 (.ow 240 :: I ((y16.length : Int)) :: I t17 :: bt 17 []))), [(80, .box [Ti e23.1, Ti e23.2.1, Ti e23.2.2]), (240, .arr 45 3 (y16.map c45)), (184, .arr 3 1 (y8.map c3)), (48, .arr 45 3 (l18.map c45))]⟩) ?_ ?_
         ·refine L0 rfl rfl (Y0_idxoM (c := c45) (xs := y16) (v := e22) (id := 240) (T := 45) (sz := 3) (n := t17) Try.underlying62 sz45 rfl (by kernel_rfl) (by kernel_rfl) (by kernel_rfl) he22) ?_
          refine L0 rfl rfl (E_loadon (c := c45) (xs := y16) (v := e23) (id := 240) (sz := 3) (T := 45) (off := 0) (n := t17) [Ti e23.1, Ti e23.2.1, Ti e23.2.2] wd45 rfl (by kernel_rfl) (by kernel_rfl) he23 (Nat.le_of_ble_eq_true rfl) (by kernel_rfl)) ?_
          exact XE
         obtain ⟨y24, hy24, h⟩ := of_bind h
         refine V_sreg (mb 50 7574915395) [88, 240, 184, 48] (s1 := ⟨I d1 :: I vn2 :: bt 4 (.ow 48 :: .bot :: I e15 :: .bot :: .bot :: .pt 88 0 :: bt 11 (.ow 184 :: I ((y8.length : Int)) :: I t9 :: bt 4 (.ow 240 :: I ((y16.length : Int)) :: I t17 :: bt 17 []))), [(88, .box [Ti y24.1, Ti y24.2.1, Ti y24.2.2]), (240, .arr 45 3 (y16.map c45)), (184, .arr 3 1 (y8.map c3)), (48, .arr 45 3 (l18.map c45))]⟩) ?_ ?_
         ·refine XR 3 ?_
          refine XC (s_spec_lvMake hy24) cf_spec_lvMake rfl rfl rfl ?_
          exact XE
         refine V_seq ?_
         obtain ⟨y25, hy25, h⟩ := of_bind h
         refine V_sreg (mb 50 4405621426499) [88, 240, 184, 48] (s1 := ⟨I d1 :: I vn2 :: bt 4 (.ow 48 :: .bot :: I e15 :: .bot :: .bot :: .pt 88 0 :: bt 11 (.ow 184 :: I ((y8.length : Int)) :: I t9 :: bt 4 (.ow 240 :: I ((y16.length : Int)) :: I t17 :: bt 9 (Bo (!y25) :: bt 7 [])))), [(88, .box [Ti y24.1, Ti y24.2.1, Ti y24.2.2]), (240, .arr 45 3 (y16.map c45)), (184, .arr 3 1 (y8.map c3)), (48, .arr 45 3 (l18.map c45))]⟩) ?_ ?_
         ·refine XR 1 ?_
          refine XC (s_spec_foGood hy25) cf_spec_foGood rfl rfl rfl ?_
          exact XE
         refine V_cond rfl (fun hc26 => ?_) (fun hc26 => ?_)
         ·have h := of_true h hc26
          refine V_sreg (mb 50 48) [32] (s1 := ⟨bt 4 (.ow 32 :: Bo false :: bt 44 []), [(32, .arr 45 3 ((([] : List ((Int × Int × Int)))).map c45))]⟩) ?_ ?_
          ·refine L1 rfl rfl (Y1_nil (e := 45) 3 (by decide) (.inl rfl)) ?_
           exact XE
          refine V_ret ?_
          obtain rfl := some_inj h
          have h := hko20
          obtain rfl := some_inj h
          have h := hko12
          obtain rfl := some_inj h
          show Post _ _ _ _ _
          exact ⟨.inr rfl, rfl, rfl, rfl⟩
         ·have h := of_false h hc26
          refine V_skip ?_
          show V _ _ _ _
          obtain ⟨u27, hu27, h⟩ := of_bind h
          refine V_reg (mb 50 7574913347) [240, 184, 48] (s1 := ⟨I d1 :: I vn2 :: bt 4 (.ow 48 :: .bot :: I e15 :: bt 14 (.ow 184 :: I ((y8.length : Int)) :: I t9 :: bt 4 (.ow 240 :: I ((y16.length : Int)) :: I t17 :: bt 17 []))), [(240, .arr 45 3 (y16.map c45)), (184, .arr 3 1 (y8.map c3)), (48, .arr 45 3 ((l18 ++ ([y24])).map c45))]⟩) ?_ ?_
          ·refine XR 2 ?_
           refine L1 rfl rfl (Y1_bslice (z := zv45) (els := [y24].map c45) Try.underlying62 iz45 rfl (by decide) rfl (by kernel_rfl) rfl (by simp [c45]) (by decide) (by decide)) ?_
           refine XL_cons rfl (X_appendM (c := c45) (xs := l18) (ys := [y24]) (id := 48) (z := zv45) rfl rfl Try.underlying62 izb45 rfl (by kernel_rfl) (by kernel_rfl) (by kernel_rfl) (fun _ => rfl) (by simp) (room_some hu27) (by decide)) ?_
           exact XE
          show V _ _ _ _
          obtain ⟨t28, ht28, h⟩ := of_sI h
          refine V_reg (mb 50 7574913347) [240, 184, 48] (s1 := ⟨I d1 :: I vn2 :: bt 4 (.ow 48 :: .bot :: I e15 :: bt 14 (.ow 184 :: I ((y8.length : Int)) :: I t9 :: bt 4 (.ow 240 :: I ((y16.length : Int)) :: I t28 :: bt 17 []))), [(240, .arr 45 3 (y16.map c45)), (184, .arr 3 1 (y8.map c3)), (48, .arr 45 3 ((l18 ++ ([y24])).map c45))]⟩) ?_ ?_
          ·refine XR 2 ?_
           refine XL_nil ?_
           subst ht28
           kernel_rfl
          exact ⟨n, Nat.lt_succ_self n, _, _,  by rfl, h⟩
        ·have h := of_false h hc21
         refine V_exit ?_
         obtain rfl := some_inj h
         exact ⟨_, rfl, by rfl⟩
      rintro o20 rfl
      have h := hko20
      clear hko20
      show V _ _ _ _
      obtain ⟨t29, ht29, h⟩ := of_sI h
      refine V_reg (mb 50 58720323) [184, 48] (s1 := ⟨I d1 :: I vn2 :: bt 4 (.ow 48 :: bt 16 (.ow 184 :: I ((y8.length : Int)) :: I t29 :: bt 24 [])), [(184, .arr 3 1 (y8.map c3)), (48, .arr 45 3 (o20.map c45))]⟩) ?_ ?_
      ·refine XR 2 ?_
       refine XL_nil ?_
       subst ht29
       kernel_rfl
      exact ⟨n, Nat.lt_succ_self n, _, _,  by rfl, h⟩
     ·have h := of_false h hc13
      refine V_exit ?_
      obtain rfl := some_inj h
      exact ⟨_, rfl, by rfl⟩
   rintro o12 rfl
   have h := hko12
   clear hko12
   show V _ _ _ _
   refine V_e (mb 50 48) [48] (s1 := ⟨bt 4 (.ow 48 :: Bo true :: bt 44 []), [(48, .arr 45 3 (o12.map c45))]⟩) ?_
   refine V_ret ?_
   obtain rfl := some_inj h
   show Post _ _ _ _ _
   exact ⟨.inr rfl, rfl, rfl, rfl⟩
theorem cf_laws_pSameForms : ∀ args w, (callFunc 42 args).run Try.prog w = .ok (.enter 42 args) w := run_callFunc Try.func42 (by kernel_rfl) (by kernel_rfl)
theorem s_laws_pSameForms {a1 : List ((Int × Int × Int))} {b2 : List ((Int × Int × Int))} {r : Bool} (h : r_laws_pSameForms a1 b2 = some r) : CallS Try.prog 42 [.c (.sl (a1.map c45)), .c (.sl (b2.map c45))] (Bo r) [] := by
  refine CallS_of_text (rs := [.t 4]) (vs := [.tmp 4]) Try.func42 rfl rfl (.cons rfl FitsL.nil) (by decide) 26 rfl ?_
  unfold r_laws_pSameForms at h
  show V _ _ ⟨.c (.sl (a1.map c45)) :: .c (.sl (b2.map c45)) :: bt 24 [], []⟩ _
  refine V_e (mb 26 3) [] (s1 := ⟨.c (.sl (a1.map c45)) :: .c (.sl (b2.map c45)) :: bt 24 [], []⟩) ?_
  refine V_seq ?_
  refine V_sreg (mb 26 1027) [] (s1 := ⟨.c (.sl (a1.map c45)) :: .c (.sl (b2.map c45)) :: bt 8 (Bo (!eqI ((a1.length : Int)) ((b2.length : Int))) :: bt 15 []), []⟩) ?_ ?_
  ·refine XR 1 ?_
   refine L0 rfl rfl (Y0_lenM (c := c45) (xs := a1) Try.underlying62 rfl (by kernel_rfl)) ?_
   refine XR 1 ?_
   refine L0 rfl rfl (Y0_lenM (c := c45) (xs := b2) Try.underlying62 rfl (by kernel_rfl)) ?_
   exact XE
  refine V_cond rfl (fun hc3 => ?_) (fun hc3 => ?_)
  ·have h := of_true h hc3
   refine V_e (mb 26 16) [] (s1 := ⟨bt 4 (Bo false :: bt 21 []), []⟩) ?_
   refine V_ret ?_
   obtain rfl := some_inj h
   show Post _ _ _ _ _
   exact ⟨.inr rfl, rfl, rfl, rfl⟩
  ·have h := of_false h hc3
   refine V_skip ?_
   show V _ _ _ _
   refine V_seq ?_
   refine V_sreg (mb 26 12291) [] (s1 := ⟨.c (.sl (a1.map c45)) :: .c (.sl (b2.map c45)) :: bt 10 (I ((a1.length : Int)) :: I 0 :: bt 12 []), []⟩) ?_ ?_
   ·refine XR 1 ?_
    refine L0 rfl rfl (Y0_lenM (c := c45) (xs := a1) Try.underlying62 rfl (by kernel_rfl)) ?_
    exact XE
   obtain ⟨qo6, hLo6, hko6⟩ := of_bind h
   refine V_toS (q := qo6) (S := fun o6 => ⟨bt 26 [], []⟩) (mb 26 0) [] ?_ ?_
   ·refine V_block (V_loop (fun n s => ∃ (t4 : Int), s.keep (mb 26 12291) [] = (⟨.c (.sl (a1.map c45)) :: .c (.sl (b2.map c45)) :: bt 10 (I ((a1.length : Int)) :: I t4 :: bt 12 []), []⟩ : St) ∧ r_laws_pSameForms_L5 a1 b2 n t4 = some qo6) FU ⟨_,  by rfl, hLo6⟩ ?_)
    clear hLo6
    rintro n s ⟨t4, hs, h⟩
    refine V_keep _ _ hs ?_
    clear hs
    cases n with
    | zero => cases h
    | succ n =>
     rw [r_laws_pSameForms_L5] at h
     refine V_e (mb 26 28675) [] (s1 := ⟨.c (.sl (a1.map c45)) :: .c (.sl (b2.map c45)) :: bt 10 (I ((a1.length : Int)) :: I t4 :: Bo (ltI t4 ((a1.length : Int))) :: bt 11 []), []⟩) ?_
     refine V_seq ?_
     refine V_cond rfl (fun hc7 => ?_) (fun hc7 => ?_)
     ·have h := of_true h hc7
      refine V_skip ?_
      show V _ _ _ _
      refine V_seq ?_
      refine V_block ?_
      refine V_e (mb 26 12323) [] (s1 := ⟨.c (.sl (a1.map c45)) :: .c (.sl (b2.map c45)) :: bt 3 (I t4 :: bt 6 (I ((a1.length : Int)) :: I t4 :: bt 12 [])), []⟩) ?_
      obtain ⟨e8, he8, h⟩ := of_bind h
      obtain ⟨e9, he9, h⟩ := of_bind h
      obtain ⟨t10, ht10, h⟩ := of_bind h
      have ht10 := some_inj ht10
      refine V_sdreg [0, 0, 3, 7, 0, 0, 48, 112, 255] 9 (cdm 9 [43528, 43522, 43525, 43541, 2218, 682, 1450, 5546, 21845]) (mb 26 16789507) [] (s1 := ⟨.c (.sl (a1.map c45)) :: .c (.sl (b2.map c45)) :: bt 10 (I ((a1.length : Int)) :: I t4 :: bt 10 (Bo t10 :: .bot :: [])), []⟩) (by kernel_rfl) (by kernel_rfl) ?_ ?_
      ·refine DR 2 ?_
       refine DE_0 2 (.pe [Ti e8.1, Ti e8.2.1, Ti e8.2.2]) (by kernel_rfl) rfl rfl rfl (gsat_none rfl) (by kernel_rfl) (Y0_idxM (c := c45) (xs := a1) (v := e8) (n := t4) Try.underlying62 sz45 rfl (by kernel_rfl) (by kernel_rfl) he8) 18 rfl ?_
       refine DR 3 ?_
       refine DE_0 6 (.pe [Ti e9.1, Ti e9.2.1, Ti e9.2.2]) (by kernel_rfl) rfl rfl rfl (gsat_none rfl) (by kernel_rfl) (Y0_idxM (c := c45) (xs := b2) (v := e9) (n := t4) Try.underlying62 sz45 rfl (by kernel_rfl) (by kernel_rfl) he9) 22 rfl ?_
       refine DR 1 ?_
       refine DE_0 8 (Bo (!((e8.1 == e9.1) && ((e8.2.1 == e9.2.1) && (e8.2.2 == e9.2.2))))) (by kernel_rfl) rfl rfl rfl (gsat_none rfl) (by kernel_rfl) (Y0_neg3 (a0 := e8.1) (b0 := e9.1) (a1 := e8.2.1) (b1 := e9.2.1) (a2 := e8.2.2) (b2 := e9.2.2) neg45 rfl (by kernel_rfl) (by kernel_rfl)) 24 rfl ?_
       refine DA 0 ?_
       refine XL_nil ?_
       subst ht10
       kernel_rfl
      refine V_cond rfl (fun hc11 => ?_) (fun hc11 => ?_)
      ·have h := of_true h hc11
       refine V_e (mb 26 16) [] (s1 := ⟨bt 4 (Bo false :: bt 21 []), []⟩) ?_
       refine V_ret ?_
       obtain rfl := some_inj h
       have h := hko6
       obtain rfl := some_inj h
       show Post _ _ _ _ _
       exact ⟨.inr rfl, rfl, rfl, rfl⟩
      ·have h := of_false h hc11
       refine V_skip ?_
       show V _ _ _ _
       obtain ⟨t12, ht12, h⟩ := of_sI h
       refine V_reg (mb 26 12291) [] (s1 := ⟨.c (.sl (a1.map c45)) :: .c (.sl (b2.map c45)) :: bt 10 (I ((a1.length : Int)) :: I t12 :: bt 12 []), []⟩) ?_ ?_
       ·refine XR 2 ?_
        refine XL_nil ?_
        subst ht12
        kernel_rfl
       exact ⟨n, Nat.lt_succ_self n, _,  by rfl, h⟩
     ·have h := of_false h hc7
      refine V_exit ?_
      obtain rfl := some_inj h
      exact ⟨_, rfl, by rfl⟩
   rintro o6 rfl
   have h := hko6
   clear hko6
   show V _ _ _ _
   refine V_e (mb 26 16) [] (s1 := ⟨bt 4 (Bo true :: bt 21 []), []⟩) ?_
   refine V_ret ?_
   obtain rfl := some_inj h
   show Post _ _ _ _ _
   exact ⟨.inr rfl, rfl, rfl, rfl⟩
theorem cf_impl_ReducedForms : ∀ args w, (callFunc 108 args).run Try.prog w = .ok (.enter 108 args) w := run_callFunc Try.func108 (by kernel_rfl) (by kernel_rfl)
theorem s_impl_ReducedForms {d1 : Int} {r : ((List ((Int × Int × Int))) × Bool)} (h : r_impl_ReducedForms d1 = some r) : CallS Try.prog 108 [I d1] (.tc (.ow 0) (.tc (Bo r.2) .tn)) [(0, .arr 45 3 (r.1.map c45))] := by
  refine CallS_of_text (rs := [.t 2, .t 3]) (vs := [.tmp 2, .tmp 3]) Try.func108 rfl rfl (.cons rfl (.cons rfl FitsL.nil)) (by decide) 10 rfl ?_
  unfold r_impl_ReducedForms at h
  show V _ _ ⟨I d1 :: bt 9 [], []⟩ _
  refine V_sreg (mb 10 1) [] (s1 := ⟨I d1 :: bt 9 [], []⟩) ?_ ?_
  ·refine L1 rfl rfl (Y1_nil (e := 45) 3 (by decide) (.inl rfl)) ?_
   exact XE
  refine V_seq ?_
  obtain ⟨y2, hy2, h⟩ := of_bind h
  refine V_sreg (mb 10 65) [] (s1 := ⟨I d1 :: bt 5 (Bo (!y2) :: bt 3 []), []⟩) ?_ ?_
  ·refine XR 1 ?_
   refine XC (s_impl_isNegativeDisc hy2) cf_impl_isNegativeDisc rfl rfl rfl ?_
   exact XE
  refine V_cond rfl (fun hc3 => ?_) (fun hc3 => ?_)
  ·have h := of_true h hc3
   refine V_sreg (mb 10 12) [56] (s1 := ⟨.bot :: .bot :: .ow 56 :: Bo false :: bt 6 [], [(56, .arr 45 3 ((([] : List ((Int × Int × Int)))).map c45))]⟩) ?_ ?_
   ·refine L1 rfl rfl (Y1_bslice0 Try.underlying62 sz45 (by decide) rfl rfl) ?_
    exact XE
   refine V_ret ?_
   obtain rfl := some_inj h
   show Post _ _ _ _ _
   exact ⟨.inr rfl, rfl, rfl, rfl⟩
  ·have h := of_false h hc3
   refine V_skip ?_
   show V _ _ _ _
   obtain ⟨y4, hy4, h⟩ := of_bind h
   refine V_sreg (mb 10 12) [72] (s1 := ⟨.bot :: .bot :: .ow 72 :: Bo true :: bt 6 [], [(72, .arr 45 3 (y4.map c45))]⟩) ?_ ?_
   ·refine XR 1 ?_
    refine XC (s_impl_reducedForms hy4) cf_impl_reducedForms rfl rfl rfl ?_
    exact XE
   refine V_ret ?_
   obtain rfl := some_inj h
   show Post _ _ _ _ _
   exact ⟨.inr rfl, rfl, rfl, rfl⟩
theorem cf_impl_ClassNumber : ∀ args w, (callFunc 43 args).run Try.prog w = .ok (.enter 43 args) w := run_callFunc Try.func43 (by kernel_rfl) (by kernel_rfl)
theorem s_impl_ClassNumber {d1 : Int} {r : (Int × Bool)} (h : r_impl_ClassNumber d1 = some r) : CallS Try.prog 43 [I d1] (.tc (I r.1) (.tc (Bo r.2) .tn)) [] := by
  refine CallS_of_text (rs := [.t 2, .t 3]) (vs := [.tmp 2, .tmp 3]) Try.func43 rfl rfl (.cons rfl (.cons rfl FitsL.nil)) (by decide) 14 rfl ?_
  unfold r_impl_ClassNumber at h
  show V _ _ ⟨I d1 :: bt 13 [], []⟩ _
  refine V_e (mb 14 1) [] (s1 := ⟨I d1 :: bt 13 [], []⟩) ?_
  obtain ⟨y2, hy2, h⟩ := of_bind h
  refine V_sreg (mb 14 48) [64] (s1 := ⟨bt 4 (.ow 64 :: Bo y2.2 :: bt 8 []), [(64, .arr 45 3 (y2.1.map c45))]⟩) ?_ ?_
  ·refine XR 1 ?_
   refine XC (s_impl_ReducedForms hy2) cf_impl_ReducedForms rfl rfl rfl ?_
   exact XE
  refine V_sreg (mb 14 12) [] (s1 := ⟨.bot :: .bot :: I ((y2.1.length : Int)) :: Bo y2.2 :: bt 10 [], []⟩) ?_ ?_
  ·refine XR 1 ?_
   refine L0 rfl rfl (Y0_lenM (c := c45) (xs := y2.1) Try.underlying62 rfl (by kernel_rfl)) ?_
   exact XE
  refine V_ret ?_
  obtain rfl := some_inj h
  show Post _ _ _ _ _
  exact ⟨.inr rfl, rfl, rfl, rfl⟩
theorem cf_impl_RootsOfDiscriminant : ∀ args w, (callFunc 28 args).run Try.prog w = .ok (.enter 28 args) w := run_callFunc Try.func28 (by kernel_rfl) (by kernel_rfl)
theorem s_impl_RootsOfDiscriminant {d1 : Int} {vn2 : Int} {r : ((List Int) × Bool)} (h : r_impl_RootsOfDiscriminant d1 vn2 = some r) : CallS Try.prog 28 [I d1, I vn2] (.tc (.ow 0) (.tc (Bo r.2) .tn)) [(0, .arr 3 1 (r.1.map c3))] := by
  refine CallS_of_text (rs := [.t 4, .t 5]) (vs := [.tmp 4, .tmp 5]) Try.func28 rfl rfl (.cons rfl (.cons rfl FitsL.nil)) (by decide) 22 rfl ?_
  unfold r_impl_RootsOfDiscriminant at h
  show V _ _ ⟨I d1 :: I vn2 :: bt 20 [], []⟩ _
  refine V_sreg (mb 22 3) [] (s1 := ⟨I d1 :: I vn2 :: bt 20 [], []⟩) ?_ ?_
  ·refine L1 rfl rfl (Y1_nil (e := 3) 1 (by decide) (.inl rfl)) ?_
   exact XE
  refine V_seq ?_
  obtain ⟨y3, hy3, h⟩ := of_bind h
  obtain ⟨t6, ht6, h⟩ := of_bind h
  have ht6 := some_inj ht6
  refine V_sreg (mb 22 131075) [] (s1 := ⟨I d1 :: I vn2 :: bt 15 (Bo t6 :: bt 4 []), []⟩) ?_ ?_
  ·refine XR 1 ?_
   refine L1 rfl rfl (Y1_bslice (z := zv3) (els := [d1].map c3) Try.underlying41 iz3 rfl (by decide) rfl (by kernel_rfl) rfl (by simp [c3]) (by decide) (by decide)) ?_
   refine L1 rfl rfl (Y1_callS (s_impl_areNumbers hy3) cf_impl_areNumbers rfl (by kernel_rfl) rfl rfl) ?_
   refine XR 2 ?_
   refine XL_split (!y3) (fun hc4 => ?_) (fun hc4 => ?_)
   ·refine XL_skipF _ rfl rfl (by kernel_rfl) hc4 rfl ?_
    refine XL_skipF _ rfl rfl (by kernel_rfl) hc4 rfl ?_
    refine XL_cons rfl (X_of_Y0 rfl (Y0_pick1 (b := !y3) (p := true) (q := ltI vn2 1) rfl (by kernel_rfl) hc4 (by kernel_rfl))) ?_
    refine XR 1 ?_
    refine XL_split (bif (!y3) then true else (ltI vn2 1)) (fun hc5 => ?_) (fun hc5 => ?_)
    ·refine XL_skipF _ rfl rfl (by kernel_rfl) hc5 rfl ?_
     refine XL_skipF _ rfl rfl (by kernel_rfl) hc5 rfl ?_
     refine XL_cons rfl (X_of_Y0 rfl (Y0_pick1 (b := bif (!y3) then true else (ltI vn2 1)) (p := true) (q := ltI 2500 vn2) rfl (by kernel_rfl) hc5 (by kernel_rfl))) ?_
     refine XL_nil ?_
     subst ht6
     kernel_rfl
    ·refine XL_takeC _ rfl rfl (by kernel_rfl) hc5 (X_of_Y0 rfl (E_move (I vn2) rfl (by kernel_rfl))) ?_
     refine XL_takeC _ rfl rfl (by kernel_rfl) hc5 (X_of_Y0 rfl (Y0_gtw (k := .i64) (a := vn2) (b := 2500) rfl (by kernel_rfl) (by kernel_rfl))) ?_
     refine XL_cons rfl (X_of_Y0 rfl (Y0_pick0 (b := bif (!y3) then true else (ltI vn2 1)) (p := true) (q := ltI 2500 vn2) rfl (by kernel_rfl) hc5 (by kernel_rfl))) ?_
     refine XL_nil ?_
     subst ht6
     kernel_rfl
   ·refine XL_takeC _ rfl rfl (by kernel_rfl) hc4 (X_of_Y0 rfl (E_move (I vn2) rfl (by kernel_rfl))) ?_
    refine XL_takeC _ rfl rfl (by kernel_rfl) hc4 (X_of_Y0 rfl (Y0_ltw (k := .i64) (a := vn2) (b := 1) rfl (by kernel_rfl) (by kernel_rfl))) ?_
    refine XL_cons rfl (X_of_Y0 rfl (Y0_pick0 (b := !y3) (p := true) (q := ltI vn2 1) rfl (by kernel_rfl) hc4 (by kernel_rfl))) ?_
    refine XR 1 ?_
    refine XL_split (bif (!y3) then true else (ltI vn2 1)) (fun hc5 => ?_) (fun hc5 => ?_)
    ·refine XL_skipF _ rfl rfl (by kernel_rfl) hc5 rfl ?_
     refine XL_skipF _ rfl rfl (by kernel_rfl) hc5 rfl ?_
     refine XL_cons rfl (X_of_Y0 rfl (Y0_pick1 (b := bif (!y3) then true else (ltI vn2 1)) (p := true) (q := ltI 2500 vn2) rfl (by kernel_rfl) hc5 (by kernel_rfl))) ?_
     refine XL_nil ?_
     subst ht6
     kernel_rfl
    ·refine XL_takeC _ rfl rfl (by kernel_rfl) hc5 (X_of_Y0 rfl (E_move (I vn2) rfl (by kernel_rfl))) ?_
     refine XL_takeC _ rfl rfl (by kernel_rfl) hc5 (X_of_Y0 rfl (Y0_gtw (k := .i64) (a := vn2) (b := 2500) rfl (by kernel_rfl) (by kernel_rfl))) ?_
     refine XL_cons rfl (X_of_Y0 rfl (Y0_pick0 (b := bif (!y3) then true else (ltI vn2 1)) (p := true) (q := ltI 2500 vn2) rfl (by kernel_rfl) hc5 (by kernel_rfl))) ?_
     refine XL_nil ?_
     subst ht6
     kernel_rfl
  refine V_cond rfl (fun hc7 => ?_) (fun hc7 => ?_)
  ·have h := of_true h hc7
   refine V_sreg (mb 22 48) [144] (s1 := ⟨bt 4 (.ow 144 :: Bo false :: bt 16 []), [(144, .arr 3 1 ((([] : List Int)).map c3))]⟩) ?_ ?_
   ·refine L1 rfl rfl (Y1_bslice0 Try.underlying41 sz3 (by decide) rfl rfl) ?_
    exact XE
   refine V_ret ?_
   obtain rfl := some_inj h
   show Post _ _ _ _ _
   exact ⟨.inr rfl, rfl, rfl, rfl⟩
  ·have h := of_false h hc7
   refine V_skip ?_
   show V _ _ _ _
   obtain ⟨y8, hy8, h⟩ := of_bind h
   refine V_sreg (mb 22 48) [168] (s1 := ⟨bt 4 (.ow 168 :: Bo true :: bt 16 []), [(168, .arr 3 1 (y8.map c3))]⟩) ?_ ?_
   ·refine XR 2 ?_
    refine XC (s_impl_rootsOfDiscriminant hy8) cf_impl_rootsOfDiscriminant rfl rfl rfl ?_
    exact XE
   refine V_ret ?_
   obtain rfl := some_inj h
   show Post _ _ _ _ _
   exact ⟨.inr rfl, rfl, rfl, rfl⟩
theorem cf_laws_sameInts : ∀ args w, (callFunc 32 args).run Try.prog w = .ok (.enter 32 args) w := run_callFunc Try.func32 (by kernel_rfl) (by kernel_rfl)
theorem s_laws_sameInts {a1 : List Int} {b2 : List Int} {r : Bool} (h : r_laws_sameInts a1 b2 = some r) : CallS Try.prog 32 [.c (.sl (a1.map c3)), .c (.sl (b2.map c3))] (Bo r) [] := by
  refine CallS_of_text (rs := [.t 4]) (vs := [.tmp 4]) Try.func32 rfl rfl (.cons rfl FitsL.nil) (by decide) 26 rfl ?_
  unfold r_laws_sameInts at h
  show V _ _ ⟨.c (.sl (a1.map c3)) :: .c (.sl (b2.map c3)) :: bt 24 [], []⟩ _
  refine V_e (mb 26 3) [] (s1 := ⟨.c (.sl (a1.map c3)) :: .c (.sl (b2.map c3)) :: bt 24 [], []⟩) ?_
  refine V_seq ?_
  refine V_sreg (mb 26 1027) [] (s1 := ⟨.c (.sl (a1.map c3)) :: .c (.sl (b2.map c3)) :: bt 8 (Bo (!eqI ((a1.length : Int)) ((b2.length : Int))) :: bt 15 []), []⟩) ?_ ?_
  ·refine XR 1 ?_
   refine L0 rfl rfl (Y0_lenM (c := c3) (xs := a1) Try.underlying41 rfl (by kernel_rfl)) ?_
   refine XR 1 ?_
   refine L0 rfl rfl (Y0_lenM (c := c3) (xs := b2) Try.underlying41 rfl (by kernel_rfl)) ?_
   exact XE
  refine V_cond rfl (fun hc3 => ?_) (fun hc3 => ?_)
  ·have h := of_true h hc3
   refine V_e (mb 26 16) [] (s1 := ⟨bt 4 (Bo false :: bt 21 []), []⟩) ?_
   refine V_ret ?_
   obtain rfl := some_inj h
   show Post _ _ _ _ _
   exact ⟨.inr rfl, rfl, rfl, rfl⟩
  ·have h := of_false h hc3
   refine V_skip ?_
   show V _ _ _ _
   refine V_seq ?_
   refine V_sreg (mb 26 12291) [] (s1 := ⟨.c (.sl (a1.map c3)) :: .c (.sl (b2.map c3)) :: bt 10 (I ((a1.length : Int)) :: I 0 :: bt 12 []), []⟩) ?_ ?_
   ·refine XR 1 ?_
    refine L0 rfl rfl (Y0_lenM (c := c3) (xs := a1) Try.underlying41 rfl (by kernel_rfl)) ?_
    exact XE
   obtain ⟨qo6, hLo6, hko6⟩ := of_bind h
   refine V_toS (q := qo6) (S := fun o6 => ⟨bt 26 [], []⟩) (mb 26 0) [] ?_ ?_
   ·refine V_block (V_loop (fun n s => ∃ (t4 : Int), s.keep (mb 26 12291) [] = (⟨.c (.sl (a1.map c3)) :: .c (.sl (b2.map c3)) :: bt 10 (I ((a1.length : Int)) :: I t4 :: bt 12 []), []⟩ : St) ∧ r_laws_sameInts_L5 a1 b2 n t4 = some qo6) FU ⟨_,  by rfl, hLo6⟩ ?_)
    clear hLo6
    rintro n s ⟨t4, hs, h⟩
    refine V_keep _ _ hs ?_
    clear hs
    cases n with
    | zero => cases h
    | succ n =>
     rw [r_laws_sameInts_L5] at h
     refine V_e (mb 26 28675) [] (s1 := ⟨.c (.sl (a1.map c3)) :: .c (.sl (b2.map c3)) :: bt 10 (I ((a1.length : Int)) :: I t4 :: Bo (ltI t4 ((a1.length : Int))) :: bt 11 []), []⟩) ?_
     refine V_seq ?_
     refine V_cond rfl (fun hc7 => ?_) (fun hc7 => ?_)
     ·have h := of_true h hc7
      refine V_skip ?_
      show V _ _ _ _
      refine V_seq ?_
      refine V_block ?_
      refine V_e (mb 26 12323) [] (s1 := ⟨.c (.sl (a1.map c3)) :: .c (.sl (b2.map c3)) :: bt 3 (I t4 :: bt 6 (I ((a1.length : Int)) :: I t4 :: bt 12 [])), []⟩) ?_
      obtain ⟨e8, he8, h⟩ := of_bind h
      obtain ⟨e9, he9, h⟩ := of_bind h
      refine V_sdreg [0, 0, 3, 7, 0, 0, 48, 112, 255] 9 (cdm 9 [43528, 43522, 43525, 43541, 2218, 682, 1450, 5546, 21845]) (mb 26 16789507) [] (s1 := ⟨.c (.sl (a1.map c3)) :: .c (.sl (b2.map c3)) :: bt 10 (I ((a1.length : Int)) :: I t4 :: bt 10 (Bo (!eqI e8 e9) :: .bot :: [])), []⟩) (by kernel_rfl) (by kernel_rfl) ?_ ?_
      ·refine DR 2 ?_
       refine DE_0 2 (.pe [Ti e8]) (by kernel_rfl) rfl rfl rfl (gsat_none rfl) (by kernel_rfl) (Y0_idxM (c := c3) (xs := a1) (v := e8) (n := t4) Try.underlying41 sz3 rfl (by kernel_rfl) (by kernel_rfl) he8) 18 rfl ?_
       refine DR 3 ?_
       refine DE_0 6 (.pe [Ti e9]) (by kernel_rfl) rfl rfl rfl (gsat_none rfl) (by kernel_rfl) (Y0_idxM (c := c3) (xs := b2) (v := e9) (n := t4) Try.underlying41 sz3 rfl (by kernel_rfl) (by kernel_rfl) he9) 22 rfl ?_
       refine DA 2 ?_
       exact XE
      refine V_cond rfl (fun hc10 => ?_) (fun hc10 => ?_)
      ·have h := of_true h hc10
       refine V_e (mb 26 16) [] (s1 := ⟨bt 4 (Bo false :: bt 21 []), []⟩) ?_
       refine V_ret ?_
       obtain rfl := some_inj h
       have h := hko6
       obtain rfl := some_inj h
       show Post _ _ _ _ _
       exact ⟨.inr rfl, rfl, rfl, rfl⟩
      ·have h := of_false h hc10
       refine V_skip ?_
       show V _ _ _ _
       obtain ⟨t11, ht11, h⟩ := of_sI h
       refine V_reg (mb 26 12291) [] (s1 := ⟨.c (.sl (a1.map c3)) :: .c (.sl (b2.map c3)) :: bt 10 (I ((a1.length : Int)) :: I t11 :: bt 12 []), []⟩) ?_ ?_
       ·refine XR 2 ?_
        refine XL_nil ?_
        subst ht11
        kernel_rfl
       exact ⟨n, Nat.lt_succ_self n, _,  by rfl, h⟩
     ·have h := of_false h hc7
      refine V_exit ?_
      obtain rfl := some_inj h
      exact ⟨_, rfl, by rfl⟩
   rintro o6 rfl
   have h := hko6
   clear hko6
   show V _ _ _ _
   refine V_e (mb 26 16) [] (s1 := ⟨bt 4 (Bo true :: bt 21 []), []⟩) ?_
   refine V_ret ?_
   obtain rfl := some_inj h
   show Post _ _ _ _ _
   exact ⟨.inr rfl, rfl, rfl, rfl⟩
theorem cf_laws_numberOf : ∀ args w, (callFunc 15 args).run Try.prog w = .ok (.enter 15 args) w := run_callFunc Try.func15 (by kernel_rfl) (by kernel_rfl)
theorem s_laws_numberOf {b1 : List Int} {r : Int} (h : r_laws_numberOf b1 = some r) : CallS Try.prog 15 [.c (.sl (b1.map c5))] (I r) [] := by
  refine CallS_of_text (rs := [.t 2]) (vs := [.tmp 2]) Try.func15 rfl rfl (.cons rfl FitsL.nil) (by decide) 20 rfl ?_
  unfold r_laws_numberOf at h
  show V _ _ ⟨.c (.sl (b1.map c5)) :: bt 19 [], []⟩ _
  refine V_e (mb 20 1) [] (s1 := ⟨.c (.sl (b1.map c5)) :: bt 19 [], []⟩) ?_
  refine V_e (mb 20 9) [] (s1 := ⟨.c (.sl (b1.map c5)) :: .bot :: .bot :: I 0 :: bt 16 [], []⟩) ?_
  refine V_seq ?_
  refine V_sreg (mb 20 456) [] (s1 := ⟨bt 3 (I 0 :: .bot :: .bot :: .c (.sl (b1.map c5)) :: I ((b1.length : Int)) :: I 0 :: bt 11 []), []⟩) ?_ ?_
  ·refine XR 1 ?_
   refine L0 rfl rfl (Y0_lenM (c := c5) (xs := b1) Try.underlying22 rfl (by kernel_rfl)) ?_
   exact XE
  obtain ⟨o5, hLo5, h⟩ := of_bind h
  refine V_toK (mb 20 8) [] (s1 := ⟨bt 3 (I o5 :: bt 16 []), []⟩) ?_ ?_
  ·clear h
   refine V_block (V_loop (fun n s => ∃ (vn2 : Int) (t3 : Int), s.keep (mb 20 456) [] = (⟨bt 3 (I vn2 :: .bot :: .bot :: .c (.sl (b1.map c5)) :: I ((b1.length : Int)) :: I t3 :: bt 11 []), []⟩ : St) ∧ r_laws_numberOf_L4 b1 n vn2 t3 = some o5) FU ⟨_, _,  by rfl, hLo5⟩ ?_)
   clear hLo5
   rintro n s ⟨vn2, t3, hs, h⟩
   refine V_keep _ _ hs ?_
   clear hs
   cases n with
   | zero => cases h
   | succ n =>
    rw [r_laws_numberOf_L4] at h
    refine V_e (mb 20 968) [] (s1 := ⟨bt 3 (I vn2 :: .bot :: .bot :: .c (.sl (b1.map c5)) :: I ((b1.length : Int)) :: I t3 :: Bo (ltI t3 ((b1.length : Int))) :: bt 10 []), []⟩) ?_
    refine V_seq ?_
    refine V_cond rfl (fun hc6 => ?_) (fun hc6 => ?_)
    ·have h := of_true h hc6
     refine V_skip ?_
     show V _ _ _ _
     refine V_seq ?_
     refine V_block ?_
     obtain ⟨e7, he7, h⟩ := of_bind h
     refine V_sreg (mb 20 488) [] (s1 := ⟨bt 3 (I vn2 :: .bot :: .c (.v (.int .u8 e7)) :: .c (.sl (b1.map c5)) :: I ((b1.length : Int)) :: I t3 :: bt 11 []), []⟩) ?_ ?_
     ·refine L0 rfl rfl (Y0_idxM (c := c5) (xs := b1) (v := e7) (n := t3) Try.underlying22 sz5 rfl (by kernel_rfl) (by kernel_rfl) he7) ?_
      exact XE
     obtain ⟨vn8, hvn8, h⟩ := of_sI h
     refine V_reg (mb 20 456) [] (s1 := ⟨bt 3 (I vn8 :: .bot :: .bot :: .c (.sl (b1.map c5)) :: I ((b1.length : Int)) :: I t3 :: bt 11 []), []⟩) ?_ ?_
     ·refine XR 3 ?_
      refine L0 rfl rfl (Y0_conv (k2 := .u8) (a := e7) Try.underlying5 Try.underlying3 rfl (by kernel_rfl)) ?_
      refine XR 1 ?_
      refine L0 rfl rfl (Y0_rem (k := .i64) (a := w64 ((w64 (31 * vn2)) + (IntKind.i64.wrap e7))) (b := 1000003) rfl (by kernel_rfl) (by kernel_rfl) (by decide)) ?_
      refine XR 1 ?_
      refine XL_nil ?_
      subst hvn8
      kernel_rfl
     show V _ _ _ _
     obtain ⟨t9, ht9, h⟩ := of_sI h
     refine V_reg (mb 20 456) [] (s1 := ⟨bt 3 (I vn8 :: .bot :: .bot :: .c (.sl (b1.map c5)) :: I ((b1.length : Int)) :: I t9 :: bt 11 []), []⟩) ?_ ?_
     ·refine XR 2 ?_
      refine XL_nil ?_
      subst ht9
      kernel_rfl
     exact ⟨n, Nat.lt_succ_self n, _, _,  by rfl, h⟩
    ·have h := of_false h hc6
     refine V_exit ?_
     obtain rfl := some_inj h
     show St.keep _ _ _ = _
     rfl
  show V _ _ _ _
  refine V_e (mb 20 4) [] (s1 := ⟨.bot :: .bot :: I o5 :: bt 17 [], []⟩) ?_
  refine V_ret ?_
  obtain rfl := some_inj h
  show Post _ _ _ _ _
  exact ⟨.inr rfl, rfl, rfl, rfl⟩
theorem cf_impl_isDefinite : ∀ args w, (callFunc 149 args).run Try.prog w = .ok (.enter 149 args) w := run_callFunc Try.func149 (by kernel_rfl) (by kernel_rfl)
theorem s_impl_isDefinite {f1 : (Int × Int × Int)} {r : Bool} (h : r_impl_isDefinite f1 = some r) : CallS Try.prog 149 [.ag [Ti f1.1, Ti f1.2.1, Ti f1.2.2]] (Bo r) [] := by
  refine CallS_of_text (rs := [.t 2]) (vs := [.tmp 2]) Try.func149 rfl rfl (.cons rfl FitsL.nil) (by decide) 15 rfl ?_
  unfold r_impl_isDefinite at h
  show V _ _ ⟨.ag [Ti f1.1, Ti f1.2.1, Ti f1.2.2] :: bt 14 [], []⟩ _
  refine V_e (mb 15 2) [8] (s1 := ⟨.bot :: .pt 8 0 :: bt 13 [], [(8, .box [Ti f1.1, Ti f1.2.1, Ti f1.2.2])]⟩) ?_
  obtain ⟨y2, hy2, h⟩ := of_bind h
  obtain ⟨b5, hb5, h⟩ := of_bind h
  refine V_sreg (mb 15 4) [] (s1 := ⟨.bot :: .bot :: Bo (bif b5 then (ltI 0 f1.1) else false) :: bt 12 [], []⟩) ?_ ?_
  ·refine XR 1 ?_
   refine XC (s_impl_IsForm hy2) cf_impl_IsForm rfl rfl rfl ?_
   refine XR 1 ?_
   refine XL_split y2 (fun hc3 => ?_) (fun hc3 => ?_)
   ·have hb5 := of_true hb5 hc3
    obtain ⟨y4, hy4, hb5⟩ := of_bind hb5
    have hb5 := some_inj hb5
    refine XL_takeC _ rfl rfl (by kernel_rfl) hc3 (X_of_Y0 rfl (E_loadn (cs := [Ti f1.1, Ti f1.2.1, Ti f1.2.2]) [Ti f1.1, Ti f1.2.1, Ti f1.2.2] wd45 rfl (by kernel_rfl) (Nat.le_of_ble_eq_true rfl) (by kernel_rfl))) ?_
    refine XL_takeC _ rfl rfl (by kernel_rfl) hc3 (X_of_Y1 rfl (Y1_call (s_impl_Form_disc hy4) cf_impl_Form_disc rfl (by kernel_rfl))) ?_
    refine XL_takeC _ rfl rfl (by kernel_rfl) hc3 (X_of_Y0 rfl (Y0_ltw (k := .i64) (a := y4) (b := 0) rfl (by kernel_rfl) (by kernel_rfl))) ?_
    refine XL_cons rfl (X_of_Y0 rfl (Y0_pickTe (b := y2) (p := ltI y4 0) rfl (by kernel_rfl) hc3 (by kernel_rfl) hb5)) ?_
    refine XR 1 ?_
    refine XL_split b5 (fun hc6 => ?_) (fun hc6 => ?_)
    ·refine XL_takeC _ rfl rfl (by kernel_rfl) hc6 (X_of_Y0 rfl (E_field (.pt 8 0) Try.underlying45 rfl sz3 rfl (by kernel_rfl) (by intro hh; cases hh))) ?_
     refine XL_takeC _ rfl rfl (by kernel_rfl) hc6 (X_of_Y0 rfl (Y0_load1 (c := Ti f1.1) (cs := [Ti f1.2.1, Ti f1.2.2]) sc3 rfl (by kernel_rfl))) ?_
     refine XL_takeC _ rfl rfl (by kernel_rfl) hc6 (X_of_Y0 rfl (Y0_gtw (k := .i64) (a := f1.1) (b := 0) rfl (by kernel_rfl) (by kernel_rfl))) ?_
     refine XL_cons rfl (X_of_Y0 rfl (Y0_pick1 (b := b5) (p := ltI 0 f1.1) (q := false) rfl (by kernel_rfl) hc6 (by kernel_rfl))) ?_
     exact XE
    ·refine XL_skipT _ rfl rfl (by kernel_rfl) hc6 rfl ?_
     refine XL_skipT _ rfl rfl (by kernel_rfl) hc6 rfl ?_
     refine XL_skipT _ rfl rfl (by kernel_rfl) hc6 rfl ?_
     refine XL_cons rfl (X_of_Y0 rfl (Y0_pick0 (b := b5) (p := ltI 0 f1.1) (q := false) rfl (by kernel_rfl) hc6 (by kernel_rfl))) ?_
     exact XE
   ·have hb5 := some_inj (of_false hb5 hc3)
    refine XL_skipT _ rfl rfl (by kernel_rfl) hc3 rfl ?_
    refine XL_skipT _ rfl rfl (by kernel_rfl) hc3 rfl ?_
    refine XL_skipT _ rfl rfl (by kernel_rfl) hc3 rfl ?_
    refine XL_cons rfl (X_of_Y0 rfl (Y0_pickFe (b := y2) (p := false) rfl (by kernel_rfl) hc3 (by kernel_rfl) hb5)) ?_
    refine XR 1 ?_
    refine XL_split b5 (fun hc6 => ?_) (fun hc6 => ?_)
    ·refine XL_takeC _ rfl rfl (by kernel_rfl) hc6 (X_of_Y0 rfl (E_field (.pt 8 0) Try.underlying45 rfl sz3 rfl (by kernel_rfl) (by intro hh; cases hh))) ?_
     refine XL_takeC _ rfl rfl (by kernel_rfl) hc6 (X_of_Y0 rfl (Y0_load1 (c := Ti f1.1) (cs := [Ti f1.2.1, Ti f1.2.2]) sc3 rfl (by kernel_rfl))) ?_
     refine XL_takeC _ rfl rfl (by kernel_rfl) hc6 (X_of_Y0 rfl (Y0_gtw (k := .i64) (a := f1.1) (b := 0) rfl (by kernel_rfl) (by kernel_rfl))) ?_
     refine XL_cons rfl (X_of_Y0 rfl (Y0_pick1 (b := b5) (p := ltI 0 f1.1) (q := false) rfl (by kernel_rfl) hc6 (by kernel_rfl))) ?_
     exact XE
    ·refine XL_skipT _ rfl rfl (by kernel_rfl) hc6 rfl ?_
     refine XL_skipT _ rfl rfl (by kernel_rfl) hc6 rfl ?_
     refine XL_skipT _ rfl rfl (by kernel_rfl) hc6 rfl ?_
     refine XL_cons rfl (X_of_Y0 rfl (Y0_pick0 (b := b5) (p := ltI 0 f1.1) (q := false) rfl (by kernel_rfl) hc6 (by kernel_rfl))) ?_
     exact XE
  refine V_ret ?_
  obtain rfl := some_inj h
  show Post _ _ _ _ _
  exact ⟨.inr rfl, rfl, rfl, rfl⟩
theorem cf_impl_isShownForm : ∀ args w, (callFunc 86 args).run Try.prog w = .ok (.enter 86 args) w := run_callFunc Try.func86 (by kernel_rfl) (by kernel_rfl)
theorem s_impl_isShownForm {f1 : (Int × Int × Int)} {r : Bool} (h : r_impl_isShownForm f1 = some r) : CallS Try.prog 86 [.ag [Ti f1.1, Ti f1.2.1, Ti f1.2.2]] (Bo r) [] := by
  refine CallS_of_text (rs := [.t 2]) (vs := [.tmp 2]) Try.func86 rfl rfl (.cons rfl FitsL.nil) (by decide) 10 rfl ?_
  unfold r_impl_isShownForm at h
  show V _ _ ⟨.ag [Ti f1.1, Ti f1.2.1, Ti f1.2.2] :: bt 9 [], []⟩ _
  refine V_e (mb 10 2) [8] (s1 := ⟨.bot :: .pt 8 0 :: bt 8 [], [(8, .box [Ti f1.1, Ti f1.2.1, Ti f1.2.2])]⟩) ?_
  obtain ⟨y2, hy2, h⟩ := of_bind h
  obtain ⟨b5, hb5, h⟩ := of_bind h
  refine V_sreg (mb 10 4) [] (s1 := ⟨.bot :: .bot :: Bo b5 :: bt 7 [], []⟩) ?_ ?_
  ·refine XR 1 ?_
   refine XC (s_impl_isDefinite hy2) cf_impl_isDefinite rfl rfl rfl ?_
   refine XR 1 ?_
   refine XL_split y2 (fun hc3 => ?_) (fun hc3 => ?_)
   ·have hb5 := of_true hb5 hc3
    obtain ⟨y4, hy4, hb5⟩ := of_bind hb5
    have hb5 := some_inj hb5
    refine XL_takeC _ rfl rfl (by kernel_rfl) hc3 (X_of_Y0 rfl (E_loadn (cs := [Ti f1.1, Ti f1.2.1, Ti f1.2.2]) [Ti f1.1, Ti f1.2.1, Ti f1.2.2] wd45 rfl (by kernel_rfl) (Nat.le_of_ble_eq_true rfl) (by kernel_rfl))) ?_
    refine XL_takeC _ rfl rfl (by kernel_rfl) hc3 (X_of_Y1 rfl (Y1_call (s_impl_Form_disc hy4) cf_impl_Form_disc rfl (by kernel_rfl))) ?_
    refine XL_takeC _ rfl rfl (by kernel_rfl) hc3 (X_of_Y0 rfl (Y0_gew (k := .i64) (a := y4) (b := -2000) rfl (by kernel_rfl) (by kernel_rfl))) ?_
    refine XL_cons rfl (X_of_Y0 rfl (Y0_pickTe (b := y2) (p := leI (-2000) y4) rfl (by kernel_rfl) hc3 (by kernel_rfl) hb5)) ?_
    exact XE
   ·have hb5 := some_inj (of_false hb5 hc3)
    refine XL_skipT _ rfl rfl (by kernel_rfl) hc3 rfl ?_
    refine XL_skipT _ rfl rfl (by kernel_rfl) hc3 rfl ?_
    refine XL_skipT _ rfl rfl (by kernel_rfl) hc3 rfl ?_
    refine XL_cons rfl (X_of_Y0 rfl (Y0_pickFe (b := y2) (p := false) rfl (by kernel_rfl) hc3 (by kernel_rfl) hb5)) ?_
    exact XE
  refine V_ret ?_
  obtain rfl := some_inj h
  show Post _ _ _ _ _
  exact ⟨.inr rfl, rfl, rfl, rfl⟩
theorem cf_impl_isClassForm : ∀ args w, (callFunc 171 args).run Try.prog w = .ok (.enter 171 args) w := run_callFunc Try.func171 (by kernel_rfl) (by kernel_rfl)
theorem s_impl_isClassForm {f1 : (Int × Int × Int)} {r : Bool} (h : r_impl_isClassForm f1 = some r) : CallS Try.prog 171 [.ag [Ti f1.1, Ti f1.2.1, Ti f1.2.2]] (Bo r) [] := by
  refine CallS_of_text (rs := [.t 2]) (vs := [.tmp 2]) Try.func171 rfl rfl (.cons rfl FitsL.nil) (by decide) 10 rfl ?_
  unfold r_impl_isClassForm at h
  show V _ _ ⟨.ag [Ti f1.1, Ti f1.2.1, Ti f1.2.2] :: bt 9 [], []⟩ _
  refine V_e (mb 10 2) [8] (s1 := ⟨.bot :: .pt 8 0 :: bt 8 [], [(8, .box [Ti f1.1, Ti f1.2.1, Ti f1.2.2])]⟩) ?_
  obtain ⟨y2, hy2, h⟩ := of_bind h
  obtain ⟨b5, hb5, h⟩ := of_bind h
  refine V_sreg (mb 10 4) [] (s1 := ⟨.bot :: .bot :: Bo b5 :: bt 7 [], []⟩) ?_ ?_
  ·refine XR 1 ?_
   refine XC (s_impl_isShownForm hy2) cf_impl_isShownForm rfl rfl rfl ?_
   refine XR 1 ?_
   refine XL_split y2 (fun hc3 => ?_) (fun hc3 => ?_)
   ·have hb5 := of_true hb5 hc3
    obtain ⟨y4, hy4, hb5⟩ := of_bind hb5
    have hb5 := some_inj hb5
    refine XL_takeC _ rfl rfl (by kernel_rfl) hc3 (X_of_Y0 rfl (E_loadn (cs := [Ti f1.1, Ti f1.2.1, Ti f1.2.2]) [Ti f1.1, Ti f1.2.1, Ti f1.2.2] wd45 rfl (by kernel_rfl) (Nat.le_of_ble_eq_true rfl) (by kernel_rfl))) ?_
    refine XL_takeC _ rfl rfl (by kernel_rfl) hc3 (X_of_Y1 rfl (Y1_call (s_impl_Form_content hy4) cf_impl_Form_content rfl (by kernel_rfl))) ?_
    refine XL_takeC _ rfl rfl (by kernel_rfl) hc3 (X_of_Y0 rfl (Y0_eqw (k := .i64) (a := y4) (b := 1) rfl (by kernel_rfl) (by kernel_rfl))) ?_
    refine XL_cons rfl (X_of_Y0 rfl (Y0_pickTe (b := y2) (p := eqI y4 1) rfl (by kernel_rfl) hc3 (by kernel_rfl) hb5)) ?_
    exact XE
   ·have hb5 := some_inj (of_false hb5 hc3)
    refine XL_skipT _ rfl rfl (by kernel_rfl) hc3 rfl ?_
    refine XL_skipT _ rfl rfl (by kernel_rfl) hc3 rfl ?_
    refine XL_skipT _ rfl rfl (by kernel_rfl) hc3 rfl ?_
    refine XL_cons rfl (X_of_Y0 rfl (Y0_pickFe (b := y2) (p := false) rfl (by kernel_rfl) hc3 (by kernel_rfl) hb5)) ?_
    exact XE
  refine V_ret ?_
  obtain rfl := some_inj h
  show Post _ _ _ _ _
  exact ⟨.inr rfl, rfl, rfl, rfl⟩
theorem cf_impl_hasLevel : ∀ args w, (callFunc 113 args).run Try.prog w = .ok (.enter 113 args) w := run_callFunc Try.func113 (by kernel_rfl) (by kernel_rfl)
theorem s_impl_hasLevel {f1 : (Int × Int × Int)} {vn2 : Int} {r : Bool} (h : r_impl_hasLevel f1 vn2 = some r) : CallS Try.prog 113 [.ag [Ti f1.1, Ti f1.2.1, Ti f1.2.2], I vn2] (Bo r) [] := by
  refine CallS_of_text (rs := [.t 4]) (vs := [.tmp 4]) Try.func113 rfl rfl (.cons rfl FitsL.nil) (by decide) 13 rfl ?_
  unfold r_impl_hasLevel at h
  show V _ _ ⟨.ag [Ti f1.1, Ti f1.2.1, Ti f1.2.2] :: I vn2 :: bt 11 [], []⟩ _
  refine V_e (mb 13 6) [16] (s1 := ⟨.bot :: I vn2 :: .pt 16 0 :: bt 10 [], [(16, .box [Ti f1.1, Ti f1.2.1, Ti f1.2.2])]⟩) ?_
  obtain ⟨y3, hy3, h⟩ := of_bind h
  obtain ⟨b7, hb7, h⟩ := of_bind h
  refine V_sreg (mb 13 16) [] (s1 := ⟨bt 4 (Bo b7 :: bt 8 []), []⟩) ?_ ?_
  ·refine XR 1 ?_
   refine XC (s_impl_isClassForm hy3) cf_impl_isClassForm rfl rfl rfl ?_
   refine XR 1 ?_
   refine XL_split y3 (fun hc4 => ?_) (fun hc4 => ?_)
   ·have hb7 := of_true hb7 hc4
    obtain ⟨y5, hy5, hb7⟩ := of_bind hb7
    obtain ⟨y6, hy6, hb7⟩ := of_bind hb7
    have hb7 := some_inj hb7
    refine XL_takeC _ rfl rfl (by kernel_rfl) hc4 (X_of_Y0 rfl (E_loadn (cs := [Ti f1.1, Ti f1.2.1, Ti f1.2.2]) [Ti f1.1, Ti f1.2.1, Ti f1.2.2] wd45 rfl (by kernel_rfl) (Nat.le_of_ble_eq_true rfl) (by kernel_rfl))) ?_
    refine XL_takeC _ rfl rfl (by kernel_rfl) hc4 (X_of_Y1 rfl (Y1_call (s_impl_Form_disc hy5) cf_impl_Form_disc rfl (by kernel_rfl))) ?_
    refine XL_takeC _ rfl rfl (by kernel_rfl) hc4 (X_of_Y0 rfl (E_move (I vn2) rfl (by kernel_rfl))) ?_
    refine XL_takeC _ rfl rfl (by kernel_rfl) hc4 (X_of_Y1 rfl (Y1_call (s_impl_isLevel hy6) cf_impl_isLevel rfl (by kernel_rfl))) ?_
    refine XL_cons rfl (X_of_Y0 rfl (Y0_pickTe (b := y3) (p := y6) rfl (by kernel_rfl) hc4 (by kernel_rfl) hb7)) ?_
    exact XE
   ·have hb7 := some_inj (of_false hb7 hc4)
    refine XL_skipT _ rfl rfl (by kernel_rfl) hc4 rfl ?_
    refine XL_skipT _ rfl rfl (by kernel_rfl) hc4 rfl ?_
    refine XL_skipT _ rfl rfl (by kernel_rfl) hc4 rfl ?_
    refine XL_skipT _ rfl rfl (by kernel_rfl) hc4 rfl ?_
    refine XL_cons rfl (X_of_Y0 rfl (Y0_pickFe (b := y3) (p := false) rfl (by kernel_rfl) hc4 (by kernel_rfl) hb7)) ?_
    exact XE
  refine V_ret ?_
  obtain rfl := some_inj h
  show Post _ _ _ _ _
  exact ⟨.inr rfl, rfl, rfl, rfl⟩
theorem cf_impl_isLevelForm : ∀ args w, (callFunc 111 args).run Try.prog w = .ok (.enter 111 args) w := run_callFunc Try.func111 (by kernel_rfl) (by kernel_rfl)
theorem s_impl_isLevelForm {f1 : (Int × Int × Int)} {vn2 : Int} {r : Bool} (h : r_impl_isLevelForm f1 vn2 = some r) : CallS Try.prog 111 [.ag [Ti f1.1, Ti f1.2.1, Ti f1.2.2], I vn2] (Bo r) [] := by
  refine CallS_of_text (rs := [.t 4]) (vs := [.tmp 4]) Try.func111 rfl rfl (.cons rfl FitsL.nil) (by decide) 15 rfl ?_
  unfold r_impl_isLevelForm at h
  show V _ _ ⟨.ag [Ti f1.1, Ti f1.2.1, Ti f1.2.2] :: I vn2 :: bt 13 [], []⟩ _
  refine V_e (mb 15 6) [16] (s1 := ⟨.bot :: I vn2 :: .pt 16 0 :: bt 12 [], [(16, .box [Ti f1.1, Ti f1.2.1, Ti f1.2.2])]⟩) ?_
  obtain ⟨y3, hy3, h⟩ := of_bind h
  obtain ⟨b6, hb6, h⟩ := of_bind h
  refine V_sreg (mb 15 16) [] (s1 := ⟨bt 4 (Bo b6 :: bt 10 []), []⟩) ?_ ?_
  ·refine XR 2 ?_
   refine XC (s_impl_hasLevel hy3) cf_impl_hasLevel rfl rfl rfl ?_
   refine XR 1 ?_
   refine XL_split y3 (fun hc4 => ?_) (fun hc4 => ?_)
   ·have hb6 := of_true hb6 hc4
    obtain ⟨z5, hz5, hb6⟩ := of_bind hb6
    have hb6 := some_inj hb6
    refine XL_takeC _ rfl rfl (by kernel_rfl) hc4 (X_of_Y0 rfl (E_field (.pt 16 0) Try.underlying45 rfl sz3 rfl (by kernel_rfl) (by intro hh; cases hh))) ?_
    refine XL_takeC _ rfl rfl (by kernel_rfl) hc4 (X_of_Y0 rfl (Y0_load1 (c := Ti f1.1) (cs := [Ti f1.2.1, Ti f1.2.2]) sc3 rfl (by kernel_rfl))) ?_
    refine XL_takeC _ rfl rfl (by kernel_rfl) hc4 (X_of_Y0 rfl (E_move (I vn2) rfl (by kernel_rfl))) ?_
    refine XL_takeC _ rfl rfl (by kernel_rfl) hc4 (X_of_Y0 rfl (Y0_rem (k := .i64) (a := f1.1) (b := vn2) rfl (by kernel_rfl) (by kernel_rfl) (nz_some hz5))) ?_
    refine XL_takeC _ rfl rfl (by kernel_rfl) hc4 (X_of_Y0 rfl (Y0_eqw (k := .i64) (a := Int.tmod f1.1 vn2) (b := 0) rfl (by kernel_rfl) (by kernel_rfl))) ?_
    refine XL_cons rfl (X_of_Y0 rfl (Y0_pickTe (b := y3) (p := eqI (Int.tmod f1.1 vn2) 0) rfl (by kernel_rfl) hc4 (by kernel_rfl) hb6)) ?_
    exact XE
   ·have hb6 := some_inj (of_false hb6 hc4)
    refine XL_skipT _ rfl rfl (by kernel_rfl) hc4 rfl ?_
    refine XL_skipT _ rfl rfl (by kernel_rfl) hc4 rfl ?_
    refine XL_skipT _ rfl rfl (by kernel_rfl) hc4 rfl ?_
    refine XL_skipT _ rfl rfl (by kernel_rfl) hc4 rfl ?_
    refine XL_skipT _ rfl rfl (by kernel_rfl) hc4 rfl ?_
    refine XL_cons rfl (X_of_Y0 rfl (Y0_pickFe (b := y3) (p := false) rfl (by kernel_rfl) hc4 (by kernel_rfl) hb6)) ?_
    exact XE
  refine V_ret ?_
  obtain rfl := some_inj h
  show Post _ _ _ _ _
  exact ⟨.inr rfl, rfl, rfl, rfl⟩
theorem cf_impl_one : ∀ args w, (callFunc 210 args).run Try.prog w = .ok (.enter 210 args) w := run_callFunc Try.func210 (by kernel_rfl) (by kernel_rfl)
theorem s_impl_one {r : (Int × Int × Int × Int)} (h : r_impl_one = some r) : CallS Try.prog 210 [] (.ag [Ti r.1, Ti r.2.1, Ti r.2.2.1, Ti r.2.2.2]) [] := by
  refine CallS_of_text (rs := [.w 0 4]) (vs := [.cell 0 110]) Try.func210 rfl rfl (.cons ⟨rfl, wd110⟩ FitsL.nil) (by decide) 2 rfl ?_
  unfold r_impl_one at h
  show V _ _ ⟨.bot :: .bot :: [], []⟩ _
  refine V_e (mb 2 1) [0] (s1 := ⟨.pt 0 0 :: .bot :: [], [(0, .box [Ti 0, Ti 0, Ti 0, Ti 0])]⟩) ?_
  refine V_sreg (mb 2 1) [0] (s1 := ⟨.pt 0 0 :: .bot :: [], [(0, .box [Ti 1, Ti 0, Ti 0, Ti 1])]⟩) ?_ ?_
  ·refine L0 rfl rfl (Y0_build (cs := [Ti 1, Ti 0, Ti 0, Ti 1]) pl110 bt110 rfl rfl (by kernel_rfl)) ?_
   exact XE
  refine V_ret ?_
  obtain rfl := some_inj h
  show Post _ _ _ _ _
  exact ⟨.inr rfl, rfl, rfl, rfl⟩
theorem cf_impl_Form_step : ∀ args w, (callFunc 211 args).run Try.prog w = .ok (.enter 211 args) w := run_callFunc Try.func211 (by kernel_rfl) (by kernel_rfl)
theorem s_impl_Form_step {f1 : (Int × Int × Int)} {r : (Int × Int × Int × Int)} (h : r_impl_Form_step f1 = some r) : CallS Try.prog 211 [.ag [Ti f1.1, Ti f1.2.1, Ti f1.2.2]] (.ag [Ti r.1, Ti r.2.1, Ti r.2.2.1, Ti r.2.2.2]) [] := by
  refine CallS_of_text (rs := [.w 2 4]) (vs := [.cell 2 110]) Try.func211 rfl rfl (.cons ⟨rfl, wd110⟩ FitsL.nil) (by decide) 22 rfl ?_
  unfold r_impl_Form_step at h
  show V _ _ ⟨.ag [Ti f1.1, Ti f1.2.1, Ti f1.2.2] :: bt 21 [], []⟩ _
  refine V_e (mb 22 6) [16, 8] (s1 := ⟨.bot :: .pt 8 0 :: .pt 16 0 :: bt 19 [], [(16, .box [Ti 0, Ti 0, Ti 0, Ti 0]), (8, .box [Ti f1.1, Ti f1.2.1, Ti f1.2.2])]⟩) ?_
  refine V_seq ?_
  refine V_block ?_
  obtain ⟨y2, hy2, h⟩ := of_bind h
  refine V_sreg (mb 22 14) [16, 8] (s1 := ⟨.bot :: .pt 8 0 :: .pt 16 0 :: Bo y2 :: bt 18 [], [(16, .box [Ti 0, Ti 0, Ti 0, Ti 0]), (8, .box [Ti f1.1, Ti f1.2.1, Ti f1.2.2])]⟩) ?_ ?_
  ·refine XR 1 ?_
   refine XC (s_impl_Form_isReduced hy2) cf_impl_Form_isReduced rfl rfl rfl ?_
   exact XE
  refine V_cond rfl (fun hc3 => ?_) (fun hc3 => ?_)
  ·have h := of_true h hc3
   obtain ⟨y4, hy4, h⟩ := of_bind h
   refine V_sreg (mb 22 4) [16] (s1 := ⟨.bot :: .bot :: .pt 16 0 :: bt 19 [], [(16, .box [Ti y4.1, Ti y4.2.1, Ti y4.2.2.1, Ti y4.2.2.2])]⟩) ?_ ?_
   ·refine XC (s_impl_one hy4) cf_impl_one rfl rfl rfl ?_
    exact XE
   refine V_ret ?_
   obtain rfl := some_inj h
   show Post _ _ _ _ _
   exact ⟨.inr rfl, rfl, rfl, rfl⟩
  ·have h := of_false h hc3
   obtain ⟨y5, hy5, h⟩ := of_bind h
   refine V_sreg (mb 22 134) [16, 8] (s1 := ⟨.bot :: .pt 8 0 :: .pt 16 0 :: bt 4 (Bo (!y5) :: bt 14 []), [(16, .box [Ti 0, Ti 0, Ti 0, Ti 0]), (8, .box [Ti f1.1, Ti f1.2.1, Ti f1.2.2])]⟩) ?_ ?_
   ·refine XR 1 ?_
    refine XC (s_impl_Form_isNormal hy5) cf_impl_Form_isNormal rfl rfl rfl ?_
    exact XE
   refine V_cond rfl (fun hc6 => ?_) (fun hc6 => ?_)
   ·have h := of_true h hc6
    obtain ⟨y7, hy7, h⟩ := of_bind h
    refine V_sreg (mb 22 4) [16] (s1 := ⟨.bot :: .bot :: .pt 16 0 :: bt 19 [], [(16, .box [Ti 1, Ti y7, Ti 0, Ti 1])]⟩) ?_ ?_
    ·refine XR 8 ?_
     refine XC (s_impl_floorDiv hy7) cf_impl_floorDiv rfl rfl rfl ?_
     refine L0 rfl rfl (Y0_build (cs := [Ti 1, Ti y7, Ti 0, Ti 1]) pl110 bt110 rfl rfl (by kernel_rfl)) ?_
     exact XE
    refine V_ret ?_
    obtain rfl := some_inj h
    show Post _ _ _ _ _
    exact ⟨.inr rfl, rfl, rfl, rfl⟩
   ·have h := of_false h hc6
    refine V_skip ?_
    show V _ _ _ _
    refine V_sreg (mb 22 4) [16] (s1 := ⟨.bot :: .bot :: .pt 16 0 :: bt 19 [], [(16, .box [Ti 0, Ti (-1), Ti 1, Ti 0])]⟩) ?_ ?_
    ·refine L0 rfl rfl (Y0_build (cs := [Ti 0, Ti (-1), Ti 1, Ti 0]) pl110 bt110 rfl rfl (by kernel_rfl)) ?_
     exact XE
    refine V_ret ?_
    obtain rfl := some_inj h
    show Post _ _ _ _ _
    exact ⟨.inr rfl, rfl, rfl, rfl⟩
theorem cf_impl_Matrix_times : ∀ args w, (callFunc 169 args).run Try.prog w = .ok (.enter 169 args) w := run_callFunc Try.func169 (by kernel_rfl) (by kernel_rfl)
theorem s_impl_Matrix_times {vm1 : (Int × Int × Int × Int)} {vn2 : (Int × Int × Int × Int)} {r : (Int × Int × Int × Int)} (h : r_impl_Matrix_times vm1 vn2 = some r) : CallS Try.prog 169 [.ag [Ti vm1.1, Ti vm1.2.1, Ti vm1.2.2.1, Ti vm1.2.2.2], .ag [Ti vn2.1, Ti vn2.2.1, Ti vn2.2.2.1, Ti vn2.2.2.2]] (.ag [Ti r.1, Ti r.2.1, Ti r.2.2.1, Ti r.2.2.2]) [] := by
  refine CallS_of_text (rs := [.w 4 4]) (vs := [.cell 4 110]) Try.func169 rfl rfl (.cons ⟨rfl, wd110⟩ FitsL.nil) (by decide) 50 rfl ?_
  unfold r_impl_Matrix_times at h
  show V _ _ ⟨.ag [Ti vm1.1, Ti vm1.2.1, Ti vm1.2.2.1, Ti vm1.2.2.2] :: .ag [Ti vn2.1, Ti vn2.2.1, Ti vn2.2.2.1, Ti vn2.2.2.2] :: bt 48 [], []⟩ _
  refine V_e (mb 50 28) [32, 24, 16] (s1 := ⟨.bot :: .bot :: .pt 16 0 :: .pt 24 0 :: .pt 32 0 :: bt 45 [], [(32, .box [Ti 0, Ti 0, Ti 0, Ti 0]), (24, .box [Ti vn2.1, Ti vn2.2.1, Ti vn2.2.2.1, Ti vn2.2.2.2]), (16, .box [Ti vm1.1, Ti vm1.2.1, Ti vm1.2.2.1, Ti vm1.2.2.2])]⟩) ?_
  obtain ⟨f3, hf3, h⟩ := of_sI h
  obtain ⟨f4, hf4, h⟩ := of_sI h
  obtain ⟨f5, hf5, h⟩ := of_sI h
  obtain ⟨f6, hf6, h⟩ := of_sI h
  refine V_sreg (mb 50 16) [32] (s1 := ⟨bt 4 (.pt 32 0 :: bt 45 []), [(32, .box [Ti f3, Ti f4, Ti f5, Ti f6])]⟩) ?_ ?_
  ·refine XR 44 ?_
   refine L0 rfl rfl (Y0_build (cs := [Ti (w64 ((w64 (vm1.1 * vn2.1)) + (w64 (vm1.2.1 * vn2.2.2.1)))), Ti (w64 ((w64 (vm1.1 * vn2.2.1)) + (w64 (vm1.2.1 * vn2.2.2.2)))), Ti (w64 ((w64 (vm1.2.2.1 * vn2.1)) + (w64 (vm1.2.2.2 * vn2.2.2.1)))), Ti (w64 ((w64 (vm1.2.2.1 * vn2.2.1)) + (w64 (vm1.2.2.2 * vn2.2.2.2))))]) pl110 bt110 rfl rfl (by kernel_rfl)) ?_
   refine XR 1 ?_
   refine XL_nil ?_
   subst hf3 hf4 hf5 hf6
   kernel_rfl
  refine V_ret ?_
  obtain rfl := some_inj h
  show Post _ _ _ _ _
  exact ⟨.inr rfl, rfl, rfl, rfl⟩
theorem cf_impl_reduce : ∀ args w, (callFunc 167 args).run Try.prog w = .ok (.enter 167 args) w := run_callFunc Try.func167 (by kernel_rfl) (by kernel_rfl)
theorem s_impl_reduce {f1 : (Int × Int × Int)} {r : (((Int × Int × Int)) × ((Int × Int × Int × Int)))} (h : r_impl_reduce f1 = some r) : CallS Try.prog 167 [.ag [Ti f1.1, Ti f1.2.1, Ti f1.2.2]] (.tc (.ag [Ti r.1.1, Ti r.1.2.1, Ti r.1.2.2]) (.tc (.ag [Ti r.2.1, Ti r.2.2.1, Ti r.2.2.2.1, Ti r.2.2.2.2]) .tn)) [] := by
  refine CallS_of_text (rs := [.w 2 3, .w 3 4]) (vs := [.cell 2 45, .cell 3 110]) Try.func167 rfl rfl (.cons ⟨rfl, wd45⟩ (.cons ⟨rfl, wd110⟩ FitsL.nil)) (by decide) 20 rfl ?_
  unfold r_impl_reduce at h
  show V _ _ ⟨.ag [Ti f1.1, Ti f1.2.1, Ti f1.2.2] :: bt 19 [], []⟩ _
  refine V_e (mb 20 14) [24, 16, 8] (s1 := ⟨.bot :: .pt 8 0 :: .pt 16 0 :: .pt 24 0 :: bt 16 [], [(24, .box [Ti 0, Ti 0, Ti 0, Ti 0]), (16, .box [Ti 0, Ti 0, Ti 0]), (8, .box [Ti f1.1, Ti f1.2.1, Ti f1.2.2])]⟩) ?_
  obtain ⟨y2, hy2, h⟩ := of_bind h
  refine V_sreg (mb 20 30) [32, 24, 16, 8] (s1 := ⟨.bot :: .pt 8 0 :: .pt 16 0 :: .pt 24 0 :: .pt 32 0 :: bt 15 [], [(32, .box [Ti y2.1, Ti y2.2.1, Ti y2.2.2.1, Ti y2.2.2.2]), (24, .box [Ti 0, Ti 0, Ti 0, Ti 0]), (16, .box [Ti 0, Ti 0, Ti 0]), (8, .box [Ti f1.1, Ti f1.2.1, Ti f1.2.2])]⟩) ?_ ?_
  ·refine XC (s_impl_one hy2) cf_impl_one rfl rfl rfl ?_
   exact XE
  refine V_seq ?_
  obtain ⟨o11, hLo11, h⟩ := of_bind h
  refine V_toK (mb 20 30) [32, 24, 16, 8] (s1 := ⟨.bot :: .pt 8 0 :: .pt 16 0 :: .pt 24 0 :: .pt 32 0 :: bt 15 [], [(32, .box [Ti o11.1, Ti o11.2.1, Ti o11.2.2.1, Ti o11.2.2.2.1]), (24, .box [Ti 0, Ti 0, Ti 0, Ti 0]), (16, .box [Ti 0, Ti 0, Ti 0]), (8, .box [Ti o11.2.2.2.2.1, Ti o11.2.2.2.2.2.1, Ti o11.2.2.2.2.2.2])]⟩) ?_ ?_
  ·clear h
   refine V_block (V_loop (fun n s => ∃ (f3 : Int) (f4 : Int) (f5 : Int) (f6 : Int) (f7 : Int) (f8 : Int) (f9 : Int), s.keep (mb 20 30) [32, 24, 16, 8] = (⟨.bot :: .pt 8 0 :: .pt 16 0 :: .pt 24 0 :: .pt 32 0 :: bt 15 [], [(32, .box [Ti f3, Ti f4, Ti f5, Ti f6]), (24, .box [Ti 0, Ti 0, Ti 0, Ti 0]), (16, .box [Ti 0, Ti 0, Ti 0]), (8, .box [Ti f7, Ti f8, Ti f9])]⟩ : St) ∧ r_impl_reduce_L10 n f3 f4 f5 f6 f7 f8 f9 = some o11) FU ⟨_, _, _, _, _, _, _,  by rfl, hLo11⟩ ?_)
   clear hLo11
   rintro n s ⟨f3, f4, f5, f6, f7, f8, f9, hs, h⟩
   refine V_keep _ _ hs ?_
   clear hs
   cases n with
   | zero => cases h
   | succ n =>
    rw [r_impl_reduce_L10] at h
    refine V_seq ?_
    obtain ⟨y12, hy12, h⟩ := of_bind h
    refine V_sreg (mb 20 542) [32, 24, 16, 8] (s1 := ⟨.bot :: .pt 8 0 :: .pt 16 0 :: .pt 24 0 :: .pt 32 0 :: bt 4 (Bo (!y12) :: bt 10 []), [(32, .box [Ti f3, Ti f4, Ti f5, Ti f6]), (24, .box [Ti 0, Ti 0, Ti 0, Ti 0]), (16, .box [Ti 0, Ti 0, Ti 0]), (8, .box [Ti f7, Ti f8, Ti f9])]⟩) ?_ ?_
    ·refine XR 1 ?_
     refine XC (s_impl_Form_isReduced hy12) cf_impl_Form_isReduced rfl rfl rfl ?_
     exact XE
    refine V_cond rfl (fun hc13 => ?_) (fun hc13 => ?_)
    ·have h := of_true h hc13
     refine V_skip ?_
     show V _ _ _ _
     refine V_block ?_
     obtain ⟨y14, hy14, h⟩ := of_bind h
     refine V_sreg (mb 20 62) [40, 32, 24, 16, 8] (s1 := ⟨.bot :: .pt 8 0 :: .pt 16 0 :: .pt 24 0 :: .pt 32 0 :: .pt 40 0 :: bt 14 [], [(40, .box [Ti y14.1, Ti y14.2.1, Ti y14.2.2.1, Ti y14.2.2.2]), (32, .box [Ti f3, Ti f4, Ti f5, Ti f6]), (24, .box [Ti 0, Ti 0, Ti 0, Ti 0]), (16, .box [Ti 0, Ti 0, Ti 0]), (8, .box [Ti f7, Ti f8, Ti f9])]⟩) ?_ ?_
     ·refine XR 1 ?_
      refine XC (s_impl_Form_step hy14) cf_impl_Form_step rfl rfl rfl ?_
      exact XE
     obtain ⟨y15, hy15, h⟩ := of_bind h
     refine V_sreg (mb 20 62) [40, 32, 24, 16, 8] (s1 := ⟨.bot :: .pt 8 0 :: .pt 16 0 :: .pt 24 0 :: .pt 32 0 :: .pt 40 0 :: bt 14 [], [(40, .box [Ti y14.1, Ti y14.2.1, Ti y14.2.2.1, Ti y14.2.2.2]), (32, .box [Ti f3, Ti f4, Ti f5, Ti f6]), (24, .box [Ti 0, Ti 0, Ti 0, Ti 0]), (16, .box [Ti 0, Ti 0, Ti 0]), (8, .box [Ti y15.1, Ti y15.2.1, Ti y15.2.2])]⟩) ?_ ?_
     ·refine XR 2 ?_
      refine XC (s_impl_Form_substitute hy15) cf_impl_Form_substitute rfl rfl rfl ?_
      exact XE
     obtain ⟨y16, hy16, h⟩ := of_bind h
     refine V_reg (mb 20 30) [32, 24, 16, 8] (s1 := ⟨.bot :: .pt 8 0 :: .pt 16 0 :: .pt 24 0 :: .pt 32 0 :: bt 15 [], [(32, .box [Ti y16.1, Ti y16.2.1, Ti y16.2.2.1, Ti y16.2.2.2]), (24, .box [Ti 0, Ti 0, Ti 0, Ti 0]), (16, .box [Ti 0, Ti 0, Ti 0]), (8, .box [Ti y15.1, Ti y15.2.1, Ti y15.2.2])]⟩) ?_ ?_
     ·refine XR 2 ?_
      refine XC (s_impl_Matrix_times hy16) cf_impl_Matrix_times rfl rfl rfl ?_
      exact XE
     exact ⟨n, Nat.lt_succ_self n, _, _, _, _, _, _, _,  by rfl, h⟩
    ·have h := of_false h hc13
     refine V_exit ?_
     obtain rfl := some_inj h
     show St.keep _ _ _ = _
     rfl
  show V _ _ _ _
  refine V_sdreg [0, 0, 1, 7] 3 [[.z, .b, .z], [.b, .z, .r 16], [.a, .b, .z]] (mb 20 12) [24, 16] (s1 := ⟨.bot :: .bot :: .pt 16 0 :: .pt 24 0 :: bt 16 [], [(24, .box [Ti o11.1, Ti o11.2.1, Ti o11.2.2.1, Ti o11.2.2.2.1]), (16, .box [Ti o11.2.2.2.2.1, Ti o11.2.2.2.2.2.1, Ti o11.2.2.2.2.2.2])]⟩) (by kernel_rfl) (by kernel_rfl) ?_ ?_
  ·refine DA 3 ?_
   exact XE
  refine V_ret ?_
  obtain rfl := some_inj h
  show Post _ _ _ _ _
  exact ⟨.inr rfl, rfl, rfl, rfl⟩
theorem v_impl_Form_turns {f1 o6 : List ((Int × Int × Int × Int))} {J : Exit → St → Prop} (hne : f1 ≠ []) (h : r_impl_Form_turns_V f1 FU 0 [] = some o6) : V Try.prog (vloop Try.f212) ⟨bt 3 (.ow 56 :: bt 66 []), [(56, .arr 110 4 (f1.map c110))]⟩ (thenA (fun s' => s'.keep (mb 70 8) [56] = ⟨bt 3 (.ow 56 :: bt 66 []), [(56, .arr 110 4 ((f1 ++ o6).map c110))]⟩) J) := by
  refine V_sreg (mb 70 492581209243656) [56] (s1 := ⟨bt 3 (.ow 56 :: bt 42 (.vw 56 (f1.map c110) none :: I ((f1.length : Int)) :: I 0 :: bt 21 [])), [(56, .arr 110 4 (f1.map c110))]⟩) ?_ ?_
  ·refine XR 2 ?_
   refine L0 rfl rfl (Y0_lenM (c := c110) (xs := f1) Try.underlying134 rfl (by kernel_rfl)) ?_
   refine XR 1 ?_
   refine L0 rfl rfl (Y0_lenM (c := c110) (xs := f1) Try.underlying134 rfl (by kernel_rfl)) ?_
   refine L0 rfl rfl (Y0_viewM (c := c110) (xs := f1) (id := 56) (T := 110) Try.underlying134 sz110 rfl (by kernel_rfl) (by kernel_rfl) hne (by kernel_rfl) (by kernel_rfl)) ?_
   refine L0 rfl rfl (Y0_lenVM (c := c110) (xs := f1) (id := 56) Try.underlying134 rfl (by kernel_rfl)) ?_
   exact XE
  refine V_block (V_loop (fun n s => ∃ (t3 : Int) (l4 : List ((Int × Int × Int × Int))), s.keep (mb 70 492581209243656) [56] = (⟨bt 3 (.ow 56 :: bt 42 (.vw 56 (f1.map c110) none :: I ((f1.length : Int)) :: I t3 :: bt 21 [])), [(56, .arr 110 4 ((f1 ++ l4).map c110))]⟩ : St) ∧ r_impl_Form_turns_V f1 n t3 l4 = some o6) FU ⟨0, [], by rw [List.append_nil]; rfl, h⟩ ?_)
  clear h
  rintro n s ⟨t3, l4, hs, h⟩
  refine V_keep _ _ hs ?_
  clear hs
  cases n with
  | zero => cases h
  | succ n =>
   rw [r_impl_Form_turns_V] at h
   refine V_e (mb 70 1055531162664968) [56] (s1 := ⟨bt 3 (.ow 56 :: bt 42 (.vw 56 (f1.map c110) none :: I ((f1.length : Int)) :: I t3 :: Bo (ltI t3 ((f1.length : Int))) :: bt 20 [])), [(56, .arr 110 4 ((f1 ++ l4).map c110))]⟩) ?_
   refine V_seq ?_
   refine V_cond rfl (fun hc7 => ?_) (fun hc7 => ?_)
   ·have h := of_true h hc7
    refine V_skip ?_
    show V _ _ _ _
    refine V_seq ?_
    refine V_block ?_
    obtain ⟨e8, he8, h⟩ := of_bind h
    refine V_sreg (mb 70 492581209243688) [40, 56] (s1 := ⟨bt 3 (.ow 56 :: .bot :: .pt 40 0 :: bt 40 (.vw 56 (f1.map c110) none :: I ((f1.length : Int)) :: I t3 :: bt 21 [])), [(40, .box [Ti e8.1, Ti e8.2.1, Ti e8.2.2.1, Ti e8.2.2.2]), (56, .arr 110 4 ((f1 ++ l4).map c110))]⟩) ?_ ?_
    ·refine L0 rfl rfl (Y0_idxVM (c := c110) (xs := f1) (v := e8) (n := t3) (id := 56) Try.underlying134 sz110 (fun _ => rfl) rfl (by kernel_rfl) (by kernel_rfl) he8) ?_
     refine L0 rfl rfl (Y0_loadVM (T := 110) (sz := 4) (c := c110) (xs := f1) (ys := l4) (v := e8) (n := t3) (id := 56) [Ti e8.1, Ti e8.2.1, Ti e8.2.2.1, Ti e8.2.2.2] wd110 rfl (by kernel_rfl) (by kernel_rfl) he8 rfl rfl) ?_
     exact XE
    obtain ⟨u9, hu9, h⟩ := of_bind h
    refine V_reg (mb 70 492581209243656) [56] (s1 := ⟨bt 3 (.ow 56 :: bt 42 (.vw 56 (f1.map c110) none :: I ((f1.length : Int)) :: I t3 :: bt 21 [])), [(56, .arr 110 4 ((f1 ++ (l4 ++ ([(w64 (0 - e8.1), w64 (0 - e8.2.1), w64 (0 - e8.2.2.1), w64 (0 - e8.2.2.2))]))).map c110))]⟩) ?_ ?_
    ·refine XR 13 ?_
     refine L0 rfl rfl (Y0_build (cs := [Ti (w64 (0 - e8.1)), Ti (w64 (0 - e8.2.1)), Ti (w64 (0 - e8.2.2.1)), Ti (w64 (0 - e8.2.2.2))]) pl110 bt110 rfl rfl (by kernel_rfl)) ?_
     refine L1 rfl rfl (Y1_bslice (z := zv110) (els := [(w64 (0 - e8.1), w64 (0 - e8.2.1), w64 (0 - e8.2.2.1), w64 (0 - e8.2.2.2))].map c110) Try.underlying134 iz110 rfl (by decide) rfl (by kernel_rfl) rfl (by simp [c110]) (by decide) (by decide)) ?_
     refine XL_cons rfl (X_appendVM (sz := 4) (c := c110) (xs := f1) (ys := l4) (zs := [(w64 (0 - e8.1), w64 (0 - e8.2.1), w64 (0 - e8.2.2.1), w64 (0 - e8.2.2.2))]) (id := 56) (z := zv110) 46 rfl rfl Try.underlying134 izb110 rfl (by kernel_rfl) (by kernel_rfl) (by kernel_rfl) (fun _ => rfl) (by simp) (room_some hu9) (by decide) (by kernel_rfl) (by decide)) ?_
     exact XE
    show V _ _ _ _
    obtain ⟨t11, ht11, h⟩ := of_sI h
    refine V_reg (mb 70 492581209243656) [56] (s1 := ⟨bt 3 (.ow 56 :: bt 42 (.vw 56 (f1.map c110) none :: I ((f1.length : Int)) :: I t11 :: bt 21 [])), [(56, .arr 110 4 ((f1 ++ (l4 ++ ([(w64 (0 - e8.1), w64 (0 - e8.2.1), w64 (0 - e8.2.2.1), w64 (0 - e8.2.2.2))]))).map c110))]⟩) ?_ ?_
    ·refine XR 2 ?_
     refine XL_nil ?_
     subst ht11
     kernel_rfl
    exact ⟨n, Nat.lt_succ_self n, _, _,  by rfl, h⟩
   ·have h := of_false h hc7
    refine V_exit ?_
    obtain rfl := some_inj h
    show St.keep _ _ _ = _
    rfl
theorem cf_impl_Form_turns : ∀ args w, (callFunc 212 args).run Try.prog w = .ok (.enter 212 args) w := run_callFunc Try.func212 (by kernel_rfl) (by kernel_rfl)
theorem s_impl_Form_turns {f1 : (Int × Int × Int)} {r : List ((Int × Int × Int × Int))} (h : r_impl_Form_turns f1 = some r) : CallS Try.prog 212 [.ag [Ti f1.1, Ti f1.2.1, Ti f1.2.2]] (.ow 0) [(0, .arr 110 4 (r.map c110))] := by
  refine CallS_of_text (rs := [.t 2]) (vs := [.tmp 2]) Try.func212 rfl rfl (.cons rfl FitsL.nil) (by decide) 70 rfl ?_
  unfold r_impl_Form_turns at h
  show V _ _ ⟨.ag [Ti f1.1, Ti f1.2.1, Ti f1.2.2] :: bt 69 [], []⟩ _
  refine V_sreg (mb 70 2) [8] (s1 := ⟨.bot :: .pt 8 0 :: bt 68 [], [(8, .box [Ti f1.1, Ti f1.2.1, Ti f1.2.2])]⟩) ?_ ?_
  ·refine XR 1 ?_
   refine L1 rfl rfl (Y1_nil (e := 110) 4 (by decide) (.inl rfl)) ?_
   exact XE
  obtain ⟨y2, hy2, h⟩ := of_bind h
  refine V_sreg (mb 70 10) [56, 8] (s1 := ⟨.bot :: .pt 8 0 :: .bot :: .ow 56 :: bt 66 [], [(56, .arr 110 4 (([y2]).map c110)), (8, .box [Ti f1.1, Ti f1.2.1, Ti f1.2.2])]⟩) ?_ ?_
  ·refine XC (s_impl_one hy2) cf_impl_one rfl rfl rfl ?_
   refine L1 rfl rfl (Y1_bslice (z := zv110) (els := [y2].map c110) Try.underlying134 iz110 rfl (by decide) rfl (by kernel_rfl) rfl (by simp [c110]) (by decide) (by decide)) ?_
   exact XE
  refine V_seq ?_
  refine V_block ?_
  refine V_sreg (mb 70 266) [56, 8] (s1 := ⟨.bot :: .pt 8 0 :: .bot :: .ow 56 :: bt 4 (Bo (bif (eqI f1.1 f1.2.2) then (eqI f1.2.1 0) else false) :: bt 61 []), [(56, .arr 110 4 (([y2]).map c110)), (8, .box [Ti f1.1, Ti f1.2.1, Ti f1.2.2])]⟩) ?_ ?_
  ·refine XR 6 ?_
   refine XL_split (eqI f1.1 f1.2.2) (fun hc3 => ?_) (fun hc3 => ?_)
   ·refine XL_takeC _ rfl rfl (by kernel_rfl) hc3 (X_of_Y0 rfl (E_field (.pt 8 1) Try.underlying45 rfl sz3 rfl (by kernel_rfl) (by intro hh; cases hh))) ?_
    refine XL_takeC _ rfl rfl (by kernel_rfl) hc3 (X_of_Y0 rfl (Y0_load1 (c := Ti f1.2.1) (cs := [Ti f1.2.2]) sc3 rfl (by kernel_rfl))) ?_
    refine XL_takeC _ rfl rfl (by kernel_rfl) hc3 (X_of_Y0 rfl (Y0_eqw (k := .i64) (a := f1.2.1) (b := 0) rfl (by kernel_rfl) (by kernel_rfl))) ?_
    refine XL_cons rfl (X_of_Y0 rfl (Y0_pick1 (b := eqI f1.1 f1.2.2) (p := eqI f1.2.1 0) (q := false) rfl (by kernel_rfl) hc3 (by kernel_rfl))) ?_
    exact XE
   ·refine XL_skipT _ rfl rfl (by kernel_rfl) hc3 rfl ?_
    refine XL_skipT _ rfl rfl (by kernel_rfl) hc3 rfl ?_
    refine XL_skipT _ rfl rfl (by kernel_rfl) hc3 rfl ?_
    refine XL_cons rfl (X_of_Y0 rfl (Y0_pick0 (b := eqI f1.1 f1.2.2) (p := eqI f1.2.1 0) (q := false) rfl (by kernel_rfl) hc3 (by kernel_rfl))) ?_
    exact XE
  refine V_cond rfl (fun hc4 => ?_) (fun hc4 => ?_)
  ·have h := of_true h hc4
   obtain ⟨u5, hu5, h⟩ := of_bind h
   refine V_reg (mb 70 8) [56] (s1 := ⟨bt 3 (.ow 56 :: bt 66 []), [(56, .arr 110 4 ((([y2]) ++ ([(0, -1, 1, 0)])).map c110))]⟩) ?_ ?_
   ·refine XR 1 ?_
    refine L0 rfl rfl (Y0_build (cs := [Ti 0, Ti (-1), Ti 1, Ti 0]) pl110 bt110 rfl rfl (by kernel_rfl)) ?_
    refine L1 rfl rfl (Y1_bslice (z := zv110) (els := [(0, -1, 1, 0)].map c110) Try.underlying134 iz110 rfl (by decide) rfl (by kernel_rfl) rfl (by simp [c110]) (by decide) (by decide)) ?_
    refine XL_cons rfl (X_appendM (c := c110) (xs := [y2]) (ys := [(0, -1, 1, 0)]) (id := 56) (z := zv110) rfl rfl Try.underlying134 izb110 rfl (by kernel_rfl) (by kernel_rfl) (by kernel_rfl) (fun _ => rfl) (by simp) (room_some hu5) (by decide)) ?_
    exact XE
   show V _ _ _ _
   obtain ⟨oV, hoV, h⟩ := of_bind h
   refine V_keep (mb 70 8) [56] (s' := ⟨bt 3 (.ow 56 :: bt 66 []), [(56, .arr 110 4 ((([y2]) ++ ([(0, -1, 1, 0)])).map c110))]⟩) (by rfl) ?_
   refine V_cutK (mb 70 8) [56] (v_impl_Form_turns (by simp) hoV) ?_
   refine V_e (mb 70 4) [56] (s1 := ⟨.bot :: .bot :: .ow 56 :: bt 67 [], [(56, .arr 110 4 (((([y2]) ++ ([(0, -1, 1, 0)])) ++ oV).map c110))]⟩) ?_
   refine V_ret ?_
   obtain rfl := some_inj h
   show Post _ _ _ _ _
   exact ⟨.inr rfl, rfl, rfl, rfl⟩
  ·have h := of_false h hc4
   refine V_sreg (mb 70 8388616) [56] (s1 := ⟨bt 3 (.ow 56 :: bt 19 (Bo (bif (eqI f1.1 f1.2.2) then (eqI f1.2.1 f1.1) else false) :: bt 46 [])), [(56, .arr 110 4 (([y2]).map c110))]⟩) ?_ ?_
   ·refine XR 6 ?_
    refine XL_split (eqI f1.1 f1.2.2) (fun hc6 => ?_) (fun hc6 => ?_)
    ·refine XL_takeC _ rfl rfl (by kernel_rfl) hc6 (X_of_Y0 rfl (E_field (.pt 8 1) Try.underlying45 rfl sz3 rfl (by kernel_rfl) (by intro hh; cases hh))) ?_
     refine XL_takeC _ rfl rfl (by kernel_rfl) hc6 (X_of_Y0 rfl (Y0_load1 (c := Ti f1.2.1) (cs := [Ti f1.2.2]) sc3 rfl (by kernel_rfl))) ?_
     refine XL_takeC _ rfl rfl (by kernel_rfl) hc6 (X_of_Y0 rfl (E_field (.pt 8 0) Try.underlying45 rfl sz3 rfl (by kernel_rfl) (by intro hh; cases hh))) ?_
     refine XL_takeC _ rfl rfl (by kernel_rfl) hc6 (X_of_Y0 rfl (Y0_load1 (c := Ti f1.1) (cs := [Ti f1.2.1, Ti f1.2.2]) sc3 rfl (by kernel_rfl))) ?_
     refine XL_takeC _ rfl rfl (by kernel_rfl) hc6 (X_of_Y0 rfl (Y0_eqw (k := .i64) (a := f1.2.1) (b := f1.1) rfl (by kernel_rfl) (by kernel_rfl))) ?_
     refine XL_cons rfl (X_of_Y0 rfl (Y0_pick1 (b := eqI f1.1 f1.2.2) (p := eqI f1.2.1 f1.1) (q := false) rfl (by kernel_rfl) hc6 (by kernel_rfl))) ?_
     exact XE
    ·refine XL_skipT _ rfl rfl (by kernel_rfl) hc6 rfl ?_
     refine XL_skipT _ rfl rfl (by kernel_rfl) hc6 rfl ?_
     refine XL_skipT _ rfl rfl (by kernel_rfl) hc6 rfl ?_
     refine XL_skipT _ rfl rfl (by kernel_rfl) hc6 rfl ?_
     refine XL_skipT _ rfl rfl (by kernel_rfl) hc6 rfl ?_
     refine XL_cons rfl (X_of_Y0 rfl (Y0_pick0 (b := eqI f1.1 f1.2.2) (p := eqI f1.2.1 f1.1) (q := false) rfl (by kernel_rfl) hc6 (by kernel_rfl))) ?_
     exact XE
   refine V_cond rfl (fun hc7 => ?_) (fun hc7 => ?_)
   ·have h := of_true h hc7
    obtain ⟨u8, hu8, h⟩ := of_bind h
    refine V_reg (mb 70 8) [56] (s1 := ⟨bt 3 (.ow 56 :: bt 66 []), [(56, .arr 110 4 ((([y2]) ++ ([(0, -1, 1, 1), (1, 1, -1, 0)])).map c110))]⟩) ?_ ?_
    ·refine XR 1 ?_
     refine L0 rfl rfl (Y0_build (cs := [Ti 0, Ti (-1), Ti 1, Ti 1]) pl110 bt110 rfl rfl (by kernel_rfl)) ?_
     refine L0 rfl rfl (Y0_build (cs := [Ti 1, Ti 1, Ti (-1), Ti 0]) pl110 bt110 rfl rfl (by kernel_rfl)) ?_
     refine L1 rfl rfl (Y1_bslice (z := zv110) (els := [(0, -1, 1, 1), (1, 1, -1, 0)].map c110) Try.underlying134 iz110 rfl (by decide) rfl (by kernel_rfl) rfl (by simp [c110]) (by decide) (by decide)) ?_
     refine XL_cons rfl (X_appendM (c := c110) (xs := [y2]) (ys := [(0, -1, 1, 1), (1, 1, -1, 0)]) (id := 56) (z := zv110) rfl rfl Try.underlying134 izb110 rfl (by kernel_rfl) (by kernel_rfl) (by kernel_rfl) (fun _ => rfl) (by simp) (room_some hu8) (by decide)) ?_
     exact XE
    show V _ _ _ _
    obtain ⟨oV, hoV, h⟩ := of_bind h
    refine V_keep (mb 70 8) [56] (s' := ⟨bt 3 (.ow 56 :: bt 66 []), [(56, .arr 110 4 ((([y2]) ++ ([(0, -1, 1, 1), (1, 1, -1, 0)])).map c110))]⟩) (by rfl) ?_
    refine V_cutK (mb 70 8) [56] (v_impl_Form_turns (by simp) hoV) ?_
    refine V_e (mb 70 4) [56] (s1 := ⟨.bot :: .bot :: .ow 56 :: bt 67 [], [(56, .arr 110 4 (((([y2]) ++ ([(0, -1, 1, 1), (1, 1, -1, 0)])) ++ oV).map c110))]⟩) ?_
    refine V_ret ?_
    obtain rfl := some_inj h
    show Post _ _ _ _ _
    exact ⟨.inr rfl, rfl, rfl, rfl⟩
   ·have h := of_false h hc7
    refine V_skip ?_
    show V _ _ _ _
    obtain ⟨oV, hoV, h⟩ := of_bind h
    refine V_keep (mb 70 8) [56] (s' := ⟨bt 3 (.ow 56 :: bt 66 []), [(56, .arr 110 4 (([y2]).map c110))]⟩) (by rfl) ?_
    refine V_cutK (mb 70 8) [56] (v_impl_Form_turns (by simp) hoV) ?_
    refine V_e (mb 70 4) [56] (s1 := ⟨.bot :: .bot :: .ow 56 :: bt 67 [], [(56, .arr 110 4 ((([y2]) ++ oV).map c110))]⟩) ?_
    refine V_ret ?_
    obtain rfl := some_inj h
    show Post _ _ _ _ _
    exact ⟨.inr rfl, rfl, rfl, rfl⟩
end Go.Proofs.Ytgeajejmikaniaa
