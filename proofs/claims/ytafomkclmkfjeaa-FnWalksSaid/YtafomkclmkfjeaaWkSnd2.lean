/-
  The functions of the program compute what the plain functions say: more of them.
  Conditions: none.
-/
import Derived.Test.YtafomkclmkfjeaaWkSnd1
namespace Go.Proofs.Ytafomkclmkfjeaa
open Go.RowKit
set_option linter.unusedVariables false
set_option linter.unusedSimpArgs false
set_option maxRecDepth 100000
set_option maxHeartbeats 400000
theorem cf_spec_reIs : ∀ args w, (callFunc 121 args).run Try.prog w = .ok (.enter 121 args) w := run_callFunc Try.func121 (by kernel_rfl) (by kernel_rfl)
theorem s_spec_reIs {f1 : (Int × Int × Int)} {r : Bool} (h : r_spec_reIs f1 = some r) : CallS Try.prog 121 [.ag [Ti f1.1, Ti f1.2.1, Ti f1.2.2]] (Bo r) [] := by
  refine CallS_of_text (rs := [.t 2]) (vs := [.tmp 2]) Try.func121 rfl rfl (.cons rfl FitsL.nil) (by decide) 35 rfl ?_
  unfold r_spec_reIs at h
  show V _ _ ⟨.ag [Ti f1.1, Ti f1.2.1, Ti f1.2.2] :: bt 34 [], []⟩ _
  refine V_e (mb 35 2) [8] (s1 := ⟨.bot :: .pt 8 0 :: bt 33 [], [(8, .box [Ti f1.1, Ti f1.2.1, Ti f1.2.2])]⟩) ?_
  obtain ⟨t6, ht6, h⟩ := of_bind h
  have ht6 := some_inj ht6
  refine V_sreg (mb 35 4) [] (s1 := ⟨.bot :: .bot :: Bo t6 :: bt 32 [], []⟩) ?_ ?_
  ·refine XR 7 ?_
   refine XL_split (ltI (w64 (0 - f1.1)) f1.2.1) (fun hc2 => ?_) (fun hc2 => ?_)
   ·refine XL_takeC _ rfl rfl (by kernel_rfl) hc2 (X_of_Y0 rfl (E_field (.pt 8 1) Try.underlying25 rfl sz3 rfl (by kernel_rfl) (by intro hh; cases hh))) ?_
    refine XL_takeC _ rfl rfl (by kernel_rfl) hc2 (X_of_Y0 rfl (Y0_load1 (c := Ti f1.2.1) (cs := [Ti f1.2.2]) sc3 rfl (by kernel_rfl))) ?_
    refine XL_takeC _ rfl rfl (by kernel_rfl) hc2 (X_of_Y0 rfl (E_field (.pt 8 0) Try.underlying25 rfl sz3 rfl (by kernel_rfl) (by intro hh; cases hh))) ?_
    refine XL_takeC _ rfl rfl (by kernel_rfl) hc2 (X_of_Y0 rfl (Y0_load1 (c := Ti f1.1) (cs := [Ti f1.2.1, Ti f1.2.2]) sc3 rfl (by kernel_rfl))) ?_
    refine XL_takeC _ rfl rfl (by kernel_rfl) hc2 (X_of_Y0 rfl (Y0_lew (k := .i64) (a := f1.2.1) (b := f1.1) rfl (by kernel_rfl) (by kernel_rfl))) ?_
    refine XL_cons rfl (X_of_Y0 rfl (Y0_pick1 (b := ltI (w64 (0 - f1.1)) f1.2.1) (p := leI f1.2.1 f1.1) (q := false) rfl (by kernel_rfl) hc2 (by kernel_rfl))) ?_
    refine XR 1 ?_
    refine XL_split (bif (ltI (w64 (0 - f1.1)) f1.2.1) then (leI f1.2.1 f1.1) else false) (fun hc3 => ?_) (fun hc3 => ?_)
    ·refine XL_takeC _ rfl rfl (by kernel_rfl) hc3 (X_of_Y0 rfl (E_field (.pt 8 0) Try.underlying25 rfl sz3 rfl (by kernel_rfl) (by intro hh; cases hh))) ?_
     refine XL_takeC _ rfl rfl (by kernel_rfl) hc3 (X_of_Y0 rfl (Y0_load1 (c := Ti f1.1) (cs := [Ti f1.2.1, Ti f1.2.2]) sc3 rfl (by kernel_rfl))) ?_
     refine XL_takeC _ rfl rfl (by kernel_rfl) hc3 (X_of_Y0 rfl (E_field (.pt 8 2) Try.underlying25 rfl sz3 rfl (by kernel_rfl) (by intro hh; cases hh))) ?_
     refine XL_takeC _ rfl rfl (by kernel_rfl) hc3 (X_of_Y0 rfl (Y0_load1 (c := Ti f1.2.2) (cs := []) sc3 rfl (by kernel_rfl))) ?_
     refine XL_takeC _ rfl rfl (by kernel_rfl) hc3 (X_of_Y0 rfl (Y0_ltw (k := .i64) (a := f1.1) (b := f1.2.2) rfl (by kernel_rfl) (by kernel_rfl))) ?_
     refine XL_takeC _ rfl rfl (by kernel_rfl) hc3 (X_of_Y0 rfl (E_move (Bo (ltI f1.1 f1.2.2)) rfl (by kernel_rfl))) ?_
     refine XL_split (ltI f1.1 f1.2.2) (fun hc4 => ?_) (fun hc4 => ?_)
     ·refine XL_skipF _ rfl rfl (by kernel_rfl) hc4 rfl ?_
      refine XL_skipF _ rfl rfl (by kernel_rfl) hc4 rfl ?_
      refine XL_skipF _ rfl rfl (by kernel_rfl) hc4 rfl ?_
      refine XL_skipF _ rfl rfl (by kernel_rfl) hc4 rfl ?_
      refine XL_skipF _ rfl rfl (by kernel_rfl) hc4 rfl ?_
      refine XL_skipF _ rfl rfl (by kernel_rfl) hc4 rfl ?_
      refine XL_skip2 rfl rfl (by kernel_rfl) rfl ?_
      refine XL_skip2 rfl rfl (by kernel_rfl) rfl ?_
      refine XL_skip2 rfl rfl (by kernel_rfl) rfl ?_
      refine XL_skipF _ rfl rfl (by kernel_rfl) hc4 rfl ?_
      refine XL_takeC _ rfl rfl (by kernel_rfl) hc3 (X_of_Y0 rfl (Y0_pick1 (b := ltI f1.1 f1.2.2) (p := true) (q := bif (eqI f1.1 f1.2.2) then (leI 0 f1.2.1) else false) rfl (by kernel_rfl) hc4 (by kernel_rfl))) ?_
      refine XL_cons rfl (X_of_Y0 rfl (Y0_pick1 (b := bif (ltI (w64 (0 - f1.1)) f1.2.1) then (leI f1.2.1 f1.1) else false) (p := bif (ltI f1.1 f1.2.2) then true else (bif (eqI f1.1 f1.2.2) then (leI 0 f1.2.1) else false)) (q := false) rfl (by kernel_rfl) hc3 (by kernel_rfl))) ?_
      refine XR 1 ?_
      refine XL_nil ?_
      subst ht6
      kernel_rfl
     ·refine XL_takeC _ rfl rfl (by kernel_rfl) hc4 (X_of_Y0 rfl (E_field (.pt 8 0) Try.underlying25 rfl sz3 rfl (by kernel_rfl) (by intro hh; cases hh))) ?_
      refine XL_takeC _ rfl rfl (by kernel_rfl) hc4 (X_of_Y0 rfl (Y0_load1 (c := Ti f1.1) (cs := [Ti f1.2.1, Ti f1.2.2]) sc3 rfl (by kernel_rfl))) ?_
      refine XL_takeC _ rfl rfl (by kernel_rfl) hc4 (X_of_Y0 rfl (E_field (.pt 8 2) Try.underlying25 rfl sz3 rfl (by kernel_rfl) (by intro hh; cases hh))) ?_
      refine XL_takeC _ rfl rfl (by kernel_rfl) hc4 (X_of_Y0 rfl (Y0_load1 (c := Ti f1.2.2) (cs := []) sc3 rfl (by kernel_rfl))) ?_
      refine XL_takeC _ rfl rfl (by kernel_rfl) hc4 (X_of_Y0 rfl (Y0_eqw (k := .i64) (a := f1.1) (b := f1.2.2) rfl (by kernel_rfl) (by kernel_rfl))) ?_
      refine XL_takeC _ rfl rfl (by kernel_rfl) hc4 (X_of_Y0 rfl (E_move (Bo (eqI f1.1 f1.2.2)) rfl (by kernel_rfl))) ?_
      refine XL_split (eqI f1.1 f1.2.2) (fun hc5 => ?_) (fun hc5 => ?_)
      ·refine XL_takeC _ rfl rfl (by kernel_rfl) hc5 (X_of_Y0 rfl (E_field (.pt 8 1) Try.underlying25 rfl sz3 rfl (by kernel_rfl) (by intro hh; cases hh))) ?_
       refine XL_takeC _ rfl rfl (by kernel_rfl) hc5 (X_of_Y0 rfl (Y0_load1 (c := Ti f1.2.1) (cs := [Ti f1.2.2]) sc3 rfl (by kernel_rfl))) ?_
       refine XL_takeC _ rfl rfl (by kernel_rfl) hc5 (X_of_Y0 rfl (Y0_gew (k := .i64) (a := f1.2.1) (b := 0) rfl (by kernel_rfl) (by kernel_rfl))) ?_
       refine XL_takeC _ rfl rfl (by kernel_rfl) hc4 (X_of_Y0 rfl (Y0_pick1 (b := eqI f1.1 f1.2.2) (p := leI 0 f1.2.1) (q := false) rfl (by kernel_rfl) hc5 (by kernel_rfl))) ?_
       refine XL_takeC _ rfl rfl (by kernel_rfl) hc3 (X_of_Y0 rfl (Y0_pick0 (b := ltI f1.1 f1.2.2) (p := true) (q := bif (eqI f1.1 f1.2.2) then (leI 0 f1.2.1) else false) rfl (by kernel_rfl) hc4 (by kernel_rfl))) ?_
       refine XL_cons rfl (X_of_Y0 rfl (Y0_pick1 (b := bif (ltI (w64 (0 - f1.1)) f1.2.1) then (leI f1.2.1 f1.1) else false) (p := bif (ltI f1.1 f1.2.2) then true else (bif (eqI f1.1 f1.2.2) then (leI 0 f1.2.1) else false)) (q := false) rfl (by kernel_rfl) hc3 (by kernel_rfl))) ?_
       refine XR 1 ?_
       refine XL_nil ?_
       subst ht6
       kernel_rfl
      ·refine XL_skipT _ rfl rfl (by kernel_rfl) hc5 rfl ?_
       refine XL_skipT _ rfl rfl (by kernel_rfl) hc5 rfl ?_
       refine XL_skipT _ rfl rfl (by kernel_rfl) hc5 rfl ?_
       refine XL_takeC _ rfl rfl (by kernel_rfl) hc4 (X_of_Y0 rfl (Y0_pick0 (b := eqI f1.1 f1.2.2) (p := leI 0 f1.2.1) (q := false) rfl (by kernel_rfl) hc5 (by kernel_rfl))) ?_
       refine XL_takeC _ rfl rfl (by kernel_rfl) hc3 (X_of_Y0 rfl (Y0_pick0 (b := ltI f1.1 f1.2.2) (p := true) (q := bif (eqI f1.1 f1.2.2) then (leI 0 f1.2.1) else false) rfl (by kernel_rfl) hc4 (by kernel_rfl))) ?_
       refine XL_cons rfl (X_of_Y0 rfl (Y0_pick1 (b := bif (ltI (w64 (0 - f1.1)) f1.2.1) then (leI f1.2.1 f1.1) else false) (p := bif (ltI f1.1 f1.2.2) then true else (bif (eqI f1.1 f1.2.2) then (leI 0 f1.2.1) else false)) (q := false) rfl (by kernel_rfl) hc3 (by kernel_rfl))) ?_
       refine XR 1 ?_
       refine XL_nil ?_
       subst ht6
       kernel_rfl
    ·refine XL_skipT _ rfl rfl (by kernel_rfl) hc3 rfl ?_
     refine XL_skipT _ rfl rfl (by kernel_rfl) hc3 rfl ?_
     refine XL_skipT _ rfl rfl (by kernel_rfl) hc3 rfl ?_
     refine XL_skipT _ rfl rfl (by kernel_rfl) hc3 rfl ?_
     refine XL_skipT _ rfl rfl (by kernel_rfl) hc3 rfl ?_
     refine XL_skipT _ rfl rfl (by kernel_rfl) hc3 rfl ?_
     refine XL_skip2 rfl rfl (by kernel_rfl) rfl ?_
     refine XL_skip2 rfl rfl (by kernel_rfl) rfl ?_
     refine XL_skip2 rfl rfl (by kernel_rfl) rfl ?_
     refine XL_skip2 rfl rfl (by kernel_rfl) rfl ?_
     refine XL_skip2 rfl rfl (by kernel_rfl) rfl ?_
     refine XL_skip2 rfl rfl (by kernel_rfl) rfl ?_
     refine XL_skip2 rfl rfl (by kernel_rfl) rfl ?_
     refine XL_skip2 rfl rfl (by kernel_rfl) rfl ?_
     refine XL_skip2 rfl rfl (by kernel_rfl) rfl ?_
     refine XL_skip2 rfl rfl (by kernel_rfl) rfl ?_
     refine XL_skipT _ rfl rfl (by kernel_rfl) hc3 rfl ?_
     refine XL_cons rfl (X_of_Y0 rfl (Y0_pick0 (b := bif (ltI (w64 (0 - f1.1)) f1.2.1) then (leI f1.2.1 f1.1) else false) (p := bif (ltI f1.1 f1.2.2) then true else (bif (eqI f1.1 f1.2.2) then (leI 0 f1.2.1) else false)) (q := false) rfl (by kernel_rfl) hc3 (by kernel_rfl))) ?_
     refine XR 1 ?_
     refine XL_nil ?_
     subst ht6
     kernel_rfl
   ·refine XL_skipT _ rfl rfl (by kernel_rfl) hc2 rfl ?_
    refine XL_skipT _ rfl rfl (by kernel_rfl) hc2 rfl ?_
    refine XL_skipT _ rfl rfl (by kernel_rfl) hc2 rfl ?_
    refine XL_skipT _ rfl rfl (by kernel_rfl) hc2 rfl ?_
    refine XL_skipT _ rfl rfl (by kernel_rfl) hc2 rfl ?_
    refine XL_cons rfl (X_of_Y0 rfl (Y0_pick0 (b := ltI (w64 (0 - f1.1)) f1.2.1) (p := leI f1.2.1 f1.1) (q := false) rfl (by kernel_rfl) hc2 (by kernel_rfl))) ?_
    refine XR 1 ?_
    refine XL_split (bif (ltI (w64 (0 - f1.1)) f1.2.1) then (leI f1.2.1 f1.1) else false) (fun hc3 => ?_) (fun hc3 => ?_)
    ·refine XL_takeC _ rfl rfl (by kernel_rfl) hc3 (X_of_Y0 rfl (E_field (.pt 8 0) Try.underlying25 rfl sz3 rfl (by kernel_rfl) (by intro hh; cases hh))) ?_
     refine XL_takeC _ rfl rfl (by kernel_rfl) hc3 (X_of_Y0 rfl (Y0_load1 (c := Ti f1.1) (cs := [Ti f1.2.1, Ti f1.2.2]) sc3 rfl (by kernel_rfl))) ?_
     refine XL_takeC _ rfl rfl (by kernel_rfl) hc3 (X_of_Y0 rfl (E_field (.pt 8 2) Try.underlying25 rfl sz3 rfl (by kernel_rfl) (by intro hh; cases hh))) ?_
     refine XL_takeC _ rfl rfl (by kernel_rfl) hc3 (X_of_Y0 rfl (Y0_load1 (c := Ti f1.2.2) (cs := []) sc3 rfl (by kernel_rfl))) ?_
     refine XL_takeC _ rfl rfl (by kernel_rfl) hc3 (X_of_Y0 rfl (Y0_ltw (k := .i64) (a := f1.1) (b := f1.2.2) rfl (by kernel_rfl) (by kernel_rfl))) ?_
     refine XL_takeC _ rfl rfl (by kernel_rfl) hc3 (X_of_Y0 rfl (E_move (Bo (ltI f1.1 f1.2.2)) rfl (by kernel_rfl))) ?_
     refine XL_split (ltI f1.1 f1.2.2) (fun hc4 => ?_) (fun hc4 => ?_)
     ·refine XL_skipF _ rfl rfl (by kernel_rfl) hc4 rfl ?_
      refine XL_skipF _ rfl rfl (by kernel_rfl) hc4 rfl ?_
      refine XL_skipF _ rfl rfl (by kernel_rfl) hc4 rfl ?_
      refine XL_skipF _ rfl rfl (by kernel_rfl) hc4 rfl ?_
      refine XL_skipF _ rfl rfl (by kernel_rfl) hc4 rfl ?_
      refine XL_skipF _ rfl rfl (by kernel_rfl) hc4 rfl ?_
      refine XL_skip2 rfl rfl (by kernel_rfl) rfl ?_
      refine XL_skip2 rfl rfl (by kernel_rfl) rfl ?_
      refine XL_skip2 rfl rfl (by kernel_rfl) rfl ?_
      refine XL_skipF _ rfl rfl (by kernel_rfl) hc4 rfl ?_
      refine XL_takeC _ rfl rfl (by kernel_rfl) hc3 (X_of_Y0 rfl (Y0_pick1 (b := ltI f1.1 f1.2.2) (p := true) (q := bif (eqI f1.1 f1.2.2) then (leI 0 f1.2.1) else false) rfl (by kernel_rfl) hc4 (by kernel_rfl))) ?_
      refine XL_cons rfl (X_of_Y0 rfl (Y0_pick1 (b := bif (ltI (w64 (0 - f1.1)) f1.2.1) then (leI f1.2.1 f1.1) else false) (p := bif (ltI f1.1 f1.2.2) then true else (bif (eqI f1.1 f1.2.2) then (leI 0 f1.2.1) else false)) (q := false) rfl (by kernel_rfl) hc3 (by kernel_rfl))) ?_
      refine XR 1 ?_
      refine XL_nil ?_
      subst ht6
      kernel_rfl
     ·refine XL_takeC _ rfl rfl (by kernel_rfl) hc4 (X_of_Y0 rfl (E_field (.pt 8 0) Try.underlying25 rfl sz3 rfl (by kernel_rfl) (by intro hh; cases hh))) ?_
      refine XL_takeC _ rfl rfl (by kernel_rfl) hc4 (X_of_Y0 rfl (Y0_load1 (c := Ti f1.1) (cs := [Ti f1.2.1, Ti f1.2.2]) sc3 rfl (by kernel_rfl))) ?_
      refine XL_takeC _ rfl rfl (by kernel_rfl) hc4 (X_of_Y0 rfl (E_field (.pt 8 2) Try.underlying25 rfl sz3 rfl (by kernel_rfl) (by intro hh; cases hh))) ?_
      refine XL_takeC _ rfl rfl (by kernel_rfl) hc4 (X_of_Y0 rfl (Y0_load1 (c := Ti f1.2.2) (cs := []) sc3 rfl (by kernel_rfl))) ?_
      refine XL_takeC _ rfl rfl (by kernel_rfl) hc4 (X_of_Y0 rfl (Y0_eqw (k := .i64) (a := f1.1) (b := f1.2.2) rfl (by kernel_rfl) (by kernel_rfl))) ?_
      refine XL_takeC _ rfl rfl (by kernel_rfl) hc4 (X_of_Y0 rfl (E_move (Bo (eqI f1.1 f1.2.2)) rfl (by kernel_rfl))) ?_
      refine XL_split (eqI f1.1 f1.2.2) (fun hc5 => ?_) (fun hc5 => ?_)
      ·refine XL_takeC _ rfl rfl (by kernel_rfl) hc5 (X_of_Y0 rfl (E_field (.pt 8 1) Try.underlying25 rfl sz3 rfl (by kernel_rfl) (by intro hh; cases hh))) ?_
       refine XL_takeC _ rfl rfl (by kernel_rfl) hc5 (X_of_Y0 rfl (Y0_load1 (c := Ti f1.2.1) (cs := [Ti f1.2.2]) sc3 rfl (by kernel_rfl))) ?_
       refine XL_takeC _ rfl rfl (by kernel_rfl) hc5 (X_of_Y0 rfl (Y0_gew (k := .i64) (a := f1.2.1) (b := 0) rfl (by kernel_rfl) (by kernel_rfl))) ?_
       refine XL_takeC _ rfl rfl (by kernel_rfl) hc4 (X_of_Y0 rfl (Y0_pick1 (b := eqI f1.1 f1.2.2) (p := leI 0 f1.2.1) (q := false) rfl (by kernel_rfl) hc5 (by kernel_rfl))) ?_
       refine XL_takeC _ rfl rfl (by kernel_rfl) hc3 (X_of_Y0 rfl (Y0_pick0 (b := ltI f1.1 f1.2.2) (p := true) (q := bif (eqI f1.1 f1.2.2) then (leI 0 f1.2.1) else false) rfl (by kernel_rfl) hc4 (by kernel_rfl))) ?_
       refine XL_cons rfl (X_of_Y0 rfl (Y0_pick1 (b := bif (ltI (w64 (0 - f1.1)) f1.2.1) then (leI f1.2.1 f1.1) else false) (p := bif (ltI f1.1 f1.2.2) then true else (bif (eqI f1.1 f1.2.2) then (leI 0 f1.2.1) else false)) (q := false) rfl (by kernel_rfl) hc3 (by kernel_rfl))) ?_
       refine XR 1 ?_
       refine XL_nil ?_
       subst ht6
       kernel_rfl
      ·refine XL_skipT _ rfl rfl (by kernel_rfl) hc5 rfl ?_
       refine XL_skipT _ rfl rfl (by kernel_rfl) hc5 rfl ?_
       refine XL_skipT _ rfl rfl (by kernel_rfl) hc5 rfl ?_
       refine XL_takeC _ rfl rfl (by kernel_rfl) hc4 (X_of_Y0 rfl (Y0_pick0 (b := eqI f1.1 f1.2.2) (p := leI 0 f1.2.1) (q := false) rfl (by kernel_rfl) hc5 (by kernel_rfl))) ?_
       refine XL_takeC _ rfl rfl (by kernel_rfl) hc3 (X_of_Y0 rfl (Y0_pick0 (b := ltI f1.1 f1.2.2) (p := true) (q := bif (eqI f1.1 f1.2.2) then (leI 0 f1.2.1) else false) rfl (by kernel_rfl) hc4 (by kernel_rfl))) ?_
       refine XL_cons rfl (X_of_Y0 rfl (Y0_pick1 (b := bif (ltI (w64 (0 - f1.1)) f1.2.1) then (leI f1.2.1 f1.1) else false) (p := bif (ltI f1.1 f1.2.2) then true else (bif (eqI f1.1 f1.2.2) then (leI 0 f1.2.1) else false)) (q := false) rfl (by kernel_rfl) hc3 (by kernel_rfl))) ?_
       refine XR 1 ?_
       refine XL_nil ?_
       subst ht6
       kernel_rfl
    ·refine XL_skipT _ rfl rfl (by kernel_rfl) hc3 rfl ?_
     refine XL_skipT _ rfl rfl (by kernel_rfl) hc3 rfl ?_
     refine XL_skipT _ rfl rfl (by kernel_rfl) hc3 rfl ?_
     refine XL_skipT _ rfl rfl (by kernel_rfl) hc3 rfl ?_
     refine XL_skipT _ rfl rfl (by kernel_rfl) hc3 rfl ?_
     refine XL_skipT _ rfl rfl (by kernel_rfl) hc3 rfl ?_
     refine XL_skip2 rfl rfl (by kernel_rfl) rfl ?_
     refine XL_skip2 rfl rfl (by kernel_rfl) rfl ?_
     refine XL_skip2 rfl rfl (by kernel_rfl) rfl ?_
     refine XL_skip2 rfl rfl (by kernel_rfl) rfl ?_
     refine XL_skip2 rfl rfl (by kernel_rfl) rfl ?_
     refine XL_skip2 rfl rfl (by kernel_rfl) rfl ?_
     refine XL_skip2 rfl rfl (by kernel_rfl) rfl ?_
     refine XL_skip2 rfl rfl (by kernel_rfl) rfl ?_
     refine XL_skip2 rfl rfl (by kernel_rfl) rfl ?_
     refine XL_skip2 rfl rfl (by kernel_rfl) rfl ?_
     refine XL_skipT _ rfl rfl (by kernel_rfl) hc3 rfl ?_
     refine XL_cons rfl (X_of_Y0 rfl (Y0_pick0 (b := bif (ltI (w64 (0 - f1.1)) f1.2.1) then (leI f1.2.1 f1.1) else false) (p := bif (ltI f1.1 f1.2.2) then true else (bif (eqI f1.1 f1.2.2) then (leI 0 f1.2.1) else false)) (q := false) rfl (by kernel_rfl) hc3 (by kernel_rfl))) ?_
     refine XR 1 ?_
     refine XL_nil ?_
     subst ht6
     kernel_rfl
  refine V_ret ?_
  obtain rfl := some_inj h
  show Post _ _ _ _ _
  exact ⟨.inr rfl, rfl, rfl, rfl⟩
theorem cf_spec_reAll : ∀ args w, (callFunc 119 args).run Try.prog w = .ok (.enter 119 args) w := run_callFunc Try.func119 (by kernel_rfl) (by kernel_rfl)
theorem s_spec_reAll {d1 : Int} {r : List ((Int × Int × Int))} (h : r_spec_reAll d1 = some r) : CallS Try.prog 119 [I d1] (.ow 0) [(0, .arr 25 3 (r.map c25))] := by
  refine CallS_of_text (rs := [.t 2]) (vs := [.tmp 2]) Try.func119 rfl rfl (.cons rfl FitsL.nil) (by decide) 47 rfl ?_
  unfold r_spec_reAll at h
  show V _ _ ⟨I d1 :: bt 46 [], []⟩ _
  refine V_sreg (mb 47 1) [] (s1 := ⟨I d1 :: bt 46 [], []⟩) ?_ ?_
  ·refine L1 rfl rfl (Y1_nil (e := 25) 3 (by decide) (.inl rfl)) ?_
   exact XE
  refine V_sreg (mb 47 9) [24] (s1 := ⟨I d1 :: .bot :: .bot :: .ow 24 :: bt 43 [], [(24, .arr 25 3 ((([] : List ((Int × Int × Int)))).map c25))]⟩) ?_ ?_
  ·refine L1 rfl rfl (Y1_nil (e := 25) 3 (by decide) (.inl rfl)) ?_
   exact XE
  refine V_seq ?_
  refine V_e (mb 47 25) [24] (s1 := ⟨I d1 :: .bot :: .bot :: .ow 24 :: I 1 :: bt 42 [], [(24, .arr 25 3 ((([] : List ((Int × Int × Int)))).map c25))]⟩) ?_
  obtain ⟨o5, hLo5, h⟩ := of_bind h
  refine V_toK (mb 47 8) [24] (s1 := ⟨bt 3 (.ow 24 :: bt 43 []), [(24, .arr 25 3 (o5.map c25))]⟩) ?_ ?_
  ·clear h
   refine V_block (V_loop (fun n s => ∃ (a2 : Int) (l3 : List ((Int × Int × Int))), s.keep (mb 47 25) [24] = (⟨I d1 :: .bot :: .bot :: .ow 24 :: I a2 :: bt 42 [], [(24, .arr 25 3 (l3.map c25))]⟩ : St) ∧ r_spec_reAll_L4 d1 n a2 l3 = some o5) FU ⟨_, _,  by rfl, hLo5⟩ ?_)
   clear hLo5
   rintro n s ⟨a2, l3, hs, h⟩
   refine V_keep _ _ hs ?_
   clear hs
   cases n with
   | zero => cases h
   | succ n =>
    rw [r_spec_reAll_L4] at h
    refine V_seq ?_
    refine V_e (mb 47 8217) [24] (s1 := ⟨I d1 :: .bot :: .bot :: .ow 24 :: I a2 :: bt 8 (Bo (leI (w64 ((w64 (3 * a2)) * a2)) (w64 (0 - d1))) :: bt 33 []), [(24, .arr 25 3 (l3.map c25))]⟩) ?_
    refine V_cond rfl (fun hc6 => ?_) (fun hc6 => ?_)
    ·have h := of_true h hc6
     refine V_skip ?_
     show V _ _ _ _
     refine V_seq ?_
     refine V_block ?_
     obtain ⟨b7, hb7, h⟩ := of_sI h
     refine V_sreg (mb 47 57) [24] (s1 := ⟨I d1 :: .bot :: .bot :: .ow 24 :: I a2 :: I b7 :: bt 41 [], [(24, .arr 25 3 (l3.map c25))]⟩) ?_ ?_
     ·refine XR 3 ?_
      refine XL_nil ?_
      subst hb7
      kernel_rfl
     obtain ⟨o11, hLo11, h⟩ := of_bind h
     refine V_toK (mb 47 25) [24] (s1 := ⟨I d1 :: .bot :: .bot :: .ow 24 :: I a2 :: bt 42 [], [(24, .arr 25 3 (o11.map c25))]⟩) ?_ ?_
     ·clear h
      refine V_block (V_loop (fun n s => ∃ (b8 : Int) (l9 : List ((Int × Int × Int))), s.keep (mb 47 57) [24] = (⟨I d1 :: .bot :: .bot :: .ow 24 :: I a2 :: I b8 :: bt 41 [], [(24, .arr 25 3 (l9.map c25))]⟩ : St) ∧ r_spec_reAll_L10 a2 d1 n b8 l9 = some o11) FU ⟨_, _,  by rfl, hLo11⟩ ?_)
      clear hLo11
      rintro n s ⟨b8, l9, hs, h⟩
      refine V_keep _ _ hs ?_
      clear hs
      cases n with
      | zero => cases h
      | succ n =>
       rw [r_spec_reAll_L10] at h
       refine V_seq ?_
       refine V_e (mb 47 1048633) [24] (s1 := ⟨I d1 :: .bot :: .bot :: .ow 24 :: I a2 :: I b8 :: bt 14 (Bo (leI b8 a2) :: bt 26 []), [(24, .arr 25 3 (l9.map c25))]⟩) ?_
       refine V_cond rfl (fun hc12 => ?_) (fun hc12 => ?_)
       ·have h := of_true h hc12
        refine V_skip ?_
        show V _ _ _ _
        refine V_seq ?_
        refine V_block ?_
        obtain ⟨z13, hz13, h⟩ := of_bind h
        obtain ⟨f14, hf14, h⟩ := of_sI h
        refine V_sreg (mb 47 121) [48, 24] (s1 := ⟨I d1 :: .bot :: .bot :: .ow 24 :: I a2 :: I b8 :: .pt 48 0 :: bt 40 [], [(48, .box [Ti a2, Ti b8, Ti f14]), (24, .arr 25 3 (l9.map c25))]⟩) ?_ ?_
        ·refine XR 9 ?_
         refine L0 rfl rfl (Y0_quo64 (a := w64 ((w64 (b8 * b8)) - d1)) (b := w64 (4 * a2)) rfl (by kernel_rfl) (by kernel_rfl) (nz_some hz13)) ?_
         refine L0 rfl rfl (Y0_build (cs := [Ti a2, Ti b8, Ti (w64 (Int.tdiv (w64 ((w64 (b8 * b8)) - d1)) (w64 (4 * a2))))]) pl25 bt25 rfl rfl (by kernel_rfl)) ?_
         refine XR 2 ?_
         refine XL_nil ?_
         subst hf14
         kernel_rfl
        obtain ⟨y15, hy15, h⟩ := of_bind h
        obtain ⟨b18, hb18, h⟩ := of_bind h
        refine V_sreg (mb 47 2199023255673) [48, 24] (s1 := ⟨I d1 :: .bot :: .bot :: .ow 24 :: I a2 :: I b8 :: .pt 48 0 :: bt 34 (Bo b18 :: bt 5 []), [(48, .box [Ti a2, Ti b8, Ti f14]), (24, .arr 25 3 (l9.map c25))]⟩) ?_ ?_
        ·refine XR 1 ?_
         refine XC (s_spec_foDisc hy15) cf_spec_foDisc rfl rfl rfl ?_
         refine XR 3 ?_
         refine XL_split (eqI y15 d1) (fun hc16 => ?_) (fun hc16 => ?_)
         ·have hb18 := of_true hb18 hc16
          obtain ⟨y17, hy17, hb18⟩ := of_bind hb18
          have hb18 := some_inj hb18
          refine XL_takeC _ rfl rfl (by kernel_rfl) hc16 (X_of_Y0 rfl (E_loadn (cs := [Ti a2, Ti b8, Ti f14]) [Ti a2, Ti b8, Ti f14] wd25 rfl (by kernel_rfl) (Nat.le_of_ble_eq_true rfl) (by kernel_rfl))) ?_
          refine XL_takeC _ rfl rfl (by kernel_rfl) hc16 (X_of_Y1 rfl (Y1_call (s_spec_reIs hy17) cf_spec_reIs rfl (by kernel_rfl))) ?_
          refine XL_cons rfl (X_of_Y0 rfl (Y0_pickTe (b := eqI y15 d1) (p := y17) rfl (by kernel_rfl) hc16 (by kernel_rfl) hb18)) ?_
          exact XE
         ·have hb18 := some_inj (of_false hb18 hc16)
          refine XL_skipT _ rfl rfl (by kernel_rfl) hc16 rfl ?_
          refine XL_skipT _ rfl rfl (by kernel_rfl) hc16 rfl ?_
          refine XL_cons rfl (X_of_Y0 rfl (Y0_pickFe (b := eqI y15 d1) (p := false) rfl (by kernel_rfl) hc16 (by kernel_rfl) hb18)) ?_
          exact XE
        refine V_cond rfl (fun hc19 => ?_) (fun hc19 => ?_)
        ·have h := of_true h hc19
         obtain ⟨u20, hu20, h⟩ := of_bind h
         refine V_reg (mb 47 57) [24] (s1 := ⟨I d1 :: .bot :: .bot :: .ow 24 :: I a2 :: I b8 :: bt 41 [], [(24, .arr 25 3 ((l9 ++ ([(a2, b8, f14)])).map c25))]⟩) ?_ ?_
         ·refine XR 2 ?_
          refine L1 rfl rfl (Y1_bslice (z := zv25) (els := [(a2, b8, f14)].map c25) Try.underlying44 iz25 rfl (by decide) rfl (by kernel_rfl) rfl (by simp [c25]) (by decide) (by decide)) ?_
          refine XL_cons rfl (X_appendM (c := c25) (xs := l9) (ys := [(a2, b8, f14)]) (id := 24) (z := zv25) rfl rfl Try.underlying44 izb25 rfl (by kernel_rfl) (by kernel_rfl) (by kernel_rfl) (fun _ => rfl) (by simp) (room_some hu20) (by decide)) ?_
          exact XE
         show V _ _ _ _
         obtain ⟨b21, hb21, h⟩ := of_sI h
         refine V_reg (mb 47 57) [24] (s1 := ⟨I d1 :: .bot :: .bot :: .ow 24 :: I a2 :: I b21 :: bt 41 [], [(24, .arr 25 3 ((l9 ++ ([(a2, b8, f14)])).map c25))]⟩) ?_ ?_
         ·refine XR 3 ?_
          refine XL_nil ?_
          subst hb21
          kernel_rfl
         exact ⟨n, Nat.lt_succ_self n, _, _,  by rfl, h⟩
        ·have h := of_false h hc19
         refine V_skip ?_
         show V _ _ _ _
         obtain ⟨b22, hb22, h⟩ := of_sI h
         refine V_reg (mb 47 57) [24] (s1 := ⟨I d1 :: .bot :: .bot :: .ow 24 :: I a2 :: I b22 :: bt 41 [], [(24, .arr 25 3 (l9.map c25))]⟩) ?_ ?_
         ·refine XR 3 ?_
          refine XL_nil ?_
          subst hb22
          kernel_rfl
         exact ⟨n, Nat.lt_succ_self n, _, _,  by rfl, h⟩
       ·have h := of_false h hc12
        refine V_exit ?_
        obtain rfl := some_inj h
        show St.keep _ _ _ = _
        rfl
     show V _ _ _ _
     obtain ⟨a23, ha23, h⟩ := of_sI h
     refine V_reg (mb 47 25) [24] (s1 := ⟨I d1 :: .bot :: .bot :: .ow 24 :: I a23 :: bt 42 [], [(24, .arr 25 3 (o11.map c25))]⟩) ?_ ?_
     ·refine XR 3 ?_
      refine XL_nil ?_
      subst ha23
      kernel_rfl
     exact ⟨n, Nat.lt_succ_self n, _, _,  by rfl, h⟩
    ·have h := of_false h hc6
     refine V_exit ?_
     obtain rfl := some_inj h
     show St.keep _ _ _ = _
     rfl
  show V _ _ _ _
  refine V_e (mb 47 4) [24] (s1 := ⟨.bot :: .bot :: .ow 24 :: bt 44 [], [(24, .arr 25 3 (o5.map c25))]⟩) ?_
  refine V_ret ?_
  obtain rfl := some_inj h
  show Post _ _ _ _ _
  exact ⟨.inr rfl, rfl, rfl, rfl⟩
theorem cf_spec_l1Abs : ∀ args w, (callFunc 141 args).run Try.prog w = .ok (.enter 141 args) w := run_callFunc Try.func141 (by kernel_rfl) (by kernel_rfl)
theorem s_spec_l1Abs {vn1 : Int} {r : Int} (h : r_spec_l1Abs vn1 = some r) : CallS Try.prog 141 [I vn1] (I r) [] := by
  refine CallS_of_text (rs := [.t 2]) (vs := [.tmp 2]) Try.func141 rfl rfl (.cons rfl FitsL.nil) (by decide) 7 rfl ?_
  unfold r_spec_l1Abs at h
  show V _ _ ⟨I vn1 :: bt 6 [], []⟩ _
  refine V_e (mb 7 1) [] (s1 := ⟨I vn1 :: bt 6 [], []⟩) ?_
  obtain ⟨y2, hy2, h⟩ := of_bind h
  refine V_sreg (mb 7 4) [] (s1 := ⟨.bot :: .bot :: I y2 :: bt 4 [], []⟩) ?_ ?_
  ·refine XR 3 ?_
   refine XC (s_spec_l1Most hy2) cf_spec_l1Most rfl rfl rfl ?_
   exact XE
  refine V_ret ?_
  obtain rfl := some_inj h
  show Post _ _ _ _ _
  exact ⟨.inr rfl, rfl, rfl, rfl⟩
theorem cf_spec_nuGcd : ∀ args w, (callFunc 125 args).run Try.prog w = .ok (.enter 125 args) w := run_callFunc Try.func125 (by kernel_rfl) (by kernel_rfl)
theorem s_spec_nuGcd {a1 : Int} {b2 : Int} {r : Int} (h : r_spec_nuGcd a1 b2 = some r) : CallS Try.prog 125 [I a1, I b2] (I r) [] := by
  refine CallS_of_text (rs := [.t 4]) (vs := [.tmp 4]) Try.func125 rfl rfl (.cons rfl FitsL.nil) (by decide) 16 rfl ?_
  unfold r_spec_nuGcd at h
  show V _ _ ⟨I a1 :: I b2 :: bt 14 [], []⟩ _
  refine V_e (mb 16 3) [] (s1 := ⟨I a1 :: I b2 :: bt 14 [], []⟩) ?_
  obtain ⟨y3, hy3, h⟩ := of_bind h
  obtain ⟨y4, hy4, h⟩ := of_bind h
  refine V_sreg (mb 16 3) [] (s1 := ⟨I y3 :: I y4 :: bt 14 [], []⟩) ?_ ?_
  ·refine XR 1 ?_
   refine XC (s_spec_l1Abs hy3) cf_spec_l1Abs rfl rfl rfl ?_
   refine XR 1 ?_
   refine XC (s_spec_l1Abs hy4) cf_spec_l1Abs rfl rfl rfl ?_
   exact XE
  refine V_seq ?_
  obtain ⟨o8, hLo8, h⟩ := of_bind h
  refine V_toK (mb 16 1) [] (s1 := ⟨I o8 :: bt 15 [], []⟩) ?_ ?_
  ·clear h
   refine V_block (V_loop (fun n s => ∃ (a5 : Int) (b6 : Int), s.keep (mb 16 3) [] = (⟨I a5 :: I b6 :: bt 14 [], []⟩ : St) ∧ r_spec_nuGcd_L7 n a5 b6 = some o8) FU ⟨_, _,  by rfl, hLo8⟩ ?_)
   clear hLo8
   rintro n s ⟨a5, b6, hs, h⟩
   refine V_keep _ _ hs ?_
   clear hs
   cases n with
   | zero => cases h
   | succ n =>
    rw [r_spec_nuGcd_L7] at h
    refine V_seq ?_
    refine V_e (mb 16 1027) [] (s1 := ⟨I a5 :: I b6 :: bt 8 (Bo (!eqI b6 0) :: bt 5 []), []⟩) ?_
    refine V_cond rfl (fun hc9 => ?_) (fun hc9 => ?_)
    ·have h := of_true h hc9
     refine V_skip ?_
     show V _ _ _ _
     refine V_block ?_
     obtain ⟨z10, hz10, h⟩ := of_bind h
     obtain ⟨b11, hb11, h⟩ := of_sI h
     refine V_dreg [0, 0, 0, 6, 3, 31] 6 (cdm 6 [168, 34, 522, 534, 165, 341]) (mb 16 3) [] (s1 := ⟨I b6 :: I b11 :: bt 14 [], []⟩) (by kernel_rfl) (by kernel_rfl) ?_ ?_
     ·refine DR 3 ?_
      refine DE_0 3 (I (Int.tmod a5 b6)) (by kernel_rfl) rfl rfl rfl (gsat_none rfl) (by kernel_rfl) (Y0_rem (k := .i64) (a := a5) (b := b6) rfl (by kernel_rfl) (by kernel_rfl) (nz_some hz10)) 14 rfl ?_
      refine DA 2 ?_
      refine XL_nil ?_
      subst hb11
      kernel_rfl
     exact ⟨n, Nat.lt_succ_self n, _, _,  by rfl, h⟩
    ·have h := of_false h hc9
     refine V_exit ?_
     obtain rfl := some_inj h
     show St.keep _ _ _ = _
     rfl
  show V _ _ _ _
  refine V_e (mb 16 16) [] (s1 := ⟨bt 4 (I o8 :: bt 11 []), []⟩) ?_
  refine V_ret ?_
  obtain rfl := some_inj h
  show Post _ _ _ _ _
  exact ⟨.inr rfl, rfl, rfl, rfl⟩
theorem cf_spec_foContent : ∀ args w, (callFunc 98 args).run Try.prog w = .ok (.enter 98 args) w := run_callFunc Try.func98 (by kernel_rfl) (by kernel_rfl)
theorem s_spec_foContent {f1 : (Int × Int × Int)} {r : Int} (h : r_spec_foContent f1 = some r) : CallS Try.prog 98 [.ag [Ti f1.1, Ti f1.2.1, Ti f1.2.2]] (I r) [] := by
  refine CallS_of_text (rs := [.t 2]) (vs := [.tmp 2]) Try.func98 rfl rfl (.cons rfl FitsL.nil) (by decide) 11 rfl ?_
  unfold r_spec_foContent at h
  show V _ _ ⟨.ag [Ti f1.1, Ti f1.2.1, Ti f1.2.2] :: bt 10 [], []⟩ _
  refine V_e (mb 11 2) [8] (s1 := ⟨.bot :: .pt 8 0 :: bt 9 [], [(8, .box [Ti f1.1, Ti f1.2.1, Ti f1.2.2])]⟩) ?_
  obtain ⟨y2, hy2, h⟩ := of_bind h
  obtain ⟨y3, hy3, h⟩ := of_bind h
  refine V_sdreg [0, 1, 0, 4, 15, 0, 32, 127, 255] 9 (cdm 9 [10400, 10401, 10250, 10266, 10325, 682, 1706, 5461, 21845]) (mb 11 4) [] (s1 := ⟨.bot :: .bot :: I y3 :: bt 8 [], []⟩) (by kernel_rfl) (by kernel_rfl) ?_ ?_
  ·refine DR 4 ?_
   refine DC 4 (s_spec_nuGcd hy2) cf_spec_nuGcd rfl rfl rfl rfl 7 rfl ?_
   refine DR 2 ?_
   refine DC 7 (s_spec_nuGcd hy3) cf_spec_nuGcd rfl rfl rfl rfl 10 rfl ?_
   refine DA 1 ?_
   exact XE
  refine V_ret ?_
  obtain rfl := some_inj h
  show Post _ _ _ _ _
  exact ⟨.inr rfl, rfl, rfl, rfl⟩
theorem cf_spec_reList : ∀ args w, (callFunc 91 args).run Try.prog w = .ok (.enter 91 args) w := run_callFunc Try.func91 (by kernel_rfl) (by kernel_rfl)
theorem s_spec_reList {d1 : Int} {r : List ((Int × Int × Int))} (h : r_spec_reList d1 = some r) : CallS Try.prog 91 [I d1] (.ow 0) [(0, .arr 25 3 (r.map c25))] := by
  refine CallS_of_text (rs := [.t 2]) (vs := [.tmp 2]) Try.func91 rfl rfl (.cons rfl FitsL.nil) (by decide) 22 rfl ?_
  unfold r_spec_reList at h
  show V _ _ ⟨I d1 :: bt 21 [], []⟩ _
  refine V_sreg (mb 22 1) [] (s1 := ⟨I d1 :: bt 21 [], []⟩) ?_ ?_
  ·refine L1 rfl rfl (Y1_nil (e := 25) 3 (by decide) (.inl rfl)) ?_
   exact XE
  refine V_sreg (mb 22 9) [24] (s1 := ⟨I d1 :: .bot :: .bot :: .ow 24 :: bt 18 [], [(24, .arr 25 3 ((([] : List ((Int × Int × Int)))).map c25))]⟩) ?_ ?_
  ·refine L1 rfl rfl (Y1_nil (e := 25) 3 (by decide) (.inl rfl)) ?_
   exact XE
  refine V_seq ?_
  obtain ⟨y2, hy2, h⟩ := of_bind h
  refine V_sreg (mb 22 904) [56, 24] (s1 := ⟨bt 3 (.ow 24 :: bt 3 (.ow 56 :: I ((y2.length : Int)) :: I 0 :: bt 12 [])), [(56, .arr 25 3 (y2.map c25)), (24, .arr 25 3 ((([] : List ((Int × Int × Int)))).map c25))]⟩) ?_ ?_
  ·refine XR 1 ?_
   refine XC (s_spec_reAll hy2) cf_spec_reAll rfl rfl rfl ?_
   refine L0 rfl rfl (Y0_lenM (c := c25) (xs := y2) Try.underlying44 rfl (by kernel_rfl)) ?_
   exact XE
  obtain ⟨o6, hLo6, h⟩ := of_bind h
  refine V_toK (mb 22 8) [24] (s1 := ⟨bt 3 (.ow 24 :: bt 18 []), [(24, .arr 25 3 (o6.map c25))]⟩) ?_ ?_
  ·clear h
   refine V_block (V_loop (fun n s => ∃ (t3 : Int) (l4 : List ((Int × Int × Int))), s.keep (mb 22 904) [56, 24] = (⟨bt 3 (.ow 24 :: bt 3 (.ow 56 :: I ((y2.length : Int)) :: I t3 :: bt 12 [])), [(56, .arr 25 3 (y2.map c25)), (24, .arr 25 3 (l4.map c25))]⟩ : St) ∧ r_spec_reList_L5 y2 n t3 l4 = some o6) FU ⟨_, _,  by rfl, hLo6⟩ ?_)
   clear hLo6
   rintro n s ⟨t3, l4, hs, h⟩
   refine V_keep _ _ hs ?_
   clear hs
   cases n with
   | zero => cases h
   | succ n =>
    rw [r_spec_reList_L5] at h
    refine V_e (mb 22 1928) [56, 24] (s1 := ⟨bt 3 (.ow 24 :: bt 3 (.ow 56 :: I ((y2.length : Int)) :: I t3 :: Bo (ltI t3 ((y2.length : Int))) :: bt 11 [])), [(56, .arr 25 3 (y2.map c25)), (24, .arr 25 3 (l4.map c25))]⟩) ?_
    refine V_seq ?_
    refine V_cond rfl (fun hc7 => ?_) (fun hc7 => ?_)
    ·have h := of_true h hc7
     refine V_skip ?_
     show V _ _ _ _
     refine V_seq ?_
     refine V_block ?_
     obtain ⟨e8, he8, h⟩ := of_bind h
     obtain ⟨e9, he9, h⟩ := of_bind h
     refine V_sreg (mb 22 936) [40, 56, 24] (s1 := ⟨bt 3 (.ow 24 :: .bot :: .pt 40 0 :: .bot :: .ow 56 :: I ((y2.length : Int)) :: I t3 :: bt 12 []), [(40, .box [Ti e9.1, Ti e9.2.1, Ti e9.2.2]), (56, .arr 25 3 (y2.map c25)), (24, .arr 25 3 (l4.map c25))]⟩) ?_ ?_
     ·refine L0 rfl rfl (Y0_idxoM (c := c25) (xs := y2) (v := e8) (id := 56) (T := 25) (sz := 3) (n := t3) Try.underlying44 sz25 rfl (by kernel_rfl) (by kernel_rfl) (by kernel_rfl) he8) ?_
      refine L0 rfl rfl (E_loadon (c := c25) (xs := y2) (v := e9) (id := 56) (sz := 3) (T := 25) (off := 0) (n := t3) [Ti e9.1, Ti e9.2.1, Ti e9.2.2] wd25 rfl (by kernel_rfl) (by kernel_rfl) he9 (Nat.le_of_ble_eq_true rfl) (by kernel_rfl)) ?_
      exact XE
     obtain ⟨y10, hy10, h⟩ := of_bind h
     refine V_sreg (mb 22 33704) [40, 56, 24] (s1 := ⟨bt 3 (.ow 24 :: .bot :: .pt 40 0 :: .bot :: .ow 56 :: I ((y2.length : Int)) :: I t3 :: bt 5 (Bo (eqI y10 1) :: bt 6 [])), [(40, .box [Ti e9.1, Ti e9.2.1, Ti e9.2.2]), (56, .arr 25 3 (y2.map c25)), (24, .arr 25 3 (l4.map c25))]⟩) ?_ ?_
     ·refine XR 1 ?_
      refine XC (s_spec_foContent hy10) cf_spec_foContent rfl rfl rfl ?_
      exact XE
     refine V_cond rfl (fun hc11 => ?_) (fun hc11 => ?_)
     ·have h := of_true h hc11
      obtain ⟨u12, hu12, h⟩ := of_bind h
      refine V_reg (mb 22 904) [56, 24] (s1 := ⟨bt 3 (.ow 24 :: bt 3 (.ow 56 :: I ((y2.length : Int)) :: I t3 :: bt 12 [])), [(56, .arr 25 3 (y2.map c25)), (24, .arr 25 3 ((l4 ++ ([e9])).map c25))]⟩) ?_ ?_
      ·refine XR 2 ?_
       refine L1 rfl rfl (Y1_bslice (z := zv25) (els := [e9].map c25) Try.underlying44 iz25 rfl (by decide) rfl (by kernel_rfl) rfl (by simp [c25]) (by decide) (by decide)) ?_
       refine XL_cons rfl (X_appendM (c := c25) (xs := l4) (ys := [e9]) (id := 24) (z := zv25) rfl rfl Try.underlying44 izb25 rfl (by kernel_rfl) (by kernel_rfl) (by kernel_rfl) (fun _ => rfl) (by simp) (room_some hu12) (by decide)) ?_
       exact XE
      show V _ _ _ _
      obtain ⟨t13, ht13, h⟩ := of_sI h
      refine V_reg (mb 22 904) [56, 24] (s1 := ⟨bt 3 (.ow 24 :: bt 3 (.ow 56 :: I ((y2.length : Int)) :: I t13 :: bt 12 [])), [(56, .arr 25 3 (y2.map c25)), (24, .arr 25 3 ((l4 ++ ([e9])).map c25))]⟩) ?_ ?_
      ·refine XR 2 ?_
       refine XL_nil ?_
       subst ht13
       kernel_rfl
      exact ⟨n, Nat.lt_succ_self n, _, _,  by rfl, h⟩
     ·have h := of_false h hc11
      refine V_skip ?_
      show V _ _ _ _
      obtain ⟨t14, ht14, h⟩ := of_sI h
      refine V_reg (mb 22 904) [56, 24] (s1 := ⟨bt 3 (.ow 24 :: bt 3 (.ow 56 :: I ((y2.length : Int)) :: I t14 :: bt 12 [])), [(56, .arr 25 3 (y2.map c25)), (24, .arr 25 3 (l4.map c25))]⟩) ?_ ?_
      ·refine XR 2 ?_
       refine XL_nil ?_
       subst ht14
       kernel_rfl
      exact ⟨n, Nat.lt_succ_self n, _, _,  by rfl, h⟩
    ·have h := of_false h hc7
     refine V_exit ?_
     obtain rfl := some_inj h
     show St.keep _ _ _ = _
     rfl
  show V _ _ _ _
  refine V_e (mb 22 4) [24] (s1 := ⟨.bot :: .bot :: .ow 24 :: bt 19 [], [(24, .arr 25 3 (o6.map c25))]⟩) ?_
  refine V_ret ?_
  obtain rfl := some_inj h
  show Post _ _ _ _ _
  exact ⟨.inr rfl, rfl, rfl, rfl⟩
theorem cf_spec_reNormal : ∀ args w, (callFunc 140 args).run Try.prog w = .ok (.enter 140 args) w := run_callFunc Try.func140 (by kernel_rfl) (by kernel_rfl)
theorem s_spec_reNormal {f1 : (Int × Int × Int)} {r : Int} (h : r_spec_reNormal f1 = some r) : CallS Try.prog 140 [.ag [Ti f1.1, Ti f1.2.1, Ti f1.2.2]] (I r) [] := by
  refine CallS_of_text (rs := [.t 2]) (vs := [.tmp 2]) Try.func140 rfl rfl (.cons rfl FitsL.nil) (by decide) 22 rfl ?_
  unfold r_spec_reNormal at h
  show V _ _ ⟨.ag [Ti f1.1, Ti f1.2.1, Ti f1.2.2] :: bt 21 [], []⟩ _
  refine V_e (mb 22 2) [8] (s1 := ⟨.bot :: .pt 8 0 :: bt 20 [], [(8, .box [Ti f1.1, Ti f1.2.1, Ti f1.2.2])]⟩) ?_
  obtain ⟨y2, hy2, h⟩ := of_bind h
  obtain ⟨z3, hz3, h⟩ := of_bind h
  obtain ⟨t4, ht4, h⟩ := of_sI h
  refine V_sdreg [0, 1, 0, 4, 15, 0, 32, 0, 128, 480, 0, 1024, 3072, 8160, 16383, 0, 32768, 98304, 262143, 524287] 20 (cdm 20 [45276113056, 45276113057, 45276112906, 45276112922, 45276112981, 45141361322, 45141362346, 45141207722, 45141224106, 45141284522, 45097855658, 45098904234, 45103098538, 45119526570, 45186635093, 715827882, 1789569706, 6084537002, 22906492245, 91625968981]) (mb 22 4) [] (s1 := ⟨.bot :: .bot :: I t4 :: bt 19 [], []⟩) (by kernel_rfl) (by kernel_rfl) ?_ ?_
  ·refine DR 13 ?_
   refine DC 13 (s_spec_nuMod hy2) cf_spec_nuMod rfl rfl rfl rfl 16 rfl ?_
   refine DR 4 ?_
   refine DE_0 18 (I (w64 (Int.tdiv (w64 ((w64 (f1.1 - f1.2.1)) - y2)) (w64 (2 * f1.1))))) (by kernel_rfl) rfl rfl rfl (gsat_none rfl) (by kernel_rfl) (Y0_quo64 (a := w64 ((w64 (f1.1 - f1.2.1)) - y2)) (b := w64 (2 * f1.1)) rfl (by kernel_rfl) (by kernel_rfl) (nz_some hz3)) 21 rfl ?_
   refine DA 1 ?_
   refine XL_nil ?_
   subst ht4
   kernel_rfl
  refine V_ret ?_
  obtain rfl := some_inj h
  show Post _ _ _ _ _
  exact ⟨.inr rfl, rfl, rfl, rfl⟩
theorem cf_spec_reMove : ∀ args w, (callFunc 122 args).run Try.prog w = .ok (.enter 122 args) w := run_callFunc Try.func122 (by kernel_rfl) (by kernel_rfl)
theorem s_spec_reMove {f1 : (Int × Int × Int)} {r : (Int × Int × Int × Int)} (h : r_spec_reMove f1 = some r) : CallS Try.prog 122 [.ag [Ti f1.1, Ti f1.2.1, Ti f1.2.2]] (.ag [Ti r.1, Ti r.2.1, Ti r.2.2.1, Ti r.2.2.2]) [] := by
  refine CallS_of_text (rs := [.w 2 4]) (vs := [.cell 2 86]) Try.func122 rfl rfl (.cons ⟨rfl, wd86⟩ FitsL.nil) (by decide) 14 rfl ?_
  unfold r_spec_reMove at h
  show V _ _ ⟨.ag [Ti f1.1, Ti f1.2.1, Ti f1.2.2] :: bt 13 [], []⟩ _
  refine V_e (mb 14 6) [16, 8] (s1 := ⟨.bot :: .pt 8 0 :: .pt 16 0 :: bt 11 [], [(16, .box [Ti 0, Ti 0, Ti 0, Ti 0]), (8, .box [Ti f1.1, Ti f1.2.1, Ti f1.2.2])]⟩) ?_
  refine V_seq ?_
  obtain ⟨y2, hy2, h⟩ := of_bind h
  refine V_sreg (mb 14 14) [16, 8] (s1 := ⟨.bot :: .pt 8 0 :: .pt 16 0 :: I y2 :: bt 10 [], [(16, .box [Ti 0, Ti 0, Ti 0, Ti 0]), (8, .box [Ti f1.1, Ti f1.2.1, Ti f1.2.2])]⟩) ?_ ?_
  ·refine XR 1 ?_
   refine XC (s_spec_reNormal hy2) cf_spec_reNormal rfl rfl rfl ?_
   exact XE
  refine V_e (mb 14 142) [16, 8] (s1 := ⟨.bot :: .pt 8 0 :: .pt 16 0 :: I y2 :: bt 3 (Bo (!eqI y2 0) :: bt 6 []), [(16, .box [Ti 0, Ti 0, Ti 0, Ti 0]), (8, .box [Ti f1.1, Ti f1.2.1, Ti f1.2.2])]⟩) ?_
  refine V_cond rfl (fun hc3 => ?_) (fun hc3 => ?_)
  ·have h := of_true h hc3
   refine V_sreg (mb 14 4) [16] (s1 := ⟨.bot :: .bot :: .pt 16 0 :: bt 11 [], [(16, .box [Ti 1, Ti y2, Ti 0, Ti 1])]⟩) ?_ ?_
   ·refine XR 1 ?_
    refine L0 rfl rfl (Y0_build (cs := [Ti 1, Ti y2, Ti 0, Ti 1]) pl86 bt86 rfl rfl (by kernel_rfl)) ?_
    exact XE
   refine V_ret ?_
   obtain rfl := some_inj h
   show Post _ _ _ _ _
   exact ⟨.inr rfl, rfl, rfl, rfl⟩
  ·have h := of_false h hc3
   refine V_skip ?_
   show V _ _ _ _
   refine V_seq ?_
   obtain ⟨y4, hy4, h⟩ := of_bind h
   refine V_sreg (mb 14 2052) [16] (s1 := ⟨.bot :: .bot :: .pt 16 0 :: bt 8 (Bo y4 :: .bot :: .bot :: []), [(16, .box [Ti 0, Ti 0, Ti 0, Ti 0])]⟩) ?_ ?_
   ·refine XR 1 ?_
    refine XC (s_spec_reIs hy4) cf_spec_reIs rfl rfl rfl ?_
    exact XE
   refine V_cond rfl (fun hc5 => ?_) (fun hc5 => ?_)
   ·have h := of_true h hc5
    refine V_sreg (mb 14 4) [16] (s1 := ⟨.bot :: .bot :: .pt 16 0 :: bt 11 [], [(16, .box [Ti 1, Ti 0, Ti 0, Ti 1])]⟩) ?_ ?_
    ·refine L0 rfl rfl (Y0_build (cs := [Ti 1, Ti 0, Ti 0, Ti 1]) pl86 bt86 rfl rfl (by kernel_rfl)) ?_
     exact XE
    refine V_ret ?_
    obtain rfl := some_inj h
    show Post _ _ _ _ _
    exact ⟨.inr rfl, rfl, rfl, rfl⟩
   ·have h := of_false h hc5
    refine V_skip ?_
    show V _ _ _ _
    refine V_sreg (mb 14 4) [16] (s1 := ⟨.bot :: .bot :: .pt 16 0 :: bt 11 [], [(16, .box [Ti 0, Ti (-1), Ti 1, Ti 0])]⟩) ?_ ?_
    ·refine L0 rfl rfl (Y0_build (cs := [Ti 0, Ti (-1), Ti 1, Ti 0]) pl86 bt86 rfl rfl (by kernel_rfl)) ?_
     exact XE
    refine V_ret ?_
    obtain rfl := some_inj h
    show Post _ _ _ _ _
    exact ⟨.inr rfl, rfl, rfl, rfl⟩
theorem cf_spec_foValue : ∀ args w, (callFunc 136 args).run Try.prog w = .ok (.enter 136 args) w := run_callFunc Try.func136 (by kernel_rfl) (by kernel_rfl)
theorem s_spec_foValue {f1 : (Int × Int × Int)} {x2 : Int} {y3 : Int} {r : Int} (h : r_spec_foValue f1 x2 y3 = some r) : CallS Try.prog 136 [.ag [Ti f1.1, Ti f1.2.1, Ti f1.2.2], I x2, I y3] (I r) [] := by
  refine CallS_of_text (rs := [.t 6]) (vs := [.tmp 6]) Try.func136 rfl rfl (.cons rfl FitsL.nil) (by decide) 27 rfl ?_
  unfold r_spec_foValue at h
  show V _ _ ⟨.ag [Ti f1.1, Ti f1.2.1, Ti f1.2.2] :: I x2 :: I y3 :: bt 24 [], []⟩ _
  refine V_e (mb 27 14) [24] (s1 := ⟨.bot :: I x2 :: I y3 :: .pt 24 0 :: bt 23 [], [(24, .box [Ti f1.1, Ti f1.2.1, Ti f1.2.2])]⟩) ?_
  obtain ⟨t4, ht4, h⟩ := of_sI h
  refine V_sreg (mb 27 64) [] (s1 := ⟨bt 6 (I t4 :: bt 20 []), []⟩) ?_ ?_
  ·refine XR 21 ?_
   refine XL_nil ?_
   subst ht4
   kernel_rfl
  refine V_ret ?_
  obtain rfl := some_inj h
  show Post _ _ _ _ _
  exact ⟨.inr rfl, rfl, rfl, rfl⟩
theorem cf_spec_foPolar : ∀ args w, (callFunc 138 args).run Try.prog w = .ok (.enter 138 args) w := run_callFunc Try.func138 (by kernel_rfl) (by kernel_rfl)
theorem s_spec_foPolar {f1 : (Int × Int × Int)} {x2 : Int} {y3 : Int} {u4 : Int} {v5 : Int} {r : Int} (h : r_spec_foPolar f1 x2 y3 u4 v5 = some r) : CallS Try.prog 138 [.ag [Ti f1.1, Ti f1.2.1, Ti f1.2.2], I x2, I y3, I u4, I v5] (I r) [] := by
  refine CallS_of_text (rs := [.t 10]) (vs := [.tmp 10]) Try.func138 rfl rfl (.cons rfl FitsL.nil) (by decide) 37 rfl ?_
  unfold r_spec_foPolar at h
  show V _ _ ⟨.ag [Ti f1.1, Ti f1.2.1, Ti f1.2.2] :: I x2 :: I y3 :: I u4 :: I v5 :: bt 32 [], []⟩ _
  refine V_e (mb 37 62) [40] (s1 := ⟨.bot :: I x2 :: I y3 :: I u4 :: I v5 :: .pt 40 0 :: bt 31 [], [(40, .box [Ti f1.1, Ti f1.2.1, Ti f1.2.2])]⟩) ?_
  obtain ⟨t6, ht6, h⟩ := of_sI h
  refine V_sreg (mb 37 1024) [] (s1 := ⟨bt 10 (I t6 :: bt 26 []), []⟩) ?_ ?_
  ·refine XR 27 ?_
   refine XL_nil ?_
   subst ht6
   kernel_rfl
  refine V_ret ?_
  obtain rfl := some_inj h
  show Post _ _ _ _ _
  exact ⟨.inr rfl, rfl, rfl, rfl⟩
theorem cf_spec_foAct : ∀ args w, (callFunc 123 args).run Try.prog w = .ok (.enter 123 args) w := run_callFunc Try.func123 (by kernel_rfl) (by kernel_rfl)
theorem s_spec_foAct {f1 : (Int × Int × Int)} {vm2 : (Int × Int × Int × Int)} {r : (Int × Int × Int)} (h : r_spec_foAct f1 vm2 = some r) : CallS Try.prog 123 [.ag [Ti f1.1, Ti f1.2.1, Ti f1.2.2], .ag [Ti vm2.1, Ti vm2.2.1, Ti vm2.2.2.1, Ti vm2.2.2.2]] (.ag [Ti r.1, Ti r.2.1, Ti r.2.2]) [] := by
  refine CallS_of_text (rs := [.w 4 3]) (vs := [.cell 4 25]) Try.func123 rfl rfl (.cons ⟨rfl, wd25⟩ FitsL.nil) (by decide) 28 rfl ?_
  unfold r_spec_foAct at h
  show V _ _ ⟨.ag [Ti f1.1, Ti f1.2.1, Ti f1.2.2] :: .ag [Ti vm2.1, Ti vm2.2.1, Ti vm2.2.2.1, Ti vm2.2.2.2] :: bt 26 [], []⟩ _
  refine V_e (mb 28 28) [32, 24, 16] (s1 := ⟨.bot :: .bot :: .pt 16 0 :: .pt 24 0 :: .pt 32 0 :: bt 23 [], [(32, .box [Ti 0, Ti 0, Ti 0]), (24, .box [Ti vm2.1, Ti vm2.2.1, Ti vm2.2.2.1, Ti vm2.2.2.2]), (16, .box [Ti f1.1, Ti f1.2.1, Ti f1.2.2])]⟩) ?_
  obtain ⟨y3, hy3, h⟩ := of_bind h
  obtain ⟨y4, hy4, h⟩ := of_bind h
  obtain ⟨y5, hy5, h⟩ := of_bind h
  refine V_sdreg [0, 0, 2, 0, 8, 31, 0, 0, 128, 0, 512, 0, 2048, 0, 8192, 32767, 0, 0, 131072, 0, 524288, 2097151, 4194303, 8388607] 23 (cdm 23 [2929883521704, 2929883521666, 2929883521670, 2929883521066, 2929883521130, 2929883521365, 2929883515562, 2929883359914, 2929883376298, 2929880902314, 2929881164458, 2929841580714, 2929845775018, 2929212435114, 2929279543978, 2929525609813, 2923441072810, 2760232315562, 2777412184746, 183251937962, 458129844906, 1466015503701, 5864062014805]) (mb 28 16) [32] (s1 := ⟨bt 4 (.pt 32 0 :: bt 23 []), [(32, .box [Ti y3, Ti y4, Ti y5])]⟩) (by kernel_rfl) (by kernel_rfl) ?_ ?_
  ·refine DR 5 ?_
   refine DC 5 (s_spec_foValue hy3) cf_spec_foValue rfl rfl rfl rfl 10 rfl ?_
   refine DR 9 ?_
   refine DC 15 (s_spec_foPolar hy4) cf_spec_foPolar rfl rfl rfl rfl 20 rfl ?_
   refine DR 5 ?_
   refine DC 21 (s_spec_foValue hy5) cf_spec_foValue rfl rfl rfl rfl 26 rfl ?_
   refine DE_0 22 (.ag [Ti y3, Ti y4, Ti y5]) (by kernel_rfl) rfl rfl rfl (gsat_none rfl) (by kernel_rfl) (Y0_build (cs := [Ti y3, Ti y4, Ti y5]) pl25 bt25 rfl rfl (by kernel_rfl)) 27 rfl ?_
   refine DA 0 ?_
   exact XE
  refine V_ret ?_
  obtain rfl := some_inj h
  show Post _ _ _ _ _
  exact ⟨.inr rfl, rfl, rfl, rfl⟩
theorem cf_spec_foMul : ∀ args w, (callFunc 114 args).run Try.prog w = .ok (.enter 114 args) w := run_callFunc Try.func114 (by kernel_rfl) (by kernel_rfl)
theorem s_spec_foMul {vm1 : (Int × Int × Int × Int)} {vn2 : (Int × Int × Int × Int)} {r : (Int × Int × Int × Int)} (h : r_spec_foMul vm1 vn2 = some r) : CallS Try.prog 114 [.ag [Ti vm1.1, Ti vm1.2.1, Ti vm1.2.2.1, Ti vm1.2.2.2], .ag [Ti vn2.1, Ti vn2.2.1, Ti vn2.2.2.1, Ti vn2.2.2.2]] (.ag [Ti r.1, Ti r.2.1, Ti r.2.2.1, Ti r.2.2.2]) [] := by
  refine CallS_of_text (rs := [.w 4 4]) (vs := [.cell 4 86]) Try.func114 rfl rfl (.cons ⟨rfl, wd86⟩ FitsL.nil) (by decide) 50 rfl ?_
  unfold r_spec_foMul at h
  show V _ _ ⟨.ag [Ti vm1.1, Ti vm1.2.1, Ti vm1.2.2.1, Ti vm1.2.2.2] :: .ag [Ti vn2.1, Ti vn2.2.1, Ti vn2.2.2.1, Ti vn2.2.2.2] :: bt 48 [], []⟩ _
  refine V_e (mb 50 28) [32, 24, 16] (s1 := ⟨.bot :: .bot :: .pt 16 0 :: .pt 24 0 :: .pt 32 0 :: bt 45 [], [(32, .box [Ti 0, Ti 0, Ti 0, Ti 0]), (24, .box [Ti vn2.1, Ti vn2.2.1, Ti vn2.2.2.1, Ti vn2.2.2.2]), (16, .box [Ti vm1.1, Ti vm1.2.1, Ti vm1.2.2.1, Ti vm1.2.2.2])]⟩) ?_
  obtain ⟨f3, hf3, h⟩ := of_sI h
  obtain ⟨f4, hf4, h⟩ := of_sI h
  obtain ⟨f5, hf5, h⟩ := of_sI h
  obtain ⟨f6, hf6, h⟩ := of_sI h
  refine V_sreg (mb 50 16) [32] (s1 := ⟨bt 4 (.pt 32 0 :: bt 45 []), [(32, .box [Ti f3, Ti f4, Ti f5, Ti f6])]⟩) ?_ ?_
  ·refine XR 44 ?_
   refine L0 rfl rfl (Y0_build (cs := [Ti (w64 ((w64 (vm1.1 * vn2.1)) + (w64 (vm1.2.1 * vn2.2.2.1)))), Ti (w64 ((w64 (vm1.1 * vn2.2.1)) + (w64 (vm1.2.1 * vn2.2.2.2)))), Ti (w64 ((w64 (vm1.2.2.1 * vn2.1)) + (w64 (vm1.2.2.2 * vn2.2.2.1)))), Ti (w64 ((w64 (vm1.2.2.1 * vn2.2.1)) + (w64 (vm1.2.2.2 * vn2.2.2.2))))]) pl86 bt86 rfl rfl (by kernel_rfl)) ?_
   refine XR 1 ?_
   refine XL_nil ?_
   subst hf3 hf4 hf5 hf6
   kernel_rfl
  refine V_ret ?_
  obtain rfl := some_inj h
  show Post _ _ _ _ _
  exact ⟨.inr rfl, rfl, rfl, rfl⟩
theorem cf_spec_reReduce : ∀ args w, (callFunc 96 args).run Try.prog w = .ok (.enter 96 args) w := run_callFunc Try.func96 (by kernel_rfl) (by kernel_rfl)
theorem s_spec_reReduce {f1 : (Int × Int × Int)} {r : (((Int × Int × Int)) × ((Int × Int × Int × Int)))} (h : r_spec_reReduce f1 = some r) : CallS Try.prog 96 [.ag [Ti f1.1, Ti f1.2.1, Ti f1.2.2]] (.tc (.ag [Ti r.1.1, Ti r.1.2.1, Ti r.1.2.2]) (.tc (.ag [Ti r.2.1, Ti r.2.2.1, Ti r.2.2.2.1, Ti r.2.2.2.2]) .tn)) [] := by
  refine CallS_of_text (rs := [.w 2 3, .w 3 4]) (vs := [.cell 2 25, .cell 3 86]) Try.func96 rfl rfl (.cons ⟨rfl, wd25⟩ (.cons ⟨rfl, wd86⟩ FitsL.nil)) (by decide) 20 rfl ?_
  unfold r_spec_reReduce at h
  show V _ _ ⟨.ag [Ti f1.1, Ti f1.2.1, Ti f1.2.2] :: bt 19 [], []⟩ _
  refine V_e (mb 20 14) [24, 16, 8] (s1 := ⟨.bot :: .pt 8 0 :: .pt 16 0 :: .pt 24 0 :: bt 16 [], [(24, .box [Ti 0, Ti 0, Ti 0, Ti 0]), (16, .box [Ti 0, Ti 0, Ti 0]), (8, .box [Ti f1.1, Ti f1.2.1, Ti f1.2.2])]⟩) ?_
  refine V_sreg (mb 20 30) [32, 24, 16, 8] (s1 := ⟨.bot :: .pt 8 0 :: .pt 16 0 :: .pt 24 0 :: .pt 32 0 :: bt 15 [], [(32, .box [Ti 1, Ti 0, Ti 0, Ti 1]), (24, .box [Ti 0, Ti 0, Ti 0, Ti 0]), (16, .box [Ti 0, Ti 0, Ti 0]), (8, .box [Ti f1.1, Ti f1.2.1, Ti f1.2.2])]⟩) ?_ ?_
  ·refine L0 rfl rfl (Y0_build (cs := [Ti 1, Ti 0, Ti 0, Ti 1]) pl86 bt86 rfl rfl (by kernel_rfl)) ?_
   exact XE
  refine V_seq ?_
  obtain ⟨o10, hLo10, h⟩ := of_bind h
  refine V_toK (mb 20 30) [32, 24, 16, 8] (s1 := ⟨.bot :: .pt 8 0 :: .pt 16 0 :: .pt 24 0 :: .pt 32 0 :: bt 15 [], [(32, .box [Ti o10.1, Ti o10.2.1, Ti o10.2.2.1, Ti o10.2.2.2.1]), (24, .box [Ti 0, Ti 0, Ti 0, Ti 0]), (16, .box [Ti 0, Ti 0, Ti 0]), (8, .box [Ti o10.2.2.2.2.1, Ti o10.2.2.2.2.2.1, Ti o10.2.2.2.2.2.2])]⟩) ?_ ?_
  ·clear h
   refine V_block (V_loop (fun n s => ∃ (f2 : Int) (f3 : Int) (f4 : Int) (f5 : Int) (f6 : Int) (f7 : Int) (f8 : Int), s.keep (mb 20 30) [32, 24, 16, 8] = (⟨.bot :: .pt 8 0 :: .pt 16 0 :: .pt 24 0 :: .pt 32 0 :: bt 15 [], [(32, .box [Ti f2, Ti f3, Ti f4, Ti f5]), (24, .box [Ti 0, Ti 0, Ti 0, Ti 0]), (16, .box [Ti 0, Ti 0, Ti 0]), (8, .box [Ti f6, Ti f7, Ti f8])]⟩ : St) ∧ r_spec_reReduce_L9 n f2 f3 f4 f5 f6 f7 f8 = some o10) FU ⟨_, _, _, _, _, _, _,  by rfl, hLo10⟩ ?_)
   clear hLo10
   rintro n s ⟨f2, f3, f4, f5, f6, f7, f8, hs, h⟩
   refine V_keep _ _ hs ?_
   clear hs
   cases n with
   | zero => cases h
   | succ n =>
    rw [r_spec_reReduce_L9] at h
    refine V_seq ?_
    obtain ⟨y11, hy11, h⟩ := of_bind h
    refine V_sreg (mb 20 542) [32, 24, 16, 8] (s1 := ⟨.bot :: .pt 8 0 :: .pt 16 0 :: .pt 24 0 :: .pt 32 0 :: bt 4 (Bo (!y11) :: bt 10 []), [(32, .box [Ti f2, Ti f3, Ti f4, Ti f5]), (24, .box [Ti 0, Ti 0, Ti 0, Ti 0]), (16, .box [Ti 0, Ti 0, Ti 0]), (8, .box [Ti f6, Ti f7, Ti f8])]⟩) ?_ ?_
    ·refine XR 1 ?_
     refine XC (s_spec_reIs hy11) cf_spec_reIs rfl rfl rfl ?_
     exact XE
    refine V_cond rfl (fun hc12 => ?_) (fun hc12 => ?_)
    ·have h := of_true h hc12
     refine V_skip ?_
     show V _ _ _ _
     refine V_block ?_
     obtain ⟨y13, hy13, h⟩ := of_bind h
     refine V_sreg (mb 20 62) [40, 32, 24, 16, 8] (s1 := ⟨.bot :: .pt 8 0 :: .pt 16 0 :: .pt 24 0 :: .pt 32 0 :: .pt 40 0 :: bt 14 [], [(40, .box [Ti y13.1, Ti y13.2.1, Ti y13.2.2.1, Ti y13.2.2.2]), (32, .box [Ti f2, Ti f3, Ti f4, Ti f5]), (24, .box [Ti 0, Ti 0, Ti 0, Ti 0]), (16, .box [Ti 0, Ti 0, Ti 0]), (8, .box [Ti f6, Ti f7, Ti f8])]⟩) ?_ ?_
     ·refine XR 1 ?_
      refine XC (s_spec_reMove hy13) cf_spec_reMove rfl rfl rfl ?_
      exact XE
     obtain ⟨y14, hy14, h⟩ := of_bind h
     obtain ⟨y15, hy15, h⟩ := of_bind h
     refine V_dreg [0, 0, 3, 0, 0, 31, 63, 127] 6 (cdm 6 [648, 642, 645, 554, 170, 341]) (mb 20 30) [32, 24, 16, 8] (s1 := ⟨.bot :: .pt 8 0 :: .pt 16 0 :: .pt 24 0 :: .pt 32 0 :: bt 15 [], [(32, .box [Ti y15.1, Ti y15.2.1, Ti y15.2.2.1, Ti y15.2.2.2]), (24, .box [Ti 0, Ti 0, Ti 0, Ti 0]), (16, .box [Ti 0, Ti 0, Ti 0]), (8, .box [Ti y14.1, Ti y14.2.1, Ti y14.2.2])]⟩) (by kernel_rfl) (by kernel_rfl) ?_ ?_
     ·refine DR 2 ?_
      refine DC 2 (s_spec_foAct hy14) cf_spec_foAct rfl rfl rfl rfl 14 rfl ?_
      refine DR 2 ?_
      refine DC 5 (s_spec_foMul hy15) cf_spec_foMul rfl rfl rfl rfl 17 rfl ?_
      refine DA 0 ?_
      exact XE
     exact ⟨n, Nat.lt_succ_self n, _, _, _, _, _, _, _,  by rfl, h⟩
    ·have h := of_false h hc12
     refine V_exit ?_
     obtain rfl := some_inj h
     show St.keep _ _ _ = _
     rfl
  show V _ _ _ _
  refine V_sdreg [0, 0, 1, 7] 3 [[.z, .b, .z], [.b, .z, .r 16], [.a, .b, .z]] (mb 20 12) [24, 16] (s1 := ⟨.bot :: .bot :: .pt 16 0 :: .pt 24 0 :: bt 16 [], [(24, .box [Ti o10.1, Ti o10.2.1, Ti o10.2.2.1, Ti o10.2.2.2.1]), (16, .box [Ti o10.2.2.2.2.1, Ti o10.2.2.2.2.2.1, Ti o10.2.2.2.2.2.2])]⟩) (by kernel_rfl) (by kernel_rfl) ?_ ?_
  ·refine DA 3 ?_
   exact XE
  refine V_ret ?_
  obtain rfl := some_inj h
  show Post _ _ _ _ _
  exact ⟨.inr rfl, rfl, rfl, rfl⟩
theorem cf_spec_reClass : ∀ args w, (callFunc 58 args).run Try.prog w = .ok (.enter 58 args) w := run_callFunc Try.func58 (by kernel_rfl) (by kernel_rfl)
theorem s_spec_reClass {f1 : (Int × Int × Int)} {r : (Int × Int × Int)} (h : r_spec_reClass f1 = some r) : CallS Try.prog 58 [.ag [Ti f1.1, Ti f1.2.1, Ti f1.2.2]] (.ag [Ti r.1, Ti r.2.1, Ti r.2.2]) [] := by
  refine CallS_of_text (rs := [.w 2 3]) (vs := [.cell 2 25]) Try.func58 rfl rfl (.cons ⟨rfl, wd25⟩ FitsL.nil) (by decide) 11 rfl ?_
  unfold r_spec_reClass at h
  show V _ _ ⟨.ag [Ti f1.1, Ti f1.2.1, Ti f1.2.2] :: bt 10 [], []⟩ _
  refine V_e (mb 11 6) [16, 8] (s1 := ⟨.bot :: .pt 8 0 :: .pt 16 0 :: bt 8 [], [(16, .box [Ti 0, Ti 0, Ti 0]), (8, .box [Ti f1.1, Ti f1.2.1, Ti f1.2.2])]⟩) ?_
  obtain ⟨y2, hy2, h⟩ := of_bind h
  refine V_sreg (mb 11 12) [24, 16] (s1 := ⟨.bot :: .bot :: .pt 16 0 :: .pt 24 0 :: bt 7 [], [(24, .box [Ti y2.1.1, Ti y2.1.2.1, Ti y2.1.2.2]), (16, .box [Ti 0, Ti 0, Ti 0])]⟩) ?_ ?_
  ·refine XR 1 ?_
   refine XC (s_spec_reReduce hy2) cf_spec_reReduce rfl rfl rfl ?_
   exact XE
  refine V_e (mb 11 4) [16] (s1 := ⟨.bot :: .bot :: .pt 16 0 :: bt 8 [], [(16, .box [Ti y2.1.1, Ti y2.1.2.1, Ti y2.1.2.2])]⟩) ?_
  refine V_ret ?_
  obtain rfl := some_inj h
  show Post _ _ _ _ _
  exact ⟨.inr rfl, rfl, rfl, rfl⟩
theorem cf_spec_hkMatrices : ∀ args w, (callFunc 124 args).run Try.prog w = .ok (.enter 124 args) w := run_callFunc Try.func124 (by kernel_rfl) (by kernel_rfl)
theorem s_spec_hkMatrices {p1 : Int} {r : List ((Int × Int × Int × Int))} (h : r_spec_hkMatrices p1 = some r) : CallS Try.prog 124 [I p1] (.ow 0) [(0, .arr 86 4 (r.map c86))] := by
  refine CallS_of_text (rs := [.t 2]) (vs := [.tmp 2]) Try.func124 rfl rfl (.cons rfl FitsL.nil) (by decide) 21 rfl ?_
  unfold r_spec_hkMatrices at h
  show V _ _ ⟨I p1 :: bt 20 [], []⟩ _
  refine V_sreg (mb 21 1) [] (s1 := ⟨I p1 :: bt 20 [], []⟩) ?_ ?_
  ·refine L1 rfl rfl (Y1_nil (e := 86) 4 (by decide) (.inl rfl)) ?_
   exact XE
  refine V_sreg (mb 21 9) [24] (s1 := ⟨I p1 :: .bot :: .bot :: .ow 24 :: bt 17 [], [(24, .arr 86 4 ((([] : List ((Int × Int × Int × Int)))).map c86))]⟩) ?_ ?_
  ·refine L1 rfl rfl (Y1_nil (e := 86) 4 (by decide) (.inl rfl)) ?_
   exact XE
  refine V_seq ?_
  refine V_e (mb 21 25) [24] (s1 := ⟨I p1 :: .bot :: .bot :: .ow 24 :: I 0 :: bt 16 [], [(24, .arr 86 4 ((([] : List ((Int × Int × Int × Int)))).map c86))]⟩) ?_
  obtain ⟨o5, hLo5, h⟩ := of_bind h
  refine V_toK (mb 21 9) [24] (s1 := ⟨I p1 :: .bot :: .bot :: .ow 24 :: bt 17 [], [(24, .arr 86 4 (o5.map c86))]⟩) ?_ ?_
  ·clear h
   refine V_block (V_loop (fun n s => ∃ (k2 : Int) (l3 : List ((Int × Int × Int × Int))), s.keep (mb 21 25) [24] = (⟨I p1 :: .bot :: .bot :: .ow 24 :: I k2 :: bt 16 [], [(24, .arr 86 4 (l3.map c86))]⟩ : St) ∧ r_spec_hkMatrices_L4 p1 n k2 l3 = some o5) FU ⟨_, _,  by rfl, hLo5⟩ ?_)
   clear hLo5
   rintro n s ⟨k2, l3, hs, h⟩
   refine V_keep _ _ hs ?_
   clear hs
   cases n with
   | zero => cases h
   | succ n =>
    rw [r_spec_hkMatrices_L4] at h
    refine V_seq ?_
    refine V_e (mb 21 153) [24] (s1 := ⟨I p1 :: .bot :: .bot :: .ow 24 :: I k2 :: .bot :: .bot :: Bo (ltI k2 p1) :: bt 13 [], [(24, .arr 86 4 (l3.map c86))]⟩) ?_
    refine V_cond rfl (fun hc6 => ?_) (fun hc6 => ?_)
    ·have h := of_true h hc6
     refine V_skip ?_
     show V _ _ _ _
     refine V_seq ?_
     refine V_block ?_
     obtain ⟨u7, hu7, h⟩ := of_bind h
     refine V_reg (mb 21 25) [24] (s1 := ⟨I p1 :: .bot :: .bot :: .ow 24 :: I k2 :: bt 16 [], [(24, .arr 86 4 ((l3 ++ ([(1, 0, k2, p1)])).map c86))]⟩) ?_ ?_
     ·refine XR 3 ?_
      refine L0 rfl rfl (Y0_build (cs := [Ti 1, Ti 0, Ti k2, Ti p1]) pl86 bt86 rfl rfl (by kernel_rfl)) ?_
      refine L1 rfl rfl (Y1_bslice (z := zv86) (els := [(1, 0, k2, p1)].map c86) Try.underlying122 iz86 rfl (by decide) rfl (by kernel_rfl) rfl (by simp [c86]) (by decide) (by decide)) ?_
      refine XL_cons rfl (X_appendM (c := c86) (xs := l3) (ys := [(1, 0, k2, p1)]) (id := 24) (z := zv86) rfl rfl Try.underlying122 izb86 rfl (by kernel_rfl) (by kernel_rfl) (by kernel_rfl) (fun _ => rfl) (by simp) (room_some hu7) (by decide)) ?_
      exact XE
     show V _ _ _ _
     obtain ⟨k8, hk8, h⟩ := of_sI h
     refine V_reg (mb 21 25) [24] (s1 := ⟨I p1 :: .bot :: .bot :: .ow 24 :: I k8 :: bt 16 [], [(24, .arr 86 4 ((l3 ++ ([(1, 0, k2, p1)])).map c86))]⟩) ?_ ?_
     ·refine XR 3 ?_
      refine XL_nil ?_
      subst hk8
      kernel_rfl
     exact ⟨n, Nat.lt_succ_self n, _, _,  by rfl, h⟩
    ·have h := of_false h hc6
     refine V_exit ?_
     obtain rfl := some_inj h
     show St.keep _ _ _ = _
     rfl
  show V _ _ _ _
  obtain ⟨u9, hu9, h⟩ := of_bind h
  refine V_sreg (mb 21 4) [24] (s1 := ⟨.bot :: .bot :: .ow 24 :: bt 18 [], [(24, .arr 86 4 ((o5 ++ ([(p1, 0, 0, 1)])).map c86))]⟩) ?_ ?_
  ·refine XR 2 ?_
   refine L0 rfl rfl (Y0_build (cs := [Ti p1, Ti 0, Ti 0, Ti 1]) pl86 bt86 rfl rfl (by kernel_rfl)) ?_
   refine L1 rfl rfl (Y1_bslice (z := zv86) (els := [(p1, 0, 0, 1)].map c86) Try.underlying122 iz86 rfl (by decide) rfl (by kernel_rfl) rfl (by simp [c86]) (by decide) (by decide)) ?_
   refine XL_cons rfl (X_appendM (c := c86) (xs := o5) (ys := [(p1, 0, 0, 1)]) (id := 24) (z := zv86) rfl rfl Try.underlying122 izb86 rfl (by kernel_rfl) (by kernel_rfl) (by kernel_rfl) (fun _ => rfl) (by simp) (room_some hu9) (by decide)) ?_
   exact XE
  refine V_ret ?_
  obtain rfl := some_inj h
  show Post _ _ _ _ _
  exact ⟨.inr rfl, rfl, rfl, rfl⟩
theorem cf_spec_hkForms : ∀ args w, (callFunc 97 args).run Try.prog w = .ok (.enter 97 args) w := run_callFunc Try.func97 (by kernel_rfl) (by kernel_rfl)
theorem s_spec_hkForms {f1 : (Int × Int × Int)} {p2 : Int} {r : List ((Int × Int × Int))} (h : r_spec_hkForms f1 p2 = some r) : CallS Try.prog 97 [.ag [Ti f1.1, Ti f1.2.1, Ti f1.2.2], I p2] (.ow 0) [(0, .arr 25 3 (r.map c25))] := by
  refine CallS_of_text (rs := [.t 4]) (vs := [.tmp 4]) Try.func97 rfl rfl (.cons rfl FitsL.nil) (by decide) 26 rfl ?_
  unfold r_spec_hkForms at h
  show V _ _ ⟨.ag [Ti f1.1, Ti f1.2.1, Ti f1.2.2] :: I p2 :: bt 24 [], []⟩ _
  refine V_sreg (mb 26 6) [16] (s1 := ⟨.bot :: I p2 :: .pt 16 0 :: bt 23 [], [(16, .box [Ti f1.1, Ti f1.2.1, Ti f1.2.2])]⟩) ?_ ?_
  ·refine XR 1 ?_
   refine L1 rfl rfl (Y1_nil (e := 25) 3 (by decide) (.inl rfl)) ?_
   exact XE
  obtain ⟨y3, hy3, h⟩ := of_bind h
  refine V_sreg (mb 26 34) [40] (s1 := ⟨.bot :: I p2 :: bt 3 (.pt 40 0 :: bt 20 []), [(40, .box [Ti y3.1, Ti y3.2.1, Ti y3.2.2])]⟩) ?_ ?_
  ·refine XR 1 ?_
   refine XC (s_spec_reClass hy3) cf_spec_reClass rfl rfl rfl ?_
   exact XE
  refine V_sreg (mb 26 98) [48, 40] (s1 := ⟨.bot :: I p2 :: bt 3 (.pt 40 0 :: .ow 48 :: bt 19 []), [(48, .arr 25 3 ((([] : List ((Int × Int × Int)))).map c25)), (40, .box [Ti y3.1, Ti y3.2.1, Ti y3.2.2])]⟩) ?_ ?_
  ·refine L1 rfl rfl (Y1_nil (e := 25) 3 (by decide) (.inl rfl)) ?_
   exact XE
  refine V_seq ?_
  obtain ⟨y4, hy4, h⟩ := of_bind h
  refine V_sreg (mb 26 28768) [96, 48, 40] (s1 := ⟨bt 5 (.pt 40 0 :: .ow 48 :: bt 5 (.ow 96 :: I ((y4.length : Int)) :: I 0 :: bt 11 [])), [(96, .arr 86 4 (y4.map c86)), (48, .arr 25 3 ((([] : List ((Int × Int × Int)))).map c25)), (40, .box [Ti y3.1, Ti y3.2.1, Ti y3.2.2])]⟩) ?_ ?_
  ·refine XR 1 ?_
   refine XC (s_spec_hkMatrices hy4) cf_spec_hkMatrices rfl rfl rfl ?_
   refine L0 rfl rfl (Y0_lenM (c := c86) (xs := y4) Try.underlying122 rfl (by kernel_rfl)) ?_
   exact XE
  obtain ⟨o8, hLo8, h⟩ := of_bind h
  refine V_toK (mb 26 64) [48] (s1 := ⟨bt 6 (.ow 48 :: bt 19 []), [(48, .arr 25 3 (o8.map c25))]⟩) ?_ ?_
  ·clear h
   refine V_block (V_loop (fun n s => ∃ (t5 : Int) (l6 : List ((Int × Int × Int))), s.keep (mb 26 28768) [96, 48, 40] = (⟨bt 5 (.pt 40 0 :: .ow 48 :: bt 5 (.ow 96 :: I ((y4.length : Int)) :: I t5 :: bt 11 [])), [(96, .arr 86 4 (y4.map c86)), (48, .arr 25 3 (l6.map c25)), (40, .box [Ti y3.1, Ti y3.2.1, Ti y3.2.2])]⟩ : St) ∧ r_spec_hkForms_L7 y3 y4 n t5 l6 = some o8) FU ⟨_, _,  by rfl, hLo8⟩ ?_)
   clear hLo8
   rintro n s ⟨t5, l6, hs, h⟩
   refine V_keep _ _ hs ?_
   clear hs
   cases n with
   | zero => cases h
   | succ n =>
    rw [r_spec_hkForms_L7] at h
    refine V_e (mb 26 61536) [96, 48, 40] (s1 := ⟨bt 5 (.pt 40 0 :: .ow 48 :: bt 5 (.ow 96 :: I ((y4.length : Int)) :: I t5 :: Bo (ltI t5 ((y4.length : Int))) :: bt 10 [])), [(96, .arr 86 4 (y4.map c86)), (48, .arr 25 3 (l6.map c25)), (40, .box [Ti y3.1, Ti y3.2.1, Ti y3.2.2])]⟩) ?_
    refine V_seq ?_
    refine V_cond rfl (fun hc9 => ?_) (fun hc9 => ?_)
    ·have h := of_true h hc9
     refine V_skip ?_
     show V _ _ _ _
     refine V_seq ?_
     refine V_block ?_
     obtain ⟨e10, he10, h⟩ := of_bind h
     obtain ⟨e11, he11, h⟩ := of_bind h
     refine V_sreg (mb 26 29024) [64, 96, 48, 40] (s1 := ⟨bt 5 (.pt 40 0 :: .ow 48 :: .bot :: .pt 64 0 :: bt 3 (.ow 96 :: I ((y4.length : Int)) :: I t5 :: bt 11 [])), [(64, .box [Ti e11.1, Ti e11.2.1, Ti e11.2.2.1, Ti e11.2.2.2]), (96, .arr 86 4 (y4.map c86)), (48, .arr 25 3 (l6.map c25)), (40, .box [Ti y3.1, Ti y3.2.1, Ti y3.2.2])]⟩) ?_ ?_
     ·refine L0 rfl rfl (Y0_idxoM (c := c86) (xs := y4) (v := e10) (id := 96) (T := 86) (sz := 4) (n := t5) Try.underlying122 sz86 rfl (by kernel_rfl) (by kernel_rfl) (by kernel_rfl) he10) ?_
      refine L0 rfl rfl (E_loadon (c := c86) (xs := y4) (v := e11) (id := 96) (sz := 4) (T := 86) (off := 0) (n := t5) [Ti e11.1, Ti e11.2.1, Ti e11.2.2.1, Ti e11.2.2.2] wd86 rfl (by kernel_rfl) (by kernel_rfl) he11 (Nat.le_of_ble_eq_true rfl) (by kernel_rfl)) ?_
      exact XE
     obtain ⟨y12, hy12, h⟩ := of_bind h
     obtain ⟨u13, hu13, h⟩ := of_bind h
     refine V_reg (mb 26 28768) [96, 48, 40] (s1 := ⟨bt 5 (.pt 40 0 :: .ow 48 :: bt 5 (.ow 96 :: I ((y4.length : Int)) :: I t5 :: bt 11 [])), [(96, .arr 86 4 (y4.map c86)), (48, .arr 25 3 ((l6 ++ ([y12])).map c25)), (40, .box [Ti y3.1, Ti y3.2.1, Ti y3.2.2])]⟩) ?_ ?_
     ·refine XR 3 ?_
      refine XC (s_spec_foAct hy12) cf_spec_foAct rfl rfl rfl ?_
      refine L1 rfl rfl (Y1_bslice (z := zv25) (els := [y12].map c25) Try.underlying44 iz25 rfl (by decide) rfl (by kernel_rfl) rfl (by simp [c25]) (by decide) (by decide)) ?_
      refine XL_cons rfl (X_appendM (c := c25) (xs := l6) (ys := [y12]) (id := 48) (z := zv25) rfl rfl Try.underlying44 izb25 rfl (by kernel_rfl) (by kernel_rfl) (by kernel_rfl) (fun _ => rfl) (by simp) (room_some hu13) (by decide)) ?_
      exact XE
     show V _ _ _ _
     obtain ⟨t14, ht14, h⟩ := of_sI h
     refine V_reg (mb 26 28768) [96, 48, 40] (s1 := ⟨bt 5 (.pt 40 0 :: .ow 48 :: bt 5 (.ow 96 :: I ((y4.length : Int)) :: I t14 :: bt 11 [])), [(96, .arr 86 4 (y4.map c86)), (48, .arr 25 3 ((l6 ++ ([y12])).map c25)), (40, .box [Ti y3.1, Ti y3.2.1, Ti y3.2.2])]⟩) ?_ ?_
     ·refine XR 2 ?_
      refine XL_nil ?_
      subst ht14
      kernel_rfl
     exact ⟨n, Nat.lt_succ_self n, _, _,  by rfl, h⟩
    ·have h := of_false h hc9
     refine V_exit ?_
     obtain rfl := some_inj h
     show St.keep _ _ _ = _
     rfl
  show V _ _ _ _
  refine V_e (mb 26 16) [48] (s1 := ⟨bt 4 (.ow 48 :: bt 21 []), [(48, .arr 25 3 (o8.map c25))]⟩) ?_
  refine V_ret ?_
  obtain rfl := some_inj h
  show Post _ _ _ _ _
  exact ⟨.inr rfl, rfl, rfl, rfl⟩
theorem cf_spec_hkNeighbours : ∀ args w, (callFunc 59 args).run Try.prog w = .ok (.enter 59 args) w := run_callFunc Try.func59 (by kernel_rfl) (by kernel_rfl)
theorem s_spec_hkNeighbours {f1 : (Int × Int × Int)} {p2 : Int} {r : List ((Int × Int × Int))} (h : r_spec_hkNeighbours f1 p2 = some r) : CallS Try.prog 59 [.ag [Ti f1.1, Ti f1.2.1, Ti f1.2.2], I p2] (.ow 0) [(0, .arr 25 3 (r.map c25))] := by
  refine CallS_of_text (rs := [.t 4]) (vs := [.tmp 4]) Try.func59 rfl rfl (.cons rfl FitsL.nil) (by decide) 39 rfl ?_
  unfold r_spec_hkNeighbours at h
  show V _ _ ⟨.ag [Ti f1.1, Ti f1.2.1, Ti f1.2.2] :: I p2 :: bt 37 [], []⟩ _
  refine V_sreg (mb 39 6) [16] (s1 := ⟨.bot :: I p2 :: .pt 16 0 :: bt 36 [], [(16, .box [Ti f1.1, Ti f1.2.1, Ti f1.2.2])]⟩) ?_ ?_
  ·refine XR 1 ?_
   refine L1 rfl rfl (Y1_nil (e := 25) 3 (by decide) (.inl rfl)) ?_
   exact XE
  refine V_sreg (mb 39 38) [40, 16] (s1 := ⟨.bot :: I p2 :: .pt 16 0 :: .bot :: .bot :: .ow 40 :: bt 33 [], [(40, .arr 25 3 ((([] : List ((Int × Int × Int)))).map c25)), (16, .box [Ti f1.1, Ti f1.2.1, Ti f1.2.2])]⟩) ?_ ?_
  ·refine L1 rfl rfl (Y1_nil (e := 25) 3 (by decide) (.inl rfl)) ?_
   exact XE
  refine V_seq ?_
  obtain ⟨y3, hy3, h⟩ := of_bind h
  refine V_sreg (mb 39 7202) [80, 40] (s1 := ⟨.bot :: I p2 :: bt 3 (.ow 40 :: bt 4 (.ow 80 :: I ((y3.length : Int)) :: I 0 :: bt 26 [])), [(80, .arr 25 3 (y3.map c25)), (40, .arr 25 3 ((([] : List ((Int × Int × Int)))).map c25))]⟩) ?_ ?_
  ·refine XR 2 ?_
   refine XC (s_spec_hkForms hy3) cf_spec_hkForms rfl rfl rfl ?_
   refine L0 rfl rfl (Y0_lenM (c := c25) (xs := y3) Try.underlying44 rfl (by kernel_rfl)) ?_
   exact XE
  obtain ⟨o7, hLo7, h⟩ := of_bind h
  refine V_toK (mb 39 32) [40] (s1 := ⟨bt 5 (.ow 40 :: bt 33 []), [(40, .arr 25 3 (o7.map c25))]⟩) ?_ ?_
  ·clear h
   refine V_block (V_loop (fun n s => ∃ (t4 : Int) (l5 : List ((Int × Int × Int))), s.keep (mb 39 7202) [80, 40] = (⟨.bot :: I p2 :: bt 3 (.ow 40 :: bt 4 (.ow 80 :: I ((y3.length : Int)) :: I t4 :: bt 26 [])), [(80, .arr 25 3 (y3.map c25)), (40, .arr 25 3 (l5.map c25))]⟩ : St) ∧ r_spec_hkNeighbours_L6 p2 y3 n t4 l5 = some o7) FU ⟨_, _,  by rfl, hLo7⟩ ?_)
   clear hLo7
   rintro n s ⟨t4, l5, hs, h⟩
   refine V_keep _ _ hs ?_
   clear hs
   cases n with
   | zero => cases h
   | succ n =>
    rw [r_spec_hkNeighbours_L6] at h
    refine V_e (mb 39 15394) [80, 40] (s1 := ⟨.bot :: I p2 :: bt 3 (.ow 40 :: bt 4 (.ow 80 :: I ((y3.length : Int)) :: I t4 :: Bo (ltI t4 ((y3.length : Int))) :: bt 25 [])), [(80, .arr 25 3 (y3.map c25)), (40, .arr 25 3 (l5.map c25))]⟩) ?_
    refine V_seq ?_
    refine V_cond rfl (fun hc8 => ?_) (fun hc8 => ?_)
    ·have h := of_true h hc8
     refine V_skip ?_
     show V _ _ _ _
     refine V_seq ?_
     refine V_block ?_
     obtain ⟨e9, he9, h⟩ := of_bind h
     obtain ⟨e10, he10, h⟩ := of_bind h
     refine V_sreg (mb 39 7330) [56, 80, 40] (s1 := ⟨.bot :: I p2 :: bt 3 (.ow 40 :: .bot :: .pt 56 0 :: .bot :: .bot :: .ow 80 :: I ((y3.length : Int)) :: I t4 :: bt 26 []), [(56, .box [Ti e10.1, Ti e10.2.1, Ti e10.2.2]), (80, .arr 25 3 (y3.map c25)), (40, .arr 25 3 (l5.map c25))]⟩) ?_ ?_
     ·refine L0 rfl rfl (Y0_idxoM (c := c25) (xs := y3) (v := e9) (id := 80) (T := 25) (sz := 3) (n := t4) Try.underlying44 sz25 rfl (by kernel_rfl) (by kernel_rfl) (by kernel_rfl) he9) ?_
      refine L0 rfl rfl (E_loadon (c := c25) (xs := y3) (v := e10) (id := 80) (sz := 3) (T := 25) (off := 0) (n := t4) [Ti e10.1, Ti e10.2.1, Ti e10.2.2] wd25 rfl (by kernel_rfl) (by kernel_rfl) he10 (Nat.le_of_ble_eq_true rfl) (by kernel_rfl)) ?_
      exact XE
     obtain ⟨y11, hy11, h⟩ := of_bind h
     refine V_sreg (mb 39 531618) [56, 80, 40] (s1 := ⟨.bot :: I p2 :: bt 3 (.ow 40 :: .bot :: .pt 56 0 :: .bot :: .bot :: .ow 80 :: I ((y3.length : Int)) :: I t4 :: bt 6 (Bo (eqI y11 p2) :: bt 19 [])), [(56, .box [Ti e10.1, Ti e10.2.1, Ti e10.2.2]), (80, .arr 25 3 (y3.map c25)), (40, .arr 25 3 (l5.map c25))]⟩) ?_ ?_
     ·refine XR 1 ?_
      refine XC (s_spec_foContent hy11) cf_spec_foContent rfl rfl rfl ?_
      exact XE
     refine V_cond rfl (fun hc12 => ?_) (fun hc12 => ?_)
     ·have h := of_true h hc12
      obtain ⟨z13, hz13, h⟩ := of_bind h
      obtain ⟨z14, hz14, h⟩ := of_bind h
      obtain ⟨z15, hz15, h⟩ := of_bind h
      obtain ⟨y16, hy16, h⟩ := of_bind h
      obtain ⟨u17, hu17, h⟩ := of_bind h
      refine V_dreg [0, 0, 2, 0, 14, 0, 32, 0, 224, 0, 512, 0, 3584, 8190, 16382, 32766, 65535, 131071] 16 (cdm 16 [2863311528, 44738690, 44738694, 44738602, 44738646, 44597930, 44598954, 44575402, 44586666, 8563370, 8825514, 2796202, 5679786, 22369622, 89478486, 357913942]) (mb 39 7202) [80, 40] (s1 := ⟨.bot :: I p2 :: bt 3 (.ow 40 :: bt 4 (.ow 80 :: I ((y3.length : Int)) :: I t4 :: bt 26 [])), [(80, .arr 25 3 (y3.map c25)), (40, .arr 25 3 ((l5 ++ ([y16])).map c25))]⟩) (by kernel_rfl) (by kernel_rfl) ?_ ?_
      ·refine DR 4 ?_
       refine DE_0 4 (I (w64 (Int.tdiv e10.1 p2))) (by kernel_rfl) rfl rfl rfl (gsat_none rfl) (by kernel_rfl) (Y0_quo64 (a := e10.1) (b := p2) rfl (by kernel_rfl) (by kernel_rfl) (nz_some hz13)) 24 rfl ?_
       refine DR 3 ?_
       refine DE_0 8 (I (w64 (Int.tdiv e10.2.1 p2))) (by kernel_rfl) rfl rfl rfl (gsat_none rfl) (by kernel_rfl) (Y0_quo64 (a := e10.2.1) (b := p2) rfl (by kernel_rfl) (by kernel_rfl) (nz_some hz14)) 28 rfl ?_
       refine DR 3 ?_
       refine DE_0 12 (I (w64 (Int.tdiv e10.2.2 p2))) (by kernel_rfl) rfl rfl rfl (gsat_none rfl) (by kernel_rfl) (Y0_quo64 (a := e10.2.2) (b := p2) rfl (by kernel_rfl) (by kernel_rfl) (nz_some hz15)) 32 rfl ?_
       refine DE_0 13 (.ag [Ti (w64 (Int.tdiv e10.1 p2)), Ti (w64 (Int.tdiv e10.2.1 p2)), Ti (w64 (Int.tdiv e10.2.2 p2))]) (by kernel_rfl) rfl rfl rfl (gsat_none rfl) (by kernel_rfl) (Y0_build (cs := [Ti (w64 (Int.tdiv e10.1 p2)), Ti (w64 (Int.tdiv e10.2.1 p2)), Ti (w64 (Int.tdiv e10.2.2 p2))]) pl25 bt25 rfl rfl (by kernel_rfl)) 33 rfl ?_
       refine DC 14 (s_spec_reClass hy16) cf_spec_reClass rfl rfl rfl rfl 34 rfl ?_
       refine DE_1 15 (by kernel_rfl) rfl rfl rfl (gsat_none rfl) (Y1_bslice (z := zv25) (els := [y16].map c25) Try.underlying44 iz25 rfl (by decide) rfl (by kernel_rfl) rfl (by simp [c25]) (by decide) (by decide)) rfl rfl rfl 35 rfl ?_
       refine DA 0 ?_
       refine XL_cons rfl (X_appendM (c := c25) (xs := l5) (ys := [y16]) (id := 40) (z := zv25) rfl rfl Try.underlying44 izb25 rfl (by kernel_rfl) (by kernel_rfl) (by kernel_rfl) (fun _ => rfl) (by simp) (room_some hu17) (by decide)) ?_
       exact XE
      show V _ _ _ _
      obtain ⟨t18, ht18, h⟩ := of_sI h
      refine V_reg (mb 39 7202) [80, 40] (s1 := ⟨.bot :: I p2 :: bt 3 (.ow 40 :: bt 4 (.ow 80 :: I ((y3.length : Int)) :: I t18 :: bt 26 [])), [(80, .arr 25 3 (y3.map c25)), (40, .arr 25 3 ((l5 ++ ([y16])).map c25))]⟩) ?_ ?_
      ·refine XR 2 ?_
       refine XL_nil ?_
       subst ht18
       kernel_rfl
      exact ⟨n, Nat.lt_succ_self n, _, _,  by rfl, h⟩
     ·have h := of_false h hc12
      refine V_skip ?_
      show V _ _ _ _
      obtain ⟨t19, ht19, h⟩ := of_sI h
      refine V_reg (mb 39 7202) [80, 40] (s1 := ⟨.bot :: I p2 :: bt 3 (.ow 40 :: bt 4 (.ow 80 :: I ((y3.length : Int)) :: I t19 :: bt 26 [])), [(80, .arr 25 3 (y3.map c25)), (40, .arr 25 3 (l5.map c25))]⟩) ?_ ?_
      ·refine XR 2 ?_
       refine XL_nil ?_
       subst ht19
       kernel_rfl
      exact ⟨n, Nat.lt_succ_self n, _, _,  by rfl, h⟩
    ·have h := of_false h hc8
     refine V_exit ?_
     obtain rfl := some_inj h
     show St.keep _ _ _ = _
     rfl
  show V _ _ _ _
  refine V_e (mb 39 16) [40] (s1 := ⟨bt 4 (.ow 40 :: bt 34 []), [(40, .arr 25 3 (o7.map c25))]⟩) ?_
  refine V_ret ?_
  obtain rfl := some_inj h
  show Post _ _ _ _ _
  exact ⟨.inr rfl, rfl, rfl, rfl⟩
theorem cf_spec_grIndex : ∀ args w, (callFunc 92 args).run Try.prog w = .ok (.enter 92 args) w := run_callFunc Try.func92 (by kernel_rfl) (by kernel_rfl)
theorem s_spec_grIndex {l1 : List ((Int × Int × Int))} {f2 : (Int × Int × Int)} {r : Int} (h : r_spec_grIndex l1 f2 = some r) : CallS Try.prog 92 [.c (.sl (l1.map c25)), .ag [Ti f2.1, Ti f2.2.1, Ti f2.2.2]] (I r) [] := by
  refine CallS_of_text (rs := [.t 4]) (vs := [.tmp 4]) Try.func92 rfl rfl (.cons rfl FitsL.nil) (by decide) 19 rfl ?_
  unfold r_spec_grIndex at h
  show V _ _ ⟨.c (.sl (l1.map c25)) :: .ag [Ti f2.1, Ti f2.2.1, Ti f2.2.2] :: bt 17 [], []⟩ _
  refine V_e (mb 19 9) [24] (s1 := ⟨.c (.sl (l1.map c25)) :: .bot :: .bot :: .pt 24 0 :: bt 15 [], [(24, .box [Ti f2.1, Ti f2.2.1, Ti f2.2.2])]⟩) ?_
  refine V_seq ?_
  refine V_sreg (mb 19 904) [24] (s1 := ⟨bt 3 (.pt 24 0 :: bt 3 (.c (.sl (l1.map c25)) :: I ((l1.length : Int)) :: I 0 :: bt 9 [])), [(24, .box [Ti f2.1, Ti f2.2.1, Ti f2.2.2])]⟩) ?_ ?_
  ·refine XR 1 ?_
   refine L0 rfl rfl (Y0_lenM (c := c25) (xs := l1) Try.underlying44 rfl (by kernel_rfl)) ?_
   exact XE
  obtain ⟨qo5, hLo5, hko5⟩ := of_bind h
  refine V_toS (q := qo5) (S := fun o5 => ⟨bt 19 [], []⟩) (mb 19 0) [] ?_ ?_
  ·refine V_block (V_loop (fun n s => ∃ (t3 : Int), s.keep (mb 19 904) [24] = (⟨bt 3 (.pt 24 0 :: bt 3 (.c (.sl (l1.map c25)) :: I ((l1.length : Int)) :: I t3 :: bt 9 [])), [(24, .box [Ti f2.1, Ti f2.2.1, Ti f2.2.2])]⟩ : St) ∧ r_spec_grIndex_L4 f2 l1 n t3 = some qo5) FU ⟨_,  by rfl, hLo5⟩ ?_)
   clear hLo5
   rintro n s ⟨t3, hs, h⟩
   refine V_keep _ _ hs ?_
   clear hs
   cases n with
   | zero => cases h
   | succ n =>
    rw [r_spec_grIndex_L4] at h
    refine V_e (mb 19 1928) [24] (s1 := ⟨bt 3 (.pt 24 0 :: bt 3 (.c (.sl (l1.map c25)) :: I ((l1.length : Int)) :: I t3 :: Bo (ltI t3 ((l1.length : Int))) :: bt 8 [])), [(24, .box [Ti f2.1, Ti f2.2.1, Ti f2.2.2])]⟩) ?_
    refine V_seq ?_
    refine V_cond rfl (fun hc6 => ?_) (fun hc6 => ?_)
    ·have h := of_true h hc6
     refine V_skip ?_
     show V _ _ _ _
     refine V_seq ?_
     refine V_block ?_
     obtain ⟨e7, he7, h⟩ := of_bind h
     refine V_sreg (mb 19 1000) [48, 24] (s1 := ⟨bt 3 (.pt 24 0 :: .bot :: I t3 :: .pt 48 0 :: .c (.sl (l1.map c25)) :: I ((l1.length : Int)) :: I t3 :: bt 9 []), [(48, .box [Ti e7.1, Ti e7.2.1, Ti e7.2.2]), (24, .box [Ti f2.1, Ti f2.2.1, Ti f2.2.2])]⟩) ?_ ?_
     ·refine XR 1 ?_
      refine L0 rfl rfl (Y0_idxM (c := c25) (xs := l1) (v := e7) (n := t3) Try.underlying44 sz25 rfl (by kernel_rfl) (by kernel_rfl) he7) ?_
      exact XE
     obtain ⟨t8, ht8, h⟩ := of_bind h
     have ht8 := some_inj ht8
     refine V_sreg (mb 19 66472) [24] (s1 := ⟨bt 3 (.pt 24 0 :: .bot :: I t3 :: .bot :: .c (.sl (l1.map c25)) :: I ((l1.length : Int)) :: I t3 :: bt 6 (Bo t8 :: .bot :: .bot :: [])), [(24, .box [Ti f2.1, Ti f2.2.1, Ti f2.2.2])]⟩) ?_ ?_
     ·refine XR 2 ?_
      refine L0 rfl rfl (Y0_eqg3 (a0 := e7.1) (b0 := f2.1) (a1 := e7.2.1) (b1 := f2.2.1) (a2 := e7.2.2) (b2 := f2.2.2) eqg25 rfl (by kernel_rfl) (by kernel_rfl)) ?_
      refine XL_nil ?_
      subst ht8
      kernel_rfl
     refine V_cond rfl (fun hc9 => ?_) (fun hc9 => ?_)
     ·have h := of_true h hc9
      refine V_e (mb 19 16) [] (s1 := ⟨bt 4 (I t3 :: bt 14 []), []⟩) ?_
      refine V_ret ?_
      obtain rfl := some_inj h
      have h := hko5
      obtain rfl := some_inj h
      show Post _ _ _ _ _
      exact ⟨.inr rfl, rfl, rfl, rfl⟩
     ·have h := of_false h hc9
      refine V_skip ?_
      show V _ _ _ _
      obtain ⟨t10, ht10, h⟩ := of_sI h
      refine V_reg (mb 19 904) [24] (s1 := ⟨bt 3 (.pt 24 0 :: bt 3 (.c (.sl (l1.map c25)) :: I ((l1.length : Int)) :: I t10 :: bt 9 [])), [(24, .box [Ti f2.1, Ti f2.2.1, Ti f2.2.2])]⟩) ?_ ?_
      ·refine XR 2 ?_
       refine XL_nil ?_
       subst ht10
       kernel_rfl
      exact ⟨n, Nat.lt_succ_self n, _,  by rfl, h⟩
    ·have h := of_false h hc6
     refine V_exit ?_
     obtain rfl := some_inj h
     exact ⟨_, rfl, by rfl⟩
  rintro o5 rfl
  have h := hko5
  clear hko5
  show V _ _ _ _
  refine V_e (mb 19 16) [] (s1 := ⟨bt 4 (I (-1) :: bt 14 []), []⟩) ?_
  refine V_ret ?_
  obtain rfl := some_inj h
  show Post _ _ _ _ _
  exact ⟨.inr rfl, rfl, rfl, rfl⟩
theorem cf_spec_hkMatrix : ∀ args w, (callFunc 53 args).run Try.prog w = .ok (.enter 53 args) w := run_callFunc Try.func53 (by kernel_rfl) (by kernel_rfl)
theorem s_spec_hkMatrix {d1 : Int} {p2 : Int} {r : List (List Int)} (h : r_spec_hkMatrix d1 p2 = some r) : CallS Try.prog 53 [I d1, I p2] (.ow 0) [(0, .arr 47 1 (r.map c47))] := by
  refine CallS_of_text (rs := [.t 4]) (vs := [.tmp 4]) Try.func53 rfl rfl (.cons rfl FitsL.nil) (by decide) 46 rfl ?_
  unfold r_spec_hkMatrix at h
  show V _ _ ⟨I d1 :: I p2 :: bt 44 [], []⟩ _
  refine V_sreg (mb 46 3) [] (s1 := ⟨I d1 :: I p2 :: bt 44 [], []⟩) ?_ ?_
  ·refine L1 rfl rfl (Y1_nil (e := 47) 1 (by decide) (.inl rfl)) ?_
   exact XE
  obtain ⟨y3, hy3, h⟩ := of_bind h
  refine V_sreg (mb 46 34) [104] (s1 := ⟨.bot :: I p2 :: bt 3 (.ow 104 :: bt 40 []), [(104, .arr 25 3 (y3.map c25))]⟩) ?_ ?_
  ·refine XR 1 ?_
   refine XC (s_spec_reList hy3) cf_spec_reList rfl rfl rfl ?_
   exact XE
  refine V_sreg (mb 46 98) [48, 104] (s1 := ⟨.bot :: I p2 :: bt 3 (.ow 104 :: .ow 48 :: bt 39 []), [(48, .arr 47 1 ((([] : List (List Int))).map c47)), (104, .arr 25 3 (y3.map c25))]⟩) ?_ ?_
  ·refine L1 rfl rfl (Y1_nil (e := 47) 1 (by decide) (.inl rfl)) ?_
   exact XE
  refine V_seq ?_
  refine V_sreg (mb 46 114786) [48, 104] (s1 := ⟨.bot :: I p2 :: bt 3 (.ow 104 :: .ow 48 :: bt 7 (.ow 104 :: I ((y3.length : Int)) :: I 0 :: bt 29 [])), [(48, .arr 47 1 ((([] : List (List Int))).map c47)), (104, .arr 25 3 (y3.map c25))]⟩) ?_ ?_
  ·refine XR 1 ?_
   refine L0 rfl rfl (Y0_lenM (c := c25) (xs := y3) Try.underlying44 rfl (by kernel_rfl)) ?_
   exact XE
  obtain ⟨o7, hLo7, h⟩ := of_bind h
  refine V_toK (mb 46 64) [48] (s1 := ⟨bt 6 (.ow 48 :: bt 39 []), [(48, .arr 47 1 (o7.map c47))]⟩) ?_ ?_
  ·clear h
   refine V_block (V_loop (fun n s => ∃ (t4 : Int) (l5 : List (List Int)), s.keep (mb 46 114786) [48, 104] = (⟨.bot :: I p2 :: bt 3 (.ow 104 :: .ow 48 :: bt 7 (.ow 104 :: I ((y3.length : Int)) :: I t4 :: bt 29 [])), [(48, .arr 47 1 (l5.map c47)), (104, .arr 25 3 (y3.map c25))]⟩ : St) ∧ r_spec_hkMatrix_L6 p2 y3 n t4 l5 = some o7) FU ⟨_, _,  by rfl, hLo7⟩ ?_)
   clear hLo7
   rintro n s ⟨t4, l5, hs, h⟩
   refine V_keep _ _ hs ?_
   clear hs
   cases n with
   | zero => cases h
   | succ n =>
    rw [r_spec_hkMatrix_L6] at h
    refine V_e (mb 46 245858) [48, 104] (s1 := ⟨.bot :: I p2 :: bt 3 (.ow 104 :: .ow 48 :: bt 7 (.ow 104 :: I ((y3.length : Int)) :: I t4 :: Bo (ltI t4 ((y3.length : Int))) :: bt 28 [])), [(48, .arr 47 1 (l5.map c47)), (104, .arr 25 3 (y3.map c25))]⟩) ?_
    refine V_seq ?_
    refine V_cond rfl (fun hc8 => ?_) (fun hc8 => ?_)
    ·have h := of_true h hc8
     refine V_skip ?_
     show V _ _ _ _
     refine V_seq ?_
     refine V_block ?_
     obtain ⟨e9, he9, h⟩ := of_bind h
     obtain ⟨e10, he10, h⟩ := of_bind h
     refine V_sreg (mb 46 115042) [64, 48, 104] (s1 := ⟨.bot :: I p2 :: bt 3 (.ow 104 :: .ow 48 :: .bot :: .pt 64 0 :: bt 5 (.ow 104 :: I ((y3.length : Int)) :: I t4 :: bt 29 [])), [(64, .box [Ti e10.1, Ti e10.2.1, Ti e10.2.2]), (48, .arr 47 1 (l5.map c47)), (104, .arr 25 3 (y3.map c25))]⟩) ?_ ?_
     ·refine L0 rfl rfl (Y0_idxoM (c := c25) (xs := y3) (v := e9) (id := 104) (T := 25) (sz := 3) (n := t4) Try.underlying44 sz25 rfl (by kernel_rfl) (by kernel_rfl) (by kernel_rfl) he9) ?_
      refine L0 rfl rfl (E_loadon (c := c25) (xs := y3) (v := e10) (id := 104) (sz := 3) (T := 25) (off := 0) (n := t4) [Ti e10.1, Ti e10.2.1, Ti e10.2.2] wd25 rfl (by kernel_rfl) (by kernel_rfl) he10 (Nat.le_of_ble_eq_true rfl) (by kernel_rfl)) ?_
      exact XE
     obtain ⟨u11, hu11, h⟩ := of_bind h
     refine V_sreg (mb 46 115554) [176, 64, 48, 104] (s1 := ⟨.bot :: I p2 :: bt 3 (.ow 104 :: .ow 48 :: .bot :: .pt 64 0 :: .ow 176 :: bt 4 (.ow 104 :: I ((y3.length : Int)) :: I t4 :: bt 29 [])), [(176, .arr 3 1 ((List.replicate (Int.toNat ((y3.length : Int))) ((0 : Int))).map c3)), (64, .box [Ti e10.1, Ti e10.2.1, Ti e10.2.2]), (48, .arr 47 1 (l5.map c47)), (104, .arr 25 3 (y3.map c25))]⟩) ?_ ?_
     ·refine XR 1 ?_
      refine L0 rfl rfl (Y0_lenM (c := c25) (xs := y3) Try.underlying44 rfl (by kernel_rfl)) ?_
      refine L1 rfl rfl (Y1_make (c := c3) (zx := (0 : Int)) (z := zv3) (l := (y3.length : Int)) (k := (y3.length : Int)) Try.underlying47 izb3 rfl rfl (by decide) rfl rfl (by kernel_rfl) (by kernel_rfl) (mk_some hu11) (by decide)) ?_
      exact XE
     refine V_seq ?_
     obtain ⟨y12, hy12, h⟩ := of_bind h
     refine V_sreg (mb 46 234996322) [200, 176, 48, 104] (s1 := ⟨.bot :: I p2 :: bt 3 (.ow 104 :: .ow 48 :: .bot :: .bot :: .ow 176 :: bt 4 (.ow 104 :: I ((y3.length : Int)) :: I t4 :: bt 8 (.ow 200 :: I ((y12.length : Int)) :: I 0 :: bt 18 []))), [(200, .arr 25 3 (y12.map c25)), (176, .arr 3 1 ((List.replicate (Int.toNat ((y3.length : Int))) ((0 : Int))).map c3)), (48, .arr 47 1 (l5.map c47)), (104, .arr 25 3 (y3.map c25))]⟩) ?_ ?_
     ·refine XR 2 ?_
      refine XC (s_spec_hkNeighbours hy12) cf_spec_hkNeighbours rfl rfl rfl ?_
      refine L0 rfl rfl (Y0_lenM (c := c25) (xs := y12) Try.underlying44 rfl (by kernel_rfl)) ?_
      exact XE
     obtain ⟨o16, hLo16, h⟩ := of_bind h
     refine V_toK (mb 46 115298) [176, 48, 104] (s1 := ⟨.bot :: I p2 :: bt 3 (.ow 104 :: .ow 48 :: .bot :: .bot :: .ow 176 :: bt 4 (.ow 104 :: I ((y3.length : Int)) :: I t4 :: bt 29 [])), [(176, .arr 3 1 (o16.map c3)), (48, .arr 47 1 (l5.map c47)), (104, .arr 25 3 (y3.map c25))]⟩) ?_ ?_
     ·clear h
      refine V_block (V_loop (fun n s => ∃ (t13 : Int) (l14 : List Int), s.keep (mb 46 234996322) [200, 176, 48, 104] = (⟨.bot :: I p2 :: bt 3 (.ow 104 :: .ow 48 :: .bot :: .bot :: .ow 176 :: bt 4 (.ow 104 :: I ((y3.length : Int)) :: I t4 :: bt 8 (.ow 200 :: I ((y12.length : Int)) :: I t13 :: bt 18 []))), [(200, .arr 25 3 (y12.map c25)), (176, .arr 3 1 (l14.map c3)), (48, .arr 47 1 (l5.map c47)), (104, .arr 25 3 (y3.map c25))]⟩ : St) ∧ r_spec_hkMatrix_L15 l5 p2 t4 y12 y3 n t13 l14 = some o16) FU ⟨_, _,  by rfl, hLo16⟩ ?_)
      clear hLo16
      rintro n s ⟨t13, l14, hs, h⟩
      refine V_keep _ _ hs ?_
      clear hs
      cases n with
      | zero => cases h
      | succ n =>
       rw [r_spec_hkMatrix_L15] at h
       refine V_e (mb 46 503431778) [200, 176, 48, 104] (s1 := ⟨.bot :: I p2 :: bt 3 (.ow 104 :: .ow 48 :: .bot :: .bot :: .ow 176 :: bt 4 (.ow 104 :: I ((y3.length : Int)) :: I t4 :: bt 8 (.ow 200 :: I ((y12.length : Int)) :: I t13 :: Bo (ltI t13 ((y12.length : Int))) :: bt 17 []))), [(200, .arr 25 3 (y12.map c25)), (176, .arr 3 1 (l14.map c3)), (48, .arr 47 1 (l5.map c47)), (104, .arr 25 3 (y3.map c25))]⟩) ?_
       refine V_seq ?_
       refine V_cond rfl (fun hc17 => ?_) (fun hc17 => ?_)
       ·have h := of_true h hc17
        refine V_skip ?_
        show V _ _ _ _
        refine V_seq ?_
        refine V_block ?_
        obtain ⟨e18, he18, h⟩ := of_bind h
        obtain ⟨e19, he19, h⟩ := of_bind h
        refine V_sreg (mb 46 234998370) [88, 200, 176, 48, 104] (s1 := ⟨.bot :: I p2 :: bt 3 (.ow 104 :: .ow 48 :: .bot :: .bot :: .ow 176 :: .bot :: .pt 88 0 :: .bot :: .bot :: .ow 104 :: I ((y3.length : Int)) :: I t4 :: bt 8 (.ow 200 :: I ((y12.length : Int)) :: I t13 :: bt 18 [])), [(88, .box [Ti e19.1, Ti e19.2.1, Ti e19.2.2]), (200, .arr 25 3 (y12.map c25)), (176, .arr 3 1 (l14.map c3)), (48, .arr 47 1 (l5.map c47)), (104, .arr 25 3 (y3.map c25))]⟩) ?_ ?_
        ·refine L0 rfl rfl (Y0_idxoM (c := c25) (xs := y12) (v := e18) (id := 200) (T := 25) (sz := 3) (n := t13) Try.underlying44 sz25 rfl (by kernel_rfl) (by kernel_rfl) (by kernel_rfl) he18) ?_
         refine L0 rfl rfl (E_loadon (c := c25) (xs := y12) (v := e19) (id := 200) (sz := 3) (T := 25) (off := 0) (n := t13) [Ti e19.1, Ti e19.2.1, Ti e19.2.2] wd25 rfl (by kernel_rfl) (by kernel_rfl) he19 (Nat.le_of_ble_eq_true rfl) (by kernel_rfl)) ?_
         exact XE
        obtain ⟨y20, hy20, h⟩ := of_bind h
        obtain ⟨e21, he21, h⟩ := of_bind h
        obtain ⟨e22, he22, h⟩ := of_bind h
        obtain ⟨e23, he23, h⟩ := of_bind h
        obtain ⟨e24, he24, h⟩ := of_bind h
        refine V_reg (mb 46 234996322) [200, 176, 48, 104] (s1 := ⟨.bot :: I p2 :: bt 3 (.ow 104 :: .ow 48 :: .bot :: .bot :: .ow 176 :: bt 4 (.ow 104 :: I ((y3.length : Int)) :: I t4 :: bt 8 (.ow 200 :: I ((y12.length : Int)) :: I t13 :: bt 18 []))), [(200, .arr 25 3 (y12.map c25)), (176, .arr 3 1 ((l14.set (Int.toNat (y20)) (w64 (e22 + 1))).map c3)), (48, .arr 47 1 (l5.map c47)), (104, .arr 25 3 (y3.map c25))]⟩) ?_ ?_
        ·refine XR 3 ?_
         refine L1 rfl rfl (Y1_callS (s_spec_grIndex hy20) cf_spec_grIndex rfl (by kernel_rfl) rfl rfl) ?_
         refine L0 rfl rfl (Y0_idxoM (c := c3) (xs := l14) (v := e21) (id := 176) (T := 3) (sz := 1) (n := y20) Try.underlying47 sz3 rfl (by kernel_rfl) (by kernel_rfl) (by kernel_rfl) he21) ?_
         refine L0 rfl rfl (Y0_loado1 (c := c3) (xs := l14) (v := e22) (id := 176) (sz := 1) (T := 3) (off := 0) (n := y20) (d := Ti e22) (ds := []) sc3 rfl (by kernel_rfl) (by kernel_rfl) he22 (by kernel_rfl)) ?_
         refine XR 1 ?_
         refine L0 rfl rfl (Y0_idxoM (c := c3) (xs := l14) (v := e23) (id := 176) (T := 3) (sz := 1) (n := y20) Try.underlying47 sz3 rfl (by kernel_rfl) (by kernel_rfl) (by kernel_rfl) he23) ?_
         refine XL_cons rfl (X_storeoM (c := c3) (xs := l14) (v := e24) (u := w64 (e22 + 1)) (id := 176) (sz := 1) (off := 0) (T0 := 3) (n := y20) (vc := [Ti (w64 (e22 + 1))]) rfl rfl (by kernel_rfl) (by kernel_rfl) he24 (by kernel_rfl) sz3 (Nat.le_of_ble_eq_true rfl) (by kernel_rfl)) ?_
         exact XE
        show V _ _ _ _
        obtain ⟨t25, ht25, h⟩ := of_sI h
        refine V_reg (mb 46 234996322) [200, 176, 48, 104] (s1 := ⟨.bot :: I p2 :: bt 3 (.ow 104 :: .ow 48 :: .bot :: .bot :: .ow 176 :: bt 4 (.ow 104 :: I ((y3.length : Int)) :: I t4 :: bt 8 (.ow 200 :: I ((y12.length : Int)) :: I t25 :: bt 18 []))), [(200, .arr 25 3 (y12.map c25)), (176, .arr 3 1 ((l14.set (Int.toNat (y20)) (w64 (e22 + 1))).map c3)), (48, .arr 47 1 (l5.map c47)), (104, .arr 25 3 (y3.map c25))]⟩) ?_ ?_
        ·refine XR 2 ?_
         refine XL_nil ?_
         subst ht25
         kernel_rfl
        exact ⟨n, Nat.lt_succ_self n, _, _,  by rfl, h⟩
       ·have h := of_false h hc17
        refine V_exit ?_
        obtain rfl := some_inj h
        show St.keep _ _ _ = _
        rfl
     show V _ _ _ _
     obtain ⟨u26, hu26, h⟩ := of_bind h
     refine V_reg (mb 46 114786) [48, 104] (s1 := ⟨.bot :: I p2 :: bt 3 (.ow 104 :: .ow 48 :: bt 7 (.ow 104 :: I ((y3.length : Int)) :: I t4 :: bt 29 [])), [(48, .arr 47 1 ((l5 ++ ([o16])).map c47)), (104, .arr 25 3 (y3.map c25))]⟩) ?_ ?_
     ·refine XR 2 ?_
      refine XL_freeze 176 (T := 3) (sz := 1) (els := o16.map c3) (s1 := ⟨.bot :: I p2 :: bt 3 (.ow 104 :: .ow 48 :: .bot :: .bot :: .c (.sl (o16.map c3)) :: bt 4 (.ow 104 :: I ((y3.length : Int)) :: I t4 :: bt 23 (.ow 48 :: .c (.sl (o16.map c3)) :: bt 4 []))), [(48, .arr 47 1 (l5.map c47)), (104, .arr 25 3 (y3.map c25))]⟩) (by kernel_rfl) (by kernel_rfl) ?_
      refine L1 rfl rfl (Y1_bslice (z := zv47) (els := [o16].map c47) Try.underlying39 iz47 rfl (by decide) rfl (by kernel_rfl) rfl (by simp [c47]) (by decide) (by decide)) ?_
      refine XL_cons rfl (X_appendM (c := c47) (xs := l5) (ys := [o16]) (id := 48) (z := zv47) rfl rfl Try.underlying39 izb47 rfl (by kernel_rfl) (by kernel_rfl) (by kernel_rfl) (fun _ => rfl) (by simp) (room_some hu26) (by decide)) ?_
      exact XE
     show V _ _ _ _
     obtain ⟨t27, ht27, h⟩ := of_sI h
     refine V_reg (mb 46 114786) [48, 104] (s1 := ⟨.bot :: I p2 :: bt 3 (.ow 104 :: .ow 48 :: bt 7 (.ow 104 :: I ((y3.length : Int)) :: I t27 :: bt 29 [])), [(48, .arr 47 1 ((l5 ++ ([o16])).map c47)), (104, .arr 25 3 (y3.map c25))]⟩) ?_ ?_
     ·refine XR 2 ?_
      refine XL_nil ?_
      subst ht27
      kernel_rfl
     exact ⟨n, Nat.lt_succ_self n, _, _,  by rfl, h⟩
    ·have h := of_false h hc8
     refine V_exit ?_
     obtain rfl := some_inj h
     show St.keep _ _ _ = _
     rfl
  show V _ _ _ _
  refine V_e (mb 46 16) [48] (s1 := ⟨bt 4 (.ow 48 :: bt 41 []), [(48, .arr 47 1 (o7.map c47))]⟩) ?_
  refine V_ret ?_
  obtain rfl := some_inj h
  show Post _ _ _ _ _
  exact ⟨.inr rfl, rfl, rfl, rfl⟩
theorem cf_spec_WalkMatrix : ∀ args w, (callFunc 17 args).run Try.prog w = .ok (.enter 17 args) w := run_callFunc Try.func17 (by kernel_rfl) (by kernel_rfl)
theorem s_spec_WalkMatrix {d1 : Int} {p2 : Int} {k3 : Int} {r : ((List (List Int)) × Bool)} (h : r_spec_WalkMatrix d1 p2 k3 = some r) : CallS Try.prog 17 [I d1, I p2, I k3] (.tc (.ow 0) (.tc (Bo r.2) .tn)) [(0, .arr 47 1 (r.1.map c47))] := by
  refine CallS_of_text (rs := [.t 6, .t 7]) (vs := [.tmp 6, .tmp 7]) Try.func17 rfl rfl (.cons rfl (.cons rfl FitsL.nil)) (by decide) 88 rfl ?_
  unfold r_spec_WalkMatrix at h
  show V _ _ ⟨I d1 :: I p2 :: I k3 :: bt 85 [], []⟩ _
  refine V_sreg (mb 88 7) [] (s1 := ⟨I d1 :: I p2 :: I k3 :: bt 85 [], []⟩) ?_ ?_
  ·refine L1 rfl rfl (Y1_nil (e := 47) 1 (by decide) (.inl rfl)) ?_
   exact XE
  refine V_seq ?_
  obtain ⟨y4, hy4, h⟩ := of_bind h
  obtain ⟨b7, hb7, h⟩ := of_bind h
  obtain ⟨b10, hb10, h⟩ := of_bind h
  refine V_sreg (mb 88 1073741831) [] (s1 := ⟨I d1 :: I p2 :: I k3 :: bt 27 (Bo b10 :: bt 57 []), []⟩) ?_ ?_
  ·refine XR 1 ?_
   refine XC (s_spec_reDisc hy4) cf_spec_reDisc rfl rfl rfl ?_
   refine XR 2 ?_
   refine XL_split (!y4) (fun hc5 => ?_) (fun hc5 => ?_)
   ·have hb7 := some_inj (of_true hb7 hc5)
    refine XL_skipF _ rfl rfl (by kernel_rfl) hc5 rfl ?_
    refine XL_skipF _ rfl rfl (by kernel_rfl) hc5 rfl ?_
    refine XL_skipF _ rfl rfl (by kernel_rfl) hc5 rfl ?_
    refine XL_cons rfl (X_of_Y0 rfl (Y0_pickTe (b := !y4) (p := true) rfl (by kernel_rfl) hc5 (by kernel_rfl) hb7)) ?_
    refine XR 1 ?_
    refine XL_split b7 (fun hc8 => ?_) (fun hc8 => ?_)
    ·have hb10 := some_inj (of_true hb10 hc8)
     refine XL_skipF _ rfl rfl (by kernel_rfl) hc8 rfl ?_
     refine XL_skipF _ rfl rfl (by kernel_rfl) hc8 rfl ?_
     refine XL_skipF _ rfl rfl (by kernel_rfl) hc8 rfl ?_
     refine XL_cons rfl (X_of_Y0 rfl (Y0_pickTe (b := b7) (p := true) rfl (by kernel_rfl) hc8 (by kernel_rfl) hb10)) ?_
     exact XE
    ·have hb10 := of_false hb10 hc8
     obtain ⟨y9, hy9, hb10⟩ := of_bind hb10
     have hb10 := some_inj hb10
     refine XL_takeC _ rfl rfl (by kernel_rfl) hc8 (X_of_Y0 rfl (E_move (I k3) rfl (by kernel_rfl))) ?_
     refine XL_takeC _ rfl rfl (by kernel_rfl) hc8 (X_of_Y1 rfl (Y1_call (s_spec_l1In hy9) cf_spec_l1In rfl (by kernel_rfl))) ?_
     refine XL_takeC _ rfl rfl (by kernel_rfl) hc8 (X_of_Y0 rfl (Y0_not (b := y9) rfl (by kernel_rfl))) ?_
     refine XL_cons rfl (X_of_Y0 rfl (Y0_pickFe (b := b7) (p := !y9) rfl (by kernel_rfl) hc8 (by kernel_rfl) hb10)) ?_
     exact XE
   ·have hb7 := of_false hb7 hc5
    obtain ⟨y6, hy6, hb7⟩ := of_bind hb7
    have hb7 := some_inj hb7
    refine XL_takeC _ rfl rfl (by kernel_rfl) hc5 (X_of_Y0 rfl (E_move (I p2) rfl (by kernel_rfl))) ?_
    refine XL_takeC _ rfl rfl (by kernel_rfl) hc5 (X_of_Y1 rfl (Y1_call (s_spec_hkPrime hy6) cf_spec_hkPrime rfl (by kernel_rfl))) ?_
    refine XL_takeC _ rfl rfl (by kernel_rfl) hc5 (X_of_Y0 rfl (Y0_not (b := y6) rfl (by kernel_rfl))) ?_
    refine XL_cons rfl (X_of_Y0 rfl (Y0_pickFe (b := !y4) (p := !y6) rfl (by kernel_rfl) hc5 (by kernel_rfl) hb7)) ?_
    refine XR 1 ?_
    refine XL_split b7 (fun hc8 => ?_) (fun hc8 => ?_)
    ·have hb10 := some_inj (of_true hb10 hc8)
     refine XL_skipF _ rfl rfl (by kernel_rfl) hc8 rfl ?_
     refine XL_skipF _ rfl rfl (by kernel_rfl) hc8 rfl ?_
     refine XL_skipF _ rfl rfl (by kernel_rfl) hc8 rfl ?_
     refine XL_cons rfl (X_of_Y0 rfl (Y0_pickTe (b := b7) (p := true) rfl (by kernel_rfl) hc8 (by kernel_rfl) hb10)) ?_
     exact XE
    ·have hb10 := of_false hb10 hc8
     obtain ⟨y9, hy9, hb10⟩ := of_bind hb10
     have hb10 := some_inj hb10
     refine XL_takeC _ rfl rfl (by kernel_rfl) hc8 (X_of_Y0 rfl (E_move (I k3) rfl (by kernel_rfl))) ?_
     refine XL_takeC _ rfl rfl (by kernel_rfl) hc8 (X_of_Y1 rfl (Y1_call (s_spec_l1In hy9) cf_spec_l1In rfl (by kernel_rfl))) ?_
     refine XL_takeC _ rfl rfl (by kernel_rfl) hc8 (X_of_Y0 rfl (Y0_not (b := y9) rfl (by kernel_rfl))) ?_
     refine XL_cons rfl (X_of_Y0 rfl (Y0_pickFe (b := b7) (p := !y9) rfl (by kernel_rfl) hc8 (by kernel_rfl) hb10)) ?_
     exact XE
  refine V_cond rfl (fun hc11 => ?_) (fun hc11 => ?_)
  ·have h := of_true h hc11
   refine V_sreg (mb 88 192) [48] (s1 := ⟨bt 6 (.ow 48 :: Bo false :: bt 80 []), [(48, .arr 47 1 ((([] : List (List Int))).map c47))]⟩) ?_ ?_
   ·refine L1 rfl rfl (Y1_nil (e := 47) 1 (by decide) (.inl rfl)) ?_
    exact XE
   refine V_ret ?_
   obtain rfl := some_inj h
   show Post _ _ _ _ _
   exact ⟨.inr rfl, rfl, rfl, rfl⟩
  ·have h := of_false h hc11
   refine V_skip ?_
   show V _ _ _ _
   obtain ⟨y12, hy12, h⟩ := of_bind h
   refine V_sreg (mb 88 260) [264] (s1 := ⟨.bot :: .bot :: I k3 :: bt 5 (.ow 264 :: bt 79 []), [(264, .arr 47 1 (y12.map c47))]⟩) ?_ ?_
   ·refine XR 2 ?_
    refine XC (s_spec_hkMatrix hy12) cf_spec_hkMatrix rfl rfl rfl ?_
    exact XE
   refine V_sreg (mb 88 772) [72, 264] (s1 := ⟨.bot :: .bot :: I k3 :: bt 5 (.ow 264 :: .ow 72 :: bt 78 []), [(72, .arr 47 1 ((([] : List (List Int))).map c47)), (264, .arr 47 1 (y12.map c47))]⟩) ?_ ?_
   ·refine L1 rfl rfl (Y1_nil (e := 47) 1 (by decide) (.inl rfl)) ?_
    exact XE
   refine V_seq ?_
   refine V_sreg (mb 88 103079215876) [72, 264] (s1 := ⟨.bot :: .bot :: I k3 :: bt 5 (.ow 264 :: .ow 72 :: bt 25 (I ((y12.length : Int)) :: I 0 :: bt 51 [])), [(72, .arr 47 1 ((([] : List (List Int))).map c47)), (264, .arr 47 1 (y12.map c47))]⟩) ?_ ?_
   ·refine XR 1 ?_
    refine L0 rfl rfl (Y0_lenM (c := c47) (xs := y12) Try.underlying39 rfl (by kernel_rfl)) ?_
    exact XE
   obtain ⟨o16, hLo16, h⟩ := of_bind h
   refine V_toK (mb 88 512) [72] (s1 := ⟨bt 9 (.ow 72 :: bt 78 []), [(72, .arr 47 1 (o16.map c47))]⟩) ?_ ?_
   ·clear h
    refine V_block (V_loop (fun n s => ∃ (t13 : Int) (l14 : List (List Int)), s.keep (mb 88 103079215876) [72, 264] = (⟨.bot :: .bot :: I k3 :: bt 5 (.ow 264 :: .ow 72 :: bt 25 (I ((y12.length : Int)) :: I t13 :: bt 51 [])), [(72, .arr 47 1 (l14.map c47)), (264, .arr 47 1 (y12.map c47))]⟩ : St) ∧ r_spec_WalkMatrix_L15 k3 y12 n t13 l14 = some o16) FU ⟨_, _,  by rfl, hLo16⟩ ?_)
    clear hLo16
    rintro n s ⟨t13, l14, hs, h⟩
    refine V_keep _ _ hs ?_
    clear hs
    cases n with
    | zero => cases h
    | succ n =>
     rw [r_spec_WalkMatrix_L15] at h
     refine V_e (mb 88 240518169348) [72, 264] (s1 := ⟨.bot :: .bot :: I k3 :: bt 5 (.ow 264 :: .ow 72 :: bt 25 (I ((y12.length : Int)) :: I t13 :: Bo (ltI t13 ((y12.length : Int))) :: bt 50 [])), [(72, .arr 47 1 (l14.map c47)), (264, .arr 47 1 (y12.map c47))]⟩) ?_
     refine V_seq ?_
     refine V_cond rfl (fun hc17 => ?_) (fun hc17 => ?_)
     ·have h := of_true h hc17
      refine V_skip ?_
      show V _ _ _ _
      refine V_seq ?_
      refine V_block ?_
      refine V_e (mb 88 103079216900) [72, 264] (s1 := ⟨.bot :: .bot :: I k3 :: bt 5 (.ow 264 :: .ow 72 :: I t13 :: bt 24 (I ((y12.length : Int)) :: I t13 :: bt 51 [])), [(72, .arr 47 1 (l14.map c47)), (264, .arr 47 1 (y12.map c47))]⟩) ?_
      obtain ⟨u18, hu18, h⟩ := of_bind h
      refine V_sreg (mb 88 103079218948) [328, 72, 264] (s1 := ⟨.bot :: .bot :: I k3 :: bt 5 (.ow 264 :: .ow 72 :: I t13 :: .ow 328 :: bt 23 (I ((y12.length : Int)) :: I t13 :: bt 51 [])), [(328, .arr 3 1 ((List.replicate (Int.toNat ((y12.length : Int))) ((0 : Int))).map c3)), (72, .arr 47 1 (l14.map c47)), (264, .arr 47 1 (y12.map c47))]⟩) ?_ ?_
      ·refine XR 1 ?_
       refine L0 rfl rfl (Y0_lenM (c := c47) (xs := y12) Try.underlying39 rfl (by kernel_rfl)) ?_
       refine L1 rfl rfl (Y1_make (c := c3) (zx := (0 : Int)) (z := zv3) (l := (y12.length : Int)) (k := (y12.length : Int)) Try.underlying47 izb3 rfl rfl (by decide) rfl rfl (by kernel_rfl) (by kernel_rfl) (mk_some hu18) (by decide)) ?_
       exact XE
      obtain ⟨e19, he19, h⟩ := of_bind h
      obtain ⟨e20, he20, h⟩ := of_bind h
      obtain ⟨l21, hl21, h⟩ := of_bind h
      have hl21 := some_inj hl21
      refine V_sreg (mb 88 103079217924) [328, 72, 264] (s1 := ⟨.bot :: .bot :: I k3 :: bt 5 (.ow 264 :: .ow 72 :: .bot :: .ow 328 :: bt 23 (I ((y12.length : Int)) :: I t13 :: bt 51 [])), [(328, .arr 3 1 (l21.map c3)), (72, .arr 47 1 (l14.map c47)), (264, .arr 47 1 (y12.map c47))]⟩) ?_ ?_
      ·refine XR 2 ?_
       refine L0 rfl rfl (Y0_idxoM (c := c3) (xs := List.replicate (Int.toNat ((y12.length : Int))) ((0 : Int))) (v := e19) (id := 328) (T := 3) (sz := 1) (n := t13) Try.underlying47 sz3 rfl (by kernel_rfl) (by kernel_rfl) (by kernel_rfl) he19) ?_
       refine XL_cons rfl (X_storeoM (c := c3) (xs := List.replicate (Int.toNat ((y12.length : Int))) ((0 : Int))) (v := e20) (u := 1) (id := 328) (sz := 1) (off := 0) (T0 := 3) (n := t13) (vc := [Ti 1]) rfl rfl (by kernel_rfl) (by kernel_rfl) he20 (by kernel_rfl) sz3 (Nat.le_of_ble_eq_true rfl) (by kernel_rfl)) ?_
       refine XL_nil ?_
       subst hl21
       kernel_rfl
      refine V_seq ?_
      refine V_e (mb 88 103079222020) [328, 72, 264] (s1 := ⟨.bot :: .bot :: I k3 :: bt 5 (.ow 264 :: .ow 72 :: .bot :: .ow 328 :: I 0 :: bt 22 (I ((y12.length : Int)) :: I t13 :: bt 51 [])), [(328, .arr 3 1 (l21.map c3)), (72, .arr 47 1 (l14.map c47)), (264, .arr 47 1 (y12.map c47))]⟩) ?_
      refine V_freeze 328 (T := 3) (sz := 1) (els := l21.map c3) (s1 := ⟨.bot :: .bot :: I k3 :: bt 5 (.ow 264 :: .ow 72 :: .bot :: .c (.sl (l21.map c3)) :: I 0 :: bt 22 (I ((y12.length : Int)) :: I t13 :: bt 51 [])), [(72, .arr 47 1 (l14.map c47)), (264, .arr 47 1 (y12.map c47))]⟩) (by kernel_rfl) (by kernel_rfl) ?_
      obtain ⟨o25, hLo25, h⟩ := of_bind h
      refine V_toK (mb 88 103079217924) [72, 264] (s1 := ⟨.bot :: .bot :: I k3 :: bt 5 (.ow 264 :: .ow 72 :: .bot :: .c (.sl (o25.map c3)) :: bt 23 (I ((y12.length : Int)) :: I t13 :: bt 51 [])), [(72, .arr 47 1 (l14.map c47)), (264, .arr 47 1 (y12.map c47))]⟩) ?_ ?_
      ·clear h
       refine V_block (V_loop (fun n s => ∃ (row22 : List Int) (vn23 : Int), s.keep (mb 88 103079222020) [72, 264] = (⟨.bot :: .bot :: I k3 :: bt 5 (.ow 264 :: .ow 72 :: .bot :: .c (.sl (row22.map c3)) :: I vn23 :: bt 22 (I ((y12.length : Int)) :: I t13 :: bt 51 [])), [(72, .arr 47 1 (l14.map c47)), (264, .arr 47 1 (y12.map c47))]⟩ : St) ∧ r_spec_WalkMatrix_L24 k3 l14 t13 y12 n row22 vn23 = some o25) FU ⟨_, _,  by rfl, hLo25⟩ ?_)
       clear hLo25
       rintro n s ⟨row22, vn23, hs, h⟩
       refine V_keep _ _ hs ?_
       clear hs
       cases n with
       | zero => cases h
       | succ n =>
        rw [r_spec_WalkMatrix_L24] at h
        refine V_seq ?_
        refine V_e (mb 88 140840567577348) [72, 264] (s1 := ⟨.bot :: .bot :: I k3 :: bt 5 (.ow 264 :: .ow 72 :: .bot :: .c (.sl (row22.map c3)) :: I vn23 :: bt 22 (I ((y12.length : Int)) :: I t13 :: bt 10 (Bo (ltI vn23 k3) :: bt 40 []))), [(72, .arr 47 1 (l14.map c47)), (264, .arr 47 1 (y12.map c47))]⟩) ?_
        refine V_cond rfl (fun hc26 => ?_) (fun hc26 => ?_)
        ·have h := of_true h hc26
         refine V_skip ?_
         show V _ _ _ _
         refine V_seq ?_
         refine V_block ?_
         obtain ⟨u27, hu27, h⟩ := of_bind h
         refine V_sreg (mb 88 103079230212) [416, 72, 264] (s1 := ⟨.bot :: .bot :: I k3 :: bt 5 (.ow 264 :: .ow 72 :: .bot :: .c (.sl (row22.map c3)) :: I vn23 :: .ow 416 :: bt 21 (I ((y12.length : Int)) :: I t13 :: bt 51 [])), [(416, .arr 3 1 ((List.replicate (Int.toNat ((y12.length : Int))) ((0 : Int))).map c3)), (72, .arr 47 1 (l14.map c47)), (264, .arr 47 1 (y12.map c47))]⟩) ?_ ?_
         ·refine XR 1 ?_
          refine L0 rfl rfl (Y0_lenM (c := c47) (xs := y12) Try.underlying39 rfl (by kernel_rfl)) ?_
          refine L1 rfl rfl (Y1_make (c := c3) (zx := (0 : Int)) (z := zv3) (l := (y12.length : Int)) (k := (y12.length : Int)) Try.underlying47 izb3 rfl rfl (by decide) rfl rfl (by kernel_rfl) (by kernel_rfl) (mk_some hu27) (by decide)) ?_
          exact XE
         refine V_seq ?_
         refine V_sreg (mb 88 63050497862415108) [416, 72, 264] (s1 := ⟨.bot :: .bot :: I k3 :: bt 5 (.ow 264 :: .ow 72 :: .bot :: .bot :: I vn23 :: .ow 416 :: bt 21 (I ((y12.length : Int)) :: I t13 :: bt 16 (.c (.sl (row22.map c3)) :: I ((row22.length : Int)) :: I 0 :: bt 32 []))), [(416, .arr 3 1 ((List.replicate (Int.toNat ((y12.length : Int))) ((0 : Int))).map c3)), (72, .arr 47 1 (l14.map c47)), (264, .arr 47 1 (y12.map c47))]⟩) ?_ ?_
         ·refine XR 1 ?_
          refine L0 rfl rfl (Y0_lenM (c := c3) (xs := row22) Try.underlying47 rfl (by kernel_rfl)) ?_
          exact XE
         obtain ⟨o31, hLo31, h⟩ := of_bind h
         refine V_toK (mb 88 103079228164) [416, 72, 264] (s1 := ⟨.bot :: .bot :: I k3 :: bt 5 (.ow 264 :: .ow 72 :: .bot :: .bot :: I vn23 :: .ow 416 :: bt 21 (I ((y12.length : Int)) :: I t13 :: bt 51 [])), [(416, .arr 3 1 (o31.map c3)), (72, .arr 47 1 (l14.map c47)), (264, .arr 47 1 (y12.map c47))]⟩) ?_ ?_
         ·clear h
          refine V_block (V_loop (fun n s => ∃ (t28 : Int) (l29 : List Int), s.keep (mb 88 63050497862415108) [416, 72, 264] = (⟨.bot :: .bot :: I k3 :: bt 5 (.ow 264 :: .ow 72 :: .bot :: .bot :: I vn23 :: .ow 416 :: bt 21 (I ((y12.length : Int)) :: I t13 :: bt 16 (.c (.sl (row22.map c3)) :: I ((row22.length : Int)) :: I t28 :: bt 32 []))), [(416, .arr 3 1 (l29.map c3)), (72, .arr 47 1 (l14.map c47)), (264, .arr 47 1 (y12.map c47))]⟩ : St) ∧ r_spec_WalkMatrix_L30 k3 l14 row22 t13 vn23 y12 n t28 l29 = some o31) FU ⟨_, _,  by rfl, hLo31⟩ ?_)
          clear hLo31
          rintro n s ⟨t28, l29, hs, h⟩
          refine V_keep _ _ hs ?_
          clear hs
          cases n with
          | zero => cases h
          | succ n =>
           rw [r_spec_WalkMatrix_L30] at h
           refine V_e (mb 88 135108091900343044) [416, 72, 264] (s1 := ⟨.bot :: .bot :: I k3 :: bt 5 (.ow 264 :: .ow 72 :: .bot :: .bot :: I vn23 :: .ow 416 :: bt 21 (I ((y12.length : Int)) :: I t13 :: bt 16 (.c (.sl (row22.map c3)) :: I ((row22.length : Int)) :: I t28 :: Bo (ltI t28 ((row22.length : Int))) :: bt 31 []))), [(416, .arr 3 1 (l29.map c3)), (72, .arr 47 1 (l14.map c47)), (264, .arr 47 1 (y12.map c47))]⟩) ?_
           refine V_seq ?_
           refine V_cond rfl (fun hc32 => ?_) (fun hc32 => ?_)
           ·have h := of_true h hc32
            refine V_skip ?_
            show V _ _ _ _
            refine V_seq ?_
            refine V_block ?_
            obtain ⟨e33, he33, h⟩ := of_bind h
            refine V_sreg (mb 88 63050497862464260) [416, 72, 264] (s1 := ⟨.bot :: .bot :: I k3 :: bt 5 (.ow 264 :: .ow 72 :: .bot :: .bot :: I vn23 :: .ow 416 :: I t28 :: I e33 :: bt 19 (I ((y12.length : Int)) :: I t13 :: bt 16 (.c (.sl (row22.map c3)) :: I ((row22.length : Int)) :: I t28 :: bt 32 []))), [(416, .arr 3 1 (l29.map c3)), (72, .arr 47 1 (l14.map c47)), (264, .arr 47 1 (y12.map c47))]⟩) ?_ ?_
            ·refine XR 1 ?_
             refine L0 rfl rfl (Y0_idxM (c := c3) (xs := row22) (v := e33) (n := t28) Try.underlying47 sz3 rfl (by kernel_rfl) (by kernel_rfl) he33) ?_
             exact XE
            obtain ⟨e34, he34, h⟩ := of_bind h
            obtain ⟨e35, he35, h⟩ := of_bind h
            refine V_sreg (mb 88 64626654755845878532) [416, 72, 264] (s1 := ⟨.bot :: .bot :: I k3 :: bt 5 (.ow 264 :: .ow 72 :: .bot :: .bot :: I vn23 :: .ow 416 :: .bot :: I e33 :: bt 19 (I ((y12.length : Int)) :: I t13 :: bt 16 (.c (.sl (row22.map c3)) :: I ((row22.length : Int)) :: I t28 :: bt 7 (.c (.sl (e35.map c3)) :: I ((e35.length : Int)) :: I 0 :: bt 22 [])))), [(416, .arr 3 1 (l29.map c3)), (72, .arr 47 1 (l14.map c47)), (264, .arr 47 1 (y12.map c47))]⟩) ?_ ?_
            ·refine XR 2 ?_
             refine L0 rfl rfl (Y0_idxoM (c := c47) (xs := y12) (v := e34) (id := 264) (T := 47) (sz := 1) (n := t28) Try.underlying39 sz47 rfl (by kernel_rfl) (by kernel_rfl) (by kernel_rfl) he34) ?_
             refine L0 rfl rfl (Y0_loado1 (c := c47) (xs := y12) (v := e35) (id := 264) (sz := 1) (T := 47) (off := 0) (n := t28) (d := .sl (e35.map c3)) (ds := []) sc47 rfl (by kernel_rfl) (by kernel_rfl) he35 (by kernel_rfl)) ?_
             refine L0 rfl rfl (Y0_lenM (c := c3) (xs := e35) Try.underlying47 rfl (by kernel_rfl)) ?_
             exact XE
            obtain ⟨o39, hLo39, h⟩ := of_bind h
            refine V_toK (mb 88 63050497862415108) [416, 72, 264] (s1 := ⟨.bot :: .bot :: I k3 :: bt 5 (.ow 264 :: .ow 72 :: .bot :: .bot :: I vn23 :: .ow 416 :: bt 21 (I ((y12.length : Int)) :: I t13 :: bt 16 (.c (.sl (row22.map c3)) :: I ((row22.length : Int)) :: I t28 :: bt 32 []))), [(416, .arr 3 1 (o39.map c3)), (72, .arr 47 1 (l14.map c47)), (264, .arr 47 1 (y12.map c47))]⟩) ?_ ?_
            ·clear h
             refine V_block (V_loop (fun n s => ∃ (t36 : Int) (l37 : List Int), s.keep (mb 88 64626654755845878532) [416, 72, 264] = (⟨.bot :: .bot :: I k3 :: bt 5 (.ow 264 :: .ow 72 :: .bot :: .bot :: I vn23 :: .ow 416 :: .bot :: I e33 :: bt 19 (I ((y12.length : Int)) :: I t13 :: bt 16 (.c (.sl (row22.map c3)) :: I ((row22.length : Int)) :: I t28 :: bt 7 (.c (.sl (e35.map c3)) :: I ((e35.length : Int)) :: I t36 :: bt 22 [])))), [(416, .arr 3 1 (l37.map c3)), (72, .arr 47 1 (l14.map c47)), (264, .arr 47 1 (y12.map c47))]⟩ : St) ∧ r_spec_WalkMatrix_L38 e33 e35 k3 l14 row22 t13 t28 vn23 y12 n t36 l37 = some o39) FU ⟨_, _,  by rfl, hLo39⟩ ?_)
             clear hLo39
             rintro n s ⟨t36, l37, hs, h⟩
             refine V_keep _ _ hs ?_
             clear hs
             cases n with
             | zero => cases h
             | succ n =>
              rw [r_spec_WalkMatrix_L38] at h
              refine V_e (mb 88 138413631050684084996) [416, 72, 264] (s1 := ⟨.bot :: .bot :: I k3 :: bt 5 (.ow 264 :: .ow 72 :: .bot :: .bot :: I vn23 :: .ow 416 :: .bot :: I e33 :: bt 19 (I ((y12.length : Int)) :: I t13 :: bt 16 (.c (.sl (row22.map c3)) :: I ((row22.length : Int)) :: I t28 :: bt 7 (.c (.sl (e35.map c3)) :: I ((e35.length : Int)) :: I t36 :: Bo (ltI t36 ((e35.length : Int))) :: bt 21 [])))), [(416, .arr 3 1 (l37.map c3)), (72, .arr 47 1 (l14.map c47)), (264, .arr 47 1 (y12.map c47))]⟩) ?_
              refine V_seq ?_
              refine V_cond rfl (fun hc40 => ?_) (fun hc40 => ?_)
              ·have h := of_true h hc40
               refine V_skip ?_
               show V _ _ _ _
               refine V_seq ?_
               refine V_block ?_
               obtain ⟨e41, he41, h⟩ := of_bind h
               refine V_sreg (mb 88 64626654755846075140) [416, 72, 264] (s1 := ⟨.bot :: .bot :: I k3 :: bt 5 (.ow 264 :: .ow 72 :: .bot :: .bot :: I vn23 :: .ow 416 :: .bot :: I e33 :: I t36 :: I e41 :: bt 17 (I ((y12.length : Int)) :: I t13 :: bt 16 (.c (.sl (row22.map c3)) :: I ((row22.length : Int)) :: I t28 :: bt 7 (.c (.sl (e35.map c3)) :: I ((e35.length : Int)) :: I t36 :: bt 22 [])))), [(416, .arr 3 1 (l37.map c3)), (72, .arr 47 1 (l14.map c47)), (264, .arr 47 1 (y12.map c47))]⟩) ?_ ?_
               ·refine XR 1 ?_
                refine L0 rfl rfl (Y0_idxM (c := c3) (xs := e35) (v := e41) (n := t36) Try.underlying47 sz3 rfl (by kernel_rfl) (by kernel_rfl) he41) ?_
                exact XE
               obtain ⟨e42, he42, h⟩ := of_bind h
               obtain ⟨e43, he43, h⟩ := of_bind h
               obtain ⟨e44, he44, h⟩ := of_bind h
               obtain ⟨e45, he45, h⟩ := of_bind h
               refine V_reg (mb 88 64626654755845878532) [416, 72, 264] (s1 := ⟨.bot :: .bot :: I k3 :: bt 5 (.ow 264 :: .ow 72 :: .bot :: .bot :: I vn23 :: .ow 416 :: .bot :: I e33 :: bt 19 (I ((y12.length : Int)) :: I t13 :: bt 16 (.c (.sl (row22.map c3)) :: I ((row22.length : Int)) :: I t28 :: bt 7 (.c (.sl (e35.map c3)) :: I ((e35.length : Int)) :: I t36 :: bt 22 [])))), [(416, .arr 3 1 ((l37.set (Int.toNat (t36)) (w64 (e43 + (w64 (e33 * e41))))).map c3)), (72, .arr 47 1 (l14.map c47)), (264, .arr 47 1 (y12.map c47))]⟩) ?_ ?_
               ·refine XR 2 ?_
                refine L0 rfl rfl (Y0_idxoM (c := c3) (xs := l37) (v := e42) (id := 416) (T := 3) (sz := 1) (n := t36) Try.underlying47 sz3 rfl (by kernel_rfl) (by kernel_rfl) (by kernel_rfl) he42) ?_
                refine L0 rfl rfl (Y0_loado1 (c := c3) (xs := l37) (v := e43) (id := 416) (sz := 1) (T := 3) (off := 0) (n := t36) (d := Ti e43) (ds := []) sc3 rfl (by kernel_rfl) (by kernel_rfl) he43 (by kernel_rfl)) ?_
                refine XR 4 ?_
                refine L0 rfl rfl (Y0_idxoM (c := c3) (xs := l37) (v := e44) (id := 416) (T := 3) (sz := 1) (n := t36) Try.underlying47 sz3 rfl (by kernel_rfl) (by kernel_rfl) (by kernel_rfl) he44) ?_
                refine XL_cons rfl (X_storeoM (c := c3) (xs := l37) (v := e45) (u := w64 (e43 + (w64 (e33 * e41)))) (id := 416) (sz := 1) (off := 0) (T0 := 3) (n := t36) (vc := [Ti (w64 (e43 + (w64 (e33 * e41))))]) rfl rfl (by kernel_rfl) (by kernel_rfl) he45 (by kernel_rfl) sz3 (Nat.le_of_ble_eq_true rfl) (by kernel_rfl)) ?_
                exact XE
               show V _ _ _ _
               obtain ⟨t46, ht46, h⟩ := of_sI h
               refine V_reg (mb 88 64626654755845878532) [416, 72, 264] (s1 := ⟨.bot :: .bot :: I k3 :: bt 5 (.ow 264 :: .ow 72 :: .bot :: .bot :: I vn23 :: .ow 416 :: .bot :: I e33 :: bt 19 (I ((y12.length : Int)) :: I t13 :: bt 16 (.c (.sl (row22.map c3)) :: I ((row22.length : Int)) :: I t28 :: bt 7 (.c (.sl (e35.map c3)) :: I ((e35.length : Int)) :: I t46 :: bt 22 [])))), [(416, .arr 3 1 ((l37.set (Int.toNat (t36)) (w64 (e43 + (w64 (e33 * e41))))).map c3)), (72, .arr 47 1 (l14.map c47)), (264, .arr 47 1 (y12.map c47))]⟩) ?_ ?_
               ·refine XR 2 ?_
                refine XL_nil ?_
                subst ht46
                kernel_rfl
               exact ⟨n, Nat.lt_succ_self n, _, _,  by rfl, h⟩
              ·have h := of_false h hc40
               refine V_exit ?_
               obtain rfl := some_inj h
               show St.keep _ _ _ = _
               rfl
            show V _ _ _ _
            obtain ⟨t47, ht47, h⟩ := of_sI h
            refine V_reg (mb 88 63050497862415108) [416, 72, 264] (s1 := ⟨.bot :: .bot :: I k3 :: bt 5 (.ow 264 :: .ow 72 :: .bot :: .bot :: I vn23 :: .ow 416 :: bt 21 (I ((y12.length : Int)) :: I t13 :: bt 16 (.c (.sl (row22.map c3)) :: I ((row22.length : Int)) :: I t47 :: bt 32 []))), [(416, .arr 3 1 (o39.map c3)), (72, .arr 47 1 (l14.map c47)), (264, .arr 47 1 (y12.map c47))]⟩) ?_ ?_
            ·refine XR 2 ?_
             refine XL_nil ?_
             subst ht47
             kernel_rfl
            exact ⟨n, Nat.lt_succ_self n, _, _,  by rfl, h⟩
           ·have h := of_false h hc32
            refine V_exit ?_
            obtain rfl := some_inj h
            show St.keep _ _ _ = _
            rfl
         show V _ _ _ _
         refine V_freeze 416 (T := 3) (sz := 1) (els := o31.map c3) (s1 := ⟨.bot :: .bot :: I k3 :: bt 5 (.ow 264 :: .ow 72 :: .bot :: .bot :: I vn23 :: .c (.sl (o31.map c3)) :: bt 21 (I ((y12.length : Int)) :: I t13 :: bt 51 [])), [(72, .arr 47 1 (l14.map c47)), (264, .arr 47 1 (y12.map c47))]⟩) (by kernel_rfl) (by kernel_rfl) ?_
         refine V_reg (mb 88 103079222020) [72, 264] (s1 := ⟨.bot :: .bot :: I k3 :: bt 5 (.ow 264 :: .ow 72 :: .bot :: .c (.sl (o31.map c3)) :: I vn23 :: bt 22 (I ((y12.length : Int)) :: I t13 :: bt 51 [])), [(72, .arr 47 1 (l14.map c47)), (264, .arr 47 1 (y12.map c47))]⟩) ?_ ?_
         ·exact XE
         show V _ _ _ _
         obtain ⟨vn48, hvn48, h⟩ := of_sI h
         refine V_reg (mb 88 103079222020) [72, 264] (s1 := ⟨.bot :: .bot :: I k3 :: bt 5 (.ow 264 :: .ow 72 :: .bot :: .c (.sl (o31.map c3)) :: I vn48 :: bt 22 (I ((y12.length : Int)) :: I t13 :: bt 51 [])), [(72, .arr 47 1 (l14.map c47)), (264, .arr 47 1 (y12.map c47))]⟩) ?_ ?_
         ·refine XR 3 ?_
          refine XL_nil ?_
          subst hvn48
          kernel_rfl
         exact ⟨n, Nat.lt_succ_self n, _, _,  by rfl, h⟩
        ·have h := of_false h hc26
         refine V_exit ?_
         obtain rfl := some_inj h
         show St.keep _ _ _ = _
         rfl
      show V _ _ _ _
      obtain ⟨u49, hu49, h⟩ := of_bind h
      refine V_reg (mb 88 103079215876) [72, 264] (s1 := ⟨.bot :: .bot :: I k3 :: bt 5 (.ow 264 :: .ow 72 :: bt 25 (I ((y12.length : Int)) :: I t13 :: bt 51 [])), [(72, .arr 47 1 ((l14 ++ ([o25])).map c47)), (264, .arr 47 1 (y12.map c47))]⟩) ?_ ?_
      ·refine XR 2 ?_
       refine L1 rfl rfl (Y1_bslice (z := zv47) (els := [o25].map c47) Try.underlying39 iz47 rfl (by decide) rfl (by kernel_rfl) rfl (by simp [c47]) (by decide) (by decide)) ?_
       refine XL_cons rfl (X_appendM (c := c47) (xs := l14) (ys := [o25]) (id := 72) (z := zv47) rfl rfl Try.underlying39 izb47 rfl (by kernel_rfl) (by kernel_rfl) (by kernel_rfl) (fun _ => rfl) (by simp) (room_some hu49) (by decide)) ?_
       exact XE
      show V _ _ _ _
      obtain ⟨t50, ht50, h⟩ := of_sI h
      refine V_reg (mb 88 103079215876) [72, 264] (s1 := ⟨.bot :: .bot :: I k3 :: bt 5 (.ow 264 :: .ow 72 :: bt 25 (I ((y12.length : Int)) :: I t50 :: bt 51 [])), [(72, .arr 47 1 ((l14 ++ ([o25])).map c47)), (264, .arr 47 1 (y12.map c47))]⟩) ?_ ?_
      ·refine XR 2 ?_
       refine XL_nil ?_
       subst ht50
       kernel_rfl
      exact ⟨n, Nat.lt_succ_self n, _, _,  by rfl, h⟩
     ·have h := of_false h hc17
      refine V_exit ?_
      obtain rfl := some_inj h
      show St.keep _ _ _ = _
      rfl
   show V _ _ _ _
   refine V_e (mb 88 192) [72] (s1 := ⟨bt 6 (.ow 72 :: Bo true :: bt 80 []), [(72, .arr 47 1 (o16.map c47))]⟩) ?_
   refine V_ret ?_
   obtain rfl := some_inj h
   show Post _ _ _ _ _
   exact ⟨.inr rfl, rfl, rfl, rfl⟩
theorem cf_laws_sameInts : ∀ args w, (callFunc 28 args).run Try.prog w = .ok (.enter 28 args) w := run_callFunc Try.func28 (by kernel_rfl) (by kernel_rfl)
theorem s_laws_sameInts {a1 : List Int} {b2 : List Int} {r : Bool} (h : r_laws_sameInts a1 b2 = some r) : CallS Try.prog 28 [.c (.sl (a1.map c3)), .c (.sl (b2.map c3))] (Bo r) [] := by
  refine CallS_of_text (rs := [.t 4]) (vs := [.tmp 4]) Try.func28 rfl rfl (.cons rfl FitsL.nil) (by decide) 26 rfl ?_
  unfold r_laws_sameInts at h
  show V _ _ ⟨.c (.sl (a1.map c3)) :: .c (.sl (b2.map c3)) :: bt 24 [], []⟩ _
  refine V_e (mb 26 3) [] (s1 := ⟨.c (.sl (a1.map c3)) :: .c (.sl (b2.map c3)) :: bt 24 [], []⟩) ?_
  refine V_seq ?_
  refine V_sreg (mb 26 1027) [] (s1 := ⟨.c (.sl (a1.map c3)) :: .c (.sl (b2.map c3)) :: bt 8 (Bo (!eqI ((a1.length : Int)) ((b2.length : Int))) :: bt 15 []), []⟩) ?_ ?_
  ·refine XR 1 ?_
   refine L0 rfl rfl (Y0_lenM (c := c3) (xs := a1) Try.underlying47 rfl (by kernel_rfl)) ?_
   refine XR 1 ?_
   refine L0 rfl rfl (Y0_lenM (c := c3) (xs := b2) Try.underlying47 rfl (by kernel_rfl)) ?_
   exact XE
  refine V_cond rfl (fun hc3 => ?_) (fun hc3 => ?_)
  ·have h := of_true h hc3
   refine V_e (mb 26 16) [] (s1 := ⟨bt 4 (Bo false :: bt 21 []), []⟩) ?_
   refine V_ret ?_
   obtain rfl := some_inj h
   show Post _ _ _ _ _
   exact ⟨.inr rfl, rfl, rfl, rfl⟩
  ·have h := of_false h hc3
   refine V_skip ?_
   show V _ _ _ _
   refine V_seq ?_
   refine V_sreg (mb 26 12291) [] (s1 := ⟨.c (.sl (a1.map c3)) :: .c (.sl (b2.map c3)) :: bt 10 (I ((a1.length : Int)) :: I 0 :: bt 12 []), []⟩) ?_ ?_
   ·refine XR 1 ?_
    refine L0 rfl rfl (Y0_lenM (c := c3) (xs := a1) Try.underlying47 rfl (by kernel_rfl)) ?_
    exact XE
   obtain ⟨qo6, hLo6, hko6⟩ := of_bind h
   refine V_toS (q := qo6) (S := fun o6 => ⟨bt 26 [], []⟩) (mb 26 0) [] ?_ ?_
   ·refine V_block (V_loop (fun n s => ∃ (t4 : Int), s.keep (mb 26 12291) [] = (⟨.c (.sl (a1.map c3)) :: .c (.sl (b2.map c3)) :: bt 10 (I ((a1.length : Int)) :: I t4 :: bt 12 []), []⟩ : St) ∧ r_laws_sameInts_L5 a1 b2 n t4 = some qo6) FU ⟨_,  by rfl, hLo6⟩ ?_)
    clear hLo6
    rintro n s ⟨t4, hs, h⟩
    refine V_keep _ _ hs ?_
    clear hs
    cases n with
    | zero => cases h
    | succ n =>
     rw [r_laws_sameInts_L5] at h
     refine V_e (mb 26 28675) [] (s1 := ⟨.c (.sl (a1.map c3)) :: .c (.sl (b2.map c3)) :: bt 10 (I ((a1.length : Int)) :: I t4 :: Bo (ltI t4 ((a1.length : Int))) :: bt 11 []), []⟩) ?_
     refine V_seq ?_
     refine V_cond rfl (fun hc7 => ?_) (fun hc7 => ?_)
     ·have h := of_true h hc7
      refine V_skip ?_
      show V _ _ _ _
      refine V_seq ?_
      refine V_block ?_
      refine V_e (mb 26 12323) [] (s1 := ⟨.c (.sl (a1.map c3)) :: .c (.sl (b2.map c3)) :: bt 3 (I t4 :: bt 6 (I ((a1.length : Int)) :: I t4 :: bt 12 [])), []⟩) ?_
      obtain ⟨e8, he8, h⟩ := of_bind h
      obtain ⟨e9, he9, h⟩ := of_bind h
      refine V_sdreg [0, 0, 3, 7, 0, 0, 48, 112, 255] 9 (cdm 9 [43528, 43522, 43525, 43541, 2218, 682, 1450, 5546, 21845]) (mb 26 16789507) [] (s1 := ⟨.c (.sl (a1.map c3)) :: .c (.sl (b2.map c3)) :: bt 10 (I ((a1.length : Int)) :: I t4 :: bt 10 (Bo (!eqI e8 e9) :: .bot :: [])), []⟩) (by kernel_rfl) (by kernel_rfl) ?_ ?_
      ·refine DR 2 ?_
       refine DE_0 2 (.pe [Ti e8]) (by kernel_rfl) rfl rfl rfl (gsat_none rfl) (by kernel_rfl) (Y0_idxM (c := c3) (xs := a1) (v := e8) (n := t4) Try.underlying47 sz3 rfl (by kernel_rfl) (by kernel_rfl) he8) 18 rfl ?_
       refine DR 3 ?_
       refine DE_0 6 (.pe [Ti e9]) (by kernel_rfl) rfl rfl rfl (gsat_none rfl) (by kernel_rfl) (Y0_idxM (c := c3) (xs := b2) (v := e9) (n := t4) Try.underlying47 sz3 rfl (by kernel_rfl) (by kernel_rfl) he9) 22 rfl ?_
       refine DA 2 ?_
       exact XE
      refine V_cond rfl (fun hc10 => ?_) (fun hc10 => ?_)
      ·have h := of_true h hc10
       refine V_e (mb 26 16) [] (s1 := ⟨bt 4 (Bo false :: bt 21 []), []⟩) ?_
       refine V_ret ?_
       obtain rfl := some_inj h
       have h := hko6
       obtain rfl := some_inj h
       show Post _ _ _ _ _
       exact ⟨.inr rfl, rfl, rfl, rfl⟩
      ·have h := of_false h hc10
       refine V_skip ?_
       show V _ _ _ _
       obtain ⟨t11, ht11, h⟩ := of_sI h
       refine V_reg (mb 26 12291) [] (s1 := ⟨.c (.sl (a1.map c3)) :: .c (.sl (b2.map c3)) :: bt 10 (I ((a1.length : Int)) :: I t11 :: bt 12 []), []⟩) ?_ ?_
       ·refine XR 2 ?_
        refine XL_nil ?_
        subst ht11
        kernel_rfl
       exact ⟨n, Nat.lt_succ_self n, _,  by rfl, h⟩
     ·have h := of_false h hc7
      refine V_exit ?_
      obtain rfl := some_inj h
      exact ⟨_, rfl, by rfl⟩
   rintro o6 rfl
   have h := hko6
   clear hko6
   show V _ _ _ _
   refine V_e (mb 26 16) [] (s1 := ⟨bt 4 (Bo true :: bt 21 []), []⟩) ?_
   refine V_ret ?_
   obtain rfl := some_inj h
   show Post _ _ _ _ _
   exact ⟨.inr rfl, rfl, rfl, rfl⟩
theorem cf_laws_sameLists : ∀ args w, (callFunc 18 args).run Try.prog w = .ok (.enter 18 args) w := run_callFunc Try.func18 (by kernel_rfl) (by kernel_rfl)
theorem s_laws_sameLists {a1 : List (List Int)} {b2 : List (List Int)} {r : Bool} (h : r_laws_sameLists a1 b2 = some r) : CallS Try.prog 18 [.c (.sl (a1.map c47)), .c (.sl (b2.map c47))] (Bo r) [] := by
  refine CallS_of_text (rs := [.t 4]) (vs := [.tmp 4]) Try.func18 rfl rfl (.cons rfl FitsL.nil) (by decide) 27 rfl ?_
  unfold r_laws_sameLists at h
  show V _ _ ⟨.c (.sl (a1.map c47)) :: .c (.sl (b2.map c47)) :: bt 25 [], []⟩ _
  refine V_e (mb 27 3) [] (s1 := ⟨.c (.sl (a1.map c47)) :: .c (.sl (b2.map c47)) :: bt 25 [], []⟩) ?_
  refine V_seq ?_
  refine V_sreg (mb 27 1027) [] (s1 := ⟨.c (.sl (a1.map c47)) :: .c (.sl (b2.map c47)) :: bt 8 (Bo (!eqI ((a1.length : Int)) ((b2.length : Int))) :: bt 16 []), []⟩) ?_ ?_
  ·refine XR 1 ?_
   refine L0 rfl rfl (Y0_lenM (c := c47) (xs := a1) Try.underlying39 rfl (by kernel_rfl)) ?_
   refine XR 1 ?_
   refine L0 rfl rfl (Y0_lenM (c := c47) (xs := b2) Try.underlying39 rfl (by kernel_rfl)) ?_
   exact XE
  refine V_cond rfl (fun hc3 => ?_) (fun hc3 => ?_)
  ·have h := of_true h hc3
   refine V_e (mb 27 16) [] (s1 := ⟨bt 4 (Bo false :: bt 22 []), []⟩) ?_
   refine V_ret ?_
   obtain rfl := some_inj h
   show Post _ _ _ _ _
   exact ⟨.inr rfl, rfl, rfl, rfl⟩
  ·have h := of_false h hc3
   refine V_skip ?_
   show V _ _ _ _
   refine V_seq ?_
   refine V_sreg (mb 27 12291) [] (s1 := ⟨.c (.sl (a1.map c47)) :: .c (.sl (b2.map c47)) :: bt 10 (I ((a1.length : Int)) :: I 0 :: bt 13 []), []⟩) ?_ ?_
   ·refine XR 1 ?_
    refine L0 rfl rfl (Y0_lenM (c := c47) (xs := a1) Try.underlying39 rfl (by kernel_rfl)) ?_
    exact XE
   obtain ⟨qo6, hLo6, hko6⟩ := of_bind h
   refine V_toS (q := qo6) (S := fun o6 => ⟨bt 27 [], []⟩) (mb 27 0) [] ?_ ?_
   ·refine V_block (V_loop (fun n s => ∃ (t4 : Int), s.keep (mb 27 12291) [] = (⟨.c (.sl (a1.map c47)) :: .c (.sl (b2.map c47)) :: bt 10 (I ((a1.length : Int)) :: I t4 :: bt 13 []), []⟩ : St) ∧ r_laws_sameLists_L5 a1 b2 n t4 = some qo6) FU ⟨_,  by rfl, hLo6⟩ ?_)
    clear hLo6
    rintro n s ⟨t4, hs, h⟩
    refine V_keep _ _ hs ?_
    clear hs
    cases n with
    | zero => cases h
    | succ n =>
     rw [r_laws_sameLists_L5] at h
     refine V_e (mb 27 28675) [] (s1 := ⟨.c (.sl (a1.map c47)) :: .c (.sl (b2.map c47)) :: bt 10 (I ((a1.length : Int)) :: I t4 :: Bo (ltI t4 ((a1.length : Int))) :: bt 12 []), []⟩) ?_
     refine V_seq ?_
     refine V_cond rfl (fun hc7 => ?_) (fun hc7 => ?_)
     ·have h := of_true h hc7
      refine V_skip ?_
      show V _ _ _ _
      refine V_seq ?_
      refine V_block ?_
      refine V_e (mb 27 12323) [] (s1 := ⟨.c (.sl (a1.map c47)) :: .c (.sl (b2.map c47)) :: bt 3 (I t4 :: bt 6 (I ((a1.length : Int)) :: I t4 :: bt 13 [])), []⟩) ?_
      obtain ⟨e8, he8, h⟩ := of_bind h
      obtain ⟨e9, he9, h⟩ := of_bind h
      obtain ⟨y10, hy10, h⟩ := of_bind h
      refine V_sdreg [0, 0, 3, 7, 0, 0, 48, 112, 255, 511] 10 (cdm 10 [43528, 43522, 43525, 43541, 2218, 682, 1450, 5546, 21845, 87381]) (mb 27 33566723) [] (s1 := ⟨.c (.sl (a1.map c47)) :: .c (.sl (b2.map c47)) :: bt 10 (I ((a1.length : Int)) :: I t4 :: bt 11 (Bo (!y10) :: .bot :: [])), []⟩) (by kernel_rfl) (by kernel_rfl) ?_ ?_
      ·refine DR 2 ?_
       refine DE_0 2 (.pe [.sl (e8.map c3)]) (by kernel_rfl) rfl rfl rfl (gsat_none rfl) (by kernel_rfl) (Y0_idxM (c := c47) (xs := a1) (v := e8) (n := t4) Try.underlying39 sz47 rfl (by kernel_rfl) (by kernel_rfl) he8) 18 rfl ?_
       refine DR 3 ?_
       refine DE_0 6 (.pe [.sl (e9.map c3)]) (by kernel_rfl) rfl rfl rfl (gsat_none rfl) (by kernel_rfl) (Y0_idxM (c := c47) (xs := b2) (v := e9) (n := t4) Try.underlying39 sz47 rfl (by kernel_rfl) (by kernel_rfl) he9) 22 rfl ?_
       refine DR 1 ?_
       refine DC 8 (s_laws_sameInts hy10) cf_laws_sameInts rfl rfl rfl rfl 24 rfl ?_
       refine DA 1 ?_
       exact XE
      refine V_cond rfl (fun hc11 => ?_) (fun hc11 => ?_)
      ·have h := of_true h hc11
       refine V_e (mb 27 16) [] (s1 := ⟨bt 4 (Bo false :: bt 22 []), []⟩) ?_
       refine V_ret ?_
       obtain rfl := some_inj h
       have h := hko6
       obtain rfl := some_inj h
       show Post _ _ _ _ _
       exact ⟨.inr rfl, rfl, rfl, rfl⟩
      ·have h := of_false h hc11
       refine V_skip ?_
       show V _ _ _ _
       obtain ⟨t12, ht12, h⟩ := of_sI h
       refine V_reg (mb 27 12291) [] (s1 := ⟨.c (.sl (a1.map c47)) :: .c (.sl (b2.map c47)) :: bt 10 (I ((a1.length : Int)) :: I t12 :: bt 13 []), []⟩) ?_ ?_
       ·refine XR 2 ?_
        refine XL_nil ?_
        subst ht12
        kernel_rfl
       exact ⟨n, Nat.lt_succ_self n, _,  by rfl, h⟩
     ·have h := of_false h hc7
      refine V_exit ?_
      obtain rfl := some_inj h
      exact ⟨_, rfl, by rfl⟩
   rintro o6 rfl
   have h := hko6
   clear hko6
   show V _ _ _ _
   refine V_e (mb 27 16) [] (s1 := ⟨bt 4 (Bo true :: bt 22 []), []⟩) ?_
   refine V_ret ?_
   obtain rfl := some_inj h
   show Post _ _ _ _ _
   exact ⟨.inr rfl, rfl, rfl, rfl⟩
theorem cf_impl_NeighbourMatrix : ∀ args w, (callFunc 19 args).run Try.prog w = .ok (.enter 19 args) w := run_callFunc Try.func19 (by kernel_rfl) (by kernel_rfl)
theorem s_impl_NeighbourMatrix {d1 : Int} {p2 : Int} {r : ((List (List Int)) × Bool)} (h : r_impl_NeighbourMatrix d1 p2 = some r) : CallS Try.prog 19 [I d1, I p2] (.tc (.ow 0) (.tc (Bo r.2) .tn)) [(0, .arr 47 1 (r.1.map c47))] := by
  refine CallS_of_text (rs := [.t 4, .t 5]) (vs := [.tmp 4, .tmp 5]) Try.func19 rfl rfl (.cons rfl (.cons rfl FitsL.nil)) (by decide) 18 rfl ?_
  unfold r_impl_NeighbourMatrix at h
  show V _ _ ⟨I d1 :: I p2 :: bt 16 [], []⟩ _
  refine V_sreg (mb 18 3) [] (s1 := ⟨I d1 :: I p2 :: bt 16 [], []⟩) ?_ ?_
  ·refine L1 rfl rfl (Y1_nil (e := 47) 1 (by decide) (.inl rfl)) ?_
   exact XE
  refine V_seq ?_
  obtain ⟨y3, hy3, h⟩ := of_bind h
  obtain ⟨b6, hb6, h⟩ := of_bind h
  refine V_sreg (mb 18 8195) [] (s1 := ⟨I d1 :: I p2 :: bt 11 (Bo b6 :: bt 4 []), []⟩) ?_ ?_
  ·refine XR 1 ?_
   refine XC (s_impl_isNegativeDisc hy3) cf_impl_isNegativeDisc rfl rfl rfl ?_
   refine XR 2 ?_
   refine XL_split (!y3) (fun hc4 => ?_) (fun hc4 => ?_)
   ·have hb6 := some_inj (of_true hb6 hc4)
    refine XL_skipF _ rfl rfl (by kernel_rfl) hc4 rfl ?_
    refine XL_skipF _ rfl rfl (by kernel_rfl) hc4 rfl ?_
    refine XL_skipF _ rfl rfl (by kernel_rfl) hc4 rfl ?_
    refine XL_cons rfl (X_of_Y0 rfl (Y0_pickTe (b := !y3) (p := true) rfl (by kernel_rfl) hc4 (by kernel_rfl) hb6)) ?_
    exact XE
   ·have hb6 := of_false hb6 hc4
    obtain ⟨y5, hy5, hb6⟩ := of_bind hb6
    have hb6 := some_inj hb6
    refine XL_takeC _ rfl rfl (by kernel_rfl) hc4 (X_of_Y0 rfl (E_move (I p2) rfl (by kernel_rfl))) ?_
    refine XL_takeC _ rfl rfl (by kernel_rfl) hc4 (X_of_Y1 rfl (Y1_call (s_impl_isIndex hy5) cf_impl_isIndex rfl (by kernel_rfl))) ?_
    refine XL_takeC _ rfl rfl (by kernel_rfl) hc4 (X_of_Y0 rfl (Y0_not (b := y5) rfl (by kernel_rfl))) ?_
    refine XL_cons rfl (X_of_Y0 rfl (Y0_pickFe (b := !y3) (p := !y5) rfl (by kernel_rfl) hc4 (by kernel_rfl) hb6)) ?_
    exact XE
  refine V_cond rfl (fun hc7 => ?_) (fun hc7 => ?_)
  ·have h := of_true h hc7
   refine V_sreg (mb 18 48) [112] (s1 := ⟨bt 4 (.ow 112 :: Bo false :: bt 12 []), [(112, .arr 47 1 ((([] : List (List Int))).map c47))]⟩) ?_ ?_
   ·refine L1 rfl rfl (Y1_bslice0 Try.underlying39 sz47 (by decide) rfl rfl) ?_
    exact XE
   refine V_ret ?_
   obtain rfl := some_inj h
   show Post _ _ _ _ _
   exact ⟨.inr rfl, rfl, rfl, rfl⟩
  ·have h := of_false h hc7
   refine V_skip ?_
   show V _ _ _ _
   obtain ⟨y8, hy8, h⟩ := of_bind h
   refine V_sreg (mb 18 48) [136] (s1 := ⟨bt 4 (.ow 136 :: Bo true :: bt 12 []), [(136, .arr 47 1 (y8.map c47))]⟩) ?_ ?_
   ·refine XR 2 ?_
    refine XC (s_impl_neighbourMatrix hy8) cf_impl_neighbourMatrix rfl rfl rfl ?_
    exact XE
   refine V_ret ?_
   obtain rfl := some_inj h
   show Post _ _ _ _ _
   exact ⟨.inr rfl, rfl, rfl, rfl⟩
theorem cf_impl_ReducedForms : ∀ args w, (callFunc 20 args).run Try.prog w = .ok (.enter 20 args) w := run_callFunc Try.func20 (by kernel_rfl) (by kernel_rfl)
theorem s_impl_ReducedForms {d1 : Int} {r : ((List ((Int × Int × Int))) × Bool)} (h : r_impl_ReducedForms d1 = some r) : CallS Try.prog 20 [I d1] (.tc (.ow 0) (.tc (Bo r.2) .tn)) [(0, .arr 25 3 (r.1.map c25))] := by
  refine CallS_of_text (rs := [.t 2, .t 3]) (vs := [.tmp 2, .tmp 3]) Try.func20 rfl rfl (.cons rfl (.cons rfl FitsL.nil)) (by decide) 10 rfl ?_
  unfold r_impl_ReducedForms at h
  show V _ _ ⟨I d1 :: bt 9 [], []⟩ _
  refine V_sreg (mb 10 1) [] (s1 := ⟨I d1 :: bt 9 [], []⟩) ?_ ?_
  ·refine L1 rfl rfl (Y1_nil (e := 25) 3 (by decide) (.inl rfl)) ?_
   exact XE
  refine V_seq ?_
  obtain ⟨y2, hy2, h⟩ := of_bind h
  refine V_sreg (mb 10 65) [] (s1 := ⟨I d1 :: bt 5 (Bo (!y2) :: bt 3 []), []⟩) ?_ ?_
  ·refine XR 1 ?_
   refine XC (s_impl_isNegativeDisc hy2) cf_impl_isNegativeDisc rfl rfl rfl ?_
   exact XE
  refine V_cond rfl (fun hc3 => ?_) (fun hc3 => ?_)
  ·have h := of_true h hc3
   refine V_sreg (mb 10 12) [56] (s1 := ⟨.bot :: .bot :: .ow 56 :: Bo false :: bt 6 [], [(56, .arr 25 3 ((([] : List ((Int × Int × Int)))).map c25))]⟩) ?_ ?_
   ·refine L1 rfl rfl (Y1_bslice0 Try.underlying44 sz25 (by decide) rfl rfl) ?_
    exact XE
   refine V_ret ?_
   obtain rfl := some_inj h
   show Post _ _ _ _ _
   exact ⟨.inr rfl, rfl, rfl, rfl⟩
  ·have h := of_false h hc3
   refine V_skip ?_
   show V _ _ _ _
   obtain ⟨y4, hy4, h⟩ := of_bind h
   refine V_sreg (mb 10 12) [72] (s1 := ⟨.bot :: .bot :: .ow 72 :: Bo true :: bt 6 [], [(72, .arr 25 3 (y4.map c25))]⟩) ?_ ?_
   ·refine XR 1 ?_
    refine XC (s_impl_reducedForms hy4) cf_impl_reducedForms rfl rfl rfl ?_
    exact XE
   refine V_ret ?_
   obtain rfl := some_inj h
   show Post _ _ _ _ _
   exact ⟨.inr rfl, rfl, rfl, rfl⟩
theorem cf_laws_numberOf : ∀ args w, (callFunc 13 args).run Try.prog w = .ok (.enter 13 args) w := run_callFunc Try.func13 (by kernel_rfl) (by kernel_rfl)
theorem s_laws_numberOf {b1 : List Int} {r : Int} (h : r_laws_numberOf b1 = some r) : CallS Try.prog 13 [.c (.sl (b1.map c5))] (I r) [] := by
  refine CallS_of_text (rs := [.t 2]) (vs := [.tmp 2]) Try.func13 rfl rfl (.cons rfl FitsL.nil) (by decide) 20 rfl ?_
  unfold r_laws_numberOf at h
  show V _ _ ⟨.c (.sl (b1.map c5)) :: bt 19 [], []⟩ _
  refine V_e (mb 20 1) [] (s1 := ⟨.c (.sl (b1.map c5)) :: bt 19 [], []⟩) ?_
  refine V_e (mb 20 9) [] (s1 := ⟨.c (.sl (b1.map c5)) :: .bot :: .bot :: I 0 :: bt 16 [], []⟩) ?_
  refine V_seq ?_
  refine V_sreg (mb 20 456) [] (s1 := ⟨bt 3 (I 0 :: .bot :: .bot :: .c (.sl (b1.map c5)) :: I ((b1.length : Int)) :: I 0 :: bt 11 []), []⟩) ?_ ?_
  ·refine XR 1 ?_
   refine L0 rfl rfl (Y0_lenM (c := c5) (xs := b1) Try.underlying22 rfl (by kernel_rfl)) ?_
   exact XE
  obtain ⟨o5, hLo5, h⟩ := of_bind h
  refine V_toK (mb 20 8) [] (s1 := ⟨bt 3 (I o5 :: bt 16 []), []⟩) ?_ ?_
  ·clear h
   refine V_block (V_loop (fun n s => ∃ (vn2 : Int) (t3 : Int), s.keep (mb 20 456) [] = (⟨bt 3 (I vn2 :: .bot :: .bot :: .c (.sl (b1.map c5)) :: I ((b1.length : Int)) :: I t3 :: bt 11 []), []⟩ : St) ∧ r_laws_numberOf_L4 b1 n vn2 t3 = some o5) FU ⟨_, _,  by rfl, hLo5⟩ ?_)
   clear hLo5
   rintro n s ⟨vn2, t3, hs, h⟩
   refine V_keep _ _ hs ?_
   clear hs
   cases n with
   | zero => cases h
   | succ n =>
    rw [r_laws_numberOf_L4] at h
    refine V_e (mb 20 968) [] (s1 := ⟨bt 3 (I vn2 :: .bot :: .bot :: .c (.sl (b1.map c5)) :: I ((b1.length : Int)) :: I t3 :: Bo (ltI t3 ((b1.length : Int))) :: bt 10 []), []⟩) ?_
    refine V_seq ?_
    refine V_cond rfl (fun hc6 => ?_) (fun hc6 => ?_)
    ·have h := of_true h hc6
     refine V_skip ?_
     show V _ _ _ _
     refine V_seq ?_
     refine V_block ?_
     obtain ⟨e7, he7, h⟩ := of_bind h
     refine V_sreg (mb 20 488) [] (s1 := ⟨bt 3 (I vn2 :: .bot :: .c (.v (.int .u8 e7)) :: .c (.sl (b1.map c5)) :: I ((b1.length : Int)) :: I t3 :: bt 11 []), []⟩) ?_ ?_
     ·refine L0 rfl rfl (Y0_idxM (c := c5) (xs := b1) (v := e7) (n := t3) Try.underlying22 sz5 rfl (by kernel_rfl) (by kernel_rfl) he7) ?_
      exact XE
     obtain ⟨vn8, hvn8, h⟩ := of_sI h
     refine V_reg (mb 20 456) [] (s1 := ⟨bt 3 (I vn8 :: .bot :: .bot :: .c (.sl (b1.map c5)) :: I ((b1.length : Int)) :: I t3 :: bt 11 []), []⟩) ?_ ?_
     ·refine XR 3 ?_
      refine L0 rfl rfl (Y0_conv (k2 := .u8) (a := e7) Try.underlying5 Try.underlying3 rfl (by kernel_rfl)) ?_
      refine XR 1 ?_
      refine L0 rfl rfl (Y0_rem (k := .i64) (a := w64 ((w64 (31 * vn2)) + (IntKind.i64.wrap e7))) (b := 1000003) rfl (by kernel_rfl) (by kernel_rfl) (by decide)) ?_
      refine XR 1 ?_
      refine XL_nil ?_
      subst hvn8
      kernel_rfl
     show V _ _ _ _
     obtain ⟨t9, ht9, h⟩ := of_sI h
     refine V_reg (mb 20 456) [] (s1 := ⟨bt 3 (I vn8 :: .bot :: .bot :: .c (.sl (b1.map c5)) :: I ((b1.length : Int)) :: I t9 :: bt 11 []), []⟩) ?_ ?_
     ·refine XR 2 ?_
      refine XL_nil ?_
      subst ht9
      kernel_rfl
     exact ⟨n, Nat.lt_succ_self n, _, _,  by rfl, h⟩
    ·have h := of_false h hc6
     refine V_exit ?_
     obtain rfl := some_inj h
     show St.keep _ _ _ = _
     rfl
  show V _ _ _ _
  refine V_e (mb 20 4) [] (s1 := ⟨.bot :: .bot :: I o5 :: bt 17 [], []⟩) ?_
  refine V_ret ?_
  obtain rfl := some_inj h
  show Post _ _ _ _ _
  exact ⟨.inr rfl, rfl, rfl, rfl⟩
theorem cf_impl_areNumbers : ∀ args w, (callFunc 41 args).run Try.prog w = .ok (.enter 41 args) w := run_callFunc Try.func41 (by kernel_rfl) (by kernel_rfl)
theorem s_impl_areNumbers {list1 : List Int} {r : Bool} (h : r_impl_areNumbers list1 = some r) : CallS Try.prog 41 [.c (.sl (list1.map c3))] (Bo r) [] := by
  refine CallS_of_text (rs := [.t 2]) (vs := [.tmp 2]) Try.func41 rfl rfl (.cons rfl FitsL.nil) (by decide) 18 rfl ?_
  unfold r_impl_areNumbers at h
  show V _ _ ⟨.c (.sl (list1.map c3)) :: bt 17 [], []⟩ _
  refine V_e (mb 18 1) [] (s1 := ⟨.c (.sl (list1.map c3)) :: bt 17 [], []⟩) ?_
  refine V_seq ?_
  refine V_sreg (mb 18 224) [] (s1 := ⟨bt 5 (.c (.sl (list1.map c3)) :: I ((list1.length : Int)) :: I 0 :: bt 10 []), []⟩) ?_ ?_
  ·refine XR 1 ?_
   refine L0 rfl rfl (Y0_lenM (c := c3) (xs := list1) Try.underlying47 rfl (by kernel_rfl)) ?_
   exact XE
  obtain ⟨qo4, hLo4, hko4⟩ := of_bind h
  refine V_toS (q := qo4) (S := fun o4 => ⟨bt 18 [], []⟩) (mb 18 0) [] ?_ ?_
  ·refine V_block (V_loop (fun n s => ∃ (t2 : Int), s.keep (mb 18 224) [] = (⟨bt 5 (.c (.sl (list1.map c3)) :: I ((list1.length : Int)) :: I t2 :: bt 10 []), []⟩ : St) ∧ r_impl_areNumbers_L3 list1 n t2 = some qo4) FU ⟨_,  by rfl, hLo4⟩ ?_)
   clear hLo4
   rintro n s ⟨t2, hs, h⟩
   refine V_keep _ _ hs ?_
   clear hs
   cases n with
   | zero => cases h
   | succ n =>
    rw [r_impl_areNumbers_L3] at h
    refine V_e (mb 18 480) [] (s1 := ⟨bt 5 (.c (.sl (list1.map c3)) :: I ((list1.length : Int)) :: I t2 :: Bo (ltI t2 ((list1.length : Int))) :: bt 9 []), []⟩) ?_
    refine V_seq ?_
    refine V_cond rfl (fun hc5 => ?_) (fun hc5 => ?_)
    ·have h := of_true h hc5
     refine V_skip ?_
     show V _ _ _ _
     refine V_seq ?_
     refine V_block ?_
     obtain ⟨e6, he6, h⟩ := of_bind h
     refine V_sreg (mb 18 240) [] (s1 := ⟨bt 4 (I e6 :: .c (.sl (list1.map c3)) :: I ((list1.length : Int)) :: I t2 :: bt 10 []), []⟩) ?_ ?_
     ·refine L0 rfl rfl (Y0_idxM (c := c3) (xs := list1) (v := e6) (n := t2) Try.underlying47 sz3 rfl (by kernel_rfl) (by kernel_rfl) he6) ?_
      exact XE
     refine V_sreg (mb 18 65760) [] (s1 := ⟨bt 5 (.c (.sl (list1.map c3)) :: I ((list1.length : Int)) :: I t2 :: bt 8 (Bo (bif (ltI e6 (-1000000)) then true else (ltI 1000000 e6)) :: .bot :: [])), []⟩) ?_ ?_
     ·refine XR 3 ?_
      refine XL_split (ltI e6 (-1000000)) (fun hc7 => ?_) (fun hc7 => ?_)
      ·refine XL_skipF _ rfl rfl (by kernel_rfl) hc7 rfl ?_
       refine XL_skipF _ rfl rfl (by kernel_rfl) hc7 rfl ?_
       refine XL_cons rfl (X_of_Y0 rfl (Y0_pick1 (b := ltI e6 (-1000000)) (p := true) (q := ltI 1000000 e6) rfl (by kernel_rfl) hc7 (by kernel_rfl))) ?_
       exact XE
      ·refine XL_takeC _ rfl rfl (by kernel_rfl) hc7 (X_of_Y0 rfl (E_move (I e6) rfl (by kernel_rfl))) ?_
       refine XL_takeC _ rfl rfl (by kernel_rfl) hc7 (X_of_Y0 rfl (Y0_gtw (k := .i64) (a := e6) (b := 1000000) rfl (by kernel_rfl) (by kernel_rfl))) ?_
       refine XL_cons rfl (X_of_Y0 rfl (Y0_pick0 (b := ltI e6 (-1000000)) (p := true) (q := ltI 1000000 e6) rfl (by kernel_rfl) hc7 (by kernel_rfl))) ?_
       exact XE
     refine V_cond rfl (fun hc8 => ?_) (fun hc8 => ?_)
     ·have h := of_true h hc8
      refine V_e (mb 18 4) [] (s1 := ⟨.bot :: .bot :: Bo false :: bt 15 [], []⟩) ?_
      refine V_ret ?_
      obtain rfl := some_inj h
      have h := hko4
      obtain rfl := some_inj h
      show Post _ _ _ _ _
      exact ⟨.inr rfl, rfl, rfl, rfl⟩
     ·have h := of_false h hc8
      refine V_skip ?_
      show V _ _ _ _
      obtain ⟨t9, ht9, h⟩ := of_sI h
      refine V_reg (mb 18 224) [] (s1 := ⟨bt 5 (.c (.sl (list1.map c3)) :: I ((list1.length : Int)) :: I t9 :: bt 10 []), []⟩) ?_ ?_
      ·refine XR 2 ?_
       refine XL_nil ?_
       subst ht9
       kernel_rfl
      exact ⟨n, Nat.lt_succ_self n, _,  by rfl, h⟩
    ·have h := of_false h hc5
     refine V_exit ?_
     obtain rfl := some_inj h
     exact ⟨_, rfl, by rfl⟩
  rintro o4 rfl
  have h := hko4
  clear hko4
  show V _ _ _ _
  refine V_e (mb 18 4) [] (s1 := ⟨.bot :: .bot :: Bo true :: bt 15 [], []⟩) ?_
  refine V_ret ?_
  obtain rfl := some_inj h
  show Post _ _ _ _ _
  exact ⟨.inr rfl, rfl, rfl, rfl⟩
theorem cf_impl_IsForm : ∀ args w, (callFunc 74 args).run Try.prog w = .ok (.enter 74 args) w := run_callFunc Try.func74 (by kernel_rfl) (by kernel_rfl)
theorem s_impl_IsForm {f1 : (Int × Int × Int)} {r : Bool} (h : r_impl_IsForm f1 = some r) : CallS Try.prog 74 [.ag [Ti f1.1, Ti f1.2.1, Ti f1.2.2]] (Bo r) [] := by
  refine CallS_of_text (rs := [.t 2]) (vs := [.tmp 2]) Try.func74 rfl rfl (.cons rfl FitsL.nil) (by decide) 11 rfl ?_
  unfold r_impl_IsForm at h
  show V _ _ ⟨.ag [Ti f1.1, Ti f1.2.1, Ti f1.2.2] :: bt 10 [], []⟩ _
  refine V_e (mb 11 2) [8] (s1 := ⟨.bot :: .pt 8 0 :: bt 9 [], [(8, .box [Ti f1.1, Ti f1.2.1, Ti f1.2.2])]⟩) ?_
  obtain ⟨y2, hy2, h⟩ := of_bind h
  refine V_sreg (mb 11 4) [] (s1 := ⟨.bot :: .bot :: Bo y2 :: bt 8 [], []⟩) ?_ ?_
  ·refine XR 6 ?_
   refine L1 rfl rfl (Y1_bslice (z := zv3) (els := [f1.1, f1.2.1, f1.2.2].map c3) Try.underlying47 iz3 rfl (by decide) rfl (by kernel_rfl) rfl (by simp [c3]) (by decide) (by decide)) ?_
   refine L1 rfl rfl (Y1_callS (s_impl_areNumbers hy2) cf_impl_areNumbers rfl (by kernel_rfl) rfl rfl) ?_
   exact XE
  refine V_ret ?_
  obtain rfl := some_inj h
  show Post _ _ _ _ _
  exact ⟨.inr rfl, rfl, rfl, rfl⟩
theorem cf_impl_Form_disc : ∀ args w, (callFunc 77 args).run Try.prog w = .ok (.enter 77 args) w := run_callFunc Try.func77 (by kernel_rfl) (by kernel_rfl)
theorem s_impl_Form_disc {f1 : (Int × Int × Int)} {r : Int} (h : r_impl_Form_disc f1 = some r) : CallS Try.prog 77 [.ag [Ti f1.1, Ti f1.2.1, Ti f1.2.2]] (I r) [] := by
  refine CallS_of_text (rs := [.t 2]) (vs := [.tmp 2]) Try.func77 rfl rfl (.cons rfl FitsL.nil) (by decide) 15 rfl ?_
  unfold r_impl_Form_disc at h
  show V _ _ ⟨.ag [Ti f1.1, Ti f1.2.1, Ti f1.2.2] :: bt 14 [], []⟩ _
  refine V_e (mb 15 2) [8] (s1 := ⟨.bot :: .pt 8 0 :: bt 13 [], [(8, .box [Ti f1.1, Ti f1.2.1, Ti f1.2.2])]⟩) ?_
  obtain ⟨t2, ht2, h⟩ := of_sI h
  refine V_sreg (mb 15 4) [] (s1 := ⟨.bot :: .bot :: I t2 :: bt 12 [], []⟩) ?_ ?_
  ·refine XR 13 ?_
   refine XL_nil ?_
   subst ht2
   kernel_rfl
  refine V_ret ?_
  obtain rfl := some_inj h
  show Post _ _ _ _ _
  exact ⟨.inr rfl, rfl, rfl, rfl⟩
theorem cf_impl_isDefinite : ∀ args w, (callFunc 117 args).run Try.prog w = .ok (.enter 117 args) w := run_callFunc Try.func117 (by kernel_rfl) (by kernel_rfl)
theorem s_impl_isDefinite {f1 : (Int × Int × Int)} {r : Bool} (h : r_impl_isDefinite f1 = some r) : CallS Try.prog 117 [.ag [Ti f1.1, Ti f1.2.1, Ti f1.2.2]] (Bo r) [] := by
  refine CallS_of_text (rs := [.t 2]) (vs := [.tmp 2]) Try.func117 rfl rfl (.cons rfl FitsL.nil) (by decide) 15 rfl ?_
  unfold r_impl_isDefinite at h
  show V _ _ ⟨.ag [Ti f1.1, Ti f1.2.1, Ti f1.2.2] :: bt 14 [], []⟩ _
  refine V_e (mb 15 2) [8] (s1 := ⟨.bot :: .pt 8 0 :: bt 13 [], [(8, .box [Ti f1.1, Ti f1.2.1, Ti f1.2.2])]⟩) ?_
  obtain ⟨y2, hy2, h⟩ := of_bind h
  obtain ⟨b5, hb5, h⟩ := of_bind h
  refine V_sreg (mb 15 4) [] (s1 := ⟨.bot :: .bot :: Bo (bif b5 then (ltI 0 f1.1) else false) :: bt 12 [], []⟩) ?_ ?_
  ·refine XR 1 ?_
   refine XC (s_impl_IsForm hy2) cf_impl_IsForm rfl rfl rfl ?_
   refine XR 1 ?_
   refine XL_split y2 (fun hc3 => ?_) (fun hc3 => ?_)
   ·have hb5 := of_true hb5 hc3
    obtain ⟨y4, hy4, hb5⟩ := of_bind hb5
    have hb5 := some_inj hb5
    refine XL_takeC _ rfl rfl (by kernel_rfl) hc3 (X_of_Y0 rfl (E_loadn (cs := [Ti f1.1, Ti f1.2.1, Ti f1.2.2]) [Ti f1.1, Ti f1.2.1, Ti f1.2.2] wd25 rfl (by kernel_rfl) (Nat.le_of_ble_eq_true rfl) (by kernel_rfl))) ?_
    refine XL_takeC _ rfl rfl (by kernel_rfl) hc3 (X_of_Y1 rfl (Y1_call (s_impl_Form_disc hy4) cf_impl_Form_disc rfl (by kernel_rfl))) ?_
    refine XL_takeC _ rfl rfl (by kernel_rfl) hc3 (X_of_Y0 rfl (Y0_ltw (k := .i64) (a := y4) (b := 0) rfl (by kernel_rfl) (by kernel_rfl))) ?_
    refine XL_cons rfl (X_of_Y0 rfl (Y0_pickTe (b := y2) (p := ltI y4 0) rfl (by kernel_rfl) hc3 (by kernel_rfl) hb5)) ?_
    refine XR 1 ?_
    refine XL_split b5 (fun hc6 => ?_) (fun hc6 => ?_)
    ·refine XL_takeC _ rfl rfl (by kernel_rfl) hc6 (X_of_Y0 rfl (E_field (.pt 8 0) Try.underlying25 rfl sz3 rfl (by kernel_rfl) (by intro hh; cases hh))) ?_
     refine XL_takeC _ rfl rfl (by kernel_rfl) hc6 (X_of_Y0 rfl (Y0_load1 (c := Ti f1.1) (cs := [Ti f1.2.1, Ti f1.2.2]) sc3 rfl (by kernel_rfl))) ?_
     refine XL_takeC _ rfl rfl (by kernel_rfl) hc6 (X_of_Y0 rfl (Y0_gtw (k := .i64) (a := f1.1) (b := 0) rfl (by kernel_rfl) (by kernel_rfl))) ?_
     refine XL_cons rfl (X_of_Y0 rfl (Y0_pick1 (b := b5) (p := ltI 0 f1.1) (q := false) rfl (by kernel_rfl) hc6 (by kernel_rfl))) ?_
     exact XE
    ·refine XL_skipT _ rfl rfl (by kernel_rfl) hc6 rfl ?_
     refine XL_skipT _ rfl rfl (by kernel_rfl) hc6 rfl ?_
     refine XL_skipT _ rfl rfl (by kernel_rfl) hc6 rfl ?_
     refine XL_cons rfl (X_of_Y0 rfl (Y0_pick0 (b := b5) (p := ltI 0 f1.1) (q := false) rfl (by kernel_rfl) hc6 (by kernel_rfl))) ?_
     exact XE
   ·have hb5 := some_inj (of_false hb5 hc3)
    refine XL_skipT _ rfl rfl (by kernel_rfl) hc3 rfl ?_
    refine XL_skipT _ rfl rfl (by kernel_rfl) hc3 rfl ?_
    refine XL_skipT _ rfl rfl (by kernel_rfl) hc3 rfl ?_
    refine XL_cons rfl (X_of_Y0 rfl (Y0_pickFe (b := y2) (p := false) rfl (by kernel_rfl) hc3 (by kernel_rfl) hb5)) ?_
    refine XR 1 ?_
    refine XL_split b5 (fun hc6 => ?_) (fun hc6 => ?_)
    ·refine XL_takeC _ rfl rfl (by kernel_rfl) hc6 (X_of_Y0 rfl (E_field (.pt 8 0) Try.underlying25 rfl sz3 rfl (by kernel_rfl) (by intro hh; cases hh))) ?_
     refine XL_takeC _ rfl rfl (by kernel_rfl) hc6 (X_of_Y0 rfl (Y0_load1 (c := Ti f1.1) (cs := [Ti f1.2.1, Ti f1.2.2]) sc3 rfl (by kernel_rfl))) ?_
     refine XL_takeC _ rfl rfl (by kernel_rfl) hc6 (X_of_Y0 rfl (Y0_gtw (k := .i64) (a := f1.1) (b := 0) rfl (by kernel_rfl) (by kernel_rfl))) ?_
     refine XL_cons rfl (X_of_Y0 rfl (Y0_pick1 (b := b5) (p := ltI 0 f1.1) (q := false) rfl (by kernel_rfl) hc6 (by kernel_rfl))) ?_
     exact XE
    ·refine XL_skipT _ rfl rfl (by kernel_rfl) hc6 rfl ?_
     refine XL_skipT _ rfl rfl (by kernel_rfl) hc6 rfl ?_
     refine XL_skipT _ rfl rfl (by kernel_rfl) hc6 rfl ?_
     refine XL_cons rfl (X_of_Y0 rfl (Y0_pick0 (b := b5) (p := ltI 0 f1.1) (q := false) rfl (by kernel_rfl) hc6 (by kernel_rfl))) ?_
     exact XE
  refine V_ret ?_
  obtain rfl := some_inj h
  show Post _ _ _ _ _
  exact ⟨.inr rfl, rfl, rfl, rfl⟩
theorem cf_impl_isShownForm : ∀ args w, (callFunc 82 args).run Try.prog w = .ok (.enter 82 args) w := run_callFunc Try.func82 (by kernel_rfl) (by kernel_rfl)
theorem s_impl_isShownForm {f1 : (Int × Int × Int)} {r : Bool} (h : r_impl_isShownForm f1 = some r) : CallS Try.prog 82 [.ag [Ti f1.1, Ti f1.2.1, Ti f1.2.2]] (Bo r) [] := by
  refine CallS_of_text (rs := [.t 2]) (vs := [.tmp 2]) Try.func82 rfl rfl (.cons rfl FitsL.nil) (by decide) 10 rfl ?_
  unfold r_impl_isShownForm at h
  show V _ _ ⟨.ag [Ti f1.1, Ti f1.2.1, Ti f1.2.2] :: bt 9 [], []⟩ _
  refine V_e (mb 10 2) [8] (s1 := ⟨.bot :: .pt 8 0 :: bt 8 [], [(8, .box [Ti f1.1, Ti f1.2.1, Ti f1.2.2])]⟩) ?_
  obtain ⟨y2, hy2, h⟩ := of_bind h
  obtain ⟨b5, hb5, h⟩ := of_bind h
  refine V_sreg (mb 10 4) [] (s1 := ⟨.bot :: .bot :: Bo b5 :: bt 7 [], []⟩) ?_ ?_
  ·refine XR 1 ?_
   refine XC (s_impl_isDefinite hy2) cf_impl_isDefinite rfl rfl rfl ?_
   refine XR 1 ?_
   refine XL_split y2 (fun hc3 => ?_) (fun hc3 => ?_)
   ·have hb5 := of_true hb5 hc3
    obtain ⟨y4, hy4, hb5⟩ := of_bind hb5
    have hb5 := some_inj hb5
    refine XL_takeC _ rfl rfl (by kernel_rfl) hc3 (X_of_Y0 rfl (E_loadn (cs := [Ti f1.1, Ti f1.2.1, Ti f1.2.2]) [Ti f1.1, Ti f1.2.1, Ti f1.2.2] wd25 rfl (by kernel_rfl) (Nat.le_of_ble_eq_true rfl) (by kernel_rfl))) ?_
    refine XL_takeC _ rfl rfl (by kernel_rfl) hc3 (X_of_Y1 rfl (Y1_call (s_impl_Form_disc hy4) cf_impl_Form_disc rfl (by kernel_rfl))) ?_
    refine XL_takeC _ rfl rfl (by kernel_rfl) hc3 (X_of_Y0 rfl (Y0_gew (k := .i64) (a := y4) (b := -2000) rfl (by kernel_rfl) (by kernel_rfl))) ?_
    refine XL_cons rfl (X_of_Y0 rfl (Y0_pickTe (b := y2) (p := leI (-2000) y4) rfl (by kernel_rfl) hc3 (by kernel_rfl) hb5)) ?_
    exact XE
   ·have hb5 := some_inj (of_false hb5 hc3)
    refine XL_skipT _ rfl rfl (by kernel_rfl) hc3 rfl ?_
    refine XL_skipT _ rfl rfl (by kernel_rfl) hc3 rfl ?_
    refine XL_skipT _ rfl rfl (by kernel_rfl) hc3 rfl ?_
    refine XL_cons rfl (X_of_Y0 rfl (Y0_pickFe (b := y2) (p := false) rfl (by kernel_rfl) hc3 (by kernel_rfl) hb5)) ?_
    exact XE
  refine V_ret ?_
  obtain rfl := some_inj h
  show Post _ _ _ _ _
  exact ⟨.inr rfl, rfl, rfl, rfl⟩
theorem cf_impl_isClassForm : ∀ args w, (callFunc 36 args).run Try.prog w = .ok (.enter 36 args) w := run_callFunc Try.func36 (by kernel_rfl) (by kernel_rfl)
theorem s_impl_isClassForm {f1 : (Int × Int × Int)} {r : Bool} (h : r_impl_isClassForm f1 = some r) : CallS Try.prog 36 [.ag [Ti f1.1, Ti f1.2.1, Ti f1.2.2]] (Bo r) [] := by
  refine CallS_of_text (rs := [.t 2]) (vs := [.tmp 2]) Try.func36 rfl rfl (.cons rfl FitsL.nil) (by decide) 10 rfl ?_
  unfold r_impl_isClassForm at h
  show V _ _ ⟨.ag [Ti f1.1, Ti f1.2.1, Ti f1.2.2] :: bt 9 [], []⟩ _
  refine V_e (mb 10 2) [8] (s1 := ⟨.bot :: .pt 8 0 :: bt 8 [], [(8, .box [Ti f1.1, Ti f1.2.1, Ti f1.2.2])]⟩) ?_
  obtain ⟨y2, hy2, h⟩ := of_bind h
  obtain ⟨b5, hb5, h⟩ := of_bind h
  refine V_sreg (mb 10 4) [] (s1 := ⟨.bot :: .bot :: Bo b5 :: bt 7 [], []⟩) ?_ ?_
  ·refine XR 1 ?_
   refine XC (s_impl_isShownForm hy2) cf_impl_isShownForm rfl rfl rfl ?_
   refine XR 1 ?_
   refine XL_split y2 (fun hc3 => ?_) (fun hc3 => ?_)
   ·have hb5 := of_true hb5 hc3
    obtain ⟨y4, hy4, hb5⟩ := of_bind hb5
    have hb5 := some_inj hb5
    refine XL_takeC _ rfl rfl (by kernel_rfl) hc3 (X_of_Y0 rfl (E_loadn (cs := [Ti f1.1, Ti f1.2.1, Ti f1.2.2]) [Ti f1.1, Ti f1.2.1, Ti f1.2.2] wd25 rfl (by kernel_rfl) (Nat.le_of_ble_eq_true rfl) (by kernel_rfl))) ?_
    refine XL_takeC _ rfl rfl (by kernel_rfl) hc3 (X_of_Y1 rfl (Y1_call (s_impl_Form_content hy4) cf_impl_Form_content rfl (by kernel_rfl))) ?_
    refine XL_takeC _ rfl rfl (by kernel_rfl) hc3 (X_of_Y0 rfl (Y0_eqw (k := .i64) (a := y4) (b := 1) rfl (by kernel_rfl) (by kernel_rfl))) ?_
    refine XL_cons rfl (X_of_Y0 rfl (Y0_pickTe (b := y2) (p := eqI y4 1) rfl (by kernel_rfl) hc3 (by kernel_rfl) hb5)) ?_
    exact XE
   ·have hb5 := some_inj (of_false hb5 hc3)
    refine XL_skipT _ rfl rfl (by kernel_rfl) hc3 rfl ?_
    refine XL_skipT _ rfl rfl (by kernel_rfl) hc3 rfl ?_
    refine XL_skipT _ rfl rfl (by kernel_rfl) hc3 rfl ?_
    refine XL_cons rfl (X_of_Y0 rfl (Y0_pickFe (b := y2) (p := false) rfl (by kernel_rfl) hc3 (by kernel_rfl) hb5)) ?_
    exact XE
  refine V_ret ?_
  obtain rfl := some_inj h
  show Post _ _ _ _ _
  exact ⟨.inr rfl, rfl, rfl, rfl⟩
theorem cf_impl_arePair : ∀ args w, (callFunc 32 args).run Try.prog w = .ok (.enter 32 args) w := run_callFunc Try.func32 (by kernel_rfl) (by kernel_rfl)
theorem s_impl_arePair {f1 : (Int × Int × Int)} {g2 : (Int × Int × Int)} {r : Bool} (h : r_impl_arePair f1 g2 = some r) : CallS Try.prog 32 [.ag [Ti f1.1, Ti f1.2.1, Ti f1.2.2], .ag [Ti g2.1, Ti g2.2.1, Ti g2.2.2]] (Bo r) [] := by
  refine CallS_of_text (rs := [.t 4]) (vs := [.tmp 4]) Try.func32 rfl rfl (.cons rfl FitsL.nil) (by decide) 18 rfl ?_
  unfold r_impl_arePair at h
  show V _ _ ⟨.ag [Ti f1.1, Ti f1.2.1, Ti f1.2.2] :: .ag [Ti g2.1, Ti g2.2.1, Ti g2.2.2] :: bt 16 [], []⟩ _
  refine V_e (mb 18 12) [24, 16] (s1 := ⟨.bot :: .bot :: .pt 16 0 :: .pt 24 0 :: bt 14 [], [(24, .box [Ti g2.1, Ti g2.2.1, Ti g2.2.2]), (16, .box [Ti f1.1, Ti f1.2.1, Ti f1.2.2])]⟩) ?_
  obtain ⟨y3, hy3, h⟩ := of_bind h
  obtain ⟨b6, hb6, h⟩ := of_bind h
  obtain ⟨b10, hb10, h⟩ := of_bind h
  refine V_sdreg [0, 1, 3, 7, 15, 31, 63, 127, 255, 127, 1023, 2047, 4095, 8191] 14 (cdm 14 [0, 1, 5, 21, 85, 341, 1365, 529749, 546133, 169301, 349525, 1398101, 5592405, 22369621]) (mb 18 16) [] (s1 := ⟨bt 4 (Bo b10 :: bt 13 []), []⟩) (by kernel_rfl) (by kernel_rfl) ?_ ?_
  ·refine DR 1 ?_
   refine DC 1 (s_impl_isClassForm hy3) cf_impl_isClassForm rfl rfl rfl rfl 6 rfl ?_
   refine DR 1 ?_
   refine DL_split y3 (fun hc4 => ?_) (fun hc4 => ?_)
   ·have hb6 := of_true hb6 hc4
    obtain ⟨y5, hy5, hb6⟩ := of_bind hb6
    have hb6 := some_inj hb6
    refine DE_0 3 (.ag [Ti g2.1, Ti g2.2.1, Ti g2.2.2]) (by kernel_rfl) rfl rfl rfl (gsat_C (y3) rfl rfl (by kernel_rfl) hc4) (by kernel_rfl) (E_loadn (cs := [Ti g2.1, Ti g2.2.1, Ti g2.2.2]) [Ti g2.1, Ti g2.2.1, Ti g2.2.2] wd25 rfl (by kernel_rfl) (Nat.le_of_ble_eq_true rfl) (by kernel_rfl)) 8 rfl ?_
    refine DE_1 4 (by kernel_rfl) rfl rfl rfl (gsat_C (y3) rfl rfl (by kernel_rfl) hc4) (Y1_call (s_impl_isClassForm hy5) cf_impl_isClassForm rfl (by kernel_rfl)) rfl rfl rfl 9 rfl ?_
    refine DE_0 5 (Bo (b6)) (by kernel_rfl) rfl rfl rfl (gsat_none rfl) (by kernel_rfl) (Y0_pickTe (b := y3) (p := y5) rfl (by kernel_rfl) hc4 (by kernel_rfl) hb6) 10 rfl ?_
    refine DR 1 ?_
    refine DL_split b6 (fun hc7 => ?_) (fun hc7 => ?_)
    ·have hb10 := of_true hb10 hc7
     obtain ⟨y8, hy8, hb10⟩ := of_bind hb10
     obtain ⟨y9, hy9, hb10⟩ := of_bind hb10
     have hb10 := some_inj hb10
     refine DE_0 7 (.ag [Ti f1.1, Ti f1.2.1, Ti f1.2.2]) (by kernel_rfl) rfl rfl rfl (gsat_C (b6) rfl rfl (by kernel_rfl) hc7) (by kernel_rfl) (E_loadn (cs := [Ti f1.1, Ti f1.2.1, Ti f1.2.2]) [Ti f1.1, Ti f1.2.1, Ti f1.2.2] wd25 rfl (by kernel_rfl) (Nat.le_of_ble_eq_true rfl) (by kernel_rfl)) 12 rfl ?_
     refine DE_1 8 (by kernel_rfl) rfl rfl rfl (gsat_C (b6) rfl rfl (by kernel_rfl) hc7) (Y1_call (s_impl_Form_disc hy8) cf_impl_Form_disc rfl (by kernel_rfl)) rfl rfl rfl 13 rfl ?_
     refine DE_0 9 (.ag [Ti g2.1, Ti g2.2.1, Ti g2.2.2]) (by kernel_rfl) rfl rfl rfl (gsat_C (b6) rfl rfl (by kernel_rfl) hc7) (by kernel_rfl) (E_loadn (cs := [Ti g2.1, Ti g2.2.1, Ti g2.2.2]) [Ti g2.1, Ti g2.2.1, Ti g2.2.2] wd25 rfl (by kernel_rfl) (Nat.le_of_ble_eq_true rfl) (by kernel_rfl)) 14 rfl ?_
     refine DE_1 10 (by kernel_rfl) rfl rfl rfl (gsat_C (b6) rfl rfl (by kernel_rfl) hc7) (Y1_call (s_impl_Form_disc hy9) cf_impl_Form_disc rfl (by kernel_rfl)) rfl rfl rfl 15 rfl ?_
     refine DE_0 11 (Bo (eqI y8 y9)) (by kernel_rfl) rfl rfl rfl (gsat_C (b6) rfl rfl (by kernel_rfl) hc7) (by kernel_rfl) (Y0_eqw (k := .i64) (a := y8) (b := y9) rfl (by kernel_rfl) (by kernel_rfl)) 16 rfl ?_
     refine DE_0 12 (Bo (b10)) (by kernel_rfl) rfl rfl rfl (gsat_none rfl) (by kernel_rfl) (Y0_pickTe (b := b6) (p := eqI y8 y9) rfl (by kernel_rfl) hc7 (by kernel_rfl) hb10) 17 rfl ?_
     refine DA 1 ?_
     exact XE
    ·have hb10 := some_inj (of_false hb10 hc7)
     refine DE_t 7 (by kernel_rfl) rfl rfl rfl (gun_T (b6) rfl rfl (by kernel_rfl) hc7) 12 rfl ?_
     refine DE_t 8 (by kernel_rfl) rfl rfl rfl (gun_T (b6) rfl rfl (by kernel_rfl) hc7) 13 rfl ?_
     refine DE_t 9 (by kernel_rfl) rfl rfl rfl (gun_T (b6) rfl rfl (by kernel_rfl) hc7) 14 rfl ?_
     refine DE_t 10 (by kernel_rfl) rfl rfl rfl (gun_T (b6) rfl rfl (by kernel_rfl) hc7) 15 rfl ?_
     refine DE_t 11 (by kernel_rfl) rfl rfl rfl (gun_T (b6) rfl rfl (by kernel_rfl) hc7) 16 rfl ?_
     refine DE_0 12 (Bo (b10)) (by kernel_rfl) rfl rfl rfl (gsat_none rfl) (by kernel_rfl) (Y0_pickFe (b := b6) (p := false) rfl (by kernel_rfl) hc7 (by kernel_rfl) hb10) 17 rfl ?_
     refine DA 1 ?_
     exact XE
   ·have hb6 := some_inj (of_false hb6 hc4)
    refine DE_t 3 (by kernel_rfl) rfl rfl rfl (gun_T (y3) rfl rfl (by kernel_rfl) hc4) 8 rfl ?_
    refine DE_t 4 (by kernel_rfl) rfl rfl rfl (gun_T (y3) rfl rfl (by kernel_rfl) hc4) 9 rfl ?_
    refine DE_0 5 (Bo (b6)) (by kernel_rfl) rfl rfl rfl (gsat_none rfl) (by kernel_rfl) (Y0_pickFe (b := y3) (p := false) rfl (by kernel_rfl) hc4 (by kernel_rfl) hb6) 10 rfl ?_
    refine DR 1 ?_
    refine DL_split b6 (fun hc7 => ?_) (fun hc7 => ?_)
    ·have hb10 := of_true hb10 hc7
     obtain ⟨y8, hy8, hb10⟩ := of_bind hb10
     obtain ⟨y9, hy9, hb10⟩ := of_bind hb10
     have hb10 := some_inj hb10
     refine DE_0 7 (.ag [Ti f1.1, Ti f1.2.1, Ti f1.2.2]) (by kernel_rfl) rfl rfl rfl (gsat_C (b6) rfl rfl (by kernel_rfl) hc7) (by kernel_rfl) (E_loadn (cs := [Ti f1.1, Ti f1.2.1, Ti f1.2.2]) [Ti f1.1, Ti f1.2.1, Ti f1.2.2] wd25 rfl (by kernel_rfl) (Nat.le_of_ble_eq_true rfl) (by kernel_rfl)) 12 rfl ?_
     refine DE_1 8 (by kernel_rfl) rfl rfl rfl (gsat_C (b6) rfl rfl (by kernel_rfl) hc7) (Y1_call (s_impl_Form_disc hy8) cf_impl_Form_disc rfl (by kernel_rfl)) rfl rfl rfl 13 rfl ?_
     refine DE_0 9 (.ag [Ti g2.1, Ti g2.2.1, Ti g2.2.2]) (by kernel_rfl) rfl rfl rfl (gsat_C (b6) rfl rfl (by kernel_rfl) hc7) (by kernel_rfl) (E_loadn (cs := [Ti g2.1, Ti g2.2.1, Ti g2.2.2]) [Ti g2.1, Ti g2.2.1, Ti g2.2.2] wd25 rfl (by kernel_rfl) (Nat.le_of_ble_eq_true rfl) (by kernel_rfl)) 14 rfl ?_
     refine DE_1 10 (by kernel_rfl) rfl rfl rfl (gsat_C (b6) rfl rfl (by kernel_rfl) hc7) (Y1_call (s_impl_Form_disc hy9) cf_impl_Form_disc rfl (by kernel_rfl)) rfl rfl rfl 15 rfl ?_
     refine DE_0 11 (Bo (eqI y8 y9)) (by kernel_rfl) rfl rfl rfl (gsat_C (b6) rfl rfl (by kernel_rfl) hc7) (by kernel_rfl) (Y0_eqw (k := .i64) (a := y8) (b := y9) rfl (by kernel_rfl) (by kernel_rfl)) 16 rfl ?_
     refine DE_0 12 (Bo (b10)) (by kernel_rfl) rfl rfl rfl (gsat_none rfl) (by kernel_rfl) (Y0_pickTe (b := b6) (p := eqI y8 y9) rfl (by kernel_rfl) hc7 (by kernel_rfl) hb10) 17 rfl ?_
     refine DA 1 ?_
     exact XE
    ·have hb10 := some_inj (of_false hb10 hc7)
     refine DE_t 7 (by kernel_rfl) rfl rfl rfl (gun_T (b6) rfl rfl (by kernel_rfl) hc7) 12 rfl ?_
     refine DE_t 8 (by kernel_rfl) rfl rfl rfl (gun_T (b6) rfl rfl (by kernel_rfl) hc7) 13 rfl ?_
     refine DE_t 9 (by kernel_rfl) rfl rfl rfl (gun_T (b6) rfl rfl (by kernel_rfl) hc7) 14 rfl ?_
     refine DE_t 10 (by kernel_rfl) rfl rfl rfl (gun_T (b6) rfl rfl (by kernel_rfl) hc7) 15 rfl ?_
     refine DE_t 11 (by kernel_rfl) rfl rfl rfl (gun_T (b6) rfl rfl (by kernel_rfl) hc7) 16 rfl ?_
     refine DE_0 12 (Bo (b10)) (by kernel_rfl) rfl rfl rfl (gsat_none rfl) (by kernel_rfl) (Y0_pickFe (b := b6) (p := false) rfl (by kernel_rfl) hc7 (by kernel_rfl) hb10) 17 rfl ?_
     refine DA 1 ?_
     exact XE
  refine V_ret ?_
  obtain rfl := some_inj h
  show Post _ _ _ _ _
  exact ⟨.inr rfl, rfl, rfl, rfl⟩
theorem cf_impl_areIndices : ∀ args w, (callFunc 55 args).run Try.prog w = .ok (.enter 55 args) w := run_callFunc Try.func55 (by kernel_rfl) (by kernel_rfl)
theorem s_impl_areIndices {primes1 : List Int} {r : Bool} (h : r_impl_areIndices primes1 = some r) : CallS Try.prog 55 [.c (.sl (primes1.map c3))] (Bo r) [] := by
  refine CallS_of_text (rs := [.t 2]) (vs := [.tmp 2]) Try.func55 rfl rfl (.cons rfl FitsL.nil) (by decide) 23 rfl ?_
  unfold r_impl_areIndices at h
  show V _ _ ⟨.c (.sl (primes1.map c3)) :: bt 22 [], []⟩ _
  refine V_e (mb 23 1) [] (s1 := ⟨.c (.sl (primes1.map c3)) :: bt 22 [], []⟩) ?_
  refine V_seq ?_
  refine V_sreg (mb 23 225) [] (s1 := ⟨.c (.sl (primes1.map c3)) :: bt 4 (.c (.sl (primes1.map c3)) :: I ((primes1.length : Int)) :: I 0 :: bt 15 []), []⟩) ?_ ?_
  ·refine XR 1 ?_
   refine L0 rfl rfl (Y0_lenM (c := c3) (xs := primes1) Try.underlying47 rfl (by kernel_rfl)) ?_
   exact XE
  obtain ⟨qo4, hLo4, hko4⟩ := of_bind h
  refine V_toS (q := qo4) (S := fun o4 => ⟨.c (.sl (primes1.map c3)) :: bt 22 [], []⟩) (mb 23 1) [] ?_ ?_
  ·refine V_block (V_loop (fun n s => ∃ (t2 : Int), s.keep (mb 23 225) [] = (⟨.c (.sl (primes1.map c3)) :: bt 4 (.c (.sl (primes1.map c3)) :: I ((primes1.length : Int)) :: I t2 :: bt 15 []), []⟩ : St) ∧ r_impl_areIndices_L3 primes1 n t2 = some qo4) FU ⟨_,  by rfl, hLo4⟩ ?_)
   clear hLo4
   rintro n s ⟨t2, hs, h⟩
   refine V_keep _ _ hs ?_
   clear hs
   cases n with
   | zero => cases h
   | succ n =>
    rw [r_impl_areIndices_L3] at h
    refine V_e (mb 23 481) [] (s1 := ⟨.c (.sl (primes1.map c3)) :: bt 4 (.c (.sl (primes1.map c3)) :: I ((primes1.length : Int)) :: I t2 :: Bo (ltI t2 ((primes1.length : Int))) :: bt 14 []), []⟩) ?_
    refine V_seq ?_
    refine V_cond rfl (fun hc5 => ?_) (fun hc5 => ?_)
    ·have h := of_true h hc5
     refine V_skip ?_
     show V _ _ _ _
     refine V_seq ?_
     refine V_block ?_
     obtain ⟨e6, he6, h⟩ := of_bind h
     refine V_sreg (mb 23 241) [] (s1 := ⟨.c (.sl (primes1.map c3)) :: bt 3 (I e6 :: .c (.sl (primes1.map c3)) :: I ((primes1.length : Int)) :: I t2 :: bt 15 []), []⟩) ?_ ?_
     ·refine L0 rfl rfl (Y0_idxM (c := c3) (xs := primes1) (v := e6) (n := t2) Try.underlying47 sz3 rfl (by kernel_rfl) (by kernel_rfl) he6) ?_
      exact XE
     obtain ⟨y7, hy7, h⟩ := of_bind h
     refine V_sreg (mb 23 8417) [] (s1 := ⟨.c (.sl (primes1.map c3)) :: bt 4 (.c (.sl (primes1.map c3)) :: I ((primes1.length : Int)) :: I t2 :: bt 5 (Bo (!y7) :: bt 9 [])), []⟩) ?_ ?_
     ·refine XR 1 ?_
      refine XC (s_impl_isIndex hy7) cf_impl_isIndex rfl rfl rfl ?_
      exact XE
     refine V_cond rfl (fun hc8 => ?_) (fun hc8 => ?_)
     ·have h := of_true h hc8
      refine V_e (mb 23 4) [] (s1 := ⟨.bot :: .bot :: Bo false :: bt 20 [], []⟩) ?_
      refine V_ret ?_
      obtain rfl := some_inj h
      have h := hko4
      obtain rfl := some_inj h
      show Post _ _ _ _ _
      exact ⟨.inr rfl, rfl, rfl, rfl⟩
     ·have h := of_false h hc8
      refine V_skip ?_
      show V _ _ _ _
      obtain ⟨t9, ht9, h⟩ := of_sI h
      refine V_reg (mb 23 225) [] (s1 := ⟨.c (.sl (primes1.map c3)) :: bt 4 (.c (.sl (primes1.map c3)) :: I ((primes1.length : Int)) :: I t9 :: bt 15 []), []⟩) ?_ ?_
      ·refine XR 2 ?_
       refine XL_nil ?_
       subst ht9
       kernel_rfl
      exact ⟨n, Nat.lt_succ_self n, _,  by rfl, h⟩
    ·have h := of_false h hc5
     refine V_exit ?_
     obtain rfl := some_inj h
     exact ⟨_, rfl, by rfl⟩
  rintro o4 rfl
  have h := hko4
  clear hko4
  show V _ _ _ _
  obtain ⟨t11, ht11, h⟩ := of_bind h
  have ht11 := some_inj ht11
  refine V_sreg (mb 23 4) [] (s1 := ⟨.bot :: .bot :: Bo t11 :: bt 20 [], []⟩) ?_ ?_
  ·refine XR 1 ?_
   refine L0 rfl rfl (Y0_lenM (c := c3) (xs := primes1) Try.underlying47 rfl (by kernel_rfl)) ?_
   refine XR 2 ?_
   refine XL_split (leI 1 ((primes1.length : Int))) (fun hc10 => ?_) (fun hc10 => ?_)
   ·refine XL_takeC _ rfl rfl (by kernel_rfl) hc10 (X_of_Y0 rfl (E_move (.c (.sl (primes1.map c3))) rfl (by kernel_rfl))) ?_
    refine XL_takeC _ rfl rfl (by kernel_rfl) hc10 (X_of_Y0 rfl (Y0_lenM (c := c3) (xs := primes1) Try.underlying47 rfl (by kernel_rfl))) ?_
    refine XL_takeC _ rfl rfl (by kernel_rfl) hc10 (X_of_Y0 rfl (Y0_lew (k := .i64) (a := (primes1.length : Int)) (b := 6) rfl (by kernel_rfl) (by kernel_rfl))) ?_
    refine XL_cons rfl (X_of_Y0 rfl (Y0_pick1 (b := leI 1 ((primes1.length : Int))) (p := leI ((primes1.length : Int)) 6) (q := false) rfl (by kernel_rfl) hc10 (by kernel_rfl))) ?_
    refine XR 1 ?_
    refine XL_nil ?_
    subst ht11
    kernel_rfl
   ·refine XL_skipT _ rfl rfl (by kernel_rfl) hc10 rfl ?_
    refine XL_skipT _ rfl rfl (by kernel_rfl) hc10 rfl ?_
    refine XL_skipT _ rfl rfl (by kernel_rfl) hc10 rfl ?_
    refine XL_cons rfl (X_of_Y0 rfl (Y0_pick0 (b := leI 1 ((primes1.length : Int))) (p := leI ((primes1.length : Int)) 6) (q := false) rfl (by kernel_rfl) hc10 (by kernel_rfl))) ?_
    refine XR 1 ?_
    refine XL_nil ?_
    subst ht11
    kernel_rfl
  refine V_ret ?_
  obtain rfl := some_inj h
  show Post _ _ _ _ _
  exact ⟨.inr rfl, rfl, rfl, rfl⟩
theorem cf_impl_WalkDistance : ∀ args w, (callFunc 21 args).run Try.prog w = .ok (.enter 21 args) w := run_callFunc Try.func21 (by kernel_rfl) (by kernel_rfl)
theorem s_impl_WalkDistance {f1 : (Int × Int × Int)} {g2 : (Int × Int × Int)} {primes3 : List Int} {r : (Int × Bool)} (h : r_impl_WalkDistance f1 g2 primes3 = some r) : CallS Try.prog 21 [.ag [Ti f1.1, Ti f1.2.1, Ti f1.2.2], .ag [Ti g2.1, Ti g2.2.1, Ti g2.2.2], .c (.sl (primes3.map c3))] (.tc (I r.1) (.tc (Bo r.2) .tn)) [] := by
  refine CallS_of_text (rs := [.t 6, .t 7]) (vs := [.tmp 6, .tmp 7]) Try.func21 rfl rfl (.cons rfl (.cons rfl FitsL.nil)) (by decide) 91 rfl ?_
  unfold r_impl_WalkDistance at h
  show V _ _ ⟨.ag [Ti f1.1, Ti f1.2.1, Ti f1.2.2] :: .ag [Ti g2.1, Ti g2.2.1, Ti g2.2.2] :: .c (.sl (primes3.map c3)) :: bt 88 [], []⟩ _
  refine V_e (mb 91 28) [32, 24] (s1 := ⟨.bot :: .bot :: .c (.sl (primes3.map c3)) :: .pt 24 0 :: .pt 32 0 :: bt 86 [], [(32, .box [Ti g2.1, Ti g2.2.1, Ti g2.2.2]), (24, .box [Ti f1.1, Ti f1.2.1, Ti f1.2.2])]⟩) ?_
  refine V_seq ?_
  obtain ⟨y4, hy4, h⟩ := of_bind h
  obtain ⟨b7, hb7, h⟩ := of_bind h
  refine V_sreg (mb 91 67108892) [32, 24] (s1 := ⟨.bot :: .bot :: .c (.sl (primes3.map c3)) :: .pt 24 0 :: .pt 32 0 :: bt 21 (Bo b7 :: bt 64 []), [(32, .box [Ti g2.1, Ti g2.2.1, Ti g2.2.2]), (24, .box [Ti f1.1, Ti f1.2.1, Ti f1.2.2])]⟩) ?_ ?_
  ·refine XR 2 ?_
   refine XC (s_impl_arePair hy4) cf_impl_arePair rfl rfl rfl ?_
   refine XR 2 ?_
   refine XL_split (!y4) (fun hc5 => ?_) (fun hc5 => ?_)
   ·have hb7 := some_inj (of_true hb7 hc5)
    refine XL_skipF _ rfl rfl (by kernel_rfl) hc5 rfl ?_
    refine XL_skipF _ rfl rfl (by kernel_rfl) hc5 rfl ?_
    refine XL_skipF _ rfl rfl (by kernel_rfl) hc5 rfl ?_
    refine XL_cons rfl (X_of_Y0 rfl (Y0_pickTe (b := !y4) (p := true) rfl (by kernel_rfl) hc5 (by kernel_rfl) hb7)) ?_
    exact XE
   ·have hb7 := of_false hb7 hc5
    obtain ⟨y6, hy6, hb7⟩ := of_bind hb7
    have hb7 := some_inj hb7
    refine XL_takeC _ rfl rfl (by kernel_rfl) hc5 (X_of_Y0 rfl (E_move (.c (.sl (primes3.map c3))) rfl (by kernel_rfl))) ?_
    refine XL_takeC _ rfl rfl (by kernel_rfl) hc5 (X_of_Y1 rfl (Y1_call (s_impl_areIndices hy6) cf_impl_areIndices rfl (by kernel_rfl))) ?_
    refine XL_takeC _ rfl rfl (by kernel_rfl) hc5 (X_of_Y0 rfl (Y0_not (b := y6) rfl (by kernel_rfl))) ?_
    refine XL_cons rfl (X_of_Y0 rfl (Y0_pickFe (b := !y4) (p := !y6) rfl (by kernel_rfl) hc5 (by kernel_rfl) hb7)) ?_
    exact XE
  refine V_cond rfl (fun hc8 => ?_) (fun hc8 => ?_)
  ·have h := of_true h hc8
   refine V_e (mb 91 192) [] (s1 := ⟨bt 6 (I 0 :: Bo false :: bt 83 []), []⟩) ?_
   refine V_ret ?_
   obtain rfl := some_inj h
   show Post _ _ _ _ _
   exact ⟨.inr rfl, rfl, rfl, rfl⟩
  ·have h := of_false h hc8
   refine V_skip ?_
   show V _ _ _ _
   obtain ⟨y9, hy9, h⟩ := of_bind h
   refine V_sreg (mb 91 268) [64, 24] (s1 := ⟨.bot :: .bot :: .c (.sl (primes3.map c3)) :: .pt 24 0 :: bt 4 (.pt 64 0 :: bt 82 []), [(64, .box [Ti y9.1, Ti y9.2.1, Ti y9.2.2]), (24, .box [Ti f1.1, Ti f1.2.1, Ti f1.2.2])]⟩) ?_ ?_
   ·refine XR 1 ?_
    refine XC (s_impl_reduced hy9) cf_impl_reduced rfl rfl rfl ?_
    exact XE
   obtain ⟨y10, hy10, h⟩ := of_bind h
   refine V_sregM (fun mb29 => ⟨.bot :: .bot :: .c (.sl (primes3.map c3)) :: .pt 24 0 :: bt 4 (.pt 64 0 :: .c (.v (.map (some mb29))) :: bt 81 []), [(232, .mp mb29 ((mPut y10 0 (([] : List ((((Int × Int × Int)) × Int))))).map kv78)), (64, .box [Ti y9.1, Ti y9.2.1, Ti y9.2.2]), (24, .box [Ti f1.1, Ti f1.2.1, Ti f1.2.2])]⟩) (mb 91 780) [232, 64, 24] ?_ ?_
   ·refine XL_mkmap rfl rfl rfl fun mb29 => ?_
    refine XR 1 ?_
    refine XC (s_impl_reduced hy10) cf_impl_reduced rfl rfl rfl ?_
    refine XL_cons rfl (X_putM (κ := (Int × Int × Int)) (ν := Int) (ek := ek78) (ev := ev78) (z := 0) (m := ([] : List ((((Int × Int × Int)) × Int)))) (a := y10) (u := 0) (id := 232) (b := mb29) mo78 (.inr rfl) rfl (by kernel_rfl) (by kernel_rfl) (by kernel_rfl) (by kernel_rfl)) ?_
    refine XR 2 ?_
    refine XL_nil ?_
    exact ⟨mb29, by kernel_rfl⟩
   intro mb29
   obtain ⟨y11, hy11, h⟩ := of_bind h
   refine V_sreg (mb 91 1796) [280, 232, 64] (s1 := ⟨.bot :: .bot :: .c (.sl (primes3.map c3)) :: bt 5 (.pt 64 0 :: .c (.v (.map (some mb29))) :: .ow 280 :: bt 80 []), [(280, .arr 25 3 (([y11]).map c25)), (232, .mp mb29 ((mPut y10 0 (([] : List ((((Int × Int × Int)) × Int))))).map kv78)), (64, .box [Ti y9.1, Ti y9.2.1, Ti y9.2.2])]⟩) ?_ ?_
   ·refine XR 1 ?_
    refine XC (s_impl_reduced hy11) cf_impl_reduced rfl rfl rfl ?_
    refine L1 rfl rfl (Y1_bslice (z := zv25) (els := [y11].map c25) Try.underlying44 iz25 rfl (by decide) rfl (by kernel_rfl) rfl (by simp [c25]) (by decide) (by decide)) ?_
    exact XE
   refine V_seq ?_
   refine V_e (mb 91 3844) [280, 232, 64] (s1 := ⟨.bot :: .bot :: .c (.sl (primes3.map c3)) :: bt 5 (.pt 64 0 :: .c (.v (.map (some mb29))) :: .ow 280 :: I 0 :: bt 79 []), [(280, .arr 25 3 (([y11]).map c25)), (232, .mp mb29 ((mPut y10 0 (([] : List ((((Int × Int × Int)) × Int))))).map kv78)), (64, .box [Ti y9.1, Ti y9.2.1, Ti y9.2.2])]⟩) ?_
   obtain ⟨qo16, hLo16, hko16⟩ := of_bind h
   refine V_toS (q := qo16) (S := fun o16 => ⟨bt 91 [], []⟩) (mb 91 0) [] ?_ ?_
   ·refine V_block (V_loop (fun n s => ∃ (i12 : Int) (l13 : List ((Int × Int × Int))) (l14 : List ((((Int × Int × Int)) × Int))), s.keep (mb 91 3844) [280, 232, 64] = (⟨.bot :: .bot :: .c (.sl (primes3.map c3)) :: bt 5 (.pt 64 0 :: .c (.v (.map (some mb29))) :: .ow 280 :: I i12 :: bt 79 []), [(280, .arr 25 3 (l13.map c25)), (232, .mp mb29 (l14.map kv78)), (64, .box [Ti y9.1, Ti y9.2.1, Ti y9.2.2])]⟩ : St) ∧ r_impl_WalkDistance_L15 primes3 y9 n i12 l13 l14 = some qo16) FU ⟨_, _, _,  by rfl, hLo16⟩ ?_)
    clear hLo16
    rintro n s ⟨i12, l13, l14, hs, h⟩
    refine V_keep _ _ hs ?_
    clear hs
    cases n with
    | zero => cases h
    | succ n =>
     rw [r_impl_WalkDistance_L15] at h
     refine V_seq ?_
     refine V_sreg (mb 91 549755817732) [280, 232, 64] (s1 := ⟨.bot :: .bot :: .c (.sl (primes3.map c3)) :: bt 5 (.pt 64 0 :: .c (.v (.map (some mb29))) :: .ow 280 :: I i12 :: bt 27 (Bo (ltI i12 ((l13.length : Int))) :: bt 51 [])), [(280, .arr 25 3 (l13.map c25)), (232, .mp mb29 (l14.map kv78)), (64, .box [Ti y9.1, Ti y9.2.1, Ti y9.2.2])]⟩) ?_ ?_
     ·refine XR 2 ?_
      refine L0 rfl rfl (Y0_lenM (c := c25) (xs := l13) Try.underlying44 rfl (by kernel_rfl)) ?_
      exact XE
     refine V_cond rfl (fun hc17 => ?_) (fun hc17 => ?_)
     ·have h := of_true h hc17
      refine V_skip ?_
      show V _ _ _ _
      refine V_seq ?_
      refine V_block ?_
      refine V_seq ?_
      obtain ⟨e18, he18, h⟩ := of_bind h
      obtain ⟨e19, he19, h⟩ := of_bind h
      obtain ⟨t20, ht20, h⟩ := of_bind h
      have ht20 := some_inj ht20
      refine V_sdreg [0, 0, 3, 7, 0, 31] 6 (cdm 6 [520, 514, 517, 533, 170, 341]) (mb 91 140737488359172) [280, 232, 64] (s1 := ⟨.bot :: .bot :: .c (.sl (primes3.map c3)) :: bt 5 (.pt 64 0 :: .c (.v (.map (some mb29))) :: .ow 280 :: I i12 :: bt 35 (Bo t20 :: bt 43 [])), [(280, .arr 25 3 (l13.map c25)), (232, .mp mb29 (l14.map kv78)), (64, .box [Ti y9.1, Ti y9.2.1, Ti y9.2.2])]⟩) (by kernel_rfl) (by kernel_rfl) ?_ ?_
      ·refine DR 2 ?_
       refine DE_0 2 (.po 280 3 (Int.toNat (i12)) 0) (by kernel_rfl) rfl rfl rfl (gsat_none rfl) (by kernel_rfl) (Y0_idxoM (c := c25) (xs := l13) (v := e18) (id := 280) (T := 25) (sz := 3) (n := i12) Try.underlying44 sz25 rfl (by kernel_rfl) (by kernel_rfl) (by kernel_rfl) he18) 44 rfl ?_
       refine DE_0 3 (.ag [Ti e19.1, Ti e19.2.1, Ti e19.2.2]) (by kernel_rfl) rfl rfl rfl (gsat_none rfl) (by kernel_rfl) (E_loadon (c := c25) (xs := l13) (v := e19) (id := 280) (sz := 3) (T := 25) (off := 0) (n := i12) [Ti e19.1, Ti e19.2.1, Ti e19.2.2] wd25 rfl (by kernel_rfl) (by kernel_rfl) he19 (Nat.le_of_ble_eq_true rfl) (by kernel_rfl)) 45 rfl ?_
       refine DR 1 ?_
       refine DE_0 5 (Bo (((e19.1 == y9.1) && ((e19.2.1 == y9.2.1) && (e19.2.2 == y9.2.2))))) (by kernel_rfl) rfl rfl rfl (gsat_none rfl) (by kernel_rfl) (Y0_eqg3 (a0 := e19.1) (b0 := y9.1) (a1 := e19.2.1) (b1 := y9.2.1) (a2 := e19.2.2) (b2 := y9.2.2) eqg25 rfl (by kernel_rfl) (by kernel_rfl)) 47 rfl ?_
       refine DA 0 ?_
       refine XL_nil ?_
       subst ht20
       kernel_rfl
      refine V_cond rfl (fun hc21 => ?_) (fun hc21 => ?_)
      ·have h := of_true h hc21
       obtain ⟨t22, ht22, h⟩ := of_sI h
       refine V_sreg (mb 91 192) [] (s1 := ⟨bt 6 (I t22 :: Bo true :: bt 83 []), []⟩) ?_ ?_
       ·refine XR 2 ?_
        refine L0 rfl rfl (Y0_lookM (κ := (Int × Int × Int)) (ν := Int) (ek := ek78) (ev := ev78) (z := 0) (m := l14) (a := y9) (id := 232) (b := mb29) mo78 rfl (by kernel_rfl) (by kernel_rfl) (by kernel_rfl)) ?_
        refine XR 2 ?_
        refine XL_nil ?_
        subst ht22
        kernel_rfl
       refine V_ret ?_
       obtain rfl := some_inj h
       have h := hko16
       obtain rfl := some_inj h
       show Post _ _ _ _ _
       exact ⟨.inr rfl, rfl, rfl, rfl⟩
      ·have h := of_false h hc21
       refine V_skip ?_
       show V _ _ _ _
       refine V_sreg (mb 91 15762598695800580) [280, 232, 64] (s1 := ⟨.bot :: .bot :: .c (.sl (primes3.map c3)) :: bt 5 (.pt 64 0 :: .c (.v (.map (some mb29))) :: .ow 280 :: I i12 :: bt 39 (.c (.sl (primes3.map c3)) :: I ((primes3.length : Int)) :: I 0 :: bt 37 [])), [(280, .arr 25 3 (l13.map c25)), (232, .mp mb29 (l14.map kv78)), (64, .box [Ti y9.1, Ti y9.2.1, Ti y9.2.2])]⟩) ?_ ?_
       ·refine XR 1 ?_
        refine L0 rfl rfl (Y0_lenM (c := c3) (xs := primes3) Try.underlying47 rfl (by kernel_rfl)) ?_
        exact XE
       obtain ⟨o27, hLo27, h⟩ := of_bind h
       refine V_toK (mb 91 3844) [280, 232, 64] (s1 := ⟨.bot :: .bot :: .c (.sl (primes3.map c3)) :: bt 5 (.pt 64 0 :: .c (.v (.map (some mb29))) :: .ow 280 :: I i12 :: bt 79 []), [(280, .arr 25 3 (o27.1.map c25)), (232, .mp mb29 (o27.2.map kv78)), (64, .box [Ti y9.1, Ti y9.2.1, Ti y9.2.2])]⟩) ?_ ?_
       ·clear h
        refine V_block (V_loop (fun n s => ∃ (t23 : Int) (l24 : List ((Int × Int × Int))) (l25 : List ((((Int × Int × Int)) × Int))), s.keep (mb 91 15762598695800580) [280, 232, 64] = (⟨.bot :: .bot :: .c (.sl (primes3.map c3)) :: bt 5 (.pt 64 0 :: .c (.v (.map (some mb29))) :: .ow 280 :: I i12 :: bt 39 (.c (.sl (primes3.map c3)) :: I ((primes3.length : Int)) :: I t23 :: bt 37 [])), [(280, .arr 25 3 (l24.map c25)), (232, .mp mb29 (l25.map kv78)), (64, .box [Ti y9.1, Ti y9.2.1, Ti y9.2.2])]⟩ : St) ∧ r_impl_WalkDistance_L26 i12 primes3 y9 n t23 l24 l25 = some o27) FU ⟨_, _, _,  by rfl, hLo27⟩ ?_)
        clear hLo27
        rintro n s ⟨t23, l24, l25, hs, h⟩
        refine V_keep _ _ hs ?_
        clear hs
        cases n with
        | zero => cases h
        | succ n =>
         rw [r_impl_WalkDistance_L26] at h
         refine V_e (mb 91 33776997205282564) [280, 232, 64] (s1 := ⟨.bot :: .bot :: .c (.sl (primes3.map c3)) :: bt 5 (.pt 64 0 :: .c (.v (.map (some mb29))) :: .ow 280 :: I i12 :: bt 39 (.c (.sl (primes3.map c3)) :: I ((primes3.length : Int)) :: I t23 :: Bo (ltI t23 ((primes3.length : Int))) :: bt 36 [])), [(280, .arr 25 3 (l24.map c25)), (232, .mp mb29 (l25.map kv78)), (64, .box [Ti y9.1, Ti y9.2.1, Ti y9.2.2])]⟩) ?_
         refine V_seq ?_
         refine V_cond rfl (fun hc28 => ?_) (fun hc28 => ?_)
         ·have h := of_true h hc28
          refine V_skip ?_
          show V _ _ _ _
          refine V_seq ?_
          refine V_block ?_
          obtain ⟨e29, he29, h⟩ := of_bind h
          refine V_sreg (mb 91 15762598695808772) [280, 232, 64] (s1 := ⟨.bot :: .bot :: .c (.sl (primes3.map c3)) :: bt 5 (.pt 64 0 :: .c (.v (.map (some mb29))) :: .ow 280 :: I i12 :: .bot :: I e29 :: bt 37 (.c (.sl (primes3.map c3)) :: I ((primes3.length : Int)) :: I t23 :: bt 37 [])), [(280, .arr 25 3 (l24.map c25)), (232, .mp mb29 (l25.map kv78)), (64, .box [Ti y9.1, Ti y9.2.1, Ti y9.2.2])]⟩) ?_ ?_
          ·refine L0 rfl rfl (Y0_idxM (c := c3) (xs := primes3) (v := e29) (n := t23) Try.underlying47 sz3 rfl (by kernel_rfl) (by kernel_rfl) he29) ?_
           exact XE
          obtain ⟨e30, he30, h⟩ := of_bind h
          obtain ⟨e31, he31, h⟩ := of_bind h
          obtain ⟨y32, hy32, h⟩ := of_bind h
          refine V_sreg (mb 91 32297564727687515908) [496, 280, 232, 64] (s1 := ⟨.bot :: .bot :: .c (.sl (primes3.map c3)) :: bt 5 (.pt 64 0 :: .c (.v (.map (some mb29))) :: .ow 280 :: I i12 :: bt 39 (.c (.sl (primes3.map c3)) :: I ((primes3.length : Int)) :: I t23 :: bt 8 (.ow 496 :: I ((y32.length : Int)) :: I 0 :: bt 26 []))), [(496, .arr 25 3 (y32.map c25)), (280, .arr 25 3 (l24.map c25)), (232, .mp mb29 (l25.map kv78)), (64, .box [Ti y9.1, Ti y9.2.1, Ti y9.2.2])]⟩) ?_ ?_
          ·refine XR 2 ?_
           refine L0 rfl rfl (Y0_idxoM (c := c25) (xs := l24) (v := e30) (id := 280) (T := 25) (sz := 3) (n := i12) Try.underlying44 sz25 rfl (by kernel_rfl) (by kernel_rfl) (by kernel_rfl) he30) ?_
           refine L0 rfl rfl (E_loadon (c := c25) (xs := l24) (v := e31) (id := 280) (sz := 3) (T := 25) (off := 0) (n := i12) [Ti e31.1, Ti e31.2.1, Ti e31.2.2] wd25 rfl (by kernel_rfl) (by kernel_rfl) he31 (Nat.le_of_ble_eq_true rfl) (by kernel_rfl)) ?_
           refine XR 1 ?_
           refine XC (s_impl_neighbours hy32) cf_impl_neighbours rfl rfl rfl ?_
           refine L0 rfl rfl (Y0_lenM (c := c25) (xs := y32) Try.underlying44 rfl (by kernel_rfl)) ?_
           exact XE
          obtain ⟨o37, hLo37, h⟩ := of_bind h
          refine V_toK (mb 91 15762598695800580) [280, 232, 64] (s1 := ⟨.bot :: .bot :: .c (.sl (primes3.map c3)) :: bt 5 (.pt 64 0 :: .c (.v (.map (some mb29))) :: .ow 280 :: I i12 :: bt 39 (.c (.sl (primes3.map c3)) :: I ((primes3.length : Int)) :: I t23 :: bt 37 [])), [(280, .arr 25 3 (o37.1.map c25)), (232, .mp mb29 (o37.2.map kv78)), (64, .box [Ti y9.1, Ti y9.2.1, Ti y9.2.2])]⟩) ?_ ?_
          ·clear h
           refine V_block (V_loop (fun n s => ∃ (t33 : Int) (l34 : List ((Int × Int × Int))) (l35 : List ((((Int × Int × Int)) × Int))), s.keep (mb 91 32297564727687515908) [496, 280, 232, 64] = (⟨.bot :: .bot :: .c (.sl (primes3.map c3)) :: bt 5 (.pt 64 0 :: .c (.v (.map (some mb29))) :: .ow 280 :: I i12 :: bt 39 (.c (.sl (primes3.map c3)) :: I ((primes3.length : Int)) :: I t23 :: bt 8 (.ow 496 :: I ((y32.length : Int)) :: I t33 :: bt 26 []))), [(496, .arr 25 3 (y32.map c25)), (280, .arr 25 3 (l34.map c25)), (232, .mp mb29 (l35.map kv78)), (64, .box [Ti y9.1, Ti y9.2.1, Ti y9.2.2])]⟩ : St) ∧ r_impl_WalkDistance_L36 i12 primes3 t23 y32 y9 n t33 l34 l35 = some o37) FU ⟨_, _, _,  by rfl, hLo37⟩ ?_)
           clear hLo37
           rintro n s ⟨t33, l34, l35, hs, h⟩
           refine V_keep _ _ hs ?_
           clear hs
           cases n with
           | zero => cases h
           | succ n =>
            rw [r_impl_WalkDistance_L36] at h
            refine V_e (mb 91 69191052875106619140) [496, 280, 232, 64] (s1 := ⟨.bot :: .bot :: .c (.sl (primes3.map c3)) :: bt 5 (.pt 64 0 :: .c (.v (.map (some mb29))) :: .ow 280 :: I i12 :: bt 39 (.c (.sl (primes3.map c3)) :: I ((primes3.length : Int)) :: I t23 :: bt 8 (.ow 496 :: I ((y32.length : Int)) :: I t33 :: Bo (ltI t33 ((y32.length : Int))) :: bt 25 []))), [(496, .arr 25 3 (y32.map c25)), (280, .arr 25 3 (l34.map c25)), (232, .mp mb29 (l35.map kv78)), (64, .box [Ti y9.1, Ti y9.2.1, Ti y9.2.2])]⟩) ?_
            refine V_seq ?_
            refine V_cond rfl (fun hc38 => ?_) (fun hc38 => ?_)
            ·have h := of_true h hc38
             refine V_skip ?_
             show V _ _ _ _
             refine V_seq ?_
             refine V_block ?_
             obtain ⟨e39, he39, h⟩ := of_bind h
             obtain ⟨e40, he40, h⟩ := of_bind h
             refine V_sreg (mb 91 32297564727687548676) [120, 496, 280, 232, 64] (s1 := ⟨.bot :: .bot :: .c (.sl (primes3.map c3)) :: bt 5 (.pt 64 0 :: .c (.v (.map (some mb29))) :: .ow 280 :: I i12 :: bt 3 (.pt 120 0 :: bt 35 (.c (.sl (primes3.map c3)) :: I ((primes3.length : Int)) :: I t23 :: bt 8 (.ow 496 :: I ((y32.length : Int)) :: I t33 :: bt 26 [])))), [(120, .box [Ti e40.1, Ti e40.2.1, Ti e40.2.2]), (496, .arr 25 3 (y32.map c25)), (280, .arr 25 3 (l34.map c25)), (232, .mp mb29 (l35.map kv78)), (64, .box [Ti y9.1, Ti y9.2.1, Ti y9.2.2])]⟩) ?_ ?_
             ·refine L0 rfl rfl (Y0_idxoM (c := c25) (xs := y32) (v := e39) (id := 496) (T := 25) (sz := 3) (n := t33) Try.underlying44 sz25 rfl (by kernel_rfl) (by kernel_rfl) (by kernel_rfl) he39) ?_
              refine L0 rfl rfl (E_loadon (c := c25) (xs := y32) (v := e40) (id := 496) (sz := 3) (T := 25) (off := 0) (n := t33) [Ti e40.1, Ti e40.2.1, Ti e40.2.2] wd25 rfl (by kernel_rfl) (by kernel_rfl) he40 (Nat.le_of_ble_eq_true rfl) (by kernel_rfl)) ?_
              exact XE
             refine V_sreg (mb 91 32297564727687679748) [120, 496, 280, 232, 64] (s1 := ⟨.bot :: .bot :: .c (.sl (primes3.map c3)) :: bt 5 (.pt 64 0 :: .c (.v (.map (some mb29))) :: .ow 280 :: I i12 :: bt 3 (.pt 120 0 :: .bot :: Bo (mHas e40 l35) :: bt 33 (.c (.sl (primes3.map c3)) :: I ((primes3.length : Int)) :: I t23 :: bt 8 (.ow 496 :: I ((y32.length : Int)) :: I t33 :: bt 26 [])))), [(120, .box [Ti e40.1, Ti e40.2.1, Ti e40.2.2]), (496, .arr 25 3 (y32.map c25)), (280, .arr 25 3 (l34.map c25)), (232, .mp mb29 (l35.map kv78)), (64, .box [Ti y9.1, Ti y9.2.1, Ti y9.2.2])]⟩) ?_ ?_
             ·refine XR 2 ?_
              refine L0 rfl rfl (Y0_lookM2 (κ := (Int × Int × Int)) (ν := Int) (ek := ek78) (ev := ev78) (z := 0) (m := l35) (a := e40) (id := 232) (b := mb29) mo78 rfl (by kernel_rfl) (by kernel_rfl) (by kernel_rfl)) ?_
              exact XE
             refine V_e (mb 91 37811229427684849258244) [120, 496, 280, 232, 64] (s1 := ⟨.bot :: .bot :: .c (.sl (primes3.map c3)) :: bt 5 (.pt 64 0 :: .c (.v (.map (some mb29))) :: .ow 280 :: I i12 :: bt 3 (.pt 120 0 :: bt 35 (.c (.sl (primes3.map c3)) :: I ((primes3.length : Int)) :: I t23 :: bt 8 (.ow 496 :: I ((y32.length : Int)) :: I t33 :: bt 10 (Bo (!(mHas e40 l35)) :: bt 15 []))))), [(120, .box [Ti e40.1, Ti e40.2.1, Ti e40.2.2]), (496, .arr 25 3 (y32.map c25)), (280, .arr 25 3 (l34.map c25)), (232, .mp mb29 (l35.map kv78)), (64, .box [Ti y9.1, Ti y9.2.1, Ti y9.2.2])]⟩) ?_
             refine V_cond rfl (fun hc41 => ?_) (fun hc41 => ?_)
             ·have h := of_true h hc41
              obtain ⟨e42, he42, h⟩ := of_bind h
              obtain ⟨e43, he43, h⟩ := of_bind h
              refine V_sdreg [0, 0, 0, 0, 0, 24, 56, 124, 252, 511] 9 (cdm 9 [174760, 174754, 10890, 554, 170, 362, 1386, 5466, 21850]) (mb 91 32297564727687548676) [120, 496, 280, 232, 64] (s1 := ⟨.bot :: .bot :: .c (.sl (primes3.map c3)) :: bt 5 (.pt 64 0 :: .c (.v (.map (some mb29))) :: .ow 280 :: I i12 :: bt 3 (.pt 120 0 :: bt 35 (.c (.sl (primes3.map c3)) :: I ((primes3.length : Int)) :: I t23 :: bt 8 (.ow 496 :: I ((y32.length : Int)) :: I t33 :: bt 26 [])))), [(120, .box [Ti e40.1, Ti e40.2.1, Ti e40.2.2]), (496, .arr 25 3 (y32.map c25)), (280, .arr 25 3 (l34.map c25)), (232, .mp mb29 ((mPut e40 (w64 ((mAt e43 l35 0) + 1)) l35).map kv78)), (64, .box [Ti y9.1, Ti y9.2.1, Ti y9.2.2])]⟩) (by kernel_rfl) (by kernel_rfl) ?_ ?_
              ·refine DR 5 ?_
               refine DE_0 5 (.po 280 3 (Int.toNat (i12)) 0) (by kernel_rfl) rfl rfl rfl (gsat_none rfl) (by kernel_rfl) (Y0_idxoM (c := c25) (xs := l34) (v := e42) (id := 280) (T := 25) (sz := 3) (n := i12) Try.underlying44 sz25 rfl (by kernel_rfl) (by kernel_rfl) (by kernel_rfl) he42) 81 rfl ?_
               refine DE_0 6 (.ag [Ti e43.1, Ti e43.2.1, Ti e43.2.2]) (by kernel_rfl) rfl rfl rfl (gsat_none rfl) (by kernel_rfl) (E_loadon (c := c25) (xs := l34) (v := e43) (id := 280) (sz := 3) (T := 25) (off := 0) (n := i12) [Ti e43.1, Ti e43.2.1, Ti e43.2.2] wd25 rfl (by kernel_rfl) (by kernel_rfl) he43 (Nat.le_of_ble_eq_true rfl) (by kernel_rfl)) 82 rfl ?_
               refine DE_0 7 (I (mAt e43 l35 0)) (by kernel_rfl) rfl rfl rfl (gsat_none rfl) (by kernel_rfl) (Y0_lookM (κ := (Int × Int × Int)) (ν := Int) (ek := ek78) (ev := ev78) (z := 0) (m := l35) (a := e43) (id := 232) (b := mb29) mo78 rfl (by kernel_rfl) (by kernel_rfl) (by kernel_rfl)) 83 rfl ?_
               refine DA 1 ?_
               refine XL_cons rfl (X_putM (κ := (Int × Int × Int)) (ν := Int) (ek := ek78) (ev := ev78) (z := 0) (m := l35) (a := e40) (u := w64 ((mAt e43 l35 0) + 1)) (id := 232) (b := mb29) mo78 (.inl rfl) rfl (by kernel_rfl) (by kernel_rfl) (by kernel_rfl) (by kernel_rfl)) ?_
               exact XE
              obtain ⟨u44, hu44, h⟩ := of_bind h
              refine V_reg (mb 91 32297564727687515908) [496, 280, 232, 64] (s1 := ⟨.bot :: .bot :: .c (.sl (primes3.map c3)) :: bt 5 (.pt 64 0 :: .c (.v (.map (some mb29))) :: .ow 280 :: I i12 :: bt 39 (.c (.sl (primes3.map c3)) :: I ((primes3.length : Int)) :: I t23 :: bt 8 (.ow 496 :: I ((y32.length : Int)) :: I t33 :: bt 26 []))), [(496, .arr 25 3 (y32.map c25)), (280, .arr 25 3 ((l34 ++ ([e40])).map c25)), (232, .mp mb29 ((mPut e40 (w64 ((mAt e43 l35 0) + 1)) l35).map kv78)), (64, .box [Ti y9.1, Ti y9.2.1, Ti y9.2.2])]⟩) ?_ ?_
              ·refine XR 2 ?_
               refine L1 rfl rfl (Y1_bslice (z := zv25) (els := [e40].map c25) Try.underlying44 iz25 rfl (by decide) rfl (by kernel_rfl) rfl (by simp [c25]) (by decide) (by decide)) ?_
               refine XL_cons rfl (X_appendM (c := c25) (xs := l34) (ys := [e40]) (id := 280) (z := zv25) rfl rfl Try.underlying44 izb25 rfl (by kernel_rfl) (by kernel_rfl) (by kernel_rfl) (fun _ => rfl) (by simp) (room_some hu44) (by decide)) ?_
               exact XE
              show V _ _ _ _
              obtain ⟨t45, ht45, h⟩ := of_sI h
              refine V_reg (mb 91 32297564727687515908) [496, 280, 232, 64] (s1 := ⟨.bot :: .bot :: .c (.sl (primes3.map c3)) :: bt 5 (.pt 64 0 :: .c (.v (.map (some mb29))) :: .ow 280 :: I i12 :: bt 39 (.c (.sl (primes3.map c3)) :: I ((primes3.length : Int)) :: I t23 :: bt 8 (.ow 496 :: I ((y32.length : Int)) :: I t45 :: bt 26 []))), [(496, .arr 25 3 (y32.map c25)), (280, .arr 25 3 ((l34 ++ ([e40])).map c25)), (232, .mp mb29 ((mPut e40 (w64 ((mAt e43 l35 0) + 1)) l35).map kv78)), (64, .box [Ti y9.1, Ti y9.2.1, Ti y9.2.2])]⟩) ?_ ?_
              ·refine XR 2 ?_
               refine XL_nil ?_
               subst ht45
               kernel_rfl
              exact ⟨n, Nat.lt_succ_self n, _, _, _,  by rfl, h⟩
             ·have h := of_false h hc41
              refine V_skip ?_
              show V _ _ _ _
              obtain ⟨t46, ht46, h⟩ := of_sI h
              refine V_reg (mb 91 32297564727687515908) [496, 280, 232, 64] (s1 := ⟨.bot :: .bot :: .c (.sl (primes3.map c3)) :: bt 5 (.pt 64 0 :: .c (.v (.map (some mb29))) :: .ow 280 :: I i12 :: bt 39 (.c (.sl (primes3.map c3)) :: I ((primes3.length : Int)) :: I t23 :: bt 8 (.ow 496 :: I ((y32.length : Int)) :: I t46 :: bt 26 []))), [(496, .arr 25 3 (y32.map c25)), (280, .arr 25 3 (l34.map c25)), (232, .mp mb29 (l35.map kv78)), (64, .box [Ti y9.1, Ti y9.2.1, Ti y9.2.2])]⟩) ?_ ?_
              ·refine XR 2 ?_
               refine XL_nil ?_
               subst ht46
               kernel_rfl
              exact ⟨n, Nat.lt_succ_self n, _, _, _,  by rfl, h⟩
            ·have h := of_false h hc38
             refine V_exit ?_
             obtain rfl := some_inj h
             show St.keep _ _ _ = _
             rfl
          show V _ _ _ _
          obtain ⟨t47, ht47, h⟩ := of_sI h
          refine V_reg (mb 91 15762598695800580) [280, 232, 64] (s1 := ⟨.bot :: .bot :: .c (.sl (primes3.map c3)) :: bt 5 (.pt 64 0 :: .c (.v (.map (some mb29))) :: .ow 280 :: I i12 :: bt 39 (.c (.sl (primes3.map c3)) :: I ((primes3.length : Int)) :: I t47 :: bt 37 [])), [(280, .arr 25 3 (o37.1.map c25)), (232, .mp mb29 (o37.2.map kv78)), (64, .box [Ti y9.1, Ti y9.2.1, Ti y9.2.2])]⟩) ?_ ?_
          ·refine XR 2 ?_
           refine XL_nil ?_
           subst ht47
           kernel_rfl
          exact ⟨n, Nat.lt_succ_self n, _, _, _,  by rfl, h⟩
         ·have h := of_false h hc28
          refine V_exit ?_
          obtain rfl := some_inj h
          show St.keep _ _ _ = _
          rfl
       show V _ _ _ _
       obtain ⟨i48, hi48, h⟩ := of_sI h
       refine V_reg (mb 91 3844) [280, 232, 64] (s1 := ⟨.bot :: .bot :: .c (.sl (primes3.map c3)) :: bt 5 (.pt 64 0 :: .c (.v (.map (some mb29))) :: .ow 280 :: I i48 :: bt 79 []), [(280, .arr 25 3 (o27.1.map c25)), (232, .mp mb29 (o27.2.map kv78)), (64, .box [Ti y9.1, Ti y9.2.1, Ti y9.2.2])]⟩) ?_ ?_
       ·refine XR 3 ?_
        refine XL_nil ?_
        subst hi48
        kernel_rfl
       exact ⟨n, Nat.lt_succ_self n, _, _, _,  by rfl, h⟩
     ·have h := of_false h hc17
      refine V_exit ?_
      obtain rfl := some_inj h
      exact ⟨_, rfl, by rfl⟩
   rintro o16 rfl
   have h := hko16
   clear hko16
   show V _ _ _ _
   refine V_e (mb 91 192) [] (s1 := ⟨bt 6 (I 0 :: Bo false :: bt 83 []), []⟩) ?_
   refine V_ret ?_
   obtain rfl := some_inj h
   show Post _ _ _ _ _
   exact ⟨.inr rfl, rfl, rfl, rfl⟩
theorem cf_spec_nuGood : ∀ args w, (callFunc 143 args).run Try.prog w = .ok (.enter 143 args) w := run_callFunc Try.func143 (by kernel_rfl) (by kernel_rfl)
theorem s_spec_nuGood {vn1 : Int} {r : Bool} (h : r_spec_nuGood vn1 = some r) : CallS Try.prog 143 [I vn1] (Bo r) [] := by
  refine CallS_of_text (rs := [.t 2]) (vs := [.tmp 2]) Try.func143 rfl rfl (.cons rfl FitsL.nil) (by decide) 5 rfl ?_
  unfold r_spec_nuGood at h
  show V _ _ ⟨I vn1 :: bt 4 [], []⟩ _
  refine V_e (mb 5 1) [] (s1 := ⟨I vn1 :: bt 4 [], []⟩) ?_
  obtain ⟨y2, hy2, h⟩ := of_bind h
  refine V_sreg (mb 5 4) [] (s1 := ⟨.bot :: .bot :: Bo y2 :: .bot :: .bot :: [], []⟩) ?_ ?_
  ·refine XR 1 ?_
   refine XC (s_spec_l1In hy2) cf_spec_l1In rfl rfl rfl ?_
   exact XE
  refine V_ret ?_
  obtain rfl := some_inj h
  show Post _ _ _ _ _
  exact ⟨.inr rfl, rfl, rfl, rfl⟩
end Go.Proofs.Ytafomkclmkfjeaa
