/-
  The functions of the program compute what the plain functions say: more of them.
  Conditions: none.
-/
import Derived.Test.YtafomkclmkfjeaaGreatIsSnd2
namespace Go.Proofs.YtafomkclmkfjeaaGreat
open Go.RowKit
set_option linter.unusedVariables false
set_option linter.unusedSimpArgs false
set_option maxRecDepth 100000
set_option maxHeartbeats 400000
theorem cf_impl_isLattice : ∀ args w, (callFunc 107 args).run Tryz.prog w = .ok (.enter 107 args) w := run_callFunc Tryz.func107 (by kernel_rfl) (by kernel_rfl)
theorem s_impl_isLattice {l1 : (Int × Int × Int)} {r : Bool} (h : r_impl_isLattice l1 = some r) : CallS Tryz.prog 107 [.ag [Ti l1.1, Ti l1.2.1, Ti l1.2.2]] (Bo r) [] := by
  refine CallS_of_text (rs := [.t 2]) (vs := [.tmp 2]) Tryz.func107 rfl rfl (.cons rfl FitsL.nil) (by decide) 33 rfl ?_
  unfold r_impl_isLattice at h
  show V _ _ ⟨.ag [Ti l1.1, Ti l1.2.1, Ti l1.2.2] :: bt 32 [], []⟩ _
  refine V_e (mb 33 2) [8] (s1 := ⟨.bot :: .pt 8 0 :: bt 31 [], [(8, .box [Ti l1.1, Ti l1.2.1, Ti l1.2.2])]⟩) ?_
  obtain ⟨t7, ht7, h⟩ := of_bind h
  have ht7 := some_inj ht7
  refine V_sreg (mb 33 4) [] (s1 := ⟨.bot :: .bot :: Bo t7 :: bt 30 [], []⟩) ?_ ?_
  ·refine XR 4 ?_
   refine XL_split (leI 1 l1.1) (fun hc2 => ?_) (fun hc2 => ?_)
   ·refine XL_takeC _ rfl rfl (by kernel_rfl) hc2 (X_of_Y0 rfl (E_field (.pt 8 0) Tryz.underlying62 rfl sz3 rfl (by kernel_rfl) (by intro hh; cases hh))) ?_
    refine XL_takeC _ rfl rfl (by kernel_rfl) hc2 (X_of_Y0 rfl (Y0_load1 (c := Ti l1.1) (cs := [Ti l1.2.1, Ti l1.2.2]) sc3 rfl (by kernel_rfl))) ?_
    refine XL_takeC _ rfl rfl (by kernel_rfl) hc2 (X_of_Y0 rfl (Y0_lew (k := .i64) (a := l1.1) (b := 1000) rfl (by kernel_rfl) (by kernel_rfl))) ?_
    refine XL_cons rfl (X_of_Y0 rfl (Y0_pick1 (b := leI 1 l1.1) (p := leI l1.1 1000) (q := false) rfl (by kernel_rfl) hc2 (by kernel_rfl))) ?_
    refine XR 1 ?_
    refine XL_split (bif (leI 1 l1.1) then (leI l1.1 1000) else false) (fun hc3 => ?_) (fun hc3 => ?_)
    ·refine XL_takeC _ rfl rfl (by kernel_rfl) hc3 (X_of_Y0 rfl (E_field (.pt 8 2) Tryz.underlying62 rfl sz3 rfl (by kernel_rfl) (by intro hh; cases hh))) ?_
     refine XL_takeC _ rfl rfl (by kernel_rfl) hc3 (X_of_Y0 rfl (Y0_load1 (c := Ti l1.2.2) (cs := []) sc3 rfl (by kernel_rfl))) ?_
     refine XL_takeC _ rfl rfl (by kernel_rfl) hc3 (X_of_Y0 rfl (Y0_gew (k := .i64) (a := l1.2.2) (b := 1) rfl (by kernel_rfl) (by kernel_rfl))) ?_
     refine XL_cons rfl (X_of_Y0 rfl (Y0_pick1 (b := bif (leI 1 l1.1) then (leI l1.1 1000) else false) (p := leI 1 l1.2.2) (q := false) rfl (by kernel_rfl) hc3 (by kernel_rfl))) ?_
     refine XR 1 ?_
     refine XL_split (bif (bif (leI 1 l1.1) then (leI l1.1 1000) else false) then (leI 1 l1.2.2) else false) (fun hc4 => ?_) (fun hc4 => ?_)
     ·refine XL_takeC _ rfl rfl (by kernel_rfl) hc4 (X_of_Y0 rfl (E_field (.pt 8 2) Tryz.underlying62 rfl sz3 rfl (by kernel_rfl) (by intro hh; cases hh))) ?_
      refine XL_takeC _ rfl rfl (by kernel_rfl) hc4 (X_of_Y0 rfl (Y0_load1 (c := Ti l1.2.2) (cs := []) sc3 rfl (by kernel_rfl))) ?_
      refine XL_takeC _ rfl rfl (by kernel_rfl) hc4 (X_of_Y0 rfl (Y0_lew (k := .i64) (a := l1.2.2) (b := 1000) rfl (by kernel_rfl) (by kernel_rfl))) ?_
      refine XL_cons rfl (X_of_Y0 rfl (Y0_pick1 (b := bif (bif (leI 1 l1.1) then (leI l1.1 1000) else false) then (leI 1 l1.2.2) else false) (p := leI l1.2.2 1000) (q := false) rfl (by kernel_rfl) hc4 (by kernel_rfl))) ?_
      refine XR 1 ?_
      refine XL_split (bif (bif (bif (leI 1 l1.1) then (leI l1.1 1000) else false) then (leI 1 l1.2.2) else false) then (leI l1.2.2 1000) else false) (fun hc5 => ?_) (fun hc5 => ?_)
      ·refine XL_takeC _ rfl rfl (by kernel_rfl) hc5 (X_of_Y0 rfl (E_field (.pt 8 1) Tryz.underlying62 rfl sz3 rfl (by kernel_rfl) (by intro hh; cases hh))) ?_
       refine XL_takeC _ rfl rfl (by kernel_rfl) hc5 (X_of_Y0 rfl (Y0_load1 (c := Ti l1.2.1) (cs := [Ti l1.2.2]) sc3 rfl (by kernel_rfl))) ?_
       refine XL_takeC _ rfl rfl (by kernel_rfl) hc5 (X_of_Y0 rfl (Y0_gew (k := .i64) (a := l1.2.1) (b := 0) rfl (by kernel_rfl) (by kernel_rfl))) ?_
       refine XL_cons rfl (X_of_Y0 rfl (Y0_pick1 (b := bif (bif (bif (leI 1 l1.1) then (leI l1.1 1000) else false) then (leI 1 l1.2.2) else false) then (leI l1.2.2 1000) else false) (p := leI 0 l1.2.1) (q := false) rfl (by kernel_rfl) hc5 (by kernel_rfl))) ?_
       refine XR 1 ?_
       refine XL_split (bif (bif (bif (bif (leI 1 l1.1) then (leI l1.1 1000) else false) then (leI 1 l1.2.2) else false) then (leI l1.2.2 1000) else false) then (leI 0 l1.2.1) else false) (fun hc6 => ?_) (fun hc6 => ?_)
       ·refine XL_takeC _ rfl rfl (by kernel_rfl) hc6 (X_of_Y0 rfl (E_field (.pt 8 1) Tryz.underlying62 rfl sz3 rfl (by kernel_rfl) (by intro hh; cases hh))) ?_
        refine XL_takeC _ rfl rfl (by kernel_rfl) hc6 (X_of_Y0 rfl (Y0_load1 (c := Ti l1.2.1) (cs := [Ti l1.2.2]) sc3 rfl (by kernel_rfl))) ?_
        refine XL_takeC _ rfl rfl (by kernel_rfl) hc6 (X_of_Y0 rfl (E_field (.pt 8 0) Tryz.underlying62 rfl sz3 rfl (by kernel_rfl) (by intro hh; cases hh))) ?_
        refine XL_takeC _ rfl rfl (by kernel_rfl) hc6 (X_of_Y0 rfl (Y0_load1 (c := Ti l1.1) (cs := [Ti l1.2.1, Ti l1.2.2]) sc3 rfl (by kernel_rfl))) ?_
        refine XL_takeC _ rfl rfl (by kernel_rfl) hc6 (X_of_Y0 rfl (Y0_ltw (k := .i64) (a := l1.2.1) (b := l1.1) rfl (by kernel_rfl) (by kernel_rfl))) ?_
        refine XL_cons rfl (X_of_Y0 rfl (Y0_pick1 (b := bif (bif (bif (bif (leI 1 l1.1) then (leI l1.1 1000) else false) then (leI 1 l1.2.2) else false) then (leI l1.2.2 1000) else false) then (leI 0 l1.2.1) else false) (p := ltI l1.2.1 l1.1) (q := false) rfl (by kernel_rfl) hc6 (by kernel_rfl))) ?_
        refine XR 1 ?_
        refine XL_nil ?_
        subst ht7
        kernel_rfl
       ·refine XL_skipT _ rfl rfl (by kernel_rfl) hc6 rfl ?_
        refine XL_skipT _ rfl rfl (by kernel_rfl) hc6 rfl ?_
        refine XL_skipT _ rfl rfl (by kernel_rfl) hc6 rfl ?_
        refine XL_skipT _ rfl rfl (by kernel_rfl) hc6 rfl ?_
        refine XL_skipT _ rfl rfl (by kernel_rfl) hc6 rfl ?_
        refine XL_cons rfl (X_of_Y0 rfl (Y0_pick0 (b := bif (bif (bif (bif (leI 1 l1.1) then (leI l1.1 1000) else false) then (leI 1 l1.2.2) else false) then (leI l1.2.2 1000) else false) then (leI 0 l1.2.1) else false) (p := ltI l1.2.1 l1.1) (q := false) rfl (by kernel_rfl) hc6 (by kernel_rfl))) ?_
        refine XR 1 ?_
        refine XL_nil ?_
        subst ht7
        kernel_rfl
      ·refine XL_skipT _ rfl rfl (by kernel_rfl) hc5 rfl ?_
       refine XL_skipT _ rfl rfl (by kernel_rfl) hc5 rfl ?_
       refine XL_skipT _ rfl rfl (by kernel_rfl) hc5 rfl ?_
       refine XL_cons rfl (X_of_Y0 rfl (Y0_pick0 (b := bif (bif (bif (leI 1 l1.1) then (leI l1.1 1000) else false) then (leI 1 l1.2.2) else false) then (leI l1.2.2 1000) else false) (p := leI 0 l1.2.1) (q := false) rfl (by kernel_rfl) hc5 (by kernel_rfl))) ?_
       refine XR 1 ?_
       refine XL_split (bif (bif (bif (bif (leI 1 l1.1) then (leI l1.1 1000) else false) then (leI 1 l1.2.2) else false) then (leI l1.2.2 1000) else false) then (leI 0 l1.2.1) else false) (fun hc6 => ?_) (fun hc6 => ?_)
       ·refine XL_takeC _ rfl rfl (by kernel_rfl) hc6 (X_of_Y0 rfl (E_field (.pt 8 1) Tryz.underlying62 rfl sz3 rfl (by kernel_rfl) (by intro hh; cases hh))) ?_
        refine XL_takeC _ rfl rfl (by kernel_rfl) hc6 (X_of_Y0 rfl (Y0_load1 (c := Ti l1.2.1) (cs := [Ti l1.2.2]) sc3 rfl (by kernel_rfl))) ?_
        refine XL_takeC _ rfl rfl (by kernel_rfl) hc6 (X_of_Y0 rfl (E_field (.pt 8 0) Tryz.underlying62 rfl sz3 rfl (by kernel_rfl) (by intro hh; cases hh))) ?_
        refine XL_takeC _ rfl rfl (by kernel_rfl) hc6 (X_of_Y0 rfl (Y0_load1 (c := Ti l1.1) (cs := [Ti l1.2.1, Ti l1.2.2]) sc3 rfl (by kernel_rfl))) ?_
        refine XL_takeC _ rfl rfl (by kernel_rfl) hc6 (X_of_Y0 rfl (Y0_ltw (k := .i64) (a := l1.2.1) (b := l1.1) rfl (by kernel_rfl) (by kernel_rfl))) ?_
        refine XL_cons rfl (X_of_Y0 rfl (Y0_pick1 (b := bif (bif (bif (bif (leI 1 l1.1) then (leI l1.1 1000) else false) then (leI 1 l1.2.2) else false) then (leI l1.2.2 1000) else false) then (leI 0 l1.2.1) else false) (p := ltI l1.2.1 l1.1) (q := false) rfl (by kernel_rfl) hc6 (by kernel_rfl))) ?_
        refine XR 1 ?_
        refine XL_nil ?_
        subst ht7
        kernel_rfl
       ·refine XL_skipT _ rfl rfl (by kernel_rfl) hc6 rfl ?_
        refine XL_skipT _ rfl rfl (by kernel_rfl) hc6 rfl ?_
        refine XL_skipT _ rfl rfl (by kernel_rfl) hc6 rfl ?_
        refine XL_skipT _ rfl rfl (by kernel_rfl) hc6 rfl ?_
        refine XL_skipT _ rfl rfl (by kernel_rfl) hc6 rfl ?_
        refine XL_cons rfl (X_of_Y0 rfl (Y0_pick0 (b := bif (bif (bif (bif (leI 1 l1.1) then (leI l1.1 1000) else false) then (leI 1 l1.2.2) else false) then (leI l1.2.2 1000) else false) then (leI 0 l1.2.1) else false) (p := ltI l1.2.1 l1.1) (q := false) rfl (by kernel_rfl) hc6 (by kernel_rfl))) ?_
        refine XR 1 ?_
        refine XL_nil ?_
        subst ht7
        kernel_rfl
     ·refine XL_skipT _ rfl rfl (by kernel_rfl) hc4 rfl ?_
      refine XL_skipT _ rfl rfl (by kernel_rfl) hc4 rfl ?_
      refine XL_skipT _ rfl rfl (by kernel_rfl) hc4 rfl ?_
      refine XL_cons rfl (X_of_Y0 rfl (Y0_pick0 (b := bif (bif (leI 1 l1.1) then (leI l1.1 1000) else false) then (leI 1 l1.2.2) else false) (p := leI l1.2.2 1000) (q := false) rfl (by kernel_rfl) hc4 (by kernel_rfl))) ?_
      refine XR 1 ?_
      refine XL_split (bif (bif (bif (leI 1 l1.1) then (leI l1.1 1000) else false) then (leI 1 l1.2.2) else false) then (leI l1.2.2 1000) else false) (fun hc5 => ?_) (fun hc5 => ?_)
      ·refine XL_takeC _ rfl rfl (by kernel_rfl) hc5 (X_of_Y0 rfl (E_field (.pt 8 1) Tryz.underlying62 rfl sz3 rfl (by kernel_rfl) (by intro hh; cases hh))) ?_
       refine XL_takeC _ rfl rfl (by kernel_rfl) hc5 (X_of_Y0 rfl (Y0_load1 (c := Ti l1.2.1) (cs := [Ti l1.2.2]) sc3 rfl (by kernel_rfl))) ?_
       refine XL_takeC _ rfl rfl (by kernel_rfl) hc5 (X_of_Y0 rfl (Y0_gew (k := .i64) (a := l1.2.1) (b := 0) rfl (by kernel_rfl) (by kernel_rfl))) ?_
       refine XL_cons rfl (X_of_Y0 rfl (Y0_pick1 (b := bif (bif (bif (leI 1 l1.1) then (leI l1.1 1000) else false) then (leI 1 l1.2.2) else false) then (leI l1.2.2 1000) else false) (p := leI 0 l1.2.1) (q := false) rfl (by kernel_rfl) hc5 (by kernel_rfl))) ?_
       refine XR 1 ?_
       refine XL_split (bif (bif (bif (bif (leI 1 l1.1) then (leI l1.1 1000) else false) then (leI 1 l1.2.2) else false) then (leI l1.2.2 1000) else false) then (leI 0 l1.2.1) else false) (fun hc6 => ?_) (fun hc6 => ?_)
       ·refine XL_takeC _ rfl rfl (by kernel_rfl) hc6 (X_of_Y0 rfl (E_field (.pt 8 1) Tryz.underlying62 rfl sz3 rfl (by kernel_rfl) (by intro hh; cases hh))) ?_
        refine XL_takeC _ rfl rfl (by kernel_rfl) hc6 (X_of_Y0 rfl (Y0_load1 (c := Ti l1.2.1) (cs := [Ti l1.2.2]) sc3 rfl (by kernel_rfl))) ?_
        refine XL_takeC _ rfl rfl (by kernel_rfl) hc6 (X_of_Y0 rfl (E_field (.pt 8 0) Tryz.underlying62 rfl sz3 rfl (by kernel_rfl) (by intro hh; cases hh))) ?_
        refine XL_takeC _ rfl rfl (by kernel_rfl) hc6 (X_of_Y0 rfl (Y0_load1 (c := Ti l1.1) (cs := [Ti l1.2.1, Ti l1.2.2]) sc3 rfl (by kernel_rfl))) ?_
        refine XL_takeC _ rfl rfl (by kernel_rfl) hc6 (X_of_Y0 rfl (Y0_ltw (k := .i64) (a := l1.2.1) (b := l1.1) rfl (by kernel_rfl) (by kernel_rfl))) ?_
        refine XL_cons rfl (X_of_Y0 rfl (Y0_pick1 (b := bif (bif (bif (bif (leI 1 l1.1) then (leI l1.1 1000) else false) then (leI 1 l1.2.2) else false) then (leI l1.2.2 1000) else false) then (leI 0 l1.2.1) else false) (p := ltI l1.2.1 l1.1) (q := false) rfl (by kernel_rfl) hc6 (by kernel_rfl))) ?_
        refine XR 1 ?_
        refine XL_nil ?_
        subst ht7
        kernel_rfl
       ·refine XL_skipT _ rfl rfl (by kernel_rfl) hc6 rfl ?_
        refine XL_skipT _ rfl rfl (by kernel_rfl) hc6 rfl ?_
        refine XL_skipT _ rfl rfl (by kernel_rfl) hc6 rfl ?_
        refine XL_skipT _ rfl rfl (by kernel_rfl) hc6 rfl ?_
        refine XL_skipT _ rfl rfl (by kernel_rfl) hc6 rfl ?_
        refine XL_cons rfl (X_of_Y0 rfl (Y0_pick0 (b := bif (bif (bif (bif (leI 1 l1.1) then (leI l1.1 1000) else false) then (leI 1 l1.2.2) else false) then (leI l1.2.2 1000) else false) then (leI 0 l1.2.1) else false) (p := ltI l1.2.1 l1.1) (q := false) rfl (by kernel_rfl) hc6 (by kernel_rfl))) ?_
        refine XR 1 ?_
        refine XL_nil ?_
        subst ht7
        kernel_rfl
      ·refine XL_skipT _ rfl rfl (by kernel_rfl) hc5 rfl ?_
       refine XL_skipT _ rfl rfl (by kernel_rfl) hc5 rfl ?_
       refine XL_skipT _ rfl rfl (by kernel_rfl) hc5 rfl ?_
       refine XL_cons rfl (X_of_Y0 rfl (Y0_pick0 (b := bif (bif (bif (leI 1 l1.1) then (leI l1.1 1000) else false) then (leI 1 l1.2.2) else false) then (leI l1.2.2 1000) else false) (p := leI 0 l1.2.1) (q := false) rfl (by kernel_rfl) hc5 (by kernel_rfl))) ?_
       refine XR 1 ?_
       refine XL_split (bif (bif (bif (bif (leI 1 l1.1) then (leI l1.1 1000) else false) then (leI 1 l1.2.2) else false) then (leI l1.2.2 1000) else false) then (leI 0 l1.2.1) else false) (fun hc6 => ?_) (fun hc6 => ?_)
       ·refine XL_takeC _ rfl rfl (by kernel_rfl) hc6 (X_of_Y0 rfl (E_field (.pt 8 1) Tryz.underlying62 rfl sz3 rfl (by kernel_rfl) (by intro hh; cases hh))) ?_
        refine XL_takeC _ rfl rfl (by kernel_rfl) hc6 (X_of_Y0 rfl (Y0_load1 (c := Ti l1.2.1) (cs := [Ti l1.2.2]) sc3 rfl (by kernel_rfl))) ?_
        refine XL_takeC _ rfl rfl (by kernel_rfl) hc6 (X_of_Y0 rfl (E_field (.pt 8 0) Tryz.underlying62 rfl sz3 rfl (by kernel_rfl) (by intro hh; cases hh))) ?_
        refine XL_takeC _ rfl rfl (by kernel_rfl) hc6 (X_of_Y0 rfl (Y0_load1 (c := Ti l1.1) (cs := [Ti l1.2.1, Ti l1.2.2]) sc3 rfl (by kernel_rfl))) ?_
        refine XL_takeC _ rfl rfl (by kernel_rfl) hc6 (X_of_Y0 rfl (Y0_ltw (k := .i64) (a := l1.2.1) (b := l1.1) rfl (by kernel_rfl) (by kernel_rfl))) ?_
        refine XL_cons rfl (X_of_Y0 rfl (Y0_pick1 (b := bif (bif (bif (bif (leI 1 l1.1) then (leI l1.1 1000) else false) then (leI 1 l1.2.2) else false) then (leI l1.2.2 1000) else false) then (leI 0 l1.2.1) else false) (p := ltI l1.2.1 l1.1) (q := false) rfl (by kernel_rfl) hc6 (by kernel_rfl))) ?_
        refine XR 1 ?_
        refine XL_nil ?_
        subst ht7
        kernel_rfl
       ·refine XL_skipT _ rfl rfl (by kernel_rfl) hc6 rfl ?_
        refine XL_skipT _ rfl rfl (by kernel_rfl) hc6 rfl ?_
        refine XL_skipT _ rfl rfl (by kernel_rfl) hc6 rfl ?_
        refine XL_skipT _ rfl rfl (by kernel_rfl) hc6 rfl ?_
        refine XL_skipT _ rfl rfl (by kernel_rfl) hc6 rfl ?_
        refine XL_cons rfl (X_of_Y0 rfl (Y0_pick0 (b := bif (bif (bif (bif (leI 1 l1.1) then (leI l1.1 1000) else false) then (leI 1 l1.2.2) else false) then (leI l1.2.2 1000) else false) then (leI 0 l1.2.1) else false) (p := ltI l1.2.1 l1.1) (q := false) rfl (by kernel_rfl) hc6 (by kernel_rfl))) ?_
        refine XR 1 ?_
        refine XL_nil ?_
        subst ht7
        kernel_rfl
    ·refine XL_skipT _ rfl rfl (by kernel_rfl) hc3 rfl ?_
     refine XL_skipT _ rfl rfl (by kernel_rfl) hc3 rfl ?_
     refine XL_skipT _ rfl rfl (by kernel_rfl) hc3 rfl ?_
     refine XL_cons rfl (X_of_Y0 rfl (Y0_pick0 (b := bif (leI 1 l1.1) then (leI l1.1 1000) else false) (p := leI 1 l1.2.2) (q := false) rfl (by kernel_rfl) hc3 (by kernel_rfl))) ?_
     refine XR 1 ?_
     refine XL_split (bif (bif (leI 1 l1.1) then (leI l1.1 1000) else false) then (leI 1 l1.2.2) else false) (fun hc4 => ?_) (fun hc4 => ?_)
     ·refine XL_takeC _ rfl rfl (by kernel_rfl) hc4 (X_of_Y0 rfl (E_field (.pt 8 2) Tryz.underlying62 rfl sz3 rfl (by kernel_rfl) (by intro hh; cases hh))) ?_
      refine XL_takeC _ rfl rfl (by kernel_rfl) hc4 (X_of_Y0 rfl (Y0_load1 (c := Ti l1.2.2) (cs := []) sc3 rfl (by kernel_rfl))) ?_
      refine XL_takeC _ rfl rfl (by kernel_rfl) hc4 (X_of_Y0 rfl (Y0_lew (k := .i64) (a := l1.2.2) (b := 1000) rfl (by kernel_rfl) (by kernel_rfl))) ?_
      refine XL_cons rfl (X_of_Y0 rfl (Y0_pick1 (b := bif (bif (leI 1 l1.1) then (leI l1.1 1000) else false) then (leI 1 l1.2.2) else false) (p := leI l1.2.2 1000) (q := false) rfl (by kernel_rfl) hc4 (by kernel_rfl))) ?_
      refine XR 1 ?_
      refine XL_split (bif (bif (bif (leI 1 l1.1) then (leI l1.1 1000) else false) then (leI 1 l1.2.2) else false) then (leI l1.2.2 1000) else false) (fun hc5 => ?_) (fun hc5 => ?_)
      ·refine XL_takeC _ rfl rfl (by kernel_rfl) hc5 (X_of_Y0 rfl (E_field (.pt 8 1) Tryz.underlying62 rfl sz3 rfl (by kernel_rfl) (by intro hh; cases hh))) ?_
       refine XL_takeC _ rfl rfl (by kernel_rfl) hc5 (X_of_Y0 rfl (Y0_load1 (c := Ti l1.2.1) (cs := [Ti l1.2.2]) sc3 rfl (by kernel_rfl))) ?_
       refine XL_takeC _ rfl rfl (by kernel_rfl) hc5 (X_of_Y0 rfl (Y0_gew (k := .i64) (a := l1.2.1) (b := 0) rfl (by kernel_rfl) (by kernel_rfl))) ?_
       refine XL_cons rfl (X_of_Y0 rfl (Y0_pick1 (b := bif (bif (bif (leI 1 l1.1) then (leI l1.1 1000) else false) then (leI 1 l1.2.2) else false) then (leI l1.2.2 1000) else false) (p := leI 0 l1.2.1) (q := false) rfl (by kernel_rfl) hc5 (by kernel_rfl))) ?_
       refine XR 1 ?_
       refine XL_split (bif (bif (bif (bif (leI 1 l1.1) then (leI l1.1 1000) else false) then (leI 1 l1.2.2) else false) then (leI l1.2.2 1000) else false) then (leI 0 l1.2.1) else false) (fun hc6 => ?_) (fun hc6 => ?_)
       ·refine XL_takeC _ rfl rfl (by kernel_rfl) hc6 (X_of_Y0 rfl (E_field (.pt 8 1) Tryz.underlying62 rfl sz3 rfl (by kernel_rfl) (by intro hh; cases hh))) ?_
        refine XL_takeC _ rfl rfl (by kernel_rfl) hc6 (X_of_Y0 rfl (Y0_load1 (c := Ti l1.2.1) (cs := [Ti l1.2.2]) sc3 rfl (by kernel_rfl))) ?_
        refine XL_takeC _ rfl rfl (by kernel_rfl) hc6 (X_of_Y0 rfl (E_field (.pt 8 0) Tryz.underlying62 rfl sz3 rfl (by kernel_rfl) (by intro hh; cases hh))) ?_
        refine XL_takeC _ rfl rfl (by kernel_rfl) hc6 (X_of_Y0 rfl (Y0_load1 (c := Ti l1.1) (cs := [Ti l1.2.1, Ti l1.2.2]) sc3 rfl (by kernel_rfl))) ?_
        refine XL_takeC _ rfl rfl (by kernel_rfl) hc6 (X_of_Y0 rfl (Y0_ltw (k := .i64) (a := l1.2.1) (b := l1.1) rfl (by kernel_rfl) (by kernel_rfl))) ?_
        refine XL_cons rfl (X_of_Y0 rfl (Y0_pick1 (b := bif (bif (bif (bif (leI 1 l1.1) then (leI l1.1 1000) else false) then (leI 1 l1.2.2) else false) then (leI l1.2.2 1000) else false) then (leI 0 l1.2.1) else false) (p := ltI l1.2.1 l1.1) (q := false) rfl (by kernel_rfl) hc6 (by kernel_rfl))) ?_
        refine XR 1 ?_
        refine XL_nil ?_
        subst ht7
        kernel_rfl
       ·refine XL_skipT _ rfl rfl (by kernel_rfl) hc6 rfl ?_
        refine XL_skipT _ rfl rfl (by kernel_rfl) hc6 rfl ?_
        refine XL_skipT _ rfl rfl (by kernel_rfl) hc6 rfl ?_
        refine XL_skipT _ rfl rfl (by kernel_rfl) hc6 rfl ?_
        refine XL_skipT _ rfl rfl (by kernel_rfl) hc6 rfl ?_
        refine XL_cons rfl (X_of_Y0 rfl (Y0_pick0 (b := bif (bif (bif (bif (leI 1 l1.1) then (leI l1.1 1000) else false) then (leI 1 l1.2.2) else false) then (leI l1.2.2 1000) else false) then (leI 0 l1.2.1) else false) (p := ltI l1.2.1 l1.1) (q := false) rfl (by kernel_rfl) hc6 (by kernel_rfl))) ?_
        refine XR 1 ?_
        refine XL_nil ?_
        subst ht7
        kernel_rfl
      ·refine XL_skipT _ rfl rfl (by kernel_rfl) hc5 rfl ?_
       refine XL_skipT _ rfl rfl (by kernel_rfl) hc5 rfl ?_
       refine XL_skipT _ rfl rfl (by kernel_rfl) hc5 rfl ?_
       refine XL_cons rfl (X_of_Y0 rfl (Y0_pick0 (b := bif (bif (bif (leI 1 l1.1) then (leI l1.1 1000) else false) then (leI 1 l1.2.2) else false) then (leI l1.2.2 1000) else false) (p := leI 0 l1.2.1) (q := false) rfl (by kernel_rfl) hc5 (by kernel_rfl))) ?_
       refine XR 1 ?_
       refine XL_split (bif (bif (bif (bif (leI 1 l1.1) then (leI l1.1 1000) else false) then (leI 1 l1.2.2) else false) then (leI l1.2.2 1000) else false) then (leI 0 l1.2.1) else false) (fun hc6 => ?_) (fun hc6 => ?_)
       ·refine XL_takeC _ rfl rfl (by kernel_rfl) hc6 (X_of_Y0 rfl (E_field (.pt 8 1) Tryz.underlying62 rfl sz3 rfl (by kernel_rfl) (by intro hh; cases hh))) ?_
        refine XL_takeC _ rfl rfl (by kernel_rfl) hc6 (X_of_Y0 rfl (Y0_load1 (c := Ti l1.2.1) (cs := [Ti l1.2.2]) sc3 rfl (by kernel_rfl))) ?_
        refine XL_takeC _ rfl rfl (by kernel_rfl) hc6 (X_of_Y0 rfl (E_field (.pt 8 0) Tryz.underlying62 rfl sz3 rfl (by kernel_rfl) (by intro hh; cases hh))) ?_
        refine XL_takeC _ rfl rfl (by kernel_rfl) hc6 (X_of_Y0 rfl (Y0_load1 (c := Ti l1.1) (cs := [Ti l1.2.1, Ti l1.2.2]) sc3 rfl (by kernel_rfl))) ?_
        refine XL_takeC _ rfl rfl (by kernel_rfl) hc6 (X_of_Y0 rfl (Y0_ltw (k := .i64) (a := l1.2.1) (b := l1.1) rfl (by kernel_rfl) (by kernel_rfl))) ?_
        refine XL_cons rfl (X_of_Y0 rfl (Y0_pick1 (b := bif (bif (bif (bif (leI 1 l1.1) then (leI l1.1 1000) else false) then (leI 1 l1.2.2) else false) then (leI l1.2.2 1000) else false) then (leI 0 l1.2.1) else false) (p := ltI l1.2.1 l1.1) (q := false) rfl (by kernel_rfl) hc6 (by kernel_rfl))) ?_
        refine XR 1 ?_
        refine XL_nil ?_
        subst ht7
        kernel_rfl
       ·refine XL_skipT _ rfl rfl (by kernel_rfl) hc6 rfl ?_
        refine XL_skipT _ rfl rfl (by kernel_rfl) hc6 rfl ?_
        refine XL_skipT _ rfl rfl (by kernel_rfl) hc6 rfl ?_
        refine XL_skipT _ rfl rfl (by kernel_rfl) hc6 rfl ?_
        refine XL_skipT _ rfl rfl (by kernel_rfl) hc6 rfl ?_
        refine XL_cons rfl (X_of_Y0 rfl (Y0_pick0 (b := bif (bif (bif (bif (leI 1 l1.1) then (leI l1.1 1000) else false) then (leI 1 l1.2.2) else false) then (leI l1.2.2 1000) else false) then (leI 0 l1.2.1) else false) (p := ltI l1.2.1 l1.1) (q := false) rfl (by kernel_rfl) hc6 (by kernel_rfl))) ?_
        refine XR 1 ?_
        refine XL_nil ?_
        subst ht7
        kernel_rfl
     ·refine XL_skipT _ rfl rfl (by kernel_rfl) hc4 rfl ?_
      refine XL_skipT _ rfl rfl (by kernel_rfl) hc4 rfl ?_
      refine XL_skipT _ rfl rfl (by kernel_rfl) hc4 rfl ?_
      refine XL_cons rfl (X_of_Y0 rfl (Y0_pick0 (b := bif (bif (leI 1 l1.1) then (leI l1.1 1000) else false) then (leI 1 l1.2.2) else false) (p := leI l1.2.2 1000) (q := false) rfl (by kernel_rfl) hc4 (by kernel_rfl))) ?_
      refine XR 1 ?_
      refine XL_split (bif (bif (bif (leI 1 l1.1) then (leI l1.1 1000) else false) then (leI 1 l1.2.2) else false) then (leI l1.2.2 1000) else false) (fun hc5 => ?_) (fun hc5 => ?_)
      ·refine XL_takeC _ rfl rfl (by kernel_rfl) hc5 (X_of_Y0 rfl (E_field (.pt 8 1) Tryz.underlying62 rfl sz3 rfl (by kernel_rfl) (by intro hh; cases hh))) ?_
       refine XL_takeC _ rfl rfl (by kernel_rfl) hc5 (X_of_Y0 rfl (Y0_load1 (c := Ti l1.2.1) (cs := [Ti l1.2.2]) sc3 rfl (by kernel_rfl))) ?_
       refine XL_takeC _ rfl rfl (by kernel_rfl) hc5 (X_of_Y0 rfl (Y0_gew (k := .i64) (a := l1.2.1) (b := 0) rfl (by kernel_rfl) (by kernel_rfl))) ?_
       refine XL_cons rfl (X_of_Y0 rfl (Y0_pick1 (b := bif (bif (bif (leI 1 l1.1) then (leI l1.1 1000) else false) then (leI 1 l1.2.2) else false) then (leI l1.2.2 1000) else false) (p := leI 0 l1.2.1) (q := false) rfl (by kernel_rfl) hc5 (by kernel_rfl))) ?_
       refine XR 1 ?_
       refine XL_split (bif (bif (bif (bif (leI 1 l1.1) then (leI l1.1 1000) else false) then (leI 1 l1.2.2) else false) then (leI l1.2.2 1000) else false) then (leI 0 l1.2.1) else false) (fun hc6 => ?_) (fun hc6 => ?_)
       ·refine XL_takeC _ rfl rfl (by kernel_rfl) hc6 (X_of_Y0 rfl (E_field (.pt 8 1) Tryz.underlying62 rfl sz3 rfl (by kernel_rfl) (by intro hh; cases hh))) ?_
        refine XL_takeC _ rfl rfl (by kernel_rfl) hc6 (X_of_Y0 rfl (Y0_load1 (c := Ti l1.2.1) (cs := [Ti l1.2.2]) sc3 rfl (by kernel_rfl))) ?_
        refine XL_takeC _ rfl rfl (by kernel_rfl) hc6 (X_of_Y0 rfl (E_field (.pt 8 0) Tryz.underlying62 rfl sz3 rfl (by kernel_rfl) (by intro hh; cases hh))) ?_
        refine XL_takeC _ rfl rfl (by kernel_rfl) hc6 (X_of_Y0 rfl (Y0_load1 (c := Ti l1.1) (cs := [Ti l1.2.1, Ti l1.2.2]) sc3 rfl (by kernel_rfl))) ?_
        refine XL_takeC _ rfl rfl (by kernel_rfl) hc6 (X_of_Y0 rfl (Y0_ltw (k := .i64) (a := l1.2.1) (b := l1.1) rfl (by kernel_rfl) (by kernel_rfl))) ?_
        refine XL_cons rfl (X_of_Y0 rfl (Y0_pick1 (b := bif (bif (bif (bif (leI 1 l1.1) then (leI l1.1 1000) else false) then (leI 1 l1.2.2) else false) then (leI l1.2.2 1000) else false) then (leI 0 l1.2.1) else false) (p := ltI l1.2.1 l1.1) (q := false) rfl (by kernel_rfl) hc6 (by kernel_rfl))) ?_
        refine XR 1 ?_
        refine XL_nil ?_
        subst ht7
        kernel_rfl
       ·refine XL_skipT _ rfl rfl (by kernel_rfl) hc6 rfl ?_
        refine XL_skipT _ rfl rfl (by kernel_rfl) hc6 rfl ?_
        refine XL_skipT _ rfl rfl (by kernel_rfl) hc6 rfl ?_
        refine XL_skipT _ rfl rfl (by kernel_rfl) hc6 rfl ?_
        refine XL_skipT _ rfl rfl (by kernel_rfl) hc6 rfl ?_
        refine XL_cons rfl (X_of_Y0 rfl (Y0_pick0 (b := bif (bif (bif (bif (leI 1 l1.1) then (leI l1.1 1000) else false) then (leI 1 l1.2.2) else false) then (leI l1.2.2 1000) else false) then (leI 0 l1.2.1) else false) (p := ltI l1.2.1 l1.1) (q := false) rfl (by kernel_rfl) hc6 (by kernel_rfl))) ?_
        refine XR 1 ?_
        refine XL_nil ?_
        subst ht7
        kernel_rfl
      ·refine XL_skipT _ rfl rfl (by kernel_rfl) hc5 rfl ?_
       refine XL_skipT _ rfl rfl (by kernel_rfl) hc5 rfl ?_
       refine XL_skipT _ rfl rfl (by kernel_rfl) hc5 rfl ?_
       refine XL_cons rfl (X_of_Y0 rfl (Y0_pick0 (b := bif (bif (bif (leI 1 l1.1) then (leI l1.1 1000) else false) then (leI 1 l1.2.2) else false) then (leI l1.2.2 1000) else false) (p := leI 0 l1.2.1) (q := false) rfl (by kernel_rfl) hc5 (by kernel_rfl))) ?_
       refine XR 1 ?_
       refine XL_split (bif (bif (bif (bif (leI 1 l1.1) then (leI l1.1 1000) else false) then (leI 1 l1.2.2) else false) then (leI l1.2.2 1000) else false) then (leI 0 l1.2.1) else false) (fun hc6 => ?_) (fun hc6 => ?_)
       ·refine XL_takeC _ rfl rfl (by kernel_rfl) hc6 (X_of_Y0 rfl (E_field (.pt 8 1) Tryz.underlying62 rfl sz3 rfl (by kernel_rfl) (by intro hh; cases hh))) ?_
        refine XL_takeC _ rfl rfl (by kernel_rfl) hc6 (X_of_Y0 rfl (Y0_load1 (c := Ti l1.2.1) (cs := [Ti l1.2.2]) sc3 rfl (by kernel_rfl))) ?_
        refine XL_takeC _ rfl rfl (by kernel_rfl) hc6 (X_of_Y0 rfl (E_field (.pt 8 0) Tryz.underlying62 rfl sz3 rfl (by kernel_rfl) (by intro hh; cases hh))) ?_
        refine XL_takeC _ rfl rfl (by kernel_rfl) hc6 (X_of_Y0 rfl (Y0_load1 (c := Ti l1.1) (cs := [Ti l1.2.1, Ti l1.2.2]) sc3 rfl (by kernel_rfl))) ?_
        refine XL_takeC _ rfl rfl (by kernel_rfl) hc6 (X_of_Y0 rfl (Y0_ltw (k := .i64) (a := l1.2.1) (b := l1.1) rfl (by kernel_rfl) (by kernel_rfl))) ?_
        refine XL_cons rfl (X_of_Y0 rfl (Y0_pick1 (b := bif (bif (bif (bif (leI 1 l1.1) then (leI l1.1 1000) else false) then (leI 1 l1.2.2) else false) then (leI l1.2.2 1000) else false) then (leI 0 l1.2.1) else false) (p := ltI l1.2.1 l1.1) (q := false) rfl (by kernel_rfl) hc6 (by kernel_rfl))) ?_
        refine XR 1 ?_
        refine XL_nil ?_
        subst ht7
        kernel_rfl
       ·refine XL_skipT _ rfl rfl (by kernel_rfl) hc6 rfl ?_
        refine XL_skipT _ rfl rfl (by kernel_rfl) hc6 rfl ?_
        refine XL_skipT _ rfl rfl (by kernel_rfl) hc6 rfl ?_
        refine XL_skipT _ rfl rfl (by kernel_rfl) hc6 rfl ?_
        refine XL_skipT _ rfl rfl (by kernel_rfl) hc6 rfl ?_
        refine XL_cons rfl (X_of_Y0 rfl (Y0_pick0 (b := bif (bif (bif (bif (leI 1 l1.1) then (leI l1.1 1000) else false) then (leI 1 l1.2.2) else false) then (leI l1.2.2 1000) else false) then (leI 0 l1.2.1) else false) (p := ltI l1.2.1 l1.1) (q := false) rfl (by kernel_rfl) hc6 (by kernel_rfl))) ?_
        refine XR 1 ?_
        refine XL_nil ?_
        subst ht7
        kernel_rfl
   ·refine XL_skipT _ rfl rfl (by kernel_rfl) hc2 rfl ?_
    refine XL_skipT _ rfl rfl (by kernel_rfl) hc2 rfl ?_
    refine XL_skipT _ rfl rfl (by kernel_rfl) hc2 rfl ?_
    refine XL_cons rfl (X_of_Y0 rfl (Y0_pick0 (b := leI 1 l1.1) (p := leI l1.1 1000) (q := false) rfl (by kernel_rfl) hc2 (by kernel_rfl))) ?_
    refine XR 1 ?_
    refine XL_split (bif (leI 1 l1.1) then (leI l1.1 1000) else false) (fun hc3 => ?_) (fun hc3 => ?_)
    ·refine XL_takeC _ rfl rfl (by kernel_rfl) hc3 (X_of_Y0 rfl (E_field (.pt 8 2) Tryz.underlying62 rfl sz3 rfl (by kernel_rfl) (by intro hh; cases hh))) ?_
     refine XL_takeC _ rfl rfl (by kernel_rfl) hc3 (X_of_Y0 rfl (Y0_load1 (c := Ti l1.2.2) (cs := []) sc3 rfl (by kernel_rfl))) ?_
     refine XL_takeC _ rfl rfl (by kernel_rfl) hc3 (X_of_Y0 rfl (Y0_gew (k := .i64) (a := l1.2.2) (b := 1) rfl (by kernel_rfl) (by kernel_rfl))) ?_
     refine XL_cons rfl (X_of_Y0 rfl (Y0_pick1 (b := bif (leI 1 l1.1) then (leI l1.1 1000) else false) (p := leI 1 l1.2.2) (q := false) rfl (by kernel_rfl) hc3 (by kernel_rfl))) ?_
     refine XR 1 ?_
     refine XL_split (bif (bif (leI 1 l1.1) then (leI l1.1 1000) else false) then (leI 1 l1.2.2) else false) (fun hc4 => ?_) (fun hc4 => ?_)
     ·refine XL_takeC _ rfl rfl (by kernel_rfl) hc4 (X_of_Y0 rfl (E_field (.pt 8 2) Tryz.underlying62 rfl sz3 rfl (by kernel_rfl) (by intro hh; cases hh))) ?_
      refine XL_takeC _ rfl rfl (by kernel_rfl) hc4 (X_of_Y0 rfl (Y0_load1 (c := Ti l1.2.2) (cs := []) sc3 rfl (by kernel_rfl))) ?_
      refine XL_takeC _ rfl rfl (by kernel_rfl) hc4 (X_of_Y0 rfl (Y0_lew (k := .i64) (a := l1.2.2) (b := 1000) rfl (by kernel_rfl) (by kernel_rfl))) ?_
      refine XL_cons rfl (X_of_Y0 rfl (Y0_pick1 (b := bif (bif (leI 1 l1.1) then (leI l1.1 1000) else false) then (leI 1 l1.2.2) else false) (p := leI l1.2.2 1000) (q := false) rfl (by kernel_rfl) hc4 (by kernel_rfl))) ?_
      refine XR 1 ?_
      refine XL_split (bif (bif (bif (leI 1 l1.1) then (leI l1.1 1000) else false) then (leI 1 l1.2.2) else false) then (leI l1.2.2 1000) else false) (fun hc5 => ?_) (fun hc5 => ?_)
      ·refine XL_takeC _ rfl rfl (by kernel_rfl) hc5 (X_of_Y0 rfl (E_field (.pt 8 1) Tryz.underlying62 rfl sz3 rfl (by kernel_rfl) (by intro hh; cases hh))) ?_
       refine XL_takeC _ rfl rfl (by kernel_rfl) hc5 (X_of_Y0 rfl (Y0_load1 (c := Ti l1.2.1) (cs := [Ti l1.2.2]) sc3 rfl (by kernel_rfl))) ?_
       refine XL_takeC _ rfl rfl (by kernel_rfl) hc5 (X_of_Y0 rfl (Y0_gew (k := .i64) (a := l1.2.1) (b := 0) rfl (by kernel_rfl) (by kernel_rfl))) ?_
       refine XL_cons rfl (X_of_Y0 rfl (Y0_pick1 (b := bif (bif (bif (leI 1 l1.1) then (leI l1.1 1000) else false) then (leI 1 l1.2.2) else false) then (leI l1.2.2 1000) else false) (p := leI 0 l1.2.1) (q := false) rfl (by kernel_rfl) hc5 (by kernel_rfl))) ?_
       refine XR 1 ?_
       refine XL_split (bif (bif (bif (bif (leI 1 l1.1) then (leI l1.1 1000) else false) then (leI 1 l1.2.2) else false) then (leI l1.2.2 1000) else false) then (leI 0 l1.2.1) else false) (fun hc6 => ?_) (fun hc6 => ?_)
       ·refine XL_takeC _ rfl rfl (by kernel_rfl) hc6 (X_of_Y0 rfl (E_field (.pt 8 1) Tryz.underlying62 rfl sz3 rfl (by kernel_rfl) (by intro hh; cases hh))) ?_
        refine XL_takeC _ rfl rfl (by kernel_rfl) hc6 (X_of_Y0 rfl (Y0_load1 (c := Ti l1.2.1) (cs := [Ti l1.2.2]) sc3 rfl (by kernel_rfl))) ?_
        refine XL_takeC _ rfl rfl (by kernel_rfl) hc6 (X_of_Y0 rfl (E_field (.pt 8 0) Tryz.underlying62 rfl sz3 rfl (by kernel_rfl) (by intro hh; cases hh))) ?_
        refine XL_takeC _ rfl rfl (by kernel_rfl) hc6 (X_of_Y0 rfl (Y0_load1 (c := Ti l1.1) (cs := [Ti l1.2.1, Ti l1.2.2]) sc3 rfl (by kernel_rfl))) ?_
        refine XL_takeC _ rfl rfl (by kernel_rfl) hc6 (X_of_Y0 rfl (Y0_ltw (k := .i64) (a := l1.2.1) (b := l1.1) rfl (by kernel_rfl) (by kernel_rfl))) ?_
        refine XL_cons rfl (X_of_Y0 rfl (Y0_pick1 (b := bif (bif (bif (bif (leI 1 l1.1) then (leI l1.1 1000) else false) then (leI 1 l1.2.2) else false) then (leI l1.2.2 1000) else false) then (leI 0 l1.2.1) else false) (p := ltI l1.2.1 l1.1) (q := false) rfl (by kernel_rfl) hc6 (by kernel_rfl))) ?_
        refine XR 1 ?_
        refine XL_nil ?_
        subst ht7
        kernel_rfl
       ·refine XL_skipT _ rfl rfl (by kernel_rfl) hc6 rfl ?_
        refine XL_skipT _ rfl rfl (by kernel_rfl) hc6 rfl ?_
        refine XL_skipT _ rfl rfl (by kernel_rfl) hc6 rfl ?_
        refine XL_skipT _ rfl rfl (by kernel_rfl) hc6 rfl ?_
        refine XL_skipT _ rfl rfl (by kernel_rfl) hc6 rfl ?_
        refine XL_cons rfl (X_of_Y0 rfl (Y0_pick0 (b := bif (bif (bif (bif (leI 1 l1.1) then (leI l1.1 1000) else false) then (leI 1 l1.2.2) else false) then (leI l1.2.2 1000) else false) then (leI 0 l1.2.1) else false) (p := ltI l1.2.1 l1.1) (q := false) rfl (by kernel_rfl) hc6 (by kernel_rfl))) ?_
        refine XR 1 ?_
        refine XL_nil ?_
        subst ht7
        kernel_rfl
      ·refine XL_skipT _ rfl rfl (by kernel_rfl) hc5 rfl ?_
       refine XL_skipT _ rfl rfl (by kernel_rfl) hc5 rfl ?_
       refine XL_skipT _ rfl rfl (by kernel_rfl) hc5 rfl ?_
       refine XL_cons rfl (X_of_Y0 rfl (Y0_pick0 (b := bif (bif (bif (leI 1 l1.1) then (leI l1.1 1000) else false) then (leI 1 l1.2.2) else false) then (leI l1.2.2 1000) else false) (p := leI 0 l1.2.1) (q := false) rfl (by kernel_rfl) hc5 (by kernel_rfl))) ?_
       refine XR 1 ?_
       refine XL_split (bif (bif (bif (bif (leI 1 l1.1) then (leI l1.1 1000) else false) then (leI 1 l1.2.2) else false) then (leI l1.2.2 1000) else false) then (leI 0 l1.2.1) else false) (fun hc6 => ?_) (fun hc6 => ?_)
       ·refine XL_takeC _ rfl rfl (by kernel_rfl) hc6 (X_of_Y0 rfl (E_field (.pt 8 1) Tryz.underlying62 rfl sz3 rfl (by kernel_rfl) (by intro hh; cases hh))) ?_
        refine XL_takeC _ rfl rfl (by kernel_rfl) hc6 (X_of_Y0 rfl (Y0_load1 (c := Ti l1.2.1) (cs := [Ti l1.2.2]) sc3 rfl (by kernel_rfl))) ?_
        refine XL_takeC _ rfl rfl (by kernel_rfl) hc6 (X_of_Y0 rfl (E_field (.pt 8 0) Tryz.underlying62 rfl sz3 rfl (by kernel_rfl) (by intro hh; cases hh))) ?_
        refine XL_takeC _ rfl rfl (by kernel_rfl) hc6 (X_of_Y0 rfl (Y0_load1 (c := Ti l1.1) (cs := [Ti l1.2.1, Ti l1.2.2]) sc3 rfl (by kernel_rfl))) ?_
        refine XL_takeC _ rfl rfl (by kernel_rfl) hc6 (X_of_Y0 rfl (Y0_ltw (k := .i64) (a := l1.2.1) (b := l1.1) rfl (by kernel_rfl) (by kernel_rfl))) ?_
        refine XL_cons rfl (X_of_Y0 rfl (Y0_pick1 (b := bif (bif (bif (bif (leI 1 l1.1) then (leI l1.1 1000) else false) then (leI 1 l1.2.2) else false) then (leI l1.2.2 1000) else false) then (leI 0 l1.2.1) else false) (p := ltI l1.2.1 l1.1) (q := false) rfl (by kernel_rfl) hc6 (by kernel_rfl))) ?_
        refine XR 1 ?_
        refine XL_nil ?_
        subst ht7
        kernel_rfl
       ·refine XL_skipT _ rfl rfl (by kernel_rfl) hc6 rfl ?_
        refine XL_skipT _ rfl rfl (by kernel_rfl) hc6 rfl ?_
        refine XL_skipT _ rfl rfl (by kernel_rfl) hc6 rfl ?_
        refine XL_skipT _ rfl rfl (by kernel_rfl) hc6 rfl ?_
        refine XL_skipT _ rfl rfl (by kernel_rfl) hc6 rfl ?_
        refine XL_cons rfl (X_of_Y0 rfl (Y0_pick0 (b := bif (bif (bif (bif (leI 1 l1.1) then (leI l1.1 1000) else false) then (leI 1 l1.2.2) else false) then (leI l1.2.2 1000) else false) then (leI 0 l1.2.1) else false) (p := ltI l1.2.1 l1.1) (q := false) rfl (by kernel_rfl) hc6 (by kernel_rfl))) ?_
        refine XR 1 ?_
        refine XL_nil ?_
        subst ht7
        kernel_rfl
     ·refine XL_skipT _ rfl rfl (by kernel_rfl) hc4 rfl ?_
      refine XL_skipT _ rfl rfl (by kernel_rfl) hc4 rfl ?_
      refine XL_skipT _ rfl rfl (by kernel_rfl) hc4 rfl ?_
      refine XL_cons rfl (X_of_Y0 rfl (Y0_pick0 (b := bif (bif (leI 1 l1.1) then (leI l1.1 1000) else false) then (leI 1 l1.2.2) else false) (p := leI l1.2.2 1000) (q := false) rfl (by kernel_rfl) hc4 (by kernel_rfl))) ?_
      refine XR 1 ?_
      refine XL_split (bif (bif (bif (leI 1 l1.1) then (leI l1.1 1000) else false) then (leI 1 l1.2.2) else false) then (leI l1.2.2 1000) else false) (fun hc5 => ?_) (fun hc5 => ?_)
      ·refine XL_takeC _ rfl rfl (by kernel_rfl) hc5 (X_of_Y0 rfl (E_field (.pt 8 1) Tryz.underlying62 rfl sz3 rfl (by kernel_rfl) (by intro hh; cases hh))) ?_
       refine XL_takeC _ rfl rfl (by kernel_rfl) hc5 (X_of_Y0 rfl (Y0_load1 (c := Ti l1.2.1) (cs := [Ti l1.2.2]) sc3 rfl (by kernel_rfl))) ?_
       refine XL_takeC _ rfl rfl (by kernel_rfl) hc5 (X_of_Y0 rfl (Y0_gew (k := .i64) (a := l1.2.1) (b := 0) rfl (by kernel_rfl) (by kernel_rfl))) ?_
       refine XL_cons rfl (X_of_Y0 rfl (Y0_pick1 (b := bif (bif (bif (leI 1 l1.1) then (leI l1.1 1000) else false) then (leI 1 l1.2.2) else false) then (leI l1.2.2 1000) else false) (p := leI 0 l1.2.1) (q := false) rfl (by kernel_rfl) hc5 (by kernel_rfl))) ?_
       refine XR 1 ?_
       refine XL_split (bif (bif (bif (bif (leI 1 l1.1) then (leI l1.1 1000) else false) then (leI 1 l1.2.2) else false) then (leI l1.2.2 1000) else false) then (leI 0 l1.2.1) else false) (fun hc6 => ?_) (fun hc6 => ?_)
       ·refine XL_takeC _ rfl rfl (by kernel_rfl) hc6 (X_of_Y0 rfl (E_field (.pt 8 1) Tryz.underlying62 rfl sz3 rfl (by kernel_rfl) (by intro hh; cases hh))) ?_
        refine XL_takeC _ rfl rfl (by kernel_rfl) hc6 (X_of_Y0 rfl (Y0_load1 (c := Ti l1.2.1) (cs := [Ti l1.2.2]) sc3 rfl (by kernel_rfl))) ?_
        refine XL_takeC _ rfl rfl (by kernel_rfl) hc6 (X_of_Y0 rfl (E_field (.pt 8 0) Tryz.underlying62 rfl sz3 rfl (by kernel_rfl) (by intro hh; cases hh))) ?_
        refine XL_takeC _ rfl rfl (by kernel_rfl) hc6 (X_of_Y0 rfl (Y0_load1 (c := Ti l1.1) (cs := [Ti l1.2.1, Ti l1.2.2]) sc3 rfl (by kernel_rfl))) ?_
        refine XL_takeC _ rfl rfl (by kernel_rfl) hc6 (X_of_Y0 rfl (Y0_ltw (k := .i64) (a := l1.2.1) (b := l1.1) rfl (by kernel_rfl) (by kernel_rfl))) ?_
        refine XL_cons rfl (X_of_Y0 rfl (Y0_pick1 (b := bif (bif (bif (bif (leI 1 l1.1) then (leI l1.1 1000) else false) then (leI 1 l1.2.2) else false) then (leI l1.2.2 1000) else false) then (leI 0 l1.2.1) else false) (p := ltI l1.2.1 l1.1) (q := false) rfl (by kernel_rfl) hc6 (by kernel_rfl))) ?_
        refine XR 1 ?_
        refine XL_nil ?_
        subst ht7
        kernel_rfl
       ·refine XL_skipT _ rfl rfl (by kernel_rfl) hc6 rfl ?_
        refine XL_skipT _ rfl rfl (by kernel_rfl) hc6 rfl ?_
        refine XL_skipT _ rfl rfl (by kernel_rfl) hc6 rfl ?_
        refine XL_skipT _ rfl rfl (by kernel_rfl) hc6 rfl ?_
        refine XL_skipT _ rfl rfl (by kernel_rfl) hc6 rfl ?_
        refine XL_cons rfl (X_of_Y0 rfl (Y0_pick0 (b := bif (bif (bif (bif (leI 1 l1.1) then (leI l1.1 1000) else false) then (leI 1 l1.2.2) else false) then (leI l1.2.2 1000) else false) then (leI 0 l1.2.1) else false) (p := ltI l1.2.1 l1.1) (q := false) rfl (by kernel_rfl) hc6 (by kernel_rfl))) ?_
        refine XR 1 ?_
        refine XL_nil ?_
        subst ht7
        kernel_rfl
      ·refine XL_skipT _ rfl rfl (by kernel_rfl) hc5 rfl ?_
       refine XL_skipT _ rfl rfl (by kernel_rfl) hc5 rfl ?_
       refine XL_skipT _ rfl rfl (by kernel_rfl) hc5 rfl ?_
       refine XL_cons rfl (X_of_Y0 rfl (Y0_pick0 (b := bif (bif (bif (leI 1 l1.1) then (leI l1.1 1000) else false) then (leI 1 l1.2.2) else false) then (leI l1.2.2 1000) else false) (p := leI 0 l1.2.1) (q := false) rfl (by kernel_rfl) hc5 (by kernel_rfl))) ?_
       refine XR 1 ?_
       refine XL_split (bif (bif (bif (bif (leI 1 l1.1) then (leI l1.1 1000) else false) then (leI 1 l1.2.2) else false) then (leI l1.2.2 1000) else false) then (leI 0 l1.2.1) else false) (fun hc6 => ?_) (fun hc6 => ?_)
       ·refine XL_takeC _ rfl rfl (by kernel_rfl) hc6 (X_of_Y0 rfl (E_field (.pt 8 1) Tryz.underlying62 rfl sz3 rfl (by kernel_rfl) (by intro hh; cases hh))) ?_
        refine XL_takeC _ rfl rfl (by kernel_rfl) hc6 (X_of_Y0 rfl (Y0_load1 (c := Ti l1.2.1) (cs := [Ti l1.2.2]) sc3 rfl (by kernel_rfl))) ?_
        refine XL_takeC _ rfl rfl (by kernel_rfl) hc6 (X_of_Y0 rfl (E_field (.pt 8 0) Tryz.underlying62 rfl sz3 rfl (by kernel_rfl) (by intro hh; cases hh))) ?_
        refine XL_takeC _ rfl rfl (by kernel_rfl) hc6 (X_of_Y0 rfl (Y0_load1 (c := Ti l1.1) (cs := [Ti l1.2.1, Ti l1.2.2]) sc3 rfl (by kernel_rfl))) ?_
        refine XL_takeC _ rfl rfl (by kernel_rfl) hc6 (X_of_Y0 rfl (Y0_ltw (k := .i64) (a := l1.2.1) (b := l1.1) rfl (by kernel_rfl) (by kernel_rfl))) ?_
        refine XL_cons rfl (X_of_Y0 rfl (Y0_pick1 (b := bif (bif (bif (bif (leI 1 l1.1) then (leI l1.1 1000) else false) then (leI 1 l1.2.2) else false) then (leI l1.2.2 1000) else false) then (leI 0 l1.2.1) else false) (p := ltI l1.2.1 l1.1) (q := false) rfl (by kernel_rfl) hc6 (by kernel_rfl))) ?_
        refine XR 1 ?_
        refine XL_nil ?_
        subst ht7
        kernel_rfl
       ·refine XL_skipT _ rfl rfl (by kernel_rfl) hc6 rfl ?_
        refine XL_skipT _ rfl rfl (by kernel_rfl) hc6 rfl ?_
        refine XL_skipT _ rfl rfl (by kernel_rfl) hc6 rfl ?_
        refine XL_skipT _ rfl rfl (by kernel_rfl) hc6 rfl ?_
        refine XL_skipT _ rfl rfl (by kernel_rfl) hc6 rfl ?_
        refine XL_cons rfl (X_of_Y0 rfl (Y0_pick0 (b := bif (bif (bif (bif (leI 1 l1.1) then (leI l1.1 1000) else false) then (leI 1 l1.2.2) else false) then (leI l1.2.2 1000) else false) then (leI 0 l1.2.1) else false) (p := ltI l1.2.1 l1.1) (q := false) rfl (by kernel_rfl) hc6 (by kernel_rfl))) ?_
        refine XR 1 ?_
        refine XL_nil ?_
        subst ht7
        kernel_rfl
    ·refine XL_skipT _ rfl rfl (by kernel_rfl) hc3 rfl ?_
     refine XL_skipT _ rfl rfl (by kernel_rfl) hc3 rfl ?_
     refine XL_skipT _ rfl rfl (by kernel_rfl) hc3 rfl ?_
     refine XL_cons rfl (X_of_Y0 rfl (Y0_pick0 (b := bif (leI 1 l1.1) then (leI l1.1 1000) else false) (p := leI 1 l1.2.2) (q := false) rfl (by kernel_rfl) hc3 (by kernel_rfl))) ?_
     refine XR 1 ?_
     refine XL_split (bif (bif (leI 1 l1.1) then (leI l1.1 1000) else false) then (leI 1 l1.2.2) else false) (fun hc4 => ?_) (fun hc4 => ?_)
     ·refine XL_takeC _ rfl rfl (by kernel_rfl) hc4 (X_of_Y0 rfl (E_field (.pt 8 2) Tryz.underlying62 rfl sz3 rfl (by kernel_rfl) (by intro hh; cases hh))) ?_
      refine XL_takeC _ rfl rfl (by kernel_rfl) hc4 (X_of_Y0 rfl (Y0_load1 (c := Ti l1.2.2) (cs := []) sc3 rfl (by kernel_rfl))) ?_
      refine XL_takeC _ rfl rfl (by kernel_rfl) hc4 (X_of_Y0 rfl (Y0_lew (k := .i64) (a := l1.2.2) (b := 1000) rfl (by kernel_rfl) (by kernel_rfl))) ?_
      refine XL_cons rfl (X_of_Y0 rfl (Y0_pick1 (b := bif (bif (leI 1 l1.1) then (leI l1.1 1000) else false) then (leI 1 l1.2.2) else false) (p := leI l1.2.2 1000) (q := false) rfl (by kernel_rfl) hc4 (by kernel_rfl))) ?_
      refine XR 1 ?_
      refine XL_split (bif (bif (bif (leI 1 l1.1) then (leI l1.1 1000) else false) then (leI 1 l1.2.2) else false) then (leI l1.2.2 1000) else false) (fun hc5 => ?_) (fun hc5 => ?_)
      ·refine XL_takeC _ rfl rfl (by kernel_rfl) hc5 (X_of_Y0 rfl (E_field (.pt 8 1) Tryz.underlying62 rfl sz3 rfl (by kernel_rfl) (by intro hh; cases hh))) ?_
       refine XL_takeC _ rfl rfl (by kernel_rfl) hc5 (X_of_Y0 rfl (Y0_load1 (c := Ti l1.2.1) (cs := [Ti l1.2.2]) sc3 rfl (by kernel_rfl))) ?_
       refine XL_takeC _ rfl rfl (by kernel_rfl) hc5 (X_of_Y0 rfl (Y0_gew (k := .i64) (a := l1.2.1) (b := 0) rfl (by kernel_rfl) (by kernel_rfl))) ?_
       refine XL_cons rfl (X_of_Y0 rfl (Y0_pick1 (b := bif (bif (bif (leI 1 l1.1) then (leI l1.1 1000) else false) then (leI 1 l1.2.2) else false) then (leI l1.2.2 1000) else false) (p := leI 0 l1.2.1) (q := false) rfl (by kernel_rfl) hc5 (by kernel_rfl))) ?_
       refine XR 1 ?_
       refine XL_split (bif (bif (bif (bif (leI 1 l1.1) then (leI l1.1 1000) else false) then (leI 1 l1.2.2) else false) then (leI l1.2.2 1000) else false) then (leI 0 l1.2.1) else false) (fun hc6 => ?_) (fun hc6 => ?_)
       ·refine XL_takeC _ rfl rfl (by kernel_rfl) hc6 (X_of_Y0 rfl (E_field (.pt 8 1) Tryz.underlying62 rfl sz3 rfl (by kernel_rfl) (by intro hh; cases hh))) ?_
        refine XL_takeC _ rfl rfl (by kernel_rfl) hc6 (X_of_Y0 rfl (Y0_load1 (c := Ti l1.2.1) (cs := [Ti l1.2.2]) sc3 rfl (by kernel_rfl))) ?_
        refine XL_takeC _ rfl rfl (by kernel_rfl) hc6 (X_of_Y0 rfl (E_field (.pt 8 0) Tryz.underlying62 rfl sz3 rfl (by kernel_rfl) (by intro hh; cases hh))) ?_
        refine XL_takeC _ rfl rfl (by kernel_rfl) hc6 (X_of_Y0 rfl (Y0_load1 (c := Ti l1.1) (cs := [Ti l1.2.1, Ti l1.2.2]) sc3 rfl (by kernel_rfl))) ?_
        refine XL_takeC _ rfl rfl (by kernel_rfl) hc6 (X_of_Y0 rfl (Y0_ltw (k := .i64) (a := l1.2.1) (b := l1.1) rfl (by kernel_rfl) (by kernel_rfl))) ?_
        refine XL_cons rfl (X_of_Y0 rfl (Y0_pick1 (b := bif (bif (bif (bif (leI 1 l1.1) then (leI l1.1 1000) else false) then (leI 1 l1.2.2) else false) then (leI l1.2.2 1000) else false) then (leI 0 l1.2.1) else false) (p := ltI l1.2.1 l1.1) (q := false) rfl (by kernel_rfl) hc6 (by kernel_rfl))) ?_
        refine XR 1 ?_
        refine XL_nil ?_
        subst ht7
        kernel_rfl
       ·refine XL_skipT _ rfl rfl (by kernel_rfl) hc6 rfl ?_
        refine XL_skipT _ rfl rfl (by kernel_rfl) hc6 rfl ?_
        refine XL_skipT _ rfl rfl (by kernel_rfl) hc6 rfl ?_
        refine XL_skipT _ rfl rfl (by kernel_rfl) hc6 rfl ?_
        refine XL_skipT _ rfl rfl (by kernel_rfl) hc6 rfl ?_
        refine XL_cons rfl (X_of_Y0 rfl (Y0_pick0 (b := bif (bif (bif (bif (leI 1 l1.1) then (leI l1.1 1000) else false) then (leI 1 l1.2.2) else false) then (leI l1.2.2 1000) else false) then (leI 0 l1.2.1) else false) (p := ltI l1.2.1 l1.1) (q := false) rfl (by kernel_rfl) hc6 (by kernel_rfl))) ?_
        refine XR 1 ?_
        refine XL_nil ?_
        subst ht7
        kernel_rfl
      ·refine XL_skipT _ rfl rfl (by kernel_rfl) hc5 rfl ?_
       refine XL_skipT _ rfl rfl (by kernel_rfl) hc5 rfl ?_
       refine XL_skipT _ rfl rfl (by kernel_rfl) hc5 rfl ?_
       refine XL_cons rfl (X_of_Y0 rfl (Y0_pick0 (b := bif (bif (bif (leI 1 l1.1) then (leI l1.1 1000) else false) then (leI 1 l1.2.2) else false) then (leI l1.2.2 1000) else false) (p := leI 0 l1.2.1) (q := false) rfl (by kernel_rfl) hc5 (by kernel_rfl))) ?_
       refine XR 1 ?_
       refine XL_split (bif (bif (bif (bif (leI 1 l1.1) then (leI l1.1 1000) else false) then (leI 1 l1.2.2) else false) then (leI l1.2.2 1000) else false) then (leI 0 l1.2.1) else false) (fun hc6 => ?_) (fun hc6 => ?_)
       ·refine XL_takeC _ rfl rfl (by kernel_rfl) hc6 (X_of_Y0 rfl (E_field (.pt 8 1) Tryz.underlying62 rfl sz3 rfl (by kernel_rfl) (by intro hh; cases hh))) ?_
        refine XL_takeC _ rfl rfl (by kernel_rfl) hc6 (X_of_Y0 rfl (Y0_load1 (c := Ti l1.2.1) (cs := [Ti l1.2.2]) sc3 rfl (by kernel_rfl))) ?_
        refine XL_takeC _ rfl rfl (by kernel_rfl) hc6 (X_of_Y0 rfl (E_field (.pt 8 0) Tryz.underlying62 rfl sz3 rfl (by kernel_rfl) (by intro hh; cases hh))) ?_
        refine XL_takeC _ rfl rfl (by kernel_rfl) hc6 (X_of_Y0 rfl (Y0_load1 (c := Ti l1.1) (cs := [Ti l1.2.1, Ti l1.2.2]) sc3 rfl (by kernel_rfl))) ?_
        refine XL_takeC _ rfl rfl (by kernel_rfl) hc6 (X_of_Y0 rfl (Y0_ltw (k := .i64) (a := l1.2.1) (b := l1.1) rfl (by kernel_rfl) (by kernel_rfl))) ?_
        refine XL_cons rfl (X_of_Y0 rfl (Y0_pick1 (b := bif (bif (bif (bif (leI 1 l1.1) then (leI l1.1 1000) else false) then (leI 1 l1.2.2) else false) then (leI l1.2.2 1000) else false) then (leI 0 l1.2.1) else false) (p := ltI l1.2.1 l1.1) (q := false) rfl (by kernel_rfl) hc6 (by kernel_rfl))) ?_
        refine XR 1 ?_
        refine XL_nil ?_
        subst ht7
        kernel_rfl
       ·refine XL_skipT _ rfl rfl (by kernel_rfl) hc6 rfl ?_
        refine XL_skipT _ rfl rfl (by kernel_rfl) hc6 rfl ?_
        refine XL_skipT _ rfl rfl (by kernel_rfl) hc6 rfl ?_
        refine XL_skipT _ rfl rfl (by kernel_rfl) hc6 rfl ?_
        refine XL_skipT _ rfl rfl (by kernel_rfl) hc6 rfl ?_
        refine XL_cons rfl (X_of_Y0 rfl (Y0_pick0 (b := bif (bif (bif (bif (leI 1 l1.1) then (leI l1.1 1000) else false) then (leI 1 l1.2.2) else false) then (leI l1.2.2 1000) else false) then (leI 0 l1.2.1) else false) (p := ltI l1.2.1 l1.1) (q := false) rfl (by kernel_rfl) hc6 (by kernel_rfl))) ?_
        refine XR 1 ?_
        refine XL_nil ?_
        subst ht7
        kernel_rfl
     ·refine XL_skipT _ rfl rfl (by kernel_rfl) hc4 rfl ?_
      refine XL_skipT _ rfl rfl (by kernel_rfl) hc4 rfl ?_
      refine XL_skipT _ rfl rfl (by kernel_rfl) hc4 rfl ?_
      refine XL_cons rfl (X_of_Y0 rfl (Y0_pick0 (b := bif (bif (leI 1 l1.1) then (leI l1.1 1000) else false) then (leI 1 l1.2.2) else false) (p := leI l1.2.2 1000) (q := false) rfl (by kernel_rfl) hc4 (by kernel_rfl))) ?_
      refine XR 1 ?_
      refine XL_split (bif (bif (bif (leI 1 l1.1) then (leI l1.1 1000) else false) then (leI 1 l1.2.2) else false) then (leI l1.2.2 1000) else false) (fun hc5 => ?_) (fun hc5 => ?_)
      ·refine XL_takeC _ rfl rfl (by kernel_rfl) hc5 (X_of_Y0 rfl (E_field (.pt 8 1) Tryz.underlying62 rfl sz3 rfl (by kernel_rfl) (by intro hh; cases hh))) ?_
       refine XL_takeC _ rfl rfl (by kernel_rfl) hc5 (X_of_Y0 rfl (Y0_load1 (c := Ti l1.2.1) (cs := [Ti l1.2.2]) sc3 rfl (by kernel_rfl))) ?_
       refine XL_takeC _ rfl rfl (by kernel_rfl) hc5 (X_of_Y0 rfl (Y0_gew (k := .i64) (a := l1.2.1) (b := 0) rfl (by kernel_rfl) (by kernel_rfl))) ?_
       refine XL_cons rfl (X_of_Y0 rfl (Y0_pick1 (b := bif (bif (bif (leI 1 l1.1) then (leI l1.1 1000) else false) then (leI 1 l1.2.2) else false) then (leI l1.2.2 1000) else false) (p := leI 0 l1.2.1) (q := false) rfl (by kernel_rfl) hc5 (by kernel_rfl))) ?_
       refine XR 1 ?_
       refine XL_split (bif (bif (bif (bif (leI 1 l1.1) then (leI l1.1 1000) else false) then (leI 1 l1.2.2) else false) then (leI l1.2.2 1000) else false) then (leI 0 l1.2.1) else false) (fun hc6 => ?_) (fun hc6 => ?_)
       ·refine XL_takeC _ rfl rfl (by kernel_rfl) hc6 (X_of_Y0 rfl (E_field (.pt 8 1) Tryz.underlying62 rfl sz3 rfl (by kernel_rfl) (by intro hh; cases hh))) ?_
        refine XL_takeC _ rfl rfl (by kernel_rfl) hc6 (X_of_Y0 rfl (Y0_load1 (c := Ti l1.2.1) (cs := [Ti l1.2.2]) sc3 rfl (by kernel_rfl))) ?_
        refine XL_takeC _ rfl rfl (by kernel_rfl) hc6 (X_of_Y0 rfl (E_field (.pt 8 0) Tryz.underlying62 rfl sz3 rfl (by kernel_rfl) (by intro hh; cases hh))) ?_
        refine XL_takeC _ rfl rfl (by kernel_rfl) hc6 (X_of_Y0 rfl (Y0_load1 (c := Ti l1.1) (cs := [Ti l1.2.1, Ti l1.2.2]) sc3 rfl (by kernel_rfl))) ?_
        refine XL_takeC _ rfl rfl (by kernel_rfl) hc6 (X_of_Y0 rfl (Y0_ltw (k := .i64) (a := l1.2.1) (b := l1.1) rfl (by kernel_rfl) (by kernel_rfl))) ?_
        refine XL_cons rfl (X_of_Y0 rfl (Y0_pick1 (b := bif (bif (bif (bif (leI 1 l1.1) then (leI l1.1 1000) else false) then (leI 1 l1.2.2) else false) then (leI l1.2.2 1000) else false) then (leI 0 l1.2.1) else false) (p := ltI l1.2.1 l1.1) (q := false) rfl (by kernel_rfl) hc6 (by kernel_rfl))) ?_
        refine XR 1 ?_
        refine XL_nil ?_
        subst ht7
        kernel_rfl
       ·refine XL_skipT _ rfl rfl (by kernel_rfl) hc6 rfl ?_
        refine XL_skipT _ rfl rfl (by kernel_rfl) hc6 rfl ?_
        refine XL_skipT _ rfl rfl (by kernel_rfl) hc6 rfl ?_
        refine XL_skipT _ rfl rfl (by kernel_rfl) hc6 rfl ?_
        refine XL_skipT _ rfl rfl (by kernel_rfl) hc6 rfl ?_
        refine XL_cons rfl (X_of_Y0 rfl (Y0_pick0 (b := bif (bif (bif (bif (leI 1 l1.1) then (leI l1.1 1000) else false) then (leI 1 l1.2.2) else false) then (leI l1.2.2 1000) else false) then (leI 0 l1.2.1) else false) (p := ltI l1.2.1 l1.1) (q := false) rfl (by kernel_rfl) hc6 (by kernel_rfl))) ?_
        refine XR 1 ?_
        refine XL_nil ?_
        subst ht7
        kernel_rfl
      ·refine XL_skipT _ rfl rfl (by kernel_rfl) hc5 rfl ?_
       refine XL_skipT _ rfl rfl (by kernel_rfl) hc5 rfl ?_
       refine XL_skipT _ rfl rfl (by kernel_rfl) hc5 rfl ?_
       refine XL_cons rfl (X_of_Y0 rfl (Y0_pick0 (b := bif (bif (bif (leI 1 l1.1) then (leI l1.1 1000) else false) then (leI 1 l1.2.2) else false) then (leI l1.2.2 1000) else false) (p := leI 0 l1.2.1) (q := false) rfl (by kernel_rfl) hc5 (by kernel_rfl))) ?_
       refine XR 1 ?_
       refine XL_split (bif (bif (bif (bif (leI 1 l1.1) then (leI l1.1 1000) else false) then (leI 1 l1.2.2) else false) then (leI l1.2.2 1000) else false) then (leI 0 l1.2.1) else false) (fun hc6 => ?_) (fun hc6 => ?_)
       ·refine XL_takeC _ rfl rfl (by kernel_rfl) hc6 (X_of_Y0 rfl (E_field (.pt 8 1) Tryz.underlying62 rfl sz3 rfl (by kernel_rfl) (by intro hh; cases hh))) ?_
        refine XL_takeC _ rfl rfl (by kernel_rfl) hc6 (X_of_Y0 rfl (Y0_load1 (c := Ti l1.2.1) (cs := [Ti l1.2.2]) sc3 rfl (by kernel_rfl))) ?_
        refine XL_takeC _ rfl rfl (by kernel_rfl) hc6 (X_of_Y0 rfl (E_field (.pt 8 0) Tryz.underlying62 rfl sz3 rfl (by kernel_rfl) (by intro hh; cases hh))) ?_
        refine XL_takeC _ rfl rfl (by kernel_rfl) hc6 (X_of_Y0 rfl (Y0_load1 (c := Ti l1.1) (cs := [Ti l1.2.1, Ti l1.2.2]) sc3 rfl (by kernel_rfl))) ?_
        refine XL_takeC _ rfl rfl (by kernel_rfl) hc6 (X_of_Y0 rfl (Y0_ltw (k := .i64) (a := l1.2.1) (b := l1.1) rfl (by kernel_rfl) (by kernel_rfl))) ?_
        refine XL_cons rfl (X_of_Y0 rfl (Y0_pick1 (b := bif (bif (bif (bif (leI 1 l1.1) then (leI l1.1 1000) else false) then (leI 1 l1.2.2) else false) then (leI l1.2.2 1000) else false) then (leI 0 l1.2.1) else false) (p := ltI l1.2.1 l1.1) (q := false) rfl (by kernel_rfl) hc6 (by kernel_rfl))) ?_
        refine XR 1 ?_
        refine XL_nil ?_
        subst ht7
        kernel_rfl
       ·refine XL_skipT _ rfl rfl (by kernel_rfl) hc6 rfl ?_
        refine XL_skipT _ rfl rfl (by kernel_rfl) hc6 rfl ?_
        refine XL_skipT _ rfl rfl (by kernel_rfl) hc6 rfl ?_
        refine XL_skipT _ rfl rfl (by kernel_rfl) hc6 rfl ?_
        refine XL_skipT _ rfl rfl (by kernel_rfl) hc6 rfl ?_
        refine XL_cons rfl (X_of_Y0 rfl (Y0_pick0 (b := bif (bif (bif (bif (leI 1 l1.1) then (leI l1.1 1000) else false) then (leI 1 l1.2.2) else false) then (leI l1.2.2 1000) else false) then (leI 0 l1.2.1) else false) (p := ltI l1.2.1 l1.1) (q := false) rfl (by kernel_rfl) hc6 (by kernel_rfl))) ?_
        refine XR 1 ?_
        refine XL_nil ?_
        subst ht7
        kernel_rfl
  refine V_ret ?_
  obtain rfl := some_inj h
  show Post _ _ _ _ _
  exact ⟨.inr rfl, rfl, rfl, rfl⟩
theorem cf_impl_FormOnLattice : ∀ args w, (callFunc 37 args).run Tryz.prog w = .ok (.enter 37 args) w := run_callFunc Tryz.func37 (by kernel_rfl) (by kernel_rfl)
theorem s_impl_FormOnLattice {f1 : (Int × Int × Int)} {l2 : (Int × Int × Int)} {r : (((Int × Int × Int)) × Bool)} (h : r_impl_FormOnLattice f1 l2 = some r) : CallS Tryz.prog 37 [.ag [Ti f1.1, Ti f1.2.1, Ti f1.2.2], .ag [Ti l2.1, Ti l2.2.1, Ti l2.2.2]] (.tc (.ag [Ti r.1.1, Ti r.1.2.1, Ti r.1.2.2]) (.tc (Bo r.2) .tn)) [] := by
  refine CallS_of_text (rs := [.w 4 3, .t 5]) (vs := [.cell 4 25, .tmp 5]) Tryz.func37 rfl rfl (.cons ⟨rfl, wd25⟩ (.cons rfl FitsL.nil)) (by decide) 30 rfl ?_
  unfold r_impl_FormOnLattice at h
  show V _ _ ⟨.ag [Ti f1.1, Ti f1.2.1, Ti f1.2.2] :: .ag [Ti l2.1, Ti l2.2.1, Ti l2.2.2] :: bt 28 [], []⟩ _
  refine V_e (mb 30 28) [32, 24, 16] (s1 := ⟨.bot :: .bot :: .pt 16 0 :: .pt 24 0 :: .pt 32 0 :: bt 25 [], [(32, .box [Ti 0, Ti 0, Ti 0]), (24, .box [Ti l2.1, Ti l2.2.1, Ti l2.2.2]), (16, .box [Ti f1.1, Ti f1.2.1, Ti f1.2.2])]⟩) ?_
  refine V_seq ?_
  obtain ⟨y3, hy3, h⟩ := of_bind h
  obtain ⟨b6, hb6, h⟩ := of_bind h
  refine V_sreg (mb 30 16412) [32, 24, 16] (s1 := ⟨.bot :: .bot :: .pt 16 0 :: .pt 24 0 :: .pt 32 0 :: bt 9 (Bo b6 :: bt 15 []), [(32, .box [Ti 0, Ti 0, Ti 0]), (24, .box [Ti l2.1, Ti l2.2.1, Ti l2.2.2]), (16, .box [Ti f1.1, Ti f1.2.1, Ti f1.2.2])]⟩) ?_ ?_
  ·refine XR 1 ?_
   refine XC (s_impl_isDefinite hy3) cf_impl_isDefinite rfl rfl rfl ?_
   refine XR 2 ?_
   refine XL_split (!y3) (fun hc4 => ?_) (fun hc4 => ?_)
   ·have hb6 := some_inj (of_true hb6 hc4)
    refine XL_skipF _ rfl rfl (by kernel_rfl) hc4 rfl ?_
    refine XL_skipF _ rfl rfl (by kernel_rfl) hc4 rfl ?_
    refine XL_skipF _ rfl rfl (by kernel_rfl) hc4 rfl ?_
    refine XL_cons rfl (X_of_Y0 rfl (Y0_pickTe (b := !y3) (p := true) rfl (by kernel_rfl) hc4 (by kernel_rfl) hb6)) ?_
    exact XE
   ·have hb6 := of_false hb6 hc4
    obtain ⟨y5, hy5, hb6⟩ := of_bind hb6
    have hb6 := some_inj hb6
    refine XL_takeC _ rfl rfl (by kernel_rfl) hc4 (X_of_Y0 rfl (E_loadn (cs := [Ti l2.1, Ti l2.2.1, Ti l2.2.2]) [Ti l2.1, Ti l2.2.1, Ti l2.2.2] wd62 rfl (by kernel_rfl) (Nat.le_of_ble_eq_true rfl) (by kernel_rfl))) ?_
    refine XL_takeC _ rfl rfl (by kernel_rfl) hc4 (X_of_Y1 rfl (Y1_call (s_impl_isLattice hy5) cf_impl_isLattice rfl (by kernel_rfl))) ?_
    refine XL_takeC _ rfl rfl (by kernel_rfl) hc4 (X_of_Y0 rfl (Y0_not (b := y5) rfl (by kernel_rfl))) ?_
    refine XL_cons rfl (X_of_Y0 rfl (Y0_pickFe (b := !y3) (p := !y5) rfl (by kernel_rfl) hc4 (by kernel_rfl) hb6)) ?_
    exact XE
  refine V_cond rfl (fun hc7 => ?_) (fun hc7 => ?_)
  ·have h := of_true h hc7
   refine V_sreg (mb 30 48) [32] (s1 := ⟨bt 4 (.pt 32 0 :: Bo false :: bt 24 []), [(32, .box [Ti 0, Ti 0, Ti 0])]⟩) ?_ ?_
   ·refine L0 rfl rfl (Y0_build (cs := [Ti 0, Ti 0, Ti 0]) pl25 bt25 rfl rfl (by kernel_rfl)) ?_
    exact XE
   refine V_ret ?_
   obtain rfl := some_inj h
   show Post _ _ _ _ _
   exact ⟨.inr rfl, rfl, rfl, rfl⟩
  ·have h := of_false h hc7
   refine V_skip ?_
   show V _ _ _ _
   obtain ⟨y8, hy8, h⟩ := of_bind h
   refine V_sreg (mb 30 80) [48, 32] (s1 := ⟨bt 4 (.pt 32 0 :: .bot :: .pt 48 0 :: bt 23 []), [(48, .box [Ti y8.1, Ti y8.2.1, Ti y8.2.2]), (32, .box [Ti 0, Ti 0, Ti 0])]⟩) ?_ ?_
   ·refine XR 7 ?_
    refine L0 rfl rfl (Y0_build (cs := [Ti l2.1, Ti l2.2.1, Ti 0, Ti l2.2.2]) pl31 bt31 rfl rfl (by kernel_rfl)) ?_
    refine XC (s_impl_Form_substitute hy8) cf_impl_Form_substitute rfl rfl rfl ?_
    exact XE
   refine V_seq ?_
   obtain ⟨y9, hy9, h⟩ := of_bind h
   refine V_sreg (mb 30 134217808) [48, 32] (s1 := ⟨bt 4 (.pt 32 0 :: .bot :: .pt 48 0 :: bt 20 (Bo (!y9) :: .bot :: .bot :: [])), [(48, .box [Ti y8.1, Ti y8.2.1, Ti y8.2.2]), (32, .box [Ti 0, Ti 0, Ti 0])]⟩) ?_ ?_
   ·refine XR 1 ?_
    refine XC (s_impl_IsForm hy9) cf_impl_IsForm rfl rfl rfl ?_
    exact XE
   refine V_cond rfl (fun hc10 => ?_) (fun hc10 => ?_)
   ·have h := of_true h hc10
    refine V_sreg (mb 30 48) [32] (s1 := ⟨bt 4 (.pt 32 0 :: Bo false :: bt 24 []), [(32, .box [Ti 0, Ti 0, Ti 0])]⟩) ?_ ?_
    ·refine L0 rfl rfl (Y0_build (cs := [Ti 0, Ti 0, Ti 0]) pl25 bt25 rfl rfl (by kernel_rfl)) ?_
     exact XE
    refine V_ret ?_
    obtain rfl := some_inj h
    show Post _ _ _ _ _
    exact ⟨.inr rfl, rfl, rfl, rfl⟩
   ·have h := of_false h hc10
    refine V_skip ?_
    show V _ _ _ _
    refine V_e (mb 30 48) [32] (s1 := ⟨bt 4 (.pt 32 0 :: Bo true :: bt 24 []), [(32, .box [Ti y8.1, Ti y8.2.1, Ti y8.2.2])]⟩) ?_
    refine V_ret ?_
    obtain rfl := some_inj h
    show Post _ _ _ _ _
    exact ⟨.inr rfl, rfl, rfl, rfl⟩
theorem cf_impl_isNegativeDisc : ∀ args w, (callFunc 80 args).run Tryz.prog w = .ok (.enter 80 args) w := run_callFunc Tryz.func80 (by kernel_rfl) (by kernel_rfl)
theorem s_impl_isNegativeDisc {d1 : Int} {r : Bool} (h : r_impl_isNegativeDisc d1 = some r) : CallS Tryz.prog 80 [I d1] (Bo r) [] := by
  refine CallS_of_text (rs := [.t 2]) (vs := [.tmp 2]) Tryz.func80 rfl rfl (.cons rfl FitsL.nil) (by decide) 14 rfl ?_
  unfold r_impl_isNegativeDisc at h
  show V _ _ ⟨I d1 :: bt 13 [], []⟩ _
  refine V_e (mb 14 1) [] (s1 := ⟨I d1 :: bt 13 [], []⟩) ?_
  obtain ⟨b5, hb5, h⟩ := of_bind h
  refine V_sreg (mb 14 4) [] (s1 := ⟨.bot :: .bot :: Bo b5 :: bt 11 [], []⟩) ?_ ?_
  ·refine XR 3 ?_
   refine XL_split (leI (-2000) d1) (fun hc2 => ?_) (fun hc2 => ?_)
   ·refine XL_takeC _ rfl rfl (by kernel_rfl) hc2 (X_of_Y0 rfl (E_move (I d1) rfl (by kernel_rfl))) ?_
    refine XL_takeC _ rfl rfl (by kernel_rfl) hc2 (X_of_Y0 rfl (Y0_lew (k := .i64) (a := d1) (b := -3) rfl (by kernel_rfl) (by kernel_rfl))) ?_
    refine XL_cons rfl (X_of_Y0 rfl (Y0_pick1 (b := leI (-2000) d1) (p := leI d1 (-3)) (q := false) rfl (by kernel_rfl) hc2 (by kernel_rfl))) ?_
    refine XR 1 ?_
    refine XL_split (bif (leI (-2000) d1) then (leI d1 (-3)) else false) (fun hc3 => ?_) (fun hc3 => ?_)
    ·have hb5 := of_true hb5 hc3
     obtain ⟨y4, hy4, hb5⟩ := of_bind hb5
     have hb5 := some_inj hb5
     refine XL_takeC _ rfl rfl (by kernel_rfl) hc3 (X_of_Y0 rfl (E_move (I d1) rfl (by kernel_rfl))) ?_
     refine XL_takeC _ rfl rfl (by kernel_rfl) hc3 (X_of_Y1 rfl (Y1_call (s_impl_mod hy4) cf_impl_mod rfl (by kernel_rfl))) ?_
     refine XL_takeC _ rfl rfl (by kernel_rfl) hc3 (X_of_Y0 rfl (Y0_lew (k := .i64) (a := y4) (b := 1) rfl (by kernel_rfl) (by kernel_rfl))) ?_
     refine XL_cons rfl (X_of_Y0 rfl (Y0_pickTe (b := bif (leI (-2000) d1) then (leI d1 (-3)) else false) (p := leI y4 1) rfl (by kernel_rfl) hc3 (by kernel_rfl) hb5)) ?_
     exact XE
    ·have hb5 := some_inj (of_false hb5 hc3)
     refine XL_skipT _ rfl rfl (by kernel_rfl) hc3 rfl ?_
     refine XL_skipT _ rfl rfl (by kernel_rfl) hc3 rfl ?_
     refine XL_skipT _ rfl rfl (by kernel_rfl) hc3 rfl ?_
     refine XL_cons rfl (X_of_Y0 rfl (Y0_pickFe (b := bif (leI (-2000) d1) then (leI d1 (-3)) else false) (p := false) rfl (by kernel_rfl) hc3 (by kernel_rfl) hb5)) ?_
     exact XE
   ·refine XL_skipT _ rfl rfl (by kernel_rfl) hc2 rfl ?_
    refine XL_skipT _ rfl rfl (by kernel_rfl) hc2 rfl ?_
    refine XL_cons rfl (X_of_Y0 rfl (Y0_pick0 (b := leI (-2000) d1) (p := leI d1 (-3)) (q := false) rfl (by kernel_rfl) hc2 (by kernel_rfl))) ?_
    refine XR 1 ?_
    refine XL_split (bif (leI (-2000) d1) then (leI d1 (-3)) else false) (fun hc3 => ?_) (fun hc3 => ?_)
    ·have hb5 := of_true hb5 hc3
     obtain ⟨y4, hy4, hb5⟩ := of_bind hb5
     have hb5 := some_inj hb5
     refine XL_takeC _ rfl rfl (by kernel_rfl) hc3 (X_of_Y0 rfl (E_move (I d1) rfl (by kernel_rfl))) ?_
     refine XL_takeC _ rfl rfl (by kernel_rfl) hc3 (X_of_Y1 rfl (Y1_call (s_impl_mod hy4) cf_impl_mod rfl (by kernel_rfl))) ?_
     refine XL_takeC _ rfl rfl (by kernel_rfl) hc3 (X_of_Y0 rfl (Y0_lew (k := .i64) (a := y4) (b := 1) rfl (by kernel_rfl) (by kernel_rfl))) ?_
     refine XL_cons rfl (X_of_Y0 rfl (Y0_pickTe (b := bif (leI (-2000) d1) then (leI d1 (-3)) else false) (p := leI y4 1) rfl (by kernel_rfl) hc3 (by kernel_rfl) hb5)) ?_
     exact XE
    ·have hb5 := some_inj (of_false hb5 hc3)
     refine XL_skipT _ rfl rfl (by kernel_rfl) hc3 rfl ?_
     refine XL_skipT _ rfl rfl (by kernel_rfl) hc3 rfl ?_
     refine XL_skipT _ rfl rfl (by kernel_rfl) hc3 rfl ?_
     refine XL_cons rfl (X_of_Y0 rfl (Y0_pickFe (b := bif (leI (-2000) d1) then (leI d1 (-3)) else false) (p := false) rfl (by kernel_rfl) hc3 (by kernel_rfl) hb5)) ?_
     exact XE
  refine V_ret ?_
  obtain rfl := some_inj h
  show Post _ _ _ _ _
  exact ⟨.inr rfl, rfl, rfl, rfl⟩
theorem cf_impl_allReduced : ∀ args w, (callFunc 172 args).run Tryz.prog w = .ok (.enter 172 args) w := run_callFunc Tryz.func172 (by kernel_rfl) (by kernel_rfl)
theorem s_impl_allReduced {d1 : Int} {r : List ((Int × Int × Int))} (h : r_impl_allReduced d1 = some r) : CallS Tryz.prog 172 [I d1] (.ow 0) [(0, .arr 25 3 (r.map c25))] := by
  refine CallS_of_text (rs := [.t 2]) (vs := [.tmp 2]) Tryz.func172 rfl rfl (.cons rfl FitsL.nil) (by decide) 51 rfl ?_
  unfold r_impl_allReduced at h
  show V _ _ ⟨I d1 :: bt 50 [], []⟩ _
  refine V_sreg (mb 51 1) [] (s1 := ⟨I d1 :: bt 50 [], []⟩) ?_ ?_
  ·refine L1 rfl rfl (Y1_nil (e := 25) 3 (by decide) (.inl rfl)) ?_
   exact XE
  refine V_sreg (mb 51 9) [56] (s1 := ⟨I d1 :: .bot :: .bot :: .ow 56 :: bt 47 [], [(56, .arr 25 3 ((([] : List ((Int × Int × Int)))).map c25))]⟩) ?_ ?_
  ·refine L1 rfl rfl (Y1_bslice0 Tryz.underlying38 sz25 (by decide) rfl rfl) ?_
   exact XE
  refine V_seq ?_
  refine V_e (mb 51 25) [56] (s1 := ⟨I d1 :: .bot :: .bot :: .ow 56 :: I 1 :: bt 46 [], [(56, .arr 25 3 ((([] : List ((Int × Int × Int)))).map c25))]⟩) ?_
  obtain ⟨o5, hLo5, h⟩ := of_bind h
  refine V_toK (mb 51 8) [56] (s1 := ⟨bt 3 (.ow 56 :: bt 47 []), [(56, .arr 25 3 (o5.map c25))]⟩) ?_ ?_
  ·clear h
   refine V_block (V_loop (fun n s => ∃ (a2 : Int) (l3 : List ((Int × Int × Int))), s.keep (mb 51 25) [56] = (⟨I d1 :: .bot :: .bot :: .ow 56 :: I a2 :: bt 46 [], [(56, .arr 25 3 (l3.map c25))]⟩ : St) ∧ r_impl_allReduced_L4 d1 n a2 l3 = some o5) FU ⟨_, _,  by rfl, hLo5⟩ ?_)
   clear hLo5
   rintro n s ⟨a2, l3, hs, h⟩
   refine V_keep _ _ hs ?_
   clear hs
   cases n with
   | zero => cases h
   | succ n =>
    rw [r_impl_allReduced_L4] at h
    refine V_seq ?_
    refine V_e (mb 51 16409) [56] (s1 := ⟨I d1 :: .bot :: .bot :: .ow 56 :: I a2 :: bt 9 (Bo (leI (w64 ((w64 (3 * a2)) * a2)) (w64 (0 - d1))) :: bt 36 []), [(56, .arr 25 3 (l3.map c25))]⟩) ?_
    refine V_cond rfl (fun hc6 => ?_) (fun hc6 => ?_)
    ·have h := of_true h hc6
     refine V_skip ?_
     show V _ _ _ _
     refine V_seq ?_
     refine V_block ?_
     obtain ⟨b7, hb7, h⟩ := of_sI h
     refine V_sreg (mb 51 57) [56] (s1 := ⟨I d1 :: .bot :: .bot :: .ow 56 :: I a2 :: I b7 :: bt 45 [], [(56, .arr 25 3 (l3.map c25))]⟩) ?_ ?_
     ·refine XR 3 ?_
      refine XL_nil ?_
      subst hb7
      kernel_rfl
     obtain ⟨o11, hLo11, h⟩ := of_bind h
     refine V_toK (mb 51 25) [56] (s1 := ⟨I d1 :: .bot :: .bot :: .ow 56 :: I a2 :: bt 46 [], [(56, .arr 25 3 (o11.map c25))]⟩) ?_ ?_
     ·clear h
      refine V_block (V_loop (fun n s => ∃ (b8 : Int) (l9 : List ((Int × Int × Int))), s.keep (mb 51 57) [56] = (⟨I d1 :: .bot :: .bot :: .ow 56 :: I a2 :: I b8 :: bt 45 [], [(56, .arr 25 3 (l9.map c25))]⟩ : St) ∧ r_impl_allReduced_L10 a2 d1 n b8 l9 = some o11) FU ⟨_, _,  by rfl, hLo11⟩ ?_)
      clear hLo11
      rintro n s ⟨b8, l9, hs, h⟩
      refine V_keep _ _ hs ?_
      clear hs
      cases n with
      | zero => cases h
      | succ n =>
       rw [r_impl_allReduced_L10] at h
       refine V_seq ?_
       refine V_e (mb 51 2097209) [56] (s1 := ⟨I d1 :: .bot :: .bot :: .ow 56 :: I a2 :: I b8 :: bt 15 (Bo (leI b8 a2) :: bt 29 []), [(56, .arr 25 3 (l9.map c25))]⟩) ?_
       refine V_cond rfl (fun hc12 => ?_) (fun hc12 => ?_)
       ·have h := of_true h hc12
        refine V_skip ?_
        show V _ _ _ _
        refine V_seq ?_
        refine V_block ?_
        refine V_seq ?_
        obtain ⟨z13, hz13, h⟩ := of_bind h
        obtain ⟨t14, ht14, h⟩ := of_bind h
        have ht14 := some_inj ht14
        refine V_sreg (mb 51 4294967353) [56] (s1 := ⟨I d1 :: .bot :: .bot :: .ow 56 :: I a2 :: I b8 :: bt 26 (Bo t14 :: bt 18 []), [(56, .arr 25 3 (l9.map c25))]⟩) ?_ ?_
        ·refine XR 7 ?_
         refine L0 rfl rfl (Y0_rem (k := .i64) (a := w64 ((w64 (b8 * b8)) - d1)) (b := w64 (4 * a2)) rfl (by kernel_rfl) (by kernel_rfl) (nz_some hz13)) ?_
         refine XR 1 ?_
         refine XL_nil ?_
         subst ht14
         kernel_rfl
        refine V_cond rfl (fun hc15 => ?_) (fun hc15 => ?_)
        ·have h := of_true h hc15
         refine V_exit ?_
         show V _ _ _ _
         obtain ⟨b16, hb16, h⟩ := of_sI h
         refine V_reg (mb 51 57) [56] (s1 := ⟨I d1 :: .bot :: .bot :: .ow 56 :: I a2 :: I b16 :: bt 45 [], [(56, .arr 25 3 (l9.map c25))]⟩) ?_ ?_
         ·refine XR 3 ?_
          refine XL_nil ?_
          subst hb16
          kernel_rfl
         exact ⟨n, Nat.lt_succ_self n, _, _,  by rfl, h⟩
        ·have h := of_false h hc15
         refine V_skip ?_
         show V _ _ _ _
         obtain ⟨z17, hz17, h⟩ := of_bind h
         obtain ⟨f18, hf18, h⟩ := of_sI h
         refine V_sreg (mb 51 121) [48, 56] (s1 := ⟨I d1 :: .bot :: .bot :: .ow 56 :: I a2 :: I b8 :: .pt 48 0 :: bt 44 [], [(48, .box [Ti a2, Ti b8, Ti f18]), (56, .arr 25 3 (l9.map c25))]⟩) ?_ ?_
         ·refine XR 9 ?_
          refine L0 rfl rfl (Y0_quo64 (a := w64 ((w64 (b8 * b8)) - d1)) (b := w64 (4 * a2)) rfl (by kernel_rfl) (by kernel_rfl) (nz_some hz17)) ?_
          refine L0 rfl rfl (Y0_build (cs := [Ti a2, Ti b8, Ti (w64 (Int.tdiv (w64 ((w64 (b8 * b8)) - d1)) (w64 (4 * a2))))]) pl25 bt25 rfl rfl (by kernel_rfl)) ?_
          refine XR 2 ?_
          refine XL_nil ?_
          subst hf18
          kernel_rfl
         obtain ⟨y19, hy19, h⟩ := of_bind h
         refine V_sreg (mb 51 35184372088953) [48, 56] (s1 := ⟨I d1 :: .bot :: .bot :: .ow 56 :: I a2 :: I b8 :: .pt 48 0 :: bt 38 (Bo y19 :: bt 5 []), [(48, .box [Ti a2, Ti b8, Ti f18]), (56, .arr 25 3 (l9.map c25))]⟩) ?_ ?_
         ·refine XR 1 ?_
          refine XC (s_impl_Form_isReduced hy19) cf_impl_Form_isReduced rfl rfl rfl ?_
          exact XE
         refine V_cond rfl (fun hc20 => ?_) (fun hc20 => ?_)
         ·have h := of_true h hc20
          obtain ⟨u21, hu21, h⟩ := of_bind h
          refine V_reg (mb 51 57) [56] (s1 := ⟨I d1 :: .bot :: .bot :: .ow 56 :: I a2 :: I b8 :: bt 45 [], [(56, .arr 25 3 ((l9 ++ ([(a2, b8, f18)])).map c25))]⟩) ?_ ?_
          ·refine XR 2 ?_
           refine L1 rfl rfl (Y1_bslice (z := zv25) (els := [(a2, b8, f18)].map c25) Tryz.underlying38 iz25 rfl (by decide) rfl (by kernel_rfl) rfl (by simp [c25]) (by decide) (by decide)) ?_
           refine XL_cons rfl (X_appendM (c := c25) (xs := l9) (ys := [(a2, b8, f18)]) (id := 56) (z := zv25) rfl rfl Tryz.underlying38 izb25 rfl (by kernel_rfl) (by kernel_rfl) (by kernel_rfl) (fun _ => rfl) (by simp) (room_some hu21) (by decide)) ?_
           exact XE
          show V _ _ _ _
          obtain ⟨b22, hb22, h⟩ := of_sI h
          refine V_reg (mb 51 57) [56] (s1 := ⟨I d1 :: .bot :: .bot :: .ow 56 :: I a2 :: I b22 :: bt 45 [], [(56, .arr 25 3 ((l9 ++ ([(a2, b8, f18)])).map c25))]⟩) ?_ ?_
          ·refine XR 3 ?_
           refine XL_nil ?_
           subst hb22
           kernel_rfl
          exact ⟨n, Nat.lt_succ_self n, _, _,  by rfl, h⟩
         ·have h := of_false h hc20
          refine V_skip ?_
          show V _ _ _ _
          obtain ⟨b23, hb23, h⟩ := of_sI h
          refine V_reg (mb 51 57) [56] (s1 := ⟨I d1 :: .bot :: .bot :: .ow 56 :: I a2 :: I b23 :: bt 45 [], [(56, .arr 25 3 (l9.map c25))]⟩) ?_ ?_
          ·refine XR 3 ?_
           refine XL_nil ?_
           subst hb23
           kernel_rfl
          exact ⟨n, Nat.lt_succ_self n, _, _,  by rfl, h⟩
       ·have h := of_false h hc12
        refine V_exit ?_
        obtain rfl := some_inj h
        show St.keep _ _ _ = _
        rfl
     show V _ _ _ _
     obtain ⟨a24, ha24, h⟩ := of_sI h
     refine V_reg (mb 51 25) [56] (s1 := ⟨I d1 :: .bot :: .bot :: .ow 56 :: I a24 :: bt 46 [], [(56, .arr 25 3 (o11.map c25))]⟩) ?_ ?_
     ·refine XR 3 ?_
      refine XL_nil ?_
      subst ha24
      kernel_rfl
     exact ⟨n, Nat.lt_succ_self n, _, _,  by rfl, h⟩
    ·have h := of_false h hc6
     refine V_exit ?_
     obtain rfl := some_inj h
     show St.keep _ _ _ = _
     rfl
  show V _ _ _ _
  refine V_e (mb 51 4) [56] (s1 := ⟨.bot :: .bot :: .ow 56 :: bt 48 [], [(56, .arr 25 3 (o5.map c25))]⟩) ?_
  refine V_ret ?_
  obtain rfl := some_inj h
  show Post _ _ _ _ _
  exact ⟨.inr rfl, rfl, rfl, rfl⟩
theorem cf_impl_reducedForms : ∀ args w, (callFunc 81 args).run Tryz.prog w = .ok (.enter 81 args) w := run_callFunc Tryz.func81 (by kernel_rfl) (by kernel_rfl)
theorem s_impl_reducedForms {d1 : Int} {r : List ((Int × Int × Int))} (h : r_impl_reducedForms d1 = some r) : CallS Tryz.prog 81 [I d1] (.ow 0) [(0, .arr 25 3 (r.map c25))] := by
  refine CallS_of_text (rs := [.t 2]) (vs := [.tmp 2]) Tryz.func81 rfl rfl (.cons rfl FitsL.nil) (by decide) 6 rfl ?_
  unfold r_impl_reducedForms at h
  show V _ _ ⟨I d1 :: bt 5 [], []⟩ _
  refine V_sreg (mb 6 1) [] (s1 := ⟨I d1 :: bt 5 [], []⟩) ?_ ?_
  ·refine L1 rfl rfl (Y1_nil (e := 25) 3 (by decide) (.inl rfl)) ?_
   exact XE
  obtain ⟨y2, hy2, h⟩ := of_bind h
  obtain ⟨y3, hy3, h⟩ := of_bind h
  refine V_sreg (mb 6 4) [40] (s1 := ⟨.bot :: .bot :: .ow 40 :: bt 3 [], [(40, .arr 25 3 (y3.map c25))]⟩) ?_ ?_
  ·refine XR 1 ?_
   refine XC (s_impl_allReduced hy2) cf_impl_allReduced rfl rfl rfl ?_
   refine L1 rfl rfl (Y1_callS (s_impl_primitiveOf hy3) cf_impl_primitiveOf rfl (by kernel_rfl) rfl (flatE_cons (fun _ => rfl) rfl)) ?_
   exact XE
  refine V_ret ?_
  obtain rfl := some_inj h
  show Post _ _ _ _ _
  exact ⟨.inr rfl, rfl, rfl, rfl⟩
theorem cf_impl_hasForm : ∀ args w, (callFunc 109 args).run Tryz.prog w = .ok (.enter 109 args) w := run_callFunc Tryz.func109 (by kernel_rfl) (by kernel_rfl)
theorem s_impl_hasForm {list1 : List ((Int × Int × Int))} {f2 : (Int × Int × Int)} {r : Bool} (h : r_impl_hasForm list1 f2 = some r) : CallS Tryz.prog 109 [.c (.sl (list1.map c25)), .ag [Ti f2.1, Ti f2.2.1, Ti f2.2.2]] (Bo r) [] := by
  refine CallS_of_text (rs := [.t 4]) (vs := [.tmp 4]) Tryz.func109 rfl rfl (.cons rfl FitsL.nil) (by decide) 17 rfl ?_
  unfold r_impl_hasForm at h
  show V _ _ ⟨.c (.sl (list1.map c25)) :: .ag [Ti f2.1, Ti f2.2.1, Ti f2.2.2] :: bt 15 [], []⟩ _
  refine V_e (mb 17 9) [24] (s1 := ⟨.c (.sl (list1.map c25)) :: .bot :: .bot :: .pt 24 0 :: bt 13 [], [(24, .box [Ti f2.1, Ti f2.2.1, Ti f2.2.2])]⟩) ?_
  refine V_seq ?_
  refine V_sreg (mb 17 904) [24] (s1 := ⟨bt 3 (.pt 24 0 :: bt 3 (.c (.sl (list1.map c25)) :: I ((list1.length : Int)) :: I 0 :: bt 7 [])), [(24, .box [Ti f2.1, Ti f2.2.1, Ti f2.2.2])]⟩) ?_ ?_
  ·refine XR 1 ?_
   refine L0 rfl rfl (Y0_lenM (c := c25) (xs := list1) Tryz.underlying38 rfl (by kernel_rfl)) ?_
   exact XE
  obtain ⟨qo5, hLo5, hko5⟩ := of_bind h
  refine V_toS (q := qo5) (S := fun o5 => ⟨bt 17 [], []⟩) (mb 17 0) [] ?_ ?_
  ·refine V_block (V_loop (fun n s => ∃ (t3 : Int), s.keep (mb 17 904) [24] = (⟨bt 3 (.pt 24 0 :: bt 3 (.c (.sl (list1.map c25)) :: I ((list1.length : Int)) :: I t3 :: bt 7 [])), [(24, .box [Ti f2.1, Ti f2.2.1, Ti f2.2.2])]⟩ : St) ∧ r_impl_hasForm_L4 f2 list1 n t3 = some qo5) FU ⟨_,  by rfl, hLo5⟩ ?_)
   clear hLo5
   rintro n s ⟨t3, hs, h⟩
   refine V_keep _ _ hs ?_
   clear hs
   cases n with
   | zero => cases h
   | succ n =>
    rw [r_impl_hasForm_L4] at h
    refine V_e (mb 17 1928) [24] (s1 := ⟨bt 3 (.pt 24 0 :: bt 3 (.c (.sl (list1.map c25)) :: I ((list1.length : Int)) :: I t3 :: Bo (ltI t3 ((list1.length : Int))) :: bt 6 [])), [(24, .box [Ti f2.1, Ti f2.2.1, Ti f2.2.2])]⟩) ?_
    refine V_seq ?_
    refine V_cond rfl (fun hc6 => ?_) (fun hc6 => ?_)
    ·have h := of_true h hc6
     refine V_skip ?_
     show V _ _ _ _
     refine V_seq ?_
     refine V_block ?_
     obtain ⟨e7, he7, h⟩ := of_bind h
     refine V_sreg (mb 17 968) [48, 24] (s1 := ⟨bt 3 (.pt 24 0 :: .bot :: .bot :: .pt 48 0 :: .c (.sl (list1.map c25)) :: I ((list1.length : Int)) :: I t3 :: bt 7 []), [(48, .box [Ti e7.1, Ti e7.2.1, Ti e7.2.2]), (24, .box [Ti f2.1, Ti f2.2.1, Ti f2.2.2])]⟩) ?_ ?_
     ·refine L0 rfl rfl (Y0_idxM (c := c25) (xs := list1) (v := e7) (n := t3) Tryz.underlying38 sz25 rfl (by kernel_rfl) (by kernel_rfl) he7) ?_
      exact XE
     obtain ⟨t8, ht8, h⟩ := of_bind h
     have ht8 := some_inj ht8
     refine V_sreg (mb 17 33672) [24] (s1 := ⟨bt 3 (.pt 24 0 :: bt 3 (.c (.sl (list1.map c25)) :: I ((list1.length : Int)) :: I t3 :: bt 5 (Bo t8 :: .bot :: []))), [(24, .box [Ti f2.1, Ti f2.2.1, Ti f2.2.2])]⟩) ?_ ?_
     ·refine XR 2 ?_
      refine L0 rfl rfl (Y0_eqg3 (a0 := f2.1) (b0 := e7.1) (a1 := f2.2.1) (b1 := e7.2.1) (a2 := f2.2.2) (b2 := e7.2.2) eqg25 rfl (by kernel_rfl) (by kernel_rfl)) ?_
      refine XL_nil ?_
      subst ht8
      kernel_rfl
     refine V_cond rfl (fun hc9 => ?_) (fun hc9 => ?_)
     ·have h := of_true h hc9
      refine V_e (mb 17 16) [] (s1 := ⟨bt 4 (Bo true :: bt 12 []), []⟩) ?_
      refine V_ret ?_
      obtain rfl := some_inj h
      have h := hko5
      obtain rfl := some_inj h
      show Post _ _ _ _ _
      exact ⟨.inr rfl, rfl, rfl, rfl⟩
     ·have h := of_false h hc9
      refine V_skip ?_
      show V _ _ _ _
      obtain ⟨t10, ht10, h⟩ := of_sI h
      refine V_reg (mb 17 904) [24] (s1 := ⟨bt 3 (.pt 24 0 :: bt 3 (.c (.sl (list1.map c25)) :: I ((list1.length : Int)) :: I t10 :: bt 7 [])), [(24, .box [Ti f2.1, Ti f2.2.1, Ti f2.2.2])]⟩) ?_ ?_
      ·refine XR 2 ?_
       refine XL_nil ?_
       subst ht10
       kernel_rfl
      exact ⟨n, Nat.lt_succ_self n, _,  by rfl, h⟩
    ·have h := of_false h hc6
     refine V_exit ?_
     obtain rfl := some_inj h
     exact ⟨_, rfl, by rfl⟩
  rintro o5 rfl
  have h := hko5
  clear hko5
  show V _ _ _ _
  refine V_e (mb 17 16) [] (s1 := ⟨bt 4 (Bo false :: bt 12 []), []⟩) ?_
  refine V_ret ?_
  obtain rfl := some_inj h
  show Post _ _ _ _ _
  exact ⟨.inr rfl, rfl, rfl, rfl⟩
theorem cf_impl_UpperClass : ∀ args w, (callFunc 38 args).run Tryz.prog w = .ok (.enter 38 args) w := run_callFunc Tryz.func38 (by kernel_rfl) (by kernel_rfl)
theorem s_impl_UpperClass {f1 : (Int × Int × Int)} {p2 : Int} {r : (((Int × Int × Int)) × Bool)} (h : r_impl_UpperClass f1 p2 = some r) : CallS Tryz.prog 38 [.ag [Ti f1.1, Ti f1.2.1, Ti f1.2.2], I p2] (.tc (.ag [Ti r.1.1, Ti r.1.2.1, Ti r.1.2.2]) (.tc (Bo r.2) .tn)) [] := by
  refine CallS_of_text (rs := [.w 4 3, .t 5]) (vs := [.cell 4 25, .tmp 5]) Tryz.func38 rfl rfl (.cons ⟨rfl, wd25⟩ (.cons rfl FitsL.nil)) (by decide) 63 rfl ?_
  unfold r_impl_UpperClass at h
  show V _ _ ⟨.ag [Ti f1.1, Ti f1.2.1, Ti f1.2.2] :: I p2 :: bt 61 [], []⟩ _
  refine V_e (mb 63 22) [32, 16] (s1 := ⟨.bot :: I p2 :: .pt 16 0 :: .bot :: .pt 32 0 :: bt 58 [], [(32, .box [Ti 0, Ti 0, Ti 0]), (16, .box [Ti f1.1, Ti f1.2.1, Ti f1.2.2])]⟩) ?_
  refine V_seq ?_
  obtain ⟨y3, hy3, h⟩ := of_bind h
  obtain ⟨b6, hb6, h⟩ := of_bind h
  obtain ⟨b9, hb9, h⟩ := of_bind h
  refine V_sreg (mb 63 4194326) [32, 16] (s1 := ⟨.bot :: I p2 :: .pt 16 0 :: .bot :: .pt 32 0 :: bt 17 (Bo b9 :: bt 40 []), [(32, .box [Ti 0, Ti 0, Ti 0]), (16, .box [Ti f1.1, Ti f1.2.1, Ti f1.2.2])]⟩) ?_ ?_
  ·refine XR 1 ?_
   refine XC (s_impl_isDefinite hy3) cf_impl_isDefinite rfl rfl rfl ?_
   refine XR 2 ?_
   refine XL_split (!y3) (fun hc4 => ?_) (fun hc4 => ?_)
   ·have hb6 := some_inj (of_true hb6 hc4)
    refine XL_skipF _ rfl rfl (by kernel_rfl) hc4 rfl ?_
    refine XL_skipF _ rfl rfl (by kernel_rfl) hc4 rfl ?_
    refine XL_skipF _ rfl rfl (by kernel_rfl) hc4 rfl ?_
    refine XL_cons rfl (X_of_Y0 rfl (Y0_pickTe (b := !y3) (p := true) rfl (by kernel_rfl) hc4 (by kernel_rfl) hb6)) ?_
    refine XR 1 ?_
    refine XL_split b6 (fun hc7 => ?_) (fun hc7 => ?_)
    ·have hb9 := some_inj (of_true hb9 hc7)
     refine XL_skipF _ rfl rfl (by kernel_rfl) hc7 rfl ?_
     refine XL_skipF _ rfl rfl (by kernel_rfl) hc7 rfl ?_
     refine XL_skipF _ rfl rfl (by kernel_rfl) hc7 rfl ?_
     refine XL_cons rfl (X_of_Y0 rfl (Y0_pickTe (b := b6) (p := true) rfl (by kernel_rfl) hc7 (by kernel_rfl) hb9)) ?_
     exact XE
    ·have hb9 := of_false hb9 hc7
     obtain ⟨y8, hy8, hb9⟩ := of_bind hb9
     have hb9 := some_inj hb9
     refine XL_takeC _ rfl rfl (by kernel_rfl) hc7 (X_of_Y0 rfl (E_move (I p2) rfl (by kernel_rfl))) ?_
     refine XL_takeC _ rfl rfl (by kernel_rfl) hc7 (X_of_Y1 rfl (Y1_call (s_impl_isIndex hy8) cf_impl_isIndex rfl (by kernel_rfl))) ?_
     refine XL_takeC _ rfl rfl (by kernel_rfl) hc7 (X_of_Y0 rfl (Y0_not (b := y8) rfl (by kernel_rfl))) ?_
     refine XL_cons rfl (X_of_Y0 rfl (Y0_pickFe (b := b6) (p := !y8) rfl (by kernel_rfl) hc7 (by kernel_rfl) hb9)) ?_
     exact XE
   ·have hb6 := of_false hb6 hc4
    obtain ⟨y5, hy5, hb6⟩ := of_bind hb6
    have hb6 := some_inj hb6
    refine XL_takeC _ rfl rfl (by kernel_rfl) hc4 (X_of_Y0 rfl (E_loadn (cs := [Ti f1.1, Ti f1.2.1, Ti f1.2.2]) [Ti f1.1, Ti f1.2.1, Ti f1.2.2] wd25 rfl (by kernel_rfl) (Nat.le_of_ble_eq_true rfl) (by kernel_rfl))) ?_
    refine XL_takeC _ rfl rfl (by kernel_rfl) hc4 (X_of_Y1 rfl (Y1_call (s_impl_Form_content hy5) cf_impl_Form_content rfl (by kernel_rfl))) ?_
    refine XL_takeC _ rfl rfl (by kernel_rfl) hc4 (X_of_Y0 rfl (Y0_new (k := .i64) (a := y5) (b := 1) rfl (by kernel_rfl) (by kernel_rfl))) ?_
    refine XL_cons rfl (X_of_Y0 rfl (Y0_pickFe (b := !y3) (p := !eqI y5 1) rfl (by kernel_rfl) hc4 (by kernel_rfl) hb6)) ?_
    refine XR 1 ?_
    refine XL_split b6 (fun hc7 => ?_) (fun hc7 => ?_)
    ·have hb9 := some_inj (of_true hb9 hc7)
     refine XL_skipF _ rfl rfl (by kernel_rfl) hc7 rfl ?_
     refine XL_skipF _ rfl rfl (by kernel_rfl) hc7 rfl ?_
     refine XL_skipF _ rfl rfl (by kernel_rfl) hc7 rfl ?_
     refine XL_cons rfl (X_of_Y0 rfl (Y0_pickTe (b := b6) (p := true) rfl (by kernel_rfl) hc7 (by kernel_rfl) hb9)) ?_
     exact XE
    ·have hb9 := of_false hb9 hc7
     obtain ⟨y8, hy8, hb9⟩ := of_bind hb9
     have hb9 := some_inj hb9
     refine XL_takeC _ rfl rfl (by kernel_rfl) hc7 (X_of_Y0 rfl (E_move (I p2) rfl (by kernel_rfl))) ?_
     refine XL_takeC _ rfl rfl (by kernel_rfl) hc7 (X_of_Y1 rfl (Y1_call (s_impl_isIndex hy8) cf_impl_isIndex rfl (by kernel_rfl))) ?_
     refine XL_takeC _ rfl rfl (by kernel_rfl) hc7 (X_of_Y0 rfl (Y0_not (b := y8) rfl (by kernel_rfl))) ?_
     refine XL_cons rfl (X_of_Y0 rfl (Y0_pickFe (b := b6) (p := !y8) rfl (by kernel_rfl) hc7 (by kernel_rfl) hb9)) ?_
     exact XE
  refine V_cond rfl (fun hc10 => ?_) (fun hc10 => ?_)
  ·have h := of_true h hc10
   refine V_sreg (mb 63 48) [32] (s1 := ⟨bt 4 (.pt 32 0 :: Bo false :: bt 57 []), [(32, .box [Ti 0, Ti 0, Ti 0])]⟩) ?_ ?_
   ·refine L0 rfl rfl (Y0_build (cs := [Ti 0, Ti 0, Ti 0]) pl25 bt25 rfl rfl (by kernel_rfl)) ?_
    exact XE
   refine V_ret ?_
   obtain rfl := some_inj h
   show Post _ _ _ _ _
   exact ⟨.inr rfl, rfl, rfl, rfl⟩
  ·have h := of_false h hc10
   refine V_skip ?_
   show V _ _ _ _
   obtain ⟨y11, hy11, h⟩ := of_bind h
   refine V_sreg (mb 63 86) [32, 16] (s1 := ⟨.bot :: I p2 :: .pt 16 0 :: .bot :: .pt 32 0 :: .bot :: I y11 :: bt 56 [], [(32, .box [Ti 0, Ti 0, Ti 0]), (16, .box [Ti f1.1, Ti f1.2.1, Ti f1.2.2])]⟩) ?_ ?_
   ·refine XR 1 ?_
    refine XC (s_impl_Form_disc hy11) cf_impl_Form_disc rfl rfl rfl ?_
    exact XE
   refine V_seq ?_
   obtain ⟨z12, hz12, h⟩ := of_bind h
   obtain ⟨b16, hb16, h⟩ := of_bind h
   refine V_sreg (mb 63 1099511627862) [32, 16] (s1 := ⟨.bot :: I p2 :: .pt 16 0 :: .bot :: .pt 32 0 :: .bot :: I y11 :: bt 33 (Bo b16 :: bt 22 []), [(32, .box [Ti 0, Ti 0, Ti 0]), (16, .box [Ti f1.1, Ti f1.2.1, Ti f1.2.2])]⟩) ?_ ?_
   ·refine XR 4 ?_
    refine L0 rfl rfl (Y0_rem (k := .i64) (a := y11) (b := w64 (p2 * p2)) rfl (by kernel_rfl) (by kernel_rfl) (nz_some hz12)) ?_
    refine XR 2 ?_
    refine XL_split (!eqI (Int.tmod y11 (w64 (p2 * p2))) 0) (fun hc13 => ?_) (fun hc13 => ?_)
    ·have hb16 := some_inj (of_true hb16 hc13)
     refine XL_skipF _ rfl rfl (by kernel_rfl) hc13 rfl ?_
     refine XL_skipF _ rfl rfl (by kernel_rfl) hc13 rfl ?_
     refine XL_skipF _ rfl rfl (by kernel_rfl) hc13 rfl ?_
     refine XL_skipF _ rfl rfl (by kernel_rfl) hc13 rfl ?_
     refine XL_skipF _ rfl rfl (by kernel_rfl) hc13 rfl ?_
     refine XL_skipF _ rfl rfl (by kernel_rfl) hc13 rfl ?_
     refine XL_skipF _ rfl rfl (by kernel_rfl) hc13 rfl ?_
     refine XL_cons rfl (X_of_Y0 rfl (Y0_pickTe (b := !eqI (Int.tmod y11 (w64 (p2 * p2))) 0) (p := true) rfl (by kernel_rfl) hc13 (by kernel_rfl) hb16)) ?_
     exact XE
    ·have hb16 := of_false hb16 hc13
     obtain ⟨z14, hz14, hb16⟩ := of_bind hb16
     obtain ⟨y15, hy15, hb16⟩ := of_bind hb16
     have hb16 := some_inj hb16
     refine XL_takeC _ rfl rfl (by kernel_rfl) hc13 (X_of_Y0 rfl (E_move (I y11) rfl (by kernel_rfl))) ?_
     refine XL_takeC _ rfl rfl (by kernel_rfl) hc13 (X_of_Y0 rfl (E_move (I p2) rfl (by kernel_rfl))) ?_
     refine XL_takeC _ rfl rfl (by kernel_rfl) hc13 (X_of_Y0 rfl (E_move (I p2) rfl (by kernel_rfl))) ?_
     refine XL_takeC _ rfl rfl (by kernel_rfl) hc13 (X_of_Y0 rfl (Y0_mul64 (a := p2) (b := p2) rfl (by kernel_rfl) (by kernel_rfl))) ?_
     refine XL_takeC _ rfl rfl (by kernel_rfl) hc13 (X_of_Y0 rfl (Y0_quo64 (a := y11) (b := w64 (p2 * p2)) rfl (by kernel_rfl) (by kernel_rfl) (nz_some hz14))) ?_
     refine XL_takeC _ rfl rfl (by kernel_rfl) hc13 (X_of_Y1 rfl (Y1_call (s_impl_isNegativeDisc hy15) cf_impl_isNegativeDisc rfl (by kernel_rfl))) ?_
     refine XL_takeC _ rfl rfl (by kernel_rfl) hc13 (X_of_Y0 rfl (Y0_not (b := y15) rfl (by kernel_rfl))) ?_
     refine XL_cons rfl (X_of_Y0 rfl (Y0_pickFe (b := !eqI (Int.tmod y11 (w64 (p2 * p2))) 0) (p := !y15) rfl (by kernel_rfl) hc13 (by kernel_rfl) hb16)) ?_
     exact XE
   refine V_cond rfl (fun hc17 => ?_) (fun hc17 => ?_)
   ·have h := of_true h hc17
    refine V_sreg (mb 63 48) [32] (s1 := ⟨bt 4 (.pt 32 0 :: Bo false :: bt 57 []), [(32, .box [Ti 0, Ti 0, Ti 0])]⟩) ?_ ?_
    ·refine L0 rfl rfl (Y0_build (cs := [Ti 0, Ti 0, Ti 0]) pl25 bt25 rfl rfl (by kernel_rfl)) ?_
     exact XE
    refine V_ret ?_
    obtain rfl := some_inj h
    show Post _ _ _ _ _
    exact ⟨.inr rfl, rfl, rfl, rfl⟩
   ·have h := of_false h hc17
    refine V_skip ?_
    show V _ _ _ _
    obtain ⟨y18, hy18, h⟩ := of_bind h
    refine V_sreg (mb 63 210) [56, 32] (s1 := ⟨.bot :: I p2 :: .bot :: .bot :: .pt 32 0 :: .bot :: I y11 :: .pt 56 0 :: bt 55 [], [(56, .box [Ti y18.1, Ti y18.2.1, Ti y18.2.2]), (32, .box [Ti 0, Ti 0, Ti 0])]⟩) ?_ ?_
    ·refine XR 1 ?_
     refine XC (s_impl_reduced hy18) cf_impl_reduced rfl rfl rfl ?_
     exact XE
    refine V_seq ?_
    obtain ⟨z19, hz19, h⟩ := of_bind h
    obtain ⟨y20, hy20, h⟩ := of_bind h
    refine V_sreg (mb 63 3940649673949330) [392, 56, 32] (s1 := ⟨.bot :: I p2 :: .bot :: .bot :: .pt 32 0 :: .bot :: .bot :: .pt 56 0 :: bt 41 (.ow 392 :: I ((y20.length : Int)) :: I 0 :: bt 11 []), [(392, .arr 25 3 (y20.map c25)), (56, .box [Ti y18.1, Ti y18.2.1, Ti y18.2.2]), (32, .box [Ti 0, Ti 0, Ti 0])]⟩) ?_ ?_
    ·refine XR 4 ?_
     refine L0 rfl rfl (Y0_quo64 (a := y11) (b := w64 (p2 * p2)) rfl (by kernel_rfl) (by kernel_rfl) (nz_some hz19)) ?_
     refine XC (s_impl_reducedForms hy20) cf_impl_reducedForms rfl rfl rfl ?_
     refine L0 rfl rfl (Y0_lenM (c := c25) (xs := y20) Tryz.underlying38 rfl (by kernel_rfl)) ?_
     exact XE
    obtain ⟨qo23, hLo23, hko23⟩ := of_bind h
    refine V_toS (q := qo23) (S := fun o23 => ⟨bt 4 (.pt 32 0 :: bt 58 []), [(32, .box [Ti 0, Ti 0, Ti 0])]⟩) (mb 63 16) [32] ?_ ?_
    ·refine V_block (V_loop (fun n s => ∃ (t21 : Int), s.keep (mb 63 3940649673949330) [392, 56, 32] = (⟨.bot :: I p2 :: .bot :: .bot :: .pt 32 0 :: .bot :: .bot :: .pt 56 0 :: bt 41 (.ow 392 :: I ((y20.length : Int)) :: I t21 :: bt 11 []), [(392, .arr 25 3 (y20.map c25)), (56, .box [Ti y18.1, Ti y18.2.1, Ti y18.2.2]), (32, .box [Ti 0, Ti 0, Ti 0])]⟩ : St) ∧ r_impl_UpperClass_L22 p2 y18 y20 n t21 = some qo23) FU ⟨_,  by rfl, hLo23⟩ ?_)
     clear hLo23
     rintro n s ⟨t21, hs, h⟩
     refine V_keep _ _ hs ?_
     clear hs
     cases n with
     | zero => cases h
     | succ n =>
      rw [r_impl_UpperClass_L22] at h
      refine V_e (mb 63 8444249301319826) [392, 56, 32] (s1 := ⟨.bot :: I p2 :: .bot :: .bot :: .pt 32 0 :: .bot :: .bot :: .pt 56 0 :: bt 41 (.ow 392 :: I ((y20.length : Int)) :: I t21 :: Bo (ltI t21 ((y20.length : Int))) :: bt 10 []), [(392, .arr 25 3 (y20.map c25)), (56, .box [Ti y18.1, Ti y18.2.1, Ti y18.2.2]), (32, .box [Ti 0, Ti 0, Ti 0])]⟩) ?_
      refine V_seq ?_
      refine V_cond rfl (fun hc24 => ?_) (fun hc24 => ?_)
      ·have h := of_true h hc24
       refine V_skip ?_
       show V _ _ _ _
       refine V_seq ?_
       refine V_block ?_
       obtain ⟨e25, he25, h⟩ := of_bind h
       obtain ⟨e26, he26, h⟩ := of_bind h
       refine V_sreg (mb 63 3940649673949842) [72, 392, 56, 32] (s1 := ⟨.bot :: I p2 :: .bot :: .bot :: .pt 32 0 :: .bot :: .bot :: .pt 56 0 :: .bot :: .pt 72 0 :: bt 39 (.ow 392 :: I ((y20.length : Int)) :: I t21 :: bt 11 []), [(72, .box [Ti e26.1, Ti e26.2.1, Ti e26.2.2]), (392, .arr 25 3 (y20.map c25)), (56, .box [Ti y18.1, Ti y18.2.1, Ti y18.2.2]), (32, .box [Ti 0, Ti 0, Ti 0])]⟩) ?_ ?_
       ·refine L0 rfl rfl (Y0_idxoM (c := c25) (xs := y20) (v := e25) (id := 392) (T := 25) (sz := 3) (n := t21) Tryz.underlying38 sz25 rfl (by kernel_rfl) (by kernel_rfl) (by kernel_rfl) he25) ?_
        refine L0 rfl rfl (E_loadon (c := c25) (xs := y20) (v := e26) (id := 392) (sz := 3) (T := 25) (off := 0) (n := t21) [Ti e26.1, Ti e26.2.1, Ti e26.2.2] wd25 rfl (by kernel_rfl) (by kernel_rfl) he26 (Nat.le_of_ble_eq_true rfl) (by kernel_rfl)) ?_
        exact XE
       obtain ⟨y27, hy27, h⟩ := of_bind h
       obtain ⟨y28, hy28, h⟩ := of_bind h
       refine V_sdreg [0, 0, 3, 0, 15] 5 (cdm 5 [136, 130, 133, 42, 85]) (mb 63 580401401977373330) [72, 392, 56, 32] (s1 := ⟨.bot :: I p2 :: .bot :: .bot :: .pt 32 0 :: .bot :: .bot :: .pt 56 0 :: .bot :: .pt 72 0 :: bt 39 (.ow 392 :: I ((y20.length : Int)) :: I t21 :: bt 7 (Bo y28 :: bt 3 [])), [(72, .box [Ti e26.1, Ti e26.2.1, Ti e26.2.2]), (392, .arr 25 3 (y20.map c25)), (56, .box [Ti y18.1, Ti y18.2.1, Ti y18.2.2]), (32, .box [Ti 0, Ti 0, Ti 0])]⟩) (by kernel_rfl) (by kernel_rfl) ?_ ?_
       ·refine DR 2 ?_
        refine DC 2 (s_impl_sublatticeClasses hy27) cf_impl_sublatticeClasses rfl rfl rfl rfl 57 rfl ?_
        refine DR 1 ?_
        refine DE_1 4 (by kernel_rfl) rfl rfl rfl (gsat_none rfl) (Y1_callS (s_impl_hasForm hy28) cf_impl_hasForm rfl (by kernel_rfl) rfl rfl) rfl rfl rfl 59 rfl ?_
        refine DA 0 ?_
        exact XE
       refine V_cond rfl (fun hc29 => ?_) (fun hc29 => ?_)
       ·have h := of_true h hc29
        refine V_e (mb 63 48) [32] (s1 := ⟨bt 4 (.pt 32 0 :: Bo true :: bt 57 []), [(32, .box [Ti e26.1, Ti e26.2.1, Ti e26.2.2])]⟩) ?_
        refine V_ret ?_
        obtain rfl := some_inj h
        have h := hko23
        obtain rfl := some_inj h
        show Post _ _ _ _ _
        exact ⟨.inr rfl, rfl, rfl, rfl⟩
       ·have h := of_false h hc29
        refine V_skip ?_
        show V _ _ _ _
        obtain ⟨t30, ht30, h⟩ := of_sI h
        refine V_reg (mb 63 3940649673949330) [392, 56, 32] (s1 := ⟨.bot :: I p2 :: .bot :: .bot :: .pt 32 0 :: .bot :: .bot :: .pt 56 0 :: bt 41 (.ow 392 :: I ((y20.length : Int)) :: I t30 :: bt 11 []), [(392, .arr 25 3 (y20.map c25)), (56, .box [Ti y18.1, Ti y18.2.1, Ti y18.2.2]), (32, .box [Ti 0, Ti 0, Ti 0])]⟩) ?_ ?_
        ·refine XR 2 ?_
         refine XL_nil ?_
         subst ht30
         kernel_rfl
        exact ⟨n, Nat.lt_succ_self n, _,  by rfl, h⟩
      ·have h := of_false h hc24
       refine V_exit ?_
       obtain rfl := some_inj h
       exact ⟨_, rfl, by rfl⟩
    rintro o23 rfl
    have h := hko23
    clear hko23
    show V _ _ _ _
    refine V_sreg (mb 63 48) [32] (s1 := ⟨bt 4 (.pt 32 0 :: Bo false :: bt 57 []), [(32, .box [Ti 0, Ti 0, Ti 0])]⟩) ?_ ?_
    ·refine L0 rfl rfl (Y0_build (cs := [Ti 0, Ti 0, Ti 0]) pl25 bt25 rfl rfl (by kernel_rfl)) ?_
     exact XE
    refine V_ret ?_
    obtain rfl := some_inj h
    show Post _ _ _ _ _
    exact ⟨.inr rfl, rfl, rfl, rfl⟩
theorem cf_impl_IsPrime : ∀ args w, (callFunc 75 args).run Tryz.prog w = .ok (.enter 75 args) w := run_callFunc Tryz.func75 (by kernel_rfl) (by kernel_rfl)
theorem s_impl_IsPrime {vn1 : Int} {r : Bool} (h : r_impl_IsPrime vn1 = some r) : CallS Tryz.prog 75 [I vn1] (Bo r) [] := by
  refine CallS_of_text (rs := [.t 2]) (vs := [.tmp 2]) Tryz.func75 rfl rfl (.cons rfl FitsL.nil) (by decide) 10 rfl ?_
  unfold r_impl_IsPrime at h
  show V _ _ ⟨I vn1 :: bt 9 [], []⟩ _
  refine V_e (mb 10 1) [] (s1 := ⟨I vn1 :: bt 9 [], []⟩) ?_
  obtain ⟨y2, hy2, h⟩ := of_bind h
  obtain ⟨b5, hb5, h⟩ := of_bind h
  refine V_sreg (mb 10 4) [] (s1 := ⟨.bot :: .bot :: Bo b5 :: bt 7 [], []⟩) ?_ ?_
  ·refine XR 1 ?_
   refine L1 rfl rfl (Y1_bslice (z := zv3) (els := [vn1].map c3) Tryz.underlying51 iz3 rfl (by decide) rfl (by kernel_rfl) rfl (by simp [c3]) (by decide) (by decide)) ?_
   refine L1 rfl rfl (Y1_callS (s_impl_areNumbers hy2) cf_impl_areNumbers rfl (by kernel_rfl) rfl rfl) ?_
   refine XR 1 ?_
   refine XL_split y2 (fun hc3 => ?_) (fun hc3 => ?_)
   ·have hb5 := of_true hb5 hc3
    obtain ⟨y4, hy4, hb5⟩ := of_bind hb5
    have hb5 := some_inj hb5
    refine XL_takeC _ rfl rfl (by kernel_rfl) hc3 (X_of_Y0 rfl (E_move (I vn1) rfl (by kernel_rfl))) ?_
    refine XL_takeC _ rfl rfl (by kernel_rfl) hc3 (X_of_Y1 rfl (Y1_call (s_impl_isPrime hy4) cf_impl_isPrime rfl (by kernel_rfl))) ?_
    refine XL_cons rfl (X_of_Y0 rfl (Y0_pickTe (b := y2) (p := y4) rfl (by kernel_rfl) hc3 (by kernel_rfl) hb5)) ?_
    exact XE
   ·have hb5 := some_inj (of_false hb5 hc3)
    refine XL_skipT _ rfl rfl (by kernel_rfl) hc3 rfl ?_
    refine XL_skipT _ rfl rfl (by kernel_rfl) hc3 rfl ?_
    refine XL_cons rfl (X_of_Y0 rfl (Y0_pickFe (b := y2) (p := false) rfl (by kernel_rfl) hc3 (by kernel_rfl) hb5)) ?_
    exact XE
  refine V_ret ?_
  obtain rfl := some_inj h
  show Post _ _ _ _ _
  exact ⟨.inr rfl, rfl, rfl, rfl⟩
theorem cf_impl_canDescend : ∀ args w, (callFunc 68 args).run Tryz.prog w = .ok (.enter 68 args) w := run_callFunc Tryz.func68 (by kernel_rfl) (by kernel_rfl)
theorem s_impl_canDescend {f1 : (Int × Int × Int)} {p2 : Int} {r : Bool} (h : r_impl_canDescend f1 p2 = some r) : CallS Tryz.prog 68 [.ag [Ti f1.1, Ti f1.2.1, Ti f1.2.2], I p2] (Bo r) [] := by
  refine CallS_of_text (rs := [.t 4]) (vs := [.tmp 4]) Tryz.func68 rfl rfl (.cons rfl FitsL.nil) (by decide) 33 rfl ?_
  unfold r_impl_canDescend at h
  show V _ _ ⟨.ag [Ti f1.1, Ti f1.2.1, Ti f1.2.2] :: I p2 :: bt 31 [], []⟩ _
  refine V_e (mb 33 6) [16] (s1 := ⟨.bot :: I p2 :: .pt 16 0 :: bt 30 [], [(16, .box [Ti f1.1, Ti f1.2.1, Ti f1.2.2])]⟩) ?_
  refine V_seq ?_
  obtain ⟨y3, hy3, h⟩ := of_bind h
  obtain ⟨b6, hb6, h⟩ := of_bind h
  refine V_sreg (mb 33 65542) [16] (s1 := ⟨.bot :: I p2 :: .pt 16 0 :: bt 13 (Bo (bif b6 then true else (ltI 2000 p2)) :: bt 16 []), [(16, .box [Ti f1.1, Ti f1.2.1, Ti f1.2.2])]⟩) ?_ ?_
  ·refine XR 1 ?_
   refine XC (s_impl_isClassForm hy3) cf_impl_isClassForm rfl rfl rfl ?_
   refine XR 2 ?_
   refine XL_split (!y3) (fun hc4 => ?_) (fun hc4 => ?_)
   ·have hb6 := some_inj (of_true hb6 hc4)
    refine XL_skipF _ rfl rfl (by kernel_rfl) hc4 rfl ?_
    refine XL_skipF _ rfl rfl (by kernel_rfl) hc4 rfl ?_
    refine XL_skipF _ rfl rfl (by kernel_rfl) hc4 rfl ?_
    refine XL_cons rfl (X_of_Y0 rfl (Y0_pickTe (b := !y3) (p := true) rfl (by kernel_rfl) hc4 (by kernel_rfl) hb6)) ?_
    refine XR 1 ?_
    refine XL_split b6 (fun hc7 => ?_) (fun hc7 => ?_)
    ·refine XL_skipF _ rfl rfl (by kernel_rfl) hc7 rfl ?_
     refine XL_skipF _ rfl rfl (by kernel_rfl) hc7 rfl ?_
     refine XL_cons rfl (X_of_Y0 rfl (Y0_pick1 (b := b6) (p := true) (q := ltI 2000 p2) rfl (by kernel_rfl) hc7 (by kernel_rfl))) ?_
     exact XE
    ·refine XL_takeC _ rfl rfl (by kernel_rfl) hc7 (X_of_Y0 rfl (E_move (I p2) rfl (by kernel_rfl))) ?_
     refine XL_takeC _ rfl rfl (by kernel_rfl) hc7 (X_of_Y0 rfl (Y0_gtw (k := .i64) (a := p2) (b := 2000) rfl (by kernel_rfl) (by kernel_rfl))) ?_
     refine XL_cons rfl (X_of_Y0 rfl (Y0_pick0 (b := b6) (p := true) (q := ltI 2000 p2) rfl (by kernel_rfl) hc7 (by kernel_rfl))) ?_
     exact XE
   ·have hb6 := of_false hb6 hc4
    obtain ⟨y5, hy5, hb6⟩ := of_bind hb6
    have hb6 := some_inj hb6
    refine XL_takeC _ rfl rfl (by kernel_rfl) hc4 (X_of_Y0 rfl (E_move (I p2) rfl (by kernel_rfl))) ?_
    refine XL_takeC _ rfl rfl (by kernel_rfl) hc4 (X_of_Y1 rfl (Y1_call (s_impl_IsPrime hy5) cf_impl_IsPrime rfl (by kernel_rfl))) ?_
    refine XL_takeC _ rfl rfl (by kernel_rfl) hc4 (X_of_Y0 rfl (Y0_not (b := y5) rfl (by kernel_rfl))) ?_
    refine XL_cons rfl (X_of_Y0 rfl (Y0_pickFe (b := !y3) (p := !y5) rfl (by kernel_rfl) hc4 (by kernel_rfl) hb6)) ?_
    refine XR 1 ?_
    refine XL_split b6 (fun hc7 => ?_) (fun hc7 => ?_)
    ·refine XL_skipF _ rfl rfl (by kernel_rfl) hc7 rfl ?_
     refine XL_skipF _ rfl rfl (by kernel_rfl) hc7 rfl ?_
     refine XL_cons rfl (X_of_Y0 rfl (Y0_pick1 (b := b6) (p := true) (q := ltI 2000 p2) rfl (by kernel_rfl) hc7 (by kernel_rfl))) ?_
     exact XE
    ·refine XL_takeC _ rfl rfl (by kernel_rfl) hc7 (X_of_Y0 rfl (E_move (I p2) rfl (by kernel_rfl))) ?_
     refine XL_takeC _ rfl rfl (by kernel_rfl) hc7 (X_of_Y0 rfl (Y0_gtw (k := .i64) (a := p2) (b := 2000) rfl (by kernel_rfl) (by kernel_rfl))) ?_
     refine XL_cons rfl (X_of_Y0 rfl (Y0_pick0 (b := b6) (p := true) (q := ltI 2000 p2) rfl (by kernel_rfl) hc7 (by kernel_rfl))) ?_
     exact XE
  refine V_cond rfl (fun hc8 => ?_) (fun hc8 => ?_)
  ·have h := of_true h hc8
   refine V_e (mb 33 16) [] (s1 := ⟨bt 4 (Bo false :: bt 28 []), []⟩) ?_
   refine V_ret ?_
   obtain rfl := some_inj h
   show Post _ _ _ _ _
   exact ⟨.inr rfl, rfl, rfl, rfl⟩
  ·have h := of_false h hc8
   refine V_skip ?_
   show V _ _ _ _
   obtain ⟨y9, hy9, h⟩ := of_bind h
   obtain ⟨z10, hz10, h⟩ := of_bind h
   obtain ⟨b15, hb15, h⟩ := of_bind h
   refine V_sreg (mb 33 16) [] (s1 := ⟨bt 4 (Bo b15 :: bt 28 []), []⟩) ?_ ?_
   ·refine XR 1 ?_
    refine XC (s_impl_Form_disc hy9) cf_impl_Form_disc rfl rfl rfl ?_
    refine XR 3 ?_
    refine L0 rfl rfl (Y0_rem (k := .i64) (a := y9) (b := w64 (p2 * p2)) rfl (by kernel_rfl) (by kernel_rfl) (nz_some hz10)) ?_
    refine XR 2 ?_
    refine XL_split (eqI (Int.tmod y9 (w64 (p2 * p2))) 0) (fun hc11 => ?_) (fun hc11 => ?_)
    ·have hb15 := of_true hb15 hc11
     obtain ⟨y12, hy12, hb15⟩ := of_bind hb15
     obtain ⟨z13, hz13, hb15⟩ := of_bind hb15
     obtain ⟨y14, hy14, hb15⟩ := of_bind hb15
     have hb15 := some_inj hb15
     refine XL_takeC _ rfl rfl (by kernel_rfl) hc11 (X_of_Y0 rfl (E_loadn (cs := [Ti f1.1, Ti f1.2.1, Ti f1.2.2]) [Ti f1.1, Ti f1.2.1, Ti f1.2.2] wd25 rfl (by kernel_rfl) (Nat.le_of_ble_eq_true rfl) (by kernel_rfl))) ?_
     refine XL_takeC _ rfl rfl (by kernel_rfl) hc11 (X_of_Y1 rfl (Y1_call (s_impl_Form_disc hy12) cf_impl_Form_disc rfl (by kernel_rfl))) ?_
     refine XL_takeC _ rfl rfl (by kernel_rfl) hc11 (X_of_Y0 rfl (E_move (I p2) rfl (by kernel_rfl))) ?_
     refine XL_takeC _ rfl rfl (by kernel_rfl) hc11 (X_of_Y0 rfl (E_move (I p2) rfl (by kernel_rfl))) ?_
     refine XL_takeC _ rfl rfl (by kernel_rfl) hc11 (X_of_Y0 rfl (Y0_mul64 (a := p2) (b := p2) rfl (by kernel_rfl) (by kernel_rfl))) ?_
     refine XL_takeC _ rfl rfl (by kernel_rfl) hc11 (X_of_Y0 rfl (Y0_quo64 (a := y12) (b := w64 (p2 * p2)) rfl (by kernel_rfl) (by kernel_rfl) (nz_some hz13))) ?_
     refine XL_takeC _ rfl rfl (by kernel_rfl) hc11 (X_of_Y1 rfl (Y1_call (s_impl_isNegativeDisc hy14) cf_impl_isNegativeDisc rfl (by kernel_rfl))) ?_
     refine XL_cons rfl (X_of_Y0 rfl (Y0_pickTe (b := eqI (Int.tmod y9 (w64 (p2 * p2))) 0) (p := y14) rfl (by kernel_rfl) hc11 (by kernel_rfl) hb15)) ?_
     exact XE
    ·have hb15 := some_inj (of_false hb15 hc11)
     refine XL_skipT _ rfl rfl (by kernel_rfl) hc11 rfl ?_
     refine XL_skipT _ rfl rfl (by kernel_rfl) hc11 rfl ?_
     refine XL_skipT _ rfl rfl (by kernel_rfl) hc11 rfl ?_
     refine XL_skipT _ rfl rfl (by kernel_rfl) hc11 rfl ?_
     refine XL_skipT _ rfl rfl (by kernel_rfl) hc11 rfl ?_
     refine XL_skipT _ rfl rfl (by kernel_rfl) hc11 rfl ?_
     refine XL_skipT _ rfl rfl (by kernel_rfl) hc11 rfl ?_
     refine XL_cons rfl (X_of_Y0 rfl (Y0_pickFe (b := eqI (Int.tmod y9 (w64 (p2 * p2))) 0) (p := false) rfl (by kernel_rfl) hc11 (by kernel_rfl) hb15)) ?_
     exact XE
   refine V_ret ?_
   obtain rfl := some_inj h
   show Post _ _ _ _ _
   exact ⟨.inr rfl, rfl, rfl, rfl⟩
theorem cf_impl_firstPoint : ∀ args w, (callFunc 154 args).run Tryz.prog w = .ok (.enter 154 args) w := run_callFunc Tryz.func154 (by kernel_rfl) (by kernel_rfl)
theorem s_impl_firstPoint {g1 : (Int × Int × Int)} {a2 : Int} {r : (Int × Int)} (h : r_impl_firstPoint g1 a2 = some r) : CallS Tryz.prog 154 [.ag [Ti g1.1, Ti g1.2.1, Ti g1.2.2], I a2] (.tc (I r.1) (.tc (I r.2) .tn)) [] := by
  refine CallS_of_text (rs := [.t 4, .t 5]) (vs := [.tmp 4, .tmp 5]) Tryz.func154 rfl rfl (.cons rfl (.cons rfl FitsL.nil)) (by decide) 43 rfl ?_
  unfold r_impl_firstPoint at h
  show V _ _ ⟨.ag [Ti g1.1, Ti g1.2.1, Ti g1.2.2] :: I a2 :: bt 41 [], []⟩ _
  refine V_e (mb 43 6) [16] (s1 := ⟨.bot :: I a2 :: .pt 16 0 :: bt 40 [], [(16, .box [Ti g1.1, Ti g1.2.1, Ti g1.2.2])]⟩) ?_
  refine V_e (mb 43 70) [16] (s1 := ⟨.bot :: I a2 :: .pt 16 0 :: bt 3 (I 0 :: bt 36 []), [(16, .box [Ti g1.1, Ti g1.2.1, Ti g1.2.2])]⟩) ?_
  obtain ⟨qo5, hLo5, hko5⟩ := of_bind h
  refine V_toS (q := qo5) (S := fun _ => (⟨[], []⟩ : St)) [] [] ?_ ?_
  ·refine V_block (V_loop (fun n s => ∃ (size3 : Int), s.keep (mb 43 70) [16] = (⟨.bot :: I a2 :: .pt 16 0 :: bt 3 (I size3 :: bt 36 []), [(16, .box [Ti g1.1, Ti g1.2.1, Ti g1.2.2])]⟩ : St) ∧ r_impl_firstPoint_L4 a2 g1 n size3 = some qo5) FU ⟨_,  by rfl, hLo5⟩ ?_)
   clear hLo5
   rintro n s ⟨size3, hs, h⟩
   refine V_keep _ _ hs ?_
   clear hs
   cases n with
   | zero => cases h
   | succ n =>
    rw [r_impl_firstPoint_L4] at h
    refine V_seq ?_
    refine V_block ?_
    refine V_e (mb 43 198) [16] (s1 := ⟨.bot :: I a2 :: .pt 16 0 :: bt 3 (I size3 :: I 0 :: bt 35 []), [(16, .box [Ti g1.1, Ti g1.2.1, Ti g1.2.2])]⟩) ?_
    obtain ⟨qo8, hLo8, hko8⟩ := of_bind h
    refine V_toS (q := qo8) (S := fun o8 => ⟨.bot :: I a2 :: .pt 16 0 :: bt 3 (I size3 :: bt 36 []), [(16, .box [Ti g1.1, Ti g1.2.1, Ti g1.2.2])]⟩) (mb 43 70) [16] ?_ ?_
    ·refine V_block (V_loop (fun n s => ∃ (x6 : Int), s.keep (mb 43 198) [16] = (⟨.bot :: I a2 :: .pt 16 0 :: bt 3 (I size3 :: I x6 :: bt 35 []), [(16, .box [Ti g1.1, Ti g1.2.1, Ti g1.2.2])]⟩ : St) ∧ r_impl_firstPoint_L7 a2 g1 size3 n x6 = some qo8) FU ⟨_,  by rfl, hLo8⟩ ?_)
     clear hLo8
     rintro n s ⟨x6, hs, h⟩
     refine V_keep _ _ hs ?_
     clear hs
     cases n with
     | zero => cases h
     | succ n =>
      rw [r_impl_firstPoint_L7] at h
      refine V_seq ?_
      refine V_e (mb 43 8390) [16] (s1 := ⟨.bot :: I a2 :: .pt 16 0 :: bt 3 (I size3 :: I x6 :: bt 5 (Bo (leI x6 size3) :: bt 29 [])), [(16, .box [Ti g1.1, Ti g1.2.1, Ti g1.2.2])]⟩) ?_
      refine V_cond rfl (fun hc9 => ?_) (fun hc9 => ?_)
      ·have h := of_true h hc9
       refine V_skip ?_
       show V _ _ _ _
       refine V_seq ?_
       refine V_block ?_
       refine V_e (mb 43 454) [16] (s1 := ⟨.bot :: I a2 :: .pt 16 0 :: bt 3 (I size3 :: I x6 :: I 0 :: bt 34 []), [(16, .box [Ti g1.1, Ti g1.2.1, Ti g1.2.2])]⟩) ?_
       obtain ⟨qo12, hLo12, hko12⟩ := of_bind h
       refine V_toS (q := qo12) (S := fun o12 => ⟨.bot :: I a2 :: .pt 16 0 :: bt 3 (I size3 :: I x6 :: bt 35 []), [(16, .box [Ti g1.1, Ti g1.2.1, Ti g1.2.2])]⟩) (mb 43 198) [16] ?_ ?_
       ·refine V_block (V_loop (fun n s => ∃ (y10 : Int), s.keep (mb 43 454) [16] = (⟨.bot :: I a2 :: .pt 16 0 :: bt 3 (I size3 :: I x6 :: I y10 :: bt 34 []), [(16, .box [Ti g1.1, Ti g1.2.1, Ti g1.2.2])]⟩ : St) ∧ r_impl_firstPoint_L11 a2 g1 size3 x6 n y10 = some qo12) FU ⟨_,  by rfl, hLo12⟩ ?_)
        clear hLo12
        rintro n s ⟨y10, hs, h⟩
        refine V_keep _ _ hs ?_
        clear hs
        cases n with
        | zero => cases h
        | succ n =>
         rw [r_impl_firstPoint_L11] at h
         refine V_seq ?_
         refine V_e (mb 43 262598) [16] (s1 := ⟨.bot :: I a2 :: .pt 16 0 :: bt 3 (I size3 :: I x6 :: I y10 :: bt 9 (Bo (leI y10 size3) :: bt 24 [])), [(16, .box [Ti g1.1, Ti g1.2.1, Ti g1.2.2])]⟩) ?_
         refine V_cond rfl (fun hc13 => ?_) (fun hc13 => ?_)
         ·have h := of_true h hc13
          refine V_skip ?_
          show V _ _ _ _
          refine V_seq ?_
          refine V_block ?_
          obtain ⟨b16, hb16, h⟩ := of_bind h
          obtain ⟨b20, hb20, h⟩ := of_bind h
          refine V_sreg (mb 43 1099511628230) [16] (s1 := ⟨.bot :: I a2 :: .pt 16 0 :: bt 3 (I size3 :: I x6 :: I y10 :: bt 31 (Bo b20 :: .bot :: .bot :: [])), [(16, .box [Ti g1.1, Ti g1.2.1, Ti g1.2.2])]⟩) ?_ ?_
          ·refine XR 2 ?_
           refine L0 rfl rfl (Y0_max (a := x6) (b := y10) rfl (by kernel_rfl) (by kernel_rfl)) ?_
           refine XR 3 ?_
           refine XL_split (eqI (mxI x6 y10) size3) (fun hc14 => ?_) (fun hc14 => ?_)
           ·have hb16 := of_true hb16 hc14
            obtain ⟨y15, hy15, hb16⟩ := of_bind hb16
            have hb16 := some_inj hb16
            refine XL_takeC _ rfl rfl (by kernel_rfl) hc14 (X_of_Y0 rfl (E_move (I x6) rfl (by kernel_rfl))) ?_
            refine XL_takeC _ rfl rfl (by kernel_rfl) hc14 (X_of_Y0 rfl (E_move (I y10) rfl (by kernel_rfl))) ?_
            refine XL_takeC _ rfl rfl (by kernel_rfl) hc14 (X_of_Y1 rfl (Y1_call (s_impl_gcd hy15) cf_impl_gcd rfl (by kernel_rfl))) ?_
            refine XL_takeC _ rfl rfl (by kernel_rfl) hc14 (X_of_Y0 rfl (Y0_eqw (k := .i64) (a := y15) (b := 1) rfl (by kernel_rfl) (by kernel_rfl))) ?_
            refine XL_cons rfl (X_of_Y0 rfl (Y0_pickTe (b := eqI (mxI x6 y10) size3) (p := eqI y15 1) rfl (by kernel_rfl) hc14 (by kernel_rfl) hb16)) ?_
            refine XR 1 ?_
            refine XL_split b16 (fun hc17 => ?_) (fun hc17 => ?_)
            ·have hb20 := of_true hb20 hc17
             obtain ⟨y18, hy18, hb20⟩ := of_bind hb20
             obtain ⟨y19, hy19, hb20⟩ := of_bind hb20
             have hb20 := some_inj hb20
             refine XL_takeC _ rfl rfl (by kernel_rfl) hc17 (X_of_Y0 rfl (E_loadn (cs := [Ti g1.1, Ti g1.2.1, Ti g1.2.2]) [Ti g1.1, Ti g1.2.1, Ti g1.2.2] wd25 rfl (by kernel_rfl) (Nat.le_of_ble_eq_true rfl) (by kernel_rfl))) ?_
             refine XL_takeC _ rfl rfl (by kernel_rfl) hc17 (X_of_Y0 rfl (E_move (I x6) rfl (by kernel_rfl))) ?_
             refine XL_takeC _ rfl rfl (by kernel_rfl) hc17 (X_of_Y0 rfl (E_move (I y10) rfl (by kernel_rfl))) ?_
             refine XL_takeC _ rfl rfl (by kernel_rfl) hc17 (X_of_Y1 rfl (Y1_call (s_impl_Form_at hy18) cf_impl_Form_at rfl (by kernel_rfl))) ?_
             refine XL_takeC _ rfl rfl (by kernel_rfl) hc17 (X_of_Y0 rfl (E_move (I a2) rfl (by kernel_rfl))) ?_
             refine XL_takeC _ rfl rfl (by kernel_rfl) hc17 (X_of_Y1 rfl (Y1_call (s_impl_gcd hy19) cf_impl_gcd rfl (by kernel_rfl))) ?_
             refine XL_takeC _ rfl rfl (by kernel_rfl) hc17 (X_of_Y0 rfl (Y0_eqw (k := .i64) (a := y19) (b := 1) rfl (by kernel_rfl) (by kernel_rfl))) ?_
             refine XL_cons rfl (X_of_Y0 rfl (Y0_pickTe (b := b16) (p := eqI y19 1) rfl (by kernel_rfl) hc17 (by kernel_rfl) hb20)) ?_
             exact XE
            ·have hb20 := some_inj (of_false hb20 hc17)
             refine XL_skipT _ rfl rfl (by kernel_rfl) hc17 rfl ?_
             refine XL_skipT _ rfl rfl (by kernel_rfl) hc17 rfl ?_
             refine XL_skipT _ rfl rfl (by kernel_rfl) hc17 rfl ?_
             refine XL_skipT _ rfl rfl (by kernel_rfl) hc17 rfl ?_
             refine XL_skipT _ rfl rfl (by kernel_rfl) hc17 rfl ?_
             refine XL_skipT _ rfl rfl (by kernel_rfl) hc17 rfl ?_
             refine XL_skipT _ rfl rfl (by kernel_rfl) hc17 rfl ?_
             refine XL_cons rfl (X_of_Y0 rfl (Y0_pickFe (b := b16) (p := false) rfl (by kernel_rfl) hc17 (by kernel_rfl) hb20)) ?_
             exact XE
           ·have hb16 := some_inj (of_false hb16 hc14)
            refine XL_skipT _ rfl rfl (by kernel_rfl) hc14 rfl ?_
            refine XL_skipT _ rfl rfl (by kernel_rfl) hc14 rfl ?_
            refine XL_skipT _ rfl rfl (by kernel_rfl) hc14 rfl ?_
            refine XL_skipT _ rfl rfl (by kernel_rfl) hc14 rfl ?_
            refine XL_cons rfl (X_of_Y0 rfl (Y0_pickFe (b := eqI (mxI x6 y10) size3) (p := false) rfl (by kernel_rfl) hc14 (by kernel_rfl) hb16)) ?_
            refine XR 1 ?_
            refine XL_split b16 (fun hc17 => ?_) (fun hc17 => ?_)
            ·have hb20 := of_true hb20 hc17
             obtain ⟨y18, hy18, hb20⟩ := of_bind hb20
             obtain ⟨y19, hy19, hb20⟩ := of_bind hb20
             have hb20 := some_inj hb20
             refine XL_takeC _ rfl rfl (by kernel_rfl) hc17 (X_of_Y0 rfl (E_loadn (cs := [Ti g1.1, Ti g1.2.1, Ti g1.2.2]) [Ti g1.1, Ti g1.2.1, Ti g1.2.2] wd25 rfl (by kernel_rfl) (Nat.le_of_ble_eq_true rfl) (by kernel_rfl))) ?_
             refine XL_takeC _ rfl rfl (by kernel_rfl) hc17 (X_of_Y0 rfl (E_move (I x6) rfl (by kernel_rfl))) ?_
             refine XL_takeC _ rfl rfl (by kernel_rfl) hc17 (X_of_Y0 rfl (E_move (I y10) rfl (by kernel_rfl))) ?_
             refine XL_takeC _ rfl rfl (by kernel_rfl) hc17 (X_of_Y1 rfl (Y1_call (s_impl_Form_at hy18) cf_impl_Form_at rfl (by kernel_rfl))) ?_
             refine XL_takeC _ rfl rfl (by kernel_rfl) hc17 (X_of_Y0 rfl (E_move (I a2) rfl (by kernel_rfl))) ?_
             refine XL_takeC _ rfl rfl (by kernel_rfl) hc17 (X_of_Y1 rfl (Y1_call (s_impl_gcd hy19) cf_impl_gcd rfl (by kernel_rfl))) ?_
             refine XL_takeC _ rfl rfl (by kernel_rfl) hc17 (X_of_Y0 rfl (Y0_eqw (k := .i64) (a := y19) (b := 1) rfl (by kernel_rfl) (by kernel_rfl))) ?_
             refine XL_cons rfl (X_of_Y0 rfl (Y0_pickTe (b := b16) (p := eqI y19 1) rfl (by kernel_rfl) hc17 (by kernel_rfl) hb20)) ?_
             exact XE
            ·have hb20 := some_inj (of_false hb20 hc17)
             refine XL_skipT _ rfl rfl (by kernel_rfl) hc17 rfl ?_
             refine XL_skipT _ rfl rfl (by kernel_rfl) hc17 rfl ?_
             refine XL_skipT _ rfl rfl (by kernel_rfl) hc17 rfl ?_
             refine XL_skipT _ rfl rfl (by kernel_rfl) hc17 rfl ?_
             refine XL_skipT _ rfl rfl (by kernel_rfl) hc17 rfl ?_
             refine XL_skipT _ rfl rfl (by kernel_rfl) hc17 rfl ?_
             refine XL_skipT _ rfl rfl (by kernel_rfl) hc17 rfl ?_
             refine XL_cons rfl (X_of_Y0 rfl (Y0_pickFe (b := b16) (p := false) rfl (by kernel_rfl) hc17 (by kernel_rfl) hb20)) ?_
             exact XE
          refine V_cond rfl (fun hc21 => ?_) (fun hc21 => ?_)
          ·have h := of_true h hc21
           refine V_e (mb 43 48) [] (s1 := ⟨bt 4 (I x6 :: I y10 :: bt 37 []), []⟩) ?_
           refine V_ret ?_
           obtain rfl := some_inj h
           have h := hko12
           obtain rfl := some_inj h
           have h := hko8
           obtain rfl := some_inj h
           have h := hko5
           obtain rfl := some_inj h
           show Post _ _ _ _ _
           exact ⟨.inr rfl, rfl, rfl, rfl⟩
          ·have h := of_false h hc21
           refine V_skip ?_
           show V _ _ _ _
           obtain ⟨y22, hy22, h⟩ := of_sI h
           refine V_reg (mb 43 454) [16] (s1 := ⟨.bot :: I a2 :: .pt 16 0 :: bt 3 (I size3 :: I x6 :: I y22 :: bt 34 []), [(16, .box [Ti g1.1, Ti g1.2.1, Ti g1.2.2])]⟩) ?_ ?_
           ·refine XR 3 ?_
            refine XL_nil ?_
            subst hy22
            kernel_rfl
           exact ⟨n, Nat.lt_succ_self n, _,  by rfl, h⟩
         ·have h := of_false h hc13
          refine V_exit ?_
          obtain rfl := some_inj h
          exact ⟨_, rfl, by rfl⟩
       rintro o12 rfl
       have h := hko12
       clear hko12
       show V _ _ _ _
       obtain ⟨x23, hx23, h⟩ := of_sI h
       refine V_reg (mb 43 198) [16] (s1 := ⟨.bot :: I a2 :: .pt 16 0 :: bt 3 (I size3 :: I x23 :: bt 35 []), [(16, .box [Ti g1.1, Ti g1.2.1, Ti g1.2.2])]⟩) ?_ ?_
       ·refine XR 3 ?_
        refine XL_nil ?_
        subst hx23
        kernel_rfl
       exact ⟨n, Nat.lt_succ_self n, _,  by rfl, h⟩
      ·have h := of_false h hc9
       refine V_exit ?_
       obtain rfl := some_inj h
       exact ⟨_, rfl, by rfl⟩
    rintro o8 rfl
    have h := hko8
    clear hko8
    show V _ _ _ _
    obtain ⟨size24, hsize24, h⟩ := of_sI h
    refine V_reg (mb 43 70) [16] (s1 := ⟨.bot :: I a2 :: .pt 16 0 :: bt 3 (I size24 :: bt 36 []), [(16, .box [Ti g1.1, Ti g1.2.1, Ti g1.2.2])]⟩) ?_ ?_
    ·refine XR 3 ?_
     refine XL_nil ?_
     subst hsize24
     kernel_rfl
    exact ⟨n, Nat.lt_succ_self n, _,  by rfl, h⟩
  rintro o5 rfl
  cases hko5
theorem cf_impl_inverse : ∀ args w, (callFunc 217 args).run Tryz.prog w = .ok (.enter 217 args) w := run_callFunc Tryz.func217 (by kernel_rfl) (by kernel_rfl)
theorem s_impl_inverse {a1 : Int} {vm2 : Int} {r : Int} (h : r_impl_inverse a1 vm2 = some r) : CallS Tryz.prog 217 [I a1, I vm2] (I r) [] := by
  refine CallS_of_text (rs := [.t 4]) (vs := [.tmp 4]) Tryz.func217 rfl rfl (.cons rfl FitsL.nil) (by decide) 34 rfl ?_
  unfold r_impl_inverse at h
  show V _ _ ⟨I a1 :: I vm2 :: bt 32 [], []⟩ _
  refine V_e (mb 34 3) [] (s1 := ⟨I a1 :: I vm2 :: bt 32 [], []⟩) ?_
  refine V_e (mb 34 99) [] (s1 := ⟨I a1 :: I vm2 :: bt 3 (I 1 :: I 0 :: bt 27 []), []⟩) ?_
  refine V_seq ?_
  obtain ⟨y3, hy3, h⟩ := of_bind h
  refine V_sreg (mb 34 482) [] (s1 := ⟨.bot :: I vm2 :: bt 3 (I 1 :: I 0 :: I y3 :: I vm2 :: bt 25 []), []⟩) ?_ ?_
  ·refine XR 2 ?_
   refine XC (s_impl_mod hy3) cf_impl_mod rfl rfl rfl ?_
   exact XE
  obtain ⟨o9, hLo9, h⟩ := of_bind h
  refine V_toK (mb 34 34) [] (s1 := ⟨.bot :: I vm2 :: bt 3 (I o9 :: bt 28 []), []⟩) ?_ ?_
  ·clear h
   refine V_block (V_loop (fun n s => ∃ (x4 : Int) (y5 : Int) (vr6 : Int) (vs7 : Int), s.keep (mb 34 482) [] = (⟨.bot :: I vm2 :: bt 3 (I x4 :: I y5 :: I vr6 :: I vs7 :: bt 25 []), []⟩ : St) ∧ r_impl_inverse_L8 vm2 n x4 y5 vr6 vs7 = some o9) FU ⟨_, _, _, _,  by rfl, hLo9⟩ ?_)
   clear hLo9
   rintro n s ⟨x4, y5, vr6, vs7, hs, h⟩
   refine V_keep _ _ hs ?_
   clear hs
   cases n with
   | zero => cases h
   | succ n =>
    rw [r_impl_inverse_L8] at h
    refine V_seq ?_
    refine V_e (mb 34 33250) [] (s1 := ⟨.bot :: I vm2 :: bt 3 (I x4 :: I y5 :: I vr6 :: I vs7 :: bt 6 (Bo (!eqI vs7 0) :: bt 18 [])), []⟩) ?_
    refine V_cond rfl (fun hc10 => ?_) (fun hc10 => ?_)
    ·have h := of_true h hc10
     refine V_skip ?_
     show V _ _ _ _
     refine V_block ?_
     obtain ⟨z11, hz11, h⟩ := of_bind h
     obtain ⟨q12, hq12, h⟩ := of_sI h
     refine V_sreg (mb 34 994) [] (s1 := ⟨.bot :: I vm2 :: bt 3 (I x4 :: I y5 :: I vr6 :: I vs7 :: I q12 :: bt 24 []), []⟩) ?_ ?_
     ·refine XR 2 ?_
      refine L0 rfl rfl (Y0_quo64 (a := vr6) (b := vs7) rfl (by kernel_rfl) (by kernel_rfl) (nz_some hz11)) ?_
      refine XR 1 ?_
      refine XL_nil ?_
      subst hq12
      kernel_rfl
     obtain ⟨vs13, hvs13, h⟩ := of_sI h
     refine V_sreg (mb 34 994) [] (s1 := ⟨.bot :: I vm2 :: bt 3 (I x4 :: I y5 :: I vs7 :: I vs13 :: I q12 :: bt 24 []), []⟩) ?_ ?_
     ·refine XR 8 ?_
      refine XL_nil ?_
      subst hvs13
      kernel_rfl
     obtain ⟨y14, hy14, h⟩ := of_sI h
     refine V_reg (mb 34 482) [] (s1 := ⟨.bot :: I vm2 :: bt 3 (I y5 :: I y14 :: I vs7 :: I vs13 :: bt 25 []), []⟩) ?_ ?_
     ·refine XR 8 ?_
      refine XL_nil ?_
      subst hy14
      kernel_rfl
     exact ⟨n, Nat.lt_succ_self n, _, _, _, _,  by rfl, h⟩
    ·have h := of_false h hc10
     refine V_exit ?_
     obtain rfl := some_inj h
     show St.keep _ _ _ = _
     rfl
  show V _ _ _ _
  obtain ⟨y15, hy15, h⟩ := of_bind h
  refine V_sreg (mb 34 16) [] (s1 := ⟨bt 4 (I y15 :: bt 29 []), []⟩) ?_ ?_
  ·refine XR 2 ?_
   refine XC (s_impl_mod hy15) cf_impl_mod rfl rfl rfl ?_
   exact XE
  refine V_ret ?_
  obtain rfl := some_inj h
  show Post _ _ _ _ _
  exact ⟨.inr rfl, rfl, rfl, rfl⟩
theorem cf_impl_Form_complete : ∀ args w, (callFunc 155 args).run Tryz.prog w = .ok (.enter 155 args) w := run_callFunc Tryz.func155 (by kernel_rfl) (by kernel_rfl)
theorem s_impl_Form_complete {f1 : (Int × Int × Int)} {x2 : Int} {y3 : Int} {r : (((Int × Int × Int)) × ((Int × Int × Int × Int)))} (h : r_impl_Form_complete f1 x2 y3 = some r) : CallS Tryz.prog 155 [.ag [Ti f1.1, Ti f1.2.1, Ti f1.2.2], I x2, I y3] (.tc (.ag [Ti r.1.1, Ti r.1.2.1, Ti r.1.2.2]) (.tc (.ag [Ti r.2.1, Ti r.2.2.1, Ti r.2.2.2.1, Ti r.2.2.2.2]) .tn)) [] := by
  refine CallS_of_text (rs := [.w 6 3, .w 7 4]) (vs := [.cell 6 25, .cell 7 31]) Tryz.func155 rfl rfl (.cons ⟨rfl, wd25⟩ (.cons ⟨rfl, wd31⟩ FitsL.nil)) (by decide) 59 rfl ?_
  unfold r_impl_Form_complete at h
  show V _ _ ⟨.ag [Ti f1.1, Ti f1.2.1, Ti f1.2.2] :: I x2 :: I y3 :: bt 56 [], []⟩ _
  refine V_e (mb 59 206) [56, 48, 24] (s1 := ⟨.bot :: I x2 :: I y3 :: .pt 24 0 :: .bot :: .bot :: .pt 48 0 :: .pt 56 0 :: bt 51 [], [(56, .box [Ti 0, Ti 0, Ti 0, Ti 0]), (48, .box [Ti 0, Ti 0, Ti 0]), (24, .box [Ti f1.1, Ti f1.2.1, Ti f1.2.2])]⟩) ?_
  refine V_sreg (mb 59 462) [64, 56, 48, 24] (s1 := ⟨.bot :: I x2 :: I y3 :: .pt 24 0 :: .bot :: .bot :: .pt 48 0 :: .pt 56 0 :: .pt 64 0 :: bt 50 [], [(64, .box [Ti x2, Ti 0, Ti y3, Ti 0]), (56, .box [Ti 0, Ti 0, Ti 0, Ti 0]), (48, .box [Ti 0, Ti 0, Ti 0]), (24, .box [Ti f1.1, Ti f1.2.1, Ti f1.2.2])]⟩) ?_ ?_
  ·refine XR 2 ?_
   refine L0 rfl rfl (Y0_build (cs := [Ti x2, Ti 0, Ti y3, Ti 0]) pl31 bt31 rfl rfl (by kernel_rfl)) ?_
   exact XE
  obtain ⟨j4, hj4, h⟩ := of_bind h
  refine V_cutK (mb 59 462) [64, 56, 48, 24] (s1 := ⟨.bot :: I x2 :: I y3 :: .pt 24 0 :: .bot :: .bot :: .pt 48 0 :: .pt 56 0 :: .pt 64 0 :: bt 50 [], [(64, .box [Ti x2, Ti j4.1, Ti y3, Ti j4.2]), (56, .box [Ti 0, Ti 0, Ti 0, Ti 0]), (48, .box [Ti 0, Ti 0, Ti 0]), (24, .box [Ti f1.1, Ti f1.2.1, Ti f1.2.2])]⟩) ?_ ?_
  ·clear h
   have h := hj4
   clear hj4
   refine V_e (mb 59 33230) [64, 56, 48, 24] (s1 := ⟨.bot :: I x2 :: I y3 :: .pt 24 0 :: .bot :: .bot :: .pt 48 0 :: .pt 56 0 :: .pt 64 0 :: bt 6 (Bo (eqI y3 0) :: bt 43 []), [(64, .box [Ti x2, Ti 0, Ti y3, Ti 0]), (56, .box [Ti 0, Ti 0, Ti 0, Ti 0]), (48, .box [Ti 0, Ti 0, Ti 0]), (24, .box [Ti f1.1, Ti f1.2.1, Ti f1.2.2])]⟩) ?_
   refine V_cond rfl (fun hc5 => ?_) (fun hc5 => ?_)
   ·have h := of_true h hc5
    refine V_reg (mb 59 462) [64, 56, 48, 24] (s1 := ⟨.bot :: I x2 :: I y3 :: .pt 24 0 :: .bot :: .bot :: .pt 48 0 :: .pt 56 0 :: .pt 64 0 :: bt 50 [], [(64, .box [Ti x2, Ti 0, Ti y3, Ti x2]), (56, .box [Ti 0, Ti 0, Ti 0, Ti 0]), (48, .box [Ti 0, Ti 0, Ti 0]), (24, .box [Ti f1.1, Ti f1.2.1, Ti f1.2.2])]⟩) ?_ ?_
    ·exact XE
    obtain rfl := some_inj h
    show St.keep _ _ _ = _
    rfl
   ·have h := of_false h hc5
    obtain ⟨y6, hy6, h⟩ := of_bind h
    obtain ⟨y7, hy7, h⟩ := of_bind h
    refine V_sreg (mb 59 462) [64, 56, 48, 24] (s1 := ⟨.bot :: I x2 :: I y3 :: .pt 24 0 :: .bot :: .bot :: .pt 48 0 :: .pt 56 0 :: .pt 64 0 :: bt 50 [], [(64, .box [Ti x2, Ti 0, Ti y3, Ti y7]), (56, .box [Ti 0, Ti 0, Ti 0, Ti 0]), (48, .box [Ti 0, Ti 0, Ti 0]), (24, .box [Ti f1.1, Ti f1.2.1, Ti f1.2.2])]⟩) ?_ ?_
    ·refine XR 2 ?_
     refine XC (s_impl_abs hy6) cf_impl_abs rfl rfl rfl ?_
     refine XC (s_impl_inverse hy7) cf_impl_inverse rfl rfl rfl ?_
     exact XE
    obtain ⟨z8, hz8, h⟩ := of_bind h
    obtain ⟨f9, hf9, h⟩ := of_sI h
    refine V_reg (mb 59 462) [64, 56, 48, 24] (s1 := ⟨.bot :: I x2 :: I y3 :: .pt 24 0 :: .bot :: .bot :: .pt 48 0 :: .pt 56 0 :: .pt 64 0 :: bt 50 [], [(64, .box [Ti x2, Ti f9, Ti y3, Ti y7]), (56, .box [Ti 0, Ti 0, Ti 0, Ti 0]), (48, .box [Ti 0, Ti 0, Ti 0]), (24, .box [Ti f1.1, Ti f1.2.1, Ti f1.2.2])]⟩) ?_ ?_
    ·refine XR 6 ?_
     refine L0 rfl rfl (Y0_quo64 (a := w64 ((w64 (x2 * y7)) - 1)) (b := y3) rfl (by kernel_rfl) (by kernel_rfl) (nz_some hz8)) ?_
     refine XR 2 ?_
     refine XL_nil ?_
     subst hf9
     kernel_rfl
    obtain rfl := some_inj h
    show St.keep _ _ _ = _
    rfl
  obtain ⟨y10, hy10, h⟩ := of_bind h
  refine V_sreg (mb 59 974) [72, 64, 56, 48, 24] (s1 := ⟨.bot :: I x2 :: I y3 :: .pt 24 0 :: .bot :: .bot :: .pt 48 0 :: .pt 56 0 :: .pt 64 0 :: .pt 72 0 :: bt 49 [], [(72, .box [Ti y10.1, Ti y10.2.1, Ti y10.2.2]), (64, .box [Ti x2, Ti j4.1, Ti y3, Ti j4.2]), (56, .box [Ti 0, Ti 0, Ti 0, Ti 0]), (48, .box [Ti 0, Ti 0, Ti 0]), (24, .box [Ti f1.1, Ti f1.2.1, Ti f1.2.2])]⟩) ?_ ?_
  ·refine XR 2 ?_
   refine XC (s_impl_Form_substitute hy10) cf_impl_Form_substitute rfl rfl rfl ?_
   exact XE
  obtain ⟨y11, hy11, h⟩ := of_bind h
  obtain ⟨t12, ht12, h⟩ := of_sI h
  refine V_sreg (mb 59 1486) [64, 56, 48, 24] (s1 := ⟨.bot :: I x2 :: I y3 :: .pt 24 0 :: .bot :: .bot :: .pt 48 0 :: .pt 56 0 :: .pt 64 0 :: .bot :: I t12 :: bt 48 [], [(64, .box [Ti x2, Ti j4.1, Ti y3, Ti j4.2]), (56, .box [Ti 0, Ti 0, Ti 0, Ti 0]), (48, .box [Ti 0, Ti 0, Ti 0]), (24, .box [Ti f1.1, Ti f1.2.1, Ti f1.2.2])]⟩) ?_ ?_
  ·refine XR 5 ?_
   refine XC (s_impl_floorDiv hy11) cf_impl_floorDiv rfl rfl rfl ?_
   refine XR 2 ?_
   refine XL_nil ?_
   subst ht12
   kernel_rfl
  obtain ⟨f13, hf13, h⟩ := of_sI h
  refine V_sreg (mb 59 1484) [64, 56, 48, 24] (s1 := ⟨.bot :: .bot :: I y3 :: .pt 24 0 :: .bot :: .bot :: .pt 48 0 :: .pt 56 0 :: .pt 64 0 :: .bot :: I t12 :: bt 48 [], [(64, .box [Ti x2, Ti f13, Ti y3, Ti j4.2]), (56, .box [Ti 0, Ti 0, Ti 0, Ti 0]), (48, .box [Ti 0, Ti 0, Ti 0]), (24, .box [Ti f1.1, Ti f1.2.1, Ti f1.2.2])]⟩) ?_ ?_
  ·refine XR 8 ?_
   refine XL_nil ?_
   subst hf13
   kernel_rfl
  obtain ⟨f14, hf14, h⟩ := of_sI h
  refine V_sreg (mb 59 456) [64, 56, 48, 24] (s1 := ⟨bt 3 (.pt 24 0 :: .bot :: .bot :: .pt 48 0 :: .pt 56 0 :: .pt 64 0 :: bt 50 []), [(64, .box [Ti x2, Ti f13, Ti y3, Ti f14]), (56, .box [Ti 0, Ti 0, Ti 0, Ti 0]), (48, .box [Ti 0, Ti 0, Ti 0]), (24, .box [Ti f1.1, Ti f1.2.1, Ti f1.2.2])]⟩) ?_ ?_
  ·refine XR 8 ?_
   refine XL_nil ?_
   subst hf14
   kernel_rfl
  obtain ⟨y15, hy15, h⟩ := of_bind h
  refine V_sdreg [0, 0, 3, 0, 7, 31] 5 [[.z, .b, .z, .b, .z], [.b, .z, .z, .b, .z], [.a, .a, .z, .b, .z], [.b, .b, .b, .z, .r 48], [.a, .a, .a, .b, .z]] (mb 59 192) [56, 48] (s1 := ⟨bt 6 (.pt 48 0 :: .pt 56 0 :: bt 51 []), [(56, .box [Ti x2, Ti f13, Ti y3, Ti f14]), (48, .box [Ti y15.1, Ti y15.2.1, Ti y15.2.2])]⟩) (by kernel_rfl) (by kernel_rfl) ?_ ?_
  ·refine DR 2 ?_
   refine DC 2 (s_impl_Form_substitute hy15) cf_impl_Form_substitute rfl rfl rfl rfl 57 rfl ?_
   refine DA 2 ?_
   exact XE
  refine V_ret ?_
  obtain rfl := some_inj h
  show Post _ _ _ _ _
  exact ⟨.inr rfl, rfl, rfl, rfl⟩
theorem cf_impl_Matrix_det : ∀ args w, (callFunc 77 args).run Tryz.prog w = .ok (.enter 77 args) w := run_callFunc Tryz.func77 (by kernel_rfl) (by kernel_rfl)
theorem s_impl_Matrix_det {vm1 : (Int × Int × Int × Int)} {r : Int} (h : r_impl_Matrix_det vm1 = some r) : CallS Tryz.prog 77 [.ag [Ti vm1.1, Ti vm1.2.1, Ti vm1.2.2.1, Ti vm1.2.2.2]] (I r) [] := by
  refine CallS_of_text (rs := [.t 2]) (vs := [.tmp 2]) Tryz.func77 rfl rfl (.cons rfl FitsL.nil) (by decide) 14 rfl ?_
  unfold r_impl_Matrix_det at h
  show V _ _ ⟨.ag [Ti vm1.1, Ti vm1.2.1, Ti vm1.2.2.1, Ti vm1.2.2.2] :: bt 13 [], []⟩ _
  refine V_e (mb 14 2) [8] (s1 := ⟨.bot :: .pt 8 0 :: bt 12 [], [(8, .box [Ti vm1.1, Ti vm1.2.1, Ti vm1.2.2.1, Ti vm1.2.2.2])]⟩) ?_
  obtain ⟨t2, ht2, h⟩ := of_sI h
  refine V_sreg (mb 14 4) [] (s1 := ⟨.bot :: .bot :: I t2 :: bt 11 [], []⟩) ?_ ?_
  ·refine XR 12 ?_
   refine XL_nil ?_
   subst ht2
   kernel_rfl
  refine V_ret ?_
  obtain rfl := some_inj h
  show Post _ _ _ _ _
  exact ⟨.inr rfl, rfl, rfl, rfl⟩
theorem cf_impl_Matrix_inverse : ∀ args w, (callFunc 158 args).run Tryz.prog w = .ok (.enter 158 args) w := run_callFunc Tryz.func158 (by kernel_rfl) (by kernel_rfl)
theorem s_impl_Matrix_inverse {vm1 : (Int × Int × Int × Int)} {r : (Int × Int × Int × Int)} (h : r_impl_Matrix_inverse vm1 = some r) : CallS Tryz.prog 158 [.ag [Ti vm1.1, Ti vm1.2.1, Ti vm1.2.2.1, Ti vm1.2.2.2]] (.ag [Ti r.1, Ti r.2.1, Ti r.2.2.1, Ti r.2.2.2]) [] := by
  refine CallS_of_text (rs := [.w 2 4]) (vs := [.cell 2 31]) Tryz.func158 rfl rfl (.cons ⟨rfl, wd31⟩ FitsL.nil) (by decide) 25 rfl ?_
  unfold r_impl_Matrix_inverse at h
  show V _ _ ⟨.ag [Ti vm1.1, Ti vm1.2.1, Ti vm1.2.2.1, Ti vm1.2.2.2] :: bt 24 [], []⟩ _
  refine V_e (mb 25 6) [16, 8] (s1 := ⟨.bot :: .pt 8 0 :: .pt 16 0 :: bt 22 [], [(16, .box [Ti 0, Ti 0, Ti 0, Ti 0]), (8, .box [Ti vm1.1, Ti vm1.2.1, Ti vm1.2.2.1, Ti vm1.2.2.2])]⟩) ?_
  obtain ⟨y2, hy2, h⟩ := of_bind h
  refine V_sreg (mb 25 14) [16, 8] (s1 := ⟨.bot :: .pt 8 0 :: .pt 16 0 :: I y2 :: bt 21 [], [(16, .box [Ti 0, Ti 0, Ti 0, Ti 0]), (8, .box [Ti vm1.1, Ti vm1.2.1, Ti vm1.2.2.1, Ti vm1.2.2.2])]⟩) ?_ ?_
  ·refine XR 1 ?_
   refine XC (s_impl_Matrix_det hy2) cf_impl_Matrix_det rfl rfl rfl ?_
   exact XE
  obtain ⟨f3, hf3, h⟩ := of_sI h
  obtain ⟨f4, hf4, h⟩ := of_sI h
  obtain ⟨f5, hf5, h⟩ := of_sI h
  obtain ⟨f6, hf6, h⟩ := of_sI h
  refine V_sreg (mb 25 4) [16] (s1 := ⟨.bot :: .bot :: .pt 16 0 :: bt 22 [], [(16, .box [Ti f3, Ti f4, Ti f5, Ti f6])]⟩) ?_ ?_
  ·refine XR 18 ?_
   refine L0 rfl rfl (Y0_build (cs := [Ti (w64 (y2 * vm1.2.2.2)), Ti (w64 ((w64 (0 - y2)) * vm1.2.1)), Ti (w64 ((w64 (0 - y2)) * vm1.2.2.1)), Ti (w64 (y2 * vm1.1))]) pl31 bt31 rfl rfl (by kernel_rfl)) ?_
   refine XR 1 ?_
   refine XL_nil ?_
   subst hf3 hf4 hf5 hf6
   kernel_rfl
  refine V_ret ?_
  obtain rfl := some_inj h
  show Post _ _ _ _ _
  exact ⟨.inr rfl, rfl, rfl, rfl⟩
theorem cf_impl_descend : ∀ args w, (callFunc 69 args).run Tryz.prog w = .ok (.enter 69 args) w := run_callFunc Tryz.func69 (by kernel_rfl) (by kernel_rfl)
theorem s_impl_descend {f1 : (Int × Int × Int)} {p2 : Int} {r : (((Int × Int × Int)) × ((Int × Int × Int × Int)))} (h : r_impl_descend f1 p2 = some r) : CallS Tryz.prog 69 [.ag [Ti f1.1, Ti f1.2.1, Ti f1.2.2], I p2] (.tc (.ag [Ti r.1.1, Ti r.1.2.1, Ti r.1.2.2]) (.tc (.ag [Ti r.2.1, Ti r.2.2.1, Ti r.2.2.2.1, Ti r.2.2.2.2]) .tn)) [] := by
  refine CallS_of_text (rs := [.w 4 3, .w 5 4]) (vs := [.cell 4 25, .cell 5 31]) Tryz.func69 rfl rfl (.cons ⟨rfl, wd25⟩ (.cons ⟨rfl, wd31⟩ FitsL.nil)) (by decide) 89 rfl ?_
  unfold r_impl_descend at h
  show V _ _ ⟨.ag [Ti f1.1, Ti f1.2.1, Ti f1.2.2] :: I p2 :: bt 87 [], []⟩ _
  refine V_e (mb 89 54) [40, 32, 16] (s1 := ⟨.bot :: I p2 :: .pt 16 0 :: .bot :: .pt 32 0 :: .pt 40 0 :: bt 83 [], [(40, .box [Ti 0, Ti 0, Ti 0, Ti 0]), (32, .box [Ti 0, Ti 0, Ti 0]), (16, .box [Ti f1.1, Ti f1.2.1, Ti f1.2.2])]⟩) ?_
  obtain ⟨y3, hy3, h⟩ := of_bind h
  refine V_sreg (mb 89 242) [56, 48, 40, 32] (s1 := ⟨.bot :: I p2 :: .bot :: .bot :: .pt 32 0 :: .pt 40 0 :: .pt 48 0 :: .pt 56 0 :: bt 81 [], [(56, .box [Ti y3.2.1, Ti y3.2.2.1, Ti y3.2.2.2.1, Ti y3.2.2.2.2]), (48, .box [Ti y3.1.1, Ti y3.1.2.1, Ti y3.1.2.2]), (40, .box [Ti 0, Ti 0, Ti 0, Ti 0]), (32, .box [Ti 0, Ti 0, Ti 0])]⟩) ?_ ?_
  ·refine XR 1 ?_
   refine XC (s_impl_reduce hy3) cf_impl_reduce rfl rfl rfl ?_
   exact XE
  obtain ⟨y4, hy4, h⟩ := of_bind h
  refine V_sreg (mb 89 1010) [56, 48, 40, 32] (s1 := ⟨.bot :: I p2 :: .bot :: .bot :: .pt 32 0 :: .pt 40 0 :: .pt 48 0 :: .pt 56 0 :: I y4.1 :: I y4.2 :: bt 79 [], [(56, .box [Ti y3.2.1, Ti y3.2.2.1, Ti y3.2.2.2.1, Ti y3.2.2.2.2]), (48, .box [Ti y3.1.1, Ti y3.1.2.1, Ti y3.1.2.2]), (40, .box [Ti 0, Ti 0, Ti 0, Ti 0]), (32, .box [Ti 0, Ti 0, Ti 0])]⟩) ?_ ?_
  ·refine XR 2 ?_
   refine XC (s_impl_firstPoint hy4) cf_impl_firstPoint rfl rfl rfl ?_
   exact XE
  obtain ⟨y5, hy5, h⟩ := of_bind h
  refine V_sreg (mb 89 3250) [88, 80, 56, 40, 32] (s1 := ⟨.bot :: I p2 :: .bot :: .bot :: .pt 32 0 :: .pt 40 0 :: .bot :: .pt 56 0 :: .bot :: .bot :: .pt 80 0 :: .pt 88 0 :: bt 77 [], [(88, .box [Ti y5.2.1, Ti y5.2.2.1, Ti y5.2.2.2.1, Ti y5.2.2.2.2]), (80, .box [Ti y5.1.1, Ti y5.1.2.1, Ti y5.1.2.2]), (56, .box [Ti y3.2.1, Ti y3.2.2.1, Ti y3.2.2.2.1, Ti y3.2.2.2.2]), (40, .box [Ti 0, Ti 0, Ti 0, Ti 0]), (32, .box [Ti 0, Ti 0, Ti 0])]⟩) ?_ ?_
  ·refine XR 3 ?_
   refine XC (s_impl_Form_complete hy5) cf_impl_Form_complete rfl rfl rfl ?_
   exact XE
  obtain ⟨y6, hy6, h⟩ := of_bind h
  refine V_sdreg [0, 0, 0, 0, 15, 31] 4 (cdm 4 [168, 162, 138, 42]) (mb 89 15538) [104, 96, 88, 80, 56, 40, 32] (s1 := ⟨.bot :: I p2 :: .bot :: .bot :: .pt 32 0 :: .pt 40 0 :: .bot :: .pt 56 0 :: .bot :: .bot :: .pt 80 0 :: .pt 88 0 :: .pt 96 0 :: .pt 104 0 :: bt 75 [], [(104, .box [Ti y6.1, Ti y6.2.1, Ti y6.2.2.1, Ti y6.2.2.2]), (96, .box [Ti y5.1.1, Ti y5.1.2.1, Ti y5.1.2.2]), (88, .box [Ti y5.2.1, Ti y5.2.2.1, Ti y5.2.2.2.1, Ti y5.2.2.2.2]), (80, .box [Ti y5.1.1, Ti y5.1.2.1, Ti y5.1.2.2]), (56, .box [Ti y3.2.1, Ti y3.2.2.1, Ti y3.2.2.2.1, Ti y3.2.2.2.2]), (40, .box [Ti 0, Ti 0, Ti 0, Ti 0]), (32, .box [Ti 0, Ti 0, Ti 0])]⟩) (by kernel_rfl) (by kernel_rfl) ?_ ?_
  ·refine DR 1 ?_
   refine DC 1 (s_impl_one hy6) cf_impl_one rfl rfl rfl rfl 36 rfl ?_
   refine DA 2 ?_
   exact XE
  refine V_seq ?_
  obtain ⟨o12, hLo12, h⟩ := of_bind h
  refine V_toK (mb 89 14514) [104, 96, 88, 56, 40, 32] (s1 := ⟨.bot :: I p2 :: .bot :: .bot :: .pt 32 0 :: .pt 40 0 :: .bot :: .pt 56 0 :: bt 3 (.pt 88 0 :: .pt 96 0 :: .pt 104 0 :: bt 75 []), [(104, .box [Ti y6.1, Ti o12.1, Ti y6.2.2.1, Ti y6.2.2.2]), (96, .box [Ti o12.2.1, Ti o12.2.2.1, Ti o12.2.2.2]), (88, .box [Ti y5.2.1, Ti y5.2.2.1, Ti y5.2.2.2.1, Ti y5.2.2.2.2]), (56, .box [Ti y3.2.1, Ti y3.2.2.1, Ti y3.2.2.2.1, Ti y3.2.2.2.2]), (40, .box [Ti 0, Ti 0, Ti 0, Ti 0]), (32, .box [Ti 0, Ti 0, Ti 0])]⟩) ?_ ?_
  ·clear h
   refine V_block (V_loop (fun n s => ∃ (f7 : Int) (f8 : Int) (f9 : Int) (f10 : Int), s.keep (mb 89 15538) [104, 96, 88, 80, 56, 40, 32] = (⟨.bot :: I p2 :: .bot :: .bot :: .pt 32 0 :: .pt 40 0 :: .bot :: .pt 56 0 :: .bot :: .bot :: .pt 80 0 :: .pt 88 0 :: .pt 96 0 :: .pt 104 0 :: bt 75 [], [(104, .box [Ti y6.1, Ti f7, Ti y6.2.2.1, Ti y6.2.2.2]), (96, .box [Ti f8, Ti f9, Ti f10]), (88, .box [Ti y5.2.1, Ti y5.2.2.1, Ti y5.2.2.2.1, Ti y5.2.2.2.2]), (80, .box [Ti y5.1.1, Ti y5.1.2.1, Ti y5.1.2.2]), (56, .box [Ti y3.2.1, Ti y3.2.2.1, Ti y3.2.2.2.1, Ti y3.2.2.2.2]), (40, .box [Ti 0, Ti 0, Ti 0, Ti 0]), (32, .box [Ti 0, Ti 0, Ti 0])]⟩ : St) ∧ r_impl_descend_L11 p2 y3 y5 y6 n f7 f8 f9 f10 = some o12) FU ⟨_, _, _, _,  by rfl, hLo12⟩ ?_)
   clear hLo12
   rintro n s ⟨f7, f8, f9, f10, hs, h⟩
   refine V_keep _ _ hs ?_
   clear hs
   cases n with
   | zero => cases h
   | succ n =>
    rw [r_impl_descend_L11] at h
    refine V_seq ?_
    obtain ⟨z13, hz13, h⟩ := of_bind h
    obtain ⟨b16, hb16, h⟩ := of_bind h
    refine V_sreg (mb 89 1125899906858162) [104, 96, 88, 80, 56, 40, 32] (s1 := ⟨.bot :: I p2 :: .bot :: .bot :: .pt 32 0 :: .pt 40 0 :: .bot :: .pt 56 0 :: .bot :: .bot :: .pt 80 0 :: .pt 88 0 :: .pt 96 0 :: .pt 104 0 :: bt 36 (Bo b16 :: bt 38 []), [(104, .box [Ti y6.1, Ti f7, Ti y6.2.2.1, Ti y6.2.2.2]), (96, .box [Ti f8, Ti f9, Ti f10]), (88, .box [Ti y5.2.1, Ti y5.2.2.1, Ti y5.2.2.2.1, Ti y5.2.2.2.2]), (80, .box [Ti y5.1.1, Ti y5.1.2.1, Ti y5.1.2.2]), (56, .box [Ti y3.2.1, Ti y3.2.2.1, Ti y3.2.2.2.1, Ti y3.2.2.2.2]), (40, .box [Ti 0, Ti 0, Ti 0, Ti 0]), (32, .box [Ti 0, Ti 0, Ti 0])]⟩) ?_ ?_
    ·refine XR 3 ?_
     refine L0 rfl rfl (Y0_rem (k := .i64) (a := f9) (b := p2) rfl (by kernel_rfl) (by kernel_rfl) (nz_some hz13)) ?_
     refine XR 2 ?_
     refine XL_split (!eqI (Int.tmod f9 p2) 0) (fun hc14 => ?_) (fun hc14 => ?_)
     ·have hb16 := some_inj (of_true hb16 hc14)
      refine XL_skipF _ rfl rfl (by kernel_rfl) hc14 rfl ?_
      refine XL_skipF _ rfl rfl (by kernel_rfl) hc14 rfl ?_
      refine XL_skipF _ rfl rfl (by kernel_rfl) hc14 rfl ?_
      refine XL_skipF _ rfl rfl (by kernel_rfl) hc14 rfl ?_
      refine XL_skipF _ rfl rfl (by kernel_rfl) hc14 rfl ?_
      refine XL_skipF _ rfl rfl (by kernel_rfl) hc14 rfl ?_
      refine XL_skipF _ rfl rfl (by kernel_rfl) hc14 rfl ?_
      refine XL_cons rfl (X_of_Y0 rfl (Y0_pickTe (b := !eqI (Int.tmod f9 p2) 0) (p := true) rfl (by kernel_rfl) hc14 (by kernel_rfl) hb16)) ?_
      exact XE
     ·have hb16 := of_false hb16 hc14
      obtain ⟨z15, hz15, hb16⟩ := of_bind hb16
      have hb16 := some_inj hb16
      refine XL_takeC _ rfl rfl (by kernel_rfl) hc14 (X_of_Y0 rfl (E_field (.pt 96 2) Tryz.underlying25 rfl sz3 rfl (by kernel_rfl) (by intro hh; cases hh))) ?_
      refine XL_takeC _ rfl rfl (by kernel_rfl) hc14 (X_of_Y0 rfl (Y0_load1 (c := Ti f10) (cs := []) sc3 rfl (by kernel_rfl))) ?_
      refine XL_takeC _ rfl rfl (by kernel_rfl) hc14 (X_of_Y0 rfl (E_move (I p2) rfl (by kernel_rfl))) ?_
      refine XL_takeC _ rfl rfl (by kernel_rfl) hc14 (X_of_Y0 rfl (E_move (I p2) rfl (by kernel_rfl))) ?_
      refine XL_takeC _ rfl rfl (by kernel_rfl) hc14 (X_of_Y0 rfl (Y0_mul64 (a := p2) (b := p2) rfl (by kernel_rfl) (by kernel_rfl))) ?_
      refine XL_takeC _ rfl rfl (by kernel_rfl) hc14 (X_of_Y0 rfl (Y0_rem (k := .i64) (a := f10) (b := w64 (p2 * p2)) rfl (by kernel_rfl) (by kernel_rfl) (nz_some hz15))) ?_
      refine XL_takeC _ rfl rfl (by kernel_rfl) hc14 (X_of_Y0 rfl (Y0_new (k := .i64) (a := Int.tmod f10 (w64 (p2 * p2))) (b := 0) rfl (by kernel_rfl) (by kernel_rfl))) ?_
      refine XL_cons rfl (X_of_Y0 rfl (Y0_pickFe (b := !eqI (Int.tmod f9 p2) 0) (p := !eqI (Int.tmod f10 (w64 (p2 * p2))) 0) rfl (by kernel_rfl) hc14 (by kernel_rfl) hb16)) ?_
      exact XE
    refine V_cond rfl (fun hc17 => ?_) (fun hc17 => ?_)
    ·have h := of_true h hc17
     refine V_skip ?_
     show V _ _ _ _
     refine V_block ?_
     obtain ⟨f18, hf18, h⟩ := of_sI h
     refine V_sreg (mb 89 15538) [104, 96, 88, 80, 56, 40, 32] (s1 := ⟨.bot :: I p2 :: .bot :: .bot :: .pt 32 0 :: .pt 40 0 :: .bot :: .pt 56 0 :: .bot :: .bot :: .pt 80 0 :: .pt 88 0 :: .pt 96 0 :: .pt 104 0 :: bt 75 [], [(104, .box [Ti y6.1, Ti f18, Ti y6.2.2.1, Ti y6.2.2.2]), (96, .box [Ti f8, Ti f9, Ti f10]), (88, .box [Ti y5.2.1, Ti y5.2.2.1, Ti y5.2.2.2.1, Ti y5.2.2.2.2]), (80, .box [Ti y5.1.1, Ti y5.1.2.1, Ti y5.1.2.2]), (56, .box [Ti y3.2.1, Ti y3.2.2.1, Ti y3.2.2.2.1, Ti y3.2.2.2.2]), (40, .box [Ti 0, Ti 0, Ti 0, Ti 0]), (32, .box [Ti 0, Ti 0, Ti 0])]⟩) ?_ ?_
     ·refine XR 5 ?_
      refine XL_nil ?_
      subst hf18
      kernel_rfl
     obtain ⟨y19, hy19, h⟩ := of_bind h
     refine V_reg (mb 89 15538) [104, 96, 88, 80, 56, 40, 32] (s1 := ⟨.bot :: I p2 :: .bot :: .bot :: .pt 32 0 :: .pt 40 0 :: .bot :: .pt 56 0 :: .bot :: .bot :: .pt 80 0 :: .pt 88 0 :: .pt 96 0 :: .pt 104 0 :: bt 75 [], [(104, .box [Ti y6.1, Ti f18, Ti y6.2.2.1, Ti y6.2.2.2]), (96, .box [Ti y19.1, Ti y19.2.1, Ti y19.2.2]), (88, .box [Ti y5.2.1, Ti y5.2.2.1, Ti y5.2.2.2.1, Ti y5.2.2.2.2]), (80, .box [Ti y5.1.1, Ti y5.1.2.1, Ti y5.1.2.2]), (56, .box [Ti y3.2.1, Ti y3.2.2.1, Ti y3.2.2.2.1, Ti y3.2.2.2.2]), (40, .box [Ti 0, Ti 0, Ti 0, Ti 0]), (32, .box [Ti 0, Ti 0, Ti 0])]⟩) ?_ ?_
     ·refine XR 2 ?_
      refine XC (s_impl_Form_substitute hy19) cf_impl_Form_substitute rfl rfl rfl ?_
      exact XE
     exact ⟨n, Nat.lt_succ_self n, _, _, _, _,  by rfl, h⟩
    ·have h := of_false h hc17
     refine V_exit ?_
     obtain rfl := some_inj h
     show St.keep _ _ _ = _
     rfl
  show V _ _ _ _
  obtain ⟨z20, hz20, h⟩ := of_bind h
  obtain ⟨z21, hz21, h⟩ := of_bind h
  obtain ⟨y22, hy22, h⟩ := of_bind h
  refine V_sdreg [0, 1, 0, 4, 0, 28, 0, 64, 0, 0, 768, 1984, 4095, 8191, 16383, 32767, 32767, 0, 0, 458751, 1048575] 20 [[.z, .z, .b, .b, .b, .b, .b, .b, .b, .b, .b, .b, .z, .z, .z, .z, .z, .b, .b, .z], [.a, .z, .b, .b, .b, .b, .b, .b, .b, .b, .b, .b, .z, .z, .z, .z, .z, .b, .b, .z], [.b, .b, .z, .z, .b, .z, .b, .b, .b, .b, .b, .b, .z, .z, .z, .z, .z, .b, .b, .z], [.b, .b, .a, .z, .b, .z, .b, .b, .b, .b, .b, .b, .z, .z, .z, .z, .z, .b, .b, .z], [.b, .b, .b, .b, .z, .z, .b, .b, .b, .b, .b, .b, .z, .z, .z, .z, .z, .b, .b, .z], [.b, .b, .a, .a, .a, .z, .b, .b, .b, .b, .b, .b, .z, .z, .z, .z, .z, .b, .b, .z], [.b, .b, .b, .b, .b, .b, .z, .z, .b, .b, .b, .z, .z, .z, .z, .z, .z, .b, .b, .z], [.b, .b, .b, .b, .b, .b, .a, .z, .b, .b, .b, .z, .z, .z, .z, .z, .z, .b, .b, .z], [.b, .b, .b, .b, .b, .b, .b, .b, .z, .b, .z, .z, .z, .z, .z, .z, .z, .b, .b, .z], [.b, .b, .b, .b, .b, .b, .b, .b, .b, .z, .z, .z, .z, .z, .z, .z, .z, .b, .b, .z], [.b, .b, .b, .b, .b, .b, .b, .b, .a, .a, .z, .z, .z, .z, .z, .z, .z, .b, .b, .z], [.b, .b, .b, .b, .b, .b, .a, .a, .a, .a, .a, .z, .z, .z, .z, .z, .z, .b, .b, .z], [.a, .a, .a, .a, .a, .a, .a, .a, .a, .a, .a, .a, .z, .z, .z, .z, .z, .b, .b, .z], [.a, .a, .a, .a, .a, .a, .a, .a, .a, .a, .a, .a, .a, .z, .z, .z, .z, .b, .b, .z], [.a, .a, .a, .a, .a, .a, .a, .a, .a, .a, .a, .a, .a, .a, .z, .z, .z, .b, .b, .z], [.a, .a, .a, .a, .a, .a, .a, .a, .a, .a, .a, .a, .a, .a, .a, .z, .b, .b, .b, .z], [.a, .a, .a, .a, .a, .a, .a, .a, .a, .a, .a, .a, .a, .a, .a, .b, .z, .b, .b, .r 112], [.b, .b, .b, .b, .b, .b, .b, .b, .b, .b, .b, .b, .b, .b, .b, .b, .b, .z, .b, .z], [.b, .b, .b, .b, .b, .b, .b, .b, .b, .b, .b, .b, .b, .b, .b, .b, .b, .b, .z, .z], [.a, .a, .a, .a, .a, .a, .a, .a, .a, .a, .a, .a, .a, .a, .a, .a, .b, .a, .a, .z]] (mb 89 59570) [120, 112, 104, 88, 56, 40, 32] (s1 := ⟨.bot :: I p2 :: .bot :: .bot :: .pt 32 0 :: .pt 40 0 :: .bot :: .pt 56 0 :: bt 3 (.pt 88 0 :: .bot :: .pt 104 0 :: .pt 112 0 :: .pt 120 0 :: bt 73 []), [(120, .box [Ti y22.2.1, Ti y22.2.2.1, Ti y22.2.2.2.1, Ti y22.2.2.2.2]), (112, .box [Ti y22.1.1, Ti y22.1.2.1, Ti y22.1.2.2]), (104, .box [Ti y6.1, Ti o12.1, Ti y6.2.2.1, Ti y6.2.2.2]), (88, .box [Ti y5.2.1, Ti y5.2.2.1, Ti y5.2.2.2.1, Ti y5.2.2.2.2]), (56, .box [Ti y3.2.1, Ti y3.2.2.1, Ti y3.2.2.2.1, Ti y3.2.2.2.2]), (40, .box [Ti 0, Ti 0, Ti 0, Ti 0]), (32, .box [Ti 0, Ti 0, Ti 0])]⟩) (by kernel_rfl) (by kernel_rfl) ?_ ?_
  ·refine DR 5 ?_
   refine DE_0 5 (I (w64 (Int.tdiv o12.2.2.1 p2))) (by kernel_rfl) rfl rfl rfl (gsat_none rfl) (by kernel_rfl) (Y0_quo64 (a := o12.2.2.1) (b := p2) rfl (by kernel_rfl) (by kernel_rfl) (nz_some hz20)) 64 rfl ?_
   refine DR 5 ?_
   refine DE_0 11 (I (w64 (Int.tdiv o12.2.2.2 (w64 (p2 * p2))))) (by kernel_rfl) rfl rfl rfl (gsat_none rfl) (by kernel_rfl) (Y0_quo64 (a := o12.2.2.2) (b := w64 (p2 * p2)) rfl (by kernel_rfl) (by kernel_rfl) (nz_some hz21)) 70 rfl ?_
   refine DE_0 12 (.ag [Ti o12.2.1, Ti (w64 (Int.tdiv o12.2.2.1 p2)), Ti (w64 (Int.tdiv o12.2.2.2 (w64 (p2 * p2))))]) (by kernel_rfl) rfl rfl rfl (gsat_none rfl) (by kernel_rfl) (Y0_build (cs := [Ti o12.2.1, Ti (w64 (Int.tdiv o12.2.2.1 p2)), Ti (w64 (Int.tdiv o12.2.2.2 (w64 (p2 * p2))))]) pl25 bt25 rfl rfl (by kernel_rfl)) 71 rfl ?_
   refine DC 13 (s_impl_reduce hy22) cf_impl_reduce rfl rfl rfl rfl 72 rfl ?_
   refine DA 6 ?_
   exact XE
  obtain ⟨y23, hy23, h⟩ := of_bind h
  obtain ⟨y24, hy24, h⟩ := of_bind h
  refine V_sdreg [0, 0, 3, 0, 15, 0, 63] 6 (cdm 6 [2184, 2178, 2181, 2090, 2133, 682]) (mb 89 114738) [128, 120, 112, 40, 32] (s1 := ⟨.bot :: I p2 :: .bot :: .bot :: .pt 32 0 :: .pt 40 0 :: bt 8 (.pt 112 0 :: .pt 120 0 :: .pt 128 0 :: bt 72 []), [(128, .box [Ti y24.1, Ti y24.2.1, Ti y24.2.2.1, Ti y24.2.2.2]), (120, .box [Ti y22.2.1, Ti y22.2.2.1, Ti y22.2.2.2.1, Ti y22.2.2.2.2]), (112, .box [Ti y22.1.1, Ti y22.1.2.1, Ti y22.1.2.2]), (40, .box [Ti 0, Ti 0, Ti 0, Ti 0]), (32, .box [Ti 0, Ti 0, Ti 0])]⟩) (by kernel_rfl) (by kernel_rfl) ?_ ?_
  ·refine DR 2 ?_
   refine DC 2 (s_impl_Matrix_times hy23) cf_impl_Matrix_times rfl rfl rfl rfl 77 rfl ?_
   refine DR 1 ?_
   refine DC 4 (s_impl_Matrix_times hy24) cf_impl_Matrix_times rfl rfl rfl rfl 79 rfl ?_
   refine DA 1 ?_
   exact XE
  obtain ⟨y25, hy25, h⟩ := of_bind h
  obtain ⟨y26, hy26, h⟩ := of_bind h
  obtain ⟨y27, hy27, h⟩ := of_bind h
  obtain ⟨y28, hy28, h⟩ := of_bind h
  refine V_sdreg [0, 0, 2, 0, 8, 30, 0, 126, 254, 511, 1023] 9 (cdm 9 [174760, 8834, 8838, 8234, 8298, 8534, 2730, 5462, 21846]) (mb 89 48) [40, 32] (s1 := ⟨bt 4 (.pt 32 0 :: .pt 40 0 :: bt 83 []), [(40, .box [Ti y28.1, Ti y28.2.1, Ti y28.2.2.1, Ti y28.2.2.2]), (32, .box [Ti y22.1.1, Ti y22.1.2.1, Ti y22.1.2.2])]⟩) (by kernel_rfl) (by kernel_rfl) ?_ ?_
  ·refine DR 2 ?_
   refine DC 2 (s_impl_Matrix_inverse hy25) cf_impl_Matrix_inverse rfl rfl rfl rfl 82 rfl ?_
   refine DR 1 ?_
   refine DE_0 4 (.ag [Ti 1, Ti 0, Ti 0, Ti p2]) (by kernel_rfl) rfl rfl rfl (gsat_none rfl) (by kernel_rfl) (Y0_build (cs := [Ti 1, Ti 0, Ti 0, Ti p2]) pl31 bt31 rfl rfl (by kernel_rfl)) 84 rfl ?_
   refine DC 5 (s_impl_Matrix_times hy26) cf_impl_Matrix_times rfl rfl rfl rfl 85 rfl ?_
   refine DR 1 ?_
   refine DC 7 (s_impl_Matrix_inverse hy27) cf_impl_Matrix_inverse rfl rfl rfl rfl 87 rfl ?_
   refine DC 8 (s_impl_Matrix_times hy28) cf_impl_Matrix_times rfl rfl rfl rfl 88 rfl ?_
   refine DA 0 ?_
   exact XE
  refine V_ret ?_
  obtain rfl := some_inj h
  show Post _ _ _ _ _
  exact ⟨.inr rfl, rfl, rfl, rfl⟩
theorem cf_impl_DescendForm : ∀ args w, (callFunc 11 args).run Tryz.prog w = .ok (.enter 11 args) w := run_callFunc Tryz.func11 (by kernel_rfl) (by kernel_rfl)
theorem s_impl_DescendForm {f1 : (Int × Int × Int)} {p2 : Int} {r : (((Int × Int × Int)) × Bool)} (h : r_impl_DescendForm f1 p2 = some r) : CallS Tryz.prog 11 [.ag [Ti f1.1, Ti f1.2.1, Ti f1.2.2], I p2] (.tc (.ag [Ti r.1.1, Ti r.1.2.1, Ti r.1.2.2]) (.tc (Bo r.2) .tn)) [] := by
  refine CallS_of_text (rs := [.w 4 3, .t 5]) (vs := [.cell 4 25, .tmp 5]) Tryz.func11 rfl rfl (.cons ⟨rfl, wd25⟩ (.cons rfl FitsL.nil)) (by decide) 20 rfl ?_
  unfold r_impl_DescendForm at h
  show V _ _ ⟨.ag [Ti f1.1, Ti f1.2.1, Ti f1.2.2] :: I p2 :: bt 18 [], []⟩ _
  refine V_e (mb 20 22) [32, 16] (s1 := ⟨.bot :: I p2 :: .pt 16 0 :: .bot :: .pt 32 0 :: bt 15 [], [(32, .box [Ti 0, Ti 0, Ti 0]), (16, .box [Ti f1.1, Ti f1.2.1, Ti f1.2.2])]⟩) ?_
  refine V_seq ?_
  obtain ⟨y3, hy3, h⟩ := of_bind h
  refine V_sreg (mb 20 2070) [32, 16] (s1 := ⟨.bot :: I p2 :: .pt 16 0 :: .bot :: .pt 32 0 :: bt 6 (Bo (!y3) :: bt 8 []), [(32, .box [Ti 0, Ti 0, Ti 0]), (16, .box [Ti f1.1, Ti f1.2.1, Ti f1.2.2])]⟩) ?_ ?_
  ·refine XR 2 ?_
   refine XC (s_impl_canDescend hy3) cf_impl_canDescend rfl rfl rfl ?_
   exact XE
  refine V_cond rfl (fun hc4 => ?_) (fun hc4 => ?_)
  ·have h := of_true h hc4
   refine V_sreg (mb 20 48) [32] (s1 := ⟨bt 4 (.pt 32 0 :: Bo false :: bt 14 []), [(32, .box [Ti 0, Ti 0, Ti 0])]⟩) ?_ ?_
   ·refine L0 rfl rfl (Y0_build (cs := [Ti 0, Ti 0, Ti 0]) pl25 bt25 rfl rfl (by kernel_rfl)) ?_
    exact XE
   refine V_ret ?_
   obtain rfl := some_inj h
   show Post _ _ _ _ _
   exact ⟨.inr rfl, rfl, rfl, rfl⟩
  ·have h := of_false h hc4
   refine V_skip ?_
   show V _ _ _ _
   obtain ⟨y5, hy5, h⟩ := of_bind h
   refine V_sreg (mb 20 80) [48, 32] (s1 := ⟨bt 4 (.pt 32 0 :: .bot :: .pt 48 0 :: bt 13 []), [(48, .box [Ti y5.1.1, Ti y5.1.2.1, Ti y5.1.2.2]), (32, .box [Ti 0, Ti 0, Ti 0])]⟩) ?_ ?_
   ·refine XR 2 ?_
    refine XC (s_impl_descend hy5) cf_impl_descend rfl rfl rfl ?_
    exact XE
   refine V_e (mb 20 48) [32] (s1 := ⟨bt 4 (.pt 32 0 :: Bo true :: bt 14 []), [(32, .box [Ti y5.1.1, Ti y5.1.2.1, Ti y5.1.2.2])]⟩) ?_
   refine V_ret ?_
   obtain rfl := some_inj h
   show Post _ _ _ _ _
   exact ⟨.inr rfl, rfl, rfl, rfl⟩
theorem cf_spec_odPrime : ∀ args w, (callFunc 159 args).run Tryz.prog w = .ok (.enter 159 args) w := run_callFunc Tryz.func159 (by kernel_rfl) (by kernel_rfl)
theorem s_spec_odPrime {p1 : Int} {r : Bool} (h : r_spec_odPrime p1 = some r) : CallS Tryz.prog 159 [I p1] (Bo r) [] := by
  refine CallS_of_text (rs := [.t 2]) (vs := [.tmp 2]) Tryz.func159 rfl rfl (.cons rfl FitsL.nil) (by decide) 9 rfl ?_
  unfold r_spec_odPrime at h
  show V _ _ ⟨I p1 :: bt 8 [], []⟩ _
  refine V_e (mb 9 1) [] (s1 := ⟨I p1 :: bt 8 [], []⟩) ?_
  obtain ⟨y2, hy2, h⟩ := of_bind h
  obtain ⟨b5, hb5, h⟩ := of_bind h
  refine V_sreg (mb 9 4) [] (s1 := ⟨.bot :: .bot :: Bo b5 :: bt 6 [], []⟩) ?_ ?_
  ·refine XR 1 ?_
   refine XC (s_spec_l1In hy2) cf_spec_l1In rfl rfl rfl ?_
   refine XR 1 ?_
   refine XL_split y2 (fun hc3 => ?_) (fun hc3 => ?_)
   ·have hb5 := of_true hb5 hc3
    obtain ⟨y4, hy4, hb5⟩ := of_bind hb5
    have hb5 := some_inj hb5
    refine XL_takeC _ rfl rfl (by kernel_rfl) hc3 (X_of_Y0 rfl (E_move (I p1) rfl (by kernel_rfl))) ?_
    refine XL_takeC _ rfl rfl (by kernel_rfl) hc3 (X_of_Y1 rfl (Y1_call (s_spec_nuPrime hy4) cf_spec_nuPrime rfl (by kernel_rfl))) ?_
    refine XL_cons rfl (X_of_Y0 rfl (Y0_pickTe (b := y2) (p := y4) rfl (by kernel_rfl) hc3 (by kernel_rfl) hb5)) ?_
    exact XE
   ·have hb5 := some_inj (of_false hb5 hc3)
    refine XL_skipT _ rfl rfl (by kernel_rfl) hc3 rfl ?_
    refine XL_skipT _ rfl rfl (by kernel_rfl) hc3 rfl ?_
    refine XL_cons rfl (X_of_Y0 rfl (Y0_pickFe (b := y2) (p := false) rfl (by kernel_rfl) hc3 (by kernel_rfl) hb5)) ?_
    exact XE
  refine V_ret ?_
  obtain rfl := some_inj h
  show Post _ _ _ _ _
  exact ⟨.inr rfl, rfl, rfl, rfl⟩
theorem cf_spec_odDown : ∀ args w, (callFunc 70 args).run Tryz.prog w = .ok (.enter 70 args) w := run_callFunc Tryz.func70 (by kernel_rfl) (by kernel_rfl)
theorem s_spec_odDown {f1 : (Int × Int × Int)} {p2 : Int} {r : Bool} (h : r_spec_odDown f1 p2 = some r) : CallS Tryz.prog 70 [.ag [Ti f1.1, Ti f1.2.1, Ti f1.2.2], I p2] (Bo r) [] := by
  refine CallS_of_text (rs := [.t 4]) (vs := [.tmp 4]) Tryz.func70 rfl rfl (.cons rfl FitsL.nil) (by decide) 29 rfl ?_
  unfold r_spec_odDown at h
  show V _ _ ⟨.ag [Ti f1.1, Ti f1.2.1, Ti f1.2.2] :: I p2 :: bt 27 [], []⟩ _
  refine V_e (mb 29 6) [16] (s1 := ⟨.bot :: I p2 :: .pt 16 0 :: bt 26 [], [(16, .box [Ti f1.1, Ti f1.2.1, Ti f1.2.2])]⟩) ?_
  obtain ⟨y3, hy3, h⟩ := of_bind h
  obtain ⟨b6, hb6, h⟩ := of_bind h
  obtain ⟨b10, hb10, h⟩ := of_bind h
  obtain ⟨b15, hb15, h⟩ := of_bind h
  refine V_sreg (mb 29 16) [] (s1 := ⟨bt 4 (Bo b15 :: bt 24 []), []⟩) ?_ ?_
  ·refine XR 1 ?_
   refine XC (s_spec_coGood hy3) cf_spec_coGood rfl rfl rfl ?_
   refine XR 1 ?_
   refine XL_split y3 (fun hc4 => ?_) (fun hc4 => ?_)
   ·have hb6 := of_true hb6 hc4
    obtain ⟨y5, hy5, hb6⟩ := of_bind hb6
    have hb6 := some_inj hb6
    refine XL_takeC _ rfl rfl (by kernel_rfl) hc4 (X_of_Y0 rfl (E_move (I p2) rfl (by kernel_rfl))) ?_
    refine XL_takeC _ rfl rfl (by kernel_rfl) hc4 (X_of_Y1 rfl (Y1_call (s_spec_odPrime hy5) cf_spec_odPrime rfl (by kernel_rfl))) ?_
    refine XL_cons rfl (X_of_Y0 rfl (Y0_pickTe (b := y3) (p := y5) rfl (by kernel_rfl) hc4 (by kernel_rfl) hb6)) ?_
    refine XR 1 ?_
    refine XL_split b6 (fun hc7 => ?_) (fun hc7 => ?_)
    ·have hb10 := of_true hb10 hc7
     obtain ⟨y8, hy8, hb10⟩ := of_bind hb10
     obtain ⟨z9, hz9, hb10⟩ := of_bind hb10
     have hb10 := some_inj hb10
     refine XL_takeC _ rfl rfl (by kernel_rfl) hc7 (X_of_Y0 rfl (E_loadn (cs := [Ti f1.1, Ti f1.2.1, Ti f1.2.2]) [Ti f1.1, Ti f1.2.1, Ti f1.2.2] wd25 rfl (by kernel_rfl) (Nat.le_of_ble_eq_true rfl) (by kernel_rfl))) ?_
     refine XL_takeC _ rfl rfl (by kernel_rfl) hc7 (X_of_Y1 rfl (Y1_call (s_spec_foDisc hy8) cf_spec_foDisc rfl (by kernel_rfl))) ?_
     refine XL_takeC _ rfl rfl (by kernel_rfl) hc7 (X_of_Y0 rfl (E_move (I p2) rfl (by kernel_rfl))) ?_
     refine XL_takeC _ rfl rfl (by kernel_rfl) hc7 (X_of_Y0 rfl (E_move (I p2) rfl (by kernel_rfl))) ?_
     refine XL_takeC _ rfl rfl (by kernel_rfl) hc7 (X_of_Y0 rfl (Y0_mul64 (a := p2) (b := p2) rfl (by kernel_rfl) (by kernel_rfl))) ?_
     refine XL_takeC _ rfl rfl (by kernel_rfl) hc7 (X_of_Y0 rfl (Y0_rem (k := .i64) (a := y8) (b := w64 (p2 * p2)) rfl (by kernel_rfl) (by kernel_rfl) (nz_some hz9))) ?_
     refine XL_takeC _ rfl rfl (by kernel_rfl) hc7 (X_of_Y0 rfl (Y0_eqw (k := .i64) (a := Int.tmod y8 (w64 (p2 * p2))) (b := 0) rfl (by kernel_rfl) (by kernel_rfl))) ?_
     refine XL_cons rfl (X_of_Y0 rfl (Y0_pickTe (b := b6) (p := eqI (Int.tmod y8 (w64 (p2 * p2))) 0) rfl (by kernel_rfl) hc7 (by kernel_rfl) hb10)) ?_
     refine XR 1 ?_
     refine XL_split b10 (fun hc11 => ?_) (fun hc11 => ?_)
     ·have hb15 := of_true hb15 hc11
      obtain ⟨y12, hy12, hb15⟩ := of_bind hb15
      obtain ⟨z13, hz13, hb15⟩ := of_bind hb15
      obtain ⟨y14, hy14, hb15⟩ := of_bind hb15
      have hb15 := some_inj hb15
      refine XL_takeC _ rfl rfl (by kernel_rfl) hc11 (X_of_Y0 rfl (E_loadn (cs := [Ti f1.1, Ti f1.2.1, Ti f1.2.2]) [Ti f1.1, Ti f1.2.1, Ti f1.2.2] wd25 rfl (by kernel_rfl) (Nat.le_of_ble_eq_true rfl) (by kernel_rfl))) ?_
      refine XL_takeC _ rfl rfl (by kernel_rfl) hc11 (X_of_Y1 rfl (Y1_call (s_spec_foDisc hy12) cf_spec_foDisc rfl (by kernel_rfl))) ?_
      refine XL_takeC _ rfl rfl (by kernel_rfl) hc11 (X_of_Y0 rfl (E_move (I p2) rfl (by kernel_rfl))) ?_
      refine XL_takeC _ rfl rfl (by kernel_rfl) hc11 (X_of_Y0 rfl (E_move (I p2) rfl (by kernel_rfl))) ?_
      refine XL_takeC _ rfl rfl (by kernel_rfl) hc11 (X_of_Y0 rfl (Y0_mul64 (a := p2) (b := p2) rfl (by kernel_rfl) (by kernel_rfl))) ?_
      refine XL_takeC _ rfl rfl (by kernel_rfl) hc11 (X_of_Y0 rfl (Y0_quo64 (a := y12) (b := w64 (p2 * p2)) rfl (by kernel_rfl) (by kernel_rfl) (nz_some hz13))) ?_
      refine XL_takeC _ rfl rfl (by kernel_rfl) hc11 (X_of_Y1 rfl (Y1_call (s_spec_reDisc hy14) cf_spec_reDisc rfl (by kernel_rfl))) ?_
      refine XL_cons rfl (X_of_Y0 rfl (Y0_pickTe (b := b10) (p := y14) rfl (by kernel_rfl) hc11 (by kernel_rfl) hb15)) ?_
      exact XE
     ·have hb15 := some_inj (of_false hb15 hc11)
      refine XL_skipT _ rfl rfl (by kernel_rfl) hc11 rfl ?_
      refine XL_skipT _ rfl rfl (by kernel_rfl) hc11 rfl ?_
      refine XL_skipT _ rfl rfl (by kernel_rfl) hc11 rfl ?_
      refine XL_skipT _ rfl rfl (by kernel_rfl) hc11 rfl ?_
      refine XL_skipT _ rfl rfl (by kernel_rfl) hc11 rfl ?_
      refine XL_skipT _ rfl rfl (by kernel_rfl) hc11 rfl ?_
      refine XL_skipT _ rfl rfl (by kernel_rfl) hc11 rfl ?_
      refine XL_cons rfl (X_of_Y0 rfl (Y0_pickFe (b := b10) (p := false) rfl (by kernel_rfl) hc11 (by kernel_rfl) hb15)) ?_
      exact XE
    ·have hb10 := some_inj (of_false hb10 hc7)
     refine XL_skipT _ rfl rfl (by kernel_rfl) hc7 rfl ?_
     refine XL_skipT _ rfl rfl (by kernel_rfl) hc7 rfl ?_
     refine XL_skipT _ rfl rfl (by kernel_rfl) hc7 rfl ?_
     refine XL_skipT _ rfl rfl (by kernel_rfl) hc7 rfl ?_
     refine XL_skipT _ rfl rfl (by kernel_rfl) hc7 rfl ?_
     refine XL_skipT _ rfl rfl (by kernel_rfl) hc7 rfl ?_
     refine XL_skipT _ rfl rfl (by kernel_rfl) hc7 rfl ?_
     refine XL_cons rfl (X_of_Y0 rfl (Y0_pickFe (b := b6) (p := false) rfl (by kernel_rfl) hc7 (by kernel_rfl) hb10)) ?_
     refine XR 1 ?_
     refine XL_split b10 (fun hc11 => ?_) (fun hc11 => ?_)
     ·have hb15 := of_true hb15 hc11
      obtain ⟨y12, hy12, hb15⟩ := of_bind hb15
      obtain ⟨z13, hz13, hb15⟩ := of_bind hb15
      obtain ⟨y14, hy14, hb15⟩ := of_bind hb15
      have hb15 := some_inj hb15
      refine XL_takeC _ rfl rfl (by kernel_rfl) hc11 (X_of_Y0 rfl (E_loadn (cs := [Ti f1.1, Ti f1.2.1, Ti f1.2.2]) [Ti f1.1, Ti f1.2.1, Ti f1.2.2] wd25 rfl (by kernel_rfl) (Nat.le_of_ble_eq_true rfl) (by kernel_rfl))) ?_
      refine XL_takeC _ rfl rfl (by kernel_rfl) hc11 (X_of_Y1 rfl (Y1_call (s_spec_foDisc hy12) cf_spec_foDisc rfl (by kernel_rfl))) ?_
      refine XL_takeC _ rfl rfl (by kernel_rfl) hc11 (X_of_Y0 rfl (E_move (I p2) rfl (by kernel_rfl))) ?_
      refine XL_takeC _ rfl rfl (by kernel_rfl) hc11 (X_of_Y0 rfl (E_move (I p2) rfl (by kernel_rfl))) ?_
      refine XL_takeC _ rfl rfl (by kernel_rfl) hc11 (X_of_Y0 rfl (Y0_mul64 (a := p2) (b := p2) rfl (by kernel_rfl) (by kernel_rfl))) ?_
      refine XL_takeC _ rfl rfl (by kernel_rfl) hc11 (X_of_Y0 rfl (Y0_quo64 (a := y12) (b := w64 (p2 * p2)) rfl (by kernel_rfl) (by kernel_rfl) (nz_some hz13))) ?_
      refine XL_takeC _ rfl rfl (by kernel_rfl) hc11 (X_of_Y1 rfl (Y1_call (s_spec_reDisc hy14) cf_spec_reDisc rfl (by kernel_rfl))) ?_
      refine XL_cons rfl (X_of_Y0 rfl (Y0_pickTe (b := b10) (p := y14) rfl (by kernel_rfl) hc11 (by kernel_rfl) hb15)) ?_
      exact XE
     ·have hb15 := some_inj (of_false hb15 hc11)
      refine XL_skipT _ rfl rfl (by kernel_rfl) hc11 rfl ?_
      refine XL_skipT _ rfl rfl (by kernel_rfl) hc11 rfl ?_
      refine XL_skipT _ rfl rfl (by kernel_rfl) hc11 rfl ?_
      refine XL_skipT _ rfl rfl (by kernel_rfl) hc11 rfl ?_
      refine XL_skipT _ rfl rfl (by kernel_rfl) hc11 rfl ?_
      refine XL_skipT _ rfl rfl (by kernel_rfl) hc11 rfl ?_
      refine XL_skipT _ rfl rfl (by kernel_rfl) hc11 rfl ?_
      refine XL_cons rfl (X_of_Y0 rfl (Y0_pickFe (b := b10) (p := false) rfl (by kernel_rfl) hc11 (by kernel_rfl) hb15)) ?_
      exact XE
   ·have hb6 := some_inj (of_false hb6 hc4)
    refine XL_skipT _ rfl rfl (by kernel_rfl) hc4 rfl ?_
    refine XL_skipT _ rfl rfl (by kernel_rfl) hc4 rfl ?_
    refine XL_cons rfl (X_of_Y0 rfl (Y0_pickFe (b := y3) (p := false) rfl (by kernel_rfl) hc4 (by kernel_rfl) hb6)) ?_
    refine XR 1 ?_
    refine XL_split b6 (fun hc7 => ?_) (fun hc7 => ?_)
    ·have hb10 := of_true hb10 hc7
     obtain ⟨y8, hy8, hb10⟩ := of_bind hb10
     obtain ⟨z9, hz9, hb10⟩ := of_bind hb10
     have hb10 := some_inj hb10
     refine XL_takeC _ rfl rfl (by kernel_rfl) hc7 (X_of_Y0 rfl (E_loadn (cs := [Ti f1.1, Ti f1.2.1, Ti f1.2.2]) [Ti f1.1, Ti f1.2.1, Ti f1.2.2] wd25 rfl (by kernel_rfl) (Nat.le_of_ble_eq_true rfl) (by kernel_rfl))) ?_
     refine XL_takeC _ rfl rfl (by kernel_rfl) hc7 (X_of_Y1 rfl (Y1_call (s_spec_foDisc hy8) cf_spec_foDisc rfl (by kernel_rfl))) ?_
     refine XL_takeC _ rfl rfl (by kernel_rfl) hc7 (X_of_Y0 rfl (E_move (I p2) rfl (by kernel_rfl))) ?_
     refine XL_takeC _ rfl rfl (by kernel_rfl) hc7 (X_of_Y0 rfl (E_move (I p2) rfl (by kernel_rfl))) ?_
     refine XL_takeC _ rfl rfl (by kernel_rfl) hc7 (X_of_Y0 rfl (Y0_mul64 (a := p2) (b := p2) rfl (by kernel_rfl) (by kernel_rfl))) ?_
     refine XL_takeC _ rfl rfl (by kernel_rfl) hc7 (X_of_Y0 rfl (Y0_rem (k := .i64) (a := y8) (b := w64 (p2 * p2)) rfl (by kernel_rfl) (by kernel_rfl) (nz_some hz9))) ?_
     refine XL_takeC _ rfl rfl (by kernel_rfl) hc7 (X_of_Y0 rfl (Y0_eqw (k := .i64) (a := Int.tmod y8 (w64 (p2 * p2))) (b := 0) rfl (by kernel_rfl) (by kernel_rfl))) ?_
     refine XL_cons rfl (X_of_Y0 rfl (Y0_pickTe (b := b6) (p := eqI (Int.tmod y8 (w64 (p2 * p2))) 0) rfl (by kernel_rfl) hc7 (by kernel_rfl) hb10)) ?_
     refine XR 1 ?_
     refine XL_split b10 (fun hc11 => ?_) (fun hc11 => ?_)
     ·have hb15 := of_true hb15 hc11
      obtain ⟨y12, hy12, hb15⟩ := of_bind hb15
      obtain ⟨z13, hz13, hb15⟩ := of_bind hb15
      obtain ⟨y14, hy14, hb15⟩ := of_bind hb15
      have hb15 := some_inj hb15
      refine XL_takeC _ rfl rfl (by kernel_rfl) hc11 (X_of_Y0 rfl (E_loadn (cs := [Ti f1.1, Ti f1.2.1, Ti f1.2.2]) [Ti f1.1, Ti f1.2.1, Ti f1.2.2] wd25 rfl (by kernel_rfl) (Nat.le_of_ble_eq_true rfl) (by kernel_rfl))) ?_
      refine XL_takeC _ rfl rfl (by kernel_rfl) hc11 (X_of_Y1 rfl (Y1_call (s_spec_foDisc hy12) cf_spec_foDisc rfl (by kernel_rfl))) ?_
      refine XL_takeC _ rfl rfl (by kernel_rfl) hc11 (X_of_Y0 rfl (E_move (I p2) rfl (by kernel_rfl))) ?_
      refine XL_takeC _ rfl rfl (by kernel_rfl) hc11 (X_of_Y0 rfl (E_move (I p2) rfl (by kernel_rfl))) ?_
      refine XL_takeC _ rfl rfl (by kernel_rfl) hc11 (X_of_Y0 rfl (Y0_mul64 (a := p2) (b := p2) rfl (by kernel_rfl) (by kernel_rfl))) ?_
      refine XL_takeC _ rfl rfl (by kernel_rfl) hc11 (X_of_Y0 rfl (Y0_quo64 (a := y12) (b := w64 (p2 * p2)) rfl (by kernel_rfl) (by kernel_rfl) (nz_some hz13))) ?_
      refine XL_takeC _ rfl rfl (by kernel_rfl) hc11 (X_of_Y1 rfl (Y1_call (s_spec_reDisc hy14) cf_spec_reDisc rfl (by kernel_rfl))) ?_
      refine XL_cons rfl (X_of_Y0 rfl (Y0_pickTe (b := b10) (p := y14) rfl (by kernel_rfl) hc11 (by kernel_rfl) hb15)) ?_
      exact XE
     ·have hb15 := some_inj (of_false hb15 hc11)
      refine XL_skipT _ rfl rfl (by kernel_rfl) hc11 rfl ?_
      refine XL_skipT _ rfl rfl (by kernel_rfl) hc11 rfl ?_
      refine XL_skipT _ rfl rfl (by kernel_rfl) hc11 rfl ?_
      refine XL_skipT _ rfl rfl (by kernel_rfl) hc11 rfl ?_
      refine XL_skipT _ rfl rfl (by kernel_rfl) hc11 rfl ?_
      refine XL_skipT _ rfl rfl (by kernel_rfl) hc11 rfl ?_
      refine XL_skipT _ rfl rfl (by kernel_rfl) hc11 rfl ?_
      refine XL_cons rfl (X_of_Y0 rfl (Y0_pickFe (b := b10) (p := false) rfl (by kernel_rfl) hc11 (by kernel_rfl) hb15)) ?_
      exact XE
    ·have hb10 := some_inj (of_false hb10 hc7)
     refine XL_skipT _ rfl rfl (by kernel_rfl) hc7 rfl ?_
     refine XL_skipT _ rfl rfl (by kernel_rfl) hc7 rfl ?_
     refine XL_skipT _ rfl rfl (by kernel_rfl) hc7 rfl ?_
     refine XL_skipT _ rfl rfl (by kernel_rfl) hc7 rfl ?_
     refine XL_skipT _ rfl rfl (by kernel_rfl) hc7 rfl ?_
     refine XL_skipT _ rfl rfl (by kernel_rfl) hc7 rfl ?_
     refine XL_skipT _ rfl rfl (by kernel_rfl) hc7 rfl ?_
     refine XL_cons rfl (X_of_Y0 rfl (Y0_pickFe (b := b6) (p := false) rfl (by kernel_rfl) hc7 (by kernel_rfl) hb10)) ?_
     refine XR 1 ?_
     refine XL_split b10 (fun hc11 => ?_) (fun hc11 => ?_)
     ·have hb15 := of_true hb15 hc11
      obtain ⟨y12, hy12, hb15⟩ := of_bind hb15
      obtain ⟨z13, hz13, hb15⟩ := of_bind hb15
      obtain ⟨y14, hy14, hb15⟩ := of_bind hb15
      have hb15 := some_inj hb15
      refine XL_takeC _ rfl rfl (by kernel_rfl) hc11 (X_of_Y0 rfl (E_loadn (cs := [Ti f1.1, Ti f1.2.1, Ti f1.2.2]) [Ti f1.1, Ti f1.2.1, Ti f1.2.2] wd25 rfl (by kernel_rfl) (Nat.le_of_ble_eq_true rfl) (by kernel_rfl))) ?_
      refine XL_takeC _ rfl rfl (by kernel_rfl) hc11 (X_of_Y1 rfl (Y1_call (s_spec_foDisc hy12) cf_spec_foDisc rfl (by kernel_rfl))) ?_
      refine XL_takeC _ rfl rfl (by kernel_rfl) hc11 (X_of_Y0 rfl (E_move (I p2) rfl (by kernel_rfl))) ?_
      refine XL_takeC _ rfl rfl (by kernel_rfl) hc11 (X_of_Y0 rfl (E_move (I p2) rfl (by kernel_rfl))) ?_
      refine XL_takeC _ rfl rfl (by kernel_rfl) hc11 (X_of_Y0 rfl (Y0_mul64 (a := p2) (b := p2) rfl (by kernel_rfl) (by kernel_rfl))) ?_
      refine XL_takeC _ rfl rfl (by kernel_rfl) hc11 (X_of_Y0 rfl (Y0_quo64 (a := y12) (b := w64 (p2 * p2)) rfl (by kernel_rfl) (by kernel_rfl) (nz_some hz13))) ?_
      refine XL_takeC _ rfl rfl (by kernel_rfl) hc11 (X_of_Y1 rfl (Y1_call (s_spec_reDisc hy14) cf_spec_reDisc rfl (by kernel_rfl))) ?_
      refine XL_cons rfl (X_of_Y0 rfl (Y0_pickTe (b := b10) (p := y14) rfl (by kernel_rfl) hc11 (by kernel_rfl) hb15)) ?_
      exact XE
     ·have hb15 := some_inj (of_false hb15 hc11)
      refine XL_skipT _ rfl rfl (by kernel_rfl) hc11 rfl ?_
      refine XL_skipT _ rfl rfl (by kernel_rfl) hc11 rfl ?_
      refine XL_skipT _ rfl rfl (by kernel_rfl) hc11 rfl ?_
      refine XL_skipT _ rfl rfl (by kernel_rfl) hc11 rfl ?_
      refine XL_skipT _ rfl rfl (by kernel_rfl) hc11 rfl ?_
      refine XL_skipT _ rfl rfl (by kernel_rfl) hc11 rfl ?_
      refine XL_skipT _ rfl rfl (by kernel_rfl) hc11 rfl ?_
      refine XL_cons rfl (X_of_Y0 rfl (Y0_pickFe (b := b10) (p := false) rfl (by kernel_rfl) hc11 (by kernel_rfl) hb15)) ?_
      exact XE
  refine V_ret ?_
  obtain rfl := some_inj h
  show Post _ _ _ _ _
  exact ⟨.inr rfl, rfl, rfl, rfl⟩
theorem cf_spec_coPoint : ∀ args w, (callFunc 161 args).run Tryz.prog w = .ok (.enter 161 args) w := run_callFunc Tryz.func161 (by kernel_rfl) (by kernel_rfl)
theorem s_spec_coPoint {g1 : (Int × Int × Int)} {a2 : Int} {r : (Int × Int)} (h : r_spec_coPoint g1 a2 = some r) : CallS Tryz.prog 161 [.ag [Ti g1.1, Ti g1.2.1, Ti g1.2.2], I a2] (.tc (I r.1) (.tc (I r.2) .tn)) [] := by
  refine CallS_of_text (rs := [.t 4, .t 5]) (vs := [.tmp 4, .tmp 5]) Tryz.func161 rfl rfl (.cons rfl (.cons rfl FitsL.nil)) (by decide) 45 rfl ?_
  unfold r_spec_coPoint at h
  show V _ _ ⟨.ag [Ti g1.1, Ti g1.2.1, Ti g1.2.2] :: I a2 :: bt 43 [], []⟩ _
  refine V_e (mb 45 6) [16] (s1 := ⟨.bot :: I a2 :: .pt 16 0 :: bt 42 [], [(16, .box [Ti g1.1, Ti g1.2.1, Ti g1.2.2])]⟩) ?_
  refine V_seq ?_
  refine V_e (mb 45 70) [16] (s1 := ⟨.bot :: I a2 :: .pt 16 0 :: bt 3 (I 1 :: bt 38 []), [(16, .box [Ti g1.1, Ti g1.2.1, Ti g1.2.2])]⟩) ?_
  obtain ⟨qo5, hLo5, hko5⟩ := of_bind h
  refine V_toS (q := qo5) (S := fun o5 => ⟨bt 45 [], []⟩) (mb 45 0) [] ?_ ?_
  ·refine V_block (V_loop (fun n s => ∃ (k3 : Int), s.keep (mb 45 70) [16] = (⟨.bot :: I a2 :: .pt 16 0 :: bt 3 (I k3 :: bt 38 []), [(16, .box [Ti g1.1, Ti g1.2.1, Ti g1.2.2])]⟩ : St) ∧ r_spec_coPoint_L4 a2 g1 n k3 = some qo5) FU ⟨_,  by rfl, hLo5⟩ ?_)
   clear hLo5
   rintro n s ⟨k3, hs, h⟩
   refine V_keep _ _ hs ?_
   clear hs
   cases n with
   | zero => cases h
   | succ n =>
    rw [r_spec_coPoint_L4] at h
    refine V_seq ?_
    refine V_e (mb 45 1094) [16] (s1 := ⟨.bot :: I a2 :: .pt 16 0 :: bt 3 (I k3 :: bt 3 (Bo (leI k3 100) :: bt 34 [])), [(16, .box [Ti g1.1, Ti g1.2.1, Ti g1.2.2])]⟩) ?_
    refine V_cond rfl (fun hc6 => ?_) (fun hc6 => ?_)
    ·have h := of_true h hc6
     refine V_skip ?_
     show V _ _ _ _
     refine V_seq ?_
     refine V_block ?_
     refine V_e (mb 45 198) [16] (s1 := ⟨.bot :: I a2 :: .pt 16 0 :: bt 3 (I k3 :: I 0 :: bt 37 []), [(16, .box [Ti g1.1, Ti g1.2.1, Ti g1.2.2])]⟩) ?_
     obtain ⟨qo9, hLo9, hko9⟩ := of_bind h
     refine V_toS (q := qo9) (S := fun o9 => ⟨.bot :: I a2 :: .pt 16 0 :: bt 3 (I k3 :: bt 38 []), [(16, .box [Ti g1.1, Ti g1.2.1, Ti g1.2.2])]⟩) (mb 45 70) [16] ?_ ?_
     ·refine V_block (V_loop (fun n s => ∃ (x7 : Int), s.keep (mb 45 198) [16] = (⟨.bot :: I a2 :: .pt 16 0 :: bt 3 (I k3 :: I x7 :: bt 37 []), [(16, .box [Ti g1.1, Ti g1.2.1, Ti g1.2.2])]⟩ : St) ∧ r_spec_coPoint_L8 a2 g1 k3 n x7 = some qo9) FU ⟨_,  by rfl, hLo9⟩ ?_)
      clear hLo9
      rintro n s ⟨x7, hs, h⟩
      refine V_keep _ _ hs ?_
      clear hs
      cases n with
      | zero => cases h
      | succ n =>
       rw [r_spec_coPoint_L8] at h
       refine V_seq ?_
       refine V_e (mb 45 32966) [16] (s1 := ⟨.bot :: I a2 :: .pt 16 0 :: bt 3 (I k3 :: I x7 :: bt 7 (Bo (leI x7 k3) :: bt 29 [])), [(16, .box [Ti g1.1, Ti g1.2.1, Ti g1.2.2])]⟩) ?_
       refine V_cond rfl (fun hc10 => ?_) (fun hc10 => ?_)
       ·have h := of_true h hc10
        refine V_skip ?_
        show V _ _ _ _
        refine V_seq ?_
        refine V_block ?_
        refine V_e (mb 45 454) [16] (s1 := ⟨.bot :: I a2 :: .pt 16 0 :: bt 3 (I k3 :: I x7 :: I 0 :: bt 36 []), [(16, .box [Ti g1.1, Ti g1.2.1, Ti g1.2.2])]⟩) ?_
        obtain ⟨qo13, hLo13, hko13⟩ := of_bind h
        refine V_toS (q := qo13) (S := fun o13 => ⟨.bot :: I a2 :: .pt 16 0 :: bt 3 (I k3 :: I x7 :: bt 37 []), [(16, .box [Ti g1.1, Ti g1.2.1, Ti g1.2.2])]⟩) (mb 45 198) [16] ?_ ?_
        ·refine V_block (V_loop (fun n s => ∃ (y11 : Int), s.keep (mb 45 454) [16] = (⟨.bot :: I a2 :: .pt 16 0 :: bt 3 (I k3 :: I x7 :: I y11 :: bt 36 []), [(16, .box [Ti g1.1, Ti g1.2.1, Ti g1.2.2])]⟩ : St) ∧ r_spec_coPoint_L12 a2 g1 k3 x7 n y11 = some qo13) FU ⟨_,  by rfl, hLo13⟩ ?_)
         clear hLo13
         rintro n s ⟨y11, hs, h⟩
         refine V_keep _ _ hs ?_
         clear hs
         cases n with
         | zero => cases h
         | succ n =>
          rw [r_spec_coPoint_L12] at h
          refine V_seq ?_
          refine V_e (mb 45 1049030) [16] (s1 := ⟨.bot :: I a2 :: .pt 16 0 :: bt 3 (I k3 :: I x7 :: I y11 :: bt 11 (Bo (leI y11 k3) :: bt 24 [])), [(16, .box [Ti g1.1, Ti g1.2.1, Ti g1.2.2])]⟩) ?_
          refine V_cond rfl (fun hc14 => ?_) (fun hc14 => ?_)
          ·have h := of_true h hc14
           refine V_skip ?_
           show V _ _ _ _
           refine V_seq ?_
           refine V_block ?_
           obtain ⟨y15, hy15, h⟩ := of_bind h
           obtain ⟨b18, hb18, h⟩ := of_bind h
           obtain ⟨b22, hb22, h⟩ := of_bind h
           refine V_sreg (mb 45 4398046511558) [16] (s1 := ⟨.bot :: I a2 :: .pt 16 0 :: bt 3 (I k3 :: I x7 :: I y11 :: bt 33 (Bo b22 :: .bot :: .bot :: [])), [(16, .box [Ti g1.1, Ti g1.2.1, Ti g1.2.2])]⟩) ?_ ?_
           ·refine XR 2 ?_
            refine XC (s_spec_l1Most hy15) cf_spec_l1Most rfl rfl rfl ?_
            refine XR 3 ?_
            refine XL_split (eqI y15 k3) (fun hc16 => ?_) (fun hc16 => ?_)
            ·have hb18 := of_true hb18 hc16
             obtain ⟨y17, hy17, hb18⟩ := of_bind hb18
             have hb18 := some_inj hb18
             refine XL_takeC _ rfl rfl (by kernel_rfl) hc16 (X_of_Y0 rfl (E_move (I x7) rfl (by kernel_rfl))) ?_
             refine XL_takeC _ rfl rfl (by kernel_rfl) hc16 (X_of_Y0 rfl (E_move (I y11) rfl (by kernel_rfl))) ?_
             refine XL_takeC _ rfl rfl (by kernel_rfl) hc16 (X_of_Y1 rfl (Y1_call (s_spec_nuGcd hy17) cf_spec_nuGcd rfl (by kernel_rfl))) ?_
             refine XL_takeC _ rfl rfl (by kernel_rfl) hc16 (X_of_Y0 rfl (Y0_eqw (k := .i64) (a := y17) (b := 1) rfl (by kernel_rfl) (by kernel_rfl))) ?_
             refine XL_cons rfl (X_of_Y0 rfl (Y0_pickTe (b := eqI y15 k3) (p := eqI y17 1) rfl (by kernel_rfl) hc16 (by kernel_rfl) hb18)) ?_
             refine XR 1 ?_
             refine XL_split b18 (fun hc19 => ?_) (fun hc19 => ?_)
             ·have hb22 := of_true hb22 hc19
              obtain ⟨y20, hy20, hb22⟩ := of_bind hb22
              obtain ⟨y21, hy21, hb22⟩ := of_bind hb22
              have hb22 := some_inj hb22
              refine XL_takeC _ rfl rfl (by kernel_rfl) hc19 (X_of_Y0 rfl (E_loadn (cs := [Ti g1.1, Ti g1.2.1, Ti g1.2.2]) [Ti g1.1, Ti g1.2.1, Ti g1.2.2] wd25 rfl (by kernel_rfl) (Nat.le_of_ble_eq_true rfl) (by kernel_rfl))) ?_
              refine XL_takeC _ rfl rfl (by kernel_rfl) hc19 (X_of_Y0 rfl (E_move (I x7) rfl (by kernel_rfl))) ?_
              refine XL_takeC _ rfl rfl (by kernel_rfl) hc19 (X_of_Y0 rfl (E_move (I y11) rfl (by kernel_rfl))) ?_
              refine XL_takeC _ rfl rfl (by kernel_rfl) hc19 (X_of_Y1 rfl (Y1_call (s_spec_foValue hy20) cf_spec_foValue rfl (by kernel_rfl))) ?_
              refine XL_takeC _ rfl rfl (by kernel_rfl) hc19 (X_of_Y0 rfl (E_move (I a2) rfl (by kernel_rfl))) ?_
              refine XL_takeC _ rfl rfl (by kernel_rfl) hc19 (X_of_Y1 rfl (Y1_call (s_spec_nuGcd hy21) cf_spec_nuGcd rfl (by kernel_rfl))) ?_
              refine XL_takeC _ rfl rfl (by kernel_rfl) hc19 (X_of_Y0 rfl (Y0_eqw (k := .i64) (a := y21) (b := 1) rfl (by kernel_rfl) (by kernel_rfl))) ?_
              refine XL_cons rfl (X_of_Y0 rfl (Y0_pickTe (b := b18) (p := eqI y21 1) rfl (by kernel_rfl) hc19 (by kernel_rfl) hb22)) ?_
              exact XE
             ·have hb22 := some_inj (of_false hb22 hc19)
              refine XL_skipT _ rfl rfl (by kernel_rfl) hc19 rfl ?_
              refine XL_skipT _ rfl rfl (by kernel_rfl) hc19 rfl ?_
              refine XL_skipT _ rfl rfl (by kernel_rfl) hc19 rfl ?_
              refine XL_skipT _ rfl rfl (by kernel_rfl) hc19 rfl ?_
              refine XL_skipT _ rfl rfl (by kernel_rfl) hc19 rfl ?_
              refine XL_skipT _ rfl rfl (by kernel_rfl) hc19 rfl ?_
              refine XL_skipT _ rfl rfl (by kernel_rfl) hc19 rfl ?_
              refine XL_cons rfl (X_of_Y0 rfl (Y0_pickFe (b := b18) (p := false) rfl (by kernel_rfl) hc19 (by kernel_rfl) hb22)) ?_
              exact XE
            ·have hb18 := some_inj (of_false hb18 hc16)
             refine XL_skipT _ rfl rfl (by kernel_rfl) hc16 rfl ?_
             refine XL_skipT _ rfl rfl (by kernel_rfl) hc16 rfl ?_
             refine XL_skipT _ rfl rfl (by kernel_rfl) hc16 rfl ?_
             refine XL_skipT _ rfl rfl (by kernel_rfl) hc16 rfl ?_
             refine XL_cons rfl (X_of_Y0 rfl (Y0_pickFe (b := eqI y15 k3) (p := false) rfl (by kernel_rfl) hc16 (by kernel_rfl) hb18)) ?_
             refine XR 1 ?_
             refine XL_split b18 (fun hc19 => ?_) (fun hc19 => ?_)
             ·have hb22 := of_true hb22 hc19
              obtain ⟨y20, hy20, hb22⟩ := of_bind hb22
              obtain ⟨y21, hy21, hb22⟩ := of_bind hb22
              have hb22 := some_inj hb22
              refine XL_takeC _ rfl rfl (by kernel_rfl) hc19 (X_of_Y0 rfl (E_loadn (cs := [Ti g1.1, Ti g1.2.1, Ti g1.2.2]) [Ti g1.1, Ti g1.2.1, Ti g1.2.2] wd25 rfl (by kernel_rfl) (Nat.le_of_ble_eq_true rfl) (by kernel_rfl))) ?_
              refine XL_takeC _ rfl rfl (by kernel_rfl) hc19 (X_of_Y0 rfl (E_move (I x7) rfl (by kernel_rfl))) ?_
              refine XL_takeC _ rfl rfl (by kernel_rfl) hc19 (X_of_Y0 rfl (E_move (I y11) rfl (by kernel_rfl))) ?_
              refine XL_takeC _ rfl rfl (by kernel_rfl) hc19 (X_of_Y1 rfl (Y1_call (s_spec_foValue hy20) cf_spec_foValue rfl (by kernel_rfl))) ?_
              refine XL_takeC _ rfl rfl (by kernel_rfl) hc19 (X_of_Y0 rfl (E_move (I a2) rfl (by kernel_rfl))) ?_
              refine XL_takeC _ rfl rfl (by kernel_rfl) hc19 (X_of_Y1 rfl (Y1_call (s_spec_nuGcd hy21) cf_spec_nuGcd rfl (by kernel_rfl))) ?_
              refine XL_takeC _ rfl rfl (by kernel_rfl) hc19 (X_of_Y0 rfl (Y0_eqw (k := .i64) (a := y21) (b := 1) rfl (by kernel_rfl) (by kernel_rfl))) ?_
              refine XL_cons rfl (X_of_Y0 rfl (Y0_pickTe (b := b18) (p := eqI y21 1) rfl (by kernel_rfl) hc19 (by kernel_rfl) hb22)) ?_
              exact XE
             ·have hb22 := some_inj (of_false hb22 hc19)
              refine XL_skipT _ rfl rfl (by kernel_rfl) hc19 rfl ?_
              refine XL_skipT _ rfl rfl (by kernel_rfl) hc19 rfl ?_
              refine XL_skipT _ rfl rfl (by kernel_rfl) hc19 rfl ?_
              refine XL_skipT _ rfl rfl (by kernel_rfl) hc19 rfl ?_
              refine XL_skipT _ rfl rfl (by kernel_rfl) hc19 rfl ?_
              refine XL_skipT _ rfl rfl (by kernel_rfl) hc19 rfl ?_
              refine XL_skipT _ rfl rfl (by kernel_rfl) hc19 rfl ?_
              refine XL_cons rfl (X_of_Y0 rfl (Y0_pickFe (b := b18) (p := false) rfl (by kernel_rfl) hc19 (by kernel_rfl) hb22)) ?_
              exact XE
           refine V_cond rfl (fun hc23 => ?_) (fun hc23 => ?_)
           ·have h := of_true h hc23
            refine V_e (mb 45 48) [] (s1 := ⟨bt 4 (I x7 :: I y11 :: bt 39 []), []⟩) ?_
            refine V_ret ?_
            obtain rfl := some_inj h
            have h := hko13
            obtain rfl := some_inj h
            have h := hko9
            obtain rfl := some_inj h
            have h := hko5
            obtain rfl := some_inj h
            show Post _ _ _ _ _
            exact ⟨.inr rfl, rfl, rfl, rfl⟩
           ·have h := of_false h hc23
            refine V_skip ?_
            show V _ _ _ _
            obtain ⟨y24, hy24, h⟩ := of_sI h
            refine V_reg (mb 45 454) [16] (s1 := ⟨.bot :: I a2 :: .pt 16 0 :: bt 3 (I k3 :: I x7 :: I y24 :: bt 36 []), [(16, .box [Ti g1.1, Ti g1.2.1, Ti g1.2.2])]⟩) ?_ ?_
            ·refine XR 3 ?_
             refine XL_nil ?_
             subst hy24
             kernel_rfl
            exact ⟨n, Nat.lt_succ_self n, _,  by rfl, h⟩
          ·have h := of_false h hc14
           refine V_exit ?_
           obtain rfl := some_inj h
           exact ⟨_, rfl, by rfl⟩
        rintro o13 rfl
        have h := hko13
        clear hko13
        show V _ _ _ _
        obtain ⟨x25, hx25, h⟩ := of_sI h
        refine V_reg (mb 45 198) [16] (s1 := ⟨.bot :: I a2 :: .pt 16 0 :: bt 3 (I k3 :: I x25 :: bt 37 []), [(16, .box [Ti g1.1, Ti g1.2.1, Ti g1.2.2])]⟩) ?_ ?_
        ·refine XR 3 ?_
         refine XL_nil ?_
         subst hx25
         kernel_rfl
        exact ⟨n, Nat.lt_succ_self n, _,  by rfl, h⟩
       ·have h := of_false h hc10
        refine V_exit ?_
        obtain rfl := some_inj h
        exact ⟨_, rfl, by rfl⟩
     rintro o9 rfl
     have h := hko9
     clear hko9
     show V _ _ _ _
     obtain ⟨k26, hk26, h⟩ := of_sI h
     refine V_reg (mb 45 70) [16] (s1 := ⟨.bot :: I a2 :: .pt 16 0 :: bt 3 (I k26 :: bt 38 []), [(16, .box [Ti g1.1, Ti g1.2.1, Ti g1.2.2])]⟩) ?_ ?_
     ·refine XR 3 ?_
      refine XL_nil ?_
      subst hk26
      kernel_rfl
     exact ⟨n, Nat.lt_succ_self n, _,  by rfl, h⟩
    ·have h := of_false h hc6
     refine V_exit ?_
     obtain rfl := some_inj h
     exact ⟨_, rfl, by rfl⟩
  rintro o5 rfl
  have h := hko5
  clear hko5
  show V _ _ _ _
  refine V_e (mb 45 48) [] (s1 := ⟨bt 4 (I 1 :: I 0 :: bt 39 []), []⟩) ?_
  refine V_ret ?_
  obtain rfl := some_inj h
  show Post _ _ _ _ _
  exact ⟨.inr rfl, rfl, rfl, rfl⟩
theorem cf_spec_l1Sign : ∀ args w, (callFunc 249 args).run Tryz.prog w = .ok (.enter 249 args) w := run_callFunc Tryz.func249 (by kernel_rfl) (by kernel_rfl)
theorem s_spec_l1Sign {vn1 : Int} {r : Int} (h : r_spec_l1Sign vn1 = some r) : CallS Tryz.prog 249 [I vn1] (I r) [] := by
  refine CallS_of_text (rs := [.t 2]) (vs := [.tmp 2]) Tryz.func249 rfl rfl (.cons rfl FitsL.nil) (by decide) 9 rfl ?_
  unfold r_spec_l1Sign at h
  show V _ _ ⟨I vn1 :: bt 8 [], []⟩ _
  refine V_e (mb 9 1) [] (s1 := ⟨I vn1 :: bt 8 [], []⟩) ?_
  refine V_seq ?_
  refine V_block ?_
  refine V_e (mb 9 9) [] (s1 := ⟨I vn1 :: .bot :: .bot :: Bo (ltI 0 vn1) :: bt 5 [], []⟩) ?_
  refine V_cond rfl (fun hc2 => ?_) (fun hc2 => ?_)
  ·have h := of_true h hc2
   refine V_e (mb 9 4) [] (s1 := ⟨.bot :: .bot :: I 1 :: bt 6 [], []⟩) ?_
   refine V_ret ?_
   obtain rfl := some_inj h
   show Post _ _ _ _ _
   exact ⟨.inr rfl, rfl, rfl, rfl⟩
  ·have h := of_false h hc2
   refine V_e (mb 9 64) [] (s1 := ⟨bt 6 (Bo (ltI vn1 0) :: .bot :: .bot :: []), []⟩) ?_
   refine V_cond rfl (fun hc3 => ?_) (fun hc3 => ?_)
   ·have h := of_true h hc3
    refine V_e (mb 9 4) [] (s1 := ⟨.bot :: .bot :: I (-1) :: bt 6 [], []⟩) ?_
    refine V_ret ?_
    obtain rfl := some_inj h
    show Post _ _ _ _ _
    exact ⟨.inr rfl, rfl, rfl, rfl⟩
   ·have h := of_false h hc3
    refine V_skip ?_
    show V _ _ _ _
    refine V_e (mb 9 4) [] (s1 := ⟨.bot :: .bot :: I 0 :: bt 6 [], []⟩) ?_
    refine V_ret ?_
    obtain rfl := some_inj h
    show Post _ _ _ _ _
    exact ⟨.inr rfl, rfl, rfl, rfl⟩
theorem cf_spec_nuInverse : ∀ args w, (callFunc 250 args).run Tryz.prog w = .ok (.enter 250 args) w := run_callFunc Tryz.func250 (by kernel_rfl) (by kernel_rfl)
theorem s_spec_nuInverse {a1 : Int} {vm2 : Int} {r : Int} (h : r_spec_nuInverse a1 vm2 = some r) : CallS Tryz.prog 250 [I a1, I vm2] (I r) [] := by
  refine CallS_of_text (rs := [.t 4]) (vs := [.tmp 4]) Tryz.func250 rfl rfl (.cons rfl FitsL.nil) (by decide) 36 rfl ?_
  unfold r_spec_nuInverse at h
  show V _ _ ⟨I a1 :: I vm2 :: bt 34 [], []⟩ _
  refine V_e (mb 36 3) [] (s1 := ⟨I a1 :: I vm2 :: bt 34 [], []⟩) ?_
  obtain ⟨y3, hy3, h⟩ := of_bind h
  refine V_sreg (mb 36 482) [] (s1 := ⟨.bot :: I vm2 :: bt 3 (I vm2 :: I y3 :: I 0 :: I 1 :: bt 27 []), []⟩) ?_ ?_
  ·refine XR 3 ?_
   refine XC (s_spec_nuMod hy3) cf_spec_nuMod rfl rfl rfl ?_
   exact XE
  refine V_seq ?_
  obtain ⟨o9, hLo9, h⟩ := of_bind h
  refine V_toK (mb 36 162) [] (s1 := ⟨.bot :: I vm2 :: bt 3 (I o9.1 :: .bot :: I o9.2 :: bt 28 []), []⟩) ?_ ?_
  ·clear h
   refine V_block (V_loop (fun n s => ∃ (vr4 : Int) (next5 : Int) (x6 : Int) (y7 : Int), s.keep (mb 36 482) [] = (⟨.bot :: I vm2 :: bt 3 (I vr4 :: I next5 :: I x6 :: I y7 :: bt 27 []), []⟩ : St) ∧ r_spec_nuInverse_L8 vm2 n vr4 next5 x6 y7 = some o9) FU ⟨_, _, _, _,  by rfl, hLo9⟩ ?_)
   clear hLo9
   rintro n s ⟨vr4, next5, x6, y7, hs, h⟩
   refine V_keep _ _ hs ?_
   clear hs
   cases n with
   | zero => cases h
   | succ n =>
    rw [r_spec_nuInverse_L8] at h
    refine V_seq ?_
    refine V_e (mb 36 33250) [] (s1 := ⟨.bot :: I vm2 :: bt 3 (I vr4 :: I next5 :: I x6 :: I y7 :: bt 6 (Bo (!eqI next5 0) :: bt 20 [])), []⟩) ?_
    refine V_cond rfl (fun hc10 => ?_) (fun hc10 => ?_)
    ·have h := of_true h hc10
     refine V_skip ?_
     show V _ _ _ _
     refine V_block ?_
     obtain ⟨z11, hz11, h⟩ := of_bind h
     obtain ⟨q12, hq12, h⟩ := of_sI h
     refine V_sreg (mb 36 994) [] (s1 := ⟨.bot :: I vm2 :: bt 3 (I vr4 :: I next5 :: I x6 :: I y7 :: I q12 :: bt 26 []), []⟩) ?_ ?_
     ·refine XR 2 ?_
      refine L0 rfl rfl (Y0_quo64 (a := vr4) (b := next5) rfl (by kernel_rfl) (by kernel_rfl) (nz_some hz11)) ?_
      refine XR 1 ?_
      refine XL_nil ?_
      subst hq12
      kernel_rfl
     obtain ⟨next13, hnext13, h⟩ := of_sI h
     refine V_sreg (mb 36 994) [] (s1 := ⟨.bot :: I vm2 :: bt 3 (I next5 :: I next13 :: I x6 :: I y7 :: I q12 :: bt 26 []), []⟩) ?_ ?_
     ·refine XR 8 ?_
      refine XL_nil ?_
      subst hnext13
      kernel_rfl
     obtain ⟨y14, hy14, h⟩ := of_sI h
     refine V_reg (mb 36 482) [] (s1 := ⟨.bot :: I vm2 :: bt 3 (I next5 :: I next13 :: I y7 :: I y14 :: bt 27 []), []⟩) ?_ ?_
     ·refine XR 8 ?_
      refine XL_nil ?_
      subst hy14
      kernel_rfl
     exact ⟨n, Nat.lt_succ_self n, _, _, _, _,  by rfl, h⟩
    ·have h := of_false h hc10
     refine V_exit ?_
     obtain rfl := some_inj h
     show St.keep _ _ _ = _
     rfl
  show V _ _ _ _
  refine V_seq ?_
  refine V_e (mb 36 4294967426) [] (s1 := ⟨.bot :: I vm2 :: bt 5 (I o9.2 :: bt 24 (Bo (!eqI o9.1 1) :: bt 3 [])), []⟩) ?_
  refine V_cond rfl (fun hc15 => ?_) (fun hc15 => ?_)
  ·have h := of_true h hc15
   refine V_e (mb 36 16) [] (s1 := ⟨bt 4 (I (-1) :: bt 31 []), []⟩) ?_
   refine V_ret ?_
   obtain rfl := some_inj h
   show Post _ _ _ _ _
   exact ⟨.inr rfl, rfl, rfl, rfl⟩
  ·have h := of_false h hc15
   refine V_skip ?_
   show V _ _ _ _
   obtain ⟨y16, hy16, h⟩ := of_bind h
   refine V_sreg (mb 36 16) [] (s1 := ⟨bt 4 (I y16 :: bt 31 []), []⟩) ?_ ?_
   ·refine XR 2 ?_
    refine XC (s_spec_nuMod hy16) cf_spec_nuMod rfl rfl rfl ?_
    exact XE
   refine V_ret ?_
   obtain rfl := some_inj h
   show Post _ _ _ _ _
   exact ⟨.inr rfl, rfl, rfl, rfl⟩
theorem cf_spec_nuBezout : ∀ args w, (callFunc 222 args).run Tryz.prog w = .ok (.enter 222 args) w := run_callFunc Tryz.func222 (by kernel_rfl) (by kernel_rfl)
theorem s_spec_nuBezout {a1 : Int} {b2 : Int} {r : (Int × Int × Int)} (h : r_spec_nuBezout a1 b2 = some r) : CallS Tryz.prog 222 [I a1, I b2] (.tc (I r.1) (.tc (I r.2.1) (.tc (I r.2.2) .tn))) [] := by
  refine CallS_of_text (rs := [.t 4, .t 5, .t 6]) (vs := [.tmp 4, .tmp 5, .tmp 6]) Tryz.func222 rfl rfl (.cons rfl (.cons rfl (.cons rfl FitsL.nil))) (by decide) 34 rfl ?_
  unfold r_spec_nuBezout at h
  show V _ _ ⟨I a1 :: I b2 :: bt 32 [], []⟩ _
  refine V_e (mb 34 3) [] (s1 := ⟨I a1 :: I b2 :: bt 32 [], []⟩) ?_
  obtain ⟨y3, hy3, h⟩ := of_bind h
  refine V_sreg (mb 34 131) [] (s1 := ⟨I a1 :: I b2 :: bt 5 (I y3 :: bt 26 []), []⟩) ?_ ?_
  ·refine XR 2 ?_
   refine XC (s_spec_nuGcd hy3) cf_spec_nuGcd rfl rfl rfl ?_
   exact XE
  refine V_seq ?_
  refine V_e (mb 34 8323) [] (s1 := ⟨I a1 :: I b2 :: bt 5 (I y3 :: bt 5 (Bo (eqI b2 0) :: bt 20 [])), []⟩) ?_
  refine V_cond rfl (fun hc4 => ?_) (fun hc4 => ?_)
  ·have h := of_true h hc4
   obtain ⟨y5, hy5, h⟩ := of_bind h
   refine V_sreg (mb 34 112) [] (s1 := ⟨bt 4 (I y3 :: I y5 :: I 0 :: bt 27 []), []⟩) ?_ ?_
   ·refine XR 2 ?_
    refine XC (s_spec_l1Sign hy5) cf_spec_l1Sign rfl rfl rfl ?_
    exact XE
   refine V_ret ?_
   obtain rfl := some_inj h
   show Post _ _ _ _ _
   exact ⟨.inr rfl, rfl, rfl, rfl⟩
  ·have h := of_false h hc4
   refine V_skip ?_
   show V _ _ _ _
   obtain ⟨z6, hz6, h⟩ := of_bind h
   obtain ⟨y7, hy7, h⟩ := of_bind h
   obtain ⟨z8, hz8, h⟩ := of_bind h
   obtain ⟨y9, hy9, h⟩ := of_bind h
   refine V_sdreg [0, 0, 3, 0, 8, 0, 56, 127, 255] 9 (cdm 9 [10888, 10882, 10885, 2090, 2154, 682, 1386, 5461, 21845]) (mb 34 387) [] (s1 := ⟨I a1 :: I b2 :: bt 5 (I y3 :: I y9 :: bt 25 []), []⟩) (by kernel_rfl) (by kernel_rfl) ?_ ?_
   ·refine DR 2 ?_
    refine DE_0 2 (I (w64 (Int.tdiv a1 y3))) (by kernel_rfl) rfl rfl rfl (gsat_none rfl) (by kernel_rfl) (Y0_quo64 (a := a1) (b := y3) rfl (by kernel_rfl) (by kernel_rfl) (nz_some hz6)) 19 rfl ?_
    refine DR 1 ?_
    refine DC 4 (s_spec_l1Abs hy7) cf_spec_l1Abs rfl rfl rfl rfl 21 rfl ?_
    refine DR 1 ?_
    refine DE_0 6 (I (w64 (Int.tdiv y7 y3))) (by kernel_rfl) rfl rfl rfl (gsat_none rfl) (by kernel_rfl) (Y0_quo64 (a := y7) (b := y3) rfl (by kernel_rfl) (by kernel_rfl) (nz_some hz8)) 23 rfl ?_
    refine DC 7 (s_spec_nuInverse hy9) cf_spec_nuInverse rfl rfl rfl rfl 24 rfl ?_
    refine DA 1 ?_
    exact XE
   obtain ⟨z10, hz10, h⟩ := of_bind h
   obtain ⟨t11, ht11, h⟩ := of_sI h
   refine V_sdreg [0, 0, 0, 0, 0, 24, 60, 0, 252, 1, 515, 2047] 12 (cdm 12 [174760, 699042, 2656906, 2654762, 2654378, 2654570, 2655578, 2632362, 2643290, 174761, 436901, 1398101]) (mb 34 112) [] (s1 := ⟨bt 4 (I y3 :: I y9 :: I t11 :: bt 27 []), []⟩) (by kernel_rfl) (by kernel_rfl) ?_ ?_
   ·refine DR 8 ?_
    refine DE_0 8 (I (w64 (Int.tdiv (w64 (y3 - (w64 (a1 * y9)))) b2))) (by kernel_rfl) rfl rfl rfl (gsat_none rfl) (by kernel_rfl) (Y0_quo64 (a := w64 (y3 - (w64 (a1 * y9)))) (b := b2) rfl (by kernel_rfl) (by kernel_rfl) (nz_some hz10)) 33 rfl ?_
    refine DA 3 ?_
    refine XL_nil ?_
    subst ht11
    kernel_rfl
   refine V_ret ?_
   obtain rfl := some_inj h
   show Post _ _ _ _ _
   exact ⟨.inr rfl, rfl, rfl, rfl⟩
theorem cf_spec_vaComplete : ∀ args w, (callFunc 162 args).run Tryz.prog w = .ok (.enter 162 args) w := run_callFunc Tryz.func162 (by kernel_rfl) (by kernel_rfl)
theorem s_spec_vaComplete {f1 : (Int × Int × Int)} {x2 : Int} {y3 : Int} {r : (((Int × Int × Int)) × ((Int × Int × Int × Int)))} (h : r_spec_vaComplete f1 x2 y3 = some r) : CallS Tryz.prog 162 [.ag [Ti f1.1, Ti f1.2.1, Ti f1.2.2], I x2, I y3] (.tc (.ag [Ti r.1.1, Ti r.1.2.1, Ti r.1.2.2]) (.tc (.ag [Ti r.2.1, Ti r.2.2.1, Ti r.2.2.2.1, Ti r.2.2.2.2]) .tn)) [] := by
  refine CallS_of_text (rs := [.w 6 3, .w 7 4]) (vs := [.cell 6 25, .cell 7 31]) Tryz.func162 rfl rfl (.cons ⟨rfl, wd25⟩ (.cons ⟨rfl, wd31⟩ FitsL.nil)) (by decide) 76 rfl ?_
  unfold r_spec_vaComplete at h
  show V _ _ ⟨.ag [Ti f1.1, Ti f1.2.1, Ti f1.2.2] :: I x2 :: I y3 :: bt 73 [], []⟩ _
  refine V_e (mb 76 206) [56, 48, 24] (s1 := ⟨.bot :: I x2 :: I y3 :: .pt 24 0 :: .bot :: .bot :: .pt 48 0 :: .pt 56 0 :: bt 68 [], [(56, .box [Ti 0, Ti 0, Ti 0, Ti 0]), (48, .box [Ti 0, Ti 0, Ti 0]), (24, .box [Ti f1.1, Ti f1.2.1, Ti f1.2.2])]⟩) ?_
  obtain ⟨y4, hy4, h⟩ := of_bind h
  refine V_sreg (mb 76 1742) [56, 48, 24] (s1 := ⟨.bot :: I x2 :: I y3 :: .pt 24 0 :: .bot :: .bot :: .pt 48 0 :: .pt 56 0 :: .bot :: I y4.2.1 :: I y4.2.2 :: bt 65 [], [(56, .box [Ti 0, Ti 0, Ti 0, Ti 0]), (48, .box [Ti 0, Ti 0, Ti 0]), (24, .box [Ti f1.1, Ti f1.2.1, Ti f1.2.2])]⟩) ?_ ?_
  ·refine XR 2 ?_
   refine XC (s_spec_nuBezout hy4) cf_spec_nuBezout rfl rfl rfl ?_
   exact XE
  obtain ⟨y5, hy5, h⟩ := of_bind h
  obtain ⟨q6, hq6, h⟩ := of_sI h
  refine V_sreg (mb 76 6862) [56, 48, 24] (s1 := ⟨.bot :: I x2 :: I y3 :: .pt 24 0 :: .bot :: .bot :: .pt 48 0 :: .pt 56 0 :: .bot :: I y4.2.1 :: .bot :: I q6 :: I y5 :: bt 63 [], [(56, .box [Ti 0, Ti 0, Ti 0, Ti 0]), (48, .box [Ti 0, Ti 0, Ti 0]), (24, .box [Ti f1.1, Ti f1.2.1, Ti f1.2.2])]⟩) ?_ ?_
  ·refine XR 5 ?_
   refine XC (s_spec_foValue hy5) cf_spec_foValue rfl rfl rfl ?_
   refine XR 2 ?_
   refine XL_nil ?_
   subst hq6
   kernel_rfl
  obtain ⟨y7, hy7, h⟩ := of_bind h
  refine V_sreg (mb 76 15054) [56, 48, 24] (s1 := ⟨.bot :: I x2 :: I y3 :: .pt 24 0 :: .bot :: .bot :: .pt 48 0 :: .pt 56 0 :: .bot :: I y4.2.1 :: .bot :: I q6 :: I y5 :: I y7 :: bt 62 [], [(56, .box [Ti 0, Ti 0, Ti 0, Ti 0]), (48, .box [Ti 0, Ti 0, Ti 0]), (24, .box [Ti f1.1, Ti f1.2.1, Ti f1.2.2])]⟩) ?_ ?_
  ·refine XR 5 ?_
   refine XC (s_spec_foPolar hy7) cf_spec_foPolar rfl rfl rfl ?_
   exact XE
  obtain ⟨y8, hy8, h⟩ := of_bind h
  obtain ⟨z9, hz9, h⟩ := of_bind h
  obtain ⟨t10, ht10, h⟩ := of_sI h
  refine V_sreg (mb 76 31438) [56, 48, 24] (s1 := ⟨.bot :: I x2 :: I y3 :: .pt 24 0 :: .bot :: .bot :: .pt 48 0 :: .pt 56 0 :: .bot :: I y4.2.1 :: .bot :: I q6 :: I y5 :: I y7 :: I t10 :: bt 61 [], [(56, .box [Ti 0, Ti 0, Ti 0, Ti 0]), (48, .box [Ti 0, Ti 0, Ti 0]), (24, .box [Ti f1.1, Ti f1.2.1, Ti f1.2.2])]⟩) ?_ ?_
  ·refine XR 3 ?_
   refine XC (s_spec_nuMod hy8) cf_spec_nuMod rfl rfl rfl ?_
   refine XR 4 ?_
   refine L0 rfl rfl (Y0_quo64 (a := w64 (y8 - y7)) (b := w64 (2 * y5)) rfl (by kernel_rfl) (by kernel_rfl) (nz_some hz9)) ?_
   refine XR 1 ?_
   refine XL_nil ?_
   subst ht10
   kernel_rfl
  obtain ⟨f11, hf11, h⟩ := of_sI h
  obtain ⟨f12, hf12, h⟩ := of_sI h
  refine V_sreg (mb 76 61640) [120, 56, 48, 24] (s1 := ⟨bt 3 (.pt 24 0 :: .bot :: .bot :: .pt 48 0 :: .pt 56 0 :: bt 4 (I y5 :: I y7 :: I t10 :: .pt 120 0 :: bt 60 [])), [(120, .box [Ti x2, Ti f11, Ti y3, Ti f12]), (56, .box [Ti 0, Ti 0, Ti 0, Ti 0]), (48, .box [Ti 0, Ti 0, Ti 0]), (24, .box [Ti f1.1, Ti f1.2.1, Ti f1.2.2])]⟩) ?_ ?_
  ·refine XR 12 ?_
   refine L0 rfl rfl (Y0_build (cs := [Ti x2, Ti (w64 (q6 + (w64 (x2 * t10)))), Ti y3, Ti (w64 (y4.2.1 + (w64 (y3 * t10))))]) pl31 bt31 rfl rfl (by kernel_rfl)) ?_
   refine XR 2 ?_
   refine XL_nil ?_
   subst hf11 hf12
   kernel_rfl
  obtain ⟨b13, hb13, h⟩ := of_sI h
  refine V_sreg (mb 76 45256) [120, 56, 48, 24] (s1 := ⟨bt 3 (.pt 24 0 :: .bot :: .bot :: .pt 48 0 :: .pt 56 0 :: bt 4 (I y5 :: I b13 :: .bot :: .pt 120 0 :: bt 60 [])), [(120, .box [Ti x2, Ti f11, Ti y3, Ti f12]), (56, .box [Ti 0, Ti 0, Ti 0, Ti 0]), (48, .box [Ti 0, Ti 0, Ti 0]), (24, .box [Ti f1.1, Ti f1.2.1, Ti f1.2.2])]⟩) ?_ ?_
  ·refine XR 7 ?_
   refine XL_nil ?_
   subst hb13
   kernel_rfl
  obtain ⟨y14, hy14, h⟩ := of_bind h
  obtain ⟨z15, hz15, h⟩ := of_bind h
  obtain ⟨f16, hf16, h⟩ := of_sI h
  refine V_sdreg [0, 0, 0, 0, 12, 0, 32, 124, 0, 256, 1020, 2047, 0, 4095, 16383] 14 [[.z, .b, .b, .b, .b, .b, .b, .b, .b, .b, .b, .z, .b, .z], [.b, .z, .b, .b, .b, .b, .b, .b, .b, .b, .b, .z, .b, .z], [.b, .b, .z, .b, .z, .b, .b, .z, .b, .b, .z, .z, .b, .z], [.b, .b, .b, .z, .z, .b, .b, .z, .b, .b, .z, .z, .b, .z], [.b, .b, .a, .a, .z, .b, .b, .z, .b, .b, .z, .z, .b, .z], [.b, .b, .b, .b, .b, .z, .z, .z, .b, .b, .z, .z, .b, .z], [.b, .b, .b, .b, .b, .a, .z, .z, .b, .b, .z, .z, .b, .z], [.b, .b, .a, .a, .a, .a, .a, .z, .b, .b, .z, .z, .b, .z], [.b, .b, .b, .b, .b, .b, .b, .b, .z, .z, .z, .z, .b, .z], [.b, .b, .b, .b, .b, .b, .b, .b, .a, .z, .z, .z, .b, .z], [.b, .b, .a, .a, .a, .a, .a, .a, .a, .a, .z, .z, .b, .z], [.a, .a, .a, .a, .a, .a, .a, .a, .a, .a, .a, .z, .b, .z], [.b, .b, .b, .b, .b, .b, .b, .b, .b, .b, .b, .b, .z, .r 48], [.a, .a, .a, .a, .a, .a, .a, .a, .a, .a, .a, .a, .b, .z]] (mb 76 192) [56, 48] (s1 := ⟨bt 6 (.pt 48 0 :: .pt 56 0 :: bt 68 []), [(56, .box [Ti x2, Ti f11, Ti y3, Ti f12]), (48, .box [Ti y5, Ti b13, Ti f16])]⟩) (by kernel_rfl) (by kernel_rfl) ?_ ?_
  ·refine DR 6 ?_
   refine DC 6 (s_spec_foDisc hy14) cf_spec_foDisc rfl rfl rfl rfl 69 rfl ?_
   refine DR 3 ?_
   refine DE_0 10 (I (w64 (Int.tdiv (w64 ((w64 (b13 * b13)) - y14)) (w64 (4 * y5))))) (by kernel_rfl) rfl rfl rfl (gsat_none rfl) (by kernel_rfl) (Y0_quo64 (a := w64 ((w64 (b13 * b13)) - y14)) (b := w64 (4 * y5)) rfl (by kernel_rfl) (by kernel_rfl) (nz_some hz15)) 73 rfl ?_
   refine DE_0 11 (.ag [Ti y5, Ti b13, Ti (w64 (Int.tdiv (w64 ((w64 (b13 * b13)) - y14)) (w64 (4 * y5))))]) (by kernel_rfl) rfl rfl rfl (gsat_none rfl) (by kernel_rfl) (Y0_build (cs := [Ti y5, Ti b13, Ti (w64 (Int.tdiv (w64 ((w64 (b13 * b13)) - y14)) (w64 (4 * y5))))]) pl25 bt25 rfl rfl (by kernel_rfl)) 74 rfl ?_
   refine DA 2 ?_
   refine XR 1 ?_
   refine XL_nil ?_
   subst hf16
   kernel_rfl
  refine V_ret ?_
  obtain rfl := some_inj h
  show Post _ _ _ _ _
  exact ⟨.inr rfl, rfl, rfl, rfl⟩
theorem cf_spec_coShift : ∀ args w, (callFunc 165 args).run Tryz.prog w = .ok (.enter 165 args) w := run_callFunc Tryz.func165 (by kernel_rfl) (by kernel_rfl)
theorem s_spec_coShift {t1 : Int} {r : (Int × Int × Int × Int)} (h : r_spec_coShift t1 = some r) : CallS Tryz.prog 165 [I t1] (.ag [Ti r.1, Ti r.2.1, Ti r.2.2.1, Ti r.2.2.2]) [] := by
  refine CallS_of_text (rs := [.w 2 4]) (vs := [.cell 2 31]) Tryz.func165 rfl rfl (.cons ⟨rfl, wd31⟩ FitsL.nil) (by decide) 5 rfl ?_
  unfold r_spec_coShift at h
  show V _ _ ⟨I t1 :: bt 4 [], []⟩ _
  refine V_e (mb 5 5) [16] (s1 := ⟨I t1 :: .bot :: .pt 16 0 :: .bot :: .bot :: [], [(16, .box [Ti 0, Ti 0, Ti 0, Ti 0])]⟩) ?_
  refine V_sreg (mb 5 4) [16] (s1 := ⟨.bot :: .bot :: .pt 16 0 :: .bot :: .bot :: [], [(16, .box [Ti 1, Ti t1, Ti 0, Ti 1])]⟩) ?_ ?_
  ·refine XR 1 ?_
   refine L0 rfl rfl (Y0_build (cs := [Ti 1, Ti t1, Ti 0, Ti 1]) pl31 bt31 rfl rfl (by kernel_rfl)) ?_
   exact XE
  refine V_ret ?_
  obtain rfl := some_inj h
  show Post _ _ _ _ _
  exact ⟨.inr rfl, rfl, rfl, rfl⟩
theorem cf_spec_foDet : ∀ args w, (callFunc 224 args).run Tryz.prog w = .ok (.enter 224 args) w := run_callFunc Tryz.func224 (by kernel_rfl) (by kernel_rfl)
theorem s_spec_foDet {vm1 : (Int × Int × Int × Int)} {r : Int} (h : r_spec_foDet vm1 = some r) : CallS Tryz.prog 224 [.ag [Ti vm1.1, Ti vm1.2.1, Ti vm1.2.2.1, Ti vm1.2.2.2]] (I r) [] := by
  refine CallS_of_text (rs := [.t 2]) (vs := [.tmp 2]) Tryz.func224 rfl rfl (.cons rfl FitsL.nil) (by decide) 14 rfl ?_
  unfold r_spec_foDet at h
  show V _ _ ⟨.ag [Ti vm1.1, Ti vm1.2.1, Ti vm1.2.2.1, Ti vm1.2.2.2] :: bt 13 [], []⟩ _
  refine V_e (mb 14 2) [8] (s1 := ⟨.bot :: .pt 8 0 :: bt 12 [], [(8, .box [Ti vm1.1, Ti vm1.2.1, Ti vm1.2.2.1, Ti vm1.2.2.2])]⟩) ?_
  obtain ⟨t2, ht2, h⟩ := of_sI h
  refine V_sreg (mb 14 4) [] (s1 := ⟨.bot :: .bot :: I t2 :: bt 11 [], []⟩) ?_ ?_
  ·refine XR 12 ?_
   refine XL_nil ?_
   subst ht2
   kernel_rfl
  refine V_ret ?_
  obtain rfl := some_inj h
  show Post _ _ _ _ _
  exact ⟨.inr rfl, rfl, rfl, rfl⟩
end Go.Proofs.YtafomkclmkfjeaaGreat
