/-
  The functions of the program compute what the plain functions say: more of them.
  Conditions: none.
-/
import Derived.Test.YtgeajejmikaniaaSpSnd3
namespace Go.Proofs.Ytgeajejmikaniaa
open Go.RowKit
set_option linter.unusedVariables false
set_option linter.unusedSimpArgs false
theorem cf_laws_FnSeriesProducts : ∀ args w, (callFunc 5 args).run Try.prog w = .ok (.enter 5 args) w := run_callFunc Try.func5 (by kernel_rfl) (by kernel_rfl)
set_option maxRecDepth 100000 in
set_option maxHeartbeats 400000 in
theorem s_laws_FnSeriesProducts {code1 : List Int} {more2 : List Int} {r : Bool} (h : r_laws_FnSeriesProducts code1 more2 = some r) : CallS Try.prog 5 [.c (.sl (code1.map c5)), .c (.sl (more2.map c5))] (Bo r) [] := by
  refine CallS_of_text (rs := [.t 4]) (vs := [.tmp 4]) Try.func5 rfl rfl (.cons rfl FitsL.nil) (by decide) 209 rfl ?_
  unfold r_laws_FnSeriesProducts at h
  show V _ _ ⟨.c (.sl (code1.map c5)) :: .c (.sl (more2.map c5)) :: bt 207 [], []⟩ _
  refine V_sreg (mb 209 3) [] (s1 := ⟨.c (.sl (code1.map c5)) :: .c (.sl (more2.map c5)) :: bt 207 [], []⟩) ?_ ?_
  ·refine L0 rfl rfl (E_assign (Bo false) rfl (by kernel_rfl)) ?_
   refine XL_nil ?_
   kernel_rfl
  refine V_seq ?_
  obtain ⟨y3, hy3, h⟩ := of_bind h
  refine V_sreg (mb 209 8589934595) [] (s1 := ⟨.c (.sl (code1.map c5)) :: .c (.sl (more2.map c5)) :: bt 31 (Bo y3 :: bt 175 []), []⟩) ?_ ?_
  ·refine L0 rfl rfl (E_move (.c (.sl (code1.map c5))) rfl (by kernel_rfl)) ?_
   refine L0 rfl rfl (E_move (.c (.sl (more2.map c5))) rfl (by kernel_rfl)) ?_
   refine L1 rfl rfl (Y1_call (s_laws_big hy3) cf_laws_big rfl (by kernel_rfl)) ?_
   refine XL_nil ?_
   kernel_rfl
  refine V_cond rfl (fun hc4 => ?_) (fun hc4 => ?_)
  ·have h := of_true h hc4
   refine V_sreg (mb 209 16) [] (s1 := ⟨bt 4 (Bo true :: bt 204 []), []⟩) ?_ ?_
   ·refine L0 rfl rfl (E_assign (Bo true) rfl (by kernel_rfl)) ?_
    refine XL_nil ?_
    kernel_rfl
   refine V_ret ?_
   obtain rfl := some_inj h
   show Post _ _ _ _ _
   exact ⟨.inr rfl, rfl, rfl, rfl⟩
  ·have h := of_false h hc4
   refine V_skip ?_
   show V _ _ _ _
   obtain ⟨y5, hy5, h⟩ := of_bind h
   refine V_sreg (mb 209 226) [48, 40] (s1 := ⟨.bot :: .c (.sl (more2.map c5)) :: bt 3 (.pt 40 0 :: .pt 48 0 :: I y5.2.2 :: bt 201 []), [(48, .box [Ti y5.2.1.1, Ti y5.2.1.2.1, Ti y5.2.1.2.2]), (40, .box [Ti y5.1.1, Ti y5.1.2.1, Ti y5.1.2.2])]⟩) ?_ ?_
   ·refine L0 rfl rfl (E_move (.c (.sl (code1.map c5))) rfl (by kernel_rfl)) ?_
    refine L1 rfl rfl (Y1_call (s_spec_DrawPairSeries hy5) cf_spec_DrawPairSeries rfl (by kernel_rfl)) ?_
    refine L0 rfl rfl (E_move (.tc (.ag [Ti y5.1.1, Ti y5.1.2.1, Ti y5.1.2.2]) (.tc (.ag [Ti y5.2.1.1, Ti y5.2.1.2.1, Ti y5.2.1.2.2]) (.tc (I y5.2.2) .tn))) rfl (by kernel_rfl)) ?_
    refine L0 rfl rfl (E_ext (n := 0) (.ag [Ti y5.1.1, Ti y5.1.2.1, Ti y5.1.2.2]) (.tc (.ag [Ti y5.2.1.1, Ti y5.2.1.2.1, Ti y5.2.1.2.2]) (.tc (I y5.2.2) .tn)) (.ag [Ti y5.1.1, Ti y5.1.2.1, Ti y5.1.2.2]) rfl (by kernel_rfl) (by kernel_rfl) (by intro hh; cases hh)) ?_
    refine L0 rfl rfl (E_ext (n := 1) (.ag [Ti y5.1.1, Ti y5.1.2.1, Ti y5.1.2.2]) (.tc (.ag [Ti y5.2.1.1, Ti y5.2.1.2.1, Ti y5.2.1.2.2]) (.tc (I y5.2.2) .tn)) (.ag [Ti y5.2.1.1, Ti y5.2.1.2.1, Ti y5.2.1.2.2]) rfl (by kernel_rfl) (by kernel_rfl) (by intro hh; cases hh)) ?_
    refine L0 rfl rfl (E_ext (n := 2) (.ag [Ti y5.1.1, Ti y5.1.2.1, Ti y5.1.2.2]) (.tc (.ag [Ti y5.2.1.1, Ti y5.2.1.2.1, Ti y5.2.1.2.2]) (.tc (I y5.2.2) .tn)) (I y5.2.2) rfl (by kernel_rfl) (by kernel_rfl) (by intro hh; cases hh)) ?_
    refine L1 rfl rfl (Y1_alloc (z := zv45) rfl zf45 rfl) ?_
    refine L1 rfl rfl (Y1_alloc (z := zv45) rfl zf45 rfl) ?_
    refine XL_cons rfl (E_store (id := 40) (off := 0) (cs := [Ti 0, Ti 0, Ti 0]) (vc := [Ti y5.1.1, Ti y5.1.2.1, Ti y5.1.2.2]) [Ti y5.1.1, Ti y5.1.2.1, Ti y5.1.2.2] rfl rfl (by kernel_rfl) (by kernel_rfl) (by kernel_rfl) sz45 (Nat.le_of_ble_eq_true rfl) (by kernel_rfl)) ?_
    refine XL_cons rfl (E_store (id := 48) (off := 0) (cs := [Ti 0, Ti 0, Ti 0]) (vc := [Ti y5.2.1.1, Ti y5.2.1.2.1, Ti y5.2.1.2.2]) [Ti y5.2.1.1, Ti y5.2.1.2.1, Ti y5.2.1.2.2] rfl rfl (by kernel_rfl) (by kernel_rfl) (by kernel_rfl) sz45 (Nat.le_of_ble_eq_true rfl) (by kernel_rfl)) ?_
    refine L0 rfl rfl (E_assign (I y5.2.2) rfl (by kernel_rfl)) ?_
    refine XL_nil ?_
    kernel_rfl
   obtain ⟨y6, hy6, h⟩ := of_bind h
   refine V_sreg (mb 209 994) [48, 40] (s1 := ⟨.bot :: .c (.sl (more2.map c5)) :: bt 3 (.pt 40 0 :: .pt 48 0 :: I y5.2.2 :: .c (.sl (y6.1.map c3)) :: Bo y6.2 :: bt 199 []), [(48, .box [Ti y5.2.1.1, Ti y5.2.1.2.1, Ti y5.2.1.2.2]), (40, .box [Ti y5.1.1, Ti y5.1.2.1, Ti y5.1.2.2])]⟩) ?_ ?_
   ·refine L0 rfl rfl (E_loadn (cs := [Ti y5.1.1, Ti y5.1.2.1, Ti y5.1.2.2]) [Ti y5.1.1, Ti y5.1.2.1, Ti y5.1.2.2] wd45 rfl (by kernel_rfl) (Nat.le_of_ble_eq_true rfl) (by kernel_rfl)) ?_
    refine L0 rfl rfl (E_loadn (cs := [Ti y5.2.1.1, Ti y5.2.1.2.1, Ti y5.2.1.2.2]) [Ti y5.2.1.1, Ti y5.2.1.2.1, Ti y5.2.1.2.2] wd45 rfl (by kernel_rfl) (Nat.le_of_ble_eq_true rfl) (by kernel_rfl)) ?_
    refine L0 rfl rfl (E_move (I y5.2.2) rfl (by kernel_rfl)) ?_
    refine L1 rfl rfl (Y1_call (s_impl_PairSeries hy6) cf_impl_PairSeries rfl (by kernel_rfl)) ?_
    refine L0 rfl rfl (E_move (.tc (.c (.sl (y6.1.map c3))) (.tc (Bo y6.2) .tn)) rfl (by kernel_rfl)) ?_
    refine L0 rfl rfl (E_ext (n := 0) (.c (.sl (y6.1.map c3))) (.tc (Bo y6.2) .tn) (.c (.sl (y6.1.map c3))) rfl (by kernel_rfl) (by kernel_rfl) (by intro hh; cases hh)) ?_
    refine L0 rfl rfl (E_ext (n := 1) (.c (.sl (y6.1.map c3))) (.tc (Bo y6.2) .tn) (Bo y6.2) rfl (by kernel_rfl) (by kernel_rfl) (by intro hh; cases hh)) ?_
    refine L0 rfl rfl (E_assign (.c (.sl (y6.1.map c3))) rfl (by kernel_rfl)) ?_
    refine L0 rfl rfl (E_assign (Bo y6.2) rfl (by kernel_rfl)) ?_
    refine XL_nil ?_
    kernel_rfl
   obtain ⟨y7, hy7, h⟩ := of_bind h
   refine V_sreg (mb 209 4066) [408, 48, 40] (s1 := ⟨.bot :: .c (.sl (more2.map c5)) :: bt 3 (.pt 40 0 :: .pt 48 0 :: I y5.2.2 :: .c (.sl (y6.1.map c3)) :: Bo y6.2 :: .ow 408 :: Bo y7.2 :: bt 197 []), [(408, .arr 3 1 (y7.1.map c3)), (48, .box [Ti y5.2.1.1, Ti y5.2.1.2.1, Ti y5.2.1.2.2]), (40, .box [Ti y5.1.1, Ti y5.1.2.1, Ti y5.1.2.2])]⟩) ?_ ?_
   ·refine L0 rfl rfl (E_loadn (cs := [Ti y5.1.1, Ti y5.1.2.1, Ti y5.1.2.2]) [Ti y5.1.1, Ti y5.1.2.1, Ti y5.1.2.2] wd45 rfl (by kernel_rfl) (Nat.le_of_ble_eq_true rfl) (by kernel_rfl)) ?_
    refine L0 rfl rfl (E_loadn (cs := [Ti y5.2.1.1, Ti y5.2.1.2.1, Ti y5.2.1.2.2]) [Ti y5.2.1.1, Ti y5.2.1.2.1, Ti y5.2.1.2.2] wd45 rfl (by kernel_rfl) (Nat.le_of_ble_eq_true rfl) (by kernel_rfl)) ?_
    refine L0 rfl rfl (E_move (I y5.2.2) rfl (by kernel_rfl)) ?_
    refine L1 rfl rfl (Y1_call (s_spec_PairSeries hy7) cf_spec_PairSeries rfl (by kernel_rfl)) ?_
    refine L0 rfl rfl (E_move (.tc (.ow 408) (.tc (Bo y7.2) .tn)) rfl (by kernel_rfl)) ?_
    refine L0 rfl rfl (E_ext (n := 0) (.ow 408) (.tc (Bo y7.2) .tn) (.ow 408) rfl (by kernel_rfl) (by kernel_rfl) (by intro hh; cases hh)) ?_
    refine L0 rfl rfl (E_ext (n := 1) (.ow 408) (.tc (Bo y7.2) .tn) (Bo y7.2) rfl (by kernel_rfl) (by kernel_rfl) (by intro hh; cases hh)) ?_
    refine L0 rfl rfl (E_assign (.ow 408) rfl (by kernel_rfl)) ?_
    refine L0 rfl rfl (E_assign (Bo y7.2) rfl (by kernel_rfl)) ?_
    refine XL_nil ?_
    kernel_rfl
   refine V_seq ?_
   obtain ⟨b10, hb10, h⟩ := of_bind h
   refine V_sreg (mb 209 4611686018427388898) [48, 40] (s1 := ⟨.bot :: .c (.sl (more2.map c5)) :: bt 3 (.pt 40 0 :: .pt 48 0 :: I y5.2.2 :: .c (.sl (y6.1.map c3)) :: Bo y6.2 :: bt 52 (Bo b10 :: bt 146 [])), [(48, .box [Ti y5.2.1.1, Ti y5.2.1.2.1, Ti y5.2.1.2.2]), (40, .box [Ti y5.1.1, Ti y5.1.2.1, Ti y5.1.2.2])]⟩) ?_ ?_
   ·refine L0 rfl rfl (E_move (Bo y6.2) rfl (by kernel_rfl)) ?_
    refine L0 rfl rfl (E_move (Bo y7.2) rfl (by kernel_rfl)) ?_
    refine L0 rfl rfl (Y0_neb (a := y6.2) (b := y7.2) Try.underlying4 rfl (by kernel_rfl) (by kernel_rfl)) ?_
    refine L0 rfl rfl (E_move (Bo (y6.2 != y7.2)) rfl (by kernel_rfl)) ?_
    refine XL_split (y6.2 != y7.2) (fun hc8 => ?_) (fun hc8 => ?_)
    ·have hb10 := some_inj (of_true hb10 hc8)
     refine XL_skipF _ rfl rfl (by kernel_rfl) hc8 rfl ?_
     refine XL_skipF _ rfl rfl (by kernel_rfl) hc8 rfl ?_
     refine XL_skipF _ rfl rfl (by kernel_rfl) hc8 rfl ?_
     refine XL_skipF _ rfl rfl (by kernel_rfl) hc8 rfl ?_
     refine XL_cons rfl (X_of_Y0 rfl (Y0_pickTe (b := y6.2 != y7.2) (p := true) rfl (by kernel_rfl) hc8 (by kernel_rfl) hb10)) ?_
     refine XL_nil ?_
     kernel_rfl
    ·have hb10 := of_false hb10 hc8
     obtain ⟨y9, hy9, hb10⟩ := of_bind hb10
     have hb10 := some_inj hb10
     refine XL_takeC _ rfl rfl (by kernel_rfl) hc8 (X_of_Y0 rfl (E_move (.c (.sl (y6.1.map c3))) rfl (by kernel_rfl))) ?_
     refine XL_takeC _ rfl rfl (by kernel_rfl) hc8 (X_of_Y0 rfl (E_move (.ow 408) rfl (by kernel_rfl))) ?_
     refine XL_takeC _ rfl rfl (by kernel_rfl) hc8 (X_of_Y1 rfl (Y1_callS (s_laws_sameInts hy9) cf_laws_sameInts rfl (by kernel_rfl) rfl rfl)) ?_
     refine XL_takeC _ rfl rfl (by kernel_rfl) hc8 (X_of_Y0 rfl (Y0_not (b := y9) rfl (by kernel_rfl))) ?_
     refine XL_cons rfl (X_of_Y0 rfl (Y0_pickFe (b := y6.2 != y7.2) (p := !y9) rfl (by kernel_rfl) hc8 (by kernel_rfl) hb10)) ?_
     refine XL_nil ?_
     kernel_rfl
   refine V_cond rfl (fun hc11 => ?_) (fun hc11 => ?_)
   ·have h := of_true h hc11
    refine V_sreg (mb 209 16) [] (s1 := ⟨bt 4 (Bo false :: bt 204 []), []⟩) ?_ ?_
    ·refine L0 rfl rfl (E_assign (Bo false) rfl (by kernel_rfl)) ?_
     refine XL_nil ?_
     kernel_rfl
    refine V_ret ?_
    obtain rfl := some_inj h
    show Post _ _ _ _ _
    exact ⟨.inr rfl, rfl, rfl, rfl⟩
   ·have h := of_false h hc11
    refine V_skip ?_
    show V _ _ _ _
    obtain ⟨qo12, hLo12, hko12⟩ := of_bind h
    clear h
    refine V_cutS (q := qo12) (S := fun o12 => ⟨.bot :: .c (.sl (more2.map c5)) :: bt 207 [], []⟩) (mb 209 2) [] ?_ ?_
    ·have h := hLo12
     clear hLo12
     refine V_sreg (mb 209 9223372036854776290) [48, 40] (s1 := ⟨.bot :: .c (.sl (more2.map c5)) :: bt 3 (.pt 40 0 :: .pt 48 0 :: I y5.2.2 :: .c (.sl (y6.1.map c3)) :: bt 54 (Bo y6.2 :: bt 145 [])), [(48, .box [Ti y5.2.1.1, Ti y5.2.1.2.1, Ti y5.2.1.2.2]), (40, .box [Ti y5.1.1, Ti y5.1.2.1, Ti y5.1.2.2])]⟩) ?_ ?_
     ·refine L0 rfl rfl (E_move (Bo y6.2) rfl (by kernel_rfl)) ?_
      refine XL_nil ?_
      kernel_rfl
     refine V_cond rfl (fun hc13 => ?_) (fun hc13 => ?_)
     ·have h := of_true h hc13
      obtain ⟨y14, hy14, h⟩ := of_bind h
      refine V_sreg (mb 209 12770) [536, 48, 40] (s1 := ⟨.bot :: .c (.sl (more2.map c5)) :: bt 3 (.pt 40 0 :: .pt 48 0 :: I y5.2.2 :: .c (.sl (y6.1.map c3)) :: bt 3 (.ow 536 :: Bo y14.2 :: bt 195 [])), [(536, .arr 3 1 (y14.1.map c3)), (48, .box [Ti y5.2.1.1, Ti y5.2.1.2.1, Ti y5.2.1.2.2]), (40, .box [Ti y5.1.1, Ti y5.1.2.1, Ti y5.1.2.2])]⟩) ?_ ?_
      ·refine L0 rfl rfl (E_loadn (cs := [Ti y5.1.1, Ti y5.1.2.1, Ti y5.1.2.2]) [Ti y5.1.1, Ti y5.1.2.1, Ti y5.1.2.2] wd45 rfl (by kernel_rfl) (Nat.le_of_ble_eq_true rfl) (by kernel_rfl)) ?_
       refine L0 rfl rfl (E_move (I y5.2.2) rfl (by kernel_rfl)) ?_
       refine L1 rfl rfl (Y1_call (s_impl_ThetaSeries hy14) cf_impl_ThetaSeries rfl (by kernel_rfl)) ?_
       refine L0 rfl rfl (E_move (.tc (.ow 536) (.tc (Bo y14.2) .tn)) rfl (by kernel_rfl)) ?_
       refine L0 rfl rfl (E_ext (n := 0) (.ow 536) (.tc (Bo y14.2) .tn) (.ow 536) rfl (by kernel_rfl) (by kernel_rfl) (by intro hh; cases hh)) ?_
       refine L0 rfl rfl (E_ext (n := 1) (.ow 536) (.tc (Bo y14.2) .tn) (Bo y14.2) rfl (by kernel_rfl) (by kernel_rfl) (by intro hh; cases hh)) ?_
       refine L0 rfl rfl (E_assign (.ow 536) rfl (by kernel_rfl)) ?_
       refine L0 rfl rfl (E_assign (Bo y14.2) rfl (by kernel_rfl)) ?_
       refine XL_nil ?_
       kernel_rfl
      obtain ⟨y15, hy15, h⟩ := of_bind h
      refine V_sreg (mb 209 61794) [584, 536, 48, 40] (s1 := ⟨.bot :: .c (.sl (more2.map c5)) :: bt 3 (.pt 40 0 :: .pt 48 0 :: .bot :: .c (.sl (y6.1.map c3)) :: bt 3 (.ow 536 :: Bo y14.2 :: .ow 584 :: Bo y15.2 :: bt 193 [])), [(584, .arr 3 1 (y15.1.map c3)), (536, .arr 3 1 (y14.1.map c3)), (48, .box [Ti y5.2.1.1, Ti y5.2.1.2.1, Ti y5.2.1.2.2]), (40, .box [Ti y5.1.1, Ti y5.1.2.1, Ti y5.1.2.2])]⟩) ?_ ?_
      ·refine L0 rfl rfl (E_loadn (cs := [Ti y5.2.1.1, Ti y5.2.1.2.1, Ti y5.2.1.2.2]) [Ti y5.2.1.1, Ti y5.2.1.2.1, Ti y5.2.1.2.2] wd45 rfl (by kernel_rfl) (Nat.le_of_ble_eq_true rfl) (by kernel_rfl)) ?_
       refine L0 rfl rfl (E_move (I y5.2.2) rfl (by kernel_rfl)) ?_
       refine L1 rfl rfl (Y1_call (s_impl_ThetaSeries hy15) cf_impl_ThetaSeries rfl (by kernel_rfl)) ?_
       refine L0 rfl rfl (E_move (.tc (.ow 584) (.tc (Bo y15.2) .tn)) rfl (by kernel_rfl)) ?_
       refine L0 rfl rfl (E_ext (n := 0) (.ow 584) (.tc (Bo y15.2) .tn) (.ow 584) rfl (by kernel_rfl) (by kernel_rfl) (by intro hh; cases hh)) ?_
       refine L0 rfl rfl (E_ext (n := 1) (.ow 584) (.tc (Bo y15.2) .tn) (Bo y15.2) rfl (by kernel_rfl) (by kernel_rfl) (by intro hh; cases hh)) ?_
       refine L0 rfl rfl (E_assign (.ow 584) rfl (by kernel_rfl)) ?_
       refine L0 rfl rfl (E_assign (Bo y15.2) rfl (by kernel_rfl)) ?_
       refine XL_nil ?_
       kernel_rfl
      obtain ⟨y16, hy16, h⟩ := of_bind h
      refine V_sreg (mb 209 258402) [48, 40] (s1 := ⟨.bot :: .c (.sl (more2.map c5)) :: bt 3 (.pt 40 0 :: .pt 48 0 :: .bot :: .c (.sl (y6.1.map c3)) :: bt 3 (.c (.sl (y14.1.map c3)) :: Bo y14.2 :: .c (.sl (y15.1.map c3)) :: Bo y15.2 :: .c (.sl (y16.1.map c3)) :: Bo y16.2 :: bt 191 [])), [(48, .box [Ti y5.2.1.1, Ti y5.2.1.2.1, Ti y5.2.1.2.2]), (40, .box [Ti y5.1.1, Ti y5.1.2.1, Ti y5.1.2.2])]⟩) ?_ ?_
      ·refine L0 rfl rfl (E_move (.ow 536) rfl (by kernel_rfl)) ?_
       refine L0 rfl rfl (E_move (.ow 584) rfl (by kernel_rfl)) ?_
       refine XL_freeze 536 (T := 3) (sz := 1) (els := y14.1.map c3) (s1 := ⟨.bot :: .c (.sl (more2.map c5)) :: bt 3 (.pt 40 0 :: .pt 48 0 :: .bot :: .c (.sl (y6.1.map c3)) :: bt 3 (.c (.sl (y14.1.map c3)) :: Bo y14.2 :: .ow 584 :: Bo y15.2 :: bt 61 (.c (.sl (y14.1.map c3)) :: .ow 584 :: bt 130 []))), [(584, .arr 3 1 (y15.1.map c3)), (48, .box [Ti y5.2.1.1, Ti y5.2.1.2.1, Ti y5.2.1.2.2]), (40, .box [Ti y5.1.1, Ti y5.1.2.1, Ti y5.1.2.2])]⟩) (by kernel_rfl) (by kernel_rfl) ?_
       refine XL_freeze 584 (T := 3) (sz := 1) (els := y15.1.map c3) (s1 := ⟨.bot :: .c (.sl (more2.map c5)) :: bt 3 (.pt 40 0 :: .pt 48 0 :: .bot :: .c (.sl (y6.1.map c3)) :: bt 3 (.c (.sl (y14.1.map c3)) :: Bo y14.2 :: .c (.sl (y15.1.map c3)) :: Bo y15.2 :: bt 61 (.c (.sl (y14.1.map c3)) :: .c (.sl (y15.1.map c3)) :: bt 130 []))), [(48, .box [Ti y5.2.1.1, Ti y5.2.1.2.1, Ti y5.2.1.2.2]), (40, .box [Ti y5.1.1, Ti y5.1.2.1, Ti y5.1.2.2])]⟩) (by kernel_rfl) (by kernel_rfl) ?_
       refine L1 rfl rfl (Y1_call (s_impl_SeriesProduct hy16) cf_impl_SeriesProduct rfl (by kernel_rfl)) ?_
       refine L0 rfl rfl (E_move (.tc (.c (.sl (y16.1.map c3))) (.tc (Bo y16.2) .tn)) rfl (by kernel_rfl)) ?_
       refine L0 rfl rfl (E_ext (n := 0) (.c (.sl (y16.1.map c3))) (.tc (Bo y16.2) .tn) (.c (.sl (y16.1.map c3))) rfl (by kernel_rfl) (by kernel_rfl) (by intro hh; cases hh)) ?_
       refine L0 rfl rfl (E_ext (n := 1) (.c (.sl (y16.1.map c3))) (.tc (Bo y16.2) .tn) (Bo y16.2) rfl (by kernel_rfl) (by kernel_rfl) (by intro hh; cases hh)) ?_
       refine L0 rfl rfl (E_assign (.c (.sl (y16.1.map c3))) rfl (by kernel_rfl)) ?_
       refine L0 rfl rfl (E_assign (Bo y16.2) rfl (by kernel_rfl)) ?_
       refine XL_nil ?_
       kernel_rfl
      refine V_seq ?_
      obtain ⟨b21, hb21, h⟩ := of_bind h
      refine V_sreg (mb 209 158456325028528675187087921250) [48, 40] (s1 := ⟨.bot :: .c (.sl (more2.map c5)) :: bt 3 (.pt 40 0 :: .pt 48 0 :: bt 5 (.c (.sl (y14.1.map c3)) :: .bot :: .c (.sl (y15.1.map c3)) :: bt 82 (Bo b21 :: bt 111 []))), [(48, .box [Ti y5.2.1.1, Ti y5.2.1.2.1, Ti y5.2.1.2.2]), (40, .box [Ti y5.1.1, Ti y5.1.2.1, Ti y5.1.2.2])]⟩) ?_ ?_
      ·refine L0 rfl rfl (E_move (Bo y14.2) rfl (by kernel_rfl)) ?_
       refine L0 rfl rfl (Y0_not (b := y14.2) rfl (by kernel_rfl)) ?_
       refine L0 rfl rfl (E_move (Bo (!y14.2)) rfl (by kernel_rfl)) ?_
       refine XL_split (!y14.2) (fun hc17 => ?_) (fun hc17 => ?_)
       ·refine XL_skipF _ rfl rfl (by kernel_rfl) hc17 rfl ?_
        refine XL_skipF _ rfl rfl (by kernel_rfl) hc17 rfl ?_
        refine XL_cons rfl (X_of_Y0 rfl (Y0_pick1 (b := !y14.2) (p := true) (q := !y15.2) rfl (by kernel_rfl) hc17 (by kernel_rfl))) ?_
        refine L0 rfl rfl (E_move (Bo (bif (!y14.2) then true else (!y15.2))) rfl (by kernel_rfl)) ?_
        refine XL_split (bif (!y14.2) then true else (!y15.2)) (fun hc18 => ?_) (fun hc18 => ?_)
        ·refine XL_skipF _ rfl rfl (by kernel_rfl) hc18 rfl ?_
         refine XL_skipF _ rfl rfl (by kernel_rfl) hc18 rfl ?_
         refine XL_cons rfl (X_of_Y0 rfl (Y0_pick1 (b := bif (!y14.2) then true else (!y15.2)) (p := true) (q := !y16.2) rfl (by kernel_rfl) hc18 (by kernel_rfl))) ?_
         refine L0 rfl rfl (E_move (Bo (bif (bif (!y14.2) then true else (!y15.2)) then true else (!y16.2))) rfl (by kernel_rfl)) ?_
         refine XL_split (bif (bif (!y14.2) then true else (!y15.2)) then true else (!y16.2)) (fun hc19 => ?_) (fun hc19 => ?_)
         ·have hb21 := some_inj (of_true hb21 hc19)
          refine XL_skipF _ rfl rfl (by kernel_rfl) hc19 rfl ?_
          refine XL_skipF _ rfl rfl (by kernel_rfl) hc19 rfl ?_
          refine XL_skipF _ rfl rfl (by kernel_rfl) hc19 rfl ?_
          refine XL_skipF _ rfl rfl (by kernel_rfl) hc19 rfl ?_
          refine XL_cons rfl (X_of_Y0 rfl (Y0_pickTe (b := bif (bif (!y14.2) then true else (!y15.2)) then true else (!y16.2)) (p := true) rfl (by kernel_rfl) hc19 (by kernel_rfl) hb21)) ?_
          refine XL_nil ?_
          kernel_rfl
         ·have hb21 := of_false hb21 hc19
          obtain ⟨y20, hy20, hb21⟩ := of_bind hb21
          have hb21 := some_inj hb21
          refine XL_takeC _ rfl rfl (by kernel_rfl) hc19 (X_of_Y0 rfl (E_move (.c (.sl (y16.1.map c3))) rfl (by kernel_rfl))) ?_
          refine XL_takeC _ rfl rfl (by kernel_rfl) hc19 (X_of_Y0 rfl (E_move (.c (.sl (y6.1.map c3))) rfl (by kernel_rfl))) ?_
          refine XL_takeC _ rfl rfl (by kernel_rfl) hc19 (X_of_Y1 rfl (Y1_call (s_laws_sameInts hy20) cf_laws_sameInts rfl (by kernel_rfl))) ?_
          refine XL_takeC _ rfl rfl (by kernel_rfl) hc19 (X_of_Y0 rfl (Y0_not (b := y20) rfl (by kernel_rfl))) ?_
          refine XL_cons rfl (X_of_Y0 rfl (Y0_pickFe (b := bif (bif (!y14.2) then true else (!y15.2)) then true else (!y16.2)) (p := !y20) rfl (by kernel_rfl) hc19 (by kernel_rfl) hb21)) ?_
          refine XL_nil ?_
          kernel_rfl
        ·refine XL_takeC _ rfl rfl (by kernel_rfl) hc18 (X_of_Y0 rfl (E_move (Bo y16.2) rfl (by kernel_rfl))) ?_
         refine XL_takeC _ rfl rfl (by kernel_rfl) hc18 (X_of_Y0 rfl (Y0_not (b := y16.2) rfl (by kernel_rfl))) ?_
         refine XL_cons rfl (X_of_Y0 rfl (Y0_pick0 (b := bif (!y14.2) then true else (!y15.2)) (p := true) (q := !y16.2) rfl (by kernel_rfl) hc18 (by kernel_rfl))) ?_
         refine L0 rfl rfl (E_move (Bo (bif (bif (!y14.2) then true else (!y15.2)) then true else (!y16.2))) rfl (by kernel_rfl)) ?_
         refine XL_split (bif (bif (!y14.2) then true else (!y15.2)) then true else (!y16.2)) (fun hc19 => ?_) (fun hc19 => ?_)
         ·have hb21 := some_inj (of_true hb21 hc19)
          refine XL_skipF _ rfl rfl (by kernel_rfl) hc19 rfl ?_
          refine XL_skipF _ rfl rfl (by kernel_rfl) hc19 rfl ?_
          refine XL_skipF _ rfl rfl (by kernel_rfl) hc19 rfl ?_
          refine XL_skipF _ rfl rfl (by kernel_rfl) hc19 rfl ?_
          refine XL_cons rfl (X_of_Y0 rfl (Y0_pickTe (b := bif (bif (!y14.2) then true else (!y15.2)) then true else (!y16.2)) (p := true) rfl (by kernel_rfl) hc19 (by kernel_rfl) hb21)) ?_
          refine XL_nil ?_
          kernel_rfl
         ·have hb21 := of_false hb21 hc19
          obtain ⟨y20, hy20, hb21⟩ := of_bind hb21
          have hb21 := some_inj hb21
          refine XL_takeC _ rfl rfl (by kernel_rfl) hc19 (X_of_Y0 rfl (E_move (.c (.sl (y16.1.map c3))) rfl (by kernel_rfl))) ?_
          refine XL_takeC _ rfl rfl (by kernel_rfl) hc19 (X_of_Y0 rfl (E_move (.c (.sl (y6.1.map c3))) rfl (by kernel_rfl))) ?_
          refine XL_takeC _ rfl rfl (by kernel_rfl) hc19 (X_of_Y1 rfl (Y1_call (s_laws_sameInts hy20) cf_laws_sameInts rfl (by kernel_rfl))) ?_
          refine XL_takeC _ rfl rfl (by kernel_rfl) hc19 (X_of_Y0 rfl (Y0_not (b := y20) rfl (by kernel_rfl))) ?_
          refine XL_cons rfl (X_of_Y0 rfl (Y0_pickFe (b := bif (bif (!y14.2) then true else (!y15.2)) then true else (!y16.2)) (p := !y20) rfl (by kernel_rfl) hc19 (by kernel_rfl) hb21)) ?_
          refine XL_nil ?_
          kernel_rfl
       ·refine XL_takeC _ rfl rfl (by kernel_rfl) hc17 (X_of_Y0 rfl (E_move (Bo y15.2) rfl (by kernel_rfl))) ?_
        refine XL_takeC _ rfl rfl (by kernel_rfl) hc17 (X_of_Y0 rfl (Y0_not (b := y15.2) rfl (by kernel_rfl))) ?_
        refine XL_cons rfl (X_of_Y0 rfl (Y0_pick0 (b := !y14.2) (p := true) (q := !y15.2) rfl (by kernel_rfl) hc17 (by kernel_rfl))) ?_
        refine L0 rfl rfl (E_move (Bo (bif (!y14.2) then true else (!y15.2))) rfl (by kernel_rfl)) ?_
        refine XL_split (bif (!y14.2) then true else (!y15.2)) (fun hc18 => ?_) (fun hc18 => ?_)
        ·refine XL_skipF _ rfl rfl (by kernel_rfl) hc18 rfl ?_
         refine XL_skipF _ rfl rfl (by kernel_rfl) hc18 rfl ?_
         refine XL_cons rfl (X_of_Y0 rfl (Y0_pick1 (b := bif (!y14.2) then true else (!y15.2)) (p := true) (q := !y16.2) rfl (by kernel_rfl) hc18 (by kernel_rfl))) ?_
         refine L0 rfl rfl (E_move (Bo (bif (bif (!y14.2) then true else (!y15.2)) then true else (!y16.2))) rfl (by kernel_rfl)) ?_
         refine XL_split (bif (bif (!y14.2) then true else (!y15.2)) then true else (!y16.2)) (fun hc19 => ?_) (fun hc19 => ?_)
         ·have hb21 := some_inj (of_true hb21 hc19)
          refine XL_skipF _ rfl rfl (by kernel_rfl) hc19 rfl ?_
          refine XL_skipF _ rfl rfl (by kernel_rfl) hc19 rfl ?_
          refine XL_skipF _ rfl rfl (by kernel_rfl) hc19 rfl ?_
          refine XL_skipF _ rfl rfl (by kernel_rfl) hc19 rfl ?_
          refine XL_cons rfl (X_of_Y0 rfl (Y0_pickTe (b := bif (bif (!y14.2) then true else (!y15.2)) then true else (!y16.2)) (p := true) rfl (by kernel_rfl) hc19 (by kernel_rfl) hb21)) ?_
          refine XL_nil ?_
          kernel_rfl
         ·have hb21 := of_false hb21 hc19
          obtain ⟨y20, hy20, hb21⟩ := of_bind hb21
          have hb21 := some_inj hb21
          refine XL_takeC _ rfl rfl (by kernel_rfl) hc19 (X_of_Y0 rfl (E_move (.c (.sl (y16.1.map c3))) rfl (by kernel_rfl))) ?_
          refine XL_takeC _ rfl rfl (by kernel_rfl) hc19 (X_of_Y0 rfl (E_move (.c (.sl (y6.1.map c3))) rfl (by kernel_rfl))) ?_
          refine XL_takeC _ rfl rfl (by kernel_rfl) hc19 (X_of_Y1 rfl (Y1_call (s_laws_sameInts hy20) cf_laws_sameInts rfl (by kernel_rfl))) ?_
          refine XL_takeC _ rfl rfl (by kernel_rfl) hc19 (X_of_Y0 rfl (Y0_not (b := y20) rfl (by kernel_rfl))) ?_
          refine XL_cons rfl (X_of_Y0 rfl (Y0_pickFe (b := bif (bif (!y14.2) then true else (!y15.2)) then true else (!y16.2)) (p := !y20) rfl (by kernel_rfl) hc19 (by kernel_rfl) hb21)) ?_
          refine XL_nil ?_
          kernel_rfl
        ·refine XL_takeC _ rfl rfl (by kernel_rfl) hc18 (X_of_Y0 rfl (E_move (Bo y16.2) rfl (by kernel_rfl))) ?_
         refine XL_takeC _ rfl rfl (by kernel_rfl) hc18 (X_of_Y0 rfl (Y0_not (b := y16.2) rfl (by kernel_rfl))) ?_
         refine XL_cons rfl (X_of_Y0 rfl (Y0_pick0 (b := bif (!y14.2) then true else (!y15.2)) (p := true) (q := !y16.2) rfl (by kernel_rfl) hc18 (by kernel_rfl))) ?_
         refine L0 rfl rfl (E_move (Bo (bif (bif (!y14.2) then true else (!y15.2)) then true else (!y16.2))) rfl (by kernel_rfl)) ?_
         refine XL_split (bif (bif (!y14.2) then true else (!y15.2)) then true else (!y16.2)) (fun hc19 => ?_) (fun hc19 => ?_)
         ·have hb21 := some_inj (of_true hb21 hc19)
          refine XL_skipF _ rfl rfl (by kernel_rfl) hc19 rfl ?_
          refine XL_skipF _ rfl rfl (by kernel_rfl) hc19 rfl ?_
          refine XL_skipF _ rfl rfl (by kernel_rfl) hc19 rfl ?_
          refine XL_skipF _ rfl rfl (by kernel_rfl) hc19 rfl ?_
          refine XL_cons rfl (X_of_Y0 rfl (Y0_pickTe (b := bif (bif (!y14.2) then true else (!y15.2)) then true else (!y16.2)) (p := true) rfl (by kernel_rfl) hc19 (by kernel_rfl) hb21)) ?_
          refine XL_nil ?_
          kernel_rfl
         ·have hb21 := of_false hb21 hc19
          obtain ⟨y20, hy20, hb21⟩ := of_bind hb21
          have hb21 := some_inj hb21
          refine XL_takeC _ rfl rfl (by kernel_rfl) hc19 (X_of_Y0 rfl (E_move (.c (.sl (y16.1.map c3))) rfl (by kernel_rfl))) ?_
          refine XL_takeC _ rfl rfl (by kernel_rfl) hc19 (X_of_Y0 rfl (E_move (.c (.sl (y6.1.map c3))) rfl (by kernel_rfl))) ?_
          refine XL_takeC _ rfl rfl (by kernel_rfl) hc19 (X_of_Y1 rfl (Y1_call (s_laws_sameInts hy20) cf_laws_sameInts rfl (by kernel_rfl))) ?_
          refine XL_takeC _ rfl rfl (by kernel_rfl) hc19 (X_of_Y0 rfl (Y0_not (b := y20) rfl (by kernel_rfl))) ?_
          refine XL_cons rfl (X_of_Y0 rfl (Y0_pickFe (b := bif (bif (!y14.2) then true else (!y15.2)) then true else (!y16.2)) (p := !y20) rfl (by kernel_rfl) hc19 (by kernel_rfl) hb21)) ?_
          refine XL_nil ?_
          kernel_rfl
      refine V_cond rfl (fun hc22 => ?_) (fun hc22 => ?_)
      ·have h := of_true h hc22
       refine V_sreg (mb 209 16) [] (s1 := ⟨bt 4 (Bo false :: bt 204 []), []⟩) ?_ ?_
       ·refine L0 rfl rfl (E_assign (Bo false) rfl (by kernel_rfl)) ?_
        refine XL_nil ?_
        kernel_rfl
       refine V_ret ?_
       obtain rfl := some_inj h
       have h := hko12
       obtain rfl := some_inj h
       show Post _ _ _ _ _
       exact ⟨.inr rfl, rfl, rfl, rfl⟩
      ·have h := of_false h hc22
       refine V_skip ?_
       show V _ _ _ _
       obtain ⟨y23, hy23, h⟩ := of_bind h
       refine V_sreg (mb 209 807010) [48, 40] (s1 := ⟨.bot :: .c (.sl (more2.map c5)) :: bt 3 (.pt 40 0 :: .pt 48 0 :: bt 5 (.c (.sl (y14.1.map c3)) :: .bot :: .c (.sl (y15.1.map c3)) :: bt 3 (I y23.1 :: Bo y23.2 :: bt 189 []))), [(48, .box [Ti y5.2.1.1, Ti y5.2.1.2.1, Ti y5.2.1.2.2]), (40, .box [Ti y5.1.1, Ti y5.1.2.1, Ti y5.1.2.2])]⟩) ?_ ?_
       ·refine L0 rfl rfl (E_loadn (cs := [Ti y5.1.1, Ti y5.1.2.1, Ti y5.1.2.2]) [Ti y5.1.1, Ti y5.1.2.1, Ti y5.1.2.2] wd45 rfl (by kernel_rfl) (Nat.le_of_ble_eq_true rfl) (by kernel_rfl)) ?_
        refine L0 rfl rfl (E_loadn (cs := [Ti y5.2.1.1, Ti y5.2.1.2.1, Ti y5.2.1.2.2]) [Ti y5.2.1.1, Ti y5.2.1.2.1, Ti y5.2.1.2.2] wd45 rfl (by kernel_rfl) (Nat.le_of_ble_eq_true rfl) (by kernel_rfl)) ?_
        refine L1 rfl rfl (Y1_call (s_impl_FirstDifference hy23) cf_impl_FirstDifference rfl (by kernel_rfl)) ?_
        refine L0 rfl rfl (E_move (.tc (I y23.1) (.tc (Bo y23.2) .tn)) rfl (by kernel_rfl)) ?_
        refine L0 rfl rfl (E_ext (n := 0) (I y23.1) (.tc (Bo y23.2) .tn) (I y23.1) rfl (by kernel_rfl) (by kernel_rfl) (by intro hh; cases hh)) ?_
        refine L0 rfl rfl (E_ext (n := 1) (I y23.1) (.tc (Bo y23.2) .tn) (Bo y23.2) rfl (by kernel_rfl) (by kernel_rfl) (by intro hh; cases hh)) ?_
        refine L0 rfl rfl (E_assign (I y23.1) rfl (by kernel_rfl)) ?_
        refine L0 rfl rfl (E_assign (Bo y23.2) rfl (by kernel_rfl)) ?_
        refine XL_nil ?_
        kernel_rfl
       obtain ⟨y24, hy24, h⟩ := of_bind h
       refine V_sreg (mb 209 3952642) [] (s1 := ⟨.bot :: .c (.sl (more2.map c5)) :: bt 10 (.c (.sl (y14.1.map c3)) :: .bot :: .c (.sl (y15.1.map c3)) :: bt 3 (I y23.1 :: Bo y23.2 :: I y24.1 :: Bo y24.2 :: bt 187 [])), []⟩) ?_ ?_
       ·refine L0 rfl rfl (E_loadn (cs := [Ti y5.1.1, Ti y5.1.2.1, Ti y5.1.2.2]) [Ti y5.1.1, Ti y5.1.2.1, Ti y5.1.2.2] wd45 rfl (by kernel_rfl) (Nat.le_of_ble_eq_true rfl) (by kernel_rfl)) ?_
        refine L0 rfl rfl (E_loadn (cs := [Ti y5.2.1.1, Ti y5.2.1.2.1, Ti y5.2.1.2.2]) [Ti y5.2.1.1, Ti y5.2.1.2.1, Ti y5.2.1.2.2] wd45 rfl (by kernel_rfl) (Nat.le_of_ble_eq_true rfl) (by kernel_rfl)) ?_
        refine L1 rfl rfl (Y1_call (s_spec_FirstDifference hy24) cf_spec_FirstDifference rfl (by kernel_rfl)) ?_
        refine L0 rfl rfl (E_move (.tc (I y24.1) (.tc (Bo y24.2) .tn)) rfl (by kernel_rfl)) ?_
        refine L0 rfl rfl (E_ext (n := 0) (I y24.1) (.tc (Bo y24.2) .tn) (I y24.1) rfl (by kernel_rfl) (by kernel_rfl) (by intro hh; cases hh)) ?_
        refine L0 rfl rfl (E_ext (n := 1) (I y24.1) (.tc (Bo y24.2) .tn) (Bo y24.2) rfl (by kernel_rfl) (by kernel_rfl) (by intro hh; cases hh)) ?_
        refine L0 rfl rfl (E_assign (I y24.1) rfl (by kernel_rfl)) ?_
        refine L0 rfl rfl (E_assign (Bo y24.2) rfl (by kernel_rfl)) ?_
        refine XL_nil ?_
        kernel_rfl
       refine V_seq ?_
       refine V_sreg (mb 209 166153499473114484112975882535849986) [] (s1 := ⟨.bot :: .c (.sl (more2.map c5)) :: bt 10 (.c (.sl (y14.1.map c3)) :: .bot :: .c (.sl (y15.1.map c3)) :: bt 3 (I y23.1 :: Bo y23.2 :: bt 97 (Bo (bif (y23.2 != y24.2) then true else (!eqI y23.1 y24.1)) :: bt 91 []))), []⟩) ?_ ?_
       ·refine L0 rfl rfl (E_move (Bo y23.2) rfl (by kernel_rfl)) ?_
        refine L0 rfl rfl (E_move (Bo y24.2) rfl (by kernel_rfl)) ?_
        refine L0 rfl rfl (Y0_neb (a := y23.2) (b := y24.2) Try.underlying4 rfl (by kernel_rfl) (by kernel_rfl)) ?_
        refine L0 rfl rfl (E_move (Bo (y23.2 != y24.2)) rfl (by kernel_rfl)) ?_
        refine XL_split (y23.2 != y24.2) (fun hc25 => ?_) (fun hc25 => ?_)
        ·refine XL_skipF _ rfl rfl (by kernel_rfl) hc25 rfl ?_
         refine XL_skipF _ rfl rfl (by kernel_rfl) hc25 rfl ?_
         refine XL_skipF _ rfl rfl (by kernel_rfl) hc25 rfl ?_
         refine XL_cons rfl (X_of_Y0 rfl (Y0_pick1 (b := y23.2 != y24.2) (p := true) (q := !eqI y23.1 y24.1) rfl (by kernel_rfl) hc25 (by kernel_rfl))) ?_
         refine XL_nil ?_
         kernel_rfl
        ·refine XL_takeC _ rfl rfl (by kernel_rfl) hc25 (X_of_Y0 rfl (E_move (I y23.1) rfl (by kernel_rfl))) ?_
         refine XL_takeC _ rfl rfl (by kernel_rfl) hc25 (X_of_Y0 rfl (E_move (I y24.1) rfl (by kernel_rfl))) ?_
         refine XL_takeC _ rfl rfl (by kernel_rfl) hc25 (X_of_Y0 rfl (Y0_new (k := .i64) (a := y23.1) (b := y24.1) rfl (by kernel_rfl) (by kernel_rfl))) ?_
         refine XL_cons rfl (X_of_Y0 rfl (Y0_pick0 (b := y23.2 != y24.2) (p := true) (q := !eqI y23.1 y24.1) rfl (by kernel_rfl) hc25 (by kernel_rfl))) ?_
         refine XL_nil ?_
         kernel_rfl
       refine V_cond rfl (fun hc26 => ?_) (fun hc26 => ?_)
       ·have h := of_true h hc26
        refine V_sreg (mb 209 16) [] (s1 := ⟨bt 4 (Bo false :: bt 204 []), []⟩) ?_ ?_
        ·refine L0 rfl rfl (E_assign (Bo false) rfl (by kernel_rfl)) ?_
         refine XL_nil ?_
         kernel_rfl
        refine V_ret ?_
        obtain rfl := some_inj h
        have h := hko12
        obtain rfl := some_inj h
        show Post _ _ _ _ _
        exact ⟨.inr rfl, rfl, rfl, rfl⟩
       ·have h := of_false h hc26
        refine V_skip ?_
        show V _ _ _ _
        refine V_sreg (mb 209 1993841993677373809355710590421323778) [] (s1 := ⟨.bot :: .c (.sl (more2.map c5)) :: bt 10 (.c (.sl (y14.1.map c3)) :: .bot :: .c (.sl (y15.1.map c3)) :: bt 3 (I y23.1 :: Bo y23.2 :: bt 99 (I ((y14.1.length : Int)) :: I 0 :: bt 88 []))), []⟩) ?_ ?_
        ·refine L0 rfl rfl (E_move (.c (.sl (y14.1.map c3))) rfl (by kernel_rfl)) ?_
         refine L0 rfl rfl (Y0_lenM (c := c3) (xs := y14.1) Try.underlying41 rfl (by kernel_rfl)) ?_
         refine L0 rfl rfl (E_move (I 0) rfl (by kernel_rfl)) ?_
         refine XL_nil ?_
         kernel_rfl
        obtain ⟨qo29, hLo29, hko29⟩ := of_bind h
        refine V_toS (q := qo29) (S := fun o29 => ⟨.bot :: .c (.sl (more2.map c5)) :: bt 207 [], []⟩) (mb 209 2) [] ?_ ?_
        ·refine V_block (V_loop (fun n s => ∃ (t27 : Int), s.keep (mb 209 1993841993677373809355710590421323778) [] = (⟨.bot :: .c (.sl (more2.map c5)) :: bt 10 (.c (.sl (y14.1.map c3)) :: .bot :: .c (.sl (y15.1.map c3)) :: bt 3 (I y23.1 :: Bo y23.2 :: bt 99 (I ((y14.1.length : Int)) :: I t27 :: bt 88 []))), []⟩ : St) ∧ r_laws_FnSeriesProducts_L28 more2 y14 y15 y23 n t27 = some qo29) FU ⟨_,  by rfl, hLo29⟩ ?_)
         clear hLo29
         rintro n s ⟨t27, hs, h⟩
         refine V_keep _ _ hs ?_
         clear hs
         cases n with
         | zero => cases h
         | succ n =>
          rw [r_laws_FnSeriesProducts_L28] at h
          refine V_sreg (mb 209 4652297985247205555163324710982012930) [] (s1 := ⟨.bot :: .c (.sl (more2.map c5)) :: bt 10 (.c (.sl (y14.1.map c3)) :: .bot :: .c (.sl (y15.1.map c3)) :: bt 3 (I y23.1 :: Bo y23.2 :: bt 99 (I ((y14.1.length : Int)) :: I t27 :: Bo (ltI t27 ((y14.1.length : Int))) :: bt 87 []))), []⟩) ?_ ?_
          ·refine L0 rfl rfl (Y0_ltw (k := .i64) (a := t27) (b := (y14.1.length : Int)) rfl (by kernel_rfl) (by kernel_rfl)) ?_
           refine XL_nil ?_
           kernel_rfl
          refine V_seq ?_
          refine V_cond rfl (fun hc30 => ?_) (fun hc30 => ?_)
          ·have h := of_true h hc30
           refine V_skip ?_
           show V _ _ _ _
           refine V_seq ?_
           refine V_block ?_
           refine V_sreg (mb 209 1993841993677373809355710590425518082) [] (s1 := ⟨.bot :: .c (.sl (more2.map c5)) :: bt 10 (.c (.sl (y14.1.map c3)) :: .bot :: .c (.sl (y15.1.map c3)) :: bt 3 (I y23.1 :: Bo y23.2 :: .bot :: .bot :: I t27 :: bt 96 (I ((y14.1.length : Int)) :: I t27 :: bt 88 []))), []⟩) ?_ ?_
           ·refine L0 rfl rfl (E_move (I t27) rfl (by kernel_rfl)) ?_
            refine L0 rfl rfl (E_assign (I t27) rfl (by kernel_rfl)) ?_
            refine XL_nil ?_
            kernel_rfl
           obtain ⟨e31, he31, h⟩ := of_bind h
           obtain ⟨e32, he32, h⟩ := of_bind h
           obtain ⟨b41, hb41, h⟩ := of_bind h
           refine V_sdreg [0, 0, 3, 7, 0, 0, 48, 112, 255, 511, 1023, 2047, 4095, 8191, 8191, 32767, 65535, 131071, 262143, 524287, 1048575, 2097151, 2097151, 8388607, 16777215, 33554431, 67108863, 67108863, 268435455, 536870911, 67108863, 67108863, 3288334335, 7583301631, 17179869183, 34359738367, 68719476735] 37 [[.z, .b, .z, .z, .b, .b, .b, .b, .z, .z, .z, .z, .z, .z, .z, .z, .z, .z, .z, .z, .z, .z, .z, .z, .z, .z, .z, .z, .z, .z, .z, .z, .z, .z, .z, .z, .z], [.b, .z, .z, .z, .b, .b, .b, .b, .z, .z, .z, .z, .z, .z, .z, .z, .z, .z, .z, .z, .z, .z, .z, .z, .z, .z, .z, .z, .z, .z, .z, .z, .z, .z, .z, .z, .z], [.a, .a, .z, .z, .b, .b, .b, .b, .z, .z, .z, .z, .z, .z, .z, .z, .z, .z, .z, .z, .z, .z, .z, .z, .z, .z, .z, .z, .z, .z, .z, .z, .z, .z, .z, .z, .z], [.a, .a, .a, .z, .b, .b, .b, .b, .z, .z, .z, .z, .z, .z, .z, .z, .z, .z, .z, .z, .z, .z, .z, .z, .z, .z, .z, .z, .z, .z, .z, .z, .z, .z, .z, .z, .z], [.b, .b, .b, .b, .z, .b, .z, .z, .z, .z, .z, .z, .z, .z, .z, .z, .z, .z, .z, .z, .z, .z, .z, .z, .z, .z, .z, .z, .z, .z, .z, .z, .z, .z, .z, .z, .z], [.b, .b, .b, .b, .b, .z, .z, .z, .z, .z, .z, .z, .z, .z, .z, .z, .z, .z, .z, .z, .z, .z, .z, .z, .z, .z, .z, .z, .z, .z, .z, .z, .z, .z, .z, .z, .z], [.b, .b, .b, .b, .a, .a, .z, .z, .z, .z, .z, .z, .z, .z, .z, .z, .z, .z, .z, .z, .z, .z, .z, .z, .z, .z, .z, .z, .z, .z, .z, .z, .z, .z, .z, .z, .z], [.b, .b, .b, .b, .a, .a, .a, .z, .z, .z, .z, .z, .z, .z, .z, .z, .z, .z, .z, .z, .z, .z, .z, .z, .z, .z, .z, .z, .z, .z, .z, .z, .z, .z, .z, .z, .z], [.a, .a, .a, .a, .a, .a, .a, .a, .z, .z, .z, .z, .z, .z, .z, .z, .z, .z, .z, .z, .z, .z, .z, .z, .z, .z, .z, .z, .z, .z, .z, .z, .z, .z, .z, .z, .z], [.a, .a, .a, .a, .a, .a, .a, .a, .a, .z, .z, .z, .z, .z, .z, .z, .z, .z, .z, .z, .z, .z, .z, .z, .z, .z, .z, .z, .z, .z, .z, .z, .z, .z, .z, .z, .z], [.a, .a, .a, .a, .a, .a, .a, .a, .a, .a, .z, .z, .z, .z, .z, .z, .z, .z, .z, .z, .z, .z, .z, .z, .z, .z, .z, .z, .z, .z, .z, .z, .z, .z, .z, .z, .z], [.a, .a, .a, .a, .a, .a, .a, .a, .a, .a, .a, .z, .z, .z, .z, .z, .z, .z, .z, .z, .z, .z, .z, .z, .z, .z, .z, .z, .z, .z, .z, .z, .z, .z, .z, .z, .z], [.a, .a, .a, .a, .a, .a, .a, .a, .a, .a, .a, .a, .z, .z, .z, .z, .z, .z, .z, .z, .z, .z, .z, .z, .z, .z, .z, .z, .z, .z, .z, .z, .z, .z, .z, .z, .z], [.a, .a, .a, .a, .a, .a, .a, .a, .a, .a, .a, .a, .a, .z, .b, .z, .z, .z, .z, .z, .z, .z, .z, .z, .z, .z, .z, .z, .z, .z, .z, .z, .z, .z, .z, .z, .z], [.a, .a, .a, .a, .a, .a, .a, .a, .a, .a, .a, .a, .a, .b, .z, .z, .z, .z, .z, .z, .z, .z, .z, .z, .z, .z, .z, .z, .z, .z, .z, .z, .z, .z, .z, .z, .z], [.a, .a, .a, .a, .a, .a, .a, .a, .a, .a, .a, .a, .a, .a, .a, .z, .z, .z, .z, .z, .z, .z, .z, .z, .z, .z, .z, .z, .z, .z, .z, .z, .z, .z, .z, .z, .z], [.a, .a, .a, .a, .a, .a, .a, .a, .a, .a, .a, .a, .a, .a, .a, .a, .z, .z, .z, .z, .z, .z, .z, .z, .z, .z, .z, .z, .z, .z, .z, .z, .z, .z, .z, .z, .z], [.a, .a, .a, .a, .a, .a, .a, .a, .a, .a, .a, .a, .a, .a, .a, .a, .a, .z, .z, .z, .z, .z, .z, .z, .z, .z, .z, .z, .z, .z, .z, .z, .z, .z, .z, .z, .z], [.a, .a, .a, .a, .a, .a, .a, .a, .a, .a, .a, .a, .a, .a, .a, .a, .a, .a, .z, .z, .z, .z, .z, .z, .z, .z, .z, .z, .z, .z, .z, .z, .z, .z, .z, .z, .z], [.a, .a, .a, .a, .a, .a, .a, .a, .a, .a, .a, .a, .a, .a, .a, .a, .a, .a, .a, .z, .z, .z, .z, .z, .z, .z, .z, .z, .z, .z, .z, .z, .z, .z, .z, .z, .z], [.a, .a, .a, .a, .a, .a, .a, .a, .a, .a, .a, .a, .a, .a, .a, .a, .a, .a, .a, .a, .z, .z, .z, .z, .z, .z, .z, .z, .z, .z, .z, .z, .z, .z, .z, .z, .z], [.a, .a, .a, .a, .a, .a, .a, .a, .a, .a, .a, .a, .a, .a, .a, .a, .a, .a, .a, .a, .a, .z, .b, .z, .z, .z, .z, .z, .z, .z, .z, .z, .z, .z, .z, .z, .z], [.a, .a, .a, .a, .a, .a, .a, .a, .a, .a, .a, .a, .a, .a, .a, .a, .a, .a, .a, .a, .a, .b, .z, .z, .z, .z, .z, .z, .z, .z, .z, .z, .z, .z, .z, .z, .z], [.a, .a, .a, .a, .a, .a, .a, .a, .a, .a, .a, .a, .a, .a, .a, .a, .a, .a, .a, .a, .a, .a, .a, .z, .z, .z, .z, .z, .z, .z, .z, .z, .z, .z, .z, .z, .z], [.a, .a, .a, .a, .a, .a, .a, .a, .a, .a, .a, .a, .a, .a, .a, .a, .a, .a, .a, .a, .a, .a, .a, .a, .z, .z, .z, .z, .z, .z, .z, .z, .z, .z, .z, .z, .z], [.a, .a, .a, .a, .a, .a, .a, .a, .a, .a, .a, .a, .a, .a, .a, .a, .a, .a, .a, .a, .a, .a, .a, .a, .a, .z, .z, .z, .z, .z, .z, .z, .z, .z, .z, .z, .z], [.a, .a, .a, .a, .a, .a, .a, .a, .a, .a, .a, .a, .a, .a, .a, .a, .a, .a, .a, .a, .a, .a, .a, .a, .a, .a, .z, .b, .z, .z, .b, .b, .b, .b, .z, .z, .z], [.a, .a, .a, .a, .a, .a, .a, .a, .a, .a, .a, .a, .a, .a, .a, .a, .a, .a, .a, .a, .a, .a, .a, .a, .a, .a, .b, .z, .z, .z, .b, .b, .b, .b, .z, .z, .z], [.a, .a, .a, .a, .a, .a, .a, .a, .a, .a, .a, .a, .a, .a, .a, .a, .a, .a, .a, .a, .a, .a, .a, .a, .a, .a, .a, .a, .z, .z, .b, .b, .b, .b, .z, .z, .z], [.a, .a, .a, .a, .a, .a, .a, .a, .a, .a, .a, .a, .a, .a, .a, .a, .a, .a, .a, .a, .a, .a, .a, .a, .a, .a, .a, .a, .a, .z, .b, .b, .b, .b, .z, .z, .z], [.a, .a, .a, .a, .a, .a, .a, .a, .a, .a, .a, .a, .a, .a, .a, .a, .a, .a, .a, .a, .a, .a, .a, .a, .a, .a, .b, .b, .b, .b, .z, .b, .z, .z, .z, .z, .z], [.a, .a, .a, .a, .a, .a, .a, .a, .a, .a, .a, .a, .a, .a, .a, .a, .a, .a, .a, .a, .a, .a, .a, .a, .a, .a, .b, .b, .b, .b, .b, .z, .z, .z, .z, .z, .z], [.a, .a, .a, .a, .a, .a, .a, .a, .a, .a, .a, .a, .a, .a, .a, .a, .a, .a, .a, .a, .a, .a, .a, .a, .a, .a, .b, .b, .b, .b, .a, .a, .z, .z, .z, .z, .z], [.a, .a, .a, .a, .a, .a, .a, .a, .a, .a, .a, .a, .a, .a, .a, .a, .a, .a, .a, .a, .a, .a, .a, .a, .a, .a, .b, .b, .b, .b, .a, .a, .a, .z, .z, .z, .z], [.a, .a, .a, .a, .a, .a, .a, .a, .a, .a, .a, .a, .a, .a, .a, .a, .a, .a, .a, .a, .a, .a, .a, .a, .a, .a, .a, .a, .a, .a, .a, .a, .a, .a, .z, .z, .z], [.a, .a, .a, .a, .a, .a, .a, .a, .a, .a, .a, .a, .a, .a, .a, .a, .a, .a, .a, .a, .a, .a, .a, .a, .a, .a, .a, .a, .a, .a, .a, .a, .a, .a, .a, .z, .z], [.a, .a, .a, .a, .a, .a, .a, .a, .a, .a, .a, .a, .a, .a, .a, .a, .a, .a, .a, .a, .a, .a, .a, .a, .a, .a, .a, .a, .a, .a, .a, .a, .a, .a, .a, .a, .z]] (mb 209 730750818667445301095519790167497220418387595266) [] (s1 := ⟨.bot :: .c (.sl (more2.map c5)) :: bt 10 (.c (.sl (y14.1.map c3)) :: .bot :: .c (.sl (y15.1.map c3)) :: bt 3 (I y23.1 :: Bo y23.2 :: bt 99 (I ((y14.1.length : Int)) :: I t27 :: bt 38 (Bo b41 :: bt 49 [])))), []⟩) (by kernel_rfl) (by kernel_rfl) ?_ ?_
           ·refine DE_0 0 (.c (.sl (y14.1.map c3))) (by kernel_rfl) rfl rfl rfl (gsat_none rfl) (by kernel_rfl) (E_move (.c (.sl (y14.1.map c3))) rfl (by kernel_rfl)) 123 rfl ?_
            refine DE_0 1 (I t27) (by kernel_rfl) rfl rfl rfl (gsat_none rfl) (by kernel_rfl) (E_move (I t27) rfl (by kernel_rfl)) 124 rfl ?_
            refine DE_0 2 (.pe [Ti e31]) (by kernel_rfl) rfl rfl rfl (gsat_none rfl) (by kernel_rfl) (Y0_idxM (c := c3) (xs := y14.1) (v := e31) (n := t27) Try.underlying41 sz3 rfl (by kernel_rfl) (by kernel_rfl) he31) 125 rfl ?_
            refine DE_0 3 (I e31) (by kernel_rfl) rfl rfl rfl (gsat_none rfl) (by kernel_rfl) (Y0_load1 (c := Ti e31) (cs := []) sc3 rfl (by kernel_rfl)) 126 rfl ?_
            refine DE_0 4 (.c (.sl (y15.1.map c3))) (by kernel_rfl) rfl rfl rfl (gsat_none rfl) (by kernel_rfl) (E_move (.c (.sl (y15.1.map c3))) rfl (by kernel_rfl)) 127 rfl ?_
            refine DE_0 5 (I t27) (by kernel_rfl) rfl rfl rfl (gsat_none rfl) (by kernel_rfl) (E_move (I t27) rfl (by kernel_rfl)) 128 rfl ?_
            refine DE_0 6 (.pe [Ti e32]) (by kernel_rfl) rfl rfl rfl (gsat_none rfl) (by kernel_rfl) (Y0_idxM (c := c3) (xs := y15.1) (v := e32) (n := t27) Try.underlying41 sz3 rfl (by kernel_rfl) (by kernel_rfl) he32) 129 rfl ?_
            refine DE_0 7 (I e32) (by kernel_rfl) rfl rfl rfl (gsat_none rfl) (by kernel_rfl) (Y0_load1 (c := Ti e32) (cs := []) sc3 rfl (by kernel_rfl)) 130 rfl ?_
            refine DE_0 8 (Bo (!eqI e31 e32)) (by kernel_rfl) rfl rfl rfl (gsat_none rfl) (by kernel_rfl) (Y0_new (k := .i64) (a := e31) (b := e32) rfl (by kernel_rfl) (by kernel_rfl)) 131 rfl ?_
            refine DE_0 9 (Bo (!eqI e31 e32)) (by kernel_rfl) rfl rfl rfl (gsat_none rfl) (by kernel_rfl) (E_move (Bo (!eqI e31 e32)) rfl (by kernel_rfl)) 132 rfl ?_
            refine DL_split (!eqI e31 e32) (fun hc33 => ?_) (fun hc33 => ?_)
            ·refine DE_0 10 (Bo y23.2) (by kernel_rfl) rfl rfl rfl (gsat_C (!eqI e31 e32) rfl rfl (by kernel_rfl) hc33) (by kernel_rfl) (E_move (Bo y23.2) rfl (by kernel_rfl)) 133 rfl ?_
             refine DE_0 11 (Bo (!y23.2)) (by kernel_rfl) rfl rfl rfl (gsat_C (!eqI e31 e32) rfl rfl (by kernel_rfl) hc33) (by kernel_rfl) (Y0_not (b := y23.2) rfl (by kernel_rfl)) 134 rfl ?_
             refine DE_0 12 (Bo (!y23.2)) (by kernel_rfl) rfl rfl rfl (gsat_C (!eqI e31 e32) rfl rfl (by kernel_rfl) hc33) (by kernel_rfl) (E_move (Bo (!y23.2)) rfl (by kernel_rfl)) 135 rfl ?_
             refine DL_split (!y23.2) (fun hc34 => ?_) (fun hc34 => ?_)
             ·refine DE_t 13 (by kernel_rfl) rfl rfl rfl (gun_F (!y23.2) rfl rfl (by kernel_rfl) hc34) 136 rfl ?_
              refine DE_t 14 (by kernel_rfl) rfl rfl rfl (gun_F (!y23.2) rfl rfl (by kernel_rfl) hc34) 137 rfl ?_
              refine DE_t 15 (by kernel_rfl) rfl rfl rfl (gun_F (!y23.2) rfl rfl (by kernel_rfl) hc34) 138 rfl ?_
              refine DE_0 16 (Bo (bif (!y23.2) then true else (ltI t27 y23.1))) (by kernel_rfl) rfl rfl rfl (gsat_C (!eqI e31 e32) rfl rfl (by kernel_rfl) hc33) (by kernel_rfl) (Y0_pick1 (b := !y23.2) (p := true) (q := ltI t27 y23.1) rfl (by kernel_rfl) hc34 (by kernel_rfl)) 139 rfl ?_
              refine DE_0 17 (Bo (bif (!eqI e31 e32) then (bif (!y23.2) then true else (ltI t27 y23.1)) else false)) (by kernel_rfl) rfl rfl rfl (gsat_none rfl) (by kernel_rfl) (Y0_pick1 (b := !eqI e31 e32) (p := bif (!y23.2) then true else (ltI t27 y23.1)) (q := false) rfl (by kernel_rfl) hc33 (by kernel_rfl)) 140 rfl ?_
              refine DE_0 18 (Bo (bif (!eqI e31 e32) then (bif (!y23.2) then true else (ltI t27 y23.1)) else false)) (by kernel_rfl) rfl rfl rfl (gsat_none rfl) (by kernel_rfl) (E_move (Bo (bif (!eqI e31 e32) then (bif (!y23.2) then true else (ltI t27 y23.1)) else false)) rfl (by kernel_rfl)) 141 rfl ?_
              refine DL_split (bif (!eqI e31 e32) then (bif (!y23.2) then true else (ltI t27 y23.1)) else false) (fun hc35 => ?_) (fun hc35 => ?_)
              ·have hb41 := some_inj (of_true hb41 hc35)
               refine DE_t 19 (by kernel_rfl) rfl rfl rfl (gun_F (bif (!eqI e31 e32) then (bif (!y23.2) then true else (ltI t27 y23.1)) else false) rfl rfl (by kernel_rfl) hc35) 142 rfl ?_
               refine DE_t 20 (by kernel_rfl) rfl rfl rfl (gun_F (bif (!eqI e31 e32) then (bif (!y23.2) then true else (ltI t27 y23.1)) else false) rfl rfl (by kernel_rfl) hc35) 143 rfl ?_
               refine DE_t 21 (by kernel_rfl) rfl rfl rfl (gun_tn rfl rfl (by kernel_rfl)) 144 rfl ?_
               refine DE_t 22 (by kernel_rfl) rfl rfl rfl (gun_tn rfl rfl (by kernel_rfl)) 145 rfl ?_
               refine DE_t 23 (by kernel_rfl) rfl rfl rfl (gun_tn rfl rfl (by kernel_rfl)) 146 rfl ?_
               refine DE_t 24 (by kernel_rfl) rfl rfl rfl (gun_F (bif (!eqI e31 e32) then (bif (!y23.2) then true else (ltI t27 y23.1)) else false) rfl rfl (by kernel_rfl) hc35) 147 rfl ?_
               refine DE_t 25 (by kernel_rfl) rfl rfl rfl (gun_F (bif (!eqI e31 e32) then (bif (!y23.2) then true else (ltI t27 y23.1)) else false) rfl rfl (by kernel_rfl) hc35) 148 rfl ?_
               refine DE_t 26 (by kernel_rfl) rfl rfl rfl (gun_tn rfl rfl (by kernel_rfl)) 149 rfl ?_
               refine DE_t 27 (by kernel_rfl) rfl rfl rfl (gun_tn rfl rfl (by kernel_rfl)) 150 rfl ?_
               refine DE_t 28 (by kernel_rfl) rfl rfl rfl (gun_tn rfl rfl (by kernel_rfl)) 151 rfl ?_
               refine DE_t 29 (by kernel_rfl) rfl rfl rfl (gun_tn rfl rfl (by kernel_rfl)) 152 rfl ?_
               refine DE_t 30 (by kernel_rfl) rfl rfl rfl (gun_tn rfl rfl (by kernel_rfl)) 153 rfl ?_
               refine DE_t 31 (by kernel_rfl) rfl rfl rfl (gun_tn rfl rfl (by kernel_rfl)) 154 rfl ?_
               refine DE_t 32 (by kernel_rfl) rfl rfl rfl (gun_tn rfl rfl (by kernel_rfl)) 155 rfl ?_
               refine DE_t 33 (by kernel_rfl) rfl rfl rfl (gun_tn rfl rfl (by kernel_rfl)) 156 rfl ?_
               refine DE_t 34 (by kernel_rfl) rfl rfl rfl (gun_tn rfl rfl (by kernel_rfl)) 157 rfl ?_
               refine DE_t 35 (by kernel_rfl) rfl rfl rfl (gun_F (bif (!eqI e31 e32) then (bif (!y23.2) then true else (ltI t27 y23.1)) else false) rfl rfl (by kernel_rfl) hc35) 158 rfl ?_
               refine DE_0 36 (Bo (b41)) (by kernel_rfl) rfl rfl rfl (gsat_none rfl) (by kernel_rfl) (Y0_pickTe (b := bif (!eqI e31 e32) then (bif (!y23.2) then true else (ltI t27 y23.1)) else false) (p := true) rfl (by kernel_rfl) hc35 (by kernel_rfl) hb41) 159 rfl ?_
               refine DL_nil (by kernel_rfl) ?_
               refine XL_nil ?_
               kernel_rfl
              ·have hb41 := of_false hb41 hc35
               obtain ⟨b40, hb40, hb41⟩ := of_bind hb41
               have hb41 := some_inj hb41
               refine DE_0 19 (Bo y23.2) (by kernel_rfl) rfl rfl rfl (gsat_C (bif (!eqI e31 e32) then (bif (!y23.2) then true else (ltI t27 y23.1)) else false) rfl rfl (by kernel_rfl) hc35) (by kernel_rfl) (E_move (Bo y23.2) rfl (by kernel_rfl)) 142 rfl ?_
               refine DE_0 20 (Bo y23.2) (by kernel_rfl) rfl rfl rfl (gsat_C (bif (!eqI e31 e32) then (bif (!y23.2) then true else (ltI t27 y23.1)) else false) rfl rfl (by kernel_rfl) hc35) (by kernel_rfl) (E_move (Bo y23.2) rfl (by kernel_rfl)) 143 rfl ?_
               refine DL_split y23.2 (fun hc36 => ?_) (fun hc36 => ?_)
               ·refine DE_0 21 (I t27) (by kernel_rfl) rfl rfl rfl (gsat_C (y23.2) rfl rfl (by kernel_rfl) hc36) (by kernel_rfl) (E_move (I t27) rfl (by kernel_rfl)) 144 rfl ?_
                refine DE_0 22 (I y23.1) (by kernel_rfl) rfl rfl rfl (gsat_C (y23.2) rfl rfl (by kernel_rfl) hc36) (by kernel_rfl) (E_move (I y23.1) rfl (by kernel_rfl)) 145 rfl ?_
                refine DE_0 23 (Bo (eqI t27 y23.1)) (by kernel_rfl) rfl rfl rfl (gsat_C (y23.2) rfl rfl (by kernel_rfl) hc36) (by kernel_rfl) (Y0_eqw (k := .i64) (a := t27) (b := y23.1) rfl (by kernel_rfl) (by kernel_rfl)) 146 rfl ?_
                refine DE_0 24 (Bo (bif y23.2 then (eqI t27 y23.1) else false)) (by kernel_rfl) rfl rfl rfl (gsat_C (bif (!eqI e31 e32) then (bif (!y23.2) then true else (ltI t27 y23.1)) else false) rfl rfl (by kernel_rfl) hc35) (by kernel_rfl) (Y0_pick1 (b := y23.2) (p := eqI t27 y23.1) (q := false) rfl (by kernel_rfl) hc36 (by kernel_rfl)) 147 rfl ?_
                refine DE_0 25 (Bo (bif y23.2 then (eqI t27 y23.1) else false)) (by kernel_rfl) rfl rfl rfl (gsat_C (bif (!eqI e31 e32) then (bif (!y23.2) then true else (ltI t27 y23.1)) else false) rfl rfl (by kernel_rfl) hc35) (by kernel_rfl) (E_move (Bo (bif y23.2 then (eqI t27 y23.1) else false)) rfl (by kernel_rfl)) 148 rfl ?_
                refine DL_split (bif y23.2 then (eqI t27 y23.1) else false) (fun hc37 => ?_) (fun hc37 => ?_)
                ·have hb40 := of_true hb40 hc37
                 obtain ⟨e38, he38, hb40⟩ := of_bind hb40
                 obtain ⟨e39, he39, hb40⟩ := of_bind hb40
                 have hb40 := some_inj hb40
                 refine DE_0 26 (.c (.sl (y14.1.map c3))) (by kernel_rfl) rfl rfl rfl (gsat_C (bif y23.2 then (eqI t27 y23.1) else false) rfl rfl (by kernel_rfl) hc37) (by kernel_rfl) (E_move (.c (.sl (y14.1.map c3))) rfl (by kernel_rfl)) 149 rfl ?_
                 refine DE_0 27 (I t27) (by kernel_rfl) rfl rfl rfl (gsat_C (bif y23.2 then (eqI t27 y23.1) else false) rfl rfl (by kernel_rfl) hc37) (by kernel_rfl) (E_move (I t27) rfl (by kernel_rfl)) 150 rfl ?_
                 refine DE_0 28 (.pe [Ti e38]) (by kernel_rfl) rfl rfl rfl (gsat_C (bif y23.2 then (eqI t27 y23.1) else false) rfl rfl (by kernel_rfl) hc37) (by kernel_rfl) (Y0_idxM (c := c3) (xs := y14.1) (v := e38) (n := t27) Try.underlying41 sz3 rfl (by kernel_rfl) (by kernel_rfl) he38) 151 rfl ?_
                 refine DE_0 29 (I e38) (by kernel_rfl) rfl rfl rfl (gsat_C (bif y23.2 then (eqI t27 y23.1) else false) rfl rfl (by kernel_rfl) hc37) (by kernel_rfl) (Y0_load1 (c := Ti e38) (cs := []) sc3 rfl (by kernel_rfl)) 152 rfl ?_
                 refine DE_0 30 (.c (.sl (y15.1.map c3))) (by kernel_rfl) rfl rfl rfl (gsat_C (bif y23.2 then (eqI t27 y23.1) else false) rfl rfl (by kernel_rfl) hc37) (by kernel_rfl) (E_move (.c (.sl (y15.1.map c3))) rfl (by kernel_rfl)) 153 rfl ?_
                 refine DE_0 31 (I t27) (by kernel_rfl) rfl rfl rfl (gsat_C (bif y23.2 then (eqI t27 y23.1) else false) rfl rfl (by kernel_rfl) hc37) (by kernel_rfl) (E_move (I t27) rfl (by kernel_rfl)) 154 rfl ?_
                 refine DE_0 32 (.pe [Ti e39]) (by kernel_rfl) rfl rfl rfl (gsat_C (bif y23.2 then (eqI t27 y23.1) else false) rfl rfl (by kernel_rfl) hc37) (by kernel_rfl) (Y0_idxM (c := c3) (xs := y15.1) (v := e39) (n := t27) Try.underlying41 sz3 rfl (by kernel_rfl) (by kernel_rfl) he39) 155 rfl ?_
                 refine DE_0 33 (I e39) (by kernel_rfl) rfl rfl rfl (gsat_C (bif y23.2 then (eqI t27 y23.1) else false) rfl rfl (by kernel_rfl) hc37) (by kernel_rfl) (Y0_load1 (c := Ti e39) (cs := []) sc3 rfl (by kernel_rfl)) 156 rfl ?_
                 refine DE_0 34 (Bo (eqI e38 e39)) (by kernel_rfl) rfl rfl rfl (gsat_C (bif y23.2 then (eqI t27 y23.1) else false) rfl rfl (by kernel_rfl) hc37) (by kernel_rfl) (Y0_eqw (k := .i64) (a := e38) (b := e39) rfl (by kernel_rfl) (by kernel_rfl)) 157 rfl ?_
                 refine DE_0 35 (Bo (b40)) (by kernel_rfl) rfl rfl rfl (gsat_C (bif (!eqI e31 e32) then (bif (!y23.2) then true else (ltI t27 y23.1)) else false) rfl rfl (by kernel_rfl) hc35) (by kernel_rfl) (Y0_pickTe (b := bif y23.2 then (eqI t27 y23.1) else false) (p := eqI e38 e39) rfl (by kernel_rfl) hc37 (by kernel_rfl) hb40) 158 rfl ?_
                 refine DE_0 36 (Bo (b41)) (by kernel_rfl) rfl rfl rfl (gsat_none rfl) (by kernel_rfl) (Y0_pickFe (b := bif (!eqI e31 e32) then (bif (!y23.2) then true else (ltI t27 y23.1)) else false) (p := b40) rfl (by kernel_rfl) hc35 (by kernel_rfl) hb41) 159 rfl ?_
                 refine DL_nil (by kernel_rfl) ?_
                 refine XL_nil ?_
                 kernel_rfl
                ·have hb40 := some_inj (of_false hb40 hc37)
                 refine DE_t 26 (by kernel_rfl) rfl rfl rfl (gun_T (bif y23.2 then (eqI t27 y23.1) else false) rfl rfl (by kernel_rfl) hc37) 149 rfl ?_
                 refine DE_t 27 (by kernel_rfl) rfl rfl rfl (gun_T (bif y23.2 then (eqI t27 y23.1) else false) rfl rfl (by kernel_rfl) hc37) 150 rfl ?_
                 refine DE_t 28 (by kernel_rfl) rfl rfl rfl (gun_T (bif y23.2 then (eqI t27 y23.1) else false) rfl rfl (by kernel_rfl) hc37) 151 rfl ?_
                 refine DE_t 29 (by kernel_rfl) rfl rfl rfl (gun_T (bif y23.2 then (eqI t27 y23.1) else false) rfl rfl (by kernel_rfl) hc37) 152 rfl ?_
                 refine DE_t 30 (by kernel_rfl) rfl rfl rfl (gun_T (bif y23.2 then (eqI t27 y23.1) else false) rfl rfl (by kernel_rfl) hc37) 153 rfl ?_
                 refine DE_t 31 (by kernel_rfl) rfl rfl rfl (gun_T (bif y23.2 then (eqI t27 y23.1) else false) rfl rfl (by kernel_rfl) hc37) 154 rfl ?_
                 refine DE_t 32 (by kernel_rfl) rfl rfl rfl (gun_T (bif y23.2 then (eqI t27 y23.1) else false) rfl rfl (by kernel_rfl) hc37) 155 rfl ?_
                 refine DE_t 33 (by kernel_rfl) rfl rfl rfl (gun_T (bif y23.2 then (eqI t27 y23.1) else false) rfl rfl (by kernel_rfl) hc37) 156 rfl ?_
                 refine DE_t 34 (by kernel_rfl) rfl rfl rfl (gun_T (bif y23.2 then (eqI t27 y23.1) else false) rfl rfl (by kernel_rfl) hc37) 157 rfl ?_
                 refine DE_0 35 (Bo (b40)) (by kernel_rfl) rfl rfl rfl (gsat_C (bif (!eqI e31 e32) then (bif (!y23.2) then true else (ltI t27 y23.1)) else false) rfl rfl (by kernel_rfl) hc35) (by kernel_rfl) (Y0_pickFe (b := bif y23.2 then (eqI t27 y23.1) else false) (p := false) rfl (by kernel_rfl) hc37 (by kernel_rfl) hb40) 158 rfl ?_
                 refine DE_0 36 (Bo (b41)) (by kernel_rfl) rfl rfl rfl (gsat_none rfl) (by kernel_rfl) (Y0_pickFe (b := bif (!eqI e31 e32) then (bif (!y23.2) then true else (ltI t27 y23.1)) else false) (p := b40) rfl (by kernel_rfl) hc35 (by kernel_rfl) hb41) 159 rfl ?_
                 refine DL_nil (by kernel_rfl) ?_
                 refine XL_nil ?_
                 kernel_rfl
               ·refine DE_t 21 (by kernel_rfl) rfl rfl rfl (gun_T (y23.2) rfl rfl (by kernel_rfl) hc36) 144 rfl ?_
                refine DE_t 22 (by kernel_rfl) rfl rfl rfl (gun_T (y23.2) rfl rfl (by kernel_rfl) hc36) 145 rfl ?_
                refine DE_t 23 (by kernel_rfl) rfl rfl rfl (gun_T (y23.2) rfl rfl (by kernel_rfl) hc36) 146 rfl ?_
                refine DE_0 24 (Bo (bif y23.2 then (eqI t27 y23.1) else false)) (by kernel_rfl) rfl rfl rfl (gsat_C (bif (!eqI e31 e32) then (bif (!y23.2) then true else (ltI t27 y23.1)) else false) rfl rfl (by kernel_rfl) hc35) (by kernel_rfl) (Y0_pick0 (b := y23.2) (p := eqI t27 y23.1) (q := false) rfl (by kernel_rfl) hc36 (by kernel_rfl)) 147 rfl ?_
                refine DE_0 25 (Bo (bif y23.2 then (eqI t27 y23.1) else false)) (by kernel_rfl) rfl rfl rfl (gsat_C (bif (!eqI e31 e32) then (bif (!y23.2) then true else (ltI t27 y23.1)) else false) rfl rfl (by kernel_rfl) hc35) (by kernel_rfl) (E_move (Bo (bif y23.2 then (eqI t27 y23.1) else false)) rfl (by kernel_rfl)) 148 rfl ?_
                refine DL_split (bif y23.2 then (eqI t27 y23.1) else false) (fun hc37 => ?_) (fun hc37 => ?_)
                ·have hb40 := of_true hb40 hc37
                 obtain ⟨e38, he38, hb40⟩ := of_bind hb40
                 obtain ⟨e39, he39, hb40⟩ := of_bind hb40
                 have hb40 := some_inj hb40
                 refine DE_0 26 (.c (.sl (y14.1.map c3))) (by kernel_rfl) rfl rfl rfl (gsat_C (bif y23.2 then (eqI t27 y23.1) else false) rfl rfl (by kernel_rfl) hc37) (by kernel_rfl) (E_move (.c (.sl (y14.1.map c3))) rfl (by kernel_rfl)) 149 rfl ?_
                 refine DE_0 27 (I t27) (by kernel_rfl) rfl rfl rfl (gsat_C (bif y23.2 then (eqI t27 y23.1) else false) rfl rfl (by kernel_rfl) hc37) (by kernel_rfl) (E_move (I t27) rfl (by kernel_rfl)) 150 rfl ?_
                 refine DE_0 28 (.pe [Ti e38]) (by kernel_rfl) rfl rfl rfl (gsat_C (bif y23.2 then (eqI t27 y23.1) else false) rfl rfl (by kernel_rfl) hc37) (by kernel_rfl) (Y0_idxM (c := c3) (xs := y14.1) (v := e38) (n := t27) Try.underlying41 sz3 rfl (by kernel_rfl) (by kernel_rfl) he38) 151 rfl ?_
                 refine DE_0 29 (I e38) (by kernel_rfl) rfl rfl rfl (gsat_C (bif y23.2 then (eqI t27 y23.1) else false) rfl rfl (by kernel_rfl) hc37) (by kernel_rfl) (Y0_load1 (c := Ti e38) (cs := []) sc3 rfl (by kernel_rfl)) 152 rfl ?_
                 refine DE_0 30 (.c (.sl (y15.1.map c3))) (by kernel_rfl) rfl rfl rfl (gsat_C (bif y23.2 then (eqI t27 y23.1) else false) rfl rfl (by kernel_rfl) hc37) (by kernel_rfl) (E_move (.c (.sl (y15.1.map c3))) rfl (by kernel_rfl)) 153 rfl ?_
                 refine DE_0 31 (I t27) (by kernel_rfl) rfl rfl rfl (gsat_C (bif y23.2 then (eqI t27 y23.1) else false) rfl rfl (by kernel_rfl) hc37) (by kernel_rfl) (E_move (I t27) rfl (by kernel_rfl)) 154 rfl ?_
                 refine DE_0 32 (.pe [Ti e39]) (by kernel_rfl) rfl rfl rfl (gsat_C (bif y23.2 then (eqI t27 y23.1) else false) rfl rfl (by kernel_rfl) hc37) (by kernel_rfl) (Y0_idxM (c := c3) (xs := y15.1) (v := e39) (n := t27) Try.underlying41 sz3 rfl (by kernel_rfl) (by kernel_rfl) he39) 155 rfl ?_
                 refine DE_0 33 (I e39) (by kernel_rfl) rfl rfl rfl (gsat_C (bif y23.2 then (eqI t27 y23.1) else false) rfl rfl (by kernel_rfl) hc37) (by kernel_rfl) (Y0_load1 (c := Ti e39) (cs := []) sc3 rfl (by kernel_rfl)) 156 rfl ?_
                 refine DE_0 34 (Bo (eqI e38 e39)) (by kernel_rfl) rfl rfl rfl (gsat_C (bif y23.2 then (eqI t27 y23.1) else false) rfl rfl (by kernel_rfl) hc37) (by kernel_rfl) (Y0_eqw (k := .i64) (a := e38) (b := e39) rfl (by kernel_rfl) (by kernel_rfl)) 157 rfl ?_
                 refine DE_0 35 (Bo (b40)) (by kernel_rfl) rfl rfl rfl (gsat_C (bif (!eqI e31 e32) then (bif (!y23.2) then true else (ltI t27 y23.1)) else false) rfl rfl (by kernel_rfl) hc35) (by kernel_rfl) (Y0_pickTe (b := bif y23.2 then (eqI t27 y23.1) else false) (p := eqI e38 e39) rfl (by kernel_rfl) hc37 (by kernel_rfl) hb40) 158 rfl ?_
                 refine DE_0 36 (Bo (b41)) (by kernel_rfl) rfl rfl rfl (gsat_none rfl) (by kernel_rfl) (Y0_pickFe (b := bif (!eqI e31 e32) then (bif (!y23.2) then true else (ltI t27 y23.1)) else false) (p := b40) rfl (by kernel_rfl) hc35 (by kernel_rfl) hb41) 159 rfl ?_
                 refine DL_nil (by kernel_rfl) ?_
                 refine XL_nil ?_
                 kernel_rfl
                ·have hb40 := some_inj (of_false hb40 hc37)
                 refine DE_t 26 (by kernel_rfl) rfl rfl rfl (gun_T (bif y23.2 then (eqI t27 y23.1) else false) rfl rfl (by kernel_rfl) hc37) 149 rfl ?_
                 refine DE_t 27 (by kernel_rfl) rfl rfl rfl (gun_T (bif y23.2 then (eqI t27 y23.1) else false) rfl rfl (by kernel_rfl) hc37) 150 rfl ?_
                 refine DE_t 28 (by kernel_rfl) rfl rfl rfl (gun_T (bif y23.2 then (eqI t27 y23.1) else false) rfl rfl (by kernel_rfl) hc37) 151 rfl ?_
                 refine DE_t 29 (by kernel_rfl) rfl rfl rfl (gun_T (bif y23.2 then (eqI t27 y23.1) else false) rfl rfl (by kernel_rfl) hc37) 152 rfl ?_
                 refine DE_t 30 (by kernel_rfl) rfl rfl rfl (gun_T (bif y23.2 then (eqI t27 y23.1) else false) rfl rfl (by kernel_rfl) hc37) 153 rfl ?_
                 refine DE_t 31 (by kernel_rfl) rfl rfl rfl (gun_T (bif y23.2 then (eqI t27 y23.1) else false) rfl rfl (by kernel_rfl) hc37) 154 rfl ?_
                 refine DE_t 32 (by kernel_rfl) rfl rfl rfl (gun_T (bif y23.2 then (eqI t27 y23.1) else false) rfl rfl (by kernel_rfl) hc37) 155 rfl ?_
                 refine DE_t 33 (by kernel_rfl) rfl rfl rfl (gun_T (bif y23.2 then (eqI t27 y23.1) else false) rfl rfl (by kernel_rfl) hc37) 156 rfl ?_
                 refine DE_t 34 (by kernel_rfl) rfl rfl rfl (gun_T (bif y23.2 then (eqI t27 y23.1) else false) rfl rfl (by kernel_rfl) hc37) 157 rfl ?_
                 refine DE_0 35 (Bo (b40)) (by kernel_rfl) rfl rfl rfl (gsat_C (bif (!eqI e31 e32) then (bif (!y23.2) then true else (ltI t27 y23.1)) else false) rfl rfl (by kernel_rfl) hc35) (by kernel_rfl) (Y0_pickFe (b := bif y23.2 then (eqI t27 y23.1) else false) (p := false) rfl (by kernel_rfl) hc37 (by kernel_rfl) hb40) 158 rfl ?_
                 refine DE_0 36 (Bo (b41)) (by kernel_rfl) rfl rfl rfl (gsat_none rfl) (by kernel_rfl) (Y0_pickFe (b := bif (!eqI e31 e32) then (bif (!y23.2) then true else (ltI t27 y23.1)) else false) (p := b40) rfl (by kernel_rfl) hc35 (by kernel_rfl) hb41) 159 rfl ?_
                 refine DL_nil (by kernel_rfl) ?_
                 refine XL_nil ?_
                 kernel_rfl
             ·refine DE_0 13 (I t27) (by kernel_rfl) rfl rfl rfl (gsat_C (!y23.2) rfl rfl (by kernel_rfl) hc34) (by kernel_rfl) (E_move (I t27) rfl (by kernel_rfl)) 136 rfl ?_
              refine DE_0 14 (I y23.1) (by kernel_rfl) rfl rfl rfl (gsat_C (!y23.2) rfl rfl (by kernel_rfl) hc34) (by kernel_rfl) (E_move (I y23.1) rfl (by kernel_rfl)) 137 rfl ?_
              refine DE_0 15 (Bo (ltI t27 y23.1)) (by kernel_rfl) rfl rfl rfl (gsat_C (!y23.2) rfl rfl (by kernel_rfl) hc34) (by kernel_rfl) (Y0_ltw (k := .i64) (a := t27) (b := y23.1) rfl (by kernel_rfl) (by kernel_rfl)) 138 rfl ?_
              refine DE_0 16 (Bo (bif (!y23.2) then true else (ltI t27 y23.1))) (by kernel_rfl) rfl rfl rfl (gsat_C (!eqI e31 e32) rfl rfl (by kernel_rfl) hc33) (by kernel_rfl) (Y0_pick0 (b := !y23.2) (p := true) (q := ltI t27 y23.1) rfl (by kernel_rfl) hc34 (by kernel_rfl)) 139 rfl ?_
              refine DE_0 17 (Bo (bif (!eqI e31 e32) then (bif (!y23.2) then true else (ltI t27 y23.1)) else false)) (by kernel_rfl) rfl rfl rfl (gsat_none rfl) (by kernel_rfl) (Y0_pick1 (b := !eqI e31 e32) (p := bif (!y23.2) then true else (ltI t27 y23.1)) (q := false) rfl (by kernel_rfl) hc33 (by kernel_rfl)) 140 rfl ?_
              refine DE_0 18 (Bo (bif (!eqI e31 e32) then (bif (!y23.2) then true else (ltI t27 y23.1)) else false)) (by kernel_rfl) rfl rfl rfl (gsat_none rfl) (by kernel_rfl) (E_move (Bo (bif (!eqI e31 e32) then (bif (!y23.2) then true else (ltI t27 y23.1)) else false)) rfl (by kernel_rfl)) 141 rfl ?_
              refine DL_split (bif (!eqI e31 e32) then (bif (!y23.2) then true else (ltI t27 y23.1)) else false) (fun hc35 => ?_) (fun hc35 => ?_)
              ·have hb41 := some_inj (of_true hb41 hc35)
               refine DE_t 19 (by kernel_rfl) rfl rfl rfl (gun_F (bif (!eqI e31 e32) then (bif (!y23.2) then true else (ltI t27 y23.1)) else false) rfl rfl (by kernel_rfl) hc35) 142 rfl ?_
               refine DE_t 20 (by kernel_rfl) rfl rfl rfl (gun_F (bif (!eqI e31 e32) then (bif (!y23.2) then true else (ltI t27 y23.1)) else false) rfl rfl (by kernel_rfl) hc35) 143 rfl ?_
               refine DE_t 21 (by kernel_rfl) rfl rfl rfl (gun_tn rfl rfl (by kernel_rfl)) 144 rfl ?_
               refine DE_t 22 (by kernel_rfl) rfl rfl rfl (gun_tn rfl rfl (by kernel_rfl)) 145 rfl ?_
               refine DE_t 23 (by kernel_rfl) rfl rfl rfl (gun_tn rfl rfl (by kernel_rfl)) 146 rfl ?_
               refine DE_t 24 (by kernel_rfl) rfl rfl rfl (gun_F (bif (!eqI e31 e32) then (bif (!y23.2) then true else (ltI t27 y23.1)) else false) rfl rfl (by kernel_rfl) hc35) 147 rfl ?_
               refine DE_t 25 (by kernel_rfl) rfl rfl rfl (gun_F (bif (!eqI e31 e32) then (bif (!y23.2) then true else (ltI t27 y23.1)) else false) rfl rfl (by kernel_rfl) hc35) 148 rfl ?_
               refine DE_t 26 (by kernel_rfl) rfl rfl rfl (gun_tn rfl rfl (by kernel_rfl)) 149 rfl ?_
               refine DE_t 27 (by kernel_rfl) rfl rfl rfl (gun_tn rfl rfl (by kernel_rfl)) 150 rfl ?_
               refine DE_t 28 (by kernel_rfl) rfl rfl rfl (gun_tn rfl rfl (by kernel_rfl)) 151 rfl ?_
               refine DE_t 29 (by kernel_rfl) rfl rfl rfl (gun_tn rfl rfl (by kernel_rfl)) 152 rfl ?_
               refine DE_t 30 (by kernel_rfl) rfl rfl rfl (gun_tn rfl rfl (by kernel_rfl)) 153 rfl ?_
               refine DE_t 31 (by kernel_rfl) rfl rfl rfl (gun_tn rfl rfl (by kernel_rfl)) 154 rfl ?_
               refine DE_t 32 (by kernel_rfl) rfl rfl rfl (gun_tn rfl rfl (by kernel_rfl)) 155 rfl ?_
               refine DE_t 33 (by kernel_rfl) rfl rfl rfl (gun_tn rfl rfl (by kernel_rfl)) 156 rfl ?_
               refine DE_t 34 (by kernel_rfl) rfl rfl rfl (gun_tn rfl rfl (by kernel_rfl)) 157 rfl ?_
               refine DE_t 35 (by kernel_rfl) rfl rfl rfl (gun_F (bif (!eqI e31 e32) then (bif (!y23.2) then true else (ltI t27 y23.1)) else false) rfl rfl (by kernel_rfl) hc35) 158 rfl ?_
               refine DE_0 36 (Bo (b41)) (by kernel_rfl) rfl rfl rfl (gsat_none rfl) (by kernel_rfl) (Y0_pickTe (b := bif (!eqI e31 e32) then (bif (!y23.2) then true else (ltI t27 y23.1)) else false) (p := true) rfl (by kernel_rfl) hc35 (by kernel_rfl) hb41) 159 rfl ?_
               refine DL_nil (by kernel_rfl) ?_
               refine XL_nil ?_
               kernel_rfl
              ·have hb41 := of_false hb41 hc35
               obtain ⟨b40, hb40, hb41⟩ := of_bind hb41
               have hb41 := some_inj hb41
               refine DE_0 19 (Bo y23.2) (by kernel_rfl) rfl rfl rfl (gsat_C (bif (!eqI e31 e32) then (bif (!y23.2) then true else (ltI t27 y23.1)) else false) rfl rfl (by kernel_rfl) hc35) (by kernel_rfl) (E_move (Bo y23.2) rfl (by kernel_rfl)) 142 rfl ?_
               refine DE_0 20 (Bo y23.2) (by kernel_rfl) rfl rfl rfl (gsat_C (bif (!eqI e31 e32) then (bif (!y23.2) then true else (ltI t27 y23.1)) else false) rfl rfl (by kernel_rfl) hc35) (by kernel_rfl) (E_move (Bo y23.2) rfl (by kernel_rfl)) 143 rfl ?_
               refine DL_split y23.2 (fun hc36 => ?_) (fun hc36 => ?_)
               ·refine DE_0 21 (I t27) (by kernel_rfl) rfl rfl rfl (gsat_C (y23.2) rfl rfl (by kernel_rfl) hc36) (by kernel_rfl) (E_move (I t27) rfl (by kernel_rfl)) 144 rfl ?_
                refine DE_0 22 (I y23.1) (by kernel_rfl) rfl rfl rfl (gsat_C (y23.2) rfl rfl (by kernel_rfl) hc36) (by kernel_rfl) (E_move (I y23.1) rfl (by kernel_rfl)) 145 rfl ?_
                refine DE_0 23 (Bo (eqI t27 y23.1)) (by kernel_rfl) rfl rfl rfl (gsat_C (y23.2) rfl rfl (by kernel_rfl) hc36) (by kernel_rfl) (Y0_eqw (k := .i64) (a := t27) (b := y23.1) rfl (by kernel_rfl) (by kernel_rfl)) 146 rfl ?_
                refine DE_0 24 (Bo (bif y23.2 then (eqI t27 y23.1) else false)) (by kernel_rfl) rfl rfl rfl (gsat_C (bif (!eqI e31 e32) then (bif (!y23.2) then true else (ltI t27 y23.1)) else false) rfl rfl (by kernel_rfl) hc35) (by kernel_rfl) (Y0_pick1 (b := y23.2) (p := eqI t27 y23.1) (q := false) rfl (by kernel_rfl) hc36 (by kernel_rfl)) 147 rfl ?_
                refine DE_0 25 (Bo (bif y23.2 then (eqI t27 y23.1) else false)) (by kernel_rfl) rfl rfl rfl (gsat_C (bif (!eqI e31 e32) then (bif (!y23.2) then true else (ltI t27 y23.1)) else false) rfl rfl (by kernel_rfl) hc35) (by kernel_rfl) (E_move (Bo (bif y23.2 then (eqI t27 y23.1) else false)) rfl (by kernel_rfl)) 148 rfl ?_
                refine DL_split (bif y23.2 then (eqI t27 y23.1) else false) (fun hc37 => ?_) (fun hc37 => ?_)
                ·have hb40 := of_true hb40 hc37
                 obtain ⟨e38, he38, hb40⟩ := of_bind hb40
                 obtain ⟨e39, he39, hb40⟩ := of_bind hb40
                 have hb40 := some_inj hb40
                 refine DE_0 26 (.c (.sl (y14.1.map c3))) (by kernel_rfl) rfl rfl rfl (gsat_C (bif y23.2 then (eqI t27 y23.1) else false) rfl rfl (by kernel_rfl) hc37) (by kernel_rfl) (E_move (.c (.sl (y14.1.map c3))) rfl (by kernel_rfl)) 149 rfl ?_
                 refine DE_0 27 (I t27) (by kernel_rfl) rfl rfl rfl (gsat_C (bif y23.2 then (eqI t27 y23.1) else false) rfl rfl (by kernel_rfl) hc37) (by kernel_rfl) (E_move (I t27) rfl (by kernel_rfl)) 150 rfl ?_
                 refine DE_0 28 (.pe [Ti e38]) (by kernel_rfl) rfl rfl rfl (gsat_C (bif y23.2 then (eqI t27 y23.1) else false) rfl rfl (by kernel_rfl) hc37) (by kernel_rfl) (Y0_idxM (c := c3) (xs := y14.1) (v := e38) (n := t27) Try.underlying41 sz3 rfl (by kernel_rfl) (by kernel_rfl) he38) 151 rfl ?_
                 refine DE_0 29 (I e38) (by kernel_rfl) rfl rfl rfl (gsat_C (bif y23.2 then (eqI t27 y23.1) else false) rfl rfl (by kernel_rfl) hc37) (by kernel_rfl) (Y0_load1 (c := Ti e38) (cs := []) sc3 rfl (by kernel_rfl)) 152 rfl ?_
                 refine DE_0 30 (.c (.sl (y15.1.map c3))) (by kernel_rfl) rfl rfl rfl (gsat_C (bif y23.2 then (eqI t27 y23.1) else false) rfl rfl (by kernel_rfl) hc37) (by kernel_rfl) (E_move (.c (.sl (y15.1.map c3))) rfl (by kernel_rfl)) 153 rfl ?_
                 refine DE_0 31 (I t27) (by kernel_rfl) rfl rfl rfl (gsat_C (bif y23.2 then (eqI t27 y23.1) else false) rfl rfl (by kernel_rfl) hc37) (by kernel_rfl) (E_move (I t27) rfl (by kernel_rfl)) 154 rfl ?_
                 refine DE_0 32 (.pe [Ti e39]) (by kernel_rfl) rfl rfl rfl (gsat_C (bif y23.2 then (eqI t27 y23.1) else false) rfl rfl (by kernel_rfl) hc37) (by kernel_rfl) (Y0_idxM (c := c3) (xs := y15.1) (v := e39) (n := t27) Try.underlying41 sz3 rfl (by kernel_rfl) (by kernel_rfl) he39) 155 rfl ?_
                 refine DE_0 33 (I e39) (by kernel_rfl) rfl rfl rfl (gsat_C (bif y23.2 then (eqI t27 y23.1) else false) rfl rfl (by kernel_rfl) hc37) (by kernel_rfl) (Y0_load1 (c := Ti e39) (cs := []) sc3 rfl (by kernel_rfl)) 156 rfl ?_
                 refine DE_0 34 (Bo (eqI e38 e39)) (by kernel_rfl) rfl rfl rfl (gsat_C (bif y23.2 then (eqI t27 y23.1) else false) rfl rfl (by kernel_rfl) hc37) (by kernel_rfl) (Y0_eqw (k := .i64) (a := e38) (b := e39) rfl (by kernel_rfl) (by kernel_rfl)) 157 rfl ?_
                 refine DE_0 35 (Bo (b40)) (by kernel_rfl) rfl rfl rfl (gsat_C (bif (!eqI e31 e32) then (bif (!y23.2) then true else (ltI t27 y23.1)) else false) rfl rfl (by kernel_rfl) hc35) (by kernel_rfl) (Y0_pickTe (b := bif y23.2 then (eqI t27 y23.1) else false) (p := eqI e38 e39) rfl (by kernel_rfl) hc37 (by kernel_rfl) hb40) 158 rfl ?_
                 refine DE_0 36 (Bo (b41)) (by kernel_rfl) rfl rfl rfl (gsat_none rfl) (by kernel_rfl) (Y0_pickFe (b := bif (!eqI e31 e32) then (bif (!y23.2) then true else (ltI t27 y23.1)) else false) (p := b40) rfl (by kernel_rfl) hc35 (by kernel_rfl) hb41) 159 rfl ?_
                 refine DL_nil (by kernel_rfl) ?_
                 refine XL_nil ?_
                 kernel_rfl
                ·have hb40 := some_inj (of_false hb40 hc37)
                 refine DE_t 26 (by kernel_rfl) rfl rfl rfl (gun_T (bif y23.2 then (eqI t27 y23.1) else false) rfl rfl (by kernel_rfl) hc37) 149 rfl ?_
                 refine DE_t 27 (by kernel_rfl) rfl rfl rfl (gun_T (bif y23.2 then (eqI t27 y23.1) else false) rfl rfl (by kernel_rfl) hc37) 150 rfl ?_
                 refine DE_t 28 (by kernel_rfl) rfl rfl rfl (gun_T (bif y23.2 then (eqI t27 y23.1) else false) rfl rfl (by kernel_rfl) hc37) 151 rfl ?_
                 refine DE_t 29 (by kernel_rfl) rfl rfl rfl (gun_T (bif y23.2 then (eqI t27 y23.1) else false) rfl rfl (by kernel_rfl) hc37) 152 rfl ?_
                 refine DE_t 30 (by kernel_rfl) rfl rfl rfl (gun_T (bif y23.2 then (eqI t27 y23.1) else false) rfl rfl (by kernel_rfl) hc37) 153 rfl ?_
                 refine DE_t 31 (by kernel_rfl) rfl rfl rfl (gun_T (bif y23.2 then (eqI t27 y23.1) else false) rfl rfl (by kernel_rfl) hc37) 154 rfl ?_
                 refine DE_t 32 (by kernel_rfl) rfl rfl rfl (gun_T (bif y23.2 then (eqI t27 y23.1) else false) rfl rfl (by kernel_rfl) hc37) 155 rfl ?_
                 refine DE_t 33 (by kernel_rfl) rfl rfl rfl (gun_T (bif y23.2 then (eqI t27 y23.1) else false) rfl rfl (by kernel_rfl) hc37) 156 rfl ?_
                 refine DE_t 34 (by kernel_rfl) rfl rfl rfl (gun_T (bif y23.2 then (eqI t27 y23.1) else false) rfl rfl (by kernel_rfl) hc37) 157 rfl ?_
                 refine DE_0 35 (Bo (b40)) (by kernel_rfl) rfl rfl rfl (gsat_C (bif (!eqI e31 e32) then (bif (!y23.2) then true else (ltI t27 y23.1)) else false) rfl rfl (by kernel_rfl) hc35) (by kernel_rfl) (Y0_pickFe (b := bif y23.2 then (eqI t27 y23.1) else false) (p := false) rfl (by kernel_rfl) hc37 (by kernel_rfl) hb40) 158 rfl ?_
                 refine DE_0 36 (Bo (b41)) (by kernel_rfl) rfl rfl rfl (gsat_none rfl) (by kernel_rfl) (Y0_pickFe (b := bif (!eqI e31 e32) then (bif (!y23.2) then true else (ltI t27 y23.1)) else false) (p := b40) rfl (by kernel_rfl) hc35 (by kernel_rfl) hb41) 159 rfl ?_
                 refine DL_nil (by kernel_rfl) ?_
                 refine XL_nil ?_
                 kernel_rfl
               ·refine DE_t 21 (by kernel_rfl) rfl rfl rfl (gun_T (y23.2) rfl rfl (by kernel_rfl) hc36) 144 rfl ?_
                refine DE_t 22 (by kernel_rfl) rfl rfl rfl (gun_T (y23.2) rfl rfl (by kernel_rfl) hc36) 145 rfl ?_
                refine DE_t 23 (by kernel_rfl) rfl rfl rfl (gun_T (y23.2) rfl rfl (by kernel_rfl) hc36) 146 rfl ?_
                refine DE_0 24 (Bo (bif y23.2 then (eqI t27 y23.1) else false)) (by kernel_rfl) rfl rfl rfl (gsat_C (bif (!eqI e31 e32) then (bif (!y23.2) then true else (ltI t27 y23.1)) else false) rfl rfl (by kernel_rfl) hc35) (by kernel_rfl) (Y0_pick0 (b := y23.2) (p := eqI t27 y23.1) (q := false) rfl (by kernel_rfl) hc36 (by kernel_rfl)) 147 rfl ?_
                refine DE_0 25 (Bo (bif y23.2 then (eqI t27 y23.1) else false)) (by kernel_rfl) rfl rfl rfl (gsat_C (bif (!eqI e31 e32) then (bif (!y23.2) then true else (ltI t27 y23.1)) else false) rfl rfl (by kernel_rfl) hc35) (by kernel_rfl) (E_move (Bo (bif y23.2 then (eqI t27 y23.1) else false)) rfl (by kernel_rfl)) 148 rfl ?_
                refine DL_split (bif y23.2 then (eqI t27 y23.1) else false) (fun hc37 => ?_) (fun hc37 => ?_)
                ·have hb40 := of_true hb40 hc37
                 obtain ⟨e38, he38, hb40⟩ := of_bind hb40
                 obtain ⟨e39, he39, hb40⟩ := of_bind hb40
                 have hb40 := some_inj hb40
                 refine DE_0 26 (.c (.sl (y14.1.map c3))) (by kernel_rfl) rfl rfl rfl (gsat_C (bif y23.2 then (eqI t27 y23.1) else false) rfl rfl (by kernel_rfl) hc37) (by kernel_rfl) (E_move (.c (.sl (y14.1.map c3))) rfl (by kernel_rfl)) 149 rfl ?_
                 refine DE_0 27 (I t27) (by kernel_rfl) rfl rfl rfl (gsat_C (bif y23.2 then (eqI t27 y23.1) else false) rfl rfl (by kernel_rfl) hc37) (by kernel_rfl) (E_move (I t27) rfl (by kernel_rfl)) 150 rfl ?_
                 refine DE_0 28 (.pe [Ti e38]) (by kernel_rfl) rfl rfl rfl (gsat_C (bif y23.2 then (eqI t27 y23.1) else false) rfl rfl (by kernel_rfl) hc37) (by kernel_rfl) (Y0_idxM (c := c3) (xs := y14.1) (v := e38) (n := t27) Try.underlying41 sz3 rfl (by kernel_rfl) (by kernel_rfl) he38) 151 rfl ?_
                 refine DE_0 29 (I e38) (by kernel_rfl) rfl rfl rfl (gsat_C (bif y23.2 then (eqI t27 y23.1) else false) rfl rfl (by kernel_rfl) hc37) (by kernel_rfl) (Y0_load1 (c := Ti e38) (cs := []) sc3 rfl (by kernel_rfl)) 152 rfl ?_
                 refine DE_0 30 (.c (.sl (y15.1.map c3))) (by kernel_rfl) rfl rfl rfl (gsat_C (bif y23.2 then (eqI t27 y23.1) else false) rfl rfl (by kernel_rfl) hc37) (by kernel_rfl) (E_move (.c (.sl (y15.1.map c3))) rfl (by kernel_rfl)) 153 rfl ?_
                 refine DE_0 31 (I t27) (by kernel_rfl) rfl rfl rfl (gsat_C (bif y23.2 then (eqI t27 y23.1) else false) rfl rfl (by kernel_rfl) hc37) (by kernel_rfl) (E_move (I t27) rfl (by kernel_rfl)) 154 rfl ?_
                 refine DE_0 32 (.pe [Ti e39]) (by kernel_rfl) rfl rfl rfl (gsat_C (bif y23.2 then (eqI t27 y23.1) else false) rfl rfl (by kernel_rfl) hc37) (by kernel_rfl) (Y0_idxM (c := c3) (xs := y15.1) (v := e39) (n := t27) Try.underlying41 sz3 rfl (by kernel_rfl) (by kernel_rfl) he39) 155 rfl ?_
                 refine DE_0 33 (I e39) (by kernel_rfl) rfl rfl rfl (gsat_C (bif y23.2 then (eqI t27 y23.1) else false) rfl rfl (by kernel_rfl) hc37) (by kernel_rfl) (Y0_load1 (c := Ti e39) (cs := []) sc3 rfl (by kernel_rfl)) 156 rfl ?_
                 refine DE_0 34 (Bo (eqI e38 e39)) (by kernel_rfl) rfl rfl rfl (gsat_C (bif y23.2 then (eqI t27 y23.1) else false) rfl rfl (by kernel_rfl) hc37) (by kernel_rfl) (Y0_eqw (k := .i64) (a := e38) (b := e39) rfl (by kernel_rfl) (by kernel_rfl)) 157 rfl ?_
                 refine DE_0 35 (Bo (b40)) (by kernel_rfl) rfl rfl rfl (gsat_C (bif (!eqI e31 e32) then (bif (!y23.2) then true else (ltI t27 y23.1)) else false) rfl rfl (by kernel_rfl) hc35) (by kernel_rfl) (Y0_pickTe (b := bif y23.2 then (eqI t27 y23.1) else false) (p := eqI e38 e39) rfl (by kernel_rfl) hc37 (by kernel_rfl) hb40) 158 rfl ?_
                 refine DE_0 36 (Bo (b41)) (by kernel_rfl) rfl rfl rfl (gsat_none rfl) (by kernel_rfl) (Y0_pickFe (b := bif (!eqI e31 e32) then (bif (!y23.2) then true else (ltI t27 y23.1)) else false) (p := b40) rfl (by kernel_rfl) hc35 (by kernel_rfl) hb41) 159 rfl ?_
                 refine DL_nil (by kernel_rfl) ?_
                 refine XL_nil ?_
                 kernel_rfl
                ·have hb40 := some_inj (of_false hb40 hc37)
                 refine DE_t 26 (by kernel_rfl) rfl rfl rfl (gun_T (bif y23.2 then (eqI t27 y23.1) else false) rfl rfl (by kernel_rfl) hc37) 149 rfl ?_
                 refine DE_t 27 (by kernel_rfl) rfl rfl rfl (gun_T (bif y23.2 then (eqI t27 y23.1) else false) rfl rfl (by kernel_rfl) hc37) 150 rfl ?_
                 refine DE_t 28 (by kernel_rfl) rfl rfl rfl (gun_T (bif y23.2 then (eqI t27 y23.1) else false) rfl rfl (by kernel_rfl) hc37) 151 rfl ?_
                 refine DE_t 29 (by kernel_rfl) rfl rfl rfl (gun_T (bif y23.2 then (eqI t27 y23.1) else false) rfl rfl (by kernel_rfl) hc37) 152 rfl ?_
                 refine DE_t 30 (by kernel_rfl) rfl rfl rfl (gun_T (bif y23.2 then (eqI t27 y23.1) else false) rfl rfl (by kernel_rfl) hc37) 153 rfl ?_
                 refine DE_t 31 (by kernel_rfl) rfl rfl rfl (gun_T (bif y23.2 then (eqI t27 y23.1) else false) rfl rfl (by kernel_rfl) hc37) 154 rfl ?_
                 refine DE_t 32 (by kernel_rfl) rfl rfl rfl (gun_T (bif y23.2 then (eqI t27 y23.1) else false) rfl rfl (by kernel_rfl) hc37) 155 rfl ?_
                 refine DE_t 33 (by kernel_rfl) rfl rfl rfl (gun_T (bif y23.2 then (eqI t27 y23.1) else false) rfl rfl (by kernel_rfl) hc37) 156 rfl ?_
                 refine DE_t 34 (by kernel_rfl) rfl rfl rfl (gun_T (bif y23.2 then (eqI t27 y23.1) else false) rfl rfl (by kernel_rfl) hc37) 157 rfl ?_
                 refine DE_0 35 (Bo (b40)) (by kernel_rfl) rfl rfl rfl (gsat_C (bif (!eqI e31 e32) then (bif (!y23.2) then true else (ltI t27 y23.1)) else false) rfl rfl (by kernel_rfl) hc35) (by kernel_rfl) (Y0_pickFe (b := bif y23.2 then (eqI t27 y23.1) else false) (p := false) rfl (by kernel_rfl) hc37 (by kernel_rfl) hb40) 158 rfl ?_
                 refine DE_0 36 (Bo (b41)) (by kernel_rfl) rfl rfl rfl (gsat_none rfl) (by kernel_rfl) (Y0_pickFe (b := bif (!eqI e31 e32) then (bif (!y23.2) then true else (ltI t27 y23.1)) else false) (p := b40) rfl (by kernel_rfl) hc35 (by kernel_rfl) hb41) 159 rfl ?_
                 refine DL_nil (by kernel_rfl) ?_
                 refine XL_nil ?_
                 kernel_rfl
            ·refine DE_t 10 (by kernel_rfl) rfl rfl rfl (gun_T (!eqI e31 e32) rfl rfl (by kernel_rfl) hc33) 133 rfl ?_
             refine DE_t 11 (by kernel_rfl) rfl rfl rfl (gun_T (!eqI e31 e32) rfl rfl (by kernel_rfl) hc33) 134 rfl ?_
             refine DE_t 12 (by kernel_rfl) rfl rfl rfl (gun_T (!eqI e31 e32) rfl rfl (by kernel_rfl) hc33) 135 rfl ?_
             refine DE_t 13 (by kernel_rfl) rfl rfl rfl (gun_tn rfl rfl (by kernel_rfl)) 136 rfl ?_
             refine DE_t 14 (by kernel_rfl) rfl rfl rfl (gun_tn rfl rfl (by kernel_rfl)) 137 rfl ?_
             refine DE_t 15 (by kernel_rfl) rfl rfl rfl (gun_tn rfl rfl (by kernel_rfl)) 138 rfl ?_
             refine DE_t 16 (by kernel_rfl) rfl rfl rfl (gun_T (!eqI e31 e32) rfl rfl (by kernel_rfl) hc33) 139 rfl ?_
             refine DE_0 17 (Bo (bif (!eqI e31 e32) then (bif (!y23.2) then true else (ltI t27 y23.1)) else false)) (by kernel_rfl) rfl rfl rfl (gsat_none rfl) (by kernel_rfl) (Y0_pick0 (b := !eqI e31 e32) (p := bif (!y23.2) then true else (ltI t27 y23.1)) (q := false) rfl (by kernel_rfl) hc33 (by kernel_rfl)) 140 rfl ?_
             refine DE_0 18 (Bo (bif (!eqI e31 e32) then (bif (!y23.2) then true else (ltI t27 y23.1)) else false)) (by kernel_rfl) rfl rfl rfl (gsat_none rfl) (by kernel_rfl) (E_move (Bo (bif (!eqI e31 e32) then (bif (!y23.2) then true else (ltI t27 y23.1)) else false)) rfl (by kernel_rfl)) 141 rfl ?_
             refine DL_split (bif (!eqI e31 e32) then (bif (!y23.2) then true else (ltI t27 y23.1)) else false) (fun hc35 => ?_) (fun hc35 => ?_)
             ·have hb41 := some_inj (of_true hb41 hc35)
              refine DE_t 19 (by kernel_rfl) rfl rfl rfl (gun_F (bif (!eqI e31 e32) then (bif (!y23.2) then true else (ltI t27 y23.1)) else false) rfl rfl (by kernel_rfl) hc35) 142 rfl ?_
              refine DE_t 20 (by kernel_rfl) rfl rfl rfl (gun_F (bif (!eqI e31 e32) then (bif (!y23.2) then true else (ltI t27 y23.1)) else false) rfl rfl (by kernel_rfl) hc35) 143 rfl ?_
              refine DE_t 21 (by kernel_rfl) rfl rfl rfl (gun_tn rfl rfl (by kernel_rfl)) 144 rfl ?_
              refine DE_t 22 (by kernel_rfl) rfl rfl rfl (gun_tn rfl rfl (by kernel_rfl)) 145 rfl ?_
              refine DE_t 23 (by kernel_rfl) rfl rfl rfl (gun_tn rfl rfl (by kernel_rfl)) 146 rfl ?_
              refine DE_t 24 (by kernel_rfl) rfl rfl rfl (gun_F (bif (!eqI e31 e32) then (bif (!y23.2) then true else (ltI t27 y23.1)) else false) rfl rfl (by kernel_rfl) hc35) 147 rfl ?_
              refine DE_t 25 (by kernel_rfl) rfl rfl rfl (gun_F (bif (!eqI e31 e32) then (bif (!y23.2) then true else (ltI t27 y23.1)) else false) rfl rfl (by kernel_rfl) hc35) 148 rfl ?_
              refine DE_t 26 (by kernel_rfl) rfl rfl rfl (gun_tn rfl rfl (by kernel_rfl)) 149 rfl ?_
              refine DE_t 27 (by kernel_rfl) rfl rfl rfl (gun_tn rfl rfl (by kernel_rfl)) 150 rfl ?_
              refine DE_t 28 (by kernel_rfl) rfl rfl rfl (gun_tn rfl rfl (by kernel_rfl)) 151 rfl ?_
              refine DE_t 29 (by kernel_rfl) rfl rfl rfl (gun_tn rfl rfl (by kernel_rfl)) 152 rfl ?_
              refine DE_t 30 (by kernel_rfl) rfl rfl rfl (gun_tn rfl rfl (by kernel_rfl)) 153 rfl ?_
              refine DE_t 31 (by kernel_rfl) rfl rfl rfl (gun_tn rfl rfl (by kernel_rfl)) 154 rfl ?_
              refine DE_t 32 (by kernel_rfl) rfl rfl rfl (gun_tn rfl rfl (by kernel_rfl)) 155 rfl ?_
              refine DE_t 33 (by kernel_rfl) rfl rfl rfl (gun_tn rfl rfl (by kernel_rfl)) 156 rfl ?_
              refine DE_t 34 (by kernel_rfl) rfl rfl rfl (gun_tn rfl rfl (by kernel_rfl)) 157 rfl ?_
              refine DE_t 35 (by kernel_rfl) rfl rfl rfl (gun_F (bif (!eqI e31 e32) then (bif (!y23.2) then true else (ltI t27 y23.1)) else false) rfl rfl (by kernel_rfl) hc35) 158 rfl ?_
              refine DE_0 36 (Bo (b41)) (by kernel_rfl) rfl rfl rfl (gsat_none rfl) (by kernel_rfl) (Y0_pickTe (b := bif (!eqI e31 e32) then (bif (!y23.2) then true else (ltI t27 y23.1)) else false) (p := true) rfl (by kernel_rfl) hc35 (by kernel_rfl) hb41) 159 rfl ?_
              refine DL_nil (by kernel_rfl) ?_
              refine XL_nil ?_
              kernel_rfl
             ·have hb41 := of_false hb41 hc35
              obtain ⟨b40, hb40, hb41⟩ := of_bind hb41
              have hb41 := some_inj hb41
              refine DE_0 19 (Bo y23.2) (by kernel_rfl) rfl rfl rfl (gsat_C (bif (!eqI e31 e32) then (bif (!y23.2) then true else (ltI t27 y23.1)) else false) rfl rfl (by kernel_rfl) hc35) (by kernel_rfl) (E_move (Bo y23.2) rfl (by kernel_rfl)) 142 rfl ?_
              refine DE_0 20 (Bo y23.2) (by kernel_rfl) rfl rfl rfl (gsat_C (bif (!eqI e31 e32) then (bif (!y23.2) then true else (ltI t27 y23.1)) else false) rfl rfl (by kernel_rfl) hc35) (by kernel_rfl) (E_move (Bo y23.2) rfl (by kernel_rfl)) 143 rfl ?_
              refine DL_split y23.2 (fun hc36 => ?_) (fun hc36 => ?_)
              ·refine DE_0 21 (I t27) (by kernel_rfl) rfl rfl rfl (gsat_C (y23.2) rfl rfl (by kernel_rfl) hc36) (by kernel_rfl) (E_move (I t27) rfl (by kernel_rfl)) 144 rfl ?_
               refine DE_0 22 (I y23.1) (by kernel_rfl) rfl rfl rfl (gsat_C (y23.2) rfl rfl (by kernel_rfl) hc36) (by kernel_rfl) (E_move (I y23.1) rfl (by kernel_rfl)) 145 rfl ?_
               refine DE_0 23 (Bo (eqI t27 y23.1)) (by kernel_rfl) rfl rfl rfl (gsat_C (y23.2) rfl rfl (by kernel_rfl) hc36) (by kernel_rfl) (Y0_eqw (k := .i64) (a := t27) (b := y23.1) rfl (by kernel_rfl) (by kernel_rfl)) 146 rfl ?_
               refine DE_0 24 (Bo (bif y23.2 then (eqI t27 y23.1) else false)) (by kernel_rfl) rfl rfl rfl (gsat_C (bif (!eqI e31 e32) then (bif (!y23.2) then true else (ltI t27 y23.1)) else false) rfl rfl (by kernel_rfl) hc35) (by kernel_rfl) (Y0_pick1 (b := y23.2) (p := eqI t27 y23.1) (q := false) rfl (by kernel_rfl) hc36 (by kernel_rfl)) 147 rfl ?_
               refine DE_0 25 (Bo (bif y23.2 then (eqI t27 y23.1) else false)) (by kernel_rfl) rfl rfl rfl (gsat_C (bif (!eqI e31 e32) then (bif (!y23.2) then true else (ltI t27 y23.1)) else false) rfl rfl (by kernel_rfl) hc35) (by kernel_rfl) (E_move (Bo (bif y23.2 then (eqI t27 y23.1) else false)) rfl (by kernel_rfl)) 148 rfl ?_
               refine DL_split (bif y23.2 then (eqI t27 y23.1) else false) (fun hc37 => ?_) (fun hc37 => ?_)
               ·have hb40 := of_true hb40 hc37
                obtain ⟨e38, he38, hb40⟩ := of_bind hb40
                obtain ⟨e39, he39, hb40⟩ := of_bind hb40
                have hb40 := some_inj hb40
                refine DE_0 26 (.c (.sl (y14.1.map c3))) (by kernel_rfl) rfl rfl rfl (gsat_C (bif y23.2 then (eqI t27 y23.1) else false) rfl rfl (by kernel_rfl) hc37) (by kernel_rfl) (E_move (.c (.sl (y14.1.map c3))) rfl (by kernel_rfl)) 149 rfl ?_
                refine DE_0 27 (I t27) (by kernel_rfl) rfl rfl rfl (gsat_C (bif y23.2 then (eqI t27 y23.1) else false) rfl rfl (by kernel_rfl) hc37) (by kernel_rfl) (E_move (I t27) rfl (by kernel_rfl)) 150 rfl ?_
                refine DE_0 28 (.pe [Ti e38]) (by kernel_rfl) rfl rfl rfl (gsat_C (bif y23.2 then (eqI t27 y23.1) else false) rfl rfl (by kernel_rfl) hc37) (by kernel_rfl) (Y0_idxM (c := c3) (xs := y14.1) (v := e38) (n := t27) Try.underlying41 sz3 rfl (by kernel_rfl) (by kernel_rfl) he38) 151 rfl ?_
                refine DE_0 29 (I e38) (by kernel_rfl) rfl rfl rfl (gsat_C (bif y23.2 then (eqI t27 y23.1) else false) rfl rfl (by kernel_rfl) hc37) (by kernel_rfl) (Y0_load1 (c := Ti e38) (cs := []) sc3 rfl (by kernel_rfl)) 152 rfl ?_
                refine DE_0 30 (.c (.sl (y15.1.map c3))) (by kernel_rfl) rfl rfl rfl (gsat_C (bif y23.2 then (eqI t27 y23.1) else false) rfl rfl (by kernel_rfl) hc37) (by kernel_rfl) (E_move (.c (.sl (y15.1.map c3))) rfl (by kernel_rfl)) 153 rfl ?_
                refine DE_0 31 (I t27) (by kernel_rfl) rfl rfl rfl (gsat_C (bif y23.2 then (eqI t27 y23.1) else false) rfl rfl (by kernel_rfl) hc37) (by kernel_rfl) (E_move (I t27) rfl (by kernel_rfl)) 154 rfl ?_
                refine DE_0 32 (.pe [Ti e39]) (by kernel_rfl) rfl rfl rfl (gsat_C (bif y23.2 then (eqI t27 y23.1) else false) rfl rfl (by kernel_rfl) hc37) (by kernel_rfl) (Y0_idxM (c := c3) (xs := y15.1) (v := e39) (n := t27) Try.underlying41 sz3 rfl (by kernel_rfl) (by kernel_rfl) he39) 155 rfl ?_
                refine DE_0 33 (I e39) (by kernel_rfl) rfl rfl rfl (gsat_C (bif y23.2 then (eqI t27 y23.1) else false) rfl rfl (by kernel_rfl) hc37) (by kernel_rfl) (Y0_load1 (c := Ti e39) (cs := []) sc3 rfl (by kernel_rfl)) 156 rfl ?_
                refine DE_0 34 (Bo (eqI e38 e39)) (by kernel_rfl) rfl rfl rfl (gsat_C (bif y23.2 then (eqI t27 y23.1) else false) rfl rfl (by kernel_rfl) hc37) (by kernel_rfl) (Y0_eqw (k := .i64) (a := e38) (b := e39) rfl (by kernel_rfl) (by kernel_rfl)) 157 rfl ?_
                refine DE_0 35 (Bo (b40)) (by kernel_rfl) rfl rfl rfl (gsat_C (bif (!eqI e31 e32) then (bif (!y23.2) then true else (ltI t27 y23.1)) else false) rfl rfl (by kernel_rfl) hc35) (by kernel_rfl) (Y0_pickTe (b := bif y23.2 then (eqI t27 y23.1) else false) (p := eqI e38 e39) rfl (by kernel_rfl) hc37 (by kernel_rfl) hb40) 158 rfl ?_
                refine DE_0 36 (Bo (b41)) (by kernel_rfl) rfl rfl rfl (gsat_none rfl) (by kernel_rfl) (Y0_pickFe (b := bif (!eqI e31 e32) then (bif (!y23.2) then true else (ltI t27 y23.1)) else false) (p := b40) rfl (by kernel_rfl) hc35 (by kernel_rfl) hb41) 159 rfl ?_
                refine DL_nil (by kernel_rfl) ?_
                refine XL_nil ?_
                kernel_rfl
               ·have hb40 := some_inj (of_false hb40 hc37)
                refine DE_t 26 (by kernel_rfl) rfl rfl rfl (gun_T (bif y23.2 then (eqI t27 y23.1) else false) rfl rfl (by kernel_rfl) hc37) 149 rfl ?_
                refine DE_t 27 (by kernel_rfl) rfl rfl rfl (gun_T (bif y23.2 then (eqI t27 y23.1) else false) rfl rfl (by kernel_rfl) hc37) 150 rfl ?_
                refine DE_t 28 (by kernel_rfl) rfl rfl rfl (gun_T (bif y23.2 then (eqI t27 y23.1) else false) rfl rfl (by kernel_rfl) hc37) 151 rfl ?_
                refine DE_t 29 (by kernel_rfl) rfl rfl rfl (gun_T (bif y23.2 then (eqI t27 y23.1) else false) rfl rfl (by kernel_rfl) hc37) 152 rfl ?_
                refine DE_t 30 (by kernel_rfl) rfl rfl rfl (gun_T (bif y23.2 then (eqI t27 y23.1) else false) rfl rfl (by kernel_rfl) hc37) 153 rfl ?_
                refine DE_t 31 (by kernel_rfl) rfl rfl rfl (gun_T (bif y23.2 then (eqI t27 y23.1) else false) rfl rfl (by kernel_rfl) hc37) 154 rfl ?_
                refine DE_t 32 (by kernel_rfl) rfl rfl rfl (gun_T (bif y23.2 then (eqI t27 y23.1) else false) rfl rfl (by kernel_rfl) hc37) 155 rfl ?_
                refine DE_t 33 (by kernel_rfl) rfl rfl rfl (gun_T (bif y23.2 then (eqI t27 y23.1) else false) rfl rfl (by kernel_rfl) hc37) 156 rfl ?_
                refine DE_t 34 (by kernel_rfl) rfl rfl rfl (gun_T (bif y23.2 then (eqI t27 y23.1) else false) rfl rfl (by kernel_rfl) hc37) 157 rfl ?_
                refine DE_0 35 (Bo (b40)) (by kernel_rfl) rfl rfl rfl (gsat_C (bif (!eqI e31 e32) then (bif (!y23.2) then true else (ltI t27 y23.1)) else false) rfl rfl (by kernel_rfl) hc35) (by kernel_rfl) (Y0_pickFe (b := bif y23.2 then (eqI t27 y23.1) else false) (p := false) rfl (by kernel_rfl) hc37 (by kernel_rfl) hb40) 158 rfl ?_
                refine DE_0 36 (Bo (b41)) (by kernel_rfl) rfl rfl rfl (gsat_none rfl) (by kernel_rfl) (Y0_pickFe (b := bif (!eqI e31 e32) then (bif (!y23.2) then true else (ltI t27 y23.1)) else false) (p := b40) rfl (by kernel_rfl) hc35 (by kernel_rfl) hb41) 159 rfl ?_
                refine DL_nil (by kernel_rfl) ?_
                refine XL_nil ?_
                kernel_rfl
              ·refine DE_t 21 (by kernel_rfl) rfl rfl rfl (gun_T (y23.2) rfl rfl (by kernel_rfl) hc36) 144 rfl ?_
               refine DE_t 22 (by kernel_rfl) rfl rfl rfl (gun_T (y23.2) rfl rfl (by kernel_rfl) hc36) 145 rfl ?_
               refine DE_t 23 (by kernel_rfl) rfl rfl rfl (gun_T (y23.2) rfl rfl (by kernel_rfl) hc36) 146 rfl ?_
               refine DE_0 24 (Bo (bif y23.2 then (eqI t27 y23.1) else false)) (by kernel_rfl) rfl rfl rfl (gsat_C (bif (!eqI e31 e32) then (bif (!y23.2) then true else (ltI t27 y23.1)) else false) rfl rfl (by kernel_rfl) hc35) (by kernel_rfl) (Y0_pick0 (b := y23.2) (p := eqI t27 y23.1) (q := false) rfl (by kernel_rfl) hc36 (by kernel_rfl)) 147 rfl ?_
               refine DE_0 25 (Bo (bif y23.2 then (eqI t27 y23.1) else false)) (by kernel_rfl) rfl rfl rfl (gsat_C (bif (!eqI e31 e32) then (bif (!y23.2) then true else (ltI t27 y23.1)) else false) rfl rfl (by kernel_rfl) hc35) (by kernel_rfl) (E_move (Bo (bif y23.2 then (eqI t27 y23.1) else false)) rfl (by kernel_rfl)) 148 rfl ?_
               refine DL_split (bif y23.2 then (eqI t27 y23.1) else false) (fun hc37 => ?_) (fun hc37 => ?_)
               ·have hb40 := of_true hb40 hc37
                obtain ⟨e38, he38, hb40⟩ := of_bind hb40
                obtain ⟨e39, he39, hb40⟩ := of_bind hb40
                have hb40 := some_inj hb40
                refine DE_0 26 (.c (.sl (y14.1.map c3))) (by kernel_rfl) rfl rfl rfl (gsat_C (bif y23.2 then (eqI t27 y23.1) else false) rfl rfl (by kernel_rfl) hc37) (by kernel_rfl) (E_move (.c (.sl (y14.1.map c3))) rfl (by kernel_rfl)) 149 rfl ?_
                refine DE_0 27 (I t27) (by kernel_rfl) rfl rfl rfl (gsat_C (bif y23.2 then (eqI t27 y23.1) else false) rfl rfl (by kernel_rfl) hc37) (by kernel_rfl) (E_move (I t27) rfl (by kernel_rfl)) 150 rfl ?_
                refine DE_0 28 (.pe [Ti e38]) (by kernel_rfl) rfl rfl rfl (gsat_C (bif y23.2 then (eqI t27 y23.1) else false) rfl rfl (by kernel_rfl) hc37) (by kernel_rfl) (Y0_idxM (c := c3) (xs := y14.1) (v := e38) (n := t27) Try.underlying41 sz3 rfl (by kernel_rfl) (by kernel_rfl) he38) 151 rfl ?_
                refine DE_0 29 (I e38) (by kernel_rfl) rfl rfl rfl (gsat_C (bif y23.2 then (eqI t27 y23.1) else false) rfl rfl (by kernel_rfl) hc37) (by kernel_rfl) (Y0_load1 (c := Ti e38) (cs := []) sc3 rfl (by kernel_rfl)) 152 rfl ?_
                refine DE_0 30 (.c (.sl (y15.1.map c3))) (by kernel_rfl) rfl rfl rfl (gsat_C (bif y23.2 then (eqI t27 y23.1) else false) rfl rfl (by kernel_rfl) hc37) (by kernel_rfl) (E_move (.c (.sl (y15.1.map c3))) rfl (by kernel_rfl)) 153 rfl ?_
                refine DE_0 31 (I t27) (by kernel_rfl) rfl rfl rfl (gsat_C (bif y23.2 then (eqI t27 y23.1) else false) rfl rfl (by kernel_rfl) hc37) (by kernel_rfl) (E_move (I t27) rfl (by kernel_rfl)) 154 rfl ?_
                refine DE_0 32 (.pe [Ti e39]) (by kernel_rfl) rfl rfl rfl (gsat_C (bif y23.2 then (eqI t27 y23.1) else false) rfl rfl (by kernel_rfl) hc37) (by kernel_rfl) (Y0_idxM (c := c3) (xs := y15.1) (v := e39) (n := t27) Try.underlying41 sz3 rfl (by kernel_rfl) (by kernel_rfl) he39) 155 rfl ?_
                refine DE_0 33 (I e39) (by kernel_rfl) rfl rfl rfl (gsat_C (bif y23.2 then (eqI t27 y23.1) else false) rfl rfl (by kernel_rfl) hc37) (by kernel_rfl) (Y0_load1 (c := Ti e39) (cs := []) sc3 rfl (by kernel_rfl)) 156 rfl ?_
                refine DE_0 34 (Bo (eqI e38 e39)) (by kernel_rfl) rfl rfl rfl (gsat_C (bif y23.2 then (eqI t27 y23.1) else false) rfl rfl (by kernel_rfl) hc37) (by kernel_rfl) (Y0_eqw (k := .i64) (a := e38) (b := e39) rfl (by kernel_rfl) (by kernel_rfl)) 157 rfl ?_
                refine DE_0 35 (Bo (b40)) (by kernel_rfl) rfl rfl rfl (gsat_C (bif (!eqI e31 e32) then (bif (!y23.2) then true else (ltI t27 y23.1)) else false) rfl rfl (by kernel_rfl) hc35) (by kernel_rfl) (Y0_pickTe (b := bif y23.2 then (eqI t27 y23.1) else false) (p := eqI e38 e39) rfl (by kernel_rfl) hc37 (by kernel_rfl) hb40) 158 rfl ?_
                refine DE_0 36 (Bo (b41)) (by kernel_rfl) rfl rfl rfl (gsat_none rfl) (by kernel_rfl) (Y0_pickFe (b := bif (!eqI e31 e32) then (bif (!y23.2) then true else (ltI t27 y23.1)) else false) (p := b40) rfl (by kernel_rfl) hc35 (by kernel_rfl) hb41) 159 rfl ?_
                refine DL_nil (by kernel_rfl) ?_
                refine XL_nil ?_
                kernel_rfl
               ·have hb40 := some_inj (of_false hb40 hc37)
                refine DE_t 26 (by kernel_rfl) rfl rfl rfl (gun_T (bif y23.2 then (eqI t27 y23.1) else false) rfl rfl (by kernel_rfl) hc37) 149 rfl ?_
                refine DE_t 27 (by kernel_rfl) rfl rfl rfl (gun_T (bif y23.2 then (eqI t27 y23.1) else false) rfl rfl (by kernel_rfl) hc37) 150 rfl ?_
                refine DE_t 28 (by kernel_rfl) rfl rfl rfl (gun_T (bif y23.2 then (eqI t27 y23.1) else false) rfl rfl (by kernel_rfl) hc37) 151 rfl ?_
                refine DE_t 29 (by kernel_rfl) rfl rfl rfl (gun_T (bif y23.2 then (eqI t27 y23.1) else false) rfl rfl (by kernel_rfl) hc37) 152 rfl ?_
                refine DE_t 30 (by kernel_rfl) rfl rfl rfl (gun_T (bif y23.2 then (eqI t27 y23.1) else false) rfl rfl (by kernel_rfl) hc37) 153 rfl ?_
                refine DE_t 31 (by kernel_rfl) rfl rfl rfl (gun_T (bif y23.2 then (eqI t27 y23.1) else false) rfl rfl (by kernel_rfl) hc37) 154 rfl ?_
                refine DE_t 32 (by kernel_rfl) rfl rfl rfl (gun_T (bif y23.2 then (eqI t27 y23.1) else false) rfl rfl (by kernel_rfl) hc37) 155 rfl ?_
                refine DE_t 33 (by kernel_rfl) rfl rfl rfl (gun_T (bif y23.2 then (eqI t27 y23.1) else false) rfl rfl (by kernel_rfl) hc37) 156 rfl ?_
                refine DE_t 34 (by kernel_rfl) rfl rfl rfl (gun_T (bif y23.2 then (eqI t27 y23.1) else false) rfl rfl (by kernel_rfl) hc37) 157 rfl ?_
                refine DE_0 35 (Bo (b40)) (by kernel_rfl) rfl rfl rfl (gsat_C (bif (!eqI e31 e32) then (bif (!y23.2) then true else (ltI t27 y23.1)) else false) rfl rfl (by kernel_rfl) hc35) (by kernel_rfl) (Y0_pickFe (b := bif y23.2 then (eqI t27 y23.1) else false) (p := false) rfl (by kernel_rfl) hc37 (by kernel_rfl) hb40) 158 rfl ?_
                refine DE_0 36 (Bo (b41)) (by kernel_rfl) rfl rfl rfl (gsat_none rfl) (by kernel_rfl) (Y0_pickFe (b := bif (!eqI e31 e32) then (bif (!y23.2) then true else (ltI t27 y23.1)) else false) (p := b40) rfl (by kernel_rfl) hc35 (by kernel_rfl) hb41) 159 rfl ?_
                refine DL_nil (by kernel_rfl) ?_
                refine XL_nil ?_
                kernel_rfl
           refine V_cond rfl (fun hc42 => ?_) (fun hc42 => ?_)
           ·have h := of_true h hc42
            refine V_sreg (mb 209 16) [] (s1 := ⟨bt 4 (Bo false :: bt 204 []), []⟩) ?_ ?_
            ·refine L0 rfl rfl (E_assign (Bo false) rfl (by kernel_rfl)) ?_
             refine XL_nil ?_
             kernel_rfl
            refine V_ret ?_
            obtain rfl := some_inj h
            have h := hko29
            obtain rfl := some_inj h
            have h := hko12
            obtain rfl := some_inj h
            show Post _ _ _ _ _
            exact ⟨.inr rfl, rfl, rfl, rfl⟩
           ·have h := of_false h hc42
            refine V_skip ?_
            show V _ _ _ _
            obtain ⟨t43, ht43, h⟩ := of_sI h
            refine V_reg (mb 209 1993841993677373809355710590421323778) [] (s1 := ⟨.bot :: .c (.sl (more2.map c5)) :: bt 10 (.c (.sl (y14.1.map c3)) :: .bot :: .c (.sl (y15.1.map c3)) :: bt 3 (I y23.1 :: Bo y23.2 :: bt 99 (I ((y14.1.length : Int)) :: I t43 :: bt 88 []))), []⟩) ?_ ?_
            ·refine L0 rfl rfl (Y0_add64 (a := t27) (b := 1) rfl (by kernel_rfl) (by kernel_rfl)) ?_
             refine L0 rfl rfl (E_move (I (w64 (t27 + 1))) rfl (by kernel_rfl)) ?_
             refine XL_nil ?_
             subst ht43
             kernel_rfl
            exact ⟨n, Nat.lt_succ_self n, _,  by rfl, h⟩
          ·have h := of_false h hc30
           refine V_exit ?_
           obtain rfl := some_inj h
           exact ⟨_, rfl, by rfl⟩
        rintro o29 rfl
        have h := hko29
        clear hko29
        obtain rfl := some_inj h
        exact ⟨_, rfl, by rfl⟩
     ·have h := of_false h hc13
      refine V_skip ?_
      obtain rfl := some_inj h
      exact ⟨_, rfl, by rfl⟩
    rintro o12 rfl
    have h := hko12
    clear hko12
    obtain ⟨y44, hy44, h⟩ := of_bind h
    obtain ⟨k45, hk45, h⟩ := of_sI h
    refine V_sreg (mb 209 8388608) [] (s1 := ⟨bt 23 (I k45 :: bt 185 []), []⟩) ?_ ?_
    ·refine L0 rfl rfl (E_move (.c (.sl (more2.map c5))) rfl (by kernel_rfl)) ?_
     refine L1 rfl rfl (Y1_call (s_laws_numberOf hy44) cf_laws_numberOf rfl (by kernel_rfl)) ?_
     refine L0 rfl rfl (Y0_rem (k := .i64) (a := y44) (b := 101) rfl (by kernel_rfl) (by kernel_rfl) (by decide)) ?_
     refine L0 rfl rfl (E_assign (I (Int.tmod y44 101)) rfl (by kernel_rfl)) ?_
     refine XL_nil ?_
     subst hk45
     kernel_rfl
    refine V_sreg (mb 209 25165824) [192] (s1 := ⟨bt 23 (I k45 :: .pt 192 0 :: bt 184 []), [(192, .box [Ti 1, Ti 0, Ti 1])]⟩) ?_ ?_
    ·refine L0 rfl rfl (Y0_build (cs := [Ti 1, Ti 0, Ti 1]) pl45 bt45 rfl rfl (by kernel_rfl)) ?_
     refine L1 rfl rfl (Y1_alloc (z := zv45) rfl zf45 rfl) ?_
     refine XL_cons rfl (E_store (id := 192) (off := 0) (cs := [Ti 0, Ti 0, Ti 0]) (vc := [Ti 1, Ti 0, Ti 1]) [Ti 1, Ti 0, Ti 1] rfl rfl (by kernel_rfl) (by kernel_rfl) (by kernel_rfl) sz45 (Nat.le_of_ble_eq_true rfl) (by kernel_rfl)) ?_
     refine XL_nil ?_
     kernel_rfl
    obtain ⟨y46, hy46, h⟩ := of_bind h
    refine V_sreg (mb 209 109051904) [] (s1 := ⟨bt 23 (I k45 :: .bot :: .c (.sl (y46.1.map c3)) :: Bo y46.2 :: bt 182 []), []⟩) ?_ ?_
    ·refine L0 rfl rfl (E_loadn (cs := [Ti 1, Ti 0, Ti 1]) [Ti 1, Ti 0, Ti 1] wd45 rfl (by kernel_rfl) (Nat.le_of_ble_eq_true rfl) (by kernel_rfl)) ?_
     refine L0 rfl rfl (E_loadn (cs := [Ti 1, Ti 0, Ti 1]) [Ti 1, Ti 0, Ti 1] wd45 rfl (by kernel_rfl) (Nat.le_of_ble_eq_true rfl) (by kernel_rfl)) ?_
     refine L0 rfl rfl (E_move (I k45) rfl (by kernel_rfl)) ?_
     refine L1 rfl rfl (Y1_call (s_impl_PairSeries hy46) cf_impl_PairSeries rfl (by kernel_rfl)) ?_
     refine L0 rfl rfl (E_move (.tc (.c (.sl (y46.1.map c3))) (.tc (Bo y46.2) .tn)) rfl (by kernel_rfl)) ?_
     refine L0 rfl rfl (E_ext (n := 0) (.c (.sl (y46.1.map c3))) (.tc (Bo y46.2) .tn) (.c (.sl (y46.1.map c3))) rfl (by kernel_rfl) (by kernel_rfl) (by intro hh; cases hh)) ?_
     refine L0 rfl rfl (E_ext (n := 1) (.c (.sl (y46.1.map c3))) (.tc (Bo y46.2) .tn) (Bo y46.2) rfl (by kernel_rfl) (by kernel_rfl) (by intro hh; cases hh)) ?_
     refine L0 rfl rfl (E_assign (.c (.sl (y46.1.map c3))) rfl (by kernel_rfl)) ?_
     refine L0 rfl rfl (E_assign (Bo y46.2) rfl (by kernel_rfl)) ?_
     refine XL_nil ?_
     kernel_rfl
    obtain ⟨y47, hy47, h⟩ := of_bind h
    refine V_sreg (mb 209 511705088) [] (s1 := ⟨bt 23 (I k45 :: .bot :: .c (.sl (y46.1.map c3)) :: Bo y46.2 :: I y47.1 :: Bo y47.2 :: bt 180 []), []⟩) ?_ ?_
    ·refine L0 rfl rfl (E_move (I k45) rfl (by kernel_rfl)) ?_
     refine L1 rfl rfl (Y1_call (s_impl_CountFour hy47) cf_impl_CountFour rfl (by kernel_rfl)) ?_
     refine L0 rfl rfl (E_move (.tc (I y47.1) (.tc (Bo y47.2) .tn)) rfl (by kernel_rfl)) ?_
     refine L0 rfl rfl (E_ext (n := 0) (I y47.1) (.tc (Bo y47.2) .tn) (I y47.1) rfl (by kernel_rfl) (by kernel_rfl) (by intro hh; cases hh)) ?_
     refine L0 rfl rfl (E_ext (n := 1) (I y47.1) (.tc (Bo y47.2) .tn) (Bo y47.2) rfl (by kernel_rfl) (by kernel_rfl) (by intro hh; cases hh)) ?_
     refine L0 rfl rfl (E_assign (I y47.1) rfl (by kernel_rfl)) ?_
     refine L0 rfl rfl (E_assign (Bo y47.2) rfl (by kernel_rfl)) ?_
     refine XL_nil ?_
     kernel_rfl
    obtain ⟨y48, hy48, h⟩ := of_bind h
    refine V_sreg (mb 209 2122317824) [] (s1 := ⟨bt 23 (I k45 :: .bot :: .c (.sl (y46.1.map c3)) :: Bo y46.2 :: I y47.1 :: Bo y47.2 :: I y48.1 :: Bo y48.2 :: bt 178 []), []⟩) ?_ ?_
    ·refine L0 rfl rfl (E_move (I k45) rfl (by kernel_rfl)) ?_
     refine L1 rfl rfl (Y1_call (s_spec_CountFour hy48) cf_spec_CountFour rfl (by kernel_rfl)) ?_
     refine L0 rfl rfl (E_move (.tc (I y48.1) (.tc (Bo y48.2) .tn)) rfl (by kernel_rfl)) ?_
     refine L0 rfl rfl (E_ext (n := 0) (I y48.1) (.tc (Bo y48.2) .tn) (I y48.1) rfl (by kernel_rfl) (by kernel_rfl) (by intro hh; cases hh)) ?_
     refine L0 rfl rfl (E_ext (n := 1) (I y48.1) (.tc (Bo y48.2) .tn) (Bo y48.2) rfl (by kernel_rfl) (by kernel_rfl) (by intro hh; cases hh)) ?_
     refine L0 rfl rfl (E_assign (I y48.1) rfl (by kernel_rfl)) ?_
     refine L0 rfl rfl (E_assign (Bo y48.2) rfl (by kernel_rfl)) ?_
     refine XL_nil ?_
     kernel_rfl
    obtain ⟨b55, hb55, h⟩ := of_bind h
    refine V_sreg (mb 209 16) [] (s1 := ⟨bt 4 (Bo b55 :: bt 204 []), []⟩) ?_ ?_
    ·refine L0 rfl rfl (E_move (Bo y46.2) rfl (by kernel_rfl)) ?_
     refine L0 rfl rfl (E_move (Bo y46.2) rfl (by kernel_rfl)) ?_
     refine XL_split y46.2 (fun hc49 => ?_) (fun hc49 => ?_)
     ·refine XL_takeC _ rfl rfl (by kernel_rfl) hc49 (X_of_Y0 rfl (E_move (.c (.sl (y46.1.map c3))) rfl (by kernel_rfl))) ?_
      refine XL_takeC _ rfl rfl (by kernel_rfl) hc49 (X_of_Y0 rfl (Y0_lenM (c := c3) (xs := y46.1) Try.underlying41 rfl (by kernel_rfl))) ?_
      refine XL_takeC _ rfl rfl (by kernel_rfl) hc49 (X_of_Y0 rfl (E_move (I k45) rfl (by kernel_rfl))) ?_
      refine XL_takeC _ rfl rfl (by kernel_rfl) hc49 (X_of_Y0 rfl (Y0_add64 (a := k45) (b := 1) rfl (by kernel_rfl) (by kernel_rfl))) ?_
      refine XL_takeC _ rfl rfl (by kernel_rfl) hc49 (X_of_Y0 rfl (Y0_eqw (k := .i64) (a := (y46.1.length : Int)) (b := w64 (k45 + 1)) rfl (by kernel_rfl) (by kernel_rfl))) ?_
      refine XL_cons rfl (X_of_Y0 rfl (Y0_pick1 (b := y46.2) (p := eqI ((y46.1.length : Int)) (w64 (k45 + 1))) (q := false) rfl (by kernel_rfl) hc49 (by kernel_rfl))) ?_
      refine L0 rfl rfl (E_move (Bo (bif y46.2 then (eqI ((y46.1.length : Int)) (w64 (k45 + 1))) else false)) rfl (by kernel_rfl)) ?_
      refine XL_split (bif y46.2 then (eqI ((y46.1.length : Int)) (w64 (k45 + 1))) else false) (fun hc50 => ?_) (fun hc50 => ?_)
      ·refine XL_takeC _ rfl rfl (by kernel_rfl) hc50 (X_of_Y0 rfl (E_move (Bo y47.2) rfl (by kernel_rfl))) ?_
       refine XL_cons rfl (X_of_Y0 rfl (Y0_pick1 (b := bif y46.2 then (eqI ((y46.1.length : Int)) (w64 (k45 + 1))) else false) (p := y47.2) (q := false) rfl (by kernel_rfl) hc50 (by kernel_rfl))) ?_
       refine L0 rfl rfl (E_move (Bo (bif (bif y46.2 then (eqI ((y46.1.length : Int)) (w64 (k45 + 1))) else false) then y47.2 else false)) rfl (by kernel_rfl)) ?_
       refine XL_split (bif (bif y46.2 then (eqI ((y46.1.length : Int)) (w64 (k45 + 1))) else false) then y47.2 else false) (fun hc51 => ?_) (fun hc51 => ?_)
       ·refine XL_takeC _ rfl rfl (by kernel_rfl) hc51 (X_of_Y0 rfl (E_move (Bo y48.2) rfl (by kernel_rfl))) ?_
        refine XL_cons rfl (X_of_Y0 rfl (Y0_pick1 (b := bif (bif y46.2 then (eqI ((y46.1.length : Int)) (w64 (k45 + 1))) else false) then y47.2 else false) (p := y48.2) (q := false) rfl (by kernel_rfl) hc51 (by kernel_rfl))) ?_
        refine L0 rfl rfl (E_move (Bo (bif (bif (bif y46.2 then (eqI ((y46.1.length : Int)) (w64 (k45 + 1))) else false) then y47.2 else false) then y48.2 else false)) rfl (by kernel_rfl)) ?_
        refine XL_split (bif (bif (bif y46.2 then (eqI ((y46.1.length : Int)) (w64 (k45 + 1))) else false) then y47.2 else false) then y48.2 else false) (fun hc52 => ?_) (fun hc52 => ?_)
        ·refine XL_takeC _ rfl rfl (by kernel_rfl) hc52 (X_of_Y0 rfl (E_move (I y47.1) rfl (by kernel_rfl))) ?_
         refine XL_takeC _ rfl rfl (by kernel_rfl) hc52 (X_of_Y0 rfl (E_move (I y48.1) rfl (by kernel_rfl))) ?_
         refine XL_takeC _ rfl rfl (by kernel_rfl) hc52 (X_of_Y0 rfl (Y0_eqw (k := .i64) (a := y47.1) (b := y48.1) rfl (by kernel_rfl) (by kernel_rfl))) ?_
         refine XL_cons rfl (X_of_Y0 rfl (Y0_pick1 (b := bif (bif (bif y46.2 then (eqI ((y46.1.length : Int)) (w64 (k45 + 1))) else false) then y47.2 else false) then y48.2 else false) (p := eqI y47.1 y48.1) (q := false) rfl (by kernel_rfl) hc52 (by kernel_rfl))) ?_
         refine L0 rfl rfl (E_move (Bo (bif (bif (bif (bif y46.2 then (eqI ((y46.1.length : Int)) (w64 (k45 + 1))) else false) then y47.2 else false) then y48.2 else false) then (eqI y47.1 y48.1) else false)) rfl (by kernel_rfl)) ?_
         refine XL_split (bif (bif (bif (bif y46.2 then (eqI ((y46.1.length : Int)) (w64 (k45 + 1))) else false) then y47.2 else false) then y48.2 else false) then (eqI y47.1 y48.1) else false) (fun hc53 => ?_) (fun hc53 => ?_)
         ·have hb55 := of_true hb55 hc53
          obtain ⟨e54, he54, hb55⟩ := of_bind hb55
          have hb55 := some_inj hb55
          refine XL_takeC _ rfl rfl (by kernel_rfl) hc53 (X_of_Y0 rfl (E_move (.c (.sl (y46.1.map c3))) rfl (by kernel_rfl))) ?_
          refine XL_takeC _ rfl rfl (by kernel_rfl) hc53 (X_of_Y0 rfl (E_move (I k45) rfl (by kernel_rfl))) ?_
          refine XL_takeC _ rfl rfl (by kernel_rfl) hc53 (X_of_Y0 rfl (Y0_idxM (c := c3) (xs := y46.1) (v := e54) (n := k45) Try.underlying41 sz3 rfl (by kernel_rfl) (by kernel_rfl) he54)) ?_
          refine XL_takeC _ rfl rfl (by kernel_rfl) hc53 (X_of_Y0 rfl (Y0_load1 (c := Ti e54) (cs := []) sc3 rfl (by kernel_rfl))) ?_
          refine XL_takeC _ rfl rfl (by kernel_rfl) hc53 (X_of_Y0 rfl (E_move (I y47.1) rfl (by kernel_rfl))) ?_
          refine XL_takeC _ rfl rfl (by kernel_rfl) hc53 (X_of_Y0 rfl (Y0_eqw (k := .i64) (a := e54) (b := y47.1) rfl (by kernel_rfl) (by kernel_rfl))) ?_
          refine XL_cons rfl (X_of_Y0 rfl (Y0_pickTe (b := bif (bif (bif (bif y46.2 then (eqI ((y46.1.length : Int)) (w64 (k45 + 1))) else false) then y47.2 else false) then y48.2 else false) then (eqI y47.1 y48.1) else false) (p := eqI e54 y47.1) rfl (by kernel_rfl) hc53 (by kernel_rfl) hb55)) ?_
          refine L0 rfl rfl (E_assign (Bo b55) rfl (by kernel_rfl)) ?_
          refine XL_nil ?_
          kernel_rfl
         ·have hb55 := some_inj (of_false hb55 hc53)
          refine XL_skipT _ rfl rfl (by kernel_rfl) hc53 rfl ?_
          refine XL_skipT _ rfl rfl (by kernel_rfl) hc53 rfl ?_
          refine XL_skipT _ rfl rfl (by kernel_rfl) hc53 rfl ?_
          refine XL_skipT _ rfl rfl (by kernel_rfl) hc53 rfl ?_
          refine XL_skipT _ rfl rfl (by kernel_rfl) hc53 rfl ?_
          refine XL_skipT _ rfl rfl (by kernel_rfl) hc53 rfl ?_
          refine XL_cons rfl (X_of_Y0 rfl (Y0_pickFe (b := bif (bif (bif (bif y46.2 then (eqI ((y46.1.length : Int)) (w64 (k45 + 1))) else false) then y47.2 else false) then y48.2 else false) then (eqI y47.1 y48.1) else false) (p := false) rfl (by kernel_rfl) hc53 (by kernel_rfl) hb55)) ?_
          refine L0 rfl rfl (E_assign (Bo b55) rfl (by kernel_rfl)) ?_
          refine XL_nil ?_
          kernel_rfl
        ·refine XL_skipT _ rfl rfl (by kernel_rfl) hc52 rfl ?_
         refine XL_skipT _ rfl rfl (by kernel_rfl) hc52 rfl ?_
         refine XL_skipT _ rfl rfl (by kernel_rfl) hc52 rfl ?_
         refine XL_cons rfl (X_of_Y0 rfl (Y0_pick0 (b := bif (bif (bif y46.2 then (eqI ((y46.1.length : Int)) (w64 (k45 + 1))) else false) then y47.2 else false) then y48.2 else false) (p := eqI y47.1 y48.1) (q := false) rfl (by kernel_rfl) hc52 (by kernel_rfl))) ?_
         refine L0 rfl rfl (E_move (Bo (bif (bif (bif (bif y46.2 then (eqI ((y46.1.length : Int)) (w64 (k45 + 1))) else false) then y47.2 else false) then y48.2 else false) then (eqI y47.1 y48.1) else false)) rfl (by kernel_rfl)) ?_
         refine XL_split (bif (bif (bif (bif y46.2 then (eqI ((y46.1.length : Int)) (w64 (k45 + 1))) else false) then y47.2 else false) then y48.2 else false) then (eqI y47.1 y48.1) else false) (fun hc53 => ?_) (fun hc53 => ?_)
         ·have hb55 := of_true hb55 hc53
          obtain ⟨e54, he54, hb55⟩ := of_bind hb55
          have hb55 := some_inj hb55
          refine XL_takeC _ rfl rfl (by kernel_rfl) hc53 (X_of_Y0 rfl (E_move (.c (.sl (y46.1.map c3))) rfl (by kernel_rfl))) ?_
          refine XL_takeC _ rfl rfl (by kernel_rfl) hc53 (X_of_Y0 rfl (E_move (I k45) rfl (by kernel_rfl))) ?_
          refine XL_takeC _ rfl rfl (by kernel_rfl) hc53 (X_of_Y0 rfl (Y0_idxM (c := c3) (xs := y46.1) (v := e54) (n := k45) Try.underlying41 sz3 rfl (by kernel_rfl) (by kernel_rfl) he54)) ?_
          refine XL_takeC _ rfl rfl (by kernel_rfl) hc53 (X_of_Y0 rfl (Y0_load1 (c := Ti e54) (cs := []) sc3 rfl (by kernel_rfl))) ?_
          refine XL_takeC _ rfl rfl (by kernel_rfl) hc53 (X_of_Y0 rfl (E_move (I y47.1) rfl (by kernel_rfl))) ?_
          refine XL_takeC _ rfl rfl (by kernel_rfl) hc53 (X_of_Y0 rfl (Y0_eqw (k := .i64) (a := e54) (b := y47.1) rfl (by kernel_rfl) (by kernel_rfl))) ?_
          refine XL_cons rfl (X_of_Y0 rfl (Y0_pickTe (b := bif (bif (bif (bif y46.2 then (eqI ((y46.1.length : Int)) (w64 (k45 + 1))) else false) then y47.2 else false) then y48.2 else false) then (eqI y47.1 y48.1) else false) (p := eqI e54 y47.1) rfl (by kernel_rfl) hc53 (by kernel_rfl) hb55)) ?_
          refine L0 rfl rfl (E_assign (Bo b55) rfl (by kernel_rfl)) ?_
          refine XL_nil ?_
          kernel_rfl
         ·have hb55 := some_inj (of_false hb55 hc53)
          refine XL_skipT _ rfl rfl (by kernel_rfl) hc53 rfl ?_
          refine XL_skipT _ rfl rfl (by kernel_rfl) hc53 rfl ?_
          refine XL_skipT _ rfl rfl (by kernel_rfl) hc53 rfl ?_
          refine XL_skipT _ rfl rfl (by kernel_rfl) hc53 rfl ?_
          refine XL_skipT _ rfl rfl (by kernel_rfl) hc53 rfl ?_
          refine XL_skipT _ rfl rfl (by kernel_rfl) hc53 rfl ?_
          refine XL_cons rfl (X_of_Y0 rfl (Y0_pickFe (b := bif (bif (bif (bif y46.2 then (eqI ((y46.1.length : Int)) (w64 (k45 + 1))) else false) then y47.2 else false) then y48.2 else false) then (eqI y47.1 y48.1) else false) (p := false) rfl (by kernel_rfl) hc53 (by kernel_rfl) hb55)) ?_
          refine L0 rfl rfl (E_assign (Bo b55) rfl (by kernel_rfl)) ?_
          refine XL_nil ?_
          kernel_rfl
       ·refine XL_skipT _ rfl rfl (by kernel_rfl) hc51 rfl ?_
        refine XL_cons rfl (X_of_Y0 rfl (Y0_pick0 (b := bif (bif y46.2 then (eqI ((y46.1.length : Int)) (w64 (k45 + 1))) else false) then y47.2 else false) (p := y48.2) (q := false) rfl (by kernel_rfl) hc51 (by kernel_rfl))) ?_
        refine L0 rfl rfl (E_move (Bo (bif (bif (bif y46.2 then (eqI ((y46.1.length : Int)) (w64 (k45 + 1))) else false) then y47.2 else false) then y48.2 else false)) rfl (by kernel_rfl)) ?_
        refine XL_split (bif (bif (bif y46.2 then (eqI ((y46.1.length : Int)) (w64 (k45 + 1))) else false) then y47.2 else false) then y48.2 else false) (fun hc52 => ?_) (fun hc52 => ?_)
        ·refine XL_takeC _ rfl rfl (by kernel_rfl) hc52 (X_of_Y0 rfl (E_move (I y47.1) rfl (by kernel_rfl))) ?_
         refine XL_takeC _ rfl rfl (by kernel_rfl) hc52 (X_of_Y0 rfl (E_move (I y48.1) rfl (by kernel_rfl))) ?_
         refine XL_takeC _ rfl rfl (by kernel_rfl) hc52 (X_of_Y0 rfl (Y0_eqw (k := .i64) (a := y47.1) (b := y48.1) rfl (by kernel_rfl) (by kernel_rfl))) ?_
         refine XL_cons rfl (X_of_Y0 rfl (Y0_pick1 (b := bif (bif (bif y46.2 then (eqI ((y46.1.length : Int)) (w64 (k45 + 1))) else false) then y47.2 else false) then y48.2 else false) (p := eqI y47.1 y48.1) (q := false) rfl (by kernel_rfl) hc52 (by kernel_rfl))) ?_
         refine L0 rfl rfl (E_move (Bo (bif (bif (bif (bif y46.2 then (eqI ((y46.1.length : Int)) (w64 (k45 + 1))) else false) then y47.2 else false) then y48.2 else false) then (eqI y47.1 y48.1) else false)) rfl (by kernel_rfl)) ?_
         refine XL_split (bif (bif (bif (bif y46.2 then (eqI ((y46.1.length : Int)) (w64 (k45 + 1))) else false) then y47.2 else false) then y48.2 else false) then (eqI y47.1 y48.1) else false) (fun hc53 => ?_) (fun hc53 => ?_)
         ·have hb55 := of_true hb55 hc53
          obtain ⟨e54, he54, hb55⟩ := of_bind hb55
          have hb55 := some_inj hb55
          refine XL_takeC _ rfl rfl (by kernel_rfl) hc53 (X_of_Y0 rfl (E_move (.c (.sl (y46.1.map c3))) rfl (by kernel_rfl))) ?_
          refine XL_takeC _ rfl rfl (by kernel_rfl) hc53 (X_of_Y0 rfl (E_move (I k45) rfl (by kernel_rfl))) ?_
          refine XL_takeC _ rfl rfl (by kernel_rfl) hc53 (X_of_Y0 rfl (Y0_idxM (c := c3) (xs := y46.1) (v := e54) (n := k45) Try.underlying41 sz3 rfl (by kernel_rfl) (by kernel_rfl) he54)) ?_
          refine XL_takeC _ rfl rfl (by kernel_rfl) hc53 (X_of_Y0 rfl (Y0_load1 (c := Ti e54) (cs := []) sc3 rfl (by kernel_rfl))) ?_
          refine XL_takeC _ rfl rfl (by kernel_rfl) hc53 (X_of_Y0 rfl (E_move (I y47.1) rfl (by kernel_rfl))) ?_
          refine XL_takeC _ rfl rfl (by kernel_rfl) hc53 (X_of_Y0 rfl (Y0_eqw (k := .i64) (a := e54) (b := y47.1) rfl (by kernel_rfl) (by kernel_rfl))) ?_
          refine XL_cons rfl (X_of_Y0 rfl (Y0_pickTe (b := bif (bif (bif (bif y46.2 then (eqI ((y46.1.length : Int)) (w64 (k45 + 1))) else false) then y47.2 else false) then y48.2 else false) then (eqI y47.1 y48.1) else false) (p := eqI e54 y47.1) rfl (by kernel_rfl) hc53 (by kernel_rfl) hb55)) ?_
          refine L0 rfl rfl (E_assign (Bo b55) rfl (by kernel_rfl)) ?_
          refine XL_nil ?_
          kernel_rfl
         ·have hb55 := some_inj (of_false hb55 hc53)
          refine XL_skipT _ rfl rfl (by kernel_rfl) hc53 rfl ?_
          refine XL_skipT _ rfl rfl (by kernel_rfl) hc53 rfl ?_
          refine XL_skipT _ rfl rfl (by kernel_rfl) hc53 rfl ?_
          refine XL_skipT _ rfl rfl (by kernel_rfl) hc53 rfl ?_
          refine XL_skipT _ rfl rfl (by kernel_rfl) hc53 rfl ?_
          refine XL_skipT _ rfl rfl (by kernel_rfl) hc53 rfl ?_
          refine XL_cons rfl (X_of_Y0 rfl (Y0_pickFe (b := bif (bif (bif (bif y46.2 then (eqI ((y46.1.length : Int)) (w64 (k45 + 1))) else false) then y47.2 else false) then y48.2 else false) then (eqI y47.1 y48.1) else false) (p := false) rfl (by kernel_rfl) hc53 (by kernel_rfl) hb55)) ?_
          refine L0 rfl rfl (E_assign (Bo b55) rfl (by kernel_rfl)) ?_
          refine XL_nil ?_
          kernel_rfl
        ·refine XL_skipT _ rfl rfl (by kernel_rfl) hc52 rfl ?_
         refine XL_skipT _ rfl rfl (by kernel_rfl) hc52 rfl ?_
         refine XL_skipT _ rfl rfl (by kernel_rfl) hc52 rfl ?_
         refine XL_cons rfl (X_of_Y0 rfl (Y0_pick0 (b := bif (bif (bif y46.2 then (eqI ((y46.1.length : Int)) (w64 (k45 + 1))) else false) then y47.2 else false) then y48.2 else false) (p := eqI y47.1 y48.1) (q := false) rfl (by kernel_rfl) hc52 (by kernel_rfl))) ?_
         refine L0 rfl rfl (E_move (Bo (bif (bif (bif (bif y46.2 then (eqI ((y46.1.length : Int)) (w64 (k45 + 1))) else false) then y47.2 else false) then y48.2 else false) then (eqI y47.1 y48.1) else false)) rfl (by kernel_rfl)) ?_
         refine XL_split (bif (bif (bif (bif y46.2 then (eqI ((y46.1.length : Int)) (w64 (k45 + 1))) else false) then y47.2 else false) then y48.2 else false) then (eqI y47.1 y48.1) else false) (fun hc53 => ?_) (fun hc53 => ?_)
         ·have hb55 := of_true hb55 hc53
          obtain ⟨e54, he54, hb55⟩ := of_bind hb55
          have hb55 := some_inj hb55
          refine XL_takeC _ rfl rfl (by kernel_rfl) hc53 (X_of_Y0 rfl (E_move (.c (.sl (y46.1.map c3))) rfl (by kernel_rfl))) ?_
          refine XL_takeC _ rfl rfl (by kernel_rfl) hc53 (X_of_Y0 rfl (E_move (I k45) rfl (by kernel_rfl))) ?_
          refine XL_takeC _ rfl rfl (by kernel_rfl) hc53 (X_of_Y0 rfl (Y0_idxM (c := c3) (xs := y46.1) (v := e54) (n := k45) Try.underlying41 sz3 rfl (by kernel_rfl) (by kernel_rfl) he54)) ?_
          refine XL_takeC _ rfl rfl (by kernel_rfl) hc53 (X_of_Y0 rfl (Y0_load1 (c := Ti e54) (cs := []) sc3 rfl (by kernel_rfl))) ?_
          refine XL_takeC _ rfl rfl (by kernel_rfl) hc53 (X_of_Y0 rfl (E_move (I y47.1) rfl (by kernel_rfl))) ?_
          refine XL_takeC _ rfl rfl (by kernel_rfl) hc53 (X_of_Y0 rfl (Y0_eqw (k := .i64) (a := e54) (b := y47.1) rfl (by kernel_rfl) (by kernel_rfl))) ?_
          refine XL_cons rfl (X_of_Y0 rfl (Y0_pickTe (b := bif (bif (bif (bif y46.2 then (eqI ((y46.1.length : Int)) (w64 (k45 + 1))) else false) then y47.2 else false) then y48.2 else false) then (eqI y47.1 y48.1) else false) (p := eqI e54 y47.1) rfl (by kernel_rfl) hc53 (by kernel_rfl) hb55)) ?_
          refine L0 rfl rfl (E_assign (Bo b55) rfl (by kernel_rfl)) ?_
          refine XL_nil ?_
          kernel_rfl
         ·have hb55 := some_inj (of_false hb55 hc53)
          refine XL_skipT _ rfl rfl (by kernel_rfl) hc53 rfl ?_
          refine XL_skipT _ rfl rfl (by kernel_rfl) hc53 rfl ?_
          refine XL_skipT _ rfl rfl (by kernel_rfl) hc53 rfl ?_
          refine XL_skipT _ rfl rfl (by kernel_rfl) hc53 rfl ?_
          refine XL_skipT _ rfl rfl (by kernel_rfl) hc53 rfl ?_
          refine XL_skipT _ rfl rfl (by kernel_rfl) hc53 rfl ?_
          refine XL_cons rfl (X_of_Y0 rfl (Y0_pickFe (b := bif (bif (bif (bif y46.2 then (eqI ((y46.1.length : Int)) (w64 (k45 + 1))) else false) then y47.2 else false) then y48.2 else false) then (eqI y47.1 y48.1) else false) (p := false) rfl (by kernel_rfl) hc53 (by kernel_rfl) hb55)) ?_
          refine L0 rfl rfl (E_assign (Bo b55) rfl (by kernel_rfl)) ?_
          refine XL_nil ?_
          kernel_rfl
      ·refine XL_skipT _ rfl rfl (by kernel_rfl) hc50 rfl ?_
       refine XL_cons rfl (X_of_Y0 rfl (Y0_pick0 (b := bif y46.2 then (eqI ((y46.1.length : Int)) (w64 (k45 + 1))) else false) (p := y47.2) (q := false) rfl (by kernel_rfl) hc50 (by kernel_rfl))) ?_
       refine L0 rfl rfl (E_move (Bo (bif (bif y46.2 then (eqI ((y46.1.length : Int)) (w64 (k45 + 1))) else false) then y47.2 else false)) rfl (by kernel_rfl)) ?_
       refine XL_split (bif (bif y46.2 then (eqI ((y46.1.length : Int)) (w64 (k45 + 1))) else false) then y47.2 else false) (fun hc51 => ?_) (fun hc51 => ?_)
       ·refine XL_takeC _ rfl rfl (by kernel_rfl) hc51 (X_of_Y0 rfl (E_move (Bo y48.2) rfl (by kernel_rfl))) ?_
        refine XL_cons rfl (X_of_Y0 rfl (Y0_pick1 (b := bif (bif y46.2 then (eqI ((y46.1.length : Int)) (w64 (k45 + 1))) else false) then y47.2 else false) (p := y48.2) (q := false) rfl (by kernel_rfl) hc51 (by kernel_rfl))) ?_
        refine L0 rfl rfl (E_move (Bo (bif (bif (bif y46.2 then (eqI ((y46.1.length : Int)) (w64 (k45 + 1))) else false) then y47.2 else false) then y48.2 else false)) rfl (by kernel_rfl)) ?_
        refine XL_split (bif (bif (bif y46.2 then (eqI ((y46.1.length : Int)) (w64 (k45 + 1))) else false) then y47.2 else false) then y48.2 else false) (fun hc52 => ?_) (fun hc52 => ?_)
        ·refine XL_takeC _ rfl rfl (by kernel_rfl) hc52 (X_of_Y0 rfl (E_move (I y47.1) rfl (by kernel_rfl))) ?_
         refine XL_takeC _ rfl rfl (by kernel_rfl) hc52 (X_of_Y0 rfl (E_move (I y48.1) rfl (by kernel_rfl))) ?_
         refine XL_takeC _ rfl rfl (by kernel_rfl) hc52 (X_of_Y0 rfl (Y0_eqw (k := .i64) (a := y47.1) (b := y48.1) rfl (by kernel_rfl) (by kernel_rfl))) ?_
         refine XL_cons rfl (X_of_Y0 rfl (Y0_pick1 (b := bif (bif (bif y46.2 then (eqI ((y46.1.length : Int)) (w64 (k45 + 1))) else false) then y47.2 else false) then y48.2 else false) (p := eqI y47.1 y48.1) (q := false) rfl (by kernel_rfl) hc52 (by kernel_rfl))) ?_
         refine L0 rfl rfl (E_move (Bo (bif (bif (bif (bif y46.2 then (eqI ((y46.1.length : Int)) (w64 (k45 + 1))) else false) then y47.2 else false) then y48.2 else false) then (eqI y47.1 y48.1) else false)) rfl (by kernel_rfl)) ?_
         refine XL_split (bif (bif (bif (bif y46.2 then (eqI ((y46.1.length : Int)) (w64 (k45 + 1))) else false) then y47.2 else false) then y48.2 else false) then (eqI y47.1 y48.1) else false) (fun hc53 => ?_) (fun hc53 => ?_)
         ·have hb55 := of_true hb55 hc53
          obtain ⟨e54, he54, hb55⟩ := of_bind hb55
          have hb55 := some_inj hb55
          refine XL_takeC _ rfl rfl (by kernel_rfl) hc53 (X_of_Y0 rfl (E_move (.c (.sl (y46.1.map c3))) rfl (by kernel_rfl))) ?_
          refine XL_takeC _ rfl rfl (by kernel_rfl) hc53 (X_of_Y0 rfl (E_move (I k45) rfl (by kernel_rfl))) ?_
          refine XL_takeC _ rfl rfl (by kernel_rfl) hc53 (X_of_Y0 rfl (Y0_idxM (c := c3) (xs := y46.1) (v := e54) (n := k45) Try.underlying41 sz3 rfl (by kernel_rfl) (by kernel_rfl) he54)) ?_
          refine XL_takeC _ rfl rfl (by kernel_rfl) hc53 (X_of_Y0 rfl (Y0_load1 (c := Ti e54) (cs := []) sc3 rfl (by kernel_rfl))) ?_
          refine XL_takeC _ rfl rfl (by kernel_rfl) hc53 (X_of_Y0 rfl (E_move (I y47.1) rfl (by kernel_rfl))) ?_
          refine XL_takeC _ rfl rfl (by kernel_rfl) hc53 (X_of_Y0 rfl (Y0_eqw (k := .i64) (a := e54) (b := y47.1) rfl (by kernel_rfl) (by kernel_rfl))) ?_
          refine XL_cons rfl (X_of_Y0 rfl (Y0_pickTe (b := bif (bif (bif (bif y46.2 then (eqI ((y46.1.length : Int)) (w64 (k45 + 1))) else false) then y47.2 else false) then y48.2 else false) then (eqI y47.1 y48.1) else false) (p := eqI e54 y47.1) rfl (by kernel_rfl) hc53 (by kernel_rfl) hb55)) ?_
          refine L0 rfl rfl (E_assign (Bo b55) rfl (by kernel_rfl)) ?_
          refine XL_nil ?_
          kernel_rfl
         ·have hb55 := some_inj (of_false hb55 hc53)
          refine XL_skipT _ rfl rfl (by kernel_rfl) hc53 rfl ?_
          refine XL_skipT _ rfl rfl (by kernel_rfl) hc53 rfl ?_
          refine XL_skipT _ rfl rfl (by kernel_rfl) hc53 rfl ?_
          refine XL_skipT _ rfl rfl (by kernel_rfl) hc53 rfl ?_
          refine XL_skipT _ rfl rfl (by kernel_rfl) hc53 rfl ?_
          refine XL_skipT _ rfl rfl (by kernel_rfl) hc53 rfl ?_
          refine XL_cons rfl (X_of_Y0 rfl (Y0_pickFe (b := bif (bif (bif (bif y46.2 then (eqI ((y46.1.length : Int)) (w64 (k45 + 1))) else false) then y47.2 else false) then y48.2 else false) then (eqI y47.1 y48.1) else false) (p := false) rfl (by kernel_rfl) hc53 (by kernel_rfl) hb55)) ?_
          refine L0 rfl rfl (E_assign (Bo b55) rfl (by kernel_rfl)) ?_
          refine XL_nil ?_
          kernel_rfl
        ·refine XL_skipT _ rfl rfl (by kernel_rfl) hc52 rfl ?_
         refine XL_skipT _ rfl rfl (by kernel_rfl) hc52 rfl ?_
         refine XL_skipT _ rfl rfl (by kernel_rfl) hc52 rfl ?_
         refine XL_cons rfl (X_of_Y0 rfl (Y0_pick0 (b := bif (bif (bif y46.2 then (eqI ((y46.1.length : Int)) (w64 (k45 + 1))) else false) then y47.2 else false) then y48.2 else false) (p := eqI y47.1 y48.1) (q := false) rfl (by kernel_rfl) hc52 (by kernel_rfl))) ?_
         refine L0 rfl rfl (E_move (Bo (bif (bif (bif (bif y46.2 then (eqI ((y46.1.length : Int)) (w64 (k45 + 1))) else false) then y47.2 else false) then y48.2 else false) then (eqI y47.1 y48.1) else false)) rfl (by kernel_rfl)) ?_
         refine XL_split (bif (bif (bif (bif y46.2 then (eqI ((y46.1.length : Int)) (w64 (k45 + 1))) else false) then y47.2 else false) then y48.2 else false) then (eqI y47.1 y48.1) else false) (fun hc53 => ?_) (fun hc53 => ?_)
         ·have hb55 := of_true hb55 hc53
          obtain ⟨e54, he54, hb55⟩ := of_bind hb55
          have hb55 := some_inj hb55
          refine XL_takeC _ rfl rfl (by kernel_rfl) hc53 (X_of_Y0 rfl (E_move (.c (.sl (y46.1.map c3))) rfl (by kernel_rfl))) ?_
          refine XL_takeC _ rfl rfl (by kernel_rfl) hc53 (X_of_Y0 rfl (E_move (I k45) rfl (by kernel_rfl))) ?_
          refine XL_takeC _ rfl rfl (by kernel_rfl) hc53 (X_of_Y0 rfl (Y0_idxM (c := c3) (xs := y46.1) (v := e54) (n := k45) Try.underlying41 sz3 rfl (by kernel_rfl) (by kernel_rfl) he54)) ?_
          refine XL_takeC _ rfl rfl (by kernel_rfl) hc53 (X_of_Y0 rfl (Y0_load1 (c := Ti e54) (cs := []) sc3 rfl (by kernel_rfl))) ?_
          refine XL_takeC _ rfl rfl (by kernel_rfl) hc53 (X_of_Y0 rfl (E_move (I y47.1) rfl (by kernel_rfl))) ?_
          refine XL_takeC _ rfl rfl (by kernel_rfl) hc53 (X_of_Y0 rfl (Y0_eqw (k := .i64) (a := e54) (b := y47.1) rfl (by kernel_rfl) (by kernel_rfl))) ?_
          refine XL_cons rfl (X_of_Y0 rfl (Y0_pickTe (b := bif (bif (bif (bif y46.2 then (eqI ((y46.1.length : Int)) (w64 (k45 + 1))) else false) then y47.2 else false) then y48.2 else false) then (eqI y47.1 y48.1) else false) (p := eqI e54 y47.1) rfl (by kernel_rfl) hc53 (by kernel_rfl) hb55)) ?_
          refine L0 rfl rfl (E_assign (Bo b55) rfl (by kernel_rfl)) ?_
          refine XL_nil ?_
          kernel_rfl
         ·have hb55 := some_inj (of_false hb55 hc53)
          refine XL_skipT _ rfl rfl (by kernel_rfl) hc53 rfl ?_
          refine XL_skipT _ rfl rfl (by kernel_rfl) hc53 rfl ?_
          refine XL_skipT _ rfl rfl (by kernel_rfl) hc53 rfl ?_
          refine XL_skipT _ rfl rfl (by kernel_rfl) hc53 rfl ?_
          refine XL_skipT _ rfl rfl (by kernel_rfl) hc53 rfl ?_
          refine XL_skipT _ rfl rfl (by kernel_rfl) hc53 rfl ?_
          refine XL_cons rfl (X_of_Y0 rfl (Y0_pickFe (b := bif (bif (bif (bif y46.2 then (eqI ((y46.1.length : Int)) (w64 (k45 + 1))) else false) then y47.2 else false) then y48.2 else false) then (eqI y47.1 y48.1) else false) (p := false) rfl (by kernel_rfl) hc53 (by kernel_rfl) hb55)) ?_
          refine L0 rfl rfl (E_assign (Bo b55) rfl (by kernel_rfl)) ?_
          refine XL_nil ?_
          kernel_rfl
       ·refine XL_skipT _ rfl rfl (by kernel_rfl) hc51 rfl ?_
        refine XL_cons rfl (X_of_Y0 rfl (Y0_pick0 (b := bif (bif y46.2 then (eqI ((y46.1.length : Int)) (w64 (k45 + 1))) else false) then y47.2 else false) (p := y48.2) (q := false) rfl (by kernel_rfl) hc51 (by kernel_rfl))) ?_
        refine L0 rfl rfl (E_move (Bo (bif (bif (bif y46.2 then (eqI ((y46.1.length : Int)) (w64 (k45 + 1))) else false) then y47.2 else false) then y48.2 else false)) rfl (by kernel_rfl)) ?_
        refine XL_split (bif (bif (bif y46.2 then (eqI ((y46.1.length : Int)) (w64 (k45 + 1))) else false) then y47.2 else false) then y48.2 else false) (fun hc52 => ?_) (fun hc52 => ?_)
        ·refine XL_takeC _ rfl rfl (by kernel_rfl) hc52 (X_of_Y0 rfl (E_move (I y47.1) rfl (by kernel_rfl))) ?_
         refine XL_takeC _ rfl rfl (by kernel_rfl) hc52 (X_of_Y0 rfl (E_move (I y48.1) rfl (by kernel_rfl))) ?_
         refine XL_takeC _ rfl rfl (by kernel_rfl) hc52 (X_of_Y0 rfl (Y0_eqw (k := .i64) (a := y47.1) (b := y48.1) rfl (by kernel_rfl) (by kernel_rfl))) ?_
         refine XL_cons rfl (X_of_Y0 rfl (Y0_pick1 (b := bif (bif (bif y46.2 then (eqI ((y46.1.length : Int)) (w64 (k45 + 1))) else false) then y47.2 else false) then y48.2 else false) (p := eqI y47.1 y48.1) (q := false) rfl (by kernel_rfl) hc52 (by kernel_rfl))) ?_
         refine L0 rfl rfl (E_move (Bo (bif (bif (bif (bif y46.2 then (eqI ((y46.1.length : Int)) (w64 (k45 + 1))) else false) then y47.2 else false) then y48.2 else false) then (eqI y47.1 y48.1) else false)) rfl (by kernel_rfl)) ?_
         refine XL_split (bif (bif (bif (bif y46.2 then (eqI ((y46.1.length : Int)) (w64 (k45 + 1))) else false) then y47.2 else false) then y48.2 else false) then (eqI y47.1 y48.1) else false) (fun hc53 => ?_) (fun hc53 => ?_)
         ·have hb55 := of_true hb55 hc53
          obtain ⟨e54, he54, hb55⟩ := of_bind hb55
          have hb55 := some_inj hb55
          refine XL_takeC _ rfl rfl (by kernel_rfl) hc53 (X_of_Y0 rfl (E_move (.c (.sl (y46.1.map c3))) rfl (by kernel_rfl))) ?_
          refine XL_takeC _ rfl rfl (by kernel_rfl) hc53 (X_of_Y0 rfl (E_move (I k45) rfl (by kernel_rfl))) ?_
          refine XL_takeC _ rfl rfl (by kernel_rfl) hc53 (X_of_Y0 rfl (Y0_idxM (c := c3) (xs := y46.1) (v := e54) (n := k45) Try.underlying41 sz3 rfl (by kernel_rfl) (by kernel_rfl) he54)) ?_
          refine XL_takeC _ rfl rfl (by kernel_rfl) hc53 (X_of_Y0 rfl (Y0_load1 (c := Ti e54) (cs := []) sc3 rfl (by kernel_rfl))) ?_
          refine XL_takeC _ rfl rfl (by kernel_rfl) hc53 (X_of_Y0 rfl (E_move (I y47.1) rfl (by kernel_rfl))) ?_
          refine XL_takeC _ rfl rfl (by kernel_rfl) hc53 (X_of_Y0 rfl (Y0_eqw (k := .i64) (a := e54) (b := y47.1) rfl (by kernel_rfl) (by kernel_rfl))) ?_
          refine XL_cons rfl (X_of_Y0 rfl (Y0_pickTe (b := bif (bif (bif (bif y46.2 then (eqI ((y46.1.length : Int)) (w64 (k45 + 1))) else false) then y47.2 else false) then y48.2 else false) then (eqI y47.1 y48.1) else false) (p := eqI e54 y47.1) rfl (by kernel_rfl) hc53 (by kernel_rfl) hb55)) ?_
          refine L0 rfl rfl (E_assign (Bo b55) rfl (by kernel_rfl)) ?_
          refine XL_nil ?_
          kernel_rfl
         ·have hb55 := some_inj (of_false hb55 hc53)
          refine XL_skipT _ rfl rfl (by kernel_rfl) hc53 rfl ?_
          refine XL_skipT _ rfl rfl (by kernel_rfl) hc53 rfl ?_
          refine XL_skipT _ rfl rfl (by kernel_rfl) hc53 rfl ?_
          refine XL_skipT _ rfl rfl (by kernel_rfl) hc53 rfl ?_
          refine XL_skipT _ rfl rfl (by kernel_rfl) hc53 rfl ?_
          refine XL_skipT _ rfl rfl (by kernel_rfl) hc53 rfl ?_
          refine XL_cons rfl (X_of_Y0 rfl (Y0_pickFe (b := bif (bif (bif (bif y46.2 then (eqI ((y46.1.length : Int)) (w64 (k45 + 1))) else false) then y47.2 else false) then y48.2 else false) then (eqI y47.1 y48.1) else false) (p := false) rfl (by kernel_rfl) hc53 (by kernel_rfl) hb55)) ?_
          refine L0 rfl rfl (E_assign (Bo b55) rfl (by kernel_rfl)) ?_
          refine XL_nil ?_
          kernel_rfl
        ·refine XL_skipT _ rfl rfl (by kernel_rfl) hc52 rfl ?_
         refine XL_skipT _ rfl rfl (by kernel_rfl) hc52 rfl ?_
         refine XL_skipT _ rfl rfl (by kernel_rfl) hc52 rfl ?_
         refine XL_cons rfl (X_of_Y0 rfl (Y0_pick0 (b := bif (bif (bif y46.2 then (eqI ((y46.1.length : Int)) (w64 (k45 + 1))) else false) then y47.2 else false) then y48.2 else false) (p := eqI y47.1 y48.1) (q := false) rfl (by kernel_rfl) hc52 (by kernel_rfl))) ?_
         refine L0 rfl rfl (E_move (Bo (bif (bif (bif (bif y46.2 then (eqI ((y46.1.length : Int)) (w64 (k45 + 1))) else false) then y47.2 else false) then y48.2 else false) then (eqI y47.1 y48.1) else false)) rfl (by kernel_rfl)) ?_
         refine XL_split (bif (bif (bif (bif y46.2 then (eqI ((y46.1.length : Int)) (w64 (k45 + 1))) else false) then y47.2 else false) then y48.2 else false) then (eqI y47.1 y48.1) else false) (fun hc53 => ?_) (fun hc53 => ?_)
         ·have hb55 := of_true hb55 hc53
          obtain ⟨e54, he54, hb55⟩ := of_bind hb55
          have hb55 := some_inj hb55
          refine XL_takeC _ rfl rfl (by kernel_rfl) hc53 (X_of_Y0 rfl (E_move (.c (.sl (y46.1.map c3))) rfl (by kernel_rfl))) ?_
          refine XL_takeC _ rfl rfl (by kernel_rfl) hc53 (X_of_Y0 rfl (E_move (I k45) rfl (by kernel_rfl))) ?_
          refine XL_takeC _ rfl rfl (by kernel_rfl) hc53 (X_of_Y0 rfl (Y0_idxM (c := c3) (xs := y46.1) (v := e54) (n := k45) Try.underlying41 sz3 rfl (by kernel_rfl) (by kernel_rfl) he54)) ?_
          refine XL_takeC _ rfl rfl (by kernel_rfl) hc53 (X_of_Y0 rfl (Y0_load1 (c := Ti e54) (cs := []) sc3 rfl (by kernel_rfl))) ?_
          refine XL_takeC _ rfl rfl (by kernel_rfl) hc53 (X_of_Y0 rfl (E_move (I y47.1) rfl (by kernel_rfl))) ?_
          refine XL_takeC _ rfl rfl (by kernel_rfl) hc53 (X_of_Y0 rfl (Y0_eqw (k := .i64) (a := e54) (b := y47.1) rfl (by kernel_rfl) (by kernel_rfl))) ?_
          refine XL_cons rfl (X_of_Y0 rfl (Y0_pickTe (b := bif (bif (bif (bif y46.2 then (eqI ((y46.1.length : Int)) (w64 (k45 + 1))) else false) then y47.2 else false) then y48.2 else false) then (eqI y47.1 y48.1) else false) (p := eqI e54 y47.1) rfl (by kernel_rfl) hc53 (by kernel_rfl) hb55)) ?_
          refine L0 rfl rfl (E_assign (Bo b55) rfl (by kernel_rfl)) ?_
          refine XL_nil ?_
          kernel_rfl
         ·have hb55 := some_inj (of_false hb55 hc53)
          refine XL_skipT _ rfl rfl (by kernel_rfl) hc53 rfl ?_
          refine XL_skipT _ rfl rfl (by kernel_rfl) hc53 rfl ?_
          refine XL_skipT _ rfl rfl (by kernel_rfl) hc53 rfl ?_
          refine XL_skipT _ rfl rfl (by kernel_rfl) hc53 rfl ?_
          refine XL_skipT _ rfl rfl (by kernel_rfl) hc53 rfl ?_
          refine XL_skipT _ rfl rfl (by kernel_rfl) hc53 rfl ?_
          refine XL_cons rfl (X_of_Y0 rfl (Y0_pickFe (b := bif (bif (bif (bif y46.2 then (eqI ((y46.1.length : Int)) (w64 (k45 + 1))) else false) then y47.2 else false) then y48.2 else false) then (eqI y47.1 y48.1) else false) (p := false) rfl (by kernel_rfl) hc53 (by kernel_rfl) hb55)) ?_
          refine L0 rfl rfl (E_assign (Bo b55) rfl (by kernel_rfl)) ?_
          refine XL_nil ?_
          kernel_rfl
     ·refine XL_skipT _ rfl rfl (by kernel_rfl) hc49 rfl ?_
      refine XL_skipT _ rfl rfl (by kernel_rfl) hc49 rfl ?_
      refine XL_skipT _ rfl rfl (by kernel_rfl) hc49 rfl ?_
      refine XL_skipT _ rfl rfl (by kernel_rfl) hc49 rfl ?_
      refine XL_skipT _ rfl rfl (by kernel_rfl) hc49 rfl ?_
      refine XL_cons rfl (X_of_Y0 rfl (Y0_pick0 (b := y46.2) (p := eqI ((y46.1.length : Int)) (w64 (k45 + 1))) (q := false) rfl (by kernel_rfl) hc49 (by kernel_rfl))) ?_
      refine L0 rfl rfl (E_move (Bo (bif y46.2 then (eqI ((y46.1.length : Int)) (w64 (k45 + 1))) else false)) rfl (by kernel_rfl)) ?_
      refine XL_split (bif y46.2 then (eqI ((y46.1.length : Int)) (w64 (k45 + 1))) else false) (fun hc50 => ?_) (fun hc50 => ?_)
      ·refine XL_takeC _ rfl rfl (by kernel_rfl) hc50 (X_of_Y0 rfl (E_move (Bo y47.2) rfl (by kernel_rfl))) ?_
       refine XL_cons rfl (X_of_Y0 rfl (Y0_pick1 (b := bif y46.2 then (eqI ((y46.1.length : Int)) (w64 (k45 + 1))) else false) (p := y47.2) (q := false) rfl (by kernel_rfl) hc50 (by kernel_rfl))) ?_
       refine L0 rfl rfl (E_move (Bo (bif (bif y46.2 then (eqI ((y46.1.length : Int)) (w64 (k45 + 1))) else false) then y47.2 else false)) rfl (by kernel_rfl)) ?_
       refine XL_split (bif (bif y46.2 then (eqI ((y46.1.length : Int)) (w64 (k45 + 1))) else false) then y47.2 else false) (fun hc51 => ?_) (fun hc51 => ?_)
       ·refine XL_takeC _ rfl rfl (by kernel_rfl) hc51 (X_of_Y0 rfl (E_move (Bo y48.2) rfl (by kernel_rfl))) ?_
        refine XL_cons rfl (X_of_Y0 rfl (Y0_pick1 (b := bif (bif y46.2 then (eqI ((y46.1.length : Int)) (w64 (k45 + 1))) else false) then y47.2 else false) (p := y48.2) (q := false) rfl (by kernel_rfl) hc51 (by kernel_rfl))) ?_
        refine L0 rfl rfl (E_move (Bo (bif (bif (bif y46.2 then (eqI ((y46.1.length : Int)) (w64 (k45 + 1))) else false) then y47.2 else false) then y48.2 else false)) rfl (by kernel_rfl)) ?_
        refine XL_split (bif (bif (bif y46.2 then (eqI ((y46.1.length : Int)) (w64 (k45 + 1))) else false) then y47.2 else false) then y48.2 else false) (fun hc52 => ?_) (fun hc52 => ?_)
        ·refine XL_takeC _ rfl rfl (by kernel_rfl) hc52 (X_of_Y0 rfl (E_move (I y47.1) rfl (by kernel_rfl))) ?_
         refine XL_takeC _ rfl rfl (by kernel_rfl) hc52 (X_of_Y0 rfl (E_move (I y48.1) rfl (by kernel_rfl))) ?_
         refine XL_takeC _ rfl rfl (by kernel_rfl) hc52 (X_of_Y0 rfl (Y0_eqw (k := .i64) (a := y47.1) (b := y48.1) rfl (by kernel_rfl) (by kernel_rfl))) ?_
         refine XL_cons rfl (X_of_Y0 rfl (Y0_pick1 (b := bif (bif (bif y46.2 then (eqI ((y46.1.length : Int)) (w64 (k45 + 1))) else false) then y47.2 else false) then y48.2 else false) (p := eqI y47.1 y48.1) (q := false) rfl (by kernel_rfl) hc52 (by kernel_rfl))) ?_
         refine L0 rfl rfl (E_move (Bo (bif (bif (bif (bif y46.2 then (eqI ((y46.1.length : Int)) (w64 (k45 + 1))) else false) then y47.2 else false) then y48.2 else false) then (eqI y47.1 y48.1) else false)) rfl (by kernel_rfl)) ?_
         refine XL_split (bif (bif (bif (bif y46.2 then (eqI ((y46.1.length : Int)) (w64 (k45 + 1))) else false) then y47.2 else false) then y48.2 else false) then (eqI y47.1 y48.1) else false) (fun hc53 => ?_) (fun hc53 => ?_)
         ·have hb55 := of_true hb55 hc53
          obtain ⟨e54, he54, hb55⟩ := of_bind hb55
          have hb55 := some_inj hb55
          refine XL_takeC _ rfl rfl (by kernel_rfl) hc53 (X_of_Y0 rfl (E_move (.c (.sl (y46.1.map c3))) rfl (by kernel_rfl))) ?_
          refine XL_takeC _ rfl rfl (by kernel_rfl) hc53 (X_of_Y0 rfl (E_move (I k45) rfl (by kernel_rfl))) ?_
          refine XL_takeC _ rfl rfl (by kernel_rfl) hc53 (X_of_Y0 rfl (Y0_idxM (c := c3) (xs := y46.1) (v := e54) (n := k45) Try.underlying41 sz3 rfl (by kernel_rfl) (by kernel_rfl) he54)) ?_
          refine XL_takeC _ rfl rfl (by kernel_rfl) hc53 (X_of_Y0 rfl (Y0_load1 (c := Ti e54) (cs := []) sc3 rfl (by kernel_rfl))) ?_
          refine XL_takeC _ rfl rfl (by kernel_rfl) hc53 (X_of_Y0 rfl (E_move (I y47.1) rfl (by kernel_rfl))) ?_
          refine XL_takeC _ rfl rfl (by kernel_rfl) hc53 (X_of_Y0 rfl (Y0_eqw (k := .i64) (a := e54) (b := y47.1) rfl (by kernel_rfl) (by kernel_rfl))) ?_
          refine XL_cons rfl (X_of_Y0 rfl (Y0_pickTe (b := bif (bif (bif (bif y46.2 then (eqI ((y46.1.length : Int)) (w64 (k45 + 1))) else false) then y47.2 else false) then y48.2 else false) then (eqI y47.1 y48.1) else false) (p := eqI e54 y47.1) rfl (by kernel_rfl) hc53 (by kernel_rfl) hb55)) ?_
          refine L0 rfl rfl (E_assign (Bo b55) rfl (by kernel_rfl)) ?_
          refine XL_nil ?_
          kernel_rfl
         ·have hb55 := some_inj (of_false hb55 hc53)
          refine XL_skipT _ rfl rfl (by kernel_rfl) hc53 rfl ?_
          refine XL_skipT _ rfl rfl (by kernel_rfl) hc53 rfl ?_
          refine XL_skipT _ rfl rfl (by kernel_rfl) hc53 rfl ?_
          refine XL_skipT _ rfl rfl (by kernel_rfl) hc53 rfl ?_
          refine XL_skipT _ rfl rfl (by kernel_rfl) hc53 rfl ?_
          refine XL_skipT _ rfl rfl (by kernel_rfl) hc53 rfl ?_
          refine XL_cons rfl (X_of_Y0 rfl (Y0_pickFe (b := bif (bif (bif (bif y46.2 then (eqI ((y46.1.length : Int)) (w64 (k45 + 1))) else false) then y47.2 else false) then y48.2 else false) then (eqI y47.1 y48.1) else false) (p := false) rfl (by kernel_rfl) hc53 (by kernel_rfl) hb55)) ?_
          refine L0 rfl rfl (E_assign (Bo b55) rfl (by kernel_rfl)) ?_
          refine XL_nil ?_
          kernel_rfl
        ·refine XL_skipT _ rfl rfl (by kernel_rfl) hc52 rfl ?_
         refine XL_skipT _ rfl rfl (by kernel_rfl) hc52 rfl ?_
         refine XL_skipT _ rfl rfl (by kernel_rfl) hc52 rfl ?_
         refine XL_cons rfl (X_of_Y0 rfl (Y0_pick0 (b := bif (bif (bif y46.2 then (eqI ((y46.1.length : Int)) (w64 (k45 + 1))) else false) then y47.2 else false) then y48.2 else false) (p := eqI y47.1 y48.1) (q := false) rfl (by kernel_rfl) hc52 (by kernel_rfl))) ?_
         refine L0 rfl rfl (E_move (Bo (bif (bif (bif (bif y46.2 then (eqI ((y46.1.length : Int)) (w64 (k45 + 1))) else false) then y47.2 else false) then y48.2 else false) then (eqI y47.1 y48.1) else false)) rfl (by kernel_rfl)) ?_
         refine XL_split (bif (bif (bif (bif y46.2 then (eqI ((y46.1.length : Int)) (w64 (k45 + 1))) else false) then y47.2 else false) then y48.2 else false) then (eqI y47.1 y48.1) else false) (fun hc53 => ?_) (fun hc53 => ?_)
         ·have hb55 := of_true hb55 hc53
          obtain ⟨e54, he54, hb55⟩ := of_bind hb55
          have hb55 := some_inj hb55
          refine XL_takeC _ rfl rfl (by kernel_rfl) hc53 (X_of_Y0 rfl (E_move (.c (.sl (y46.1.map c3))) rfl (by kernel_rfl))) ?_
          refine XL_takeC _ rfl rfl (by kernel_rfl) hc53 (X_of_Y0 rfl (E_move (I k45) rfl (by kernel_rfl))) ?_
          refine XL_takeC _ rfl rfl (by kernel_rfl) hc53 (X_of_Y0 rfl (Y0_idxM (c := c3) (xs := y46.1) (v := e54) (n := k45) Try.underlying41 sz3 rfl (by kernel_rfl) (by kernel_rfl) he54)) ?_
          refine XL_takeC _ rfl rfl (by kernel_rfl) hc53 (X_of_Y0 rfl (Y0_load1 (c := Ti e54) (cs := []) sc3 rfl (by kernel_rfl))) ?_
          refine XL_takeC _ rfl rfl (by kernel_rfl) hc53 (X_of_Y0 rfl (E_move (I y47.1) rfl (by kernel_rfl))) ?_
          refine XL_takeC _ rfl rfl (by kernel_rfl) hc53 (X_of_Y0 rfl (Y0_eqw (k := .i64) (a := e54) (b := y47.1) rfl (by kernel_rfl) (by kernel_rfl))) ?_
          refine XL_cons rfl (X_of_Y0 rfl (Y0_pickTe (b := bif (bif (bif (bif y46.2 then (eqI ((y46.1.length : Int)) (w64 (k45 + 1))) else false) then y47.2 else false) then y48.2 else false) then (eqI y47.1 y48.1) else false) (p := eqI e54 y47.1) rfl (by kernel_rfl) hc53 (by kernel_rfl) hb55)) ?_
          refine L0 rfl rfl (E_assign (Bo b55) rfl (by kernel_rfl)) ?_
          refine XL_nil ?_
          kernel_rfl
         ·have hb55 := some_inj (of_false hb55 hc53)
          refine XL_skipT _ rfl rfl (by kernel_rfl) hc53 rfl ?_
          refine XL_skipT _ rfl rfl (by kernel_rfl) hc53 rfl ?_
          refine XL_skipT _ rfl rfl (by kernel_rfl) hc53 rfl ?_
          refine XL_skipT _ rfl rfl (by kernel_rfl) hc53 rfl ?_
          refine XL_skipT _ rfl rfl (by kernel_rfl) hc53 rfl ?_
          refine XL_skipT _ rfl rfl (by kernel_rfl) hc53 rfl ?_
          refine XL_cons rfl (X_of_Y0 rfl (Y0_pickFe (b := bif (bif (bif (bif y46.2 then (eqI ((y46.1.length : Int)) (w64 (k45 + 1))) else false) then y47.2 else false) then y48.2 else false) then (eqI y47.1 y48.1) else false) (p := false) rfl (by kernel_rfl) hc53 (by kernel_rfl) hb55)) ?_
          refine L0 rfl rfl (E_assign (Bo b55) rfl (by kernel_rfl)) ?_
          refine XL_nil ?_
          kernel_rfl
       ·refine XL_skipT _ rfl rfl (by kernel_rfl) hc51 rfl ?_
        refine XL_cons rfl (X_of_Y0 rfl (Y0_pick0 (b := bif (bif y46.2 then (eqI ((y46.1.length : Int)) (w64 (k45 + 1))) else false) then y47.2 else false) (p := y48.2) (q := false) rfl (by kernel_rfl) hc51 (by kernel_rfl))) ?_
        refine L0 rfl rfl (E_move (Bo (bif (bif (bif y46.2 then (eqI ((y46.1.length : Int)) (w64 (k45 + 1))) else false) then y47.2 else false) then y48.2 else false)) rfl (by kernel_rfl)) ?_
        refine XL_split (bif (bif (bif y46.2 then (eqI ((y46.1.length : Int)) (w64 (k45 + 1))) else false) then y47.2 else false) then y48.2 else false) (fun hc52 => ?_) (fun hc52 => ?_)
        ·refine XL_takeC _ rfl rfl (by kernel_rfl) hc52 (X_of_Y0 rfl (E_move (I y47.1) rfl (by kernel_rfl))) ?_
         refine XL_takeC _ rfl rfl (by kernel_rfl) hc52 (X_of_Y0 rfl (E_move (I y48.1) rfl (by kernel_rfl))) ?_
         refine XL_takeC _ rfl rfl (by kernel_rfl) hc52 (X_of_Y0 rfl (Y0_eqw (k := .i64) (a := y47.1) (b := y48.1) rfl (by kernel_rfl) (by kernel_rfl))) ?_
         refine XL_cons rfl (X_of_Y0 rfl (Y0_pick1 (b := bif (bif (bif y46.2 then (eqI ((y46.1.length : Int)) (w64 (k45 + 1))) else false) then y47.2 else false) then y48.2 else false) (p := eqI y47.1 y48.1) (q := false) rfl (by kernel_rfl) hc52 (by kernel_rfl))) ?_
         refine L0 rfl rfl (E_move (Bo (bif (bif (bif (bif y46.2 then (eqI ((y46.1.length : Int)) (w64 (k45 + 1))) else false) then y47.2 else false) then y48.2 else false) then (eqI y47.1 y48.1) else false)) rfl (by kernel_rfl)) ?_
         refine XL_split (bif (bif (bif (bif y46.2 then (eqI ((y46.1.length : Int)) (w64 (k45 + 1))) else false) then y47.2 else false) then y48.2 else false) then (eqI y47.1 y48.1) else false) (fun hc53 => ?_) (fun hc53 => ?_)
         ·have hb55 := of_true hb55 hc53
          obtain ⟨e54, he54, hb55⟩ := of_bind hb55
          have hb55 := some_inj hb55
          refine XL_takeC _ rfl rfl (by kernel_rfl) hc53 (X_of_Y0 rfl (E_move (.c (.sl (y46.1.map c3))) rfl (by kernel_rfl))) ?_
          refine XL_takeC _ rfl rfl (by kernel_rfl) hc53 (X_of_Y0 rfl (E_move (I k45) rfl (by kernel_rfl))) ?_
          refine XL_takeC _ rfl rfl (by kernel_rfl) hc53 (X_of_Y0 rfl (Y0_idxM (c := c3) (xs := y46.1) (v := e54) (n := k45) Try.underlying41 sz3 rfl (by kernel_rfl) (by kernel_rfl) he54)) ?_
          refine XL_takeC _ rfl rfl (by kernel_rfl) hc53 (X_of_Y0 rfl (Y0_load1 (c := Ti e54) (cs := []) sc3 rfl (by kernel_rfl))) ?_
          refine XL_takeC _ rfl rfl (by kernel_rfl) hc53 (X_of_Y0 rfl (E_move (I y47.1) rfl (by kernel_rfl))) ?_
          refine XL_takeC _ rfl rfl (by kernel_rfl) hc53 (X_of_Y0 rfl (Y0_eqw (k := .i64) (a := e54) (b := y47.1) rfl (by kernel_rfl) (by kernel_rfl))) ?_
          refine XL_cons rfl (X_of_Y0 rfl (Y0_pickTe (b := bif (bif (bif (bif y46.2 then (eqI ((y46.1.length : Int)) (w64 (k45 + 1))) else false) then y47.2 else false) then y48.2 else false) then (eqI y47.1 y48.1) else false) (p := eqI e54 y47.1) rfl (by kernel_rfl) hc53 (by kernel_rfl) hb55)) ?_
          refine L0 rfl rfl (E_assign (Bo b55) rfl (by kernel_rfl)) ?_
          refine XL_nil ?_
          kernel_rfl
         ·have hb55 := some_inj (of_false hb55 hc53)
          refine XL_skipT _ rfl rfl (by kernel_rfl) hc53 rfl ?_
          refine XL_skipT _ rfl rfl (by kernel_rfl) hc53 rfl ?_
          refine XL_skipT _ rfl rfl (by kernel_rfl) hc53 rfl ?_
          refine XL_skipT _ rfl rfl (by kernel_rfl) hc53 rfl ?_
          refine XL_skipT _ rfl rfl (by kernel_rfl) hc53 rfl ?_
          refine XL_skipT _ rfl rfl (by kernel_rfl) hc53 rfl ?_
          refine XL_cons rfl (X_of_Y0 rfl (Y0_pickFe (b := bif (bif (bif (bif y46.2 then (eqI ((y46.1.length : Int)) (w64 (k45 + 1))) else false) then y47.2 else false) then y48.2 else false) then (eqI y47.1 y48.1) else false) (p := false) rfl (by kernel_rfl) hc53 (by kernel_rfl) hb55)) ?_
          refine L0 rfl rfl (E_assign (Bo b55) rfl (by kernel_rfl)) ?_
          refine XL_nil ?_
          kernel_rfl
        ·refine XL_skipT _ rfl rfl (by kernel_rfl) hc52 rfl ?_
         refine XL_skipT _ rfl rfl (by kernel_rfl) hc52 rfl ?_
         refine XL_skipT _ rfl rfl (by kernel_rfl) hc52 rfl ?_
         refine XL_cons rfl (X_of_Y0 rfl (Y0_pick0 (b := bif (bif (bif y46.2 then (eqI ((y46.1.length : Int)) (w64 (k45 + 1))) else false) then y47.2 else false) then y48.2 else false) (p := eqI y47.1 y48.1) (q := false) rfl (by kernel_rfl) hc52 (by kernel_rfl))) ?_
         refine L0 rfl rfl (E_move (Bo (bif (bif (bif (bif y46.2 then (eqI ((y46.1.length : Int)) (w64 (k45 + 1))) else false) then y47.2 else false) then y48.2 else false) then (eqI y47.1 y48.1) else false)) rfl (by kernel_rfl)) ?_
         refine XL_split (bif (bif (bif (bif y46.2 then (eqI ((y46.1.length : Int)) (w64 (k45 + 1))) else false) then y47.2 else false) then y48.2 else false) then (eqI y47.1 y48.1) else false) (fun hc53 => ?_) (fun hc53 => ?_)
         ·have hb55 := of_true hb55 hc53
          obtain ⟨e54, he54, hb55⟩ := of_bind hb55
          have hb55 := some_inj hb55
          refine XL_takeC _ rfl rfl (by kernel_rfl) hc53 (X_of_Y0 rfl (E_move (.c (.sl (y46.1.map c3))) rfl (by kernel_rfl))) ?_
          refine XL_takeC _ rfl rfl (by kernel_rfl) hc53 (X_of_Y0 rfl (E_move (I k45) rfl (by kernel_rfl))) ?_
          refine XL_takeC _ rfl rfl (by kernel_rfl) hc53 (X_of_Y0 rfl (Y0_idxM (c := c3) (xs := y46.1) (v := e54) (n := k45) Try.underlying41 sz3 rfl (by kernel_rfl) (by kernel_rfl) he54)) ?_
          refine XL_takeC _ rfl rfl (by kernel_rfl) hc53 (X_of_Y0 rfl (Y0_load1 (c := Ti e54) (cs := []) sc3 rfl (by kernel_rfl))) ?_
          refine XL_takeC _ rfl rfl (by kernel_rfl) hc53 (X_of_Y0 rfl (E_move (I y47.1) rfl (by kernel_rfl))) ?_
          refine XL_takeC _ rfl rfl (by kernel_rfl) hc53 (X_of_Y0 rfl (Y0_eqw (k := .i64) (a := e54) (b := y47.1) rfl (by kernel_rfl) (by kernel_rfl))) ?_
          refine XL_cons rfl (X_of_Y0 rfl (Y0_pickTe (b := bif (bif (bif (bif y46.2 then (eqI ((y46.1.length : Int)) (w64 (k45 + 1))) else false) then y47.2 else false) then y48.2 else false) then (eqI y47.1 y48.1) else false) (p := eqI e54 y47.1) rfl (by kernel_rfl) hc53 (by kernel_rfl) hb55)) ?_
          refine L0 rfl rfl (E_assign (Bo b55) rfl (by kernel_rfl)) ?_
          refine XL_nil ?_
          kernel_rfl
         ·have hb55 := some_inj (of_false hb55 hc53)
          refine XL_skipT _ rfl rfl (by kernel_rfl) hc53 rfl ?_
          refine XL_skipT _ rfl rfl (by kernel_rfl) hc53 rfl ?_
          refine XL_skipT _ rfl rfl (by kernel_rfl) hc53 rfl ?_
          refine XL_skipT _ rfl rfl (by kernel_rfl) hc53 rfl ?_
          refine XL_skipT _ rfl rfl (by kernel_rfl) hc53 rfl ?_
          refine XL_skipT _ rfl rfl (by kernel_rfl) hc53 rfl ?_
          refine XL_cons rfl (X_of_Y0 rfl (Y0_pickFe (b := bif (bif (bif (bif y46.2 then (eqI ((y46.1.length : Int)) (w64 (k45 + 1))) else false) then y47.2 else false) then y48.2 else false) then (eqI y47.1 y48.1) else false) (p := false) rfl (by kernel_rfl) hc53 (by kernel_rfl) hb55)) ?_
          refine L0 rfl rfl (E_assign (Bo b55) rfl (by kernel_rfl)) ?_
          refine XL_nil ?_
          kernel_rfl
      ·refine XL_skipT _ rfl rfl (by kernel_rfl) hc50 rfl ?_
       refine XL_cons rfl (X_of_Y0 rfl (Y0_pick0 (b := bif y46.2 then (eqI ((y46.1.length : Int)) (w64 (k45 + 1))) else false) (p := y47.2) (q := false) rfl (by kernel_rfl) hc50 (by kernel_rfl))) ?_
       refine L0 rfl rfl (E_move (Bo (bif (bif y46.2 then (eqI ((y46.1.length : Int)) (w64 (k45 + 1))) else false) then y47.2 else false)) rfl (by kernel_rfl)) ?_
       refine XL_split (bif (bif y46.2 then (eqI ((y46.1.length : Int)) (w64 (k45 + 1))) else false) then y47.2 else false) (fun hc51 => ?_) (fun hc51 => ?_)
       ·refine XL_takeC _ rfl rfl (by kernel_rfl) hc51 (X_of_Y0 rfl (E_move (Bo y48.2) rfl (by kernel_rfl))) ?_
        refine XL_cons rfl (X_of_Y0 rfl (Y0_pick1 (b := bif (bif y46.2 then (eqI ((y46.1.length : Int)) (w64 (k45 + 1))) else false) then y47.2 else false) (p := y48.2) (q := false) rfl (by kernel_rfl) hc51 (by kernel_rfl))) ?_
        refine L0 rfl rfl (E_move (Bo (bif (bif (bif y46.2 then (eqI ((y46.1.length : Int)) (w64 (k45 + 1))) else false) then y47.2 else false) then y48.2 else false)) rfl (by kernel_rfl)) ?_
        refine XL_split (bif (bif (bif y46.2 then (eqI ((y46.1.length : Int)) (w64 (k45 + 1))) else false) then y47.2 else false) then y48.2 else false) (fun hc52 => ?_) (fun hc52 => ?_)
        ·refine XL_takeC _ rfl rfl (by kernel_rfl) hc52 (X_of_Y0 rfl (E_move (I y47.1) rfl (by kernel_rfl))) ?_
         refine XL_takeC _ rfl rfl (by kernel_rfl) hc52 (X_of_Y0 rfl (E_move (I y48.1) rfl (by kernel_rfl))) ?_
         refine XL_takeC _ rfl rfl (by kernel_rfl) hc52 (X_of_Y0 rfl (Y0_eqw (k := .i64) (a := y47.1) (b := y48.1) rfl (by kernel_rfl) (by kernel_rfl))) ?_
         refine XL_cons rfl (X_of_Y0 rfl (Y0_pick1 (b := bif (bif (bif y46.2 then (eqI ((y46.1.length : Int)) (w64 (k45 + 1))) else false) then y47.2 else false) then y48.2 else false) (p := eqI y47.1 y48.1) (q := false) rfl (by kernel_rfl) hc52 (by kernel_rfl))) ?_
         refine L0 rfl rfl (E_move (Bo (bif (bif (bif (bif y46.2 then (eqI ((y46.1.length : Int)) (w64 (k45 + 1))) else false) then y47.2 else false) then y48.2 else false) then (eqI y47.1 y48.1) else false)) rfl (by kernel_rfl)) ?_
         refine XL_split (bif (bif (bif (bif y46.2 then (eqI ((y46.1.length : Int)) (w64 (k45 + 1))) else false) then y47.2 else false) then y48.2 else false) then (eqI y47.1 y48.1) else false) (fun hc53 => ?_) (fun hc53 => ?_)
         ·have hb55 := of_true hb55 hc53
          obtain ⟨e54, he54, hb55⟩ := of_bind hb55
          have hb55 := some_inj hb55
          refine XL_takeC _ rfl rfl (by kernel_rfl) hc53 (X_of_Y0 rfl (E_move (.c (.sl (y46.1.map c3))) rfl (by kernel_rfl))) ?_
          refine XL_takeC _ rfl rfl (by kernel_rfl) hc53 (X_of_Y0 rfl (E_move (I k45) rfl (by kernel_rfl))) ?_
          refine XL_takeC _ rfl rfl (by kernel_rfl) hc53 (X_of_Y0 rfl (Y0_idxM (c := c3) (xs := y46.1) (v := e54) (n := k45) Try.underlying41 sz3 rfl (by kernel_rfl) (by kernel_rfl) he54)) ?_
          refine XL_takeC _ rfl rfl (by kernel_rfl) hc53 (X_of_Y0 rfl (Y0_load1 (c := Ti e54) (cs := []) sc3 rfl (by kernel_rfl))) ?_
          refine XL_takeC _ rfl rfl (by kernel_rfl) hc53 (X_of_Y0 rfl (E_move (I y47.1) rfl (by kernel_rfl))) ?_
          refine XL_takeC _ rfl rfl (by kernel_rfl) hc53 (X_of_Y0 rfl (Y0_eqw (k := .i64) (a := e54) (b := y47.1) rfl (by kernel_rfl) (by kernel_rfl))) ?_
          refine XL_cons rfl (X_of_Y0 rfl (Y0_pickTe (b := bif (bif (bif (bif y46.2 then (eqI ((y46.1.length : Int)) (w64 (k45 + 1))) else false) then y47.2 else false) then y48.2 else false) then (eqI y47.1 y48.1) else false) (p := eqI e54 y47.1) rfl (by kernel_rfl) hc53 (by kernel_rfl) hb55)) ?_
          refine L0 rfl rfl (E_assign (Bo b55) rfl (by kernel_rfl)) ?_
          refine XL_nil ?_
          kernel_rfl
         ·have hb55 := some_inj (of_false hb55 hc53)
          refine XL_skipT _ rfl rfl (by kernel_rfl) hc53 rfl ?_
          refine XL_skipT _ rfl rfl (by kernel_rfl) hc53 rfl ?_
          refine XL_skipT _ rfl rfl (by kernel_rfl) hc53 rfl ?_
          refine XL_skipT _ rfl rfl (by kernel_rfl) hc53 rfl ?_
          refine XL_skipT _ rfl rfl (by kernel_rfl) hc53 rfl ?_
          refine XL_skipT _ rfl rfl (by kernel_rfl) hc53 rfl ?_
          refine XL_cons rfl (X_of_Y0 rfl (Y0_pickFe (b := bif (bif (bif (bif y46.2 then (eqI ((y46.1.length : Int)) (w64 (k45 + 1))) else false) then y47.2 else false) then y48.2 else false) then (eqI y47.1 y48.1) else false) (p := false) rfl (by kernel_rfl) hc53 (by kernel_rfl) hb55)) ?_
          refine L0 rfl rfl (E_assign (Bo b55) rfl (by kernel_rfl)) ?_
          refine XL_nil ?_
          kernel_rfl
        ·refine XL_skipT _ rfl rfl (by kernel_rfl) hc52 rfl ?_
         refine XL_skipT _ rfl rfl (by kernel_rfl) hc52 rfl ?_
         refine XL_skipT _ rfl rfl (by kernel_rfl) hc52 rfl ?_
         refine XL_cons rfl (X_of_Y0 rfl (Y0_pick0 (b := bif (bif (bif y46.2 then (eqI ((y46.1.length : Int)) (w64 (k45 + 1))) else false) then y47.2 else false) then y48.2 else false) (p := eqI y47.1 y48.1) (q := false) rfl (by kernel_rfl) hc52 (by kernel_rfl))) ?_
         refine L0 rfl rfl (E_move (Bo (bif (bif (bif (bif y46.2 then (eqI ((y46.1.length : Int)) (w64 (k45 + 1))) else false) then y47.2 else false) then y48.2 else false) then (eqI y47.1 y48.1) else false)) rfl (by kernel_rfl)) ?_
         refine XL_split (bif (bif (bif (bif y46.2 then (eqI ((y46.1.length : Int)) (w64 (k45 + 1))) else false) then y47.2 else false) then y48.2 else false) then (eqI y47.1 y48.1) else false) (fun hc53 => ?_) (fun hc53 => ?_)
         ·have hb55 := of_true hb55 hc53
          obtain ⟨e54, he54, hb55⟩ := of_bind hb55
          have hb55 := some_inj hb55
          refine XL_takeC _ rfl rfl (by kernel_rfl) hc53 (X_of_Y0 rfl (E_move (.c (.sl (y46.1.map c3))) rfl (by kernel_rfl))) ?_
          refine XL_takeC _ rfl rfl (by kernel_rfl) hc53 (X_of_Y0 rfl (E_move (I k45) rfl (by kernel_rfl))) ?_
          refine XL_takeC _ rfl rfl (by kernel_rfl) hc53 (X_of_Y0 rfl (Y0_idxM (c := c3) (xs := y46.1) (v := e54) (n := k45) Try.underlying41 sz3 rfl (by kernel_rfl) (by kernel_rfl) he54)) ?_
          refine XL_takeC _ rfl rfl (by kernel_rfl) hc53 (X_of_Y0 rfl (Y0_load1 (c := Ti e54) (cs := []) sc3 rfl (by kernel_rfl))) ?_
          refine XL_takeC _ rfl rfl (by kernel_rfl) hc53 (X_of_Y0 rfl (E_move (I y47.1) rfl (by kernel_rfl))) ?_
          refine XL_takeC _ rfl rfl (by kernel_rfl) hc53 (X_of_Y0 rfl (Y0_eqw (k := .i64) (a := e54) (b := y47.1) rfl (by kernel_rfl) (by kernel_rfl))) ?_
          refine XL_cons rfl (X_of_Y0 rfl (Y0_pickTe (b := bif (bif (bif (bif y46.2 then (eqI ((y46.1.length : Int)) (w64 (k45 + 1))) else false) then y47.2 else false) then y48.2 else false) then (eqI y47.1 y48.1) else false) (p := eqI e54 y47.1) rfl (by kernel_rfl) hc53 (by kernel_rfl) hb55)) ?_
          refine L0 rfl rfl (E_assign (Bo b55) rfl (by kernel_rfl)) ?_
          refine XL_nil ?_
          kernel_rfl
         ·have hb55 := some_inj (of_false hb55 hc53)
          refine XL_skipT _ rfl rfl (by kernel_rfl) hc53 rfl ?_
          refine XL_skipT _ rfl rfl (by kernel_rfl) hc53 rfl ?_
          refine XL_skipT _ rfl rfl (by kernel_rfl) hc53 rfl ?_
          refine XL_skipT _ rfl rfl (by kernel_rfl) hc53 rfl ?_
          refine XL_skipT _ rfl rfl (by kernel_rfl) hc53 rfl ?_
          refine XL_skipT _ rfl rfl (by kernel_rfl) hc53 rfl ?_
          refine XL_cons rfl (X_of_Y0 rfl (Y0_pickFe (b := bif (bif (bif (bif y46.2 then (eqI ((y46.1.length : Int)) (w64 (k45 + 1))) else false) then y47.2 else false) then y48.2 else false) then (eqI y47.1 y48.1) else false) (p := false) rfl (by kernel_rfl) hc53 (by kernel_rfl) hb55)) ?_
          refine L0 rfl rfl (E_assign (Bo b55) rfl (by kernel_rfl)) ?_
          refine XL_nil ?_
          kernel_rfl
       ·refine XL_skipT _ rfl rfl (by kernel_rfl) hc51 rfl ?_
        refine XL_cons rfl (X_of_Y0 rfl (Y0_pick0 (b := bif (bif y46.2 then (eqI ((y46.1.length : Int)) (w64 (k45 + 1))) else false) then y47.2 else false) (p := y48.2) (q := false) rfl (by kernel_rfl) hc51 (by kernel_rfl))) ?_
        refine L0 rfl rfl (E_move (Bo (bif (bif (bif y46.2 then (eqI ((y46.1.length : Int)) (w64 (k45 + 1))) else false) then y47.2 else false) then y48.2 else false)) rfl (by kernel_rfl)) ?_
        refine XL_split (bif (bif (bif y46.2 then (eqI ((y46.1.length : Int)) (w64 (k45 + 1))) else false) then y47.2 else false) then y48.2 else false) (fun hc52 => ?_) (fun hc52 => ?_)
        ·refine XL_takeC _ rfl rfl (by kernel_rfl) hc52 (X_of_Y0 rfl (E_move (I y47.1) rfl (by kernel_rfl))) ?_
         refine XL_takeC _ rfl rfl (by kernel_rfl) hc52 (X_of_Y0 rfl (E_move (I y48.1) rfl (by kernel_rfl))) ?_
         refine XL_takeC _ rfl rfl (by kernel_rfl) hc52 (X_of_Y0 rfl (Y0_eqw (k := .i64) (a := y47.1) (b := y48.1) rfl (by kernel_rfl) (by kernel_rfl))) ?_
         refine XL_cons rfl (X_of_Y0 rfl (Y0_pick1 (b := bif (bif (bif y46.2 then (eqI ((y46.1.length : Int)) (w64 (k45 + 1))) else false) then y47.2 else false) then y48.2 else false) (p := eqI y47.1 y48.1) (q := false) rfl (by kernel_rfl) hc52 (by kernel_rfl))) ?_
         refine L0 rfl rfl (E_move (Bo (bif (bif (bif (bif y46.2 then (eqI ((y46.1.length : Int)) (w64 (k45 + 1))) else false) then y47.2 else false) then y48.2 else false) then (eqI y47.1 y48.1) else false)) rfl (by kernel_rfl)) ?_
         refine XL_split (bif (bif (bif (bif y46.2 then (eqI ((y46.1.length : Int)) (w64 (k45 + 1))) else false) then y47.2 else false) then y48.2 else false) then (eqI y47.1 y48.1) else false) (fun hc53 => ?_) (fun hc53 => ?_)
         ·have hb55 := of_true hb55 hc53
          obtain ⟨e54, he54, hb55⟩ := of_bind hb55
          have hb55 := some_inj hb55
          refine XL_takeC _ rfl rfl (by kernel_rfl) hc53 (X_of_Y0 rfl (E_move (.c (.sl (y46.1.map c3))) rfl (by kernel_rfl))) ?_
          refine XL_takeC _ rfl rfl (by kernel_rfl) hc53 (X_of_Y0 rfl (E_move (I k45) rfl (by kernel_rfl))) ?_
          refine XL_takeC _ rfl rfl (by kernel_rfl) hc53 (X_of_Y0 rfl (Y0_idxM (c := c3) (xs := y46.1) (v := e54) (n := k45) Try.underlying41 sz3 rfl (by kernel_rfl) (by kernel_rfl) he54)) ?_
          refine XL_takeC _ rfl rfl (by kernel_rfl) hc53 (X_of_Y0 rfl (Y0_load1 (c := Ti e54) (cs := []) sc3 rfl (by kernel_rfl))) ?_
          refine XL_takeC _ rfl rfl (by kernel_rfl) hc53 (X_of_Y0 rfl (E_move (I y47.1) rfl (by kernel_rfl))) ?_
          refine XL_takeC _ rfl rfl (by kernel_rfl) hc53 (X_of_Y0 rfl (Y0_eqw (k := .i64) (a := e54) (b := y47.1) rfl (by kernel_rfl) (by kernel_rfl))) ?_
          refine XL_cons rfl (X_of_Y0 rfl (Y0_pickTe (b := bif (bif (bif (bif y46.2 then (eqI ((y46.1.length : Int)) (w64 (k45 + 1))) else false) then y47.2 else false) then y48.2 else false) then (eqI y47.1 y48.1) else false) (p := eqI e54 y47.1) rfl (by kernel_rfl) hc53 (by kernel_rfl) hb55)) ?_
          refine L0 rfl rfl (E_assign (Bo b55) rfl (by kernel_rfl)) ?_
          refine XL_nil ?_
          kernel_rfl
         ·have hb55 := some_inj (of_false hb55 hc53)
          refine XL_skipT _ rfl rfl (by kernel_rfl) hc53 rfl ?_
          refine XL_skipT _ rfl rfl (by kernel_rfl) hc53 rfl ?_
          refine XL_skipT _ rfl rfl (by kernel_rfl) hc53 rfl ?_
          refine XL_skipT _ rfl rfl (by kernel_rfl) hc53 rfl ?_
          refine XL_skipT _ rfl rfl (by kernel_rfl) hc53 rfl ?_
          refine XL_skipT _ rfl rfl (by kernel_rfl) hc53 rfl ?_
          refine XL_cons rfl (X_of_Y0 rfl (Y0_pickFe (b := bif (bif (bif (bif y46.2 then (eqI ((y46.1.length : Int)) (w64 (k45 + 1))) else false) then y47.2 else false) then y48.2 else false) then (eqI y47.1 y48.1) else false) (p := false) rfl (by kernel_rfl) hc53 (by kernel_rfl) hb55)) ?_
          refine L0 rfl rfl (E_assign (Bo b55) rfl (by kernel_rfl)) ?_
          refine XL_nil ?_
          kernel_rfl
        ·refine XL_skipT _ rfl rfl (by kernel_rfl) hc52 rfl ?_
         refine XL_skipT _ rfl rfl (by kernel_rfl) hc52 rfl ?_
         refine XL_skipT _ rfl rfl (by kernel_rfl) hc52 rfl ?_
         refine XL_cons rfl (X_of_Y0 rfl (Y0_pick0 (b := bif (bif (bif y46.2 then (eqI ((y46.1.length : Int)) (w64 (k45 + 1))) else false) then y47.2 else false) then y48.2 else false) (p := eqI y47.1 y48.1) (q := false) rfl (by kernel_rfl) hc52 (by kernel_rfl))) ?_
         refine L0 rfl rfl (E_move (Bo (bif (bif (bif (bif y46.2 then (eqI ((y46.1.length : Int)) (w64 (k45 + 1))) else false) then y47.2 else false) then y48.2 else false) then (eqI y47.1 y48.1) else false)) rfl (by kernel_rfl)) ?_
         refine XL_split (bif (bif (bif (bif y46.2 then (eqI ((y46.1.length : Int)) (w64 (k45 + 1))) else false) then y47.2 else false) then y48.2 else false) then (eqI y47.1 y48.1) else false) (fun hc53 => ?_) (fun hc53 => ?_)
         ·have hb55 := of_true hb55 hc53
          obtain ⟨e54, he54, hb55⟩ := of_bind hb55
          have hb55 := some_inj hb55
          refine XL_takeC _ rfl rfl (by kernel_rfl) hc53 (X_of_Y0 rfl (E_move (.c (.sl (y46.1.map c3))) rfl (by kernel_rfl))) ?_
          refine XL_takeC _ rfl rfl (by kernel_rfl) hc53 (X_of_Y0 rfl (E_move (I k45) rfl (by kernel_rfl))) ?_
          refine XL_takeC _ rfl rfl (by kernel_rfl) hc53 (X_of_Y0 rfl (Y0_idxM (c := c3) (xs := y46.1) (v := e54) (n := k45) Try.underlying41 sz3 rfl (by kernel_rfl) (by kernel_rfl) he54)) ?_
          refine XL_takeC _ rfl rfl (by kernel_rfl) hc53 (X_of_Y0 rfl (Y0_load1 (c := Ti e54) (cs := []) sc3 rfl (by kernel_rfl))) ?_
          refine XL_takeC _ rfl rfl (by kernel_rfl) hc53 (X_of_Y0 rfl (E_move (I y47.1) rfl (by kernel_rfl))) ?_
          refine XL_takeC _ rfl rfl (by kernel_rfl) hc53 (X_of_Y0 rfl (Y0_eqw (k := .i64) (a := e54) (b := y47.1) rfl (by kernel_rfl) (by kernel_rfl))) ?_
          refine XL_cons rfl (X_of_Y0 rfl (Y0_pickTe (b := bif (bif (bif (bif y46.2 then (eqI ((y46.1.length : Int)) (w64 (k45 + 1))) else false) then y47.2 else false) then y48.2 else false) then (eqI y47.1 y48.1) else false) (p := eqI e54 y47.1) rfl (by kernel_rfl) hc53 (by kernel_rfl) hb55)) ?_
          refine L0 rfl rfl (E_assign (Bo b55) rfl (by kernel_rfl)) ?_
          refine XL_nil ?_
          kernel_rfl
         ·have hb55 := some_inj (of_false hb55 hc53)
          refine XL_skipT _ rfl rfl (by kernel_rfl) hc53 rfl ?_
          refine XL_skipT _ rfl rfl (by kernel_rfl) hc53 rfl ?_
          refine XL_skipT _ rfl rfl (by kernel_rfl) hc53 rfl ?_
          refine XL_skipT _ rfl rfl (by kernel_rfl) hc53 rfl ?_
          refine XL_skipT _ rfl rfl (by kernel_rfl) hc53 rfl ?_
          refine XL_skipT _ rfl rfl (by kernel_rfl) hc53 rfl ?_
          refine XL_cons rfl (X_of_Y0 rfl (Y0_pickFe (b := bif (bif (bif (bif y46.2 then (eqI ((y46.1.length : Int)) (w64 (k45 + 1))) else false) then y47.2 else false) then y48.2 else false) then (eqI y47.1 y48.1) else false) (p := false) rfl (by kernel_rfl) hc53 (by kernel_rfl) hb55)) ?_
          refine L0 rfl rfl (E_assign (Bo b55) rfl (by kernel_rfl)) ?_
          refine XL_nil ?_
          kernel_rfl
    refine V_ret ?_
    obtain rfl := some_inj h
    show Post _ _ _ _ _
    exact ⟨.inr rfl, rfl, rfl, rfl⟩
end Go.Proofs.Ytgeajejmikaniaa
