/-
  The functions of the program compute what the plain functions say: more of them.
  Conditions: none.
-/
import Derived.Test.YtgeajejmikaniaaFpSnd1
namespace Go.Proofs.Ytgeajejmikaniaa
open Go.RowKit
set_option linter.unusedVariables false
set_option linter.unusedSimpArgs false
theorem cf_laws_FnFundamentalParts : ∀ args w, (callFunc 4 args).run Try.prog w = .ok (.enter 4 args) w := run_callFunc Try.func4 (by kernel_rfl) (by kernel_rfl)
set_option maxRecDepth 100000 in
set_option maxHeartbeats 400000 in
theorem s_laws_FnFundamentalParts {code1 : List Int} {more2 : List Int} {r : Bool} (h : r_laws_FnFundamentalParts code1 more2 = some r) : CallS Try.prog 4 [.c (.sl (code1.map c5)), .c (.sl (more2.map c5))] (Bo r) [] := by
  refine CallS_of_text (rs := [.t 4]) (vs := [.tmp 4]) Try.func4 rfl rfl (.cons rfl FitsL.nil) (by decide) 200 rfl ?_
  unfold r_laws_FnFundamentalParts at h
  show V _ _ ⟨.c (.sl (code1.map c5)) :: .c (.sl (more2.map c5)) :: bt 198 [], []⟩ _
  refine V_sreg (mb 200 3) [] (s1 := ⟨.c (.sl (code1.map c5)) :: .c (.sl (more2.map c5)) :: bt 198 [], []⟩) ?_ ?_
  ·refine L0 rfl rfl (E_assign (Bo false) rfl (by kernel_rfl)) ?_
   refine XL_nil ?_
   kernel_rfl
  refine V_seq ?_
  obtain ⟨y3, hy3, h⟩ := of_bind h
  refine V_sreg (mb 200 34359738371) [] (s1 := ⟨.c (.sl (code1.map c5)) :: .c (.sl (more2.map c5)) :: bt 33 (Bo y3 :: bt 164 []), []⟩) ?_ ?_
  ·refine L0 rfl rfl (E_move (.c (.sl (code1.map c5))) rfl (by kernel_rfl)) ?_
   refine L0 rfl rfl (E_move (.c (.sl (more2.map c5))) rfl (by kernel_rfl)) ?_
   refine L1 rfl rfl (Y1_call (s_laws_big hy3) cf_laws_big rfl (by kernel_rfl)) ?_
   refine XL_nil ?_
   kernel_rfl
  refine V_cond rfl (fun hc4 => ?_) (fun hc4 => ?_)
  ·have h := of_true h hc4
   refine V_sreg (mb 200 16) [] (s1 := ⟨bt 4 (Bo true :: bt 195 []), []⟩) ?_ ?_
   ·refine L0 rfl rfl (E_assign (Bo true) rfl (by kernel_rfl)) ?_
    refine XL_nil ?_
    kernel_rfl
   refine V_ret ?_
   obtain rfl := some_inj h
   show Post _ _ _ _ _
   exact ⟨.inr rfl, rfl, rfl, rfl⟩
  ·have h := of_false h hc4
   refine V_skip ?_
   show V _ _ _ _
   obtain ⟨y5, hy5, h⟩ := of_bind h
   refine V_sreg (mb 200 34) [] (s1 := ⟨.bot :: .c (.sl (more2.map c5)) :: bt 3 (I y5 :: bt 194 []), []⟩) ?_ ?_
   ·refine L0 rfl rfl (E_move (.c (.sl (code1.map c5))) rfl (by kernel_rfl)) ?_
    refine L1 rfl rfl (Y1_call (s_spec_DrawFundamentalPart hy5) cf_spec_DrawFundamentalPart rfl (by kernel_rfl)) ?_
    refine L0 rfl rfl (E_assign (I y5) rfl (by kernel_rfl)) ?_
    refine XL_nil ?_
    kernel_rfl
   obtain ⟨y6, hy6, h⟩ := of_bind h
   refine V_sreg (mb 200 482) [] (s1 := ⟨.bot :: .c (.sl (more2.map c5)) :: bt 3 (I y5 :: I y6.1 :: I y6.2.1 :: Bo y6.2.2 :: bt 191 []), []⟩) ?_ ?_
   ·refine L0 rfl rfl (E_move (I y5) rfl (by kernel_rfl)) ?_
    refine L1 rfl rfl (Y1_call (s_impl_FundamentalPart hy6) cf_impl_FundamentalPart rfl (by kernel_rfl)) ?_
    refine L0 rfl rfl (E_move (.tc (I y6.1) (.tc (I y6.2.1) (.tc (Bo y6.2.2) .tn))) rfl (by kernel_rfl)) ?_
    refine L0 rfl rfl (E_ext (n := 0) (I y6.1) (.tc (I y6.2.1) (.tc (Bo y6.2.2) .tn)) (I y6.1) rfl (by kernel_rfl) (by kernel_rfl) (by intro hh; cases hh)) ?_
    refine L0 rfl rfl (E_ext (n := 1) (I y6.1) (.tc (I y6.2.1) (.tc (Bo y6.2.2) .tn)) (I y6.2.1) rfl (by kernel_rfl) (by kernel_rfl) (by intro hh; cases hh)) ?_
    refine L0 rfl rfl (E_ext (n := 2) (I y6.1) (.tc (I y6.2.1) (.tc (Bo y6.2.2) .tn)) (Bo y6.2.2) rfl (by kernel_rfl) (by kernel_rfl) (by intro hh; cases hh)) ?_
    refine L0 rfl rfl (E_assign (I y6.1) rfl (by kernel_rfl)) ?_
    refine L0 rfl rfl (E_assign (I y6.2.1) rfl (by kernel_rfl)) ?_
    refine L0 rfl rfl (E_assign (Bo y6.2.2) rfl (by kernel_rfl)) ?_
    refine XL_nil ?_
    kernel_rfl
   obtain ⟨y7, hy7, h⟩ := of_bind h
   refine V_sreg (mb 200 4066) [] (s1 := ⟨.bot :: .c (.sl (more2.map c5)) :: bt 3 (I y5 :: I y6.1 :: I y6.2.1 :: Bo y6.2.2 :: I y7.1 :: I y7.2.1 :: Bo y7.2.2 :: bt 188 []), []⟩) ?_ ?_
   ·refine L0 rfl rfl (E_move (I y5) rfl (by kernel_rfl)) ?_
    refine L1 rfl rfl (Y1_call (s_spec_FundamentalPart hy7) cf_spec_FundamentalPart rfl (by kernel_rfl)) ?_
    refine L0 rfl rfl (E_move (.tc (I y7.1) (.tc (I y7.2.1) (.tc (Bo y7.2.2) .tn))) rfl (by kernel_rfl)) ?_
    refine L0 rfl rfl (E_ext (n := 0) (I y7.1) (.tc (I y7.2.1) (.tc (Bo y7.2.2) .tn)) (I y7.1) rfl (by kernel_rfl) (by kernel_rfl) (by intro hh; cases hh)) ?_
    refine L0 rfl rfl (E_ext (n := 1) (I y7.1) (.tc (I y7.2.1) (.tc (Bo y7.2.2) .tn)) (I y7.2.1) rfl (by kernel_rfl) (by kernel_rfl) (by intro hh; cases hh)) ?_
    refine L0 rfl rfl (E_ext (n := 2) (I y7.1) (.tc (I y7.2.1) (.tc (Bo y7.2.2) .tn)) (Bo y7.2.2) rfl (by kernel_rfl) (by kernel_rfl) (by intro hh; cases hh)) ?_
    refine L0 rfl rfl (E_assign (I y7.1) rfl (by kernel_rfl)) ?_
    refine L0 rfl rfl (E_assign (I y7.2.1) rfl (by kernel_rfl)) ?_
    refine L0 rfl rfl (E_assign (Bo y7.2.2) rfl (by kernel_rfl)) ?_
    refine XL_nil ?_
    kernel_rfl
   refine V_seq ?_
   obtain ⟨t10, ht10, h⟩ := of_bind h
   have ht10 := some_inj ht10
   refine V_sreg (mb 200 4611686018427388386) [] (s1 := ⟨.bot :: .c (.sl (more2.map c5)) :: bt 3 (I y5 :: I y6.1 :: I y6.2.1 :: Bo y6.2.2 :: bt 53 (Bo t10 :: bt 137 [])), []⟩) ?_ ?_
   ·refine L0 rfl rfl (E_move (Bo y6.2.2) rfl (by kernel_rfl)) ?_
    refine L0 rfl rfl (E_move (Bo y7.2.2) rfl (by kernel_rfl)) ?_
    refine L0 rfl rfl (Y0_neb (a := y6.2.2) (b := y7.2.2) Try.underlying4 rfl (by kernel_rfl) (by kernel_rfl)) ?_
    refine L0 rfl rfl (E_move (Bo (y6.2.2 != y7.2.2)) rfl (by kernel_rfl)) ?_
    refine XL_split (y6.2.2 != y7.2.2) (fun hc8 => ?_) (fun hc8 => ?_)
    ·refine XL_skipF _ rfl rfl (by kernel_rfl) hc8 rfl ?_
     refine XL_skipF _ rfl rfl (by kernel_rfl) hc8 rfl ?_
     refine XL_skipF _ rfl rfl (by kernel_rfl) hc8 rfl ?_
     refine XL_cons rfl (X_of_Y0 rfl (Y0_pick1 (b := y6.2.2 != y7.2.2) (p := true) (q := !eqI y6.1 y7.1) rfl (by kernel_rfl) hc8 (by kernel_rfl))) ?_
     refine L0 rfl rfl (E_move (Bo (bif (y6.2.2 != y7.2.2) then true else (!eqI y6.1 y7.1))) rfl (by kernel_rfl)) ?_
     refine XL_split (bif (y6.2.2 != y7.2.2) then true else (!eqI y6.1 y7.1)) (fun hc9 => ?_) (fun hc9 => ?_)
     ·refine XL_skipF _ rfl rfl (by kernel_rfl) hc9 rfl ?_
      refine XL_skipF _ rfl rfl (by kernel_rfl) hc9 rfl ?_
      refine XL_skipF _ rfl rfl (by kernel_rfl) hc9 rfl ?_
      refine XL_cons rfl (X_of_Y0 rfl (Y0_pick1 (b := bif (y6.2.2 != y7.2.2) then true else (!eqI y6.1 y7.1)) (p := true) (q := !eqI y6.2.1 y7.2.1) rfl (by kernel_rfl) hc9 (by kernel_rfl))) ?_
      refine XL_nil ?_
      subst ht10
      kernel_rfl
     ·refine XL_takeC _ rfl rfl (by kernel_rfl) hc9 (X_of_Y0 rfl (E_move (I y6.2.1) rfl (by kernel_rfl))) ?_
      refine XL_takeC _ rfl rfl (by kernel_rfl) hc9 (X_of_Y0 rfl (E_move (I y7.2.1) rfl (by kernel_rfl))) ?_
      refine XL_takeC _ rfl rfl (by kernel_rfl) hc9 (X_of_Y0 rfl (Y0_new (k := .i64) (a := y6.2.1) (b := y7.2.1) rfl (by kernel_rfl) (by kernel_rfl))) ?_
      refine XL_cons rfl (X_of_Y0 rfl (Y0_pick0 (b := bif (y6.2.2 != y7.2.2) then true else (!eqI y6.1 y7.1)) (p := true) (q := !eqI y6.2.1 y7.2.1) rfl (by kernel_rfl) hc9 (by kernel_rfl))) ?_
      refine XL_nil ?_
      subst ht10
      kernel_rfl
    ·refine XL_takeC _ rfl rfl (by kernel_rfl) hc8 (X_of_Y0 rfl (E_move (I y6.1) rfl (by kernel_rfl))) ?_
     refine XL_takeC _ rfl rfl (by kernel_rfl) hc8 (X_of_Y0 rfl (E_move (I y7.1) rfl (by kernel_rfl))) ?_
     refine XL_takeC _ rfl rfl (by kernel_rfl) hc8 (X_of_Y0 rfl (Y0_new (k := .i64) (a := y6.1) (b := y7.1) rfl (by kernel_rfl) (by kernel_rfl))) ?_
     refine XL_cons rfl (X_of_Y0 rfl (Y0_pick0 (b := y6.2.2 != y7.2.2) (p := true) (q := !eqI y6.1 y7.1) rfl (by kernel_rfl) hc8 (by kernel_rfl))) ?_
     refine L0 rfl rfl (E_move (Bo (bif (y6.2.2 != y7.2.2) then true else (!eqI y6.1 y7.1))) rfl (by kernel_rfl)) ?_
     refine XL_split (bif (y6.2.2 != y7.2.2) then true else (!eqI y6.1 y7.1)) (fun hc9 => ?_) (fun hc9 => ?_)
     ·refine XL_skipF _ rfl rfl (by kernel_rfl) hc9 rfl ?_
      refine XL_skipF _ rfl rfl (by kernel_rfl) hc9 rfl ?_
      refine XL_skipF _ rfl rfl (by kernel_rfl) hc9 rfl ?_
      refine XL_cons rfl (X_of_Y0 rfl (Y0_pick1 (b := bif (y6.2.2 != y7.2.2) then true else (!eqI y6.1 y7.1)) (p := true) (q := !eqI y6.2.1 y7.2.1) rfl (by kernel_rfl) hc9 (by kernel_rfl))) ?_
      refine XL_nil ?_
      subst ht10
      kernel_rfl
     ·refine XL_takeC _ rfl rfl (by kernel_rfl) hc9 (X_of_Y0 rfl (E_move (I y6.2.1) rfl (by kernel_rfl))) ?_
      refine XL_takeC _ rfl rfl (by kernel_rfl) hc9 (X_of_Y0 rfl (E_move (I y7.2.1) rfl (by kernel_rfl))) ?_
      refine XL_takeC _ rfl rfl (by kernel_rfl) hc9 (X_of_Y0 rfl (Y0_new (k := .i64) (a := y6.2.1) (b := y7.2.1) rfl (by kernel_rfl) (by kernel_rfl))) ?_
      refine XL_cons rfl (X_of_Y0 rfl (Y0_pick0 (b := bif (y6.2.2 != y7.2.2) then true else (!eqI y6.1 y7.1)) (p := true) (q := !eqI y6.2.1 y7.2.1) rfl (by kernel_rfl) hc9 (by kernel_rfl))) ?_
      refine XL_nil ?_
      subst ht10
      kernel_rfl
   refine V_cond rfl (fun hc11 => ?_) (fun hc11 => ?_)
   ·have h := of_true h hc11
    refine V_sreg (mb 200 16) [] (s1 := ⟨bt 4 (Bo false :: bt 195 []), []⟩) ?_ ?_
    ·refine L0 rfl rfl (E_assign (Bo false) rfl (by kernel_rfl)) ?_
     refine XL_nil ?_
     kernel_rfl
    refine V_ret ?_
    obtain rfl := some_inj h
    show Post _ _ _ _ _
    exact ⟨.inr rfl, rfl, rfl, rfl⟩
   ·have h := of_false h hc11
    refine V_skip ?_
    show V _ _ _ _
    refine V_seq ?_
    refine V_sreg (mb 200 18446744073709551842) [] (s1 := ⟨.bot :: .c (.sl (more2.map c5)) :: bt 3 (I y5 :: I y6.1 :: I y6.2.1 :: bt 56 (Bo (!y6.2.2) :: bt 135 [])), []⟩) ?_ ?_
    ·refine L0 rfl rfl (E_move (Bo y6.2.2) rfl (by kernel_rfl)) ?_
     refine L0 rfl rfl (Y0_not (b := y6.2.2) rfl (by kernel_rfl)) ?_
     refine XL_nil ?_
     kernel_rfl
    refine V_cond rfl (fun hc12 => ?_) (fun hc12 => ?_)
    ·have h := of_true h hc12
     refine V_sreg (mb 200 16) [] (s1 := ⟨bt 4 (Bo true :: bt 195 []), []⟩) ?_ ?_
     ·refine L0 rfl rfl (E_assign (Bo true) rfl (by kernel_rfl)) ?_
      refine XL_nil ?_
      kernel_rfl
     refine V_ret ?_
     obtain rfl := some_inj h
     show Post _ _ _ _ _
     exact ⟨.inr rfl, rfl, rfl, rfl⟩
    ·have h := of_false h hc12
     refine V_skip ?_
     show V _ _ _ _
     obtain ⟨y13, hy13, h⟩ := of_bind h
     refine V_sreg (mb 200 12514) [] (s1 := ⟨.bot :: .c (.sl (more2.map c5)) :: bt 3 (I y5 :: I y6.1 :: I y6.2.1 :: bt 4 (Bo y13.1 :: Bo y13.2 :: bt 186 [])), []⟩) ?_ ?_
     ·refine L0 rfl rfl (E_move (I y6.1) rfl (by kernel_rfl)) ?_
      refine L1 rfl rfl (Y1_call (s_impl_IsFundamental hy13) cf_impl_IsFundamental rfl (by kernel_rfl)) ?_
      refine L0 rfl rfl (E_move (.tc (Bo y13.1) (.tc (Bo y13.2) .tn)) rfl (by kernel_rfl)) ?_
      refine L0 rfl rfl (E_ext (n := 0) (Bo y13.1) (.tc (Bo y13.2) .tn) (Bo y13.1) rfl (by kernel_rfl) (by kernel_rfl) (by intro hh; cases hh)) ?_
      refine L0 rfl rfl (E_ext (n := 1) (Bo y13.1) (.tc (Bo y13.2) .tn) (Bo y13.2) rfl (by kernel_rfl) (by kernel_rfl) (by intro hh; cases hh)) ?_
      refine L0 rfl rfl (E_assign (Bo y13.1) rfl (by kernel_rfl)) ?_
      refine L0 rfl rfl (E_assign (Bo y13.2) rfl (by kernel_rfl)) ?_
      refine XL_nil ?_
      kernel_rfl
     obtain ⟨y14, hy14, h⟩ := of_bind h
     refine V_sreg (mb 200 61666) [576] (s1 := ⟨.bot :: .c (.sl (more2.map c5)) :: bt 3 (I y5 :: I y6.1 :: I y6.2.1 :: bt 4 (Bo y13.1 :: Bo y13.2 :: .ow 576 :: Bo y14.2 :: bt 184 [])), [(576, .arr 3 1 (y14.1.map c3))]⟩) ?_ ?_
     ·refine L0 rfl rfl (E_move (I y6.1) rfl (by kernel_rfl)) ?_
      refine L1 rfl rfl (Y1_call (s_impl_PrimeDiscriminants hy14) cf_impl_PrimeDiscriminants rfl (by kernel_rfl)) ?_
      refine L0 rfl rfl (E_move (.tc (.ow 576) (.tc (Bo y14.2) .tn)) rfl (by kernel_rfl)) ?_
      refine L0 rfl rfl (E_ext (n := 0) (.ow 576) (.tc (Bo y14.2) .tn) (.ow 576) rfl (by kernel_rfl) (by kernel_rfl) (by intro hh; cases hh)) ?_
      refine L0 rfl rfl (E_ext (n := 1) (.ow 576) (.tc (Bo y14.2) .tn) (Bo y14.2) rfl (by kernel_rfl) (by kernel_rfl) (by intro hh; cases hh)) ?_
      refine L0 rfl rfl (E_assign (.ow 576) rfl (by kernel_rfl)) ?_
      refine L0 rfl rfl (E_assign (Bo y14.2) rfl (by kernel_rfl)) ?_
      refine XL_nil ?_
      kernel_rfl
     obtain ⟨y15, hy15, h⟩ := of_bind h
     refine V_sreg (mb 200 258274) [128, 576] (s1 := ⟨.bot :: .c (.sl (more2.map c5)) :: bt 3 (I y5 :: I y6.1 :: I y6.2.1 :: bt 4 (Bo y13.1 :: Bo y13.2 :: .ow 576 :: Bo y14.2 :: .pt 128 0 :: Bo y15.2 :: bt 182 [])), [(128, .box [Ti y15.1.1, Ti y15.1.2.1, Ti y15.1.2.2]), (576, .arr 3 1 (y14.1.map c3))]⟩) ?_ ?_
     ·refine L0 rfl rfl (E_move (I y5) rfl (by kernel_rfl)) ?_
      refine L1 rfl rfl (Y1_call (s_impl_PrincipalForm hy15) cf_impl_PrincipalForm rfl (by kernel_rfl)) ?_
      refine L0 rfl rfl (E_move (.tc (.ag [Ti y15.1.1, Ti y15.1.2.1, Ti y15.1.2.2]) (.tc (Bo y15.2) .tn)) rfl (by kernel_rfl)) ?_
      refine L0 rfl rfl (E_ext (n := 0) (.ag [Ti y15.1.1, Ti y15.1.2.1, Ti y15.1.2.2]) (.tc (Bo y15.2) .tn) (.ag [Ti y15.1.1, Ti y15.1.2.1, Ti y15.1.2.2]) rfl (by kernel_rfl) (by kernel_rfl) (by intro hh; cases hh)) ?_
      refine L0 rfl rfl (E_ext (n := 1) (.ag [Ti y15.1.1, Ti y15.1.2.1, Ti y15.1.2.2]) (.tc (Bo y15.2) .tn) (Bo y15.2) rfl (by kernel_rfl) (by kernel_rfl) (by intro hh; cases hh)) ?_
      refine L1 rfl rfl (Y1_alloc (z := zv45) rfl zf45 rfl) ?_
      refine XL_cons rfl (E_store (id := 128) (off := 0) (cs := [Ti 0, Ti 0, Ti 0]) (vc := [Ti y15.1.1, Ti y15.1.2.1, Ti y15.1.2.2]) [Ti y15.1.1, Ti y15.1.2.1, Ti y15.1.2.2] rfl rfl (by kernel_rfl) (by kernel_rfl) (by kernel_rfl) sz45 (Nat.le_of_ble_eq_true rfl) (by kernel_rfl)) ?_
      refine L0 rfl rfl (E_assign (Bo y15.2) rfl (by kernel_rfl)) ?_
      refine XL_nil ?_
      kernel_rfl
     refine V_seq ?_
     obtain ⟨t20, ht20, h⟩ := of_bind h
     have ht20 := some_inj ht20
     refine V_sreg (mb 200 5070602400912917605986812903650) [128, 576] (s1 := ⟨.bot :: .c (.sl (more2.map c5)) :: bt 3 (I y5 :: I y6.1 :: I y6.2.1 :: bt 6 (.ow 576 :: .bot :: .pt 128 0 :: bt 85 (Bo t20 :: bt 97 []))), [(128, .box [Ti y15.1.1, Ti y15.1.2.1, Ti y15.1.2.2]), (576, .arr 3 1 (y14.1.map c3))]⟩) ?_ ?_
     ·refine L0 rfl rfl (E_move (Bo y13.2) rfl (by kernel_rfl)) ?_
      refine L0 rfl rfl (Y0_not (b := y13.2) rfl (by kernel_rfl)) ?_
      refine L0 rfl rfl (E_move (Bo (!y13.2)) rfl (by kernel_rfl)) ?_
      refine XL_split (!y13.2) (fun hc16 => ?_) (fun hc16 => ?_)
      ·refine XL_skipF _ rfl rfl (by kernel_rfl) hc16 rfl ?_
       refine XL_skipF _ rfl rfl (by kernel_rfl) hc16 rfl ?_
       refine XL_cons rfl (X_of_Y0 rfl (Y0_pick1 (b := !y13.2) (p := true) (q := !y13.1) rfl (by kernel_rfl) hc16 (by kernel_rfl))) ?_
       refine L0 rfl rfl (E_move (Bo (bif (!y13.2) then true else (!y13.1))) rfl (by kernel_rfl)) ?_
       refine XL_split (bif (!y13.2) then true else (!y13.1)) (fun hc17 => ?_) (fun hc17 => ?_)
       ·refine XL_skipF _ rfl rfl (by kernel_rfl) hc17 rfl ?_
        refine XL_skipF _ rfl rfl (by kernel_rfl) hc17 rfl ?_
        refine XL_cons rfl (X_of_Y0 rfl (Y0_pick1 (b := bif (!y13.2) then true else (!y13.1)) (p := true) (q := !y14.2) rfl (by kernel_rfl) hc17 (by kernel_rfl))) ?_
        refine L0 rfl rfl (E_move (Bo (bif (bif (!y13.2) then true else (!y13.1)) then true else (!y14.2))) rfl (by kernel_rfl)) ?_
        refine XL_split (bif (bif (!y13.2) then true else (!y13.1)) then true else (!y14.2)) (fun hc18 => ?_) (fun hc18 => ?_)
        ·refine XL_skipF _ rfl rfl (by kernel_rfl) hc18 rfl ?_
         refine XL_skipF _ rfl rfl (by kernel_rfl) hc18 rfl ?_
         refine XL_cons rfl (X_of_Y0 rfl (Y0_pick1 (b := bif (bif (!y13.2) then true else (!y13.1)) then true else (!y14.2)) (p := true) (q := !y15.2) rfl (by kernel_rfl) hc18 (by kernel_rfl))) ?_
         refine L0 rfl rfl (E_move (Bo (bif (bif (bif (!y13.2) then true else (!y13.1)) then true else (!y14.2)) then true else (!y15.2))) rfl (by kernel_rfl)) ?_
         refine XL_split (bif (bif (bif (!y13.2) then true else (!y13.1)) then true else (!y14.2)) then true else (!y15.2)) (fun hc19 => ?_) (fun hc19 => ?_)
         ·refine XL_skipF _ rfl rfl (by kernel_rfl) hc19 rfl ?_
          refine XL_skipF _ rfl rfl (by kernel_rfl) hc19 rfl ?_
          refine XL_skipF _ rfl rfl (by kernel_rfl) hc19 rfl ?_
          refine XL_skipF _ rfl rfl (by kernel_rfl) hc19 rfl ?_
          refine XL_skipF _ rfl rfl (by kernel_rfl) hc19 rfl ?_
          refine XL_skipF _ rfl rfl (by kernel_rfl) hc19 rfl ?_
          refine XL_skipF _ rfl rfl (by kernel_rfl) hc19 rfl ?_
          refine XL_cons rfl (X_of_Y0 rfl (Y0_pick1 (b := bif (bif (bif (!y13.2) then true else (!y13.1)) then true else (!y14.2)) then true else (!y15.2)) (p := true) (q := !eqI (w64 ((w64 (y6.1 * y6.2.1)) * y6.2.1)) y5) rfl (by kernel_rfl) hc19 (by kernel_rfl))) ?_
          refine XL_nil ?_
          subst ht20
          kernel_rfl
         ·refine XL_takeC _ rfl rfl (by kernel_rfl) hc19 (X_of_Y0 rfl (E_move (I y6.1) rfl (by kernel_rfl))) ?_
          refine XL_takeC _ rfl rfl (by kernel_rfl) hc19 (X_of_Y0 rfl (E_move (I y6.2.1) rfl (by kernel_rfl))) ?_
          refine XL_takeC _ rfl rfl (by kernel_rfl) hc19 (X_of_Y0 rfl (Y0_mul64 (a := y6.1) (b := y6.2.1) rfl (by kernel_rfl) (by kernel_rfl))) ?_
          refine XL_takeC _ rfl rfl (by kernel_rfl) hc19 (X_of_Y0 rfl (E_move (I y6.2.1) rfl (by kernel_rfl))) ?_
          refine XL_takeC _ rfl rfl (by kernel_rfl) hc19 (X_of_Y0 rfl (Y0_mul64 (a := w64 (y6.1 * y6.2.1)) (b := y6.2.1) rfl (by kernel_rfl) (by kernel_rfl))) ?_
          refine XL_takeC _ rfl rfl (by kernel_rfl) hc19 (X_of_Y0 rfl (E_move (I y5) rfl (by kernel_rfl))) ?_
          refine XL_takeC _ rfl rfl (by kernel_rfl) hc19 (X_of_Y0 rfl (Y0_new (k := .i64) (a := w64 ((w64 (y6.1 * y6.2.1)) * y6.2.1)) (b := y5) rfl (by kernel_rfl) (by kernel_rfl))) ?_
          refine XL_cons rfl (X_of_Y0 rfl (Y0_pick0 (b := bif (bif (bif (!y13.2) then true else (!y13.1)) then true else (!y14.2)) then true else (!y15.2)) (p := true) (q := !eqI (w64 ((w64 (y6.1 * y6.2.1)) * y6.2.1)) y5) rfl (by kernel_rfl) hc19 (by kernel_rfl))) ?_
          refine XL_nil ?_
          subst ht20
          kernel_rfl
        ·refine XL_takeC _ rfl rfl (by kernel_rfl) hc18 (X_of_Y0 rfl (E_move (Bo y15.2) rfl (by kernel_rfl))) ?_
         refine XL_takeC _ rfl rfl (by kernel_rfl) hc18 (X_of_Y0 rfl (Y0_not (b := y15.2) rfl (by kernel_rfl))) ?_
         refine XL_cons rfl (X_of_Y0 rfl (Y0_pick0 (b := bif (bif (!y13.2) then true else (!y13.1)) then true else (!y14.2)) (p := true) (q := !y15.2) rfl (by kernel_rfl) hc18 (by kernel_rfl))) ?_
         refine L0 rfl rfl (E_move (Bo (bif (bif (bif (!y13.2) then true else (!y13.1)) then true else (!y14.2)) then true else (!y15.2))) rfl (by kernel_rfl)) ?_
         refine XL_split (bif (bif (bif (!y13.2) then true else (!y13.1)) then true else (!y14.2)) then true else (!y15.2)) (fun hc19 => ?_) (fun hc19 => ?_)
         ·refine XL_skipF _ rfl rfl (by kernel_rfl) hc19 rfl ?_
          refine XL_skipF _ rfl rfl (by kernel_rfl) hc19 rfl ?_
          refine XL_skipF _ rfl rfl (by kernel_rfl) hc19 rfl ?_
          refine XL_skipF _ rfl rfl (by kernel_rfl) hc19 rfl ?_
          refine XL_skipF _ rfl rfl (by kernel_rfl) hc19 rfl ?_
          refine XL_skipF _ rfl rfl (by kernel_rfl) hc19 rfl ?_
          refine XL_skipF _ rfl rfl (by kernel_rfl) hc19 rfl ?_
          refine XL_cons rfl (X_of_Y0 rfl (Y0_pick1 (b := bif (bif (bif (!y13.2) then true else (!y13.1)) then true else (!y14.2)) then true else (!y15.2)) (p := true) (q := !eqI (w64 ((w64 (y6.1 * y6.2.1)) * y6.2.1)) y5) rfl (by kernel_rfl) hc19 (by kernel_rfl))) ?_
          refine XL_nil ?_
          subst ht20
          kernel_rfl
         ·refine XL_takeC _ rfl rfl (by kernel_rfl) hc19 (X_of_Y0 rfl (E_move (I y6.1) rfl (by kernel_rfl))) ?_
          refine XL_takeC _ rfl rfl (by kernel_rfl) hc19 (X_of_Y0 rfl (E_move (I y6.2.1) rfl (by kernel_rfl))) ?_
          refine XL_takeC _ rfl rfl (by kernel_rfl) hc19 (X_of_Y0 rfl (Y0_mul64 (a := y6.1) (b := y6.2.1) rfl (by kernel_rfl) (by kernel_rfl))) ?_
          refine XL_takeC _ rfl rfl (by kernel_rfl) hc19 (X_of_Y0 rfl (E_move (I y6.2.1) rfl (by kernel_rfl))) ?_
          refine XL_takeC _ rfl rfl (by kernel_rfl) hc19 (X_of_Y0 rfl (Y0_mul64 (a := w64 (y6.1 * y6.2.1)) (b := y6.2.1) rfl (by kernel_rfl) (by kernel_rfl))) ?_
          refine XL_takeC _ rfl rfl (by kernel_rfl) hc19 (X_of_Y0 rfl (E_move (I y5) rfl (by kernel_rfl))) ?_
          refine XL_takeC _ rfl rfl (by kernel_rfl) hc19 (X_of_Y0 rfl (Y0_new (k := .i64) (a := w64 ((w64 (y6.1 * y6.2.1)) * y6.2.1)) (b := y5) rfl (by kernel_rfl) (by kernel_rfl))) ?_
          refine XL_cons rfl (X_of_Y0 rfl (Y0_pick0 (b := bif (bif (bif (!y13.2) then true else (!y13.1)) then true else (!y14.2)) then true else (!y15.2)) (p := true) (q := !eqI (w64 ((w64 (y6.1 * y6.2.1)) * y6.2.1)) y5) rfl (by kernel_rfl) hc19 (by kernel_rfl))) ?_
          refine XL_nil ?_
          subst ht20
          kernel_rfl
       ·refine XL_takeC _ rfl rfl (by kernel_rfl) hc17 (X_of_Y0 rfl (E_move (Bo y14.2) rfl (by kernel_rfl))) ?_
        refine XL_takeC _ rfl rfl (by kernel_rfl) hc17 (X_of_Y0 rfl (Y0_not (b := y14.2) rfl (by kernel_rfl))) ?_
        refine XL_cons rfl (X_of_Y0 rfl (Y0_pick0 (b := bif (!y13.2) then true else (!y13.1)) (p := true) (q := !y14.2) rfl (by kernel_rfl) hc17 (by kernel_rfl))) ?_
        refine L0 rfl rfl (E_move (Bo (bif (bif (!y13.2) then true else (!y13.1)) then true else (!y14.2))) rfl (by kernel_rfl)) ?_
        refine XL_split (bif (bif (!y13.2) then true else (!y13.1)) then true else (!y14.2)) (fun hc18 => ?_) (fun hc18 => ?_)
        ·refine XL_skipF _ rfl rfl (by kernel_rfl) hc18 rfl ?_
         refine XL_skipF _ rfl rfl (by kernel_rfl) hc18 rfl ?_
         refine XL_cons rfl (X_of_Y0 rfl (Y0_pick1 (b := bif (bif (!y13.2) then true else (!y13.1)) then true else (!y14.2)) (p := true) (q := !y15.2) rfl (by kernel_rfl) hc18 (by kernel_rfl))) ?_
         refine L0 rfl rfl (E_move (Bo (bif (bif (bif (!y13.2) then true else (!y13.1)) then true else (!y14.2)) then true else (!y15.2))) rfl (by kernel_rfl)) ?_
         refine XL_split (bif (bif (bif (!y13.2) then true else (!y13.1)) then true else (!y14.2)) then true else (!y15.2)) (fun hc19 => ?_) (fun hc19 => ?_)
         ·refine XL_skipF _ rfl rfl (by kernel_rfl) hc19 rfl ?_
          refine XL_skipF _ rfl rfl (by kernel_rfl) hc19 rfl ?_
          refine XL_skipF _ rfl rfl (by kernel_rfl) hc19 rfl ?_
          refine XL_skipF _ rfl rfl (by kernel_rfl) hc19 rfl ?_
          refine XL_skipF _ rfl rfl (by kernel_rfl) hc19 rfl ?_
          refine XL_skipF _ rfl rfl (by kernel_rfl) hc19 rfl ?_
          refine XL_skipF _ rfl rfl (by kernel_rfl) hc19 rfl ?_
          refine XL_cons rfl (X_of_Y0 rfl (Y0_pick1 (b := bif (bif (bif (!y13.2) then true else (!y13.1)) then true else (!y14.2)) then true else (!y15.2)) (p := true) (q := !eqI (w64 ((w64 (y6.1 * y6.2.1)) * y6.2.1)) y5) rfl (by kernel_rfl) hc19 (by kernel_rfl))) ?_
          refine XL_nil ?_
          subst ht20
          kernel_rfl
         ·refine XL_takeC _ rfl rfl (by kernel_rfl) hc19 (X_of_Y0 rfl (E_move (I y6.1) rfl (by kernel_rfl))) ?_
          refine XL_takeC _ rfl rfl (by kernel_rfl) hc19 (X_of_Y0 rfl (E_move (I y6.2.1) rfl (by kernel_rfl))) ?_
          refine XL_takeC _ rfl rfl (by kernel_rfl) hc19 (X_of_Y0 rfl (Y0_mul64 (a := y6.1) (b := y6.2.1) rfl (by kernel_rfl) (by kernel_rfl))) ?_
          refine XL_takeC _ rfl rfl (by kernel_rfl) hc19 (X_of_Y0 rfl (E_move (I y6.2.1) rfl (by kernel_rfl))) ?_
          refine XL_takeC _ rfl rfl (by kernel_rfl) hc19 (X_of_Y0 rfl (Y0_mul64 (a := w64 (y6.1 * y6.2.1)) (b := y6.2.1) rfl (by kernel_rfl) (by kernel_rfl))) ?_
          refine XL_takeC _ rfl rfl (by kernel_rfl) hc19 (X_of_Y0 rfl (E_move (I y5) rfl (by kernel_rfl))) ?_
          refine XL_takeC _ rfl rfl (by kernel_rfl) hc19 (X_of_Y0 rfl (Y0_new (k := .i64) (a := w64 ((w64 (y6.1 * y6.2.1)) * y6.2.1)) (b := y5) rfl (by kernel_rfl) (by kernel_rfl))) ?_
          refine XL_cons rfl (X_of_Y0 rfl (Y0_pick0 (b := bif (bif (bif (!y13.2) then true else (!y13.1)) then true else (!y14.2)) then true else (!y15.2)) (p := true) (q := !eqI (w64 ((w64 (y6.1 * y6.2.1)) * y6.2.1)) y5) rfl (by kernel_rfl) hc19 (by kernel_rfl))) ?_
          refine XL_nil ?_
          subst ht20
          kernel_rfl
        ·refine XL_takeC _ rfl rfl (by kernel_rfl) hc18 (X_of_Y0 rfl (E_move (Bo y15.2) rfl (by kernel_rfl))) ?_
         refine XL_takeC _ rfl rfl (by kernel_rfl) hc18 (X_of_Y0 rfl (Y0_not (b := y15.2) rfl (by kernel_rfl))) ?_
         refine XL_cons rfl (X_of_Y0 rfl (Y0_pick0 (b := bif (bif (!y13.2) then true else (!y13.1)) then true else (!y14.2)) (p := true) (q := !y15.2) rfl (by kernel_rfl) hc18 (by kernel_rfl))) ?_
         refine L0 rfl rfl (E_move (Bo (bif (bif (bif (!y13.2) then true else (!y13.1)) then true else (!y14.2)) then true else (!y15.2))) rfl (by kernel_rfl)) ?_
         refine XL_split (bif (bif (bif (!y13.2) then true else (!y13.1)) then true else (!y14.2)) then true else (!y15.2)) (fun hc19 => ?_) (fun hc19 => ?_)
         ·refine XL_skipF _ rfl rfl (by kernel_rfl) hc19 rfl ?_
          refine XL_skipF _ rfl rfl (by kernel_rfl) hc19 rfl ?_
          refine XL_skipF _ rfl rfl (by kernel_rfl) hc19 rfl ?_
          refine XL_skipF _ rfl rfl (by kernel_rfl) hc19 rfl ?_
          refine XL_skipF _ rfl rfl (by kernel_rfl) hc19 rfl ?_
          refine XL_skipF _ rfl rfl (by kernel_rfl) hc19 rfl ?_
          refine XL_skipF _ rfl rfl (by kernel_rfl) hc19 rfl ?_
          refine XL_cons rfl (X_of_Y0 rfl (Y0_pick1 (b := bif (bif (bif (!y13.2) then true else (!y13.1)) then true else (!y14.2)) then true else (!y15.2)) (p := true) (q := !eqI (w64 ((w64 (y6.1 * y6.2.1)) * y6.2.1)) y5) rfl (by kernel_rfl) hc19 (by kernel_rfl))) ?_
          refine XL_nil ?_
          subst ht20
          kernel_rfl
         ·refine XL_takeC _ rfl rfl (by kernel_rfl) hc19 (X_of_Y0 rfl (E_move (I y6.1) rfl (by kernel_rfl))) ?_
          refine XL_takeC _ rfl rfl (by kernel_rfl) hc19 (X_of_Y0 rfl (E_move (I y6.2.1) rfl (by kernel_rfl))) ?_
          refine XL_takeC _ rfl rfl (by kernel_rfl) hc19 (X_of_Y0 rfl (Y0_mul64 (a := y6.1) (b := y6.2.1) rfl (by kernel_rfl) (by kernel_rfl))) ?_
          refine XL_takeC _ rfl rfl (by kernel_rfl) hc19 (X_of_Y0 rfl (E_move (I y6.2.1) rfl (by kernel_rfl))) ?_
          refine XL_takeC _ rfl rfl (by kernel_rfl) hc19 (X_of_Y0 rfl (Y0_mul64 (a := w64 (y6.1 * y6.2.1)) (b := y6.2.1) rfl (by kernel_rfl) (by kernel_rfl))) ?_
          refine XL_takeC _ rfl rfl (by kernel_rfl) hc19 (X_of_Y0 rfl (E_move (I y5) rfl (by kernel_rfl))) ?_
          refine XL_takeC _ rfl rfl (by kernel_rfl) hc19 (X_of_Y0 rfl (Y0_new (k := .i64) (a := w64 ((w64 (y6.1 * y6.2.1)) * y6.2.1)) (b := y5) rfl (by kernel_rfl) (by kernel_rfl))) ?_
          refine XL_cons rfl (X_of_Y0 rfl (Y0_pick0 (b := bif (bif (bif (!y13.2) then true else (!y13.1)) then true else (!y14.2)) then true else (!y15.2)) (p := true) (q := !eqI (w64 ((w64 (y6.1 * y6.2.1)) * y6.2.1)) y5) rfl (by kernel_rfl) hc19 (by kernel_rfl))) ?_
          refine XL_nil ?_
          subst ht20
          kernel_rfl
      ·refine XL_takeC _ rfl rfl (by kernel_rfl) hc16 (X_of_Y0 rfl (E_move (Bo y13.1) rfl (by kernel_rfl))) ?_
       refine XL_takeC _ rfl rfl (by kernel_rfl) hc16 (X_of_Y0 rfl (Y0_not (b := y13.1) rfl (by kernel_rfl))) ?_
       refine XL_cons rfl (X_of_Y0 rfl (Y0_pick0 (b := !y13.2) (p := true) (q := !y13.1) rfl (by kernel_rfl) hc16 (by kernel_rfl))) ?_
       refine L0 rfl rfl (E_move (Bo (bif (!y13.2) then true else (!y13.1))) rfl (by kernel_rfl)) ?_
       refine XL_split (bif (!y13.2) then true else (!y13.1)) (fun hc17 => ?_) (fun hc17 => ?_)
       ·refine XL_skipF _ rfl rfl (by kernel_rfl) hc17 rfl ?_
        refine XL_skipF _ rfl rfl (by kernel_rfl) hc17 rfl ?_
        refine XL_cons rfl (X_of_Y0 rfl (Y0_pick1 (b := bif (!y13.2) then true else (!y13.1)) (p := true) (q := !y14.2) rfl (by kernel_rfl) hc17 (by kernel_rfl))) ?_
        refine L0 rfl rfl (E_move (Bo (bif (bif (!y13.2) then true else (!y13.1)) then true else (!y14.2))) rfl (by kernel_rfl)) ?_
        refine XL_split (bif (bif (!y13.2) then true else (!y13.1)) then true else (!y14.2)) (fun hc18 => ?_) (fun hc18 => ?_)
        ·refine XL_skipF _ rfl rfl (by kernel_rfl) hc18 rfl ?_
         refine XL_skipF _ rfl rfl (by kernel_rfl) hc18 rfl ?_
         refine XL_cons rfl (X_of_Y0 rfl (Y0_pick1 (b := bif (bif (!y13.2) then true else (!y13.1)) then true else (!y14.2)) (p := true) (q := !y15.2) rfl (by kernel_rfl) hc18 (by kernel_rfl))) ?_
         refine L0 rfl rfl (E_move (Bo (bif (bif (bif (!y13.2) then true else (!y13.1)) then true else (!y14.2)) then true else (!y15.2))) rfl (by kernel_rfl)) ?_
         refine XL_split (bif (bif (bif (!y13.2) then true else (!y13.1)) then true else (!y14.2)) then true else (!y15.2)) (fun hc19 => ?_) (fun hc19 => ?_)
         ·refine XL_skipF _ rfl rfl (by kernel_rfl) hc19 rfl ?_
          refine XL_skipF _ rfl rfl (by kernel_rfl) hc19 rfl ?_
          refine XL_skipF _ rfl rfl (by kernel_rfl) hc19 rfl ?_
          refine XL_skipF _ rfl rfl (by kernel_rfl) hc19 rfl ?_
          refine XL_skipF _ rfl rfl (by kernel_rfl) hc19 rfl ?_
          refine XL_skipF _ rfl rfl (by kernel_rfl) hc19 rfl ?_
          refine XL_skipF _ rfl rfl (by kernel_rfl) hc19 rfl ?_
          refine XL_cons rfl (X_of_Y0 rfl (Y0_pick1 (b := bif (bif (bif (!y13.2) then true else (!y13.1)) then true else (!y14.2)) then true else (!y15.2)) (p := true) (q := !eqI (w64 ((w64 (y6.1 * y6.2.1)) * y6.2.1)) y5) rfl (by kernel_rfl) hc19 (by kernel_rfl))) ?_
          refine XL_nil ?_
          subst ht20
          kernel_rfl
         ·refine XL_takeC _ rfl rfl (by kernel_rfl) hc19 (X_of_Y0 rfl (E_move (I y6.1) rfl (by kernel_rfl))) ?_
          refine XL_takeC _ rfl rfl (by kernel_rfl) hc19 (X_of_Y0 rfl (E_move (I y6.2.1) rfl (by kernel_rfl))) ?_
          refine XL_takeC _ rfl rfl (by kernel_rfl) hc19 (X_of_Y0 rfl (Y0_mul64 (a := y6.1) (b := y6.2.1) rfl (by kernel_rfl) (by kernel_rfl))) ?_
          refine XL_takeC _ rfl rfl (by kernel_rfl) hc19 (X_of_Y0 rfl (E_move (I y6.2.1) rfl (by kernel_rfl))) ?_
          refine XL_takeC _ rfl rfl (by kernel_rfl) hc19 (X_of_Y0 rfl (Y0_mul64 (a := w64 (y6.1 * y6.2.1)) (b := y6.2.1) rfl (by kernel_rfl) (by kernel_rfl))) ?_
          refine XL_takeC _ rfl rfl (by kernel_rfl) hc19 (X_of_Y0 rfl (E_move (I y5) rfl (by kernel_rfl))) ?_
          refine XL_takeC _ rfl rfl (by kernel_rfl) hc19 (X_of_Y0 rfl (Y0_new (k := .i64) (a := w64 ((w64 (y6.1 * y6.2.1)) * y6.2.1)) (b := y5) rfl (by kernel_rfl) (by kernel_rfl))) ?_
          refine XL_cons rfl (X_of_Y0 rfl (Y0_pick0 (b := bif (bif (bif (!y13.2) then true else (!y13.1)) then true else (!y14.2)) then true else (!y15.2)) (p := true) (q := !eqI (w64 ((w64 (y6.1 * y6.2.1)) * y6.2.1)) y5) rfl (by kernel_rfl) hc19 (by kernel_rfl))) ?_
          refine XL_nil ?_
          subst ht20
          kernel_rfl
        ·refine XL_takeC _ rfl rfl (by kernel_rfl) hc18 (X_of_Y0 rfl (E_move (Bo y15.2) rfl (by kernel_rfl))) ?_
         refine XL_takeC _ rfl rfl (by kernel_rfl) hc18 (X_of_Y0 rfl (Y0_not (b := y15.2) rfl (by kernel_rfl))) ?_
         refine XL_cons rfl (X_of_Y0 rfl (Y0_pick0 (b := bif (bif (!y13.2) then true else (!y13.1)) then true else (!y14.2)) (p := true) (q := !y15.2) rfl (by kernel_rfl) hc18 (by kernel_rfl))) ?_
         refine L0 rfl rfl (E_move (Bo (bif (bif (bif (!y13.2) then true else (!y13.1)) then true else (!y14.2)) then true else (!y15.2))) rfl (by kernel_rfl)) ?_
         refine XL_split (bif (bif (bif (!y13.2) then true else (!y13.1)) then true else (!y14.2)) then true else (!y15.2)) (fun hc19 => ?_) (fun hc19 => ?_)
         ·refine XL_skipF _ rfl rfl (by kernel_rfl) hc19 rfl ?_
          refine XL_skipF _ rfl rfl (by kernel_rfl) hc19 rfl ?_
          refine XL_skipF _ rfl rfl (by kernel_rfl) hc19 rfl ?_
          refine XL_skipF _ rfl rfl (by kernel_rfl) hc19 rfl ?_
          refine XL_skipF _ rfl rfl (by kernel_rfl) hc19 rfl ?_
          refine XL_skipF _ rfl rfl (by kernel_rfl) hc19 rfl ?_
          refine XL_skipF _ rfl rfl (by kernel_rfl) hc19 rfl ?_
          refine XL_cons rfl (X_of_Y0 rfl (Y0_pick1 (b := bif (bif (bif (!y13.2) then true else (!y13.1)) then true else (!y14.2)) then true else (!y15.2)) (p := true) (q := !eqI (w64 ((w64 (y6.1 * y6.2.1)) * y6.2.1)) y5) rfl (by kernel_rfl) hc19 (by kernel_rfl))) ?_
          refine XL_nil ?_
          subst ht20
          kernel_rfl
         ·refine XL_takeC _ rfl rfl (by kernel_rfl) hc19 (X_of_Y0 rfl (E_move (I y6.1) rfl (by kernel_rfl))) ?_
          refine XL_takeC _ rfl rfl (by kernel_rfl) hc19 (X_of_Y0 rfl (E_move (I y6.2.1) rfl (by kernel_rfl))) ?_
          refine XL_takeC _ rfl rfl (by kernel_rfl) hc19 (X_of_Y0 rfl (Y0_mul64 (a := y6.1) (b := y6.2.1) rfl (by kernel_rfl) (by kernel_rfl))) ?_
          refine XL_takeC _ rfl rfl (by kernel_rfl) hc19 (X_of_Y0 rfl (E_move (I y6.2.1) rfl (by kernel_rfl))) ?_
          refine XL_takeC _ rfl rfl (by kernel_rfl) hc19 (X_of_Y0 rfl (Y0_mul64 (a := w64 (y6.1 * y6.2.1)) (b := y6.2.1) rfl (by kernel_rfl) (by kernel_rfl))) ?_
          refine XL_takeC _ rfl rfl (by kernel_rfl) hc19 (X_of_Y0 rfl (E_move (I y5) rfl (by kernel_rfl))) ?_
          refine XL_takeC _ rfl rfl (by kernel_rfl) hc19 (X_of_Y0 rfl (Y0_new (k := .i64) (a := w64 ((w64 (y6.1 * y6.2.1)) * y6.2.1)) (b := y5) rfl (by kernel_rfl) (by kernel_rfl))) ?_
          refine XL_cons rfl (X_of_Y0 rfl (Y0_pick0 (b := bif (bif (bif (!y13.2) then true else (!y13.1)) then true else (!y14.2)) then true else (!y15.2)) (p := true) (q := !eqI (w64 ((w64 (y6.1 * y6.2.1)) * y6.2.1)) y5) rfl (by kernel_rfl) hc19 (by kernel_rfl))) ?_
          refine XL_nil ?_
          subst ht20
          kernel_rfl
       ·refine XL_takeC _ rfl rfl (by kernel_rfl) hc17 (X_of_Y0 rfl (E_move (Bo y14.2) rfl (by kernel_rfl))) ?_
        refine XL_takeC _ rfl rfl (by kernel_rfl) hc17 (X_of_Y0 rfl (Y0_not (b := y14.2) rfl (by kernel_rfl))) ?_
        refine XL_cons rfl (X_of_Y0 rfl (Y0_pick0 (b := bif (!y13.2) then true else (!y13.1)) (p := true) (q := !y14.2) rfl (by kernel_rfl) hc17 (by kernel_rfl))) ?_
        refine L0 rfl rfl (E_move (Bo (bif (bif (!y13.2) then true else (!y13.1)) then true else (!y14.2))) rfl (by kernel_rfl)) ?_
        refine XL_split (bif (bif (!y13.2) then true else (!y13.1)) then true else (!y14.2)) (fun hc18 => ?_) (fun hc18 => ?_)
        ·refine XL_skipF _ rfl rfl (by kernel_rfl) hc18 rfl ?_
         refine XL_skipF _ rfl rfl (by kernel_rfl) hc18 rfl ?_
         refine XL_cons rfl (X_of_Y0 rfl (Y0_pick1 (b := bif (bif (!y13.2) then true else (!y13.1)) then true else (!y14.2)) (p := true) (q := !y15.2) rfl (by kernel_rfl) hc18 (by kernel_rfl))) ?_
         refine L0 rfl rfl (E_move (Bo (bif (bif (bif (!y13.2) then true else (!y13.1)) then true else (!y14.2)) then true else (!y15.2))) rfl (by kernel_rfl)) ?_
         refine XL_split (bif (bif (bif (!y13.2) then true else (!y13.1)) then true else (!y14.2)) then true else (!y15.2)) (fun hc19 => ?_) (fun hc19 => ?_)
         ·refine XL_skipF _ rfl rfl (by kernel_rfl) hc19 rfl ?_
          refine XL_skipF _ rfl rfl (by kernel_rfl) hc19 rfl ?_
          refine XL_skipF _ rfl rfl (by kernel_rfl) hc19 rfl ?_
          refine XL_skipF _ rfl rfl (by kernel_rfl) hc19 rfl ?_
          refine XL_skipF _ rfl rfl (by kernel_rfl) hc19 rfl ?_
          refine XL_skipF _ rfl rfl (by kernel_rfl) hc19 rfl ?_
          refine XL_skipF _ rfl rfl (by kernel_rfl) hc19 rfl ?_
          refine XL_cons rfl (X_of_Y0 rfl (Y0_pick1 (b := bif (bif (bif (!y13.2) then true else (!y13.1)) then true else (!y14.2)) then true else (!y15.2)) (p := true) (q := !eqI (w64 ((w64 (y6.1 * y6.2.1)) * y6.2.1)) y5) rfl (by kernel_rfl) hc19 (by kernel_rfl))) ?_
          refine XL_nil ?_
          subst ht20
          kernel_rfl
         ·refine XL_takeC _ rfl rfl (by kernel_rfl) hc19 (X_of_Y0 rfl (E_move (I y6.1) rfl (by kernel_rfl))) ?_
          refine XL_takeC _ rfl rfl (by kernel_rfl) hc19 (X_of_Y0 rfl (E_move (I y6.2.1) rfl (by kernel_rfl))) ?_
          refine XL_takeC _ rfl rfl (by kernel_rfl) hc19 (X_of_Y0 rfl (Y0_mul64 (a := y6.1) (b := y6.2.1) rfl (by kernel_rfl) (by kernel_rfl))) ?_
          refine XL_takeC _ rfl rfl (by kernel_rfl) hc19 (X_of_Y0 rfl (E_move (I y6.2.1) rfl (by kernel_rfl))) ?_
          refine XL_takeC _ rfl rfl (by kernel_rfl) hc19 (X_of_Y0 rfl (Y0_mul64 (a := w64 (y6.1 * y6.2.1)) (b := y6.2.1) rfl (by kernel_rfl) (by kernel_rfl))) ?_
          refine XL_takeC _ rfl rfl (by kernel_rfl) hc19 (X_of_Y0 rfl (E_move (I y5) rfl (by kernel_rfl))) ?_
          refine XL_takeC _ rfl rfl (by kernel_rfl) hc19 (X_of_Y0 rfl (Y0_new (k := .i64) (a := w64 ((w64 (y6.1 * y6.2.1)) * y6.2.1)) (b := y5) rfl (by kernel_rfl) (by kernel_rfl))) ?_
          refine XL_cons rfl (X_of_Y0 rfl (Y0_pick0 (b := bif (bif (bif (!y13.2) then true else (!y13.1)) then true else (!y14.2)) then true else (!y15.2)) (p := true) (q := !eqI (w64 ((w64 (y6.1 * y6.2.1)) * y6.2.1)) y5) rfl (by kernel_rfl) hc19 (by kernel_rfl))) ?_
          refine XL_nil ?_
          subst ht20
          kernel_rfl
        ·refine XL_takeC _ rfl rfl (by kernel_rfl) hc18 (X_of_Y0 rfl (E_move (Bo y15.2) rfl (by kernel_rfl))) ?_
         refine XL_takeC _ rfl rfl (by kernel_rfl) hc18 (X_of_Y0 rfl (Y0_not (b := y15.2) rfl (by kernel_rfl))) ?_
         refine XL_cons rfl (X_of_Y0 rfl (Y0_pick0 (b := bif (bif (!y13.2) then true else (!y13.1)) then true else (!y14.2)) (p := true) (q := !y15.2) rfl (by kernel_rfl) hc18 (by kernel_rfl))) ?_
         refine L0 rfl rfl (E_move (Bo (bif (bif (bif (!y13.2) then true else (!y13.1)) then true else (!y14.2)) then true else (!y15.2))) rfl (by kernel_rfl)) ?_
         refine XL_split (bif (bif (bif (!y13.2) then true else (!y13.1)) then true else (!y14.2)) then true else (!y15.2)) (fun hc19 => ?_) (fun hc19 => ?_)
         ·refine XL_skipF _ rfl rfl (by kernel_rfl) hc19 rfl ?_
          refine XL_skipF _ rfl rfl (by kernel_rfl) hc19 rfl ?_
          refine XL_skipF _ rfl rfl (by kernel_rfl) hc19 rfl ?_
          refine XL_skipF _ rfl rfl (by kernel_rfl) hc19 rfl ?_
          refine XL_skipF _ rfl rfl (by kernel_rfl) hc19 rfl ?_
          refine XL_skipF _ rfl rfl (by kernel_rfl) hc19 rfl ?_
          refine XL_skipF _ rfl rfl (by kernel_rfl) hc19 rfl ?_
          refine XL_cons rfl (X_of_Y0 rfl (Y0_pick1 (b := bif (bif (bif (!y13.2) then true else (!y13.1)) then true else (!y14.2)) then true else (!y15.2)) (p := true) (q := !eqI (w64 ((w64 (y6.1 * y6.2.1)) * y6.2.1)) y5) rfl (by kernel_rfl) hc19 (by kernel_rfl))) ?_
          refine XL_nil ?_
          subst ht20
          kernel_rfl
         ·refine XL_takeC _ rfl rfl (by kernel_rfl) hc19 (X_of_Y0 rfl (E_move (I y6.1) rfl (by kernel_rfl))) ?_
          refine XL_takeC _ rfl rfl (by kernel_rfl) hc19 (X_of_Y0 rfl (E_move (I y6.2.1) rfl (by kernel_rfl))) ?_
          refine XL_takeC _ rfl rfl (by kernel_rfl) hc19 (X_of_Y0 rfl (Y0_mul64 (a := y6.1) (b := y6.2.1) rfl (by kernel_rfl) (by kernel_rfl))) ?_
          refine XL_takeC _ rfl rfl (by kernel_rfl) hc19 (X_of_Y0 rfl (E_move (I y6.2.1) rfl (by kernel_rfl))) ?_
          refine XL_takeC _ rfl rfl (by kernel_rfl) hc19 (X_of_Y0 rfl (Y0_mul64 (a := w64 (y6.1 * y6.2.1)) (b := y6.2.1) rfl (by kernel_rfl) (by kernel_rfl))) ?_
          refine XL_takeC _ rfl rfl (by kernel_rfl) hc19 (X_of_Y0 rfl (E_move (I y5) rfl (by kernel_rfl))) ?_
          refine XL_takeC _ rfl rfl (by kernel_rfl) hc19 (X_of_Y0 rfl (Y0_new (k := .i64) (a := w64 ((w64 (y6.1 * y6.2.1)) * y6.2.1)) (b := y5) rfl (by kernel_rfl) (by kernel_rfl))) ?_
          refine XL_cons rfl (X_of_Y0 rfl (Y0_pick0 (b := bif (bif (bif (!y13.2) then true else (!y13.1)) then true else (!y14.2)) then true else (!y15.2)) (p := true) (q := !eqI (w64 ((w64 (y6.1 * y6.2.1)) * y6.2.1)) y5) rfl (by kernel_rfl) hc19 (by kernel_rfl))) ?_
          refine XL_nil ?_
          subst ht20
          kernel_rfl
     refine V_cond rfl (fun hc21 => ?_) (fun hc21 => ?_)
     ·have h := of_true h hc21
      refine V_sreg (mb 200 16) [] (s1 := ⟨bt 4 (Bo false :: bt 195 []), []⟩) ?_ ?_
      ·refine L0 rfl rfl (E_assign (Bo false) rfl (by kernel_rfl)) ?_
       refine XL_nil ?_
       kernel_rfl
      refine V_ret ?_
      obtain rfl := some_inj h
      show Post _ _ _ _ _
      exact ⟨.inr rfl, rfl, rfl, rfl⟩
     ·have h := of_false h hc21
      refine V_skip ?_
      show V _ _ _ _
      refine V_sreg (mb 200 344290) [128, 576] (s1 := ⟨.bot :: .c (.sl (more2.map c5)) :: bt 3 (I y5 :: I y6.1 :: I y6.2.1 :: bt 6 (.ow 576 :: .bot :: .pt 128 0 :: .bot :: I 1 :: bt 181 [])), [(128, .box [Ti y15.1.1, Ti y15.1.2.1, Ti y15.1.2.2]), (576, .arr 3 1 (y14.1.map c3))]⟩) ?_ ?_
      ·refine L0 rfl rfl (E_assign (I 1) rfl (by kernel_rfl)) ?_
       refine XL_nil ?_
       kernel_rfl
      refine V_seq ?_
      refine V_sreg (mb 200 70988433612780846483815379828962) [128, 576] (s1 := ⟨.bot :: .c (.sl (more2.map c5)) :: bt 3 (I y5 :: I y6.1 :: I y6.2.1 :: bt 8 (.pt 128 0 :: .bot :: I 1 :: bt 84 (.ow 576 :: I ((y14.1.length : Int)) :: I 0 :: bt 94 []))), [(128, .box [Ti y15.1.1, Ti y15.1.2.1, Ti y15.1.2.2]), (576, .arr 3 1 (y14.1.map c3))]⟩) ?_ ?_
      ·refine L0 rfl rfl (E_move (.ow 576) rfl (by kernel_rfl)) ?_
       refine L0 rfl rfl (Y0_lenM (c := c3) (xs := y14.1) Try.underlying41 rfl (by kernel_rfl)) ?_
       refine L0 rfl rfl (E_move (I 0) rfl (by kernel_rfl)) ?_
       refine XL_nil ?_
       kernel_rfl
      obtain ⟨o25, hLo25, h⟩ := of_bind h
      refine V_toK (mb 200 327906) [128] (s1 := ⟨.bot :: .c (.sl (more2.map c5)) :: bt 3 (I y5 :: I y6.1 :: I y6.2.1 :: bt 8 (.pt 128 0 :: .bot :: I o25 :: bt 181 [])), [(128, .box [Ti y15.1.1, Ti y15.1.2.1, Ti y15.1.2.2])]⟩) ?_ ?_
      ·clear h
       refine V_block (V_loop (fun n s => ∃ (product22 : Int) (t23 : Int), s.keep (mb 200 70988433612780846483815379828962) [128, 576] = (⟨.bot :: .c (.sl (more2.map c5)) :: bt 3 (I y5 :: I y6.1 :: I y6.2.1 :: bt 8 (.pt 128 0 :: .bot :: I product22 :: bt 84 (.ow 576 :: I ((y14.1.length : Int)) :: I t23 :: bt 94 []))), [(128, .box [Ti y15.1.1, Ti y15.1.2.1, Ti y15.1.2.2]), (576, .arr 3 1 (y14.1.map c3))]⟩ : St) ∧ r_laws_FnFundamentalParts_L24 more2 y14 y15 y5 y6 n product22 t23 = some o25) FU ⟨_, _,  by rfl, hLo25⟩ ?_)
       clear hLo25
       rintro n s ⟨product22, t23, hs, h⟩
       refine V_keep _ _ hs ?_
       clear hs
       cases n with
       | zero => cases h
       | succ n =>
        rw [r_laws_FnFundamentalParts_L24] at h
        refine V_sreg (mb 200 152118072027387528179604384973026) [128, 576] (s1 := ⟨.bot :: .c (.sl (more2.map c5)) :: bt 3 (I y5 :: I y6.1 :: I y6.2.1 :: bt 8 (.pt 128 0 :: .bot :: I product22 :: bt 84 (.ow 576 :: I ((y14.1.length : Int)) :: I t23 :: Bo (ltI t23 ((y14.1.length : Int))) :: bt 93 []))), [(128, .box [Ti y15.1.1, Ti y15.1.2.1, Ti y15.1.2.2]), (576, .arr 3 1 (y14.1.map c3))]⟩) ?_ ?_
        ·refine L0 rfl rfl (Y0_ltw (k := .i64) (a := t23) (b := (y14.1.length : Int)) rfl (by kernel_rfl) (by kernel_rfl)) ?_
         refine XL_nil ?_
         kernel_rfl
        refine V_seq ?_
        refine V_cond rfl (fun hc26 => ?_) (fun hc26 => ?_)
        ·have h := of_true h hc26
         refine V_skip ?_
         show V _ _ _ _
         refine V_seq ?_
         refine V_block ?_
         obtain ⟨e27, he27, h⟩ := of_bind h
         obtain ⟨e28, he28, h⟩ := of_bind h
         refine V_sreg (mb 200 70988433612780846483815380877538) [128, 576] (s1 := ⟨.bot :: .c (.sl (more2.map c5)) :: bt 3 (I y5 :: I y6.1 :: I y6.2.1 :: bt 8 (.pt 128 0 :: .bot :: I product22 :: .bot :: I e28 :: bt 82 (.ow 576 :: I ((y14.1.length : Int)) :: I t23 :: bt 94 []))), [(128, .box [Ti y15.1.1, Ti y15.1.2.1, Ti y15.1.2.2]), (576, .arr 3 1 (y14.1.map c3))]⟩) ?_ ?_
         ·refine L0 rfl rfl (Y0_idxoM (c := c3) (xs := y14.1) (v := e27) (id := 576) (T := 3) (sz := 1) (n := t23) Try.underlying41 sz3 rfl (by kernel_rfl) (by kernel_rfl) (by kernel_rfl) he27) ?_
          refine L0 rfl rfl (Y0_loado1 (c := c3) (xs := y14.1) (v := e28) (id := 576) (sz := 1) (T := 3) (off := 0) (n := t23) (d := Ti e28) (ds := []) sc3 rfl (by kernel_rfl) (by kernel_rfl) he28 (by kernel_rfl)) ?_
          refine L0 rfl rfl (E_assign (I e28) rfl (by kernel_rfl)) ?_
          refine XL_nil ?_
          kernel_rfl
         obtain ⟨product29, hproduct29, h⟩ := of_sI h
         refine V_reg (mb 200 70988433612780846483815379828962) [128, 576] (s1 := ⟨.bot :: .c (.sl (more2.map c5)) :: bt 3 (I y5 :: I y6.1 :: I y6.2.1 :: bt 8 (.pt 128 0 :: .bot :: I product29 :: bt 84 (.ow 576 :: I ((y14.1.length : Int)) :: I t23 :: bt 94 []))), [(128, .box [Ti y15.1.1, Ti y15.1.2.1, Ti y15.1.2.2]), (576, .arr 3 1 (y14.1.map c3))]⟩) ?_ ?_
         ·refine L0 rfl rfl (E_move (I product22) rfl (by kernel_rfl)) ?_
          refine L0 rfl rfl (E_move (I e28) rfl (by kernel_rfl)) ?_
          refine L0 rfl rfl (Y0_mul64 (a := product22) (b := e28) rfl (by kernel_rfl) (by kernel_rfl)) ?_
          refine L0 rfl rfl (E_assign (I (w64 (product22 * e28))) rfl (by kernel_rfl)) ?_
          refine XL_nil ?_
          subst hproduct29
          kernel_rfl
         show V _ _ _ _
         obtain ⟨t30, ht30, h⟩ := of_sI h
         refine V_reg (mb 200 70988433612780846483815379828962) [128, 576] (s1 := ⟨.bot :: .c (.sl (more2.map c5)) :: bt 3 (I y5 :: I y6.1 :: I y6.2.1 :: bt 8 (.pt 128 0 :: .bot :: I product29 :: bt 84 (.ow 576 :: I ((y14.1.length : Int)) :: I t30 :: bt 94 []))), [(128, .box [Ti y15.1.1, Ti y15.1.2.1, Ti y15.1.2.2]), (576, .arr 3 1 (y14.1.map c3))]⟩) ?_ ?_
         ·refine L0 rfl rfl (Y0_add64 (a := t23) (b := 1) rfl (by kernel_rfl) (by kernel_rfl)) ?_
          refine L0 rfl rfl (E_move (I (w64 (t23 + 1))) rfl (by kernel_rfl)) ?_
          refine XL_nil ?_
          subst ht30
          kernel_rfl
         exact ⟨n, Nat.lt_succ_self n, _, _,  by rfl, h⟩
        ·have h := of_false h hc26
         refine V_exit ?_
         obtain rfl := some_inj h
         show St.keep _ _ _ = _
         rfl
      show V _ _ _ _
      obtain ⟨y31, hy31, h⟩ := of_bind h
      refine V_sreg (mb 200 6553826) [] (s1 := ⟨.bot :: .c (.sl (more2.map c5)) :: bt 3 (I y5 :: I y6.1 :: I y6.2.1 :: bt 10 (I o25 :: .bot :: .bot :: I y31.1 :: Bo y31.2 :: bt 177 [])), []⟩) ?_ ?_
      ·refine L0 rfl rfl (E_loadn (cs := [Ti y15.1.1, Ti y15.1.2.1, Ti y15.1.2.2]) [Ti y15.1.1, Ti y15.1.2.1, Ti y15.1.2.2] wd45 rfl (by kernel_rfl) (Nat.le_of_ble_eq_true rfl) (by kernel_rfl)) ?_
       refine L1 rfl rfl (Y1_call (s_impl_Discriminant hy31) cf_impl_Discriminant rfl (by kernel_rfl)) ?_
       refine L0 rfl rfl (E_move (.tc (I y31.1) (.tc (Bo y31.2) .tn)) rfl (by kernel_rfl)) ?_
       refine L0 rfl rfl (E_ext (n := 0) (I y31.1) (.tc (Bo y31.2) .tn) (I y31.1) rfl (by kernel_rfl) (by kernel_rfl) (by intro hh; cases hh)) ?_
       refine L0 rfl rfl (E_ext (n := 1) (I y31.1) (.tc (Bo y31.2) .tn) (Bo y31.2) rfl (by kernel_rfl) (by kernel_rfl) (by intro hh; cases hh)) ?_
       refine L0 rfl rfl (E_assign (I y31.1) rfl (by kernel_rfl)) ?_
       refine L0 rfl rfl (E_assign (Bo y31.2) rfl (by kernel_rfl)) ?_
       refine XL_nil ?_
       kernel_rfl
      obtain ⟨y32, hy32, h⟩ := of_bind h
      obtain ⟨vn33, hvn33, h⟩ := of_sI h
      refine V_sreg (mb 200 14942434) [] (s1 := ⟨.bot :: .c (.sl (more2.map c5)) :: bt 3 (I y5 :: I y6.1 :: I y6.2.1 :: bt 10 (I o25 :: .bot :: .bot :: I y31.1 :: Bo y31.2 :: I vn33 :: bt 176 [])), []⟩) ?_ ?_
      ·refine L0 rfl rfl (E_move (.c (.sl (more2.map c5))) rfl (by kernel_rfl)) ?_
       refine L1 rfl rfl (Y1_call (s_laws_numberOf hy32) cf_laws_numberOf rfl (by kernel_rfl)) ?_
       refine L0 rfl rfl (Y0_rem (k := .i64) (a := y32) (b := 1000) rfl (by kernel_rfl) (by kernel_rfl) (by decide)) ?_
       refine L0 rfl rfl (E_assign (I (Int.tmod y32 1000)) rfl (by kernel_rfl)) ?_
       refine XL_nil ?_
       subst hvn33
       kernel_rfl
      obtain ⟨y34, hy34, h⟩ := of_bind h
      refine V_sreg (mb 200 65274082) [] (s1 := ⟨.bot :: .c (.sl (more2.map c5)) :: bt 3 (I y5 :: I y6.1 :: I y6.2.1 :: bt 10 (I o25 :: .bot :: .bot :: I y31.1 :: Bo y31.2 :: I vn33 :: I y34.1 :: Bo y34.2 :: bt 174 [])), []⟩) ?_ ?_
      ·refine L0 rfl rfl (E_move (I y5) rfl (by kernel_rfl)) ?_
       refine L0 rfl rfl (E_move (I vn33) rfl (by kernel_rfl)) ?_
       refine L1 rfl rfl (Y1_call (s_impl_CharacterOf hy34) cf_impl_CharacterOf rfl (by kernel_rfl)) ?_
       refine L0 rfl rfl (E_move (.tc (I y34.1) (.tc (Bo y34.2) .tn)) rfl (by kernel_rfl)) ?_
       refine L0 rfl rfl (E_ext (n := 0) (I y34.1) (.tc (Bo y34.2) .tn) (I y34.1) rfl (by kernel_rfl) (by kernel_rfl) (by intro hh; cases hh)) ?_
       refine L0 rfl rfl (E_ext (n := 1) (I y34.1) (.tc (Bo y34.2) .tn) (Bo y34.2) rfl (by kernel_rfl) (by kernel_rfl) (by intro hh; cases hh)) ?_
       refine L0 rfl rfl (E_assign (I y34.1) rfl (by kernel_rfl)) ?_
       refine L0 rfl rfl (E_assign (Bo y34.2) rfl (by kernel_rfl)) ?_
       refine XL_nil ?_
       kernel_rfl
      obtain ⟨y35, hy35, h⟩ := of_bind h
      refine V_sreg (mb 200 266600674) [] (s1 := ⟨.bot :: .c (.sl (more2.map c5)) :: bt 3 (I y5 :: I y6.1 :: I y6.2.1 :: bt 10 (I o25 :: .bot :: .bot :: I y31.1 :: Bo y31.2 :: I vn33 :: I y34.1 :: Bo y34.2 :: I y35.1 :: Bo y35.2 :: bt 172 [])), []⟩) ?_ ?_
      ·refine L0 rfl rfl (E_move (I y6.1) rfl (by kernel_rfl)) ?_
       refine L0 rfl rfl (E_move (I vn33) rfl (by kernel_rfl)) ?_
       refine L1 rfl rfl (Y1_call (s_impl_CharacterOf hy35) cf_impl_CharacterOf rfl (by kernel_rfl)) ?_
       refine L0 rfl rfl (E_move (.tc (I y35.1) (.tc (Bo y35.2) .tn)) rfl (by kernel_rfl)) ?_
       refine L0 rfl rfl (E_ext (n := 0) (I y35.1) (.tc (Bo y35.2) .tn) (I y35.1) rfl (by kernel_rfl) (by kernel_rfl) (by intro hh; cases hh)) ?_
       refine L0 rfl rfl (E_ext (n := 1) (I y35.1) (.tc (Bo y35.2) .tn) (Bo y35.2) rfl (by kernel_rfl) (by kernel_rfl) (by intro hh; cases hh)) ?_
       refine L0 rfl rfl (E_assign (I y35.1) rfl (by kernel_rfl)) ?_
       refine L0 rfl rfl (E_assign (Bo y35.2) rfl (by kernel_rfl)) ?_
       refine XL_nil ?_
       kernel_rfl
      obtain ⟨j36, hj36, h⟩ := of_bind h
      refine V_cutK (mb 200 258211938) [] (s1 := ⟨.bot :: .c (.sl (more2.map c5)) :: bt 3 (I y5 :: I y6.1 :: bt 11 (I o25 :: .bot :: .bot :: I y31.1 :: Bo y31.2 :: .bot :: I y34.1 :: Bo y34.2 :: I j36 :: Bo y35.2 :: bt 172 [])), []⟩) ?_ ?_
      ·clear h
       have h := hj36
       clear hj36
       obtain ⟨y37, hy37, h⟩ := of_bind h
       refine V_sreg (mb 200 87112285931760246646623899502532920344674) [] (s1 := ⟨.bot :: .c (.sl (more2.map c5)) :: bt 3 (I y5 :: I y6.1 :: bt 11 (I o25 :: .bot :: .bot :: I y31.1 :: Bo y31.2 :: .bot :: I y34.1 :: Bo y34.2 :: I y35.1 :: Bo y35.2 :: bt 108 (Bo (!eqI y37 1) :: bt 63 []))), []⟩) ?_ ?_
       ·refine L0 rfl rfl (E_move (I vn33) rfl (by kernel_rfl)) ?_
        refine L0 rfl rfl (E_move (I y6.2.1) rfl (by kernel_rfl)) ?_
        refine L1 rfl rfl (Y1_call (s_laws_qGcd hy37) cf_laws_qGcd rfl (by kernel_rfl)) ?_
        refine L0 rfl rfl (Y0_new (k := .i64) (a := y37) (b := 1) rfl (by kernel_rfl) (by kernel_rfl)) ?_
        refine XL_nil ?_
        kernel_rfl
       refine V_cond rfl (fun hc38 => ?_) (fun hc38 => ?_)
       ·have h := of_true h hc38
        refine V_reg (mb 200 258211938) [] (s1 := ⟨.bot :: .c (.sl (more2.map c5)) :: bt 3 (I y5 :: I y6.1 :: bt 11 (I o25 :: .bot :: .bot :: I y31.1 :: Bo y31.2 :: .bot :: I y34.1 :: Bo y34.2 :: I 0 :: Bo y35.2 :: bt 172 [])), []⟩) ?_ ?_
        ·refine L0 rfl rfl (E_assign (I 0) rfl (by kernel_rfl)) ?_
         refine XL_nil ?_
         kernel_rfl
        obtain rfl := some_inj h
        show St.keep _ _ _ = _
        rfl
       ·have h := of_false h hc38
        refine V_skip ?_
        obtain rfl := some_inj h
        show St.keep _ _ _ = _
        rfl
      refine V_seq ?_
      obtain ⟨t44, ht44, h⟩ := of_bind h
      have ht44 := some_inj ht44
      refine V_sreg (mb 200 2923003274661805836407369665432566039311865085986) [] (s1 := ⟨.bot :: .c (.sl (more2.map c5)) :: bt 3 (I y5 :: bt 155 (Bo t44 :: bt 38 [])), []⟩) ?_ ?_
      ·refine L0 rfl rfl (E_move (I o25) rfl (by kernel_rfl)) ?_
       refine L0 rfl rfl (E_move (I y6.1) rfl (by kernel_rfl)) ?_
       refine L0 rfl rfl (Y0_new (k := .i64) (a := o25) (b := y6.1) rfl (by kernel_rfl) (by kernel_rfl)) ?_
       refine L0 rfl rfl (E_move (Bo (!eqI o25 y6.1)) rfl (by kernel_rfl)) ?_
       refine XL_split (!eqI o25 y6.1) (fun hc39 => ?_) (fun hc39 => ?_)
       ·refine XL_skipF _ rfl rfl (by kernel_rfl) hc39 rfl ?_
        refine XL_skipF _ rfl rfl (by kernel_rfl) hc39 rfl ?_
        refine XL_cons rfl (X_of_Y0 rfl (Y0_pick1 (b := !eqI o25 y6.1) (p := true) (q := !y31.2) rfl (by kernel_rfl) hc39 (by kernel_rfl))) ?_
        refine L0 rfl rfl (E_move (Bo (bif (!eqI o25 y6.1) then true else (!y31.2))) rfl (by kernel_rfl)) ?_
        refine XL_split (bif (!eqI o25 y6.1) then true else (!y31.2)) (fun hc40 => ?_) (fun hc40 => ?_)
        ·refine XL_skipF _ rfl rfl (by kernel_rfl) hc40 rfl ?_
         refine XL_skipF _ rfl rfl (by kernel_rfl) hc40 rfl ?_
         refine XL_skipF _ rfl rfl (by kernel_rfl) hc40 rfl ?_
         refine XL_cons rfl (X_of_Y0 rfl (Y0_pick1 (b := bif (!eqI o25 y6.1) then true else (!y31.2)) (p := true) (q := !eqI y31.1 y5) rfl (by kernel_rfl) hc40 (by kernel_rfl))) ?_
         refine L0 rfl rfl (E_move (Bo (bif (bif (!eqI o25 y6.1) then true else (!y31.2)) then true else (!eqI y31.1 y5))) rfl (by kernel_rfl)) ?_
         refine XL_split (bif (bif (!eqI o25 y6.1) then true else (!y31.2)) then true else (!eqI y31.1 y5)) (fun hc41 => ?_) (fun hc41 => ?_)
         ·refine XL_skipF _ rfl rfl (by kernel_rfl) hc41 rfl ?_
          refine XL_skipF _ rfl rfl (by kernel_rfl) hc41 rfl ?_
          refine XL_cons rfl (X_of_Y0 rfl (Y0_pick1 (b := bif (bif (!eqI o25 y6.1) then true else (!y31.2)) then true else (!eqI y31.1 y5)) (p := true) (q := !y34.2) rfl (by kernel_rfl) hc41 (by kernel_rfl))) ?_
          refine L0 rfl rfl (E_move (Bo (bif (bif (bif (!eqI o25 y6.1) then true else (!y31.2)) then true else (!eqI y31.1 y5)) then true else (!y34.2))) rfl (by kernel_rfl)) ?_
          refine XL_split (bif (bif (bif (!eqI o25 y6.1) then true else (!y31.2)) then true else (!eqI y31.1 y5)) then true else (!y34.2)) (fun hc42 => ?_) (fun hc42 => ?_)
          ·refine XL_skipF _ rfl rfl (by kernel_rfl) hc42 rfl ?_
           refine XL_skipF _ rfl rfl (by kernel_rfl) hc42 rfl ?_
           refine XL_cons rfl (X_of_Y0 rfl (Y0_pick1 (b := bif (bif (bif (!eqI o25 y6.1) then true else (!y31.2)) then true else (!eqI y31.1 y5)) then true else (!y34.2)) (p := true) (q := !y35.2) rfl (by kernel_rfl) hc42 (by kernel_rfl))) ?_
           refine L0 rfl rfl (E_move (Bo (bif (bif (bif (bif (!eqI o25 y6.1) then true else (!y31.2)) then true else (!eqI y31.1 y5)) then true else (!y34.2)) then true else (!y35.2))) rfl (by kernel_rfl)) ?_
           refine XL_split (bif (bif (bif (bif (!eqI o25 y6.1) then true else (!y31.2)) then true else (!eqI y31.1 y5)) then true else (!y34.2)) then true else (!y35.2)) (fun hc43 => ?_) (fun hc43 => ?_)
           ·refine XL_skipF _ rfl rfl (by kernel_rfl) hc43 rfl ?_
            refine XL_skipF _ rfl rfl (by kernel_rfl) hc43 rfl ?_
            refine XL_skipF _ rfl rfl (by kernel_rfl) hc43 rfl ?_
            refine XL_cons rfl (X_of_Y0 rfl (Y0_pick1 (b := bif (bif (bif (bif (!eqI o25 y6.1) then true else (!y31.2)) then true else (!eqI y31.1 y5)) then true else (!y34.2)) then true else (!y35.2)) (p := true) (q := !eqI y34.1 j36) rfl (by kernel_rfl) hc43 (by kernel_rfl))) ?_
            refine XL_nil ?_
            subst ht44
            kernel_rfl
           ·refine XL_takeC _ rfl rfl (by kernel_rfl) hc43 (X_of_Y0 rfl (E_move (I y34.1) rfl (by kernel_rfl))) ?_
            refine XL_takeC _ rfl rfl (by kernel_rfl) hc43 (X_of_Y0 rfl (E_move (I j36) rfl (by kernel_rfl))) ?_
            refine XL_takeC _ rfl rfl (by kernel_rfl) hc43 (X_of_Y0 rfl (Y0_new (k := .i64) (a := y34.1) (b := j36) rfl (by kernel_rfl) (by kernel_rfl))) ?_
            refine XL_cons rfl (X_of_Y0 rfl (Y0_pick0 (b := bif (bif (bif (bif (!eqI o25 y6.1) then true else (!y31.2)) then true else (!eqI y31.1 y5)) then true else (!y34.2)) then true else (!y35.2)) (p := true) (q := !eqI y34.1 j36) rfl (by kernel_rfl) hc43 (by kernel_rfl))) ?_
            refine XL_nil ?_
            subst ht44
            kernel_rfl
          ·refine XL_takeC _ rfl rfl (by kernel_rfl) hc42 (X_of_Y0 rfl (E_move (Bo y35.2) rfl (by kernel_rfl))) ?_
           refine XL_takeC _ rfl rfl (by kernel_rfl) hc42 (X_of_Y0 rfl (Y0_not (b := y35.2) rfl (by kernel_rfl))) ?_
           refine XL_cons rfl (X_of_Y0 rfl (Y0_pick0 (b := bif (bif (bif (!eqI o25 y6.1) then true else (!y31.2)) then true else (!eqI y31.1 y5)) then true else (!y34.2)) (p := true) (q := !y35.2) rfl (by kernel_rfl) hc42 (by kernel_rfl))) ?_
           refine L0 rfl rfl (E_move (Bo (bif (bif (bif (bif (!eqI o25 y6.1) then true else (!y31.2)) then true else (!eqI y31.1 y5)) then true else (!y34.2)) then true else (!y35.2))) rfl (by kernel_rfl)) ?_
           refine XL_split (bif (bif (bif (bif (!eqI o25 y6.1) then true else (!y31.2)) then true else (!eqI y31.1 y5)) then true else (!y34.2)) then true else (!y35.2)) (fun hc43 => ?_) (fun hc43 => ?_)
           ·refine XL_skipF _ rfl rfl (by kernel_rfl) hc43 rfl ?_
            refine XL_skipF _ rfl rfl (by kernel_rfl) hc43 rfl ?_
            refine XL_skipF _ rfl rfl (by kernel_rfl) hc43 rfl ?_
            refine XL_cons rfl (X_of_Y0 rfl (Y0_pick1 (b := bif (bif (bif (bif (!eqI o25 y6.1) then true else (!y31.2)) then true else (!eqI y31.1 y5)) then true else (!y34.2)) then true else (!y35.2)) (p := true) (q := !eqI y34.1 j36) rfl (by kernel_rfl) hc43 (by kernel_rfl))) ?_
            refine XL_nil ?_
            subst ht44
            kernel_rfl
           ·refine XL_takeC _ rfl rfl (by kernel_rfl) hc43 (X_of_Y0 rfl (E_move (I y34.1) rfl (by kernel_rfl))) ?_
            refine XL_takeC _ rfl rfl (by kernel_rfl) hc43 (X_of_Y0 rfl (E_move (I j36) rfl (by kernel_rfl))) ?_
            refine XL_takeC _ rfl rfl (by kernel_rfl) hc43 (X_of_Y0 rfl (Y0_new (k := .i64) (a := y34.1) (b := j36) rfl (by kernel_rfl) (by kernel_rfl))) ?_
            refine XL_cons rfl (X_of_Y0 rfl (Y0_pick0 (b := bif (bif (bif (bif (!eqI o25 y6.1) then true else (!y31.2)) then true else (!eqI y31.1 y5)) then true else (!y34.2)) then true else (!y35.2)) (p := true) (q := !eqI y34.1 j36) rfl (by kernel_rfl) hc43 (by kernel_rfl))) ?_
            refine XL_nil ?_
            subst ht44
            kernel_rfl
         ·refine XL_takeC _ rfl rfl (by kernel_rfl) hc41 (X_of_Y0 rfl (E_move (Bo y34.2) rfl (by kernel_rfl))) ?_
          refine XL_takeC _ rfl rfl (by kernel_rfl) hc41 (X_of_Y0 rfl (Y0_not (b := y34.2) rfl (by kernel_rfl))) ?_
          refine XL_cons rfl (X_of_Y0 rfl (Y0_pick0 (b := bif (bif (!eqI o25 y6.1) then true else (!y31.2)) then true else (!eqI y31.1 y5)) (p := true) (q := !y34.2) rfl (by kernel_rfl) hc41 (by kernel_rfl))) ?_
          refine L0 rfl rfl (E_move (Bo (bif (bif (bif (!eqI o25 y6.1) then true else (!y31.2)) then true else (!eqI y31.1 y5)) then true else (!y34.2))) rfl (by kernel_rfl)) ?_
          refine XL_split (bif (bif (bif (!eqI o25 y6.1) then true else (!y31.2)) then true else (!eqI y31.1 y5)) then true else (!y34.2)) (fun hc42 => ?_) (fun hc42 => ?_)
          ·refine XL_skipF _ rfl rfl (by kernel_rfl) hc42 rfl ?_
           refine XL_skipF _ rfl rfl (by kernel_rfl) hc42 rfl ?_
           refine XL_cons rfl (X_of_Y0 rfl (Y0_pick1 (b := bif (bif (bif (!eqI o25 y6.1) then true else (!y31.2)) then true else (!eqI y31.1 y5)) then true else (!y34.2)) (p := true) (q := !y35.2) rfl (by kernel_rfl) hc42 (by kernel_rfl))) ?_
           refine L0 rfl rfl (E_move (Bo (bif (bif (bif (bif (!eqI o25 y6.1) then true else (!y31.2)) then true else (!eqI y31.1 y5)) then true else (!y34.2)) then true else (!y35.2))) rfl (by kernel_rfl)) ?_
           refine XL_split (bif (bif (bif (bif (!eqI o25 y6.1) then true else (!y31.2)) then true else (!eqI y31.1 y5)) then true else (!y34.2)) then true else (!y35.2)) (fun hc43 => ?_) (fun hc43 => ?_)
           ·refine XL_skipF _ rfl rfl (by kernel_rfl) hc43 rfl ?_
            refine XL_skipF _ rfl rfl (by kernel_rfl) hc43 rfl ?_
            refine XL_skipF _ rfl rfl (by kernel_rfl) hc43 rfl ?_
            refine XL_cons rfl (X_of_Y0 rfl (Y0_pick1 (b := bif (bif (bif (bif (!eqI o25 y6.1) then true else (!y31.2)) then true else (!eqI y31.1 y5)) then true else (!y34.2)) then true else (!y35.2)) (p := true) (q := !eqI y34.1 j36) rfl (by kernel_rfl) hc43 (by kernel_rfl))) ?_
            refine XL_nil ?_
            subst ht44
            kernel_rfl
           ·refine XL_takeC _ rfl rfl (by kernel_rfl) hc43 (X_of_Y0 rfl (E_move (I y34.1) rfl (by kernel_rfl))) ?_
            refine XL_takeC _ rfl rfl (by kernel_rfl) hc43 (X_of_Y0 rfl (E_move (I j36) rfl (by kernel_rfl))) ?_
            refine XL_takeC _ rfl rfl (by kernel_rfl) hc43 (X_of_Y0 rfl (Y0_new (k := .i64) (a := y34.1) (b := j36) rfl (by kernel_rfl) (by kernel_rfl))) ?_
            refine XL_cons rfl (X_of_Y0 rfl (Y0_pick0 (b := bif (bif (bif (bif (!eqI o25 y6.1) then true else (!y31.2)) then true else (!eqI y31.1 y5)) then true else (!y34.2)) then true else (!y35.2)) (p := true) (q := !eqI y34.1 j36) rfl (by kernel_rfl) hc43 (by kernel_rfl))) ?_
            refine XL_nil ?_
            subst ht44
            kernel_rfl
          ·refine XL_takeC _ rfl rfl (by kernel_rfl) hc42 (X_of_Y0 rfl (E_move (Bo y35.2) rfl (by kernel_rfl))) ?_
           refine XL_takeC _ rfl rfl (by kernel_rfl) hc42 (X_of_Y0 rfl (Y0_not (b := y35.2) rfl (by kernel_rfl))) ?_
           refine XL_cons rfl (X_of_Y0 rfl (Y0_pick0 (b := bif (bif (bif (!eqI o25 y6.1) then true else (!y31.2)) then true else (!eqI y31.1 y5)) then true else (!y34.2)) (p := true) (q := !y35.2) rfl (by kernel_rfl) hc42 (by kernel_rfl))) ?_
           refine L0 rfl rfl (E_move (Bo (bif (bif (bif (bif (!eqI o25 y6.1) then true else (!y31.2)) then true else (!eqI y31.1 y5)) then true else (!y34.2)) then true else (!y35.2))) rfl (by kernel_rfl)) ?_
           refine XL_split (bif (bif (bif (bif (!eqI o25 y6.1) then true else (!y31.2)) then true else (!eqI y31.1 y5)) then true else (!y34.2)) then true else (!y35.2)) (fun hc43 => ?_) (fun hc43 => ?_)
           ·refine XL_skipF _ rfl rfl (by kernel_rfl) hc43 rfl ?_
            refine XL_skipF _ rfl rfl (by kernel_rfl) hc43 rfl ?_
            refine XL_skipF _ rfl rfl (by kernel_rfl) hc43 rfl ?_
            refine XL_cons rfl (X_of_Y0 rfl (Y0_pick1 (b := bif (bif (bif (bif (!eqI o25 y6.1) then true else (!y31.2)) then true else (!eqI y31.1 y5)) then true else (!y34.2)) then true else (!y35.2)) (p := true) (q := !eqI y34.1 j36) rfl (by kernel_rfl) hc43 (by kernel_rfl))) ?_
            refine XL_nil ?_
            subst ht44
            kernel_rfl
           ·refine XL_takeC _ rfl rfl (by kernel_rfl) hc43 (X_of_Y0 rfl (E_move (I y34.1) rfl (by kernel_rfl))) ?_
            refine XL_takeC _ rfl rfl (by kernel_rfl) hc43 (X_of_Y0 rfl (E_move (I j36) rfl (by kernel_rfl))) ?_
            refine XL_takeC _ rfl rfl (by kernel_rfl) hc43 (X_of_Y0 rfl (Y0_new (k := .i64) (a := y34.1) (b := j36) rfl (by kernel_rfl) (by kernel_rfl))) ?_
            refine XL_cons rfl (X_of_Y0 rfl (Y0_pick0 (b := bif (bif (bif (bif (!eqI o25 y6.1) then true else (!y31.2)) then true else (!eqI y31.1 y5)) then true else (!y34.2)) then true else (!y35.2)) (p := true) (q := !eqI y34.1 j36) rfl (by kernel_rfl) hc43 (by kernel_rfl))) ?_
            refine XL_nil ?_
            subst ht44
            kernel_rfl
        ·refine XL_takeC _ rfl rfl (by kernel_rfl) hc40 (X_of_Y0 rfl (E_move (I y31.1) rfl (by kernel_rfl))) ?_
         refine XL_takeC _ rfl rfl (by kernel_rfl) hc40 (X_of_Y0 rfl (E_move (I y5) rfl (by kernel_rfl))) ?_
         refine XL_takeC _ rfl rfl (by kernel_rfl) hc40 (X_of_Y0 rfl (Y0_new (k := .i64) (a := y31.1) (b := y5) rfl (by kernel_rfl) (by kernel_rfl))) ?_
         refine XL_cons rfl (X_of_Y0 rfl (Y0_pick0 (b := bif (!eqI o25 y6.1) then true else (!y31.2)) (p := true) (q := !eqI y31.1 y5) rfl (by kernel_rfl) hc40 (by kernel_rfl))) ?_
         refine L0 rfl rfl (E_move (Bo (bif (bif (!eqI o25 y6.1) then true else (!y31.2)) then true else (!eqI y31.1 y5))) rfl (by kernel_rfl)) ?_
         refine XL_split (bif (bif (!eqI o25 y6.1) then true else (!y31.2)) then true else (!eqI y31.1 y5)) (fun hc41 => ?_) (fun hc41 => ?_)
         ·refine XL_skipF _ rfl rfl (by kernel_rfl) hc41 rfl ?_
          refine XL_skipF _ rfl rfl (by kernel_rfl) hc41 rfl ?_
          refine XL_cons rfl (X_of_Y0 rfl (Y0_pick1 (b := bif (bif (!eqI o25 y6.1) then true else (!y31.2)) then true else (!eqI y31.1 y5)) (p := true) (q := !y34.2) rfl (by kernel_rfl) hc41 (by kernel_rfl))) ?_
          refine L0 rfl rfl (E_move (Bo (bif (bif (bif (!eqI o25 y6.1) then true else (!y31.2)) then true else (!eqI y31.1 y5)) then true else (!y34.2))) rfl (by kernel_rfl)) ?_
          refine XL_split (bif (bif (bif (!eqI o25 y6.1) then true else (!y31.2)) then true else (!eqI y31.1 y5)) then true else (!y34.2)) (fun hc42 => ?_) (fun hc42 => ?_)
          ·refine XL_skipF _ rfl rfl (by kernel_rfl) hc42 rfl ?_
           refine XL_skipF _ rfl rfl (by kernel_rfl) hc42 rfl ?_
           refine XL_cons rfl (X_of_Y0 rfl (Y0_pick1 (b := bif (bif (bif (!eqI o25 y6.1) then true else (!y31.2)) then true else (!eqI y31.1 y5)) then true else (!y34.2)) (p := true) (q := !y35.2) rfl (by kernel_rfl) hc42 (by kernel_rfl))) ?_
           refine L0 rfl rfl (E_move (Bo (bif (bif (bif (bif (!eqI o25 y6.1) then true else (!y31.2)) then true else (!eqI y31.1 y5)) then true else (!y34.2)) then true else (!y35.2))) rfl (by kernel_rfl)) ?_
           refine XL_split (bif (bif (bif (bif (!eqI o25 y6.1) then true else (!y31.2)) then true else (!eqI y31.1 y5)) then true else (!y34.2)) then true else (!y35.2)) (fun hc43 => ?_) (fun hc43 => ?_)
           ·refine XL_skipF _ rfl rfl (by kernel_rfl) hc43 rfl ?_
            refine XL_skipF _ rfl rfl (by kernel_rfl) hc43 rfl ?_
            refine XL_skipF _ rfl rfl (by kernel_rfl) hc43 rfl ?_
            refine XL_cons rfl (X_of_Y0 rfl (Y0_pick1 (b := bif (bif (bif (bif (!eqI o25 y6.1) then true else (!y31.2)) then true else (!eqI y31.1 y5)) then true else (!y34.2)) then true else (!y35.2)) (p := true) (q := !eqI y34.1 j36) rfl (by kernel_rfl) hc43 (by kernel_rfl))) ?_
            refine XL_nil ?_
            subst ht44
            kernel_rfl
           ·refine XL_takeC _ rfl rfl (by kernel_rfl) hc43 (X_of_Y0 rfl (E_move (I y34.1) rfl (by kernel_rfl))) ?_
            refine XL_takeC _ rfl rfl (by kernel_rfl) hc43 (X_of_Y0 rfl (E_move (I j36) rfl (by kernel_rfl))) ?_
            refine XL_takeC _ rfl rfl (by kernel_rfl) hc43 (X_of_Y0 rfl (Y0_new (k := .i64) (a := y34.1) (b := j36) rfl (by kernel_rfl) (by kernel_rfl))) ?_
            refine XL_cons rfl (X_of_Y0 rfl (Y0_pick0 (b := bif (bif (bif (bif (!eqI o25 y6.1) then true else (!y31.2)) then true else (!eqI y31.1 y5)) then true else (!y34.2)) then true else (!y35.2)) (p := true) (q := !eqI y34.1 j36) rfl (by kernel_rfl) hc43 (by kernel_rfl))) ?_
            refine XL_nil ?_
            subst ht44
            kernel_rfl
          ·refine XL_takeC _ rfl rfl (by kernel_rfl) hc42 (X_of_Y0 rfl (E_move (Bo y35.2) rfl (by kernel_rfl))) ?_
           refine XL_takeC _ rfl rfl (by kernel_rfl) hc42 (X_of_Y0 rfl (Y0_not (b := y35.2) rfl (by kernel_rfl))) ?_
           refine XL_cons rfl (X_of_Y0 rfl (Y0_pick0 (b := bif (bif (bif (!eqI o25 y6.1) then true else (!y31.2)) then true else (!eqI y31.1 y5)) then true else (!y34.2)) (p := true) (q := !y35.2) rfl (by kernel_rfl) hc42 (by kernel_rfl))) ?_
           refine L0 rfl rfl (E_move (Bo (bif (bif (bif (bif (!eqI o25 y6.1) then true else (!y31.2)) then true else (!eqI y31.1 y5)) then true else (!y34.2)) then true else (!y35.2))) rfl (by kernel_rfl)) ?_
           refine XL_split (bif (bif (bif (bif (!eqI o25 y6.1) then true else (!y31.2)) then true else (!eqI y31.1 y5)) then true else (!y34.2)) then true else (!y35.2)) (fun hc43 => ?_) (fun hc43 => ?_)
           ·refine XL_skipF _ rfl rfl (by kernel_rfl) hc43 rfl ?_
            refine XL_skipF _ rfl rfl (by kernel_rfl) hc43 rfl ?_
            refine XL_skipF _ rfl rfl (by kernel_rfl) hc43 rfl ?_
            refine XL_cons rfl (X_of_Y0 rfl (Y0_pick1 (b := bif (bif (bif (bif (!eqI o25 y6.1) then true else (!y31.2)) then true else (!eqI y31.1 y5)) then true else (!y34.2)) then true else (!y35.2)) (p := true) (q := !eqI y34.1 j36) rfl (by kernel_rfl) hc43 (by kernel_rfl))) ?_
            refine XL_nil ?_
            subst ht44
            kernel_rfl
           ·refine XL_takeC _ rfl rfl (by kernel_rfl) hc43 (X_of_Y0 rfl (E_move (I y34.1) rfl (by kernel_rfl))) ?_
            refine XL_takeC _ rfl rfl (by kernel_rfl) hc43 (X_of_Y0 rfl (E_move (I j36) rfl (by kernel_rfl))) ?_
            refine XL_takeC _ rfl rfl (by kernel_rfl) hc43 (X_of_Y0 rfl (Y0_new (k := .i64) (a := y34.1) (b := j36) rfl (by kernel_rfl) (by kernel_rfl))) ?_
            refine XL_cons rfl (X_of_Y0 rfl (Y0_pick0 (b := bif (bif (bif (bif (!eqI o25 y6.1) then true else (!y31.2)) then true else (!eqI y31.1 y5)) then true else (!y34.2)) then true else (!y35.2)) (p := true) (q := !eqI y34.1 j36) rfl (by kernel_rfl) hc43 (by kernel_rfl))) ?_
            refine XL_nil ?_
            subst ht44
            kernel_rfl
         ·refine XL_takeC _ rfl rfl (by kernel_rfl) hc41 (X_of_Y0 rfl (E_move (Bo y34.2) rfl (by kernel_rfl))) ?_
          refine XL_takeC _ rfl rfl (by kernel_rfl) hc41 (X_of_Y0 rfl (Y0_not (b := y34.2) rfl (by kernel_rfl))) ?_
          refine XL_cons rfl (X_of_Y0 rfl (Y0_pick0 (b := bif (bif (!eqI o25 y6.1) then true else (!y31.2)) then true else (!eqI y31.1 y5)) (p := true) (q := !y34.2) rfl (by kernel_rfl) hc41 (by kernel_rfl))) ?_
          refine L0 rfl rfl (E_move (Bo (bif (bif (bif (!eqI o25 y6.1) then true else (!y31.2)) then true else (!eqI y31.1 y5)) then true else (!y34.2))) rfl (by kernel_rfl)) ?_
          refine XL_split (bif (bif (bif (!eqI o25 y6.1) then true else (!y31.2)) then true else (!eqI y31.1 y5)) then true else (!y34.2)) (fun hc42 => ?_) (fun hc42 => ?_)
          ·refine XL_skipF _ rfl rfl (by kernel_rfl) hc42 rfl ?_
           refine XL_skipF _ rfl rfl (by kernel_rfl) hc42 rfl ?_
           refine XL_cons rfl (X_of_Y0 rfl (Y0_pick1 (b := bif (bif (bif (!eqI o25 y6.1) then true else (!y31.2)) then true else (!eqI y31.1 y5)) then true else (!y34.2)) (p := true) (q := !y35.2) rfl (by kernel_rfl) hc42 (by kernel_rfl))) ?_
           refine L0 rfl rfl (E_move (Bo (bif (bif (bif (bif (!eqI o25 y6.1) then true else (!y31.2)) then true else (!eqI y31.1 y5)) then true else (!y34.2)) then true else (!y35.2))) rfl (by kernel_rfl)) ?_
           refine XL_split (bif (bif (bif (bif (!eqI o25 y6.1) then true else (!y31.2)) then true else (!eqI y31.1 y5)) then true else (!y34.2)) then true else (!y35.2)) (fun hc43 => ?_) (fun hc43 => ?_)
           ·refine XL_skipF _ rfl rfl (by kernel_rfl) hc43 rfl ?_
            refine XL_skipF _ rfl rfl (by kernel_rfl) hc43 rfl ?_
            refine XL_skipF _ rfl rfl (by kernel_rfl) hc43 rfl ?_
            refine XL_cons rfl (X_of_Y0 rfl (Y0_pick1 (b := bif (bif (bif (bif (!eqI o25 y6.1) then true else (!y31.2)) then true else (!eqI y31.1 y5)) then true else (!y34.2)) then true else (!y35.2)) (p := true) (q := !eqI y34.1 j36) rfl (by kernel_rfl) hc43 (by kernel_rfl))) ?_
            refine XL_nil ?_
            subst ht44
            kernel_rfl
           ·refine XL_takeC _ rfl rfl (by kernel_rfl) hc43 (X_of_Y0 rfl (E_move (I y34.1) rfl (by kernel_rfl))) ?_
            refine XL_takeC _ rfl rfl (by kernel_rfl) hc43 (X_of_Y0 rfl (E_move (I j36) rfl (by kernel_rfl))) ?_
            refine XL_takeC _ rfl rfl (by kernel_rfl) hc43 (X_of_Y0 rfl (Y0_new (k := .i64) (a := y34.1) (b := j36) rfl (by kernel_rfl) (by kernel_rfl))) ?_
            refine XL_cons rfl (X_of_Y0 rfl (Y0_pick0 (b := bif (bif (bif (bif (!eqI o25 y6.1) then true else (!y31.2)) then true else (!eqI y31.1 y5)) then true else (!y34.2)) then true else (!y35.2)) (p := true) (q := !eqI y34.1 j36) rfl (by kernel_rfl) hc43 (by kernel_rfl))) ?_
            refine XL_nil ?_
            subst ht44
            kernel_rfl
          ·refine XL_takeC _ rfl rfl (by kernel_rfl) hc42 (X_of_Y0 rfl (E_move (Bo y35.2) rfl (by kernel_rfl))) ?_
           refine XL_takeC _ rfl rfl (by kernel_rfl) hc42 (X_of_Y0 rfl (Y0_not (b := y35.2) rfl (by kernel_rfl))) ?_
           refine XL_cons rfl (X_of_Y0 rfl (Y0_pick0 (b := bif (bif (bif (!eqI o25 y6.1) then true else (!y31.2)) then true else (!eqI y31.1 y5)) then true else (!y34.2)) (p := true) (q := !y35.2) rfl (by kernel_rfl) hc42 (by kernel_rfl))) ?_
           refine L0 rfl rfl (E_move (Bo (bif (bif (bif (bif (!eqI o25 y6.1) then true else (!y31.2)) then true else (!eqI y31.1 y5)) then true else (!y34.2)) then true else (!y35.2))) rfl (by kernel_rfl)) ?_
           refine XL_split (bif (bif (bif (bif (!eqI o25 y6.1) then true else (!y31.2)) then true else (!eqI y31.1 y5)) then true else (!y34.2)) then true else (!y35.2)) (fun hc43 => ?_) (fun hc43 => ?_)
           ·refine XL_skipF _ rfl rfl (by kernel_rfl) hc43 rfl ?_
            refine XL_skipF _ rfl rfl (by kernel_rfl) hc43 rfl ?_
            refine XL_skipF _ rfl rfl (by kernel_rfl) hc43 rfl ?_
            refine XL_cons rfl (X_of_Y0 rfl (Y0_pick1 (b := bif (bif (bif (bif (!eqI o25 y6.1) then true else (!y31.2)) then true else (!eqI y31.1 y5)) then true else (!y34.2)) then true else (!y35.2)) (p := true) (q := !eqI y34.1 j36) rfl (by kernel_rfl) hc43 (by kernel_rfl))) ?_
            refine XL_nil ?_
            subst ht44
            kernel_rfl
           ·refine XL_takeC _ rfl rfl (by kernel_rfl) hc43 (X_of_Y0 rfl (E_move (I y34.1) rfl (by kernel_rfl))) ?_
            refine XL_takeC _ rfl rfl (by kernel_rfl) hc43 (X_of_Y0 rfl (E_move (I j36) rfl (by kernel_rfl))) ?_
            refine XL_takeC _ rfl rfl (by kernel_rfl) hc43 (X_of_Y0 rfl (Y0_new (k := .i64) (a := y34.1) (b := j36) rfl (by kernel_rfl) (by kernel_rfl))) ?_
            refine XL_cons rfl (X_of_Y0 rfl (Y0_pick0 (b := bif (bif (bif (bif (!eqI o25 y6.1) then true else (!y31.2)) then true else (!eqI y31.1 y5)) then true else (!y34.2)) then true else (!y35.2)) (p := true) (q := !eqI y34.1 j36) rfl (by kernel_rfl) hc43 (by kernel_rfl))) ?_
            refine XL_nil ?_
            subst ht44
            kernel_rfl
       ·refine XL_takeC _ rfl rfl (by kernel_rfl) hc39 (X_of_Y0 rfl (E_move (Bo y31.2) rfl (by kernel_rfl))) ?_
        refine XL_takeC _ rfl rfl (by kernel_rfl) hc39 (X_of_Y0 rfl (Y0_not (b := y31.2) rfl (by kernel_rfl))) ?_
        refine XL_cons rfl (X_of_Y0 rfl (Y0_pick0 (b := !eqI o25 y6.1) (p := true) (q := !y31.2) rfl (by kernel_rfl) hc39 (by kernel_rfl))) ?_
        refine L0 rfl rfl (E_move (Bo (bif (!eqI o25 y6.1) then true else (!y31.2))) rfl (by kernel_rfl)) ?_
        refine XL_split (bif (!eqI o25 y6.1) then true else (!y31.2)) (fun hc40 => ?_) (fun hc40 => ?_)
        ·refine XL_skipF _ rfl rfl (by kernel_rfl) hc40 rfl ?_
         refine XL_skipF _ rfl rfl (by kernel_rfl) hc40 rfl ?_
         refine XL_skipF _ rfl rfl (by kernel_rfl) hc40 rfl ?_
         refine XL_cons rfl (X_of_Y0 rfl (Y0_pick1 (b := bif (!eqI o25 y6.1) then true else (!y31.2)) (p := true) (q := !eqI y31.1 y5) rfl (by kernel_rfl) hc40 (by kernel_rfl))) ?_
         refine L0 rfl rfl (E_move (Bo (bif (bif (!eqI o25 y6.1) then true else (!y31.2)) then true else (!eqI y31.1 y5))) rfl (by kernel_rfl)) ?_
         refine XL_split (bif (bif (!eqI o25 y6.1) then true else (!y31.2)) then true else (!eqI y31.1 y5)) (fun hc41 => ?_) (fun hc41 => ?_)
         ·refine XL_skipF _ rfl rfl (by kernel_rfl) hc41 rfl ?_
          refine XL_skipF _ rfl rfl (by kernel_rfl) hc41 rfl ?_
          refine XL_cons rfl (X_of_Y0 rfl (Y0_pick1 (b := bif (bif (!eqI o25 y6.1) then true else (!y31.2)) then true else (!eqI y31.1 y5)) (p := true) (q := !y34.2) rfl (by kernel_rfl) hc41 (by kernel_rfl))) ?_
          refine L0 rfl rfl (E_move (Bo (bif (bif (bif (!eqI o25 y6.1) then true else (!y31.2)) then true else (!eqI y31.1 y5)) then true else (!y34.2))) rfl (by kernel_rfl)) ?_
          refine XL_split (bif (bif (bif (!eqI o25 y6.1) then true else (!y31.2)) then true else (!eqI y31.1 y5)) then true else (!y34.2)) (fun hc42 => ?_) (fun hc42 => ?_)
          ·refine XL_skipF _ rfl rfl (by kernel_rfl) hc42 rfl ?_
           refine XL_skipF _ rfl rfl (by kernel_rfl) hc42 rfl ?_
           refine XL_cons rfl (X_of_Y0 rfl (Y0_pick1 (b := bif (bif (bif (!eqI o25 y6.1) then true else (!y31.2)) then true else (!eqI y31.1 y5)) then true else (!y34.2)) (p := true) (q := !y35.2) rfl (by kernel_rfl) hc42 (by kernel_rfl))) ?_
           refine L0 rfl rfl (E_move (Bo (bif (bif (bif (bif (!eqI o25 y6.1) then true else (!y31.2)) then true else (!eqI y31.1 y5)) then true else (!y34.2)) then true else (!y35.2))) rfl (by kernel_rfl)) ?_
           refine XL_split (bif (bif (bif (bif (!eqI o25 y6.1) then true else (!y31.2)) then true else (!eqI y31.1 y5)) then true else (!y34.2)) then true else (!y35.2)) (fun hc43 => ?_) (fun hc43 => ?_)
           ·refine XL_skipF _ rfl rfl (by kernel_rfl) hc43 rfl ?_
            refine XL_skipF _ rfl rfl (by kernel_rfl) hc43 rfl ?_
            refine XL_skipF _ rfl rfl (by kernel_rfl) hc43 rfl ?_
            refine XL_cons rfl (X_of_Y0 rfl (Y0_pick1 (b := bif (bif (bif (bif (!eqI o25 y6.1) then true else (!y31.2)) then true else (!eqI y31.1 y5)) then true else (!y34.2)) then true else (!y35.2)) (p := true) (q := !eqI y34.1 j36) rfl (by kernel_rfl) hc43 (by kernel_rfl))) ?_
            refine XL_nil ?_
            subst ht44
            kernel_rfl
           ·refine XL_takeC _ rfl rfl (by kernel_rfl) hc43 (X_of_Y0 rfl (E_move (I y34.1) rfl (by kernel_rfl))) ?_
            refine XL_takeC _ rfl rfl (by kernel_rfl) hc43 (X_of_Y0 rfl (E_move (I j36) rfl (by kernel_rfl))) ?_
            refine XL_takeC _ rfl rfl (by kernel_rfl) hc43 (X_of_Y0 rfl (Y0_new (k := .i64) (a := y34.1) (b := j36) rfl (by kernel_rfl) (by kernel_rfl))) ?_
            refine XL_cons rfl (X_of_Y0 rfl (Y0_pick0 (b := bif (bif (bif (bif (!eqI o25 y6.1) then true else (!y31.2)) then true else (!eqI y31.1 y5)) then true else (!y34.2)) then true else (!y35.2)) (p := true) (q := !eqI y34.1 j36) rfl (by kernel_rfl) hc43 (by kernel_rfl))) ?_
            refine XL_nil ?_
            subst ht44
            kernel_rfl
          ·refine XL_takeC _ rfl rfl (by kernel_rfl) hc42 (X_of_Y0 rfl (E_move (Bo y35.2) rfl (by kernel_rfl))) ?_
           refine XL_takeC _ rfl rfl (by kernel_rfl) hc42 (X_of_Y0 rfl (Y0_not (b := y35.2) rfl (by kernel_rfl))) ?_
           refine XL_cons rfl (X_of_Y0 rfl (Y0_pick0 (b := bif (bif (bif (!eqI o25 y6.1) then true else (!y31.2)) then true else (!eqI y31.1 y5)) then true else (!y34.2)) (p := true) (q := !y35.2) rfl (by kernel_rfl) hc42 (by kernel_rfl))) ?_
           refine L0 rfl rfl (E_move (Bo (bif (bif (bif (bif (!eqI o25 y6.1) then true else (!y31.2)) then true else (!eqI y31.1 y5)) then true else (!y34.2)) then true else (!y35.2))) rfl (by kernel_rfl)) ?_
           refine XL_split (bif (bif (bif (bif (!eqI o25 y6.1) then true else (!y31.2)) then true else (!eqI y31.1 y5)) then true else (!y34.2)) then true else (!y35.2)) (fun hc43 => ?_) (fun hc43 => ?_)
           ·refine XL_skipF _ rfl rfl (by kernel_rfl) hc43 rfl ?_
            refine XL_skipF _ rfl rfl (by kernel_rfl) hc43 rfl ?_
            refine XL_skipF _ rfl rfl (by kernel_rfl) hc43 rfl ?_
            refine XL_cons rfl (X_of_Y0 rfl (Y0_pick1 (b := bif (bif (bif (bif (!eqI o25 y6.1) then true else (!y31.2)) then true else (!eqI y31.1 y5)) then true else (!y34.2)) then true else (!y35.2)) (p := true) (q := !eqI y34.1 j36) rfl (by kernel_rfl) hc43 (by kernel_rfl))) ?_
            refine XL_nil ?_
            subst ht44
            kernel_rfl
           ·refine XL_takeC _ rfl rfl (by kernel_rfl) hc43 (X_of_Y0 rfl (E_move (I y34.1) rfl (by kernel_rfl))) ?_
            refine XL_takeC _ rfl rfl (by kernel_rfl) hc43 (X_of_Y0 rfl (E_move (I j36) rfl (by kernel_rfl))) ?_
            refine XL_takeC _ rfl rfl (by kernel_rfl) hc43 (X_of_Y0 rfl (Y0_new (k := .i64) (a := y34.1) (b := j36) rfl (by kernel_rfl) (by kernel_rfl))) ?_
            refine XL_cons rfl (X_of_Y0 rfl (Y0_pick0 (b := bif (bif (bif (bif (!eqI o25 y6.1) then true else (!y31.2)) then true else (!eqI y31.1 y5)) then true else (!y34.2)) then true else (!y35.2)) (p := true) (q := !eqI y34.1 j36) rfl (by kernel_rfl) hc43 (by kernel_rfl))) ?_
            refine XL_nil ?_
            subst ht44
            kernel_rfl
         ·refine XL_takeC _ rfl rfl (by kernel_rfl) hc41 (X_of_Y0 rfl (E_move (Bo y34.2) rfl (by kernel_rfl))) ?_
          refine XL_takeC _ rfl rfl (by kernel_rfl) hc41 (X_of_Y0 rfl (Y0_not (b := y34.2) rfl (by kernel_rfl))) ?_
          refine XL_cons rfl (X_of_Y0 rfl (Y0_pick0 (b := bif (bif (!eqI o25 y6.1) then true else (!y31.2)) then true else (!eqI y31.1 y5)) (p := true) (q := !y34.2) rfl (by kernel_rfl) hc41 (by kernel_rfl))) ?_
          refine L0 rfl rfl (E_move (Bo (bif (bif (bif (!eqI o25 y6.1) then true else (!y31.2)) then true else (!eqI y31.1 y5)) then true else (!y34.2))) rfl (by kernel_rfl)) ?_
          refine XL_split (bif (bif (bif (!eqI o25 y6.1) then true else (!y31.2)) then true else (!eqI y31.1 y5)) then true else (!y34.2)) (fun hc42 => ?_) (fun hc42 => ?_)
          ·refine XL_skipF _ rfl rfl (by kernel_rfl) hc42 rfl ?_
           refine XL_skipF _ rfl rfl (by kernel_rfl) hc42 rfl ?_
           refine XL_cons rfl (X_of_Y0 rfl (Y0_pick1 (b := bif (bif (bif (!eqI o25 y6.1) then true else (!y31.2)) then true else (!eqI y31.1 y5)) then true else (!y34.2)) (p := true) (q := !y35.2) rfl (by kernel_rfl) hc42 (by kernel_rfl))) ?_
           refine L0 rfl rfl (E_move (Bo (bif (bif (bif (bif (!eqI o25 y6.1) then true else (!y31.2)) then true else (!eqI y31.1 y5)) then true else (!y34.2)) then true else (!y35.2))) rfl (by kernel_rfl)) ?_
           refine XL_split (bif (bif (bif (bif (!eqI o25 y6.1) then true else (!y31.2)) then true else (!eqI y31.1 y5)) then true else (!y34.2)) then true else (!y35.2)) (fun hc43 => ?_) (fun hc43 => ?_)
           ·refine XL_skipF _ rfl rfl (by kernel_rfl) hc43 rfl ?_
            refine XL_skipF _ rfl rfl (by kernel_rfl) hc43 rfl ?_
            refine XL_skipF _ rfl rfl (by kernel_rfl) hc43 rfl ?_
            refine XL_cons rfl (X_of_Y0 rfl (Y0_pick1 (b := bif (bif (bif (bif (!eqI o25 y6.1) then true else (!y31.2)) then true else (!eqI y31.1 y5)) then true else (!y34.2)) then true else (!y35.2)) (p := true) (q := !eqI y34.1 j36) rfl (by kernel_rfl) hc43 (by kernel_rfl))) ?_
            refine XL_nil ?_
            subst ht44
            kernel_rfl
           ·refine XL_takeC _ rfl rfl (by kernel_rfl) hc43 (X_of_Y0 rfl (E_move (I y34.1) rfl (by kernel_rfl))) ?_
            refine XL_takeC _ rfl rfl (by kernel_rfl) hc43 (X_of_Y0 rfl (E_move (I j36) rfl (by kernel_rfl))) ?_
            refine XL_takeC _ rfl rfl (by kernel_rfl) hc43 (X_of_Y0 rfl (Y0_new (k := .i64) (a := y34.1) (b := j36) rfl (by kernel_rfl) (by kernel_rfl))) ?_
            refine XL_cons rfl (X_of_Y0 rfl (Y0_pick0 (b := bif (bif (bif (bif (!eqI o25 y6.1) then true else (!y31.2)) then true else (!eqI y31.1 y5)) then true else (!y34.2)) then true else (!y35.2)) (p := true) (q := !eqI y34.1 j36) rfl (by kernel_rfl) hc43 (by kernel_rfl))) ?_
            refine XL_nil ?_
            subst ht44
            kernel_rfl
          ·refine XL_takeC _ rfl rfl (by kernel_rfl) hc42 (X_of_Y0 rfl (E_move (Bo y35.2) rfl (by kernel_rfl))) ?_
           refine XL_takeC _ rfl rfl (by kernel_rfl) hc42 (X_of_Y0 rfl (Y0_not (b := y35.2) rfl (by kernel_rfl))) ?_
           refine XL_cons rfl (X_of_Y0 rfl (Y0_pick0 (b := bif (bif (bif (!eqI o25 y6.1) then true else (!y31.2)) then true else (!eqI y31.1 y5)) then true else (!y34.2)) (p := true) (q := !y35.2) rfl (by kernel_rfl) hc42 (by kernel_rfl))) ?_
           refine L0 rfl rfl (E_move (Bo (bif (bif (bif (bif (!eqI o25 y6.1) then true else (!y31.2)) then true else (!eqI y31.1 y5)) then true else (!y34.2)) then true else (!y35.2))) rfl (by kernel_rfl)) ?_
           refine XL_split (bif (bif (bif (bif (!eqI o25 y6.1) then true else (!y31.2)) then true else (!eqI y31.1 y5)) then true else (!y34.2)) then true else (!y35.2)) (fun hc43 => ?_) (fun hc43 => ?_)
           ·refine XL_skipF _ rfl rfl (by kernel_rfl) hc43 rfl ?_
            refine XL_skipF _ rfl rfl (by kernel_rfl) hc43 rfl ?_
            refine XL_skipF _ rfl rfl (by kernel_rfl) hc43 rfl ?_
            refine XL_cons rfl (X_of_Y0 rfl (Y0_pick1 (b := bif (bif (bif (bif (!eqI o25 y6.1) then true else (!y31.2)) then true else (!eqI y31.1 y5)) then true else (!y34.2)) then true else (!y35.2)) (p := true) (q := !eqI y34.1 j36) rfl (by kernel_rfl) hc43 (by kernel_rfl))) ?_
            refine XL_nil ?_
            subst ht44
            kernel_rfl
           ·refine XL_takeC _ rfl rfl (by kernel_rfl) hc43 (X_of_Y0 rfl (E_move (I y34.1) rfl (by kernel_rfl))) ?_
            refine XL_takeC _ rfl rfl (by kernel_rfl) hc43 (X_of_Y0 rfl (E_move (I j36) rfl (by kernel_rfl))) ?_
            refine XL_takeC _ rfl rfl (by kernel_rfl) hc43 (X_of_Y0 rfl (Y0_new (k := .i64) (a := y34.1) (b := j36) rfl (by kernel_rfl) (by kernel_rfl))) ?_
            refine XL_cons rfl (X_of_Y0 rfl (Y0_pick0 (b := bif (bif (bif (bif (!eqI o25 y6.1) then true else (!y31.2)) then true else (!eqI y31.1 y5)) then true else (!y34.2)) then true else (!y35.2)) (p := true) (q := !eqI y34.1 j36) rfl (by kernel_rfl) hc43 (by kernel_rfl))) ?_
            refine XL_nil ?_
            subst ht44
            kernel_rfl
        ·refine XL_takeC _ rfl rfl (by kernel_rfl) hc40 (X_of_Y0 rfl (E_move (I y31.1) rfl (by kernel_rfl))) ?_
         refine XL_takeC _ rfl rfl (by kernel_rfl) hc40 (X_of_Y0 rfl (E_move (I y5) rfl (by kernel_rfl))) ?_
         refine XL_takeC _ rfl rfl (by kernel_rfl) hc40 (X_of_Y0 rfl (Y0_new (k := .i64) (a := y31.1) (b := y5) rfl (by kernel_rfl) (by kernel_rfl))) ?_
         refine XL_cons rfl (X_of_Y0 rfl (Y0_pick0 (b := bif (!eqI o25 y6.1) then true else (!y31.2)) (p := true) (q := !eqI y31.1 y5) rfl (by kernel_rfl) hc40 (by kernel_rfl))) ?_
         refine L0 rfl rfl (E_move (Bo (bif (bif (!eqI o25 y6.1) then true else (!y31.2)) then true else (!eqI y31.1 y5))) rfl (by kernel_rfl)) ?_
         refine XL_split (bif (bif (!eqI o25 y6.1) then true else (!y31.2)) then true else (!eqI y31.1 y5)) (fun hc41 => ?_) (fun hc41 => ?_)
         ·refine XL_skipF _ rfl rfl (by kernel_rfl) hc41 rfl ?_
          refine XL_skipF _ rfl rfl (by kernel_rfl) hc41 rfl ?_
          refine XL_cons rfl (X_of_Y0 rfl (Y0_pick1 (b := bif (bif (!eqI o25 y6.1) then true else (!y31.2)) then true else (!eqI y31.1 y5)) (p := true) (q := !y34.2) rfl (by kernel_rfl) hc41 (by kernel_rfl))) ?_
          refine L0 rfl rfl (E_move (Bo (bif (bif (bif (!eqI o25 y6.1) then true else (!y31.2)) then true else (!eqI y31.1 y5)) then true else (!y34.2))) rfl (by kernel_rfl)) ?_
          refine XL_split (bif (bif (bif (!eqI o25 y6.1) then true else (!y31.2)) then true else (!eqI y31.1 y5)) then true else (!y34.2)) (fun hc42 => ?_) (fun hc42 => ?_)
          ·refine XL_skipF _ rfl rfl (by kernel_rfl) hc42 rfl ?_
           refine XL_skipF _ rfl rfl (by kernel_rfl) hc42 rfl ?_
           refine XL_cons rfl (X_of_Y0 rfl (Y0_pick1 (b := bif (bif (bif (!eqI o25 y6.1) then true else (!y31.2)) then true else (!eqI y31.1 y5)) then true else (!y34.2)) (p := true) (q := !y35.2) rfl (by kernel_rfl) hc42 (by kernel_rfl))) ?_
           refine L0 rfl rfl (E_move (Bo (bif (bif (bif (bif (!eqI o25 y6.1) then true else (!y31.2)) then true else (!eqI y31.1 y5)) then true else (!y34.2)) then true else (!y35.2))) rfl (by kernel_rfl)) ?_
           refine XL_split (bif (bif (bif (bif (!eqI o25 y6.1) then true else (!y31.2)) then true else (!eqI y31.1 y5)) then true else (!y34.2)) then true else (!y35.2)) (fun hc43 => ?_) (fun hc43 => ?_)
           ·refine XL_skipF _ rfl rfl (by kernel_rfl) hc43 rfl ?_
            refine XL_skipF _ rfl rfl (by kernel_rfl) hc43 rfl ?_
            refine XL_skipF _ rfl rfl (by kernel_rfl) hc43 rfl ?_
            refine XL_cons rfl (X_of_Y0 rfl (Y0_pick1 (b := bif (bif (bif (bif (!eqI o25 y6.1) then true else (!y31.2)) then true else (!eqI y31.1 y5)) then true else (!y34.2)) then true else (!y35.2)) (p := true) (q := !eqI y34.1 j36) rfl (by kernel_rfl) hc43 (by kernel_rfl))) ?_
            refine XL_nil ?_
            subst ht44
            kernel_rfl
           ·refine XL_takeC _ rfl rfl (by kernel_rfl) hc43 (X_of_Y0 rfl (E_move (I y34.1) rfl (by kernel_rfl))) ?_
            refine XL_takeC _ rfl rfl (by kernel_rfl) hc43 (X_of_Y0 rfl (E_move (I j36) rfl (by kernel_rfl))) ?_
            refine XL_takeC _ rfl rfl (by kernel_rfl) hc43 (X_of_Y0 rfl (Y0_new (k := .i64) (a := y34.1) (b := j36) rfl (by kernel_rfl) (by kernel_rfl))) ?_
            refine XL_cons rfl (X_of_Y0 rfl (Y0_pick0 (b := bif (bif (bif (bif (!eqI o25 y6.1) then true else (!y31.2)) then true else (!eqI y31.1 y5)) then true else (!y34.2)) then true else (!y35.2)) (p := true) (q := !eqI y34.1 j36) rfl (by kernel_rfl) hc43 (by kernel_rfl))) ?_
            refine XL_nil ?_
            subst ht44
            kernel_rfl
          ·refine XL_takeC _ rfl rfl (by kernel_rfl) hc42 (X_of_Y0 rfl (E_move (Bo y35.2) rfl (by kernel_rfl))) ?_
           refine XL_takeC _ rfl rfl (by kernel_rfl) hc42 (X_of_Y0 rfl (Y0_not (b := y35.2) rfl (by kernel_rfl))) ?_
           refine XL_cons rfl (X_of_Y0 rfl (Y0_pick0 (b := bif (bif (bif (!eqI o25 y6.1) then true else (!y31.2)) then true else (!eqI y31.1 y5)) then true else (!y34.2)) (p := true) (q := !y35.2) rfl (by kernel_rfl) hc42 (by kernel_rfl))) ?_
           refine L0 rfl rfl (E_move (Bo (bif (bif (bif (bif (!eqI o25 y6.1) then true else (!y31.2)) then true else (!eqI y31.1 y5)) then true else (!y34.2)) then true else (!y35.2))) rfl (by kernel_rfl)) ?_
           refine XL_split (bif (bif (bif (bif (!eqI o25 y6.1) then true else (!y31.2)) then true else (!eqI y31.1 y5)) then true else (!y34.2)) then true else (!y35.2)) (fun hc43 => ?_) (fun hc43 => ?_)
           ·refine XL_skipF _ rfl rfl (by kernel_rfl) hc43 rfl ?_
            refine XL_skipF _ rfl rfl (by kernel_rfl) hc43 rfl ?_
            refine XL_skipF _ rfl rfl (by kernel_rfl) hc43 rfl ?_
            refine XL_cons rfl (X_of_Y0 rfl (Y0_pick1 (b := bif (bif (bif (bif (!eqI o25 y6.1) then true else (!y31.2)) then true else (!eqI y31.1 y5)) then true else (!y34.2)) then true else (!y35.2)) (p := true) (q := !eqI y34.1 j36) rfl (by kernel_rfl) hc43 (by kernel_rfl))) ?_
            refine XL_nil ?_
            subst ht44
            kernel_rfl
           ·refine XL_takeC _ rfl rfl (by kernel_rfl) hc43 (X_of_Y0 rfl (E_move (I y34.1) rfl (by kernel_rfl))) ?_
            refine XL_takeC _ rfl rfl (by kernel_rfl) hc43 (X_of_Y0 rfl (E_move (I j36) rfl (by kernel_rfl))) ?_
            refine XL_takeC _ rfl rfl (by kernel_rfl) hc43 (X_of_Y0 rfl (Y0_new (k := .i64) (a := y34.1) (b := j36) rfl (by kernel_rfl) (by kernel_rfl))) ?_
            refine XL_cons rfl (X_of_Y0 rfl (Y0_pick0 (b := bif (bif (bif (bif (!eqI o25 y6.1) then true else (!y31.2)) then true else (!eqI y31.1 y5)) then true else (!y34.2)) then true else (!y35.2)) (p := true) (q := !eqI y34.1 j36) rfl (by kernel_rfl) hc43 (by kernel_rfl))) ?_
            refine XL_nil ?_
            subst ht44
            kernel_rfl
         ·refine XL_takeC _ rfl rfl (by kernel_rfl) hc41 (X_of_Y0 rfl (E_move (Bo y34.2) rfl (by kernel_rfl))) ?_
          refine XL_takeC _ rfl rfl (by kernel_rfl) hc41 (X_of_Y0 rfl (Y0_not (b := y34.2) rfl (by kernel_rfl))) ?_
          refine XL_cons rfl (X_of_Y0 rfl (Y0_pick0 (b := bif (bif (!eqI o25 y6.1) then true else (!y31.2)) then true else (!eqI y31.1 y5)) (p := true) (q := !y34.2) rfl (by kernel_rfl) hc41 (by kernel_rfl))) ?_
          refine L0 rfl rfl (E_move (Bo (bif (bif (bif (!eqI o25 y6.1) then true else (!y31.2)) then true else (!eqI y31.1 y5)) then true else (!y34.2))) rfl (by kernel_rfl)) ?_
          refine XL_split (bif (bif (bif (!eqI o25 y6.1) then true else (!y31.2)) then true else (!eqI y31.1 y5)) then true else (!y34.2)) (fun hc42 => ?_) (fun hc42 => ?_)
          ·refine XL_skipF _ rfl rfl (by kernel_rfl) hc42 rfl ?_
           refine XL_skipF _ rfl rfl (by kernel_rfl) hc42 rfl ?_
           refine XL_cons rfl (X_of_Y0 rfl (Y0_pick1 (b := bif (bif (bif (!eqI o25 y6.1) then true else (!y31.2)) then true else (!eqI y31.1 y5)) then true else (!y34.2)) (p := true) (q := !y35.2) rfl (by kernel_rfl) hc42 (by kernel_rfl))) ?_
           refine L0 rfl rfl (E_move (Bo (bif (bif (bif (bif (!eqI o25 y6.1) then true else (!y31.2)) then true else (!eqI y31.1 y5)) then true else (!y34.2)) then true else (!y35.2))) rfl (by kernel_rfl)) ?_
           refine XL_split (bif (bif (bif (bif (!eqI o25 y6.1) then true else (!y31.2)) then true else (!eqI y31.1 y5)) then true else (!y34.2)) then true else (!y35.2)) (fun hc43 => ?_) (fun hc43 => ?_)
           ·refine XL_skipF _ rfl rfl (by kernel_rfl) hc43 rfl ?_
            refine XL_skipF _ rfl rfl (by kernel_rfl) hc43 rfl ?_
            refine XL_skipF _ rfl rfl (by kernel_rfl) hc43 rfl ?_
            refine XL_cons rfl (X_of_Y0 rfl (Y0_pick1 (b := bif (bif (bif (bif (!eqI o25 y6.1) then true else (!y31.2)) then true else (!eqI y31.1 y5)) then true else (!y34.2)) then true else (!y35.2)) (p := true) (q := !eqI y34.1 j36) rfl (by kernel_rfl) hc43 (by kernel_rfl))) ?_
            refine XL_nil ?_
            subst ht44
            kernel_rfl
           ·refine XL_takeC _ rfl rfl (by kernel_rfl) hc43 (X_of_Y0 rfl (E_move (I y34.1) rfl (by kernel_rfl))) ?_
            refine XL_takeC _ rfl rfl (by kernel_rfl) hc43 (X_of_Y0 rfl (E_move (I j36) rfl (by kernel_rfl))) ?_
            refine XL_takeC _ rfl rfl (by kernel_rfl) hc43 (X_of_Y0 rfl (Y0_new (k := .i64) (a := y34.1) (b := j36) rfl (by kernel_rfl) (by kernel_rfl))) ?_
            refine XL_cons rfl (X_of_Y0 rfl (Y0_pick0 (b := bif (bif (bif (bif (!eqI o25 y6.1) then true else (!y31.2)) then true else (!eqI y31.1 y5)) then true else (!y34.2)) then true else (!y35.2)) (p := true) (q := !eqI y34.1 j36) rfl (by kernel_rfl) hc43 (by kernel_rfl))) ?_
            refine XL_nil ?_
            subst ht44
            kernel_rfl
          ·refine XL_takeC _ rfl rfl (by kernel_rfl) hc42 (X_of_Y0 rfl (E_move (Bo y35.2) rfl (by kernel_rfl))) ?_
           refine XL_takeC _ rfl rfl (by kernel_rfl) hc42 (X_of_Y0 rfl (Y0_not (b := y35.2) rfl (by kernel_rfl))) ?_
           refine XL_cons rfl (X_of_Y0 rfl (Y0_pick0 (b := bif (bif (bif (!eqI o25 y6.1) then true else (!y31.2)) then true else (!eqI y31.1 y5)) then true else (!y34.2)) (p := true) (q := !y35.2) rfl (by kernel_rfl) hc42 (by kernel_rfl))) ?_
           refine L0 rfl rfl (E_move (Bo (bif (bif (bif (bif (!eqI o25 y6.1) then true else (!y31.2)) then true else (!eqI y31.1 y5)) then true else (!y34.2)) then true else (!y35.2))) rfl (by kernel_rfl)) ?_
           refine XL_split (bif (bif (bif (bif (!eqI o25 y6.1) then true else (!y31.2)) then true else (!eqI y31.1 y5)) then true else (!y34.2)) then true else (!y35.2)) (fun hc43 => ?_) (fun hc43 => ?_)
           ·refine XL_skipF _ rfl rfl (by kernel_rfl) hc43 rfl ?_
            refine XL_skipF _ rfl rfl (by kernel_rfl) hc43 rfl ?_
            refine XL_skipF _ rfl rfl (by kernel_rfl) hc43 rfl ?_
            refine XL_cons rfl (X_of_Y0 rfl (Y0_pick1 (b := bif (bif (bif (bif (!eqI o25 y6.1) then true else (!y31.2)) then true else (!eqI y31.1 y5)) then true else (!y34.2)) then true else (!y35.2)) (p := true) (q := !eqI y34.1 j36) rfl (by kernel_rfl) hc43 (by kernel_rfl))) ?_
            refine XL_nil ?_
            subst ht44
            kernel_rfl
           ·refine XL_takeC _ rfl rfl (by kernel_rfl) hc43 (X_of_Y0 rfl (E_move (I y34.1) rfl (by kernel_rfl))) ?_
            refine XL_takeC _ rfl rfl (by kernel_rfl) hc43 (X_of_Y0 rfl (E_move (I j36) rfl (by kernel_rfl))) ?_
            refine XL_takeC _ rfl rfl (by kernel_rfl) hc43 (X_of_Y0 rfl (Y0_new (k := .i64) (a := y34.1) (b := j36) rfl (by kernel_rfl) (by kernel_rfl))) ?_
            refine XL_cons rfl (X_of_Y0 rfl (Y0_pick0 (b := bif (bif (bif (bif (!eqI o25 y6.1) then true else (!y31.2)) then true else (!eqI y31.1 y5)) then true else (!y34.2)) then true else (!y35.2)) (p := true) (q := !eqI y34.1 j36) rfl (by kernel_rfl) hc43 (by kernel_rfl))) ?_
            refine XL_nil ?_
            subst ht44
            kernel_rfl
      refine V_cond rfl (fun hc45 => ?_) (fun hc45 => ?_)
      ·have h := of_true h hc45
       refine V_sreg (mb 200 16) [] (s1 := ⟨bt 4 (Bo false :: bt 195 []), []⟩) ?_ ?_
       ·refine L0 rfl rfl (E_assign (Bo false) rfl (by kernel_rfl)) ?_
        refine XL_nil ?_
        kernel_rfl
       refine V_ret ?_
       obtain rfl := some_inj h
       show Post _ _ _ _ _
       exact ⟨.inr rfl, rfl, rfl, rfl⟩
      ·have h := of_false h hc45
       refine V_skip ?_
       show V _ _ _ _
       obtain ⟨y46, hy46, h⟩ := of_bind h
       obtain ⟨e47, he47, h⟩ := of_bind h
       obtain ⟨e48, he48, h⟩ := of_bind h
       refine V_sreg (mb 200 268435488) [] (s1 := ⟨bt 5 (I y5 :: bt 22 (I e48 :: bt 171 [])), []⟩) ?_ ?_
       ·refine L1 rfl rfl (Y1_bslice (z := zv3) (els := [2, 3, 5, 7, 11, 13, 17, 19, 23, 97].map c3) Try.underlying41 iz3 rfl (by decide) rfl (by kernel_rfl) rfl (by simp [c3]) (by decide) (by decide)) ?_
        refine L0 rfl rfl (E_move (.c (.sl (more2.map c5))) rfl (by kernel_rfl)) ?_
        refine L1 rfl rfl (Y1_call (s_laws_numberOf hy46) cf_laws_numberOf rfl (by kernel_rfl)) ?_
        refine L0 rfl rfl (Y0_rem (k := .i64) (a := y46) (b := 10) rfl (by kernel_rfl) (by kernel_rfl) (by decide)) ?_
        refine L0 rfl rfl (Y0_idxoM (c := c3) (xs := [2, 3, 5, 7, 11, 13, 17, 19, 23, 97]) (v := e47) (id := 1296) (T := 3) (sz := 1) (n := Int.tmod y46 10) Try.underlying41 sz3 rfl (by kernel_rfl) (by kernel_rfl) (by kernel_rfl) he47) ?_
        refine L0 rfl rfl (Y0_loado1 (c := c3) (xs := [2, 3, 5, 7, 11, 13, 17, 19, 23, 97]) (v := e48) (id := 1296) (sz := 1) (T := 3) (off := 0) (n := Int.tmod y46 10) (d := Ti e48) (ds := []) sc3 rfl (by kernel_rfl) (by kernel_rfl) he48 (by kernel_rfl)) ?_
        refine L0 rfl rfl (E_assign (I e48) rfl (by kernel_rfl)) ?_
        refine XL_nil ?_
        kernel_rfl
       obtain ⟨y49, hy49, h⟩ := of_bind h
       refine V_sreg (mb 200 1879048224) [] (s1 := ⟨bt 5 (I y5 :: bt 22 (I e48 :: I y49.1 :: Bo y49.2 :: bt 169 [])), []⟩) ?_ ?_
       ·refine L0 rfl rfl (E_move (I y5) rfl (by kernel_rfl)) ?_
        refine L0 rfl rfl (E_move (I e48) rfl (by kernel_rfl)) ?_
        refine L1 rfl rfl (Y1_call (s_impl_KindOfPrime hy49) cf_impl_KindOfPrime rfl (by kernel_rfl)) ?_
        refine L0 rfl rfl (E_move (.tc (I y49.1) (.tc (Bo y49.2) .tn)) rfl (by kernel_rfl)) ?_
        refine L0 rfl rfl (E_ext (n := 0) (I y49.1) (.tc (Bo y49.2) .tn) (I y49.1) rfl (by kernel_rfl) (by kernel_rfl) (by intro hh; cases hh)) ?_
        refine L0 rfl rfl (E_ext (n := 1) (I y49.1) (.tc (Bo y49.2) .tn) (Bo y49.2) rfl (by kernel_rfl) (by kernel_rfl) (by intro hh; cases hh)) ?_
        refine L0 rfl rfl (E_assign (I y49.1) rfl (by kernel_rfl)) ?_
        refine L0 rfl rfl (E_assign (Bo y49.2) rfl (by kernel_rfl)) ?_
        refine XL_nil ?_
        kernel_rfl
       obtain ⟨y50, hy50, h⟩ := of_bind h
       refine V_sreg (mb 200 8053063680) [1416] (s1 := ⟨bt 29 (I y49.1 :: Bo y49.2 :: .ow 1416 :: Bo y50.2 :: bt 167 []), [(1416, .arr 3 1 (y50.1.map c3))]⟩) ?_ ?_
       ·refine L0 rfl rfl (E_move (I y5) rfl (by kernel_rfl)) ?_
        refine L0 rfl rfl (E_move (I e48) rfl (by kernel_rfl)) ?_
        refine L1 rfl rfl (Y1_call (s_impl_RootsOfDiscriminant hy50) cf_impl_RootsOfDiscriminant rfl (by kernel_rfl)) ?_
        refine L0 rfl rfl (E_move (.tc (.ow 1416) (.tc (Bo y50.2) .tn)) rfl (by kernel_rfl)) ?_
        refine L0 rfl rfl (E_ext (n := 0) (.ow 1416) (.tc (Bo y50.2) .tn) (.ow 1416) rfl (by kernel_rfl) (by kernel_rfl) (by intro hh; cases hh)) ?_
        refine L0 rfl rfl (E_ext (n := 1) (.ow 1416) (.tc (Bo y50.2) .tn) (Bo y50.2) rfl (by kernel_rfl) (by kernel_rfl) (by intro hh; cases hh)) ?_
        refine L0 rfl rfl (E_assign (.ow 1416) rfl (by kernel_rfl)) ?_
        refine L0 rfl rfl (E_assign (Bo y50.2) rfl (by kernel_rfl)) ?_
        refine XL_nil ?_
        kernel_rfl
       refine V_seq ?_
       refine V_sreg (mb 200 49039857307708443467467104868809893875799651912559624192) [1416] (s1 := ⟨bt 29 (I y49.1 :: .bot :: .ow 1416 :: bt 153 (Bo (bif (!y49.2) then true else (!y50.2)) :: bt 14 [])), [(1416, .arr 3 1 (y50.1.map c3))]⟩) ?_ ?_
       ·refine L0 rfl rfl (E_move (Bo y49.2) rfl (by kernel_rfl)) ?_
        refine L0 rfl rfl (Y0_not (b := y49.2) rfl (by kernel_rfl)) ?_
        refine L0 rfl rfl (E_move (Bo (!y49.2)) rfl (by kernel_rfl)) ?_
        refine XL_split (!y49.2) (fun hc51 => ?_) (fun hc51 => ?_)
        ·refine XL_skipF _ rfl rfl (by kernel_rfl) hc51 rfl ?_
         refine XL_skipF _ rfl rfl (by kernel_rfl) hc51 rfl ?_
         refine XL_cons rfl (X_of_Y0 rfl (Y0_pick1 (b := !y49.2) (p := true) (q := !y50.2) rfl (by kernel_rfl) hc51 (by kernel_rfl))) ?_
         refine XL_nil ?_
         kernel_rfl
        ·refine XL_takeC _ rfl rfl (by kernel_rfl) hc51 (X_of_Y0 rfl (E_move (Bo y50.2) rfl (by kernel_rfl))) ?_
         refine XL_takeC _ rfl rfl (by kernel_rfl) hc51 (X_of_Y0 rfl (Y0_not (b := y50.2) rfl (by kernel_rfl))) ?_
         refine XL_cons rfl (X_of_Y0 rfl (Y0_pick0 (b := !y49.2) (p := true) (q := !y50.2) rfl (by kernel_rfl) hc51 (by kernel_rfl))) ?_
         refine XL_nil ?_
         kernel_rfl
       refine V_cond rfl (fun hc52 => ?_) (fun hc52 => ?_)
       ·have h := of_true h hc52
        refine V_sreg (mb 200 16) [] (s1 := ⟨bt 4 (Bo false :: bt 195 []), []⟩) ?_ ?_
        ·refine L0 rfl rfl (E_assign (Bo false) rfl (by kernel_rfl)) ?_
         refine XL_nil ?_
         kernel_rfl
        refine V_ret ?_
        obtain rfl := some_inj h
        show Post _ _ _ _ _
        exact ⟨.inr rfl, rfl, rfl, rfl⟩
       ·have h := of_false h hc52
        refine V_skip ?_
        show V _ _ _ _
        refine V_seq ?_
        refine V_sreg (mb 200 98079714615416886934934209737619787751599303821898022912) [1416] (s1 := ⟨bt 31 (.ow 1416 :: bt 154 (I y49.1 :: bt 13 [])), [(1416, .arr 3 1 (y50.1.map c3))]⟩) ?_ ?_
        ·refine L0 rfl rfl (E_move (I y49.1) rfl (by kernel_rfl)) ?_
         refine XL_nil ?_
         kernel_rfl
        refine V_block ?_
        refine V_sreg (mb 200 294239143846250660804802629212859363254797911461399101440) [1416] (s1 := ⟨bt 31 (.ow 1416 :: bt 154 (I y49.1 :: Bo (eqI y49.1 2) :: bt 12 [])), [(1416, .arr 3 1 (y50.1.map c3))]⟩) ?_ ?_
        ·refine L0 rfl rfl (Y0_eqw (k := .i64) (a := y49.1) (b := 2) rfl (by kernel_rfl) (by kernel_rfl)) ?_
         refine L0 rfl rfl (E_assign (Bo (eqI y49.1 2)) rfl (by kernel_rfl)) ?_
         refine XL_nil ?_
         kernel_rfl
        refine V_cond rfl (fun hc53 => ?_) (fun hc53 => ?_)
        ·have h := of_true h hc53
         refine V_sreg (mb 200 16) [] (s1 := ⟨bt 4 (Bo (eqI ((y50.1.length : Int)) 2) :: bt 195 []), []⟩) ?_ ?_
         ·refine L0 rfl rfl (E_move (.ow 1416) rfl (by kernel_rfl)) ?_
          refine L0 rfl rfl (Y0_lenM (c := c3) (xs := y50.1) Try.underlying41 rfl (by kernel_rfl)) ?_
          refine L0 rfl rfl (Y0_eqw (k := .i64) (a := (y50.1.length : Int)) (b := 2) rfl (by kernel_rfl) (by kernel_rfl)) ?_
          refine L0 rfl rfl (E_assign (Bo (eqI ((y50.1.length : Int)) 2)) rfl (by kernel_rfl)) ?_
          refine XL_nil ?_
          kernel_rfl
         refine V_ret ?_
         obtain rfl := some_inj h
         show Post _ _ _ _ _
         exact ⟨.inr rfl, rfl, rfl, rfl⟩
        ·have h := of_false h hc53
         refine V_sreg (mb 200 6277101735386680763835789423207666416102355444466181996544) [1416] (s1 := ⟨bt 31 (.ow 1416 :: bt 160 (Bo (eqI y49.1 1) :: bt 7 [])), [(1416, .arr 3 1 (y50.1.map c3))]⟩) ?_ ?_
         ·refine L0 rfl rfl (Y0_eqw (k := .i64) (a := y49.1) (b := 1) rfl (by kernel_rfl) (by kernel_rfl)) ?_
          refine L0 rfl rfl (E_assign (Bo (eqI y49.1 1)) rfl (by kernel_rfl)) ?_
          refine XL_nil ?_
          kernel_rfl
         refine V_cond rfl (fun hc54 => ?_) (fun hc54 => ?_)
         ·have h := of_true h hc54
          refine V_sreg (mb 200 16) [] (s1 := ⟨bt 4 (Bo (eqI ((y50.1.length : Int)) 0) :: bt 195 []), []⟩) ?_ ?_
          ·refine L0 rfl rfl (E_move (.ow 1416) rfl (by kernel_rfl)) ?_
           refine L0 rfl rfl (Y0_lenM (c := c3) (xs := y50.1) Try.underlying41 rfl (by kernel_rfl)) ?_
           refine L0 rfl rfl (Y0_eqw (k := .i64) (a := (y50.1.length : Int)) (b := 0) rfl (by kernel_rfl) (by kernel_rfl)) ?_
           refine L0 rfl rfl (E_assign (Bo (eqI ((y50.1.length : Int)) 0)) rfl (by kernel_rfl)) ?_
           refine XL_nil ?_
           kernel_rfl
          refine V_ret ?_
          obtain rfl := some_inj h
          show Post _ _ _ _ _
          exact ⟨.inr rfl, rfl, rfl, rfl⟩
         ·have h := of_false h hc54
          refine V_skip ?_
          show V _ _ _ _
          refine V_sreg (mb 200 16) [] (s1 := ⟨bt 4 (Bo (eqI ((y50.1.length : Int)) 1) :: bt 195 []), []⟩) ?_ ?_
          ·refine L0 rfl rfl (E_move (.ow 1416) rfl (by kernel_rfl)) ?_
           refine L0 rfl rfl (Y0_lenM (c := c3) (xs := y50.1) Try.underlying41 rfl (by kernel_rfl)) ?_
           refine L0 rfl rfl (Y0_eqw (k := .i64) (a := (y50.1.length : Int)) (b := 1) rfl (by kernel_rfl) (by kernel_rfl)) ?_
           refine L0 rfl rfl (E_assign (Bo (eqI ((y50.1.length : Int)) 1)) rfl (by kernel_rfl)) ?_
           refine XL_nil ?_
           kernel_rfl
          refine V_ret ?_
          obtain rfl := some_inj h
          show Post _ _ _ _ _
          exact ⟨.inr rfl, rfl, rfl, rfl⟩
end Go.Proofs.Ytgeajejmikaniaa
