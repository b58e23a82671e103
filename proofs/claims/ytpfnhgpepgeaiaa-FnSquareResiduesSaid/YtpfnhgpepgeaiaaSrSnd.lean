/-
  The functions of the program compute what the plain functions say: more of them.
  Conditions: none.
-/
import Derived.Test.YtpfnhgpepgeaiaaSrSnd1
namespace Go.Proofs.Ytpfnhgpepgeaiaa
open Go.RowKit
set_option linter.unusedVariables false
set_option linter.unusedSimpArgs false
theorem cf_laws_FnSquareResidues : ∀ args w, (callFunc 3 args).run Try.prog w = .ok (.enter 3 args) w := run_callFunc Try.func3 (by kernel_rfl) (by kernel_rfl)
set_option maxRecDepth 100000 in
set_option maxHeartbeats 400000 in
theorem s_laws_FnSquareResidues {code1 : List Int} {more2 : List Int} {r : Bool} (h : r_laws_FnSquareResidues code1 more2 = some r) : CallS Try.prog 3 [.c (.sl (code1.map c5)), .c (.sl (more2.map c5))] (Bo r) [] := by
  refine CallS_of_text (rs := [.t 4]) (vs := [.tmp 4]) Try.func3 rfl rfl (.cons rfl FitsL.nil) (by decide) 162 rfl ?_
  unfold r_laws_FnSquareResidues at h
  show V _ _ ⟨.c (.sl (code1.map c5)) :: .c (.sl (more2.map c5)) :: bt 160 [], []⟩ _
  refine V_sreg (mb 162 3) [] (s1 := ⟨.c (.sl (code1.map c5)) :: .c (.sl (more2.map c5)) :: bt 160 [], []⟩) ?_ ?_
  ·refine L0 rfl rfl (E_assign (Bo false) rfl (by kernel_rfl)) ?_
   refine XL_nil ?_
   kernel_rfl
  refine V_seq ?_
  obtain ⟨y3, hy3, h⟩ := of_bind h
  refine V_sreg (mb 162 67108867) [] (s1 := ⟨.c (.sl (code1.map c5)) :: .c (.sl (more2.map c5)) :: bt 24 (Bo y3 :: bt 135 []), []⟩) ?_ ?_
  ·refine L0 rfl rfl (E_move (.c (.sl (code1.map c5))) rfl (by kernel_rfl)) ?_
   refine L0 rfl rfl (E_move (.c (.sl (more2.map c5))) rfl (by kernel_rfl)) ?_
   refine L1 rfl rfl (Y1_call (s_laws_big hy3) cf_laws_big rfl (by kernel_rfl)) ?_
   refine XL_nil ?_
   kernel_rfl
  refine V_cond rfl (fun hc4 => ?_) (fun hc4 => ?_)
  ·have h := of_true h hc4
   refine V_sreg (mb 162 16) [] (s1 := ⟨bt 4 (Bo true :: bt 157 []), []⟩) ?_ ?_
   ·refine L0 rfl rfl (E_assign (Bo true) rfl (by kernel_rfl)) ?_
    refine XL_nil ?_
    kernel_rfl
   refine V_ret ?_
   obtain rfl := some_inj h
   show Post _ _ _ _ _
   exact ⟨.inr rfl, rfl, rfl, rfl⟩
  ·have h := of_false h hc4
   refine V_skip ?_
   show V _ _ _ _
   obtain ⟨y5, hy5, h⟩ := of_bind h
   refine V_sreg (mb 162 35) [] (s1 := ⟨.c (.sl (code1.map c5)) :: .c (.sl (more2.map c5)) :: bt 3 (I y5 :: bt 156 []), []⟩) ?_ ?_
   ·refine L0 rfl rfl (E_move (.c (.sl (code1.map c5))) rfl (by kernel_rfl)) ?_
    refine L1 rfl rfl (Y1_call (s_spec_DrawLeastNonresidue hy5) cf_spec_DrawLeastNonresidue rfl (by kernel_rfl)) ?_
    refine L0 rfl rfl (E_assign (I y5) rfl (by kernel_rfl)) ?_
    refine XL_nil ?_
    kernel_rfl
   obtain ⟨y6, hy6, h⟩ := of_bind h
   refine V_sreg (mb 162 227) [] (s1 := ⟨.c (.sl (code1.map c5)) :: .c (.sl (more2.map c5)) :: bt 3 (I y5 :: I y6.1 :: Bo y6.2 :: bt 154 []), []⟩) ?_ ?_
   ·refine L0 rfl rfl (E_move (I y5) rfl (by kernel_rfl)) ?_
    refine L1 rfl rfl (Y1_call (s_impl_LeastNonresidue hy6) cf_impl_LeastNonresidue rfl (by kernel_rfl)) ?_
    refine L0 rfl rfl (E_move (.tc (I y6.1) (.tc (Bo y6.2) .tn)) rfl (by kernel_rfl)) ?_
    refine L0 rfl rfl (E_ext (n := 0) (I y6.1) (.tc (Bo y6.2) .tn) (I y6.1) rfl (by kernel_rfl) (by kernel_rfl) (by intro hh; cases hh)) ?_
    refine L0 rfl rfl (E_ext (n := 1) (I y6.1) (.tc (Bo y6.2) .tn) (Bo y6.2) rfl (by kernel_rfl) (by kernel_rfl) (by intro hh; cases hh)) ?_
    refine L0 rfl rfl (E_assign (I y6.1) rfl (by kernel_rfl)) ?_
    refine L0 rfl rfl (E_assign (Bo y6.2) rfl (by kernel_rfl)) ?_
    refine XL_nil ?_
    kernel_rfl
   obtain ⟨y7, hy7, h⟩ := of_bind h
   refine V_sreg (mb 162 995) [] (s1 := ⟨.c (.sl (code1.map c5)) :: .c (.sl (more2.map c5)) :: bt 3 (I y5 :: I y6.1 :: Bo y6.2 :: I y7.1 :: Bo y7.2 :: bt 152 []), []⟩) ?_ ?_
   ·refine L0 rfl rfl (E_move (I y5) rfl (by kernel_rfl)) ?_
    refine L1 rfl rfl (Y1_call (s_spec_LeastNonresidue hy7) cf_spec_LeastNonresidue rfl (by kernel_rfl)) ?_
    refine L0 rfl rfl (E_move (.tc (I y7.1) (.tc (Bo y7.2) .tn)) rfl (by kernel_rfl)) ?_
    refine L0 rfl rfl (E_ext (n := 0) (I y7.1) (.tc (Bo y7.2) .tn) (I y7.1) rfl (by kernel_rfl) (by kernel_rfl) (by intro hh; cases hh)) ?_
    refine L0 rfl rfl (E_ext (n := 1) (I y7.1) (.tc (Bo y7.2) .tn) (Bo y7.2) rfl (by kernel_rfl) (by kernel_rfl) (by intro hh; cases hh)) ?_
    refine L0 rfl rfl (E_assign (I y7.1) rfl (by kernel_rfl)) ?_
    refine L0 rfl rfl (E_assign (Bo y7.2) rfl (by kernel_rfl)) ?_
    refine XL_nil ?_
    kernel_rfl
   refine V_seq ?_
   refine V_sreg (mb 162 70368744177891) [] (s1 := ⟨.c (.sl (code1.map c5)) :: .c (.sl (more2.map c5)) :: bt 3 (I y5 :: I y6.1 :: Bo y6.2 :: bt 38 (Bo (bif (y6.2 != y7.2) then true else (!eqI y6.1 y7.1)) :: bt 115 [])), []⟩) ?_ ?_
   ·refine L0 rfl rfl (E_move (Bo y6.2) rfl (by kernel_rfl)) ?_
    refine L0 rfl rfl (E_move (Bo y7.2) rfl (by kernel_rfl)) ?_
    refine L0 rfl rfl (Y0_neb (a := y6.2) (b := y7.2) Try.underlying4 rfl (by kernel_rfl) (by kernel_rfl)) ?_
    refine L0 rfl rfl (E_move (Bo (y6.2 != y7.2)) rfl (by kernel_rfl)) ?_
    refine XL_split (y6.2 != y7.2) (fun hc8 => ?_) (fun hc8 => ?_)
    ·refine XL_skipF _ rfl rfl (by kernel_rfl) hc8 rfl ?_
     refine XL_skipF _ rfl rfl (by kernel_rfl) hc8 rfl ?_
     refine XL_skipF _ rfl rfl (by kernel_rfl) hc8 rfl ?_
     refine XL_cons rfl (X_of_Y0 rfl (Y0_pick1 (b := y6.2 != y7.2) (p := true) (q := !eqI y6.1 y7.1) rfl (by kernel_rfl) hc8 (by kernel_rfl))) ?_
     refine XL_nil ?_
     kernel_rfl
    ·refine XL_takeC _ rfl rfl (by kernel_rfl) hc8 (X_of_Y0 rfl (E_move (I y6.1) rfl (by kernel_rfl))) ?_
     refine XL_takeC _ rfl rfl (by kernel_rfl) hc8 (X_of_Y0 rfl (E_move (I y7.1) rfl (by kernel_rfl))) ?_
     refine XL_takeC _ rfl rfl (by kernel_rfl) hc8 (X_of_Y0 rfl (Y0_new (k := .i64) (a := y6.1) (b := y7.1) rfl (by kernel_rfl) (by kernel_rfl))) ?_
     refine XL_cons rfl (X_of_Y0 rfl (Y0_pick0 (b := y6.2 != y7.2) (p := true) (q := !eqI y6.1 y7.1) rfl (by kernel_rfl) hc8 (by kernel_rfl))) ?_
     refine XL_nil ?_
     kernel_rfl
   refine V_cond rfl (fun hc9 => ?_) (fun hc9 => ?_)
   ·have h := of_true h hc9
    refine V_sreg (mb 162 16) [] (s1 := ⟨bt 4 (Bo false :: bt 157 []), []⟩) ?_ ?_
    ·refine L0 rfl rfl (E_assign (Bo false) rfl (by kernel_rfl)) ?_
     refine XL_nil ?_
     kernel_rfl
    refine V_ret ?_
    obtain rfl := some_inj h
    show Post _ _ _ _ _
    exact ⟨.inr rfl, rfl, rfl, rfl⟩
   ·have h := of_false h hc9
    refine V_skip ?_
    show V _ _ _ _
    obtain ⟨qo10, hLo10, hko10⟩ := of_bind h
    clear h
    refine V_cutS (q := qo10) (S := fun o10 => ⟨.c (.sl (code1.map c5)) :: .c (.sl (more2.map c5)) :: bt 160 [], []⟩) (mb 162 3) [] ?_ ?_
    ·have h := hLo10
     clear hLo10
     refine V_sreg (mb 162 140737488355427) [] (s1 := ⟨.c (.sl (code1.map c5)) :: .c (.sl (more2.map c5)) :: bt 3 (I y5 :: I y6.1 :: bt 40 (Bo y6.2 :: bt 114 [])), []⟩) ?_ ?_
     ·refine L0 rfl rfl (E_move (Bo y6.2) rfl (by kernel_rfl)) ?_
      refine XL_nil ?_
      kernel_rfl
     refine V_cond rfl (fun hc11 => ?_) (fun hc11 => ?_)
     ·have h := of_true h hc11
      refine V_seq ?_
      refine V_sreg (mb 162 1123) [] (s1 := ⟨.c (.sl (code1.map c5)) :: .c (.sl (more2.map c5)) :: bt 3 (I y5 :: I y6.1 :: bt 3 (I 1 :: bt 151 [])), []⟩) ?_ ?_
      ·refine L0 rfl rfl (E_assign (I 1) rfl (by kernel_rfl)) ?_
       refine XL_nil ?_
       kernel_rfl
      obtain ⟨qo14, hLo14, hko14⟩ := of_bind h
      refine V_toS (q := qo14) (S := fun o14 => ⟨.c (.sl (code1.map c5)) :: .c (.sl (more2.map c5)) :: bt 3 (I y5 :: I y6.1 :: bt 155 []), []⟩) (mb 162 99) [] ?_ ?_
      ·refine V_block (V_loop (fun n s => ∃ (k12 : Int), s.keep (mb 162 1123) [] = (⟨.c (.sl (code1.map c5)) :: .c (.sl (more2.map c5)) :: bt 3 (I y5 :: I y6.1 :: bt 3 (I k12 :: bt 151 [])), []⟩ : St) ∧ r_laws_FnSquareResidues_L13 code1 more2 y5 y6 n k12 = some qo14) FU ⟨_,  by rfl, hLo14⟩ ?_)
       clear hLo14
       rintro n s ⟨k12, hs, h⟩
       refine V_keep _ _ hs ?_
       clear hs
       cases n with
       | zero => cases h
       | succ n =>
        rw [r_laws_FnSquareResidues_L13] at h
        refine V_seq ?_
        refine V_sreg (mb 162 1125899906843747) [] (s1 := ⟨.c (.sl (code1.map c5)) :: .c (.sl (more2.map c5)) :: bt 3 (I y5 :: I y6.1 :: bt 3 (I k12 :: bt 39 (Bo (leI k12 y6.1) :: bt 111 []))), []⟩) ?_ ?_
        ·refine L0 rfl rfl (E_move (I k12) rfl (by kernel_rfl)) ?_
         refine L0 rfl rfl (E_move (I y6.1) rfl (by kernel_rfl)) ?_
         refine L0 rfl rfl (Y0_lew (k := .i64) (a := k12) (b := y6.1) rfl (by kernel_rfl) (by kernel_rfl)) ?_
         refine XL_nil ?_
         kernel_rfl
        refine V_cond rfl (fun hc15 => ?_) (fun hc15 => ?_)
        ·have h := of_true h hc15
         refine V_skip ?_
         show V _ _ _ _
         refine V_seq ?_
         refine V_block ?_
         obtain ⟨y16, hy16, h⟩ := of_bind h
         refine V_sreg (mb 162 7267) [] (s1 := ⟨.c (.sl (code1.map c5)) :: .c (.sl (more2.map c5)) :: bt 3 (I y5 :: I y6.1 :: bt 3 (I k12 :: I y16.1 :: Bo y16.2 :: bt 149 [])), []⟩) ?_ ?_
         ·refine L0 rfl rfl (E_move (I k12) rfl (by kernel_rfl)) ?_
          refine L0 rfl rfl (E_move (I y5) rfl (by kernel_rfl)) ?_
          refine L1 rfl rfl (Y1_call (s_impl_LegendreSymbol hy16) cf_impl_LegendreSymbol rfl (by kernel_rfl)) ?_
          refine L0 rfl rfl (E_move (.tc (I y16.1) (.tc (Bo y16.2) .tn)) rfl (by kernel_rfl)) ?_
          refine L0 rfl rfl (E_ext (n := 0) (I y16.1) (.tc (Bo y16.2) .tn) (I y16.1) rfl (by kernel_rfl) (by kernel_rfl) (by intro hh; cases hh)) ?_
          refine L0 rfl rfl (E_ext (n := 1) (I y16.1) (.tc (Bo y16.2) .tn) (Bo y16.2) rfl (by kernel_rfl) (by kernel_rfl) (by intro hh; cases hh)) ?_
          refine L0 rfl rfl (E_assign (I y16.1) rfl (by kernel_rfl)) ?_
          refine L0 rfl rfl (E_assign (Bo y16.2) rfl (by kernel_rfl)) ?_
          refine XL_nil ?_
          kernel_rfl
         obtain ⟨t18, ht18, h⟩ := of_bind h
         have ht18 := some_inj ht18
         refine V_sreg (mb 162 295147905179352826979) [] (s1 := ⟨.c (.sl (code1.map c5)) :: .c (.sl (more2.map c5)) :: bt 3 (I y5 :: I y6.1 :: bt 3 (I k12 :: bt 57 (Bo t18 :: bt 93 []))), []⟩) ?_ ?_
         ·refine L0 rfl rfl (E_move (Bo y16.2) rfl (by kernel_rfl)) ?_
          refine L0 rfl rfl (Y0_not (b := y16.2) rfl (by kernel_rfl)) ?_
          refine L0 rfl rfl (E_move (Bo (!y16.2)) rfl (by kernel_rfl)) ?_
          refine XL_split (!y16.2) (fun hc17 => ?_) (fun hc17 => ?_)
          ·refine XL_skipF _ rfl rfl (by kernel_rfl) hc17 rfl ?_
           refine XL_skipF _ rfl rfl (by kernel_rfl) hc17 rfl ?_
           refine XL_skipF _ rfl rfl (by kernel_rfl) hc17 rfl ?_
           refine XL_skipF _ rfl rfl (by kernel_rfl) hc17 rfl ?_
           refine XL_skipF _ rfl rfl (by kernel_rfl) hc17 rfl ?_
           refine XL_skipF _ rfl rfl (by kernel_rfl) hc17 rfl ?_
           refine XL_cons rfl (X_of_Y0 rfl (Y0_pick1 (b := !y16.2) (p := true) (q := (eqI y16.1 (-1)) != (eqI k12 y6.1)) rfl (by kernel_rfl) hc17 (by kernel_rfl))) ?_
           refine XL_nil ?_
           subst ht18
           kernel_rfl
          ·refine XL_takeC _ rfl rfl (by kernel_rfl) hc17 (X_of_Y0 rfl (E_move (I y16.1) rfl (by kernel_rfl))) ?_
           refine XL_takeC _ rfl rfl (by kernel_rfl) hc17 (X_of_Y0 rfl (Y0_eqw (k := .i64) (a := y16.1) (b := -1) rfl (by kernel_rfl) (by kernel_rfl))) ?_
           refine XL_takeC _ rfl rfl (by kernel_rfl) hc17 (X_of_Y0 rfl (E_move (I k12) rfl (by kernel_rfl))) ?_
           refine XL_takeC _ rfl rfl (by kernel_rfl) hc17 (X_of_Y0 rfl (E_move (I y6.1) rfl (by kernel_rfl))) ?_
           refine XL_takeC _ rfl rfl (by kernel_rfl) hc17 (X_of_Y0 rfl (Y0_eqw (k := .i64) (a := k12) (b := y6.1) rfl (by kernel_rfl) (by kernel_rfl))) ?_
           refine XL_takeC _ rfl rfl (by kernel_rfl) hc17 (X_of_Y0 rfl (Y0_neb (a := eqI y16.1 (-1)) (b := eqI k12 y6.1) Try.underlying4 rfl (by kernel_rfl) (by kernel_rfl))) ?_
           refine XL_cons rfl (X_of_Y0 rfl (Y0_pick0 (b := !y16.2) (p := true) (q := (eqI y16.1 (-1)) != (eqI k12 y6.1)) rfl (by kernel_rfl) hc17 (by kernel_rfl))) ?_
           refine XL_nil ?_
           subst ht18
           kernel_rfl
         refine V_cond rfl (fun hc19 => ?_) (fun hc19 => ?_)
         ·have h := of_true h hc19
          refine V_sreg (mb 162 16) [] (s1 := ⟨bt 4 (Bo false :: bt 157 []), []⟩) ?_ ?_
          ·refine L0 rfl rfl (E_assign (Bo false) rfl (by kernel_rfl)) ?_
           refine XL_nil ?_
           kernel_rfl
          refine V_ret ?_
          obtain rfl := some_inj h
          have h := hko14
          obtain rfl := some_inj h
          have h := hko10
          obtain rfl := some_inj h
          show Post _ _ _ _ _
          exact ⟨.inr rfl, rfl, rfl, rfl⟩
         ·have h := of_false h hc19
          refine V_skip ?_
          show V _ _ _ _
          obtain ⟨k20, hk20, h⟩ := of_sI h
          refine V_reg (mb 162 1123) [] (s1 := ⟨.c (.sl (code1.map c5)) :: .c (.sl (more2.map c5)) :: bt 3 (I y5 :: I y6.1 :: bt 3 (I k20 :: bt 151 [])), []⟩) ?_ ?_
          ·refine L0 rfl rfl (E_move (I k12) rfl (by kernel_rfl)) ?_
           refine L0 rfl rfl (Y0_add64 (a := k12) (b := 1) rfl (by kernel_rfl) (by kernel_rfl)) ?_
           refine L0 rfl rfl (E_assign (I (w64 (k12 + 1))) rfl (by kernel_rfl)) ?_
           refine XL_nil ?_
           subst hk20
           kernel_rfl
          exact ⟨n, Nat.lt_succ_self n, _,  by rfl, h⟩
        ·have h := of_false h hc15
         refine V_exit ?_
         obtain rfl := some_inj h
         exact ⟨_, rfl, by rfl⟩
      rintro o14 rfl
      have h := hko14
      clear hko14
      show V _ _ _ _
      refine V_sreg (mb 162 1180591620717411303523) [] (s1 := ⟨.c (.sl (code1.map c5)) :: .c (.sl (more2.map c5)) :: bt 3 (I y5 :: I y6.1 :: bt 63 (Bo (leI y5 10000) :: bt 91 [])), []⟩) ?_ ?_
      ·refine L0 rfl rfl (E_move (I y5) rfl (by kernel_rfl)) ?_
       refine L0 rfl rfl (Y0_lew (k := .i64) (a := y5) (b := 10000) rfl (by kernel_rfl) (by kernel_rfl)) ?_
       refine XL_nil ?_
       kernel_rfl
      refine V_cond rfl (fun hc21 => ?_) (fun hc21 => ?_)
      ·have h := of_true h hc21
       obtain ⟨y22, hy22, h⟩ := of_bind h
       refine V_sreg (mb 162 24675) [584] (s1 := ⟨.c (.sl (code1.map c5)) :: .c (.sl (more2.map c5)) :: bt 3 (I y5 :: I y6.1 :: bt 6 (.ow 584 :: Bo y22.2 :: bt 147 [])), [(584, .arr 3 1 (y22.1.map c3))]⟩) ?_ ?_
       ·refine L0 rfl rfl (E_move (I y5) rfl (by kernel_rfl)) ?_
        refine L1 rfl rfl (Y1_call (s_impl_SquareResidues hy22) cf_impl_SquareResidues rfl (by kernel_rfl)) ?_
        refine L0 rfl rfl (E_move (.tc (.ow 584) (.tc (Bo y22.2) .tn)) rfl (by kernel_rfl)) ?_
        refine L0 rfl rfl (E_ext (n := 0) (.ow 584) (.tc (Bo y22.2) .tn) (.ow 584) rfl (by kernel_rfl) (by kernel_rfl) (by intro hh; cases hh)) ?_
        refine L0 rfl rfl (E_ext (n := 1) (.ow 584) (.tc (Bo y22.2) .tn) (Bo y22.2) rfl (by kernel_rfl) (by kernel_rfl) (by intro hh; cases hh)) ?_
        refine L0 rfl rfl (E_assign (.ow 584) rfl (by kernel_rfl)) ?_
        refine L0 rfl rfl (E_assign (Bo y22.2) rfl (by kernel_rfl)) ?_
        refine XL_nil ?_
        kernel_rfl
       obtain ⟨b26, hb26, h⟩ := of_bind h
       refine V_sreg (mb 162 1237940039285380274899124227) [] (s1 := ⟨.c (.sl (code1.map c5)) :: .c (.sl (more2.map c5)) :: bt 88 (Bo b26 :: bt 71 []), []⟩) ?_ ?_
       ·refine L0 rfl rfl (E_move (Bo y22.2) rfl (by kernel_rfl)) ?_
        refine L0 rfl rfl (Y0_not (b := y22.2) rfl (by kernel_rfl)) ?_
        refine L0 rfl rfl (E_move (Bo (!y22.2)) rfl (by kernel_rfl)) ?_
        refine XL_split (!y22.2) (fun hc23 => ?_) (fun hc23 => ?_)
        ·refine XL_skipF _ rfl rfl (by kernel_rfl) hc23 rfl ?_
         refine XL_skipF _ rfl rfl (by kernel_rfl) hc23 rfl ?_
         refine XL_skipF _ rfl rfl (by kernel_rfl) hc23 rfl ?_
         refine XL_skipF _ rfl rfl (by kernel_rfl) hc23 rfl ?_
         refine XL_skipF _ rfl rfl (by kernel_rfl) hc23 rfl ?_
         refine XL_skipF _ rfl rfl (by kernel_rfl) hc23 rfl ?_
         refine XL_cons rfl (X_of_Y0 rfl (Y0_pick1 (b := !y22.2) (p := true) (q := !eqI ((y22.1.length : Int)) (w64 (Int.tdiv (w64 (y5 + 1)) 2))) rfl (by kernel_rfl) hc23 (by kernel_rfl))) ?_
         refine L0 rfl rfl (E_move (Bo (bif (!y22.2) then true else (!eqI ((y22.1.length : Int)) (w64 (Int.tdiv (w64 (y5 + 1)) 2))))) rfl (by kernel_rfl)) ?_
         refine XL_split (bif (!y22.2) then true else (!eqI ((y22.1.length : Int)) (w64 (Int.tdiv (w64 (y5 + 1)) 2)))) (fun hc24 => ?_) (fun hc24 => ?_)
         ·have hb26 := some_inj (of_true hb26 hc24)
          refine XL_skipF _ rfl rfl (by kernel_rfl) hc24 rfl ?_
          refine XL_skipF _ rfl rfl (by kernel_rfl) hc24 rfl ?_
          refine XL_skipF _ rfl rfl (by kernel_rfl) hc24 rfl ?_
          refine XL_cons rfl (X_of_Y0 rfl (Y0_pickTe (b := bif (!y22.2) then true else (!eqI ((y22.1.length : Int)) (w64 (Int.tdiv (w64 (y5 + 1)) 2)))) (p := true) rfl (by kernel_rfl) hc24 (by kernel_rfl) hb26)) ?_
          refine XL_nil ?_
          kernel_rfl
         ·have hb26 := of_false hb26 hc24
          obtain ⟨y25, hy25, hb26⟩ := of_bind hb26
          have hb26 := some_inj hb26
          refine XL_takeC _ rfl rfl (by kernel_rfl) hc24 (X_of_Y0 rfl (E_move (.ow 584) rfl (by kernel_rfl))) ?_
          refine XL_takeC _ rfl rfl (by kernel_rfl) hc24 (X_of_Y0 rfl (E_move (I y6.1) rfl (by kernel_rfl))) ?_
          refine XL_takeC _ rfl rfl (by kernel_rfl) hc24 (X_of_Y1 rfl (Y1_callS (s_laws_qIn hy25) cf_laws_qIn rfl (by kernel_rfl) rfl rfl)) ?_
          refine XL_cons rfl (X_of_Y0 rfl (Y0_pickFe (b := bif (!y22.2) then true else (!eqI ((y22.1.length : Int)) (w64 (Int.tdiv (w64 (y5 + 1)) 2)))) (p := y25) rfl (by kernel_rfl) hc24 (by kernel_rfl) hb26)) ?_
          refine XL_nil ?_
          kernel_rfl
        ·refine XL_takeC _ rfl rfl (by kernel_rfl) hc23 (X_of_Y0 rfl (E_move (.ow 584) rfl (by kernel_rfl))) ?_
         refine XL_takeC _ rfl rfl (by kernel_rfl) hc23 (X_of_Y0 rfl (Y0_lenM (c := c3) (xs := y22.1) Try.underlying28 rfl (by kernel_rfl))) ?_
         refine XL_takeC _ rfl rfl (by kernel_rfl) hc23 (X_of_Y0 rfl (E_move (I y5) rfl (by kernel_rfl))) ?_
         refine XL_takeC _ rfl rfl (by kernel_rfl) hc23 (X_of_Y0 rfl (Y0_add64 (a := y5) (b := 1) rfl (by kernel_rfl) (by kernel_rfl))) ?_
         refine XL_takeC _ rfl rfl (by kernel_rfl) hc23 (X_of_Y0 rfl (Y0_quo64 (a := w64 (y5 + 1)) (b := 2) rfl (by kernel_rfl) (by kernel_rfl) (by decide))) ?_
         refine XL_takeC _ rfl rfl (by kernel_rfl) hc23 (X_of_Y0 rfl (Y0_new (k := .i64) (a := (y22.1.length : Int)) (b := w64 (Int.tdiv (w64 (y5 + 1)) 2)) rfl (by kernel_rfl) (by kernel_rfl))) ?_
         refine XL_cons rfl (X_of_Y0 rfl (Y0_pick0 (b := !y22.2) (p := true) (q := !eqI ((y22.1.length : Int)) (w64 (Int.tdiv (w64 (y5 + 1)) 2))) rfl (by kernel_rfl) hc23 (by kernel_rfl))) ?_
         refine L0 rfl rfl (E_move (Bo (bif (!y22.2) then true else (!eqI ((y22.1.length : Int)) (w64 (Int.tdiv (w64 (y5 + 1)) 2))))) rfl (by kernel_rfl)) ?_
         refine XL_split (bif (!y22.2) then true else (!eqI ((y22.1.length : Int)) (w64 (Int.tdiv (w64 (y5 + 1)) 2)))) (fun hc24 => ?_) (fun hc24 => ?_)
         ·have hb26 := some_inj (of_true hb26 hc24)
          refine XL_skipF _ rfl rfl (by kernel_rfl) hc24 rfl ?_
          refine XL_skipF _ rfl rfl (by kernel_rfl) hc24 rfl ?_
          refine XL_skipF _ rfl rfl (by kernel_rfl) hc24 rfl ?_
          refine XL_cons rfl (X_of_Y0 rfl (Y0_pickTe (b := bif (!y22.2) then true else (!eqI ((y22.1.length : Int)) (w64 (Int.tdiv (w64 (y5 + 1)) 2)))) (p := true) rfl (by kernel_rfl) hc24 (by kernel_rfl) hb26)) ?_
          refine XL_nil ?_
          kernel_rfl
         ·have hb26 := of_false hb26 hc24
          obtain ⟨y25, hy25, hb26⟩ := of_bind hb26
          have hb26 := some_inj hb26
          refine XL_takeC _ rfl rfl (by kernel_rfl) hc24 (X_of_Y0 rfl (E_move (.ow 584) rfl (by kernel_rfl))) ?_
          refine XL_takeC _ rfl rfl (by kernel_rfl) hc24 (X_of_Y0 rfl (E_move (I y6.1) rfl (by kernel_rfl))) ?_
          refine XL_takeC _ rfl rfl (by kernel_rfl) hc24 (X_of_Y1 rfl (Y1_callS (s_laws_qIn hy25) cf_laws_qIn rfl (by kernel_rfl) rfl rfl)) ?_
          refine XL_cons rfl (X_of_Y0 rfl (Y0_pickFe (b := bif (!y22.2) then true else (!eqI ((y22.1.length : Int)) (w64 (Int.tdiv (w64 (y5 + 1)) 2)))) (p := y25) rfl (by kernel_rfl) hc24 (by kernel_rfl) hb26)) ?_
          refine XL_nil ?_
          kernel_rfl
       refine V_cond rfl (fun hc27 => ?_) (fun hc27 => ?_)
       ·have h := of_true h hc27
        refine V_sreg (mb 162 16) [] (s1 := ⟨bt 4 (Bo false :: bt 157 []), []⟩) ?_ ?_
        ·refine L0 rfl rfl (E_assign (Bo false) rfl (by kernel_rfl)) ?_
         refine XL_nil ?_
         kernel_rfl
        refine V_ret ?_
        obtain rfl := some_inj h
        have h := hko10
        obtain rfl := some_inj h
        show Post _ _ _ _ _
        exact ⟨.inr rfl, rfl, rfl, rfl⟩
       ·have h := of_false h hc27
        refine V_skip ?_
        obtain rfl := some_inj h
        exact ⟨_, rfl, by rfl⟩
      ·have h := of_false h hc21
       refine V_skip ?_
       obtain rfl := some_inj h
       exact ⟨_, rfl, by rfl⟩
     ·have h := of_false h hc11
      refine V_skip ?_
      obtain rfl := some_inj h
      exact ⟨_, rfl, by rfl⟩
    rintro o10 rfl
    have h := hko10
    clear hko10
    obtain ⟨y28, hy28, h⟩ := of_bind h
    refine V_sreg (mb 162 32771) [] (s1 := ⟨.c (.sl (code1.map c5)) :: .c (.sl (more2.map c5)) :: bt 13 (I y28 :: bt 146 []), []⟩) ?_ ?_
    ·refine L0 rfl rfl (E_move (.c (.sl (more2.map c5))) rfl (by kernel_rfl)) ?_
     refine L1 rfl rfl (Y1_call (s_spec_DrawCharacterRow hy28) cf_spec_DrawCharacterRow rfl (by kernel_rfl)) ?_
     refine L0 rfl rfl (E_assign (I y28) rfl (by kernel_rfl)) ?_
     refine XL_nil ?_
     kernel_rfl
    obtain ⟨y29, hy29, h⟩ := of_bind h
    refine V_sreg (mb 162 229379) [760] (s1 := ⟨.c (.sl (code1.map c5)) :: .c (.sl (more2.map c5)) :: bt 13 (I y28 :: .ow 760 :: Bo y29.2 :: bt 144 []), [(760, .arr 3 1 (y29.1.map c3))]⟩) ?_ ?_
    ·refine L0 rfl rfl (E_move (I y28) rfl (by kernel_rfl)) ?_
     refine L1 rfl rfl (Y1_call (s_impl_CharacterRow hy29) cf_impl_CharacterRow rfl (by kernel_rfl)) ?_
     refine L0 rfl rfl (E_move (.tc (.ow 760) (.tc (Bo y29.2) .tn)) rfl (by kernel_rfl)) ?_
     refine L0 rfl rfl (E_ext (n := 0) (.ow 760) (.tc (Bo y29.2) .tn) (.ow 760) rfl (by kernel_rfl) (by kernel_rfl) (by intro hh; cases hh)) ?_
     refine L0 rfl rfl (E_ext (n := 1) (.ow 760) (.tc (Bo y29.2) .tn) (Bo y29.2) rfl (by kernel_rfl) (by kernel_rfl) (by intro hh; cases hh)) ?_
     refine L0 rfl rfl (E_assign (.ow 760) rfl (by kernel_rfl)) ?_
     refine L0 rfl rfl (E_assign (Bo y29.2) rfl (by kernel_rfl)) ?_
     refine XL_nil ?_
     kernel_rfl
    obtain ⟨y30, hy30, h⟩ := of_bind h
    refine V_sreg (mb 162 1015811) [800, 760] (s1 := ⟨.c (.sl (code1.map c5)) :: .c (.sl (more2.map c5)) :: bt 13 (I y28 :: .ow 760 :: Bo y29.2 :: .ow 800 :: Bo y30.2 :: bt 142 []), [(800, .arr 3 1 (y30.1.map c3)), (760, .arr 3 1 (y29.1.map c3))]⟩) ?_ ?_
    ·refine L0 rfl rfl (E_move (I y28) rfl (by kernel_rfl)) ?_
     refine L1 rfl rfl (Y1_call (s_spec_CharacterRow hy30) cf_spec_CharacterRow rfl (by kernel_rfl)) ?_
     refine L0 rfl rfl (E_move (.tc (.ow 800) (.tc (Bo y30.2) .tn)) rfl (by kernel_rfl)) ?_
     refine L0 rfl rfl (E_ext (n := 0) (.ow 800) (.tc (Bo y30.2) .tn) (.ow 800) rfl (by kernel_rfl) (by kernel_rfl) (by intro hh; cases hh)) ?_
     refine L0 rfl rfl (E_ext (n := 1) (.ow 800) (.tc (Bo y30.2) .tn) (Bo y30.2) rfl (by kernel_rfl) (by kernel_rfl) (by intro hh; cases hh)) ?_
     refine L0 rfl rfl (E_assign (.ow 800) rfl (by kernel_rfl)) ?_
     refine L0 rfl rfl (E_assign (Bo y30.2) rfl (by kernel_rfl)) ?_
     refine XL_nil ?_
     kernel_rfl
    refine V_seq ?_
    obtain ⟨b33, hb33, h⟩ := of_bind h
    refine V_sreg (mb 162 2596148429267413814265248165101571) [800, 760] (s1 := ⟨.c (.sl (code1.map c5)) :: .c (.sl (more2.map c5)) :: bt 13 (I y28 :: .ow 760 :: Bo y29.2 :: .ow 800 :: bt 92 (Bo b33 :: bt 50 [])), [(800, .arr 3 1 (y30.1.map c3)), (760, .arr 3 1 (y29.1.map c3))]⟩) ?_ ?_
    ·refine L0 rfl rfl (E_move (Bo y29.2) rfl (by kernel_rfl)) ?_
     refine L0 rfl rfl (E_move (Bo y30.2) rfl (by kernel_rfl)) ?_
     refine L0 rfl rfl (Y0_neb (a := y29.2) (b := y30.2) Try.underlying4 rfl (by kernel_rfl) (by kernel_rfl)) ?_
     refine L0 rfl rfl (E_move (Bo (y29.2 != y30.2)) rfl (by kernel_rfl)) ?_
     refine XL_split (y29.2 != y30.2) (fun hc31 => ?_) (fun hc31 => ?_)
     ·have hb33 := some_inj (of_true hb33 hc31)
      refine XL_skipF _ rfl rfl (by kernel_rfl) hc31 rfl ?_
      refine XL_skipF _ rfl rfl (by kernel_rfl) hc31 rfl ?_
      refine XL_skipF _ rfl rfl (by kernel_rfl) hc31 rfl ?_
      refine XL_skipF _ rfl rfl (by kernel_rfl) hc31 rfl ?_
      refine XL_cons rfl (X_of_Y0 rfl (Y0_pickTe (b := y29.2 != y30.2) (p := true) rfl (by kernel_rfl) hc31 (by kernel_rfl) hb33)) ?_
      refine XL_nil ?_
      kernel_rfl
     ·have hb33 := of_false hb33 hc31
      obtain ⟨y32, hy32, hb33⟩ := of_bind hb33
      have hb33 := some_inj hb33
      refine XL_takeC _ rfl rfl (by kernel_rfl) hc31 (X_of_Y0 rfl (E_move (.ow 760) rfl (by kernel_rfl))) ?_
      refine XL_takeC _ rfl rfl (by kernel_rfl) hc31 (X_of_Y0 rfl (E_move (.ow 800) rfl (by kernel_rfl))) ?_
      refine XL_takeC _ rfl rfl (by kernel_rfl) hc31 (X_of_Y1 rfl (Y1_callS (s_laws_sameInts hy32) cf_laws_sameInts rfl (by kernel_rfl) rfl rfl)) ?_
      refine XL_takeC _ rfl rfl (by kernel_rfl) hc31 (X_of_Y0 rfl (Y0_not (b := y32) rfl (by kernel_rfl))) ?_
      refine XL_cons rfl (X_of_Y0 rfl (Y0_pickFe (b := y29.2 != y30.2) (p := !y32) rfl (by kernel_rfl) hc31 (by kernel_rfl) hb33)) ?_
      refine XL_nil ?_
      kernel_rfl
    refine V_cond rfl (fun hc34 => ?_) (fun hc34 => ?_)
    ·have h := of_true h hc34
     refine V_sreg (mb 162 16) [] (s1 := ⟨bt 4 (Bo false :: bt 157 []), []⟩) ?_ ?_
     ·refine L0 rfl rfl (E_assign (Bo false) rfl (by kernel_rfl)) ?_
      refine XL_nil ?_
      kernel_rfl
     refine V_ret ?_
     obtain rfl := some_inj h
     show Post _ _ _ _ _
     exact ⟨.inr rfl, rfl, rfl, rfl⟩
    ·have h := of_false h hc34
     refine V_skip ?_
     show V _ _ _ _
     refine V_seq ?_
     refine V_sreg (mb 162 5192296858534827628530496329580547) [800, 760] (s1 := ⟨.c (.sl (code1.map c5)) :: .c (.sl (more2.map c5)) :: bt 13 (I y28 :: .ow 760 :: .bot :: .ow 800 :: bt 93 (Bo y29.2 :: bt 49 [])), [(800, .arr 3 1 (y30.1.map c3)), (760, .arr 3 1 (y29.1.map c3))]⟩) ?_ ?_
     ·refine L0 rfl rfl (E_move (Bo y29.2) rfl (by kernel_rfl)) ?_
      refine XL_nil ?_
      kernel_rfl
     refine V_cond rfl (fun hc35 => ?_) (fun hc35 => ?_)
     ·have h := of_true h hc35
      obtain ⟨y36, hy36, h⟩ := of_bind h
      refine V_sreg (mb 162 3473411) [800, 760] (s1 := ⟨.c (.sl (code1.map c5)) :: .c (.sl (more2.map c5)) :: bt 14 (.ow 760 :: .bot :: .ow 800 :: .bot :: I y36.1 :: Bo y36.2 :: bt 140 []), [(800, .arr 3 1 (y30.1.map c3)), (760, .arr 3 1 (y29.1.map c3))]⟩) ?_ ?_
      ·refine L0 rfl rfl (E_move (I y28) rfl (by kernel_rfl)) ?_
       refine L0 rfl rfl (E_move (.ow 800) rfl (by kernel_rfl)) ?_
       refine L0 rfl rfl (Y0_lenM (c := c3) (xs := y30.1) Try.underlying28 rfl (by kernel_rfl)) ?_
       refine L0 rfl rfl (Y0_sub64 (a := (y30.1.length : Int)) (b := 1) rfl (by kernel_rfl) (by kernel_rfl)) ?_
       refine L1 rfl rfl (Y1_call (s_impl_SymbolSum hy36) cf_impl_SymbolSum rfl (by kernel_rfl)) ?_
       refine L0 rfl rfl (E_move (.tc (I y36.1) (.tc (Bo y36.2) .tn)) rfl (by kernel_rfl)) ?_
       refine L0 rfl rfl (E_ext (n := 0) (I y36.1) (.tc (Bo y36.2) .tn) (I y36.1) rfl (by kernel_rfl) (by kernel_rfl) (by intro hh; cases hh)) ?_
       refine L0 rfl rfl (E_ext (n := 1) (I y36.1) (.tc (Bo y36.2) .tn) (Bo y36.2) rfl (by kernel_rfl) (by kernel_rfl) (by intro hh; cases hh)) ?_
       refine L0 rfl rfl (E_assign (I y36.1) rfl (by kernel_rfl)) ?_
       refine L0 rfl rfl (E_assign (Bo y36.2) rfl (by kernel_rfl)) ?_
       refine XL_nil ?_
       kernel_rfl
      obtain ⟨y37, hy37, h⟩ := of_bind h
      obtain ⟨z38, hz38, h⟩ := of_bind h
      obtain ⟨y39, hy39, h⟩ := of_bind h
      obtain ⟨z40, hz40, h⟩ := of_bind h
      obtain ⟨i41, hi41, h⟩ := of_sI h
      obtain ⟨j42, hj42, h⟩ := of_sI h
      refine V_sdreg [0, 1, 0, 4, 15, 0, 35, 0, 128, 483, 127, 2047] 12 [[.z, .z, .b, .b, .z, .b, .z, .b, .b, .z, .z, .z], [.a, .z, .b, .b, .z, .b, .z, .b, .b, .z, .z, .z], [.b, .b, .z, .z, .z, .b, .b, .b, .b, .b, .z, .z], [.b, .b, .a, .z, .z, .b, .b, .b, .b, .b, .z, .z], [.a, .a, .a, .a, .z, .b, .b, .b, .b, .b, .z, .z], [.b, .b, .b, .b, .b, .z, .z, .b, .b, .z, .z, .z], [.a, .a, .b, .b, .b, .a, .z, .b, .b, .z, .z, .z], [.b, .b, .b, .b, .b, .b, .b, .z, .z, .z, .b, .z], [.b, .b, .b, .b, .b, .b, .b, .a, .z, .z, .b, .z], [.a, .a, .b, .b, .b, .a, .a, .a, .a, .z, .b, .z], [.a, .a, .a, .a, .a, .a, .a, .b, .b, .b, .z, .z], [.a, .a, .a, .a, .a, .a, .a, .a, .a, .a, .a, .z]] (mb 162 16056320) [800, 760] (s1 := ⟨bt 16 (.ow 760 :: .bot :: .ow 800 :: .bot :: I y36.1 :: Bo y36.2 :: I i41 :: I j42 :: bt 138 []), [(800, .arr 3 1 (y30.1.map c3)), (760, .arr 3 1 (y29.1.map c3))]⟩) (by kernel_rfl) (by kernel_rfl) ?_ ?_
      ·refine DE_0 0 (.c (.sl (code1.map c5))) (by kernel_rfl) rfl rfl rfl (gsat_none rfl) (by kernel_rfl) (E_move (.c (.sl (code1.map c5))) rfl (by kernel_rfl)) 121 rfl ?_
       refine DE_1 1 (by kernel_rfl) rfl rfl rfl (gsat_none rfl) (Y1_call (s_laws_numberOf hy37) cf_laws_numberOf rfl (by kernel_rfl)) rfl rfl rfl 122 rfl ?_
       refine DE_0 2 (.ow 800) (by kernel_rfl) rfl rfl rfl (gsat_none rfl) (by kernel_rfl) (E_move (.ow 800) rfl (by kernel_rfl)) 123 rfl ?_
       refine DE_0 3 (I ((y30.1.length : Int))) (by kernel_rfl) rfl rfl rfl (gsat_none rfl) (by kernel_rfl) (Y0_lenM (c := c3) (xs := y30.1) Try.underlying28 rfl (by kernel_rfl)) 124 rfl ?_
       refine DE_0 4 (I (Int.tmod y37 ((y30.1.length : Int)))) (by kernel_rfl) rfl rfl rfl (gsat_none rfl) (by kernel_rfl) (Y0_rem (k := .i64) (a := y37) (b := (y30.1.length : Int)) rfl (by kernel_rfl) (by kernel_rfl) (nz_some hz38)) 125 rfl ?_
       refine DE_0 5 (.c (.sl (more2.map c5))) (by kernel_rfl) rfl rfl rfl (gsat_none rfl) (by kernel_rfl) (E_move (.c (.sl (more2.map c5))) rfl (by kernel_rfl)) 126 rfl ?_
       refine DE_1 6 (by kernel_rfl) rfl rfl rfl (gsat_none rfl) (Y1_call (s_laws_numberOf hy39) cf_laws_numberOf rfl (by kernel_rfl)) rfl rfl rfl 127 rfl ?_
       refine DE_0 7 (.ow 800) (by kernel_rfl) rfl rfl rfl (gsat_none rfl) (by kernel_rfl) (E_move (.ow 800) rfl (by kernel_rfl)) 128 rfl ?_
       refine DE_0 8 (I ((y30.1.length : Int))) (by kernel_rfl) rfl rfl rfl (gsat_none rfl) (by kernel_rfl) (Y0_lenM (c := c3) (xs := y30.1) Try.underlying28 rfl (by kernel_rfl)) 129 rfl ?_
       refine DE_0 9 (I (Int.tmod y39 ((y30.1.length : Int)))) (by kernel_rfl) rfl rfl rfl (gsat_none rfl) (by kernel_rfl) (Y0_rem (k := .i64) (a := y39) (b := (y30.1.length : Int)) rfl (by kernel_rfl) (by kernel_rfl) (nz_some hz40)) 130 rfl ?_
       refine DE_0 10 (I (Int.tmod y37 ((y30.1.length : Int)))) (by kernel_rfl) rfl rfl rfl (gsat_none rfl) (by kernel_rfl) (E_assign (I (Int.tmod y37 ((y30.1.length : Int)))) rfl (by kernel_rfl)) 22 rfl ?_
       refine DE_0 11 (I (Int.tmod y39 ((y30.1.length : Int)))) (by kernel_rfl) rfl rfl rfl (gsat_none rfl) (by kernel_rfl) (E_assign (I (Int.tmod y39 ((y30.1.length : Int)))) rfl (by kernel_rfl)) 23 rfl ?_
       refine DL_nil (by kernel_rfl) ?_
       refine XL_nil ?_
       subst hi41 hj42
       kernel_rfl
      obtain ⟨b46, hb46, h⟩ := of_bind h
      obtain ⟨b55, hb55, h⟩ := of_bind h
      refine V_sdreg [0, 1, 3, 7, 15, 31, 63, 127, 255, 511, 1023, 2047, 2047, 8191, 16383, 2047, 2047, 100351, 231423, 524287, 2047, 2047, 2047, 6293503, 2047, 16779263, 65013759, 133171199, 267388927, 536870911, 1073741823, 2147483647] 32 [[.z, .z, .z, .z, .z, .z, .z, .z, .z, .z, .z, .z, .z, .z, .z, .z, .z, .z, .z, .z, .z, .z, .z, .z, .z, .z, .z, .z, .z, .z, .z, .z], [.a, .z, .z, .z, .z, .z, .z, .z, .z, .z, .z, .z, .z, .z, .z, .z, .z, .z, .z, .z, .z, .z, .z, .z, .z, .z, .z, .z, .z, .z, .z, .z], [.a, .a, .z, .z, .z, .z, .z, .z, .z, .z, .z, .z, .z, .z, .z, .z, .z, .z, .z, .z, .z, .z, .z, .z, .z, .z, .z, .z, .z, .z, .z, .z], [.a, .a, .a, .z, .z, .z, .z, .z, .z, .z, .z, .z, .z, .z, .z, .z, .z, .z, .z, .z, .z, .z, .z, .z, .z, .z, .z, .z, .z, .z, .z, .z], [.a, .a, .a, .a, .z, .z, .z, .z, .z, .z, .z, .z, .z, .z, .z, .z, .z, .z, .z, .z, .z, .z, .z, .z, .z, .z, .z, .z, .z, .z, .z, .z], [.a, .a, .a, .a, .a, .z, .z, .z, .z, .z, .z, .z, .z, .z, .z, .z, .z, .z, .z, .z, .z, .z, .z, .z, .z, .z, .z, .z, .z, .z, .z, .z], [.a, .a, .a, .a, .a, .a, .z, .z, .z, .z, .z, .z, .z, .z, .z, .z, .z, .z, .z, .z, .z, .z, .z, .z, .z, .z, .z, .z, .z, .z, .z, .z], [.a, .a, .a, .a, .a, .a, .a, .z, .z, .z, .z, .z, .z, .z, .z, .z, .z, .z, .z, .z, .z, .z, .z, .z, .z, .z, .z, .z, .z, .z, .z, .z], [.a, .a, .a, .a, .a, .a, .a, .a, .z, .z, .z, .z, .z, .z, .z, .z, .z, .z, .z, .z, .z, .z, .z, .z, .z, .z, .z, .z, .z, .z, .z, .z], [.a, .a, .a, .a, .a, .a, .a, .a, .a, .z, .z, .z, .z, .z, .z, .z, .z, .z, .z, .z, .z, .z, .z, .z, .z, .z, .z, .z, .z, .z, .z, .z], [.a, .a, .a, .a, .a, .a, .a, .a, .a, .a, .z, .z, .z, .z, .z, .z, .z, .z, .z, .z, .z, .z, .z, .z, .z, .z, .z, .z, .z, .z, .z, .z], [.a, .a, .a, .a, .a, .a, .a, .a, .a, .a, .a, .z, .b, .z, .z, .b, .b, .b, .b, .z, .b, .b, .b, .b, .b, .b, .b, .b, .b, .z, .z, .z], [.a, .a, .a, .a, .a, .a, .a, .a, .a, .a, .a, .b, .z, .z, .z, .b, .b, .b, .b, .z, .b, .b, .b, .b, .b, .b, .b, .b, .b, .z, .z, .z], [.a, .a, .a, .a, .a, .a, .a, .a, .a, .a, .a, .a, .a, .z, .z, .b, .b, .b, .b, .z, .b, .b, .b, .b, .b, .b, .b, .b, .b, .z, .z, .z], [.a, .a, .a, .a, .a, .a, .a, .a, .a, .a, .a, .a, .a, .a, .z, .b, .b, .b, .b, .z, .b, .b, .b, .b, .b, .b, .b, .b, .b, .z, .z, .z], [.a, .a, .a, .a, .a, .a, .a, .a, .a, .a, .a, .b, .b, .b, .b, .z, .b, .z, .z, .z, .b, .b, .b, .b, .b, .b, .b, .b, .b, .z, .z, .z], [.a, .a, .a, .a, .a, .a, .a, .a, .a, .a, .a, .b, .b, .b, .b, .b, .z, .z, .z, .z, .b, .b, .b, .b, .b, .b, .b, .b, .b, .z, .z, .z], [.a, .a, .a, .a, .a, .a, .a, .a, .a, .a, .a, .b, .b, .b, .b, .a, .a, .z, .z, .z, .b, .b, .b, .b, .b, .b, .b, .b, .b, .z, .z, .z], [.a, .a, .a, .a, .a, .a, .a, .a, .a, .a, .a, .b, .b, .b, .b, .a, .a, .a, .z, .z, .b, .b, .b, .b, .b, .b, .b, .b, .b, .z, .z, .z], [.a, .a, .a, .a, .a, .a, .a, .a, .a, .a, .a, .a, .a, .a, .a, .a, .a, .a, .a, .z, .b, .b, .b, .b, .b, .b, .b, .b, .b, .z, .z, .z], [.a, .a, .a, .a, .a, .a, .a, .a, .a, .a, .a, .b, .b, .b, .b, .b, .b, .b, .b, .b, .z, .b, .b, .b, .b, .b, .b, .z, .z, .z, .z, .z], [.a, .a, .a, .a, .a, .a, .a, .a, .a, .a, .a, .b, .b, .b, .b, .b, .b, .b, .b, .b, .b, .z, .b, .z, .b, .b, .z, .z, .z, .z, .z, .z], [.a, .a, .a, .a, .a, .a, .a, .a, .a, .a, .a, .b, .b, .b, .b, .b, .b, .b, .b, .b, .b, .b, .z, .z, .b, .b, .z, .z, .z, .z, .z, .z], [.a, .a, .a, .a, .a, .a, .a, .a, .a, .a, .a, .b, .b, .b, .b, .b, .b, .b, .b, .b, .b, .a, .a, .z, .b, .b, .z, .z, .z, .z, .z, .z], [.a, .a, .a, .a, .a, .a, .a, .a, .a, .a, .a, .b, .b, .b, .b, .b, .b, .b, .b, .b, .b, .b, .b, .b, .z, .z, .z, .z, .z, .z, .z, .z], [.a, .a, .a, .a, .a, .a, .a, .a, .a, .a, .a, .b, .b, .b, .b, .b, .b, .b, .b, .b, .b, .b, .b, .b, .a, .z, .z, .z, .z, .z, .z, .z], [.a, .a, .a, .a, .a, .a, .a, .a, .a, .a, .a, .b, .b, .b, .b, .b, .b, .b, .b, .b, .b, .a, .a, .a, .a, .a, .z, .z, .z, .z, .z, .z], [.a, .a, .a, .a, .a, .a, .a, .a, .a, .a, .a, .b, .b, .b, .b, .b, .b, .b, .b, .b, .a, .a, .a, .a, .a, .a, .a, .z, .z, .z, .z, .z], [.a, .a, .a, .a, .a, .a, .a, .a, .a, .a, .a, .b, .b, .b, .b, .b, .b, .b, .b, .b, .a, .a, .a, .a, .a, .a, .a, .a, .z, .z, .z, .z], [.a, .a, .a, .a, .a, .a, .a, .a, .a, .a, .a, .a, .a, .a, .a, .a, .a, .a, .a, .a, .a, .a, .a, .a, .a, .a, .a, .a, .a, .z, .z, .z], [.a, .a, .a, .a, .a, .a, .a, .a, .a, .a, .a, .a, .a, .a, .a, .a, .a, .a, .a, .a, .a, .a, .a, .a, .a, .a, .a, .a, .a, .a, .z, .z], [.a, .a, .a, .a, .a, .a, .a, .a, .a, .a, .a, .a, .a, .a, .a, .a, .a, .a, .a, .a, .a, .a, .a, .a, .a, .a, .a, .a, .a, .a, .a, .z]] (mb 162 16) [] (s1 := ⟨bt 4 (Bo b55 :: bt 157 []), []⟩) (by kernel_rfl) (by kernel_rfl) ?_ ?_
      ·refine DE_0 0 (Bo y36.2) (by kernel_rfl) rfl rfl rfl (gsat_none rfl) (by kernel_rfl) (E_move (Bo y36.2) rfl (by kernel_rfl)) 131 rfl ?_
       refine DE_0 1 (Bo y36.2) (by kernel_rfl) rfl rfl rfl (gsat_none rfl) (by kernel_rfl) (E_move (Bo y36.2) rfl (by kernel_rfl)) 132 rfl ?_
       refine DL_split y36.2 (fun hc43 => ?_) (fun hc43 => ?_)
       ·refine DE_0 2 (I y36.1) (by kernel_rfl) rfl rfl rfl (gsat_C (y36.2) rfl rfl (by kernel_rfl) hc43) (by kernel_rfl) (E_move (I y36.1) rfl (by kernel_rfl)) 133 rfl ?_
        refine DE_0 3 (Bo (eqI y36.1 0)) (by kernel_rfl) rfl rfl rfl (gsat_C (y36.2) rfl rfl (by kernel_rfl) hc43) (by kernel_rfl) (Y0_eqw (k := .i64) (a := y36.1) (b := 0) rfl (by kernel_rfl) (by kernel_rfl)) 134 rfl ?_
        refine DE_0 4 (Bo (bif y36.2 then (eqI y36.1 0) else false)) (by kernel_rfl) rfl rfl rfl (gsat_none rfl) (by kernel_rfl) (Y0_pick1 (b := y36.2) (p := eqI y36.1 0) (q := false) rfl (by kernel_rfl) hc43 (by kernel_rfl)) 135 rfl ?_
        refine DE_0 5 (Bo (bif y36.2 then (eqI y36.1 0) else false)) (by kernel_rfl) rfl rfl rfl (gsat_none rfl) (by kernel_rfl) (E_move (Bo (bif y36.2 then (eqI y36.1 0) else false)) rfl (by kernel_rfl)) 136 rfl ?_
        refine DL_split (bif y36.2 then (eqI y36.1 0) else false) (fun hc44 => ?_) (fun hc44 => ?_)
        ·have hb46 := of_true hb46 hc44
         obtain ⟨y45, hy45, hb46⟩ := of_bind hb46
         have hb46 := some_inj hb46
         refine DE_0 6 (.ow 800) (by kernel_rfl) rfl rfl rfl (gsat_C (bif y36.2 then (eqI y36.1 0) else false) rfl rfl (by kernel_rfl) hc44) (by kernel_rfl) (E_move (.ow 800) rfl (by kernel_rfl)) 137 rfl ?_
         refine DE_1 7 (by kernel_rfl) rfl rfl rfl (gsat_C (bif y36.2 then (eqI y36.1 0) else false) rfl rfl (by kernel_rfl) hc44) (Y1_callS (s_laws_qSum hy45) cf_laws_qSum rfl (by kernel_rfl) rfl rfl) rfl rfl rfl 138 rfl ?_
         refine DE_0 8 (Bo (eqI y45 0)) (by kernel_rfl) rfl rfl rfl (gsat_C (bif y36.2 then (eqI y36.1 0) else false) rfl rfl (by kernel_rfl) hc44) (by kernel_rfl) (Y0_eqw (k := .i64) (a := y45) (b := 0) rfl (by kernel_rfl) (by kernel_rfl)) 139 rfl ?_
         refine DE_0 9 (Bo (b46)) (by kernel_rfl) rfl rfl rfl (gsat_none rfl) (by kernel_rfl) (Y0_pickTe (b := bif y36.2 then (eqI y36.1 0) else false) (p := eqI y45 0) rfl (by kernel_rfl) hc44 (by kernel_rfl) hb46) 140 rfl ?_
         refine DE_0 10 (Bo b46) (by kernel_rfl) rfl rfl rfl (gsat_none rfl) (by kernel_rfl) (E_move (Bo b46) rfl (by kernel_rfl)) 141 rfl ?_
         refine DL_split b46 (fun hc47 => ?_) (fun hc47 => ?_)
         ·have hb55 := of_true hb55 hc47
          obtain ⟨e48, he48, hb55⟩ := of_bind hb55
          obtain ⟨e49, he49, hb55⟩ := of_bind hb55
          obtain ⟨e50, he50, hb55⟩ := of_bind hb55
          obtain ⟨e51, he51, hb55⟩ := of_bind hb55
          obtain ⟨z52, hz52, hb55⟩ := of_bind hb55
          obtain ⟨e53, he53, hb55⟩ := of_bind hb55
          obtain ⟨e54, he54, hb55⟩ := of_bind hb55
          have hb55 := some_inj hb55
          refine DE_0 11 (.ow 760) (by kernel_rfl) rfl rfl rfl (gsat_C (b46) rfl rfl (by kernel_rfl) hc47) (by kernel_rfl) (E_move (.ow 760) rfl (by kernel_rfl)) 142 rfl ?_
          refine DE_0 12 (I i41) (by kernel_rfl) rfl rfl rfl (gsat_C (b46) rfl rfl (by kernel_rfl) hc47) (by kernel_rfl) (E_move (I i41) rfl (by kernel_rfl)) 143 rfl ?_
          refine DE_0 13 (.po 760 1 (Int.toNat (i41)) 0) (by kernel_rfl) rfl rfl rfl (gsat_C (b46) rfl rfl (by kernel_rfl) hc47) (by kernel_rfl) (Y0_idxoM (c := c3) (xs := y29.1) (v := e48) (id := 760) (T := 3) (sz := 1) (n := i41) Try.underlying28 sz3 rfl (by kernel_rfl) (by kernel_rfl) (by kernel_rfl) he48) 144 rfl ?_
          refine DE_0 14 (I e49) (by kernel_rfl) rfl rfl rfl (gsat_C (b46) rfl rfl (by kernel_rfl) hc47) (by kernel_rfl) (Y0_loado1 (c := c3) (xs := y29.1) (v := e49) (id := 760) (sz := 1) (T := 3) (off := 0) (n := i41) (d := Ti e49) (ds := []) sc3 rfl (by kernel_rfl) (by kernel_rfl) he49 (by kernel_rfl)) 145 rfl ?_
          refine DE_0 15 (.ow 760) (by kernel_rfl) rfl rfl rfl (gsat_C (b46) rfl rfl (by kernel_rfl) hc47) (by kernel_rfl) (E_move (.ow 760) rfl (by kernel_rfl)) 146 rfl ?_
          refine DE_0 16 (I j42) (by kernel_rfl) rfl rfl rfl (gsat_C (b46) rfl rfl (by kernel_rfl) hc47) (by kernel_rfl) (E_move (I j42) rfl (by kernel_rfl)) 147 rfl ?_
          refine DE_0 17 (.po 760 1 (Int.toNat (j42)) 0) (by kernel_rfl) rfl rfl rfl (gsat_C (b46) rfl rfl (by kernel_rfl) hc47) (by kernel_rfl) (Y0_idxoM (c := c3) (xs := y29.1) (v := e50) (id := 760) (T := 3) (sz := 1) (n := j42) Try.underlying28 sz3 rfl (by kernel_rfl) (by kernel_rfl) (by kernel_rfl) he50) 148 rfl ?_
          refine DE_0 18 (I e51) (by kernel_rfl) rfl rfl rfl (gsat_C (b46) rfl rfl (by kernel_rfl) hc47) (by kernel_rfl) (Y0_loado1 (c := c3) (xs := y29.1) (v := e51) (id := 760) (sz := 1) (T := 3) (off := 0) (n := j42) (d := Ti e51) (ds := []) sc3 rfl (by kernel_rfl) (by kernel_rfl) he51 (by kernel_rfl)) 149 rfl ?_
          refine DE_0 19 (I (w64 (e49 * e51))) (by kernel_rfl) rfl rfl rfl (gsat_C (b46) rfl rfl (by kernel_rfl) hc47) (by kernel_rfl) (Y0_mul64 (a := e49) (b := e51) rfl (by kernel_rfl) (by kernel_rfl)) 150 rfl ?_
          refine DE_0 20 (.ow 760) (by kernel_rfl) rfl rfl rfl (gsat_C (b46) rfl rfl (by kernel_rfl) hc47) (by kernel_rfl) (E_move (.ow 760) rfl (by kernel_rfl)) 151 rfl ?_
          refine DE_0 21 (I i41) (by kernel_rfl) rfl rfl rfl (gsat_C (b46) rfl rfl (by kernel_rfl) hc47) (by kernel_rfl) (E_move (I i41) rfl (by kernel_rfl)) 152 rfl ?_
          refine DE_0 22 (I j42) (by kernel_rfl) rfl rfl rfl (gsat_C (b46) rfl rfl (by kernel_rfl) hc47) (by kernel_rfl) (E_move (I j42) rfl (by kernel_rfl)) 153 rfl ?_
          refine DE_0 23 (I (w64 (i41 * j42))) (by kernel_rfl) rfl rfl rfl (gsat_C (b46) rfl rfl (by kernel_rfl) hc47) (by kernel_rfl) (Y0_mul64 (a := i41) (b := j42) rfl (by kernel_rfl) (by kernel_rfl)) 154 rfl ?_
          refine DE_0 24 (.ow 800) (by kernel_rfl) rfl rfl rfl (gsat_C (b46) rfl rfl (by kernel_rfl) hc47) (by kernel_rfl) (E_move (.ow 800) rfl (by kernel_rfl)) 155 rfl ?_
          refine DE_0 25 (I ((y30.1.length : Int))) (by kernel_rfl) rfl rfl rfl (gsat_C (b46) rfl rfl (by kernel_rfl) hc47) (by kernel_rfl) (Y0_lenM (c := c3) (xs := y30.1) Try.underlying28 rfl (by kernel_rfl)) 156 rfl ?_
          refine DE_0 26 (I (Int.tmod (w64 (i41 * j42)) ((y30.1.length : Int)))) (by kernel_rfl) rfl rfl rfl (gsat_C (b46) rfl rfl (by kernel_rfl) hc47) (by kernel_rfl) (Y0_rem (k := .i64) (a := w64 (i41 * j42)) (b := (y30.1.length : Int)) rfl (by kernel_rfl) (by kernel_rfl) (nz_some hz52)) 157 rfl ?_
          refine DE_0 27 (.po 760 1 (Int.toNat (Int.tmod (w64 (i41 * j42)) ((y30.1.length : Int)))) 0) (by kernel_rfl) rfl rfl rfl (gsat_C (b46) rfl rfl (by kernel_rfl) hc47) (by kernel_rfl) (Y0_idxoM (c := c3) (xs := y29.1) (v := e53) (id := 760) (T := 3) (sz := 1) (n := Int.tmod (w64 (i41 * j42)) ((y30.1.length : Int))) Try.underlying28 sz3 rfl (by kernel_rfl) (by kernel_rfl) (by kernel_rfl) he53) 158 rfl ?_
          refine DE_0 28 (I e54) (by kernel_rfl) rfl rfl rfl (gsat_C (b46) rfl rfl (by kernel_rfl) hc47) (by kernel_rfl) (Y0_loado1 (c := c3) (xs := y29.1) (v := e54) (id := 760) (sz := 1) (T := 3) (off := 0) (n := Int.tmod (w64 (i41 * j42)) ((y30.1.length : Int))) (d := Ti e54) (ds := []) sc3 rfl (by kernel_rfl) (by kernel_rfl) he54 (by kernel_rfl)) 159 rfl ?_
          refine DE_0 29 (Bo (eqI (w64 (e49 * e51)) e54)) (by kernel_rfl) rfl rfl rfl (gsat_C (b46) rfl rfl (by kernel_rfl) hc47) (by kernel_rfl) (Y0_eqw (k := .i64) (a := w64 (e49 * e51)) (b := e54) rfl (by kernel_rfl) (by kernel_rfl)) 160 rfl ?_
          refine DE_0 30 (Bo (b55)) (by kernel_rfl) rfl rfl rfl (gsat_none rfl) (by kernel_rfl) (Y0_pickTe (b := b46) (p := eqI (w64 (e49 * e51)) e54) rfl (by kernel_rfl) hc47 (by kernel_rfl) hb55) 161 rfl ?_
          refine DE_0 31 (Bo b55) (by kernel_rfl) rfl rfl rfl (gsat_none rfl) (by kernel_rfl) (E_assign (Bo b55) rfl (by kernel_rfl)) 4 rfl ?_
          refine DL_nil (by kernel_rfl) ?_
          refine XL_nil ?_
          kernel_rfl
         ·have hb55 := some_inj (of_false hb55 hc47)
          refine DE_t 11 (by kernel_rfl) rfl rfl rfl (gun_T (b46) rfl rfl (by kernel_rfl) hc47) 142 rfl ?_
          refine DE_t 12 (by kernel_rfl) rfl rfl rfl (gun_T (b46) rfl rfl (by kernel_rfl) hc47) 143 rfl ?_
          refine DE_t 13 (by kernel_rfl) rfl rfl rfl (gun_T (b46) rfl rfl (by kernel_rfl) hc47) 144 rfl ?_
          refine DE_t 14 (by kernel_rfl) rfl rfl rfl (gun_T (b46) rfl rfl (by kernel_rfl) hc47) 145 rfl ?_
          refine DE_t 15 (by kernel_rfl) rfl rfl rfl (gun_T (b46) rfl rfl (by kernel_rfl) hc47) 146 rfl ?_
          refine DE_t 16 (by kernel_rfl) rfl rfl rfl (gun_T (b46) rfl rfl (by kernel_rfl) hc47) 147 rfl ?_
          refine DE_t 17 (by kernel_rfl) rfl rfl rfl (gun_T (b46) rfl rfl (by kernel_rfl) hc47) 148 rfl ?_
          refine DE_t 18 (by kernel_rfl) rfl rfl rfl (gun_T (b46) rfl rfl (by kernel_rfl) hc47) 149 rfl ?_
          refine DE_t 19 (by kernel_rfl) rfl rfl rfl (gun_T (b46) rfl rfl (by kernel_rfl) hc47) 150 rfl ?_
          refine DE_t 20 (by kernel_rfl) rfl rfl rfl (gun_T (b46) rfl rfl (by kernel_rfl) hc47) 151 rfl ?_
          refine DE_t 21 (by kernel_rfl) rfl rfl rfl (gun_T (b46) rfl rfl (by kernel_rfl) hc47) 152 rfl ?_
          refine DE_t 22 (by kernel_rfl) rfl rfl rfl (gun_T (b46) rfl rfl (by kernel_rfl) hc47) 153 rfl ?_
          refine DE_t 23 (by kernel_rfl) rfl rfl rfl (gun_T (b46) rfl rfl (by kernel_rfl) hc47) 154 rfl ?_
          refine DE_t 24 (by kernel_rfl) rfl rfl rfl (gun_T (b46) rfl rfl (by kernel_rfl) hc47) 155 rfl ?_
          refine DE_t 25 (by kernel_rfl) rfl rfl rfl (gun_T (b46) rfl rfl (by kernel_rfl) hc47) 156 rfl ?_
          refine DE_t 26 (by kernel_rfl) rfl rfl rfl (gun_T (b46) rfl rfl (by kernel_rfl) hc47) 157 rfl ?_
          refine DE_t 27 (by kernel_rfl) rfl rfl rfl (gun_T (b46) rfl rfl (by kernel_rfl) hc47) 158 rfl ?_
          refine DE_t 28 (by kernel_rfl) rfl rfl rfl (gun_T (b46) rfl rfl (by kernel_rfl) hc47) 159 rfl ?_
          refine DE_t 29 (by kernel_rfl) rfl rfl rfl (gun_T (b46) rfl rfl (by kernel_rfl) hc47) 160 rfl ?_
          refine DE_0 30 (Bo (b55)) (by kernel_rfl) rfl rfl rfl (gsat_none rfl) (by kernel_rfl) (Y0_pickFe (b := b46) (p := false) rfl (by kernel_rfl) hc47 (by kernel_rfl) hb55) 161 rfl ?_
          refine DE_0 31 (Bo b55) (by kernel_rfl) rfl rfl rfl (gsat_none rfl) (by kernel_rfl) (E_assign (Bo b55) rfl (by kernel_rfl)) 4 rfl ?_
          refine DL_nil (by kernel_rfl) ?_
          refine XL_nil ?_
          kernel_rfl
        ·have hb46 := some_inj (of_false hb46 hc44)
         refine DE_t 6 (by kernel_rfl) rfl rfl rfl (gun_T (bif y36.2 then (eqI y36.1 0) else false) rfl rfl (by kernel_rfl) hc44) 137 rfl ?_
         refine DE_t 7 (by kernel_rfl) rfl rfl rfl (gun_T (bif y36.2 then (eqI y36.1 0) else false) rfl rfl (by kernel_rfl) hc44) 138 rfl ?_
         refine DE_t 8 (by kernel_rfl) rfl rfl rfl (gun_T (bif y36.2 then (eqI y36.1 0) else false) rfl rfl (by kernel_rfl) hc44) 139 rfl ?_
         refine DE_0 9 (Bo (b46)) (by kernel_rfl) rfl rfl rfl (gsat_none rfl) (by kernel_rfl) (Y0_pickFe (b := bif y36.2 then (eqI y36.1 0) else false) (p := false) rfl (by kernel_rfl) hc44 (by kernel_rfl) hb46) 140 rfl ?_
         refine DE_0 10 (Bo b46) (by kernel_rfl) rfl rfl rfl (gsat_none rfl) (by kernel_rfl) (E_move (Bo b46) rfl (by kernel_rfl)) 141 rfl ?_
         refine DL_split b46 (fun hc47 => ?_) (fun hc47 => ?_)
         ·have hb55 := of_true hb55 hc47
          obtain ⟨e48, he48, hb55⟩ := of_bind hb55
          obtain ⟨e49, he49, hb55⟩ := of_bind hb55
          obtain ⟨e50, he50, hb55⟩ := of_bind hb55
          obtain ⟨e51, he51, hb55⟩ := of_bind hb55
          obtain ⟨z52, hz52, hb55⟩ := of_bind hb55
          obtain ⟨e53, he53, hb55⟩ := of_bind hb55
          obtain ⟨e54, he54, hb55⟩ := of_bind hb55
          have hb55 := some_inj hb55
          refine DE_0 11 (.ow 760) (by kernel_rfl) rfl rfl rfl (gsat_C (b46) rfl rfl (by kernel_rfl) hc47) (by kernel_rfl) (E_move (.ow 760) rfl (by kernel_rfl)) 142 rfl ?_
          refine DE_0 12 (I i41) (by kernel_rfl) rfl rfl rfl (gsat_C (b46) rfl rfl (by kernel_rfl) hc47) (by kernel_rfl) (E_move (I i41) rfl (by kernel_rfl)) 143 rfl ?_
          refine DE_0 13 (.po 760 1 (Int.toNat (i41)) 0) (by kernel_rfl) rfl rfl rfl (gsat_C (b46) rfl rfl (by kernel_rfl) hc47) (by kernel_rfl) (Y0_idxoM (c := c3) (xs := y29.1) (v := e48) (id := 760) (T := 3) (sz := 1) (n := i41) Try.underlying28 sz3 rfl (by kernel_rfl) (by kernel_rfl) (by kernel_rfl) he48) 144 rfl ?_
          refine DE_0 14 (I e49) (by kernel_rfl) rfl rfl rfl (gsat_C (b46) rfl rfl (by kernel_rfl) hc47) (by kernel_rfl) (Y0_loado1 (c := c3) (xs := y29.1) (v := e49) (id := 760) (sz := 1) (T := 3) (off := 0) (n := i41) (d := Ti e49) (ds := []) sc3 rfl (by kernel_rfl) (by kernel_rfl) he49 (by kernel_rfl)) 145 rfl ?_
          refine DE_0 15 (.ow 760) (by kernel_rfl) rfl rfl rfl (gsat_C (b46) rfl rfl (by kernel_rfl) hc47) (by kernel_rfl) (E_move (.ow 760) rfl (by kernel_rfl)) 146 rfl ?_
          refine DE_0 16 (I j42) (by kernel_rfl) rfl rfl rfl (gsat_C (b46) rfl rfl (by kernel_rfl) hc47) (by kernel_rfl) (E_move (I j42) rfl (by kernel_rfl)) 147 rfl ?_
          refine DE_0 17 (.po 760 1 (Int.toNat (j42)) 0) (by kernel_rfl) rfl rfl rfl (gsat_C (b46) rfl rfl (by kernel_rfl) hc47) (by kernel_rfl) (Y0_idxoM (c := c3) (xs := y29.1) (v := e50) (id := 760) (T := 3) (sz := 1) (n := j42) Try.underlying28 sz3 rfl (by kernel_rfl) (by kernel_rfl) (by kernel_rfl) he50) 148 rfl ?_
          refine DE_0 18 (I e51) (by kernel_rfl) rfl rfl rfl (gsat_C (b46) rfl rfl (by kernel_rfl) hc47) (by kernel_rfl) (Y0_loado1 (c := c3) (xs := y29.1) (v := e51) (id := 760) (sz := 1) (T := 3) (off := 0) (n := j42) (d := Ti e51) (ds := []) sc3 rfl (by kernel_rfl) (by kernel_rfl) he51 (by kernel_rfl)) 149 rfl ?_
          refine DE_0 19 (I (w64 (e49 * e51))) (by kernel_rfl) rfl rfl rfl (gsat_C (b46) rfl rfl (by kernel_rfl) hc47) (by kernel_rfl) (Y0_mul64 (a := e49) (b := e51) rfl (by kernel_rfl) (by kernel_rfl)) 150 rfl ?_
          refine DE_0 20 (.ow 760) (by kernel_rfl) rfl rfl rfl (gsat_C (b46) rfl rfl (by kernel_rfl) hc47) (by kernel_rfl) (E_move (.ow 760) rfl (by kernel_rfl)) 151 rfl ?_
          refine DE_0 21 (I i41) (by kernel_rfl) rfl rfl rfl (gsat_C (b46) rfl rfl (by kernel_rfl) hc47) (by kernel_rfl) (E_move (I i41) rfl (by kernel_rfl)) 152 rfl ?_
          refine DE_0 22 (I j42) (by kernel_rfl) rfl rfl rfl (gsat_C (b46) rfl rfl (by kernel_rfl) hc47) (by kernel_rfl) (E_move (I j42) rfl (by kernel_rfl)) 153 rfl ?_
          refine DE_0 23 (I (w64 (i41 * j42))) (by kernel_rfl) rfl rfl rfl (gsat_C (b46) rfl rfl (by kernel_rfl) hc47) (by kernel_rfl) (Y0_mul64 (a := i41) (b := j42) rfl (by kernel_rfl) (by kernel_rfl)) 154 rfl ?_
          refine DE_0 24 (.ow 800) (by kernel_rfl) rfl rfl rfl (gsat_C (b46) rfl rfl (by kernel_rfl) hc47) (by kernel_rfl) (E_move (.ow 800) rfl (by kernel_rfl)) 155 rfl ?_
          refine DE_0 25 (I ((y30.1.length : Int))) (by kernel_rfl) rfl rfl rfl (gsat_C (b46) rfl rfl (by kernel_rfl) hc47) (by kernel_rfl) (Y0_lenM (c := c3) (xs := y30.1) Try.underlying28 rfl (by kernel_rfl)) 156 rfl ?_
          refine DE_0 26 (I (Int.tmod (w64 (i41 * j42)) ((y30.1.length : Int)))) (by kernel_rfl) rfl rfl rfl (gsat_C (b46) rfl rfl (by kernel_rfl) hc47) (by kernel_rfl) (Y0_rem (k := .i64) (a := w64 (i41 * j42)) (b := (y30.1.length : Int)) rfl (by kernel_rfl) (by kernel_rfl) (nz_some hz52)) 157 rfl ?_
          refine DE_0 27 (.po 760 1 (Int.toNat (Int.tmod (w64 (i41 * j42)) ((y30.1.length : Int)))) 0) (by kernel_rfl) rfl rfl rfl (gsat_C (b46) rfl rfl (by kernel_rfl) hc47) (by kernel_rfl) (Y0_idxoM (c := c3) (xs := y29.1) (v := e53) (id := 760) (T := 3) (sz := 1) (n := Int.tmod (w64 (i41 * j42)) ((y30.1.length : Int))) Try.underlying28 sz3 rfl (by kernel_rfl) (by kernel_rfl) (by kernel_rfl) he53) 158 rfl ?_
          refine DE_0 28 (I e54) (by kernel_rfl) rfl rfl rfl (gsat_C (b46) rfl rfl (by kernel_rfl) hc47) (by kernel_rfl) (Y0_loado1 (c := c3) (xs := y29.1) (v := e54) (id := 760) (sz := 1) (T := 3) (off := 0) (n := Int.tmod (w64 (i41 * j42)) ((y30.1.length : Int))) (d := Ti e54) (ds := []) sc3 rfl (by kernel_rfl) (by kernel_rfl) he54 (by kernel_rfl)) 159 rfl ?_
          refine DE_0 29 (Bo (eqI (w64 (e49 * e51)) e54)) (by kernel_rfl) rfl rfl rfl (gsat_C (b46) rfl rfl (by kernel_rfl) hc47) (by kernel_rfl) (Y0_eqw (k := .i64) (a := w64 (e49 * e51)) (b := e54) rfl (by kernel_rfl) (by kernel_rfl)) 160 rfl ?_
          refine DE_0 30 (Bo (b55)) (by kernel_rfl) rfl rfl rfl (gsat_none rfl) (by kernel_rfl) (Y0_pickTe (b := b46) (p := eqI (w64 (e49 * e51)) e54) rfl (by kernel_rfl) hc47 (by kernel_rfl) hb55) 161 rfl ?_
          refine DE_0 31 (Bo b55) (by kernel_rfl) rfl rfl rfl (gsat_none rfl) (by kernel_rfl) (E_assign (Bo b55) rfl (by kernel_rfl)) 4 rfl ?_
          refine DL_nil (by kernel_rfl) ?_
          refine XL_nil ?_
          kernel_rfl
         ·have hb55 := some_inj (of_false hb55 hc47)
          refine DE_t 11 (by kernel_rfl) rfl rfl rfl (gun_T (b46) rfl rfl (by kernel_rfl) hc47) 142 rfl ?_
          refine DE_t 12 (by kernel_rfl) rfl rfl rfl (gun_T (b46) rfl rfl (by kernel_rfl) hc47) 143 rfl ?_
          refine DE_t 13 (by kernel_rfl) rfl rfl rfl (gun_T (b46) rfl rfl (by kernel_rfl) hc47) 144 rfl ?_
          refine DE_t 14 (by kernel_rfl) rfl rfl rfl (gun_T (b46) rfl rfl (by kernel_rfl) hc47) 145 rfl ?_
          refine DE_t 15 (by kernel_rfl) rfl rfl rfl (gun_T (b46) rfl rfl (by kernel_rfl) hc47) 146 rfl ?_
          refine DE_t 16 (by kernel_rfl) rfl rfl rfl (gun_T (b46) rfl rfl (by kernel_rfl) hc47) 147 rfl ?_
          refine DE_t 17 (by kernel_rfl) rfl rfl rfl (gun_T (b46) rfl rfl (by kernel_rfl) hc47) 148 rfl ?_
          refine DE_t 18 (by kernel_rfl) rfl rfl rfl (gun_T (b46) rfl rfl (by kernel_rfl) hc47) 149 rfl ?_
          refine DE_t 19 (by kernel_rfl) rfl rfl rfl (gun_T (b46) rfl rfl (by kernel_rfl) hc47) 150 rfl ?_
          refine DE_t 20 (by kernel_rfl) rfl rfl rfl (gun_T (b46) rfl rfl (by kernel_rfl) hc47) 151 rfl ?_
          refine DE_t 21 (by kernel_rfl) rfl rfl rfl (gun_T (b46) rfl rfl (by kernel_rfl) hc47) 152 rfl ?_
          refine DE_t 22 (by kernel_rfl) rfl rfl rfl (gun_T (b46) rfl rfl (by kernel_rfl) hc47) 153 rfl ?_
          refine DE_t 23 (by kernel_rfl) rfl rfl rfl (gun_T (b46) rfl rfl (by kernel_rfl) hc47) 154 rfl ?_
          refine DE_t 24 (by kernel_rfl) rfl rfl rfl (gun_T (b46) rfl rfl (by kernel_rfl) hc47) 155 rfl ?_
          refine DE_t 25 (by kernel_rfl) rfl rfl rfl (gun_T (b46) rfl rfl (by kernel_rfl) hc47) 156 rfl ?_
          refine DE_t 26 (by kernel_rfl) rfl rfl rfl (gun_T (b46) rfl rfl (by kernel_rfl) hc47) 157 rfl ?_
          refine DE_t 27 (by kernel_rfl) rfl rfl rfl (gun_T (b46) rfl rfl (by kernel_rfl) hc47) 158 rfl ?_
          refine DE_t 28 (by kernel_rfl) rfl rfl rfl (gun_T (b46) rfl rfl (by kernel_rfl) hc47) 159 rfl ?_
          refine DE_t 29 (by kernel_rfl) rfl rfl rfl (gun_T (b46) rfl rfl (by kernel_rfl) hc47) 160 rfl ?_
          refine DE_0 30 (Bo (b55)) (by kernel_rfl) rfl rfl rfl (gsat_none rfl) (by kernel_rfl) (Y0_pickFe (b := b46) (p := false) rfl (by kernel_rfl) hc47 (by kernel_rfl) hb55) 161 rfl ?_
          refine DE_0 31 (Bo b55) (by kernel_rfl) rfl rfl rfl (gsat_none rfl) (by kernel_rfl) (E_assign (Bo b55) rfl (by kernel_rfl)) 4 rfl ?_
          refine DL_nil (by kernel_rfl) ?_
          refine XL_nil ?_
          kernel_rfl
       ·refine DE_t 2 (by kernel_rfl) rfl rfl rfl (gun_T (y36.2) rfl rfl (by kernel_rfl) hc43) 133 rfl ?_
        refine DE_t 3 (by kernel_rfl) rfl rfl rfl (gun_T (y36.2) rfl rfl (by kernel_rfl) hc43) 134 rfl ?_
        refine DE_0 4 (Bo (bif y36.2 then (eqI y36.1 0) else false)) (by kernel_rfl) rfl rfl rfl (gsat_none rfl) (by kernel_rfl) (Y0_pick0 (b := y36.2) (p := eqI y36.1 0) (q := false) rfl (by kernel_rfl) hc43 (by kernel_rfl)) 135 rfl ?_
        refine DE_0 5 (Bo (bif y36.2 then (eqI y36.1 0) else false)) (by kernel_rfl) rfl rfl rfl (gsat_none rfl) (by kernel_rfl) (E_move (Bo (bif y36.2 then (eqI y36.1 0) else false)) rfl (by kernel_rfl)) 136 rfl ?_
        refine DL_split (bif y36.2 then (eqI y36.1 0) else false) (fun hc44 => ?_) (fun hc44 => ?_)
        ·have hb46 := of_true hb46 hc44
         obtain ⟨y45, hy45, hb46⟩ := of_bind hb46
         have hb46 := some_inj hb46
         refine DE_0 6 (.ow 800) (by kernel_rfl) rfl rfl rfl (gsat_C (bif y36.2 then (eqI y36.1 0) else false) rfl rfl (by kernel_rfl) hc44) (by kernel_rfl) (E_move (.ow 800) rfl (by kernel_rfl)) 137 rfl ?_
         refine DE_1 7 (by kernel_rfl) rfl rfl rfl (gsat_C (bif y36.2 then (eqI y36.1 0) else false) rfl rfl (by kernel_rfl) hc44) (Y1_callS (s_laws_qSum hy45) cf_laws_qSum rfl (by kernel_rfl) rfl rfl) rfl rfl rfl 138 rfl ?_
         refine DE_0 8 (Bo (eqI y45 0)) (by kernel_rfl) rfl rfl rfl (gsat_C (bif y36.2 then (eqI y36.1 0) else false) rfl rfl (by kernel_rfl) hc44) (by kernel_rfl) (Y0_eqw (k := .i64) (a := y45) (b := 0) rfl (by kernel_rfl) (by kernel_rfl)) 139 rfl ?_
         refine DE_0 9 (Bo (b46)) (by kernel_rfl) rfl rfl rfl (gsat_none rfl) (by kernel_rfl) (Y0_pickTe (b := bif y36.2 then (eqI y36.1 0) else false) (p := eqI y45 0) rfl (by kernel_rfl) hc44 (by kernel_rfl) hb46) 140 rfl ?_
         refine DE_0 10 (Bo b46) (by kernel_rfl) rfl rfl rfl (gsat_none rfl) (by kernel_rfl) (E_move (Bo b46) rfl (by kernel_rfl)) 141 rfl ?_
         refine DL_split b46 (fun hc47 => ?_) (fun hc47 => ?_)
         ·have hb55 := of_true hb55 hc47
          obtain ⟨e48, he48, hb55⟩ := of_bind hb55
          obtain ⟨e49, he49, hb55⟩ := of_bind hb55
          obtain ⟨e50, he50, hb55⟩ := of_bind hb55
          obtain ⟨e51, he51, hb55⟩ := of_bind hb55
          obtain ⟨z52, hz52, hb55⟩ := of_bind hb55
          obtain ⟨e53, he53, hb55⟩ := of_bind hb55
          obtain ⟨e54, he54, hb55⟩ := of_bind hb55
          have hb55 := some_inj hb55
          refine DE_0 11 (.ow 760) (by kernel_rfl) rfl rfl rfl (gsat_C (b46) rfl rfl (by kernel_rfl) hc47) (by kernel_rfl) (E_move (.ow 760) rfl (by kernel_rfl)) 142 rfl ?_
          refine DE_0 12 (I i41) (by kernel_rfl) rfl rfl rfl (gsat_C (b46) rfl rfl (by kernel_rfl) hc47) (by kernel_rfl) (E_move (I i41) rfl (by kernel_rfl)) 143 rfl ?_
          refine DE_0 13 (.po 760 1 (Int.toNat (i41)) 0) (by kernel_rfl) rfl rfl rfl (gsat_C (b46) rfl rfl (by kernel_rfl) hc47) (by kernel_rfl) (Y0_idxoM (c := c3) (xs := y29.1) (v := e48) (id := 760) (T := 3) (sz := 1) (n := i41) Try.underlying28 sz3 rfl (by kernel_rfl) (by kernel_rfl) (by kernel_rfl) he48) 144 rfl ?_
          refine DE_0 14 (I e49) (by kernel_rfl) rfl rfl rfl (gsat_C (b46) rfl rfl (by kernel_rfl) hc47) (by kernel_rfl) (Y0_loado1 (c := c3) (xs := y29.1) (v := e49) (id := 760) (sz := 1) (T := 3) (off := 0) (n := i41) (d := Ti e49) (ds := []) sc3 rfl (by kernel_rfl) (by kernel_rfl) he49 (by kernel_rfl)) 145 rfl ?_
          refine DE_0 15 (.ow 760) (by kernel_rfl) rfl rfl rfl (gsat_C (b46) rfl rfl (by kernel_rfl) hc47) (by kernel_rfl) (E_move (.ow 760) rfl (by kernel_rfl)) 146 rfl ?_
          refine DE_0 16 (I j42) (by kernel_rfl) rfl rfl rfl (gsat_C (b46) rfl rfl (by kernel_rfl) hc47) (by kernel_rfl) (E_move (I j42) rfl (by kernel_rfl)) 147 rfl ?_
          refine DE_0 17 (.po 760 1 (Int.toNat (j42)) 0) (by kernel_rfl) rfl rfl rfl (gsat_C (b46) rfl rfl (by kernel_rfl) hc47) (by kernel_rfl) (Y0_idxoM (c := c3) (xs := y29.1) (v := e50) (id := 760) (T := 3) (sz := 1) (n := j42) Try.underlying28 sz3 rfl (by kernel_rfl) (by kernel_rfl) (by kernel_rfl) he50) 148 rfl ?_
          refine DE_0 18 (I e51) (by kernel_rfl) rfl rfl rfl (gsat_C (b46) rfl rfl (by kernel_rfl) hc47) (by kernel_rfl) (Y0_loado1 (c := c3) (xs := y29.1) (v := e51) (id := 760) (sz := 1) (T := 3) (off := 0) (n := j42) (d := Ti e51) (ds := []) sc3 rfl (by kernel_rfl) (by kernel_rfl) he51 (by kernel_rfl)) 149 rfl ?_
          refine DE_0 19 (I (w64 (e49 * e51))) (by kernel_rfl) rfl rfl rfl (gsat_C (b46) rfl rfl (by kernel_rfl) hc47) (by kernel_rfl) (Y0_mul64 (a := e49) (b := e51) rfl (by kernel_rfl) (by kernel_rfl)) 150 rfl ?_
          refine DE_0 20 (.ow 760) (by kernel_rfl) rfl rfl rfl (gsat_C (b46) rfl rfl (by kernel_rfl) hc47) (by kernel_rfl) (E_move (.ow 760) rfl (by kernel_rfl)) 151 rfl ?_
          refine DE_0 21 (I i41) (by kernel_rfl) rfl rfl rfl (gsat_C (b46) rfl rfl (by kernel_rfl) hc47) (by kernel_rfl) (E_move (I i41) rfl (by kernel_rfl)) 152 rfl ?_
          refine DE_0 22 (I j42) (by kernel_rfl) rfl rfl rfl (gsat_C (b46) rfl rfl (by kernel_rfl) hc47) (by kernel_rfl) (E_move (I j42) rfl (by kernel_rfl)) 153 rfl ?_
          refine DE_0 23 (I (w64 (i41 * j42))) (by kernel_rfl) rfl rfl rfl (gsat_C (b46) rfl rfl (by kernel_rfl) hc47) (by kernel_rfl) (Y0_mul64 (a := i41) (b := j42) rfl (by kernel_rfl) (by kernel_rfl)) 154 rfl ?_
          refine DE_0 24 (.ow 800) (by kernel_rfl) rfl rfl rfl (gsat_C (b46) rfl rfl (by kernel_rfl) hc47) (by kernel_rfl) (E_move (.ow 800) rfl (by kernel_rfl)) 155 rfl ?_
          refine DE_0 25 (I ((y30.1.length : Int))) (by kernel_rfl) rfl rfl rfl (gsat_C (b46) rfl rfl (by kernel_rfl) hc47) (by kernel_rfl) (Y0_lenM (c := c3) (xs := y30.1) Try.underlying28 rfl (by kernel_rfl)) 156 rfl ?_
          refine DE_0 26 (I (Int.tmod (w64 (i41 * j42)) ((y30.1.length : Int)))) (by kernel_rfl) rfl rfl rfl (gsat_C (b46) rfl rfl (by kernel_rfl) hc47) (by kernel_rfl) (Y0_rem (k := .i64) (a := w64 (i41 * j42)) (b := (y30.1.length : Int)) rfl (by kernel_rfl) (by kernel_rfl) (nz_some hz52)) 157 rfl ?_
          refine DE_0 27 (.po 760 1 (Int.toNat (Int.tmod (w64 (i41 * j42)) ((y30.1.length : Int)))) 0) (by kernel_rfl) rfl rfl rfl (gsat_C (b46) rfl rfl (by kernel_rfl) hc47) (by kernel_rfl) (Y0_idxoM (c := c3) (xs := y29.1) (v := e53) (id := 760) (T := 3) (sz := 1) (n := Int.tmod (w64 (i41 * j42)) ((y30.1.length : Int))) Try.underlying28 sz3 rfl (by kernel_rfl) (by kernel_rfl) (by kernel_rfl) he53) 158 rfl ?_
          refine DE_0 28 (I e54) (by kernel_rfl) rfl rfl rfl (gsat_C (b46) rfl rfl (by kernel_rfl) hc47) (by kernel_rfl) (Y0_loado1 (c := c3) (xs := y29.1) (v := e54) (id := 760) (sz := 1) (T := 3) (off := 0) (n := Int.tmod (w64 (i41 * j42)) ((y30.1.length : Int))) (d := Ti e54) (ds := []) sc3 rfl (by kernel_rfl) (by kernel_rfl) he54 (by kernel_rfl)) 159 rfl ?_
          refine DE_0 29 (Bo (eqI (w64 (e49 * e51)) e54)) (by kernel_rfl) rfl rfl rfl (gsat_C (b46) rfl rfl (by kernel_rfl) hc47) (by kernel_rfl) (Y0_eqw (k := .i64) (a := w64 (e49 * e51)) (b := e54) rfl (by kernel_rfl) (by kernel_rfl)) 160 rfl ?_
          refine DE_0 30 (Bo (b55)) (by kernel_rfl) rfl rfl rfl (gsat_none rfl) (by kernel_rfl) (Y0_pickTe (b := b46) (p := eqI (w64 (e49 * e51)) e54) rfl (by kernel_rfl) hc47 (by kernel_rfl) hb55) 161 rfl ?_
          refine DE_0 31 (Bo b55) (by kernel_rfl) rfl rfl rfl (gsat_none rfl) (by kernel_rfl) (E_assign (Bo b55) rfl (by kernel_rfl)) 4 rfl ?_
          refine DL_nil (by kernel_rfl) ?_
          refine XL_nil ?_
          kernel_rfl
         ·have hb55 := some_inj (of_false hb55 hc47)
          refine DE_t 11 (by kernel_rfl) rfl rfl rfl (gun_T (b46) rfl rfl (by kernel_rfl) hc47) 142 rfl ?_
          refine DE_t 12 (by kernel_rfl) rfl rfl rfl (gun_T (b46) rfl rfl (by kernel_rfl) hc47) 143 rfl ?_
          refine DE_t 13 (by kernel_rfl) rfl rfl rfl (gun_T (b46) rfl rfl (by kernel_rfl) hc47) 144 rfl ?_
          refine DE_t 14 (by kernel_rfl) rfl rfl rfl (gun_T (b46) rfl rfl (by kernel_rfl) hc47) 145 rfl ?_
          refine DE_t 15 (by kernel_rfl) rfl rfl rfl (gun_T (b46) rfl rfl (by kernel_rfl) hc47) 146 rfl ?_
          refine DE_t 16 (by kernel_rfl) rfl rfl rfl (gun_T (b46) rfl rfl (by kernel_rfl) hc47) 147 rfl ?_
          refine DE_t 17 (by kernel_rfl) rfl rfl rfl (gun_T (b46) rfl rfl (by kernel_rfl) hc47) 148 rfl ?_
          refine DE_t 18 (by kernel_rfl) rfl rfl rfl (gun_T (b46) rfl rfl (by kernel_rfl) hc47) 149 rfl ?_
          refine DE_t 19 (by kernel_rfl) rfl rfl rfl (gun_T (b46) rfl rfl (by kernel_rfl) hc47) 150 rfl ?_
          refine DE_t 20 (by kernel_rfl) rfl rfl rfl (gun_T (b46) rfl rfl (by kernel_rfl) hc47) 151 rfl ?_
          refine DE_t 21 (by kernel_rfl) rfl rfl rfl (gun_T (b46) rfl rfl (by kernel_rfl) hc47) 152 rfl ?_
          refine DE_t 22 (by kernel_rfl) rfl rfl rfl (gun_T (b46) rfl rfl (by kernel_rfl) hc47) 153 rfl ?_
          refine DE_t 23 (by kernel_rfl) rfl rfl rfl (gun_T (b46) rfl rfl (by kernel_rfl) hc47) 154 rfl ?_
          refine DE_t 24 (by kernel_rfl) rfl rfl rfl (gun_T (b46) rfl rfl (by kernel_rfl) hc47) 155 rfl ?_
          refine DE_t 25 (by kernel_rfl) rfl rfl rfl (gun_T (b46) rfl rfl (by kernel_rfl) hc47) 156 rfl ?_
          refine DE_t 26 (by kernel_rfl) rfl rfl rfl (gun_T (b46) rfl rfl (by kernel_rfl) hc47) 157 rfl ?_
          refine DE_t 27 (by kernel_rfl) rfl rfl rfl (gun_T (b46) rfl rfl (by kernel_rfl) hc47) 158 rfl ?_
          refine DE_t 28 (by kernel_rfl) rfl rfl rfl (gun_T (b46) rfl rfl (by kernel_rfl) hc47) 159 rfl ?_
          refine DE_t 29 (by kernel_rfl) rfl rfl rfl (gun_T (b46) rfl rfl (by kernel_rfl) hc47) 160 rfl ?_
          refine DE_0 30 (Bo (b55)) (by kernel_rfl) rfl rfl rfl (gsat_none rfl) (by kernel_rfl) (Y0_pickFe (b := b46) (p := false) rfl (by kernel_rfl) hc47 (by kernel_rfl) hb55) 161 rfl ?_
          refine DE_0 31 (Bo b55) (by kernel_rfl) rfl rfl rfl (gsat_none rfl) (by kernel_rfl) (E_assign (Bo b55) rfl (by kernel_rfl)) 4 rfl ?_
          refine DL_nil (by kernel_rfl) ?_
          refine XL_nil ?_
          kernel_rfl
        ·have hb46 := some_inj (of_false hb46 hc44)
         refine DE_t 6 (by kernel_rfl) rfl rfl rfl (gun_T (bif y36.2 then (eqI y36.1 0) else false) rfl rfl (by kernel_rfl) hc44) 137 rfl ?_
         refine DE_t 7 (by kernel_rfl) rfl rfl rfl (gun_T (bif y36.2 then (eqI y36.1 0) else false) rfl rfl (by kernel_rfl) hc44) 138 rfl ?_
         refine DE_t 8 (by kernel_rfl) rfl rfl rfl (gun_T (bif y36.2 then (eqI y36.1 0) else false) rfl rfl (by kernel_rfl) hc44) 139 rfl ?_
         refine DE_0 9 (Bo (b46)) (by kernel_rfl) rfl rfl rfl (gsat_none rfl) (by kernel_rfl) (Y0_pickFe (b := bif y36.2 then (eqI y36.1 0) else false) (p := false) rfl (by kernel_rfl) hc44 (by kernel_rfl) hb46) 140 rfl ?_
         refine DE_0 10 (Bo b46) (by kernel_rfl) rfl rfl rfl (gsat_none rfl) (by kernel_rfl) (E_move (Bo b46) rfl (by kernel_rfl)) 141 rfl ?_
         refine DL_split b46 (fun hc47 => ?_) (fun hc47 => ?_)
         ·have hb55 := of_true hb55 hc47
          obtain ⟨e48, he48, hb55⟩ := of_bind hb55
          obtain ⟨e49, he49, hb55⟩ := of_bind hb55
          obtain ⟨e50, he50, hb55⟩ := of_bind hb55
          obtain ⟨e51, he51, hb55⟩ := of_bind hb55
          obtain ⟨z52, hz52, hb55⟩ := of_bind hb55
          obtain ⟨e53, he53, hb55⟩ := of_bind hb55
          obtain ⟨e54, he54, hb55⟩ := of_bind hb55
          have hb55 := some_inj hb55
          refine DE_0 11 (.ow 760) (by kernel_rfl) rfl rfl rfl (gsat_C (b46) rfl rfl (by kernel_rfl) hc47) (by kernel_rfl) (E_move (.ow 760) rfl (by kernel_rfl)) 142 rfl ?_
          refine DE_0 12 (I i41) (by kernel_rfl) rfl rfl rfl (gsat_C (b46) rfl rfl (by kernel_rfl) hc47) (by kernel_rfl) (E_move (I i41) rfl (by kernel_rfl)) 143 rfl ?_
          refine DE_0 13 (.po 760 1 (Int.toNat (i41)) 0) (by kernel_rfl) rfl rfl rfl (gsat_C (b46) rfl rfl (by kernel_rfl) hc47) (by kernel_rfl) (Y0_idxoM (c := c3) (xs := y29.1) (v := e48) (id := 760) (T := 3) (sz := 1) (n := i41) Try.underlying28 sz3 rfl (by kernel_rfl) (by kernel_rfl) (by kernel_rfl) he48) 144 rfl ?_
          refine DE_0 14 (I e49) (by kernel_rfl) rfl rfl rfl (gsat_C (b46) rfl rfl (by kernel_rfl) hc47) (by kernel_rfl) (Y0_loado1 (c := c3) (xs := y29.1) (v := e49) (id := 760) (sz := 1) (T := 3) (off := 0) (n := i41) (d := Ti e49) (ds := []) sc3 rfl (by kernel_rfl) (by kernel_rfl) he49 (by kernel_rfl)) 145 rfl ?_
          refine DE_0 15 (.ow 760) (by kernel_rfl) rfl rfl rfl (gsat_C (b46) rfl rfl (by kernel_rfl) hc47) (by kernel_rfl) (E_move (.ow 760) rfl (by kernel_rfl)) 146 rfl ?_
          refine DE_0 16 (I j42) (by kernel_rfl) rfl rfl rfl (gsat_C (b46) rfl rfl (by kernel_rfl) hc47) (by kernel_rfl) (E_move (I j42) rfl (by kernel_rfl)) 147 rfl ?_
          refine DE_0 17 (.po 760 1 (Int.toNat (j42)) 0) (by kernel_rfl) rfl rfl rfl (gsat_C (b46) rfl rfl (by kernel_rfl) hc47) (by kernel_rfl) (Y0_idxoM (c := c3) (xs := y29.1) (v := e50) (id := 760) (T := 3) (sz := 1) (n := j42) Try.underlying28 sz3 rfl (by kernel_rfl) (by kernel_rfl) (by kernel_rfl) he50) 148 rfl ?_
          refine DE_0 18 (I e51) (by kernel_rfl) rfl rfl rfl (gsat_C (b46) rfl rfl (by kernel_rfl) hc47) (by kernel_rfl) (Y0_loado1 (c := c3) (xs := y29.1) (v := e51) (id := 760) (sz := 1) (T := 3) (off := 0) (n := j42) (d := Ti e51) (ds := []) sc3 rfl (by kernel_rfl) (by kernel_rfl) he51 (by kernel_rfl)) 149 rfl ?_
          refine DE_0 19 (I (w64 (e49 * e51))) (by kernel_rfl) rfl rfl rfl (gsat_C (b46) rfl rfl (by kernel_rfl) hc47) (by kernel_rfl) (Y0_mul64 (a := e49) (b := e51) rfl (by kernel_rfl) (by kernel_rfl)) 150 rfl ?_
          refine DE_0 20 (.ow 760) (by kernel_rfl) rfl rfl rfl (gsat_C (b46) rfl rfl (by kernel_rfl) hc47) (by kernel_rfl) (E_move (.ow 760) rfl (by kernel_rfl)) 151 rfl ?_
          refine DE_0 21 (I i41) (by kernel_rfl) rfl rfl rfl (gsat_C (b46) rfl rfl (by kernel_rfl) hc47) (by kernel_rfl) (E_move (I i41) rfl (by kernel_rfl)) 152 rfl ?_
          refine DE_0 22 (I j42) (by kernel_rfl) rfl rfl rfl (gsat_C (b46) rfl rfl (by kernel_rfl) hc47) (by kernel_rfl) (E_move (I j42) rfl (by kernel_rfl)) 153 rfl ?_
          refine DE_0 23 (I (w64 (i41 * j42))) (by kernel_rfl) rfl rfl rfl (gsat_C (b46) rfl rfl (by kernel_rfl) hc47) (by kernel_rfl) (Y0_mul64 (a := i41) (b := j42) rfl (by kernel_rfl) (by kernel_rfl)) 154 rfl ?_
          refine DE_0 24 (.ow 800) (by kernel_rfl) rfl rfl rfl (gsat_C (b46) rfl rfl (by kernel_rfl) hc47) (by kernel_rfl) (E_move (.ow 800) rfl (by kernel_rfl)) 155 rfl ?_
          refine DE_0 25 (I ((y30.1.length : Int))) (by kernel_rfl) rfl rfl rfl (gsat_C (b46) rfl rfl (by kernel_rfl) hc47) (by kernel_rfl) (Y0_lenM (c := c3) (xs := y30.1) Try.underlying28 rfl (by kernel_rfl)) 156 rfl ?_
          refine DE_0 26 (I (Int.tmod (w64 (i41 * j42)) ((y30.1.length : Int)))) (by kernel_rfl) rfl rfl rfl (gsat_C (b46) rfl rfl (by kernel_rfl) hc47) (by kernel_rfl) (Y0_rem (k := .i64) (a := w64 (i41 * j42)) (b := (y30.1.length : Int)) rfl (by kernel_rfl) (by kernel_rfl) (nz_some hz52)) 157 rfl ?_
          refine DE_0 27 (.po 760 1 (Int.toNat (Int.tmod (w64 (i41 * j42)) ((y30.1.length : Int)))) 0) (by kernel_rfl) rfl rfl rfl (gsat_C (b46) rfl rfl (by kernel_rfl) hc47) (by kernel_rfl) (Y0_idxoM (c := c3) (xs := y29.1) (v := e53) (id := 760) (T := 3) (sz := 1) (n := Int.tmod (w64 (i41 * j42)) ((y30.1.length : Int))) Try.underlying28 sz3 rfl (by kernel_rfl) (by kernel_rfl) (by kernel_rfl) he53) 158 rfl ?_
          refine DE_0 28 (I e54) (by kernel_rfl) rfl rfl rfl (gsat_C (b46) rfl rfl (by kernel_rfl) hc47) (by kernel_rfl) (Y0_loado1 (c := c3) (xs := y29.1) (v := e54) (id := 760) (sz := 1) (T := 3) (off := 0) (n := Int.tmod (w64 (i41 * j42)) ((y30.1.length : Int))) (d := Ti e54) (ds := []) sc3 rfl (by kernel_rfl) (by kernel_rfl) he54 (by kernel_rfl)) 159 rfl ?_
          refine DE_0 29 (Bo (eqI (w64 (e49 * e51)) e54)) (by kernel_rfl) rfl rfl rfl (gsat_C (b46) rfl rfl (by kernel_rfl) hc47) (by kernel_rfl) (Y0_eqw (k := .i64) (a := w64 (e49 * e51)) (b := e54) rfl (by kernel_rfl) (by kernel_rfl)) 160 rfl ?_
          refine DE_0 30 (Bo (b55)) (by kernel_rfl) rfl rfl rfl (gsat_none rfl) (by kernel_rfl) (Y0_pickTe (b := b46) (p := eqI (w64 (e49 * e51)) e54) rfl (by kernel_rfl) hc47 (by kernel_rfl) hb55) 161 rfl ?_
          refine DE_0 31 (Bo b55) (by kernel_rfl) rfl rfl rfl (gsat_none rfl) (by kernel_rfl) (E_assign (Bo b55) rfl (by kernel_rfl)) 4 rfl ?_
          refine DL_nil (by kernel_rfl) ?_
          refine XL_nil ?_
          kernel_rfl
         ·have hb55 := some_inj (of_false hb55 hc47)
          refine DE_t 11 (by kernel_rfl) rfl rfl rfl (gun_T (b46) rfl rfl (by kernel_rfl) hc47) 142 rfl ?_
          refine DE_t 12 (by kernel_rfl) rfl rfl rfl (gun_T (b46) rfl rfl (by kernel_rfl) hc47) 143 rfl ?_
          refine DE_t 13 (by kernel_rfl) rfl rfl rfl (gun_T (b46) rfl rfl (by kernel_rfl) hc47) 144 rfl ?_
          refine DE_t 14 (by kernel_rfl) rfl rfl rfl (gun_T (b46) rfl rfl (by kernel_rfl) hc47) 145 rfl ?_
          refine DE_t 15 (by kernel_rfl) rfl rfl rfl (gun_T (b46) rfl rfl (by kernel_rfl) hc47) 146 rfl ?_
          refine DE_t 16 (by kernel_rfl) rfl rfl rfl (gun_T (b46) rfl rfl (by kernel_rfl) hc47) 147 rfl ?_
          refine DE_t 17 (by kernel_rfl) rfl rfl rfl (gun_T (b46) rfl rfl (by kernel_rfl) hc47) 148 rfl ?_
          refine DE_t 18 (by kernel_rfl) rfl rfl rfl (gun_T (b46) rfl rfl (by kernel_rfl) hc47) 149 rfl ?_
          refine DE_t 19 (by kernel_rfl) rfl rfl rfl (gun_T (b46) rfl rfl (by kernel_rfl) hc47) 150 rfl ?_
          refine DE_t 20 (by kernel_rfl) rfl rfl rfl (gun_T (b46) rfl rfl (by kernel_rfl) hc47) 151 rfl ?_
          refine DE_t 21 (by kernel_rfl) rfl rfl rfl (gun_T (b46) rfl rfl (by kernel_rfl) hc47) 152 rfl ?_
          refine DE_t 22 (by kernel_rfl) rfl rfl rfl (gun_T (b46) rfl rfl (by kernel_rfl) hc47) 153 rfl ?_
          refine DE_t 23 (by kernel_rfl) rfl rfl rfl (gun_T (b46) rfl rfl (by kernel_rfl) hc47) 154 rfl ?_
          refine DE_t 24 (by kernel_rfl) rfl rfl rfl (gun_T (b46) rfl rfl (by kernel_rfl) hc47) 155 rfl ?_
          refine DE_t 25 (by kernel_rfl) rfl rfl rfl (gun_T (b46) rfl rfl (by kernel_rfl) hc47) 156 rfl ?_
          refine DE_t 26 (by kernel_rfl) rfl rfl rfl (gun_T (b46) rfl rfl (by kernel_rfl) hc47) 157 rfl ?_
          refine DE_t 27 (by kernel_rfl) rfl rfl rfl (gun_T (b46) rfl rfl (by kernel_rfl) hc47) 158 rfl ?_
          refine DE_t 28 (by kernel_rfl) rfl rfl rfl (gun_T (b46) rfl rfl (by kernel_rfl) hc47) 159 rfl ?_
          refine DE_t 29 (by kernel_rfl) rfl rfl rfl (gun_T (b46) rfl rfl (by kernel_rfl) hc47) 160 rfl ?_
          refine DE_0 30 (Bo (b55)) (by kernel_rfl) rfl rfl rfl (gsat_none rfl) (by kernel_rfl) (Y0_pickFe (b := b46) (p := false) rfl (by kernel_rfl) hc47 (by kernel_rfl) hb55) 161 rfl ?_
          refine DE_0 31 (Bo b55) (by kernel_rfl) rfl rfl rfl (gsat_none rfl) (by kernel_rfl) (E_assign (Bo b55) rfl (by kernel_rfl)) 4 rfl ?_
          refine DL_nil (by kernel_rfl) ?_
          refine XL_nil ?_
          kernel_rfl
      refine V_ret ?_
      obtain rfl := some_inj h
      show Post _ _ _ _ _
      exact ⟨.inr rfl, rfl, rfl, rfl⟩
     ·have h := of_false h hc35
      refine V_skip ?_
      show V _ _ _ _
      refine V_sreg (mb 162 16) [] (s1 := ⟨bt 4 (Bo true :: bt 157 []), []⟩) ?_ ?_
      ·refine L0 rfl rfl (E_assign (Bo true) rfl (by kernel_rfl)) ?_
       refine XL_nil ?_
       kernel_rfl
      refine V_ret ?_
      obtain rfl := some_inj h
      show Post _ _ _ _ _
      exact ⟨.inr rfl, rfl, rfl, rfl⟩
end Go.Proofs.Ytpfnhgpepgeaiaa
