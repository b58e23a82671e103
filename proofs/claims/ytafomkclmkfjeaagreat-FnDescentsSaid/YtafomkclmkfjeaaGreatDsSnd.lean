/-
  The functions of the program compute what the plain functions say: more of them.
  Conditions: none.
-/
import Derived.Test.YtafomkclmkfjeaaGreatDsSnd3
namespace Go.Proofs.YtafomkclmkfjeaaGreat
open Go.RowKit
set_option linter.unusedVariables false
set_option linter.unusedSimpArgs false
set_option maxRecDepth 100000
set_option maxHeartbeats 400000
theorem cf_laws_FnDescents : ∀ args w, (callFunc 3 args).run Tryz.prog w = .ok (.enter 3 args) w := run_callFunc Tryz.func3 (by kernel_rfl) (by kernel_rfl)
theorem s_laws_FnDescents {code1 : List Int} {more2 : List Int} {r : Bool} (h : r_laws_FnDescents code1 more2 = some r) : CallS Tryz.prog 3 [.c (.sl (code1.map c5)), .c (.sl (more2.map c5))] (Bo r) [] := by
  refine CallS_of_text (rs := [.t 4]) (vs := [.tmp 4]) Tryz.func3 rfl rfl (.cons rfl FitsL.nil) (by decide) 147 rfl ?_
  unfold r_laws_FnDescents at h
  show V _ _ ⟨.c (.sl (code1.map c5)) :: .c (.sl (more2.map c5)) :: bt 145 [], []⟩ _
  refine V_e (mb 147 3) [] (s1 := ⟨.c (.sl (code1.map c5)) :: .c (.sl (more2.map c5)) :: bt 145 [], []⟩) ?_
  refine V_seq ?_
  obtain ⟨y3, hy3, h⟩ := of_bind h
  refine V_sreg (mb 147 1073741827) [] (s1 := ⟨.c (.sl (code1.map c5)) :: .c (.sl (more2.map c5)) :: bt 28 (Bo y3 :: bt 116 []), []⟩) ?_ ?_
  ·refine XR 2 ?_
   refine XC (s_laws_big hy3) cf_laws_big rfl rfl rfl ?_
   exact XE
  refine V_cond rfl (fun hc4 => ?_) (fun hc4 => ?_)
  ·have h := of_true h hc4
   refine V_e (mb 147 16) [] (s1 := ⟨bt 4 (Bo true :: bt 142 []), []⟩) ?_
   refine V_ret ?_
   obtain rfl := some_inj h
   show Post _ _ _ _ _
   exact ⟨.inr rfl, rfl, rfl, rfl⟩
  ·have h := of_false h hc4
   refine V_skip ?_
   show V _ _ _ _
   obtain ⟨y5, hy5, h⟩ := of_bind h
   refine V_sreg (mb 147 98) [40] (s1 := ⟨.bot :: .c (.sl (more2.map c5)) :: bt 3 (.pt 40 0 :: I y5.2 :: bt 140 []), [(40, .box [Ti y5.1.1, Ti y5.1.2.1, Ti y5.1.2.2])]⟩) ?_ ?_
   ·refine XR 1 ?_
    refine XC (s_spec_DrawDescendForm hy5) cf_spec_DrawDescendForm rfl rfl rfl ?_
    exact XE
   obtain ⟨y6, hy6, h⟩ := of_bind h
   refine V_sreg (mb 147 482) [56, 40] (s1 := ⟨.bot :: .c (.sl (more2.map c5)) :: bt 3 (.pt 40 0 :: I y5.2 :: .pt 56 0 :: Bo y6.2 :: bt 138 []), [(56, .box [Ti y6.1.1, Ti y6.1.2.1, Ti y6.1.2.2]), (40, .box [Ti y5.1.1, Ti y5.1.2.1, Ti y5.1.2.2])]⟩) ?_ ?_
   ·refine XR 2 ?_
    refine XC (s_impl_DescendForm hy6) cf_impl_DescendForm rfl rfl rfl ?_
    exact XE
   obtain ⟨y7, hy7, h⟩ := of_bind h
   refine V_sreg (mb 147 2018) [72, 56, 40] (s1 := ⟨.bot :: .c (.sl (more2.map c5)) :: bt 3 (.pt 40 0 :: I y5.2 :: .pt 56 0 :: Bo y6.2 :: .pt 72 0 :: Bo y7.2 :: bt 136 []), [(72, .box [Ti y7.1.1, Ti y7.1.2.1, Ti y7.1.2.2]), (56, .box [Ti y6.1.1, Ti y6.1.2.1, Ti y6.1.2.2]), (40, .box [Ti y5.1.1, Ti y5.1.2.1, Ti y5.1.2.2])]⟩) ?_ ?_
   ·refine XR 2 ?_
    refine XC (s_spec_DescendForm hy7) cf_spec_DescendForm rfl rfl rfl ?_
    exact XE
   refine V_seq ?_
   obtain ⟨t9, ht9, h⟩ := of_bind h
   have ht9 := some_inj ht9
   refine V_sreg (mb 147 36028797018964450) [56, 40] (s1 := ⟨.bot :: .c (.sl (more2.map c5)) :: bt 3 (.pt 40 0 :: I y5.2 :: .pt 56 0 :: Bo y6.2 :: bt 46 (Bo t9 :: bt 91 [])), [(56, .box [Ti y6.1.1, Ti y6.1.2.1, Ti y6.1.2.2]), (40, .box [Ti y5.1.1, Ti y5.1.2.1, Ti y5.1.2.2])]⟩) ?_ ?_
   ·refine XR 2 ?_
    refine L0 rfl rfl (Y0_neb (a := y6.2) (b := y7.2) Tryz.underlying4 rfl (by kernel_rfl) (by kernel_rfl)) ?_
    refine XR 1 ?_
    refine XL_split (y6.2 != y7.2) (fun hc8 => ?_) (fun hc8 => ?_)
    ·refine XL_skipF _ rfl rfl (by kernel_rfl) hc8 rfl ?_
     refine XL_skipF _ rfl rfl (by kernel_rfl) hc8 rfl ?_
     refine XL_skipF _ rfl rfl (by kernel_rfl) hc8 rfl ?_
     refine XL_cons rfl (X_of_Y0 rfl (Y0_pick1 (b := y6.2 != y7.2) (p := true) (q := !((y6.1.1 == y7.1.1) && ((y6.1.2.1 == y7.1.2.1) && (y6.1.2.2 == y7.1.2.2)))) rfl (by kernel_rfl) hc8 (by kernel_rfl))) ?_
     refine XL_nil ?_
     subst ht9
     kernel_rfl
    ·refine XL_takeC _ rfl rfl (by kernel_rfl) hc8 (X_of_Y0 rfl (E_loadn (cs := [Ti y6.1.1, Ti y6.1.2.1, Ti y6.1.2.2]) [Ti y6.1.1, Ti y6.1.2.1, Ti y6.1.2.2] wd25 rfl (by kernel_rfl) (Nat.le_of_ble_eq_true rfl) (by kernel_rfl))) ?_
     refine XL_takeC _ rfl rfl (by kernel_rfl) hc8 (X_of_Y0 rfl (E_loadn (cs := [Ti y7.1.1, Ti y7.1.2.1, Ti y7.1.2.2]) [Ti y7.1.1, Ti y7.1.2.1, Ti y7.1.2.2] wd25 rfl (by kernel_rfl) (Nat.le_of_ble_eq_true rfl) (by kernel_rfl))) ?_
     refine XL_takeC _ rfl rfl (by kernel_rfl) hc8 (X_of_Y0 rfl (Y0_neg3 (a0 := y6.1.1) (b0 := y7.1.1) (a1 := y6.1.2.1) (b1 := y7.1.2.1) (a2 := y6.1.2.2) (b2 := y7.1.2.2) neg25 rfl (by kernel_rfl) (by kernel_rfl))) ?_
     refine XL_cons rfl (X_of_Y0 rfl (Y0_pick0 (b := y6.2 != y7.2) (p := true) (q := !((y6.1.1 == y7.1.1) && ((y6.1.2.1 == y7.1.2.1) && (y6.1.2.2 == y7.1.2.2)))) rfl (by kernel_rfl) hc8 (by kernel_rfl))) ?_
     refine XL_nil ?_
     subst ht9
     kernel_rfl
   refine V_cond rfl (fun hc10 => ?_) (fun hc10 => ?_)
   ·have h := of_true h hc10
    refine V_e (mb 147 16) [] (s1 := ⟨bt 4 (Bo false :: bt 142 []), []⟩) ?_
    refine V_ret ?_
    obtain rfl := some_inj h
    show Post _ _ _ _ _
    exact ⟨.inr rfl, rfl, rfl, rfl⟩
   ·have h := of_false h hc10
    refine V_skip ?_
    show V _ _ _ _
    refine V_seq ?_
    refine V_e (mb 147 144115188075856098) [56, 40] (s1 := ⟨.bot :: .c (.sl (more2.map c5)) :: bt 3 (.pt 40 0 :: I y5.2 :: .pt 56 0 :: bt 49 (Bo (!y6.2) :: bt 89 [])), [(56, .box [Ti y6.1.1, Ti y6.1.2.1, Ti y6.1.2.2]), (40, .box [Ti y5.1.1, Ti y5.1.2.1, Ti y5.1.2.2])]⟩) ?_
    refine V_cond rfl (fun hc11 => ?_) (fun hc11 => ?_)
    ·have h := of_true h hc11
     refine V_e (mb 147 16) [] (s1 := ⟨bt 4 (Bo true :: bt 142 []), []⟩) ?_
     refine V_ret ?_
     obtain rfl := some_inj h
     show Post _ _ _ _ _
     exact ⟨.inr rfl, rfl, rfl, rfl⟩
    ·have h := of_false h hc11
     refine V_skip ?_
     show V _ _ _ _
     obtain ⟨y12, hy12, h⟩ := of_bind h
     refine V_sreg (mb 147 6370) [88, 56, 40] (s1 := ⟨.bot :: .c (.sl (more2.map c5)) :: bt 3 (.pt 40 0 :: I y5.2 :: .pt 56 0 :: bt 3 (.pt 88 0 :: Bo y12.2 :: bt 134 [])), [(88, .box [Ti y12.1.1, Ti y12.1.2.1, Ti y12.1.2.2.1, Ti y12.1.2.2.2]), (56, .box [Ti y6.1.1, Ti y6.1.2.1, Ti y6.1.2.2]), (40, .box [Ti y5.1.1, Ti y5.1.2.1, Ti y5.1.2.2])]⟩) ?_ ?_
     ·refine XR 2 ?_
      refine XC (s_impl_DescentMatrix hy12) cf_impl_DescentMatrix rfl rfl rfl ?_
      exact XE
     obtain ⟨qo13, hLo13, hko13⟩ := of_bind h
     clear h
     refine V_cutS (q := qo13) (S := fun o13 => ⟨.bot :: .c (.sl (more2.map c5)) :: bt 3 (.pt 40 0 :: I y5.2 :: .pt 56 0 :: bt 139 []), [(56, .box [Ti y6.1.1, Ti y6.1.2.1, Ti y6.1.2.2]), (40, .box [Ti y5.1.1, Ti y5.1.2.1, Ti y5.1.2.2])]⟩) (mb 147 226) [56, 40] ?_ ?_
     ·have h := hLo13
      clear hLo13
      refine V_e (mb 147 18446744073709553890) [88, 56, 40] (s1 := ⟨.bot :: .c (.sl (more2.map c5)) :: bt 3 (.pt 40 0 :: I y5.2 :: .pt 56 0 :: bt 3 (.pt 88 0 :: bt 52 (Bo y12.2 :: bt 82 []))), [(88, .box [Ti y12.1.1, Ti y12.1.2.1, Ti y12.1.2.2.1, Ti y12.1.2.2.2]), (56, .box [Ti y6.1.1, Ti y6.1.2.1, Ti y6.1.2.2]), (40, .box [Ti y5.1.1, Ti y5.1.2.1, Ti y5.1.2.2])]⟩) ?_
      refine V_cond rfl (fun hc14 => ?_) (fun hc14 => ?_)
      ·have h := of_true h hc14
       obtain ⟨y15, hy15, h⟩ := of_bind h
       refine V_sreg (mb 147 24802) [56, 40] (s1 := ⟨.bot :: .c (.sl (more2.map c5)) :: bt 3 (.pt 40 0 :: I y5.2 :: .pt 56 0 :: bt 5 (Bo y15.1 :: Bo y15.2 :: bt 132 [])), [(56, .box [Ti y6.1.1, Ti y6.1.2.1, Ti y6.1.2.2]), (40, .box [Ti y5.1.1, Ti y5.1.2.1, Ti y5.1.2.2])]⟩) ?_ ?_
       ·refine XR 4 ?_
        refine XC (s_impl_IsDescent hy15) cf_impl_IsDescent rfl rfl rfl ?_
        exact XE
       refine V_sreg (mb 147 302231454903657293676770) [56, 40] (s1 := ⟨.bot :: .c (.sl (more2.map c5)) :: bt 3 (.pt 40 0 :: I y5.2 :: .pt 56 0 :: bt 70 (Bo (bif (!y15.2) then true else (!y15.1)) :: bt 68 [])), [(56, .box [Ti y6.1.1, Ti y6.1.2.1, Ti y6.1.2.2]), (40, .box [Ti y5.1.1, Ti y5.1.2.1, Ti y5.1.2.2])]⟩) ?_ ?_
       ·refine XR 3 ?_
        refine XL_split (!y15.2) (fun hc16 => ?_) (fun hc16 => ?_)
        ·refine XL_skipF _ rfl rfl (by kernel_rfl) hc16 rfl ?_
         refine XL_skipF _ rfl rfl (by kernel_rfl) hc16 rfl ?_
         refine XL_cons rfl (X_of_Y0 rfl (Y0_pick1 (b := !y15.2) (p := true) (q := !y15.1) rfl (by kernel_rfl) hc16 (by kernel_rfl))) ?_
         exact XE
        ·refine XL_takeC _ rfl rfl (by kernel_rfl) hc16 (X_of_Y0 rfl (E_move (Bo y15.1) rfl (by kernel_rfl))) ?_
         refine XL_takeC _ rfl rfl (by kernel_rfl) hc16 (X_of_Y0 rfl (Y0_not (b := y15.1) rfl (by kernel_rfl))) ?_
         refine XL_cons rfl (X_of_Y0 rfl (Y0_pick0 (b := !y15.2) (p := true) (q := !y15.1) rfl (by kernel_rfl) hc16 (by kernel_rfl))) ?_
         exact XE
       refine V_cond rfl (fun hc17 => ?_) (fun hc17 => ?_)
       ·have h := of_true h hc17
        refine V_e (mb 147 16) [] (s1 := ⟨bt 4 (Bo false :: bt 142 []), []⟩) ?_
        refine V_ret ?_
        obtain rfl := some_inj h
        have h := hko13
        obtain rfl := some_inj h
        show Post _ _ _ _ _
        exact ⟨.inr rfl, rfl, rfl, rfl⟩
       ·have h := of_false h hc17
        refine V_skip ?_
        obtain rfl := some_inj h
        exact ⟨_, rfl, by rfl⟩
      ·have h := of_false h hc14
       refine V_skip ?_
       obtain rfl := some_inj h
       exact ⟨_, rfl, by rfl⟩
     rintro o13 rfl
     have h := hko13
     clear hko13
     obtain ⟨y18, hy18, h⟩ := of_bind h
     refine V_sreg (mb 147 98530) [56, 40] (s1 := ⟨.bot :: .c (.sl (more2.map c5)) :: bt 3 (.pt 40 0 :: I y5.2 :: .pt 56 0 :: bt 7 (I y18.1 :: Bo y18.2 :: bt 130 [])), [(56, .box [Ti y6.1.1, Ti y6.1.2.1, Ti y6.1.2.2]), (40, .box [Ti y5.1.1, Ti y5.1.2.1, Ti y5.1.2.2])]⟩) ?_ ?_
     ·refine XR 1 ?_
      refine XC (s_impl_Discriminant hy18) cf_impl_Discriminant rfl rfl rfl ?_
      exact XE
     obtain ⟨y19, hy19, h⟩ := of_bind h
     refine V_sreg (mb 147 458978) [688, 56, 40] (s1 := ⟨.bot :: .c (.sl (more2.map c5)) :: bt 3 (.pt 40 0 :: I y5.2 :: .pt 56 0 :: bt 8 (Bo y18.2 :: .ow 688 :: Bo y19.2 :: bt 128 [])), [(688, .arr 25 3 (y19.1.map c25)), (56, .box [Ti y6.1.1, Ti y6.1.2.1, Ti y6.1.2.2]), (40, .box [Ti y5.1.1, Ti y5.1.2.1, Ti y5.1.2.2])]⟩) ?_ ?_
     ·refine XR 1 ?_
      refine XC (s_impl_ReducedForms hy19) cf_impl_ReducedForms rfl rfl rfl ?_
      exact XE
     refine V_seq ?_
     obtain ⟨t22, ht22, h⟩ := of_bind h
     have ht22 := some_inj ht22
     refine V_sreg (mb 147 633825300114114700748351733986) [688, 56, 40] (s1 := ⟨.bot :: .c (.sl (more2.map c5)) :: bt 3 (.pt 40 0 :: I y5.2 :: .pt 56 0 :: bt 9 (.ow 688 :: bt 81 (Bo t22 :: bt 47 []))), [(688, .arr 25 3 (y19.1.map c25)), (56, .box [Ti y6.1.1, Ti y6.1.2.1, Ti y6.1.2.2]), (40, .box [Ti y5.1.1, Ti y5.1.2.1, Ti y5.1.2.2])]⟩) ?_ ?_
     ·refine XR 3 ?_
      refine XL_split (!y18.2) (fun hc20 => ?_) (fun hc20 => ?_)
      ·refine XL_skipF _ rfl rfl (by kernel_rfl) hc20 rfl ?_
       refine XL_skipF _ rfl rfl (by kernel_rfl) hc20 rfl ?_
       refine XL_cons rfl (X_of_Y0 rfl (Y0_pick1 (b := !y18.2) (p := true) (q := !y19.2) rfl (by kernel_rfl) hc20 (by kernel_rfl))) ?_
       refine XR 1 ?_
       refine XL_split (bif (!y18.2) then true else (!y19.2)) (fun hc21 => ?_) (fun hc21 => ?_)
       ·refine XL_skipF _ rfl rfl (by kernel_rfl) hc21 rfl ?_
        refine XL_skipF _ rfl rfl (by kernel_rfl) hc21 rfl ?_
        refine XL_skipF _ rfl rfl (by kernel_rfl) hc21 rfl ?_
        refine XL_cons rfl (X_of_Y0 rfl (Y0_pick1 (b := bif (!y18.2) then true else (!y19.2)) (p := true) (q := eqI ((y19.1.length : Int)) 0) rfl (by kernel_rfl) hc21 (by kernel_rfl))) ?_
        refine XL_nil ?_
        subst ht22
        kernel_rfl
       ·refine XL_takeC _ rfl rfl (by kernel_rfl) hc21 (X_of_Y0 rfl (E_move (.ow 688) rfl (by kernel_rfl))) ?_
        refine XL_takeC _ rfl rfl (by kernel_rfl) hc21 (X_of_Y0 rfl (Y0_lenM (c := c25) (xs := y19.1) Tryz.underlying38 rfl (by kernel_rfl))) ?_
        refine XL_takeC _ rfl rfl (by kernel_rfl) hc21 (X_of_Y0 rfl (Y0_eqw (k := .i64) (a := (y19.1.length : Int)) (b := 0) rfl (by kernel_rfl) (by kernel_rfl))) ?_
        refine XL_cons rfl (X_of_Y0 rfl (Y0_pick0 (b := bif (!y18.2) then true else (!y19.2)) (p := true) (q := eqI ((y19.1.length : Int)) 0) rfl (by kernel_rfl) hc21 (by kernel_rfl))) ?_
        refine XL_nil ?_
        subst ht22
        kernel_rfl
      ·refine XL_takeC _ rfl rfl (by kernel_rfl) hc20 (X_of_Y0 rfl (E_move (Bo y19.2) rfl (by kernel_rfl))) ?_
       refine XL_takeC _ rfl rfl (by kernel_rfl) hc20 (X_of_Y0 rfl (Y0_not (b := y19.2) rfl (by kernel_rfl))) ?_
       refine XL_cons rfl (X_of_Y0 rfl (Y0_pick0 (b := !y18.2) (p := true) (q := !y19.2) rfl (by kernel_rfl) hc20 (by kernel_rfl))) ?_
       refine XR 1 ?_
       refine XL_split (bif (!y18.2) then true else (!y19.2)) (fun hc21 => ?_) (fun hc21 => ?_)
       ·refine XL_skipF _ rfl rfl (by kernel_rfl) hc21 rfl ?_
        refine XL_skipF _ rfl rfl (by kernel_rfl) hc21 rfl ?_
        refine XL_skipF _ rfl rfl (by kernel_rfl) hc21 rfl ?_
        refine XL_cons rfl (X_of_Y0 rfl (Y0_pick1 (b := bif (!y18.2) then true else (!y19.2)) (p := true) (q := eqI ((y19.1.length : Int)) 0) rfl (by kernel_rfl) hc21 (by kernel_rfl))) ?_
        refine XL_nil ?_
        subst ht22
        kernel_rfl
       ·refine XL_takeC _ rfl rfl (by kernel_rfl) hc21 (X_of_Y0 rfl (E_move (.ow 688) rfl (by kernel_rfl))) ?_
        refine XL_takeC _ rfl rfl (by kernel_rfl) hc21 (X_of_Y0 rfl (Y0_lenM (c := c25) (xs := y19.1) Tryz.underlying38 rfl (by kernel_rfl))) ?_
        refine XL_takeC _ rfl rfl (by kernel_rfl) hc21 (X_of_Y0 rfl (Y0_eqw (k := .i64) (a := (y19.1.length : Int)) (b := 0) rfl (by kernel_rfl) (by kernel_rfl))) ?_
        refine XL_cons rfl (X_of_Y0 rfl (Y0_pick0 (b := bif (!y18.2) then true else (!y19.2)) (p := true) (q := eqI ((y19.1.length : Int)) 0) rfl (by kernel_rfl) hc21 (by kernel_rfl))) ?_
        refine XL_nil ?_
        subst ht22
        kernel_rfl
     refine V_cond rfl (fun hc23 => ?_) (fun hc23 => ?_)
     ·have h := of_true h hc23
      refine V_e (mb 147 16) [] (s1 := ⟨bt 4 (Bo false :: bt 142 []), []⟩) ?_
      refine V_ret ?_
      obtain rfl := some_inj h
      show Post _ _ _ _ _
      exact ⟨.inr rfl, rfl, rfl, rfl⟩
     ·have h := of_false h hc23
      refine V_skip ?_
      show V _ _ _ _
      obtain ⟨y24, hy24, h⟩ := of_bind h
      obtain ⟨z25, hz25, h⟩ := of_bind h
      obtain ⟨e26, he26, h⟩ := of_bind h
      obtain ⟨e27, he27, h⟩ := of_bind h
      refine V_sreg (mb 147 524512) [152, 56, 40] (s1 := ⟨bt 5 (.pt 40 0 :: I y5.2 :: .pt 56 0 :: bt 11 (.pt 152 0 :: bt 127 [])), [(152, .box [Ti e27.1, Ti e27.2.1, Ti e27.2.2]), (56, .box [Ti y6.1.1, Ti y6.1.2.1, Ti y6.1.2.2]), (40, .box [Ti y5.1.1, Ti y5.1.2.1, Ti y5.1.2.2])]⟩) ?_ ?_
      ·refine XR 2 ?_
       refine XC (s_laws_numberOf hy24) cf_laws_numberOf rfl rfl rfl ?_
       refine XR 1 ?_
       refine L0 rfl rfl (Y0_lenM (c := c25) (xs := y19.1) Tryz.underlying38 rfl (by kernel_rfl)) ?_
       refine L0 rfl rfl (Y0_rem (k := .i64) (a := y24) (b := (y19.1.length : Int)) rfl (by kernel_rfl) (by kernel_rfl) (nz_some hz25)) ?_
       refine L0 rfl rfl (Y0_idxoM (c := c25) (xs := y19.1) (v := e26) (id := 688) (T := 25) (sz := 3) (n := Int.tmod y24 ((y19.1.length : Int))) Tryz.underlying38 sz25 rfl (by kernel_rfl) (by kernel_rfl) (by kernel_rfl) he26) ?_
       refine L0 rfl rfl (E_loadon (c := c25) (xs := y19.1) (v := e27) (id := 688) (sz := 3) (T := 25) (off := 0) (n := Int.tmod y24 ((y19.1.length : Int))) [Ti e27.1, Ti e27.2.1, Ti e27.2.2] wd25 rfl (by kernel_rfl) (by kernel_rfl) he27 (Nat.le_of_ble_eq_true rfl) (by kernel_rfl)) ?_
       exact XE
      obtain ⟨y28, hy28, h⟩ := of_bind h
      refine V_sreg (mb 147 3670208) [160, 152, 56] (s1 := ⟨bt 6 (I y5.2 :: .pt 56 0 :: bt 11 (.pt 152 0 :: .pt 160 0 :: Bo y28.2 :: bt 125 [])), [(160, .box [Ti y28.1.1, Ti y28.1.2.1, Ti y28.1.2.2]), (152, .box [Ti e27.1, Ti e27.2.1, Ti e27.2.2]), (56, .box [Ti y6.1.1, Ti y6.1.2.1, Ti y6.1.2.2])]⟩) ?_ ?_
      ·refine XR 2 ?_
       refine XC (s_impl_ComposeForms hy28) cf_impl_ComposeForms rfl rfl rfl ?_
       exact XE
      obtain ⟨y29, hy29, h⟩ := of_bind h
      refine V_sreg (mb 147 15204544) [176, 152, 56] (s1 := ⟨bt 6 (I y5.2 :: .pt 56 0 :: bt 11 (.pt 152 0 :: .bot :: Bo y28.2 :: .pt 176 0 :: Bo y29.2 :: bt 123 [])), [(176, .box [Ti y29.1.1, Ti y29.1.2.1, Ti y29.1.2.2]), (152, .box [Ti e27.1, Ti e27.2.1, Ti e27.2.2]), (56, .box [Ti y6.1.1, Ti y6.1.2.1, Ti y6.1.2.2])]⟩) ?_ ?_
      ·refine XR 2 ?_
       refine XC (s_impl_DescendForm hy29) cf_impl_DescendForm rfl rfl rfl ?_
       exact XE
      obtain ⟨y30, hy30, h⟩ := of_bind h
      refine V_sreg (mb 147 65011840) [192, 176, 56] (s1 := ⟨bt 7 (.pt 56 0 :: bt 13 (Bo y28.2 :: .pt 176 0 :: Bo y29.2 :: .pt 192 0 :: Bo y30.2 :: bt 121 [])), [(192, .box [Ti y30.1.1, Ti y30.1.2.1, Ti y30.1.2.2]), (176, .box [Ti y29.1.1, Ti y29.1.2.1, Ti y29.1.2.2]), (56, .box [Ti y6.1.1, Ti y6.1.2.1, Ti y6.1.2.2])]⟩) ?_ ?_
      ·refine XR 2 ?_
       refine XC (s_impl_DescendForm hy30) cf_impl_DescendForm rfl rfl rfl ?_
       exact XE
      obtain ⟨y31, hy31, h⟩ := of_bind h
      refine V_sreg (mb 147 249561088) [208, 176] (s1 := ⟨bt 21 (Bo y28.2 :: .pt 176 0 :: Bo y29.2 :: .bot :: Bo y30.2 :: .pt 208 0 :: Bo y31.2 :: bt 119 []), [(208, .box [Ti y31.1.1, Ti y31.1.2.1, Ti y31.1.2.2]), (176, .box [Ti y29.1.1, Ti y29.1.2.1, Ti y29.1.2.2])]⟩) ?_ ?_
      ·refine XR 2 ?_
       refine XC (s_impl_ComposeForms hy31) cf_impl_ComposeForms rfl rfl rfl ?_
       exact XE
      obtain ⟨t36, ht36, h⟩ := of_bind h
      have ht36 := some_inj ht36
      refine V_sreg (mb 147 16) [] (s1 := ⟨bt 4 (Bo t36 :: bt 142 []), []⟩) ?_ ?_
      ·refine XR 2 ?_
       refine XL_split y28.2 (fun hc32 => ?_) (fun hc32 => ?_)
       ·refine XL_takeC _ rfl rfl (by kernel_rfl) hc32 (X_of_Y0 rfl (E_move (Bo y29.2) rfl (by kernel_rfl))) ?_
        refine XL_cons rfl (X_of_Y0 rfl (Y0_pick1 (b := y28.2) (p := y29.2) (q := false) rfl (by kernel_rfl) hc32 (by kernel_rfl))) ?_
        refine XR 1 ?_
        refine XL_split (bif y28.2 then y29.2 else false) (fun hc33 => ?_) (fun hc33 => ?_)
        ·refine XL_takeC _ rfl rfl (by kernel_rfl) hc33 (X_of_Y0 rfl (E_move (Bo y30.2) rfl (by kernel_rfl))) ?_
         refine XL_cons rfl (X_of_Y0 rfl (Y0_pick1 (b := bif y28.2 then y29.2 else false) (p := y30.2) (q := false) rfl (by kernel_rfl) hc33 (by kernel_rfl))) ?_
         refine XR 1 ?_
         refine XL_split (bif (bif y28.2 then y29.2 else false) then y30.2 else false) (fun hc34 => ?_) (fun hc34 => ?_)
         ·refine XL_takeC _ rfl rfl (by kernel_rfl) hc34 (X_of_Y0 rfl (E_move (Bo y31.2) rfl (by kernel_rfl))) ?_
          refine XL_cons rfl (X_of_Y0 rfl (Y0_pick1 (b := bif (bif y28.2 then y29.2 else false) then y30.2 else false) (p := y31.2) (q := false) rfl (by kernel_rfl) hc34 (by kernel_rfl))) ?_
          refine XR 1 ?_
          refine XL_split (bif (bif (bif y28.2 then y29.2 else false) then y30.2 else false) then y31.2 else false) (fun hc35 => ?_) (fun hc35 => ?_)
          ·refine XL_takeC _ rfl rfl (by kernel_rfl) hc35 (X_of_Y0 rfl (E_loadn (cs := [Ti y29.1.1, Ti y29.1.2.1, Ti y29.1.2.2]) [Ti y29.1.1, Ti y29.1.2.1, Ti y29.1.2.2] wd25 rfl (by kernel_rfl) (Nat.le_of_ble_eq_true rfl) (by kernel_rfl))) ?_
           refine XL_takeC _ rfl rfl (by kernel_rfl) hc35 (X_of_Y0 rfl (E_loadn (cs := [Ti y31.1.1, Ti y31.1.2.1, Ti y31.1.2.2]) [Ti y31.1.1, Ti y31.1.2.1, Ti y31.1.2.2] wd25 rfl (by kernel_rfl) (Nat.le_of_ble_eq_true rfl) (by kernel_rfl))) ?_
           refine XL_takeC _ rfl rfl (by kernel_rfl) hc35 (X_of_Y0 rfl (Y0_eqg3 (a0 := y29.1.1) (b0 := y31.1.1) (a1 := y29.1.2.1) (b1 := y31.1.2.1) (a2 := y29.1.2.2) (b2 := y31.1.2.2) eqg25 rfl (by kernel_rfl) (by kernel_rfl))) ?_
           refine XL_cons rfl (X_of_Y0 rfl (Y0_pick1 (b := bif (bif (bif y28.2 then y29.2 else false) then y30.2 else false) then y31.2 else false) (p := ((y29.1.1 == y31.1.1) && ((y29.1.2.1 == y31.1.2.1) && (y29.1.2.2 == y31.1.2.2)))) (q := false) rfl (by kernel_rfl) hc35 (by kernel_rfl))) ?_
           refine XR 1 ?_
           refine XL_nil ?_
           subst ht36
           kernel_rfl
          ·refine XL_skipT _ rfl rfl (by kernel_rfl) hc35 rfl ?_
           refine XL_skipT _ rfl rfl (by kernel_rfl) hc35 rfl ?_
           refine XL_skipT _ rfl rfl (by kernel_rfl) hc35 rfl ?_
           refine XL_cons rfl (X_of_Y0 rfl (Y0_pick0 (b := bif (bif (bif y28.2 then y29.2 else false) then y30.2 else false) then y31.2 else false) (p := ((y29.1.1 == y31.1.1) && ((y29.1.2.1 == y31.1.2.1) && (y29.1.2.2 == y31.1.2.2)))) (q := false) rfl (by kernel_rfl) hc35 (by kernel_rfl))) ?_
           refine XR 1 ?_
           refine XL_nil ?_
           subst ht36
           kernel_rfl
         ·refine XL_skipT _ rfl rfl (by kernel_rfl) hc34 rfl ?_
          refine XL_cons rfl (X_of_Y0 rfl (Y0_pick0 (b := bif (bif y28.2 then y29.2 else false) then y30.2 else false) (p := y31.2) (q := false) rfl (by kernel_rfl) hc34 (by kernel_rfl))) ?_
          refine XR 1 ?_
          refine XL_split (bif (bif (bif y28.2 then y29.2 else false) then y30.2 else false) then y31.2 else false) (fun hc35 => ?_) (fun hc35 => ?_)
          ·refine XL_takeC _ rfl rfl (by kernel_rfl) hc35 (X_of_Y0 rfl (E_loadn (cs := [Ti y29.1.1, Ti y29.1.2.1, Ti y29.1.2.2]) [Ti y29.1.1, Ti y29.1.2.1, Ti y29.1.2.2] wd25 rfl (by kernel_rfl) (Nat.le_of_ble_eq_true rfl) (by kernel_rfl))) ?_
           refine XL_takeC _ rfl rfl (by kernel_rfl) hc35 (X_of_Y0 rfl (E_loadn (cs := [Ti y31.1.1, Ti y31.1.2.1, Ti y31.1.2.2]) [Ti y31.1.1, Ti y31.1.2.1, Ti y31.1.2.2] wd25 rfl (by kernel_rfl) (Nat.le_of_ble_eq_true rfl) (by kernel_rfl))) ?_
           refine XL_takeC _ rfl rfl (by kernel_rfl) hc35 (X_of_Y0 rfl (Y0_eqg3 (a0 := y29.1.1) (b0 := y31.1.1) (a1 := y29.1.2.1) (b1 := y31.1.2.1) (a2 := y29.1.2.2) (b2 := y31.1.2.2) eqg25 rfl (by kernel_rfl) (by kernel_rfl))) ?_
           refine XL_cons rfl (X_of_Y0 rfl (Y0_pick1 (b := bif (bif (bif y28.2 then y29.2 else false) then y30.2 else false) then y31.2 else false) (p := ((y29.1.1 == y31.1.1) && ((y29.1.2.1 == y31.1.2.1) && (y29.1.2.2 == y31.1.2.2)))) (q := false) rfl (by kernel_rfl) hc35 (by kernel_rfl))) ?_
           refine XR 1 ?_
           refine XL_nil ?_
           subst ht36
           kernel_rfl
          ·refine XL_skipT _ rfl rfl (by kernel_rfl) hc35 rfl ?_
           refine XL_skipT _ rfl rfl (by kernel_rfl) hc35 rfl ?_
           refine XL_skipT _ rfl rfl (by kernel_rfl) hc35 rfl ?_
           refine XL_cons rfl (X_of_Y0 rfl (Y0_pick0 (b := bif (bif (bif y28.2 then y29.2 else false) then y30.2 else false) then y31.2 else false) (p := ((y29.1.1 == y31.1.1) && ((y29.1.2.1 == y31.1.2.1) && (y29.1.2.2 == y31.1.2.2)))) (q := false) rfl (by kernel_rfl) hc35 (by kernel_rfl))) ?_
           refine XR 1 ?_
           refine XL_nil ?_
           subst ht36
           kernel_rfl
        ·refine XL_skipT _ rfl rfl (by kernel_rfl) hc33 rfl ?_
         refine XL_cons rfl (X_of_Y0 rfl (Y0_pick0 (b := bif y28.2 then y29.2 else false) (p := y30.2) (q := false) rfl (by kernel_rfl) hc33 (by kernel_rfl))) ?_
         refine XR 1 ?_
         refine XL_split (bif (bif y28.2 then y29.2 else false) then y30.2 else false) (fun hc34 => ?_) (fun hc34 => ?_)
         ·refine XL_takeC _ rfl rfl (by kernel_rfl) hc34 (X_of_Y0 rfl (E_move (Bo y31.2) rfl (by kernel_rfl))) ?_
          refine XL_cons rfl (X_of_Y0 rfl (Y0_pick1 (b := bif (bif y28.2 then y29.2 else false) then y30.2 else false) (p := y31.2) (q := false) rfl (by kernel_rfl) hc34 (by kernel_rfl))) ?_
          refine XR 1 ?_
          refine XL_split (bif (bif (bif y28.2 then y29.2 else false) then y30.2 else false) then y31.2 else false) (fun hc35 => ?_) (fun hc35 => ?_)
          ·refine XL_takeC _ rfl rfl (by kernel_rfl) hc35 (X_of_Y0 rfl (E_loadn (cs := [Ti y29.1.1, Ti y29.1.2.1, Ti y29.1.2.2]) [Ti y29.1.1, Ti y29.1.2.1, Ti y29.1.2.2] wd25 rfl (by kernel_rfl) (Nat.le_of_ble_eq_true rfl) (by kernel_rfl))) ?_
           refine XL_takeC _ rfl rfl (by kernel_rfl) hc35 (X_of_Y0 rfl (E_loadn (cs := [Ti y31.1.1, Ti y31.1.2.1, Ti y31.1.2.2]) [Ti y31.1.1, Ti y31.1.2.1, Ti y31.1.2.2] wd25 rfl (by kernel_rfl) (Nat.le_of_ble_eq_true rfl) (by kernel_rfl))) ?_
           refine XL_takeC _ rfl rfl (by kernel_rfl) hc35 (X_of_Y0 rfl (Y0_eqg3 (a0 := y29.1.1) (b0 := y31.1.1) (a1 := y29.1.2.1) (b1 := y31.1.2.1) (a2 := y29.1.2.2) (b2 := y31.1.2.2) eqg25 rfl (by kernel_rfl) (by kernel_rfl))) ?_
           refine XL_cons rfl (X_of_Y0 rfl (Y0_pick1 (b := bif (bif (bif y28.2 then y29.2 else false) then y30.2 else false) then y31.2 else false) (p := ((y29.1.1 == y31.1.1) && ((y29.1.2.1 == y31.1.2.1) && (y29.1.2.2 == y31.1.2.2)))) (q := false) rfl (by kernel_rfl) hc35 (by kernel_rfl))) ?_
           refine XR 1 ?_
           refine XL_nil ?_
           subst ht36
           kernel_rfl
          ·refine XL_skipT _ rfl rfl (by kernel_rfl) hc35 rfl ?_
           refine XL_skipT _ rfl rfl (by kernel_rfl) hc35 rfl ?_
           refine XL_skipT _ rfl rfl (by kernel_rfl) hc35 rfl ?_
           refine XL_cons rfl (X_of_Y0 rfl (Y0_pick0 (b := bif (bif (bif y28.2 then y29.2 else false) then y30.2 else false) then y31.2 else false) (p := ((y29.1.1 == y31.1.1) && ((y29.1.2.1 == y31.1.2.1) && (y29.1.2.2 == y31.1.2.2)))) (q := false) rfl (by kernel_rfl) hc35 (by kernel_rfl))) ?_
           refine XR 1 ?_
           refine XL_nil ?_
           subst ht36
           kernel_rfl
         ·refine XL_skipT _ rfl rfl (by kernel_rfl) hc34 rfl ?_
          refine XL_cons rfl (X_of_Y0 rfl (Y0_pick0 (b := bif (bif y28.2 then y29.2 else false) then y30.2 else false) (p := y31.2) (q := false) rfl (by kernel_rfl) hc34 (by kernel_rfl))) ?_
          refine XR 1 ?_
          refine XL_split (bif (bif (bif y28.2 then y29.2 else false) then y30.2 else false) then y31.2 else false) (fun hc35 => ?_) (fun hc35 => ?_)
          ·refine XL_takeC _ rfl rfl (by kernel_rfl) hc35 (X_of_Y0 rfl (E_loadn (cs := [Ti y29.1.1, Ti y29.1.2.1, Ti y29.1.2.2]) [Ti y29.1.1, Ti y29.1.2.1, Ti y29.1.2.2] wd25 rfl (by kernel_rfl) (Nat.le_of_ble_eq_true rfl) (by kernel_rfl))) ?_
           refine XL_takeC _ rfl rfl (by kernel_rfl) hc35 (X_of_Y0 rfl (E_loadn (cs := [Ti y31.1.1, Ti y31.1.2.1, Ti y31.1.2.2]) [Ti y31.1.1, Ti y31.1.2.1, Ti y31.1.2.2] wd25 rfl (by kernel_rfl) (Nat.le_of_ble_eq_true rfl) (by kernel_rfl))) ?_
           refine XL_takeC _ rfl rfl (by kernel_rfl) hc35 (X_of_Y0 rfl (Y0_eqg3 (a0 := y29.1.1) (b0 := y31.1.1) (a1 := y29.1.2.1) (b1 := y31.1.2.1) (a2 := y29.1.2.2) (b2 := y31.1.2.2) eqg25 rfl (by kernel_rfl) (by kernel_rfl))) ?_
           refine XL_cons rfl (X_of_Y0 rfl (Y0_pick1 (b := bif (bif (bif y28.2 then y29.2 else false) then y30.2 else false) then y31.2 else false) (p := ((y29.1.1 == y31.1.1) && ((y29.1.2.1 == y31.1.2.1) && (y29.1.2.2 == y31.1.2.2)))) (q := false) rfl (by kernel_rfl) hc35 (by kernel_rfl))) ?_
           refine XR 1 ?_
           refine XL_nil ?_
           subst ht36
           kernel_rfl
          ·refine XL_skipT _ rfl rfl (by kernel_rfl) hc35 rfl ?_
           refine XL_skipT _ rfl rfl (by kernel_rfl) hc35 rfl ?_
           refine XL_skipT _ rfl rfl (by kernel_rfl) hc35 rfl ?_
           refine XL_cons rfl (X_of_Y0 rfl (Y0_pick0 (b := bif (bif (bif y28.2 then y29.2 else false) then y30.2 else false) then y31.2 else false) (p := ((y29.1.1 == y31.1.1) && ((y29.1.2.1 == y31.1.2.1) && (y29.1.2.2 == y31.1.2.2)))) (q := false) rfl (by kernel_rfl) hc35 (by kernel_rfl))) ?_
           refine XR 1 ?_
           refine XL_nil ?_
           subst ht36
           kernel_rfl
       ·refine XL_skipT _ rfl rfl (by kernel_rfl) hc32 rfl ?_
        refine XL_cons rfl (X_of_Y0 rfl (Y0_pick0 (b := y28.2) (p := y29.2) (q := false) rfl (by kernel_rfl) hc32 (by kernel_rfl))) ?_
        refine XR 1 ?_
        refine XL_split (bif y28.2 then y29.2 else false) (fun hc33 => ?_) (fun hc33 => ?_)
        ·refine XL_takeC _ rfl rfl (by kernel_rfl) hc33 (X_of_Y0 rfl (E_move (Bo y30.2) rfl (by kernel_rfl))) ?_
         refine XL_cons rfl (X_of_Y0 rfl (Y0_pick1 (b := bif y28.2 then y29.2 else false) (p := y30.2) (q := false) rfl (by kernel_rfl) hc33 (by kernel_rfl))) ?_
         refine XR 1 ?_
         refine XL_split (bif (bif y28.2 then y29.2 else false) then y30.2 else false) (fun hc34 => ?_) (fun hc34 => ?_)
         ·refine XL_takeC _ rfl rfl (by kernel_rfl) hc34 (X_of_Y0 rfl (E_move (Bo y31.2) rfl (by kernel_rfl))) ?_
          refine XL_cons rfl (X_of_Y0 rfl (Y0_pick1 (b := bif (bif y28.2 then y29.2 else false) then y30.2 else false) (p := y31.2) (q := false) rfl (by kernel_rfl) hc34 (by kernel_rfl))) ?_
          refine XR 1 ?_
          refine XL_split (bif (bif (bif y28.2 then y29.2 else false) then y30.2 else false) then y31.2 else false) (fun hc35 => ?_) (fun hc35 => ?_)
          ·refine XL_takeC _ rfl rfl (by kernel_rfl) hc35 (X_of_Y0 rfl (E_loadn (cs := [Ti y29.1.1, Ti y29.1.2.1, Ti y29.1.2.2]) [Ti y29.1.1, Ti y29.1.2.1, Ti y29.1.2.2] wd25 rfl (by kernel_rfl) (Nat.le_of_ble_eq_true rfl) (by kernel_rfl))) ?_
           refine XL_takeC _ rfl rfl (by kernel_rfl) hc35 (X_of_Y0 rfl (E_loadn (cs := [Ti y31.1.1, Ti y31.1.2.1, Ti y31.1.2.2]) [Ti y31.1.1, Ti y31.1.2.1, Ti y31.1.2.2] wd25 rfl (by kernel_rfl) (Nat.le_of_ble_eq_true rfl) (by kernel_rfl))) ?_
           refine XL_takeC _ rfl rfl (by kernel_rfl) hc35 (X_of_Y0 rfl (Y0_eqg3 (a0 := y29.1.1) (b0 := y31.1.1) (a1 := y29.1.2.1) (b1 := y31.1.2.1) (a2 := y29.1.2.2) (b2 := y31.1.2.2) eqg25 rfl (by kernel_rfl) (by kernel_rfl))) ?_
           refine XL_cons rfl (X_of_Y0 rfl (Y0_pick1 (b := bif (bif (bif y28.2 then y29.2 else false) then y30.2 else false) then y31.2 else false) (p := ((y29.1.1 == y31.1.1) && ((y29.1.2.1 == y31.1.2.1) && (y29.1.2.2 == y31.1.2.2)))) (q := false) rfl (by kernel_rfl) hc35 (by kernel_rfl))) ?_
           refine XR 1 ?_
           refine XL_nil ?_
           subst ht36
           kernel_rfl
          ·refine XL_skipT _ rfl rfl (by kernel_rfl) hc35 rfl ?_
           refine XL_skipT _ rfl rfl (by kernel_rfl) hc35 rfl ?_
           refine XL_skipT _ rfl rfl (by kernel_rfl) hc35 rfl ?_
           refine XL_cons rfl (X_of_Y0 rfl (Y0_pick0 (b := bif (bif (bif y28.2 then y29.2 else false) then y30.2 else false) then y31.2 else false) (p := ((y29.1.1 == y31.1.1) && ((y29.1.2.1 == y31.1.2.1) && (y29.1.2.2 == y31.1.2.2)))) (q := false) rfl (by kernel_rfl) hc35 (by kernel_rfl))) ?_
           refine XR 1 ?_
           refine XL_nil ?_
           subst ht36
           kernel_rfl
         ·refine XL_skipT _ rfl rfl (by kernel_rfl) hc34 rfl ?_
          refine XL_cons rfl (X_of_Y0 rfl (Y0_pick0 (b := bif (bif y28.2 then y29.2 else false) then y30.2 else false) (p := y31.2) (q := false) rfl (by kernel_rfl) hc34 (by kernel_rfl))) ?_
          refine XR 1 ?_
          refine XL_split (bif (bif (bif y28.2 then y29.2 else false) then y30.2 else false) then y31.2 else false) (fun hc35 => ?_) (fun hc35 => ?_)
          ·refine XL_takeC _ rfl rfl (by kernel_rfl) hc35 (X_of_Y0 rfl (E_loadn (cs := [Ti y29.1.1, Ti y29.1.2.1, Ti y29.1.2.2]) [Ti y29.1.1, Ti y29.1.2.1, Ti y29.1.2.2] wd25 rfl (by kernel_rfl) (Nat.le_of_ble_eq_true rfl) (by kernel_rfl))) ?_
           refine XL_takeC _ rfl rfl (by kernel_rfl) hc35 (X_of_Y0 rfl (E_loadn (cs := [Ti y31.1.1, Ti y31.1.2.1, Ti y31.1.2.2]) [Ti y31.1.1, Ti y31.1.2.1, Ti y31.1.2.2] wd25 rfl (by kernel_rfl) (Nat.le_of_ble_eq_true rfl) (by kernel_rfl))) ?_
           refine XL_takeC _ rfl rfl (by kernel_rfl) hc35 (X_of_Y0 rfl (Y0_eqg3 (a0 := y29.1.1) (b0 := y31.1.1) (a1 := y29.1.2.1) (b1 := y31.1.2.1) (a2 := y29.1.2.2) (b2 := y31.1.2.2) eqg25 rfl (by kernel_rfl) (by kernel_rfl))) ?_
           refine XL_cons rfl (X_of_Y0 rfl (Y0_pick1 (b := bif (bif (bif y28.2 then y29.2 else false) then y30.2 else false) then y31.2 else false) (p := ((y29.1.1 == y31.1.1) && ((y29.1.2.1 == y31.1.2.1) && (y29.1.2.2 == y31.1.2.2)))) (q := false) rfl (by kernel_rfl) hc35 (by kernel_rfl))) ?_
           refine XR 1 ?_
           refine XL_nil ?_
           subst ht36
           kernel_rfl
          ·refine XL_skipT _ rfl rfl (by kernel_rfl) hc35 rfl ?_
           refine XL_skipT _ rfl rfl (by kernel_rfl) hc35 rfl ?_
           refine XL_skipT _ rfl rfl (by kernel_rfl) hc35 rfl ?_
           refine XL_cons rfl (X_of_Y0 rfl (Y0_pick0 (b := bif (bif (bif y28.2 then y29.2 else false) then y30.2 else false) then y31.2 else false) (p := ((y29.1.1 == y31.1.1) && ((y29.1.2.1 == y31.1.2.1) && (y29.1.2.2 == y31.1.2.2)))) (q := false) rfl (by kernel_rfl) hc35 (by kernel_rfl))) ?_
           refine XR 1 ?_
           refine XL_nil ?_
           subst ht36
           kernel_rfl
        ·refine XL_skipT _ rfl rfl (by kernel_rfl) hc33 rfl ?_
         refine XL_cons rfl (X_of_Y0 rfl (Y0_pick0 (b := bif y28.2 then y29.2 else false) (p := y30.2) (q := false) rfl (by kernel_rfl) hc33 (by kernel_rfl))) ?_
         refine XR 1 ?_
         refine XL_split (bif (bif y28.2 then y29.2 else false) then y30.2 else false) (fun hc34 => ?_) (fun hc34 => ?_)
         ·refine XL_takeC _ rfl rfl (by kernel_rfl) hc34 (X_of_Y0 rfl (E_move (Bo y31.2) rfl (by kernel_rfl))) ?_
          refine XL_cons rfl (X_of_Y0 rfl (Y0_pick1 (b := bif (bif y28.2 then y29.2 else false) then y30.2 else false) (p := y31.2) (q := false) rfl (by kernel_rfl) hc34 (by kernel_rfl))) ?_
          refine XR 1 ?_
          refine XL_split (bif (bif (bif y28.2 then y29.2 else false) then y30.2 else false) then y31.2 else false) (fun hc35 => ?_) (fun hc35 => ?_)
          ·refine XL_takeC _ rfl rfl (by kernel_rfl) hc35 (X_of_Y0 rfl (E_loadn (cs := [Ti y29.1.1, Ti y29.1.2.1, Ti y29.1.2.2]) [Ti y29.1.1, Ti y29.1.2.1, Ti y29.1.2.2] wd25 rfl (by kernel_rfl) (Nat.le_of_ble_eq_true rfl) (by kernel_rfl))) ?_
           refine XL_takeC _ rfl rfl (by kernel_rfl) hc35 (X_of_Y0 rfl (E_loadn (cs := [Ti y31.1.1, Ti y31.1.2.1, Ti y31.1.2.2]) [Ti y31.1.1, Ti y31.1.2.1, Ti y31.1.2.2] wd25 rfl (by kernel_rfl) (Nat.le_of_ble_eq_true rfl) (by kernel_rfl))) ?_
           refine XL_takeC _ rfl rfl (by kernel_rfl) hc35 (X_of_Y0 rfl (Y0_eqg3 (a0 := y29.1.1) (b0 := y31.1.1) (a1 := y29.1.2.1) (b1 := y31.1.2.1) (a2 := y29.1.2.2) (b2 := y31.1.2.2) eqg25 rfl (by kernel_rfl) (by kernel_rfl))) ?_
           refine XL_cons rfl (X_of_Y0 rfl (Y0_pick1 (b := bif (bif (bif y28.2 then y29.2 else false) then y30.2 else false) then y31.2 else false) (p := ((y29.1.1 == y31.1.1) && ((y29.1.2.1 == y31.1.2.1) && (y29.1.2.2 == y31.1.2.2)))) (q := false) rfl (by kernel_rfl) hc35 (by kernel_rfl))) ?_
           refine XR 1 ?_
           refine XL_nil ?_
           subst ht36
           kernel_rfl
          ·refine XL_skipT _ rfl rfl (by kernel_rfl) hc35 rfl ?_
           refine XL_skipT _ rfl rfl (by kernel_rfl) hc35 rfl ?_
           refine XL_skipT _ rfl rfl (by kernel_rfl) hc35 rfl ?_
           refine XL_cons rfl (X_of_Y0 rfl (Y0_pick0 (b := bif (bif (bif y28.2 then y29.2 else false) then y30.2 else false) then y31.2 else false) (p := ((y29.1.1 == y31.1.1) && ((y29.1.2.1 == y31.1.2.1) && (y29.1.2.2 == y31.1.2.2)))) (q := false) rfl (by kernel_rfl) hc35 (by kernel_rfl))) ?_
           refine XR 1 ?_
           refine XL_nil ?_
           subst ht36
           kernel_rfl
         ·refine XL_skipT _ rfl rfl (by kernel_rfl) hc34 rfl ?_
          refine XL_cons rfl (X_of_Y0 rfl (Y0_pick0 (b := bif (bif y28.2 then y29.2 else false) then y30.2 else false) (p := y31.2) (q := false) rfl (by kernel_rfl) hc34 (by kernel_rfl))) ?_
          refine XR 1 ?_
          refine XL_split (bif (bif (bif y28.2 then y29.2 else false) then y30.2 else false) then y31.2 else false) (fun hc35 => ?_) (fun hc35 => ?_)
          ·refine XL_takeC _ rfl rfl (by kernel_rfl) hc35 (X_of_Y0 rfl (E_loadn (cs := [Ti y29.1.1, Ti y29.1.2.1, Ti y29.1.2.2]) [Ti y29.1.1, Ti y29.1.2.1, Ti y29.1.2.2] wd25 rfl (by kernel_rfl) (Nat.le_of_ble_eq_true rfl) (by kernel_rfl))) ?_
           refine XL_takeC _ rfl rfl (by kernel_rfl) hc35 (X_of_Y0 rfl (E_loadn (cs := [Ti y31.1.1, Ti y31.1.2.1, Ti y31.1.2.2]) [Ti y31.1.1, Ti y31.1.2.1, Ti y31.1.2.2] wd25 rfl (by kernel_rfl) (Nat.le_of_ble_eq_true rfl) (by kernel_rfl))) ?_
           refine XL_takeC _ rfl rfl (by kernel_rfl) hc35 (X_of_Y0 rfl (Y0_eqg3 (a0 := y29.1.1) (b0 := y31.1.1) (a1 := y29.1.2.1) (b1 := y31.1.2.1) (a2 := y29.1.2.2) (b2 := y31.1.2.2) eqg25 rfl (by kernel_rfl) (by kernel_rfl))) ?_
           refine XL_cons rfl (X_of_Y0 rfl (Y0_pick1 (b := bif (bif (bif y28.2 then y29.2 else false) then y30.2 else false) then y31.2 else false) (p := ((y29.1.1 == y31.1.1) && ((y29.1.2.1 == y31.1.2.1) && (y29.1.2.2 == y31.1.2.2)))) (q := false) rfl (by kernel_rfl) hc35 (by kernel_rfl))) ?_
           refine XR 1 ?_
           refine XL_nil ?_
           subst ht36
           kernel_rfl
          ·refine XL_skipT _ rfl rfl (by kernel_rfl) hc35 rfl ?_
           refine XL_skipT _ rfl rfl (by kernel_rfl) hc35 rfl ?_
           refine XL_skipT _ rfl rfl (by kernel_rfl) hc35 rfl ?_
           refine XL_cons rfl (X_of_Y0 rfl (Y0_pick0 (b := bif (bif (bif y28.2 then y29.2 else false) then y30.2 else false) then y31.2 else false) (p := ((y29.1.1 == y31.1.1) && ((y29.1.2.1 == y31.1.2.1) && (y29.1.2.2 == y31.1.2.2)))) (q := false) rfl (by kernel_rfl) hc35 (by kernel_rfl))) ?_
           refine XR 1 ?_
           refine XL_nil ?_
           subst ht36
           kernel_rfl
      refine V_ret ?_
      obtain rfl := some_inj h
      show Post _ _ _ _ _
      exact ⟨.inr rfl, rfl, rfl, rfl⟩
end Go.Proofs.YtafomkclmkfjeaaGreat
