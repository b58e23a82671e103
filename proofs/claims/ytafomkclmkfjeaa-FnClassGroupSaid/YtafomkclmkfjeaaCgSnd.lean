/-
  The functions of the program compute what the plain functions say: more of them.
  Conditions: none.
-/
import Derived.Test.YtafomkclmkfjeaaCgSnd3
namespace Go.Proofs.Ytafomkclmkfjeaa
open Go.RowKit
set_option linter.unusedVariables false
set_option linter.unusedSimpArgs false
set_option maxRecDepth 100000
set_option maxHeartbeats 400000
theorem cf_laws_FnClassGroup : ∀ args w, (callFunc 3 args).run Try.prog w = .ok (.enter 3 args) w := run_callFunc Try.func3 (by kernel_rfl) (by kernel_rfl)
theorem s_laws_FnClassGroup {code1 : List Int} {more2 : List Int} {r : Bool} (h : r_laws_FnClassGroup code1 more2 = some r) : CallS Try.prog 3 [.c (.sl (code1.map c5)), .c (.sl (more2.map c5))] (Bo r) [] := by
  refine CallS_of_text (rs := [.t 4]) (vs := [.tmp 4]) Try.func3 rfl rfl (.cons rfl FitsL.nil) (by decide) 230 rfl ?_
  unfold r_laws_FnClassGroup at h
  show V _ _ ⟨.c (.sl (code1.map c5)) :: .c (.sl (more2.map c5)) :: bt 228 [], []⟩ _
  refine V_e (mb 230 3) [] (s1 := ⟨.c (.sl (code1.map c5)) :: .c (.sl (more2.map c5)) :: bt 228 [], []⟩) ?_
  refine V_seq ?_
  obtain ⟨y3, hy3, h⟩ := of_bind h
  refine V_sreg (mb 230 2199023255555) [] (s1 := ⟨.c (.sl (code1.map c5)) :: .c (.sl (more2.map c5)) :: bt 39 (Bo y3 :: bt 188 []), []⟩) ?_ ?_
  ·refine XR 2 ?_
   refine XC (s_laws_big hy3) cf_laws_big rfl rfl rfl ?_
   exact XE
  refine V_cond rfl (fun hc4 => ?_) (fun hc4 => ?_)
  ·have h := of_true h hc4
   refine V_e (mb 230 16) [] (s1 := ⟨bt 4 (Bo true :: bt 225 []), []⟩) ?_
   refine V_ret ?_
   obtain rfl := some_inj h
   show Post _ _ _ _ _
   exact ⟨.inr rfl, rfl, rfl, rfl⟩
  ·have h := of_false h hc4
   refine V_skip ?_
   show V _ _ _ _
   obtain ⟨y5, hy5, h⟩ := of_bind h
   refine V_sreg (mb 230 98) [48, 40] (s1 := ⟨.bot :: .c (.sl (more2.map c5)) :: bt 3 (.pt 40 0 :: .pt 48 0 :: bt 223 []), [(48, .box [Ti y5.2.1, Ti y5.2.2.1, Ti y5.2.2.2]), (40, .box [Ti y5.1.1, Ti y5.1.2.1, Ti y5.1.2.2])]⟩) ?_ ?_
   ·refine XR 1 ?_
    refine XC (s_spec_DrawComposeForms hy5) cf_spec_DrawComposeForms rfl rfl rfl ?_
    exact XE
   obtain ⟨y6, hy6, h⟩ := of_bind h
   refine V_sreg (mb 230 482) [56, 48, 40] (s1 := ⟨.bot :: .c (.sl (more2.map c5)) :: bt 3 (.pt 40 0 :: .pt 48 0 :: .pt 56 0 :: Bo y6.2 :: bt 221 []), [(56, .box [Ti y6.1.1, Ti y6.1.2.1, Ti y6.1.2.2]), (48, .box [Ti y5.2.1, Ti y5.2.2.1, Ti y5.2.2.2]), (40, .box [Ti y5.1.1, Ti y5.1.2.1, Ti y5.1.2.2])]⟩) ?_ ?_
   ·refine XR 2 ?_
    refine XC (s_impl_ComposeForms hy6) cf_impl_ComposeForms rfl rfl rfl ?_
    exact XE
   obtain ⟨y7, hy7, h⟩ := of_bind h
   refine V_sreg (mb 230 2018) [72, 56, 48, 40] (s1 := ⟨.bot :: .c (.sl (more2.map c5)) :: bt 3 (.pt 40 0 :: .pt 48 0 :: .pt 56 0 :: Bo y6.2 :: .pt 72 0 :: Bo y7.2 :: bt 219 []), [(72, .box [Ti y7.1.1, Ti y7.1.2.1, Ti y7.1.2.2]), (56, .box [Ti y6.1.1, Ti y6.1.2.1, Ti y6.1.2.2]), (48, .box [Ti y5.2.1, Ti y5.2.2.1, Ti y5.2.2.2]), (40, .box [Ti y5.1.1, Ti y5.1.2.1, Ti y5.1.2.2])]⟩) ?_ ?_
   ·refine XR 2 ?_
    refine XC (s_spec_ComposeForms hy7) cf_spec_ComposeForms rfl rfl rfl ?_
    exact XE
   refine V_seq ?_
   obtain ⟨t9, ht9, h⟩ := of_bind h
   have ht9 := some_inj ht9
   refine V_sreg (mb 230 73786976294838206946) [56, 48, 40] (s1 := ⟨.bot :: .c (.sl (more2.map c5)) :: bt 3 (.pt 40 0 :: .pt 48 0 :: .pt 56 0 :: Bo y6.2 :: bt 57 (Bo t9 :: bt 163 [])), [(56, .box [Ti y6.1.1, Ti y6.1.2.1, Ti y6.1.2.2]), (48, .box [Ti y5.2.1, Ti y5.2.2.1, Ti y5.2.2.2]), (40, .box [Ti y5.1.1, Ti y5.1.2.1, Ti y5.1.2.2])]⟩) ?_ ?_
   ·refine XR 2 ?_
    refine L0 rfl rfl (Y0_neb (a := y6.2) (b := y7.2) Try.underlying4 rfl (by kernel_rfl) (by kernel_rfl)) ?_
    refine XR 1 ?_
    refine XL_split (y6.2 != y7.2) (fun hc8 => ?_) (fun hc8 => ?_)
    ·refine XL_skipF _ rfl rfl (by kernel_rfl) hc8 rfl ?_
     refine XL_skipF _ rfl rfl (by kernel_rfl) hc8 rfl ?_
     refine XL_skipF _ rfl rfl (by kernel_rfl) hc8 rfl ?_
     refine XL_cons rfl (X_of_Y0 rfl (Y0_pick1 (b := y6.2 != y7.2) (p := true) (q := !((y6.1.1 == y7.1.1) && ((y6.1.2.1 == y7.1.2.1) && (y6.1.2.2 == y7.1.2.2)))) rfl (by kernel_rfl) hc8 (by kernel_rfl))) ?_
     refine XL_nil ?_
     subst ht9
     kernel_rfl
    ·refine XL_takeC _ rfl rfl (by kernel_rfl) hc8 (X_of_Y0 rfl (E_loadn (cs := [Ti y6.1.1, Ti y6.1.2.1, Ti y6.1.2.2]) [Ti y6.1.1, Ti y6.1.2.1, Ti y6.1.2.2] wd25 rfl (by kernel_rfl) (Nat.le_of_ble_eq_true rfl) (by kernel_rfl))) ?_
     refine XL_takeC _ rfl rfl (by kernel_rfl) hc8 (X_of_Y0 rfl (E_loadn (cs := [Ti y7.1.1, Ti y7.1.2.1, Ti y7.1.2.2]) [Ti y7.1.1, Ti y7.1.2.1, Ti y7.1.2.2] wd25 rfl (by kernel_rfl) (Nat.le_of_ble_eq_true rfl) (by kernel_rfl))) ?_
     refine XL_takeC _ rfl rfl (by kernel_rfl) hc8 (X_of_Y0 rfl (Y0_neg3 (a0 := y6.1.1) (b0 := y7.1.1) (a1 := y6.1.2.1) (b1 := y7.1.2.1) (a2 := y6.1.2.2) (b2 := y7.1.2.2) neg25 rfl (by kernel_rfl) (by kernel_rfl))) ?_
     refine XL_cons rfl (X_of_Y0 rfl (Y0_pick0 (b := y6.2 != y7.2) (p := true) (q := !((y6.1.1 == y7.1.1) && ((y6.1.2.1 == y7.1.2.1) && (y6.1.2.2 == y7.1.2.2)))) rfl (by kernel_rfl) hc8 (by kernel_rfl))) ?_
     refine XL_nil ?_
     subst ht9
     kernel_rfl
   refine V_cond rfl (fun hc10 => ?_) (fun hc10 => ?_)
   ·have h := of_true h hc10
    refine V_e (mb 230 16) [] (s1 := ⟨bt 4 (Bo false :: bt 225 []), []⟩) ?_
    refine V_ret ?_
    obtain rfl := some_inj h
    show Post _ _ _ _ _
    exact ⟨.inr rfl, rfl, rfl, rfl⟩
   ·have h := of_false h hc10
    refine V_skip ?_
    show V _ _ _ _
    refine V_seq ?_
    refine V_e (mb 230 295147905179352826082) [56, 48, 40] (s1 := ⟨.bot :: .c (.sl (more2.map c5)) :: bt 3 (.pt 40 0 :: .pt 48 0 :: .pt 56 0 :: bt 60 (Bo (!y6.2) :: bt 161 [])), [(56, .box [Ti y6.1.1, Ti y6.1.2.1, Ti y6.1.2.2]), (48, .box [Ti y5.2.1, Ti y5.2.2.1, Ti y5.2.2.2]), (40, .box [Ti y5.1.1, Ti y5.1.2.1, Ti y5.1.2.2])]⟩) ?_
    refine V_cond rfl (fun hc11 => ?_) (fun hc11 => ?_)
    ·have h := of_true h hc11
     refine V_e (mb 230 16) [] (s1 := ⟨bt 4 (Bo true :: bt 225 []), []⟩) ?_
     refine V_ret ?_
     obtain rfl := some_inj h
     show Post _ _ _ _ _
     exact ⟨.inr rfl, rfl, rfl, rfl⟩
    ·have h := of_false h hc11
     refine V_skip ?_
     show V _ _ _ _
     obtain ⟨y12, hy12, h⟩ := of_bind h
     refine V_sreg (mb 230 6370) [88, 56, 48, 40] (s1 := ⟨.bot :: .c (.sl (more2.map c5)) :: bt 3 (.pt 40 0 :: .pt 48 0 :: .pt 56 0 :: bt 3 (.pt 88 0 :: Bo y12.2 :: bt 217 [])), [(88, .box [Ti y12.1.1, Ti y12.1.2.1, Ti y12.1.2.2]), (56, .box [Ti y6.1.1, Ti y6.1.2.1, Ti y6.1.2.2]), (48, .box [Ti y5.2.1, Ti y5.2.2.1, Ti y5.2.2.2]), (40, .box [Ti y5.1.1, Ti y5.1.2.1, Ti y5.1.2.2])]⟩) ?_ ?_
     ·refine XR 2 ?_
      refine XC (s_impl_ComposeForms hy12) cf_impl_ComposeForms rfl rfl rfl ?_
      exact XE
     obtain ⟨y13, hy13, h⟩ := of_bind h
     refine V_sreg (mb 230 30946) [104, 88, 56, 48, 40] (s1 := ⟨.bot :: .c (.sl (more2.map c5)) :: bt 3 (.pt 40 0 :: .pt 48 0 :: .pt 56 0 :: bt 3 (.pt 88 0 :: Bo y12.2 :: .pt 104 0 :: Bo y13.2 :: bt 215 [])), [(104, .box [Ti y13.1.1, Ti y13.1.2.1, Ti y13.1.2.2]), (88, .box [Ti y12.1.1, Ti y12.1.2.1, Ti y12.1.2.2]), (56, .box [Ti y6.1.1, Ti y6.1.2.1, Ti y6.1.2.2]), (48, .box [Ti y5.2.1, Ti y5.2.2.1, Ti y5.2.2.2]), (40, .box [Ti y5.1.1, Ti y5.1.2.1, Ti y5.1.2.2])]⟩) ?_ ?_
     ·refine XR 1 ?_
      refine XC (s_impl_InverseForm hy13) cf_impl_InverseForm rfl rfl rfl ?_
      exact XE
     obtain ⟨y14, hy14, h⟩ := of_bind h
     refine V_sreg (mb 230 121058) [120, 88, 56, 48, 40] (s1 := ⟨.bot :: .c (.sl (more2.map c5)) :: bt 3 (.pt 40 0 :: .pt 48 0 :: .pt 56 0 :: bt 3 (.pt 88 0 :: Bo y12.2 :: .bot :: Bo y13.2 :: .pt 120 0 :: Bo y14.2 :: bt 213 [])), [(120, .box [Ti y14.1.1, Ti y14.1.2.1, Ti y14.1.2.2]), (88, .box [Ti y12.1.1, Ti y12.1.2.1, Ti y12.1.2.2]), (56, .box [Ti y6.1.1, Ti y6.1.2.1, Ti y6.1.2.2]), (48, .box [Ti y5.2.1, Ti y5.2.2.1, Ti y5.2.2.2]), (40, .box [Ti y5.1.1, Ti y5.1.2.1, Ti y5.1.2.2])]⟩) ?_ ?_
     ·refine XR 2 ?_
      refine XC (s_impl_ComposeForms hy14) cf_impl_ComposeForms rfl rfl rfl ?_
      exact XE
     obtain ⟨y15, hy15, h⟩ := of_bind h
     refine V_sreg (mb 230 481506) [88, 56, 48, 40] (s1 := ⟨.bot :: .c (.sl (more2.map c5)) :: bt 3 (.pt 40 0 :: .pt 48 0 :: .pt 56 0 :: bt 3 (.pt 88 0 :: Bo y12.2 :: .bot :: Bo y13.2 :: .bot :: Bo y14.2 :: Bo y15.1 :: Bo y15.2 :: bt 211 [])), [(88, .box [Ti y12.1.1, Ti y12.1.2.1, Ti y12.1.2.2]), (56, .box [Ti y6.1.1, Ti y6.1.2.1, Ti y6.1.2.2]), (48, .box [Ti y5.2.1, Ti y5.2.2.1, Ti y5.2.2.2]), (40, .box [Ti y5.1.1, Ti y5.1.2.1, Ti y5.1.2.2])]⟩) ?_ ?_
     ·refine XR 1 ?_
      refine XC (s_impl_IsIdentity hy15) cf_impl_IsIdentity rfl rfl rfl ?_
      exact XE
     refine V_seq ?_
     obtain ⟨t21, ht21, h⟩ := of_bind h
     have ht21 := some_inj ht21
     refine V_sreg (mb 230 10384593717069655257060992658440418) [56, 48, 40] (s1 := ⟨.bot :: .c (.sl (more2.map c5)) :: bt 3 (.pt 40 0 :: .pt 48 0 :: .pt 56 0 :: bt 105 (Bo t21 :: bt 116 [])), [(56, .box [Ti y6.1.1, Ti y6.1.2.1, Ti y6.1.2.2]), (48, .box [Ti y5.2.1, Ti y5.2.2.1, Ti y5.2.2.2]), (40, .box [Ti y5.1.1, Ti y5.1.2.1, Ti y5.1.2.2])]⟩) ?_ ?_
     ·refine XR 3 ?_
      refine XL_split (!y12.2) (fun hc16 => ?_) (fun hc16 => ?_)
      ·refine XL_skipF _ rfl rfl (by kernel_rfl) hc16 rfl ?_
       refine XL_skipF _ rfl rfl (by kernel_rfl) hc16 rfl ?_
       refine XL_skipF _ rfl rfl (by kernel_rfl) hc16 rfl ?_
       refine XL_cons rfl (X_of_Y0 rfl (Y0_pick1 (b := !y12.2) (p := true) (q := !((y12.1.1 == y6.1.1) && ((y12.1.2.1 == y6.1.2.1) && (y12.1.2.2 == y6.1.2.2)))) rfl (by kernel_rfl) hc16 (by kernel_rfl))) ?_
       refine XR 1 ?_
       refine XL_split (bif (!y12.2) then true else (!((y12.1.1 == y6.1.1) && ((y12.1.2.1 == y6.1.2.1) && (y12.1.2.2 == y6.1.2.2))))) (fun hc17 => ?_) (fun hc17 => ?_)
       ·refine XL_skipF _ rfl rfl (by kernel_rfl) hc17 rfl ?_
        refine XL_skipF _ rfl rfl (by kernel_rfl) hc17 rfl ?_
        refine XL_cons rfl (X_of_Y0 rfl (Y0_pick1 (b := bif (!y12.2) then true else (!((y12.1.1 == y6.1.1) && ((y12.1.2.1 == y6.1.2.1) && (y12.1.2.2 == y6.1.2.2))))) (p := true) (q := !y13.2) rfl (by kernel_rfl) hc17 (by kernel_rfl))) ?_
        refine XR 1 ?_
        refine XL_split (bif (bif (!y12.2) then true else (!((y12.1.1 == y6.1.1) && ((y12.1.2.1 == y6.1.2.1) && (y12.1.2.2 == y6.1.2.2))))) then true else (!y13.2)) (fun hc18 => ?_) (fun hc18 => ?_)
        ·refine XL_skipF _ rfl rfl (by kernel_rfl) hc18 rfl ?_
         refine XL_skipF _ rfl rfl (by kernel_rfl) hc18 rfl ?_
         refine XL_cons rfl (X_of_Y0 rfl (Y0_pick1 (b := bif (bif (!y12.2) then true else (!((y12.1.1 == y6.1.1) && ((y12.1.2.1 == y6.1.2.1) && (y12.1.2.2 == y6.1.2.2))))) then true else (!y13.2)) (p := true) (q := !y14.2) rfl (by kernel_rfl) hc18 (by kernel_rfl))) ?_
         refine XR 1 ?_
         refine XL_split (bif (bif (bif (!y12.2) then true else (!((y12.1.1 == y6.1.1) && ((y12.1.2.1 == y6.1.2.1) && (y12.1.2.2 == y6.1.2.2))))) then true else (!y13.2)) then true else (!y14.2)) (fun hc19 => ?_) (fun hc19 => ?_)
         ·refine XL_skipF _ rfl rfl (by kernel_rfl) hc19 rfl ?_
          refine XL_skipF _ rfl rfl (by kernel_rfl) hc19 rfl ?_
          refine XL_cons rfl (X_of_Y0 rfl (Y0_pick1 (b := bif (bif (bif (!y12.2) then true else (!((y12.1.1 == y6.1.1) && ((y12.1.2.1 == y6.1.2.1) && (y12.1.2.2 == y6.1.2.2))))) then true else (!y13.2)) then true else (!y14.2)) (p := true) (q := !y15.2) rfl (by kernel_rfl) hc19 (by kernel_rfl))) ?_
          refine XR 1 ?_
          refine XL_split (bif (bif (bif (bif (!y12.2) then true else (!((y12.1.1 == y6.1.1) && ((y12.1.2.1 == y6.1.2.1) && (y12.1.2.2 == y6.1.2.2))))) then true else (!y13.2)) then true else (!y14.2)) then true else (!y15.2)) (fun hc20 => ?_) (fun hc20 => ?_)
          ·refine XL_skipF _ rfl rfl (by kernel_rfl) hc20 rfl ?_
           refine XL_skipF _ rfl rfl (by kernel_rfl) hc20 rfl ?_
           refine XL_cons rfl (X_of_Y0 rfl (Y0_pick1 (b := bif (bif (bif (bif (!y12.2) then true else (!((y12.1.1 == y6.1.1) && ((y12.1.2.1 == y6.1.2.1) && (y12.1.2.2 == y6.1.2.2))))) then true else (!y13.2)) then true else (!y14.2)) then true else (!y15.2)) (p := true) (q := !y15.1) rfl (by kernel_rfl) hc20 (by kernel_rfl))) ?_
           refine XL_nil ?_
           subst ht21
           kernel_rfl
          ·refine XL_takeC _ rfl rfl (by kernel_rfl) hc20 (X_of_Y0 rfl (E_move (Bo y15.1) rfl (by kernel_rfl))) ?_
           refine XL_takeC _ rfl rfl (by kernel_rfl) hc20 (X_of_Y0 rfl (Y0_not (b := y15.1) rfl (by kernel_rfl))) ?_
           refine XL_cons rfl (X_of_Y0 rfl (Y0_pick0 (b := bif (bif (bif (bif (!y12.2) then true else (!((y12.1.1 == y6.1.1) && ((y12.1.2.1 == y6.1.2.1) && (y12.1.2.2 == y6.1.2.2))))) then true else (!y13.2)) then true else (!y14.2)) then true else (!y15.2)) (p := true) (q := !y15.1) rfl (by kernel_rfl) hc20 (by kernel_rfl))) ?_
           refine XL_nil ?_
           subst ht21
           kernel_rfl
         ·refine XL_takeC _ rfl rfl (by kernel_rfl) hc19 (X_of_Y0 rfl (E_move (Bo y15.2) rfl (by kernel_rfl))) ?_
          refine XL_takeC _ rfl rfl (by kernel_rfl) hc19 (X_of_Y0 rfl (Y0_not (b := y15.2) rfl (by kernel_rfl))) ?_
          refine XL_cons rfl (X_of_Y0 rfl (Y0_pick0 (b := bif (bif (bif (!y12.2) then true else (!((y12.1.1 == y6.1.1) && ((y12.1.2.1 == y6.1.2.1) && (y12.1.2.2 == y6.1.2.2))))) then true else (!y13.2)) then true else (!y14.2)) (p := true) (q := !y15.2) rfl (by kernel_rfl) hc19 (by kernel_rfl))) ?_
          refine XR 1 ?_
          refine XL_split (bif (bif (bif (bif (!y12.2) then true else (!((y12.1.1 == y6.1.1) && ((y12.1.2.1 == y6.1.2.1) && (y12.1.2.2 == y6.1.2.2))))) then true else (!y13.2)) then true else (!y14.2)) then true else (!y15.2)) (fun hc20 => ?_) (fun hc20 => ?_)
          ·refine XL_skipF _ rfl rfl (by kernel_rfl) hc20 rfl ?_
           refine XL_skipF _ rfl rfl (by kernel_rfl) hc20 rfl ?_
           refine XL_cons rfl (X_of_Y0 rfl (Y0_pick1 (b := bif (bif (bif (bif (!y12.2) then true else (!((y12.1.1 == y6.1.1) && ((y12.1.2.1 == y6.1.2.1) && (y12.1.2.2 == y6.1.2.2))))) then true else (!y13.2)) then true else (!y14.2)) then true else (!y15.2)) (p := true) (q := !y15.1) rfl (by kernel_rfl) hc20 (by kernel_rfl))) ?_
           refine XL_nil ?_
           subst ht21
           kernel_rfl
          ·refine XL_takeC _ rfl rfl (by kernel_rfl) hc20 (X_of_Y0 rfl (E_move (Bo y15.1) rfl (by kernel_rfl))) ?_
           refine XL_takeC _ rfl rfl (by kernel_rfl) hc20 (X_of_Y0 rfl (Y0_not (b := y15.1) rfl (by kernel_rfl))) ?_
           refine XL_cons rfl (X_of_Y0 rfl (Y0_pick0 (b := bif (bif (bif (bif (!y12.2) then true else (!((y12.1.1 == y6.1.1) && ((y12.1.2.1 == y6.1.2.1) && (y12.1.2.2 == y6.1.2.2))))) then true else (!y13.2)) then true else (!y14.2)) then true else (!y15.2)) (p := true) (q := !y15.1) rfl (by kernel_rfl) hc20 (by kernel_rfl))) ?_
           refine XL_nil ?_
           subst ht21
           kernel_rfl
        ·refine XL_takeC _ rfl rfl (by kernel_rfl) hc18 (X_of_Y0 rfl (E_move (Bo y14.2) rfl (by kernel_rfl))) ?_
         refine XL_takeC _ rfl rfl (by kernel_rfl) hc18 (X_of_Y0 rfl (Y0_not (b := y14.2) rfl (by kernel_rfl))) ?_
         refine XL_cons rfl (X_of_Y0 rfl (Y0_pick0 (b := bif (bif (!y12.2) then true else (!((y12.1.1 == y6.1.1) && ((y12.1.2.1 == y6.1.2.1) && (y12.1.2.2 == y6.1.2.2))))) then true else (!y13.2)) (p := true) (q := !y14.2) rfl (by kernel_rfl) hc18 (by kernel_rfl))) ?_
         refine XR 1 ?_
         refine XL_split (bif (bif (bif (!y12.2) then true else (!((y12.1.1 == y6.1.1) && ((y12.1.2.1 == y6.1.2.1) && (y12.1.2.2 == y6.1.2.2))))) then true else (!y13.2)) then true else (!y14.2)) (fun hc19 => ?_) (fun hc19 => ?_)
         ·refine XL_skipF _ rfl rfl (by kernel_rfl) hc19 rfl ?_
          refine XL_skipF _ rfl rfl (by kernel_rfl) hc19 rfl ?_
          refine XL_cons rfl (X_of_Y0 rfl (Y0_pick1 (b := bif (bif (bif (!y12.2) then true else (!((y12.1.1 == y6.1.1) && ((y12.1.2.1 == y6.1.2.1) && (y12.1.2.2 == y6.1.2.2))))) then true else (!y13.2)) then true else (!y14.2)) (p := true) (q := !y15.2) rfl (by kernel_rfl) hc19 (by kernel_rfl))) ?_
          refine XR 1 ?_
          refine XL_split (bif (bif (bif (bif (!y12.2) then true else (!((y12.1.1 == y6.1.1) && ((y12.1.2.1 == y6.1.2.1) && (y12.1.2.2 == y6.1.2.2))))) then true else (!y13.2)) then true else (!y14.2)) then true else (!y15.2)) (fun hc20 => ?_) (fun hc20 => ?_)
          ·refine XL_skipF _ rfl rfl (by kernel_rfl) hc20 rfl ?_
           refine XL_skipF _ rfl rfl (by kernel_rfl) hc20 rfl ?_
           refine XL_cons rfl (X_of_Y0 rfl (Y0_pick1 (b := bif (bif (bif (bif (!y12.2) then true else (!((y12.1.1 == y6.1.1) && ((y12.1.2.1 == y6.1.2.1) && (y12.1.2.2 == y6.1.2.2))))) then true else (!y13.2)) then true else (!y14.2)) then true else (!y15.2)) (p := true) (q := !y15.1) rfl (by kernel_rfl) hc20 (by kernel_rfl))) ?_
           refine XL_nil ?_
           subst ht21
           kernel_rfl
          ·refine XL_takeC _ rfl rfl (by kernel_rfl) hc20 (X_of_Y0 rfl (E_move (Bo y15.1) rfl (by kernel_rfl))) ?_
           refine XL_takeC _ rfl rfl (by kernel_rfl) hc20 (X_of_Y0 rfl (Y0_not (b := y15.1) rfl (by kernel_rfl))) ?_
           refine XL_cons rfl (X_of_Y0 rfl (Y0_pick0 (b := bif (bif (bif (bif (!y12.2) then true else (!((y12.1.1 == y6.1.1) && ((y12.1.2.1 == y6.1.2.1) && (y12.1.2.2 == y6.1.2.2))))) then true else (!y13.2)) then true else (!y14.2)) then true else (!y15.2)) (p := true) (q := !y15.1) rfl (by kernel_rfl) hc20 (by kernel_rfl))) ?_
           refine XL_nil ?_
           subst ht21
           kernel_rfl
         ·refine XL_takeC _ rfl rfl (by kernel_rfl) hc19 (X_of_Y0 rfl (E_move (Bo y15.2) rfl (by kernel_rfl))) ?_
          refine XL_takeC _ rfl rfl (by kernel_rfl) hc19 (X_of_Y0 rfl (Y0_not (b := y15.2) rfl (by kernel_rfl))) ?_
          refine XL_cons rfl (X_of_Y0 rfl (Y0_pick0 (b := bif (bif (bif (!y12.2) then true else (!((y12.1.1 == y6.1.1) && ((y12.1.2.1 == y6.1.2.1) && (y12.1.2.2 == y6.1.2.2))))) then true else (!y13.2)) then true else (!y14.2)) (p := true) (q := !y15.2) rfl (by kernel_rfl) hc19 (by kernel_rfl))) ?_
          refine XR 1 ?_
          refine XL_split (bif (bif (bif (bif (!y12.2) then true else (!((y12.1.1 == y6.1.1) && ((y12.1.2.1 == y6.1.2.1) && (y12.1.2.2 == y6.1.2.2))))) then true else (!y13.2)) then true else (!y14.2)) then true else (!y15.2)) (fun hc20 => ?_) (fun hc20 => ?_)
          ·refine XL_skipF _ rfl rfl (by kernel_rfl) hc20 rfl ?_
           refine XL_skipF _ rfl rfl (by kernel_rfl) hc20 rfl ?_
           refine XL_cons rfl (X_of_Y0 rfl (Y0_pick1 (b := bif (bif (bif (bif (!y12.2) then true else (!((y12.1.1 == y6.1.1) && ((y12.1.2.1 == y6.1.2.1) && (y12.1.2.2 == y6.1.2.2))))) then true else (!y13.2)) then true else (!y14.2)) then true else (!y15.2)) (p := true) (q := !y15.1) rfl (by kernel_rfl) hc20 (by kernel_rfl))) ?_
           refine XL_nil ?_
           subst ht21
           kernel_rfl
          ·refine XL_takeC _ rfl rfl (by kernel_rfl) hc20 (X_of_Y0 rfl (E_move (Bo y15.1) rfl (by kernel_rfl))) ?_
           refine XL_takeC _ rfl rfl (by kernel_rfl) hc20 (X_of_Y0 rfl (Y0_not (b := y15.1) rfl (by kernel_rfl))) ?_
           refine XL_cons rfl (X_of_Y0 rfl (Y0_pick0 (b := bif (bif (bif (bif (!y12.2) then true else (!((y12.1.1 == y6.1.1) && ((y12.1.2.1 == y6.1.2.1) && (y12.1.2.2 == y6.1.2.2))))) then true else (!y13.2)) then true else (!y14.2)) then true else (!y15.2)) (p := true) (q := !y15.1) rfl (by kernel_rfl) hc20 (by kernel_rfl))) ?_
           refine XL_nil ?_
           subst ht21
           kernel_rfl
       ·refine XL_takeC _ rfl rfl (by kernel_rfl) hc17 (X_of_Y0 rfl (E_move (Bo y13.2) rfl (by kernel_rfl))) ?_
        refine XL_takeC _ rfl rfl (by kernel_rfl) hc17 (X_of_Y0 rfl (Y0_not (b := y13.2) rfl (by kernel_rfl))) ?_
        refine XL_cons rfl (X_of_Y0 rfl (Y0_pick0 (b := bif (!y12.2) then true else (!((y12.1.1 == y6.1.1) && ((y12.1.2.1 == y6.1.2.1) && (y12.1.2.2 == y6.1.2.2))))) (p := true) (q := !y13.2) rfl (by kernel_rfl) hc17 (by kernel_rfl))) ?_
        refine XR 1 ?_
        refine XL_split (bif (bif (!y12.2) then true else (!((y12.1.1 == y6.1.1) && ((y12.1.2.1 == y6.1.2.1) && (y12.1.2.2 == y6.1.2.2))))) then true else (!y13.2)) (fun hc18 => ?_) (fun hc18 => ?_)
        ·refine XL_skipF _ rfl rfl (by kernel_rfl) hc18 rfl ?_
         refine XL_skipF _ rfl rfl (by kernel_rfl) hc18 rfl ?_
         refine XL_cons rfl (X_of_Y0 rfl (Y0_pick1 (b := bif (bif (!y12.2) then true else (!((y12.1.1 == y6.1.1) && ((y12.1.2.1 == y6.1.2.1) && (y12.1.2.2 == y6.1.2.2))))) then true else (!y13.2)) (p := true) (q := !y14.2) rfl (by kernel_rfl) hc18 (by kernel_rfl))) ?_
         refine XR 1 ?_
         refine XL_split (bif (bif (bif (!y12.2) then true else (!((y12.1.1 == y6.1.1) && ((y12.1.2.1 == y6.1.2.1) && (y12.1.2.2 == y6.1.2.2))))) then true else (!y13.2)) then true else (!y14.2)) (fun hc19 => ?_) (fun hc19 => ?_)
         ·refine XL_skipF _ rfl rfl (by kernel_rfl) hc19 rfl ?_
          refine XL_skipF _ rfl rfl (by kernel_rfl) hc19 rfl ?_
          refine XL_cons rfl (X_of_Y0 rfl (Y0_pick1 (b := bif (bif (bif (!y12.2) then true else (!((y12.1.1 == y6.1.1) && ((y12.1.2.1 == y6.1.2.1) && (y12.1.2.2 == y6.1.2.2))))) then true else (!y13.2)) then true else (!y14.2)) (p := true) (q := !y15.2) rfl (by kernel_rfl) hc19 (by kernel_rfl))) ?_
          refine XR 1 ?_
          refine XL_split (bif (bif (bif (bif (!y12.2) then true else (!((y12.1.1 == y6.1.1) && ((y12.1.2.1 == y6.1.2.1) && (y12.1.2.2 == y6.1.2.2))))) then true else (!y13.2)) then true else (!y14.2)) then true else (!y15.2)) (fun hc20 => ?_) (fun hc20 => ?_)
          ·refine XL_skipF _ rfl rfl (by kernel_rfl) hc20 rfl ?_
           refine XL_skipF _ rfl rfl (by kernel_rfl) hc20 rfl ?_
           refine XL_cons rfl (X_of_Y0 rfl (Y0_pick1 (b := bif (bif (bif (bif (!y12.2) then true else (!((y12.1.1 == y6.1.1) && ((y12.1.2.1 == y6.1.2.1) && (y12.1.2.2 == y6.1.2.2))))) then true else (!y13.2)) then true else (!y14.2)) then true else (!y15.2)) (p := true) (q := !y15.1) rfl (by kernel_rfl) hc20 (by kernel_rfl))) ?_
           refine XL_nil ?_
           subst ht21
           kernel_rfl
          ·refine XL_takeC _ rfl rfl (by kernel_rfl) hc20 (X_of_Y0 rfl (E_move (Bo y15.1) rfl (by kernel_rfl))) ?_
           refine XL_takeC _ rfl rfl (by kernel_rfl) hc20 (X_of_Y0 rfl (Y0_not (b := y15.1) rfl (by kernel_rfl))) ?_
           refine XL_cons rfl (X_of_Y0 rfl (Y0_pick0 (b := bif (bif (bif (bif (!y12.2) then true else (!((y12.1.1 == y6.1.1) && ((y12.1.2.1 == y6.1.2.1) && (y12.1.2.2 == y6.1.2.2))))) then true else (!y13.2)) then true else (!y14.2)) then true else (!y15.2)) (p := true) (q := !y15.1) rfl (by kernel_rfl) hc20 (by kernel_rfl))) ?_
           refine XL_nil ?_
           subst ht21
           kernel_rfl
         ·refine XL_takeC _ rfl rfl (by kernel_rfl) hc19 (X_of_Y0 rfl (E_move (Bo y15.2) rfl (by kernel_rfl))) ?_
          refine XL_takeC _ rfl rfl (by kernel_rfl) hc19 (X_of_Y0 rfl (Y0_not (b := y15.2) rfl (by kernel_rfl))) ?_
          refine XL_cons rfl (X_of_Y0 rfl (Y0_pick0 (b := bif (bif (bif (!y12.2) then true else (!((y12.1.1 == y6.1.1) && ((y12.1.2.1 == y6.1.2.1) && (y12.1.2.2 == y6.1.2.2))))) then true else (!y13.2)) then true else (!y14.2)) (p := true) (q := !y15.2) rfl (by kernel_rfl) hc19 (by kernel_rfl))) ?_
          refine XR 1 ?_
          refine XL_split (bif (bif (bif (bif (!y12.2) then true else (!((y12.1.1 == y6.1.1) && ((y12.1.2.1 == y6.1.2.1) && (y12.1.2.2 == y6.1.2.2))))) then true else (!y13.2)) then true else (!y14.2)) then true else (!y15.2)) (fun hc20 => ?_) (fun hc20 => ?_)
          ·refine XL_skipF _ rfl rfl (by kernel_rfl) hc20 rfl ?_
           refine XL_skipF _ rfl rfl (by kernel_rfl) hc20 rfl ?_
           refine XL_cons rfl (X_of_Y0 rfl (Y0_pick1 (b := bif (bif (bif (bif (!y12.2) then true else (!((y12.1.1 == y6.1.1) && ((y12.1.2.1 == y6.1.2.1) && (y12.1.2.2 == y6.1.2.2))))) then true else (!y13.2)) then true else (!y14.2)) then true else (!y15.2)) (p := true) (q := !y15.1) rfl (by kernel_rfl) hc20 (by kernel_rfl))) ?_
           refine XL_nil ?_
           subst ht21
           kernel_rfl
          ·refine XL_takeC _ rfl rfl (by kernel_rfl) hc20 (X_of_Y0 rfl (E_move (Bo y15.1) rfl (by kernel_rfl))) ?_
           refine XL_takeC _ rfl rfl (by kernel_rfl) hc20 (X_of_Y0 rfl (Y0_not (b := y15.1) rfl (by kernel_rfl))) ?_
           refine XL_cons rfl (X_of_Y0 rfl (Y0_pick0 (b := bif (bif (bif (bif (!y12.2) then true else (!((y12.1.1 == y6.1.1) && ((y12.1.2.1 == y6.1.2.1) && (y12.1.2.2 == y6.1.2.2))))) then true else (!y13.2)) then true else (!y14.2)) then true else (!y15.2)) (p := true) (q := !y15.1) rfl (by kernel_rfl) hc20 (by kernel_rfl))) ?_
           refine XL_nil ?_
           subst ht21
           kernel_rfl
        ·refine XL_takeC _ rfl rfl (by kernel_rfl) hc18 (X_of_Y0 rfl (E_move (Bo y14.2) rfl (by kernel_rfl))) ?_
         refine XL_takeC _ rfl rfl (by kernel_rfl) hc18 (X_of_Y0 rfl (Y0_not (b := y14.2) rfl (by kernel_rfl))) ?_
         refine XL_cons rfl (X_of_Y0 rfl (Y0_pick0 (b := bif (bif (!y12.2) then true else (!((y12.1.1 == y6.1.1) && ((y12.1.2.1 == y6.1.2.1) && (y12.1.2.2 == y6.1.2.2))))) then true else (!y13.2)) (p := true) (q := !y14.2) rfl (by kernel_rfl) hc18 (by kernel_rfl))) ?_
         refine XR 1 ?_
         refine XL_split (bif (bif (bif (!y12.2) then true else (!((y12.1.1 == y6.1.1) && ((y12.1.2.1 == y6.1.2.1) && (y12.1.2.2 == y6.1.2.2))))) then true else (!y13.2)) then true else (!y14.2)) (fun hc19 => ?_) (fun hc19 => ?_)
         ·refine XL_skipF _ rfl rfl (by kernel_rfl) hc19 rfl ?_
          refine XL_skipF _ rfl rfl (by kernel_rfl) hc19 rfl ?_
          refine XL_cons rfl (X_of_Y0 rfl (Y0_pick1 (b := bif (bif (bif (!y12.2) then true else (!((y12.1.1 == y6.1.1) && ((y12.1.2.1 == y6.1.2.1) && (y12.1.2.2 == y6.1.2.2))))) then true else (!y13.2)) then true else (!y14.2)) (p := true) (q := !y15.2) rfl (by kernel_rfl) hc19 (by kernel_rfl))) ?_
          refine XR 1 ?_
          refine XL_split (bif (bif (bif (bif (!y12.2) then true else (!((y12.1.1 == y6.1.1) && ((y12.1.2.1 == y6.1.2.1) && (y12.1.2.2 == y6.1.2.2))))) then true else (!y13.2)) then true else (!y14.2)) then true else (!y15.2)) (fun hc20 => ?_) (fun hc20 => ?_)
          ·refine XL_skipF _ rfl rfl (by kernel_rfl) hc20 rfl ?_
           refine XL_skipF _ rfl rfl (by kernel_rfl) hc20 rfl ?_
           refine XL_cons rfl (X_of_Y0 rfl (Y0_pick1 (b := bif (bif (bif (bif (!y12.2) then true else (!((y12.1.1 == y6.1.1) && ((y12.1.2.1 == y6.1.2.1) && (y12.1.2.2 == y6.1.2.2))))) then true else (!y13.2)) then true else (!y14.2)) then true else (!y15.2)) (p := true) (q := !y15.1) rfl (by kernel_rfl) hc20 (by kernel_rfl))) ?_
           refine XL_nil ?_
           subst ht21
           kernel_rfl
          ·refine XL_takeC _ rfl rfl (by kernel_rfl) hc20 (X_of_Y0 rfl (E_move (Bo y15.1) rfl (by kernel_rfl))) ?_
           refine XL_takeC _ rfl rfl (by kernel_rfl) hc20 (X_of_Y0 rfl (Y0_not (b := y15.1) rfl (by kernel_rfl))) ?_
           refine XL_cons rfl (X_of_Y0 rfl (Y0_pick0 (b := bif (bif (bif (bif (!y12.2) then true else (!((y12.1.1 == y6.1.1) && ((y12.1.2.1 == y6.1.2.1) && (y12.1.2.2 == y6.1.2.2))))) then true else (!y13.2)) then true else (!y14.2)) then true else (!y15.2)) (p := true) (q := !y15.1) rfl (by kernel_rfl) hc20 (by kernel_rfl))) ?_
           refine XL_nil ?_
           subst ht21
           kernel_rfl
         ·refine XL_takeC _ rfl rfl (by kernel_rfl) hc19 (X_of_Y0 rfl (E_move (Bo y15.2) rfl (by kernel_rfl))) ?_
          refine XL_takeC _ rfl rfl (by kernel_rfl) hc19 (X_of_Y0 rfl (Y0_not (b := y15.2) rfl (by kernel_rfl))) ?_
          refine XL_cons rfl (X_of_Y0 rfl (Y0_pick0 (b := bif (bif (bif (!y12.2) then true else (!((y12.1.1 == y6.1.1) && ((y12.1.2.1 == y6.1.2.1) && (y12.1.2.2 == y6.1.2.2))))) then true else (!y13.2)) then true else (!y14.2)) (p := true) (q := !y15.2) rfl (by kernel_rfl) hc19 (by kernel_rfl))) ?_
          refine XR 1 ?_
          refine XL_split (bif (bif (bif (bif (!y12.2) then true else (!((y12.1.1 == y6.1.1) && ((y12.1.2.1 == y6.1.2.1) && (y12.1.2.2 == y6.1.2.2))))) then true else (!y13.2)) then true else (!y14.2)) then true else (!y15.2)) (fun hc20 => ?_) (fun hc20 => ?_)
          ·refine XL_skipF _ rfl rfl (by kernel_rfl) hc20 rfl ?_
           refine XL_skipF _ rfl rfl (by kernel_rfl) hc20 rfl ?_
           refine XL_cons rfl (X_of_Y0 rfl (Y0_pick1 (b := bif (bif (bif (bif (!y12.2) then true else (!((y12.1.1 == y6.1.1) && ((y12.1.2.1 == y6.1.2.1) && (y12.1.2.2 == y6.1.2.2))))) then true else (!y13.2)) then true else (!y14.2)) then true else (!y15.2)) (p := true) (q := !y15.1) rfl (by kernel_rfl) hc20 (by kernel_rfl))) ?_
           refine XL_nil ?_
           subst ht21
           kernel_rfl
          ·refine XL_takeC _ rfl rfl (by kernel_rfl) hc20 (X_of_Y0 rfl (E_move (Bo y15.1) rfl (by kernel_rfl))) ?_
           refine XL_takeC _ rfl rfl (by kernel_rfl) hc20 (X_of_Y0 rfl (Y0_not (b := y15.1) rfl (by kernel_rfl))) ?_
           refine XL_cons rfl (X_of_Y0 rfl (Y0_pick0 (b := bif (bif (bif (bif (!y12.2) then true else (!((y12.1.1 == y6.1.1) && ((y12.1.2.1 == y6.1.2.1) && (y12.1.2.2 == y6.1.2.2))))) then true else (!y13.2)) then true else (!y14.2)) then true else (!y15.2)) (p := true) (q := !y15.1) rfl (by kernel_rfl) hc20 (by kernel_rfl))) ?_
           refine XL_nil ?_
           subst ht21
           kernel_rfl
      ·refine XL_takeC _ rfl rfl (by kernel_rfl) hc16 (X_of_Y0 rfl (E_loadn (cs := [Ti y12.1.1, Ti y12.1.2.1, Ti y12.1.2.2]) [Ti y12.1.1, Ti y12.1.2.1, Ti y12.1.2.2] wd25 rfl (by kernel_rfl) (Nat.le_of_ble_eq_true rfl) (by kernel_rfl))) ?_
       refine XL_takeC _ rfl rfl (by kernel_rfl) hc16 (X_of_Y0 rfl (E_loadn (cs := [Ti y6.1.1, Ti y6.1.2.1, Ti y6.1.2.2]) [Ti y6.1.1, Ti y6.1.2.1, Ti y6.1.2.2] wd25 rfl (by kernel_rfl) (Nat.le_of_ble_eq_true rfl) (by kernel_rfl))) ?_
       refine XL_takeC _ rfl rfl (by kernel_rfl) hc16 (X_of_Y0 rfl (Y0_neg3 (a0 := y12.1.1) (b0 := y6.1.1) (a1 := y12.1.2.1) (b1 := y6.1.2.1) (a2 := y12.1.2.2) (b2 := y6.1.2.2) neg25 rfl (by kernel_rfl) (by kernel_rfl))) ?_
       refine XL_cons rfl (X_of_Y0 rfl (Y0_pick0 (b := !y12.2) (p := true) (q := !((y12.1.1 == y6.1.1) && ((y12.1.2.1 == y6.1.2.1) && (y12.1.2.2 == y6.1.2.2)))) rfl (by kernel_rfl) hc16 (by kernel_rfl))) ?_
       refine XR 1 ?_
       refine XL_split (bif (!y12.2) then true else (!((y12.1.1 == y6.1.1) && ((y12.1.2.1 == y6.1.2.1) && (y12.1.2.2 == y6.1.2.2))))) (fun hc17 => ?_) (fun hc17 => ?_)
       ·refine XL_skipF _ rfl rfl (by kernel_rfl) hc17 rfl ?_
        refine XL_skipF _ rfl rfl (by kernel_rfl) hc17 rfl ?_
        refine XL_cons rfl (X_of_Y0 rfl (Y0_pick1 (b := bif (!y12.2) then true else (!((y12.1.1 == y6.1.1) && ((y12.1.2.1 == y6.1.2.1) && (y12.1.2.2 == y6.1.2.2))))) (p := true) (q := !y13.2) rfl (by kernel_rfl) hc17 (by kernel_rfl))) ?_
        refine XR 1 ?_
        refine XL_split (bif (bif (!y12.2) then true else (!((y12.1.1 == y6.1.1) && ((y12.1.2.1 == y6.1.2.1) && (y12.1.2.2 == y6.1.2.2))))) then true else (!y13.2)) (fun hc18 => ?_) (fun hc18 => ?_)
        ·refine XL_skipF _ rfl rfl (by kernel_rfl) hc18 rfl ?_
         refine XL_skipF _ rfl rfl (by kernel_rfl) hc18 rfl ?_
         refine XL_cons rfl (X_of_Y0 rfl (Y0_pick1 (b := bif (bif (!y12.2) then true else (!((y12.1.1 == y6.1.1) && ((y12.1.2.1 == y6.1.2.1) && (y12.1.2.2 == y6.1.2.2))))) then true else (!y13.2)) (p := true) (q := !y14.2) rfl (by kernel_rfl) hc18 (by kernel_rfl))) ?_
         refine XR 1 ?_
         refine XL_split (bif (bif (bif (!y12.2) then true else (!((y12.1.1 == y6.1.1) && ((y12.1.2.1 == y6.1.2.1) && (y12.1.2.2 == y6.1.2.2))))) then true else (!y13.2)) then true else (!y14.2)) (fun hc19 => ?_) (fun hc19 => ?_)
         ·refine XL_skipF _ rfl rfl (by kernel_rfl) hc19 rfl ?_
          refine XL_skipF _ rfl rfl (by kernel_rfl) hc19 rfl ?_
          refine XL_cons rfl (X_of_Y0 rfl (Y0_pick1 (b := bif (bif (bif (!y12.2) then true else (!((y12.1.1 == y6.1.1) && ((y12.1.2.1 == y6.1.2.1) && (y12.1.2.2 == y6.1.2.2))))) then true else (!y13.2)) then true else (!y14.2)) (p := true) (q := !y15.2) rfl (by kernel_rfl) hc19 (by kernel_rfl))) ?_
          refine XR 1 ?_
          refine XL_split (bif (bif (bif (bif (!y12.2) then true else (!((y12.1.1 == y6.1.1) && ((y12.1.2.1 == y6.1.2.1) && (y12.1.2.2 == y6.1.2.2))))) then true else (!y13.2)) then true else (!y14.2)) then true else (!y15.2)) (fun hc20 => ?_) (fun hc20 => ?_)
          ·refine XL_skipF _ rfl rfl (by kernel_rfl) hc20 rfl ?_
           refine XL_skipF _ rfl rfl (by kernel_rfl) hc20 rfl ?_
           refine XL_cons rfl (X_of_Y0 rfl (Y0_pick1 (b := bif (bif (bif (bif (!y12.2) then true else (!((y12.1.1 == y6.1.1) && ((y12.1.2.1 == y6.1.2.1) && (y12.1.2.2 == y6.1.2.2))))) then true else (!y13.2)) then true else (!y14.2)) then true else (!y15.2)) (p := true) (q := !y15.1) rfl (by kernel_rfl) hc20 (by kernel_rfl))) ?_
           refine XL_nil ?_
           subst ht21
           kernel_rfl
          ·refine XL_takeC _ rfl rfl (by kernel_rfl) hc20 (X_of_Y0 rfl (E_move (Bo y15.1) rfl (by kernel_rfl))) ?_
           refine XL_takeC _ rfl rfl (by kernel_rfl) hc20 (X_of_Y0 rfl (Y0_not (b := y15.1) rfl (by kernel_rfl))) ?_
           refine XL_cons rfl (X_of_Y0 rfl (Y0_pick0 (b := bif (bif (bif (bif (!y12.2) then true else (!((y12.1.1 == y6.1.1) && ((y12.1.2.1 == y6.1.2.1) && (y12.1.2.2 == y6.1.2.2))))) then true else (!y13.2)) then true else (!y14.2)) then true else (!y15.2)) (p := true) (q := !y15.1) rfl (by kernel_rfl) hc20 (by kernel_rfl))) ?_
           refine XL_nil ?_
           subst ht21
           kernel_rfl
         ·refine XL_takeC _ rfl rfl (by kernel_rfl) hc19 (X_of_Y0 rfl (E_move (Bo y15.2) rfl (by kernel_rfl))) ?_
          refine XL_takeC _ rfl rfl (by kernel_rfl) hc19 (X_of_Y0 rfl (Y0_not (b := y15.2) rfl (by kernel_rfl))) ?_
          refine XL_cons rfl (X_of_Y0 rfl (Y0_pick0 (b := bif (bif (bif (!y12.2) then true else (!((y12.1.1 == y6.1.1) && ((y12.1.2.1 == y6.1.2.1) && (y12.1.2.2 == y6.1.2.2))))) then true else (!y13.2)) then true else (!y14.2)) (p := true) (q := !y15.2) rfl (by kernel_rfl) hc19 (by kernel_rfl))) ?_
          refine XR 1 ?_
          refine XL_split (bif (bif (bif (bif (!y12.2) then true else (!((y12.1.1 == y6.1.1) && ((y12.1.2.1 == y6.1.2.1) && (y12.1.2.2 == y6.1.2.2))))) then true else (!y13.2)) then true else (!y14.2)) then true else (!y15.2)) (fun hc20 => ?_) (fun hc20 => ?_)
          ·refine XL_skipF _ rfl rfl (by kernel_rfl) hc20 rfl ?_
           refine XL_skipF _ rfl rfl (by kernel_rfl) hc20 rfl ?_
           refine XL_cons rfl (X_of_Y0 rfl (Y0_pick1 (b := bif (bif (bif (bif (!y12.2) then true else (!((y12.1.1 == y6.1.1) && ((y12.1.2.1 == y6.1.2.1) && (y12.1.2.2 == y6.1.2.2))))) then true else (!y13.2)) then true else (!y14.2)) then true else (!y15.2)) (p := true) (q := !y15.1) rfl (by kernel_rfl) hc20 (by kernel_rfl))) ?_
           refine XL_nil ?_
           subst ht21
           kernel_rfl
          ·refine XL_takeC _ rfl rfl (by kernel_rfl) hc20 (X_of_Y0 rfl (E_move (Bo y15.1) rfl (by kernel_rfl))) ?_
           refine XL_takeC _ rfl rfl (by kernel_rfl) hc20 (X_of_Y0 rfl (Y0_not (b := y15.1) rfl (by kernel_rfl))) ?_
           refine XL_cons rfl (X_of_Y0 rfl (Y0_pick0 (b := bif (bif (bif (bif (!y12.2) then true else (!((y12.1.1 == y6.1.1) && ((y12.1.2.1 == y6.1.2.1) && (y12.1.2.2 == y6.1.2.2))))) then true else (!y13.2)) then true else (!y14.2)) then true else (!y15.2)) (p := true) (q := !y15.1) rfl (by kernel_rfl) hc20 (by kernel_rfl))) ?_
           refine XL_nil ?_
           subst ht21
           kernel_rfl
        ·refine XL_takeC _ rfl rfl (by kernel_rfl) hc18 (X_of_Y0 rfl (E_move (Bo y14.2) rfl (by kernel_rfl))) ?_
         refine XL_takeC _ rfl rfl (by kernel_rfl) hc18 (X_of_Y0 rfl (Y0_not (b := y14.2) rfl (by kernel_rfl))) ?_
         refine XL_cons rfl (X_of_Y0 rfl (Y0_pick0 (b := bif (bif (!y12.2) then true else (!((y12.1.1 == y6.1.1) && ((y12.1.2.1 == y6.1.2.1) && (y12.1.2.2 == y6.1.2.2))))) then true else (!y13.2)) (p := true) (q := !y14.2) rfl (by kernel_rfl) hc18 (by kernel_rfl))) ?_
         refine XR 1 ?_
         refine XL_split (bif (bif (bif (!y12.2) then true else (!((y12.1.1 == y6.1.1) && ((y12.1.2.1 == y6.1.2.1) && (y12.1.2.2 == y6.1.2.2))))) then true else (!y13.2)) then true else (!y14.2)) (fun hc19 => ?_) (fun hc19 => ?_)
         ·refine XL_skipF _ rfl rfl (by kernel_rfl) hc19 rfl ?_
          refine XL_skipF _ rfl rfl (by kernel_rfl) hc19 rfl ?_
          refine XL_cons rfl (X_of_Y0 rfl (Y0_pick1 (b := bif (bif (bif (!y12.2) then true else (!((y12.1.1 == y6.1.1) && ((y12.1.2.1 == y6.1.2.1) && (y12.1.2.2 == y6.1.2.2))))) then true else (!y13.2)) then true else (!y14.2)) (p := true) (q := !y15.2) rfl (by kernel_rfl) hc19 (by kernel_rfl))) ?_
          refine XR 1 ?_
          refine XL_split (bif (bif (bif (bif (!y12.2) then true else (!((y12.1.1 == y6.1.1) && ((y12.1.2.1 == y6.1.2.1) && (y12.1.2.2 == y6.1.2.2))))) then true else (!y13.2)) then true else (!y14.2)) then true else (!y15.2)) (fun hc20 => ?_) (fun hc20 => ?_)
          ·refine XL_skipF _ rfl rfl (by kernel_rfl) hc20 rfl ?_
           refine XL_skipF _ rfl rfl (by kernel_rfl) hc20 rfl ?_
           refine XL_cons rfl (X_of_Y0 rfl (Y0_pick1 (b := bif (bif (bif (bif (!y12.2) then true else (!((y12.1.1 == y6.1.1) && ((y12.1.2.1 == y6.1.2.1) && (y12.1.2.2 == y6.1.2.2))))) then true else (!y13.2)) then true else (!y14.2)) then true else (!y15.2)) (p := true) (q := !y15.1) rfl (by kernel_rfl) hc20 (by kernel_rfl))) ?_
           refine XL_nil ?_
           subst ht21
           kernel_rfl
          ·refine XL_takeC _ rfl rfl (by kernel_rfl) hc20 (X_of_Y0 rfl (E_move (Bo y15.1) rfl (by kernel_rfl))) ?_
           refine XL_takeC _ rfl rfl (by kernel_rfl) hc20 (X_of_Y0 rfl (Y0_not (b := y15.1) rfl (by kernel_rfl))) ?_
           refine XL_cons rfl (X_of_Y0 rfl (Y0_pick0 (b := bif (bif (bif (bif (!y12.2) then true else (!((y12.1.1 == y6.1.1) && ((y12.1.2.1 == y6.1.2.1) && (y12.1.2.2 == y6.1.2.2))))) then true else (!y13.2)) then true else (!y14.2)) then true else (!y15.2)) (p := true) (q := !y15.1) rfl (by kernel_rfl) hc20 (by kernel_rfl))) ?_
           refine XL_nil ?_
           subst ht21
           kernel_rfl
         ·refine XL_takeC _ rfl rfl (by kernel_rfl) hc19 (X_of_Y0 rfl (E_move (Bo y15.2) rfl (by kernel_rfl))) ?_
          refine XL_takeC _ rfl rfl (by kernel_rfl) hc19 (X_of_Y0 rfl (Y0_not (b := y15.2) rfl (by kernel_rfl))) ?_
          refine XL_cons rfl (X_of_Y0 rfl (Y0_pick0 (b := bif (bif (bif (!y12.2) then true else (!((y12.1.1 == y6.1.1) && ((y12.1.2.1 == y6.1.2.1) && (y12.1.2.2 == y6.1.2.2))))) then true else (!y13.2)) then true else (!y14.2)) (p := true) (q := !y15.2) rfl (by kernel_rfl) hc19 (by kernel_rfl))) ?_
          refine XR 1 ?_
          refine XL_split (bif (bif (bif (bif (!y12.2) then true else (!((y12.1.1 == y6.1.1) && ((y12.1.2.1 == y6.1.2.1) && (y12.1.2.2 == y6.1.2.2))))) then true else (!y13.2)) then true else (!y14.2)) then true else (!y15.2)) (fun hc20 => ?_) (fun hc20 => ?_)
          ·refine XL_skipF _ rfl rfl (by kernel_rfl) hc20 rfl ?_
           refine XL_skipF _ rfl rfl (by kernel_rfl) hc20 rfl ?_
           refine XL_cons rfl (X_of_Y0 rfl (Y0_pick1 (b := bif (bif (bif (bif (!y12.2) then true else (!((y12.1.1 == y6.1.1) && ((y12.1.2.1 == y6.1.2.1) && (y12.1.2.2 == y6.1.2.2))))) then true else (!y13.2)) then true else (!y14.2)) then true else (!y15.2)) (p := true) (q := !y15.1) rfl (by kernel_rfl) hc20 (by kernel_rfl))) ?_
           refine XL_nil ?_
           subst ht21
           kernel_rfl
          ·refine XL_takeC _ rfl rfl (by kernel_rfl) hc20 (X_of_Y0 rfl (E_move (Bo y15.1) rfl (by kernel_rfl))) ?_
           refine XL_takeC _ rfl rfl (by kernel_rfl) hc20 (X_of_Y0 rfl (Y0_not (b := y15.1) rfl (by kernel_rfl))) ?_
           refine XL_cons rfl (X_of_Y0 rfl (Y0_pick0 (b := bif (bif (bif (bif (!y12.2) then true else (!((y12.1.1 == y6.1.1) && ((y12.1.2.1 == y6.1.2.1) && (y12.1.2.2 == y6.1.2.2))))) then true else (!y13.2)) then true else (!y14.2)) then true else (!y15.2)) (p := true) (q := !y15.1) rfl (by kernel_rfl) hc20 (by kernel_rfl))) ?_
           refine XL_nil ?_
           subst ht21
           kernel_rfl
       ·refine XL_takeC _ rfl rfl (by kernel_rfl) hc17 (X_of_Y0 rfl (E_move (Bo y13.2) rfl (by kernel_rfl))) ?_
        refine XL_takeC _ rfl rfl (by kernel_rfl) hc17 (X_of_Y0 rfl (Y0_not (b := y13.2) rfl (by kernel_rfl))) ?_
        refine XL_cons rfl (X_of_Y0 rfl (Y0_pick0 (b := bif (!y12.2) then true else (!((y12.1.1 == y6.1.1) && ((y12.1.2.1 == y6.1.2.1) && (y12.1.2.2 == y6.1.2.2))))) (p := true) (q := !y13.2) rfl (by kernel_rfl) hc17 (by kernel_rfl))) ?_
        refine XR 1 ?_
        refine XL_split (bif (bif (!y12.2) then true else (!((y12.1.1 == y6.1.1) && ((y12.1.2.1 == y6.1.2.1) && (y12.1.2.2 == y6.1.2.2))))) then true else (!y13.2)) (fun hc18 => ?_) (fun hc18 => ?_)
        ·refine XL_skipF _ rfl rfl (by kernel_rfl) hc18 rfl ?_
         refine XL_skipF _ rfl rfl (by kernel_rfl) hc18 rfl ?_
         refine XL_cons rfl (X_of_Y0 rfl (Y0_pick1 (b := bif (bif (!y12.2) then true else (!((y12.1.1 == y6.1.1) && ((y12.1.2.1 == y6.1.2.1) && (y12.1.2.2 == y6.1.2.2))))) then true else (!y13.2)) (p := true) (q := !y14.2) rfl (by kernel_rfl) hc18 (by kernel_rfl))) ?_
         refine XR 1 ?_
         refine XL_split (bif (bif (bif (!y12.2) then true else (!((y12.1.1 == y6.1.1) && ((y12.1.2.1 == y6.1.2.1) && (y12.1.2.2 == y6.1.2.2))))) then true else (!y13.2)) then true else (!y14.2)) (fun hc19 => ?_) (fun hc19 => ?_)
         ·refine XL_skipF _ rfl rfl (by kernel_rfl) hc19 rfl ?_
          refine XL_skipF _ rfl rfl (by kernel_rfl) hc19 rfl ?_
          refine XL_cons rfl (X_of_Y0 rfl (Y0_pick1 (b := bif (bif (bif (!y12.2) then true else (!((y12.1.1 == y6.1.1) && ((y12.1.2.1 == y6.1.2.1) && (y12.1.2.2 == y6.1.2.2))))) then true else (!y13.2)) then true else (!y14.2)) (p := true) (q := !y15.2) rfl (by kernel_rfl) hc19 (by kernel_rfl))) ?_
          refine XR 1 ?_
          refine XL_split (bif (bif (bif (bif (!y12.2) then true else (!((y12.1.1 == y6.1.1) && ((y12.1.2.1 == y6.1.2.1) && (y12.1.2.2 == y6.1.2.2))))) then true else (!y13.2)) then true else (!y14.2)) then true else (!y15.2)) (fun hc20 => ?_) (fun hc20 => ?_)
          ·refine XL_skipF _ rfl rfl (by kernel_rfl) hc20 rfl ?_
           refine XL_skipF _ rfl rfl (by kernel_rfl) hc20 rfl ?_
           refine XL_cons rfl (X_of_Y0 rfl (Y0_pick1 (b := bif (bif (bif (bif (!y12.2) then true else (!((y12.1.1 == y6.1.1) && ((y12.1.2.1 == y6.1.2.1) && (y12.1.2.2 == y6.1.2.2))))) then true else (!y13.2)) then true else (!y14.2)) then true else (!y15.2)) (p := true) (q := !y15.1) rfl (by kernel_rfl) hc20 (by kernel_rfl))) ?_
           refine XL_nil ?_
           subst ht21
           kernel_rfl
          ·refine XL_takeC _ rfl rfl (by kernel_rfl) hc20 (X_of_Y0 rfl (E_move (Bo y15.1) rfl (by kernel_rfl))) ?_
           refine XL_takeC _ rfl rfl (by kernel_rfl) hc20 (X_of_Y0 rfl (Y0_not (b := y15.1) rfl (by kernel_rfl))) ?_
           refine XL_cons rfl (X_of_Y0 rfl (Y0_pick0 (b := bif (bif (bif (bif (!y12.2) then true else (!((y12.1.1 == y6.1.1) && ((y12.1.2.1 == y6.1.2.1) && (y12.1.2.2 == y6.1.2.2))))) then true else (!y13.2)) then true else (!y14.2)) then true else (!y15.2)) (p := true) (q := !y15.1) rfl (by kernel_rfl) hc20 (by kernel_rfl))) ?_
           refine XL_nil ?_
           subst ht21
           kernel_rfl
         ·refine XL_takeC _ rfl rfl (by kernel_rfl) hc19 (X_of_Y0 rfl (E_move (Bo y15.2) rfl (by kernel_rfl))) ?_
          refine XL_takeC _ rfl rfl (by kernel_rfl) hc19 (X_of_Y0 rfl (Y0_not (b := y15.2) rfl (by kernel_rfl))) ?_
          refine XL_cons rfl (X_of_Y0 rfl (Y0_pick0 (b := bif (bif (bif (!y12.2) then true else (!((y12.1.1 == y6.1.1) && ((y12.1.2.1 == y6.1.2.1) && (y12.1.2.2 == y6.1.2.2))))) then true else (!y13.2)) then true else (!y14.2)) (p := true) (q := !y15.2) rfl (by kernel_rfl) hc19 (by kernel_rfl))) ?_
          refine XR 1 ?_
          refine XL_split (bif (bif (bif (bif (!y12.2) then true else (!((y12.1.1 == y6.1.1) && ((y12.1.2.1 == y6.1.2.1) && (y12.1.2.2 == y6.1.2.2))))) then true else (!y13.2)) then true else (!y14.2)) then true else (!y15.2)) (fun hc20 => ?_) (fun hc20 => ?_)
          ·refine XL_skipF _ rfl rfl (by kernel_rfl) hc20 rfl ?_
           refine XL_skipF _ rfl rfl (by kernel_rfl) hc20 rfl ?_
           refine XL_cons rfl (X_of_Y0 rfl (Y0_pick1 (b := bif (bif (bif (bif (!y12.2) then true else (!((y12.1.1 == y6.1.1) && ((y12.1.2.1 == y6.1.2.1) && (y12.1.2.2 == y6.1.2.2))))) then true else (!y13.2)) then true else (!y14.2)) then true else (!y15.2)) (p := true) (q := !y15.1) rfl (by kernel_rfl) hc20 (by kernel_rfl))) ?_
           refine XL_nil ?_
           subst ht21
           kernel_rfl
          ·refine XL_takeC _ rfl rfl (by kernel_rfl) hc20 (X_of_Y0 rfl (E_move (Bo y15.1) rfl (by kernel_rfl))) ?_
           refine XL_takeC _ rfl rfl (by kernel_rfl) hc20 (X_of_Y0 rfl (Y0_not (b := y15.1) rfl (by kernel_rfl))) ?_
           refine XL_cons rfl (X_of_Y0 rfl (Y0_pick0 (b := bif (bif (bif (bif (!y12.2) then true else (!((y12.1.1 == y6.1.1) && ((y12.1.2.1 == y6.1.2.1) && (y12.1.2.2 == y6.1.2.2))))) then true else (!y13.2)) then true else (!y14.2)) then true else (!y15.2)) (p := true) (q := !y15.1) rfl (by kernel_rfl) hc20 (by kernel_rfl))) ?_
           refine XL_nil ?_
           subst ht21
           kernel_rfl
        ·refine XL_takeC _ rfl rfl (by kernel_rfl) hc18 (X_of_Y0 rfl (E_move (Bo y14.2) rfl (by kernel_rfl))) ?_
         refine XL_takeC _ rfl rfl (by kernel_rfl) hc18 (X_of_Y0 rfl (Y0_not (b := y14.2) rfl (by kernel_rfl))) ?_
         refine XL_cons rfl (X_of_Y0 rfl (Y0_pick0 (b := bif (bif (!y12.2) then true else (!((y12.1.1 == y6.1.1) && ((y12.1.2.1 == y6.1.2.1) && (y12.1.2.2 == y6.1.2.2))))) then true else (!y13.2)) (p := true) (q := !y14.2) rfl (by kernel_rfl) hc18 (by kernel_rfl))) ?_
         refine XR 1 ?_
         refine XL_split (bif (bif (bif (!y12.2) then true else (!((y12.1.1 == y6.1.1) && ((y12.1.2.1 == y6.1.2.1) && (y12.1.2.2 == y6.1.2.2))))) then true else (!y13.2)) then true else (!y14.2)) (fun hc19 => ?_) (fun hc19 => ?_)
         ·refine XL_skipF _ rfl rfl (by kernel_rfl) hc19 rfl ?_
          refine XL_skipF _ rfl rfl (by kernel_rfl) hc19 rfl ?_
          refine XL_cons rfl (X_of_Y0 rfl (Y0_pick1 (b := bif (bif (bif (!y12.2) then true else (!((y12.1.1 == y6.1.1) && ((y12.1.2.1 == y6.1.2.1) && (y12.1.2.2 == y6.1.2.2))))) then true else (!y13.2)) then true else (!y14.2)) (p := true) (q := !y15.2) rfl (by kernel_rfl) hc19 (by kernel_rfl))) ?_
          refine XR 1 ?_
          refine XL_split (bif (bif (bif (bif (!y12.2) then true else (!((y12.1.1 == y6.1.1) && ((y12.1.2.1 == y6.1.2.1) && (y12.1.2.2 == y6.1.2.2))))) then true else (!y13.2)) then true else (!y14.2)) then true else (!y15.2)) (fun hc20 => ?_) (fun hc20 => ?_)
          ·refine XL_skipF _ rfl rfl (by kernel_rfl) hc20 rfl ?_
           refine XL_skipF _ rfl rfl (by kernel_rfl) hc20 rfl ?_
           refine XL_cons rfl (X_of_Y0 rfl (Y0_pick1 (b := bif (bif (bif (bif (!y12.2) then true else (!((y12.1.1 == y6.1.1) && ((y12.1.2.1 == y6.1.2.1) && (y12.1.2.2 == y6.1.2.2))))) then true else (!y13.2)) then true else (!y14.2)) then true else (!y15.2)) (p := true) (q := !y15.1) rfl (by kernel_rfl) hc20 (by kernel_rfl))) ?_
           refine XL_nil ?_
           subst ht21
           kernel_rfl
          ·refine XL_takeC _ rfl rfl (by kernel_rfl) hc20 (X_of_Y0 rfl (E_move (Bo y15.1) rfl (by kernel_rfl))) ?_
           refine XL_takeC _ rfl rfl (by kernel_rfl) hc20 (X_of_Y0 rfl (Y0_not (b := y15.1) rfl (by kernel_rfl))) ?_
           refine XL_cons rfl (X_of_Y0 rfl (Y0_pick0 (b := bif (bif (bif (bif (!y12.2) then true else (!((y12.1.1 == y6.1.1) && ((y12.1.2.1 == y6.1.2.1) && (y12.1.2.2 == y6.1.2.2))))) then true else (!y13.2)) then true else (!y14.2)) then true else (!y15.2)) (p := true) (q := !y15.1) rfl (by kernel_rfl) hc20 (by kernel_rfl))) ?_
           refine XL_nil ?_
           subst ht21
           kernel_rfl
         ·refine XL_takeC _ rfl rfl (by kernel_rfl) hc19 (X_of_Y0 rfl (E_move (Bo y15.2) rfl (by kernel_rfl))) ?_
          refine XL_takeC _ rfl rfl (by kernel_rfl) hc19 (X_of_Y0 rfl (Y0_not (b := y15.2) rfl (by kernel_rfl))) ?_
          refine XL_cons rfl (X_of_Y0 rfl (Y0_pick0 (b := bif (bif (bif (!y12.2) then true else (!((y12.1.1 == y6.1.1) && ((y12.1.2.1 == y6.1.2.1) && (y12.1.2.2 == y6.1.2.2))))) then true else (!y13.2)) then true else (!y14.2)) (p := true) (q := !y15.2) rfl (by kernel_rfl) hc19 (by kernel_rfl))) ?_
          refine XR 1 ?_
          refine XL_split (bif (bif (bif (bif (!y12.2) then true else (!((y12.1.1 == y6.1.1) && ((y12.1.2.1 == y6.1.2.1) && (y12.1.2.2 == y6.1.2.2))))) then true else (!y13.2)) then true else (!y14.2)) then true else (!y15.2)) (fun hc20 => ?_) (fun hc20 => ?_)
          ·refine XL_skipF _ rfl rfl (by kernel_rfl) hc20 rfl ?_
           refine XL_skipF _ rfl rfl (by kernel_rfl) hc20 rfl ?_
           refine XL_cons rfl (X_of_Y0 rfl (Y0_pick1 (b := bif (bif (bif (bif (!y12.2) then true else (!((y12.1.1 == y6.1.1) && ((y12.1.2.1 == y6.1.2.1) && (y12.1.2.2 == y6.1.2.2))))) then true else (!y13.2)) then true else (!y14.2)) then true else (!y15.2)) (p := true) (q := !y15.1) rfl (by kernel_rfl) hc20 (by kernel_rfl))) ?_
           refine XL_nil ?_
           subst ht21
           kernel_rfl
          ·refine XL_takeC _ rfl rfl (by kernel_rfl) hc20 (X_of_Y0 rfl (E_move (Bo y15.1) rfl (by kernel_rfl))) ?_
           refine XL_takeC _ rfl rfl (by kernel_rfl) hc20 (X_of_Y0 rfl (Y0_not (b := y15.1) rfl (by kernel_rfl))) ?_
           refine XL_cons rfl (X_of_Y0 rfl (Y0_pick0 (b := bif (bif (bif (bif (!y12.2) then true else (!((y12.1.1 == y6.1.1) && ((y12.1.2.1 == y6.1.2.1) && (y12.1.2.2 == y6.1.2.2))))) then true else (!y13.2)) then true else (!y14.2)) then true else (!y15.2)) (p := true) (q := !y15.1) rfl (by kernel_rfl) hc20 (by kernel_rfl))) ?_
           refine XL_nil ?_
           subst ht21
           kernel_rfl
     refine V_cond rfl (fun hc22 => ?_) (fun hc22 => ?_)
     ·have h := of_true h hc22
      refine V_e (mb 230 16) [] (s1 := ⟨bt 4 (Bo false :: bt 225 []), []⟩) ?_
      refine V_ret ?_
      obtain rfl := some_inj h
      show Post _ _ _ _ _
      exact ⟨.inr rfl, rfl, rfl, rfl⟩
     ·have h := of_false h hc22
      refine V_skip ?_
      show V _ _ _ _
      obtain ⟨y23, hy23, h⟩ := of_bind h
      refine V_sreg (mb 230 1572962) [152, 48, 40] (s1 := ⟨.bot :: .c (.sl (more2.map c5)) :: bt 3 (.pt 40 0 :: .pt 48 0 :: bt 12 (.pt 152 0 :: Bo y23.2 :: bt 209 [])), [(152, .box [Ti y23.1.1, Ti y23.1.2.1, Ti y23.1.2.2]), (48, .box [Ti y5.2.1, Ti y5.2.2.1, Ti y5.2.2.2]), (40, .box [Ti y5.1.1, Ti y5.1.2.1, Ti y5.1.2.2])]⟩) ?_ ?_
      ·refine XR 2 ?_
       refine XC (s_impl_ComposeForms hy23) cf_impl_ComposeForms rfl rfl rfl ?_
       exact XE
      obtain ⟨y24, hy24, h⟩ := of_bind h
      refine V_sreg (mb 230 7864418) [168, 152, 48, 40] (s1 := ⟨.bot :: .c (.sl (more2.map c5)) :: bt 3 (.pt 40 0 :: .pt 48 0 :: bt 12 (.pt 152 0 :: Bo y23.2 :: .pt 168 0 :: Bo y24.2 :: bt 207 [])), [(168, .box [Ti y24.1.1, Ti y24.1.2.1, Ti y24.1.2.2]), (152, .box [Ti y23.1.1, Ti y23.1.2.1, Ti y23.1.2.2]), (48, .box [Ti y5.2.1, Ti y5.2.2.1, Ti y5.2.2.2]), (40, .box [Ti y5.1.1, Ti y5.1.2.1, Ti y5.1.2.2])]⟩) ?_ ?_
      ·refine XR 2 ?_
       refine XC (s_impl_ComposeForms hy24) cf_impl_ComposeForms rfl rfl rfl ?_
       exact XE
      obtain ⟨y25, hy25, h⟩ := of_bind h
      refine V_sreg (mb 230 16252962) [168, 152, 40] (s1 := ⟨.bot :: .c (.sl (more2.map c5)) :: bt 3 (.pt 40 0 :: bt 13 (.pt 152 0 :: Bo y23.2 :: .pt 168 0 :: Bo y24.2 :: Bo y25.2 :: bt 206 [])), [(168, .box [Ti y25.1.1, Ti y25.1.2.1, Ti y25.1.2.2]), (152, .box [Ti y23.1.1, Ti y23.1.2.1, Ti y23.1.2.2]), (40, .box [Ti y5.1.1, Ti y5.1.2.1, Ti y5.1.2.2])]⟩) ?_ ?_
      ·refine XR 2 ?_
       refine XC (s_impl_ComposeForms hy25) cf_impl_ComposeForms rfl rfl rfl ?_
       exact XE
      refine V_seq ?_
      obtain ⟨t29, ht29, h⟩ := of_bind h
      have ht29 := some_inj ht29
      refine V_sreg (mb 230 89202980794122492566142873090593446023921698) [40] (s1 := ⟨.bot :: .c (.sl (more2.map c5)) :: bt 3 (.pt 40 0 :: bt 140 (Bo t29 :: bt 83 [])), [(40, .box [Ti y5.1.1, Ti y5.1.2.1, Ti y5.1.2.2])]⟩) ?_ ?_
      ·refine XR 3 ?_
       refine XL_split (!y23.2) (fun hc26 => ?_) (fun hc26 => ?_)
       ·refine XL_skipF _ rfl rfl (by kernel_rfl) hc26 rfl ?_
        refine XL_skipF _ rfl rfl (by kernel_rfl) hc26 rfl ?_
        refine XL_cons rfl (X_of_Y0 rfl (Y0_pick1 (b := !y23.2) (p := true) (q := !y24.2) rfl (by kernel_rfl) hc26 (by kernel_rfl))) ?_
        refine XR 1 ?_
        refine XL_split (bif (!y23.2) then true else (!y24.2)) (fun hc27 => ?_) (fun hc27 => ?_)
        ·refine XL_skipF _ rfl rfl (by kernel_rfl) hc27 rfl ?_
         refine XL_skipF _ rfl rfl (by kernel_rfl) hc27 rfl ?_
         refine XL_cons rfl (X_of_Y0 rfl (Y0_pick1 (b := bif (!y23.2) then true else (!y24.2)) (p := true) (q := !y25.2) rfl (by kernel_rfl) hc27 (by kernel_rfl))) ?_
         refine XR 1 ?_
         refine XL_split (bif (bif (!y23.2) then true else (!y24.2)) then true else (!y25.2)) (fun hc28 => ?_) (fun hc28 => ?_)
         ·refine XL_skipF _ rfl rfl (by kernel_rfl) hc28 rfl ?_
          refine XL_skipF _ rfl rfl (by kernel_rfl) hc28 rfl ?_
          refine XL_skipF _ rfl rfl (by kernel_rfl) hc28 rfl ?_
          refine XL_cons rfl (X_of_Y0 rfl (Y0_pick1 (b := bif (bif (!y23.2) then true else (!y24.2)) then true else (!y25.2)) (p := true) (q := !((y23.1.1 == y25.1.1) && ((y23.1.2.1 == y25.1.2.1) && (y23.1.2.2 == y25.1.2.2)))) rfl (by kernel_rfl) hc28 (by kernel_rfl))) ?_
          refine XL_nil ?_
          subst ht29
          kernel_rfl
         ·refine XL_takeC _ rfl rfl (by kernel_rfl) hc28 (X_of_Y0 rfl (E_loadn (cs := [Ti y23.1.1, Ti y23.1.2.1, Ti y23.1.2.2]) [Ti y23.1.1, Ti y23.1.2.1, Ti y23.1.2.2] wd25 rfl (by kernel_rfl) (Nat.le_of_ble_eq_true rfl) (by kernel_rfl))) ?_
          refine XL_takeC _ rfl rfl (by kernel_rfl) hc28 (X_of_Y0 rfl (E_loadn (cs := [Ti y25.1.1, Ti y25.1.2.1, Ti y25.1.2.2]) [Ti y25.1.1, Ti y25.1.2.1, Ti y25.1.2.2] wd25 rfl (by kernel_rfl) (Nat.le_of_ble_eq_true rfl) (by kernel_rfl))) ?_
          refine XL_takeC _ rfl rfl (by kernel_rfl) hc28 (X_of_Y0 rfl (Y0_neg3 (a0 := y23.1.1) (b0 := y25.1.1) (a1 := y23.1.2.1) (b1 := y25.1.2.1) (a2 := y23.1.2.2) (b2 := y25.1.2.2) neg25 rfl (by kernel_rfl) (by kernel_rfl))) ?_
          refine XL_cons rfl (X_of_Y0 rfl (Y0_pick0 (b := bif (bif (!y23.2) then true else (!y24.2)) then true else (!y25.2)) (p := true) (q := !((y23.1.1 == y25.1.1) && ((y23.1.2.1 == y25.1.2.1) && (y23.1.2.2 == y25.1.2.2)))) rfl (by kernel_rfl) hc28 (by kernel_rfl))) ?_
          refine XL_nil ?_
          subst ht29
          kernel_rfl
        ·refine XL_takeC _ rfl rfl (by kernel_rfl) hc27 (X_of_Y0 rfl (E_move (Bo y25.2) rfl (by kernel_rfl))) ?_
         refine XL_takeC _ rfl rfl (by kernel_rfl) hc27 (X_of_Y0 rfl (Y0_not (b := y25.2) rfl (by kernel_rfl))) ?_
         refine XL_cons rfl (X_of_Y0 rfl (Y0_pick0 (b := bif (!y23.2) then true else (!y24.2)) (p := true) (q := !y25.2) rfl (by kernel_rfl) hc27 (by kernel_rfl))) ?_
         refine XR 1 ?_
         refine XL_split (bif (bif (!y23.2) then true else (!y24.2)) then true else (!y25.2)) (fun hc28 => ?_) (fun hc28 => ?_)
         ·refine XL_skipF _ rfl rfl (by kernel_rfl) hc28 rfl ?_
          refine XL_skipF _ rfl rfl (by kernel_rfl) hc28 rfl ?_
          refine XL_skipF _ rfl rfl (by kernel_rfl) hc28 rfl ?_
          refine XL_cons rfl (X_of_Y0 rfl (Y0_pick1 (b := bif (bif (!y23.2) then true else (!y24.2)) then true else (!y25.2)) (p := true) (q := !((y23.1.1 == y25.1.1) && ((y23.1.2.1 == y25.1.2.1) && (y23.1.2.2 == y25.1.2.2)))) rfl (by kernel_rfl) hc28 (by kernel_rfl))) ?_
          refine XL_nil ?_
          subst ht29
          kernel_rfl
         ·refine XL_takeC _ rfl rfl (by kernel_rfl) hc28 (X_of_Y0 rfl (E_loadn (cs := [Ti y23.1.1, Ti y23.1.2.1, Ti y23.1.2.2]) [Ti y23.1.1, Ti y23.1.2.1, Ti y23.1.2.2] wd25 rfl (by kernel_rfl) (Nat.le_of_ble_eq_true rfl) (by kernel_rfl))) ?_
          refine XL_takeC _ rfl rfl (by kernel_rfl) hc28 (X_of_Y0 rfl (E_loadn (cs := [Ti y25.1.1, Ti y25.1.2.1, Ti y25.1.2.2]) [Ti y25.1.1, Ti y25.1.2.1, Ti y25.1.2.2] wd25 rfl (by kernel_rfl) (Nat.le_of_ble_eq_true rfl) (by kernel_rfl))) ?_
          refine XL_takeC _ rfl rfl (by kernel_rfl) hc28 (X_of_Y0 rfl (Y0_neg3 (a0 := y23.1.1) (b0 := y25.1.1) (a1 := y23.1.2.1) (b1 := y25.1.2.1) (a2 := y23.1.2.2) (b2 := y25.1.2.2) neg25 rfl (by kernel_rfl) (by kernel_rfl))) ?_
          refine XL_cons rfl (X_of_Y0 rfl (Y0_pick0 (b := bif (bif (!y23.2) then true else (!y24.2)) then true else (!y25.2)) (p := true) (q := !((y23.1.1 == y25.1.1) && ((y23.1.2.1 == y25.1.2.1) && (y23.1.2.2 == y25.1.2.2)))) rfl (by kernel_rfl) hc28 (by kernel_rfl))) ?_
          refine XL_nil ?_
          subst ht29
          kernel_rfl
       ·refine XL_takeC _ rfl rfl (by kernel_rfl) hc26 (X_of_Y0 rfl (E_move (Bo y24.2) rfl (by kernel_rfl))) ?_
        refine XL_takeC _ rfl rfl (by kernel_rfl) hc26 (X_of_Y0 rfl (Y0_not (b := y24.2) rfl (by kernel_rfl))) ?_
        refine XL_cons rfl (X_of_Y0 rfl (Y0_pick0 (b := !y23.2) (p := true) (q := !y24.2) rfl (by kernel_rfl) hc26 (by kernel_rfl))) ?_
        refine XR 1 ?_
        refine XL_split (bif (!y23.2) then true else (!y24.2)) (fun hc27 => ?_) (fun hc27 => ?_)
        ·refine XL_skipF _ rfl rfl (by kernel_rfl) hc27 rfl ?_
         refine XL_skipF _ rfl rfl (by kernel_rfl) hc27 rfl ?_
         refine XL_cons rfl (X_of_Y0 rfl (Y0_pick1 (b := bif (!y23.2) then true else (!y24.2)) (p := true) (q := !y25.2) rfl (by kernel_rfl) hc27 (by kernel_rfl))) ?_
         refine XR 1 ?_
         refine XL_split (bif (bif (!y23.2) then true else (!y24.2)) then true else (!y25.2)) (fun hc28 => ?_) (fun hc28 => ?_)
         ·refine XL_skipF _ rfl rfl (by kernel_rfl) hc28 rfl ?_
          refine XL_skipF _ rfl rfl (by kernel_rfl) hc28 rfl ?_
          refine XL_skipF _ rfl rfl (by kernel_rfl) hc28 rfl ?_
          refine XL_cons rfl (X_of_Y0 rfl (Y0_pick1 (b := bif (bif (!y23.2) then true else (!y24.2)) then true else (!y25.2)) (p := true) (q := !((y23.1.1 == y25.1.1) && ((y23.1.2.1 == y25.1.2.1) && (y23.1.2.2 == y25.1.2.2)))) rfl (by kernel_rfl) hc28 (by kernel_rfl))) ?_
          refine XL_nil ?_
          subst ht29
          kernel_rfl
         ·refine XL_takeC _ rfl rfl (by kernel_rfl) hc28 (X_of_Y0 rfl (E_loadn (cs := [Ti y23.1.1, Ti y23.1.2.1, Ti y23.1.2.2]) [Ti y23.1.1, Ti y23.1.2.1, Ti y23.1.2.2] wd25 rfl (by kernel_rfl) (Nat.le_of_ble_eq_true rfl) (by kernel_rfl))) ?_
          refine XL_takeC _ rfl rfl (by kernel_rfl) hc28 (X_of_Y0 rfl (E_loadn (cs := [Ti y25.1.1, Ti y25.1.2.1, Ti y25.1.2.2]) [Ti y25.1.1, Ti y25.1.2.1, Ti y25.1.2.2] wd25 rfl (by kernel_rfl) (Nat.le_of_ble_eq_true rfl) (by kernel_rfl))) ?_
          refine XL_takeC _ rfl rfl (by kernel_rfl) hc28 (X_of_Y0 rfl (Y0_neg3 (a0 := y23.1.1) (b0 := y25.1.1) (a1 := y23.1.2.1) (b1 := y25.1.2.1) (a2 := y23.1.2.2) (b2 := y25.1.2.2) neg25 rfl (by kernel_rfl) (by kernel_rfl))) ?_
          refine XL_cons rfl (X_of_Y0 rfl (Y0_pick0 (b := bif (bif (!y23.2) then true else (!y24.2)) then true else (!y25.2)) (p := true) (q := !((y23.1.1 == y25.1.1) && ((y23.1.2.1 == y25.1.2.1) && (y23.1.2.2 == y25.1.2.2)))) rfl (by kernel_rfl) hc28 (by kernel_rfl))) ?_
          refine XL_nil ?_
          subst ht29
          kernel_rfl
        ·refine XL_takeC _ rfl rfl (by kernel_rfl) hc27 (X_of_Y0 rfl (E_move (Bo y25.2) rfl (by kernel_rfl))) ?_
         refine XL_takeC _ rfl rfl (by kernel_rfl) hc27 (X_of_Y0 rfl (Y0_not (b := y25.2) rfl (by kernel_rfl))) ?_
         refine XL_cons rfl (X_of_Y0 rfl (Y0_pick0 (b := bif (!y23.2) then true else (!y24.2)) (p := true) (q := !y25.2) rfl (by kernel_rfl) hc27 (by kernel_rfl))) ?_
         refine XR 1 ?_
         refine XL_split (bif (bif (!y23.2) then true else (!y24.2)) then true else (!y25.2)) (fun hc28 => ?_) (fun hc28 => ?_)
         ·refine XL_skipF _ rfl rfl (by kernel_rfl) hc28 rfl ?_
          refine XL_skipF _ rfl rfl (by kernel_rfl) hc28 rfl ?_
          refine XL_skipF _ rfl rfl (by kernel_rfl) hc28 rfl ?_
          refine XL_cons rfl (X_of_Y0 rfl (Y0_pick1 (b := bif (bif (!y23.2) then true else (!y24.2)) then true else (!y25.2)) (p := true) (q := !((y23.1.1 == y25.1.1) && ((y23.1.2.1 == y25.1.2.1) && (y23.1.2.2 == y25.1.2.2)))) rfl (by kernel_rfl) hc28 (by kernel_rfl))) ?_
          refine XL_nil ?_
          subst ht29
          kernel_rfl
         ·refine XL_takeC _ rfl rfl (by kernel_rfl) hc28 (X_of_Y0 rfl (E_loadn (cs := [Ti y23.1.1, Ti y23.1.2.1, Ti y23.1.2.2]) [Ti y23.1.1, Ti y23.1.2.1, Ti y23.1.2.2] wd25 rfl (by kernel_rfl) (Nat.le_of_ble_eq_true rfl) (by kernel_rfl))) ?_
          refine XL_takeC _ rfl rfl (by kernel_rfl) hc28 (X_of_Y0 rfl (E_loadn (cs := [Ti y25.1.1, Ti y25.1.2.1, Ti y25.1.2.2]) [Ti y25.1.1, Ti y25.1.2.1, Ti y25.1.2.2] wd25 rfl (by kernel_rfl) (Nat.le_of_ble_eq_true rfl) (by kernel_rfl))) ?_
          refine XL_takeC _ rfl rfl (by kernel_rfl) hc28 (X_of_Y0 rfl (Y0_neg3 (a0 := y23.1.1) (b0 := y25.1.1) (a1 := y23.1.2.1) (b1 := y25.1.2.1) (a2 := y23.1.2.2) (b2 := y25.1.2.2) neg25 rfl (by kernel_rfl) (by kernel_rfl))) ?_
          refine XL_cons rfl (X_of_Y0 rfl (Y0_pick0 (b := bif (bif (!y23.2) then true else (!y24.2)) then true else (!y25.2)) (p := true) (q := !((y23.1.1 == y25.1.1) && ((y23.1.2.1 == y25.1.2.1) && (y23.1.2.2 == y25.1.2.2)))) rfl (by kernel_rfl) hc28 (by kernel_rfl))) ?_
          refine XL_nil ?_
          subst ht29
          kernel_rfl
      refine V_cond rfl (fun hc30 => ?_) (fun hc30 => ?_)
      ·have h := of_true h hc30
       refine V_e (mb 230 16) [] (s1 := ⟨bt 4 (Bo false :: bt 225 []), []⟩) ?_
       refine V_ret ?_
       obtain rfl := some_inj h
       show Post _ _ _ _ _
       exact ⟨.inr rfl, rfl, rfl, rfl⟩
      ·have h := of_false h hc30
       refine V_skip ?_
       show V _ _ _ _
       obtain ⟨y31, hy31, h⟩ := of_bind h
       refine V_sreg (mb 230 50331682) [40] (s1 := ⟨.bot :: .c (.sl (more2.map c5)) :: bt 3 (.pt 40 0 :: bt 18 (I y31.1 :: Bo y31.2 :: bt 204 [])), [(40, .box [Ti y5.1.1, Ti y5.1.2.1, Ti y5.1.2.2])]⟩) ?_ ?_
       ·refine XR 1 ?_
        refine XC (s_impl_OrderOf hy31) cf_impl_OrderOf rfl rfl rfl ?_
        exact XE
       obtain ⟨y32, hy32, h⟩ := of_bind h
       obtain ⟨i33, hi33, h⟩ := of_sI h
       obtain ⟨k34, hk34, h⟩ := of_sI h
       refine V_sreg (mb 230 251658272) [40] (s1 := ⟨bt 5 (.pt 40 0 :: bt 18 (I y31.1 :: Bo y31.2 :: I i33 :: I k34 :: bt 202 [])), [(40, .box [Ti y5.1.1, Ti y5.1.2.1, Ti y5.1.2.2])]⟩) ?_ ?_
       ·refine XR 1 ?_
        refine XC (s_laws_numberOf hy32) cf_laws_numberOf rfl rfl rfl ?_
        refine L0 rfl rfl (Y0_rem (k := .i64) (a := y32) (b := 50) rfl (by kernel_rfl) (by kernel_rfl) (by decide)) ?_
        refine XR 2 ?_
        refine L0 rfl rfl (Y0_lenM (c := c5) (xs := more2) Try.underlying22 rfl (by kernel_rfl)) ?_
        refine L0 rfl rfl (Y0_rem (k := .i64) (a := (more2.length : Int)) (b := 9) rfl (by kernel_rfl) (by kernel_rfl) (by decide)) ?_
        refine XR 2 ?_
        refine XL_nil ?_
        subst hi33 hk34
        kernel_rfl
       obtain ⟨y35, hy35, h⟩ := of_bind h
       refine V_sreg (mb 230 1056964640) [224, 40] (s1 := ⟨bt 5 (.pt 40 0 :: bt 18 (I y31.1 :: Bo y31.2 :: I i33 :: I k34 :: .pt 224 0 :: Bo y35.2 :: bt 200 [])), [(224, .box [Ti y35.1.1, Ti y35.1.2.1, Ti y35.1.2.2]), (40, .box [Ti y5.1.1, Ti y5.1.2.1, Ti y5.1.2.2])]⟩) ?_ ?_
       ·refine XR 2 ?_
        refine XC (s_impl_PowerForm hy35) cf_impl_PowerForm rfl rfl rfl ?_
        exact XE
       obtain ⟨y36, hy36, h⟩ := of_bind h
       refine V_sreg (mb 230 4278190112) [240, 224, 40] (s1 := ⟨bt 5 (.pt 40 0 :: bt 18 (I y31.1 :: Bo y31.2 :: I i33 :: I k34 :: .pt 224 0 :: Bo y35.2 :: .pt 240 0 :: Bo y36.2 :: bt 198 [])), [(240, .box [Ti y36.1.1, Ti y36.1.2.1, Ti y36.1.2.2]), (224, .box [Ti y35.1.1, Ti y35.1.2.1, Ti y35.1.2.2]), (40, .box [Ti y5.1.1, Ti y5.1.2.1, Ti y5.1.2.2])]⟩) ?_ ?_
       ·refine XR 2 ?_
        refine XC (s_impl_PowerForm hy36) cf_impl_PowerForm rfl rfl rfl ?_
        exact XE
       obtain ⟨y37, hy37, h⟩ := of_bind h
       refine V_sreg (mb 230 16961765408) [256, 240, 224, 40] (s1 := ⟨bt 5 (.pt 40 0 :: bt 18 (I y31.1 :: Bo y31.2 :: .bot :: .bot :: .pt 224 0 :: Bo y35.2 :: .pt 240 0 :: Bo y36.2 :: .pt 256 0 :: Bo y37.2 :: bt 196 [])), [(256, .box [Ti y37.1.1, Ti y37.1.2.1, Ti y37.1.2.2]), (240, .box [Ti y36.1.1, Ti y36.1.2.1, Ti y36.1.2.2]), (224, .box [Ti y35.1.1, Ti y35.1.2.1, Ti y35.1.2.2]), (40, .box [Ti y5.1.1, Ti y5.1.2.1, Ti y5.1.2.2])]⟩) ?_ ?_
       ·refine XR 4 ?_
        refine XC (s_impl_PowerForm hy37) cf_impl_PowerForm rfl rfl rfl ?_
        exact XE
       obtain ⟨y38, hy38, h⟩ := of_bind h
       refine V_sreg (mb 230 67159195680) [272, 256, 40] (s1 := ⟨bt 5 (.pt 40 0 :: bt 18 (I y31.1 :: Bo y31.2 :: bt 3 (Bo y35.2 :: .bot :: Bo y36.2 :: .pt 256 0 :: Bo y37.2 :: .pt 272 0 :: Bo y38.2 :: bt 194 []))), [(272, .box [Ti y38.1.1, Ti y38.1.2.1, Ti y38.1.2.2]), (256, .box [Ti y37.1.1, Ti y37.1.2.1, Ti y37.1.2.2]), (40, .box [Ti y5.1.1, Ti y5.1.2.1, Ti y5.1.2.2])]⟩) ?_ ?_
       ·refine XR 2 ?_
        refine XC (s_impl_ComposeForms hy38) cf_impl_ComposeForms rfl rfl rfl ?_
        exact XE
       refine V_seq ?_
       obtain ⟨t45, ht45, h⟩ := of_bind h
       have ht45 := some_inj ht45
       refine V_sreg (mb 230 3291009114642412084309938365114701009965471731267159726713995296) [40] (s1 := ⟨bt 5 (.pt 40 0 :: bt 18 (I y31.1 :: bt 186 (Bo t45 :: bt 18 []))), [(40, .box [Ti y5.1.1, Ti y5.1.2.1, Ti y5.1.2.2])]⟩) ?_ ?_
       ·refine XR 3 ?_
        refine XL_split (!y31.2) (fun hc39 => ?_) (fun hc39 => ?_)
        ·refine XL_skipF _ rfl rfl (by kernel_rfl) hc39 rfl ?_
         refine XL_skipF _ rfl rfl (by kernel_rfl) hc39 rfl ?_
         refine XL_cons rfl (X_of_Y0 rfl (Y0_pick1 (b := !y31.2) (p := true) (q := !y35.2) rfl (by kernel_rfl) hc39 (by kernel_rfl))) ?_
         refine XR 1 ?_
         refine XL_split (bif (!y31.2) then true else (!y35.2)) (fun hc40 => ?_) (fun hc40 => ?_)
         ·refine XL_skipF _ rfl rfl (by kernel_rfl) hc40 rfl ?_
          refine XL_skipF _ rfl rfl (by kernel_rfl) hc40 rfl ?_
          refine XL_cons rfl (X_of_Y0 rfl (Y0_pick1 (b := bif (!y31.2) then true else (!y35.2)) (p := true) (q := !y36.2) rfl (by kernel_rfl) hc40 (by kernel_rfl))) ?_
          refine XR 1 ?_
          refine XL_split (bif (bif (!y31.2) then true else (!y35.2)) then true else (!y36.2)) (fun hc41 => ?_) (fun hc41 => ?_)
          ·refine XL_skipF _ rfl rfl (by kernel_rfl) hc41 rfl ?_
           refine XL_skipF _ rfl rfl (by kernel_rfl) hc41 rfl ?_
           refine XL_cons rfl (X_of_Y0 rfl (Y0_pick1 (b := bif (bif (!y31.2) then true else (!y35.2)) then true else (!y36.2)) (p := true) (q := !y37.2) rfl (by kernel_rfl) hc41 (by kernel_rfl))) ?_
           refine XR 1 ?_
           refine XL_split (bif (bif (bif (!y31.2) then true else (!y35.2)) then true else (!y36.2)) then true else (!y37.2)) (fun hc42 => ?_) (fun hc42 => ?_)
           ·refine XL_skipF _ rfl rfl (by kernel_rfl) hc42 rfl ?_
            refine XL_skipF _ rfl rfl (by kernel_rfl) hc42 rfl ?_
            refine XL_cons rfl (X_of_Y0 rfl (Y0_pick1 (b := bif (bif (bif (!y31.2) then true else (!y35.2)) then true else (!y36.2)) then true else (!y37.2)) (p := true) (q := !y38.2) rfl (by kernel_rfl) hc42 (by kernel_rfl))) ?_
            refine XR 1 ?_
            refine XL_split (bif (bif (bif (bif (!y31.2) then true else (!y35.2)) then true else (!y36.2)) then true else (!y37.2)) then true else (!y38.2)) (fun hc43 => ?_) (fun hc43 => ?_)
            ·refine XL_skipF _ rfl rfl (by kernel_rfl) hc43 rfl ?_
             refine XL_skipF _ rfl rfl (by kernel_rfl) hc43 rfl ?_
             refine XL_skipF _ rfl rfl (by kernel_rfl) hc43 rfl ?_
             refine XL_cons rfl (X_of_Y0 rfl (Y0_pick1 (b := bif (bif (bif (bif (!y31.2) then true else (!y35.2)) then true else (!y36.2)) then true else (!y37.2)) then true else (!y38.2)) (p := true) (q := !((y38.1.1 == y37.1.1) && ((y38.1.2.1 == y37.1.2.1) && (y38.1.2.2 == y37.1.2.2)))) rfl (by kernel_rfl) hc43 (by kernel_rfl))) ?_
             refine XR 1 ?_
             refine XL_split (bif (bif (bif (bif (bif (!y31.2) then true else (!y35.2)) then true else (!y36.2)) then true else (!y37.2)) then true else (!y38.2)) then true else (!((y38.1.1 == y37.1.1) && ((y38.1.2.1 == y37.1.2.1) && (y38.1.2.2 == y37.1.2.2))))) (fun hc44 => ?_) (fun hc44 => ?_)
             ·refine XL_skipF _ rfl rfl (by kernel_rfl) hc44 rfl ?_
              refine XL_skipF _ rfl rfl (by kernel_rfl) hc44 rfl ?_
              refine XL_cons rfl (X_of_Y0 rfl (Y0_pick1 (b := bif (bif (bif (bif (bif (!y31.2) then true else (!y35.2)) then true else (!y36.2)) then true else (!y37.2)) then true else (!y38.2)) then true else (!((y38.1.1 == y37.1.1) && ((y38.1.2.1 == y37.1.2.1) && (y38.1.2.2 == y37.1.2.2))))) (p := true) (q := ltI y31.1 1) rfl (by kernel_rfl) hc44 (by kernel_rfl))) ?_
              refine XL_nil ?_
              subst ht45
              kernel_rfl
             ·refine XL_takeC _ rfl rfl (by kernel_rfl) hc44 (X_of_Y0 rfl (E_move (I y31.1) rfl (by kernel_rfl))) ?_
              refine XL_takeC _ rfl rfl (by kernel_rfl) hc44 (X_of_Y0 rfl (Y0_ltw (k := .i64) (a := y31.1) (b := 1) rfl (by kernel_rfl) (by kernel_rfl))) ?_
              refine XL_cons rfl (X_of_Y0 rfl (Y0_pick0 (b := bif (bif (bif (bif (bif (!y31.2) then true else (!y35.2)) then true else (!y36.2)) then true else (!y37.2)) then true else (!y38.2)) then true else (!((y38.1.1 == y37.1.1) && ((y38.1.2.1 == y37.1.2.1) && (y38.1.2.2 == y37.1.2.2))))) (p := true) (q := ltI y31.1 1) rfl (by kernel_rfl) hc44 (by kernel_rfl))) ?_
              refine XL_nil ?_
              subst ht45
              kernel_rfl
            ·refine XL_takeC _ rfl rfl (by kernel_rfl) hc43 (X_of_Y0 rfl (E_loadn (cs := [Ti y38.1.1, Ti y38.1.2.1, Ti y38.1.2.2]) [Ti y38.1.1, Ti y38.1.2.1, Ti y38.1.2.2] wd25 rfl (by kernel_rfl) (Nat.le_of_ble_eq_true rfl) (by kernel_rfl))) ?_
             refine XL_takeC _ rfl rfl (by kernel_rfl) hc43 (X_of_Y0 rfl (E_loadn (cs := [Ti y37.1.1, Ti y37.1.2.1, Ti y37.1.2.2]) [Ti y37.1.1, Ti y37.1.2.1, Ti y37.1.2.2] wd25 rfl (by kernel_rfl) (Nat.le_of_ble_eq_true rfl) (by kernel_rfl))) ?_
             refine XL_takeC _ rfl rfl (by kernel_rfl) hc43 (X_of_Y0 rfl (Y0_neg3 (a0 := y38.1.1) (b0 := y37.1.1) (a1 := y38.1.2.1) (b1 := y37.1.2.1) (a2 := y38.1.2.2) (b2 := y37.1.2.2) neg25 rfl (by kernel_rfl) (by kernel_rfl))) ?_
             refine XL_cons rfl (X_of_Y0 rfl (Y0_pick0 (b := bif (bif (bif (bif (!y31.2) then true else (!y35.2)) then true else (!y36.2)) then true else (!y37.2)) then true else (!y38.2)) (p := true) (q := !((y38.1.1 == y37.1.1) && ((y38.1.2.1 == y37.1.2.1) && (y38.1.2.2 == y37.1.2.2)))) rfl (by kernel_rfl) hc43 (by kernel_rfl))) ?_
             refine XR 1 ?_
             refine XL_split (bif (bif (bif (bif (bif (!y31.2) then true else (!y35.2)) then true else (!y36.2)) then true else (!y37.2)) then true else (!y38.2)) then true else (!((y38.1.1 == y37.1.1) && ((y38.1.2.1 == y37.1.2.1) && (y38.1.2.2 == y37.1.2.2))))) (fun hc44 => ?_) (fun hc44 => ?_)
             ·refine XL_skipF _ rfl rfl (by kernel_rfl) hc44 rfl ?_
              refine XL_skipF _ rfl rfl (by kernel_rfl) hc44 rfl ?_
              refine XL_cons rfl (X_of_Y0 rfl (Y0_pick1 (b := bif (bif (bif (bif (bif (!y31.2) then true else (!y35.2)) then true else (!y36.2)) then true else (!y37.2)) then true else (!y38.2)) then true else (!((y38.1.1 == y37.1.1) && ((y38.1.2.1 == y37.1.2.1) && (y38.1.2.2 == y37.1.2.2))))) (p := true) (q := ltI y31.1 1) rfl (by kernel_rfl) hc44 (by kernel_rfl))) ?_
              refine XL_nil ?_
              subst ht45
              kernel_rfl
             ·refine XL_takeC _ rfl rfl (by kernel_rfl) hc44 (X_of_Y0 rfl (E_move (I y31.1) rfl (by kernel_rfl))) ?_
              refine XL_takeC _ rfl rfl (by kernel_rfl) hc44 (X_of_Y0 rfl (Y0_ltw (k := .i64) (a := y31.1) (b := 1) rfl (by kernel_rfl) (by kernel_rfl))) ?_
              refine XL_cons rfl (X_of_Y0 rfl (Y0_pick0 (b := bif (bif (bif (bif (bif (!y31.2) then true else (!y35.2)) then true else (!y36.2)) then true else (!y37.2)) then true else (!y38.2)) then true else (!((y38.1.1 == y37.1.1) && ((y38.1.2.1 == y37.1.2.1) && (y38.1.2.2 == y37.1.2.2))))) (p := true) (q := ltI y31.1 1) rfl (by kernel_rfl) hc44 (by kernel_rfl))) ?_
              refine XL_nil ?_
              subst ht45
              kernel_rfl
           ·refine XL_takeC _ rfl rfl (by kernel_rfl) hc42 (X_of_Y0 rfl (E_move (Bo y38.2) rfl (by kernel_rfl))) ?_
            refine XL_takeC _ rfl rfl (by kernel_rfl) hc42 (X_of_Y0 rfl (Y0_not (b := y38.2) rfl (by kernel_rfl))) ?_
            refine XL_cons rfl (X_of_Y0 rfl (Y0_pick0 (b := bif (bif (bif (!y31.2) then true else (!y35.2)) then true else (!y36.2)) then true else (!y37.2)) (p := true) (q := !y38.2) rfl (by kernel_rfl) hc42 (by kernel_rfl))) ?_
            refine XR 1 ?_
            refine XL_split (bif (bif (bif (bif (!y31.2) then true else (!y35.2)) then true else (!y36.2)) then true else (!y37.2)) then true else (!y38.2)) (fun hc43 => ?_) (fun hc43 => ?_)
            ·refine XL_skipF _ rfl rfl (by kernel_rfl) hc43 rfl ?_
             refine XL_skipF _ rfl rfl (by kernel_rfl) hc43 rfl ?_
             refine XL_skipF _ rfl rfl (by kernel_rfl) hc43 rfl ?_
             refine XL_cons rfl (X_of_Y0 rfl (Y0_pick1 (b := bif (bif (bif (bif (!y31.2) then true else (!y35.2)) then true else (!y36.2)) then true else (!y37.2)) then true else (!y38.2)) (p := true) (q := !((y38.1.1 == y37.1.1) && ((y38.1.2.1 == y37.1.2.1) && (y38.1.2.2 == y37.1.2.2)))) rfl (by kernel_rfl) hc43 (by kernel_rfl))) ?_
             refine XR 1 ?_
             refine XL_split (bif (bif (bif (bif (bif (!y31.2) then true else (!y35.2)) then true else (!y36.2)) then true else (!y37.2)) then true else (!y38.2)) then true else (!((y38.1.1 == y37.1.1) && ((y38.1.2.1 == y37.1.2.1) && (y38.1.2.2 == y37.1.2.2))))) (fun hc44 => ?_) (fun hc44 => ?_)
             ·refine XL_skipF _ rfl rfl (by kernel_rfl) hc44 rfl ?_
              refine XL_skipF _ rfl rfl (by kernel_rfl) hc44 rfl ?_
              refine XL_cons rfl (X_of_Y0 rfl (Y0_pick1 (b := bif (bif (bif (bif (bif (!y31.2) then true else (!y35.2)) then true else (!y36.2)) then true else (!y37.2)) then true else (!y38.2)) then true else (!((y38.1.1 == y37.1.1) && ((y38.1.2.1 == y37.1.2.1) && (y38.1.2.2 == y37.1.2.2))))) (p := true) (q := ltI y31.1 1) rfl (by kernel_rfl) hc44 (by kernel_rfl))) ?_
              refine XL_nil ?_
              subst ht45
              kernel_rfl
             ·refine XL_takeC _ rfl rfl (by kernel_rfl) hc44 (X_of_Y0 rfl (E_move (I y31.1) rfl (by kernel_rfl))) ?_
              refine XL_takeC _ rfl rfl (by kernel_rfl) hc44 (X_of_Y0 rfl (Y0_ltw (k := .i64) (a := y31.1) (b := 1) rfl (by kernel_rfl) (by kernel_rfl))) ?_
              refine XL_cons rfl (X_of_Y0 rfl (Y0_pick0 (b := bif (bif (bif (bif (bif (!y31.2) then true else (!y35.2)) then true else (!y36.2)) then true else (!y37.2)) then true else (!y38.2)) then true else (!((y38.1.1 == y37.1.1) && ((y38.1.2.1 == y37.1.2.1) && (y38.1.2.2 == y37.1.2.2))))) (p := true) (q := ltI y31.1 1) rfl (by kernel_rfl) hc44 (by kernel_rfl))) ?_
              refine XL_nil ?_
              subst ht45
              kernel_rfl
            ·refine XL_takeC _ rfl rfl (by kernel_rfl) hc43 (X_of_Y0 rfl (E_loadn (cs := [Ti y38.1.1, Ti y38.1.2.1, Ti y38.1.2.2]) [Ti y38.1.1, Ti y38.1.2.1, Ti y38.1.2.2] wd25 rfl (by kernel_rfl) (Nat.le_of_ble_eq_true rfl) (by kernel_rfl))) ?_
             refine XL_takeC _ rfl rfl (by kernel_rfl) hc43 (X_of_Y0 rfl (E_loadn (cs := [Ti y37.1.1, Ti y37.1.2.1, Ti y37.1.2.2]) [Ti y37.1.1, Ti y37.1.2.1, Ti y37.1.2.2] wd25 rfl (by kernel_rfl) (Nat.le_of_ble_eq_true rfl) (by kernel_rfl))) ?_
             refine XL_takeC _ rfl rfl (by kernel_rfl) hc43 (X_of_Y0 rfl (Y0_neg3 (a0 := y38.1.1) (b0 := y37.1.1) (a1 := y38.1.2.1) (b1 := y37.1.2.1) (a2 := y38.1.2.2) (b2 := y37.1.2.2) neg25 rfl (by kernel_rfl) (by kernel_rfl))) ?_
             refine XL_cons rfl (X_of_Y0 rfl (Y0_pick0 (b := bif (bif (bif (bif (!y31.2) then true else (!y35.2)) then true else (!y36.2)) then true else (!y37.2)) then true else (!y38.2)) (p := true) (q := !((y38.1.1 == y37.1.1) && ((y38.1.2.1 == y37.1.2.1) && (y38.1.2.2 == y37.1.2.2)))) rfl (by kernel_rfl) hc43 (by kernel_rfl))) ?_
             refine XR 1 ?_
             refine XL_split (bif (bif (bif (bif (bif (!y31.2) then true else (!y35.2)) then true else (!y36.2)) then true else (!y37.2)) then true else (!y38.2)) then true else (!((y38.1.1 == y37.1.1) && ((y38.1.2.1 == y37.1.2.1) && (y38.1.2.2 == y37.1.2.2))))) (fun hc44 => ?_) (fun hc44 => ?_)
             ·refine XL_skipF _ rfl rfl (by kernel_rfl) hc44 rfl ?_
              refine XL_skipF _ rfl rfl (by kernel_rfl) hc44 rfl ?_
              refine XL_cons rfl (X_of_Y0 rfl (Y0_pick1 (b := bif (bif (bif (bif (bif (!y31.2) then true else (!y35.2)) then true else (!y36.2)) then true else (!y37.2)) then true else (!y38.2)) then true else (!((y38.1.1 == y37.1.1) && ((y38.1.2.1 == y37.1.2.1) && (y38.1.2.2 == y37.1.2.2))))) (p := true) (q := ltI y31.1 1) rfl (by kernel_rfl) hc44 (by kernel_rfl))) ?_
              refine XL_nil ?_
              subst ht45
              kernel_rfl
             ·refine XL_takeC _ rfl rfl (by kernel_rfl) hc44 (X_of_Y0 rfl (E_move (I y31.1) rfl (by kernel_rfl))) ?_
              refine XL_takeC _ rfl rfl (by kernel_rfl) hc44 (X_of_Y0 rfl (Y0_ltw (k := .i64) (a := y31.1) (b := 1) rfl (by kernel_rfl) (by kernel_rfl))) ?_
              refine XL_cons rfl (X_of_Y0 rfl (Y0_pick0 (b := bif (bif (bif (bif (bif (!y31.2) then true else (!y35.2)) then true else (!y36.2)) then true else (!y37.2)) then true else (!y38.2)) then true else (!((y38.1.1 == y37.1.1) && ((y38.1.2.1 == y37.1.2.1) && (y38.1.2.2 == y37.1.2.2))))) (p := true) (q := ltI y31.1 1) rfl (by kernel_rfl) hc44 (by kernel_rfl))) ?_
              refine XL_nil ?_
              subst ht45
              kernel_rfl
          ·refine XL_takeC _ rfl rfl (by kernel_rfl) hc41 (X_of_Y0 rfl (E_move (Bo y37.2) rfl (by kernel_rfl))) ?_
           refine XL_takeC _ rfl rfl (by kernel_rfl) hc41 (X_of_Y0 rfl (Y0_not (b := y37.2) rfl (by kernel_rfl))) ?_
           refine XL_cons rfl (X_of_Y0 rfl (Y0_pick0 (b := bif (bif (!y31.2) then true else (!y35.2)) then true else (!y36.2)) (p := true) (q := !y37.2) rfl (by kernel_rfl) hc41 (by kernel_rfl))) ?_
           refine XR 1 ?_
           refine XL_split (bif (bif (bif (!y31.2) then true else (!y35.2)) then true else (!y36.2)) then true else (!y37.2)) (fun hc42 => ?_) (fun hc42 => ?_)
           ·refine XL_skipF _ rfl rfl (by kernel_rfl) hc42 rfl ?_
            refine XL_skipF _ rfl rfl (by kernel_rfl) hc42 rfl ?_
            refine XL_cons rfl (X_of_Y0 rfl (Y0_pick1 (b := bif (bif (bif (!y31.2) then true else (!y35.2)) then true else (!y36.2)) then true else (!y37.2)) (p := true) (q := !y38.2) rfl (by kernel_rfl) hc42 (by kernel_rfl))) ?_
            refine XR 1 ?_
            refine XL_split (bif (bif (bif (bif (!y31.2) then true else (!y35.2)) then true else (!y36.2)) then true else (!y37.2)) then true else (!y38.2)) (fun hc43 => ?_) (fun hc43 => ?_)
            ·refine XL_skipF _ rfl rfl (by kernel_rfl) hc43 rfl ?_
             refine XL_skipF _ rfl rfl (by kernel_rfl) hc43 rfl ?_
             refine XL_skipF _ rfl rfl (by kernel_rfl) hc43 rfl ?_
             refine XL_cons rfl (X_of_Y0 rfl (Y0_pick1 (b := bif (bif (bif (bif (!y31.2) then true else (!y35.2)) then true else (!y36.2)) then true else (!y37.2)) then true else (!y38.2)) (p := true) (q := !((y38.1.1 == y37.1.1) && ((y38.1.2.1 == y37.1.2.1) && (y38.1.2.2 == y37.1.2.2)))) rfl (by kernel_rfl) hc43 (by kernel_rfl))) ?_
             refine XR 1 ?_
             refine XL_split (bif (bif (bif (bif (bif (!y31.2) then true else (!y35.2)) then true else (!y36.2)) then true else (!y37.2)) then true else (!y38.2)) then true else (!((y38.1.1 == y37.1.1) && ((y38.1.2.1 == y37.1.2.1) && (y38.1.2.2 == y37.1.2.2))))) (fun hc44 => ?_) (fun hc44 => ?_)
             ·refine XL_skipF _ rfl rfl (by kernel_rfl) hc44 rfl ?_
              refine XL_skipF _ rfl rfl (by kernel_rfl) hc44 rfl ?_
              refine XL_cons rfl (X_of_Y0 rfl (Y0_pick1 (b := bif (bif (bif (bif (bif (!y31.2) then true else (!y35.2)) then true else (!y36.2)) then true else (!y37.2)) then true else (!y38.2)) then true else (!((y38.1.1 == y37.1.1) && ((y38.1.2.1 == y37.1.2.1) && (y38.1.2.2 == y37.1.2.2))))) (p := true) (q := ltI y31.1 1) rfl (by kernel_rfl) hc44 (by kernel_rfl))) ?_
              refine XL_nil ?_
              subst ht45
              kernel_rfl
             ·refine XL_takeC _ rfl rfl (by kernel_rfl) hc44 (X_of_Y0 rfl (E_move (I y31.1) rfl (by kernel_rfl))) ?_
              refine XL_takeC _ rfl rfl (by kernel_rfl) hc44 (X_of_Y0 rfl (Y0_ltw (k := .i64) (a := y31.1) (b := 1) rfl (by kernel_rfl) (by kernel_rfl))) ?_
              refine XL_cons rfl (X_of_Y0 rfl (Y0_pick0 (b := bif (bif (bif (bif (bif (!y31.2) then true else (!y35.2)) then true else (!y36.2)) then true else (!y37.2)) then true else (!y38.2)) then true else (!((y38.1.1 == y37.1.1) && ((y38.1.2.1 == y37.1.2.1) && (y38.1.2.2 == y37.1.2.2))))) (p := true) (q := ltI y31.1 1) rfl (by kernel_rfl) hc44 (by kernel_rfl))) ?_
              refine XL_nil ?_
              subst ht45
              kernel_rfl
            ·refine XL_takeC _ rfl rfl (by kernel_rfl) hc43 (X_of_Y0 rfl (E_loadn (cs := [Ti y38.1.1, Ti y38.1.2.1, Ti y38.1.2.2]) [Ti y38.1.1, Ti y38.1.2.1, Ti y38.1.2.2] wd25 rfl (by kernel_rfl) (Nat.le_of_ble_eq_true rfl) (by kernel_rfl))) ?_
             refine XL_takeC _ rfl rfl (by kernel_rfl) hc43 (X_of_Y0 rfl (E_loadn (cs := [Ti y37.1.1, Ti y37.1.2.1, Ti y37.1.2.2]) [Ti y37.1.1, Ti y37.1.2.1, Ti y37.1.2.2] wd25 rfl (by kernel_rfl) (Nat.le_of_ble_eq_true rfl) (by kernel_rfl))) ?_
             refine XL_takeC _ rfl rfl (by kernel_rfl) hc43 (X_of_Y0 rfl (Y0_neg3 (a0 := y38.1.1) (b0 := y37.1.1) (a1 := y38.1.2.1) (b1 := y37.1.2.1) (a2 := y38.1.2.2) (b2 := y37.1.2.2) neg25 rfl (by kernel_rfl) (by kernel_rfl))) ?_
             refine XL_cons rfl (X_of_Y0 rfl (Y0_pick0 (b := bif (bif (bif (bif (!y31.2) then true else (!y35.2)) then true else (!y36.2)) then true else (!y37.2)) then true else (!y38.2)) (p := true) (q := !((y38.1.1 == y37.1.1) && ((y38.1.2.1 == y37.1.2.1) && (y38.1.2.2 == y37.1.2.2)))) rfl (by kernel_rfl) hc43 (by kernel_rfl))) ?_
             refine XR 1 ?_
             refine XL_split (bif (bif (bif (bif (bif (!y31.2) then true else (!y35.2)) then true else (!y36.2)) then true else (!y37.2)) then true else (!y38.2)) then true else (!((y38.1.1 == y37.1.1) && ((y38.1.2.1 == y37.1.2.1) && (y38.1.2.2 == y37.1.2.2))))) (fun hc44 => ?_) (fun hc44 => ?_)
             ·refine XL_skipF _ rfl rfl (by kernel_rfl) hc44 rfl ?_
              refine XL_skipF _ rfl rfl (by kernel_rfl) hc44 rfl ?_
              refine XL_cons rfl (X_of_Y0 rfl (Y0_pick1 (b := bif (bif (bif (bif (bif (!y31.2) then true else (!y35.2)) then true else (!y36.2)) then true else (!y37.2)) then true else (!y38.2)) then true else (!((y38.1.1 == y37.1.1) && ((y38.1.2.1 == y37.1.2.1) && (y38.1.2.2 == y37.1.2.2))))) (p := true) (q := ltI y31.1 1) rfl (by kernel_rfl) hc44 (by kernel_rfl))) ?_
              refine XL_nil ?_
              subst ht45
              kernel_rfl
             ·refine XL_takeC _ rfl rfl (by kernel_rfl) hc44 (X_of_Y0 rfl (E_move (I y31.1) rfl (by kernel_rfl))) ?_
              refine XL_takeC _ rfl rfl (by kernel_rfl) hc44 (X_of_Y0 rfl (Y0_ltw (k := .i64) (a := y31.1) (b := 1) rfl (by kernel_rfl) (by kernel_rfl))) ?_
              refine XL_cons rfl (X_of_Y0 rfl (Y0_pick0 (b := bif (bif (bif (bif (bif (!y31.2) then true else (!y35.2)) then true else (!y36.2)) then true else (!y37.2)) then true else (!y38.2)) then true else (!((y38.1.1 == y37.1.1) && ((y38.1.2.1 == y37.1.2.1) && (y38.1.2.2 == y37.1.2.2))))) (p := true) (q := ltI y31.1 1) rfl (by kernel_rfl) hc44 (by kernel_rfl))) ?_
              refine XL_nil ?_
              subst ht45
              kernel_rfl
           ·refine XL_takeC _ rfl rfl (by kernel_rfl) hc42 (X_of_Y0 rfl (E_move (Bo y38.2) rfl (by kernel_rfl))) ?_
            refine XL_takeC _ rfl rfl (by kernel_rfl) hc42 (X_of_Y0 rfl (Y0_not (b := y38.2) rfl (by kernel_rfl))) ?_
            refine XL_cons rfl (X_of_Y0 rfl (Y0_pick0 (b := bif (bif (bif (!y31.2) then true else (!y35.2)) then true else (!y36.2)) then true else (!y37.2)) (p := true) (q := !y38.2) rfl (by kernel_rfl) hc42 (by kernel_rfl))) ?_
            refine XR 1 ?_
            refine XL_split (bif (bif (bif (bif (!y31.2) then true else (!y35.2)) then true else (!y36.2)) then true else (!y37.2)) then true else (!y38.2)) (fun hc43 => ?_) (fun hc43 => ?_)
            ·refine XL_skipF _ rfl rfl (by kernel_rfl) hc43 rfl ?_
             refine XL_skipF _ rfl rfl (by kernel_rfl) hc43 rfl ?_
             refine XL_skipF _ rfl rfl (by kernel_rfl) hc43 rfl ?_
             refine XL_cons rfl (X_of_Y0 rfl (Y0_pick1 (b := bif (bif (bif (bif (!y31.2) then true else (!y35.2)) then true else (!y36.2)) then true else (!y37.2)) then true else (!y38.2)) (p := true) (q := !((y38.1.1 == y37.1.1) && ((y38.1.2.1 == y37.1.2.1) && (y38.1.2.2 == y37.1.2.2)))) rfl (by kernel_rfl) hc43 (by kernel_rfl))) ?_
             refine XR 1 ?_
             refine XL_split (bif (bif (bif (bif (bif (!y31.2) then true else (!y35.2)) then true else (!y36.2)) then true else (!y37.2)) then true else (!y38.2)) then true else (!((y38.1.1 == y37.1.1) && ((y38.1.2.1 == y37.1.2.1) && (y38.1.2.2 == y37.1.2.2))))) (fun hc44 => ?_) (fun hc44 => ?_)
             ·refine XL_skipF _ rfl rfl (by kernel_rfl) hc44 rfl ?_
              refine XL_skipF _ rfl rfl (by kernel_rfl) hc44 rfl ?_
              refine XL_cons rfl (X_of_Y0 rfl (Y0_pick1 (b := bif (bif (bif (bif (bif (!y31.2) then true else (!y35.2)) then true else (!y36.2)) then true else (!y37.2)) then true else (!y38.2)) then true else (!((y38.1.1 == y37.1.1) && ((y38.1.2.1 == y37.1.2.1) && (y38.1.2.2 == y37.1.2.2))))) (p := true) (q := ltI y31.1 1) rfl (by kernel_rfl) hc44 (by kernel_rfl))) ?_
              refine XL_nil ?_
              subst ht45
              kernel_rfl
             ·refine XL_takeC _ rfl rfl (by kernel_rfl) hc44 (X_of_Y0 rfl (E_move (I y31.1) rfl (by kernel_rfl))) ?_
              refine XL_takeC _ rfl rfl (by kernel_rfl) hc44 (X_of_Y0 rfl (Y0_ltw (k := .i64) (a := y31.1) (b := 1) rfl (by kernel_rfl) (by kernel_rfl))) ?_
              refine XL_cons rfl (X_of_Y0 rfl (Y0_pick0 (b := bif (bif (bif (bif (bif (!y31.2) then true else (!y35.2)) then true else (!y36.2)) then true else (!y37.2)) then true else (!y38.2)) then true else (!((y38.1.1 == y37.1.1) && ((y38.1.2.1 == y37.1.2.1) && (y38.1.2.2 == y37.1.2.2))))) (p := true) (q := ltI y31.1 1) rfl (by kernel_rfl) hc44 (by kernel_rfl))) ?_
              refine XL_nil ?_
              subst ht45
              kernel_rfl
            ·refine XL_takeC _ rfl rfl (by kernel_rfl) hc43 (X_of_Y0 rfl (E_loadn (cs := [Ti y38.1.1, Ti y38.1.2.1, Ti y38.1.2.2]) [Ti y38.1.1, Ti y38.1.2.1, Ti y38.1.2.2] wd25 rfl (by kernel_rfl) (Nat.le_of_ble_eq_true rfl) (by kernel_rfl))) ?_
             refine XL_takeC _ rfl rfl (by kernel_rfl) hc43 (X_of_Y0 rfl (E_loadn (cs := [Ti y37.1.1, Ti y37.1.2.1, Ti y37.1.2.2]) [Ti y37.1.1, Ti y37.1.2.1, Ti y37.1.2.2] wd25 rfl (by kernel_rfl) (Nat.le_of_ble_eq_true rfl) (by kernel_rfl))) ?_
             refine XL_takeC _ rfl rfl (by kernel_rfl) hc43 (X_of_Y0 rfl (Y0_neg3 (a0 := y38.1.1) (b0 := y37.1.1) (a1 := y38.1.2.1) (b1 := y37.1.2.1) (a2 := y38.1.2.2) (b2 := y37.1.2.2) neg25 rfl (by kernel_rfl) (by kernel_rfl))) ?_
             refine XL_cons rfl (X_of_Y0 rfl (Y0_pick0 (b := bif (bif (bif (bif (!y31.2) then true else (!y35.2)) then true else (!y36.2)) then true else (!y37.2)) then true else (!y38.2)) (p := true) (q := !((y38.1.1 == y37.1.1) && ((y38.1.2.1 == y37.1.2.1) && (y38.1.2.2 == y37.1.2.2)))) rfl (by kernel_rfl) hc43 (by kernel_rfl))) ?_
             refine XR 1 ?_
             refine XL_split (bif (bif (bif (bif (bif (!y31.2) then true else (!y35.2)) then true else (!y36.2)) then true else (!y37.2)) then true else (!y38.2)) then true else (!((y38.1.1 == y37.1.1) && ((y38.1.2.1 == y37.1.2.1) && (y38.1.2.2 == y37.1.2.2))))) (fun hc44 => ?_) (fun hc44 => ?_)
             ·refine XL_skipF _ rfl rfl (by kernel_rfl) hc44 rfl ?_
              refine XL_skipF _ rfl rfl (by kernel_rfl) hc44 rfl ?_
              refine XL_cons rfl (X_of_Y0 rfl (Y0_pick1 (b := bif (bif (bif (bif (bif (!y31.2) then true else (!y35.2)) then true else (!y36.2)) then true else (!y37.2)) then true else (!y38.2)) then true else (!((y38.1.1 == y37.1.1) && ((y38.1.2.1 == y37.1.2.1) && (y38.1.2.2 == y37.1.2.2))))) (p := true) (q := ltI y31.1 1) rfl (by kernel_rfl) hc44 (by kernel_rfl))) ?_
              refine XL_nil ?_
              subst ht45
              kernel_rfl
             ·refine XL_takeC _ rfl rfl (by kernel_rfl) hc44 (X_of_Y0 rfl (E_move (I y31.1) rfl (by kernel_rfl))) ?_
              refine XL_takeC _ rfl rfl (by kernel_rfl) hc44 (X_of_Y0 rfl (Y0_ltw (k := .i64) (a := y31.1) (b := 1) rfl (by kernel_rfl) (by kernel_rfl))) ?_
              refine XL_cons rfl (X_of_Y0 rfl (Y0_pick0 (b := bif (bif (bif (bif (bif (!y31.2) then true else (!y35.2)) then true else (!y36.2)) then true else (!y37.2)) then true else (!y38.2)) then true else (!((y38.1.1 == y37.1.1) && ((y38.1.2.1 == y37.1.2.1) && (y38.1.2.2 == y37.1.2.2))))) (p := true) (q := ltI y31.1 1) rfl (by kernel_rfl) hc44 (by kernel_rfl))) ?_
              refine XL_nil ?_
              subst ht45
              kernel_rfl
         ·refine XL_takeC _ rfl rfl (by kernel_rfl) hc40 (X_of_Y0 rfl (E_move (Bo y36.2) rfl (by kernel_rfl))) ?_
          refine XL_takeC _ rfl rfl (by kernel_rfl) hc40 (X_of_Y0 rfl (Y0_not (b := y36.2) rfl (by kernel_rfl))) ?_
          refine XL_cons rfl (X_of_Y0 rfl (Y0_pick0 (b := bif (!y31.2) then true else (!y35.2)) (p := true) (q := !y36.2) rfl (by kernel_rfl) hc40 (by kernel_rfl))) ?_
          refine XR 1 ?_
          refine XL_split (bif (bif (!y31.2) then true else (!y35.2)) then true else (!y36.2)) (fun hc41 => ?_) (fun hc41 => ?_)
          ·refine XL_skipF _ rfl rfl (by kernel_rfl) hc41 rfl ?_
           refine XL_skipF _ rfl rfl (by kernel_rfl) hc41 rfl ?_
           refine XL_cons rfl (X_of_Y0 rfl (Y0_pick1 (b := bif (bif (!y31.2) then true else (!y35.2)) then true else (!y36.2)) (p := true) (q := !y37.2) rfl (by kernel_rfl) hc41 (by kernel_rfl))) ?_
           refine XR 1 ?_
           refine XL_split (bif (bif (bif (!y31.2) then true else (!y35.2)) then true else (!y36.2)) then true else (!y37.2)) (fun hc42 => ?_) (fun hc42 => ?_)
           ·refine XL_skipF _ rfl rfl (by kernel_rfl) hc42 rfl ?_
            refine XL_skipF _ rfl rfl (by kernel_rfl) hc42 rfl ?_
            refine XL_cons rfl (X_of_Y0 rfl (Y0_pick1 (b := bif (bif (bif (!y31.2) then true else (!y35.2)) then true else (!y36.2)) then true else (!y37.2)) (p := true) (q := !y38.2) rfl (by kernel_rfl) hc42 (by kernel_rfl))) ?_
            refine XR 1 ?_
            refine XL_split (bif (bif (bif (bif (!y31.2) then true else (!y35.2)) then true else (!y36.2)) then true else (!y37.2)) then true else (!y38.2)) (fun hc43 => ?_) (fun hc43 => ?_)
            ·refine XL_skipF _ rfl rfl (by kernel_rfl) hc43 rfl ?_
             refine XL_skipF _ rfl rfl (by kernel_rfl) hc43 rfl ?_
             refine XL_skipF _ rfl rfl (by kernel_rfl) hc43 rfl ?_
             refine XL_cons rfl (X_of_Y0 rfl (Y0_pick1 (b := bif (bif (bif (bif (!y31.2) then true else (!y35.2)) then true else (!y36.2)) then true else (!y37.2)) then true else (!y38.2)) (p := true) (q := !((y38.1.1 == y37.1.1) && ((y38.1.2.1 == y37.1.2.1) && (y38.1.2.2 == y37.1.2.2)))) rfl (by kernel_rfl) hc43 (by kernel_rfl))) ?_
             refine XR 1 ?_
             refine XL_split (bif (bif (bif (bif (bif (!y31.2) then true else (!y35.2)) then true else (!y36.2)) then true else (!y37.2)) then true else (!y38.2)) then true else (!((y38.1.1 == y37.1.1) && ((y38.1.2.1 == y37.1.2.1) && (y38.1.2.2 == y37.1.2.2))))) (fun hc44 => ?_) (fun hc44 => ?_)
             ·refine XL_skipF _ rfl rfl (by kernel_rfl) hc44 rfl ?_
              refine XL_skipF _ rfl rfl (by kernel_rfl) hc44 rfl ?_
              refine XL_cons rfl (X_of_Y0 rfl (Y0_pick1 (b := bif (bif (bif (bif (bif (!y31.2) then true else (!y35.2)) then true else (!y36.2)) then true else (!y37.2)) then true else (!y38.2)) then true else (!((y38.1.1 == y37.1.1) && ((y38.1.2.1 == y37.1.2.1) && (y38.1.2.2 == y37.1.2.2))))) (p := true) (q := ltI y31.1 1) rfl (by kernel_rfl) hc44 (by kernel_rfl))) ?_
              refine XL_nil ?_
              subst ht45
              kernel_rfl
             ·refine XL_takeC _ rfl rfl (by kernel_rfl) hc44 (X_of_Y0 rfl (E_move (I y31.1) rfl (by kernel_rfl))) ?_
              refine XL_takeC _ rfl rfl (by kernel_rfl) hc44 (X_of_Y0 rfl (Y0_ltw (k := .i64) (a := y31.1) (b := 1) rfl (by kernel_rfl) (by kernel_rfl))) ?_
              refine XL_cons rfl (X_of_Y0 rfl (Y0_pick0 (b := bif (bif (bif (bif (bif (!y31.2) then true else (!y35.2)) then true else (!y36.2)) then true else (!y37.2)) then true else (!y38.2)) then true else (!((y38.1.1 == y37.1.1) && ((y38.1.2.1 == y37.1.2.1) && (y38.1.2.2 == y37.1.2.2))))) (p := true) (q := ltI y31.1 1) rfl (by kernel_rfl) hc44 (by kernel_rfl))) ?_
              refine XL_nil ?_
              subst ht45
              kernel_rfl
            ·refine XL_takeC _ rfl rfl (by kernel_rfl) hc43 (X_of_Y0 rfl (E_loadn (cs := [Ti y38.1.1, Ti y38.1.2.1, Ti y38.1.2.2]) [Ti y38.1.1, Ti y38.1.2.1, Ti y38.1.2.2] wd25 rfl (by kernel_rfl) (Nat.le_of_ble_eq_true rfl) (by kernel_rfl))) ?_
             refine XL_takeC _ rfl rfl (by kernel_rfl) hc43 (X_of_Y0 rfl (E_loadn (cs := [Ti y37.1.1, Ti y37.1.2.1, Ti y37.1.2.2]) [Ti y37.1.1, Ti y37.1.2.1, Ti y37.1.2.2] wd25 rfl (by kernel_rfl) (Nat.le_of_ble_eq_true rfl) (by kernel_rfl))) ?_
             refine XL_takeC _ rfl rfl (by kernel_rfl) hc43 (X_of_Y0 rfl (Y0_neg3 (a0 := y38.1.1) (b0 := y37.1.1) (a1 := y38.1.2.1) (b1 := y37.1.2.1) (a2 := y38.1.2.2) (b2 := y37.1.2.2) neg25 rfl (by kernel_rfl) (by kernel_rfl))) ?_
             refine XL_cons rfl (X_of_Y0 rfl (Y0_pick0 (b := bif (bif (bif (bif (!y31.2) then true else (!y35.2)) then true else (!y36.2)) then true else (!y37.2)) then true else (!y38.2)) (p := true) (q := !((y38.1.1 == y37.1.1) && ((y38.1.2.1 == y37.1.2.1) && (y38.1.2.2 == y37.1.2.2)))) rfl (by kernel_rfl) hc43 (by kernel_rfl))) ?_
             refine XR 1 ?_
             refine XL_split (bif (bif (bif (bif (bif (!y31.2) then true else (!y35.2)) then true else (!y36.2)) then true else (!y37.2)) then true else (!y38.2)) then true else (!((y38.1.1 == y37.1.1) && ((y38.1.2.1 == y37.1.2.1) && (y38.1.2.2 == y37.1.2.2))))) (fun hc44 => ?_) (fun hc44 => ?_)
             ·refine XL_skipF _ rfl rfl (by kernel_rfl) hc44 rfl ?_
              refine XL_skipF _ rfl rfl (by kernel_rfl) hc44 rfl ?_
              refine XL_cons rfl (X_of_Y0 rfl (Y0_pick1 (b := bif (bif (bif (bif (bif (!y31.2) then true else (!y35.2)) then true else (!y36.2)) then true else (!y37.2)) then true else (!y38.2)) then true else (!((y38.1.1 == y37.1.1) && ((y38.1.2.1 == y37.1.2.1) && (y38.1.2.2 == y37.1.2.2))))) (p := true) (q := ltI y31.1 1) rfl (by kernel_rfl) hc44 (by kernel_rfl))) ?_
              refine XL_nil ?_
              subst ht45
              kernel_rfl
             ·refine XL_takeC _ rfl rfl (by kernel_rfl) hc44 (X_of_Y0 rfl (E_move (I y31.1) rfl (by kernel_rfl))) ?_
              refine XL_takeC _ rfl rfl (by kernel_rfl) hc44 (X_of_Y0 rfl (Y0_ltw (k := .i64) (a := y31.1) (b := 1) rfl (by kernel_rfl) (by kernel_rfl))) ?_
              refine XL_cons rfl (X_of_Y0 rfl (Y0_pick0 (b := bif (bif (bif (bif (bif (!y31.2) then true else (!y35.2)) then true else (!y36.2)) then true else (!y37.2)) then true else (!y38.2)) then true else (!((y38.1.1 == y37.1.1) && ((y38.1.2.1 == y37.1.2.1) && (y38.1.2.2 == y37.1.2.2))))) (p := true) (q := ltI y31.1 1) rfl (by kernel_rfl) hc44 (by kernel_rfl))) ?_
              refine XL_nil ?_
              subst ht45
              kernel_rfl
           ·refine XL_takeC _ rfl rfl (by kernel_rfl) hc42 (X_of_Y0 rfl (E_move (Bo y38.2) rfl (by kernel_rfl))) ?_
            refine XL_takeC _ rfl rfl (by kernel_rfl) hc42 (X_of_Y0 rfl (Y0_not (b := y38.2) rfl (by kernel_rfl))) ?_
            refine XL_cons rfl (X_of_Y0 rfl (Y0_pick0 (b := bif (bif (bif (!y31.2) then true else (!y35.2)) then true else (!y36.2)) then true else (!y37.2)) (p := true) (q := !y38.2) rfl (by kernel_rfl) hc42 (by kernel_rfl))) ?_
            refine XR 1 ?_
            refine XL_split (bif (bif (bif (bif (!y31.2) then true else (!y35.2)) then true else (!y36.2)) then true else (!y37.2)) then true else (!y38.2)) (fun hc43 => ?_) (fun hc43 => ?_)
            ·refine XL_skipF _ rfl rfl (by kernel_rfl) hc43 rfl ?_
             refine XL_skipF _ rfl rfl (by kernel_rfl) hc43 rfl ?_
             refine XL_skipF _ rfl rfl (by kernel_rfl) hc43 rfl ?_
             refine XL_cons rfl (X_of_Y0 rfl (Y0_pick1 (b := bif (bif (bif (bif (!y31.2) then true else (!y35.2)) then true else (!y36.2)) then true else (!y37.2)) then true else (!y38.2)) (p := true) (q := !((y38.1.1 == y37.1.1) && ((y38.1.2.1 == y37.1.2.1) && (y38.1.2.2 == y37.1.2.2)))) rfl (by kernel_rfl) hc43 (by kernel_rfl))) ?_
             refine XR 1 ?_
             refine XL_split (bif (bif (bif (bif (bif (!y31.2) then true else (!y35.2)) then true else (!y36.2)) then true else (!y37.2)) then true else (!y38.2)) then true else (!((y38.1.1 == y37.1.1) && ((y38.1.2.1 == y37.1.2.1) && (y38.1.2.2 == y37.1.2.2))))) (fun hc44 => ?_) (fun hc44 => ?_)
             ·refine XL_skipF _ rfl rfl (by kernel_rfl) hc44 rfl ?_
              refine XL_skipF _ rfl rfl (by kernel_rfl) hc44 rfl ?_
              refine XL_cons rfl (X_of_Y0 rfl (Y0_pick1 (b := bif (bif (bif (bif (bif (!y31.2) then true else (!y35.2)) then true else (!y36.2)) then true else (!y37.2)) then true else (!y38.2)) then true else (!((y38.1.1 == y37.1.1) && ((y38.1.2.1 == y37.1.2.1) && (y38.1.2.2 == y37.1.2.2))))) (p := true) (q := ltI y31.1 1) rfl (by kernel_rfl) hc44 (by kernel_rfl))) ?_
              refine XL_nil ?_
              subst ht45
              kernel_rfl
             ·refine XL_takeC _ rfl rfl (by kernel_rfl) hc44 (X_of_Y0 rfl (E_move (I y31.1) rfl (by kernel_rfl))) ?_
              refine XL_takeC _ rfl rfl (by kernel_rfl) hc44 (X_of_Y0 rfl (Y0_ltw (k := .i64) (a := y31.1) (b := 1) rfl (by kernel_rfl) (by kernel_rfl))) ?_
              refine XL_cons rfl (X_of_Y0 rfl (Y0_pick0 (b := bif (bif (bif (bif (bif (!y31.2) then true else (!y35.2)) then true else (!y36.2)) then true else (!y37.2)) then true else (!y38.2)) then true else (!((y38.1.1 == y37.1.1) && ((y38.1.2.1 == y37.1.2.1) && (y38.1.2.2 == y37.1.2.2))))) (p := true) (q := ltI y31.1 1) rfl (by kernel_rfl) hc44 (by kernel_rfl))) ?_
              refine XL_nil ?_
              subst ht45
              kernel_rfl
            ·refine XL_takeC _ rfl rfl (by kernel_rfl) hc43 (X_of_Y0 rfl (E_loadn (cs := [Ti y38.1.1, Ti y38.1.2.1, Ti y38.1.2.2]) [Ti y38.1.1, Ti y38.1.2.1, Ti y38.1.2.2] wd25 rfl (by kernel_rfl) (Nat.le_of_ble_eq_true rfl) (by kernel_rfl))) ?_
             refine XL_takeC _ rfl rfl (by kernel_rfl) hc43 (X_of_Y0 rfl (E_loadn (cs := [Ti y37.1.1, Ti y37.1.2.1, Ti y37.1.2.2]) [Ti y37.1.1, Ti y37.1.2.1, Ti y37.1.2.2] wd25 rfl (by kernel_rfl) (Nat.le_of_ble_eq_true rfl) (by kernel_rfl))) ?_
             refine XL_takeC _ rfl rfl (by kernel_rfl) hc43 (X_of_Y0 rfl (Y0_neg3 (a0 := y38.1.1) (b0 := y37.1.1) (a1 := y38.1.2.1) (b1 := y37.1.2.1) (a2 := y38.1.2.2) (b2 := y37.1.2.2) neg25 rfl (by kernel_rfl) (by kernel_rfl))) ?_
             refine XL_cons rfl (X_of_Y0 rfl (Y0_pick0 (b := bif (bif (bif (bif (!y31.2) then true else (!y35.2)) then true else (!y36.2)) then true else (!y37.2)) then true else (!y38.2)) (p := true) (q := !((y38.1.1 == y37.1.1) && ((y38.1.2.1 == y37.1.2.1) && (y38.1.2.2 == y37.1.2.2)))) rfl (by kernel_rfl) hc43 (by kernel_rfl))) ?_
             refine XR 1 ?_
             refine XL_split (bif (bif (bif (bif (bif (!y31.2) then true else (!y35.2)) then true else (!y36.2)) then true else (!y37.2)) then true else (!y38.2)) then true else (!((y38.1.1 == y37.1.1) && ((y38.1.2.1 == y37.1.2.1) && (y38.1.2.2 == y37.1.2.2))))) (fun hc44 => ?_) (fun hc44 => ?_)
             ·refine XL_skipF _ rfl rfl (by kernel_rfl) hc44 rfl ?_
              refine XL_skipF _ rfl rfl (by kernel_rfl) hc44 rfl ?_
              refine XL_cons rfl (X_of_Y0 rfl (Y0_pick1 (b := bif (bif (bif (bif (bif (!y31.2) then true else (!y35.2)) then true else (!y36.2)) then true else (!y37.2)) then true else (!y38.2)) then true else (!((y38.1.1 == y37.1.1) && ((y38.1.2.1 == y37.1.2.1) && (y38.1.2.2 == y37.1.2.2))))) (p := true) (q := ltI y31.1 1) rfl (by kernel_rfl) hc44 (by kernel_rfl))) ?_
              refine XL_nil ?_
              subst ht45
              kernel_rfl
             ·refine XL_takeC _ rfl rfl (by kernel_rfl) hc44 (X_of_Y0 rfl (E_move (I y31.1) rfl (by kernel_rfl))) ?_
              refine XL_takeC _ rfl rfl (by kernel_rfl) hc44 (X_of_Y0 rfl (Y0_ltw (k := .i64) (a := y31.1) (b := 1) rfl (by kernel_rfl) (by kernel_rfl))) ?_
              refine XL_cons rfl (X_of_Y0 rfl (Y0_pick0 (b := bif (bif (bif (bif (bif (!y31.2) then true else (!y35.2)) then true else (!y36.2)) then true else (!y37.2)) then true else (!y38.2)) then true else (!((y38.1.1 == y37.1.1) && ((y38.1.2.1 == y37.1.2.1) && (y38.1.2.2 == y37.1.2.2))))) (p := true) (q := ltI y31.1 1) rfl (by kernel_rfl) hc44 (by kernel_rfl))) ?_
              refine XL_nil ?_
              subst ht45
              kernel_rfl
          ·refine XL_takeC _ rfl rfl (by kernel_rfl) hc41 (X_of_Y0 rfl (E_move (Bo y37.2) rfl (by kernel_rfl))) ?_
           refine XL_takeC _ rfl rfl (by kernel_rfl) hc41 (X_of_Y0 rfl (Y0_not (b := y37.2) rfl (by kernel_rfl))) ?_
           refine XL_cons rfl (X_of_Y0 rfl (Y0_pick0 (b := bif (bif (!y31.2) then true else (!y35.2)) then true else (!y36.2)) (p := true) (q := !y37.2) rfl (by kernel_rfl) hc41 (by kernel_rfl))) ?_
           refine XR 1 ?_
           refine XL_split (bif (bif (bif (!y31.2) then true else (!y35.2)) then true else (!y36.2)) then true else (!y37.2)) (fun hc42 => ?_) (fun hc42 => ?_)
           ·refine XL_skipF _ rfl rfl (by kernel_rfl) hc42 rfl ?_
            refine XL_skipF _ rfl rfl (by kernel_rfl) hc42 rfl ?_
            refine XL_cons rfl (X_of_Y0 rfl (Y0_pick1 (b := bif (bif (bif (!y31.2) then true else (!y35.2)) then true else (!y36.2)) then true else (!y37.2)) (p := true) (q := !y38.2) rfl (by kernel_rfl) hc42 (by kernel_rfl))) ?_
            refine XR 1 ?_
            refine XL_split (bif (bif (bif (bif (!y31.2) then true else (!y35.2)) then true else (!y36.2)) then true else (!y37.2)) then true else (!y38.2)) (fun hc43 => ?_) (fun hc43 => ?_)
            ·refine XL_skipF _ rfl rfl (by kernel_rfl) hc43 rfl ?_
             refine XL_skipF _ rfl rfl (by kernel_rfl) hc43 rfl ?_
             refine XL_skipF _ rfl rfl (by kernel_rfl) hc43 rfl ?_
             refine XL_cons rfl (X_of_Y0 rfl (Y0_pick1 (b := bif (bif (bif (bif (!y31.2) then true else (!y35.2)) then true else (!y36.2)) then true else (!y37.2)) then true else (!y38.2)) (p := true) (q := !((y38.1.1 == y37.1.1) && ((y38.1.2.1 == y37.1.2.1) && (y38.1.2.2 == y37.1.2.2)))) rfl (by kernel_rfl) hc43 (by kernel_rfl))) ?_
             refine XR 1 ?_
             refine XL_split (bif (bif (bif (bif (bif (!y31.2) then true else (!y35.2)) then true else (!y36.2)) then true else (!y37.2)) then true else (!y38.2)) then true else (!((y38.1.1 == y37.1.1) && ((y38.1.2.1 == y37.1.2.1) && (y38.1.2.2 == y37.1.2.2))))) (fun hc44 => ?_) (fun hc44 => ?_)
             ·refine XL_skipF _ rfl rfl (by kernel_rfl) hc44 rfl ?_
              refine XL_skipF _ rfl rfl (by kernel_rfl) hc44 rfl ?_
              refine XL_cons rfl (X_of_Y0 rfl (Y0_pick1 (b := bif (bif (bif (bif (bif (!y31.2) then true else (!y35.2)) then true else (!y36.2)) then true else (!y37.2)) then true else (!y38.2)) then true else (!((y38.1.1 == y37.1.1) && ((y38.1.2.1 == y37.1.2.1) && (y38.1.2.2 == y37.1.2.2))))) (p := true) (q := ltI y31.1 1) rfl (by kernel_rfl) hc44 (by kernel_rfl))) ?_
              refine XL_nil ?_
              subst ht45
              kernel_rfl
             ·refine XL_takeC _ rfl rfl (by kernel_rfl) hc44 (X_of_Y0 rfl (E_move (I y31.1) rfl (by kernel_rfl))) ?_
              refine XL_takeC _ rfl rfl (by kernel_rfl) hc44 (X_of_Y0 rfl (Y0_ltw (k := .i64) (a := y31.1) (b := 1) rfl (by kernel_rfl) (by kernel_rfl))) ?_
              refine XL_cons rfl (X_of_Y0 rfl (Y0_pick0 (b := bif (bif (bif (bif (bif (!y31.2) then true else (!y35.2)) then true else (!y36.2)) then true else (!y37.2)) then true else (!y38.2)) then true else (!((y38.1.1 == y37.1.1) && ((y38.1.2.1 == y37.1.2.1) && (y38.1.2.2 == y37.1.2.2))))) (p := true) (q := ltI y31.1 1) rfl (by kernel_rfl) hc44 (by kernel_rfl))) ?_
              refine XL_nil ?_
              subst ht45
              kernel_rfl
            ·refine XL_takeC _ rfl rfl (by kernel_rfl) hc43 (X_of_Y0 rfl (E_loadn (cs := [Ti y38.1.1, Ti y38.1.2.1, Ti y38.1.2.2]) [Ti y38.1.1, Ti y38.1.2.1, Ti y38.1.2.2] wd25 rfl (by kernel_rfl) (Nat.le_of_ble_eq_true rfl) (by kernel_rfl))) ?_
             refine XL_takeC _ rfl rfl (by kernel_rfl) hc43 (X_of_Y0 rfl (E_loadn (cs := [Ti y37.1.1, Ti y37.1.2.1, Ti y37.1.2.2]) [Ti y37.1.1, Ti y37.1.2.1, Ti y37.1.2.2] wd25 rfl (by kernel_rfl) (Nat.le_of_ble_eq_true rfl) (by kernel_rfl))) ?_
             refine XL_takeC _ rfl rfl (by kernel_rfl) hc43 (X_of_Y0 rfl (Y0_neg3 (a0 := y38.1.1) (b0 := y37.1.1) (a1 := y38.1.2.1) (b1 := y37.1.2.1) (a2 := y38.1.2.2) (b2 := y37.1.2.2) neg25 rfl (by kernel_rfl) (by kernel_rfl))) ?_
             refine XL_cons rfl (X_of_Y0 rfl (Y0_pick0 (b := bif (bif (bif (bif (!y31.2) then true else (!y35.2)) then true else (!y36.2)) then true else (!y37.2)) then true else (!y38.2)) (p := true) (q := !((y38.1.1 == y37.1.1) && ((y38.1.2.1 == y37.1.2.1) && (y38.1.2.2 == y37.1.2.2)))) rfl (by kernel_rfl) hc43 (by kernel_rfl))) ?_
             refine XR 1 ?_
             refine XL_split (bif (bif (bif (bif (bif (!y31.2) then true else (!y35.2)) then true else (!y36.2)) then true else (!y37.2)) then true else (!y38.2)) then true else (!((y38.1.1 == y37.1.1) && ((y38.1.2.1 == y37.1.2.1) && (y38.1.2.2 == y37.1.2.2))))) (fun hc44 => ?_) (fun hc44 => ?_)
             ·refine XL_skipF _ rfl rfl (by kernel_rfl) hc44 rfl ?_
              refine XL_skipF _ rfl rfl (by kernel_rfl) hc44 rfl ?_
              refine XL_cons rfl (X_of_Y0 rfl (Y0_pick1 (b := bif (bif (bif (bif (bif (!y31.2) then true else (!y35.2)) then true else (!y36.2)) then true else (!y37.2)) then true else (!y38.2)) then true else (!((y38.1.1 == y37.1.1) && ((y38.1.2.1 == y37.1.2.1) && (y38.1.2.2 == y37.1.2.2))))) (p := true) (q := ltI y31.1 1) rfl (by kernel_rfl) hc44 (by kernel_rfl))) ?_
              refine XL_nil ?_
              subst ht45
              kernel_rfl
             ·refine XL_takeC _ rfl rfl (by kernel_rfl) hc44 (X_of_Y0 rfl (E_move (I y31.1) rfl (by kernel_rfl))) ?_
              refine XL_takeC _ rfl rfl (by kernel_rfl) hc44 (X_of_Y0 rfl (Y0_ltw (k := .i64) (a := y31.1) (b := 1) rfl (by kernel_rfl) (by kernel_rfl))) ?_
              refine XL_cons rfl (X_of_Y0 rfl (Y0_pick0 (b := bif (bif (bif (bif (bif (!y31.2) then true else (!y35.2)) then true else (!y36.2)) then true else (!y37.2)) then true else (!y38.2)) then true else (!((y38.1.1 == y37.1.1) && ((y38.1.2.1 == y37.1.2.1) && (y38.1.2.2 == y37.1.2.2))))) (p := true) (q := ltI y31.1 1) rfl (by kernel_rfl) hc44 (by kernel_rfl))) ?_
              refine XL_nil ?_
              subst ht45
              kernel_rfl
           ·refine XL_takeC _ rfl rfl (by kernel_rfl) hc42 (X_of_Y0 rfl (E_move (Bo y38.2) rfl (by kernel_rfl))) ?_
            refine XL_takeC _ rfl rfl (by kernel_rfl) hc42 (X_of_Y0 rfl (Y0_not (b := y38.2) rfl (by kernel_rfl))) ?_
            refine XL_cons rfl (X_of_Y0 rfl (Y0_pick0 (b := bif (bif (bif (!y31.2) then true else (!y35.2)) then true else (!y36.2)) then true else (!y37.2)) (p := true) (q := !y38.2) rfl (by kernel_rfl) hc42 (by kernel_rfl))) ?_
            refine XR 1 ?_
            refine XL_split (bif (bif (bif (bif (!y31.2) then true else (!y35.2)) then true else (!y36.2)) then true else (!y37.2)) then true else (!y38.2)) (fun hc43 => ?_) (fun hc43 => ?_)
            ·refine XL_skipF _ rfl rfl (by kernel_rfl) hc43 rfl ?_
             refine XL_skipF _ rfl rfl (by kernel_rfl) hc43 rfl ?_
             refine XL_skipF _ rfl rfl (by kernel_rfl) hc43 rfl ?_
             refine XL_cons rfl (X_of_Y0 rfl (Y0_pick1 (b := bif (bif (bif (bif (!y31.2) then true else (!y35.2)) then true else (!y36.2)) then true else (!y37.2)) then true else (!y38.2)) (p := true) (q := !((y38.1.1 == y37.1.1) && ((y38.1.2.1 == y37.1.2.1) && (y38.1.2.2 == y37.1.2.2)))) rfl (by kernel_rfl) hc43 (by kernel_rfl))) ?_
             refine XR 1 ?_
             refine XL_split (bif (bif (bif (bif (bif (!y31.2) then true else (!y35.2)) then true else (!y36.2)) then true else (!y37.2)) then true else (!y38.2)) then true else (!((y38.1.1 == y37.1.1) && ((y38.1.2.1 == y37.1.2.1) && (y38.1.2.2 == y37.1.2.2))))) (fun hc44 => ?_) (fun hc44 => ?_)
             ·refine XL_skipF _ rfl rfl (by kernel_rfl) hc44 rfl ?_
              refine XL_skipF _ rfl rfl (by kernel_rfl) hc44 rfl ?_
              refine XL_cons rfl (X_of_Y0 rfl (Y0_pick1 (b := bif (bif (bif (bif (bif (!y31.2) then true else (!y35.2)) then true else (!y36.2)) then true else (!y37.2)) then true else (!y38.2)) then true else (!((y38.1.1 == y37.1.1) && ((y38.1.2.1 == y37.1.2.1) && (y38.1.2.2 == y37.1.2.2))))) (p := true) (q := ltI y31.1 1) rfl (by kernel_rfl) hc44 (by kernel_rfl))) ?_
              refine XL_nil ?_
              subst ht45
              kernel_rfl
             ·refine XL_takeC _ rfl rfl (by kernel_rfl) hc44 (X_of_Y0 rfl (E_move (I y31.1) rfl (by kernel_rfl))) ?_
              refine XL_takeC _ rfl rfl (by kernel_rfl) hc44 (X_of_Y0 rfl (Y0_ltw (k := .i64) (a := y31.1) (b := 1) rfl (by kernel_rfl) (by kernel_rfl))) ?_
              refine XL_cons rfl (X_of_Y0 rfl (Y0_pick0 (b := bif (bif (bif (bif (bif (!y31.2) then true else (!y35.2)) then true else (!y36.2)) then true else (!y37.2)) then true else (!y38.2)) then true else (!((y38.1.1 == y37.1.1) && ((y38.1.2.1 == y37.1.2.1) && (y38.1.2.2 == y37.1.2.2))))) (p := true) (q := ltI y31.1 1) rfl (by kernel_rfl) hc44 (by kernel_rfl))) ?_
              refine XL_nil ?_
              subst ht45
              kernel_rfl
            ·refine XL_takeC _ rfl rfl (by kernel_rfl) hc43 (X_of_Y0 rfl (E_loadn (cs := [Ti y38.1.1, Ti y38.1.2.1, Ti y38.1.2.2]) [Ti y38.1.1, Ti y38.1.2.1, Ti y38.1.2.2] wd25 rfl (by kernel_rfl) (Nat.le_of_ble_eq_true rfl) (by kernel_rfl))) ?_
             refine XL_takeC _ rfl rfl (by kernel_rfl) hc43 (X_of_Y0 rfl (E_loadn (cs := [Ti y37.1.1, Ti y37.1.2.1, Ti y37.1.2.2]) [Ti y37.1.1, Ti y37.1.2.1, Ti y37.1.2.2] wd25 rfl (by kernel_rfl) (Nat.le_of_ble_eq_true rfl) (by kernel_rfl))) ?_
             refine XL_takeC _ rfl rfl (by kernel_rfl) hc43 (X_of_Y0 rfl (Y0_neg3 (a0 := y38.1.1) (b0 := y37.1.1) (a1 := y38.1.2.1) (b1 := y37.1.2.1) (a2 := y38.1.2.2) (b2 := y37.1.2.2) neg25 rfl (by kernel_rfl) (by kernel_rfl))) ?_
             refine XL_cons rfl (X_of_Y0 rfl (Y0_pick0 (b := bif (bif (bif (bif (!y31.2) then true else (!y35.2)) then true else (!y36.2)) then true else (!y37.2)) then true else (!y38.2)) (p := true) (q := !((y38.1.1 == y37.1.1) && ((y38.1.2.1 == y37.1.2.1) && (y38.1.2.2 == y37.1.2.2)))) rfl (by kernel_rfl) hc43 (by kernel_rfl))) ?_
             refine XR 1 ?_
             refine XL_split (bif (bif (bif (bif (bif (!y31.2) then true else (!y35.2)) then true else (!y36.2)) then true else (!y37.2)) then true else (!y38.2)) then true else (!((y38.1.1 == y37.1.1) && ((y38.1.2.1 == y37.1.2.1) && (y38.1.2.2 == y37.1.2.2))))) (fun hc44 => ?_) (fun hc44 => ?_)
             ·refine XL_skipF _ rfl rfl (by kernel_rfl) hc44 rfl ?_
              refine XL_skipF _ rfl rfl (by kernel_rfl) hc44 rfl ?_
              refine XL_cons rfl (X_of_Y0 rfl (Y0_pick1 (b := bif (bif (bif (bif (bif (!y31.2) then true else (!y35.2)) then true else (!y36.2)) then true else (!y37.2)) then true else (!y38.2)) then true else (!((y38.1.1 == y37.1.1) && ((y38.1.2.1 == y37.1.2.1) && (y38.1.2.2 == y37.1.2.2))))) (p := true) (q := ltI y31.1 1) rfl (by kernel_rfl) hc44 (by kernel_rfl))) ?_
              refine XL_nil ?_
              subst ht45
              kernel_rfl
             ·refine XL_takeC _ rfl rfl (by kernel_rfl) hc44 (X_of_Y0 rfl (E_move (I y31.1) rfl (by kernel_rfl))) ?_
              refine XL_takeC _ rfl rfl (by kernel_rfl) hc44 (X_of_Y0 rfl (Y0_ltw (k := .i64) (a := y31.1) (b := 1) rfl (by kernel_rfl) (by kernel_rfl))) ?_
              refine XL_cons rfl (X_of_Y0 rfl (Y0_pick0 (b := bif (bif (bif (bif (bif (!y31.2) then true else (!y35.2)) then true else (!y36.2)) then true else (!y37.2)) then true else (!y38.2)) then true else (!((y38.1.1 == y37.1.1) && ((y38.1.2.1 == y37.1.2.1) && (y38.1.2.2 == y37.1.2.2))))) (p := true) (q := ltI y31.1 1) rfl (by kernel_rfl) hc44 (by kernel_rfl))) ?_
              refine XL_nil ?_
              subst ht45
              kernel_rfl
        ·refine XL_takeC _ rfl rfl (by kernel_rfl) hc39 (X_of_Y0 rfl (E_move (Bo y35.2) rfl (by kernel_rfl))) ?_
         refine XL_takeC _ rfl rfl (by kernel_rfl) hc39 (X_of_Y0 rfl (Y0_not (b := y35.2) rfl (by kernel_rfl))) ?_
         refine XL_cons rfl (X_of_Y0 rfl (Y0_pick0 (b := !y31.2) (p := true) (q := !y35.2) rfl (by kernel_rfl) hc39 (by kernel_rfl))) ?_
         refine XR 1 ?_
         refine XL_split (bif (!y31.2) then true else (!y35.2)) (fun hc40 => ?_) (fun hc40 => ?_)
         ·refine XL_skipF _ rfl rfl (by kernel_rfl) hc40 rfl ?_
          refine XL_skipF _ rfl rfl (by kernel_rfl) hc40 rfl ?_
          refine XL_cons rfl (X_of_Y0 rfl (Y0_pick1 (b := bif (!y31.2) then true else (!y35.2)) (p := true) (q := !y36.2) rfl (by kernel_rfl) hc40 (by kernel_rfl))) ?_
          refine XR 1 ?_
          refine XL_split (bif (bif (!y31.2) then true else (!y35.2)) then true else (!y36.2)) (fun hc41 => ?_) (fun hc41 => ?_)
          ·refine XL_skipF _ rfl rfl (by kernel_rfl) hc41 rfl ?_
           refine XL_skipF _ rfl rfl (by kernel_rfl) hc41 rfl ?_
           refine XL_cons rfl (X_of_Y0 rfl (Y0_pick1 (b := bif (bif (!y31.2) then true else (!y35.2)) then true else (!y36.2)) (p := true) (q := !y37.2) rfl (by kernel_rfl) hc41 (by kernel_rfl))) ?_
           refine XR 1 ?_
           refine XL_split (bif (bif (bif (!y31.2) then true else (!y35.2)) then true else (!y36.2)) then true else (!y37.2)) (fun hc42 => ?_) (fun hc42 => ?_)
           ·refine XL_skipF _ rfl rfl (by kernel_rfl) hc42 rfl ?_
            refine XL_skipF _ rfl rfl (by kernel_rfl) hc42 rfl ?_
            refine XL_cons rfl (X_of_Y0 rfl (Y0_pick1 (b := bif (bif (bif (!y31.2) then true else (!y35.2)) then true else (!y36.2)) then true else (!y37.2)) (p := true) (q := !y38.2) rfl (by kernel_rfl) hc42 (by kernel_rfl))) ?_
            refine XR 1 ?_
            refine XL_split (bif (bif (bif (bif (!y31.2) then true else (!y35.2)) then true else (!y36.2)) then true else (!y37.2)) then true else (!y38.2)) (fun hc43 => ?_) (fun hc43 => ?_)
            ·refine XL_skipF _ rfl rfl (by kernel_rfl) hc43 rfl ?_
             refine XL_skipF _ rfl rfl (by kernel_rfl) hc43 rfl ?_
             refine XL_skipF _ rfl rfl (by kernel_rfl) hc43 rfl ?_
             refine XL_cons rfl (X_of_Y0 rfl (Y0_pick1 (b := bif (bif (bif (bif (!y31.2) then true else (!y35.2)) then true else (!y36.2)) then true else (!y37.2)) then true else (!y38.2)) (p := true) (q := !((y38.1.1 == y37.1.1) && ((y38.1.2.1 == y37.1.2.1) && (y38.1.2.2 == y37.1.2.2)))) rfl (by kernel_rfl) hc43 (by kernel_rfl))) ?_
             refine XR 1 ?_
             refine XL_split (bif (bif (bif (bif (bif (!y31.2) then true else (!y35.2)) then true else (!y36.2)) then true else (!y37.2)) then true else (!y38.2)) then true else (!((y38.1.1 == y37.1.1) && ((y38.1.2.1 == y37.1.2.1) && (y38.1.2.2 == y37.1.2.2))))) (fun hc44 => ?_) (fun hc44 => ?_)
             ·refine XL_skipF _ rfl rfl (by kernel_rfl) hc44 rfl ?_
              refine XL_skipF _ rfl rfl (by kernel_rfl) hc44 rfl ?_
              refine XL_cons rfl (X_of_Y0 rfl (Y0_pick1 (b := bif (bif (bif (bif (bif (!y31.2) then true else (!y35.2)) then true else (!y36.2)) then true else (!y37.2)) then true else (!y38.2)) then true else (!((y38.1.1 == y37.1.1) && ((y38.1.2.1 == y37.1.2.1) && (y38.1.2.2 == y37.1.2.2))))) (p := true) (q := ltI y31.1 1) rfl (by kernel_rfl) hc44 (by kernel_rfl))) ?_
              refine XL_nil ?_
              subst ht45
              kernel_rfl
             ·refine XL_takeC _ rfl rfl (by kernel_rfl) hc44 (X_of_Y0 rfl (E_move (I y31.1) rfl (by kernel_rfl))) ?_
              refine XL_takeC _ rfl rfl (by kernel_rfl) hc44 (X_of_Y0 rfl (Y0_ltw (k := .i64) (a := y31.1) (b := 1) rfl (by kernel_rfl) (by kernel_rfl))) ?_
              refine XL_cons rfl (X_of_Y0 rfl (Y0_pick0 (b := bif (bif (bif (bif (bif (!y31.2) then true else (!y35.2)) then true else (!y36.2)) then true else (!y37.2)) then true else (!y38.2)) then true else (!((y38.1.1 == y37.1.1) && ((y38.1.2.1 == y37.1.2.1) && (y38.1.2.2 == y37.1.2.2))))) (p := true) (q := ltI y31.1 1) rfl (by kernel_rfl) hc44 (by kernel_rfl))) ?_
              refine XL_nil ?_
              subst ht45
              kernel_rfl
            ·refine XL_takeC _ rfl rfl (by kernel_rfl) hc43 (X_of_Y0 rfl (E_loadn (cs := [Ti y38.1.1, Ti y38.1.2.1, Ti y38.1.2.2]) [Ti y38.1.1, Ti y38.1.2.1, Ti y38.1.2.2] wd25 rfl (by kernel_rfl) (Nat.le_of_ble_eq_true rfl) (by kernel_rfl))) ?_
             refine XL_takeC _ rfl rfl (by kernel_rfl) hc43 (X_of_Y0 rfl (E_loadn (cs := [Ti y37.1.1, Ti y37.1.2.1, Ti y37.1.2.2]) [Ti y37.1.1, Ti y37.1.2.1, Ti y37.1.2.2] wd25 rfl (by kernel_rfl) (Nat.le_of_ble_eq_true rfl) (by kernel_rfl))) ?_
             refine XL_takeC _ rfl rfl (by kernel_rfl) hc43 (X_of_Y0 rfl (Y0_neg3 (a0 := y38.1.1) (b0 := y37.1.1) (a1 := y38.1.2.1) (b1 := y37.1.2.1) (a2 := y38.1.2.2) (b2 := y37.1.2.2) neg25 rfl (by kernel_rfl) (by kernel_rfl))) ?_
             refine XL_cons rfl (X_of_Y0 rfl (Y0_pick0 (b := bif (bif (bif (bif (!y31.2) then true else (!y35.2)) then true else (!y36.2)) then true else (!y37.2)) then true else (!y38.2)) (p := true) (q := !((y38.1.1 == y37.1.1) && ((y38.1.2.1 == y37.1.2.1) && (y38.1.2.2 == y37.1.2.2)))) rfl (by kernel_rfl) hc43 (by kernel_rfl))) ?_
             refine XR 1 ?_
             refine XL_split (bif (bif (bif (bif (bif (!y31.2) then true else (!y35.2)) then true else (!y36.2)) then true else (!y37.2)) then true else (!y38.2)) then true else (!((y38.1.1 == y37.1.1) && ((y38.1.2.1 == y37.1.2.1) && (y38.1.2.2 == y37.1.2.2))))) (fun hc44 => ?_) (fun hc44 => ?_)
             ·refine XL_skipF _ rfl rfl (by kernel_rfl) hc44 rfl ?_
              refine XL_skipF _ rfl rfl (by kernel_rfl) hc44 rfl ?_
              refine XL_cons rfl (X_of_Y0 rfl (Y0_pick1 (b := bif (bif (bif (bif (bif (!y31.2) then true else (!y35.2)) then true else (!y36.2)) then true else (!y37.2)) then true else (!y38.2)) then true else (!((y38.1.1 == y37.1.1) && ((y38.1.2.1 == y37.1.2.1) && (y38.1.2.2 == y37.1.2.2))))) (p := true) (q := ltI y31.1 1) rfl (by kernel_rfl) hc44 (by kernel_rfl))) ?_
              refine XL_nil ?_
              subst ht45
              kernel_rfl
             ·refine XL_takeC _ rfl rfl (by kernel_rfl) hc44 (X_of_Y0 rfl (E_move (I y31.1) rfl (by kernel_rfl))) ?_
              refine XL_takeC _ rfl rfl (by kernel_rfl) hc44 (X_of_Y0 rfl (Y0_ltw (k := .i64) (a := y31.1) (b := 1) rfl (by kernel_rfl) (by kernel_rfl))) ?_
              refine XL_cons rfl (X_of_Y0 rfl (Y0_pick0 (b := bif (bif (bif (bif (bif (!y31.2) then true else (!y35.2)) then true else (!y36.2)) then true else (!y37.2)) then true else (!y38.2)) then true else (!((y38.1.1 == y37.1.1) && ((y38.1.2.1 == y37.1.2.1) && (y38.1.2.2 == y37.1.2.2))))) (p := true) (q := ltI y31.1 1) rfl (by kernel_rfl) hc44 (by kernel_rfl))) ?_
              refine XL_nil ?_
              subst ht45
              kernel_rfl
           ·refine XL_takeC _ rfl rfl (by kernel_rfl) hc42 (X_of_Y0 rfl (E_move (Bo y38.2) rfl (by kernel_rfl))) ?_
            refine XL_takeC _ rfl rfl (by kernel_rfl) hc42 (X_of_Y0 rfl (Y0_not (b := y38.2) rfl (by kernel_rfl))) ?_
            refine XL_cons rfl (X_of_Y0 rfl (Y0_pick0 (b := bif (bif (bif (!y31.2) then true else (!y35.2)) then true else (!y36.2)) then true else (!y37.2)) (p := true) (q := !y38.2) rfl (by kernel_rfl) hc42 (by kernel_rfl))) ?_
            refine XR 1 ?_
            refine XL_split (bif (bif (bif (bif (!y31.2) then true else (!y35.2)) then true else (!y36.2)) then true else (!y37.2)) then true else (!y38.2)) (fun hc43 => ?_) (fun hc43 => ?_)
            ·refine XL_skipF _ rfl rfl (by kernel_rfl) hc43 rfl ?_
             refine XL_skipF _ rfl rfl (by kernel_rfl) hc43 rfl ?_
             refine XL_skipF _ rfl rfl (by kernel_rfl) hc43 rfl ?_
             refine XL_cons rfl (X_of_Y0 rfl (Y0_pick1 (b := bif (bif (bif (bif (!y31.2) then true else (!y35.2)) then true else (!y36.2)) then true else (!y37.2)) then true else (!y38.2)) (p := true) (q := !((y38.1.1 == y37.1.1) && ((y38.1.2.1 == y37.1.2.1) && (y38.1.2.2 == y37.1.2.2)))) rfl (by kernel_rfl) hc43 (by kernel_rfl))) ?_
             refine XR 1 ?_
             refine XL_split (bif (bif (bif (bif (bif (!y31.2) then true else (!y35.2)) then true else (!y36.2)) then true else (!y37.2)) then true else (!y38.2)) then true else (!((y38.1.1 == y37.1.1) && ((y38.1.2.1 == y37.1.2.1) && (y38.1.2.2 == y37.1.2.2))))) (fun hc44 => ?_) (fun hc44 => ?_)
             ·refine XL_skipF _ rfl rfl (by kernel_rfl) hc44 rfl ?_
              refine XL_skipF _ rfl rfl (by kernel_rfl) hc44 rfl ?_
              refine XL_cons rfl (X_of_Y0 rfl (Y0_pick1 (b := bif (bif (bif (bif (bif (!y31.2) then true else (!y35.2)) then true else (!y36.2)) then true else (!y37.2)) then true else (!y38.2)) then true else (!((y38.1.1 == y37.1.1) && ((y38.1.2.1 == y37.1.2.1) && (y38.1.2.2 == y37.1.2.2))))) (p := true) (q := ltI y31.1 1) rfl (by kernel_rfl) hc44 (by kernel_rfl))) ?_
              refine XL_nil ?_
              subst ht45
              kernel_rfl
             ·refine XL_takeC _ rfl rfl (by kernel_rfl) hc44 (X_of_Y0 rfl (E_move (I y31.1) rfl (by kernel_rfl))) ?_
              refine XL_takeC _ rfl rfl (by kernel_rfl) hc44 (X_of_Y0 rfl (Y0_ltw (k := .i64) (a := y31.1) (b := 1) rfl (by kernel_rfl) (by kernel_rfl))) ?_
              refine XL_cons rfl (X_of_Y0 rfl (Y0_pick0 (b := bif (bif (bif (bif (bif (!y31.2) then true else (!y35.2)) then true else (!y36.2)) then true else (!y37.2)) then true else (!y38.2)) then true else (!((y38.1.1 == y37.1.1) && ((y38.1.2.1 == y37.1.2.1) && (y38.1.2.2 == y37.1.2.2))))) (p := true) (q := ltI y31.1 1) rfl (by kernel_rfl) hc44 (by kernel_rfl))) ?_
              refine XL_nil ?_
              subst ht45
              kernel_rfl
            ·refine XL_takeC _ rfl rfl (by kernel_rfl) hc43 (X_of_Y0 rfl (E_loadn (cs := [Ti y38.1.1, Ti y38.1.2.1, Ti y38.1.2.2]) [Ti y38.1.1, Ti y38.1.2.1, Ti y38.1.2.2] wd25 rfl (by kernel_rfl) (Nat.le_of_ble_eq_true rfl) (by kernel_rfl))) ?_
             refine XL_takeC _ rfl rfl (by kernel_rfl) hc43 (X_of_Y0 rfl (E_loadn (cs := [Ti y37.1.1, Ti y37.1.2.1, Ti y37.1.2.2]) [Ti y37.1.1, Ti y37.1.2.1, Ti y37.1.2.2] wd25 rfl (by kernel_rfl) (Nat.le_of_ble_eq_true rfl) (by kernel_rfl))) ?_
             refine XL_takeC _ rfl rfl (by kernel_rfl) hc43 (X_of_Y0 rfl (Y0_neg3 (a0 := y38.1.1) (b0 := y37.1.1) (a1 := y38.1.2.1) (b1 := y37.1.2.1) (a2 := y38.1.2.2) (b2 := y37.1.2.2) neg25 rfl (by kernel_rfl) (by kernel_rfl))) ?_
             refine XL_cons rfl (X_of_Y0 rfl (Y0_pick0 (b := bif (bif (bif (bif (!y31.2) then true else (!y35.2)) then true else (!y36.2)) then true else (!y37.2)) then true else (!y38.2)) (p := true) (q := !((y38.1.1 == y37.1.1) && ((y38.1.2.1 == y37.1.2.1) && (y38.1.2.2 == y37.1.2.2)))) rfl (by kernel_rfl) hc43 (by kernel_rfl))) ?_
             refine XR 1 ?_
             refine XL_split (bif (bif (bif (bif (bif (!y31.2) then true else (!y35.2)) then true else (!y36.2)) then true else (!y37.2)) then true else (!y38.2)) then true else (!((y38.1.1 == y37.1.1) && ((y38.1.2.1 == y37.1.2.1) && (y38.1.2.2 == y37.1.2.2))))) (fun hc44 => ?_) (fun hc44 => ?_)
             ·refine XL_skipF _ rfl rfl (by kernel_rfl) hc44 rfl ?_
              refine XL_skipF _ rfl rfl (by kernel_rfl) hc44 rfl ?_
              refine XL_cons rfl (X_of_Y0 rfl (Y0_pick1 (b := bif (bif (bif (bif (bif (!y31.2) then true else (!y35.2)) then true else (!y36.2)) then true else (!y37.2)) then true else (!y38.2)) then true else (!((y38.1.1 == y37.1.1) && ((y38.1.2.1 == y37.1.2.1) && (y38.1.2.2 == y37.1.2.2))))) (p := true) (q := ltI y31.1 1) rfl (by kernel_rfl) hc44 (by kernel_rfl))) ?_
              refine XL_nil ?_
              subst ht45
              kernel_rfl
             ·refine XL_takeC _ rfl rfl (by kernel_rfl) hc44 (X_of_Y0 rfl (E_move (I y31.1) rfl (by kernel_rfl))) ?_
              refine XL_takeC _ rfl rfl (by kernel_rfl) hc44 (X_of_Y0 rfl (Y0_ltw (k := .i64) (a := y31.1) (b := 1) rfl (by kernel_rfl) (by kernel_rfl))) ?_
              refine XL_cons rfl (X_of_Y0 rfl (Y0_pick0 (b := bif (bif (bif (bif (bif (!y31.2) then true else (!y35.2)) then true else (!y36.2)) then true else (!y37.2)) then true else (!y38.2)) then true else (!((y38.1.1 == y37.1.1) && ((y38.1.2.1 == y37.1.2.1) && (y38.1.2.2 == y37.1.2.2))))) (p := true) (q := ltI y31.1 1) rfl (by kernel_rfl) hc44 (by kernel_rfl))) ?_
              refine XL_nil ?_
              subst ht45
              kernel_rfl
          ·refine XL_takeC _ rfl rfl (by kernel_rfl) hc41 (X_of_Y0 rfl (E_move (Bo y37.2) rfl (by kernel_rfl))) ?_
           refine XL_takeC _ rfl rfl (by kernel_rfl) hc41 (X_of_Y0 rfl (Y0_not (b := y37.2) rfl (by kernel_rfl))) ?_
           refine XL_cons rfl (X_of_Y0 rfl (Y0_pick0 (b := bif (bif (!y31.2) then true else (!y35.2)) then true else (!y36.2)) (p := true) (q := !y37.2) rfl (by kernel_rfl) hc41 (by kernel_rfl))) ?_
           refine XR 1 ?_
           refine XL_split (bif (bif (bif (!y31.2) then true else (!y35.2)) then true else (!y36.2)) then true else (!y37.2)) (fun hc42 => ?_) (fun hc42 => ?_)
           ·refine XL_skipF _ rfl rfl (by kernel_rfl) hc42 rfl ?_
            refine XL_skipF _ rfl rfl (by kernel_rfl) hc42 rfl ?_
            refine XL_cons rfl (X_of_Y0 rfl (Y0_pick1 (b := bif (bif (bif (!y31.2) then true else (!y35.2)) then true else (!y36.2)) then true else (!y37.2)) (p := true) (q := !y38.2) rfl (by kernel_rfl) hc42 (by kernel_rfl))) ?_
            refine XR 1 ?_
            refine XL_split (bif (bif (bif (bif (!y31.2) then true else (!y35.2)) then true else (!y36.2)) then true else (!y37.2)) then true else (!y38.2)) (fun hc43 => ?_) (fun hc43 => ?_)
            ·refine XL_skipF _ rfl rfl (by kernel_rfl) hc43 rfl ?_
             refine XL_skipF _ rfl rfl (by kernel_rfl) hc43 rfl ?_
             refine XL_skipF _ rfl rfl (by kernel_rfl) hc43 rfl ?_
             refine XL_cons rfl (X_of_Y0 rfl (Y0_pick1 (b := bif (bif (bif (bif (!y31.2) then true else (!y35.2)) then true else (!y36.2)) then true else (!y37.2)) then true else (!y38.2)) (p := true) (q := !((y38.1.1 == y37.1.1) && ((y38.1.2.1 == y37.1.2.1) && (y38.1.2.2 == y37.1.2.2)))) rfl (by kernel_rfl) hc43 (by kernel_rfl))) ?_
             refine XR 1 ?_
             refine XL_split (bif (bif (bif (bif (bif (!y31.2) then true else (!y35.2)) then true else (!y36.2)) then true else (!y37.2)) then true else (!y38.2)) then true else (!((y38.1.1 == y37.1.1) && ((y38.1.2.1 == y37.1.2.1) && (y38.1.2.2 == y37.1.2.2))))) (fun hc44 => ?_) (fun hc44 => ?_)
             ·refine XL_skipF _ rfl rfl (by kernel_rfl) hc44 rfl ?_
              refine XL_skipF _ rfl rfl (by kernel_rfl) hc44 rfl ?_
              refine XL_cons rfl (X_of_Y0 rfl (Y0_pick1 (b := bif (bif (bif (bif (bif (!y31.2) then true else (!y35.2)) then true else (!y36.2)) then true else (!y37.2)) then true else (!y38.2)) then true else (!((y38.1.1 == y37.1.1) && ((y38.1.2.1 == y37.1.2.1) && (y38.1.2.2 == y37.1.2.2))))) (p := true) (q := ltI y31.1 1) rfl (by kernel_rfl) hc44 (by kernel_rfl))) ?_
              refine XL_nil ?_
              subst ht45
              kernel_rfl
             ·refine XL_takeC _ rfl rfl (by kernel_rfl) hc44 (X_of_Y0 rfl (E_move (I y31.1) rfl (by kernel_rfl))) ?_
              refine XL_takeC _ rfl rfl (by kernel_rfl) hc44 (X_of_Y0 rfl (Y0_ltw (k := .i64) (a := y31.1) (b := 1) rfl (by kernel_rfl) (by kernel_rfl))) ?_
              refine XL_cons rfl (X_of_Y0 rfl (Y0_pick0 (b := bif (bif (bif (bif (bif (!y31.2) then true else (!y35.2)) then true else (!y36.2)) then true else (!y37.2)) then true else (!y38.2)) then true else (!((y38.1.1 == y37.1.1) && ((y38.1.2.1 == y37.1.2.1) && (y38.1.2.2 == y37.1.2.2))))) (p := true) (q := ltI y31.1 1) rfl (by kernel_rfl) hc44 (by kernel_rfl))) ?_
              refine XL_nil ?_
              subst ht45
              kernel_rfl
            ·refine XL_takeC _ rfl rfl (by kernel_rfl) hc43 (X_of_Y0 rfl (E_loadn (cs := [Ti y38.1.1, Ti y38.1.2.1, Ti y38.1.2.2]) [Ti y38.1.1, Ti y38.1.2.1, Ti y38.1.2.2] wd25 rfl (by kernel_rfl) (Nat.le_of_ble_eq_true rfl) (by kernel_rfl))) ?_
             refine XL_takeC _ rfl rfl (by kernel_rfl) hc43 (X_of_Y0 rfl (E_loadn (cs := [Ti y37.1.1, Ti y37.1.2.1, Ti y37.1.2.2]) [Ti y37.1.1, Ti y37.1.2.1, Ti y37.1.2.2] wd25 rfl (by kernel_rfl) (Nat.le_of_ble_eq_true rfl) (by kernel_rfl))) ?_
             refine XL_takeC _ rfl rfl (by kernel_rfl) hc43 (X_of_Y0 rfl (Y0_neg3 (a0 := y38.1.1) (b0 := y37.1.1) (a1 := y38.1.2.1) (b1 := y37.1.2.1) (a2 := y38.1.2.2) (b2 := y37.1.2.2) neg25 rfl (by kernel_rfl) (by kernel_rfl))) ?_
             refine XL_cons rfl (X_of_Y0 rfl (Y0_pick0 (b := bif (bif (bif (bif (!y31.2) then true else (!y35.2)) then true else (!y36.2)) then true else (!y37.2)) then true else (!y38.2)) (p := true) (q := !((y38.1.1 == y37.1.1) && ((y38.1.2.1 == y37.1.2.1) && (y38.1.2.2 == y37.1.2.2)))) rfl (by kernel_rfl) hc43 (by kernel_rfl))) ?_
             refine XR 1 ?_
             refine XL_split (bif (bif (bif (bif (bif (!y31.2) then true else (!y35.2)) then true else (!y36.2)) then true else (!y37.2)) then true else (!y38.2)) then true else (!((y38.1.1 == y37.1.1) && ((y38.1.2.1 == y37.1.2.1) && (y38.1.2.2 == y37.1.2.2))))) (fun hc44 => ?_) (fun hc44 => ?_)
             ·refine XL_skipF _ rfl rfl (by kernel_rfl) hc44 rfl ?_
              refine XL_skipF _ rfl rfl (by kernel_rfl) hc44 rfl ?_
              refine XL_cons rfl (X_of_Y0 rfl (Y0_pick1 (b := bif (bif (bif (bif (bif (!y31.2) then true else (!y35.2)) then true else (!y36.2)) then true else (!y37.2)) then true else (!y38.2)) then true else (!((y38.1.1 == y37.1.1) && ((y38.1.2.1 == y37.1.2.1) && (y38.1.2.2 == y37.1.2.2))))) (p := true) (q := ltI y31.1 1) rfl (by kernel_rfl) hc44 (by kernel_rfl))) ?_
              refine XL_nil ?_
              subst ht45
              kernel_rfl
             ·refine XL_takeC _ rfl rfl (by kernel_rfl) hc44 (X_of_Y0 rfl (E_move (I y31.1) rfl (by kernel_rfl))) ?_
              refine XL_takeC _ rfl rfl (by kernel_rfl) hc44 (X_of_Y0 rfl (Y0_ltw (k := .i64) (a := y31.1) (b := 1) rfl (by kernel_rfl) (by kernel_rfl))) ?_
              refine XL_cons rfl (X_of_Y0 rfl (Y0_pick0 (b := bif (bif (bif (bif (bif (!y31.2) then true else (!y35.2)) then true else (!y36.2)) then true else (!y37.2)) then true else (!y38.2)) then true else (!((y38.1.1 == y37.1.1) && ((y38.1.2.1 == y37.1.2.1) && (y38.1.2.2 == y37.1.2.2))))) (p := true) (q := ltI y31.1 1) rfl (by kernel_rfl) hc44 (by kernel_rfl))) ?_
              refine XL_nil ?_
              subst ht45
              kernel_rfl
           ·refine XL_takeC _ rfl rfl (by kernel_rfl) hc42 (X_of_Y0 rfl (E_move (Bo y38.2) rfl (by kernel_rfl))) ?_
            refine XL_takeC _ rfl rfl (by kernel_rfl) hc42 (X_of_Y0 rfl (Y0_not (b := y38.2) rfl (by kernel_rfl))) ?_
            refine XL_cons rfl (X_of_Y0 rfl (Y0_pick0 (b := bif (bif (bif (!y31.2) then true else (!y35.2)) then true else (!y36.2)) then true else (!y37.2)) (p := true) (q := !y38.2) rfl (by kernel_rfl) hc42 (by kernel_rfl))) ?_
            refine XR 1 ?_
            refine XL_split (bif (bif (bif (bif (!y31.2) then true else (!y35.2)) then true else (!y36.2)) then true else (!y37.2)) then true else (!y38.2)) (fun hc43 => ?_) (fun hc43 => ?_)
            ·refine XL_skipF _ rfl rfl (by kernel_rfl) hc43 rfl ?_
             refine XL_skipF _ rfl rfl (by kernel_rfl) hc43 rfl ?_
             refine XL_skipF _ rfl rfl (by kernel_rfl) hc43 rfl ?_
             refine XL_cons rfl (X_of_Y0 rfl (Y0_pick1 (b := bif (bif (bif (bif (!y31.2) then true else (!y35.2)) then true else (!y36.2)) then true else (!y37.2)) then true else (!y38.2)) (p := true) (q := !((y38.1.1 == y37.1.1) && ((y38.1.2.1 == y37.1.2.1) && (y38.1.2.2 == y37.1.2.2)))) rfl (by kernel_rfl) hc43 (by kernel_rfl))) ?_
             refine XR 1 ?_
             refine XL_split (bif (bif (bif (bif (bif (!y31.2) then true else (!y35.2)) then true else (!y36.2)) then true else (!y37.2)) then true else (!y38.2)) then true else (!((y38.1.1 == y37.1.1) && ((y38.1.2.1 == y37.1.2.1) && (y38.1.2.2 == y37.1.2.2))))) (fun hc44 => ?_) (fun hc44 => ?_)
             ·refine XL_skipF _ rfl rfl (by kernel_rfl) hc44 rfl ?_
              refine XL_skipF _ rfl rfl (by kernel_rfl) hc44 rfl ?_
              refine XL_cons rfl (X_of_Y0 rfl (Y0_pick1 (b := bif (bif (bif (bif (bif (!y31.2) then true else (!y35.2)) then true else (!y36.2)) then true else (!y37.2)) then true else (!y38.2)) then true else (!((y38.1.1 == y37.1.1) && ((y38.1.2.1 == y37.1.2.1) && (y38.1.2.2 == y37.1.2.2))))) (p := true) (q := ltI y31.1 1) rfl (by kernel_rfl) hc44 (by kernel_rfl))) ?_
              refine XL_nil ?_
              subst ht45
              kernel_rfl
             ·refine XL_takeC _ rfl rfl (by kernel_rfl) hc44 (X_of_Y0 rfl (E_move (I y31.1) rfl (by kernel_rfl))) ?_
              refine XL_takeC _ rfl rfl (by kernel_rfl) hc44 (X_of_Y0 rfl (Y0_ltw (k := .i64) (a := y31.1) (b := 1) rfl (by kernel_rfl) (by kernel_rfl))) ?_
              refine XL_cons rfl (X_of_Y0 rfl (Y0_pick0 (b := bif (bif (bif (bif (bif (!y31.2) then true else (!y35.2)) then true else (!y36.2)) then true else (!y37.2)) then true else (!y38.2)) then true else (!((y38.1.1 == y37.1.1) && ((y38.1.2.1 == y37.1.2.1) && (y38.1.2.2 == y37.1.2.2))))) (p := true) (q := ltI y31.1 1) rfl (by kernel_rfl) hc44 (by kernel_rfl))) ?_
              refine XL_nil ?_
              subst ht45
              kernel_rfl
            ·refine XL_takeC _ rfl rfl (by kernel_rfl) hc43 (X_of_Y0 rfl (E_loadn (cs := [Ti y38.1.1, Ti y38.1.2.1, Ti y38.1.2.2]) [Ti y38.1.1, Ti y38.1.2.1, Ti y38.1.2.2] wd25 rfl (by kernel_rfl) (Nat.le_of_ble_eq_true rfl) (by kernel_rfl))) ?_
             refine XL_takeC _ rfl rfl (by kernel_rfl) hc43 (X_of_Y0 rfl (E_loadn (cs := [Ti y37.1.1, Ti y37.1.2.1, Ti y37.1.2.2]) [Ti y37.1.1, Ti y37.1.2.1, Ti y37.1.2.2] wd25 rfl (by kernel_rfl) (Nat.le_of_ble_eq_true rfl) (by kernel_rfl))) ?_
             refine XL_takeC _ rfl rfl (by kernel_rfl) hc43 (X_of_Y0 rfl (Y0_neg3 (a0 := y38.1.1) (b0 := y37.1.1) (a1 := y38.1.2.1) (b1 := y37.1.2.1) (a2 := y38.1.2.2) (b2 := y37.1.2.2) neg25 rfl (by kernel_rfl) (by kernel_rfl))) ?_
             refine XL_cons rfl (X_of_Y0 rfl (Y0_pick0 (b := bif (bif (bif (bif (!y31.2) then true else (!y35.2)) then true else (!y36.2)) then true else (!y37.2)) then true else (!y38.2)) (p := true) (q := !((y38.1.1 == y37.1.1) && ((y38.1.2.1 == y37.1.2.1) && (y38.1.2.2 == y37.1.2.2)))) rfl (by kernel_rfl) hc43 (by kernel_rfl))) ?_
             refine XR 1 ?_
             refine XL_split (bif (bif (bif (bif (bif (!y31.2) then true else (!y35.2)) then true else (!y36.2)) then true else (!y37.2)) then true else (!y38.2)) then true else (!((y38.1.1 == y37.1.1) && ((y38.1.2.1 == y37.1.2.1) && (y38.1.2.2 == y37.1.2.2))))) (fun hc44 => ?_) (fun hc44 => ?_)
             ·refine XL_skipF _ rfl rfl (by kernel_rfl) hc44 rfl ?_
              refine XL_skipF _ rfl rfl (by kernel_rfl) hc44 rfl ?_
              refine XL_cons rfl (X_of_Y0 rfl (Y0_pick1 (b := bif (bif (bif (bif (bif (!y31.2) then true else (!y35.2)) then true else (!y36.2)) then true else (!y37.2)) then true else (!y38.2)) then true else (!((y38.1.1 == y37.1.1) && ((y38.1.2.1 == y37.1.2.1) && (y38.1.2.2 == y37.1.2.2))))) (p := true) (q := ltI y31.1 1) rfl (by kernel_rfl) hc44 (by kernel_rfl))) ?_
              refine XL_nil ?_
              subst ht45
              kernel_rfl
             ·refine XL_takeC _ rfl rfl (by kernel_rfl) hc44 (X_of_Y0 rfl (E_move (I y31.1) rfl (by kernel_rfl))) ?_
              refine XL_takeC _ rfl rfl (by kernel_rfl) hc44 (X_of_Y0 rfl (Y0_ltw (k := .i64) (a := y31.1) (b := 1) rfl (by kernel_rfl) (by kernel_rfl))) ?_
              refine XL_cons rfl (X_of_Y0 rfl (Y0_pick0 (b := bif (bif (bif (bif (bif (!y31.2) then true else (!y35.2)) then true else (!y36.2)) then true else (!y37.2)) then true else (!y38.2)) then true else (!((y38.1.1 == y37.1.1) && ((y38.1.2.1 == y37.1.2.1) && (y38.1.2.2 == y37.1.2.2))))) (p := true) (q := ltI y31.1 1) rfl (by kernel_rfl) hc44 (by kernel_rfl))) ?_
              refine XL_nil ?_
              subst ht45
              kernel_rfl
         ·refine XL_takeC _ rfl rfl (by kernel_rfl) hc40 (X_of_Y0 rfl (E_move (Bo y36.2) rfl (by kernel_rfl))) ?_
          refine XL_takeC _ rfl rfl (by kernel_rfl) hc40 (X_of_Y0 rfl (Y0_not (b := y36.2) rfl (by kernel_rfl))) ?_
          refine XL_cons rfl (X_of_Y0 rfl (Y0_pick0 (b := bif (!y31.2) then true else (!y35.2)) (p := true) (q := !y36.2) rfl (by kernel_rfl) hc40 (by kernel_rfl))) ?_
          refine XR 1 ?_
          refine XL_split (bif (bif (!y31.2) then true else (!y35.2)) then true else (!y36.2)) (fun hc41 => ?_) (fun hc41 => ?_)
          ·refine XL_skipF _ rfl rfl (by kernel_rfl) hc41 rfl ?_
           refine XL_skipF _ rfl rfl (by kernel_rfl) hc41 rfl ?_
           refine XL_cons rfl (X_of_Y0 rfl (Y0_pick1 (b := bif (bif (!y31.2) then true else (!y35.2)) then true else (!y36.2)) (p := true) (q := !y37.2) rfl (by kernel_rfl) hc41 (by kernel_rfl))) ?_
           refine XR 1 ?_
           refine XL_split (bif (bif (bif (!y31.2) then true else (!y35.2)) then true else (!y36.2)) then true else (!y37.2)) (fun hc42 => ?_) (fun hc42 => ?_)
           ·refine XL_skipF _ rfl rfl (by kernel_rfl) hc42 rfl ?_
            refine XL_skipF _ rfl rfl (by kernel_rfl) hc42 rfl ?_
            refine XL_cons rfl (X_of_Y0 rfl (Y0_pick1 (b := bif (bif (bif (!y31.2) then true else (!y35.2)) then true else (!y36.2)) then true else (!y37.2)) (p := true) (q := !y38.2) rfl (by kernel_rfl) hc42 (by kernel_rfl))) ?_
            refine XR 1 ?_
            refine XL_split (bif (bif (bif (bif (!y31.2) then true else (!y35.2)) then true else (!y36.2)) then true else (!y37.2)) then true else (!y38.2)) (fun hc43 => ?_) (fun hc43 => ?_)
            ·refine XL_skipF _ rfl rfl (by kernel_rfl) hc43 rfl ?_
             refine XL_skipF _ rfl rfl (by kernel_rfl) hc43 rfl ?_
             refine XL_skipF _ rfl rfl (by kernel_rfl) hc43 rfl ?_
             refine XL_cons rfl (X_of_Y0 rfl (Y0_pick1 (b := bif (bif (bif (bif (!y31.2) then true else (!y35.2)) then true else (!y36.2)) then true else (!y37.2)) then true else (!y38.2)) (p := true) (q := !((y38.1.1 == y37.1.1) && ((y38.1.2.1 == y37.1.2.1) && (y38.1.2.2 == y37.1.2.2)))) rfl (by kernel_rfl) hc43 (by kernel_rfl))) ?_
             refine XR 1 ?_
             refine XL_split (bif (bif (bif (bif (bif (!y31.2) then true else (!y35.2)) then true else (!y36.2)) then true else (!y37.2)) then true else (!y38.2)) then true else (!((y38.1.1 == y37.1.1) && ((y38.1.2.1 == y37.1.2.1) && (y38.1.2.2 == y37.1.2.2))))) (fun hc44 => ?_) (fun hc44 => ?_)
             ·refine XL_skipF _ rfl rfl (by kernel_rfl) hc44 rfl ?_
              refine XL_skipF _ rfl rfl (by kernel_rfl) hc44 rfl ?_
              refine XL_cons rfl (X_of_Y0 rfl (Y0_pick1 (b := bif (bif (bif (bif (bif (!y31.2) then true else (!y35.2)) then true else (!y36.2)) then true else (!y37.2)) then true else (!y38.2)) then true else (!((y38.1.1 == y37.1.1) && ((y38.1.2.1 == y37.1.2.1) && (y38.1.2.2 == y37.1.2.2))))) (p := true) (q := ltI y31.1 1) rfl (by kernel_rfl) hc44 (by kernel_rfl))) ?_
              refine XL_nil ?_
              subst ht45
              kernel_rfl
             ·refine XL_takeC _ rfl rfl (by kernel_rfl) hc44 (X_of_Y0 rfl (E_move (I y31.1) rfl (by kernel_rfl))) ?_
              refine XL_takeC _ rfl rfl (by kernel_rfl) hc44 (X_of_Y0 rfl (Y0_ltw (k := .i64) (a := y31.1) (b := 1) rfl (by kernel_rfl) (by kernel_rfl))) ?_
              refine XL_cons rfl (X_of_Y0 rfl (Y0_pick0 (b := bif (bif (bif (bif (bif (!y31.2) then true else (!y35.2)) then true else (!y36.2)) then true else (!y37.2)) then true else (!y38.2)) then true else (!((y38.1.1 == y37.1.1) && ((y38.1.2.1 == y37.1.2.1) && (y38.1.2.2 == y37.1.2.2))))) (p := true) (q := ltI y31.1 1) rfl (by kernel_rfl) hc44 (by kernel_rfl))) ?_
              refine XL_nil ?_
              subst ht45
              kernel_rfl
            ·refine XL_takeC _ rfl rfl (by kernel_rfl) hc43 (X_of_Y0 rfl (E_loadn (cs := [Ti y38.1.1, Ti y38.1.2.1, Ti y38.1.2.2]) [Ti y38.1.1, Ti y38.1.2.1, Ti y38.1.2.2] wd25 rfl (by kernel_rfl) (Nat.le_of_ble_eq_true rfl) (by kernel_rfl))) ?_
             refine XL_takeC _ rfl rfl (by kernel_rfl) hc43 (X_of_Y0 rfl (E_loadn (cs := [Ti y37.1.1, Ti y37.1.2.1, Ti y37.1.2.2]) [Ti y37.1.1, Ti y37.1.2.1, Ti y37.1.2.2] wd25 rfl (by kernel_rfl) (Nat.le_of_ble_eq_true rfl) (by kernel_rfl))) ?_
             refine XL_takeC _ rfl rfl (by kernel_rfl) hc43 (X_of_Y0 rfl (Y0_neg3 (a0 := y38.1.1) (b0 := y37.1.1) (a1 := y38.1.2.1) (b1 := y37.1.2.1) (a2 := y38.1.2.2) (b2 := y37.1.2.2) neg25 rfl (by kernel_rfl) (by kernel_rfl))) ?_
             refine XL_cons rfl (X_of_Y0 rfl (Y0_pick0 (b := bif (bif (bif (bif (!y31.2) then true else (!y35.2)) then true else (!y36.2)) then true else (!y37.2)) then true else (!y38.2)) (p := true) (q := !((y38.1.1 == y37.1.1) && ((y38.1.2.1 == y37.1.2.1) && (y38.1.2.2 == y37.1.2.2)))) rfl (by kernel_rfl) hc43 (by kernel_rfl))) ?_
             refine XR 1 ?_
             refine XL_split (bif (bif (bif (bif (bif (!y31.2) then true else (!y35.2)) then true else (!y36.2)) then true else (!y37.2)) then true else (!y38.2)) then true else (!((y38.1.1 == y37.1.1) && ((y38.1.2.1 == y37.1.2.1) && (y38.1.2.2 == y37.1.2.2))))) (fun hc44 => ?_) (fun hc44 => ?_)
             ·refine XL_skipF _ rfl rfl (by kernel_rfl) hc44 rfl ?_
              refine XL_skipF _ rfl rfl (by kernel_rfl) hc44 rfl ?_
              refine XL_cons rfl (X_of_Y0 rfl (Y0_pick1 (b := bif (bif (bif (bif (bif (!y31.2) then true else (!y35.2)) then true else (!y36.2)) then true else (!y37.2)) then true else (!y38.2)) then true else (!((y38.1.1 == y37.1.1) && ((y38.1.2.1 == y37.1.2.1) && (y38.1.2.2 == y37.1.2.2))))) (p := true) (q := ltI y31.1 1) rfl (by kernel_rfl) hc44 (by kernel_rfl))) ?_
              refine XL_nil ?_
              subst ht45
              kernel_rfl
             ·refine XL_takeC _ rfl rfl (by kernel_rfl) hc44 (X_of_Y0 rfl (E_move (I y31.1) rfl (by kernel_rfl))) ?_
              refine XL_takeC _ rfl rfl (by kernel_rfl) hc44 (X_of_Y0 rfl (Y0_ltw (k := .i64) (a := y31.1) (b := 1) rfl (by kernel_rfl) (by kernel_rfl))) ?_
              refine XL_cons rfl (X_of_Y0 rfl (Y0_pick0 (b := bif (bif (bif (bif (bif (!y31.2) then true else (!y35.2)) then true else (!y36.2)) then true else (!y37.2)) then true else (!y38.2)) then true else (!((y38.1.1 == y37.1.1) && ((y38.1.2.1 == y37.1.2.1) && (y38.1.2.2 == y37.1.2.2))))) (p := true) (q := ltI y31.1 1) rfl (by kernel_rfl) hc44 (by kernel_rfl))) ?_
              refine XL_nil ?_
              subst ht45
              kernel_rfl
           ·refine XL_takeC _ rfl rfl (by kernel_rfl) hc42 (X_of_Y0 rfl (E_move (Bo y38.2) rfl (by kernel_rfl))) ?_
            refine XL_takeC _ rfl rfl (by kernel_rfl) hc42 (X_of_Y0 rfl (Y0_not (b := y38.2) rfl (by kernel_rfl))) ?_
            refine XL_cons rfl (X_of_Y0 rfl (Y0_pick0 (b := bif (bif (bif (!y31.2) then true else (!y35.2)) then true else (!y36.2)) then true else (!y37.2)) (p := true) (q := !y38.2) rfl (by kernel_rfl) hc42 (by kernel_rfl))) ?_
            refine XR 1 ?_
            refine XL_split (bif (bif (bif (bif (!y31.2) then true else (!y35.2)) then true else (!y36.2)) then true else (!y37.2)) then true else (!y38.2)) (fun hc43 => ?_) (fun hc43 => ?_)
            ·refine XL_skipF _ rfl rfl (by kernel_rfl) hc43 rfl ?_
             refine XL_skipF _ rfl rfl (by kernel_rfl) hc43 rfl ?_
             refine XL_skipF _ rfl rfl (by kernel_rfl) hc43 rfl ?_
             refine XL_cons rfl (X_of_Y0 rfl (Y0_pick1 (b := bif (bif (bif (bif (!y31.2) then true else (!y35.2)) then true else (!y36.2)) then true else (!y37.2)) then true else (!y38.2)) (p := true) (q := !((y38.1.1 == y37.1.1) && ((y38.1.2.1 == y37.1.2.1) && (y38.1.2.2 == y37.1.2.2)))) rfl (by kernel_rfl) hc43 (by kernel_rfl))) ?_
             refine XR 1 ?_
             refine XL_split (bif (bif (bif (bif (bif (!y31.2) then true else (!y35.2)) then true else (!y36.2)) then true else (!y37.2)) then true else (!y38.2)) then true else (!((y38.1.1 == y37.1.1) && ((y38.1.2.1 == y37.1.2.1) && (y38.1.2.2 == y37.1.2.2))))) (fun hc44 => ?_) (fun hc44 => ?_)
             ·refine XL_skipF _ rfl rfl (by kernel_rfl) hc44 rfl ?_
              refine XL_skipF _ rfl rfl (by kernel_rfl) hc44 rfl ?_
              refine XL_cons rfl (X_of_Y0 rfl (Y0_pick1 (b := bif (bif (bif (bif (bif (!y31.2) then true else (!y35.2)) then true else (!y36.2)) then true else (!y37.2)) then true else (!y38.2)) then true else (!((y38.1.1 == y37.1.1) && ((y38.1.2.1 == y37.1.2.1) && (y38.1.2.2 == y37.1.2.2))))) (p := true) (q := ltI y31.1 1) rfl (by kernel_rfl) hc44 (by kernel_rfl))) ?_
              refine XL_nil ?_
              subst ht45
              kernel_rfl
             ·refine XL_takeC _ rfl rfl (by kernel_rfl) hc44 (X_of_Y0 rfl (E_move (I y31.1) rfl (by kernel_rfl))) ?_
              refine XL_takeC _ rfl rfl (by kernel_rfl) hc44 (X_of_Y0 rfl (Y0_ltw (k := .i64) (a := y31.1) (b := 1) rfl (by kernel_rfl) (by kernel_rfl))) ?_
              refine XL_cons rfl (X_of_Y0 rfl (Y0_pick0 (b := bif (bif (bif (bif (bif (!y31.2) then true else (!y35.2)) then true else (!y36.2)) then true else (!y37.2)) then true else (!y38.2)) then true else (!((y38.1.1 == y37.1.1) && ((y38.1.2.1 == y37.1.2.1) && (y38.1.2.2 == y37.1.2.2))))) (p := true) (q := ltI y31.1 1) rfl (by kernel_rfl) hc44 (by kernel_rfl))) ?_
              refine XL_nil ?_
              subst ht45
              kernel_rfl
            ·refine XL_takeC _ rfl rfl (by kernel_rfl) hc43 (X_of_Y0 rfl (E_loadn (cs := [Ti y38.1.1, Ti y38.1.2.1, Ti y38.1.2.2]) [Ti y38.1.1, Ti y38.1.2.1, Ti y38.1.2.2] wd25 rfl (by kernel_rfl) (Nat.le_of_ble_eq_true rfl) (by kernel_rfl))) ?_
             refine XL_takeC _ rfl rfl (by kernel_rfl) hc43 (X_of_Y0 rfl (E_loadn (cs := [Ti y37.1.1, Ti y37.1.2.1, Ti y37.1.2.2]) [Ti y37.1.1, Ti y37.1.2.1, Ti y37.1.2.2] wd25 rfl (by kernel_rfl) (Nat.le_of_ble_eq_true rfl) (by kernel_rfl))) ?_
             refine XL_takeC _ rfl rfl (by kernel_rfl) hc43 (X_of_Y0 rfl (Y0_neg3 (a0 := y38.1.1) (b0 := y37.1.1) (a1 := y38.1.2.1) (b1 := y37.1.2.1) (a2 := y38.1.2.2) (b2 := y37.1.2.2) neg25 rfl (by kernel_rfl) (by kernel_rfl))) ?_
             refine XL_cons rfl (X_of_Y0 rfl (Y0_pick0 (b := bif (bif (bif (bif (!y31.2) then true else (!y35.2)) then true else (!y36.2)) then true else (!y37.2)) then true else (!y38.2)) (p := true) (q := !((y38.1.1 == y37.1.1) && ((y38.1.2.1 == y37.1.2.1) && (y38.1.2.2 == y37.1.2.2)))) rfl (by kernel_rfl) hc43 (by kernel_rfl))) ?_
             refine XR 1 ?_
             refine XL_split (bif (bif (bif (bif (bif (!y31.2) then true else (!y35.2)) then true else (!y36.2)) then true else (!y37.2)) then true else (!y38.2)) then true else (!((y38.1.1 == y37.1.1) && ((y38.1.2.1 == y37.1.2.1) && (y38.1.2.2 == y37.1.2.2))))) (fun hc44 => ?_) (fun hc44 => ?_)
             ·refine XL_skipF _ rfl rfl (by kernel_rfl) hc44 rfl ?_
              refine XL_skipF _ rfl rfl (by kernel_rfl) hc44 rfl ?_
              refine XL_cons rfl (X_of_Y0 rfl (Y0_pick1 (b := bif (bif (bif (bif (bif (!y31.2) then true else (!y35.2)) then true else (!y36.2)) then true else (!y37.2)) then true else (!y38.2)) then true else (!((y38.1.1 == y37.1.1) && ((y38.1.2.1 == y37.1.2.1) && (y38.1.2.2 == y37.1.2.2))))) (p := true) (q := ltI y31.1 1) rfl (by kernel_rfl) hc44 (by kernel_rfl))) ?_
              refine XL_nil ?_
              subst ht45
              kernel_rfl
             ·refine XL_takeC _ rfl rfl (by kernel_rfl) hc44 (X_of_Y0 rfl (E_move (I y31.1) rfl (by kernel_rfl))) ?_
              refine XL_takeC _ rfl rfl (by kernel_rfl) hc44 (X_of_Y0 rfl (Y0_ltw (k := .i64) (a := y31.1) (b := 1) rfl (by kernel_rfl) (by kernel_rfl))) ?_
              refine XL_cons rfl (X_of_Y0 rfl (Y0_pick0 (b := bif (bif (bif (bif (bif (!y31.2) then true else (!y35.2)) then true else (!y36.2)) then true else (!y37.2)) then true else (!y38.2)) then true else (!((y38.1.1 == y37.1.1) && ((y38.1.2.1 == y37.1.2.1) && (y38.1.2.2 == y37.1.2.2))))) (p := true) (q := ltI y31.1 1) rfl (by kernel_rfl) hc44 (by kernel_rfl))) ?_
              refine XL_nil ?_
              subst ht45
              kernel_rfl
          ·refine XL_takeC _ rfl rfl (by kernel_rfl) hc41 (X_of_Y0 rfl (E_move (Bo y37.2) rfl (by kernel_rfl))) ?_
           refine XL_takeC _ rfl rfl (by kernel_rfl) hc41 (X_of_Y0 rfl (Y0_not (b := y37.2) rfl (by kernel_rfl))) ?_
           refine XL_cons rfl (X_of_Y0 rfl (Y0_pick0 (b := bif (bif (!y31.2) then true else (!y35.2)) then true else (!y36.2)) (p := true) (q := !y37.2) rfl (by kernel_rfl) hc41 (by kernel_rfl))) ?_
           refine XR 1 ?_
           refine XL_split (bif (bif (bif (!y31.2) then true else (!y35.2)) then true else (!y36.2)) then true else (!y37.2)) (fun hc42 => ?_) (fun hc42 => ?_)
           ·refine XL_skipF _ rfl rfl (by kernel_rfl) hc42 rfl ?_
            refine XL_skipF _ rfl rfl (by kernel_rfl) hc42 rfl ?_
            refine XL_cons rfl (X_of_Y0 rfl (Y0_pick1 (b := bif (bif (bif (!y31.2) then true else (!y35.2)) then true else (!y36.2)) then true else (!y37.2)) (p := true) (q := !y38.2) rfl (by kernel_rfl) hc42 (by kernel_rfl))) ?_
            refine XR 1 ?_
            refine XL_split (bif (bif (bif (bif (!y31.2) then true else (!y35.2)) then true else (!y36.2)) then true else (!y37.2)) then true else (!y38.2)) (fun hc43 => ?_) (fun hc43 => ?_)
            ·refine XL_skipF _ rfl rfl (by kernel_rfl) hc43 rfl ?_
             refine XL_skipF _ rfl rfl (by kernel_rfl) hc43 rfl ?_
             refine XL_skipF _ rfl rfl (by kernel_rfl) hc43 rfl ?_
             refine XL_cons rfl (X_of_Y0 rfl (Y0_pick1 (b := bif (bif (bif (bif (!y31.2) then true else (!y35.2)) then true else (!y36.2)) then true else (!y37.2)) then true else (!y38.2)) (p := true) (q := !((y38.1.1 == y37.1.1) && ((y38.1.2.1 == y37.1.2.1) && (y38.1.2.2 == y37.1.2.2)))) rfl (by kernel_rfl) hc43 (by kernel_rfl))) ?_
             refine XR 1 ?_
             refine XL_split (bif (bif (bif (bif (bif (!y31.2) then true else (!y35.2)) then true else (!y36.2)) then true else (!y37.2)) then true else (!y38.2)) then true else (!((y38.1.1 == y37.1.1) && ((y38.1.2.1 == y37.1.2.1) && (y38.1.2.2 == y37.1.2.2))))) (fun hc44 => ?_) (fun hc44 => ?_)
             ·refine XL_skipF _ rfl rfl (by kernel_rfl) hc44 rfl ?_
              refine XL_skipF _ rfl rfl (by kernel_rfl) hc44 rfl ?_
              refine XL_cons rfl (X_of_Y0 rfl (Y0_pick1 (b := bif (bif (bif (bif (bif (!y31.2) then true else (!y35.2)) then true else (!y36.2)) then true else (!y37.2)) then true else (!y38.2)) then true else (!((y38.1.1 == y37.1.1) && ((y38.1.2.1 == y37.1.2.1) && (y38.1.2.2 == y37.1.2.2))))) (p := true) (q := ltI y31.1 1) rfl (by kernel_rfl) hc44 (by kernel_rfl))) ?_
              refine XL_nil ?_
              subst ht45
              kernel_rfl
             ·refine XL_takeC _ rfl rfl (by kernel_rfl) hc44 (X_of_Y0 rfl (E_move (I y31.1) rfl (by kernel_rfl))) ?_
              refine XL_takeC _ rfl rfl (by kernel_rfl) hc44 (X_of_Y0 rfl (Y0_ltw (k := .i64) (a := y31.1) (b := 1) rfl (by kernel_rfl) (by kernel_rfl))) ?_
              refine XL_cons rfl (X_of_Y0 rfl (Y0_pick0 (b := bif (bif (bif (bif (bif (!y31.2) then true else (!y35.2)) then true else (!y36.2)) then true else (!y37.2)) then true else (!y38.2)) then true else (!((y38.1.1 == y37.1.1) && ((y38.1.2.1 == y37.1.2.1) && (y38.1.2.2 == y37.1.2.2))))) (p := true) (q := ltI y31.1 1) rfl (by kernel_rfl) hc44 (by kernel_rfl))) ?_
              refine XL_nil ?_
              subst ht45
              kernel_rfl
            ·refine XL_takeC _ rfl rfl (by kernel_rfl) hc43 (X_of_Y0 rfl (E_loadn (cs := [Ti y38.1.1, Ti y38.1.2.1, Ti y38.1.2.2]) [Ti y38.1.1, Ti y38.1.2.1, Ti y38.1.2.2] wd25 rfl (by kernel_rfl) (Nat.le_of_ble_eq_true rfl) (by kernel_rfl))) ?_
             refine XL_takeC _ rfl rfl (by kernel_rfl) hc43 (X_of_Y0 rfl (E_loadn (cs := [Ti y37.1.1, Ti y37.1.2.1, Ti y37.1.2.2]) [Ti y37.1.1, Ti y37.1.2.1, Ti y37.1.2.2] wd25 rfl (by kernel_rfl) (Nat.le_of_ble_eq_true rfl) (by kernel_rfl))) ?_
             refine XL_takeC _ rfl rfl (by kernel_rfl) hc43 (X_of_Y0 rfl (Y0_neg3 (a0 := y38.1.1) (b0 := y37.1.1) (a1 := y38.1.2.1) (b1 := y37.1.2.1) (a2 := y38.1.2.2) (b2 := y37.1.2.2) neg25 rfl (by kernel_rfl) (by kernel_rfl))) ?_
             refine XL_cons rfl (X_of_Y0 rfl (Y0_pick0 (b := bif (bif (bif (bif (!y31.2) then true else (!y35.2)) then true else (!y36.2)) then true else (!y37.2)) then true else (!y38.2)) (p := true) (q := !((y38.1.1 == y37.1.1) && ((y38.1.2.1 == y37.1.2.1) && (y38.1.2.2 == y37.1.2.2)))) rfl (by kernel_rfl) hc43 (by kernel_rfl))) ?_
             refine XR 1 ?_
             refine XL_split (bif (bif (bif (bif (bif (!y31.2) then true else (!y35.2)) then true else (!y36.2)) then true else (!y37.2)) then true else (!y38.2)) then true else (!((y38.1.1 == y37.1.1) && ((y38.1.2.1 == y37.1.2.1) && (y38.1.2.2 == y37.1.2.2))))) (fun hc44 => ?_) (fun hc44 => ?_)
             ·refine XL_skipF _ rfl rfl (by kernel_rfl) hc44 rfl ?_
              refine XL_skipF _ rfl rfl (by kernel_rfl) hc44 rfl ?_
              refine XL_cons rfl (X_of_Y0 rfl (Y0_pick1 (b := bif (bif (bif (bif (bif (!y31.2) then true else (!y35.2)) then true else (!y36.2)) then true else (!y37.2)) then true else (!y38.2)) then true else (!((y38.1.1 == y37.1.1) && ((y38.1.2.1 == y37.1.2.1) && (y38.1.2.2 == y37.1.2.2))))) (p := true) (q := ltI y31.1 1) rfl (by kernel_rfl) hc44 (by kernel_rfl))) ?_
              refine XL_nil ?_
              subst ht45
              kernel_rfl
             ·refine XL_takeC _ rfl rfl (by kernel_rfl) hc44 (X_of_Y0 rfl (E_move (I y31.1) rfl (by kernel_rfl))) ?_
              refine XL_takeC _ rfl rfl (by kernel_rfl) hc44 (X_of_Y0 rfl (Y0_ltw (k := .i64) (a := y31.1) (b := 1) rfl (by kernel_rfl) (by kernel_rfl))) ?_
              refine XL_cons rfl (X_of_Y0 rfl (Y0_pick0 (b := bif (bif (bif (bif (bif (!y31.2) then true else (!y35.2)) then true else (!y36.2)) then true else (!y37.2)) then true else (!y38.2)) then true else (!((y38.1.1 == y37.1.1) && ((y38.1.2.1 == y37.1.2.1) && (y38.1.2.2 == y37.1.2.2))))) (p := true) (q := ltI y31.1 1) rfl (by kernel_rfl) hc44 (by kernel_rfl))) ?_
              refine XL_nil ?_
              subst ht45
              kernel_rfl
           ·refine XL_takeC _ rfl rfl (by kernel_rfl) hc42 (X_of_Y0 rfl (E_move (Bo y38.2) rfl (by kernel_rfl))) ?_
            refine XL_takeC _ rfl rfl (by kernel_rfl) hc42 (X_of_Y0 rfl (Y0_not (b := y38.2) rfl (by kernel_rfl))) ?_
            refine XL_cons rfl (X_of_Y0 rfl (Y0_pick0 (b := bif (bif (bif (!y31.2) then true else (!y35.2)) then true else (!y36.2)) then true else (!y37.2)) (p := true) (q := !y38.2) rfl (by kernel_rfl) hc42 (by kernel_rfl))) ?_
            refine XR 1 ?_
            refine XL_split (bif (bif (bif (bif (!y31.2) then true else (!y35.2)) then true else (!y36.2)) then true else (!y37.2)) then true else (!y38.2)) (fun hc43 => ?_) (fun hc43 => ?_)
            ·refine XL_skipF _ rfl rfl (by kernel_rfl) hc43 rfl ?_
             refine XL_skipF _ rfl rfl (by kernel_rfl) hc43 rfl ?_
             refine XL_skipF _ rfl rfl (by kernel_rfl) hc43 rfl ?_
             refine XL_cons rfl (X_of_Y0 rfl (Y0_pick1 (b := bif (bif (bif (bif (!y31.2) then true else (!y35.2)) then true else (!y36.2)) then true else (!y37.2)) then true else (!y38.2)) (p := true) (q := !((y38.1.1 == y37.1.1) && ((y38.1.2.1 == y37.1.2.1) && (y38.1.2.2 == y37.1.2.2)))) rfl (by kernel_rfl) hc43 (by kernel_rfl))) ?_
             refine XR 1 ?_
             refine XL_split (bif (bif (bif (bif (bif (!y31.2) then true else (!y35.2)) then true else (!y36.2)) then true else (!y37.2)) then true else (!y38.2)) then true else (!((y38.1.1 == y37.1.1) && ((y38.1.2.1 == y37.1.2.1) && (y38.1.2.2 == y37.1.2.2))))) (fun hc44 => ?_) (fun hc44 => ?_)
             ·refine XL_skipF _ rfl rfl (by kernel_rfl) hc44 rfl ?_
              refine XL_skipF _ rfl rfl (by kernel_rfl) hc44 rfl ?_
              refine XL_cons rfl (X_of_Y0 rfl (Y0_pick1 (b := bif (bif (bif (bif (bif (!y31.2) then true else (!y35.2)) then true else (!y36.2)) then true else (!y37.2)) then true else (!y38.2)) then true else (!((y38.1.1 == y37.1.1) && ((y38.1.2.1 == y37.1.2.1) && (y38.1.2.2 == y37.1.2.2))))) (p := true) (q := ltI y31.1 1) rfl (by kernel_rfl) hc44 (by kernel_rfl))) ?_
              refine XL_nil ?_
              subst ht45
              kernel_rfl
             ·refine XL_takeC _ rfl rfl (by kernel_rfl) hc44 (X_of_Y0 rfl (E_move (I y31.1) rfl (by kernel_rfl))) ?_
              refine XL_takeC _ rfl rfl (by kernel_rfl) hc44 (X_of_Y0 rfl (Y0_ltw (k := .i64) (a := y31.1) (b := 1) rfl (by kernel_rfl) (by kernel_rfl))) ?_
              refine XL_cons rfl (X_of_Y0 rfl (Y0_pick0 (b := bif (bif (bif (bif (bif (!y31.2) then true else (!y35.2)) then true else (!y36.2)) then true else (!y37.2)) then true else (!y38.2)) then true else (!((y38.1.1 == y37.1.1) && ((y38.1.2.1 == y37.1.2.1) && (y38.1.2.2 == y37.1.2.2))))) (p := true) (q := ltI y31.1 1) rfl (by kernel_rfl) hc44 (by kernel_rfl))) ?_
              refine XL_nil ?_
              subst ht45
              kernel_rfl
            ·refine XL_takeC _ rfl rfl (by kernel_rfl) hc43 (X_of_Y0 rfl (E_loadn (cs := [Ti y38.1.1, Ti y38.1.2.1, Ti y38.1.2.2]) [Ti y38.1.1, Ti y38.1.2.1, Ti y38.1.2.2] wd25 rfl (by kernel_rfl) (Nat.le_of_ble_eq_true rfl) (by kernel_rfl))) ?_
             refine XL_takeC _ rfl rfl (by kernel_rfl) hc43 (X_of_Y0 rfl (E_loadn (cs := [Ti y37.1.1, Ti y37.1.2.1, Ti y37.1.2.2]) [Ti y37.1.1, Ti y37.1.2.1, Ti y37.1.2.2] wd25 rfl (by kernel_rfl) (Nat.le_of_ble_eq_true rfl) (by kernel_rfl))) ?_
             refine XL_takeC _ rfl rfl (by kernel_rfl) hc43 (X_of_Y0 rfl (Y0_neg3 (a0 := y38.1.1) (b0 := y37.1.1) (a1 := y38.1.2.1) (b1 := y37.1.2.1) (a2 := y38.1.2.2) (b2 := y37.1.2.2) neg25 rfl (by kernel_rfl) (by kernel_rfl))) ?_
             refine XL_cons rfl (X_of_Y0 rfl (Y0_pick0 (b := bif (bif (bif (bif (!y31.2) then true else (!y35.2)) then true else (!y36.2)) then true else (!y37.2)) then true else (!y38.2)) (p := true) (q := !((y38.1.1 == y37.1.1) && ((y38.1.2.1 == y37.1.2.1) && (y38.1.2.2 == y37.1.2.2)))) rfl (by kernel_rfl) hc43 (by kernel_rfl))) ?_
             refine XR 1 ?_
             refine XL_split (bif (bif (bif (bif (bif (!y31.2) then true else (!y35.2)) then true else (!y36.2)) then true else (!y37.2)) then true else (!y38.2)) then true else (!((y38.1.1 == y37.1.1) && ((y38.1.2.1 == y37.1.2.1) && (y38.1.2.2 == y37.1.2.2))))) (fun hc44 => ?_) (fun hc44 => ?_)
             ·refine XL_skipF _ rfl rfl (by kernel_rfl) hc44 rfl ?_
              refine XL_skipF _ rfl rfl (by kernel_rfl) hc44 rfl ?_
              refine XL_cons rfl (X_of_Y0 rfl (Y0_pick1 (b := bif (bif (bif (bif (bif (!y31.2) then true else (!y35.2)) then true else (!y36.2)) then true else (!y37.2)) then true else (!y38.2)) then true else (!((y38.1.1 == y37.1.1) && ((y38.1.2.1 == y37.1.2.1) && (y38.1.2.2 == y37.1.2.2))))) (p := true) (q := ltI y31.1 1) rfl (by kernel_rfl) hc44 (by kernel_rfl))) ?_
              refine XL_nil ?_
              subst ht45
              kernel_rfl
             ·refine XL_takeC _ rfl rfl (by kernel_rfl) hc44 (X_of_Y0 rfl (E_move (I y31.1) rfl (by kernel_rfl))) ?_
              refine XL_takeC _ rfl rfl (by kernel_rfl) hc44 (X_of_Y0 rfl (Y0_ltw (k := .i64) (a := y31.1) (b := 1) rfl (by kernel_rfl) (by kernel_rfl))) ?_
              refine XL_cons rfl (X_of_Y0 rfl (Y0_pick0 (b := bif (bif (bif (bif (bif (!y31.2) then true else (!y35.2)) then true else (!y36.2)) then true else (!y37.2)) then true else (!y38.2)) then true else (!((y38.1.1 == y37.1.1) && ((y38.1.2.1 == y37.1.2.1) && (y38.1.2.2 == y37.1.2.2))))) (p := true) (q := ltI y31.1 1) rfl (by kernel_rfl) hc44 (by kernel_rfl))) ?_
              refine XL_nil ?_
              subst ht45
              kernel_rfl
       refine V_cond rfl (fun hc46 => ?_) (fun hc46 => ?_)
       ·have h := of_true h hc46
        refine V_e (mb 230 16) [] (s1 := ⟨bt 4 (Bo false :: bt 225 []), []⟩) ?_
        refine V_ret ?_
        obtain rfl := some_inj h
        show Post _ _ _ _ _
        exact ⟨.inr rfl, rfl, rfl, rfl⟩
       ·have h := of_false h hc46
        refine V_skip ?_
        show V _ _ _ _
        obtain ⟨y47, hy47, h⟩ := of_bind h
        refine V_sreg (mb 230 206158430208) [288] (s1 := ⟨bt 36 (.pt 288 0 :: Bo y47.2 :: bt 192 []), [(288, .box [Ti y47.1.1, Ti y47.1.2.1, Ti y47.1.2.2])]⟩) ?_ ?_
        ·refine XR 2 ?_
         refine XC (s_impl_PowerForm hy47) cf_impl_PowerForm rfl rfl rfl ?_
         exact XE
        obtain ⟨y48, hy48, h⟩ := of_bind h
        refine V_sreg (mb 230 412316991488) [] (s1 := ⟨bt 17 (Bo y48.1 :: bt 19 (Bo y47.2 :: Bo y48.2 :: bt 191 [])), []⟩) ?_ ?_
        ·refine XR 1 ?_
         refine XC (s_impl_IsIdentity hy48) cf_impl_IsIdentity rfl rfl rfl ?_
         exact XE
        refine V_sreg (mb 230 16) [] (s1 := ⟨bt 4 (Bo (bif (bif y47.2 then y48.2 else false) then y48.1 else false) :: bt 225 []), []⟩) ?_ ?_
        ·refine XR 2 ?_
         refine XL_split y47.2 (fun hc49 => ?_) (fun hc49 => ?_)
         ·refine XL_takeC _ rfl rfl (by kernel_rfl) hc49 (X_of_Y0 rfl (E_move (Bo y48.2) rfl (by kernel_rfl))) ?_
          refine XL_cons rfl (X_of_Y0 rfl (Y0_pick1 (b := y47.2) (p := y48.2) (q := false) rfl (by kernel_rfl) hc49 (by kernel_rfl))) ?_
          refine XR 1 ?_
          refine XL_split (bif y47.2 then y48.2 else false) (fun hc50 => ?_) (fun hc50 => ?_)
          ·refine XL_takeC _ rfl rfl (by kernel_rfl) hc50 (X_of_Y0 rfl (E_move (Bo y48.1) rfl (by kernel_rfl))) ?_
           refine XL_cons rfl (X_of_Y0 rfl (Y0_pick1 (b := bif y47.2 then y48.2 else false) (p := y48.1) (q := false) rfl (by kernel_rfl) hc50 (by kernel_rfl))) ?_
           exact XE
          ·refine XL_skipT _ rfl rfl (by kernel_rfl) hc50 rfl ?_
           refine XL_cons rfl (X_of_Y0 rfl (Y0_pick0 (b := bif y47.2 then y48.2 else false) (p := y48.1) (q := false) rfl (by kernel_rfl) hc50 (by kernel_rfl))) ?_
           exact XE
         ·refine XL_skipT _ rfl rfl (by kernel_rfl) hc49 rfl ?_
          refine XL_cons rfl (X_of_Y0 rfl (Y0_pick0 (b := y47.2) (p := y48.2) (q := false) rfl (by kernel_rfl) hc49 (by kernel_rfl))) ?_
          refine XR 1 ?_
          refine XL_split (bif y47.2 then y48.2 else false) (fun hc50 => ?_) (fun hc50 => ?_)
          ·refine XL_takeC _ rfl rfl (by kernel_rfl) hc50 (X_of_Y0 rfl (E_move (Bo y48.1) rfl (by kernel_rfl))) ?_
           refine XL_cons rfl (X_of_Y0 rfl (Y0_pick1 (b := bif y47.2 then y48.2 else false) (p := y48.1) (q := false) rfl (by kernel_rfl) hc50 (by kernel_rfl))) ?_
           exact XE
          ·refine XL_skipT _ rfl rfl (by kernel_rfl) hc50 rfl ?_
           refine XL_cons rfl (X_of_Y0 rfl (Y0_pick0 (b := bif y47.2 then y48.2 else false) (p := y48.1) (q := false) rfl (by kernel_rfl) hc50 (by kernel_rfl))) ?_
           exact XE
        refine V_ret ?_
        obtain rfl := some_inj h
        show Post _ _ _ _ _
        exact ⟨.inr rfl, rfl, rfl, rfl⟩
end Go.Proofs.Ytafomkclmkfjeaa
