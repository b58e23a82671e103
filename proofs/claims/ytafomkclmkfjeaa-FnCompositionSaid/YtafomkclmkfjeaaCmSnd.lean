/-
  The functions of the program compute what the plain functions say: more of them.
  Conditions: none.
-/
import Derived.Test.YtafomkclmkfjeaaCmSnd5
namespace Go.Proofs.Ytafomkclmkfjeaa
open Go.RowKit
set_option linter.unusedVariables false
set_option linter.unusedSimpArgs false
set_option maxRecDepth 100000
set_option maxHeartbeats 400000
theorem cf_laws_FnComposition : ∀ args w, (callFunc 5 args).run Try.prog w = .ok (.enter 5 args) w := run_callFunc Try.func5 (by kernel_rfl) (by kernel_rfl)
theorem s_laws_FnComposition {code1 : List Int} {more2 : List Int} {r : Bool} (h : r_laws_FnComposition code1 more2 = some r) : CallS Try.prog 5 [.c (.sl (code1.map c5)), .c (.sl (more2.map c5))] (Bo r) [] := by
  refine CallS_of_text (rs := [.t 4]) (vs := [.tmp 4]) Try.func5 rfl rfl (.cons rfl FitsL.nil) (by decide) 220 rfl ?_
  unfold r_laws_FnComposition at h
  show V _ _ ⟨.c (.sl (code1.map c5)) :: .c (.sl (more2.map c5)) :: bt 218 [], []⟩ _
  refine V_e (mb 220 3) [] (s1 := ⟨.c (.sl (code1.map c5)) :: .c (.sl (more2.map c5)) :: bt 218 [], []⟩) ?_
  refine V_seq ?_
  obtain ⟨y3, hy3, h⟩ := of_bind h
  refine V_sreg (mb 220 4294967299) [] (s1 := ⟨.c (.sl (code1.map c5)) :: .c (.sl (more2.map c5)) :: bt 30 (Bo y3 :: bt 187 []), []⟩) ?_ ?_
  ·refine XR 2 ?_
   refine XC (s_laws_big hy3) cf_laws_big rfl rfl rfl ?_
   exact XE
  refine V_cond rfl (fun hc4 => ?_) (fun hc4 => ?_)
  ·have h := of_true h hc4
   refine V_e (mb 220 16) [] (s1 := ⟨bt 4 (Bo true :: bt 215 []), []⟩) ?_
   refine V_ret ?_
   obtain rfl := some_inj h
   show Post _ _ _ _ _
   exact ⟨.inr rfl, rfl, rfl, rfl⟩
  ·have h := of_false h hc4
   refine V_skip ?_
   show V _ _ _ _
   obtain ⟨y5, hy5, h⟩ := of_bind h
   refine V_sreg (mb 220 98) [48, 40] (s1 := ⟨.bot :: .c (.sl (more2.map c5)) :: bt 3 (.pt 40 0 :: .pt 48 0 :: bt 213 []), [(48, .box [Ti y5.2.1, Ti y5.2.2.1, Ti y5.2.2.2]), (40, .box [Ti y5.1.1, Ti y5.1.2.1, Ti y5.1.2.2])]⟩) ?_ ?_
   ·refine XR 1 ?_
    refine XC (s_spec_DrawCompositionProof hy5) cf_spec_DrawCompositionProof rfl rfl rfl ?_
    exact XE
   obtain ⟨y6, hy6, h⟩ := of_bind h
   refine V_sreg (mb 220 994) [56, 329, 48, 40] (s1 := ⟨.bot :: .c (.sl (more2.map c5)) :: bt 3 (.pt 40 0 :: .pt 48 0 :: .pt 56 0 :: .ow 329 :: Bo y6.2.2 :: bt 210 []), [(56, .box [Ti y6.1.1, Ti y6.1.2.1, Ti y6.1.2.2]), (329, .arr 3 1 (y6.2.1.map c3)), (48, .box [Ti y5.2.1, Ti y5.2.2.1, Ti y5.2.2.2]), (40, .box [Ti y5.1.1, Ti y5.1.2.1, Ti y5.1.2.2])]⟩) ?_ ?_
   ·refine XR 2 ?_
    refine XC (s_impl_CompositionProof hy6) cf_impl_CompositionProof rfl rfl rfl ?_
    exact XE
   obtain ⟨y7, hy7, h⟩ := of_bind h
   refine V_sreg (mb 220 8162) [80, 385, 56, 329, 48, 40] (s1 := ⟨.bot :: .c (.sl (more2.map c5)) :: bt 3 (.pt 40 0 :: .pt 48 0 :: .pt 56 0 :: .ow 329 :: Bo y6.2.2 :: .pt 80 0 :: .ow 385 :: Bo y7.2.2 :: bt 207 []), [(80, .box [Ti y7.1.1, Ti y7.1.2.1, Ti y7.1.2.2]), (385, .arr 3 1 (y7.2.1.map c3)), (56, .box [Ti y6.1.1, Ti y6.1.2.1, Ti y6.1.2.2]), (329, .arr 3 1 (y6.2.1.map c3)), (48, .box [Ti y5.2.1, Ti y5.2.2.1, Ti y5.2.2.2]), (40, .box [Ti y5.1.1, Ti y5.1.2.1, Ti y5.1.2.2])]⟩) ?_ ?_
   ·refine XR 2 ?_
    refine XC (s_spec_CompositionProof hy7) cf_spec_CompositionProof rfl rfl rfl ?_
    exact XE
   obtain ⟨y8, hy8, h⟩ := of_bind h
   refine V_sreg (mb 220 32738) [104, 80, 385, 56, 329, 48, 40] (s1 := ⟨.bot :: .c (.sl (more2.map c5)) :: bt 3 (.pt 40 0 :: .pt 48 0 :: .pt 56 0 :: .ow 329 :: Bo y6.2.2 :: .pt 80 0 :: .ow 385 :: Bo y7.2.2 :: .pt 104 0 :: Bo y8.2 :: bt 205 []), [(104, .box [Ti y8.1.1, Ti y8.1.2.1, Ti y8.1.2.2]), (80, .box [Ti y7.1.1, Ti y7.1.2.1, Ti y7.1.2.2]), (385, .arr 3 1 (y7.2.1.map c3)), (56, .box [Ti y6.1.1, Ti y6.1.2.1, Ti y6.1.2.2]), (329, .arr 3 1 (y6.2.1.map c3)), (48, .box [Ti y5.2.1, Ti y5.2.2.1, Ti y5.2.2.2]), (40, .box [Ti y5.1.1, Ti y5.1.2.1, Ti y5.1.2.2])]⟩) ?_ ?_
   ·refine XR 2 ?_
    refine XC (s_impl_ComposeForms hy8) cf_impl_ComposeForms rfl rfl rfl ?_
    exact XE
   refine V_seq ?_
   obtain ⟨b12, hb12, h⟩ := of_bind h
   obtain ⟨t16, ht16, h⟩ := of_bind h
   have ht16 := some_inj ht16
   refine V_sreg (mb 220 9671406556917033397650402) [56, 329, 48, 40] (s1 := ⟨.bot :: .c (.sl (more2.map c5)) :: bt 3 (.pt 40 0 :: .pt 48 0 :: .pt 56 0 :: .ow 329 :: Bo y6.2.2 :: bt 73 (Bo t16 :: bt 136 [])), [(56, .box [Ti y6.1.1, Ti y6.1.2.1, Ti y6.1.2.2]), (329, .arr 3 1 (y6.2.1.map c3)), (48, .box [Ti y5.2.1, Ti y5.2.2.1, Ti y5.2.2.2]), (40, .box [Ti y5.1.1, Ti y5.1.2.1, Ti y5.1.2.2])]⟩) ?_ ?_
   ·refine XR 2 ?_
    refine L0 rfl rfl (Y0_neb (a := y6.2.2) (b := y7.2.2) Try.underlying4 rfl (by kernel_rfl) (by kernel_rfl)) ?_
    refine XR 1 ?_
    refine XL_split (y6.2.2 != y7.2.2) (fun hc9 => ?_) (fun hc9 => ?_)
    ·refine XL_skipF _ rfl rfl (by kernel_rfl) hc9 rfl ?_
     refine XL_skipF _ rfl rfl (by kernel_rfl) hc9 rfl ?_
     refine XL_skipF _ rfl rfl (by kernel_rfl) hc9 rfl ?_
     refine XL_cons rfl (X_of_Y0 rfl (Y0_pick1 (b := y6.2.2 != y7.2.2) (p := true) (q := !((y6.1.1 == y7.1.1) && ((y6.1.2.1 == y7.1.2.1) && (y6.1.2.2 == y7.1.2.2)))) rfl (by kernel_rfl) hc9 (by kernel_rfl))) ?_
     refine XR 1 ?_
     refine XL_split (bif (y6.2.2 != y7.2.2) then true else (!((y6.1.1 == y7.1.1) && ((y6.1.2.1 == y7.1.2.1) && (y6.1.2.2 == y7.1.2.2))))) (fun hc10 => ?_) (fun hc10 => ?_)
     ·have hb12 := some_inj (of_true hb12 hc10)
      refine XL_skipF _ rfl rfl (by kernel_rfl) hc10 rfl ?_
      refine XL_skipF _ rfl rfl (by kernel_rfl) hc10 rfl ?_
      refine XL_skipF _ rfl rfl (by kernel_rfl) hc10 rfl ?_
      refine XL_skipF _ rfl rfl (by kernel_rfl) hc10 rfl ?_
      refine XL_cons rfl (X_of_Y0 rfl (Y0_pickTe (b := bif (y6.2.2 != y7.2.2) then true else (!((y6.1.1 == y7.1.1) && ((y6.1.2.1 == y7.1.2.1) && (y6.1.2.2 == y7.1.2.2))))) (p := true) rfl (by kernel_rfl) hc10 (by kernel_rfl) hb12)) ?_
      refine XR 1 ?_
      refine XL_split b12 (fun hc13 => ?_) (fun hc13 => ?_)
      ·refine XL_skipF _ rfl rfl (by kernel_rfl) hc13 rfl ?_
       refine XL_skipF _ rfl rfl (by kernel_rfl) hc13 rfl ?_
       refine XL_skip2 rfl rfl (by kernel_rfl) rfl ?_
       refine XL_skip2 rfl rfl (by kernel_rfl) rfl ?_
       refine XL_skip2 rfl rfl (by kernel_rfl) rfl ?_
       refine XL_skip2 rfl rfl (by kernel_rfl) rfl ?_
       refine XL_skip2 rfl rfl (by kernel_rfl) rfl ?_
       refine XL_skip2 rfl rfl (by kernel_rfl) rfl ?_
       refine XL_skip2 rfl rfl (by kernel_rfl) rfl ?_
       refine XL_skipF _ rfl rfl (by kernel_rfl) hc13 rfl ?_
       refine XL_cons rfl (X_of_Y0 rfl (Y0_pick1 (b := b12) (p := true) (q := bif y6.2.2 then (bif (!y8.2) then true else (!((y8.1.1 == y6.1.1) && ((y8.1.2.1 == y6.1.2.1) && (y8.1.2.2 == y6.1.2.2))))) else false) rfl (by kernel_rfl) hc13 (by kernel_rfl))) ?_
       refine XL_nil ?_
       subst ht16
       kernel_rfl
      ·refine XL_takeC _ rfl rfl (by kernel_rfl) hc13 (X_of_Y0 rfl (E_move (Bo y6.2.2) rfl (by kernel_rfl))) ?_
       refine XL_takeC _ rfl rfl (by kernel_rfl) hc13 (X_of_Y0 rfl (E_move (Bo y6.2.2) rfl (by kernel_rfl))) ?_
       refine XL_split y6.2.2 (fun hc14 => ?_) (fun hc14 => ?_)
       ·refine XL_takeC _ rfl rfl (by kernel_rfl) hc14 (X_of_Y0 rfl (E_move (Bo y8.2) rfl (by kernel_rfl))) ?_
        refine XL_takeC _ rfl rfl (by kernel_rfl) hc14 (X_of_Y0 rfl (Y0_not (b := y8.2) rfl (by kernel_rfl))) ?_
        refine XL_takeC _ rfl rfl (by kernel_rfl) hc14 (X_of_Y0 rfl (E_move (Bo (!y8.2)) rfl (by kernel_rfl))) ?_
        refine XL_split (!y8.2) (fun hc15 => ?_) (fun hc15 => ?_)
        ·refine XL_skipF _ rfl rfl (by kernel_rfl) hc15 rfl ?_
         refine XL_skipF _ rfl rfl (by kernel_rfl) hc15 rfl ?_
         refine XL_skipF _ rfl rfl (by kernel_rfl) hc15 rfl ?_
         refine XL_takeC _ rfl rfl (by kernel_rfl) hc14 (X_of_Y0 rfl (Y0_pick1 (b := !y8.2) (p := true) (q := !((y8.1.1 == y6.1.1) && ((y8.1.2.1 == y6.1.2.1) && (y8.1.2.2 == y6.1.2.2)))) rfl (by kernel_rfl) hc15 (by kernel_rfl))) ?_
         refine XL_takeC _ rfl rfl (by kernel_rfl) hc13 (X_of_Y0 rfl (Y0_pick1 (b := y6.2.2) (p := bif (!y8.2) then true else (!((y8.1.1 == y6.1.1) && ((y8.1.2.1 == y6.1.2.1) && (y8.1.2.2 == y6.1.2.2))))) (q := false) rfl (by kernel_rfl) hc14 (by kernel_rfl))) ?_
         refine XL_cons rfl (X_of_Y0 rfl (Y0_pick0 (b := b12) (p := true) (q := bif y6.2.2 then (bif (!y8.2) then true else (!((y8.1.1 == y6.1.1) && ((y8.1.2.1 == y6.1.2.1) && (y8.1.2.2 == y6.1.2.2))))) else false) rfl (by kernel_rfl) hc13 (by kernel_rfl))) ?_
         refine XL_nil ?_
         subst ht16
         kernel_rfl
        ·refine XL_takeC _ rfl rfl (by kernel_rfl) hc15 (X_of_Y0 rfl (E_loadn (cs := [Ti y8.1.1, Ti y8.1.2.1, Ti y8.1.2.2]) [Ti y8.1.1, Ti y8.1.2.1, Ti y8.1.2.2] wd25 rfl (by kernel_rfl) (Nat.le_of_ble_eq_true rfl) (by kernel_rfl))) ?_
         refine XL_takeC _ rfl rfl (by kernel_rfl) hc15 (X_of_Y0 rfl (E_loadn (cs := [Ti y6.1.1, Ti y6.1.2.1, Ti y6.1.2.2]) [Ti y6.1.1, Ti y6.1.2.1, Ti y6.1.2.2] wd25 rfl (by kernel_rfl) (Nat.le_of_ble_eq_true rfl) (by kernel_rfl))) ?_
         refine XL_takeC _ rfl rfl (by kernel_rfl) hc15 (X_of_Y0 rfl (Y0_neg3 (a0 := y8.1.1) (b0 := y6.1.1) (a1 := y8.1.2.1) (b1 := y6.1.2.1) (a2 := y8.1.2.2) (b2 := y6.1.2.2) neg25 rfl (by kernel_rfl) (by kernel_rfl))) ?_
         refine XL_takeC _ rfl rfl (by kernel_rfl) hc14 (X_of_Y0 rfl (Y0_pick0 (b := !y8.2) (p := true) (q := !((y8.1.1 == y6.1.1) && ((y8.1.2.1 == y6.1.2.1) && (y8.1.2.2 == y6.1.2.2)))) rfl (by kernel_rfl) hc15 (by kernel_rfl))) ?_
         refine XL_takeC _ rfl rfl (by kernel_rfl) hc13 (X_of_Y0 rfl (Y0_pick1 (b := y6.2.2) (p := bif (!y8.2) then true else (!((y8.1.1 == y6.1.1) && ((y8.1.2.1 == y6.1.2.1) && (y8.1.2.2 == y6.1.2.2))))) (q := false) rfl (by kernel_rfl) hc14 (by kernel_rfl))) ?_
         refine XL_cons rfl (X_of_Y0 rfl (Y0_pick0 (b := b12) (p := true) (q := bif y6.2.2 then (bif (!y8.2) then true else (!((y8.1.1 == y6.1.1) && ((y8.1.2.1 == y6.1.2.1) && (y8.1.2.2 == y6.1.2.2))))) else false) rfl (by kernel_rfl) hc13 (by kernel_rfl))) ?_
         refine XL_nil ?_
         subst ht16
         kernel_rfl
       ·refine XL_skipT _ rfl rfl (by kernel_rfl) hc14 rfl ?_
        refine XL_skipT _ rfl rfl (by kernel_rfl) hc14 rfl ?_
        refine XL_skipT _ rfl rfl (by kernel_rfl) hc14 rfl ?_
        refine XL_skip2 rfl rfl (by kernel_rfl) rfl ?_
        refine XL_skip2 rfl rfl (by kernel_rfl) rfl ?_
        refine XL_skip2 rfl rfl (by kernel_rfl) rfl ?_
        refine XL_skipT _ rfl rfl (by kernel_rfl) hc14 rfl ?_
        refine XL_takeC _ rfl rfl (by kernel_rfl) hc13 (X_of_Y0 rfl (Y0_pick0 (b := y6.2.2) (p := bif (!y8.2) then true else (!((y8.1.1 == y6.1.1) && ((y8.1.2.1 == y6.1.2.1) && (y8.1.2.2 == y6.1.2.2))))) (q := false) rfl (by kernel_rfl) hc14 (by kernel_rfl))) ?_
        refine XL_cons rfl (X_of_Y0 rfl (Y0_pick0 (b := b12) (p := true) (q := bif y6.2.2 then (bif (!y8.2) then true else (!((y8.1.1 == y6.1.1) && ((y8.1.2.1 == y6.1.2.1) && (y8.1.2.2 == y6.1.2.2))))) else false) rfl (by kernel_rfl) hc13 (by kernel_rfl))) ?_
        refine XL_nil ?_
        subst ht16
        kernel_rfl
     ·have hb12 := of_false hb12 hc10
      obtain ⟨y11, hy11, hb12⟩ := of_bind hb12
      have hb12 := some_inj hb12
      refine XL_takeC _ rfl rfl (by kernel_rfl) hc10 (X_of_Y0 rfl (E_move (.ow 329) rfl (by kernel_rfl))) ?_
      refine XL_takeC _ rfl rfl (by kernel_rfl) hc10 (X_of_Y0 rfl (E_move (.ow 385) rfl (by kernel_rfl))) ?_
      refine XL_takeC _ rfl rfl (by kernel_rfl) hc10 (X_of_Y1 rfl (Y1_callS (s_laws_sameInts hy11) cf_laws_sameInts rfl (by kernel_rfl) rfl rfl)) ?_
      refine XL_takeC _ rfl rfl (by kernel_rfl) hc10 (X_of_Y0 rfl (Y0_not (b := y11) rfl (by kernel_rfl))) ?_
      refine XL_cons rfl (X_of_Y0 rfl (Y0_pickFe (b := bif (y6.2.2 != y7.2.2) then true else (!((y6.1.1 == y7.1.1) && ((y6.1.2.1 == y7.1.2.1) && (y6.1.2.2 == y7.1.2.2))))) (p := !y11) rfl (by kernel_rfl) hc10 (by kernel_rfl) hb12)) ?_
      refine XR 1 ?_
      refine XL_split b12 (fun hc13 => ?_) (fun hc13 => ?_)
      ·refine XL_skipF _ rfl rfl (by kernel_rfl) hc13 rfl ?_
       refine XL_skipF _ rfl rfl (by kernel_rfl) hc13 rfl ?_
       refine XL_skip2 rfl rfl (by kernel_rfl) rfl ?_
       refine XL_skip2 rfl rfl (by kernel_rfl) rfl ?_
       refine XL_skip2 rfl rfl (by kernel_rfl) rfl ?_
       refine XL_skip2 rfl rfl (by kernel_rfl) rfl ?_
       refine XL_skip2 rfl rfl (by kernel_rfl) rfl ?_
       refine XL_skip2 rfl rfl (by kernel_rfl) rfl ?_
       refine XL_skip2 rfl rfl (by kernel_rfl) rfl ?_
       refine XL_skipF _ rfl rfl (by kernel_rfl) hc13 rfl ?_
       refine XL_cons rfl (X_of_Y0 rfl (Y0_pick1 (b := b12) (p := true) (q := bif y6.2.2 then (bif (!y8.2) then true else (!((y8.1.1 == y6.1.1) && ((y8.1.2.1 == y6.1.2.1) && (y8.1.2.2 == y6.1.2.2))))) else false) rfl (by kernel_rfl) hc13 (by kernel_rfl))) ?_
       refine XL_nil ?_
       subst ht16
       kernel_rfl
      ·refine XL_takeC _ rfl rfl (by kernel_rfl) hc13 (X_of_Y0 rfl (E_move (Bo y6.2.2) rfl (by kernel_rfl))) ?_
       refine XL_takeC _ rfl rfl (by kernel_rfl) hc13 (X_of_Y0 rfl (E_move (Bo y6.2.2) rfl (by kernel_rfl))) ?_
       refine XL_split y6.2.2 (fun hc14 => ?_) (fun hc14 => ?_)
       ·refine XL_takeC _ rfl rfl (by kernel_rfl) hc14 (X_of_Y0 rfl (E_move (Bo y8.2) rfl (by kernel_rfl))) ?_
        refine XL_takeC _ rfl rfl (by kernel_rfl) hc14 (X_of_Y0 rfl (Y0_not (b := y8.2) rfl (by kernel_rfl))) ?_
        refine XL_takeC _ rfl rfl (by kernel_rfl) hc14 (X_of_Y0 rfl (E_move (Bo (!y8.2)) rfl (by kernel_rfl))) ?_
        refine XL_split (!y8.2) (fun hc15 => ?_) (fun hc15 => ?_)
        ·refine XL_skipF _ rfl rfl (by kernel_rfl) hc15 rfl ?_
         refine XL_skipF _ rfl rfl (by kernel_rfl) hc15 rfl ?_
         refine XL_skipF _ rfl rfl (by kernel_rfl) hc15 rfl ?_
         refine XL_takeC _ rfl rfl (by kernel_rfl) hc14 (X_of_Y0 rfl (Y0_pick1 (b := !y8.2) (p := true) (q := !((y8.1.1 == y6.1.1) && ((y8.1.2.1 == y6.1.2.1) && (y8.1.2.2 == y6.1.2.2)))) rfl (by kernel_rfl) hc15 (by kernel_rfl))) ?_
         refine XL_takeC _ rfl rfl (by kernel_rfl) hc13 (X_of_Y0 rfl (Y0_pick1 (b := y6.2.2) (p := bif (!y8.2) then true else (!((y8.1.1 == y6.1.1) && ((y8.1.2.1 == y6.1.2.1) && (y8.1.2.2 == y6.1.2.2))))) (q := false) rfl (by kernel_rfl) hc14 (by kernel_rfl))) ?_
         refine XL_cons rfl (X_of_Y0 rfl (Y0_pick0 (b := b12) (p := true) (q := bif y6.2.2 then (bif (!y8.2) then true else (!((y8.1.1 == y6.1.1) && ((y8.1.2.1 == y6.1.2.1) && (y8.1.2.2 == y6.1.2.2))))) else false) rfl (by kernel_rfl) hc13 (by kernel_rfl))) ?_
         refine XL_nil ?_
         subst ht16
         kernel_rfl
        ·refine XL_takeC _ rfl rfl (by kernel_rfl) hc15 (X_of_Y0 rfl (E_loadn (cs := [Ti y8.1.1, Ti y8.1.2.1, Ti y8.1.2.2]) [Ti y8.1.1, Ti y8.1.2.1, Ti y8.1.2.2] wd25 rfl (by kernel_rfl) (Nat.le_of_ble_eq_true rfl) (by kernel_rfl))) ?_
         refine XL_takeC _ rfl rfl (by kernel_rfl) hc15 (X_of_Y0 rfl (E_loadn (cs := [Ti y6.1.1, Ti y6.1.2.1, Ti y6.1.2.2]) [Ti y6.1.1, Ti y6.1.2.1, Ti y6.1.2.2] wd25 rfl (by kernel_rfl) (Nat.le_of_ble_eq_true rfl) (by kernel_rfl))) ?_
         refine XL_takeC _ rfl rfl (by kernel_rfl) hc15 (X_of_Y0 rfl (Y0_neg3 (a0 := y8.1.1) (b0 := y6.1.1) (a1 := y8.1.2.1) (b1 := y6.1.2.1) (a2 := y8.1.2.2) (b2 := y6.1.2.2) neg25 rfl (by kernel_rfl) (by kernel_rfl))) ?_
         refine XL_takeC _ rfl rfl (by kernel_rfl) hc14 (X_of_Y0 rfl (Y0_pick0 (b := !y8.2) (p := true) (q := !((y8.1.1 == y6.1.1) && ((y8.1.2.1 == y6.1.2.1) && (y8.1.2.2 == y6.1.2.2)))) rfl (by kernel_rfl) hc15 (by kernel_rfl))) ?_
         refine XL_takeC _ rfl rfl (by kernel_rfl) hc13 (X_of_Y0 rfl (Y0_pick1 (b := y6.2.2) (p := bif (!y8.2) then true else (!((y8.1.1 == y6.1.1) && ((y8.1.2.1 == y6.1.2.1) && (y8.1.2.2 == y6.1.2.2))))) (q := false) rfl (by kernel_rfl) hc14 (by kernel_rfl))) ?_
         refine XL_cons rfl (X_of_Y0 rfl (Y0_pick0 (b := b12) (p := true) (q := bif y6.2.2 then (bif (!y8.2) then true else (!((y8.1.1 == y6.1.1) && ((y8.1.2.1 == y6.1.2.1) && (y8.1.2.2 == y6.1.2.2))))) else false) rfl (by kernel_rfl) hc13 (by kernel_rfl))) ?_
         refine XL_nil ?_
         subst ht16
         kernel_rfl
       ·refine XL_skipT _ rfl rfl (by kernel_rfl) hc14 rfl ?_
        refine XL_skipT _ rfl rfl (by kernel_rfl) hc14 rfl ?_
        refine XL_skipT _ rfl rfl (by kernel_rfl) hc14 rfl ?_
        refine XL_skip2 rfl rfl (by kernel_rfl) rfl ?_
        refine XL_skip2 rfl rfl (by kernel_rfl) rfl ?_
        refine XL_skip2 rfl rfl (by kernel_rfl) rfl ?_
        refine XL_skipT _ rfl rfl (by kernel_rfl) hc14 rfl ?_
        refine XL_takeC _ rfl rfl (by kernel_rfl) hc13 (X_of_Y0 rfl (Y0_pick0 (b := y6.2.2) (p := bif (!y8.2) then true else (!((y8.1.1 == y6.1.1) && ((y8.1.2.1 == y6.1.2.1) && (y8.1.2.2 == y6.1.2.2))))) (q := false) rfl (by kernel_rfl) hc14 (by kernel_rfl))) ?_
        refine XL_cons rfl (X_of_Y0 rfl (Y0_pick0 (b := b12) (p := true) (q := bif y6.2.2 then (bif (!y8.2) then true else (!((y8.1.1 == y6.1.1) && ((y8.1.2.1 == y6.1.2.1) && (y8.1.2.2 == y6.1.2.2))))) else false) rfl (by kernel_rfl) hc13 (by kernel_rfl))) ?_
        refine XL_nil ?_
        subst ht16
        kernel_rfl
    ·refine XL_takeC _ rfl rfl (by kernel_rfl) hc9 (X_of_Y0 rfl (E_loadn (cs := [Ti y6.1.1, Ti y6.1.2.1, Ti y6.1.2.2]) [Ti y6.1.1, Ti y6.1.2.1, Ti y6.1.2.2] wd25 rfl (by kernel_rfl) (Nat.le_of_ble_eq_true rfl) (by kernel_rfl))) ?_
     refine XL_takeC _ rfl rfl (by kernel_rfl) hc9 (X_of_Y0 rfl (E_loadn (cs := [Ti y7.1.1, Ti y7.1.2.1, Ti y7.1.2.2]) [Ti y7.1.1, Ti y7.1.2.1, Ti y7.1.2.2] wd25 rfl (by kernel_rfl) (Nat.le_of_ble_eq_true rfl) (by kernel_rfl))) ?_
     refine XL_takeC _ rfl rfl (by kernel_rfl) hc9 (X_of_Y0 rfl (Y0_neg3 (a0 := y6.1.1) (b0 := y7.1.1) (a1 := y6.1.2.1) (b1 := y7.1.2.1) (a2 := y6.1.2.2) (b2 := y7.1.2.2) neg25 rfl (by kernel_rfl) (by kernel_rfl))) ?_
     refine XL_cons rfl (X_of_Y0 rfl (Y0_pick0 (b := y6.2.2 != y7.2.2) (p := true) (q := !((y6.1.1 == y7.1.1) && ((y6.1.2.1 == y7.1.2.1) && (y6.1.2.2 == y7.1.2.2)))) rfl (by kernel_rfl) hc9 (by kernel_rfl))) ?_
     refine XR 1 ?_
     refine XL_split (bif (y6.2.2 != y7.2.2) then true else (!((y6.1.1 == y7.1.1) && ((y6.1.2.1 == y7.1.2.1) && (y6.1.2.2 == y7.1.2.2))))) (fun hc10 => ?_) (fun hc10 => ?_)
     ·have hb12 := some_inj (of_true hb12 hc10)
      refine XL_skipF _ rfl rfl (by kernel_rfl) hc10 rfl ?_
      refine XL_skipF _ rfl rfl (by kernel_rfl) hc10 rfl ?_
      refine XL_skipF _ rfl rfl (by kernel_rfl) hc10 rfl ?_
      refine XL_skipF _ rfl rfl (by kernel_rfl) hc10 rfl ?_
      refine XL_cons rfl (X_of_Y0 rfl (Y0_pickTe (b := bif (y6.2.2 != y7.2.2) then true else (!((y6.1.1 == y7.1.1) && ((y6.1.2.1 == y7.1.2.1) && (y6.1.2.2 == y7.1.2.2))))) (p := true) rfl (by kernel_rfl) hc10 (by kernel_rfl) hb12)) ?_
      refine XR 1 ?_
      refine XL_split b12 (fun hc13 => ?_) (fun hc13 => ?_)
      ·refine XL_skipF _ rfl rfl (by kernel_rfl) hc13 rfl ?_
       refine XL_skipF _ rfl rfl (by kernel_rfl) hc13 rfl ?_
       refine XL_skip2 rfl rfl (by kernel_rfl) rfl ?_
       refine XL_skip2 rfl rfl (by kernel_rfl) rfl ?_
       refine XL_skip2 rfl rfl (by kernel_rfl) rfl ?_
       refine XL_skip2 rfl rfl (by kernel_rfl) rfl ?_
       refine XL_skip2 rfl rfl (by kernel_rfl) rfl ?_
       refine XL_skip2 rfl rfl (by kernel_rfl) rfl ?_
       refine XL_skip2 rfl rfl (by kernel_rfl) rfl ?_
       refine XL_skipF _ rfl rfl (by kernel_rfl) hc13 rfl ?_
       refine XL_cons rfl (X_of_Y0 rfl (Y0_pick1 (b := b12) (p := true) (q := bif y6.2.2 then (bif (!y8.2) then true else (!((y8.1.1 == y6.1.1) && ((y8.1.2.1 == y6.1.2.1) && (y8.1.2.2 == y6.1.2.2))))) else false) rfl (by kernel_rfl) hc13 (by kernel_rfl))) ?_
       refine XL_nil ?_
       subst ht16
       kernel_rfl
      ·refine XL_takeC _ rfl rfl (by kernel_rfl) hc13 (X_of_Y0 rfl (E_move (Bo y6.2.2) rfl (by kernel_rfl))) ?_
       refine XL_takeC _ rfl rfl (by kernel_rfl) hc13 (X_of_Y0 rfl (E_move (Bo y6.2.2) rfl (by kernel_rfl))) ?_
       refine XL_split y6.2.2 (fun hc14 => ?_) (fun hc14 => ?_)
       ·refine XL_takeC _ rfl rfl (by kernel_rfl) hc14 (X_of_Y0 rfl (E_move (Bo y8.2) rfl (by kernel_rfl))) ?_
        refine XL_takeC _ rfl rfl (by kernel_rfl) hc14 (X_of_Y0 rfl (Y0_not (b := y8.2) rfl (by kernel_rfl))) ?_
        refine XL_takeC _ rfl rfl (by kernel_rfl) hc14 (X_of_Y0 rfl (E_move (Bo (!y8.2)) rfl (by kernel_rfl))) ?_
        refine XL_split (!y8.2) (fun hc15 => ?_) (fun hc15 => ?_)
        ·refine XL_skipF _ rfl rfl (by kernel_rfl) hc15 rfl ?_
         refine XL_skipF _ rfl rfl (by kernel_rfl) hc15 rfl ?_
         refine XL_skipF _ rfl rfl (by kernel_rfl) hc15 rfl ?_
         refine XL_takeC _ rfl rfl (by kernel_rfl) hc14 (X_of_Y0 rfl (Y0_pick1 (b := !y8.2) (p := true) (q := !((y8.1.1 == y6.1.1) && ((y8.1.2.1 == y6.1.2.1) && (y8.1.2.2 == y6.1.2.2)))) rfl (by kernel_rfl) hc15 (by kernel_rfl))) ?_
         refine XL_takeC _ rfl rfl (by kernel_rfl) hc13 (X_of_Y0 rfl (Y0_pick1 (b := y6.2.2) (p := bif (!y8.2) then true else (!((y8.1.1 == y6.1.1) && ((y8.1.2.1 == y6.1.2.1) && (y8.1.2.2 == y6.1.2.2))))) (q := false) rfl (by kernel_rfl) hc14 (by kernel_rfl))) ?_
         refine XL_cons rfl (X_of_Y0 rfl (Y0_pick0 (b := b12) (p := true) (q := bif y6.2.2 then (bif (!y8.2) then true else (!((y8.1.1 == y6.1.1) && ((y8.1.2.1 == y6.1.2.1) && (y8.1.2.2 == y6.1.2.2))))) else false) rfl (by kernel_rfl) hc13 (by kernel_rfl))) ?_
         refine XL_nil ?_
         subst ht16
         kernel_rfl
        ·refine XL_takeC _ rfl rfl (by kernel_rfl) hc15 (X_of_Y0 rfl (E_loadn (cs := [Ti y8.1.1, Ti y8.1.2.1, Ti y8.1.2.2]) [Ti y8.1.1, Ti y8.1.2.1, Ti y8.1.2.2] wd25 rfl (by kernel_rfl) (Nat.le_of_ble_eq_true rfl) (by kernel_rfl))) ?_
         refine XL_takeC _ rfl rfl (by kernel_rfl) hc15 (X_of_Y0 rfl (E_loadn (cs := [Ti y6.1.1, Ti y6.1.2.1, Ti y6.1.2.2]) [Ti y6.1.1, Ti y6.1.2.1, Ti y6.1.2.2] wd25 rfl (by kernel_rfl) (Nat.le_of_ble_eq_true rfl) (by kernel_rfl))) ?_
         refine XL_takeC _ rfl rfl (by kernel_rfl) hc15 (X_of_Y0 rfl (Y0_neg3 (a0 := y8.1.1) (b0 := y6.1.1) (a1 := y8.1.2.1) (b1 := y6.1.2.1) (a2 := y8.1.2.2) (b2 := y6.1.2.2) neg25 rfl (by kernel_rfl) (by kernel_rfl))) ?_
         refine XL_takeC _ rfl rfl (by kernel_rfl) hc14 (X_of_Y0 rfl (Y0_pick0 (b := !y8.2) (p := true) (q := !((y8.1.1 == y6.1.1) && ((y8.1.2.1 == y6.1.2.1) && (y8.1.2.2 == y6.1.2.2)))) rfl (by kernel_rfl) hc15 (by kernel_rfl))) ?_
         refine XL_takeC _ rfl rfl (by kernel_rfl) hc13 (X_of_Y0 rfl (Y0_pick1 (b := y6.2.2) (p := bif (!y8.2) then true else (!((y8.1.1 == y6.1.1) && ((y8.1.2.1 == y6.1.2.1) && (y8.1.2.2 == y6.1.2.2))))) (q := false) rfl (by kernel_rfl) hc14 (by kernel_rfl))) ?_
         refine XL_cons rfl (X_of_Y0 rfl (Y0_pick0 (b := b12) (p := true) (q := bif y6.2.2 then (bif (!y8.2) then true else (!((y8.1.1 == y6.1.1) && ((y8.1.2.1 == y6.1.2.1) && (y8.1.2.2 == y6.1.2.2))))) else false) rfl (by kernel_rfl) hc13 (by kernel_rfl))) ?_
         refine XL_nil ?_
         subst ht16
         kernel_rfl
       ·refine XL_skipT _ rfl rfl (by kernel_rfl) hc14 rfl ?_
        refine XL_skipT _ rfl rfl (by kernel_rfl) hc14 rfl ?_
        refine XL_skipT _ rfl rfl (by kernel_rfl) hc14 rfl ?_
        refine XL_skip2 rfl rfl (by kernel_rfl) rfl ?_
        refine XL_skip2 rfl rfl (by kernel_rfl) rfl ?_
        refine XL_skip2 rfl rfl (by kernel_rfl) rfl ?_
        refine XL_skipT _ rfl rfl (by kernel_rfl) hc14 rfl ?_
        refine XL_takeC _ rfl rfl (by kernel_rfl) hc13 (X_of_Y0 rfl (Y0_pick0 (b := y6.2.2) (p := bif (!y8.2) then true else (!((y8.1.1 == y6.1.1) && ((y8.1.2.1 == y6.1.2.1) && (y8.1.2.2 == y6.1.2.2))))) (q := false) rfl (by kernel_rfl) hc14 (by kernel_rfl))) ?_
        refine XL_cons rfl (X_of_Y0 rfl (Y0_pick0 (b := b12) (p := true) (q := bif y6.2.2 then (bif (!y8.2) then true else (!((y8.1.1 == y6.1.1) && ((y8.1.2.1 == y6.1.2.1) && (y8.1.2.2 == y6.1.2.2))))) else false) rfl (by kernel_rfl) hc13 (by kernel_rfl))) ?_
        refine XL_nil ?_
        subst ht16
        kernel_rfl
     ·have hb12 := of_false hb12 hc10
      obtain ⟨y11, hy11, hb12⟩ := of_bind hb12
      have hb12 := some_inj hb12
      refine XL_takeC _ rfl rfl (by kernel_rfl) hc10 (X_of_Y0 rfl (E_move (.ow 329) rfl (by kernel_rfl))) ?_
      refine XL_takeC _ rfl rfl (by kernel_rfl) hc10 (X_of_Y0 rfl (E_move (.ow 385) rfl (by kernel_rfl))) ?_
      refine XL_takeC _ rfl rfl (by kernel_rfl) hc10 (X_of_Y1 rfl (Y1_callS (s_laws_sameInts hy11) cf_laws_sameInts rfl (by kernel_rfl) rfl rfl)) ?_
      refine XL_takeC _ rfl rfl (by kernel_rfl) hc10 (X_of_Y0 rfl (Y0_not (b := y11) rfl (by kernel_rfl))) ?_
      refine XL_cons rfl (X_of_Y0 rfl (Y0_pickFe (b := bif (y6.2.2 != y7.2.2) then true else (!((y6.1.1 == y7.1.1) && ((y6.1.2.1 == y7.1.2.1) && (y6.1.2.2 == y7.1.2.2))))) (p := !y11) rfl (by kernel_rfl) hc10 (by kernel_rfl) hb12)) ?_
      refine XR 1 ?_
      refine XL_split b12 (fun hc13 => ?_) (fun hc13 => ?_)
      ·refine XL_skipF _ rfl rfl (by kernel_rfl) hc13 rfl ?_
       refine XL_skipF _ rfl rfl (by kernel_rfl) hc13 rfl ?_
       refine XL_skip2 rfl rfl (by kernel_rfl) rfl ?_
       refine XL_skip2 rfl rfl (by kernel_rfl) rfl ?_
       refine XL_skip2 rfl rfl (by kernel_rfl) rfl ?_
       refine XL_skip2 rfl rfl (by kernel_rfl) rfl ?_
       refine XL_skip2 rfl rfl (by kernel_rfl) rfl ?_
       refine XL_skip2 rfl rfl (by kernel_rfl) rfl ?_
       refine XL_skip2 rfl rfl (by kernel_rfl) rfl ?_
       refine XL_skipF _ rfl rfl (by kernel_rfl) hc13 rfl ?_
       refine XL_cons rfl (X_of_Y0 rfl (Y0_pick1 (b := b12) (p := true) (q := bif y6.2.2 then (bif (!y8.2) then true else (!((y8.1.1 == y6.1.1) && ((y8.1.2.1 == y6.1.2.1) && (y8.1.2.2 == y6.1.2.2))))) else false) rfl (by kernel_rfl) hc13 (by kernel_rfl))) ?_
       refine XL_nil ?_
       subst ht16
       kernel_rfl
      ·refine XL_takeC _ rfl rfl (by kernel_rfl) hc13 (X_of_Y0 rfl (E_move (Bo y6.2.2) rfl (by kernel_rfl))) ?_
       refine XL_takeC _ rfl rfl (by kernel_rfl) hc13 (X_of_Y0 rfl (E_move (Bo y6.2.2) rfl (by kernel_rfl))) ?_
       refine XL_split y6.2.2 (fun hc14 => ?_) (fun hc14 => ?_)
       ·refine XL_takeC _ rfl rfl (by kernel_rfl) hc14 (X_of_Y0 rfl (E_move (Bo y8.2) rfl (by kernel_rfl))) ?_
        refine XL_takeC _ rfl rfl (by kernel_rfl) hc14 (X_of_Y0 rfl (Y0_not (b := y8.2) rfl (by kernel_rfl))) ?_
        refine XL_takeC _ rfl rfl (by kernel_rfl) hc14 (X_of_Y0 rfl (E_move (Bo (!y8.2)) rfl (by kernel_rfl))) ?_
        refine XL_split (!y8.2) (fun hc15 => ?_) (fun hc15 => ?_)
        ·refine XL_skipF _ rfl rfl (by kernel_rfl) hc15 rfl ?_
         refine XL_skipF _ rfl rfl (by kernel_rfl) hc15 rfl ?_
         refine XL_skipF _ rfl rfl (by kernel_rfl) hc15 rfl ?_
         refine XL_takeC _ rfl rfl (by kernel_rfl) hc14 (X_of_Y0 rfl (Y0_pick1 (b := !y8.2) (p := true) (q := !((y8.1.1 == y6.1.1) && ((y8.1.2.1 == y6.1.2.1) && (y8.1.2.2 == y6.1.2.2)))) rfl (by kernel_rfl) hc15 (by kernel_rfl))) ?_
         refine XL_takeC _ rfl rfl (by kernel_rfl) hc13 (X_of_Y0 rfl (Y0_pick1 (b := y6.2.2) (p := bif (!y8.2) then true else (!((y8.1.1 == y6.1.1) && ((y8.1.2.1 == y6.1.2.1) && (y8.1.2.2 == y6.1.2.2))))) (q := false) rfl (by kernel_rfl) hc14 (by kernel_rfl))) ?_
         refine XL_cons rfl (X_of_Y0 rfl (Y0_pick0 (b := b12) (p := true) (q := bif y6.2.2 then (bif (!y8.2) then true else (!((y8.1.1 == y6.1.1) && ((y8.1.2.1 == y6.1.2.1) && (y8.1.2.2 == y6.1.2.2))))) else false) rfl (by kernel_rfl) hc13 (by kernel_rfl))) ?_
         refine XL_nil ?_
         subst ht16
         kernel_rfl
        ·refine XL_takeC _ rfl rfl (by kernel_rfl) hc15 (X_of_Y0 rfl (E_loadn (cs := [Ti y8.1.1, Ti y8.1.2.1, Ti y8.1.2.2]) [Ti y8.1.1, Ti y8.1.2.1, Ti y8.1.2.2] wd25 rfl (by kernel_rfl) (Nat.le_of_ble_eq_true rfl) (by kernel_rfl))) ?_
         refine XL_takeC _ rfl rfl (by kernel_rfl) hc15 (X_of_Y0 rfl (E_loadn (cs := [Ti y6.1.1, Ti y6.1.2.1, Ti y6.1.2.2]) [Ti y6.1.1, Ti y6.1.2.1, Ti y6.1.2.2] wd25 rfl (by kernel_rfl) (Nat.le_of_ble_eq_true rfl) (by kernel_rfl))) ?_
         refine XL_takeC _ rfl rfl (by kernel_rfl) hc15 (X_of_Y0 rfl (Y0_neg3 (a0 := y8.1.1) (b0 := y6.1.1) (a1 := y8.1.2.1) (b1 := y6.1.2.1) (a2 := y8.1.2.2) (b2 := y6.1.2.2) neg25 rfl (by kernel_rfl) (by kernel_rfl))) ?_
         refine XL_takeC _ rfl rfl (by kernel_rfl) hc14 (X_of_Y0 rfl (Y0_pick0 (b := !y8.2) (p := true) (q := !((y8.1.1 == y6.1.1) && ((y8.1.2.1 == y6.1.2.1) && (y8.1.2.2 == y6.1.2.2)))) rfl (by kernel_rfl) hc15 (by kernel_rfl))) ?_
         refine XL_takeC _ rfl rfl (by kernel_rfl) hc13 (X_of_Y0 rfl (Y0_pick1 (b := y6.2.2) (p := bif (!y8.2) then true else (!((y8.1.1 == y6.1.1) && ((y8.1.2.1 == y6.1.2.1) && (y8.1.2.2 == y6.1.2.2))))) (q := false) rfl (by kernel_rfl) hc14 (by kernel_rfl))) ?_
         refine XL_cons rfl (X_of_Y0 rfl (Y0_pick0 (b := b12) (p := true) (q := bif y6.2.2 then (bif (!y8.2) then true else (!((y8.1.1 == y6.1.1) && ((y8.1.2.1 == y6.1.2.1) && (y8.1.2.2 == y6.1.2.2))))) else false) rfl (by kernel_rfl) hc13 (by kernel_rfl))) ?_
         refine XL_nil ?_
         subst ht16
         kernel_rfl
       ·refine XL_skipT _ rfl rfl (by kernel_rfl) hc14 rfl ?_
        refine XL_skipT _ rfl rfl (by kernel_rfl) hc14 rfl ?_
        refine XL_skipT _ rfl rfl (by kernel_rfl) hc14 rfl ?_
        refine XL_skip2 rfl rfl (by kernel_rfl) rfl ?_
        refine XL_skip2 rfl rfl (by kernel_rfl) rfl ?_
        refine XL_skip2 rfl rfl (by kernel_rfl) rfl ?_
        refine XL_skipT _ rfl rfl (by kernel_rfl) hc14 rfl ?_
        refine XL_takeC _ rfl rfl (by kernel_rfl) hc13 (X_of_Y0 rfl (Y0_pick0 (b := y6.2.2) (p := bif (!y8.2) then true else (!((y8.1.1 == y6.1.1) && ((y8.1.2.1 == y6.1.2.1) && (y8.1.2.2 == y6.1.2.2))))) (q := false) rfl (by kernel_rfl) hc14 (by kernel_rfl))) ?_
        refine XL_cons rfl (X_of_Y0 rfl (Y0_pick0 (b := b12) (p := true) (q := bif y6.2.2 then (bif (!y8.2) then true else (!((y8.1.1 == y6.1.1) && ((y8.1.2.1 == y6.1.2.1) && (y8.1.2.2 == y6.1.2.2))))) else false) rfl (by kernel_rfl) hc13 (by kernel_rfl))) ?_
        refine XL_nil ?_
        subst ht16
        kernel_rfl
   refine V_cond rfl (fun hc17 => ?_) (fun hc17 => ?_)
   ·have h := of_true h hc17
    refine V_e (mb 220 16) [] (s1 := ⟨bt 4 (Bo false :: bt 215 []), []⟩) ?_
    refine V_ret ?_
    obtain rfl := some_inj h
    show Post _ _ _ _ _
    exact ⟨.inr rfl, rfl, rfl, rfl⟩
   ·have h := of_false h hc17
    refine V_skip ?_
    show V _ _ _ _
    refine V_seq ?_
    obtain ⟨t19, ht19, h⟩ := of_bind h
    have ht19 := some_inj ht19
    refine V_sreg (mb 220 1237940039285380274899124706) [56, 329, 48, 40] (s1 := ⟨.bot :: .c (.sl (more2.map c5)) :: bt 3 (.pt 40 0 :: .pt 48 0 :: .pt 56 0 :: .ow 329 :: bt 81 (Bo t19 :: bt 129 [])), [(56, .box [Ti y6.1.1, Ti y6.1.2.1, Ti y6.1.2.2]), (329, .arr 3 1 (y6.2.1.map c3)), (48, .box [Ti y5.2.1, Ti y5.2.2.1, Ti y5.2.2.2]), (40, .box [Ti y5.1.1, Ti y5.1.2.1, Ti y5.1.2.2])]⟩) ?_ ?_
    ·refine XR 3 ?_
     refine XL_split (!y6.2.2) (fun hc18 => ?_) (fun hc18 => ?_)
     ·refine XL_skipF _ rfl rfl (by kernel_rfl) hc18 rfl ?_
      refine XL_skipF _ rfl rfl (by kernel_rfl) hc18 rfl ?_
      refine XL_skipF _ rfl rfl (by kernel_rfl) hc18 rfl ?_
      refine XL_cons rfl (X_of_Y0 rfl (Y0_pick1 (b := !y6.2.2) (p := true) (q := !eqI ((y6.2.1.length : Int)) 8) rfl (by kernel_rfl) hc18 (by kernel_rfl))) ?_
      refine XL_nil ?_
      subst ht19
      kernel_rfl
     ·refine XL_takeC _ rfl rfl (by kernel_rfl) hc18 (X_of_Y0 rfl (E_move (.ow 329) rfl (by kernel_rfl))) ?_
      refine XL_takeC _ rfl rfl (by kernel_rfl) hc18 (X_of_Y0 rfl (Y0_lenM (c := c3) (xs := y6.2.1) Try.underlying47 rfl (by kernel_rfl))) ?_
      refine XL_takeC _ rfl rfl (by kernel_rfl) hc18 (X_of_Y0 rfl (Y0_new (k := .i64) (a := (y6.2.1.length : Int)) (b := 8) rfl (by kernel_rfl) (by kernel_rfl))) ?_
      refine XL_cons rfl (X_of_Y0 rfl (Y0_pick0 (b := !y6.2.2) (p := true) (q := !eqI ((y6.2.1.length : Int)) 8) rfl (by kernel_rfl) hc18 (by kernel_rfl))) ?_
      refine XL_nil ?_
      subst ht19
      kernel_rfl
    refine V_cond rfl (fun hc20 => ?_) (fun hc20 => ?_)
    ·have h := of_true h hc20
     refine V_e (mb 220 16) [] (s1 := ⟨bt 4 (Bo true :: bt 215 []), []⟩) ?_
     refine V_ret ?_
     obtain rfl := some_inj h
     show Post _ _ _ _ _
     exact ⟨.inr rfl, rfl, rfl, rfl⟩
    ·have h := of_false h hc20
     refine V_skip ?_
     show V _ _ _ _
     obtain ⟨y21, hy21, h⟩ := of_bind h
     refine V_sreg (mb 220 98786) [56, 329, 48, 40] (s1 := ⟨.bot :: .c (.sl (more2.map c5)) :: bt 3 (.pt 40 0 :: .pt 48 0 :: .pt 56 0 :: .ow 329 :: bt 6 (Bo y21.1 :: Bo y21.2 :: bt 203 [])), [(56, .box [Ti y6.1.1, Ti y6.1.2.1, Ti y6.1.2.2]), (329, .arr 3 1 (y6.2.1.map c3)), (48, .box [Ti y5.2.1, Ti y5.2.2.1, Ti y5.2.2.2]), (40, .box [Ti y5.1.1, Ti y5.1.2.1, Ti y5.1.2.2])]⟩) ?_ ?_
     ·refine XR 4 ?_
      refine L1 rfl rfl (Y1_callS (s_impl_IsComposition hy21) cf_impl_IsComposition rfl (by kernel_rfl) rfl rfl) ?_
      exact XE
     refine V_seq ?_
     refine V_sreg (mb 220 20282409603651670423947251286498) [56, 329, 48, 40] (s1 := ⟨.bot :: .c (.sl (more2.map c5)) :: bt 3 (.pt 40 0 :: .pt 48 0 :: .pt 56 0 :: .ow 329 :: bt 95 (Bo (bif (!y21.2) then true else (!y21.1)) :: bt 115 [])), [(56, .box [Ti y6.1.1, Ti y6.1.2.1, Ti y6.1.2.2]), (329, .arr 3 1 (y6.2.1.map c3)), (48, .box [Ti y5.2.1, Ti y5.2.2.1, Ti y5.2.2.2]), (40, .box [Ti y5.1.1, Ti y5.1.2.1, Ti y5.1.2.2])]⟩) ?_ ?_
     ·refine XR 3 ?_
      refine XL_split (!y21.2) (fun hc22 => ?_) (fun hc22 => ?_)
      ·refine XL_skipF _ rfl rfl (by kernel_rfl) hc22 rfl ?_
       refine XL_skipF _ rfl rfl (by kernel_rfl) hc22 rfl ?_
       refine XL_cons rfl (X_of_Y0 rfl (Y0_pick1 (b := !y21.2) (p := true) (q := !y21.1) rfl (by kernel_rfl) hc22 (by kernel_rfl))) ?_
       exact XE
      ·refine XL_takeC _ rfl rfl (by kernel_rfl) hc22 (X_of_Y0 rfl (E_move (Bo y21.1) rfl (by kernel_rfl))) ?_
       refine XL_takeC _ rfl rfl (by kernel_rfl) hc22 (X_of_Y0 rfl (Y0_not (b := y21.1) rfl (by kernel_rfl))) ?_
       refine XL_cons rfl (X_of_Y0 rfl (Y0_pick0 (b := !y21.2) (p := true) (q := !y21.1) rfl (by kernel_rfl) hc22 (by kernel_rfl))) ?_
       exact XE
     refine V_cond rfl (fun hc23 => ?_) (fun hc23 => ?_)
     ·have h := of_true h hc23
      refine V_e (mb 220 16) [] (s1 := ⟨bt 4 (Bo false :: bt 215 []), []⟩) ?_
      refine V_ret ?_
      obtain rfl := some_inj h
      show Post _ _ _ _ _
      exact ⟨.inr rfl, rfl, rfl, rfl⟩
     ·have h := of_false h hc23
      refine V_skip ?_
      show V _ _ _ _
      obtain ⟨y24, hy24, h⟩ := of_bind h
      refine V_sreg (mb 220 131552) [56, 329, 48, 40] (s1 := ⟨bt 5 (.pt 40 0 :: .pt 48 0 :: .pt 56 0 :: .ow 329 :: bt 8 (I y24 :: bt 202 [])), [(56, .box [Ti y6.1.1, Ti y6.1.2.1, Ti y6.1.2.2]), (329, .arr 3 1 (y6.2.1.map c3)), (48, .box [Ti y5.2.1, Ti y5.2.2.1, Ti y5.2.2.2]), (40, .box [Ti y5.1.1, Ti y5.1.2.1, Ti y5.1.2.2])]⟩) ?_ ?_
      ·refine XR 1 ?_
       refine XC (s_laws_numberOf hy24) cf_laws_numberOf rfl rfl rfl ?_
       exact XE
      obtain ⟨x25, hx25, h⟩ := of_sI h
      obtain ⟨y26, hy26, h⟩ := of_sI h
      obtain ⟨u27, hu27, h⟩ := of_sI h
      obtain ⟨v28, hv28, h⟩ := of_sI h
      refine V_sreg (mb 220 3932640) [56, 329, 48, 40] (s1 := ⟨bt 5 (.pt 40 0 :: .pt 48 0 :: .pt 56 0 :: .ow 329 :: bt 9 (I x25 :: I y26 :: I u27 :: I v28 :: bt 198 [])), [(56, .box [Ti y6.1.1, Ti y6.1.2.1, Ti y6.1.2.2]), (329, .arr 3 1 (y6.2.1.map c3)), (48, .box [Ti y5.2.1, Ti y5.2.2.1, Ti y5.2.2.2]), (40, .box [Ti y5.1.1, Ti y5.1.2.1, Ti y5.1.2.2])]⟩) ?_ ?_
      ·refine XR 1 ?_
       refine L0 rfl rfl (Y0_rem (k := .i64) (a := y24) (b := 7) rfl (by kernel_rfl) (by kernel_rfl) (by decide)) ?_
       refine XR 2 ?_
       refine L0 rfl rfl (Y0_quo64 (a := y24) (b := 7) rfl (by kernel_rfl) (by kernel_rfl) (by decide)) ?_
       refine L0 rfl rfl (Y0_rem (k := .i64) (a := w64 (Int.tdiv y24 7)) (b := 7) rfl (by kernel_rfl) (by kernel_rfl) (by decide)) ?_
       refine XR 2 ?_
       refine L0 rfl rfl (Y0_quo64 (a := y24) (b := 49) rfl (by kernel_rfl) (by kernel_rfl) (by decide)) ?_
       refine L0 rfl rfl (Y0_rem (k := .i64) (a := w64 (Int.tdiv y24 49)) (b := 7) rfl (by kernel_rfl) (by kernel_rfl) (by decide)) ?_
       refine XR 2 ?_
       refine L0 rfl rfl (Y0_quo64 (a := y24) (b := 343) rfl (by kernel_rfl) (by kernel_rfl) (by decide)) ?_
       refine L0 rfl rfl (Y0_rem (k := .i64) (a := w64 (Int.tdiv y24 343)) (b := 7) rfl (by kernel_rfl) (by kernel_rfl) (by decide)) ?_
       refine XR 5 ?_
       refine XL_nil ?_
       subst hx25 hy26 hu27 hv28
       kernel_rfl
      obtain ⟨y29, hy29, h⟩ := of_bind h
      refine V_sreg (mb 220 16515520) [56, 329, 48] (s1 := ⟨bt 6 (.pt 48 0 :: .pt 56 0 :: .ow 329 :: bt 9 (I x25 :: I y26 :: I u27 :: I v28 :: I y29.1 :: Bo y29.2 :: bt 196 [])), [(56, .box [Ti y6.1.1, Ti y6.1.2.1, Ti y6.1.2.2]), (329, .arr 3 1 (y6.2.1.map c3)), (48, .box [Ti y5.2.1, Ti y5.2.2.1, Ti y5.2.2.2])]⟩) ?_ ?_
      ·refine XR 3 ?_
       refine XC (s_impl_ValueAt hy29) cf_impl_ValueAt rfl rfl rfl ?_
       exact XE
      obtain ⟨y30, hy30, h⟩ := of_bind h
      refine V_sreg (mb 220 66847104) [56, 329] (s1 := ⟨bt 7 (.pt 56 0 :: .ow 329 :: bt 9 (I x25 :: I y26 :: I u27 :: I v28 :: I y29.1 :: Bo y29.2 :: I y30.1 :: Bo y30.2 :: bt 194 [])), [(56, .box [Ti y6.1.1, Ti y6.1.2.1, Ti y6.1.2.2]), (329, .arr 3 1 (y6.2.1.map c3))]⟩) ?_ ?_
      ·refine XR 3 ?_
       refine XC (s_impl_ValueAt hy30) cf_impl_ValueAt rfl rfl rfl ?_
       exact XE
      obtain ⟨e31, he31, h⟩ := of_bind h
      obtain ⟨e32, he32, h⟩ := of_bind h
      obtain ⟨e33, he33, h⟩ := of_bind h
      obtain ⟨e34, he34, h⟩ := of_bind h
      obtain ⟨e35, he35, h⟩ := of_bind h
      obtain ⟨e36, he36, h⟩ := of_bind h
      obtain ⟨e37, he37, h⟩ := of_bind h
      obtain ⟨e38, he38, h⟩ := of_bind h
      obtain ⟨p39, hp39, h⟩ := of_sI h
      refine V_sdreg [0, 1, 3, 0, 15, 0, 63, 0, 128, 384, 0, 1920, 0, 8064, 16383, 0, 32768, 98304, 0, 491520, 0, 2064384, 4194303, 0, 8388608, 25165824, 0, 125829120, 0, 528482304, 1073741823, 2147483647] 32 (cdm 32 [768579151495596160, 768579151495596161, 768579151495596165, 768579151495596074, 768579151495596117, 768579151495594666, 768579151495595349, 768579151352310442, 768579151352326826, 768579151352392362, 768579151350901418, 768579151351605930, 768579151327832746, 768579151339023018, 768579151406126421, 768569761086483114, 768569762160224938, 768569766455192234, 768569668744686250, 768569714915584682, 768568156916198058, 768568890281863850, 768573287970461013, 153169299826715306, 153239668570892970, 153521143547603626, 147117587827436202, 150143443827075754, 48038396025285290, 96100248298629802, 384307168202282325, 1537228672809129301]) (mb 220 133955968) [56, 329] (s1 := ⟨bt 7 (.pt 56 0 :: .ow 329 :: bt 9 (I x25 :: I y26 :: I u27 :: I v28 :: I y29.1 :: Bo y29.2 :: I y30.1 :: Bo y30.2 :: I p39 :: bt 193 [])), [(56, .box [Ti y6.1.1, Ti y6.1.2.1, Ti y6.1.2.2]), (329, .arr 3 1 (y6.2.1.map c3))]⟩) (by kernel_rfl) (by kernel_rfl) ?_ ?_
      ·refine DR 1 ?_
       refine DE_0 1 (.po 329 1 (Int.toNat (0)) 0) (by kernel_rfl) rfl rfl rfl (gsat_none rfl) (by kernel_rfl) (Y0_idxoM (c := c3) (xs := y6.2.1) (v := e31) (id := 329) (T := 3) (sz := 1) (n := 0) Try.underlying47 sz3 rfl (by kernel_rfl) (by kernel_rfl) (by kernel_rfl) he31) 137 rfl ?_
       refine DE_0 2 (I e32) (by kernel_rfl) rfl rfl rfl (gsat_none rfl) (by kernel_rfl) (Y0_loado1 (c := c3) (xs := y6.2.1) (v := e32) (id := 329) (sz := 1) (T := 3) (off := 0) (n := 0) (d := Ti e32) (ds := []) sc3 rfl (by kernel_rfl) (by kernel_rfl) he32 (by kernel_rfl)) 138 rfl ?_
       refine DR 5 ?_
       refine DE_0 8 (.po 329 1 (Int.toNat (1)) 0) (by kernel_rfl) rfl rfl rfl (gsat_none rfl) (by kernel_rfl) (Y0_idxoM (c := c3) (xs := y6.2.1) (v := e33) (id := 329) (T := 3) (sz := 1) (n := 1) Try.underlying47 sz3 rfl (by kernel_rfl) (by kernel_rfl) (by kernel_rfl) he33) 144 rfl ?_
       refine DE_0 9 (I e34) (by kernel_rfl) rfl rfl rfl (gsat_none rfl) (by kernel_rfl) (Y0_loado1 (c := c3) (xs := y6.2.1) (v := e34) (id := 329) (sz := 1) (T := 3) (off := 0) (n := 1) (d := Ti e34) (ds := []) sc3 rfl (by kernel_rfl) (by kernel_rfl) he34 (by kernel_rfl)) 145 rfl ?_
       refine DR 6 ?_
       refine DE_0 16 (.po 329 1 (Int.toNat (2)) 0) (by kernel_rfl) rfl rfl rfl (gsat_none rfl) (by kernel_rfl) (Y0_idxoM (c := c3) (xs := y6.2.1) (v := e35) (id := 329) (T := 3) (sz := 1) (n := 2) Try.underlying47 sz3 rfl (by kernel_rfl) (by kernel_rfl) (by kernel_rfl) he35) 152 rfl ?_
       refine DE_0 17 (I e36) (by kernel_rfl) rfl rfl rfl (gsat_none rfl) (by kernel_rfl) (Y0_loado1 (c := c3) (xs := y6.2.1) (v := e36) (id := 329) (sz := 1) (T := 3) (off := 0) (n := 2) (d := Ti e36) (ds := []) sc3 rfl (by kernel_rfl) (by kernel_rfl) he36 (by kernel_rfl)) 153 rfl ?_
       refine DR 6 ?_
       refine DE_0 24 (.po 329 1 (Int.toNat (3)) 0) (by kernel_rfl) rfl rfl rfl (gsat_none rfl) (by kernel_rfl) (Y0_idxoM (c := c3) (xs := y6.2.1) (v := e37) (id := 329) (T := 3) (sz := 1) (n := 3) Try.underlying47 sz3 rfl (by kernel_rfl) (by kernel_rfl) (by kernel_rfl) he37) 160 rfl ?_
       refine DE_0 25 (I e38) (by kernel_rfl) rfl rfl rfl (gsat_none rfl) (by kernel_rfl) (Y0_loado1 (c := c3) (xs := y6.2.1) (v := e38) (id := 329) (sz := 1) (T := 3) (off := 0) (n := 3) (d := Ti e38) (ds := []) sc3 rfl (by kernel_rfl) (by kernel_rfl) he38 (by kernel_rfl)) 161 rfl ?_
       refine DA 6 ?_
       refine XL_nil ?_
       subst hp39
       kernel_rfl
      obtain ⟨e40, he40, h⟩ := of_bind h
      obtain ⟨e41, he41, h⟩ := of_bind h
      obtain ⟨e42, he42, h⟩ := of_bind h
      obtain ⟨e43, he43, h⟩ := of_bind h
      obtain ⟨e44, he44, h⟩ := of_bind h
      obtain ⟨e45, he45, h⟩ := of_bind h
      obtain ⟨e46, he46, h⟩ := of_bind h
      obtain ⟨e47, he47, h⟩ := of_bind h
      obtain ⟨q48, hq48, h⟩ := of_sI h
      refine V_sdreg [0, 1, 3, 0, 15, 0, 63, 0, 128, 384, 0, 1920, 0, 8064, 16383, 0, 32768, 98304, 0, 491520, 0, 2064384, 4194303, 0, 8388608, 25165824, 0, 125829120, 0, 528482304, 1073741823, 2147483647] 32 (cdm 32 [768579151495596160, 768579151495596161, 768579151495596165, 768579151495596074, 768579151495596117, 768579151495594666, 768579151495595349, 768579151352310442, 768579151352326826, 768579151352392362, 768579151350901418, 768579151351605930, 768579151327832746, 768579151339023018, 768579151406126421, 768569761086483114, 768569762160224938, 768569766455192234, 768569668744686250, 768569714915584682, 768568156916198058, 768568890281863850, 768573287970461013, 153169299826715306, 153239668570892970, 153521143547603626, 147117587827436202, 150143443827075754, 48038396025285290, 96100248298629802, 384307168202282325, 1537228672809129301]) (mb 220 264241280) [56] (s1 := ⟨bt 7 (.pt 56 0 :: bt 14 (I y29.1 :: Bo y29.2 :: I y30.1 :: Bo y30.2 :: I p39 :: I q48 :: bt 192 [])), [(56, .box [Ti y6.1.1, Ti y6.1.2.1, Ti y6.1.2.2])]⟩) (by kernel_rfl) (by kernel_rfl) ?_ ?_
      ·refine DR 1 ?_
       refine DE_0 1 (.po 329 1 (Int.toNat (4)) 0) (by kernel_rfl) rfl rfl rfl (gsat_none rfl) (by kernel_rfl) (Y0_idxoM (c := c3) (xs := y6.2.1) (v := e40) (id := 329) (T := 3) (sz := 1) (n := 4) Try.underlying47 sz3 rfl (by kernel_rfl) (by kernel_rfl) (by kernel_rfl) he40) 168 rfl ?_
       refine DE_0 2 (I e41) (by kernel_rfl) rfl rfl rfl (gsat_none rfl) (by kernel_rfl) (Y0_loado1 (c := c3) (xs := y6.2.1) (v := e41) (id := 329) (sz := 1) (T := 3) (off := 0) (n := 4) (d := Ti e41) (ds := []) sc3 rfl (by kernel_rfl) (by kernel_rfl) he41 (by kernel_rfl)) 169 rfl ?_
       refine DR 5 ?_
       refine DE_0 8 (.po 329 1 (Int.toNat (5)) 0) (by kernel_rfl) rfl rfl rfl (gsat_none rfl) (by kernel_rfl) (Y0_idxoM (c := c3) (xs := y6.2.1) (v := e42) (id := 329) (T := 3) (sz := 1) (n := 5) Try.underlying47 sz3 rfl (by kernel_rfl) (by kernel_rfl) (by kernel_rfl) he42) 175 rfl ?_
       refine DE_0 9 (I e43) (by kernel_rfl) rfl rfl rfl (gsat_none rfl) (by kernel_rfl) (Y0_loado1 (c := c3) (xs := y6.2.1) (v := e43) (id := 329) (sz := 1) (T := 3) (off := 0) (n := 5) (d := Ti e43) (ds := []) sc3 rfl (by kernel_rfl) (by kernel_rfl) he43 (by kernel_rfl)) 176 rfl ?_
       refine DR 6 ?_
       refine DE_0 16 (.po 329 1 (Int.toNat (6)) 0) (by kernel_rfl) rfl rfl rfl (gsat_none rfl) (by kernel_rfl) (Y0_idxoM (c := c3) (xs := y6.2.1) (v := e44) (id := 329) (T := 3) (sz := 1) (n := 6) Try.underlying47 sz3 rfl (by kernel_rfl) (by kernel_rfl) (by kernel_rfl) he44) 183 rfl ?_
       refine DE_0 17 (I e45) (by kernel_rfl) rfl rfl rfl (gsat_none rfl) (by kernel_rfl) (Y0_loado1 (c := c3) (xs := y6.2.1) (v := e45) (id := 329) (sz := 1) (T := 3) (off := 0) (n := 6) (d := Ti e45) (ds := []) sc3 rfl (by kernel_rfl) (by kernel_rfl) he45 (by kernel_rfl)) 184 rfl ?_
       refine DR 6 ?_
       refine DE_0 24 (.po 329 1 (Int.toNat (7)) 0) (by kernel_rfl) rfl rfl rfl (gsat_none rfl) (by kernel_rfl) (Y0_idxoM (c := c3) (xs := y6.2.1) (v := e46) (id := 329) (T := 3) (sz := 1) (n := 7) Try.underlying47 sz3 rfl (by kernel_rfl) (by kernel_rfl) (by kernel_rfl) he46) 191 rfl ?_
       refine DE_0 25 (I e47) (by kernel_rfl) rfl rfl rfl (gsat_none rfl) (by kernel_rfl) (Y0_loado1 (c := c3) (xs := y6.2.1) (v := e47) (id := 329) (sz := 1) (T := 3) (off := 0) (n := 7) (d := Ti e47) (ds := []) sc3 rfl (by kernel_rfl) (by kernel_rfl) he47 (by kernel_rfl)) 192 rfl ?_
       refine DA 6 ?_
       refine XL_nil ?_
       subst hq48
       kernel_rfl
      refine V_seq ?_
      refine V_sreg (mb 220 12855504354071922204335696738729300820177623950262342904709248) [56] (s1 := ⟨bt 7 (.pt 56 0 :: bt 14 (I y29.1 :: .bot :: I y30.1 :: .bot :: I p39 :: I q48 :: bt 175 (Bo (bif (!y29.2) then true else (!y30.2)) :: bt 16 []))), [(56, .box [Ti y6.1.1, Ti y6.1.2.1, Ti y6.1.2.2])]⟩) ?_ ?_
      ·refine XR 3 ?_
       refine XL_split (!y29.2) (fun hc49 => ?_) (fun hc49 => ?_)
       ·refine XL_skipF _ rfl rfl (by kernel_rfl) hc49 rfl ?_
        refine XL_skipF _ rfl rfl (by kernel_rfl) hc49 rfl ?_
        refine XL_cons rfl (X_of_Y0 rfl (Y0_pick1 (b := !y29.2) (p := true) (q := !y30.2) rfl (by kernel_rfl) hc49 (by kernel_rfl))) ?_
        exact XE
       ·refine XL_takeC _ rfl rfl (by kernel_rfl) hc49 (X_of_Y0 rfl (E_move (Bo y30.2) rfl (by kernel_rfl))) ?_
        refine XL_takeC _ rfl rfl (by kernel_rfl) hc49 (X_of_Y0 rfl (Y0_not (b := y30.2) rfl (by kernel_rfl))) ?_
        refine XL_cons rfl (X_of_Y0 rfl (Y0_pick0 (b := !y29.2) (p := true) (q := !y30.2) rfl (by kernel_rfl) hc49 (by kernel_rfl))) ?_
        exact XE
      refine V_cond rfl (fun hc50 => ?_) (fun hc50 => ?_)
      ·have h := of_true h hc50
       refine V_e (mb 220 16) [] (s1 := ⟨bt 4 (Bo false :: bt 215 []), []⟩) ?_
       refine V_ret ?_
       obtain rfl := some_inj h
       show Post _ _ _ _ _
       exact ⟨.inr rfl, rfl, rfl, rfl⟩
      ·have h := of_false h hc50
       refine V_skip ?_
       show V _ _ _ _
       obtain ⟨y51, hy51, h⟩ := of_bind h
       refine V_sreg (mb 220 826277888) [] (s1 := ⟨bt 22 (I y29.1 :: .bot :: I y30.1 :: bt 3 (I y51.1 :: Bo y51.2 :: bt 190 [])), []⟩) ?_ ?_
       ·refine XR 3 ?_
        refine XC (s_impl_ValueAt hy51) cf_impl_ValueAt rfl rfl rfl ?_
        exact XE
       obtain ⟨t53, ht53, h⟩ := of_bind h
       have ht53 := some_inj ht53
       refine V_sreg (mb 220 16) [] (s1 := ⟨bt 4 (Bo t53 :: bt 215 []), []⟩) ?_ ?_
       ·refine XR 3 ?_
        refine XL_split (!y51.2) (fun hc52 => ?_) (fun hc52 => ?_)
        ·refine XL_skipF _ rfl rfl (by kernel_rfl) hc52 rfl ?_
         refine XL_skipF _ rfl rfl (by kernel_rfl) hc52 rfl ?_
         refine XL_skipF _ rfl rfl (by kernel_rfl) hc52 rfl ?_
         refine XL_skipF _ rfl rfl (by kernel_rfl) hc52 rfl ?_
         refine XL_skipF _ rfl rfl (by kernel_rfl) hc52 rfl ?_
         refine XL_cons rfl (X_of_Y0 rfl (Y0_pick1 (b := !y51.2) (p := true) (q := eqI y51.1 (w64 (y29.1 * y30.1))) rfl (by kernel_rfl) hc52 (by kernel_rfl))) ?_
         refine XR 1 ?_
         refine XL_nil ?_
         subst ht53
         kernel_rfl
        ·refine XL_takeC _ rfl rfl (by kernel_rfl) hc52 (X_of_Y0 rfl (E_move (I y51.1) rfl (by kernel_rfl))) ?_
         refine XL_takeC _ rfl rfl (by kernel_rfl) hc52 (X_of_Y0 rfl (E_move (I y29.1) rfl (by kernel_rfl))) ?_
         refine XL_takeC _ rfl rfl (by kernel_rfl) hc52 (X_of_Y0 rfl (E_move (I y30.1) rfl (by kernel_rfl))) ?_
         refine XL_takeC _ rfl rfl (by kernel_rfl) hc52 (X_of_Y0 rfl (Y0_mul64 (a := y29.1) (b := y30.1) rfl (by kernel_rfl) (by kernel_rfl))) ?_
         refine XL_takeC _ rfl rfl (by kernel_rfl) hc52 (X_of_Y0 rfl (Y0_eqw (k := .i64) (a := y51.1) (b := w64 (y29.1 * y30.1)) rfl (by kernel_rfl) (by kernel_rfl))) ?_
         refine XL_cons rfl (X_of_Y0 rfl (Y0_pick0 (b := !y51.2) (p := true) (q := eqI y51.1 (w64 (y29.1 * y30.1))) rfl (by kernel_rfl) hc52 (by kernel_rfl))) ?_
         refine XR 1 ?_
         refine XL_nil ?_
         subst ht53
         kernel_rfl
       refine V_ret ?_
       obtain rfl := some_inj h
       show Post _ _ _ _ _
       exact ⟨.inr rfl, rfl, rfl, rfl⟩
end Go.Proofs.Ytafomkclmkfjeaa
