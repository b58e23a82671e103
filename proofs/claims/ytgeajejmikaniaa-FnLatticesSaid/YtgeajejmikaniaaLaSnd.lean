/-
  The functions of the program compute what the plain functions say: more of them.
  Conditions: none.
-/
import Derived.Test.YtgeajejmikaniaaLaSnd2
namespace Go.Proofs.Ytgeajejmikaniaa
open Go.RowKit
set_option linter.unusedVariables false
set_option linter.unusedSimpArgs false
theorem cf_laws_FnLattices : ∀ args w, (callFunc 3 args).run Try.prog w = .ok (.enter 3 args) w := run_callFunc Try.func3 (by kernel_rfl) (by kernel_rfl)
set_option maxRecDepth 100000 in
set_option maxHeartbeats 400000 in
theorem s_laws_FnLattices {code1 : List Int} {more2 : List Int} {r : Bool} (h : r_laws_FnLattices code1 more2 = some r) : CallS Try.prog 3 [.c (.sl (code1.map c5)), .c (.sl (more2.map c5))] (Bo r) [] := by
  refine CallS_of_text (rs := [.t 4]) (vs := [.tmp 4]) Try.func3 rfl rfl (.cons rfl FitsL.nil) (by decide) 238 rfl ?_
  unfold r_laws_FnLattices at h
  show V _ _ ⟨.c (.sl (code1.map c5)) :: .c (.sl (more2.map c5)) :: bt 236 [], []⟩ _
  refine V_sreg (mb 238 3) [] (s1 := ⟨.c (.sl (code1.map c5)) :: .c (.sl (more2.map c5)) :: bt 236 [], []⟩) ?_ ?_
  ·refine L0 rfl rfl (E_assign (Bo false) rfl (by kernel_rfl)) ?_
   refine XL_nil ?_
   kernel_rfl
  refine V_seq ?_
  obtain ⟨y3, hy3, h⟩ := of_bind h
  refine V_sreg (mb 238 549755813891) [] (s1 := ⟨.c (.sl (code1.map c5)) :: .c (.sl (more2.map c5)) :: bt 37 (Bo y3 :: bt 198 []), []⟩) ?_ ?_
  ·refine L0 rfl rfl (E_move (.c (.sl (code1.map c5))) rfl (by kernel_rfl)) ?_
   refine L0 rfl rfl (E_move (.c (.sl (more2.map c5))) rfl (by kernel_rfl)) ?_
   refine L1 rfl rfl (Y1_call (s_laws_big hy3) cf_laws_big rfl (by kernel_rfl)) ?_
   refine XL_nil ?_
   kernel_rfl
  refine V_cond rfl (fun hc4 => ?_) (fun hc4 => ?_)
  ·have h := of_true h hc4
   refine V_sreg (mb 238 16) [] (s1 := ⟨bt 4 (Bo true :: bt 233 []), []⟩) ?_ ?_
   ·refine L0 rfl rfl (E_assign (Bo true) rfl (by kernel_rfl)) ?_
    refine XL_nil ?_
    kernel_rfl
   refine V_ret ?_
   obtain rfl := some_inj h
   show Post _ _ _ _ _
   exact ⟨.inr rfl, rfl, rfl, rfl⟩
  ·have h := of_false h hc4
   refine V_skip ?_
   show V _ _ _ _
   obtain ⟨y5, hy5, h⟩ := of_bind h
   refine V_sreg (mb 238 98) [48, 40] (s1 := ⟨.bot :: .c (.sl (more2.map c5)) :: bt 3 (.pt 40 0 :: .pt 48 0 :: bt 231 []), [(48, .box [Ti y5.2.1, Ti y5.2.2.1, Ti y5.2.2.2]), (40, .box [Ti y5.1.1, Ti y5.1.2.1, Ti y5.1.2.2])]⟩) ?_ ?_
   ·refine L0 rfl rfl (E_move (.c (.sl (code1.map c5))) rfl (by kernel_rfl)) ?_
    refine L1 rfl rfl (Y1_call (s_spec_DrawMeetOfLattices hy5) cf_spec_DrawMeetOfLattices rfl (by kernel_rfl)) ?_
    refine L0 rfl rfl (E_move (.tc (.ag [Ti y5.1.1, Ti y5.1.2.1, Ti y5.1.2.2]) (.tc (.ag [Ti y5.2.1, Ti y5.2.2.1, Ti y5.2.2.2]) .tn)) rfl (by kernel_rfl)) ?_
    refine L0 rfl rfl (E_ext (n := 0) (.ag [Ti y5.1.1, Ti y5.1.2.1, Ti y5.1.2.2]) (.tc (.ag [Ti y5.2.1, Ti y5.2.2.1, Ti y5.2.2.2]) .tn) (.ag [Ti y5.1.1, Ti y5.1.2.1, Ti y5.1.2.2]) rfl (by kernel_rfl) (by kernel_rfl) (by intro hh; cases hh)) ?_
    refine L0 rfl rfl (E_ext (n := 1) (.ag [Ti y5.1.1, Ti y5.1.2.1, Ti y5.1.2.2]) (.tc (.ag [Ti y5.2.1, Ti y5.2.2.1, Ti y5.2.2.2]) .tn) (.ag [Ti y5.2.1, Ti y5.2.2.1, Ti y5.2.2.2]) rfl (by kernel_rfl) (by kernel_rfl) (by intro hh; cases hh)) ?_
    refine L1 rfl rfl (Y1_alloc (z := zv25) rfl zf25 rfl) ?_
    refine L1 rfl rfl (Y1_alloc (z := zv25) rfl zf25 rfl) ?_
    refine XL_cons rfl (E_store (id := 40) (off := 0) (cs := [Ti 0, Ti 0, Ti 0]) (vc := [Ti y5.1.1, Ti y5.1.2.1, Ti y5.1.2.2]) [Ti y5.1.1, Ti y5.1.2.1, Ti y5.1.2.2] rfl rfl (by kernel_rfl) (by kernel_rfl) (by kernel_rfl) sz25 (Nat.le_of_ble_eq_true rfl) (by kernel_rfl)) ?_
    refine XL_cons rfl (E_store (id := 48) (off := 0) (cs := [Ti 0, Ti 0, Ti 0]) (vc := [Ti y5.2.1, Ti y5.2.2.1, Ti y5.2.2.2]) [Ti y5.2.1, Ti y5.2.2.1, Ti y5.2.2.2] rfl rfl (by kernel_rfl) (by kernel_rfl) (by kernel_rfl) sz25 (Nat.le_of_ble_eq_true rfl) (by kernel_rfl)) ?_
    refine XL_nil ?_
    kernel_rfl
   obtain ⟨y6, hy6, h⟩ := of_bind h
   refine V_sreg (mb 238 482) [56, 48, 40] (s1 := ⟨.bot :: .c (.sl (more2.map c5)) :: bt 3 (.pt 40 0 :: .pt 48 0 :: .pt 56 0 :: Bo y6.2 :: bt 229 []), [(56, .box [Ti y6.1.1, Ti y6.1.2.1, Ti y6.1.2.2]), (48, .box [Ti y5.2.1, Ti y5.2.2.1, Ti y5.2.2.2]), (40, .box [Ti y5.1.1, Ti y5.1.2.1, Ti y5.1.2.2])]⟩) ?_ ?_
   ·refine L0 rfl rfl (E_loadn (cs := [Ti y5.1.1, Ti y5.1.2.1, Ti y5.1.2.2]) [Ti y5.1.1, Ti y5.1.2.1, Ti y5.1.2.2] wd25 rfl (by kernel_rfl) (Nat.le_of_ble_eq_true rfl) (by kernel_rfl)) ?_
    refine L0 rfl rfl (E_loadn (cs := [Ti y5.2.1, Ti y5.2.2.1, Ti y5.2.2.2]) [Ti y5.2.1, Ti y5.2.2.1, Ti y5.2.2.2] wd25 rfl (by kernel_rfl) (Nat.le_of_ble_eq_true rfl) (by kernel_rfl)) ?_
    refine L1 rfl rfl (Y1_call (s_impl_MeetOfLattices hy6) cf_impl_MeetOfLattices rfl (by kernel_rfl)) ?_
    refine L0 rfl rfl (E_move (.tc (.ag [Ti y6.1.1, Ti y6.1.2.1, Ti y6.1.2.2]) (.tc (Bo y6.2) .tn)) rfl (by kernel_rfl)) ?_
    refine L0 rfl rfl (E_ext (n := 0) (.ag [Ti y6.1.1, Ti y6.1.2.1, Ti y6.1.2.2]) (.tc (Bo y6.2) .tn) (.ag [Ti y6.1.1, Ti y6.1.2.1, Ti y6.1.2.2]) rfl (by kernel_rfl) (by kernel_rfl) (by intro hh; cases hh)) ?_
    refine L0 rfl rfl (E_ext (n := 1) (.ag [Ti y6.1.1, Ti y6.1.2.1, Ti y6.1.2.2]) (.tc (Bo y6.2) .tn) (Bo y6.2) rfl (by kernel_rfl) (by kernel_rfl) (by intro hh; cases hh)) ?_
    refine L1 rfl rfl (Y1_alloc (z := zv25) rfl zf25 rfl) ?_
    refine XL_cons rfl (E_store (id := 56) (off := 0) (cs := [Ti 0, Ti 0, Ti 0]) (vc := [Ti y6.1.1, Ti y6.1.2.1, Ti y6.1.2.2]) [Ti y6.1.1, Ti y6.1.2.1, Ti y6.1.2.2] rfl rfl (by kernel_rfl) (by kernel_rfl) (by kernel_rfl) sz25 (Nat.le_of_ble_eq_true rfl) (by kernel_rfl)) ?_
    refine L0 rfl rfl (E_assign (Bo y6.2) rfl (by kernel_rfl)) ?_
    refine XL_nil ?_
    kernel_rfl
   obtain ⟨y7, hy7, h⟩ := of_bind h
   refine V_sreg (mb 238 2018) [72, 56, 48, 40] (s1 := ⟨.bot :: .c (.sl (more2.map c5)) :: bt 3 (.pt 40 0 :: .pt 48 0 :: .pt 56 0 :: Bo y6.2 :: .pt 72 0 :: Bo y7.2 :: bt 227 []), [(72, .box [Ti y7.1.1, Ti y7.1.2.1, Ti y7.1.2.2]), (56, .box [Ti y6.1.1, Ti y6.1.2.1, Ti y6.1.2.2]), (48, .box [Ti y5.2.1, Ti y5.2.2.1, Ti y5.2.2.2]), (40, .box [Ti y5.1.1, Ti y5.1.2.1, Ti y5.1.2.2])]⟩) ?_ ?_
   ·refine L0 rfl rfl (E_loadn (cs := [Ti y5.1.1, Ti y5.1.2.1, Ti y5.1.2.2]) [Ti y5.1.1, Ti y5.1.2.1, Ti y5.1.2.2] wd25 rfl (by kernel_rfl) (Nat.le_of_ble_eq_true rfl) (by kernel_rfl)) ?_
    refine L0 rfl rfl (E_loadn (cs := [Ti y5.2.1, Ti y5.2.2.1, Ti y5.2.2.2]) [Ti y5.2.1, Ti y5.2.2.1, Ti y5.2.2.2] wd25 rfl (by kernel_rfl) (Nat.le_of_ble_eq_true rfl) (by kernel_rfl)) ?_
    refine L1 rfl rfl (Y1_call (s_spec_MeetOfLattices hy7) cf_spec_MeetOfLattices rfl (by kernel_rfl)) ?_
    refine L0 rfl rfl (E_move (.tc (.ag [Ti y7.1.1, Ti y7.1.2.1, Ti y7.1.2.2]) (.tc (Bo y7.2) .tn)) rfl (by kernel_rfl)) ?_
    refine L0 rfl rfl (E_ext (n := 0) (.ag [Ti y7.1.1, Ti y7.1.2.1, Ti y7.1.2.2]) (.tc (Bo y7.2) .tn) (.ag [Ti y7.1.1, Ti y7.1.2.1, Ti y7.1.2.2]) rfl (by kernel_rfl) (by kernel_rfl) (by intro hh; cases hh)) ?_
    refine L0 rfl rfl (E_ext (n := 1) (.ag [Ti y7.1.1, Ti y7.1.2.1, Ti y7.1.2.2]) (.tc (Bo y7.2) .tn) (Bo y7.2) rfl (by kernel_rfl) (by kernel_rfl) (by intro hh; cases hh)) ?_
    refine L1 rfl rfl (Y1_alloc (z := zv25) rfl zf25 rfl) ?_
    refine XL_cons rfl (E_store (id := 72) (off := 0) (cs := [Ti 0, Ti 0, Ti 0]) (vc := [Ti y7.1.1, Ti y7.1.2.1, Ti y7.1.2.2]) [Ti y7.1.1, Ti y7.1.2.1, Ti y7.1.2.2] rfl rfl (by kernel_rfl) (by kernel_rfl) (by kernel_rfl) sz25 (Nat.le_of_ble_eq_true rfl) (by kernel_rfl)) ?_
    refine L0 rfl rfl (E_assign (Bo y7.2) rfl (by kernel_rfl)) ?_
    refine XL_nil ?_
    kernel_rfl
   obtain ⟨y8, hy8, h⟩ := of_bind h
   refine V_sreg (mb 238 8162) [88, 72, 56, 48, 40] (s1 := ⟨.bot :: .c (.sl (more2.map c5)) :: bt 3 (.pt 40 0 :: .pt 48 0 :: .pt 56 0 :: Bo y6.2 :: .pt 72 0 :: Bo y7.2 :: .pt 88 0 :: Bo y8.2 :: bt 225 []), [(88, .box [Ti y8.1.1, Ti y8.1.2.1, Ti y8.1.2.2]), (72, .box [Ti y7.1.1, Ti y7.1.2.1, Ti y7.1.2.2]), (56, .box [Ti y6.1.1, Ti y6.1.2.1, Ti y6.1.2.2]), (48, .box [Ti y5.2.1, Ti y5.2.2.1, Ti y5.2.2.2]), (40, .box [Ti y5.1.1, Ti y5.1.2.1, Ti y5.1.2.2])]⟩) ?_ ?_
   ·refine L0 rfl rfl (E_loadn (cs := [Ti y5.1.1, Ti y5.1.2.1, Ti y5.1.2.2]) [Ti y5.1.1, Ti y5.1.2.1, Ti y5.1.2.2] wd25 rfl (by kernel_rfl) (Nat.le_of_ble_eq_true rfl) (by kernel_rfl)) ?_
    refine L0 rfl rfl (E_loadn (cs := [Ti y5.2.1, Ti y5.2.2.1, Ti y5.2.2.2]) [Ti y5.2.1, Ti y5.2.2.1, Ti y5.2.2.2] wd25 rfl (by kernel_rfl) (Nat.le_of_ble_eq_true rfl) (by kernel_rfl)) ?_
    refine L1 rfl rfl (Y1_call (s_impl_SumOfLattices hy8) cf_impl_SumOfLattices rfl (by kernel_rfl)) ?_
    refine L0 rfl rfl (E_move (.tc (.ag [Ti y8.1.1, Ti y8.1.2.1, Ti y8.1.2.2]) (.tc (Bo y8.2) .tn)) rfl (by kernel_rfl)) ?_
    refine L0 rfl rfl (E_ext (n := 0) (.ag [Ti y8.1.1, Ti y8.1.2.1, Ti y8.1.2.2]) (.tc (Bo y8.2) .tn) (.ag [Ti y8.1.1, Ti y8.1.2.1, Ti y8.1.2.2]) rfl (by kernel_rfl) (by kernel_rfl) (by intro hh; cases hh)) ?_
    refine L0 rfl rfl (E_ext (n := 1) (.ag [Ti y8.1.1, Ti y8.1.2.1, Ti y8.1.2.2]) (.tc (Bo y8.2) .tn) (Bo y8.2) rfl (by kernel_rfl) (by kernel_rfl) (by intro hh; cases hh)) ?_
    refine L1 rfl rfl (Y1_alloc (z := zv25) rfl zf25 rfl) ?_
    refine XL_cons rfl (E_store (id := 88) (off := 0) (cs := [Ti 0, Ti 0, Ti 0]) (vc := [Ti y8.1.1, Ti y8.1.2.1, Ti y8.1.2.2]) [Ti y8.1.1, Ti y8.1.2.1, Ti y8.1.2.2] rfl rfl (by kernel_rfl) (by kernel_rfl) (by kernel_rfl) sz25 (Nat.le_of_ble_eq_true rfl) (by kernel_rfl)) ?_
    refine L0 rfl rfl (E_assign (Bo y8.2) rfl (by kernel_rfl)) ?_
    refine XL_nil ?_
    kernel_rfl
   obtain ⟨y9, hy9, h⟩ := of_bind h
   refine V_sreg (mb 238 32738) [104, 88, 72, 56, 48, 40] (s1 := ⟨.bot :: .c (.sl (more2.map c5)) :: bt 3 (.pt 40 0 :: .pt 48 0 :: .pt 56 0 :: Bo y6.2 :: .pt 72 0 :: Bo y7.2 :: .pt 88 0 :: Bo y8.2 :: .pt 104 0 :: Bo y9.2 :: bt 223 []), [(104, .box [Ti y9.1.1, Ti y9.1.2.1, Ti y9.1.2.2]), (88, .box [Ti y8.1.1, Ti y8.1.2.1, Ti y8.1.2.2]), (72, .box [Ti y7.1.1, Ti y7.1.2.1, Ti y7.1.2.2]), (56, .box [Ti y6.1.1, Ti y6.1.2.1, Ti y6.1.2.2]), (48, .box [Ti y5.2.1, Ti y5.2.2.1, Ti y5.2.2.2]), (40, .box [Ti y5.1.1, Ti y5.1.2.1, Ti y5.1.2.2])]⟩) ?_ ?_
   ·refine L0 rfl rfl (E_loadn (cs := [Ti y5.1.1, Ti y5.1.2.1, Ti y5.1.2.2]) [Ti y5.1.1, Ti y5.1.2.1, Ti y5.1.2.2] wd25 rfl (by kernel_rfl) (Nat.le_of_ble_eq_true rfl) (by kernel_rfl)) ?_
    refine L0 rfl rfl (E_loadn (cs := [Ti y5.2.1, Ti y5.2.2.1, Ti y5.2.2.2]) [Ti y5.2.1, Ti y5.2.2.1, Ti y5.2.2.2] wd25 rfl (by kernel_rfl) (Nat.le_of_ble_eq_true rfl) (by kernel_rfl)) ?_
    refine L1 rfl rfl (Y1_call (s_spec_SumOfLattices hy9) cf_spec_SumOfLattices rfl (by kernel_rfl)) ?_
    refine L0 rfl rfl (E_move (.tc (.ag [Ti y9.1.1, Ti y9.1.2.1, Ti y9.1.2.2]) (.tc (Bo y9.2) .tn)) rfl (by kernel_rfl)) ?_
    refine L0 rfl rfl (E_ext (n := 0) (.ag [Ti y9.1.1, Ti y9.1.2.1, Ti y9.1.2.2]) (.tc (Bo y9.2) .tn) (.ag [Ti y9.1.1, Ti y9.1.2.1, Ti y9.1.2.2]) rfl (by kernel_rfl) (by kernel_rfl) (by intro hh; cases hh)) ?_
    refine L0 rfl rfl (E_ext (n := 1) (.ag [Ti y9.1.1, Ti y9.1.2.1, Ti y9.1.2.2]) (.tc (Bo y9.2) .tn) (Bo y9.2) rfl (by kernel_rfl) (by kernel_rfl) (by intro hh; cases hh)) ?_
    refine L1 rfl rfl (Y1_alloc (z := zv25) rfl zf25 rfl) ?_
    refine XL_cons rfl (E_store (id := 104) (off := 0) (cs := [Ti 0, Ti 0, Ti 0]) (vc := [Ti y9.1.1, Ti y9.1.2.1, Ti y9.1.2.2]) [Ti y9.1.1, Ti y9.1.2.1, Ti y9.1.2.2] rfl rfl (by kernel_rfl) (by kernel_rfl) (by kernel_rfl) sz25 (Nat.le_of_ble_eq_true rfl) (by kernel_rfl)) ?_
    refine L0 rfl rfl (E_assign (Bo y9.2) rfl (by kernel_rfl)) ?_
    refine XL_nil ?_
    kernel_rfl
   refine V_seq ?_
   obtain ⟨t13, ht13, h⟩ := of_bind h
   have ht13 := some_inj ht13
   refine V_sreg (mb 238 77371252455336267181201890) [88, 56, 48, 40] (s1 := ⟨.bot :: .c (.sl (more2.map c5)) :: bt 3 (.pt 40 0 :: .pt 48 0 :: .pt 56 0 :: Bo y6.2 :: .bot :: .bot :: .pt 88 0 :: Bo y8.2 :: bt 73 (Bo t13 :: bt 151 [])), [(88, .box [Ti y8.1.1, Ti y8.1.2.1, Ti y8.1.2.2]), (56, .box [Ti y6.1.1, Ti y6.1.2.1, Ti y6.1.2.2]), (48, .box [Ti y5.2.1, Ti y5.2.2.1, Ti y5.2.2.2]), (40, .box [Ti y5.1.1, Ti y5.1.2.1, Ti y5.1.2.2])]⟩) ?_ ?_
   ·refine L0 rfl rfl (E_move (Bo y6.2) rfl (by kernel_rfl)) ?_
    refine L0 rfl rfl (E_move (Bo y7.2) rfl (by kernel_rfl)) ?_
    refine L0 rfl rfl (Y0_neb (a := y6.2) (b := y7.2) Try.underlying4 rfl (by kernel_rfl) (by kernel_rfl)) ?_
    refine L0 rfl rfl (E_move (Bo (y6.2 != y7.2)) rfl (by kernel_rfl)) ?_
    refine XL_split (y6.2 != y7.2) (fun hc10 => ?_) (fun hc10 => ?_)
    ·refine XL_skipF _ rfl rfl (by kernel_rfl) hc10 rfl ?_
     refine XL_skipF _ rfl rfl (by kernel_rfl) hc10 rfl ?_
     refine XL_skipF _ rfl rfl (by kernel_rfl) hc10 rfl ?_
     refine XL_cons rfl (X_of_Y0 rfl (Y0_pick1 (b := y6.2 != y7.2) (p := true) (q := !((y6.1.1 == y7.1.1) && ((y6.1.2.1 == y7.1.2.1) && (y6.1.2.2 == y7.1.2.2)))) rfl (by kernel_rfl) hc10 (by kernel_rfl))) ?_
     refine L0 rfl rfl (E_move (Bo (bif (y6.2 != y7.2) then true else (!((y6.1.1 == y7.1.1) && ((y6.1.2.1 == y7.1.2.1) && (y6.1.2.2 == y7.1.2.2)))))) rfl (by kernel_rfl)) ?_
     refine XL_split (bif (y6.2 != y7.2) then true else (!((y6.1.1 == y7.1.1) && ((y6.1.2.1 == y7.1.2.1) && (y6.1.2.2 == y7.1.2.2))))) (fun hc11 => ?_) (fun hc11 => ?_)
     ·refine XL_skipF _ rfl rfl (by kernel_rfl) hc11 rfl ?_
      refine XL_skipF _ rfl rfl (by kernel_rfl) hc11 rfl ?_
      refine XL_skipF _ rfl rfl (by kernel_rfl) hc11 rfl ?_
      refine XL_cons rfl (X_of_Y0 rfl (Y0_pick1 (b := bif (y6.2 != y7.2) then true else (!((y6.1.1 == y7.1.1) && ((y6.1.2.1 == y7.1.2.1) && (y6.1.2.2 == y7.1.2.2))))) (p := true) (q := y8.2 != y9.2) rfl (by kernel_rfl) hc11 (by kernel_rfl))) ?_
      refine L0 rfl rfl (E_move (Bo (bif (bif (y6.2 != y7.2) then true else (!((y6.1.1 == y7.1.1) && ((y6.1.2.1 == y7.1.2.1) && (y6.1.2.2 == y7.1.2.2))))) then true else (y8.2 != y9.2))) rfl (by kernel_rfl)) ?_
      refine XL_split (bif (bif (y6.2 != y7.2) then true else (!((y6.1.1 == y7.1.1) && ((y6.1.2.1 == y7.1.2.1) && (y6.1.2.2 == y7.1.2.2))))) then true else (y8.2 != y9.2)) (fun hc12 => ?_) (fun hc12 => ?_)
      ·refine XL_skipF _ rfl rfl (by kernel_rfl) hc12 rfl ?_
       refine XL_skipF _ rfl rfl (by kernel_rfl) hc12 rfl ?_
       refine XL_skipF _ rfl rfl (by kernel_rfl) hc12 rfl ?_
       refine XL_cons rfl (X_of_Y0 rfl (Y0_pick1 (b := bif (bif (y6.2 != y7.2) then true else (!((y6.1.1 == y7.1.1) && ((y6.1.2.1 == y7.1.2.1) && (y6.1.2.2 == y7.1.2.2))))) then true else (y8.2 != y9.2)) (p := true) (q := !((y8.1.1 == y9.1.1) && ((y8.1.2.1 == y9.1.2.1) && (y8.1.2.2 == y9.1.2.2)))) rfl (by kernel_rfl) hc12 (by kernel_rfl))) ?_
       refine XL_nil ?_
       subst ht13
       kernel_rfl
      ·refine XL_takeC _ rfl rfl (by kernel_rfl) hc12 (X_of_Y0 rfl (E_loadn (cs := [Ti y8.1.1, Ti y8.1.2.1, Ti y8.1.2.2]) [Ti y8.1.1, Ti y8.1.2.1, Ti y8.1.2.2] wd25 rfl (by kernel_rfl) (Nat.le_of_ble_eq_true rfl) (by kernel_rfl))) ?_
       refine XL_takeC _ rfl rfl (by kernel_rfl) hc12 (X_of_Y0 rfl (E_loadn (cs := [Ti y9.1.1, Ti y9.1.2.1, Ti y9.1.2.2]) [Ti y9.1.1, Ti y9.1.2.1, Ti y9.1.2.2] wd25 rfl (by kernel_rfl) (Nat.le_of_ble_eq_true rfl) (by kernel_rfl))) ?_
       refine XL_takeC _ rfl rfl (by kernel_rfl) hc12 (X_of_Y0 rfl (Y0_neg3 (a0 := y8.1.1) (b0 := y9.1.1) (a1 := y8.1.2.1) (b1 := y9.1.2.1) (a2 := y8.1.2.2) (b2 := y9.1.2.2) neg25 rfl (by kernel_rfl) (by kernel_rfl))) ?_
       refine XL_cons rfl (X_of_Y0 rfl (Y0_pick0 (b := bif (bif (y6.2 != y7.2) then true else (!((y6.1.1 == y7.1.1) && ((y6.1.2.1 == y7.1.2.1) && (y6.1.2.2 == y7.1.2.2))))) then true else (y8.2 != y9.2)) (p := true) (q := !((y8.1.1 == y9.1.1) && ((y8.1.2.1 == y9.1.2.1) && (y8.1.2.2 == y9.1.2.2)))) rfl (by kernel_rfl) hc12 (by kernel_rfl))) ?_
       refine XL_nil ?_
       subst ht13
       kernel_rfl
     ·refine XL_takeC _ rfl rfl (by kernel_rfl) hc11 (X_of_Y0 rfl (E_move (Bo y8.2) rfl (by kernel_rfl))) ?_
      refine XL_takeC _ rfl rfl (by kernel_rfl) hc11 (X_of_Y0 rfl (E_move (Bo y9.2) rfl (by kernel_rfl))) ?_
      refine XL_takeC _ rfl rfl (by kernel_rfl) hc11 (X_of_Y0 rfl (Y0_neb (a := y8.2) (b := y9.2) Try.underlying4 rfl (by kernel_rfl) (by kernel_rfl))) ?_
      refine XL_cons rfl (X_of_Y0 rfl (Y0_pick0 (b := bif (y6.2 != y7.2) then true else (!((y6.1.1 == y7.1.1) && ((y6.1.2.1 == y7.1.2.1) && (y6.1.2.2 == y7.1.2.2))))) (p := true) (q := y8.2 != y9.2) rfl (by kernel_rfl) hc11 (by kernel_rfl))) ?_
      refine L0 rfl rfl (E_move (Bo (bif (bif (y6.2 != y7.2) then true else (!((y6.1.1 == y7.1.1) && ((y6.1.2.1 == y7.1.2.1) && (y6.1.2.2 == y7.1.2.2))))) then true else (y8.2 != y9.2))) rfl (by kernel_rfl)) ?_
      refine XL_split (bif (bif (y6.2 != y7.2) then true else (!((y6.1.1 == y7.1.1) && ((y6.1.2.1 == y7.1.2.1) && (y6.1.2.2 == y7.1.2.2))))) then true else (y8.2 != y9.2)) (fun hc12 => ?_) (fun hc12 => ?_)
      ·refine XL_skipF _ rfl rfl (by kernel_rfl) hc12 rfl ?_
       refine XL_skipF _ rfl rfl (by kernel_rfl) hc12 rfl ?_
       refine XL_skipF _ rfl rfl (by kernel_rfl) hc12 rfl ?_
       refine XL_cons rfl (X_of_Y0 rfl (Y0_pick1 (b := bif (bif (y6.2 != y7.2) then true else (!((y6.1.1 == y7.1.1) && ((y6.1.2.1 == y7.1.2.1) && (y6.1.2.2 == y7.1.2.2))))) then true else (y8.2 != y9.2)) (p := true) (q := !((y8.1.1 == y9.1.1) && ((y8.1.2.1 == y9.1.2.1) && (y8.1.2.2 == y9.1.2.2)))) rfl (by kernel_rfl) hc12 (by kernel_rfl))) ?_
       refine XL_nil ?_
       subst ht13
       kernel_rfl
      ·refine XL_takeC _ rfl rfl (by kernel_rfl) hc12 (X_of_Y0 rfl (E_loadn (cs := [Ti y8.1.1, Ti y8.1.2.1, Ti y8.1.2.2]) [Ti y8.1.1, Ti y8.1.2.1, Ti y8.1.2.2] wd25 rfl (by kernel_rfl) (Nat.le_of_ble_eq_true rfl) (by kernel_rfl))) ?_
       refine XL_takeC _ rfl rfl (by kernel_rfl) hc12 (X_of_Y0 rfl (E_loadn (cs := [Ti y9.1.1, Ti y9.1.2.1, Ti y9.1.2.2]) [Ti y9.1.1, Ti y9.1.2.1, Ti y9.1.2.2] wd25 rfl (by kernel_rfl) (Nat.le_of_ble_eq_true rfl) (by kernel_rfl))) ?_
       refine XL_takeC _ rfl rfl (by kernel_rfl) hc12 (X_of_Y0 rfl (Y0_neg3 (a0 := y8.1.1) (b0 := y9.1.1) (a1 := y8.1.2.1) (b1 := y9.1.2.1) (a2 := y8.1.2.2) (b2 := y9.1.2.2) neg25 rfl (by kernel_rfl) (by kernel_rfl))) ?_
       refine XL_cons rfl (X_of_Y0 rfl (Y0_pick0 (b := bif (bif (y6.2 != y7.2) then true else (!((y6.1.1 == y7.1.1) && ((y6.1.2.1 == y7.1.2.1) && (y6.1.2.2 == y7.1.2.2))))) then true else (y8.2 != y9.2)) (p := true) (q := !((y8.1.1 == y9.1.1) && ((y8.1.2.1 == y9.1.2.1) && (y8.1.2.2 == y9.1.2.2)))) rfl (by kernel_rfl) hc12 (by kernel_rfl))) ?_
       refine XL_nil ?_
       subst ht13
       kernel_rfl
    ·refine XL_takeC _ rfl rfl (by kernel_rfl) hc10 (X_of_Y0 rfl (E_loadn (cs := [Ti y6.1.1, Ti y6.1.2.1, Ti y6.1.2.2]) [Ti y6.1.1, Ti y6.1.2.1, Ti y6.1.2.2] wd25 rfl (by kernel_rfl) (Nat.le_of_ble_eq_true rfl) (by kernel_rfl))) ?_
     refine XL_takeC _ rfl rfl (by kernel_rfl) hc10 (X_of_Y0 rfl (E_loadn (cs := [Ti y7.1.1, Ti y7.1.2.1, Ti y7.1.2.2]) [Ti y7.1.1, Ti y7.1.2.1, Ti y7.1.2.2] wd25 rfl (by kernel_rfl) (Nat.le_of_ble_eq_true rfl) (by kernel_rfl))) ?_
     refine XL_takeC _ rfl rfl (by kernel_rfl) hc10 (X_of_Y0 rfl (Y0_neg3 (a0 := y6.1.1) (b0 := y7.1.1) (a1 := y6.1.2.1) (b1 := y7.1.2.1) (a2 := y6.1.2.2) (b2 := y7.1.2.2) neg25 rfl (by kernel_rfl) (by kernel_rfl))) ?_
     refine XL_cons rfl (X_of_Y0 rfl (Y0_pick0 (b := y6.2 != y7.2) (p := true) (q := !((y6.1.1 == y7.1.1) && ((y6.1.2.1 == y7.1.2.1) && (y6.1.2.2 == y7.1.2.2)))) rfl (by kernel_rfl) hc10 (by kernel_rfl))) ?_
     refine L0 rfl rfl (E_move (Bo (bif (y6.2 != y7.2) then true else (!((y6.1.1 == y7.1.1) && ((y6.1.2.1 == y7.1.2.1) && (y6.1.2.2 == y7.1.2.2)))))) rfl (by kernel_rfl)) ?_
     refine XL_split (bif (y6.2 != y7.2) then true else (!((y6.1.1 == y7.1.1) && ((y6.1.2.1 == y7.1.2.1) && (y6.1.2.2 == y7.1.2.2))))) (fun hc11 => ?_) (fun hc11 => ?_)
     ·refine XL_skipF _ rfl rfl (by kernel_rfl) hc11 rfl ?_
      refine XL_skipF _ rfl rfl (by kernel_rfl) hc11 rfl ?_
      refine XL_skipF _ rfl rfl (by kernel_rfl) hc11 rfl ?_
      refine XL_cons rfl (X_of_Y0 rfl (Y0_pick1 (b := bif (y6.2 != y7.2) then true else (!((y6.1.1 == y7.1.1) && ((y6.1.2.1 == y7.1.2.1) && (y6.1.2.2 == y7.1.2.2))))) (p := true) (q := y8.2 != y9.2) rfl (by kernel_rfl) hc11 (by kernel_rfl))) ?_
      refine L0 rfl rfl (E_move (Bo (bif (bif (y6.2 != y7.2) then true else (!((y6.1.1 == y7.1.1) && ((y6.1.2.1 == y7.1.2.1) && (y6.1.2.2 == y7.1.2.2))))) then true else (y8.2 != y9.2))) rfl (by kernel_rfl)) ?_
      refine XL_split (bif (bif (y6.2 != y7.2) then true else (!((y6.1.1 == y7.1.1) && ((y6.1.2.1 == y7.1.2.1) && (y6.1.2.2 == y7.1.2.2))))) then true else (y8.2 != y9.2)) (fun hc12 => ?_) (fun hc12 => ?_)
      ·refine XL_skipF _ rfl rfl (by kernel_rfl) hc12 rfl ?_
       refine XL_skipF _ rfl rfl (by kernel_rfl) hc12 rfl ?_
       refine XL_skipF _ rfl rfl (by kernel_rfl) hc12 rfl ?_
       refine XL_cons rfl (X_of_Y0 rfl (Y0_pick1 (b := bif (bif (y6.2 != y7.2) then true else (!((y6.1.1 == y7.1.1) && ((y6.1.2.1 == y7.1.2.1) && (y6.1.2.2 == y7.1.2.2))))) then true else (y8.2 != y9.2)) (p := true) (q := !((y8.1.1 == y9.1.1) && ((y8.1.2.1 == y9.1.2.1) && (y8.1.2.2 == y9.1.2.2)))) rfl (by kernel_rfl) hc12 (by kernel_rfl))) ?_
       refine XL_nil ?_
       subst ht13
       kernel_rfl
      ·refine XL_takeC _ rfl rfl (by kernel_rfl) hc12 (X_of_Y0 rfl (E_loadn (cs := [Ti y8.1.1, Ti y8.1.2.1, Ti y8.1.2.2]) [Ti y8.1.1, Ti y8.1.2.1, Ti y8.1.2.2] wd25 rfl (by kernel_rfl) (Nat.le_of_ble_eq_true rfl) (by kernel_rfl))) ?_
       refine XL_takeC _ rfl rfl (by kernel_rfl) hc12 (X_of_Y0 rfl (E_loadn (cs := [Ti y9.1.1, Ti y9.1.2.1, Ti y9.1.2.2]) [Ti y9.1.1, Ti y9.1.2.1, Ti y9.1.2.2] wd25 rfl (by kernel_rfl) (Nat.le_of_ble_eq_true rfl) (by kernel_rfl))) ?_
       refine XL_takeC _ rfl rfl (by kernel_rfl) hc12 (X_of_Y0 rfl (Y0_neg3 (a0 := y8.1.1) (b0 := y9.1.1) (a1 := y8.1.2.1) (b1 := y9.1.2.1) (a2 := y8.1.2.2) (b2 := y9.1.2.2) neg25 rfl (by kernel_rfl) (by kernel_rfl))) ?_
       refine XL_cons rfl (X_of_Y0 rfl (Y0_pick0 (b := bif (bif (y6.2 != y7.2) then true else (!((y6.1.1 == y7.1.1) && ((y6.1.2.1 == y7.1.2.1) && (y6.1.2.2 == y7.1.2.2))))) then true else (y8.2 != y9.2)) (p := true) (q := !((y8.1.1 == y9.1.1) && ((y8.1.2.1 == y9.1.2.1) && (y8.1.2.2 == y9.1.2.2)))) rfl (by kernel_rfl) hc12 (by kernel_rfl))) ?_
       refine XL_nil ?_
       subst ht13
       kernel_rfl
     ·refine XL_takeC _ rfl rfl (by kernel_rfl) hc11 (X_of_Y0 rfl (E_move (Bo y8.2) rfl (by kernel_rfl))) ?_
      refine XL_takeC _ rfl rfl (by kernel_rfl) hc11 (X_of_Y0 rfl (E_move (Bo y9.2) rfl (by kernel_rfl))) ?_
      refine XL_takeC _ rfl rfl (by kernel_rfl) hc11 (X_of_Y0 rfl (Y0_neb (a := y8.2) (b := y9.2) Try.underlying4 rfl (by kernel_rfl) (by kernel_rfl))) ?_
      refine XL_cons rfl (X_of_Y0 rfl (Y0_pick0 (b := bif (y6.2 != y7.2) then true else (!((y6.1.1 == y7.1.1) && ((y6.1.2.1 == y7.1.2.1) && (y6.1.2.2 == y7.1.2.2))))) (p := true) (q := y8.2 != y9.2) rfl (by kernel_rfl) hc11 (by kernel_rfl))) ?_
      refine L0 rfl rfl (E_move (Bo (bif (bif (y6.2 != y7.2) then true else (!((y6.1.1 == y7.1.1) && ((y6.1.2.1 == y7.1.2.1) && (y6.1.2.2 == y7.1.2.2))))) then true else (y8.2 != y9.2))) rfl (by kernel_rfl)) ?_
      refine XL_split (bif (bif (y6.2 != y7.2) then true else (!((y6.1.1 == y7.1.1) && ((y6.1.2.1 == y7.1.2.1) && (y6.1.2.2 == y7.1.2.2))))) then true else (y8.2 != y9.2)) (fun hc12 => ?_) (fun hc12 => ?_)
      ·refine XL_skipF _ rfl rfl (by kernel_rfl) hc12 rfl ?_
       refine XL_skipF _ rfl rfl (by kernel_rfl) hc12 rfl ?_
       refine XL_skipF _ rfl rfl (by kernel_rfl) hc12 rfl ?_
       refine XL_cons rfl (X_of_Y0 rfl (Y0_pick1 (b := bif (bif (y6.2 != y7.2) then true else (!((y6.1.1 == y7.1.1) && ((y6.1.2.1 == y7.1.2.1) && (y6.1.2.2 == y7.1.2.2))))) then true else (y8.2 != y9.2)) (p := true) (q := !((y8.1.1 == y9.1.1) && ((y8.1.2.1 == y9.1.2.1) && (y8.1.2.2 == y9.1.2.2)))) rfl (by kernel_rfl) hc12 (by kernel_rfl))) ?_
       refine XL_nil ?_
       subst ht13
       kernel_rfl
      ·refine XL_takeC _ rfl rfl (by kernel_rfl) hc12 (X_of_Y0 rfl (E_loadn (cs := [Ti y8.1.1, Ti y8.1.2.1, Ti y8.1.2.2]) [Ti y8.1.1, Ti y8.1.2.1, Ti y8.1.2.2] wd25 rfl (by kernel_rfl) (Nat.le_of_ble_eq_true rfl) (by kernel_rfl))) ?_
       refine XL_takeC _ rfl rfl (by kernel_rfl) hc12 (X_of_Y0 rfl (E_loadn (cs := [Ti y9.1.1, Ti y9.1.2.1, Ti y9.1.2.2]) [Ti y9.1.1, Ti y9.1.2.1, Ti y9.1.2.2] wd25 rfl (by kernel_rfl) (Nat.le_of_ble_eq_true rfl) (by kernel_rfl))) ?_
       refine XL_takeC _ rfl rfl (by kernel_rfl) hc12 (X_of_Y0 rfl (Y0_neg3 (a0 := y8.1.1) (b0 := y9.1.1) (a1 := y8.1.2.1) (b1 := y9.1.2.1) (a2 := y8.1.2.2) (b2 := y9.1.2.2) neg25 rfl (by kernel_rfl) (by kernel_rfl))) ?_
       refine XL_cons rfl (X_of_Y0 rfl (Y0_pick0 (b := bif (bif (y6.2 != y7.2) then true else (!((y6.1.1 == y7.1.1) && ((y6.1.2.1 == y7.1.2.1) && (y6.1.2.2 == y7.1.2.2))))) then true else (y8.2 != y9.2)) (p := true) (q := !((y8.1.1 == y9.1.1) && ((y8.1.2.1 == y9.1.2.1) && (y8.1.2.2 == y9.1.2.2)))) rfl (by kernel_rfl) hc12 (by kernel_rfl))) ?_
       refine XL_nil ?_
       subst ht13
       kernel_rfl
   refine V_cond rfl (fun hc14 => ?_) (fun hc14 => ?_)
   ·have h := of_true h hc14
    refine V_sreg (mb 238 16) [] (s1 := ⟨bt 4 (Bo false :: bt 233 []), []⟩) ?_ ?_
    ·refine L0 rfl rfl (E_assign (Bo false) rfl (by kernel_rfl)) ?_
     refine XL_nil ?_
     kernel_rfl
    refine V_ret ?_
    obtain rfl := some_inj h
    show Post _ _ _ _ _
    exact ⟨.inr rfl, rfl, rfl, rfl⟩
   ·have h := of_false h hc14
    refine V_skip ?_
    show V _ _ _ _
    refine V_seq ?_
    refine V_sreg (mb 238 1237940039285380274899126498) [88, 56, 48, 40] (s1 := ⟨.bot :: .c (.sl (more2.map c5)) :: bt 3 (.pt 40 0 :: .pt 48 0 :: .pt 56 0 :: bt 3 (.pt 88 0 :: bt 78 (Bo (bif y6.2 then y8.2 else false) :: bt 147 []))), [(88, .box [Ti y8.1.1, Ti y8.1.2.1, Ti y8.1.2.2]), (56, .box [Ti y6.1.1, Ti y6.1.2.1, Ti y6.1.2.2]), (48, .box [Ti y5.2.1, Ti y5.2.2.1, Ti y5.2.2.2]), (40, .box [Ti y5.1.1, Ti y5.1.2.1, Ti y5.1.2.2])]⟩) ?_ ?_
    ·refine L0 rfl rfl (E_move (Bo y6.2) rfl (by kernel_rfl)) ?_
     refine L0 rfl rfl (E_move (Bo y6.2) rfl (by kernel_rfl)) ?_
     refine XL_split y6.2 (fun hc15 => ?_) (fun hc15 => ?_)
     ·refine XL_takeC _ rfl rfl (by kernel_rfl) hc15 (X_of_Y0 rfl (E_move (Bo y8.2) rfl (by kernel_rfl))) ?_
      refine XL_cons rfl (X_of_Y0 rfl (Y0_pick1 (b := y6.2) (p := y8.2) (q := false) rfl (by kernel_rfl) hc15 (by kernel_rfl))) ?_
      refine XL_nil ?_
      kernel_rfl
     ·refine XL_skipT _ rfl rfl (by kernel_rfl) hc15 rfl ?_
      refine XL_cons rfl (X_of_Y0 rfl (Y0_pick0 (b := y6.2) (p := y8.2) (q := false) rfl (by kernel_rfl) hc15 (by kernel_rfl))) ?_
      refine XL_nil ?_
      kernel_rfl
    refine V_cond rfl (fun hc16 => ?_) (fun hc16 => ?_)
    ·have h := of_true h hc16
     obtain ⟨y17, hy17, h⟩ := of_bind h
     refine V_sreg (mb 238 100578) [88, 56, 48, 40] (s1 := ⟨.bot :: .c (.sl (more2.map c5)) :: bt 3 (.pt 40 0 :: .pt 48 0 :: .pt 56 0 :: bt 3 (.pt 88 0 :: bt 3 (I y17.1 :: Bo y17.2 :: bt 221 []))), [(88, .box [Ti y8.1.1, Ti y8.1.2.1, Ti y8.1.2.2]), (56, .box [Ti y6.1.1, Ti y6.1.2.1, Ti y6.1.2.2]), (48, .box [Ti y5.2.1, Ti y5.2.2.1, Ti y5.2.2.2]), (40, .box [Ti y5.1.1, Ti y5.1.2.1, Ti y5.1.2.2])]⟩) ?_ ?_
     ·refine L0 rfl rfl (E_loadn (cs := [Ti y5.1.1, Ti y5.1.2.1, Ti y5.1.2.2]) [Ti y5.1.1, Ti y5.1.2.1, Ti y5.1.2.2] wd25 rfl (by kernel_rfl) (Nat.le_of_ble_eq_true rfl) (by kernel_rfl)) ?_
      refine L1 rfl rfl (Y1_call (s_impl_LatticeIndex hy17) cf_impl_LatticeIndex rfl (by kernel_rfl)) ?_
      refine L0 rfl rfl (E_move (.tc (I y17.1) (.tc (Bo y17.2) .tn)) rfl (by kernel_rfl)) ?_
      refine L0 rfl rfl (E_ext (n := 0) (I y17.1) (.tc (Bo y17.2) .tn) (I y17.1) rfl (by kernel_rfl) (by kernel_rfl) (by intro hh; cases hh)) ?_
      refine L0 rfl rfl (E_ext (n := 1) (I y17.1) (.tc (Bo y17.2) .tn) (Bo y17.2) rfl (by kernel_rfl) (by kernel_rfl) (by intro hh; cases hh)) ?_
      refine L0 rfl rfl (E_assign (I y17.1) rfl (by kernel_rfl)) ?_
      refine L0 rfl rfl (E_assign (Bo y17.2) rfl (by kernel_rfl)) ?_
      refine XL_nil ?_
      kernel_rfl
     obtain ⟨y18, hy18, h⟩ := of_bind h
     refine V_sreg (mb 238 493794) [88, 56, 48, 40] (s1 := ⟨.bot :: .c (.sl (more2.map c5)) :: bt 3 (.pt 40 0 :: .pt 48 0 :: .pt 56 0 :: bt 3 (.pt 88 0 :: bt 3 (I y17.1 :: Bo y17.2 :: I y18.1 :: Bo y18.2 :: bt 219 []))), [(88, .box [Ti y8.1.1, Ti y8.1.2.1, Ti y8.1.2.2]), (56, .box [Ti y6.1.1, Ti y6.1.2.1, Ti y6.1.2.2]), (48, .box [Ti y5.2.1, Ti y5.2.2.1, Ti y5.2.2.2]), (40, .box [Ti y5.1.1, Ti y5.1.2.1, Ti y5.1.2.2])]⟩) ?_ ?_
     ·refine L0 rfl rfl (E_loadn (cs := [Ti y5.2.1, Ti y5.2.2.1, Ti y5.2.2.2]) [Ti y5.2.1, Ti y5.2.2.1, Ti y5.2.2.2] wd25 rfl (by kernel_rfl) (Nat.le_of_ble_eq_true rfl) (by kernel_rfl)) ?_
      refine L1 rfl rfl (Y1_call (s_impl_LatticeIndex hy18) cf_impl_LatticeIndex rfl (by kernel_rfl)) ?_
      refine L0 rfl rfl (E_move (.tc (I y18.1) (.tc (Bo y18.2) .tn)) rfl (by kernel_rfl)) ?_
      refine L0 rfl rfl (E_ext (n := 0) (I y18.1) (.tc (Bo y18.2) .tn) (I y18.1) rfl (by kernel_rfl) (by kernel_rfl) (by intro hh; cases hh)) ?_
      refine L0 rfl rfl (E_ext (n := 1) (I y18.1) (.tc (Bo y18.2) .tn) (Bo y18.2) rfl (by kernel_rfl) (by kernel_rfl) (by intro hh; cases hh)) ?_
      refine L0 rfl rfl (E_assign (I y18.1) rfl (by kernel_rfl)) ?_
      refine L0 rfl rfl (E_assign (Bo y18.2) rfl (by kernel_rfl)) ?_
      refine XL_nil ?_
      kernel_rfl
     obtain ⟨y19, hy19, h⟩ := of_bind h
     refine V_sreg (mb 238 2066658) [88, 56, 48, 40] (s1 := ⟨.bot :: .c (.sl (more2.map c5)) :: bt 3 (.pt 40 0 :: .pt 48 0 :: .pt 56 0 :: bt 3 (.pt 88 0 :: bt 3 (I y17.1 :: Bo y17.2 :: I y18.1 :: Bo y18.2 :: I y19.1 :: Bo y19.2 :: bt 217 []))), [(88, .box [Ti y8.1.1, Ti y8.1.2.1, Ti y8.1.2.2]), (56, .box [Ti y6.1.1, Ti y6.1.2.1, Ti y6.1.2.2]), (48, .box [Ti y5.2.1, Ti y5.2.2.1, Ti y5.2.2.2]), (40, .box [Ti y5.1.1, Ti y5.1.2.1, Ti y5.1.2.2])]⟩) ?_ ?_
     ·refine L0 rfl rfl (E_loadn (cs := [Ti y6.1.1, Ti y6.1.2.1, Ti y6.1.2.2]) [Ti y6.1.1, Ti y6.1.2.1, Ti y6.1.2.2] wd25 rfl (by kernel_rfl) (Nat.le_of_ble_eq_true rfl) (by kernel_rfl)) ?_
      refine L1 rfl rfl (Y1_call (s_impl_LatticeIndex hy19) cf_impl_LatticeIndex rfl (by kernel_rfl)) ?_
      refine L0 rfl rfl (E_move (.tc (I y19.1) (.tc (Bo y19.2) .tn)) rfl (by kernel_rfl)) ?_
      refine L0 rfl rfl (E_ext (n := 0) (I y19.1) (.tc (Bo y19.2) .tn) (I y19.1) rfl (by kernel_rfl) (by kernel_rfl) (by intro hh; cases hh)) ?_
      refine L0 rfl rfl (E_ext (n := 1) (I y19.1) (.tc (Bo y19.2) .tn) (Bo y19.2) rfl (by kernel_rfl) (by kernel_rfl) (by intro hh; cases hh)) ?_
      refine L0 rfl rfl (E_assign (I y19.1) rfl (by kernel_rfl)) ?_
      refine L0 rfl rfl (E_assign (Bo y19.2) rfl (by kernel_rfl)) ?_
      refine XL_nil ?_
      kernel_rfl
     obtain ⟨y20, hy20, h⟩ := of_bind h
     refine V_sreg (mb 238 8358114) [88, 56, 48, 40] (s1 := ⟨.bot :: .c (.sl (more2.map c5)) :: bt 3 (.pt 40 0 :: .pt 48 0 :: .pt 56 0 :: bt 3 (.pt 88 0 :: bt 3 (I y17.1 :: Bo y17.2 :: I y18.1 :: Bo y18.2 :: I y19.1 :: Bo y19.2 :: I y20.1 :: Bo y20.2 :: bt 215 []))), [(88, .box [Ti y8.1.1, Ti y8.1.2.1, Ti y8.1.2.2]), (56, .box [Ti y6.1.1, Ti y6.1.2.1, Ti y6.1.2.2]), (48, .box [Ti y5.2.1, Ti y5.2.2.1, Ti y5.2.2.2]), (40, .box [Ti y5.1.1, Ti y5.1.2.1, Ti y5.1.2.2])]⟩) ?_ ?_
     ·refine L0 rfl rfl (E_loadn (cs := [Ti y8.1.1, Ti y8.1.2.1, Ti y8.1.2.2]) [Ti y8.1.1, Ti y8.1.2.1, Ti y8.1.2.2] wd25 rfl (by kernel_rfl) (Nat.le_of_ble_eq_true rfl) (by kernel_rfl)) ?_
      refine L1 rfl rfl (Y1_call (s_impl_LatticeIndex hy20) cf_impl_LatticeIndex rfl (by kernel_rfl)) ?_
      refine L0 rfl rfl (E_move (.tc (I y20.1) (.tc (Bo y20.2) .tn)) rfl (by kernel_rfl)) ?_
      refine L0 rfl rfl (E_ext (n := 0) (I y20.1) (.tc (Bo y20.2) .tn) (I y20.1) rfl (by kernel_rfl) (by kernel_rfl) (by intro hh; cases hh)) ?_
      refine L0 rfl rfl (E_ext (n := 1) (I y20.1) (.tc (Bo y20.2) .tn) (Bo y20.2) rfl (by kernel_rfl) (by kernel_rfl) (by intro hh; cases hh)) ?_
      refine L0 rfl rfl (E_assign (I y20.1) rfl (by kernel_rfl)) ?_
      refine L0 rfl rfl (E_assign (Bo y20.2) rfl (by kernel_rfl)) ?_
      refine XL_nil ?_
      kernel_rfl
     refine V_seq ?_
     obtain ⟨t25, ht25, h⟩ := of_bind h
     have ht25 := some_inj ht25
     refine V_sreg (mb 238 10889035741470030830827987437816582768866) [88, 56, 48, 40] (s1 := ⟨.bot :: .c (.sl (more2.map c5)) :: bt 3 (.pt 40 0 :: .pt 48 0 :: .pt 56 0 :: bt 3 (.pt 88 0 :: bt 121 (Bo t25 :: bt 104 []))), [(88, .box [Ti y8.1.1, Ti y8.1.2.1, Ti y8.1.2.2]), (56, .box [Ti y6.1.1, Ti y6.1.2.1, Ti y6.1.2.2]), (48, .box [Ti y5.2.1, Ti y5.2.2.1, Ti y5.2.2.2]), (40, .box [Ti y5.1.1, Ti y5.1.2.1, Ti y5.1.2.2])]⟩) ?_ ?_
     ·refine L0 rfl rfl (E_move (Bo y17.2) rfl (by kernel_rfl)) ?_
      refine L0 rfl rfl (Y0_not (b := y17.2) rfl (by kernel_rfl)) ?_
      refine L0 rfl rfl (E_move (Bo (!y17.2)) rfl (by kernel_rfl)) ?_
      refine XL_split (!y17.2) (fun hc21 => ?_) (fun hc21 => ?_)
      ·refine XL_skipF _ rfl rfl (by kernel_rfl) hc21 rfl ?_
       refine XL_skipF _ rfl rfl (by kernel_rfl) hc21 rfl ?_
       refine XL_cons rfl (X_of_Y0 rfl (Y0_pick1 (b := !y17.2) (p := true) (q := !y18.2) rfl (by kernel_rfl) hc21 (by kernel_rfl))) ?_
       refine L0 rfl rfl (E_move (Bo (bif (!y17.2) then true else (!y18.2))) rfl (by kernel_rfl)) ?_
       refine XL_split (bif (!y17.2) then true else (!y18.2)) (fun hc22 => ?_) (fun hc22 => ?_)
       ·refine XL_skipF _ rfl rfl (by kernel_rfl) hc22 rfl ?_
        refine XL_skipF _ rfl rfl (by kernel_rfl) hc22 rfl ?_
        refine XL_cons rfl (X_of_Y0 rfl (Y0_pick1 (b := bif (!y17.2) then true else (!y18.2)) (p := true) (q := !y19.2) rfl (by kernel_rfl) hc22 (by kernel_rfl))) ?_
        refine L0 rfl rfl (E_move (Bo (bif (bif (!y17.2) then true else (!y18.2)) then true else (!y19.2))) rfl (by kernel_rfl)) ?_
        refine XL_split (bif (bif (!y17.2) then true else (!y18.2)) then true else (!y19.2)) (fun hc23 => ?_) (fun hc23 => ?_)
        ·refine XL_skipF _ rfl rfl (by kernel_rfl) hc23 rfl ?_
         refine XL_skipF _ rfl rfl (by kernel_rfl) hc23 rfl ?_
         refine XL_cons rfl (X_of_Y0 rfl (Y0_pick1 (b := bif (bif (!y17.2) then true else (!y18.2)) then true else (!y19.2)) (p := true) (q := !y20.2) rfl (by kernel_rfl) hc23 (by kernel_rfl))) ?_
         refine L0 rfl rfl (E_move (Bo (bif (bif (bif (!y17.2) then true else (!y18.2)) then true else (!y19.2)) then true else (!y20.2))) rfl (by kernel_rfl)) ?_
         refine XL_split (bif (bif (bif (!y17.2) then true else (!y18.2)) then true else (!y19.2)) then true else (!y20.2)) (fun hc24 => ?_) (fun hc24 => ?_)
         ·refine XL_skipF _ rfl rfl (by kernel_rfl) hc24 rfl ?_
          refine XL_skipF _ rfl rfl (by kernel_rfl) hc24 rfl ?_
          refine XL_skipF _ rfl rfl (by kernel_rfl) hc24 rfl ?_
          refine XL_skipF _ rfl rfl (by kernel_rfl) hc24 rfl ?_
          refine XL_skipF _ rfl rfl (by kernel_rfl) hc24 rfl ?_
          refine XL_skipF _ rfl rfl (by kernel_rfl) hc24 rfl ?_
          refine XL_skipF _ rfl rfl (by kernel_rfl) hc24 rfl ?_
          refine XL_cons rfl (X_of_Y0 rfl (Y0_pick1 (b := bif (bif (bif (!y17.2) then true else (!y18.2)) then true else (!y19.2)) then true else (!y20.2)) (p := true) (q := !eqI (w64 (y17.1 * y18.1)) (w64 (y19.1 * y20.1))) rfl (by kernel_rfl) hc24 (by kernel_rfl))) ?_
          refine XL_nil ?_
          subst ht25
          kernel_rfl
         ·refine XL_takeC _ rfl rfl (by kernel_rfl) hc24 (X_of_Y0 rfl (E_move (I y17.1) rfl (by kernel_rfl))) ?_
          refine XL_takeC _ rfl rfl (by kernel_rfl) hc24 (X_of_Y0 rfl (E_move (I y18.1) rfl (by kernel_rfl))) ?_
          refine XL_takeC _ rfl rfl (by kernel_rfl) hc24 (X_of_Y0 rfl (Y0_mul64 (a := y17.1) (b := y18.1) rfl (by kernel_rfl) (by kernel_rfl))) ?_
          refine XL_takeC _ rfl rfl (by kernel_rfl) hc24 (X_of_Y0 rfl (E_move (I y19.1) rfl (by kernel_rfl))) ?_
          refine XL_takeC _ rfl rfl (by kernel_rfl) hc24 (X_of_Y0 rfl (E_move (I y20.1) rfl (by kernel_rfl))) ?_
          refine XL_takeC _ rfl rfl (by kernel_rfl) hc24 (X_of_Y0 rfl (Y0_mul64 (a := y19.1) (b := y20.1) rfl (by kernel_rfl) (by kernel_rfl))) ?_
          refine XL_takeC _ rfl rfl (by kernel_rfl) hc24 (X_of_Y0 rfl (Y0_new (k := .i64) (a := w64 (y17.1 * y18.1)) (b := w64 (y19.1 * y20.1)) rfl (by kernel_rfl) (by kernel_rfl))) ?_
          refine XL_cons rfl (X_of_Y0 rfl (Y0_pick0 (b := bif (bif (bif (!y17.2) then true else (!y18.2)) then true else (!y19.2)) then true else (!y20.2)) (p := true) (q := !eqI (w64 (y17.1 * y18.1)) (w64 (y19.1 * y20.1))) rfl (by kernel_rfl) hc24 (by kernel_rfl))) ?_
          refine XL_nil ?_
          subst ht25
          kernel_rfl
        ·refine XL_takeC _ rfl rfl (by kernel_rfl) hc23 (X_of_Y0 rfl (E_move (Bo y20.2) rfl (by kernel_rfl))) ?_
         refine XL_takeC _ rfl rfl (by kernel_rfl) hc23 (X_of_Y0 rfl (Y0_not (b := y20.2) rfl (by kernel_rfl))) ?_
         refine XL_cons rfl (X_of_Y0 rfl (Y0_pick0 (b := bif (bif (!y17.2) then true else (!y18.2)) then true else (!y19.2)) (p := true) (q := !y20.2) rfl (by kernel_rfl) hc23 (by kernel_rfl))) ?_
         refine L0 rfl rfl (E_move (Bo (bif (bif (bif (!y17.2) then true else (!y18.2)) then true else (!y19.2)) then true else (!y20.2))) rfl (by kernel_rfl)) ?_
         refine XL_split (bif (bif (bif (!y17.2) then true else (!y18.2)) then true else (!y19.2)) then true else (!y20.2)) (fun hc24 => ?_) (fun hc24 => ?_)
         ·refine XL_skipF _ rfl rfl (by kernel_rfl) hc24 rfl ?_
          refine XL_skipF _ rfl rfl (by kernel_rfl) hc24 rfl ?_
          refine XL_skipF _ rfl rfl (by kernel_rfl) hc24 rfl ?_
          refine XL_skipF _ rfl rfl (by kernel_rfl) hc24 rfl ?_
          refine XL_skipF _ rfl rfl (by kernel_rfl) hc24 rfl ?_
          refine XL_skipF _ rfl rfl (by kernel_rfl) hc24 rfl ?_
          refine XL_skipF _ rfl rfl (by kernel_rfl) hc24 rfl ?_
          refine XL_cons rfl (X_of_Y0 rfl (Y0_pick1 (b := bif (bif (bif (!y17.2) then true else (!y18.2)) then true else (!y19.2)) then true else (!y20.2)) (p := true) (q := !eqI (w64 (y17.1 * y18.1)) (w64 (y19.1 * y20.1))) rfl (by kernel_rfl) hc24 (by kernel_rfl))) ?_
          refine XL_nil ?_
          subst ht25
          kernel_rfl
         ·refine XL_takeC _ rfl rfl (by kernel_rfl) hc24 (X_of_Y0 rfl (E_move (I y17.1) rfl (by kernel_rfl))) ?_
          refine XL_takeC _ rfl rfl (by kernel_rfl) hc24 (X_of_Y0 rfl (E_move (I y18.1) rfl (by kernel_rfl))) ?_
          refine XL_takeC _ rfl rfl (by kernel_rfl) hc24 (X_of_Y0 rfl (Y0_mul64 (a := y17.1) (b := y18.1) rfl (by kernel_rfl) (by kernel_rfl))) ?_
          refine XL_takeC _ rfl rfl (by kernel_rfl) hc24 (X_of_Y0 rfl (E_move (I y19.1) rfl (by kernel_rfl))) ?_
          refine XL_takeC _ rfl rfl (by kernel_rfl) hc24 (X_of_Y0 rfl (E_move (I y20.1) rfl (by kernel_rfl))) ?_
          refine XL_takeC _ rfl rfl (by kernel_rfl) hc24 (X_of_Y0 rfl (Y0_mul64 (a := y19.1) (b := y20.1) rfl (by kernel_rfl) (by kernel_rfl))) ?_
          refine XL_takeC _ rfl rfl (by kernel_rfl) hc24 (X_of_Y0 rfl (Y0_new (k := .i64) (a := w64 (y17.1 * y18.1)) (b := w64 (y19.1 * y20.1)) rfl (by kernel_rfl) (by kernel_rfl))) ?_
          refine XL_cons rfl (X_of_Y0 rfl (Y0_pick0 (b := bif (bif (bif (!y17.2) then true else (!y18.2)) then true else (!y19.2)) then true else (!y20.2)) (p := true) (q := !eqI (w64 (y17.1 * y18.1)) (w64 (y19.1 * y20.1))) rfl (by kernel_rfl) hc24 (by kernel_rfl))) ?_
          refine XL_nil ?_
          subst ht25
          kernel_rfl
       ·refine XL_takeC _ rfl rfl (by kernel_rfl) hc22 (X_of_Y0 rfl (E_move (Bo y19.2) rfl (by kernel_rfl))) ?_
        refine XL_takeC _ rfl rfl (by kernel_rfl) hc22 (X_of_Y0 rfl (Y0_not (b := y19.2) rfl (by kernel_rfl))) ?_
        refine XL_cons rfl (X_of_Y0 rfl (Y0_pick0 (b := bif (!y17.2) then true else (!y18.2)) (p := true) (q := !y19.2) rfl (by kernel_rfl) hc22 (by kernel_rfl))) ?_
        refine L0 rfl rfl (E_move (Bo (bif (bif (!y17.2) then true else (!y18.2)) then true else (!y19.2))) rfl (by kernel_rfl)) ?_
        refine XL_split (bif (bif (!y17.2) then true else (!y18.2)) then true else (!y19.2)) (fun hc23 => ?_) (fun hc23 => ?_)
        ·refine XL_skipF _ rfl rfl (by kernel_rfl) hc23 rfl ?_
         refine XL_skipF _ rfl rfl (by kernel_rfl) hc23 rfl ?_
         refine XL_cons rfl (X_of_Y0 rfl (Y0_pick1 (b := bif (bif (!y17.2) then true else (!y18.2)) then true else (!y19.2)) (p := true) (q := !y20.2) rfl (by kernel_rfl) hc23 (by kernel_rfl))) ?_
         refine L0 rfl rfl (E_move (Bo (bif (bif (bif (!y17.2) then true else (!y18.2)) then true else (!y19.2)) then true else (!y20.2))) rfl (by kernel_rfl)) ?_
         refine XL_split (bif (bif (bif (!y17.2) then true else (!y18.2)) then true else (!y19.2)) then true else (!y20.2)) (fun hc24 => ?_) (fun hc24 => ?_)
         ·refine XL_skipF _ rfl rfl (by kernel_rfl) hc24 rfl ?_
          refine XL_skipF _ rfl rfl (by kernel_rfl) hc24 rfl ?_
          refine XL_skipF _ rfl rfl (by kernel_rfl) hc24 rfl ?_
          refine XL_skipF _ rfl rfl (by kernel_rfl) hc24 rfl ?_
          refine XL_skipF _ rfl rfl (by kernel_rfl) hc24 rfl ?_
          refine XL_skipF _ rfl rfl (by kernel_rfl) hc24 rfl ?_
          refine XL_skipF _ rfl rfl (by kernel_rfl) hc24 rfl ?_
          refine XL_cons rfl (X_of_Y0 rfl (Y0_pick1 (b := bif (bif (bif (!y17.2) then true else (!y18.2)) then true else (!y19.2)) then true else (!y20.2)) (p := true) (q := !eqI (w64 (y17.1 * y18.1)) (w64 (y19.1 * y20.1))) rfl (by kernel_rfl) hc24 (by kernel_rfl))) ?_
          refine XL_nil ?_
          subst ht25
          kernel_rfl
         ·refine XL_takeC _ rfl rfl (by kernel_rfl) hc24 (X_of_Y0 rfl (E_move (I y17.1) rfl (by kernel_rfl))) ?_
          refine XL_takeC _ rfl rfl (by kernel_rfl) hc24 (X_of_Y0 rfl (E_move (I y18.1) rfl (by kernel_rfl))) ?_
          refine XL_takeC _ rfl rfl (by kernel_rfl) hc24 (X_of_Y0 rfl (Y0_mul64 (a := y17.1) (b := y18.1) rfl (by kernel_rfl) (by kernel_rfl))) ?_
          refine XL_takeC _ rfl rfl (by kernel_rfl) hc24 (X_of_Y0 rfl (E_move (I y19.1) rfl (by kernel_rfl))) ?_
          refine XL_takeC _ rfl rfl (by kernel_rfl) hc24 (X_of_Y0 rfl (E_move (I y20.1) rfl (by kernel_rfl))) ?_
          refine XL_takeC _ rfl rfl (by kernel_rfl) hc24 (X_of_Y0 rfl (Y0_mul64 (a := y19.1) (b := y20.1) rfl (by kernel_rfl) (by kernel_rfl))) ?_
          refine XL_takeC _ rfl rfl (by kernel_rfl) hc24 (X_of_Y0 rfl (Y0_new (k := .i64) (a := w64 (y17.1 * y18.1)) (b := w64 (y19.1 * y20.1)) rfl (by kernel_rfl) (by kernel_rfl))) ?_
          refine XL_cons rfl (X_of_Y0 rfl (Y0_pick0 (b := bif (bif (bif (!y17.2) then true else (!y18.2)) then true else (!y19.2)) then true else (!y20.2)) (p := true) (q := !eqI (w64 (y17.1 * y18.1)) (w64 (y19.1 * y20.1))) rfl (by kernel_rfl) hc24 (by kernel_rfl))) ?_
          refine XL_nil ?_
          subst ht25
          kernel_rfl
        ·refine XL_takeC _ rfl rfl (by kernel_rfl) hc23 (X_of_Y0 rfl (E_move (Bo y20.2) rfl (by kernel_rfl))) ?_
         refine XL_takeC _ rfl rfl (by kernel_rfl) hc23 (X_of_Y0 rfl (Y0_not (b := y20.2) rfl (by kernel_rfl))) ?_
         refine XL_cons rfl (X_of_Y0 rfl (Y0_pick0 (b := bif (bif (!y17.2) then true else (!y18.2)) then true else (!y19.2)) (p := true) (q := !y20.2) rfl (by kernel_rfl) hc23 (by kernel_rfl))) ?_
         refine L0 rfl rfl (E_move (Bo (bif (bif (bif (!y17.2) then true else (!y18.2)) then true else (!y19.2)) then true else (!y20.2))) rfl (by kernel_rfl)) ?_
         refine XL_split (bif (bif (bif (!y17.2) then true else (!y18.2)) then true else (!y19.2)) then true else (!y20.2)) (fun hc24 => ?_) (fun hc24 => ?_)
         ·refine XL_skipF _ rfl rfl (by kernel_rfl) hc24 rfl ?_
          refine XL_skipF _ rfl rfl (by kernel_rfl) hc24 rfl ?_
          refine XL_skipF _ rfl rfl (by kernel_rfl) hc24 rfl ?_
          refine XL_skipF _ rfl rfl (by kernel_rfl) hc24 rfl ?_
          refine XL_skipF _ rfl rfl (by kernel_rfl) hc24 rfl ?_
          refine XL_skipF _ rfl rfl (by kernel_rfl) hc24 rfl ?_
          refine XL_skipF _ rfl rfl (by kernel_rfl) hc24 rfl ?_
          refine XL_cons rfl (X_of_Y0 rfl (Y0_pick1 (b := bif (bif (bif (!y17.2) then true else (!y18.2)) then true else (!y19.2)) then true else (!y20.2)) (p := true) (q := !eqI (w64 (y17.1 * y18.1)) (w64 (y19.1 * y20.1))) rfl (by kernel_rfl) hc24 (by kernel_rfl))) ?_
          refine XL_nil ?_
          subst ht25
          kernel_rfl
         ·refine XL_takeC _ rfl rfl (by kernel_rfl) hc24 (X_of_Y0 rfl (E_move (I y17.1) rfl (by kernel_rfl))) ?_
          refine XL_takeC _ rfl rfl (by kernel_rfl) hc24 (X_of_Y0 rfl (E_move (I y18.1) rfl (by kernel_rfl))) ?_
          refine XL_takeC _ rfl rfl (by kernel_rfl) hc24 (X_of_Y0 rfl (Y0_mul64 (a := y17.1) (b := y18.1) rfl (by kernel_rfl) (by kernel_rfl))) ?_
          refine XL_takeC _ rfl rfl (by kernel_rfl) hc24 (X_of_Y0 rfl (E_move (I y19.1) rfl (by kernel_rfl))) ?_
          refine XL_takeC _ rfl rfl (by kernel_rfl) hc24 (X_of_Y0 rfl (E_move (I y20.1) rfl (by kernel_rfl))) ?_
          refine XL_takeC _ rfl rfl (by kernel_rfl) hc24 (X_of_Y0 rfl (Y0_mul64 (a := y19.1) (b := y20.1) rfl (by kernel_rfl) (by kernel_rfl))) ?_
          refine XL_takeC _ rfl rfl (by kernel_rfl) hc24 (X_of_Y0 rfl (Y0_new (k := .i64) (a := w64 (y17.1 * y18.1)) (b := w64 (y19.1 * y20.1)) rfl (by kernel_rfl) (by kernel_rfl))) ?_
          refine XL_cons rfl (X_of_Y0 rfl (Y0_pick0 (b := bif (bif (bif (!y17.2) then true else (!y18.2)) then true else (!y19.2)) then true else (!y20.2)) (p := true) (q := !eqI (w64 (y17.1 * y18.1)) (w64 (y19.1 * y20.1))) rfl (by kernel_rfl) hc24 (by kernel_rfl))) ?_
          refine XL_nil ?_
          subst ht25
          kernel_rfl
      ·refine XL_takeC _ rfl rfl (by kernel_rfl) hc21 (X_of_Y0 rfl (E_move (Bo y18.2) rfl (by kernel_rfl))) ?_
       refine XL_takeC _ rfl rfl (by kernel_rfl) hc21 (X_of_Y0 rfl (Y0_not (b := y18.2) rfl (by kernel_rfl))) ?_
       refine XL_cons rfl (X_of_Y0 rfl (Y0_pick0 (b := !y17.2) (p := true) (q := !y18.2) rfl (by kernel_rfl) hc21 (by kernel_rfl))) ?_
       refine L0 rfl rfl (E_move (Bo (bif (!y17.2) then true else (!y18.2))) rfl (by kernel_rfl)) ?_
       refine XL_split (bif (!y17.2) then true else (!y18.2)) (fun hc22 => ?_) (fun hc22 => ?_)
       ·refine XL_skipF _ rfl rfl (by kernel_rfl) hc22 rfl ?_
        refine XL_skipF _ rfl rfl (by kernel_rfl) hc22 rfl ?_
        refine XL_cons rfl (X_of_Y0 rfl (Y0_pick1 (b := bif (!y17.2) then true else (!y18.2)) (p := true) (q := !y19.2) rfl (by kernel_rfl) hc22 (by kernel_rfl))) ?_
        refine L0 rfl rfl (E_move (Bo (bif (bif (!y17.2) then true else (!y18.2)) then true else (!y19.2))) rfl (by kernel_rfl)) ?_
        refine XL_split (bif (bif (!y17.2) then true else (!y18.2)) then true else (!y19.2)) (fun hc23 => ?_) (fun hc23 => ?_)
        ·refine XL_skipF _ rfl rfl (by kernel_rfl) hc23 rfl ?_
         refine XL_skipF _ rfl rfl (by kernel_rfl) hc23 rfl ?_
         refine XL_cons rfl (X_of_Y0 rfl (Y0_pick1 (b := bif (bif (!y17.2) then true else (!y18.2)) then true else (!y19.2)) (p := true) (q := !y20.2) rfl (by kernel_rfl) hc23 (by kernel_rfl))) ?_
         refine L0 rfl rfl (E_move (Bo (bif (bif (bif (!y17.2) then true else (!y18.2)) then true else (!y19.2)) then true else (!y20.2))) rfl (by kernel_rfl)) ?_
         refine XL_split (bif (bif (bif (!y17.2) then true else (!y18.2)) then true else (!y19.2)) then true else (!y20.2)) (fun hc24 => ?_) (fun hc24 => ?_)
         ·refine XL_skipF _ rfl rfl (by kernel_rfl) hc24 rfl ?_
          refine XL_skipF _ rfl rfl (by kernel_rfl) hc24 rfl ?_
          refine XL_skipF _ rfl rfl (by kernel_rfl) hc24 rfl ?_
          refine XL_skipF _ rfl rfl (by kernel_rfl) hc24 rfl ?_
          refine XL_skipF _ rfl rfl (by kernel_rfl) hc24 rfl ?_
          refine XL_skipF _ rfl rfl (by kernel_rfl) hc24 rfl ?_
          refine XL_skipF _ rfl rfl (by kernel_rfl) hc24 rfl ?_
          refine XL_cons rfl (X_of_Y0 rfl (Y0_pick1 (b := bif (bif (bif (!y17.2) then true else (!y18.2)) then true else (!y19.2)) then true else (!y20.2)) (p := true) (q := !eqI (w64 (y17.1 * y18.1)) (w64 (y19.1 * y20.1))) rfl (by kernel_rfl) hc24 (by kernel_rfl))) ?_
          refine XL_nil ?_
          subst ht25
          kernel_rfl
         ·refine XL_takeC _ rfl rfl (by kernel_rfl) hc24 (X_of_Y0 rfl (E_move (I y17.1) rfl (by kernel_rfl))) ?_
          refine XL_takeC _ rfl rfl (by kernel_rfl) hc24 (X_of_Y0 rfl (E_move (I y18.1) rfl (by kernel_rfl))) ?_
          refine XL_takeC _ rfl rfl (by kernel_rfl) hc24 (X_of_Y0 rfl (Y0_mul64 (a := y17.1) (b := y18.1) rfl (by kernel_rfl) (by kernel_rfl))) ?_
          refine XL_takeC _ rfl rfl (by kernel_rfl) hc24 (X_of_Y0 rfl (E_move (I y19.1) rfl (by kernel_rfl))) ?_
          refine XL_takeC _ rfl rfl (by kernel_rfl) hc24 (X_of_Y0 rfl (E_move (I y20.1) rfl (by kernel_rfl))) ?_
          refine XL_takeC _ rfl rfl (by kernel_rfl) hc24 (X_of_Y0 rfl (Y0_mul64 (a := y19.1) (b := y20.1) rfl (by kernel_rfl) (by kernel_rfl))) ?_
          refine XL_takeC _ rfl rfl (by kernel_rfl) hc24 (X_of_Y0 rfl (Y0_new (k := .i64) (a := w64 (y17.1 * y18.1)) (b := w64 (y19.1 * y20.1)) rfl (by kernel_rfl) (by kernel_rfl))) ?_
          refine XL_cons rfl (X_of_Y0 rfl (Y0_pick0 (b := bif (bif (bif (!y17.2) then true else (!y18.2)) then true else (!y19.2)) then true else (!y20.2)) (p := true) (q := !eqI (w64 (y17.1 * y18.1)) (w64 (y19.1 * y20.1))) rfl (by kernel_rfl) hc24 (by kernel_rfl))) ?_
          refine XL_nil ?_
          subst ht25
          kernel_rfl
        ·refine XL_takeC _ rfl rfl (by kernel_rfl) hc23 (X_of_Y0 rfl (E_move (Bo y20.2) rfl (by kernel_rfl))) ?_
         refine XL_takeC _ rfl rfl (by kernel_rfl) hc23 (X_of_Y0 rfl (Y0_not (b := y20.2) rfl (by kernel_rfl))) ?_
         refine XL_cons rfl (X_of_Y0 rfl (Y0_pick0 (b := bif (bif (!y17.2) then true else (!y18.2)) then true else (!y19.2)) (p := true) (q := !y20.2) rfl (by kernel_rfl) hc23 (by kernel_rfl))) ?_
         refine L0 rfl rfl (E_move (Bo (bif (bif (bif (!y17.2) then true else (!y18.2)) then true else (!y19.2)) then true else (!y20.2))) rfl (by kernel_rfl)) ?_
         refine XL_split (bif (bif (bif (!y17.2) then true else (!y18.2)) then true else (!y19.2)) then true else (!y20.2)) (fun hc24 => ?_) (fun hc24 => ?_)
         ·refine XL_skipF _ rfl rfl (by kernel_rfl) hc24 rfl ?_
          refine XL_skipF _ rfl rfl (by kernel_rfl) hc24 rfl ?_
          refine XL_skipF _ rfl rfl (by kernel_rfl) hc24 rfl ?_
          refine XL_skipF _ rfl rfl (by kernel_rfl) hc24 rfl ?_
          refine XL_skipF _ rfl rfl (by kernel_rfl) hc24 rfl ?_
          refine XL_skipF _ rfl rfl (by kernel_rfl) hc24 rfl ?_
          refine XL_skipF _ rfl rfl (by kernel_rfl) hc24 rfl ?_
          refine XL_cons rfl (X_of_Y0 rfl (Y0_pick1 (b := bif (bif (bif (!y17.2) then true else (!y18.2)) then true else (!y19.2)) then true else (!y20.2)) (p := true) (q := !eqI (w64 (y17.1 * y18.1)) (w64 (y19.1 * y20.1))) rfl (by kernel_rfl) hc24 (by kernel_rfl))) ?_
          refine XL_nil ?_
          subst ht25
          kernel_rfl
         ·refine XL_takeC _ rfl rfl (by kernel_rfl) hc24 (X_of_Y0 rfl (E_move (I y17.1) rfl (by kernel_rfl))) ?_
          refine XL_takeC _ rfl rfl (by kernel_rfl) hc24 (X_of_Y0 rfl (E_move (I y18.1) rfl (by kernel_rfl))) ?_
          refine XL_takeC _ rfl rfl (by kernel_rfl) hc24 (X_of_Y0 rfl (Y0_mul64 (a := y17.1) (b := y18.1) rfl (by kernel_rfl) (by kernel_rfl))) ?_
          refine XL_takeC _ rfl rfl (by kernel_rfl) hc24 (X_of_Y0 rfl (E_move (I y19.1) rfl (by kernel_rfl))) ?_
          refine XL_takeC _ rfl rfl (by kernel_rfl) hc24 (X_of_Y0 rfl (E_move (I y20.1) rfl (by kernel_rfl))) ?_
          refine XL_takeC _ rfl rfl (by kernel_rfl) hc24 (X_of_Y0 rfl (Y0_mul64 (a := y19.1) (b := y20.1) rfl (by kernel_rfl) (by kernel_rfl))) ?_
          refine XL_takeC _ rfl rfl (by kernel_rfl) hc24 (X_of_Y0 rfl (Y0_new (k := .i64) (a := w64 (y17.1 * y18.1)) (b := w64 (y19.1 * y20.1)) rfl (by kernel_rfl) (by kernel_rfl))) ?_
          refine XL_cons rfl (X_of_Y0 rfl (Y0_pick0 (b := bif (bif (bif (!y17.2) then true else (!y18.2)) then true else (!y19.2)) then true else (!y20.2)) (p := true) (q := !eqI (w64 (y17.1 * y18.1)) (w64 (y19.1 * y20.1))) rfl (by kernel_rfl) hc24 (by kernel_rfl))) ?_
          refine XL_nil ?_
          subst ht25
          kernel_rfl
       ·refine XL_takeC _ rfl rfl (by kernel_rfl) hc22 (X_of_Y0 rfl (E_move (Bo y19.2) rfl (by kernel_rfl))) ?_
        refine XL_takeC _ rfl rfl (by kernel_rfl) hc22 (X_of_Y0 rfl (Y0_not (b := y19.2) rfl (by kernel_rfl))) ?_
        refine XL_cons rfl (X_of_Y0 rfl (Y0_pick0 (b := bif (!y17.2) then true else (!y18.2)) (p := true) (q := !y19.2) rfl (by kernel_rfl) hc22 (by kernel_rfl))) ?_
        refine L0 rfl rfl (E_move (Bo (bif (bif (!y17.2) then true else (!y18.2)) then true else (!y19.2))) rfl (by kernel_rfl)) ?_
        refine XL_split (bif (bif (!y17.2) then true else (!y18.2)) then true else (!y19.2)) (fun hc23 => ?_) (fun hc23 => ?_)
        ·refine XL_skipF _ rfl rfl (by kernel_rfl) hc23 rfl ?_
         refine XL_skipF _ rfl rfl (by kernel_rfl) hc23 rfl ?_
         refine XL_cons rfl (X_of_Y0 rfl (Y0_pick1 (b := bif (bif (!y17.2) then true else (!y18.2)) then true else (!y19.2)) (p := true) (q := !y20.2) rfl (by kernel_rfl) hc23 (by kernel_rfl))) ?_
         refine L0 rfl rfl (E_move (Bo (bif (bif (bif (!y17.2) then true else (!y18.2)) then true else (!y19.2)) then true else (!y20.2))) rfl (by kernel_rfl)) ?_
         refine XL_split (bif (bif (bif (!y17.2) then true else (!y18.2)) then true else (!y19.2)) then true else (!y20.2)) (fun hc24 => ?_) (fun hc24 => ?_)
         ·refine XL_skipF _ rfl rfl (by kernel_rfl) hc24 rfl ?_
          refine XL_skipF _ rfl rfl (by kernel_rfl) hc24 rfl ?_
          refine XL_skipF _ rfl rfl (by kernel_rfl) hc24 rfl ?_
          refine XL_skipF _ rfl rfl (by kernel_rfl) hc24 rfl ?_
          refine XL_skipF _ rfl rfl (by kernel_rfl) hc24 rfl ?_
          refine XL_skipF _ rfl rfl (by kernel_rfl) hc24 rfl ?_
          refine XL_skipF _ rfl rfl (by kernel_rfl) hc24 rfl ?_
          refine XL_cons rfl (X_of_Y0 rfl (Y0_pick1 (b := bif (bif (bif (!y17.2) then true else (!y18.2)) then true else (!y19.2)) then true else (!y20.2)) (p := true) (q := !eqI (w64 (y17.1 * y18.1)) (w64 (y19.1 * y20.1))) rfl (by kernel_rfl) hc24 (by kernel_rfl))) ?_
          refine XL_nil ?_
          subst ht25
          kernel_rfl
         ·refine XL_takeC _ rfl rfl (by kernel_rfl) hc24 (X_of_Y0 rfl (E_move (I y17.1) rfl (by kernel_rfl))) ?_
          refine XL_takeC _ rfl rfl (by kernel_rfl) hc24 (X_of_Y0 rfl (E_move (I y18.1) rfl (by kernel_rfl))) ?_
          refine XL_takeC _ rfl rfl (by kernel_rfl) hc24 (X_of_Y0 rfl (Y0_mul64 (a := y17.1) (b := y18.1) rfl (by kernel_rfl) (by kernel_rfl))) ?_
          refine XL_takeC _ rfl rfl (by kernel_rfl) hc24 (X_of_Y0 rfl (E_move (I y19.1) rfl (by kernel_rfl))) ?_
          refine XL_takeC _ rfl rfl (by kernel_rfl) hc24 (X_of_Y0 rfl (E_move (I y20.1) rfl (by kernel_rfl))) ?_
          refine XL_takeC _ rfl rfl (by kernel_rfl) hc24 (X_of_Y0 rfl (Y0_mul64 (a := y19.1) (b := y20.1) rfl (by kernel_rfl) (by kernel_rfl))) ?_
          refine XL_takeC _ rfl rfl (by kernel_rfl) hc24 (X_of_Y0 rfl (Y0_new (k := .i64) (a := w64 (y17.1 * y18.1)) (b := w64 (y19.1 * y20.1)) rfl (by kernel_rfl) (by kernel_rfl))) ?_
          refine XL_cons rfl (X_of_Y0 rfl (Y0_pick0 (b := bif (bif (bif (!y17.2) then true else (!y18.2)) then true else (!y19.2)) then true else (!y20.2)) (p := true) (q := !eqI (w64 (y17.1 * y18.1)) (w64 (y19.1 * y20.1))) rfl (by kernel_rfl) hc24 (by kernel_rfl))) ?_
          refine XL_nil ?_
          subst ht25
          kernel_rfl
        ·refine XL_takeC _ rfl rfl (by kernel_rfl) hc23 (X_of_Y0 rfl (E_move (Bo y20.2) rfl (by kernel_rfl))) ?_
         refine XL_takeC _ rfl rfl (by kernel_rfl) hc23 (X_of_Y0 rfl (Y0_not (b := y20.2) rfl (by kernel_rfl))) ?_
         refine XL_cons rfl (X_of_Y0 rfl (Y0_pick0 (b := bif (bif (!y17.2) then true else (!y18.2)) then true else (!y19.2)) (p := true) (q := !y20.2) rfl (by kernel_rfl) hc23 (by kernel_rfl))) ?_
         refine L0 rfl rfl (E_move (Bo (bif (bif (bif (!y17.2) then true else (!y18.2)) then true else (!y19.2)) then true else (!y20.2))) rfl (by kernel_rfl)) ?_
         refine XL_split (bif (bif (bif (!y17.2) then true else (!y18.2)) then true else (!y19.2)) then true else (!y20.2)) (fun hc24 => ?_) (fun hc24 => ?_)
         ·refine XL_skipF _ rfl rfl (by kernel_rfl) hc24 rfl ?_
          refine XL_skipF _ rfl rfl (by kernel_rfl) hc24 rfl ?_
          refine XL_skipF _ rfl rfl (by kernel_rfl) hc24 rfl ?_
          refine XL_skipF _ rfl rfl (by kernel_rfl) hc24 rfl ?_
          refine XL_skipF _ rfl rfl (by kernel_rfl) hc24 rfl ?_
          refine XL_skipF _ rfl rfl (by kernel_rfl) hc24 rfl ?_
          refine XL_skipF _ rfl rfl (by kernel_rfl) hc24 rfl ?_
          refine XL_cons rfl (X_of_Y0 rfl (Y0_pick1 (b := bif (bif (bif (!y17.2) then true else (!y18.2)) then true else (!y19.2)) then true else (!y20.2)) (p := true) (q := !eqI (w64 (y17.1 * y18.1)) (w64 (y19.1 * y20.1))) rfl (by kernel_rfl) hc24 (by kernel_rfl))) ?_
          refine XL_nil ?_
          subst ht25
          kernel_rfl
         ·refine XL_takeC _ rfl rfl (by kernel_rfl) hc24 (X_of_Y0 rfl (E_move (I y17.1) rfl (by kernel_rfl))) ?_
          refine XL_takeC _ rfl rfl (by kernel_rfl) hc24 (X_of_Y0 rfl (E_move (I y18.1) rfl (by kernel_rfl))) ?_
          refine XL_takeC _ rfl rfl (by kernel_rfl) hc24 (X_of_Y0 rfl (Y0_mul64 (a := y17.1) (b := y18.1) rfl (by kernel_rfl) (by kernel_rfl))) ?_
          refine XL_takeC _ rfl rfl (by kernel_rfl) hc24 (X_of_Y0 rfl (E_move (I y19.1) rfl (by kernel_rfl))) ?_
          refine XL_takeC _ rfl rfl (by kernel_rfl) hc24 (X_of_Y0 rfl (E_move (I y20.1) rfl (by kernel_rfl))) ?_
          refine XL_takeC _ rfl rfl (by kernel_rfl) hc24 (X_of_Y0 rfl (Y0_mul64 (a := y19.1) (b := y20.1) rfl (by kernel_rfl) (by kernel_rfl))) ?_
          refine XL_takeC _ rfl rfl (by kernel_rfl) hc24 (X_of_Y0 rfl (Y0_new (k := .i64) (a := w64 (y17.1 * y18.1)) (b := w64 (y19.1 * y20.1)) rfl (by kernel_rfl) (by kernel_rfl))) ?_
          refine XL_cons rfl (X_of_Y0 rfl (Y0_pick0 (b := bif (bif (bif (!y17.2) then true else (!y18.2)) then true else (!y19.2)) then true else (!y20.2)) (p := true) (q := !eqI (w64 (y17.1 * y18.1)) (w64 (y19.1 * y20.1))) rfl (by kernel_rfl) hc24 (by kernel_rfl))) ?_
          refine XL_nil ?_
          subst ht25
          kernel_rfl
     refine V_cond rfl (fun hc26 => ?_) (fun hc26 => ?_)
     ·have h := of_true h hc26
      refine V_sreg (mb 238 16) [] (s1 := ⟨bt 4 (Bo false :: bt 233 []), []⟩) ?_ ?_
      ·refine L0 rfl rfl (E_assign (Bo false) rfl (by kernel_rfl)) ?_
       refine XL_nil ?_
       kernel_rfl
      refine V_ret ?_
      obtain rfl := some_inj h
      show Post _ _ _ _ _
      exact ⟨.inr rfl, rfl, rfl, rfl⟩
     ·have h := of_false h hc26
      refine V_skip ?_
      show V _ _ _ _
      obtain ⟨y27, hy27, h⟩ := of_bind h
      refine V_sreg (mb 238 8390880) [88, 56, 48, 40] (s1 := ⟨bt 5 (.pt 40 0 :: .pt 48 0 :: .pt 56 0 :: bt 3 (.pt 88 0 :: bt 11 (I y27 :: bt 214 []))), [(88, .box [Ti y8.1.1, Ti y8.1.2.1, Ti y8.1.2.2]), (56, .box [Ti y6.1.1, Ti y6.1.2.1, Ti y6.1.2.2]), (48, .box [Ti y5.2.1, Ti y5.2.2.1, Ti y5.2.2.2]), (40, .box [Ti y5.1.1, Ti y5.1.2.1, Ti y5.1.2.2])]⟩) ?_ ?_
      ·refine L0 rfl rfl (E_move (.c (.sl (more2.map c5))) rfl (by kernel_rfl)) ?_
       refine L1 rfl rfl (Y1_call (s_laws_numberOf hy27) cf_laws_numberOf rfl (by kernel_rfl)) ?_
       refine L0 rfl rfl (E_assign (I y27) rfl (by kernel_rfl)) ?_
       refine XL_nil ?_
       kernel_rfl
      obtain ⟨f28, hf28, h⟩ := of_sI h
      obtain ⟨f29, hf29, h⟩ := of_sI h
      refine V_sreg (mb 238 25168096) [192, 88, 56, 48, 40] (s1 := ⟨bt 5 (.pt 40 0 :: .pt 48 0 :: .pt 56 0 :: bt 3 (.pt 88 0 :: bt 11 (I y27 :: .pt 192 0 :: bt 213 []))), [(192, .box [Ti f28, Ti f29]), (88, .box [Ti y8.1.1, Ti y8.1.2.1, Ti y8.1.2.2]), (56, .box [Ti y6.1.1, Ti y6.1.2.1, Ti y6.1.2.2]), (48, .box [Ti y5.2.1, Ti y5.2.2.1, Ti y5.2.2.2]), (40, .box [Ti y5.1.1, Ti y5.1.2.1, Ti y5.1.2.2])]⟩) ?_ ?_
      ·refine L0 rfl rfl (E_move (I y27) rfl (by kernel_rfl)) ?_
       refine L0 rfl rfl (Y0_rem (k := .i64) (a := y27) (b := 2001) rfl (by kernel_rfl) (by kernel_rfl) (by decide)) ?_
       refine L0 rfl rfl (Y0_sub64 (a := Int.tmod y27 2001) (b := 1000) rfl (by kernel_rfl) (by kernel_rfl)) ?_
       refine L0 rfl rfl (E_move (I y27) rfl (by kernel_rfl)) ?_
       refine L0 rfl rfl (Y0_quo64 (a := y27) (b := 2001) rfl (by kernel_rfl) (by kernel_rfl) (by decide)) ?_
       refine L0 rfl rfl (Y0_rem (k := .i64) (a := w64 (Int.tdiv y27 2001)) (b := 401) rfl (by kernel_rfl) (by kernel_rfl) (by decide)) ?_
       refine L0 rfl rfl (Y0_sub64 (a := Int.tmod (w64 (Int.tdiv y27 2001)) 401) (b := 200) rfl (by kernel_rfl) (by kernel_rfl)) ?_
       refine L0 rfl rfl (Y0_build (cs := [Ti (w64 ((Int.tmod y27 2001) - 1000)), Ti (w64 ((Int.tmod (w64 (Int.tdiv y27 2001)) 401) - 200))]) pl34 bt34 rfl rfl (by kernel_rfl)) ?_
       refine L1 rfl rfl (Y1_alloc (z := zv34) rfl zf34 rfl) ?_
       refine XL_cons rfl (E_store (id := 192) (off := 0) (cs := [Ti 0, Ti 0]) (vc := [Ti (w64 ((Int.tmod y27 2001) - 1000)), Ti (w64 ((Int.tmod (w64 (Int.tdiv y27 2001)) 401) - 200))]) [Ti (w64 ((Int.tmod y27 2001) - 1000)), Ti (w64 ((Int.tmod (w64 (Int.tdiv y27 2001)) 401) - 200))] rfl rfl (by kernel_rfl) (by kernel_rfl) (by kernel_rfl) sz34 (Nat.le_of_ble_eq_true rfl) (by kernel_rfl)) ?_
       refine XL_nil ?_
       subst hf28 hf29
       kernel_rfl
      obtain ⟨j30, hj30, h⟩ := of_bind h
      refine V_cutK (mb 238 16779488) [192, 88, 56, 48, 40] (s1 := ⟨bt 5 (.pt 40 0 :: .pt 48 0 :: .pt 56 0 :: bt 3 (.pt 88 0 :: bt 12 (.pt 192 0 :: bt 213 []))), [(192, .box [Ti j30.1, Ti j30.2]), (88, .box [Ti y8.1.1, Ti y8.1.2.1, Ti y8.1.2.2]), (56, .box [Ti y6.1.1, Ti y6.1.2.1, Ti y6.1.2.2]), (48, .box [Ti y5.2.1, Ti y5.2.2.1, Ti y5.2.2.2]), (40, .box [Ti y5.1.1, Ti y5.1.2.1, Ti y5.1.2.2])]⟩) ?_ ?_
      ·clear h
       have h := hj30
       clear hj30
       refine V_sreg (mb 238 89202980794122492566142873090593446049089760) [192, 88, 56, 48, 40] (s1 := ⟨bt 5 (.pt 40 0 :: .pt 48 0 :: .pt 56 0 :: bt 3 (.pt 88 0 :: bt 11 (I y27 :: .pt 192 0 :: bt 121 (Bo (eqI (Int.tmod y27 2) 0) :: bt 91 [])))), [(192, .box [Ti f28, Ti f29]), (88, .box [Ti y8.1.1, Ti y8.1.2.1, Ti y8.1.2.2]), (56, .box [Ti y6.1.1, Ti y6.1.2.1, Ti y6.1.2.2]), (48, .box [Ti y5.2.1, Ti y5.2.2.1, Ti y5.2.2.2]), (40, .box [Ti y5.1.1, Ti y5.1.2.1, Ti y5.1.2.2])]⟩) ?_ ?_
       ·refine L0 rfl rfl (E_move (I y27) rfl (by kernel_rfl)) ?_
        refine L0 rfl rfl (Y0_rem (k := .i64) (a := y27) (b := 2) rfl (by kernel_rfl) (by kernel_rfl) (by decide)) ?_
        refine L0 rfl rfl (Y0_eqw (k := .i64) (a := Int.tmod y27 2) (b := 0) rfl (by kernel_rfl) (by kernel_rfl)) ?_
        refine XL_nil ?_
        kernel_rfl
       refine V_cond rfl (fun hc31 => ?_) (fun hc31 => ?_)
       ·have h := of_true h hc31
        obtain ⟨f32, hf32, h⟩ := of_sI h
        obtain ⟨f33, hf33, h⟩ := of_sI h
        refine V_reg (mb 238 16779488) [192, 88, 56, 48, 40] (s1 := ⟨bt 5 (.pt 40 0 :: .pt 48 0 :: .pt 56 0 :: bt 3 (.pt 88 0 :: bt 12 (.pt 192 0 :: bt 213 []))), [(192, .box [Ti f32, Ti f33]), (88, .box [Ti y8.1.1, Ti y8.1.2.1, Ti y8.1.2.2]), (56, .box [Ti y6.1.1, Ti y6.1.2.1, Ti y6.1.2.2]), (48, .box [Ti y5.2.1, Ti y5.2.2.1, Ti y5.2.2.2]), (40, .box [Ti y5.1.1, Ti y5.1.2.1, Ti y5.1.2.2])]⟩) ?_ ?_
        ·refine L0 rfl rfl (E_field (.pt 40 1) Try.underlying25 rfl sz3 rfl (by kernel_rfl) (by intro hh; cases hh)) ?_
         refine L0 rfl rfl (Y0_load1 (c := Ti y5.1.2.1) (cs := [Ti y5.1.2.2]) sc3 rfl (by kernel_rfl)) ?_
         refine L0 rfl rfl (E_move (I y27) rfl (by kernel_rfl)) ?_
         refine L0 rfl rfl (Y0_rem (k := .i64) (a := y27) (b := 7) rfl (by kernel_rfl) (by kernel_rfl) (by decide)) ?_
         refine L0 rfl rfl (Y0_mul64 (a := y5.1.2.1) (b := Int.tmod y27 7) rfl (by kernel_rfl) (by kernel_rfl)) ?_
         refine L0 rfl rfl (E_field (.pt 40 0) Try.underlying25 rfl sz3 rfl (by kernel_rfl) (by intro hh; cases hh)) ?_
         refine L0 rfl rfl (Y0_load1 (c := Ti y5.1.1) (cs := [Ti y5.1.2.1, Ti y5.1.2.2]) sc3 rfl (by kernel_rfl)) ?_
         refine L0 rfl rfl (E_move (I y27) rfl (by kernel_rfl)) ?_
         refine L0 rfl rfl (Y0_rem (k := .i64) (a := y27) (b := 5) rfl (by kernel_rfl) (by kernel_rfl) (by decide)) ?_
         refine L0 rfl rfl (Y0_mul64 (a := y5.1.1) (b := Int.tmod y27 5) rfl (by kernel_rfl) (by kernel_rfl)) ?_
         refine L0 rfl rfl (Y0_add64 (a := w64 (y5.1.2.1 * (Int.tmod y27 7))) (b := w64 (y5.1.1 * (Int.tmod y27 5))) rfl (by kernel_rfl) (by kernel_rfl)) ?_
         refine L0 rfl rfl (E_field (.pt 40 2) Try.underlying25 rfl sz3 rfl (by kernel_rfl) (by intro hh; cases hh)) ?_
         refine L0 rfl rfl (Y0_load1 (c := Ti y5.1.2.2) (cs := []) sc3 rfl (by kernel_rfl)) ?_
         refine L0 rfl rfl (E_move (I y27) rfl (by kernel_rfl)) ?_
         refine L0 rfl rfl (Y0_rem (k := .i64) (a := y27) (b := 7) rfl (by kernel_rfl) (by kernel_rfl) (by decide)) ?_
         refine L0 rfl rfl (Y0_mul64 (a := y5.1.2.2) (b := Int.tmod y27 7) rfl (by kernel_rfl) (by kernel_rfl)) ?_
         refine L0 rfl rfl (Y0_build (cs := [Ti (w64 ((w64 (y5.1.2.1 * (Int.tmod y27 7))) + (w64 (y5.1.1 * (Int.tmod y27 5))))), Ti (w64 (y5.1.2.2 * (Int.tmod y27 7)))]) pl34 bt34 rfl rfl (by kernel_rfl)) ?_
         refine XL_cons rfl (E_store (id := 192) (off := 0) (cs := [Ti f28, Ti f29]) (vc := [Ti (w64 ((w64 (y5.1.2.1 * (Int.tmod y27 7))) + (w64 (y5.1.1 * (Int.tmod y27 5))))), Ti (w64 (y5.1.2.2 * (Int.tmod y27 7)))]) [Ti (w64 ((w64 (y5.1.2.1 * (Int.tmod y27 7))) + (w64 (y5.1.1 * (Int.tmod y27 5))))), Ti (w64 (y5.1.2.2 * (Int.tmod y27 7)))] rfl rfl (by kernel_rfl) (by kernel_rfl) (by kernel_rfl) sz34 (Nat.le_of_ble_eq_true rfl) (by kernel_rfl)) ?_
         refine XL_nil ?_
         subst hf32 hf33
         kernel_rfl
        obtain rfl := some_inj h
        show St.keep _ _ _ = _
        rfl
       ·have h := of_false h hc31
        refine V_skip ?_
        obtain rfl := some_inj h
        show St.keep _ _ _ = _
        rfl
      obtain ⟨y34, hy34, h⟩ := of_bind h
      refine V_sreg (mb 238 117442784) [192, 88, 56, 48, 40] (s1 := ⟨bt 5 (.pt 40 0 :: .pt 48 0 :: .pt 56 0 :: bt 3 (.pt 88 0 :: bt 12 (.pt 192 0 :: Bo y34.1 :: Bo y34.2 :: bt 211 []))), [(192, .box [Ti j30.1, Ti j30.2]), (88, .box [Ti y8.1.1, Ti y8.1.2.1, Ti y8.1.2.2]), (56, .box [Ti y6.1.1, Ti y6.1.2.1, Ti y6.1.2.2]), (48, .box [Ti y5.2.1, Ti y5.2.2.1, Ti y5.2.2.2]), (40, .box [Ti y5.1.1, Ti y5.1.2.1, Ti y5.1.2.2])]⟩) ?_ ?_
      ·refine L0 rfl rfl (E_loadn (cs := [Ti y5.1.1, Ti y5.1.2.1, Ti y5.1.2.2]) [Ti y5.1.1, Ti y5.1.2.1, Ti y5.1.2.2] wd25 rfl (by kernel_rfl) (Nat.le_of_ble_eq_true rfl) (by kernel_rfl)) ?_
       refine L0 rfl rfl (E_loadn (cs := [Ti j30.1, Ti j30.2]) [Ti j30.1, Ti j30.2] wd34 rfl (by kernel_rfl) (Nat.le_of_ble_eq_true rfl) (by kernel_rfl)) ?_
       refine L1 rfl rfl (Y1_call (s_impl_IsInLattice hy34) cf_impl_IsInLattice rfl (by kernel_rfl)) ?_
       refine L0 rfl rfl (E_move (.tc (Bo y34.1) (.tc (Bo y34.2) .tn)) rfl (by kernel_rfl)) ?_
       refine L0 rfl rfl (E_ext (n := 0) (Bo y34.1) (.tc (Bo y34.2) .tn) (Bo y34.1) rfl (by kernel_rfl) (by kernel_rfl) (by intro hh; cases hh)) ?_
       refine L0 rfl rfl (E_ext (n := 1) (Bo y34.1) (.tc (Bo y34.2) .tn) (Bo y34.2) rfl (by kernel_rfl) (by kernel_rfl) (by intro hh; cases hh)) ?_
       refine L0 rfl rfl (E_assign (Bo y34.1) rfl (by kernel_rfl)) ?_
       refine L0 rfl rfl (E_assign (Bo y34.2) rfl (by kernel_rfl)) ?_
       refine XL_nil ?_
       kernel_rfl
      obtain ⟨y35, hy35, h⟩ := of_bind h
      refine V_sreg (mb 238 520095968) [192, 88, 56, 48, 40] (s1 := ⟨bt 5 (.pt 40 0 :: .pt 48 0 :: .pt 56 0 :: bt 3 (.pt 88 0 :: bt 12 (.pt 192 0 :: Bo y34.1 :: Bo y34.2 :: Bo y35.1 :: Bo y35.2 :: bt 209 []))), [(192, .box [Ti j30.1, Ti j30.2]), (88, .box [Ti y8.1.1, Ti y8.1.2.1, Ti y8.1.2.2]), (56, .box [Ti y6.1.1, Ti y6.1.2.1, Ti y6.1.2.2]), (48, .box [Ti y5.2.1, Ti y5.2.2.1, Ti y5.2.2.2]), (40, .box [Ti y5.1.1, Ti y5.1.2.1, Ti y5.1.2.2])]⟩) ?_ ?_
      ·refine L0 rfl rfl (E_loadn (cs := [Ti y5.2.1, Ti y5.2.2.1, Ti y5.2.2.2]) [Ti y5.2.1, Ti y5.2.2.1, Ti y5.2.2.2] wd25 rfl (by kernel_rfl) (Nat.le_of_ble_eq_true rfl) (by kernel_rfl)) ?_
       refine L0 rfl rfl (E_loadn (cs := [Ti j30.1, Ti j30.2]) [Ti j30.1, Ti j30.2] wd34 rfl (by kernel_rfl) (Nat.le_of_ble_eq_true rfl) (by kernel_rfl)) ?_
       refine L1 rfl rfl (Y1_call (s_impl_IsInLattice hy35) cf_impl_IsInLattice rfl (by kernel_rfl)) ?_
       refine L0 rfl rfl (E_move (.tc (Bo y35.1) (.tc (Bo y35.2) .tn)) rfl (by kernel_rfl)) ?_
       refine L0 rfl rfl (E_ext (n := 0) (Bo y35.1) (.tc (Bo y35.2) .tn) (Bo y35.1) rfl (by kernel_rfl) (by kernel_rfl) (by intro hh; cases hh)) ?_
       refine L0 rfl rfl (E_ext (n := 1) (Bo y35.1) (.tc (Bo y35.2) .tn) (Bo y35.2) rfl (by kernel_rfl) (by kernel_rfl) (by intro hh; cases hh)) ?_
       refine L0 rfl rfl (E_assign (Bo y35.1) rfl (by kernel_rfl)) ?_
       refine L0 rfl rfl (E_assign (Bo y35.2) rfl (by kernel_rfl)) ?_
       refine XL_nil ?_
       kernel_rfl
      obtain ⟨y36, hy36, h⟩ := of_bind h
      refine V_sreg (mb 238 2130708704) [192, 88, 56, 48, 40] (s1 := ⟨bt 5 (.pt 40 0 :: .pt 48 0 :: .pt 56 0 :: bt 3 (.pt 88 0 :: bt 12 (.pt 192 0 :: Bo y34.1 :: Bo y34.2 :: Bo y35.1 :: Bo y35.2 :: Bo y36.1 :: Bo y36.2 :: bt 207 []))), [(192, .box [Ti j30.1, Ti j30.2]), (88, .box [Ti y8.1.1, Ti y8.1.2.1, Ti y8.1.2.2]), (56, .box [Ti y6.1.1, Ti y6.1.2.1, Ti y6.1.2.2]), (48, .box [Ti y5.2.1, Ti y5.2.2.1, Ti y5.2.2.2]), (40, .box [Ti y5.1.1, Ti y5.1.2.1, Ti y5.1.2.2])]⟩) ?_ ?_
      ·refine L0 rfl rfl (E_loadn (cs := [Ti y6.1.1, Ti y6.1.2.1, Ti y6.1.2.2]) [Ti y6.1.1, Ti y6.1.2.1, Ti y6.1.2.2] wd25 rfl (by kernel_rfl) (Nat.le_of_ble_eq_true rfl) (by kernel_rfl)) ?_
       refine L0 rfl rfl (E_loadn (cs := [Ti j30.1, Ti j30.2]) [Ti j30.1, Ti j30.2] wd34 rfl (by kernel_rfl) (Nat.le_of_ble_eq_true rfl) (by kernel_rfl)) ?_
       refine L1 rfl rfl (Y1_call (s_impl_IsInLattice hy36) cf_impl_IsInLattice rfl (by kernel_rfl)) ?_
       refine L0 rfl rfl (E_move (.tc (Bo y36.1) (.tc (Bo y36.2) .tn)) rfl (by kernel_rfl)) ?_
       refine L0 rfl rfl (E_ext (n := 0) (Bo y36.1) (.tc (Bo y36.2) .tn) (Bo y36.1) rfl (by kernel_rfl) (by kernel_rfl) (by intro hh; cases hh)) ?_
       refine L0 rfl rfl (E_ext (n := 1) (Bo y36.1) (.tc (Bo y36.2) .tn) (Bo y36.2) rfl (by kernel_rfl) (by kernel_rfl) (by intro hh; cases hh)) ?_
       refine L0 rfl rfl (E_assign (Bo y36.1) rfl (by kernel_rfl)) ?_
       refine L0 rfl rfl (E_assign (Bo y36.2) rfl (by kernel_rfl)) ?_
       refine XL_nil ?_
       kernel_rfl
      obtain ⟨y37, hy37, h⟩ := of_bind h
      refine V_sreg (mb 238 8556382432) [88, 56, 48, 40] (s1 := ⟨bt 5 (.pt 40 0 :: .pt 48 0 :: .pt 56 0 :: bt 3 (.pt 88 0 :: bt 13 (Bo y34.1 :: Bo y34.2 :: Bo y35.1 :: Bo y35.2 :: Bo y36.1 :: Bo y36.2 :: Bo y37.1 :: Bo y37.2 :: bt 205 []))), [(88, .box [Ti y8.1.1, Ti y8.1.2.1, Ti y8.1.2.2]), (56, .box [Ti y6.1.1, Ti y6.1.2.1, Ti y6.1.2.2]), (48, .box [Ti y5.2.1, Ti y5.2.2.1, Ti y5.2.2.2]), (40, .box [Ti y5.1.1, Ti y5.1.2.1, Ti y5.1.2.2])]⟩) ?_ ?_
      ·refine L0 rfl rfl (E_loadn (cs := [Ti y8.1.1, Ti y8.1.2.1, Ti y8.1.2.2]) [Ti y8.1.1, Ti y8.1.2.1, Ti y8.1.2.2] wd25 rfl (by kernel_rfl) (Nat.le_of_ble_eq_true rfl) (by kernel_rfl)) ?_
       refine L0 rfl rfl (E_loadn (cs := [Ti j30.1, Ti j30.2]) [Ti j30.1, Ti j30.2] wd34 rfl (by kernel_rfl) (Nat.le_of_ble_eq_true rfl) (by kernel_rfl)) ?_
       refine L1 rfl rfl (Y1_call (s_impl_IsInLattice hy37) cf_impl_IsInLattice rfl (by kernel_rfl)) ?_
       refine L0 rfl rfl (E_move (.tc (Bo y37.1) (.tc (Bo y37.2) .tn)) rfl (by kernel_rfl)) ?_
       refine L0 rfl rfl (E_ext (n := 0) (Bo y37.1) (.tc (Bo y37.2) .tn) (Bo y37.1) rfl (by kernel_rfl) (by kernel_rfl) (by intro hh; cases hh)) ?_
       refine L0 rfl rfl (E_ext (n := 1) (Bo y37.1) (.tc (Bo y37.2) .tn) (Bo y37.2) rfl (by kernel_rfl) (by kernel_rfl) (by intro hh; cases hh)) ?_
       refine L0 rfl rfl (E_assign (Bo y37.1) rfl (by kernel_rfl)) ?_
       refine L0 rfl rfl (E_assign (Bo y37.2) rfl (by kernel_rfl)) ?_
       refine XL_nil ?_
       kernel_rfl
      refine V_seq ?_
      obtain ⟨t46, ht46, h⟩ := of_bind h
      have ht46 := some_inj ht46
      refine V_sreg (mb 238 52656145834278593348959013841835216159447547700274555627155491040) [88, 56, 48, 40] (s1 := ⟨bt 5 (.pt 40 0 :: .pt 48 0 :: .pt 56 0 :: bt 3 (.pt 88 0 :: bt 203 (Bo t46 :: bt 22 []))), [(88, .box [Ti y8.1.1, Ti y8.1.2.1, Ti y8.1.2.2]), (56, .box [Ti y6.1.1, Ti y6.1.2.1, Ti y6.1.2.2]), (48, .box [Ti y5.2.1, Ti y5.2.2.1, Ti y5.2.2.2]), (40, .box [Ti y5.1.1, Ti y5.1.2.1, Ti y5.1.2.2])]⟩) ?_ ?_
      ·refine L0 rfl rfl (E_move (Bo y34.2) rfl (by kernel_rfl)) ?_
       refine L0 rfl rfl (E_move (Bo y34.2) rfl (by kernel_rfl)) ?_
       refine XL_split y34.2 (fun hc38 => ?_) (fun hc38 => ?_)
       ·refine XL_takeC _ rfl rfl (by kernel_rfl) hc38 (X_of_Y0 rfl (E_move (Bo y35.2) rfl (by kernel_rfl))) ?_
        refine XL_cons rfl (X_of_Y0 rfl (Y0_pick1 (b := y34.2) (p := y35.2) (q := false) rfl (by kernel_rfl) hc38 (by kernel_rfl))) ?_
        refine L0 rfl rfl (E_move (Bo (bif y34.2 then y35.2 else false)) rfl (by kernel_rfl)) ?_
        refine XL_split (bif y34.2 then y35.2 else false) (fun hc39 => ?_) (fun hc39 => ?_)
        ·refine XL_takeC _ rfl rfl (by kernel_rfl) hc39 (X_of_Y0 rfl (E_move (Bo y36.2) rfl (by kernel_rfl))) ?_
         refine XL_cons rfl (X_of_Y0 rfl (Y0_pick1 (b := bif y34.2 then y35.2 else false) (p := y36.2) (q := false) rfl (by kernel_rfl) hc39 (by kernel_rfl))) ?_
         refine L0 rfl rfl (E_move (Bo (bif (bif y34.2 then y35.2 else false) then y36.2 else false)) rfl (by kernel_rfl)) ?_
         refine XL_split (bif (bif y34.2 then y35.2 else false) then y36.2 else false) (fun hc40 => ?_) (fun hc40 => ?_)
         ·refine XL_takeC _ rfl rfl (by kernel_rfl) hc40 (X_of_Y0 rfl (E_move (Bo y37.2) rfl (by kernel_rfl))) ?_
          refine XL_cons rfl (X_of_Y0 rfl (Y0_pick1 (b := bif (bif y34.2 then y35.2 else false) then y36.2 else false) (p := y37.2) (q := false) rfl (by kernel_rfl) hc40 (by kernel_rfl))) ?_
          refine L0 rfl rfl (E_move (Bo (bif (bif (bif y34.2 then y35.2 else false) then y36.2 else false) then y37.2 else false)) rfl (by kernel_rfl)) ?_
          refine XL_split (bif (bif (bif y34.2 then y35.2 else false) then y36.2 else false) then y37.2 else false) (fun hc41 => ?_) (fun hc41 => ?_)
          ·refine XL_takeC _ rfl rfl (by kernel_rfl) hc41 (X_of_Y0 rfl (E_move (Bo y36.1) rfl (by kernel_rfl))) ?_
           refine XL_takeC _ rfl rfl (by kernel_rfl) hc41 (X_of_Y0 rfl (E_move (Bo y34.1) rfl (by kernel_rfl))) ?_
           refine XL_takeC _ rfl rfl (by kernel_rfl) hc41 (X_of_Y0 rfl (E_move (Bo y34.1) rfl (by kernel_rfl))) ?_
           refine XL_split y34.1 (fun hc42 => ?_) (fun hc42 => ?_)
           ·refine XL_takeC _ rfl rfl (by kernel_rfl) hc42 (X_of_Y0 rfl (E_move (Bo y35.1) rfl (by kernel_rfl))) ?_
            refine XL_takeC _ rfl rfl (by kernel_rfl) hc41 (X_of_Y0 rfl (Y0_pick1 (b := y34.1) (p := y35.1) (q := false) rfl (by kernel_rfl) hc42 (by kernel_rfl))) ?_
            refine XL_takeC _ rfl rfl (by kernel_rfl) hc41 (X_of_Y0 rfl (Y0_neb (a := y36.1) (b := bif y34.1 then y35.1 else false) Try.underlying4 rfl (by kernel_rfl) (by kernel_rfl))) ?_
            refine XL_takeC _ rfl rfl (by kernel_rfl) hc41 (X_of_Y0 rfl (E_move (Bo (y36.1 != (bif y34.1 then y35.1 else false))) rfl (by kernel_rfl))) ?_
            refine XL_split (y36.1 != (bif y34.1 then y35.1 else false)) (fun hc43 => ?_) (fun hc43 => ?_)
            ·refine XL_skipF _ rfl rfl (by kernel_rfl) hc43 rfl ?_
             refine XL_skipF _ rfl rfl (by kernel_rfl) hc43 rfl ?_
             refine XL_skip2 rfl rfl (by kernel_rfl) rfl ?_
             refine XL_skipF _ rfl rfl (by kernel_rfl) hc43 rfl ?_
             refine XL_skipF _ rfl rfl (by kernel_rfl) hc43 rfl ?_
             refine XL_skip2 rfl rfl (by kernel_rfl) rfl ?_
             refine XL_skip2 rfl rfl (by kernel_rfl) rfl ?_
             refine XL_skipF _ rfl rfl (by kernel_rfl) hc43 rfl ?_
             refine XL_takeC _ rfl rfl (by kernel_rfl) hc41 (X_of_Y0 rfl (Y0_pick1 (b := y36.1 != (bif y34.1 then y35.1 else false)) (p := true) (q := bif (bif y34.1 then true else y35.1) then (!y37.1) else false) rfl (by kernel_rfl) hc43 (by kernel_rfl))) ?_
             refine XL_cons rfl (X_of_Y0 rfl (Y0_pick1 (b := bif (bif (bif y34.2 then y35.2 else false) then y36.2 else false) then y37.2 else false) (p := bif (y36.1 != (bif y34.1 then y35.1 else false)) then true else (bif (bif y34.1 then true else y35.1) then (!y37.1) else false)) (q := false) rfl (by kernel_rfl) hc41 (by kernel_rfl))) ?_
             refine XL_nil ?_
             subst ht46
             kernel_rfl
            ·refine XL_takeC _ rfl rfl (by kernel_rfl) hc43 (X_of_Y0 rfl (E_move (Bo y34.1) rfl (by kernel_rfl))) ?_
             refine XL_takeC _ rfl rfl (by kernel_rfl) hc43 (X_of_Y0 rfl (E_move (Bo y34.1) rfl (by kernel_rfl))) ?_
             refine XL_split y34.1 (fun hc44 => ?_) (fun hc44 => ?_)
             ·refine XL_skipF _ rfl rfl (by kernel_rfl) hc44 rfl ?_
              refine XL_takeC _ rfl rfl (by kernel_rfl) hc43 (X_of_Y0 rfl (Y0_pick1 (b := y34.1) (p := true) (q := y35.1) rfl (by kernel_rfl) hc44 (by kernel_rfl))) ?_
              refine XL_takeC _ rfl rfl (by kernel_rfl) hc43 (X_of_Y0 rfl (E_move (Bo (bif y34.1 then true else y35.1)) rfl (by kernel_rfl))) ?_
              refine XL_split (bif y34.1 then true else y35.1) (fun hc45 => ?_) (fun hc45 => ?_)
              ·refine XL_takeC _ rfl rfl (by kernel_rfl) hc45 (X_of_Y0 rfl (E_move (Bo y37.1) rfl (by kernel_rfl))) ?_
               refine XL_takeC _ rfl rfl (by kernel_rfl) hc45 (X_of_Y0 rfl (Y0_not (b := y37.1) rfl (by kernel_rfl))) ?_
               refine XL_takeC _ rfl rfl (by kernel_rfl) hc43 (X_of_Y0 rfl (Y0_pick1 (b := bif y34.1 then true else y35.1) (p := !y37.1) (q := false) rfl (by kernel_rfl) hc45 (by kernel_rfl))) ?_
               refine XL_takeC _ rfl rfl (by kernel_rfl) hc41 (X_of_Y0 rfl (Y0_pick0 (b := y36.1 != (bif y34.1 then y35.1 else false)) (p := true) (q := bif (bif y34.1 then true else y35.1) then (!y37.1) else false) rfl (by kernel_rfl) hc43 (by kernel_rfl))) ?_
               refine XL_cons rfl (X_of_Y0 rfl (Y0_pick1 (b := bif (bif (bif y34.2 then y35.2 else false) then y36.2 else false) then y37.2 else false) (p := bif (y36.1 != (bif y34.1 then y35.1 else false)) then true else (bif (bif y34.1 then true else y35.1) then (!y37.1) else false)) (q := false) rfl (by kernel_rfl) hc41 (by kernel_rfl))) ?_
               refine XL_nil ?_
               subst ht46
               kernel_rfl
              ·refine XL_skipT _ rfl rfl (by kernel_rfl) hc45 rfl ?_
               refine XL_skipT _ rfl rfl (by kernel_rfl) hc45 rfl ?_
               refine XL_takeC _ rfl rfl (by kernel_rfl) hc43 (X_of_Y0 rfl (Y0_pick0 (b := bif y34.1 then true else y35.1) (p := !y37.1) (q := false) rfl (by kernel_rfl) hc45 (by kernel_rfl))) ?_
               refine XL_takeC _ rfl rfl (by kernel_rfl) hc41 (X_of_Y0 rfl (Y0_pick0 (b := y36.1 != (bif y34.1 then y35.1 else false)) (p := true) (q := bif (bif y34.1 then true else y35.1) then (!y37.1) else false) rfl (by kernel_rfl) hc43 (by kernel_rfl))) ?_
               refine XL_cons rfl (X_of_Y0 rfl (Y0_pick1 (b := bif (bif (bif y34.2 then y35.2 else false) then y36.2 else false) then y37.2 else false) (p := bif (y36.1 != (bif y34.1 then y35.1 else false)) then true else (bif (bif y34.1 then true else y35.1) then (!y37.1) else false)) (q := false) rfl (by kernel_rfl) hc41 (by kernel_rfl))) ?_
               refine XL_nil ?_
               subst ht46
               kernel_rfl
             ·refine XL_takeC _ rfl rfl (by kernel_rfl) hc44 (X_of_Y0 rfl (E_move (Bo y35.1) rfl (by kernel_rfl))) ?_
              refine XL_takeC _ rfl rfl (by kernel_rfl) hc43 (X_of_Y0 rfl (Y0_pick0 (b := y34.1) (p := true) (q := y35.1) rfl (by kernel_rfl) hc44 (by kernel_rfl))) ?_
              refine XL_takeC _ rfl rfl (by kernel_rfl) hc43 (X_of_Y0 rfl (E_move (Bo (bif y34.1 then true else y35.1)) rfl (by kernel_rfl))) ?_
              refine XL_split (bif y34.1 then true else y35.1) (fun hc45 => ?_) (fun hc45 => ?_)
              ·refine XL_takeC _ rfl rfl (by kernel_rfl) hc45 (X_of_Y0 rfl (E_move (Bo y37.1) rfl (by kernel_rfl))) ?_
               refine XL_takeC _ rfl rfl (by kernel_rfl) hc45 (X_of_Y0 rfl (Y0_not (b := y37.1) rfl (by kernel_rfl))) ?_
               refine XL_takeC _ rfl rfl (by kernel_rfl) hc43 (X_of_Y0 rfl (Y0_pick1 (b := bif y34.1 then true else y35.1) (p := !y37.1) (q := false) rfl (by kernel_rfl) hc45 (by kernel_rfl))) ?_
               refine XL_takeC _ rfl rfl (by kernel_rfl) hc41 (X_of_Y0 rfl (Y0_pick0 (b := y36.1 != (bif y34.1 then y35.1 else false)) (p := true) (q := bif (bif y34.1 then true else y35.1) then (!y37.1) else false) rfl (by kernel_rfl) hc43 (by kernel_rfl))) ?_
               refine XL_cons rfl (X_of_Y0 rfl (Y0_pick1 (b := bif (bif (bif y34.2 then y35.2 else false) then y36.2 else false) then y37.2 else false) (p := bif (y36.1 != (bif y34.1 then y35.1 else false)) then true else (bif (bif y34.1 then true else y35.1) then (!y37.1) else false)) (q := false) rfl (by kernel_rfl) hc41 (by kernel_rfl))) ?_
               refine XL_nil ?_
               subst ht46
               kernel_rfl
              ·refine XL_skipT _ rfl rfl (by kernel_rfl) hc45 rfl ?_
               refine XL_skipT _ rfl rfl (by kernel_rfl) hc45 rfl ?_
               refine XL_takeC _ rfl rfl (by kernel_rfl) hc43 (X_of_Y0 rfl (Y0_pick0 (b := bif y34.1 then true else y35.1) (p := !y37.1) (q := false) rfl (by kernel_rfl) hc45 (by kernel_rfl))) ?_
               refine XL_takeC _ rfl rfl (by kernel_rfl) hc41 (X_of_Y0 rfl (Y0_pick0 (b := y36.1 != (bif y34.1 then y35.1 else false)) (p := true) (q := bif (bif y34.1 then true else y35.1) then (!y37.1) else false) rfl (by kernel_rfl) hc43 (by kernel_rfl))) ?_
               refine XL_cons rfl (X_of_Y0 rfl (Y0_pick1 (b := bif (bif (bif y34.2 then y35.2 else false) then y36.2 else false) then y37.2 else false) (p := bif (y36.1 != (bif y34.1 then y35.1 else false)) then true else (bif (bif y34.1 then true else y35.1) then (!y37.1) else false)) (q := false) rfl (by kernel_rfl) hc41 (by kernel_rfl))) ?_
               refine XL_nil ?_
               subst ht46
               kernel_rfl
           ·refine XL_skipT _ rfl rfl (by kernel_rfl) hc42 rfl ?_
            refine XL_takeC _ rfl rfl (by kernel_rfl) hc41 (X_of_Y0 rfl (Y0_pick0 (b := y34.1) (p := y35.1) (q := false) rfl (by kernel_rfl) hc42 (by kernel_rfl))) ?_
            refine XL_takeC _ rfl rfl (by kernel_rfl) hc41 (X_of_Y0 rfl (Y0_neb (a := y36.1) (b := bif y34.1 then y35.1 else false) Try.underlying4 rfl (by kernel_rfl) (by kernel_rfl))) ?_
            refine XL_takeC _ rfl rfl (by kernel_rfl) hc41 (X_of_Y0 rfl (E_move (Bo (y36.1 != (bif y34.1 then y35.1 else false))) rfl (by kernel_rfl))) ?_
            refine XL_split (y36.1 != (bif y34.1 then y35.1 else false)) (fun hc43 => ?_) (fun hc43 => ?_)
            ·refine XL_skipF _ rfl rfl (by kernel_rfl) hc43 rfl ?_
             refine XL_skipF _ rfl rfl (by kernel_rfl) hc43 rfl ?_
             refine XL_skip2 rfl rfl (by kernel_rfl) rfl ?_
             refine XL_skipF _ rfl rfl (by kernel_rfl) hc43 rfl ?_
             refine XL_skipF _ rfl rfl (by kernel_rfl) hc43 rfl ?_
             refine XL_skip2 rfl rfl (by kernel_rfl) rfl ?_
             refine XL_skip2 rfl rfl (by kernel_rfl) rfl ?_
             refine XL_skipF _ rfl rfl (by kernel_rfl) hc43 rfl ?_
             refine XL_takeC _ rfl rfl (by kernel_rfl) hc41 (X_of_Y0 rfl (Y0_pick1 (b := y36.1 != (bif y34.1 then y35.1 else false)) (p := true) (q := bif (bif y34.1 then true else y35.1) then (!y37.1) else false) rfl (by kernel_rfl) hc43 (by kernel_rfl))) ?_
             refine XL_cons rfl (X_of_Y0 rfl (Y0_pick1 (b := bif (bif (bif y34.2 then y35.2 else false) then y36.2 else false) then y37.2 else false) (p := bif (y36.1 != (bif y34.1 then y35.1 else false)) then true else (bif (bif y34.1 then true else y35.1) then (!y37.1) else false)) (q := false) rfl (by kernel_rfl) hc41 (by kernel_rfl))) ?_
             refine XL_nil ?_
             subst ht46
             kernel_rfl
            ·refine XL_takeC _ rfl rfl (by kernel_rfl) hc43 (X_of_Y0 rfl (E_move (Bo y34.1) rfl (by kernel_rfl))) ?_
             refine XL_takeC _ rfl rfl (by kernel_rfl) hc43 (X_of_Y0 rfl (E_move (Bo y34.1) rfl (by kernel_rfl))) ?_
             refine XL_split y34.1 (fun hc44 => ?_) (fun hc44 => ?_)
             ·refine XL_skipF _ rfl rfl (by kernel_rfl) hc44 rfl ?_
              refine XL_takeC _ rfl rfl (by kernel_rfl) hc43 (X_of_Y0 rfl (Y0_pick1 (b := y34.1) (p := true) (q := y35.1) rfl (by kernel_rfl) hc44 (by kernel_rfl))) ?_
              refine XL_takeC _ rfl rfl (by kernel_rfl) hc43 (X_of_Y0 rfl (E_move (Bo (bif y34.1 then true else y35.1)) rfl (by kernel_rfl))) ?_
              refine XL_split (bif y34.1 then true else y35.1) (fun hc45 => ?_) (fun hc45 => ?_)
              ·refine XL_takeC _ rfl rfl (by kernel_rfl) hc45 (X_of_Y0 rfl (E_move (Bo y37.1) rfl (by kernel_rfl))) ?_
               refine XL_takeC _ rfl rfl (by kernel_rfl) hc45 (X_of_Y0 rfl (Y0_not (b := y37.1) rfl (by kernel_rfl))) ?_
               refine XL_takeC _ rfl rfl (by kernel_rfl) hc43 (X_of_Y0 rfl (Y0_pick1 (b := bif y34.1 then true else y35.1) (p := !y37.1) (q := false) rfl (by kernel_rfl) hc45 (by kernel_rfl))) ?_
               refine XL_takeC _ rfl rfl (by kernel_rfl) hc41 (X_of_Y0 rfl (Y0_pick0 (b := y36.1 != (bif y34.1 then y35.1 else false)) (p := true) (q := bif (bif y34.1 then true else y35.1) then (!y37.1) else false) rfl (by kernel_rfl) hc43 (by kernel_rfl))) ?_
               refine XL_cons rfl (X_of_Y0 rfl (Y0_pick1 (b := bif (bif (bif y34.2 then y35.2 else false) then y36.2 else false) then y37.2 else false) (p := bif (y36.1 != (bif y34.1 then y35.1 else false)) then true else (bif (bif y34.1 then true else y35.1) then (!y37.1) else false)) (q := false) rfl (by kernel_rfl) hc41 (by kernel_rfl))) ?_
               refine XL_nil ?_
               subst ht46
               kernel_rfl
              ·refine XL_skipT _ rfl rfl (by kernel_rfl) hc45 rfl ?_
               refine XL_skipT _ rfl rfl (by kernel_rfl) hc45 rfl ?_
               refine XL_takeC _ rfl rfl (by kernel_rfl) hc43 (X_of_Y0 rfl (Y0_pick0 (b := bif y34.1 then true else y35.1) (p := !y37.1) (q := false) rfl (by kernel_rfl) hc45 (by kernel_rfl))) ?_
               refine XL_takeC _ rfl rfl (by kernel_rfl) hc41 (X_of_Y0 rfl (Y0_pick0 (b := y36.1 != (bif y34.1 then y35.1 else false)) (p := true) (q := bif (bif y34.1 then true else y35.1) then (!y37.1) else false) rfl (by kernel_rfl) hc43 (by kernel_rfl))) ?_
               refine XL_cons rfl (X_of_Y0 rfl (Y0_pick1 (b := bif (bif (bif y34.2 then y35.2 else false) then y36.2 else false) then y37.2 else false) (p := bif (y36.1 != (bif y34.1 then y35.1 else false)) then true else (bif (bif y34.1 then true else y35.1) then (!y37.1) else false)) (q := false) rfl (by kernel_rfl) hc41 (by kernel_rfl))) ?_
               refine XL_nil ?_
               subst ht46
               kernel_rfl
             ·refine XL_takeC _ rfl rfl (by kernel_rfl) hc44 (X_of_Y0 rfl (E_move (Bo y35.1) rfl (by kernel_rfl))) ?_
              refine XL_takeC _ rfl rfl (by kernel_rfl) hc43 (X_of_Y0 rfl (Y0_pick0 (b := y34.1) (p := true) (q := y35.1) rfl (by kernel_rfl) hc44 (by kernel_rfl))) ?_
              refine XL_takeC _ rfl rfl (by kernel_rfl) hc43 (X_of_Y0 rfl (E_move (Bo (bif y34.1 then true else y35.1)) rfl (by kernel_rfl))) ?_
              refine XL_split (bif y34.1 then true else y35.1) (fun hc45 => ?_) (fun hc45 => ?_)
              ·refine XL_takeC _ rfl rfl (by kernel_rfl) hc45 (X_of_Y0 rfl (E_move (Bo y37.1) rfl (by kernel_rfl))) ?_
               refine XL_takeC _ rfl rfl (by kernel_rfl) hc45 (X_of_Y0 rfl (Y0_not (b := y37.1) rfl (by kernel_rfl))) ?_
               refine XL_takeC _ rfl rfl (by kernel_rfl) hc43 (X_of_Y0 rfl (Y0_pick1 (b := bif y34.1 then true else y35.1) (p := !y37.1) (q := false) rfl (by kernel_rfl) hc45 (by kernel_rfl))) ?_
               refine XL_takeC _ rfl rfl (by kernel_rfl) hc41 (X_of_Y0 rfl (Y0_pick0 (b := y36.1 != (bif y34.1 then y35.1 else false)) (p := true) (q := bif (bif y34.1 then true else y35.1) then (!y37.1) else false) rfl (by kernel_rfl) hc43 (by kernel_rfl))) ?_
               refine XL_cons rfl (X_of_Y0 rfl (Y0_pick1 (b := bif (bif (bif y34.2 then y35.2 else false) then y36.2 else false) then y37.2 else false) (p := bif (y36.1 != (bif y34.1 then y35.1 else false)) then true else (bif (bif y34.1 then true else y35.1) then (!y37.1) else false)) (q := false) rfl (by kernel_rfl) hc41 (by kernel_rfl))) ?_
               refine XL_nil ?_
               subst ht46
               kernel_rfl
              ·refine XL_skipT _ rfl rfl (by kernel_rfl) hc45 rfl ?_
               refine XL_skipT _ rfl rfl (by kernel_rfl) hc45 rfl ?_
               refine XL_takeC _ rfl rfl (by kernel_rfl) hc43 (X_of_Y0 rfl (Y0_pick0 (b := bif y34.1 then true else y35.1) (p := !y37.1) (q := false) rfl (by kernel_rfl) hc45 (by kernel_rfl))) ?_
               refine XL_takeC _ rfl rfl (by kernel_rfl) hc41 (X_of_Y0 rfl (Y0_pick0 (b := y36.1 != (bif y34.1 then y35.1 else false)) (p := true) (q := bif (bif y34.1 then true else y35.1) then (!y37.1) else false) rfl (by kernel_rfl) hc43 (by kernel_rfl))) ?_
               refine XL_cons rfl (X_of_Y0 rfl (Y0_pick1 (b := bif (bif (bif y34.2 then y35.2 else false) then y36.2 else false) then y37.2 else false) (p := bif (y36.1 != (bif y34.1 then y35.1 else false)) then true else (bif (bif y34.1 then true else y35.1) then (!y37.1) else false)) (q := false) rfl (by kernel_rfl) hc41 (by kernel_rfl))) ?_
               refine XL_nil ?_
               subst ht46
               kernel_rfl
          ·refine XL_skipT _ rfl rfl (by kernel_rfl) hc41 rfl ?_
           refine XL_skipT _ rfl rfl (by kernel_rfl) hc41 rfl ?_
           refine XL_skipT _ rfl rfl (by kernel_rfl) hc41 rfl ?_
           refine XL_skip2 rfl rfl (by kernel_rfl) rfl ?_
           refine XL_skipT _ rfl rfl (by kernel_rfl) hc41 rfl ?_
           refine XL_skipT _ rfl rfl (by kernel_rfl) hc41 rfl ?_
           refine XL_skipT _ rfl rfl (by kernel_rfl) hc41 rfl ?_
           refine XL_skip2 rfl rfl (by kernel_rfl) rfl ?_
           refine XL_skip2 rfl rfl (by kernel_rfl) rfl ?_
           refine XL_skip2 rfl rfl (by kernel_rfl) rfl ?_
           refine XL_skip2 rfl rfl (by kernel_rfl) rfl ?_
           refine XL_skip2 rfl rfl (by kernel_rfl) rfl ?_
           refine XL_skip2 rfl rfl (by kernel_rfl) rfl ?_
           refine XL_skip2 rfl rfl (by kernel_rfl) rfl ?_
           refine XL_skip2 rfl rfl (by kernel_rfl) rfl ?_
           refine XL_skipT _ rfl rfl (by kernel_rfl) hc41 rfl ?_
           refine XL_cons rfl (X_of_Y0 rfl (Y0_pick0 (b := bif (bif (bif y34.2 then y35.2 else false) then y36.2 else false) then y37.2 else false) (p := bif (y36.1 != (bif y34.1 then y35.1 else false)) then true else (bif (bif y34.1 then true else y35.1) then (!y37.1) else false)) (q := false) rfl (by kernel_rfl) hc41 (by kernel_rfl))) ?_
           refine XL_nil ?_
           subst ht46
           kernel_rfl
         ·refine XL_skipT _ rfl rfl (by kernel_rfl) hc40 rfl ?_
          refine XL_cons rfl (X_of_Y0 rfl (Y0_pick0 (b := bif (bif y34.2 then y35.2 else false) then y36.2 else false) (p := y37.2) (q := false) rfl (by kernel_rfl) hc40 (by kernel_rfl))) ?_
          refine L0 rfl rfl (E_move (Bo (bif (bif (bif y34.2 then y35.2 else false) then y36.2 else false) then y37.2 else false)) rfl (by kernel_rfl)) ?_
          refine XL_split (bif (bif (bif y34.2 then y35.2 else false) then y36.2 else false) then y37.2 else false) (fun hc41 => ?_) (fun hc41 => ?_)
          ·refine XL_takeC _ rfl rfl (by kernel_rfl) hc41 (X_of_Y0 rfl (E_move (Bo y36.1) rfl (by kernel_rfl))) ?_
           refine XL_takeC _ rfl rfl (by kernel_rfl) hc41 (X_of_Y0 rfl (E_move (Bo y34.1) rfl (by kernel_rfl))) ?_
           refine XL_takeC _ rfl rfl (by kernel_rfl) hc41 (X_of_Y0 rfl (E_move (Bo y34.1) rfl (by kernel_rfl))) ?_
           refine XL_split y34.1 (fun hc42 => ?_) (fun hc42 => ?_)
           ·refine XL_takeC _ rfl rfl (by kernel_rfl) hc42 (X_of_Y0 rfl (E_move (Bo y35.1) rfl (by kernel_rfl))) ?_
            refine XL_takeC _ rfl rfl (by kernel_rfl) hc41 (X_of_Y0 rfl (Y0_pick1 (b := y34.1) (p := y35.1) (q := false) rfl (by kernel_rfl) hc42 (by kernel_rfl))) ?_
            refine XL_takeC _ rfl rfl (by kernel_rfl) hc41 (X_of_Y0 rfl (Y0_neb (a := y36.1) (b := bif y34.1 then y35.1 else false) Try.underlying4 rfl (by kernel_rfl) (by kernel_rfl))) ?_
            refine XL_takeC _ rfl rfl (by kernel_rfl) hc41 (X_of_Y0 rfl (E_move (Bo (y36.1 != (bif y34.1 then y35.1 else false))) rfl (by kernel_rfl))) ?_
            refine XL_split (y36.1 != (bif y34.1 then y35.1 else false)) (fun hc43 => ?_) (fun hc43 => ?_)
            ·refine XL_skipF _ rfl rfl (by kernel_rfl) hc43 rfl ?_
             refine XL_skipF _ rfl rfl (by kernel_rfl) hc43 rfl ?_
             refine XL_skip2 rfl rfl (by kernel_rfl) rfl ?_
             refine XL_skipF _ rfl rfl (by kernel_rfl) hc43 rfl ?_
             refine XL_skipF _ rfl rfl (by kernel_rfl) hc43 rfl ?_
             refine XL_skip2 rfl rfl (by kernel_rfl) rfl ?_
             refine XL_skip2 rfl rfl (by kernel_rfl) rfl ?_
             refine XL_skipF _ rfl rfl (by kernel_rfl) hc43 rfl ?_
             refine XL_takeC _ rfl rfl (by kernel_rfl) hc41 (X_of_Y0 rfl (Y0_pick1 (b := y36.1 != (bif y34.1 then y35.1 else false)) (p := true) (q := bif (bif y34.1 then true else y35.1) then (!y37.1) else false) rfl (by kernel_rfl) hc43 (by kernel_rfl))) ?_
             refine XL_cons rfl (X_of_Y0 rfl (Y0_pick1 (b := bif (bif (bif y34.2 then y35.2 else false) then y36.2 else false) then y37.2 else false) (p := bif (y36.1 != (bif y34.1 then y35.1 else false)) then true else (bif (bif y34.1 then true else y35.1) then (!y37.1) else false)) (q := false) rfl (by kernel_rfl) hc41 (by kernel_rfl))) ?_
             refine XL_nil ?_
             subst ht46
             kernel_rfl
            ·refine XL_takeC _ rfl rfl (by kernel_rfl) hc43 (X_of_Y0 rfl (E_move (Bo y34.1) rfl (by kernel_rfl))) ?_
             refine XL_takeC _ rfl rfl (by kernel_rfl) hc43 (X_of_Y0 rfl (E_move (Bo y34.1) rfl (by kernel_rfl))) ?_
             refine XL_split y34.1 (fun hc44 => ?_) (fun hc44 => ?_)
             ·refine XL_skipF _ rfl rfl (by kernel_rfl) hc44 rfl ?_
              refine XL_takeC _ rfl rfl (by kernel_rfl) hc43 (X_of_Y0 rfl (Y0_pick1 (b := y34.1) (p := true) (q := y35.1) rfl (by kernel_rfl) hc44 (by kernel_rfl))) ?_
              refine XL_takeC _ rfl rfl (by kernel_rfl) hc43 (X_of_Y0 rfl (E_move (Bo (bif y34.1 then true else y35.1)) rfl (by kernel_rfl))) ?_
              refine XL_split (bif y34.1 then true else y35.1) (fun hc45 => ?_) (fun hc45 => ?_)
              ·refine XL_takeC _ rfl rfl (by kernel_rfl) hc45 (X_of_Y0 rfl (E_move (Bo y37.1) rfl (by kernel_rfl))) ?_
               refine XL_takeC _ rfl rfl (by kernel_rfl) hc45 (X_of_Y0 rfl (Y0_not (b := y37.1) rfl (by kernel_rfl))) ?_
               refine XL_takeC _ rfl rfl (by kernel_rfl) hc43 (X_of_Y0 rfl (Y0_pick1 (b := bif y34.1 then true else y35.1) (p := !y37.1) (q := false) rfl (by kernel_rfl) hc45 (by kernel_rfl))) ?_
               refine XL_takeC _ rfl rfl (by kernel_rfl) hc41 (X_of_Y0 rfl (Y0_pick0 (b := y36.1 != (bif y34.1 then y35.1 else false)) (p := true) (q := bif (bif y34.1 then true else y35.1) then (!y37.1) else false) rfl (by kernel_rfl) hc43 (by kernel_rfl))) ?_
               refine XL_cons rfl (X_of_Y0 rfl (Y0_pick1 (b := bif (bif (bif y34.2 then y35.2 else false) then y36.2 else false) then y37.2 else false) (p := bif (y36.1 != (bif y34.1 then y35.1 else false)) then true else (bif (bif y34.1 then true else y35.1) then (!y37.1) else false)) (q := false) rfl (by kernel_rfl) hc41 (by kernel_rfl))) ?_
               refine XL_nil ?_
               subst ht46
               kernel_rfl
              ·refine XL_skipT _ rfl rfl (by kernel_rfl) hc45 rfl ?_
               refine XL_skipT _ rfl rfl (by kernel_rfl) hc45 rfl ?_
               refine XL_takeC _ rfl rfl (by kernel_rfl) hc43 (X_of_Y0 rfl (Y0_pick0 (b := bif y34.1 then true else y35.1) (p := !y37.1) (q := false) rfl (by kernel_rfl) hc45 (by kernel_rfl))) ?_
               refine XL_takeC _ rfl rfl (by kernel_rfl) hc41 (X_of_Y0 rfl (Y0_pick0 (b := y36.1 != (bif y34.1 then y35.1 else false)) (p := true) (q := bif (bif y34.1 then true else y35.1) then (!y37.1) else false) rfl (by kernel_rfl) hc43 (by kernel_rfl))) ?_
               refine XL_cons rfl (X_of_Y0 rfl (Y0_pick1 (b := bif (bif (bif y34.2 then y35.2 else false) then y36.2 else false) then y37.2 else false) (p := bif (y36.1 != (bif y34.1 then y35.1 else false)) then true else (bif (bif y34.1 then true else y35.1) then (!y37.1) else false)) (q := false) rfl (by kernel_rfl) hc41 (by kernel_rfl))) ?_
               refine XL_nil ?_
               subst ht46
               kernel_rfl
             ·refine XL_takeC _ rfl rfl (by kernel_rfl) hc44 (X_of_Y0 rfl (E_move (Bo y35.1) rfl (by kernel_rfl))) ?_
              refine XL_takeC _ rfl rfl (by kernel_rfl) hc43 (X_of_Y0 rfl (Y0_pick0 (b := y34.1) (p := true) (q := y35.1) rfl (by kernel_rfl) hc44 (by kernel_rfl))) ?_
              refine XL_takeC _ rfl rfl (by kernel_rfl) hc43 (X_of_Y0 rfl (E_move (Bo (bif y34.1 then true else y35.1)) rfl (by kernel_rfl))) ?_
              refine XL_split (bif y34.1 then true else y35.1) (fun hc45 => ?_) (fun hc45 => ?_)
              ·refine XL_takeC _ rfl rfl (by kernel_rfl) hc45 (X_of_Y0 rfl (E_move (Bo y37.1) rfl (by kernel_rfl))) ?_
               refine XL_takeC _ rfl rfl (by kernel_rfl) hc45 (X_of_Y0 rfl (Y0_not (b := y37.1) rfl (by kernel_rfl))) ?_
               refine XL_takeC _ rfl rfl (by kernel_rfl) hc43 (X_of_Y0 rfl (Y0_pick1 (b := bif y34.1 then true else y35.1) (p := !y37.1) (q := false) rfl (by kernel_rfl) hc45 (by kernel_rfl))) ?_
               refine XL_takeC _ rfl rfl (by kernel_rfl) hc41 (X_of_Y0 rfl (Y0_pick0 (b := y36.1 != (bif y34.1 then y35.1 else false)) (p := true) (q := bif (bif y34.1 then true else y35.1) then (!y37.1) else false) rfl (by kernel_rfl) hc43 (by kernel_rfl))) ?_
               refine XL_cons rfl (X_of_Y0 rfl (Y0_pick1 (b := bif (bif (bif y34.2 then y35.2 else false) then y36.2 else false) then y37.2 else false) (p := bif (y36.1 != (bif y34.1 then y35.1 else false)) then true else (bif (bif y34.1 then true else y35.1) then (!y37.1) else false)) (q := false) rfl (by kernel_rfl) hc41 (by kernel_rfl))) ?_
               refine XL_nil ?_
               subst ht46
               kernel_rfl
              ·refine XL_skipT _ rfl rfl (by kernel_rfl) hc45 rfl ?_
               refine XL_skipT _ rfl rfl (by kernel_rfl) hc45 rfl ?_
               refine XL_takeC _ rfl rfl (by kernel_rfl) hc43 (X_of_Y0 rfl (Y0_pick0 (b := bif y34.1 then true else y35.1) (p := !y37.1) (q := false) rfl (by kernel_rfl) hc45 (by kernel_rfl))) ?_
               refine XL_takeC _ rfl rfl (by kernel_rfl) hc41 (X_of_Y0 rfl (Y0_pick0 (b := y36.1 != (bif y34.1 then y35.1 else false)) (p := true) (q := bif (bif y34.1 then true else y35.1) then (!y37.1) else false) rfl (by kernel_rfl) hc43 (by kernel_rfl))) ?_
               refine XL_cons rfl (X_of_Y0 rfl (Y0_pick1 (b := bif (bif (bif y34.2 then y35.2 else false) then y36.2 else false) then y37.2 else false) (p := bif (y36.1 != (bif y34.1 then y35.1 else false)) then true else (bif (bif y34.1 then true else y35.1) then (!y37.1) else false)) (q := false) rfl (by kernel_rfl) hc41 (by kernel_rfl))) ?_
               refine XL_nil ?_
               subst ht46
               kernel_rfl
           ·refine XL_skipT _ rfl rfl (by kernel_rfl) hc42 rfl ?_
            refine XL_takeC _ rfl rfl (by kernel_rfl) hc41 (X_of_Y0 rfl (Y0_pick0 (b := y34.1) (p := y35.1) (q := false) rfl (by kernel_rfl) hc42 (by kernel_rfl))) ?_
            refine XL_takeC _ rfl rfl (by kernel_rfl) hc41 (X_of_Y0 rfl (Y0_neb (a := y36.1) (b := bif y34.1 then y35.1 else false) Try.underlying4 rfl (by kernel_rfl) (by kernel_rfl))) ?_
            refine XL_takeC _ rfl rfl (by kernel_rfl) hc41 (X_of_Y0 rfl (E_move (Bo (y36.1 != (bif y34.1 then y35.1 else false))) rfl (by kernel_rfl))) ?_
            refine XL_split (y36.1 != (bif y34.1 then y35.1 else false)) (fun hc43 => ?_) (fun hc43 => ?_)
            ·refine XL_skipF _ rfl rfl (by kernel_rfl) hc43 rfl ?_
             refine XL_skipF _ rfl rfl (by kernel_rfl) hc43 rfl ?_
             refine XL_skip2 rfl rfl (by kernel_rfl) rfl ?_
             refine XL_skipF _ rfl rfl (by kernel_rfl) hc43 rfl ?_
             refine XL_skipF _ rfl rfl (by kernel_rfl) hc43 rfl ?_
             refine XL_skip2 rfl rfl (by kernel_rfl) rfl ?_
             refine XL_skip2 rfl rfl (by kernel_rfl) rfl ?_
             refine XL_skipF _ rfl rfl (by kernel_rfl) hc43 rfl ?_
             refine XL_takeC _ rfl rfl (by kernel_rfl) hc41 (X_of_Y0 rfl (Y0_pick1 (b := y36.1 != (bif y34.1 then y35.1 else false)) (p := true) (q := bif (bif y34.1 then true else y35.1) then (!y37.1) else false) rfl (by kernel_rfl) hc43 (by kernel_rfl))) ?_
             refine XL_cons rfl (X_of_Y0 rfl (Y0_pick1 (b := bif (bif (bif y34.2 then y35.2 else false) then y36.2 else false) then y37.2 else false) (p := bif (y36.1 != (bif y34.1 then y35.1 else false)) then true else (bif (bif y34.1 then true else y35.1) then (!y37.1) else false)) (q := false) rfl (by kernel_rfl) hc41 (by kernel_rfl))) ?_
             refine XL_nil ?_
             subst ht46
             kernel_rfl
            ·refine XL_takeC _ rfl rfl (by kernel_rfl) hc43 (X_of_Y0 rfl (E_move (Bo y34.1) rfl (by kernel_rfl))) ?_
             refine XL_takeC _ rfl rfl (by kernel_rfl) hc43 (X_of_Y0 rfl (E_move (Bo y34.1) rfl (by kernel_rfl))) ?_
             refine XL_split y34.1 (fun hc44 => ?_) (fun hc44 => ?_)
             ·refine XL_skipF _ rfl rfl (by kernel_rfl) hc44 rfl ?_
              refine XL_takeC _ rfl rfl (by kernel_rfl) hc43 (X_of_Y0 rfl (Y0_pick1 (b := y34.1) (p := true) (q := y35.1) rfl (by kernel_rfl) hc44 (by kernel_rfl))) ?_
              refine XL_takeC _ rfl rfl (by kernel_rfl) hc43 (X_of_Y0 rfl (E_move (Bo (bif y34.1 then true else y35.1)) rfl (by kernel_rfl))) ?_
              refine XL_split (bif y34.1 then true else y35.1) (fun hc45 => ?_) (fun hc45 => ?_)
              ·refine XL_takeC _ rfl rfl (by kernel_rfl) hc45 (X_of_Y0 rfl (E_move (Bo y37.1) rfl (by kernel_rfl))) ?_
               refine XL_takeC _ rfl rfl (by kernel_rfl) hc45 (X_of_Y0 rfl (Y0_not (b := y37.1) rfl (by kernel_rfl))) ?_
               refine XL_takeC _ rfl rfl (by kernel_rfl) hc43 (X_of_Y0 rfl (Y0_pick1 (b := bif y34.1 then true else y35.1) (p := !y37.1) (q := false) rfl (by kernel_rfl) hc45 (by kernel_rfl))) ?_
               refine XL_takeC _ rfl rfl (by kernel_rfl) hc41 (X_of_Y0 rfl (Y0_pick0 (b := y36.1 != (bif y34.1 then y35.1 else false)) (p := true) (q := bif (bif y34.1 then true else y35.1) then (!y37.1) else false) rfl (by kernel_rfl) hc43 (by kernel_rfl))) ?_
               refine XL_cons rfl (X_of_Y0 rfl (Y0_pick1 (b := bif (bif (bif y34.2 then y35.2 else false) then y36.2 else false) then y37.2 else false) (p := bif (y36.1 != (bif y34.1 then y35.1 else false)) then true else (bif (bif y34.1 then true else y35.1) then (!y37.1) else false)) (q := false) rfl (by kernel_rfl) hc41 (by kernel_rfl))) ?_
               refine XL_nil ?_
               subst ht46
               kernel_rfl
              ·refine XL_skipT _ rfl rfl (by kernel_rfl) hc45 rfl ?_
               refine XL_skipT _ rfl rfl (by kernel_rfl) hc45 rfl ?_
               refine XL_takeC _ rfl rfl (by kernel_rfl) hc43 (X_of_Y0 rfl (Y0_pick0 (b := bif y34.1 then true else y35.1) (p := !y37.1) (q := false) rfl (by kernel_rfl) hc45 (by kernel_rfl))) ?_
               refine XL_takeC _ rfl rfl (by kernel_rfl) hc41 (X_of_Y0 rfl (Y0_pick0 (b := y36.1 != (bif y34.1 then y35.1 else false)) (p := true) (q := bif (bif y34.1 then true else y35.1) then (!y37.1) else false) rfl (by kernel_rfl) hc43 (by kernel_rfl))) ?_
               refine XL_cons rfl (X_of_Y0 rfl (Y0_pick1 (b := bif (bif (bif y34.2 then y35.2 else false) then y36.2 else false) then y37.2 else false) (p := bif (y36.1 != (bif y34.1 then y35.1 else false)) then true else (bif (bif y34.1 then true else y35.1) then (!y37.1) else false)) (q := false) rfl (by kernel_rfl) hc41 (by kernel_rfl))) ?_
               refine XL_nil ?_
               subst ht46
               kernel_rfl
             ·refine XL_takeC _ rfl rfl (by kernel_rfl) hc44 (X_of_Y0 rfl (E_move (Bo y35.1) rfl (by kernel_rfl))) ?_
              refine XL_takeC _ rfl rfl (by kernel_rfl) hc43 (X_of_Y0 rfl (Y0_pick0 (b := y34.1) (p := true) (q := y35.1) rfl (by kernel_rfl) hc44 (by kernel_rfl))) ?_
              refine XL_takeC _ rfl rfl (by kernel_rfl) hc43 (X_of_Y0 rfl (E_move (Bo (bif y34.1 then true else y35.1)) rfl (by kernel_rfl))) ?_
              refine XL_split (bif y34.1 then true else y35.1) (fun hc45 => ?_) (fun hc45 => ?_)
              ·refine XL_takeC _ rfl rfl (by kernel_rfl) hc45 (X_of_Y0 rfl (E_move (Bo y37.1) rfl (by kernel_rfl))) ?_
               refine XL_takeC _ rfl rfl (by kernel_rfl) hc45 (X_of_Y0 rfl (Y0_not (b := y37.1) rfl (by kernel_rfl))) ?_
               refine XL_takeC _ rfl rfl (by kernel_rfl) hc43 (X_of_Y0 rfl (Y0_pick1 (b := bif y34.1 then true else y35.1) (p := !y37.1) (q := false) rfl (by kernel_rfl) hc45 (by kernel_rfl))) ?_
               refine XL_takeC _ rfl rfl (by kernel_rfl) hc41 (X_of_Y0 rfl (Y0_pick0 (b := y36.1 != (bif y34.1 then y35.1 else false)) (p := true) (q := bif (bif y34.1 then true else y35.1) then (!y37.1) else false) rfl (by kernel_rfl) hc43 (by kernel_rfl))) ?_
               refine XL_cons rfl (X_of_Y0 rfl (Y0_pick1 (b := bif (bif (bif y34.2 then y35.2 else false) then y36.2 else false) then y37.2 else false) (p := bif (y36.1 != (bif y34.1 then y35.1 else false)) then true else (bif (bif y34.1 then true else y35.1) then (!y37.1) else false)) (q := false) rfl (by kernel_rfl) hc41 (by kernel_rfl))) ?_
               refine XL_nil ?_
               subst ht46
               kernel_rfl
              ·refine XL_skipT _ rfl rfl (by kernel_rfl) hc45 rfl ?_
               refine XL_skipT _ rfl rfl (by kernel_rfl) hc45 rfl ?_
               refine XL_takeC _ rfl rfl (by kernel_rfl) hc43 (X_of_Y0 rfl (Y0_pick0 (b := bif y34.1 then true else y35.1) (p := !y37.1) (q := false) rfl (by kernel_rfl) hc45 (by kernel_rfl))) ?_
               refine XL_takeC _ rfl rfl (by kernel_rfl) hc41 (X_of_Y0 rfl (Y0_pick0 (b := y36.1 != (bif y34.1 then y35.1 else false)) (p := true) (q := bif (bif y34.1 then true else y35.1) then (!y37.1) else false) rfl (by kernel_rfl) hc43 (by kernel_rfl))) ?_
               refine XL_cons rfl (X_of_Y0 rfl (Y0_pick1 (b := bif (bif (bif y34.2 then y35.2 else false) then y36.2 else false) then y37.2 else false) (p := bif (y36.1 != (bif y34.1 then y35.1 else false)) then true else (bif (bif y34.1 then true else y35.1) then (!y37.1) else false)) (q := false) rfl (by kernel_rfl) hc41 (by kernel_rfl))) ?_
               refine XL_nil ?_
               subst ht46
               kernel_rfl
          ·refine XL_skipT _ rfl rfl (by kernel_rfl) hc41 rfl ?_
           refine XL_skipT _ rfl rfl (by kernel_rfl) hc41 rfl ?_
           refine XL_skipT _ rfl rfl (by kernel_rfl) hc41 rfl ?_
           refine XL_skip2 rfl rfl (by kernel_rfl) rfl ?_
           refine XL_skipT _ rfl rfl (by kernel_rfl) hc41 rfl ?_
           refine XL_skipT _ rfl rfl (by kernel_rfl) hc41 rfl ?_
           refine XL_skipT _ rfl rfl (by kernel_rfl) hc41 rfl ?_
           refine XL_skip2 rfl rfl (by kernel_rfl) rfl ?_
           refine XL_skip2 rfl rfl (by kernel_rfl) rfl ?_
           refine XL_skip2 rfl rfl (by kernel_rfl) rfl ?_
           refine XL_skip2 rfl rfl (by kernel_rfl) rfl ?_
           refine XL_skip2 rfl rfl (by kernel_rfl) rfl ?_
           refine XL_skip2 rfl rfl (by kernel_rfl) rfl ?_
           refine XL_skip2 rfl rfl (by kernel_rfl) rfl ?_
           refine XL_skip2 rfl rfl (by kernel_rfl) rfl ?_
           refine XL_skipT _ rfl rfl (by kernel_rfl) hc41 rfl ?_
           refine XL_cons rfl (X_of_Y0 rfl (Y0_pick0 (b := bif (bif (bif y34.2 then y35.2 else false) then y36.2 else false) then y37.2 else false) (p := bif (y36.1 != (bif y34.1 then y35.1 else false)) then true else (bif (bif y34.1 then true else y35.1) then (!y37.1) else false)) (q := false) rfl (by kernel_rfl) hc41 (by kernel_rfl))) ?_
           refine XL_nil ?_
           subst ht46
           kernel_rfl
        ·refine XL_skipT _ rfl rfl (by kernel_rfl) hc39 rfl ?_
         refine XL_cons rfl (X_of_Y0 rfl (Y0_pick0 (b := bif y34.2 then y35.2 else false) (p := y36.2) (q := false) rfl (by kernel_rfl) hc39 (by kernel_rfl))) ?_
         refine L0 rfl rfl (E_move (Bo (bif (bif y34.2 then y35.2 else false) then y36.2 else false)) rfl (by kernel_rfl)) ?_
         refine XL_split (bif (bif y34.2 then y35.2 else false) then y36.2 else false) (fun hc40 => ?_) (fun hc40 => ?_)
         ·refine XL_takeC _ rfl rfl (by kernel_rfl) hc40 (X_of_Y0 rfl (E_move (Bo y37.2) rfl (by kernel_rfl))) ?_
          refine XL_cons rfl (X_of_Y0 rfl (Y0_pick1 (b := bif (bif y34.2 then y35.2 else false) then y36.2 else false) (p := y37.2) (q := false) rfl (by kernel_rfl) hc40 (by kernel_rfl))) ?_
          refine L0 rfl rfl (E_move (Bo (bif (bif (bif y34.2 then y35.2 else false) then y36.2 else false) then y37.2 else false)) rfl (by kernel_rfl)) ?_
          refine XL_split (bif (bif (bif y34.2 then y35.2 else false) then y36.2 else false) then y37.2 else false) (fun hc41 => ?_) (fun hc41 => ?_)
          ·refine XL_takeC _ rfl rfl (by kernel_rfl) hc41 (X_of_Y0 rfl (E_move (Bo y36.1) rfl (by kernel_rfl))) ?_
           refine XL_takeC _ rfl rfl (by kernel_rfl) hc41 (X_of_Y0 rfl (E_move (Bo y34.1) rfl (by kernel_rfl))) ?_
           refine XL_takeC _ rfl rfl (by kernel_rfl) hc41 (X_of_Y0 rfl (E_move (Bo y34.1) rfl (by kernel_rfl))) ?_
           refine XL_split y34.1 (fun hc42 => ?_) (fun hc42 => ?_)
           ·refine XL_takeC _ rfl rfl (by kernel_rfl) hc42 (X_of_Y0 rfl (E_move (Bo y35.1) rfl (by kernel_rfl))) ?_
            refine XL_takeC _ rfl rfl (by kernel_rfl) hc41 (X_of_Y0 rfl (Y0_pick1 (b := y34.1) (p := y35.1) (q := false) rfl (by kernel_rfl) hc42 (by kernel_rfl))) ?_
            refine XL_takeC _ rfl rfl (by kernel_rfl) hc41 (X_of_Y0 rfl (Y0_neb (a := y36.1) (b := bif y34.1 then y35.1 else false) Try.underlying4 rfl (by kernel_rfl) (by kernel_rfl))) ?_
            refine XL_takeC _ rfl rfl (by kernel_rfl) hc41 (X_of_Y0 rfl (E_move (Bo (y36.1 != (bif y34.1 then y35.1 else false))) rfl (by kernel_rfl))) ?_
            refine XL_split (y36.1 != (bif y34.1 then y35.1 else false)) (fun hc43 => ?_) (fun hc43 => ?_)
            ·refine XL_skipF _ rfl rfl (by kernel_rfl) hc43 rfl ?_
             refine XL_skipF _ rfl rfl (by kernel_rfl) hc43 rfl ?_
             refine XL_skip2 rfl rfl (by kernel_rfl) rfl ?_
             refine XL_skipF _ rfl rfl (by kernel_rfl) hc43 rfl ?_
             refine XL_skipF _ rfl rfl (by kernel_rfl) hc43 rfl ?_
             refine XL_skip2 rfl rfl (by kernel_rfl) rfl ?_
             refine XL_skip2 rfl rfl (by kernel_rfl) rfl ?_
             refine XL_skipF _ rfl rfl (by kernel_rfl) hc43 rfl ?_
             refine XL_takeC _ rfl rfl (by kernel_rfl) hc41 (X_of_Y0 rfl (Y0_pick1 (b := y36.1 != (bif y34.1 then y35.1 else false)) (p := true) (q := bif (bif y34.1 then true else y35.1) then (!y37.1) else false) rfl (by kernel_rfl) hc43 (by kernel_rfl))) ?_
             refine XL_cons rfl (X_of_Y0 rfl (Y0_pick1 (b := bif (bif (bif y34.2 then y35.2 else false) then y36.2 else false) then y37.2 else false) (p := bif (y36.1 != (bif y34.1 then y35.1 else false)) then true else (bif (bif y34.1 then true else y35.1) then (!y37.1) else false)) (q := false) rfl (by kernel_rfl) hc41 (by kernel_rfl))) ?_
             refine XL_nil ?_
             subst ht46
             kernel_rfl
            ·refine XL_takeC _ rfl rfl (by kernel_rfl) hc43 (X_of_Y0 rfl (E_move (Bo y34.1) rfl (by kernel_rfl))) ?_
             refine XL_takeC _ rfl rfl (by kernel_rfl) hc43 (X_of_Y0 rfl (E_move (Bo y34.1) rfl (by kernel_rfl))) ?_
             refine XL_split y34.1 (fun hc44 => ?_) (fun hc44 => ?_)
             ·refine XL_skipF _ rfl rfl (by kernel_rfl) hc44 rfl ?_
              refine XL_takeC _ rfl rfl (by kernel_rfl) hc43 (X_of_Y0 rfl (Y0_pick1 (b := y34.1) (p := true) (q := y35.1) rfl (by kernel_rfl) hc44 (by kernel_rfl))) ?_
              refine XL_takeC _ rfl rfl (by kernel_rfl) hc43 (X_of_Y0 rfl (E_move (Bo (bif y34.1 then true else y35.1)) rfl (by kernel_rfl))) ?_
              refine XL_split (bif y34.1 then true else y35.1) (fun hc45 => ?_) (fun hc45 => ?_)
              ·refine XL_takeC _ rfl rfl (by kernel_rfl) hc45 (X_of_Y0 rfl (E_move (Bo y37.1) rfl (by kernel_rfl))) ?_
               refine XL_takeC _ rfl rfl (by kernel_rfl) hc45 (X_of_Y0 rfl (Y0_not (b := y37.1) rfl (by kernel_rfl))) ?_
               refine XL_takeC _ rfl rfl (by kernel_rfl) hc43 (X_of_Y0 rfl (Y0_pick1 (b := bif y34.1 then true else y35.1) (p := !y37.1) (q := false) rfl (by kernel_rfl) hc45 (by kernel_rfl))) ?_
               refine XL_takeC _ rfl rfl (by kernel_rfl) hc41 (X_of_Y0 rfl (Y0_pick0 (b := y36.1 != (bif y34.1 then y35.1 else false)) (p := true) (q := bif (bif y34.1 then true else y35.1) then (!y37.1) else false) rfl (by kernel_rfl) hc43 (by kernel_rfl))) ?_
               refine XL_cons rfl (X_of_Y0 rfl (Y0_pick1 (b := bif (bif (bif y34.2 then y35.2 else false) then y36.2 else false) then y37.2 else false) (p := bif (y36.1 != (bif y34.1 then y35.1 else false)) then true else (bif (bif y34.1 then true else y35.1) then (!y37.1) else false)) (q := false) rfl (by kernel_rfl) hc41 (by kernel_rfl))) ?_
               refine XL_nil ?_
               subst ht46
               kernel_rfl
              ·refine XL_skipT _ rfl rfl (by kernel_rfl) hc45 rfl ?_
               refine XL_skipT _ rfl rfl (by kernel_rfl) hc45 rfl ?_
               refine XL_takeC _ rfl rfl (by kernel_rfl) hc43 (X_of_Y0 rfl (Y0_pick0 (b := bif y34.1 then true else y35.1) (p := !y37.1) (q := false) rfl (by kernel_rfl) hc45 (by kernel_rfl))) ?_
               refine XL_takeC _ rfl rfl (by kernel_rfl) hc41 (X_of_Y0 rfl (Y0_pick0 (b := y36.1 != (bif y34.1 then y35.1 else false)) (p := true) (q := bif (bif y34.1 then true else y35.1) then (!y37.1) else false) rfl (by kernel_rfl) hc43 (by kernel_rfl))) ?_
               refine XL_cons rfl (X_of_Y0 rfl (Y0_pick1 (b := bif (bif (bif y34.2 then y35.2 else false) then y36.2 else false) then y37.2 else false) (p := bif (y36.1 != (bif y34.1 then y35.1 else false)) then true else (bif (bif y34.1 then true else y35.1) then (!y37.1) else false)) (q := false) rfl (by kernel_rfl) hc41 (by kernel_rfl))) ?_
               refine XL_nil ?_
               subst ht46
               kernel_rfl
             ·refine XL_takeC _ rfl rfl (by kernel_rfl) hc44 (X_of_Y0 rfl (E_move (Bo y35.1) rfl (by kernel_rfl))) ?_
              refine XL_takeC _ rfl rfl (by kernel_rfl) hc43 (X_of_Y0 rfl (Y0_pick0 (b := y34.1) (p := true) (q := y35.1) rfl (by kernel_rfl) hc44 (by kernel_rfl))) ?_
              refine XL_takeC _ rfl rfl (by kernel_rfl) hc43 (X_of_Y0 rfl (E_move (Bo (bif y34.1 then true else y35.1)) rfl (by kernel_rfl))) ?_
              refine XL_split (bif y34.1 then true else y35.1) (fun hc45 => ?_) (fun hc45 => ?_)
              ·refine XL_takeC _ rfl rfl (by kernel_rfl) hc45 (X_of_Y0 rfl (E_move (Bo y37.1) rfl (by kernel_rfl))) ?_
               refine XL_takeC _ rfl rfl (by kernel_rfl) hc45 (X_of_Y0 rfl (Y0_not (b := y37.1) rfl (by kernel_rfl))) ?_
               refine XL_takeC _ rfl rfl (by kernel_rfl) hc43 (X_of_Y0 rfl (Y0_pick1 (b := bif y34.1 then true else y35.1) (p := !y37.1) (q := false) rfl (by kernel_rfl) hc45 (by kernel_rfl))) ?_
               refine XL_takeC _ rfl rfl (by kernel_rfl) hc41 (X_of_Y0 rfl (Y0_pick0 (b := y36.1 != (bif y34.1 then y35.1 else false)) (p := true) (q := bif (bif y34.1 then true else y35.1) then (!y37.1) else false) rfl (by kernel_rfl) hc43 (by kernel_rfl))) ?_
               refine XL_cons rfl (X_of_Y0 rfl (Y0_pick1 (b := bif (bif (bif y34.2 then y35.2 else false) then y36.2 else false) then y37.2 else false) (p := bif (y36.1 != (bif y34.1 then y35.1 else false)) then true else (bif (bif y34.1 then true else y35.1) then (!y37.1) else false)) (q := false) rfl (by kernel_rfl) hc41 (by kernel_rfl))) ?_
               refine XL_nil ?_
               subst ht46
               kernel_rfl
              ·refine XL_skipT _ rfl rfl (by kernel_rfl) hc45 rfl ?_
               refine XL_skipT _ rfl rfl (by kernel_rfl) hc45 rfl ?_
               refine XL_takeC _ rfl rfl (by kernel_rfl) hc43 (X_of_Y0 rfl (Y0_pick0 (b := bif y34.1 then true else y35.1) (p := !y37.1) (q := false) rfl (by kernel_rfl) hc45 (by kernel_rfl))) ?_
               refine XL_takeC _ rfl rfl (by kernel_rfl) hc41 (X_of_Y0 rfl (Y0_pick0 (b := y36.1 != (bif y34.1 then y35.1 else false)) (p := true) (q := bif (bif y34.1 then true else y35.1) then (!y37.1) else false) rfl (by kernel_rfl) hc43 (by kernel_rfl))) ?_
               refine XL_cons rfl (X_of_Y0 rfl (Y0_pick1 (b := bif (bif (bif y34.2 then y35.2 else false) then y36.2 else false) then y37.2 else false) (p := bif (y36.1 != (bif y34.1 then y35.1 else false)) then true else (bif (bif y34.1 then true else y35.1) then (!y37.1) else false)) (q := false) rfl (by kernel_rfl) hc41 (by kernel_rfl))) ?_
               refine XL_nil ?_
               subst ht46
               kernel_rfl
           ·refine XL_skipT _ rfl rfl (by kernel_rfl) hc42 rfl ?_
            refine XL_takeC _ rfl rfl (by kernel_rfl) hc41 (X_of_Y0 rfl (Y0_pick0 (b := y34.1) (p := y35.1) (q := false) rfl (by kernel_rfl) hc42 (by kernel_rfl))) ?_
            refine XL_takeC _ rfl rfl (by kernel_rfl) hc41 (X_of_Y0 rfl (Y0_neb (a := y36.1) (b := bif y34.1 then y35.1 else false) Try.underlying4 rfl (by kernel_rfl) (by kernel_rfl))) ?_
            refine XL_takeC _ rfl rfl (by kernel_rfl) hc41 (X_of_Y0 rfl (E_move (Bo (y36.1 != (bif y34.1 then y35.1 else false))) rfl (by kernel_rfl))) ?_
            refine XL_split (y36.1 != (bif y34.1 then y35.1 else false)) (fun hc43 => ?_) (fun hc43 => ?_)
            ·refine XL_skipF _ rfl rfl (by kernel_rfl) hc43 rfl ?_
             refine XL_skipF _ rfl rfl (by kernel_rfl) hc43 rfl ?_
             refine XL_skip2 rfl rfl (by kernel_rfl) rfl ?_
             refine XL_skipF _ rfl rfl (by kernel_rfl) hc43 rfl ?_
             refine XL_skipF _ rfl rfl (by kernel_rfl) hc43 rfl ?_
             refine XL_skip2 rfl rfl (by kernel_rfl) rfl ?_
             refine XL_skip2 rfl rfl (by kernel_rfl) rfl ?_
             refine XL_skipF _ rfl rfl (by kernel_rfl) hc43 rfl ?_
             refine XL_takeC _ rfl rfl (by kernel_rfl) hc41 (X_of_Y0 rfl (Y0_pick1 (b := y36.1 != (bif y34.1 then y35.1 else false)) (p := true) (q := bif (bif y34.1 then true else y35.1) then (!y37.1) else false) rfl (by kernel_rfl) hc43 (by kernel_rfl))) ?_
             refine XL_cons rfl (X_of_Y0 rfl (Y0_pick1 (b := bif (bif (bif y34.2 then y35.2 else false) then y36.2 else false) then y37.2 else false) (p := bif (y36.1 != (bif y34.1 then y35.1 else false)) then true else (bif (bif y34.1 then true else y35.1) then (!y37.1) else false)) (q := false) rfl (by kernel_rfl) hc41 (by kernel_rfl))) ?_
             refine XL_nil ?_
             subst ht46
             kernel_rfl
            ·refine XL_takeC _ rfl rfl (by kernel_rfl) hc43 (X_of_Y0 rfl (E_move (Bo y34.1) rfl (by kernel_rfl))) ?_
             refine XL_takeC _ rfl rfl (by kernel_rfl) hc43 (X_of_Y0 rfl (E_move (Bo y34.1) rfl (by kernel_rfl))) ?_
             refine XL_split y34.1 (fun hc44 => ?_) (fun hc44 => ?_)
             ·refine XL_skipF _ rfl rfl (by kernel_rfl) hc44 rfl ?_
              refine XL_takeC _ rfl rfl (by kernel_rfl) hc43 (X_of_Y0 rfl (Y0_pick1 (b := y34.1) (p := true) (q := y35.1) rfl (by kernel_rfl) hc44 (by kernel_rfl))) ?_
              refine XL_takeC _ rfl rfl (by kernel_rfl) hc43 (X_of_Y0 rfl (E_move (Bo (bif y34.1 then true else y35.1)) rfl (by kernel_rfl))) ?_
              refine XL_split (bif y34.1 then true else y35.1) (fun hc45 => ?_) (fun hc45 => ?_)
              ·refine XL_takeC _ rfl rfl (by kernel_rfl) hc45 (X_of_Y0 rfl (E_move (Bo y37.1) rfl (by kernel_rfl))) ?_
               refine XL_takeC _ rfl rfl (by kernel_rfl) hc45 (X_of_Y0 rfl (Y0_not (b := y37.1) rfl (by kernel_rfl))) ?_
               refine XL_takeC _ rfl rfl (by kernel_rfl) hc43 (X_of_Y0 rfl (Y0_pick1 (b := bif y34.1 then true else y35.1) (p := !y37.1) (q := false) rfl (by kernel_rfl) hc45 (by kernel_rfl))) ?_
               refine XL_takeC _ rfl rfl (by kernel_rfl) hc41 (X_of_Y0 rfl (Y0_pick0 (b := y36.1 != (bif y34.1 then y35.1 else false)) (p := true) (q := bif (bif y34.1 then true else y35.1) then (!y37.1) else false) rfl (by kernel_rfl) hc43 (by kernel_rfl))) ?_
               refine XL_cons rfl (X_of_Y0 rfl (Y0_pick1 (b := bif (bif (bif y34.2 then y35.2 else false) then y36.2 else false) then y37.2 else false) (p := bif (y36.1 != (bif y34.1 then y35.1 else false)) then true else (bif (bif y34.1 then true else y35.1) then (!y37.1) else false)) (q := false) rfl (by kernel_rfl) hc41 (by kernel_rfl))) ?_
               refine XL_nil ?_
               subst ht46
               kernel_rfl
              ·refine XL_skipT _ rfl rfl (by kernel_rfl) hc45 rfl ?_
               refine XL_skipT _ rfl rfl (by kernel_rfl) hc45 rfl ?_
               refine XL_takeC _ rfl rfl (by kernel_rfl) hc43 (X_of_Y0 rfl (Y0_pick0 (b := bif y34.1 then true else y35.1) (p := !y37.1) (q := false) rfl (by kernel_rfl) hc45 (by kernel_rfl))) ?_
               refine XL_takeC _ rfl rfl (by kernel_rfl) hc41 (X_of_Y0 rfl (Y0_pick0 (b := y36.1 != (bif y34.1 then y35.1 else false)) (p := true) (q := bif (bif y34.1 then true else y35.1) then (!y37.1) else false) rfl (by kernel_rfl) hc43 (by kernel_rfl))) ?_
               refine XL_cons rfl (X_of_Y0 rfl (Y0_pick1 (b := bif (bif (bif y34.2 then y35.2 else false) then y36.2 else false) then y37.2 else false) (p := bif (y36.1 != (bif y34.1 then y35.1 else false)) then true else (bif (bif y34.1 then true else y35.1) then (!y37.1) else false)) (q := false) rfl (by kernel_rfl) hc41 (by kernel_rfl))) ?_
               refine XL_nil ?_
               subst ht46
               kernel_rfl
             ·refine XL_takeC _ rfl rfl (by kernel_rfl) hc44 (X_of_Y0 rfl (E_move (Bo y35.1) rfl (by kernel_rfl))) ?_
              refine XL_takeC _ rfl rfl (by kernel_rfl) hc43 (X_of_Y0 rfl (Y0_pick0 (b := y34.1) (p := true) (q := y35.1) rfl (by kernel_rfl) hc44 (by kernel_rfl))) ?_
              refine XL_takeC _ rfl rfl (by kernel_rfl) hc43 (X_of_Y0 rfl (E_move (Bo (bif y34.1 then true else y35.1)) rfl (by kernel_rfl))) ?_
              refine XL_split (bif y34.1 then true else y35.1) (fun hc45 => ?_) (fun hc45 => ?_)
              ·refine XL_takeC _ rfl rfl (by kernel_rfl) hc45 (X_of_Y0 rfl (E_move (Bo y37.1) rfl (by kernel_rfl))) ?_
               refine XL_takeC _ rfl rfl (by kernel_rfl) hc45 (X_of_Y0 rfl (Y0_not (b := y37.1) rfl (by kernel_rfl))) ?_
               refine XL_takeC _ rfl rfl (by kernel_rfl) hc43 (X_of_Y0 rfl (Y0_pick1 (b := bif y34.1 then true else y35.1) (p := !y37.1) (q := false) rfl (by kernel_rfl) hc45 (by kernel_rfl))) ?_
               refine XL_takeC _ rfl rfl (by kernel_rfl) hc41 (X_of_Y0 rfl (Y0_pick0 (b := y36.1 != (bif y34.1 then y35.1 else false)) (p := true) (q := bif (bif y34.1 then true else y35.1) then (!y37.1) else false) rfl (by kernel_rfl) hc43 (by kernel_rfl))) ?_
               refine XL_cons rfl (X_of_Y0 rfl (Y0_pick1 (b := bif (bif (bif y34.2 then y35.2 else false) then y36.2 else false) then y37.2 else false) (p := bif (y36.1 != (bif y34.1 then y35.1 else false)) then true else (bif (bif y34.1 then true else y35.1) then (!y37.1) else false)) (q := false) rfl (by kernel_rfl) hc41 (by kernel_rfl))) ?_
               refine XL_nil ?_
               subst ht46
               kernel_rfl
              ·refine XL_skipT _ rfl rfl (by kernel_rfl) hc45 rfl ?_
               refine XL_skipT _ rfl rfl (by kernel_rfl) hc45 rfl ?_
               refine XL_takeC _ rfl rfl (by kernel_rfl) hc43 (X_of_Y0 rfl (Y0_pick0 (b := bif y34.1 then true else y35.1) (p := !y37.1) (q := false) rfl (by kernel_rfl) hc45 (by kernel_rfl))) ?_
               refine XL_takeC _ rfl rfl (by kernel_rfl) hc41 (X_of_Y0 rfl (Y0_pick0 (b := y36.1 != (bif y34.1 then y35.1 else false)) (p := true) (q := bif (bif y34.1 then true else y35.1) then (!y37.1) else false) rfl (by kernel_rfl) hc43 (by kernel_rfl))) ?_
               refine XL_cons rfl (X_of_Y0 rfl (Y0_pick1 (b := bif (bif (bif y34.2 then y35.2 else false) then y36.2 else false) then y37.2 else false) (p := bif (y36.1 != (bif y34.1 then y35.1 else false)) then true else (bif (bif y34.1 then true else y35.1) then (!y37.1) else false)) (q := false) rfl (by kernel_rfl) hc41 (by kernel_rfl))) ?_
               refine XL_nil ?_
               subst ht46
               kernel_rfl
          ·refine XL_skipT _ rfl rfl (by kernel_rfl) hc41 rfl ?_
           refine XL_skipT _ rfl rfl (by kernel_rfl) hc41 rfl ?_
           refine XL_skipT _ rfl rfl (by kernel_rfl) hc41 rfl ?_
           refine XL_skip2 rfl rfl (by kernel_rfl) rfl ?_
           refine XL_skipT _ rfl rfl (by kernel_rfl) hc41 rfl ?_
           refine XL_skipT _ rfl rfl (by kernel_rfl) hc41 rfl ?_
           refine XL_skipT _ rfl rfl (by kernel_rfl) hc41 rfl ?_
           refine XL_skip2 rfl rfl (by kernel_rfl) rfl ?_
           refine XL_skip2 rfl rfl (by kernel_rfl) rfl ?_
           refine XL_skip2 rfl rfl (by kernel_rfl) rfl ?_
           refine XL_skip2 rfl rfl (by kernel_rfl) rfl ?_
           refine XL_skip2 rfl rfl (by kernel_rfl) rfl ?_
           refine XL_skip2 rfl rfl (by kernel_rfl) rfl ?_
           refine XL_skip2 rfl rfl (by kernel_rfl) rfl ?_
           refine XL_skip2 rfl rfl (by kernel_rfl) rfl ?_
           refine XL_skipT _ rfl rfl (by kernel_rfl) hc41 rfl ?_
           refine XL_cons rfl (X_of_Y0 rfl (Y0_pick0 (b := bif (bif (bif y34.2 then y35.2 else false) then y36.2 else false) then y37.2 else false) (p := bif (y36.1 != (bif y34.1 then y35.1 else false)) then true else (bif (bif y34.1 then true else y35.1) then (!y37.1) else false)) (q := false) rfl (by kernel_rfl) hc41 (by kernel_rfl))) ?_
           refine XL_nil ?_
           subst ht46
           kernel_rfl
         ·refine XL_skipT _ rfl rfl (by kernel_rfl) hc40 rfl ?_
          refine XL_cons rfl (X_of_Y0 rfl (Y0_pick0 (b := bif (bif y34.2 then y35.2 else false) then y36.2 else false) (p := y37.2) (q := false) rfl (by kernel_rfl) hc40 (by kernel_rfl))) ?_
          refine L0 rfl rfl (E_move (Bo (bif (bif (bif y34.2 then y35.2 else false) then y36.2 else false) then y37.2 else false)) rfl (by kernel_rfl)) ?_
          refine XL_split (bif (bif (bif y34.2 then y35.2 else false) then y36.2 else false) then y37.2 else false) (fun hc41 => ?_) (fun hc41 => ?_)
          ·refine XL_takeC _ rfl rfl (by kernel_rfl) hc41 (X_of_Y0 rfl (E_move (Bo y36.1) rfl (by kernel_rfl))) ?_
           refine XL_takeC _ rfl rfl (by kernel_rfl) hc41 (X_of_Y0 rfl (E_move (Bo y34.1) rfl (by kernel_rfl))) ?_
           refine XL_takeC _ rfl rfl (by kernel_rfl) hc41 (X_of_Y0 rfl (E_move (Bo y34.1) rfl (by kernel_rfl))) ?_
           refine XL_split y34.1 (fun hc42 => ?_) (fun hc42 => ?_)
           ·refine XL_takeC _ rfl rfl (by kernel_rfl) hc42 (X_of_Y0 rfl (E_move (Bo y35.1) rfl (by kernel_rfl))) ?_
            refine XL_takeC _ rfl rfl (by kernel_rfl) hc41 (X_of_Y0 rfl (Y0_pick1 (b := y34.1) (p := y35.1) (q := false) rfl (by kernel_rfl) hc42 (by kernel_rfl))) ?_
            refine XL_takeC _ rfl rfl (by kernel_rfl) hc41 (X_of_Y0 rfl (Y0_neb (a := y36.1) (b := bif y34.1 then y35.1 else false) Try.underlying4 rfl (by kernel_rfl) (by kernel_rfl))) ?_
            refine XL_takeC _ rfl rfl (by kernel_rfl) hc41 (X_of_Y0 rfl (E_move (Bo (y36.1 != (bif y34.1 then y35.1 else false))) rfl (by kernel_rfl))) ?_
            refine XL_split (y36.1 != (bif y34.1 then y35.1 else false)) (fun hc43 => ?_) (fun hc43 => ?_)
            ·refine XL_skipF _ rfl rfl (by kernel_rfl) hc43 rfl ?_
             refine XL_skipF _ rfl rfl (by kernel_rfl) hc43 rfl ?_
             refine XL_skip2 rfl rfl (by kernel_rfl) rfl ?_
             refine XL_skipF _ rfl rfl (by kernel_rfl) hc43 rfl ?_
             refine XL_skipF _ rfl rfl (by kernel_rfl) hc43 rfl ?_
             refine XL_skip2 rfl rfl (by kernel_rfl) rfl ?_
             refine XL_skip2 rfl rfl (by kernel_rfl) rfl ?_
             refine XL_skipF _ rfl rfl (by kernel_rfl) hc43 rfl ?_
             refine XL_takeC _ rfl rfl (by kernel_rfl) hc41 (X_of_Y0 rfl (Y0_pick1 (b := y36.1 != (bif y34.1 then y35.1 else false)) (p := true) (q := bif (bif y34.1 then true else y35.1) then (!y37.1) else false) rfl (by kernel_rfl) hc43 (by kernel_rfl))) ?_
             refine XL_cons rfl (X_of_Y0 rfl (Y0_pick1 (b := bif (bif (bif y34.2 then y35.2 else false) then y36.2 else false) then y37.2 else false) (p := bif (y36.1 != (bif y34.1 then y35.1 else false)) then true else (bif (bif y34.1 then true else y35.1) then (!y37.1) else false)) (q := false) rfl (by kernel_rfl) hc41 (by kernel_rfl))) ?_
             refine XL_nil ?_
             subst ht46
             kernel_rfl
            ·refine XL_takeC _ rfl rfl (by kernel_rfl) hc43 (X_of_Y0 rfl (E_move (Bo y34.1) rfl (by kernel_rfl))) ?_
             refine XL_takeC _ rfl rfl (by kernel_rfl) hc43 (X_of_Y0 rfl (E_move (Bo y34.1) rfl (by kernel_rfl))) ?_
             refine XL_split y34.1 (fun hc44 => ?_) (fun hc44 => ?_)
             ·refine XL_skipF _ rfl rfl (by kernel_rfl) hc44 rfl ?_
              refine XL_takeC _ rfl rfl (by kernel_rfl) hc43 (X_of_Y0 rfl (Y0_pick1 (b := y34.1) (p := true) (q := y35.1) rfl (by kernel_rfl) hc44 (by kernel_rfl))) ?_
              refine XL_takeC _ rfl rfl (by kernel_rfl) hc43 (X_of_Y0 rfl (E_move (Bo (bif y34.1 then true else y35.1)) rfl (by kernel_rfl))) ?_
              refine XL_split (bif y34.1 then true else y35.1) (fun hc45 => ?_) (fun hc45 => ?_)
              ·refine XL_takeC _ rfl rfl (by kernel_rfl) hc45 (X_of_Y0 rfl (E_move (Bo y37.1) rfl (by kernel_rfl))) ?_
               refine XL_takeC _ rfl rfl (by kernel_rfl) hc45 (X_of_Y0 rfl (Y0_not (b := y37.1) rfl (by kernel_rfl))) ?_
               refine XL_takeC _ rfl rfl (by kernel_rfl) hc43 (X_of_Y0 rfl (Y0_pick1 (b := bif y34.1 then true else y35.1) (p := !y37.1) (q := false) rfl (by kernel_rfl) hc45 (by kernel_rfl))) ?_
               refine XL_takeC _ rfl rfl (by kernel_rfl) hc41 (X_of_Y0 rfl (Y0_pick0 (b := y36.1 != (bif y34.1 then y35.1 else false)) (p := true) (q := bif (bif y34.1 then true else y35.1) then (!y37.1) else false) rfl (by kernel_rfl) hc43 (by kernel_rfl))) ?_
               refine XL_cons rfl (X_of_Y0 rfl (Y0_pick1 (b := bif (bif (bif y34.2 then y35.2 else false) then y36.2 else false) then y37.2 else false) (p := bif (y36.1 != (bif y34.1 then y35.1 else false)) then true else (bif (bif y34.1 then true else y35.1) then (!y37.1) else false)) (q := false) rfl (by kernel_rfl) hc41 (by kernel_rfl))) ?_
               refine XL_nil ?_
               subst ht46
               kernel_rfl
              ·refine XL_skipT _ rfl rfl (by kernel_rfl) hc45 rfl ?_
               refine XL_skipT _ rfl rfl (by kernel_rfl) hc45 rfl ?_
               refine XL_takeC _ rfl rfl (by kernel_rfl) hc43 (X_of_Y0 rfl (Y0_pick0 (b := bif y34.1 then true else y35.1) (p := !y37.1) (q := false) rfl (by kernel_rfl) hc45 (by kernel_rfl))) ?_
               refine XL_takeC _ rfl rfl (by kernel_rfl) hc41 (X_of_Y0 rfl (Y0_pick0 (b := y36.1 != (bif y34.1 then y35.1 else false)) (p := true) (q := bif (bif y34.1 then true else y35.1) then (!y37.1) else false) rfl (by kernel_rfl) hc43 (by kernel_rfl))) ?_
               refine XL_cons rfl (X_of_Y0 rfl (Y0_pick1 (b := bif (bif (bif y34.2 then y35.2 else false) then y36.2 else false) then y37.2 else false) (p := bif (y36.1 != (bif y34.1 then y35.1 else false)) then true else (bif (bif y34.1 then true else y35.1) then (!y37.1) else false)) (q := false) rfl (by kernel_rfl) hc41 (by kernel_rfl))) ?_
               refine XL_nil ?_
               subst ht46
               kernel_rfl
             ·refine XL_takeC _ rfl rfl (by kernel_rfl) hc44 (X_of_Y0 rfl (E_move (Bo y35.1) rfl (by kernel_rfl))) ?_
              refine XL_takeC _ rfl rfl (by kernel_rfl) hc43 (X_of_Y0 rfl (Y0_pick0 (b := y34.1) (p := true) (q := y35.1) rfl (by kernel_rfl) hc44 (by kernel_rfl))) ?_
              refine XL_takeC _ rfl rfl (by kernel_rfl) hc43 (X_of_Y0 rfl (E_move (Bo (bif y34.1 then true else y35.1)) rfl (by kernel_rfl))) ?_
              refine XL_split (bif y34.1 then true else y35.1) (fun hc45 => ?_) (fun hc45 => ?_)
              ·refine XL_takeC _ rfl rfl (by kernel_rfl) hc45 (X_of_Y0 rfl (E_move (Bo y37.1) rfl (by kernel_rfl))) ?_
               refine XL_takeC _ rfl rfl (by kernel_rfl) hc45 (X_of_Y0 rfl (Y0_not (b := y37.1) rfl (by kernel_rfl))) ?_
               refine XL_takeC _ rfl rfl (by kernel_rfl) hc43 (X_of_Y0 rfl (Y0_pick1 (b := bif y34.1 then true else y35.1) (p := !y37.1) (q := false) rfl (by kernel_rfl) hc45 (by kernel_rfl))) ?_
               refine XL_takeC _ rfl rfl (by kernel_rfl) hc41 (X_of_Y0 rfl (Y0_pick0 (b := y36.1 != (bif y34.1 then y35.1 else false)) (p := true) (q := bif (bif y34.1 then true else y35.1) then (!y37.1) else false) rfl (by kernel_rfl) hc43 (by kernel_rfl))) ?_
               refine XL_cons rfl (X_of_Y0 rfl (Y0_pick1 (b := bif (bif (bif y34.2 then y35.2 else false) then y36.2 else false) then y37.2 else false) (p := bif (y36.1 != (bif y34.1 then y35.1 else false)) then true else (bif (bif y34.1 then true else y35.1) then (!y37.1) else false)) (q := false) rfl (by kernel_rfl) hc41 (by kernel_rfl))) ?_
               refine XL_nil ?_
               subst ht46
               kernel_rfl
              ·refine XL_skipT _ rfl rfl (by kernel_rfl) hc45 rfl ?_
               refine XL_skipT _ rfl rfl (by kernel_rfl) hc45 rfl ?_
               refine XL_takeC _ rfl rfl (by kernel_rfl) hc43 (X_of_Y0 rfl (Y0_pick0 (b := bif y34.1 then true else y35.1) (p := !y37.1) (q := false) rfl (by kernel_rfl) hc45 (by kernel_rfl))) ?_
               refine XL_takeC _ rfl rfl (by kernel_rfl) hc41 (X_of_Y0 rfl (Y0_pick0 (b := y36.1 != (bif y34.1 then y35.1 else false)) (p := true) (q := bif (bif y34.1 then true else y35.1) then (!y37.1) else false) rfl (by kernel_rfl) hc43 (by kernel_rfl))) ?_
               refine XL_cons rfl (X_of_Y0 rfl (Y0_pick1 (b := bif (bif (bif y34.2 then y35.2 else false) then y36.2 else false) then y37.2 else false) (p := bif (y36.1 != (bif y34.1 then y35.1 else false)) then true else (bif (bif y34.1 then true else y35.1) then (!y37.1) else false)) (q := false) rfl (by kernel_rfl) hc41 (by kernel_rfl))) ?_
               refine XL_nil ?_
               subst ht46
               kernel_rfl
           ·refine XL_skipT _ rfl rfl (by kernel_rfl) hc42 rfl ?_
            refine XL_takeC _ rfl rfl (by kernel_rfl) hc41 (X_of_Y0 rfl (Y0_pick0 (b := y34.1) (p := y35.1) (q := false) rfl (by kernel_rfl) hc42 (by kernel_rfl))) ?_
            refine XL_takeC _ rfl rfl (by kernel_rfl) hc41 (X_of_Y0 rfl (Y0_neb (a := y36.1) (b := bif y34.1 then y35.1 else false) Try.underlying4 rfl (by kernel_rfl) (by kernel_rfl))) ?_
            refine XL_takeC _ rfl rfl (by kernel_rfl) hc41 (X_of_Y0 rfl (E_move (Bo (y36.1 != (bif y34.1 then y35.1 else false))) rfl (by kernel_rfl))) ?_
            refine XL_split (y36.1 != (bif y34.1 then y35.1 else false)) (fun hc43 => ?_) (fun hc43 => ?_)
            ·refine XL_skipF _ rfl rfl (by kernel_rfl) hc43 rfl ?_
             refine XL_skipF _ rfl rfl (by kernel_rfl) hc43 rfl ?_
             refine XL_skip2 rfl rfl (by kernel_rfl) rfl ?_
             refine XL_skipF _ rfl rfl (by kernel_rfl) hc43 rfl ?_
             refine XL_skipF _ rfl rfl (by kernel_rfl) hc43 rfl ?_
             refine XL_skip2 rfl rfl (by kernel_rfl) rfl ?_
             refine XL_skip2 rfl rfl (by kernel_rfl) rfl ?_
             refine XL_skipF _ rfl rfl (by kernel_rfl) hc43 rfl ?_
             refine XL_takeC _ rfl rfl (by kernel_rfl) hc41 (X_of_Y0 rfl (Y0_pick1 (b := y36.1 != (bif y34.1 then y35.1 else false)) (p := true) (q := bif (bif y34.1 then true else y35.1) then (!y37.1) else false) rfl (by kernel_rfl) hc43 (by kernel_rfl))) ?_
             refine XL_cons rfl (X_of_Y0 rfl (Y0_pick1 (b := bif (bif (bif y34.2 then y35.2 else false) then y36.2 else false) then y37.2 else false) (p := bif (y36.1 != (bif y34.1 then y35.1 else false)) then true else (bif (bif y34.1 then true else y35.1) then (!y37.1) else false)) (q := false) rfl (by kernel_rfl) hc41 (by kernel_rfl))) ?_
             refine XL_nil ?_
             subst ht46
             kernel_rfl
            ·refine XL_takeC _ rfl rfl (by kernel_rfl) hc43 (X_of_Y0 rfl (E_move (Bo y34.1) rfl (by kernel_rfl))) ?_
             refine XL_takeC _ rfl rfl (by kernel_rfl) hc43 (X_of_Y0 rfl (E_move (Bo y34.1) rfl (by kernel_rfl))) ?_
             refine XL_split y34.1 (fun hc44 => ?_) (fun hc44 => ?_)
             ·refine XL_skipF _ rfl rfl (by kernel_rfl) hc44 rfl ?_
              refine XL_takeC _ rfl rfl (by kernel_rfl) hc43 (X_of_Y0 rfl (Y0_pick1 (b := y34.1) (p := true) (q := y35.1) rfl (by kernel_rfl) hc44 (by kernel_rfl))) ?_
              refine XL_takeC _ rfl rfl (by kernel_rfl) hc43 (X_of_Y0 rfl (E_move (Bo (bif y34.1 then true else y35.1)) rfl (by kernel_rfl))) ?_
              refine XL_split (bif y34.1 then true else y35.1) (fun hc45 => ?_) (fun hc45 => ?_)
              ·refine XL_takeC _ rfl rfl (by kernel_rfl) hc45 (X_of_Y0 rfl (E_move (Bo y37.1) rfl (by kernel_rfl))) ?_
               refine XL_takeC _ rfl rfl (by kernel_rfl) hc45 (X_of_Y0 rfl (Y0_not (b := y37.1) rfl (by kernel_rfl))) ?_
               refine XL_takeC _ rfl rfl (by kernel_rfl) hc43 (X_of_Y0 rfl (Y0_pick1 (b := bif y34.1 then true else y35.1) (p := !y37.1) (q := false) rfl (by kernel_rfl) hc45 (by kernel_rfl))) ?_
               refine XL_takeC _ rfl rfl (by kernel_rfl) hc41 (X_of_Y0 rfl (Y0_pick0 (b := y36.1 != (bif y34.1 then y35.1 else false)) (p := true) (q := bif (bif y34.1 then true else y35.1) then (!y37.1) else false) rfl (by kernel_rfl) hc43 (by kernel_rfl))) ?_
               refine XL_cons rfl (X_of_Y0 rfl (Y0_pick1 (b := bif (bif (bif y34.2 then y35.2 else false) then y36.2 else false) then y37.2 else false) (p := bif (y36.1 != (bif y34.1 then y35.1 else false)) then true else (bif (bif y34.1 then true else y35.1) then (!y37.1) else false)) (q := false) rfl (by kernel_rfl) hc41 (by kernel_rfl))) ?_
               refine XL_nil ?_
               subst ht46
               kernel_rfl
              ·refine XL_skipT _ rfl rfl (by kernel_rfl) hc45 rfl ?_
               refine XL_skipT _ rfl rfl (by kernel_rfl) hc45 rfl ?_
               refine XL_takeC _ rfl rfl (by kernel_rfl) hc43 (X_of_Y0 rfl (Y0_pick0 (b := bif y34.1 then true else y35.1) (p := !y37.1) (q := false) rfl (by kernel_rfl) hc45 (by kernel_rfl))) ?_
               refine XL_takeC _ rfl rfl (by kernel_rfl) hc41 (X_of_Y0 rfl (Y0_pick0 (b := y36.1 != (bif y34.1 then y35.1 else false)) (p := true) (q := bif (bif y34.1 then true else y35.1) then (!y37.1) else false) rfl (by kernel_rfl) hc43 (by kernel_rfl))) ?_
               refine XL_cons rfl (X_of_Y0 rfl (Y0_pick1 (b := bif (bif (bif y34.2 then y35.2 else false) then y36.2 else false) then y37.2 else false) (p := bif (y36.1 != (bif y34.1 then y35.1 else false)) then true else (bif (bif y34.1 then true else y35.1) then (!y37.1) else false)) (q := false) rfl (by kernel_rfl) hc41 (by kernel_rfl))) ?_
               refine XL_nil ?_
               subst ht46
               kernel_rfl
             ·refine XL_takeC _ rfl rfl (by kernel_rfl) hc44 (X_of_Y0 rfl (E_move (Bo y35.1) rfl (by kernel_rfl))) ?_
              refine XL_takeC _ rfl rfl (by kernel_rfl) hc43 (X_of_Y0 rfl (Y0_pick0 (b := y34.1) (p := true) (q := y35.1) rfl (by kernel_rfl) hc44 (by kernel_rfl))) ?_
              refine XL_takeC _ rfl rfl (by kernel_rfl) hc43 (X_of_Y0 rfl (E_move (Bo (bif y34.1 then true else y35.1)) rfl (by kernel_rfl))) ?_
              refine XL_split (bif y34.1 then true else y35.1) (fun hc45 => ?_) (fun hc45 => ?_)
              ·refine XL_takeC _ rfl rfl (by kernel_rfl) hc45 (X_of_Y0 rfl (E_move (Bo y37.1) rfl (by kernel_rfl))) ?_
               refine XL_takeC _ rfl rfl (by kernel_rfl) hc45 (X_of_Y0 rfl (Y0_not (b := y37.1) rfl (by kernel_rfl))) ?_
               refine XL_takeC _ rfl rfl (by kernel_rfl) hc43 (X_of_Y0 rfl (Y0_pick1 (b := bif y34.1 then true else y35.1) (p := !y37.1) (q := false) rfl (by kernel_rfl) hc45 (by kernel_rfl))) ?_
               refine XL_takeC _ rfl rfl (by kernel_rfl) hc41 (X_of_Y0 rfl (Y0_pick0 (b := y36.1 != (bif y34.1 then y35.1 else false)) (p := true) (q := bif (bif y34.1 then true else y35.1) then (!y37.1) else false) rfl (by kernel_rfl) hc43 (by kernel_rfl))) ?_
               refine XL_cons rfl (X_of_Y0 rfl (Y0_pick1 (b := bif (bif (bif y34.2 then y35.2 else false) then y36.2 else false) then y37.2 else false) (p := bif (y36.1 != (bif y34.1 then y35.1 else false)) then true else (bif (bif y34.1 then true else y35.1) then (!y37.1) else false)) (q := false) rfl (by kernel_rfl) hc41 (by kernel_rfl))) ?_
               refine XL_nil ?_
               subst ht46
               kernel_rfl
              ·refine XL_skipT _ rfl rfl (by kernel_rfl) hc45 rfl ?_
               refine XL_skipT _ rfl rfl (by kernel_rfl) hc45 rfl ?_
               refine XL_takeC _ rfl rfl (by kernel_rfl) hc43 (X_of_Y0 rfl (Y0_pick0 (b := bif y34.1 then true else y35.1) (p := !y37.1) (q := false) rfl (by kernel_rfl) hc45 (by kernel_rfl))) ?_
               refine XL_takeC _ rfl rfl (by kernel_rfl) hc41 (X_of_Y0 rfl (Y0_pick0 (b := y36.1 != (bif y34.1 then y35.1 else false)) (p := true) (q := bif (bif y34.1 then true else y35.1) then (!y37.1) else false) rfl (by kernel_rfl) hc43 (by kernel_rfl))) ?_
               refine XL_cons rfl (X_of_Y0 rfl (Y0_pick1 (b := bif (bif (bif y34.2 then y35.2 else false) then y36.2 else false) then y37.2 else false) (p := bif (y36.1 != (bif y34.1 then y35.1 else false)) then true else (bif (bif y34.1 then true else y35.1) then (!y37.1) else false)) (q := false) rfl (by kernel_rfl) hc41 (by kernel_rfl))) ?_
               refine XL_nil ?_
               subst ht46
               kernel_rfl
          ·refine XL_skipT _ rfl rfl (by kernel_rfl) hc41 rfl ?_
           refine XL_skipT _ rfl rfl (by kernel_rfl) hc41 rfl ?_
           refine XL_skipT _ rfl rfl (by kernel_rfl) hc41 rfl ?_
           refine XL_skip2 rfl rfl (by kernel_rfl) rfl ?_
           refine XL_skipT _ rfl rfl (by kernel_rfl) hc41 rfl ?_
           refine XL_skipT _ rfl rfl (by kernel_rfl) hc41 rfl ?_
           refine XL_skipT _ rfl rfl (by kernel_rfl) hc41 rfl ?_
           refine XL_skip2 rfl rfl (by kernel_rfl) rfl ?_
           refine XL_skip2 rfl rfl (by kernel_rfl) rfl ?_
           refine XL_skip2 rfl rfl (by kernel_rfl) rfl ?_
           refine XL_skip2 rfl rfl (by kernel_rfl) rfl ?_
           refine XL_skip2 rfl rfl (by kernel_rfl) rfl ?_
           refine XL_skip2 rfl rfl (by kernel_rfl) rfl ?_
           refine XL_skip2 rfl rfl (by kernel_rfl) rfl ?_
           refine XL_skip2 rfl rfl (by kernel_rfl) rfl ?_
           refine XL_skipT _ rfl rfl (by kernel_rfl) hc41 rfl ?_
           refine XL_cons rfl (X_of_Y0 rfl (Y0_pick0 (b := bif (bif (bif y34.2 then y35.2 else false) then y36.2 else false) then y37.2 else false) (p := bif (y36.1 != (bif y34.1 then y35.1 else false)) then true else (bif (bif y34.1 then true else y35.1) then (!y37.1) else false)) (q := false) rfl (by kernel_rfl) hc41 (by kernel_rfl))) ?_
           refine XL_nil ?_
           subst ht46
           kernel_rfl
       ·refine XL_skipT _ rfl rfl (by kernel_rfl) hc38 rfl ?_
        refine XL_cons rfl (X_of_Y0 rfl (Y0_pick0 (b := y34.2) (p := y35.2) (q := false) rfl (by kernel_rfl) hc38 (by kernel_rfl))) ?_
        refine L0 rfl rfl (E_move (Bo (bif y34.2 then y35.2 else false)) rfl (by kernel_rfl)) ?_
        refine XL_split (bif y34.2 then y35.2 else false) (fun hc39 => ?_) (fun hc39 => ?_)
        ·refine XL_takeC _ rfl rfl (by kernel_rfl) hc39 (X_of_Y0 rfl (E_move (Bo y36.2) rfl (by kernel_rfl))) ?_
         refine XL_cons rfl (X_of_Y0 rfl (Y0_pick1 (b := bif y34.2 then y35.2 else false) (p := y36.2) (q := false) rfl (by kernel_rfl) hc39 (by kernel_rfl))) ?_
         refine L0 rfl rfl (E_move (Bo (bif (bif y34.2 then y35.2 else false) then y36.2 else false)) rfl (by kernel_rfl)) ?_
         refine XL_split (bif (bif y34.2 then y35.2 else false) then y36.2 else false) (fun hc40 => ?_) (fun hc40 => ?_)
         ·refine XL_takeC _ rfl rfl (by kernel_rfl) hc40 (X_of_Y0 rfl (E_move (Bo y37.2) rfl (by kernel_rfl))) ?_
          refine XL_cons rfl (X_of_Y0 rfl (Y0_pick1 (b := bif (bif y34.2 then y35.2 else false) then y36.2 else false) (p := y37.2) (q := false) rfl (by kernel_rfl) hc40 (by kernel_rfl))) ?_
          refine L0 rfl rfl (E_move (Bo (bif (bif (bif y34.2 then y35.2 else false) then y36.2 else false) then y37.2 else false)) rfl (by kernel_rfl)) ?_
          refine XL_split (bif (bif (bif y34.2 then y35.2 else false) then y36.2 else false) then y37.2 else false) (fun hc41 => ?_) (fun hc41 => ?_)
          ·refine XL_takeC _ rfl rfl (by kernel_rfl) hc41 (X_of_Y0 rfl (E_move (Bo y36.1) rfl (by kernel_rfl))) ?_
           refine XL_takeC _ rfl rfl (by kernel_rfl) hc41 (X_of_Y0 rfl (E_move (Bo y34.1) rfl (by kernel_rfl))) ?_
           refine XL_takeC _ rfl rfl (by kernel_rfl) hc41 (X_of_Y0 rfl (E_move (Bo y34.1) rfl (by kernel_rfl))) ?_
           refine XL_split y34.1 (fun hc42 => ?_) (fun hc42 => ?_)
           ·refine XL_takeC _ rfl rfl (by kernel_rfl) hc42 (X_of_Y0 rfl (E_move (Bo y35.1) rfl (by kernel_rfl))) ?_
            refine XL_takeC _ rfl rfl (by kernel_rfl) hc41 (X_of_Y0 rfl (Y0_pick1 (b := y34.1) (p := y35.1) (q := false) rfl (by kernel_rfl) hc42 (by kernel_rfl))) ?_
            refine XL_takeC _ rfl rfl (by kernel_rfl) hc41 (X_of_Y0 rfl (Y0_neb (a := y36.1) (b := bif y34.1 then y35.1 else false) Try.underlying4 rfl (by kernel_rfl) (by kernel_rfl))) ?_
            refine XL_takeC _ rfl rfl (by kernel_rfl) hc41 (X_of_Y0 rfl (E_move (Bo (y36.1 != (bif y34.1 then y35.1 else false))) rfl (by kernel_rfl))) ?_
            refine XL_split (y36.1 != (bif y34.1 then y35.1 else false)) (fun hc43 => ?_) (fun hc43 => ?_)
            ·refine XL_skipF _ rfl rfl (by kernel_rfl) hc43 rfl ?_
             refine XL_skipF _ rfl rfl (by kernel_rfl) hc43 rfl ?_
             refine XL_skip2 rfl rfl (by kernel_rfl) rfl ?_
             refine XL_skipF _ rfl rfl (by kernel_rfl) hc43 rfl ?_
             refine XL_skipF _ rfl rfl (by kernel_rfl) hc43 rfl ?_
             refine XL_skip2 rfl rfl (by kernel_rfl) rfl ?_
             refine XL_skip2 rfl rfl (by kernel_rfl) rfl ?_
             refine XL_skipF _ rfl rfl (by kernel_rfl) hc43 rfl ?_
             refine XL_takeC _ rfl rfl (by kernel_rfl) hc41 (X_of_Y0 rfl (Y0_pick1 (b := y36.1 != (bif y34.1 then y35.1 else false)) (p := true) (q := bif (bif y34.1 then true else y35.1) then (!y37.1) else false) rfl (by kernel_rfl) hc43 (by kernel_rfl))) ?_
             refine XL_cons rfl (X_of_Y0 rfl (Y0_pick1 (b := bif (bif (bif y34.2 then y35.2 else false) then y36.2 else false) then y37.2 else false) (p := bif (y36.1 != (bif y34.1 then y35.1 else false)) then true else (bif (bif y34.1 then true else y35.1) then (!y37.1) else false)) (q := false) rfl (by kernel_rfl) hc41 (by kernel_rfl))) ?_
             refine XL_nil ?_
             subst ht46
             kernel_rfl
            ·refine XL_takeC _ rfl rfl (by kernel_rfl) hc43 (X_of_Y0 rfl (E_move (Bo y34.1) rfl (by kernel_rfl))) ?_
             refine XL_takeC _ rfl rfl (by kernel_rfl) hc43 (X_of_Y0 rfl (E_move (Bo y34.1) rfl (by kernel_rfl))) ?_
             refine XL_split y34.1 (fun hc44 => ?_) (fun hc44 => ?_)
             ·refine XL_skipF _ rfl rfl (by kernel_rfl) hc44 rfl ?_
              refine XL_takeC _ rfl rfl (by kernel_rfl) hc43 (X_of_Y0 rfl (Y0_pick1 (b := y34.1) (p := true) (q := y35.1) rfl (by kernel_rfl) hc44 (by kernel_rfl))) ?_
              refine XL_takeC _ rfl rfl (by kernel_rfl) hc43 (X_of_Y0 rfl (E_move (Bo (bif y34.1 then true else y35.1)) rfl (by kernel_rfl))) ?_
              refine XL_split (bif y34.1 then true else y35.1) (fun hc45 => ?_) (fun hc45 => ?_)
              ·refine XL_takeC _ rfl rfl (by kernel_rfl) hc45 (X_of_Y0 rfl (E_move (Bo y37.1) rfl (by kernel_rfl))) ?_
               refine XL_takeC _ rfl rfl (by kernel_rfl) hc45 (X_of_Y0 rfl (Y0_not (b := y37.1) rfl (by kernel_rfl))) ?_
               refine XL_takeC _ rfl rfl (by kernel_rfl) hc43 (X_of_Y0 rfl (Y0_pick1 (b := bif y34.1 then true else y35.1) (p := !y37.1) (q := false) rfl (by kernel_rfl) hc45 (by kernel_rfl))) ?_
               refine XL_takeC _ rfl rfl (by kernel_rfl) hc41 (X_of_Y0 rfl (Y0_pick0 (b := y36.1 != (bif y34.1 then y35.1 else false)) (p := true) (q := bif (bif y34.1 then true else y35.1) then (!y37.1) else false) rfl (by kernel_rfl) hc43 (by kernel_rfl))) ?_
               refine XL_cons rfl (X_of_Y0 rfl (Y0_pick1 (b := bif (bif (bif y34.2 then y35.2 else false) then y36.2 else false) then y37.2 else false) (p := bif (y36.1 != (bif y34.1 then y35.1 else false)) then true else (bif (bif y34.1 then true else y35.1) then (!y37.1) else false)) (q := false) rfl (by kernel_rfl) hc41 (by kernel_rfl))) ?_
               refine XL_nil ?_
               subst ht46
               kernel_rfl
              ·refine XL_skipT _ rfl rfl (by kernel_rfl) hc45 rfl ?_
               refine XL_skipT _ rfl rfl (by kernel_rfl) hc45 rfl ?_
               refine XL_takeC _ rfl rfl (by kernel_rfl) hc43 (X_of_Y0 rfl (Y0_pick0 (b := bif y34.1 then true else y35.1) (p := !y37.1) (q := false) rfl (by kernel_rfl) hc45 (by kernel_rfl))) ?_
               refine XL_takeC _ rfl rfl (by kernel_rfl) hc41 (X_of_Y0 rfl (Y0_pick0 (b := y36.1 != (bif y34.1 then y35.1 else false)) (p := true) (q := bif (bif y34.1 then true else y35.1) then (!y37.1) else false) rfl (by kernel_rfl) hc43 (by kernel_rfl))) ?_
               refine XL_cons rfl (X_of_Y0 rfl (Y0_pick1 (b := bif (bif (bif y34.2 then y35.2 else false) then y36.2 else false) then y37.2 else false) (p := bif (y36.1 != (bif y34.1 then y35.1 else false)) then true else (bif (bif y34.1 then true else y35.1) then (!y37.1) else false)) (q := false) rfl (by kernel_rfl) hc41 (by kernel_rfl))) ?_
               refine XL_nil ?_
               subst ht46
               kernel_rfl
             ·refine XL_takeC _ rfl rfl (by kernel_rfl) hc44 (X_of_Y0 rfl (E_move (Bo y35.1) rfl (by kernel_rfl))) ?_
              refine XL_takeC _ rfl rfl (by kernel_rfl) hc43 (X_of_Y0 rfl (Y0_pick0 (b := y34.1) (p := true) (q := y35.1) rfl (by kernel_rfl) hc44 (by kernel_rfl))) ?_
              refine XL_takeC _ rfl rfl (by kernel_rfl) hc43 (X_of_Y0 rfl (E_move (Bo (bif y34.1 then true else y35.1)) rfl (by kernel_rfl))) ?_
              refine XL_split (bif y34.1 then true else y35.1) (fun hc45 => ?_) (fun hc45 => ?_)
              ·refine XL_takeC _ rfl rfl (by kernel_rfl) hc45 (X_of_Y0 rfl (E_move (Bo y37.1) rfl (by kernel_rfl))) ?_
               refine XL_takeC _ rfl rfl (by kernel_rfl) hc45 (X_of_Y0 rfl (Y0_not (b := y37.1) rfl (by kernel_rfl))) ?_
               refine XL_takeC _ rfl rfl (by kernel_rfl) hc43 (X_of_Y0 rfl (Y0_pick1 (b := bif y34.1 then true else y35.1) (p := !y37.1) (q := false) rfl (by kernel_rfl) hc45 (by kernel_rfl))) ?_
               refine XL_takeC _ rfl rfl (by kernel_rfl) hc41 (X_of_Y0 rfl (Y0_pick0 (b := y36.1 != (bif y34.1 then y35.1 else false)) (p := true) (q := bif (bif y34.1 then true else y35.1) then (!y37.1) else false) rfl (by kernel_rfl) hc43 (by kernel_rfl))) ?_
               refine XL_cons rfl (X_of_Y0 rfl (Y0_pick1 (b := bif (bif (bif y34.2 then y35.2 else false) then y36.2 else false) then y37.2 else false) (p := bif (y36.1 != (bif y34.1 then y35.1 else false)) then true else (bif (bif y34.1 then true else y35.1) then (!y37.1) else false)) (q := false) rfl (by kernel_rfl) hc41 (by kernel_rfl))) ?_
               refine XL_nil ?_
               subst ht46
               kernel_rfl
              ·refine XL_skipT _ rfl rfl (by kernel_rfl) hc45 rfl ?_
               refine XL_skipT _ rfl rfl (by kernel_rfl) hc45 rfl ?_
               refine XL_takeC _ rfl rfl (by kernel_rfl) hc43 (X_of_Y0 rfl (Y0_pick0 (b := bif y34.1 then true else y35.1) (p := !y37.1) (q := false) rfl (by kernel_rfl) hc45 (by kernel_rfl))) ?_
               refine XL_takeC _ rfl rfl (by kernel_rfl) hc41 (X_of_Y0 rfl (Y0_pick0 (b := y36.1 != (bif y34.1 then y35.1 else false)) (p := true) (q := bif (bif y34.1 then true else y35.1) then (!y37.1) else false) rfl (by kernel_rfl) hc43 (by kernel_rfl))) ?_
               refine XL_cons rfl (X_of_Y0 rfl (Y0_pick1 (b := bif (bif (bif y34.2 then y35.2 else false) then y36.2 else false) then y37.2 else false) (p := bif (y36.1 != (bif y34.1 then y35.1 else false)) then true else (bif (bif y34.1 then true else y35.1) then (!y37.1) else false)) (q := false) rfl (by kernel_rfl) hc41 (by kernel_rfl))) ?_
               refine XL_nil ?_
               subst ht46
               kernel_rfl
           ·refine XL_skipT _ rfl rfl (by kernel_rfl) hc42 rfl ?_
            refine XL_takeC _ rfl rfl (by kernel_rfl) hc41 (X_of_Y0 rfl (Y0_pick0 (b := y34.1) (p := y35.1) (q := false) rfl (by kernel_rfl) hc42 (by kernel_rfl))) ?_
            refine XL_takeC _ rfl rfl (by kernel_rfl) hc41 (X_of_Y0 rfl (Y0_neb (a := y36.1) (b := bif y34.1 then y35.1 else false) Try.underlying4 rfl (by kernel_rfl) (by kernel_rfl))) ?_
            refine XL_takeC _ rfl rfl (by kernel_rfl) hc41 (X_of_Y0 rfl (E_move (Bo (y36.1 != (bif y34.1 then y35.1 else false))) rfl (by kernel_rfl))) ?_
            refine XL_split (y36.1 != (bif y34.1 then y35.1 else false)) (fun hc43 => ?_) (fun hc43 => ?_)
            ·refine XL_skipF _ rfl rfl (by kernel_rfl) hc43 rfl ?_
             refine XL_skipF _ rfl rfl (by kernel_rfl) hc43 rfl ?_
             refine XL_skip2 rfl rfl (by kernel_rfl) rfl ?_
             refine XL_skipF _ rfl rfl (by kernel_rfl) hc43 rfl ?_
             refine XL_skipF _ rfl rfl (by kernel_rfl) hc43 rfl ?_
             refine XL_skip2 rfl rfl (by kernel_rfl) rfl ?_
             refine XL_skip2 rfl rfl (by kernel_rfl) rfl ?_
             refine XL_skipF _ rfl rfl (by kernel_rfl) hc43 rfl ?_
             refine XL_takeC _ rfl rfl (by kernel_rfl) hc41 (X_of_Y0 rfl (Y0_pick1 (b := y36.1 != (bif y34.1 then y35.1 else false)) (p := true) (q := bif (bif y34.1 then true else y35.1) then (!y37.1) else false) rfl (by kernel_rfl) hc43 (by kernel_rfl))) ?_
             refine XL_cons rfl (X_of_Y0 rfl (Y0_pick1 (b := bif (bif (bif y34.2 then y35.2 else false) then y36.2 else false) then y37.2 else false) (p := bif (y36.1 != (bif y34.1 then y35.1 else false)) then true else (bif (bif y34.1 then true else y35.1) then (!y37.1) else false)) (q := false) rfl (by kernel_rfl) hc41 (by kernel_rfl))) ?_
             refine XL_nil ?_
             subst ht46
             kernel_rfl
            ·refine XL_takeC _ rfl rfl (by kernel_rfl) hc43 (X_of_Y0 rfl (E_move (Bo y34.1) rfl (by kernel_rfl))) ?_
             refine XL_takeC _ rfl rfl (by kernel_rfl) hc43 (X_of_Y0 rfl (E_move (Bo y34.1) rfl (by kernel_rfl))) ?_
             refine XL_split y34.1 (fun hc44 => ?_) (fun hc44 => ?_)
             ·refine XL_skipF _ rfl rfl (by kernel_rfl) hc44 rfl ?_
              refine XL_takeC _ rfl rfl (by kernel_rfl) hc43 (X_of_Y0 rfl (Y0_pick1 (b := y34.1) (p := true) (q := y35.1) rfl (by kernel_rfl) hc44 (by kernel_rfl))) ?_
              refine XL_takeC _ rfl rfl (by kernel_rfl) hc43 (X_of_Y0 rfl (E_move (Bo (bif y34.1 then true else y35.1)) rfl (by kernel_rfl))) ?_
              refine XL_split (bif y34.1 then true else y35.1) (fun hc45 => ?_) (fun hc45 => ?_)
              ·refine XL_takeC _ rfl rfl (by kernel_rfl) hc45 (X_of_Y0 rfl (E_move (Bo y37.1) rfl (by kernel_rfl))) ?_
               refine XL_takeC _ rfl rfl (by kernel_rfl) hc45 (X_of_Y0 rfl (Y0_not (b := y37.1) rfl (by kernel_rfl))) ?_
               refine XL_takeC _ rfl rfl (by kernel_rfl) hc43 (X_of_Y0 rfl (Y0_pick1 (b := bif y34.1 then true else y35.1) (p := !y37.1) (q := false) rfl (by kernel_rfl) hc45 (by kernel_rfl))) ?_
               refine XL_takeC _ rfl rfl (by kernel_rfl) hc41 (X_of_Y0 rfl (Y0_pick0 (b := y36.1 != (bif y34.1 then y35.1 else false)) (p := true) (q := bif (bif y34.1 then true else y35.1) then (!y37.1) else false) rfl (by kernel_rfl) hc43 (by kernel_rfl))) ?_
               refine XL_cons rfl (X_of_Y0 rfl (Y0_pick1 (b := bif (bif (bif y34.2 then y35.2 else false) then y36.2 else false) then y37.2 else false) (p := bif (y36.1 != (bif y34.1 then y35.1 else false)) then true else (bif (bif y34.1 then true else y35.1) then (!y37.1) else false)) (q := false) rfl (by kernel_rfl) hc41 (by kernel_rfl))) ?_
               refine XL_nil ?_
               subst ht46
               kernel_rfl
              ·refine XL_skipT _ rfl rfl (by kernel_rfl) hc45 rfl ?_
               refine XL_skipT _ rfl rfl (by kernel_rfl) hc45 rfl ?_
               refine XL_takeC _ rfl rfl (by kernel_rfl) hc43 (X_of_Y0 rfl (Y0_pick0 (b := bif y34.1 then true else y35.1) (p := !y37.1) (q := false) rfl (by kernel_rfl) hc45 (by kernel_rfl))) ?_
               refine XL_takeC _ rfl rfl (by kernel_rfl) hc41 (X_of_Y0 rfl (Y0_pick0 (b := y36.1 != (bif y34.1 then y35.1 else false)) (p := true) (q := bif (bif y34.1 then true else y35.1) then (!y37.1) else false) rfl (by kernel_rfl) hc43 (by kernel_rfl))) ?_
               refine XL_cons rfl (X_of_Y0 rfl (Y0_pick1 (b := bif (bif (bif y34.2 then y35.2 else false) then y36.2 else false) then y37.2 else false) (p := bif (y36.1 != (bif y34.1 then y35.1 else false)) then true else (bif (bif y34.1 then true else y35.1) then (!y37.1) else false)) (q := false) rfl (by kernel_rfl) hc41 (by kernel_rfl))) ?_
               refine XL_nil ?_
               subst ht46
               kernel_rfl
             ·refine XL_takeC _ rfl rfl (by kernel_rfl) hc44 (X_of_Y0 rfl (E_move (Bo y35.1) rfl (by kernel_rfl))) ?_
              refine XL_takeC _ rfl rfl (by kernel_rfl) hc43 (X_of_Y0 rfl (Y0_pick0 (b := y34.1) (p := true) (q := y35.1) rfl (by kernel_rfl) hc44 (by kernel_rfl))) ?_
              refine XL_takeC _ rfl rfl (by kernel_rfl) hc43 (X_of_Y0 rfl (E_move (Bo (bif y34.1 then true else y35.1)) rfl (by kernel_rfl))) ?_
              refine XL_split (bif y34.1 then true else y35.1) (fun hc45 => ?_) (fun hc45 => ?_)
              ·refine XL_takeC _ rfl rfl (by kernel_rfl) hc45 (X_of_Y0 rfl (E_move (Bo y37.1) rfl (by kernel_rfl))) ?_
               refine XL_takeC _ rfl rfl (by kernel_rfl) hc45 (X_of_Y0 rfl (Y0_not (b := y37.1) rfl (by kernel_rfl))) ?_
               refine XL_takeC _ rfl rfl (by kernel_rfl) hc43 (X_of_Y0 rfl (Y0_pick1 (b := bif y34.1 then true else y35.1) (p := !y37.1) (q := false) rfl (by kernel_rfl) hc45 (by kernel_rfl))) ?_
               refine XL_takeC _ rfl rfl (by kernel_rfl) hc41 (X_of_Y0 rfl (Y0_pick0 (b := y36.1 != (bif y34.1 then y35.1 else false)) (p := true) (q := bif (bif y34.1 then true else y35.1) then (!y37.1) else false) rfl (by kernel_rfl) hc43 (by kernel_rfl))) ?_
               refine XL_cons rfl (X_of_Y0 rfl (Y0_pick1 (b := bif (bif (bif y34.2 then y35.2 else false) then y36.2 else false) then y37.2 else false) (p := bif (y36.1 != (bif y34.1 then y35.1 else false)) then true else (bif (bif y34.1 then true else y35.1) then (!y37.1) else false)) (q := false) rfl (by kernel_rfl) hc41 (by kernel_rfl))) ?_
               refine XL_nil ?_
               subst ht46
               kernel_rfl
              ·refine XL_skipT _ rfl rfl (by kernel_rfl) hc45 rfl ?_
               refine XL_skipT _ rfl rfl (by kernel_rfl) hc45 rfl ?_
               refine XL_takeC _ rfl rfl (by kernel_rfl) hc43 (X_of_Y0 rfl (Y0_pick0 (b := bif y34.1 then true else y35.1) (p := !y37.1) (q := false) rfl (by kernel_rfl) hc45 (by kernel_rfl))) ?_
               refine XL_takeC _ rfl rfl (by kernel_rfl) hc41 (X_of_Y0 rfl (Y0_pick0 (b := y36.1 != (bif y34.1 then y35.1 else false)) (p := true) (q := bif (bif y34.1 then true else y35.1) then (!y37.1) else false) rfl (by kernel_rfl) hc43 (by kernel_rfl))) ?_
               refine XL_cons rfl (X_of_Y0 rfl (Y0_pick1 (b := bif (bif (bif y34.2 then y35.2 else false) then y36.2 else false) then y37.2 else false) (p := bif (y36.1 != (bif y34.1 then y35.1 else false)) then true else (bif (bif y34.1 then true else y35.1) then (!y37.1) else false)) (q := false) rfl (by kernel_rfl) hc41 (by kernel_rfl))) ?_
               refine XL_nil ?_
               subst ht46
               kernel_rfl
          ·refine XL_skipT _ rfl rfl (by kernel_rfl) hc41 rfl ?_
           refine XL_skipT _ rfl rfl (by kernel_rfl) hc41 rfl ?_
           refine XL_skipT _ rfl rfl (by kernel_rfl) hc41 rfl ?_
           refine XL_skip2 rfl rfl (by kernel_rfl) rfl ?_
           refine XL_skipT _ rfl rfl (by kernel_rfl) hc41 rfl ?_
           refine XL_skipT _ rfl rfl (by kernel_rfl) hc41 rfl ?_
           refine XL_skipT _ rfl rfl (by kernel_rfl) hc41 rfl ?_
           refine XL_skip2 rfl rfl (by kernel_rfl) rfl ?_
           refine XL_skip2 rfl rfl (by kernel_rfl) rfl ?_
           refine XL_skip2 rfl rfl (by kernel_rfl) rfl ?_
           refine XL_skip2 rfl rfl (by kernel_rfl) rfl ?_
           refine XL_skip2 rfl rfl (by kernel_rfl) rfl ?_
           refine XL_skip2 rfl rfl (by kernel_rfl) rfl ?_
           refine XL_skip2 rfl rfl (by kernel_rfl) rfl ?_
           refine XL_skip2 rfl rfl (by kernel_rfl) rfl ?_
           refine XL_skipT _ rfl rfl (by kernel_rfl) hc41 rfl ?_
           refine XL_cons rfl (X_of_Y0 rfl (Y0_pick0 (b := bif (bif (bif y34.2 then y35.2 else false) then y36.2 else false) then y37.2 else false) (p := bif (y36.1 != (bif y34.1 then y35.1 else false)) then true else (bif (bif y34.1 then true else y35.1) then (!y37.1) else false)) (q := false) rfl (by kernel_rfl) hc41 (by kernel_rfl))) ?_
           refine XL_nil ?_
           subst ht46
           kernel_rfl
         ·refine XL_skipT _ rfl rfl (by kernel_rfl) hc40 rfl ?_
          refine XL_cons rfl (X_of_Y0 rfl (Y0_pick0 (b := bif (bif y34.2 then y35.2 else false) then y36.2 else false) (p := y37.2) (q := false) rfl (by kernel_rfl) hc40 (by kernel_rfl))) ?_
          refine L0 rfl rfl (E_move (Bo (bif (bif (bif y34.2 then y35.2 else false) then y36.2 else false) then y37.2 else false)) rfl (by kernel_rfl)) ?_
          refine XL_split (bif (bif (bif y34.2 then y35.2 else false) then y36.2 else false) then y37.2 else false) (fun hc41 => ?_) (fun hc41 => ?_)
          ·refine XL_takeC _ rfl rfl (by kernel_rfl) hc41 (X_of_Y0 rfl (E_move (Bo y36.1) rfl (by kernel_rfl))) ?_
           refine XL_takeC _ rfl rfl (by kernel_rfl) hc41 (X_of_Y0 rfl (E_move (Bo y34.1) rfl (by kernel_rfl))) ?_
           refine XL_takeC _ rfl rfl (by kernel_rfl) hc41 (X_of_Y0 rfl (E_move (Bo y34.1) rfl (by kernel_rfl))) ?_
           refine XL_split y34.1 (fun hc42 => ?_) (fun hc42 => ?_)
           ·refine XL_takeC _ rfl rfl (by kernel_rfl) hc42 (X_of_Y0 rfl (E_move (Bo y35.1) rfl (by kernel_rfl))) ?_
            refine XL_takeC _ rfl rfl (by kernel_rfl) hc41 (X_of_Y0 rfl (Y0_pick1 (b := y34.1) (p := y35.1) (q := false) rfl (by kernel_rfl) hc42 (by kernel_rfl))) ?_
            refine XL_takeC _ rfl rfl (by kernel_rfl) hc41 (X_of_Y0 rfl (Y0_neb (a := y36.1) (b := bif y34.1 then y35.1 else false) Try.underlying4 rfl (by kernel_rfl) (by kernel_rfl))) ?_
            refine XL_takeC _ rfl rfl (by kernel_rfl) hc41 (X_of_Y0 rfl (E_move (Bo (y36.1 != (bif y34.1 then y35.1 else false))) rfl (by kernel_rfl))) ?_
            refine XL_split (y36.1 != (bif y34.1 then y35.1 else false)) (fun hc43 => ?_) (fun hc43 => ?_)
            ·refine XL_skipF _ rfl rfl (by kernel_rfl) hc43 rfl ?_
             refine XL_skipF _ rfl rfl (by kernel_rfl) hc43 rfl ?_
             refine XL_skip2 rfl rfl (by kernel_rfl) rfl ?_
             refine XL_skipF _ rfl rfl (by kernel_rfl) hc43 rfl ?_
             refine XL_skipF _ rfl rfl (by kernel_rfl) hc43 rfl ?_
             refine XL_skip2 rfl rfl (by kernel_rfl) rfl ?_
             refine XL_skip2 rfl rfl (by kernel_rfl) rfl ?_
             refine XL_skipF _ rfl rfl (by kernel_rfl) hc43 rfl ?_
             refine XL_takeC _ rfl rfl (by kernel_rfl) hc41 (X_of_Y0 rfl (Y0_pick1 (b := y36.1 != (bif y34.1 then y35.1 else false)) (p := true) (q := bif (bif y34.1 then true else y35.1) then (!y37.1) else false) rfl (by kernel_rfl) hc43 (by kernel_rfl))) ?_
             refine XL_cons rfl (X_of_Y0 rfl (Y0_pick1 (b := bif (bif (bif y34.2 then y35.2 else false) then y36.2 else false) then y37.2 else false) (p := bif (y36.1 != (bif y34.1 then y35.1 else false)) then true else (bif (bif y34.1 then true else y35.1) then (!y37.1) else false)) (q := false) rfl (by kernel_rfl) hc41 (by kernel_rfl))) ?_
             refine XL_nil ?_
             subst ht46
             kernel_rfl
            ·refine XL_takeC _ rfl rfl (by kernel_rfl) hc43 (X_of_Y0 rfl (E_move (Bo y34.1) rfl (by kernel_rfl))) ?_
             refine XL_takeC _ rfl rfl (by kernel_rfl) hc43 (X_of_Y0 rfl (E_move (Bo y34.1) rfl (by kernel_rfl))) ?_
             refine XL_split y34.1 (fun hc44 => ?_) (fun hc44 => ?_)
             ·refine XL_skipF _ rfl rfl (by kernel_rfl) hc44 rfl ?_
              refine XL_takeC _ rfl rfl (by kernel_rfl) hc43 (X_of_Y0 rfl (Y0_pick1 (b := y34.1) (p := true) (q := y35.1) rfl (by kernel_rfl) hc44 (by kernel_rfl))) ?_
              refine XL_takeC _ rfl rfl (by kernel_rfl) hc43 (X_of_Y0 rfl (E_move (Bo (bif y34.1 then true else y35.1)) rfl (by kernel_rfl))) ?_
              refine XL_split (bif y34.1 then true else y35.1) (fun hc45 => ?_) (fun hc45 => ?_)
              ·refine XL_takeC _ rfl rfl (by kernel_rfl) hc45 (X_of_Y0 rfl (E_move (Bo y37.1) rfl (by kernel_rfl))) ?_
               refine XL_takeC _ rfl rfl (by kernel_rfl) hc45 (X_of_Y0 rfl (Y0_not (b := y37.1) rfl (by kernel_rfl))) ?_
               refine XL_takeC _ rfl rfl (by kernel_rfl) hc43 (X_of_Y0 rfl (Y0_pick1 (b := bif y34.1 then true else y35.1) (p := !y37.1) (q := false) rfl (by kernel_rfl) hc45 (by kernel_rfl))) ?_
               refine XL_takeC _ rfl rfl (by kernel_rfl) hc41 (X_of_Y0 rfl (Y0_pick0 (b := y36.1 != (bif y34.1 then y35.1 else false)) (p := true) (q := bif (bif y34.1 then true else y35.1) then (!y37.1) else false) rfl (by kernel_rfl) hc43 (by kernel_rfl))) ?_
               refine XL_cons rfl (X_of_Y0 rfl (Y0_pick1 (b := bif (bif (bif y34.2 then y35.2 else false) then y36.2 else false) then y37.2 else false) (p := bif (y36.1 != (bif y34.1 then y35.1 else false)) then true else (bif (bif y34.1 then true else y35.1) then (!y37.1) else false)) (q := false) rfl (by kernel_rfl) hc41 (by kernel_rfl))) ?_
               refine XL_nil ?_
               subst ht46
               kernel_rfl
              ·refine XL_skipT _ rfl rfl (by kernel_rfl) hc45 rfl ?_
               refine XL_skipT _ rfl rfl (by kernel_rfl) hc45 rfl ?_
               refine XL_takeC _ rfl rfl (by kernel_rfl) hc43 (X_of_Y0 rfl (Y0_pick0 (b := bif y34.1 then true else y35.1) (p := !y37.1) (q := false) rfl (by kernel_rfl) hc45 (by kernel_rfl))) ?_
               refine XL_takeC _ rfl rfl (by kernel_rfl) hc41 (X_of_Y0 rfl (Y0_pick0 (b := y36.1 != (bif y34.1 then y35.1 else false)) (p := true) (q := bif (bif y34.1 then true else y35.1) then (!y37.1) else false) rfl (by kernel_rfl) hc43 (by kernel_rfl))) ?_
               refine XL_cons rfl (X_of_Y0 rfl (Y0_pick1 (b := bif (bif (bif y34.2 then y35.2 else false) then y36.2 else false) then y37.2 else false) (p := bif (y36.1 != (bif y34.1 then y35.1 else false)) then true else (bif (bif y34.1 then true else y35.1) then (!y37.1) else false)) (q := false) rfl (by kernel_rfl) hc41 (by kernel_rfl))) ?_
               refine XL_nil ?_
               subst ht46
               kernel_rfl
             ·refine XL_takeC _ rfl rfl (by kernel_rfl) hc44 (X_of_Y0 rfl (E_move (Bo y35.1) rfl (by kernel_rfl))) ?_
              refine XL_takeC _ rfl rfl (by kernel_rfl) hc43 (X_of_Y0 rfl (Y0_pick0 (b := y34.1) (p := true) (q := y35.1) rfl (by kernel_rfl) hc44 (by kernel_rfl))) ?_
              refine XL_takeC _ rfl rfl (by kernel_rfl) hc43 (X_of_Y0 rfl (E_move (Bo (bif y34.1 then true else y35.1)) rfl (by kernel_rfl))) ?_
              refine XL_split (bif y34.1 then true else y35.1) (fun hc45 => ?_) (fun hc45 => ?_)
              ·refine XL_takeC _ rfl rfl (by kernel_rfl) hc45 (X_of_Y0 rfl (E_move (Bo y37.1) rfl (by kernel_rfl))) ?_
               refine XL_takeC _ rfl rfl (by kernel_rfl) hc45 (X_of_Y0 rfl (Y0_not (b := y37.1) rfl (by kernel_rfl))) ?_
               refine XL_takeC _ rfl rfl (by kernel_rfl) hc43 (X_of_Y0 rfl (Y0_pick1 (b := bif y34.1 then true else y35.1) (p := !y37.1) (q := false) rfl (by kernel_rfl) hc45 (by kernel_rfl))) ?_
               refine XL_takeC _ rfl rfl (by kernel_rfl) hc41 (X_of_Y0 rfl (Y0_pick0 (b := y36.1 != (bif y34.1 then y35.1 else false)) (p := true) (q := bif (bif y34.1 then true else y35.1) then (!y37.1) else false) rfl (by kernel_rfl) hc43 (by kernel_rfl))) ?_
               refine XL_cons rfl (X_of_Y0 rfl (Y0_pick1 (b := bif (bif (bif y34.2 then y35.2 else false) then y36.2 else false) then y37.2 else false) (p := bif (y36.1 != (bif y34.1 then y35.1 else false)) then true else (bif (bif y34.1 then true else y35.1) then (!y37.1) else false)) (q := false) rfl (by kernel_rfl) hc41 (by kernel_rfl))) ?_
               refine XL_nil ?_
               subst ht46
               kernel_rfl
              ·refine XL_skipT _ rfl rfl (by kernel_rfl) hc45 rfl ?_
               refine XL_skipT _ rfl rfl (by kernel_rfl) hc45 rfl ?_
               refine XL_takeC _ rfl rfl (by kernel_rfl) hc43 (X_of_Y0 rfl (Y0_pick0 (b := bif y34.1 then true else y35.1) (p := !y37.1) (q := false) rfl (by kernel_rfl) hc45 (by kernel_rfl))) ?_
               refine XL_takeC _ rfl rfl (by kernel_rfl) hc41 (X_of_Y0 rfl (Y0_pick0 (b := y36.1 != (bif y34.1 then y35.1 else false)) (p := true) (q := bif (bif y34.1 then true else y35.1) then (!y37.1) else false) rfl (by kernel_rfl) hc43 (by kernel_rfl))) ?_
               refine XL_cons rfl (X_of_Y0 rfl (Y0_pick1 (b := bif (bif (bif y34.2 then y35.2 else false) then y36.2 else false) then y37.2 else false) (p := bif (y36.1 != (bif y34.1 then y35.1 else false)) then true else (bif (bif y34.1 then true else y35.1) then (!y37.1) else false)) (q := false) rfl (by kernel_rfl) hc41 (by kernel_rfl))) ?_
               refine XL_nil ?_
               subst ht46
               kernel_rfl
           ·refine XL_skipT _ rfl rfl (by kernel_rfl) hc42 rfl ?_
            refine XL_takeC _ rfl rfl (by kernel_rfl) hc41 (X_of_Y0 rfl (Y0_pick0 (b := y34.1) (p := y35.1) (q := false) rfl (by kernel_rfl) hc42 (by kernel_rfl))) ?_
            refine XL_takeC _ rfl rfl (by kernel_rfl) hc41 (X_of_Y0 rfl (Y0_neb (a := y36.1) (b := bif y34.1 then y35.1 else false) Try.underlying4 rfl (by kernel_rfl) (by kernel_rfl))) ?_
            refine XL_takeC _ rfl rfl (by kernel_rfl) hc41 (X_of_Y0 rfl (E_move (Bo (y36.1 != (bif y34.1 then y35.1 else false))) rfl (by kernel_rfl))) ?_
            refine XL_split (y36.1 != (bif y34.1 then y35.1 else false)) (fun hc43 => ?_) (fun hc43 => ?_)
            ·refine XL_skipF _ rfl rfl (by kernel_rfl) hc43 rfl ?_
             refine XL_skipF _ rfl rfl (by kernel_rfl) hc43 rfl ?_
             refine XL_skip2 rfl rfl (by kernel_rfl) rfl ?_
             refine XL_skipF _ rfl rfl (by kernel_rfl) hc43 rfl ?_
             refine XL_skipF _ rfl rfl (by kernel_rfl) hc43 rfl ?_
             refine XL_skip2 rfl rfl (by kernel_rfl) rfl ?_
             refine XL_skip2 rfl rfl (by kernel_rfl) rfl ?_
             refine XL_skipF _ rfl rfl (by kernel_rfl) hc43 rfl ?_
             refine XL_takeC _ rfl rfl (by kernel_rfl) hc41 (X_of_Y0 rfl (Y0_pick1 (b := y36.1 != (bif y34.1 then y35.1 else false)) (p := true) (q := bif (bif y34.1 then true else y35.1) then (!y37.1) else false) rfl (by kernel_rfl) hc43 (by kernel_rfl))) ?_
             refine XL_cons rfl (X_of_Y0 rfl (Y0_pick1 (b := bif (bif (bif y34.2 then y35.2 else false) then y36.2 else false) then y37.2 else false) (p := bif (y36.1 != (bif y34.1 then y35.1 else false)) then true else (bif (bif y34.1 then true else y35.1) then (!y37.1) else false)) (q := false) rfl (by kernel_rfl) hc41 (by kernel_rfl))) ?_
             refine XL_nil ?_
             subst ht46
             kernel_rfl
            ·refine XL_takeC _ rfl rfl (by kernel_rfl) hc43 (X_of_Y0 rfl (E_move (Bo y34.1) rfl (by kernel_rfl))) ?_
             refine XL_takeC _ rfl rfl (by kernel_rfl) hc43 (X_of_Y0 rfl (E_move (Bo y34.1) rfl (by kernel_rfl))) ?_
             refine XL_split y34.1 (fun hc44 => ?_) (fun hc44 => ?_)
             ·refine XL_skipF _ rfl rfl (by kernel_rfl) hc44 rfl ?_
              refine XL_takeC _ rfl rfl (by kernel_rfl) hc43 (X_of_Y0 rfl (Y0_pick1 (b := y34.1) (p := true) (q := y35.1) rfl (by kernel_rfl) hc44 (by kernel_rfl))) ?_
              refine XL_takeC _ rfl rfl (by kernel_rfl) hc43 (X_of_Y0 rfl (E_move (Bo (bif y34.1 then true else y35.1)) rfl (by kernel_rfl))) ?_
              refine XL_split (bif y34.1 then true else y35.1) (fun hc45 => ?_) (fun hc45 => ?_)
              ·refine XL_takeC _ rfl rfl (by kernel_rfl) hc45 (X_of_Y0 rfl (E_move (Bo y37.1) rfl (by kernel_rfl))) ?_
               refine XL_takeC _ rfl rfl (by kernel_rfl) hc45 (X_of_Y0 rfl (Y0_not (b := y37.1) rfl (by kernel_rfl))) ?_
               refine XL_takeC _ rfl rfl (by kernel_rfl) hc43 (X_of_Y0 rfl (Y0_pick1 (b := bif y34.1 then true else y35.1) (p := !y37.1) (q := false) rfl (by kernel_rfl) hc45 (by kernel_rfl))) ?_
               refine XL_takeC _ rfl rfl (by kernel_rfl) hc41 (X_of_Y0 rfl (Y0_pick0 (b := y36.1 != (bif y34.1 then y35.1 else false)) (p := true) (q := bif (bif y34.1 then true else y35.1) then (!y37.1) else false) rfl (by kernel_rfl) hc43 (by kernel_rfl))) ?_
               refine XL_cons rfl (X_of_Y0 rfl (Y0_pick1 (b := bif (bif (bif y34.2 then y35.2 else false) then y36.2 else false) then y37.2 else false) (p := bif (y36.1 != (bif y34.1 then y35.1 else false)) then true else (bif (bif y34.1 then true else y35.1) then (!y37.1) else false)) (q := false) rfl (by kernel_rfl) hc41 (by kernel_rfl))) ?_
               refine XL_nil ?_
               subst ht46
               kernel_rfl
              ·refine XL_skipT _ rfl rfl (by kernel_rfl) hc45 rfl ?_
               refine XL_skipT _ rfl rfl (by kernel_rfl) hc45 rfl ?_
               refine XL_takeC _ rfl rfl (by kernel_rfl) hc43 (X_of_Y0 rfl (Y0_pick0 (b := bif y34.1 then true else y35.1) (p := !y37.1) (q := false) rfl (by kernel_rfl) hc45 (by kernel_rfl))) ?_
               refine XL_takeC _ rfl rfl (by kernel_rfl) hc41 (X_of_Y0 rfl (Y0_pick0 (b := y36.1 != (bif y34.1 then y35.1 else false)) (p := true) (q := bif (bif y34.1 then true else y35.1) then (!y37.1) else false) rfl (by kernel_rfl) hc43 (by kernel_rfl))) ?_
               refine XL_cons rfl (X_of_Y0 rfl (Y0_pick1 (b := bif (bif (bif y34.2 then y35.2 else false) then y36.2 else false) then y37.2 else false) (p := bif (y36.1 != (bif y34.1 then y35.1 else false)) then true else (bif (bif y34.1 then true else y35.1) then (!y37.1) else false)) (q := false) rfl (by kernel_rfl) hc41 (by kernel_rfl))) ?_
               refine XL_nil ?_
               subst ht46
               kernel_rfl
             ·refine XL_takeC _ rfl rfl (by kernel_rfl) hc44 (X_of_Y0 rfl (E_move (Bo y35.1) rfl (by kernel_rfl))) ?_
              refine XL_takeC _ rfl rfl (by kernel_rfl) hc43 (X_of_Y0 rfl (Y0_pick0 (b := y34.1) (p := true) (q := y35.1) rfl (by kernel_rfl) hc44 (by kernel_rfl))) ?_
              refine XL_takeC _ rfl rfl (by kernel_rfl) hc43 (X_of_Y0 rfl (E_move (Bo (bif y34.1 then true else y35.1)) rfl (by kernel_rfl))) ?_
              refine XL_split (bif y34.1 then true else y35.1) (fun hc45 => ?_) (fun hc45 => ?_)
              ·refine XL_takeC _ rfl rfl (by kernel_rfl) hc45 (X_of_Y0 rfl (E_move (Bo y37.1) rfl (by kernel_rfl))) ?_
               refine XL_takeC _ rfl rfl (by kernel_rfl) hc45 (X_of_Y0 rfl (Y0_not (b := y37.1) rfl (by kernel_rfl))) ?_
               refine XL_takeC _ rfl rfl (by kernel_rfl) hc43 (X_of_Y0 rfl (Y0_pick1 (b := bif y34.1 then true else y35.1) (p := !y37.1) (q := false) rfl (by kernel_rfl) hc45 (by kernel_rfl))) ?_
               refine XL_takeC _ rfl rfl (by kernel_rfl) hc41 (X_of_Y0 rfl (Y0_pick0 (b := y36.1 != (bif y34.1 then y35.1 else false)) (p := true) (q := bif (bif y34.1 then true else y35.1) then (!y37.1) else false) rfl (by kernel_rfl) hc43 (by kernel_rfl))) ?_
               refine XL_cons rfl (X_of_Y0 rfl (Y0_pick1 (b := bif (bif (bif y34.2 then y35.2 else false) then y36.2 else false) then y37.2 else false) (p := bif (y36.1 != (bif y34.1 then y35.1 else false)) then true else (bif (bif y34.1 then true else y35.1) then (!y37.1) else false)) (q := false) rfl (by kernel_rfl) hc41 (by kernel_rfl))) ?_
               refine XL_nil ?_
               subst ht46
               kernel_rfl
              ·refine XL_skipT _ rfl rfl (by kernel_rfl) hc45 rfl ?_
               refine XL_skipT _ rfl rfl (by kernel_rfl) hc45 rfl ?_
               refine XL_takeC _ rfl rfl (by kernel_rfl) hc43 (X_of_Y0 rfl (Y0_pick0 (b := bif y34.1 then true else y35.1) (p := !y37.1) (q := false) rfl (by kernel_rfl) hc45 (by kernel_rfl))) ?_
               refine XL_takeC _ rfl rfl (by kernel_rfl) hc41 (X_of_Y0 rfl (Y0_pick0 (b := y36.1 != (bif y34.1 then y35.1 else false)) (p := true) (q := bif (bif y34.1 then true else y35.1) then (!y37.1) else false) rfl (by kernel_rfl) hc43 (by kernel_rfl))) ?_
               refine XL_cons rfl (X_of_Y0 rfl (Y0_pick1 (b := bif (bif (bif y34.2 then y35.2 else false) then y36.2 else false) then y37.2 else false) (p := bif (y36.1 != (bif y34.1 then y35.1 else false)) then true else (bif (bif y34.1 then true else y35.1) then (!y37.1) else false)) (q := false) rfl (by kernel_rfl) hc41 (by kernel_rfl))) ?_
               refine XL_nil ?_
               subst ht46
               kernel_rfl
          ·refine XL_skipT _ rfl rfl (by kernel_rfl) hc41 rfl ?_
           refine XL_skipT _ rfl rfl (by kernel_rfl) hc41 rfl ?_
           refine XL_skipT _ rfl rfl (by kernel_rfl) hc41 rfl ?_
           refine XL_skip2 rfl rfl (by kernel_rfl) rfl ?_
           refine XL_skipT _ rfl rfl (by kernel_rfl) hc41 rfl ?_
           refine XL_skipT _ rfl rfl (by kernel_rfl) hc41 rfl ?_
           refine XL_skipT _ rfl rfl (by kernel_rfl) hc41 rfl ?_
           refine XL_skip2 rfl rfl (by kernel_rfl) rfl ?_
           refine XL_skip2 rfl rfl (by kernel_rfl) rfl ?_
           refine XL_skip2 rfl rfl (by kernel_rfl) rfl ?_
           refine XL_skip2 rfl rfl (by kernel_rfl) rfl ?_
           refine XL_skip2 rfl rfl (by kernel_rfl) rfl ?_
           refine XL_skip2 rfl rfl (by kernel_rfl) rfl ?_
           refine XL_skip2 rfl rfl (by kernel_rfl) rfl ?_
           refine XL_skip2 rfl rfl (by kernel_rfl) rfl ?_
           refine XL_skipT _ rfl rfl (by kernel_rfl) hc41 rfl ?_
           refine XL_cons rfl (X_of_Y0 rfl (Y0_pick0 (b := bif (bif (bif y34.2 then y35.2 else false) then y36.2 else false) then y37.2 else false) (p := bif (y36.1 != (bif y34.1 then y35.1 else false)) then true else (bif (bif y34.1 then true else y35.1) then (!y37.1) else false)) (q := false) rfl (by kernel_rfl) hc41 (by kernel_rfl))) ?_
           refine XL_nil ?_
           subst ht46
           kernel_rfl
        ·refine XL_skipT _ rfl rfl (by kernel_rfl) hc39 rfl ?_
         refine XL_cons rfl (X_of_Y0 rfl (Y0_pick0 (b := bif y34.2 then y35.2 else false) (p := y36.2) (q := false) rfl (by kernel_rfl) hc39 (by kernel_rfl))) ?_
         refine L0 rfl rfl (E_move (Bo (bif (bif y34.2 then y35.2 else false) then y36.2 else false)) rfl (by kernel_rfl)) ?_
         refine XL_split (bif (bif y34.2 then y35.2 else false) then y36.2 else false) (fun hc40 => ?_) (fun hc40 => ?_)
         ·refine XL_takeC _ rfl rfl (by kernel_rfl) hc40 (X_of_Y0 rfl (E_move (Bo y37.2) rfl (by kernel_rfl))) ?_
          refine XL_cons rfl (X_of_Y0 rfl (Y0_pick1 (b := bif (bif y34.2 then y35.2 else false) then y36.2 else false) (p := y37.2) (q := false) rfl (by kernel_rfl) hc40 (by kernel_rfl))) ?_
          refine L0 rfl rfl (E_move (Bo (bif (bif (bif y34.2 then y35.2 else false) then y36.2 else false) then y37.2 else false)) rfl (by kernel_rfl)) ?_
          refine XL_split (bif (bif (bif y34.2 then y35.2 else false) then y36.2 else false) then y37.2 else false) (fun hc41 => ?_) (fun hc41 => ?_)
          ·refine XL_takeC _ rfl rfl (by kernel_rfl) hc41 (X_of_Y0 rfl (E_move (Bo y36.1) rfl (by kernel_rfl))) ?_
           refine XL_takeC _ rfl rfl (by kernel_rfl) hc41 (X_of_Y0 rfl (E_move (Bo y34.1) rfl (by kernel_rfl))) ?_
           refine XL_takeC _ rfl rfl (by kernel_rfl) hc41 (X_of_Y0 rfl (E_move (Bo y34.1) rfl (by kernel_rfl))) ?_
           refine XL_split y34.1 (fun hc42 => ?_) (fun hc42 => ?_)
           ·refine XL_takeC _ rfl rfl (by kernel_rfl) hc42 (X_of_Y0 rfl (E_move (Bo y35.1) rfl (by kernel_rfl))) ?_
            refine XL_takeC _ rfl rfl (by kernel_rfl) hc41 (X_of_Y0 rfl (Y0_pick1 (b := y34.1) (p := y35.1) (q := false) rfl (by kernel_rfl) hc42 (by kernel_rfl))) ?_
            refine XL_takeC _ rfl rfl (by kernel_rfl) hc41 (X_of_Y0 rfl (Y0_neb (a := y36.1) (b := bif y34.1 then y35.1 else false) Try.underlying4 rfl (by kernel_rfl) (by kernel_rfl))) ?_
            refine XL_takeC _ rfl rfl (by kernel_rfl) hc41 (X_of_Y0 rfl (E_move (Bo (y36.1 != (bif y34.1 then y35.1 else false))) rfl (by kernel_rfl))) ?_
            refine XL_split (y36.1 != (bif y34.1 then y35.1 else false)) (fun hc43 => ?_) (fun hc43 => ?_)
            ·refine XL_skipF _ rfl rfl (by kernel_rfl) hc43 rfl ?_
             refine XL_skipF _ rfl rfl (by kernel_rfl) hc43 rfl ?_
             refine XL_skip2 rfl rfl (by kernel_rfl) rfl ?_
             refine XL_skipF _ rfl rfl (by kernel_rfl) hc43 rfl ?_
             refine XL_skipF _ rfl rfl (by kernel_rfl) hc43 rfl ?_
             refine XL_skip2 rfl rfl (by kernel_rfl) rfl ?_
             refine XL_skip2 rfl rfl (by kernel_rfl) rfl ?_
             refine XL_skipF _ rfl rfl (by kernel_rfl) hc43 rfl ?_
             refine XL_takeC _ rfl rfl (by kernel_rfl) hc41 (X_of_Y0 rfl (Y0_pick1 (b := y36.1 != (bif y34.1 then y35.1 else false)) (p := true) (q := bif (bif y34.1 then true else y35.1) then (!y37.1) else false) rfl (by kernel_rfl) hc43 (by kernel_rfl))) ?_
             refine XL_cons rfl (X_of_Y0 rfl (Y0_pick1 (b := bif (bif (bif y34.2 then y35.2 else false) then y36.2 else false) then y37.2 else false) (p := bif (y36.1 != (bif y34.1 then y35.1 else false)) then true else (bif (bif y34.1 then true else y35.1) then (!y37.1) else false)) (q := false) rfl (by kernel_rfl) hc41 (by kernel_rfl))) ?_
             refine XL_nil ?_
             subst ht46
             kernel_rfl
            ·refine XL_takeC _ rfl rfl (by kernel_rfl) hc43 (X_of_Y0 rfl (E_move (Bo y34.1) rfl (by kernel_rfl))) ?_
             refine XL_takeC _ rfl rfl (by kernel_rfl) hc43 (X_of_Y0 rfl (E_move (Bo y34.1) rfl (by kernel_rfl))) ?_
             refine XL_split y34.1 (fun hc44 => ?_) (fun hc44 => ?_)
             ·refine XL_skipF _ rfl rfl (by kernel_rfl) hc44 rfl ?_
              refine XL_takeC _ rfl rfl (by kernel_rfl) hc43 (X_of_Y0 rfl (Y0_pick1 (b := y34.1) (p := true) (q := y35.1) rfl (by kernel_rfl) hc44 (by kernel_rfl))) ?_
              refine XL_takeC _ rfl rfl (by kernel_rfl) hc43 (X_of_Y0 rfl (E_move (Bo (bif y34.1 then true else y35.1)) rfl (by kernel_rfl))) ?_
              refine XL_split (bif y34.1 then true else y35.1) (fun hc45 => ?_) (fun hc45 => ?_)
              ·refine XL_takeC _ rfl rfl (by kernel_rfl) hc45 (X_of_Y0 rfl (E_move (Bo y37.1) rfl (by kernel_rfl))) ?_
               refine XL_takeC _ rfl rfl (by kernel_rfl) hc45 (X_of_Y0 rfl (Y0_not (b := y37.1) rfl (by kernel_rfl))) ?_
               refine XL_takeC _ rfl rfl (by kernel_rfl) hc43 (X_of_Y0 rfl (Y0_pick1 (b := bif y34.1 then true else y35.1) (p := !y37.1) (q := false) rfl (by kernel_rfl) hc45 (by kernel_rfl))) ?_
               refine XL_takeC _ rfl rfl (by kernel_rfl) hc41 (X_of_Y0 rfl (Y0_pick0 (b := y36.1 != (bif y34.1 then y35.1 else false)) (p := true) (q := bif (bif y34.1 then true else y35.1) then (!y37.1) else false) rfl (by kernel_rfl) hc43 (by kernel_rfl))) ?_
               refine XL_cons rfl (X_of_Y0 rfl (Y0_pick1 (b := bif (bif (bif y34.2 then y35.2 else false) then y36.2 else false) then y37.2 else false) (p := bif (y36.1 != (bif y34.1 then y35.1 else false)) then true else (bif (bif y34.1 then true else y35.1) then (!y37.1) else false)) (q := false) rfl (by kernel_rfl) hc41 (by kernel_rfl))) ?_
               refine XL_nil ?_
               subst ht46
               kernel_rfl
              ·refine XL_skipT _ rfl rfl (by kernel_rfl) hc45 rfl ?_
               refine XL_skipT _ rfl rfl (by kernel_rfl) hc45 rfl ?_
               refine XL_takeC _ rfl rfl (by kernel_rfl) hc43 (X_of_Y0 rfl (Y0_pick0 (b := bif y34.1 then true else y35.1) (p := !y37.1) (q := false) rfl (by kernel_rfl) hc45 (by kernel_rfl))) ?_
               refine XL_takeC _ rfl rfl (by kernel_rfl) hc41 (X_of_Y0 rfl (Y0_pick0 (b := y36.1 != (bif y34.1 then y35.1 else false)) (p := true) (q := bif (bif y34.1 then true else y35.1) then (!y37.1) else false) rfl (by kernel_rfl) hc43 (by kernel_rfl))) ?_
               refine XL_cons rfl (X_of_Y0 rfl (Y0_pick1 (b := bif (bif (bif y34.2 then y35.2 else false) then y36.2 else false) then y37.2 else false) (p := bif (y36.1 != (bif y34.1 then y35.1 else false)) then true else (bif (bif y34.1 then true else y35.1) then (!y37.1) else false)) (q := false) rfl (by kernel_rfl) hc41 (by kernel_rfl))) ?_
               refine XL_nil ?_
               subst ht46
               kernel_rfl
             ·refine XL_takeC _ rfl rfl (by kernel_rfl) hc44 (X_of_Y0 rfl (E_move (Bo y35.1) rfl (by kernel_rfl))) ?_
              refine XL_takeC _ rfl rfl (by kernel_rfl) hc43 (X_of_Y0 rfl (Y0_pick0 (b := y34.1) (p := true) (q := y35.1) rfl (by kernel_rfl) hc44 (by kernel_rfl))) ?_
              refine XL_takeC _ rfl rfl (by kernel_rfl) hc43 (X_of_Y0 rfl (E_move (Bo (bif y34.1 then true else y35.1)) rfl (by kernel_rfl))) ?_
              refine XL_split (bif y34.1 then true else y35.1) (fun hc45 => ?_) (fun hc45 => ?_)
              ·refine XL_takeC _ rfl rfl (by kernel_rfl) hc45 (X_of_Y0 rfl (E_move (Bo y37.1) rfl (by kernel_rfl))) ?_
               refine XL_takeC _ rfl rfl (by kernel_rfl) hc45 (X_of_Y0 rfl (Y0_not (b := y37.1) rfl (by kernel_rfl))) ?_
               refine XL_takeC _ rfl rfl (by kernel_rfl) hc43 (X_of_Y0 rfl (Y0_pick1 (b := bif y34.1 then true else y35.1) (p := !y37.1) (q := false) rfl (by kernel_rfl) hc45 (by kernel_rfl))) ?_
               refine XL_takeC _ rfl rfl (by kernel_rfl) hc41 (X_of_Y0 rfl (Y0_pick0 (b := y36.1 != (bif y34.1 then y35.1 else false)) (p := true) (q := bif (bif y34.1 then true else y35.1) then (!y37.1) else false) rfl (by kernel_rfl) hc43 (by kernel_rfl))) ?_
               refine XL_cons rfl (X_of_Y0 rfl (Y0_pick1 (b := bif (bif (bif y34.2 then y35.2 else false) then y36.2 else false) then y37.2 else false) (p := bif (y36.1 != (bif y34.1 then y35.1 else false)) then true else (bif (bif y34.1 then true else y35.1) then (!y37.1) else false)) (q := false) rfl (by kernel_rfl) hc41 (by kernel_rfl))) ?_
               refine XL_nil ?_
               subst ht46
               kernel_rfl
              ·refine XL_skipT _ rfl rfl (by kernel_rfl) hc45 rfl ?_
               refine XL_skipT _ rfl rfl (by kernel_rfl) hc45 rfl ?_
               refine XL_takeC _ rfl rfl (by kernel_rfl) hc43 (X_of_Y0 rfl (Y0_pick0 (b := bif y34.1 then true else y35.1) (p := !y37.1) (q := false) rfl (by kernel_rfl) hc45 (by kernel_rfl))) ?_
               refine XL_takeC _ rfl rfl (by kernel_rfl) hc41 (X_of_Y0 rfl (Y0_pick0 (b := y36.1 != (bif y34.1 then y35.1 else false)) (p := true) (q := bif (bif y34.1 then true else y35.1) then (!y37.1) else false) rfl (by kernel_rfl) hc43 (by kernel_rfl))) ?_
               refine XL_cons rfl (X_of_Y0 rfl (Y0_pick1 (b := bif (bif (bif y34.2 then y35.2 else false) then y36.2 else false) then y37.2 else false) (p := bif (y36.1 != (bif y34.1 then y35.1 else false)) then true else (bif (bif y34.1 then true else y35.1) then (!y37.1) else false)) (q := false) rfl (by kernel_rfl) hc41 (by kernel_rfl))) ?_
               refine XL_nil ?_
               subst ht46
               kernel_rfl
           ·refine XL_skipT _ rfl rfl (by kernel_rfl) hc42 rfl ?_
            refine XL_takeC _ rfl rfl (by kernel_rfl) hc41 (X_of_Y0 rfl (Y0_pick0 (b := y34.1) (p := y35.1) (q := false) rfl (by kernel_rfl) hc42 (by kernel_rfl))) ?_
            refine XL_takeC _ rfl rfl (by kernel_rfl) hc41 (X_of_Y0 rfl (Y0_neb (a := y36.1) (b := bif y34.1 then y35.1 else false) Try.underlying4 rfl (by kernel_rfl) (by kernel_rfl))) ?_
            refine XL_takeC _ rfl rfl (by kernel_rfl) hc41 (X_of_Y0 rfl (E_move (Bo (y36.1 != (bif y34.1 then y35.1 else false))) rfl (by kernel_rfl))) ?_
            refine XL_split (y36.1 != (bif y34.1 then y35.1 else false)) (fun hc43 => ?_) (fun hc43 => ?_)
            ·refine XL_skipF _ rfl rfl (by kernel_rfl) hc43 rfl ?_
             refine XL_skipF _ rfl rfl (by kernel_rfl) hc43 rfl ?_
             refine XL_skip2 rfl rfl (by kernel_rfl) rfl ?_
             refine XL_skipF _ rfl rfl (by kernel_rfl) hc43 rfl ?_
             refine XL_skipF _ rfl rfl (by kernel_rfl) hc43 rfl ?_
             refine XL_skip2 rfl rfl (by kernel_rfl) rfl ?_
             refine XL_skip2 rfl rfl (by kernel_rfl) rfl ?_
             refine XL_skipF _ rfl rfl (by kernel_rfl) hc43 rfl ?_
             refine XL_takeC _ rfl rfl (by kernel_rfl) hc41 (X_of_Y0 rfl (Y0_pick1 (b := y36.1 != (bif y34.1 then y35.1 else false)) (p := true) (q := bif (bif y34.1 then true else y35.1) then (!y37.1) else false) rfl (by kernel_rfl) hc43 (by kernel_rfl))) ?_
             refine XL_cons rfl (X_of_Y0 rfl (Y0_pick1 (b := bif (bif (bif y34.2 then y35.2 else false) then y36.2 else false) then y37.2 else false) (p := bif (y36.1 != (bif y34.1 then y35.1 else false)) then true else (bif (bif y34.1 then true else y35.1) then (!y37.1) else false)) (q := false) rfl (by kernel_rfl) hc41 (by kernel_rfl))) ?_
             refine XL_nil ?_
             subst ht46
             kernel_rfl
            ·refine XL_takeC _ rfl rfl (by kernel_rfl) hc43 (X_of_Y0 rfl (E_move (Bo y34.1) rfl (by kernel_rfl))) ?_
             refine XL_takeC _ rfl rfl (by kernel_rfl) hc43 (X_of_Y0 rfl (E_move (Bo y34.1) rfl (by kernel_rfl))) ?_
             refine XL_split y34.1 (fun hc44 => ?_) (fun hc44 => ?_)
             ·refine XL_skipF _ rfl rfl (by kernel_rfl) hc44 rfl ?_
              refine XL_takeC _ rfl rfl (by kernel_rfl) hc43 (X_of_Y0 rfl (Y0_pick1 (b := y34.1) (p := true) (q := y35.1) rfl (by kernel_rfl) hc44 (by kernel_rfl))) ?_
              refine XL_takeC _ rfl rfl (by kernel_rfl) hc43 (X_of_Y0 rfl (E_move (Bo (bif y34.1 then true else y35.1)) rfl (by kernel_rfl))) ?_
              refine XL_split (bif y34.1 then true else y35.1) (fun hc45 => ?_) (fun hc45 => ?_)
              ·refine XL_takeC _ rfl rfl (by kernel_rfl) hc45 (X_of_Y0 rfl (E_move (Bo y37.1) rfl (by kernel_rfl))) ?_
               refine XL_takeC _ rfl rfl (by kernel_rfl) hc45 (X_of_Y0 rfl (Y0_not (b := y37.1) rfl (by kernel_rfl))) ?_
               refine XL_takeC _ rfl rfl (by kernel_rfl) hc43 (X_of_Y0 rfl (Y0_pick1 (b := bif y34.1 then true else y35.1) (p := !y37.1) (q := false) rfl (by kernel_rfl) hc45 (by kernel_rfl))) ?_
               refine XL_takeC _ rfl rfl (by kernel_rfl) hc41 (X_of_Y0 rfl (Y0_pick0 (b := y36.1 != (bif y34.1 then y35.1 else false)) (p := true) (q := bif (bif y34.1 then true else y35.1) then (!y37.1) else false) rfl (by kernel_rfl) hc43 (by kernel_rfl))) ?_
               refine XL_cons rfl (X_of_Y0 rfl (Y0_pick1 (b := bif (bif (bif y34.2 then y35.2 else false) then y36.2 else false) then y37.2 else false) (p := bif (y36.1 != (bif y34.1 then y35.1 else false)) then true else (bif (bif y34.1 then true else y35.1) then (!y37.1) else false)) (q := false) rfl (by kernel_rfl) hc41 (by kernel_rfl))) ?_
               refine XL_nil ?_
               subst ht46
               kernel_rfl
              ·refine XL_skipT _ rfl rfl (by kernel_rfl) hc45 rfl ?_
               refine XL_skipT _ rfl rfl (by kernel_rfl) hc45 rfl ?_
               refine XL_takeC _ rfl rfl (by kernel_rfl) hc43 (X_of_Y0 rfl (Y0_pick0 (b := bif y34.1 then true else y35.1) (p := !y37.1) (q := false) rfl (by kernel_rfl) hc45 (by kernel_rfl))) ?_
               refine XL_takeC _ rfl rfl (by kernel_rfl) hc41 (X_of_Y0 rfl (Y0_pick0 (b := y36.1 != (bif y34.1 then y35.1 else false)) (p := true) (q := bif (bif y34.1 then true else y35.1) then (!y37.1) else false) rfl (by kernel_rfl) hc43 (by kernel_rfl))) ?_
               refine XL_cons rfl (X_of_Y0 rfl (Y0_pick1 (b := bif (bif (bif y34.2 then y35.2 else false) then y36.2 else false) then y37.2 else false) (p := bif (y36.1 != (bif y34.1 then y35.1 else false)) then true else (bif (bif y34.1 then true else y35.1) then (!y37.1) else false)) (q := false) rfl (by kernel_rfl) hc41 (by kernel_rfl))) ?_
               refine XL_nil ?_
               subst ht46
               kernel_rfl
             ·refine XL_takeC _ rfl rfl (by kernel_rfl) hc44 (X_of_Y0 rfl (E_move (Bo y35.1) rfl (by kernel_rfl))) ?_
              refine XL_takeC _ rfl rfl (by kernel_rfl) hc43 (X_of_Y0 rfl (Y0_pick0 (b := y34.1) (p := true) (q := y35.1) rfl (by kernel_rfl) hc44 (by kernel_rfl))) ?_
              refine XL_takeC _ rfl rfl (by kernel_rfl) hc43 (X_of_Y0 rfl (E_move (Bo (bif y34.1 then true else y35.1)) rfl (by kernel_rfl))) ?_
              refine XL_split (bif y34.1 then true else y35.1) (fun hc45 => ?_) (fun hc45 => ?_)
              ·refine XL_takeC _ rfl rfl (by kernel_rfl) hc45 (X_of_Y0 rfl (E_move (Bo y37.1) rfl (by kernel_rfl))) ?_
               refine XL_takeC _ rfl rfl (by kernel_rfl) hc45 (X_of_Y0 rfl (Y0_not (b := y37.1) rfl (by kernel_rfl))) ?_
               refine XL_takeC _ rfl rfl (by kernel_rfl) hc43 (X_of_Y0 rfl (Y0_pick1 (b := bif y34.1 then true else y35.1) (p := !y37.1) (q := false) rfl (by kernel_rfl) hc45 (by kernel_rfl))) ?_
               refine XL_takeC _ rfl rfl (by kernel_rfl) hc41 (X_of_Y0 rfl (Y0_pick0 (b := y36.1 != (bif y34.1 then y35.1 else false)) (p := true) (q := bif (bif y34.1 then true else y35.1) then (!y37.1) else false) rfl (by kernel_rfl) hc43 (by kernel_rfl))) ?_
               refine XL_cons rfl (X_of_Y0 rfl (Y0_pick1 (b := bif (bif (bif y34.2 then y35.2 else false) then y36.2 else false) then y37.2 else false) (p := bif (y36.1 != (bif y34.1 then y35.1 else false)) then true else (bif (bif y34.1 then true else y35.1) then (!y37.1) else false)) (q := false) rfl (by kernel_rfl) hc41 (by kernel_rfl))) ?_
               refine XL_nil ?_
               subst ht46
               kernel_rfl
              ·refine XL_skipT _ rfl rfl (by kernel_rfl) hc45 rfl ?_
               refine XL_skipT _ rfl rfl (by kernel_rfl) hc45 rfl ?_
               refine XL_takeC _ rfl rfl (by kernel_rfl) hc43 (X_of_Y0 rfl (Y0_pick0 (b := bif y34.1 then true else y35.1) (p := !y37.1) (q := false) rfl (by kernel_rfl) hc45 (by kernel_rfl))) ?_
               refine XL_takeC _ rfl rfl (by kernel_rfl) hc41 (X_of_Y0 rfl (Y0_pick0 (b := y36.1 != (bif y34.1 then y35.1 else false)) (p := true) (q := bif (bif y34.1 then true else y35.1) then (!y37.1) else false) rfl (by kernel_rfl) hc43 (by kernel_rfl))) ?_
               refine XL_cons rfl (X_of_Y0 rfl (Y0_pick1 (b := bif (bif (bif y34.2 then y35.2 else false) then y36.2 else false) then y37.2 else false) (p := bif (y36.1 != (bif y34.1 then y35.1 else false)) then true else (bif (bif y34.1 then true else y35.1) then (!y37.1) else false)) (q := false) rfl (by kernel_rfl) hc41 (by kernel_rfl))) ?_
               refine XL_nil ?_
               subst ht46
               kernel_rfl
          ·refine XL_skipT _ rfl rfl (by kernel_rfl) hc41 rfl ?_
           refine XL_skipT _ rfl rfl (by kernel_rfl) hc41 rfl ?_
           refine XL_skipT _ rfl rfl (by kernel_rfl) hc41 rfl ?_
           refine XL_skip2 rfl rfl (by kernel_rfl) rfl ?_
           refine XL_skipT _ rfl rfl (by kernel_rfl) hc41 rfl ?_
           refine XL_skipT _ rfl rfl (by kernel_rfl) hc41 rfl ?_
           refine XL_skipT _ rfl rfl (by kernel_rfl) hc41 rfl ?_
           refine XL_skip2 rfl rfl (by kernel_rfl) rfl ?_
           refine XL_skip2 rfl rfl (by kernel_rfl) rfl ?_
           refine XL_skip2 rfl rfl (by kernel_rfl) rfl ?_
           refine XL_skip2 rfl rfl (by kernel_rfl) rfl ?_
           refine XL_skip2 rfl rfl (by kernel_rfl) rfl ?_
           refine XL_skip2 rfl rfl (by kernel_rfl) rfl ?_
           refine XL_skip2 rfl rfl (by kernel_rfl) rfl ?_
           refine XL_skip2 rfl rfl (by kernel_rfl) rfl ?_
           refine XL_skipT _ rfl rfl (by kernel_rfl) hc41 rfl ?_
           refine XL_cons rfl (X_of_Y0 rfl (Y0_pick0 (b := bif (bif (bif y34.2 then y35.2 else false) then y36.2 else false) then y37.2 else false) (p := bif (y36.1 != (bif y34.1 then y35.1 else false)) then true else (bif (bif y34.1 then true else y35.1) then (!y37.1) else false)) (q := false) rfl (by kernel_rfl) hc41 (by kernel_rfl))) ?_
           refine XL_nil ?_
           subst ht46
           kernel_rfl
         ·refine XL_skipT _ rfl rfl (by kernel_rfl) hc40 rfl ?_
          refine XL_cons rfl (X_of_Y0 rfl (Y0_pick0 (b := bif (bif y34.2 then y35.2 else false) then y36.2 else false) (p := y37.2) (q := false) rfl (by kernel_rfl) hc40 (by kernel_rfl))) ?_
          refine L0 rfl rfl (E_move (Bo (bif (bif (bif y34.2 then y35.2 else false) then y36.2 else false) then y37.2 else false)) rfl (by kernel_rfl)) ?_
          refine XL_split (bif (bif (bif y34.2 then y35.2 else false) then y36.2 else false) then y37.2 else false) (fun hc41 => ?_) (fun hc41 => ?_)
          ·refine XL_takeC _ rfl rfl (by kernel_rfl) hc41 (X_of_Y0 rfl (E_move (Bo y36.1) rfl (by kernel_rfl))) ?_
           refine XL_takeC _ rfl rfl (by kernel_rfl) hc41 (X_of_Y0 rfl (E_move (Bo y34.1) rfl (by kernel_rfl))) ?_
           refine XL_takeC _ rfl rfl (by kernel_rfl) hc41 (X_of_Y0 rfl (E_move (Bo y34.1) rfl (by kernel_rfl))) ?_
           refine XL_split y34.1 (fun hc42 => ?_) (fun hc42 => ?_)
           ·refine XL_takeC _ rfl rfl (by kernel_rfl) hc42 (X_of_Y0 rfl (E_move (Bo y35.1) rfl (by kernel_rfl))) ?_
            refine XL_takeC _ rfl rfl (by kernel_rfl) hc41 (X_of_Y0 rfl (Y0_pick1 (b := y34.1) (p := y35.1) (q := false) rfl (by kernel_rfl) hc42 (by kernel_rfl))) ?_
            refine XL_takeC _ rfl rfl (by kernel_rfl) hc41 (X_of_Y0 rfl (Y0_neb (a := y36.1) (b := bif y34.1 then y35.1 else false) Try.underlying4 rfl (by kernel_rfl) (by kernel_rfl))) ?_
            refine XL_takeC _ rfl rfl (by kernel_rfl) hc41 (X_of_Y0 rfl (E_move (Bo (y36.1 != (bif y34.1 then y35.1 else false))) rfl (by kernel_rfl))) ?_
            refine XL_split (y36.1 != (bif y34.1 then y35.1 else false)) (fun hc43 => ?_) (fun hc43 => ?_)
            ·refine XL_skipF _ rfl rfl (by kernel_rfl) hc43 rfl ?_
             refine XL_skipF _ rfl rfl (by kernel_rfl) hc43 rfl ?_
             refine XL_skip2 rfl rfl (by kernel_rfl) rfl ?_
             refine XL_skipF _ rfl rfl (by kernel_rfl) hc43 rfl ?_
             refine XL_skipF _ rfl rfl (by kernel_rfl) hc43 rfl ?_
             refine XL_skip2 rfl rfl (by kernel_rfl) rfl ?_
             refine XL_skip2 rfl rfl (by kernel_rfl) rfl ?_
             refine XL_skipF _ rfl rfl (by kernel_rfl) hc43 rfl ?_
             refine XL_takeC _ rfl rfl (by kernel_rfl) hc41 (X_of_Y0 rfl (Y0_pick1 (b := y36.1 != (bif y34.1 then y35.1 else false)) (p := true) (q := bif (bif y34.1 then true else y35.1) then (!y37.1) else false) rfl (by kernel_rfl) hc43 (by kernel_rfl))) ?_
             refine XL_cons rfl (X_of_Y0 rfl (Y0_pick1 (b := bif (bif (bif y34.2 then y35.2 else false) then y36.2 else false) then y37.2 else false) (p := bif (y36.1 != (bif y34.1 then y35.1 else false)) then true else (bif (bif y34.1 then true else y35.1) then (!y37.1) else false)) (q := false) rfl (by kernel_rfl) hc41 (by kernel_rfl))) ?_
             refine XL_nil ?_
             subst ht46
             kernel_rfl
            ·refine XL_takeC _ rfl rfl (by kernel_rfl) hc43 (X_of_Y0 rfl (E_move (Bo y34.1) rfl (by kernel_rfl))) ?_
             refine XL_takeC _ rfl rfl (by kernel_rfl) hc43 (X_of_Y0 rfl (E_move (Bo y34.1) rfl (by kernel_rfl))) ?_
             refine XL_split y34.1 (fun hc44 => ?_) (fun hc44 => ?_)
             ·refine XL_skipF _ rfl rfl (by kernel_rfl) hc44 rfl ?_
              refine XL_takeC _ rfl rfl (by kernel_rfl) hc43 (X_of_Y0 rfl (Y0_pick1 (b := y34.1) (p := true) (q := y35.1) rfl (by kernel_rfl) hc44 (by kernel_rfl))) ?_
              refine XL_takeC _ rfl rfl (by kernel_rfl) hc43 (X_of_Y0 rfl (E_move (Bo (bif y34.1 then true else y35.1)) rfl (by kernel_rfl))) ?_
              refine XL_split (bif y34.1 then true else y35.1) (fun hc45 => ?_) (fun hc45 => ?_)
              ·refine XL_takeC _ rfl rfl (by kernel_rfl) hc45 (X_of_Y0 rfl (E_move (Bo y37.1) rfl (by kernel_rfl))) ?_
               refine XL_takeC _ rfl rfl (by kernel_rfl) hc45 (X_of_Y0 rfl (Y0_not (b := y37.1) rfl (by kernel_rfl))) ?_
               refine XL_takeC _ rfl rfl (by kernel_rfl) hc43 (X_of_Y0 rfl (Y0_pick1 (b := bif y34.1 then true else y35.1) (p := !y37.1) (q := false) rfl (by kernel_rfl) hc45 (by kernel_rfl))) ?_
               refine XL_takeC _ rfl rfl (by kernel_rfl) hc41 (X_of_Y0 rfl (Y0_pick0 (b := y36.1 != (bif y34.1 then y35.1 else false)) (p := true) (q := bif (bif y34.1 then true else y35.1) then (!y37.1) else false) rfl (by kernel_rfl) hc43 (by kernel_rfl))) ?_
               refine XL_cons rfl (X_of_Y0 rfl (Y0_pick1 (b := bif (bif (bif y34.2 then y35.2 else false) then y36.2 else false) then y37.2 else false) (p := bif (y36.1 != (bif y34.1 then y35.1 else false)) then true else (bif (bif y34.1 then true else y35.1) then (!y37.1) else false)) (q := false) rfl (by kernel_rfl) hc41 (by kernel_rfl))) ?_
               refine XL_nil ?_
               subst ht46
               kernel_rfl
              ·refine XL_skipT _ rfl rfl (by kernel_rfl) hc45 rfl ?_
               refine XL_skipT _ rfl rfl (by kernel_rfl) hc45 rfl ?_
               refine XL_takeC _ rfl rfl (by kernel_rfl) hc43 (X_of_Y0 rfl (Y0_pick0 (b := bif y34.1 then true else y35.1) (p := !y37.1) (q := false) rfl (by kernel_rfl) hc45 (by kernel_rfl))) ?_
               refine XL_takeC _ rfl rfl (by kernel_rfl) hc41 (X_of_Y0 rfl (Y0_pick0 (b := y36.1 != (bif y34.1 then y35.1 else false)) (p := true) (q := bif (bif y34.1 then true else y35.1) then (!y37.1) else false) rfl (by kernel_rfl) hc43 (by kernel_rfl))) ?_
               refine XL_cons rfl (X_of_Y0 rfl (Y0_pick1 (b := bif (bif (bif y34.2 then y35.2 else false) then y36.2 else false) then y37.2 else false) (p := bif (y36.1 != (bif y34.1 then y35.1 else false)) then true else (bif (bif y34.1 then true else y35.1) then (!y37.1) else false)) (q := false) rfl (by kernel_rfl) hc41 (by kernel_rfl))) ?_
               refine XL_nil ?_
               subst ht46
               kernel_rfl
             ·refine XL_takeC _ rfl rfl (by kernel_rfl) hc44 (X_of_Y0 rfl (E_move (Bo y35.1) rfl (by kernel_rfl))) ?_
              refine XL_takeC _ rfl rfl (by kernel_rfl) hc43 (X_of_Y0 rfl (Y0_pick0 (b := y34.1) (p := true) (q := y35.1) rfl (by kernel_rfl) hc44 (by kernel_rfl))) ?_
              refine XL_takeC _ rfl rfl (by kernel_rfl) hc43 (X_of_Y0 rfl (E_move (Bo (bif y34.1 then true else y35.1)) rfl (by kernel_rfl))) ?_
              refine XL_split (bif y34.1 then true else y35.1) (fun hc45 => ?_) (fun hc45 => ?_)
              ·refine XL_takeC _ rfl rfl (by kernel_rfl) hc45 (X_of_Y0 rfl (E_move (Bo y37.1) rfl (by kernel_rfl))) ?_
               refine XL_takeC _ rfl rfl (by kernel_rfl) hc45 (X_of_Y0 rfl (Y0_not (b := y37.1) rfl (by kernel_rfl))) ?_
               refine XL_takeC _ rfl rfl (by kernel_rfl) hc43 (X_of_Y0 rfl (Y0_pick1 (b := bif y34.1 then true else y35.1) (p := !y37.1) (q := false) rfl (by kernel_rfl) hc45 (by kernel_rfl))) ?_
               refine XL_takeC _ rfl rfl (by kernel_rfl) hc41 (X_of_Y0 rfl (Y0_pick0 (b := y36.1 != (bif y34.1 then y35.1 else false)) (p := true) (q := bif (bif y34.1 then true else y35.1) then (!y37.1) else false) rfl (by kernel_rfl) hc43 (by kernel_rfl))) ?_
               refine XL_cons rfl (X_of_Y0 rfl (Y0_pick1 (b := bif (bif (bif y34.2 then y35.2 else false) then y36.2 else false) then y37.2 else false) (p := bif (y36.1 != (bif y34.1 then y35.1 else false)) then true else (bif (bif y34.1 then true else y35.1) then (!y37.1) else false)) (q := false) rfl (by kernel_rfl) hc41 (by kernel_rfl))) ?_
               refine XL_nil ?_
               subst ht46
               kernel_rfl
              ·refine XL_skipT _ rfl rfl (by kernel_rfl) hc45 rfl ?_
               refine XL_skipT _ rfl rfl (by kernel_rfl) hc45 rfl ?_
               refine XL_takeC _ rfl rfl (by kernel_rfl) hc43 (X_of_Y0 rfl (Y0_pick0 (b := bif y34.1 then true else y35.1) (p := !y37.1) (q := false) rfl (by kernel_rfl) hc45 (by kernel_rfl))) ?_
               refine XL_takeC _ rfl rfl (by kernel_rfl) hc41 (X_of_Y0 rfl (Y0_pick0 (b := y36.1 != (bif y34.1 then y35.1 else false)) (p := true) (q := bif (bif y34.1 then true else y35.1) then (!y37.1) else false) rfl (by kernel_rfl) hc43 (by kernel_rfl))) ?_
               refine XL_cons rfl (X_of_Y0 rfl (Y0_pick1 (b := bif (bif (bif y34.2 then y35.2 else false) then y36.2 else false) then y37.2 else false) (p := bif (y36.1 != (bif y34.1 then y35.1 else false)) then true else (bif (bif y34.1 then true else y35.1) then (!y37.1) else false)) (q := false) rfl (by kernel_rfl) hc41 (by kernel_rfl))) ?_
               refine XL_nil ?_
               subst ht46
               kernel_rfl
           ·refine XL_skipT _ rfl rfl (by kernel_rfl) hc42 rfl ?_
            refine XL_takeC _ rfl rfl (by kernel_rfl) hc41 (X_of_Y0 rfl (Y0_pick0 (b := y34.1) (p := y35.1) (q := false) rfl (by kernel_rfl) hc42 (by kernel_rfl))) ?_
            refine XL_takeC _ rfl rfl (by kernel_rfl) hc41 (X_of_Y0 rfl (Y0_neb (a := y36.1) (b := bif y34.1 then y35.1 else false) Try.underlying4 rfl (by kernel_rfl) (by kernel_rfl))) ?_
            refine XL_takeC _ rfl rfl (by kernel_rfl) hc41 (X_of_Y0 rfl (E_move (Bo (y36.1 != (bif y34.1 then y35.1 else false))) rfl (by kernel_rfl))) ?_
            refine XL_split (y36.1 != (bif y34.1 then y35.1 else false)) (fun hc43 => ?_) (fun hc43 => ?_)
            ·refine XL_skipF _ rfl rfl (by kernel_rfl) hc43 rfl ?_
             refine XL_skipF _ rfl rfl (by kernel_rfl) hc43 rfl ?_
             refine XL_skip2 rfl rfl (by kernel_rfl) rfl ?_
             refine XL_skipF _ rfl rfl (by kernel_rfl) hc43 rfl ?_
             refine XL_skipF _ rfl rfl (by kernel_rfl) hc43 rfl ?_
             refine XL_skip2 rfl rfl (by kernel_rfl) rfl ?_
             refine XL_skip2 rfl rfl (by kernel_rfl) rfl ?_
             refine XL_skipF _ rfl rfl (by kernel_rfl) hc43 rfl ?_
             refine XL_takeC _ rfl rfl (by kernel_rfl) hc41 (X_of_Y0 rfl (Y0_pick1 (b := y36.1 != (bif y34.1 then y35.1 else false)) (p := true) (q := bif (bif y34.1 then true else y35.1) then (!y37.1) else false) rfl (by kernel_rfl) hc43 (by kernel_rfl))) ?_
             refine XL_cons rfl (X_of_Y0 rfl (Y0_pick1 (b := bif (bif (bif y34.2 then y35.2 else false) then y36.2 else false) then y37.2 else false) (p := bif (y36.1 != (bif y34.1 then y35.1 else false)) then true else (bif (bif y34.1 then true else y35.1) then (!y37.1) else false)) (q := false) rfl (by kernel_rfl) hc41 (by kernel_rfl))) ?_
             refine XL_nil ?_
             subst ht46
             kernel_rfl
            ·refine XL_takeC _ rfl rfl (by kernel_rfl) hc43 (X_of_Y0 rfl (E_move (Bo y34.1) rfl (by kernel_rfl))) ?_
             refine XL_takeC _ rfl rfl (by kernel_rfl) hc43 (X_of_Y0 rfl (E_move (Bo y34.1) rfl (by kernel_rfl))) ?_
             refine XL_split y34.1 (fun hc44 => ?_) (fun hc44 => ?_)
             ·refine XL_skipF _ rfl rfl (by kernel_rfl) hc44 rfl ?_
              refine XL_takeC _ rfl rfl (by kernel_rfl) hc43 (X_of_Y0 rfl (Y0_pick1 (b := y34.1) (p := true) (q := y35.1) rfl (by kernel_rfl) hc44 (by kernel_rfl))) ?_
              refine XL_takeC _ rfl rfl (by kernel_rfl) hc43 (X_of_Y0 rfl (E_move (Bo (bif y34.1 then true else y35.1)) rfl (by kernel_rfl))) ?_
              refine XL_split (bif y34.1 then true else y35.1) (fun hc45 => ?_) (fun hc45 => ?_)
              ·refine XL_takeC _ rfl rfl (by kernel_rfl) hc45 (X_of_Y0 rfl (E_move (Bo y37.1) rfl (by kernel_rfl))) ?_
               refine XL_takeC _ rfl rfl (by kernel_rfl) hc45 (X_of_Y0 rfl (Y0_not (b := y37.1) rfl (by kernel_rfl))) ?_
               refine XL_takeC _ rfl rfl (by kernel_rfl) hc43 (X_of_Y0 rfl (Y0_pick1 (b := bif y34.1 then true else y35.1) (p := !y37.1) (q := false) rfl (by kernel_rfl) hc45 (by kernel_rfl))) ?_
               refine XL_takeC _ rfl rfl (by kernel_rfl) hc41 (X_of_Y0 rfl (Y0_pick0 (b := y36.1 != (bif y34.1 then y35.1 else false)) (p := true) (q := bif (bif y34.1 then true else y35.1) then (!y37.1) else false) rfl (by kernel_rfl) hc43 (by kernel_rfl))) ?_
               refine XL_cons rfl (X_of_Y0 rfl (Y0_pick1 (b := bif (bif (bif y34.2 then y35.2 else false) then y36.2 else false) then y37.2 else false) (p := bif (y36.1 != (bif y34.1 then y35.1 else false)) then true else (bif (bif y34.1 then true else y35.1) then (!y37.1) else false)) (q := false) rfl (by kernel_rfl) hc41 (by kernel_rfl))) ?_
               refine XL_nil ?_
               subst ht46
               kernel_rfl
              ·refine XL_skipT _ rfl rfl (by kernel_rfl) hc45 rfl ?_
               refine XL_skipT _ rfl rfl (by kernel_rfl) hc45 rfl ?_
               refine XL_takeC _ rfl rfl (by kernel_rfl) hc43 (X_of_Y0 rfl (Y0_pick0 (b := bif y34.1 then true else y35.1) (p := !y37.1) (q := false) rfl (by kernel_rfl) hc45 (by kernel_rfl))) ?_
               refine XL_takeC _ rfl rfl (by kernel_rfl) hc41 (X_of_Y0 rfl (Y0_pick0 (b := y36.1 != (bif y34.1 then y35.1 else false)) (p := true) (q := bif (bif y34.1 then true else y35.1) then (!y37.1) else false) rfl (by kernel_rfl) hc43 (by kernel_rfl))) ?_
               refine XL_cons rfl (X_of_Y0 rfl (Y0_pick1 (b := bif (bif (bif y34.2 then y35.2 else false) then y36.2 else false) then y37.2 else false) (p := bif (y36.1 != (bif y34.1 then y35.1 else false)) then true else (bif (bif y34.1 then true else y35.1) then (!y37.1) else false)) (q := false) rfl (by kernel_rfl) hc41 (by kernel_rfl))) ?_
               refine XL_nil ?_
               subst ht46
               kernel_rfl
             ·refine XL_takeC _ rfl rfl (by kernel_rfl) hc44 (X_of_Y0 rfl (E_move (Bo y35.1) rfl (by kernel_rfl))) ?_
              refine XL_takeC _ rfl rfl (by kernel_rfl) hc43 (X_of_Y0 rfl (Y0_pick0 (b := y34.1) (p := true) (q := y35.1) rfl (by kernel_rfl) hc44 (by kernel_rfl))) ?_
              refine XL_takeC _ rfl rfl (by kernel_rfl) hc43 (X_of_Y0 rfl (E_move (Bo (bif y34.1 then true else y35.1)) rfl (by kernel_rfl))) ?_
              refine XL_split (bif y34.1 then true else y35.1) (fun hc45 => ?_) (fun hc45 => ?_)
              ·refine XL_takeC _ rfl rfl (by kernel_rfl) hc45 (X_of_Y0 rfl (E_move (Bo y37.1) rfl (by kernel_rfl))) ?_
               refine XL_takeC _ rfl rfl (by kernel_rfl) hc45 (X_of_Y0 rfl (Y0_not (b := y37.1) rfl (by kernel_rfl))) ?_
               refine XL_takeC _ rfl rfl (by kernel_rfl) hc43 (X_of_Y0 rfl (Y0_pick1 (b := bif y34.1 then true else y35.1) (p := !y37.1) (q := false) rfl (by kernel_rfl) hc45 (by kernel_rfl))) ?_
               refine XL_takeC _ rfl rfl (by kernel_rfl) hc41 (X_of_Y0 rfl (Y0_pick0 (b := y36.1 != (bif y34.1 then y35.1 else false)) (p := true) (q := bif (bif y34.1 then true else y35.1) then (!y37.1) else false) rfl (by kernel_rfl) hc43 (by kernel_rfl))) ?_
               refine XL_cons rfl (X_of_Y0 rfl (Y0_pick1 (b := bif (bif (bif y34.2 then y35.2 else false) then y36.2 else false) then y37.2 else false) (p := bif (y36.1 != (bif y34.1 then y35.1 else false)) then true else (bif (bif y34.1 then true else y35.1) then (!y37.1) else false)) (q := false) rfl (by kernel_rfl) hc41 (by kernel_rfl))) ?_
               refine XL_nil ?_
               subst ht46
               kernel_rfl
              ·refine XL_skipT _ rfl rfl (by kernel_rfl) hc45 rfl ?_
               refine XL_skipT _ rfl rfl (by kernel_rfl) hc45 rfl ?_
               refine XL_takeC _ rfl rfl (by kernel_rfl) hc43 (X_of_Y0 rfl (Y0_pick0 (b := bif y34.1 then true else y35.1) (p := !y37.1) (q := false) rfl (by kernel_rfl) hc45 (by kernel_rfl))) ?_
               refine XL_takeC _ rfl rfl (by kernel_rfl) hc41 (X_of_Y0 rfl (Y0_pick0 (b := y36.1 != (bif y34.1 then y35.1 else false)) (p := true) (q := bif (bif y34.1 then true else y35.1) then (!y37.1) else false) rfl (by kernel_rfl) hc43 (by kernel_rfl))) ?_
               refine XL_cons rfl (X_of_Y0 rfl (Y0_pick1 (b := bif (bif (bif y34.2 then y35.2 else false) then y36.2 else false) then y37.2 else false) (p := bif (y36.1 != (bif y34.1 then y35.1 else false)) then true else (bif (bif y34.1 then true else y35.1) then (!y37.1) else false)) (q := false) rfl (by kernel_rfl) hc41 (by kernel_rfl))) ?_
               refine XL_nil ?_
               subst ht46
               kernel_rfl
          ·refine XL_skipT _ rfl rfl (by kernel_rfl) hc41 rfl ?_
           refine XL_skipT _ rfl rfl (by kernel_rfl) hc41 rfl ?_
           refine XL_skipT _ rfl rfl (by kernel_rfl) hc41 rfl ?_
           refine XL_skip2 rfl rfl (by kernel_rfl) rfl ?_
           refine XL_skipT _ rfl rfl (by kernel_rfl) hc41 rfl ?_
           refine XL_skipT _ rfl rfl (by kernel_rfl) hc41 rfl ?_
           refine XL_skipT _ rfl rfl (by kernel_rfl) hc41 rfl ?_
           refine XL_skip2 rfl rfl (by kernel_rfl) rfl ?_
           refine XL_skip2 rfl rfl (by kernel_rfl) rfl ?_
           refine XL_skip2 rfl rfl (by kernel_rfl) rfl ?_
           refine XL_skip2 rfl rfl (by kernel_rfl) rfl ?_
           refine XL_skip2 rfl rfl (by kernel_rfl) rfl ?_
           refine XL_skip2 rfl rfl (by kernel_rfl) rfl ?_
           refine XL_skip2 rfl rfl (by kernel_rfl) rfl ?_
           refine XL_skip2 rfl rfl (by kernel_rfl) rfl ?_
           refine XL_skipT _ rfl rfl (by kernel_rfl) hc41 rfl ?_
           refine XL_cons rfl (X_of_Y0 rfl (Y0_pick0 (b := bif (bif (bif y34.2 then y35.2 else false) then y36.2 else false) then y37.2 else false) (p := bif (y36.1 != (bif y34.1 then y35.1 else false)) then true else (bif (bif y34.1 then true else y35.1) then (!y37.1) else false)) (q := false) rfl (by kernel_rfl) hc41 (by kernel_rfl))) ?_
           refine XL_nil ?_
           subst ht46
           kernel_rfl
      refine V_cond rfl (fun hc47 => ?_) (fun hc47 => ?_)
      ·have h := of_true h hc47
       refine V_sreg (mb 238 16) [] (s1 := ⟨bt 4 (Bo false :: bt 233 []), []⟩) ?_ ?_
       ·refine L0 rfl rfl (E_assign (Bo false) rfl (by kernel_rfl)) ?_
        refine XL_nil ?_
        kernel_rfl
       refine V_ret ?_
       obtain rfl := some_inj h
       show Post _ _ _ _ _
       exact ⟨.inr rfl, rfl, rfl, rfl⟩
      ·have h := of_false h hc47
       refine V_skip ?_
       show V _ _ _ _
       obtain ⟨y48, hy48, h⟩ := of_bind h
       refine V_sreg (mb 238 25769805888) [88, 48] (s1 := ⟨bt 6 (.pt 48 0 :: bt 4 (.pt 88 0 :: bt 21 (Bo y48.1 :: Bo y48.2 :: bt 203 []))), [(88, .box [Ti y8.1.1, Ti y8.1.2.1, Ti y8.1.2.2]), (48, .box [Ti y5.2.1, Ti y5.2.2.1, Ti y5.2.2.2])]⟩) ?_ ?_
       ·refine L0 rfl rfl (E_loadn (cs := [Ti y6.1.1, Ti y6.1.2.1, Ti y6.1.2.2]) [Ti y6.1.1, Ti y6.1.2.1, Ti y6.1.2.2] wd25 rfl (by kernel_rfl) (Nat.le_of_ble_eq_true rfl) (by kernel_rfl)) ?_
        refine L0 rfl rfl (E_loadn (cs := [Ti y5.1.1, Ti y5.1.2.1, Ti y5.1.2.2]) [Ti y5.1.1, Ti y5.1.2.1, Ti y5.1.2.2] wd25 rfl (by kernel_rfl) (Nat.le_of_ble_eq_true rfl) (by kernel_rfl)) ?_
        refine L1 rfl rfl (Y1_call (s_impl_IsSublattice hy48) cf_impl_IsSublattice rfl (by kernel_rfl)) ?_
        refine L0 rfl rfl (E_move (.tc (Bo y48.1) (.tc (Bo y48.2) .tn)) rfl (by kernel_rfl)) ?_
        refine L0 rfl rfl (E_ext (n := 0) (Bo y48.1) (.tc (Bo y48.2) .tn) (Bo y48.1) rfl (by kernel_rfl) (by kernel_rfl) (by intro hh; cases hh)) ?_
        refine L0 rfl rfl (E_ext (n := 1) (Bo y48.1) (.tc (Bo y48.2) .tn) (Bo y48.2) rfl (by kernel_rfl) (by kernel_rfl) (by intro hh; cases hh)) ?_
        refine L0 rfl rfl (E_assign (Bo y48.1) rfl (by kernel_rfl)) ?_
        refine L0 rfl rfl (E_assign (Bo y48.2) rfl (by kernel_rfl)) ?_
        refine XL_nil ?_
        kernel_rfl
       obtain ⟨y49, hy49, h⟩ := of_bind h
       refine V_sreg (mb 238 128849018880) [] (s1 := ⟨bt 33 (Bo y48.1 :: Bo y48.2 :: Bo y49.1 :: Bo y49.2 :: bt 201 []), []⟩) ?_ ?_
       ·refine L0 rfl rfl (E_loadn (cs := [Ti y5.2.1, Ti y5.2.2.1, Ti y5.2.2.2]) [Ti y5.2.1, Ti y5.2.2.1, Ti y5.2.2.2] wd25 rfl (by kernel_rfl) (Nat.le_of_ble_eq_true rfl) (by kernel_rfl)) ?_
        refine L0 rfl rfl (E_loadn (cs := [Ti y8.1.1, Ti y8.1.2.1, Ti y8.1.2.2]) [Ti y8.1.1, Ti y8.1.2.1, Ti y8.1.2.2] wd25 rfl (by kernel_rfl) (Nat.le_of_ble_eq_true rfl) (by kernel_rfl)) ?_
        refine L1 rfl rfl (Y1_call (s_impl_IsSublattice hy49) cf_impl_IsSublattice rfl (by kernel_rfl)) ?_
        refine L0 rfl rfl (E_move (.tc (Bo y49.1) (.tc (Bo y49.2) .tn)) rfl (by kernel_rfl)) ?_
        refine L0 rfl rfl (E_ext (n := 0) (Bo y49.1) (.tc (Bo y49.2) .tn) (Bo y49.1) rfl (by kernel_rfl) (by kernel_rfl) (by intro hh; cases hh)) ?_
        refine L0 rfl rfl (E_ext (n := 1) (Bo y49.1) (.tc (Bo y49.2) .tn) (Bo y49.2) rfl (by kernel_rfl) (by kernel_rfl) (by intro hh; cases hh)) ?_
        refine L0 rfl rfl (E_assign (Bo y49.1) rfl (by kernel_rfl)) ?_
        refine L0 rfl rfl (E_assign (Bo y49.2) rfl (by kernel_rfl)) ?_
        refine XL_nil ?_
        kernel_rfl
       obtain ⟨t53, ht53, h⟩ := of_bind h
       have ht53 := some_inj ht53
       refine V_sreg (mb 238 16) [] (s1 := ⟨bt 4 (Bo t53 :: bt 233 []), []⟩) ?_ ?_
       ·refine L0 rfl rfl (E_move (Bo y48.2) rfl (by kernel_rfl)) ?_
        refine L0 rfl rfl (E_move (Bo y48.2) rfl (by kernel_rfl)) ?_
        refine XL_split y48.2 (fun hc50 => ?_) (fun hc50 => ?_)
        ·refine XL_takeC _ rfl rfl (by kernel_rfl) hc50 (X_of_Y0 rfl (E_move (Bo y48.1) rfl (by kernel_rfl))) ?_
         refine XL_cons rfl (X_of_Y0 rfl (Y0_pick1 (b := y48.2) (p := y48.1) (q := false) rfl (by kernel_rfl) hc50 (by kernel_rfl))) ?_
         refine L0 rfl rfl (E_move (Bo (bif y48.2 then y48.1 else false)) rfl (by kernel_rfl)) ?_
         refine XL_split (bif y48.2 then y48.1 else false) (fun hc51 => ?_) (fun hc51 => ?_)
         ·refine XL_takeC _ rfl rfl (by kernel_rfl) hc51 (X_of_Y0 rfl (E_move (Bo y49.2) rfl (by kernel_rfl))) ?_
          refine XL_cons rfl (X_of_Y0 rfl (Y0_pick1 (b := bif y48.2 then y48.1 else false) (p := y49.2) (q := false) rfl (by kernel_rfl) hc51 (by kernel_rfl))) ?_
          refine L0 rfl rfl (E_move (Bo (bif (bif y48.2 then y48.1 else false) then y49.2 else false)) rfl (by kernel_rfl)) ?_
          refine XL_split (bif (bif y48.2 then y48.1 else false) then y49.2 else false) (fun hc52 => ?_) (fun hc52 => ?_)
          ·refine XL_takeC _ rfl rfl (by kernel_rfl) hc52 (X_of_Y0 rfl (E_move (Bo y49.1) rfl (by kernel_rfl))) ?_
           refine XL_cons rfl (X_of_Y0 rfl (Y0_pick1 (b := bif (bif y48.2 then y48.1 else false) then y49.2 else false) (p := y49.1) (q := false) rfl (by kernel_rfl) hc52 (by kernel_rfl))) ?_
           refine L0 rfl rfl (E_assign (Bo (bif (bif (bif y48.2 then y48.1 else false) then y49.2 else false) then y49.1 else false)) rfl (by kernel_rfl)) ?_
           refine XL_nil ?_
           subst ht53
           kernel_rfl
          ·refine XL_skipT _ rfl rfl (by kernel_rfl) hc52 rfl ?_
           refine XL_cons rfl (X_of_Y0 rfl (Y0_pick0 (b := bif (bif y48.2 then y48.1 else false) then y49.2 else false) (p := y49.1) (q := false) rfl (by kernel_rfl) hc52 (by kernel_rfl))) ?_
           refine L0 rfl rfl (E_assign (Bo (bif (bif (bif y48.2 then y48.1 else false) then y49.2 else false) then y49.1 else false)) rfl (by kernel_rfl)) ?_
           refine XL_nil ?_
           subst ht53
           kernel_rfl
         ·refine XL_skipT _ rfl rfl (by kernel_rfl) hc51 rfl ?_
          refine XL_cons rfl (X_of_Y0 rfl (Y0_pick0 (b := bif y48.2 then y48.1 else false) (p := y49.2) (q := false) rfl (by kernel_rfl) hc51 (by kernel_rfl))) ?_
          refine L0 rfl rfl (E_move (Bo (bif (bif y48.2 then y48.1 else false) then y49.2 else false)) rfl (by kernel_rfl)) ?_
          refine XL_split (bif (bif y48.2 then y48.1 else false) then y49.2 else false) (fun hc52 => ?_) (fun hc52 => ?_)
          ·refine XL_takeC _ rfl rfl (by kernel_rfl) hc52 (X_of_Y0 rfl (E_move (Bo y49.1) rfl (by kernel_rfl))) ?_
           refine XL_cons rfl (X_of_Y0 rfl (Y0_pick1 (b := bif (bif y48.2 then y48.1 else false) then y49.2 else false) (p := y49.1) (q := false) rfl (by kernel_rfl) hc52 (by kernel_rfl))) ?_
           refine L0 rfl rfl (E_assign (Bo (bif (bif (bif y48.2 then y48.1 else false) then y49.2 else false) then y49.1 else false)) rfl (by kernel_rfl)) ?_
           refine XL_nil ?_
           subst ht53
           kernel_rfl
          ·refine XL_skipT _ rfl rfl (by kernel_rfl) hc52 rfl ?_
           refine XL_cons rfl (X_of_Y0 rfl (Y0_pick0 (b := bif (bif y48.2 then y48.1 else false) then y49.2 else false) (p := y49.1) (q := false) rfl (by kernel_rfl) hc52 (by kernel_rfl))) ?_
           refine L0 rfl rfl (E_assign (Bo (bif (bif (bif y48.2 then y48.1 else false) then y49.2 else false) then y49.1 else false)) rfl (by kernel_rfl)) ?_
           refine XL_nil ?_
           subst ht53
           kernel_rfl
        ·refine XL_skipT _ rfl rfl (by kernel_rfl) hc50 rfl ?_
         refine XL_cons rfl (X_of_Y0 rfl (Y0_pick0 (b := y48.2) (p := y48.1) (q := false) rfl (by kernel_rfl) hc50 (by kernel_rfl))) ?_
         refine L0 rfl rfl (E_move (Bo (bif y48.2 then y48.1 else false)) rfl (by kernel_rfl)) ?_
         refine XL_split (bif y48.2 then y48.1 else false) (fun hc51 => ?_) (fun hc51 => ?_)
         ·refine XL_takeC _ rfl rfl (by kernel_rfl) hc51 (X_of_Y0 rfl (E_move (Bo y49.2) rfl (by kernel_rfl))) ?_
          refine XL_cons rfl (X_of_Y0 rfl (Y0_pick1 (b := bif y48.2 then y48.1 else false) (p := y49.2) (q := false) rfl (by kernel_rfl) hc51 (by kernel_rfl))) ?_
          refine L0 rfl rfl (E_move (Bo (bif (bif y48.2 then y48.1 else false) then y49.2 else false)) rfl (by kernel_rfl)) ?_
          refine XL_split (bif (bif y48.2 then y48.1 else false) then y49.2 else false) (fun hc52 => ?_) (fun hc52 => ?_)
          ·refine XL_takeC _ rfl rfl (by kernel_rfl) hc52 (X_of_Y0 rfl (E_move (Bo y49.1) rfl (by kernel_rfl))) ?_
           refine XL_cons rfl (X_of_Y0 rfl (Y0_pick1 (b := bif (bif y48.2 then y48.1 else false) then y49.2 else false) (p := y49.1) (q := false) rfl (by kernel_rfl) hc52 (by kernel_rfl))) ?_
           refine L0 rfl rfl (E_assign (Bo (bif (bif (bif y48.2 then y48.1 else false) then y49.2 else false) then y49.1 else false)) rfl (by kernel_rfl)) ?_
           refine XL_nil ?_
           subst ht53
           kernel_rfl
          ·refine XL_skipT _ rfl rfl (by kernel_rfl) hc52 rfl ?_
           refine XL_cons rfl (X_of_Y0 rfl (Y0_pick0 (b := bif (bif y48.2 then y48.1 else false) then y49.2 else false) (p := y49.1) (q := false) rfl (by kernel_rfl) hc52 (by kernel_rfl))) ?_
           refine L0 rfl rfl (E_assign (Bo (bif (bif (bif y48.2 then y48.1 else false) then y49.2 else false) then y49.1 else false)) rfl (by kernel_rfl)) ?_
           refine XL_nil ?_
           subst ht53
           kernel_rfl
         ·refine XL_skipT _ rfl rfl (by kernel_rfl) hc51 rfl ?_
          refine XL_cons rfl (X_of_Y0 rfl (Y0_pick0 (b := bif y48.2 then y48.1 else false) (p := y49.2) (q := false) rfl (by kernel_rfl) hc51 (by kernel_rfl))) ?_
          refine L0 rfl rfl (E_move (Bo (bif (bif y48.2 then y48.1 else false) then y49.2 else false)) rfl (by kernel_rfl)) ?_
          refine XL_split (bif (bif y48.2 then y48.1 else false) then y49.2 else false) (fun hc52 => ?_) (fun hc52 => ?_)
          ·refine XL_takeC _ rfl rfl (by kernel_rfl) hc52 (X_of_Y0 rfl (E_move (Bo y49.1) rfl (by kernel_rfl))) ?_
           refine XL_cons rfl (X_of_Y0 rfl (Y0_pick1 (b := bif (bif y48.2 then y48.1 else false) then y49.2 else false) (p := y49.1) (q := false) rfl (by kernel_rfl) hc52 (by kernel_rfl))) ?_
           refine L0 rfl rfl (E_assign (Bo (bif (bif (bif y48.2 then y48.1 else false) then y49.2 else false) then y49.1 else false)) rfl (by kernel_rfl)) ?_
           refine XL_nil ?_
           subst ht53
           kernel_rfl
          ·refine XL_skipT _ rfl rfl (by kernel_rfl) hc52 rfl ?_
           refine XL_cons rfl (X_of_Y0 rfl (Y0_pick0 (b := bif (bif y48.2 then y48.1 else false) then y49.2 else false) (p := y49.1) (q := false) rfl (by kernel_rfl) hc52 (by kernel_rfl))) ?_
           refine L0 rfl rfl (E_assign (Bo (bif (bif (bif y48.2 then y48.1 else false) then y49.2 else false) then y49.1 else false)) rfl (by kernel_rfl)) ?_
           refine XL_nil ?_
           subst ht53
           kernel_rfl
       refine V_ret ?_
       obtain rfl := some_inj h
       show Post _ _ _ _ _
       exact ⟨.inr rfl, rfl, rfl, rfl⟩
    ·have h := of_false h hc16
     refine V_skip ?_
     show V _ _ _ _
     refine V_sreg (mb 238 16) [] (s1 := ⟨bt 4 (Bo true :: bt 233 []), []⟩) ?_ ?_
     ·refine L0 rfl rfl (E_assign (Bo true) rfl (by kernel_rfl)) ?_
      refine XL_nil ?_
      kernel_rfl
     refine V_ret ?_
     obtain rfl := some_inj h
     show Post _ _ _ _ _
     exact ⟨.inr rfl, rfl, rfl, rfl⟩
end Go.Proofs.Ytgeajejmikaniaa
