/-
  The functions of the program compute what the plain functions say: more of them.
  Conditions: none.
-/
import Derived.Test.YtgeajejmikaniaaIvSnd2
namespace Go.Proofs.Ytgeajejmikaniaa
open Go.RowKit
set_option linter.unusedVariables false
set_option linter.unusedSimpArgs false
set_option maxRecDepth 100000
set_option maxHeartbeats 400000
theorem cf_impl_IndefinitePoints : ∀ args w, (callFunc 49 args).run Try.prog w = .ok (.enter 49 args) w := run_callFunc Try.func49 (by kernel_rfl) (by kernel_rfl)
theorem s_impl_IndefinitePoints {f1 : (Int × Int × Int)} {vn2 : Int} {r : ((List ((Int × Int))) × Bool)} (h : r_impl_IndefinitePoints f1 vn2 = some r) : CallS Try.prog 49 [.ag [Ti f1.1, Ti f1.2.1, Ti f1.2.2], I vn2] (.tc (.ow 0) (.tc (Bo r.2) .tn)) [(0, .arr 34 2 (r.1.map c34))] := by
  refine CallS_of_text (rs := [.t 4, .t 5]) (vs := [.tmp 4, .tmp 5]) Try.func49 rfl rfl (.cons rfl (.cons rfl FitsL.nil)) (by decide) 80 rfl ?_
  unfold r_impl_IndefinitePoints at h
  show V _ _ ⟨.ag [Ti f1.1, Ti f1.2.1, Ti f1.2.2] :: I vn2 :: bt 78 [], []⟩ _
  refine V_sreg (mb 80 6) [16] (s1 := ⟨.bot :: I vn2 :: .pt 16 0 :: bt 77 [], [(16, .box [Ti f1.1, Ti f1.2.1, Ti f1.2.2])]⟩) ?_ ?_
  ·refine XR 1 ?_
   refine L1 rfl rfl (Y1_nil (e := 34) 2 (by decide) (.inl rfl)) ?_
   exact XE
  refine V_seq ?_
  obtain ⟨y3, hy3, h⟩ := of_bind h
  obtain ⟨b7, hb7, h⟩ := of_bind h
  refine V_sreg (mb 80 33554438) [16] (s1 := ⟨.bot :: I vn2 :: .pt 16 0 :: bt 22 (Bo b7 :: bt 54 []), [(16, .box [Ti f1.1, Ti f1.2.1, Ti f1.2.2])]⟩) ?_ ?_
  ·refine XR 1 ?_
   refine XC (s_impl_isPrimitiveIndefinite hy3) cf_impl_isPrimitiveIndefinite rfl rfl rfl ?_
   refine XR 2 ?_
   refine XL_split (!y3) (fun hc4 => ?_) (fun hc4 => ?_)
   ·refine XL_skipF _ rfl rfl (by kernel_rfl) hc4 rfl ?_
    refine XL_skipF _ rfl rfl (by kernel_rfl) hc4 rfl ?_
    refine XL_cons rfl (X_of_Y0 rfl (Y0_pick1 (b := !y3) (p := true) (q := eqI vn2 0) rfl (by kernel_rfl) hc4 (by kernel_rfl))) ?_
    refine XR 1 ?_
    refine XL_split (bif (!y3) then true else (eqI vn2 0)) (fun hc5 => ?_) (fun hc5 => ?_)
    ·have hb7 := some_inj (of_true hb7 hc5)
     refine XL_skipF _ rfl rfl (by kernel_rfl) hc5 rfl ?_
     refine XL_skipF _ rfl rfl (by kernel_rfl) hc5 rfl ?_
     refine XL_skipF _ rfl rfl (by kernel_rfl) hc5 rfl ?_
     refine XL_cons rfl (X_of_Y0 rfl (Y0_pickTe (b := bif (!y3) then true else (eqI vn2 0)) (p := true) rfl (by kernel_rfl) hc5 (by kernel_rfl) hb7)) ?_
     exact XE
    ·have hb7 := of_false hb7 hc5
     obtain ⟨y6, hy6, hb7⟩ := of_bind hb7
     have hb7 := some_inj hb7
     refine XL_takeC _ rfl rfl (by kernel_rfl) hc5 (X_of_Y0 rfl (E_move (I vn2) rfl (by kernel_rfl))) ?_
     refine XL_takeC _ rfl rfl (by kernel_rfl) hc5 (X_of_Y1 rfl (Y1_call (s_impl_abs hy6) cf_impl_abs rfl (by kernel_rfl))) ?_
     refine XL_takeC _ rfl rfl (by kernel_rfl) hc5 (X_of_Y0 rfl (Y0_gtw (k := .i64) (a := y6) (b := 200) rfl (by kernel_rfl) (by kernel_rfl))) ?_
     refine XL_cons rfl (X_of_Y0 rfl (Y0_pickFe (b := bif (!y3) then true else (eqI vn2 0)) (p := ltI 200 y6) rfl (by kernel_rfl) hc5 (by kernel_rfl) hb7)) ?_
     exact XE
   ·refine XL_takeC _ rfl rfl (by kernel_rfl) hc4 (X_of_Y0 rfl (E_move (I vn2) rfl (by kernel_rfl))) ?_
    refine XL_takeC _ rfl rfl (by kernel_rfl) hc4 (X_of_Y0 rfl (Y0_eqw (k := .i64) (a := vn2) (b := 0) rfl (by kernel_rfl) (by kernel_rfl))) ?_
    refine XL_cons rfl (X_of_Y0 rfl (Y0_pick0 (b := !y3) (p := true) (q := eqI vn2 0) rfl (by kernel_rfl) hc4 (by kernel_rfl))) ?_
    refine XR 1 ?_
    refine XL_split (bif (!y3) then true else (eqI vn2 0)) (fun hc5 => ?_) (fun hc5 => ?_)
    ·have hb7 := some_inj (of_true hb7 hc5)
     refine XL_skipF _ rfl rfl (by kernel_rfl) hc5 rfl ?_
     refine XL_skipF _ rfl rfl (by kernel_rfl) hc5 rfl ?_
     refine XL_skipF _ rfl rfl (by kernel_rfl) hc5 rfl ?_
     refine XL_cons rfl (X_of_Y0 rfl (Y0_pickTe (b := bif (!y3) then true else (eqI vn2 0)) (p := true) rfl (by kernel_rfl) hc5 (by kernel_rfl) hb7)) ?_
     exact XE
    ·have hb7 := of_false hb7 hc5
     obtain ⟨y6, hy6, hb7⟩ := of_bind hb7
     have hb7 := some_inj hb7
     refine XL_takeC _ rfl rfl (by kernel_rfl) hc5 (X_of_Y0 rfl (E_move (I vn2) rfl (by kernel_rfl))) ?_
     refine XL_takeC _ rfl rfl (by kernel_rfl) hc5 (X_of_Y1 rfl (Y1_call (s_impl_abs hy6) cf_impl_abs rfl (by kernel_rfl))) ?_
     refine XL_takeC _ rfl rfl (by kernel_rfl) hc5 (X_of_Y0 rfl (Y0_gtw (k := .i64) (a := y6) (b := 200) rfl (by kernel_rfl) (by kernel_rfl))) ?_
     refine XL_cons rfl (X_of_Y0 rfl (Y0_pickFe (b := bif (!y3) then true else (eqI vn2 0)) (p := ltI 200 y6) rfl (by kernel_rfl) hc5 (by kernel_rfl) hb7)) ?_
     exact XE
  refine V_cond rfl (fun hc8 => ?_) (fun hc8 => ?_)
  ·have h := of_true h hc8
   refine V_sreg (mb 80 48) [208] (s1 := ⟨bt 4 (.ow 208 :: Bo false :: bt 74 []), [(208, .arr 34 2 ((([] : List ((Int × Int)))).map c34))]⟩) ?_ ?_
   ·refine L1 rfl rfl (Y1_bslice0 Try.underlying71 sz34 (by decide) rfl rfl) ?_
    exact XE
   refine V_ret ?_
   obtain rfl := some_inj h
   show Post _ _ _ _ _
   exact ⟨.inr rfl, rfl, rfl, rfl⟩
  ·have h := of_false h hc8
   refine V_skip ?_
   show V _ _ _ _
   obtain ⟨y9, hy9, h⟩ := of_bind h
   refine V_sreg (mb 80 70) [16] (s1 := ⟨.bot :: I vn2 :: .pt 16 0 :: bt 3 (I y9 :: bt 73 []), [(16, .box [Ti f1.1, Ti f1.2.1, Ti f1.2.2])]⟩) ?_ ?_
   ·refine XR 1 ?_
    refine XC (s_impl_Form_disc hy9) cf_impl_Form_disc rfl rfl rfl ?_
    exact XE
   refine V_sreg (mb 80 198) [232, 16] (s1 := ⟨.bot :: I vn2 :: .pt 16 0 :: bt 3 (I y9 :: .ow 232 :: bt 72 []), [(232, .arr 34 2 ((([] : List ((Int × Int)))).map c34)), (16, .box [Ti f1.1, Ti f1.2.1, Ti f1.2.2])]⟩) ?_ ?_
   ·refine L1 rfl rfl (Y1_bslice0 Try.underlying71 sz34 (by decide) rfl rfl) ?_
    exact XE
   refine V_seq ?_
   obtain ⟨y10, hy10, h⟩ := of_bind h
   obtain ⟨y11, hy11, h⟩ := of_bind h
   refine V_sreg (mb 80 60129542342) [264, 232, 16] (s1 := ⟨.bot :: I vn2 :: .pt 16 0 :: bt 3 (I y9 :: .ow 232 :: bt 25 (.ow 264 :: I ((y11.length : Int)) :: I 0 :: bt 44 [])), [(264, .arr 3 1 (y11.map c3)), (232, .arr 34 2 ((([] : List ((Int × Int)))).map c34)), (16, .box [Ti f1.1, Ti f1.2.1, Ti f1.2.2])]⟩) ?_ ?_
   ·refine XR 2 ?_
    refine XC (s_impl_abs hy10) cf_impl_abs rfl rfl rfl ?_
    refine XC (s_impl_rootsOfDiscriminant hy11) cf_impl_rootsOfDiscriminant rfl rfl rfl ?_
    refine L0 rfl rfl (Y0_lenM (c := c3) (xs := y11) Try.underlying41 rfl (by kernel_rfl)) ?_
    exact XE
   obtain ⟨qo15, hLo15, hko15⟩ := of_bind h
   refine V_toS (q := qo15) (S := fun o15 => ⟨bt 7 (.ow 232 :: bt 72 []), [(232, .arr 34 2 (o15.map c34))]⟩) (mb 80 128) [232] ?_ ?_
   ·refine V_block (V_loop (fun n s => ∃ (t12 : Int) (l13 : List ((Int × Int))), s.keep (mb 80 60129542342) [264, 232, 16] = (⟨.bot :: I vn2 :: .pt 16 0 :: bt 3 (I y9 :: .ow 232 :: bt 25 (.ow 264 :: I ((y11.length : Int)) :: I t12 :: bt 44 [])), [(264, .arr 3 1 (y11.map c3)), (232, .arr 34 2 (l13.map c34)), (16, .box [Ti f1.1, Ti f1.2.1, Ti f1.2.2])]⟩ : St) ∧ r_impl_IndefinitePoints_L14 f1 vn2 y11 y9 n t12 l13 = some qo15) FU ⟨_, _,  by rfl, hLo15⟩ ?_)
    clear hLo15
    rintro n s ⟨t12, l13, hs, h⟩
    refine V_keep _ _ hs ?_
    clear hs
    cases n with
    | zero => cases h
    | succ n =>
     rw [r_impl_IndefinitePoints_L14] at h
     refine V_e (mb 80 128849019078) [264, 232, 16] (s1 := ⟨.bot :: I vn2 :: .pt 16 0 :: bt 3 (I y9 :: .ow 232 :: bt 25 (.ow 264 :: I ((y11.length : Int)) :: I t12 :: Bo (ltI t12 ((y11.length : Int))) :: bt 43 [])), [(264, .arr 3 1 (y11.map c3)), (232, .arr 34 2 (l13.map c34)), (16, .box [Ti f1.1, Ti f1.2.1, Ti f1.2.2])]⟩) ?_
     refine V_seq ?_
     refine V_cond rfl (fun hc16 => ?_) (fun hc16 => ?_)
     ·have h := of_true h hc16
      refine V_skip ?_
      show V _ _ _ _
      refine V_seq ?_
      refine V_block ?_
      obtain ⟨e17, he17, h⟩ := of_bind h
      obtain ⟨e18, he18, h⟩ := of_bind h
      refine V_sreg (mb 80 60129542854) [264, 232, 16] (s1 := ⟨.bot :: I vn2 :: .pt 16 0 :: bt 3 (I y9 :: .ow 232 :: .bot :: I e18 :: bt 23 (.ow 264 :: I ((y11.length : Int)) :: I t12 :: bt 44 [])), [(264, .arr 3 1 (y11.map c3)), (232, .arr 34 2 (l13.map c34)), (16, .box [Ti f1.1, Ti f1.2.1, Ti f1.2.2])]⟩) ?_ ?_
      ·refine L0 rfl rfl (Y0_idxoM (c := c3) (xs := y11) (v := e17) (id := 264) (T := 3) (sz := 1) (n := t12) Try.underlying41 sz3 rfl (by kernel_rfl) (by kernel_rfl) (by kernel_rfl) he17) ?_
       refine L0 rfl rfl (Y0_loado1 (c := c3) (xs := y11) (v := e18) (id := 264) (sz := 1) (T := 3) (off := 0) (n := t12) (d := Ti e18) (ds := []) sc3 rfl (by kernel_rfl) (by kernel_rfl) he18 (by kernel_rfl)) ?_
       exact XE
      obtain ⟨z19, hz19, h⟩ := of_bind h
      obtain ⟨f20, hf20, h⟩ := of_sI h
      refine V_sreg (mb 80 60129543366) [80, 264, 232, 16] (s1 := ⟨.bot :: I vn2 :: .pt 16 0 :: bt 3 (I y9 :: .ow 232 :: .bot :: .bot :: .pt 80 0 :: bt 22 (.ow 264 :: I ((y11.length : Int)) :: I t12 :: bt 44 [])), [(80, .box [Ti vn2, Ti e18, Ti f20]), (264, .arr 3 1 (y11.map c3)), (232, .arr 34 2 (l13.map c34)), (16, .box [Ti f1.1, Ti f1.2.1, Ti f1.2.2])]⟩) ?_ ?_
      ·refine XR 9 ?_
       refine L0 rfl rfl (Y0_quo64 (a := w64 ((w64 (e18 * e18)) - y9)) (b := w64 (4 * vn2)) rfl (by kernel_rfl) (by kernel_rfl) (nz_some hz19)) ?_
       refine L0 rfl rfl (Y0_build (cs := [Ti vn2, Ti e18, Ti (w64 (Int.tdiv (w64 ((w64 (e18 * e18)) - y9)) (w64 (4 * vn2))))]) pl45 bt45 rfl rfl (by kernel_rfl)) ?_
       refine XR 2 ?_
       refine XL_nil ?_
       subst hf20
       kernel_rfl
      obtain ⟨y21, hy21, h⟩ := of_bind h
      refine V_sreg (mb 80 60129549510) [80, 264, 232, 16] (s1 := ⟨.bot :: I vn2 :: .pt 16 0 :: bt 3 (I y9 :: .ow 232 :: .bot :: .bot :: .pt 80 0 :: Bo y21.1 :: Bo y21.2 :: bt 20 (.ow 264 :: I ((y11.length : Int)) :: I t12 :: bt 44 [])), [(80, .box [Ti vn2, Ti e18, Ti f20]), (264, .arr 3 1 (y11.map c3)), (232, .arr 34 2 (l13.map c34)), (16, .box [Ti f1.1, Ti f1.2.1, Ti f1.2.2])]⟩) ?_ ?_
      ·refine XR 2 ?_
       refine XC (s_impl_SameCycle hy21) cf_impl_SameCycle rfl rfl rfl ?_
       exact XE
      refine V_seq ?_
      refine V_e (mb 80 144115248205401286) [80, 264, 232, 16] (s1 := ⟨.bot :: I vn2 :: .pt 16 0 :: bt 3 (I y9 :: .ow 232 :: .bot :: .bot :: .pt 80 0 :: Bo y21.1 :: bt 21 (.ow 264 :: I ((y11.length : Int)) :: I t12 :: bt 21 (Bo (!y21.2) :: bt 22 []))), [(80, .box [Ti vn2, Ti e18, Ti f20]), (264, .arr 3 1 (y11.map c3)), (232, .arr 34 2 (l13.map c34)), (16, .box [Ti f1.1, Ti f1.2.1, Ti f1.2.2])]⟩) ?_
      refine V_cond rfl (fun hc22 => ?_) (fun hc22 => ?_)
      ·have h := of_true h hc22
       refine V_sreg (mb 80 48) [464] (s1 := ⟨bt 4 (.ow 464 :: Bo false :: bt 74 []), [(464, .arr 34 2 ((([] : List ((Int × Int)))).map c34))]⟩) ?_ ?_
       ·refine L1 rfl rfl (Y1_bslice0 Try.underlying71 sz34 (by decide) rfl rfl) ?_
        exact XE
       refine V_ret ?_
       obtain rfl := some_inj h
       have h := hko15
       obtain rfl := some_inj h
       show Post _ _ _ _ _
       exact ⟨.inr rfl, rfl, rfl, rfl⟩
      ·have h := of_false h hc22
       refine V_skip ?_
       show V _ _ _ _
       refine V_seq ?_
       refine V_e (mb 80 1152921564736390342) [80, 264, 232, 16] (s1 := ⟨.bot :: I vn2 :: .pt 16 0 :: bt 3 (I y9 :: .ow 232 :: .bot :: .bot :: .pt 80 0 :: bt 22 (.ow 264 :: I ((y11.length : Int)) :: I t12 :: bt 24 (Bo (!y21.1) :: bt 19 []))), [(80, .box [Ti vn2, Ti e18, Ti f20]), (264, .arr 3 1 (y11.map c3)), (232, .arr 34 2 (l13.map c34)), (16, .box [Ti f1.1, Ti f1.2.1, Ti f1.2.2])]⟩) ?_
       refine V_cond rfl (fun hc23 => ?_) (fun hc23 => ?_)
       ·have h := of_true h hc23
        refine V_exit ?_
        show V _ _ _ _
        obtain ⟨t24, ht24, h⟩ := of_sI h
        refine V_reg (mb 80 60129542342) [264, 232, 16] (s1 := ⟨.bot :: I vn2 :: .pt 16 0 :: bt 3 (I y9 :: .ow 232 :: bt 25 (.ow 264 :: I ((y11.length : Int)) :: I t24 :: bt 44 [])), [(264, .arr 3 1 (y11.map c3)), (232, .arr 34 2 (l13.map c34)), (16, .box [Ti f1.1, Ti f1.2.1, Ti f1.2.2])]⟩) ?_ ?_
        ·refine XR 2 ?_
         refine XL_nil ?_
         subst ht24
         kernel_rfl
        exact ⟨n, Nat.lt_succ_self n, _, _,  by rfl, h⟩
       ·have h := of_false h hc23
        refine V_skip ?_
        show V _ _ _ _
        obtain ⟨y25, hy25, h⟩ := of_bind h
        refine V_sreg (mb 80 60129554630) [104, 264, 232, 16] (s1 := ⟨.bot :: I vn2 :: .pt 16 0 :: bt 3 (I y9 :: .ow 232 :: bt 4 (Bo y25.2 :: .pt 104 0 :: bt 19 (.ow 264 :: I ((y11.length : Int)) :: I t12 :: bt 44 []))), [(104, .box [Ti y25.1.1, Ti y25.1.2.1, Ti y25.1.2.2.1, Ti y25.1.2.2.2]), (264, .arr 3 1 (y11.map c3)), (232, .arr 34 2 (l13.map c34)), (16, .box [Ti f1.1, Ti f1.2.1, Ti f1.2.2])]⟩) ?_ ?_
        ·refine XR 2 ?_
         refine XC (s_impl_CycleMatrix hy25) cf_impl_CycleMatrix rfl rfl rfl ?_
         exact XE
        refine V_seq ?_
        refine V_e (mb 80 295147905239482376390) [104, 264, 232, 16] (s1 := ⟨.bot :: I vn2 :: .pt 16 0 :: bt 3 (I y9 :: .ow 232 :: bt 5 (.pt 104 0 :: bt 19 (.ow 264 :: I ((y11.length : Int)) :: I t12 :: bt 32 (Bo (!y25.2) :: bt 11 [])))), [(104, .box [Ti y25.1.1, Ti y25.1.2.1, Ti y25.1.2.2.1, Ti y25.1.2.2.2]), (264, .arr 3 1 (y11.map c3)), (232, .arr 34 2 (l13.map c34)), (16, .box [Ti f1.1, Ti f1.2.1, Ti f1.2.2])]⟩) ?_
        refine V_cond rfl (fun hc26 => ?_) (fun hc26 => ?_)
        ·have h := of_true h hc26
         refine V_sreg (mb 80 48) [552] (s1 := ⟨bt 4 (.ow 552 :: Bo false :: bt 74 []), [(552, .arr 34 2 ((([] : List ((Int × Int)))).map c34))]⟩) ?_ ?_
         ·refine L1 rfl rfl (Y1_bslice0 Try.underlying71 sz34 (by decide) rfl rfl) ?_
          exact XE
         refine V_ret ?_
         obtain rfl := some_inj h
         have h := hko15
         obtain rfl := some_inj h
         show Post _ _ _ _ _
         exact ⟨.inr rfl, rfl, rfl, rfl⟩
        ·have h := of_false h hc26
         refine V_skip ?_
         show V _ _ _ _
         obtain ⟨u27, hu27, h⟩ := of_bind h
         refine V_reg (mb 80 60129542342) [264, 232, 16] (s1 := ⟨.bot :: I vn2 :: .pt 16 0 :: bt 3 (I y9 :: .ow 232 :: bt 25 (.ow 264 :: I ((y11.length : Int)) :: I t12 :: bt 44 [])), [(264, .arr 3 1 (y11.map c3)), (232, .arr 34 2 ((l13 ++ ([(y25.1.1, y25.1.2.2.1)])).map c34)), (16, .box [Ti f1.1, Ti f1.2.1, Ti f1.2.2])]⟩) ?_ ?_
         ·refine XR 5 ?_
          refine L0 rfl rfl (Y0_build (cs := [Ti y25.1.1, Ti y25.1.2.2.1]) pl34 bt34 rfl rfl (by kernel_rfl)) ?_
          refine L1 rfl rfl (Y1_bslice (z := zv34) (els := [(y25.1.1, y25.1.2.2.1)].map c34) Try.underlying71 iz34 rfl (by decide) rfl (by kernel_rfl) rfl (by simp [c34]) (by decide) (by decide)) ?_
          refine XL_cons rfl (X_appendM (c := c34) (xs := l13) (ys := [(y25.1.1, y25.1.2.2.1)]) (id := 232) (z := zv34) rfl rfl Try.underlying71 izb34 rfl (by kernel_rfl) (by kernel_rfl) (by kernel_rfl) (fun _ => rfl) (by simp) (room_some hu27) (by decide)) ?_
          exact XE
         show V _ _ _ _
         obtain ⟨t28, ht28, h⟩ := of_sI h
         refine V_reg (mb 80 60129542342) [264, 232, 16] (s1 := ⟨.bot :: I vn2 :: .pt 16 0 :: bt 3 (I y9 :: .ow 232 :: bt 25 (.ow 264 :: I ((y11.length : Int)) :: I t28 :: bt 44 [])), [(264, .arr 3 1 (y11.map c3)), (232, .arr 34 2 ((l13 ++ ([(y25.1.1, y25.1.2.2.1)])).map c34)), (16, .box [Ti f1.1, Ti f1.2.1, Ti f1.2.2])]⟩) ?_ ?_
         ·refine XR 2 ?_
          refine XL_nil ?_
          subst ht28
          kernel_rfl
         exact ⟨n, Nat.lt_succ_self n, _, _,  by rfl, h⟩
     ·have h := of_false h hc16
      refine V_exit ?_
      obtain rfl := some_inj h
      exact ⟨_, rfl, by rfl⟩
   rintro o15 rfl
   have h := hko15
   clear hko15
   show V _ _ _ _
   refine V_e (mb 80 48) [232] (s1 := ⟨bt 4 (.ow 232 :: Bo true :: bt 74 []), [(232, .arr 34 2 (o15.map c34))]⟩) ?_
   refine V_ret ?_
   obtain rfl := some_inj h
   show Post _ _ _ _ _
   exact ⟨.inr rfl, rfl, rfl, rfl⟩
theorem cf_spec_unForm : ∀ args w, (callFunc 124 args).run Try.prog w = .ok (.enter 124 args) w := run_callFunc Try.func124 (by kernel_rfl) (by kernel_rfl)
theorem s_spec_unForm {f1 : (Int × Int × Int)} {r : Bool} (h : r_spec_unForm f1 = some r) : CallS Try.prog 124 [.ag [Ti f1.1, Ti f1.2.1, Ti f1.2.2]] (Bo r) [] := by
  refine CallS_of_text (rs := [.t 2]) (vs := [.tmp 2]) Try.func124 rfl rfl (.cons rfl FitsL.nil) (by decide) 10 rfl ?_
  unfold r_spec_unForm at h
  show V _ _ ⟨.ag [Ti f1.1, Ti f1.2.1, Ti f1.2.2] :: bt 9 [], []⟩ _
  refine V_e (mb 10 2) [8] (s1 := ⟨.bot :: .pt 8 0 :: bt 8 [], [(8, .box [Ti f1.1, Ti f1.2.1, Ti f1.2.2])]⟩) ?_
  obtain ⟨y2, hy2, h⟩ := of_bind h
  obtain ⟨b5, hb5, h⟩ := of_bind h
  refine V_sreg (mb 10 4) [] (s1 := ⟨.bot :: .bot :: Bo b5 :: bt 7 [], []⟩) ?_ ?_
  ·refine XR 1 ?_
   refine XC (s_spec_cyGood hy2) cf_spec_cyGood rfl rfl rfl ?_
   refine XR 1 ?_
   refine XL_split y2 (fun hc3 => ?_) (fun hc3 => ?_)
   ·have hb5 := of_true hb5 hc3
    obtain ⟨y4, hy4, hb5⟩ := of_bind hb5
    have hb5 := some_inj hb5
    refine XL_takeC _ rfl rfl (by kernel_rfl) hc3 (X_of_Y0 rfl (E_loadn (cs := [Ti f1.1, Ti f1.2.1, Ti f1.2.2]) [Ti f1.1, Ti f1.2.1, Ti f1.2.2] wd45 rfl (by kernel_rfl) (Nat.le_of_ble_eq_true rfl) (by kernel_rfl))) ?_
    refine XL_takeC _ rfl rfl (by kernel_rfl) hc3 (X_of_Y1 rfl (Y1_call (s_spec_foContent hy4) cf_spec_foContent rfl (by kernel_rfl))) ?_
    refine XL_takeC _ rfl rfl (by kernel_rfl) hc3 (X_of_Y0 rfl (Y0_eqw (k := .i64) (a := y4) (b := 1) rfl (by kernel_rfl) (by kernel_rfl))) ?_
    refine XL_cons rfl (X_of_Y0 rfl (Y0_pickTe (b := y2) (p := eqI y4 1) rfl (by kernel_rfl) hc3 (by kernel_rfl) hb5)) ?_
    exact XE
   ·have hb5 := some_inj (of_false hb5 hc3)
    refine XL_skipT _ rfl rfl (by kernel_rfl) hc3 rfl ?_
    refine XL_skipT _ rfl rfl (by kernel_rfl) hc3 rfl ?_
    refine XL_skipT _ rfl rfl (by kernel_rfl) hc3 rfl ?_
    refine XL_cons rfl (X_of_Y0 rfl (Y0_pickFe (b := y2) (p := false) rfl (by kernel_rfl) hc3 (by kernel_rfl) hb5)) ?_
    exact XE
  refine V_ret ?_
  obtain rfl := some_inj h
  show Post _ _ _ _ _
  exact ⟨.inr rfl, rfl, rfl, rfl⟩
theorem cf_spec_roDisc : ∀ args w, (callFunc 127 args).run Try.prog w = .ok (.enter 127 args) w := run_callFunc Try.func127 (by kernel_rfl) (by kernel_rfl)
theorem s_spec_roDisc {d1 : Int} {vn2 : Int} {r : List Int} (h : r_spec_roDisc d1 vn2 = some r) : CallS Try.prog 127 [I d1, I vn2] (.ow 0) [(0, .arr 3 1 (r.map c3))] := by
  refine CallS_of_text (rs := [.t 4]) (vs := [.tmp 4]) Try.func127 rfl rfl (.cons rfl FitsL.nil) (by decide) 27 rfl ?_
  unfold r_spec_roDisc at h
  show V _ _ ⟨I d1 :: I vn2 :: bt 25 [], []⟩ _
  refine V_sreg (mb 27 3) [] (s1 := ⟨I d1 :: I vn2 :: bt 25 [], []⟩) ?_ ?_
  ·refine L1 rfl rfl (Y1_nil (e := 3) 1 (by decide) (.inl rfl)) ?_
   exact XE
  refine V_sreg (mb 27 35) [40] (s1 := ⟨I d1 :: I vn2 :: bt 3 (.ow 40 :: bt 21 []), [(40, .arr 3 1 ((([] : List Int)).map c3))]⟩) ?_ ?_
  ·refine L1 rfl rfl (Y1_nil (e := 3) 1 (by decide) (.inl rfl)) ?_
   exact XE
  refine V_seq ?_
  refine V_e (mb 27 99) [40] (s1 := ⟨I d1 :: I vn2 :: bt 3 (.ow 40 :: I 0 :: bt 20 []), [(40, .arr 3 1 ((([] : List Int)).map c3))]⟩) ?_
  obtain ⟨o6, hLo6, h⟩ := of_bind h
  refine V_toK (mb 27 32) [40] (s1 := ⟨bt 5 (.ow 40 :: bt 21 []), [(40, .arr 3 1 (o6.map c3))]⟩) ?_ ?_
  ·clear h
   refine V_block (V_loop (fun n s => ∃ (b3 : Int) (l4 : List Int), s.keep (mb 27 99) [40] = (⟨I d1 :: I vn2 :: bt 3 (.ow 40 :: I b3 :: bt 20 []), [(40, .arr 3 1 (l4.map c3))]⟩ : St) ∧ r_spec_roDisc_L5 d1 vn2 n b3 l4 = some o6) FU ⟨_, _,  by rfl, hLo6⟩ ?_)
   clear hLo6
   rintro n s ⟨b3, l4, hs, h⟩
   refine V_keep _ _ hs ?_
   clear hs
   cases n with
   | zero => cases h
   | succ n =>
    rw [r_spec_roDisc_L5] at h
    refine V_seq ?_
    refine V_e (mb 27 1123) [40] (s1 := ⟨I d1 :: I vn2 :: bt 3 (.ow 40 :: I b3 :: bt 3 (Bo (ltI b3 (w64 (2 * vn2))) :: bt 16 [])), [(40, .arr 3 1 (l4.map c3))]⟩) ?_
    refine V_cond rfl (fun hc7 => ?_) (fun hc7 => ?_)
    ·have h := of_true h hc7
     refine V_skip ?_
     show V _ _ _ _
     refine V_seq ?_
     refine V_block ?_
     obtain ⟨z8, hz8, h⟩ := of_bind h
     obtain ⟨t9, ht9, h⟩ := of_bind h
     have ht9 := some_inj ht9
     refine V_sreg (mb 27 2097251) [40] (s1 := ⟨I d1 :: I vn2 :: bt 3 (.ow 40 :: I b3 :: bt 14 (Bo t9 :: bt 5 [])), [(40, .arr 3 1 (l4.map c3))]⟩) ?_ ?_
     ·refine XR 7 ?_
      refine L0 rfl rfl (Y0_rem (k := .i64) (a := w64 ((w64 (b3 * b3)) - d1)) (b := w64 (4 * vn2)) rfl (by kernel_rfl) (by kernel_rfl) (nz_some hz8)) ?_
      refine XR 1 ?_
      refine XL_nil ?_
      subst ht9
      kernel_rfl
     refine V_cond rfl (fun hc10 => ?_) (fun hc10 => ?_)
     ·have h := of_true h hc10
      obtain ⟨u11, hu11, h⟩ := of_bind h
      refine V_reg (mb 27 99) [40] (s1 := ⟨I d1 :: I vn2 :: bt 3 (.ow 40 :: I b3 :: bt 20 []), [(40, .arr 3 1 ((l4 ++ ([b3])).map c3))]⟩) ?_ ?_
      ·refine XR 2 ?_
       refine L1 rfl rfl (Y1_bslice (z := zv3) (els := [b3].map c3) Try.underlying41 iz3 rfl (by decide) rfl (by kernel_rfl) rfl (by simp [c3]) (by decide) (by decide)) ?_
       refine XL_cons rfl (X_appendM (c := c3) (xs := l4) (ys := [b3]) (id := 40) (z := zv3) rfl rfl Try.underlying41 izb3 rfl (by kernel_rfl) (by kernel_rfl) (by kernel_rfl) (fun _ => rfl) (by simp) (room_some hu11) (by decide)) ?_
       exact XE
      show V _ _ _ _
      obtain ⟨b12, hb12, h⟩ := of_sI h
      refine V_reg (mb 27 99) [40] (s1 := ⟨I d1 :: I vn2 :: bt 3 (.ow 40 :: I b12 :: bt 20 []), [(40, .arr 3 1 ((l4 ++ ([b3])).map c3))]⟩) ?_ ?_
      ·refine XR 3 ?_
       refine XL_nil ?_
       subst hb12
       kernel_rfl
      exact ⟨n, Nat.lt_succ_self n, _, _,  by rfl, h⟩
     ·have h := of_false h hc10
      refine V_skip ?_
      show V _ _ _ _
      obtain ⟨b13, hb13, h⟩ := of_sI h
      refine V_reg (mb 27 99) [40] (s1 := ⟨I d1 :: I vn2 :: bt 3 (.ow 40 :: I b13 :: bt 20 []), [(40, .arr 3 1 (l4.map c3))]⟩) ?_ ?_
      ·refine XR 3 ?_
       refine XL_nil ?_
       subst hb13
       kernel_rfl
      exact ⟨n, Nat.lt_succ_self n, _, _,  by rfl, h⟩
    ·have h := of_false h hc7
     refine V_exit ?_
     obtain rfl := some_inj h
     show St.keep _ _ _ = _
     rfl
  show V _ _ _ _
  refine V_e (mb 27 16) [40] (s1 := ⟨bt 4 (.ow 40 :: bt 22 []), [(40, .arr 3 1 (o6.map c3))]⟩) ?_
  refine V_ret ?_
  obtain rfl := some_inj h
  show Post _ _ _ _ _
  exact ⟨.inr rfl, rfl, rfl, rfl⟩
theorem cf_spec_cyMove : ∀ args w, (callFunc 189 args).run Try.prog w = .ok (.enter 189 args) w := run_callFunc Try.func189 (by kernel_rfl) (by kernel_rfl)
theorem s_spec_cyMove {f1 : (Int × Int × Int)} {r : (Int × Int × Int × Int)} (h : r_spec_cyMove f1 = some r) : CallS Try.prog 189 [.ag [Ti f1.1, Ti f1.2.1, Ti f1.2.2]] (.ag [Ti r.1, Ti r.2.1, Ti r.2.2.1, Ti r.2.2.2]) [] := by
  refine CallS_of_text (rs := [.w 2 4]) (vs := [.cell 2 110]) Try.func189 rfl rfl (.cons ⟨rfl, wd110⟩ FitsL.nil) (by decide) 36 rfl ?_
  unfold r_spec_cyMove at h
  show V _ _ ⟨.ag [Ti f1.1, Ti f1.2.1, Ti f1.2.2] :: bt 35 [], []⟩ _
  refine V_e (mb 36 6) [16, 8] (s1 := ⟨.bot :: .pt 8 0 :: .pt 16 0 :: bt 33 [], [(16, .box [Ti 0, Ti 0, Ti 0, Ti 0]), (8, .box [Ti f1.1, Ti f1.2.1, Ti f1.2.2])]⟩) ?_
  obtain ⟨y2, hy2, h⟩ := of_bind h
  obtain ⟨y3, hy3, h⟩ := of_bind h
  refine V_sreg (mb 36 14) [16, 8] (s1 := ⟨.bot :: .pt 8 0 :: .pt 16 0 :: I y3 :: bt 32 [], [(16, .box [Ti 0, Ti 0, Ti 0, Ti 0]), (8, .box [Ti f1.1, Ti f1.2.1, Ti f1.2.2])]⟩) ?_ ?_
  ·refine XR 1 ?_
   refine XC (s_spec_foDisc hy2) cf_spec_foDisc rfl rfl rfl ?_
   refine XC (s_spec_nuRoot hy3) cf_spec_nuRoot rfl rfl rfl ?_
   exact XE
  obtain ⟨y4, hy4, h⟩ := of_bind h
  refine V_sreg (mb 36 30) [16, 8] (s1 := ⟨.bot :: .pt 8 0 :: .pt 16 0 :: I y3 :: I y4 :: bt 31 [], [(16, .box [Ti 0, Ti 0, Ti 0, Ti 0]), (8, .box [Ti f1.1, Ti f1.2.1, Ti f1.2.2])]⟩) ?_ ?_
  ·refine XR 2 ?_
   refine XC (s_spec_l1Abs hy4) cf_spec_l1Abs rfl rfl rfl ?_
   exact XE
  refine V_e (mb 36 62) [16, 8] (s1 := ⟨.bot :: .pt 8 0 :: .pt 16 0 :: I y3 :: I y4 :: I y3 :: bt 30 [], [(16, .box [Ti 0, Ti 0, Ti 0, Ti 0]), (8, .box [Ti f1.1, Ti f1.2.1, Ti f1.2.2])]⟩) ?_
  obtain ⟨j5, hj5, h⟩ := of_bind h
  refine V_cutK (mb 36 54) [16, 8] (s1 := ⟨.bot :: .pt 8 0 :: .pt 16 0 :: .bot :: I y4 :: I j5 :: bt 30 [], [(16, .box [Ti 0, Ti 0, Ti 0, Ti 0]), (8, .box [Ti f1.1, Ti f1.2.1, Ti f1.2.2])]⟩) ?_ ?_
  ·clear h
   have h := hj5
   clear hj5
   refine V_e (mb 36 65590) [16, 8] (s1 := ⟨.bot :: .pt 8 0 :: .pt 16 0 :: .bot :: I y4 :: I y3 :: bt 10 (Bo (ltI y3 y4) :: bt 19 []), [(16, .box [Ti 0, Ti 0, Ti 0, Ti 0]), (8, .box [Ti f1.1, Ti f1.2.1, Ti f1.2.2])]⟩) ?_
   refine V_cond rfl (fun hc6 => ?_) (fun hc6 => ?_)
   ·have h := of_true h hc6
    refine V_reg (mb 36 54) [16, 8] (s1 := ⟨.bot :: .pt 8 0 :: .pt 16 0 :: .bot :: I y4 :: I y4 :: bt 30 [], [(16, .box [Ti 0, Ti 0, Ti 0, Ti 0]), (8, .box [Ti f1.1, Ti f1.2.1, Ti f1.2.2])]⟩) ?_ ?_
    ·exact XE
    obtain rfl := some_inj h
    show St.keep _ _ _ = _
    rfl
   ·have h := of_false h hc6
    refine V_skip ?_
    obtain rfl := some_inj h
    show St.keep _ _ _ = _
    rfl
  obtain ⟨y7, hy7, h⟩ := of_bind h
  obtain ⟨b8, hb8, h⟩ := of_sI h
  refine V_sreg (mb 36 70) [16, 8] (s1 := ⟨.bot :: .pt 8 0 :: .pt 16 0 :: bt 3 (I b8 :: bt 29 []), [(16, .box [Ti 0, Ti 0, Ti 0, Ti 0]), (8, .box [Ti f1.1, Ti f1.2.1, Ti f1.2.2])]⟩) ?_ ?_
  ·refine XR 7 ?_
   refine XC (s_spec_nuMod hy7) cf_spec_nuMod rfl rfl rfl ?_
   refine XR 2 ?_
   refine XL_nil ?_
   subst hb8
   kernel_rfl
  obtain ⟨z9, hz9, h⟩ := of_bind h
  obtain ⟨f10, hf10, h⟩ := of_sI h
  refine V_sreg (mb 36 4) [16] (s1 := ⟨.bot :: .bot :: .pt 16 0 :: bt 33 [], [(16, .box [Ti 0, Ti (-1), Ti 1, Ti f10])]⟩) ?_ ?_
  ·refine XR 7 ?_
   refine L0 rfl rfl (Y0_quo64 (a := w64 (f1.2.1 + b8)) (b := w64 (2 * f1.2.2)) rfl (by kernel_rfl) (by kernel_rfl) (nz_some hz9)) ?_
   refine L0 rfl rfl (Y0_build (cs := [Ti 0, Ti (-1), Ti 1, Ti (w64 (Int.tdiv (w64 (f1.2.1 + b8)) (w64 (2 * f1.2.2))))]) pl110 bt110 rfl rfl (by kernel_rfl)) ?_
   refine XR 1 ?_
   refine XL_nil ?_
   subst hf10
   kernel_rfl
  refine V_ret ?_
  obtain rfl := some_inj h
  show Post _ _ _ _ _
  exact ⟨.inr rfl, rfl, rfl, rfl⟩
theorem cf_spec_foMatrix : ∀ args w, (callFunc 192 args).run Try.prog w = .ok (.enter 192 args) w := run_callFunc Try.func192 (by kernel_rfl) (by kernel_rfl)
theorem s_spec_foMatrix {vm1 : (Int × Int × Int × Int)} {r : Bool} (h : r_spec_foMatrix vm1 = some r) : CallS Try.prog 192 [.ag [Ti vm1.1, Ti vm1.2.1, Ti vm1.2.2.1, Ti vm1.2.2.2]] (Bo r) [] := by
  refine CallS_of_text (rs := [.t 2]) (vs := [.tmp 2]) Try.func192 rfl rfl (.cons rfl FitsL.nil) (by decide) 21 rfl ?_
  unfold r_spec_foMatrix at h
  show V _ _ ⟨.ag [Ti vm1.1, Ti vm1.2.1, Ti vm1.2.2.1, Ti vm1.2.2.2] :: bt 20 [], []⟩ _
  refine V_e (mb 21 2) [8] (s1 := ⟨.bot :: .pt 8 0 :: bt 19 [], [(8, .box [Ti vm1.1, Ti vm1.2.1, Ti vm1.2.2.1, Ti vm1.2.2.2])]⟩) ?_
  obtain ⟨y2, hy2, h⟩ := of_bind h
  obtain ⟨b5, hb5, h⟩ := of_bind h
  obtain ⟨b8, hb8, h⟩ := of_bind h
  obtain ⟨b11, hb11, h⟩ := of_bind h
  refine V_sreg (mb 21 4) [] (s1 := ⟨.bot :: .bot :: Bo b11 :: bt 18 [], []⟩) ?_ ?_
  ·refine XR 2 ?_
   refine XC (s_spec_nuGood hy2) cf_spec_nuGood rfl rfl rfl ?_
   refine XR 1 ?_
   refine XL_split y2 (fun hc3 => ?_) (fun hc3 => ?_)
   ·have hb5 := of_true hb5 hc3
    obtain ⟨y4, hy4, hb5⟩ := of_bind hb5
    have hb5 := some_inj hb5
    refine XL_takeC _ rfl rfl (by kernel_rfl) hc3 (X_of_Y0 rfl (E_field (.pt 8 1) Try.underlying110 rfl sz3 rfl (by kernel_rfl) (by intro hh; cases hh))) ?_
    refine XL_takeC _ rfl rfl (by kernel_rfl) hc3 (X_of_Y0 rfl (Y0_load1 (c := Ti vm1.2.1) (cs := [Ti vm1.2.2.1, Ti vm1.2.2.2]) sc3 rfl (by kernel_rfl))) ?_
    refine XL_takeC _ rfl rfl (by kernel_rfl) hc3 (X_of_Y1 rfl (Y1_call (s_spec_nuGood hy4) cf_spec_nuGood rfl (by kernel_rfl))) ?_
    refine XL_cons rfl (X_of_Y0 rfl (Y0_pickTe (b := y2) (p := y4) rfl (by kernel_rfl) hc3 (by kernel_rfl) hb5)) ?_
    refine XR 1 ?_
    refine XL_split b5 (fun hc6 => ?_) (fun hc6 => ?_)
    ·have hb8 := of_true hb8 hc6
     obtain ⟨y7, hy7, hb8⟩ := of_bind hb8
     have hb8 := some_inj hb8
     refine XL_takeC _ rfl rfl (by kernel_rfl) hc6 (X_of_Y0 rfl (E_field (.pt 8 2) Try.underlying110 rfl sz3 rfl (by kernel_rfl) (by intro hh; cases hh))) ?_
     refine XL_takeC _ rfl rfl (by kernel_rfl) hc6 (X_of_Y0 rfl (Y0_load1 (c := Ti vm1.2.2.1) (cs := [Ti vm1.2.2.2]) sc3 rfl (by kernel_rfl))) ?_
     refine XL_takeC _ rfl rfl (by kernel_rfl) hc6 (X_of_Y1 rfl (Y1_call (s_spec_nuGood hy7) cf_spec_nuGood rfl (by kernel_rfl))) ?_
     refine XL_cons rfl (X_of_Y0 rfl (Y0_pickTe (b := b5) (p := y7) rfl (by kernel_rfl) hc6 (by kernel_rfl) hb8)) ?_
     refine XR 1 ?_
     refine XL_split b8 (fun hc9 => ?_) (fun hc9 => ?_)
     ·have hb11 := of_true hb11 hc9
      obtain ⟨y10, hy10, hb11⟩ := of_bind hb11
      have hb11 := some_inj hb11
      refine XL_takeC _ rfl rfl (by kernel_rfl) hc9 (X_of_Y0 rfl (E_field (.pt 8 3) Try.underlying110 rfl sz3 rfl (by kernel_rfl) (by intro hh; cases hh))) ?_
      refine XL_takeC _ rfl rfl (by kernel_rfl) hc9 (X_of_Y0 rfl (Y0_load1 (c := Ti vm1.2.2.2) (cs := []) sc3 rfl (by kernel_rfl))) ?_
      refine XL_takeC _ rfl rfl (by kernel_rfl) hc9 (X_of_Y1 rfl (Y1_call (s_spec_nuGood hy10) cf_spec_nuGood rfl (by kernel_rfl))) ?_
      refine XL_cons rfl (X_of_Y0 rfl (Y0_pickTe (b := b8) (p := y10) rfl (by kernel_rfl) hc9 (by kernel_rfl) hb11)) ?_
      exact XE
     ·have hb11 := some_inj (of_false hb11 hc9)
      refine XL_skipT _ rfl rfl (by kernel_rfl) hc9 rfl ?_
      refine XL_skipT _ rfl rfl (by kernel_rfl) hc9 rfl ?_
      refine XL_skipT _ rfl rfl (by kernel_rfl) hc9 rfl ?_
      refine XL_cons rfl (X_of_Y0 rfl (Y0_pickFe (b := b8) (p := false) rfl (by kernel_rfl) hc9 (by kernel_rfl) hb11)) ?_
      exact XE
    ·have hb8 := some_inj (of_false hb8 hc6)
     refine XL_skipT _ rfl rfl (by kernel_rfl) hc6 rfl ?_
     refine XL_skipT _ rfl rfl (by kernel_rfl) hc6 rfl ?_
     refine XL_skipT _ rfl rfl (by kernel_rfl) hc6 rfl ?_
     refine XL_cons rfl (X_of_Y0 rfl (Y0_pickFe (b := b5) (p := false) rfl (by kernel_rfl) hc6 (by kernel_rfl) hb8)) ?_
     refine XR 1 ?_
     refine XL_split b8 (fun hc9 => ?_) (fun hc9 => ?_)
     ·have hb11 := of_true hb11 hc9
      obtain ⟨y10, hy10, hb11⟩ := of_bind hb11
      have hb11 := some_inj hb11
      refine XL_takeC _ rfl rfl (by kernel_rfl) hc9 (X_of_Y0 rfl (E_field (.pt 8 3) Try.underlying110 rfl sz3 rfl (by kernel_rfl) (by intro hh; cases hh))) ?_
      refine XL_takeC _ rfl rfl (by kernel_rfl) hc9 (X_of_Y0 rfl (Y0_load1 (c := Ti vm1.2.2.2) (cs := []) sc3 rfl (by kernel_rfl))) ?_
      refine XL_takeC _ rfl rfl (by kernel_rfl) hc9 (X_of_Y1 rfl (Y1_call (s_spec_nuGood hy10) cf_spec_nuGood rfl (by kernel_rfl))) ?_
      refine XL_cons rfl (X_of_Y0 rfl (Y0_pickTe (b := b8) (p := y10) rfl (by kernel_rfl) hc9 (by kernel_rfl) hb11)) ?_
      exact XE
     ·have hb11 := some_inj (of_false hb11 hc9)
      refine XL_skipT _ rfl rfl (by kernel_rfl) hc9 rfl ?_
      refine XL_skipT _ rfl rfl (by kernel_rfl) hc9 rfl ?_
      refine XL_skipT _ rfl rfl (by kernel_rfl) hc9 rfl ?_
      refine XL_cons rfl (X_of_Y0 rfl (Y0_pickFe (b := b8) (p := false) rfl (by kernel_rfl) hc9 (by kernel_rfl) hb11)) ?_
      exact XE
   ·have hb5 := some_inj (of_false hb5 hc3)
    refine XL_skipT _ rfl rfl (by kernel_rfl) hc3 rfl ?_
    refine XL_skipT _ rfl rfl (by kernel_rfl) hc3 rfl ?_
    refine XL_skipT _ rfl rfl (by kernel_rfl) hc3 rfl ?_
    refine XL_cons rfl (X_of_Y0 rfl (Y0_pickFe (b := y2) (p := false) rfl (by kernel_rfl) hc3 (by kernel_rfl) hb5)) ?_
    refine XR 1 ?_
    refine XL_split b5 (fun hc6 => ?_) (fun hc6 => ?_)
    ·have hb8 := of_true hb8 hc6
     obtain ⟨y7, hy7, hb8⟩ := of_bind hb8
     have hb8 := some_inj hb8
     refine XL_takeC _ rfl rfl (by kernel_rfl) hc6 (X_of_Y0 rfl (E_field (.pt 8 2) Try.underlying110 rfl sz3 rfl (by kernel_rfl) (by intro hh; cases hh))) ?_
     refine XL_takeC _ rfl rfl (by kernel_rfl) hc6 (X_of_Y0 rfl (Y0_load1 (c := Ti vm1.2.2.1) (cs := [Ti vm1.2.2.2]) sc3 rfl (by kernel_rfl))) ?_
     refine XL_takeC _ rfl rfl (by kernel_rfl) hc6 (X_of_Y1 rfl (Y1_call (s_spec_nuGood hy7) cf_spec_nuGood rfl (by kernel_rfl))) ?_
     refine XL_cons rfl (X_of_Y0 rfl (Y0_pickTe (b := b5) (p := y7) rfl (by kernel_rfl) hc6 (by kernel_rfl) hb8)) ?_
     refine XR 1 ?_
     refine XL_split b8 (fun hc9 => ?_) (fun hc9 => ?_)
     ·have hb11 := of_true hb11 hc9
      obtain ⟨y10, hy10, hb11⟩ := of_bind hb11
      have hb11 := some_inj hb11
      refine XL_takeC _ rfl rfl (by kernel_rfl) hc9 (X_of_Y0 rfl (E_field (.pt 8 3) Try.underlying110 rfl sz3 rfl (by kernel_rfl) (by intro hh; cases hh))) ?_
      refine XL_takeC _ rfl rfl (by kernel_rfl) hc9 (X_of_Y0 rfl (Y0_load1 (c := Ti vm1.2.2.2) (cs := []) sc3 rfl (by kernel_rfl))) ?_
      refine XL_takeC _ rfl rfl (by kernel_rfl) hc9 (X_of_Y1 rfl (Y1_call (s_spec_nuGood hy10) cf_spec_nuGood rfl (by kernel_rfl))) ?_
      refine XL_cons rfl (X_of_Y0 rfl (Y0_pickTe (b := b8) (p := y10) rfl (by kernel_rfl) hc9 (by kernel_rfl) hb11)) ?_
      exact XE
     ·have hb11 := some_inj (of_false hb11 hc9)
      refine XL_skipT _ rfl rfl (by kernel_rfl) hc9 rfl ?_
      refine XL_skipT _ rfl rfl (by kernel_rfl) hc9 rfl ?_
      refine XL_skipT _ rfl rfl (by kernel_rfl) hc9 rfl ?_
      refine XL_cons rfl (X_of_Y0 rfl (Y0_pickFe (b := b8) (p := false) rfl (by kernel_rfl) hc9 (by kernel_rfl) hb11)) ?_
      exact XE
    ·have hb8 := some_inj (of_false hb8 hc6)
     refine XL_skipT _ rfl rfl (by kernel_rfl) hc6 rfl ?_
     refine XL_skipT _ rfl rfl (by kernel_rfl) hc6 rfl ?_
     refine XL_skipT _ rfl rfl (by kernel_rfl) hc6 rfl ?_
     refine XL_cons rfl (X_of_Y0 rfl (Y0_pickFe (b := b5) (p := false) rfl (by kernel_rfl) hc6 (by kernel_rfl) hb8)) ?_
     refine XR 1 ?_
     refine XL_split b8 (fun hc9 => ?_) (fun hc9 => ?_)
     ·have hb11 := of_true hb11 hc9
      obtain ⟨y10, hy10, hb11⟩ := of_bind hb11
      have hb11 := some_inj hb11
      refine XL_takeC _ rfl rfl (by kernel_rfl) hc9 (X_of_Y0 rfl (E_field (.pt 8 3) Try.underlying110 rfl sz3 rfl (by kernel_rfl) (by intro hh; cases hh))) ?_
      refine XL_takeC _ rfl rfl (by kernel_rfl) hc9 (X_of_Y0 rfl (Y0_load1 (c := Ti vm1.2.2.2) (cs := []) sc3 rfl (by kernel_rfl))) ?_
      refine XL_takeC _ rfl rfl (by kernel_rfl) hc9 (X_of_Y1 rfl (Y1_call (s_spec_nuGood hy10) cf_spec_nuGood rfl (by kernel_rfl))) ?_
      refine XL_cons rfl (X_of_Y0 rfl (Y0_pickTe (b := b8) (p := y10) rfl (by kernel_rfl) hc9 (by kernel_rfl) hb11)) ?_
      exact XE
     ·have hb11 := some_inj (of_false hb11 hc9)
      refine XL_skipT _ rfl rfl (by kernel_rfl) hc9 rfl ?_
      refine XL_skipT _ rfl rfl (by kernel_rfl) hc9 rfl ?_
      refine XL_skipT _ rfl rfl (by kernel_rfl) hc9 rfl ?_
      refine XL_cons rfl (X_of_Y0 rfl (Y0_pickFe (b := b8) (p := false) rfl (by kernel_rfl) hc9 (by kernel_rfl) hb11)) ?_
      exact XE
  refine V_ret ?_
  obtain rfl := some_inj h
  show Post _ _ _ _ _
  exact ⟨.inr rfl, rfl, rfl, rfl⟩
theorem cf_spec_NextForm : ∀ args w, (callFunc 220 args).run Try.prog w = .ok (.enter 220 args) w := run_callFunc Try.func220 (by kernel_rfl) (by kernel_rfl)
theorem s_spec_NextForm {f1 : (Int × Int × Int)} {r : (((Int × Int × Int)) × ((Int × Int × Int × Int)) × Bool)} (h : r_spec_NextForm f1 = some r) : CallS Try.prog 220 [.ag [Ti f1.1, Ti f1.2.1, Ti f1.2.2]] (.tc (.ag [Ti r.1.1, Ti r.1.2.1, Ti r.1.2.2]) (.tc (.ag [Ti r.2.1.1, Ti r.2.1.2.1, Ti r.2.1.2.2.1, Ti r.2.1.2.2.2]) (.tc (Bo r.2.2) .tn))) [] := by
  refine CallS_of_text (rs := [.w 2 3, .w 3 4, .t 4]) (vs := [.cell 2 45, .cell 3 110, .tmp 4]) Try.func220 rfl rfl (.cons ⟨rfl, wd45⟩ (.cons ⟨rfl, wd110⟩ (.cons rfl FitsL.nil))) (by decide) 29 rfl ?_
  unfold r_spec_NextForm at h
  show V _ _ ⟨.ag [Ti f1.1, Ti f1.2.1, Ti f1.2.2] :: bt 28 [], []⟩ _
  refine V_e (mb 29 14) [24, 16, 8] (s1 := ⟨.bot :: .pt 8 0 :: .pt 16 0 :: .pt 24 0 :: bt 25 [], [(24, .box [Ti 0, Ti 0, Ti 0, Ti 0]), (16, .box [Ti 0, Ti 0, Ti 0]), (8, .box [Ti f1.1, Ti f1.2.1, Ti f1.2.2])]⟩) ?_
  refine V_seq ?_
  obtain ⟨y2, hy2, h⟩ := of_bind h
  refine V_sreg (mb 29 526) [24, 16, 8] (s1 := ⟨.bot :: .pt 8 0 :: .pt 16 0 :: .pt 24 0 :: bt 5 (Bo (!y2) :: bt 19 []), [(24, .box [Ti 0, Ti 0, Ti 0, Ti 0]), (16, .box [Ti 0, Ti 0, Ti 0]), (8, .box [Ti f1.1, Ti f1.2.1, Ti f1.2.2])]⟩) ?_ ?_
  ·refine XR 1 ?_
   refine XC (s_spec_cyGood hy2) cf_spec_cyGood rfl rfl rfl ?_
   exact XE
  refine V_cond rfl (fun hc3 => ?_) (fun hc3 => ?_)
  ·have h := of_true h hc3
   refine V_sreg (mb 29 28) [24, 16] (s1 := ⟨.bot :: .bot :: .pt 16 0 :: .pt 24 0 :: Bo false :: bt 24 [], [(24, .box [Ti 0, Ti 0, Ti 0, Ti 0]), (16, .box [Ti 0, Ti 0, Ti 0])]⟩) ?_ ?_
   ·refine L0 rfl rfl (Y0_build (cs := [Ti 0, Ti 0, Ti 0]) pl45 bt45 rfl rfl (by kernel_rfl)) ?_
    refine L0 rfl rfl (Y0_build (cs := [Ti 0, Ti 0, Ti 0, Ti 0]) pl110 bt110 rfl rfl (by kernel_rfl)) ?_
    exact XE
   refine V_ret ?_
   obtain rfl := some_inj h
   show Post _ _ _ _ _
   exact ⟨.inr rfl, rfl, rfl, rfl⟩
  ·have h := of_false h hc3
   refine V_skip ?_
   show V _ _ _ _
   obtain ⟨y4, hy4, h⟩ := of_bind h
   refine V_sreg (mb 29 46) [40, 24, 16, 8] (s1 := ⟨.bot :: .pt 8 0 :: .pt 16 0 :: .pt 24 0 :: .bot :: .pt 40 0 :: bt 23 [], [(40, .box [Ti y4.1, Ti y4.2.1, Ti y4.2.2.1, Ti y4.2.2.2]), (24, .box [Ti 0, Ti 0, Ti 0, Ti 0]), (16, .box [Ti 0, Ti 0, Ti 0]), (8, .box [Ti f1.1, Ti f1.2.1, Ti f1.2.2])]⟩) ?_ ?_
   ·refine XR 1 ?_
    refine XC (s_spec_cyMove hy4) cf_spec_cyMove rfl rfl rfl ?_
    exact XE
   obtain ⟨y5, hy5, h⟩ := of_bind h
   refine V_sreg (mb 29 108) [48, 40, 24, 16] (s1 := ⟨.bot :: .bot :: .pt 16 0 :: .pt 24 0 :: .bot :: .pt 40 0 :: .pt 48 0 :: bt 22 [], [(48, .box [Ti y5.1, Ti y5.2.1, Ti y5.2.2]), (40, .box [Ti y4.1, Ti y4.2.1, Ti y4.2.2.1, Ti y4.2.2.2]), (24, .box [Ti 0, Ti 0, Ti 0, Ti 0]), (16, .box [Ti 0, Ti 0, Ti 0])]⟩) ?_ ?_
   ·refine XR 2 ?_
    refine XC (s_spec_foAct hy5) cf_spec_foAct rfl rfl rfl ?_
    exact XE
   refine V_seq ?_
   obtain ⟨y6, hy6, h⟩ := of_bind h
   obtain ⟨b9, hb9, h⟩ := of_bind h
   refine V_sreg (mb 29 16777324) [48, 40, 24, 16] (s1 := ⟨.bot :: .bot :: .pt 16 0 :: .pt 24 0 :: .bot :: .pt 40 0 :: .pt 48 0 :: bt 17 (Bo b9 :: bt 4 []), [(48, .box [Ti y5.1, Ti y5.2.1, Ti y5.2.2]), (40, .box [Ti y4.1, Ti y4.2.1, Ti y4.2.2.1, Ti y4.2.2.2]), (24, .box [Ti 0, Ti 0, Ti 0, Ti 0]), (16, .box [Ti 0, Ti 0, Ti 0])]⟩) ?_ ?_
   ·refine XR 1 ?_
    refine XC (s_spec_foGood hy6) cf_spec_foGood rfl rfl rfl ?_
    refine XR 2 ?_
    refine XL_split (!y6) (fun hc7 => ?_) (fun hc7 => ?_)
    ·have hb9 := some_inj (of_true hb9 hc7)
     refine XL_skipF _ rfl rfl (by kernel_rfl) hc7 rfl ?_
     refine XL_skipF _ rfl rfl (by kernel_rfl) hc7 rfl ?_
     refine XL_skipF _ rfl rfl (by kernel_rfl) hc7 rfl ?_
     refine XL_cons rfl (X_of_Y0 rfl (Y0_pickTe (b := !y6) (p := true) rfl (by kernel_rfl) hc7 (by kernel_rfl) hb9)) ?_
     exact XE
    ·have hb9 := of_false hb9 hc7
     obtain ⟨y8, hy8, hb9⟩ := of_bind hb9
     have hb9 := some_inj hb9
     refine XL_takeC _ rfl rfl (by kernel_rfl) hc7 (X_of_Y0 rfl (E_loadn (cs := [Ti y4.1, Ti y4.2.1, Ti y4.2.2.1, Ti y4.2.2.2]) [Ti y4.1, Ti y4.2.1, Ti y4.2.2.1, Ti y4.2.2.2] wd110 rfl (by kernel_rfl) (Nat.le_of_ble_eq_true rfl) (by kernel_rfl))) ?_
     refine XL_takeC _ rfl rfl (by kernel_rfl) hc7 (X_of_Y1 rfl (Y1_call (s_spec_foMatrix hy8) cf_spec_foMatrix rfl (by kernel_rfl))) ?_
     refine XL_takeC _ rfl rfl (by kernel_rfl) hc7 (X_of_Y0 rfl (Y0_not (b := y8) rfl (by kernel_rfl))) ?_
     refine XL_cons rfl (X_of_Y0 rfl (Y0_pickFe (b := !y6) (p := !y8) rfl (by kernel_rfl) hc7 (by kernel_rfl) hb9)) ?_
     exact XE
   refine V_cond rfl (fun hc10 => ?_) (fun hc10 => ?_)
   ·have h := of_true h hc10
    refine V_sreg (mb 29 28) [24, 16] (s1 := ⟨.bot :: .bot :: .pt 16 0 :: .pt 24 0 :: Bo false :: bt 24 [], [(24, .box [Ti 0, Ti 0, Ti 0, Ti 0]), (16, .box [Ti 0, Ti 0, Ti 0])]⟩) ?_ ?_
    ·refine L0 rfl rfl (Y0_build (cs := [Ti 0, Ti 0, Ti 0]) pl45 bt45 rfl rfl (by kernel_rfl)) ?_
     refine L0 rfl rfl (Y0_build (cs := [Ti 0, Ti 0, Ti 0, Ti 0]) pl110 bt110 rfl rfl (by kernel_rfl)) ?_
     exact XE
    refine V_ret ?_
    obtain rfl := some_inj h
    show Post _ _ _ _ _
    exact ⟨.inr rfl, rfl, rfl, rfl⟩
   ·have h := of_false h hc10
    refine V_skip ?_
    show V _ _ _ _
    refine V_sdreg [0, 0, 1, 7, 15] 3 [[.z, .b, .z], [.b, .z, .r 16], [.a, .b, .z]] (mb 29 28) [24, 16] (s1 := ⟨.bot :: .bot :: .pt 16 0 :: .pt 24 0 :: Bo true :: bt 24 [], [(24, .box [Ti y4.1, Ti y4.2.1, Ti y4.2.2.1, Ti y4.2.2.2]), (16, .box [Ti y5.1, Ti y5.2.1, Ti y5.2.2])]⟩) (by kernel_rfl) (by kernel_rfl) ?_ ?_
    ·refine DA 3 ?_
     exact XE
    refine V_ret ?_
    obtain rfl := some_inj h
    show Post _ _ _ _ _
    exact ⟨.inr rfl, rfl, rfl, rfl⟩
theorem cf_spec_cyReduce : ∀ args w, (callFunc 186 args).run Try.prog w = .ok (.enter 186 args) w := run_callFunc Try.func186 (by kernel_rfl) (by kernel_rfl)
theorem s_spec_cyReduce {f1 : (Int × Int × Int)} {r : (((Int × Int × Int)) × ((Int × Int × Int × Int)) × Bool)} (h : r_spec_cyReduce f1 = some r) : CallS Try.prog 186 [.ag [Ti f1.1, Ti f1.2.1, Ti f1.2.2]] (.tc (.ag [Ti r.1.1, Ti r.1.2.1, Ti r.1.2.2]) (.tc (.ag [Ti r.2.1.1, Ti r.2.1.2.1, Ti r.2.1.2.2.1, Ti r.2.1.2.2.2]) (.tc (Bo r.2.2) .tn))) [] := by
  refine CallS_of_text (rs := [.w 2 3, .w 3 4, .t 4]) (vs := [.cell 2 45, .cell 3 110, .tmp 4]) Try.func186 rfl rfl (.cons ⟨rfl, wd45⟩ (.cons ⟨rfl, wd110⟩ (.cons rfl FitsL.nil))) (by decide) 34 rfl ?_
  unfold r_spec_cyReduce at h
  show V _ _ ⟨.ag [Ti f1.1, Ti f1.2.1, Ti f1.2.2] :: bt 33 [], []⟩ _
  refine V_e (mb 34 14) [24, 16, 8] (s1 := ⟨.bot :: .pt 8 0 :: .pt 16 0 :: .pt 24 0 :: bt 30 [], [(24, .box [Ti 0, Ti 0, Ti 0, Ti 0]), (16, .box [Ti 0, Ti 0, Ti 0]), (8, .box [Ti f1.1, Ti f1.2.1, Ti f1.2.2])]⟩) ?_
  refine V_sreg (mb 34 46) [40, 24, 16, 8] (s1 := ⟨.bot :: .pt 8 0 :: .pt 16 0 :: .pt 24 0 :: .bot :: .pt 40 0 :: bt 28 [], [(40, .box [Ti 1, Ti 0, Ti 0, Ti 1]), (24, .box [Ti 0, Ti 0, Ti 0, Ti 0]), (16, .box [Ti 0, Ti 0, Ti 0]), (8, .box [Ti f1.1, Ti f1.2.1, Ti f1.2.2])]⟩) ?_ ?_
  ·refine L0 rfl rfl (Y0_build (cs := [Ti 1, Ti 0, Ti 0, Ti 1]) pl110 bt110 rfl rfl (by kernel_rfl)) ?_
   exact XE
  refine V_seq ?_
  obtain ⟨qo10, hLo10, hko10⟩ := of_bind h
  refine V_toS (q := qo10) (S := fun o10 => ⟨.bot :: .pt 8 0 :: .pt 16 0 :: .pt 24 0 :: .bot :: .pt 40 0 :: bt 28 [], [(40, .box [Ti o10.1, Ti o10.2.1, Ti o10.2.2.1, Ti o10.2.2.2.1]), (24, .box [Ti 0, Ti 0, Ti 0, Ti 0]), (16, .box [Ti 0, Ti 0, Ti 0]), (8, .box [Ti o10.2.2.2.2.1, Ti o10.2.2.2.2.2.1, Ti o10.2.2.2.2.2.2])]⟩) (mb 34 46) [40, 24, 16, 8] ?_ ?_
  ·refine V_block (V_loop (fun n s => ∃ (f2 : Int) (f3 : Int) (f4 : Int) (f5 : Int) (f6 : Int) (f7 : Int) (f8 : Int), s.keep (mb 34 46) [40, 24, 16, 8] = (⟨.bot :: .pt 8 0 :: .pt 16 0 :: .pt 24 0 :: .bot :: .pt 40 0 :: bt 28 [], [(40, .box [Ti f2, Ti f3, Ti f4, Ti f5]), (24, .box [Ti 0, Ti 0, Ti 0, Ti 0]), (16, .box [Ti 0, Ti 0, Ti 0]), (8, .box [Ti f6, Ti f7, Ti f8])]⟩ : St) ∧ r_spec_cyReduce_L9 n f2 f3 f4 f5 f6 f7 f8 = some qo10) FU ⟨_, _, _, _, _, _, _,  by rfl, hLo10⟩ ?_)
   clear hLo10
   rintro n s ⟨f2, f3, f4, f5, f6, f7, f8, hs, h⟩
   refine V_keep _ _ hs ?_
   clear hs
   cases n with
   | zero => cases h
   | succ n =>
    rw [r_spec_cyReduce_L9] at h
    refine V_seq ?_
    obtain ⟨y11, hy11, h⟩ := of_bind h
    refine V_sreg (mb 34 4142) [40, 24, 16, 8] (s1 := ⟨.bot :: .pt 8 0 :: .pt 16 0 :: .pt 24 0 :: .bot :: .pt 40 0 :: bt 6 (Bo (!y11) :: bt 21 []), [(40, .box [Ti f2, Ti f3, Ti f4, Ti f5]), (24, .box [Ti 0, Ti 0, Ti 0, Ti 0]), (16, .box [Ti 0, Ti 0, Ti 0]), (8, .box [Ti f6, Ti f7, Ti f8])]⟩) ?_ ?_
    ·refine XR 1 ?_
     refine XC (s_spec_cyIs hy11) cf_spec_cyIs rfl rfl rfl ?_
     exact XE
    refine V_cond rfl (fun hc12 => ?_) (fun hc12 => ?_)
    ·have h := of_true h hc12
     refine V_skip ?_
     show V _ _ _ _
     refine V_block ?_
     obtain ⟨y13, hy13, h⟩ := of_bind h
     refine V_sreg (mb 34 494) [56, 48, 40, 24, 16, 8] (s1 := ⟨.bot :: .pt 8 0 :: .pt 16 0 :: .pt 24 0 :: .bot :: .pt 40 0 :: .pt 48 0 :: .pt 56 0 :: Bo y13.2.2 :: bt 25 [], [(56, .box [Ti y13.2.1.1, Ti y13.2.1.2.1, Ti y13.2.1.2.2.1, Ti y13.2.1.2.2.2]), (48, .box [Ti y13.1.1, Ti y13.1.2.1, Ti y13.1.2.2]), (40, .box [Ti f2, Ti f3, Ti f4, Ti f5]), (24, .box [Ti 0, Ti 0, Ti 0, Ti 0]), (16, .box [Ti 0, Ti 0, Ti 0]), (8, .box [Ti f6, Ti f7, Ti f8])]⟩) ?_ ?_
     ·refine XR 1 ?_
      refine XC (s_spec_NextForm hy13) cf_spec_NextForm rfl rfl rfl ?_
      exact XE
     refine V_seq ?_
     refine V_e (mb 34 1048814) [56, 48, 40, 24, 16, 8] (s1 := ⟨.bot :: .pt 8 0 :: .pt 16 0 :: .pt 24 0 :: .bot :: .pt 40 0 :: .pt 48 0 :: .pt 56 0 :: bt 12 (Bo (!y13.2.2) :: bt 13 []), [(56, .box [Ti y13.2.1.1, Ti y13.2.1.2.1, Ti y13.2.1.2.2.1, Ti y13.2.1.2.2.2]), (48, .box [Ti y13.1.1, Ti y13.1.2.1, Ti y13.1.2.2]), (40, .box [Ti f2, Ti f3, Ti f4, Ti f5]), (24, .box [Ti 0, Ti 0, Ti 0, Ti 0]), (16, .box [Ti 0, Ti 0, Ti 0]), (8, .box [Ti f6, Ti f7, Ti f8])]⟩) ?_
     refine V_cond rfl (fun hc14 => ?_) (fun hc14 => ?_)
     ·have h := of_true h hc14
      refine V_sreg (mb 34 28) [24, 16] (s1 := ⟨.bot :: .bot :: .pt 16 0 :: .pt 24 0 :: Bo false :: bt 29 [], [(24, .box [Ti 0, Ti 0, Ti 0, Ti 0]), (16, .box [Ti 0, Ti 0, Ti 0])]⟩) ?_ ?_
      ·refine L0 rfl rfl (Y0_build (cs := [Ti 0, Ti 0, Ti 0]) pl45 bt45 rfl rfl (by kernel_rfl)) ?_
       refine L0 rfl rfl (Y0_build (cs := [Ti 0, Ti 0, Ti 0, Ti 0]) pl110 bt110 rfl rfl (by kernel_rfl)) ?_
       exact XE
      refine V_ret ?_
      obtain rfl := some_inj h
      have h := hko10
      obtain rfl := some_inj h
      show Post _ _ _ _ _
      exact ⟨.inr rfl, rfl, rfl, rfl⟩
     ·have h := of_false h hc14
      refine V_skip ?_
      show V _ _ _ _
      obtain ⟨y15, hy15, h⟩ := of_bind h
      refine V_sdreg [0, 0, 0, 6, 15, 31] 4 (cdm 4 [168, 34, 10, 22]) (mb 34 46) [40, 24, 16, 8] (s1 := ⟨.bot :: .pt 8 0 :: .pt 16 0 :: .pt 24 0 :: .bot :: .pt 40 0 :: bt 28 [], [(40, .box [Ti y15.1, Ti y15.2.1, Ti y15.2.2.1, Ti y15.2.2.2]), (24, .box [Ti 0, Ti 0, Ti 0, Ti 0]), (16, .box [Ti 0, Ti 0, Ti 0]), (8, .box [Ti y13.1.1, Ti y13.1.2.1, Ti y13.1.2.2])]⟩) (by kernel_rfl) (by kernel_rfl) ?_ ?_
      ·refine DR 3 ?_
       refine DC 3 (s_spec_foMul hy15) cf_spec_foMul rfl rfl rfl rfl 26 rfl ?_
       refine DA 0 ?_
       exact XE
      obtain ⟨y16, hy16, h⟩ := of_bind h
      refine V_sreg (mb 34 536870958) [40, 24, 16, 8] (s1 := ⟨.bot :: .pt 8 0 :: .pt 16 0 :: .pt 24 0 :: .bot :: .pt 40 0 :: bt 23 (Bo (!y16) :: bt 4 []), [(40, .box [Ti y15.1, Ti y15.2.1, Ti y15.2.2.1, Ti y15.2.2.2]), (24, .box [Ti 0, Ti 0, Ti 0, Ti 0]), (16, .box [Ti 0, Ti 0, Ti 0]), (8, .box [Ti y13.1.1, Ti y13.1.2.1, Ti y13.1.2.2])]⟩) ?_ ?_
      ·refine XR 1 ?_
       refine XC (s_spec_foMatrix hy16) cf_spec_foMatrix rfl rfl rfl ?_
       exact XE
      refine V_cond rfl (fun hc17 => ?_) (fun hc17 => ?_)
      ·have h := of_true h hc17
       refine V_sreg (mb 34 28) [24, 16] (s1 := ⟨.bot :: .bot :: .pt 16 0 :: .pt 24 0 :: Bo false :: bt 29 [], [(24, .box [Ti 0, Ti 0, Ti 0, Ti 0]), (16, .box [Ti 0, Ti 0, Ti 0])]⟩) ?_ ?_
       ·refine L0 rfl rfl (Y0_build (cs := [Ti 0, Ti 0, Ti 0]) pl45 bt45 rfl rfl (by kernel_rfl)) ?_
        refine L0 rfl rfl (Y0_build (cs := [Ti 0, Ti 0, Ti 0, Ti 0]) pl110 bt110 rfl rfl (by kernel_rfl)) ?_
        exact XE
       refine V_ret ?_
       obtain rfl := some_inj h
       have h := hko10
       obtain rfl := some_inj h
       show Post _ _ _ _ _
       exact ⟨.inr rfl, rfl, rfl, rfl⟩
      ·have h := of_false h hc17
       refine V_skip ?_
       exact ⟨n, Nat.lt_succ_self n, _, _, _, _, _, _, _,  by rfl, h⟩
    ·have h := of_false h hc12
     refine V_exit ?_
     obtain rfl := some_inj h
     exact ⟨_, rfl, by rfl⟩
  rintro o10 rfl
  have h := hko10
  clear hko10
  show V _ _ _ _
  refine V_sdreg [0, 0, 1, 7, 15] 3 [[.z, .b, .z], [.b, .z, .r 16], [.a, .b, .z]] (mb 34 28) [24, 16] (s1 := ⟨.bot :: .bot :: .pt 16 0 :: .pt 24 0 :: Bo true :: bt 29 [], [(24, .box [Ti o10.1, Ti o10.2.1, Ti o10.2.2.1, Ti o10.2.2.2.1]), (16, .box [Ti o10.2.2.2.2.1, Ti o10.2.2.2.2.2.1, Ti o10.2.2.2.2.2.2])]⟩) (by kernel_rfl) (by kernel_rfl) ?_ ?_
  ·refine DA 3 ?_
   exact XE
  refine V_ret ?_
  obtain rfl := some_inj h
  show Post _ _ _ _ _
  exact ⟨.inr rfl, rfl, rfl, rfl⟩
theorem cf_spec_cyCycle : ∀ args w, (callFunc 188 args).run Try.prog w = .ok (.enter 188 args) w := run_callFunc Try.func188 (by kernel_rfl) (by kernel_rfl)
theorem s_spec_cyCycle {f1 : (Int × Int × Int)} {r : List ((Int × Int × Int))} (h : r_spec_cyCycle f1 = some r) : CallS Try.prog 188 [.ag [Ti f1.1, Ti f1.2.1, Ti f1.2.2]] (.ow 0) [(0, .arr 45 3 (r.map c45))] := by
  refine CallS_of_text (rs := [.t 2]) (vs := [.tmp 2]) Try.func188 rfl rfl (.cons rfl FitsL.nil) (by decide) 24 rfl ?_
  unfold r_spec_cyCycle at h
  show V _ _ ⟨.ag [Ti f1.1, Ti f1.2.1, Ti f1.2.2] :: bt 23 [], []⟩ _
  refine V_sreg (mb 24 2) [8] (s1 := ⟨.bot :: .pt 8 0 :: bt 22 [], [(8, .box [Ti f1.1, Ti f1.2.1, Ti f1.2.2])]⟩) ?_ ?_
  ·refine XR 1 ?_
   refine L1 rfl rfl (Y1_nil (e := 45) 3 (by decide) (.inl rfl)) ?_
   exact XE
  refine V_sreg (mb 24 10) [48, 8] (s1 := ⟨.bot :: .pt 8 0 :: .bot :: .ow 48 :: bt 20 [], [(48, .arr 45 3 (([f1]).map c45)), (8, .box [Ti f1.1, Ti f1.2.1, Ti f1.2.2])]⟩) ?_ ?_
  ·refine XR 1 ?_
   refine L1 rfl rfl (Y1_bslice (z := zv45) (els := [f1].map c45) Try.underlying62 iz45 rfl (by decide) rfl (by kernel_rfl) rfl (by simp [c45]) (by decide) (by decide)) ?_
   exact XE
  refine V_seq ?_
  obtain ⟨y2, hy2, h⟩ := of_bind h
  obtain ⟨y3, hy3, h⟩ := of_bind h
  refine V_sdreg [0, 0, 2, 7, 0, 31] 5 (cdm 5 [552, 514, 518, 533, 170]) (mb 24 26) [32, 48, 8] (s1 := ⟨.bot :: .pt 8 0 :: .bot :: .ow 48 :: .pt 32 0 :: bt 19 [], [(32, .box [Ti y3.1, Ti y3.2.1, Ti y3.2.2]), (48, .arr 45 3 (([f1]).map c45)), (8, .box [Ti f1.1, Ti f1.2.1, Ti f1.2.2])]⟩) (by kernel_rfl) (by kernel_rfl) ?_ ?_
  ·refine DR 2 ?_
   refine DC 2 (s_spec_cyMove hy2) cf_spec_cyMove rfl rfl rfl rfl 9 rfl ?_
   refine DC 3 (s_spec_foAct hy3) cf_spec_foAct rfl rfl rfl rfl 10 rfl ?_
   refine DA 1 ?_
   exact XE
  obtain ⟨o9, hLo9, h⟩ := of_bind h
  refine V_toK (mb 24 8) [48] (s1 := ⟨bt 3 (.ow 48 :: bt 20 []), [(48, .arr 45 3 (o9.map c45))]⟩) ?_ ?_
  ·clear h
   refine V_block (V_loop (fun n s => ∃ (f4 : Int) (f5 : Int) (f6 : Int) (l7 : List ((Int × Int × Int))), s.keep (mb 24 26) [32, 48, 8] = (⟨.bot :: .pt 8 0 :: .bot :: .ow 48 :: .pt 32 0 :: bt 19 [], [(32, .box [Ti f4, Ti f5, Ti f6]), (48, .arr 45 3 (l7.map c45)), (8, .box [Ti f1.1, Ti f1.2.1, Ti f1.2.2])]⟩ : St) ∧ r_spec_cyCycle_L8 f1 n f4 f5 f6 l7 = some o9) FU ⟨_, _, _, _,  by rfl, hLo9⟩ ?_)
   clear hLo9
   rintro n s ⟨f4, f5, f6, l7, hs, h⟩
   refine V_keep _ _ hs ?_
   clear hs
   cases n with
   | zero => cases h
   | succ n =>
    rw [r_spec_cyCycle_L8] at h
    refine V_seq ?_
    refine V_sreg (mb 24 8218) [32, 48, 8] (s1 := ⟨.bot :: .pt 8 0 :: .bot :: .ow 48 :: .pt 32 0 :: bt 8 (Bo (!((f4 == f1.1) && ((f5 == f1.2.1) && (f6 == f1.2.2)))) :: bt 10 []), [(32, .box [Ti f4, Ti f5, Ti f6]), (48, .arr 45 3 (l7.map c45)), (8, .box [Ti f1.1, Ti f1.2.1, Ti f1.2.2])]⟩) ?_ ?_
    ·refine XR 2 ?_
     refine L0 rfl rfl (Y0_neg3 (a0 := f4) (b0 := f1.1) (a1 := f5) (b1 := f1.2.1) (a2 := f6) (b2 := f1.2.2) neg45 rfl (by kernel_rfl) (by kernel_rfl)) ?_
     exact XE
    refine V_cond rfl (fun hc10 => ?_) (fun hc10 => ?_)
    ·have h := of_true h hc10
     refine V_skip ?_
     show V _ _ _ _
     refine V_seq ?_
     refine V_block ?_
     obtain ⟨u11, hu11, h⟩ := of_bind h
     refine V_reg (mb 24 26) [32, 48, 8] (s1 := ⟨.bot :: .pt 8 0 :: .bot :: .ow 48 :: .pt 32 0 :: bt 19 [], [(32, .box [Ti f4, Ti f5, Ti f6]), (48, .arr 45 3 ((l7 ++ ([(f4, f5, f6)])).map c45)), (8, .box [Ti f1.1, Ti f1.2.1, Ti f1.2.2])]⟩) ?_ ?_
     ·refine XR 2 ?_
      refine L1 rfl rfl (Y1_bslice (z := zv45) (els := [(f4, f5, f6)].map c45) Try.underlying62 iz45 rfl (by decide) rfl (by kernel_rfl) rfl (by simp [c45]) (by decide) (by decide)) ?_
      refine XL_cons rfl (X_appendM (c := c45) (xs := l7) (ys := [(f4, f5, f6)]) (id := 48) (z := zv45) rfl rfl Try.underlying62 izb45 rfl (by kernel_rfl) (by kernel_rfl) (by kernel_rfl) (fun _ => rfl) (by simp) (room_some hu11) (by decide)) ?_
      exact XE
     show V _ _ _ _
     refine V_seq ?_
     refine V_e (mb 24 4194314) [48, 8] (s1 := ⟨.bot :: .pt 8 0 :: .bot :: .ow 48 :: bt 18 (.ag [Ti f4, Ti f5, Ti f6] :: .bot :: []), [(48, .arr 45 3 ((l7 ++ ([(f4, f5, f6)])).map c45)), (8, .box [Ti f1.1, Ti f1.2.1, Ti f1.2.2])]⟩) ?_
     refine V_reg (mb 24 26) [32, 48, 8] (s1 := ⟨.bot :: .pt 8 0 :: .bot :: .ow 48 :: .pt 32 0 :: bt 19 [], [(32, .box [Ti f4, Ti f5, Ti f6]), (48, .arr 45 3 ((l7 ++ ([(f4, f5, f6)])).map c45)), (8, .box [Ti f1.1, Ti f1.2.1, Ti f1.2.2])]⟩) ?_ ?_
     ·exact XE
     show V _ _ _ _
     obtain ⟨y12, hy12, h⟩ := of_bind h
     obtain ⟨y13, hy13, h⟩ := of_bind h
     refine V_dreg [0, 0, 2, 7, 15] 4 (cdm 4 [40, 2, 6, 21]) (mb 24 26) [32, 48, 8] (s1 := ⟨.bot :: .pt 8 0 :: .bot :: .ow 48 :: .pt 32 0 :: bt 19 [], [(32, .box [Ti y13.1, Ti y13.2.1, Ti y13.2.2]), (48, .arr 45 3 ((l7 ++ ([(f4, f5, f6)])).map c45)), (8, .box [Ti f1.1, Ti f1.2.1, Ti f1.2.2])]⟩) (by kernel_rfl) (by kernel_rfl) ?_ ?_
     ·refine DR 2 ?_
      refine DC 2 (s_spec_cyMove hy12) cf_spec_cyMove rfl rfl rfl rfl 16 rfl ?_
      refine DC 3 (s_spec_foAct hy13) cf_spec_foAct rfl rfl rfl rfl 17 rfl ?_
      refine DA 0 ?_
      exact XE
     exact ⟨n, Nat.lt_succ_self n, _, _, _, _,  by rfl, h⟩
    ·have h := of_false h hc10
     refine V_exit ?_
     obtain rfl := some_inj h
     show St.keep _ _ _ = _
     rfl
  show V _ _ _ _
  refine V_e (mb 24 4) [48] (s1 := ⟨.bot :: .bot :: .ow 48 :: bt 21 [], [(48, .arr 45 3 (o9.map c45))]⟩) ?_
  refine V_ret ?_
  obtain rfl := some_inj h
  show Post _ _ _ _ _
  exact ⟨.inr rfl, rfl, rfl, rfl⟩
theorem cf_spec_cyHas : ∀ args w, (callFunc 187 args).run Try.prog w = .ok (.enter 187 args) w := run_callFunc Try.func187 (by kernel_rfl) (by kernel_rfl)
theorem s_spec_cyHas {l1 : List ((Int × Int × Int))} {f2 : (Int × Int × Int)} {r : Bool} (h : r_spec_cyHas l1 f2 = some r) : CallS Try.prog 187 [.c (.sl (l1.map c45)), .ag [Ti f2.1, Ti f2.2.1, Ti f2.2.2]] (Bo r) [] := by
  refine CallS_of_text (rs := [.t 4]) (vs := [.tmp 4]) Try.func187 rfl rfl (.cons rfl FitsL.nil) (by decide) 17 rfl ?_
  unfold r_spec_cyHas at h
  show V _ _ ⟨.c (.sl (l1.map c45)) :: .ag [Ti f2.1, Ti f2.2.1, Ti f2.2.2] :: bt 15 [], []⟩ _
  refine V_e (mb 17 9) [24] (s1 := ⟨.c (.sl (l1.map c45)) :: .bot :: .bot :: .pt 24 0 :: bt 13 [], [(24, .box [Ti f2.1, Ti f2.2.1, Ti f2.2.2])]⟩) ?_
  refine V_seq ?_
  refine V_sreg (mb 17 904) [24] (s1 := ⟨bt 3 (.pt 24 0 :: bt 3 (.c (.sl (l1.map c45)) :: I ((l1.length : Int)) :: I 0 :: bt 7 [])), [(24, .box [Ti f2.1, Ti f2.2.1, Ti f2.2.2])]⟩) ?_ ?_
  ·refine XR 1 ?_
   refine L0 rfl rfl (Y0_lenM (c := c45) (xs := l1) Try.underlying62 rfl (by kernel_rfl)) ?_
   exact XE
  obtain ⟨qo5, hLo5, hko5⟩ := of_bind h
  refine V_toS (q := qo5) (S := fun o5 => ⟨bt 17 [], []⟩) (mb 17 0) [] ?_ ?_
  ·refine V_block (V_loop (fun n s => ∃ (t3 : Int), s.keep (mb 17 904) [24] = (⟨bt 3 (.pt 24 0 :: bt 3 (.c (.sl (l1.map c45)) :: I ((l1.length : Int)) :: I t3 :: bt 7 [])), [(24, .box [Ti f2.1, Ti f2.2.1, Ti f2.2.2])]⟩ : St) ∧ r_spec_cyHas_L4 f2 l1 n t3 = some qo5) FU ⟨_,  by rfl, hLo5⟩ ?_)
   clear hLo5
   rintro n s ⟨t3, hs, h⟩
   refine V_keep _ _ hs ?_
   clear hs
   cases n with
   | zero => cases h
   | succ n =>
    rw [r_spec_cyHas_L4] at h
    refine V_e (mb 17 1928) [24] (s1 := ⟨bt 3 (.pt 24 0 :: bt 3 (.c (.sl (l1.map c45)) :: I ((l1.length : Int)) :: I t3 :: Bo (ltI t3 ((l1.length : Int))) :: bt 6 [])), [(24, .box [Ti f2.1, Ti f2.2.1, Ti f2.2.2])]⟩) ?_
    refine V_seq ?_
    refine V_cond rfl (fun hc6 => ?_) (fun hc6 => ?_)
    ·have h := of_true h hc6
     refine V_skip ?_
     show V _ _ _ _
     refine V_seq ?_
     refine V_block ?_
     obtain ⟨e7, he7, h⟩ := of_bind h
     refine V_sreg (mb 17 968) [48, 24] (s1 := ⟨bt 3 (.pt 24 0 :: .bot :: .bot :: .pt 48 0 :: .c (.sl (l1.map c45)) :: I ((l1.length : Int)) :: I t3 :: bt 7 []), [(48, .box [Ti e7.1, Ti e7.2.1, Ti e7.2.2]), (24, .box [Ti f2.1, Ti f2.2.1, Ti f2.2.2])]⟩) ?_ ?_
     ·refine L0 rfl rfl (Y0_idxM (c := c45) (xs := l1) (v := e7) (n := t3) Try.underlying62 sz45 rfl (by kernel_rfl) (by kernel_rfl) he7) ?_
      exact XE
     obtain ⟨t8, ht8, h⟩ := of_bind h
     have ht8 := some_inj ht8
     refine V_sreg (mb 17 33672) [24] (s1 := ⟨bt 3 (.pt 24 0 :: bt 3 (.c (.sl (l1.map c45)) :: I ((l1.length : Int)) :: I t3 :: bt 5 (Bo t8 :: .bot :: []))), [(24, .box [Ti f2.1, Ti f2.2.1, Ti f2.2.2])]⟩) ?_ ?_
     ·refine XR 2 ?_
      refine L0 rfl rfl (Y0_eqg3 (a0 := e7.1) (b0 := f2.1) (a1 := e7.2.1) (b1 := f2.2.1) (a2 := e7.2.2) (b2 := f2.2.2) eqg45 rfl (by kernel_rfl) (by kernel_rfl)) ?_
      refine XL_nil ?_
      subst ht8
      kernel_rfl
     refine V_cond rfl (fun hc9 => ?_) (fun hc9 => ?_)
     ·have h := of_true h hc9
      refine V_e (mb 17 16) [] (s1 := ⟨bt 4 (Bo true :: bt 12 []), []⟩) ?_
      refine V_ret ?_
      obtain rfl := some_inj h
      have h := hko5
      obtain rfl := some_inj h
      show Post _ _ _ _ _
      exact ⟨.inr rfl, rfl, rfl, rfl⟩
     ·have h := of_false h hc9
      refine V_skip ?_
      show V _ _ _ _
      obtain ⟨t10, ht10, h⟩ := of_sI h
      refine V_reg (mb 17 904) [24] (s1 := ⟨bt 3 (.pt 24 0 :: bt 3 (.c (.sl (l1.map c45)) :: I ((l1.length : Int)) :: I t10 :: bt 7 [])), [(24, .box [Ti f2.1, Ti f2.2.1, Ti f2.2.2])]⟩) ?_ ?_
      ·refine XR 2 ?_
       refine XL_nil ?_
       subst ht10
       kernel_rfl
      exact ⟨n, Nat.lt_succ_self n, _,  by rfl, h⟩
    ·have h := of_false h hc6
     refine V_exit ?_
     obtain rfl := some_inj h
     exact ⟨_, rfl, by rfl⟩
  rintro o5 rfl
  have h := hko5
  clear hko5
  show V _ _ _ _
  refine V_e (mb 17 16) [] (s1 := ⟨bt 4 (Bo false :: bt 12 []), []⟩) ?_
  refine V_ret ?_
  obtain rfl := some_inj h
  show Post _ _ _ _ _
  exact ⟨.inr rfl, rfl, rfl, rfl⟩
theorem cf_spec_SameCycle : ∀ args w, (callFunc 129 args).run Try.prog w = .ok (.enter 129 args) w := run_callFunc Try.func129 (by kernel_rfl) (by kernel_rfl)
theorem s_spec_SameCycle {f1 : (Int × Int × Int)} {g2 : (Int × Int × Int)} {r : (Bool × Bool)} (h : r_spec_SameCycle f1 g2 = some r) : CallS Try.prog 129 [.ag [Ti f1.1, Ti f1.2.1, Ti f1.2.2], .ag [Ti g2.1, Ti g2.2.1, Ti g2.2.2]] (.tc (Bo r.1) (.tc (Bo r.2) .tn)) [] := by
  refine CallS_of_text (rs := [.t 4, .t 5]) (vs := [.tmp 4, .tmp 5]) Try.func129 rfl rfl (.cons rfl (.cons rfl FitsL.nil)) (by decide) 49 rfl ?_
  unfold r_spec_SameCycle at h
  show V _ _ ⟨.ag [Ti f1.1, Ti f1.2.1, Ti f1.2.2] :: .ag [Ti g2.1, Ti g2.2.1, Ti g2.2.2] :: bt 47 [], []⟩ _
  refine V_e (mb 49 12) [24, 16] (s1 := ⟨.bot :: .bot :: .pt 16 0 :: .pt 24 0 :: bt 45 [], [(24, .box [Ti g2.1, Ti g2.2.1, Ti g2.2.2]), (16, .box [Ti f1.1, Ti f1.2.1, Ti f1.2.2])]⟩) ?_
  refine V_seq ?_
  obtain ⟨y3, hy3, h⟩ := of_bind h
  obtain ⟨b6, hb6, h⟩ := of_bind h
  refine V_sreg (mb 49 524300) [24, 16] (s1 := ⟨.bot :: .bot :: .pt 16 0 :: .pt 24 0 :: bt 15 (Bo b6 :: bt 29 []), [(24, .box [Ti g2.1, Ti g2.2.1, Ti g2.2.2]), (16, .box [Ti f1.1, Ti f1.2.1, Ti f1.2.2])]⟩) ?_ ?_
  ·refine XR 1 ?_
   refine XC (s_spec_cyGood hy3) cf_spec_cyGood rfl rfl rfl ?_
   refine XR 2 ?_
   refine XL_split (!y3) (fun hc4 => ?_) (fun hc4 => ?_)
   ·have hb6 := some_inj (of_true hb6 hc4)
    refine XL_skipF _ rfl rfl (by kernel_rfl) hc4 rfl ?_
    refine XL_skipF _ rfl rfl (by kernel_rfl) hc4 rfl ?_
    refine XL_skipF _ rfl rfl (by kernel_rfl) hc4 rfl ?_
    refine XL_cons rfl (X_of_Y0 rfl (Y0_pickTe (b := !y3) (p := true) rfl (by kernel_rfl) hc4 (by kernel_rfl) hb6)) ?_
    exact XE
   ·have hb6 := of_false hb6 hc4
    obtain ⟨y5, hy5, hb6⟩ := of_bind hb6
    have hb6 := some_inj hb6
    refine XL_takeC _ rfl rfl (by kernel_rfl) hc4 (X_of_Y0 rfl (E_loadn (cs := [Ti g2.1, Ti g2.2.1, Ti g2.2.2]) [Ti g2.1, Ti g2.2.1, Ti g2.2.2] wd45 rfl (by kernel_rfl) (Nat.le_of_ble_eq_true rfl) (by kernel_rfl))) ?_
    refine XL_takeC _ rfl rfl (by kernel_rfl) hc4 (X_of_Y1 rfl (Y1_call (s_spec_cyGood hy5) cf_spec_cyGood rfl (by kernel_rfl))) ?_
    refine XL_takeC _ rfl rfl (by kernel_rfl) hc4 (X_of_Y0 rfl (Y0_not (b := y5) rfl (by kernel_rfl))) ?_
    refine XL_cons rfl (X_of_Y0 rfl (Y0_pickFe (b := !y3) (p := !y5) rfl (by kernel_rfl) hc4 (by kernel_rfl) hb6)) ?_
    exact XE
  refine V_cond rfl (fun hc7 => ?_) (fun hc7 => ?_)
  ·have h := of_true h hc7
   refine V_e (mb 49 48) [] (s1 := ⟨bt 4 (Bo false :: Bo false :: bt 43 []), []⟩) ?_
   refine V_ret ?_
   obtain rfl := some_inj h
   show Post _ _ _ _ _
   exact ⟨.inr rfl, rfl, rfl, rfl⟩
  ·have h := of_false h hc7
   refine V_skip ?_
   show V _ _ _ _
   obtain ⟨y8, hy8, h⟩ := of_bind h
   refine V_sreg (mb 49 332) [48, 24, 16] (s1 := ⟨.bot :: .bot :: .pt 16 0 :: .pt 24 0 :: .bot :: .bot :: .pt 48 0 :: .bot :: Bo y8.2.2 :: bt 40 [], [(48, .box [Ti y8.1.1, Ti y8.1.2.1, Ti y8.1.2.2]), (24, .box [Ti g2.1, Ti g2.2.1, Ti g2.2.2]), (16, .box [Ti f1.1, Ti f1.2.1, Ti f1.2.2])]⟩) ?_ ?_
   ·refine XR 1 ?_
    refine XC (s_spec_cyReduce hy8) cf_spec_cyReduce rfl rfl rfl ?_
    exact XE
   obtain ⟨y9, hy9, h⟩ := of_bind h
   refine V_sreg (mb 49 2892) [72, 48, 24, 16] (s1 := ⟨.bot :: .bot :: .pt 16 0 :: .pt 24 0 :: .bot :: .bot :: .pt 48 0 :: .bot :: Bo y8.2.2 :: .pt 72 0 :: .bot :: Bo y9.2.2 :: bt 37 [], [(72, .box [Ti y9.1.1, Ti y9.1.2.1, Ti y9.1.2.2]), (48, .box [Ti y8.1.1, Ti y8.1.2.1, Ti y8.1.2.2]), (24, .box [Ti g2.1, Ti g2.2.1, Ti g2.2.2]), (16, .box [Ti f1.1, Ti f1.2.1, Ti f1.2.2])]⟩) ?_ ?_
   ·refine XR 1 ?_
    refine XC (s_spec_cyReduce hy9) cf_spec_cyReduce rfl rfl rfl ?_
    exact XE
   refine V_seq ?_
   refine V_sreg (mb 49 137438954060) [72, 48, 24, 16] (s1 := ⟨.bot :: .bot :: .pt 16 0 :: .pt 24 0 :: .bot :: .bot :: .pt 48 0 :: .bot :: .bot :: .pt 72 0 :: bt 27 (Bo (bif (!y8.2.2) then true else (!y9.2.2)) :: bt 11 []), [(72, .box [Ti y9.1.1, Ti y9.1.2.1, Ti y9.1.2.2]), (48, .box [Ti y8.1.1, Ti y8.1.2.1, Ti y8.1.2.2]), (24, .box [Ti g2.1, Ti g2.2.1, Ti g2.2.2]), (16, .box [Ti f1.1, Ti f1.2.1, Ti f1.2.2])]⟩) ?_ ?_
   ·refine XR 3 ?_
    refine XL_split (!y8.2.2) (fun hc10 => ?_) (fun hc10 => ?_)
    ·refine XL_skipF _ rfl rfl (by kernel_rfl) hc10 rfl ?_
     refine XL_skipF _ rfl rfl (by kernel_rfl) hc10 rfl ?_
     refine XL_cons rfl (X_of_Y0 rfl (Y0_pick1 (b := !y8.2.2) (p := true) (q := !y9.2.2) rfl (by kernel_rfl) hc10 (by kernel_rfl))) ?_
     exact XE
    ·refine XL_takeC _ rfl rfl (by kernel_rfl) hc10 (X_of_Y0 rfl (E_move (Bo y9.2.2) rfl (by kernel_rfl))) ?_
     refine XL_takeC _ rfl rfl (by kernel_rfl) hc10 (X_of_Y0 rfl (Y0_not (b := y9.2.2) rfl (by kernel_rfl))) ?_
     refine XL_cons rfl (X_of_Y0 rfl (Y0_pick0 (b := !y8.2.2) (p := true) (q := !y9.2.2) rfl (by kernel_rfl) hc10 (by kernel_rfl))) ?_
     exact XE
   refine V_cond rfl (fun hc11 => ?_) (fun hc11 => ?_)
   ·have h := of_true h hc11
    refine V_e (mb 49 48) [] (s1 := ⟨bt 4 (Bo false :: Bo false :: bt 43 []), []⟩) ?_
    refine V_ret ?_
    obtain rfl := some_inj h
    show Post _ _ _ _ _
    exact ⟨.inr rfl, rfl, rfl, rfl⟩
   ·have h := of_false h hc11
    refine V_skip ?_
    show V _ _ _ _
    obtain ⟨y12, hy12, h⟩ := of_bind h
    obtain ⟨y13, hy13, h⟩ := of_bind h
    obtain ⟨b17, hb17, h⟩ := of_bind h
    refine V_sdreg [0, 1, 0, 7, 15, 31, 63, 127, 63, 511, 1023, 2047, 4095] 13 (cdm 13 [32, 33, 10, 21, 85, 341, 132437, 136533, 42325, 87381, 349525, 1398101, 5592405]) (mb 49 48) [] (s1 := ⟨bt 4 (Bo b17 :: Bo true :: bt 43 []), []⟩) (by kernel_rfl) (by kernel_rfl) ?_ ?_
    ·refine DR 1 ?_
     refine DC 1 (s_spec_foDisc hy12) cf_spec_foDisc rfl rfl rfl rfl 39 rfl ?_
     refine DR 1 ?_
     refine DC 3 (s_spec_foDisc hy13) cf_spec_foDisc rfl rfl rfl rfl 41 rfl ?_
     refine DR 2 ?_
     refine DL_split (eqI y12 y13) (fun hc14 => ?_) (fun hc14 => ?_)
     ·have hb17 := of_true hb17 hc14
      obtain ⟨y15, hy15, hb17⟩ := of_bind hb17
      obtain ⟨y16, hy16, hb17⟩ := of_bind hb17
      have hb17 := some_inj hb17
      refine DE_0 6 (.ag [Ti y8.1.1, Ti y8.1.2.1, Ti y8.1.2.2]) (by kernel_rfl) rfl rfl rfl (gsat_C (eqI y12 y13) rfl rfl (by kernel_rfl) hc14) (by kernel_rfl) (E_loadn (cs := [Ti y8.1.1, Ti y8.1.2.1, Ti y8.1.2.2]) [Ti y8.1.1, Ti y8.1.2.1, Ti y8.1.2.2] wd45 rfl (by kernel_rfl) (Nat.le_of_ble_eq_true rfl) (by kernel_rfl)) 44 rfl ?_
      refine DE_1 7 (by kernel_rfl) rfl rfl rfl (gsat_C (eqI y12 y13) rfl rfl (by kernel_rfl) hc14) (Y1_call (s_spec_cyCycle hy15) cf_spec_cyCycle rfl (by kernel_rfl)) rfl rfl rfl 45 rfl ?_
      refine DE_0 8 (.ag [Ti y9.1.1, Ti y9.1.2.1, Ti y9.1.2.2]) (by kernel_rfl) rfl rfl rfl (gsat_C (eqI y12 y13) rfl rfl (by kernel_rfl) hc14) (by kernel_rfl) (E_loadn (cs := [Ti y9.1.1, Ti y9.1.2.1, Ti y9.1.2.2]) [Ti y9.1.1, Ti y9.1.2.1, Ti y9.1.2.2] wd45 rfl (by kernel_rfl) (Nat.le_of_ble_eq_true rfl) (by kernel_rfl)) 46 rfl ?_
      refine DE_1 9 (by kernel_rfl) rfl rfl rfl (gsat_C (eqI y12 y13) rfl rfl (by kernel_rfl) hc14) (Y1_callS (s_spec_cyHas hy16) cf_spec_cyHas rfl (by kernel_rfl) rfl rfl) rfl rfl rfl 47 rfl ?_
      refine DE_0 10 (Bo (b17)) (by kernel_rfl) rfl rfl rfl (gsat_none rfl) (by kernel_rfl) (Y0_pickTe (b := eqI y12 y13) (p := y16) rfl (by kernel_rfl) hc14 (by kernel_rfl) hb17) 48 rfl ?_
      refine DA 2 ?_
      exact XE
     ·have hb17 := some_inj (of_false hb17 hc14)
      refine DE_t 6 (by kernel_rfl) rfl rfl rfl (gun_T (eqI y12 y13) rfl rfl (by kernel_rfl) hc14) 44 rfl ?_
      refine DE_t 7 (by kernel_rfl) rfl rfl rfl (gun_T (eqI y12 y13) rfl rfl (by kernel_rfl) hc14) 45 rfl ?_
      refine DE_t 8 (by kernel_rfl) rfl rfl rfl (gun_T (eqI y12 y13) rfl rfl (by kernel_rfl) hc14) 46 rfl ?_
      refine DE_t 9 (by kernel_rfl) rfl rfl rfl (gun_T (eqI y12 y13) rfl rfl (by kernel_rfl) hc14) 47 rfl ?_
      refine DE_0 10 (Bo (b17)) (by kernel_rfl) rfl rfl rfl (gsat_none rfl) (by kernel_rfl) (Y0_pickFe (b := eqI y12 y13) (p := false) rfl (by kernel_rfl) hc14 (by kernel_rfl) hb17) 48 rfl ?_
      refine DA 2 ?_
      exact XE
    refine V_ret ?_
    obtain rfl := some_inj h
    show Post _ _ _ _ _
    exact ⟨.inr rfl, rfl, rfl, rfl⟩
theorem cf_spec_foDet : ∀ args w, (callFunc 221 args).run Try.prog w = .ok (.enter 221 args) w := run_callFunc Try.func221 (by kernel_rfl) (by kernel_rfl)
theorem s_spec_foDet {vm1 : (Int × Int × Int × Int)} {r : Int} (h : r_spec_foDet vm1 = some r) : CallS Try.prog 221 [.ag [Ti vm1.1, Ti vm1.2.1, Ti vm1.2.2.1, Ti vm1.2.2.2]] (I r) [] := by
  refine CallS_of_text (rs := [.t 2]) (vs := [.tmp 2]) Try.func221 rfl rfl (.cons rfl FitsL.nil) (by decide) 14 rfl ?_
  unfold r_spec_foDet at h
  show V _ _ ⟨.ag [Ti vm1.1, Ti vm1.2.1, Ti vm1.2.2.1, Ti vm1.2.2.2] :: bt 13 [], []⟩ _
  refine V_e (mb 14 2) [8] (s1 := ⟨.bot :: .pt 8 0 :: bt 12 [], [(8, .box [Ti vm1.1, Ti vm1.2.1, Ti vm1.2.2.1, Ti vm1.2.2.2])]⟩) ?_
  obtain ⟨t2, ht2, h⟩ := of_sI h
  refine V_sreg (mb 14 4) [] (s1 := ⟨.bot :: .bot :: I t2 :: bt 11 [], []⟩) ?_ ?_
  ·refine XR 12 ?_
   refine XL_nil ?_
   subst ht2
   kernel_rfl
  refine V_ret ?_
  obtain rfl := some_inj h
  show Post _ _ _ _ _
  exact ⟨.inr rfl, rfl, rfl, rfl⟩
theorem cf_spec_foInverse : ∀ args w, (callFunc 193 args).run Try.prog w = .ok (.enter 193 args) w := run_callFunc Try.func193 (by kernel_rfl) (by kernel_rfl)
theorem s_spec_foInverse {vm1 : (Int × Int × Int × Int)} {r : (Int × Int × Int × Int)} (h : r_spec_foInverse vm1 = some r) : CallS Try.prog 193 [.ag [Ti vm1.1, Ti vm1.2.1, Ti vm1.2.2.1, Ti vm1.2.2.2]] (.ag [Ti r.1, Ti r.2.1, Ti r.2.2.1, Ti r.2.2.2]) [] := by
  refine CallS_of_text (rs := [.w 2 4]) (vs := [.cell 2 110]) Try.func193 rfl rfl (.cons ⟨rfl, wd110⟩ FitsL.nil) (by decide) 25 rfl ?_
  unfold r_spec_foInverse at h
  show V _ _ ⟨.ag [Ti vm1.1, Ti vm1.2.1, Ti vm1.2.2.1, Ti vm1.2.2.2] :: bt 24 [], []⟩ _
  refine V_e (mb 25 6) [16, 8] (s1 := ⟨.bot :: .pt 8 0 :: .pt 16 0 :: bt 22 [], [(16, .box [Ti 0, Ti 0, Ti 0, Ti 0]), (8, .box [Ti vm1.1, Ti vm1.2.1, Ti vm1.2.2.1, Ti vm1.2.2.2])]⟩) ?_
  obtain ⟨y2, hy2, h⟩ := of_bind h
  refine V_sreg (mb 25 14) [16, 8] (s1 := ⟨.bot :: .pt 8 0 :: .pt 16 0 :: I y2 :: bt 21 [], [(16, .box [Ti 0, Ti 0, Ti 0, Ti 0]), (8, .box [Ti vm1.1, Ti vm1.2.1, Ti vm1.2.2.1, Ti vm1.2.2.2])]⟩) ?_ ?_
  ·refine XR 1 ?_
   refine XC (s_spec_foDet hy2) cf_spec_foDet rfl rfl rfl ?_
   exact XE
  obtain ⟨f3, hf3, h⟩ := of_sI h
  obtain ⟨f4, hf4, h⟩ := of_sI h
  obtain ⟨f5, hf5, h⟩ := of_sI h
  obtain ⟨f6, hf6, h⟩ := of_sI h
  refine V_sreg (mb 25 4) [16] (s1 := ⟨.bot :: .bot :: .pt 16 0 :: bt 22 [], [(16, .box [Ti f3, Ti f4, Ti f5, Ti f6])]⟩) ?_ ?_
  ·refine XR 18 ?_
   refine L0 rfl rfl (Y0_build (cs := [Ti (w64 (y2 * vm1.2.2.2)), Ti (w64 ((w64 (0 - y2)) * vm1.2.1)), Ti (w64 ((w64 (0 - y2)) * vm1.2.2.1)), Ti (w64 (y2 * vm1.1))]) pl110 bt110 rfl rfl (by kernel_rfl)) ?_
   refine XR 1 ?_
   refine XL_nil ?_
   subst hf3 hf4 hf5 hf6
   kernel_rfl
  refine V_ret ?_
  obtain rfl := some_inj h
  show Post _ _ _ _ _
  exact ⟨.inr rfl, rfl, rfl, rfl⟩
theorem cf_spec_CycleMatrix : ∀ args w, (callFunc 130 args).run Try.prog w = .ok (.enter 130 args) w := run_callFunc Try.func130 (by kernel_rfl) (by kernel_rfl)
theorem s_spec_CycleMatrix {f1 : (Int × Int × Int)} {g2 : (Int × Int × Int)} {r : (((Int × Int × Int × Int)) × Bool)} (h : r_spec_CycleMatrix f1 g2 = some r) : CallS Try.prog 130 [.ag [Ti f1.1, Ti f1.2.1, Ti f1.2.2], .ag [Ti g2.1, Ti g2.2.1, Ti g2.2.2]] (.tc (.ag [Ti r.1.1, Ti r.1.2.1, Ti r.1.2.2.1, Ti r.1.2.2.2]) (.tc (Bo r.2) .tn)) [] := by
  refine CallS_of_text (rs := [.w 4 4, .t 5]) (vs := [.cell 4 110, .tmp 5]) Try.func130 rfl rfl (.cons ⟨rfl, wd110⟩ (.cons rfl FitsL.nil)) (by decide) 79 rfl ?_
  unfold r_spec_CycleMatrix at h
  show V _ _ ⟨.ag [Ti f1.1, Ti f1.2.1, Ti f1.2.2] :: .ag [Ti g2.1, Ti g2.2.1, Ti g2.2.2] :: bt 77 [], []⟩ _
  refine V_e (mb 79 28) [32, 24, 16] (s1 := ⟨.bot :: .bot :: .pt 16 0 :: .pt 24 0 :: .pt 32 0 :: bt 74 [], [(32, .box [Ti 0, Ti 0, Ti 0, Ti 0]), (24, .box [Ti g2.1, Ti g2.2.1, Ti g2.2.2]), (16, .box [Ti f1.1, Ti f1.2.1, Ti f1.2.2])]⟩) ?_
  refine V_seq ?_
  obtain ⟨y3, hy3, h⟩ := of_bind h
  obtain ⟨b6, hb6, h⟩ := of_bind h
  obtain ⟨b10, hb10, h⟩ := of_bind h
  refine V_sdreg [0, 1, 3, 7, 15, 31, 63, 127, 255, 511, 1023, 511, 4095, 8191, 16383] 15 (cdm 15 [0, 1, 5, 21, 85, 341, 1365, 5461, 21845, 8475989, 8738133, 2708821, 5592405, 22369621, 89478485]) (mb 79 134217756) [32, 24, 16] (s1 := ⟨.bot :: .bot :: .pt 16 0 :: .pt 24 0 :: .pt 32 0 :: bt 22 (Bo b10 :: bt 51 []), [(32, .box [Ti 0, Ti 0, Ti 0, Ti 0]), (24, .box [Ti g2.1, Ti g2.2.1, Ti g2.2.2]), (16, .box [Ti f1.1, Ti f1.2.1, Ti f1.2.2])]⟩) (by kernel_rfl) (by kernel_rfl) ?_ ?_
  ·refine DR 1 ?_
   refine DC 1 (s_spec_cyGood hy3) cf_spec_cyGood rfl rfl rfl rfl 14 rfl ?_
   refine DR 2 ?_
   refine DL_split (!y3) (fun hc4 => ?_) (fun hc4 => ?_)
   ·have hb6 := some_inj (of_true hb6 hc4)
    refine DE_t 4 (by kernel_rfl) rfl rfl rfl (gun_F (!y3) rfl rfl (by kernel_rfl) hc4) 17 rfl ?_
    refine DE_t 5 (by kernel_rfl) rfl rfl rfl (gun_F (!y3) rfl rfl (by kernel_rfl) hc4) 18 rfl ?_
    refine DE_t 6 (by kernel_rfl) rfl rfl rfl (gun_F (!y3) rfl rfl (by kernel_rfl) hc4) 19 rfl ?_
    refine DE_0 7 (Bo (b6)) (by kernel_rfl) rfl rfl rfl (gsat_none rfl) (by kernel_rfl) (Y0_pickTe (b := !y3) (p := true) rfl (by kernel_rfl) hc4 (by kernel_rfl) hb6) 20 rfl ?_
    refine DR 1 ?_
    refine DL_split b6 (fun hc7 => ?_) (fun hc7 => ?_)
    ·have hb10 := some_inj (of_true hb10 hc7)
     refine DE_t 9 (by kernel_rfl) rfl rfl rfl (gun_F (b6) rfl rfl (by kernel_rfl) hc7) 22 rfl ?_
     refine DE_t 10 (by kernel_rfl) rfl rfl rfl (gun_F (b6) rfl rfl (by kernel_rfl) hc7) 23 rfl ?_
     refine DE_t 11 (by kernel_rfl) rfl rfl rfl (gun_F (b6) rfl rfl (by kernel_rfl) hc7) 24 rfl ?_
     refine DE_t 12 (by kernel_rfl) rfl rfl rfl (gun_F (b6) rfl rfl (by kernel_rfl) hc7) 25 rfl ?_
     refine DE_t 13 (by kernel_rfl) rfl rfl rfl (gun_F (b6) rfl rfl (by kernel_rfl) hc7) 26 rfl ?_
     refine DE_0 14 (Bo (b10)) (by kernel_rfl) rfl rfl rfl (gsat_none rfl) (by kernel_rfl) (Y0_pickTe (b := b6) (p := true) rfl (by kernel_rfl) hc7 (by kernel_rfl) hb10) 27 rfl ?_
     refine DA 0 ?_
     exact XE
    ·have hb10 := of_false hb10 hc7
     obtain ⟨y8, hy8, hb10⟩ := of_bind hb10
     obtain ⟨y9, hy9, hb10⟩ := of_bind hb10
     have hb10 := some_inj hb10
     refine DE_0 9 (.ag [Ti f1.1, Ti f1.2.1, Ti f1.2.2]) (by kernel_rfl) rfl rfl rfl (gsat_C (b6) rfl rfl (by kernel_rfl) hc7) (by kernel_rfl) (E_loadn (cs := [Ti f1.1, Ti f1.2.1, Ti f1.2.2]) [Ti f1.1, Ti f1.2.1, Ti f1.2.2] wd45 rfl (by kernel_rfl) (Nat.le_of_ble_eq_true rfl) (by kernel_rfl)) 22 rfl ?_
     refine DE_1 10 (by kernel_rfl) rfl rfl rfl (gsat_C (b6) rfl rfl (by kernel_rfl) hc7) (Y1_call (s_spec_foDisc hy8) cf_spec_foDisc rfl (by kernel_rfl)) rfl rfl rfl 23 rfl ?_
     refine DE_0 11 (.ag [Ti g2.1, Ti g2.2.1, Ti g2.2.2]) (by kernel_rfl) rfl rfl rfl (gsat_C (b6) rfl rfl (by kernel_rfl) hc7) (by kernel_rfl) (E_loadn (cs := [Ti g2.1, Ti g2.2.1, Ti g2.2.2]) [Ti g2.1, Ti g2.2.1, Ti g2.2.2] wd45 rfl (by kernel_rfl) (Nat.le_of_ble_eq_true rfl) (by kernel_rfl)) 24 rfl ?_
     refine DE_1 12 (by kernel_rfl) rfl rfl rfl (gsat_C (b6) rfl rfl (by kernel_rfl) hc7) (Y1_call (s_spec_foDisc hy9) cf_spec_foDisc rfl (by kernel_rfl)) rfl rfl rfl 25 rfl ?_
     refine DE_0 13 (Bo (!eqI y8 y9)) (by kernel_rfl) rfl rfl rfl (gsat_C (b6) rfl rfl (by kernel_rfl) hc7) (by kernel_rfl) (Y0_new (k := .i64) (a := y8) (b := y9) rfl (by kernel_rfl) (by kernel_rfl)) 26 rfl ?_
     refine DE_0 14 (Bo (b10)) (by kernel_rfl) rfl rfl rfl (gsat_none rfl) (by kernel_rfl) (Y0_pickFe (b := b6) (p := !eqI y8 y9) rfl (by kernel_rfl) hc7 (by kernel_rfl) hb10) 27 rfl ?_
     refine DA 0 ?_
     exact XE
   ·have hb6 := of_false hb6 hc4
    obtain ⟨y5, hy5, hb6⟩ := of_bind hb6
    have hb6 := some_inj hb6
    refine DE_0 4 (.ag [Ti g2.1, Ti g2.2.1, Ti g2.2.2]) (by kernel_rfl) rfl rfl rfl (gsat_C (!y3) rfl rfl (by kernel_rfl) hc4) (by kernel_rfl) (E_loadn (cs := [Ti g2.1, Ti g2.2.1, Ti g2.2.2]) [Ti g2.1, Ti g2.2.1, Ti g2.2.2] wd45 rfl (by kernel_rfl) (Nat.le_of_ble_eq_true rfl) (by kernel_rfl)) 17 rfl ?_
    refine DE_1 5 (by kernel_rfl) rfl rfl rfl (gsat_C (!y3) rfl rfl (by kernel_rfl) hc4) (Y1_call (s_spec_cyGood hy5) cf_spec_cyGood rfl (by kernel_rfl)) rfl rfl rfl 18 rfl ?_
    refine DE_0 6 (Bo (!y5)) (by kernel_rfl) rfl rfl rfl (gsat_C (!y3) rfl rfl (by kernel_rfl) hc4) (by kernel_rfl) (Y0_not (b := y5) rfl (by kernel_rfl)) 19 rfl ?_
    refine DE_0 7 (Bo (b6)) (by kernel_rfl) rfl rfl rfl (gsat_none rfl) (by kernel_rfl) (Y0_pickFe (b := !y3) (p := !y5) rfl (by kernel_rfl) hc4 (by kernel_rfl) hb6) 20 rfl ?_
    refine DR 1 ?_
    refine DL_split b6 (fun hc7 => ?_) (fun hc7 => ?_)
    ·have hb10 := some_inj (of_true hb10 hc7)
     refine DE_t 9 (by kernel_rfl) rfl rfl rfl (gun_F (b6) rfl rfl (by kernel_rfl) hc7) 22 rfl ?_
     refine DE_t 10 (by kernel_rfl) rfl rfl rfl (gun_F (b6) rfl rfl (by kernel_rfl) hc7) 23 rfl ?_
     refine DE_t 11 (by kernel_rfl) rfl rfl rfl (gun_F (b6) rfl rfl (by kernel_rfl) hc7) 24 rfl ?_
     refine DE_t 12 (by kernel_rfl) rfl rfl rfl (gun_F (b6) rfl rfl (by kernel_rfl) hc7) 25 rfl ?_
     refine DE_t 13 (by kernel_rfl) rfl rfl rfl (gun_F (b6) rfl rfl (by kernel_rfl) hc7) 26 rfl ?_
     refine DE_0 14 (Bo (b10)) (by kernel_rfl) rfl rfl rfl (gsat_none rfl) (by kernel_rfl) (Y0_pickTe (b := b6) (p := true) rfl (by kernel_rfl) hc7 (by kernel_rfl) hb10) 27 rfl ?_
     refine DA 0 ?_
     exact XE
    ·have hb10 := of_false hb10 hc7
     obtain ⟨y8, hy8, hb10⟩ := of_bind hb10
     obtain ⟨y9, hy9, hb10⟩ := of_bind hb10
     have hb10 := some_inj hb10
     refine DE_0 9 (.ag [Ti f1.1, Ti f1.2.1, Ti f1.2.2]) (by kernel_rfl) rfl rfl rfl (gsat_C (b6) rfl rfl (by kernel_rfl) hc7) (by kernel_rfl) (E_loadn (cs := [Ti f1.1, Ti f1.2.1, Ti f1.2.2]) [Ti f1.1, Ti f1.2.1, Ti f1.2.2] wd45 rfl (by kernel_rfl) (Nat.le_of_ble_eq_true rfl) (by kernel_rfl)) 22 rfl ?_
     refine DE_1 10 (by kernel_rfl) rfl rfl rfl (gsat_C (b6) rfl rfl (by kernel_rfl) hc7) (Y1_call (s_spec_foDisc hy8) cf_spec_foDisc rfl (by kernel_rfl)) rfl rfl rfl 23 rfl ?_
     refine DE_0 11 (.ag [Ti g2.1, Ti g2.2.1, Ti g2.2.2]) (by kernel_rfl) rfl rfl rfl (gsat_C (b6) rfl rfl (by kernel_rfl) hc7) (by kernel_rfl) (E_loadn (cs := [Ti g2.1, Ti g2.2.1, Ti g2.2.2]) [Ti g2.1, Ti g2.2.1, Ti g2.2.2] wd45 rfl (by kernel_rfl) (Nat.le_of_ble_eq_true rfl) (by kernel_rfl)) 24 rfl ?_
     refine DE_1 12 (by kernel_rfl) rfl rfl rfl (gsat_C (b6) rfl rfl (by kernel_rfl) hc7) (Y1_call (s_spec_foDisc hy9) cf_spec_foDisc rfl (by kernel_rfl)) rfl rfl rfl 25 rfl ?_
     refine DE_0 13 (Bo (!eqI y8 y9)) (by kernel_rfl) rfl rfl rfl (gsat_C (b6) rfl rfl (by kernel_rfl) hc7) (by kernel_rfl) (Y0_new (k := .i64) (a := y8) (b := y9) rfl (by kernel_rfl) (by kernel_rfl)) 26 rfl ?_
     refine DE_0 14 (Bo (b10)) (by kernel_rfl) rfl rfl rfl (gsat_none rfl) (by kernel_rfl) (Y0_pickFe (b := b6) (p := !eqI y8 y9) rfl (by kernel_rfl) hc7 (by kernel_rfl) hb10) 27 rfl ?_
     refine DA 0 ?_
     exact XE
  refine V_cond rfl (fun hc11 => ?_) (fun hc11 => ?_)
  ·have h := of_true h hc11
   refine V_sreg (mb 79 48) [32] (s1 := ⟨bt 4 (.pt 32 0 :: Bo false :: bt 73 []), [(32, .box [Ti 0, Ti 0, Ti 0, Ti 0])]⟩) ?_ ?_
   ·refine L0 rfl rfl (Y0_build (cs := [Ti 0, Ti 0, Ti 0, Ti 0]) pl110 bt110 rfl rfl (by kernel_rfl)) ?_
    exact XE
   refine V_ret ?_
   obtain rfl := some_inj h
   show Post _ _ _ _ _
   exact ⟨.inr rfl, rfl, rfl, rfl⟩
  ·have h := of_false h hc11
   refine V_skip ?_
   show V _ _ _ _
   obtain ⟨y12, hy12, h⟩ := of_bind h
   refine V_sreg (mb 79 472) [56, 48, 32, 24] (s1 := ⟨bt 3 (.pt 24 0 :: .pt 32 0 :: .bot :: .pt 48 0 :: .pt 56 0 :: Bo y12.2.2 :: bt 70 []), [(56, .box [Ti y12.2.1.1, Ti y12.2.1.2.1, Ti y12.2.1.2.2.1, Ti y12.2.1.2.2.2]), (48, .box [Ti y12.1.1, Ti y12.1.2.1, Ti y12.1.2.2]), (32, .box [Ti 0, Ti 0, Ti 0, Ti 0]), (24, .box [Ti g2.1, Ti g2.2.1, Ti g2.2.2])]⟩) ?_ ?_
   ·refine XR 1 ?_
    refine XC (s_spec_cyReduce hy12) cf_spec_cyReduce rfl rfl rfl ?_
    exact XE
   obtain ⟨y13, hy13, h⟩ := of_bind h
   refine V_sreg (mb 79 4048) [80, 72, 56, 48, 32] (s1 := ⟨bt 4 (.pt 32 0 :: .bot :: .pt 48 0 :: .pt 56 0 :: Bo y12.2.2 :: .pt 72 0 :: .pt 80 0 :: Bo y13.2.2 :: bt 67 []), [(80, .box [Ti y13.2.1.1, Ti y13.2.1.2.1, Ti y13.2.1.2.2.1, Ti y13.2.1.2.2.2]), (72, .box [Ti y13.1.1, Ti y13.1.2.1, Ti y13.1.2.2]), (56, .box [Ti y12.2.1.1, Ti y12.2.1.2.1, Ti y12.2.1.2.2.1, Ti y12.2.1.2.2.2]), (48, .box [Ti y12.1.1, Ti y12.1.2.1, Ti y12.1.2.2]), (32, .box [Ti 0, Ti 0, Ti 0, Ti 0])]⟩) ?_ ?_
   ·refine XR 1 ?_
    refine XC (s_spec_cyReduce hy13) cf_spec_cyReduce rfl rfl rfl ?_
    exact XE
   refine V_seq ?_
   obtain ⟨b18, hb18, h⟩ := of_bind h
   refine V_sdreg [0, 1, 3, 7, 15, 31, 63, 127, 255, 127, 1023, 2047, 4095] 13 (cdm 13 [0, 1, 5, 21, 85, 341, 1365, 529749, 546133, 169301, 349525, 1398101, 5592405]) (mb 79 9007199254742736) [80, 72, 56, 48, 32] (s1 := ⟨bt 4 (.pt 32 0 :: .bot :: .pt 48 0 :: .pt 56 0 :: .bot :: .pt 72 0 :: .pt 80 0 :: bt 42 (Bo b18 :: bt 25 [])), [(80, .box [Ti y13.2.1.1, Ti y13.2.1.2.1, Ti y13.2.1.2.2.1, Ti y13.2.1.2.2.2]), (72, .box [Ti y13.1.1, Ti y13.1.2.1, Ti y13.1.2.2]), (56, .box [Ti y12.2.1.1, Ti y12.2.1.2.1, Ti y12.2.1.2.2.1, Ti y12.2.1.2.2.2]), (48, .box [Ti y12.1.1, Ti y12.1.2.1, Ti y12.1.2.2]), (32, .box [Ti 0, Ti 0, Ti 0, Ti 0])]⟩) (by kernel_rfl) (by kernel_rfl) ?_ ?_
   ·refine DR 3 ?_
    refine DL_split (!y12.2.2) (fun hc14 => ?_) (fun hc14 => ?_)
    ·refine DE_t 3 (by kernel_rfl) rfl rfl rfl (gun_F (!y12.2.2) rfl rfl (by kernel_rfl) hc14) 44 rfl ?_
     refine DE_t 4 (by kernel_rfl) rfl rfl rfl (gun_F (!y12.2.2) rfl rfl (by kernel_rfl) hc14) 45 rfl ?_
     refine DE_0 5 (Bo (bif (!y12.2.2) then true else (!y13.2.2))) (by kernel_rfl) rfl rfl rfl (gsat_none rfl) (by kernel_rfl) (Y0_pick1 (b := !y12.2.2) (p := true) (q := !y13.2.2) rfl (by kernel_rfl) hc14 (by kernel_rfl)) 46 rfl ?_
     refine DR 1 ?_
     refine DL_split (bif (!y12.2.2) then true else (!y13.2.2)) (fun hc15 => ?_) (fun hc15 => ?_)
     ·have hb18 := some_inj (of_true hb18 hc15)
      refine DE_t 7 (by kernel_rfl) rfl rfl rfl (gun_F (bif (!y12.2.2) then true else (!y13.2.2)) rfl rfl (by kernel_rfl) hc15) 48 rfl ?_
      refine DE_t 8 (by kernel_rfl) rfl rfl rfl (gun_F (bif (!y12.2.2) then true else (!y13.2.2)) rfl rfl (by kernel_rfl) hc15) 49 rfl ?_
      refine DE_t 9 (by kernel_rfl) rfl rfl rfl (gun_F (bif (!y12.2.2) then true else (!y13.2.2)) rfl rfl (by kernel_rfl) hc15) 50 rfl ?_
      refine DE_t 10 (by kernel_rfl) rfl rfl rfl (gun_F (bif (!y12.2.2) then true else (!y13.2.2)) rfl rfl (by kernel_rfl) hc15) 51 rfl ?_
      refine DE_t 11 (by kernel_rfl) rfl rfl rfl (gun_F (bif (!y12.2.2) then true else (!y13.2.2)) rfl rfl (by kernel_rfl) hc15) 52 rfl ?_
      refine DE_0 12 (Bo (b18)) (by kernel_rfl) rfl rfl rfl (gsat_none rfl) (by kernel_rfl) (Y0_pickTe (b := bif (!y12.2.2) then true else (!y13.2.2)) (p := true) rfl (by kernel_rfl) hc15 (by kernel_rfl) hb18) 53 rfl ?_
      refine DA 0 ?_
      exact XE
     ·have hb18 := of_false hb18 hc15
      obtain ⟨y16, hy16, hb18⟩ := of_bind hb18
      obtain ⟨y17, hy17, hb18⟩ := of_bind hb18
      have hb18 := some_inj hb18
      refine DE_0 7 (.ag [Ti y12.1.1, Ti y12.1.2.1, Ti y12.1.2.2]) (by kernel_rfl) rfl rfl rfl (gsat_C (bif (!y12.2.2) then true else (!y13.2.2)) rfl rfl (by kernel_rfl) hc15) (by kernel_rfl) (E_loadn (cs := [Ti y12.1.1, Ti y12.1.2.1, Ti y12.1.2.2]) [Ti y12.1.1, Ti y12.1.2.1, Ti y12.1.2.2] wd45 rfl (by kernel_rfl) (Nat.le_of_ble_eq_true rfl) (by kernel_rfl)) 48 rfl ?_
      refine DE_1 8 (by kernel_rfl) rfl rfl rfl (gsat_C (bif (!y12.2.2) then true else (!y13.2.2)) rfl rfl (by kernel_rfl) hc15) (Y1_call (s_spec_cyCycle hy16) cf_spec_cyCycle rfl (by kernel_rfl)) rfl rfl rfl 49 rfl ?_
      refine DE_0 9 (.ag [Ti y13.1.1, Ti y13.1.2.1, Ti y13.1.2.2]) (by kernel_rfl) rfl rfl rfl (gsat_C (bif (!y12.2.2) then true else (!y13.2.2)) rfl rfl (by kernel_rfl) hc15) (by kernel_rfl) (E_loadn (cs := [Ti y13.1.1, Ti y13.1.2.1, Ti y13.1.2.2]) [Ti y13.1.1, Ti y13.1.2.1, Ti y13.1.2.2] wd45 rfl (by kernel_rfl) (Nat.le_of_ble_eq_true rfl) (by kernel_rfl)) 50 rfl ?_
      refine DE_1 10 (by kernel_rfl) rfl rfl rfl (gsat_C (bif (!y12.2.2) then true else (!y13.2.2)) rfl rfl (by kernel_rfl) hc15) (Y1_callS (s_spec_cyHas hy17) cf_spec_cyHas rfl (by kernel_rfl) rfl rfl) rfl rfl rfl 51 rfl ?_
      refine DE_0 11 (Bo (!y17)) (by kernel_rfl) rfl rfl rfl (gsat_C (bif (!y12.2.2) then true else (!y13.2.2)) rfl rfl (by kernel_rfl) hc15) (by kernel_rfl) (Y0_not (b := y17) rfl (by kernel_rfl)) 52 rfl ?_
      refine DE_0 12 (Bo (b18)) (by kernel_rfl) rfl rfl rfl (gsat_none rfl) (by kernel_rfl) (Y0_pickFe (b := bif (!y12.2.2) then true else (!y13.2.2)) (p := !y17) rfl (by kernel_rfl) hc15 (by kernel_rfl) hb18) 53 rfl ?_
      refine DA 0 ?_
      exact XE
    ·refine DE_0 3 (Bo y13.2.2) (by kernel_rfl) rfl rfl rfl (gsat_C (!y12.2.2) rfl rfl (by kernel_rfl) hc14) (by kernel_rfl) (E_move (Bo y13.2.2) rfl (by kernel_rfl)) 44 rfl ?_
     refine DE_0 4 (Bo (!y13.2.2)) (by kernel_rfl) rfl rfl rfl (gsat_C (!y12.2.2) rfl rfl (by kernel_rfl) hc14) (by kernel_rfl) (Y0_not (b := y13.2.2) rfl (by kernel_rfl)) 45 rfl ?_
     refine DE_0 5 (Bo (bif (!y12.2.2) then true else (!y13.2.2))) (by kernel_rfl) rfl rfl rfl (gsat_none rfl) (by kernel_rfl) (Y0_pick0 (b := !y12.2.2) (p := true) (q := !y13.2.2) rfl (by kernel_rfl) hc14 (by kernel_rfl)) 46 rfl ?_
     refine DR 1 ?_
     refine DL_split (bif (!y12.2.2) then true else (!y13.2.2)) (fun hc15 => ?_) (fun hc15 => ?_)
     ·have hb18 := some_inj (of_true hb18 hc15)
      refine DE_t 7 (by kernel_rfl) rfl rfl rfl (gun_F (bif (!y12.2.2) then true else (!y13.2.2)) rfl rfl (by kernel_rfl) hc15) 48 rfl ?_
      refine DE_t 8 (by kernel_rfl) rfl rfl rfl (gun_F (bif (!y12.2.2) then true else (!y13.2.2)) rfl rfl (by kernel_rfl) hc15) 49 rfl ?_
      refine DE_t 9 (by kernel_rfl) rfl rfl rfl (gun_F (bif (!y12.2.2) then true else (!y13.2.2)) rfl rfl (by kernel_rfl) hc15) 50 rfl ?_
      refine DE_t 10 (by kernel_rfl) rfl rfl rfl (gun_F (bif (!y12.2.2) then true else (!y13.2.2)) rfl rfl (by kernel_rfl) hc15) 51 rfl ?_
      refine DE_t 11 (by kernel_rfl) rfl rfl rfl (gun_F (bif (!y12.2.2) then true else (!y13.2.2)) rfl rfl (by kernel_rfl) hc15) 52 rfl ?_
      refine DE_0 12 (Bo (b18)) (by kernel_rfl) rfl rfl rfl (gsat_none rfl) (by kernel_rfl) (Y0_pickTe (b := bif (!y12.2.2) then true else (!y13.2.2)) (p := true) rfl (by kernel_rfl) hc15 (by kernel_rfl) hb18) 53 rfl ?_
      refine DA 0 ?_
      exact XE
     ·have hb18 := of_false hb18 hc15
      obtain ⟨y16, hy16, hb18⟩ := of_bind hb18
      obtain ⟨y17, hy17, hb18⟩ := of_bind hb18
      have hb18 := some_inj hb18
      refine DE_0 7 (.ag [Ti y12.1.1, Ti y12.1.2.1, Ti y12.1.2.2]) (by kernel_rfl) rfl rfl rfl (gsat_C (bif (!y12.2.2) then true else (!y13.2.2)) rfl rfl (by kernel_rfl) hc15) (by kernel_rfl) (E_loadn (cs := [Ti y12.1.1, Ti y12.1.2.1, Ti y12.1.2.2]) [Ti y12.1.1, Ti y12.1.2.1, Ti y12.1.2.2] wd45 rfl (by kernel_rfl) (Nat.le_of_ble_eq_true rfl) (by kernel_rfl)) 48 rfl ?_
      refine DE_1 8 (by kernel_rfl) rfl rfl rfl (gsat_C (bif (!y12.2.2) then true else (!y13.2.2)) rfl rfl (by kernel_rfl) hc15) (Y1_call (s_spec_cyCycle hy16) cf_spec_cyCycle rfl (by kernel_rfl)) rfl rfl rfl 49 rfl ?_
      refine DE_0 9 (.ag [Ti y13.1.1, Ti y13.1.2.1, Ti y13.1.2.2]) (by kernel_rfl) rfl rfl rfl (gsat_C (bif (!y12.2.2) then true else (!y13.2.2)) rfl rfl (by kernel_rfl) hc15) (by kernel_rfl) (E_loadn (cs := [Ti y13.1.1, Ti y13.1.2.1, Ti y13.1.2.2]) [Ti y13.1.1, Ti y13.1.2.1, Ti y13.1.2.2] wd45 rfl (by kernel_rfl) (Nat.le_of_ble_eq_true rfl) (by kernel_rfl)) 50 rfl ?_
      refine DE_1 10 (by kernel_rfl) rfl rfl rfl (gsat_C (bif (!y12.2.2) then true else (!y13.2.2)) rfl rfl (by kernel_rfl) hc15) (Y1_callS (s_spec_cyHas hy17) cf_spec_cyHas rfl (by kernel_rfl) rfl rfl) rfl rfl rfl 51 rfl ?_
      refine DE_0 11 (Bo (!y17)) (by kernel_rfl) rfl rfl rfl (gsat_C (bif (!y12.2.2) then true else (!y13.2.2)) rfl rfl (by kernel_rfl) hc15) (by kernel_rfl) (Y0_not (b := y17) rfl (by kernel_rfl)) 52 rfl ?_
      refine DE_0 12 (Bo (b18)) (by kernel_rfl) rfl rfl rfl (gsat_none rfl) (by kernel_rfl) (Y0_pickFe (b := bif (!y12.2.2) then true else (!y13.2.2)) (p := !y17) rfl (by kernel_rfl) hc15 (by kernel_rfl) hb18) 53 rfl ?_
      refine DA 0 ?_
      exact XE
   refine V_cond rfl (fun hc19 => ?_) (fun hc19 => ?_)
   ·have h := of_true h hc19
    refine V_sreg (mb 79 48) [32] (s1 := ⟨bt 4 (.pt 32 0 :: Bo false :: bt 73 []), [(32, .box [Ti 0, Ti 0, Ti 0, Ti 0])]⟩) ?_ ?_
    ·refine L0 rfl rfl (Y0_build (cs := [Ti 0, Ti 0, Ti 0, Ti 0]) pl110 bt110 rfl rfl (by kernel_rfl)) ?_
     exact XE
    refine V_ret ?_
    obtain rfl := some_inj h
    show Post _ _ _ _ _
    exact ⟨.inr rfl, rfl, rfl, rfl⟩
   ·have h := of_false h hc19
    refine V_skip ?_
    show V _ _ _ _
    refine V_seq ?_
    obtain ⟨qo28, hLo28, hko28⟩ := of_bind h
    refine V_toS (q := qo28) (S := fun o28 => ⟨bt 4 (.pt 32 0 :: .bot :: .bot :: .pt 56 0 :: .bot :: .bot :: .pt 80 0 :: bt 68 []), [(80, .box [Ti y13.2.1.1, Ti y13.2.1.2.1, Ti y13.2.1.2.2.1, Ti y13.2.1.2.2.2]), (56, .box [Ti o28.1, Ti o28.2.1, Ti o28.2.2.1, Ti o28.2.2.2]), (32, .box [Ti 0, Ti 0, Ti 0, Ti 0])]⟩) (mb 79 1168) [80, 56, 32] ?_ ?_
    ·refine V_block (V_loop (fun n s => ∃ (f20 : Int) (f21 : Int) (f22 : Int) (f23 : Int) (f24 : Int) (f25 : Int) (f26 : Int), s.keep (mb 79 1744) [80, 72, 56, 48, 32] = (⟨bt 4 (.pt 32 0 :: .bot :: .pt 48 0 :: .pt 56 0 :: .bot :: .pt 72 0 :: .pt 80 0 :: bt 68 []), [(80, .box [Ti y13.2.1.1, Ti y13.2.1.2.1, Ti y13.2.1.2.2.1, Ti y13.2.1.2.2.2]), (72, .box [Ti y13.1.1, Ti y13.1.2.1, Ti y13.1.2.2]), (56, .box [Ti f20, Ti f21, Ti f22, Ti f23]), (48, .box [Ti f24, Ti f25, Ti f26]), (32, .box [Ti 0, Ti 0, Ti 0, Ti 0])]⟩ : St) ∧ r_spec_CycleMatrix_L27 y13 n f20 f21 f22 f23 f24 f25 f26 = some qo28) FU ⟨_, _, _, _, _, _, _,  by rfl, hLo28⟩ ?_)
     clear hLo28
     rintro n s ⟨f20, f21, f22, f23, f24, f25, f26, hs, h⟩
     refine V_keep _ _ hs ?_
     clear hs
     cases n with
     | zero => cases h
     | succ n =>
      rw [r_spec_CycleMatrix_L27] at h
      refine V_seq ?_
      obtain ⟨t29, ht29, h⟩ := of_bind h
      have ht29 := some_inj ht29
      refine V_sreg (mb 79 144115188075857616) [80, 72, 56, 48, 32] (s1 := ⟨bt 4 (.pt 32 0 :: .bot :: .pt 48 0 :: .pt 56 0 :: .bot :: .pt 72 0 :: .pt 80 0 :: bt 46 (Bo t29 :: bt 21 [])), [(80, .box [Ti y13.2.1.1, Ti y13.2.1.2.1, Ti y13.2.1.2.2.1, Ti y13.2.1.2.2.2]), (72, .box [Ti y13.1.1, Ti y13.1.2.1, Ti y13.1.2.2]), (56, .box [Ti f20, Ti f21, Ti f22, Ti f23]), (48, .box [Ti f24, Ti f25, Ti f26]), (32, .box [Ti 0, Ti 0, Ti 0, Ti 0])]⟩) ?_ ?_
      ·refine XR 2 ?_
       refine L0 rfl rfl (Y0_neg3 (a0 := f24) (b0 := y13.1.1) (a1 := f25) (b1 := y13.1.2.1) (a2 := f26) (b2 := y13.1.2.2) neg45 rfl (by kernel_rfl) (by kernel_rfl)) ?_
       refine XL_nil ?_
       subst ht29
       kernel_rfl
      refine V_cond rfl (fun hc30 => ?_) (fun hc30 => ?_)
      ·have h := of_true h hc30
       refine V_skip ?_
       show V _ _ _ _
       refine V_block ?_
       obtain ⟨y31, hy31, h⟩ := of_bind h
       refine V_sreg (mb 79 5840) [96, 80, 72, 56, 48, 32] (s1 := ⟨bt 4 (.pt 32 0 :: .bot :: .pt 48 0 :: .pt 56 0 :: .bot :: .pt 72 0 :: .pt 80 0 :: .bot :: .pt 96 0 :: bt 66 []), [(96, .box [Ti y31.1, Ti y31.2.1, Ti y31.2.2.1, Ti y31.2.2.2]), (80, .box [Ti y13.2.1.1, Ti y13.2.1.2.1, Ti y13.2.1.2.2.1, Ti y13.2.1.2.2.2]), (72, .box [Ti y13.1.1, Ti y13.1.2.1, Ti y13.1.2.2]), (56, .box [Ti f20, Ti f21, Ti f22, Ti f23]), (48, .box [Ti f24, Ti f25, Ti f26]), (32, .box [Ti 0, Ti 0, Ti 0, Ti 0])]⟩) ?_ ?_
       ·refine XR 1 ?_
        refine XC (s_spec_cyMove hy31) cf_spec_cyMove rfl rfl rfl ?_
        exact XE
       obtain ⟨y32, hy32, h⟩ := of_bind h
       obtain ⟨y33, hy33, h⟩ := of_bind h
       refine V_sdreg [0, 0, 3, 0, 0, 31, 63, 127] 6 (cdm 6 [648, 642, 645, 554, 170, 341]) (mb 79 1744) [80, 72, 56, 48, 32] (s1 := ⟨bt 4 (.pt 32 0 :: .bot :: .pt 48 0 :: .pt 56 0 :: .bot :: .pt 72 0 :: .pt 80 0 :: bt 68 []), [(80, .box [Ti y13.2.1.1, Ti y13.2.1.2.1, Ti y13.2.1.2.2.1, Ti y13.2.1.2.2.2]), (72, .box [Ti y13.1.1, Ti y13.1.2.1, Ti y13.1.2.2]), (56, .box [Ti y33.1, Ti y33.2.1, Ti y33.2.2.1, Ti y33.2.2.2]), (48, .box [Ti y32.1, Ti y32.2.1, Ti y32.2.2]), (32, .box [Ti 0, Ti 0, Ti 0, Ti 0])]⟩) (by kernel_rfl) (by kernel_rfl) ?_ ?_
       ·refine DR 2 ?_
        refine DC 2 (s_spec_foAct hy32) cf_spec_foAct rfl rfl rfl rfl 62 rfl ?_
        refine DR 2 ?_
        refine DC 5 (s_spec_foMul hy33) cf_spec_foMul rfl rfl rfl rfl 65 rfl ?_
        refine DA 0 ?_
        exact XE
       obtain ⟨y34, hy34, h⟩ := of_bind h
       refine V_sreg (mb 79 295147905179352827600) [80, 72, 56, 48, 32] (s1 := ⟨bt 4 (.pt 32 0 :: .bot :: .pt 48 0 :: .pt 56 0 :: .bot :: .pt 72 0 :: .pt 80 0 :: bt 57 (Bo (!y34) :: bt 10 [])), [(80, .box [Ti y13.2.1.1, Ti y13.2.1.2.1, Ti y13.2.1.2.2.1, Ti y13.2.1.2.2.2]), (72, .box [Ti y13.1.1, Ti y13.1.2.1, Ti y13.1.2.2]), (56, .box [Ti y33.1, Ti y33.2.1, Ti y33.2.2.1, Ti y33.2.2.2]), (48, .box [Ti y32.1, Ti y32.2.1, Ti y32.2.2]), (32, .box [Ti 0, Ti 0, Ti 0, Ti 0])]⟩) ?_ ?_
       ·refine XR 1 ?_
        refine XC (s_spec_foMatrix hy34) cf_spec_foMatrix rfl rfl rfl ?_
        exact XE
       refine V_cond rfl (fun hc35 => ?_) (fun hc35 => ?_)
       ·have h := of_true h hc35
        refine V_sreg (mb 79 48) [32] (s1 := ⟨bt 4 (.pt 32 0 :: Bo false :: bt 73 []), [(32, .box [Ti 0, Ti 0, Ti 0, Ti 0])]⟩) ?_ ?_
        ·refine L0 rfl rfl (Y0_build (cs := [Ti 0, Ti 0, Ti 0, Ti 0]) pl110 bt110 rfl rfl (by kernel_rfl)) ?_
         exact XE
        refine V_ret ?_
        obtain rfl := some_inj h
        have h := hko28
        obtain rfl := some_inj h
        show Post _ _ _ _ _
        exact ⟨.inr rfl, rfl, rfl, rfl⟩
       ·have h := of_false h hc35
        refine V_skip ?_
        exact ⟨n, Nat.lt_succ_self n, _, _, _, _, _, _, _,  by rfl, h⟩
      ·have h := of_false h hc30
       refine V_exit ?_
       obtain rfl := some_inj h
       exact ⟨_, rfl, by rfl⟩
    rintro o28 rfl
    have h := hko28
    clear hko28
    show V _ _ _ _
    obtain ⟨y36, hy36, h⟩ := of_bind h
    obtain ⟨y37, hy37, h⟩ := of_bind h
    refine V_sdreg [0, 0, 2, 7, 15] 4 (cdm 4 [40, 2, 6, 21]) (mb 79 144) [56, 32] (s1 := ⟨bt 4 (.pt 32 0 :: .bot :: .bot :: .pt 56 0 :: bt 71 []), [(56, .box [Ti y37.1, Ti y37.2.1, Ti y37.2.2.1, Ti y37.2.2.2]), (32, .box [Ti 0, Ti 0, Ti 0, Ti 0])]⟩) (by kernel_rfl) (by kernel_rfl) ?_ ?_
    ·refine DR 2 ?_
     refine DC 2 (s_spec_foInverse hy36) cf_spec_foInverse rfl rfl rfl rfl 72 rfl ?_
     refine DC 3 (s_spec_foMul hy37) cf_spec_foMul rfl rfl rfl rfl 73 rfl ?_
     refine DA 0 ?_
     exact XE
    refine V_seq ?_
    obtain ⟨y38, hy38, h⟩ := of_bind h
    refine V_sreg (mb 79 75557863725914323419280) [56, 32] (s1 := ⟨bt 4 (.pt 32 0 :: .bot :: .bot :: .pt 56 0 :: bt 68 (Bo (!y38) :: .bot :: .bot :: [])), [(56, .box [Ti y37.1, Ti y37.2.1, Ti y37.2.2.1, Ti y37.2.2.2]), (32, .box [Ti 0, Ti 0, Ti 0, Ti 0])]⟩) ?_ ?_
    ·refine XR 1 ?_
     refine XC (s_spec_foMatrix hy38) cf_spec_foMatrix rfl rfl rfl ?_
     exact XE
    refine V_cond rfl (fun hc39 => ?_) (fun hc39 => ?_)
    ·have h := of_true h hc39
     refine V_sreg (mb 79 48) [32] (s1 := ⟨bt 4 (.pt 32 0 :: Bo false :: bt 73 []), [(32, .box [Ti 0, Ti 0, Ti 0, Ti 0])]⟩) ?_ ?_
     ·refine L0 rfl rfl (Y0_build (cs := [Ti 0, Ti 0, Ti 0, Ti 0]) pl110 bt110 rfl rfl (by kernel_rfl)) ?_
      exact XE
     refine V_ret ?_
     obtain rfl := some_inj h
     show Post _ _ _ _ _
     exact ⟨.inr rfl, rfl, rfl, rfl⟩
    ·have h := of_false h hc39
     refine V_skip ?_
     show V _ _ _ _
     refine V_e (mb 79 48) [32] (s1 := ⟨bt 4 (.pt 32 0 :: Bo true :: bt 73 []), [(32, .box [Ti y37.1, Ti y37.2.1, Ti y37.2.2.1, Ti y37.2.2.2])]⟩) ?_
     refine V_ret ?_
     obtain rfl := some_inj h
     show Post _ _ _ _ _
     exact ⟨.inr rfl, rfl, rfl, rfl⟩
theorem cf_spec_IndefinitePoints : ∀ args w, (callFunc 50 args).run Try.prog w = .ok (.enter 50 args) w := run_callFunc Try.func50 (by kernel_rfl) (by kernel_rfl)
theorem s_spec_IndefinitePoints {f1 : (Int × Int × Int)} {vn2 : Int} {r : ((List ((Int × Int))) × Bool)} (h : r_spec_IndefinitePoints f1 vn2 = some r) : CallS Try.prog 50 [.ag [Ti f1.1, Ti f1.2.1, Ti f1.2.2], I vn2] (.tc (.ow 0) (.tc (Bo r.2) .tn)) [(0, .arr 34 2 (r.1.map c34))] := by
  refine CallS_of_text (rs := [.t 4, .t 5]) (vs := [.tmp 4, .tmp 5]) Try.func50 rfl rfl (.cons rfl (.cons rfl FitsL.nil)) (by decide) 77 rfl ?_
  unfold r_spec_IndefinitePoints at h
  show V _ _ ⟨.ag [Ti f1.1, Ti f1.2.1, Ti f1.2.2] :: I vn2 :: bt 75 [], []⟩ _
  refine V_sreg (mb 77 6) [16] (s1 := ⟨.bot :: I vn2 :: .pt 16 0 :: bt 74 [], [(16, .box [Ti f1.1, Ti f1.2.1, Ti f1.2.2])]⟩) ?_ ?_
  ·refine XR 1 ?_
   refine L1 rfl rfl (Y1_nil (e := 34) 2 (by decide) (.inl rfl)) ?_
   exact XE
  refine V_seq ?_
  obtain ⟨y3, hy3, h⟩ := of_bind h
  obtain ⟨b7, hb7, h⟩ := of_bind h
  refine V_sreg (mb 77 67108870) [16] (s1 := ⟨.bot :: I vn2 :: .pt 16 0 :: bt 23 (Bo b7 :: bt 50 []), [(16, .box [Ti f1.1, Ti f1.2.1, Ti f1.2.2])]⟩) ?_ ?_
  ·refine XR 1 ?_
   refine XC (s_spec_unForm hy3) cf_spec_unForm rfl rfl rfl ?_
   refine XR 2 ?_
   refine XL_split (!y3) (fun hc4 => ?_) (fun hc4 => ?_)
   ·refine XL_skipF _ rfl rfl (by kernel_rfl) hc4 rfl ?_
    refine XL_skipF _ rfl rfl (by kernel_rfl) hc4 rfl ?_
    refine XL_cons rfl (X_of_Y0 rfl (Y0_pick1 (b := !y3) (p := true) (q := eqI vn2 0) rfl (by kernel_rfl) hc4 (by kernel_rfl))) ?_
    refine XR 1 ?_
    refine XL_split (bif (!y3) then true else (eqI vn2 0)) (fun hc5 => ?_) (fun hc5 => ?_)
    ·have hb7 := some_inj (of_true hb7 hc5)
     refine XL_skipF _ rfl rfl (by kernel_rfl) hc5 rfl ?_
     refine XL_skipF _ rfl rfl (by kernel_rfl) hc5 rfl ?_
     refine XL_skipF _ rfl rfl (by kernel_rfl) hc5 rfl ?_
     refine XL_cons rfl (X_of_Y0 rfl (Y0_pickTe (b := bif (!y3) then true else (eqI vn2 0)) (p := true) rfl (by kernel_rfl) hc5 (by kernel_rfl) hb7)) ?_
     exact XE
    ·have hb7 := of_false hb7 hc5
     obtain ⟨y6, hy6, hb7⟩ := of_bind hb7
     have hb7 := some_inj hb7
     refine XL_takeC _ rfl rfl (by kernel_rfl) hc5 (X_of_Y0 rfl (E_move (I vn2) rfl (by kernel_rfl))) ?_
     refine XL_takeC _ rfl rfl (by kernel_rfl) hc5 (X_of_Y1 rfl (Y1_call (s_spec_l1In hy6) cf_spec_l1In rfl (by kernel_rfl))) ?_
     refine XL_takeC _ rfl rfl (by kernel_rfl) hc5 (X_of_Y0 rfl (Y0_not (b := y6) rfl (by kernel_rfl))) ?_
     refine XL_cons rfl (X_of_Y0 rfl (Y0_pickFe (b := bif (!y3) then true else (eqI vn2 0)) (p := !y6) rfl (by kernel_rfl) hc5 (by kernel_rfl) hb7)) ?_
     exact XE
   ·refine XL_takeC _ rfl rfl (by kernel_rfl) hc4 (X_of_Y0 rfl (E_move (I vn2) rfl (by kernel_rfl))) ?_
    refine XL_takeC _ rfl rfl (by kernel_rfl) hc4 (X_of_Y0 rfl (Y0_eqw (k := .i64) (a := vn2) (b := 0) rfl (by kernel_rfl) (by kernel_rfl))) ?_
    refine XL_cons rfl (X_of_Y0 rfl (Y0_pick0 (b := !y3) (p := true) (q := eqI vn2 0) rfl (by kernel_rfl) hc4 (by kernel_rfl))) ?_
    refine XR 1 ?_
    refine XL_split (bif (!y3) then true else (eqI vn2 0)) (fun hc5 => ?_) (fun hc5 => ?_)
    ·have hb7 := some_inj (of_true hb7 hc5)
     refine XL_skipF _ rfl rfl (by kernel_rfl) hc5 rfl ?_
     refine XL_skipF _ rfl rfl (by kernel_rfl) hc5 rfl ?_
     refine XL_skipF _ rfl rfl (by kernel_rfl) hc5 rfl ?_
     refine XL_cons rfl (X_of_Y0 rfl (Y0_pickTe (b := bif (!y3) then true else (eqI vn2 0)) (p := true) rfl (by kernel_rfl) hc5 (by kernel_rfl) hb7)) ?_
     exact XE
    ·have hb7 := of_false hb7 hc5
     obtain ⟨y6, hy6, hb7⟩ := of_bind hb7
     have hb7 := some_inj hb7
     refine XL_takeC _ rfl rfl (by kernel_rfl) hc5 (X_of_Y0 rfl (E_move (I vn2) rfl (by kernel_rfl))) ?_
     refine XL_takeC _ rfl rfl (by kernel_rfl) hc5 (X_of_Y1 rfl (Y1_call (s_spec_l1In hy6) cf_spec_l1In rfl (by kernel_rfl))) ?_
     refine XL_takeC _ rfl rfl (by kernel_rfl) hc5 (X_of_Y0 rfl (Y0_not (b := y6) rfl (by kernel_rfl))) ?_
     refine XL_cons rfl (X_of_Y0 rfl (Y0_pickFe (b := bif (!y3) then true else (eqI vn2 0)) (p := !y6) rfl (by kernel_rfl) hc5 (by kernel_rfl) hb7)) ?_
     exact XE
  refine V_cond rfl (fun hc8 => ?_) (fun hc8 => ?_)
  ·have h := of_true h hc8
   refine V_sreg (mb 77 48) [32] (s1 := ⟨bt 4 (.ow 32 :: Bo false :: bt 71 []), [(32, .arr 34 2 ((([] : List ((Int × Int)))).map c34))]⟩) ?_ ?_
   ·refine L1 rfl rfl (Y1_nil (e := 34) 2 (by decide) (.inl rfl)) ?_
    exact XE
   refine V_ret ?_
   obtain rfl := some_inj h
   show Post _ _ _ _ _
   exact ⟨.inr rfl, rfl, rfl, rfl⟩
  ·have h := of_false h hc8
   refine V_skip ?_
   show V _ _ _ _
   obtain ⟨y9, hy9, h⟩ := of_bind h
   refine V_sreg (mb 77 70) [16] (s1 := ⟨.bot :: I vn2 :: .pt 16 0 :: bt 3 (I y9 :: bt 70 []), [(16, .box [Ti f1.1, Ti f1.2.1, Ti f1.2.2])]⟩) ?_ ?_
   ·refine XR 1 ?_
    refine XC (s_spec_foDisc hy9) cf_spec_foDisc rfl rfl rfl ?_
    exact XE
   refine V_sreg (mb 77 198) [56, 16] (s1 := ⟨.bot :: I vn2 :: .pt 16 0 :: bt 3 (I y9 :: .ow 56 :: bt 69 []), [(56, .arr 34 2 ((([] : List ((Int × Int)))).map c34)), (16, .box [Ti f1.1, Ti f1.2.1, Ti f1.2.2])]⟩) ?_ ?_
   ·refine L1 rfl rfl (Y1_nil (e := 34) 2 (by decide) (.inl rfl)) ?_
    exact XE
   refine V_seq ?_
   obtain ⟨y10, hy10, h⟩ := of_bind h
   obtain ⟨y11, hy11, h⟩ := of_bind h
   refine V_sreg (mb 77 30064771270) [256, 56, 16] (s1 := ⟨.bot :: I vn2 :: .pt 16 0 :: bt 3 (I y9 :: .ow 56 :: bt 24 (.ow 256 :: I ((y11.length : Int)) :: I 0 :: bt 42 [])), [(256, .arr 3 1 (y11.map c3)), (56, .arr 34 2 ((([] : List ((Int × Int)))).map c34)), (16, .box [Ti f1.1, Ti f1.2.1, Ti f1.2.2])]⟩) ?_ ?_
   ·refine XR 2 ?_
    refine XC (s_spec_l1Abs hy10) cf_spec_l1Abs rfl rfl rfl ?_
    refine XC (s_spec_roDisc hy11) cf_spec_roDisc rfl rfl rfl ?_
    refine L0 rfl rfl (Y0_lenM (c := c3) (xs := y11) Try.underlying41 rfl (by kernel_rfl)) ?_
    exact XE
   obtain ⟨qo15, hLo15, hko15⟩ := of_bind h
   refine V_toS (q := qo15) (S := fun o15 => ⟨bt 7 (.ow 56 :: bt 69 []), [(56, .arr 34 2 (o15.map c34))]⟩) (mb 77 128) [56] ?_ ?_
   ·refine V_block (V_loop (fun n s => ∃ (t12 : Int) (l13 : List ((Int × Int))), s.keep (mb 77 30064771270) [256, 56, 16] = (⟨.bot :: I vn2 :: .pt 16 0 :: bt 3 (I y9 :: .ow 56 :: bt 24 (.ow 256 :: I ((y11.length : Int)) :: I t12 :: bt 42 [])), [(256, .arr 3 1 (y11.map c3)), (56, .arr 34 2 (l13.map c34)), (16, .box [Ti f1.1, Ti f1.2.1, Ti f1.2.2])]⟩ : St) ∧ r_spec_IndefinitePoints_L14 f1 vn2 y11 y9 n t12 l13 = some qo15) FU ⟨_, _,  by rfl, hLo15⟩ ?_)
    clear hLo15
    rintro n s ⟨t12, l13, hs, h⟩
    refine V_keep _ _ hs ?_
    clear hs
    cases n with
    | zero => cases h
    | succ n =>
     rw [r_spec_IndefinitePoints_L14] at h
     refine V_e (mb 77 64424509638) [256, 56, 16] (s1 := ⟨.bot :: I vn2 :: .pt 16 0 :: bt 3 (I y9 :: .ow 56 :: bt 24 (.ow 256 :: I ((y11.length : Int)) :: I t12 :: Bo (ltI t12 ((y11.length : Int))) :: bt 41 [])), [(256, .arr 3 1 (y11.map c3)), (56, .arr 34 2 (l13.map c34)), (16, .box [Ti f1.1, Ti f1.2.1, Ti f1.2.2])]⟩) ?_
     refine V_seq ?_
     refine V_cond rfl (fun hc16 => ?_) (fun hc16 => ?_)
     ·have h := of_true h hc16
      refine V_skip ?_
      show V _ _ _ _
      refine V_seq ?_
      refine V_block ?_
      obtain ⟨e17, he17, h⟩ := of_bind h
      obtain ⟨e18, he18, h⟩ := of_bind h
      refine V_sreg (mb 77 30064771782) [256, 56, 16] (s1 := ⟨.bot :: I vn2 :: .pt 16 0 :: bt 3 (I y9 :: .ow 56 :: .bot :: I e18 :: bt 22 (.ow 256 :: I ((y11.length : Int)) :: I t12 :: bt 42 [])), [(256, .arr 3 1 (y11.map c3)), (56, .arr 34 2 (l13.map c34)), (16, .box [Ti f1.1, Ti f1.2.1, Ti f1.2.2])]⟩) ?_ ?_
      ·refine L0 rfl rfl (Y0_idxoM (c := c3) (xs := y11) (v := e17) (id := 256) (T := 3) (sz := 1) (n := t12) Try.underlying41 sz3 rfl (by kernel_rfl) (by kernel_rfl) (by kernel_rfl) he17) ?_
       refine L0 rfl rfl (Y0_loado1 (c := c3) (xs := y11) (v := e18) (id := 256) (sz := 1) (T := 3) (off := 0) (n := t12) (d := Ti e18) (ds := []) sc3 rfl (by kernel_rfl) (by kernel_rfl) he18 (by kernel_rfl)) ?_
       exact XE
      obtain ⟨z19, hz19, h⟩ := of_bind h
      obtain ⟨f20, hf20, h⟩ := of_sI h
      refine V_sreg (mb 77 30064772294) [80, 256, 56, 16] (s1 := ⟨.bot :: I vn2 :: .pt 16 0 :: bt 3 (I y9 :: .ow 56 :: .bot :: .bot :: .pt 80 0 :: bt 21 (.ow 256 :: I ((y11.length : Int)) :: I t12 :: bt 42 [])), [(80, .box [Ti vn2, Ti e18, Ti f20]), (256, .arr 3 1 (y11.map c3)), (56, .arr 34 2 (l13.map c34)), (16, .box [Ti f1.1, Ti f1.2.1, Ti f1.2.2])]⟩) ?_ ?_
      ·refine XR 9 ?_
       refine L0 rfl rfl (Y0_quo64 (a := w64 ((w64 (e18 * e18)) - y9)) (b := w64 (4 * vn2)) rfl (by kernel_rfl) (by kernel_rfl) (nz_some hz19)) ?_
       refine L0 rfl rfl (Y0_build (cs := [Ti vn2, Ti e18, Ti (w64 (Int.tdiv (w64 ((w64 (e18 * e18)) - y9)) (w64 (4 * vn2))))]) pl45 bt45 rfl rfl (by kernel_rfl)) ?_
       refine XR 2 ?_
       refine XL_nil ?_
       subst hf20
       kernel_rfl
      obtain ⟨y21, hy21, h⟩ := of_bind h
      refine V_sreg (mb 77 30064778438) [80, 256, 56, 16] (s1 := ⟨.bot :: I vn2 :: .pt 16 0 :: bt 3 (I y9 :: .ow 56 :: .bot :: .bot :: .pt 80 0 :: Bo y21.1 :: Bo y21.2 :: bt 19 (.ow 256 :: I ((y11.length : Int)) :: I t12 :: bt 42 [])), [(80, .box [Ti vn2, Ti e18, Ti f20]), (256, .arr 3 1 (y11.map c3)), (56, .arr 34 2 (l13.map c34)), (16, .box [Ti f1.1, Ti f1.2.1, Ti f1.2.2])]⟩) ?_ ?_
      ·refine XR 2 ?_
       refine XC (s_spec_SameCycle hy21) cf_spec_SameCycle rfl rfl rfl ?_
       exact XE
      refine V_seq ?_
      refine V_e (mb 77 72057624102702278) [80, 256, 56, 16] (s1 := ⟨.bot :: I vn2 :: .pt 16 0 :: bt 3 (I y9 :: .ow 56 :: .bot :: .bot :: .pt 80 0 :: Bo y21.1 :: bt 20 (.ow 256 :: I ((y11.length : Int)) :: I t12 :: bt 21 (Bo (!y21.2) :: bt 20 []))), [(80, .box [Ti vn2, Ti e18, Ti f20]), (256, .arr 3 1 (y11.map c3)), (56, .arr 34 2 (l13.map c34)), (16, .box [Ti f1.1, Ti f1.2.1, Ti f1.2.2])]⟩) ?_
      refine V_cond rfl (fun hc22 => ?_) (fun hc22 => ?_)
      ·have h := of_true h hc22
       refine V_sreg (mb 77 48) [32] (s1 := ⟨bt 4 (.ow 32 :: Bo false :: bt 71 []), [(32, .arr 34 2 ((([] : List ((Int × Int)))).map c34))]⟩) ?_ ?_
       ·refine L1 rfl rfl (Y1_nil (e := 34) 2 (by decide) (.inl rfl)) ?_
        exact XE
       refine V_ret ?_
       obtain rfl := some_inj h
       have h := hko15
       obtain rfl := some_inj h
       show Post _ _ _ _ _
       exact ⟨.inr rfl, rfl, rfl, rfl⟩
      ·have h := of_false h hc22
       refine V_skip ?_
       show V _ _ _ _
       refine V_seq ?_
       refine V_e (mb 77 288230406216484038) [80, 256, 56, 16] (s1 := ⟨.bot :: I vn2 :: .pt 16 0 :: bt 3 (I y9 :: .ow 56 :: .bot :: .bot :: .pt 80 0 :: bt 21 (.ow 256 :: I ((y11.length : Int)) :: I t12 :: bt 23 (Bo (!y21.1) :: bt 18 []))), [(80, .box [Ti vn2, Ti e18, Ti f20]), (256, .arr 3 1 (y11.map c3)), (56, .arr 34 2 (l13.map c34)), (16, .box [Ti f1.1, Ti f1.2.1, Ti f1.2.2])]⟩) ?_
       refine V_cond rfl (fun hc23 => ?_) (fun hc23 => ?_)
       ·have h := of_true h hc23
        refine V_exit ?_
        show V _ _ _ _
        obtain ⟨t24, ht24, h⟩ := of_sI h
        refine V_reg (mb 77 30064771270) [256, 56, 16] (s1 := ⟨.bot :: I vn2 :: .pt 16 0 :: bt 3 (I y9 :: .ow 56 :: bt 24 (.ow 256 :: I ((y11.length : Int)) :: I t24 :: bt 42 [])), [(256, .arr 3 1 (y11.map c3)), (56, .arr 34 2 (l13.map c34)), (16, .box [Ti f1.1, Ti f1.2.1, Ti f1.2.2])]⟩) ?_ ?_
        ·refine XR 2 ?_
         refine XL_nil ?_
         subst ht24
         kernel_rfl
        exact ⟨n, Nat.lt_succ_self n, _, _,  by rfl, h⟩
       ·have h := of_false h hc23
        refine V_skip ?_
        show V _ _ _ _
        obtain ⟨y25, hy25, h⟩ := of_bind h
        refine V_sreg (mb 77 30064795846) [104, 256, 56, 16] (s1 := ⟨.bot :: I vn2 :: .pt 16 0 :: bt 3 (I y9 :: .ow 56 :: bt 5 (.pt 104 0 :: Bo y25.2 :: bt 17 (.ow 256 :: I ((y11.length : Int)) :: I t12 :: bt 42 []))), [(104, .box [Ti y25.1.1, Ti y25.1.2.1, Ti y25.1.2.2.1, Ti y25.1.2.2.2]), (256, .arr 3 1 (y11.map c3)), (56, .arr 34 2 (l13.map c34)), (16, .box [Ti f1.1, Ti f1.2.1, Ti f1.2.2])]⟩) ?_ ?_
        ·refine XR 2 ?_
         refine XC (s_spec_CycleMatrix hy25) cf_spec_CycleMatrix rfl rfl rfl ?_
         exact XE
        refine V_seq ?_
        refine V_e (mb 77 73786976324902985926) [104, 256, 56, 16] (s1 := ⟨.bot :: I vn2 :: .pt 16 0 :: bt 3 (I y9 :: .ow 56 :: bt 5 (.pt 104 0 :: bt 18 (.ow 256 :: I ((y11.length : Int)) :: I t12 :: bt 31 (Bo (!y25.2) :: bt 10 [])))), [(104, .box [Ti y25.1.1, Ti y25.1.2.1, Ti y25.1.2.2.1, Ti y25.1.2.2.2]), (256, .arr 3 1 (y11.map c3)), (56, .arr 34 2 (l13.map c34)), (16, .box [Ti f1.1, Ti f1.2.1, Ti f1.2.2])]⟩) ?_
        refine V_cond rfl (fun hc26 => ?_) (fun hc26 => ?_)
        ·have h := of_true h hc26
         refine V_sreg (mb 77 48) [32] (s1 := ⟨bt 4 (.ow 32 :: Bo false :: bt 71 []), [(32, .arr 34 2 ((([] : List ((Int × Int)))).map c34))]⟩) ?_ ?_
         ·refine L1 rfl rfl (Y1_nil (e := 34) 2 (by decide) (.inl rfl)) ?_
          exact XE
         refine V_ret ?_
         obtain rfl := some_inj h
         have h := hko15
         obtain rfl := some_inj h
         show Post _ _ _ _ _
         exact ⟨.inr rfl, rfl, rfl, rfl⟩
        ·have h := of_false h hc26
         refine V_skip ?_
         show V _ _ _ _
         obtain ⟨u27, hu27, h⟩ := of_bind h
         refine V_reg (mb 77 30064771270) [256, 56, 16] (s1 := ⟨.bot :: I vn2 :: .pt 16 0 :: bt 3 (I y9 :: .ow 56 :: bt 24 (.ow 256 :: I ((y11.length : Int)) :: I t12 :: bt 42 [])), [(256, .arr 3 1 (y11.map c3)), (56, .arr 34 2 ((l13 ++ ([(y25.1.1, y25.1.2.2.1)])).map c34)), (16, .box [Ti f1.1, Ti f1.2.1, Ti f1.2.2])]⟩) ?_ ?_
         ·refine XR 5 ?_
          refine L0 rfl rfl (Y0_build (cs := [Ti y25.1.1, Ti y25.1.2.2.1]) pl34 bt34 rfl rfl (by kernel_rfl)) ?_
          refine L1 rfl rfl (Y1_bslice (z := zv34) (els := [(y25.1.1, y25.1.2.2.1)].map c34) Try.underlying71 iz34 rfl (by decide) rfl (by kernel_rfl) rfl (by simp [c34]) (by decide) (by decide)) ?_
          refine XL_cons rfl (X_appendM (c := c34) (xs := l13) (ys := [(y25.1.1, y25.1.2.2.1)]) (id := 56) (z := zv34) rfl rfl Try.underlying71 izb34 rfl (by kernel_rfl) (by kernel_rfl) (by kernel_rfl) (fun _ => rfl) (by simp) (room_some hu27) (by decide)) ?_
          exact XE
         show V _ _ _ _
         obtain ⟨t28, ht28, h⟩ := of_sI h
         refine V_reg (mb 77 30064771270) [256, 56, 16] (s1 := ⟨.bot :: I vn2 :: .pt 16 0 :: bt 3 (I y9 :: .ow 56 :: bt 24 (.ow 256 :: I ((y11.length : Int)) :: I t28 :: bt 42 [])), [(256, .arr 3 1 (y11.map c3)), (56, .arr 34 2 ((l13 ++ ([(y25.1.1, y25.1.2.2.1)])).map c34)), (16, .box [Ti f1.1, Ti f1.2.1, Ti f1.2.2])]⟩) ?_ ?_
         ·refine XR 2 ?_
          refine XL_nil ?_
          subst ht28
          kernel_rfl
         exact ⟨n, Nat.lt_succ_self n, _, _,  by rfl, h⟩
     ·have h := of_false h hc16
      refine V_exit ?_
      obtain rfl := some_inj h
      exact ⟨_, rfl, by rfl⟩
   rintro o15 rfl
   have h := hko15
   clear hko15
   show V _ _ _ _
   refine V_e (mb 77 48) [56] (s1 := ⟨bt 4 (.ow 56 :: Bo true :: bt 71 []), [(56, .arr 34 2 (o15.map c34))]⟩) ?_
   refine V_ret ?_
   obtain rfl := some_inj h
   show Post _ _ _ _ _
   exact ⟨.inr rfl, rfl, rfl, rfl⟩
theorem cf_laws_qPoints : ∀ args w, (callFunc 51 args).run Try.prog w = .ok (.enter 51 args) w := run_callFunc Try.func51 (by kernel_rfl) (by kernel_rfl)
theorem s_laws_qPoints {a1 : List ((Int × Int))} {b2 : List ((Int × Int))} {r : Bool} (h : r_laws_qPoints a1 b2 = some r) : CallS Try.prog 51 [.c (.sl (a1.map c34)), .c (.sl (b2.map c34))] (Bo r) [] := by
  refine CallS_of_text (rs := [.t 4]) (vs := [.tmp 4]) Try.func51 rfl rfl (.cons rfl FitsL.nil) (by decide) 26 rfl ?_
  unfold r_laws_qPoints at h
  show V _ _ ⟨.c (.sl (a1.map c34)) :: .c (.sl (b2.map c34)) :: bt 24 [], []⟩ _
  refine V_e (mb 26 3) [] (s1 := ⟨.c (.sl (a1.map c34)) :: .c (.sl (b2.map c34)) :: bt 24 [], []⟩) ?_
  refine V_seq ?_
  refine V_sreg (mb 26 1027) [] (s1 := ⟨.c (.sl (a1.map c34)) :: .c (.sl (b2.map c34)) :: bt 8 (Bo (!eqI ((a1.length : Int)) ((b2.length : Int))) :: bt 15 []), []⟩) ?_ ?_
  ·refine XR 1 ?_
   refine L0 rfl rfl (Y0_lenM (c := c34) (xs := a1) Try.underlying71 rfl (by kernel_rfl)) ?_
   refine XR 1 ?_
   refine L0 rfl rfl (Y0_lenM (c := c34) (xs := b2) Try.underlying71 rfl (by kernel_rfl)) ?_
   exact XE
  refine V_cond rfl (fun hc3 => ?_) (fun hc3 => ?_)
  ·have h := of_true h hc3
   refine V_e (mb 26 16) [] (s1 := ⟨bt 4 (Bo false :: bt 21 []), []⟩) ?_
   refine V_ret ?_
   obtain rfl := some_inj h
   show Post _ _ _ _ _
   exact ⟨.inr rfl, rfl, rfl, rfl⟩
  ·have h := of_false h hc3
   refine V_skip ?_
   show V _ _ _ _
   refine V_seq ?_
   refine V_sreg (mb 26 12291) [] (s1 := ⟨.c (.sl (a1.map c34)) :: .c (.sl (b2.map c34)) :: bt 10 (I ((a1.length : Int)) :: I 0 :: bt 12 []), []⟩) ?_ ?_
   ·refine XR 1 ?_
    refine L0 rfl rfl (Y0_lenM (c := c34) (xs := a1) Try.underlying71 rfl (by kernel_rfl)) ?_
    exact XE
   obtain ⟨qo6, hLo6, hko6⟩ := of_bind h
   refine V_toS (q := qo6) (S := fun o6 => ⟨bt 26 [], []⟩) (mb 26 0) [] ?_ ?_
   ·refine V_block (V_loop (fun n s => ∃ (t4 : Int), s.keep (mb 26 12291) [] = (⟨.c (.sl (a1.map c34)) :: .c (.sl (b2.map c34)) :: bt 10 (I ((a1.length : Int)) :: I t4 :: bt 12 []), []⟩ : St) ∧ r_laws_qPoints_L5 a1 b2 n t4 = some qo6) FU ⟨_,  by rfl, hLo6⟩ ?_)
    clear hLo6
    rintro n s ⟨t4, hs, h⟩
    refine V_keep _ _ hs ?_
    clear hs
    cases n with
    | zero => cases h
    | succ n =>
     rw [r_laws_qPoints_L5] at h
     refine V_e (mb 26 28675) [] (s1 := ⟨.c (.sl (a1.map c34)) :: .c (.sl (b2.map c34)) :: bt 10 (I ((a1.length : Int)) :: I t4 :: Bo (ltI t4 ((a1.length : Int))) :: bt 11 []), []⟩) ?_
     refine V_seq ?_
     refine V_cond rfl (fun hc7 => ?_) (fun hc7 => ?_)
     ·have h := of_true h hc7
      refine V_skip ?_
      show V _ _ _ _
      refine V_seq ?_
      refine V_block ?_
      refine V_e (mb 26 12323) [] (s1 := ⟨.c (.sl (a1.map c34)) :: .c (.sl (b2.map c34)) :: bt 3 (I t4 :: bt 6 (I ((a1.length : Int)) :: I t4 :: bt 12 [])), []⟩) ?_
      obtain ⟨e8, he8, h⟩ := of_bind h
      obtain ⟨e9, he9, h⟩ := of_bind h
      refine V_sdreg [0, 0, 3, 7, 0, 0, 48, 112, 255] 9 (cdm 9 [43528, 43522, 43525, 43541, 2218, 682, 1450, 5546, 21845]) (mb 26 16789507) [] (s1 := ⟨.c (.sl (a1.map c34)) :: .c (.sl (b2.map c34)) :: bt 10 (I ((a1.length : Int)) :: I t4 :: bt 10 (Bo (!((e8.1 == e9.1) && (e8.2 == e9.2))) :: .bot :: [])), []⟩) (by kernel_rfl) (by kernel_rfl) ?_ ?_
      ·refine DR 2 ?_
       refine DE_0 2 (.pe [Ti e8.1, Ti e8.2]) (by kernel_rfl) rfl rfl rfl (gsat_none rfl) (by kernel_rfl) (Y0_idxM (c := c34) (xs := a1) (v := e8) (n := t4) Try.underlying71 sz34 rfl (by kernel_rfl) (by kernel_rfl) he8) 18 rfl ?_
       refine DR 3 ?_
       refine DE_0 6 (.pe [Ti e9.1, Ti e9.2]) (by kernel_rfl) rfl rfl rfl (gsat_none rfl) (by kernel_rfl) (Y0_idxM (c := c34) (xs := b2) (v := e9) (n := t4) Try.underlying71 sz34 rfl (by kernel_rfl) (by kernel_rfl) he9) 22 rfl ?_
       refine DR 1 ?_
       refine DE_0 8 (Bo (!((e8.1 == e9.1) && (e8.2 == e9.2)))) (by kernel_rfl) rfl rfl rfl (gsat_none rfl) (by kernel_rfl) (Y0_neg2 (a0 := e8.1) (b0 := e9.1) (a1 := e8.2) (b1 := e9.2) neg34 rfl (by kernel_rfl) (by kernel_rfl)) 24 rfl ?_
       refine DA 0 ?_
       exact XE
      refine V_cond rfl (fun hc10 => ?_) (fun hc10 => ?_)
      ·have h := of_true h hc10
       refine V_e (mb 26 16) [] (s1 := ⟨bt 4 (Bo false :: bt 21 []), []⟩) ?_
       refine V_ret ?_
       obtain rfl := some_inj h
       have h := hko6
       obtain rfl := some_inj h
       show Post _ _ _ _ _
       exact ⟨.inr rfl, rfl, rfl, rfl⟩
      ·have h := of_false h hc10
       refine V_skip ?_
       show V _ _ _ _
       obtain ⟨t11, ht11, h⟩ := of_sI h
       refine V_reg (mb 26 12291) [] (s1 := ⟨.c (.sl (a1.map c34)) :: .c (.sl (b2.map c34)) :: bt 10 (I ((a1.length : Int)) :: I t11 :: bt 12 []), []⟩) ?_ ?_
       ·refine XR 2 ?_
        refine XL_nil ?_
        subst ht11
        kernel_rfl
       exact ⟨n, Nat.lt_succ_self n, _,  by rfl, h⟩
     ·have h := of_false h hc7
      refine V_exit ?_
      obtain rfl := some_inj h
      exact ⟨_, rfl, by rfl⟩
   rintro o6 rfl
   have h := hko6
   clear hko6
   show V _ _ _ _
   refine V_e (mb 26 16) [] (s1 := ⟨bt 4 (Bo true :: bt 21 []), []⟩) ?_
   refine V_ret ?_
   obtain rfl := some_inj h
   show Post _ _ _ _ _
   exact ⟨.inr rfl, rfl, rfl, rfl⟩
theorem cf_impl_Form_at : ∀ args w, (callFunc 131 args).run Try.prog w = .ok (.enter 131 args) w := run_callFunc Try.func131 (by kernel_rfl) (by kernel_rfl)
theorem s_impl_Form_at {f1 : (Int × Int × Int)} {x2 : Int} {y3 : Int} {r : Int} (h : r_impl_Form_at f1 x2 y3 = some r) : CallS Try.prog 131 [.ag [Ti f1.1, Ti f1.2.1, Ti f1.2.2], I x2, I y3] (I r) [] := by
  refine CallS_of_text (rs := [.t 6]) (vs := [.tmp 6]) Try.func131 rfl rfl (.cons rfl FitsL.nil) (by decide) 27 rfl ?_
  unfold r_impl_Form_at at h
  show V _ _ ⟨.ag [Ti f1.1, Ti f1.2.1, Ti f1.2.2] :: I x2 :: I y3 :: bt 24 [], []⟩ _
  refine V_e (mb 27 14) [24] (s1 := ⟨.bot :: I x2 :: I y3 :: .pt 24 0 :: bt 23 [], [(24, .box [Ti f1.1, Ti f1.2.1, Ti f1.2.2])]⟩) ?_
  obtain ⟨t4, ht4, h⟩ := of_sI h
  refine V_sreg (mb 27 64) [] (s1 := ⟨bt 6 (I t4 :: bt 20 []), []⟩) ?_ ?_
  ·refine XR 21 ?_
   refine XL_nil ?_
   subst ht4
   kernel_rfl
  refine V_ret ?_
  obtain rfl := some_inj h
  show Post _ _ _ _ _
  exact ⟨.inr rfl, rfl, rfl, rfl⟩
theorem cf_impl_ValueAt : ∀ args w, (callFunc 52 args).run Try.prog w = .ok (.enter 52 args) w := run_callFunc Try.func52 (by kernel_rfl) (by kernel_rfl)
theorem s_impl_ValueAt {f1 : (Int × Int × Int)} {x2 : Int} {y3 : Int} {r : (Int × Bool)} (h : r_impl_ValueAt f1 x2 y3 = some r) : CallS Try.prog 52 [.ag [Ti f1.1, Ti f1.2.1, Ti f1.2.2], I x2, I y3] (.tc (I r.1) (.tc (Bo r.2) .tn)) [] := by
  refine CallS_of_text (rs := [.t 6, .t 7]) (vs := [.tmp 6, .tmp 7]) Try.func52 rfl rfl (.cons rfl (.cons rfl FitsL.nil)) (by decide) 22 rfl ?_
  unfold r_impl_ValueAt at h
  show V _ _ ⟨.ag [Ti f1.1, Ti f1.2.1, Ti f1.2.2] :: I x2 :: I y3 :: bt 19 [], []⟩ _
  refine V_e (mb 22 14) [24] (s1 := ⟨.bot :: I x2 :: I y3 :: .pt 24 0 :: bt 18 [], [(24, .box [Ti f1.1, Ti f1.2.1, Ti f1.2.2])]⟩) ?_
  refine V_seq ?_
  obtain ⟨y4, hy4, h⟩ := of_bind h
  obtain ⟨b7, hb7, h⟩ := of_bind h
  refine V_sreg (mb 22 131086) [24] (s1 := ⟨.bot :: I x2 :: I y3 :: .pt 24 0 :: bt 13 (Bo b7 :: bt 4 []), [(24, .box [Ti f1.1, Ti f1.2.1, Ti f1.2.2])]⟩) ?_ ?_
  ·refine XR 1 ?_
   refine XC (s_impl_IsForm hy4) cf_impl_IsForm rfl rfl rfl ?_
   refine XR 2 ?_
   refine XL_split (!y4) (fun hc5 => ?_) (fun hc5 => ?_)
   ·have hb7 := some_inj (of_true hb7 hc5)
    refine XL_skipF _ rfl rfl (by kernel_rfl) hc5 rfl ?_
    refine XL_skipF _ rfl rfl (by kernel_rfl) hc5 rfl ?_
    refine XL_skipF _ rfl rfl (by kernel_rfl) hc5 rfl ?_
    refine XL_skipF _ rfl rfl (by kernel_rfl) hc5 rfl ?_
    refine XL_skipF _ rfl rfl (by kernel_rfl) hc5 rfl ?_
    refine XL_cons rfl (X_of_Y0 rfl (Y0_pickTe (b := !y4) (p := true) rfl (by kernel_rfl) hc5 (by kernel_rfl) hb7)) ?_
    exact XE
   ·have hb7 := of_false hb7 hc5
    obtain ⟨y6, hy6, hb7⟩ := of_bind hb7
    have hb7 := some_inj hb7
    refine XL_takeC _ rfl rfl (by kernel_rfl) hc5 (X_of_Y0 rfl (E_move (I x2) rfl (by kernel_rfl))) ?_
    refine XL_takeC _ rfl rfl (by kernel_rfl) hc5 (X_of_Y0 rfl (E_move (I y3) rfl (by kernel_rfl))) ?_
    refine XL_takeC _ rfl rfl (by kernel_rfl) hc5 (X_of_Y1 rfl (Y1_bslice (z := zv3) (els := [x2, y3].map c3) Try.underlying41 iz3 rfl (by decide) rfl (by kernel_rfl) rfl (by simp [c3]) (by decide) (by decide))) ?_
    refine XL_takeC _ rfl rfl (by kernel_rfl) hc5 (X_of_Y1 rfl (Y1_callS (s_impl_areNumbers hy6) cf_impl_areNumbers rfl (by kernel_rfl) rfl rfl)) ?_
    refine XL_takeC _ rfl rfl (by kernel_rfl) hc5 (X_of_Y0 rfl (Y0_not (b := y6) rfl (by kernel_rfl))) ?_
    refine XL_cons rfl (X_of_Y0 rfl (Y0_pickFe (b := !y4) (p := !y6) rfl (by kernel_rfl) hc5 (by kernel_rfl) hb7)) ?_
    exact XE
  refine V_cond rfl (fun hc8 => ?_) (fun hc8 => ?_)
  ·have h := of_true h hc8
   refine V_e (mb 22 192) [] (s1 := ⟨bt 6 (I 0 :: Bo false :: bt 14 []), []⟩) ?_
   refine V_ret ?_
   obtain rfl := some_inj h
   show Post _ _ _ _ _
   exact ⟨.inr rfl, rfl, rfl, rfl⟩
  ·have h := of_false h hc8
   refine V_skip ?_
   show V _ _ _ _
   obtain ⟨y9, hy9, h⟩ := of_bind h
   refine V_sreg (mb 22 192) [] (s1 := ⟨bt 6 (I y9 :: Bo true :: bt 14 []), []⟩) ?_ ?_
   ·refine XR 3 ?_
    refine XC (s_impl_Form_at hy9) cf_impl_Form_at rfl rfl rfl ?_
    exact XE
   refine V_ret ?_
   obtain rfl := some_inj h
   show Post _ _ _ _ _
   exact ⟨.inr rfl, rfl, rfl, rfl⟩
theorem cf_laws_qAbs : ∀ args w, (callFunc 54 args).run Try.prog w = .ok (.enter 54 args) w := run_callFunc Try.func54 (by kernel_rfl) (by kernel_rfl)
theorem s_laws_qAbs {vn1 : Int} {r : Int} (h : r_laws_qAbs vn1 = some r) : CallS Try.prog 54 [I vn1] (I r) [] := by
  refine CallS_of_text (rs := [.t 2]) (vs := [.tmp 2]) Try.func54 rfl rfl (.cons rfl FitsL.nil) (by decide) 8 rfl ?_
  unfold r_laws_qAbs at h
  show V _ _ ⟨I vn1 :: bt 7 [], []⟩ _
  refine V_e (mb 8 1) [] (s1 := ⟨I vn1 :: bt 7 [], []⟩) ?_
  refine V_seq ?_
  refine V_e (mb 8 17) [] (s1 := ⟨I vn1 :: bt 3 (Bo (ltI vn1 0) :: bt 3 []), []⟩) ?_
  refine V_cond rfl (fun hc2 => ?_) (fun hc2 => ?_)
  ·have h := of_true h hc2
   obtain ⟨t3, ht3, h⟩ := of_sI h
   refine V_sreg (mb 8 4) [] (s1 := ⟨.bot :: .bot :: I t3 :: bt 5 [], []⟩) ?_ ?_
   ·refine XR 3 ?_
    refine XL_nil ?_
    subst ht3
    kernel_rfl
   refine V_ret ?_
   obtain rfl := some_inj h
   show Post _ _ _ _ _
   exact ⟨.inr rfl, rfl, rfl, rfl⟩
  ·have h := of_false h hc2
   refine V_skip ?_
   show V _ _ _ _
   refine V_e (mb 8 4) [] (s1 := ⟨.bot :: .bot :: I vn1 :: bt 5 [], []⟩) ?_
   refine V_ret ?_
   obtain rfl := some_inj h
   show Post _ _ _ _ _
   exact ⟨.inr rfl, rfl, rfl, rfl⟩
theorem cf_laws_qGcd : ∀ args w, (callFunc 26 args).run Try.prog w = .ok (.enter 26 args) w := run_callFunc Try.func26 (by kernel_rfl) (by kernel_rfl)
theorem s_laws_qGcd {a1 : Int} {b2 : Int} {r : Int} (h : r_laws_qGcd a1 b2 = some r) : CallS Try.prog 26 [I a1, I b2] (I r) [] := by
  refine CallS_of_text (rs := [.t 4]) (vs := [.tmp 4]) Try.func26 rfl rfl (.cons rfl FitsL.nil) (by decide) 13 rfl ?_
  unfold r_laws_qGcd at h
  show V _ _ ⟨I a1 :: I b2 :: bt 11 [], []⟩ _
  refine V_e (mb 13 3) [] (s1 := ⟨I a1 :: I b2 :: bt 11 [], []⟩) ?_
  refine V_seq ?_
  obtain ⟨o6, hLo6, h⟩ := of_bind h
  refine V_toK (mb 13 1) [] (s1 := ⟨I o6 :: bt 12 [], []⟩) ?_ ?_
  ·clear h
   refine V_block (V_loop (fun n s => ∃ (a3 : Int) (b4 : Int), s.keep (mb 13 3) [] = (⟨I a3 :: I b4 :: bt 11 [], []⟩ : St) ∧ r_laws_qGcd_L5 n a3 b4 = some o6) FU ⟨_, _,  by rfl, hLo6⟩ ?_)
   clear hLo6
   rintro n s ⟨a3, b4, hs, h⟩
   refine V_keep _ _ hs ?_
   clear hs
   cases n with
   | zero => cases h
   | succ n =>
    rw [r_laws_qGcd_L5] at h
    refine V_seq ?_
    refine V_e (mb 13 67) [] (s1 := ⟨I a3 :: I b4 :: bt 4 (Bo (!eqI b4 0) :: bt 6 []), []⟩) ?_
    refine V_cond rfl (fun hc7 => ?_) (fun hc7 => ?_)
    ·have h := of_true h hc7
     refine V_skip ?_
     show V _ _ _ _
     refine V_block ?_
     obtain ⟨z8, hz8, h⟩ := of_bind h
     obtain ⟨b9, hb9, h⟩ := of_sI h
     refine V_dreg [0, 0, 0, 6, 3, 31] 6 (cdm 6 [168, 34, 522, 534, 165, 341]) (mb 13 3) [] (s1 := ⟨I b4 :: I b9 :: bt 11 [], []⟩) (by kernel_rfl) (by kernel_rfl) ?_ ?_
     ·refine DR 3 ?_
      refine DE_0 3 (I (Int.tmod a3 b4)) (by kernel_rfl) rfl rfl rfl (gsat_none rfl) (by kernel_rfl) (Y0_rem (k := .i64) (a := a3) (b := b4) rfl (by kernel_rfl) (by kernel_rfl) (nz_some hz8)) 10 rfl ?_
      refine DA 2 ?_
      refine XL_nil ?_
      subst hb9
      kernel_rfl
     exact ⟨n, Nat.lt_succ_self n, _, _,  by rfl, h⟩
    ·have h := of_false h hc7
     refine V_exit ?_
     obtain rfl := some_inj h
     show St.keep _ _ _ = _
     rfl
  show V _ _ _ _
  obtain ⟨y10, hy10, h⟩ := of_bind h
  refine V_sreg (mb 13 16) [] (s1 := ⟨bt 4 (I y10 :: bt 8 []), []⟩) ?_ ?_
  ·refine XR 1 ?_
   refine XC (s_laws_qAbs hy10) cf_laws_qAbs rfl rfl rfl ?_
   exact XE
  refine V_ret ?_
  obtain rfl := some_inj h
  show Post _ _ _ _ _
  exact ⟨.inr rfl, rfl, rfl, rfl⟩
theorem cf_laws_numberOf : ∀ args w, (callFunc 15 args).run Try.prog w = .ok (.enter 15 args) w := run_callFunc Try.func15 (by kernel_rfl) (by kernel_rfl)
theorem s_laws_numberOf {b1 : List Int} {r : Int} (h : r_laws_numberOf b1 = some r) : CallS Try.prog 15 [.c (.sl (b1.map c5))] (I r) [] := by
  refine CallS_of_text (rs := [.t 2]) (vs := [.tmp 2]) Try.func15 rfl rfl (.cons rfl FitsL.nil) (by decide) 20 rfl ?_
  unfold r_laws_numberOf at h
  show V _ _ ⟨.c (.sl (b1.map c5)) :: bt 19 [], []⟩ _
  refine V_e (mb 20 1) [] (s1 := ⟨.c (.sl (b1.map c5)) :: bt 19 [], []⟩) ?_
  refine V_e (mb 20 9) [] (s1 := ⟨.c (.sl (b1.map c5)) :: .bot :: .bot :: I 0 :: bt 16 [], []⟩) ?_
  refine V_seq ?_
  refine V_sreg (mb 20 456) [] (s1 := ⟨bt 3 (I 0 :: .bot :: .bot :: .c (.sl (b1.map c5)) :: I ((b1.length : Int)) :: I 0 :: bt 11 []), []⟩) ?_ ?_
  ·refine XR 1 ?_
   refine L0 rfl rfl (Y0_lenM (c := c5) (xs := b1) Try.underlying22 rfl (by kernel_rfl)) ?_
   exact XE
  obtain ⟨o5, hLo5, h⟩ := of_bind h
  refine V_toK (mb 20 8) [] (s1 := ⟨bt 3 (I o5 :: bt 16 []), []⟩) ?_ ?_
  ·clear h
   refine V_block (V_loop (fun n s => ∃ (vn2 : Int) (t3 : Int), s.keep (mb 20 456) [] = (⟨bt 3 (I vn2 :: .bot :: .bot :: .c (.sl (b1.map c5)) :: I ((b1.length : Int)) :: I t3 :: bt 11 []), []⟩ : St) ∧ r_laws_numberOf_L4 b1 n vn2 t3 = some o5) FU ⟨_, _,  by rfl, hLo5⟩ ?_)
   clear hLo5
   rintro n s ⟨vn2, t3, hs, h⟩
   refine V_keep _ _ hs ?_
   clear hs
   cases n with
   | zero => cases h
   | succ n =>
    rw [r_laws_numberOf_L4] at h
    refine V_e (mb 20 968) [] (s1 := ⟨bt 3 (I vn2 :: .bot :: .bot :: .c (.sl (b1.map c5)) :: I ((b1.length : Int)) :: I t3 :: Bo (ltI t3 ((b1.length : Int))) :: bt 10 []), []⟩) ?_
    refine V_seq ?_
    refine V_cond rfl (fun hc6 => ?_) (fun hc6 => ?_)
    ·have h := of_true h hc6
     refine V_skip ?_
     show V _ _ _ _
     refine V_seq ?_
     refine V_block ?_
     obtain ⟨e7, he7, h⟩ := of_bind h
     refine V_sreg (mb 20 488) [] (s1 := ⟨bt 3 (I vn2 :: .bot :: .c (.v (.int .u8 e7)) :: .c (.sl (b1.map c5)) :: I ((b1.length : Int)) :: I t3 :: bt 11 []), []⟩) ?_ ?_
     ·refine L0 rfl rfl (Y0_idxM (c := c5) (xs := b1) (v := e7) (n := t3) Try.underlying22 sz5 rfl (by kernel_rfl) (by kernel_rfl) he7) ?_
      exact XE
     obtain ⟨vn8, hvn8, h⟩ := of_sI h
     refine V_reg (mb 20 456) [] (s1 := ⟨bt 3 (I vn8 :: .bot :: .bot :: .c (.sl (b1.map c5)) :: I ((b1.length : Int)) :: I t3 :: bt 11 []), []⟩) ?_ ?_
     ·refine XR 3 ?_
      refine L0 rfl rfl (Y0_conv (k2 := .u8) (a := e7) Try.underlying5 Try.underlying3 rfl (by kernel_rfl)) ?_
      refine XR 1 ?_
      refine L0 rfl rfl (Y0_rem (k := .i64) (a := w64 ((w64 (31 * vn2)) + (IntKind.i64.wrap e7))) (b := 1000003) rfl (by kernel_rfl) (by kernel_rfl) (by decide)) ?_
      refine XR 1 ?_
      refine XL_nil ?_
      subst hvn8
      kernel_rfl
     show V _ _ _ _
     obtain ⟨t9, ht9, h⟩ := of_sI h
     refine V_reg (mb 20 456) [] (s1 := ⟨bt 3 (I vn8 :: .bot :: .bot :: .c (.sl (b1.map c5)) :: I ((b1.length : Int)) :: I t9 :: bt 11 []), []⟩) ?_ ?_
     ·refine XR 2 ?_
      refine XL_nil ?_
      subst ht9
      kernel_rfl
     exact ⟨n, Nat.lt_succ_self n, _, _,  by rfl, h⟩
    ·have h := of_false h hc6
     refine V_exit ?_
     obtain rfl := some_inj h
     show St.keep _ _ _ = _
     rfl
  show V _ _ _ _
  refine V_e (mb 20 4) [] (s1 := ⟨.bot :: .bot :: I o5 :: bt 17 [], []⟩) ?_
  refine V_ret ?_
  obtain rfl := some_inj h
  show Post _ _ _ _ _
  exact ⟨.inr rfl, rfl, rfl, rfl⟩
theorem cf_spec_ValueAt : ∀ args w, (callFunc 53 args).run Try.prog w = .ok (.enter 53 args) w := run_callFunc Try.func53 (by kernel_rfl) (by kernel_rfl)
theorem s_spec_ValueAt {f1 : (Int × Int × Int)} {x2 : Int} {y3 : Int} {r : (Int × Bool)} (h : r_spec_ValueAt f1 x2 y3 = some r) : CallS Try.prog 53 [.ag [Ti f1.1, Ti f1.2.1, Ti f1.2.2], I x2, I y3] (.tc (I r.1) (.tc (Bo r.2) .tn)) [] := by
  refine CallS_of_text (rs := [.t 6, .t 7]) (vs := [.tmp 6, .tmp 7]) Try.func53 rfl rfl (.cons rfl (.cons rfl FitsL.nil)) (by decide) 25 rfl ?_
  unfold r_spec_ValueAt at h
  show V _ _ ⟨.ag [Ti f1.1, Ti f1.2.1, Ti f1.2.2] :: I x2 :: I y3 :: bt 22 [], []⟩ _
  refine V_e (mb 25 14) [24] (s1 := ⟨.bot :: I x2 :: I y3 :: .pt 24 0 :: bt 21 [], [(24, .box [Ti f1.1, Ti f1.2.1, Ti f1.2.2])]⟩) ?_
  refine V_seq ?_
  obtain ⟨y4, hy4, h⟩ := of_bind h
  obtain ⟨b7, hb7, h⟩ := of_bind h
  obtain ⟨b10, hb10, h⟩ := of_bind h
  refine V_sreg (mb 25 1048590) [24] (s1 := ⟨.bot :: I x2 :: I y3 :: .pt 24 0 :: bt 16 (Bo b10 :: bt 4 []), [(24, .box [Ti f1.1, Ti f1.2.1, Ti f1.2.2])]⟩) ?_ ?_
  ·refine XR 1 ?_
   refine XC (s_spec_foGood hy4) cf_spec_foGood rfl rfl rfl ?_
   refine XR 2 ?_
   refine XL_split (!y4) (fun hc5 => ?_) (fun hc5 => ?_)
   ·have hb7 := some_inj (of_true hb7 hc5)
    refine XL_skipF _ rfl rfl (by kernel_rfl) hc5 rfl ?_
    refine XL_skipF _ rfl rfl (by kernel_rfl) hc5 rfl ?_
    refine XL_skipF _ rfl rfl (by kernel_rfl) hc5 rfl ?_
    refine XL_cons rfl (X_of_Y0 rfl (Y0_pickTe (b := !y4) (p := true) rfl (by kernel_rfl) hc5 (by kernel_rfl) hb7)) ?_
    refine XR 1 ?_
    refine XL_split b7 (fun hc8 => ?_) (fun hc8 => ?_)
    ·have hb10 := some_inj (of_true hb10 hc8)
     refine XL_skipF _ rfl rfl (by kernel_rfl) hc8 rfl ?_
     refine XL_skipF _ rfl rfl (by kernel_rfl) hc8 rfl ?_
     refine XL_skipF _ rfl rfl (by kernel_rfl) hc8 rfl ?_
     refine XL_cons rfl (X_of_Y0 rfl (Y0_pickTe (b := b7) (p := true) rfl (by kernel_rfl) hc8 (by kernel_rfl) hb10)) ?_
     exact XE
    ·have hb10 := of_false hb10 hc8
     obtain ⟨y9, hy9, hb10⟩ := of_bind hb10
     have hb10 := some_inj hb10
     refine XL_takeC _ rfl rfl (by kernel_rfl) hc8 (X_of_Y0 rfl (E_move (I y3) rfl (by kernel_rfl))) ?_
     refine XL_takeC _ rfl rfl (by kernel_rfl) hc8 (X_of_Y1 rfl (Y1_call (s_spec_nuGood hy9) cf_spec_nuGood rfl (by kernel_rfl))) ?_
     refine XL_takeC _ rfl rfl (by kernel_rfl) hc8 (X_of_Y0 rfl (Y0_not (b := y9) rfl (by kernel_rfl))) ?_
     refine XL_cons rfl (X_of_Y0 rfl (Y0_pickFe (b := b7) (p := !y9) rfl (by kernel_rfl) hc8 (by kernel_rfl) hb10)) ?_
     exact XE
   ·have hb7 := of_false hb7 hc5
    obtain ⟨y6, hy6, hb7⟩ := of_bind hb7
    have hb7 := some_inj hb7
    refine XL_takeC _ rfl rfl (by kernel_rfl) hc5 (X_of_Y0 rfl (E_move (I x2) rfl (by kernel_rfl))) ?_
    refine XL_takeC _ rfl rfl (by kernel_rfl) hc5 (X_of_Y1 rfl (Y1_call (s_spec_nuGood hy6) cf_spec_nuGood rfl (by kernel_rfl))) ?_
    refine XL_takeC _ rfl rfl (by kernel_rfl) hc5 (X_of_Y0 rfl (Y0_not (b := y6) rfl (by kernel_rfl))) ?_
    refine XL_cons rfl (X_of_Y0 rfl (Y0_pickFe (b := !y4) (p := !y6) rfl (by kernel_rfl) hc5 (by kernel_rfl) hb7)) ?_
    refine XR 1 ?_
    refine XL_split b7 (fun hc8 => ?_) (fun hc8 => ?_)
    ·have hb10 := some_inj (of_true hb10 hc8)
     refine XL_skipF _ rfl rfl (by kernel_rfl) hc8 rfl ?_
     refine XL_skipF _ rfl rfl (by kernel_rfl) hc8 rfl ?_
     refine XL_skipF _ rfl rfl (by kernel_rfl) hc8 rfl ?_
     refine XL_cons rfl (X_of_Y0 rfl (Y0_pickTe (b := b7) (p := true) rfl (by kernel_rfl) hc8 (by kernel_rfl) hb10)) ?_
     exact XE
    ·have hb10 := of_false hb10 hc8
     obtain ⟨y9, hy9, hb10⟩ := of_bind hb10
     have hb10 := some_inj hb10
     refine XL_takeC _ rfl rfl (by kernel_rfl) hc8 (X_of_Y0 rfl (E_move (I y3) rfl (by kernel_rfl))) ?_
     refine XL_takeC _ rfl rfl (by kernel_rfl) hc8 (X_of_Y1 rfl (Y1_call (s_spec_nuGood hy9) cf_spec_nuGood rfl (by kernel_rfl))) ?_
     refine XL_takeC _ rfl rfl (by kernel_rfl) hc8 (X_of_Y0 rfl (Y0_not (b := y9) rfl (by kernel_rfl))) ?_
     refine XL_cons rfl (X_of_Y0 rfl (Y0_pickFe (b := b7) (p := !y9) rfl (by kernel_rfl) hc8 (by kernel_rfl) hb10)) ?_
     exact XE
  refine V_cond rfl (fun hc11 => ?_) (fun hc11 => ?_)
  ·have h := of_true h hc11
   refine V_e (mb 25 192) [] (s1 := ⟨bt 6 (I 0 :: Bo false :: bt 17 []), []⟩) ?_
   refine V_ret ?_
   obtain rfl := some_inj h
   show Post _ _ _ _ _
   exact ⟨.inr rfl, rfl, rfl, rfl⟩
  ·have h := of_false h hc11
   refine V_skip ?_
   show V _ _ _ _
   obtain ⟨y12, hy12, h⟩ := of_bind h
   refine V_sreg (mb 25 192) [] (s1 := ⟨bt 6 (I y12 :: Bo true :: bt 17 []), []⟩) ?_ ?_
   ·refine XR 3 ?_
    refine XC (s_spec_foValue hy12) cf_spec_foValue rfl rfl rfl ?_
    exact XE
   refine V_ret ?_
   obtain rfl := some_inj h
   show Post _ _ _ _ _
   exact ⟨.inr rfl, rfl, rfl, rfl⟩
theorem cf_laws_FnIndefiniteValues : ∀ args w, (callFunc 7 args).run Try.prog w = .ok (.enter 7 args) w := run_callFunc Try.func7 (by kernel_rfl) (by kernel_rfl)
theorem s_laws_FnIndefiniteValues {code1 : List Int} {more2 : List Int} {r : Bool} (h : r_laws_FnIndefiniteValues code1 more2 = some r) : CallS Try.prog 7 [.c (.sl (code1.map c5)), .c (.sl (more2.map c5))] (Bo r) [] := by
  refine CallS_of_text (rs := [.t 4]) (vs := [.tmp 4]) Try.func7 rfl rfl (.cons rfl FitsL.nil) (by decide) 161 rfl ?_
  unfold r_laws_FnIndefiniteValues at h
  show V _ _ ⟨.c (.sl (code1.map c5)) :: .c (.sl (more2.map c5)) :: bt 159 [], []⟩ _
  refine V_e (mb 161 3) [] (s1 := ⟨.c (.sl (code1.map c5)) :: .c (.sl (more2.map c5)) :: bt 159 [], []⟩) ?_
  refine V_seq ?_
  obtain ⟨y3, hy3, h⟩ := of_bind h
  refine V_sreg (mb 161 134217731) [] (s1 := ⟨.c (.sl (code1.map c5)) :: .c (.sl (more2.map c5)) :: bt 25 (Bo y3 :: bt 133 []), []⟩) ?_ ?_
  ·refine XR 2 ?_
   refine XC (s_laws_big hy3) cf_laws_big rfl rfl rfl ?_
   exact XE
  refine V_cond rfl (fun hc4 => ?_) (fun hc4 => ?_)
  ·have h := of_true h hc4
   refine V_e (mb 161 16) [] (s1 := ⟨bt 4 (Bo true :: bt 156 []), []⟩) ?_
   refine V_ret ?_
   obtain rfl := some_inj h
   show Post _ _ _ _ _
   exact ⟨.inr rfl, rfl, rfl, rfl⟩
  ·have h := of_false h hc4
   refine V_skip ?_
   show V _ _ _ _
   obtain ⟨y5, hy5, h⟩ := of_bind h
   refine V_sreg (mb 161 98) [40] (s1 := ⟨.bot :: .c (.sl (more2.map c5)) :: bt 3 (.pt 40 0 :: I y5.2 :: bt 154 []), [(40, .box [Ti y5.1.1, Ti y5.1.2.1, Ti y5.1.2.2])]⟩) ?_ ?_
   ·refine XR 1 ?_
    refine XC (s_spec_DrawIndefinitePoints hy5) cf_spec_DrawIndefinitePoints rfl rfl rfl ?_
    exact XE
   obtain ⟨y6, hy6, h⟩ := of_bind h
   refine V_sreg (mb 161 482) [288, 40] (s1 := ⟨.bot :: .c (.sl (more2.map c5)) :: bt 3 (.pt 40 0 :: I y5.2 :: .ow 288 :: Bo y6.2 :: bt 152 []), [(288, .arr 34 2 (y6.1.map c34)), (40, .box [Ti y5.1.1, Ti y5.1.2.1, Ti y5.1.2.2])]⟩) ?_ ?_
   ·refine XR 2 ?_
    refine XC (s_impl_IndefinitePoints hy6) cf_impl_IndefinitePoints rfl rfl rfl ?_
    exact XE
   obtain ⟨y7, hy7, h⟩ := of_bind h
   refine V_sreg (mb 161 2018) [336, 288, 40] (s1 := ⟨.bot :: .c (.sl (more2.map c5)) :: bt 3 (.pt 40 0 :: I y5.2 :: .ow 288 :: Bo y6.2 :: .ow 336 :: Bo y7.2 :: bt 150 []), [(336, .arr 34 2 (y7.1.map c34)), (288, .arr 34 2 (y6.1.map c34)), (40, .box [Ti y5.1.1, Ti y5.1.2.1, Ti y5.1.2.2])]⟩) ?_ ?_
   ·refine XR 2 ?_
    refine XC (s_spec_IndefinitePoints hy7) cf_spec_IndefinitePoints rfl rfl rfl ?_
    exact XE
   refine V_seq ?_
   obtain ⟨b10, hb10, h⟩ := of_bind h
   refine V_sreg (mb 161 9007199254741858) [336, 40] (s1 := ⟨.bot :: .c (.sl (more2.map c5)) :: bt 3 (.pt 40 0 :: I y5.2 :: .bot :: Bo y6.2 :: .ow 336 :: bt 43 (Bo b10 :: bt 107 [])), [(336, .arr 34 2 (y7.1.map c34)), (40, .box [Ti y5.1.1, Ti y5.1.2.1, Ti y5.1.2.2])]⟩) ?_ ?_
   ·refine XR 2 ?_
    refine L0 rfl rfl (Y0_neb (a := y6.2) (b := y7.2) Try.underlying4 rfl (by kernel_rfl) (by kernel_rfl)) ?_
    refine XR 1 ?_
    refine XL_split (y6.2 != y7.2) (fun hc8 => ?_) (fun hc8 => ?_)
    ·have hb10 := some_inj (of_true hb10 hc8)
     refine XL_skipF _ rfl rfl (by kernel_rfl) hc8 rfl ?_
     refine XL_skipF _ rfl rfl (by kernel_rfl) hc8 rfl ?_
     refine XL_skipF _ rfl rfl (by kernel_rfl) hc8 rfl ?_
     refine XL_skipF _ rfl rfl (by kernel_rfl) hc8 rfl ?_
     refine XL_cons rfl (X_of_Y0 rfl (Y0_pickTe (b := y6.2 != y7.2) (p := true) rfl (by kernel_rfl) hc8 (by kernel_rfl) hb10)) ?_
     exact XE
    ·have hb10 := of_false hb10 hc8
     obtain ⟨y9, hy9, hb10⟩ := of_bind hb10
     have hb10 := some_inj hb10
     refine XL_takeC _ rfl rfl (by kernel_rfl) hc8 (X_of_Y0 rfl (E_move (.ow 288) rfl (by kernel_rfl))) ?_
     refine XL_takeC _ rfl rfl (by kernel_rfl) hc8 (X_of_Y0 rfl (E_move (.ow 336) rfl (by kernel_rfl))) ?_
     refine XL_takeC _ rfl rfl (by kernel_rfl) hc8 (X_of_Y1 rfl (Y1_callS (s_laws_qPoints hy9) cf_laws_qPoints rfl (by kernel_rfl) rfl rfl)) ?_
     refine XL_takeC _ rfl rfl (by kernel_rfl) hc8 (X_of_Y0 rfl (Y0_not (b := y9) rfl (by kernel_rfl))) ?_
     refine XL_cons rfl (X_of_Y0 rfl (Y0_pickFe (b := y6.2 != y7.2) (p := !y9) rfl (by kernel_rfl) hc8 (by kernel_rfl) hb10)) ?_
     exact XE
   refine V_cond rfl (fun hc11 => ?_) (fun hc11 => ?_)
   ·have h := of_true h hc11
    refine V_e (mb 161 16) [] (s1 := ⟨bt 4 (Bo false :: bt 156 []), []⟩) ?_
    refine V_ret ?_
    obtain rfl := some_inj h
    show Post _ _ _ _ _
    exact ⟨.inr rfl, rfl, rfl, rfl⟩
   ·have h := of_false h hc11
    refine V_skip ?_
    show V _ _ _ _
    refine V_seq ?_
    refine V_sreg (mb 161 126100789566374242) [336, 40] (s1 := ⟨.bot :: .c (.sl (more2.map c5)) :: bt 3 (.pt 40 0 :: I y5.2 :: .bot :: Bo y6.2 :: bt 45 (.ow 336 :: I ((y7.1.length : Int)) :: I 0 :: bt 104 [])), [(336, .arr 34 2 (y7.1.map c34)), (40, .box [Ti y5.1.1, Ti y5.1.2.1, Ti y5.1.2.2])]⟩) ?_ ?_
    ·refine XR 1 ?_
     refine L0 rfl rfl (Y0_lenM (c := c34) (xs := y7.1) Try.underlying71 rfl (by kernel_rfl)) ?_
     exact XE
    obtain ⟨qo14, hLo14, hko14⟩ := of_bind h
    refine V_toS (q := qo14) (S := fun o14 => ⟨.bot :: .c (.sl (more2.map c5)) :: bt 3 (.pt 40 0 :: .bot :: .bot :: Bo y6.2 :: bt 152 []), [(40, .box [Ti y5.1.1, Ti y5.1.2.1, Ti y5.1.2.2])]⟩) (mb 161 290) [40] ?_ ?_
    ·refine V_block (V_loop (fun n s => ∃ (t12 : Int), s.keep (mb 161 126100789566374242) [336, 40] = (⟨.bot :: .c (.sl (more2.map c5)) :: bt 3 (.pt 40 0 :: I y5.2 :: .bot :: Bo y6.2 :: bt 45 (.ow 336 :: I ((y7.1.length : Int)) :: I t12 :: bt 104 [])), [(336, .arr 34 2 (y7.1.map c34)), (40, .box [Ti y5.1.1, Ti y5.1.2.1, Ti y5.1.2.2])]⟩ : St) ∧ r_laws_FnIndefiniteValues_L13 more2 y5 y6 y7 n t12 = some qo14) FU ⟨_,  by rfl, hLo14⟩ ?_)
     clear hLo14
     rintro n s ⟨t12, hs, h⟩
     refine V_keep _ _ hs ?_
     clear hs
     cases n with
     | zero => cases h
     | succ n =>
      rw [r_laws_FnIndefiniteValues_L13] at h
      refine V_e (mb 161 270215977642230114) [336, 40] (s1 := ⟨.bot :: .c (.sl (more2.map c5)) :: bt 3 (.pt 40 0 :: I y5.2 :: .bot :: Bo y6.2 :: bt 45 (.ow 336 :: I ((y7.1.length : Int)) :: I t12 :: Bo (ltI t12 ((y7.1.length : Int))) :: bt 103 [])), [(336, .arr 34 2 (y7.1.map c34)), (40, .box [Ti y5.1.1, Ti y5.1.2.1, Ti y5.1.2.2])]⟩) ?_
      refine V_seq ?_
      refine V_cond rfl (fun hc15 => ?_) (fun hc15 => ?_)
      ·have h := of_true h hc15
       refine V_skip ?_
       show V _ _ _ _
       refine V_seq ?_
       refine V_block ?_
       obtain ⟨e16, he16, h⟩ := of_bind h
       obtain ⟨e17, he17, h⟩ := of_bind h
       refine V_sreg (mb 161 126100789566378338) [96, 336, 40] (s1 := ⟨.bot :: .c (.sl (more2.map c5)) :: bt 3 (.pt 40 0 :: I y5.2 :: .bot :: Bo y6.2 :: bt 3 (.pt 96 0 :: bt 41 (.ow 336 :: I ((y7.1.length : Int)) :: I t12 :: bt 104 []))), [(96, .box [Ti e17.1, Ti e17.2]), (336, .arr 34 2 (y7.1.map c34)), (40, .box [Ti y5.1.1, Ti y5.1.2.1, Ti y5.1.2.2])]⟩) ?_ ?_
       ·refine L0 rfl rfl (Y0_idxoM (c := c34) (xs := y7.1) (v := e16) (id := 336) (T := 34) (sz := 2) (n := t12) Try.underlying71 sz34 rfl (by kernel_rfl) (by kernel_rfl) (by kernel_rfl) he16) ?_
        refine L0 rfl rfl (E_loadon (c := c34) (xs := y7.1) (v := e17) (id := 336) (sz := 2) (T := 34) (off := 0) (n := t12) [Ti e17.1, Ti e17.2] wd34 rfl (by kernel_rfl) (by kernel_rfl) he17 (Nat.le_of_ble_eq_true rfl) (by kernel_rfl)) ?_
        exact XE
       obtain ⟨y18, hy18, h⟩ := of_bind h
       refine V_sreg (mb 161 126100789566402914) [96, 336, 40] (s1 := ⟨.bot :: .c (.sl (more2.map c5)) :: bt 3 (.pt 40 0 :: I y5.2 :: .bot :: Bo y6.2 :: bt 3 (.pt 96 0 :: I y18.1 :: Bo y18.2 :: bt 39 (.ow 336 :: I ((y7.1.length : Int)) :: I t12 :: bt 104 []))), [(96, .box [Ti e17.1, Ti e17.2]), (336, .arr 34 2 (y7.1.map c34)), (40, .box [Ti y5.1.1, Ti y5.1.2.1, Ti y5.1.2.2])]⟩) ?_ ?_
       ·refine XR 5 ?_
        refine XC (s_impl_ValueAt hy18) cf_impl_ValueAt rfl rfl rfl ?_
        exact XE
       obtain ⟨b22, hb22, h⟩ := of_bind h
       refine V_sreg (mb 161 9671406683017822964023650) [336, 40] (s1 := ⟨.bot :: .c (.sl (more2.map c5)) :: bt 3 (.pt 40 0 :: I y5.2 :: .bot :: Bo y6.2 :: bt 45 (.ow 336 :: I ((y7.1.length : Int)) :: I t12 :: bt 26 (Bo b22 :: bt 77 []))), [(336, .arr 34 2 (y7.1.map c34)), (40, .box [Ti y5.1.1, Ti y5.1.2.1, Ti y5.1.2.2])]⟩) ?_ ?_
       ·refine XR 3 ?_
        refine XL_split (!y18.2) (fun hc19 => ?_) (fun hc19 => ?_)
        ·refine XL_skipF _ rfl rfl (by kernel_rfl) hc19 rfl ?_
         refine XL_skipF _ rfl rfl (by kernel_rfl) hc19 rfl ?_
         refine XL_skipF _ rfl rfl (by kernel_rfl) hc19 rfl ?_
         refine XL_cons rfl (X_of_Y0 rfl (Y0_pick1 (b := !y18.2) (p := true) (q := !eqI y18.1 y5.2) rfl (by kernel_rfl) hc19 (by kernel_rfl))) ?_
         refine XR 1 ?_
         refine XL_split (bif (!y18.2) then true else (!eqI y18.1 y5.2)) (fun hc20 => ?_) (fun hc20 => ?_)
         ·have hb22 := some_inj (of_true hb22 hc20)
          refine XL_skipF _ rfl rfl (by kernel_rfl) hc20 rfl ?_
          refine XL_skipF _ rfl rfl (by kernel_rfl) hc20 rfl ?_
          refine XL_skipF _ rfl rfl (by kernel_rfl) hc20 rfl ?_
          refine XL_skipF _ rfl rfl (by kernel_rfl) hc20 rfl ?_
          refine XL_skipF _ rfl rfl (by kernel_rfl) hc20 rfl ?_
          refine XL_skipF _ rfl rfl (by kernel_rfl) hc20 rfl ?_
          refine XL_cons rfl (X_of_Y0 rfl (Y0_pickTe (b := bif (!y18.2) then true else (!eqI y18.1 y5.2)) (p := true) rfl (by kernel_rfl) hc20 (by kernel_rfl) hb22)) ?_
          exact XE
         ·have hb22 := of_false hb22 hc20
          obtain ⟨y21, hy21, hb22⟩ := of_bind hb22
          have hb22 := some_inj hb22
          refine XL_takeC _ rfl rfl (by kernel_rfl) hc20 (X_of_Y0 rfl (E_field (.pt 96 0) Try.underlying34 rfl sz3 rfl (by kernel_rfl) (by intro hh; cases hh))) ?_
          refine XL_takeC _ rfl rfl (by kernel_rfl) hc20 (X_of_Y0 rfl (Y0_load1 (c := Ti e17.1) (cs := [Ti e17.2]) sc3 rfl (by kernel_rfl))) ?_
          refine XL_takeC _ rfl rfl (by kernel_rfl) hc20 (X_of_Y0 rfl (E_field (.pt 96 1) Try.underlying34 rfl sz3 rfl (by kernel_rfl) (by intro hh; cases hh))) ?_
          refine XL_takeC _ rfl rfl (by kernel_rfl) hc20 (X_of_Y0 rfl (Y0_load1 (c := Ti e17.2) (cs := []) sc3 rfl (by kernel_rfl))) ?_
          refine XL_takeC _ rfl rfl (by kernel_rfl) hc20 (X_of_Y1 rfl (Y1_call (s_laws_qGcd hy21) cf_laws_qGcd rfl (by kernel_rfl))) ?_
          refine XL_takeC _ rfl rfl (by kernel_rfl) hc20 (X_of_Y0 rfl (Y0_new (k := .i64) (a := y21) (b := 1) rfl (by kernel_rfl) (by kernel_rfl))) ?_
          refine XL_cons rfl (X_of_Y0 rfl (Y0_pickFe (b := bif (!y18.2) then true else (!eqI y18.1 y5.2)) (p := !eqI y21 1) rfl (by kernel_rfl) hc20 (by kernel_rfl) hb22)) ?_
          exact XE
        ·refine XL_takeC _ rfl rfl (by kernel_rfl) hc19 (X_of_Y0 rfl (E_move (I y18.1) rfl (by kernel_rfl))) ?_
         refine XL_takeC _ rfl rfl (by kernel_rfl) hc19 (X_of_Y0 rfl (E_move (I y5.2) rfl (by kernel_rfl))) ?_
         refine XL_takeC _ rfl rfl (by kernel_rfl) hc19 (X_of_Y0 rfl (Y0_new (k := .i64) (a := y18.1) (b := y5.2) rfl (by kernel_rfl) (by kernel_rfl))) ?_
         refine XL_cons rfl (X_of_Y0 rfl (Y0_pick0 (b := !y18.2) (p := true) (q := !eqI y18.1 y5.2) rfl (by kernel_rfl) hc19 (by kernel_rfl))) ?_
         refine XR 1 ?_
         refine XL_split (bif (!y18.2) then true else (!eqI y18.1 y5.2)) (fun hc20 => ?_) (fun hc20 => ?_)
         ·have hb22 := some_inj (of_true hb22 hc20)
          refine XL_skipF _ rfl rfl (by kernel_rfl) hc20 rfl ?_
          refine XL_skipF _ rfl rfl (by kernel_rfl) hc20 rfl ?_
          refine XL_skipF _ rfl rfl (by kernel_rfl) hc20 rfl ?_
          refine XL_skipF _ rfl rfl (by kernel_rfl) hc20 rfl ?_
          refine XL_skipF _ rfl rfl (by kernel_rfl) hc20 rfl ?_
          refine XL_skipF _ rfl rfl (by kernel_rfl) hc20 rfl ?_
          refine XL_cons rfl (X_of_Y0 rfl (Y0_pickTe (b := bif (!y18.2) then true else (!eqI y18.1 y5.2)) (p := true) rfl (by kernel_rfl) hc20 (by kernel_rfl) hb22)) ?_
          exact XE
         ·have hb22 := of_false hb22 hc20
          obtain ⟨y21, hy21, hb22⟩ := of_bind hb22
          have hb22 := some_inj hb22
          refine XL_takeC _ rfl rfl (by kernel_rfl) hc20 (X_of_Y0 rfl (E_field (.pt 96 0) Try.underlying34 rfl sz3 rfl (by kernel_rfl) (by intro hh; cases hh))) ?_
          refine XL_takeC _ rfl rfl (by kernel_rfl) hc20 (X_of_Y0 rfl (Y0_load1 (c := Ti e17.1) (cs := [Ti e17.2]) sc3 rfl (by kernel_rfl))) ?_
          refine XL_takeC _ rfl rfl (by kernel_rfl) hc20 (X_of_Y0 rfl (E_field (.pt 96 1) Try.underlying34 rfl sz3 rfl (by kernel_rfl) (by intro hh; cases hh))) ?_
          refine XL_takeC _ rfl rfl (by kernel_rfl) hc20 (X_of_Y0 rfl (Y0_load1 (c := Ti e17.2) (cs := []) sc3 rfl (by kernel_rfl))) ?_
          refine XL_takeC _ rfl rfl (by kernel_rfl) hc20 (X_of_Y1 rfl (Y1_call (s_laws_qGcd hy21) cf_laws_qGcd rfl (by kernel_rfl))) ?_
          refine XL_takeC _ rfl rfl (by kernel_rfl) hc20 (X_of_Y0 rfl (Y0_new (k := .i64) (a := y21) (b := 1) rfl (by kernel_rfl) (by kernel_rfl))) ?_
          refine XL_cons rfl (X_of_Y0 rfl (Y0_pickFe (b := bif (!y18.2) then true else (!eqI y18.1 y5.2)) (p := !eqI y21 1) rfl (by kernel_rfl) hc20 (by kernel_rfl) hb22)) ?_
          exact XE
       refine V_cond rfl (fun hc23 => ?_) (fun hc23 => ?_)
       ·have h := of_true h hc23
        refine V_e (mb 161 16) [] (s1 := ⟨bt 4 (Bo false :: bt 156 []), []⟩) ?_
        refine V_ret ?_
        obtain rfl := some_inj h
        have h := hko14
        obtain rfl := some_inj h
        show Post _ _ _ _ _
        exact ⟨.inr rfl, rfl, rfl, rfl⟩
       ·have h := of_false h hc23
        refine V_skip ?_
        show V _ _ _ _
        obtain ⟨t24, ht24, h⟩ := of_sI h
        refine V_reg (mb 161 126100789566374242) [336, 40] (s1 := ⟨.bot :: .c (.sl (more2.map c5)) :: bt 3 (.pt 40 0 :: I y5.2 :: .bot :: Bo y6.2 :: bt 45 (.ow 336 :: I ((y7.1.length : Int)) :: I t24 :: bt 104 [])), [(336, .arr 34 2 (y7.1.map c34)), (40, .box [Ti y5.1.1, Ti y5.1.2.1, Ti y5.1.2.2])]⟩) ?_ ?_
        ·refine XR 2 ?_
         refine XL_nil ?_
         subst ht24
         kernel_rfl
        exact ⟨n, Nat.lt_succ_self n, _,  by rfl, h⟩
      ·have h := of_false h hc15
       refine V_exit ?_
       obtain rfl := some_inj h
       exact ⟨_, rfl, by rfl⟩
    rintro o14 rfl
    have h := hko14
    clear hko14
    show V _ _ _ _
    obtain ⟨y25, hy25, h⟩ := of_bind h
    obtain ⟨y26, hy26, h⟩ := of_bind h
    obtain ⟨x27, hx27, h⟩ := of_sI h
    obtain ⟨y28, hy28, h⟩ := of_sI h
    refine V_sreg (mb 161 98592) [40] (s1 := ⟨bt 5 (.pt 40 0 :: .bot :: .bot :: Bo y6.2 :: bt 6 (I x27 :: I y28 :: bt 144 [])), [(40, .box [Ti y5.1.1, Ti y5.1.2.1, Ti y5.1.2.2])]⟩) ?_ ?_
    ·refine XR 1 ?_
     refine XC (s_laws_numberOf hy25) cf_laws_numberOf rfl rfl rfl ?_
     refine L0 rfl rfl (Y0_rem (k := .i64) (a := y25) (b := 7) rfl (by kernel_rfl) (by kernel_rfl) (by decide)) ?_
     refine XR 2 ?_
     refine XC (s_laws_numberOf hy26) cf_laws_numberOf rfl rfl rfl ?_
     refine L0 rfl rfl (Y0_quo64 (a := y26) (b := 7) rfl (by kernel_rfl) (by kernel_rfl) (by decide)) ?_
     refine L0 rfl rfl (Y0_rem (k := .i64) (a := w64 (Int.tdiv y26 7)) (b := 7) rfl (by kernel_rfl) (by kernel_rfl) (by decide)) ?_
     refine XR 3 ?_
     refine XL_nil ?_
     subst hx27 hy28
     kernel_rfl
    obtain ⟨y29, hy29, h⟩ := of_bind h
    refine V_sreg (mb 161 491808) [40] (s1 := ⟨bt 5 (.pt 40 0 :: .bot :: .bot :: Bo y6.2 :: bt 6 (I x27 :: I y28 :: I y29.1 :: Bo y29.2 :: bt 142 [])), [(40, .box [Ti y5.1.1, Ti y5.1.2.1, Ti y5.1.2.2])]⟩) ?_ ?_
    ·refine XR 3 ?_
     refine XC (s_impl_ValueAt hy29) cf_impl_ValueAt rfl rfl rfl ?_
     exact XE
    obtain ⟨y30, hy30, h⟩ := of_bind h
    refine V_sreg (mb 161 2064672) [40] (s1 := ⟨bt 5 (.pt 40 0 :: .bot :: .bot :: Bo y6.2 :: bt 6 (I x27 :: I y28 :: I y29.1 :: Bo y29.2 :: I y30.1 :: Bo y30.2 :: bt 140 [])), [(40, .box [Ti y5.1.1, Ti y5.1.2.1, Ti y5.1.2.2])]⟩) ?_ ?_
    ·refine XR 3 ?_
     refine XC (s_spec_ValueAt hy30) cf_spec_ValueAt rfl rfl rfl ?_
     exact XE
    refine V_seq ?_
    refine V_sreg (mb 161 41538374868278621028243970633990432) [40] (s1 := ⟨bt 5 (.pt 40 0 :: .bot :: .bot :: Bo y6.2 :: bt 6 (I x27 :: I y28 :: I y29.1 :: bt 97 (Bo (bif (y29.2 != y30.2) then true else (!eqI y29.1 y30.1)) :: bt 45 []))), [(40, .box [Ti y5.1.1, Ti y5.1.2.1, Ti y5.1.2.2])]⟩) ?_ ?_
    ·refine XR 2 ?_
     refine L0 rfl rfl (Y0_neb (a := y29.2) (b := y30.2) Try.underlying4 rfl (by kernel_rfl) (by kernel_rfl)) ?_
     refine XR 1 ?_
     refine XL_split (y29.2 != y30.2) (fun hc31 => ?_) (fun hc31 => ?_)
     ·refine XL_skipF _ rfl rfl (by kernel_rfl) hc31 rfl ?_
      refine XL_skipF _ rfl rfl (by kernel_rfl) hc31 rfl ?_
      refine XL_skipF _ rfl rfl (by kernel_rfl) hc31 rfl ?_
      refine XL_cons rfl (X_of_Y0 rfl (Y0_pick1 (b := y29.2 != y30.2) (p := true) (q := !eqI y29.1 y30.1) rfl (by kernel_rfl) hc31 (by kernel_rfl))) ?_
      exact XE
     ·refine XL_takeC _ rfl rfl (by kernel_rfl) hc31 (X_of_Y0 rfl (E_move (I y29.1) rfl (by kernel_rfl))) ?_
      refine XL_takeC _ rfl rfl (by kernel_rfl) hc31 (X_of_Y0 rfl (E_move (I y30.1) rfl (by kernel_rfl))) ?_
      refine XL_takeC _ rfl rfl (by kernel_rfl) hc31 (X_of_Y0 rfl (Y0_new (k := .i64) (a := y29.1) (b := y30.1) rfl (by kernel_rfl) (by kernel_rfl))) ?_
      refine XL_cons rfl (X_of_Y0 rfl (Y0_pick0 (b := y29.2 != y30.2) (p := true) (q := !eqI y29.1 y30.1) rfl (by kernel_rfl) hc31 (by kernel_rfl))) ?_
      exact XE
    refine V_cond rfl (fun hc32 => ?_) (fun hc32 => ?_)
    ·have h := of_true h hc32
     refine V_e (mb 161 16) [] (s1 := ⟨bt 4 (Bo false :: bt 156 []), []⟩) ?_
     refine V_ret ?_
     obtain rfl := some_inj h
     show Post _ _ _ _ _
     exact ⟨.inr rfl, rfl, rfl, rfl⟩
    ·have h := of_false h hc32
     refine V_skip ?_
     show V _ _ _ _
     refine V_seq ?_
     obtain ⟨b35, hb35, h⟩ := of_bind h
     obtain ⟨b39, hb39, h⟩ := of_bind h
     refine V_sreg (mb 161 2722258935367507707706996859454145822752) [40] (s1 := ⟨bt 5 (.pt 40 0 :: bt 11 (I y29.1 :: bt 113 (Bo b39 :: bt 29 []))), [(40, .box [Ti y5.1.1, Ti y5.1.2.1, Ti y5.1.2.2])]⟩) ?_ ?_
     ·refine XR 2 ?_
      refine XL_split y6.2 (fun hc33 => ?_) (fun hc33 => ?_)
      ·have hb35 := of_true hb35 hc33
       obtain ⟨y34, hy34, hb35⟩ := of_bind hb35
       have hb35 := some_inj hb35
       refine XL_takeC _ rfl rfl (by kernel_rfl) hc33 (X_of_Y0 rfl (E_move (I x27) rfl (by kernel_rfl))) ?_
       refine XL_takeC _ rfl rfl (by kernel_rfl) hc33 (X_of_Y0 rfl (E_move (I y28) rfl (by kernel_rfl))) ?_
       refine XL_takeC _ rfl rfl (by kernel_rfl) hc33 (X_of_Y1 rfl (Y1_call (s_laws_qGcd hy34) cf_laws_qGcd rfl (by kernel_rfl))) ?_
       refine XL_takeC _ rfl rfl (by kernel_rfl) hc33 (X_of_Y0 rfl (Y0_eqw (k := .i64) (a := y34) (b := 1) rfl (by kernel_rfl) (by kernel_rfl))) ?_
       refine XL_cons rfl (X_of_Y0 rfl (Y0_pickTe (b := y6.2) (p := eqI y34 1) rfl (by kernel_rfl) hc33 (by kernel_rfl) hb35)) ?_
       refine XR 1 ?_
       refine XL_split b35 (fun hc36 => ?_) (fun hc36 => ?_)
       ·refine XL_takeC _ rfl rfl (by kernel_rfl) hc36 (X_of_Y0 rfl (E_move (I y29.1) rfl (by kernel_rfl))) ?_
        refine XL_takeC _ rfl rfl (by kernel_rfl) hc36 (X_of_Y0 rfl (Y0_new (k := .i64) (a := y29.1) (b := 0) rfl (by kernel_rfl) (by kernel_rfl))) ?_
        refine XL_cons rfl (X_of_Y0 rfl (Y0_pick1 (b := b35) (p := !eqI y29.1 0) (q := false) rfl (by kernel_rfl) hc36 (by kernel_rfl))) ?_
        refine XR 1 ?_
        refine XL_split (bif b35 then (!eqI y29.1 0) else false) (fun hc37 => ?_) (fun hc37 => ?_)
        ·have hb39 := of_true hb39 hc37
         obtain ⟨y38, hy38, hb39⟩ := of_bind hb39
         have hb39 := some_inj hb39
         refine XL_takeC _ rfl rfl (by kernel_rfl) hc37 (X_of_Y0 rfl (E_move (I y29.1) rfl (by kernel_rfl))) ?_
         refine XL_takeC _ rfl rfl (by kernel_rfl) hc37 (X_of_Y1 rfl (Y1_call (s_laws_qAbs hy38) cf_laws_qAbs rfl (by kernel_rfl))) ?_
         refine XL_takeC _ rfl rfl (by kernel_rfl) hc37 (X_of_Y0 rfl (Y0_lew (k := .i64) (a := y38) (b := 200) rfl (by kernel_rfl) (by kernel_rfl))) ?_
         refine XL_cons rfl (X_of_Y0 rfl (Y0_pickTe (b := bif b35 then (!eqI y29.1 0) else false) (p := leI y38 200) rfl (by kernel_rfl) hc37 (by kernel_rfl) hb39)) ?_
         exact XE
        ·have hb39 := some_inj (of_false hb39 hc37)
         refine XL_skipT _ rfl rfl (by kernel_rfl) hc37 rfl ?_
         refine XL_skipT _ rfl rfl (by kernel_rfl) hc37 rfl ?_
         refine XL_skipT _ rfl rfl (by kernel_rfl) hc37 rfl ?_
         refine XL_cons rfl (X_of_Y0 rfl (Y0_pickFe (b := bif b35 then (!eqI y29.1 0) else false) (p := false) rfl (by kernel_rfl) hc37 (by kernel_rfl) hb39)) ?_
         exact XE
       ·refine XL_skipT _ rfl rfl (by kernel_rfl) hc36 rfl ?_
        refine XL_skipT _ rfl rfl (by kernel_rfl) hc36 rfl ?_
        refine XL_cons rfl (X_of_Y0 rfl (Y0_pick0 (b := b35) (p := !eqI y29.1 0) (q := false) rfl (by kernel_rfl) hc36 (by kernel_rfl))) ?_
        refine XR 1 ?_
        refine XL_split (bif b35 then (!eqI y29.1 0) else false) (fun hc37 => ?_) (fun hc37 => ?_)
        ·have hb39 := of_true hb39 hc37
         obtain ⟨y38, hy38, hb39⟩ := of_bind hb39
         have hb39 := some_inj hb39
         refine XL_takeC _ rfl rfl (by kernel_rfl) hc37 (X_of_Y0 rfl (E_move (I y29.1) rfl (by kernel_rfl))) ?_
         refine XL_takeC _ rfl rfl (by kernel_rfl) hc37 (X_of_Y1 rfl (Y1_call (s_laws_qAbs hy38) cf_laws_qAbs rfl (by kernel_rfl))) ?_
         refine XL_takeC _ rfl rfl (by kernel_rfl) hc37 (X_of_Y0 rfl (Y0_lew (k := .i64) (a := y38) (b := 200) rfl (by kernel_rfl) (by kernel_rfl))) ?_
         refine XL_cons rfl (X_of_Y0 rfl (Y0_pickTe (b := bif b35 then (!eqI y29.1 0) else false) (p := leI y38 200) rfl (by kernel_rfl) hc37 (by kernel_rfl) hb39)) ?_
         exact XE
        ·have hb39 := some_inj (of_false hb39 hc37)
         refine XL_skipT _ rfl rfl (by kernel_rfl) hc37 rfl ?_
         refine XL_skipT _ rfl rfl (by kernel_rfl) hc37 rfl ?_
         refine XL_skipT _ rfl rfl (by kernel_rfl) hc37 rfl ?_
         refine XL_cons rfl (X_of_Y0 rfl (Y0_pickFe (b := bif b35 then (!eqI y29.1 0) else false) (p := false) rfl (by kernel_rfl) hc37 (by kernel_rfl) hb39)) ?_
         exact XE
      ·have hb35 := some_inj (of_false hb35 hc33)
       refine XL_skipT _ rfl rfl (by kernel_rfl) hc33 rfl ?_
       refine XL_skipT _ rfl rfl (by kernel_rfl) hc33 rfl ?_
       refine XL_skipT _ rfl rfl (by kernel_rfl) hc33 rfl ?_
       refine XL_skipT _ rfl rfl (by kernel_rfl) hc33 rfl ?_
       refine XL_cons rfl (X_of_Y0 rfl (Y0_pickFe (b := y6.2) (p := false) rfl (by kernel_rfl) hc33 (by kernel_rfl) hb35)) ?_
       refine XR 1 ?_
       refine XL_split b35 (fun hc36 => ?_) (fun hc36 => ?_)
       ·refine XL_takeC _ rfl rfl (by kernel_rfl) hc36 (X_of_Y0 rfl (E_move (I y29.1) rfl (by kernel_rfl))) ?_
        refine XL_takeC _ rfl rfl (by kernel_rfl) hc36 (X_of_Y0 rfl (Y0_new (k := .i64) (a := y29.1) (b := 0) rfl (by kernel_rfl) (by kernel_rfl))) ?_
        refine XL_cons rfl (X_of_Y0 rfl (Y0_pick1 (b := b35) (p := !eqI y29.1 0) (q := false) rfl (by kernel_rfl) hc36 (by kernel_rfl))) ?_
        refine XR 1 ?_
        refine XL_split (bif b35 then (!eqI y29.1 0) else false) (fun hc37 => ?_) (fun hc37 => ?_)
        ·have hb39 := of_true hb39 hc37
         obtain ⟨y38, hy38, hb39⟩ := of_bind hb39
         have hb39 := some_inj hb39
         refine XL_takeC _ rfl rfl (by kernel_rfl) hc37 (X_of_Y0 rfl (E_move (I y29.1) rfl (by kernel_rfl))) ?_
         refine XL_takeC _ rfl rfl (by kernel_rfl) hc37 (X_of_Y1 rfl (Y1_call (s_laws_qAbs hy38) cf_laws_qAbs rfl (by kernel_rfl))) ?_
         refine XL_takeC _ rfl rfl (by kernel_rfl) hc37 (X_of_Y0 rfl (Y0_lew (k := .i64) (a := y38) (b := 200) rfl (by kernel_rfl) (by kernel_rfl))) ?_
         refine XL_cons rfl (X_of_Y0 rfl (Y0_pickTe (b := bif b35 then (!eqI y29.1 0) else false) (p := leI y38 200) rfl (by kernel_rfl) hc37 (by kernel_rfl) hb39)) ?_
         exact XE
        ·have hb39 := some_inj (of_false hb39 hc37)
         refine XL_skipT _ rfl rfl (by kernel_rfl) hc37 rfl ?_
         refine XL_skipT _ rfl rfl (by kernel_rfl) hc37 rfl ?_
         refine XL_skipT _ rfl rfl (by kernel_rfl) hc37 rfl ?_
         refine XL_cons rfl (X_of_Y0 rfl (Y0_pickFe (b := bif b35 then (!eqI y29.1 0) else false) (p := false) rfl (by kernel_rfl) hc37 (by kernel_rfl) hb39)) ?_
         exact XE
       ·refine XL_skipT _ rfl rfl (by kernel_rfl) hc36 rfl ?_
        refine XL_skipT _ rfl rfl (by kernel_rfl) hc36 rfl ?_
        refine XL_cons rfl (X_of_Y0 rfl (Y0_pick0 (b := b35) (p := !eqI y29.1 0) (q := false) rfl (by kernel_rfl) hc36 (by kernel_rfl))) ?_
        refine XR 1 ?_
        refine XL_split (bif b35 then (!eqI y29.1 0) else false) (fun hc37 => ?_) (fun hc37 => ?_)
        ·have hb39 := of_true hb39 hc37
         obtain ⟨y38, hy38, hb39⟩ := of_bind hb39
         have hb39 := some_inj hb39
         refine XL_takeC _ rfl rfl (by kernel_rfl) hc37 (X_of_Y0 rfl (E_move (I y29.1) rfl (by kernel_rfl))) ?_
         refine XL_takeC _ rfl rfl (by kernel_rfl) hc37 (X_of_Y1 rfl (Y1_call (s_laws_qAbs hy38) cf_laws_qAbs rfl (by kernel_rfl))) ?_
         refine XL_takeC _ rfl rfl (by kernel_rfl) hc37 (X_of_Y0 rfl (Y0_lew (k := .i64) (a := y38) (b := 200) rfl (by kernel_rfl) (by kernel_rfl))) ?_
         refine XL_cons rfl (X_of_Y0 rfl (Y0_pickTe (b := bif b35 then (!eqI y29.1 0) else false) (p := leI y38 200) rfl (by kernel_rfl) hc37 (by kernel_rfl) hb39)) ?_
         exact XE
        ·have hb39 := some_inj (of_false hb39 hc37)
         refine XL_skipT _ rfl rfl (by kernel_rfl) hc37 rfl ?_
         refine XL_skipT _ rfl rfl (by kernel_rfl) hc37 rfl ?_
         refine XL_skipT _ rfl rfl (by kernel_rfl) hc37 rfl ?_
         refine XL_cons rfl (X_of_Y0 rfl (Y0_pickFe (b := bif b35 then (!eqI y29.1 0) else false) (p := false) rfl (by kernel_rfl) hc37 (by kernel_rfl) hb39)) ?_
         exact XE
     refine V_cond rfl (fun hc40 => ?_) (fun hc40 => ?_)
     ·have h := of_true h hc40
      obtain ⟨y41, hy41, h⟩ := of_bind h
      refine V_sreg (mb 161 6422560) [1080, 40] (s1 := ⟨bt 5 (.pt 40 0 :: bt 11 (I y29.1 :: bt 3 (.ow 1080 :: Bo y41.2 :: bt 138 []))), [(1080, .arr 34 2 (y41.1.map c34)), (40, .box [Ti y5.1.1, Ti y5.1.2.1, Ti y5.1.2.2])]⟩) ?_ ?_
      ·refine XR 2 ?_
       refine XC (s_impl_IndefinitePoints hy41) cf_impl_IndefinitePoints rfl rfl rfl ?_
       exact XE
      obtain ⟨y42, hy42, h⟩ := of_bind h
      refine V_sreg (mb 161 31457280) [1128, 1080] (s1 := ⟨bt 21 (.ow 1080 :: Bo y41.2 :: .ow 1128 :: Bo y42.2 :: bt 136 []), [(1128, .arr 34 2 (y42.1.map c34)), (1080, .arr 34 2 (y41.1.map c34))]⟩) ?_ ?_
      ·refine XR 2 ?_
       refine XC (s_spec_IndefinitePoints hy42) cf_spec_IndefinitePoints rfl rfl rfl ?_
       exact XE
      obtain ⟨b45, hb45, h⟩ := of_bind h
      obtain ⟨t48, ht48, h⟩ := of_bind h
      have ht48 := some_inj ht48
      refine V_sreg (mb 161 16) [] (s1 := ⟨bt 4 (Bo t48 :: bt 156 []), []⟩) ?_ ?_
      ·refine XR 2 ?_
       refine L0 rfl rfl (Y0_eqb (a := y41.2) (b := y42.2) Try.underlying4 rfl (by kernel_rfl) (by kernel_rfl)) ?_
       refine XR 1 ?_
       refine XL_split (y41.2 == y42.2) (fun hc43 => ?_) (fun hc43 => ?_)
       ·have hb45 := of_true hb45 hc43
        obtain ⟨y44, hy44, hb45⟩ := of_bind hb45
        have hb45 := some_inj hb45
        refine XL_takeC _ rfl rfl (by kernel_rfl) hc43 (X_of_Y0 rfl (E_move (.ow 1080) rfl (by kernel_rfl))) ?_
        refine XL_takeC _ rfl rfl (by kernel_rfl) hc43 (X_of_Y0 rfl (E_move (.ow 1128) rfl (by kernel_rfl))) ?_
        refine XL_takeC _ rfl rfl (by kernel_rfl) hc43 (X_of_Y1 rfl (Y1_callS (s_laws_qPoints hy44) cf_laws_qPoints rfl (by kernel_rfl) rfl rfl)) ?_
        refine XL_cons rfl (X_of_Y0 rfl (Y0_pickTe (b := y41.2 == y42.2) (p := y44) rfl (by kernel_rfl) hc43 (by kernel_rfl) hb45)) ?_
        refine XR 1 ?_
        refine XL_split b45 (fun hc46 => ?_) (fun hc46 => ?_)
        ·refine XL_takeC _ rfl rfl (by kernel_rfl) hc46 (X_of_Y0 rfl (E_move (Bo y42.2) rfl (by kernel_rfl))) ?_
         refine XL_takeC _ rfl rfl (by kernel_rfl) hc46 (X_of_Y0 rfl (Y0_not (b := y42.2) rfl (by kernel_rfl))) ?_
         refine XL_takeC _ rfl rfl (by kernel_rfl) hc46 (X_of_Y0 rfl (E_move (Bo (!y42.2)) rfl (by kernel_rfl))) ?_
         refine XL_split (!y42.2) (fun hc47 => ?_) (fun hc47 => ?_)
         ·refine XL_skipF _ rfl rfl (by kernel_rfl) hc47 rfl ?_
          refine XL_skipF _ rfl rfl (by kernel_rfl) hc47 rfl ?_
          refine XL_skipF _ rfl rfl (by kernel_rfl) hc47 rfl ?_
          refine XL_takeC _ rfl rfl (by kernel_rfl) hc46 (X_of_Y0 rfl (Y0_pick1 (b := !y42.2) (p := true) (q := ltI 0 ((y42.1.length : Int))) rfl (by kernel_rfl) hc47 (by kernel_rfl))) ?_
          refine XL_cons rfl (X_of_Y0 rfl (Y0_pick1 (b := b45) (p := bif (!y42.2) then true else (ltI 0 ((y42.1.length : Int)))) (q := false) rfl (by kernel_rfl) hc46 (by kernel_rfl))) ?_
          refine XR 1 ?_
          refine XL_nil ?_
          subst ht48
          kernel_rfl
         ·refine XL_takeC _ rfl rfl (by kernel_rfl) hc47 (X_of_Y0 rfl (E_move (.ow 1128) rfl (by kernel_rfl))) ?_
          refine XL_takeC _ rfl rfl (by kernel_rfl) hc47 (X_of_Y0 rfl (Y0_lenM (c := c34) (xs := y42.1) Try.underlying71 rfl (by kernel_rfl))) ?_
          refine XL_takeC _ rfl rfl (by kernel_rfl) hc47 (X_of_Y0 rfl (Y0_gtw (k := .i64) (a := (y42.1.length : Int)) (b := 0) rfl (by kernel_rfl) (by kernel_rfl))) ?_
          refine XL_takeC _ rfl rfl (by kernel_rfl) hc46 (X_of_Y0 rfl (Y0_pick0 (b := !y42.2) (p := true) (q := ltI 0 ((y42.1.length : Int))) rfl (by kernel_rfl) hc47 (by kernel_rfl))) ?_
          refine XL_cons rfl (X_of_Y0 rfl (Y0_pick1 (b := b45) (p := bif (!y42.2) then true else (ltI 0 ((y42.1.length : Int)))) (q := false) rfl (by kernel_rfl) hc46 (by kernel_rfl))) ?_
          refine XR 1 ?_
          refine XL_nil ?_
          subst ht48
          kernel_rfl
        ·refine XL_skipT _ rfl rfl (by kernel_rfl) hc46 rfl ?_
         refine XL_skipT _ rfl rfl (by kernel_rfl) hc46 rfl ?_
         refine XL_skipT _ rfl rfl (by kernel_rfl) hc46 rfl ?_
         refine XL_skip2 rfl rfl (by kernel_rfl) rfl ?_
         refine XL_skip2 rfl rfl (by kernel_rfl) rfl ?_
         refine XL_skip2 rfl rfl (by kernel_rfl) rfl ?_
         refine XL_skipT _ rfl rfl (by kernel_rfl) hc46 rfl ?_
         refine XL_cons rfl (X_of_Y0 rfl (Y0_pick0 (b := b45) (p := bif (!y42.2) then true else (ltI 0 ((y42.1.length : Int)))) (q := false) rfl (by kernel_rfl) hc46 (by kernel_rfl))) ?_
         refine XR 1 ?_
         refine XL_nil ?_
         subst ht48
         kernel_rfl
       ·have hb45 := some_inj (of_false hb45 hc43)
        refine XL_skipT _ rfl rfl (by kernel_rfl) hc43 rfl ?_
        refine XL_skipT _ rfl rfl (by kernel_rfl) hc43 rfl ?_
        refine XL_skipT _ rfl rfl (by kernel_rfl) hc43 rfl ?_
        refine XL_cons rfl (X_of_Y0 rfl (Y0_pickFe (b := y41.2 == y42.2) (p := false) rfl (by kernel_rfl) hc43 (by kernel_rfl) hb45)) ?_
        refine XR 1 ?_
        refine XL_split b45 (fun hc46 => ?_) (fun hc46 => ?_)
        ·refine XL_takeC _ rfl rfl (by kernel_rfl) hc46 (X_of_Y0 rfl (E_move (Bo y42.2) rfl (by kernel_rfl))) ?_
         refine XL_takeC _ rfl rfl (by kernel_rfl) hc46 (X_of_Y0 rfl (Y0_not (b := y42.2) rfl (by kernel_rfl))) ?_
         refine XL_takeC _ rfl rfl (by kernel_rfl) hc46 (X_of_Y0 rfl (E_move (Bo (!y42.2)) rfl (by kernel_rfl))) ?_
         refine XL_split (!y42.2) (fun hc47 => ?_) (fun hc47 => ?_)
         ·refine XL_skipF _ rfl rfl (by kernel_rfl) hc47 rfl ?_
          refine XL_skipF _ rfl rfl (by kernel_rfl) hc47 rfl ?_
          refine XL_skipF _ rfl rfl (by kernel_rfl) hc47 rfl ?_
          refine XL_takeC _ rfl rfl (by kernel_rfl) hc46 (X_of_Y0 rfl (Y0_pick1 (b := !y42.2) (p := true) (q := ltI 0 ((y42.1.length : Int))) rfl (by kernel_rfl) hc47 (by kernel_rfl))) ?_
          refine XL_cons rfl (X_of_Y0 rfl (Y0_pick1 (b := b45) (p := bif (!y42.2) then true else (ltI 0 ((y42.1.length : Int)))) (q := false) rfl (by kernel_rfl) hc46 (by kernel_rfl))) ?_
          refine XR 1 ?_
          refine XL_nil ?_
          subst ht48
          kernel_rfl
         ·refine XL_takeC _ rfl rfl (by kernel_rfl) hc47 (X_of_Y0 rfl (E_move (.ow 1128) rfl (by kernel_rfl))) ?_
          refine XL_takeC _ rfl rfl (by kernel_rfl) hc47 (X_of_Y0 rfl (Y0_lenM (c := c34) (xs := y42.1) Try.underlying71 rfl (by kernel_rfl))) ?_
          refine XL_takeC _ rfl rfl (by kernel_rfl) hc47 (X_of_Y0 rfl (Y0_gtw (k := .i64) (a := (y42.1.length : Int)) (b := 0) rfl (by kernel_rfl) (by kernel_rfl))) ?_
          refine XL_takeC _ rfl rfl (by kernel_rfl) hc46 (X_of_Y0 rfl (Y0_pick0 (b := !y42.2) (p := true) (q := ltI 0 ((y42.1.length : Int))) rfl (by kernel_rfl) hc47 (by kernel_rfl))) ?_
          refine XL_cons rfl (X_of_Y0 rfl (Y0_pick1 (b := b45) (p := bif (!y42.2) then true else (ltI 0 ((y42.1.length : Int)))) (q := false) rfl (by kernel_rfl) hc46 (by kernel_rfl))) ?_
          refine XR 1 ?_
          refine XL_nil ?_
          subst ht48
          kernel_rfl
        ·refine XL_skipT _ rfl rfl (by kernel_rfl) hc46 rfl ?_
         refine XL_skipT _ rfl rfl (by kernel_rfl) hc46 rfl ?_
         refine XL_skipT _ rfl rfl (by kernel_rfl) hc46 rfl ?_
         refine XL_skip2 rfl rfl (by kernel_rfl) rfl ?_
         refine XL_skip2 rfl rfl (by kernel_rfl) rfl ?_
         refine XL_skip2 rfl rfl (by kernel_rfl) rfl ?_
         refine XL_skipT _ rfl rfl (by kernel_rfl) hc46 rfl ?_
         refine XL_cons rfl (X_of_Y0 rfl (Y0_pick0 (b := b45) (p := bif (!y42.2) then true else (ltI 0 ((y42.1.length : Int)))) (q := false) rfl (by kernel_rfl) hc46 (by kernel_rfl))) ?_
         refine XR 1 ?_
         refine XL_nil ?_
         subst ht48
         kernel_rfl
      refine V_ret ?_
      obtain rfl := some_inj h
      show Post _ _ _ _ _
      exact ⟨.inr rfl, rfl, rfl, rfl⟩
     ·have h := of_false h hc40
      refine V_skip ?_
      show V _ _ _ _
      refine V_e (mb 161 16) [] (s1 := ⟨bt 4 (Bo true :: bt 156 []), []⟩) ?_
      refine V_ret ?_
      obtain rfl := some_inj h
      show Post _ _ _ _ _
      exact ⟨.inr rfl, rfl, rfl, rfl⟩
end Go.Proofs.Ytgeajejmikaniaa
