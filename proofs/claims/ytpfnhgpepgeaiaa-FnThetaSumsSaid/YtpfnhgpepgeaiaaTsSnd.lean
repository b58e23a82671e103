/-
  The functions of the program compute what the plain functions say: more of them.
  Conditions: none.
-/
import Derived.Test.YtpfnhgpepgeaiaaTsSnd2
namespace Go.Proofs.Ytpfnhgpepgeaiaa
open Go.RowKit
set_option linter.unusedVariables false
set_option linter.unusedSimpArgs false
theorem cf_impl_DivisorSeries : ∀ args w, (callFunc 27 args).run Try.prog w = .ok (.enter 27 args) w := run_callFunc Try.func27 (by kernel_rfl) (by kernel_rfl)
set_option maxRecDepth 100000 in
set_option maxHeartbeats 400000 in
theorem s_impl_DivisorSeries {d1 : Int} {vn2 : Int} {r : ((List Int) × Bool)} (h : r_impl_DivisorSeries d1 vn2 = some r) : CallS Try.prog 27 [I d1, I vn2] (.tc (.ow 0) (.tc (Bo r.2) .tn)) [(0, .arr 3 1 (r.1.map c3))] := by
  refine CallS_of_text (rs := [.t 4, .t 5]) (vs := [.tmp 4, .tmp 5]) Try.func27 rfl rfl (.cons rfl (.cons rfl FitsL.nil)) (by decide) 43 rfl ?_
  unfold r_impl_DivisorSeries at h
  show V _ _ ⟨I d1 :: I vn2 :: bt 41 [], []⟩ _
  refine V_sreg (mb 43 3) [] (s1 := ⟨I d1 :: I vn2 :: bt 41 [], []⟩) ?_ ?_
  ·refine L1 rfl rfl (Y1_nil (e := 3) 1 (by decide) (.inl rfl)) ?_
   refine L0 rfl rfl (E_assign (Bo false) rfl (by kernel_rfl)) ?_
   refine XL_nil ?_
   kernel_rfl
  refine V_seq ?_
  obtain ⟨y3, hy3, h⟩ := of_bind h
  obtain ⟨b6, hb6, h⟩ := of_bind h
  refine V_sreg (mb 43 65539) [] (s1 := ⟨I d1 :: I vn2 :: bt 14 (Bo b6 :: bt 26 []), []⟩) ?_ ?_
  ·refine L0 rfl rfl (E_move (I d1) rfl (by kernel_rfl)) ?_
   refine L1 rfl rfl (Y1_call (s_impl_isNegativeDisc hy3) cf_impl_isNegativeDisc rfl (by kernel_rfl)) ?_
   refine L0 rfl rfl (Y0_not (b := y3) rfl (by kernel_rfl)) ?_
   refine L0 rfl rfl (E_move (Bo (!y3)) rfl (by kernel_rfl)) ?_
   refine XL_split (!y3) (fun hc4 => ?_) (fun hc4 => ?_)
   ·have hb6 := some_inj (of_true hb6 hc4)
    refine XL_skipF _ rfl rfl (by kernel_rfl) hc4 rfl ?_
    refine XL_skipF _ rfl rfl (by kernel_rfl) hc4 rfl ?_
    refine XL_skipF _ rfl rfl (by kernel_rfl) hc4 rfl ?_
    refine XL_cons rfl (X_of_Y0 rfl (Y0_pickTe (b := !y3) (p := true) rfl (by kernel_rfl) hc4 (by kernel_rfl) hb6)) ?_
    refine XL_nil ?_
    kernel_rfl
   ·have hb6 := of_false hb6 hc4
    obtain ⟨y5, hy5, hb6⟩ := of_bind hb6
    have hb6 := some_inj hb6
    refine XL_takeC _ rfl rfl (by kernel_rfl) hc4 (X_of_Y0 rfl (E_move (I vn2) rfl (by kernel_rfl))) ?_
    refine XL_takeC _ rfl rfl (by kernel_rfl) hc4 (X_of_Y1 rfl (Y1_call (s_impl_isTerms hy5) cf_impl_isTerms rfl (by kernel_rfl))) ?_
    refine XL_takeC _ rfl rfl (by kernel_rfl) hc4 (X_of_Y0 rfl (Y0_not (b := y5) rfl (by kernel_rfl))) ?_
    refine XL_cons rfl (X_of_Y0 rfl (Y0_pickFe (b := !y3) (p := !y5) rfl (by kernel_rfl) hc4 (by kernel_rfl) hb6)) ?_
    refine XL_nil ?_
    kernel_rfl
  refine V_cond rfl (fun hc7 => ?_) (fun hc7 => ?_)
  ·have h := of_true h hc7
   refine V_sreg (mb 43 48) [136] (s1 := ⟨bt 4 (.ow 136 :: Bo false :: bt 37 []), [(136, .arr 3 1 ((([] : List Int)).map c3))]⟩) ?_ ?_
   ·refine L1 rfl rfl (Y1_bslice0 Try.underlying28 sz3 (by decide) rfl rfl) ?_
    refine L0 rfl rfl (E_assign (.ow 136) rfl (by kernel_rfl)) ?_
    refine L0 rfl rfl (E_assign (Bo false) rfl (by kernel_rfl)) ?_
    refine XL_nil ?_
    kernel_rfl
   refine V_ret ?_
   obtain rfl := some_inj h
   show Post _ _ _ _ _
   exact ⟨.inr rfl, rfl, rfl, rfl⟩
  ·have h := of_false h hc7
   refine V_skip ?_
   show V _ _ _ _
   obtain ⟨u8, hu8, h⟩ := of_bind h
   refine V_sreg (mb 43 67) [160] (s1 := ⟨I d1 :: I vn2 :: bt 4 (.ow 160 :: bt 36 []), [(160, .arr 3 1 ((List.replicate (Int.toNat (w64 (vn2 + 1))) ((0 : Int))).map c3))]⟩) ?_ ?_
   ·refine L0 rfl rfl (E_move (I vn2) rfl (by kernel_rfl)) ?_
    refine L0 rfl rfl (Y0_add64 (a := vn2) (b := 1) rfl (by kernel_rfl) (by kernel_rfl)) ?_
    refine L1 rfl rfl (Y1_make (c := c3) (zx := (0 : Int)) (z := zv3) (l := w64 (vn2 + 1)) (k := w64 (vn2 + 1)) Try.underlying28 izb3 rfl rfl (by decide) rfl rfl (by kernel_rfl) (by kernel_rfl) (mk_some hu8) (by decide)) ?_
    refine L0 rfl rfl (E_assign (.ow 160) rfl (by kernel_rfl)) ?_
    refine XL_nil ?_
    kernel_rfl
   refine V_seq ?_
   refine V_sreg (mb 43 195) [160] (s1 := ⟨I d1 :: I vn2 :: bt 4 (.ow 160 :: I 1 :: bt 35 []), [(160, .arr 3 1 ((List.replicate (Int.toNat (w64 (vn2 + 1))) ((0 : Int))).map c3))]⟩) ?_ ?_
   ·refine L0 rfl rfl (E_assign (I 1) rfl (by kernel_rfl)) ?_
    refine XL_nil ?_
    kernel_rfl
   obtain ⟨o12, hLo12, h⟩ := of_bind h
   refine V_toK (mb 43 64) [160] (s1 := ⟨bt 6 (.ow 160 :: bt 36 []), [(160, .arr 3 1 (o12.map c3))]⟩) ?_ ?_
   ·clear h
    refine V_block (V_loop (fun n s => ∃ (e9 : Int) (l10 : List Int), s.keep (mb 43 195) [160] = (⟨I d1 :: I vn2 :: bt 4 (.ow 160 :: I e9 :: bt 35 []), [(160, .arr 3 1 (l10.map c3))]⟩ : St) ∧ r_impl_DivisorSeries_L11 d1 vn2 n e9 l10 = some o12) FU ⟨_, _,  by rfl, hLo12⟩ ?_)
    clear hLo12
    rintro n s ⟨e9, l10, hs, h⟩
    refine V_keep _ _ hs ?_
    clear hs
    cases n with
    | zero => cases h
    | succ n =>
     rw [r_impl_DivisorSeries_L11] at h
     refine V_seq ?_
     refine V_sreg (mb 43 8388803) [160] (s1 := ⟨I d1 :: I vn2 :: bt 4 (.ow 160 :: I e9 :: bt 15 (Bo (leI e9 vn2) :: bt 19 [])), [(160, .arr 3 1 (l10.map c3))]⟩) ?_ ?_
     ·refine L0 rfl rfl (E_move (I e9) rfl (by kernel_rfl)) ?_
      refine L0 rfl rfl (E_move (I vn2) rfl (by kernel_rfl)) ?_
      refine L0 rfl rfl (Y0_lew (k := .i64) (a := e9) (b := vn2) rfl (by kernel_rfl) (by kernel_rfl)) ?_
      refine XL_nil ?_
      kernel_rfl
     refine V_cond rfl (fun hc13 => ?_) (fun hc13 => ?_)
     ·have h := of_true h hc13
      refine V_skip ?_
      show V _ _ _ _
      refine V_seq ?_
      refine V_block ?_
      refine V_sreg (mb 43 451) [160] (s1 := ⟨I d1 :: I vn2 :: bt 4 (.ow 160 :: I e9 :: I e9 :: bt 34 []), [(160, .arr 3 1 (l10.map c3))]⟩) ?_ ?_
      ·refine L0 rfl rfl (E_move (I e9) rfl (by kernel_rfl)) ?_
       refine L0 rfl rfl (E_assign (I e9) rfl (by kernel_rfl)) ?_
       refine XL_nil ?_
       kernel_rfl
      obtain ⟨o17, hLo17, h⟩ := of_bind h
      refine V_toK (mb 43 195) [160] (s1 := ⟨I d1 :: I vn2 :: bt 4 (.ow 160 :: I e9 :: bt 35 []), [(160, .arr 3 1 (o17.map c3))]⟩) ?_ ?_
      ·clear h
       refine V_block (V_loop (fun n s => ∃ (vm14 : Int) (l15 : List Int), s.keep (mb 43 451) [160] = (⟨I d1 :: I vn2 :: bt 4 (.ow 160 :: I e9 :: I vm14 :: bt 34 []), [(160, .arr 3 1 (l15.map c3))]⟩ : St) ∧ r_impl_DivisorSeries_L16 d1 e9 vn2 n vm14 l15 = some o17) FU ⟨_, _,  by rfl, hLo17⟩ ?_)
       clear hLo17
       rintro n s ⟨vm14, l15, hs, h⟩
       refine V_keep _ _ hs ?_
       clear hs
       cases n with
       | zero => cases h
       | succ n =>
        rw [r_impl_DivisorSeries_L16] at h
        refine V_seq ?_
        refine V_sreg (mb 43 536871363) [160] (s1 := ⟨I d1 :: I vn2 :: bt 4 (.ow 160 :: I e9 :: I vm14 :: bt 20 (Bo (leI vm14 vn2) :: bt 13 [])), [(160, .arr 3 1 (l15.map c3))]⟩) ?_ ?_
        ·refine L0 rfl rfl (E_move (I vm14) rfl (by kernel_rfl)) ?_
         refine L0 rfl rfl (E_move (I vn2) rfl (by kernel_rfl)) ?_
         refine L0 rfl rfl (Y0_lew (k := .i64) (a := vm14) (b := vn2) rfl (by kernel_rfl) (by kernel_rfl)) ?_
         refine XL_nil ?_
         kernel_rfl
        refine V_cond rfl (fun hc18 => ?_) (fun hc18 => ?_)
        ·have h := of_true h hc18
         refine V_skip ?_
         show V _ _ _ _
         refine V_seq ?_
         refine V_block ?_
         obtain ⟨e19, he19, h⟩ := of_bind h
         obtain ⟨e20, he20, h⟩ := of_bind h
         obtain ⟨y21, hy21, h⟩ := of_bind h
         obtain ⟨e22, he22, h⟩ := of_bind h
         obtain ⟨e23, he23, h⟩ := of_bind h
         refine V_dreg [0, 0, 3, 7, 0, 0, 48, 127, 255, 511] 9 [[.z, .b, .z, .z, .b, .b, .b, .z, .z], [.b, .z, .z, .z, .b, .b, .b, .z, .z], [.a, .a, .z, .z, .b, .b, .b, .z, .z], [.a, .a, .a, .z, .b, .b, .b, .z, .z], [.b, .b, .b, .b, .z, .b, .z, .z, .z], [.b, .b, .b, .b, .b, .z, .z, .z, .z], [.b, .b, .b, .b, .a, .a, .z, .z, .z], [.a, .a, .a, .a, .a, .a, .a, .z, .z], [.a, .a, .a, .a, .a, .a, .a, .a, .z]] (mb 43 451) [160] (s1 := ⟨I d1 :: I vn2 :: bt 4 (.ow 160 :: I e9 :: I vm14 :: bt 34 []), [(160, .arr 3 1 ((l15.set (Int.toNat (vm14)) (w64 (e20 + y21))).map c3))]⟩) (by kernel_rfl) (by kernel_rfl) ?_ ?_
         ·refine DE_0 0 (.ow 160) (by kernel_rfl) rfl rfl rfl (gsat_none rfl) (by kernel_rfl) (E_move (.ow 160) rfl (by kernel_rfl)) 33 rfl ?_
          refine DE_0 1 (I vm14) (by kernel_rfl) rfl rfl rfl (gsat_none rfl) (by kernel_rfl) (E_move (I vm14) rfl (by kernel_rfl)) 34 rfl ?_
          refine DE_0 2 (.po 160 1 (Int.toNat (vm14)) 0) (by kernel_rfl) rfl rfl rfl (gsat_none rfl) (by kernel_rfl) (Y0_idxoM (c := c3) (xs := l15) (v := e19) (id := 160) (T := 3) (sz := 1) (n := vm14) Try.underlying28 sz3 rfl (by kernel_rfl) (by kernel_rfl) (by kernel_rfl) he19) 35 rfl ?_
          refine DE_0 3 (I e20) (by kernel_rfl) rfl rfl rfl (gsat_none rfl) (by kernel_rfl) (Y0_loado1 (c := c3) (xs := l15) (v := e20) (id := 160) (sz := 1) (T := 3) (off := 0) (n := vm14) (d := Ti e20) (ds := []) sc3 rfl (by kernel_rfl) (by kernel_rfl) he20 (by kernel_rfl)) 36 rfl ?_
          refine DE_0 4 (I d1) (by kernel_rfl) rfl rfl rfl (gsat_none rfl) (by kernel_rfl) (E_move (I d1) rfl (by kernel_rfl)) 37 rfl ?_
          refine DE_0 5 (I e9) (by kernel_rfl) rfl rfl rfl (gsat_none rfl) (by kernel_rfl) (E_move (I e9) rfl (by kernel_rfl)) 38 rfl ?_
          refine DE_1 6 (by kernel_rfl) rfl rfl rfl (gsat_none rfl) (Y1_call (s_impl_kronecker hy21) cf_impl_kronecker rfl (by kernel_rfl)) rfl rfl rfl 39 rfl ?_
          refine DE_0 7 (I (w64 (e20 + y21))) (by kernel_rfl) rfl rfl rfl (gsat_none rfl) (by kernel_rfl) (Y0_add64 (a := e20) (b := y21) rfl (by kernel_rfl) (by kernel_rfl)) 40 rfl ?_
          refine DE_0 8 (.po 160 1 (Int.toNat (vm14)) 0) (by kernel_rfl) rfl rfl rfl (gsat_none rfl) (by kernel_rfl) (Y0_idxoM (c := c3) (xs := l15) (v := e22) (id := 160) (T := 3) (sz := 1) (n := vm14) Try.underlying28 sz3 rfl (by kernel_rfl) (by kernel_rfl) (by kernel_rfl) he22) 41 rfl ?_
          refine DL_nil (by kernel_rfl) ?_
          refine XL_cons rfl (X_storeoM (c := c3) (xs := l15) (v := e23) (u := w64 (e20 + y21)) (id := 160) (sz := 1) (off := 0) (T0 := 3) (n := vm14) (vc := [Ti (w64 (e20 + y21))]) rfl rfl (by kernel_rfl) (by kernel_rfl) he23 (by kernel_rfl) sz3 (Nat.le_of_ble_eq_true rfl) (by kernel_rfl)) ?_
          refine XL_nil ?_
          kernel_rfl
         show V _ _ _ _
         obtain ⟨vm24, hvm24, h⟩ := of_sI h
         refine V_reg (mb 43 451) [160] (s1 := ⟨I d1 :: I vn2 :: bt 4 (.ow 160 :: I e9 :: I vm24 :: bt 34 []), [(160, .arr 3 1 ((l15.set (Int.toNat (vm14)) (w64 (e20 + y21))).map c3))]⟩) ?_ ?_
         ·refine L0 rfl rfl (E_move (I vm14) rfl (by kernel_rfl)) ?_
          refine L0 rfl rfl (E_move (I e9) rfl (by kernel_rfl)) ?_
          refine L0 rfl rfl (Y0_add64 (a := vm14) (b := e9) rfl (by kernel_rfl) (by kernel_rfl)) ?_
          refine L0 rfl rfl (E_assign (I (w64 (vm14 + e9))) rfl (by kernel_rfl)) ?_
          refine XL_nil ?_
          subst hvm24
          kernel_rfl
         exact ⟨n, Nat.lt_succ_self n, _, _,  by rfl, h⟩
        ·have h := of_false h hc18
         refine V_exit ?_
         obtain rfl := some_inj h
         show St.keep _ _ _ = _
         rfl
      show V _ _ _ _
      obtain ⟨e25, he25, h⟩ := of_sI h
      refine V_reg (mb 43 195) [160] (s1 := ⟨I d1 :: I vn2 :: bt 4 (.ow 160 :: I e25 :: bt 35 []), [(160, .arr 3 1 (o17.map c3))]⟩) ?_ ?_
      ·refine L0 rfl rfl (E_move (I e9) rfl (by kernel_rfl)) ?_
       refine L0 rfl rfl (Y0_add64 (a := e9) (b := 1) rfl (by kernel_rfl) (by kernel_rfl)) ?_
       refine L0 rfl rfl (E_assign (I (w64 (e9 + 1))) rfl (by kernel_rfl)) ?_
       refine XL_nil ?_
       subst he25
       kernel_rfl
      exact ⟨n, Nat.lt_succ_self n, _, _,  by rfl, h⟩
     ·have h := of_false h hc13
      refine V_exit ?_
      obtain rfl := some_inj h
      show St.keep _ _ _ = _
      rfl
   show V _ _ _ _
   refine V_sreg (mb 43 48) [160] (s1 := ⟨bt 4 (.ow 160 :: Bo true :: bt 37 []), [(160, .arr 3 1 (o12.map c3))]⟩) ?_ ?_
   ·refine L0 rfl rfl (E_move (.ow 160) rfl (by kernel_rfl)) ?_
    refine L0 rfl rfl (E_assign (.ow 160) rfl (by kernel_rfl)) ?_
    refine L0 rfl rfl (E_assign (Bo true) rfl (by kernel_rfl)) ?_
    refine XL_nil ?_
    kernel_rfl
   refine V_ret ?_
   obtain rfl := some_inj h
   show Post _ _ _ _ _
   exact ⟨.inr rfl, rfl, rfl, rfl⟩
theorem cf_laws_numberOf : ∀ args w, (callFunc 18 args).run Try.prog w = .ok (.enter 18 args) w := run_callFunc Try.func18 (by kernel_rfl) (by kernel_rfl)
set_option maxRecDepth 100000 in
set_option maxHeartbeats 400000 in
theorem s_laws_numberOf {b1 : List Int} {r : Int} (h : r_laws_numberOf b1 = some r) : CallS Try.prog 18 [.c (.sl (b1.map c5))] (I r) [] := by
  refine CallS_of_text (rs := [.t 2]) (vs := [.tmp 2]) Try.func18 rfl rfl (.cons rfl FitsL.nil) (by decide) 20 rfl ?_
  unfold r_laws_numberOf at h
  show V _ _ ⟨.c (.sl (b1.map c5)) :: bt 19 [], []⟩ _
  refine V_sreg (mb 20 1) [] (s1 := ⟨.c (.sl (b1.map c5)) :: bt 19 [], []⟩) ?_ ?_
  ·refine L0 rfl rfl (E_assign (I 0) rfl (by kernel_rfl)) ?_
   refine XL_nil ?_
   kernel_rfl
  refine V_sreg (mb 20 9) [] (s1 := ⟨.c (.sl (b1.map c5)) :: .bot :: .bot :: I 0 :: bt 16 [], []⟩) ?_ ?_
  ·refine L0 rfl rfl (E_assign (I 0) rfl (by kernel_rfl)) ?_
   refine XL_nil ?_
   kernel_rfl
  refine V_seq ?_
  refine V_sreg (mb 20 456) [] (s1 := ⟨bt 3 (I 0 :: .bot :: .bot :: .c (.sl (b1.map c5)) :: I ((b1.length : Int)) :: I 0 :: bt 11 []), []⟩) ?_ ?_
  ·refine L0 rfl rfl (E_move (.c (.sl (b1.map c5))) rfl (by kernel_rfl)) ?_
   refine L0 rfl rfl (Y0_lenM (c := c5) (xs := b1) Try.underlying22 rfl (by kernel_rfl)) ?_
   refine L0 rfl rfl (E_move (I 0) rfl (by kernel_rfl)) ?_
   refine XL_nil ?_
   kernel_rfl
  obtain ⟨o5, hLo5, h⟩ := of_bind h
  refine V_toK (mb 20 8) [] (s1 := ⟨bt 3 (I o5 :: bt 16 []), []⟩) ?_ ?_
  ·clear h
   refine V_block (V_loop (fun n s => ∃ (vn2 : Int) (t3 : Int), s.keep (mb 20 456) [] = (⟨bt 3 (I vn2 :: .bot :: .bot :: .c (.sl (b1.map c5)) :: I ((b1.length : Int)) :: I t3 :: bt 11 []), []⟩ : St) ∧ r_laws_numberOf_L4 b1 n vn2 t3 = some o5) FU ⟨_, _,  by rfl, hLo5⟩ ?_)
   clear hLo5
   rintro n s ⟨vn2, t3, hs, h⟩
   refine V_keep _ _ hs ?_
   clear hs
   cases n with
   | zero => cases h
   | succ n =>
    rw [r_laws_numberOf_L4] at h
    refine V_sreg (mb 20 968) [] (s1 := ⟨bt 3 (I vn2 :: .bot :: .bot :: .c (.sl (b1.map c5)) :: I ((b1.length : Int)) :: I t3 :: Bo (ltI t3 ((b1.length : Int))) :: bt 10 []), []⟩) ?_ ?_
    ·refine L0 rfl rfl (Y0_ltw (k := .i64) (a := t3) (b := (b1.length : Int)) rfl (by kernel_rfl) (by kernel_rfl)) ?_
     refine XL_nil ?_
     kernel_rfl
    refine V_seq ?_
    refine V_cond rfl (fun hc6 => ?_) (fun hc6 => ?_)
    ·have h := of_true h hc6
     refine V_skip ?_
     show V _ _ _ _
     refine V_seq ?_
     refine V_block ?_
     obtain ⟨e7, he7, h⟩ := of_bind h
     refine V_sreg (mb 20 488) [] (s1 := ⟨bt 3 (I vn2 :: .bot :: .c (.v (.int .u8 e7)) :: .c (.sl (b1.map c5)) :: I ((b1.length : Int)) :: I t3 :: bt 11 []), []⟩) ?_ ?_
     ·refine L0 rfl rfl (Y0_idxM (c := c5) (xs := b1) (v := e7) (n := t3) Try.underlying22 sz5 rfl (by kernel_rfl) (by kernel_rfl) he7) ?_
      refine L0 rfl rfl (Y0_load1 (c := .v (.int .u8 e7)) (cs := []) sc5 rfl (by kernel_rfl)) ?_
      refine L0 rfl rfl (E_assign (.c (.v (.int .u8 e7))) rfl (by kernel_rfl)) ?_
      refine XL_nil ?_
      kernel_rfl
     obtain ⟨vn8, hvn8, h⟩ := of_sI h
     refine V_reg (mb 20 456) [] (s1 := ⟨bt 3 (I vn8 :: .bot :: .bot :: .c (.sl (b1.map c5)) :: I ((b1.length : Int)) :: I t3 :: bt 11 []), []⟩) ?_ ?_
     ·refine L0 rfl rfl (E_move (I vn2) rfl (by kernel_rfl)) ?_
      refine L0 rfl rfl (Y0_mul64 (a := 31) (b := vn2) rfl (by kernel_rfl) (by kernel_rfl)) ?_
      refine L0 rfl rfl (E_move (.c (.v (.int .u8 e7))) rfl (by kernel_rfl)) ?_
      refine L0 rfl rfl (Y0_conv (k2 := .u8) (a := e7) Try.underlying5 Try.underlying3 rfl (by kernel_rfl)) ?_
      refine L0 rfl rfl (Y0_add64 (a := w64 (31 * vn2)) (b := IntKind.i64.wrap e7) rfl (by kernel_rfl) (by kernel_rfl)) ?_
      refine L0 rfl rfl (Y0_rem (k := .i64) (a := w64 ((w64 (31 * vn2)) + (IntKind.i64.wrap e7))) (b := 1000003) rfl (by kernel_rfl) (by kernel_rfl) (by decide)) ?_
      refine L0 rfl rfl (E_assign (I (Int.tmod (w64 ((w64 (31 * vn2)) + (IntKind.i64.wrap e7))) 1000003)) rfl (by kernel_rfl)) ?_
      refine XL_nil ?_
      subst hvn8
      kernel_rfl
     show V _ _ _ _
     obtain ⟨t9, ht9, h⟩ := of_sI h
     refine V_reg (mb 20 456) [] (s1 := ⟨bt 3 (I vn8 :: .bot :: .bot :: .c (.sl (b1.map c5)) :: I ((b1.length : Int)) :: I t9 :: bt 11 []), []⟩) ?_ ?_
     ·refine L0 rfl rfl (Y0_add64 (a := t3) (b := 1) rfl (by kernel_rfl) (by kernel_rfl)) ?_
      refine L0 rfl rfl (E_move (I (w64 (t3 + 1))) rfl (by kernel_rfl)) ?_
      refine XL_nil ?_
      subst ht9
      kernel_rfl
     exact ⟨n, Nat.lt_succ_self n, _, _,  by rfl, h⟩
    ·have h := of_false h hc6
     refine V_exit ?_
     obtain rfl := some_inj h
     show St.keep _ _ _ = _
     rfl
  show V _ _ _ _
  refine V_sreg (mb 20 4) [] (s1 := ⟨.bot :: .bot :: I o5 :: bt 17 [], []⟩) ?_ ?_
  ·refine L0 rfl rfl (E_move (I o5) rfl (by kernel_rfl)) ?_
   refine L0 rfl rfl (E_assign (I o5) rfl (by kernel_rfl)) ?_
   refine XL_nil ?_
   kernel_rfl
  refine V_ret ?_
  obtain rfl := some_inj h
  show Post _ _ _ _ _
  exact ⟨.inr rfl, rfl, rfl, rfl⟩
theorem cf_impl_KroneckerSymbol : ∀ args w, (callFunc 28 args).run Try.prog w = .ok (.enter 28 args) w := run_callFunc Try.func28 (by kernel_rfl) (by kernel_rfl)
set_option maxRecDepth 100000 in
set_option maxHeartbeats 400000 in
theorem s_impl_KroneckerSymbol {a1 : Int} {vn2 : Int} {r : (Int × Bool)} (h : r_impl_KroneckerSymbol a1 vn2 = some r) : CallS Try.prog 28 [I a1, I vn2] (.tc (I r.1) (.tc (Bo r.2) .tn)) [] := by
  refine CallS_of_text (rs := [.t 4, .t 5]) (vs := [.tmp 4, .tmp 5]) Try.func28 rfl rfl (.cons rfl (.cons rfl FitsL.nil)) (by decide) 14 rfl ?_
  unfold r_impl_KroneckerSymbol at h
  show V _ _ ⟨I a1 :: I vn2 :: bt 12 [], []⟩ _
  refine V_sreg (mb 14 3) [] (s1 := ⟨I a1 :: I vn2 :: bt 12 [], []⟩) ?_ ?_
  ·refine L0 rfl rfl (E_assign (I 0) rfl (by kernel_rfl)) ?_
   refine L0 rfl rfl (E_assign (Bo false) rfl (by kernel_rfl)) ?_
   refine XL_nil ?_
   kernel_rfl
  refine V_seq ?_
  obtain ⟨y3, hy3, h⟩ := of_bind h
  refine V_sreg (mb 14 1027) [] (s1 := ⟨I a1 :: I vn2 :: bt 8 (Bo (!y3) :: bt 3 []), []⟩) ?_ ?_
  ·refine L0 rfl rfl (E_move (I a1) rfl (by kernel_rfl)) ?_
   refine L0 rfl rfl (E_move (I vn2) rfl (by kernel_rfl)) ?_
   refine L1 rfl rfl (Y1_bslice (z := zv3) (els := [a1, vn2].map c3) Try.underlying28 iz3 rfl (by decide) rfl (by kernel_rfl) rfl (by simp [c3]) (by decide) (by decide)) ?_
   refine L1 rfl rfl (Y1_callS (s_impl_areNumbers hy3) cf_impl_areNumbers rfl (by kernel_rfl) rfl rfl) ?_
   refine L0 rfl rfl (Y0_not (b := y3) rfl (by kernel_rfl)) ?_
   refine XL_nil ?_
   kernel_rfl
  refine V_cond rfl (fun hc4 => ?_) (fun hc4 => ?_)
  ·have h := of_true h hc4
   refine V_sreg (mb 14 48) [] (s1 := ⟨bt 4 (I 0 :: Bo false :: bt 8 []), []⟩) ?_ ?_
   ·refine L0 rfl rfl (E_assign (I 0) rfl (by kernel_rfl)) ?_
    refine L0 rfl rfl (E_assign (Bo false) rfl (by kernel_rfl)) ?_
    refine XL_nil ?_
    kernel_rfl
   refine V_ret ?_
   obtain rfl := some_inj h
   show Post _ _ _ _ _
   exact ⟨.inr rfl, rfl, rfl, rfl⟩
  ·have h := of_false h hc4
   refine V_skip ?_
   show V _ _ _ _
   obtain ⟨y5, hy5, h⟩ := of_bind h
   refine V_sreg (mb 14 48) [] (s1 := ⟨bt 4 (I y5 :: Bo true :: bt 8 []), []⟩) ?_ ?_
   ·refine L0 rfl rfl (E_move (I a1) rfl (by kernel_rfl)) ?_
    refine L0 rfl rfl (E_move (I vn2) rfl (by kernel_rfl)) ?_
    refine L1 rfl rfl (Y1_call (s_impl_kronecker hy5) cf_impl_kronecker rfl (by kernel_rfl)) ?_
    refine L0 rfl rfl (E_assign (I y5) rfl (by kernel_rfl)) ?_
    refine L0 rfl rfl (E_assign (Bo true) rfl (by kernel_rfl)) ?_
    refine XL_nil ?_
    kernel_rfl
   refine V_ret ?_
   obtain rfl := some_inj h
   show Post _ _ _ _ _
   exact ⟨.inr rfl, rfl, rfl, rfl⟩
theorem cf_impl_isPrime : ∀ args w, (callFunc 106 args).run Try.prog w = .ok (.enter 106 args) w := run_callFunc Try.func106 (by kernel_rfl) (by kernel_rfl)
set_option maxRecDepth 100000 in
set_option maxHeartbeats 400000 in
theorem s_impl_isPrime {vn1 : Int} {r : Bool} (h : r_impl_isPrime vn1 = some r) : CallS Try.prog 106 [I vn1] (Bo r) [] := by
  refine CallS_of_text (rs := [.t 2]) (vs := [.tmp 2]) Try.func106 rfl rfl (.cons rfl FitsL.nil) (by decide) 17 rfl ?_
  unfold r_impl_isPrime at h
  show V _ _ ⟨I vn1 :: bt 16 [], []⟩ _
  refine V_sreg (mb 17 1) [] (s1 := ⟨I vn1 :: bt 16 [], []⟩) ?_ ?_
  ·refine L0 rfl rfl (E_assign (Bo false) rfl (by kernel_rfl)) ?_
   refine XL_nil ?_
   kernel_rfl
  refine V_seq ?_
  refine V_sreg (mb 17 33) [] (s1 := ⟨I vn1 :: bt 4 (Bo (ltI vn1 2) :: bt 11 []), []⟩) ?_ ?_
  ·refine L0 rfl rfl (E_move (I vn1) rfl (by kernel_rfl)) ?_
   refine L0 rfl rfl (Y0_ltw (k := .i64) (a := vn1) (b := 2) rfl (by kernel_rfl) (by kernel_rfl)) ?_
   refine XL_nil ?_
   kernel_rfl
  refine V_cond rfl (fun hc2 => ?_) (fun hc2 => ?_)
  ·have h := of_true h hc2
   refine V_sreg (mb 17 4) [] (s1 := ⟨.bot :: .bot :: Bo false :: bt 14 [], []⟩) ?_ ?_
   ·refine L0 rfl rfl (E_assign (Bo false) rfl (by kernel_rfl)) ?_
    refine XL_nil ?_
    kernel_rfl
   refine V_ret ?_
   obtain rfl := some_inj h
   show Post _ _ _ _ _
   exact ⟨.inr rfl, rfl, rfl, rfl⟩
  ·have h := of_false h hc2
   refine V_skip ?_
   show V _ _ _ _
   refine V_seq ?_
   refine V_sreg (mb 17 9) [] (s1 := ⟨I vn1 :: .bot :: .bot :: I 2 :: bt 13 [], []⟩) ?_ ?_
   ·refine L0 rfl rfl (E_assign (I 2) rfl (by kernel_rfl)) ?_
    refine XL_nil ?_
    kernel_rfl
   obtain ⟨qo5, hLo5, hko5⟩ := of_bind h
   refine V_toS (q := qo5) (S := fun o5 => ⟨bt 17 [], []⟩) (mb 17 0) [] ?_ ?_
   ·refine V_block (V_loop (fun n s => ∃ (p3 : Int), s.keep (mb 17 9) [] = (⟨I vn1 :: .bot :: .bot :: I p3 :: bt 13 [], []⟩ : St) ∧ r_impl_isPrime_L4 vn1 n p3 = some qo5) FU ⟨_,  by rfl, hLo5⟩ ?_)
    clear hLo5
    rintro n s ⟨p3, hs, h⟩
    refine V_keep _ _ hs ?_
    clear hs
    cases n with
    | zero => cases h
    | succ n =>
     rw [r_impl_isPrime_L4] at h
     refine V_seq ?_
     refine V_sreg (mb 17 1033) [] (s1 := ⟨I vn1 :: .bot :: .bot :: I p3 :: bt 6 (Bo (leI (w64 (p3 * p3)) vn1) :: bt 6 []), []⟩) ?_ ?_
     ·refine L0 rfl rfl (E_move (I p3) rfl (by kernel_rfl)) ?_
      refine L0 rfl rfl (E_move (I p3) rfl (by kernel_rfl)) ?_
      refine L0 rfl rfl (Y0_mul64 (a := p3) (b := p3) rfl (by kernel_rfl) (by kernel_rfl)) ?_
      refine L0 rfl rfl (E_move (I vn1) rfl (by kernel_rfl)) ?_
      refine L0 rfl rfl (Y0_lew (k := .i64) (a := w64 (p3 * p3)) (b := vn1) rfl (by kernel_rfl) (by kernel_rfl)) ?_
      refine XL_nil ?_
      kernel_rfl
     refine V_cond rfl (fun hc6 => ?_) (fun hc6 => ?_)
     ·have h := of_true h hc6
      refine V_skip ?_
      show V _ _ _ _
      refine V_seq ?_
      refine V_block ?_
      obtain ⟨z7, hz7, h⟩ := of_bind h
      refine V_sreg (mb 17 65545) [] (s1 := ⟨I vn1 :: .bot :: .bot :: I p3 :: bt 12 (Bo (eqI (Int.tmod vn1 p3) 0) :: []), []⟩) ?_ ?_
      ·refine L0 rfl rfl (E_move (I vn1) rfl (by kernel_rfl)) ?_
       refine L0 rfl rfl (E_move (I p3) rfl (by kernel_rfl)) ?_
       refine L0 rfl rfl (Y0_rem (k := .i64) (a := vn1) (b := p3) rfl (by kernel_rfl) (by kernel_rfl) (nz_some hz7)) ?_
       refine L0 rfl rfl (Y0_eqw (k := .i64) (a := Int.tmod vn1 p3) (b := 0) rfl (by kernel_rfl) (by kernel_rfl)) ?_
       refine XL_nil ?_
       kernel_rfl
      refine V_cond rfl (fun hc8 => ?_) (fun hc8 => ?_)
      ·have h := of_true h hc8
       refine V_sreg (mb 17 4) [] (s1 := ⟨.bot :: .bot :: Bo false :: bt 14 [], []⟩) ?_ ?_
       ·refine L0 rfl rfl (E_assign (Bo false) rfl (by kernel_rfl)) ?_
        refine XL_nil ?_
        kernel_rfl
       refine V_ret ?_
       obtain rfl := some_inj h
       have h := hko5
       obtain rfl := some_inj h
       show Post _ _ _ _ _
       exact ⟨.inr rfl, rfl, rfl, rfl⟩
      ·have h := of_false h hc8
       refine V_skip ?_
       show V _ _ _ _
       obtain ⟨p9, hp9, h⟩ := of_sI h
       refine V_reg (mb 17 9) [] (s1 := ⟨I vn1 :: .bot :: .bot :: I p9 :: bt 13 [], []⟩) ?_ ?_
       ·refine L0 rfl rfl (E_move (I p3) rfl (by kernel_rfl)) ?_
        refine L0 rfl rfl (Y0_add64 (a := p3) (b := 1) rfl (by kernel_rfl) (by kernel_rfl)) ?_
        refine L0 rfl rfl (E_assign (I (w64 (p3 + 1))) rfl (by kernel_rfl)) ?_
        refine XL_nil ?_
        subst hp9
        kernel_rfl
       exact ⟨n, Nat.lt_succ_self n, _,  by rfl, h⟩
     ·have h := of_false h hc6
      refine V_exit ?_
      obtain rfl := some_inj h
      exact ⟨_, rfl, by rfl⟩
   rintro o5 rfl
   have h := hko5
   clear hko5
   show V _ _ _ _
   refine V_sreg (mb 17 4) [] (s1 := ⟨.bot :: .bot :: Bo true :: bt 14 [], []⟩) ?_ ?_
   ·refine L0 rfl rfl (E_assign (Bo true) rfl (by kernel_rfl)) ?_
    refine XL_nil ?_
    kernel_rfl
   refine V_ret ?_
   obtain rfl := some_inj h
   show Post _ _ _ _ _
   exact ⟨.inr rfl, rfl, rfl, rfl⟩
theorem cf_impl_IsPrime : ∀ args w, (callFunc 66 args).run Try.prog w = .ok (.enter 66 args) w := run_callFunc Try.func66 (by kernel_rfl) (by kernel_rfl)
set_option maxRecDepth 100000 in
set_option maxHeartbeats 400000 in
theorem s_impl_IsPrime {vn1 : Int} {r : Bool} (h : r_impl_IsPrime vn1 = some r) : CallS Try.prog 66 [I vn1] (Bo r) [] := by
  refine CallS_of_text (rs := [.t 2]) (vs := [.tmp 2]) Try.func66 rfl rfl (.cons rfl FitsL.nil) (by decide) 10 rfl ?_
  unfold r_impl_IsPrime at h
  show V _ _ ⟨I vn1 :: bt 9 [], []⟩ _
  refine V_sreg (mb 10 1) [] (s1 := ⟨I vn1 :: bt 9 [], []⟩) ?_ ?_
  ·refine L0 rfl rfl (E_assign (Bo false) rfl (by kernel_rfl)) ?_
   refine XL_nil ?_
   kernel_rfl
  obtain ⟨y2, hy2, h⟩ := of_bind h
  obtain ⟨b5, hb5, h⟩ := of_bind h
  refine V_sreg (mb 10 4) [] (s1 := ⟨.bot :: .bot :: Bo b5 :: bt 7 [], []⟩) ?_ ?_
  ·refine L0 rfl rfl (E_move (I vn1) rfl (by kernel_rfl)) ?_
   refine L1 rfl rfl (Y1_bslice (z := zv3) (els := [vn1].map c3) Try.underlying28 iz3 rfl (by decide) rfl (by kernel_rfl) rfl (by simp [c3]) (by decide) (by decide)) ?_
   refine L1 rfl rfl (Y1_callS (s_impl_areNumbers hy2) cf_impl_areNumbers rfl (by kernel_rfl) rfl rfl) ?_
   refine L0 rfl rfl (E_move (Bo y2) rfl (by kernel_rfl)) ?_
   refine XL_split y2 (fun hc3 => ?_) (fun hc3 => ?_)
   ·have hb5 := of_true hb5 hc3
    obtain ⟨y4, hy4, hb5⟩ := of_bind hb5
    have hb5 := some_inj hb5
    refine XL_takeC _ rfl rfl (by kernel_rfl) hc3 (X_of_Y0 rfl (E_move (I vn1) rfl (by kernel_rfl))) ?_
    refine XL_takeC _ rfl rfl (by kernel_rfl) hc3 (X_of_Y1 rfl (Y1_call (s_impl_isPrime hy4) cf_impl_isPrime rfl (by kernel_rfl))) ?_
    refine XL_cons rfl (X_of_Y0 rfl (Y0_pickTe (b := y2) (p := y4) rfl (by kernel_rfl) hc3 (by kernel_rfl) hb5)) ?_
    refine L0 rfl rfl (E_assign (Bo b5) rfl (by kernel_rfl)) ?_
    refine XL_nil ?_
    kernel_rfl
   ·have hb5 := some_inj (of_false hb5 hc3)
    refine XL_skipT _ rfl rfl (by kernel_rfl) hc3 rfl ?_
    refine XL_skipT _ rfl rfl (by kernel_rfl) hc3 rfl ?_
    refine XL_cons rfl (X_of_Y0 rfl (Y0_pickFe (b := y2) (p := false) rfl (by kernel_rfl) hc3 (by kernel_rfl) hb5)) ?_
    refine L0 rfl rfl (E_assign (Bo b5) rfl (by kernel_rfl)) ?_
    refine XL_nil ?_
    kernel_rfl
  refine V_ret ?_
  obtain rfl := some_inj h
  show Post _ _ _ _ _
  exact ⟨.inr rfl, rfl, rfl, rfl⟩
theorem cf_impl_isSeries : ∀ args w, (callFunc 67 args).run Try.prog w = .ok (.enter 67 args) w := run_callFunc Try.func67 (by kernel_rfl) (by kernel_rfl)
set_option maxRecDepth 100000 in
set_option maxHeartbeats 400000 in
theorem s_impl_isSeries {l1 : List Int} {r : Bool} (h : r_impl_isSeries l1 = some r) : CallS Try.prog 67 [.c (.sl (l1.map c3))] (Bo r) [] := by
  refine CallS_of_text (rs := [.t 2]) (vs := [.tmp 2]) Try.func67 rfl rfl (.cons rfl FitsL.nil) (by decide) 15 rfl ?_
  unfold r_impl_isSeries at h
  show V _ _ ⟨.c (.sl (l1.map c3)) :: bt 14 [], []⟩ _
  refine V_sreg (mb 15 1) [] (s1 := ⟨.c (.sl (l1.map c3)) :: bt 14 [], []⟩) ?_ ?_
  ·refine L0 rfl rfl (E_assign (Bo false) rfl (by kernel_rfl)) ?_
   refine XL_nil ?_
   kernel_rfl
  obtain ⟨b5, hb5, h⟩ := of_bind h
  refine V_sreg (mb 15 4) [] (s1 := ⟨.bot :: .bot :: Bo b5 :: bt 12 [], []⟩) ?_ ?_
  ·refine L0 rfl rfl (E_move (.c (.sl (l1.map c3))) rfl (by kernel_rfl)) ?_
   refine L0 rfl rfl (Y0_lenM (c := c3) (xs := l1) Try.underlying28 rfl (by kernel_rfl)) ?_
   refine L0 rfl rfl (Y0_gew (k := .i64) (a := (l1.length : Int)) (b := 1) rfl (by kernel_rfl) (by kernel_rfl)) ?_
   refine L0 rfl rfl (E_move (Bo (leI 1 ((l1.length : Int)))) rfl (by kernel_rfl)) ?_
   refine XL_split (leI 1 ((l1.length : Int))) (fun hc2 => ?_) (fun hc2 => ?_)
   ·refine XL_takeC _ rfl rfl (by kernel_rfl) hc2 (X_of_Y0 rfl (E_move (.c (.sl (l1.map c3))) rfl (by kernel_rfl))) ?_
    refine XL_takeC _ rfl rfl (by kernel_rfl) hc2 (X_of_Y0 rfl (Y0_lenM (c := c3) (xs := l1) Try.underlying28 rfl (by kernel_rfl))) ?_
    refine XL_takeC _ rfl rfl (by kernel_rfl) hc2 (X_of_Y0 rfl (Y0_lew (k := .i64) (a := (l1.length : Int)) (b := 101) rfl (by kernel_rfl) (by kernel_rfl))) ?_
    refine XL_cons rfl (X_of_Y0 rfl (Y0_pick1 (b := leI 1 ((l1.length : Int))) (p := leI ((l1.length : Int)) 101) (q := false) rfl (by kernel_rfl) hc2 (by kernel_rfl))) ?_
    refine L0 rfl rfl (E_move (Bo (bif (leI 1 ((l1.length : Int))) then (leI ((l1.length : Int)) 101) else false)) rfl (by kernel_rfl)) ?_
    refine XL_split (bif (leI 1 ((l1.length : Int))) then (leI ((l1.length : Int)) 101) else false) (fun hc3 => ?_) (fun hc3 => ?_)
    ·have hb5 := of_true hb5 hc3
     obtain ⟨y4, hy4, hb5⟩ := of_bind hb5
     have hb5 := some_inj hb5
     refine XL_takeC _ rfl rfl (by kernel_rfl) hc3 (X_of_Y0 rfl (E_move (.c (.sl (l1.map c3))) rfl (by kernel_rfl))) ?_
     refine XL_takeC _ rfl rfl (by kernel_rfl) hc3 (X_of_Y1 rfl (Y1_call (s_impl_areNumbers hy4) cf_impl_areNumbers rfl (by kernel_rfl))) ?_
     refine XL_cons rfl (X_of_Y0 rfl (Y0_pickTe (b := bif (leI 1 ((l1.length : Int))) then (leI ((l1.length : Int)) 101) else false) (p := y4) rfl (by kernel_rfl) hc3 (by kernel_rfl) hb5)) ?_
     refine L0 rfl rfl (E_assign (Bo b5) rfl (by kernel_rfl)) ?_
     refine XL_nil ?_
     kernel_rfl
    ·have hb5 := some_inj (of_false hb5 hc3)
     refine XL_skipT _ rfl rfl (by kernel_rfl) hc3 rfl ?_
     refine XL_skipT _ rfl rfl (by kernel_rfl) hc3 rfl ?_
     refine XL_cons rfl (X_of_Y0 rfl (Y0_pickFe (b := bif (leI 1 ((l1.length : Int))) then (leI ((l1.length : Int)) 101) else false) (p := false) rfl (by kernel_rfl) hc3 (by kernel_rfl) hb5)) ?_
     refine L0 rfl rfl (E_assign (Bo b5) rfl (by kernel_rfl)) ?_
     refine XL_nil ?_
     kernel_rfl
   ·refine XL_skipT _ rfl rfl (by kernel_rfl) hc2 rfl ?_
    refine XL_skipT _ rfl rfl (by kernel_rfl) hc2 rfl ?_
    refine XL_skipT _ rfl rfl (by kernel_rfl) hc2 rfl ?_
    refine XL_cons rfl (X_of_Y0 rfl (Y0_pick0 (b := leI 1 ((l1.length : Int))) (p := leI ((l1.length : Int)) 101) (q := false) rfl (by kernel_rfl) hc2 (by kernel_rfl))) ?_
    refine L0 rfl rfl (E_move (Bo (bif (leI 1 ((l1.length : Int))) then (leI ((l1.length : Int)) 101) else false)) rfl (by kernel_rfl)) ?_
    refine XL_split (bif (leI 1 ((l1.length : Int))) then (leI ((l1.length : Int)) 101) else false) (fun hc3 => ?_) (fun hc3 => ?_)
    ·have hb5 := of_true hb5 hc3
     obtain ⟨y4, hy4, hb5⟩ := of_bind hb5
     have hb5 := some_inj hb5
     refine XL_takeC _ rfl rfl (by kernel_rfl) hc3 (X_of_Y0 rfl (E_move (.c (.sl (l1.map c3))) rfl (by kernel_rfl))) ?_
     refine XL_takeC _ rfl rfl (by kernel_rfl) hc3 (X_of_Y1 rfl (Y1_call (s_impl_areNumbers hy4) cf_impl_areNumbers rfl (by kernel_rfl))) ?_
     refine XL_cons rfl (X_of_Y0 rfl (Y0_pickTe (b := bif (leI 1 ((l1.length : Int))) then (leI ((l1.length : Int)) 101) else false) (p := y4) rfl (by kernel_rfl) hc3 (by kernel_rfl) hb5)) ?_
     refine L0 rfl rfl (E_assign (Bo b5) rfl (by kernel_rfl)) ?_
     refine XL_nil ?_
     kernel_rfl
    ·have hb5 := some_inj (of_false hb5 hc3)
     refine XL_skipT _ rfl rfl (by kernel_rfl) hc3 rfl ?_
     refine XL_skipT _ rfl rfl (by kernel_rfl) hc3 rfl ?_
     refine XL_cons rfl (X_of_Y0 rfl (Y0_pickFe (b := bif (leI 1 ((l1.length : Int))) then (leI ((l1.length : Int)) 101) else false) (p := false) rfl (by kernel_rfl) hc3 (by kernel_rfl) hb5)) ?_
     refine L0 rfl rfl (E_assign (Bo b5) rfl (by kernel_rfl)) ?_
     refine XL_nil ?_
     kernel_rfl
  refine V_ret ?_
  obtain rfl := some_inj h
  show Post _ _ _ _ _
  exact ⟨.inr rfl, rfl, rfl, rfl⟩
theorem cf_impl_checkedSeries : ∀ args w, (callFunc 68 args).run Try.prog w = .ok (.enter 68 args) w := run_callFunc Try.func68 (by kernel_rfl) (by kernel_rfl)
set_option maxRecDepth 100000 in
set_option maxHeartbeats 400000 in
theorem s_impl_checkedSeries {l1 : List Int} {r : ((List Int) × Bool)} (h : r_impl_checkedSeries l1 = some r) : CallS Try.prog 68 [.c (.sl (l1.map c3))] (.tc (.c (.sl (r.1.map c3))) (.tc (Bo r.2) .tn)) [] := by
  refine CallS_of_text (rs := [.t 2, .t 3]) (vs := [.tmp 2, .tmp 3]) Try.func68 rfl rfl (.cons rfl (.cons rfl FitsL.nil)) (by decide) 9 rfl ?_
  unfold r_impl_checkedSeries at h
  show V _ _ ⟨.c (.sl (l1.map c3)) :: bt 8 [], []⟩ _
  refine V_sreg (mb 9 1) [] (s1 := ⟨.c (.sl (l1.map c3)) :: bt 8 [], []⟩) ?_ ?_
  ·refine L1 rfl rfl (Y1_nil (e := 3) 1 (by decide) (.inl rfl)) ?_
   refine L0 rfl rfl (E_assign (Bo false) rfl (by kernel_rfl)) ?_
   refine XL_nil ?_
   kernel_rfl
  refine V_seq ?_
  obtain ⟨y2, hy2, h⟩ := of_bind h
  refine V_sreg (mb 9 65) [] (s1 := ⟨.c (.sl (l1.map c3)) :: bt 5 (Bo (!y2) :: .bot :: .bot :: []), []⟩) ?_ ?_
  ·refine L0 rfl rfl (E_move (.c (.sl (l1.map c3))) rfl (by kernel_rfl)) ?_
   refine L1 rfl rfl (Y1_call (s_impl_areNumbers hy2) cf_impl_areNumbers rfl (by kernel_rfl)) ?_
   refine L0 rfl rfl (Y0_not (b := y2) rfl (by kernel_rfl)) ?_
   refine XL_nil ?_
   kernel_rfl
  refine V_cond rfl (fun hc3 => ?_) (fun hc3 => ?_)
  ·have h := of_true h hc3
   refine V_sreg (mb 9 12) [56] (s1 := ⟨.bot :: .bot :: .ow 56 :: Bo false :: bt 5 [], [(56, .arr 3 1 ((([] : List Int)).map c3))]⟩) ?_ ?_
   ·refine L1 rfl rfl (Y1_bslice0 Try.underlying28 sz3 (by decide) rfl rfl) ?_
    refine L0 rfl rfl (E_assign (.ow 56) rfl (by kernel_rfl)) ?_
    refine L0 rfl rfl (E_assign (Bo false) rfl (by kernel_rfl)) ?_
    refine XL_nil ?_
    kernel_rfl
   refine V_freeze 56 (T := 3) (sz := 1) (els := (([] : List Int)).map c3) (s1 := ⟨.bot :: .bot :: .c (.sl ((([] : List Int)).map c3)) :: Bo false :: bt 5 [], []⟩) (by kernel_rfl) (by kernel_rfl) ?_
   refine V_ret ?_
   obtain rfl := some_inj h
   show Post _ _ _ _ _
   exact ⟨.inr rfl, rfl, rfl, rfl⟩
  ·have h := of_false h hc3
   refine V_skip ?_
   show V _ _ _ _
   refine V_sreg (mb 9 12) [] (s1 := ⟨.bot :: .bot :: .c (.sl (l1.map c3)) :: Bo true :: bt 5 [], []⟩) ?_ ?_
   ·refine L0 rfl rfl (E_move (.c (.sl (l1.map c3))) rfl (by kernel_rfl)) ?_
    refine L0 rfl rfl (E_assign (.c (.sl (l1.map c3))) rfl (by kernel_rfl)) ?_
    refine L0 rfl rfl (E_assign (Bo true) rfl (by kernel_rfl)) ?_
    refine XL_nil ?_
    kernel_rfl
   refine V_ret ?_
   obtain rfl := some_inj h
   show Post _ _ _ _ _
   exact ⟨.inr rfl, rfl, rfl, rfl⟩
theorem cf_impl_PrimeOnSeries : ∀ args w, (callFunc 29 args).run Try.prog w = .ok (.enter 29 args) w := run_callFunc Try.func29 (by kernel_rfl) (by kernel_rfl)
set_option maxRecDepth 100000 in
set_option maxHeartbeats 400000 in
theorem s_impl_PrimeOnSeries {d1 : Int} {p2 : Int} {l3 : List Int} {r : ((List Int) × Bool)} (h : r_impl_PrimeOnSeries d1 p2 l3 = some r) : CallS Try.prog 29 [I d1, I p2, .c (.sl (l3.map c3))] (.tc (.c (.sl (r.1.map c3))) (.tc (Bo r.2) .tn)) [] := by
  refine CallS_of_text (rs := [.t 6, .t 7]) (vs := [.tmp 6, .tmp 7]) Try.func29 rfl rfl (.cons rfl (.cons rfl FitsL.nil)) (by decide) 64 rfl ?_
  unfold r_impl_PrimeOnSeries at h
  show V _ _ ⟨I d1 :: I p2 :: .c (.sl (l3.map c3)) :: bt 61 [], []⟩ _
  refine V_sreg (mb 64 7) [] (s1 := ⟨I d1 :: I p2 :: .c (.sl (l3.map c3)) :: bt 61 [], []⟩) ?_ ?_
  ·refine L1 rfl rfl (Y1_nil (e := 3) 1 (by decide) (.inl rfl)) ?_
   refine L0 rfl rfl (E_assign (Bo false) rfl (by kernel_rfl)) ?_
   refine XL_nil ?_
   kernel_rfl
  refine V_seq ?_
  obtain ⟨y4, hy4, h⟩ := of_bind h
  obtain ⟨b7, hb7, h⟩ := of_bind h
  obtain ⟨b10, hb10, h⟩ := of_bind h
  refine V_sreg (mb 64 8388615) [] (s1 := ⟨I d1 :: I p2 :: .c (.sl (l3.map c3)) :: bt 20 (Bo b10 :: bt 40 []), []⟩) ?_ ?_
  ·refine L0 rfl rfl (E_move (I d1) rfl (by kernel_rfl)) ?_
   refine L1 rfl rfl (Y1_call (s_impl_isNegativeDisc hy4) cf_impl_isNegativeDisc rfl (by kernel_rfl)) ?_
   refine L0 rfl rfl (Y0_not (b := y4) rfl (by kernel_rfl)) ?_
   refine L0 rfl rfl (E_move (Bo (!y4)) rfl (by kernel_rfl)) ?_
   refine XL_split (!y4) (fun hc5 => ?_) (fun hc5 => ?_)
   ·have hb7 := some_inj (of_true hb7 hc5)
    refine XL_skipF _ rfl rfl (by kernel_rfl) hc5 rfl ?_
    refine XL_skipF _ rfl rfl (by kernel_rfl) hc5 rfl ?_
    refine XL_skipF _ rfl rfl (by kernel_rfl) hc5 rfl ?_
    refine XL_cons rfl (X_of_Y0 rfl (Y0_pickTe (b := !y4) (p := true) rfl (by kernel_rfl) hc5 (by kernel_rfl) hb7)) ?_
    refine L0 rfl rfl (E_move (Bo b7) rfl (by kernel_rfl)) ?_
    refine XL_split b7 (fun hc8 => ?_) (fun hc8 => ?_)
    ·have hb10 := some_inj (of_true hb10 hc8)
     refine XL_skipF _ rfl rfl (by kernel_rfl) hc8 rfl ?_
     refine XL_skipF _ rfl rfl (by kernel_rfl) hc8 rfl ?_
     refine XL_skipF _ rfl rfl (by kernel_rfl) hc8 rfl ?_
     refine XL_cons rfl (X_of_Y0 rfl (Y0_pickTe (b := b7) (p := true) rfl (by kernel_rfl) hc8 (by kernel_rfl) hb10)) ?_
     refine XL_nil ?_
     kernel_rfl
    ·have hb10 := of_false hb10 hc8
     obtain ⟨y9, hy9, hb10⟩ := of_bind hb10
     have hb10 := some_inj hb10
     refine XL_takeC _ rfl rfl (by kernel_rfl) hc8 (X_of_Y0 rfl (E_move (.c (.sl (l3.map c3))) rfl (by kernel_rfl))) ?_
     refine XL_takeC _ rfl rfl (by kernel_rfl) hc8 (X_of_Y1 rfl (Y1_call (s_impl_isSeries hy9) cf_impl_isSeries rfl (by kernel_rfl))) ?_
     refine XL_takeC _ rfl rfl (by kernel_rfl) hc8 (X_of_Y0 rfl (Y0_not (b := y9) rfl (by kernel_rfl))) ?_
     refine XL_cons rfl (X_of_Y0 rfl (Y0_pickFe (b := b7) (p := !y9) rfl (by kernel_rfl) hc8 (by kernel_rfl) hb10)) ?_
     refine XL_nil ?_
     kernel_rfl
   ·have hb7 := of_false hb7 hc5
    obtain ⟨y6, hy6, hb7⟩ := of_bind hb7
    have hb7 := some_inj hb7
    refine XL_takeC _ rfl rfl (by kernel_rfl) hc5 (X_of_Y0 rfl (E_move (I p2) rfl (by kernel_rfl))) ?_
    refine XL_takeC _ rfl rfl (by kernel_rfl) hc5 (X_of_Y1 rfl (Y1_call (s_impl_IsPrime hy6) cf_impl_IsPrime rfl (by kernel_rfl))) ?_
    refine XL_takeC _ rfl rfl (by kernel_rfl) hc5 (X_of_Y0 rfl (Y0_not (b := y6) rfl (by kernel_rfl))) ?_
    refine XL_cons rfl (X_of_Y0 rfl (Y0_pickFe (b := !y4) (p := !y6) rfl (by kernel_rfl) hc5 (by kernel_rfl) hb7)) ?_
    refine L0 rfl rfl (E_move (Bo b7) rfl (by kernel_rfl)) ?_
    refine XL_split b7 (fun hc8 => ?_) (fun hc8 => ?_)
    ·have hb10 := some_inj (of_true hb10 hc8)
     refine XL_skipF _ rfl rfl (by kernel_rfl) hc8 rfl ?_
     refine XL_skipF _ rfl rfl (by kernel_rfl) hc8 rfl ?_
     refine XL_skipF _ rfl rfl (by kernel_rfl) hc8 rfl ?_
     refine XL_cons rfl (X_of_Y0 rfl (Y0_pickTe (b := b7) (p := true) rfl (by kernel_rfl) hc8 (by kernel_rfl) hb10)) ?_
     refine XL_nil ?_
     kernel_rfl
    ·have hb10 := of_false hb10 hc8
     obtain ⟨y9, hy9, hb10⟩ := of_bind hb10
     have hb10 := some_inj hb10
     refine XL_takeC _ rfl rfl (by kernel_rfl) hc8 (X_of_Y0 rfl (E_move (.c (.sl (l3.map c3))) rfl (by kernel_rfl))) ?_
     refine XL_takeC _ rfl rfl (by kernel_rfl) hc8 (X_of_Y1 rfl (Y1_call (s_impl_isSeries hy9) cf_impl_isSeries rfl (by kernel_rfl))) ?_
     refine XL_takeC _ rfl rfl (by kernel_rfl) hc8 (X_of_Y0 rfl (Y0_not (b := y9) rfl (by kernel_rfl))) ?_
     refine XL_cons rfl (X_of_Y0 rfl (Y0_pickFe (b := b7) (p := !y9) rfl (by kernel_rfl) hc8 (by kernel_rfl) hb10)) ?_
     refine XL_nil ?_
     kernel_rfl
  refine V_cond rfl (fun hc11 => ?_) (fun hc11 => ?_)
  ·have h := of_true h hc11
   refine V_sreg (mb 64 192) [192] (s1 := ⟨bt 6 (.ow 192 :: Bo false :: bt 56 []), [(192, .arr 3 1 ((([] : List Int)).map c3))]⟩) ?_ ?_
   ·refine L1 rfl rfl (Y1_bslice0 Try.underlying28 sz3 (by decide) rfl rfl) ?_
    refine L0 rfl rfl (E_assign (.ow 192) rfl (by kernel_rfl)) ?_
    refine L0 rfl rfl (E_assign (Bo false) rfl (by kernel_rfl)) ?_
    refine XL_nil ?_
    kernel_rfl
   refine V_freeze 192 (T := 3) (sz := 1) (els := (([] : List Int)).map c3) (s1 := ⟨bt 6 (.c (.sl ((([] : List Int)).map c3)) :: Bo false :: bt 56 []), []⟩) (by kernel_rfl) (by kernel_rfl) ?_
   refine V_ret ?_
   obtain rfl := some_inj h
   show Post _ _ _ _ _
   exact ⟨.inr rfl, rfl, rfl, rfl⟩
  ·have h := of_false h hc11
   refine V_skip ?_
   show V _ _ _ _
   refine V_sreg (mb 64 263) [200] (s1 := ⟨I d1 :: I p2 :: .c (.sl (l3.map c3)) :: bt 5 (.ow 200 :: bt 55 []), [(200, .arr 3 1 ((([] : List Int)).map c3))]⟩) ?_ ?_
   ·refine L1 rfl rfl (Y1_bslice0 Try.underlying28 sz3 (by decide) rfl rfl) ?_
    refine L0 rfl rfl (E_assign (.ow 200) rfl (by kernel_rfl)) ?_
    refine XL_nil ?_
    kernel_rfl
   refine V_seq ?_
   refine V_sreg (mb 64 775) [200] (s1 := ⟨I d1 :: I p2 :: .c (.sl (l3.map c3)) :: bt 5 (.ow 200 :: I 0 :: bt 54 []), [(200, .arr 3 1 ((([] : List Int)).map c3))]⟩) ?_ ?_
   ·refine L0 rfl rfl (E_assign (I 0) rfl (by kernel_rfl)) ?_
    refine XL_nil ?_
    kernel_rfl
   obtain ⟨o15, hLo15, h⟩ := of_bind h
   refine V_toK (mb 64 256) [200] (s1 := ⟨bt 8 (.ow 200 :: bt 55 []), [(200, .arr 3 1 (o15.map c3))]⟩) ?_ ?_
   ·clear h
    refine V_block (V_loop (fun n s => ∃ (vm12 : Int) (l13 : List Int), s.keep (mb 64 775) [200] = (⟨I d1 :: I p2 :: .c (.sl (l3.map c3)) :: bt 5 (.ow 200 :: I vm12 :: bt 54 []), [(200, .arr 3 1 (l13.map c3))]⟩ : St) ∧ r_impl_PrimeOnSeries_L14 d1 l3 p2 n vm12 l13 = some o15) FU ⟨_, _,  by rfl, hLo15⟩ ?_)
    clear hLo15
    rintro n s ⟨vm12, l13, hs, h⟩
    refine V_keep _ _ hs ?_
    clear hs
    cases n with
    | zero => cases h
    | succ n =>
     rw [r_impl_PrimeOnSeries_L14] at h
     refine V_seq ?_
     refine V_sreg (mb 64 2147484423) [200] (s1 := ⟨I d1 :: I p2 :: .c (.sl (l3.map c3)) :: bt 5 (.ow 200 :: I vm12 :: bt 21 (Bo (ltI (w64 (vm12 * p2)) ((l3.length : Int))) :: bt 32 [])), [(200, .arr 3 1 (l13.map c3))]⟩) ?_ ?_
     ·refine L0 rfl rfl (E_move (I vm12) rfl (by kernel_rfl)) ?_
      refine L0 rfl rfl (E_move (I p2) rfl (by kernel_rfl)) ?_
      refine L0 rfl rfl (Y0_mul64 (a := vm12) (b := p2) rfl (by kernel_rfl) (by kernel_rfl)) ?_
      refine L0 rfl rfl (E_move (.c (.sl (l3.map c3))) rfl (by kernel_rfl)) ?_
      refine L0 rfl rfl (Y0_lenM (c := c3) (xs := l3) Try.underlying28 rfl (by kernel_rfl)) ?_
      refine L0 rfl rfl (Y0_ltw (k := .i64) (a := w64 (vm12 * p2)) (b := (l3.length : Int)) rfl (by kernel_rfl) (by kernel_rfl)) ?_
      refine XL_nil ?_
      kernel_rfl
     refine V_cond rfl (fun hc16 => ?_) (fun hc16 => ?_)
     ·have h := of_true h hc16
      refine V_skip ?_
      show V _ _ _ _
      refine V_seq ?_
      refine V_block ?_
      obtain ⟨e17, he17, h⟩ := of_bind h
      refine V_sreg (mb 64 1799) [200] (s1 := ⟨I d1 :: I p2 :: .c (.sl (l3.map c3)) :: bt 5 (.ow 200 :: I vm12 :: I e17 :: bt 53 []), [(200, .arr 3 1 (l13.map c3))]⟩) ?_ ?_
      ·refine L0 rfl rfl (E_move (.c (.sl (l3.map c3))) rfl (by kernel_rfl)) ?_
       refine L0 rfl rfl (E_move (I vm12) rfl (by kernel_rfl)) ?_
       refine L0 rfl rfl (E_move (I p2) rfl (by kernel_rfl)) ?_
       refine L0 rfl rfl (Y0_mul64 (a := vm12) (b := p2) rfl (by kernel_rfl) (by kernel_rfl)) ?_
       refine L0 rfl rfl (Y0_idxM (c := c3) (xs := l3) (v := e17) (n := w64 (vm12 * p2)) Try.underlying28 sz3 rfl (by kernel_rfl) (by kernel_rfl) he17) ?_
       refine L0 rfl rfl (Y0_load1 (c := Ti e17) (cs := []) sc3 rfl (by kernel_rfl)) ?_
       refine L0 rfl rfl (E_assign (I e17) rfl (by kernel_rfl)) ?_
       refine XL_nil ?_
       kernel_rfl
      refine V_seq ?_
      obtain ⟨z18, hz18, h⟩ := of_bind h
      refine V_sreg (mb 64 8796093024007) [200] (s1 := ⟨I d1 :: I p2 :: .c (.sl (l3.map c3)) :: bt 5 (.ow 200 :: I vm12 :: I e17 :: bt 32 (Bo (eqI (Int.tmod vm12 p2) 0) :: bt 20 [])), [(200, .arr 3 1 (l13.map c3))]⟩) ?_ ?_
      ·refine L0 rfl rfl (E_move (I vm12) rfl (by kernel_rfl)) ?_
       refine L0 rfl rfl (E_move (I p2) rfl (by kernel_rfl)) ?_
       refine L0 rfl rfl (Y0_rem (k := .i64) (a := vm12) (b := p2) rfl (by kernel_rfl) (by kernel_rfl) (nz_some hz18)) ?_
       refine L0 rfl rfl (Y0_eqw (k := .i64) (a := Int.tmod vm12 p2) (b := 0) rfl (by kernel_rfl) (by kernel_rfl)) ?_
       refine XL_nil ?_
       kernel_rfl
      refine V_cond rfl (fun hc19 => ?_) (fun hc19 => ?_)
      ·have h := of_true h hc19
       obtain ⟨y20, hy20, h⟩ := of_bind h
       obtain ⟨z21, hz21, h⟩ := of_bind h
       obtain ⟨e22, he22, h⟩ := of_bind h
       obtain ⟨k23, hk23, h⟩ := of_sI h
       refine V_dreg [0, 0, 0, 6, 0, 0, 0, 96, 240, 496, 1022, 2047, 4095] 13 [[.z, .b, .b, .b, .b, .b, .b, .b, .b, .b, .b, .z, .z], [.b, .z, .b, .z, .b, .b, .b, .b, .b, .b, .z, .z, .z], [.b, .b, .z, .z, .b, .b, .b, .b, .b, .b, .z, .z, .z], [.b, .a, .a, .z, .b, .b, .b, .b, .b, .b, .z, .z, .z], [.b, .b, .b, .b, .z, .b, .b, .b, .z, .z, .z, .z, .z], [.b, .b, .b, .b, .b, .z, .b, .z, .z, .z, .z, .z, .z], [.b, .b, .b, .b, .b, .b, .z, .z, .z, .z, .z, .z, .z], [.b, .b, .b, .b, .b, .a, .a, .z, .z, .z, .z, .z, .z], [.b, .b, .b, .b, .a, .a, .a, .a, .z, .z, .z, .z, .z], [.b, .b, .b, .b, .a, .a, .a, .a, .a, .z, .z, .z, .z], [.b, .a, .a, .a, .a, .a, .a, .a, .a, .a, .z, .z, .z], [.a, .a, .a, .a, .a, .a, .a, .a, .a, .a, .a, .z, .z], [.a, .a, .a, .a, .a, .a, .a, .a, .a, .a, .a, .a, .z]] (mb 64 1799) [200] (s1 := ⟨I d1 :: I p2 :: .c (.sl (l3.map c3)) :: bt 5 (.ow 200 :: I vm12 :: I k23 :: bt 53 []), [(200, .arr 3 1 (l13.map c3))]⟩) (by kernel_rfl) (by kernel_rfl) ?_ ?_
       ·refine DE_0 0 (I e17) (by kernel_rfl) rfl rfl rfl (gsat_none rfl) (by kernel_rfl) (E_move (I e17) rfl (by kernel_rfl)) 44 rfl ?_
        refine DE_0 1 (I d1) (by kernel_rfl) rfl rfl rfl (gsat_none rfl) (by kernel_rfl) (E_move (I d1) rfl (by kernel_rfl)) 45 rfl ?_
        refine DE_0 2 (I p2) (by kernel_rfl) rfl rfl rfl (gsat_none rfl) (by kernel_rfl) (E_move (I p2) rfl (by kernel_rfl)) 46 rfl ?_
        refine DE_1 3 (by kernel_rfl) rfl rfl rfl (gsat_none rfl) (Y1_call (s_impl_kronecker hy20) cf_impl_kronecker rfl (by kernel_rfl)) rfl rfl rfl 47 rfl ?_
        refine DE_0 4 (.c (.sl (l3.map c3))) (by kernel_rfl) rfl rfl rfl (gsat_none rfl) (by kernel_rfl) (E_move (.c (.sl (l3.map c3))) rfl (by kernel_rfl)) 48 rfl ?_
        refine DE_0 5 (I vm12) (by kernel_rfl) rfl rfl rfl (gsat_none rfl) (by kernel_rfl) (E_move (I vm12) rfl (by kernel_rfl)) 49 rfl ?_
        refine DE_0 6 (I p2) (by kernel_rfl) rfl rfl rfl (gsat_none rfl) (by kernel_rfl) (E_move (I p2) rfl (by kernel_rfl)) 50 rfl ?_
        refine DE_0 7 (I (w64 (Int.tdiv vm12 p2))) (by kernel_rfl) rfl rfl rfl (gsat_none rfl) (by kernel_rfl) (Y0_quo64 (a := vm12) (b := p2) rfl (by kernel_rfl) (by kernel_rfl) (nz_some hz21)) 51 rfl ?_
        refine DE_0 8 (.pe [Ti e22]) (by kernel_rfl) rfl rfl rfl (gsat_none rfl) (by kernel_rfl) (Y0_idxM (c := c3) (xs := l3) (v := e22) (n := w64 (Int.tdiv vm12 p2)) Try.underlying28 sz3 rfl (by kernel_rfl) (by kernel_rfl) he22) 52 rfl ?_
        refine DE_0 9 (I e22) (by kernel_rfl) rfl rfl rfl (gsat_none rfl) (by kernel_rfl) (Y0_load1 (c := Ti e22) (cs := []) sc3 rfl (by kernel_rfl)) 53 rfl ?_
        refine DE_0 10 (I (w64 (y20 * e22))) (by kernel_rfl) rfl rfl rfl (gsat_none rfl) (by kernel_rfl) (Y0_mul64 (a := y20) (b := e22) rfl (by kernel_rfl) (by kernel_rfl)) 54 rfl ?_
        refine DE_0 11 (I (w64 (e17 + (w64 (y20 * e22))))) (by kernel_rfl) rfl rfl rfl (gsat_none rfl) (by kernel_rfl) (Y0_add64 (a := e17) (b := w64 (y20 * e22)) rfl (by kernel_rfl) (by kernel_rfl)) 55 rfl ?_
        refine DE_0 12 (I (w64 (e17 + (w64 (y20 * e22))))) (by kernel_rfl) rfl rfl rfl (gsat_none rfl) (by kernel_rfl) (E_assign (I (w64 (e17 + (w64 (y20 * e22))))) rfl (by kernel_rfl)) 10 rfl ?_
        refine DL_nil (by kernel_rfl) ?_
        refine XL_nil ?_
        subst hk23
        kernel_rfl
       show V _ _ _ _
       obtain ⟨u24, hu24, h⟩ := of_bind h
       refine V_reg (mb 64 775) [200] (s1 := ⟨I d1 :: I p2 :: .c (.sl (l3.map c3)) :: bt 5 (.ow 200 :: I vm12 :: bt 54 []), [(200, .arr 3 1 ((l13 ++ ([k23])).map c3))]⟩) ?_ ?_
       ·refine L0 rfl rfl (E_move (.ow 200) rfl (by kernel_rfl)) ?_
        refine L0 rfl rfl (E_move (I k23) rfl (by kernel_rfl)) ?_
        refine L1 rfl rfl (Y1_bslice (z := zv3) (els := [k23].map c3) Try.underlying28 iz3 rfl (by decide) rfl (by kernel_rfl) rfl (by simp [c3]) (by decide) (by decide)) ?_
        refine XL_cons rfl (X_appendM (c := c3) (xs := l13) (ys := [k23]) (id := 200) (z := zv3) rfl rfl Try.underlying28 izb3 rfl (by kernel_rfl) (by kernel_rfl) (by kernel_rfl) (fun _ => rfl) (by simp) (room_some hu24) (by decide)) ?_
        refine L0 rfl rfl (E_assign (.ow 200) rfl (by kernel_rfl)) ?_
        refine XL_nil ?_
        kernel_rfl
       show V _ _ _ _
       obtain ⟨vm25, hvm25, h⟩ := of_sI h
       refine V_reg (mb 64 775) [200] (s1 := ⟨I d1 :: I p2 :: .c (.sl (l3.map c3)) :: bt 5 (.ow 200 :: I vm25 :: bt 54 []), [(200, .arr 3 1 ((l13 ++ ([k23])).map c3))]⟩) ?_ ?_
       ·refine L0 rfl rfl (E_move (I vm12) rfl (by kernel_rfl)) ?_
        refine L0 rfl rfl (Y0_add64 (a := vm12) (b := 1) rfl (by kernel_rfl) (by kernel_rfl)) ?_
        refine L0 rfl rfl (E_assign (I (w64 (vm12 + 1))) rfl (by kernel_rfl)) ?_
        refine XL_nil ?_
        subst hvm25
        kernel_rfl
       exact ⟨n, Nat.lt_succ_self n, _, _,  by rfl, h⟩
      ·have h := of_false h hc19
       refine V_skip ?_
       show V _ _ _ _
       obtain ⟨u26, hu26, h⟩ := of_bind h
       refine V_reg (mb 64 775) [200] (s1 := ⟨I d1 :: I p2 :: .c (.sl (l3.map c3)) :: bt 5 (.ow 200 :: I vm12 :: bt 54 []), [(200, .arr 3 1 ((l13 ++ ([e17])).map c3))]⟩) ?_ ?_
       ·refine L0 rfl rfl (E_move (.ow 200) rfl (by kernel_rfl)) ?_
        refine L0 rfl rfl (E_move (I e17) rfl (by kernel_rfl)) ?_
        refine L1 rfl rfl (Y1_bslice (z := zv3) (els := [e17].map c3) Try.underlying28 iz3 rfl (by decide) rfl (by kernel_rfl) rfl (by simp [c3]) (by decide) (by decide)) ?_
        refine XL_cons rfl (X_appendM (c := c3) (xs := l13) (ys := [e17]) (id := 200) (z := zv3) rfl rfl Try.underlying28 izb3 rfl (by kernel_rfl) (by kernel_rfl) (by kernel_rfl) (fun _ => rfl) (by simp) (room_some hu26) (by decide)) ?_
        refine L0 rfl rfl (E_assign (.ow 200) rfl (by kernel_rfl)) ?_
        refine XL_nil ?_
        kernel_rfl
       show V _ _ _ _
       obtain ⟨vm27, hvm27, h⟩ := of_sI h
       refine V_reg (mb 64 775) [200] (s1 := ⟨I d1 :: I p2 :: .c (.sl (l3.map c3)) :: bt 5 (.ow 200 :: I vm27 :: bt 54 []), [(200, .arr 3 1 ((l13 ++ ([e17])).map c3))]⟩) ?_ ?_
       ·refine L0 rfl rfl (E_move (I vm12) rfl (by kernel_rfl)) ?_
        refine L0 rfl rfl (Y0_add64 (a := vm12) (b := 1) rfl (by kernel_rfl) (by kernel_rfl)) ?_
        refine L0 rfl rfl (E_assign (I (w64 (vm12 + 1))) rfl (by kernel_rfl)) ?_
        refine XL_nil ?_
        subst hvm27
        kernel_rfl
       exact ⟨n, Nat.lt_succ_self n, _, _,  by rfl, h⟩
     ·have h := of_false h hc16
      refine V_exit ?_
      obtain rfl := some_inj h
      show St.keep _ _ _ = _
      rfl
   show V _ _ _ _
   obtain ⟨y28, hy28, h⟩ := of_bind h
   refine V_sreg (mb 64 192) [] (s1 := ⟨bt 6 (.c (.sl (y28.1.map c3)) :: Bo y28.2 :: bt 56 []), []⟩) ?_ ?_
   ·refine L0 rfl rfl (E_move (.ow 200) rfl (by kernel_rfl)) ?_
    refine XL_freeze 200 (T := 3) (sz := 1) (els := o15.map c3) (s1 := ⟨bt 8 (.c (.sl (o15.map c3)) :: bt 51 (.c (.sl (o15.map c3)) :: bt 3 [])), []⟩) (by kernel_rfl) (by kernel_rfl) ?_
    refine L1 rfl rfl (Y1_call (s_impl_checkedSeries hy28) cf_impl_checkedSeries rfl (by kernel_rfl)) ?_
    refine L0 rfl rfl (E_ext (n := 0) (.c (.sl (y28.1.map c3))) (.tc (Bo y28.2) .tn) (.c (.sl (y28.1.map c3))) rfl (by kernel_rfl) (by kernel_rfl) (by intro hh; cases hh)) ?_
    refine L0 rfl rfl (E_ext (n := 1) (.c (.sl (y28.1.map c3))) (.tc (Bo y28.2) .tn) (Bo y28.2) rfl (by kernel_rfl) (by kernel_rfl) (by intro hh; cases hh)) ?_
    refine L0 rfl rfl (E_assign (.c (.sl (y28.1.map c3))) rfl (by kernel_rfl)) ?_
    refine L0 rfl rfl (E_assign (Bo y28.2) rfl (by kernel_rfl)) ?_
    refine XL_nil ?_
    kernel_rfl
   refine V_ret ?_
   obtain rfl := some_inj h
   show Post _ _ _ _ _
   exact ⟨.inr rfl, rfl, rfl, rfl⟩
theorem cf_laws_FnThetaSums : ∀ args w, (callFunc 4 args).run Try.prog w = .ok (.enter 4 args) w := run_callFunc Try.func4 (by kernel_rfl) (by kernel_rfl)
set_option maxRecDepth 100000 in
set_option maxHeartbeats 400000 in
theorem s_laws_FnThetaSums {code1 : List Int} {more2 : List Int} {r : Bool} (h : r_laws_FnThetaSums code1 more2 = some r) : CallS Try.prog 4 [.c (.sl (code1.map c5)), .c (.sl (more2.map c5))] (Bo r) [] := by
  refine CallS_of_text (rs := [.t 4]) (vs := [.tmp 4]) Try.func4 rfl rfl (.cons rfl FitsL.nil) (by decide) 220 rfl ?_
  unfold r_laws_FnThetaSums at h
  show V _ _ ⟨.c (.sl (code1.map c5)) :: .c (.sl (more2.map c5)) :: bt 218 [], []⟩ _
  refine V_sreg (mb 220 3) [] (s1 := ⟨.c (.sl (code1.map c5)) :: .c (.sl (more2.map c5)) :: bt 218 [], []⟩) ?_ ?_
  ·refine L0 rfl rfl (E_assign (Bo false) rfl (by kernel_rfl)) ?_
   refine XL_nil ?_
   kernel_rfl
  refine V_seq ?_
  obtain ⟨y3, hy3, h⟩ := of_bind h
  refine V_sreg (mb 220 68719476739) [] (s1 := ⟨.c (.sl (code1.map c5)) :: .c (.sl (more2.map c5)) :: bt 34 (Bo y3 :: bt 183 []), []⟩) ?_ ?_
  ·refine L0 rfl rfl (E_move (.c (.sl (code1.map c5))) rfl (by kernel_rfl)) ?_
   refine L0 rfl rfl (E_move (.c (.sl (more2.map c5))) rfl (by kernel_rfl)) ?_
   refine L1 rfl rfl (Y1_call (s_laws_big hy3) cf_laws_big rfl (by kernel_rfl)) ?_
   refine XL_nil ?_
   kernel_rfl
  refine V_cond rfl (fun hc4 => ?_) (fun hc4 => ?_)
  ·have h := of_true h hc4
   refine V_sreg (mb 220 16) [] (s1 := ⟨bt 4 (Bo true :: bt 215 []), []⟩) ?_ ?_
   ·refine L0 rfl rfl (E_assign (Bo true) rfl (by kernel_rfl)) ?_
    refine XL_nil ?_
    kernel_rfl
   refine V_ret ?_
   obtain rfl := some_inj h
   show Post _ _ _ _ _
   exact ⟨.inr rfl, rfl, rfl, rfl⟩
  ·have h := of_false h hc4
   refine V_skip ?_
   show V _ _ _ _
   obtain ⟨y5, hy5, h⟩ := of_bind h
   refine V_sreg (mb 220 98) [] (s1 := ⟨.bot :: .c (.sl (more2.map c5)) :: bt 3 (I y5.1 :: I y5.2 :: bt 213 []), []⟩) ?_ ?_
   ·refine L0 rfl rfl (E_move (.c (.sl (code1.map c5))) rfl (by kernel_rfl)) ?_
    refine L1 rfl rfl (Y1_call (s_spec_DrawClassSum hy5) cf_spec_DrawClassSum rfl (by kernel_rfl)) ?_
    refine L0 rfl rfl (E_move (.tc (I y5.1) (.tc (I y5.2) .tn)) rfl (by kernel_rfl)) ?_
    refine L0 rfl rfl (E_ext (n := 0) (I y5.1) (.tc (I y5.2) .tn) (I y5.1) rfl (by kernel_rfl) (by kernel_rfl) (by intro hh; cases hh)) ?_
    refine L0 rfl rfl (E_ext (n := 1) (I y5.1) (.tc (I y5.2) .tn) (I y5.2) rfl (by kernel_rfl) (by kernel_rfl) (by intro hh; cases hh)) ?_
    refine L0 rfl rfl (E_assign (I y5.1) rfl (by kernel_rfl)) ?_
    refine L0 rfl rfl (E_assign (I y5.2) rfl (by kernel_rfl)) ?_
    refine XL_nil ?_
    kernel_rfl
   obtain ⟨y6, hy6, h⟩ := of_bind h
   refine V_sreg (mb 220 482) [360] (s1 := ⟨.bot :: .c (.sl (more2.map c5)) :: bt 3 (I y5.1 :: I y5.2 :: .ow 360 :: Bo y6.2 :: bt 211 []), [(360, .arr 3 1 (y6.1.map c3))]⟩) ?_ ?_
   ·refine L0 rfl rfl (E_move (I y5.1) rfl (by kernel_rfl)) ?_
    refine L0 rfl rfl (E_move (I y5.2) rfl (by kernel_rfl)) ?_
    refine L1 rfl rfl (Y1_call (s_impl_ClassSum hy6) cf_impl_ClassSum rfl (by kernel_rfl)) ?_
    refine L0 rfl rfl (E_move (.tc (.ow 360) (.tc (Bo y6.2) .tn)) rfl (by kernel_rfl)) ?_
    refine L0 rfl rfl (E_ext (n := 0) (.ow 360) (.tc (Bo y6.2) .tn) (.ow 360) rfl (by kernel_rfl) (by kernel_rfl) (by intro hh; cases hh)) ?_
    refine L0 rfl rfl (E_ext (n := 1) (.ow 360) (.tc (Bo y6.2) .tn) (Bo y6.2) rfl (by kernel_rfl) (by kernel_rfl) (by intro hh; cases hh)) ?_
    refine L0 rfl rfl (E_assign (.ow 360) rfl (by kernel_rfl)) ?_
    refine L0 rfl rfl (E_assign (Bo y6.2) rfl (by kernel_rfl)) ?_
    refine XL_nil ?_
    kernel_rfl
   obtain ⟨y7, hy7, h⟩ := of_bind h
   refine V_sreg (mb 220 2018) [408, 360] (s1 := ⟨.bot :: .c (.sl (more2.map c5)) :: bt 3 (I y5.1 :: I y5.2 :: .ow 360 :: Bo y6.2 :: .ow 408 :: Bo y7.2 :: bt 209 []), [(408, .arr 3 1 (y7.1.map c3)), (360, .arr 3 1 (y6.1.map c3))]⟩) ?_ ?_
   ·refine L0 rfl rfl (E_move (I y5.1) rfl (by kernel_rfl)) ?_
    refine L0 rfl rfl (E_move (I y5.2) rfl (by kernel_rfl)) ?_
    refine L1 rfl rfl (Y1_call (s_spec_ClassSum hy7) cf_spec_ClassSum rfl (by kernel_rfl)) ?_
    refine L0 rfl rfl (E_move (.tc (.ow 408) (.tc (Bo y7.2) .tn)) rfl (by kernel_rfl)) ?_
    refine L0 rfl rfl (E_ext (n := 0) (.ow 408) (.tc (Bo y7.2) .tn) (.ow 408) rfl (by kernel_rfl) (by kernel_rfl) (by intro hh; cases hh)) ?_
    refine L0 rfl rfl (E_ext (n := 1) (.ow 408) (.tc (Bo y7.2) .tn) (Bo y7.2) rfl (by kernel_rfl) (by kernel_rfl) (by intro hh; cases hh)) ?_
    refine L0 rfl rfl (E_assign (.ow 408) rfl (by kernel_rfl)) ?_
    refine L0 rfl rfl (E_assign (Bo y7.2) rfl (by kernel_rfl)) ?_
    refine XL_nil ?_
    kernel_rfl
   refine V_seq ?_
   obtain ⟨b10, hb10, h⟩ := of_bind h
   refine V_sreg (mb 220 4611686018427388898) [408, 360] (s1 := ⟨.bot :: .c (.sl (more2.map c5)) :: bt 3 (I y5.1 :: I y5.2 :: .ow 360 :: Bo y6.2 :: .ow 408 :: bt 52 (Bo b10 :: bt 157 [])), [(408, .arr 3 1 (y7.1.map c3)), (360, .arr 3 1 (y6.1.map c3))]⟩) ?_ ?_
   ·refine L0 rfl rfl (E_move (Bo y6.2) rfl (by kernel_rfl)) ?_
    refine L0 rfl rfl (E_move (Bo y7.2) rfl (by kernel_rfl)) ?_
    refine L0 rfl rfl (Y0_neb (a := y6.2) (b := y7.2) Try.underlying4 rfl (by kernel_rfl) (by kernel_rfl)) ?_
    refine L0 rfl rfl (E_move (Bo (y6.2 != y7.2)) rfl (by kernel_rfl)) ?_
    refine XL_split (y6.2 != y7.2) (fun hc8 => ?_) (fun hc8 => ?_)
    ·have hb10 := some_inj (of_true hb10 hc8)
     refine XL_skipF _ rfl rfl (by kernel_rfl) hc8 rfl ?_
     refine XL_skipF _ rfl rfl (by kernel_rfl) hc8 rfl ?_
     refine XL_skipF _ rfl rfl (by kernel_rfl) hc8 rfl ?_
     refine XL_skipF _ rfl rfl (by kernel_rfl) hc8 rfl ?_
     refine XL_cons rfl (X_of_Y0 rfl (Y0_pickTe (b := y6.2 != y7.2) (p := true) rfl (by kernel_rfl) hc8 (by kernel_rfl) hb10)) ?_
     refine XL_nil ?_
     kernel_rfl
    ·have hb10 := of_false hb10 hc8
     obtain ⟨y9, hy9, hb10⟩ := of_bind hb10
     have hb10 := some_inj hb10
     refine XL_takeC _ rfl rfl (by kernel_rfl) hc8 (X_of_Y0 rfl (E_move (.ow 360) rfl (by kernel_rfl))) ?_
     refine XL_takeC _ rfl rfl (by kernel_rfl) hc8 (X_of_Y0 rfl (E_move (.ow 408) rfl (by kernel_rfl))) ?_
     refine XL_takeC _ rfl rfl (by kernel_rfl) hc8 (X_of_Y1 rfl (Y1_callS (s_laws_sameInts hy9) cf_laws_sameInts rfl (by kernel_rfl) rfl rfl)) ?_
     refine XL_takeC _ rfl rfl (by kernel_rfl) hc8 (X_of_Y0 rfl (Y0_not (b := y9) rfl (by kernel_rfl))) ?_
     refine XL_cons rfl (X_of_Y0 rfl (Y0_pickFe (b := y6.2 != y7.2) (p := !y9) rfl (by kernel_rfl) hc8 (by kernel_rfl) hb10)) ?_
     refine XL_nil ?_
     kernel_rfl
   refine V_cond rfl (fun hc11 => ?_) (fun hc11 => ?_)
   ·have h := of_true h hc11
    refine V_sreg (mb 220 16) [] (s1 := ⟨bt 4 (Bo false :: bt 215 []), []⟩) ?_ ?_
    ·refine L0 rfl rfl (E_assign (Bo false) rfl (by kernel_rfl)) ?_
     refine XL_nil ?_
     kernel_rfl
    refine V_ret ?_
    obtain rfl := some_inj h
    show Post _ _ _ _ _
    exact ⟨.inr rfl, rfl, rfl, rfl⟩
   ·have h := of_false h hc11
    refine V_skip ?_
    show V _ _ _ _
    refine V_seq ?_
    refine V_sreg (mb 220 18446744073709552354) [408, 360] (s1 := ⟨.bot :: .c (.sl (more2.map c5)) :: bt 3 (I y5.1 :: I y5.2 :: .ow 360 :: .bot :: .ow 408 :: bt 54 (Bo (!y6.2) :: bt 155 [])), [(408, .arr 3 1 (y7.1.map c3)), (360, .arr 3 1 (y6.1.map c3))]⟩) ?_ ?_
    ·refine L0 rfl rfl (E_move (Bo y6.2) rfl (by kernel_rfl)) ?_
     refine L0 rfl rfl (Y0_not (b := y6.2) rfl (by kernel_rfl)) ?_
     refine XL_nil ?_
     kernel_rfl
    refine V_cond rfl (fun hc12 => ?_) (fun hc12 => ?_)
    ·have h := of_true h hc12
     refine V_sreg (mb 220 16) [] (s1 := ⟨bt 4 (Bo true :: bt 215 []), []⟩) ?_ ?_
     ·refine L0 rfl rfl (E_assign (Bo true) rfl (by kernel_rfl)) ?_
      refine XL_nil ?_
      kernel_rfl
     refine V_ret ?_
     obtain rfl := some_inj h
     show Post _ _ _ _ _
     exact ⟨.inr rfl, rfl, rfl, rfl⟩
    ·have h := of_false h hc12
     refine V_skip ?_
     show V _ _ _ _
     obtain ⟨y13, hy13, h⟩ := of_bind h
     refine V_sreg (mb 220 6882) [536, 408, 360] (s1 := ⟨.bot :: .c (.sl (more2.map c5)) :: bt 3 (I y5.1 :: I y5.2 :: .ow 360 :: .bot :: .ow 408 :: .bot :: .ow 536 :: Bo y13.2 :: bt 207 []), [(536, .arr 40 1 (y13.1.map c40)), (408, .arr 3 1 (y7.1.map c3)), (360, .arr 3 1 (y6.1.map c3))]⟩) ?_ ?_
     ·refine L0 rfl rfl (E_move (I y5.1) rfl (by kernel_rfl)) ?_
      refine L1 rfl rfl (Y1_call (s_impl_GeneraOf hy13) cf_impl_GeneraOf rfl (by kernel_rfl)) ?_
      refine L0 rfl rfl (E_move (.tc (.ow 536) (.tc (Bo y13.2) .tn)) rfl (by kernel_rfl)) ?_
      refine L0 rfl rfl (E_ext (n := 0) (.ow 536) (.tc (Bo y13.2) .tn) (.ow 536) rfl (by kernel_rfl) (by kernel_rfl) (by intro hh; cases hh)) ?_
      refine L0 rfl rfl (E_ext (n := 1) (.ow 536) (.tc (Bo y13.2) .tn) (Bo y13.2) rfl (by kernel_rfl) (by kernel_rfl) (by intro hh; cases hh)) ?_
      refine L0 rfl rfl (E_assign (.ow 536) rfl (by kernel_rfl)) ?_
      refine L0 rfl rfl (E_assign (Bo y13.2) rfl (by kernel_rfl)) ?_
      refine XL_nil ?_
      kernel_rfl
     refine V_seq ?_
     refine V_sreg (mb 220 2361183241434822609634) [536, 408, 360] (s1 := ⟨.bot :: .c (.sl (more2.map c5)) :: bt 3 (I y5.1 :: I y5.2 :: .ow 360 :: .bot :: .ow 408 :: .bot :: .ow 536 :: bt 59 (Bo (!y13.2) :: bt 148 [])), [(536, .arr 40 1 (y13.1.map c40)), (408, .arr 3 1 (y7.1.map c3)), (360, .arr 3 1 (y6.1.map c3))]⟩) ?_ ?_
     ·refine L0 rfl rfl (E_move (Bo y13.2) rfl (by kernel_rfl)) ?_
      refine L0 rfl rfl (Y0_not (b := y13.2) rfl (by kernel_rfl)) ?_
      refine XL_nil ?_
      kernel_rfl
     refine V_cond rfl (fun hc14 => ?_) (fun hc14 => ?_)
     ·have h := of_true h hc14
      refine V_sreg (mb 220 16) [] (s1 := ⟨bt 4 (Bo false :: bt 215 []), []⟩) ?_ ?_
      ·refine L0 rfl rfl (E_assign (Bo false) rfl (by kernel_rfl)) ?_
       refine XL_nil ?_
       kernel_rfl
      refine V_ret ?_
      obtain rfl := some_inj h
      show Post _ _ _ _ _
      exact ⟨.inr rfl, rfl, rfl, rfl⟩
     ·have h := of_false h hc14
      refine V_skip ?_
      show V _ _ _ _
      obtain ⟨u15, hu15, h⟩ := of_bind h
      refine V_sreg (mb 220 10978) [592, 536, 408, 360] (s1 := ⟨.bot :: .c (.sl (more2.map c5)) :: bt 3 (I y5.1 :: I y5.2 :: .ow 360 :: .bot :: .ow 408 :: .bot :: .ow 536 :: .bot :: .ow 592 :: bt 206 []), [(592, .arr 3 1 ((List.replicate (Int.toNat ((y7.1.length : Int))) ((0 : Int))).map c3)), (536, .arr 40 1 (y13.1.map c40)), (408, .arr 3 1 (y7.1.map c3)), (360, .arr 3 1 (y6.1.map c3))]⟩) ?_ ?_
      ·refine L0 rfl rfl (E_move (.ow 408) rfl (by kernel_rfl)) ?_
       refine L0 rfl rfl (Y0_lenM (c := c3) (xs := y7.1) Try.underlying28 rfl (by kernel_rfl)) ?_
       refine L1 rfl rfl (Y1_make (c := c3) (zx := (0 : Int)) (z := zv3) (l := (y7.1.length : Int)) (k := (y7.1.length : Int)) Try.underlying28 izb3 rfl rfl (by decide) rfl rfl (by kernel_rfl) (by kernel_rfl) (mk_some hu15) (by decide)) ?_
       refine L0 rfl rfl (E_assign (.ow 592) rfl (by kernel_rfl)) ?_
       refine XL_nil ?_
       kernel_rfl
      refine V_seq ?_
      refine V_sreg (mb 220 264452523040700131975906) [592, 536, 408, 360] (s1 := ⟨.bot :: .c (.sl (more2.map c5)) :: bt 3 (I y5.1 :: I y5.2 :: .ow 360 :: .bot :: .ow 408 :: bt 3 (.ow 592 :: bt 61 (.ow 536 :: I ((y13.1.length : Int)) :: I 0 :: bt 142 []))), [(592, .arr 3 1 ((List.replicate (Int.toNat ((y7.1.length : Int))) ((0 : Int))).map c3)), (536, .arr 40 1 (y13.1.map c40)), (408, .arr 3 1 (y7.1.map c3)), (360, .arr 3 1 (y6.1.map c3))]⟩) ?_ ?_
      ·refine L0 rfl rfl (E_move (.ow 536) rfl (by kernel_rfl)) ?_
       refine L0 rfl rfl (Y0_lenM (c := c40) (xs := y13.1) Try.underlying37 rfl (by kernel_rfl)) ?_
       refine L0 rfl rfl (E_move (I 0) rfl (by kernel_rfl)) ?_
       refine XL_nil ?_
       kernel_rfl
      obtain ⟨qo19, hLo19, hko19⟩ := of_bind h
      refine V_toS (q := qo19) (S := fun o19 => ⟨.bot :: .c (.sl (more2.map c5)) :: bt 3 (I y5.1 :: I y5.2 :: .ow 360 :: .bot :: .ow 408 :: bt 3 (.ow 592 :: bt 206 [])), [(592, .arr 3 1 (o19.map c3)), (408, .arr 3 1 (y7.1.map c3)), (360, .arr 3 1 (y6.1.map c3))]⟩) (mb 220 8930) [592, 408, 360] ?_ ?_
      ·refine V_block (V_loop (fun n s => ∃ (t16 : Int) (l17 : List Int), s.keep (mb 220 264452523040700131975906) [592, 536, 408, 360] = (⟨.bot :: .c (.sl (more2.map c5)) :: bt 3 (I y5.1 :: I y5.2 :: .ow 360 :: .bot :: .ow 408 :: bt 3 (.ow 592 :: bt 61 (.ow 536 :: I ((y13.1.length : Int)) :: I t16 :: bt 142 []))), [(592, .arr 3 1 (l17.map c3)), (536, .arr 40 1 (y13.1.map c40)), (408, .arr 3 1 (y7.1.map c3)), (360, .arr 3 1 (y6.1.map c3))]⟩ : St) ∧ r_laws_FnThetaSums_L18 more2 y13 y5 y6 y7 n t16 l17 = some qo19) FU ⟨_, _,  by rfl, hLo19⟩ ?_)
       clear hLo19
       rintro n s ⟨t16, l17, hs, h⟩
       refine V_keep _ _ hs ?_
       clear hs
       cases n with
       | zero => cases h
       | succ n =>
        rw [r_laws_FnThetaSums_L18] at h
        refine V_sreg (mb 220 566683977944357425652450) [592, 536, 408, 360] (s1 := ⟨.bot :: .c (.sl (more2.map c5)) :: bt 3 (I y5.1 :: I y5.2 :: .ow 360 :: .bot :: .ow 408 :: bt 3 (.ow 592 :: bt 61 (.ow 536 :: I ((y13.1.length : Int)) :: I t16 :: Bo (ltI t16 ((y13.1.length : Int))) :: bt 141 []))), [(592, .arr 3 1 (l17.map c3)), (536, .arr 40 1 (y13.1.map c40)), (408, .arr 3 1 (y7.1.map c3)), (360, .arr 3 1 (y6.1.map c3))]⟩) ?_ ?_
        ·refine L0 rfl rfl (Y0_ltw (k := .i64) (a := t16) (b := (y13.1.length : Int)) rfl (by kernel_rfl) (by kernel_rfl)) ?_
         refine XL_nil ?_
         kernel_rfl
        refine V_seq ?_
        refine V_cond rfl (fun hc20 => ?_) (fun hc20 => ?_)
        ·have h := of_true h hc20
         refine V_skip ?_
         show V _ _ _ _
         refine V_seq ?_
         refine V_block ?_
         obtain ⟨e21, he21, h⟩ := of_bind h
         obtain ⟨e22, he22, h⟩ := of_bind h
         refine V_sreg (mb 220 264452523040700132008674) [592, 536, 408, 360] (s1 := ⟨.bot :: .c (.sl (more2.map c5)) :: bt 3 (I y5.1 :: I y5.2 :: .ow 360 :: .bot :: .ow 408 :: bt 3 (.ow 592 :: .bot :: .c (.sl (e22.map c43)) :: bt 59 (.ow 536 :: I ((y13.1.length : Int)) :: I t16 :: bt 142 []))), [(592, .arr 3 1 (l17.map c3)), (536, .arr 40 1 (y13.1.map c40)), (408, .arr 3 1 (y7.1.map c3)), (360, .arr 3 1 (y6.1.map c3))]⟩) ?_ ?_
         ·refine L0 rfl rfl (Y0_idxoM (c := c40) (xs := y13.1) (v := e21) (id := 536) (T := 40) (sz := 1) (n := t16) Try.underlying37 sz40 rfl (by kernel_rfl) (by kernel_rfl) (by kernel_rfl) he21) ?_
          refine L0 rfl rfl (Y0_loado1 (c := c40) (xs := y13.1) (v := e22) (id := 536) (sz := 1) (T := 40) (off := 0) (n := t16) (d := .sl (e22.map c43)) (ds := []) sc40 rfl (by kernel_rfl) (by kernel_rfl) he22 (by kernel_rfl)) ?_
          refine L0 rfl rfl (E_assign (.c (.sl (e22.map c43))) rfl (by kernel_rfl)) ?_
          refine XL_nil ?_
          kernel_rfl
         obtain ⟨e23, he23, h⟩ := of_bind h
         obtain ⟨y24, hy24, h⟩ := of_bind h
         refine V_sreg (mb 220 264452523040700132172514) [688, 592, 536, 408, 360] (s1 := ⟨.bot :: .c (.sl (more2.map c5)) :: bt 3 (I y5.1 :: I y5.2 :: .ow 360 :: .bot :: .ow 408 :: bt 3 (.ow 592 :: .bot :: .bot :: .ow 688 :: Bo y24.2 :: bt 57 (.ow 536 :: I ((y13.1.length : Int)) :: I t16 :: bt 142 []))), [(688, .arr 3 1 (y24.1.map c3)), (592, .arr 3 1 (l17.map c3)), (536, .arr 40 1 (y13.1.map c40)), (408, .arr 3 1 (y7.1.map c3)), (360, .arr 3 1 (y6.1.map c3))]⟩) ?_ ?_
         ·refine L0 rfl rfl (E_move (.c (.sl (e22.map c43))) rfl (by kernel_rfl)) ?_
          refine L0 rfl rfl (Y0_idxM (c := c43) (xs := e22) (v := e23) (n := 0) Try.underlying40 sz43 rfl (by kernel_rfl) (by kernel_rfl) he23) ?_
          refine L0 rfl rfl (E_loadn (cs := [Ti e23.1, Ti e23.2.1, Ti e23.2.2]) [Ti e23.1, Ti e23.2.1, Ti e23.2.2] wd43 rfl (by kernel_rfl) (Nat.le_of_ble_eq_true rfl) (by kernel_rfl)) ?_
          refine L0 rfl rfl (E_move (I y5.2) rfl (by kernel_rfl)) ?_
          refine L1 rfl rfl (Y1_call (s_impl_GenusSum hy24) cf_impl_GenusSum rfl (by kernel_rfl)) ?_
          refine L0 rfl rfl (E_move (.tc (.ow 688) (.tc (Bo y24.2) .tn)) rfl (by kernel_rfl)) ?_
          refine L0 rfl rfl (E_ext (n := 0) (.ow 688) (.tc (Bo y24.2) .tn) (.ow 688) rfl (by kernel_rfl) (by kernel_rfl) (by intro hh; cases hh)) ?_
          refine L0 rfl rfl (E_ext (n := 1) (.ow 688) (.tc (Bo y24.2) .tn) (Bo y24.2) rfl (by kernel_rfl) (by kernel_rfl) (by intro hh; cases hh)) ?_
          refine L0 rfl rfl (E_assign (.ow 688) rfl (by kernel_rfl)) ?_
          refine L0 rfl rfl (E_assign (Bo y24.2) rfl (by kernel_rfl)) ?_
          refine XL_nil ?_
          kernel_rfl
         refine V_seq ?_
         obtain ⟨t26, ht26, h⟩ := of_bind h
         have ht26 := some_inj ht26
         refine V_sreg (mb 220 158456589481051715887219942114) [688, 592, 536, 408, 360] (s1 := ⟨.bot :: .c (.sl (more2.map c5)) :: bt 3 (I y5.1 :: I y5.2 :: .ow 360 :: .bot :: .ow 408 :: bt 3 (.ow 592 :: .bot :: .bot :: .ow 688 :: bt 58 (.ow 536 :: I ((y13.1.length : Int)) :: I t16 :: bt 19 (Bo t26 :: bt 122 [])))), [(688, .arr 3 1 (y24.1.map c3)), (592, .arr 3 1 (l17.map c3)), (536, .arr 40 1 (y13.1.map c40)), (408, .arr 3 1 (y7.1.map c3)), (360, .arr 3 1 (y6.1.map c3))]⟩) ?_ ?_
         ·refine L0 rfl rfl (E_move (Bo y24.2) rfl (by kernel_rfl)) ?_
          refine L0 rfl rfl (Y0_not (b := y24.2) rfl (by kernel_rfl)) ?_
          refine L0 rfl rfl (E_move (Bo (!y24.2)) rfl (by kernel_rfl)) ?_
          refine XL_split (!y24.2) (fun hc25 => ?_) (fun hc25 => ?_)
          ·refine XL_skipF _ rfl rfl (by kernel_rfl) hc25 rfl ?_
           refine XL_skipF _ rfl rfl (by kernel_rfl) hc25 rfl ?_
           refine XL_skipF _ rfl rfl (by kernel_rfl) hc25 rfl ?_
           refine XL_skipF _ rfl rfl (by kernel_rfl) hc25 rfl ?_
           refine XL_skipF _ rfl rfl (by kernel_rfl) hc25 rfl ?_
           refine XL_cons rfl (X_of_Y0 rfl (Y0_pick1 (b := !y24.2) (p := true) (q := !eqI ((y24.1.length : Int)) ((l17.length : Int))) rfl (by kernel_rfl) hc25 (by kernel_rfl))) ?_
           refine XL_nil ?_
           subst ht26
           kernel_rfl
          ·refine XL_takeC _ rfl rfl (by kernel_rfl) hc25 (X_of_Y0 rfl (E_move (.ow 688) rfl (by kernel_rfl))) ?_
           refine XL_takeC _ rfl rfl (by kernel_rfl) hc25 (X_of_Y0 rfl (Y0_lenM (c := c3) (xs := y24.1) Try.underlying28 rfl (by kernel_rfl))) ?_
           refine XL_takeC _ rfl rfl (by kernel_rfl) hc25 (X_of_Y0 rfl (E_move (.ow 592) rfl (by kernel_rfl))) ?_
           refine XL_takeC _ rfl rfl (by kernel_rfl) hc25 (X_of_Y0 rfl (Y0_lenM (c := c3) (xs := l17) Try.underlying28 rfl (by kernel_rfl))) ?_
           refine XL_takeC _ rfl rfl (by kernel_rfl) hc25 (X_of_Y0 rfl (Y0_new (k := .i64) (a := (y24.1.length : Int)) (b := (l17.length : Int)) rfl (by kernel_rfl) (by kernel_rfl))) ?_
           refine XL_cons rfl (X_of_Y0 rfl (Y0_pick0 (b := !y24.2) (p := true) (q := !eqI ((y24.1.length : Int)) ((l17.length : Int))) rfl (by kernel_rfl) hc25 (by kernel_rfl))) ?_
           refine XL_nil ?_
           subst ht26
           kernel_rfl
         refine V_cond rfl (fun hc27 => ?_) (fun hc27 => ?_)
         ·have h := of_true h hc27
          refine V_sreg (mb 220 16) [] (s1 := ⟨bt 4 (Bo false :: bt 215 []), []⟩) ?_ ?_
          ·refine L0 rfl rfl (E_assign (Bo false) rfl (by kernel_rfl)) ?_
           refine XL_nil ?_
           kernel_rfl
          refine V_ret ?_
          obtain rfl := some_inj h
          have h := hko19
          obtain rfl := some_inj h
          show Post _ _ _ _ _
          exact ⟨.inr rfl, rfl, rfl, rfl⟩
         ·have h := of_false h hc27
          refine V_skip ?_
          show V _ _ _ _
          refine V_sreg (mb 220 2218388814851924493319362585314) [688, 592, 536, 408, 360] (s1 := ⟨.bot :: .c (.sl (more2.map c5)) :: bt 3 (I y5.1 :: I y5.2 :: .ow 360 :: .bot :: .ow 408 :: bt 3 (.ow 592 :: bt 61 (.ow 536 :: I ((y13.1.length : Int)) :: I t16 :: bt 20 (.ow 688 :: I ((y24.1.length : Int)) :: I 0 :: bt 119 [])))), [(688, .arr 3 1 (y24.1.map c3)), (592, .arr 3 1 (l17.map c3)), (536, .arr 40 1 (y13.1.map c40)), (408, .arr 3 1 (y7.1.map c3)), (360, .arr 3 1 (y6.1.map c3))]⟩) ?_ ?_
          ·refine L0 rfl rfl (E_move (.ow 688) rfl (by kernel_rfl)) ?_
           refine L0 rfl rfl (Y0_lenM (c := c3) (xs := y24.1) Try.underlying28 rfl (by kernel_rfl)) ?_
           refine L0 rfl rfl (E_move (I 0) rfl (by kernel_rfl)) ?_
           refine XL_nil ?_
           kernel_rfl
          obtain ⟨o31, hLo31, h⟩ := of_bind h
          refine V_toK (mb 220 264452523040700131975906) [592, 536, 408, 360] (s1 := ⟨.bot :: .c (.sl (more2.map c5)) :: bt 3 (I y5.1 :: I y5.2 :: .ow 360 :: .bot :: .ow 408 :: bt 3 (.ow 592 :: bt 61 (.ow 536 :: I ((y13.1.length : Int)) :: I t16 :: bt 142 []))), [(592, .arr 3 1 (o31.map c3)), (536, .arr 40 1 (y13.1.map c40)), (408, .arr 3 1 (y7.1.map c3)), (360, .arr 3 1 (y6.1.map c3))]⟩) ?_ ?_
          ·clear h
           refine V_block (V_loop (fun n s => ∃ (t28 : Int) (l29 : List Int), s.keep (mb 220 2218388814851924493319362585314) [688, 592, 536, 408, 360] = (⟨.bot :: .c (.sl (more2.map c5)) :: bt 3 (I y5.1 :: I y5.2 :: .ow 360 :: .bot :: .ow 408 :: bt 3 (.ow 592 :: bt 61 (.ow 536 :: I ((y13.1.length : Int)) :: I t16 :: bt 20 (.ow 688 :: I ((y24.1.length : Int)) :: I t28 :: bt 119 [])))), [(688, .arr 3 1 (y24.1.map c3)), (592, .arr 3 1 (l29.map c3)), (536, .arr 40 1 (y13.1.map c40)), (408, .arr 3 1 (y7.1.map c3)), (360, .arr 3 1 (y6.1.map c3))]⟩ : St) ∧ r_laws_FnThetaSums_L30 more2 t16 y13 y24 y5 y6 y7 n t28 l29 = some o31) FU ⟨_, _,  by rfl, hLo31⟩ ?_)
           clear hLo31
           rintro n s ⟨t28, l29, hs, h⟩
           refine V_keep _ _ hs ?_
           clear hs
           cases n with
           | zero => cases h
           | succ n =>
            rw [r_laws_FnThetaSums_L30] at h
            refine V_sreg (mb 220 4753690015308383296312768996066) [688, 592, 536, 408, 360] (s1 := ⟨.bot :: .c (.sl (more2.map c5)) :: bt 3 (I y5.1 :: I y5.2 :: .ow 360 :: .bot :: .ow 408 :: bt 3 (.ow 592 :: bt 61 (.ow 536 :: I ((y13.1.length : Int)) :: I t16 :: bt 20 (.ow 688 :: I ((y24.1.length : Int)) :: I t28 :: Bo (ltI t28 ((y24.1.length : Int))) :: bt 118 [])))), [(688, .arr 3 1 (y24.1.map c3)), (592, .arr 3 1 (l29.map c3)), (536, .arr 40 1 (y13.1.map c40)), (408, .arr 3 1 (y7.1.map c3)), (360, .arr 3 1 (y6.1.map c3))]⟩) ?_ ?_
            ·refine L0 rfl rfl (Y0_ltw (k := .i64) (a := t28) (b := (y24.1.length : Int)) rfl (by kernel_rfl) (by kernel_rfl)) ?_
             refine XL_nil ?_
             kernel_rfl
            refine V_seq ?_
            refine V_cond rfl (fun hc32 => ?_) (fun hc32 => ?_)
            ·have h := of_true h hc32
             refine V_skip ?_
             show V _ _ _ _
             refine V_seq ?_
             refine V_block ?_
             obtain ⟨e33, he33, h⟩ := of_bind h
             obtain ⟨e34, he34, h⟩ := of_bind h
             refine V_sreg (mb 220 2218388814851924493319363371746) [688, 592, 536, 408, 360] (s1 := ⟨.bot :: .c (.sl (more2.map c5)) :: bt 3 (I y5.1 :: I y5.2 :: .ow 360 :: .bot :: .ow 408 :: bt 3 (.ow 592 :: bt 4 (I t28 :: I e34 :: bt 55 (.ow 536 :: I ((y13.1.length : Int)) :: I t16 :: bt 20 (.ow 688 :: I ((y24.1.length : Int)) :: I t28 :: bt 119 []))))), [(688, .arr 3 1 (y24.1.map c3)), (592, .arr 3 1 (l29.map c3)), (536, .arr 40 1 (y13.1.map c40)), (408, .arr 3 1 (y7.1.map c3)), (360, .arr 3 1 (y6.1.map c3))]⟩) ?_ ?_
             ·refine L0 rfl rfl (E_move (I t28) rfl (by kernel_rfl)) ?_
              refine L0 rfl rfl (Y0_idxoM (c := c3) (xs := y24.1) (v := e33) (id := 688) (T := 3) (sz := 1) (n := t28) Try.underlying28 sz3 rfl (by kernel_rfl) (by kernel_rfl) (by kernel_rfl) he33) ?_
              refine L0 rfl rfl (Y0_loado1 (c := c3) (xs := y24.1) (v := e34) (id := 688) (sz := 1) (T := 3) (off := 0) (n := t28) (d := Ti e34) (ds := []) sc3 rfl (by kernel_rfl) (by kernel_rfl) he34 (by kernel_rfl)) ?_
              refine L0 rfl rfl (E_assign (I t28) rfl (by kernel_rfl)) ?_
              refine L0 rfl rfl (E_assign (I e34) rfl (by kernel_rfl)) ?_
              refine XL_nil ?_
              kernel_rfl
             obtain ⟨e35, he35, h⟩ := of_bind h
             obtain ⟨e36, he36, h⟩ := of_bind h
             obtain ⟨e37, he37, h⟩ := of_bind h
             obtain ⟨e38, he38, h⟩ := of_bind h
             refine V_reg (mb 220 2218388814851924493319362585314) [688, 592, 536, 408, 360] (s1 := ⟨.bot :: .c (.sl (more2.map c5)) :: bt 3 (I y5.1 :: I y5.2 :: .ow 360 :: .bot :: .ow 408 :: bt 3 (.ow 592 :: bt 61 (.ow 536 :: I ((y13.1.length : Int)) :: I t16 :: bt 20 (.ow 688 :: I ((y24.1.length : Int)) :: I t28 :: bt 119 [])))), [(688, .arr 3 1 (y24.1.map c3)), (592, .arr 3 1 ((l29.set (Int.toNat (t28)) (w64 (e36 + e34))).map c3)), (536, .arr 40 1 (y13.1.map c40)), (408, .arr 3 1 (y7.1.map c3)), (360, .arr 3 1 (y6.1.map c3))]⟩) ?_ ?_
             ·refine L0 rfl rfl (E_move (.ow 592) rfl (by kernel_rfl)) ?_
              refine L0 rfl rfl (E_move (I t28) rfl (by kernel_rfl)) ?_
              refine L0 rfl rfl (Y0_idxoM (c := c3) (xs := l29) (v := e35) (id := 592) (T := 3) (sz := 1) (n := t28) Try.underlying28 sz3 rfl (by kernel_rfl) (by kernel_rfl) (by kernel_rfl) he35) ?_
              refine L0 rfl rfl (Y0_loado1 (c := c3) (xs := l29) (v := e36) (id := 592) (sz := 1) (T := 3) (off := 0) (n := t28) (d := Ti e36) (ds := []) sc3 rfl (by kernel_rfl) (by kernel_rfl) he36 (by kernel_rfl)) ?_
              refine L0 rfl rfl (E_move (I e34) rfl (by kernel_rfl)) ?_
              refine L0 rfl rfl (Y0_add64 (a := e36) (b := e34) rfl (by kernel_rfl) (by kernel_rfl)) ?_
              refine L0 rfl rfl (Y0_idxoM (c := c3) (xs := l29) (v := e37) (id := 592) (T := 3) (sz := 1) (n := t28) Try.underlying28 sz3 rfl (by kernel_rfl) (by kernel_rfl) (by kernel_rfl) he37) ?_
              refine XL_cons rfl (X_storeoM (c := c3) (xs := l29) (v := e38) (u := w64 (e36 + e34)) (id := 592) (sz := 1) (off := 0) (T0 := 3) (n := t28) (vc := [Ti (w64 (e36 + e34))]) rfl rfl (by kernel_rfl) (by kernel_rfl) he38 (by kernel_rfl) sz3 (Nat.le_of_ble_eq_true rfl) (by kernel_rfl)) ?_
              refine XL_nil ?_
              kernel_rfl
             show V _ _ _ _
             obtain ⟨t39, ht39, h⟩ := of_sI h
             refine V_reg (mb 220 2218388814851924493319362585314) [688, 592, 536, 408, 360] (s1 := ⟨.bot :: .c (.sl (more2.map c5)) :: bt 3 (I y5.1 :: I y5.2 :: .ow 360 :: .bot :: .ow 408 :: bt 3 (.ow 592 :: bt 61 (.ow 536 :: I ((y13.1.length : Int)) :: I t16 :: bt 20 (.ow 688 :: I ((y24.1.length : Int)) :: I t39 :: bt 119 [])))), [(688, .arr 3 1 (y24.1.map c3)), (592, .arr 3 1 ((l29.set (Int.toNat (t28)) (w64 (e36 + e34))).map c3)), (536, .arr 40 1 (y13.1.map c40)), (408, .arr 3 1 (y7.1.map c3)), (360, .arr 3 1 (y6.1.map c3))]⟩) ?_ ?_
             ·refine L0 rfl rfl (Y0_add64 (a := t28) (b := 1) rfl (by kernel_rfl) (by kernel_rfl)) ?_
              refine L0 rfl rfl (E_move (I (w64 (t28 + 1))) rfl (by kernel_rfl)) ?_
              refine XL_nil ?_
              subst ht39
              kernel_rfl
             exact ⟨n, Nat.lt_succ_self n, _, _,  by rfl, h⟩
            ·have h := of_false h hc32
             refine V_exit ?_
             obtain rfl := some_inj h
             show St.keep _ _ _ = _
             rfl
          show V _ _ _ _
          obtain ⟨t40, ht40, h⟩ := of_sI h
          refine V_reg (mb 220 264452523040700131975906) [592, 536, 408, 360] (s1 := ⟨.bot :: .c (.sl (more2.map c5)) :: bt 3 (I y5.1 :: I y5.2 :: .ow 360 :: .bot :: .ow 408 :: bt 3 (.ow 592 :: bt 61 (.ow 536 :: I ((y13.1.length : Int)) :: I t40 :: bt 142 []))), [(592, .arr 3 1 (o31.map c3)), (536, .arr 40 1 (y13.1.map c40)), (408, .arr 3 1 (y7.1.map c3)), (360, .arr 3 1 (y6.1.map c3))]⟩) ?_ ?_
          ·refine L0 rfl rfl (Y0_add64 (a := t16) (b := 1) rfl (by kernel_rfl) (by kernel_rfl)) ?_
           refine L0 rfl rfl (E_move (I (w64 (t16 + 1))) rfl (by kernel_rfl)) ?_
           refine XL_nil ?_
           subst ht40
           kernel_rfl
          exact ⟨n, Nat.lt_succ_self n, _, _,  by rfl, h⟩
        ·have h := of_false h hc20
         refine V_exit ?_
         obtain rfl := some_inj h
         exact ⟨_, rfl, by rfl⟩
      rintro o19 rfl
      have h := hko19
      clear hko19
      show V _ _ _ _
      refine V_seq ?_
      obtain ⟨y41, hy41, h⟩ := of_bind h
      refine V_sreg (mb 220 166153499473114484112975882535043298) [360] (s1 := ⟨.bot :: .c (.sl (more2.map c5)) :: bt 3 (I y5.1 :: I y5.2 :: .ow 360 :: bt 109 (Bo (!y41) :: bt 102 [])), [(360, .arr 3 1 (y6.1.map c3))]⟩) ?_ ?_
      ·refine L0 rfl rfl (E_move (.ow 592) rfl (by kernel_rfl)) ?_
       refine L0 rfl rfl (E_move (.ow 408) rfl (by kernel_rfl)) ?_
       refine L1 rfl rfl (Y1_callS (s_laws_sameInts hy41) cf_laws_sameInts rfl (by kernel_rfl) rfl rfl) ?_
       refine L0 rfl rfl (Y0_not (b := y41) rfl (by kernel_rfl)) ?_
       refine XL_nil ?_
       kernel_rfl
      refine V_cond rfl (fun hc42 => ?_) (fun hc42 => ?_)
      ·have h := of_true h hc42
       refine V_sreg (mb 220 16) [] (s1 := ⟨bt 4 (Bo false :: bt 215 []), []⟩) ?_ ?_
       ·refine L0 rfl rfl (E_assign (Bo false) rfl (by kernel_rfl)) ?_
        refine XL_nil ?_
        kernel_rfl
       refine V_ret ?_
       obtain rfl := some_inj h
       show Post _ _ _ _ _
       exact ⟨.inr rfl, rfl, rfl, rfl⟩
      ·have h := of_false h hc42
       refine V_skip ?_
       show V _ _ _ _
       obtain ⟨y43, hy43, h⟩ := of_bind h
       refine V_sreg (mb 220 3145954) [360] (s1 := ⟨.bot :: .c (.sl (more2.map c5)) :: bt 3 (I y5.1 :: I y5.2 :: .ow 360 :: bt 12 (Bo y43.1 :: Bo y43.2 :: bt 198 [])), [(360, .arr 3 1 (y6.1.map c3))]⟩) ?_ ?_
       ·refine L0 rfl rfl (E_move (I y5.1) rfl (by kernel_rfl)) ?_
        refine L1 rfl rfl (Y1_call (s_impl_IsFundamental hy43) cf_impl_IsFundamental rfl (by kernel_rfl)) ?_
        refine L0 rfl rfl (E_move (.tc (Bo y43.1) (.tc (Bo y43.2) .tn)) rfl (by kernel_rfl)) ?_
        refine L0 rfl rfl (E_ext (n := 0) (Bo y43.1) (.tc (Bo y43.2) .tn) (Bo y43.1) rfl (by kernel_rfl) (by kernel_rfl) (by intro hh; cases hh)) ?_
        refine L0 rfl rfl (E_ext (n := 1) (Bo y43.1) (.tc (Bo y43.2) .tn) (Bo y43.2) rfl (by kernel_rfl) (by kernel_rfl) (by intro hh; cases hh)) ?_
        refine L0 rfl rfl (E_assign (Bo y43.1) rfl (by kernel_rfl)) ?_
        refine L0 rfl rfl (E_assign (Bo y43.2) rfl (by kernel_rfl)) ?_
        refine XL_nil ?_
        kernel_rfl
       refine V_seq ?_
       refine V_sreg (mb 220 340282366920938463463374607431770308834) [360] (s1 := ⟨.bot :: .c (.sl (more2.map c5)) :: bt 3 (I y5.1 :: I y5.2 :: .ow 360 :: bt 13 (Bo y43.2 :: bt 106 (Bo (bif (!y43.2) then true else (!y43.1)) :: bt 91 []))), [(360, .arr 3 1 (y6.1.map c3))]⟩) ?_ ?_
       ·refine L0 rfl rfl (E_move (Bo y43.2) rfl (by kernel_rfl)) ?_
        refine L0 rfl rfl (Y0_not (b := y43.2) rfl (by kernel_rfl)) ?_
        refine L0 rfl rfl (E_move (Bo (!y43.2)) rfl (by kernel_rfl)) ?_
        refine XL_split (!y43.2) (fun hc44 => ?_) (fun hc44 => ?_)
        ·refine XL_skipF _ rfl rfl (by kernel_rfl) hc44 rfl ?_
         refine XL_skipF _ rfl rfl (by kernel_rfl) hc44 rfl ?_
         refine XL_cons rfl (X_of_Y0 rfl (Y0_pick1 (b := !y43.2) (p := true) (q := !y43.1) rfl (by kernel_rfl) hc44 (by kernel_rfl))) ?_
         refine XL_nil ?_
         kernel_rfl
        ·refine XL_takeC _ rfl rfl (by kernel_rfl) hc44 (X_of_Y0 rfl (E_move (Bo y43.1) rfl (by kernel_rfl))) ?_
         refine XL_takeC _ rfl rfl (by kernel_rfl) hc44 (X_of_Y0 rfl (Y0_not (b := y43.1) rfl (by kernel_rfl))) ?_
         refine XL_cons rfl (X_of_Y0 rfl (Y0_pick0 (b := !y43.2) (p := true) (q := !y43.1) rfl (by kernel_rfl) hc44 (by kernel_rfl))) ?_
         refine XL_nil ?_
         kernel_rfl
       refine V_cond rfl (fun hc45 => ?_) (fun hc45 => ?_)
       ·have h := of_true h hc45
        refine V_sreg (mb 220 16) [] (s1 := ⟨bt 4 (Bo y43.2 :: bt 215 []), []⟩) ?_ ?_
        ·refine L0 rfl rfl (E_move (Bo y43.2) rfl (by kernel_rfl)) ?_
         refine L0 rfl rfl (E_assign (Bo y43.2) rfl (by kernel_rfl)) ?_
         refine XL_nil ?_
         kernel_rfl
        refine V_ret ?_
        obtain rfl := some_inj h
        show Post _ _ _ _ _
        exact ⟨.inr rfl, rfl, rfl, rfl⟩
       ·have h := of_false h hc45
        refine V_skip ?_
        show V _ _ _ _
        obtain ⟨y46, hy46, h⟩ := of_bind h
        refine V_sreg (mb 220 12583138) [360] (s1 := ⟨.bot :: .c (.sl (more2.map c5)) :: bt 3 (I y5.1 :: I y5.2 :: .ow 360 :: bt 14 (I y46.1 :: Bo y46.2 :: bt 196 [])), [(360, .arr 3 1 (y6.1.map c3))]⟩) ?_ ?_
        ·refine L0 rfl rfl (E_move (I y5.1) rfl (by kernel_rfl)) ?_
         refine L1 rfl rfl (Y1_call (s_impl_AutomorphCount hy46) cf_impl_AutomorphCount rfl (by kernel_rfl)) ?_
         refine L0 rfl rfl (E_move (.tc (I y46.1) (.tc (Bo y46.2) .tn)) rfl (by kernel_rfl)) ?_
         refine L0 rfl rfl (E_ext (n := 0) (I y46.1) (.tc (Bo y46.2) .tn) (I y46.1) rfl (by kernel_rfl) (by kernel_rfl) (by intro hh; cases hh)) ?_
         refine L0 rfl rfl (E_ext (n := 1) (I y46.1) (.tc (Bo y46.2) .tn) (Bo y46.2) rfl (by kernel_rfl) (by kernel_rfl) (by intro hh; cases hh)) ?_
         refine L0 rfl rfl (E_assign (I y46.1) rfl (by kernel_rfl)) ?_
         refine L0 rfl rfl (E_assign (Bo y46.2) rfl (by kernel_rfl)) ?_
         refine XL_nil ?_
         kernel_rfl
        obtain ⟨y47, hy47, h⟩ := of_bind h
        refine V_sreg (mb 220 62914722) [1104, 360] (s1 := ⟨.bot :: .c (.sl (more2.map c5)) :: bt 3 (I y5.1 :: .bot :: .ow 360 :: bt 14 (I y46.1 :: Bo y46.2 :: .ow 1104 :: Bo y47.2 :: bt 194 [])), [(1104, .arr 3 1 (y47.1.map c3)), (360, .arr 3 1 (y6.1.map c3))]⟩) ?_ ?_
        ·refine L0 rfl rfl (E_move (I y5.1) rfl (by kernel_rfl)) ?_
         refine L0 rfl rfl (E_move (I y5.2) rfl (by kernel_rfl)) ?_
         refine L1 rfl rfl (Y1_call (s_impl_DivisorSeries hy47) cf_impl_DivisorSeries rfl (by kernel_rfl)) ?_
         refine L0 rfl rfl (E_move (.tc (.ow 1104) (.tc (Bo y47.2) .tn)) rfl (by kernel_rfl)) ?_
         refine L0 rfl rfl (E_ext (n := 0) (.ow 1104) (.tc (Bo y47.2) .tn) (.ow 1104) rfl (by kernel_rfl) (by kernel_rfl) (by intro hh; cases hh)) ?_
         refine L0 rfl rfl (E_ext (n := 1) (.ow 1104) (.tc (Bo y47.2) .tn) (Bo y47.2) rfl (by kernel_rfl) (by kernel_rfl) (by intro hh; cases hh)) ?_
         refine L0 rfl rfl (E_assign (.ow 1104) rfl (by kernel_rfl)) ?_
         refine L0 rfl rfl (E_assign (Bo y47.2) rfl (by kernel_rfl)) ?_
         refine XL_nil ?_
         kernel_rfl
        obtain ⟨y48, hy48, h⟩ := of_bind h
        obtain ⟨e49, he49, h⟩ := of_bind h
        obtain ⟨e50, he50, h⟩ := of_bind h
        refine V_sreg (mb 220 130023584) [1104, 360] (s1 := ⟨bt 5 (I y5.1 :: .bot :: .ow 360 :: bt 14 (I y46.1 :: Bo y46.2 :: .ow 1104 :: Bo y47.2 :: I e50 :: bt 193 [])), [(1104, .arr 3 1 (y47.1.map c3)), (360, .arr 3 1 (y6.1.map c3))]⟩) ?_ ?_
        ·refine L1 rfl rfl (Y1_bslice (z := zv3) (els := [2, 3, 5, 7, 11, 13].map c3) Try.underlying28 iz3 rfl (by decide) rfl (by kernel_rfl) rfl (by simp [c3]) (by decide) (by decide)) ?_
         refine L0 rfl rfl (E_move (.c (.sl (more2.map c5))) rfl (by kernel_rfl)) ?_
         refine L1 rfl rfl (Y1_call (s_laws_numberOf hy48) cf_laws_numberOf rfl (by kernel_rfl)) ?_
         refine L0 rfl rfl (Y0_rem (k := .i64) (a := y48) (b := 6) rfl (by kernel_rfl) (by kernel_rfl) (by decide)) ?_
         refine L0 rfl rfl (Y0_idxoM (c := c3) (xs := [2, 3, 5, 7, 11, 13]) (v := e49) (id := 1128) (T := 3) (sz := 1) (n := Int.tmod y48 6) Try.underlying28 sz3 rfl (by kernel_rfl) (by kernel_rfl) (by kernel_rfl) he49) ?_
         refine L0 rfl rfl (Y0_loado1 (c := c3) (xs := [2, 3, 5, 7, 11, 13]) (v := e50) (id := 1128) (sz := 1) (T := 3) (off := 0) (n := Int.tmod y48 6) (d := Ti e50) (ds := []) sc3 rfl (by kernel_rfl) (by kernel_rfl) he50 (by kernel_rfl)) ?_
         refine L0 rfl rfl (E_assign (I e50) rfl (by kernel_rfl)) ?_
         refine XL_nil ?_
         kernel_rfl
        obtain ⟨y51, hy51, h⟩ := of_bind h
        refine V_sreg (mb 220 532676768) [1104, 360] (s1 := ⟨bt 5 (I y5.1 :: .bot :: .ow 360 :: bt 14 (I y46.1 :: Bo y46.2 :: .ow 1104 :: Bo y47.2 :: I e50 :: I y51.1 :: Bo y51.2 :: bt 191 [])), [(1104, .arr 3 1 (y47.1.map c3)), (360, .arr 3 1 (y6.1.map c3))]⟩) ?_ ?_
        ·refine L0 rfl rfl (E_move (I y5.1) rfl (by kernel_rfl)) ?_
         refine L0 rfl rfl (E_move (I e50) rfl (by kernel_rfl)) ?_
         refine L1 rfl rfl (Y1_call (s_impl_KroneckerSymbol hy51) cf_impl_KroneckerSymbol rfl (by kernel_rfl)) ?_
         refine L0 rfl rfl (E_move (.tc (I y51.1) (.tc (Bo y51.2) .tn)) rfl (by kernel_rfl)) ?_
         refine L0 rfl rfl (E_ext (n := 0) (I y51.1) (.tc (Bo y51.2) .tn) (I y51.1) rfl (by kernel_rfl) (by kernel_rfl) (by intro hh; cases hh)) ?_
         refine L0 rfl rfl (E_ext (n := 1) (I y51.1) (.tc (Bo y51.2) .tn) (Bo y51.2) rfl (by kernel_rfl) (by kernel_rfl) (by intro hh; cases hh)) ?_
         refine L0 rfl rfl (E_assign (I y51.1) rfl (by kernel_rfl)) ?_
         refine L0 rfl rfl (E_assign (Bo y51.2) rfl (by kernel_rfl)) ?_
         refine XL_nil ?_
         kernel_rfl
        obtain ⟨y52, hy52, h⟩ := of_bind h
        refine V_sreg (mb 220 2143289472) [1104] (s1 := ⟨bt 7 (.c (.sl (y6.1.map c3)) :: bt 14 (I y46.1 :: Bo y46.2 :: .ow 1104 :: Bo y47.2 :: I e50 :: I y51.1 :: Bo y51.2 :: .c (.sl (y52.1.map c3)) :: Bo y52.2 :: bt 189 [])), [(1104, .arr 3 1 (y47.1.map c3))]⟩) ?_ ?_
        ·refine L0 rfl rfl (E_move (I y5.1) rfl (by kernel_rfl)) ?_
         refine L0 rfl rfl (E_move (I e50) rfl (by kernel_rfl)) ?_
         refine L0 rfl rfl (E_move (.ow 360) rfl (by kernel_rfl)) ?_
         refine XL_freeze 360 (T := 3) (sz := 1) (els := y6.1.map c3) (s1 := ⟨bt 5 (I y5.1 :: .bot :: .c (.sl (y6.1.map c3)) :: bt 14 (I y46.1 :: Bo y46.2 :: .ow 1104 :: Bo y47.2 :: I e50 :: I y51.1 :: Bo y51.2 :: bt 125 (I y5.1 :: I e50 :: .c (.sl (y6.1.map c3)) :: bt 63 []))), [(1104, .arr 3 1 (y47.1.map c3))]⟩) (by kernel_rfl) (by kernel_rfl) ?_
         refine L1 rfl rfl (Y1_call (s_impl_PrimeOnSeries hy52) cf_impl_PrimeOnSeries rfl (by kernel_rfl)) ?_
         refine L0 rfl rfl (E_move (.tc (.c (.sl (y52.1.map c3))) (.tc (Bo y52.2) .tn)) rfl (by kernel_rfl)) ?_
         refine L0 rfl rfl (E_ext (n := 0) (.c (.sl (y52.1.map c3))) (.tc (Bo y52.2) .tn) (.c (.sl (y52.1.map c3))) rfl (by kernel_rfl) (by kernel_rfl) (by intro hh; cases hh)) ?_
         refine L0 rfl rfl (E_ext (n := 1) (.c (.sl (y52.1.map c3))) (.tc (Bo y52.2) .tn) (Bo y52.2) rfl (by kernel_rfl) (by kernel_rfl) (by intro hh; cases hh)) ?_
         refine L0 rfl rfl (E_assign (.c (.sl (y52.1.map c3))) rfl (by kernel_rfl)) ?_
         refine L0 rfl rfl (E_assign (Bo y52.2) rfl (by kernel_rfl)) ?_
         refine XL_nil ?_
         kernel_rfl
        refine V_seq ?_
        obtain ⟨b58, hb58, h⟩ := of_bind h
        refine V_sreg (mb 220 49039857307708443467467104868809893875799651910567329920) [1104] (s1 := ⟨bt 7 (.c (.sl (y6.1.map c3)) :: bt 14 (I y46.1 :: .bot :: .ow 1104 :: .bot :: .bot :: I y51.1 :: .bot :: .c (.sl (y52.1.map c3)) :: bt 155 (Bo b58 :: bt 34 []))), [(1104, .arr 3 1 (y47.1.map c3))]⟩) ?_ ?_
        ·refine L0 rfl rfl (E_move (Bo y46.2) rfl (by kernel_rfl)) ?_
         refine L0 rfl rfl (Y0_not (b := y46.2) rfl (by kernel_rfl)) ?_
         refine L0 rfl rfl (E_move (Bo (!y46.2)) rfl (by kernel_rfl)) ?_
         refine XL_split (!y46.2) (fun hc53 => ?_) (fun hc53 => ?_)
         ·refine XL_skipF _ rfl rfl (by kernel_rfl) hc53 rfl ?_
          refine XL_skipF _ rfl rfl (by kernel_rfl) hc53 rfl ?_
          refine XL_cons rfl (X_of_Y0 rfl (Y0_pick1 (b := !y46.2) (p := true) (q := !y47.2) rfl (by kernel_rfl) hc53 (by kernel_rfl))) ?_
          refine L0 rfl rfl (E_move (Bo (bif (!y46.2) then true else (!y47.2))) rfl (by kernel_rfl)) ?_
          refine XL_split (bif (!y46.2) then true else (!y47.2)) (fun hc54 => ?_) (fun hc54 => ?_)
          ·refine XL_skipF _ rfl rfl (by kernel_rfl) hc54 rfl ?_
           refine XL_skipF _ rfl rfl (by kernel_rfl) hc54 rfl ?_
           refine XL_cons rfl (X_of_Y0 rfl (Y0_pick1 (b := bif (!y46.2) then true else (!y47.2)) (p := true) (q := !y51.2) rfl (by kernel_rfl) hc54 (by kernel_rfl))) ?_
           refine L0 rfl rfl (E_move (Bo (bif (bif (!y46.2) then true else (!y47.2)) then true else (!y51.2))) rfl (by kernel_rfl)) ?_
           refine XL_split (bif (bif (!y46.2) then true else (!y47.2)) then true else (!y51.2)) (fun hc55 => ?_) (fun hc55 => ?_)
           ·refine XL_skipF _ rfl rfl (by kernel_rfl) hc55 rfl ?_
            refine XL_skipF _ rfl rfl (by kernel_rfl) hc55 rfl ?_
            refine XL_cons rfl (X_of_Y0 rfl (Y0_pick1 (b := bif (bif (!y46.2) then true else (!y47.2)) then true else (!y51.2)) (p := true) (q := !y52.2) rfl (by kernel_rfl) hc55 (by kernel_rfl))) ?_
            refine L0 rfl rfl (E_move (Bo (bif (bif (bif (!y46.2) then true else (!y47.2)) then true else (!y51.2)) then true else (!y52.2))) rfl (by kernel_rfl)) ?_
            refine XL_split (bif (bif (bif (!y46.2) then true else (!y47.2)) then true else (!y51.2)) then true else (!y52.2)) (fun hc56 => ?_) (fun hc56 => ?_)
            ·have hb58 := some_inj (of_true hb58 hc56)
             refine XL_skipF _ rfl rfl (by kernel_rfl) hc56 rfl ?_
             refine XL_skipF _ rfl rfl (by kernel_rfl) hc56 rfl ?_
             refine XL_skipF _ rfl rfl (by kernel_rfl) hc56 rfl ?_
             refine XL_skipF _ rfl rfl (by kernel_rfl) hc56 rfl ?_
             refine XL_skipF _ rfl rfl (by kernel_rfl) hc56 rfl ?_
             refine XL_skipF _ rfl rfl (by kernel_rfl) hc56 rfl ?_
             refine XL_skipF _ rfl rfl (by kernel_rfl) hc56 rfl ?_
             refine XL_skipF _ rfl rfl (by kernel_rfl) hc56 rfl ?_
             refine XL_skipF _ rfl rfl (by kernel_rfl) hc56 rfl ?_
             refine XL_skipF _ rfl rfl (by kernel_rfl) hc56 rfl ?_
             refine XL_cons rfl (X_of_Y0 rfl (Y0_pickTe (b := bif (bif (bif (!y46.2) then true else (!y47.2)) then true else (!y51.2)) then true else (!y52.2)) (p := true) rfl (by kernel_rfl) hc56 (by kernel_rfl) hb58)) ?_
             refine XL_nil ?_
             kernel_rfl
            ·have hb58 := of_false hb58 hc56
             obtain ⟨z57, hz57, hb58⟩ := of_bind hb58
             have hb58 := some_inj hb58
             refine XL_takeC _ rfl rfl (by kernel_rfl) hc56 (X_of_Y0 rfl (E_move (.c (.sl (y52.1.map c3))) rfl (by kernel_rfl))) ?_
             refine XL_takeC _ rfl rfl (by kernel_rfl) hc56 (X_of_Y0 rfl (Y0_lenM (c := c3) (xs := y52.1) Try.underlying28 rfl (by kernel_rfl))) ?_
             refine XL_takeC _ rfl rfl (by kernel_rfl) hc56 (X_of_Y0 rfl (E_move (.c (.sl (y6.1.map c3))) rfl (by kernel_rfl))) ?_
             refine XL_takeC _ rfl rfl (by kernel_rfl) hc56 (X_of_Y0 rfl (Y0_lenM (c := c3) (xs := y6.1) Try.underlying28 rfl (by kernel_rfl))) ?_
             refine XL_takeC _ rfl rfl (by kernel_rfl) hc56 (X_of_Y0 rfl (E_move (I e50) rfl (by kernel_rfl))) ?_
             refine XL_takeC _ rfl rfl (by kernel_rfl) hc56 (X_of_Y0 rfl (Y0_add64 (a := (y6.1.length : Int)) (b := e50) rfl (by kernel_rfl) (by kernel_rfl))) ?_
             refine XL_takeC _ rfl rfl (by kernel_rfl) hc56 (X_of_Y0 rfl (Y0_sub64 (a := w64 (((y6.1.length : Int)) + e50)) (b := 1) rfl (by kernel_rfl) (by kernel_rfl))) ?_
             refine XL_takeC _ rfl rfl (by kernel_rfl) hc56 (X_of_Y0 rfl (E_move (I e50) rfl (by kernel_rfl))) ?_
             refine XL_takeC _ rfl rfl (by kernel_rfl) hc56 (X_of_Y0 rfl (Y0_quo64 (a := w64 ((w64 (((y6.1.length : Int)) + e50)) - 1)) (b := e50) rfl (by kernel_rfl) (by kernel_rfl) (nz_some hz57))) ?_
             refine XL_takeC _ rfl rfl (by kernel_rfl) hc56 (X_of_Y0 rfl (Y0_new (k := .i64) (a := (y52.1.length : Int)) (b := w64 (Int.tdiv (w64 ((w64 (((y6.1.length : Int)) + e50)) - 1)) e50)) rfl (by kernel_rfl) (by kernel_rfl))) ?_
             refine XL_cons rfl (X_of_Y0 rfl (Y0_pickFe (b := bif (bif (bif (!y46.2) then true else (!y47.2)) then true else (!y51.2)) then true else (!y52.2)) (p := !eqI ((y52.1.length : Int)) (w64 (Int.tdiv (w64 ((w64 (((y6.1.length : Int)) + e50)) - 1)) e50))) rfl (by kernel_rfl) hc56 (by kernel_rfl) hb58)) ?_
             refine XL_nil ?_
             kernel_rfl
           ·refine XL_takeC _ rfl rfl (by kernel_rfl) hc55 (X_of_Y0 rfl (E_move (Bo y52.2) rfl (by kernel_rfl))) ?_
            refine XL_takeC _ rfl rfl (by kernel_rfl) hc55 (X_of_Y0 rfl (Y0_not (b := y52.2) rfl (by kernel_rfl))) ?_
            refine XL_cons rfl (X_of_Y0 rfl (Y0_pick0 (b := bif (bif (!y46.2) then true else (!y47.2)) then true else (!y51.2)) (p := true) (q := !y52.2) rfl (by kernel_rfl) hc55 (by kernel_rfl))) ?_
            refine L0 rfl rfl (E_move (Bo (bif (bif (bif (!y46.2) then true else (!y47.2)) then true else (!y51.2)) then true else (!y52.2))) rfl (by kernel_rfl)) ?_
            refine XL_split (bif (bif (bif (!y46.2) then true else (!y47.2)) then true else (!y51.2)) then true else (!y52.2)) (fun hc56 => ?_) (fun hc56 => ?_)
            ·have hb58 := some_inj (of_true hb58 hc56)
             refine XL_skipF _ rfl rfl (by kernel_rfl) hc56 rfl ?_
             refine XL_skipF _ rfl rfl (by kernel_rfl) hc56 rfl ?_
             refine XL_skipF _ rfl rfl (by kernel_rfl) hc56 rfl ?_
             refine XL_skipF _ rfl rfl (by kernel_rfl) hc56 rfl ?_
             refine XL_skipF _ rfl rfl (by kernel_rfl) hc56 rfl ?_
             refine XL_skipF _ rfl rfl (by kernel_rfl) hc56 rfl ?_
             refine XL_skipF _ rfl rfl (by kernel_rfl) hc56 rfl ?_
             refine XL_skipF _ rfl rfl (by kernel_rfl) hc56 rfl ?_
             refine XL_skipF _ rfl rfl (by kernel_rfl) hc56 rfl ?_
             refine XL_skipF _ rfl rfl (by kernel_rfl) hc56 rfl ?_
             refine XL_cons rfl (X_of_Y0 rfl (Y0_pickTe (b := bif (bif (bif (!y46.2) then true else (!y47.2)) then true else (!y51.2)) then true else (!y52.2)) (p := true) rfl (by kernel_rfl) hc56 (by kernel_rfl) hb58)) ?_
             refine XL_nil ?_
             kernel_rfl
            ·have hb58 := of_false hb58 hc56
             obtain ⟨z57, hz57, hb58⟩ := of_bind hb58
             have hb58 := some_inj hb58
             refine XL_takeC _ rfl rfl (by kernel_rfl) hc56 (X_of_Y0 rfl (E_move (.c (.sl (y52.1.map c3))) rfl (by kernel_rfl))) ?_
             refine XL_takeC _ rfl rfl (by kernel_rfl) hc56 (X_of_Y0 rfl (Y0_lenM (c := c3) (xs := y52.1) Try.underlying28 rfl (by kernel_rfl))) ?_
             refine XL_takeC _ rfl rfl (by kernel_rfl) hc56 (X_of_Y0 rfl (E_move (.c (.sl (y6.1.map c3))) rfl (by kernel_rfl))) ?_
             refine XL_takeC _ rfl rfl (by kernel_rfl) hc56 (X_of_Y0 rfl (Y0_lenM (c := c3) (xs := y6.1) Try.underlying28 rfl (by kernel_rfl))) ?_
             refine XL_takeC _ rfl rfl (by kernel_rfl) hc56 (X_of_Y0 rfl (E_move (I e50) rfl (by kernel_rfl))) ?_
             refine XL_takeC _ rfl rfl (by kernel_rfl) hc56 (X_of_Y0 rfl (Y0_add64 (a := (y6.1.length : Int)) (b := e50) rfl (by kernel_rfl) (by kernel_rfl))) ?_
             refine XL_takeC _ rfl rfl (by kernel_rfl) hc56 (X_of_Y0 rfl (Y0_sub64 (a := w64 (((y6.1.length : Int)) + e50)) (b := 1) rfl (by kernel_rfl) (by kernel_rfl))) ?_
             refine XL_takeC _ rfl rfl (by kernel_rfl) hc56 (X_of_Y0 rfl (E_move (I e50) rfl (by kernel_rfl))) ?_
             refine XL_takeC _ rfl rfl (by kernel_rfl) hc56 (X_of_Y0 rfl (Y0_quo64 (a := w64 ((w64 (((y6.1.length : Int)) + e50)) - 1)) (b := e50) rfl (by kernel_rfl) (by kernel_rfl) (nz_some hz57))) ?_
             refine XL_takeC _ rfl rfl (by kernel_rfl) hc56 (X_of_Y0 rfl (Y0_new (k := .i64) (a := (y52.1.length : Int)) (b := w64 (Int.tdiv (w64 ((w64 (((y6.1.length : Int)) + e50)) - 1)) e50)) rfl (by kernel_rfl) (by kernel_rfl))) ?_
             refine XL_cons rfl (X_of_Y0 rfl (Y0_pickFe (b := bif (bif (bif (!y46.2) then true else (!y47.2)) then true else (!y51.2)) then true else (!y52.2)) (p := !eqI ((y52.1.length : Int)) (w64 (Int.tdiv (w64 ((w64 (((y6.1.length : Int)) + e50)) - 1)) e50))) rfl (by kernel_rfl) hc56 (by kernel_rfl) hb58)) ?_
             refine XL_nil ?_
             kernel_rfl
          ·refine XL_takeC _ rfl rfl (by kernel_rfl) hc54 (X_of_Y0 rfl (E_move (Bo y51.2) rfl (by kernel_rfl))) ?_
           refine XL_takeC _ rfl rfl (by kernel_rfl) hc54 (X_of_Y0 rfl (Y0_not (b := y51.2) rfl (by kernel_rfl))) ?_
           refine XL_cons rfl (X_of_Y0 rfl (Y0_pick0 (b := bif (!y46.2) then true else (!y47.2)) (p := true) (q := !y51.2) rfl (by kernel_rfl) hc54 (by kernel_rfl))) ?_
           refine L0 rfl rfl (E_move (Bo (bif (bif (!y46.2) then true else (!y47.2)) then true else (!y51.2))) rfl (by kernel_rfl)) ?_
           refine XL_split (bif (bif (!y46.2) then true else (!y47.2)) then true else (!y51.2)) (fun hc55 => ?_) (fun hc55 => ?_)
           ·refine XL_skipF _ rfl rfl (by kernel_rfl) hc55 rfl ?_
            refine XL_skipF _ rfl rfl (by kernel_rfl) hc55 rfl ?_
            refine XL_cons rfl (X_of_Y0 rfl (Y0_pick1 (b := bif (bif (!y46.2) then true else (!y47.2)) then true else (!y51.2)) (p := true) (q := !y52.2) rfl (by kernel_rfl) hc55 (by kernel_rfl))) ?_
            refine L0 rfl rfl (E_move (Bo (bif (bif (bif (!y46.2) then true else (!y47.2)) then true else (!y51.2)) then true else (!y52.2))) rfl (by kernel_rfl)) ?_
            refine XL_split (bif (bif (bif (!y46.2) then true else (!y47.2)) then true else (!y51.2)) then true else (!y52.2)) (fun hc56 => ?_) (fun hc56 => ?_)
            ·have hb58 := some_inj (of_true hb58 hc56)
             refine XL_skipF _ rfl rfl (by kernel_rfl) hc56 rfl ?_
             refine XL_skipF _ rfl rfl (by kernel_rfl) hc56 rfl ?_
             refine XL_skipF _ rfl rfl (by kernel_rfl) hc56 rfl ?_
             refine XL_skipF _ rfl rfl (by kernel_rfl) hc56 rfl ?_
             refine XL_skipF _ rfl rfl (by kernel_rfl) hc56 rfl ?_
             refine XL_skipF _ rfl rfl (by kernel_rfl) hc56 rfl ?_
             refine XL_skipF _ rfl rfl (by kernel_rfl) hc56 rfl ?_
             refine XL_skipF _ rfl rfl (by kernel_rfl) hc56 rfl ?_
             refine XL_skipF _ rfl rfl (by kernel_rfl) hc56 rfl ?_
             refine XL_skipF _ rfl rfl (by kernel_rfl) hc56 rfl ?_
             refine XL_cons rfl (X_of_Y0 rfl (Y0_pickTe (b := bif (bif (bif (!y46.2) then true else (!y47.2)) then true else (!y51.2)) then true else (!y52.2)) (p := true) rfl (by kernel_rfl) hc56 (by kernel_rfl) hb58)) ?_
             refine XL_nil ?_
             kernel_rfl
            ·have hb58 := of_false hb58 hc56
             obtain ⟨z57, hz57, hb58⟩ := of_bind hb58
             have hb58 := some_inj hb58
             refine XL_takeC _ rfl rfl (by kernel_rfl) hc56 (X_of_Y0 rfl (E_move (.c (.sl (y52.1.map c3))) rfl (by kernel_rfl))) ?_
             refine XL_takeC _ rfl rfl (by kernel_rfl) hc56 (X_of_Y0 rfl (Y0_lenM (c := c3) (xs := y52.1) Try.underlying28 rfl (by kernel_rfl))) ?_
             refine XL_takeC _ rfl rfl (by kernel_rfl) hc56 (X_of_Y0 rfl (E_move (.c (.sl (y6.1.map c3))) rfl (by kernel_rfl))) ?_
             refine XL_takeC _ rfl rfl (by kernel_rfl) hc56 (X_of_Y0 rfl (Y0_lenM (c := c3) (xs := y6.1) Try.underlying28 rfl (by kernel_rfl))) ?_
             refine XL_takeC _ rfl rfl (by kernel_rfl) hc56 (X_of_Y0 rfl (E_move (I e50) rfl (by kernel_rfl))) ?_
             refine XL_takeC _ rfl rfl (by kernel_rfl) hc56 (X_of_Y0 rfl (Y0_add64 (a := (y6.1.length : Int)) (b := e50) rfl (by kernel_rfl) (by kernel_rfl))) ?_
             refine XL_takeC _ rfl rfl (by kernel_rfl) hc56 (X_of_Y0 rfl (Y0_sub64 (a := w64 (((y6.1.length : Int)) + e50)) (b := 1) rfl (by kernel_rfl) (by kernel_rfl))) ?_
             refine XL_takeC _ rfl rfl (by kernel_rfl) hc56 (X_of_Y0 rfl (E_move (I e50) rfl (by kernel_rfl))) ?_
             refine XL_takeC _ rfl rfl (by kernel_rfl) hc56 (X_of_Y0 rfl (Y0_quo64 (a := w64 ((w64 (((y6.1.length : Int)) + e50)) - 1)) (b := e50) rfl (by kernel_rfl) (by kernel_rfl) (nz_some hz57))) ?_
             refine XL_takeC _ rfl rfl (by kernel_rfl) hc56 (X_of_Y0 rfl (Y0_new (k := .i64) (a := (y52.1.length : Int)) (b := w64 (Int.tdiv (w64 ((w64 (((y6.1.length : Int)) + e50)) - 1)) e50)) rfl (by kernel_rfl) (by kernel_rfl))) ?_
             refine XL_cons rfl (X_of_Y0 rfl (Y0_pickFe (b := bif (bif (bif (!y46.2) then true else (!y47.2)) then true else (!y51.2)) then true else (!y52.2)) (p := !eqI ((y52.1.length : Int)) (w64 (Int.tdiv (w64 ((w64 (((y6.1.length : Int)) + e50)) - 1)) e50))) rfl (by kernel_rfl) hc56 (by kernel_rfl) hb58)) ?_
             refine XL_nil ?_
             kernel_rfl
           ·refine XL_takeC _ rfl rfl (by kernel_rfl) hc55 (X_of_Y0 rfl (E_move (Bo y52.2) rfl (by kernel_rfl))) ?_
            refine XL_takeC _ rfl rfl (by kernel_rfl) hc55 (X_of_Y0 rfl (Y0_not (b := y52.2) rfl (by kernel_rfl))) ?_
            refine XL_cons rfl (X_of_Y0 rfl (Y0_pick0 (b := bif (bif (!y46.2) then true else (!y47.2)) then true else (!y51.2)) (p := true) (q := !y52.2) rfl (by kernel_rfl) hc55 (by kernel_rfl))) ?_
            refine L0 rfl rfl (E_move (Bo (bif (bif (bif (!y46.2) then true else (!y47.2)) then true else (!y51.2)) then true else (!y52.2))) rfl (by kernel_rfl)) ?_
            refine XL_split (bif (bif (bif (!y46.2) then true else (!y47.2)) then true else (!y51.2)) then true else (!y52.2)) (fun hc56 => ?_) (fun hc56 => ?_)
            ·have hb58 := some_inj (of_true hb58 hc56)
             refine XL_skipF _ rfl rfl (by kernel_rfl) hc56 rfl ?_
             refine XL_skipF _ rfl rfl (by kernel_rfl) hc56 rfl ?_
             refine XL_skipF _ rfl rfl (by kernel_rfl) hc56 rfl ?_
             refine XL_skipF _ rfl rfl (by kernel_rfl) hc56 rfl ?_
             refine XL_skipF _ rfl rfl (by kernel_rfl) hc56 rfl ?_
             refine XL_skipF _ rfl rfl (by kernel_rfl) hc56 rfl ?_
             refine XL_skipF _ rfl rfl (by kernel_rfl) hc56 rfl ?_
             refine XL_skipF _ rfl rfl (by kernel_rfl) hc56 rfl ?_
             refine XL_skipF _ rfl rfl (by kernel_rfl) hc56 rfl ?_
             refine XL_skipF _ rfl rfl (by kernel_rfl) hc56 rfl ?_
             refine XL_cons rfl (X_of_Y0 rfl (Y0_pickTe (b := bif (bif (bif (!y46.2) then true else (!y47.2)) then true else (!y51.2)) then true else (!y52.2)) (p := true) rfl (by kernel_rfl) hc56 (by kernel_rfl) hb58)) ?_
             refine XL_nil ?_
             kernel_rfl
            ·have hb58 := of_false hb58 hc56
             obtain ⟨z57, hz57, hb58⟩ := of_bind hb58
             have hb58 := some_inj hb58
             refine XL_takeC _ rfl rfl (by kernel_rfl) hc56 (X_of_Y0 rfl (E_move (.c (.sl (y52.1.map c3))) rfl (by kernel_rfl))) ?_
             refine XL_takeC _ rfl rfl (by kernel_rfl) hc56 (X_of_Y0 rfl (Y0_lenM (c := c3) (xs := y52.1) Try.underlying28 rfl (by kernel_rfl))) ?_
             refine XL_takeC _ rfl rfl (by kernel_rfl) hc56 (X_of_Y0 rfl (E_move (.c (.sl (y6.1.map c3))) rfl (by kernel_rfl))) ?_
             refine XL_takeC _ rfl rfl (by kernel_rfl) hc56 (X_of_Y0 rfl (Y0_lenM (c := c3) (xs := y6.1) Try.underlying28 rfl (by kernel_rfl))) ?_
             refine XL_takeC _ rfl rfl (by kernel_rfl) hc56 (X_of_Y0 rfl (E_move (I e50) rfl (by kernel_rfl))) ?_
             refine XL_takeC _ rfl rfl (by kernel_rfl) hc56 (X_of_Y0 rfl (Y0_add64 (a := (y6.1.length : Int)) (b := e50) rfl (by kernel_rfl) (by kernel_rfl))) ?_
             refine XL_takeC _ rfl rfl (by kernel_rfl) hc56 (X_of_Y0 rfl (Y0_sub64 (a := w64 (((y6.1.length : Int)) + e50)) (b := 1) rfl (by kernel_rfl) (by kernel_rfl))) ?_
             refine XL_takeC _ rfl rfl (by kernel_rfl) hc56 (X_of_Y0 rfl (E_move (I e50) rfl (by kernel_rfl))) ?_
             refine XL_takeC _ rfl rfl (by kernel_rfl) hc56 (X_of_Y0 rfl (Y0_quo64 (a := w64 ((w64 (((y6.1.length : Int)) + e50)) - 1)) (b := e50) rfl (by kernel_rfl) (by kernel_rfl) (nz_some hz57))) ?_
             refine XL_takeC _ rfl rfl (by kernel_rfl) hc56 (X_of_Y0 rfl (Y0_new (k := .i64) (a := (y52.1.length : Int)) (b := w64 (Int.tdiv (w64 ((w64 (((y6.1.length : Int)) + e50)) - 1)) e50)) rfl (by kernel_rfl) (by kernel_rfl))) ?_
             refine XL_cons rfl (X_of_Y0 rfl (Y0_pickFe (b := bif (bif (bif (!y46.2) then true else (!y47.2)) then true else (!y51.2)) then true else (!y52.2)) (p := !eqI ((y52.1.length : Int)) (w64 (Int.tdiv (w64 ((w64 (((y6.1.length : Int)) + e50)) - 1)) e50))) rfl (by kernel_rfl) hc56 (by kernel_rfl) hb58)) ?_
             refine XL_nil ?_
             kernel_rfl
         ·refine XL_takeC _ rfl rfl (by kernel_rfl) hc53 (X_of_Y0 rfl (E_move (Bo y47.2) rfl (by kernel_rfl))) ?_
          refine XL_takeC _ rfl rfl (by kernel_rfl) hc53 (X_of_Y0 rfl (Y0_not (b := y47.2) rfl (by kernel_rfl))) ?_
          refine XL_cons rfl (X_of_Y0 rfl (Y0_pick0 (b := !y46.2) (p := true) (q := !y47.2) rfl (by kernel_rfl) hc53 (by kernel_rfl))) ?_
          refine L0 rfl rfl (E_move (Bo (bif (!y46.2) then true else (!y47.2))) rfl (by kernel_rfl)) ?_
          refine XL_split (bif (!y46.2) then true else (!y47.2)) (fun hc54 => ?_) (fun hc54 => ?_)
          ·refine XL_skipF _ rfl rfl (by kernel_rfl) hc54 rfl ?_
           refine XL_skipF _ rfl rfl (by kernel_rfl) hc54 rfl ?_
           refine XL_cons rfl (X_of_Y0 rfl (Y0_pick1 (b := bif (!y46.2) then true else (!y47.2)) (p := true) (q := !y51.2) rfl (by kernel_rfl) hc54 (by kernel_rfl))) ?_
           refine L0 rfl rfl (E_move (Bo (bif (bif (!y46.2) then true else (!y47.2)) then true else (!y51.2))) rfl (by kernel_rfl)) ?_
           refine XL_split (bif (bif (!y46.2) then true else (!y47.2)) then true else (!y51.2)) (fun hc55 => ?_) (fun hc55 => ?_)
           ·refine XL_skipF _ rfl rfl (by kernel_rfl) hc55 rfl ?_
            refine XL_skipF _ rfl rfl (by kernel_rfl) hc55 rfl ?_
            refine XL_cons rfl (X_of_Y0 rfl (Y0_pick1 (b := bif (bif (!y46.2) then true else (!y47.2)) then true else (!y51.2)) (p := true) (q := !y52.2) rfl (by kernel_rfl) hc55 (by kernel_rfl))) ?_
            refine L0 rfl rfl (E_move (Bo (bif (bif (bif (!y46.2) then true else (!y47.2)) then true else (!y51.2)) then true else (!y52.2))) rfl (by kernel_rfl)) ?_
            refine XL_split (bif (bif (bif (!y46.2) then true else (!y47.2)) then true else (!y51.2)) then true else (!y52.2)) (fun hc56 => ?_) (fun hc56 => ?_)
            ·have hb58 := some_inj (of_true hb58 hc56)
             refine XL_skipF _ rfl rfl (by kernel_rfl) hc56 rfl ?_
             refine XL_skipF _ rfl rfl (by kernel_rfl) hc56 rfl ?_
             refine XL_skipF _ rfl rfl (by kernel_rfl) hc56 rfl ?_
             refine XL_skipF _ rfl rfl (by kernel_rfl) hc56 rfl ?_
             refine XL_skipF _ rfl rfl (by kernel_rfl) hc56 rfl ?_
             refine XL_skipF _ rfl rfl (by kernel_rfl) hc56 rfl ?_
             refine XL_skipF _ rfl rfl (by kernel_rfl) hc56 rfl ?_
             refine XL_skipF _ rfl rfl (by kernel_rfl) hc56 rfl ?_
             refine XL_skipF _ rfl rfl (by kernel_rfl) hc56 rfl ?_
             refine XL_skipF _ rfl rfl (by kernel_rfl) hc56 rfl ?_
             refine XL_cons rfl (X_of_Y0 rfl (Y0_pickTe (b := bif (bif (bif (!y46.2) then true else (!y47.2)) then true else (!y51.2)) then true else (!y52.2)) (p := true) rfl (by kernel_rfl) hc56 (by kernel_rfl) hb58)) ?_
             refine XL_nil ?_
             kernel_rfl
            ·have hb58 := of_false hb58 hc56
             obtain ⟨z57, hz57, hb58⟩ := of_bind hb58
             have hb58 := some_inj hb58
             refine XL_takeC _ rfl rfl (by kernel_rfl) hc56 (X_of_Y0 rfl (E_move (.c (.sl (y52.1.map c3))) rfl (by kernel_rfl))) ?_
             refine XL_takeC _ rfl rfl (by kernel_rfl) hc56 (X_of_Y0 rfl (Y0_lenM (c := c3) (xs := y52.1) Try.underlying28 rfl (by kernel_rfl))) ?_
             refine XL_takeC _ rfl rfl (by kernel_rfl) hc56 (X_of_Y0 rfl (E_move (.c (.sl (y6.1.map c3))) rfl (by kernel_rfl))) ?_
             refine XL_takeC _ rfl rfl (by kernel_rfl) hc56 (X_of_Y0 rfl (Y0_lenM (c := c3) (xs := y6.1) Try.underlying28 rfl (by kernel_rfl))) ?_
             refine XL_takeC _ rfl rfl (by kernel_rfl) hc56 (X_of_Y0 rfl (E_move (I e50) rfl (by kernel_rfl))) ?_
             refine XL_takeC _ rfl rfl (by kernel_rfl) hc56 (X_of_Y0 rfl (Y0_add64 (a := (y6.1.length : Int)) (b := e50) rfl (by kernel_rfl) (by kernel_rfl))) ?_
             refine XL_takeC _ rfl rfl (by kernel_rfl) hc56 (X_of_Y0 rfl (Y0_sub64 (a := w64 (((y6.1.length : Int)) + e50)) (b := 1) rfl (by kernel_rfl) (by kernel_rfl))) ?_
             refine XL_takeC _ rfl rfl (by kernel_rfl) hc56 (X_of_Y0 rfl (E_move (I e50) rfl (by kernel_rfl))) ?_
             refine XL_takeC _ rfl rfl (by kernel_rfl) hc56 (X_of_Y0 rfl (Y0_quo64 (a := w64 ((w64 (((y6.1.length : Int)) + e50)) - 1)) (b := e50) rfl (by kernel_rfl) (by kernel_rfl) (nz_some hz57))) ?_
             refine XL_takeC _ rfl rfl (by kernel_rfl) hc56 (X_of_Y0 rfl (Y0_new (k := .i64) (a := (y52.1.length : Int)) (b := w64 (Int.tdiv (w64 ((w64 (((y6.1.length : Int)) + e50)) - 1)) e50)) rfl (by kernel_rfl) (by kernel_rfl))) ?_
             refine XL_cons rfl (X_of_Y0 rfl (Y0_pickFe (b := bif (bif (bif (!y46.2) then true else (!y47.2)) then true else (!y51.2)) then true else (!y52.2)) (p := !eqI ((y52.1.length : Int)) (w64 (Int.tdiv (w64 ((w64 (((y6.1.length : Int)) + e50)) - 1)) e50))) rfl (by kernel_rfl) hc56 (by kernel_rfl) hb58)) ?_
             refine XL_nil ?_
             kernel_rfl
           ·refine XL_takeC _ rfl rfl (by kernel_rfl) hc55 (X_of_Y0 rfl (E_move (Bo y52.2) rfl (by kernel_rfl))) ?_
            refine XL_takeC _ rfl rfl (by kernel_rfl) hc55 (X_of_Y0 rfl (Y0_not (b := y52.2) rfl (by kernel_rfl))) ?_
            refine XL_cons rfl (X_of_Y0 rfl (Y0_pick0 (b := bif (bif (!y46.2) then true else (!y47.2)) then true else (!y51.2)) (p := true) (q := !y52.2) rfl (by kernel_rfl) hc55 (by kernel_rfl))) ?_
            refine L0 rfl rfl (E_move (Bo (bif (bif (bif (!y46.2) then true else (!y47.2)) then true else (!y51.2)) then true else (!y52.2))) rfl (by kernel_rfl)) ?_
            refine XL_split (bif (bif (bif (!y46.2) then true else (!y47.2)) then true else (!y51.2)) then true else (!y52.2)) (fun hc56 => ?_) (fun hc56 => ?_)
            ·have hb58 := some_inj (of_true hb58 hc56)
             refine XL_skipF _ rfl rfl (by kernel_rfl) hc56 rfl ?_
             refine XL_skipF _ rfl rfl (by kernel_rfl) hc56 rfl ?_
             refine XL_skipF _ rfl rfl (by kernel_rfl) hc56 rfl ?_
             refine XL_skipF _ rfl rfl (by kernel_rfl) hc56 rfl ?_
             refine XL_skipF _ rfl rfl (by kernel_rfl) hc56 rfl ?_
             refine XL_skipF _ rfl rfl (by kernel_rfl) hc56 rfl ?_
             refine XL_skipF _ rfl rfl (by kernel_rfl) hc56 rfl ?_
             refine XL_skipF _ rfl rfl (by kernel_rfl) hc56 rfl ?_
             refine XL_skipF _ rfl rfl (by kernel_rfl) hc56 rfl ?_
             refine XL_skipF _ rfl rfl (by kernel_rfl) hc56 rfl ?_
             refine XL_cons rfl (X_of_Y0 rfl (Y0_pickTe (b := bif (bif (bif (!y46.2) then true else (!y47.2)) then true else (!y51.2)) then true else (!y52.2)) (p := true) rfl (by kernel_rfl) hc56 (by kernel_rfl) hb58)) ?_
             refine XL_nil ?_
             kernel_rfl
            ·have hb58 := of_false hb58 hc56
             obtain ⟨z57, hz57, hb58⟩ := of_bind hb58
             have hb58 := some_inj hb58
             refine XL_takeC _ rfl rfl (by kernel_rfl) hc56 (X_of_Y0 rfl (E_move (.c (.sl (y52.1.map c3))) rfl (by kernel_rfl))) ?_
             refine XL_takeC _ rfl rfl (by kernel_rfl) hc56 (X_of_Y0 rfl (Y0_lenM (c := c3) (xs := y52.1) Try.underlying28 rfl (by kernel_rfl))) ?_
             refine XL_takeC _ rfl rfl (by kernel_rfl) hc56 (X_of_Y0 rfl (E_move (.c (.sl (y6.1.map c3))) rfl (by kernel_rfl))) ?_
             refine XL_takeC _ rfl rfl (by kernel_rfl) hc56 (X_of_Y0 rfl (Y0_lenM (c := c3) (xs := y6.1) Try.underlying28 rfl (by kernel_rfl))) ?_
             refine XL_takeC _ rfl rfl (by kernel_rfl) hc56 (X_of_Y0 rfl (E_move (I e50) rfl (by kernel_rfl))) ?_
             refine XL_takeC _ rfl rfl (by kernel_rfl) hc56 (X_of_Y0 rfl (Y0_add64 (a := (y6.1.length : Int)) (b := e50) rfl (by kernel_rfl) (by kernel_rfl))) ?_
             refine XL_takeC _ rfl rfl (by kernel_rfl) hc56 (X_of_Y0 rfl (Y0_sub64 (a := w64 (((y6.1.length : Int)) + e50)) (b := 1) rfl (by kernel_rfl) (by kernel_rfl))) ?_
             refine XL_takeC _ rfl rfl (by kernel_rfl) hc56 (X_of_Y0 rfl (E_move (I e50) rfl (by kernel_rfl))) ?_
             refine XL_takeC _ rfl rfl (by kernel_rfl) hc56 (X_of_Y0 rfl (Y0_quo64 (a := w64 ((w64 (((y6.1.length : Int)) + e50)) - 1)) (b := e50) rfl (by kernel_rfl) (by kernel_rfl) (nz_some hz57))) ?_
             refine XL_takeC _ rfl rfl (by kernel_rfl) hc56 (X_of_Y0 rfl (Y0_new (k := .i64) (a := (y52.1.length : Int)) (b := w64 (Int.tdiv (w64 ((w64 (((y6.1.length : Int)) + e50)) - 1)) e50)) rfl (by kernel_rfl) (by kernel_rfl))) ?_
             refine XL_cons rfl (X_of_Y0 rfl (Y0_pickFe (b := bif (bif (bif (!y46.2) then true else (!y47.2)) then true else (!y51.2)) then true else (!y52.2)) (p := !eqI ((y52.1.length : Int)) (w64 (Int.tdiv (w64 ((w64 (((y6.1.length : Int)) + e50)) - 1)) e50))) rfl (by kernel_rfl) hc56 (by kernel_rfl) hb58)) ?_
             refine XL_nil ?_
             kernel_rfl
          ·refine XL_takeC _ rfl rfl (by kernel_rfl) hc54 (X_of_Y0 rfl (E_move (Bo y51.2) rfl (by kernel_rfl))) ?_
           refine XL_takeC _ rfl rfl (by kernel_rfl) hc54 (X_of_Y0 rfl (Y0_not (b := y51.2) rfl (by kernel_rfl))) ?_
           refine XL_cons rfl (X_of_Y0 rfl (Y0_pick0 (b := bif (!y46.2) then true else (!y47.2)) (p := true) (q := !y51.2) rfl (by kernel_rfl) hc54 (by kernel_rfl))) ?_
           refine L0 rfl rfl (E_move (Bo (bif (bif (!y46.2) then true else (!y47.2)) then true else (!y51.2))) rfl (by kernel_rfl)) ?_
           refine XL_split (bif (bif (!y46.2) then true else (!y47.2)) then true else (!y51.2)) (fun hc55 => ?_) (fun hc55 => ?_)
           ·refine XL_skipF _ rfl rfl (by kernel_rfl) hc55 rfl ?_
            refine XL_skipF _ rfl rfl (by kernel_rfl) hc55 rfl ?_
            refine XL_cons rfl (X_of_Y0 rfl (Y0_pick1 (b := bif (bif (!y46.2) then true else (!y47.2)) then true else (!y51.2)) (p := true) (q := !y52.2) rfl (by kernel_rfl) hc55 (by kernel_rfl))) ?_
            refine L0 rfl rfl (E_move (Bo (bif (bif (bif (!y46.2) then true else (!y47.2)) then true else (!y51.2)) then true else (!y52.2))) rfl (by kernel_rfl)) ?_
            refine XL_split (bif (bif (bif (!y46.2) then true else (!y47.2)) then true else (!y51.2)) then true else (!y52.2)) (fun hc56 => ?_) (fun hc56 => ?_)
            ·have hb58 := some_inj (of_true hb58 hc56)
             refine XL_skipF _ rfl rfl (by kernel_rfl) hc56 rfl ?_
             refine XL_skipF _ rfl rfl (by kernel_rfl) hc56 rfl ?_
             refine XL_skipF _ rfl rfl (by kernel_rfl) hc56 rfl ?_
             refine XL_skipF _ rfl rfl (by kernel_rfl) hc56 rfl ?_
             refine XL_skipF _ rfl rfl (by kernel_rfl) hc56 rfl ?_
             refine XL_skipF _ rfl rfl (by kernel_rfl) hc56 rfl ?_
             refine XL_skipF _ rfl rfl (by kernel_rfl) hc56 rfl ?_
             refine XL_skipF _ rfl rfl (by kernel_rfl) hc56 rfl ?_
             refine XL_skipF _ rfl rfl (by kernel_rfl) hc56 rfl ?_
             refine XL_skipF _ rfl rfl (by kernel_rfl) hc56 rfl ?_
             refine XL_cons rfl (X_of_Y0 rfl (Y0_pickTe (b := bif (bif (bif (!y46.2) then true else (!y47.2)) then true else (!y51.2)) then true else (!y52.2)) (p := true) rfl (by kernel_rfl) hc56 (by kernel_rfl) hb58)) ?_
             refine XL_nil ?_
             kernel_rfl
            ·have hb58 := of_false hb58 hc56
             obtain ⟨z57, hz57, hb58⟩ := of_bind hb58
             have hb58 := some_inj hb58
             refine XL_takeC _ rfl rfl (by kernel_rfl) hc56 (X_of_Y0 rfl (E_move (.c (.sl (y52.1.map c3))) rfl (by kernel_rfl))) ?_
             refine XL_takeC _ rfl rfl (by kernel_rfl) hc56 (X_of_Y0 rfl (Y0_lenM (c := c3) (xs := y52.1) Try.underlying28 rfl (by kernel_rfl))) ?_
             refine XL_takeC _ rfl rfl (by kernel_rfl) hc56 (X_of_Y0 rfl (E_move (.c (.sl (y6.1.map c3))) rfl (by kernel_rfl))) ?_
             refine XL_takeC _ rfl rfl (by kernel_rfl) hc56 (X_of_Y0 rfl (Y0_lenM (c := c3) (xs := y6.1) Try.underlying28 rfl (by kernel_rfl))) ?_
             refine XL_takeC _ rfl rfl (by kernel_rfl) hc56 (X_of_Y0 rfl (E_move (I e50) rfl (by kernel_rfl))) ?_
             refine XL_takeC _ rfl rfl (by kernel_rfl) hc56 (X_of_Y0 rfl (Y0_add64 (a := (y6.1.length : Int)) (b := e50) rfl (by kernel_rfl) (by kernel_rfl))) ?_
             refine XL_takeC _ rfl rfl (by kernel_rfl) hc56 (X_of_Y0 rfl (Y0_sub64 (a := w64 (((y6.1.length : Int)) + e50)) (b := 1) rfl (by kernel_rfl) (by kernel_rfl))) ?_
             refine XL_takeC _ rfl rfl (by kernel_rfl) hc56 (X_of_Y0 rfl (E_move (I e50) rfl (by kernel_rfl))) ?_
             refine XL_takeC _ rfl rfl (by kernel_rfl) hc56 (X_of_Y0 rfl (Y0_quo64 (a := w64 ((w64 (((y6.1.length : Int)) + e50)) - 1)) (b := e50) rfl (by kernel_rfl) (by kernel_rfl) (nz_some hz57))) ?_
             refine XL_takeC _ rfl rfl (by kernel_rfl) hc56 (X_of_Y0 rfl (Y0_new (k := .i64) (a := (y52.1.length : Int)) (b := w64 (Int.tdiv (w64 ((w64 (((y6.1.length : Int)) + e50)) - 1)) e50)) rfl (by kernel_rfl) (by kernel_rfl))) ?_
             refine XL_cons rfl (X_of_Y0 rfl (Y0_pickFe (b := bif (bif (bif (!y46.2) then true else (!y47.2)) then true else (!y51.2)) then true else (!y52.2)) (p := !eqI ((y52.1.length : Int)) (w64 (Int.tdiv (w64 ((w64 (((y6.1.length : Int)) + e50)) - 1)) e50))) rfl (by kernel_rfl) hc56 (by kernel_rfl) hb58)) ?_
             refine XL_nil ?_
             kernel_rfl
           ·refine XL_takeC _ rfl rfl (by kernel_rfl) hc55 (X_of_Y0 rfl (E_move (Bo y52.2) rfl (by kernel_rfl))) ?_
            refine XL_takeC _ rfl rfl (by kernel_rfl) hc55 (X_of_Y0 rfl (Y0_not (b := y52.2) rfl (by kernel_rfl))) ?_
            refine XL_cons rfl (X_of_Y0 rfl (Y0_pick0 (b := bif (bif (!y46.2) then true else (!y47.2)) then true else (!y51.2)) (p := true) (q := !y52.2) rfl (by kernel_rfl) hc55 (by kernel_rfl))) ?_
            refine L0 rfl rfl (E_move (Bo (bif (bif (bif (!y46.2) then true else (!y47.2)) then true else (!y51.2)) then true else (!y52.2))) rfl (by kernel_rfl)) ?_
            refine XL_split (bif (bif (bif (!y46.2) then true else (!y47.2)) then true else (!y51.2)) then true else (!y52.2)) (fun hc56 => ?_) (fun hc56 => ?_)
            ·have hb58 := some_inj (of_true hb58 hc56)
             refine XL_skipF _ rfl rfl (by kernel_rfl) hc56 rfl ?_
             refine XL_skipF _ rfl rfl (by kernel_rfl) hc56 rfl ?_
             refine XL_skipF _ rfl rfl (by kernel_rfl) hc56 rfl ?_
             refine XL_skipF _ rfl rfl (by kernel_rfl) hc56 rfl ?_
             refine XL_skipF _ rfl rfl (by kernel_rfl) hc56 rfl ?_
             refine XL_skipF _ rfl rfl (by kernel_rfl) hc56 rfl ?_
             refine XL_skipF _ rfl rfl (by kernel_rfl) hc56 rfl ?_
             refine XL_skipF _ rfl rfl (by kernel_rfl) hc56 rfl ?_
             refine XL_skipF _ rfl rfl (by kernel_rfl) hc56 rfl ?_
             refine XL_skipF _ rfl rfl (by kernel_rfl) hc56 rfl ?_
             refine XL_cons rfl (X_of_Y0 rfl (Y0_pickTe (b := bif (bif (bif (!y46.2) then true else (!y47.2)) then true else (!y51.2)) then true else (!y52.2)) (p := true) rfl (by kernel_rfl) hc56 (by kernel_rfl) hb58)) ?_
             refine XL_nil ?_
             kernel_rfl
            ·have hb58 := of_false hb58 hc56
             obtain ⟨z57, hz57, hb58⟩ := of_bind hb58
             have hb58 := some_inj hb58
             refine XL_takeC _ rfl rfl (by kernel_rfl) hc56 (X_of_Y0 rfl (E_move (.c (.sl (y52.1.map c3))) rfl (by kernel_rfl))) ?_
             refine XL_takeC _ rfl rfl (by kernel_rfl) hc56 (X_of_Y0 rfl (Y0_lenM (c := c3) (xs := y52.1) Try.underlying28 rfl (by kernel_rfl))) ?_
             refine XL_takeC _ rfl rfl (by kernel_rfl) hc56 (X_of_Y0 rfl (E_move (.c (.sl (y6.1.map c3))) rfl (by kernel_rfl))) ?_
             refine XL_takeC _ rfl rfl (by kernel_rfl) hc56 (X_of_Y0 rfl (Y0_lenM (c := c3) (xs := y6.1) Try.underlying28 rfl (by kernel_rfl))) ?_
             refine XL_takeC _ rfl rfl (by kernel_rfl) hc56 (X_of_Y0 rfl (E_move (I e50) rfl (by kernel_rfl))) ?_
             refine XL_takeC _ rfl rfl (by kernel_rfl) hc56 (X_of_Y0 rfl (Y0_add64 (a := (y6.1.length : Int)) (b := e50) rfl (by kernel_rfl) (by kernel_rfl))) ?_
             refine XL_takeC _ rfl rfl (by kernel_rfl) hc56 (X_of_Y0 rfl (Y0_sub64 (a := w64 (((y6.1.length : Int)) + e50)) (b := 1) rfl (by kernel_rfl) (by kernel_rfl))) ?_
             refine XL_takeC _ rfl rfl (by kernel_rfl) hc56 (X_of_Y0 rfl (E_move (I e50) rfl (by kernel_rfl))) ?_
             refine XL_takeC _ rfl rfl (by kernel_rfl) hc56 (X_of_Y0 rfl (Y0_quo64 (a := w64 ((w64 (((y6.1.length : Int)) + e50)) - 1)) (b := e50) rfl (by kernel_rfl) (by kernel_rfl) (nz_some hz57))) ?_
             refine XL_takeC _ rfl rfl (by kernel_rfl) hc56 (X_of_Y0 rfl (Y0_new (k := .i64) (a := (y52.1.length : Int)) (b := w64 (Int.tdiv (w64 ((w64 (((y6.1.length : Int)) + e50)) - 1)) e50)) rfl (by kernel_rfl) (by kernel_rfl))) ?_
             refine XL_cons rfl (X_of_Y0 rfl (Y0_pickFe (b := bif (bif (bif (!y46.2) then true else (!y47.2)) then true else (!y51.2)) then true else (!y52.2)) (p := !eqI ((y52.1.length : Int)) (w64 (Int.tdiv (w64 ((w64 (((y6.1.length : Int)) + e50)) - 1)) e50))) rfl (by kernel_rfl) hc56 (by kernel_rfl) hb58)) ?_
             refine XL_nil ?_
             kernel_rfl
        refine V_cond rfl (fun hc59 => ?_) (fun hc59 => ?_)
        ·have h := of_true h hc59
         refine V_sreg (mb 220 16) [] (s1 := ⟨bt 4 (Bo false :: bt 215 []), []⟩) ?_ ?_
         ·refine L0 rfl rfl (E_assign (Bo false) rfl (by kernel_rfl)) ?_
          refine XL_nil ?_
          kernel_rfl
         refine V_ret ?_
         obtain rfl := some_inj h
         show Post _ _ _ _ _
         exact ⟨.inr rfl, rfl, rfl, rfl⟩
        ·have h := of_false h hc59
         refine V_skip ?_
         show V _ _ _ _
         refine V_seq ?_
         refine V_sreg (mb 220 2839543936) [1104] (s1 := ⟨bt 7 (.c (.sl (y6.1.map c3)) :: bt 14 (I y46.1 :: .bot :: .ow 1104 :: .bot :: .bot :: I y51.1 :: .bot :: .c (.sl (y52.1.map c3)) :: .bot :: I 1 :: bt 188 [])), [(1104, .arr 3 1 (y47.1.map c3))]⟩) ?_ ?_
         ·refine L0 rfl rfl (E_assign (I 1) rfl (by kernel_rfl)) ?_
          refine XL_nil ?_
          kernel_rfl
         obtain ⟨qo62, hLo62, hko62⟩ := of_bind h
         refine V_toS (q := qo62) (S := fun o62 => ⟨bt 7 (.c (.sl (y6.1.map c3)) :: bt 19 (I y51.1 :: .bot :: .c (.sl (y52.1.map c3)) :: bt 190 [])), []⟩) (mb 220 671088768) [] ?_ ?_
         ·refine V_block (V_loop (fun n s => ∃ (vm60 : Int), s.keep (mb 220 2839543936) [1104] = (⟨bt 7 (.c (.sl (y6.1.map c3)) :: bt 14 (I y46.1 :: .bot :: .ow 1104 :: .bot :: .bot :: I y51.1 :: .bot :: .c (.sl (y52.1.map c3)) :: .bot :: I vm60 :: bt 188 [])), [(1104, .arr 3 1 (y47.1.map c3))]⟩ : St) ∧ r_laws_FnThetaSums_L61 y46 y47 y51 y52 y6 n vm60 = some qo62) FU ⟨_,  by rfl, hLo62⟩ ?_)
          clear hLo62
          rintro n s ⟨vm60, hs, h⟩
          refine V_keep _ _ hs ?_
          clear hs
          cases n with
          | zero => cases h
          | succ n =>
           rw [r_laws_FnThetaSums_L61] at h
           refine V_seq ?_
           refine V_sreg (mb 220 784637716923335095479473677900958302012794430560843858048) [1104] (s1 := ⟨bt 7 (.c (.sl (y6.1.map c3)) :: bt 14 (I y46.1 :: .bot :: .ow 1104 :: .bot :: .bot :: I y51.1 :: .bot :: .c (.sl (y52.1.map c3)) :: .bot :: I vm60 :: bt 157 (Bo (ltI vm60 ((y6.1.length : Int))) :: bt 30 []))), [(1104, .arr 3 1 (y47.1.map c3))]⟩) ?_ ?_
           ·refine L0 rfl rfl (E_move (I vm60) rfl (by kernel_rfl)) ?_
            refine L0 rfl rfl (E_move (.c (.sl (y6.1.map c3))) rfl (by kernel_rfl)) ?_
            refine L0 rfl rfl (Y0_lenM (c := c3) (xs := y6.1) Try.underlying28 rfl (by kernel_rfl)) ?_
            refine L0 rfl rfl (Y0_ltw (k := .i64) (a := vm60) (b := (y6.1.length : Int)) rfl (by kernel_rfl) (by kernel_rfl)) ?_
            refine XL_nil ?_
            kernel_rfl
           refine V_cond rfl (fun hc63 => ?_) (fun hc63 => ?_)
           ·have h := of_true h hc63
            refine V_skip ?_
            show V _ _ _ _
            refine V_seq ?_
            refine V_block ?_
            obtain ⟨e64, he64, h⟩ := of_bind h
            obtain ⟨e65, he65, h⟩ := of_bind h
            obtain ⟨e66, he66, h⟩ := of_bind h
            refine V_sdreg [0, 0, 3, 7, 0, 0, 0, 96, 224, 496, 1023] 11 [[.z, .b, .z, .z, .b, .b, .b, .b, .b, .b, .z], [.b, .z, .z, .z, .b, .b, .b, .b, .b, .b, .z], [.a, .a, .z, .z, .b, .b, .b, .b, .b, .b, .z], [.a, .a, .a, .z, .b, .b, .b, .b, .b, .b, .z], [.b, .b, .b, .b, .z, .b, .b, .b, .b, .z, .z], [.b, .b, .b, .b, .b, .z, .b, .z, .z, .z, .z], [.b, .b, .b, .b, .b, .b, .z, .z, .z, .z, .z], [.b, .b, .b, .b, .b, .a, .a, .z, .z, .z, .z], [.b, .b, .b, .b, .b, .a, .a, .a, .z, .z, .z], [.b, .b, .b, .b, .a, .a, .a, .a, .a, .z, .z], [.a, .a, .a, .a, .a, .a, .a, .a, .a, .a, .z]] (mb 220 6427752177035961102167848369364650410088811975131174180749440) [1104] (s1 := ⟨bt 7 (.c (.sl (y6.1.map c3)) :: bt 14 (I y46.1 :: .bot :: .ow 1104 :: .bot :: .bot :: I y51.1 :: .bot :: .c (.sl (y52.1.map c3)) :: .bot :: I vm60 :: bt 170 (Bo (!eqI e64 (w64 (y46.1 * e66))) :: bt 17 []))), [(1104, .arr 3 1 (y47.1.map c3))]⟩) (by kernel_rfl) (by kernel_rfl) ?_ ?_
            ·refine DE_0 0 (.c (.sl (y6.1.map c3))) (by kernel_rfl) rfl rfl rfl (gsat_none rfl) (by kernel_rfl) (E_move (.c (.sl (y6.1.map c3))) rfl (by kernel_rfl)) 192 rfl ?_
             refine DE_0 1 (I vm60) (by kernel_rfl) rfl rfl rfl (gsat_none rfl) (by kernel_rfl) (E_move (I vm60) rfl (by kernel_rfl)) 193 rfl ?_
             refine DE_0 2 (.pe [Ti e64]) (by kernel_rfl) rfl rfl rfl (gsat_none rfl) (by kernel_rfl) (Y0_idxM (c := c3) (xs := y6.1) (v := e64) (n := vm60) Try.underlying28 sz3 rfl (by kernel_rfl) (by kernel_rfl) he64) 194 rfl ?_
             refine DE_0 3 (I e64) (by kernel_rfl) rfl rfl rfl (gsat_none rfl) (by kernel_rfl) (Y0_load1 (c := Ti e64) (cs := []) sc3 rfl (by kernel_rfl)) 195 rfl ?_
             refine DE_0 4 (I y46.1) (by kernel_rfl) rfl rfl rfl (gsat_none rfl) (by kernel_rfl) (E_move (I y46.1) rfl (by kernel_rfl)) 196 rfl ?_
             refine DE_0 5 (.ow 1104) (by kernel_rfl) rfl rfl rfl (gsat_none rfl) (by kernel_rfl) (E_move (.ow 1104) rfl (by kernel_rfl)) 197 rfl ?_
             refine DE_0 6 (I vm60) (by kernel_rfl) rfl rfl rfl (gsat_none rfl) (by kernel_rfl) (E_move (I vm60) rfl (by kernel_rfl)) 198 rfl ?_
             refine DE_0 7 (.po 1104 1 (Int.toNat (vm60)) 0) (by kernel_rfl) rfl rfl rfl (gsat_none rfl) (by kernel_rfl) (Y0_idxoM (c := c3) (xs := y47.1) (v := e65) (id := 1104) (T := 3) (sz := 1) (n := vm60) Try.underlying28 sz3 rfl (by kernel_rfl) (by kernel_rfl) (by kernel_rfl) he65) 199 rfl ?_
             refine DE_0 8 (I e66) (by kernel_rfl) rfl rfl rfl (gsat_none rfl) (by kernel_rfl) (Y0_loado1 (c := c3) (xs := y47.1) (v := e66) (id := 1104) (sz := 1) (T := 3) (off := 0) (n := vm60) (d := Ti e66) (ds := []) sc3 rfl (by kernel_rfl) (by kernel_rfl) he66 (by kernel_rfl)) 200 rfl ?_
             refine DE_0 9 (I (w64 (y46.1 * e66))) (by kernel_rfl) rfl rfl rfl (gsat_none rfl) (by kernel_rfl) (Y0_mul64 (a := y46.1) (b := e66) rfl (by kernel_rfl) (by kernel_rfl)) 201 rfl ?_
             refine DE_0 10 (Bo (!eqI e64 (w64 (y46.1 * e66)))) (by kernel_rfl) rfl rfl rfl (gsat_none rfl) (by kernel_rfl) (Y0_new (k := .i64) (a := e64) (b := w64 (y46.1 * e66)) rfl (by kernel_rfl) (by kernel_rfl)) 202 rfl ?_
             refine DL_nil (by kernel_rfl) ?_
             refine XL_nil ?_
             kernel_rfl
            refine V_cond rfl (fun hc67 => ?_) (fun hc67 => ?_)
            ·have h := of_true h hc67
             refine V_sreg (mb 220 16) [] (s1 := ⟨bt 4 (Bo false :: bt 215 []), []⟩) ?_ ?_
             ·refine L0 rfl rfl (E_assign (Bo false) rfl (by kernel_rfl)) ?_
              refine XL_nil ?_
              kernel_rfl
             refine V_ret ?_
             obtain rfl := some_inj h
             have h := hko62
             obtain rfl := some_inj h
             show Post _ _ _ _ _
             exact ⟨.inr rfl, rfl, rfl, rfl⟩
            ·have h := of_false h hc67
             refine V_skip ?_
             show V _ _ _ _
             obtain ⟨vm68, hvm68, h⟩ := of_sI h
             refine V_reg (mb 220 2839543936) [1104] (s1 := ⟨bt 7 (.c (.sl (y6.1.map c3)) :: bt 14 (I y46.1 :: .bot :: .ow 1104 :: .bot :: .bot :: I y51.1 :: .bot :: .c (.sl (y52.1.map c3)) :: .bot :: I vm68 :: bt 188 [])), [(1104, .arr 3 1 (y47.1.map c3))]⟩) ?_ ?_
             ·refine L0 rfl rfl (E_move (I vm60) rfl (by kernel_rfl)) ?_
              refine L0 rfl rfl (Y0_add64 (a := vm60) (b := 1) rfl (by kernel_rfl) (by kernel_rfl)) ?_
              refine L0 rfl rfl (E_assign (I (w64 (vm60 + 1))) rfl (by kernel_rfl)) ?_
              refine XL_nil ?_
              subst hvm68
              kernel_rfl
             exact ⟨n, Nat.lt_succ_self n, _,  by rfl, h⟩
           ·have h := of_false h hc63
            refine V_exit ?_
            obtain rfl := some_inj h
            exact ⟨_, rfl, by rfl⟩
         rintro o62 rfl
         have h := hko62
         clear hko62
         show V _ _ _ _
         refine V_seq ?_
         refine V_sreg (mb 220 89988530478503455430349877171105105741243367651836398911094912) [] (s1 := ⟨bt 7 (.c (.sl (y6.1.map c3)) :: bt 19 (I y51.1 :: bt 175 (.c (.sl (y52.1.map c3)) :: I ((y52.1.length : Int)) :: I 0 :: bt 14 []))), []⟩) ?_ ?_
         ·refine L0 rfl rfl (E_move (.c (.sl (y52.1.map c3))) rfl (by kernel_rfl)) ?_
          refine L0 rfl rfl (Y0_lenM (c := c3) (xs := y52.1) Try.underlying28 rfl (by kernel_rfl)) ?_
          refine L0 rfl rfl (E_move (I 0) rfl (by kernel_rfl)) ?_
          refine XL_nil ?_
          kernel_rfl
         obtain ⟨qo71, hLo71, hko71⟩ := of_bind h
         refine V_toS (q := qo71) (S := fun o71 => ⟨bt 220 [], []⟩) (mb 220 0) [] ?_ ?_
         ·refine V_block (V_loop (fun n s => ∃ (t69 : Int), s.keep (mb 220 89988530478503455430349877171105105741243367651836398911094912) [] = (⟨bt 7 (.c (.sl (y6.1.map c3)) :: bt 19 (I y51.1 :: bt 175 (.c (.sl (y52.1.map c3)) :: I ((y52.1.length : Int)) :: I t69 :: bt 14 []))), []⟩ : St) ∧ r_laws_FnThetaSums_L70 y51 y52 y6 n t69 = some qo71) FU ⟨_,  by rfl, hLo71⟩ ?_)
          clear hLo71
          rintro n s ⟨t69, hs, h⟩
          refine V_keep _ _ hs ?_
          clear hs
          cases n with
          | zero => cases h
          | succ n =>
           rw [r_laws_FnThetaSums_L70] at h
           refine V_sreg (mb 220 192832565311078833065035451080939512302664359253935140370382976) [] (s1 := ⟨bt 7 (.c (.sl (y6.1.map c3)) :: bt 19 (I y51.1 :: bt 175 (.c (.sl (y52.1.map c3)) :: I ((y52.1.length : Int)) :: I t69 :: Bo (ltI t69 ((y52.1.length : Int))) :: bt 13 []))), []⟩) ?_ ?_
           ·refine L0 rfl rfl (Y0_ltw (k := .i64) (a := t69) (b := (y52.1.length : Int)) rfl (by kernel_rfl) (by kernel_rfl)) ?_
            refine XL_nil ?_
            kernel_rfl
           refine V_seq ?_
           refine V_cond rfl (fun hc72 => ?_) (fun hc72 => ?_)
           ·have h := of_true h hc72
            refine V_skip ?_
            show V _ _ _ _
            refine V_seq ?_
            refine V_block ?_
            obtain ⟨e73, he73, h⟩ := of_bind h
            refine V_sreg (mb 220 89988530478503455430349877171105105741243367651836411795996800) [] (s1 := ⟨bt 7 (.c (.sl (y6.1.map c3)) :: bt 19 (I y51.1 :: bt 4 (I t69 :: I e73 :: bt 169 (.c (.sl (y52.1.map c3)) :: I ((y52.1.length : Int)) :: I t69 :: bt 14 [])))), []⟩) ?_ ?_
            ·refine L0 rfl rfl (E_move (I t69) rfl (by kernel_rfl)) ?_
             refine L0 rfl rfl (Y0_idxM (c := c3) (xs := y52.1) (v := e73) (n := t69) Try.underlying28 sz3 rfl (by kernel_rfl) (by kernel_rfl) he73) ?_
             refine L0 rfl rfl (Y0_load1 (c := Ti e73) (cs := []) sc3 rfl (by kernel_rfl)) ?_
             refine L0 rfl rfl (E_assign (I t69) rfl (by kernel_rfl)) ?_
             refine L0 rfl rfl (E_assign (I e73) rfl (by kernel_rfl)) ?_
             refine XL_nil ?_
             kernel_rfl
            obtain ⟨e74, he74, h⟩ := of_bind h
            refine V_sreg (mb 220 421339155204707250247102460611852834381321624969848281416155005056) [] (s1 := ⟨bt 7 (.c (.sl (y6.1.map c3)) :: bt 19 (I y51.1 :: bt 175 (.c (.sl (y52.1.map c3)) :: I ((y52.1.length : Int)) :: I t69 :: bt 12 (Bo (!eqI e73 (w64 ((w64 (1 + y51.1)) * e74))) :: .bot :: [])))), []⟩) ?_ ?_
            ·refine L0 rfl rfl (E_move (I e73) rfl (by kernel_rfl)) ?_
             refine L0 rfl rfl (E_move (I y51.1) rfl (by kernel_rfl)) ?_
             refine L0 rfl rfl (Y0_add64 (a := 1) (b := y51.1) rfl (by kernel_rfl) (by kernel_rfl)) ?_
             refine L0 rfl rfl (E_move (.c (.sl (y6.1.map c3))) rfl (by kernel_rfl)) ?_
             refine L0 rfl rfl (E_move (I t69) rfl (by kernel_rfl)) ?_
             refine L0 rfl rfl (Y0_idxM (c := c3) (xs := y6.1) (v := e74) (n := t69) Try.underlying28 sz3 rfl (by kernel_rfl) (by kernel_rfl) he74) ?_
             refine L0 rfl rfl (Y0_load1 (c := Ti e74) (cs := []) sc3 rfl (by kernel_rfl)) ?_
             refine L0 rfl rfl (Y0_mul64 (a := w64 (1 + y51.1)) (b := e74) rfl (by kernel_rfl) (by kernel_rfl)) ?_
             refine L0 rfl rfl (Y0_new (k := .i64) (a := e73) (b := w64 ((w64 (1 + y51.1)) * e74)) rfl (by kernel_rfl) (by kernel_rfl)) ?_
             refine XL_nil ?_
             kernel_rfl
            refine V_cond rfl (fun hc75 => ?_) (fun hc75 => ?_)
            ·have h := of_true h hc75
             refine V_sreg (mb 220 16) [] (s1 := ⟨bt 4 (Bo false :: bt 215 []), []⟩) ?_ ?_
             ·refine L0 rfl rfl (E_assign (Bo false) rfl (by kernel_rfl)) ?_
              refine XL_nil ?_
              kernel_rfl
             refine V_ret ?_
             obtain rfl := some_inj h
             have h := hko71
             obtain rfl := some_inj h
             show Post _ _ _ _ _
             exact ⟨.inr rfl, rfl, rfl, rfl⟩
            ·have h := of_false h hc75
             refine V_skip ?_
             show V _ _ _ _
             obtain ⟨t76, ht76, h⟩ := of_sI h
             refine V_reg (mb 220 89988530478503455430349877171105105741243367651836398911094912) [] (s1 := ⟨bt 7 (.c (.sl (y6.1.map c3)) :: bt 19 (I y51.1 :: bt 175 (.c (.sl (y52.1.map c3)) :: I ((y52.1.length : Int)) :: I t76 :: bt 14 []))), []⟩) ?_ ?_
             ·refine L0 rfl rfl (Y0_add64 (a := t69) (b := 1) rfl (by kernel_rfl) (by kernel_rfl)) ?_
              refine L0 rfl rfl (E_move (I (w64 (t69 + 1))) rfl (by kernel_rfl)) ?_
              refine XL_nil ?_
              subst ht76
              kernel_rfl
             exact ⟨n, Nat.lt_succ_self n, _,  by rfl, h⟩
           ·have h := of_false h hc72
            refine V_exit ?_
            obtain rfl := some_inj h
            exact ⟨_, rfl, by rfl⟩
         rintro o71 rfl
         have h := hko71
         clear hko71
         show V _ _ _ _
         refine V_sreg (mb 220 16) [] (s1 := ⟨bt 4 (Bo true :: bt 215 []), []⟩) ?_ ?_
         ·refine L0 rfl rfl (E_assign (Bo true) rfl (by kernel_rfl)) ?_
          refine XL_nil ?_
          kernel_rfl
         refine V_ret ?_
         obtain rfl := some_inj h
         show Post _ _ _ _ _
         exact ⟨.inr rfl, rfl, rfl, rfl⟩
end Go.Proofs.Ytpfnhgpepgeaiaa
