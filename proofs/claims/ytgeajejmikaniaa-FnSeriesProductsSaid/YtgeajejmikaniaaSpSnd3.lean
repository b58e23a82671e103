/-
  The functions of the program compute what the plain functions say: more of them.
  Conditions: none.
-/
import Derived.Test.YtgeajejmikaniaaSpSnd2
namespace Go.Proofs.Ytgeajejmikaniaa
open Go.RowKit
set_option linter.unusedVariables false
set_option linter.unusedSimpArgs false
theorem cf_spec_thProduct : ∀ args w, (callFunc 93 args).run Try.prog w = .ok (.enter 93 args) w := run_callFunc Try.func93 (by kernel_rfl) (by kernel_rfl)
set_option maxRecDepth 100000 in
set_option maxHeartbeats 400000 in
theorem s_spec_thProduct {a1 : List Int} {b2 : List Int} {r : List Int} (h : r_spec_thProduct a1 b2 = some r) : CallS Try.prog 93 [.c (.sl (a1.map c3)), .c (.sl (b2.map c3))] (.ow 0) [(0, .arr 3 1 (r.map c3))] := by
  refine CallS_of_text (rs := [.t 4]) (vs := [.tmp 4]) Try.func93 rfl rfl (.cons rfl FitsL.nil) (by decide) 43 rfl ?_
  unfold r_spec_thProduct at h
  show V _ _ ⟨.c (.sl (a1.map c3)) :: .c (.sl (b2.map c3)) :: bt 41 [], []⟩ _
  refine V_sreg (mb 43 3) [] (s1 := ⟨.c (.sl (a1.map c3)) :: .c (.sl (b2.map c3)) :: bt 41 [], []⟩) ?_ ?_
  ·refine L1 rfl rfl (Y1_nil (e := 3) 1 (by decide) (.inl rfl)) ?_
   refine XL_nil ?_
   kernel_rfl
  obtain ⟨y3, hy3, h⟩ := of_bind h
  obtain ⟨u4, hu4, h⟩ := of_bind h
  refine V_sreg (mb 43 35) [104] (s1 := ⟨.c (.sl (a1.map c3)) :: .c (.sl (b2.map c3)) :: bt 3 (.ow 104 :: bt 37 []), [(104, .arr 3 1 ((List.replicate (Int.toNat (y3)) ((0 : Int))).map c3))]⟩) ?_ ?_
  ·refine L0 rfl rfl (E_move (.c (.sl (a1.map c3))) rfl (by kernel_rfl)) ?_
   refine L0 rfl rfl (Y0_lenM (c := c3) (xs := a1) Try.underlying41 rfl (by kernel_rfl)) ?_
   refine L0 rfl rfl (E_move (.c (.sl (b2.map c3))) rfl (by kernel_rfl)) ?_
   refine L0 rfl rfl (Y0_lenM (c := c3) (xs := b2) Try.underlying41 rfl (by kernel_rfl)) ?_
   refine L1 rfl rfl (Y1_call (s_spec_l1Least hy3) cf_spec_l1Least rfl (by kernel_rfl)) ?_
   refine L1 rfl rfl (Y1_make (c := c3) (zx := (0 : Int)) (z := zv3) (l := y3) (k := y3) Try.underlying41 izb3 rfl rfl (by decide) rfl rfl (by kernel_rfl) (by kernel_rfl) (mk_some hu4) (by decide)) ?_
   refine L0 rfl rfl (E_assign (.ow 104) rfl (by kernel_rfl)) ?_
   refine XL_nil ?_
   kernel_rfl
  refine V_seq ?_
  obtain ⟨t5, ht5, h⟩ := of_sI h
  refine V_sreg (mb 43 98339) [104] (s1 := ⟨.c (.sl (a1.map c3)) :: .c (.sl (b2.map c3)) :: bt 3 (.ow 104 :: bt 9 (I t5 :: I 0 :: bt 26 [])), [(104, .arr 3 1 ((List.replicate (Int.toNat (y3)) ((0 : Int))).map c3))]⟩) ?_ ?_
  ·refine L0 rfl rfl (E_move (.ow 104) rfl (by kernel_rfl)) ?_
   refine L0 rfl rfl (Y0_lenM (c := c3) (xs := List.replicate (Int.toNat (y3)) ((0 : Int))) Try.underlying41 rfl (by kernel_rfl)) ?_
   refine L0 rfl rfl (E_move (I 0) rfl (by kernel_rfl)) ?_
   refine XL_nil ?_
   subst ht5
   kernel_rfl
  obtain ⟨o9, hLo9, h⟩ := of_bind h
  refine V_toK (mb 43 32) [104] (s1 := ⟨bt 5 (.ow 104 :: bt 37 []), [(104, .arr 3 1 (o9.map c3))]⟩) ?_ ?_
  ·clear h
   refine V_block (V_loop (fun n s => ∃ (t6 : Int) (l7 : List Int), s.keep (mb 43 98339) [104] = (⟨.c (.sl (a1.map c3)) :: .c (.sl (b2.map c3)) :: bt 3 (.ow 104 :: bt 9 (I t5 :: I t6 :: bt 26 [])), [(104, .arr 3 1 (l7.map c3))]⟩ : St) ∧ r_spec_thProduct_L8 a1 b2 t5 n t6 l7 = some o9) FU ⟨_, _,  by rfl, hLo9⟩ ?_)
   clear hLo9
   rintro n s ⟨t6, l7, hs, h⟩
   refine V_keep _ _ hs ?_
   clear hs
   cases n with
   | zero => cases h
   | succ n =>
    rw [r_spec_thProduct_L8] at h
    refine V_sreg (mb 43 229411) [104] (s1 := ⟨.c (.sl (a1.map c3)) :: .c (.sl (b2.map c3)) :: bt 3 (.ow 104 :: bt 9 (I t5 :: I t6 :: Bo (ltI t6 t5) :: bt 25 [])), [(104, .arr 3 1 (l7.map c3))]⟩) ?_ ?_
    ·refine L0 rfl rfl (Y0_ltw (k := .i64) (a := t6) (b := t5) rfl (by kernel_rfl) (by kernel_rfl)) ?_
     refine XL_nil ?_
     kernel_rfl
    refine V_seq ?_
    refine V_cond rfl (fun hc10 => ?_) (fun hc10 => ?_)
    ·have h := of_true h hc10
     refine V_skip ?_
     show V _ _ _ _
     refine V_seq ?_
     refine V_block ?_
     refine V_sreg (mb 43 98403) [104] (s1 := ⟨.c (.sl (a1.map c3)) :: .c (.sl (b2.map c3)) :: bt 3 (.ow 104 :: I t6 :: bt 8 (I t5 :: I t6 :: bt 26 [])), [(104, .arr 3 1 (l7.map c3))]⟩) ?_ ?_
     ·refine L0 rfl rfl (E_move (I t6) rfl (by kernel_rfl)) ?_
      refine L0 rfl rfl (E_assign (I t6) rfl (by kernel_rfl)) ?_
      refine XL_nil ?_
      kernel_rfl
     refine V_sreg (mb 43 98531) [104] (s1 := ⟨.c (.sl (a1.map c3)) :: .c (.sl (b2.map c3)) :: bt 3 (.ow 104 :: I t6 :: I 0 :: bt 7 (I t5 :: I t6 :: bt 26 [])), [(104, .arr 3 1 (l7.map c3))]⟩) ?_ ?_
     ·refine L0 rfl rfl (E_assign (I 0) rfl (by kernel_rfl)) ?_
      refine XL_nil ?_
      kernel_rfl
     obtain ⟨o14, hLo14, h⟩ := of_bind h
     refine V_toK (mb 43 98339) [104] (s1 := ⟨.c (.sl (a1.map c3)) :: .c (.sl (b2.map c3)) :: bt 3 (.ow 104 :: bt 9 (I t5 :: I t6 :: bt 26 [])), [(104, .arr 3 1 (o14.map c3))]⟩) ?_ ?_
     ·clear h
      refine V_block (V_loop (fun n s => ∃ (i11 : Int) (l12 : List Int), s.keep (mb 43 98531) [104] = (⟨.c (.sl (a1.map c3)) :: .c (.sl (b2.map c3)) :: bt 3 (.ow 104 :: I t6 :: I i11 :: bt 7 (I t5 :: I t6 :: bt 26 [])), [(104, .arr 3 1 (l12.map c3))]⟩ : St) ∧ r_spec_thProduct_L13 a1 b2 t5 t6 n i11 l12 = some o14) FU ⟨_, _,  by rfl, hLo14⟩ ?_)
      clear hLo14
      rintro n s ⟨i11, l12, hs, h⟩
      refine V_keep _ _ hs ?_
      clear hs
      cases n with
      | zero => cases h
      | succ n =>
       rw [r_spec_thProduct_L13] at h
       refine V_seq ?_
       refine V_sreg (mb 43 2195683) [104] (s1 := ⟨.c (.sl (a1.map c3)) :: .c (.sl (b2.map c3)) :: bt 3 (.ow 104 :: I t6 :: I i11 :: bt 7 (I t5 :: I t6 :: bt 4 (Bo (leI i11 t6) :: bt 21 []))), [(104, .arr 3 1 (l12.map c3))]⟩) ?_ ?_
       ·refine L0 rfl rfl (E_move (I i11) rfl (by kernel_rfl)) ?_
        refine L0 rfl rfl (E_move (I t6) rfl (by kernel_rfl)) ?_
        refine L0 rfl rfl (Y0_lew (k := .i64) (a := i11) (b := t6) rfl (by kernel_rfl) (by kernel_rfl)) ?_
        refine XL_nil ?_
        kernel_rfl
       refine V_cond rfl (fun hc15 => ?_) (fun hc15 => ?_)
       ·have h := of_true h hc15
        refine V_skip ?_
        show V _ _ _ _
        refine V_seq ?_
        refine V_block ?_
        obtain ⟨e16, he16, h⟩ := of_bind h
        obtain ⟨e17, he17, h⟩ := of_bind h
        obtain ⟨e18, he18, h⟩ := of_bind h
        obtain ⟨e19, he19, h⟩ := of_bind h
        obtain ⟨e20, he20, h⟩ := of_bind h
        obtain ⟨e21, he21, h⟩ := of_bind h
        refine V_dreg [0, 0, 3, 7, 0, 0, 48, 112, 0, 0, 0, 1536, 3840, 7936, 16368, 32767, 65535, 131071] 17 [[.z, .b, .z, .z, .b, .b, .b, .b, .b, .b, .b, .b, .b, .b, .b, .z, .z], [.b, .z, .z, .z, .b, .b, .b, .b, .b, .b, .b, .b, .b, .b, .b, .z, .z], [.a, .a, .z, .z, .b, .b, .b, .b, .b, .b, .b, .b, .b, .b, .b, .z, .z], [.a, .a, .a, .z, .b, .b, .b, .b, .b, .b, .b, .b, .b, .b, .b, .z, .z], [.b, .b, .b, .b, .z, .b, .z, .z, .b, .b, .b, .b, .b, .b, .z, .z, .z], [.b, .b, .b, .b, .b, .z, .z, .z, .b, .b, .b, .b, .b, .b, .z, .z, .z], [.b, .b, .b, .b, .a, .a, .z, .z, .b, .b, .b, .b, .b, .b, .z, .z, .z], [.b, .b, .b, .b, .a, .a, .a, .z, .b, .b, .b, .b, .b, .b, .z, .z, .z], [.b, .b, .b, .b, .b, .b, .b, .b, .z, .b, .b, .b, .z, .z, .z, .z, .z], [.b, .b, .b, .b, .b, .b, .b, .b, .b, .z, .b, .z, .z, .z, .z, .z, .z], [.b, .b, .b, .b, .b, .b, .b, .b, .b, .b, .z, .z, .z, .z, .z, .z, .z], [.b, .b, .b, .b, .b, .b, .b, .b, .b, .a, .a, .z, .z, .z, .z, .z, .z], [.b, .b, .b, .b, .b, .b, .b, .b, .a, .a, .a, .a, .z, .z, .z, .z, .z], [.b, .b, .b, .b, .b, .b, .b, .b, .a, .a, .a, .a, .a, .z, .z, .z, .z], [.b, .b, .b, .b, .a, .a, .a, .a, .a, .a, .a, .a, .a, .a, .z, .z, .z], [.a, .a, .a, .a, .a, .a, .a, .a, .a, .a, .a, .a, .a, .a, .a, .z, .z], [.a, .a, .a, .a, .a, .a, .a, .a, .a, .a, .a, .a, .a, .a, .a, .a, .z]] (mb 43 98531) [104] (s1 := ⟨.c (.sl (a1.map c3)) :: .c (.sl (b2.map c3)) :: bt 3 (.ow 104 :: I t6 :: I i11 :: bt 7 (I t5 :: I t6 :: bt 26 [])), [(104, .arr 3 1 ((l12.set (Int.toNat (t6)) (w64 (e17 + (w64 (e18 * e19))))).map c3))]⟩) (by kernel_rfl) (by kernel_rfl) ?_ ?_
        ·refine DE_0 0 (.ow 104) (by kernel_rfl) rfl rfl rfl (gsat_none rfl) (by kernel_rfl) (E_move (.ow 104) rfl (by kernel_rfl)) 24 rfl ?_
         refine DE_0 1 (I t6) (by kernel_rfl) rfl rfl rfl (gsat_none rfl) (by kernel_rfl) (E_move (I t6) rfl (by kernel_rfl)) 25 rfl ?_
         refine DE_0 2 (.po 104 1 (Int.toNat (t6)) 0) (by kernel_rfl) rfl rfl rfl (gsat_none rfl) (by kernel_rfl) (Y0_idxoM (c := c3) (xs := l12) (v := e16) (id := 104) (T := 3) (sz := 1) (n := t6) Try.underlying41 sz3 rfl (by kernel_rfl) (by kernel_rfl) (by kernel_rfl) he16) 26 rfl ?_
         refine DE_0 3 (I e17) (by kernel_rfl) rfl rfl rfl (gsat_none rfl) (by kernel_rfl) (Y0_loado1 (c := c3) (xs := l12) (v := e17) (id := 104) (sz := 1) (T := 3) (off := 0) (n := t6) (d := Ti e17) (ds := []) sc3 rfl (by kernel_rfl) (by kernel_rfl) he17 (by kernel_rfl)) 27 rfl ?_
         refine DE_0 4 (.c (.sl (a1.map c3))) (by kernel_rfl) rfl rfl rfl (gsat_none rfl) (by kernel_rfl) (E_move (.c (.sl (a1.map c3))) rfl (by kernel_rfl)) 28 rfl ?_
         refine DE_0 5 (I i11) (by kernel_rfl) rfl rfl rfl (gsat_none rfl) (by kernel_rfl) (E_move (I i11) rfl (by kernel_rfl)) 29 rfl ?_
         refine DE_0 6 (.pe [Ti e18]) (by kernel_rfl) rfl rfl rfl (gsat_none rfl) (by kernel_rfl) (Y0_idxM (c := c3) (xs := a1) (v := e18) (n := i11) Try.underlying41 sz3 rfl (by kernel_rfl) (by kernel_rfl) he18) 30 rfl ?_
         refine DE_0 7 (I e18) (by kernel_rfl) rfl rfl rfl (gsat_none rfl) (by kernel_rfl) (Y0_load1 (c := Ti e18) (cs := []) sc3 rfl (by kernel_rfl)) 31 rfl ?_
         refine DE_0 8 (.c (.sl (b2.map c3))) (by kernel_rfl) rfl rfl rfl (gsat_none rfl) (by kernel_rfl) (E_move (.c (.sl (b2.map c3))) rfl (by kernel_rfl)) 32 rfl ?_
         refine DE_0 9 (I t6) (by kernel_rfl) rfl rfl rfl (gsat_none rfl) (by kernel_rfl) (E_move (I t6) rfl (by kernel_rfl)) 33 rfl ?_
         refine DE_0 10 (I i11) (by kernel_rfl) rfl rfl rfl (gsat_none rfl) (by kernel_rfl) (E_move (I i11) rfl (by kernel_rfl)) 34 rfl ?_
         refine DE_0 11 (I (w64 (t6 - i11))) (by kernel_rfl) rfl rfl rfl (gsat_none rfl) (by kernel_rfl) (Y0_sub64 (a := t6) (b := i11) rfl (by kernel_rfl) (by kernel_rfl)) 35 rfl ?_
         refine DE_0 12 (.pe [Ti e19]) (by kernel_rfl) rfl rfl rfl (gsat_none rfl) (by kernel_rfl) (Y0_idxM (c := c3) (xs := b2) (v := e19) (n := w64 (t6 - i11)) Try.underlying41 sz3 rfl (by kernel_rfl) (by kernel_rfl) he19) 36 rfl ?_
         refine DE_0 13 (I e19) (by kernel_rfl) rfl rfl rfl (gsat_none rfl) (by kernel_rfl) (Y0_load1 (c := Ti e19) (cs := []) sc3 rfl (by kernel_rfl)) 37 rfl ?_
         refine DE_0 14 (I (w64 (e18 * e19))) (by kernel_rfl) rfl rfl rfl (gsat_none rfl) (by kernel_rfl) (Y0_mul64 (a := e18) (b := e19) rfl (by kernel_rfl) (by kernel_rfl)) 38 rfl ?_
         refine DE_0 15 (I (w64 (e17 + (w64 (e18 * e19))))) (by kernel_rfl) rfl rfl rfl (gsat_none rfl) (by kernel_rfl) (Y0_add64 (a := e17) (b := w64 (e18 * e19)) rfl (by kernel_rfl) (by kernel_rfl)) 39 rfl ?_
         refine DE_0 16 (.po 104 1 (Int.toNat (t6)) 0) (by kernel_rfl) rfl rfl rfl (gsat_none rfl) (by kernel_rfl) (Y0_idxoM (c := c3) (xs := l12) (v := e20) (id := 104) (T := 3) (sz := 1) (n := t6) Try.underlying41 sz3 rfl (by kernel_rfl) (by kernel_rfl) (by kernel_rfl) he20) 40 rfl ?_
         refine DL_nil (by kernel_rfl) ?_
         refine XL_cons rfl (X_storeoM (c := c3) (xs := l12) (v := e21) (u := w64 (e17 + (w64 (e18 * e19)))) (id := 104) (sz := 1) (off := 0) (T0 := 3) (n := t6) (vc := [Ti (w64 (e17 + (w64 (e18 * e19))))]) rfl rfl (by kernel_rfl) (by kernel_rfl) he21 (by kernel_rfl) sz3 (Nat.le_of_ble_eq_true rfl) (by kernel_rfl)) ?_
         refine XL_nil ?_
         kernel_rfl
        show V _ _ _ _
        obtain ⟨i22, hi22, h⟩ := of_sI h
        refine V_reg (mb 43 98531) [104] (s1 := ⟨.c (.sl (a1.map c3)) :: .c (.sl (b2.map c3)) :: bt 3 (.ow 104 :: I t6 :: I i22 :: bt 7 (I t5 :: I t6 :: bt 26 [])), [(104, .arr 3 1 ((l12.set (Int.toNat (t6)) (w64 (e17 + (w64 (e18 * e19))))).map c3))]⟩) ?_ ?_
        ·refine L0 rfl rfl (E_move (I i11) rfl (by kernel_rfl)) ?_
         refine L0 rfl rfl (Y0_add64 (a := i11) (b := 1) rfl (by kernel_rfl) (by kernel_rfl)) ?_
         refine L0 rfl rfl (E_assign (I (w64 (i11 + 1))) rfl (by kernel_rfl)) ?_
         refine XL_nil ?_
         subst hi22
         kernel_rfl
        exact ⟨n, Nat.lt_succ_self n, _, _,  by rfl, h⟩
       ·have h := of_false h hc15
        refine V_exit ?_
        obtain rfl := some_inj h
        show St.keep _ _ _ = _
        rfl
     show V _ _ _ _
     obtain ⟨t23, ht23, h⟩ := of_sI h
     refine V_reg (mb 43 98339) [104] (s1 := ⟨.c (.sl (a1.map c3)) :: .c (.sl (b2.map c3)) :: bt 3 (.ow 104 :: bt 9 (I t5 :: I t23 :: bt 26 [])), [(104, .arr 3 1 (o14.map c3))]⟩) ?_ ?_
     ·refine L0 rfl rfl (Y0_add64 (a := t6) (b := 1) rfl (by kernel_rfl) (by kernel_rfl)) ?_
      refine L0 rfl rfl (E_move (I (w64 (t6 + 1))) rfl (by kernel_rfl)) ?_
      refine XL_nil ?_
      subst ht23
      kernel_rfl
     exact ⟨n, Nat.lt_succ_self n, _, _,  by rfl, h⟩
    ·have h := of_false h hc10
     refine V_exit ?_
     obtain rfl := some_inj h
     show St.keep _ _ _ = _
     rfl
  show V _ _ _ _
  refine V_sreg (mb 43 16) [104] (s1 := ⟨bt 4 (.ow 104 :: bt 38 []), [(104, .arr 3 1 (o9.map c3))]⟩) ?_ ?_
  ·refine L0 rfl rfl (E_move (.ow 104) rfl (by kernel_rfl)) ?_
   refine L0 rfl rfl (E_assign (.ow 104) rfl (by kernel_rfl)) ?_
   refine XL_nil ?_
   kernel_rfl
  refine V_ret ?_
  obtain rfl := some_inj h
  show Post _ _ _ _ _
  exact ⟨.inr rfl, rfl, rfl, rfl⟩
theorem cf_spec_PairSeries : ∀ args w, (callFunc 31 args).run Try.prog w = .ok (.enter 31 args) w := run_callFunc Try.func31 (by kernel_rfl) (by kernel_rfl)
set_option maxRecDepth 100000 in
set_option maxHeartbeats 400000 in
theorem s_spec_PairSeries {f1 : (Int × Int × Int)} {g2 : (Int × Int × Int)} {vn3 : Int} {r : ((List Int) × Bool)} (h : r_spec_PairSeries f1 g2 vn3 = some r) : CallS Try.prog 31 [.ag [Ti f1.1, Ti f1.2.1, Ti f1.2.2], .ag [Ti g2.1, Ti g2.2.1, Ti g2.2.2], I vn3] (.tc (.ow 0) (.tc (Bo r.2) .tn)) [(0, .arr 3 1 (r.1.map c3))] := by
  refine CallS_of_text (rs := [.t 6, .t 7]) (vs := [.tmp 6, .tmp 7]) Try.func31 rfl rfl (.cons rfl (.cons rfl FitsL.nil)) (by decide) 28 rfl ?_
  unfold r_spec_PairSeries at h
  show V _ _ ⟨.ag [Ti f1.1, Ti f1.2.1, Ti f1.2.2] :: .ag [Ti g2.1, Ti g2.2.1, Ti g2.2.2] :: I vn3 :: bt 25 [], []⟩ _
  refine V_sreg (mb 28 28) [32, 24] (s1 := ⟨.bot :: .bot :: I vn3 :: .pt 24 0 :: .pt 32 0 :: bt 23 [], [(32, .box [Ti g2.1, Ti g2.2.1, Ti g2.2.2]), (24, .box [Ti f1.1, Ti f1.2.1, Ti f1.2.2])]⟩) ?_ ?_
  ·refine L1 rfl rfl (Y1_box (cs := [Ti f1.1, Ti f1.2.1, Ti f1.2.2]) rfl (by kernel_rfl)) ?_
   refine L1 rfl rfl (Y1_box (cs := [Ti g2.1, Ti g2.2.1, Ti g2.2.2]) rfl (by kernel_rfl)) ?_
   refine L1 rfl rfl (Y1_nil (e := 3) 1 (by decide) (.inl rfl)) ?_
   refine L0 rfl rfl (E_assign (Bo false) rfl (by kernel_rfl)) ?_
   refine XL_nil ?_
   kernel_rfl
  refine V_seq ?_
  obtain ⟨y4, hy4, h⟩ := of_bind h
  obtain ⟨b7, hb7, h⟩ := of_bind h
  obtain ⟨b10, hb10, h⟩ := of_bind h
  refine V_sreg (mb 28 1048604) [32, 24] (s1 := ⟨.bot :: .bot :: I vn3 :: .pt 24 0 :: .pt 32 0 :: bt 15 (Bo b10 :: bt 7 []), [(32, .box [Ti g2.1, Ti g2.2.1, Ti g2.2.2]), (24, .box [Ti f1.1, Ti f1.2.1, Ti f1.2.2])]⟩) ?_ ?_
  ·refine L0 rfl rfl (E_loadn (cs := [Ti f1.1, Ti f1.2.1, Ti f1.2.2]) [Ti f1.1, Ti f1.2.1, Ti f1.2.2] wd45 rfl (by kernel_rfl) (Nat.le_of_ble_eq_true rfl) (by kernel_rfl)) ?_
   refine L1 rfl rfl (Y1_call (s_spec_vaForm hy4) cf_spec_vaForm rfl (by kernel_rfl)) ?_
   refine L0 rfl rfl (Y0_not (b := y4) rfl (by kernel_rfl)) ?_
   refine L0 rfl rfl (E_move (Bo (!y4)) rfl (by kernel_rfl)) ?_
   refine XL_split (!y4) (fun hc5 => ?_) (fun hc5 => ?_)
   ·have hb7 := some_inj (of_true hb7 hc5)
    refine XL_skipF _ rfl rfl (by kernel_rfl) hc5 rfl ?_
    refine XL_skipF _ rfl rfl (by kernel_rfl) hc5 rfl ?_
    refine XL_skipF _ rfl rfl (by kernel_rfl) hc5 rfl ?_
    refine XL_cons rfl (X_of_Y0 rfl (Y0_pickTe (b := !y4) (p := true) rfl (by kernel_rfl) hc5 (by kernel_rfl) hb7)) ?_
    refine L0 rfl rfl (E_move (Bo b7) rfl (by kernel_rfl)) ?_
    refine XL_split b7 (fun hc8 => ?_) (fun hc8 => ?_)
    ·have hb10 := some_inj (of_true hb10 hc8)
     refine XL_skipF _ rfl rfl (by kernel_rfl) hc8 rfl ?_
     refine XL_skipF _ rfl rfl (by kernel_rfl) hc8 rfl ?_
     refine XL_skipF _ rfl rfl (by kernel_rfl) hc8 rfl ?_
     refine XL_cons rfl (X_of_Y0 rfl (Y0_pickTe (b := b7) (p := true) rfl (by kernel_rfl) hc8 (by kernel_rfl) hb10)) ?_
     refine XL_nil ?_
     kernel_rfl
    ·have hb10 := of_false hb10 hc8
     obtain ⟨y9, hy9, hb10⟩ := of_bind hb10
     have hb10 := some_inj hb10
     refine XL_takeC _ rfl rfl (by kernel_rfl) hc8 (X_of_Y0 rfl (E_move (I vn3) rfl (by kernel_rfl))) ?_
     refine XL_takeC _ rfl rfl (by kernel_rfl) hc8 (X_of_Y1 rfl (Y1_call (s_spec_thTerms hy9) cf_spec_thTerms rfl (by kernel_rfl))) ?_
     refine XL_takeC _ rfl rfl (by kernel_rfl) hc8 (X_of_Y0 rfl (Y0_not (b := y9) rfl (by kernel_rfl))) ?_
     refine XL_cons rfl (X_of_Y0 rfl (Y0_pickFe (b := b7) (p := !y9) rfl (by kernel_rfl) hc8 (by kernel_rfl) hb10)) ?_
     refine XL_nil ?_
     kernel_rfl
   ·have hb7 := of_false hb7 hc5
    obtain ⟨y6, hy6, hb7⟩ := of_bind hb7
    have hb7 := some_inj hb7
    refine XL_takeC _ rfl rfl (by kernel_rfl) hc5 (X_of_Y0 rfl (E_loadn (cs := [Ti g2.1, Ti g2.2.1, Ti g2.2.2]) [Ti g2.1, Ti g2.2.1, Ti g2.2.2] wd45 rfl (by kernel_rfl) (Nat.le_of_ble_eq_true rfl) (by kernel_rfl))) ?_
    refine XL_takeC _ rfl rfl (by kernel_rfl) hc5 (X_of_Y1 rfl (Y1_call (s_spec_vaForm hy6) cf_spec_vaForm rfl (by kernel_rfl))) ?_
    refine XL_takeC _ rfl rfl (by kernel_rfl) hc5 (X_of_Y0 rfl (Y0_not (b := y6) rfl (by kernel_rfl))) ?_
    refine XL_cons rfl (X_of_Y0 rfl (Y0_pickFe (b := !y4) (p := !y6) rfl (by kernel_rfl) hc5 (by kernel_rfl) hb7)) ?_
    refine L0 rfl rfl (E_move (Bo b7) rfl (by kernel_rfl)) ?_
    refine XL_split b7 (fun hc8 => ?_) (fun hc8 => ?_)
    ·have hb10 := some_inj (of_true hb10 hc8)
     refine XL_skipF _ rfl rfl (by kernel_rfl) hc8 rfl ?_
     refine XL_skipF _ rfl rfl (by kernel_rfl) hc8 rfl ?_
     refine XL_skipF _ rfl rfl (by kernel_rfl) hc8 rfl ?_
     refine XL_cons rfl (X_of_Y0 rfl (Y0_pickTe (b := b7) (p := true) rfl (by kernel_rfl) hc8 (by kernel_rfl) hb10)) ?_
     refine XL_nil ?_
     kernel_rfl
    ·have hb10 := of_false hb10 hc8
     obtain ⟨y9, hy9, hb10⟩ := of_bind hb10
     have hb10 := some_inj hb10
     refine XL_takeC _ rfl rfl (by kernel_rfl) hc8 (X_of_Y0 rfl (E_move (I vn3) rfl (by kernel_rfl))) ?_
     refine XL_takeC _ rfl rfl (by kernel_rfl) hc8 (X_of_Y1 rfl (Y1_call (s_spec_thTerms hy9) cf_spec_thTerms rfl (by kernel_rfl))) ?_
     refine XL_takeC _ rfl rfl (by kernel_rfl) hc8 (X_of_Y0 rfl (Y0_not (b := y9) rfl (by kernel_rfl))) ?_
     refine XL_cons rfl (X_of_Y0 rfl (Y0_pickFe (b := b7) (p := !y9) rfl (by kernel_rfl) hc8 (by kernel_rfl) hb10)) ?_
     refine XL_nil ?_
     kernel_rfl
  refine V_cond rfl (fun hc11 => ?_) (fun hc11 => ?_)
  ·have h := of_true h hc11
   refine V_sreg (mb 28 192) [48] (s1 := ⟨bt 6 (.ow 48 :: Bo false :: bt 20 []), [(48, .arr 3 1 ((([] : List Int)).map c3))]⟩) ?_ ?_
   ·refine L1 rfl rfl (Y1_nil (e := 3) 1 (by decide) (.inl rfl)) ?_
    refine L0 rfl rfl (E_assign (Bo false) rfl (by kernel_rfl)) ?_
    refine XL_nil ?_
    kernel_rfl
   refine V_ret ?_
   obtain rfl := some_inj h
   show Post _ _ _ _ _
   exact ⟨.inr rfl, rfl, rfl, rfl⟩
  ·have h := of_false h hc11
   refine V_skip ?_
   show V _ _ _ _
   obtain ⟨y12, hy12, h⟩ := of_bind h
   obtain ⟨y13, hy13, h⟩ := of_bind h
   obtain ⟨y14, hy14, h⟩ := of_bind h
   refine V_sdreg [0, 0, 3, 0, 0, 31, 63, 127, 255] 9 [[.z, .b, .z, .b, .b, .z, .z, .z, .z], [.b, .z, .z, .b, .b, .z, .z, .z, .z], [.a, .a, .z, .b, .b, .z, .z, .z, .z], [.b, .b, .b, .z, .b, .z, .z, .z, .z], [.b, .b, .b, .b, .z, .z, .z, .z, .z], [.a, .a, .a, .a, .a, .z, .z, .z, .z], [.a, .a, .a, .a, .a, .a, .z, .z, .z], [.a, .a, .a, .a, .a, .a, .a, .z, .z], [.a, .a, .a, .a, .a, .a, .a, .a, .z]] (mb 28 192) [216] (s1 := ⟨bt 6 (.ow 216 :: Bo true :: bt 20 []), [(216, .arr 3 1 (y14.map c3))]⟩) (by kernel_rfl) (by kernel_rfl) ?_ ?_
   ·refine DE_0 0 (.ag [Ti f1.1, Ti f1.2.1, Ti f1.2.2]) (by kernel_rfl) rfl rfl rfl (gsat_none rfl) (by kernel_rfl) (E_loadn (cs := [Ti f1.1, Ti f1.2.1, Ti f1.2.2]) [Ti f1.1, Ti f1.2.1, Ti f1.2.2] wd45 rfl (by kernel_rfl) (Nat.le_of_ble_eq_true rfl) (by kernel_rfl)) 21 rfl ?_
    refine DE_0 1 (I vn3) (by kernel_rfl) rfl rfl rfl (gsat_none rfl) (by kernel_rfl) (E_move (I vn3) rfl (by kernel_rfl)) 22 rfl ?_
    refine DE_1 2 (by kernel_rfl) rfl rfl rfl (gsat_none rfl) (Y1_call (s_spec_thSeries hy12) cf_spec_thSeries rfl (by kernel_rfl)) rfl rfl rfl 23 rfl ?_
    refine DE_0 3 (.ag [Ti g2.1, Ti g2.2.1, Ti g2.2.2]) (by kernel_rfl) rfl rfl rfl (gsat_none rfl) (by kernel_rfl) (E_loadn (cs := [Ti g2.1, Ti g2.2.1, Ti g2.2.2]) [Ti g2.1, Ti g2.2.1, Ti g2.2.2] wd45 rfl (by kernel_rfl) (Nat.le_of_ble_eq_true rfl) (by kernel_rfl)) 24 rfl ?_
    refine DE_0 4 (I vn3) (by kernel_rfl) rfl rfl rfl (gsat_none rfl) (by kernel_rfl) (E_move (I vn3) rfl (by kernel_rfl)) 25 rfl ?_
    refine DE_1 5 (by kernel_rfl) rfl rfl rfl (gsat_none rfl) (Y1_call (s_spec_thSeries hy13) cf_spec_thSeries rfl (by kernel_rfl)) rfl rfl rfl 26 rfl ?_
    refine DE_1 6 (by kernel_rfl) rfl rfl rfl (gsat_none rfl) (Y1_callS (s_spec_thProduct hy14) cf_spec_thProduct rfl (by kernel_rfl) rfl (flatE_cons (fun _ => rfl) rfl)) rfl rfl rfl 27 rfl ?_
    refine DE_0 7 (.ow 216) (by kernel_rfl) rfl rfl rfl (gsat_none rfl) (by kernel_rfl) (E_assign (.ow 216) rfl (by kernel_rfl)) 6 rfl ?_
    refine DE_0 8 (Bo true) (by kernel_rfl) rfl rfl rfl (gsat_none rfl) (by kernel_rfl) (E_assign (Bo true) rfl (by kernel_rfl)) 7 rfl ?_
    refine DL_nil (by kernel_rfl) ?_
    refine XL_nil ?_
    kernel_rfl
   refine V_ret ?_
   obtain rfl := some_inj h
   show Post _ _ _ _ _
   exact ⟨.inr rfl, rfl, rfl, rfl⟩
theorem cf_laws_sameInts : ∀ args w, (callFunc 32 args).run Try.prog w = .ok (.enter 32 args) w := run_callFunc Try.func32 (by kernel_rfl) (by kernel_rfl)
set_option maxRecDepth 100000 in
set_option maxHeartbeats 400000 in
theorem s_laws_sameInts {a1 : List Int} {b2 : List Int} {r : Bool} (h : r_laws_sameInts a1 b2 = some r) : CallS Try.prog 32 [.c (.sl (a1.map c3)), .c (.sl (b2.map c3))] (Bo r) [] := by
  refine CallS_of_text (rs := [.t 4]) (vs := [.tmp 4]) Try.func32 rfl rfl (.cons rfl FitsL.nil) (by decide) 26 rfl ?_
  unfold r_laws_sameInts at h
  show V _ _ ⟨.c (.sl (a1.map c3)) :: .c (.sl (b2.map c3)) :: bt 24 [], []⟩ _
  refine V_sreg (mb 26 3) [] (s1 := ⟨.c (.sl (a1.map c3)) :: .c (.sl (b2.map c3)) :: bt 24 [], []⟩) ?_ ?_
  ·refine L0 rfl rfl (E_assign (Bo false) rfl (by kernel_rfl)) ?_
   refine XL_nil ?_
   kernel_rfl
  refine V_seq ?_
  refine V_sreg (mb 26 1027) [] (s1 := ⟨.c (.sl (a1.map c3)) :: .c (.sl (b2.map c3)) :: bt 8 (Bo (!eqI ((a1.length : Int)) ((b2.length : Int))) :: bt 15 []), []⟩) ?_ ?_
  ·refine L0 rfl rfl (E_move (.c (.sl (a1.map c3))) rfl (by kernel_rfl)) ?_
   refine L0 rfl rfl (Y0_lenM (c := c3) (xs := a1) Try.underlying41 rfl (by kernel_rfl)) ?_
   refine L0 rfl rfl (E_move (.c (.sl (b2.map c3))) rfl (by kernel_rfl)) ?_
   refine L0 rfl rfl (Y0_lenM (c := c3) (xs := b2) Try.underlying41 rfl (by kernel_rfl)) ?_
   refine L0 rfl rfl (Y0_new (k := .i64) (a := (a1.length : Int)) (b := (b2.length : Int)) rfl (by kernel_rfl) (by kernel_rfl)) ?_
   refine XL_nil ?_
   kernel_rfl
  refine V_cond rfl (fun hc3 => ?_) (fun hc3 => ?_)
  ·have h := of_true h hc3
   refine V_sreg (mb 26 16) [] (s1 := ⟨bt 4 (Bo false :: bt 21 []), []⟩) ?_ ?_
   ·refine L0 rfl rfl (E_assign (Bo false) rfl (by kernel_rfl)) ?_
    refine XL_nil ?_
    kernel_rfl
   refine V_ret ?_
   obtain rfl := some_inj h
   show Post _ _ _ _ _
   exact ⟨.inr rfl, rfl, rfl, rfl⟩
  ·have h := of_false h hc3
   refine V_skip ?_
   show V _ _ _ _
   refine V_seq ?_
   refine V_sreg (mb 26 12291) [] (s1 := ⟨.c (.sl (a1.map c3)) :: .c (.sl (b2.map c3)) :: bt 10 (I ((a1.length : Int)) :: I 0 :: bt 12 []), []⟩) ?_ ?_
   ·refine L0 rfl rfl (E_move (.c (.sl (a1.map c3))) rfl (by kernel_rfl)) ?_
    refine L0 rfl rfl (Y0_lenM (c := c3) (xs := a1) Try.underlying41 rfl (by kernel_rfl)) ?_
    refine L0 rfl rfl (E_move (I 0) rfl (by kernel_rfl)) ?_
    refine XL_nil ?_
    kernel_rfl
   obtain ⟨qo6, hLo6, hko6⟩ := of_bind h
   refine V_toS (q := qo6) (S := fun o6 => ⟨bt 26 [], []⟩) (mb 26 0) [] ?_ ?_
   ·refine V_block (V_loop (fun n s => ∃ (t4 : Int), s.keep (mb 26 12291) [] = (⟨.c (.sl (a1.map c3)) :: .c (.sl (b2.map c3)) :: bt 10 (I ((a1.length : Int)) :: I t4 :: bt 12 []), []⟩ : St) ∧ r_laws_sameInts_L5 a1 b2 n t4 = some qo6) FU ⟨_,  by rfl, hLo6⟩ ?_)
    clear hLo6
    rintro n s ⟨t4, hs, h⟩
    refine V_keep _ _ hs ?_
    clear hs
    cases n with
    | zero => cases h
    | succ n =>
     rw [r_laws_sameInts_L5] at h
     refine V_sreg (mb 26 28675) [] (s1 := ⟨.c (.sl (a1.map c3)) :: .c (.sl (b2.map c3)) :: bt 10 (I ((a1.length : Int)) :: I t4 :: Bo (ltI t4 ((a1.length : Int))) :: bt 11 []), []⟩) ?_ ?_
     ·refine L0 rfl rfl (Y0_ltw (k := .i64) (a := t4) (b := (a1.length : Int)) rfl (by kernel_rfl) (by kernel_rfl)) ?_
      refine XL_nil ?_
      kernel_rfl
     refine V_seq ?_
     refine V_cond rfl (fun hc7 => ?_) (fun hc7 => ?_)
     ·have h := of_true h hc7
      refine V_skip ?_
      show V _ _ _ _
      refine V_seq ?_
      refine V_block ?_
      refine V_sreg (mb 26 12323) [] (s1 := ⟨.c (.sl (a1.map c3)) :: .c (.sl (b2.map c3)) :: bt 3 (I t4 :: bt 6 (I ((a1.length : Int)) :: I t4 :: bt 12 [])), []⟩) ?_ ?_
      ·refine L0 rfl rfl (E_move (I t4) rfl (by kernel_rfl)) ?_
       refine L0 rfl rfl (E_assign (I t4) rfl (by kernel_rfl)) ?_
       refine XL_nil ?_
       kernel_rfl
      obtain ⟨e8, he8, h⟩ := of_bind h
      obtain ⟨e9, he9, h⟩ := of_bind h
      refine V_sdreg [0, 0, 3, 7, 0, 0, 48, 112, 255] 9 [[.z, .b, .z, .z, .b, .b, .b, .b, .z], [.b, .z, .z, .z, .b, .b, .b, .b, .z], [.a, .a, .z, .z, .b, .b, .b, .b, .z], [.a, .a, .a, .z, .b, .b, .b, .b, .z], [.b, .b, .b, .b, .z, .b, .z, .z, .z], [.b, .b, .b, .b, .b, .z, .z, .z, .z], [.b, .b, .b, .b, .a, .a, .z, .z, .z], [.b, .b, .b, .b, .a, .a, .a, .z, .z], [.a, .a, .a, .a, .a, .a, .a, .a, .z]] (mb 26 16789507) [] (s1 := ⟨.c (.sl (a1.map c3)) :: .c (.sl (b2.map c3)) :: bt 10 (I ((a1.length : Int)) :: I t4 :: bt 10 (Bo (!eqI e8 e9) :: .bot :: [])), []⟩) (by kernel_rfl) (by kernel_rfl) ?_ ?_
      ·refine DE_0 0 (.c (.sl (a1.map c3))) (by kernel_rfl) rfl rfl rfl (gsat_none rfl) (by kernel_rfl) (E_move (.c (.sl (a1.map c3))) rfl (by kernel_rfl)) 16 rfl ?_
       refine DE_0 1 (I t4) (by kernel_rfl) rfl rfl rfl (gsat_none rfl) (by kernel_rfl) (E_move (I t4) rfl (by kernel_rfl)) 17 rfl ?_
       refine DE_0 2 (.pe [Ti e8]) (by kernel_rfl) rfl rfl rfl (gsat_none rfl) (by kernel_rfl) (Y0_idxM (c := c3) (xs := a1) (v := e8) (n := t4) Try.underlying41 sz3 rfl (by kernel_rfl) (by kernel_rfl) he8) 18 rfl ?_
       refine DE_0 3 (I e8) (by kernel_rfl) rfl rfl rfl (gsat_none rfl) (by kernel_rfl) (Y0_load1 (c := Ti e8) (cs := []) sc3 rfl (by kernel_rfl)) 19 rfl ?_
       refine DE_0 4 (.c (.sl (b2.map c3))) (by kernel_rfl) rfl rfl rfl (gsat_none rfl) (by kernel_rfl) (E_move (.c (.sl (b2.map c3))) rfl (by kernel_rfl)) 20 rfl ?_
       refine DE_0 5 (I t4) (by kernel_rfl) rfl rfl rfl (gsat_none rfl) (by kernel_rfl) (E_move (I t4) rfl (by kernel_rfl)) 21 rfl ?_
       refine DE_0 6 (.pe [Ti e9]) (by kernel_rfl) rfl rfl rfl (gsat_none rfl) (by kernel_rfl) (Y0_idxM (c := c3) (xs := b2) (v := e9) (n := t4) Try.underlying41 sz3 rfl (by kernel_rfl) (by kernel_rfl) he9) 22 rfl ?_
       refine DE_0 7 (I e9) (by kernel_rfl) rfl rfl rfl (gsat_none rfl) (by kernel_rfl) (Y0_load1 (c := Ti e9) (cs := []) sc3 rfl (by kernel_rfl)) 23 rfl ?_
       refine DE_0 8 (Bo (!eqI e8 e9)) (by kernel_rfl) rfl rfl rfl (gsat_none rfl) (by kernel_rfl) (Y0_new (k := .i64) (a := e8) (b := e9) rfl (by kernel_rfl) (by kernel_rfl)) 24 rfl ?_
       refine DL_nil (by kernel_rfl) ?_
       refine XL_nil ?_
       kernel_rfl
      refine V_cond rfl (fun hc10 => ?_) (fun hc10 => ?_)
      ·have h := of_true h hc10
       refine V_sreg (mb 26 16) [] (s1 := ⟨bt 4 (Bo false :: bt 21 []), []⟩) ?_ ?_
       ·refine L0 rfl rfl (E_assign (Bo false) rfl (by kernel_rfl)) ?_
        refine XL_nil ?_
        kernel_rfl
       refine V_ret ?_
       obtain rfl := some_inj h
       have h := hko6
       obtain rfl := some_inj h
       show Post _ _ _ _ _
       exact ⟨.inr rfl, rfl, rfl, rfl⟩
      ·have h := of_false h hc10
       refine V_skip ?_
       show V _ _ _ _
       obtain ⟨t11, ht11, h⟩ := of_sI h
       refine V_reg (mb 26 12291) [] (s1 := ⟨.c (.sl (a1.map c3)) :: .c (.sl (b2.map c3)) :: bt 10 (I ((a1.length : Int)) :: I t11 :: bt 12 []), []⟩) ?_ ?_
       ·refine L0 rfl rfl (Y0_add64 (a := t4) (b := 1) rfl (by kernel_rfl) (by kernel_rfl)) ?_
        refine L0 rfl rfl (E_move (I (w64 (t4 + 1))) rfl (by kernel_rfl)) ?_
        refine XL_nil ?_
        subst ht11
        kernel_rfl
       exact ⟨n, Nat.lt_succ_self n, _,  by rfl, h⟩
     ·have h := of_false h hc7
      refine V_exit ?_
      obtain rfl := some_inj h
      exact ⟨_, rfl, by rfl⟩
   rintro o6 rfl
   have h := hko6
   clear hko6
   show V _ _ _ _
   refine V_sreg (mb 26 16) [] (s1 := ⟨bt 4 (Bo true :: bt 21 []), []⟩) ?_ ?_
   ·refine L0 rfl rfl (E_assign (Bo true) rfl (by kernel_rfl)) ?_
    refine XL_nil ?_
    kernel_rfl
   refine V_ret ?_
   obtain rfl := some_inj h
   show Post _ _ _ _ _
   exact ⟨.inr rfl, rfl, rfl, rfl⟩
theorem cf_impl_ThetaSeries : ∀ args w, (callFunc 33 args).run Try.prog w = .ok (.enter 33 args) w := run_callFunc Try.func33 (by kernel_rfl) (by kernel_rfl)
set_option maxRecDepth 100000 in
set_option maxHeartbeats 400000 in
theorem s_impl_ThetaSeries {f1 : (Int × Int × Int)} {vn2 : Int} {r : ((List Int) × Bool)} (h : r_impl_ThetaSeries f1 vn2 = some r) : CallS Try.prog 33 [.ag [Ti f1.1, Ti f1.2.1, Ti f1.2.2], I vn2] (.tc (.ow 0) (.tc (Bo r.2) .tn)) [(0, .arr 3 1 (r.1.map c3))] := by
  refine CallS_of_text (rs := [.t 4, .t 5]) (vs := [.tmp 4, .tmp 5]) Try.func33 rfl rfl (.cons rfl (.cons rfl FitsL.nil)) (by decide) 18 rfl ?_
  unfold r_impl_ThetaSeries at h
  show V _ _ ⟨.ag [Ti f1.1, Ti f1.2.1, Ti f1.2.2] :: I vn2 :: bt 16 [], []⟩ _
  refine V_sreg (mb 18 6) [16] (s1 := ⟨.bot :: I vn2 :: .pt 16 0 :: bt 15 [], [(16, .box [Ti f1.1, Ti f1.2.1, Ti f1.2.2])]⟩) ?_ ?_
  ·refine L1 rfl rfl (Y1_box (cs := [Ti f1.1, Ti f1.2.1, Ti f1.2.2]) rfl (by kernel_rfl)) ?_
   refine L1 rfl rfl (Y1_nil (e := 3) 1 (by decide) (.inl rfl)) ?_
   refine L0 rfl rfl (E_assign (Bo false) rfl (by kernel_rfl)) ?_
   refine XL_nil ?_
   kernel_rfl
  refine V_seq ?_
  obtain ⟨y3, hy3, h⟩ := of_bind h
  obtain ⟨b6, hb6, h⟩ := of_bind h
  refine V_sreg (mb 18 8198) [16] (s1 := ⟨.bot :: I vn2 :: .pt 16 0 :: bt 10 (Bo b6 :: bt 4 []), [(16, .box [Ti f1.1, Ti f1.2.1, Ti f1.2.2])]⟩) ?_ ?_
  ·refine L0 rfl rfl (E_loadn (cs := [Ti f1.1, Ti f1.2.1, Ti f1.2.2]) [Ti f1.1, Ti f1.2.1, Ti f1.2.2] wd45 rfl (by kernel_rfl) (Nat.le_of_ble_eq_true rfl) (by kernel_rfl)) ?_
   refine L1 rfl rfl (Y1_call (s_impl_isShownForm hy3) cf_impl_isShownForm rfl (by kernel_rfl)) ?_
   refine L0 rfl rfl (Y0_not (b := y3) rfl (by kernel_rfl)) ?_
   refine L0 rfl rfl (E_move (Bo (!y3)) rfl (by kernel_rfl)) ?_
   refine XL_split (!y3) (fun hc4 => ?_) (fun hc4 => ?_)
   ·have hb6 := some_inj (of_true hb6 hc4)
    refine XL_skipF _ rfl rfl (by kernel_rfl) hc4 rfl ?_
    refine XL_skipF _ rfl rfl (by kernel_rfl) hc4 rfl ?_
    refine XL_skipF _ rfl rfl (by kernel_rfl) hc4 rfl ?_
    refine XL_cons rfl (X_of_Y0 rfl (Y0_pickTe (b := !y3) (p := true) rfl (by kernel_rfl) hc4 (by kernel_rfl) hb6)) ?_
    refine XL_nil ?_
    kernel_rfl
   ·have hb6 := of_false hb6 hc4
    obtain ⟨y5, hy5, hb6⟩ := of_bind hb6
    have hb6 := some_inj hb6
    refine XL_takeC _ rfl rfl (by kernel_rfl) hc4 (X_of_Y0 rfl (E_move (I vn2) rfl (by kernel_rfl))) ?_
    refine XL_takeC _ rfl rfl (by kernel_rfl) hc4 (X_of_Y1 rfl (Y1_call (s_impl_isTerms hy5) cf_impl_isTerms rfl (by kernel_rfl))) ?_
    refine XL_takeC _ rfl rfl (by kernel_rfl) hc4 (X_of_Y0 rfl (Y0_not (b := y5) rfl (by kernel_rfl))) ?_
    refine XL_cons rfl (X_of_Y0 rfl (Y0_pickFe (b := !y3) (p := !y5) rfl (by kernel_rfl) hc4 (by kernel_rfl) hb6)) ?_
    refine XL_nil ?_
    kernel_rfl
  refine V_cond rfl (fun hc7 => ?_) (fun hc7 => ?_)
  ·have h := of_true h hc7
   refine V_sreg (mb 18 48) [112] (s1 := ⟨bt 4 (.ow 112 :: Bo false :: bt 12 []), [(112, .arr 3 1 ((([] : List Int)).map c3))]⟩) ?_ ?_
   ·refine L1 rfl rfl (Y1_bslice0 Try.underlying41 sz3 (by decide) rfl rfl) ?_
    refine L0 rfl rfl (E_assign (.ow 112) rfl (by kernel_rfl)) ?_
    refine L0 rfl rfl (E_assign (Bo false) rfl (by kernel_rfl)) ?_
    refine XL_nil ?_
    kernel_rfl
   refine V_ret ?_
   obtain rfl := some_inj h
   show Post _ _ _ _ _
   exact ⟨.inr rfl, rfl, rfl, rfl⟩
  ·have h := of_false h hc7
   refine V_skip ?_
   show V _ _ _ _
   obtain ⟨y8, hy8, h⟩ := of_bind h
   refine V_sreg (mb 18 48) [136] (s1 := ⟨bt 4 (.ow 136 :: Bo true :: bt 12 []), [(136, .arr 3 1 (y8.map c3))]⟩) ?_ ?_
   ·refine L0 rfl rfl (E_loadn (cs := [Ti f1.1, Ti f1.2.1, Ti f1.2.2]) [Ti f1.1, Ti f1.2.1, Ti f1.2.2] wd45 rfl (by kernel_rfl) (Nat.le_of_ble_eq_true rfl) (by kernel_rfl)) ?_
    refine L0 rfl rfl (E_move (I vn2) rfl (by kernel_rfl)) ?_
    refine L1 rfl rfl (Y1_call (s_impl_Form_theta hy8) cf_impl_Form_theta rfl (by kernel_rfl)) ?_
    refine L0 rfl rfl (E_assign (.ow 136) rfl (by kernel_rfl)) ?_
    refine L0 rfl rfl (E_assign (Bo true) rfl (by kernel_rfl)) ?_
    refine XL_nil ?_
    kernel_rfl
   refine V_ret ?_
   obtain rfl := some_inj h
   show Post _ _ _ _ _
   exact ⟨.inr rfl, rfl, rfl, rfl⟩
theorem cf_impl_isSeries : ∀ args w, (callFunc 95 args).run Try.prog w = .ok (.enter 95 args) w := run_callFunc Try.func95 (by kernel_rfl) (by kernel_rfl)
set_option maxRecDepth 100000 in
set_option maxHeartbeats 400000 in
theorem s_impl_isSeries {l1 : List Int} {r : Bool} (h : r_impl_isSeries l1 = some r) : CallS Try.prog 95 [.c (.sl (l1.map c3))] (Bo r) [] := by
  refine CallS_of_text (rs := [.t 2]) (vs := [.tmp 2]) Try.func95 rfl rfl (.cons rfl FitsL.nil) (by decide) 15 rfl ?_
  unfold r_impl_isSeries at h
  show V _ _ ⟨.c (.sl (l1.map c3)) :: bt 14 [], []⟩ _
  refine V_sreg (mb 15 1) [] (s1 := ⟨.c (.sl (l1.map c3)) :: bt 14 [], []⟩) ?_ ?_
  ·refine L0 rfl rfl (E_assign (Bo false) rfl (by kernel_rfl)) ?_
   refine XL_nil ?_
   kernel_rfl
  obtain ⟨b5, hb5, h⟩ := of_bind h
  refine V_sreg (mb 15 4) [] (s1 := ⟨.bot :: .bot :: Bo b5 :: bt 12 [], []⟩) ?_ ?_
  ·refine L0 rfl rfl (E_move (.c (.sl (l1.map c3))) rfl (by kernel_rfl)) ?_
   refine L0 rfl rfl (Y0_lenM (c := c3) (xs := l1) Try.underlying41 rfl (by kernel_rfl)) ?_
   refine L0 rfl rfl (Y0_gew (k := .i64) (a := (l1.length : Int)) (b := 1) rfl (by kernel_rfl) (by kernel_rfl)) ?_
   refine L0 rfl rfl (E_move (Bo (leI 1 ((l1.length : Int)))) rfl (by kernel_rfl)) ?_
   refine XL_split (leI 1 ((l1.length : Int))) (fun hc2 => ?_) (fun hc2 => ?_)
   ·refine XL_takeC _ rfl rfl (by kernel_rfl) hc2 (X_of_Y0 rfl (E_move (.c (.sl (l1.map c3))) rfl (by kernel_rfl))) ?_
    refine XL_takeC _ rfl rfl (by kernel_rfl) hc2 (X_of_Y0 rfl (Y0_lenM (c := c3) (xs := l1) Try.underlying41 rfl (by kernel_rfl))) ?_
    refine XL_takeC _ rfl rfl (by kernel_rfl) hc2 (X_of_Y0 rfl (Y0_lew (k := .i64) (a := (l1.length : Int)) (b := 101) rfl (by kernel_rfl) (by kernel_rfl))) ?_
    refine XL_cons rfl (X_of_Y0 rfl (Y0_pick1 (b := leI 1 ((l1.length : Int))) (p := leI ((l1.length : Int)) 101) (q := false) rfl (by kernel_rfl) hc2 (by kernel_rfl))) ?_
    refine L0 rfl rfl (E_move (Bo (bif (leI 1 ((l1.length : Int))) then (leI ((l1.length : Int)) 101) else false)) rfl (by kernel_rfl)) ?_
    refine XL_split (bif (leI 1 ((l1.length : Int))) then (leI ((l1.length : Int)) 101) else false) (fun hc3 => ?_) (fun hc3 => ?_)
    ·have hb5 := of_true hb5 hc3
     obtain ⟨y4, hy4, hb5⟩ := of_bind hb5
     have hb5 := some_inj hb5
     refine XL_takeC _ rfl rfl (by kernel_rfl) hc3 (X_of_Y0 rfl (E_move (.c (.sl (l1.map c3))) rfl (by kernel_rfl))) ?_
     refine XL_takeC _ rfl rfl (by kernel_rfl) hc3 (X_of_Y1 rfl (Y1_call (s_impl_areNumbers hy4) cf_impl_areNumbers rfl (by kernel_rfl))) ?_
     refine XL_cons rfl (X_of_Y0 rfl (Y0_pickTe (b := bif (leI 1 ((l1.length : Int))) then (leI ((l1.length : Int)) 101) else false) (p := y4) rfl (by kernel_rfl) hc3 (by kernel_rfl) hb5)) ?_
     refine L0 rfl rfl (E_assign (Bo b5) rfl (by kernel_rfl)) ?_
     refine XL_nil ?_
     kernel_rfl
    ·have hb5 := some_inj (of_false hb5 hc3)
     refine XL_skipT _ rfl rfl (by kernel_rfl) hc3 rfl ?_
     refine XL_skipT _ rfl rfl (by kernel_rfl) hc3 rfl ?_
     refine XL_cons rfl (X_of_Y0 rfl (Y0_pickFe (b := bif (leI 1 ((l1.length : Int))) then (leI ((l1.length : Int)) 101) else false) (p := false) rfl (by kernel_rfl) hc3 (by kernel_rfl) hb5)) ?_
     refine L0 rfl rfl (E_assign (Bo b5) rfl (by kernel_rfl)) ?_
     refine XL_nil ?_
     kernel_rfl
   ·refine XL_skipT _ rfl rfl (by kernel_rfl) hc2 rfl ?_
    refine XL_skipT _ rfl rfl (by kernel_rfl) hc2 rfl ?_
    refine XL_skipT _ rfl rfl (by kernel_rfl) hc2 rfl ?_
    refine XL_cons rfl (X_of_Y0 rfl (Y0_pick0 (b := leI 1 ((l1.length : Int))) (p := leI ((l1.length : Int)) 101) (q := false) rfl (by kernel_rfl) hc2 (by kernel_rfl))) ?_
    refine L0 rfl rfl (E_move (Bo (bif (leI 1 ((l1.length : Int))) then (leI ((l1.length : Int)) 101) else false)) rfl (by kernel_rfl)) ?_
    refine XL_split (bif (leI 1 ((l1.length : Int))) then (leI ((l1.length : Int)) 101) else false) (fun hc3 => ?_) (fun hc3 => ?_)
    ·have hb5 := of_true hb5 hc3
     obtain ⟨y4, hy4, hb5⟩ := of_bind hb5
     have hb5 := some_inj hb5
     refine XL_takeC _ rfl rfl (by kernel_rfl) hc3 (X_of_Y0 rfl (E_move (.c (.sl (l1.map c3))) rfl (by kernel_rfl))) ?_
     refine XL_takeC _ rfl rfl (by kernel_rfl) hc3 (X_of_Y1 rfl (Y1_call (s_impl_areNumbers hy4) cf_impl_areNumbers rfl (by kernel_rfl))) ?_
     refine XL_cons rfl (X_of_Y0 rfl (Y0_pickTe (b := bif (leI 1 ((l1.length : Int))) then (leI ((l1.length : Int)) 101) else false) (p := y4) rfl (by kernel_rfl) hc3 (by kernel_rfl) hb5)) ?_
     refine L0 rfl rfl (E_assign (Bo b5) rfl (by kernel_rfl)) ?_
     refine XL_nil ?_
     kernel_rfl
    ·have hb5 := some_inj (of_false hb5 hc3)
     refine XL_skipT _ rfl rfl (by kernel_rfl) hc3 rfl ?_
     refine XL_skipT _ rfl rfl (by kernel_rfl) hc3 rfl ?_
     refine XL_cons rfl (X_of_Y0 rfl (Y0_pickFe (b := bif (leI 1 ((l1.length : Int))) then (leI ((l1.length : Int)) 101) else false) (p := false) rfl (by kernel_rfl) hc3 (by kernel_rfl) hb5)) ?_
     refine L0 rfl rfl (E_assign (Bo b5) rfl (by kernel_rfl)) ?_
     refine XL_nil ?_
     kernel_rfl
  refine V_ret ?_
  obtain rfl := some_inj h
  show Post _ _ _ _ _
  exact ⟨.inr rfl, rfl, rfl, rfl⟩
theorem cf_impl_SeriesProduct : ∀ args w, (callFunc 34 args).run Try.prog w = .ok (.enter 34 args) w := run_callFunc Try.func34 (by kernel_rfl) (by kernel_rfl)
set_option maxRecDepth 100000 in
set_option maxHeartbeats 400000 in
theorem s_impl_SeriesProduct {a1 : List Int} {b2 : List Int} {r : ((List Int) × Bool)} (h : r_impl_SeriesProduct a1 b2 = some r) : CallS Try.prog 34 [.c (.sl (a1.map c3)), .c (.sl (b2.map c3))] (.tc (.c (.sl (r.1.map c3))) (.tc (Bo r.2) .tn)) [] := by
  refine CallS_of_text (rs := [.t 4, .t 5]) (vs := [.tmp 4, .tmp 5]) Try.func34 rfl rfl (.cons rfl (.cons rfl FitsL.nil)) (by decide) 21 rfl ?_
  unfold r_impl_SeriesProduct at h
  show V _ _ ⟨.c (.sl (a1.map c3)) :: .c (.sl (b2.map c3)) :: bt 19 [], []⟩ _
  refine V_sreg (mb 21 3) [] (s1 := ⟨.c (.sl (a1.map c3)) :: .c (.sl (b2.map c3)) :: bt 19 [], []⟩) ?_ ?_
  ·refine L1 rfl rfl (Y1_nil (e := 3) 1 (by decide) (.inl rfl)) ?_
   refine L0 rfl rfl (E_assign (Bo false) rfl (by kernel_rfl)) ?_
   refine XL_nil ?_
   kernel_rfl
  refine V_seq ?_
  obtain ⟨y3, hy3, h⟩ := of_bind h
  obtain ⟨b6, hb6, h⟩ := of_bind h
  refine V_sreg (mb 21 8195) [] (s1 := ⟨.c (.sl (a1.map c3)) :: .c (.sl (b2.map c3)) :: bt 11 (Bo b6 :: bt 7 []), []⟩) ?_ ?_
  ·refine L0 rfl rfl (E_move (.c (.sl (a1.map c3))) rfl (by kernel_rfl)) ?_
   refine L1 rfl rfl (Y1_call (s_impl_isSeries hy3) cf_impl_isSeries rfl (by kernel_rfl)) ?_
   refine L0 rfl rfl (Y0_not (b := y3) rfl (by kernel_rfl)) ?_
   refine L0 rfl rfl (E_move (Bo (!y3)) rfl (by kernel_rfl)) ?_
   refine XL_split (!y3) (fun hc4 => ?_) (fun hc4 => ?_)
   ·have hb6 := some_inj (of_true hb6 hc4)
    refine XL_skipF _ rfl rfl (by kernel_rfl) hc4 rfl ?_
    refine XL_skipF _ rfl rfl (by kernel_rfl) hc4 rfl ?_
    refine XL_skipF _ rfl rfl (by kernel_rfl) hc4 rfl ?_
    refine XL_cons rfl (X_of_Y0 rfl (Y0_pickTe (b := !y3) (p := true) rfl (by kernel_rfl) hc4 (by kernel_rfl) hb6)) ?_
    refine XL_nil ?_
    kernel_rfl
   ·have hb6 := of_false hb6 hc4
    obtain ⟨y5, hy5, hb6⟩ := of_bind hb6
    have hb6 := some_inj hb6
    refine XL_takeC _ rfl rfl (by kernel_rfl) hc4 (X_of_Y0 rfl (E_move (.c (.sl (b2.map c3))) rfl (by kernel_rfl))) ?_
    refine XL_takeC _ rfl rfl (by kernel_rfl) hc4 (X_of_Y1 rfl (Y1_call (s_impl_isSeries hy5) cf_impl_isSeries rfl (by kernel_rfl))) ?_
    refine XL_takeC _ rfl rfl (by kernel_rfl) hc4 (X_of_Y0 rfl (Y0_not (b := y5) rfl (by kernel_rfl))) ?_
    refine XL_cons rfl (X_of_Y0 rfl (Y0_pickFe (b := !y3) (p := !y5) rfl (by kernel_rfl) hc4 (by kernel_rfl) hb6)) ?_
    refine XL_nil ?_
    kernel_rfl
  refine V_cond rfl (fun hc7 => ?_) (fun hc7 => ?_)
  ·have h := of_true h hc7
   refine V_sreg (mb 21 48) [112] (s1 := ⟨bt 4 (.ow 112 :: Bo false :: bt 15 []), [(112, .arr 3 1 ((([] : List Int)).map c3))]⟩) ?_ ?_
   ·refine L1 rfl rfl (Y1_bslice0 Try.underlying41 sz3 (by decide) rfl rfl) ?_
    refine L0 rfl rfl (E_assign (.ow 112) rfl (by kernel_rfl)) ?_
    refine L0 rfl rfl (E_assign (Bo false) rfl (by kernel_rfl)) ?_
    refine XL_nil ?_
    kernel_rfl
   refine V_freeze 112 (T := 3) (sz := 1) (els := (([] : List Int)).map c3) (s1 := ⟨bt 4 (.c (.sl ((([] : List Int)).map c3)) :: Bo false :: bt 15 []), []⟩) (by kernel_rfl) (by kernel_rfl) ?_
   refine V_ret ?_
   obtain rfl := some_inj h
   show Post _ _ _ _ _
   exact ⟨.inr rfl, rfl, rfl, rfl⟩
  ·have h := of_false h hc7
   refine V_skip ?_
   show V _ _ _ _
   obtain ⟨y8, hy8, h⟩ := of_bind h
   obtain ⟨y9, hy9, h⟩ := of_bind h
   refine V_sreg (mb 21 48) [] (s1 := ⟨bt 4 (.c (.sl (y9.1.map c3)) :: Bo y9.2 :: bt 15 []), []⟩) ?_ ?_
   ·refine L0 rfl rfl (E_move (.c (.sl (a1.map c3))) rfl (by kernel_rfl)) ?_
    refine L0 rfl rfl (E_move (.c (.sl (b2.map c3))) rfl (by kernel_rfl)) ?_
    refine L1 rfl rfl (Y1_call (s_impl_product hy8) cf_impl_product rfl (by kernel_rfl)) ?_
    refine XL_freeze 136 (T := 3) (sz := 1) (els := y8.map c3) (s1 := ⟨.c (.sl (a1.map c3)) :: .c (.sl (b2.map c3)) :: bt 11 (Bo b6 :: .bot :: .c (.sl (a1.map c3)) :: .c (.sl (b2.map c3)) :: .c (.sl (y8.map c3)) :: bt 3 []), []⟩) (by kernel_rfl) (by kernel_rfl) ?_
    refine L1 rfl rfl (Y1_call (s_impl_checkedSeries hy9) cf_impl_checkedSeries rfl (by kernel_rfl)) ?_
    refine L0 rfl rfl (E_ext (n := 0) (.c (.sl (y9.1.map c3))) (.tc (Bo y9.2) .tn) (.c (.sl (y9.1.map c3))) rfl (by kernel_rfl) (by kernel_rfl) (by intro hh; cases hh)) ?_
    refine L0 rfl rfl (E_ext (n := 1) (.c (.sl (y9.1.map c3))) (.tc (Bo y9.2) .tn) (Bo y9.2) rfl (by kernel_rfl) (by kernel_rfl) (by intro hh; cases hh)) ?_
    refine L0 rfl rfl (E_assign (.c (.sl (y9.1.map c3))) rfl (by kernel_rfl)) ?_
    refine L0 rfl rfl (E_assign (Bo y9.2) rfl (by kernel_rfl)) ?_
    refine XL_nil ?_
    kernel_rfl
   refine V_ret ?_
   obtain rfl := some_inj h
   show Post _ _ _ _ _
   exact ⟨.inr rfl, rfl, rfl, rfl⟩
theorem cf_impl_FirstDifference : ∀ args w, (callFunc 35 args).run Try.prog w = .ok (.enter 35 args) w := run_callFunc Try.func35 (by kernel_rfl) (by kernel_rfl)
set_option maxRecDepth 100000 in
set_option maxHeartbeats 400000 in
theorem s_impl_FirstDifference {f1 : (Int × Int × Int)} {g2 : (Int × Int × Int)} {r : (Int × Bool)} (h : r_impl_FirstDifference f1 g2 = some r) : CallS Try.prog 35 [.ag [Ti f1.1, Ti f1.2.1, Ti f1.2.2], .ag [Ti g2.1, Ti g2.2.1, Ti g2.2.2]] (.tc (I r.1) (.tc (Bo r.2) .tn)) [] := by
  refine CallS_of_text (rs := [.t 4, .t 5]) (vs := [.tmp 4, .tmp 5]) Try.func35 rfl rfl (.cons rfl (.cons rfl FitsL.nil)) (by decide) 37 rfl ?_
  unfold r_impl_FirstDifference at h
  show V _ _ ⟨.ag [Ti f1.1, Ti f1.2.1, Ti f1.2.2] :: .ag [Ti g2.1, Ti g2.2.1, Ti g2.2.2] :: bt 35 [], []⟩ _
  refine V_sreg (mb 37 12) [24, 16] (s1 := ⟨.bot :: .bot :: .pt 16 0 :: .pt 24 0 :: bt 33 [], [(24, .box [Ti g2.1, Ti g2.2.1, Ti g2.2.2]), (16, .box [Ti f1.1, Ti f1.2.1, Ti f1.2.2])]⟩) ?_ ?_
  ·refine L1 rfl rfl (Y1_box (cs := [Ti f1.1, Ti f1.2.1, Ti f1.2.2]) rfl (by kernel_rfl)) ?_
   refine L1 rfl rfl (Y1_box (cs := [Ti g2.1, Ti g2.2.1, Ti g2.2.2]) rfl (by kernel_rfl)) ?_
   refine L0 rfl rfl (E_assign (I 0) rfl (by kernel_rfl)) ?_
   refine L0 rfl rfl (E_assign (Bo false) rfl (by kernel_rfl)) ?_
   refine XL_nil ?_
   kernel_rfl
  refine V_seq ?_
  obtain ⟨y3, hy3, h⟩ := of_bind h
  obtain ⟨b6, hb6, h⟩ := of_bind h
  refine V_sreg (mb 37 65548) [24, 16] (s1 := ⟨.bot :: .bot :: .pt 16 0 :: .pt 24 0 :: bt 12 (Bo b6 :: bt 20 []), [(24, .box [Ti g2.1, Ti g2.2.1, Ti g2.2.2]), (16, .box [Ti f1.1, Ti f1.2.1, Ti f1.2.2])]⟩) ?_ ?_
  ·refine L0 rfl rfl (E_loadn (cs := [Ti f1.1, Ti f1.2.1, Ti f1.2.2]) [Ti f1.1, Ti f1.2.1, Ti f1.2.2] wd45 rfl (by kernel_rfl) (Nat.le_of_ble_eq_true rfl) (by kernel_rfl)) ?_
   refine L1 rfl rfl (Y1_call (s_impl_isShownForm hy3) cf_impl_isShownForm rfl (by kernel_rfl)) ?_
   refine L0 rfl rfl (Y0_not (b := y3) rfl (by kernel_rfl)) ?_
   refine L0 rfl rfl (E_move (Bo (!y3)) rfl (by kernel_rfl)) ?_
   refine XL_split (!y3) (fun hc4 => ?_) (fun hc4 => ?_)
   ·have hb6 := some_inj (of_true hb6 hc4)
    refine XL_skipF _ rfl rfl (by kernel_rfl) hc4 rfl ?_
    refine XL_skipF _ rfl rfl (by kernel_rfl) hc4 rfl ?_
    refine XL_skipF _ rfl rfl (by kernel_rfl) hc4 rfl ?_
    refine XL_cons rfl (X_of_Y0 rfl (Y0_pickTe (b := !y3) (p := true) rfl (by kernel_rfl) hc4 (by kernel_rfl) hb6)) ?_
    refine XL_nil ?_
    kernel_rfl
   ·have hb6 := of_false hb6 hc4
    obtain ⟨y5, hy5, hb6⟩ := of_bind hb6
    have hb6 := some_inj hb6
    refine XL_takeC _ rfl rfl (by kernel_rfl) hc4 (X_of_Y0 rfl (E_loadn (cs := [Ti g2.1, Ti g2.2.1, Ti g2.2.2]) [Ti g2.1, Ti g2.2.1, Ti g2.2.2] wd45 rfl (by kernel_rfl) (Nat.le_of_ble_eq_true rfl) (by kernel_rfl))) ?_
    refine XL_takeC _ rfl rfl (by kernel_rfl) hc4 (X_of_Y1 rfl (Y1_call (s_impl_isShownForm hy5) cf_impl_isShownForm rfl (by kernel_rfl))) ?_
    refine XL_takeC _ rfl rfl (by kernel_rfl) hc4 (X_of_Y0 rfl (Y0_not (b := y5) rfl (by kernel_rfl))) ?_
    refine XL_cons rfl (X_of_Y0 rfl (Y0_pickFe (b := !y3) (p := !y5) rfl (by kernel_rfl) hc4 (by kernel_rfl) hb6)) ?_
    refine XL_nil ?_
    kernel_rfl
  refine V_cond rfl (fun hc7 => ?_) (fun hc7 => ?_)
  ·have h := of_true h hc7
   refine V_sreg (mb 37 48) [] (s1 := ⟨bt 4 (I 0 :: Bo false :: bt 31 []), []⟩) ?_ ?_
   ·refine L0 rfl rfl (E_assign (I 0) rfl (by kernel_rfl)) ?_
    refine L0 rfl rfl (E_assign (Bo false) rfl (by kernel_rfl)) ?_
    refine XL_nil ?_
    kernel_rfl
   refine V_ret ?_
   obtain rfl := some_inj h
   show Post _ _ _ _ _
   exact ⟨.inr rfl, rfl, rfl, rfl⟩
  ·have h := of_false h hc7
   refine V_skip ?_
   show V _ _ _ _
   obtain ⟨y8, hy8, h⟩ := of_bind h
   obtain ⟨y9, hy9, h⟩ := of_bind h
   refine V_sdreg [0, 1, 0, 7, 15, 31] 6 [[.z, .z, .b, .z, .z, .z], [.a, .z, .b, .z, .z, .z], [.b, .b, .z, .z, .z, .z], [.a, .a, .a, .z, .z, .z], [.a, .a, .a, .a, .z, .z], [.a, .a, .a, .a, .a, .z]] (mb 37 192) [160, 144] (s1 := ⟨bt 6 (.ow 144 :: .ow 160 :: bt 29 []), [(160, .arr 3 1 (y9.map c3)), (144, .arr 3 1 (y8.map c3))]⟩) (by kernel_rfl) (by kernel_rfl) ?_ ?_
   ·refine DE_0 0 (.ag [Ti f1.1, Ti f1.2.1, Ti f1.2.2]) (by kernel_rfl) rfl rfl rfl (gsat_none rfl) (by kernel_rfl) (E_loadn (cs := [Ti f1.1, Ti f1.2.1, Ti f1.2.2]) [Ti f1.1, Ti f1.2.1, Ti f1.2.2] wd45 rfl (by kernel_rfl) (Nat.le_of_ble_eq_true rfl) (by kernel_rfl)) 17 rfl ?_
    refine DE_1 1 (by kernel_rfl) rfl rfl rfl (gsat_none rfl) (Y1_call (s_impl_Form_theta hy8) cf_impl_Form_theta rfl (by kernel_rfl)) rfl rfl rfl 18 rfl ?_
    refine DE_0 2 (.ag [Ti g2.1, Ti g2.2.1, Ti g2.2.2]) (by kernel_rfl) rfl rfl rfl (gsat_none rfl) (by kernel_rfl) (E_loadn (cs := [Ti g2.1, Ti g2.2.1, Ti g2.2.2]) [Ti g2.1, Ti g2.2.1, Ti g2.2.2] wd45 rfl (by kernel_rfl) (Nat.le_of_ble_eq_true rfl) (by kernel_rfl)) 19 rfl ?_
    refine DE_1 3 (by kernel_rfl) rfl rfl rfl (gsat_none rfl) (Y1_call (s_impl_Form_theta hy9) cf_impl_Form_theta rfl (by kernel_rfl)) rfl rfl rfl 20 rfl ?_
    refine DE_0 4 (.ow 144) (by kernel_rfl) rfl rfl rfl (gsat_none rfl) (by kernel_rfl) (E_assign (.ow 144) rfl (by kernel_rfl)) 6 rfl ?_
    refine DE_0 5 (.ow 160) (by kernel_rfl) rfl rfl rfl (gsat_none rfl) (by kernel_rfl) (E_assign (.ow 160) rfl (by kernel_rfl)) 7 rfl ?_
    refine DL_nil (by kernel_rfl) ?_
    refine XL_nil ?_
    kernel_rfl
   refine V_seq ?_
   refine V_sreg (mb 37 12583104) [160, 144] (s1 := ⟨bt 6 (.ow 144 :: .ow 160 :: bt 14 (I ((y8.length : Int)) :: I 0 :: bt 13 [])), [(160, .arr 3 1 (y9.map c3)), (144, .arr 3 1 (y8.map c3))]⟩) ?_ ?_
   ·refine L0 rfl rfl (E_move (.ow 144) rfl (by kernel_rfl)) ?_
    refine L0 rfl rfl (Y0_lenM (c := c3) (xs := y8) Try.underlying41 rfl (by kernel_rfl)) ?_
    refine L0 rfl rfl (E_move (I 0) rfl (by kernel_rfl)) ?_
    refine XL_nil ?_
    kernel_rfl
   obtain ⟨qo12, hLo12, hko12⟩ := of_bind h
   refine V_toS (q := qo12) (S := fun o12 => ⟨bt 37 [], []⟩) (mb 37 0) [] ?_ ?_
   ·refine V_block (V_loop (fun n s => ∃ (t10 : Int), s.keep (mb 37 12583104) [160, 144] = (⟨bt 6 (.ow 144 :: .ow 160 :: bt 14 (I ((y8.length : Int)) :: I t10 :: bt 13 [])), [(160, .arr 3 1 (y9.map c3)), (144, .arr 3 1 (y8.map c3))]⟩ : St) ∧ r_impl_FirstDifference_L11 y8 y9 n t10 = some qo12) FU ⟨_,  by rfl, hLo12⟩ ?_)
    clear hLo12
    rintro n s ⟨t10, hs, h⟩
    refine V_keep _ _ hs ?_
    clear hs
    cases n with
    | zero => cases h
    | succ n =>
     rw [r_impl_FirstDifference_L11] at h
     refine V_sreg (mb 37 29360320) [160, 144] (s1 := ⟨bt 6 (.ow 144 :: .ow 160 :: bt 14 (I ((y8.length : Int)) :: I t10 :: Bo (ltI t10 ((y8.length : Int))) :: bt 12 [])), [(160, .arr 3 1 (y9.map c3)), (144, .arr 3 1 (y8.map c3))]⟩) ?_ ?_
     ·refine L0 rfl rfl (Y0_ltw (k := .i64) (a := t10) (b := (y8.length : Int)) rfl (by kernel_rfl) (by kernel_rfl)) ?_
      refine XL_nil ?_
      kernel_rfl
     refine V_seq ?_
     refine V_cond rfl (fun hc13 => ?_) (fun hc13 => ?_)
     ·have h := of_true h hc13
      refine V_skip ?_
      show V _ _ _ _
      refine V_seq ?_
      refine V_block ?_
      refine V_sreg (mb 37 12583360) [160, 144] (s1 := ⟨bt 6 (.ow 144 :: .ow 160 :: I t10 :: bt 13 (I ((y8.length : Int)) :: I t10 :: bt 13 [])), [(160, .arr 3 1 (y9.map c3)), (144, .arr 3 1 (y8.map c3))]⟩) ?_ ?_
      ·refine L0 rfl rfl (E_move (I t10) rfl (by kernel_rfl)) ?_
       refine L0 rfl rfl (E_assign (I t10) rfl (by kernel_rfl)) ?_
       refine XL_nil ?_
       kernel_rfl
      obtain ⟨e14, he14, h⟩ := of_bind h
      obtain ⟨e15, he15, h⟩ := of_bind h
      obtain ⟨e16, he16, h⟩ := of_bind h
      obtain ⟨e17, he17, h⟩ := of_bind h
      refine V_sdreg [0, 0, 3, 7, 0, 0, 48, 112, 255] 9 [[.z, .b, .z, .z, .b, .b, .b, .b, .z], [.b, .z, .z, .z, .b, .b, .b, .b, .z], [.a, .a, .z, .z, .b, .b, .b, .b, .z], [.a, .a, .a, .z, .b, .b, .b, .b, .z], [.b, .b, .b, .b, .z, .b, .z, .z, .z], [.b, .b, .b, .b, .b, .z, .z, .z, .z], [.b, .b, .b, .b, .a, .a, .z, .z, .z], [.b, .b, .b, .b, .a, .a, .a, .z, .z], [.a, .a, .a, .a, .a, .a, .a, .a, .z]] (mb 37 17192452544) [160, 144] (s1 := ⟨bt 6 (.ow 144 :: .ow 160 :: I t10 :: bt 13 (I ((y8.length : Int)) :: I t10 :: bt 10 (Bo (!eqI e15 e17) :: .bot :: .bot :: []))), [(160, .arr 3 1 (y9.map c3)), (144, .arr 3 1 (y8.map c3))]⟩) (by kernel_rfl) (by kernel_rfl) ?_ ?_
      ·refine DE_0 0 (.ow 144) (by kernel_rfl) rfl rfl rfl (gsat_none rfl) (by kernel_rfl) (E_move (.ow 144) rfl (by kernel_rfl)) 26 rfl ?_
       refine DE_0 1 (I t10) (by kernel_rfl) rfl rfl rfl (gsat_none rfl) (by kernel_rfl) (E_move (I t10) rfl (by kernel_rfl)) 27 rfl ?_
       refine DE_0 2 (.po 144 1 (Int.toNat (t10)) 0) (by kernel_rfl) rfl rfl rfl (gsat_none rfl) (by kernel_rfl) (Y0_idxoM (c := c3) (xs := y8) (v := e14) (id := 144) (T := 3) (sz := 1) (n := t10) Try.underlying41 sz3 rfl (by kernel_rfl) (by kernel_rfl) (by kernel_rfl) he14) 28 rfl ?_
       refine DE_0 3 (I e15) (by kernel_rfl) rfl rfl rfl (gsat_none rfl) (by kernel_rfl) (Y0_loado1 (c := c3) (xs := y8) (v := e15) (id := 144) (sz := 1) (T := 3) (off := 0) (n := t10) (d := Ti e15) (ds := []) sc3 rfl (by kernel_rfl) (by kernel_rfl) he15 (by kernel_rfl)) 29 rfl ?_
       refine DE_0 4 (.ow 160) (by kernel_rfl) rfl rfl rfl (gsat_none rfl) (by kernel_rfl) (E_move (.ow 160) rfl (by kernel_rfl)) 30 rfl ?_
       refine DE_0 5 (I t10) (by kernel_rfl) rfl rfl rfl (gsat_none rfl) (by kernel_rfl) (E_move (I t10) rfl (by kernel_rfl)) 31 rfl ?_
       refine DE_0 6 (.po 160 1 (Int.toNat (t10)) 0) (by kernel_rfl) rfl rfl rfl (gsat_none rfl) (by kernel_rfl) (Y0_idxoM (c := c3) (xs := y9) (v := e16) (id := 160) (T := 3) (sz := 1) (n := t10) Try.underlying41 sz3 rfl (by kernel_rfl) (by kernel_rfl) (by kernel_rfl) he16) 32 rfl ?_
       refine DE_0 7 (I e17) (by kernel_rfl) rfl rfl rfl (gsat_none rfl) (by kernel_rfl) (Y0_loado1 (c := c3) (xs := y9) (v := e17) (id := 160) (sz := 1) (T := 3) (off := 0) (n := t10) (d := Ti e17) (ds := []) sc3 rfl (by kernel_rfl) (by kernel_rfl) he17 (by kernel_rfl)) 33 rfl ?_
       refine DE_0 8 (Bo (!eqI e15 e17)) (by kernel_rfl) rfl rfl rfl (gsat_none rfl) (by kernel_rfl) (Y0_new (k := .i64) (a := e15) (b := e17) rfl (by kernel_rfl) (by kernel_rfl)) 34 rfl ?_
       refine DL_nil (by kernel_rfl) ?_
       refine XL_nil ?_
       kernel_rfl
      refine V_cond rfl (fun hc18 => ?_) (fun hc18 => ?_)
      ·have h := of_true h hc18
       refine V_sreg (mb 37 48) [] (s1 := ⟨bt 4 (I t10 :: Bo true :: bt 31 []), []⟩) ?_ ?_
       ·refine L0 rfl rfl (E_move (I t10) rfl (by kernel_rfl)) ?_
        refine L0 rfl rfl (E_assign (I t10) rfl (by kernel_rfl)) ?_
        refine L0 rfl rfl (E_assign (Bo true) rfl (by kernel_rfl)) ?_
        refine XL_nil ?_
        kernel_rfl
       refine V_ret ?_
       obtain rfl := some_inj h
       have h := hko12
       obtain rfl := some_inj h
       show Post _ _ _ _ _
       exact ⟨.inr rfl, rfl, rfl, rfl⟩
      ·have h := of_false h hc18
       refine V_skip ?_
       show V _ _ _ _
       obtain ⟨t19, ht19, h⟩ := of_sI h
       refine V_reg (mb 37 12583104) [160, 144] (s1 := ⟨bt 6 (.ow 144 :: .ow 160 :: bt 14 (I ((y8.length : Int)) :: I t19 :: bt 13 [])), [(160, .arr 3 1 (y9.map c3)), (144, .arr 3 1 (y8.map c3))]⟩) ?_ ?_
       ·refine L0 rfl rfl (Y0_add64 (a := t10) (b := 1) rfl (by kernel_rfl) (by kernel_rfl)) ?_
        refine L0 rfl rfl (E_move (I (w64 (t10 + 1))) rfl (by kernel_rfl)) ?_
        refine XL_nil ?_
        subst ht19
        kernel_rfl
       exact ⟨n, Nat.lt_succ_self n, _,  by rfl, h⟩
     ·have h := of_false h hc13
      refine V_exit ?_
      obtain rfl := some_inj h
      exact ⟨_, rfl, by rfl⟩
   rintro o12 rfl
   have h := hko12
   clear hko12
   show V _ _ _ _
   refine V_sreg (mb 37 48) [] (s1 := ⟨bt 4 (I 0 :: Bo false :: bt 31 []), []⟩) ?_ ?_
   ·refine L0 rfl rfl (E_assign (I 0) rfl (by kernel_rfl)) ?_
    refine L0 rfl rfl (E_assign (Bo false) rfl (by kernel_rfl)) ?_
    refine XL_nil ?_
    kernel_rfl
   refine V_ret ?_
   obtain rfl := some_inj h
   show Post _ _ _ _ _
   exact ⟨.inr rfl, rfl, rfl, rfl⟩
theorem cf_spec_FirstDifference : ∀ args w, (callFunc 36 args).run Try.prog w = .ok (.enter 36 args) w := run_callFunc Try.func36 (by kernel_rfl) (by kernel_rfl)
set_option maxRecDepth 100000 in
set_option maxHeartbeats 400000 in
theorem s_spec_FirstDifference {f1 : (Int × Int × Int)} {g2 : (Int × Int × Int)} {r : (Int × Bool)} (h : r_spec_FirstDifference f1 g2 = some r) : CallS Try.prog 36 [.ag [Ti f1.1, Ti f1.2.1, Ti f1.2.2], .ag [Ti g2.1, Ti g2.2.1, Ti g2.2.2]] (.tc (I r.1) (.tc (Bo r.2) .tn)) [] := by
  refine CallS_of_text (rs := [.t 4, .t 5]) (vs := [.tmp 4, .tmp 5]) Try.func36 rfl rfl (.cons rfl (.cons rfl FitsL.nil)) (by decide) 37 rfl ?_
  unfold r_spec_FirstDifference at h
  show V _ _ ⟨.ag [Ti f1.1, Ti f1.2.1, Ti f1.2.2] :: .ag [Ti g2.1, Ti g2.2.1, Ti g2.2.2] :: bt 35 [], []⟩ _
  refine V_sreg (mb 37 12) [24, 16] (s1 := ⟨.bot :: .bot :: .pt 16 0 :: .pt 24 0 :: bt 33 [], [(24, .box [Ti g2.1, Ti g2.2.1, Ti g2.2.2]), (16, .box [Ti f1.1, Ti f1.2.1, Ti f1.2.2])]⟩) ?_ ?_
  ·refine L1 rfl rfl (Y1_box (cs := [Ti f1.1, Ti f1.2.1, Ti f1.2.2]) rfl (by kernel_rfl)) ?_
   refine L1 rfl rfl (Y1_box (cs := [Ti g2.1, Ti g2.2.1, Ti g2.2.2]) rfl (by kernel_rfl)) ?_
   refine L0 rfl rfl (E_assign (I 0) rfl (by kernel_rfl)) ?_
   refine L0 rfl rfl (E_assign (Bo false) rfl (by kernel_rfl)) ?_
   refine XL_nil ?_
   kernel_rfl
  refine V_seq ?_
  obtain ⟨y3, hy3, h⟩ := of_bind h
  obtain ⟨b6, hb6, h⟩ := of_bind h
  refine V_sreg (mb 37 65548) [24, 16] (s1 := ⟨.bot :: .bot :: .pt 16 0 :: .pt 24 0 :: bt 12 (Bo b6 :: bt 20 []), [(24, .box [Ti g2.1, Ti g2.2.1, Ti g2.2.2]), (16, .box [Ti f1.1, Ti f1.2.1, Ti f1.2.2])]⟩) ?_ ?_
  ·refine L0 rfl rfl (E_loadn (cs := [Ti f1.1, Ti f1.2.1, Ti f1.2.2]) [Ti f1.1, Ti f1.2.1, Ti f1.2.2] wd45 rfl (by kernel_rfl) (Nat.le_of_ble_eq_true rfl) (by kernel_rfl)) ?_
   refine L1 rfl rfl (Y1_call (s_spec_vaForm hy3) cf_spec_vaForm rfl (by kernel_rfl)) ?_
   refine L0 rfl rfl (Y0_not (b := y3) rfl (by kernel_rfl)) ?_
   refine L0 rfl rfl (E_move (Bo (!y3)) rfl (by kernel_rfl)) ?_
   refine XL_split (!y3) (fun hc4 => ?_) (fun hc4 => ?_)
   ·have hb6 := some_inj (of_true hb6 hc4)
    refine XL_skipF _ rfl rfl (by kernel_rfl) hc4 rfl ?_
    refine XL_skipF _ rfl rfl (by kernel_rfl) hc4 rfl ?_
    refine XL_skipF _ rfl rfl (by kernel_rfl) hc4 rfl ?_
    refine XL_cons rfl (X_of_Y0 rfl (Y0_pickTe (b := !y3) (p := true) rfl (by kernel_rfl) hc4 (by kernel_rfl) hb6)) ?_
    refine XL_nil ?_
    kernel_rfl
   ·have hb6 := of_false hb6 hc4
    obtain ⟨y5, hy5, hb6⟩ := of_bind hb6
    have hb6 := some_inj hb6
    refine XL_takeC _ rfl rfl (by kernel_rfl) hc4 (X_of_Y0 rfl (E_loadn (cs := [Ti g2.1, Ti g2.2.1, Ti g2.2.2]) [Ti g2.1, Ti g2.2.1, Ti g2.2.2] wd45 rfl (by kernel_rfl) (Nat.le_of_ble_eq_true rfl) (by kernel_rfl))) ?_
    refine XL_takeC _ rfl rfl (by kernel_rfl) hc4 (X_of_Y1 rfl (Y1_call (s_spec_vaForm hy5) cf_spec_vaForm rfl (by kernel_rfl))) ?_
    refine XL_takeC _ rfl rfl (by kernel_rfl) hc4 (X_of_Y0 rfl (Y0_not (b := y5) rfl (by kernel_rfl))) ?_
    refine XL_cons rfl (X_of_Y0 rfl (Y0_pickFe (b := !y3) (p := !y5) rfl (by kernel_rfl) hc4 (by kernel_rfl) hb6)) ?_
    refine XL_nil ?_
    kernel_rfl
  refine V_cond rfl (fun hc7 => ?_) (fun hc7 => ?_)
  ·have h := of_true h hc7
   refine V_sreg (mb 37 48) [] (s1 := ⟨bt 4 (I 0 :: Bo false :: bt 31 []), []⟩) ?_ ?_
   ·refine L0 rfl rfl (E_assign (I 0) rfl (by kernel_rfl)) ?_
    refine L0 rfl rfl (E_assign (Bo false) rfl (by kernel_rfl)) ?_
    refine XL_nil ?_
    kernel_rfl
   refine V_ret ?_
   obtain rfl := some_inj h
   show Post _ _ _ _ _
   exact ⟨.inr rfl, rfl, rfl, rfl⟩
  ·have h := of_false h hc7
   refine V_skip ?_
   show V _ _ _ _
   obtain ⟨y8, hy8, h⟩ := of_bind h
   obtain ⟨y9, hy9, h⟩ := of_bind h
   refine V_sdreg [0, 1, 0, 7, 15, 31] 6 [[.z, .z, .b, .z, .z, .z], [.a, .z, .b, .z, .z, .z], [.b, .b, .z, .z, .z, .z], [.a, .a, .a, .z, .z, .z], [.a, .a, .a, .a, .z, .z], [.a, .a, .a, .a, .a, .z]] (mb 37 192) [160, 144] (s1 := ⟨bt 6 (.ow 144 :: .ow 160 :: bt 29 []), [(160, .arr 3 1 (y9.map c3)), (144, .arr 3 1 (y8.map c3))]⟩) (by kernel_rfl) (by kernel_rfl) ?_ ?_
   ·refine DE_0 0 (.ag [Ti f1.1, Ti f1.2.1, Ti f1.2.2]) (by kernel_rfl) rfl rfl rfl (gsat_none rfl) (by kernel_rfl) (E_loadn (cs := [Ti f1.1, Ti f1.2.1, Ti f1.2.2]) [Ti f1.1, Ti f1.2.1, Ti f1.2.2] wd45 rfl (by kernel_rfl) (Nat.le_of_ble_eq_true rfl) (by kernel_rfl)) 17 rfl ?_
    refine DE_1 1 (by kernel_rfl) rfl rfl rfl (gsat_none rfl) (Y1_call (s_spec_thSeries hy8) cf_spec_thSeries rfl (by kernel_rfl)) rfl rfl rfl 18 rfl ?_
    refine DE_0 2 (.ag [Ti g2.1, Ti g2.2.1, Ti g2.2.2]) (by kernel_rfl) rfl rfl rfl (gsat_none rfl) (by kernel_rfl) (E_loadn (cs := [Ti g2.1, Ti g2.2.1, Ti g2.2.2]) [Ti g2.1, Ti g2.2.1, Ti g2.2.2] wd45 rfl (by kernel_rfl) (Nat.le_of_ble_eq_true rfl) (by kernel_rfl)) 19 rfl ?_
    refine DE_1 3 (by kernel_rfl) rfl rfl rfl (gsat_none rfl) (Y1_call (s_spec_thSeries hy9) cf_spec_thSeries rfl (by kernel_rfl)) rfl rfl rfl 20 rfl ?_
    refine DE_0 4 (.ow 144) (by kernel_rfl) rfl rfl rfl (gsat_none rfl) (by kernel_rfl) (E_assign (.ow 144) rfl (by kernel_rfl)) 6 rfl ?_
    refine DE_0 5 (.ow 160) (by kernel_rfl) rfl rfl rfl (gsat_none rfl) (by kernel_rfl) (E_assign (.ow 160) rfl (by kernel_rfl)) 7 rfl ?_
    refine DL_nil (by kernel_rfl) ?_
    refine XL_nil ?_
    kernel_rfl
   refine V_seq ?_
   refine V_sreg (mb 37 12583104) [160, 144] (s1 := ⟨bt 6 (.ow 144 :: .ow 160 :: bt 14 (I ((y8.length : Int)) :: I 0 :: bt 13 [])), [(160, .arr 3 1 (y9.map c3)), (144, .arr 3 1 (y8.map c3))]⟩) ?_ ?_
   ·refine L0 rfl rfl (E_move (.ow 144) rfl (by kernel_rfl)) ?_
    refine L0 rfl rfl (Y0_lenM (c := c3) (xs := y8) Try.underlying41 rfl (by kernel_rfl)) ?_
    refine L0 rfl rfl (E_move (I 0) rfl (by kernel_rfl)) ?_
    refine XL_nil ?_
    kernel_rfl
   obtain ⟨qo12, hLo12, hko12⟩ := of_bind h
   refine V_toS (q := qo12) (S := fun o12 => ⟨bt 37 [], []⟩) (mb 37 0) [] ?_ ?_
   ·refine V_block (V_loop (fun n s => ∃ (t10 : Int), s.keep (mb 37 12583104) [160, 144] = (⟨bt 6 (.ow 144 :: .ow 160 :: bt 14 (I ((y8.length : Int)) :: I t10 :: bt 13 [])), [(160, .arr 3 1 (y9.map c3)), (144, .arr 3 1 (y8.map c3))]⟩ : St) ∧ r_spec_FirstDifference_L11 y8 y9 n t10 = some qo12) FU ⟨_,  by rfl, hLo12⟩ ?_)
    clear hLo12
    rintro n s ⟨t10, hs, h⟩
    refine V_keep _ _ hs ?_
    clear hs
    cases n with
    | zero => cases h
    | succ n =>
     rw [r_spec_FirstDifference_L11] at h
     refine V_sreg (mb 37 29360320) [160, 144] (s1 := ⟨bt 6 (.ow 144 :: .ow 160 :: bt 14 (I ((y8.length : Int)) :: I t10 :: Bo (ltI t10 ((y8.length : Int))) :: bt 12 [])), [(160, .arr 3 1 (y9.map c3)), (144, .arr 3 1 (y8.map c3))]⟩) ?_ ?_
     ·refine L0 rfl rfl (Y0_ltw (k := .i64) (a := t10) (b := (y8.length : Int)) rfl (by kernel_rfl) (by kernel_rfl)) ?_
      refine XL_nil ?_
      kernel_rfl
     refine V_seq ?_
     refine V_cond rfl (fun hc13 => ?_) (fun hc13 => ?_)
     ·have h := of_true h hc13
      refine V_skip ?_
      show V _ _ _ _
      refine V_seq ?_
      refine V_block ?_
      refine V_sreg (mb 37 12583360) [160, 144] (s1 := ⟨bt 6 (.ow 144 :: .ow 160 :: I t10 :: bt 13 (I ((y8.length : Int)) :: I t10 :: bt 13 [])), [(160, .arr 3 1 (y9.map c3)), (144, .arr 3 1 (y8.map c3))]⟩) ?_ ?_
      ·refine L0 rfl rfl (E_move (I t10) rfl (by kernel_rfl)) ?_
       refine L0 rfl rfl (E_assign (I t10) rfl (by kernel_rfl)) ?_
       refine XL_nil ?_
       kernel_rfl
      obtain ⟨e14, he14, h⟩ := of_bind h
      obtain ⟨e15, he15, h⟩ := of_bind h
      obtain ⟨e16, he16, h⟩ := of_bind h
      obtain ⟨e17, he17, h⟩ := of_bind h
      refine V_sdreg [0, 0, 3, 7, 0, 0, 48, 112, 255] 9 [[.z, .b, .z, .z, .b, .b, .b, .b, .z], [.b, .z, .z, .z, .b, .b, .b, .b, .z], [.a, .a, .z, .z, .b, .b, .b, .b, .z], [.a, .a, .a, .z, .b, .b, .b, .b, .z], [.b, .b, .b, .b, .z, .b, .z, .z, .z], [.b, .b, .b, .b, .b, .z, .z, .z, .z], [.b, .b, .b, .b, .a, .a, .z, .z, .z], [.b, .b, .b, .b, .a, .a, .a, .z, .z], [.a, .a, .a, .a, .a, .a, .a, .a, .z]] (mb 37 17192452544) [160, 144] (s1 := ⟨bt 6 (.ow 144 :: .ow 160 :: I t10 :: bt 13 (I ((y8.length : Int)) :: I t10 :: bt 10 (Bo (!eqI e15 e17) :: .bot :: .bot :: []))), [(160, .arr 3 1 (y9.map c3)), (144, .arr 3 1 (y8.map c3))]⟩) (by kernel_rfl) (by kernel_rfl) ?_ ?_
      ·refine DE_0 0 (.ow 144) (by kernel_rfl) rfl rfl rfl (gsat_none rfl) (by kernel_rfl) (E_move (.ow 144) rfl (by kernel_rfl)) 26 rfl ?_
       refine DE_0 1 (I t10) (by kernel_rfl) rfl rfl rfl (gsat_none rfl) (by kernel_rfl) (E_move (I t10) rfl (by kernel_rfl)) 27 rfl ?_
       refine DE_0 2 (.po 144 1 (Int.toNat (t10)) 0) (by kernel_rfl) rfl rfl rfl (gsat_none rfl) (by kernel_rfl) (Y0_idxoM (c := c3) (xs := y8) (v := e14) (id := 144) (T := 3) (sz := 1) (n := t10) Try.underlying41 sz3 rfl (by kernel_rfl) (by kernel_rfl) (by kernel_rfl) he14) 28 rfl ?_
       refine DE_0 3 (I e15) (by kernel_rfl) rfl rfl rfl (gsat_none rfl) (by kernel_rfl) (Y0_loado1 (c := c3) (xs := y8) (v := e15) (id := 144) (sz := 1) (T := 3) (off := 0) (n := t10) (d := Ti e15) (ds := []) sc3 rfl (by kernel_rfl) (by kernel_rfl) he15 (by kernel_rfl)) 29 rfl ?_
       refine DE_0 4 (.ow 160) (by kernel_rfl) rfl rfl rfl (gsat_none rfl) (by kernel_rfl) (E_move (.ow 160) rfl (by kernel_rfl)) 30 rfl ?_
       refine DE_0 5 (I t10) (by kernel_rfl) rfl rfl rfl (gsat_none rfl) (by kernel_rfl) (E_move (I t10) rfl (by kernel_rfl)) 31 rfl ?_
       refine DE_0 6 (.po 160 1 (Int.toNat (t10)) 0) (by kernel_rfl) rfl rfl rfl (gsat_none rfl) (by kernel_rfl) (Y0_idxoM (c := c3) (xs := y9) (v := e16) (id := 160) (T := 3) (sz := 1) (n := t10) Try.underlying41 sz3 rfl (by kernel_rfl) (by kernel_rfl) (by kernel_rfl) he16) 32 rfl ?_
       refine DE_0 7 (I e17) (by kernel_rfl) rfl rfl rfl (gsat_none rfl) (by kernel_rfl) (Y0_loado1 (c := c3) (xs := y9) (v := e17) (id := 160) (sz := 1) (T := 3) (off := 0) (n := t10) (d := Ti e17) (ds := []) sc3 rfl (by kernel_rfl) (by kernel_rfl) he17 (by kernel_rfl)) 33 rfl ?_
       refine DE_0 8 (Bo (!eqI e15 e17)) (by kernel_rfl) rfl rfl rfl (gsat_none rfl) (by kernel_rfl) (Y0_new (k := .i64) (a := e15) (b := e17) rfl (by kernel_rfl) (by kernel_rfl)) 34 rfl ?_
       refine DL_nil (by kernel_rfl) ?_
       refine XL_nil ?_
       kernel_rfl
      refine V_cond rfl (fun hc18 => ?_) (fun hc18 => ?_)
      ·have h := of_true h hc18
       refine V_sreg (mb 37 48) [] (s1 := ⟨bt 4 (I t10 :: Bo true :: bt 31 []), []⟩) ?_ ?_
       ·refine L0 rfl rfl (E_move (I t10) rfl (by kernel_rfl)) ?_
        refine L0 rfl rfl (E_assign (I t10) rfl (by kernel_rfl)) ?_
        refine L0 rfl rfl (E_assign (Bo true) rfl (by kernel_rfl)) ?_
        refine XL_nil ?_
        kernel_rfl
       refine V_ret ?_
       obtain rfl := some_inj h
       have h := hko12
       obtain rfl := some_inj h
       show Post _ _ _ _ _
       exact ⟨.inr rfl, rfl, rfl, rfl⟩
      ·have h := of_false h hc18
       refine V_skip ?_
       show V _ _ _ _
       obtain ⟨t19, ht19, h⟩ := of_sI h
       refine V_reg (mb 37 12583104) [160, 144] (s1 := ⟨bt 6 (.ow 144 :: .ow 160 :: bt 14 (I ((y8.length : Int)) :: I t19 :: bt 13 [])), [(160, .arr 3 1 (y9.map c3)), (144, .arr 3 1 (y8.map c3))]⟩) ?_ ?_
       ·refine L0 rfl rfl (Y0_add64 (a := t10) (b := 1) rfl (by kernel_rfl) (by kernel_rfl)) ?_
        refine L0 rfl rfl (E_move (I (w64 (t10 + 1))) rfl (by kernel_rfl)) ?_
        refine XL_nil ?_
        subst ht19
        kernel_rfl
       exact ⟨n, Nat.lt_succ_self n, _,  by rfl, h⟩
     ·have h := of_false h hc13
      refine V_exit ?_
      obtain rfl := some_inj h
      exact ⟨_, rfl, by rfl⟩
   rintro o12 rfl
   have h := hko12
   clear hko12
   show V _ _ _ _
   refine V_sreg (mb 37 48) [] (s1 := ⟨bt 4 (I 0 :: Bo false :: bt 31 []), []⟩) ?_ ?_
   ·refine L0 rfl rfl (E_assign (I 0) rfl (by kernel_rfl)) ?_
    refine L0 rfl rfl (E_assign (Bo false) rfl (by kernel_rfl)) ?_
    refine XL_nil ?_
    kernel_rfl
   refine V_ret ?_
   obtain rfl := some_inj h
   show Post _ _ _ _ _
   exact ⟨.inr rfl, rfl, rfl, rfl⟩
theorem cf_laws_numberOf : ∀ args w, (callFunc 15 args).run Try.prog w = .ok (.enter 15 args) w := run_callFunc Try.func15 (by kernel_rfl) (by kernel_rfl)
set_option maxRecDepth 100000 in
set_option maxHeartbeats 400000 in
theorem s_laws_numberOf {b1 : List Int} {r : Int} (h : r_laws_numberOf b1 = some r) : CallS Try.prog 15 [.c (.sl (b1.map c5))] (I r) [] := by
  refine CallS_of_text (rs := [.t 2]) (vs := [.tmp 2]) Try.func15 rfl rfl (.cons rfl FitsL.nil) (by decide) 20 rfl ?_
  unfold r_laws_numberOf at h
  show V _ _ ⟨.c (.sl (b1.map c5)) :: bt 19 [], []⟩ _
  refine V_sreg (mb 20 1) [] (s1 := ⟨.c (.sl (b1.map c5)) :: bt 19 [], []⟩) ?_ ?_
  ·refine L0 rfl rfl (E_assign (I 0) rfl (by kernel_rfl)) ?_
   refine XL_nil ?_
   kernel_rfl
  refine V_sreg (mb 20 9) [] (s1 := ⟨.c (.sl (b1.map c5)) :: .bot :: .bot :: I 0 :: bt 16 [], []⟩) ?_ ?_
  ·refine L0 rfl rfl (E_assign (I 0) rfl (by kernel_rfl)) ?_
   refine XL_nil ?_
   kernel_rfl
  refine V_seq ?_
  refine V_sreg (mb 20 456) [] (s1 := ⟨bt 3 (I 0 :: .bot :: .bot :: .c (.sl (b1.map c5)) :: I ((b1.length : Int)) :: I 0 :: bt 11 []), []⟩) ?_ ?_
  ·refine L0 rfl rfl (E_move (.c (.sl (b1.map c5))) rfl (by kernel_rfl)) ?_
   refine L0 rfl rfl (Y0_lenM (c := c5) (xs := b1) Try.underlying22 rfl (by kernel_rfl)) ?_
   refine L0 rfl rfl (E_move (I 0) rfl (by kernel_rfl)) ?_
   refine XL_nil ?_
   kernel_rfl
  obtain ⟨o5, hLo5, h⟩ := of_bind h
  refine V_toK (mb 20 8) [] (s1 := ⟨bt 3 (I o5 :: bt 16 []), []⟩) ?_ ?_
  ·clear h
   refine V_block (V_loop (fun n s => ∃ (vn2 : Int) (t3 : Int), s.keep (mb 20 456) [] = (⟨bt 3 (I vn2 :: .bot :: .bot :: .c (.sl (b1.map c5)) :: I ((b1.length : Int)) :: I t3 :: bt 11 []), []⟩ : St) ∧ r_laws_numberOf_L4 b1 n vn2 t3 = some o5) FU ⟨_, _,  by rfl, hLo5⟩ ?_)
   clear hLo5
   rintro n s ⟨vn2, t3, hs, h⟩
   refine V_keep _ _ hs ?_
   clear hs
   cases n with
   | zero => cases h
   | succ n =>
    rw [r_laws_numberOf_L4] at h
    refine V_sreg (mb 20 968) [] (s1 := ⟨bt 3 (I vn2 :: .bot :: .bot :: .c (.sl (b1.map c5)) :: I ((b1.length : Int)) :: I t3 :: Bo (ltI t3 ((b1.length : Int))) :: bt 10 []), []⟩) ?_ ?_
    ·refine L0 rfl rfl (Y0_ltw (k := .i64) (a := t3) (b := (b1.length : Int)) rfl (by kernel_rfl) (by kernel_rfl)) ?_
     refine XL_nil ?_
     kernel_rfl
    refine V_seq ?_
    refine V_cond rfl (fun hc6 => ?_) (fun hc6 => ?_)
    ·have h := of_true h hc6
     refine V_skip ?_
     show V _ _ _ _
     refine V_seq ?_
     refine V_block ?_
     obtain ⟨e7, he7, h⟩ := of_bind h
     refine V_sreg (mb 20 488) [] (s1 := ⟨bt 3 (I vn2 :: .bot :: .c (.v (.int .u8 e7)) :: .c (.sl (b1.map c5)) :: I ((b1.length : Int)) :: I t3 :: bt 11 []), []⟩) ?_ ?_
     ·refine L0 rfl rfl (Y0_idxM (c := c5) (xs := b1) (v := e7) (n := t3) Try.underlying22 sz5 rfl (by kernel_rfl) (by kernel_rfl) he7) ?_
      refine L0 rfl rfl (Y0_load1 (c := .v (.int .u8 e7)) (cs := []) sc5 rfl (by kernel_rfl)) ?_
      refine L0 rfl rfl (E_assign (.c (.v (.int .u8 e7))) rfl (by kernel_rfl)) ?_
      refine XL_nil ?_
      kernel_rfl
     obtain ⟨vn8, hvn8, h⟩ := of_sI h
     refine V_reg (mb 20 456) [] (s1 := ⟨bt 3 (I vn8 :: .bot :: .bot :: .c (.sl (b1.map c5)) :: I ((b1.length : Int)) :: I t3 :: bt 11 []), []⟩) ?_ ?_
     ·refine L0 rfl rfl (E_move (I vn2) rfl (by kernel_rfl)) ?_
      refine L0 rfl rfl (Y0_mul64 (a := 31) (b := vn2) rfl (by kernel_rfl) (by kernel_rfl)) ?_
      refine L0 rfl rfl (E_move (.c (.v (.int .u8 e7))) rfl (by kernel_rfl)) ?_
      refine L0 rfl rfl (Y0_conv (k2 := .u8) (a := e7) Try.underlying5 Try.underlying3 rfl (by kernel_rfl)) ?_
      refine L0 rfl rfl (Y0_add64 (a := w64 (31 * vn2)) (b := IntKind.i64.wrap e7) rfl (by kernel_rfl) (by kernel_rfl)) ?_
      refine L0 rfl rfl (Y0_rem (k := .i64) (a := w64 ((w64 (31 * vn2)) + (IntKind.i64.wrap e7))) (b := 1000003) rfl (by kernel_rfl) (by kernel_rfl) (by decide)) ?_
      refine L0 rfl rfl (E_assign (I (Int.tmod (w64 ((w64 (31 * vn2)) + (IntKind.i64.wrap e7))) 1000003)) rfl (by kernel_rfl)) ?_
      refine XL_nil ?_
      subst hvn8
      kernel_rfl
     show V _ _ _ _
     obtain ⟨t9, ht9, h⟩ := of_sI h
     refine V_reg (mb 20 456) [] (s1 := ⟨bt 3 (I vn8 :: .bot :: .bot :: .c (.sl (b1.map c5)) :: I ((b1.length : Int)) :: I t9 :: bt 11 []), []⟩) ?_ ?_
     ·refine L0 rfl rfl (Y0_add64 (a := t3) (b := 1) rfl (by kernel_rfl) (by kernel_rfl)) ?_
      refine L0 rfl rfl (E_move (I (w64 (t3 + 1))) rfl (by kernel_rfl)) ?_
      refine XL_nil ?_
      subst ht9
      kernel_rfl
     exact ⟨n, Nat.lt_succ_self n, _, _,  by rfl, h⟩
    ·have h := of_false h hc6
     refine V_exit ?_
     obtain rfl := some_inj h
     show St.keep _ _ _ = _
     rfl
  show V _ _ _ _
  refine V_sreg (mb 20 4) [] (s1 := ⟨.bot :: .bot :: I o5 :: bt 17 [], []⟩) ?_ ?_
  ·refine L0 rfl rfl (E_move (I o5) rfl (by kernel_rfl)) ?_
   refine L0 rfl rfl (E_assign (I o5) rfl (by kernel_rfl)) ?_
   refine XL_nil ?_
   kernel_rfl
  refine V_ret ?_
  obtain rfl := some_inj h
  show Post _ _ _ _ _
  exact ⟨.inr rfl, rfl, rfl, rfl⟩
theorem cf_impl_isSum : ∀ args w, (callFunc 155 args).run Try.prog w = .ok (.enter 155 args) w := run_callFunc Try.func155 (by kernel_rfl) (by kernel_rfl)
set_option maxRecDepth 100000 in
set_option maxHeartbeats 400000 in
theorem s_impl_isSum {vn1 : Int} {r : Bool} (h : r_impl_isSum vn1 = some r) : CallS Try.prog 155 [I vn1] (Bo r) [] := by
  refine CallS_of_text (rs := [.t 2]) (vs := [.tmp 2]) Try.func155 rfl rfl (.cons rfl FitsL.nil) (by decide) 9 rfl ?_
  unfold r_impl_isSum at h
  show V _ _ ⟨I vn1 :: bt 8 [], []⟩ _
  refine V_sreg (mb 9 1) [] (s1 := ⟨I vn1 :: bt 8 [], []⟩) ?_ ?_
  ·refine L0 rfl rfl (E_assign (Bo false) rfl (by kernel_rfl)) ?_
   refine XL_nil ?_
   kernel_rfl
  refine V_sreg (mb 9 4) [] (s1 := ⟨.bot :: .bot :: Bo (bif (leI 0 vn1) then (leI vn1 10000) else false) :: bt 6 [], []⟩) ?_ ?_
  ·refine L0 rfl rfl (E_move (I vn1) rfl (by kernel_rfl)) ?_
   refine L0 rfl rfl (Y0_gew (k := .i64) (a := vn1) (b := 0) rfl (by kernel_rfl) (by kernel_rfl)) ?_
   refine L0 rfl rfl (E_move (Bo (leI 0 vn1)) rfl (by kernel_rfl)) ?_
   refine XL_split (leI 0 vn1) (fun hc2 => ?_) (fun hc2 => ?_)
   ·refine XL_takeC _ rfl rfl (by kernel_rfl) hc2 (X_of_Y0 rfl (E_move (I vn1) rfl (by kernel_rfl))) ?_
    refine XL_takeC _ rfl rfl (by kernel_rfl) hc2 (X_of_Y0 rfl (Y0_lew (k := .i64) (a := vn1) (b := 10000) rfl (by kernel_rfl) (by kernel_rfl))) ?_
    refine XL_cons rfl (X_of_Y0 rfl (Y0_pick1 (b := leI 0 vn1) (p := leI vn1 10000) (q := false) rfl (by kernel_rfl) hc2 (by kernel_rfl))) ?_
    refine L0 rfl rfl (E_assign (Bo (bif (leI 0 vn1) then (leI vn1 10000) else false)) rfl (by kernel_rfl)) ?_
    refine XL_nil ?_
    kernel_rfl
   ·refine XL_skipT _ rfl rfl (by kernel_rfl) hc2 rfl ?_
    refine XL_skipT _ rfl rfl (by kernel_rfl) hc2 rfl ?_
    refine XL_cons rfl (X_of_Y0 rfl (Y0_pick0 (b := leI 0 vn1) (p := leI vn1 10000) (q := false) rfl (by kernel_rfl) hc2 (by kernel_rfl))) ?_
    refine L0 rfl rfl (E_assign (Bo (bif (leI 0 vn1) then (leI vn1 10000) else false)) rfl (by kernel_rfl)) ?_
    refine XL_nil ?_
    kernel_rfl
  refine V_ret ?_
  obtain rfl := some_inj h
  show Post _ _ _ _ _
  exact ⟨.inr rfl, rfl, rfl, rfl⟩
theorem cf_impl_squareCounts : ∀ args w, (callFunc 156 args).run Try.prog w = .ok (.enter 156 args) w := run_callFunc Try.func156 (by kernel_rfl) (by kernel_rfl)
set_option maxRecDepth 100000 in
set_option maxHeartbeats 400000 in
theorem s_impl_squareCounts {k1 : Int} {most2 : Int} {r : List Int} (h : r_impl_squareCounts k1 most2 = some r) : CallS Try.prog 156 [I k1, I most2] (.c (.sl (r.map c3))) [] := by
  refine CallS_of_text (rs := [.t 4]) (vs := [.tmp 4]) Try.func156 rfl rfl (.cons rfl FitsL.nil) (by decide) 56 rfl ?_
  unfold r_impl_squareCounts at h
  show V _ _ ⟨I k1 :: I most2 :: bt 54 [], []⟩ _
  refine V_sreg (mb 56 3) [] (s1 := ⟨I k1 :: I most2 :: bt 54 [], []⟩) ?_ ?_
  ·refine L1 rfl rfl (Y1_nil (e := 3) 1 (by decide) (.inl rfl)) ?_
   refine XL_nil ?_
   kernel_rfl
  obtain ⟨u3, hu3, h⟩ := of_bind h
  refine V_sreg (mb 56 35) [96] (s1 := ⟨I k1 :: I most2 :: bt 3 (.ow 96 :: bt 50 []), [(96, .arr 3 1 ((List.replicate (Int.toNat (w64 (most2 + 1))) ((0 : Int))).map c3))]⟩) ?_ ?_
  ·refine L0 rfl rfl (E_move (I most2) rfl (by kernel_rfl)) ?_
   refine L0 rfl rfl (Y0_add64 (a := most2) (b := 1) rfl (by kernel_rfl) (by kernel_rfl)) ?_
   refine L1 rfl rfl (Y1_make (c := c3) (zx := (0 : Int)) (z := zv3) (l := w64 (most2 + 1)) (k := w64 (most2 + 1)) Try.underlying41 izb3 rfl rfl (by decide) rfl rfl (by kernel_rfl) (by kernel_rfl) (mk_some hu3) (by decide)) ?_
   refine L0 rfl rfl (E_assign (.ow 96) rfl (by kernel_rfl)) ?_
   refine XL_nil ?_
   kernel_rfl
  obtain ⟨e4, he4, h⟩ := of_bind h
  obtain ⟨e5, he5, h⟩ := of_bind h
  obtain ⟨l6, hl6, h⟩ := of_bind h
  have hl6 := some_inj hl6
  refine V_sreg (mb 56 35) [96] (s1 := ⟨I k1 :: I most2 :: bt 3 (.ow 96 :: bt 50 []), [(96, .arr 3 1 (l6.map c3))]⟩) ?_ ?_
  ·refine L0 rfl rfl (E_move (.ow 96) rfl (by kernel_rfl)) ?_
   refine L0 rfl rfl (Y0_idxoM (c := c3) (xs := List.replicate (Int.toNat (w64 (most2 + 1))) ((0 : Int))) (v := e4) (id := 96) (T := 3) (sz := 1) (n := 0) Try.underlying41 sz3 rfl (by kernel_rfl) (by kernel_rfl) (by kernel_rfl) he4) ?_
   refine XL_cons rfl (X_storeoM (c := c3) (xs := List.replicate (Int.toNat (w64 (most2 + 1))) ((0 : Int))) (v := e5) (u := 1) (id := 96) (sz := 1) (off := 0) (T0 := 3) (n := 0) (vc := [Ti 1]) rfl rfl (by kernel_rfl) (by kernel_rfl) he5 (by kernel_rfl) sz3 (Nat.le_of_ble_eq_true rfl) (by kernel_rfl)) ?_
   refine XL_nil ?_
   subst hl6
   kernel_rfl
  refine V_seq ?_
  refine V_freeze 96 (T := 3) (sz := 1) (els := l6.map c3) (s1 := ⟨I k1 :: I most2 :: bt 3 (.c (.sl (l6.map c3)) :: bt 50 []), []⟩) (by kernel_rfl) (by kernel_rfl) ?_
  obtain ⟨o10, hLo10, h⟩ := of_bind h
  refine V_toK (mb 56 32) [] (s1 := ⟨bt 5 (.c (.sl (o10.map c3)) :: bt 50 []), []⟩) ?_ ?_
  ·clear h
   refine V_block (V_loop (fun n s => ∃ (k7 : Int) (counts8 : List Int), s.keep (mb 56 35) [] = (⟨I k7 :: I most2 :: bt 3 (.c (.sl (counts8.map c3)) :: bt 50 []), []⟩ : St) ∧ r_impl_squareCounts_L9 most2 n k7 counts8 = some o10) FU ⟨_, _,  by rfl, hLo10⟩ ?_)
   clear hLo10
   rintro n s ⟨k7, counts8, hs, h⟩
   refine V_keep _ _ hs ?_
   clear hs
   cases n with
   | zero => cases h
   | succ n =>
    rw [r_impl_squareCounts_L9] at h
    refine V_seq ?_
    refine V_sreg (mb 56 65571) [] (s1 := ⟨I k7 :: I most2 :: bt 3 (.c (.sl (counts8.map c3)) :: bt 10 (Bo (ltI 0 k7) :: bt 39 [])), []⟩) ?_ ?_
    ·refine L0 rfl rfl (E_move (I k7) rfl (by kernel_rfl)) ?_
     refine L0 rfl rfl (Y0_gtw (k := .i64) (a := k7) (b := 0) rfl (by kernel_rfl) (by kernel_rfl)) ?_
     refine XL_nil ?_
     kernel_rfl
    refine V_cond rfl (fun hc11 => ?_) (fun hc11 => ?_)
    ·have h := of_true h hc11
     refine V_skip ?_
     show V _ _ _ _
     refine V_seq ?_
     refine V_block ?_
     obtain ⟨u12, hu12, h⟩ := of_bind h
     refine V_sreg (mb 56 99) [168] (s1 := ⟨I k7 :: I most2 :: bt 3 (.c (.sl (counts8.map c3)) :: .ow 168 :: bt 49 []), [(168, .arr 3 1 ((List.replicate (Int.toNat (w64 (most2 + 1))) ((0 : Int))).map c3))]⟩) ?_ ?_
     ·refine L0 rfl rfl (E_move (I most2) rfl (by kernel_rfl)) ?_
      refine L0 rfl rfl (Y0_add64 (a := most2) (b := 1) rfl (by kernel_rfl) (by kernel_rfl)) ?_
      refine L1 rfl rfl (Y1_make (c := c3) (zx := (0 : Int)) (z := zv3) (l := w64 (most2 + 1)) (k := w64 (most2 + 1)) Try.underlying41 izb3 rfl rfl (by decide) rfl rfl (by kernel_rfl) (by kernel_rfl) (mk_some hu12) (by decide)) ?_
      refine L0 rfl rfl (E_assign (.ow 168) rfl (by kernel_rfl)) ?_
      refine XL_nil ?_
      kernel_rfl
     refine V_seq ?_
     refine V_sreg (mb 56 29360195) [168] (s1 := ⟨I k7 :: I most2 :: bt 4 (.ow 168 :: bt 15 (.c (.sl (counts8.map c3)) :: I ((counts8.length : Int)) :: I 0 :: bt 31 [])), [(168, .arr 3 1 ((List.replicate (Int.toNat (w64 (most2 + 1))) ((0 : Int))).map c3))]⟩) ?_ ?_
     ·refine L0 rfl rfl (E_move (.c (.sl (counts8.map c3))) rfl (by kernel_rfl)) ?_
      refine L0 rfl rfl (Y0_lenM (c := c3) (xs := counts8) Try.underlying41 rfl (by kernel_rfl)) ?_
      refine L0 rfl rfl (E_move (I 0) rfl (by kernel_rfl)) ?_
      refine XL_nil ?_
      kernel_rfl
     obtain ⟨o16, hLo16, h⟩ := of_bind h
     refine V_toK (mb 56 67) [168] (s1 := ⟨I k7 :: I most2 :: bt 4 (.ow 168 :: bt 49 []), [(168, .arr 3 1 (o16.map c3))]⟩) ?_ ?_
     ·clear h
      refine V_block (V_loop (fun n s => ∃ (t13 : Int) (l14 : List Int), s.keep (mb 56 29360195) [168] = (⟨I k7 :: I most2 :: bt 4 (.ow 168 :: bt 15 (.c (.sl (counts8.map c3)) :: I ((counts8.length : Int)) :: I t13 :: bt 31 [])), [(168, .arr 3 1 (l14.map c3))]⟩ : St) ∧ r_impl_squareCounts_L15 counts8 k7 most2 n t13 l14 = some o16) FU ⟨_, _,  by rfl, hLo16⟩ ?_)
      clear hLo16
      rintro n s ⟨t13, l14, hs, h⟩
      refine V_keep _ _ hs ?_
      clear hs
      cases n with
      | zero => cases h
      | succ n =>
       rw [r_impl_squareCounts_L15] at h
       refine V_sreg (mb 56 62914627) [168] (s1 := ⟨I k7 :: I most2 :: bt 4 (.ow 168 :: bt 15 (.c (.sl (counts8.map c3)) :: I ((counts8.length : Int)) :: I t13 :: Bo (ltI t13 ((counts8.length : Int))) :: bt 30 [])), [(168, .arr 3 1 (l14.map c3))]⟩) ?_ ?_
       ·refine L0 rfl rfl (Y0_ltw (k := .i64) (a := t13) (b := (counts8.length : Int)) rfl (by kernel_rfl) (by kernel_rfl)) ?_
        refine XL_nil ?_
        kernel_rfl
       refine V_seq ?_
       refine V_cond rfl (fun hc17 => ?_) (fun hc17 => ?_)
       ·have h := of_true h hc17
        refine V_skip ?_
        show V _ _ _ _
        refine V_seq ?_
        refine V_block ?_
        obtain ⟨e18, he18, h⟩ := of_bind h
        refine V_sreg (mb 56 29360579) [168] (s1 := ⟨I k7 :: I most2 :: bt 4 (.ow 168 :: I t13 :: I e18 :: bt 13 (.c (.sl (counts8.map c3)) :: I ((counts8.length : Int)) :: I t13 :: bt 31 [])), [(168, .arr 3 1 (l14.map c3))]⟩) ?_ ?_
        ·refine L0 rfl rfl (E_move (I t13) rfl (by kernel_rfl)) ?_
         refine L0 rfl rfl (Y0_idxM (c := c3) (xs := counts8) (v := e18) (n := t13) Try.underlying41 sz3 rfl (by kernel_rfl) (by kernel_rfl) he18) ?_
         refine L0 rfl rfl (Y0_load1 (c := Ti e18) (cs := []) sc3 rfl (by kernel_rfl)) ?_
         refine L0 rfl rfl (E_assign (I t13) rfl (by kernel_rfl)) ?_
         refine L0 rfl rfl (E_assign (I e18) rfl (by kernel_rfl)) ?_
         refine XL_nil ?_
         kernel_rfl
        refine V_sreg (mb 56 29361091) [168] (s1 := ⟨I k7 :: I most2 :: bt 4 (.ow 168 :: I t13 :: I e18 :: I 0 :: bt 12 (.c (.sl (counts8.map c3)) :: I ((counts8.length : Int)) :: I t13 :: bt 31 [])), [(168, .arr 3 1 (l14.map c3))]⟩) ?_ ?_
        ·refine L0 rfl rfl (E_assign (I 0) rfl (by kernel_rfl)) ?_
         refine XL_nil ?_
         kernel_rfl
        obtain ⟨o22, hLo22, h⟩ := of_bind h
        refine V_toK (mb 56 29360195) [168] (s1 := ⟨I k7 :: I most2 :: bt 4 (.ow 168 :: bt 15 (.c (.sl (counts8.map c3)) :: I ((counts8.length : Int)) :: I t13 :: bt 31 [])), [(168, .arr 3 1 (o22.map c3))]⟩) ?_ ?_
        ·clear h
         refine V_block (V_loop (fun n s => ∃ (x19 : Int) (l20 : List Int), s.keep (mb 56 29361091) [168] = (⟨I k7 :: I most2 :: bt 4 (.ow 168 :: I t13 :: I e18 :: I x19 :: bt 12 (.c (.sl (counts8.map c3)) :: I ((counts8.length : Int)) :: I t13 :: bt 31 [])), [(168, .arr 3 1 (l20.map c3))]⟩ : St) ∧ r_impl_squareCounts_L21 counts8 e18 k7 most2 t13 n x19 l20 = some o22) FU ⟨_, _,  by rfl, hLo22⟩ ?_)
         clear hLo22
         rintro n s ⟨x19, l20, hs, h⟩
         refine V_keep _ _ hs ?_
         clear hs
         cases n with
         | zero => cases h
         | succ n =>
          rw [r_impl_squareCounts_L21] at h
          refine V_seq ?_
          refine V_sreg (mb 56 34389099459) [168] (s1 := ⟨I k7 :: I most2 :: bt 4 (.ow 168 :: I t13 :: I e18 :: I x19 :: bt 12 (.c (.sl (counts8.map c3)) :: I ((counts8.length : Int)) :: I t13 :: bt 10 (Bo (leI (w64 (t13 + (w64 (x19 * x19)))) most2) :: bt 20 []))), [(168, .arr 3 1 (l20.map c3))]⟩) ?_ ?_
          ·refine L0 rfl rfl (E_move (I t13) rfl (by kernel_rfl)) ?_
           refine L0 rfl rfl (E_move (I x19) rfl (by kernel_rfl)) ?_
           refine L0 rfl rfl (E_move (I x19) rfl (by kernel_rfl)) ?_
           refine L0 rfl rfl (Y0_mul64 (a := x19) (b := x19) rfl (by kernel_rfl) (by kernel_rfl)) ?_
           refine L0 rfl rfl (Y0_add64 (a := t13) (b := w64 (x19 * x19)) rfl (by kernel_rfl) (by kernel_rfl)) ?_
           refine L0 rfl rfl (E_move (I most2) rfl (by kernel_rfl)) ?_
           refine L0 rfl rfl (Y0_lew (k := .i64) (a := w64 (t13 + (w64 (x19 * x19)))) (b := most2) rfl (by kernel_rfl) (by kernel_rfl)) ?_
           refine XL_nil ?_
           kernel_rfl
          refine V_cond rfl (fun hc23 => ?_) (fun hc23 => ?_)
          ·have h := of_true h hc23
           refine V_skip ?_
           show V _ _ _ _
           refine V_seq ?_
           refine V_block ?_
           obtain ⟨e24, he24, h⟩ := of_bind h
           obtain ⟨e25, he25, h⟩ := of_bind h
           obtain ⟨e26, he26, h⟩ := of_bind h
           obtain ⟨e27, he27, h⟩ := of_bind h
           obtain ⟨l28, hl28, h⟩ := of_bind h
           have hl28 := some_inj hl28
           refine V_reg (mb 56 29361091) [168] (s1 := ⟨I k7 :: I most2 :: bt 4 (.ow 168 :: I t13 :: I e18 :: I x19 :: bt 12 (.c (.sl (counts8.map c3)) :: I ((counts8.length : Int)) :: I t13 :: bt 31 [])), [(168, .arr 3 1 (l28.map c3))]⟩) ?_ ?_
           ·refine L0 rfl rfl (E_move (.ow 168) rfl (by kernel_rfl)) ?_
            refine L0 rfl rfl (E_move (I t13) rfl (by kernel_rfl)) ?_
            refine L0 rfl rfl (E_move (I x19) rfl (by kernel_rfl)) ?_
            refine L0 rfl rfl (E_move (I x19) rfl (by kernel_rfl)) ?_
            refine L0 rfl rfl (Y0_mul64 (a := x19) (b := x19) rfl (by kernel_rfl) (by kernel_rfl)) ?_
            refine L0 rfl rfl (Y0_add64 (a := t13) (b := w64 (x19 * x19)) rfl (by kernel_rfl) (by kernel_rfl)) ?_
            refine L0 rfl rfl (Y0_idxoM (c := c3) (xs := l20) (v := e24) (id := 168) (T := 3) (sz := 1) (n := w64 (t13 + (w64 (x19 * x19)))) Try.underlying41 sz3 rfl (by kernel_rfl) (by kernel_rfl) (by kernel_rfl) he24) ?_
            refine L0 rfl rfl (Y0_loado1 (c := c3) (xs := l20) (v := e25) (id := 168) (sz := 1) (T := 3) (off := 0) (n := w64 (t13 + (w64 (x19 * x19)))) (d := Ti e25) (ds := []) sc3 rfl (by kernel_rfl) (by kernel_rfl) he25 (by kernel_rfl)) ?_
            refine L0 rfl rfl (E_move (I e18) rfl (by kernel_rfl)) ?_
            refine L0 rfl rfl (E_move (I x19) rfl (by kernel_rfl)) ?_
            refine L0 rfl rfl (Y0_add64 (a := x19) (b := 1) rfl (by kernel_rfl) (by kernel_rfl)) ?_
            refine L0 rfl rfl (Y0_min (a := w64 (x19 + 1)) (b := 2) rfl (by kernel_rfl) (by kernel_rfl)) ?_
            refine L0 rfl rfl (Y0_mul64 (a := e18) (b := mnI (w64 (x19 + 1)) 2) rfl (by kernel_rfl) (by kernel_rfl)) ?_
            refine L0 rfl rfl (Y0_add64 (a := e25) (b := w64 (e18 * (mnI (w64 (x19 + 1)) 2))) rfl (by kernel_rfl) (by kernel_rfl)) ?_
            refine L0 rfl rfl (Y0_idxoM (c := c3) (xs := l20) (v := e26) (id := 168) (T := 3) (sz := 1) (n := w64 (t13 + (w64 (x19 * x19)))) Try.underlying41 sz3 rfl (by kernel_rfl) (by kernel_rfl) (by kernel_rfl) he26) ?_
            refine XL_cons rfl (X_storeoM (c := c3) (xs := l20) (v := e27) (u := w64 (e25 + (w64 (e18 * (mnI (w64 (x19 + 1)) 2))))) (id := 168) (sz := 1) (off := 0) (T0 := 3) (n := w64 (t13 + (w64 (x19 * x19)))) (vc := [Ti (w64 (e25 + (w64 (e18 * (mnI (w64 (x19 + 1)) 2)))))]) rfl rfl (by kernel_rfl) (by kernel_rfl) he27 (by kernel_rfl) sz3 (Nat.le_of_ble_eq_true rfl) (by kernel_rfl)) ?_
            refine XL_nil ?_
            subst hl28
            kernel_rfl
           show V _ _ _ _
           obtain ⟨x29, hx29, h⟩ := of_sI h
           refine V_reg (mb 56 29361091) [168] (s1 := ⟨I k7 :: I most2 :: bt 4 (.ow 168 :: I t13 :: I e18 :: I x29 :: bt 12 (.c (.sl (counts8.map c3)) :: I ((counts8.length : Int)) :: I t13 :: bt 31 [])), [(168, .arr 3 1 (l28.map c3))]⟩) ?_ ?_
           ·refine L0 rfl rfl (E_move (I x19) rfl (by kernel_rfl)) ?_
            refine L0 rfl rfl (Y0_add64 (a := x19) (b := 1) rfl (by kernel_rfl) (by kernel_rfl)) ?_
            refine L0 rfl rfl (E_assign (I (w64 (x19 + 1))) rfl (by kernel_rfl)) ?_
            refine XL_nil ?_
            subst hx29
            kernel_rfl
           exact ⟨n, Nat.lt_succ_self n, _, _,  by rfl, h⟩
          ·have h := of_false h hc23
           refine V_exit ?_
           obtain rfl := some_inj h
           show St.keep _ _ _ = _
           rfl
        show V _ _ _ _
        obtain ⟨t30, ht30, h⟩ := of_sI h
        refine V_reg (mb 56 29360195) [168] (s1 := ⟨I k7 :: I most2 :: bt 4 (.ow 168 :: bt 15 (.c (.sl (counts8.map c3)) :: I ((counts8.length : Int)) :: I t30 :: bt 31 [])), [(168, .arr 3 1 (o22.map c3))]⟩) ?_ ?_
        ·refine L0 rfl rfl (Y0_add64 (a := t13) (b := 1) rfl (by kernel_rfl) (by kernel_rfl)) ?_
         refine L0 rfl rfl (E_move (I (w64 (t13 + 1))) rfl (by kernel_rfl)) ?_
         refine XL_nil ?_
         subst ht30
         kernel_rfl
        exact ⟨n, Nat.lt_succ_self n, _, _,  by rfl, h⟩
       ·have h := of_false h hc17
        refine V_exit ?_
        obtain rfl := some_inj h
        show St.keep _ _ _ = _
        rfl
     show V _ _ _ _
     refine V_freeze 168 (T := 3) (sz := 1) (els := o16.map c3) (s1 := ⟨I k7 :: I most2 :: bt 4 (.c (.sl (o16.map c3)) :: bt 49 []), []⟩) (by kernel_rfl) (by kernel_rfl) ?_
     refine V_reg (mb 56 35) [] (s1 := ⟨I k7 :: I most2 :: bt 3 (.c (.sl (o16.map c3)) :: bt 50 []), []⟩) ?_ ?_
     ·refine L0 rfl rfl (E_move (.c (.sl (o16.map c3))) rfl (by kernel_rfl)) ?_
      refine L0 rfl rfl (E_assign (.c (.sl (o16.map c3))) rfl (by kernel_rfl)) ?_
      refine XL_nil ?_
      kernel_rfl
     show V _ _ _ _
     obtain ⟨k31, hk31, h⟩ := of_sI h
     refine V_reg (mb 56 35) [] (s1 := ⟨I k31 :: I most2 :: bt 3 (.c (.sl (o16.map c3)) :: bt 50 []), []⟩) ?_ ?_
     ·refine L0 rfl rfl (E_move (I k7) rfl (by kernel_rfl)) ?_
      refine L0 rfl rfl (Y0_sub64 (a := k7) (b := 1) rfl (by kernel_rfl) (by kernel_rfl)) ?_
      refine L0 rfl rfl (E_assign (I (w64 (k7 - 1))) rfl (by kernel_rfl)) ?_
      refine XL_nil ?_
      subst hk31
      kernel_rfl
     exact ⟨n, Nat.lt_succ_self n, _, _,  by rfl, h⟩
    ·have h := of_false h hc11
     refine V_exit ?_
     obtain rfl := some_inj h
     show St.keep _ _ _ = _
     rfl
  show V _ _ _ _
  refine V_sreg (mb 56 16) [] (s1 := ⟨bt 4 (.c (.sl (o10.map c3)) :: bt 51 []), []⟩) ?_ ?_
  ·refine L0 rfl rfl (E_move (.c (.sl (o10.map c3))) rfl (by kernel_rfl)) ?_
   refine L0 rfl rfl (E_assign (.c (.sl (o10.map c3))) rfl (by kernel_rfl)) ?_
   refine XL_nil ?_
   kernel_rfl
  refine V_ret ?_
  obtain rfl := some_inj h
  show Post _ _ _ _ _
  exact ⟨.inr rfl, rfl, rfl, rfl⟩
theorem cf_impl_countSquares : ∀ args w, (callFunc 96 args).run Try.prog w = .ok (.enter 96 args) w := run_callFunc Try.func96 (by kernel_rfl) (by kernel_rfl)
set_option maxRecDepth 100000 in
set_option maxHeartbeats 400000 in
theorem s_impl_countSquares {k1 : Int} {vn2 : Int} {r : (Int × Bool)} (h : r_impl_countSquares k1 vn2 = some r) : CallS Try.prog 96 [I k1, I vn2] (.tc (I r.1) (.tc (Bo r.2) .tn)) [] := by
  refine CallS_of_text (rs := [.t 4, .t 5]) (vs := [.tmp 4, .tmp 5]) Try.func96 rfl rfl (.cons rfl (.cons rfl FitsL.nil)) (by decide) 15 rfl ?_
  unfold r_impl_countSquares at h
  show V _ _ ⟨I k1 :: I vn2 :: bt 13 [], []⟩ _
  refine V_sreg (mb 15 3) [] (s1 := ⟨I k1 :: I vn2 :: bt 13 [], []⟩) ?_ ?_
  ·refine L0 rfl rfl (E_assign (I 0) rfl (by kernel_rfl)) ?_
   refine L0 rfl rfl (E_assign (Bo false) rfl (by kernel_rfl)) ?_
   refine XL_nil ?_
   kernel_rfl
  refine V_seq ?_
  obtain ⟨y3, hy3, h⟩ := of_bind h
  refine V_sreg (mb 15 259) [] (s1 := ⟨I k1 :: I vn2 :: bt 6 (Bo (!y3) :: bt 6 []), []⟩) ?_ ?_
  ·refine L0 rfl rfl (E_move (I vn2) rfl (by kernel_rfl)) ?_
   refine L1 rfl rfl (Y1_call (s_impl_isSum hy3) cf_impl_isSum rfl (by kernel_rfl)) ?_
   refine L0 rfl rfl (Y0_not (b := y3) rfl (by kernel_rfl)) ?_
   refine XL_nil ?_
   kernel_rfl
  refine V_cond rfl (fun hc4 => ?_) (fun hc4 => ?_)
  ·have h := of_true h hc4
   refine V_sreg (mb 15 48) [] (s1 := ⟨bt 4 (I 0 :: Bo false :: bt 9 []), []⟩) ?_ ?_
   ·refine L0 rfl rfl (E_assign (I 0) rfl (by kernel_rfl)) ?_
    refine L0 rfl rfl (E_assign (Bo false) rfl (by kernel_rfl)) ?_
    refine XL_nil ?_
    kernel_rfl
   refine V_ret ?_
   obtain rfl := some_inj h
   show Post _ _ _ _ _
   exact ⟨.inr rfl, rfl, rfl, rfl⟩
  ·have h := of_false h hc4
   refine V_skip ?_
   show V _ _ _ _
   obtain ⟨y5, hy5, h⟩ := of_bind h
   obtain ⟨e6, he6, h⟩ := of_bind h
   refine V_sreg (mb 15 48) [] (s1 := ⟨bt 4 (I e6 :: Bo true :: bt 9 []), []⟩) ?_ ?_
   ·refine L0 rfl rfl (E_move (I k1) rfl (by kernel_rfl)) ?_
    refine L0 rfl rfl (E_move (I vn2) rfl (by kernel_rfl)) ?_
    refine L1 rfl rfl (Y1_call (s_impl_squareCounts hy5) cf_impl_squareCounts rfl (by kernel_rfl)) ?_
    refine L0 rfl rfl (E_move (I vn2) rfl (by kernel_rfl)) ?_
    refine L0 rfl rfl (Y0_idxM (c := c3) (xs := y5) (v := e6) (n := vn2) Try.underlying41 sz3 rfl (by kernel_rfl) (by kernel_rfl) he6) ?_
    refine L0 rfl rfl (Y0_load1 (c := Ti e6) (cs := []) sc3 rfl (by kernel_rfl)) ?_
    refine L0 rfl rfl (E_assign (I e6) rfl (by kernel_rfl)) ?_
    refine L0 rfl rfl (E_assign (Bo true) rfl (by kernel_rfl)) ?_
    refine XL_nil ?_
    kernel_rfl
   refine V_ret ?_
   obtain rfl := some_inj h
   show Post _ _ _ _ _
   exact ⟨.inr rfl, rfl, rfl, rfl⟩
theorem cf_impl_CountFour : ∀ args w, (callFunc 37 args).run Try.prog w = .ok (.enter 37 args) w := run_callFunc Try.func37 (by kernel_rfl) (by kernel_rfl)
set_option maxRecDepth 100000 in
set_option maxHeartbeats 400000 in
theorem s_impl_CountFour {vn1 : Int} {r : (Int × Bool)} (h : r_impl_CountFour vn1 = some r) : CallS Try.prog 37 [I vn1] (.tc (I r.1) (.tc (Bo r.2) .tn)) [] := by
  refine CallS_of_text (rs := [.t 2, .t 3]) (vs := [.tmp 2, .tmp 3]) Try.func37 rfl rfl (.cons rfl (.cons rfl FitsL.nil)) (by decide) 8 rfl ?_
  unfold r_impl_CountFour at h
  show V _ _ ⟨I vn1 :: bt 7 [], []⟩ _
  refine V_sreg (mb 8 1) [] (s1 := ⟨I vn1 :: bt 7 [], []⟩) ?_ ?_
  ·refine L0 rfl rfl (E_assign (I 0) rfl (by kernel_rfl)) ?_
   refine L0 rfl rfl (E_assign (Bo false) rfl (by kernel_rfl)) ?_
   refine XL_nil ?_
   kernel_rfl
  obtain ⟨y2, hy2, h⟩ := of_bind h
  refine V_sreg (mb 8 12) [] (s1 := ⟨.bot :: .bot :: I y2.1 :: Bo y2.2 :: bt 4 [], []⟩) ?_ ?_
  ·refine L0 rfl rfl (E_move (I vn1) rfl (by kernel_rfl)) ?_
   refine L1 rfl rfl (Y1_call (s_impl_countSquares hy2) cf_impl_countSquares rfl (by kernel_rfl)) ?_
   refine L0 rfl rfl (E_ext (n := 0) (I y2.1) (.tc (Bo y2.2) .tn) (I y2.1) rfl (by kernel_rfl) (by kernel_rfl) (by intro hh; cases hh)) ?_
   refine L0 rfl rfl (E_ext (n := 1) (I y2.1) (.tc (Bo y2.2) .tn) (Bo y2.2) rfl (by kernel_rfl) (by kernel_rfl) (by intro hh; cases hh)) ?_
   refine L0 rfl rfl (E_assign (I y2.1) rfl (by kernel_rfl)) ?_
   refine L0 rfl rfl (E_assign (Bo y2.2) rfl (by kernel_rfl)) ?_
   refine XL_nil ?_
   kernel_rfl
  refine V_ret ?_
  obtain rfl := some_inj h
  show Post _ _ _ _ _
  exact ⟨.inr rfl, rfl, rfl, rfl⟩
theorem cf_spec_sqGood : ∀ args w, (callFunc 97 args).run Try.prog w = .ok (.enter 97 args) w := run_callFunc Try.func97 (by kernel_rfl) (by kernel_rfl)
set_option maxRecDepth 100000 in
set_option maxHeartbeats 400000 in
theorem s_spec_sqGood {vn1 : Int} {r : Bool} (h : r_spec_sqGood vn1 = some r) : CallS Try.prog 97 [I vn1] (Bo r) [] := by
  refine CallS_of_text (rs := [.t 2]) (vs := [.tmp 2]) Try.func97 rfl rfl (.cons rfl FitsL.nil) (by decide) 5 rfl ?_
  unfold r_spec_sqGood at h
  show V _ _ ⟨I vn1 :: bt 4 [], []⟩ _
  refine V_sreg (mb 5 1) [] (s1 := ⟨I vn1 :: bt 4 [], []⟩) ?_ ?_
  ·refine L0 rfl rfl (E_assign (Bo false) rfl (by kernel_rfl)) ?_
   refine XL_nil ?_
   kernel_rfl
  obtain ⟨y2, hy2, h⟩ := of_bind h
  refine V_sreg (mb 5 4) [] (s1 := ⟨.bot :: .bot :: Bo y2 :: .bot :: .bot :: [], []⟩) ?_ ?_
  ·refine L0 rfl rfl (E_move (I vn1) rfl (by kernel_rfl)) ?_
   refine L1 rfl rfl (Y1_call (s_spec_l1In hy2) cf_spec_l1In rfl (by kernel_rfl)) ?_
   refine L0 rfl rfl (E_assign (Bo y2) rfl (by kernel_rfl)) ?_
   refine XL_nil ?_
   kernel_rfl
  refine V_ret ?_
  obtain rfl := some_inj h
  show Post _ _ _ _ _
  exact ⟨.inr rfl, rfl, rfl, rfl⟩
theorem cf_spec_sqTwos : ∀ args w, (callFunc 98 args).run Try.prog w = .ok (.enter 98 args) w := run_callFunc Try.func98 (by kernel_rfl) (by kernel_rfl)
set_option maxRecDepth 100000 in
set_option maxHeartbeats 400000 in
theorem s_spec_sqTwos {most1 : Int} {r : List Int} (h : r_spec_sqTwos most1 = some r) : CallS Try.prog 98 [I most1] (.ow 0) [(0, .arr 3 1 (r.map c3))] := by
  refine CallS_of_text (rs := [.t 2]) (vs := [.tmp 2]) Try.func98 rfl rfl (.cons rfl FitsL.nil) (by decide) 50 rfl ?_
  unfold r_spec_sqTwos at h
  show V _ _ ⟨I most1 :: bt 49 [], []⟩ _
  refine V_sreg (mb 50 1) [] (s1 := ⟨I most1 :: bt 49 [], []⟩) ?_ ?_
  ·refine L1 rfl rfl (Y1_nil (e := 3) 1 (by decide) (.inl rfl)) ?_
   refine XL_nil ?_
   kernel_rfl
  obtain ⟨u2, hu2, h⟩ := of_bind h
  refine V_sreg (mb 50 9) [72] (s1 := ⟨I most1 :: .bot :: .bot :: .ow 72 :: bt 46 [], [(72, .arr 3 1 ((List.replicate (Int.toNat (w64 (most1 + 1))) ((0 : Int))).map c3))]⟩) ?_ ?_
  ·refine L0 rfl rfl (E_move (I most1) rfl (by kernel_rfl)) ?_
   refine L0 rfl rfl (Y0_add64 (a := most1) (b := 1) rfl (by kernel_rfl) (by kernel_rfl)) ?_
   refine L1 rfl rfl (Y1_make (c := c3) (zx := (0 : Int)) (z := zv3) (l := w64 (most1 + 1)) (k := w64 (most1 + 1)) Try.underlying41 izb3 rfl rfl (by decide) rfl rfl (by kernel_rfl) (by kernel_rfl) (mk_some hu2) (by decide)) ?_
   refine L0 rfl rfl (E_assign (.ow 72) rfl (by kernel_rfl)) ?_
   refine XL_nil ?_
   kernel_rfl
  refine V_seq ?_
  refine V_sreg (mb 50 25) [72] (s1 := ⟨I most1 :: .bot :: .bot :: .ow 72 :: I 0 :: bt 45 [], [(72, .arr 3 1 ((List.replicate (Int.toNat (w64 (most1 + 1))) ((0 : Int))).map c3))]⟩) ?_ ?_
  ·refine L0 rfl rfl (E_assign (I 0) rfl (by kernel_rfl)) ?_
   refine XL_nil ?_
   kernel_rfl
  obtain ⟨o6, hLo6, h⟩ := of_bind h
  refine V_toK (mb 50 8) [72] (s1 := ⟨bt 3 (.ow 72 :: bt 46 []), [(72, .arr 3 1 (o6.map c3))]⟩) ?_ ?_
  ·clear h
   refine V_block (V_loop (fun n s => ∃ (x3 : Int) (l4 : List Int), s.keep (mb 50 25) [72] = (⟨I most1 :: .bot :: .bot :: .ow 72 :: I x3 :: bt 45 [], [(72, .arr 3 1 (l4.map c3))]⟩ : St) ∧ r_spec_sqTwos_L5 most1 n x3 l4 = some o6) FU ⟨_, _,  by rfl, hLo6⟩ ?_)
   clear hLo6
   rintro n s ⟨x3, l4, hs, h⟩
   refine V_keep _ _ hs ?_
   clear hs
   cases n with
   | zero => cases h
   | succ n =>
    rw [r_spec_sqTwos_L5] at h
    refine V_seq ?_
    refine V_sreg (mb 50 16409) [72] (s1 := ⟨I most1 :: .bot :: .bot :: .ow 72 :: I x3 :: bt 9 (Bo (leI (w64 (x3 * x3)) most1) :: bt 35 []), [(72, .arr 3 1 (l4.map c3))]⟩) ?_ ?_
    ·refine L0 rfl rfl (E_move (I x3) rfl (by kernel_rfl)) ?_
     refine L0 rfl rfl (E_move (I x3) rfl (by kernel_rfl)) ?_
     refine L0 rfl rfl (Y0_mul64 (a := x3) (b := x3) rfl (by kernel_rfl) (by kernel_rfl)) ?_
     refine L0 rfl rfl (E_move (I most1) rfl (by kernel_rfl)) ?_
     refine L0 rfl rfl (Y0_lew (k := .i64) (a := w64 (x3 * x3)) (b := most1) rfl (by kernel_rfl) (by kernel_rfl)) ?_
     refine XL_nil ?_
     kernel_rfl
    refine V_cond rfl (fun hc7 => ?_) (fun hc7 => ?_)
    ·have h := of_true h hc7
     refine V_skip ?_
     show V _ _ _ _
     refine V_seq ?_
     refine V_block ?_
     refine V_sreg (mb 50 57) [72] (s1 := ⟨I most1 :: .bot :: .bot :: .ow 72 :: I x3 :: I 0 :: bt 44 [], [(72, .arr 3 1 (l4.map c3))]⟩) ?_ ?_
     ·refine L0 rfl rfl (E_assign (I 0) rfl (by kernel_rfl)) ?_
      refine XL_nil ?_
      kernel_rfl
     obtain ⟨o11, hLo11, h⟩ := of_bind h
     refine V_toK (mb 50 25) [72] (s1 := ⟨I most1 :: .bot :: .bot :: .ow 72 :: I x3 :: bt 45 [], [(72, .arr 3 1 (o11.map c3))]⟩) ?_ ?_
     ·clear h
      refine V_block (V_loop (fun n s => ∃ (y8 : Int) (l9 : List Int), s.keep (mb 50 57) [72] = (⟨I most1 :: .bot :: .bot :: .ow 72 :: I x3 :: I y8 :: bt 44 [], [(72, .arr 3 1 (l9.map c3))]⟩ : St) ∧ r_spec_sqTwos_L10 most1 x3 n y8 l9 = some o11) FU ⟨_, _,  by rfl, hLo11⟩ ?_)
      clear hLo11
      rintro n s ⟨y8, l9, hs, h⟩
      refine V_keep _ _ hs ?_
      clear hs
      cases n with
      | zero => cases h
      | succ n =>
       rw [r_spec_sqTwos_L10] at h
       refine V_seq ?_
       refine V_sreg (mb 50 33554489) [72] (s1 := ⟨I most1 :: .bot :: .bot :: .ow 72 :: I x3 :: I y8 :: bt 19 (Bo (leI (w64 ((w64 (x3 * x3)) + (w64 (y8 * y8)))) most1) :: bt 24 []), [(72, .arr 3 1 (l9.map c3))]⟩) ?_ ?_
       ·refine L0 rfl rfl (E_move (I x3) rfl (by kernel_rfl)) ?_
        refine L0 rfl rfl (E_move (I x3) rfl (by kernel_rfl)) ?_
        refine L0 rfl rfl (Y0_mul64 (a := x3) (b := x3) rfl (by kernel_rfl) (by kernel_rfl)) ?_
        refine L0 rfl rfl (E_move (I y8) rfl (by kernel_rfl)) ?_
        refine L0 rfl rfl (E_move (I y8) rfl (by kernel_rfl)) ?_
        refine L0 rfl rfl (Y0_mul64 (a := y8) (b := y8) rfl (by kernel_rfl) (by kernel_rfl)) ?_
        refine L0 rfl rfl (Y0_add64 (a := w64 (x3 * x3)) (b := w64 (y8 * y8)) rfl (by kernel_rfl) (by kernel_rfl)) ?_
        refine L0 rfl rfl (E_move (I most1) rfl (by kernel_rfl)) ?_
        refine L0 rfl rfl (Y0_lew (k := .i64) (a := w64 ((w64 (x3 * x3)) + (w64 (y8 * y8)))) (b := most1) rfl (by kernel_rfl) (by kernel_rfl)) ?_
        refine XL_nil ?_
        kernel_rfl
       refine V_cond rfl (fun hc12 => ?_) (fun hc12 => ?_)
       ·have h := of_true h hc12
        refine V_skip ?_
        show V _ _ _ _
        refine V_seq ?_
        refine V_block ?_
        refine V_sreg (mb 50 121) [72] (s1 := ⟨I most1 :: .bot :: .bot :: .ow 72 :: I x3 :: I y8 :: I 4 :: bt 43 [], [(72, .arr 3 1 (l9.map c3))]⟩) ?_ ?_
        ·refine L0 rfl rfl (E_assign (I 4) rfl (by kernel_rfl)) ?_
         refine XL_nil ?_
         kernel_rfl
        obtain ⟨j13, hj13, h⟩ := of_bind h
        refine V_cutK (mb 50 121) [72] (s1 := ⟨I most1 :: .bot :: .bot :: .ow 72 :: I x3 :: I y8 :: I j13 :: bt 43 [], [(72, .arr 3 1 (l9.map c3))]⟩) ?_ ?_
        ·clear h
         have h := hj13
         clear hj13
         refine V_sreg (mb 50 536871033) [72] (s1 := ⟨I most1 :: .bot :: .bot :: .ow 72 :: I x3 :: I y8 :: I 4 :: bt 22 (Bo (eqI x3 0) :: bt 20 []), [(72, .arr 3 1 (l9.map c3))]⟩) ?_ ?_
         ·refine L0 rfl rfl (E_move (I x3) rfl (by kernel_rfl)) ?_
          refine L0 rfl rfl (Y0_eqw (k := .i64) (a := x3) (b := 0) rfl (by kernel_rfl) (by kernel_rfl)) ?_
          refine XL_nil ?_
          kernel_rfl
         refine V_cond rfl (fun hc14 => ?_) (fun hc14 => ?_)
         ·have h := of_true h hc14
          obtain ⟨times15, htimes15, h⟩ := of_sI h
          refine V_reg (mb 50 121) [72] (s1 := ⟨I most1 :: .bot :: .bot :: .ow 72 :: I x3 :: I y8 :: I times15 :: bt 43 [], [(72, .arr 3 1 (l9.map c3))]⟩) ?_ ?_
          ·refine L0 rfl rfl (E_move (I 4) rfl (by kernel_rfl)) ?_
           refine L0 rfl rfl (Y0_quo64 (a := 4) (b := 2) rfl (by kernel_rfl) (by kernel_rfl) (by decide)) ?_
           refine L0 rfl rfl (E_assign (I (w64 (Int.tdiv 4 2))) rfl (by kernel_rfl)) ?_
           refine XL_nil ?_
           subst htimes15
           kernel_rfl
          obtain rfl := some_inj h
          show St.keep _ _ _ = _
          rfl
         ·have h := of_false h hc14
          refine V_skip ?_
          obtain rfl := some_inj h
          show St.keep _ _ _ = _
          rfl
        obtain ⟨j16, hj16, h⟩ := of_bind h
        refine V_cutK (mb 50 121) [72] (s1 := ⟨I most1 :: .bot :: .bot :: .ow 72 :: I x3 :: I y8 :: I j16 :: bt 43 [], [(72, .arr 3 1 (l9.map c3))]⟩) ?_ ?_
        ·clear h
         have h := hj16
         clear hj16
         refine V_sreg (mb 50 8589934713) [72] (s1 := ⟨I most1 :: .bot :: .bot :: .ow 72 :: I x3 :: I y8 :: I j13 :: bt 26 (Bo (eqI y8 0) :: bt 16 []), [(72, .arr 3 1 (l9.map c3))]⟩) ?_ ?_
         ·refine L0 rfl rfl (E_move (I y8) rfl (by kernel_rfl)) ?_
          refine L0 rfl rfl (Y0_eqw (k := .i64) (a := y8) (b := 0) rfl (by kernel_rfl) (by kernel_rfl)) ?_
          refine XL_nil ?_
          kernel_rfl
         refine V_cond rfl (fun hc17 => ?_) (fun hc17 => ?_)
         ·have h := of_true h hc17
          obtain ⟨times18, htimes18, h⟩ := of_sI h
          refine V_reg (mb 50 121) [72] (s1 := ⟨I most1 :: .bot :: .bot :: .ow 72 :: I x3 :: I y8 :: I times18 :: bt 43 [], [(72, .arr 3 1 (l9.map c3))]⟩) ?_ ?_
          ·refine L0 rfl rfl (E_move (I j13) rfl (by kernel_rfl)) ?_
           refine L0 rfl rfl (Y0_quo64 (a := j13) (b := 2) rfl (by kernel_rfl) (by kernel_rfl) (by decide)) ?_
           refine L0 rfl rfl (E_assign (I (w64 (Int.tdiv j13 2))) rfl (by kernel_rfl)) ?_
           refine XL_nil ?_
           subst htimes18
           kernel_rfl
          obtain rfl := some_inj h
          show St.keep _ _ _ = _
          rfl
         ·have h := of_false h hc17
          refine V_skip ?_
          obtain rfl := some_inj h
          show St.keep _ _ _ = _
          rfl
        obtain ⟨e19, he19, h⟩ := of_bind h
        obtain ⟨e20, he20, h⟩ := of_bind h
        obtain ⟨e21, he21, h⟩ := of_bind h
        obtain ⟨e22, he22, h⟩ := of_bind h
        obtain ⟨l23, hl23, h⟩ := of_bind h
        have hl23 := some_inj hl23
        refine V_reg (mb 50 57) [72] (s1 := ⟨I most1 :: .bot :: .bot :: .ow 72 :: I x3 :: I y8 :: bt 44 [], [(72, .arr 3 1 (l23.map c3))]⟩) ?_ ?_
        ·refine L0 rfl rfl (E_move (.ow 72) rfl (by kernel_rfl)) ?_
         refine L0 rfl rfl (E_move (I x3) rfl (by kernel_rfl)) ?_
         refine L0 rfl rfl (E_move (I x3) rfl (by kernel_rfl)) ?_
         refine L0 rfl rfl (Y0_mul64 (a := x3) (b := x3) rfl (by kernel_rfl) (by kernel_rfl)) ?_
         refine L0 rfl rfl (E_move (I y8) rfl (by kernel_rfl)) ?_
         refine L0 rfl rfl (E_move (I y8) rfl (by kernel_rfl)) ?_
         refine L0 rfl rfl (Y0_mul64 (a := y8) (b := y8) rfl (by kernel_rfl) (by kernel_rfl)) ?_
         refine L0 rfl rfl (Y0_add64 (a := w64 (x3 * x3)) (b := w64 (y8 * y8)) rfl (by kernel_rfl) (by kernel_rfl)) ?_
         refine L0 rfl rfl (Y0_idxoM (c := c3) (xs := l9) (v := e19) (id := 72) (T := 3) (sz := 1) (n := w64 ((w64 (x3 * x3)) + (w64 (y8 * y8)))) Try.underlying41 sz3 rfl (by kernel_rfl) (by kernel_rfl) (by kernel_rfl) he19) ?_
         refine L0 rfl rfl (Y0_loado1 (c := c3) (xs := l9) (v := e20) (id := 72) (sz := 1) (T := 3) (off := 0) (n := w64 ((w64 (x3 * x3)) + (w64 (y8 * y8)))) (d := Ti e20) (ds := []) sc3 rfl (by kernel_rfl) (by kernel_rfl) he20 (by kernel_rfl)) ?_
         refine L0 rfl rfl (E_move (I j16) rfl (by kernel_rfl)) ?_
         refine L0 rfl rfl (Y0_add64 (a := e20) (b := j16) rfl (by kernel_rfl) (by kernel_rfl)) ?_
         refine L0 rfl rfl (Y0_idxoM (c := c3) (xs := l9) (v := e21) (id := 72) (T := 3) (sz := 1) (n := w64 ((w64 (x3 * x3)) + (w64 (y8 * y8)))) Try.underlying41 sz3 rfl (by kernel_rfl) (by kernel_rfl) (by kernel_rfl) he21) ?_
         refine XL_cons rfl (X_storeoM (c := c3) (xs := l9) (v := e22) (u := w64 (e20 + j16)) (id := 72) (sz := 1) (off := 0) (T0 := 3) (n := w64 ((w64 (x3 * x3)) + (w64 (y8 * y8)))) (vc := [Ti (w64 (e20 + j16))]) rfl rfl (by kernel_rfl) (by kernel_rfl) he22 (by kernel_rfl) sz3 (Nat.le_of_ble_eq_true rfl) (by kernel_rfl)) ?_
         refine XL_nil ?_
         subst hl23
         kernel_rfl
        show V _ _ _ _
        obtain ⟨y24, hy24, h⟩ := of_sI h
        refine V_reg (mb 50 57) [72] (s1 := ⟨I most1 :: .bot :: .bot :: .ow 72 :: I x3 :: I y24 :: bt 44 [], [(72, .arr 3 1 (l23.map c3))]⟩) ?_ ?_
        ·refine L0 rfl rfl (E_move (I y8) rfl (by kernel_rfl)) ?_
         refine L0 rfl rfl (Y0_add64 (a := y8) (b := 1) rfl (by kernel_rfl) (by kernel_rfl)) ?_
         refine L0 rfl rfl (E_assign (I (w64 (y8 + 1))) rfl (by kernel_rfl)) ?_
         refine XL_nil ?_
         subst hy24
         kernel_rfl
        exact ⟨n, Nat.lt_succ_self n, _, _,  by rfl, h⟩
       ·have h := of_false h hc12
        refine V_exit ?_
        obtain rfl := some_inj h
        show St.keep _ _ _ = _
        rfl
     show V _ _ _ _
     obtain ⟨x25, hx25, h⟩ := of_sI h
     refine V_reg (mb 50 25) [72] (s1 := ⟨I most1 :: .bot :: .bot :: .ow 72 :: I x25 :: bt 45 [], [(72, .arr 3 1 (o11.map c3))]⟩) ?_ ?_
     ·refine L0 rfl rfl (E_move (I x3) rfl (by kernel_rfl)) ?_
      refine L0 rfl rfl (Y0_add64 (a := x3) (b := 1) rfl (by kernel_rfl) (by kernel_rfl)) ?_
      refine L0 rfl rfl (E_assign (I (w64 (x3 + 1))) rfl (by kernel_rfl)) ?_
      refine XL_nil ?_
      subst hx25
      kernel_rfl
     exact ⟨n, Nat.lt_succ_self n, _, _,  by rfl, h⟩
    ·have h := of_false h hc7
     refine V_exit ?_
     obtain rfl := some_inj h
     show St.keep _ _ _ = _
     rfl
  show V _ _ _ _
  refine V_sreg (mb 50 4) [72] (s1 := ⟨.bot :: .bot :: .ow 72 :: bt 47 [], [(72, .arr 3 1 (o6.map c3))]⟩) ?_ ?_
  ·refine L0 rfl rfl (E_move (.ow 72) rfl (by kernel_rfl)) ?_
   refine L0 rfl rfl (E_assign (.ow 72) rfl (by kernel_rfl)) ?_
   refine XL_nil ?_
   kernel_rfl
  refine V_ret ?_
  obtain rfl := some_inj h
  show Post _ _ _ _ _
  exact ⟨.inr rfl, rfl, rfl, rfl⟩
theorem cf_spec_CountFour : ∀ args w, (callFunc 38 args).run Try.prog w = .ok (.enter 38 args) w := run_callFunc Try.func38 (by kernel_rfl) (by kernel_rfl)
set_option maxRecDepth 100000 in
set_option maxHeartbeats 400000 in
theorem s_spec_CountFour {vn1 : Int} {r : (Int × Bool)} (h : r_spec_CountFour vn1 = some r) : CallS Try.prog 38 [I vn1] (.tc (I r.1) (.tc (Bo r.2) .tn)) [] := by
  refine CallS_of_text (rs := [.t 2, .t 3]) (vs := [.tmp 2, .tmp 3]) Try.func38 rfl rfl (.cons rfl (.cons rfl FitsL.nil)) (by decide) 32 rfl ?_
  unfold r_spec_CountFour at h
  show V _ _ ⟨I vn1 :: bt 31 [], []⟩ _
  refine V_sreg (mb 32 1) [] (s1 := ⟨I vn1 :: bt 31 [], []⟩) ?_ ?_
  ·refine L0 rfl rfl (E_assign (I 0) rfl (by kernel_rfl)) ?_
   refine L0 rfl rfl (E_assign (Bo false) rfl (by kernel_rfl)) ?_
   refine XL_nil ?_
   kernel_rfl
  refine V_seq ?_
  obtain ⟨y2, hy2, h⟩ := of_bind h
  refine V_sreg (mb 32 1025) [] (s1 := ⟨I vn1 :: bt 9 (Bo (!y2) :: bt 21 []), []⟩) ?_ ?_
  ·refine L0 rfl rfl (E_move (I vn1) rfl (by kernel_rfl)) ?_
   refine L1 rfl rfl (Y1_call (s_spec_sqGood hy2) cf_spec_sqGood rfl (by kernel_rfl)) ?_
   refine L0 rfl rfl (Y0_not (b := y2) rfl (by kernel_rfl)) ?_
   refine XL_nil ?_
   kernel_rfl
  refine V_cond rfl (fun hc3 => ?_) (fun hc3 => ?_)
  ·have h := of_true h hc3
   refine V_sreg (mb 32 12) [] (s1 := ⟨.bot :: .bot :: I 0 :: Bo false :: bt 28 [], []⟩) ?_ ?_
   ·refine L0 rfl rfl (E_assign (I 0) rfl (by kernel_rfl)) ?_
    refine L0 rfl rfl (E_assign (Bo false) rfl (by kernel_rfl)) ?_
    refine XL_nil ?_
    kernel_rfl
   refine V_ret ?_
   obtain rfl := some_inj h
   show Post _ _ _ _ _
   exact ⟨.inr rfl, rfl, rfl, rfl⟩
  ·have h := of_false h hc3
   refine V_skip ?_
   show V _ _ _ _
   obtain ⟨y4, hy4, h⟩ := of_bind h
   refine V_sreg (mb 32 49) [96] (s1 := ⟨I vn1 :: bt 3 (.ow 96 :: I 0 :: bt 26 []), [(96, .arr 3 1 (y4.map c3))]⟩) ?_ ?_
   ·refine L0 rfl rfl (E_move (I vn1) rfl (by kernel_rfl)) ?_
    refine L1 rfl rfl (Y1_call (s_spec_sqTwos hy4) cf_spec_sqTwos rfl (by kernel_rfl)) ?_
    refine L0 rfl rfl (E_assign (.ow 96) rfl (by kernel_rfl)) ?_
    refine L0 rfl rfl (E_assign (I 0) rfl (by kernel_rfl)) ?_
    refine XL_nil ?_
    kernel_rfl
   refine V_seq ?_
   refine V_sreg (mb 32 57393) [96] (s1 := ⟨I vn1 :: bt 3 (.ow 96 :: I 0 :: bt 7 (.ow 96 :: I ((y4.length : Int)) :: I 0 :: bt 16 [])), [(96, .arr 3 1 (y4.map c3))]⟩) ?_ ?_
   ·refine L0 rfl rfl (E_move (.ow 96) rfl (by kernel_rfl)) ?_
    refine L0 rfl rfl (Y0_lenM (c := c3) (xs := y4) Try.underlying41 rfl (by kernel_rfl)) ?_
    refine L0 rfl rfl (E_move (I 0) rfl (by kernel_rfl)) ?_
    refine XL_nil ?_
    kernel_rfl
   obtain ⟨o8, hLo8, h⟩ := of_bind h
   refine V_toK (mb 32 32) [] (s1 := ⟨bt 5 (I o8 :: bt 26 []), []⟩) ?_ ?_
   ·clear h
    refine V_block (V_loop (fun n s => ∃ (count5 : Int) (t6 : Int), s.keep (mb 32 57393) [96] = (⟨I vn1 :: bt 3 (.ow 96 :: I count5 :: bt 7 (.ow 96 :: I ((y4.length : Int)) :: I t6 :: bt 16 [])), [(96, .arr 3 1 (y4.map c3))]⟩ : St) ∧ r_spec_CountFour_L7 vn1 y4 n count5 t6 = some o8) FU ⟨_, _,  by rfl, hLo8⟩ ?_)
    clear hLo8
    rintro n s ⟨count5, t6, hs, h⟩
    refine V_keep _ _ hs ?_
    clear hs
    cases n with
    | zero => cases h
    | succ n =>
     rw [r_spec_CountFour_L7] at h
     refine V_sreg (mb 32 122929) [96] (s1 := ⟨I vn1 :: bt 3 (.ow 96 :: I count5 :: bt 7 (.ow 96 :: I ((y4.length : Int)) :: I t6 :: Bo (ltI t6 ((y4.length : Int))) :: bt 15 [])), [(96, .arr 3 1 (y4.map c3))]⟩) ?_ ?_
     ·refine L0 rfl rfl (Y0_ltw (k := .i64) (a := t6) (b := (y4.length : Int)) rfl (by kernel_rfl) (by kernel_rfl)) ?_
      refine XL_nil ?_
      kernel_rfl
     refine V_seq ?_
     refine V_cond rfl (fun hc9 => ?_) (fun hc9 => ?_)
     ·have h := of_true h hc9
      refine V_skip ?_
      show V _ _ _ _
      refine V_seq ?_
      refine V_block ?_
      obtain ⟨e10, he10, h⟩ := of_bind h
      obtain ⟨e11, he11, h⟩ := of_bind h
      refine V_sreg (mb 32 57585) [96] (s1 := ⟨I vn1 :: bt 3 (.ow 96 :: I count5 :: I t6 :: I e11 :: bt 5 (.ow 96 :: I ((y4.length : Int)) :: I t6 :: bt 16 [])), [(96, .arr 3 1 (y4.map c3))]⟩) ?_ ?_
      ·refine L0 rfl rfl (E_move (I t6) rfl (by kernel_rfl)) ?_
       refine L0 rfl rfl (Y0_idxoM (c := c3) (xs := y4) (v := e10) (id := 96) (T := 3) (sz := 1) (n := t6) Try.underlying41 sz3 rfl (by kernel_rfl) (by kernel_rfl) (by kernel_rfl) he10) ?_
       refine L0 rfl rfl (Y0_loado1 (c := c3) (xs := y4) (v := e11) (id := 96) (sz := 1) (T := 3) (off := 0) (n := t6) (d := Ti e11) (ds := []) sc3 rfl (by kernel_rfl) (by kernel_rfl) he11 (by kernel_rfl)) ?_
       refine L0 rfl rfl (E_assign (I t6) rfl (by kernel_rfl)) ?_
       refine L0 rfl rfl (E_assign (I e11) rfl (by kernel_rfl)) ?_
       refine XL_nil ?_
       kernel_rfl
      obtain ⟨e12, he12, h⟩ := of_bind h
      obtain ⟨e13, he13, h⟩ := of_bind h
      obtain ⟨count14, hcount14, h⟩ := of_sI h
      refine V_reg (mb 32 57393) [96] (s1 := ⟨I vn1 :: bt 3 (.ow 96 :: I count14 :: bt 7 (.ow 96 :: I ((y4.length : Int)) :: I t6 :: bt 16 [])), [(96, .arr 3 1 (y4.map c3))]⟩) ?_ ?_
      ·refine L0 rfl rfl (E_move (I count5) rfl (by kernel_rfl)) ?_
       refine L0 rfl rfl (E_move (I e11) rfl (by kernel_rfl)) ?_
       refine L0 rfl rfl (E_move (.ow 96) rfl (by kernel_rfl)) ?_
       refine L0 rfl rfl (E_move (I vn1) rfl (by kernel_rfl)) ?_
       refine L0 rfl rfl (E_move (I t6) rfl (by kernel_rfl)) ?_
       refine L0 rfl rfl (Y0_sub64 (a := vn1) (b := t6) rfl (by kernel_rfl) (by kernel_rfl)) ?_
       refine L0 rfl rfl (Y0_idxoM (c := c3) (xs := y4) (v := e12) (id := 96) (T := 3) (sz := 1) (n := w64 (vn1 - t6)) Try.underlying41 sz3 rfl (by kernel_rfl) (by kernel_rfl) (by kernel_rfl) he12) ?_
       refine L0 rfl rfl (Y0_loado1 (c := c3) (xs := y4) (v := e13) (id := 96) (sz := 1) (T := 3) (off := 0) (n := w64 (vn1 - t6)) (d := Ti e13) (ds := []) sc3 rfl (by kernel_rfl) (by kernel_rfl) he13 (by kernel_rfl)) ?_
       refine L0 rfl rfl (Y0_mul64 (a := e11) (b := e13) rfl (by kernel_rfl) (by kernel_rfl)) ?_
       refine L0 rfl rfl (Y0_add64 (a := count5) (b := w64 (e11 * e13)) rfl (by kernel_rfl) (by kernel_rfl)) ?_
       refine L0 rfl rfl (E_assign (I (w64 (count5 + (w64 (e11 * e13))))) rfl (by kernel_rfl)) ?_
       refine XL_nil ?_
       subst hcount14
       kernel_rfl
      show V _ _ _ _
      obtain ⟨t15, ht15, h⟩ := of_sI h
      refine V_reg (mb 32 57393) [96] (s1 := ⟨I vn1 :: bt 3 (.ow 96 :: I count14 :: bt 7 (.ow 96 :: I ((y4.length : Int)) :: I t15 :: bt 16 [])), [(96, .arr 3 1 (y4.map c3))]⟩) ?_ ?_
      ·refine L0 rfl rfl (Y0_add64 (a := t6) (b := 1) rfl (by kernel_rfl) (by kernel_rfl)) ?_
       refine L0 rfl rfl (E_move (I (w64 (t6 + 1))) rfl (by kernel_rfl)) ?_
       refine XL_nil ?_
       subst ht15
       kernel_rfl
      exact ⟨n, Nat.lt_succ_self n, _, _,  by rfl, h⟩
     ·have h := of_false h hc9
      refine V_exit ?_
      obtain rfl := some_inj h
      show St.keep _ _ _ = _
      rfl
   show V _ _ _ _
   refine V_sreg (mb 32 12) [] (s1 := ⟨.bot :: .bot :: I o8 :: Bo true :: bt 28 [], []⟩) ?_ ?_
   ·refine L0 rfl rfl (E_move (I o8) rfl (by kernel_rfl)) ?_
    refine L0 rfl rfl (E_assign (I o8) rfl (by kernel_rfl)) ?_
    refine L0 rfl rfl (E_assign (Bo true) rfl (by kernel_rfl)) ?_
    refine XL_nil ?_
    kernel_rfl
   refine V_ret ?_
   obtain rfl := some_inj h
   show Post _ _ _ _ _
   exact ⟨.inr rfl, rfl, rfl, rfl⟩
end Go.Proofs.Ytgeajejmikaniaa
