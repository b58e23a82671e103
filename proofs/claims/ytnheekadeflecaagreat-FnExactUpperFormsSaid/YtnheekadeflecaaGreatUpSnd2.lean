/-
  The functions of the program compute what the plain functions say: more of them.
  Conditions: none.
-/
import Derived.Test.YtnheekadeflecaaGreatUpSnd1
namespace Go.Proofs.YtnheekadeflecaaGreat
open Go.RowKit
set_option linter.unusedVariables false
set_option linter.unusedSimpArgs false
set_option maxRecDepth 100000
set_option maxHeartbeats 400000
theorem cf_impl_SublatticesOf : ∀ args w, (callFunc 53 args).run Tryz.prog w = .ok (.enter 53 args) w := run_callFunc Tryz.func53 (by kernel_rfl) (by kernel_rfl)
theorem s_impl_SublatticesOf {vn1 : Int} {r : ((List ((Int × Int × Int))) × Bool)} (h : r_impl_SublatticesOf vn1 = some r) : CallS Tryz.prog 53 [I vn1] (.tc (.ow 0) (.tc (Bo r.2) .tn)) [(0, .arr 69 3 (r.1.map c69))] := by
  refine CallS_of_text (rs := [.t 2, .t 3]) (vs := [.tmp 2, .tmp 3]) Tryz.func53 rfl rfl (.cons rfl (.cons rfl FitsL.nil)) (by decide) 39 rfl ?_
  unfold r_impl_SublatticesOf at h
  show V _ _ ⟨I vn1 :: bt 38 [], []⟩ _
  refine V_sreg (mb 39 1) [] (s1 := ⟨I vn1 :: bt 38 [], []⟩) ?_ ?_
  ·refine L1 rfl rfl (Y1_nil (e := 69) 3 (by decide) (.inl rfl)) ?_
   exact XE
  refine V_seq ?_
  refine V_sreg (mb 39 8193) [] (s1 := ⟨I vn1 :: bt 12 (Bo (bif (ltI vn1 1) then true else (ltI 100 vn1)) :: bt 25 []), []⟩) ?_ ?_
  ·refine XR 3 ?_
   refine XL_split (ltI vn1 1) (fun hc2 => ?_) (fun hc2 => ?_)
   ·refine XL_skipF _ rfl rfl (by kernel_rfl) hc2 rfl ?_
    refine XL_skipF _ rfl rfl (by kernel_rfl) hc2 rfl ?_
    refine XL_cons rfl (X_of_Y0 rfl (Y0_pick1 (b := ltI vn1 1) (p := true) (q := ltI 100 vn1) rfl (by kernel_rfl) hc2 (by kernel_rfl))) ?_
    exact XE
   ·refine XL_takeC _ rfl rfl (by kernel_rfl) hc2 (X_of_Y0 rfl (E_move (I vn1) rfl (by kernel_rfl))) ?_
    refine XL_takeC _ rfl rfl (by kernel_rfl) hc2 (X_of_Y0 rfl (Y0_gtw (k := .i64) (a := vn1) (b := 100) rfl (by kernel_rfl) (by kernel_rfl))) ?_
    refine XL_cons rfl (X_of_Y0 rfl (Y0_pick0 (b := ltI vn1 1) (p := true) (q := ltI 100 vn1) rfl (by kernel_rfl) hc2 (by kernel_rfl))) ?_
    exact XE
  refine V_cond rfl (fun hc3 => ?_) (fun hc3 => ?_)
  ·have h := of_true h hc3
   refine V_sreg (mb 39 12) [112] (s1 := ⟨.bot :: .bot :: .ow 112 :: Bo false :: bt 35 [], [(112, .arr 69 3 ((([] : List ((Int × Int × Int)))).map c69))]⟩) ?_ ?_
   ·refine L1 rfl rfl (Y1_bslice0 Tryz.underlying66 sz69 (by decide) rfl rfl) ?_
    exact XE
   refine V_ret ?_
   obtain rfl := some_inj h
   show Post _ _ _ _ _
   exact ⟨.inr rfl, rfl, rfl, rfl⟩
  ·have h := of_false h hc3
   refine V_skip ?_
   show V _ _ _ _
   refine V_sreg (mb 39 17) [120] (s1 := ⟨I vn1 :: bt 3 (.ow 120 :: bt 34 []), [(120, .arr 69 3 ((([] : List ((Int × Int × Int)))).map c69))]⟩) ?_ ?_
   ·refine L1 rfl rfl (Y1_bslice0 Tryz.underlying66 sz69 (by decide) rfl rfl) ?_
    exact XE
   refine V_seq ?_
   obtain ⟨y4, hy4, h⟩ := of_bind h
   refine V_sreg (mb 39 917521) [136, 120] (s1 := ⟨I vn1 :: bt 3 (.ow 120 :: bt 12 (.ow 136 :: I ((y4.length : Int)) :: I 0 :: bt 19 [])), [(136, .arr 3 1 (y4.map c3)), (120, .arr 69 3 ((([] : List ((Int × Int × Int)))).map c69))]⟩) ?_ ?_
   ·refine XR 1 ?_
    refine XC (s_impl_divisors hy4) cf_impl_divisors rfl rfl rfl ?_
    refine L0 rfl rfl (Y0_lenM (c := c3) (xs := y4) Tryz.underlying34 rfl (by kernel_rfl)) ?_
    exact XE
   obtain ⟨o8, hLo8, h⟩ := of_bind h
   refine V_toK (mb 39 16) [120] (s1 := ⟨bt 4 (.ow 120 :: bt 34 []), [(120, .arr 69 3 (o8.map c69))]⟩) ?_ ?_
   ·clear h
    refine V_block (V_loop (fun n s => ∃ (t5 : Int) (l6 : List ((Int × Int × Int))), s.keep (mb 39 917521) [136, 120] = (⟨I vn1 :: bt 3 (.ow 120 :: bt 12 (.ow 136 :: I ((y4.length : Int)) :: I t5 :: bt 19 [])), [(136, .arr 3 1 (y4.map c3)), (120, .arr 69 3 (l6.map c69))]⟩ : St) ∧ r_impl_SublatticesOf_L7 vn1 y4 n t5 l6 = some o8) FU ⟨_, _,  by rfl, hLo8⟩ ?_)
    clear hLo8
    rintro n s ⟨t5, l6, hs, h⟩
    refine V_keep _ _ hs ?_
    clear hs
    cases n with
    | zero => cases h
    | succ n =>
     rw [r_impl_SublatticesOf_L7] at h
     refine V_e (mb 39 1966097) [136, 120] (s1 := ⟨I vn1 :: bt 3 (.ow 120 :: bt 12 (.ow 136 :: I ((y4.length : Int)) :: I t5 :: Bo (ltI t5 ((y4.length : Int))) :: bt 18 [])), [(136, .arr 3 1 (y4.map c3)), (120, .arr 69 3 (l6.map c69))]⟩) ?_
     refine V_seq ?_
     refine V_cond rfl (fun hc9 => ?_) (fun hc9 => ?_)
     ·have h := of_true h hc9
      refine V_skip ?_
      show V _ _ _ _
      refine V_seq ?_
      refine V_block ?_
      obtain ⟨e10, he10, h⟩ := of_bind h
      obtain ⟨e11, he11, h⟩ := of_bind h
      refine V_sreg (mb 39 917585) [136, 120] (s1 := ⟨I vn1 :: bt 3 (.ow 120 :: .bot :: I e11 :: bt 10 (.ow 136 :: I ((y4.length : Int)) :: I t5 :: bt 19 [])), [(136, .arr 3 1 (y4.map c3)), (120, .arr 69 3 (l6.map c69))]⟩) ?_ ?_
      ·refine L0 rfl rfl (Y0_idxoM (c := c3) (xs := y4) (v := e10) (id := 136) (T := 3) (sz := 1) (n := t5) Tryz.underlying34 sz3 rfl (by kernel_rfl) (by kernel_rfl) (by kernel_rfl) he10) ?_
       refine L0 rfl rfl (Y0_loado1 (c := c3) (xs := y4) (v := e11) (id := 136) (sz := 1) (T := 3) (off := 0) (n := t5) (d := Ti e11) (ds := []) sc3 rfl (by kernel_rfl) (by kernel_rfl) he11 (by kernel_rfl)) ?_
       exact XE
      refine V_e (mb 39 917713) [136, 120] (s1 := ⟨I vn1 :: bt 3 (.ow 120 :: .bot :: I e11 :: I 0 :: bt 9 (.ow 136 :: I ((y4.length : Int)) :: I t5 :: bt 19 [])), [(136, .arr 3 1 (y4.map c3)), (120, .arr 69 3 (l6.map c69))]⟩) ?_
      obtain ⟨o15, hLo15, h⟩ := of_bind h
      refine V_toK (mb 39 917521) [136, 120] (s1 := ⟨I vn1 :: bt 3 (.ow 120 :: bt 12 (.ow 136 :: I ((y4.length : Int)) :: I t5 :: bt 19 [])), [(136, .arr 3 1 (y4.map c3)), (120, .arr 69 3 (o15.map c69))]⟩) ?_ ?_
      ·clear h
       refine V_block (V_loop (fun n s => ∃ (b12 : Int) (l13 : List ((Int × Int × Int))), s.keep (mb 39 917713) [136, 120] = (⟨I vn1 :: bt 3 (.ow 120 :: .bot :: I e11 :: I b12 :: bt 9 (.ow 136 :: I ((y4.length : Int)) :: I t5 :: bt 19 [])), [(136, .arr 3 1 (y4.map c3)), (120, .arr 69 3 (l13.map c69))]⟩ : St) ∧ r_impl_SublatticesOf_L14 e11 t5 vn1 y4 n b12 l13 = some o15) FU ⟨_, _,  by rfl, hLo15⟩ ?_)
       clear hLo15
       rintro n s ⟨b12, l13, hs, h⟩
       refine V_keep _ _ hs ?_
       clear hs
       cases n with
       | zero => cases h
       | succ n =>
        rw [r_impl_SublatticesOf_L14] at h
        refine V_seq ?_
        refine V_e (mb 39 34472145) [136, 120] (s1 := ⟨I vn1 :: bt 3 (.ow 120 :: .bot :: I e11 :: I b12 :: bt 9 (.ow 136 :: I ((y4.length : Int)) :: I t5 :: bt 5 (Bo (ltI b12 e11) :: bt 13 []))), [(136, .arr 3 1 (y4.map c3)), (120, .arr 69 3 (l13.map c69))]⟩) ?_
        refine V_cond rfl (fun hc16 => ?_) (fun hc16 => ?_)
        ·have h := of_true h hc16
         refine V_skip ?_
         show V _ _ _ _
         refine V_seq ?_
         refine V_block ?_
         obtain ⟨z17, hz17, h⟩ := of_bind h
         obtain ⟨u18, hu18, h⟩ := of_bind h
         refine V_reg (mb 39 917713) [136, 120] (s1 := ⟨I vn1 :: bt 3 (.ow 120 :: .bot :: I e11 :: I b12 :: bt 9 (.ow 136 :: I ((y4.length : Int)) :: I t5 :: bt 19 [])), [(136, .arr 3 1 (y4.map c3)), (120, .arr 69 3 ((l13 ++ ([(e11, b12, w64 (Int.tdiv vn1 e11))])).map c69))]⟩) ?_ ?_
         ·refine XR 5 ?_
          refine L0 rfl rfl (Y0_quo64 (a := vn1) (b := e11) rfl (by kernel_rfl) (by kernel_rfl) (nz_some hz17)) ?_
          refine L0 rfl rfl (Y0_build (cs := [Ti e11, Ti b12, Ti (w64 (Int.tdiv vn1 e11))]) pl69 bt69 rfl rfl (by kernel_rfl)) ?_
          refine L1 rfl rfl (Y1_bslice (z := zv69) (els := [(e11, b12, w64 (Int.tdiv vn1 e11))].map c69) Tryz.underlying66 iz69 rfl (by decide) rfl (by kernel_rfl) rfl (by simp [c69]) (by decide) (by decide)) ?_
          refine XL_cons rfl (X_appendM (c := c69) (xs := l13) (ys := [(e11, b12, w64 (Int.tdiv vn1 e11))]) (id := 120) (z := zv69) rfl rfl Tryz.underlying66 izb69 rfl (by kernel_rfl) (by kernel_rfl) (by kernel_rfl) (fun _ => rfl) (by simp) (room_some hu18) (by decide)) ?_
          exact XE
         show V _ _ _ _
         obtain ⟨b19, hb19, h⟩ := of_sI h
         refine V_reg (mb 39 917713) [136, 120] (s1 := ⟨I vn1 :: bt 3 (.ow 120 :: .bot :: I e11 :: I b19 :: bt 9 (.ow 136 :: I ((y4.length : Int)) :: I t5 :: bt 19 [])), [(136, .arr 3 1 (y4.map c3)), (120, .arr 69 3 ((l13 ++ ([(e11, b12, w64 (Int.tdiv vn1 e11))])).map c69))]⟩) ?_ ?_
         ·refine XR 3 ?_
          refine XL_nil ?_
          subst hb19
          kernel_rfl
         exact ⟨n, Nat.lt_succ_self n, _, _,  by rfl, h⟩
        ·have h := of_false h hc16
         refine V_exit ?_
         obtain rfl := some_inj h
         show St.keep _ _ _ = _
         rfl
      show V _ _ _ _
      obtain ⟨t20, ht20, h⟩ := of_sI h
      refine V_reg (mb 39 917521) [136, 120] (s1 := ⟨I vn1 :: bt 3 (.ow 120 :: bt 12 (.ow 136 :: I ((y4.length : Int)) :: I t20 :: bt 19 [])), [(136, .arr 3 1 (y4.map c3)), (120, .arr 69 3 (o15.map c69))]⟩) ?_ ?_
      ·refine XR 2 ?_
       refine XL_nil ?_
       subst ht20
       kernel_rfl
      exact ⟨n, Nat.lt_succ_self n, _, _,  by rfl, h⟩
     ·have h := of_false h hc9
      refine V_exit ?_
      obtain rfl := some_inj h
      show St.keep _ _ _ = _
      rfl
   show V _ _ _ _
   refine V_e (mb 39 12) [120] (s1 := ⟨.bot :: .bot :: .ow 120 :: Bo true :: bt 35 [], [(120, .arr 69 3 (o8.map c69))]⟩) ?_
   refine V_ret ?_
   obtain rfl := some_inj h
   show Post _ _ _ _ _
   exact ⟨.inr rfl, rfl, rfl, rfl⟩
theorem cf_impl_one : ∀ args w, (callFunc 148 args).run Tryz.prog w = .ok (.enter 148 args) w := run_callFunc Tryz.func148 (by kernel_rfl) (by kernel_rfl)
theorem s_impl_one {r : (Int × Int × Int × Int)} (h : r_impl_one = some r) : CallS Tryz.prog 148 [] (.ag [Ti r.1, Ti r.2.1, Ti r.2.2.1, Ti r.2.2.2]) [] := by
  refine CallS_of_text (rs := [.w 0 4]) (vs := [.cell 0 57]) Tryz.func148 rfl rfl (.cons ⟨rfl, wd57⟩ FitsL.nil) (by decide) 2 rfl ?_
  unfold r_impl_one at h
  show V _ _ ⟨.bot :: .bot :: [], []⟩ _
  refine V_e (mb 2 1) [0] (s1 := ⟨.pt 0 0 :: .bot :: [], [(0, .box [Ti 0, Ti 0, Ti 0, Ti 0])]⟩) ?_
  refine V_sreg (mb 2 1) [0] (s1 := ⟨.pt 0 0 :: .bot :: [], [(0, .box [Ti 1, Ti 0, Ti 0, Ti 1])]⟩) ?_ ?_
  ·refine L0 rfl rfl (Y0_build (cs := [Ti 1, Ti 0, Ti 0, Ti 1]) pl57 bt57 rfl rfl (by kernel_rfl)) ?_
   exact XE
  refine V_ret ?_
  obtain rfl := some_inj h
  show Post _ _ _ _ _
  exact ⟨.inr rfl, rfl, rfl, rfl⟩
theorem cf_impl_Form_isNormal : ∀ args w, (callFunc 184 args).run Tryz.prog w = .ok (.enter 184 args) w := run_callFunc Tryz.func184 (by kernel_rfl) (by kernel_rfl)
theorem s_impl_Form_isNormal {f1 : (Int × Int × Int)} {r : Bool} (h : r_impl_Form_isNormal f1 = some r) : CallS Tryz.prog 184 [.ag [Ti f1.1, Ti f1.2.1, Ti f1.2.2]] (Bo r) [] := by
  refine CallS_of_text (rs := [.t 2]) (vs := [.tmp 2]) Tryz.func184 rfl rfl (.cons rfl FitsL.nil) (by decide) 16 rfl ?_
  unfold r_impl_Form_isNormal at h
  show V _ _ ⟨.ag [Ti f1.1, Ti f1.2.1, Ti f1.2.2] :: bt 15 [], []⟩ _
  refine V_e (mb 16 2) [8] (s1 := ⟨.bot :: .pt 8 0 :: bt 14 [], [(8, .box [Ti f1.1, Ti f1.2.1, Ti f1.2.2])]⟩) ?_
  obtain ⟨t3, ht3, h⟩ := of_bind h
  have ht3 := some_inj ht3
  refine V_sreg (mb 16 4) [] (s1 := ⟨.bot :: .bot :: Bo t3 :: bt 13 [], []⟩) ?_ ?_
  ·refine XR 7 ?_
   refine XL_split (ltI (w64 (0 - f1.1)) f1.2.1) (fun hc2 => ?_) (fun hc2 => ?_)
   ·refine XL_takeC _ rfl rfl (by kernel_rfl) hc2 (X_of_Y0 rfl (E_field (.pt 8 1) Tryz.underlying27 rfl sz3 rfl (by kernel_rfl) (by intro hh; cases hh))) ?_
    refine XL_takeC _ rfl rfl (by kernel_rfl) hc2 (X_of_Y0 rfl (Y0_load1 (c := Ti f1.2.1) (cs := [Ti f1.2.2]) sc3 rfl (by kernel_rfl))) ?_
    refine XL_takeC _ rfl rfl (by kernel_rfl) hc2 (X_of_Y0 rfl (E_field (.pt 8 0) Tryz.underlying27 rfl sz3 rfl (by kernel_rfl) (by intro hh; cases hh))) ?_
    refine XL_takeC _ rfl rfl (by kernel_rfl) hc2 (X_of_Y0 rfl (Y0_load1 (c := Ti f1.1) (cs := [Ti f1.2.1, Ti f1.2.2]) sc3 rfl (by kernel_rfl))) ?_
    refine XL_takeC _ rfl rfl (by kernel_rfl) hc2 (X_of_Y0 rfl (Y0_lew (k := .i64) (a := f1.2.1) (b := f1.1) rfl (by kernel_rfl) (by kernel_rfl))) ?_
    refine XL_cons rfl (X_of_Y0 rfl (Y0_pick1 (b := ltI (w64 (0 - f1.1)) f1.2.1) (p := leI f1.2.1 f1.1) (q := false) rfl (by kernel_rfl) hc2 (by kernel_rfl))) ?_
    refine XR 1 ?_
    refine XL_nil ?_
    subst ht3
    kernel_rfl
   ·refine XL_skipT _ rfl rfl (by kernel_rfl) hc2 rfl ?_
    refine XL_skipT _ rfl rfl (by kernel_rfl) hc2 rfl ?_
    refine XL_skipT _ rfl rfl (by kernel_rfl) hc2 rfl ?_
    refine XL_skipT _ rfl rfl (by kernel_rfl) hc2 rfl ?_
    refine XL_skipT _ rfl rfl (by kernel_rfl) hc2 rfl ?_
    refine XL_cons rfl (X_of_Y0 rfl (Y0_pick0 (b := ltI (w64 (0 - f1.1)) f1.2.1) (p := leI f1.2.1 f1.1) (q := false) rfl (by kernel_rfl) hc2 (by kernel_rfl))) ?_
    refine XR 1 ?_
    refine XL_nil ?_
    subst ht3
    kernel_rfl
  refine V_ret ?_
  obtain rfl := some_inj h
  show Post _ _ _ _ _
  exact ⟨.inr rfl, rfl, rfl, rfl⟩
theorem cf_impl_Form_isReduced : ∀ args w, (callFunc 149 args).run Tryz.prog w = .ok (.enter 149 args) w := run_callFunc Tryz.func149 (by kernel_rfl) (by kernel_rfl)
theorem s_impl_Form_isReduced {f1 : (Int × Int × Int)} {r : Bool} (h : r_impl_Form_isReduced f1 = some r) : CallS Tryz.prog 149 [.ag [Ti f1.1, Ti f1.2.1, Ti f1.2.2]] (Bo r) [] := by
  refine CallS_of_text (rs := [.t 2]) (vs := [.tmp 2]) Tryz.func149 rfl rfl (.cons rfl FitsL.nil) (by decide) 24 rfl ?_
  unfold r_impl_Form_isReduced at h
  show V _ _ ⟨.ag [Ti f1.1, Ti f1.2.1, Ti f1.2.2] :: bt 23 [], []⟩ _
  refine V_e (mb 24 2) [8] (s1 := ⟨.bot :: .pt 8 0 :: bt 22 [], [(8, .box [Ti f1.1, Ti f1.2.1, Ti f1.2.2])]⟩) ?_
  obtain ⟨y2, hy2, h⟩ := of_bind h
  obtain ⟨t6, ht6, h⟩ := of_bind h
  have ht6 := some_inj ht6
  refine V_sreg (mb 24 4) [] (s1 := ⟨.bot :: .bot :: Bo t6 :: bt 21 [], []⟩) ?_ ?_
  ·refine XR 1 ?_
   refine XC (s_impl_Form_isNormal hy2) cf_impl_Form_isNormal rfl rfl rfl ?_
   refine XR 1 ?_
   refine XL_split y2 (fun hc3 => ?_) (fun hc3 => ?_)
   ·refine XL_takeC _ rfl rfl (by kernel_rfl) hc3 (X_of_Y0 rfl (E_field (.pt 8 0) Tryz.underlying27 rfl sz3 rfl (by kernel_rfl) (by intro hh; cases hh))) ?_
    refine XL_takeC _ rfl rfl (by kernel_rfl) hc3 (X_of_Y0 rfl (Y0_load1 (c := Ti f1.1) (cs := [Ti f1.2.1, Ti f1.2.2]) sc3 rfl (by kernel_rfl))) ?_
    refine XL_takeC _ rfl rfl (by kernel_rfl) hc3 (X_of_Y0 rfl (E_field (.pt 8 2) Tryz.underlying27 rfl sz3 rfl (by kernel_rfl) (by intro hh; cases hh))) ?_
    refine XL_takeC _ rfl rfl (by kernel_rfl) hc3 (X_of_Y0 rfl (Y0_load1 (c := Ti f1.2.2) (cs := []) sc3 rfl (by kernel_rfl))) ?_
    refine XL_takeC _ rfl rfl (by kernel_rfl) hc3 (X_of_Y0 rfl (Y0_ltw (k := .i64) (a := f1.1) (b := f1.2.2) rfl (by kernel_rfl) (by kernel_rfl))) ?_
    refine XL_takeC _ rfl rfl (by kernel_rfl) hc3 (X_of_Y0 rfl (E_move (Bo (ltI f1.1 f1.2.2)) rfl (by kernel_rfl))) ?_
    refine XL_split (ltI f1.1 f1.2.2) (fun hc4 => ?_) (fun hc4 => ?_)
    ·refine XL_skipF _ rfl rfl (by kernel_rfl) hc4 rfl ?_
     refine XL_skipF _ rfl rfl (by kernel_rfl) hc4 rfl ?_
     refine XL_skipF _ rfl rfl (by kernel_rfl) hc4 rfl ?_
     refine XL_skipF _ rfl rfl (by kernel_rfl) hc4 rfl ?_
     refine XL_skipF _ rfl rfl (by kernel_rfl) hc4 rfl ?_
     refine XL_skipF _ rfl rfl (by kernel_rfl) hc4 rfl ?_
     refine XL_skip2 rfl rfl (by kernel_rfl) rfl ?_
     refine XL_skip2 rfl rfl (by kernel_rfl) rfl ?_
     refine XL_skip2 rfl rfl (by kernel_rfl) rfl ?_
     refine XL_skipF _ rfl rfl (by kernel_rfl) hc4 rfl ?_
     refine XL_takeC _ rfl rfl (by kernel_rfl) hc3 (X_of_Y0 rfl (Y0_pick1 (b := ltI f1.1 f1.2.2) (p := true) (q := bif (eqI f1.1 f1.2.2) then (leI 0 f1.2.1) else false) rfl (by kernel_rfl) hc4 (by kernel_rfl))) ?_
     refine XL_cons rfl (X_of_Y0 rfl (Y0_pick1 (b := y2) (p := bif (ltI f1.1 f1.2.2) then true else (bif (eqI f1.1 f1.2.2) then (leI 0 f1.2.1) else false)) (q := false) rfl (by kernel_rfl) hc3 (by kernel_rfl))) ?_
     refine XR 1 ?_
     refine XL_nil ?_
     subst ht6
     kernel_rfl
    ·refine XL_takeC _ rfl rfl (by kernel_rfl) hc4 (X_of_Y0 rfl (E_field (.pt 8 0) Tryz.underlying27 rfl sz3 rfl (by kernel_rfl) (by intro hh; cases hh))) ?_
     refine XL_takeC _ rfl rfl (by kernel_rfl) hc4 (X_of_Y0 rfl (Y0_load1 (c := Ti f1.1) (cs := [Ti f1.2.1, Ti f1.2.2]) sc3 rfl (by kernel_rfl))) ?_
     refine XL_takeC _ rfl rfl (by kernel_rfl) hc4 (X_of_Y0 rfl (E_field (.pt 8 2) Tryz.underlying27 rfl sz3 rfl (by kernel_rfl) (by intro hh; cases hh))) ?_
     refine XL_takeC _ rfl rfl (by kernel_rfl) hc4 (X_of_Y0 rfl (Y0_load1 (c := Ti f1.2.2) (cs := []) sc3 rfl (by kernel_rfl))) ?_
     refine XL_takeC _ rfl rfl (by kernel_rfl) hc4 (X_of_Y0 rfl (Y0_eqw (k := .i64) (a := f1.1) (b := f1.2.2) rfl (by kernel_rfl) (by kernel_rfl))) ?_
     refine XL_takeC _ rfl rfl (by kernel_rfl) hc4 (X_of_Y0 rfl (E_move (Bo (eqI f1.1 f1.2.2)) rfl (by kernel_rfl))) ?_
     refine XL_split (eqI f1.1 f1.2.2) (fun hc5 => ?_) (fun hc5 => ?_)
     ·refine XL_takeC _ rfl rfl (by kernel_rfl) hc5 (X_of_Y0 rfl (E_field (.pt 8 1) Tryz.underlying27 rfl sz3 rfl (by kernel_rfl) (by intro hh; cases hh))) ?_
      refine XL_takeC _ rfl rfl (by kernel_rfl) hc5 (X_of_Y0 rfl (Y0_load1 (c := Ti f1.2.1) (cs := [Ti f1.2.2]) sc3 rfl (by kernel_rfl))) ?_
      refine XL_takeC _ rfl rfl (by kernel_rfl) hc5 (X_of_Y0 rfl (Y0_gew (k := .i64) (a := f1.2.1) (b := 0) rfl (by kernel_rfl) (by kernel_rfl))) ?_
      refine XL_takeC _ rfl rfl (by kernel_rfl) hc4 (X_of_Y0 rfl (Y0_pick1 (b := eqI f1.1 f1.2.2) (p := leI 0 f1.2.1) (q := false) rfl (by kernel_rfl) hc5 (by kernel_rfl))) ?_
      refine XL_takeC _ rfl rfl (by kernel_rfl) hc3 (X_of_Y0 rfl (Y0_pick0 (b := ltI f1.1 f1.2.2) (p := true) (q := bif (eqI f1.1 f1.2.2) then (leI 0 f1.2.1) else false) rfl (by kernel_rfl) hc4 (by kernel_rfl))) ?_
      refine XL_cons rfl (X_of_Y0 rfl (Y0_pick1 (b := y2) (p := bif (ltI f1.1 f1.2.2) then true else (bif (eqI f1.1 f1.2.2) then (leI 0 f1.2.1) else false)) (q := false) rfl (by kernel_rfl) hc3 (by kernel_rfl))) ?_
      refine XR 1 ?_
      refine XL_nil ?_
      subst ht6
      kernel_rfl
     ·refine XL_skipT _ rfl rfl (by kernel_rfl) hc5 rfl ?_
      refine XL_skipT _ rfl rfl (by kernel_rfl) hc5 rfl ?_
      refine XL_skipT _ rfl rfl (by kernel_rfl) hc5 rfl ?_
      refine XL_takeC _ rfl rfl (by kernel_rfl) hc4 (X_of_Y0 rfl (Y0_pick0 (b := eqI f1.1 f1.2.2) (p := leI 0 f1.2.1) (q := false) rfl (by kernel_rfl) hc5 (by kernel_rfl))) ?_
      refine XL_takeC _ rfl rfl (by kernel_rfl) hc3 (X_of_Y0 rfl (Y0_pick0 (b := ltI f1.1 f1.2.2) (p := true) (q := bif (eqI f1.1 f1.2.2) then (leI 0 f1.2.1) else false) rfl (by kernel_rfl) hc4 (by kernel_rfl))) ?_
      refine XL_cons rfl (X_of_Y0 rfl (Y0_pick1 (b := y2) (p := bif (ltI f1.1 f1.2.2) then true else (bif (eqI f1.1 f1.2.2) then (leI 0 f1.2.1) else false)) (q := false) rfl (by kernel_rfl) hc3 (by kernel_rfl))) ?_
      refine XR 1 ?_
      refine XL_nil ?_
      subst ht6
      kernel_rfl
   ·refine XL_skipT _ rfl rfl (by kernel_rfl) hc3 rfl ?_
    refine XL_skipT _ rfl rfl (by kernel_rfl) hc3 rfl ?_
    refine XL_skipT _ rfl rfl (by kernel_rfl) hc3 rfl ?_
    refine XL_skipT _ rfl rfl (by kernel_rfl) hc3 rfl ?_
    refine XL_skipT _ rfl rfl (by kernel_rfl) hc3 rfl ?_
    refine XL_skipT _ rfl rfl (by kernel_rfl) hc3 rfl ?_
    refine XL_skip2 rfl rfl (by kernel_rfl) rfl ?_
    refine XL_skip2 rfl rfl (by kernel_rfl) rfl ?_
    refine XL_skip2 rfl rfl (by kernel_rfl) rfl ?_
    refine XL_skip2 rfl rfl (by kernel_rfl) rfl ?_
    refine XL_skip2 rfl rfl (by kernel_rfl) rfl ?_
    refine XL_skip2 rfl rfl (by kernel_rfl) rfl ?_
    refine XL_skip2 rfl rfl (by kernel_rfl) rfl ?_
    refine XL_skip2 rfl rfl (by kernel_rfl) rfl ?_
    refine XL_skip2 rfl rfl (by kernel_rfl) rfl ?_
    refine XL_skip2 rfl rfl (by kernel_rfl) rfl ?_
    refine XL_skipT _ rfl rfl (by kernel_rfl) hc3 rfl ?_
    refine XL_cons rfl (X_of_Y0 rfl (Y0_pick0 (b := y2) (p := bif (ltI f1.1 f1.2.2) then true else (bif (eqI f1.1 f1.2.2) then (leI 0 f1.2.1) else false)) (q := false) rfl (by kernel_rfl) hc3 (by kernel_rfl))) ?_
    refine XR 1 ?_
    refine XL_nil ?_
    subst ht6
    kernel_rfl
  refine V_ret ?_
  obtain rfl := some_inj h
  show Post _ _ _ _ _
  exact ⟨.inr rfl, rfl, rfl, rfl⟩
theorem cf_impl_floorDiv : ∀ args w, (callFunc 185 args).run Tryz.prog w = .ok (.enter 185 args) w := run_callFunc Tryz.func185 (by kernel_rfl) (by kernel_rfl)
theorem s_impl_floorDiv {a1 : Int} {vm2 : Int} {r : Int} (h : r_impl_floorDiv a1 vm2 = some r) : CallS Tryz.prog 185 [I a1, I vm2] (I r) [] := by
  refine CallS_of_text (rs := [.t 4]) (vs := [.tmp 4]) Tryz.func185 rfl rfl (.cons rfl FitsL.nil) (by decide) 12 rfl ?_
  unfold r_impl_floorDiv at h
  show V _ _ ⟨I a1 :: I vm2 :: bt 10 [], []⟩ _
  refine V_e (mb 12 3) [] (s1 := ⟨I a1 :: I vm2 :: bt 10 [], []⟩) ?_
  obtain ⟨y3, hy3, h⟩ := of_bind h
  obtain ⟨z4, hz4, h⟩ := of_bind h
  obtain ⟨t5, ht5, h⟩ := of_sI h
  refine V_sreg (mb 12 16) [] (s1 := ⟨bt 4 (I t5 :: bt 7 []), []⟩) ?_ ?_
  ·refine XR 3 ?_
   refine XC (s_impl_mod hy3) cf_impl_mod rfl rfl rfl ?_
   refine XR 2 ?_
   refine L0 rfl rfl (Y0_quo64 (a := w64 (a1 - y3)) (b := vm2) rfl (by kernel_rfl) (by kernel_rfl) (nz_some hz4)) ?_
   refine XR 1 ?_
   refine XL_nil ?_
   subst ht5
   kernel_rfl
  refine V_ret ?_
  obtain rfl := some_inj h
  show Post _ _ _ _ _
  exact ⟨.inr rfl, rfl, rfl, rfl⟩
theorem cf_impl_Form_step : ∀ args w, (callFunc 150 args).run Tryz.prog w = .ok (.enter 150 args) w := run_callFunc Tryz.func150 (by kernel_rfl) (by kernel_rfl)
theorem s_impl_Form_step {f1 : (Int × Int × Int)} {r : (Int × Int × Int × Int)} (h : r_impl_Form_step f1 = some r) : CallS Tryz.prog 150 [.ag [Ti f1.1, Ti f1.2.1, Ti f1.2.2]] (.ag [Ti r.1, Ti r.2.1, Ti r.2.2.1, Ti r.2.2.2]) [] := by
  refine CallS_of_text (rs := [.w 2 4]) (vs := [.cell 2 57]) Tryz.func150 rfl rfl (.cons ⟨rfl, wd57⟩ FitsL.nil) (by decide) 22 rfl ?_
  unfold r_impl_Form_step at h
  show V _ _ ⟨.ag [Ti f1.1, Ti f1.2.1, Ti f1.2.2] :: bt 21 [], []⟩ _
  refine V_e (mb 22 6) [16, 8] (s1 := ⟨.bot :: .pt 8 0 :: .pt 16 0 :: bt 19 [], [(16, .box [Ti 0, Ti 0, Ti 0, Ti 0]), (8, .box [Ti f1.1, Ti f1.2.1, Ti f1.2.2])]⟩) ?_
  refine V_seq ?_
  refine V_block ?_
  obtain ⟨y2, hy2, h⟩ := of_bind h
  refine V_sreg (mb 22 14) [16, 8] (s1 := ⟨.bot :: .pt 8 0 :: .pt 16 0 :: Bo y2 :: bt 18 [], [(16, .box [Ti 0, Ti 0, Ti 0, Ti 0]), (8, .box [Ti f1.1, Ti f1.2.1, Ti f1.2.2])]⟩) ?_ ?_
  ·refine XR 1 ?_
   refine XC (s_impl_Form_isReduced hy2) cf_impl_Form_isReduced rfl rfl rfl ?_
   exact XE
  refine V_cond rfl (fun hc3 => ?_) (fun hc3 => ?_)
  ·have h := of_true h hc3
   obtain ⟨y4, hy4, h⟩ := of_bind h
   refine V_sreg (mb 22 4) [16] (s1 := ⟨.bot :: .bot :: .pt 16 0 :: bt 19 [], [(16, .box [Ti y4.1, Ti y4.2.1, Ti y4.2.2.1, Ti y4.2.2.2])]⟩) ?_ ?_
   ·refine XC (s_impl_one hy4) cf_impl_one rfl rfl rfl ?_
    exact XE
   refine V_ret ?_
   obtain rfl := some_inj h
   show Post _ _ _ _ _
   exact ⟨.inr rfl, rfl, rfl, rfl⟩
  ·have h := of_false h hc3
   obtain ⟨y5, hy5, h⟩ := of_bind h
   refine V_sreg (mb 22 134) [16, 8] (s1 := ⟨.bot :: .pt 8 0 :: .pt 16 0 :: bt 4 (Bo (!y5) :: bt 14 []), [(16, .box [Ti 0, Ti 0, Ti 0, Ti 0]), (8, .box [Ti f1.1, Ti f1.2.1, Ti f1.2.2])]⟩) ?_ ?_
   ·refine XR 1 ?_
    refine XC (s_impl_Form_isNormal hy5) cf_impl_Form_isNormal rfl rfl rfl ?_
    exact XE
   refine V_cond rfl (fun hc6 => ?_) (fun hc6 => ?_)
   ·have h := of_true h hc6
    obtain ⟨y7, hy7, h⟩ := of_bind h
    refine V_sreg (mb 22 4) [16] (s1 := ⟨.bot :: .bot :: .pt 16 0 :: bt 19 [], [(16, .box [Ti 1, Ti y7, Ti 0, Ti 1])]⟩) ?_ ?_
    ·refine XR 8 ?_
     refine XC (s_impl_floorDiv hy7) cf_impl_floorDiv rfl rfl rfl ?_
     refine L0 rfl rfl (Y0_build (cs := [Ti 1, Ti y7, Ti 0, Ti 1]) pl57 bt57 rfl rfl (by kernel_rfl)) ?_
     exact XE
    refine V_ret ?_
    obtain rfl := some_inj h
    show Post _ _ _ _ _
    exact ⟨.inr rfl, rfl, rfl, rfl⟩
   ·have h := of_false h hc6
    refine V_skip ?_
    show V _ _ _ _
    refine V_sreg (mb 22 4) [16] (s1 := ⟨.bot :: .bot :: .pt 16 0 :: bt 19 [], [(16, .box [Ti 0, Ti (-1), Ti 1, Ti 0])]⟩) ?_ ?_
    ·refine L0 rfl rfl (Y0_build (cs := [Ti 0, Ti (-1), Ti 1, Ti 0]) pl57 bt57 rfl rfl (by kernel_rfl)) ?_
     exact XE
    refine V_ret ?_
    obtain rfl := some_inj h
    show Post _ _ _ _ _
    exact ⟨.inr rfl, rfl, rfl, rfl⟩
theorem cf_impl_Form_at : ∀ args w, (callFunc 112 args).run Tryz.prog w = .ok (.enter 112 args) w := run_callFunc Tryz.func112 (by kernel_rfl) (by kernel_rfl)
theorem s_impl_Form_at {f1 : (Int × Int × Int)} {x2 : Int} {y3 : Int} {r : Int} (h : r_impl_Form_at f1 x2 y3 = some r) : CallS Tryz.prog 112 [.ag [Ti f1.1, Ti f1.2.1, Ti f1.2.2], I x2, I y3] (I r) [] := by
  refine CallS_of_text (rs := [.t 6]) (vs := [.tmp 6]) Tryz.func112 rfl rfl (.cons rfl FitsL.nil) (by decide) 27 rfl ?_
  unfold r_impl_Form_at at h
  show V _ _ ⟨.ag [Ti f1.1, Ti f1.2.1, Ti f1.2.2] :: I x2 :: I y3 :: bt 24 [], []⟩ _
  refine V_e (mb 27 14) [24] (s1 := ⟨.bot :: I x2 :: I y3 :: .pt 24 0 :: bt 23 [], [(24, .box [Ti f1.1, Ti f1.2.1, Ti f1.2.2])]⟩) ?_
  obtain ⟨t4, ht4, h⟩ := of_sI h
  refine V_sreg (mb 27 64) [] (s1 := ⟨bt 6 (I t4 :: bt 20 []), []⟩) ?_ ?_
  ·refine XR 21 ?_
   refine XL_nil ?_
   subst ht4
   kernel_rfl
  refine V_ret ?_
  obtain rfl := some_inj h
  show Post _ _ _ _ _
  exact ⟨.inr rfl, rfl, rfl, rfl⟩
theorem cf_impl_Form_polar : ∀ args w, (callFunc 113 args).run Tryz.prog w = .ok (.enter 113 args) w := run_callFunc Tryz.func113 (by kernel_rfl) (by kernel_rfl)
theorem s_impl_Form_polar {f1 : (Int × Int × Int)} {x2 : Int} {y3 : Int} {u4 : Int} {v5 : Int} {r : Int} (h : r_impl_Form_polar f1 x2 y3 u4 v5 = some r) : CallS Tryz.prog 113 [.ag [Ti f1.1, Ti f1.2.1, Ti f1.2.2], I x2, I y3, I u4, I v5] (I r) [] := by
  refine CallS_of_text (rs := [.t 10]) (vs := [.tmp 10]) Tryz.func113 rfl rfl (.cons rfl FitsL.nil) (by decide) 37 rfl ?_
  unfold r_impl_Form_polar at h
  show V _ _ ⟨.ag [Ti f1.1, Ti f1.2.1, Ti f1.2.2] :: I x2 :: I y3 :: I u4 :: I v5 :: bt 32 [], []⟩ _
  refine V_e (mb 37 62) [40] (s1 := ⟨.bot :: I x2 :: I y3 :: I u4 :: I v5 :: .pt 40 0 :: bt 31 [], [(40, .box [Ti f1.1, Ti f1.2.1, Ti f1.2.2])]⟩) ?_
  obtain ⟨t6, ht6, h⟩ := of_sI h
  refine V_sreg (mb 37 1024) [] (s1 := ⟨bt 10 (I t6 :: bt 26 []), []⟩) ?_ ?_
  ·refine XR 27 ?_
   refine XL_nil ?_
   subst ht6
   kernel_rfl
  refine V_ret ?_
  obtain rfl := some_inj h
  show Post _ _ _ _ _
  exact ⟨.inr rfl, rfl, rfl, rfl⟩
theorem cf_impl_Form_substitute : ∀ args w, (callFunc 55 args).run Tryz.prog w = .ok (.enter 55 args) w := run_callFunc Tryz.func55 (by kernel_rfl) (by kernel_rfl)
theorem s_impl_Form_substitute {f1 : (Int × Int × Int)} {vm2 : (Int × Int × Int × Int)} {r : (Int × Int × Int)} (h : r_impl_Form_substitute f1 vm2 = some r) : CallS Tryz.prog 55 [.ag [Ti f1.1, Ti f1.2.1, Ti f1.2.2], .ag [Ti vm2.1, Ti vm2.2.1, Ti vm2.2.2.1, Ti vm2.2.2.2]] (.ag [Ti r.1, Ti r.2.1, Ti r.2.2]) [] := by
  refine CallS_of_text (rs := [.w 4 3]) (vs := [.cell 4 27]) Tryz.func55 rfl rfl (.cons ⟨rfl, wd27⟩ FitsL.nil) (by decide) 28 rfl ?_
  unfold r_impl_Form_substitute at h
  show V _ _ ⟨.ag [Ti f1.1, Ti f1.2.1, Ti f1.2.2] :: .ag [Ti vm2.1, Ti vm2.2.1, Ti vm2.2.2.1, Ti vm2.2.2.2] :: bt 26 [], []⟩ _
  refine V_e (mb 28 28) [32, 24, 16] (s1 := ⟨.bot :: .bot :: .pt 16 0 :: .pt 24 0 :: .pt 32 0 :: bt 23 [], [(32, .box [Ti 0, Ti 0, Ti 0]), (24, .box [Ti vm2.1, Ti vm2.2.1, Ti vm2.2.2.1, Ti vm2.2.2.2]), (16, .box [Ti f1.1, Ti f1.2.1, Ti f1.2.2])]⟩) ?_
  obtain ⟨y3, hy3, h⟩ := of_bind h
  obtain ⟨y4, hy4, h⟩ := of_bind h
  obtain ⟨y5, hy5, h⟩ := of_bind h
  refine V_sdreg [0, 0, 2, 0, 8, 31, 0, 0, 128, 0, 512, 0, 2048, 0, 8192, 32767, 0, 0, 131072, 0, 524288, 2097151, 4194303, 8388607] 23 (cdm 23 [2929883521704, 2929883521666, 2929883521670, 2929883521066, 2929883521130, 2929883521365, 2929883515562, 2929883359914, 2929883376298, 2929880902314, 2929881164458, 2929841580714, 2929845775018, 2929212435114, 2929279543978, 2929525609813, 2923441072810, 2760232315562, 2777412184746, 183251937962, 458129844906, 1466015503701, 5864062014805]) (mb 28 16) [32] (s1 := ⟨bt 4 (.pt 32 0 :: bt 23 []), [(32, .box [Ti y3, Ti y4, Ti y5])]⟩) (by kernel_rfl) (by kernel_rfl) ?_ ?_
  ·refine DR 5 ?_
   refine DC 5 (s_impl_Form_at hy3) cf_impl_Form_at rfl rfl rfl rfl 10 rfl ?_
   refine DR 9 ?_
   refine DC 15 (s_impl_Form_polar hy4) cf_impl_Form_polar rfl rfl rfl rfl 20 rfl ?_
   refine DR 5 ?_
   refine DC 21 (s_impl_Form_at hy5) cf_impl_Form_at rfl rfl rfl rfl 26 rfl ?_
   refine DE_0 22 (.ag [Ti y3, Ti y4, Ti y5]) (by kernel_rfl) rfl rfl rfl (gsat_none rfl) (by kernel_rfl) (Y0_build (cs := [Ti y3, Ti y4, Ti y5]) pl27 bt27 rfl rfl (by kernel_rfl)) 27 rfl ?_
   refine DA 0 ?_
   exact XE
  refine V_ret ?_
  obtain rfl := some_inj h
  show Post _ _ _ _ _
  exact ⟨.inr rfl, rfl, rfl, rfl⟩
theorem cf_impl_Matrix_times : ∀ args w, (callFunc 151 args).run Tryz.prog w = .ok (.enter 151 args) w := run_callFunc Tryz.func151 (by kernel_rfl) (by kernel_rfl)
theorem s_impl_Matrix_times {vm1 : (Int × Int × Int × Int)} {vn2 : (Int × Int × Int × Int)} {r : (Int × Int × Int × Int)} (h : r_impl_Matrix_times vm1 vn2 = some r) : CallS Tryz.prog 151 [.ag [Ti vm1.1, Ti vm1.2.1, Ti vm1.2.2.1, Ti vm1.2.2.2], .ag [Ti vn2.1, Ti vn2.2.1, Ti vn2.2.2.1, Ti vn2.2.2.2]] (.ag [Ti r.1, Ti r.2.1, Ti r.2.2.1, Ti r.2.2.2]) [] := by
  refine CallS_of_text (rs := [.w 4 4]) (vs := [.cell 4 57]) Tryz.func151 rfl rfl (.cons ⟨rfl, wd57⟩ FitsL.nil) (by decide) 50 rfl ?_
  unfold r_impl_Matrix_times at h
  show V _ _ ⟨.ag [Ti vm1.1, Ti vm1.2.1, Ti vm1.2.2.1, Ti vm1.2.2.2] :: .ag [Ti vn2.1, Ti vn2.2.1, Ti vn2.2.2.1, Ti vn2.2.2.2] :: bt 48 [], []⟩ _
  refine V_e (mb 50 28) [32, 24, 16] (s1 := ⟨.bot :: .bot :: .pt 16 0 :: .pt 24 0 :: .pt 32 0 :: bt 45 [], [(32, .box [Ti 0, Ti 0, Ti 0, Ti 0]), (24, .box [Ti vn2.1, Ti vn2.2.1, Ti vn2.2.2.1, Ti vn2.2.2.2]), (16, .box [Ti vm1.1, Ti vm1.2.1, Ti vm1.2.2.1, Ti vm1.2.2.2])]⟩) ?_
  obtain ⟨f3, hf3, h⟩ := of_sI h
  obtain ⟨f4, hf4, h⟩ := of_sI h
  obtain ⟨f5, hf5, h⟩ := of_sI h
  obtain ⟨f6, hf6, h⟩ := of_sI h
  refine V_sreg (mb 50 16) [32] (s1 := ⟨bt 4 (.pt 32 0 :: bt 45 []), [(32, .box [Ti f3, Ti f4, Ti f5, Ti f6])]⟩) ?_ ?_
  ·refine XR 44 ?_
   refine L0 rfl rfl (Y0_build (cs := [Ti (w64 ((w64 (vm1.1 * vn2.1)) + (w64 (vm1.2.1 * vn2.2.2.1)))), Ti (w64 ((w64 (vm1.1 * vn2.2.1)) + (w64 (vm1.2.1 * vn2.2.2.2)))), Ti (w64 ((w64 (vm1.2.2.1 * vn2.1)) + (w64 (vm1.2.2.2 * vn2.2.2.1)))), Ti (w64 ((w64 (vm1.2.2.1 * vn2.2.1)) + (w64 (vm1.2.2.2 * vn2.2.2.2))))]) pl57 bt57 rfl rfl (by kernel_rfl)) ?_
   refine XR 1 ?_
   refine XL_nil ?_
   subst hf3 hf4 hf5 hf6
   kernel_rfl
  refine V_ret ?_
  obtain rfl := some_inj h
  show Post _ _ _ _ _
  exact ⟨.inr rfl, rfl, rfl, rfl⟩
theorem cf_impl_reduce : ∀ args w, (callFunc 98 args).run Tryz.prog w = .ok (.enter 98 args) w := run_callFunc Tryz.func98 (by kernel_rfl) (by kernel_rfl)
theorem s_impl_reduce {f1 : (Int × Int × Int)} {r : (((Int × Int × Int)) × ((Int × Int × Int × Int)))} (h : r_impl_reduce f1 = some r) : CallS Tryz.prog 98 [.ag [Ti f1.1, Ti f1.2.1, Ti f1.2.2]] (.tc (.ag [Ti r.1.1, Ti r.1.2.1, Ti r.1.2.2]) (.tc (.ag [Ti r.2.1, Ti r.2.2.1, Ti r.2.2.2.1, Ti r.2.2.2.2]) .tn)) [] := by
  refine CallS_of_text (rs := [.w 2 3, .w 3 4]) (vs := [.cell 2 27, .cell 3 57]) Tryz.func98 rfl rfl (.cons ⟨rfl, wd27⟩ (.cons ⟨rfl, wd57⟩ FitsL.nil)) (by decide) 20 rfl ?_
  unfold r_impl_reduce at h
  show V _ _ ⟨.ag [Ti f1.1, Ti f1.2.1, Ti f1.2.2] :: bt 19 [], []⟩ _
  refine V_e (mb 20 14) [24, 16, 8] (s1 := ⟨.bot :: .pt 8 0 :: .pt 16 0 :: .pt 24 0 :: bt 16 [], [(24, .box [Ti 0, Ti 0, Ti 0, Ti 0]), (16, .box [Ti 0, Ti 0, Ti 0]), (8, .box [Ti f1.1, Ti f1.2.1, Ti f1.2.2])]⟩) ?_
  obtain ⟨y2, hy2, h⟩ := of_bind h
  refine V_sreg (mb 20 30) [32, 24, 16, 8] (s1 := ⟨.bot :: .pt 8 0 :: .pt 16 0 :: .pt 24 0 :: .pt 32 0 :: bt 15 [], [(32, .box [Ti y2.1, Ti y2.2.1, Ti y2.2.2.1, Ti y2.2.2.2]), (24, .box [Ti 0, Ti 0, Ti 0, Ti 0]), (16, .box [Ti 0, Ti 0, Ti 0]), (8, .box [Ti f1.1, Ti f1.2.1, Ti f1.2.2])]⟩) ?_ ?_
  ·refine XC (s_impl_one hy2) cf_impl_one rfl rfl rfl ?_
   exact XE
  refine V_seq ?_
  obtain ⟨o11, hLo11, h⟩ := of_bind h
  refine V_toK (mb 20 30) [32, 24, 16, 8] (s1 := ⟨.bot :: .pt 8 0 :: .pt 16 0 :: .pt 24 0 :: .pt 32 0 :: bt 15 [], [(32, .box [Ti o11.1, Ti o11.2.1, Ti o11.2.2.1, Ti o11.2.2.2.1]), (24, .box [Ti 0, Ti 0, Ti 0, Ti 0]), (16, .box [Ti 0, Ti 0, Ti 0]), (8, .box [Ti o11.2.2.2.2.1, Ti o11.2.2.2.2.2.1, Ti o11.2.2.2.2.2.2])]⟩) ?_ ?_
  ·clear h
   refine V_block (V_loop (fun n s => ∃ (f3 : Int) (f4 : Int) (f5 : Int) (f6 : Int) (f7 : Int) (f8 : Int) (f9 : Int), s.keep (mb 20 30) [32, 24, 16, 8] = (⟨.bot :: .pt 8 0 :: .pt 16 0 :: .pt 24 0 :: .pt 32 0 :: bt 15 [], [(32, .box [Ti f3, Ti f4, Ti f5, Ti f6]), (24, .box [Ti 0, Ti 0, Ti 0, Ti 0]), (16, .box [Ti 0, Ti 0, Ti 0]), (8, .box [Ti f7, Ti f8, Ti f9])]⟩ : St) ∧ r_impl_reduce_L10 n f3 f4 f5 f6 f7 f8 f9 = some o11) FU ⟨_, _, _, _, _, _, _,  by rfl, hLo11⟩ ?_)
   clear hLo11
   rintro n s ⟨f3, f4, f5, f6, f7, f8, f9, hs, h⟩
   refine V_keep _ _ hs ?_
   clear hs
   cases n with
   | zero => cases h
   | succ n =>
    rw [r_impl_reduce_L10] at h
    refine V_seq ?_
    obtain ⟨y12, hy12, h⟩ := of_bind h
    refine V_sreg (mb 20 542) [32, 24, 16, 8] (s1 := ⟨.bot :: .pt 8 0 :: .pt 16 0 :: .pt 24 0 :: .pt 32 0 :: bt 4 (Bo (!y12) :: bt 10 []), [(32, .box [Ti f3, Ti f4, Ti f5, Ti f6]), (24, .box [Ti 0, Ti 0, Ti 0, Ti 0]), (16, .box [Ti 0, Ti 0, Ti 0]), (8, .box [Ti f7, Ti f8, Ti f9])]⟩) ?_ ?_
    ·refine XR 1 ?_
     refine XC (s_impl_Form_isReduced hy12) cf_impl_Form_isReduced rfl rfl rfl ?_
     exact XE
    refine V_cond rfl (fun hc13 => ?_) (fun hc13 => ?_)
    ·have h := of_true h hc13
     refine V_skip ?_
     show V _ _ _ _
     refine V_block ?_
     obtain ⟨y14, hy14, h⟩ := of_bind h
     refine V_sreg (mb 20 62) [40, 32, 24, 16, 8] (s1 := ⟨.bot :: .pt 8 0 :: .pt 16 0 :: .pt 24 0 :: .pt 32 0 :: .pt 40 0 :: bt 14 [], [(40, .box [Ti y14.1, Ti y14.2.1, Ti y14.2.2.1, Ti y14.2.2.2]), (32, .box [Ti f3, Ti f4, Ti f5, Ti f6]), (24, .box [Ti 0, Ti 0, Ti 0, Ti 0]), (16, .box [Ti 0, Ti 0, Ti 0]), (8, .box [Ti f7, Ti f8, Ti f9])]⟩) ?_ ?_
     ·refine XR 1 ?_
      refine XC (s_impl_Form_step hy14) cf_impl_Form_step rfl rfl rfl ?_
      exact XE
     obtain ⟨y15, hy15, h⟩ := of_bind h
     refine V_sreg (mb 20 62) [40, 32, 24, 16, 8] (s1 := ⟨.bot :: .pt 8 0 :: .pt 16 0 :: .pt 24 0 :: .pt 32 0 :: .pt 40 0 :: bt 14 [], [(40, .box [Ti y14.1, Ti y14.2.1, Ti y14.2.2.1, Ti y14.2.2.2]), (32, .box [Ti f3, Ti f4, Ti f5, Ti f6]), (24, .box [Ti 0, Ti 0, Ti 0, Ti 0]), (16, .box [Ti 0, Ti 0, Ti 0]), (8, .box [Ti y15.1, Ti y15.2.1, Ti y15.2.2])]⟩) ?_ ?_
     ·refine XR 2 ?_
      refine XC (s_impl_Form_substitute hy15) cf_impl_Form_substitute rfl rfl rfl ?_
      exact XE
     obtain ⟨y16, hy16, h⟩ := of_bind h
     refine V_reg (mb 20 30) [32, 24, 16, 8] (s1 := ⟨.bot :: .pt 8 0 :: .pt 16 0 :: .pt 24 0 :: .pt 32 0 :: bt 15 [], [(32, .box [Ti y16.1, Ti y16.2.1, Ti y16.2.2.1, Ti y16.2.2.2]), (24, .box [Ti 0, Ti 0, Ti 0, Ti 0]), (16, .box [Ti 0, Ti 0, Ti 0]), (8, .box [Ti y15.1, Ti y15.2.1, Ti y15.2.2])]⟩) ?_ ?_
     ·refine XR 2 ?_
      refine XC (s_impl_Matrix_times hy16) cf_impl_Matrix_times rfl rfl rfl ?_
      exact XE
     exact ⟨n, Nat.lt_succ_self n, _, _, _, _, _, _, _,  by rfl, h⟩
    ·have h := of_false h hc13
     refine V_exit ?_
     obtain rfl := some_inj h
     show St.keep _ _ _ = _
     rfl
  show V _ _ _ _
  refine V_sdreg [0, 0, 1, 7] 3 [[.z, .b, .z], [.b, .z, .r 16], [.a, .b, .z]] (mb 20 12) [24, 16] (s1 := ⟨.bot :: .bot :: .pt 16 0 :: .pt 24 0 :: bt 16 [], [(24, .box [Ti o11.1, Ti o11.2.1, Ti o11.2.2.1, Ti o11.2.2.2.1]), (16, .box [Ti o11.2.2.2.2.1, Ti o11.2.2.2.2.2.1, Ti o11.2.2.2.2.2.2])]⟩) (by kernel_rfl) (by kernel_rfl) ?_ ?_
  ·refine DA 3 ?_
   exact XE
  refine V_ret ?_
  obtain rfl := some_inj h
  show Post _ _ _ _ _
  exact ⟨.inr rfl, rfl, rfl, rfl⟩
theorem cf_impl_reduced : ∀ args w, (callFunc 54 args).run Tryz.prog w = .ok (.enter 54 args) w := run_callFunc Tryz.func54 (by kernel_rfl) (by kernel_rfl)
theorem s_impl_reduced {f1 : (Int × Int × Int)} {r : (Int × Int × Int)} (h : r_impl_reduced f1 = some r) : CallS Tryz.prog 54 [.ag [Ti f1.1, Ti f1.2.1, Ti f1.2.2]] (.ag [Ti r.1, Ti r.2.1, Ti r.2.2]) [] := by
  refine CallS_of_text (rs := [.w 2 3]) (vs := [.cell 2 27]) Tryz.func54 rfl rfl (.cons ⟨rfl, wd27⟩ FitsL.nil) (by decide) 11 rfl ?_
  unfold r_impl_reduced at h
  show V _ _ ⟨.ag [Ti f1.1, Ti f1.2.1, Ti f1.2.2] :: bt 10 [], []⟩ _
  refine V_e (mb 11 6) [16, 8] (s1 := ⟨.bot :: .pt 8 0 :: .pt 16 0 :: bt 8 [], [(16, .box [Ti 0, Ti 0, Ti 0]), (8, .box [Ti f1.1, Ti f1.2.1, Ti f1.2.2])]⟩) ?_
  obtain ⟨y2, hy2, h⟩ := of_bind h
  refine V_sreg (mb 11 12) [24, 16] (s1 := ⟨.bot :: .bot :: .pt 16 0 :: .pt 24 0 :: bt 7 [], [(24, .box [Ti y2.1.1, Ti y2.1.2.1, Ti y2.1.2.2]), (16, .box [Ti 0, Ti 0, Ti 0])]⟩) ?_ ?_
  ·refine XR 1 ?_
   refine XC (s_impl_reduce hy2) cf_impl_reduce rfl rfl rfl ?_
   exact XE
  refine V_e (mb 11 4) [16] (s1 := ⟨.bot :: .bot :: .pt 16 0 :: bt 8 [], [(16, .box [Ti y2.1.1, Ti y2.1.2.1, Ti y2.1.2.2])]⟩) ?_
  refine V_ret ?_
  obtain rfl := some_inj h
  show Post _ _ _ _ _
  exact ⟨.inr rfl, rfl, rfl, rfl⟩
theorem cf_impl_hasForm : ∀ args w, (callFunc 57 args).run Tryz.prog w = .ok (.enter 57 args) w := run_callFunc Tryz.func57 (by kernel_rfl) (by kernel_rfl)
theorem s_impl_hasForm {list1 : List ((Int × Int × Int))} {f2 : (Int × Int × Int)} {r : Bool} (h : r_impl_hasForm list1 f2 = some r) : CallS Tryz.prog 57 [.c (.sl (list1.map c27)), .ag [Ti f2.1, Ti f2.2.1, Ti f2.2.2]] (Bo r) [] := by
  refine CallS_of_text (rs := [.t 4]) (vs := [.tmp 4]) Tryz.func57 rfl rfl (.cons rfl FitsL.nil) (by decide) 17 rfl ?_
  unfold r_impl_hasForm at h
  show V _ _ ⟨.c (.sl (list1.map c27)) :: .ag [Ti f2.1, Ti f2.2.1, Ti f2.2.2] :: bt 15 [], []⟩ _
  refine V_e (mb 17 9) [24] (s1 := ⟨.c (.sl (list1.map c27)) :: .bot :: .bot :: .pt 24 0 :: bt 13 [], [(24, .box [Ti f2.1, Ti f2.2.1, Ti f2.2.2])]⟩) ?_
  refine V_seq ?_
  refine V_sreg (mb 17 904) [24] (s1 := ⟨bt 3 (.pt 24 0 :: bt 3 (.c (.sl (list1.map c27)) :: I ((list1.length : Int)) :: I 0 :: bt 7 [])), [(24, .box [Ti f2.1, Ti f2.2.1, Ti f2.2.2])]⟩) ?_ ?_
  ·refine XR 1 ?_
   refine L0 rfl rfl (Y0_lenM (c := c27) (xs := list1) Tryz.underlying24 rfl (by kernel_rfl)) ?_
   exact XE
  obtain ⟨qo5, hLo5, hko5⟩ := of_bind h
  refine V_toS (q := qo5) (S := fun o5 => ⟨bt 17 [], []⟩) (mb 17 0) [] ?_ ?_
  ·refine V_block (V_loop (fun n s => ∃ (t3 : Int), s.keep (mb 17 904) [24] = (⟨bt 3 (.pt 24 0 :: bt 3 (.c (.sl (list1.map c27)) :: I ((list1.length : Int)) :: I t3 :: bt 7 [])), [(24, .box [Ti f2.1, Ti f2.2.1, Ti f2.2.2])]⟩ : St) ∧ r_impl_hasForm_L4 f2 list1 n t3 = some qo5) FU ⟨_,  by rfl, hLo5⟩ ?_)
   clear hLo5
   rintro n s ⟨t3, hs, h⟩
   refine V_keep _ _ hs ?_
   clear hs
   cases n with
   | zero => cases h
   | succ n =>
    rw [r_impl_hasForm_L4] at h
    refine V_e (mb 17 1928) [24] (s1 := ⟨bt 3 (.pt 24 0 :: bt 3 (.c (.sl (list1.map c27)) :: I ((list1.length : Int)) :: I t3 :: Bo (ltI t3 ((list1.length : Int))) :: bt 6 [])), [(24, .box [Ti f2.1, Ti f2.2.1, Ti f2.2.2])]⟩) ?_
    refine V_seq ?_
    refine V_cond rfl (fun hc6 => ?_) (fun hc6 => ?_)
    ·have h := of_true h hc6
     refine V_skip ?_
     show V _ _ _ _
     refine V_seq ?_
     refine V_block ?_
     obtain ⟨e7, he7, h⟩ := of_bind h
     refine V_sreg (mb 17 968) [48, 24] (s1 := ⟨bt 3 (.pt 24 0 :: .bot :: .bot :: .pt 48 0 :: .c (.sl (list1.map c27)) :: I ((list1.length : Int)) :: I t3 :: bt 7 []), [(48, .box [Ti e7.1, Ti e7.2.1, Ti e7.2.2]), (24, .box [Ti f2.1, Ti f2.2.1, Ti f2.2.2])]⟩) ?_ ?_
     ·refine L0 rfl rfl (Y0_idxM (c := c27) (xs := list1) (v := e7) (n := t3) Tryz.underlying24 sz27 rfl (by kernel_rfl) (by kernel_rfl) he7) ?_
      exact XE
     obtain ⟨t8, ht8, h⟩ := of_bind h
     have ht8 := some_inj ht8
     refine V_sreg (mb 17 33672) [24] (s1 := ⟨bt 3 (.pt 24 0 :: bt 3 (.c (.sl (list1.map c27)) :: I ((list1.length : Int)) :: I t3 :: bt 5 (Bo t8 :: .bot :: []))), [(24, .box [Ti f2.1, Ti f2.2.1, Ti f2.2.2])]⟩) ?_ ?_
     ·refine XR 2 ?_
      refine L0 rfl rfl (Y0_eqg3 (a0 := f2.1) (b0 := e7.1) (a1 := f2.2.1) (b1 := e7.2.1) (a2 := f2.2.2) (b2 := e7.2.2) eqg27 rfl (by kernel_rfl) (by kernel_rfl)) ?_
      refine XL_nil ?_
      subst ht8
      kernel_rfl
     refine V_cond rfl (fun hc9 => ?_) (fun hc9 => ?_)
     ·have h := of_true h hc9
      refine V_e (mb 17 16) [] (s1 := ⟨bt 4 (Bo true :: bt 12 []), []⟩) ?_
      refine V_ret ?_
      obtain rfl := some_inj h
      have h := hko5
      obtain rfl := some_inj h
      show Post _ _ _ _ _
      exact ⟨.inr rfl, rfl, rfl, rfl⟩
     ·have h := of_false h hc9
      refine V_skip ?_
      show V _ _ _ _
      obtain ⟨t10, ht10, h⟩ := of_sI h
      refine V_reg (mb 17 904) [24] (s1 := ⟨bt 3 (.pt 24 0 :: bt 3 (.c (.sl (list1.map c27)) :: I ((list1.length : Int)) :: I t10 :: bt 7 [])), [(24, .box [Ti f2.1, Ti f2.2.1, Ti f2.2.2])]⟩) ?_ ?_
      ·refine XR 2 ?_
       refine XL_nil ?_
       subst ht10
       kernel_rfl
      exact ⟨n, Nat.lt_succ_self n, _,  by rfl, h⟩
    ·have h := of_false h hc6
     refine V_exit ?_
     obtain rfl := some_inj h
     exact ⟨_, rfl, by rfl⟩
  rintro o5 rfl
  have h := hko5
  clear hko5
  show V _ _ _ _
  refine V_e (mb 17 16) [] (s1 := ⟨bt 4 (Bo false :: bt 12 []), []⟩) ?_
  refine V_ret ?_
  obtain rfl := some_inj h
  show Post _ _ _ _ _
  exact ⟨.inr rfl, rfl, rfl, rfl⟩
theorem cf_impl_sortForms_1 : ∀ args w, (callFunc 116 args).run Tryz.prog w = .ok (.enter 116 args) w := run_callFunc Tryz.func116 (by kernel_rfl) (by kernel_rfl)
theorem s_impl_sortForms_1 {i1 : Int} {k2 : Int} {cap3 : List ((Int × Int × Int))} {r : Bool} (h : r_impl_sortForms_1 i1 k2 cap3 = some r) : CallS Tryz.prog 116 [I i1, I k2, .pe [.sl (cap3.map c27)]] (Bo r) [] := by
  refine CallS_of_text (rs := [.t 5]) (vs := [.tmp 5]) Tryz.func116 rfl rfl (.cons rfl FitsL.nil) (by decide) 43 rfl ?_
  unfold r_impl_sortForms_1 at h
  show V _ _ ⟨I i1 :: I k2 :: .pe [.sl (cap3.map c27)] :: bt 40 [], []⟩ _
  refine V_e (mb 43 7) [] (s1 := ⟨I i1 :: I k2 :: .pe [.sl (cap3.map c27)] :: bt 40 [], []⟩) ?_
  obtain ⟨e4, he4, h⟩ := of_bind h
  obtain ⟨e5, he5, h⟩ := of_bind h
  refine V_sdreg [0, 0, 3, 7, 0, 0, 48, 112, 0, 0, 783, 2047] 11 [[.z, .b, .z, .z, .b, .b, .b, .b, .b, .b, .z], [.b, .z, .z, .z, .b, .b, .b, .b, .b, .b, .z], [.a, .a, .z, .z, .b, .b, .b, .b, .b, .b, .z], [.a, .a, .a, .z, .b, .b, .b, .b, .b, .b, .z], [.b, .b, .b, .b, .z, .b, .z, .z, .b, .b, .r 48], [.b, .b, .b, .b, .b, .z, .z, .z, .b, .b, .r 48], [.b, .b, .b, .b, .a, .a, .z, .z, .b, .b, .r 48], [.b, .b, .b, .b, .a, .a, .a, .z, .b, .b, .r 48], [.b, .b, .b, .b, .b, .b, .b, .b, .z, .b, .z], [.b, .b, .b, .b, .b, .b, .b, .b, .b, .z, .z], [.a, .a, .a, .a, .b, .b, .b, .b, .a, .a, .z]] (mb 43 192) [56, 48] (s1 := ⟨bt 6 (.pt 48 0 :: .pt 56 0 :: bt 35 []), [(56, .box [Ti e5.1, Ti e5.2.1, Ti e5.2.2]), (48, .box [Ti e4.1, Ti e4.2.1, Ti e4.2.2])]⟩) (by kernel_rfl) (by kernel_rfl) ?_ ?_
  ·refine DR 2 ?_
   refine DE_0 2 (.pe [Ti e4.1, Ti e4.2.1, Ti e4.2.2]) (by kernel_rfl) rfl rfl rfl (gsat_none rfl) (by kernel_rfl) (Y0_idxM (c := c27) (xs := cap3) (v := e4) (n := i1) Tryz.underlying24 sz27 rfl (by kernel_rfl) (by kernel_rfl) he4) 10 rfl ?_
   refine DR 3 ?_
   refine DE_0 6 (.pe [Ti e5.1, Ti e5.2.1, Ti e5.2.2]) (by kernel_rfl) rfl rfl rfl (gsat_none rfl) (by kernel_rfl) (Y0_idxM (c := c27) (xs := cap3) (v := e5) (n := k2) Tryz.underlying24 sz27 rfl (by kernel_rfl) (by kernel_rfl) he5) 14 rfl ?_
   refine DA 4 ?_
   exact XE
  refine V_seq ?_
  refine V_block ?_
  refine V_e (mb 43 65728) [56, 48] (s1 := ⟨bt 6 (.pt 48 0 :: .pt 56 0 :: bt 8 (Bo (!eqI e4.1 e5.1) :: bt 26 [])), [(56, .box [Ti e5.1, Ti e5.2.1, Ti e5.2.2]), (48, .box [Ti e4.1, Ti e4.2.1, Ti e4.2.2])]⟩) ?_
  refine V_cond rfl (fun hc6 => ?_) (fun hc6 => ?_)
  ·have h := of_true h hc6
   refine V_e (mb 43 32) [] (s1 := ⟨bt 5 (Bo (ltI e4.1 e5.1) :: bt 37 []), []⟩) ?_
   refine V_ret ?_
   obtain rfl := some_inj h
   show Post _ _ _ _ _
   exact ⟨.inr rfl, rfl, rfl, rfl⟩
  ·have h := of_false h hc6
   refine V_e (mb 43 134217920) [56, 48] (s1 := ⟨bt 6 (.pt 48 0 :: .pt 56 0 :: bt 19 (Bo (!eqI e4.2.1 e5.2.1) :: bt 15 [])), [(56, .box [Ti e5.1, Ti e5.2.1, Ti e5.2.2]), (48, .box [Ti e4.1, Ti e4.2.1, Ti e4.2.2])]⟩) ?_
   refine V_cond rfl (fun hc7 => ?_) (fun hc7 => ?_)
   ·have h := of_true h hc7
    refine V_e (mb 43 32) [] (s1 := ⟨bt 5 (Bo (ltI e4.2.1 e5.2.1) :: bt 37 []), []⟩) ?_
    refine V_ret ?_
    obtain rfl := some_inj h
    show Post _ _ _ _ _
    exact ⟨.inr rfl, rfl, rfl, rfl⟩
   ·have h := of_false h hc7
    refine V_skip ?_
    show V _ _ _ _
    refine V_e (mb 43 32) [] (s1 := ⟨bt 5 (Bo (ltI e4.2.2 e5.2.2) :: bt 37 []), []⟩) ?_
    refine V_ret ?_
    obtain rfl := some_inj h
    show Post _ _ _ _ _
    exact ⟨.inr rfl, rfl, rfl, rfl⟩
theorem cf_sort_insertionSort_func : ∀ args w, (callFunc 200 args).run Tryz.prog w = .ok (.enter 200 args) w := run_callFunc Tryz.func200 (by kernel_rfl) (by kernel_rfl)
theorem s_sort_insertionSort_func {xs0 : List ((Int × Int × Int))} {a1 : Int} {b2 : Int} {l0 lb : Loc} {b : Nat} (hb : lb.blk = some b) {r : List ((Int × Int × Int))} (h : r_sort_insertionSort_func xs0 a1 b2 = some r) : ∀ σ : Nat → Loc, σ 90000 = l0 → σ 90008 = lb → CallRs Tryz.prog 200 σ [.ag [.v (lsV b), .v (swV l0)], I a1, I b2] [(90000, .arr 27 3 (xs0.map c27)), (90008, .box [.v (ownVal l0)])] (.tn) [] [(90000, .arr 27 3 (r.map c27)), (90008, .box [.v (ownVal l0)])] := by
  intro σ e1 e2
  subst e1 e2
  refine CallRs_of_text (rs := []) (vs := []) Tryz.func200 rfl rfl FitsL.nil (by decide) 35 rfl rfl ?_
  unfold r_sort_insertionSort_func at h
  show V _ _ ⟨.ag [.v (lsV b), .v (swV (σ 90000))] :: I a1 :: I b2 :: bt 32 [], [(90000, .parr (σ 90000) 27 3 (xs0.map c27)), (90008, .pbox (σ 90008) [.v (ownVal (σ 90000))])]⟩ _
  refine V_e (mb 35 14) [24, 90000, 90008] (s1 := ⟨.bot :: I a1 :: I b2 :: .pt 24 0 :: bt 31 [], [(24, .box [.v (lsV b), .v (swV (σ 90000))]), (90000, .parr (σ 90000) 27 3 (xs0.map c27)), (90008, .pbox (σ 90008) [.v (ownVal (σ 90000))])]⟩) ?_
  obtain ⟨i4, hi4, h⟩ := of_sI h
  refine V_sreg (mb 35 78) [24, 90000, 90008] (s1 := ⟨.bot :: I a1 :: I b2 :: .pt 24 0 :: .bot :: .bot :: I i4 :: bt 28 [], [(24, .box [.v (lsV b), .v (swV (σ 90000))]), (90000, .parr (σ 90000) 27 3 (xs0.map c27)), (90008, .pbox (σ 90008) [.v (ownVal (σ 90000))])]⟩) ?_ ?_
  ·refine XR 3 ?_
   refine XL_nil ?_
   subst hi4
   kernel_rfl
  obtain ⟨o8, hLo8, h⟩ := of_bind h
  refine V_toK (mb 35 0) [90000, 90008] (s1 := ⟨bt 35 [], [(90000, .parr (σ 90000) 27 3 (o8.map c27)), (90008, .pbox (σ 90008) [.v (ownVal (σ 90000))])]⟩) ?_ ?_
  ·clear h
   refine V_block (V_loop (fun n s => ∃ (i5 : Int) (l6 : List ((Int × Int × Int))), s.keep (mb 35 78) [24, 90000, 90008] = (⟨.bot :: I a1 :: I b2 :: .pt 24 0 :: .bot :: .bot :: I i5 :: bt 28 [], [(24, .box [.v (lsV b), .v (swV (σ 90000))]), (90000, .parr (σ 90000) 27 3 (l6.map c27)), (90008, .pbox (σ 90008) [.v (ownVal (σ 90000))])]⟩ : St) ∧ r_sort_insertionSort_func_L7 a1 b2 n i5 l6 = some o8) FU ⟨_, _,  by rfl, hLo8⟩ ?_)
   clear hLo8
   rintro n s ⟨i5, l6, hs, h⟩
   refine V_keep _ _ hs ?_
   clear hs
   cases n with
   | zero => cases h
   | succ n =>
    rw [r_sort_insertionSort_func_L7] at h
    refine V_seq ?_
    refine V_e (mb 35 4174) [24, 90000, 90008] (s1 := ⟨.bot :: I a1 :: I b2 :: .pt 24 0 :: .bot :: .bot :: I i5 :: bt 5 (Bo (ltI i5 b2) :: bt 22 []), [(24, .box [.v (lsV b), .v (swV (σ 90000))]), (90000, .parr (σ 90000) 27 3 (l6.map c27)), (90008, .pbox (σ 90008) [.v (ownVal (σ 90000))])]⟩) ?_
    refine V_cond rfl (fun hc9 => ?_) (fun hc9 => ?_)
    ·have h := of_true h hc9
     refine V_skip ?_
     show V _ _ _ _
     refine V_seq ?_
     refine V_block ?_
     refine V_e (mb 35 206) [24, 90000, 90008] (s1 := ⟨.bot :: I a1 :: I b2 :: .pt 24 0 :: .bot :: .bot :: I i5 :: I i5 :: bt 27 [], [(24, .box [.v (lsV b), .v (swV (σ 90000))]), (90000, .parr (σ 90000) 27 3 (l6.map c27)), (90008, .pbox (σ 90008) [.v (ownVal (σ 90000))])]⟩) ?_
     obtain ⟨o13, hLo13, h⟩ := of_bind h
     refine V_toK (mb 35 78) [24, 90000, 90008] (s1 := ⟨.bot :: I a1 :: I b2 :: .pt 24 0 :: .bot :: .bot :: I i5 :: bt 28 [], [(24, .box [.v (lsV b), .v (swV (σ 90000))]), (90000, .parr (σ 90000) 27 3 (o13.map c27)), (90008, .pbox (σ 90008) [.v (ownVal (σ 90000))])]⟩) ?_ ?_
     ·clear h
      refine V_block (V_loop (fun n s => ∃ (j10 : Int) (l11 : List ((Int × Int × Int))), s.keep (mb 35 206) [24, 90000, 90008] = (⟨.bot :: I a1 :: I b2 :: .pt 24 0 :: .bot :: .bot :: I i5 :: I j10 :: bt 27 [], [(24, .box [.v (lsV b), .v (swV (σ 90000))]), (90000, .parr (σ 90000) 27 3 (l11.map c27)), (90008, .pbox (σ 90008) [.v (ownVal (σ 90000))])]⟩ : St) ∧ r_sort_insertionSort_func_L12 a1 b2 i5 n j10 l11 = some o13) FU ⟨_, _,  by rfl, hLo13⟩ ?_)
      clear hLo13
      rintro n s ⟨j10, l11, hs, h⟩
      refine V_keep _ _ hs ?_
      clear hs
      cases n with
      | zero => cases h
      | succ n =>
       rw [r_sort_insertionSort_func_L12] at h
       refine V_seq ?_
       obtain ⟨b16, hb16, h⟩ := of_bind h
       refine V_sreg (mb 35 67109070) [24, 90000, 90008] (s1 := ⟨.bot :: I a1 :: I b2 :: .pt 24 0 :: .bot :: .bot :: I i5 :: I j10 :: bt 18 (Bo b16 :: bt 8 []), [(24, .box [.v (lsV b), .v (swV (σ 90000))]), (90000, .parr (σ 90000) 27 3 (l11.map c27)), (90008, .pbox (σ 90008) [.v (ownVal (σ 90000))])]⟩) ?_ ?_
       ·refine XR 4 ?_
        refine XL_split (ltI a1 j10) (fun hc14 => ?_) (fun hc14 => ?_)
        ·have hb16 := of_true hb16 hc14
         obtain ⟨y15, hy15, hb16⟩ := of_bind hb16
         have hb16 := some_inj hb16
         refine XL_takeC _ rfl rfl (by kernel_rfl) hc14 (X_of_Y0 rfl (E_field (.pt 24 0) Tryz.underlying145 rfl sz63 rfl (by kernel_rfl) (by intro hh; cases hh))) ?_
         refine XL_takeC _ rfl rfl (by kernel_rfl) hc14 (X_of_Y0 rfl (Y0_load1 (c := .v (lsV b)) (cs := [.v (swV (σ 90000))]) sc63 rfl (by kernel_rfl))) ?_
         refine XL_takeC _ rfl rfl (by kernel_rfl) hc14 (X_of_Y0 rfl (E_move (I j10) rfl (by kernel_rfl))) ?_
         refine XL_takeC _ rfl rfl (by kernel_rfl) hc14 (X_of_Y0 rfl (E_move (I j10) rfl (by kernel_rfl))) ?_
         refine XL_takeC _ rfl rfl (by kernel_rfl) hc14 (X_of_Y0 rfl (Y0_sub64 (a := j10) (b := 1) rfl (by kernel_rfl) (by kernel_rfl))) ?_
         refine XL_takeC _ rfl rfl (by kernel_rfl) hc14 (X_of_Y1 rfl (Y1_less (l := σ 90000) (lb := σ 90008) (T0 := 27) (id := 90000) (bid := 90008) (sz := 3) (b := b) (els := l11.map c27) (i := j10) (j := w64 (j10 - 1)) (s_impl_sortForms_1 hy15) cf_impl_sortForms_1 rfl (by kernel_rfl) (by kernel_rfl) (by kernel_rfl) (by kernel_rfl) hb (by kernel_rfl))) ?_
         refine XL_cons rfl (X_of_Y0 rfl (Y0_pickTe (b := ltI a1 j10) (p := y15) rfl (by kernel_rfl) hc14 (by kernel_rfl) hb16)) ?_
         exact XE
        ·have hb16 := some_inj (of_false hb16 hc14)
         refine XL_skipT _ rfl rfl (by kernel_rfl) hc14 rfl ?_
         refine XL_skipT _ rfl rfl (by kernel_rfl) hc14 rfl ?_
         refine XL_skipT _ rfl rfl (by kernel_rfl) hc14 rfl ?_
         refine XL_skipT _ rfl rfl (by kernel_rfl) hc14 rfl ?_
         refine XL_skipT _ rfl rfl (by kernel_rfl) hc14 rfl ?_
         refine XL_skipT _ rfl rfl (by kernel_rfl) hc14 rfl ?_
         refine XL_cons rfl (X_of_Y0 rfl (Y0_pickFe (b := ltI a1 j10) (p := false) rfl (by kernel_rfl) hc14 (by kernel_rfl) hb16)) ?_
         exact XE
       refine V_cond rfl (fun hc17 => ?_) (fun hc17 => ?_)
       ·have h := of_true h hc17
        refine V_skip ?_
        show V _ _ _ _
        refine V_seq ?_
        refine V_block ?_
        obtain ⟨e18, he18, h⟩ := of_bind h
        obtain ⟨e19, he19, h⟩ := of_bind h
        obtain ⟨l20, hl20, h⟩ := of_bind h
        have hl20 := some_inj hl20
        refine V_reg (mb 35 206) [24, 90000, 90008] (s1 := ⟨.bot :: I a1 :: I b2 :: .pt 24 0 :: .bot :: .bot :: I i5 :: I j10 :: bt 27 [], [(24, .box [.v (lsV b), .v (swV (σ 90000))]), (90000, .parr (σ 90000) 27 3 (l20.map c27)), (90008, .pbox (σ 90008) [.v (ownVal (σ 90000))])]⟩) ?_ ?_
        ·refine XR 5 ?_
         refine XL_cons rfl (X_swapM (c := c27) (xs := l11) (u := e18) (v := e19) (I1 := j10) (J1 := w64 (j10 - 1)) (l := σ 90000) (T0 := 27) (id := 90000) (g := false) swX agX sz27 rfl (by kernel_rfl) rfl (by kernel_rfl) (by kernel_rfl) (by kernel_rfl) he18 he19) ?_
         refine XL_nil ?_
         subst hl20
         kernel_rfl
        show V _ _ _ _
        obtain ⟨j21, hj21, h⟩ := of_sI h
        refine V_reg (mb 35 206) [24, 90000, 90008] (s1 := ⟨.bot :: I a1 :: I b2 :: .pt 24 0 :: .bot :: .bot :: I i5 :: I j21 :: bt 27 [], [(24, .box [.v (lsV b), .v (swV (σ 90000))]), (90000, .parr (σ 90000) 27 3 (l20.map c27)), (90008, .pbox (σ 90008) [.v (ownVal (σ 90000))])]⟩) ?_ ?_
        ·refine XR 3 ?_
         refine XL_nil ?_
         subst hj21
         kernel_rfl
        exact ⟨n, Nat.lt_succ_self n, _, _,  by rfl, h⟩
       ·have h := of_false h hc17
        refine V_exit ?_
        obtain rfl := some_inj h
        show St.keep _ _ _ = _
        rfl
     show V _ _ _ _
     obtain ⟨i22, hi22, h⟩ := of_sI h
     refine V_reg (mb 35 78) [24, 90000, 90008] (s1 := ⟨.bot :: I a1 :: I b2 :: .pt 24 0 :: .bot :: .bot :: I i22 :: bt 28 [], [(24, .box [.v (lsV b), .v (swV (σ 90000))]), (90000, .parr (σ 90000) 27 3 (o13.map c27)), (90008, .pbox (σ 90008) [.v (ownVal (σ 90000))])]⟩) ?_ ?_
     ·refine XR 3 ?_
      refine XL_nil ?_
      subst hi22
      kernel_rfl
     exact ⟨n, Nat.lt_succ_self n, _, _,  by rfl, h⟩
    ·have h := of_false h hc9
     refine V_exit ?_
     obtain rfl := some_inj h
     show St.keep _ _ _ = _
     rfl
  obtain rfl := some_inj h
  show PostR _ _ _ _ _ _
  exact ⟨⟨.inl rfl, rfl, rfl, rfl⟩, ⟨rfl, ⟨rfl, trivial⟩⟩⟩
theorem cf_math_bits_Len32 : ∀ args w, (callFunc 198 args).run Tryz.prog w = .ok (.enter 198 args) w := run_callFunc Tryz.func198 (by kernel_rfl) (by kernel_rfl)
theorem s_math_bits_Len32 {x1 : Int} {r : Int} (h : r_math_bits_Len32 x1 = some r) : CallS Tryz.prog 198 [.c (.v (.int .u32 x1))] (I r) [] := by
  refine CallS_of_text (rs := [.t 2]) (vs := [.tmp 2]) Tryz.func198 rfl rfl (.cons rfl FitsL.nil) (by decide) 19 rfl ?_
  unfold r_math_bits_Len32 at h
  show V _ _ ⟨.c (.v (.int .u32 x1)) :: bt 18 [], []⟩ _
  refine V_e (mb 19 5) [] (s1 := ⟨.c (.v (.int .u32 x1)) :: .bot :: I 0 :: bt 16 [], []⟩) ?_
  obtain ⟨j2, hj2, h⟩ := of_bind h
  refine V_cutK (mb 19 5) [] (s1 := ⟨.c (.v (.int .u32 j2.1)) :: .bot :: I j2.2 :: bt 16 [], []⟩) ?_ ?_
  ·clear h
   have h := hj2
   clear hj2
   refine V_sreg (mb 19 21) [] (s1 := ⟨.c (.v (.int .u32 x1)) :: .bot :: I 0 :: .bot :: Bo (leI 65536 x1) :: bt 14 [], []⟩) ?_ ?_
   ·refine XR 1 ?_
    refine L0 rfl rfl (Y0_gew (k := .u32) (a := x1) (b := 65536) rfl (by kernel_rfl) (by kernel_rfl)) ?_
    exact XE
   refine V_cond rfl (fun hc3 => ?_) (fun hc3 => ?_)
   ·have h := of_true h hc3
    obtain ⟨x4, hx4, h⟩ := of_sI h
    refine V_sreg (mb 19 1) [] (s1 := ⟨.c (.v (.int .u32 x4)) :: bt 18 [], []⟩) ?_ ?_
    ·refine XR 1 ?_
     refine L0 rfl rfl (Y0_shr (k := .u32) (k2 := .u64) (a := x1) (b := 16) rfl (by kernel_rfl) (by kernel_rfl) (by decide)) ?_
     refine XR 1 ?_
     refine XL_nil ?_
     subst hx4
     kernel_rfl
    refine V_reg (mb 19 5) [] (s1 := ⟨.c (.v (.int .u32 x4)) :: .bot :: I 16 :: bt 16 [], []⟩) ?_ ?_
    ·exact XE
    obtain rfl := some_inj h
    show St.keep _ _ _ = _
    rfl
   ·have h := of_false h hc3
    refine V_skip ?_
    obtain rfl := some_inj h
    show St.keep _ _ _ = _
    rfl
  obtain ⟨j5, hj5, h⟩ := of_bind h
  refine V_cutK (mb 19 5) [] (s1 := ⟨.c (.v (.int .u32 j5.1)) :: .bot :: I j5.2 :: bt 16 [], []⟩) ?_ ?_
  ·clear h
   have h := hj5
   clear hj5
   refine V_sreg (mb 19 261) [] (s1 := ⟨.c (.v (.int .u32 j2.1)) :: .bot :: I j2.2 :: bt 5 (Bo (leI 256 j2.1) :: bt 10 []), []⟩) ?_ ?_
   ·refine XR 1 ?_
    refine L0 rfl rfl (Y0_gew (k := .u32) (a := j2.1) (b := 256) rfl (by kernel_rfl) (by kernel_rfl)) ?_
    exact XE
   refine V_cond rfl (fun hc6 => ?_) (fun hc6 => ?_)
   ·have h := of_true h hc6
    obtain ⟨x7, hx7, h⟩ := of_sI h
    refine V_sreg (mb 19 5) [] (s1 := ⟨.c (.v (.int .u32 x7)) :: .bot :: I j2.2 :: bt 16 [], []⟩) ?_ ?_
    ·refine XR 1 ?_
     refine L0 rfl rfl (Y0_shr (k := .u32) (k2 := .u64) (a := j2.1) (b := 8) rfl (by kernel_rfl) (by kernel_rfl) (by decide)) ?_
     refine XR 1 ?_
     refine XL_nil ?_
     subst hx7
     kernel_rfl
    obtain ⟨vn8, hvn8, h⟩ := of_sI h
    refine V_reg (mb 19 5) [] (s1 := ⟨.c (.v (.int .u32 x7)) :: .bot :: I vn8 :: bt 16 [], []⟩) ?_ ?_
    ·refine XR 3 ?_
     refine XL_nil ?_
     subst hvn8
     kernel_rfl
    obtain rfl := some_inj h
    show St.keep _ _ _ = _
    rfl
   ·have h := of_false h hc6
    refine V_skip ?_
    obtain rfl := some_inj h
    show St.keep _ _ _ = _
    rfl
  obtain ⟨e9, he9, h⟩ := of_bind h
  obtain ⟨vn10, hvn10, h⟩ := of_sI h
  refine V_sreg (mb 19 4) [] (s1 := ⟨.bot :: .bot :: I vn10 :: bt 16 [], []⟩) ?_ ?_
  ·refine XR 2 ?_
   refine L0 rfl rfl (Y0_conv (k2 := .u32) (a := j5.1) Tryz.underlying154 Tryz.underlying5 rfl (by kernel_rfl)) ?_
   refine L0 rfl rfl (Y0_idxs (b := (⟨#[0, 1, 2, 2, 3, 3, 3, 3, 4, 4, 4, 4, 4, 4, 4, 4, 5, 5, 5, 5, 5, 5, 5, 5, 5, 5, 5, 5, 5, 5, 5, 5, 6, 6, 6, 6, 6, 6, 6, 6, 6, 6, 6, 6, 6, 6, 6, 6, 6, 6, 6, 6, 6, 6, 6, 6, 6, 6, 6, 6, 6, 6, 6, 6, 7, 7, 7, 7, 7, 7, 7, 7, 7, 7, 7, 7, 7, 7, 7, 7, 7, 7, 7, 7, 7, 7, 7, 7, 7, 7, 7, 7, 7, 7, 7, 7, 7, 7, 7, 7, 7, 7, 7, 7, 7, 7, 7, 7, 7, 7, 7, 7, 7, 7, 7, 7, 7, 7, 7, 7, 7, 7, 7, 7, 7, 7, 7, 7, 8, 8, 8, 8, 8, 8, 8, 8, 8, 8, 8, 8, 8, 8, 8, 8, 8, 8, 8, 8, 8, 8, 8, 8, 8, 8, 8, 8, 8, 8, 8, 8, 8, 8, 8, 8, 8, 8, 8, 8, 8, 8, 8, 8, 8, 8, 8, 8, 8, 8, 8, 8, 8, 8, 8, 8, 8, 8, 8, 8, 8, 8, 8, 8, 8, 8, 8, 8, 8, 8, 8, 8, 8, 8, 8, 8, 8, 8, 8, 8, 8, 8, 8, 8, 8, 8, 8, 8, 8, 8, 8, 8, 8, 8, 8, 8, 8, 8, 8, 8, 8, 8, 8, 8, 8, 8, 8, 8, 8, 8, 8, 8, 8, 8, 8, 8, 8, 8, 8, 8, 8, 8, 8, 8, 8, 8, 8, 8]⟩ : ByteArray)) (k := .u8) (n := IntKind.u8.wrap j5.1) (v := e9) Tryz.underlying9 rfl (by kernel_rfl) (by kernel_rfl) he9) ?_
   refine L0 rfl rfl (Y0_conv (k2 := .u8) (a := e9) Tryz.underlying5 Tryz.underlying3 rfl (by kernel_rfl)) ?_
   refine XR 2 ?_
   refine XL_nil ?_
   subst hvn10
   kernel_rfl
  refine V_ret ?_
  obtain rfl := some_inj h
  show Post _ _ _ _ _
  exact ⟨.inr rfl, rfl, rfl, rfl⟩
theorem cf_math_bits_Len64 : ∀ args w, (callFunc 199 args).run Tryz.prog w = .ok (.enter 199 args) w := run_callFunc Tryz.func199 (by kernel_rfl) (by kernel_rfl)
theorem s_math_bits_Len64 {x1 : Int} {r : Int} (h : r_math_bits_Len64 x1 = some r) : CallS Tryz.prog 199 [.c (.v (.int .u64 x1))] (I r) [] := by
  refine CallS_of_text (rs := [.t 2]) (vs := [.tmp 2]) Tryz.func199 rfl rfl (.cons rfl FitsL.nil) (by decide) 25 rfl ?_
  unfold r_math_bits_Len64 at h
  show V _ _ ⟨.c (.v (.int .u64 x1)) :: bt 24 [], []⟩ _
  refine V_e (mb 25 5) [] (s1 := ⟨.c (.v (.int .u64 x1)) :: .bot :: I 0 :: bt 22 [], []⟩) ?_
  obtain ⟨j2, hj2, h⟩ := of_bind h
  refine V_cutK (mb 25 5) [] (s1 := ⟨.c (.v (.int .u64 j2.1)) :: .bot :: I j2.2 :: bt 22 [], []⟩) ?_ ?_
  ·clear h
   have h := hj2
   clear hj2
   refine V_sreg (mb 25 21) [] (s1 := ⟨.c (.v (.int .u64 x1)) :: .bot :: I 0 :: .bot :: Bo (leI 4294967296 x1) :: bt 20 [], []⟩) ?_ ?_
   ·refine XR 1 ?_
    refine L0 rfl rfl (Y0_gew (k := .u64) (a := x1) (b := 4294967296) rfl (by kernel_rfl) (by kernel_rfl)) ?_
    exact XE
   refine V_cond rfl (fun hc3 => ?_) (fun hc3 => ?_)
   ·have h := of_true h hc3
    obtain ⟨x4, hx4, h⟩ := of_sI h
    refine V_sreg (mb 25 1) [] (s1 := ⟨.c (.v (.int .u64 x4)) :: bt 24 [], []⟩) ?_ ?_
    ·refine XR 1 ?_
     refine L0 rfl rfl (Y0_shr (k := .u64) (k2 := .u64) (a := x1) (b := 32) rfl (by kernel_rfl) (by kernel_rfl) (by decide)) ?_
     refine XR 1 ?_
     refine XL_nil ?_
     subst hx4
     kernel_rfl
    refine V_reg (mb 25 5) [] (s1 := ⟨.c (.v (.int .u64 x4)) :: .bot :: I 32 :: bt 22 [], []⟩) ?_ ?_
    ·exact XE
    obtain rfl := some_inj h
    show St.keep _ _ _ = _
    rfl
   ·have h := of_false h hc3
    refine V_skip ?_
    obtain rfl := some_inj h
    show St.keep _ _ _ = _
    rfl
  obtain ⟨j5, hj5, h⟩ := of_bind h
  refine V_cutK (mb 25 5) [] (s1 := ⟨.c (.v (.int .u64 j5.1)) :: .bot :: I j5.2 :: bt 22 [], []⟩) ?_ ?_
  ·clear h
   have h := hj5
   clear hj5
   refine V_sreg (mb 25 261) [] (s1 := ⟨.c (.v (.int .u64 j2.1)) :: .bot :: I j2.2 :: bt 5 (Bo (leI 65536 j2.1) :: bt 16 []), []⟩) ?_ ?_
   ·refine XR 1 ?_
    refine L0 rfl rfl (Y0_gew (k := .u64) (a := j2.1) (b := 65536) rfl (by kernel_rfl) (by kernel_rfl)) ?_
    exact XE
   refine V_cond rfl (fun hc6 => ?_) (fun hc6 => ?_)
   ·have h := of_true h hc6
    obtain ⟨x7, hx7, h⟩ := of_sI h
    refine V_sreg (mb 25 5) [] (s1 := ⟨.c (.v (.int .u64 x7)) :: .bot :: I j2.2 :: bt 22 [], []⟩) ?_ ?_
    ·refine XR 1 ?_
     refine L0 rfl rfl (Y0_shr (k := .u64) (k2 := .u64) (a := j2.1) (b := 16) rfl (by kernel_rfl) (by kernel_rfl) (by decide)) ?_
     refine XR 1 ?_
     refine XL_nil ?_
     subst hx7
     kernel_rfl
    obtain ⟨vn8, hvn8, h⟩ := of_sI h
    refine V_reg (mb 25 5) [] (s1 := ⟨.c (.v (.int .u64 x7)) :: .bot :: I vn8 :: bt 22 [], []⟩) ?_ ?_
    ·refine XR 3 ?_
     refine XL_nil ?_
     subst hvn8
     kernel_rfl
    obtain rfl := some_inj h
    show St.keep _ _ _ = _
    rfl
   ·have h := of_false h hc6
    refine V_skip ?_
    obtain rfl := some_inj h
    show St.keep _ _ _ = _
    rfl
  obtain ⟨j9, hj9, h⟩ := of_bind h
  refine V_cutK (mb 25 5) [] (s1 := ⟨.c (.v (.int .u64 j9.1)) :: .bot :: I j9.2 :: bt 22 [], []⟩) ?_ ?_
  ·clear h
   have h := hj9
   clear hj9
   refine V_sreg (mb 25 16389) [] (s1 := ⟨.c (.v (.int .u64 j5.1)) :: .bot :: I j5.2 :: bt 11 (Bo (leI 256 j5.1) :: bt 10 []), []⟩) ?_ ?_
   ·refine XR 1 ?_
    refine L0 rfl rfl (Y0_gew (k := .u64) (a := j5.1) (b := 256) rfl (by kernel_rfl) (by kernel_rfl)) ?_
    exact XE
   refine V_cond rfl (fun hc10 => ?_) (fun hc10 => ?_)
   ·have h := of_true h hc10
    obtain ⟨x11, hx11, h⟩ := of_sI h
    refine V_sreg (mb 25 5) [] (s1 := ⟨.c (.v (.int .u64 x11)) :: .bot :: I j5.2 :: bt 22 [], []⟩) ?_ ?_
    ·refine XR 1 ?_
     refine L0 rfl rfl (Y0_shr (k := .u64) (k2 := .u64) (a := j5.1) (b := 8) rfl (by kernel_rfl) (by kernel_rfl) (by decide)) ?_
     refine XR 1 ?_
     refine XL_nil ?_
     subst hx11
     kernel_rfl
    obtain ⟨vn12, hvn12, h⟩ := of_sI h
    refine V_reg (mb 25 5) [] (s1 := ⟨.c (.v (.int .u64 x11)) :: .bot :: I vn12 :: bt 22 [], []⟩) ?_ ?_
    ·refine XR 3 ?_
     refine XL_nil ?_
     subst hvn12
     kernel_rfl
    obtain rfl := some_inj h
    show St.keep _ _ _ = _
    rfl
   ·have h := of_false h hc10
    refine V_skip ?_
    obtain rfl := some_inj h
    show St.keep _ _ _ = _
    rfl
  obtain ⟨e13, he13, h⟩ := of_bind h
  obtain ⟨vn14, hvn14, h⟩ := of_sI h
  refine V_sreg (mb 25 4) [] (s1 := ⟨.bot :: .bot :: I vn14 :: bt 22 [], []⟩) ?_ ?_
  ·refine XR 2 ?_
   refine L0 rfl rfl (Y0_conv (k2 := .u64) (a := j9.1) Tryz.underlying83 Tryz.underlying5 rfl (by kernel_rfl)) ?_
   refine L0 rfl rfl (Y0_idxs (b := (⟨#[0, 1, 2, 2, 3, 3, 3, 3, 4, 4, 4, 4, 4, 4, 4, 4, 5, 5, 5, 5, 5, 5, 5, 5, 5, 5, 5, 5, 5, 5, 5, 5, 6, 6, 6, 6, 6, 6, 6, 6, 6, 6, 6, 6, 6, 6, 6, 6, 6, 6, 6, 6, 6, 6, 6, 6, 6, 6, 6, 6, 6, 6, 6, 6, 7, 7, 7, 7, 7, 7, 7, 7, 7, 7, 7, 7, 7, 7, 7, 7, 7, 7, 7, 7, 7, 7, 7, 7, 7, 7, 7, 7, 7, 7, 7, 7, 7, 7, 7, 7, 7, 7, 7, 7, 7, 7, 7, 7, 7, 7, 7, 7, 7, 7, 7, 7, 7, 7, 7, 7, 7, 7, 7, 7, 7, 7, 7, 7, 8, 8, 8, 8, 8, 8, 8, 8, 8, 8, 8, 8, 8, 8, 8, 8, 8, 8, 8, 8, 8, 8, 8, 8, 8, 8, 8, 8, 8, 8, 8, 8, 8, 8, 8, 8, 8, 8, 8, 8, 8, 8, 8, 8, 8, 8, 8, 8, 8, 8, 8, 8, 8, 8, 8, 8, 8, 8, 8, 8, 8, 8, 8, 8, 8, 8, 8, 8, 8, 8, 8, 8, 8, 8, 8, 8, 8, 8, 8, 8, 8, 8, 8, 8, 8, 8, 8, 8, 8, 8, 8, 8, 8, 8, 8, 8, 8, 8, 8, 8, 8, 8, 8, 8, 8, 8, 8, 8, 8, 8, 8, 8, 8, 8, 8, 8, 8, 8, 8, 8, 8, 8, 8, 8, 8, 8, 8, 8]⟩ : ByteArray)) (k := .u8) (n := IntKind.u8.wrap j9.1) (v := e13) Tryz.underlying9 rfl (by kernel_rfl) (by kernel_rfl) he13) ?_
   refine L0 rfl rfl (Y0_conv (k2 := .u8) (a := e13) Tryz.underlying5 Tryz.underlying3 rfl (by kernel_rfl)) ?_
   refine XR 2 ?_
   refine XL_nil ?_
   subst hvn14
   kernel_rfl
  refine V_ret ?_
  obtain rfl := some_inj h
  show Post _ _ _ _ _
  exact ⟨.inr rfl, rfl, rfl, rfl⟩
theorem cf_math_bits_Len : ∀ args w, (callFunc 167 args).run Tryz.prog w = .ok (.enter 167 args) w := run_callFunc Tryz.func167 (by kernel_rfl) (by kernel_rfl)
theorem s_math_bits_Len {x1 : Int} {r : Int} (h : r_math_bits_Len x1 = some r) : CallS Tryz.prog 167 [.c (.v (.int .u64 x1))] (I r) [] := by
  refine CallS_of_text (rs := [.t 2]) (vs := [.tmp 2]) Tryz.func167 rfl rfl (.cons rfl FitsL.nil) (by decide) 8 rfl ?_
  unfold r_math_bits_Len at h
  show V _ _ ⟨.c (.v (.int .u64 x1)) :: bt 7 [], []⟩ _
  refine V_e (mb 8 1) [] (s1 := ⟨.c (.v (.int .u64 x1)) :: bt 7 [], []⟩) ?_
  refine V_seq ?_
  refine V_cond_false rfl ?_
  refine V_skip ?_
  show V _ _ _ _
  obtain ⟨y3, hy3, h⟩ := of_bind h
  refine V_sreg (mb 8 4) [] (s1 := ⟨.bot :: .bot :: I y3 :: bt 5 [], []⟩) ?_ ?_
  ·refine XR 1 ?_
   refine XC (s_math_bits_Len64 hy3) cf_math_bits_Len64 rfl rfl rfl ?_
   exact XE
  refine V_ret ?_
  obtain rfl := some_inj h
  show Post _ _ _ _ _
  exact ⟨.inr rfl, rfl, rfl, rfl⟩
theorem cf_sort_order2_func : ∀ args w, (callFunc 231 args).run Tryz.prog w = .ok (.enter 231 args) w := run_callFunc Tryz.func231 (by kernel_rfl) (by kernel_rfl)
theorem s_sort_order2_func {xs0 : List ((Int × Int × Int))} {a1 : Int} {b2 : Int} {swaps3 : Int} {l0 lb : Loc} {b : Nat} (hb : lb.blk = some b) {r : (Int × Int × (List ((Int × Int × Int))) × Int)} (h : r_sort_order2_func xs0 a1 b2 swaps3 = some r) : ∀ σ : Nat → Loc, σ 90000 = l0 → σ 90008 = lb → CallRs Tryz.prog 231 σ [.ag [.v (lsV b), .v (swV l0)], I a1, I b2, .pt 80024 0] [(90000, .arr 27 3 (xs0.map c27)), (90008, .box [.v (ownVal l0)]), (80024, .box [Ti swaps3])] (.tc (I r.1) (.tc (I r.2.1) .tn)) [] [(90000, .arr 27 3 (r.2.2.1.map c27)), (90008, .box [.v (ownVal l0)]), (80024, .box [Ti r.2.2.2])] := by
  intro σ e1 e2
  subst e1 e2
  refine CallRs_of_text (rs := [.t 8, .t 9]) (vs := [.tmp 8, .tmp 9]) Tryz.func231 rfl rfl (.cons rfl (.cons rfl FitsL.nil)) (by decide) 24 rfl rfl ?_
  unfold r_sort_order2_func at h
  show V _ _ ⟨.ag [.v (lsV b), .v (swV (σ 90000))] :: I a1 :: I b2 :: .pt 80024 0 :: bt 20 [], [(90000, .parr (σ 90000) 27 3 (xs0.map c27)), (90008, .pbox (σ 90008) [.v (ownVal (σ 90000))]), (80024, .pbox (σ 80024) [Ti swaps3])]⟩ _
  refine V_e (mb 24 30) [32, 90000, 90008, 80024] (s1 := ⟨.bot :: I a1 :: I b2 :: .pt 80024 0 :: .pt 32 0 :: bt 19 [], [(32, .box [.v (lsV b), .v (swV (σ 90000))]), (90000, .parr (σ 90000) 27 3 (xs0.map c27)), (90008, .pbox (σ 90008) [.v (ownVal (σ 90000))]), (80024, .pbox (σ 80024) [Ti swaps3])]⟩) ?_
  refine V_seq ?_
  obtain ⟨y5, hy5, h⟩ := of_bind h
  refine V_sreg (mb 24 16398) [90000, 90008, 80024] (s1 := ⟨.bot :: I a1 :: I b2 :: .pt 80024 0 :: bt 10 (Bo y5 :: bt 9 []), [(90000, .parr (σ 90000) 27 3 (xs0.map c27)), (90008, .pbox (σ 90008) [.v (ownVal (σ 90000))]), (80024, .pbox (σ 80024) [Ti swaps3])]⟩) ?_ ?_
  ·refine XR 4 ?_
   refine L1 rfl rfl (Y1_less (l := σ 90000) (lb := σ 90008) (T0 := 27) (id := 90000) (bid := 90008) (sz := 3) (b := b) (els := xs0.map c27) (i := b2) (j := a1) (s_impl_sortForms_1 hy5) cf_impl_sortForms_1 rfl (by kernel_rfl) (by kernel_rfl) (by kernel_rfl) (by kernel_rfl) hb (by kernel_rfl)) ?_
   exact XE
  refine V_cond rfl (fun hc6 => ?_) (fun hc6 => ?_)
  ·have h := of_true h hc6
   obtain ⟨f7, hf7, h⟩ := of_sI h
   refine V_sreg (mb 24 6) [90000, 90008, 80024] (s1 := ⟨.bot :: I a1 :: I b2 :: bt 21 [], [(90000, .parr (σ 90000) 27 3 (xs0.map c27)), (90008, .pbox (σ 90008) [.v (ownVal (σ 90000))]), (80024, .pbox (σ 80024) [Ti f7])]⟩) ?_ ?_
   ·refine XR 1 ?_
    refine L0 rfl rfl (E_nil (.pt 80024 0) rfl (by kernel_rfl) (by intro hh; cases hh)) ?_
    refine XR 2 ?_
    refine L0 rfl rfl (E_nil (.pt 80024 0) rfl (by kernel_rfl) (by intro hh; cases hh)) ?_
    refine XR 1 ?_
    refine XL_nil ?_
    subst hf7
    kernel_rfl
   refine V_e (mb 24 768) [90000, 90008, 80024] (s1 := ⟨bt 8 (I b2 :: I a1 :: bt 14 []), [(90000, .parr (σ 90000) 27 3 (xs0.map c27)), (90008, .pbox (σ 90008) [.v (ownVal (σ 90000))]), (80024, .pbox (σ 80024) [Ti f7])]⟩) ?_
   refine V_ret ?_
   obtain rfl := some_inj h
   show PostR _ _ _ _ _ _
   exact ⟨⟨.inr rfl, rfl, rfl, rfl⟩, ⟨rfl, ⟨rfl, ⟨rfl, trivial⟩⟩⟩⟩
  ·have h := of_false h hc6
   refine V_skip ?_
   show V _ _ _ _
   refine V_e (mb 24 768) [90000, 90008, 80024] (s1 := ⟨bt 8 (I a1 :: I b2 :: bt 14 []), [(90000, .parr (σ 90000) 27 3 (xs0.map c27)), (90008, .pbox (σ 90008) [.v (ownVal (σ 90000))]), (80024, .pbox (σ 80024) [Ti swaps3])]⟩) ?_
   refine V_ret ?_
   obtain rfl := some_inj h
   show PostR _ _ _ _ _ _
   exact ⟨⟨.inr rfl, rfl, rfl, rfl⟩, ⟨rfl, ⟨rfl, ⟨rfl, trivial⟩⟩⟩⟩
theorem cf_sort_median_func : ∀ args w, (callFunc 223 args).run Tryz.prog w = .ok (.enter 223 args) w := run_callFunc Tryz.func223 (by kernel_rfl) (by kernel_rfl)
theorem s_sort_median_func {xs0 : List ((Int × Int × Int))} {a1 : Int} {b2 : Int} {c3 : Int} {swaps4 : Int} {l0 lb : Loc} {b : Nat} (hb : lb.blk = some b) {r : (Int × (List ((Int × Int × Int))) × Int)} (h : r_sort_median_func xs0 a1 b2 c3 swaps4 = some r) : ∀ σ : Nat → Loc, σ 90000 = l0 → σ 90008 = lb → CallRs Tryz.prog 223 σ [.ag [.v (lsV b), .v (swV l0)], I a1, I b2, I c3, .pt 80032 0] [(90000, .arr 27 3 (xs0.map c27)), (90008, .box [.v (ownVal l0)]), (80032, .box [Ti swaps4])] (I r.1) [] [(90000, .arr 27 3 (r.2.1.map c27)), (90008, .box [.v (ownVal l0)]), (80032, .box [Ti r.2.2])] := by
  intro σ e1 e2
  subst e1 e2
  refine CallRs_of_text (rs := [.t 10]) (vs := [.tmp 10]) Tryz.func223 rfl rfl (.cons rfl FitsL.nil) (by decide) 36 rfl rfl ?_
  unfold r_sort_median_func at h
  show V _ _ ⟨.ag [.v (lsV b), .v (swV (σ 90000))] :: I a1 :: I b2 :: I c3 :: .pt 80032 0 :: bt 31 [], [(90000, .parr (σ 90000) 27 3 (xs0.map c27)), (90008, .pbox (σ 90008) [.v (ownVal (σ 90000))]), (80032, .pbox (σ 80032) [Ti swaps4])]⟩ _
  refine V_e (mb 36 62) [40, 90000, 90008, 80032] (s1 := ⟨.bot :: I a1 :: I b2 :: I c3 :: .pt 80032 0 :: .pt 40 0 :: bt 30 [], [(40, .box [.v (lsV b), .v (swV (σ 90000))]), (90000, .parr (σ 90000) 27 3 (xs0.map c27)), (90008, .pbox (σ 90008) [.v (ownVal (σ 90000))]), (80032, .pbox (σ 80032) [Ti swaps4])]⟩) ?_
  obtain ⟨y6, hy6, h⟩ := of_bind h
  refine V_sreg (mb 36 62) [40, 90000, 90008, 80032] (s1 := ⟨.bot :: I y6.1 :: I y6.2.1 :: I c3 :: .pt 80032 0 :: .pt 40 0 :: bt 30 [], [(40, .box [.v (lsV b), .v (swV (σ 90000))]), (90000, .parr (σ 90000) 27 3 (y6.2.2.1.map c27)), (90008, .pbox (σ 90008) [.v (ownVal (σ 90000))]), (80032, .pbox (σ 80032) [Ti y6.2.2.2])]⟩) ?_ ?_
  ·refine XR 4 ?_
   refine XL_cons rfl (X_callSo (l := σ 90000) (lb := σ 90008) (T0 := 27) (sz := 3) (els := xs0.map c27) (cs := [.v (ownVal (σ 90000))]) (E' := [(40, .box [.v (lsV b), .v (swV (σ 90000))]), (90000, .parr (σ 90000) 27 3 (y6.2.2.1.map c27)), (90008, .pbox (σ 90008) [.v (ownVal (σ 90000))]), (80032, .pbox (σ 80032) [Ti y6.2.2.2])]) [(80024, 80032)] 16 (fun σ' e1 e2 => s_sort_order2_func (l0 := σ 90000) hb hy6 σ' e1 e2) cf_sort_order2_func (by kernel_rfl) (by kernel_rfl) rfl rfl rfl rfl (by kernel_rfl) rfl (mE_cons (by kernel_rfl) (mE_cons (by kernel_rfl) (mE_cons (by kernel_rfl) mE_nil))) rfl (by kernel_rfl) rfl rfl (by kernel_rfl)) ?_
   exact XE
  obtain ⟨y7, hy7, h⟩ := of_bind h
  refine V_sreg (mb 36 54) [40, 90000, 90008, 80032] (s1 := ⟨.bot :: I y6.1 :: I y7.1 :: .bot :: .pt 80032 0 :: .pt 40 0 :: bt 30 [], [(40, .box [.v (lsV b), .v (swV (σ 90000))]), (90000, .parr (σ 90000) 27 3 (y7.2.2.1.map c27)), (90008, .pbox (σ 90008) [.v (ownVal (σ 90000))]), (80032, .pbox (σ 80032) [Ti y7.2.2.2])]⟩) ?_ ?_
  ·refine XR 4 ?_
   refine XL_cons rfl (X_callSo (l := σ 90000) (lb := σ 90008) (T0 := 27) (sz := 3) (els := y6.2.2.1.map c27) (cs := [.v (ownVal (σ 90000))]) (E' := [(40, .box [.v (lsV b), .v (swV (σ 90000))]), (90000, .parr (σ 90000) 27 3 (y7.2.2.1.map c27)), (90008, .pbox (σ 90008) [.v (ownVal (σ 90000))]), (80032, .pbox (σ 80032) [Ti y7.2.2.2])]) [(80024, 80032)] 24 (fun σ' e1 e2 => s_sort_order2_func (l0 := σ 90000) hb hy7 σ' e1 e2) cf_sort_order2_func (by kernel_rfl) (by kernel_rfl) rfl rfl rfl rfl (by kernel_rfl) rfl (mE_cons (by kernel_rfl) (mE_cons (by kernel_rfl) (mE_cons (by kernel_rfl) mE_nil))) rfl (by kernel_rfl) rfl rfl (by kernel_rfl)) ?_
   exact XE
  obtain ⟨y8, hy8, h⟩ := of_bind h
  refine V_sreg (mb 36 4) [90000, 90008, 80032] (s1 := ⟨.bot :: .bot :: I y8.2.1 :: bt 33 [], [(90000, .parr (σ 90000) 27 3 (y8.2.2.1.map c27)), (90008, .pbox (σ 90008) [.v (ownVal (σ 90000))]), (80032, .pbox (σ 80032) [Ti y8.2.2.2])]⟩) ?_ ?_
  ·refine XR 4 ?_
   refine XL_cons rfl (X_callSo (l := σ 90000) (lb := σ 90008) (T0 := 27) (sz := 3) (els := y7.2.2.1.map c27) (cs := [.v (ownVal (σ 90000))]) (E' := [(40, .box [.v (lsV b), .v (swV (σ 90000))]), (90000, .parr (σ 90000) 27 3 (y8.2.2.1.map c27)), (90008, .pbox (σ 90008) [.v (ownVal (σ 90000))]), (80032, .pbox (σ 80032) [Ti y8.2.2.2])]) [(80024, 80032)] 32 (fun σ' e1 e2 => s_sort_order2_func (l0 := σ 90000) hb hy8 σ' e1 e2) cf_sort_order2_func (by kernel_rfl) (by kernel_rfl) rfl rfl rfl rfl (by kernel_rfl) rfl (mE_cons (by kernel_rfl) (mE_cons (by kernel_rfl) (mE_cons (by kernel_rfl) mE_nil))) rfl (by kernel_rfl) rfl rfl (by kernel_rfl)) ?_
   exact XE
  refine V_e (mb 36 1024) [90000, 90008, 80032] (s1 := ⟨bt 10 (I y8.2.1 :: bt 25 []), [(90000, .parr (σ 90000) 27 3 (y8.2.2.1.map c27)), (90008, .pbox (σ 90008) [.v (ownVal (σ 90000))]), (80032, .pbox (σ 80032) [Ti y8.2.2.2])]⟩) ?_
  refine V_ret ?_
  obtain rfl := some_inj h
  show PostR _ _ _ _ _ _
  exact ⟨⟨.inr rfl, rfl, rfl, rfl⟩, ⟨rfl, ⟨rfl, ⟨rfl, trivial⟩⟩⟩⟩
theorem cf_sort_medianAdjacent_func : ∀ args w, (callFunc 222 args).run Tryz.prog w = .ok (.enter 222 args) w := run_callFunc Tryz.func222 (by kernel_rfl) (by kernel_rfl)
theorem s_sort_medianAdjacent_func {xs0 : List ((Int × Int × Int))} {a1 : Int} {swaps2 : Int} {l0 lb : Loc} {b : Nat} (hb : lb.blk = some b) {r : (Int × (List ((Int × Int × Int))) × Int)} (h : r_sort_medianAdjacent_func xs0 a1 swaps2 = some r) : ∀ σ : Nat → Loc, σ 90000 = l0 → σ 90008 = lb → CallRs Tryz.prog 222 σ [.ag [.v (lsV b), .v (swV l0)], I a1, .pt 80016 0] [(90000, .arr 27 3 (xs0.map c27)), (90008, .box [.v (ownVal l0)]), (80016, .box [Ti swaps2])] (I r.1) [] [(90000, .arr 27 3 (r.2.1.map c27)), (90008, .box [.v (ownVal l0)]), (80016, .box [Ti r.2.2])] := by
  intro σ e1 e2
  subst e1 e2
  refine CallRs_of_text (rs := [.t 6]) (vs := [.tmp 6]) Tryz.func222 rfl rfl (.cons rfl FitsL.nil) (by decide) 15 rfl rfl ?_
  unfold r_sort_medianAdjacent_func at h
  show V _ _ ⟨.ag [.v (lsV b), .v (swV (σ 90000))] :: I a1 :: .pt 80016 0 :: bt 12 [], [(90000, .parr (σ 90000) 27 3 (xs0.map c27)), (90008, .pbox (σ 90008) [.v (ownVal (σ 90000))]), (80016, .pbox (σ 80016) [Ti swaps2])]⟩ _
  refine V_e (mb 15 14) [24, 90000, 90008, 80016] (s1 := ⟨.bot :: I a1 :: .pt 80016 0 :: .pt 24 0 :: bt 11 [], [(24, .box [.v (lsV b), .v (swV (σ 90000))]), (90000, .parr (σ 90000) 27 3 (xs0.map c27)), (90008, .pbox (σ 90008) [.v (ownVal (σ 90000))]), (80016, .pbox (σ 80016) [Ti swaps2])]⟩) ?_
  obtain ⟨y4, hy4, h⟩ := of_bind h
  refine V_sreg (mb 15 64) [90000, 90008, 80016] (s1 := ⟨bt 6 (I y4.1 :: bt 8 []), [(90000, .parr (σ 90000) 27 3 (y4.2.1.map c27)), (90008, .pbox (σ 90008) [.v (ownVal (σ 90000))]), (80016, .pbox (σ 80016) [Ti y4.2.2])]⟩) ?_ ?_
  ·refine XR 7 ?_
   refine XL_cons rfl (X_callSo (l := σ 90000) (lb := σ 90008) (T0 := 27) (sz := 3) (els := xs0.map c27) (cs := [.v (ownVal (σ 90000))]) (E' := [(24, .box [.v (lsV b), .v (swV (σ 90000))]), (90000, .parr (σ 90000) 27 3 (y4.2.1.map c27)), (90008, .pbox (σ 90008) [.v (ownVal (σ 90000))]), (80016, .pbox (σ 80016) [Ti y4.2.2])]) [(80032, 80016)] 14 (fun σ' e1 e2 => s_sort_median_func (l0 := σ 90000) hb hy4 σ' e1 e2) cf_sort_median_func (by kernel_rfl) (by kernel_rfl) rfl rfl rfl rfl (by kernel_rfl) rfl (mE_cons (by kernel_rfl) (mE_cons (by kernel_rfl) (mE_cons (by kernel_rfl) mE_nil))) rfl (by kernel_rfl) rfl rfl (by kernel_rfl)) ?_
   exact XE
  refine V_ret ?_
  obtain rfl := some_inj h
  show PostR _ _ _ _ _ _
  exact ⟨⟨.inr rfl, rfl, rfl, rfl⟩, ⟨rfl, ⟨rfl, ⟨rfl, trivial⟩⟩⟩⟩
theorem cf_sort_choosePivot_func : ∀ args w, (callFunc 203 args).run Tryz.prog w = .ok (.enter 203 args) w := run_callFunc Tryz.func203 (by kernel_rfl) (by kernel_rfl)
theorem s_sort_choosePivot_func {xs0 : List ((Int × Int × Int))} {a1 : Int} {b2 : Int} {l0 lb : Loc} {b : Nat} (hb : lb.blk = some b) {r : (Int × Int × (List ((Int × Int × Int))))} (h : r_sort_choosePivot_func xs0 a1 b2 = some r) : ∀ σ : Nat → Loc, σ 90000 = l0 → σ 90008 = lb → CallRs Tryz.prog 203 σ [.ag [.v (lsV b), .v (swV l0)], I a1, I b2] [(90000, .arr 27 3 (xs0.map c27)), (90008, .box [.v (ownVal l0)])] (.tc (I r.1) (.tc (I r.2.1) .tn)) [] [(90000, .arr 27 3 (r.2.2.map c27)), (90008, .box [.v (ownVal l0)])] := by
  intro σ e1 e2
  subst e1 e2
  refine CallRs_of_text (rs := [.t 6, .t 7]) (vs := [.tmp 6, .tmp 7]) Tryz.func203 rfl rfl (.cons rfl (.cons rfl FitsL.nil)) (by decide) 57 rfl rfl ?_
  unfold r_sort_choosePivot_func at h
  show V _ _ ⟨.ag [.v (lsV b), .v (swV (σ 90000))] :: I a1 :: I b2 :: bt 54 [], [(90000, .parr (σ 90000) 27 3 (xs0.map c27)), (90008, .pbox (σ 90008) [.v (ownVal (σ 90000))])]⟩ _
  refine V_e (mb 57 14) [24, 90000, 90008] (s1 := ⟨.bot :: I a1 :: I b2 :: .pt 24 0 :: bt 53 [], [(24, .box [.v (lsV b), .v (swV (σ 90000))]), (90000, .parr (σ 90000) 27 3 (xs0.map c27)), (90008, .pbox (σ 90008) [.v (ownVal (σ 90000))])]⟩) ?_
  obtain ⟨l4, hl4, h⟩ := of_sI h
  refine V_sreg (mb 57 266) [24, 90000, 90008] (s1 := ⟨.bot :: I a1 :: .bot :: .pt 24 0 :: bt 4 (I l4 :: bt 48 []), [(24, .box [.v (lsV b), .v (swV (σ 90000))]), (90000, .parr (σ 90000) 27 3 (xs0.map c27)), (90008, .pbox (σ 90008) [.v (ownVal (σ 90000))])]⟩) ?_ ?_
  ·refine XR 4 ?_
   refine XL_nil ?_
   subst hl4
   kernel_rfl
  refine V_e (mb 57 778) [72, 24, 90000, 90008] (s1 := ⟨.bot :: I a1 :: .bot :: .pt 24 0 :: bt 4 (I l4 :: .pt 72 0 :: bt 47 []), [(72, .box [Ti 0]), (24, .box [.v (lsV b), .v (swV (σ 90000))]), (90000, .parr (σ 90000) 27 3 (xs0.map c27)), (90008, .pbox (σ 90008) [.v (ownVal (σ 90000))])]⟩) ?_
  obtain ⟨i5, hi5, h⟩ := of_sI h
  refine V_sreg (mb 57 1802) [72, 24, 90000, 90008] (s1 := ⟨.bot :: I a1 :: .bot :: .pt 24 0 :: bt 4 (I l4 :: .pt 72 0 :: I i5 :: bt 46 []), [(72, .box [Ti 0]), (24, .box [.v (lsV b), .v (swV (σ 90000))]), (90000, .parr (σ 90000) 27 3 (xs0.map c27)), (90008, .pbox (σ 90008) [.v (ownVal (σ 90000))])]⟩) ?_ ?_
  ·refine XR 2 ?_
   refine L0 rfl rfl (Y0_quo64 (a := l4) (b := 4) rfl (by kernel_rfl) (by kernel_rfl) (by decide)) ?_
   refine XR 3 ?_
   refine XL_nil ?_
   subst hi5
   kernel_rfl
  obtain ⟨j6, hj6, h⟩ := of_sI h
  refine V_sreg (mb 57 3850) [72, 24, 90000, 90008] (s1 := ⟨.bot :: I a1 :: .bot :: .pt 24 0 :: bt 4 (I l4 :: .pt 72 0 :: I i5 :: I j6 :: bt 45 []), [(72, .box [Ti 0]), (24, .box [.v (lsV b), .v (swV (σ 90000))]), (90000, .parr (σ 90000) 27 3 (xs0.map c27)), (90008, .pbox (σ 90008) [.v (ownVal (σ 90000))])]⟩) ?_ ?_
  ·refine XR 2 ?_
   refine L0 rfl rfl (Y0_quo64 (a := l4) (b := 4) rfl (by kernel_rfl) (by kernel_rfl) (by decide)) ?_
   refine XR 3 ?_
   refine XL_nil ?_
   subst hj6
   kernel_rfl
  obtain ⟨k7, hk7, h⟩ := of_sI h
  refine V_sreg (mb 57 7944) [72, 24, 90000, 90008] (s1 := ⟨bt 3 (.pt 24 0 :: bt 4 (I l4 :: .pt 72 0 :: I i5 :: I j6 :: I k7 :: bt 44 [])), [(72, .box [Ti 0]), (24, .box [.v (lsV b), .v (swV (σ 90000))]), (90000, .parr (σ 90000) 27 3 (xs0.map c27)), (90008, .pbox (σ 90008) [.v (ownVal (σ 90000))])]⟩) ?_ ?_
  ·refine XR 2 ?_
   refine L0 rfl rfl (Y0_quo64 (a := l4) (b := 4) rfl (by kernel_rfl) (by kernel_rfl) (by decide)) ?_
   refine XR 3 ?_
   refine XL_nil ?_
   subst hk7
   kernel_rfl
  obtain ⟨j8, hj8, h⟩ := of_bind h
  refine V_cutK (mb 57 2560) [72, 90000, 90008] (s1 := ⟨bt 9 (.pt 72 0 :: .bot :: I j8.1 :: bt 45 []), [(72, .box [Ti j8.2.1]), (90000, .parr (σ 90000) 27 3 (j8.2.2.map c27)), (90008, .pbox (σ 90008) [.v (ownVal (σ 90000))])]⟩) ?_ ?_
  ·clear h
   have h := hj8
   clear hj8
   refine V_e (mb 57 4294975240) [72, 24, 90000, 90008] (s1 := ⟨bt 3 (.pt 24 0 :: bt 4 (I l4 :: .pt 72 0 :: I i5 :: I j6 :: I k7 :: bt 19 (Bo (leI 8 l4) :: bt 24 []))), [(72, .box [Ti 0]), (24, .box [.v (lsV b), .v (swV (σ 90000))]), (90000, .parr (σ 90000) 27 3 (xs0.map c27)), (90008, .pbox (σ 90008) [.v (ownVal (σ 90000))])]⟩) ?_
   refine V_cond rfl (fun hc9 => ?_) (fun hc9 => ?_)
   ·have h := of_true h hc9
    obtain ⟨j10, hj10, h⟩ := of_bind h
    refine V_cutK (mb 57 7688) [72, 24, 90000, 90008] (s1 := ⟨bt 3 (.pt 24 0 :: bt 5 (.pt 72 0 :: I j10.1 :: I j10.2.1 :: I j10.2.2.1 :: bt 44 [])), [(72, .box [Ti j10.2.2.2.1]), (24, .box [.v (lsV b), .v (swV (σ 90000))]), (90000, .parr (σ 90000) 27 3 (j10.2.2.2.2.map c27)), (90008, .pbox (σ 90008) [.v (ownVal (σ 90000))])]⟩) ?_ ?_
    ·clear h
     have h := hj10
     clear hj10
     refine V_e (mb 57 17179876872) [72, 24, 90000, 90008] (s1 := ⟨bt 3 (.pt 24 0 :: bt 5 (.pt 72 0 :: I i5 :: I j6 :: I k7 :: bt 21 (Bo (leI 50 l4) :: bt 22 []))), [(72, .box [Ti 0]), (24, .box [.v (lsV b), .v (swV (σ 90000))]), (90000, .parr (σ 90000) 27 3 (xs0.map c27)), (90008, .pbox (σ 90008) [.v (ownVal (σ 90000))])]⟩) ?_
     refine V_cond rfl (fun hc11 => ?_) (fun hc11 => ?_)
     ·have h := of_true h hc11
      obtain ⟨y12, hy12, h⟩ := of_bind h
      refine V_sreg (mb 57 7688) [72, 24, 90000, 90008] (s1 := ⟨bt 3 (.pt 24 0 :: bt 5 (.pt 72 0 :: I y12.1 :: I j6 :: I k7 :: bt 44 [])), [(72, .box [Ti y12.2.2]), (24, .box [.v (lsV b), .v (swV (σ 90000))]), (90000, .parr (σ 90000) 27 3 (y12.2.1.map c27)), (90008, .pbox (σ 90008) [.v (ownVal (σ 90000))])]⟩) ?_ ?_
      ·refine XR 2 ?_
       refine XL_cons rfl (X_callSo (l := σ 90000) (lb := σ 90008) (T0 := 27) (sz := 3) (els := xs0.map c27) (cs := [.v (ownVal (σ 90000))]) (E' := [(72, .box [Ti y12.2.2]), (24, .box [.v (lsV b), .v (swV (σ 90000))]), (90000, .parr (σ 90000) 27 3 (y12.2.1.map c27)), (90008, .pbox (σ 90008) [.v (ownVal (σ 90000))])]) [(80016, 72)] 37 (fun σ' e1 e2 => s_sort_medianAdjacent_func (l0 := σ 90000) hb hy12 σ' e1 e2) cf_sort_medianAdjacent_func (by kernel_rfl) (by kernel_rfl) rfl rfl rfl rfl (by kernel_rfl) rfl (mE_cons (by kernel_rfl) (mE_cons (by kernel_rfl) (mE_cons (by kernel_rfl) mE_nil))) rfl (by kernel_rfl) rfl rfl (by kernel_rfl)) ?_
       exact XE
      obtain ⟨y13, hy13, h⟩ := of_bind h
      refine V_sreg (mb 57 7688) [72, 24, 90000, 90008] (s1 := ⟨bt 3 (.pt 24 0 :: bt 5 (.pt 72 0 :: I y12.1 :: I y13.1 :: I k7 :: bt 44 [])), [(72, .box [Ti y13.2.2]), (24, .box [.v (lsV b), .v (swV (σ 90000))]), (90000, .parr (σ 90000) 27 3 (y13.2.1.map c27)), (90008, .pbox (σ 90008) [.v (ownVal (σ 90000))])]⟩) ?_ ?_
      ·refine XR 2 ?_
       refine XL_cons rfl (X_callSo (l := σ 90000) (lb := σ 90008) (T0 := 27) (sz := 3) (els := y12.2.1.map c27) (cs := [.v (ownVal (σ 90000))]) (E' := [(72, .box [Ti y13.2.2]), (24, .box [.v (lsV b), .v (swV (σ 90000))]), (90000, .parr (σ 90000) 27 3 (y13.2.1.map c27)), (90008, .pbox (σ 90008) [.v (ownVal (σ 90000))])]) [(80016, 72)] 40 (fun σ' e1 e2 => s_sort_medianAdjacent_func (l0 := σ 90000) hb hy13 σ' e1 e2) cf_sort_medianAdjacent_func (by kernel_rfl) (by kernel_rfl) rfl rfl rfl rfl (by kernel_rfl) rfl (mE_cons (by kernel_rfl) (mE_cons (by kernel_rfl) (mE_cons (by kernel_rfl) mE_nil))) rfl (by kernel_rfl) rfl rfl (by kernel_rfl)) ?_
       exact XE
      obtain ⟨y14, hy14, h⟩ := of_bind h
      refine V_reg (mb 57 7688) [72, 24, 90000, 90008] (s1 := ⟨bt 3 (.pt 24 0 :: bt 5 (.pt 72 0 :: I y12.1 :: I y13.1 :: I y14.1 :: bt 44 [])), [(72, .box [Ti y14.2.2]), (24, .box [.v (lsV b), .v (swV (σ 90000))]), (90000, .parr (σ 90000) 27 3 (y14.2.1.map c27)), (90008, .pbox (σ 90008) [.v (ownVal (σ 90000))])]⟩) ?_ ?_
      ·refine XR 2 ?_
       refine XL_cons rfl (X_callSo (l := σ 90000) (lb := σ 90008) (T0 := 27) (sz := 3) (els := y13.2.1.map c27) (cs := [.v (ownVal (σ 90000))]) (E' := [(72, .box [Ti y14.2.2]), (24, .box [.v (lsV b), .v (swV (σ 90000))]), (90000, .parr (σ 90000) 27 3 (y14.2.1.map c27)), (90008, .pbox (σ 90008) [.v (ownVal (σ 90000))])]) [(80016, 72)] 43 (fun σ' e1 e2 => s_sort_medianAdjacent_func (l0 := σ 90000) hb hy14 σ' e1 e2) cf_sort_medianAdjacent_func (by kernel_rfl) (by kernel_rfl) rfl rfl rfl rfl (by kernel_rfl) rfl (mE_cons (by kernel_rfl) (mE_cons (by kernel_rfl) (mE_cons (by kernel_rfl) mE_nil))) rfl (by kernel_rfl) rfl rfl (by kernel_rfl)) ?_
       exact XE
      obtain rfl := some_inj h
      show St.keep _ _ _ = _
      rfl
     ·have h := of_false h hc11
      refine V_skip ?_
      obtain rfl := some_inj h
      show St.keep _ _ _ = _
      rfl
    obtain ⟨y15, hy15, h⟩ := of_bind h
    refine V_reg (mb 57 2560) [72, 90000, 90008] (s1 := ⟨bt 9 (.pt 72 0 :: .bot :: I y15.1 :: bt 45 []), [(72, .box [Ti y15.2.2]), (90000, .parr (σ 90000) 27 3 (y15.2.1.map c27)), (90008, .pbox (σ 90008) [.v (ownVal (σ 90000))])]⟩) ?_ ?_
    ·refine XR 4 ?_
     refine XL_cons rfl (X_callSo (l := σ 90000) (lb := σ 90008) (T0 := 27) (sz := 3) (els := j10.2.2.2.2.map c27) (cs := [.v (ownVal (σ 90000))]) (E' := [(72, .box [Ti y15.2.2]), (24, .box [.v (lsV b), .v (swV (σ 90000))]), (90000, .parr (σ 90000) 27 3 (y15.2.1.map c27)), (90008, .pbox (σ 90008) [.v (ownVal (σ 90000))])]) [(80032, 72)] 48 (fun σ' e1 e2 => s_sort_median_func (l0 := σ 90000) hb hy15 σ' e1 e2) cf_sort_median_func (by kernel_rfl) (by kernel_rfl) rfl rfl rfl rfl (by kernel_rfl) rfl (mE_cons (by kernel_rfl) (mE_cons (by kernel_rfl) (mE_cons (by kernel_rfl) mE_nil))) rfl (by kernel_rfl) rfl rfl (by kernel_rfl)) ?_
     exact XE
    obtain rfl := some_inj h
    show St.keep _ _ _ = _
    rfl
   ·have h := of_false h hc9
    refine V_skip ?_
    obtain rfl := some_inj h
    show St.keep _ _ _ = _
    rfl
  refine V_e (mb 57 562949953423360) [90000, 90008] (s1 := ⟨bt 11 (I j8.1 :: bt 37 (I j8.2.1 :: bt 7 [])), [(90000, .parr (σ 90000) 27 3 (j8.2.2.map c27)), (90008, .pbox (σ 90008) [.v (ownVal (σ 90000))])]⟩) ?_
  refine V_block ?_
  refine V_e (mb 57 2814749767108608) [90000, 90008] (s1 := ⟨bt 11 (I j8.1 :: bt 37 (I j8.2.1 :: .bot :: Bo (eqI j8.2.1 0) :: bt 5 [])), [(90000, .parr (σ 90000) 27 3 (j8.2.2.map c27)), (90008, .pbox (σ 90008) [.v (ownVal (σ 90000))])]⟩) ?_
  refine V_cond rfl (fun hc16 => ?_) (fun hc16 => ?_)
  ·have h := of_true h hc16
   refine V_e (mb 57 192) [90000, 90008] (s1 := ⟨bt 6 (I j8.1 :: I 1 :: bt 49 []), [(90000, .parr (σ 90000) 27 3 (j8.2.2.map c27)), (90008, .pbox (σ 90008) [.v (ownVal (σ 90000))])]⟩) ?_
   refine V_ret ?_
   obtain rfl := some_inj h
   show PostR _ _ _ _ _ _
   exact ⟨⟨.inr rfl, rfl, rfl, rfl⟩, ⟨rfl, ⟨rfl, trivial⟩⟩⟩
  ·have h := of_false h hc16
   refine V_e (mb 57 18014398509484032) [90000, 90008] (s1 := ⟨bt 11 (I j8.1 :: bt 42 (Bo (eqI j8.2.1 12) :: .bot :: .bot :: [])), [(90000, .parr (σ 90000) 27 3 (j8.2.2.map c27)), (90008, .pbox (σ 90008) [.v (ownVal (σ 90000))])]⟩) ?_
   refine V_cond rfl (fun hc17 => ?_) (fun hc17 => ?_)
   ·have h := of_true h hc17
    refine V_e (mb 57 192) [90000, 90008] (s1 := ⟨bt 6 (I j8.1 :: I 2 :: bt 49 []), [(90000, .parr (σ 90000) 27 3 (j8.2.2.map c27)), (90008, .pbox (σ 90008) [.v (ownVal (σ 90000))])]⟩) ?_
    refine V_ret ?_
    obtain rfl := some_inj h
    show PostR _ _ _ _ _ _
    exact ⟨⟨.inr rfl, rfl, rfl, rfl⟩, ⟨rfl, ⟨rfl, trivial⟩⟩⟩
   ·have h := of_false h hc17
    refine V_e (mb 57 192) [90000, 90008] (s1 := ⟨bt 6 (I j8.1 :: I 0 :: bt 49 []), [(90000, .parr (σ 90000) 27 3 (j8.2.2.map c27)), (90008, .pbox (σ 90008) [.v (ownVal (σ 90000))])]⟩) ?_
    refine V_ret ?_
    obtain rfl := some_inj h
    show PostR _ _ _ _ _ _
    exact ⟨⟨.inr rfl, rfl, rfl, rfl⟩, ⟨rfl, ⟨rfl, trivial⟩⟩⟩
theorem cf_sort_reverseRange_func : ∀ args w, (callFunc 204 args).run Tryz.prog w = .ok (.enter 204 args) w := run_callFunc Tryz.func204 (by kernel_rfl) (by kernel_rfl)
theorem s_sort_reverseRange_func {xs0 : List ((Int × Int × Int))} {a1 : Int} {b2 : Int} {l0 lb : Loc} {b : Nat} (hb : lb.blk = some b) {r : List ((Int × Int × Int))} (h : r_sort_reverseRange_func xs0 a1 b2 = some r) : ∀ σ : Nat → Loc, σ 90000 = l0 → σ 90008 = lb → CallRs Tryz.prog 204 σ [.ag [.v (lsV b), .v (swV l0)], I a1, I b2] [(90000, .arr 27 3 (xs0.map c27)), (90008, .box [.v (ownVal l0)])] (.tn) [] [(90000, .arr 27 3 (r.map c27)), (90008, .box [.v (ownVal l0)])] := by
  intro σ e1 e2
  subst e1 e2
  refine CallRs_of_text (rs := []) (vs := []) Tryz.func204 rfl rfl FitsL.nil (by decide) 23 rfl rfl ?_
  unfold r_sort_reverseRange_func at h
  show V _ _ ⟨.ag [.v (lsV b), .v (swV (σ 90000))] :: I a1 :: I b2 :: bt 20 [], [(90000, .parr (σ 90000) 27 3 (xs0.map c27)), (90008, .pbox (σ 90008) [.v (ownVal (σ 90000))])]⟩ _
  refine V_e (mb 23 14) [24, 90000, 90008] (s1 := ⟨.bot :: I a1 :: I b2 :: .pt 24 0 :: bt 19 [], [(24, .box [.v (lsV b), .v (swV (σ 90000))]), (90000, .parr (σ 90000) 27 3 (xs0.map c27)), (90008, .pbox (σ 90008) [.v (ownVal (σ 90000))])]⟩) ?_
  refine V_e (mb 23 76) [24, 90000, 90008] (s1 := ⟨.bot :: .bot :: I b2 :: .pt 24 0 :: .bot :: .bot :: I a1 :: bt 16 [], [(24, .box [.v (lsV b), .v (swV (σ 90000))]), (90000, .parr (σ 90000) 27 3 (xs0.map c27)), (90008, .pbox (σ 90008) [.v (ownVal (σ 90000))])]⟩) ?_
  obtain ⟨j4, hj4, h⟩ := of_sI h
  refine V_sreg (mb 23 200) [24, 90000, 90008] (s1 := ⟨bt 3 (.pt 24 0 :: .bot :: .bot :: I a1 :: I j4 :: bt 15 []), [(24, .box [.v (lsV b), .v (swV (σ 90000))]), (90000, .parr (σ 90000) 27 3 (xs0.map c27)), (90008, .pbox (σ 90008) [.v (ownVal (σ 90000))])]⟩) ?_ ?_
  ·refine XR 3 ?_
   refine XL_nil ?_
   subst hj4
   kernel_rfl
  obtain ⟨o9, hLo9, h⟩ := of_bind h
  refine V_toK (mb 23 0) [90000, 90008] (s1 := ⟨bt 23 [], [(90000, .parr (σ 90000) 27 3 (o9.map c27)), (90008, .pbox (σ 90008) [.v (ownVal (σ 90000))])]⟩) ?_ ?_
  ·clear h
   refine V_block (V_loop (fun n s => ∃ (i5 : Int) (j6 : Int) (l7 : List ((Int × Int × Int))), s.keep (mb 23 200) [24, 90000, 90008] = (⟨bt 3 (.pt 24 0 :: .bot :: .bot :: I i5 :: I j6 :: bt 15 []), [(24, .box [.v (lsV b), .v (swV (σ 90000))]), (90000, .parr (σ 90000) 27 3 (l7.map c27)), (90008, .pbox (σ 90008) [.v (ownVal (σ 90000))])]⟩ : St) ∧ r_sort_reverseRange_func_L8 n i5 j6 l7 = some o9) FU ⟨_, _, _,  by rfl, hLo9⟩ ?_)
   clear hLo9
   rintro n s ⟨i5, j6, l7, hs, h⟩
   refine V_keep _ _ hs ?_
   clear hs
   cases n with
   | zero => cases h
   | succ n =>
    rw [r_sort_reverseRange_func_L8] at h
    refine V_seq ?_
    refine V_e (mb 23 8392) [24, 90000, 90008] (s1 := ⟨bt 3 (.pt 24 0 :: .bot :: .bot :: I i5 :: I j6 :: bt 5 (Bo (ltI i5 j6) :: bt 9 [])), [(24, .box [.v (lsV b), .v (swV (σ 90000))]), (90000, .parr (σ 90000) 27 3 (l7.map c27)), (90008, .pbox (σ 90008) [.v (ownVal (σ 90000))])]⟩) ?_
    refine V_cond rfl (fun hc10 => ?_) (fun hc10 => ?_)
    ·have h := of_true h hc10
     refine V_skip ?_
     show V _ _ _ _
     refine V_block ?_
     obtain ⟨e11, he11, h⟩ := of_bind h
     obtain ⟨e12, he12, h⟩ := of_bind h
     refine V_sreg (mb 23 200) [24, 90000, 90008] (s1 := ⟨bt 3 (.pt 24 0 :: .bot :: .bot :: I i5 :: I j6 :: bt 15 []), [(24, .box [.v (lsV b), .v (swV (σ 90000))]), (90000, .parr (σ 90000) 27 3 (((l7.set (Int.toNat (i5)) e12).set (Int.toNat (j6)) e11).map c27)), (90008, .pbox (σ 90008) [.v (ownVal (σ 90000))])]⟩) ?_ ?_
     ·refine XR 4 ?_
      refine XL_cons rfl (X_swapM (c := c27) (xs := l7) (u := e11) (v := e12) (I1 := i5) (J1 := j6) (l := σ 90000) (T0 := 27) (id := 90000) (g := false) swX agX sz27 rfl (by kernel_rfl) rfl (by kernel_rfl) (by kernel_rfl) (by kernel_rfl) he11 he12) ?_
      exact XE
     obtain ⟨i13, hi13, h⟩ := of_sI h
     refine V_sreg (mb 23 200) [24, 90000, 90008] (s1 := ⟨bt 3 (.pt 24 0 :: .bot :: .bot :: I i13 :: I j6 :: bt 15 []), [(24, .box [.v (lsV b), .v (swV (σ 90000))]), (90000, .parr (σ 90000) 27 3 (((l7.set (Int.toNat (i5)) e12).set (Int.toNat (j6)) e11).map c27)), (90008, .pbox (σ 90008) [.v (ownVal (σ 90000))])]⟩) ?_ ?_
     ·refine XR 3 ?_
      refine XL_nil ?_
      subst hi13
      kernel_rfl
     obtain ⟨j14, hj14, h⟩ := of_sI h
     refine V_reg (mb 23 200) [24, 90000, 90008] (s1 := ⟨bt 3 (.pt 24 0 :: .bot :: .bot :: I i13 :: I j14 :: bt 15 []), [(24, .box [.v (lsV b), .v (swV (σ 90000))]), (90000, .parr (σ 90000) 27 3 (((l7.set (Int.toNat (i5)) e12).set (Int.toNat (j6)) e11).map c27)), (90008, .pbox (σ 90008) [.v (ownVal (σ 90000))])]⟩) ?_ ?_
     ·refine XR 3 ?_
      refine XL_nil ?_
      subst hj14
      kernel_rfl
     exact ⟨n, Nat.lt_succ_self n, _, _, _,  by rfl, h⟩
    ·have h := of_false h hc10
     refine V_exit ?_
     obtain rfl := some_inj h
     show St.keep _ _ _ = _
     rfl
  obtain rfl := some_inj h
  show PostR _ _ _ _ _ _
  exact ⟨⟨.inl rfl, rfl, rfl, rfl⟩, ⟨rfl, ⟨rfl, trivial⟩⟩⟩
theorem cf_sort_partialInsertionSort_func : ∀ args w, (callFunc 205 args).run Tryz.prog w = .ok (.enter 205 args) w := run_callFunc Tryz.func205 (by kernel_rfl) (by kernel_rfl)
theorem s_sort_partialInsertionSort_func {xs0 : List ((Int × Int × Int))} {a1 : Int} {b2 : Int} {l0 lb : Loc} {b : Nat} (hb : lb.blk = some b) {r : (Bool × (List ((Int × Int × Int))))} (h : r_sort_partialInsertionSort_func xs0 a1 b2 = some r) : ∀ σ : Nat → Loc, σ 90000 = l0 → σ 90008 = lb → CallRs Tryz.prog 205 σ [.ag [.v (lsV b), .v (swV l0)], I a1, I b2] [(90000, .arr 27 3 (xs0.map c27)), (90008, .box [.v (ownVal l0)])] (Bo r.1) [] [(90000, .arr 27 3 (r.2.map c27)), (90008, .box [.v (ownVal l0)])] := by
  intro σ e1 e2
  subst e1 e2
  refine CallRs_of_text (rs := [.t 6]) (vs := [.tmp 6]) Tryz.func205 rfl rfl (.cons rfl FitsL.nil) (by decide) 91 rfl rfl ?_
  unfold r_sort_partialInsertionSort_func at h
  show V _ _ ⟨.ag [.v (lsV b), .v (swV (σ 90000))] :: I a1 :: I b2 :: bt 88 [], [(90000, .parr (σ 90000) 27 3 (xs0.map c27)), (90008, .pbox (σ 90008) [.v (ownVal (σ 90000))])]⟩ _
  refine V_e (mb 91 14) [24, 90000, 90008] (s1 := ⟨.bot :: I a1 :: I b2 :: .pt 24 0 :: bt 87 [], [(24, .box [.v (lsV b), .v (swV (σ 90000))]), (90000, .parr (σ 90000) 27 3 (xs0.map c27)), (90008, .pbox (σ 90008) [.v (ownVal (σ 90000))])]⟩) ?_
  obtain ⟨i4, hi4, h⟩ := of_sI h
  refine V_sreg (mb 91 142) [24, 90000, 90008] (s1 := ⟨.bot :: I a1 :: I b2 :: .pt 24 0 :: bt 3 (I i4 :: bt 83 []), [(24, .box [.v (lsV b), .v (swV (σ 90000))]), (90000, .parr (σ 90000) 27 3 (xs0.map c27)), (90008, .pbox (σ 90008) [.v (ownVal (σ 90000))])]⟩) ?_ ?_
  ·refine XR 3 ?_
   refine XL_nil ?_
   subst hi4
   kernel_rfl
  refine V_seq ?_
  refine V_e (mb 91 398) [24, 90000, 90008] (s1 := ⟨.bot :: I a1 :: I b2 :: .pt 24 0 :: bt 3 (I i4 :: I 0 :: bt 82 []), [(24, .box [.v (lsV b), .v (swV (σ 90000))]), (90000, .parr (σ 90000) 27 3 (xs0.map c27)), (90008, .pbox (σ 90008) [.v (ownVal (σ 90000))])]⟩) ?_
  obtain ⟨qo9, hLo9, hko9⟩ := of_bind h
  refine V_toS (q := qo9) (S := fun o9 => ⟨bt 91 [], [(90000, .parr (σ 90000) 27 3 (o9.map c27)), (90008, .pbox (σ 90008) [.v (ownVal (σ 90000))])]⟩) (mb 91 0) [90000, 90008] ?_ ?_
  ·refine V_block (V_loop (fun n s => ∃ (i5 : Int) (j6 : Int) (l7 : List ((Int × Int × Int))), s.keep (mb 91 398) [24, 90000, 90008] = (⟨.bot :: I a1 :: I b2 :: .pt 24 0 :: bt 3 (I i5 :: I j6 :: bt 82 []), [(24, .box [.v (lsV b), .v (swV (σ 90000))]), (90000, .parr (σ 90000) 27 3 (l7.map c27)), (90008, .pbox (σ 90008) [.v (ownVal (σ 90000))])]⟩ : St) ∧ r_sort_partialInsertionSort_func_L8 a1 b2 n i5 j6 l7 = some qo9) FU ⟨_, _, _,  by rfl, hLo9⟩ ?_)
   clear hLo9
   rintro n s ⟨i5, j6, l7, hs, h⟩
   refine V_keep _ _ hs ?_
   clear hs
   cases n with
   | zero => cases h
   | succ n =>
    rw [r_sort_partialInsertionSort_func_L8] at h
    refine V_seq ?_
    refine V_e (mb 91 16782) [24, 90000, 90008] (s1 := ⟨.bot :: I a1 :: I b2 :: .pt 24 0 :: bt 3 (I i5 :: I j6 :: bt 5 (Bo (ltI j6 5) :: bt 76 [])), [(24, .box [.v (lsV b), .v (swV (σ 90000))]), (90000, .parr (σ 90000) 27 3 (l7.map c27)), (90008, .pbox (σ 90008) [.v (ownVal (σ 90000))])]⟩) ?_
    refine V_cond rfl (fun hc10 => ?_) (fun hc10 => ?_)
    ·have h := of_true h hc10
     refine V_skip ?_
     show V _ _ _ _
     refine V_seq ?_
     refine V_block ?_
     refine V_seq ?_
     obtain ⟨o13, hLo13, h⟩ := of_bind h
     refine V_toK (mb 91 398) [24, 90000, 90008] (s1 := ⟨.bot :: I a1 :: I b2 :: .pt 24 0 :: bt 3 (I o13 :: I j6 :: bt 82 []), [(24, .box [.v (lsV b), .v (swV (σ 90000))]), (90000, .parr (σ 90000) 27 3 (l7.map c27)), (90008, .pbox (σ 90008) [.v (ownVal (σ 90000))])]⟩) ?_ ?_
     ·clear h
      refine V_block (V_loop (fun n s => ∃ (i11 : Int), s.keep (mb 91 398) [24, 90000, 90008] = (⟨.bot :: I a1 :: I b2 :: .pt 24 0 :: bt 3 (I i11 :: I j6 :: bt 82 []), [(24, .box [.v (lsV b), .v (swV (σ 90000))]), (90000, .parr (σ 90000) 27 3 (l7.map c27)), (90008, .pbox (σ 90008) [.v (ownVal (σ 90000))])]⟩ : St) ∧ r_sort_partialInsertionSort_func_L12 a1 b2 j6 l7 n i11 = some o13) FU ⟨_,  by rfl, hLo13⟩ ?_)
      clear hLo13
      rintro n s ⟨i11, hs, h⟩
      refine V_keep _ _ hs ?_
      clear hs
      cases n with
      | zero => cases h
      | succ n =>
       rw [r_sort_partialInsertionSort_func_L12] at h
       refine V_seq ?_
       obtain ⟨b16, hb16, h⟩ := of_bind h
       refine V_sreg (mb 91 268435854) [24, 90000, 90008] (s1 := ⟨.bot :: I a1 :: I b2 :: .pt 24 0 :: bt 3 (I i11 :: I j6 :: bt 19 (Bo b16 :: bt 62 [])), [(24, .box [.v (lsV b), .v (swV (σ 90000))]), (90000, .parr (σ 90000) 27 3 (l7.map c27)), (90008, .pbox (σ 90008) [.v (ownVal (σ 90000))])]⟩) ?_ ?_
       ·refine XR 4 ?_
        refine XL_split (ltI i11 b2) (fun hc14 => ?_) (fun hc14 => ?_)
        ·have hb16 := of_true hb16 hc14
         obtain ⟨y15, hy15, hb16⟩ := of_bind hb16
         have hb16 := some_inj hb16
         refine XL_takeC _ rfl rfl (by kernel_rfl) hc14 (X_of_Y0 rfl (E_field (.pt 24 0) Tryz.underlying145 rfl sz63 rfl (by kernel_rfl) (by intro hh; cases hh))) ?_
         refine XL_takeC _ rfl rfl (by kernel_rfl) hc14 (X_of_Y0 rfl (Y0_load1 (c := .v (lsV b)) (cs := [.v (swV (σ 90000))]) sc63 rfl (by kernel_rfl))) ?_
         refine XL_takeC _ rfl rfl (by kernel_rfl) hc14 (X_of_Y0 rfl (E_move (I i11) rfl (by kernel_rfl))) ?_
         refine XL_takeC _ rfl rfl (by kernel_rfl) hc14 (X_of_Y0 rfl (E_move (I i11) rfl (by kernel_rfl))) ?_
         refine XL_takeC _ rfl rfl (by kernel_rfl) hc14 (X_of_Y0 rfl (Y0_sub64 (a := i11) (b := 1) rfl (by kernel_rfl) (by kernel_rfl))) ?_
         refine XL_takeC _ rfl rfl (by kernel_rfl) hc14 (X_of_Y1 rfl (Y1_less (l := σ 90000) (lb := σ 90008) (T0 := 27) (id := 90000) (bid := 90008) (sz := 3) (b := b) (els := l7.map c27) (i := i11) (j := w64 (i11 - 1)) (s_impl_sortForms_1 hy15) cf_impl_sortForms_1 rfl (by kernel_rfl) (by kernel_rfl) (by kernel_rfl) (by kernel_rfl) hb (by kernel_rfl))) ?_
         refine XL_takeC _ rfl rfl (by kernel_rfl) hc14 (X_of_Y0 rfl (Y0_not (b := y15) rfl (by kernel_rfl))) ?_
         refine XL_cons rfl (X_of_Y0 rfl (Y0_pickTe (b := ltI i11 b2) (p := !y15) rfl (by kernel_rfl) hc14 (by kernel_rfl) hb16)) ?_
         exact XE
        ·have hb16 := some_inj (of_false hb16 hc14)
         refine XL_skipT _ rfl rfl (by kernel_rfl) hc14 rfl ?_
         refine XL_skipT _ rfl rfl (by kernel_rfl) hc14 rfl ?_
         refine XL_skipT _ rfl rfl (by kernel_rfl) hc14 rfl ?_
         refine XL_skipT _ rfl rfl (by kernel_rfl) hc14 rfl ?_
         refine XL_skipT _ rfl rfl (by kernel_rfl) hc14 rfl ?_
         refine XL_skipT _ rfl rfl (by kernel_rfl) hc14 rfl ?_
         refine XL_skipT _ rfl rfl (by kernel_rfl) hc14 rfl ?_
         refine XL_cons rfl (X_of_Y0 rfl (Y0_pickFe (b := ltI i11 b2) (p := false) rfl (by kernel_rfl) hc14 (by kernel_rfl) hb16)) ?_
         exact XE
       refine V_cond rfl (fun hc17 => ?_) (fun hc17 => ?_)
       ·have h := of_true h hc17
        refine V_skip ?_
        show V _ _ _ _
        refine V_block ?_
        obtain ⟨i18, hi18, h⟩ := of_sI h
        refine V_reg (mb 91 398) [24, 90000, 90008] (s1 := ⟨.bot :: I a1 :: I b2 :: .pt 24 0 :: bt 3 (I i18 :: I j6 :: bt 82 []), [(24, .box [.v (lsV b), .v (swV (σ 90000))]), (90000, .parr (σ 90000) 27 3 (l7.map c27)), (90008, .pbox (σ 90008) [.v (ownVal (σ 90000))])]⟩) ?_ ?_
        ·refine XR 3 ?_
         refine XL_nil ?_
         subst hi18
         kernel_rfl
        exact ⟨n, Nat.lt_succ_self n, _,  by rfl, h⟩
       ·have h := of_false h hc17
        refine V_exit ?_
        obtain rfl := some_inj h
        show St.keep _ _ _ = _
        rfl
     show V _ _ _ _
     refine V_seq ?_
     refine V_e (mb 91 8589934990) [24, 90000, 90008] (s1 := ⟨.bot :: I a1 :: I b2 :: .pt 24 0 :: bt 3 (I o13 :: I j6 :: bt 24 (Bo (eqI o13 b2) :: bt 57 [])), [(24, .box [.v (lsV b), .v (swV (σ 90000))]), (90000, .parr (σ 90000) 27 3 (l7.map c27)), (90008, .pbox (σ 90008) [.v (ownVal (σ 90000))])]⟩) ?_
     refine V_cond rfl (fun hc19 => ?_) (fun hc19 => ?_)
     ·have h := of_true h hc19
      refine V_e (mb 91 64) [90000, 90008] (s1 := ⟨bt 6 (Bo true :: bt 84 []), [(90000, .parr (σ 90000) 27 3 (l7.map c27)), (90008, .pbox (σ 90008) [.v (ownVal (σ 90000))])]⟩) ?_
      refine V_ret ?_
      obtain rfl := some_inj h
      have h := hko9
      obtain rfl := some_inj h
      show PostR _ _ _ _ _ _
      exact ⟨⟨.inr rfl, rfl, rfl, rfl⟩, ⟨rfl, ⟨rfl, trivial⟩⟩⟩
     ·have h := of_false h hc19
      refine V_skip ?_
      show V _ _ _ _
      refine V_seq ?_
      refine V_e (mb 91 137438953870) [24, 90000, 90008] (s1 := ⟨.bot :: I a1 :: I b2 :: .pt 24 0 :: bt 3 (I o13 :: I j6 :: bt 28 (Bo (ltI (w64 (b2 - a1)) 50) :: bt 53 [])), [(24, .box [.v (lsV b), .v (swV (σ 90000))]), (90000, .parr (σ 90000) 27 3 (l7.map c27)), (90008, .pbox (σ 90008) [.v (ownVal (σ 90000))])]⟩) ?_
      refine V_cond rfl (fun hc20 => ?_) (fun hc20 => ?_)
      ·have h := of_true h hc20
       refine V_e (mb 91 64) [90000, 90008] (s1 := ⟨bt 6 (Bo false :: bt 84 []), [(90000, .parr (σ 90000) 27 3 (l7.map c27)), (90008, .pbox (σ 90008) [.v (ownVal (σ 90000))])]⟩) ?_
       refine V_ret ?_
       obtain rfl := some_inj h
       have h := hko9
       obtain rfl := some_inj h
       show PostR _ _ _ _ _ _
       exact ⟨⟨.inr rfl, rfl, rfl, rfl⟩, ⟨rfl, ⟨rfl, trivial⟩⟩⟩
      ·have h := of_false h hc20
       refine V_skip ?_
       show V _ _ _ _
       obtain ⟨e21, he21, h⟩ := of_bind h
       obtain ⟨e22, he22, h⟩ := of_bind h
       obtain ⟨l23, hl23, h⟩ := of_bind h
       have hl23 := some_inj hl23
       refine V_sreg (mb 91 398) [24, 90000, 90008] (s1 := ⟨.bot :: I a1 :: I b2 :: .pt 24 0 :: bt 3 (I o13 :: I j6 :: bt 82 []), [(24, .box [.v (lsV b), .v (swV (σ 90000))]), (90000, .parr (σ 90000) 27 3 (l23.map c27)), (90008, .pbox (σ 90008) [.v (ownVal (σ 90000))])]⟩) ?_ ?_
       ·refine XR 5 ?_
        refine XL_cons rfl (X_swapM (c := c27) (xs := l7) (u := e21) (v := e22) (I1 := o13) (J1 := w64 (o13 - 1)) (l := σ 90000) (T0 := 27) (id := 90000) (g := false) swX agX sz27 rfl (by kernel_rfl) rfl (by kernel_rfl) (by kernel_rfl) (by kernel_rfl) he21 he22) ?_
        refine XL_nil ?_
        subst hl23
        kernel_rfl
       obtain ⟨j24, hj24, h⟩ := of_bind h
       refine V_cutK (mb 91 398) [24, 90000, 90008] (s1 := ⟨.bot :: I a1 :: I b2 :: .pt 24 0 :: bt 3 (I o13 :: I j6 :: bt 82 []), [(24, .box [.v (lsV b), .v (swV (σ 90000))]), (90000, .parr (σ 90000) 27 3 (j24.map c27)), (90008, .pbox (σ 90008) [.v (ownVal (σ 90000))])]⟩) ?_ ?_
       ·clear h
        have h := hj24
        clear hj24
        refine V_e (mb 91 140737488355726) [24, 90000, 90008] (s1 := ⟨.bot :: I a1 :: I b2 :: .pt 24 0 :: bt 3 (I o13 :: I j6 :: bt 38 (Bo (leI 2 (w64 (o13 - a1))) :: bt 43 [])), [(24, .box [.v (lsV b), .v (swV (σ 90000))]), (90000, .parr (σ 90000) 27 3 (l23.map c27)), (90008, .pbox (σ 90008) [.v (ownVal (σ 90000))])]⟩) ?_
        refine V_cond rfl (fun hc25 => ?_) (fun hc25 => ?_)
        ·have h := of_true h hc25
         obtain ⟨j26, hj26, h⟩ := of_sI h
         refine V_sreg (mb 91 910) [24, 90000, 90008] (s1 := ⟨.bot :: I a1 :: I b2 :: .pt 24 0 :: bt 3 (I o13 :: I j6 :: I j26 :: bt 81 []), [(24, .box [.v (lsV b), .v (swV (σ 90000))]), (90000, .parr (σ 90000) 27 3 (l23.map c27)), (90008, .pbox (σ 90008) [.v (ownVal (σ 90000))])]⟩) ?_ ?_
         ·refine XR 3 ?_
          refine XL_nil ?_
          subst hj26
          kernel_rfl
         obtain ⟨o30, hLo30, h⟩ := of_bind h
         refine V_toK (mb 91 398) [24, 90000, 90008] (s1 := ⟨.bot :: I a1 :: I b2 :: .pt 24 0 :: bt 3 (I o13 :: I j6 :: bt 82 []), [(24, .box [.v (lsV b), .v (swV (σ 90000))]), (90000, .parr (σ 90000) 27 3 (o30.map c27)), (90008, .pbox (σ 90008) [.v (ownVal (σ 90000))])]⟩) ?_ ?_
         ·clear h
          refine V_block (V_loop (fun n s => ∃ (j27 : Int) (l28 : List ((Int × Int × Int))), s.keep (mb 91 910) [24, 90000, 90008] = (⟨.bot :: I a1 :: I b2 :: .pt 24 0 :: bt 3 (I o13 :: I j6 :: I j27 :: bt 81 []), [(24, .box [.v (lsV b), .v (swV (σ 90000))]), (90000, .parr (σ 90000) 27 3 (l28.map c27)), (90008, .pbox (σ 90008) [.v (ownVal (σ 90000))])]⟩ : St) ∧ r_sort_partialInsertionSort_func_L29 a1 b2 j6 o13 n j27 l28 = some o30) FU ⟨_, _,  by rfl, hLo30⟩ ?_)
          clear hLo30
          rintro n s ⟨j27, l28, hs, h⟩
          refine V_keep _ _ hs ?_
          clear hs
          cases n with
          | zero => cases h
          | succ n =>
           rw [r_sort_partialInsertionSort_func_L29] at h
           refine V_seq ?_
           refine V_e (mb 91 2251799813686158) [24, 90000, 90008] (s1 := ⟨.bot :: I a1 :: I b2 :: .pt 24 0 :: bt 3 (I o13 :: I j6 :: I j27 :: bt 41 (Bo (leI 1 j27) :: bt 39 [])), [(24, .box [.v (lsV b), .v (swV (σ 90000))]), (90000, .parr (σ 90000) 27 3 (l28.map c27)), (90008, .pbox (σ 90008) [.v (ownVal (σ 90000))])]⟩) ?_
           refine V_cond rfl (fun hc31 => ?_) (fun hc31 => ?_)
           ·have h := of_true h hc31
            refine V_skip ?_
            show V _ _ _ _
            refine V_seq ?_
            refine V_block ?_
            refine V_seq ?_
            obtain ⟨y32, hy32, h⟩ := of_bind h
            refine V_sreg (mb 91 1152921504606847886) [24, 90000, 90008] (s1 := ⟨.bot :: I a1 :: I b2 :: .pt 24 0 :: bt 3 (I o13 :: I j6 :: I j27 :: bt 50 (Bo (!y32) :: bt 30 [])), [(24, .box [.v (lsV b), .v (swV (σ 90000))]), (90000, .parr (σ 90000) 27 3 (l28.map c27)), (90008, .pbox (σ 90008) [.v (ownVal (σ 90000))])]⟩) ?_ ?_
            ·refine XR 5 ?_
             refine L1 rfl rfl (Y1_less (l := σ 90000) (lb := σ 90008) (T0 := 27) (id := 90000) (bid := 90008) (sz := 3) (b := b) (els := l28.map c27) (i := j27) (j := w64 (j27 - 1)) (s_impl_sortForms_1 hy32) cf_impl_sortForms_1 rfl (by kernel_rfl) (by kernel_rfl) (by kernel_rfl) (by kernel_rfl) hb (by kernel_rfl)) ?_
             exact XE
            refine V_cond rfl (fun hc33 => ?_) (fun hc33 => ?_)
            ·have h := of_true h hc33
             refine V_exit ?_
             obtain rfl := some_inj h
             show St.keep _ _ _ = _
             rfl
            ·have h := of_false h hc33
             refine V_skip ?_
             show V _ _ _ _
             obtain ⟨e34, he34, h⟩ := of_bind h
             obtain ⟨e35, he35, h⟩ := of_bind h
             obtain ⟨l36, hl36, h⟩ := of_bind h
             have hl36 := some_inj hl36
             refine V_reg (mb 91 910) [24, 90000, 90008] (s1 := ⟨.bot :: I a1 :: I b2 :: .pt 24 0 :: bt 3 (I o13 :: I j6 :: I j27 :: bt 81 []), [(24, .box [.v (lsV b), .v (swV (σ 90000))]), (90000, .parr (σ 90000) 27 3 (l36.map c27)), (90008, .pbox (σ 90008) [.v (ownVal (σ 90000))])]⟩) ?_ ?_
             ·refine XR 5 ?_
              refine XL_cons rfl (X_swapM (c := c27) (xs := l28) (u := e34) (v := e35) (I1 := j27) (J1 := w64 (j27 - 1)) (l := σ 90000) (T0 := 27) (id := 90000) (g := false) swX agX sz27 rfl (by kernel_rfl) rfl (by kernel_rfl) (by kernel_rfl) (by kernel_rfl) he34 he35) ?_
              refine XL_nil ?_
              subst hl36
              kernel_rfl
             show V _ _ _ _
             obtain ⟨j37, hj37, h⟩ := of_sI h
             refine V_reg (mb 91 910) [24, 90000, 90008] (s1 := ⟨.bot :: I a1 :: I b2 :: .pt 24 0 :: bt 3 (I o13 :: I j6 :: I j37 :: bt 81 []), [(24, .box [.v (lsV b), .v (swV (σ 90000))]), (90000, .parr (σ 90000) 27 3 (l36.map c27)), (90008, .pbox (σ 90008) [.v (ownVal (σ 90000))])]⟩) ?_ ?_
             ·refine XR 3 ?_
              refine XL_nil ?_
              subst hj37
              kernel_rfl
             exact ⟨n, Nat.lt_succ_self n, _, _,  by rfl, h⟩
           ·have h := of_false h hc31
            refine V_exit ?_
            obtain rfl := some_inj h
            show St.keep _ _ _ = _
            rfl
         obtain rfl := some_inj h
         show St.keep _ _ _ = _
         rfl
        ·have h := of_false h hc25
         refine V_skip ?_
         obtain rfl := some_inj h
         show St.keep _ _ _ = _
         rfl
       refine V_e (mb 91 1180591620717411303822) [24, 90000, 90008] (s1 := ⟨.bot :: I a1 :: I b2 :: .pt 24 0 :: bt 3 (I o13 :: I j6 :: bt 61 (Bo (leI 2 (w64 (b2 - o13))) :: bt 20 [])), [(24, .box [.v (lsV b), .v (swV (σ 90000))]), (90000, .parr (σ 90000) 27 3 (j24.map c27)), (90008, .pbox (σ 90008) [.v (ownVal (σ 90000))])]⟩) ?_
       refine V_cond rfl (fun hc38 => ?_) (fun hc38 => ?_)
       ·have h := of_true h hc38
        obtain ⟨j39, hj39, h⟩ := of_sI h
        refine V_sreg (mb 91 1422) [24, 90000, 90008] (s1 := ⟨.bot :: I a1 :: I b2 :: .pt 24 0 :: bt 3 (I o13 :: I j6 :: .bot :: I j39 :: bt 80 []), [(24, .box [.v (lsV b), .v (swV (σ 90000))]), (90000, .parr (σ 90000) 27 3 (j24.map c27)), (90008, .pbox (σ 90008) [.v (ownVal (σ 90000))])]⟩) ?_ ?_
        ·refine XR 3 ?_
         refine XL_nil ?_
         subst hj39
         kernel_rfl
        obtain ⟨o43, hLo43, h⟩ := of_bind h
        refine V_toK (mb 91 398) [24, 90000, 90008] (s1 := ⟨.bot :: I a1 :: I b2 :: .pt 24 0 :: bt 3 (I o13 :: I j6 :: bt 82 []), [(24, .box [.v (lsV b), .v (swV (σ 90000))]), (90000, .parr (σ 90000) 27 3 (o43.map c27)), (90008, .pbox (σ 90008) [.v (ownVal (σ 90000))])]⟩) ?_ ?_
        ·clear h
         refine V_block (V_loop (fun n s => ∃ (j40 : Int) (l41 : List ((Int × Int × Int))), s.keep (mb 91 1422) [24, 90000, 90008] = (⟨.bot :: I a1 :: I b2 :: .pt 24 0 :: bt 3 (I o13 :: I j6 :: .bot :: I j40 :: bt 80 []), [(24, .box [.v (lsV b), .v (swV (σ 90000))]), (90000, .parr (σ 90000) 27 3 (l41.map c27)), (90008, .pbox (σ 90008) [.v (ownVal (σ 90000))])]⟩ : St) ∧ r_sort_partialInsertionSort_func_L42 a1 b2 j6 o13 n j40 l41 = some o43) FU ⟨_, _,  by rfl, hLo43⟩ ?_)
         clear hLo43
         rintro n s ⟨j40, l41, hs, h⟩
         refine V_keep _ _ hs ?_
         clear hs
         cases n with
         | zero => cases h
         | succ n =>
          rw [r_sort_partialInsertionSort_func_L42] at h
          refine V_seq ?_
          refine V_e (mb 91 37778931862957161710990) [24, 90000, 90008] (s1 := ⟨.bot :: I a1 :: I b2 :: .pt 24 0 :: bt 3 (I o13 :: I j6 :: .bot :: I j40 :: bt 64 (Bo (ltI j40 b2) :: bt 15 [])), [(24, .box [.v (lsV b), .v (swV (σ 90000))]), (90000, .parr (σ 90000) 27 3 (l41.map c27)), (90008, .pbox (σ 90008) [.v (ownVal (σ 90000))])]⟩) ?_
          refine V_cond rfl (fun hc44 => ?_) (fun hc44 => ?_)
          ·have h := of_true h hc44
           refine V_skip ?_
           show V _ _ _ _
           refine V_seq ?_
           refine V_block ?_
           refine V_seq ?_
           obtain ⟨y45, hy45, h⟩ := of_bind h
           refine V_sreg (mb 91 19342813113834066795300238) [24, 90000, 90008] (s1 := ⟨.bot :: I a1 :: I b2 :: .pt 24 0 :: bt 3 (I o13 :: I j6 :: .bot :: I j40 :: bt 73 (Bo (!y45) :: bt 6 [])), [(24, .box [.v (lsV b), .v (swV (σ 90000))]), (90000, .parr (σ 90000) 27 3 (l41.map c27)), (90008, .pbox (σ 90008) [.v (ownVal (σ 90000))])]⟩) ?_ ?_
           ·refine XR 5 ?_
            refine L1 rfl rfl (Y1_less (l := σ 90000) (lb := σ 90008) (T0 := 27) (id := 90000) (bid := 90008) (sz := 3) (b := b) (els := l41.map c27) (i := j40) (j := w64 (j40 - 1)) (s_impl_sortForms_1 hy45) cf_impl_sortForms_1 rfl (by kernel_rfl) (by kernel_rfl) (by kernel_rfl) (by kernel_rfl) hb (by kernel_rfl)) ?_
            exact XE
           refine V_cond rfl (fun hc46 => ?_) (fun hc46 => ?_)
           ·have h := of_true h hc46
            refine V_exit ?_
            obtain rfl := some_inj h
            show St.keep _ _ _ = _
            rfl
           ·have h := of_false h hc46
            refine V_skip ?_
            show V _ _ _ _
            obtain ⟨e47, he47, h⟩ := of_bind h
            obtain ⟨e48, he48, h⟩ := of_bind h
            obtain ⟨l49, hl49, h⟩ := of_bind h
            have hl49 := some_inj hl49
            refine V_reg (mb 91 1422) [24, 90000, 90008] (s1 := ⟨.bot :: I a1 :: I b2 :: .pt 24 0 :: bt 3 (I o13 :: I j6 :: .bot :: I j40 :: bt 80 []), [(24, .box [.v (lsV b), .v (swV (σ 90000))]), (90000, .parr (σ 90000) 27 3 (l49.map c27)), (90008, .pbox (σ 90008) [.v (ownVal (σ 90000))])]⟩) ?_ ?_
            ·refine XR 5 ?_
             refine XL_cons rfl (X_swapM (c := c27) (xs := l41) (u := e47) (v := e48) (I1 := j40) (J1 := w64 (j40 - 1)) (l := σ 90000) (T0 := 27) (id := 90000) (g := false) swX agX sz27 rfl (by kernel_rfl) rfl (by kernel_rfl) (by kernel_rfl) (by kernel_rfl) he47 he48) ?_
             refine XL_nil ?_
             subst hl49
             kernel_rfl
            show V _ _ _ _
            obtain ⟨j50, hj50, h⟩ := of_sI h
            refine V_reg (mb 91 1422) [24, 90000, 90008] (s1 := ⟨.bot :: I a1 :: I b2 :: .pt 24 0 :: bt 3 (I o13 :: I j6 :: .bot :: I j50 :: bt 80 []), [(24, .box [.v (lsV b), .v (swV (σ 90000))]), (90000, .parr (σ 90000) 27 3 (l49.map c27)), (90008, .pbox (σ 90008) [.v (ownVal (σ 90000))])]⟩) ?_ ?_
            ·refine XR 3 ?_
             refine XL_nil ?_
             subst hj50
             kernel_rfl
            exact ⟨n, Nat.lt_succ_self n, _, _,  by rfl, h⟩
          ·have h := of_false h hc44
           refine V_exit ?_
           obtain rfl := some_inj h
           show St.keep _ _ _ = _
           rfl
        show V _ _ _ _
        obtain ⟨j51, hj51, h⟩ := of_sI h
        refine V_reg (mb 91 398) [24, 90000, 90008] (s1 := ⟨.bot :: I a1 :: I b2 :: .pt 24 0 :: bt 3 (I o13 :: I j51 :: bt 82 []), [(24, .box [.v (lsV b), .v (swV (σ 90000))]), (90000, .parr (σ 90000) 27 3 (o43.map c27)), (90008, .pbox (σ 90008) [.v (ownVal (σ 90000))])]⟩) ?_ ?_
        ·refine XR 3 ?_
         refine XL_nil ?_
         subst hj51
         kernel_rfl
        exact ⟨n, Nat.lt_succ_self n, _, _, _,  by rfl, h⟩
       ·have h := of_false h hc38
        refine V_skip ?_
        show V _ _ _ _
        obtain ⟨j52, hj52, h⟩ := of_sI h
        refine V_reg (mb 91 398) [24, 90000, 90008] (s1 := ⟨.bot :: I a1 :: I b2 :: .pt 24 0 :: bt 3 (I o13 :: I j52 :: bt 82 []), [(24, .box [.v (lsV b), .v (swV (σ 90000))]), (90000, .parr (σ 90000) 27 3 (j24.map c27)), (90008, .pbox (σ 90008) [.v (ownVal (σ 90000))])]⟩) ?_ ?_
        ·refine XR 3 ?_
         refine XL_nil ?_
         subst hj52
         kernel_rfl
        exact ⟨n, Nat.lt_succ_self n, _, _, _,  by rfl, h⟩
    ·have h := of_false h hc10
     refine V_exit ?_
     obtain rfl := some_inj h
     exact ⟨_, rfl, by rfl⟩
  rintro o9 rfl
  have h := hko9
  clear hko9
  show V _ _ _ _
  refine V_e (mb 91 64) [90000, 90008] (s1 := ⟨bt 6 (Bo false :: bt 84 []), [(90000, .parr (σ 90000) 27 3 (o9.map c27)), (90008, .pbox (σ 90008) [.v (ownVal (σ 90000))])]⟩) ?_
  refine V_ret ?_
  obtain rfl := some_inj h
  show PostR _ _ _ _ _ _
  exact ⟨⟨.inr rfl, rfl, rfl, rfl⟩, ⟨rfl, ⟨rfl, trivial⟩⟩⟩
theorem cf_sort_partitionEqual_func : ∀ args w, (callFunc 206 args).run Tryz.prog w = .ok (.enter 206 args) w := run_callFunc Tryz.func206 (by kernel_rfl) (by kernel_rfl)
theorem s_sort_partitionEqual_func {xs0 : List ((Int × Int × Int))} {a1 : Int} {b2 : Int} {pivot3 : Int} {l0 lb : Loc} {b : Nat} (hb : lb.blk = some b) {r : (Int × (List ((Int × Int × Int))))} (h : r_sort_partitionEqual_func xs0 a1 b2 pivot3 = some r) : ∀ σ : Nat → Loc, σ 90000 = l0 → σ 90008 = lb → CallRs Tryz.prog 206 σ [.ag [.v (lsV b), .v (swV l0)], I a1, I b2, I pivot3] [(90000, .arr 27 3 (xs0.map c27)), (90008, .box [.v (ownVal l0)])] (I r.1) [] [(90000, .arr 27 3 (r.2.map c27)), (90008, .box [.v (ownVal l0)])] := by
  intro σ e1 e2
  subst e1 e2
  refine CallRs_of_text (rs := [.t 8]) (vs := [.tmp 8]) Tryz.func206 rfl rfl (.cons rfl FitsL.nil) (by decide) 58 rfl rfl ?_
  unfold r_sort_partitionEqual_func at h
  show V _ _ ⟨.ag [.v (lsV b), .v (swV (σ 90000))] :: I a1 :: I b2 :: I pivot3 :: bt 54 [], [(90000, .parr (σ 90000) 27 3 (xs0.map c27)), (90008, .pbox (σ 90008) [.v (ownVal (σ 90000))])]⟩ _
  refine V_e (mb 58 30) [32, 90000, 90008] (s1 := ⟨.bot :: I a1 :: I b2 :: I pivot3 :: .pt 32 0 :: bt 53 [], [(32, .box [.v (lsV b), .v (swV (σ 90000))]), (90000, .parr (σ 90000) 27 3 (xs0.map c27)), (90008, .pbox (σ 90008) [.v (ownVal (σ 90000))])]⟩) ?_
  obtain ⟨e5, he5, h⟩ := of_bind h
  obtain ⟨e6, he6, h⟩ := of_bind h
  refine V_sreg (mb 58 22) [32, 90000, 90008] (s1 := ⟨.bot :: I a1 :: I b2 :: .bot :: .pt 32 0 :: bt 53 [], [(32, .box [.v (lsV b), .v (swV (σ 90000))]), (90000, .parr (σ 90000) 27 3 (((xs0.set (Int.toNat (a1)) e6).set (Int.toNat (pivot3)) e5).map c27)), (90008, .pbox (σ 90008) [.v (ownVal (σ 90000))])]⟩) ?_ ?_
  ·refine XR 4 ?_
   refine XL_cons rfl (X_swapM (c := c27) (xs := xs0) (u := e5) (v := e6) (I1 := a1) (J1 := pivot3) (l := σ 90000) (T0 := 27) (id := 90000) (g := false) swX agX sz27 rfl (by kernel_rfl) rfl (by kernel_rfl) (by kernel_rfl) (by kernel_rfl) he5 he6) ?_
   exact XE
  obtain ⟨i7, hi7, h⟩ := of_sI h
  obtain ⟨j8, hj8, h⟩ := of_sI h
  refine V_sreg (mb 58 1554) [32, 90000, 90008] (s1 := ⟨.bot :: I a1 :: .bot :: .bot :: .pt 32 0 :: bt 4 (I i7 :: I j8 :: bt 47 []), [(32, .box [.v (lsV b), .v (swV (σ 90000))]), (90000, .parr (σ 90000) 27 3 (((xs0.set (Int.toNat (a1)) e6).set (Int.toNat (pivot3)) e5).map c27)), (90008, .pbox (σ 90008) [.v (ownVal (σ 90000))])]⟩) ?_ ?_
  ·refine XR 6 ?_
   refine XL_nil ?_
   subst hi7 hj8
   kernel_rfl
  refine V_seq ?_
  obtain ⟨o13, hLo13, h⟩ := of_bind h
  refine V_toK (mb 58 512) [90000, 90008] (s1 := ⟨bt 9 (I o13.1 :: bt 48 []), [(90000, .parr (σ 90000) 27 3 (o13.2.map c27)), (90008, .pbox (σ 90008) [.v (ownVal (σ 90000))])]⟩) ?_ ?_
  ·clear h
   refine V_block (V_loop (fun n s => ∃ (i9 : Int) (j10 : Int) (l11 : List ((Int × Int × Int))), s.keep (mb 58 1554) [32, 90000, 90008] = (⟨.bot :: I a1 :: .bot :: .bot :: .pt 32 0 :: bt 4 (I i9 :: I j10 :: bt 47 []), [(32, .box [.v (lsV b), .v (swV (σ 90000))]), (90000, .parr (σ 90000) 27 3 (l11.map c27)), (90008, .pbox (σ 90008) [.v (ownVal (σ 90000))])]⟩ : St) ∧ r_sort_partitionEqual_func_L12 a1 n i9 j10 l11 = some o13) FU ⟨_, _, _,  by rfl, hLo13⟩ ?_)
   clear hLo13
   rintro n s ⟨i9, j10, l11, hs, h⟩
   refine V_keep _ _ hs ?_
   clear hs
   cases n with
   | zero => cases h
   | succ n =>
    rw [r_sort_partitionEqual_func_L12] at h
    refine V_block ?_
    refine V_seq ?_
    obtain ⟨o16, hLo16, h⟩ := of_bind h
    refine V_toK (mb 58 1554) [32, 90000, 90008] (s1 := ⟨.bot :: I a1 :: .bot :: .bot :: .pt 32 0 :: bt 4 (I o16 :: I j10 :: bt 47 []), [(32, .box [.v (lsV b), .v (swV (σ 90000))]), (90000, .parr (σ 90000) 27 3 (l11.map c27)), (90008, .pbox (σ 90008) [.v (ownVal (σ 90000))])]⟩) ?_ ?_
    ·clear h
     refine V_block (V_loop (fun n s => ∃ (i14 : Int), s.keep (mb 58 1554) [32, 90000, 90008] = (⟨.bot :: I a1 :: .bot :: .bot :: .pt 32 0 :: bt 4 (I i14 :: I j10 :: bt 47 []), [(32, .box [.v (lsV b), .v (swV (σ 90000))]), (90000, .parr (σ 90000) 27 3 (l11.map c27)), (90008, .pbox (σ 90008) [.v (ownVal (σ 90000))])]⟩ : St) ∧ r_sort_partitionEqual_func_L15 a1 j10 l11 n i14 = some o16) FU ⟨_,  by rfl, hLo16⟩ ?_)
     clear hLo16
     rintro n s ⟨i14, hs, h⟩
     refine V_keep _ _ hs ?_
     clear hs
     cases n with
     | zero => cases h
     | succ n =>
      rw [r_sort_partitionEqual_func_L15] at h
      refine V_seq ?_
      obtain ⟨b19, hb19, h⟩ := of_bind h
      refine V_sreg (mb 58 1073743378) [32, 90000, 90008] (s1 := ⟨.bot :: I a1 :: .bot :: .bot :: .pt 32 0 :: bt 4 (I i14 :: I j10 :: bt 19 (Bo b19 :: bt 27 [])), [(32, .box [.v (lsV b), .v (swV (σ 90000))]), (90000, .parr (σ 90000) 27 3 (l11.map c27)), (90008, .pbox (σ 90008) [.v (ownVal (σ 90000))])]⟩) ?_ ?_
      ·refine XR 4 ?_
       refine XL_split (leI i14 j10) (fun hc17 => ?_) (fun hc17 => ?_)
       ·have hb19 := of_true hb19 hc17
        obtain ⟨y18, hy18, hb19⟩ := of_bind hb19
        have hb19 := some_inj hb19
        refine XL_takeC _ rfl rfl (by kernel_rfl) hc17 (X_of_Y0 rfl (E_field (.pt 32 0) Tryz.underlying145 rfl sz63 rfl (by kernel_rfl) (by intro hh; cases hh))) ?_
        refine XL_takeC _ rfl rfl (by kernel_rfl) hc17 (X_of_Y0 rfl (Y0_load1 (c := .v (lsV b)) (cs := [.v (swV (σ 90000))]) sc63 rfl (by kernel_rfl))) ?_
        refine XL_takeC _ rfl rfl (by kernel_rfl) hc17 (X_of_Y0 rfl (E_move (I a1) rfl (by kernel_rfl))) ?_
        refine XL_takeC _ rfl rfl (by kernel_rfl) hc17 (X_of_Y0 rfl (E_move (I i14) rfl (by kernel_rfl))) ?_
        refine XL_takeC _ rfl rfl (by kernel_rfl) hc17 (X_of_Y1 rfl (Y1_less (l := σ 90000) (lb := σ 90008) (T0 := 27) (id := 90000) (bid := 90008) (sz := 3) (b := b) (els := l11.map c27) (i := a1) (j := i14) (s_impl_sortForms_1 hy18) cf_impl_sortForms_1 rfl (by kernel_rfl) (by kernel_rfl) (by kernel_rfl) (by kernel_rfl) hb (by kernel_rfl))) ?_
        refine XL_takeC _ rfl rfl (by kernel_rfl) hc17 (X_of_Y0 rfl (Y0_not (b := y18) rfl (by kernel_rfl))) ?_
        refine XL_cons rfl (X_of_Y0 rfl (Y0_pickTe (b := leI i14 j10) (p := !y18) rfl (by kernel_rfl) hc17 (by kernel_rfl) hb19)) ?_
        exact XE
       ·have hb19 := some_inj (of_false hb19 hc17)
        refine XL_skipT _ rfl rfl (by kernel_rfl) hc17 rfl ?_
        refine XL_skipT _ rfl rfl (by kernel_rfl) hc17 rfl ?_
        refine XL_skipT _ rfl rfl (by kernel_rfl) hc17 rfl ?_
        refine XL_skipT _ rfl rfl (by kernel_rfl) hc17 rfl ?_
        refine XL_skipT _ rfl rfl (by kernel_rfl) hc17 rfl ?_
        refine XL_skipT _ rfl rfl (by kernel_rfl) hc17 rfl ?_
        refine XL_cons rfl (X_of_Y0 rfl (Y0_pickFe (b := leI i14 j10) (p := false) rfl (by kernel_rfl) hc17 (by kernel_rfl) hb19)) ?_
        exact XE
      refine V_cond rfl (fun hc20 => ?_) (fun hc20 => ?_)
      ·have h := of_true h hc20
       refine V_skip ?_
       show V _ _ _ _
       refine V_block ?_
       obtain ⟨i21, hi21, h⟩ := of_sI h
       refine V_reg (mb 58 1554) [32, 90000, 90008] (s1 := ⟨.bot :: I a1 :: .bot :: .bot :: .pt 32 0 :: bt 4 (I i21 :: I j10 :: bt 47 []), [(32, .box [.v (lsV b), .v (swV (σ 90000))]), (90000, .parr (σ 90000) 27 3 (l11.map c27)), (90008, .pbox (σ 90008) [.v (ownVal (σ 90000))])]⟩) ?_ ?_
       ·refine XR 3 ?_
        refine XL_nil ?_
        subst hi21
        kernel_rfl
       exact ⟨n, Nat.lt_succ_self n, _,  by rfl, h⟩
      ·have h := of_false h hc20
       refine V_exit ?_
       obtain rfl := some_inj h
       show St.keep _ _ _ = _
       rfl
    show V _ _ _ _
    refine V_seq ?_
    obtain ⟨o24, hLo24, h⟩ := of_bind h
    refine V_toK (mb 58 1554) [32, 90000, 90008] (s1 := ⟨.bot :: I a1 :: .bot :: .bot :: .pt 32 0 :: bt 4 (I o16 :: I o24 :: bt 47 []), [(32, .box [.v (lsV b), .v (swV (σ 90000))]), (90000, .parr (σ 90000) 27 3 (l11.map c27)), (90008, .pbox (σ 90008) [.v (ownVal (σ 90000))])]⟩) ?_ ?_
    ·clear h
     refine V_block (V_loop (fun n s => ∃ (j22 : Int), s.keep (mb 58 1554) [32, 90000, 90008] = (⟨.bot :: I a1 :: .bot :: .bot :: .pt 32 0 :: bt 4 (I o16 :: I j22 :: bt 47 []), [(32, .box [.v (lsV b), .v (swV (σ 90000))]), (90000, .parr (σ 90000) 27 3 (l11.map c27)), (90008, .pbox (σ 90008) [.v (ownVal (σ 90000))])]⟩ : St) ∧ r_sort_partitionEqual_func_L23 a1 l11 o16 n j22 = some o24) FU ⟨_,  by rfl, hLo24⟩ ?_)
     clear hLo24
     rintro n s ⟨j22, hs, h⟩
     refine V_keep _ _ hs ?_
     clear hs
     cases n with
     | zero => cases h
     | succ n =>
      rw [r_sort_partitionEqual_func_L23] at h
      refine V_seq ?_
      obtain ⟨b27, hb27, h⟩ := of_bind h
      refine V_sreg (mb 58 4398046512658) [32, 90000, 90008] (s1 := ⟨.bot :: I a1 :: .bot :: .bot :: .pt 32 0 :: bt 4 (I o16 :: I j22 :: bt 31 (Bo b27 :: bt 15 [])), [(32, .box [.v (lsV b), .v (swV (σ 90000))]), (90000, .parr (σ 90000) 27 3 (l11.map c27)), (90008, .pbox (σ 90008) [.v (ownVal (σ 90000))])]⟩) ?_ ?_
      ·refine XR 4 ?_
       refine XL_split (leI o16 j22) (fun hc25 => ?_) (fun hc25 => ?_)
       ·have hb27 := of_true hb27 hc25
        obtain ⟨y26, hy26, hb27⟩ := of_bind hb27
        have hb27 := some_inj hb27
        refine XL_takeC _ rfl rfl (by kernel_rfl) hc25 (X_of_Y0 rfl (E_field (.pt 32 0) Tryz.underlying145 rfl sz63 rfl (by kernel_rfl) (by intro hh; cases hh))) ?_
        refine XL_takeC _ rfl rfl (by kernel_rfl) hc25 (X_of_Y0 rfl (Y0_load1 (c := .v (lsV b)) (cs := [.v (swV (σ 90000))]) sc63 rfl (by kernel_rfl))) ?_
        refine XL_takeC _ rfl rfl (by kernel_rfl) hc25 (X_of_Y0 rfl (E_move (I a1) rfl (by kernel_rfl))) ?_
        refine XL_takeC _ rfl rfl (by kernel_rfl) hc25 (X_of_Y0 rfl (E_move (I j22) rfl (by kernel_rfl))) ?_
        refine XL_takeC _ rfl rfl (by kernel_rfl) hc25 (X_of_Y1 rfl (Y1_less (l := σ 90000) (lb := σ 90008) (T0 := 27) (id := 90000) (bid := 90008) (sz := 3) (b := b) (els := l11.map c27) (i := a1) (j := j22) (s_impl_sortForms_1 hy26) cf_impl_sortForms_1 rfl (by kernel_rfl) (by kernel_rfl) (by kernel_rfl) (by kernel_rfl) hb (by kernel_rfl))) ?_
        refine XL_cons rfl (X_of_Y0 rfl (Y0_pickTe (b := leI o16 j22) (p := y26) rfl (by kernel_rfl) hc25 (by kernel_rfl) hb27)) ?_
        exact XE
       ·have hb27 := some_inj (of_false hb27 hc25)
        refine XL_skipT _ rfl rfl (by kernel_rfl) hc25 rfl ?_
        refine XL_skipT _ rfl rfl (by kernel_rfl) hc25 rfl ?_
        refine XL_skipT _ rfl rfl (by kernel_rfl) hc25 rfl ?_
        refine XL_skipT _ rfl rfl (by kernel_rfl) hc25 rfl ?_
        refine XL_skipT _ rfl rfl (by kernel_rfl) hc25 rfl ?_
        refine XL_cons rfl (X_of_Y0 rfl (Y0_pickFe (b := leI o16 j22) (p := false) rfl (by kernel_rfl) hc25 (by kernel_rfl) hb27)) ?_
        exact XE
      refine V_cond rfl (fun hc28 => ?_) (fun hc28 => ?_)
      ·have h := of_true h hc28
       refine V_skip ?_
       show V _ _ _ _
       refine V_block ?_
       obtain ⟨j29, hj29, h⟩ := of_sI h
       refine V_reg (mb 58 1554) [32, 90000, 90008] (s1 := ⟨.bot :: I a1 :: .bot :: .bot :: .pt 32 0 :: bt 4 (I o16 :: I j29 :: bt 47 []), [(32, .box [.v (lsV b), .v (swV (σ 90000))]), (90000, .parr (σ 90000) 27 3 (l11.map c27)), (90008, .pbox (σ 90008) [.v (ownVal (σ 90000))])]⟩) ?_ ?_
       ·refine XR 3 ?_
        refine XL_nil ?_
        subst hj29
        kernel_rfl
       exact ⟨n, Nat.lt_succ_self n, _,  by rfl, h⟩
      ·have h := of_false h hc28
       refine V_exit ?_
       obtain rfl := some_inj h
       show St.keep _ _ _ = _
       rfl
    show V _ _ _ _
    refine V_seq ?_
    refine V_e (mb 58 140737488356882) [32, 90000, 90008] (s1 := ⟨.bot :: I a1 :: .bot :: .bot :: .pt 32 0 :: bt 4 (I o16 :: I o24 :: bt 36 (Bo (ltI o24 o16) :: bt 10 [])), [(32, .box [.v (lsV b), .v (swV (σ 90000))]), (90000, .parr (σ 90000) 27 3 (l11.map c27)), (90008, .pbox (σ 90008) [.v (ownVal (σ 90000))])]⟩) ?_
    refine V_cond rfl (fun hc30 => ?_) (fun hc30 => ?_)
    ·have h := of_true h hc30
     refine V_exit ?_
     obtain rfl := some_inj h
     show St.keep _ _ _ = _
     rfl
    ·have h := of_false h hc30
     refine V_skip ?_
     show V _ _ _ _
     obtain ⟨e31, he31, h⟩ := of_bind h
     obtain ⟨e32, he32, h⟩ := of_bind h
     refine V_sreg (mb 58 1554) [32, 90000, 90008] (s1 := ⟨.bot :: I a1 :: .bot :: .bot :: .pt 32 0 :: bt 4 (I o16 :: I o24 :: bt 47 []), [(32, .box [.v (lsV b), .v (swV (σ 90000))]), (90000, .parr (σ 90000) 27 3 (((l11.set (Int.toNat (o16)) e32).set (Int.toNat (o24)) e31).map c27)), (90008, .pbox (σ 90008) [.v (ownVal (σ 90000))])]⟩) ?_ ?_
     ·refine XR 4 ?_
      refine XL_cons rfl (X_swapM (c := c27) (xs := l11) (u := e31) (v := e32) (I1 := o16) (J1 := o24) (l := σ 90000) (T0 := 27) (id := 90000) (g := false) swX agX sz27 rfl (by kernel_rfl) rfl (by kernel_rfl) (by kernel_rfl) (by kernel_rfl) he31 he32) ?_
      exact XE
     obtain ⟨i33, hi33, h⟩ := of_sI h
     refine V_sreg (mb 58 1554) [32, 90000, 90008] (s1 := ⟨.bot :: I a1 :: .bot :: .bot :: .pt 32 0 :: bt 4 (I i33 :: I o24 :: bt 47 []), [(32, .box [.v (lsV b), .v (swV (σ 90000))]), (90000, .parr (σ 90000) 27 3 (((l11.set (Int.toNat (o16)) e32).set (Int.toNat (o24)) e31).map c27)), (90008, .pbox (σ 90008) [.v (ownVal (σ 90000))])]⟩) ?_ ?_
     ·refine XR 3 ?_
      refine XL_nil ?_
      subst hi33
      kernel_rfl
     obtain ⟨j34, hj34, h⟩ := of_sI h
     refine V_reg (mb 58 1554) [32, 90000, 90008] (s1 := ⟨.bot :: I a1 :: .bot :: .bot :: .pt 32 0 :: bt 4 (I i33 :: I j34 :: bt 47 []), [(32, .box [.v (lsV b), .v (swV (σ 90000))]), (90000, .parr (σ 90000) 27 3 (((l11.set (Int.toNat (o16)) e32).set (Int.toNat (o24)) e31).map c27)), (90008, .pbox (σ 90008) [.v (ownVal (σ 90000))])]⟩) ?_ ?_
     ·refine XR 3 ?_
      refine XL_nil ?_
      subst hj34
      kernel_rfl
     exact ⟨n, Nat.lt_succ_self n, _, _, _,  by rfl, h⟩
  show V _ _ _ _
  refine V_e (mb 58 256) [90000, 90008] (s1 := ⟨bt 8 (I o13.1 :: bt 49 []), [(90000, .parr (σ 90000) 27 3 (o13.2.map c27)), (90008, .pbox (σ 90008) [.v (ownVal (σ 90000))])]⟩) ?_
  refine V_ret ?_
  obtain rfl := some_inj h
  show PostR _ _ _ _ _ _
  exact ⟨⟨.inr rfl, rfl, rfl, rfl⟩, ⟨rfl, ⟨rfl, trivial⟩⟩⟩
theorem cf_sort_partition_func : ∀ args w, (callFunc 207 args).run Tryz.prog w = .ok (.enter 207 args) w := run_callFunc Tryz.func207 (by kernel_rfl) (by kernel_rfl)
theorem s_sort_partition_func {xs0 : List ((Int × Int × Int))} {a1 : Int} {b2 : Int} {pivot3 : Int} {l0 lb : Loc} {b : Nat} (hb : lb.blk = some b) {r : (Int × Bool × (List ((Int × Int × Int))))} (h : r_sort_partition_func xs0 a1 b2 pivot3 = some r) : ∀ σ : Nat → Loc, σ 90000 = l0 → σ 90008 = lb → CallRs Tryz.prog 207 σ [.ag [.v (lsV b), .v (swV l0)], I a1, I b2, I pivot3] [(90000, .arr 27 3 (xs0.map c27)), (90008, .box [.v (ownVal l0)])] (.tc (I r.1) (.tc (Bo r.2.1) .tn)) [] [(90000, .arr 27 3 (r.2.2.map c27)), (90008, .box [.v (ownVal l0)])] := by
  intro σ e1 e2
  subst e1 e2
  refine CallRs_of_text (rs := [.t 8, .t 9]) (vs := [.tmp 8, .tmp 9]) Tryz.func207 rfl rfl (.cons rfl (.cons rfl FitsL.nil)) (by decide) 107 rfl rfl ?_
  unfold r_sort_partition_func at h
  show V _ _ ⟨.ag [.v (lsV b), .v (swV (σ 90000))] :: I a1 :: I b2 :: I pivot3 :: bt 103 [], [(90000, .parr (σ 90000) 27 3 (xs0.map c27)), (90008, .pbox (σ 90008) [.v (ownVal (σ 90000))])]⟩ _
  refine V_e (mb 107 30) [32, 90000, 90008] (s1 := ⟨.bot :: I a1 :: I b2 :: I pivot3 :: .pt 32 0 :: bt 102 [], [(32, .box [.v (lsV b), .v (swV (σ 90000))]), (90000, .parr (σ 90000) 27 3 (xs0.map c27)), (90008, .pbox (σ 90008) [.v (ownVal (σ 90000))])]⟩) ?_
  obtain ⟨e5, he5, h⟩ := of_bind h
  obtain ⟨e6, he6, h⟩ := of_bind h
  refine V_sreg (mb 107 22) [32, 90000, 90008] (s1 := ⟨.bot :: I a1 :: I b2 :: .bot :: .pt 32 0 :: bt 102 [], [(32, .box [.v (lsV b), .v (swV (σ 90000))]), (90000, .parr (σ 90000) 27 3 (((xs0.set (Int.toNat (a1)) e6).set (Int.toNat (pivot3)) e5).map c27)), (90008, .pbox (σ 90008) [.v (ownVal (σ 90000))])]⟩) ?_ ?_
  ·refine XR 4 ?_
   refine XL_cons rfl (X_swapM (c := c27) (xs := xs0) (u := e5) (v := e6) (I1 := a1) (J1 := pivot3) (l := σ 90000) (T0 := 27) (id := 90000) (g := false) swX agX sz27 rfl (by kernel_rfl) rfl (by kernel_rfl) (by kernel_rfl) (by kernel_rfl) he5 he6) ?_
   exact XE
  obtain ⟨i7, hi7, h⟩ := of_sI h
  obtain ⟨j8, hj8, h⟩ := of_sI h
  refine V_sreg (mb 107 3090) [32, 90000, 90008] (s1 := ⟨.bot :: I a1 :: .bot :: .bot :: .pt 32 0 :: bt 5 (I i7 :: I j8 :: bt 95 []), [(32, .box [.v (lsV b), .v (swV (σ 90000))]), (90000, .parr (σ 90000) 27 3 (((xs0.set (Int.toNat (a1)) e6).set (Int.toNat (pivot3)) e5).map c27)), (90008, .pbox (σ 90008) [.v (ownVal (σ 90000))])]⟩) ?_ ?_
  ·refine XR 6 ?_
   refine XL_nil ?_
   subst hi7 hj8
   kernel_rfl
  refine V_seq ?_
  obtain ⟨o11, hLo11, h⟩ := of_bind h
  refine V_toK (mb 107 3090) [32, 90000, 90008] (s1 := ⟨.bot :: I a1 :: .bot :: .bot :: .pt 32 0 :: bt 5 (I o11 :: I j8 :: bt 95 []), [(32, .box [.v (lsV b), .v (swV (σ 90000))]), (90000, .parr (σ 90000) 27 3 (((xs0.set (Int.toNat (a1)) e6).set (Int.toNat (pivot3)) e5).map c27)), (90008, .pbox (σ 90008) [.v (ownVal (σ 90000))])]⟩) ?_ ?_
  ·clear h
   refine V_block (V_loop (fun n s => ∃ (i9 : Int), s.keep (mb 107 3090) [32, 90000, 90008] = (⟨.bot :: I a1 :: .bot :: .bot :: .pt 32 0 :: bt 5 (I i9 :: I j8 :: bt 95 []), [(32, .box [.v (lsV b), .v (swV (σ 90000))]), (90000, .parr (σ 90000) 27 3 (((xs0.set (Int.toNat (a1)) e6).set (Int.toNat (pivot3)) e5).map c27)), (90008, .pbox (σ 90008) [.v (ownVal (σ 90000))])]⟩ : St) ∧ r_sort_partition_func_L10 a1 e5 e6 j8 pivot3 xs0 n i9 = some o11) FU ⟨_,  by rfl, hLo11⟩ ?_)
   clear hLo11
   rintro n s ⟨i9, hs, h⟩
   refine V_keep _ _ hs ?_
   clear hs
   cases n with
   | zero => cases h
   | succ n =>
    rw [r_sort_partition_func_L10] at h
    refine V_seq ?_
    obtain ⟨b14, hb14, h⟩ := of_bind h
    refine V_sreg (mb 107 1073744914) [32, 90000, 90008] (s1 := ⟨.bot :: I a1 :: .bot :: .bot :: .pt 32 0 :: bt 5 (I i9 :: I j8 :: bt 18 (Bo b14 :: bt 76 [])), [(32, .box [.v (lsV b), .v (swV (σ 90000))]), (90000, .parr (σ 90000) 27 3 (((xs0.set (Int.toNat (a1)) e6).set (Int.toNat (pivot3)) e5).map c27)), (90008, .pbox (σ 90008) [.v (ownVal (σ 90000))])]⟩) ?_ ?_
    ·refine XR 4 ?_
     refine XL_split (leI i9 j8) (fun hc12 => ?_) (fun hc12 => ?_)
     ·have hb14 := of_true hb14 hc12
      obtain ⟨y13, hy13, hb14⟩ := of_bind hb14
      have hb14 := some_inj hb14
      refine XL_takeC _ rfl rfl (by kernel_rfl) hc12 (X_of_Y0 rfl (E_field (.pt 32 0) Tryz.underlying145 rfl sz63 rfl (by kernel_rfl) (by intro hh; cases hh))) ?_
      refine XL_takeC _ rfl rfl (by kernel_rfl) hc12 (X_of_Y0 rfl (Y0_load1 (c := .v (lsV b)) (cs := [.v (swV (σ 90000))]) sc63 rfl (by kernel_rfl))) ?_
      refine XL_takeC _ rfl rfl (by kernel_rfl) hc12 (X_of_Y0 rfl (E_move (I i9) rfl (by kernel_rfl))) ?_
      refine XL_takeC _ rfl rfl (by kernel_rfl) hc12 (X_of_Y0 rfl (E_move (I a1) rfl (by kernel_rfl))) ?_
      refine XL_takeC _ rfl rfl (by kernel_rfl) hc12 (X_of_Y1 rfl (Y1_less (l := σ 90000) (lb := σ 90008) (T0 := 27) (id := 90000) (bid := 90008) (sz := 3) (b := b) (els := ((xs0.set (Int.toNat (a1)) e6).set (Int.toNat (pivot3)) e5).map c27) (i := i9) (j := a1) (s_impl_sortForms_1 hy13) cf_impl_sortForms_1 rfl (by kernel_rfl) (by kernel_rfl) (by kernel_rfl) (by kernel_rfl) hb (by kernel_rfl))) ?_
      refine XL_cons rfl (X_of_Y0 rfl (Y0_pickTe (b := leI i9 j8) (p := y13) rfl (by kernel_rfl) hc12 (by kernel_rfl) hb14)) ?_
      exact XE
     ·have hb14 := some_inj (of_false hb14 hc12)
      refine XL_skipT _ rfl rfl (by kernel_rfl) hc12 rfl ?_
      refine XL_skipT _ rfl rfl (by kernel_rfl) hc12 rfl ?_
      refine XL_skipT _ rfl rfl (by kernel_rfl) hc12 rfl ?_
      refine XL_skipT _ rfl rfl (by kernel_rfl) hc12 rfl ?_
      refine XL_skipT _ rfl rfl (by kernel_rfl) hc12 rfl ?_
      refine XL_cons rfl (X_of_Y0 rfl (Y0_pickFe (b := leI i9 j8) (p := false) rfl (by kernel_rfl) hc12 (by kernel_rfl) hb14)) ?_
      exact XE
    refine V_cond rfl (fun hc15 => ?_) (fun hc15 => ?_)
    ·have h := of_true h hc15
     refine V_skip ?_
     show V _ _ _ _
     refine V_block ?_
     obtain ⟨i16, hi16, h⟩ := of_sI h
     refine V_reg (mb 107 3090) [32, 90000, 90008] (s1 := ⟨.bot :: I a1 :: .bot :: .bot :: .pt 32 0 :: bt 5 (I i16 :: I j8 :: bt 95 []), [(32, .box [.v (lsV b), .v (swV (σ 90000))]), (90000, .parr (σ 90000) 27 3 (((xs0.set (Int.toNat (a1)) e6).set (Int.toNat (pivot3)) e5).map c27)), (90008, .pbox (σ 90008) [.v (ownVal (σ 90000))])]⟩) ?_ ?_
     ·refine XR 3 ?_
      refine XL_nil ?_
      subst hi16
      kernel_rfl
     exact ⟨n, Nat.lt_succ_self n, _,  by rfl, h⟩
    ·have h := of_false h hc15
     refine V_exit ?_
     obtain rfl := some_inj h
     show St.keep _ _ _ = _
     rfl
  show V _ _ _ _
  refine V_seq ?_
  obtain ⟨o19, hLo19, h⟩ := of_bind h
  refine V_toK (mb 107 3090) [32, 90000, 90008] (s1 := ⟨.bot :: I a1 :: .bot :: .bot :: .pt 32 0 :: bt 5 (I o11 :: I o19 :: bt 95 []), [(32, .box [.v (lsV b), .v (swV (σ 90000))]), (90000, .parr (σ 90000) 27 3 (((xs0.set (Int.toNat (a1)) e6).set (Int.toNat (pivot3)) e5).map c27)), (90008, .pbox (σ 90008) [.v (ownVal (σ 90000))])]⟩) ?_ ?_
  ·clear h
   refine V_block (V_loop (fun n s => ∃ (j17 : Int), s.keep (mb 107 3090) [32, 90000, 90008] = (⟨.bot :: I a1 :: .bot :: .bot :: .pt 32 0 :: bt 5 (I o11 :: I j17 :: bt 95 []), [(32, .box [.v (lsV b), .v (swV (σ 90000))]), (90000, .parr (σ 90000) 27 3 (((xs0.set (Int.toNat (a1)) e6).set (Int.toNat (pivot3)) e5).map c27)), (90008, .pbox (σ 90008) [.v (ownVal (σ 90000))])]⟩ : St) ∧ r_sort_partition_func_L18 a1 e5 e6 o11 pivot3 xs0 n j17 = some o19) FU ⟨_,  by rfl, hLo19⟩ ?_)
   clear hLo19
   rintro n s ⟨j17, hs, h⟩
   refine V_keep _ _ hs ?_
   clear hs
   cases n with
   | zero => cases h
   | succ n =>
    rw [r_sort_partition_func_L18] at h
    refine V_seq ?_
    obtain ⟨b22, hb22, h⟩ := of_bind h
    refine V_sreg (mb 107 8796093025298) [32, 90000, 90008] (s1 := ⟨.bot :: I a1 :: .bot :: .bot :: .pt 32 0 :: bt 5 (I o11 :: I j17 :: bt 31 (Bo b22 :: bt 63 [])), [(32, .box [.v (lsV b), .v (swV (σ 90000))]), (90000, .parr (σ 90000) 27 3 (((xs0.set (Int.toNat (a1)) e6).set (Int.toNat (pivot3)) e5).map c27)), (90008, .pbox (σ 90008) [.v (ownVal (σ 90000))])]⟩) ?_ ?_
    ·refine XR 4 ?_
     refine XL_split (leI o11 j17) (fun hc20 => ?_) (fun hc20 => ?_)
     ·have hb22 := of_true hb22 hc20
      obtain ⟨y21, hy21, hb22⟩ := of_bind hb22
      have hb22 := some_inj hb22
      refine XL_takeC _ rfl rfl (by kernel_rfl) hc20 (X_of_Y0 rfl (E_field (.pt 32 0) Tryz.underlying145 rfl sz63 rfl (by kernel_rfl) (by intro hh; cases hh))) ?_
      refine XL_takeC _ rfl rfl (by kernel_rfl) hc20 (X_of_Y0 rfl (Y0_load1 (c := .v (lsV b)) (cs := [.v (swV (σ 90000))]) sc63 rfl (by kernel_rfl))) ?_
      refine XL_takeC _ rfl rfl (by kernel_rfl) hc20 (X_of_Y0 rfl (E_move (I j17) rfl (by kernel_rfl))) ?_
      refine XL_takeC _ rfl rfl (by kernel_rfl) hc20 (X_of_Y0 rfl (E_move (I a1) rfl (by kernel_rfl))) ?_
      refine XL_takeC _ rfl rfl (by kernel_rfl) hc20 (X_of_Y1 rfl (Y1_less (l := σ 90000) (lb := σ 90008) (T0 := 27) (id := 90000) (bid := 90008) (sz := 3) (b := b) (els := ((xs0.set (Int.toNat (a1)) e6).set (Int.toNat (pivot3)) e5).map c27) (i := j17) (j := a1) (s_impl_sortForms_1 hy21) cf_impl_sortForms_1 rfl (by kernel_rfl) (by kernel_rfl) (by kernel_rfl) (by kernel_rfl) hb (by kernel_rfl))) ?_
      refine XL_takeC _ rfl rfl (by kernel_rfl) hc20 (X_of_Y0 rfl (Y0_not (b := y21) rfl (by kernel_rfl))) ?_
      refine XL_cons rfl (X_of_Y0 rfl (Y0_pickTe (b := leI o11 j17) (p := !y21) rfl (by kernel_rfl) hc20 (by kernel_rfl) hb22)) ?_
      exact XE
     ·have hb22 := some_inj (of_false hb22 hc20)
      refine XL_skipT _ rfl rfl (by kernel_rfl) hc20 rfl ?_
      refine XL_skipT _ rfl rfl (by kernel_rfl) hc20 rfl ?_
      refine XL_skipT _ rfl rfl (by kernel_rfl) hc20 rfl ?_
      refine XL_skipT _ rfl rfl (by kernel_rfl) hc20 rfl ?_
      refine XL_skipT _ rfl rfl (by kernel_rfl) hc20 rfl ?_
      refine XL_skipT _ rfl rfl (by kernel_rfl) hc20 rfl ?_
      refine XL_cons rfl (X_of_Y0 rfl (Y0_pickFe (b := leI o11 j17) (p := false) rfl (by kernel_rfl) hc20 (by kernel_rfl) hb22)) ?_
      exact XE
    refine V_cond rfl (fun hc23 => ?_) (fun hc23 => ?_)
    ·have h := of_true h hc23
     refine V_skip ?_
     show V _ _ _ _
     refine V_block ?_
     obtain ⟨j24, hj24, h⟩ := of_sI h
     refine V_reg (mb 107 3090) [32, 90000, 90008] (s1 := ⟨.bot :: I a1 :: .bot :: .bot :: .pt 32 0 :: bt 5 (I o11 :: I j24 :: bt 95 []), [(32, .box [.v (lsV b), .v (swV (σ 90000))]), (90000, .parr (σ 90000) 27 3 (((xs0.set (Int.toNat (a1)) e6).set (Int.toNat (pivot3)) e5).map c27)), (90008, .pbox (σ 90008) [.v (ownVal (σ 90000))])]⟩) ?_ ?_
     ·refine XR 3 ?_
      refine XL_nil ?_
      subst hj24
      kernel_rfl
     exact ⟨n, Nat.lt_succ_self n, _,  by rfl, h⟩
    ·have h := of_false h hc23
     refine V_exit ?_
     obtain rfl := some_inj h
     show St.keep _ _ _ = _
     rfl
  show V _ _ _ _
  refine V_seq ?_
  refine V_e (mb 107 281474976713746) [32, 90000, 90008] (s1 := ⟨.bot :: I a1 :: .bot :: .bot :: .pt 32 0 :: bt 5 (I o11 :: I o19 :: bt 36 (Bo (ltI o19 o11) :: bt 58 [])), [(32, .box [.v (lsV b), .v (swV (σ 90000))]), (90000, .parr (σ 90000) 27 3 (((xs0.set (Int.toNat (a1)) e6).set (Int.toNat (pivot3)) e5).map c27)), (90008, .pbox (σ 90008) [.v (ownVal (σ 90000))])]⟩) ?_
  refine V_cond rfl (fun hc25 => ?_) (fun hc25 => ?_)
  ·have h := of_true h hc25
   obtain ⟨e26, he26, h⟩ := of_bind h
   obtain ⟨e27, he27, h⟩ := of_bind h
   obtain ⟨l28, hl28, h⟩ := of_bind h
   have hl28 := some_inj hl28
   refine V_sreg (mb 107 2048) [90000, 90008] (s1 := ⟨bt 11 (I o19 :: bt 95 []), [(90000, .parr (σ 90000) 27 3 (l28.map c27)), (90008, .pbox (σ 90008) [.v (ownVal (σ 90000))])]⟩) ?_ ?_
   ·refine XR 4 ?_
    refine XL_cons rfl (X_swapM (c := c27) (xs := (xs0.set (Int.toNat (a1)) e6).set (Int.toNat (pivot3)) e5) (u := e26) (v := e27) (I1 := o19) (J1 := a1) (l := σ 90000) (T0 := 27) (id := 90000) (g := false) swX agX sz27 rfl (by kernel_rfl) rfl (by kernel_rfl) (by kernel_rfl) (by kernel_rfl) he26 he27) ?_
    refine XL_nil ?_
    subst hl28
    kernel_rfl
   refine V_e (mb 107 768) [90000, 90008] (s1 := ⟨bt 8 (I o19 :: Bo true :: bt 97 []), [(90000, .parr (σ 90000) 27 3 (l28.map c27)), (90008, .pbox (σ 90008) [.v (ownVal (σ 90000))])]⟩) ?_
   refine V_ret ?_
   obtain rfl := some_inj h
   show PostR _ _ _ _ _ _
   exact ⟨⟨.inr rfl, rfl, rfl, rfl⟩, ⟨rfl, ⟨rfl, trivial⟩⟩⟩
  ·have h := of_false h hc25
   refine V_skip ?_
   show V _ _ _ _
   obtain ⟨e29, he29, h⟩ := of_bind h
   obtain ⟨e30, he30, h⟩ := of_bind h
   obtain ⟨l31, hl31, h⟩ := of_bind h
   have hl31 := some_inj hl31
   refine V_sreg (mb 107 3090) [32, 90000, 90008] (s1 := ⟨.bot :: I a1 :: .bot :: .bot :: .pt 32 0 :: bt 5 (I o11 :: I o19 :: bt 95 []), [(32, .box [.v (lsV b), .v (swV (σ 90000))]), (90000, .parr (σ 90000) 27 3 (l31.map c27)), (90008, .pbox (σ 90008) [.v (ownVal (σ 90000))])]⟩) ?_ ?_
   ·refine XR 4 ?_
    refine XL_cons rfl (X_swapM (c := c27) (xs := (xs0.set (Int.toNat (a1)) e6).set (Int.toNat (pivot3)) e5) (u := e29) (v := e30) (I1 := o11) (J1 := o19) (l := σ 90000) (T0 := 27) (id := 90000) (g := false) swX agX sz27 rfl (by kernel_rfl) rfl (by kernel_rfl) (by kernel_rfl) (by kernel_rfl) he29 he30) ?_
    refine XL_nil ?_
    subst hl31
    kernel_rfl
   obtain ⟨i32, hi32, h⟩ := of_sI h
   refine V_sreg (mb 107 3090) [32, 90000, 90008] (s1 := ⟨.bot :: I a1 :: .bot :: .bot :: .pt 32 0 :: bt 5 (I i32 :: I o19 :: bt 95 []), [(32, .box [.v (lsV b), .v (swV (σ 90000))]), (90000, .parr (σ 90000) 27 3 (l31.map c27)), (90008, .pbox (σ 90008) [.v (ownVal (σ 90000))])]⟩) ?_ ?_
   ·refine XR 3 ?_
    refine XL_nil ?_
    subst hi32
    kernel_rfl
   obtain ⟨j33, hj33, h⟩ := of_sI h
   refine V_sreg (mb 107 3090) [32, 90000, 90008] (s1 := ⟨.bot :: I a1 :: .bot :: .bot :: .pt 32 0 :: bt 5 (I i32 :: I j33 :: bt 95 []), [(32, .box [.v (lsV b), .v (swV (σ 90000))]), (90000, .parr (σ 90000) 27 3 (l31.map c27)), (90008, .pbox (σ 90008) [.v (ownVal (σ 90000))])]⟩) ?_ ?_
   ·refine XR 3 ?_
    refine XL_nil ?_
    subst hj33
    kernel_rfl
   refine V_seq ?_
   obtain ⟨o38, hLo38, h⟩ := of_bind h
   refine V_toK (mb 107 2066) [32, 90000, 90008] (s1 := ⟨.bot :: I a1 :: .bot :: .bot :: .pt 32 0 :: bt 6 (I o38.1 :: bt 95 []), [(32, .box [.v (lsV b), .v (swV (σ 90000))]), (90000, .parr (σ 90000) 27 3 (o38.2.map c27)), (90008, .pbox (σ 90008) [.v (ownVal (σ 90000))])]⟩) ?_ ?_
   ·clear h
    refine V_block (V_loop (fun n s => ∃ (i34 : Int) (j35 : Int) (l36 : List ((Int × Int × Int))), s.keep (mb 107 3090) [32, 90000, 90008] = (⟨.bot :: I a1 :: .bot :: .bot :: .pt 32 0 :: bt 5 (I i34 :: I j35 :: bt 95 []), [(32, .box [.v (lsV b), .v (swV (σ 90000))]), (90000, .parr (σ 90000) 27 3 (l36.map c27)), (90008, .pbox (σ 90008) [.v (ownVal (σ 90000))])]⟩ : St) ∧ r_sort_partition_func_L37 a1 n i34 j35 l36 = some o38) FU ⟨_, _, _,  by rfl, hLo38⟩ ?_)
    clear hLo38
    rintro n s ⟨i34, j35, l36, hs, h⟩
    refine V_keep _ _ hs ?_
    clear hs
    cases n with
    | zero => cases h
    | succ n =>
     rw [r_sort_partition_func_L37] at h
     refine V_block ?_
     refine V_seq ?_
     obtain ⟨o41, hLo41, h⟩ := of_bind h
     refine V_toK (mb 107 3090) [32, 90000, 90008] (s1 := ⟨.bot :: I a1 :: .bot :: .bot :: .pt 32 0 :: bt 5 (I o41 :: I j35 :: bt 95 []), [(32, .box [.v (lsV b), .v (swV (σ 90000))]), (90000, .parr (σ 90000) 27 3 (l36.map c27)), (90008, .pbox (σ 90008) [.v (ownVal (σ 90000))])]⟩) ?_ ?_
     ·clear h
      refine V_block (V_loop (fun n s => ∃ (i39 : Int), s.keep (mb 107 3090) [32, 90000, 90008] = (⟨.bot :: I a1 :: .bot :: .bot :: .pt 32 0 :: bt 5 (I i39 :: I j35 :: bt 95 []), [(32, .box [.v (lsV b), .v (swV (σ 90000))]), (90000, .parr (σ 90000) 27 3 (l36.map c27)), (90008, .pbox (σ 90008) [.v (ownVal (σ 90000))])]⟩ : St) ∧ r_sort_partition_func_L40 a1 j35 l36 n i39 = some o41) FU ⟨_,  by rfl, hLo41⟩ ?_)
      clear hLo41
      rintro n s ⟨i39, hs, h⟩
      refine V_keep _ _ hs ?_
      clear hs
      cases n with
      | zero => cases h
      | succ n =>
       rw [r_sort_partition_func_L40] at h
       refine V_seq ?_
       obtain ⟨b44, hb44, h⟩ := of_bind h
       refine V_sreg (mb 107 9444732965739290430482) [32, 90000, 90008] (s1 := ⟨.bot :: I a1 :: .bot :: .bot :: .pt 32 0 :: bt 5 (I i39 :: I j35 :: bt 61 (Bo b44 :: bt 33 [])), [(32, .box [.v (lsV b), .v (swV (σ 90000))]), (90000, .parr (σ 90000) 27 3 (l36.map c27)), (90008, .pbox (σ 90008) [.v (ownVal (σ 90000))])]⟩) ?_ ?_
       ·refine XR 4 ?_
        refine XL_split (leI i39 j35) (fun hc42 => ?_) (fun hc42 => ?_)
        ·have hb44 := of_true hb44 hc42
         obtain ⟨y43, hy43, hb44⟩ := of_bind hb44
         have hb44 := some_inj hb44
         refine XL_takeC _ rfl rfl (by kernel_rfl) hc42 (X_of_Y0 rfl (E_field (.pt 32 0) Tryz.underlying145 rfl sz63 rfl (by kernel_rfl) (by intro hh; cases hh))) ?_
         refine XL_takeC _ rfl rfl (by kernel_rfl) hc42 (X_of_Y0 rfl (Y0_load1 (c := .v (lsV b)) (cs := [.v (swV (σ 90000))]) sc63 rfl (by kernel_rfl))) ?_
         refine XL_takeC _ rfl rfl (by kernel_rfl) hc42 (X_of_Y0 rfl (E_move (I i39) rfl (by kernel_rfl))) ?_
         refine XL_takeC _ rfl rfl (by kernel_rfl) hc42 (X_of_Y0 rfl (E_move (I a1) rfl (by kernel_rfl))) ?_
         refine XL_takeC _ rfl rfl (by kernel_rfl) hc42 (X_of_Y1 rfl (Y1_less (l := σ 90000) (lb := σ 90008) (T0 := 27) (id := 90000) (bid := 90008) (sz := 3) (b := b) (els := l36.map c27) (i := i39) (j := a1) (s_impl_sortForms_1 hy43) cf_impl_sortForms_1 rfl (by kernel_rfl) (by kernel_rfl) (by kernel_rfl) (by kernel_rfl) hb (by kernel_rfl))) ?_
         refine XL_cons rfl (X_of_Y0 rfl (Y0_pickTe (b := leI i39 j35) (p := y43) rfl (by kernel_rfl) hc42 (by kernel_rfl) hb44)) ?_
         exact XE
        ·have hb44 := some_inj (of_false hb44 hc42)
         refine XL_skipT _ rfl rfl (by kernel_rfl) hc42 rfl ?_
         refine XL_skipT _ rfl rfl (by kernel_rfl) hc42 rfl ?_
         refine XL_skipT _ rfl rfl (by kernel_rfl) hc42 rfl ?_
         refine XL_skipT _ rfl rfl (by kernel_rfl) hc42 rfl ?_
         refine XL_skipT _ rfl rfl (by kernel_rfl) hc42 rfl ?_
         refine XL_cons rfl (X_of_Y0 rfl (Y0_pickFe (b := leI i39 j35) (p := false) rfl (by kernel_rfl) hc42 (by kernel_rfl) hb44)) ?_
         exact XE
       refine V_cond rfl (fun hc45 => ?_) (fun hc45 => ?_)
       ·have h := of_true h hc45
        refine V_skip ?_
        show V _ _ _ _
        refine V_block ?_
        obtain ⟨i46, hi46, h⟩ := of_sI h
        refine V_reg (mb 107 3090) [32, 90000, 90008] (s1 := ⟨.bot :: I a1 :: .bot :: .bot :: .pt 32 0 :: bt 5 (I i46 :: I j35 :: bt 95 []), [(32, .box [.v (lsV b), .v (swV (σ 90000))]), (90000, .parr (σ 90000) 27 3 (l36.map c27)), (90008, .pbox (σ 90008) [.v (ownVal (σ 90000))])]⟩) ?_ ?_
        ·refine XR 3 ?_
         refine XL_nil ?_
         subst hi46
         kernel_rfl
        exact ⟨n, Nat.lt_succ_self n, _,  by rfl, h⟩
       ·have h := of_false h hc45
        refine V_exit ?_
        obtain rfl := some_inj h
        show St.keep _ _ _ = _
        rfl
     show V _ _ _ _
     refine V_seq ?_
     obtain ⟨o49, hLo49, h⟩ := of_bind h
     refine V_toK (mb 107 3090) [32, 90000, 90008] (s1 := ⟨.bot :: I a1 :: .bot :: .bot :: .pt 32 0 :: bt 5 (I o41 :: I o49 :: bt 95 []), [(32, .box [.v (lsV b), .v (swV (σ 90000))]), (90000, .parr (σ 90000) 27 3 (l36.map c27)), (90008, .pbox (σ 90008) [.v (ownVal (σ 90000))])]⟩) ?_ ?_
     ·clear h
      refine V_block (V_loop (fun n s => ∃ (j47 : Int), s.keep (mb 107 3090) [32, 90000, 90008] = (⟨.bot :: I a1 :: .bot :: .bot :: .pt 32 0 :: bt 5 (I o41 :: I j47 :: bt 95 []), [(32, .box [.v (lsV b), .v (swV (σ 90000))]), (90000, .parr (σ 90000) 27 3 (l36.map c27)), (90008, .pbox (σ 90008) [.v (ownVal (σ 90000))])]⟩ : St) ∧ r_sort_partition_func_L48 a1 l36 o41 n j47 = some o49) FU ⟨_,  by rfl, hLo49⟩ ?_)
      clear hLo49
      rintro n s ⟨j47, hs, h⟩
      refine V_keep _ _ hs ?_
      clear hs
      cases n with
      | zero => cases h
      | succ n =>
       rw [r_sort_partition_func_L48] at h
       refine V_seq ?_
       obtain ⟨b52, hb52, h⟩ := of_bind h
       refine V_sreg (mb 107 77371252455336267181198354) [32, 90000, 90008] (s1 := ⟨.bot :: I a1 :: .bot :: .bot :: .pt 32 0 :: bt 5 (I o41 :: I j47 :: bt 74 (Bo b52 :: bt 20 [])), [(32, .box [.v (lsV b), .v (swV (σ 90000))]), (90000, .parr (σ 90000) 27 3 (l36.map c27)), (90008, .pbox (σ 90008) [.v (ownVal (σ 90000))])]⟩) ?_ ?_
       ·refine XR 4 ?_
        refine XL_split (leI o41 j47) (fun hc50 => ?_) (fun hc50 => ?_)
        ·have hb52 := of_true hb52 hc50
         obtain ⟨y51, hy51, hb52⟩ := of_bind hb52
         have hb52 := some_inj hb52
         refine XL_takeC _ rfl rfl (by kernel_rfl) hc50 (X_of_Y0 rfl (E_field (.pt 32 0) Tryz.underlying145 rfl sz63 rfl (by kernel_rfl) (by intro hh; cases hh))) ?_
         refine XL_takeC _ rfl rfl (by kernel_rfl) hc50 (X_of_Y0 rfl (Y0_load1 (c := .v (lsV b)) (cs := [.v (swV (σ 90000))]) sc63 rfl (by kernel_rfl))) ?_
         refine XL_takeC _ rfl rfl (by kernel_rfl) hc50 (X_of_Y0 rfl (E_move (I j47) rfl (by kernel_rfl))) ?_
         refine XL_takeC _ rfl rfl (by kernel_rfl) hc50 (X_of_Y0 rfl (E_move (I a1) rfl (by kernel_rfl))) ?_
         refine XL_takeC _ rfl rfl (by kernel_rfl) hc50 (X_of_Y1 rfl (Y1_less (l := σ 90000) (lb := σ 90008) (T0 := 27) (id := 90000) (bid := 90008) (sz := 3) (b := b) (els := l36.map c27) (i := j47) (j := a1) (s_impl_sortForms_1 hy51) cf_impl_sortForms_1 rfl (by kernel_rfl) (by kernel_rfl) (by kernel_rfl) (by kernel_rfl) hb (by kernel_rfl))) ?_
         refine XL_takeC _ rfl rfl (by kernel_rfl) hc50 (X_of_Y0 rfl (Y0_not (b := y51) rfl (by kernel_rfl))) ?_
         refine XL_cons rfl (X_of_Y0 rfl (Y0_pickTe (b := leI o41 j47) (p := !y51) rfl (by kernel_rfl) hc50 (by kernel_rfl) hb52)) ?_
         exact XE
        ·have hb52 := some_inj (of_false hb52 hc50)
         refine XL_skipT _ rfl rfl (by kernel_rfl) hc50 rfl ?_
         refine XL_skipT _ rfl rfl (by kernel_rfl) hc50 rfl ?_
         refine XL_skipT _ rfl rfl (by kernel_rfl) hc50 rfl ?_
         refine XL_skipT _ rfl rfl (by kernel_rfl) hc50 rfl ?_
         refine XL_skipT _ rfl rfl (by kernel_rfl) hc50 rfl ?_
         refine XL_skipT _ rfl rfl (by kernel_rfl) hc50 rfl ?_
         refine XL_cons rfl (X_of_Y0 rfl (Y0_pickFe (b := leI o41 j47) (p := false) rfl (by kernel_rfl) hc50 (by kernel_rfl) hb52)) ?_
         exact XE
       refine V_cond rfl (fun hc53 => ?_) (fun hc53 => ?_)
       ·have h := of_true h hc53
        refine V_skip ?_
        show V _ _ _ _
        refine V_block ?_
        obtain ⟨j54, hj54, h⟩ := of_sI h
        refine V_reg (mb 107 3090) [32, 90000, 90008] (s1 := ⟨.bot :: I a1 :: .bot :: .bot :: .pt 32 0 :: bt 5 (I o41 :: I j54 :: bt 95 []), [(32, .box [.v (lsV b), .v (swV (σ 90000))]), (90000, .parr (σ 90000) 27 3 (l36.map c27)), (90008, .pbox (σ 90008) [.v (ownVal (σ 90000))])]⟩) ?_ ?_
        ·refine XR 3 ?_
         refine XL_nil ?_
         subst hj54
         kernel_rfl
        exact ⟨n, Nat.lt_succ_self n, _,  by rfl, h⟩
       ·have h := of_false h hc53
        refine V_exit ?_
        obtain rfl := some_inj h
        show St.keep _ _ _ = _
        rfl
     show V _ _ _ _
     refine V_seq ?_
     refine V_e (mb 107 2475880078570760549798251538) [32, 90000, 90008] (s1 := ⟨.bot :: I a1 :: .bot :: .bot :: .pt 32 0 :: bt 5 (I o41 :: I o49 :: bt 79 (Bo (ltI o49 o41) :: bt 15 [])), [(32, .box [.v (lsV b), .v (swV (σ 90000))]), (90000, .parr (σ 90000) 27 3 (l36.map c27)), (90008, .pbox (σ 90008) [.v (ownVal (σ 90000))])]⟩) ?_
     refine V_cond rfl (fun hc55 => ?_) (fun hc55 => ?_)
     ·have h := of_true h hc55
      refine V_exit ?_
      obtain rfl := some_inj h
      show St.keep _ _ _ = _
      rfl
     ·have h := of_false h hc55
      refine V_skip ?_
      show V _ _ _ _
      obtain ⟨e56, he56, h⟩ := of_bind h
      obtain ⟨e57, he57, h⟩ := of_bind h
      refine V_sreg (mb 107 3090) [32, 90000, 90008] (s1 := ⟨.bot :: I a1 :: .bot :: .bot :: .pt 32 0 :: bt 5 (I o41 :: I o49 :: bt 95 []), [(32, .box [.v (lsV b), .v (swV (σ 90000))]), (90000, .parr (σ 90000) 27 3 (((l36.set (Int.toNat (o41)) e57).set (Int.toNat (o49)) e56).map c27)), (90008, .pbox (σ 90008) [.v (ownVal (σ 90000))])]⟩) ?_ ?_
      ·refine XR 4 ?_
       refine XL_cons rfl (X_swapM (c := c27) (xs := l36) (u := e56) (v := e57) (I1 := o41) (J1 := o49) (l := σ 90000) (T0 := 27) (id := 90000) (g := false) swX agX sz27 rfl (by kernel_rfl) rfl (by kernel_rfl) (by kernel_rfl) (by kernel_rfl) he56 he57) ?_
       exact XE
      obtain ⟨i58, hi58, h⟩ := of_sI h
      refine V_sreg (mb 107 3090) [32, 90000, 90008] (s1 := ⟨.bot :: I a1 :: .bot :: .bot :: .pt 32 0 :: bt 5 (I i58 :: I o49 :: bt 95 []), [(32, .box [.v (lsV b), .v (swV (σ 90000))]), (90000, .parr (σ 90000) 27 3 (((l36.set (Int.toNat (o41)) e57).set (Int.toNat (o49)) e56).map c27)), (90008, .pbox (σ 90008) [.v (ownVal (σ 90000))])]⟩) ?_ ?_
      ·refine XR 3 ?_
       refine XL_nil ?_
       subst hi58
       kernel_rfl
      obtain ⟨j59, hj59, h⟩ := of_sI h
      refine V_reg (mb 107 3090) [32, 90000, 90008] (s1 := ⟨.bot :: I a1 :: .bot :: .bot :: .pt 32 0 :: bt 5 (I i58 :: I j59 :: bt 95 []), [(32, .box [.v (lsV b), .v (swV (σ 90000))]), (90000, .parr (σ 90000) 27 3 (((l36.set (Int.toNat (o41)) e57).set (Int.toNat (o49)) e56).map c27)), (90008, .pbox (σ 90008) [.v (ownVal (σ 90000))])]⟩) ?_ ?_
      ·refine XR 3 ?_
       refine XL_nil ?_
       subst hj59
       kernel_rfl
      exact ⟨n, Nat.lt_succ_self n, _, _, _,  by rfl, h⟩
   show V _ _ _ _
   obtain ⟨e60, he60, h⟩ := of_bind h
   obtain ⟨e61, he61, h⟩ := of_bind h
   refine V_sreg (mb 107 2048) [90000, 90008] (s1 := ⟨bt 11 (I o38.1 :: bt 95 []), [(90000, .parr (σ 90000) 27 3 (((o38.2.set (Int.toNat (o38.1)) e61).set (Int.toNat (a1)) e60).map c27)), (90008, .pbox (σ 90008) [.v (ownVal (σ 90000))])]⟩) ?_ ?_
   ·refine XR 4 ?_
    refine XL_cons rfl (X_swapM (c := c27) (xs := o38.2) (u := e60) (v := e61) (I1 := o38.1) (J1 := a1) (l := σ 90000) (T0 := 27) (id := 90000) (g := false) swX agX sz27 rfl (by kernel_rfl) rfl (by kernel_rfl) (by kernel_rfl) (by kernel_rfl) he60 he61) ?_
    exact XE
   refine V_e (mb 107 768) [90000, 90008] (s1 := ⟨bt 8 (I o38.1 :: Bo false :: bt 97 []), [(90000, .parr (σ 90000) 27 3 (((o38.2.set (Int.toNat (o38.1)) e61).set (Int.toNat (a1)) e60).map c27)), (90008, .pbox (σ 90008) [.v (ownVal (σ 90000))])]⟩) ?_
   refine V_ret ?_
   obtain rfl := some_inj h
   show PostR _ _ _ _ _ _
   exact ⟨⟨.inr rfl, rfl, rfl, rfl⟩, ⟨rfl, ⟨rfl, trivial⟩⟩⟩
end Go.Proofs.YtnheekadeflecaaGreat
