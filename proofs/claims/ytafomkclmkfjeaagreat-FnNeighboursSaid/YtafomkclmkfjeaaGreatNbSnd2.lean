/-
  The functions of the program compute what the plain functions say: more of them.
  Conditions: none.
-/
import Derived.Test.YtafomkclmkfjeaaGreatNbSnd1
namespace Go.Proofs.YtafomkclmkfjeaaGreat
open Go.RowKit
set_option linter.unusedVariables false
set_option linter.unusedSimpArgs false
set_option maxRecDepth 100000
set_option maxHeartbeats 400000
theorem cf_spec_reList : ∀ args w, (callFunc 112 args).run Tryz.prog w = .ok (.enter 112 args) w := run_callFunc Tryz.func112 (by kernel_rfl) (by kernel_rfl)
theorem s_spec_reList {d1 : Int} {r : List ((Int × Int × Int))} (h : r_spec_reList d1 = some r) : CallS Tryz.prog 112 [I d1] (.ow 0) [(0, .arr 25 3 (r.map c25))] := by
  refine CallS_of_text (rs := [.t 2]) (vs := [.tmp 2]) Tryz.func112 rfl rfl (.cons rfl FitsL.nil) (by decide) 22 rfl ?_
  unfold r_spec_reList at h
  show V _ _ ⟨I d1 :: bt 21 [], []⟩ _
  refine V_sreg (mb 22 1) [] (s1 := ⟨I d1 :: bt 21 [], []⟩) ?_ ?_
  ·refine L1 rfl rfl (Y1_nil (e := 25) 3 (by decide) (.inl rfl)) ?_
   exact XE
  refine V_sreg (mb 22 9) [24] (s1 := ⟨I d1 :: .bot :: .bot :: .ow 24 :: bt 18 [], [(24, .arr 25 3 ((([] : List ((Int × Int × Int)))).map c25))]⟩) ?_ ?_
  ·refine L1 rfl rfl (Y1_nil (e := 25) 3 (by decide) (.inl rfl)) ?_
   exact XE
  refine V_seq ?_
  obtain ⟨y2, hy2, h⟩ := of_bind h
  refine V_sreg (mb 22 904) [56, 24] (s1 := ⟨bt 3 (.ow 24 :: bt 3 (.ow 56 :: I ((y2.length : Int)) :: I 0 :: bt 12 [])), [(56, .arr 25 3 (y2.map c25)), (24, .arr 25 3 ((([] : List ((Int × Int × Int)))).map c25))]⟩) ?_ ?_
  ·refine XR 1 ?_
   refine XC (s_spec_reAll hy2) cf_spec_reAll rfl rfl rfl ?_
   refine L0 rfl rfl (Y0_lenM (c := c25) (xs := y2) Tryz.underlying38 rfl (by kernel_rfl)) ?_
   exact XE
  obtain ⟨o6, hLo6, h⟩ := of_bind h
  refine V_toK (mb 22 8) [24] (s1 := ⟨bt 3 (.ow 24 :: bt 18 []), [(24, .arr 25 3 (o6.map c25))]⟩) ?_ ?_
  ·clear h
   refine V_block (V_loop (fun n s => ∃ (t3 : Int) (l4 : List ((Int × Int × Int))), s.keep (mb 22 904) [56, 24] = (⟨bt 3 (.ow 24 :: bt 3 (.ow 56 :: I ((y2.length : Int)) :: I t3 :: bt 12 [])), [(56, .arr 25 3 (y2.map c25)), (24, .arr 25 3 (l4.map c25))]⟩ : St) ∧ r_spec_reList_L5 y2 n t3 l4 = some o6) FU ⟨_, _,  by rfl, hLo6⟩ ?_)
   clear hLo6
   rintro n s ⟨t3, l4, hs, h⟩
   refine V_keep _ _ hs ?_
   clear hs
   cases n with
   | zero => cases h
   | succ n =>
    rw [r_spec_reList_L5] at h
    refine V_e (mb 22 1928) [56, 24] (s1 := ⟨bt 3 (.ow 24 :: bt 3 (.ow 56 :: I ((y2.length : Int)) :: I t3 :: Bo (ltI t3 ((y2.length : Int))) :: bt 11 [])), [(56, .arr 25 3 (y2.map c25)), (24, .arr 25 3 (l4.map c25))]⟩) ?_
    refine V_seq ?_
    refine V_cond rfl (fun hc7 => ?_) (fun hc7 => ?_)
    ·have h := of_true h hc7
     refine V_skip ?_
     show V _ _ _ _
     refine V_seq ?_
     refine V_block ?_
     obtain ⟨e8, he8, h⟩ := of_bind h
     obtain ⟨e9, he9, h⟩ := of_bind h
     refine V_sreg (mb 22 936) [40, 56, 24] (s1 := ⟨bt 3 (.ow 24 :: .bot :: .pt 40 0 :: .bot :: .ow 56 :: I ((y2.length : Int)) :: I t3 :: bt 12 []), [(40, .box [Ti e9.1, Ti e9.2.1, Ti e9.2.2]), (56, .arr 25 3 (y2.map c25)), (24, .arr 25 3 (l4.map c25))]⟩) ?_ ?_
     ·refine L0 rfl rfl (Y0_idxoM (c := c25) (xs := y2) (v := e8) (id := 56) (T := 25) (sz := 3) (n := t3) Tryz.underlying38 sz25 rfl (by kernel_rfl) (by kernel_rfl) (by kernel_rfl) he8) ?_
      refine L0 rfl rfl (E_loadon (c := c25) (xs := y2) (v := e9) (id := 56) (sz := 3) (T := 25) (off := 0) (n := t3) [Ti e9.1, Ti e9.2.1, Ti e9.2.2] wd25 rfl (by kernel_rfl) (by kernel_rfl) he9 (Nat.le_of_ble_eq_true rfl) (by kernel_rfl)) ?_
      exact XE
     obtain ⟨y10, hy10, h⟩ := of_bind h
     refine V_sreg (mb 22 33704) [40, 56, 24] (s1 := ⟨bt 3 (.ow 24 :: .bot :: .pt 40 0 :: .bot :: .ow 56 :: I ((y2.length : Int)) :: I t3 :: bt 5 (Bo (eqI y10 1) :: bt 6 [])), [(40, .box [Ti e9.1, Ti e9.2.1, Ti e9.2.2]), (56, .arr 25 3 (y2.map c25)), (24, .arr 25 3 (l4.map c25))]⟩) ?_ ?_
     ·refine XR 1 ?_
      refine XC (s_spec_foContent hy10) cf_spec_foContent rfl rfl rfl ?_
      exact XE
     refine V_cond rfl (fun hc11 => ?_) (fun hc11 => ?_)
     ·have h := of_true h hc11
      obtain ⟨u12, hu12, h⟩ := of_bind h
      refine V_reg (mb 22 904) [56, 24] (s1 := ⟨bt 3 (.ow 24 :: bt 3 (.ow 56 :: I ((y2.length : Int)) :: I t3 :: bt 12 [])), [(56, .arr 25 3 (y2.map c25)), (24, .arr 25 3 ((l4 ++ ([e9])).map c25))]⟩) ?_ ?_
      ·refine XR 2 ?_
       refine L1 rfl rfl (Y1_bslice (z := zv25) (els := [e9].map c25) Tryz.underlying38 iz25 rfl (by decide) rfl (by kernel_rfl) rfl (by simp [c25]) (by decide) (by decide)) ?_
       refine XL_cons rfl (X_appendM (c := c25) (xs := l4) (ys := [e9]) (id := 24) (z := zv25) rfl rfl Tryz.underlying38 izb25 rfl (by kernel_rfl) (by kernel_rfl) (by kernel_rfl) (fun _ => rfl) (by simp) (room_some hu12) (by decide)) ?_
       exact XE
      show V _ _ _ _
      obtain ⟨t13, ht13, h⟩ := of_sI h
      refine V_reg (mb 22 904) [56, 24] (s1 := ⟨bt 3 (.ow 24 :: bt 3 (.ow 56 :: I ((y2.length : Int)) :: I t13 :: bt 12 [])), [(56, .arr 25 3 (y2.map c25)), (24, .arr 25 3 ((l4 ++ ([e9])).map c25))]⟩) ?_ ?_
      ·refine XR 2 ?_
       refine XL_nil ?_
       subst ht13
       kernel_rfl
      exact ⟨n, Nat.lt_succ_self n, _, _,  by rfl, h⟩
     ·have h := of_false h hc11
      refine V_skip ?_
      show V _ _ _ _
      obtain ⟨t14, ht14, h⟩ := of_sI h
      refine V_reg (mb 22 904) [56, 24] (s1 := ⟨bt 3 (.ow 24 :: bt 3 (.ow 56 :: I ((y2.length : Int)) :: I t14 :: bt 12 [])), [(56, .arr 25 3 (y2.map c25)), (24, .arr 25 3 (l4.map c25))]⟩) ?_ ?_
      ·refine XR 2 ?_
       refine XL_nil ?_
       subst ht14
       kernel_rfl
      exact ⟨n, Nat.lt_succ_self n, _, _,  by rfl, h⟩
    ·have h := of_false h hc7
     refine V_exit ?_
     obtain rfl := some_inj h
     show St.keep _ _ _ = _
     rfl
  show V _ _ _ _
  refine V_e (mb 22 4) [24] (s1 := ⟨.bot :: .bot :: .ow 24 :: bt 19 [], [(24, .arr 25 3 (o6.map c25))]⟩) ?_
  refine V_ret ?_
  obtain rfl := some_inj h
  show Post _ _ _ _ _
  exact ⟨.inr rfl, rfl, rfl, rfl⟩
theorem cf_spec_reNormal : ∀ args w, (callFunc 248 args).run Tryz.prog w = .ok (.enter 248 args) w := run_callFunc Tryz.func248 (by kernel_rfl) (by kernel_rfl)
theorem s_spec_reNormal {f1 : (Int × Int × Int)} {r : Int} (h : r_spec_reNormal f1 = some r) : CallS Tryz.prog 248 [.ag [Ti f1.1, Ti f1.2.1, Ti f1.2.2]] (I r) [] := by
  refine CallS_of_text (rs := [.t 2]) (vs := [.tmp 2]) Tryz.func248 rfl rfl (.cons rfl FitsL.nil) (by decide) 22 rfl ?_
  unfold r_spec_reNormal at h
  show V _ _ ⟨.ag [Ti f1.1, Ti f1.2.1, Ti f1.2.2] :: bt 21 [], []⟩ _
  refine V_e (mb 22 2) [8] (s1 := ⟨.bot :: .pt 8 0 :: bt 20 [], [(8, .box [Ti f1.1, Ti f1.2.1, Ti f1.2.2])]⟩) ?_
  obtain ⟨y2, hy2, h⟩ := of_bind h
  obtain ⟨z3, hz3, h⟩ := of_bind h
  obtain ⟨t4, ht4, h⟩ := of_sI h
  refine V_sdreg [0, 1, 0, 4, 15, 0, 32, 0, 128, 480, 0, 1024, 3072, 8160, 16383, 0, 32768, 98304, 262143, 524287] 20 (cdm 20 [45276113056, 45276113057, 45276112906, 45276112922, 45276112981, 45141361322, 45141362346, 45141207722, 45141224106, 45141284522, 45097855658, 45098904234, 45103098538, 45119526570, 45186635093, 715827882, 1789569706, 6084537002, 22906492245, 91625968981]) (mb 22 4) [] (s1 := ⟨.bot :: .bot :: I t4 :: bt 19 [], []⟩) (by kernel_rfl) (by kernel_rfl) ?_ ?_
  ·refine DR 13 ?_
   refine DC 13 (s_spec_nuMod hy2) cf_spec_nuMod rfl rfl rfl rfl 16 rfl ?_
   refine DR 4 ?_
   refine DE_0 18 (I (w64 (Int.tdiv (w64 ((w64 (f1.1 - f1.2.1)) - y2)) (w64 (2 * f1.1))))) (by kernel_rfl) rfl rfl rfl (gsat_none rfl) (by kernel_rfl) (Y0_quo64 (a := w64 ((w64 (f1.1 - f1.2.1)) - y2)) (b := w64 (2 * f1.1)) rfl (by kernel_rfl) (by kernel_rfl) (nz_some hz3)) 21 rfl ?_
   refine DA 1 ?_
   refine XL_nil ?_
   subst ht4
   kernel_rfl
  refine V_ret ?_
  obtain rfl := some_inj h
  show Post _ _ _ _ _
  exact ⟨.inr rfl, rfl, rfl, rfl⟩
theorem cf_spec_reMove : ∀ args w, (callFunc 220 args).run Tryz.prog w = .ok (.enter 220 args) w := run_callFunc Tryz.func220 (by kernel_rfl) (by kernel_rfl)
theorem s_spec_reMove {f1 : (Int × Int × Int)} {r : (Int × Int × Int × Int)} (h : r_spec_reMove f1 = some r) : CallS Tryz.prog 220 [.ag [Ti f1.1, Ti f1.2.1, Ti f1.2.2]] (.ag [Ti r.1, Ti r.2.1, Ti r.2.2.1, Ti r.2.2.2]) [] := by
  refine CallS_of_text (rs := [.w 2 4]) (vs := [.cell 2 31]) Tryz.func220 rfl rfl (.cons ⟨rfl, wd31⟩ FitsL.nil) (by decide) 14 rfl ?_
  unfold r_spec_reMove at h
  show V _ _ ⟨.ag [Ti f1.1, Ti f1.2.1, Ti f1.2.2] :: bt 13 [], []⟩ _
  refine V_e (mb 14 6) [16, 8] (s1 := ⟨.bot :: .pt 8 0 :: .pt 16 0 :: bt 11 [], [(16, .box [Ti 0, Ti 0, Ti 0, Ti 0]), (8, .box [Ti f1.1, Ti f1.2.1, Ti f1.2.2])]⟩) ?_
  refine V_seq ?_
  obtain ⟨y2, hy2, h⟩ := of_bind h
  refine V_sreg (mb 14 14) [16, 8] (s1 := ⟨.bot :: .pt 8 0 :: .pt 16 0 :: I y2 :: bt 10 [], [(16, .box [Ti 0, Ti 0, Ti 0, Ti 0]), (8, .box [Ti f1.1, Ti f1.2.1, Ti f1.2.2])]⟩) ?_ ?_
  ·refine XR 1 ?_
   refine XC (s_spec_reNormal hy2) cf_spec_reNormal rfl rfl rfl ?_
   exact XE
  refine V_e (mb 14 142) [16, 8] (s1 := ⟨.bot :: .pt 8 0 :: .pt 16 0 :: I y2 :: bt 3 (Bo (!eqI y2 0) :: bt 6 []), [(16, .box [Ti 0, Ti 0, Ti 0, Ti 0]), (8, .box [Ti f1.1, Ti f1.2.1, Ti f1.2.2])]⟩) ?_
  refine V_cond rfl (fun hc3 => ?_) (fun hc3 => ?_)
  ·have h := of_true h hc3
   refine V_sreg (mb 14 4) [16] (s1 := ⟨.bot :: .bot :: .pt 16 0 :: bt 11 [], [(16, .box [Ti 1, Ti y2, Ti 0, Ti 1])]⟩) ?_ ?_
   ·refine XR 1 ?_
    refine L0 rfl rfl (Y0_build (cs := [Ti 1, Ti y2, Ti 0, Ti 1]) pl31 bt31 rfl rfl (by kernel_rfl)) ?_
    exact XE
   refine V_ret ?_
   obtain rfl := some_inj h
   show Post _ _ _ _ _
   exact ⟨.inr rfl, rfl, rfl, rfl⟩
  ·have h := of_false h hc3
   refine V_skip ?_
   show V _ _ _ _
   refine V_seq ?_
   obtain ⟨y4, hy4, h⟩ := of_bind h
   refine V_sreg (mb 14 2052) [16] (s1 := ⟨.bot :: .bot :: .pt 16 0 :: bt 8 (Bo y4 :: .bot :: .bot :: []), [(16, .box [Ti 0, Ti 0, Ti 0, Ti 0])]⟩) ?_ ?_
   ·refine XR 1 ?_
    refine XC (s_spec_reIs hy4) cf_spec_reIs rfl rfl rfl ?_
    exact XE
   refine V_cond rfl (fun hc5 => ?_) (fun hc5 => ?_)
   ·have h := of_true h hc5
    refine V_sreg (mb 14 4) [16] (s1 := ⟨.bot :: .bot :: .pt 16 0 :: bt 11 [], [(16, .box [Ti 1, Ti 0, Ti 0, Ti 1])]⟩) ?_ ?_
    ·refine L0 rfl rfl (Y0_build (cs := [Ti 1, Ti 0, Ti 0, Ti 1]) pl31 bt31 rfl rfl (by kernel_rfl)) ?_
     exact XE
    refine V_ret ?_
    obtain rfl := some_inj h
    show Post _ _ _ _ _
    exact ⟨.inr rfl, rfl, rfl, rfl⟩
   ·have h := of_false h hc5
    refine V_skip ?_
    show V _ _ _ _
    refine V_sreg (mb 14 4) [16] (s1 := ⟨.bot :: .bot :: .pt 16 0 :: bt 11 [], [(16, .box [Ti 0, Ti (-1), Ti 1, Ti 0])]⟩) ?_ ?_
    ·refine L0 rfl rfl (Y0_build (cs := [Ti 0, Ti (-1), Ti 1, Ti 0]) pl31 bt31 rfl rfl (by kernel_rfl)) ?_
     exact XE
    refine V_ret ?_
    obtain rfl := some_inj h
    show Post _ _ _ _ _
    exact ⟨.inr rfl, rfl, rfl, rfl⟩
theorem cf_spec_foValue : ∀ args w, (callFunc 221 args).run Tryz.prog w = .ok (.enter 221 args) w := run_callFunc Tryz.func221 (by kernel_rfl) (by kernel_rfl)
theorem s_spec_foValue {f1 : (Int × Int × Int)} {x2 : Int} {y3 : Int} {r : Int} (h : r_spec_foValue f1 x2 y3 = some r) : CallS Tryz.prog 221 [.ag [Ti f1.1, Ti f1.2.1, Ti f1.2.2], I x2, I y3] (I r) [] := by
  refine CallS_of_text (rs := [.t 6]) (vs := [.tmp 6]) Tryz.func221 rfl rfl (.cons rfl FitsL.nil) (by decide) 27 rfl ?_
  unfold r_spec_foValue at h
  show V _ _ ⟨.ag [Ti f1.1, Ti f1.2.1, Ti f1.2.2] :: I x2 :: I y3 :: bt 24 [], []⟩ _
  refine V_e (mb 27 14) [24] (s1 := ⟨.bot :: I x2 :: I y3 :: .pt 24 0 :: bt 23 [], [(24, .box [Ti f1.1, Ti f1.2.1, Ti f1.2.2])]⟩) ?_
  obtain ⟨t4, ht4, h⟩ := of_sI h
  refine V_sreg (mb 27 64) [] (s1 := ⟨bt 6 (I t4 :: bt 20 []), []⟩) ?_ ?_
  ·refine XR 21 ?_
   refine XL_nil ?_
   subst ht4
   kernel_rfl
  refine V_ret ?_
  obtain rfl := some_inj h
  show Post _ _ _ _ _
  exact ⟨.inr rfl, rfl, rfl, rfl⟩
theorem cf_spec_foPolar : ∀ args w, (callFunc 223 args).run Tryz.prog w = .ok (.enter 223 args) w := run_callFunc Tryz.func223 (by kernel_rfl) (by kernel_rfl)
theorem s_spec_foPolar {f1 : (Int × Int × Int)} {x2 : Int} {y3 : Int} {u4 : Int} {v5 : Int} {r : Int} (h : r_spec_foPolar f1 x2 y3 u4 v5 = some r) : CallS Tryz.prog 223 [.ag [Ti f1.1, Ti f1.2.1, Ti f1.2.2], I x2, I y3, I u4, I v5] (I r) [] := by
  refine CallS_of_text (rs := [.t 10]) (vs := [.tmp 10]) Tryz.func223 rfl rfl (.cons rfl FitsL.nil) (by decide) 37 rfl ?_
  unfold r_spec_foPolar at h
  show V _ _ ⟨.ag [Ti f1.1, Ti f1.2.1, Ti f1.2.2] :: I x2 :: I y3 :: I u4 :: I v5 :: bt 32 [], []⟩ _
  refine V_e (mb 37 62) [40] (s1 := ⟨.bot :: I x2 :: I y3 :: I u4 :: I v5 :: .pt 40 0 :: bt 31 [], [(40, .box [Ti f1.1, Ti f1.2.1, Ti f1.2.2])]⟩) ?_
  obtain ⟨t6, ht6, h⟩ := of_sI h
  refine V_sreg (mb 37 1024) [] (s1 := ⟨bt 10 (I t6 :: bt 26 []), []⟩) ?_ ?_
  ·refine XR 27 ?_
   refine XL_nil ?_
   subst ht6
   kernel_rfl
  refine V_ret ?_
  obtain rfl := some_inj h
  show Post _ _ _ _ _
  exact ⟨.inr rfl, rfl, rfl, rfl⟩
theorem cf_spec_foAct : ∀ args w, (callFunc 164 args).run Tryz.prog w = .ok (.enter 164 args) w := run_callFunc Tryz.func164 (by kernel_rfl) (by kernel_rfl)
theorem s_spec_foAct {f1 : (Int × Int × Int)} {vm2 : (Int × Int × Int × Int)} {r : (Int × Int × Int)} (h : r_spec_foAct f1 vm2 = some r) : CallS Tryz.prog 164 [.ag [Ti f1.1, Ti f1.2.1, Ti f1.2.2], .ag [Ti vm2.1, Ti vm2.2.1, Ti vm2.2.2.1, Ti vm2.2.2.2]] (.ag [Ti r.1, Ti r.2.1, Ti r.2.2]) [] := by
  refine CallS_of_text (rs := [.w 4 3]) (vs := [.cell 4 25]) Tryz.func164 rfl rfl (.cons ⟨rfl, wd25⟩ FitsL.nil) (by decide) 28 rfl ?_
  unfold r_spec_foAct at h
  show V _ _ ⟨.ag [Ti f1.1, Ti f1.2.1, Ti f1.2.2] :: .ag [Ti vm2.1, Ti vm2.2.1, Ti vm2.2.2.1, Ti vm2.2.2.2] :: bt 26 [], []⟩ _
  refine V_e (mb 28 28) [32, 24, 16] (s1 := ⟨.bot :: .bot :: .pt 16 0 :: .pt 24 0 :: .pt 32 0 :: bt 23 [], [(32, .box [Ti 0, Ti 0, Ti 0]), (24, .box [Ti vm2.1, Ti vm2.2.1, Ti vm2.2.2.1, Ti vm2.2.2.2]), (16, .box [Ti f1.1, Ti f1.2.1, Ti f1.2.2])]⟩) ?_
  obtain ⟨y3, hy3, h⟩ := of_bind h
  obtain ⟨y4, hy4, h⟩ := of_bind h
  obtain ⟨y5, hy5, h⟩ := of_bind h
  refine V_sdreg [0, 0, 2, 0, 8, 31, 0, 0, 128, 0, 512, 0, 2048, 0, 8192, 32767, 0, 0, 131072, 0, 524288, 2097151, 4194303, 8388607] 23 (cdm 23 [2929883521704, 2929883521666, 2929883521670, 2929883521066, 2929883521130, 2929883521365, 2929883515562, 2929883359914, 2929883376298, 2929880902314, 2929881164458, 2929841580714, 2929845775018, 2929212435114, 2929279543978, 2929525609813, 2923441072810, 2760232315562, 2777412184746, 183251937962, 458129844906, 1466015503701, 5864062014805]) (mb 28 16) [32] (s1 := ⟨bt 4 (.pt 32 0 :: bt 23 []), [(32, .box [Ti y3, Ti y4, Ti y5])]⟩) (by kernel_rfl) (by kernel_rfl) ?_ ?_
  ·refine DR 5 ?_
   refine DC 5 (s_spec_foValue hy3) cf_spec_foValue rfl rfl rfl rfl 10 rfl ?_
   refine DR 9 ?_
   refine DC 15 (s_spec_foPolar hy4) cf_spec_foPolar rfl rfl rfl rfl 20 rfl ?_
   refine DR 5 ?_
   refine DC 21 (s_spec_foValue hy5) cf_spec_foValue rfl rfl rfl rfl 26 rfl ?_
   refine DE_0 22 (.ag [Ti y3, Ti y4, Ti y5]) (by kernel_rfl) rfl rfl rfl (gsat_none rfl) (by kernel_rfl) (Y0_build (cs := [Ti y3, Ti y4, Ti y5]) pl25 bt25 rfl rfl (by kernel_rfl)) 27 rfl ?_
   refine DA 0 ?_
   exact XE
  refine V_ret ?_
  obtain rfl := some_inj h
  show Post _ _ _ _ _
  exact ⟨.inr rfl, rfl, rfl, rfl⟩
theorem cf_spec_foMul : ∀ args w, (callFunc 163 args).run Tryz.prog w = .ok (.enter 163 args) w := run_callFunc Tryz.func163 (by kernel_rfl) (by kernel_rfl)
theorem s_spec_foMul {vm1 : (Int × Int × Int × Int)} {vn2 : (Int × Int × Int × Int)} {r : (Int × Int × Int × Int)} (h : r_spec_foMul vm1 vn2 = some r) : CallS Tryz.prog 163 [.ag [Ti vm1.1, Ti vm1.2.1, Ti vm1.2.2.1, Ti vm1.2.2.2], .ag [Ti vn2.1, Ti vn2.2.1, Ti vn2.2.2.1, Ti vn2.2.2.2]] (.ag [Ti r.1, Ti r.2.1, Ti r.2.2.1, Ti r.2.2.2]) [] := by
  refine CallS_of_text (rs := [.w 4 4]) (vs := [.cell 4 31]) Tryz.func163 rfl rfl (.cons ⟨rfl, wd31⟩ FitsL.nil) (by decide) 50 rfl ?_
  unfold r_spec_foMul at h
  show V _ _ ⟨.ag [Ti vm1.1, Ti vm1.2.1, Ti vm1.2.2.1, Ti vm1.2.2.2] :: .ag [Ti vn2.1, Ti vn2.2.1, Ti vn2.2.2.1, Ti vn2.2.2.2] :: bt 48 [], []⟩ _
  refine V_e (mb 50 28) [32, 24, 16] (s1 := ⟨.bot :: .bot :: .pt 16 0 :: .pt 24 0 :: .pt 32 0 :: bt 45 [], [(32, .box [Ti 0, Ti 0, Ti 0, Ti 0]), (24, .box [Ti vn2.1, Ti vn2.2.1, Ti vn2.2.2.1, Ti vn2.2.2.2]), (16, .box [Ti vm1.1, Ti vm1.2.1, Ti vm1.2.2.1, Ti vm1.2.2.2])]⟩) ?_
  obtain ⟨f3, hf3, h⟩ := of_sI h
  obtain ⟨f4, hf4, h⟩ := of_sI h
  obtain ⟨f5, hf5, h⟩ := of_sI h
  obtain ⟨f6, hf6, h⟩ := of_sI h
  refine V_sreg (mb 50 16) [32] (s1 := ⟨bt 4 (.pt 32 0 :: bt 45 []), [(32, .box [Ti f3, Ti f4, Ti f5, Ti f6])]⟩) ?_ ?_
  ·refine XR 44 ?_
   refine L0 rfl rfl (Y0_build (cs := [Ti (w64 ((w64 (vm1.1 * vn2.1)) + (w64 (vm1.2.1 * vn2.2.2.1)))), Ti (w64 ((w64 (vm1.1 * vn2.2.1)) + (w64 (vm1.2.1 * vn2.2.2.2)))), Ti (w64 ((w64 (vm1.2.2.1 * vn2.1)) + (w64 (vm1.2.2.2 * vn2.2.2.1)))), Ti (w64 ((w64 (vm1.2.2.1 * vn2.2.1)) + (w64 (vm1.2.2.2 * vn2.2.2.2))))]) pl31 bt31 rfl rfl (by kernel_rfl)) ?_
   refine XR 1 ?_
   refine XL_nil ?_
   subst hf3 hf4 hf5 hf6
   kernel_rfl
  refine V_ret ?_
  obtain rfl := some_inj h
  show Post _ _ _ _ _
  exact ⟨.inr rfl, rfl, rfl, rfl⟩
theorem cf_spec_reReduce : ∀ args w, (callFunc 160 args).run Tryz.prog w = .ok (.enter 160 args) w := run_callFunc Tryz.func160 (by kernel_rfl) (by kernel_rfl)
theorem s_spec_reReduce {f1 : (Int × Int × Int)} {r : (((Int × Int × Int)) × ((Int × Int × Int × Int)))} (h : r_spec_reReduce f1 = some r) : CallS Tryz.prog 160 [.ag [Ti f1.1, Ti f1.2.1, Ti f1.2.2]] (.tc (.ag [Ti r.1.1, Ti r.1.2.1, Ti r.1.2.2]) (.tc (.ag [Ti r.2.1, Ti r.2.2.1, Ti r.2.2.2.1, Ti r.2.2.2.2]) .tn)) [] := by
  refine CallS_of_text (rs := [.w 2 3, .w 3 4]) (vs := [.cell 2 25, .cell 3 31]) Tryz.func160 rfl rfl (.cons ⟨rfl, wd25⟩ (.cons ⟨rfl, wd31⟩ FitsL.nil)) (by decide) 20 rfl ?_
  unfold r_spec_reReduce at h
  show V _ _ ⟨.ag [Ti f1.1, Ti f1.2.1, Ti f1.2.2] :: bt 19 [], []⟩ _
  refine V_e (mb 20 14) [24, 16, 8] (s1 := ⟨.bot :: .pt 8 0 :: .pt 16 0 :: .pt 24 0 :: bt 16 [], [(24, .box [Ti 0, Ti 0, Ti 0, Ti 0]), (16, .box [Ti 0, Ti 0, Ti 0]), (8, .box [Ti f1.1, Ti f1.2.1, Ti f1.2.2])]⟩) ?_
  refine V_sreg (mb 20 30) [32, 24, 16, 8] (s1 := ⟨.bot :: .pt 8 0 :: .pt 16 0 :: .pt 24 0 :: .pt 32 0 :: bt 15 [], [(32, .box [Ti 1, Ti 0, Ti 0, Ti 1]), (24, .box [Ti 0, Ti 0, Ti 0, Ti 0]), (16, .box [Ti 0, Ti 0, Ti 0]), (8, .box [Ti f1.1, Ti f1.2.1, Ti f1.2.2])]⟩) ?_ ?_
  ·refine L0 rfl rfl (Y0_build (cs := [Ti 1, Ti 0, Ti 0, Ti 1]) pl31 bt31 rfl rfl (by kernel_rfl)) ?_
   exact XE
  refine V_seq ?_
  obtain ⟨o10, hLo10, h⟩ := of_bind h
  refine V_toK (mb 20 30) [32, 24, 16, 8] (s1 := ⟨.bot :: .pt 8 0 :: .pt 16 0 :: .pt 24 0 :: .pt 32 0 :: bt 15 [], [(32, .box [Ti o10.1, Ti o10.2.1, Ti o10.2.2.1, Ti o10.2.2.2.1]), (24, .box [Ti 0, Ti 0, Ti 0, Ti 0]), (16, .box [Ti 0, Ti 0, Ti 0]), (8, .box [Ti o10.2.2.2.2.1, Ti o10.2.2.2.2.2.1, Ti o10.2.2.2.2.2.2])]⟩) ?_ ?_
  ·clear h
   refine V_block (V_loop (fun n s => ∃ (f2 : Int) (f3 : Int) (f4 : Int) (f5 : Int) (f6 : Int) (f7 : Int) (f8 : Int), s.keep (mb 20 30) [32, 24, 16, 8] = (⟨.bot :: .pt 8 0 :: .pt 16 0 :: .pt 24 0 :: .pt 32 0 :: bt 15 [], [(32, .box [Ti f2, Ti f3, Ti f4, Ti f5]), (24, .box [Ti 0, Ti 0, Ti 0, Ti 0]), (16, .box [Ti 0, Ti 0, Ti 0]), (8, .box [Ti f6, Ti f7, Ti f8])]⟩ : St) ∧ r_spec_reReduce_L9 n f2 f3 f4 f5 f6 f7 f8 = some o10) FU ⟨_, _, _, _, _, _, _,  by rfl, hLo10⟩ ?_)
   clear hLo10
   rintro n s ⟨f2, f3, f4, f5, f6, f7, f8, hs, h⟩
   refine V_keep _ _ hs ?_
   clear hs
   cases n with
   | zero => cases h
   | succ n =>
    rw [r_spec_reReduce_L9] at h
    refine V_seq ?_
    obtain ⟨y11, hy11, h⟩ := of_bind h
    refine V_sreg (mb 20 542) [32, 24, 16, 8] (s1 := ⟨.bot :: .pt 8 0 :: .pt 16 0 :: .pt 24 0 :: .pt 32 0 :: bt 4 (Bo (!y11) :: bt 10 []), [(32, .box [Ti f2, Ti f3, Ti f4, Ti f5]), (24, .box [Ti 0, Ti 0, Ti 0, Ti 0]), (16, .box [Ti 0, Ti 0, Ti 0]), (8, .box [Ti f6, Ti f7, Ti f8])]⟩) ?_ ?_
    ·refine XR 1 ?_
     refine XC (s_spec_reIs hy11) cf_spec_reIs rfl rfl rfl ?_
     exact XE
    refine V_cond rfl (fun hc12 => ?_) (fun hc12 => ?_)
    ·have h := of_true h hc12
     refine V_skip ?_
     show V _ _ _ _
     refine V_block ?_
     obtain ⟨y13, hy13, h⟩ := of_bind h
     refine V_sreg (mb 20 62) [40, 32, 24, 16, 8] (s1 := ⟨.bot :: .pt 8 0 :: .pt 16 0 :: .pt 24 0 :: .pt 32 0 :: .pt 40 0 :: bt 14 [], [(40, .box [Ti y13.1, Ti y13.2.1, Ti y13.2.2.1, Ti y13.2.2.2]), (32, .box [Ti f2, Ti f3, Ti f4, Ti f5]), (24, .box [Ti 0, Ti 0, Ti 0, Ti 0]), (16, .box [Ti 0, Ti 0, Ti 0]), (8, .box [Ti f6, Ti f7, Ti f8])]⟩) ?_ ?_
     ·refine XR 1 ?_
      refine XC (s_spec_reMove hy13) cf_spec_reMove rfl rfl rfl ?_
      exact XE
     obtain ⟨y14, hy14, h⟩ := of_bind h
     obtain ⟨y15, hy15, h⟩ := of_bind h
     refine V_dreg [0, 0, 3, 0, 0, 31, 63, 127] 6 (cdm 6 [648, 642, 645, 554, 170, 341]) (mb 20 30) [32, 24, 16, 8] (s1 := ⟨.bot :: .pt 8 0 :: .pt 16 0 :: .pt 24 0 :: .pt 32 0 :: bt 15 [], [(32, .box [Ti y15.1, Ti y15.2.1, Ti y15.2.2.1, Ti y15.2.2.2]), (24, .box [Ti 0, Ti 0, Ti 0, Ti 0]), (16, .box [Ti 0, Ti 0, Ti 0]), (8, .box [Ti y14.1, Ti y14.2.1, Ti y14.2.2])]⟩) (by kernel_rfl) (by kernel_rfl) ?_ ?_
     ·refine DR 2 ?_
      refine DC 2 (s_spec_foAct hy14) cf_spec_foAct rfl rfl rfl rfl 14 rfl ?_
      refine DR 2 ?_
      refine DC 5 (s_spec_foMul hy15) cf_spec_foMul rfl rfl rfl rfl 17 rfl ?_
      refine DA 0 ?_
      exact XE
     exact ⟨n, Nat.lt_succ_self n, _, _, _, _, _, _, _,  by rfl, h⟩
    ·have h := of_false h hc12
     refine V_exit ?_
     obtain rfl := some_inj h
     show St.keep _ _ _ = _
     rfl
  show V _ _ _ _
  refine V_sdreg [0, 0, 1, 7] 3 [[.z, .b, .z], [.b, .z, .r 16], [.a, .b, .z]] (mb 20 12) [24, 16] (s1 := ⟨.bot :: .bot :: .pt 16 0 :: .pt 24 0 :: bt 16 [], [(24, .box [Ti o10.1, Ti o10.2.1, Ti o10.2.2.1, Ti o10.2.2.2.1]), (16, .box [Ti o10.2.2.2.2.1, Ti o10.2.2.2.2.2.1, Ti o10.2.2.2.2.2.2])]⟩) (by kernel_rfl) (by kernel_rfl) ?_ ?_
  ·refine DA 3 ?_
   exact XE
  refine V_ret ?_
  obtain rfl := some_inj h
  show Post _ _ _ _ _
  exact ⟨.inr rfl, rfl, rfl, rfl⟩
theorem cf_spec_reClass : ∀ args w, (callFunc 115 args).run Tryz.prog w = .ok (.enter 115 args) w := run_callFunc Tryz.func115 (by kernel_rfl) (by kernel_rfl)
theorem s_spec_reClass {f1 : (Int × Int × Int)} {r : (Int × Int × Int)} (h : r_spec_reClass f1 = some r) : CallS Tryz.prog 115 [.ag [Ti f1.1, Ti f1.2.1, Ti f1.2.2]] (.ag [Ti r.1, Ti r.2.1, Ti r.2.2]) [] := by
  refine CallS_of_text (rs := [.w 2 3]) (vs := [.cell 2 25]) Tryz.func115 rfl rfl (.cons ⟨rfl, wd25⟩ FitsL.nil) (by decide) 11 rfl ?_
  unfold r_spec_reClass at h
  show V _ _ ⟨.ag [Ti f1.1, Ti f1.2.1, Ti f1.2.2] :: bt 10 [], []⟩ _
  refine V_e (mb 11 6) [16, 8] (s1 := ⟨.bot :: .pt 8 0 :: .pt 16 0 :: bt 8 [], [(16, .box [Ti 0, Ti 0, Ti 0]), (8, .box [Ti f1.1, Ti f1.2.1, Ti f1.2.2])]⟩) ?_
  obtain ⟨y2, hy2, h⟩ := of_bind h
  refine V_sreg (mb 11 12) [24, 16] (s1 := ⟨.bot :: .bot :: .pt 16 0 :: .pt 24 0 :: bt 7 [], [(24, .box [Ti y2.1.1, Ti y2.1.2.1, Ti y2.1.2.2]), (16, .box [Ti 0, Ti 0, Ti 0])]⟩) ?_ ?_
  ·refine XR 1 ?_
   refine XC (s_spec_reReduce hy2) cf_spec_reReduce rfl rfl rfl ?_
   exact XE
  refine V_e (mb 11 4) [16] (s1 := ⟨.bot :: .bot :: .pt 16 0 :: bt 8 [], [(16, .box [Ti y2.1.1, Ti y2.1.2.1, Ti y2.1.2.2])]⟩) ?_
  refine V_ret ?_
  obtain rfl := some_inj h
  show Post _ _ _ _ _
  exact ⟨.inr rfl, rfl, rfl, rfl⟩
theorem cf_spec_hkMatrices : ∀ args w, (callFunc 229 args).run Tryz.prog w = .ok (.enter 229 args) w := run_callFunc Tryz.func229 (by kernel_rfl) (by kernel_rfl)
theorem s_spec_hkMatrices {p1 : Int} {r : List ((Int × Int × Int × Int))} (h : r_spec_hkMatrices p1 = some r) : CallS Tryz.prog 229 [I p1] (.ow 0) [(0, .arr 31 4 (r.map c31))] := by
  refine CallS_of_text (rs := [.t 2]) (vs := [.tmp 2]) Tryz.func229 rfl rfl (.cons rfl FitsL.nil) (by decide) 21 rfl ?_
  unfold r_spec_hkMatrices at h
  show V _ _ ⟨I p1 :: bt 20 [], []⟩ _
  refine V_sreg (mb 21 1) [] (s1 := ⟨I p1 :: bt 20 [], []⟩) ?_ ?_
  ·refine L1 rfl rfl (Y1_nil (e := 31) 4 (by decide) (.inl rfl)) ?_
   exact XE
  refine V_sreg (mb 21 9) [24] (s1 := ⟨I p1 :: .bot :: .bot :: .ow 24 :: bt 17 [], [(24, .arr 31 4 ((([] : List ((Int × Int × Int × Int)))).map c31))]⟩) ?_ ?_
  ·refine L1 rfl rfl (Y1_nil (e := 31) 4 (by decide) (.inl rfl)) ?_
   exact XE
  refine V_seq ?_
  refine V_e (mb 21 25) [24] (s1 := ⟨I p1 :: .bot :: .bot :: .ow 24 :: I 0 :: bt 16 [], [(24, .arr 31 4 ((([] : List ((Int × Int × Int × Int)))).map c31))]⟩) ?_
  obtain ⟨o5, hLo5, h⟩ := of_bind h
  refine V_toK (mb 21 9) [24] (s1 := ⟨I p1 :: .bot :: .bot :: .ow 24 :: bt 17 [], [(24, .arr 31 4 (o5.map c31))]⟩) ?_ ?_
  ·clear h
   refine V_block (V_loop (fun n s => ∃ (k2 : Int) (l3 : List ((Int × Int × Int × Int))), s.keep (mb 21 25) [24] = (⟨I p1 :: .bot :: .bot :: .ow 24 :: I k2 :: bt 16 [], [(24, .arr 31 4 (l3.map c31))]⟩ : St) ∧ r_spec_hkMatrices_L4 p1 n k2 l3 = some o5) FU ⟨_, _,  by rfl, hLo5⟩ ?_)
   clear hLo5
   rintro n s ⟨k2, l3, hs, h⟩
   refine V_keep _ _ hs ?_
   clear hs
   cases n with
   | zero => cases h
   | succ n =>
    rw [r_spec_hkMatrices_L4] at h
    refine V_seq ?_
    refine V_e (mb 21 153) [24] (s1 := ⟨I p1 :: .bot :: .bot :: .ow 24 :: I k2 :: .bot :: .bot :: Bo (ltI k2 p1) :: bt 13 [], [(24, .arr 31 4 (l3.map c31))]⟩) ?_
    refine V_cond rfl (fun hc6 => ?_) (fun hc6 => ?_)
    ·have h := of_true h hc6
     refine V_skip ?_
     show V _ _ _ _
     refine V_seq ?_
     refine V_block ?_
     obtain ⟨u7, hu7, h⟩ := of_bind h
     refine V_reg (mb 21 25) [24] (s1 := ⟨I p1 :: .bot :: .bot :: .ow 24 :: I k2 :: bt 16 [], [(24, .arr 31 4 ((l3 ++ ([(1, 0, k2, p1)])).map c31))]⟩) ?_ ?_
     ·refine XR 3 ?_
      refine L0 rfl rfl (Y0_build (cs := [Ti 1, Ti 0, Ti k2, Ti p1]) pl31 bt31 rfl rfl (by kernel_rfl)) ?_
      refine L1 rfl rfl (Y1_bslice (z := zv31) (els := [(1, 0, k2, p1)].map c31) Tryz.underlying158 iz31 rfl (by decide) rfl (by kernel_rfl) rfl (by simp [c31]) (by decide) (by decide)) ?_
      refine XL_cons rfl (X_appendM (c := c31) (xs := l3) (ys := [(1, 0, k2, p1)]) (id := 24) (z := zv31) rfl rfl Tryz.underlying158 izb31 rfl (by kernel_rfl) (by kernel_rfl) (by kernel_rfl) (fun _ => rfl) (by simp) (room_some hu7) (by decide)) ?_
      exact XE
     show V _ _ _ _
     obtain ⟨k8, hk8, h⟩ := of_sI h
     refine V_reg (mb 21 25) [24] (s1 := ⟨I p1 :: .bot :: .bot :: .ow 24 :: I k8 :: bt 16 [], [(24, .arr 31 4 ((l3 ++ ([(1, 0, k2, p1)])).map c31))]⟩) ?_ ?_
     ·refine XR 3 ?_
      refine XL_nil ?_
      subst hk8
      kernel_rfl
     exact ⟨n, Nat.lt_succ_self n, _, _,  by rfl, h⟩
    ·have h := of_false h hc6
     refine V_exit ?_
     obtain rfl := some_inj h
     show St.keep _ _ _ = _
     rfl
  show V _ _ _ _
  obtain ⟨u9, hu9, h⟩ := of_bind h
  refine V_sreg (mb 21 4) [24] (s1 := ⟨.bot :: .bot :: .ow 24 :: bt 18 [], [(24, .arr 31 4 ((o5 ++ ([(p1, 0, 0, 1)])).map c31))]⟩) ?_ ?_
  ·refine XR 2 ?_
   refine L0 rfl rfl (Y0_build (cs := [Ti p1, Ti 0, Ti 0, Ti 1]) pl31 bt31 rfl rfl (by kernel_rfl)) ?_
   refine L1 rfl rfl (Y1_bslice (z := zv31) (els := [(p1, 0, 0, 1)].map c31) Tryz.underlying158 iz31 rfl (by decide) rfl (by kernel_rfl) rfl (by simp [c31]) (by decide) (by decide)) ?_
   refine XL_cons rfl (X_appendM (c := c31) (xs := o5) (ys := [(p1, 0, 0, 1)]) (id := 24) (z := zv31) rfl rfl Tryz.underlying158 izb31 rfl (by kernel_rfl) (by kernel_rfl) (by kernel_rfl) (fun _ => rfl) (by simp) (room_some hu9) (by decide)) ?_
   exact XE
  refine V_ret ?_
  obtain rfl := some_inj h
  show Post _ _ _ _ _
  exact ⟨.inr rfl, rfl, rfl, rfl⟩
theorem cf_spec_hkForms : ∀ args w, (callFunc 190 args).run Tryz.prog w = .ok (.enter 190 args) w := run_callFunc Tryz.func190 (by kernel_rfl) (by kernel_rfl)
theorem s_spec_hkForms {f1 : (Int × Int × Int)} {p2 : Int} {r : List ((Int × Int × Int))} (h : r_spec_hkForms f1 p2 = some r) : CallS Tryz.prog 190 [.ag [Ti f1.1, Ti f1.2.1, Ti f1.2.2], I p2] (.ow 0) [(0, .arr 25 3 (r.map c25))] := by
  refine CallS_of_text (rs := [.t 4]) (vs := [.tmp 4]) Tryz.func190 rfl rfl (.cons rfl FitsL.nil) (by decide) 26 rfl ?_
  unfold r_spec_hkForms at h
  show V _ _ ⟨.ag [Ti f1.1, Ti f1.2.1, Ti f1.2.2] :: I p2 :: bt 24 [], []⟩ _
  refine V_sreg (mb 26 6) [16] (s1 := ⟨.bot :: I p2 :: .pt 16 0 :: bt 23 [], [(16, .box [Ti f1.1, Ti f1.2.1, Ti f1.2.2])]⟩) ?_ ?_
  ·refine XR 1 ?_
   refine L1 rfl rfl (Y1_nil (e := 25) 3 (by decide) (.inl rfl)) ?_
   exact XE
  obtain ⟨y3, hy3, h⟩ := of_bind h
  refine V_sreg (mb 26 34) [40] (s1 := ⟨.bot :: I p2 :: bt 3 (.pt 40 0 :: bt 20 []), [(40, .box [Ti y3.1, Ti y3.2.1, Ti y3.2.2])]⟩) ?_ ?_
  ·refine XR 1 ?_
   refine XC (s_spec_reClass hy3) cf_spec_reClass rfl rfl rfl ?_
   exact XE
  refine V_sreg (mb 26 98) [48, 40] (s1 := ⟨.bot :: I p2 :: bt 3 (.pt 40 0 :: .ow 48 :: bt 19 []), [(48, .arr 25 3 ((([] : List ((Int × Int × Int)))).map c25)), (40, .box [Ti y3.1, Ti y3.2.1, Ti y3.2.2])]⟩) ?_ ?_
  ·refine L1 rfl rfl (Y1_nil (e := 25) 3 (by decide) (.inl rfl)) ?_
   exact XE
  refine V_seq ?_
  obtain ⟨y4, hy4, h⟩ := of_bind h
  refine V_sreg (mb 26 28768) [96, 48, 40] (s1 := ⟨bt 5 (.pt 40 0 :: .ow 48 :: bt 5 (.ow 96 :: I ((y4.length : Int)) :: I 0 :: bt 11 [])), [(96, .arr 31 4 (y4.map c31)), (48, .arr 25 3 ((([] : List ((Int × Int × Int)))).map c25)), (40, .box [Ti y3.1, Ti y3.2.1, Ti y3.2.2])]⟩) ?_ ?_
  ·refine XR 1 ?_
   refine XC (s_spec_hkMatrices hy4) cf_spec_hkMatrices rfl rfl rfl ?_
   refine L0 rfl rfl (Y0_lenM (c := c31) (xs := y4) Tryz.underlying158 rfl (by kernel_rfl)) ?_
   exact XE
  obtain ⟨o8, hLo8, h⟩ := of_bind h
  refine V_toK (mb 26 64) [48] (s1 := ⟨bt 6 (.ow 48 :: bt 19 []), [(48, .arr 25 3 (o8.map c25))]⟩) ?_ ?_
  ·clear h
   refine V_block (V_loop (fun n s => ∃ (t5 : Int) (l6 : List ((Int × Int × Int))), s.keep (mb 26 28768) [96, 48, 40] = (⟨bt 5 (.pt 40 0 :: .ow 48 :: bt 5 (.ow 96 :: I ((y4.length : Int)) :: I t5 :: bt 11 [])), [(96, .arr 31 4 (y4.map c31)), (48, .arr 25 3 (l6.map c25)), (40, .box [Ti y3.1, Ti y3.2.1, Ti y3.2.2])]⟩ : St) ∧ r_spec_hkForms_L7 y3 y4 n t5 l6 = some o8) FU ⟨_, _,  by rfl, hLo8⟩ ?_)
   clear hLo8
   rintro n s ⟨t5, l6, hs, h⟩
   refine V_keep _ _ hs ?_
   clear hs
   cases n with
   | zero => cases h
   | succ n =>
    rw [r_spec_hkForms_L7] at h
    refine V_e (mb 26 61536) [96, 48, 40] (s1 := ⟨bt 5 (.pt 40 0 :: .ow 48 :: bt 5 (.ow 96 :: I ((y4.length : Int)) :: I t5 :: Bo (ltI t5 ((y4.length : Int))) :: bt 10 [])), [(96, .arr 31 4 (y4.map c31)), (48, .arr 25 3 (l6.map c25)), (40, .box [Ti y3.1, Ti y3.2.1, Ti y3.2.2])]⟩) ?_
    refine V_seq ?_
    refine V_cond rfl (fun hc9 => ?_) (fun hc9 => ?_)
    ·have h := of_true h hc9
     refine V_skip ?_
     show V _ _ _ _
     refine V_seq ?_
     refine V_block ?_
     obtain ⟨e10, he10, h⟩ := of_bind h
     obtain ⟨e11, he11, h⟩ := of_bind h
     refine V_sreg (mb 26 29024) [64, 96, 48, 40] (s1 := ⟨bt 5 (.pt 40 0 :: .ow 48 :: .bot :: .pt 64 0 :: bt 3 (.ow 96 :: I ((y4.length : Int)) :: I t5 :: bt 11 [])), [(64, .box [Ti e11.1, Ti e11.2.1, Ti e11.2.2.1, Ti e11.2.2.2]), (96, .arr 31 4 (y4.map c31)), (48, .arr 25 3 (l6.map c25)), (40, .box [Ti y3.1, Ti y3.2.1, Ti y3.2.2])]⟩) ?_ ?_
     ·refine L0 rfl rfl (Y0_idxoM (c := c31) (xs := y4) (v := e10) (id := 96) (T := 31) (sz := 4) (n := t5) Tryz.underlying158 sz31 rfl (by kernel_rfl) (by kernel_rfl) (by kernel_rfl) he10) ?_
      refine L0 rfl rfl (E_loadon (c := c31) (xs := y4) (v := e11) (id := 96) (sz := 4) (T := 31) (off := 0) (n := t5) [Ti e11.1, Ti e11.2.1, Ti e11.2.2.1, Ti e11.2.2.2] wd31 rfl (by kernel_rfl) (by kernel_rfl) he11 (Nat.le_of_ble_eq_true rfl) (by kernel_rfl)) ?_
      exact XE
     obtain ⟨y12, hy12, h⟩ := of_bind h
     obtain ⟨u13, hu13, h⟩ := of_bind h
     refine V_reg (mb 26 28768) [96, 48, 40] (s1 := ⟨bt 5 (.pt 40 0 :: .ow 48 :: bt 5 (.ow 96 :: I ((y4.length : Int)) :: I t5 :: bt 11 [])), [(96, .arr 31 4 (y4.map c31)), (48, .arr 25 3 ((l6 ++ ([y12])).map c25)), (40, .box [Ti y3.1, Ti y3.2.1, Ti y3.2.2])]⟩) ?_ ?_
     ·refine XR 3 ?_
      refine XC (s_spec_foAct hy12) cf_spec_foAct rfl rfl rfl ?_
      refine L1 rfl rfl (Y1_bslice (z := zv25) (els := [y12].map c25) Tryz.underlying38 iz25 rfl (by decide) rfl (by kernel_rfl) rfl (by simp [c25]) (by decide) (by decide)) ?_
      refine XL_cons rfl (X_appendM (c := c25) (xs := l6) (ys := [y12]) (id := 48) (z := zv25) rfl rfl Tryz.underlying38 izb25 rfl (by kernel_rfl) (by kernel_rfl) (by kernel_rfl) (fun _ => rfl) (by simp) (room_some hu13) (by decide)) ?_
      exact XE
     show V _ _ _ _
     obtain ⟨t14, ht14, h⟩ := of_sI h
     refine V_reg (mb 26 28768) [96, 48, 40] (s1 := ⟨bt 5 (.pt 40 0 :: .ow 48 :: bt 5 (.ow 96 :: I ((y4.length : Int)) :: I t14 :: bt 11 [])), [(96, .arr 31 4 (y4.map c31)), (48, .arr 25 3 ((l6 ++ ([y12])).map c25)), (40, .box [Ti y3.1, Ti y3.2.1, Ti y3.2.2])]⟩) ?_ ?_
     ·refine XR 2 ?_
      refine XL_nil ?_
      subst ht14
      kernel_rfl
     exact ⟨n, Nat.lt_succ_self n, _, _,  by rfl, h⟩
    ·have h := of_false h hc9
     refine V_exit ?_
     obtain rfl := some_inj h
     show St.keep _ _ _ = _
     rfl
  show V _ _ _ _
  refine V_e (mb 26 16) [48] (s1 := ⟨bt 4 (.ow 48 :: bt 21 []), [(48, .arr 25 3 (o8.map c25))]⟩) ?_
  refine V_ret ?_
  obtain rfl := some_inj h
  show Post _ _ _ _ _
  exact ⟨.inr rfl, rfl, rfl, rfl⟩
theorem cf_spec_hkNeighbours : ∀ args w, (callFunc 180 args).run Tryz.prog w = .ok (.enter 180 args) w := run_callFunc Tryz.func180 (by kernel_rfl) (by kernel_rfl)
theorem s_spec_hkNeighbours {f1 : (Int × Int × Int)} {p2 : Int} {r : List ((Int × Int × Int))} (h : r_spec_hkNeighbours f1 p2 = some r) : CallS Tryz.prog 180 [.ag [Ti f1.1, Ti f1.2.1, Ti f1.2.2], I p2] (.ow 0) [(0, .arr 25 3 (r.map c25))] := by
  refine CallS_of_text (rs := [.t 4]) (vs := [.tmp 4]) Tryz.func180 rfl rfl (.cons rfl FitsL.nil) (by decide) 39 rfl ?_
  unfold r_spec_hkNeighbours at h
  show V _ _ ⟨.ag [Ti f1.1, Ti f1.2.1, Ti f1.2.2] :: I p2 :: bt 37 [], []⟩ _
  refine V_sreg (mb 39 6) [16] (s1 := ⟨.bot :: I p2 :: .pt 16 0 :: bt 36 [], [(16, .box [Ti f1.1, Ti f1.2.1, Ti f1.2.2])]⟩) ?_ ?_
  ·refine XR 1 ?_
   refine L1 rfl rfl (Y1_nil (e := 25) 3 (by decide) (.inl rfl)) ?_
   exact XE
  refine V_sreg (mb 39 38) [40, 16] (s1 := ⟨.bot :: I p2 :: .pt 16 0 :: .bot :: .bot :: .ow 40 :: bt 33 [], [(40, .arr 25 3 ((([] : List ((Int × Int × Int)))).map c25)), (16, .box [Ti f1.1, Ti f1.2.1, Ti f1.2.2])]⟩) ?_ ?_
  ·refine L1 rfl rfl (Y1_nil (e := 25) 3 (by decide) (.inl rfl)) ?_
   exact XE
  refine V_seq ?_
  obtain ⟨y3, hy3, h⟩ := of_bind h
  refine V_sreg (mb 39 7202) [80, 40] (s1 := ⟨.bot :: I p2 :: bt 3 (.ow 40 :: bt 4 (.ow 80 :: I ((y3.length : Int)) :: I 0 :: bt 26 [])), [(80, .arr 25 3 (y3.map c25)), (40, .arr 25 3 ((([] : List ((Int × Int × Int)))).map c25))]⟩) ?_ ?_
  ·refine XR 2 ?_
   refine XC (s_spec_hkForms hy3) cf_spec_hkForms rfl rfl rfl ?_
   refine L0 rfl rfl (Y0_lenM (c := c25) (xs := y3) Tryz.underlying38 rfl (by kernel_rfl)) ?_
   exact XE
  obtain ⟨o7, hLo7, h⟩ := of_bind h
  refine V_toK (mb 39 32) [40] (s1 := ⟨bt 5 (.ow 40 :: bt 33 []), [(40, .arr 25 3 (o7.map c25))]⟩) ?_ ?_
  ·clear h
   refine V_block (V_loop (fun n s => ∃ (t4 : Int) (l5 : List ((Int × Int × Int))), s.keep (mb 39 7202) [80, 40] = (⟨.bot :: I p2 :: bt 3 (.ow 40 :: bt 4 (.ow 80 :: I ((y3.length : Int)) :: I t4 :: bt 26 [])), [(80, .arr 25 3 (y3.map c25)), (40, .arr 25 3 (l5.map c25))]⟩ : St) ∧ r_spec_hkNeighbours_L6 p2 y3 n t4 l5 = some o7) FU ⟨_, _,  by rfl, hLo7⟩ ?_)
   clear hLo7
   rintro n s ⟨t4, l5, hs, h⟩
   refine V_keep _ _ hs ?_
   clear hs
   cases n with
   | zero => cases h
   | succ n =>
    rw [r_spec_hkNeighbours_L6] at h
    refine V_e (mb 39 15394) [80, 40] (s1 := ⟨.bot :: I p2 :: bt 3 (.ow 40 :: bt 4 (.ow 80 :: I ((y3.length : Int)) :: I t4 :: Bo (ltI t4 ((y3.length : Int))) :: bt 25 [])), [(80, .arr 25 3 (y3.map c25)), (40, .arr 25 3 (l5.map c25))]⟩) ?_
    refine V_seq ?_
    refine V_cond rfl (fun hc8 => ?_) (fun hc8 => ?_)
    ·have h := of_true h hc8
     refine V_skip ?_
     show V _ _ _ _
     refine V_seq ?_
     refine V_block ?_
     obtain ⟨e9, he9, h⟩ := of_bind h
     obtain ⟨e10, he10, h⟩ := of_bind h
     refine V_sreg (mb 39 7330) [56, 80, 40] (s1 := ⟨.bot :: I p2 :: bt 3 (.ow 40 :: .bot :: .pt 56 0 :: .bot :: .bot :: .ow 80 :: I ((y3.length : Int)) :: I t4 :: bt 26 []), [(56, .box [Ti e10.1, Ti e10.2.1, Ti e10.2.2]), (80, .arr 25 3 (y3.map c25)), (40, .arr 25 3 (l5.map c25))]⟩) ?_ ?_
     ·refine L0 rfl rfl (Y0_idxoM (c := c25) (xs := y3) (v := e9) (id := 80) (T := 25) (sz := 3) (n := t4) Tryz.underlying38 sz25 rfl (by kernel_rfl) (by kernel_rfl) (by kernel_rfl) he9) ?_
      refine L0 rfl rfl (E_loadon (c := c25) (xs := y3) (v := e10) (id := 80) (sz := 3) (T := 25) (off := 0) (n := t4) [Ti e10.1, Ti e10.2.1, Ti e10.2.2] wd25 rfl (by kernel_rfl) (by kernel_rfl) he10 (Nat.le_of_ble_eq_true rfl) (by kernel_rfl)) ?_
      exact XE
     obtain ⟨y11, hy11, h⟩ := of_bind h
     refine V_sreg (mb 39 531618) [56, 80, 40] (s1 := ⟨.bot :: I p2 :: bt 3 (.ow 40 :: .bot :: .pt 56 0 :: .bot :: .bot :: .ow 80 :: I ((y3.length : Int)) :: I t4 :: bt 6 (Bo (eqI y11 p2) :: bt 19 [])), [(56, .box [Ti e10.1, Ti e10.2.1, Ti e10.2.2]), (80, .arr 25 3 (y3.map c25)), (40, .arr 25 3 (l5.map c25))]⟩) ?_ ?_
     ·refine XR 1 ?_
      refine XC (s_spec_foContent hy11) cf_spec_foContent rfl rfl rfl ?_
      exact XE
     refine V_cond rfl (fun hc12 => ?_) (fun hc12 => ?_)
     ·have h := of_true h hc12
      obtain ⟨z13, hz13, h⟩ := of_bind h
      obtain ⟨z14, hz14, h⟩ := of_bind h
      obtain ⟨z15, hz15, h⟩ := of_bind h
      obtain ⟨y16, hy16, h⟩ := of_bind h
      obtain ⟨u17, hu17, h⟩ := of_bind h
      refine V_dreg [0, 0, 2, 0, 14, 0, 32, 0, 224, 0, 512, 0, 3584, 8190, 16382, 32766, 65535, 131071] 16 (cdm 16 [2863311528, 44738690, 44738694, 44738602, 44738646, 44597930, 44598954, 44575402, 44586666, 8563370, 8825514, 2796202, 5679786, 22369622, 89478486, 357913942]) (mb 39 7202) [80, 40] (s1 := ⟨.bot :: I p2 :: bt 3 (.ow 40 :: bt 4 (.ow 80 :: I ((y3.length : Int)) :: I t4 :: bt 26 [])), [(80, .arr 25 3 (y3.map c25)), (40, .arr 25 3 ((l5 ++ ([y16])).map c25))]⟩) (by kernel_rfl) (by kernel_rfl) ?_ ?_
      ·refine DR 4 ?_
       refine DE_0 4 (I (w64 (Int.tdiv e10.1 p2))) (by kernel_rfl) rfl rfl rfl (gsat_none rfl) (by kernel_rfl) (Y0_quo64 (a := e10.1) (b := p2) rfl (by kernel_rfl) (by kernel_rfl) (nz_some hz13)) 24 rfl ?_
       refine DR 3 ?_
       refine DE_0 8 (I (w64 (Int.tdiv e10.2.1 p2))) (by kernel_rfl) rfl rfl rfl (gsat_none rfl) (by kernel_rfl) (Y0_quo64 (a := e10.2.1) (b := p2) rfl (by kernel_rfl) (by kernel_rfl) (nz_some hz14)) 28 rfl ?_
       refine DR 3 ?_
       refine DE_0 12 (I (w64 (Int.tdiv e10.2.2 p2))) (by kernel_rfl) rfl rfl rfl (gsat_none rfl) (by kernel_rfl) (Y0_quo64 (a := e10.2.2) (b := p2) rfl (by kernel_rfl) (by kernel_rfl) (nz_some hz15)) 32 rfl ?_
       refine DE_0 13 (.ag [Ti (w64 (Int.tdiv e10.1 p2)), Ti (w64 (Int.tdiv e10.2.1 p2)), Ti (w64 (Int.tdiv e10.2.2 p2))]) (by kernel_rfl) rfl rfl rfl (gsat_none rfl) (by kernel_rfl) (Y0_build (cs := [Ti (w64 (Int.tdiv e10.1 p2)), Ti (w64 (Int.tdiv e10.2.1 p2)), Ti (w64 (Int.tdiv e10.2.2 p2))]) pl25 bt25 rfl rfl (by kernel_rfl)) 33 rfl ?_
       refine DC 14 (s_spec_reClass hy16) cf_spec_reClass rfl rfl rfl rfl 34 rfl ?_
       refine DE_1 15 (by kernel_rfl) rfl rfl rfl (gsat_none rfl) (Y1_bslice (z := zv25) (els := [y16].map c25) Tryz.underlying38 iz25 rfl (by decide) rfl (by kernel_rfl) rfl (by simp [c25]) (by decide) (by decide)) rfl rfl rfl 35 rfl ?_
       refine DA 0 ?_
       refine XL_cons rfl (X_appendM (c := c25) (xs := l5) (ys := [y16]) (id := 40) (z := zv25) rfl rfl Tryz.underlying38 izb25 rfl (by kernel_rfl) (by kernel_rfl) (by kernel_rfl) (fun _ => rfl) (by simp) (room_some hu17) (by decide)) ?_
       exact XE
      show V _ _ _ _
      obtain ⟨t18, ht18, h⟩ := of_sI h
      refine V_reg (mb 39 7202) [80, 40] (s1 := ⟨.bot :: I p2 :: bt 3 (.ow 40 :: bt 4 (.ow 80 :: I ((y3.length : Int)) :: I t18 :: bt 26 [])), [(80, .arr 25 3 (y3.map c25)), (40, .arr 25 3 ((l5 ++ ([y16])).map c25))]⟩) ?_ ?_
      ·refine XR 2 ?_
       refine XL_nil ?_
       subst ht18
       kernel_rfl
      exact ⟨n, Nat.lt_succ_self n, _, _,  by rfl, h⟩
     ·have h := of_false h hc12
      refine V_skip ?_
      show V _ _ _ _
      obtain ⟨t19, ht19, h⟩ := of_sI h
      refine V_reg (mb 39 7202) [80, 40] (s1 := ⟨.bot :: I p2 :: bt 3 (.ow 40 :: bt 4 (.ow 80 :: I ((y3.length : Int)) :: I t19 :: bt 26 [])), [(80, .arr 25 3 (y3.map c25)), (40, .arr 25 3 (l5.map c25))]⟩) ?_ ?_
      ·refine XR 2 ?_
       refine XL_nil ?_
       subst ht19
       kernel_rfl
      exact ⟨n, Nat.lt_succ_self n, _, _,  by rfl, h⟩
    ·have h := of_false h hc8
     refine V_exit ?_
     obtain rfl := some_inj h
     show St.keep _ _ _ = _
     rfl
  show V _ _ _ _
  refine V_e (mb 39 16) [40] (s1 := ⟨bt 4 (.ow 40 :: bt 34 []), [(40, .arr 25 3 (o7.map c25))]⟩) ?_
  refine V_ret ?_
  obtain rfl := some_inj h
  show Post _ _ _ _ _
  exact ⟨.inr rfl, rfl, rfl, rfl⟩
theorem cf_spec_grIndex : ∀ args w, (callFunc 118 args).run Tryz.prog w = .ok (.enter 118 args) w := run_callFunc Tryz.func118 (by kernel_rfl) (by kernel_rfl)
theorem s_spec_grIndex {l1 : List ((Int × Int × Int))} {f2 : (Int × Int × Int)} {r : Int} (h : r_spec_grIndex l1 f2 = some r) : CallS Tryz.prog 118 [.c (.sl (l1.map c25)), .ag [Ti f2.1, Ti f2.2.1, Ti f2.2.2]] (I r) [] := by
  refine CallS_of_text (rs := [.t 4]) (vs := [.tmp 4]) Tryz.func118 rfl rfl (.cons rfl FitsL.nil) (by decide) 19 rfl ?_
  unfold r_spec_grIndex at h
  show V _ _ ⟨.c (.sl (l1.map c25)) :: .ag [Ti f2.1, Ti f2.2.1, Ti f2.2.2] :: bt 17 [], []⟩ _
  refine V_e (mb 19 9) [24] (s1 := ⟨.c (.sl (l1.map c25)) :: .bot :: .bot :: .pt 24 0 :: bt 15 [], [(24, .box [Ti f2.1, Ti f2.2.1, Ti f2.2.2])]⟩) ?_
  refine V_seq ?_
  refine V_sreg (mb 19 904) [24] (s1 := ⟨bt 3 (.pt 24 0 :: bt 3 (.c (.sl (l1.map c25)) :: I ((l1.length : Int)) :: I 0 :: bt 9 [])), [(24, .box [Ti f2.1, Ti f2.2.1, Ti f2.2.2])]⟩) ?_ ?_
  ·refine XR 1 ?_
   refine L0 rfl rfl (Y0_lenM (c := c25) (xs := l1) Tryz.underlying38 rfl (by kernel_rfl)) ?_
   exact XE
  obtain ⟨qo5, hLo5, hko5⟩ := of_bind h
  refine V_toS (q := qo5) (S := fun o5 => ⟨bt 19 [], []⟩) (mb 19 0) [] ?_ ?_
  ·refine V_block (V_loop (fun n s => ∃ (t3 : Int), s.keep (mb 19 904) [24] = (⟨bt 3 (.pt 24 0 :: bt 3 (.c (.sl (l1.map c25)) :: I ((l1.length : Int)) :: I t3 :: bt 9 [])), [(24, .box [Ti f2.1, Ti f2.2.1, Ti f2.2.2])]⟩ : St) ∧ r_spec_grIndex_L4 f2 l1 n t3 = some qo5) FU ⟨_,  by rfl, hLo5⟩ ?_)
   clear hLo5
   rintro n s ⟨t3, hs, h⟩
   refine V_keep _ _ hs ?_
   clear hs
   cases n with
   | zero => cases h
   | succ n =>
    rw [r_spec_grIndex_L4] at h
    refine V_e (mb 19 1928) [24] (s1 := ⟨bt 3 (.pt 24 0 :: bt 3 (.c (.sl (l1.map c25)) :: I ((l1.length : Int)) :: I t3 :: Bo (ltI t3 ((l1.length : Int))) :: bt 8 [])), [(24, .box [Ti f2.1, Ti f2.2.1, Ti f2.2.2])]⟩) ?_
    refine V_seq ?_
    refine V_cond rfl (fun hc6 => ?_) (fun hc6 => ?_)
    ·have h := of_true h hc6
     refine V_skip ?_
     show V _ _ _ _
     refine V_seq ?_
     refine V_block ?_
     obtain ⟨e7, he7, h⟩ := of_bind h
     refine V_sreg (mb 19 1000) [48, 24] (s1 := ⟨bt 3 (.pt 24 0 :: .bot :: I t3 :: .pt 48 0 :: .c (.sl (l1.map c25)) :: I ((l1.length : Int)) :: I t3 :: bt 9 []), [(48, .box [Ti e7.1, Ti e7.2.1, Ti e7.2.2]), (24, .box [Ti f2.1, Ti f2.2.1, Ti f2.2.2])]⟩) ?_ ?_
     ·refine XR 1 ?_
      refine L0 rfl rfl (Y0_idxM (c := c25) (xs := l1) (v := e7) (n := t3) Tryz.underlying38 sz25 rfl (by kernel_rfl) (by kernel_rfl) he7) ?_
      exact XE
     obtain ⟨t8, ht8, h⟩ := of_bind h
     have ht8 := some_inj ht8
     refine V_sreg (mb 19 66472) [24] (s1 := ⟨bt 3 (.pt 24 0 :: .bot :: I t3 :: .bot :: .c (.sl (l1.map c25)) :: I ((l1.length : Int)) :: I t3 :: bt 6 (Bo t8 :: .bot :: .bot :: [])), [(24, .box [Ti f2.1, Ti f2.2.1, Ti f2.2.2])]⟩) ?_ ?_
     ·refine XR 2 ?_
      refine L0 rfl rfl (Y0_eqg3 (a0 := e7.1) (b0 := f2.1) (a1 := e7.2.1) (b1 := f2.2.1) (a2 := e7.2.2) (b2 := f2.2.2) eqg25 rfl (by kernel_rfl) (by kernel_rfl)) ?_
      refine XL_nil ?_
      subst ht8
      kernel_rfl
     refine V_cond rfl (fun hc9 => ?_) (fun hc9 => ?_)
     ·have h := of_true h hc9
      refine V_e (mb 19 16) [] (s1 := ⟨bt 4 (I t3 :: bt 14 []), []⟩) ?_
      refine V_ret ?_
      obtain rfl := some_inj h
      have h := hko5
      obtain rfl := some_inj h
      show Post _ _ _ _ _
      exact ⟨.inr rfl, rfl, rfl, rfl⟩
     ·have h := of_false h hc9
      refine V_skip ?_
      show V _ _ _ _
      obtain ⟨t10, ht10, h⟩ := of_sI h
      refine V_reg (mb 19 904) [24] (s1 := ⟨bt 3 (.pt 24 0 :: bt 3 (.c (.sl (l1.map c25)) :: I ((l1.length : Int)) :: I t10 :: bt 9 [])), [(24, .box [Ti f2.1, Ti f2.2.1, Ti f2.2.2])]⟩) ?_ ?_
      ·refine XR 2 ?_
       refine XL_nil ?_
       subst ht10
       kernel_rfl
      exact ⟨n, Nat.lt_succ_self n, _,  by rfl, h⟩
    ·have h := of_false h hc6
     refine V_exit ?_
     obtain rfl := some_inj h
     exact ⟨_, rfl, by rfl⟩
  rintro o5 rfl
  have h := hko5
  clear hko5
  show V _ _ _ _
  refine V_e (mb 19 16) [] (s1 := ⟨bt 4 (I (-1) :: bt 14 []), []⟩) ?_
  refine V_ret ?_
  obtain rfl := some_inj h
  show Post _ _ _ _ _
  exact ⟨.inr rfl, rfl, rfl, rfl⟩
theorem cf_spec_hkMatrix : ∀ args w, (callFunc 90 args).run Tryz.prog w = .ok (.enter 90 args) w := run_callFunc Tryz.func90 (by kernel_rfl) (by kernel_rfl)
theorem s_spec_hkMatrix {d1 : Int} {p2 : Int} {r : List (List Int)} (h : r_spec_hkMatrix d1 p2 = some r) : CallS Tryz.prog 90 [I d1, I p2] (.ow 0) [(0, .arr 51 1 (r.map c51))] := by
  refine CallS_of_text (rs := [.t 4]) (vs := [.tmp 4]) Tryz.func90 rfl rfl (.cons rfl FitsL.nil) (by decide) 46 rfl ?_
  unfold r_spec_hkMatrix at h
  show V _ _ ⟨I d1 :: I p2 :: bt 44 [], []⟩ _
  refine V_sreg (mb 46 3) [] (s1 := ⟨I d1 :: I p2 :: bt 44 [], []⟩) ?_ ?_
  ·refine L1 rfl rfl (Y1_nil (e := 51) 1 (by decide) (.inl rfl)) ?_
   exact XE
  obtain ⟨y3, hy3, h⟩ := of_bind h
  refine V_sreg (mb 46 34) [104] (s1 := ⟨.bot :: I p2 :: bt 3 (.ow 104 :: bt 40 []), [(104, .arr 25 3 (y3.map c25))]⟩) ?_ ?_
  ·refine XR 1 ?_
   refine XC (s_spec_reList hy3) cf_spec_reList rfl rfl rfl ?_
   exact XE
  refine V_sreg (mb 46 98) [48, 104] (s1 := ⟨.bot :: I p2 :: bt 3 (.ow 104 :: .ow 48 :: bt 39 []), [(48, .arr 51 1 ((([] : List (List Int))).map c51)), (104, .arr 25 3 (y3.map c25))]⟩) ?_ ?_
  ·refine L1 rfl rfl (Y1_nil (e := 51) 1 (by decide) (.inl rfl)) ?_
   exact XE
  refine V_seq ?_
  refine V_sreg (mb 46 114786) [48, 104] (s1 := ⟨.bot :: I p2 :: bt 3 (.ow 104 :: .ow 48 :: bt 7 (.ow 104 :: I ((y3.length : Int)) :: I 0 :: bt 29 [])), [(48, .arr 51 1 ((([] : List (List Int))).map c51)), (104, .arr 25 3 (y3.map c25))]⟩) ?_ ?_
  ·refine XR 1 ?_
   refine L0 rfl rfl (Y0_lenM (c := c25) (xs := y3) Tryz.underlying38 rfl (by kernel_rfl)) ?_
   exact XE
  obtain ⟨o7, hLo7, h⟩ := of_bind h
  refine V_toK (mb 46 64) [48] (s1 := ⟨bt 6 (.ow 48 :: bt 39 []), [(48, .arr 51 1 (o7.map c51))]⟩) ?_ ?_
  ·clear h
   refine V_block (V_loop (fun n s => ∃ (t4 : Int) (l5 : List (List Int)), s.keep (mb 46 114786) [48, 104] = (⟨.bot :: I p2 :: bt 3 (.ow 104 :: .ow 48 :: bt 7 (.ow 104 :: I ((y3.length : Int)) :: I t4 :: bt 29 [])), [(48, .arr 51 1 (l5.map c51)), (104, .arr 25 3 (y3.map c25))]⟩ : St) ∧ r_spec_hkMatrix_L6 p2 y3 n t4 l5 = some o7) FU ⟨_, _,  by rfl, hLo7⟩ ?_)
   clear hLo7
   rintro n s ⟨t4, l5, hs, h⟩
   refine V_keep _ _ hs ?_
   clear hs
   cases n with
   | zero => cases h
   | succ n =>
    rw [r_spec_hkMatrix_L6] at h
    refine V_e (mb 46 245858) [48, 104] (s1 := ⟨.bot :: I p2 :: bt 3 (.ow 104 :: .ow 48 :: bt 7 (.ow 104 :: I ((y3.length : Int)) :: I t4 :: Bo (ltI t4 ((y3.length : Int))) :: bt 28 [])), [(48, .arr 51 1 (l5.map c51)), (104, .arr 25 3 (y3.map c25))]⟩) ?_
    refine V_seq ?_
    refine V_cond rfl (fun hc8 => ?_) (fun hc8 => ?_)
    ·have h := of_true h hc8
     refine V_skip ?_
     show V _ _ _ _
     refine V_seq ?_
     refine V_block ?_
     obtain ⟨e9, he9, h⟩ := of_bind h
     obtain ⟨e10, he10, h⟩ := of_bind h
     refine V_sreg (mb 46 115042) [64, 48, 104] (s1 := ⟨.bot :: I p2 :: bt 3 (.ow 104 :: .ow 48 :: .bot :: .pt 64 0 :: bt 5 (.ow 104 :: I ((y3.length : Int)) :: I t4 :: bt 29 [])), [(64, .box [Ti e10.1, Ti e10.2.1, Ti e10.2.2]), (48, .arr 51 1 (l5.map c51)), (104, .arr 25 3 (y3.map c25))]⟩) ?_ ?_
     ·refine L0 rfl rfl (Y0_idxoM (c := c25) (xs := y3) (v := e9) (id := 104) (T := 25) (sz := 3) (n := t4) Tryz.underlying38 sz25 rfl (by kernel_rfl) (by kernel_rfl) (by kernel_rfl) he9) ?_
      refine L0 rfl rfl (E_loadon (c := c25) (xs := y3) (v := e10) (id := 104) (sz := 3) (T := 25) (off := 0) (n := t4) [Ti e10.1, Ti e10.2.1, Ti e10.2.2] wd25 rfl (by kernel_rfl) (by kernel_rfl) he10 (Nat.le_of_ble_eq_true rfl) (by kernel_rfl)) ?_
      exact XE
     obtain ⟨u11, hu11, h⟩ := of_bind h
     refine V_sreg (mb 46 115554) [176, 64, 48, 104] (s1 := ⟨.bot :: I p2 :: bt 3 (.ow 104 :: .ow 48 :: .bot :: .pt 64 0 :: .ow 176 :: bt 4 (.ow 104 :: I ((y3.length : Int)) :: I t4 :: bt 29 [])), [(176, .arr 3 1 ((List.replicate (Int.toNat ((y3.length : Int))) ((0 : Int))).map c3)), (64, .box [Ti e10.1, Ti e10.2.1, Ti e10.2.2]), (48, .arr 51 1 (l5.map c51)), (104, .arr 25 3 (y3.map c25))]⟩) ?_ ?_
     ·refine XR 1 ?_
      refine L0 rfl rfl (Y0_lenM (c := c25) (xs := y3) Tryz.underlying38 rfl (by kernel_rfl)) ?_
      refine L1 rfl rfl (Y1_make (c := c3) (zx := (0 : Int)) (z := zv3) (l := (y3.length : Int)) (k := (y3.length : Int)) Tryz.underlying51 izb3 rfl rfl (by decide) rfl rfl (by kernel_rfl) (by kernel_rfl) (mk_some hu11) (by decide)) ?_
      exact XE
     refine V_seq ?_
     obtain ⟨y12, hy12, h⟩ := of_bind h
     refine V_sreg (mb 46 234996322) [200, 176, 48, 104] (s1 := ⟨.bot :: I p2 :: bt 3 (.ow 104 :: .ow 48 :: .bot :: .bot :: .ow 176 :: bt 4 (.ow 104 :: I ((y3.length : Int)) :: I t4 :: bt 8 (.ow 200 :: I ((y12.length : Int)) :: I 0 :: bt 18 []))), [(200, .arr 25 3 (y12.map c25)), (176, .arr 3 1 ((List.replicate (Int.toNat ((y3.length : Int))) ((0 : Int))).map c3)), (48, .arr 51 1 (l5.map c51)), (104, .arr 25 3 (y3.map c25))]⟩) ?_ ?_
     ·refine XR 2 ?_
      refine XC (s_spec_hkNeighbours hy12) cf_spec_hkNeighbours rfl rfl rfl ?_
      refine L0 rfl rfl (Y0_lenM (c := c25) (xs := y12) Tryz.underlying38 rfl (by kernel_rfl)) ?_
      exact XE
     obtain ⟨o16, hLo16, h⟩ := of_bind h
     refine V_toK (mb 46 115298) [176, 48, 104] (s1 := ⟨.bot :: I p2 :: bt 3 (.ow 104 :: .ow 48 :: .bot :: .bot :: .ow 176 :: bt 4 (.ow 104 :: I ((y3.length : Int)) :: I t4 :: bt 29 [])), [(176, .arr 3 1 (o16.map c3)), (48, .arr 51 1 (l5.map c51)), (104, .arr 25 3 (y3.map c25))]⟩) ?_ ?_
     ·clear h
      refine V_block (V_loop (fun n s => ∃ (t13 : Int) (l14 : List Int), s.keep (mb 46 234996322) [200, 176, 48, 104] = (⟨.bot :: I p2 :: bt 3 (.ow 104 :: .ow 48 :: .bot :: .bot :: .ow 176 :: bt 4 (.ow 104 :: I ((y3.length : Int)) :: I t4 :: bt 8 (.ow 200 :: I ((y12.length : Int)) :: I t13 :: bt 18 []))), [(200, .arr 25 3 (y12.map c25)), (176, .arr 3 1 (l14.map c3)), (48, .arr 51 1 (l5.map c51)), (104, .arr 25 3 (y3.map c25))]⟩ : St) ∧ r_spec_hkMatrix_L15 l5 p2 t4 y12 y3 n t13 l14 = some o16) FU ⟨_, _,  by rfl, hLo16⟩ ?_)
      clear hLo16
      rintro n s ⟨t13, l14, hs, h⟩
      refine V_keep _ _ hs ?_
      clear hs
      cases n with
      | zero => cases h
      | succ n =>
       rw [r_spec_hkMatrix_L15] at h
       refine V_e (mb 46 503431778) [200, 176, 48, 104] (s1 := ⟨.bot :: I p2 :: bt 3 (.ow 104 :: .ow 48 :: .bot :: .bot :: .ow 176 :: bt 4 (.ow 104 :: I ((y3.length : Int)) :: I t4 :: bt 8 (.ow 200 :: I ((y12.length : Int)) :: I t13 :: Bo (ltI t13 ((y12.length : Int))) :: bt 17 []))), [(200, .arr 25 3 (y12.map c25)), (176, .arr 3 1 (l14.map c3)), (48, .arr 51 1 (l5.map c51)), (104, .arr 25 3 (y3.map c25))]⟩) ?_
       refine V_seq ?_
       refine V_cond rfl (fun hc17 => ?_) (fun hc17 => ?_)
       ·have h := of_true h hc17
        refine V_skip ?_
        show V _ _ _ _
        refine V_seq ?_
        refine V_block ?_
        obtain ⟨e18, he18, h⟩ := of_bind h
        obtain ⟨e19, he19, h⟩ := of_bind h
        refine V_sreg (mb 46 234998370) [88, 200, 176, 48, 104] (s1 := ⟨.bot :: I p2 :: bt 3 (.ow 104 :: .ow 48 :: .bot :: .bot :: .ow 176 :: .bot :: .pt 88 0 :: .bot :: .bot :: .ow 104 :: I ((y3.length : Int)) :: I t4 :: bt 8 (.ow 200 :: I ((y12.length : Int)) :: I t13 :: bt 18 [])), [(88, .box [Ti e19.1, Ti e19.2.1, Ti e19.2.2]), (200, .arr 25 3 (y12.map c25)), (176, .arr 3 1 (l14.map c3)), (48, .arr 51 1 (l5.map c51)), (104, .arr 25 3 (y3.map c25))]⟩) ?_ ?_
        ·refine L0 rfl rfl (Y0_idxoM (c := c25) (xs := y12) (v := e18) (id := 200) (T := 25) (sz := 3) (n := t13) Tryz.underlying38 sz25 rfl (by kernel_rfl) (by kernel_rfl) (by kernel_rfl) he18) ?_
         refine L0 rfl rfl (E_loadon (c := c25) (xs := y12) (v := e19) (id := 200) (sz := 3) (T := 25) (off := 0) (n := t13) [Ti e19.1, Ti e19.2.1, Ti e19.2.2] wd25 rfl (by kernel_rfl) (by kernel_rfl) he19 (Nat.le_of_ble_eq_true rfl) (by kernel_rfl)) ?_
         exact XE
        obtain ⟨y20, hy20, h⟩ := of_bind h
        obtain ⟨e21, he21, h⟩ := of_bind h
        obtain ⟨e22, he22, h⟩ := of_bind h
        obtain ⟨e23, he23, h⟩ := of_bind h
        obtain ⟨e24, he24, h⟩ := of_bind h
        refine V_reg (mb 46 234996322) [200, 176, 48, 104] (s1 := ⟨.bot :: I p2 :: bt 3 (.ow 104 :: .ow 48 :: .bot :: .bot :: .ow 176 :: bt 4 (.ow 104 :: I ((y3.length : Int)) :: I t4 :: bt 8 (.ow 200 :: I ((y12.length : Int)) :: I t13 :: bt 18 []))), [(200, .arr 25 3 (y12.map c25)), (176, .arr 3 1 ((l14.set (Int.toNat (y20)) (w64 (e22 + 1))).map c3)), (48, .arr 51 1 (l5.map c51)), (104, .arr 25 3 (y3.map c25))]⟩) ?_ ?_
        ·refine XR 3 ?_
         refine L1 rfl rfl (Y1_callS (s_spec_grIndex hy20) cf_spec_grIndex rfl (by kernel_rfl) rfl rfl) ?_
         refine L0 rfl rfl (Y0_idxoM (c := c3) (xs := l14) (v := e21) (id := 176) (T := 3) (sz := 1) (n := y20) Tryz.underlying51 sz3 rfl (by kernel_rfl) (by kernel_rfl) (by kernel_rfl) he21) ?_
         refine L0 rfl rfl (Y0_loado1 (c := c3) (xs := l14) (v := e22) (id := 176) (sz := 1) (T := 3) (off := 0) (n := y20) (d := Ti e22) (ds := []) sc3 rfl (by kernel_rfl) (by kernel_rfl) he22 (by kernel_rfl)) ?_
         refine XR 1 ?_
         refine L0 rfl rfl (Y0_idxoM (c := c3) (xs := l14) (v := e23) (id := 176) (T := 3) (sz := 1) (n := y20) Tryz.underlying51 sz3 rfl (by kernel_rfl) (by kernel_rfl) (by kernel_rfl) he23) ?_
         refine XL_cons rfl (X_storeoM (c := c3) (xs := l14) (v := e24) (u := w64 (e22 + 1)) (id := 176) (sz := 1) (off := 0) (T0 := 3) (n := y20) (vc := [Ti (w64 (e22 + 1))]) rfl rfl (by kernel_rfl) (by kernel_rfl) he24 (by kernel_rfl) sz3 (Nat.le_of_ble_eq_true rfl) (by kernel_rfl)) ?_
         exact XE
        show V _ _ _ _
        obtain ⟨t25, ht25, h⟩ := of_sI h
        refine V_reg (mb 46 234996322) [200, 176, 48, 104] (s1 := ⟨.bot :: I p2 :: bt 3 (.ow 104 :: .ow 48 :: .bot :: .bot :: .ow 176 :: bt 4 (.ow 104 :: I ((y3.length : Int)) :: I t4 :: bt 8 (.ow 200 :: I ((y12.length : Int)) :: I t25 :: bt 18 []))), [(200, .arr 25 3 (y12.map c25)), (176, .arr 3 1 ((l14.set (Int.toNat (y20)) (w64 (e22 + 1))).map c3)), (48, .arr 51 1 (l5.map c51)), (104, .arr 25 3 (y3.map c25))]⟩) ?_ ?_
        ·refine XR 2 ?_
         refine XL_nil ?_
         subst ht25
         kernel_rfl
        exact ⟨n, Nat.lt_succ_self n, _, _,  by rfl, h⟩
       ·have h := of_false h hc17
        refine V_exit ?_
        obtain rfl := some_inj h
        show St.keep _ _ _ = _
        rfl
     show V _ _ _ _
     obtain ⟨u26, hu26, h⟩ := of_bind h
     refine V_reg (mb 46 114786) [48, 104] (s1 := ⟨.bot :: I p2 :: bt 3 (.ow 104 :: .ow 48 :: bt 7 (.ow 104 :: I ((y3.length : Int)) :: I t4 :: bt 29 [])), [(48, .arr 51 1 ((l5 ++ ([o16])).map c51)), (104, .arr 25 3 (y3.map c25))]⟩) ?_ ?_
     ·refine XR 2 ?_
      refine XL_freeze 176 (T := 3) (sz := 1) (els := o16.map c3) (s1 := ⟨.bot :: I p2 :: bt 3 (.ow 104 :: .ow 48 :: .bot :: .bot :: .c (.sl (o16.map c3)) :: bt 4 (.ow 104 :: I ((y3.length : Int)) :: I t4 :: bt 23 (.ow 48 :: .c (.sl (o16.map c3)) :: bt 4 []))), [(48, .arr 51 1 (l5.map c51)), (104, .arr 25 3 (y3.map c25))]⟩) (by kernel_rfl) (by kernel_rfl) ?_
      refine L1 rfl rfl (Y1_bslice (z := zv51) (els := [o16].map c51) Tryz.underlying45 iz51 rfl (by decide) rfl (by kernel_rfl) rfl (by simp [c51]) (by decide) (by decide)) ?_
      refine XL_cons rfl (X_appendM (c := c51) (xs := l5) (ys := [o16]) (id := 48) (z := zv51) rfl rfl Tryz.underlying45 izb51 rfl (by kernel_rfl) (by kernel_rfl) (by kernel_rfl) (fun _ => rfl) (by simp) (room_some hu26) (by decide)) ?_
      exact XE
     show V _ _ _ _
     obtain ⟨t27, ht27, h⟩ := of_sI h
     refine V_reg (mb 46 114786) [48, 104] (s1 := ⟨.bot :: I p2 :: bt 3 (.ow 104 :: .ow 48 :: bt 7 (.ow 104 :: I ((y3.length : Int)) :: I t27 :: bt 29 [])), [(48, .arr 51 1 ((l5 ++ ([o16])).map c51)), (104, .arr 25 3 (y3.map c25))]⟩) ?_ ?_
     ·refine XR 2 ?_
      refine XL_nil ?_
      subst ht27
      kernel_rfl
     exact ⟨n, Nat.lt_succ_self n, _, _,  by rfl, h⟩
    ·have h := of_false h hc8
     refine V_exit ?_
     obtain rfl := some_inj h
     show St.keep _ _ _ = _
     rfl
  show V _ _ _ _
  refine V_e (mb 46 16) [48] (s1 := ⟨bt 4 (.ow 48 :: bt 41 []), [(48, .arr 51 1 (o7.map c51))]⟩) ?_
  refine V_ret ?_
  obtain rfl := some_inj h
  show Post _ _ _ _ _
  exact ⟨.inr rfl, rfl, rfl, rfl⟩
theorem cf_spec_NeighbourMatrix : ∀ args w, (callFunc 21 args).run Tryz.prog w = .ok (.enter 21 args) w := run_callFunc Tryz.func21 (by kernel_rfl) (by kernel_rfl)
theorem s_spec_NeighbourMatrix {d1 : Int} {p2 : Int} {r : ((List (List Int)) × Bool)} (h : r_spec_NeighbourMatrix d1 p2 = some r) : CallS Tryz.prog 21 [I d1, I p2] (.tc (.ow 0) (.tc (Bo r.2) .tn)) [(0, .arr 51 1 (r.1.map c51))] := by
  refine CallS_of_text (rs := [.t 4, .t 5]) (vs := [.tmp 4, .tmp 5]) Tryz.func21 rfl rfl (.cons rfl (.cons rfl FitsL.nil)) (by decide) 17 rfl ?_
  unfold r_spec_NeighbourMatrix at h
  show V _ _ ⟨I d1 :: I p2 :: bt 15 [], []⟩ _
  refine V_sreg (mb 17 3) [] (s1 := ⟨I d1 :: I p2 :: bt 15 [], []⟩) ?_ ?_
  ·refine L1 rfl rfl (Y1_nil (e := 51) 1 (by decide) (.inl rfl)) ?_
   exact XE
  refine V_seq ?_
  obtain ⟨y3, hy3, h⟩ := of_bind h
  obtain ⟨b6, hb6, h⟩ := of_bind h
  refine V_sreg (mb 17 8195) [] (s1 := ⟨I d1 :: I p2 :: bt 11 (Bo b6 :: bt 3 []), []⟩) ?_ ?_
  ·refine XR 1 ?_
   refine XC (s_spec_reDisc hy3) cf_spec_reDisc rfl rfl rfl ?_
   refine XR 2 ?_
   refine XL_split (!y3) (fun hc4 => ?_) (fun hc4 => ?_)
   ·have hb6 := some_inj (of_true hb6 hc4)
    refine XL_skipF _ rfl rfl (by kernel_rfl) hc4 rfl ?_
    refine XL_skipF _ rfl rfl (by kernel_rfl) hc4 rfl ?_
    refine XL_skipF _ rfl rfl (by kernel_rfl) hc4 rfl ?_
    refine XL_cons rfl (X_of_Y0 rfl (Y0_pickTe (b := !y3) (p := true) rfl (by kernel_rfl) hc4 (by kernel_rfl) hb6)) ?_
    exact XE
   ·have hb6 := of_false hb6 hc4
    obtain ⟨y5, hy5, hb6⟩ := of_bind hb6
    have hb6 := some_inj hb6
    refine XL_takeC _ rfl rfl (by kernel_rfl) hc4 (X_of_Y0 rfl (E_move (I p2) rfl (by kernel_rfl))) ?_
    refine XL_takeC _ rfl rfl (by kernel_rfl) hc4 (X_of_Y1 rfl (Y1_call (s_spec_hkPrime hy5) cf_spec_hkPrime rfl (by kernel_rfl))) ?_
    refine XL_takeC _ rfl rfl (by kernel_rfl) hc4 (X_of_Y0 rfl (Y0_not (b := y5) rfl (by kernel_rfl))) ?_
    refine XL_cons rfl (X_of_Y0 rfl (Y0_pickFe (b := !y3) (p := !y5) rfl (by kernel_rfl) hc4 (by kernel_rfl) hb6)) ?_
    exact XE
  refine V_cond rfl (fun hc7 => ?_) (fun hc7 => ?_)
  ·have h := of_true h hc7
   refine V_sreg (mb 17 48) [32] (s1 := ⟨bt 4 (.ow 32 :: Bo false :: bt 11 []), [(32, .arr 51 1 ((([] : List (List Int))).map c51))]⟩) ?_ ?_
   ·refine L1 rfl rfl (Y1_nil (e := 51) 1 (by decide) (.inl rfl)) ?_
    exact XE
   refine V_ret ?_
   obtain rfl := some_inj h
   show Post _ _ _ _ _
   exact ⟨.inr rfl, rfl, rfl, rfl⟩
  ·have h := of_false h hc7
   refine V_skip ?_
   show V _ _ _ _
   obtain ⟨y8, hy8, h⟩ := of_bind h
   refine V_sreg (mb 17 48) [128] (s1 := ⟨bt 4 (.ow 128 :: Bo true :: bt 11 []), [(128, .arr 51 1 (y8.map c51))]⟩) ?_ ?_
   ·refine XR 2 ?_
    refine XC (s_spec_hkMatrix hy8) cf_spec_hkMatrix rfl rfl rfl ?_
    exact XE
   refine V_ret ?_
   obtain rfl := some_inj h
   show Post _ _ _ _ _
   exact ⟨.inr rfl, rfl, rfl, rfl⟩
theorem cf_laws_sameInts : ∀ args w, (callFunc 48 args).run Tryz.prog w = .ok (.enter 48 args) w := run_callFunc Tryz.func48 (by kernel_rfl) (by kernel_rfl)
theorem s_laws_sameInts {a1 : List Int} {b2 : List Int} {r : Bool} (h : r_laws_sameInts a1 b2 = some r) : CallS Tryz.prog 48 [.c (.sl (a1.map c3)), .c (.sl (b2.map c3))] (Bo r) [] := by
  refine CallS_of_text (rs := [.t 4]) (vs := [.tmp 4]) Tryz.func48 rfl rfl (.cons rfl FitsL.nil) (by decide) 26 rfl ?_
  unfold r_laws_sameInts at h
  show V _ _ ⟨.c (.sl (a1.map c3)) :: .c (.sl (b2.map c3)) :: bt 24 [], []⟩ _
  refine V_e (mb 26 3) [] (s1 := ⟨.c (.sl (a1.map c3)) :: .c (.sl (b2.map c3)) :: bt 24 [], []⟩) ?_
  refine V_seq ?_
  refine V_sreg (mb 26 1027) [] (s1 := ⟨.c (.sl (a1.map c3)) :: .c (.sl (b2.map c3)) :: bt 8 (Bo (!eqI ((a1.length : Int)) ((b2.length : Int))) :: bt 15 []), []⟩) ?_ ?_
  ·refine XR 1 ?_
   refine L0 rfl rfl (Y0_lenM (c := c3) (xs := a1) Tryz.underlying51 rfl (by kernel_rfl)) ?_
   refine XR 1 ?_
   refine L0 rfl rfl (Y0_lenM (c := c3) (xs := b2) Tryz.underlying51 rfl (by kernel_rfl)) ?_
   exact XE
  refine V_cond rfl (fun hc3 => ?_) (fun hc3 => ?_)
  ·have h := of_true h hc3
   refine V_e (mb 26 16) [] (s1 := ⟨bt 4 (Bo false :: bt 21 []), []⟩) ?_
   refine V_ret ?_
   obtain rfl := some_inj h
   show Post _ _ _ _ _
   exact ⟨.inr rfl, rfl, rfl, rfl⟩
  ·have h := of_false h hc3
   refine V_skip ?_
   show V _ _ _ _
   refine V_seq ?_
   refine V_sreg (mb 26 12291) [] (s1 := ⟨.c (.sl (a1.map c3)) :: .c (.sl (b2.map c3)) :: bt 10 (I ((a1.length : Int)) :: I 0 :: bt 12 []), []⟩) ?_ ?_
   ·refine XR 1 ?_
    refine L0 rfl rfl (Y0_lenM (c := c3) (xs := a1) Tryz.underlying51 rfl (by kernel_rfl)) ?_
    exact XE
   obtain ⟨qo6, hLo6, hko6⟩ := of_bind h
   refine V_toS (q := qo6) (S := fun o6 => ⟨bt 26 [], []⟩) (mb 26 0) [] ?_ ?_
   ·refine V_block (V_loop (fun n s => ∃ (t4 : Int), s.keep (mb 26 12291) [] = (⟨.c (.sl (a1.map c3)) :: .c (.sl (b2.map c3)) :: bt 10 (I ((a1.length : Int)) :: I t4 :: bt 12 []), []⟩ : St) ∧ r_laws_sameInts_L5 a1 b2 n t4 = some qo6) FU ⟨_,  by rfl, hLo6⟩ ?_)
    clear hLo6
    rintro n s ⟨t4, hs, h⟩
    refine V_keep _ _ hs ?_
    clear hs
    cases n with
    | zero => cases h
    | succ n =>
     rw [r_laws_sameInts_L5] at h
     refine V_e (mb 26 28675) [] (s1 := ⟨.c (.sl (a1.map c3)) :: .c (.sl (b2.map c3)) :: bt 10 (I ((a1.length : Int)) :: I t4 :: Bo (ltI t4 ((a1.length : Int))) :: bt 11 []), []⟩) ?_
     refine V_seq ?_
     refine V_cond rfl (fun hc7 => ?_) (fun hc7 => ?_)
     ·have h := of_true h hc7
      refine V_skip ?_
      show V _ _ _ _
      refine V_seq ?_
      refine V_block ?_
      refine V_e (mb 26 12323) [] (s1 := ⟨.c (.sl (a1.map c3)) :: .c (.sl (b2.map c3)) :: bt 3 (I t4 :: bt 6 (I ((a1.length : Int)) :: I t4 :: bt 12 [])), []⟩) ?_
      obtain ⟨e8, he8, h⟩ := of_bind h
      obtain ⟨e9, he9, h⟩ := of_bind h
      refine V_sdreg [0, 0, 3, 7, 0, 0, 48, 112, 255] 9 (cdm 9 [43528, 43522, 43525, 43541, 2218, 682, 1450, 5546, 21845]) (mb 26 16789507) [] (s1 := ⟨.c (.sl (a1.map c3)) :: .c (.sl (b2.map c3)) :: bt 10 (I ((a1.length : Int)) :: I t4 :: bt 10 (Bo (!eqI e8 e9) :: .bot :: [])), []⟩) (by kernel_rfl) (by kernel_rfl) ?_ ?_
      ·refine DR 2 ?_
       refine DE_0 2 (.pe [Ti e8]) (by kernel_rfl) rfl rfl rfl (gsat_none rfl) (by kernel_rfl) (Y0_idxM (c := c3) (xs := a1) (v := e8) (n := t4) Tryz.underlying51 sz3 rfl (by kernel_rfl) (by kernel_rfl) he8) 18 rfl ?_
       refine DR 3 ?_
       refine DE_0 6 (.pe [Ti e9]) (by kernel_rfl) rfl rfl rfl (gsat_none rfl) (by kernel_rfl) (Y0_idxM (c := c3) (xs := b2) (v := e9) (n := t4) Tryz.underlying51 sz3 rfl (by kernel_rfl) (by kernel_rfl) he9) 22 rfl ?_
       refine DA 2 ?_
       exact XE
      refine V_cond rfl (fun hc10 => ?_) (fun hc10 => ?_)
      ·have h := of_true h hc10
       refine V_e (mb 26 16) [] (s1 := ⟨bt 4 (Bo false :: bt 21 []), []⟩) ?_
       refine V_ret ?_
       obtain rfl := some_inj h
       have h := hko6
       obtain rfl := some_inj h
       show Post _ _ _ _ _
       exact ⟨.inr rfl, rfl, rfl, rfl⟩
      ·have h := of_false h hc10
       refine V_skip ?_
       show V _ _ _ _
       obtain ⟨t11, ht11, h⟩ := of_sI h
       refine V_reg (mb 26 12291) [] (s1 := ⟨.c (.sl (a1.map c3)) :: .c (.sl (b2.map c3)) :: bt 10 (I ((a1.length : Int)) :: I t11 :: bt 12 []), []⟩) ?_ ?_
       ·refine XR 2 ?_
        refine XL_nil ?_
        subst ht11
        kernel_rfl
       exact ⟨n, Nat.lt_succ_self n, _,  by rfl, h⟩
     ·have h := of_false h hc7
      refine V_exit ?_
      obtain rfl := some_inj h
      exact ⟨_, rfl, by rfl⟩
   rintro o6 rfl
   have h := hko6
   clear hko6
   show V _ _ _ _
   refine V_e (mb 26 16) [] (s1 := ⟨bt 4 (Bo true :: bt 21 []), []⟩) ?_
   refine V_ret ?_
   obtain rfl := some_inj h
   show Post _ _ _ _ _
   exact ⟨.inr rfl, rfl, rfl, rfl⟩
theorem cf_laws_sameLists : ∀ args w, (callFunc 22 args).run Tryz.prog w = .ok (.enter 22 args) w := run_callFunc Tryz.func22 (by kernel_rfl) (by kernel_rfl)
theorem s_laws_sameLists {a1 : List (List Int)} {b2 : List (List Int)} {r : Bool} (h : r_laws_sameLists a1 b2 = some r) : CallS Tryz.prog 22 [.c (.sl (a1.map c51)), .c (.sl (b2.map c51))] (Bo r) [] := by
  refine CallS_of_text (rs := [.t 4]) (vs := [.tmp 4]) Tryz.func22 rfl rfl (.cons rfl FitsL.nil) (by decide) 27 rfl ?_
  unfold r_laws_sameLists at h
  show V _ _ ⟨.c (.sl (a1.map c51)) :: .c (.sl (b2.map c51)) :: bt 25 [], []⟩ _
  refine V_e (mb 27 3) [] (s1 := ⟨.c (.sl (a1.map c51)) :: .c (.sl (b2.map c51)) :: bt 25 [], []⟩) ?_
  refine V_seq ?_
  refine V_sreg (mb 27 1027) [] (s1 := ⟨.c (.sl (a1.map c51)) :: .c (.sl (b2.map c51)) :: bt 8 (Bo (!eqI ((a1.length : Int)) ((b2.length : Int))) :: bt 16 []), []⟩) ?_ ?_
  ·refine XR 1 ?_
   refine L0 rfl rfl (Y0_lenM (c := c51) (xs := a1) Tryz.underlying45 rfl (by kernel_rfl)) ?_
   refine XR 1 ?_
   refine L0 rfl rfl (Y0_lenM (c := c51) (xs := b2) Tryz.underlying45 rfl (by kernel_rfl)) ?_
   exact XE
  refine V_cond rfl (fun hc3 => ?_) (fun hc3 => ?_)
  ·have h := of_true h hc3
   refine V_e (mb 27 16) [] (s1 := ⟨bt 4 (Bo false :: bt 22 []), []⟩) ?_
   refine V_ret ?_
   obtain rfl := some_inj h
   show Post _ _ _ _ _
   exact ⟨.inr rfl, rfl, rfl, rfl⟩
  ·have h := of_false h hc3
   refine V_skip ?_
   show V _ _ _ _
   refine V_seq ?_
   refine V_sreg (mb 27 12291) [] (s1 := ⟨.c (.sl (a1.map c51)) :: .c (.sl (b2.map c51)) :: bt 10 (I ((a1.length : Int)) :: I 0 :: bt 13 []), []⟩) ?_ ?_
   ·refine XR 1 ?_
    refine L0 rfl rfl (Y0_lenM (c := c51) (xs := a1) Tryz.underlying45 rfl (by kernel_rfl)) ?_
    exact XE
   obtain ⟨qo6, hLo6, hko6⟩ := of_bind h
   refine V_toS (q := qo6) (S := fun o6 => ⟨bt 27 [], []⟩) (mb 27 0) [] ?_ ?_
   ·refine V_block (V_loop (fun n s => ∃ (t4 : Int), s.keep (mb 27 12291) [] = (⟨.c (.sl (a1.map c51)) :: .c (.sl (b2.map c51)) :: bt 10 (I ((a1.length : Int)) :: I t4 :: bt 13 []), []⟩ : St) ∧ r_laws_sameLists_L5 a1 b2 n t4 = some qo6) FU ⟨_,  by rfl, hLo6⟩ ?_)
    clear hLo6
    rintro n s ⟨t4, hs, h⟩
    refine V_keep _ _ hs ?_
    clear hs
    cases n with
    | zero => cases h
    | succ n =>
     rw [r_laws_sameLists_L5] at h
     refine V_e (mb 27 28675) [] (s1 := ⟨.c (.sl (a1.map c51)) :: .c (.sl (b2.map c51)) :: bt 10 (I ((a1.length : Int)) :: I t4 :: Bo (ltI t4 ((a1.length : Int))) :: bt 12 []), []⟩) ?_
     refine V_seq ?_
     refine V_cond rfl (fun hc7 => ?_) (fun hc7 => ?_)
     ·have h := of_true h hc7
      refine V_skip ?_
      show V _ _ _ _
      refine V_seq ?_
      refine V_block ?_
      refine V_e (mb 27 12323) [] (s1 := ⟨.c (.sl (a1.map c51)) :: .c (.sl (b2.map c51)) :: bt 3 (I t4 :: bt 6 (I ((a1.length : Int)) :: I t4 :: bt 13 [])), []⟩) ?_
      obtain ⟨e8, he8, h⟩ := of_bind h
      obtain ⟨e9, he9, h⟩ := of_bind h
      obtain ⟨y10, hy10, h⟩ := of_bind h
      refine V_sdreg [0, 0, 3, 7, 0, 0, 48, 112, 255, 511] 10 (cdm 10 [43528, 43522, 43525, 43541, 2218, 682, 1450, 5546, 21845, 87381]) (mb 27 33566723) [] (s1 := ⟨.c (.sl (a1.map c51)) :: .c (.sl (b2.map c51)) :: bt 10 (I ((a1.length : Int)) :: I t4 :: bt 11 (Bo (!y10) :: .bot :: [])), []⟩) (by kernel_rfl) (by kernel_rfl) ?_ ?_
      ·refine DR 2 ?_
       refine DE_0 2 (.pe [.sl (e8.map c3)]) (by kernel_rfl) rfl rfl rfl (gsat_none rfl) (by kernel_rfl) (Y0_idxM (c := c51) (xs := a1) (v := e8) (n := t4) Tryz.underlying45 sz51 rfl (by kernel_rfl) (by kernel_rfl) he8) 18 rfl ?_
       refine DR 3 ?_
       refine DE_0 6 (.pe [.sl (e9.map c3)]) (by kernel_rfl) rfl rfl rfl (gsat_none rfl) (by kernel_rfl) (Y0_idxM (c := c51) (xs := b2) (v := e9) (n := t4) Tryz.underlying45 sz51 rfl (by kernel_rfl) (by kernel_rfl) he9) 22 rfl ?_
       refine DR 1 ?_
       refine DC 8 (s_laws_sameInts hy10) cf_laws_sameInts rfl rfl rfl rfl 24 rfl ?_
       refine DA 1 ?_
       exact XE
      refine V_cond rfl (fun hc11 => ?_) (fun hc11 => ?_)
      ·have h := of_true h hc11
       refine V_e (mb 27 16) [] (s1 := ⟨bt 4 (Bo false :: bt 22 []), []⟩) ?_
       refine V_ret ?_
       obtain rfl := some_inj h
       have h := hko6
       obtain rfl := some_inj h
       show Post _ _ _ _ _
       exact ⟨.inr rfl, rfl, rfl, rfl⟩
      ·have h := of_false h hc11
       refine V_skip ?_
       show V _ _ _ _
       obtain ⟨t12, ht12, h⟩ := of_sI h
       refine V_reg (mb 27 12291) [] (s1 := ⟨.c (.sl (a1.map c51)) :: .c (.sl (b2.map c51)) :: bt 10 (I ((a1.length : Int)) :: I t12 :: bt 13 []), []⟩) ?_ ?_
       ·refine XR 2 ?_
        refine XL_nil ?_
        subst ht12
        kernel_rfl
       exact ⟨n, Nat.lt_succ_self n, _,  by rfl, h⟩
     ·have h := of_false h hc7
      refine V_exit ?_
      obtain rfl := some_inj h
      exact ⟨_, rfl, by rfl⟩
   rintro o6 rfl
   have h := hko6
   clear hko6
   show V _ _ _ _
   refine V_e (mb 27 16) [] (s1 := ⟨bt 4 (Bo true :: bt 22 []), []⟩) ?_
   refine V_ret ?_
   obtain rfl := some_inj h
   show Post _ _ _ _ _
   exact ⟨.inr rfl, rfl, rfl, rfl⟩
theorem cf_impl_areNumbers : ∀ args w, (callFunc 93 args).run Tryz.prog w = .ok (.enter 93 args) w := run_callFunc Tryz.func93 (by kernel_rfl) (by kernel_rfl)
theorem s_impl_areNumbers {list1 : List Int} {r : Bool} (h : r_impl_areNumbers list1 = some r) : CallS Tryz.prog 93 [.c (.sl (list1.map c3))] (Bo r) [] := by
  refine CallS_of_text (rs := [.t 2]) (vs := [.tmp 2]) Tryz.func93 rfl rfl (.cons rfl FitsL.nil) (by decide) 18 rfl ?_
  unfold r_impl_areNumbers at h
  show V _ _ ⟨.c (.sl (list1.map c3)) :: bt 17 [], []⟩ _
  refine V_e (mb 18 1) [] (s1 := ⟨.c (.sl (list1.map c3)) :: bt 17 [], []⟩) ?_
  refine V_seq ?_
  refine V_sreg (mb 18 224) [] (s1 := ⟨bt 5 (.c (.sl (list1.map c3)) :: I ((list1.length : Int)) :: I 0 :: bt 10 []), []⟩) ?_ ?_
  ·refine XR 1 ?_
   refine L0 rfl rfl (Y0_lenM (c := c3) (xs := list1) Tryz.underlying51 rfl (by kernel_rfl)) ?_
   exact XE
  obtain ⟨qo4, hLo4, hko4⟩ := of_bind h
  refine V_toS (q := qo4) (S := fun o4 => ⟨bt 18 [], []⟩) (mb 18 0) [] ?_ ?_
  ·refine V_block (V_loop (fun n s => ∃ (t2 : Int), s.keep (mb 18 224) [] = (⟨bt 5 (.c (.sl (list1.map c3)) :: I ((list1.length : Int)) :: I t2 :: bt 10 []), []⟩ : St) ∧ r_impl_areNumbers_L3 list1 n t2 = some qo4) FU ⟨_,  by rfl, hLo4⟩ ?_)
   clear hLo4
   rintro n s ⟨t2, hs, h⟩
   refine V_keep _ _ hs ?_
   clear hs
   cases n with
   | zero => cases h
   | succ n =>
    rw [r_impl_areNumbers_L3] at h
    refine V_e (mb 18 480) [] (s1 := ⟨bt 5 (.c (.sl (list1.map c3)) :: I ((list1.length : Int)) :: I t2 :: Bo (ltI t2 ((list1.length : Int))) :: bt 9 []), []⟩) ?_
    refine V_seq ?_
    refine V_cond rfl (fun hc5 => ?_) (fun hc5 => ?_)
    ·have h := of_true h hc5
     refine V_skip ?_
     show V _ _ _ _
     refine V_seq ?_
     refine V_block ?_
     obtain ⟨e6, he6, h⟩ := of_bind h
     refine V_sreg (mb 18 240) [] (s1 := ⟨bt 4 (I e6 :: .c (.sl (list1.map c3)) :: I ((list1.length : Int)) :: I t2 :: bt 10 []), []⟩) ?_ ?_
     ·refine L0 rfl rfl (Y0_idxM (c := c3) (xs := list1) (v := e6) (n := t2) Tryz.underlying51 sz3 rfl (by kernel_rfl) (by kernel_rfl) he6) ?_
      exact XE
     refine V_sreg (mb 18 65760) [] (s1 := ⟨bt 5 (.c (.sl (list1.map c3)) :: I ((list1.length : Int)) :: I t2 :: bt 8 (Bo (bif (ltI e6 (-1000000)) then true else (ltI 1000000 e6)) :: .bot :: [])), []⟩) ?_ ?_
     ·refine XR 3 ?_
      refine XL_split (ltI e6 (-1000000)) (fun hc7 => ?_) (fun hc7 => ?_)
      ·refine XL_skipF _ rfl rfl (by kernel_rfl) hc7 rfl ?_
       refine XL_skipF _ rfl rfl (by kernel_rfl) hc7 rfl ?_
       refine XL_cons rfl (X_of_Y0 rfl (Y0_pick1 (b := ltI e6 (-1000000)) (p := true) (q := ltI 1000000 e6) rfl (by kernel_rfl) hc7 (by kernel_rfl))) ?_
       exact XE
      ·refine XL_takeC _ rfl rfl (by kernel_rfl) hc7 (X_of_Y0 rfl (E_move (I e6) rfl (by kernel_rfl))) ?_
       refine XL_takeC _ rfl rfl (by kernel_rfl) hc7 (X_of_Y0 rfl (Y0_gtw (k := .i64) (a := e6) (b := 1000000) rfl (by kernel_rfl) (by kernel_rfl))) ?_
       refine XL_cons rfl (X_of_Y0 rfl (Y0_pick0 (b := ltI e6 (-1000000)) (p := true) (q := ltI 1000000 e6) rfl (by kernel_rfl) hc7 (by kernel_rfl))) ?_
       exact XE
     refine V_cond rfl (fun hc8 => ?_) (fun hc8 => ?_)
     ·have h := of_true h hc8
      refine V_e (mb 18 4) [] (s1 := ⟨.bot :: .bot :: Bo false :: bt 15 [], []⟩) ?_
      refine V_ret ?_
      obtain rfl := some_inj h
      have h := hko4
      obtain rfl := some_inj h
      show Post _ _ _ _ _
      exact ⟨.inr rfl, rfl, rfl, rfl⟩
     ·have h := of_false h hc8
      refine V_skip ?_
      show V _ _ _ _
      obtain ⟨t9, ht9, h⟩ := of_sI h
      refine V_reg (mb 18 224) [] (s1 := ⟨bt 5 (.c (.sl (list1.map c3)) :: I ((list1.length : Int)) :: I t9 :: bt 10 []), []⟩) ?_ ?_
      ·refine XR 2 ?_
       refine XL_nil ?_
       subst ht9
       kernel_rfl
      exact ⟨n, Nat.lt_succ_self n, _,  by rfl, h⟩
    ·have h := of_false h hc5
     refine V_exit ?_
     obtain rfl := some_inj h
     exact ⟨_, rfl, by rfl⟩
  rintro o4 rfl
  have h := hko4
  clear hko4
  show V _ _ _ _
  refine V_e (mb 18 4) [] (s1 := ⟨.bot :: .bot :: Bo true :: bt 15 [], []⟩) ?_
  refine V_ret ?_
  obtain rfl := some_inj h
  show Post _ _ _ _ _
  exact ⟨.inr rfl, rfl, rfl, rfl⟩
theorem cf_impl_root : ∀ args w, (callFunc 225 args).run Tryz.prog w = .ok (.enter 225 args) w := run_callFunc Tryz.func225 (by kernel_rfl) (by kernel_rfl)
theorem s_impl_root {vn1 : Int} {r : Int} (h : r_impl_root vn1 = some r) : CallS Tryz.prog 225 [I vn1] (I r) [] := by
  refine CallS_of_text (rs := [.t 2]) (vs := [.tmp 2]) Tryz.func225 rfl rfl (.cons rfl FitsL.nil) (by decide) 23 rfl ?_
  unfold r_impl_root at h
  show V _ _ ⟨I vn1 :: bt 22 [], []⟩ _
  refine V_e (mb 23 1) [] (s1 := ⟨I vn1 :: bt 22 [], []⟩) ?_
  refine V_e (mb 23 25) [] (s1 := ⟨I vn1 :: .bot :: .bot :: I 0 :: I 3000000000 :: bt 18 [], []⟩) ?_
  refine V_seq ?_
  obtain ⟨o5, hLo5, h⟩ := of_bind h
  refine V_toK (mb 23 8) [] (s1 := ⟨bt 3 (I o5 :: bt 19 []), []⟩) ?_ ?_
  ·clear h
   refine V_block (V_loop (fun n s => ∃ (low2 : Int) (high3 : Int), s.keep (mb 23 25) [] = (⟨I vn1 :: .bot :: .bot :: I low2 :: I high3 :: bt 18 [], []⟩ : St) ∧ r_impl_root_L4 vn1 n low2 high3 = some o5) FU ⟨_, _,  by rfl, hLo5⟩ ?_)
   clear hLo5
   rintro n s ⟨low2, high3, hs, h⟩
   refine V_keep _ _ hs ?_
   clear hs
   cases n with
   | zero => cases h
   | succ n =>
    rw [r_impl_root_L4] at h
    refine V_seq ?_
    refine V_e (mb 23 281) [] (s1 := ⟨I vn1 :: .bot :: .bot :: I low2 :: I high3 :: bt 3 (Bo (ltI low2 high3) :: bt 14 []), []⟩) ?_
    refine V_cond rfl (fun hc6 => ?_) (fun hc6 => ?_)
    ·have h := of_true h hc6
     refine V_skip ?_
     show V _ _ _ _
     refine V_block ?_
     obtain ⟨vm7, hvm7, h⟩ := of_sI h
     refine V_sreg (mb 23 57) [] (s1 := ⟨I vn1 :: .bot :: .bot :: I low2 :: I high3 :: I vm7 :: bt 17 [], []⟩) ?_ ?_
     ·refine XR 4 ?_
      refine L0 rfl rfl (Y0_quo64 (a := w64 ((w64 (low2 + high3)) + 1)) (b := 2) rfl (by kernel_rfl) (by kernel_rfl) (by decide)) ?_
      refine XR 1 ?_
      refine XL_nil ?_
      subst hvm7
      kernel_rfl
     refine V_e (mb 23 262201) [] (s1 := ⟨I vn1 :: .bot :: .bot :: I low2 :: I high3 :: I vm7 :: bt 12 (Bo (leI (w64 (vm7 * vm7)) vn1) :: bt 4 []), []⟩) ?_
     refine V_cond rfl (fun hc8 => ?_) (fun hc8 => ?_)
     ·have h := of_true h hc8
      refine V_reg (mb 23 25) [] (s1 := ⟨I vn1 :: .bot :: .bot :: I vm7 :: I high3 :: bt 18 [], []⟩) ?_ ?_
      ·exact XE
      exact ⟨n, Nat.lt_succ_self n, _, _,  by rfl, h⟩
     ·have h := of_false h hc8
      obtain ⟨high9, hhigh9, h⟩ := of_sI h
      refine V_reg (mb 23 25) [] (s1 := ⟨I vn1 :: .bot :: .bot :: I low2 :: I high9 :: bt 18 [], []⟩) ?_ ?_
      ·refine XR 3 ?_
       refine XL_nil ?_
       subst hhigh9
       kernel_rfl
      exact ⟨n, Nat.lt_succ_self n, _, _,  by rfl, h⟩
    ·have h := of_false h hc6
     refine V_exit ?_
     obtain rfl := some_inj h
     show St.keep _ _ _ = _
     rfl
  show V _ _ _ _
  refine V_e (mb 23 4) [] (s1 := ⟨.bot :: .bot :: I o5 :: bt 20 [], []⟩) ?_
  refine V_ret ?_
  obtain rfl := some_inj h
  show Post _ _ _ _ _
  exact ⟨.inr rfl, rfl, rfl, rfl⟩
theorem cf_impl_isSquare : ∀ args w, (callFunc 181 args).run Tryz.prog w = .ok (.enter 181 args) w := run_callFunc Tryz.func181 (by kernel_rfl) (by kernel_rfl)
theorem s_impl_isSquare {vn1 : Int} {r : Bool} (h : r_impl_isSquare vn1 = some r) : CallS Tryz.prog 181 [I vn1] (Bo r) [] := by
  refine CallS_of_text (rs := [.t 2]) (vs := [.tmp 2]) Tryz.func181 rfl rfl (.cons rfl FitsL.nil) (by decide) 14 rfl ?_
  unfold r_impl_isSquare at h
  show V _ _ ⟨I vn1 :: bt 13 [], []⟩ _
  refine V_e (mb 14 1) [] (s1 := ⟨I vn1 :: bt 13 [], []⟩) ?_
  obtain ⟨b5, hb5, h⟩ := of_bind h
  refine V_sreg (mb 14 4) [] (s1 := ⟨.bot :: .bot :: Bo b5 :: bt 11 [], []⟩) ?_ ?_
  ·refine XR 3 ?_
   refine XL_split (leI 0 vn1) (fun hc2 => ?_) (fun hc2 => ?_)
   ·have hb5 := of_true hb5 hc2
    obtain ⟨y3, hy3, hb5⟩ := of_bind hb5
    obtain ⟨y4, hy4, hb5⟩ := of_bind hb5
    have hb5 := some_inj hb5
    refine XL_takeC _ rfl rfl (by kernel_rfl) hc2 (X_of_Y0 rfl (E_move (I vn1) rfl (by kernel_rfl))) ?_
    refine XL_takeC _ rfl rfl (by kernel_rfl) hc2 (X_of_Y1 rfl (Y1_call (s_impl_root hy3) cf_impl_root rfl (by kernel_rfl))) ?_
    refine XL_takeC _ rfl rfl (by kernel_rfl) hc2 (X_of_Y0 rfl (E_move (I vn1) rfl (by kernel_rfl))) ?_
    refine XL_takeC _ rfl rfl (by kernel_rfl) hc2 (X_of_Y1 rfl (Y1_call (s_impl_root hy4) cf_impl_root rfl (by kernel_rfl))) ?_
    refine XL_takeC _ rfl rfl (by kernel_rfl) hc2 (X_of_Y0 rfl (Y0_mul64 (a := y3) (b := y4) rfl (by kernel_rfl) (by kernel_rfl))) ?_
    refine XL_takeC _ rfl rfl (by kernel_rfl) hc2 (X_of_Y0 rfl (E_move (I vn1) rfl (by kernel_rfl))) ?_
    refine XL_takeC _ rfl rfl (by kernel_rfl) hc2 (X_of_Y0 rfl (Y0_eqw (k := .i64) (a := w64 (y3 * y4)) (b := vn1) rfl (by kernel_rfl) (by kernel_rfl))) ?_
    refine XL_cons rfl (X_of_Y0 rfl (Y0_pickTe (b := leI 0 vn1) (p := eqI (w64 (y3 * y4)) vn1) rfl (by kernel_rfl) hc2 (by kernel_rfl) hb5)) ?_
    exact XE
   ·have hb5 := some_inj (of_false hb5 hc2)
    refine XL_skipT _ rfl rfl (by kernel_rfl) hc2 rfl ?_
    refine XL_skipT _ rfl rfl (by kernel_rfl) hc2 rfl ?_
    refine XL_skipT _ rfl rfl (by kernel_rfl) hc2 rfl ?_
    refine XL_skipT _ rfl rfl (by kernel_rfl) hc2 rfl ?_
    refine XL_skipT _ rfl rfl (by kernel_rfl) hc2 rfl ?_
    refine XL_skipT _ rfl rfl (by kernel_rfl) hc2 rfl ?_
    refine XL_skipT _ rfl rfl (by kernel_rfl) hc2 rfl ?_
    refine XL_cons rfl (X_of_Y0 rfl (Y0_pickFe (b := leI 0 vn1) (p := false) rfl (by kernel_rfl) hc2 (by kernel_rfl) hb5)) ?_
    exact XE
  refine V_ret ?_
  obtain rfl := some_inj h
  show Post _ _ _ _ _
  exact ⟨.inr rfl, rfl, rfl, rfl⟩
theorem cf_impl_isDiscriminant : ∀ args w, (callFunc 91 args).run Tryz.prog w = .ok (.enter 91 args) w := run_callFunc Tryz.func91 (by kernel_rfl) (by kernel_rfl)
theorem s_impl_isDiscriminant {d1 : Int} {r : Bool} (h : r_impl_isDiscriminant d1 = some r) : CallS Tryz.prog 91 [I d1] (Bo r) [] := by
  refine CallS_of_text (rs := [.t 2]) (vs := [.tmp 2]) Tryz.func91 rfl rfl (.cons rfl FitsL.nil) (by decide) 16 rfl ?_
  unfold r_impl_isDiscriminant at h
  show V _ _ ⟨I d1 :: bt 15 [], []⟩ _
  refine V_e (mb 16 1) [] (s1 := ⟨I d1 :: bt 15 [], []⟩) ?_
  obtain ⟨y2, hy2, h⟩ := of_bind h
  obtain ⟨b5, hb5, h⟩ := of_bind h
  obtain ⟨b8, hb8, h⟩ := of_bind h
  refine V_sreg (mb 16 4) [] (s1 := ⟨.bot :: .bot :: Bo b8 :: bt 13 [], []⟩) ?_ ?_
  ·refine XR 1 ?_
   refine L1 rfl rfl (Y1_bslice (z := zv3) (els := [d1].map c3) Tryz.underlying51 iz3 rfl (by decide) rfl (by kernel_rfl) rfl (by simp [c3]) (by decide) (by decide)) ?_
   refine L1 rfl rfl (Y1_callS (s_impl_areNumbers hy2) cf_impl_areNumbers rfl (by kernel_rfl) rfl rfl) ?_
   refine XR 1 ?_
   refine XL_split y2 (fun hc3 => ?_) (fun hc3 => ?_)
   ·have hb5 := of_true hb5 hc3
    obtain ⟨y4, hy4, hb5⟩ := of_bind hb5
    have hb5 := some_inj hb5
    refine XL_takeC _ rfl rfl (by kernel_rfl) hc3 (X_of_Y0 rfl (E_move (I d1) rfl (by kernel_rfl))) ?_
    refine XL_takeC _ rfl rfl (by kernel_rfl) hc3 (X_of_Y1 rfl (Y1_call (s_impl_mod hy4) cf_impl_mod rfl (by kernel_rfl))) ?_
    refine XL_takeC _ rfl rfl (by kernel_rfl) hc3 (X_of_Y0 rfl (Y0_lew (k := .i64) (a := y4) (b := 1) rfl (by kernel_rfl) (by kernel_rfl))) ?_
    refine XL_cons rfl (X_of_Y0 rfl (Y0_pickTe (b := y2) (p := leI y4 1) rfl (by kernel_rfl) hc3 (by kernel_rfl) hb5)) ?_
    refine XR 1 ?_
    refine XL_split b5 (fun hc6 => ?_) (fun hc6 => ?_)
    ·have hb8 := of_true hb8 hc6
     obtain ⟨y7, hy7, hb8⟩ := of_bind hb8
     have hb8 := some_inj hb8
     refine XL_takeC _ rfl rfl (by kernel_rfl) hc6 (X_of_Y0 rfl (E_move (I d1) rfl (by kernel_rfl))) ?_
     refine XL_takeC _ rfl rfl (by kernel_rfl) hc6 (X_of_Y1 rfl (Y1_call (s_impl_isSquare hy7) cf_impl_isSquare rfl (by kernel_rfl))) ?_
     refine XL_takeC _ rfl rfl (by kernel_rfl) hc6 (X_of_Y0 rfl (Y0_not (b := y7) rfl (by kernel_rfl))) ?_
     refine XL_cons rfl (X_of_Y0 rfl (Y0_pickTe (b := b5) (p := !y7) rfl (by kernel_rfl) hc6 (by kernel_rfl) hb8)) ?_
     exact XE
    ·have hb8 := some_inj (of_false hb8 hc6)
     refine XL_skipT _ rfl rfl (by kernel_rfl) hc6 rfl ?_
     refine XL_skipT _ rfl rfl (by kernel_rfl) hc6 rfl ?_
     refine XL_skipT _ rfl rfl (by kernel_rfl) hc6 rfl ?_
     refine XL_cons rfl (X_of_Y0 rfl (Y0_pickFe (b := b5) (p := false) rfl (by kernel_rfl) hc6 (by kernel_rfl) hb8)) ?_
     exact XE
   ·have hb5 := some_inj (of_false hb5 hc3)
    refine XL_skipT _ rfl rfl (by kernel_rfl) hc3 rfl ?_
    refine XL_skipT _ rfl rfl (by kernel_rfl) hc3 rfl ?_
    refine XL_skipT _ rfl rfl (by kernel_rfl) hc3 rfl ?_
    refine XL_cons rfl (X_of_Y0 rfl (Y0_pickFe (b := y2) (p := false) rfl (by kernel_rfl) hc3 (by kernel_rfl) hb5)) ?_
    refine XR 1 ?_
    refine XL_split b5 (fun hc6 => ?_) (fun hc6 => ?_)
    ·have hb8 := of_true hb8 hc6
     obtain ⟨y7, hy7, hb8⟩ := of_bind hb8
     have hb8 := some_inj hb8
     refine XL_takeC _ rfl rfl (by kernel_rfl) hc6 (X_of_Y0 rfl (E_move (I d1) rfl (by kernel_rfl))) ?_
     refine XL_takeC _ rfl rfl (by kernel_rfl) hc6 (X_of_Y1 rfl (Y1_call (s_impl_isSquare hy7) cf_impl_isSquare rfl (by kernel_rfl))) ?_
     refine XL_takeC _ rfl rfl (by kernel_rfl) hc6 (X_of_Y0 rfl (Y0_not (b := y7) rfl (by kernel_rfl))) ?_
     refine XL_cons rfl (X_of_Y0 rfl (Y0_pickTe (b := b5) (p := !y7) rfl (by kernel_rfl) hc6 (by kernel_rfl) hb8)) ?_
     exact XE
    ·have hb8 := some_inj (of_false hb8 hc6)
     refine XL_skipT _ rfl rfl (by kernel_rfl) hc6 rfl ?_
     refine XL_skipT _ rfl rfl (by kernel_rfl) hc6 rfl ?_
     refine XL_skipT _ rfl rfl (by kernel_rfl) hc6 rfl ?_
     refine XL_cons rfl (X_of_Y0 rfl (Y0_pickFe (b := b5) (p := false) rfl (by kernel_rfl) hc6 (by kernel_rfl) hb8)) ?_
     exact XE
  refine V_ret ?_
  obtain rfl := some_inj h
  show Post _ _ _ _ _
  exact ⟨.inr rfl, rfl, rfl, rfl⟩
theorem cf_impl_IsPrime : ∀ args w, (callFunc 75 args).run Tryz.prog w = .ok (.enter 75 args) w := run_callFunc Tryz.func75 (by kernel_rfl) (by kernel_rfl)
theorem s_impl_IsPrime {vn1 : Int} {r : Bool} (h : r_impl_IsPrime vn1 = some r) : CallS Tryz.prog 75 [I vn1] (Bo r) [] := by
  refine CallS_of_text (rs := [.t 2]) (vs := [.tmp 2]) Tryz.func75 rfl rfl (.cons rfl FitsL.nil) (by decide) 10 rfl ?_
  unfold r_impl_IsPrime at h
  show V _ _ ⟨I vn1 :: bt 9 [], []⟩ _
  refine V_e (mb 10 1) [] (s1 := ⟨I vn1 :: bt 9 [], []⟩) ?_
  obtain ⟨y2, hy2, h⟩ := of_bind h
  obtain ⟨b5, hb5, h⟩ := of_bind h
  refine V_sreg (mb 10 4) [] (s1 := ⟨.bot :: .bot :: Bo b5 :: bt 7 [], []⟩) ?_ ?_
  ·refine XR 1 ?_
   refine L1 rfl rfl (Y1_bslice (z := zv3) (els := [vn1].map c3) Tryz.underlying51 iz3 rfl (by decide) rfl (by kernel_rfl) rfl (by simp [c3]) (by decide) (by decide)) ?_
   refine L1 rfl rfl (Y1_callS (s_impl_areNumbers hy2) cf_impl_areNumbers rfl (by kernel_rfl) rfl rfl) ?_
   refine XR 1 ?_
   refine XL_split y2 (fun hc3 => ?_) (fun hc3 => ?_)
   ·have hb5 := of_true hb5 hc3
    obtain ⟨y4, hy4, hb5⟩ := of_bind hb5
    have hb5 := some_inj hb5
    refine XL_takeC _ rfl rfl (by kernel_rfl) hc3 (X_of_Y0 rfl (E_move (I vn1) rfl (by kernel_rfl))) ?_
    refine XL_takeC _ rfl rfl (by kernel_rfl) hc3 (X_of_Y1 rfl (Y1_call (s_impl_isPrime hy4) cf_impl_isPrime rfl (by kernel_rfl))) ?_
    refine XL_cons rfl (X_of_Y0 rfl (Y0_pickTe (b := y2) (p := y4) rfl (by kernel_rfl) hc3 (by kernel_rfl) hb5)) ?_
    exact XE
   ·have hb5 := some_inj (of_false hb5 hc3)
    refine XL_skipT _ rfl rfl (by kernel_rfl) hc3 rfl ?_
    refine XL_skipT _ rfl rfl (by kernel_rfl) hc3 rfl ?_
    refine XL_cons rfl (X_of_Y0 rfl (Y0_pickFe (b := y2) (p := false) rfl (by kernel_rfl) hc3 (by kernel_rfl) hb5)) ?_
    exact XE
  refine V_ret ?_
  obtain rfl := some_inj h
  show Post _ _ _ _ _
  exact ⟨.inr rfl, rfl, rfl, rfl⟩
theorem cf_impl_squareFree : ∀ args w, (callFunc 226 args).run Tryz.prog w = .ok (.enter 226 args) w := run_callFunc Tryz.func226 (by kernel_rfl) (by kernel_rfl)
theorem s_impl_squareFree {vn1 : Int} {r : (Int × Int)} (h : r_impl_squareFree vn1 = some r) : CallS Tryz.prog 226 [I vn1] (.tc (I r.1) (.tc (I r.2) .tn)) [] := by
  refine CallS_of_text (rs := [.t 2, .t 3]) (vs := [.tmp 2, .tmp 3]) Tryz.func226 rfl rfl (.cons rfl (.cons rfl FitsL.nil)) (by decide) 30 rfl ?_
  unfold r_impl_squareFree at h
  show V _ _ ⟨I vn1 :: bt 29 [], []⟩ _
  refine V_e (mb 30 1) [] (s1 := ⟨I vn1 :: bt 29 [], []⟩) ?_
  refine V_e (mb 30 17) [] (s1 := ⟨I vn1 :: bt 3 (I 1 :: bt 25 []), []⟩) ?_
  refine V_seq ?_
  refine V_e (mb 30 49) [] (s1 := ⟨I vn1 :: bt 3 (I 1 :: I 2 :: bt 24 []), []⟩) ?_
  obtain ⟨o6, hLo6, h⟩ := of_bind h
  refine V_toK (mb 30 17) [] (s1 := ⟨I o6.1 :: bt 3 (I o6.2 :: bt 25 []), []⟩) ?_ ?_
  ·clear h
   refine V_block (V_loop (fun n s => ∃ (vn2 : Int) (k3 : Int) (p4 : Int), s.keep (mb 30 49) [] = (⟨I vn2 :: bt 3 (I k3 :: I p4 :: bt 24 []), []⟩ : St) ∧ r_impl_squareFree_L5 n vn2 k3 p4 = some o6) FU ⟨_, _, _,  by rfl, hLo6⟩ ?_)
   clear hLo6
   rintro n s ⟨vn2, k3, p4, hs, h⟩
   refine V_keep _ _ hs ?_
   clear hs
   cases n with
   | zero => cases h
   | succ n =>
    rw [r_impl_squareFree_L5] at h
    refine V_seq ?_
    obtain ⟨y7, hy7, h⟩ := of_bind h
    refine V_sreg (mb 30 2097) [] (s1 := ⟨I vn2 :: bt 3 (I k3 :: I p4 :: bt 5 (Bo (leI (w64 (p4 * p4)) y7) :: bt 18 [])), []⟩) ?_ ?_
    ·refine XR 4 ?_
     refine XC (s_impl_abs hy7) cf_impl_abs rfl rfl rfl ?_
     exact XE
    refine V_cond rfl (fun hc8 => ?_) (fun hc8 => ?_)
    ·have h := of_true h hc8
     refine V_skip ?_
     show V _ _ _ _
     refine V_seq ?_
     refine V_block ?_
     obtain ⟨o12, hLo12, h⟩ := of_bind h
     refine V_toK (mb 30 49) [] (s1 := ⟨I o12.1 :: bt 3 (I o12.2 :: I p4 :: bt 24 []), []⟩) ?_ ?_
     ·clear h
      refine V_block (V_loop (fun n s => ∃ (vn9 : Int) (k10 : Int), s.keep (mb 30 49) [] = (⟨I vn9 :: bt 3 (I k10 :: I p4 :: bt 24 []), []⟩ : St) ∧ r_impl_squareFree_L11 p4 n vn9 k10 = some o12) FU ⟨_, _,  by rfl, hLo12⟩ ?_)
      clear hLo12
      rintro n s ⟨vn9, k10, hs, h⟩
      refine V_keep _ _ hs ?_
      clear hs
      cases n with
      | zero => cases h
      | succ n =>
       rw [r_impl_squareFree_L11] at h
       refine V_seq ?_
       obtain ⟨z13, hz13, h⟩ := of_bind h
       refine V_sreg (mb 30 524337) [] (s1 := ⟨I vn9 :: bt 3 (I k10 :: I p4 :: bt 13 (Bo (eqI (Int.tmod vn9 (w64 (p4 * p4))) 0) :: bt 10 [])), []⟩) ?_ ?_
       ·refine XR 4 ?_
        refine L0 rfl rfl (Y0_rem (k := .i64) (a := vn9) (b := w64 (p4 * p4)) rfl (by kernel_rfl) (by kernel_rfl) (nz_some hz13)) ?_
        exact XE
       refine V_cond rfl (fun hc14 => ?_) (fun hc14 => ?_)
       ·have h := of_true h hc14
        refine V_skip ?_
        show V _ _ _ _
        refine V_block ?_
        obtain ⟨z15, hz15, h⟩ := of_bind h
        obtain ⟨vn16, hvn16, h⟩ := of_sI h
        refine V_sreg (mb 30 49) [] (s1 := ⟨I vn16 :: bt 3 (I k10 :: I p4 :: bt 24 []), []⟩) ?_ ?_
        ·refine XR 4 ?_
         refine L0 rfl rfl (Y0_quo64 (a := vn9) (b := w64 (p4 * p4)) rfl (by kernel_rfl) (by kernel_rfl) (nz_some hz15)) ?_
         refine XR 1 ?_
         refine XL_nil ?_
         subst hvn16
         kernel_rfl
        obtain ⟨k17, hk17, h⟩ := of_sI h
        refine V_reg (mb 30 49) [] (s1 := ⟨I vn16 :: bt 3 (I k17 :: I p4 :: bt 24 []), []⟩) ?_ ?_
        ·refine XR 4 ?_
         refine XL_nil ?_
         subst hk17
         kernel_rfl
        exact ⟨n, Nat.lt_succ_self n, _, _,  by rfl, h⟩
       ·have h := of_false h hc14
        refine V_exit ?_
        obtain rfl := some_inj h
        show St.keep _ _ _ = _
        rfl
     show V _ _ _ _
     obtain ⟨p18, hp18, h⟩ := of_sI h
     refine V_reg (mb 30 49) [] (s1 := ⟨I o12.1 :: bt 3 (I o12.2 :: I p18 :: bt 24 []), []⟩) ?_ ?_
     ·refine XR 3 ?_
      refine XL_nil ?_
      subst hp18
      kernel_rfl
     exact ⟨n, Nat.lt_succ_self n, _, _, _,  by rfl, h⟩
    ·have h := of_false h hc8
     refine V_exit ?_
     obtain rfl := some_inj h
     show St.keep _ _ _ = _
     rfl
  show V _ _ _ _
  refine V_e (mb 30 12) [] (s1 := ⟨.bot :: .bot :: I o6.1 :: I o6.2 :: bt 26 [], []⟩) ?_
  refine V_ret ?_
  obtain rfl := some_inj h
  show Post _ _ _ _ _
  exact ⟨.inr rfl, rfl, rfl, rfl⟩
theorem cf_impl_fundamental : ∀ args w, (callFunc 182 args).run Tryz.prog w = .ok (.enter 182 args) w := run_callFunc Tryz.func182 (by kernel_rfl) (by kernel_rfl)
theorem s_impl_fundamental {d1 : Int} {r : (Int × Int)} (h : r_impl_fundamental d1 = some r) : CallS Tryz.prog 182 [I d1] (.tc (I r.1) (.tc (I r.2) .tn)) [] := by
  refine CallS_of_text (rs := [.t 2, .t 3]) (vs := [.tmp 2, .tmp 3]) Tryz.func182 rfl rfl (.cons rfl (.cons rfl FitsL.nil)) (by decide) 20 rfl ?_
  unfold r_impl_fundamental at h
  show V _ _ ⟨I d1 :: bt 19 [], []⟩ _
  refine V_e (mb 20 1) [] (s1 := ⟨I d1 :: bt 19 [], []⟩) ?_
  obtain ⟨y2, hy2, h⟩ := of_bind h
  refine V_sreg (mb 20 48) [] (s1 := ⟨bt 4 (I y2.1 :: I y2.2 :: bt 14 []), []⟩) ?_ ?_
  ·refine XR 1 ?_
   refine XC (s_impl_squareFree hy2) cf_impl_squareFree rfl rfl rfl ?_
   exact XE
  refine V_seq ?_
  obtain ⟨y3, hy3, h⟩ := of_bind h
  refine V_sreg (mb 20 8240) [] (s1 := ⟨bt 4 (I y2.1 :: I y2.2 :: bt 7 (Bo (!eqI y3 1) :: bt 6 [])), []⟩) ?_ ?_
  ·refine XR 1 ?_
   refine XC (s_impl_mod hy3) cf_impl_mod rfl rfl rfl ?_
   exact XE
  refine V_cond rfl (fun hc4 => ?_) (fun hc4 => ?_)
  ·have h := of_true h hc4
   obtain ⟨t5, ht5, h⟩ := of_sI h
   obtain ⟨t6, ht6, h⟩ := of_sI h
   refine V_sreg (mb 20 12) [] (s1 := ⟨.bot :: .bot :: I t5 :: I t6 :: bt 16 [], []⟩) ?_ ?_
   ·refine XR 3 ?_
    refine L0 rfl rfl (Y0_quo64 (a := y2.2) (b := 2) rfl (by kernel_rfl) (by kernel_rfl) (by decide)) ?_
    refine XR 2 ?_
    refine XL_nil ?_
    subst ht5 ht6
    kernel_rfl
   refine V_ret ?_
   obtain rfl := some_inj h
   show Post _ _ _ _ _
   exact ⟨.inr rfl, rfl, rfl, rfl⟩
  ·have h := of_false h hc4
   refine V_skip ?_
   show V _ _ _ _
   refine V_e (mb 20 12) [] (s1 := ⟨.bot :: .bot :: I y2.1 :: I y2.2 :: bt 16 [], []⟩) ?_
   refine V_ret ?_
   obtain rfl := some_inj h
   show Post _ _ _ _ _
   exact ⟨.inr rfl, rfl, rfl, rfl⟩
theorem cf_impl_symbolOfTwo : ∀ args w, (callFunc 184 args).run Tryz.prog w = .ok (.enter 184 args) w := run_callFunc Tryz.func184 (by kernel_rfl) (by kernel_rfl)
theorem s_impl_symbolOfTwo {vn1 : Int} {r : Int} (h : r_impl_symbolOfTwo vn1 = some r) : CallS Tryz.prog 184 [I vn1] (I r) [] := by
  refine CallS_of_text (rs := [.t 2]) (vs := [.tmp 2]) Tryz.func184 rfl rfl (.cons rfl FitsL.nil) (by decide) 12 rfl ?_
  unfold r_impl_symbolOfTwo at h
  show V _ _ ⟨I vn1 :: bt 11 [], []⟩ _
  refine V_e (mb 12 1) [] (s1 := ⟨I vn1 :: bt 11 [], []⟩) ?_
  refine V_seq ?_
  obtain ⟨y2, hy2, h⟩ := of_bind h
  refine V_sreg (mb 12 8) [] (s1 := ⟨bt 3 (I y2 :: bt 8 []), []⟩) ?_ ?_
  ·refine XR 1 ?_
   refine XC (s_impl_mod hy2) cf_impl_mod rfl rfl rfl ?_
   exact XE
  refine V_sreg (mb 12 2048) [] (s1 := ⟨bt 11 (Bo (bif (eqI y2 1) then true else (eqI y2 7)) :: []), []⟩) ?_ ?_
  ·refine XR 3 ?_
   refine XL_split (eqI y2 1) (fun hc3 => ?_) (fun hc3 => ?_)
   ·refine XL_skipF _ rfl rfl (by kernel_rfl) hc3 rfl ?_
    refine XL_skipF _ rfl rfl (by kernel_rfl) hc3 rfl ?_
    refine XL_cons rfl (X_of_Y0 rfl (Y0_pick1 (b := eqI y2 1) (p := true) (q := eqI y2 7) rfl (by kernel_rfl) hc3 (by kernel_rfl))) ?_
    exact XE
   ·refine XL_takeC _ rfl rfl (by kernel_rfl) hc3 (X_of_Y0 rfl (E_move (I y2) rfl (by kernel_rfl))) ?_
    refine XL_takeC _ rfl rfl (by kernel_rfl) hc3 (X_of_Y0 rfl (Y0_eqw (k := .i64) (a := y2) (b := 7) rfl (by kernel_rfl) (by kernel_rfl))) ?_
    refine XL_cons rfl (X_of_Y0 rfl (Y0_pick0 (b := eqI y2 1) (p := true) (q := eqI y2 7) rfl (by kernel_rfl) hc3 (by kernel_rfl))) ?_
    exact XE
  refine V_cond rfl (fun hc4 => ?_) (fun hc4 => ?_)
  ·have h := of_true h hc4
   refine V_e (mb 12 4) [] (s1 := ⟨.bot :: .bot :: I 1 :: bt 9 [], []⟩) ?_
   refine V_ret ?_
   obtain rfl := some_inj h
   show Post _ _ _ _ _
   exact ⟨.inr rfl, rfl, rfl, rfl⟩
  ·have h := of_false h hc4
   refine V_skip ?_
   show V _ _ _ _
   refine V_e (mb 12 4) [] (s1 := ⟨.bot :: .bot :: I (-1) :: bt 9 [], []⟩) ?_
   refine V_ret ?_
   obtain rfl := some_inj h
   show Post _ _ _ _ _
   exact ⟨.inr rfl, rfl, rfl, rfl⟩
theorem cf_impl_jacobi : ∀ args w, (callFunc 185 args).run Tryz.prog w = .ok (.enter 185 args) w := run_callFunc Tryz.func185 (by kernel_rfl) (by kernel_rfl)
theorem s_impl_jacobi {a1 : Int} {vn2 : Int} {r : Int} (h : r_impl_jacobi a1 vn2 = some r) : CallS Tryz.prog 185 [I a1, I vn2] (I r) [] := by
  refine CallS_of_text (rs := [.t 4]) (vs := [.tmp 4]) Tryz.func185 rfl rfl (.cons rfl FitsL.nil) (by decide) 38 rfl ?_
  unfold r_impl_jacobi at h
  show V _ _ ⟨I a1 :: I vn2 :: bt 36 [], []⟩ _
  refine V_e (mb 38 3) [] (s1 := ⟨I a1 :: I vn2 :: bt 36 [], []⟩) ?_
  refine V_e (mb 38 35) [] (s1 := ⟨I a1 :: I vn2 :: bt 3 (I 1 :: bt 32 []), []⟩) ?_
  refine V_seq ?_
  obtain ⟨y3, hy3, h⟩ := of_bind h
  refine V_sreg (mb 38 35) [] (s1 := ⟨I y3 :: I vn2 :: bt 3 (I 1 :: bt 32 []), []⟩) ?_ ?_
  ·refine XR 2 ?_
   refine XC (s_impl_mod hy3) cf_impl_mod rfl rfl rfl ?_
   exact XE
  obtain ⟨o8, hLo8, h⟩ := of_bind h
  refine V_toK (mb 38 34) [] (s1 := ⟨.bot :: I o8.1 :: bt 3 (I o8.2 :: bt 32 []), []⟩) ?_ ?_
  ·clear h
   refine V_block (V_loop (fun n s => ∃ (a4 : Int) (vn5 : Int) (vs6 : Int), s.keep (mb 38 35) [] = (⟨I a4 :: I vn5 :: bt 3 (I vs6 :: bt 32 []), []⟩ : St) ∧ r_impl_jacobi_L7 n a4 vn5 vs6 = some o8) FU ⟨_, _, _,  by rfl, hLo8⟩ ?_)
   clear hLo8
   rintro n s ⟨a4, vn5, vs6, hs, h⟩
   refine V_keep _ _ hs ?_
   clear hs
   cases n with
   | zero => cases h
   | succ n =>
    rw [r_impl_jacobi_L7] at h
    refine V_seq ?_
    refine V_e (mb 38 1059) [] (s1 := ⟨I a4 :: I vn5 :: bt 3 (I vs6 :: bt 4 (Bo (!eqI a4 0) :: bt 27 [])), []⟩) ?_
    refine V_cond rfl (fun hc9 => ?_) (fun hc9 => ?_)
    ·have h := of_true h hc9
     refine V_skip ?_
     show V _ _ _ _
     refine V_seq ?_
     refine V_block ?_
     refine V_seq ?_
     obtain ⟨o13, hLo13, h⟩ := of_bind h
     refine V_toK (mb 38 35) [] (s1 := ⟨I o13.1 :: I vn5 :: bt 3 (I o13.2 :: bt 32 []), []⟩) ?_ ?_
     ·clear h
      refine V_block (V_loop (fun n s => ∃ (a10 : Int) (vs11 : Int), s.keep (mb 38 35) [] = (⟨I a10 :: I vn5 :: bt 3 (I vs11 :: bt 32 []), []⟩ : St) ∧ r_impl_jacobi_L12 vn5 n a10 vs11 = some o13) FU ⟨_, _,  by rfl, hLo13⟩ ?_)
      clear hLo13
      rintro n s ⟨a10, vs11, hs, h⟩
      refine V_keep _ _ hs ?_
      clear hs
      cases n with
      | zero => cases h
      | succ n =>
       rw [r_impl_jacobi_L12] at h
       refine V_seq ?_
       refine V_sreg (mb 38 65571) [] (s1 := ⟨I a10 :: I vn5 :: bt 3 (I vs11 :: bt 10 (Bo (eqI (Int.tmod a10 2) 0) :: bt 21 [])), []⟩) ?_ ?_
       ·refine XR 1 ?_
        refine L0 rfl rfl (Y0_rem (k := .i64) (a := a10) (b := 2) rfl (by kernel_rfl) (by kernel_rfl) (by decide)) ?_
        exact XE
       refine V_cond rfl (fun hc14 => ?_) (fun hc14 => ?_)
       ·have h := of_true h hc14
        refine V_skip ?_
        show V _ _ _ _
        refine V_block ?_
        obtain ⟨a15, ha15, h⟩ := of_sI h
        refine V_sreg (mb 38 35) [] (s1 := ⟨I a15 :: I vn5 :: bt 3 (I vs11 :: bt 32 []), []⟩) ?_ ?_
        ·refine XR 1 ?_
         refine L0 rfl rfl (Y0_quo64 (a := a10) (b := 2) rfl (by kernel_rfl) (by kernel_rfl) (by decide)) ?_
         refine XR 1 ?_
         refine XL_nil ?_
         subst ha15
         kernel_rfl
        obtain ⟨y16, hy16, h⟩ := of_bind h
        obtain ⟨vs17, hvs17, h⟩ := of_sI h
        refine V_reg (mb 38 35) [] (s1 := ⟨I a15 :: I vn5 :: bt 3 (I vs17 :: bt 32 []), []⟩) ?_ ?_
        ·refine XR 2 ?_
         refine XC (s_impl_symbolOfTwo hy16) cf_impl_symbolOfTwo rfl rfl rfl ?_
         refine XR 2 ?_
         refine XL_nil ?_
         subst hvs17
         kernel_rfl
        exact ⟨n, Nat.lt_succ_self n, _, _,  by rfl, h⟩
       ·have h := of_false h hc14
        refine V_exit ?_
        obtain rfl := some_inj h
        show St.keep _ _ _ = _
        rfl
     show V _ _ _ _
     refine V_seq ?_
     obtain ⟨t19, ht19, h⟩ := of_bind h
     have ht19 := some_inj ht19
     refine V_sreg (mb 38 1073741859) [] (s1 := ⟨I o13.1 :: I vn5 :: bt 3 (I o13.2 :: bt 24 (Bo t19 :: bt 7 [])), []⟩) ?_ ?_
     ·refine XR 1 ?_
      refine L0 rfl rfl (Y0_rem (k := .i64) (a := o13.1) (b := 4) rfl (by kernel_rfl) (by kernel_rfl) (by decide)) ?_
      refine XR 2 ?_
      refine XL_split (eqI (Int.tmod o13.1 4) 3) (fun hc18 => ?_) (fun hc18 => ?_)
      ·refine XL_takeC _ rfl rfl (by kernel_rfl) hc18 (X_of_Y0 rfl (E_move (I vn5) rfl (by kernel_rfl))) ?_
       refine XL_takeC _ rfl rfl (by kernel_rfl) hc18 (X_of_Y0 rfl (Y0_rem (k := .i64) (a := vn5) (b := 4) rfl (by kernel_rfl) (by kernel_rfl) (by decide))) ?_
       refine XL_takeC _ rfl rfl (by kernel_rfl) hc18 (X_of_Y0 rfl (Y0_eqw (k := .i64) (a := Int.tmod vn5 4) (b := 3) rfl (by kernel_rfl) (by kernel_rfl))) ?_
       refine XL_cons rfl (X_of_Y0 rfl (Y0_pick1 (b := eqI (Int.tmod o13.1 4) 3) (p := eqI (Int.tmod vn5 4) 3) (q := false) rfl (by kernel_rfl) hc18 (by kernel_rfl))) ?_
       refine XL_nil ?_
       subst ht19
       kernel_rfl
      ·refine XL_skipT _ rfl rfl (by kernel_rfl) hc18 rfl ?_
       refine XL_skipT _ rfl rfl (by kernel_rfl) hc18 rfl ?_
       refine XL_skipT _ rfl rfl (by kernel_rfl) hc18 rfl ?_
       refine XL_cons rfl (X_of_Y0 rfl (Y0_pick0 (b := eqI (Int.tmod o13.1 4) 3) (p := eqI (Int.tmod vn5 4) 3) (q := false) rfl (by kernel_rfl) hc18 (by kernel_rfl))) ?_
       refine XL_nil ?_
       subst ht19
       kernel_rfl
     refine V_cond rfl (fun hc20 => ?_) (fun hc20 => ?_)
     ·have h := of_true h hc20
      obtain ⟨vs21, hvs21, h⟩ := of_sI h
      refine V_reg (mb 38 35) [] (s1 := ⟨I o13.1 :: I vn5 :: bt 3 (I vs21 :: bt 32 []), []⟩) ?_ ?_
      ·refine XR 3 ?_
       refine XL_nil ?_
       subst hvs21
       kernel_rfl
      show V _ _ _ _
      refine V_reg (mb 38 35) [] (s1 := ⟨I vn5 :: I o13.1 :: bt 3 (I vs21 :: bt 32 []), []⟩) ?_ ?_
      ·exact XE
      show V _ _ _ _
      obtain ⟨z22, hz22, h⟩ := of_bind h
      obtain ⟨a23, ha23, h⟩ := of_sI h
      refine V_reg (mb 38 35) [] (s1 := ⟨I a23 :: I o13.1 :: bt 3 (I vs21 :: bt 32 []), []⟩) ?_ ?_
      ·refine XR 2 ?_
       refine L0 rfl rfl (Y0_rem (k := .i64) (a := vn5) (b := o13.1) rfl (by kernel_rfl) (by kernel_rfl) (nz_some hz22)) ?_
       refine XR 1 ?_
       refine XL_nil ?_
       subst ha23
       kernel_rfl
      exact ⟨n, Nat.lt_succ_self n, _, _, _,  by rfl, h⟩
     ·have h := of_false h hc20
      refine V_skip ?_
      show V _ _ _ _
      refine V_reg (mb 38 35) [] (s1 := ⟨I vn5 :: I o13.1 :: bt 3 (I o13.2 :: bt 32 []), []⟩) ?_ ?_
      ·exact XE
      show V _ _ _ _
      obtain ⟨z24, hz24, h⟩ := of_bind h
      obtain ⟨a25, ha25, h⟩ := of_sI h
      refine V_reg (mb 38 35) [] (s1 := ⟨I a25 :: I o13.1 :: bt 3 (I o13.2 :: bt 32 []), []⟩) ?_ ?_
      ·refine XR 2 ?_
       refine L0 rfl rfl (Y0_rem (k := .i64) (a := vn5) (b := o13.1) rfl (by kernel_rfl) (by kernel_rfl) (nz_some hz24)) ?_
       refine XR 1 ?_
       refine XL_nil ?_
       subst ha25
       kernel_rfl
      exact ⟨n, Nat.lt_succ_self n, _, _, _,  by rfl, h⟩
    ·have h := of_false h hc9
     refine V_exit ?_
     obtain rfl := some_inj h
     show St.keep _ _ _ = _
     rfl
  show V _ _ _ _
  refine V_seq ?_
  refine V_e (mb 38 68719476768) [] (s1 := ⟨bt 5 (I o8.2 :: bt 30 (Bo (!eqI o8.1 1) :: .bot :: [])), []⟩) ?_
  refine V_cond rfl (fun hc26 => ?_) (fun hc26 => ?_)
  ·have h := of_true h hc26
   refine V_e (mb 38 16) [] (s1 := ⟨bt 4 (I 0 :: bt 33 []), []⟩) ?_
   refine V_ret ?_
   obtain rfl := some_inj h
   show Post _ _ _ _ _
   exact ⟨.inr rfl, rfl, rfl, rfl⟩
  ·have h := of_false h hc26
   refine V_skip ?_
   show V _ _ _ _
   refine V_e (mb 38 16) [] (s1 := ⟨bt 4 (I o8.2 :: bt 33 []), []⟩) ?_
   refine V_ret ?_
   obtain rfl := some_inj h
   show Post _ _ _ _ _
   exact ⟨.inr rfl, rfl, rfl, rfl⟩
theorem cf_impl_kronecker : ∀ args w, (callFunc 94 args).run Tryz.prog w = .ok (.enter 94 args) w := run_callFunc Tryz.func94 (by kernel_rfl) (by kernel_rfl)
theorem s_impl_kronecker {a1 : Int} {vn2 : Int} {r : Int} (h : r_impl_kronecker a1 vn2 = some r) : CallS Tryz.prog 94 [I a1, I vn2] (I r) [] := by
  refine CallS_of_text (rs := [.t 4]) (vs := [.tmp 4]) Tryz.func94 rfl rfl (.cons rfl FitsL.nil) (by decide) 36 rfl ?_
  unfold r_impl_kronecker at h
  show V _ _ ⟨I a1 :: I vn2 :: bt 34 [], []⟩ _
  refine V_e (mb 36 3) [] (s1 := ⟨I a1 :: I vn2 :: bt 34 [], []⟩) ?_
  refine V_seq ?_
  refine V_e (mb 36 131) [] (s1 := ⟨I a1 :: I vn2 :: bt 5 (Bo (eqI vn2 0) :: bt 28 []), []⟩) ?_
  refine V_cond rfl (fun hc3 => ?_) (fun hc3 => ?_)
  ·have h := of_true h hc3
   refine V_seq ?_
   obtain ⟨y4, hy4, h⟩ := of_bind h
   refine V_sreg (mb 36 1024) [] (s1 := ⟨bt 10 (Bo (eqI y4 1) :: bt 25 []), []⟩) ?_ ?_
   ·refine XR 1 ?_
    refine XC (s_impl_abs hy4) cf_impl_abs rfl rfl rfl ?_
    exact XE
   refine V_cond rfl (fun hc5 => ?_) (fun hc5 => ?_)
   ·have h := of_true h hc5
    refine V_e (mb 36 16) [] (s1 := ⟨bt 4 (I 1 :: bt 31 []), []⟩) ?_
    refine V_ret ?_
    obtain rfl := some_inj h
    show Post _ _ _ _ _
    exact ⟨.inr rfl, rfl, rfl, rfl⟩
   ·have h := of_false h hc5
    refine V_skip ?_
    show V _ _ _ _
    refine V_e (mb 36 16) [] (s1 := ⟨bt 4 (I 0 :: bt 31 []), []⟩) ?_
    refine V_ret ?_
    obtain rfl := some_inj h
    show Post _ _ _ _ _
    exact ⟨.inr rfl, rfl, rfl, rfl⟩
  ·have h := of_false h hc3
   refine V_skip ?_
   show V _ _ _ _
   refine V_e (mb 36 35) [] (s1 := ⟨I a1 :: I vn2 :: bt 3 (I 1 :: bt 30 []), []⟩) ?_
   obtain ⟨j6, hj6, h⟩ := of_bind h
   refine V_cutK (mb 36 35) [] (s1 := ⟨I a1 :: I vn2 :: bt 3 (I j6 :: bt 30 []), []⟩) ?_ ?_
   ·clear h
    have h := hj6
    clear hj6
    refine V_sreg (mb 36 65571) [] (s1 := ⟨I a1 :: I vn2 :: bt 3 (I 1 :: bt 10 (Bo (bif (ltI vn2 0) then (ltI a1 0) else false) :: bt 19 [])), []⟩) ?_ ?_
    ·refine XR 3 ?_
     refine XL_split (ltI vn2 0) (fun hc7 => ?_) (fun hc7 => ?_)
     ·refine XL_takeC _ rfl rfl (by kernel_rfl) hc7 (X_of_Y0 rfl (E_move (I a1) rfl (by kernel_rfl))) ?_
      refine XL_takeC _ rfl rfl (by kernel_rfl) hc7 (X_of_Y0 rfl (Y0_ltw (k := .i64) (a := a1) (b := 0) rfl (by kernel_rfl) (by kernel_rfl))) ?_
      refine XL_cons rfl (X_of_Y0 rfl (Y0_pick1 (b := ltI vn2 0) (p := ltI a1 0) (q := false) rfl (by kernel_rfl) hc7 (by kernel_rfl))) ?_
      exact XE
     ·refine XL_skipT _ rfl rfl (by kernel_rfl) hc7 rfl ?_
      refine XL_skipT _ rfl rfl (by kernel_rfl) hc7 rfl ?_
      refine XL_cons rfl (X_of_Y0 rfl (Y0_pick0 (b := ltI vn2 0) (p := ltI a1 0) (q := false) rfl (by kernel_rfl) hc7 (by kernel_rfl))) ?_
      exact XE
    refine V_cond rfl (fun hc8 => ?_) (fun hc8 => ?_)
    ·have h := of_true h hc8
     refine V_reg (mb 36 35) [] (s1 := ⟨I a1 :: I vn2 :: bt 3 (I (-1) :: bt 30 []), []⟩) ?_ ?_
     ·exact XE
     obtain rfl := some_inj h
     show St.keep _ _ _ = _
     rfl
    ·have h := of_false h hc8
     refine V_skip ?_
     obtain rfl := some_inj h
     show St.keep _ _ _ = _
     rfl
   obtain ⟨y9, hy9, h⟩ := of_bind h
   refine V_sreg (mb 36 35) [] (s1 := ⟨I a1 :: I y9 :: bt 3 (I j6 :: bt 30 []), []⟩) ?_ ?_
   ·refine XR 1 ?_
    refine XC (s_impl_abs hy9) cf_impl_abs rfl rfl rfl ?_
    exact XE
   refine V_seq ?_
   obtain ⟨qo13, hLo13, hko13⟩ := of_bind h
   refine V_toS (q := qo13) (S := fun o13 => ⟨I a1 :: I o13.1 :: bt 3 (I o13.2 :: bt 30 []), []⟩) (mb 36 35) [] ?_ ?_
   ·refine V_block (V_loop (fun n s => ∃ (vn10 : Int) (vs11 : Int), s.keep (mb 36 35) [] = (⟨I a1 :: I vn10 :: bt 3 (I vs11 :: bt 30 []), []⟩ : St) ∧ r_impl_kronecker_L12 a1 n vn10 vs11 = some qo13) FU ⟨_, _,  by rfl, hLo13⟩ ?_)
    clear hLo13
    rintro n s ⟨vn10, vs11, hs, h⟩
    refine V_keep _ _ hs ?_
    clear hs
    cases n with
    | zero => cases h
    | succ n =>
     rw [r_impl_kronecker_L12] at h
     refine V_seq ?_
     refine V_sreg (mb 36 2097187) [] (s1 := ⟨I a1 :: I vn10 :: bt 3 (I vs11 :: bt 15 (Bo (eqI (Int.tmod vn10 2) 0) :: bt 14 [])), []⟩) ?_ ?_
     ·refine XR 1 ?_
      refine L0 rfl rfl (Y0_rem (k := .i64) (a := vn10) (b := 2) rfl (by kernel_rfl) (by kernel_rfl) (by decide)) ?_
      exact XE
     refine V_cond rfl (fun hc14 => ?_) (fun hc14 => ?_)
     ·have h := of_true h hc14
      refine V_skip ?_
      show V _ _ _ _
      refine V_block ?_
      refine V_seq ?_
      refine V_sreg (mb 36 16777251) [] (s1 := ⟨I a1 :: I vn10 :: bt 3 (I vs11 :: bt 18 (Bo (eqI (Int.tmod a1 2) 0) :: bt 11 [])), []⟩) ?_ ?_
      ·refine XR 1 ?_
       refine L0 rfl rfl (Y0_rem (k := .i64) (a := a1) (b := 2) rfl (by kernel_rfl) (by kernel_rfl) (by decide)) ?_
       exact XE
      refine V_cond rfl (fun hc15 => ?_) (fun hc15 => ?_)
      ·have h := of_true h hc15
       refine V_e (mb 36 16) [] (s1 := ⟨bt 4 (I 0 :: bt 31 []), []⟩) ?_
       refine V_ret ?_
       obtain rfl := some_inj h
       have h := hko13
       obtain rfl := some_inj h
       show Post _ _ _ _ _
       exact ⟨.inr rfl, rfl, rfl, rfl⟩
      ·have h := of_false h hc15
       refine V_skip ?_
       show V _ _ _ _
       obtain ⟨vn16, hvn16, h⟩ := of_sI h
       refine V_sreg (mb 36 35) [] (s1 := ⟨I a1 :: I vn16 :: bt 3 (I vs11 :: bt 30 []), []⟩) ?_ ?_
       ·refine XR 1 ?_
        refine L0 rfl rfl (Y0_quo64 (a := vn10) (b := 2) rfl (by kernel_rfl) (by kernel_rfl) (by decide)) ?_
        refine XR 1 ?_
        refine XL_nil ?_
        subst hvn16
        kernel_rfl
       obtain ⟨y17, hy17, h⟩ := of_bind h
       obtain ⟨vs18, hvs18, h⟩ := of_sI h
       refine V_reg (mb 36 35) [] (s1 := ⟨I a1 :: I vn16 :: bt 3 (I vs18 :: bt 30 []), []⟩) ?_ ?_
       ·refine XR 2 ?_
        refine XC (s_impl_symbolOfTwo hy17) cf_impl_symbolOfTwo rfl rfl rfl ?_
        refine XR 2 ?_
        refine XL_nil ?_
        subst hvs18
        kernel_rfl
       exact ⟨n, Nat.lt_succ_self n, _, _,  by rfl, h⟩
     ·have h := of_false h hc14
      refine V_exit ?_
      obtain rfl := some_inj h
      exact ⟨_, rfl, by rfl⟩
   rintro o13 rfl
   have h := hko13
   clear hko13
   show V _ _ _ _
   obtain ⟨y19, hy19, h⟩ := of_bind h
   obtain ⟨t20, ht20, h⟩ := of_sI h
   refine V_sreg (mb 36 16) [] (s1 := ⟨bt 4 (I t20 :: bt 31 []), []⟩) ?_ ?_
   ·refine XR 3 ?_
    refine XC (s_impl_jacobi hy19) cf_impl_jacobi rfl rfl rfl ?_
    refine XR 2 ?_
    refine XL_nil ?_
    subst ht20
    kernel_rfl
   refine V_ret ?_
   obtain rfl := some_inj h
   show Post _ _ _ _ _
   exact ⟨.inr rfl, rfl, rfl, rfl⟩
theorem cf_impl_kindOfPrime : ∀ args w, (callFunc 92 args).run Tryz.prog w = .ok (.enter 92 args) w := run_callFunc Tryz.func92 (by kernel_rfl) (by kernel_rfl)
theorem s_impl_kindOfPrime {d1 : Int} {p2 : Int} {r : Int} (h : r_impl_kindOfPrime d1 p2 = some r) : CallS Tryz.prog 92 [I d1, I p2] (I r) [] := by
  refine CallS_of_text (rs := [.t 4]) (vs := [.tmp 4]) Tryz.func92 rfl rfl (.cons rfl FitsL.nil) (by decide) 22 rfl ?_
  unfold r_impl_kindOfPrime at h
  show V _ _ ⟨I d1 :: I p2 :: bt 20 [], []⟩ _
  refine V_e (mb 22 3) [] (s1 := ⟨I d1 :: I p2 :: bt 20 [], []⟩) ?_
  refine V_seq ?_
  obtain ⟨y3, hy3, h⟩ := of_bind h
  refine V_sreg (mb 22 67) [] (s1 := ⟨I d1 :: I p2 :: bt 4 (I y3.2 :: bt 15 []), []⟩) ?_ ?_
  ·refine XR 1 ?_
   refine XC (s_impl_fundamental hy3) cf_impl_fundamental rfl rfl rfl ?_
   exact XE
  obtain ⟨z4, hz4, h⟩ := of_bind h
  refine V_sreg (mb 22 32771) [] (s1 := ⟨I d1 :: I p2 :: bt 13 (Bo (eqI (Int.tmod y3.2 p2) 0) :: bt 6 []), []⟩) ?_ ?_
  ·refine XR 2 ?_
   refine L0 rfl rfl (Y0_rem (k := .i64) (a := y3.2) (b := p2) rfl (by kernel_rfl) (by kernel_rfl) (nz_some hz4)) ?_
   exact XE
  refine V_cond rfl (fun hc5 => ?_) (fun hc5 => ?_)
  ·have h := of_true h hc5
   refine V_e (mb 22 16) [] (s1 := ⟨bt 4 (I 4 :: bt 17 []), []⟩) ?_
   refine V_ret ?_
   obtain rfl := some_inj h
   show Post _ _ _ _ _
   exact ⟨.inr rfl, rfl, rfl, rfl⟩
  ·have h := of_false h hc5
   refine V_skip ?_
   show V _ _ _ _
   obtain ⟨y6, hy6, h⟩ := of_bind h
   obtain ⟨e7, he7, h⟩ := of_bind h
   refine V_sreg (mb 22 16) [] (s1 := ⟨bt 4 (I e7 :: bt 17 []), []⟩) ?_ ?_
   ·refine L0 rfl rfl (Y0_build (cs := [Ti 1, Ti 3, Ti 2]) pl144 bt144 rfl rfl (by kernel_rfl)) ?_
    refine XR 2 ?_
    refine XC (s_impl_kronecker hy6) cf_impl_kronecker rfl rfl rfl ?_
    refine XR 1 ?_
    refine L0 rfl rfl (Y0_indexA (c := fun v => [Ti v]) (xs := [1, 3, 2]) (v := e7) (k := .i64) (n := w64 (y6 + 1)) Tryz.underlying144 sc3 sz3 rfl (by kernel_rfl) (by kernel_rfl) rfl (fun _ => rfl) he7 rfl) ?_
    exact XE
   refine V_ret ?_
   obtain rfl := some_inj h
   show Post _ _ _ _ _
   exact ⟨.inr rfl, rfl, rfl, rfl⟩
theorem cf_impl_KindOfPrime : ∀ args w, (callFunc 23 args).run Tryz.prog w = .ok (.enter 23 args) w := run_callFunc Tryz.func23 (by kernel_rfl) (by kernel_rfl)
theorem s_impl_KindOfPrime {d1 : Int} {p2 : Int} {r : (Int × Bool)} (h : r_impl_KindOfPrime d1 p2 = some r) : CallS Tryz.prog 23 [I d1, I p2] (.tc (I r.1) (.tc (Bo r.2) .tn)) [] := by
  refine CallS_of_text (rs := [.t 4, .t 5]) (vs := [.tmp 4, .tmp 5]) Tryz.func23 rfl rfl (.cons rfl (.cons rfl FitsL.nil)) (by decide) 17 rfl ?_
  unfold r_impl_KindOfPrime at h
  show V _ _ ⟨I d1 :: I p2 :: bt 15 [], []⟩ _
  refine V_e (mb 17 3) [] (s1 := ⟨I d1 :: I p2 :: bt 15 [], []⟩) ?_
  refine V_seq ?_
  obtain ⟨y3, hy3, h⟩ := of_bind h
  obtain ⟨b6, hb6, h⟩ := of_bind h
  refine V_sreg (mb 17 8195) [] (s1 := ⟨I d1 :: I p2 :: bt 11 (Bo b6 :: bt 3 []), []⟩) ?_ ?_
  ·refine XR 1 ?_
   refine XC (s_impl_isDiscriminant hy3) cf_impl_isDiscriminant rfl rfl rfl ?_
   refine XR 2 ?_
   refine XL_split (!y3) (fun hc4 => ?_) (fun hc4 => ?_)
   ·have hb6 := some_inj (of_true hb6 hc4)
    refine XL_skipF _ rfl rfl (by kernel_rfl) hc4 rfl ?_
    refine XL_skipF _ rfl rfl (by kernel_rfl) hc4 rfl ?_
    refine XL_skipF _ rfl rfl (by kernel_rfl) hc4 rfl ?_
    refine XL_cons rfl (X_of_Y0 rfl (Y0_pickTe (b := !y3) (p := true) rfl (by kernel_rfl) hc4 (by kernel_rfl) hb6)) ?_
    exact XE
   ·have hb6 := of_false hb6 hc4
    obtain ⟨y5, hy5, hb6⟩ := of_bind hb6
    have hb6 := some_inj hb6
    refine XL_takeC _ rfl rfl (by kernel_rfl) hc4 (X_of_Y0 rfl (E_move (I p2) rfl (by kernel_rfl))) ?_
    refine XL_takeC _ rfl rfl (by kernel_rfl) hc4 (X_of_Y1 rfl (Y1_call (s_impl_IsPrime hy5) cf_impl_IsPrime rfl (by kernel_rfl))) ?_
    refine XL_takeC _ rfl rfl (by kernel_rfl) hc4 (X_of_Y0 rfl (Y0_not (b := y5) rfl (by kernel_rfl))) ?_
    refine XL_cons rfl (X_of_Y0 rfl (Y0_pickFe (b := !y3) (p := !y5) rfl (by kernel_rfl) hc4 (by kernel_rfl) hb6)) ?_
    exact XE
  refine V_cond rfl (fun hc7 => ?_) (fun hc7 => ?_)
  ·have h := of_true h hc7
   refine V_e (mb 17 48) [] (s1 := ⟨bt 4 (I 0 :: Bo false :: bt 11 []), []⟩) ?_
   refine V_ret ?_
   obtain rfl := some_inj h
   show Post _ _ _ _ _
   exact ⟨.inr rfl, rfl, rfl, rfl⟩
  ·have h := of_false h hc7
   refine V_skip ?_
   show V _ _ _ _
   obtain ⟨y8, hy8, h⟩ := of_bind h
   refine V_sreg (mb 17 48) [] (s1 := ⟨bt 4 (I y8 :: Bo true :: bt 11 []), []⟩) ?_ ?_
   ·refine XR 2 ?_
    refine XC (s_impl_kindOfPrime hy8) cf_impl_kindOfPrime rfl rfl rfl ?_
    exact XE
   refine V_ret ?_
   obtain rfl := some_inj h
   show Post _ _ _ _ _
   exact ⟨.inr rfl, rfl, rfl, rfl⟩
theorem cf_impl_ReducedForms : ∀ args w, (callFunc 16 args).run Tryz.prog w = .ok (.enter 16 args) w := run_callFunc Tryz.func16 (by kernel_rfl) (by kernel_rfl)
theorem s_impl_ReducedForms {d1 : Int} {r : ((List ((Int × Int × Int))) × Bool)} (h : r_impl_ReducedForms d1 = some r) : CallS Tryz.prog 16 [I d1] (.tc (.ow 0) (.tc (Bo r.2) .tn)) [(0, .arr 25 3 (r.1.map c25))] := by
  refine CallS_of_text (rs := [.t 2, .t 3]) (vs := [.tmp 2, .tmp 3]) Tryz.func16 rfl rfl (.cons rfl (.cons rfl FitsL.nil)) (by decide) 10 rfl ?_
  unfold r_impl_ReducedForms at h
  show V _ _ ⟨I d1 :: bt 9 [], []⟩ _
  refine V_sreg (mb 10 1) [] (s1 := ⟨I d1 :: bt 9 [], []⟩) ?_ ?_
  ·refine L1 rfl rfl (Y1_nil (e := 25) 3 (by decide) (.inl rfl)) ?_
   exact XE
  refine V_seq ?_
  obtain ⟨y2, hy2, h⟩ := of_bind h
  refine V_sreg (mb 10 65) [] (s1 := ⟨I d1 :: bt 5 (Bo (!y2) :: bt 3 []), []⟩) ?_ ?_
  ·refine XR 1 ?_
   refine XC (s_impl_isNegativeDisc hy2) cf_impl_isNegativeDisc rfl rfl rfl ?_
   exact XE
  refine V_cond rfl (fun hc3 => ?_) (fun hc3 => ?_)
  ·have h := of_true h hc3
   refine V_sreg (mb 10 12) [56] (s1 := ⟨.bot :: .bot :: .ow 56 :: Bo false :: bt 6 [], [(56, .arr 25 3 ((([] : List ((Int × Int × Int)))).map c25))]⟩) ?_ ?_
   ·refine L1 rfl rfl (Y1_bslice0 Tryz.underlying38 sz25 (by decide) rfl rfl) ?_
    exact XE
   refine V_ret ?_
   obtain rfl := some_inj h
   show Post _ _ _ _ _
   exact ⟨.inr rfl, rfl, rfl, rfl⟩
  ·have h := of_false h hc3
   refine V_skip ?_
   show V _ _ _ _
   obtain ⟨y4, hy4, h⟩ := of_bind h
   refine V_sreg (mb 10 12) [72] (s1 := ⟨.bot :: .bot :: .ow 72 :: Bo true :: bt 6 [], [(72, .arr 25 3 (y4.map c25))]⟩) ?_ ?_
   ·refine XR 1 ?_
    refine XC (s_impl_reducedForms hy4) cf_impl_reducedForms rfl rfl rfl ?_
    exact XE
   refine V_ret ?_
   obtain rfl := some_inj h
   show Post _ _ _ _ _
   exact ⟨.inr rfl, rfl, rfl, rfl⟩
theorem cf_impl_KroneckerSymbol : ∀ args w, (callFunc 24 args).run Tryz.prog w = .ok (.enter 24 args) w := run_callFunc Tryz.func24 (by kernel_rfl) (by kernel_rfl)
theorem s_impl_KroneckerSymbol {a1 : Int} {vn2 : Int} {r : (Int × Bool)} (h : r_impl_KroneckerSymbol a1 vn2 = some r) : CallS Tryz.prog 24 [I a1, I vn2] (.tc (I r.1) (.tc (Bo r.2) .tn)) [] := by
  refine CallS_of_text (rs := [.t 4, .t 5]) (vs := [.tmp 4, .tmp 5]) Tryz.func24 rfl rfl (.cons rfl (.cons rfl FitsL.nil)) (by decide) 14 rfl ?_
  unfold r_impl_KroneckerSymbol at h
  show V _ _ ⟨I a1 :: I vn2 :: bt 12 [], []⟩ _
  refine V_e (mb 14 3) [] (s1 := ⟨I a1 :: I vn2 :: bt 12 [], []⟩) ?_
  refine V_seq ?_
  obtain ⟨y3, hy3, h⟩ := of_bind h
  refine V_sreg (mb 14 1027) [] (s1 := ⟨I a1 :: I vn2 :: bt 8 (Bo (!y3) :: bt 3 []), []⟩) ?_ ?_
  ·refine XR 2 ?_
   refine L1 rfl rfl (Y1_bslice (z := zv3) (els := [a1, vn2].map c3) Tryz.underlying51 iz3 rfl (by decide) rfl (by kernel_rfl) rfl (by simp [c3]) (by decide) (by decide)) ?_
   refine L1 rfl rfl (Y1_callS (s_impl_areNumbers hy3) cf_impl_areNumbers rfl (by kernel_rfl) rfl rfl) ?_
   exact XE
  refine V_cond rfl (fun hc4 => ?_) (fun hc4 => ?_)
  ·have h := of_true h hc4
   refine V_e (mb 14 48) [] (s1 := ⟨bt 4 (I 0 :: Bo false :: bt 8 []), []⟩) ?_
   refine V_ret ?_
   obtain rfl := some_inj h
   show Post _ _ _ _ _
   exact ⟨.inr rfl, rfl, rfl, rfl⟩
  ·have h := of_false h hc4
   refine V_skip ?_
   show V _ _ _ _
   obtain ⟨y5, hy5, h⟩ := of_bind h
   refine V_sreg (mb 14 48) [] (s1 := ⟨bt 4 (I y5 :: Bo true :: bt 8 []), []⟩) ?_ ?_
   ·refine XR 2 ?_
    refine XC (s_impl_kronecker hy5) cf_impl_kronecker rfl rfl rfl ?_
    exact XE
   refine V_ret ?_
   obtain rfl := some_inj h
   show Post _ _ _ _ _
   exact ⟨.inr rfl, rfl, rfl, rfl⟩
theorem cf_impl_isShownPrime : ∀ args w, (callFunc 186 args).run Tryz.prog w = .ok (.enter 186 args) w := run_callFunc Tryz.func186 (by kernel_rfl) (by kernel_rfl)
theorem s_impl_isShownPrime {p1 : Int} {r : Bool} (h : r_impl_isShownPrime p1 = some r) : CallS Tryz.prog 186 [I p1] (Bo r) [] := by
  refine CallS_of_text (rs := [.t 2]) (vs := [.tmp 2]) Tryz.func186 rfl rfl (.cons rfl FitsL.nil) (by decide) 9 rfl ?_
  unfold r_impl_isShownPrime at h
  show V _ _ ⟨I p1 :: bt 8 [], []⟩ _
  refine V_e (mb 9 1) [] (s1 := ⟨I p1 :: bt 8 [], []⟩) ?_
  obtain ⟨b4, hb4, h⟩ := of_bind h
  refine V_sreg (mb 9 4) [] (s1 := ⟨.bot :: .bot :: Bo b4 :: bt 6 [], []⟩) ?_ ?_
  ·refine XR 3 ?_
   refine XL_split (leI p1 10000) (fun hc2 => ?_) (fun hc2 => ?_)
   ·have hb4 := of_true hb4 hc2
    obtain ⟨y3, hy3, hb4⟩ := of_bind hb4
    have hb4 := some_inj hb4
    refine XL_takeC _ rfl rfl (by kernel_rfl) hc2 (X_of_Y0 rfl (E_move (I p1) rfl (by kernel_rfl))) ?_
    refine XL_takeC _ rfl rfl (by kernel_rfl) hc2 (X_of_Y1 rfl (Y1_call (s_impl_isPrime hy3) cf_impl_isPrime rfl (by kernel_rfl))) ?_
    refine XL_cons rfl (X_of_Y0 rfl (Y0_pickTe (b := leI p1 10000) (p := y3) rfl (by kernel_rfl) hc2 (by kernel_rfl) hb4)) ?_
    exact XE
   ·have hb4 := some_inj (of_false hb4 hc2)
    refine XL_skipT _ rfl rfl (by kernel_rfl) hc2 rfl ?_
    refine XL_skipT _ rfl rfl (by kernel_rfl) hc2 rfl ?_
    refine XL_cons rfl (X_of_Y0 rfl (Y0_pickFe (b := leI p1 10000) (p := false) rfl (by kernel_rfl) hc2 (by kernel_rfl) hb4)) ?_
    exact XE
  refine V_ret ?_
  obtain rfl := some_inj h
  show Post _ _ _ _ _
  exact ⟨.inr rfl, rfl, rfl, rfl⟩
theorem cf_impl_primeForm : ∀ args w, (callFunc 187 args).run Tryz.prog w = .ok (.enter 187 args) w := run_callFunc Tryz.func187 (by kernel_rfl) (by kernel_rfl)
theorem s_impl_primeForm {d1 : Int} {p2 : Int} {r : (((Int × Int × Int)) × Bool)} (h : r_impl_primeForm d1 p2 = some r) : CallS Tryz.prog 187 [I d1, I p2] (.tc (.ag [Ti r.1.1, Ti r.1.2.1, Ti r.1.2.2]) (.tc (Bo r.2) .tn)) [] := by
  refine CallS_of_text (rs := [.w 4 3, .t 5]) (vs := [.cell 4 25, .tmp 5]) Tryz.func187 rfl rfl (.cons ⟨rfl, wd25⟩ (.cons rfl FitsL.nil)) (by decide) 38 rfl ?_
  unfold r_impl_primeForm at h
  show V _ _ ⟨I d1 :: I p2 :: bt 36 [], []⟩ _
  refine V_e (mb 38 19) [32] (s1 := ⟨I d1 :: I p2 :: .bot :: .bot :: .pt 32 0 :: bt 33 [], [(32, .box [Ti 0, Ti 0, Ti 0])]⟩) ?_
  refine V_seq ?_
  refine V_e (mb 38 83) [32] (s1 := ⟨I d1 :: I p2 :: .bot :: .bot :: .pt 32 0 :: .bot :: I 0 :: bt 31 [], [(32, .box [Ti 0, Ti 0, Ti 0])]⟩) ?_
  obtain ⟨qo5, hLo5, hko5⟩ := of_bind h
  refine V_toS (q := qo5) (S := fun o5 => ⟨bt 4 (.pt 32 0 :: bt 33 []), [(32, .box [Ti 0, Ti 0, Ti 0])]⟩) (mb 38 16) [32] ?_ ?_
  ·refine V_block (V_loop (fun n s => ∃ (b3 : Int), s.keep (mb 38 83) [32] = (⟨I d1 :: I p2 :: .bot :: .bot :: .pt 32 0 :: .bot :: I b3 :: bt 31 [], [(32, .box [Ti 0, Ti 0, Ti 0])]⟩ : St) ∧ r_impl_primeForm_L4 d1 p2 n b3 = some qo5) FU ⟨_,  by rfl, hLo5⟩ ?_)
   clear hLo5
   rintro n s ⟨b3, hs, h⟩
   refine V_keep _ _ hs ?_
   clear hs
   cases n with
   | zero => cases h
   | succ n =>
    rw [r_impl_primeForm_L4] at h
    refine V_seq ?_
    refine V_e (mb 38 1107) [32] (s1 := ⟨I d1 :: I p2 :: .bot :: .bot :: .pt 32 0 :: .bot :: I b3 :: bt 3 (Bo (leI b3 p2) :: bt 27 []), [(32, .box [Ti 0, Ti 0, Ti 0])]⟩) ?_
    refine V_cond rfl (fun hc6 => ?_) (fun hc6 => ?_)
    ·have h := of_true h hc6
     refine V_skip ?_
     show V _ _ _ _
     refine V_seq ?_
     refine V_block ?_
     obtain ⟨z7, hz7, h⟩ := of_bind h
     refine V_sreg (mb 38 2097235) [32] (s1 := ⟨I d1 :: I p2 :: .bot :: .bot :: .pt 32 0 :: .bot :: I b3 :: bt 14 (Bo (eqI (Int.tmod (w64 ((w64 (b3 * b3)) - d1)) (w64 (4 * p2))) 0) :: bt 16 []), [(32, .box [Ti 0, Ti 0, Ti 0])]⟩) ?_ ?_
     ·refine XR 7 ?_
      refine L0 rfl rfl (Y0_rem (k := .i64) (a := w64 ((w64 (b3 * b3)) - d1)) (b := w64 (4 * p2)) rfl (by kernel_rfl) (by kernel_rfl) (nz_some hz7)) ?_
      exact XE
     refine V_cond rfl (fun hc8 => ?_) (fun hc8 => ?_)
     ·have h := of_true h hc8
      obtain ⟨z9, hz9, h⟩ := of_bind h
      obtain ⟨f10, hf10, h⟩ := of_sI h
      refine V_sreg (mb 38 144) [56, 32] (s1 := ⟨bt 4 (.pt 32 0 :: .bot :: .bot :: .pt 56 0 :: bt 30 []), [(56, .box [Ti p2, Ti b3, Ti f10]), (32, .box [Ti 0, Ti 0, Ti 0])]⟩) ?_ ?_
      ·refine XR 9 ?_
       refine L0 rfl rfl (Y0_quo64 (a := w64 ((w64 (b3 * b3)) - d1)) (b := w64 (4 * p2)) rfl (by kernel_rfl) (by kernel_rfl) (nz_some hz9)) ?_
       refine L0 rfl rfl (Y0_build (cs := [Ti p2, Ti b3, Ti (w64 (Int.tdiv (w64 ((w64 (b3 * b3)) - d1)) (w64 (4 * p2))))]) pl25 bt25 rfl rfl (by kernel_rfl)) ?_
       refine XR 2 ?_
       refine XL_nil ?_
       subst hf10
       kernel_rfl
      obtain ⟨y11, hy11, h⟩ := of_bind h
      refine V_sdreg [0, 0, 2, 6, 7, 31] 5 [[.z, .b, .b, .b, .z], [.b, .z, .z, .z, .z], [.b, .a, .z, .z, .z], [.b, .a, .a, .z, .r 32], [.a, .a, .a, .b, .z]] (mb 38 48) [32] (s1 := ⟨bt 4 (.pt 32 0 :: Bo (eqI y11 1) :: bt 32 []), [(32, .box [Ti p2, Ti b3, Ti f10])]⟩) (by kernel_rfl) (by kernel_rfl) ?_ ?_
      ·refine DR 2 ?_
       refine DC 2 (s_impl_Form_content hy11) cf_impl_Form_content rfl rfl rfl rfl 35 rfl ?_
       refine DA 2 ?_
       exact XE
      refine V_ret ?_
      obtain rfl := some_inj h
      have h := hko5
      obtain rfl := some_inj h
      show Post _ _ _ _ _
      exact ⟨.inr rfl, rfl, rfl, rfl⟩
     ·have h := of_false h hc8
      refine V_skip ?_
      show V _ _ _ _
      obtain ⟨b12, hb12, h⟩ := of_sI h
      refine V_reg (mb 38 83) [32] (s1 := ⟨I d1 :: I p2 :: .bot :: .bot :: .pt 32 0 :: .bot :: I b12 :: bt 31 [], [(32, .box [Ti 0, Ti 0, Ti 0])]⟩) ?_ ?_
      ·refine XR 3 ?_
       refine XL_nil ?_
       subst hb12
       kernel_rfl
      exact ⟨n, Nat.lt_succ_self n, _,  by rfl, h⟩
    ·have h := of_false h hc6
     refine V_exit ?_
     obtain rfl := some_inj h
     exact ⟨_, rfl, by rfl⟩
  rintro o5 rfl
  have h := hko5
  clear hko5
  show V _ _ _ _
  refine V_sreg (mb 38 48) [32] (s1 := ⟨bt 4 (.pt 32 0 :: Bo false :: bt 32 []), [(32, .box [Ti 0, Ti 0, Ti 0])]⟩) ?_ ?_
  ·refine L0 rfl rfl (Y0_build (cs := [Ti 0, Ti 0, Ti 0]) pl25 bt25 rfl rfl (by kernel_rfl)) ?_
   exact XE
  refine V_ret ?_
  obtain rfl := some_inj h
  show Post _ _ _ _ _
  exact ⟨.inr rfl, rfl, rfl, rfl⟩
theorem cf_impl_PrimeForm : ∀ args w, (callFunc 95 args).run Tryz.prog w = .ok (.enter 95 args) w := run_callFunc Tryz.func95 (by kernel_rfl) (by kernel_rfl)
theorem s_impl_PrimeForm {d1 : Int} {p2 : Int} {r : (((Int × Int × Int)) × Bool)} (h : r_impl_PrimeForm d1 p2 = some r) : CallS Tryz.prog 95 [I d1, I p2] (.tc (.ag [Ti r.1.1, Ti r.1.2.1, Ti r.1.2.2]) (.tc (Bo r.2) .tn)) [] := by
  refine CallS_of_text (rs := [.w 4 3, .t 5]) (vs := [.cell 4 25, .tmp 5]) Tryz.func95 rfl rfl (.cons ⟨rfl, wd25⟩ (.cons rfl FitsL.nil)) (by decide) 27 rfl ?_
  unfold r_impl_PrimeForm at h
  show V _ _ ⟨I d1 :: I p2 :: bt 25 [], []⟩ _
  refine V_e (mb 27 19) [32] (s1 := ⟨I d1 :: I p2 :: .bot :: .bot :: .pt 32 0 :: bt 22 [], [(32, .box [Ti 0, Ti 0, Ti 0])]⟩) ?_
  refine V_seq ?_
  obtain ⟨y3, hy3, h⟩ := of_bind h
  obtain ⟨b6, hb6, h⟩ := of_bind h
  refine V_sreg (mb 27 32787) [32] (s1 := ⟨I d1 :: I p2 :: .bot :: .bot :: .pt 32 0 :: bt 10 (Bo b6 :: bt 11 []), [(32, .box [Ti 0, Ti 0, Ti 0])]⟩) ?_ ?_
  ·refine XR 1 ?_
   refine XC (s_impl_isNegativeDisc hy3) cf_impl_isNegativeDisc rfl rfl rfl ?_
   refine XR 2 ?_
   refine XL_split (!y3) (fun hc4 => ?_) (fun hc4 => ?_)
   ·have hb6 := some_inj (of_true hb6 hc4)
    refine XL_skipF _ rfl rfl (by kernel_rfl) hc4 rfl ?_
    refine XL_skipF _ rfl rfl (by kernel_rfl) hc4 rfl ?_
    refine XL_skipF _ rfl rfl (by kernel_rfl) hc4 rfl ?_
    refine XL_cons rfl (X_of_Y0 rfl (Y0_pickTe (b := !y3) (p := true) rfl (by kernel_rfl) hc4 (by kernel_rfl) hb6)) ?_
    exact XE
   ·have hb6 := of_false hb6 hc4
    obtain ⟨y5, hy5, hb6⟩ := of_bind hb6
    have hb6 := some_inj hb6
    refine XL_takeC _ rfl rfl (by kernel_rfl) hc4 (X_of_Y0 rfl (E_move (I p2) rfl (by kernel_rfl))) ?_
    refine XL_takeC _ rfl rfl (by kernel_rfl) hc4 (X_of_Y1 rfl (Y1_call (s_impl_isShownPrime hy5) cf_impl_isShownPrime rfl (by kernel_rfl))) ?_
    refine XL_takeC _ rfl rfl (by kernel_rfl) hc4 (X_of_Y0 rfl (Y0_not (b := y5) rfl (by kernel_rfl))) ?_
    refine XL_cons rfl (X_of_Y0 rfl (Y0_pickFe (b := !y3) (p := !y5) rfl (by kernel_rfl) hc4 (by kernel_rfl) hb6)) ?_
    exact XE
  refine V_cond rfl (fun hc7 => ?_) (fun hc7 => ?_)
  ·have h := of_true h hc7
   refine V_sreg (mb 27 48) [32] (s1 := ⟨bt 4 (.pt 32 0 :: Bo false :: bt 21 []), [(32, .box [Ti 0, Ti 0, Ti 0])]⟩) ?_ ?_
   ·refine L0 rfl rfl (Y0_build (cs := [Ti 0, Ti 0, Ti 0]) pl25 bt25 rfl rfl (by kernel_rfl)) ?_
    exact XE
   refine V_ret ?_
   obtain rfl := some_inj h
   show Post _ _ _ _ _
   exact ⟨.inr rfl, rfl, rfl, rfl⟩
  ·have h := of_false h hc7
   refine V_skip ?_
   show V _ _ _ _
   obtain ⟨y8, hy8, h⟩ := of_bind h
   refine V_sreg (mb 27 208) [48, 32] (s1 := ⟨bt 4 (.pt 32 0 :: .bot :: .pt 48 0 :: Bo y8.2 :: bt 19 []), [(48, .box [Ti y8.1.1, Ti y8.1.2.1, Ti y8.1.2.2]), (32, .box [Ti 0, Ti 0, Ti 0])]⟩) ?_ ?_
   ·refine XR 2 ?_
    refine XC (s_impl_primeForm hy8) cf_impl_primeForm rfl rfl rfl ?_
    exact XE
   refine V_seq ?_
   refine V_e (mb 27 16777296) [48, 32] (s1 := ⟨bt 4 (.pt 32 0 :: .bot :: .pt 48 0 :: bt 17 (Bo (!y8.2) :: .bot :: .bot :: [])), [(48, .box [Ti y8.1.1, Ti y8.1.2.1, Ti y8.1.2.2]), (32, .box [Ti 0, Ti 0, Ti 0])]⟩) ?_
   refine V_cond rfl (fun hc9 => ?_) (fun hc9 => ?_)
   ·have h := of_true h hc9
    refine V_sreg (mb 27 48) [32] (s1 := ⟨bt 4 (.pt 32 0 :: Bo false :: bt 21 []), [(32, .box [Ti 0, Ti 0, Ti 0])]⟩) ?_ ?_
    ·refine L0 rfl rfl (Y0_build (cs := [Ti 0, Ti 0, Ti 0]) pl25 bt25 rfl rfl (by kernel_rfl)) ?_
     exact XE
    refine V_ret ?_
    obtain rfl := some_inj h
    show Post _ _ _ _ _
    exact ⟨.inr rfl, rfl, rfl, rfl⟩
   ·have h := of_false h hc9
    refine V_skip ?_
    show V _ _ _ _
    refine V_e (mb 27 48) [32] (s1 := ⟨bt 4 (.pt 32 0 :: Bo true :: bt 21 []), [(32, .box [Ti y8.1.1, Ti y8.1.2.1, Ti y8.1.2.2])]⟩) ?_
    refine V_ret ?_
    obtain rfl := some_inj h
    show Post _ _ _ _ _
    exact ⟨.inr rfl, rfl, rfl, rfl⟩
theorem cf_impl_PrimeClass : ∀ args w, (callFunc 25 args).run Tryz.prog w = .ok (.enter 25 args) w := run_callFunc Tryz.func25 (by kernel_rfl) (by kernel_rfl)
theorem s_impl_PrimeClass {d1 : Int} {p2 : Int} {r : (((Int × Int × Int)) × Bool)} (h : r_impl_PrimeClass d1 p2 = some r) : CallS Tryz.prog 25 [I d1, I p2] (.tc (.ag [Ti r.1.1, Ti r.1.2.1, Ti r.1.2.2]) (.tc (Bo r.2) .tn)) [] := by
  refine CallS_of_text (rs := [.w 4 3, .t 5]) (vs := [.cell 4 25, .tmp 5]) Tryz.func25 rfl rfl (.cons ⟨rfl, wd25⟩ (.cons rfl FitsL.nil)) (by decide) 19 rfl ?_
  unfold r_impl_PrimeClass at h
  show V _ _ ⟨I d1 :: I p2 :: bt 17 [], []⟩ _
  refine V_e (mb 19 19) [32] (s1 := ⟨I d1 :: I p2 :: .bot :: .bot :: .pt 32 0 :: bt 14 [], [(32, .box [Ti 0, Ti 0, Ti 0])]⟩) ?_
  obtain ⟨y3, hy3, h⟩ := of_bind h
  refine V_sreg (mb 19 208) [48, 32] (s1 := ⟨bt 4 (.pt 32 0 :: .bot :: .pt 48 0 :: Bo y3.2 :: bt 11 []), [(48, .box [Ti y3.1.1, Ti y3.1.2.1, Ti y3.1.2.2]), (32, .box [Ti 0, Ti 0, Ti 0])]⟩) ?_ ?_
  ·refine XR 2 ?_
   refine XC (s_impl_PrimeForm hy3) cf_impl_PrimeForm rfl rfl rfl ?_
   exact XE
  refine V_seq ?_
  refine V_e (mb 19 32848) [48, 32] (s1 := ⟨bt 4 (.pt 32 0 :: .bot :: .pt 48 0 :: bt 8 (Bo (!y3.2) :: bt 3 [])), [(48, .box [Ti y3.1.1, Ti y3.1.2.1, Ti y3.1.2.2]), (32, .box [Ti 0, Ti 0, Ti 0])]⟩) ?_
  refine V_cond rfl (fun hc4 => ?_) (fun hc4 => ?_)
  ·have h := of_true h hc4
   refine V_sreg (mb 19 48) [32] (s1 := ⟨bt 4 (.pt 32 0 :: Bo false :: bt 13 []), [(32, .box [Ti 0, Ti 0, Ti 0])]⟩) ?_ ?_
   ·refine L0 rfl rfl (Y0_build (cs := [Ti 0, Ti 0, Ti 0]) pl25 bt25 rfl rfl (by kernel_rfl)) ?_
    exact XE
   refine V_ret ?_
   obtain rfl := some_inj h
   show Post _ _ _ _ _
   exact ⟨.inr rfl, rfl, rfl, rfl⟩
  ·have h := of_false h hc4
   refine V_skip ?_
   show V _ _ _ _
   obtain ⟨y5, hy5, h⟩ := of_bind h
   refine V_sreg (mb 19 48) [32] (s1 := ⟨bt 4 (.pt 32 0 :: Bo true :: bt 13 []), [(32, .box [Ti y5.1, Ti y5.2.1, Ti y5.2.2])]⟩) ?_ ?_
   ·refine XR 1 ?_
    refine XC (s_impl_reduced hy5) cf_impl_reduced rfl rfl rfl ?_
    exact XE
   refine V_ret ?_
   obtain rfl := some_inj h
   show Post _ _ _ _ _
   exact ⟨.inr rfl, rfl, rfl, rfl⟩
theorem cf_laws_qSum : ∀ args w, (callFunc 26 args).run Tryz.prog w = .ok (.enter 26 args) w := run_callFunc Tryz.func26 (by kernel_rfl) (by kernel_rfl)
theorem s_laws_qSum {l1 : List Int} {r : Int} (h : r_laws_qSum l1 = some r) : CallS Tryz.prog 26 [.c (.sl (l1.map c3))] (I r) [] := by
  refine CallS_of_text (rs := [.t 2]) (vs := [.tmp 2]) Tryz.func26 rfl rfl (.cons rfl FitsL.nil) (by decide) 17 rfl ?_
  unfold r_laws_qSum at h
  show V _ _ ⟨.c (.sl (l1.map c3)) :: bt 16 [], []⟩ _
  refine V_e (mb 17 1) [] (s1 := ⟨.c (.sl (l1.map c3)) :: bt 16 [], []⟩) ?_
  refine V_e (mb 17 9) [] (s1 := ⟨.c (.sl (l1.map c3)) :: .bot :: .bot :: I 0 :: bt 13 [], []⟩) ?_
  refine V_seq ?_
  refine V_sreg (mb 17 456) [] (s1 := ⟨bt 3 (I 0 :: .bot :: .bot :: .c (.sl (l1.map c3)) :: I ((l1.length : Int)) :: I 0 :: bt 8 []), []⟩) ?_ ?_
  ·refine XR 1 ?_
   refine L0 rfl rfl (Y0_lenM (c := c3) (xs := l1) Tryz.underlying51 rfl (by kernel_rfl)) ?_
   exact XE
  obtain ⟨o5, hLo5, h⟩ := of_bind h
  refine V_toK (mb 17 8) [] (s1 := ⟨bt 3 (I o5 :: bt 13 []), []⟩) ?_ ?_
  ·clear h
   refine V_block (V_loop (fun n s => ∃ (sum2 : Int) (t3 : Int), s.keep (mb 17 456) [] = (⟨bt 3 (I sum2 :: .bot :: .bot :: .c (.sl (l1.map c3)) :: I ((l1.length : Int)) :: I t3 :: bt 8 []), []⟩ : St) ∧ r_laws_qSum_L4 l1 n sum2 t3 = some o5) FU ⟨_, _,  by rfl, hLo5⟩ ?_)
   clear hLo5
   rintro n s ⟨sum2, t3, hs, h⟩
   refine V_keep _ _ hs ?_
   clear hs
   cases n with
   | zero => cases h
   | succ n =>
    rw [r_laws_qSum_L4] at h
    refine V_e (mb 17 968) [] (s1 := ⟨bt 3 (I sum2 :: .bot :: .bot :: .c (.sl (l1.map c3)) :: I ((l1.length : Int)) :: I t3 :: Bo (ltI t3 ((l1.length : Int))) :: bt 7 []), []⟩) ?_
    refine V_seq ?_
    refine V_cond rfl (fun hc6 => ?_) (fun hc6 => ?_)
    ·have h := of_true h hc6
     refine V_skip ?_
     show V _ _ _ _
     refine V_seq ?_
     refine V_block ?_
     obtain ⟨e7, he7, h⟩ := of_bind h
     refine V_sreg (mb 17 488) [] (s1 := ⟨bt 3 (I sum2 :: .bot :: I e7 :: .c (.sl (l1.map c3)) :: I ((l1.length : Int)) :: I t3 :: bt 8 []), []⟩) ?_ ?_
     ·refine L0 rfl rfl (Y0_idxM (c := c3) (xs := l1) (v := e7) (n := t3) Tryz.underlying51 sz3 rfl (by kernel_rfl) (by kernel_rfl) he7) ?_
      exact XE
     obtain ⟨sum8, hsum8, h⟩ := of_sI h
     refine V_reg (mb 17 456) [] (s1 := ⟨bt 3 (I sum8 :: .bot :: .bot :: .c (.sl (l1.map c3)) :: I ((l1.length : Int)) :: I t3 :: bt 8 []), []⟩) ?_ ?_
     ·refine XR 4 ?_
      refine XL_nil ?_
      subst hsum8
      kernel_rfl
     show V _ _ _ _
     obtain ⟨t9, ht9, h⟩ := of_sI h
     refine V_reg (mb 17 456) [] (s1 := ⟨bt 3 (I sum8 :: .bot :: .bot :: .c (.sl (l1.map c3)) :: I ((l1.length : Int)) :: I t9 :: bt 8 []), []⟩) ?_ ?_
     ·refine XR 2 ?_
      refine XL_nil ?_
      subst ht9
      kernel_rfl
     exact ⟨n, Nat.lt_succ_self n, _, _,  by rfl, h⟩
    ·have h := of_false h hc6
     refine V_exit ?_
     obtain rfl := some_inj h
     show St.keep _ _ _ = _
     rfl
  show V _ _ _ _
  refine V_e (mb 17 4) [] (s1 := ⟨.bot :: .bot :: I o5 :: bt 14 [], []⟩) ?_
  refine V_ret ?_
  obtain rfl := some_inj h
  show Post _ _ _ _ _
  exact ⟨.inr rfl, rfl, rfl, rfl⟩
theorem cf_laws_numberOf : ∀ args w, (callFunc 17 args).run Tryz.prog w = .ok (.enter 17 args) w := run_callFunc Tryz.func17 (by kernel_rfl) (by kernel_rfl)
theorem s_laws_numberOf {b1 : List Int} {r : Int} (h : r_laws_numberOf b1 = some r) : CallS Tryz.prog 17 [.c (.sl (b1.map c5))] (I r) [] := by
  refine CallS_of_text (rs := [.t 2]) (vs := [.tmp 2]) Tryz.func17 rfl rfl (.cons rfl FitsL.nil) (by decide) 20 rfl ?_
  unfold r_laws_numberOf at h
  show V _ _ ⟨.c (.sl (b1.map c5)) :: bt 19 [], []⟩ _
  refine V_e (mb 20 1) [] (s1 := ⟨.c (.sl (b1.map c5)) :: bt 19 [], []⟩) ?_
  refine V_e (mb 20 9) [] (s1 := ⟨.c (.sl (b1.map c5)) :: .bot :: .bot :: I 0 :: bt 16 [], []⟩) ?_
  refine V_seq ?_
  refine V_sreg (mb 20 456) [] (s1 := ⟨bt 3 (I 0 :: .bot :: .bot :: .c (.sl (b1.map c5)) :: I ((b1.length : Int)) :: I 0 :: bt 11 []), []⟩) ?_ ?_
  ·refine XR 1 ?_
   refine L0 rfl rfl (Y0_lenM (c := c5) (xs := b1) Tryz.underlying22 rfl (by kernel_rfl)) ?_
   exact XE
  obtain ⟨o5, hLo5, h⟩ := of_bind h
  refine V_toK (mb 20 8) [] (s1 := ⟨bt 3 (I o5 :: bt 16 []), []⟩) ?_ ?_
  ·clear h
   refine V_block (V_loop (fun n s => ∃ (vn2 : Int) (t3 : Int), s.keep (mb 20 456) [] = (⟨bt 3 (I vn2 :: .bot :: .bot :: .c (.sl (b1.map c5)) :: I ((b1.length : Int)) :: I t3 :: bt 11 []), []⟩ : St) ∧ r_laws_numberOf_L4 b1 n vn2 t3 = some o5) FU ⟨_, _,  by rfl, hLo5⟩ ?_)
   clear hLo5
   rintro n s ⟨vn2, t3, hs, h⟩
   refine V_keep _ _ hs ?_
   clear hs
   cases n with
   | zero => cases h
   | succ n =>
    rw [r_laws_numberOf_L4] at h
    refine V_e (mb 20 968) [] (s1 := ⟨bt 3 (I vn2 :: .bot :: .bot :: .c (.sl (b1.map c5)) :: I ((b1.length : Int)) :: I t3 :: Bo (ltI t3 ((b1.length : Int))) :: bt 10 []), []⟩) ?_
    refine V_seq ?_
    refine V_cond rfl (fun hc6 => ?_) (fun hc6 => ?_)
    ·have h := of_true h hc6
     refine V_skip ?_
     show V _ _ _ _
     refine V_seq ?_
     refine V_block ?_
     obtain ⟨e7, he7, h⟩ := of_bind h
     refine V_sreg (mb 20 488) [] (s1 := ⟨bt 3 (I vn2 :: .bot :: .c (.v (.int .u8 e7)) :: .c (.sl (b1.map c5)) :: I ((b1.length : Int)) :: I t3 :: bt 11 []), []⟩) ?_ ?_
     ·refine L0 rfl rfl (Y0_idxM (c := c5) (xs := b1) (v := e7) (n := t3) Tryz.underlying22 sz5 rfl (by kernel_rfl) (by kernel_rfl) he7) ?_
      exact XE
     obtain ⟨vn8, hvn8, h⟩ := of_sI h
     refine V_reg (mb 20 456) [] (s1 := ⟨bt 3 (I vn8 :: .bot :: .bot :: .c (.sl (b1.map c5)) :: I ((b1.length : Int)) :: I t3 :: bt 11 []), []⟩) ?_ ?_
     ·refine XR 3 ?_
      refine L0 rfl rfl (Y0_conv (k2 := .u8) (a := e7) Tryz.underlying5 Tryz.underlying3 rfl (by kernel_rfl)) ?_
      refine XR 1 ?_
      refine L0 rfl rfl (Y0_rem (k := .i64) (a := w64 ((w64 (31 * vn2)) + (IntKind.i64.wrap e7))) (b := 1000003) rfl (by kernel_rfl) (by kernel_rfl) (by decide)) ?_
      refine XR 1 ?_
      refine XL_nil ?_
      subst hvn8
      kernel_rfl
     show V _ _ _ _
     obtain ⟨t9, ht9, h⟩ := of_sI h
     refine V_reg (mb 20 456) [] (s1 := ⟨bt 3 (I vn8 :: .bot :: .bot :: .c (.sl (b1.map c5)) :: I ((b1.length : Int)) :: I t9 :: bt 11 []), []⟩) ?_ ?_
     ·refine XR 2 ?_
      refine XL_nil ?_
      subst ht9
      kernel_rfl
     exact ⟨n, Nat.lt_succ_self n, _, _,  by rfl, h⟩
    ·have h := of_false h hc6
     refine V_exit ?_
     obtain rfl := some_inj h
     show St.keep _ _ _ = _
     rfl
  show V _ _ _ _
  refine V_e (mb 20 4) [] (s1 := ⟨.bot :: .bot :: I o5 :: bt 17 [], []⟩) ?_
  refine V_ret ?_
  obtain rfl := some_inj h
  show Post _ _ _ _ _
  exact ⟨.inr rfl, rfl, rfl, rfl⟩
theorem cf_impl_IsForm : ∀ args w, (callFunc 79 args).run Tryz.prog w = .ok (.enter 79 args) w := run_callFunc Tryz.func79 (by kernel_rfl) (by kernel_rfl)
theorem s_impl_IsForm {f1 : (Int × Int × Int)} {r : Bool} (h : r_impl_IsForm f1 = some r) : CallS Tryz.prog 79 [.ag [Ti f1.1, Ti f1.2.1, Ti f1.2.2]] (Bo r) [] := by
  refine CallS_of_text (rs := [.t 2]) (vs := [.tmp 2]) Tryz.func79 rfl rfl (.cons rfl FitsL.nil) (by decide) 11 rfl ?_
  unfold r_impl_IsForm at h
  show V _ _ ⟨.ag [Ti f1.1, Ti f1.2.1, Ti f1.2.2] :: bt 10 [], []⟩ _
  refine V_e (mb 11 2) [8] (s1 := ⟨.bot :: .pt 8 0 :: bt 9 [], [(8, .box [Ti f1.1, Ti f1.2.1, Ti f1.2.2])]⟩) ?_
  obtain ⟨y2, hy2, h⟩ := of_bind h
  refine V_sreg (mb 11 4) [] (s1 := ⟨.bot :: .bot :: Bo y2 :: bt 8 [], []⟩) ?_ ?_
  ·refine XR 6 ?_
   refine L1 rfl rfl (Y1_bslice (z := zv3) (els := [f1.1, f1.2.1, f1.2.2].map c3) Tryz.underlying51 iz3 rfl (by decide) rfl (by kernel_rfl) rfl (by simp [c3]) (by decide) (by decide)) ?_
   refine L1 rfl rfl (Y1_callS (s_impl_areNumbers hy2) cf_impl_areNumbers rfl (by kernel_rfl) rfl rfl) ?_
   exact XE
  refine V_ret ?_
  obtain rfl := some_inj h
  show Post _ _ _ _ _
  exact ⟨.inr rfl, rfl, rfl, rfl⟩
theorem cf_impl_Form_disc : ∀ args w, (callFunc 76 args).run Tryz.prog w = .ok (.enter 76 args) w := run_callFunc Tryz.func76 (by kernel_rfl) (by kernel_rfl)
theorem s_impl_Form_disc {f1 : (Int × Int × Int)} {r : Int} (h : r_impl_Form_disc f1 = some r) : CallS Tryz.prog 76 [.ag [Ti f1.1, Ti f1.2.1, Ti f1.2.2]] (I r) [] := by
  refine CallS_of_text (rs := [.t 2]) (vs := [.tmp 2]) Tryz.func76 rfl rfl (.cons rfl FitsL.nil) (by decide) 15 rfl ?_
  unfold r_impl_Form_disc at h
  show V _ _ ⟨.ag [Ti f1.1, Ti f1.2.1, Ti f1.2.2] :: bt 14 [], []⟩ _
  refine V_e (mb 15 2) [8] (s1 := ⟨.bot :: .pt 8 0 :: bt 13 [], [(8, .box [Ti f1.1, Ti f1.2.1, Ti f1.2.2])]⟩) ?_
  obtain ⟨t2, ht2, h⟩ := of_sI h
  refine V_sreg (mb 15 4) [] (s1 := ⟨.bot :: .bot :: I t2 :: bt 12 [], []⟩) ?_ ?_
  ·refine XR 13 ?_
   refine XL_nil ?_
   subst ht2
   kernel_rfl
  refine V_ret ?_
  obtain rfl := some_inj h
  show Post _ _ _ _ _
  exact ⟨.inr rfl, rfl, rfl, rfl⟩
theorem cf_impl_isDefinite : ∀ args w, (callFunc 103 args).run Tryz.prog w = .ok (.enter 103 args) w := run_callFunc Tryz.func103 (by kernel_rfl) (by kernel_rfl)
theorem s_impl_isDefinite {f1 : (Int × Int × Int)} {r : Bool} (h : r_impl_isDefinite f1 = some r) : CallS Tryz.prog 103 [.ag [Ti f1.1, Ti f1.2.1, Ti f1.2.2]] (Bo r) [] := by
  refine CallS_of_text (rs := [.t 2]) (vs := [.tmp 2]) Tryz.func103 rfl rfl (.cons rfl FitsL.nil) (by decide) 15 rfl ?_
  unfold r_impl_isDefinite at h
  show V _ _ ⟨.ag [Ti f1.1, Ti f1.2.1, Ti f1.2.2] :: bt 14 [], []⟩ _
  refine V_e (mb 15 2) [8] (s1 := ⟨.bot :: .pt 8 0 :: bt 13 [], [(8, .box [Ti f1.1, Ti f1.2.1, Ti f1.2.2])]⟩) ?_
  obtain ⟨y2, hy2, h⟩ := of_bind h
  obtain ⟨b5, hb5, h⟩ := of_bind h
  refine V_sreg (mb 15 4) [] (s1 := ⟨.bot :: .bot :: Bo (bif b5 then (ltI 0 f1.1) else false) :: bt 12 [], []⟩) ?_ ?_
  ·refine XR 1 ?_
   refine XC (s_impl_IsForm hy2) cf_impl_IsForm rfl rfl rfl ?_
   refine XR 1 ?_
   refine XL_split y2 (fun hc3 => ?_) (fun hc3 => ?_)
   ·have hb5 := of_true hb5 hc3
    obtain ⟨y4, hy4, hb5⟩ := of_bind hb5
    have hb5 := some_inj hb5
    refine XL_takeC _ rfl rfl (by kernel_rfl) hc3 (X_of_Y0 rfl (E_loadn (cs := [Ti f1.1, Ti f1.2.1, Ti f1.2.2]) [Ti f1.1, Ti f1.2.1, Ti f1.2.2] wd25 rfl (by kernel_rfl) (Nat.le_of_ble_eq_true rfl) (by kernel_rfl))) ?_
    refine XL_takeC _ rfl rfl (by kernel_rfl) hc3 (X_of_Y1 rfl (Y1_call (s_impl_Form_disc hy4) cf_impl_Form_disc rfl (by kernel_rfl))) ?_
    refine XL_takeC _ rfl rfl (by kernel_rfl) hc3 (X_of_Y0 rfl (Y0_ltw (k := .i64) (a := y4) (b := 0) rfl (by kernel_rfl) (by kernel_rfl))) ?_
    refine XL_cons rfl (X_of_Y0 rfl (Y0_pickTe (b := y2) (p := ltI y4 0) rfl (by kernel_rfl) hc3 (by kernel_rfl) hb5)) ?_
    refine XR 1 ?_
    refine XL_split b5 (fun hc6 => ?_) (fun hc6 => ?_)
    ·refine XL_takeC _ rfl rfl (by kernel_rfl) hc6 (X_of_Y0 rfl (E_field (.pt 8 0) Tryz.underlying25 rfl sz3 rfl (by kernel_rfl) (by intro hh; cases hh))) ?_
     refine XL_takeC _ rfl rfl (by kernel_rfl) hc6 (X_of_Y0 rfl (Y0_load1 (c := Ti f1.1) (cs := [Ti f1.2.1, Ti f1.2.2]) sc3 rfl (by kernel_rfl))) ?_
     refine XL_takeC _ rfl rfl (by kernel_rfl) hc6 (X_of_Y0 rfl (Y0_gtw (k := .i64) (a := f1.1) (b := 0) rfl (by kernel_rfl) (by kernel_rfl))) ?_
     refine XL_cons rfl (X_of_Y0 rfl (Y0_pick1 (b := b5) (p := ltI 0 f1.1) (q := false) rfl (by kernel_rfl) hc6 (by kernel_rfl))) ?_
     exact XE
    ·refine XL_skipT _ rfl rfl (by kernel_rfl) hc6 rfl ?_
     refine XL_skipT _ rfl rfl (by kernel_rfl) hc6 rfl ?_
     refine XL_skipT _ rfl rfl (by kernel_rfl) hc6 rfl ?_
     refine XL_cons rfl (X_of_Y0 rfl (Y0_pick0 (b := b5) (p := ltI 0 f1.1) (q := false) rfl (by kernel_rfl) hc6 (by kernel_rfl))) ?_
     exact XE
   ·have hb5 := some_inj (of_false hb5 hc3)
    refine XL_skipT _ rfl rfl (by kernel_rfl) hc3 rfl ?_
    refine XL_skipT _ rfl rfl (by kernel_rfl) hc3 rfl ?_
    refine XL_skipT _ rfl rfl (by kernel_rfl) hc3 rfl ?_
    refine XL_cons rfl (X_of_Y0 rfl (Y0_pickFe (b := y2) (p := false) rfl (by kernel_rfl) hc3 (by kernel_rfl) hb5)) ?_
    refine XR 1 ?_
    refine XL_split b5 (fun hc6 => ?_) (fun hc6 => ?_)
    ·refine XL_takeC _ rfl rfl (by kernel_rfl) hc6 (X_of_Y0 rfl (E_field (.pt 8 0) Tryz.underlying25 rfl sz3 rfl (by kernel_rfl) (by intro hh; cases hh))) ?_
     refine XL_takeC _ rfl rfl (by kernel_rfl) hc6 (X_of_Y0 rfl (Y0_load1 (c := Ti f1.1) (cs := [Ti f1.2.1, Ti f1.2.2]) sc3 rfl (by kernel_rfl))) ?_
     refine XL_takeC _ rfl rfl (by kernel_rfl) hc6 (X_of_Y0 rfl (Y0_gtw (k := .i64) (a := f1.1) (b := 0) rfl (by kernel_rfl) (by kernel_rfl))) ?_
     refine XL_cons rfl (X_of_Y0 rfl (Y0_pick1 (b := b5) (p := ltI 0 f1.1) (q := false) rfl (by kernel_rfl) hc6 (by kernel_rfl))) ?_
     exact XE
    ·refine XL_skipT _ rfl rfl (by kernel_rfl) hc6 rfl ?_
     refine XL_skipT _ rfl rfl (by kernel_rfl) hc6 rfl ?_
     refine XL_skipT _ rfl rfl (by kernel_rfl) hc6 rfl ?_
     refine XL_cons rfl (X_of_Y0 rfl (Y0_pick0 (b := b5) (p := ltI 0 f1.1) (q := false) rfl (by kernel_rfl) hc6 (by kernel_rfl))) ?_
     exact XE
  refine V_ret ?_
  obtain rfl := some_inj h
  show Post _ _ _ _ _
  exact ⟨.inr rfl, rfl, rfl, rfl⟩
theorem cf_impl_isShownForm : ∀ args w, (callFunc 167 args).run Tryz.prog w = .ok (.enter 167 args) w := run_callFunc Tryz.func167 (by kernel_rfl) (by kernel_rfl)
theorem s_impl_isShownForm {f1 : (Int × Int × Int)} {r : Bool} (h : r_impl_isShownForm f1 = some r) : CallS Tryz.prog 167 [.ag [Ti f1.1, Ti f1.2.1, Ti f1.2.2]] (Bo r) [] := by
  refine CallS_of_text (rs := [.t 2]) (vs := [.tmp 2]) Tryz.func167 rfl rfl (.cons rfl FitsL.nil) (by decide) 10 rfl ?_
  unfold r_impl_isShownForm at h
  show V _ _ ⟨.ag [Ti f1.1, Ti f1.2.1, Ti f1.2.2] :: bt 9 [], []⟩ _
  refine V_e (mb 10 2) [8] (s1 := ⟨.bot :: .pt 8 0 :: bt 8 [], [(8, .box [Ti f1.1, Ti f1.2.1, Ti f1.2.2])]⟩) ?_
  obtain ⟨y2, hy2, h⟩ := of_bind h
  obtain ⟨b5, hb5, h⟩ := of_bind h
  refine V_sreg (mb 10 4) [] (s1 := ⟨.bot :: .bot :: Bo b5 :: bt 7 [], []⟩) ?_ ?_
  ·refine XR 1 ?_
   refine XC (s_impl_isDefinite hy2) cf_impl_isDefinite rfl rfl rfl ?_
   refine XR 1 ?_
   refine XL_split y2 (fun hc3 => ?_) (fun hc3 => ?_)
   ·have hb5 := of_true hb5 hc3
    obtain ⟨y4, hy4, hb5⟩ := of_bind hb5
    have hb5 := some_inj hb5
    refine XL_takeC _ rfl rfl (by kernel_rfl) hc3 (X_of_Y0 rfl (E_loadn (cs := [Ti f1.1, Ti f1.2.1, Ti f1.2.2]) [Ti f1.1, Ti f1.2.1, Ti f1.2.2] wd25 rfl (by kernel_rfl) (Nat.le_of_ble_eq_true rfl) (by kernel_rfl))) ?_
    refine XL_takeC _ rfl rfl (by kernel_rfl) hc3 (X_of_Y1 rfl (Y1_call (s_impl_Form_disc hy4) cf_impl_Form_disc rfl (by kernel_rfl))) ?_
    refine XL_takeC _ rfl rfl (by kernel_rfl) hc3 (X_of_Y0 rfl (Y0_gew (k := .i64) (a := y4) (b := -2000) rfl (by kernel_rfl) (by kernel_rfl))) ?_
    refine XL_cons rfl (X_of_Y0 rfl (Y0_pickTe (b := y2) (p := leI (-2000) y4) rfl (by kernel_rfl) hc3 (by kernel_rfl) hb5)) ?_
    exact XE
   ·have hb5 := some_inj (of_false hb5 hc3)
    refine XL_skipT _ rfl rfl (by kernel_rfl) hc3 rfl ?_
    refine XL_skipT _ rfl rfl (by kernel_rfl) hc3 rfl ?_
    refine XL_skipT _ rfl rfl (by kernel_rfl) hc3 rfl ?_
    refine XL_cons rfl (X_of_Y0 rfl (Y0_pickFe (b := y2) (p := false) rfl (by kernel_rfl) hc3 (by kernel_rfl) hb5)) ?_
    exact XE
  refine V_ret ?_
  obtain rfl := some_inj h
  show Post _ _ _ _ _
  exact ⟨.inr rfl, rfl, rfl, rfl⟩
theorem cf_impl_isClassForm : ∀ args w, (callFunc 73 args).run Tryz.prog w = .ok (.enter 73 args) w := run_callFunc Tryz.func73 (by kernel_rfl) (by kernel_rfl)
theorem s_impl_isClassForm {f1 : (Int × Int × Int)} {r : Bool} (h : r_impl_isClassForm f1 = some r) : CallS Tryz.prog 73 [.ag [Ti f1.1, Ti f1.2.1, Ti f1.2.2]] (Bo r) [] := by
  refine CallS_of_text (rs := [.t 2]) (vs := [.tmp 2]) Tryz.func73 rfl rfl (.cons rfl FitsL.nil) (by decide) 10 rfl ?_
  unfold r_impl_isClassForm at h
  show V _ _ ⟨.ag [Ti f1.1, Ti f1.2.1, Ti f1.2.2] :: bt 9 [], []⟩ _
  refine V_e (mb 10 2) [8] (s1 := ⟨.bot :: .pt 8 0 :: bt 8 [], [(8, .box [Ti f1.1, Ti f1.2.1, Ti f1.2.2])]⟩) ?_
  obtain ⟨y2, hy2, h⟩ := of_bind h
  obtain ⟨b5, hb5, h⟩ := of_bind h
  refine V_sreg (mb 10 4) [] (s1 := ⟨.bot :: .bot :: Bo b5 :: bt 7 [], []⟩) ?_ ?_
  ·refine XR 1 ?_
   refine XC (s_impl_isShownForm hy2) cf_impl_isShownForm rfl rfl rfl ?_
   refine XR 1 ?_
   refine XL_split y2 (fun hc3 => ?_) (fun hc3 => ?_)
   ·have hb5 := of_true hb5 hc3
    obtain ⟨y4, hy4, hb5⟩ := of_bind hb5
    have hb5 := some_inj hb5
    refine XL_takeC _ rfl rfl (by kernel_rfl) hc3 (X_of_Y0 rfl (E_loadn (cs := [Ti f1.1, Ti f1.2.1, Ti f1.2.2]) [Ti f1.1, Ti f1.2.1, Ti f1.2.2] wd25 rfl (by kernel_rfl) (Nat.le_of_ble_eq_true rfl) (by kernel_rfl))) ?_
    refine XL_takeC _ rfl rfl (by kernel_rfl) hc3 (X_of_Y1 rfl (Y1_call (s_impl_Form_content hy4) cf_impl_Form_content rfl (by kernel_rfl))) ?_
    refine XL_takeC _ rfl rfl (by kernel_rfl) hc3 (X_of_Y0 rfl (Y0_eqw (k := .i64) (a := y4) (b := 1) rfl (by kernel_rfl) (by kernel_rfl))) ?_
    refine XL_cons rfl (X_of_Y0 rfl (Y0_pickTe (b := y2) (p := eqI y4 1) rfl (by kernel_rfl) hc3 (by kernel_rfl) hb5)) ?_
    exact XE
   ·have hb5 := some_inj (of_false hb5 hc3)
    refine XL_skipT _ rfl rfl (by kernel_rfl) hc3 rfl ?_
    refine XL_skipT _ rfl rfl (by kernel_rfl) hc3 rfl ?_
    refine XL_skipT _ rfl rfl (by kernel_rfl) hc3 rfl ?_
    refine XL_cons rfl (X_of_Y0 rfl (Y0_pickFe (b := y2) (p := false) rfl (by kernel_rfl) hc3 (by kernel_rfl) hb5)) ?_
    exact XE
  refine V_ret ?_
  obtain rfl := some_inj h
  show Post _ _ _ _ _
  exact ⟨.inr rfl, rfl, rfl, rfl⟩
theorem cf_impl_NeighbourClasses : ∀ args w, (callFunc 27 args).run Tryz.prog w = .ok (.enter 27 args) w := run_callFunc Tryz.func27 (by kernel_rfl) (by kernel_rfl)
theorem s_impl_NeighbourClasses {f1 : (Int × Int × Int)} {p2 : Int} {r : ((List ((Int × Int × Int))) × Bool)} (h : r_impl_NeighbourClasses f1 p2 = some r) : CallS Tryz.prog 27 [.ag [Ti f1.1, Ti f1.2.1, Ti f1.2.2], I p2] (.tc (.ow 0) (.tc (Bo r.2) .tn)) [(0, .arr 25 3 (r.1.map c25))] := by
  refine CallS_of_text (rs := [.t 4, .t 5]) (vs := [.tmp 4, .tmp 5]) Tryz.func27 rfl rfl (.cons rfl (.cons rfl FitsL.nil)) (by decide) 19 rfl ?_
  unfold r_impl_NeighbourClasses at h
  show V _ _ ⟨.ag [Ti f1.1, Ti f1.2.1, Ti f1.2.2] :: I p2 :: bt 17 [], []⟩ _
  refine V_sreg (mb 19 6) [16] (s1 := ⟨.bot :: I p2 :: .pt 16 0 :: bt 16 [], [(16, .box [Ti f1.1, Ti f1.2.1, Ti f1.2.2])]⟩) ?_ ?_
  ·refine XR 1 ?_
   refine L1 rfl rfl (Y1_nil (e := 25) 3 (by decide) (.inl rfl)) ?_
   exact XE
  refine V_seq ?_
  obtain ⟨y3, hy3, h⟩ := of_bind h
  obtain ⟨b6, hb6, h⟩ := of_bind h
  refine V_sreg (mb 19 8198) [16] (s1 := ⟨.bot :: I p2 :: .pt 16 0 :: bt 10 (Bo b6 :: bt 5 []), [(16, .box [Ti f1.1, Ti f1.2.1, Ti f1.2.2])]⟩) ?_ ?_
  ·refine XR 1 ?_
   refine XC (s_impl_isClassForm hy3) cf_impl_isClassForm rfl rfl rfl ?_
   refine XR 2 ?_
   refine XL_split (!y3) (fun hc4 => ?_) (fun hc4 => ?_)
   ·have hb6 := some_inj (of_true hb6 hc4)
    refine XL_skipF _ rfl rfl (by kernel_rfl) hc4 rfl ?_
    refine XL_skipF _ rfl rfl (by kernel_rfl) hc4 rfl ?_
    refine XL_skipF _ rfl rfl (by kernel_rfl) hc4 rfl ?_
    refine XL_cons rfl (X_of_Y0 rfl (Y0_pickTe (b := !y3) (p := true) rfl (by kernel_rfl) hc4 (by kernel_rfl) hb6)) ?_
    exact XE
   ·have hb6 := of_false hb6 hc4
    obtain ⟨y5, hy5, hb6⟩ := of_bind hb6
    have hb6 := some_inj hb6
    refine XL_takeC _ rfl rfl (by kernel_rfl) hc4 (X_of_Y0 rfl (E_move (I p2) rfl (by kernel_rfl))) ?_
    refine XL_takeC _ rfl rfl (by kernel_rfl) hc4 (X_of_Y1 rfl (Y1_call (s_impl_isIndex hy5) cf_impl_isIndex rfl (by kernel_rfl))) ?_
    refine XL_takeC _ rfl rfl (by kernel_rfl) hc4 (X_of_Y0 rfl (Y0_not (b := y5) rfl (by kernel_rfl))) ?_
    refine XL_cons rfl (X_of_Y0 rfl (Y0_pickFe (b := !y3) (p := !y5) rfl (by kernel_rfl) hc4 (by kernel_rfl) hb6)) ?_
    exact XE
  refine V_cond rfl (fun hc7 => ?_) (fun hc7 => ?_)
  ·have h := of_true h hc7
   refine V_sreg (mb 19 48) [112] (s1 := ⟨bt 4 (.ow 112 :: Bo false :: bt 13 []), [(112, .arr 25 3 ((([] : List ((Int × Int × Int)))).map c25))]⟩) ?_ ?_
   ·refine L1 rfl rfl (Y1_bslice0 Tryz.underlying38 sz25 (by decide) rfl rfl) ?_
    exact XE
   refine V_ret ?_
   obtain rfl := some_inj h
   show Post _ _ _ _ _
   exact ⟨.inr rfl, rfl, rfl, rfl⟩
  ·have h := of_false h hc7
   refine V_skip ?_
   show V _ _ _ _
   obtain ⟨y8, hy8, h⟩ := of_bind h
   obtain ⟨y9, hy9, h⟩ := of_bind h
   refine V_sreg (mb 19 48) [144] (s1 := ⟨bt 4 (.ow 144 :: Bo true :: bt 13 []), [(144, .arr 25 3 (y9.map c25))]⟩) ?_ ?_
   ·refine XR 1 ?_
    refine XC (s_impl_reduced hy8) cf_impl_reduced rfl rfl rfl ?_
    refine XR 1 ?_
    refine XC (s_impl_neighbours hy9) cf_impl_neighbours rfl rfl rfl ?_
    exact XE
   refine V_ret ?_
   obtain rfl := some_inj h
   show Post _ _ _ _ _
   exact ⟨.inr rfl, rfl, rfl, rfl⟩
theorem cf_impl_arePair : ∀ args w, (callFunc 82 args).run Tryz.prog w = .ok (.enter 82 args) w := run_callFunc Tryz.func82 (by kernel_rfl) (by kernel_rfl)
theorem s_impl_arePair {f1 : (Int × Int × Int)} {g2 : (Int × Int × Int)} {r : Bool} (h : r_impl_arePair f1 g2 = some r) : CallS Tryz.prog 82 [.ag [Ti f1.1, Ti f1.2.1, Ti f1.2.2], .ag [Ti g2.1, Ti g2.2.1, Ti g2.2.2]] (Bo r) [] := by
  refine CallS_of_text (rs := [.t 4]) (vs := [.tmp 4]) Tryz.func82 rfl rfl (.cons rfl FitsL.nil) (by decide) 18 rfl ?_
  unfold r_impl_arePair at h
  show V _ _ ⟨.ag [Ti f1.1, Ti f1.2.1, Ti f1.2.2] :: .ag [Ti g2.1, Ti g2.2.1, Ti g2.2.2] :: bt 16 [], []⟩ _
  refine V_e (mb 18 12) [24, 16] (s1 := ⟨.bot :: .bot :: .pt 16 0 :: .pt 24 0 :: bt 14 [], [(24, .box [Ti g2.1, Ti g2.2.1, Ti g2.2.2]), (16, .box [Ti f1.1, Ti f1.2.1, Ti f1.2.2])]⟩) ?_
  obtain ⟨y3, hy3, h⟩ := of_bind h
  obtain ⟨b6, hb6, h⟩ := of_bind h
  obtain ⟨b10, hb10, h⟩ := of_bind h
  refine V_sdreg [0, 1, 3, 7, 15, 31, 63, 127, 255, 127, 1023, 2047, 4095, 8191] 14 (cdm 14 [0, 1, 5, 21, 85, 341, 1365, 529749, 546133, 169301, 349525, 1398101, 5592405, 22369621]) (mb 18 16) [] (s1 := ⟨bt 4 (Bo b10 :: bt 13 []), []⟩) (by kernel_rfl) (by kernel_rfl) ?_ ?_
  ·refine DR 1 ?_
   refine DC 1 (s_impl_isClassForm hy3) cf_impl_isClassForm rfl rfl rfl rfl 6 rfl ?_
   refine DR 1 ?_
   refine DL_split y3 (fun hc4 => ?_) (fun hc4 => ?_)
   ·have hb6 := of_true hb6 hc4
    obtain ⟨y5, hy5, hb6⟩ := of_bind hb6
    have hb6 := some_inj hb6
    refine DE_0 3 (.ag [Ti g2.1, Ti g2.2.1, Ti g2.2.2]) (by kernel_rfl) rfl rfl rfl (gsat_C (y3) rfl rfl (by kernel_rfl) hc4) (by kernel_rfl) (E_loadn (cs := [Ti g2.1, Ti g2.2.1, Ti g2.2.2]) [Ti g2.1, Ti g2.2.1, Ti g2.2.2] wd25 rfl (by kernel_rfl) (Nat.le_of_ble_eq_true rfl) (by kernel_rfl)) 8 rfl ?_
    refine DE_1 4 (by kernel_rfl) rfl rfl rfl (gsat_C (y3) rfl rfl (by kernel_rfl) hc4) (Y1_call (s_impl_isClassForm hy5) cf_impl_isClassForm rfl (by kernel_rfl)) rfl rfl rfl 9 rfl ?_
    refine DE_0 5 (Bo (b6)) (by kernel_rfl) rfl rfl rfl (gsat_none rfl) (by kernel_rfl) (Y0_pickTe (b := y3) (p := y5) rfl (by kernel_rfl) hc4 (by kernel_rfl) hb6) 10 rfl ?_
    refine DR 1 ?_
    refine DL_split b6 (fun hc7 => ?_) (fun hc7 => ?_)
    ·have hb10 := of_true hb10 hc7
     obtain ⟨y8, hy8, hb10⟩ := of_bind hb10
     obtain ⟨y9, hy9, hb10⟩ := of_bind hb10
     have hb10 := some_inj hb10
     refine DE_0 7 (.ag [Ti f1.1, Ti f1.2.1, Ti f1.2.2]) (by kernel_rfl) rfl rfl rfl (gsat_C (b6) rfl rfl (by kernel_rfl) hc7) (by kernel_rfl) (E_loadn (cs := [Ti f1.1, Ti f1.2.1, Ti f1.2.2]) [Ti f1.1, Ti f1.2.1, Ti f1.2.2] wd25 rfl (by kernel_rfl) (Nat.le_of_ble_eq_true rfl) (by kernel_rfl)) 12 rfl ?_
     refine DE_1 8 (by kernel_rfl) rfl rfl rfl (gsat_C (b6) rfl rfl (by kernel_rfl) hc7) (Y1_call (s_impl_Form_disc hy8) cf_impl_Form_disc rfl (by kernel_rfl)) rfl rfl rfl 13 rfl ?_
     refine DE_0 9 (.ag [Ti g2.1, Ti g2.2.1, Ti g2.2.2]) (by kernel_rfl) rfl rfl rfl (gsat_C (b6) rfl rfl (by kernel_rfl) hc7) (by kernel_rfl) (E_loadn (cs := [Ti g2.1, Ti g2.2.1, Ti g2.2.2]) [Ti g2.1, Ti g2.2.1, Ti g2.2.2] wd25 rfl (by kernel_rfl) (Nat.le_of_ble_eq_true rfl) (by kernel_rfl)) 14 rfl ?_
     refine DE_1 10 (by kernel_rfl) rfl rfl rfl (gsat_C (b6) rfl rfl (by kernel_rfl) hc7) (Y1_call (s_impl_Form_disc hy9) cf_impl_Form_disc rfl (by kernel_rfl)) rfl rfl rfl 15 rfl ?_
     refine DE_0 11 (Bo (eqI y8 y9)) (by kernel_rfl) rfl rfl rfl (gsat_C (b6) rfl rfl (by kernel_rfl) hc7) (by kernel_rfl) (Y0_eqw (k := .i64) (a := y8) (b := y9) rfl (by kernel_rfl) (by kernel_rfl)) 16 rfl ?_
     refine DE_0 12 (Bo (b10)) (by kernel_rfl) rfl rfl rfl (gsat_none rfl) (by kernel_rfl) (Y0_pickTe (b := b6) (p := eqI y8 y9) rfl (by kernel_rfl) hc7 (by kernel_rfl) hb10) 17 rfl ?_
     refine DA 1 ?_
     exact XE
    ·have hb10 := some_inj (of_false hb10 hc7)
     refine DE_t 7 (by kernel_rfl) rfl rfl rfl (gun_T (b6) rfl rfl (by kernel_rfl) hc7) 12 rfl ?_
     refine DE_t 8 (by kernel_rfl) rfl rfl rfl (gun_T (b6) rfl rfl (by kernel_rfl) hc7) 13 rfl ?_
     refine DE_t 9 (by kernel_rfl) rfl rfl rfl (gun_T (b6) rfl rfl (by kernel_rfl) hc7) 14 rfl ?_
     refine DE_t 10 (by kernel_rfl) rfl rfl rfl (gun_T (b6) rfl rfl (by kernel_rfl) hc7) 15 rfl ?_
     refine DE_t 11 (by kernel_rfl) rfl rfl rfl (gun_T (b6) rfl rfl (by kernel_rfl) hc7) 16 rfl ?_
     refine DE_0 12 (Bo (b10)) (by kernel_rfl) rfl rfl rfl (gsat_none rfl) (by kernel_rfl) (Y0_pickFe (b := b6) (p := false) rfl (by kernel_rfl) hc7 (by kernel_rfl) hb10) 17 rfl ?_
     refine DA 1 ?_
     exact XE
   ·have hb6 := some_inj (of_false hb6 hc4)
    refine DE_t 3 (by kernel_rfl) rfl rfl rfl (gun_T (y3) rfl rfl (by kernel_rfl) hc4) 8 rfl ?_
    refine DE_t 4 (by kernel_rfl) rfl rfl rfl (gun_T (y3) rfl rfl (by kernel_rfl) hc4) 9 rfl ?_
    refine DE_0 5 (Bo (b6)) (by kernel_rfl) rfl rfl rfl (gsat_none rfl) (by kernel_rfl) (Y0_pickFe (b := y3) (p := false) rfl (by kernel_rfl) hc4 (by kernel_rfl) hb6) 10 rfl ?_
    refine DR 1 ?_
    refine DL_split b6 (fun hc7 => ?_) (fun hc7 => ?_)
    ·have hb10 := of_true hb10 hc7
     obtain ⟨y8, hy8, hb10⟩ := of_bind hb10
     obtain ⟨y9, hy9, hb10⟩ := of_bind hb10
     have hb10 := some_inj hb10
     refine DE_0 7 (.ag [Ti f1.1, Ti f1.2.1, Ti f1.2.2]) (by kernel_rfl) rfl rfl rfl (gsat_C (b6) rfl rfl (by kernel_rfl) hc7) (by kernel_rfl) (E_loadn (cs := [Ti f1.1, Ti f1.2.1, Ti f1.2.2]) [Ti f1.1, Ti f1.2.1, Ti f1.2.2] wd25 rfl (by kernel_rfl) (Nat.le_of_ble_eq_true rfl) (by kernel_rfl)) 12 rfl ?_
     refine DE_1 8 (by kernel_rfl) rfl rfl rfl (gsat_C (b6) rfl rfl (by kernel_rfl) hc7) (Y1_call (s_impl_Form_disc hy8) cf_impl_Form_disc rfl (by kernel_rfl)) rfl rfl rfl 13 rfl ?_
     refine DE_0 9 (.ag [Ti g2.1, Ti g2.2.1, Ti g2.2.2]) (by kernel_rfl) rfl rfl rfl (gsat_C (b6) rfl rfl (by kernel_rfl) hc7) (by kernel_rfl) (E_loadn (cs := [Ti g2.1, Ti g2.2.1, Ti g2.2.2]) [Ti g2.1, Ti g2.2.1, Ti g2.2.2] wd25 rfl (by kernel_rfl) (Nat.le_of_ble_eq_true rfl) (by kernel_rfl)) 14 rfl ?_
     refine DE_1 10 (by kernel_rfl) rfl rfl rfl (gsat_C (b6) rfl rfl (by kernel_rfl) hc7) (Y1_call (s_impl_Form_disc hy9) cf_impl_Form_disc rfl (by kernel_rfl)) rfl rfl rfl 15 rfl ?_
     refine DE_0 11 (Bo (eqI y8 y9)) (by kernel_rfl) rfl rfl rfl (gsat_C (b6) rfl rfl (by kernel_rfl) hc7) (by kernel_rfl) (Y0_eqw (k := .i64) (a := y8) (b := y9) rfl (by kernel_rfl) (by kernel_rfl)) 16 rfl ?_
     refine DE_0 12 (Bo (b10)) (by kernel_rfl) rfl rfl rfl (gsat_none rfl) (by kernel_rfl) (Y0_pickTe (b := b6) (p := eqI y8 y9) rfl (by kernel_rfl) hc7 (by kernel_rfl) hb10) 17 rfl ?_
     refine DA 1 ?_
     exact XE
    ·have hb10 := some_inj (of_false hb10 hc7)
     refine DE_t 7 (by kernel_rfl) rfl rfl rfl (gun_T (b6) rfl rfl (by kernel_rfl) hc7) 12 rfl ?_
     refine DE_t 8 (by kernel_rfl) rfl rfl rfl (gun_T (b6) rfl rfl (by kernel_rfl) hc7) 13 rfl ?_
     refine DE_t 9 (by kernel_rfl) rfl rfl rfl (gun_T (b6) rfl rfl (by kernel_rfl) hc7) 14 rfl ?_
     refine DE_t 10 (by kernel_rfl) rfl rfl rfl (gun_T (b6) rfl rfl (by kernel_rfl) hc7) 15 rfl ?_
     refine DE_t 11 (by kernel_rfl) rfl rfl rfl (gun_T (b6) rfl rfl (by kernel_rfl) hc7) 16 rfl ?_
     refine DE_0 12 (Bo (b10)) (by kernel_rfl) rfl rfl rfl (gsat_none rfl) (by kernel_rfl) (Y0_pickFe (b := b6) (p := false) rfl (by kernel_rfl) hc7 (by kernel_rfl) hb10) 17 rfl ?_
     refine DA 1 ?_
     exact XE
  refine V_ret ?_
  obtain rfl := some_inj h
  show Post _ _ _ _ _
  exact ⟨.inr rfl, rfl, rfl, rfl⟩
theorem cf_impl_firstPoint : ∀ args w, (callFunc 154 args).run Tryz.prog w = .ok (.enter 154 args) w := run_callFunc Tryz.func154 (by kernel_rfl) (by kernel_rfl)
theorem s_impl_firstPoint {g1 : (Int × Int × Int)} {a2 : Int} {r : (Int × Int)} (h : r_impl_firstPoint g1 a2 = some r) : CallS Tryz.prog 154 [.ag [Ti g1.1, Ti g1.2.1, Ti g1.2.2], I a2] (.tc (I r.1) (.tc (I r.2) .tn)) [] := by
  refine CallS_of_text (rs := [.t 4, .t 5]) (vs := [.tmp 4, .tmp 5]) Tryz.func154 rfl rfl (.cons rfl (.cons rfl FitsL.nil)) (by decide) 43 rfl ?_
  unfold r_impl_firstPoint at h
  show V _ _ ⟨.ag [Ti g1.1, Ti g1.2.1, Ti g1.2.2] :: I a2 :: bt 41 [], []⟩ _
  refine V_e (mb 43 6) [16] (s1 := ⟨.bot :: I a2 :: .pt 16 0 :: bt 40 [], [(16, .box [Ti g1.1, Ti g1.2.1, Ti g1.2.2])]⟩) ?_
  refine V_e (mb 43 70) [16] (s1 := ⟨.bot :: I a2 :: .pt 16 0 :: bt 3 (I 0 :: bt 36 []), [(16, .box [Ti g1.1, Ti g1.2.1, Ti g1.2.2])]⟩) ?_
  obtain ⟨qo5, hLo5, hko5⟩ := of_bind h
  refine V_toS (q := qo5) (S := fun _ => (⟨[], []⟩ : St)) [] [] ?_ ?_
  ·refine V_block (V_loop (fun n s => ∃ (size3 : Int), s.keep (mb 43 70) [16] = (⟨.bot :: I a2 :: .pt 16 0 :: bt 3 (I size3 :: bt 36 []), [(16, .box [Ti g1.1, Ti g1.2.1, Ti g1.2.2])]⟩ : St) ∧ r_impl_firstPoint_L4 a2 g1 n size3 = some qo5) FU ⟨_,  by rfl, hLo5⟩ ?_)
   clear hLo5
   rintro n s ⟨size3, hs, h⟩
   refine V_keep _ _ hs ?_
   clear hs
   cases n with
   | zero => cases h
   | succ n =>
    rw [r_impl_firstPoint_L4] at h
    refine V_seq ?_
    refine V_block ?_
    refine V_e (mb 43 198) [16] (s1 := ⟨.bot :: I a2 :: .pt 16 0 :: bt 3 (I size3 :: I 0 :: bt 35 []), [(16, .box [Ti g1.1, Ti g1.2.1, Ti g1.2.2])]⟩) ?_
    obtain ⟨qo8, hLo8, hko8⟩ := of_bind h
    refine V_toS (q := qo8) (S := fun o8 => ⟨.bot :: I a2 :: .pt 16 0 :: bt 3 (I size3 :: bt 36 []), [(16, .box [Ti g1.1, Ti g1.2.1, Ti g1.2.2])]⟩) (mb 43 70) [16] ?_ ?_
    ·refine V_block (V_loop (fun n s => ∃ (x6 : Int), s.keep (mb 43 198) [16] = (⟨.bot :: I a2 :: .pt 16 0 :: bt 3 (I size3 :: I x6 :: bt 35 []), [(16, .box [Ti g1.1, Ti g1.2.1, Ti g1.2.2])]⟩ : St) ∧ r_impl_firstPoint_L7 a2 g1 size3 n x6 = some qo8) FU ⟨_,  by rfl, hLo8⟩ ?_)
     clear hLo8
     rintro n s ⟨x6, hs, h⟩
     refine V_keep _ _ hs ?_
     clear hs
     cases n with
     | zero => cases h
     | succ n =>
      rw [r_impl_firstPoint_L7] at h
      refine V_seq ?_
      refine V_e (mb 43 8390) [16] (s1 := ⟨.bot :: I a2 :: .pt 16 0 :: bt 3 (I size3 :: I x6 :: bt 5 (Bo (leI x6 size3) :: bt 29 [])), [(16, .box [Ti g1.1, Ti g1.2.1, Ti g1.2.2])]⟩) ?_
      refine V_cond rfl (fun hc9 => ?_) (fun hc9 => ?_)
      ·have h := of_true h hc9
       refine V_skip ?_
       show V _ _ _ _
       refine V_seq ?_
       refine V_block ?_
       refine V_e (mb 43 454) [16] (s1 := ⟨.bot :: I a2 :: .pt 16 0 :: bt 3 (I size3 :: I x6 :: I 0 :: bt 34 []), [(16, .box [Ti g1.1, Ti g1.2.1, Ti g1.2.2])]⟩) ?_
       obtain ⟨qo12, hLo12, hko12⟩ := of_bind h
       refine V_toS (q := qo12) (S := fun o12 => ⟨.bot :: I a2 :: .pt 16 0 :: bt 3 (I size3 :: I x6 :: bt 35 []), [(16, .box [Ti g1.1, Ti g1.2.1, Ti g1.2.2])]⟩) (mb 43 198) [16] ?_ ?_
       ·refine V_block (V_loop (fun n s => ∃ (y10 : Int), s.keep (mb 43 454) [16] = (⟨.bot :: I a2 :: .pt 16 0 :: bt 3 (I size3 :: I x6 :: I y10 :: bt 34 []), [(16, .box [Ti g1.1, Ti g1.2.1, Ti g1.2.2])]⟩ : St) ∧ r_impl_firstPoint_L11 a2 g1 size3 x6 n y10 = some qo12) FU ⟨_,  by rfl, hLo12⟩ ?_)
        clear hLo12
        rintro n s ⟨y10, hs, h⟩
        refine V_keep _ _ hs ?_
        clear hs
        cases n with
        | zero => cases h
        | succ n =>
         rw [r_impl_firstPoint_L11] at h
         refine V_seq ?_
         refine V_e (mb 43 262598) [16] (s1 := ⟨.bot :: I a2 :: .pt 16 0 :: bt 3 (I size3 :: I x6 :: I y10 :: bt 9 (Bo (leI y10 size3) :: bt 24 [])), [(16, .box [Ti g1.1, Ti g1.2.1, Ti g1.2.2])]⟩) ?_
         refine V_cond rfl (fun hc13 => ?_) (fun hc13 => ?_)
         ·have h := of_true h hc13
          refine V_skip ?_
          show V _ _ _ _
          refine V_seq ?_
          refine V_block ?_
          obtain ⟨b16, hb16, h⟩ := of_bind h
          obtain ⟨b20, hb20, h⟩ := of_bind h
          refine V_sreg (mb 43 1099511628230) [16] (s1 := ⟨.bot :: I a2 :: .pt 16 0 :: bt 3 (I size3 :: I x6 :: I y10 :: bt 31 (Bo b20 :: .bot :: .bot :: [])), [(16, .box [Ti g1.1, Ti g1.2.1, Ti g1.2.2])]⟩) ?_ ?_
          ·refine XR 2 ?_
           refine L0 rfl rfl (Y0_max (a := x6) (b := y10) rfl (by kernel_rfl) (by kernel_rfl)) ?_
           refine XR 3 ?_
           refine XL_split (eqI (mxI x6 y10) size3) (fun hc14 => ?_) (fun hc14 => ?_)
           ·have hb16 := of_true hb16 hc14
            obtain ⟨y15, hy15, hb16⟩ := of_bind hb16
            have hb16 := some_inj hb16
            refine XL_takeC _ rfl rfl (by kernel_rfl) hc14 (X_of_Y0 rfl (E_move (I x6) rfl (by kernel_rfl))) ?_
            refine XL_takeC _ rfl rfl (by kernel_rfl) hc14 (X_of_Y0 rfl (E_move (I y10) rfl (by kernel_rfl))) ?_
            refine XL_takeC _ rfl rfl (by kernel_rfl) hc14 (X_of_Y1 rfl (Y1_call (s_impl_gcd hy15) cf_impl_gcd rfl (by kernel_rfl))) ?_
            refine XL_takeC _ rfl rfl (by kernel_rfl) hc14 (X_of_Y0 rfl (Y0_eqw (k := .i64) (a := y15) (b := 1) rfl (by kernel_rfl) (by kernel_rfl))) ?_
            refine XL_cons rfl (X_of_Y0 rfl (Y0_pickTe (b := eqI (mxI x6 y10) size3) (p := eqI y15 1) rfl (by kernel_rfl) hc14 (by kernel_rfl) hb16)) ?_
            refine XR 1 ?_
            refine XL_split b16 (fun hc17 => ?_) (fun hc17 => ?_)
            ·have hb20 := of_true hb20 hc17
             obtain ⟨y18, hy18, hb20⟩ := of_bind hb20
             obtain ⟨y19, hy19, hb20⟩ := of_bind hb20
             have hb20 := some_inj hb20
             refine XL_takeC _ rfl rfl (by kernel_rfl) hc17 (X_of_Y0 rfl (E_loadn (cs := [Ti g1.1, Ti g1.2.1, Ti g1.2.2]) [Ti g1.1, Ti g1.2.1, Ti g1.2.2] wd25 rfl (by kernel_rfl) (Nat.le_of_ble_eq_true rfl) (by kernel_rfl))) ?_
             refine XL_takeC _ rfl rfl (by kernel_rfl) hc17 (X_of_Y0 rfl (E_move (I x6) rfl (by kernel_rfl))) ?_
             refine XL_takeC _ rfl rfl (by kernel_rfl) hc17 (X_of_Y0 rfl (E_move (I y10) rfl (by kernel_rfl))) ?_
             refine XL_takeC _ rfl rfl (by kernel_rfl) hc17 (X_of_Y1 rfl (Y1_call (s_impl_Form_at hy18) cf_impl_Form_at rfl (by kernel_rfl))) ?_
             refine XL_takeC _ rfl rfl (by kernel_rfl) hc17 (X_of_Y0 rfl (E_move (I a2) rfl (by kernel_rfl))) ?_
             refine XL_takeC _ rfl rfl (by kernel_rfl) hc17 (X_of_Y1 rfl (Y1_call (s_impl_gcd hy19) cf_impl_gcd rfl (by kernel_rfl))) ?_
             refine XL_takeC _ rfl rfl (by kernel_rfl) hc17 (X_of_Y0 rfl (Y0_eqw (k := .i64) (a := y19) (b := 1) rfl (by kernel_rfl) (by kernel_rfl))) ?_
             refine XL_cons rfl (X_of_Y0 rfl (Y0_pickTe (b := b16) (p := eqI y19 1) rfl (by kernel_rfl) hc17 (by kernel_rfl) hb20)) ?_
             exact XE
            ·have hb20 := some_inj (of_false hb20 hc17)
             refine XL_skipT _ rfl rfl (by kernel_rfl) hc17 rfl ?_
             refine XL_skipT _ rfl rfl (by kernel_rfl) hc17 rfl ?_
             refine XL_skipT _ rfl rfl (by kernel_rfl) hc17 rfl ?_
             refine XL_skipT _ rfl rfl (by kernel_rfl) hc17 rfl ?_
             refine XL_skipT _ rfl rfl (by kernel_rfl) hc17 rfl ?_
             refine XL_skipT _ rfl rfl (by kernel_rfl) hc17 rfl ?_
             refine XL_skipT _ rfl rfl (by kernel_rfl) hc17 rfl ?_
             refine XL_cons rfl (X_of_Y0 rfl (Y0_pickFe (b := b16) (p := false) rfl (by kernel_rfl) hc17 (by kernel_rfl) hb20)) ?_
             exact XE
           ·have hb16 := some_inj (of_false hb16 hc14)
            refine XL_skipT _ rfl rfl (by kernel_rfl) hc14 rfl ?_
            refine XL_skipT _ rfl rfl (by kernel_rfl) hc14 rfl ?_
            refine XL_skipT _ rfl rfl (by kernel_rfl) hc14 rfl ?_
            refine XL_skipT _ rfl rfl (by kernel_rfl) hc14 rfl ?_
            refine XL_cons rfl (X_of_Y0 rfl (Y0_pickFe (b := eqI (mxI x6 y10) size3) (p := false) rfl (by kernel_rfl) hc14 (by kernel_rfl) hb16)) ?_
            refine XR 1 ?_
            refine XL_split b16 (fun hc17 => ?_) (fun hc17 => ?_)
            ·have hb20 := of_true hb20 hc17
             obtain ⟨y18, hy18, hb20⟩ := of_bind hb20
             obtain ⟨y19, hy19, hb20⟩ := of_bind hb20
             have hb20 := some_inj hb20
             refine XL_takeC _ rfl rfl (by kernel_rfl) hc17 (X_of_Y0 rfl (E_loadn (cs := [Ti g1.1, Ti g1.2.1, Ti g1.2.2]) [Ti g1.1, Ti g1.2.1, Ti g1.2.2] wd25 rfl (by kernel_rfl) (Nat.le_of_ble_eq_true rfl) (by kernel_rfl))) ?_
             refine XL_takeC _ rfl rfl (by kernel_rfl) hc17 (X_of_Y0 rfl (E_move (I x6) rfl (by kernel_rfl))) ?_
             refine XL_takeC _ rfl rfl (by kernel_rfl) hc17 (X_of_Y0 rfl (E_move (I y10) rfl (by kernel_rfl))) ?_
             refine XL_takeC _ rfl rfl (by kernel_rfl) hc17 (X_of_Y1 rfl (Y1_call (s_impl_Form_at hy18) cf_impl_Form_at rfl (by kernel_rfl))) ?_
             refine XL_takeC _ rfl rfl (by kernel_rfl) hc17 (X_of_Y0 rfl (E_move (I a2) rfl (by kernel_rfl))) ?_
             refine XL_takeC _ rfl rfl (by kernel_rfl) hc17 (X_of_Y1 rfl (Y1_call (s_impl_gcd hy19) cf_impl_gcd rfl (by kernel_rfl))) ?_
             refine XL_takeC _ rfl rfl (by kernel_rfl) hc17 (X_of_Y0 rfl (Y0_eqw (k := .i64) (a := y19) (b := 1) rfl (by kernel_rfl) (by kernel_rfl))) ?_
             refine XL_cons rfl (X_of_Y0 rfl (Y0_pickTe (b := b16) (p := eqI y19 1) rfl (by kernel_rfl) hc17 (by kernel_rfl) hb20)) ?_
             exact XE
            ·have hb20 := some_inj (of_false hb20 hc17)
             refine XL_skipT _ rfl rfl (by kernel_rfl) hc17 rfl ?_
             refine XL_skipT _ rfl rfl (by kernel_rfl) hc17 rfl ?_
             refine XL_skipT _ rfl rfl (by kernel_rfl) hc17 rfl ?_
             refine XL_skipT _ rfl rfl (by kernel_rfl) hc17 rfl ?_
             refine XL_skipT _ rfl rfl (by kernel_rfl) hc17 rfl ?_
             refine XL_skipT _ rfl rfl (by kernel_rfl) hc17 rfl ?_
             refine XL_skipT _ rfl rfl (by kernel_rfl) hc17 rfl ?_
             refine XL_cons rfl (X_of_Y0 rfl (Y0_pickFe (b := b16) (p := false) rfl (by kernel_rfl) hc17 (by kernel_rfl) hb20)) ?_
             exact XE
          refine V_cond rfl (fun hc21 => ?_) (fun hc21 => ?_)
          ·have h := of_true h hc21
           refine V_e (mb 43 48) [] (s1 := ⟨bt 4 (I x6 :: I y10 :: bt 37 []), []⟩) ?_
           refine V_ret ?_
           obtain rfl := some_inj h
           have h := hko12
           obtain rfl := some_inj h
           have h := hko8
           obtain rfl := some_inj h
           have h := hko5
           obtain rfl := some_inj h
           show Post _ _ _ _ _
           exact ⟨.inr rfl, rfl, rfl, rfl⟩
          ·have h := of_false h hc21
           refine V_skip ?_
           show V _ _ _ _
           obtain ⟨y22, hy22, h⟩ := of_sI h
           refine V_reg (mb 43 454) [16] (s1 := ⟨.bot :: I a2 :: .pt 16 0 :: bt 3 (I size3 :: I x6 :: I y22 :: bt 34 []), [(16, .box [Ti g1.1, Ti g1.2.1, Ti g1.2.2])]⟩) ?_ ?_
           ·refine XR 3 ?_
            refine XL_nil ?_
            subst hy22
            kernel_rfl
           exact ⟨n, Nat.lt_succ_self n, _,  by rfl, h⟩
         ·have h := of_false h hc13
          refine V_exit ?_
          obtain rfl := some_inj h
          exact ⟨_, rfl, by rfl⟩
       rintro o12 rfl
       have h := hko12
       clear hko12
       show V _ _ _ _
       obtain ⟨x23, hx23, h⟩ := of_sI h
       refine V_reg (mb 43 198) [16] (s1 := ⟨.bot :: I a2 :: .pt 16 0 :: bt 3 (I size3 :: I x23 :: bt 35 []), [(16, .box [Ti g1.1, Ti g1.2.1, Ti g1.2.2])]⟩) ?_ ?_
       ·refine XR 3 ?_
        refine XL_nil ?_
        subst hx23
        kernel_rfl
       exact ⟨n, Nat.lt_succ_self n, _,  by rfl, h⟩
      ·have h := of_false h hc9
       refine V_exit ?_
       obtain rfl := some_inj h
       exact ⟨_, rfl, by rfl⟩
    rintro o8 rfl
    have h := hko8
    clear hko8
    show V _ _ _ _
    obtain ⟨size24, hsize24, h⟩ := of_sI h
    refine V_reg (mb 43 70) [16] (s1 := ⟨.bot :: I a2 :: .pt 16 0 :: bt 3 (I size24 :: bt 36 []), [(16, .box [Ti g1.1, Ti g1.2.1, Ti g1.2.2])]⟩) ?_ ?_
    ·refine XR 3 ?_
     refine XL_nil ?_
     subst hsize24
     kernel_rfl
    exact ⟨n, Nat.lt_succ_self n, _,  by rfl, h⟩
  rintro o5 rfl
  cases hko5
theorem cf_impl_inverse : ∀ args w, (callFunc 217 args).run Tryz.prog w = .ok (.enter 217 args) w := run_callFunc Tryz.func217 (by kernel_rfl) (by kernel_rfl)
theorem s_impl_inverse {a1 : Int} {vm2 : Int} {r : Int} (h : r_impl_inverse a1 vm2 = some r) : CallS Tryz.prog 217 [I a1, I vm2] (I r) [] := by
  refine CallS_of_text (rs := [.t 4]) (vs := [.tmp 4]) Tryz.func217 rfl rfl (.cons rfl FitsL.nil) (by decide) 34 rfl ?_
  unfold r_impl_inverse at h
  show V _ _ ⟨I a1 :: I vm2 :: bt 32 [], []⟩ _
  refine V_e (mb 34 3) [] (s1 := ⟨I a1 :: I vm2 :: bt 32 [], []⟩) ?_
  refine V_e (mb 34 99) [] (s1 := ⟨I a1 :: I vm2 :: bt 3 (I 1 :: I 0 :: bt 27 []), []⟩) ?_
  refine V_seq ?_
  obtain ⟨y3, hy3, h⟩ := of_bind h
  refine V_sreg (mb 34 482) [] (s1 := ⟨.bot :: I vm2 :: bt 3 (I 1 :: I 0 :: I y3 :: I vm2 :: bt 25 []), []⟩) ?_ ?_
  ·refine XR 2 ?_
   refine XC (s_impl_mod hy3) cf_impl_mod rfl rfl rfl ?_
   exact XE
  obtain ⟨o9, hLo9, h⟩ := of_bind h
  refine V_toK (mb 34 34) [] (s1 := ⟨.bot :: I vm2 :: bt 3 (I o9 :: bt 28 []), []⟩) ?_ ?_
  ·clear h
   refine V_block (V_loop (fun n s => ∃ (x4 : Int) (y5 : Int) (vr6 : Int) (vs7 : Int), s.keep (mb 34 482) [] = (⟨.bot :: I vm2 :: bt 3 (I x4 :: I y5 :: I vr6 :: I vs7 :: bt 25 []), []⟩ : St) ∧ r_impl_inverse_L8 vm2 n x4 y5 vr6 vs7 = some o9) FU ⟨_, _, _, _,  by rfl, hLo9⟩ ?_)
   clear hLo9
   rintro n s ⟨x4, y5, vr6, vs7, hs, h⟩
   refine V_keep _ _ hs ?_
   clear hs
   cases n with
   | zero => cases h
   | succ n =>
    rw [r_impl_inverse_L8] at h
    refine V_seq ?_
    refine V_e (mb 34 33250) [] (s1 := ⟨.bot :: I vm2 :: bt 3 (I x4 :: I y5 :: I vr6 :: I vs7 :: bt 6 (Bo (!eqI vs7 0) :: bt 18 [])), []⟩) ?_
    refine V_cond rfl (fun hc10 => ?_) (fun hc10 => ?_)
    ·have h := of_true h hc10
     refine V_skip ?_
     show V _ _ _ _
     refine V_block ?_
     obtain ⟨z11, hz11, h⟩ := of_bind h
     obtain ⟨q12, hq12, h⟩ := of_sI h
     refine V_sreg (mb 34 994) [] (s1 := ⟨.bot :: I vm2 :: bt 3 (I x4 :: I y5 :: I vr6 :: I vs7 :: I q12 :: bt 24 []), []⟩) ?_ ?_
     ·refine XR 2 ?_
      refine L0 rfl rfl (Y0_quo64 (a := vr6) (b := vs7) rfl (by kernel_rfl) (by kernel_rfl) (nz_some hz11)) ?_
      refine XR 1 ?_
      refine XL_nil ?_
      subst hq12
      kernel_rfl
     obtain ⟨vs13, hvs13, h⟩ := of_sI h
     refine V_sreg (mb 34 994) [] (s1 := ⟨.bot :: I vm2 :: bt 3 (I x4 :: I y5 :: I vs7 :: I vs13 :: I q12 :: bt 24 []), []⟩) ?_ ?_
     ·refine XR 8 ?_
      refine XL_nil ?_
      subst hvs13
      kernel_rfl
     obtain ⟨y14, hy14, h⟩ := of_sI h
     refine V_reg (mb 34 482) [] (s1 := ⟨.bot :: I vm2 :: bt 3 (I y5 :: I y14 :: I vs7 :: I vs13 :: bt 25 []), []⟩) ?_ ?_
     ·refine XR 8 ?_
      refine XL_nil ?_
      subst hy14
      kernel_rfl
     exact ⟨n, Nat.lt_succ_self n, _, _, _, _,  by rfl, h⟩
    ·have h := of_false h hc10
     refine V_exit ?_
     obtain rfl := some_inj h
     show St.keep _ _ _ = _
     rfl
  show V _ _ _ _
  obtain ⟨y15, hy15, h⟩ := of_bind h
  refine V_sreg (mb 34 16) [] (s1 := ⟨bt 4 (I y15 :: bt 29 []), []⟩) ?_ ?_
  ·refine XR 2 ?_
   refine XC (s_impl_mod hy15) cf_impl_mod rfl rfl rfl ?_
   exact XE
  refine V_ret ?_
  obtain rfl := some_inj h
  show Post _ _ _ _ _
  exact ⟨.inr rfl, rfl, rfl, rfl⟩
end Go.Proofs.YtafomkclmkfjeaaGreat
