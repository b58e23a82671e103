/-
  The functions of the program compute what the plain functions say: more of them.
  Conditions: none.
-/
import Derived.Test.YtnifkkihamgmaaaDoorCcSnd1
namespace Go.Proofs.YtnifkkihamgmaaaDoor
open Go.RowKit
set_option linter.unusedVariables false
set_option linter.unusedSimpArgs false
set_option maxRecDepth 100000
set_option maxHeartbeats 400000
theorem cf_spec_l1All : ∀ args w, (callFunc 67 args).run Tryd.prog w = .ok (.enter 67 args) w := run_callFunc Tryd.func67 (by kernel_rfl) (by kernel_rfl)
theorem s_spec_l1All {l1 : List Int} {lo2 : Int} {hi3 : Int} {r : Bool} (h : r_spec_l1All l1 lo2 hi3 = some r) : CallS Tryd.prog 67 [.c (.sl (l1.map c3)), I lo2, I hi3] (Bo r) [] := by
  refine CallS_of_text (rs := [.t 6]) (vs := [.tmp 6]) Tryd.func67 rfl rfl (.cons rfl FitsL.nil) (by decide) 21 rfl ?_
  unfold r_spec_l1All at h
  show V _ _ ⟨.c (.sl (l1.map c3)) :: I lo2 :: I hi3 :: bt 18 [], []⟩ _
  refine V_e (mb 21 7) [] (s1 := ⟨.c (.sl (l1.map c3)) :: I lo2 :: I hi3 :: bt 18 [], []⟩) ?_
  refine V_seq ?_
  refine V_sreg (mb 21 3590) [] (s1 := ⟨.bot :: I lo2 :: I hi3 :: bt 6 (.c (.sl (l1.map c3)) :: I ((l1.length : Int)) :: I 0 :: bt 9 []), []⟩) ?_ ?_
  ·refine XR 1 ?_
   refine L0 rfl rfl (Y0_lenM (c := c3) (xs := l1) Tryd.underlying58 rfl (by kernel_rfl)) ?_
   exact XE
  obtain ⟨qo6, hLo6, hko6⟩ := of_bind h
  refine V_toS (q := qo6) (S := fun o6 => ⟨bt 21 [], []⟩) (mb 21 0) [] ?_ ?_
  ·refine V_block (V_loop (fun n s => ∃ (t4 : Int), s.keep (mb 21 3590) [] = (⟨.bot :: I lo2 :: I hi3 :: bt 6 (.c (.sl (l1.map c3)) :: I ((l1.length : Int)) :: I t4 :: bt 9 []), []⟩ : St) ∧ r_spec_l1All_L5 hi3 l1 lo2 n t4 = some qo6) FU ⟨_,  by rfl, hLo6⟩ ?_)
   clear hLo6
   rintro n s ⟨t4, hs, h⟩
   refine V_keep _ _ hs ?_
   clear hs
   cases n with
   | zero => cases h
   | succ n =>
    rw [r_spec_l1All_L5] at h
    refine V_e (mb 21 7686) [] (s1 := ⟨.bot :: I lo2 :: I hi3 :: bt 6 (.c (.sl (l1.map c3)) :: I ((l1.length : Int)) :: I t4 :: Bo (ltI t4 ((l1.length : Int))) :: bt 8 []), []⟩) ?_
    refine V_seq ?_
    refine V_cond rfl (fun hc7 => ?_) (fun hc7 => ?_)
    ·have h := of_true h hc7
     refine V_skip ?_
     show V _ _ _ _
     refine V_seq ?_
     refine V_block ?_
     obtain ⟨e8, he8, h⟩ := of_bind h
     refine V_sreg (mb 21 3846) [] (s1 := ⟨.bot :: I lo2 :: I hi3 :: bt 5 (I e8 :: .c (.sl (l1.map c3)) :: I ((l1.length : Int)) :: I t4 :: bt 9 []), []⟩) ?_ ?_
     ·refine L0 rfl rfl (Y0_idxM (c := c3) (xs := l1) (v := e8) (n := t4) Tryd.underlying58 sz3 rfl (by kernel_rfl) (by kernel_rfl) he8) ?_
      exact XE
     obtain ⟨y9, hy9, h⟩ := of_bind h
     refine V_sreg (mb 21 527878) [] (s1 := ⟨.bot :: I lo2 :: I hi3 :: bt 6 (.c (.sl (l1.map c3)) :: I ((l1.length : Int)) :: I t4 :: bt 7 (Bo (!y9) :: .bot :: [])), []⟩) ?_ ?_
     ·refine XR 3 ?_
      refine XC (s_spec_l1In hy9) cf_spec_l1In rfl rfl rfl ?_
      exact XE
     refine V_cond rfl (fun hc10 => ?_) (fun hc10 => ?_)
     ·have h := of_true h hc10
      refine V_e (mb 21 64) [] (s1 := ⟨bt 6 (Bo false :: bt 14 []), []⟩) ?_
      refine V_ret ?_
      obtain rfl := some_inj h
      have h := hko6
      obtain rfl := some_inj h
      show Post _ _ _ _ _
      exact ⟨.inr rfl, rfl, rfl, rfl⟩
     ·have h := of_false h hc10
      refine V_skip ?_
      show V _ _ _ _
      obtain ⟨t11, ht11, h⟩ := of_sI h
      refine V_reg (mb 21 3590) [] (s1 := ⟨.bot :: I lo2 :: I hi3 :: bt 6 (.c (.sl (l1.map c3)) :: I ((l1.length : Int)) :: I t11 :: bt 9 []), []⟩) ?_ ?_
      ·refine XR 2 ?_
       refine XL_nil ?_
       subst ht11
       kernel_rfl
      exact ⟨n, Nat.lt_succ_self n, _,  by rfl, h⟩
    ·have h := of_false h hc7
     refine V_exit ?_
     obtain rfl := some_inj h
     exact ⟨_, rfl, by rfl⟩
  rintro o6 rfl
  have h := hko6
  clear hko6
  show V _ _ _ _
  refine V_e (mb 21 64) [] (s1 := ⟨bt 6 (Bo true :: bt 14 []), []⟩) ?_
  refine V_ret ?_
  obtain rfl := some_inj h
  show Post _ _ _ _ _
  exact ⟨.inr rfl, rfl, rfl, rfl⟩
theorem cf_spec_CompositionProof : ∀ args w, (callFunc 39 args).run Tryd.prog w = .ok (.enter 39 args) w := run_callFunc Tryd.func39 (by kernel_rfl) (by kernel_rfl)
theorem s_spec_CompositionProof {f1 : (Int × Int × Int)} {g2 : (Int × Int × Int)} {r : (((Int × Int × Int)) × (List Int) × Bool)} (h : r_spec_CompositionProof f1 g2 = some r) : CallS Tryd.prog 39 [.ag [Ti f1.1, Ti f1.2.1, Ti f1.2.2], .ag [Ti g2.1, Ti g2.2.1, Ti g2.2.2]] (.tc (.ag [Ti r.1.1, Ti r.1.2.1, Ti r.1.2.2]) (.tc (.ow 1) (.tc (Bo r.2.2) .tn))) [(1, .arr 3 1 (r.2.1.map c3))] := by
  refine CallS_of_text (rs := [.w 4 3, .t 5, .t 6]) (vs := [.cell 4 27, .tmp 5, .tmp 6]) Tryd.func39 rfl rfl (.cons ⟨rfl, wd27⟩ (.cons rfl (.cons rfl FitsL.nil))) (by decide) 26 rfl ?_
  unfold r_spec_CompositionProof at h
  show V _ _ ⟨.ag [Ti f1.1, Ti f1.2.1, Ti f1.2.2] :: .ag [Ti g2.1, Ti g2.2.1, Ti g2.2.2] :: bt 24 [], []⟩ _
  refine V_sreg (mb 26 28) [32, 24, 16] (s1 := ⟨.bot :: .bot :: .pt 16 0 :: .pt 24 0 :: .pt 32 0 :: bt 21 [], [(32, .box [Ti 0, Ti 0, Ti 0]), (24, .box [Ti g2.1, Ti g2.2.1, Ti g2.2.2]), (16, .box [Ti f1.1, Ti f1.2.1, Ti f1.2.2])]⟩) ?_ ?_
  ·refine XR 3 ?_
   refine L1 rfl rfl (Y1_nil (e := 3) 1 (by decide) (.inl rfl)) ?_
   exact XE
  refine V_seq ?_
  obtain ⟨y3, hy3, h⟩ := of_bind h
  refine V_sreg (mb 26 4124) [32, 24, 16] (s1 := ⟨.bot :: .bot :: .pt 16 0 :: .pt 24 0 :: .pt 32 0 :: bt 7 (Bo (!y3) :: bt 13 []), [(32, .box [Ti 0, Ti 0, Ti 0]), (24, .box [Ti g2.1, Ti g2.2.1, Ti g2.2.2]), (16, .box [Ti f1.1, Ti f1.2.1, Ti f1.2.2])]⟩) ?_ ?_
  ·refine XR 2 ?_
   refine XC (s_spec_coTwo hy3) cf_spec_coTwo rfl rfl rfl ?_
   exact XE
  refine V_cond rfl (fun hc4 => ?_) (fun hc4 => ?_)
  ·have h := of_true h hc4
   refine V_sreg (mb 26 112) [40, 32] (s1 := ⟨bt 4 (.pt 32 0 :: .ow 40 :: Bo false :: bt 19 []), [(40, .arr 3 1 ((([] : List Int)).map c3)), (32, .box [Ti 0, Ti 0, Ti 0])]⟩) ?_ ?_
   ·refine L0 rfl rfl (Y0_build (cs := [Ti 0, Ti 0, Ti 0]) pl27 bt27 rfl rfl (by kernel_rfl)) ?_
    refine XR 1 ?_
    refine L1 rfl rfl (Y1_nil (e := 3) 1 (by decide) (.inl rfl)) ?_
    exact XE
   refine V_ret ?_
   obtain rfl := some_inj h
   show Post _ _ _ _ _
   exact ⟨.inr rfl, rfl, rfl, rfl⟩
  ·have h := of_false h hc4
   refine V_skip ?_
   show V _ _ _ _
   obtain ⟨y5, hy5, h⟩ := of_bind h
   refine V_sreg (mb 26 400) [56, 137, 32] (s1 := ⟨bt 4 (.pt 32 0 :: .bot :: .bot :: .pt 56 0 :: .ow 137 :: bt 17 []), [(56, .box [Ti y5.1.1, Ti y5.1.2.1, Ti y5.1.2.2]), (137, .arr 3 1 (y5.2.map c3)), (32, .box [Ti 0, Ti 0, Ti 0])]⟩) ?_ ?_
   ·refine XR 2 ?_
    refine XC (s_spec_coProof hy5) cf_spec_coProof rfl rfl rfl ?_
    exact XE
   refine V_seq ?_
   obtain ⟨y6, hy6, h⟩ := of_bind h
   refine V_sreg (mb 26 4194704) [56, 137, 32] (s1 := ⟨bt 4 (.pt 32 0 :: .bot :: .bot :: .pt 56 0 :: .ow 137 :: bt 13 (Bo (!y6) :: bt 3 [])), [(56, .box [Ti y5.1.1, Ti y5.1.2.1, Ti y5.1.2.2]), (137, .arr 3 1 (y5.2.map c3)), (32, .box [Ti 0, Ti 0, Ti 0])]⟩) ?_ ?_
   ·refine XR 1 ?_
    refine L1 rfl rfl (Y1_callS (s_spec_l1All hy6) cf_spec_l1All rfl (by kernel_rfl) rfl rfl) ?_
    exact XE
   refine V_cond rfl (fun hc7 => ?_) (fun hc7 => ?_)
   ·have h := of_true h hc7
    refine V_sreg (mb 26 112) [40, 32] (s1 := ⟨bt 4 (.pt 32 0 :: .ow 40 :: Bo false :: bt 19 []), [(40, .arr 3 1 ((([] : List Int)).map c3)), (32, .box [Ti 0, Ti 0, Ti 0])]⟩) ?_ ?_
    ·refine L0 rfl rfl (Y0_build (cs := [Ti 0, Ti 0, Ti 0]) pl27 bt27 rfl rfl (by kernel_rfl)) ?_
     refine XR 1 ?_
     refine L1 rfl rfl (Y1_nil (e := 3) 1 (by decide) (.inl rfl)) ?_
     exact XE
    refine V_ret ?_
    obtain rfl := some_inj h
    show Post _ _ _ _ _
    exact ⟨.inr rfl, rfl, rfl, rfl⟩
   ·have h := of_false h hc7
    refine V_skip ?_
    show V _ _ _ _
    refine V_e (mb 26 112) [137, 32] (s1 := ⟨bt 4 (.pt 32 0 :: .ow 137 :: Bo true :: bt 19 []), [(137, .arr 3 1 (y5.2.map c3)), (32, .box [Ti y5.1.1, Ti y5.1.2.1, Ti y5.1.2.2])]⟩) ?_
    refine V_ret ?_
    obtain rfl := some_inj h
    show Post _ _ _ _ _
    exact ⟨.inr rfl, rfl, rfl, rfl⟩
theorem cf_spec_l1Num : ∀ args w, (callFunc 36 args).run Tryd.prog w = .ok (.enter 36 args) w := run_callFunc Tryd.func36 (by kernel_rfl) (by kernel_rfl)
theorem s_spec_l1Num_rec : ∀ (n : Nat) {vn1 : Int} {r : ByteArray}, r_spec_l1Num n vn1 = some r → CallS Tryd.prog 36 [I vn1] (.c (.v (.string r))) [] := by
  intro n
  induction n with
  | zero => intro vn1 r h; cases h
  | succ n ih =>
   intro vn1 r h
   refine CallS_of_text (rs := [.t 2]) (vs := [.tmp 2]) Tryd.func36 rfl rfl (.cons rfl FitsL.nil) (by decide) 20 rfl ?_
   rw [r_spec_l1Num] at h
   show V _ _ ⟨I vn1 :: bt 19 [], []⟩ _
   refine V_e (mb 20 1) [] (s1 := ⟨I vn1 :: bt 19 [], []⟩) ?_
   refine V_seq ?_
   refine V_e (mb 20 17) [] (s1 := ⟨I vn1 :: bt 3 (Bo (ltI vn1 10) :: bt 15 []), []⟩) ?_
   refine V_cond rfl (fun hc2 => ?_) (fun hc2 => ?_)
   ·have h := of_true h hc2
    refine V_sreg (mb 20 4) [] (s1 := ⟨.bot :: .bot :: .c (.v (.string (bytesI ([IntKind.u8.wrap (w64 (48 + vn1))])))) :: bt 17 [], []⟩) ?_ ?_
    ·refine XR 2 ?_
     refine L0 rfl rfl (Y0_conv (k2 := .i64) (a := w64 (48 + vn1)) Tryd.underlying3 Tryd.underlying5 rfl (by kernel_rfl)) ?_
     refine L1 rfl rfl (Y1_bslice (z := zv5) (els := [IntKind.u8.wrap (w64 (48 + vn1))].map c5) Tryd.underlying69 iz5 rfl (by decide) rfl (by kernel_rfl) rfl (by simp [c5]) (by decide) (by decide)) ?_
     refine L0 rfl rfl (Y0_b2s (c := c5) (fun _ => rfl) ([IntKind.u8.wrap (w64 (48 + vn1))]) Tryd.underlying69 Tryd.underlying5 Tryd.underlying9 rfl (by kernel_rfl)) ?_
     exact XE
    refine V_ret ?_
    obtain rfl := some_inj h
    show Post _ _ _ _ _
    exact ⟨.inr rfl, rfl, rfl, rfl⟩
   ·have h := of_false h hc2
    refine V_skip ?_
    show V _ _ _ _
    obtain ⟨y3, hy3, h⟩ := of_bind h
    obtain ⟨u4, hu4, h⟩ := of_bind h
    refine V_sdreg [0, 1, 3, 0, 8, 24, 56, 120, 248, 511, 1023] 11 (cdm 11 [174720, 174721, 174725, 42, 106, 362, 1386, 5482, 21866, 87381, 349525]) (mb 20 4) [] (s1 := ⟨.bot :: .bot :: .c (.v (.string (y3 ++ (bytesI ([IntKind.u8.wrap (w64 (48 + (Int.tmod vn1 10)))]))))) :: bt 17 [], []⟩) (by kernel_rfl) (by kernel_rfl) ?_ ?_
    ·refine DR 1 ?_
     refine DE_0 1 (I (w64 (Int.tdiv vn1 10))) (by kernel_rfl) rfl rfl rfl (gsat_none rfl) (by kernel_rfl) (Y0_quo64 (a := vn1) (b := 10) rfl (by kernel_rfl) (by kernel_rfl) (by decide)) 11 rfl ?_
     refine DC 2 (ih hy3) cf_spec_l1Num rfl rfl rfl rfl 12 rfl ?_
     refine DR 1 ?_
     refine DE_0 4 (I (Int.tmod vn1 10)) (by kernel_rfl) rfl rfl rfl (gsat_none rfl) (by kernel_rfl) (Y0_rem (k := .i64) (a := vn1) (b := 10) rfl (by kernel_rfl) (by kernel_rfl) (by decide)) 14 rfl ?_
     refine DR 1 ?_
     refine DE_0 6 (.c (.v (.int .u8 (IntKind.u8.wrap (w64 (48 + (Int.tmod vn1 10))))))) (by kernel_rfl) rfl rfl rfl (gsat_none rfl) (by kernel_rfl) (Y0_conv (k2 := .i64) (a := w64 (48 + (Int.tmod vn1 10))) Tryd.underlying3 Tryd.underlying5 rfl (by kernel_rfl)) 16 rfl ?_
     refine DE_1 7 (by kernel_rfl) rfl rfl rfl (gsat_none rfl) (Y1_bslice (z := zv5) (els := [IntKind.u8.wrap (w64 (48 + (Int.tmod vn1 10)))].map c5) Tryd.underlying69 iz5 rfl (by decide) rfl (by kernel_rfl) rfl (by simp [c5]) (by decide) (by decide)) rfl rfl rfl 17 rfl ?_
     refine DE_0 8 (.c (.v (.string (bytesI ([IntKind.u8.wrap (w64 (48 + (Int.tmod vn1 10)))]))))) (by kernel_rfl) rfl rfl rfl (gsat_none rfl) (by kernel_rfl) (Y0_b2s (c := c5) (fun _ => rfl) ([IntKind.u8.wrap (w64 (48 + (Int.tmod vn1 10)))]) Tryd.underlying69 Tryd.underlying5 Tryd.underlying9 rfl (by kernel_rfl)) 18 rfl ?_
     refine DE_0 9 (.c (.v (.string (y3 ++ (bytesI ([IntKind.u8.wrap (w64 (48 + (Int.tmod vn1 10)))])))))) (by kernel_rfl) rfl rfl rfl (gsat_none rfl) (by kernel_rfl) (Y0_cat (a := y3) (b := bytesI ([IntKind.u8.wrap (w64 (48 + (Int.tmod vn1 10)))])) rfl (by kernel_rfl) (by kernel_rfl) (catR_some hu4)) 19 rfl ?_
     refine DA 1 ?_
     exact XE
    refine V_ret ?_
    obtain rfl := some_inj h
    show Post _ _ _ _ _
    exact ⟨.inr rfl, rfl, rfl, rfl⟩
theorem s_spec_l1Num {vn1 : Int} {r : ByteArray} (h : r_spec_l1Num FU vn1 = some r) : CallS Tryd.prog 36 [I vn1] (.c (.v (.string r))) [] := s_spec_l1Num_rec FU h
theorem cf_spec_l1Int : ∀ args w, (callFunc 31 args).run Tryd.prog w = .ok (.enter 31 args) w := run_callFunc Tryd.func31 (by kernel_rfl) (by kernel_rfl)
theorem s_spec_l1Int {vn1 : Int} {r : ByteArray} (h : r_spec_l1Int vn1 = some r) : CallS Tryd.prog 31 [I vn1] (.c (.v (.string r))) [] := by
  refine CallS_of_text (rs := [.t 2]) (vs := [.tmp 2]) Tryd.func31 rfl rfl (.cons rfl FitsL.nil) (by decide) 11 rfl ?_
  unfold r_spec_l1Int at h
  show V _ _ ⟨I vn1 :: bt 10 [], []⟩ _
  refine V_e (mb 11 1) [] (s1 := ⟨I vn1 :: bt 10 [], []⟩) ?_
  refine V_seq ?_
  refine V_e (mb 11 17) [] (s1 := ⟨I vn1 :: bt 3 (Bo (ltI vn1 0) :: bt 6 []), []⟩) ?_
  refine V_cond rfl (fun hc2 => ?_) (fun hc2 => ?_)
  ·have h := of_true h hc2
   obtain ⟨y3, hy3, h⟩ := of_bind h
   obtain ⟨u4, hu4, h⟩ := of_bind h
   refine V_sreg (mb 11 4) [] (s1 := ⟨.bot :: .bot :: .c (.v (.string (((⟨#[45]⟩ : ByteArray)) ++ y3))) :: bt 8 [], []⟩) ?_ ?_
   ·refine XR 2 ?_
    refine XC (s_spec_l1Num hy3) cf_spec_l1Num rfl rfl rfl ?_
    refine L0 rfl rfl (Y0_cat (a := (⟨#[45]⟩ : ByteArray)) (b := y3) rfl (by kernel_rfl) (by kernel_rfl) (catR_some hu4)) ?_
    exact XE
   refine V_ret ?_
   obtain rfl := some_inj h
   show Post _ _ _ _ _
   exact ⟨.inr rfl, rfl, rfl, rfl⟩
  ·have h := of_false h hc2
   refine V_skip ?_
   show V _ _ _ _
   obtain ⟨y5, hy5, h⟩ := of_bind h
   refine V_sreg (mb 11 4) [] (s1 := ⟨.bot :: .bot :: .c (.v (.string y5)) :: bt 8 [], []⟩) ?_ ?_
   ·refine XR 1 ?_
    refine XC (s_spec_l1Num hy5) cf_spec_l1Num rfl rfl rfl ?_
    exact XE
   refine V_ret ?_
   obtain rfl := some_inj h
   show Post _ _ _ _ _
   exact ⟨.inr rfl, rfl, rfl, rfl⟩
theorem cf_spec_foText : ∀ args w, (callFunc 22 args).run Tryd.prog w = .ok (.enter 22 args) w := run_callFunc Tryd.func22 (by kernel_rfl) (by kernel_rfl)
theorem s_spec_foText {f1 : (Int × Int × Int)} {r : ByteArray} (h : r_spec_foText f1 = some r) : CallS Tryd.prog 22 [.ag [Ti f1.1, Ti f1.2.1, Ti f1.2.2]] (.c (.v (.string r))) [] := by
  refine CallS_of_text (rs := [.t 2]) (vs := [.tmp 2]) Tryd.func22 rfl rfl (.cons rfl FitsL.nil) (by decide) 18 rfl ?_
  unfold r_spec_foText at h
  show V _ _ ⟨.ag [Ti f1.1, Ti f1.2.1, Ti f1.2.2] :: bt 17 [], []⟩ _
  refine V_e (mb 18 2) [8] (s1 := ⟨.bot :: .pt 8 0 :: bt 16 [], [(8, .box [Ti f1.1, Ti f1.2.1, Ti f1.2.2])]⟩) ?_
  obtain ⟨y2, hy2, h⟩ := of_bind h
  obtain ⟨u3, hu3, h⟩ := of_bind h
  obtain ⟨u4, hu4, h⟩ := of_bind h
  obtain ⟨y5, hy5, h⟩ := of_bind h
  obtain ⟨u6, hu6, h⟩ := of_bind h
  obtain ⟨u7, hu7, h⟩ := of_bind h
  obtain ⟨y8, hy8, h⟩ := of_bind h
  obtain ⟨u9, hu9, h⟩ := of_bind h
  obtain ⟨u10, hu10, h⟩ := of_bind h
  refine V_sdreg [0, 1, 3, 7, 15, 0, 32, 103, 255, 511, 0, 1024, 3303, 8191, 16383, 32767] 16 (cdm 16 [10496000, 10496001, 10496005, 44083221, 44083285, 10486442, 10487466, 10491541, 44062037, 44127573, 699050, 1747626, 5920405, 22369621, 89478485, 357913941]) (mb 18 4) [] (s1 := ⟨.bot :: .bot :: .c (.v (.string ((((((((⟨#[40]⟩ : ByteArray)) ++ y2) ++ ((⟨#[44]⟩ : ByteArray))) ++ y5) ++ ((⟨#[44]⟩ : ByteArray))) ++ y8) ++ ((⟨#[41]⟩ : ByteArray))))) :: bt 15 [], []⟩) (by kernel_rfl) (by kernel_rfl) ?_ ?_
  ·refine DR 2 ?_
   refine DC 2 (s_spec_l1Int hy2) cf_spec_l1Int rfl rfl rfl rfl 5 rfl ?_
   refine DE_0 3 (.c (.v (.string (((⟨#[40]⟩ : ByteArray)) ++ y2)))) (by kernel_rfl) rfl rfl rfl (gsat_none rfl) (by kernel_rfl) (Y0_cat (a := (⟨#[40]⟩ : ByteArray)) (b := y2) rfl (by kernel_rfl) (by kernel_rfl) (catR_some hu3)) 6 rfl ?_
   refine DE_0 4 (.c (.v (.string ((((⟨#[40]⟩ : ByteArray)) ++ y2) ++ ((⟨#[44]⟩ : ByteArray)))))) (by kernel_rfl) rfl rfl rfl (gsat_none rfl) (by kernel_rfl) (Y0_cat (a := ((⟨#[40]⟩ : ByteArray)) ++ y2) (b := (⟨#[44]⟩ : ByteArray)) rfl (by kernel_rfl) (by kernel_rfl) (catR_some hu4)) 7 rfl ?_
   refine DR 2 ?_
   refine DC 7 (s_spec_l1Int hy5) cf_spec_l1Int rfl rfl rfl rfl 10 rfl ?_
   refine DE_0 8 (.c (.v (.string (((((⟨#[40]⟩ : ByteArray)) ++ y2) ++ ((⟨#[44]⟩ : ByteArray))) ++ y5)))) (by kernel_rfl) rfl rfl rfl (gsat_none rfl) (by kernel_rfl) (Y0_cat (a := (((⟨#[40]⟩ : ByteArray)) ++ y2) ++ ((⟨#[44]⟩ : ByteArray))) (b := y5) rfl (by kernel_rfl) (by kernel_rfl) (catR_some hu6)) 11 rfl ?_
   refine DE_0 9 (.c (.v (.string ((((((⟨#[40]⟩ : ByteArray)) ++ y2) ++ ((⟨#[44]⟩ : ByteArray))) ++ y5) ++ ((⟨#[44]⟩ : ByteArray)))))) (by kernel_rfl) rfl rfl rfl (gsat_none rfl) (by kernel_rfl) (Y0_cat (a := ((((⟨#[40]⟩ : ByteArray)) ++ y2) ++ ((⟨#[44]⟩ : ByteArray))) ++ y5) (b := (⟨#[44]⟩ : ByteArray)) rfl (by kernel_rfl) (by kernel_rfl) (catR_some hu7)) 12 rfl ?_
   refine DR 2 ?_
   refine DC 12 (s_spec_l1Int hy8) cf_spec_l1Int rfl rfl rfl rfl 15 rfl ?_
   refine DE_0 13 (.c (.v (.string (((((((⟨#[40]⟩ : ByteArray)) ++ y2) ++ ((⟨#[44]⟩ : ByteArray))) ++ y5) ++ ((⟨#[44]⟩ : ByteArray))) ++ y8)))) (by kernel_rfl) rfl rfl rfl (gsat_none rfl) (by kernel_rfl) (Y0_cat (a := (((((⟨#[40]⟩ : ByteArray)) ++ y2) ++ ((⟨#[44]⟩ : ByteArray))) ++ y5) ++ ((⟨#[44]⟩ : ByteArray))) (b := y8) rfl (by kernel_rfl) (by kernel_rfl) (catR_some hu9)) 16 rfl ?_
   refine DE_0 14 (.c (.v (.string ((((((((⟨#[40]⟩ : ByteArray)) ++ y2) ++ ((⟨#[44]⟩ : ByteArray))) ++ y5) ++ ((⟨#[44]⟩ : ByteArray))) ++ y8) ++ ((⟨#[41]⟩ : ByteArray)))))) (by kernel_rfl) rfl rfl rfl (gsat_none rfl) (by kernel_rfl) (Y0_cat (a := ((((((⟨#[40]⟩ : ByteArray)) ++ y2) ++ ((⟨#[44]⟩ : ByteArray))) ++ y5) ++ ((⟨#[44]⟩ : ByteArray))) ++ y8) (b := (⟨#[41]⟩ : ByteArray)) rfl (by kernel_rfl) (by kernel_rfl) (catR_some hu10)) 17 rfl ?_
   refine DA 1 ?_
   exact XE
  refine V_ret ?_
  obtain rfl := some_inj h
  show Post _ _ _ _ _
  exact ⟨.inr rfl, rfl, rfl, rfl⟩
theorem cf_spec_prText : ∀ args w, (callFunc 21 args).run Tryd.prog w = .ok (.enter 21 args) w := run_callFunc Tryd.func21 (by kernel_rfl) (by kernel_rfl)
theorem s_spec_prText {l1 : List ByteArray} {r : ByteArray} (h : r_spec_prText l1 = some r) : CallS Tryd.prog 21 [.c (.sl (l1.map c9))] (.c (.v (.string r))) [] := by
  refine CallS_of_text (rs := [.t 2]) (vs := [.tmp 2]) Tryd.func21 rfl rfl (.cons rfl FitsL.nil) (by decide) 22 rfl ?_
  unfold r_spec_prText at h
  show V _ _ ⟨.c (.sl (l1.map c9)) :: bt 21 [], []⟩ _
  refine V_e (mb 22 1) [] (s1 := ⟨.c (.sl (l1.map c9)) :: bt 21 [], []⟩) ?_
  refine V_e (mb 22 9) [] (s1 := ⟨.c (.sl (l1.map c9)) :: .bot :: .bot :: .c (.v (.string ((⟨#[]⟩ : ByteArray)))) :: bt 18 [], []⟩) ?_
  refine V_seq ?_
  refine V_sreg (mb 22 456) [] (s1 := ⟨bt 3 (.c (.v (.string ((⟨#[]⟩ : ByteArray)))) :: .bot :: .bot :: .c (.sl (l1.map c9)) :: I ((l1.length : Int)) :: I 0 :: bt 13 []), []⟩) ?_ ?_
  ·refine XR 1 ?_
   refine L0 rfl rfl (Y0_lenM (c := c9) (xs := l1) Tryd.underlying24 rfl (by kernel_rfl)) ?_
   exact XE
  obtain ⟨o5, hLo5, h⟩ := of_bind h
  refine V_toK (mb 22 8) [] (s1 := ⟨bt 3 (.c (.v (.string o5)) :: bt 18 []), []⟩) ?_ ?_
  ·clear h
   refine V_block (V_loop (fun n s => ∃ (out2 : ByteArray) (t3 : Int), s.keep (mb 22 456) [] = (⟨bt 3 (.c (.v (.string out2)) :: .bot :: .bot :: .c (.sl (l1.map c9)) :: I ((l1.length : Int)) :: I t3 :: bt 13 []), []⟩ : St) ∧ r_spec_prText_L4 l1 n out2 t3 = some o5) FU ⟨_, _,  by rfl, hLo5⟩ ?_)
   clear hLo5
   rintro n s ⟨out2, t3, hs, h⟩
   refine V_keep _ _ hs ?_
   clear hs
   cases n with
   | zero => cases h
   | succ n =>
    rw [r_spec_prText_L4] at h
    refine V_e (mb 22 968) [] (s1 := ⟨bt 3 (.c (.v (.string out2)) :: .bot :: .bot :: .c (.sl (l1.map c9)) :: I ((l1.length : Int)) :: I t3 :: Bo (ltI t3 ((l1.length : Int))) :: bt 12 []), []⟩) ?_
    refine V_seq ?_
    refine V_cond rfl (fun hc6 => ?_) (fun hc6 => ?_)
    ·have h := of_true h hc6
     refine V_skip ?_
     show V _ _ _ _
     refine V_seq ?_
     refine V_block ?_
     obtain ⟨e7, he7, h⟩ := of_bind h
     refine V_sreg (mb 22 504) [] (s1 := ⟨bt 3 (.c (.v (.string out2)) :: I t3 :: .c (.v (.string e7)) :: .c (.sl (l1.map c9)) :: I ((l1.length : Int)) :: I t3 :: bt 13 []), []⟩) ?_ ?_
     ·refine XR 1 ?_
      refine L0 rfl rfl (Y0_idxM (c := c9) (xs := l1) (v := e7) (n := t3) Tryd.underlying24 sz9 rfl (by kernel_rfl) (by kernel_rfl) he7) ?_
      exact XE
     refine V_seq ?_
     refine V_e (mb 22 16872) [] (s1 := ⟨bt 3 (.c (.v (.string out2)) :: .bot :: .c (.v (.string e7)) :: .c (.sl (l1.map c9)) :: I ((l1.length : Int)) :: I t3 :: bt 5 (Bo (ltI 0 t3) :: bt 7 [])), []⟩) ?_
     refine V_cond rfl (fun hc8 => ?_) (fun hc8 => ?_)
     ·have h := of_true h hc8
      obtain ⟨u9, hu9, h⟩ := of_bind h
      refine V_reg (mb 22 488) [] (s1 := ⟨bt 3 (.c (.v (.string (out2 ++ ((⟨#[32]⟩ : ByteArray))))) :: .bot :: .c (.v (.string e7)) :: .c (.sl (l1.map c9)) :: I ((l1.length : Int)) :: I t3 :: bt 13 []), []⟩) ?_ ?_
      ·refine XR 1 ?_
       refine L0 rfl rfl (Y0_cat (a := out2) (b := (⟨#[32]⟩ : ByteArray)) rfl (by kernel_rfl) (by kernel_rfl) (catR_some hu9)) ?_
       exact XE
      show V _ _ _ _
      obtain ⟨u10, hu10, h⟩ := of_bind h
      refine V_reg (mb 22 456) [] (s1 := ⟨bt 3 (.c (.v (.string ((out2 ++ ((⟨#[32]⟩ : ByteArray))) ++ e7))) :: .bot :: .bot :: .c (.sl (l1.map c9)) :: I ((l1.length : Int)) :: I t3 :: bt 13 []), []⟩) ?_ ?_
      ·refine XR 2 ?_
       refine L0 rfl rfl (Y0_cat (a := out2 ++ ((⟨#[32]⟩ : ByteArray))) (b := e7) rfl (by kernel_rfl) (by kernel_rfl) (catR_some hu10)) ?_
       exact XE
      show V _ _ _ _
      obtain ⟨t11, ht11, h⟩ := of_sI h
      refine V_reg (mb 22 456) [] (s1 := ⟨bt 3 (.c (.v (.string ((out2 ++ ((⟨#[32]⟩ : ByteArray))) ++ e7))) :: .bot :: .bot :: .c (.sl (l1.map c9)) :: I ((l1.length : Int)) :: I t11 :: bt 13 []), []⟩) ?_ ?_
      ·refine XR 2 ?_
       refine XL_nil ?_
       subst ht11
       kernel_rfl
      exact ⟨n, Nat.lt_succ_self n, _, _,  by rfl, h⟩
     ·have h := of_false h hc8
      refine V_skip ?_
      show V _ _ _ _
      obtain ⟨u12, hu12, h⟩ := of_bind h
      refine V_reg (mb 22 456) [] (s1 := ⟨bt 3 (.c (.v (.string (out2 ++ e7))) :: .bot :: .bot :: .c (.sl (l1.map c9)) :: I ((l1.length : Int)) :: I t3 :: bt 13 []), []⟩) ?_ ?_
      ·refine XR 2 ?_
       refine L0 rfl rfl (Y0_cat (a := out2) (b := e7) rfl (by kernel_rfl) (by kernel_rfl) (catR_some hu12)) ?_
       exact XE
      show V _ _ _ _
      obtain ⟨t13, ht13, h⟩ := of_sI h
      refine V_reg (mb 22 456) [] (s1 := ⟨bt 3 (.c (.v (.string (out2 ++ e7))) :: .bot :: .bot :: .c (.sl (l1.map c9)) :: I ((l1.length : Int)) :: I t13 :: bt 13 []), []⟩) ?_ ?_
      ·refine XR 2 ?_
       refine XL_nil ?_
       subst ht13
       kernel_rfl
      exact ⟨n, Nat.lt_succ_self n, _, _,  by rfl, h⟩
    ·have h := of_false h hc6
     refine V_exit ?_
     obtain rfl := some_inj h
     show St.keep _ _ _ = _
     rfl
  show V _ _ _ _
  refine V_e (mb 22 4) [] (s1 := ⟨.bot :: .bot :: .c (.v (.string o5)) :: bt 19 [], []⟩) ?_
  refine V_ret ?_
  obtain rfl := some_inj h
  show Post _ _ _ _ _
  exact ⟨.inr rfl, rfl, rfl, rfl⟩
theorem cf_spec_CompositeCertificate : ∀ args w, (callFunc 17 args).run Tryd.prog w = .ok (.enter 17 args) w := run_callFunc Tryd.func17 (by kernel_rfl) (by kernel_rfl)
theorem s_spec_CompositeCertificate {f1 : (Int × Int × Int)} {g2 : (Int × Int × Int)} {r : (ByteArray × Bool)} (h : r_spec_CompositeCertificate f1 g2 = some r) : CallS Tryd.prog 17 [.ag [Ti f1.1, Ti f1.2.1, Ti f1.2.2], .ag [Ti g2.1, Ti g2.2.1, Ti g2.2.2]] (.tc (.c (.v (.string r.1))) (.tc (Bo r.2) .tn)) [] := by
  refine CallS_of_text (rs := [.t 4, .t 5]) (vs := [.tmp 4, .tmp 5]) Tryd.func17 rfl rfl (.cons rfl (.cons rfl FitsL.nil)) (by decide) 42 rfl ?_
  unfold r_spec_CompositeCertificate at h
  show V _ _ ⟨.ag [Ti f1.1, Ti f1.2.1, Ti f1.2.2] :: .ag [Ti g2.1, Ti g2.2.1, Ti g2.2.2] :: bt 40 [], []⟩ _
  refine V_e (mb 42 12) [24, 16] (s1 := ⟨.bot :: .bot :: .pt 16 0 :: .pt 24 0 :: bt 38 [], [(24, .box [Ti g2.1, Ti g2.2.1, Ti g2.2.2]), (16, .box [Ti f1.1, Ti f1.2.1, Ti f1.2.2])]⟩) ?_
  obtain ⟨y3, hy3, h⟩ := of_bind h
  refine V_sreg (mb 42 460) [48, 121, 24, 16] (s1 := ⟨.bot :: .bot :: .pt 16 0 :: .pt 24 0 :: .bot :: .bot :: .pt 48 0 :: .ow 121 :: Bo y3.2.2 :: bt 33 [], [(48, .box [Ti y3.1.1, Ti y3.1.2.1, Ti y3.1.2.2]), (121, .arr 3 1 (y3.2.1.map c3)), (24, .box [Ti g2.1, Ti g2.2.1, Ti g2.2.2]), (16, .box [Ti f1.1, Ti f1.2.1, Ti f1.2.2])]⟩) ?_ ?_
  ·refine XR 2 ?_
   refine XC (s_spec_CompositionProof hy3) cf_spec_CompositionProof rfl rfl rfl ?_
   exact XE
  refine V_seq ?_
  refine V_e (mb 42 1048780) [48, 121, 24, 16] (s1 := ⟨.bot :: .bot :: .pt 16 0 :: .pt 24 0 :: .bot :: .bot :: .pt 48 0 :: .ow 121 :: bt 12 (Bo (!y3.2.2) :: bt 21 []), [(48, .box [Ti y3.1.1, Ti y3.1.2.1, Ti y3.1.2.2]), (121, .arr 3 1 (y3.2.1.map c3)), (24, .box [Ti g2.1, Ti g2.2.1, Ti g2.2.2]), (16, .box [Ti f1.1, Ti f1.2.1, Ti f1.2.2])]⟩) ?_
  refine V_cond rfl (fun hc4 => ?_) (fun hc4 => ?_)
  ·have h := of_true h hc4
   refine V_e (mb 42 48) [] (s1 := ⟨bt 4 (.c (.v (.string ((⟨#[]⟩ : ByteArray)))) :: Bo false :: bt 36 []), []⟩) ?_
   refine V_ret ?_
   obtain rfl := some_inj h
   show Post _ _ _ _ _
   exact ⟨.inr rfl, rfl, rfl, rfl⟩
  ·have h := of_false h hc4
   refine V_skip ?_
   show V _ _ _ _
   obtain ⟨y5, hy5, h⟩ := of_bind h
   obtain ⟨y6, hy6, h⟩ := of_bind h
   obtain ⟨y7, hy7, h⟩ := of_bind h
   obtain ⟨l8, hl8, h⟩ := of_bind h
   have hl8 := some_inj hl8
   refine V_sdreg [0, 1, 0, 7, 0, 31, 63, 127] 8 (cdm 8 [544, 545, 522, 533, 170, 341, 1365, 5461]) (mb 42 640) [216, 121] (s1 := ⟨bt 7 (.ow 121 :: .bot :: .ow 216 :: bt 32 []), [(216, .arr 9 1 (l8.map c9)), (121, .arr 3 1 (y3.2.1.map c3))]⟩) (by kernel_rfl) (by kernel_rfl) ?_ ?_
   ·refine DR 1 ?_
    refine DC 1 (s_spec_foText hy5) cf_spec_foText rfl rfl rfl rfl 22 rfl ?_
    refine DR 1 ?_
    refine DC 3 (s_spec_foText hy6) cf_spec_foText rfl rfl rfl rfl 24 rfl ?_
    refine DR 1 ?_
    refine DC 5 (s_spec_foText hy7) cf_spec_foText rfl rfl rfl rfl 26 rfl ?_
    refine DE_1 6 (by kernel_rfl) rfl rfl rfl (gsat_none rfl) (Y1_bslice (z := zv9) (els := [(⟨#[99, 111, 109, 112, 111, 115, 105, 116, 101]⟩ : ByteArray), y5, y6, y7].map c9) Tryd.underlying24 iz9 rfl (by decide) rfl (by kernel_rfl) rfl (by simp [c9]) (by decide) (by decide)) rfl rfl rfl 27 rfl ?_
    refine DA 1 ?_
    refine XL_nil ?_
    subst hl8
    kernel_rfl
   refine V_seq ?_
   refine V_sreg (mb 42 1879048704) [216, 121] (s1 := ⟨bt 9 (.ow 216 :: bt 18 (.ow 121 :: I ((y3.2.1.length : Int)) :: I 0 :: bt 11 [])), [(216, .arr 9 1 (l8.map c9)), (121, .arr 3 1 (y3.2.1.map c3))]⟩) ?_ ?_
   ·refine XR 1 ?_
    refine L0 rfl rfl (Y0_lenM (c := c3) (xs := y3.2.1) Tryd.underlying58 rfl (by kernel_rfl)) ?_
    exact XE
   obtain ⟨o12, hLo12, h⟩ := of_bind h
   refine V_toK (mb 42 512) [216] (s1 := ⟨bt 9 (.ow 216 :: bt 32 []), [(216, .arr 9 1 (o12.map c9))]⟩) ?_ ?_
   ·clear h
    refine V_block (V_loop (fun n s => ∃ (t9 : Int) (l10 : List ByteArray), s.keep (mb 42 1879048704) [216, 121] = (⟨bt 9 (.ow 216 :: bt 18 (.ow 121 :: I ((y3.2.1.length : Int)) :: I t9 :: bt 11 [])), [(216, .arr 9 1 (l10.map c9)), (121, .arr 3 1 (y3.2.1.map c3))]⟩ : St) ∧ r_spec_CompositeCertificate_L11 y3 n t9 l10 = some o12) FU ⟨_, _,  by rfl, hLo12⟩ ?_)
    clear hLo12
    rintro n s ⟨t9, l10, hs, h⟩
    refine V_keep _ _ hs ?_
    clear hs
    cases n with
    | zero => cases h
    | succ n =>
     rw [r_spec_CompositeCertificate_L11] at h
     refine V_e (mb 42 4026532352) [216, 121] (s1 := ⟨bt 9 (.ow 216 :: bt 18 (.ow 121 :: I ((y3.2.1.length : Int)) :: I t9 :: Bo (ltI t9 ((y3.2.1.length : Int))) :: bt 10 [])), [(216, .arr 9 1 (l10.map c9)), (121, .arr 3 1 (y3.2.1.map c3))]⟩) ?_
     refine V_seq ?_
     refine V_cond rfl (fun hc13 => ?_) (fun hc13 => ?_)
     ·have h := of_true h hc13
      refine V_skip ?_
      show V _ _ _ _
      refine V_seq ?_
      refine V_block ?_
      obtain ⟨e14, he14, h⟩ := of_bind h
      obtain ⟨e15, he15, h⟩ := of_bind h
      refine V_sreg (mb 42 1879050752) [216, 121] (s1 := ⟨bt 9 (.ow 216 :: .bot :: I e15 :: bt 16 (.ow 121 :: I ((y3.2.1.length : Int)) :: I t9 :: bt 11 [])), [(216, .arr 9 1 (l10.map c9)), (121, .arr 3 1 (y3.2.1.map c3))]⟩) ?_ ?_
      ·refine L0 rfl rfl (Y0_idxoM (c := c3) (xs := y3.2.1) (v := e14) (id := 121) (T := 3) (sz := 1) (n := t9) Tryd.underlying58 sz3 rfl (by kernel_rfl) (by kernel_rfl) (by kernel_rfl) he14) ?_
       refine L0 rfl rfl (Y0_loado1 (c := c3) (xs := y3.2.1) (v := e15) (id := 121) (sz := 1) (T := 3) (off := 0) (n := t9) (d := Ti e15) (ds := []) sc3 rfl (by kernel_rfl) (by kernel_rfl) he15 (by kernel_rfl)) ?_
       exact XE
      obtain ⟨y16, hy16, h⟩ := of_bind h
      obtain ⟨u17, hu17, h⟩ := of_bind h
      refine V_reg (mb 42 1879048704) [216, 121] (s1 := ⟨bt 9 (.ow 216 :: bt 18 (.ow 121 :: I ((y3.2.1.length : Int)) :: I t9 :: bt 11 [])), [(216, .arr 9 1 ((l10 ++ ([y16])).map c9)), (121, .arr 3 1 (y3.2.1.map c3))]⟩) ?_ ?_
      ·refine XR 2 ?_
       refine XC (s_spec_l1Int hy16) cf_spec_l1Int rfl rfl rfl ?_
       refine L1 rfl rfl (Y1_bslice (z := zv9) (els := [y16].map c9) Tryd.underlying24 iz9 rfl (by decide) rfl (by kernel_rfl) rfl (by simp [c9]) (by decide) (by decide)) ?_
       refine XL_cons rfl (X_appendM (c := c9) (xs := l10) (ys := [y16]) (id := 216) (z := zv9) rfl rfl Tryd.underlying24 izb9 rfl (by kernel_rfl) (by kernel_rfl) (by kernel_rfl) (fun _ => rfl) (by simp) (room_some hu17) (by decide)) ?_
       exact XE
      show V _ _ _ _
      obtain ⟨t18, ht18, h⟩ := of_sI h
      refine V_reg (mb 42 1879048704) [216, 121] (s1 := ⟨bt 9 (.ow 216 :: bt 18 (.ow 121 :: I ((y3.2.1.length : Int)) :: I t18 :: bt 11 [])), [(216, .arr 9 1 ((l10 ++ ([y16])).map c9)), (121, .arr 3 1 (y3.2.1.map c3))]⟩) ?_ ?_
      ·refine XR 2 ?_
       refine XL_nil ?_
       subst ht18
       kernel_rfl
      exact ⟨n, Nat.lt_succ_self n, _, _,  by rfl, h⟩
     ·have h := of_false h hc13
      refine V_exit ?_
      obtain rfl := some_inj h
      show St.keep _ _ _ = _
      rfl
   show V _ _ _ _
   obtain ⟨y19, hy19, h⟩ := of_bind h
   refine V_sreg (mb 42 48) [] (s1 := ⟨bt 4 (.c (.v (.string y19)) :: Bo true :: bt 36 []), []⟩) ?_ ?_
   ·refine XR 1 ?_
    refine L1 rfl rfl (Y1_callS (s_spec_prText hy19) cf_spec_prText rfl (by kernel_rfl) rfl rfl) ?_
    exact XE
   refine V_ret ?_
   obtain rfl := some_inj h
   show Post _ _ _ _ _
   exact ⟨.inr rfl, rfl, rfl, rfl⟩
theorem cf_impl_areNumbers : ∀ args w, (callFunc 33 args).run Tryd.prog w = .ok (.enter 33 args) w := run_callFunc Tryd.func33 (by kernel_rfl) (by kernel_rfl)
theorem s_impl_areNumbers {list1 : List Int} {r : Bool} (h : r_impl_areNumbers list1 = some r) : CallS Tryd.prog 33 [.c (.sl (list1.map c3))] (Bo r) [] := by
  refine CallS_of_text (rs := [.t 2]) (vs := [.tmp 2]) Tryd.func33 rfl rfl (.cons rfl FitsL.nil) (by decide) 18 rfl ?_
  unfold r_impl_areNumbers at h
  show V _ _ ⟨.c (.sl (list1.map c3)) :: bt 17 [], []⟩ _
  refine V_e (mb 18 1) [] (s1 := ⟨.c (.sl (list1.map c3)) :: bt 17 [], []⟩) ?_
  refine V_seq ?_
  refine V_sreg (mb 18 224) [] (s1 := ⟨bt 5 (.c (.sl (list1.map c3)) :: I ((list1.length : Int)) :: I 0 :: bt 10 []), []⟩) ?_ ?_
  ·refine XR 1 ?_
   refine L0 rfl rfl (Y0_lenM (c := c3) (xs := list1) Tryd.underlying58 rfl (by kernel_rfl)) ?_
   exact XE
  obtain ⟨qo4, hLo4, hko4⟩ := of_bind h
  refine V_toS (q := qo4) (S := fun o4 => ⟨bt 18 [], []⟩) (mb 18 0) [] ?_ ?_
  ·refine V_block (V_loop (fun n s => ∃ (t2 : Int), s.keep (mb 18 224) [] = (⟨bt 5 (.c (.sl (list1.map c3)) :: I ((list1.length : Int)) :: I t2 :: bt 10 []), []⟩ : St) ∧ r_impl_areNumbers_L3 list1 n t2 = some qo4) FU ⟨_,  by rfl, hLo4⟩ ?_)
   clear hLo4
   rintro n s ⟨t2, hs, h⟩
   refine V_keep _ _ hs ?_
   clear hs
   cases n with
   | zero => cases h
   | succ n =>
    rw [r_impl_areNumbers_L3] at h
    refine V_e (mb 18 480) [] (s1 := ⟨bt 5 (.c (.sl (list1.map c3)) :: I ((list1.length : Int)) :: I t2 :: Bo (ltI t2 ((list1.length : Int))) :: bt 9 []), []⟩) ?_
    refine V_seq ?_
    refine V_cond rfl (fun hc5 => ?_) (fun hc5 => ?_)
    ·have h := of_true h hc5
     refine V_skip ?_
     show V _ _ _ _
     refine V_seq ?_
     refine V_block ?_
     obtain ⟨e6, he6, h⟩ := of_bind h
     refine V_sreg (mb 18 240) [] (s1 := ⟨bt 4 (I e6 :: .c (.sl (list1.map c3)) :: I ((list1.length : Int)) :: I t2 :: bt 10 []), []⟩) ?_ ?_
     ·refine L0 rfl rfl (Y0_idxM (c := c3) (xs := list1) (v := e6) (n := t2) Tryd.underlying58 sz3 rfl (by kernel_rfl) (by kernel_rfl) he6) ?_
      exact XE
     refine V_sreg (mb 18 65760) [] (s1 := ⟨bt 5 (.c (.sl (list1.map c3)) :: I ((list1.length : Int)) :: I t2 :: bt 8 (Bo (bif (ltI e6 (-1000000)) then true else (ltI 1000000 e6)) :: .bot :: [])), []⟩) ?_ ?_
     ·refine XR 3 ?_
      refine XL_split (ltI e6 (-1000000)) (fun hc7 => ?_) (fun hc7 => ?_)
      ·refine XL_skipF _ rfl rfl (by kernel_rfl) hc7 rfl ?_
       refine XL_skipF _ rfl rfl (by kernel_rfl) hc7 rfl ?_
       refine XL_cons rfl (X_of_Y0 rfl (Y0_pick1 (b := ltI e6 (-1000000)) (p := true) (q := ltI 1000000 e6) rfl (by kernel_rfl) hc7 (by kernel_rfl))) ?_
       exact XE
      ·refine XL_takeC _ rfl rfl (by kernel_rfl) hc7 (X_of_Y0 rfl (E_move (I e6) rfl (by kernel_rfl))) ?_
       refine XL_takeC _ rfl rfl (by kernel_rfl) hc7 (X_of_Y0 rfl (Y0_gtw (k := .i64) (a := e6) (b := 1000000) rfl (by kernel_rfl) (by kernel_rfl))) ?_
       refine XL_cons rfl (X_of_Y0 rfl (Y0_pick0 (b := ltI e6 (-1000000)) (p := true) (q := ltI 1000000 e6) rfl (by kernel_rfl) hc7 (by kernel_rfl))) ?_
       exact XE
     refine V_cond rfl (fun hc8 => ?_) (fun hc8 => ?_)
     ·have h := of_true h hc8
      refine V_e (mb 18 4) [] (s1 := ⟨.bot :: .bot :: Bo false :: bt 15 [], []⟩) ?_
      refine V_ret ?_
      obtain rfl := some_inj h
      have h := hko4
      obtain rfl := some_inj h
      show Post _ _ _ _ _
      exact ⟨.inr rfl, rfl, rfl, rfl⟩
     ·have h := of_false h hc8
      refine V_skip ?_
      show V _ _ _ _
      obtain ⟨t9, ht9, h⟩ := of_sI h
      refine V_reg (mb 18 224) [] (s1 := ⟨bt 5 (.c (.sl (list1.map c3)) :: I ((list1.length : Int)) :: I t9 :: bt 10 []), []⟩) ?_ ?_
      ·refine XR 2 ?_
       refine XL_nil ?_
       subst ht9
       kernel_rfl
      exact ⟨n, Nat.lt_succ_self n, _,  by rfl, h⟩
    ·have h := of_false h hc5
     refine V_exit ?_
     obtain rfl := some_inj h
     exact ⟨_, rfl, by rfl⟩
  rintro o4 rfl
  have h := hko4
  clear hko4
  show V _ _ _ _
  refine V_e (mb 18 4) [] (s1 := ⟨.bot :: .bot :: Bo true :: bt 15 [], []⟩) ?_
  refine V_ret ?_
  obtain rfl := some_inj h
  show Post _ _ _ _ _
  exact ⟨.inr rfl, rfl, rfl, rfl⟩
theorem cf_impl_IsForm : ∀ args w, (callFunc 74 args).run Tryd.prog w = .ok (.enter 74 args) w := run_callFunc Tryd.func74 (by kernel_rfl) (by kernel_rfl)
theorem s_impl_IsForm {f1 : (Int × Int × Int)} {r : Bool} (h : r_impl_IsForm f1 = some r) : CallS Tryd.prog 74 [.ag [Ti f1.1, Ti f1.2.1, Ti f1.2.2]] (Bo r) [] := by
  refine CallS_of_text (rs := [.t 2]) (vs := [.tmp 2]) Tryd.func74 rfl rfl (.cons rfl FitsL.nil) (by decide) 11 rfl ?_
  unfold r_impl_IsForm at h
  show V _ _ ⟨.ag [Ti f1.1, Ti f1.2.1, Ti f1.2.2] :: bt 10 [], []⟩ _
  refine V_e (mb 11 2) [8] (s1 := ⟨.bot :: .pt 8 0 :: bt 9 [], [(8, .box [Ti f1.1, Ti f1.2.1, Ti f1.2.2])]⟩) ?_
  obtain ⟨y2, hy2, h⟩ := of_bind h
  refine V_sreg (mb 11 4) [] (s1 := ⟨.bot :: .bot :: Bo y2 :: bt 8 [], []⟩) ?_ ?_
  ·refine XR 6 ?_
   refine L1 rfl rfl (Y1_bslice (z := zv3) (els := [f1.1, f1.2.1, f1.2.2].map c3) Tryd.underlying58 iz3 rfl (by decide) rfl (by kernel_rfl) rfl (by simp [c3]) (by decide) (by decide)) ?_
   refine L1 rfl rfl (Y1_callS (s_impl_areNumbers hy2) cf_impl_areNumbers rfl (by kernel_rfl) rfl rfl) ?_
   exact XE
  refine V_ret ?_
  obtain rfl := some_inj h
  show Post _ _ _ _ _
  exact ⟨.inr rfl, rfl, rfl, rfl⟩
theorem cf_impl_Form_disc : ∀ args w, (callFunc 75 args).run Tryd.prog w = .ok (.enter 75 args) w := run_callFunc Tryd.func75 (by kernel_rfl) (by kernel_rfl)
theorem s_impl_Form_disc {f1 : (Int × Int × Int)} {r : Int} (h : r_impl_Form_disc f1 = some r) : CallS Tryd.prog 75 [.ag [Ti f1.1, Ti f1.2.1, Ti f1.2.2]] (I r) [] := by
  refine CallS_of_text (rs := [.t 2]) (vs := [.tmp 2]) Tryd.func75 rfl rfl (.cons rfl FitsL.nil) (by decide) 15 rfl ?_
  unfold r_impl_Form_disc at h
  show V _ _ ⟨.ag [Ti f1.1, Ti f1.2.1, Ti f1.2.2] :: bt 14 [], []⟩ _
  refine V_e (mb 15 2) [8] (s1 := ⟨.bot :: .pt 8 0 :: bt 13 [], [(8, .box [Ti f1.1, Ti f1.2.1, Ti f1.2.2])]⟩) ?_
  obtain ⟨t2, ht2, h⟩ := of_sI h
  refine V_sreg (mb 15 4) [] (s1 := ⟨.bot :: .bot :: I t2 :: bt 12 [], []⟩) ?_ ?_
  ·refine XR 13 ?_
   refine XL_nil ?_
   subst ht2
   kernel_rfl
  refine V_ret ?_
  obtain rfl := some_inj h
  show Post _ _ _ _ _
  exact ⟨.inr rfl, rfl, rfl, rfl⟩
theorem cf_impl_isDefinite : ∀ args w, (callFunc 45 args).run Tryd.prog w = .ok (.enter 45 args) w := run_callFunc Tryd.func45 (by kernel_rfl) (by kernel_rfl)
theorem s_impl_isDefinite {f1 : (Int × Int × Int)} {r : Bool} (h : r_impl_isDefinite f1 = some r) : CallS Tryd.prog 45 [.ag [Ti f1.1, Ti f1.2.1, Ti f1.2.2]] (Bo r) [] := by
  refine CallS_of_text (rs := [.t 2]) (vs := [.tmp 2]) Tryd.func45 rfl rfl (.cons rfl FitsL.nil) (by decide) 15 rfl ?_
  unfold r_impl_isDefinite at h
  show V _ _ ⟨.ag [Ti f1.1, Ti f1.2.1, Ti f1.2.2] :: bt 14 [], []⟩ _
  refine V_e (mb 15 2) [8] (s1 := ⟨.bot :: .pt 8 0 :: bt 13 [], [(8, .box [Ti f1.1, Ti f1.2.1, Ti f1.2.2])]⟩) ?_
  obtain ⟨y2, hy2, h⟩ := of_bind h
  obtain ⟨b5, hb5, h⟩ := of_bind h
  refine V_sreg (mb 15 4) [] (s1 := ⟨.bot :: .bot :: Bo (bif b5 then (ltI 0 f1.1) else false) :: bt 12 [], []⟩) ?_ ?_
  ·refine XR 1 ?_
   refine XC (s_impl_IsForm hy2) cf_impl_IsForm rfl rfl rfl ?_
   refine XR 1 ?_
   refine XL_split y2 (fun hc3 => ?_) (fun hc3 => ?_)
   ·have hb5 := of_true hb5 hc3
    obtain ⟨y4, hy4, hb5⟩ := of_bind hb5
    have hb5 := some_inj hb5
    refine XL_takeC _ rfl rfl (by kernel_rfl) hc3 (X_of_Y0 rfl (E_loadn (cs := [Ti f1.1, Ti f1.2.1, Ti f1.2.2]) [Ti f1.1, Ti f1.2.1, Ti f1.2.2] wd27 rfl (by kernel_rfl) (Nat.le_of_ble_eq_true rfl) (by kernel_rfl))) ?_
    refine XL_takeC _ rfl rfl (by kernel_rfl) hc3 (X_of_Y1 rfl (Y1_call (s_impl_Form_disc hy4) cf_impl_Form_disc rfl (by kernel_rfl))) ?_
    refine XL_takeC _ rfl rfl (by kernel_rfl) hc3 (X_of_Y0 rfl (Y0_ltw (k := .i64) (a := y4) (b := 0) rfl (by kernel_rfl) (by kernel_rfl))) ?_
    refine XL_cons rfl (X_of_Y0 rfl (Y0_pickTe (b := y2) (p := ltI y4 0) rfl (by kernel_rfl) hc3 (by kernel_rfl) hb5)) ?_
    refine XR 1 ?_
    refine XL_split b5 (fun hc6 => ?_) (fun hc6 => ?_)
    ·refine XL_takeC _ rfl rfl (by kernel_rfl) hc6 (X_of_Y0 rfl (E_field (.pt 8 0) Tryd.underlying27 rfl sz3 rfl (by kernel_rfl) (by intro hh; cases hh))) ?_
     refine XL_takeC _ rfl rfl (by kernel_rfl) hc6 (X_of_Y0 rfl (Y0_load1 (c := Ti f1.1) (cs := [Ti f1.2.1, Ti f1.2.2]) sc3 rfl (by kernel_rfl))) ?_
     refine XL_takeC _ rfl rfl (by kernel_rfl) hc6 (X_of_Y0 rfl (Y0_gtw (k := .i64) (a := f1.1) (b := 0) rfl (by kernel_rfl) (by kernel_rfl))) ?_
     refine XL_cons rfl (X_of_Y0 rfl (Y0_pick1 (b := b5) (p := ltI 0 f1.1) (q := false) rfl (by kernel_rfl) hc6 (by kernel_rfl))) ?_
     exact XE
    ·refine XL_skipT _ rfl rfl (by kernel_rfl) hc6 rfl ?_
     refine XL_skipT _ rfl rfl (by kernel_rfl) hc6 rfl ?_
     refine XL_skipT _ rfl rfl (by kernel_rfl) hc6 rfl ?_
     refine XL_cons rfl (X_of_Y0 rfl (Y0_pick0 (b := b5) (p := ltI 0 f1.1) (q := false) rfl (by kernel_rfl) hc6 (by kernel_rfl))) ?_
     exact XE
   ·have hb5 := some_inj (of_false hb5 hc3)
    refine XL_skipT _ rfl rfl (by kernel_rfl) hc3 rfl ?_
    refine XL_skipT _ rfl rfl (by kernel_rfl) hc3 rfl ?_
    refine XL_skipT _ rfl rfl (by kernel_rfl) hc3 rfl ?_
    refine XL_cons rfl (X_of_Y0 rfl (Y0_pickFe (b := y2) (p := false) rfl (by kernel_rfl) hc3 (by kernel_rfl) hb5)) ?_
    refine XR 1 ?_
    refine XL_split b5 (fun hc6 => ?_) (fun hc6 => ?_)
    ·refine XL_takeC _ rfl rfl (by kernel_rfl) hc6 (X_of_Y0 rfl (E_field (.pt 8 0) Tryd.underlying27 rfl sz3 rfl (by kernel_rfl) (by intro hh; cases hh))) ?_
     refine XL_takeC _ rfl rfl (by kernel_rfl) hc6 (X_of_Y0 rfl (Y0_load1 (c := Ti f1.1) (cs := [Ti f1.2.1, Ti f1.2.2]) sc3 rfl (by kernel_rfl))) ?_
     refine XL_takeC _ rfl rfl (by kernel_rfl) hc6 (X_of_Y0 rfl (Y0_gtw (k := .i64) (a := f1.1) (b := 0) rfl (by kernel_rfl) (by kernel_rfl))) ?_
     refine XL_cons rfl (X_of_Y0 rfl (Y0_pick1 (b := b5) (p := ltI 0 f1.1) (q := false) rfl (by kernel_rfl) hc6 (by kernel_rfl))) ?_
     exact XE
    ·refine XL_skipT _ rfl rfl (by kernel_rfl) hc6 rfl ?_
     refine XL_skipT _ rfl rfl (by kernel_rfl) hc6 rfl ?_
     refine XL_skipT _ rfl rfl (by kernel_rfl) hc6 rfl ?_
     refine XL_cons rfl (X_of_Y0 rfl (Y0_pick0 (b := b5) (p := ltI 0 f1.1) (q := false) rfl (by kernel_rfl) hc6 (by kernel_rfl))) ?_
     exact XE
  refine V_ret ?_
  obtain rfl := some_inj h
  show Post _ _ _ _ _
  exact ⟨.inr rfl, rfl, rfl, rfl⟩
theorem cf_impl_isShownForm : ∀ args w, (callFunc 100 args).run Tryd.prog w = .ok (.enter 100 args) w := run_callFunc Tryd.func100 (by kernel_rfl) (by kernel_rfl)
theorem s_impl_isShownForm {f1 : (Int × Int × Int)} {r : Bool} (h : r_impl_isShownForm f1 = some r) : CallS Tryd.prog 100 [.ag [Ti f1.1, Ti f1.2.1, Ti f1.2.2]] (Bo r) [] := by
  refine CallS_of_text (rs := [.t 2]) (vs := [.tmp 2]) Tryd.func100 rfl rfl (.cons rfl FitsL.nil) (by decide) 10 rfl ?_
  unfold r_impl_isShownForm at h
  show V _ _ ⟨.ag [Ti f1.1, Ti f1.2.1, Ti f1.2.2] :: bt 9 [], []⟩ _
  refine V_e (mb 10 2) [8] (s1 := ⟨.bot :: .pt 8 0 :: bt 8 [], [(8, .box [Ti f1.1, Ti f1.2.1, Ti f1.2.2])]⟩) ?_
  obtain ⟨y2, hy2, h⟩ := of_bind h
  obtain ⟨b5, hb5, h⟩ := of_bind h
  refine V_sreg (mb 10 4) [] (s1 := ⟨.bot :: .bot :: Bo b5 :: bt 7 [], []⟩) ?_ ?_
  ·refine XR 1 ?_
   refine XC (s_impl_isDefinite hy2) cf_impl_isDefinite rfl rfl rfl ?_
   refine XR 1 ?_
   refine XL_split y2 (fun hc3 => ?_) (fun hc3 => ?_)
   ·have hb5 := of_true hb5 hc3
    obtain ⟨y4, hy4, hb5⟩ := of_bind hb5
    have hb5 := some_inj hb5
    refine XL_takeC _ rfl rfl (by kernel_rfl) hc3 (X_of_Y0 rfl (E_loadn (cs := [Ti f1.1, Ti f1.2.1, Ti f1.2.2]) [Ti f1.1, Ti f1.2.1, Ti f1.2.2] wd27 rfl (by kernel_rfl) (Nat.le_of_ble_eq_true rfl) (by kernel_rfl))) ?_
    refine XL_takeC _ rfl rfl (by kernel_rfl) hc3 (X_of_Y1 rfl (Y1_call (s_impl_Form_disc hy4) cf_impl_Form_disc rfl (by kernel_rfl))) ?_
    refine XL_takeC _ rfl rfl (by kernel_rfl) hc3 (X_of_Y0 rfl (Y0_gew (k := .i64) (a := y4) (b := -2000) rfl (by kernel_rfl) (by kernel_rfl))) ?_
    refine XL_cons rfl (X_of_Y0 rfl (Y0_pickTe (b := y2) (p := leI (-2000) y4) rfl (by kernel_rfl) hc3 (by kernel_rfl) hb5)) ?_
    exact XE
   ·have hb5 := some_inj (of_false hb5 hc3)
    refine XL_skipT _ rfl rfl (by kernel_rfl) hc3 rfl ?_
    refine XL_skipT _ rfl rfl (by kernel_rfl) hc3 rfl ?_
    refine XL_skipT _ rfl rfl (by kernel_rfl) hc3 rfl ?_
    refine XL_cons rfl (X_of_Y0 rfl (Y0_pickFe (b := y2) (p := false) rfl (by kernel_rfl) hc3 (by kernel_rfl) hb5)) ?_
    exact XE
  refine V_ret ?_
  obtain rfl := some_inj h
  show Post _ _ _ _ _
  exact ⟨.inr rfl, rfl, rfl, rfl⟩
theorem cf_impl_abs : ∀ args w, (callFunc 139 args).run Tryd.prog w = .ok (.enter 139 args) w := run_callFunc Tryd.func139 (by kernel_rfl) (by kernel_rfl)
theorem s_impl_abs {vn1 : Int} {r : Int} (h : r_impl_abs vn1 = some r) : CallS Tryd.prog 139 [I vn1] (I r) [] := by
  refine CallS_of_text (rs := [.t 2]) (vs := [.tmp 2]) Tryd.func139 rfl rfl (.cons rfl FitsL.nil) (by decide) 8 rfl ?_
  unfold r_impl_abs at h
  show V _ _ ⟨I vn1 :: bt 7 [], []⟩ _
  refine V_e (mb 8 1) [] (s1 := ⟨I vn1 :: bt 7 [], []⟩) ?_
  obtain ⟨t2, ht2, h⟩ := of_sI h
  refine V_sreg (mb 8 4) [] (s1 := ⟨.bot :: .bot :: I t2 :: bt 5 [], []⟩) ?_ ?_
  ·refine XR 2 ?_
   refine L0 rfl rfl (Y0_max (a := vn1) (b := -9223372036854775807) rfl (by kernel_rfl) (by kernel_rfl)) ?_
   refine XR 1 ?_
   refine L0 rfl rfl (Y0_max (a := vn1) (b := w64 (0 - (mxI vn1 (-9223372036854775807)))) rfl (by kernel_rfl) (by kernel_rfl)) ?_
   refine XR 1 ?_
   refine XL_nil ?_
   subst ht2
   kernel_rfl
  refine V_ret ?_
  obtain rfl := some_inj h
  show Post _ _ _ _ _
  exact ⟨.inr rfl, rfl, rfl, rfl⟩
theorem cf_impl_gcd : ∀ args w, (callFunc 135 args).run Tryd.prog w = .ok (.enter 135 args) w := run_callFunc Tryd.func135 (by kernel_rfl) (by kernel_rfl)
theorem s_impl_gcd {a1 : Int} {b2 : Int} {r : Int} (h : r_impl_gcd a1 b2 = some r) : CallS Tryd.prog 135 [I a1, I b2] (I r) [] := by
  refine CallS_of_text (rs := [.t 4]) (vs := [.tmp 4]) Tryd.func135 rfl rfl (.cons rfl FitsL.nil) (by decide) 13 rfl ?_
  unfold r_impl_gcd at h
  show V _ _ ⟨I a1 :: I b2 :: bt 11 [], []⟩ _
  refine V_e (mb 13 3) [] (s1 := ⟨I a1 :: I b2 :: bt 11 [], []⟩) ?_
  refine V_seq ?_
  obtain ⟨o6, hLo6, h⟩ := of_bind h
  refine V_toK (mb 13 1) [] (s1 := ⟨I o6 :: bt 12 [], []⟩) ?_ ?_
  ·clear h
   refine V_block (V_loop (fun n s => ∃ (a3 : Int) (b4 : Int), s.keep (mb 13 3) [] = (⟨I a3 :: I b4 :: bt 11 [], []⟩ : St) ∧ r_impl_gcd_L5 n a3 b4 = some o6) FU ⟨_, _,  by rfl, hLo6⟩ ?_)
   clear hLo6
   rintro n s ⟨a3, b4, hs, h⟩
   refine V_keep _ _ hs ?_
   clear hs
   cases n with
   | zero => cases h
   | succ n =>
    rw [r_impl_gcd_L5] at h
    refine V_seq ?_
    refine V_e (mb 13 67) [] (s1 := ⟨I a3 :: I b4 :: bt 4 (Bo (!eqI b4 0) :: bt 6 []), []⟩) ?_
    refine V_cond rfl (fun hc7 => ?_) (fun hc7 => ?_)
    ·have h := of_true h hc7
     refine V_skip ?_
     show V _ _ _ _
     refine V_block ?_
     obtain ⟨z8, hz8, h⟩ := of_bind h
     obtain ⟨b9, hb9, h⟩ := of_sI h
     refine V_dreg [0, 0, 0, 6, 3, 31] 6 (cdm 6 [168, 34, 522, 534, 165, 341]) (mb 13 3) [] (s1 := ⟨I b4 :: I b9 :: bt 11 [], []⟩) (by kernel_rfl) (by kernel_rfl) ?_ ?_
     ·refine DR 3 ?_
      refine DE_0 3 (I (Int.tmod a3 b4)) (by kernel_rfl) rfl rfl rfl (gsat_none rfl) (by kernel_rfl) (Y0_rem (k := .i64) (a := a3) (b := b4) rfl (by kernel_rfl) (by kernel_rfl) (nz_some hz8)) 10 rfl ?_
      refine DA 2 ?_
      refine XL_nil ?_
      subst hb9
      kernel_rfl
     exact ⟨n, Nat.lt_succ_self n, _, _,  by rfl, h⟩
    ·have h := of_false h hc7
     refine V_exit ?_
     obtain rfl := some_inj h
     show St.keep _ _ _ = _
     rfl
  show V _ _ _ _
  obtain ⟨y10, hy10, h⟩ := of_bind h
  refine V_sreg (mb 13 16) [] (s1 := ⟨bt 4 (I y10 :: bt 8 []), []⟩) ?_ ?_
  ·refine XR 1 ?_
   refine XC (s_impl_abs hy10) cf_impl_abs rfl rfl rfl ?_
   exact XE
  refine V_ret ?_
  obtain rfl := some_inj h
  show Post _ _ _ _ _
  exact ⟨.inr rfl, rfl, rfl, rfl⟩
theorem cf_impl_Form_content : ∀ args w, (callFunc 101 args).run Tryd.prog w = .ok (.enter 101 args) w := run_callFunc Tryd.func101 (by kernel_rfl) (by kernel_rfl)
theorem s_impl_Form_content {f1 : (Int × Int × Int)} {r : Int} (h : r_impl_Form_content f1 = some r) : CallS Tryd.prog 101 [.ag [Ti f1.1, Ti f1.2.1, Ti f1.2.2]] (I r) [] := by
  refine CallS_of_text (rs := [.t 2]) (vs := [.tmp 2]) Tryd.func101 rfl rfl (.cons rfl FitsL.nil) (by decide) 11 rfl ?_
  unfold r_impl_Form_content at h
  show V _ _ ⟨.ag [Ti f1.1, Ti f1.2.1, Ti f1.2.2] :: bt 10 [], []⟩ _
  refine V_e (mb 11 2) [8] (s1 := ⟨.bot :: .pt 8 0 :: bt 9 [], [(8, .box [Ti f1.1, Ti f1.2.1, Ti f1.2.2])]⟩) ?_
  obtain ⟨y2, hy2, h⟩ := of_bind h
  obtain ⟨y3, hy3, h⟩ := of_bind h
  refine V_sdreg [0, 1, 0, 4, 0, 16, 60, 127, 255] 9 (cdm 9 [10912, 10913, 2570, 2586, 170, 426, 1370, 5461, 21845]) (mb 11 4) [] (s1 := ⟨.bot :: .bot :: I y3 :: bt 8 [], []⟩) (by kernel_rfl) (by kernel_rfl) ?_ ?_
  ·refine DR 6 ?_
   refine DC 6 (s_impl_gcd hy2) cf_impl_gcd rfl rfl rfl rfl 9 rfl ?_
   refine DC 7 (s_impl_gcd hy3) cf_impl_gcd rfl rfl rfl rfl 10 rfl ?_
   refine DA 1 ?_
   exact XE
  refine V_ret ?_
  obtain rfl := some_inj h
  show Post _ _ _ _ _
  exact ⟨.inr rfl, rfl, rfl, rfl⟩
theorem cf_impl_isClassForm : ∀ args w, (callFunc 63 args).run Tryd.prog w = .ok (.enter 63 args) w := run_callFunc Tryd.func63 (by kernel_rfl) (by kernel_rfl)
theorem s_impl_isClassForm {f1 : (Int × Int × Int)} {r : Bool} (h : r_impl_isClassForm f1 = some r) : CallS Tryd.prog 63 [.ag [Ti f1.1, Ti f1.2.1, Ti f1.2.2]] (Bo r) [] := by
  refine CallS_of_text (rs := [.t 2]) (vs := [.tmp 2]) Tryd.func63 rfl rfl (.cons rfl FitsL.nil) (by decide) 10 rfl ?_
  unfold r_impl_isClassForm at h
  show V _ _ ⟨.ag [Ti f1.1, Ti f1.2.1, Ti f1.2.2] :: bt 9 [], []⟩ _
  refine V_e (mb 10 2) [8] (s1 := ⟨.bot :: .pt 8 0 :: bt 8 [], [(8, .box [Ti f1.1, Ti f1.2.1, Ti f1.2.2])]⟩) ?_
  obtain ⟨y2, hy2, h⟩ := of_bind h
  obtain ⟨b5, hb5, h⟩ := of_bind h
  refine V_sreg (mb 10 4) [] (s1 := ⟨.bot :: .bot :: Bo b5 :: bt 7 [], []⟩) ?_ ?_
  ·refine XR 1 ?_
   refine XC (s_impl_isShownForm hy2) cf_impl_isShownForm rfl rfl rfl ?_
   refine XR 1 ?_
   refine XL_split y2 (fun hc3 => ?_) (fun hc3 => ?_)
   ·have hb5 := of_true hb5 hc3
    obtain ⟨y4, hy4, hb5⟩ := of_bind hb5
    have hb5 := some_inj hb5
    refine XL_takeC _ rfl rfl (by kernel_rfl) hc3 (X_of_Y0 rfl (E_loadn (cs := [Ti f1.1, Ti f1.2.1, Ti f1.2.2]) [Ti f1.1, Ti f1.2.1, Ti f1.2.2] wd27 rfl (by kernel_rfl) (Nat.le_of_ble_eq_true rfl) (by kernel_rfl))) ?_
    refine XL_takeC _ rfl rfl (by kernel_rfl) hc3 (X_of_Y1 rfl (Y1_call (s_impl_Form_content hy4) cf_impl_Form_content rfl (by kernel_rfl))) ?_
    refine XL_takeC _ rfl rfl (by kernel_rfl) hc3 (X_of_Y0 rfl (Y0_eqw (k := .i64) (a := y4) (b := 1) rfl (by kernel_rfl) (by kernel_rfl))) ?_
    refine XL_cons rfl (X_of_Y0 rfl (Y0_pickTe (b := y2) (p := eqI y4 1) rfl (by kernel_rfl) hc3 (by kernel_rfl) hb5)) ?_
    exact XE
   ·have hb5 := some_inj (of_false hb5 hc3)
    refine XL_skipT _ rfl rfl (by kernel_rfl) hc3 rfl ?_
    refine XL_skipT _ rfl rfl (by kernel_rfl) hc3 rfl ?_
    refine XL_skipT _ rfl rfl (by kernel_rfl) hc3 rfl ?_
    refine XL_cons rfl (X_of_Y0 rfl (Y0_pickFe (b := y2) (p := false) rfl (by kernel_rfl) hc3 (by kernel_rfl) hb5)) ?_
    exact XE
  refine V_ret ?_
  obtain rfl := some_inj h
  show Post _ _ _ _ _
  exact ⟨.inr rfl, rfl, rfl, rfl⟩
theorem cf_impl_arePair : ∀ args w, (callFunc 68 args).run Tryd.prog w = .ok (.enter 68 args) w := run_callFunc Tryd.func68 (by kernel_rfl) (by kernel_rfl)
theorem s_impl_arePair {f1 : (Int × Int × Int)} {g2 : (Int × Int × Int)} {r : Bool} (h : r_impl_arePair f1 g2 = some r) : CallS Tryd.prog 68 [.ag [Ti f1.1, Ti f1.2.1, Ti f1.2.2], .ag [Ti g2.1, Ti g2.2.1, Ti g2.2.2]] (Bo r) [] := by
  refine CallS_of_text (rs := [.t 4]) (vs := [.tmp 4]) Tryd.func68 rfl rfl (.cons rfl FitsL.nil) (by decide) 18 rfl ?_
  unfold r_impl_arePair at h
  show V _ _ ⟨.ag [Ti f1.1, Ti f1.2.1, Ti f1.2.2] :: .ag [Ti g2.1, Ti g2.2.1, Ti g2.2.2] :: bt 16 [], []⟩ _
  refine V_e (mb 18 12) [24, 16] (s1 := ⟨.bot :: .bot :: .pt 16 0 :: .pt 24 0 :: bt 14 [], [(24, .box [Ti g2.1, Ti g2.2.1, Ti g2.2.2]), (16, .box [Ti f1.1, Ti f1.2.1, Ti f1.2.2])]⟩) ?_
  obtain ⟨y3, hy3, h⟩ := of_bind h
  obtain ⟨b6, hb6, h⟩ := of_bind h
  obtain ⟨b10, hb10, h⟩ := of_bind h
  refine V_sdreg [0, 1, 3, 7, 15, 31, 63, 127, 255, 127, 1023, 2047, 4095, 8191] 14 (cdm 14 [0, 1, 5, 21, 85, 341, 1365, 529749, 546133, 169301, 349525, 1398101, 5592405, 22369621]) (mb 18 16) [] (s1 := ⟨bt 4 (Bo b10 :: bt 13 []), []⟩) (by kernel_rfl) (by kernel_rfl) ?_ ?_
  ·refine DR 1 ?_
   refine DC 1 (s_impl_isClassForm hy3) cf_impl_isClassForm rfl rfl rfl rfl 6 rfl ?_
   refine DR 1 ?_
   refine DL_split y3 (fun hc4 => ?_) (fun hc4 => ?_)
   ·have hb6 := of_true hb6 hc4
    obtain ⟨y5, hy5, hb6⟩ := of_bind hb6
    have hb6 := some_inj hb6
    refine DE_0 3 (.ag [Ti g2.1, Ti g2.2.1, Ti g2.2.2]) (by kernel_rfl) rfl rfl rfl (gsat_C (y3) rfl rfl (by kernel_rfl) hc4) (by kernel_rfl) (E_loadn (cs := [Ti g2.1, Ti g2.2.1, Ti g2.2.2]) [Ti g2.1, Ti g2.2.1, Ti g2.2.2] wd27 rfl (by kernel_rfl) (Nat.le_of_ble_eq_true rfl) (by kernel_rfl)) 8 rfl ?_
    refine DE_1 4 (by kernel_rfl) rfl rfl rfl (gsat_C (y3) rfl rfl (by kernel_rfl) hc4) (Y1_call (s_impl_isClassForm hy5) cf_impl_isClassForm rfl (by kernel_rfl)) rfl rfl rfl 9 rfl ?_
    refine DE_0 5 (Bo (b6)) (by kernel_rfl) rfl rfl rfl (gsat_none rfl) (by kernel_rfl) (Y0_pickTe (b := y3) (p := y5) rfl (by kernel_rfl) hc4 (by kernel_rfl) hb6) 10 rfl ?_
    refine DR 1 ?_
    refine DL_split b6 (fun hc7 => ?_) (fun hc7 => ?_)
    ·have hb10 := of_true hb10 hc7
     obtain ⟨y8, hy8, hb10⟩ := of_bind hb10
     obtain ⟨y9, hy9, hb10⟩ := of_bind hb10
     have hb10 := some_inj hb10
     refine DE_0 7 (.ag [Ti f1.1, Ti f1.2.1, Ti f1.2.2]) (by kernel_rfl) rfl rfl rfl (gsat_C (b6) rfl rfl (by kernel_rfl) hc7) (by kernel_rfl) (E_loadn (cs := [Ti f1.1, Ti f1.2.1, Ti f1.2.2]) [Ti f1.1, Ti f1.2.1, Ti f1.2.2] wd27 rfl (by kernel_rfl) (Nat.le_of_ble_eq_true rfl) (by kernel_rfl)) 12 rfl ?_
     refine DE_1 8 (by kernel_rfl) rfl rfl rfl (gsat_C (b6) rfl rfl (by kernel_rfl) hc7) (Y1_call (s_impl_Form_disc hy8) cf_impl_Form_disc rfl (by kernel_rfl)) rfl rfl rfl 13 rfl ?_
     refine DE_0 9 (.ag [Ti g2.1, Ti g2.2.1, Ti g2.2.2]) (by kernel_rfl) rfl rfl rfl (gsat_C (b6) rfl rfl (by kernel_rfl) hc7) (by kernel_rfl) (E_loadn (cs := [Ti g2.1, Ti g2.2.1, Ti g2.2.2]) [Ti g2.1, Ti g2.2.1, Ti g2.2.2] wd27 rfl (by kernel_rfl) (Nat.le_of_ble_eq_true rfl) (by kernel_rfl)) 14 rfl ?_
     refine DE_1 10 (by kernel_rfl) rfl rfl rfl (gsat_C (b6) rfl rfl (by kernel_rfl) hc7) (Y1_call (s_impl_Form_disc hy9) cf_impl_Form_disc rfl (by kernel_rfl)) rfl rfl rfl 15 rfl ?_
     refine DE_0 11 (Bo (eqI y8 y9)) (by kernel_rfl) rfl rfl rfl (gsat_C (b6) rfl rfl (by kernel_rfl) hc7) (by kernel_rfl) (Y0_eqw (k := .i64) (a := y8) (b := y9) rfl (by kernel_rfl) (by kernel_rfl)) 16 rfl ?_
     refine DE_0 12 (Bo (b10)) (by kernel_rfl) rfl rfl rfl (gsat_none rfl) (by kernel_rfl) (Y0_pickTe (b := b6) (p := eqI y8 y9) rfl (by kernel_rfl) hc7 (by kernel_rfl) hb10) 17 rfl ?_
     refine DA 1 ?_
     exact XE
    ·have hb10 := some_inj (of_false hb10 hc7)
     refine DE_t 7 (by kernel_rfl) rfl rfl rfl (gun_T (b6) rfl rfl (by kernel_rfl) hc7) 12 rfl ?_
     refine DE_t 8 (by kernel_rfl) rfl rfl rfl (gun_T (b6) rfl rfl (by kernel_rfl) hc7) 13 rfl ?_
     refine DE_t 9 (by kernel_rfl) rfl rfl rfl (gun_T (b6) rfl rfl (by kernel_rfl) hc7) 14 rfl ?_
     refine DE_t 10 (by kernel_rfl) rfl rfl rfl (gun_T (b6) rfl rfl (by kernel_rfl) hc7) 15 rfl ?_
     refine DE_t 11 (by kernel_rfl) rfl rfl rfl (gun_T (b6) rfl rfl (by kernel_rfl) hc7) 16 rfl ?_
     refine DE_0 12 (Bo (b10)) (by kernel_rfl) rfl rfl rfl (gsat_none rfl) (by kernel_rfl) (Y0_pickFe (b := b6) (p := false) rfl (by kernel_rfl) hc7 (by kernel_rfl) hb10) 17 rfl ?_
     refine DA 1 ?_
     exact XE
   ·have hb6 := some_inj (of_false hb6 hc4)
    refine DE_t 3 (by kernel_rfl) rfl rfl rfl (gun_T (y3) rfl rfl (by kernel_rfl) hc4) 8 rfl ?_
    refine DE_t 4 (by kernel_rfl) rfl rfl rfl (gun_T (y3) rfl rfl (by kernel_rfl) hc4) 9 rfl ?_
    refine DE_0 5 (Bo (b6)) (by kernel_rfl) rfl rfl rfl (gsat_none rfl) (by kernel_rfl) (Y0_pickFe (b := y3) (p := false) rfl (by kernel_rfl) hc4 (by kernel_rfl) hb6) 10 rfl ?_
    refine DR 1 ?_
    refine DL_split b6 (fun hc7 => ?_) (fun hc7 => ?_)
    ·have hb10 := of_true hb10 hc7
     obtain ⟨y8, hy8, hb10⟩ := of_bind hb10
     obtain ⟨y9, hy9, hb10⟩ := of_bind hb10
     have hb10 := some_inj hb10
     refine DE_0 7 (.ag [Ti f1.1, Ti f1.2.1, Ti f1.2.2]) (by kernel_rfl) rfl rfl rfl (gsat_C (b6) rfl rfl (by kernel_rfl) hc7) (by kernel_rfl) (E_loadn (cs := [Ti f1.1, Ti f1.2.1, Ti f1.2.2]) [Ti f1.1, Ti f1.2.1, Ti f1.2.2] wd27 rfl (by kernel_rfl) (Nat.le_of_ble_eq_true rfl) (by kernel_rfl)) 12 rfl ?_
     refine DE_1 8 (by kernel_rfl) rfl rfl rfl (gsat_C (b6) rfl rfl (by kernel_rfl) hc7) (Y1_call (s_impl_Form_disc hy8) cf_impl_Form_disc rfl (by kernel_rfl)) rfl rfl rfl 13 rfl ?_
     refine DE_0 9 (.ag [Ti g2.1, Ti g2.2.1, Ti g2.2.2]) (by kernel_rfl) rfl rfl rfl (gsat_C (b6) rfl rfl (by kernel_rfl) hc7) (by kernel_rfl) (E_loadn (cs := [Ti g2.1, Ti g2.2.1, Ti g2.2.2]) [Ti g2.1, Ti g2.2.1, Ti g2.2.2] wd27 rfl (by kernel_rfl) (Nat.le_of_ble_eq_true rfl) (by kernel_rfl)) 14 rfl ?_
     refine DE_1 10 (by kernel_rfl) rfl rfl rfl (gsat_C (b6) rfl rfl (by kernel_rfl) hc7) (Y1_call (s_impl_Form_disc hy9) cf_impl_Form_disc rfl (by kernel_rfl)) rfl rfl rfl 15 rfl ?_
     refine DE_0 11 (Bo (eqI y8 y9)) (by kernel_rfl) rfl rfl rfl (gsat_C (b6) rfl rfl (by kernel_rfl) hc7) (by kernel_rfl) (Y0_eqw (k := .i64) (a := y8) (b := y9) rfl (by kernel_rfl) (by kernel_rfl)) 16 rfl ?_
     refine DE_0 12 (Bo (b10)) (by kernel_rfl) rfl rfl rfl (gsat_none rfl) (by kernel_rfl) (Y0_pickTe (b := b6) (p := eqI y8 y9) rfl (by kernel_rfl) hc7 (by kernel_rfl) hb10) 17 rfl ?_
     refine DA 1 ?_
     exact XE
    ·have hb10 := some_inj (of_false hb10 hc7)
     refine DE_t 7 (by kernel_rfl) rfl rfl rfl (gun_T (b6) rfl rfl (by kernel_rfl) hc7) 12 rfl ?_
     refine DE_t 8 (by kernel_rfl) rfl rfl rfl (gun_T (b6) rfl rfl (by kernel_rfl) hc7) 13 rfl ?_
     refine DE_t 9 (by kernel_rfl) rfl rfl rfl (gun_T (b6) rfl rfl (by kernel_rfl) hc7) 14 rfl ?_
     refine DE_t 10 (by kernel_rfl) rfl rfl rfl (gun_T (b6) rfl rfl (by kernel_rfl) hc7) 15 rfl ?_
     refine DE_t 11 (by kernel_rfl) rfl rfl rfl (gun_T (b6) rfl rfl (by kernel_rfl) hc7) 16 rfl ?_
     refine DE_0 12 (Bo (b10)) (by kernel_rfl) rfl rfl rfl (gsat_none rfl) (by kernel_rfl) (Y0_pickFe (b := b6) (p := false) rfl (by kernel_rfl) hc7 (by kernel_rfl) hb10) 17 rfl ?_
     refine DA 1 ?_
     exact XE
  refine V_ret ?_
  obtain rfl := some_inj h
  show Post _ _ _ _ _
  exact ⟨.inr rfl, rfl, rfl, rfl⟩
theorem cf_impl_one : ∀ args w, (callFunc 76 args).run Tryd.prog w = .ok (.enter 76 args) w := run_callFunc Tryd.func76 (by kernel_rfl) (by kernel_rfl)
theorem s_impl_one {r : (Int × Int × Int × Int)} (h : r_impl_one = some r) : CallS Tryd.prog 76 [] (.ag [Ti r.1, Ti r.2.1, Ti r.2.2.1, Ti r.2.2.2]) [] := by
  refine CallS_of_text (rs := [.w 0 4]) (vs := [.cell 0 42]) Tryd.func76 rfl rfl (.cons ⟨rfl, wd42⟩ FitsL.nil) (by decide) 2 rfl ?_
  unfold r_impl_one at h
  show V _ _ ⟨.bot :: .bot :: [], []⟩ _
  refine V_e (mb 2 1) [0] (s1 := ⟨.pt 0 0 :: .bot :: [], [(0, .box [Ti 0, Ti 0, Ti 0, Ti 0])]⟩) ?_
  refine V_sreg (mb 2 1) [0] (s1 := ⟨.pt 0 0 :: .bot :: [], [(0, .box [Ti 1, Ti 0, Ti 0, Ti 1])]⟩) ?_ ?_
  ·refine L0 rfl rfl (Y0_build (cs := [Ti 1, Ti 0, Ti 0, Ti 1]) pl42 bt42 rfl rfl (by kernel_rfl)) ?_
   exact XE
  refine V_ret ?_
  obtain rfl := some_inj h
  show Post _ _ _ _ _
  exact ⟨.inr rfl, rfl, rfl, rfl⟩
theorem cf_impl_Form_isNormal : ∀ args w, (callFunc 108 args).run Tryd.prog w = .ok (.enter 108 args) w := run_callFunc Tryd.func108 (by kernel_rfl) (by kernel_rfl)
theorem s_impl_Form_isNormal {f1 : (Int × Int × Int)} {r : Bool} (h : r_impl_Form_isNormal f1 = some r) : CallS Tryd.prog 108 [.ag [Ti f1.1, Ti f1.2.1, Ti f1.2.2]] (Bo r) [] := by
  refine CallS_of_text (rs := [.t 2]) (vs := [.tmp 2]) Tryd.func108 rfl rfl (.cons rfl FitsL.nil) (by decide) 16 rfl ?_
  unfold r_impl_Form_isNormal at h
  show V _ _ ⟨.ag [Ti f1.1, Ti f1.2.1, Ti f1.2.2] :: bt 15 [], []⟩ _
  refine V_e (mb 16 2) [8] (s1 := ⟨.bot :: .pt 8 0 :: bt 14 [], [(8, .box [Ti f1.1, Ti f1.2.1, Ti f1.2.2])]⟩) ?_
  obtain ⟨t3, ht3, h⟩ := of_bind h
  have ht3 := some_inj ht3
  refine V_sreg (mb 16 4) [] (s1 := ⟨.bot :: .bot :: Bo t3 :: bt 13 [], []⟩) ?_ ?_
  ·refine XR 7 ?_
   refine XL_split (ltI (w64 (0 - f1.1)) f1.2.1) (fun hc2 => ?_) (fun hc2 => ?_)
   ·refine XL_takeC _ rfl rfl (by kernel_rfl) hc2 (X_of_Y0 rfl (E_field (.pt 8 1) Tryd.underlying27 rfl sz3 rfl (by kernel_rfl) (by intro hh; cases hh))) ?_
    refine XL_takeC _ rfl rfl (by kernel_rfl) hc2 (X_of_Y0 rfl (Y0_load1 (c := Ti f1.2.1) (cs := [Ti f1.2.2]) sc3 rfl (by kernel_rfl))) ?_
    refine XL_takeC _ rfl rfl (by kernel_rfl) hc2 (X_of_Y0 rfl (E_field (.pt 8 0) Tryd.underlying27 rfl sz3 rfl (by kernel_rfl) (by intro hh; cases hh))) ?_
    refine XL_takeC _ rfl rfl (by kernel_rfl) hc2 (X_of_Y0 rfl (Y0_load1 (c := Ti f1.1) (cs := [Ti f1.2.1, Ti f1.2.2]) sc3 rfl (by kernel_rfl))) ?_
    refine XL_takeC _ rfl rfl (by kernel_rfl) hc2 (X_of_Y0 rfl (Y0_lew (k := .i64) (a := f1.2.1) (b := f1.1) rfl (by kernel_rfl) (by kernel_rfl))) ?_
    refine XL_cons rfl (X_of_Y0 rfl (Y0_pick1 (b := ltI (w64 (0 - f1.1)) f1.2.1) (p := leI f1.2.1 f1.1) (q := false) rfl (by kernel_rfl) hc2 (by kernel_rfl))) ?_
    refine XR 1 ?_
    refine XL_nil ?_
    subst ht3
    kernel_rfl
   ·refine XL_skipT _ rfl rfl (by kernel_rfl) hc2 rfl ?_
    refine XL_skipT _ rfl rfl (by kernel_rfl) hc2 rfl ?_
    refine XL_skipT _ rfl rfl (by kernel_rfl) hc2 rfl ?_
    refine XL_skipT _ rfl rfl (by kernel_rfl) hc2 rfl ?_
    refine XL_skipT _ rfl rfl (by kernel_rfl) hc2 rfl ?_
    refine XL_cons rfl (X_of_Y0 rfl (Y0_pick0 (b := ltI (w64 (0 - f1.1)) f1.2.1) (p := leI f1.2.1 f1.1) (q := false) rfl (by kernel_rfl) hc2 (by kernel_rfl))) ?_
    refine XR 1 ?_
    refine XL_nil ?_
    subst ht3
    kernel_rfl
  refine V_ret ?_
  obtain rfl := some_inj h
  show Post _ _ _ _ _
  exact ⟨.inr rfl, rfl, rfl, rfl⟩
theorem cf_impl_Form_isReduced : ∀ args w, (callFunc 77 args).run Tryd.prog w = .ok (.enter 77 args) w := run_callFunc Tryd.func77 (by kernel_rfl) (by kernel_rfl)
theorem s_impl_Form_isReduced {f1 : (Int × Int × Int)} {r : Bool} (h : r_impl_Form_isReduced f1 = some r) : CallS Tryd.prog 77 [.ag [Ti f1.1, Ti f1.2.1, Ti f1.2.2]] (Bo r) [] := by
  refine CallS_of_text (rs := [.t 2]) (vs := [.tmp 2]) Tryd.func77 rfl rfl (.cons rfl FitsL.nil) (by decide) 24 rfl ?_
  unfold r_impl_Form_isReduced at h
  show V _ _ ⟨.ag [Ti f1.1, Ti f1.2.1, Ti f1.2.2] :: bt 23 [], []⟩ _
  refine V_e (mb 24 2) [8] (s1 := ⟨.bot :: .pt 8 0 :: bt 22 [], [(8, .box [Ti f1.1, Ti f1.2.1, Ti f1.2.2])]⟩) ?_
  obtain ⟨y2, hy2, h⟩ := of_bind h
  obtain ⟨t6, ht6, h⟩ := of_bind h
  have ht6 := some_inj ht6
  refine V_sreg (mb 24 4) [] (s1 := ⟨.bot :: .bot :: Bo t6 :: bt 21 [], []⟩) ?_ ?_
  ·refine XR 1 ?_
   refine XC (s_impl_Form_isNormal hy2) cf_impl_Form_isNormal rfl rfl rfl ?_
   refine XR 1 ?_
   refine XL_split y2 (fun hc3 => ?_) (fun hc3 => ?_)
   ·refine XL_takeC _ rfl rfl (by kernel_rfl) hc3 (X_of_Y0 rfl (E_field (.pt 8 0) Tryd.underlying27 rfl sz3 rfl (by kernel_rfl) (by intro hh; cases hh))) ?_
    refine XL_takeC _ rfl rfl (by kernel_rfl) hc3 (X_of_Y0 rfl (Y0_load1 (c := Ti f1.1) (cs := [Ti f1.2.1, Ti f1.2.2]) sc3 rfl (by kernel_rfl))) ?_
    refine XL_takeC _ rfl rfl (by kernel_rfl) hc3 (X_of_Y0 rfl (E_field (.pt 8 2) Tryd.underlying27 rfl sz3 rfl (by kernel_rfl) (by intro hh; cases hh))) ?_
    refine XL_takeC _ rfl rfl (by kernel_rfl) hc3 (X_of_Y0 rfl (Y0_load1 (c := Ti f1.2.2) (cs := []) sc3 rfl (by kernel_rfl))) ?_
    refine XL_takeC _ rfl rfl (by kernel_rfl) hc3 (X_of_Y0 rfl (Y0_ltw (k := .i64) (a := f1.1) (b := f1.2.2) rfl (by kernel_rfl) (by kernel_rfl))) ?_
    refine XL_takeC _ rfl rfl (by kernel_rfl) hc3 (X_of_Y0 rfl (E_move (Bo (ltI f1.1 f1.2.2)) rfl (by kernel_rfl))) ?_
    refine XL_split (ltI f1.1 f1.2.2) (fun hc4 => ?_) (fun hc4 => ?_)
    ·refine XL_skipF _ rfl rfl (by kernel_rfl) hc4 rfl ?_
     refine XL_skipF _ rfl rfl (by kernel_rfl) hc4 rfl ?_
     refine XL_skipF _ rfl rfl (by kernel_rfl) hc4 rfl ?_
     refine XL_skipF _ rfl rfl (by kernel_rfl) hc4 rfl ?_
     refine XL_skipF _ rfl rfl (by kernel_rfl) hc4 rfl ?_
     refine XL_skipF _ rfl rfl (by kernel_rfl) hc4 rfl ?_
     refine XL_skip2 rfl rfl (by kernel_rfl) rfl ?_
     refine XL_skip2 rfl rfl (by kernel_rfl) rfl ?_
     refine XL_skip2 rfl rfl (by kernel_rfl) rfl ?_
     refine XL_skipF _ rfl rfl (by kernel_rfl) hc4 rfl ?_
     refine XL_takeC _ rfl rfl (by kernel_rfl) hc3 (X_of_Y0 rfl (Y0_pick1 (b := ltI f1.1 f1.2.2) (p := true) (q := bif (eqI f1.1 f1.2.2) then (leI 0 f1.2.1) else false) rfl (by kernel_rfl) hc4 (by kernel_rfl))) ?_
     refine XL_cons rfl (X_of_Y0 rfl (Y0_pick1 (b := y2) (p := bif (ltI f1.1 f1.2.2) then true else (bif (eqI f1.1 f1.2.2) then (leI 0 f1.2.1) else false)) (q := false) rfl (by kernel_rfl) hc3 (by kernel_rfl))) ?_
     refine XR 1 ?_
     refine XL_nil ?_
     subst ht6
     kernel_rfl
    ·refine XL_takeC _ rfl rfl (by kernel_rfl) hc4 (X_of_Y0 rfl (E_field (.pt 8 0) Tryd.underlying27 rfl sz3 rfl (by kernel_rfl) (by intro hh; cases hh))) ?_
     refine XL_takeC _ rfl rfl (by kernel_rfl) hc4 (X_of_Y0 rfl (Y0_load1 (c := Ti f1.1) (cs := [Ti f1.2.1, Ti f1.2.2]) sc3 rfl (by kernel_rfl))) ?_
     refine XL_takeC _ rfl rfl (by kernel_rfl) hc4 (X_of_Y0 rfl (E_field (.pt 8 2) Tryd.underlying27 rfl sz3 rfl (by kernel_rfl) (by intro hh; cases hh))) ?_
     refine XL_takeC _ rfl rfl (by kernel_rfl) hc4 (X_of_Y0 rfl (Y0_load1 (c := Ti f1.2.2) (cs := []) sc3 rfl (by kernel_rfl))) ?_
     refine XL_takeC _ rfl rfl (by kernel_rfl) hc4 (X_of_Y0 rfl (Y0_eqw (k := .i64) (a := f1.1) (b := f1.2.2) rfl (by kernel_rfl) (by kernel_rfl))) ?_
     refine XL_takeC _ rfl rfl (by kernel_rfl) hc4 (X_of_Y0 rfl (E_move (Bo (eqI f1.1 f1.2.2)) rfl (by kernel_rfl))) ?_
     refine XL_split (eqI f1.1 f1.2.2) (fun hc5 => ?_) (fun hc5 => ?_)
     ·refine XL_takeC _ rfl rfl (by kernel_rfl) hc5 (X_of_Y0 rfl (E_field (.pt 8 1) Tryd.underlying27 rfl sz3 rfl (by kernel_rfl) (by intro hh; cases hh))) ?_
      refine XL_takeC _ rfl rfl (by kernel_rfl) hc5 (X_of_Y0 rfl (Y0_load1 (c := Ti f1.2.1) (cs := [Ti f1.2.2]) sc3 rfl (by kernel_rfl))) ?_
      refine XL_takeC _ rfl rfl (by kernel_rfl) hc5 (X_of_Y0 rfl (Y0_gew (k := .i64) (a := f1.2.1) (b := 0) rfl (by kernel_rfl) (by kernel_rfl))) ?_
      refine XL_takeC _ rfl rfl (by kernel_rfl) hc4 (X_of_Y0 rfl (Y0_pick1 (b := eqI f1.1 f1.2.2) (p := leI 0 f1.2.1) (q := false) rfl (by kernel_rfl) hc5 (by kernel_rfl))) ?_
      refine XL_takeC _ rfl rfl (by kernel_rfl) hc3 (X_of_Y0 rfl (Y0_pick0 (b := ltI f1.1 f1.2.2) (p := true) (q := bif (eqI f1.1 f1.2.2) then (leI 0 f1.2.1) else false) rfl (by kernel_rfl) hc4 (by kernel_rfl))) ?_
      refine XL_cons rfl (X_of_Y0 rfl (Y0_pick1 (b := y2) (p := bif (ltI f1.1 f1.2.2) then true else (bif (eqI f1.1 f1.2.2) then (leI 0 f1.2.1) else false)) (q := false) rfl (by kernel_rfl) hc3 (by kernel_rfl))) ?_
      refine XR 1 ?_
      refine XL_nil ?_
      subst ht6
      kernel_rfl
     ·refine XL_skipT _ rfl rfl (by kernel_rfl) hc5 rfl ?_
      refine XL_skipT _ rfl rfl (by kernel_rfl) hc5 rfl ?_
      refine XL_skipT _ rfl rfl (by kernel_rfl) hc5 rfl ?_
      refine XL_takeC _ rfl rfl (by kernel_rfl) hc4 (X_of_Y0 rfl (Y0_pick0 (b := eqI f1.1 f1.2.2) (p := leI 0 f1.2.1) (q := false) rfl (by kernel_rfl) hc5 (by kernel_rfl))) ?_
      refine XL_takeC _ rfl rfl (by kernel_rfl) hc3 (X_of_Y0 rfl (Y0_pick0 (b := ltI f1.1 f1.2.2) (p := true) (q := bif (eqI f1.1 f1.2.2) then (leI 0 f1.2.1) else false) rfl (by kernel_rfl) hc4 (by kernel_rfl))) ?_
      refine XL_cons rfl (X_of_Y0 rfl (Y0_pick1 (b := y2) (p := bif (ltI f1.1 f1.2.2) then true else (bif (eqI f1.1 f1.2.2) then (leI 0 f1.2.1) else false)) (q := false) rfl (by kernel_rfl) hc3 (by kernel_rfl))) ?_
      refine XR 1 ?_
      refine XL_nil ?_
      subst ht6
      kernel_rfl
   ·refine XL_skipT _ rfl rfl (by kernel_rfl) hc3 rfl ?_
    refine XL_skipT _ rfl rfl (by kernel_rfl) hc3 rfl ?_
    refine XL_skipT _ rfl rfl (by kernel_rfl) hc3 rfl ?_
    refine XL_skipT _ rfl rfl (by kernel_rfl) hc3 rfl ?_
    refine XL_skipT _ rfl rfl (by kernel_rfl) hc3 rfl ?_
    refine XL_skipT _ rfl rfl (by kernel_rfl) hc3 rfl ?_
    refine XL_skip2 rfl rfl (by kernel_rfl) rfl ?_
    refine XL_skip2 rfl rfl (by kernel_rfl) rfl ?_
    refine XL_skip2 rfl rfl (by kernel_rfl) rfl ?_
    refine XL_skip2 rfl rfl (by kernel_rfl) rfl ?_
    refine XL_skip2 rfl rfl (by kernel_rfl) rfl ?_
    refine XL_skip2 rfl rfl (by kernel_rfl) rfl ?_
    refine XL_skip2 rfl rfl (by kernel_rfl) rfl ?_
    refine XL_skip2 rfl rfl (by kernel_rfl) rfl ?_
    refine XL_skip2 rfl rfl (by kernel_rfl) rfl ?_
    refine XL_skip2 rfl rfl (by kernel_rfl) rfl ?_
    refine XL_skipT _ rfl rfl (by kernel_rfl) hc3 rfl ?_
    refine XL_cons rfl (X_of_Y0 rfl (Y0_pick0 (b := y2) (p := bif (ltI f1.1 f1.2.2) then true else (bif (eqI f1.1 f1.2.2) then (leI 0 f1.2.1) else false)) (q := false) rfl (by kernel_rfl) hc3 (by kernel_rfl))) ?_
    refine XR 1 ?_
    refine XL_nil ?_
    subst ht6
    kernel_rfl
  refine V_ret ?_
  obtain rfl := some_inj h
  show Post _ _ _ _ _
  exact ⟨.inr rfl, rfl, rfl, rfl⟩
theorem cf_impl_mod : ∀ args w, (callFunc 93 args).run Tryd.prog w = .ok (.enter 93 args) w := run_callFunc Tryd.func93 (by kernel_rfl) (by kernel_rfl)
theorem s_impl_mod {a1 : Int} {vm2 : Int} {r : Int} (h : r_impl_mod a1 vm2 = some r) : CallS Tryd.prog 93 [I a1, I vm2] (I r) [] := by
  refine CallS_of_text (rs := [.t 4]) (vs := [.tmp 4]) Tryd.func93 rfl rfl (.cons rfl FitsL.nil) (by decide) 15 rfl ?_
  unfold r_impl_mod at h
  show V _ _ ⟨I a1 :: I vm2 :: bt 13 [], []⟩ _
  refine V_e (mb 15 3) [] (s1 := ⟨I a1 :: I vm2 :: bt 13 [], []⟩) ?_
  obtain ⟨z3, hz3, h⟩ := of_bind h
  obtain ⟨vr4, hvr4, h⟩ := of_sI h
  refine V_sreg (mb 15 34) [] (s1 := ⟨.bot :: I vm2 :: bt 3 (I vr4 :: bt 9 []), []⟩) ?_ ?_
  ·refine XR 2 ?_
   refine L0 rfl rfl (Y0_rem (k := .i64) (a := a1) (b := vm2) rfl (by kernel_rfl) (by kernel_rfl) (nz_some hz3)) ?_
   refine XR 1 ?_
   refine XL_nil ?_
   subst hvr4
   kernel_rfl
  refine V_seq ?_
  refine V_e (mb 15 1058) [] (s1 := ⟨.bot :: I vm2 :: bt 3 (I vr4 :: bt 4 (Bo (ltI vr4 0) :: bt 4 [])), []⟩) ?_
  refine V_cond rfl (fun hc5 => ?_) (fun hc5 => ?_)
  ·have h := of_true h hc5
   obtain ⟨vr6, hvr6, h⟩ := of_sI h
   refine V_reg (mb 15 32) [] (s1 := ⟨bt 5 (I vr6 :: bt 9 []), []⟩) ?_ ?_
   ·refine XR 4 ?_
    refine XL_nil ?_
    subst hvr6
    kernel_rfl
   show V _ _ _ _
   refine V_e (mb 15 16) [] (s1 := ⟨bt 4 (I vr6 :: bt 10 []), []⟩) ?_
   refine V_ret ?_
   obtain rfl := some_inj h
   show Post _ _ _ _ _
   exact ⟨.inr rfl, rfl, rfl, rfl⟩
  ·have h := of_false h hc5
   refine V_skip ?_
   show V _ _ _ _
   refine V_e (mb 15 16) [] (s1 := ⟨bt 4 (I vr4 :: bt 10 []), []⟩) ?_
   refine V_ret ?_
   obtain rfl := some_inj h
   show Post _ _ _ _ _
   exact ⟨.inr rfl, rfl, rfl, rfl⟩
theorem cf_impl_floorDiv : ∀ args w, (callFunc 109 args).run Tryd.prog w = .ok (.enter 109 args) w := run_callFunc Tryd.func109 (by kernel_rfl) (by kernel_rfl)
theorem s_impl_floorDiv {a1 : Int} {vm2 : Int} {r : Int} (h : r_impl_floorDiv a1 vm2 = some r) : CallS Tryd.prog 109 [I a1, I vm2] (I r) [] := by
  refine CallS_of_text (rs := [.t 4]) (vs := [.tmp 4]) Tryd.func109 rfl rfl (.cons rfl FitsL.nil) (by decide) 12 rfl ?_
  unfold r_impl_floorDiv at h
  show V _ _ ⟨I a1 :: I vm2 :: bt 10 [], []⟩ _
  refine V_e (mb 12 3) [] (s1 := ⟨I a1 :: I vm2 :: bt 10 [], []⟩) ?_
  obtain ⟨y3, hy3, h⟩ := of_bind h
  obtain ⟨z4, hz4, h⟩ := of_bind h
  obtain ⟨t5, ht5, h⟩ := of_sI h
  refine V_sreg (mb 12 16) [] (s1 := ⟨bt 4 (I t5 :: bt 7 []), []⟩) ?_ ?_
  ·refine XR 3 ?_
   refine XC (s_impl_mod hy3) cf_impl_mod rfl rfl rfl ?_
   refine XR 2 ?_
   refine L0 rfl rfl (Y0_quo64 (a := w64 (a1 - y3)) (b := vm2) rfl (by kernel_rfl) (by kernel_rfl) (nz_some hz4)) ?_
   refine XR 1 ?_
   refine XL_nil ?_
   subst ht5
   kernel_rfl
  refine V_ret ?_
  obtain rfl := some_inj h
  show Post _ _ _ _ _
  exact ⟨.inr rfl, rfl, rfl, rfl⟩
theorem cf_impl_Form_step : ∀ args w, (callFunc 78 args).run Tryd.prog w = .ok (.enter 78 args) w := run_callFunc Tryd.func78 (by kernel_rfl) (by kernel_rfl)
theorem s_impl_Form_step {f1 : (Int × Int × Int)} {r : (Int × Int × Int × Int)} (h : r_impl_Form_step f1 = some r) : CallS Tryd.prog 78 [.ag [Ti f1.1, Ti f1.2.1, Ti f1.2.2]] (.ag [Ti r.1, Ti r.2.1, Ti r.2.2.1, Ti r.2.2.2]) [] := by
  refine CallS_of_text (rs := [.w 2 4]) (vs := [.cell 2 42]) Tryd.func78 rfl rfl (.cons ⟨rfl, wd42⟩ FitsL.nil) (by decide) 22 rfl ?_
  unfold r_impl_Form_step at h
  show V _ _ ⟨.ag [Ti f1.1, Ti f1.2.1, Ti f1.2.2] :: bt 21 [], []⟩ _
  refine V_e (mb 22 6) [16, 8] (s1 := ⟨.bot :: .pt 8 0 :: .pt 16 0 :: bt 19 [], [(16, .box [Ti 0, Ti 0, Ti 0, Ti 0]), (8, .box [Ti f1.1, Ti f1.2.1, Ti f1.2.2])]⟩) ?_
  refine V_seq ?_
  refine V_block ?_
  obtain ⟨y2, hy2, h⟩ := of_bind h
  refine V_sreg (mb 22 14) [16, 8] (s1 := ⟨.bot :: .pt 8 0 :: .pt 16 0 :: Bo y2 :: bt 18 [], [(16, .box [Ti 0, Ti 0, Ti 0, Ti 0]), (8, .box [Ti f1.1, Ti f1.2.1, Ti f1.2.2])]⟩) ?_ ?_
  ·refine XR 1 ?_
   refine XC (s_impl_Form_isReduced hy2) cf_impl_Form_isReduced rfl rfl rfl ?_
   exact XE
  refine V_cond rfl (fun hc3 => ?_) (fun hc3 => ?_)
  ·have h := of_true h hc3
   obtain ⟨y4, hy4, h⟩ := of_bind h
   refine V_sreg (mb 22 4) [16] (s1 := ⟨.bot :: .bot :: .pt 16 0 :: bt 19 [], [(16, .box [Ti y4.1, Ti y4.2.1, Ti y4.2.2.1, Ti y4.2.2.2])]⟩) ?_ ?_
   ·refine XC (s_impl_one hy4) cf_impl_one rfl rfl rfl ?_
    exact XE
   refine V_ret ?_
   obtain rfl := some_inj h
   show Post _ _ _ _ _
   exact ⟨.inr rfl, rfl, rfl, rfl⟩
  ·have h := of_false h hc3
   obtain ⟨y5, hy5, h⟩ := of_bind h
   refine V_sreg (mb 22 134) [16, 8] (s1 := ⟨.bot :: .pt 8 0 :: .pt 16 0 :: bt 4 (Bo (!y5) :: bt 14 []), [(16, .box [Ti 0, Ti 0, Ti 0, Ti 0]), (8, .box [Ti f1.1, Ti f1.2.1, Ti f1.2.2])]⟩) ?_ ?_
   ·refine XR 1 ?_
    refine XC (s_impl_Form_isNormal hy5) cf_impl_Form_isNormal rfl rfl rfl ?_
    exact XE
   refine V_cond rfl (fun hc6 => ?_) (fun hc6 => ?_)
   ·have h := of_true h hc6
    obtain ⟨y7, hy7, h⟩ := of_bind h
    refine V_sreg (mb 22 4) [16] (s1 := ⟨.bot :: .bot :: .pt 16 0 :: bt 19 [], [(16, .box [Ti 1, Ti y7, Ti 0, Ti 1])]⟩) ?_ ?_
    ·refine XR 8 ?_
     refine XC (s_impl_floorDiv hy7) cf_impl_floorDiv rfl rfl rfl ?_
     refine L0 rfl rfl (Y0_build (cs := [Ti 1, Ti y7, Ti 0, Ti 1]) pl42 bt42 rfl rfl (by kernel_rfl)) ?_
     exact XE
    refine V_ret ?_
    obtain rfl := some_inj h
    show Post _ _ _ _ _
    exact ⟨.inr rfl, rfl, rfl, rfl⟩
   ·have h := of_false h hc6
    refine V_skip ?_
    show V _ _ _ _
    refine V_sreg (mb 22 4) [16] (s1 := ⟨.bot :: .bot :: .pt 16 0 :: bt 19 [], [(16, .box [Ti 0, Ti (-1), Ti 1, Ti 0])]⟩) ?_ ?_
    ·refine L0 rfl rfl (Y0_build (cs := [Ti 0, Ti (-1), Ti 1, Ti 0]) pl42 bt42 rfl rfl (by kernel_rfl)) ?_
     exact XE
    refine V_ret ?_
    obtain rfl := some_inj h
    show Post _ _ _ _ _
    exact ⟨.inr rfl, rfl, rfl, rfl⟩
theorem cf_impl_Form_at : ∀ args w, (callFunc 110 args).run Tryd.prog w = .ok (.enter 110 args) w := run_callFunc Tryd.func110 (by kernel_rfl) (by kernel_rfl)
theorem s_impl_Form_at {f1 : (Int × Int × Int)} {x2 : Int} {y3 : Int} {r : Int} (h : r_impl_Form_at f1 x2 y3 = some r) : CallS Tryd.prog 110 [.ag [Ti f1.1, Ti f1.2.1, Ti f1.2.2], I x2, I y3] (I r) [] := by
  refine CallS_of_text (rs := [.t 6]) (vs := [.tmp 6]) Tryd.func110 rfl rfl (.cons rfl FitsL.nil) (by decide) 27 rfl ?_
  unfold r_impl_Form_at at h
  show V _ _ ⟨.ag [Ti f1.1, Ti f1.2.1, Ti f1.2.2] :: I x2 :: I y3 :: bt 24 [], []⟩ _
  refine V_e (mb 27 14) [24] (s1 := ⟨.bot :: I x2 :: I y3 :: .pt 24 0 :: bt 23 [], [(24, .box [Ti f1.1, Ti f1.2.1, Ti f1.2.2])]⟩) ?_
  obtain ⟨t4, ht4, h⟩ := of_sI h
  refine V_sreg (mb 27 64) [] (s1 := ⟨bt 6 (I t4 :: bt 20 []), []⟩) ?_ ?_
  ·refine XR 21 ?_
   refine XL_nil ?_
   subst ht4
   kernel_rfl
  refine V_ret ?_
  obtain rfl := some_inj h
  show Post _ _ _ _ _
  exact ⟨.inr rfl, rfl, rfl, rfl⟩
theorem cf_impl_Form_polar : ∀ args w, (callFunc 111 args).run Tryd.prog w = .ok (.enter 111 args) w := run_callFunc Tryd.func111 (by kernel_rfl) (by kernel_rfl)
theorem s_impl_Form_polar {f1 : (Int × Int × Int)} {x2 : Int} {y3 : Int} {u4 : Int} {v5 : Int} {r : Int} (h : r_impl_Form_polar f1 x2 y3 u4 v5 = some r) : CallS Tryd.prog 111 [.ag [Ti f1.1, Ti f1.2.1, Ti f1.2.2], I x2, I y3, I u4, I v5] (I r) [] := by
  refine CallS_of_text (rs := [.t 10]) (vs := [.tmp 10]) Tryd.func111 rfl rfl (.cons rfl FitsL.nil) (by decide) 37 rfl ?_
  unfold r_impl_Form_polar at h
  show V _ _ ⟨.ag [Ti f1.1, Ti f1.2.1, Ti f1.2.2] :: I x2 :: I y3 :: I u4 :: I v5 :: bt 32 [], []⟩ _
  refine V_e (mb 37 62) [40] (s1 := ⟨.bot :: I x2 :: I y3 :: I u4 :: I v5 :: .pt 40 0 :: bt 31 [], [(40, .box [Ti f1.1, Ti f1.2.1, Ti f1.2.2])]⟩) ?_
  obtain ⟨t6, ht6, h⟩ := of_sI h
  refine V_sreg (mb 37 1024) [] (s1 := ⟨bt 10 (I t6 :: bt 26 []), []⟩) ?_ ?_
  ·refine XR 27 ?_
   refine XL_nil ?_
   subst ht6
   kernel_rfl
  refine V_ret ?_
  obtain rfl := some_inj h
  show Post _ _ _ _ _
  exact ⟨.inr rfl, rfl, rfl, rfl⟩
theorem cf_impl_Form_substitute : ∀ args w, (callFunc 79 args).run Tryd.prog w = .ok (.enter 79 args) w := run_callFunc Tryd.func79 (by kernel_rfl) (by kernel_rfl)
theorem s_impl_Form_substitute {f1 : (Int × Int × Int)} {vm2 : (Int × Int × Int × Int)} {r : (Int × Int × Int)} (h : r_impl_Form_substitute f1 vm2 = some r) : CallS Tryd.prog 79 [.ag [Ti f1.1, Ti f1.2.1, Ti f1.2.2], .ag [Ti vm2.1, Ti vm2.2.1, Ti vm2.2.2.1, Ti vm2.2.2.2]] (.ag [Ti r.1, Ti r.2.1, Ti r.2.2]) [] := by
  refine CallS_of_text (rs := [.w 4 3]) (vs := [.cell 4 27]) Tryd.func79 rfl rfl (.cons ⟨rfl, wd27⟩ FitsL.nil) (by decide) 28 rfl ?_
  unfold r_impl_Form_substitute at h
  show V _ _ ⟨.ag [Ti f1.1, Ti f1.2.1, Ti f1.2.2] :: .ag [Ti vm2.1, Ti vm2.2.1, Ti vm2.2.2.1, Ti vm2.2.2.2] :: bt 26 [], []⟩ _
  refine V_e (mb 28 28) [32, 24, 16] (s1 := ⟨.bot :: .bot :: .pt 16 0 :: .pt 24 0 :: .pt 32 0 :: bt 23 [], [(32, .box [Ti 0, Ti 0, Ti 0]), (24, .box [Ti vm2.1, Ti vm2.2.1, Ti vm2.2.2.1, Ti vm2.2.2.2]), (16, .box [Ti f1.1, Ti f1.2.1, Ti f1.2.2])]⟩) ?_
  obtain ⟨y3, hy3, h⟩ := of_bind h
  obtain ⟨y4, hy4, h⟩ := of_bind h
  obtain ⟨y5, hy5, h⟩ := of_bind h
  refine V_sdreg [0, 0, 2, 0, 8, 31, 0, 0, 128, 0, 512, 0, 2048, 0, 8192, 32767, 0, 0, 131072, 0, 524288, 2097151, 4194303, 8388607] 23 (cdm 23 [2929883521704, 2929883521666, 2929883521670, 2929883521066, 2929883521130, 2929883521365, 2929883515562, 2929883359914, 2929883376298, 2929880902314, 2929881164458, 2929841580714, 2929845775018, 2929212435114, 2929279543978, 2929525609813, 2923441072810, 2760232315562, 2777412184746, 183251937962, 458129844906, 1466015503701, 5864062014805]) (mb 28 16) [32] (s1 := ⟨bt 4 (.pt 32 0 :: bt 23 []), [(32, .box [Ti y3, Ti y4, Ti y5])]⟩) (by kernel_rfl) (by kernel_rfl) ?_ ?_
  ·refine DR 5 ?_
   refine DC 5 (s_impl_Form_at hy3) cf_impl_Form_at rfl rfl rfl rfl 10 rfl ?_
   refine DR 9 ?_
   refine DC 15 (s_impl_Form_polar hy4) cf_impl_Form_polar rfl rfl rfl rfl 20 rfl ?_
   refine DR 5 ?_
   refine DC 21 (s_impl_Form_at hy5) cf_impl_Form_at rfl rfl rfl rfl 26 rfl ?_
   refine DE_0 22 (.ag [Ti y3, Ti y4, Ti y5]) (by kernel_rfl) rfl rfl rfl (gsat_none rfl) (by kernel_rfl) (Y0_build (cs := [Ti y3, Ti y4, Ti y5]) pl27 bt27 rfl rfl (by kernel_rfl)) 27 rfl ?_
   refine DA 0 ?_
   exact XE
  refine V_ret ?_
  obtain rfl := some_inj h
  show Post _ _ _ _ _
  exact ⟨.inr rfl, rfl, rfl, rfl⟩
theorem cf_impl_Matrix_times : ∀ args w, (callFunc 48 args).run Tryd.prog w = .ok (.enter 48 args) w := run_callFunc Tryd.func48 (by kernel_rfl) (by kernel_rfl)
theorem s_impl_Matrix_times {vm1 : (Int × Int × Int × Int)} {vn2 : (Int × Int × Int × Int)} {r : (Int × Int × Int × Int)} (h : r_impl_Matrix_times vm1 vn2 = some r) : CallS Tryd.prog 48 [.ag [Ti vm1.1, Ti vm1.2.1, Ti vm1.2.2.1, Ti vm1.2.2.2], .ag [Ti vn2.1, Ti vn2.2.1, Ti vn2.2.2.1, Ti vn2.2.2.2]] (.ag [Ti r.1, Ti r.2.1, Ti r.2.2.1, Ti r.2.2.2]) [] := by
  refine CallS_of_text (rs := [.w 4 4]) (vs := [.cell 4 42]) Tryd.func48 rfl rfl (.cons ⟨rfl, wd42⟩ FitsL.nil) (by decide) 50 rfl ?_
  unfold r_impl_Matrix_times at h
  show V _ _ ⟨.ag [Ti vm1.1, Ti vm1.2.1, Ti vm1.2.2.1, Ti vm1.2.2.2] :: .ag [Ti vn2.1, Ti vn2.2.1, Ti vn2.2.2.1, Ti vn2.2.2.2] :: bt 48 [], []⟩ _
  refine V_e (mb 50 28) [32, 24, 16] (s1 := ⟨.bot :: .bot :: .pt 16 0 :: .pt 24 0 :: .pt 32 0 :: bt 45 [], [(32, .box [Ti 0, Ti 0, Ti 0, Ti 0]), (24, .box [Ti vn2.1, Ti vn2.2.1, Ti vn2.2.2.1, Ti vn2.2.2.2]), (16, .box [Ti vm1.1, Ti vm1.2.1, Ti vm1.2.2.1, Ti vm1.2.2.2])]⟩) ?_
  obtain ⟨f3, hf3, h⟩ := of_sI h
  obtain ⟨f4, hf4, h⟩ := of_sI h
  obtain ⟨f5, hf5, h⟩ := of_sI h
  obtain ⟨f6, hf6, h⟩ := of_sI h
  refine V_sreg (mb 50 16) [32] (s1 := ⟨bt 4 (.pt 32 0 :: bt 45 []), [(32, .box [Ti f3, Ti f4, Ti f5, Ti f6])]⟩) ?_ ?_
  ·refine XR 44 ?_
   refine L0 rfl rfl (Y0_build (cs := [Ti (w64 ((w64 (vm1.1 * vn2.1)) + (w64 (vm1.2.1 * vn2.2.2.1)))), Ti (w64 ((w64 (vm1.1 * vn2.2.1)) + (w64 (vm1.2.1 * vn2.2.2.2)))), Ti (w64 ((w64 (vm1.2.2.1 * vn2.1)) + (w64 (vm1.2.2.2 * vn2.2.2.1)))), Ti (w64 ((w64 (vm1.2.2.1 * vn2.2.1)) + (w64 (vm1.2.2.2 * vn2.2.2.2))))]) pl42 bt42 rfl rfl (by kernel_rfl)) ?_
   refine XR 1 ?_
   refine XL_nil ?_
   subst hf3 hf4 hf5 hf6
   kernel_rfl
  refine V_ret ?_
  obtain rfl := some_inj h
  show Post _ _ _ _ _
  exact ⟨.inr rfl, rfl, rfl, rfl⟩
theorem cf_impl_reduce : ∀ args w, (callFunc 46 args).run Tryd.prog w = .ok (.enter 46 args) w := run_callFunc Tryd.func46 (by kernel_rfl) (by kernel_rfl)
theorem s_impl_reduce {f1 : (Int × Int × Int)} {r : (((Int × Int × Int)) × ((Int × Int × Int × Int)))} (h : r_impl_reduce f1 = some r) : CallS Tryd.prog 46 [.ag [Ti f1.1, Ti f1.2.1, Ti f1.2.2]] (.tc (.ag [Ti r.1.1, Ti r.1.2.1, Ti r.1.2.2]) (.tc (.ag [Ti r.2.1, Ti r.2.2.1, Ti r.2.2.2.1, Ti r.2.2.2.2]) .tn)) [] := by
  refine CallS_of_text (rs := [.w 2 3, .w 3 4]) (vs := [.cell 2 27, .cell 3 42]) Tryd.func46 rfl rfl (.cons ⟨rfl, wd27⟩ (.cons ⟨rfl, wd42⟩ FitsL.nil)) (by decide) 20 rfl ?_
  unfold r_impl_reduce at h
  show V _ _ ⟨.ag [Ti f1.1, Ti f1.2.1, Ti f1.2.2] :: bt 19 [], []⟩ _
  refine V_e (mb 20 14) [24, 16, 8] (s1 := ⟨.bot :: .pt 8 0 :: .pt 16 0 :: .pt 24 0 :: bt 16 [], [(24, .box [Ti 0, Ti 0, Ti 0, Ti 0]), (16, .box [Ti 0, Ti 0, Ti 0]), (8, .box [Ti f1.1, Ti f1.2.1, Ti f1.2.2])]⟩) ?_
  obtain ⟨y2, hy2, h⟩ := of_bind h
  refine V_sreg (mb 20 30) [32, 24, 16, 8] (s1 := ⟨.bot :: .pt 8 0 :: .pt 16 0 :: .pt 24 0 :: .pt 32 0 :: bt 15 [], [(32, .box [Ti y2.1, Ti y2.2.1, Ti y2.2.2.1, Ti y2.2.2.2]), (24, .box [Ti 0, Ti 0, Ti 0, Ti 0]), (16, .box [Ti 0, Ti 0, Ti 0]), (8, .box [Ti f1.1, Ti f1.2.1, Ti f1.2.2])]⟩) ?_ ?_
  ·refine XC (s_impl_one hy2) cf_impl_one rfl rfl rfl ?_
   exact XE
  refine V_seq ?_
  obtain ⟨o11, hLo11, h⟩ := of_bind h
  refine V_toK (mb 20 30) [32, 24, 16, 8] (s1 := ⟨.bot :: .pt 8 0 :: .pt 16 0 :: .pt 24 0 :: .pt 32 0 :: bt 15 [], [(32, .box [Ti o11.1, Ti o11.2.1, Ti o11.2.2.1, Ti o11.2.2.2.1]), (24, .box [Ti 0, Ti 0, Ti 0, Ti 0]), (16, .box [Ti 0, Ti 0, Ti 0]), (8, .box [Ti o11.2.2.2.2.1, Ti o11.2.2.2.2.2.1, Ti o11.2.2.2.2.2.2])]⟩) ?_ ?_
  ·clear h
   refine V_block (V_loop (fun n s => ∃ (f3 : Int) (f4 : Int) (f5 : Int) (f6 : Int) (f7 : Int) (f8 : Int) (f9 : Int), s.keep (mb 20 30) [32, 24, 16, 8] = (⟨.bot :: .pt 8 0 :: .pt 16 0 :: .pt 24 0 :: .pt 32 0 :: bt 15 [], [(32, .box [Ti f3, Ti f4, Ti f5, Ti f6]), (24, .box [Ti 0, Ti 0, Ti 0, Ti 0]), (16, .box [Ti 0, Ti 0, Ti 0]), (8, .box [Ti f7, Ti f8, Ti f9])]⟩ : St) ∧ r_impl_reduce_L10 n f3 f4 f5 f6 f7 f8 f9 = some o11) FU ⟨_, _, _, _, _, _, _,  by rfl, hLo11⟩ ?_)
   clear hLo11
   rintro n s ⟨f3, f4, f5, f6, f7, f8, f9, hs, h⟩
   refine V_keep _ _ hs ?_
   clear hs
   cases n with
   | zero => cases h
   | succ n =>
    rw [r_impl_reduce_L10] at h
    refine V_seq ?_
    obtain ⟨y12, hy12, h⟩ := of_bind h
    refine V_sreg (mb 20 542) [32, 24, 16, 8] (s1 := ⟨.bot :: .pt 8 0 :: .pt 16 0 :: .pt 24 0 :: .pt 32 0 :: bt 4 (Bo (!y12) :: bt 10 []), [(32, .box [Ti f3, Ti f4, Ti f5, Ti f6]), (24, .box [Ti 0, Ti 0, Ti 0, Ti 0]), (16, .box [Ti 0, Ti 0, Ti 0]), (8, .box [Ti f7, Ti f8, Ti f9])]⟩) ?_ ?_
    ·refine XR 1 ?_
     refine XC (s_impl_Form_isReduced hy12) cf_impl_Form_isReduced rfl rfl rfl ?_
     exact XE
    refine V_cond rfl (fun hc13 => ?_) (fun hc13 => ?_)
    ·have h := of_true h hc13
     refine V_skip ?_
     show V _ _ _ _
     refine V_block ?_
     obtain ⟨y14, hy14, h⟩ := of_bind h
     refine V_sreg (mb 20 62) [40, 32, 24, 16, 8] (s1 := ⟨.bot :: .pt 8 0 :: .pt 16 0 :: .pt 24 0 :: .pt 32 0 :: .pt 40 0 :: bt 14 [], [(40, .box [Ti y14.1, Ti y14.2.1, Ti y14.2.2.1, Ti y14.2.2.2]), (32, .box [Ti f3, Ti f4, Ti f5, Ti f6]), (24, .box [Ti 0, Ti 0, Ti 0, Ti 0]), (16, .box [Ti 0, Ti 0, Ti 0]), (8, .box [Ti f7, Ti f8, Ti f9])]⟩) ?_ ?_
     ·refine XR 1 ?_
      refine XC (s_impl_Form_step hy14) cf_impl_Form_step rfl rfl rfl ?_
      exact XE
     obtain ⟨y15, hy15, h⟩ := of_bind h
     refine V_sreg (mb 20 62) [40, 32, 24, 16, 8] (s1 := ⟨.bot :: .pt 8 0 :: .pt 16 0 :: .pt 24 0 :: .pt 32 0 :: .pt 40 0 :: bt 14 [], [(40, .box [Ti y14.1, Ti y14.2.1, Ti y14.2.2.1, Ti y14.2.2.2]), (32, .box [Ti f3, Ti f4, Ti f5, Ti f6]), (24, .box [Ti 0, Ti 0, Ti 0, Ti 0]), (16, .box [Ti 0, Ti 0, Ti 0]), (8, .box [Ti y15.1, Ti y15.2.1, Ti y15.2.2])]⟩) ?_ ?_
     ·refine XR 2 ?_
      refine XC (s_impl_Form_substitute hy15) cf_impl_Form_substitute rfl rfl rfl ?_
      exact XE
     obtain ⟨y16, hy16, h⟩ := of_bind h
     refine V_reg (mb 20 30) [32, 24, 16, 8] (s1 := ⟨.bot :: .pt 8 0 :: .pt 16 0 :: .pt 24 0 :: .pt 32 0 :: bt 15 [], [(32, .box [Ti y16.1, Ti y16.2.1, Ti y16.2.2.1, Ti y16.2.2.2]), (24, .box [Ti 0, Ti 0, Ti 0, Ti 0]), (16, .box [Ti 0, Ti 0, Ti 0]), (8, .box [Ti y15.1, Ti y15.2.1, Ti y15.2.2])]⟩) ?_ ?_
     ·refine XR 2 ?_
      refine XC (s_impl_Matrix_times hy16) cf_impl_Matrix_times rfl rfl rfl ?_
      exact XE
     exact ⟨n, Nat.lt_succ_self n, _, _, _, _, _, _, _,  by rfl, h⟩
    ·have h := of_false h hc13
     refine V_exit ?_
     obtain rfl := some_inj h
     show St.keep _ _ _ = _
     rfl
  show V _ _ _ _
  refine V_sdreg [0, 0, 1, 7] 3 [[.z, .b, .z], [.b, .z, .r 16], [.a, .b, .z]] (mb 20 12) [24, 16] (s1 := ⟨.bot :: .bot :: .pt 16 0 :: .pt 24 0 :: bt 16 [], [(24, .box [Ti o11.1, Ti o11.2.1, Ti o11.2.2.1, Ti o11.2.2.2.1]), (16, .box [Ti o11.2.2.2.2.1, Ti o11.2.2.2.2.2.1, Ti o11.2.2.2.2.2.2])]⟩) (by kernel_rfl) (by kernel_rfl) ?_ ?_
  ·refine DA 3 ?_
   exact XE
  refine V_ret ?_
  obtain rfl := some_inj h
  show Post _ _ _ _ _
  exact ⟨.inr rfl, rfl, rfl, rfl⟩
theorem cf_impl_firstPoint : ∀ args w, (callFunc 106 args).run Tryd.prog w = .ok (.enter 106 args) w := run_callFunc Tryd.func106 (by kernel_rfl) (by kernel_rfl)
theorem s_impl_firstPoint {g1 : (Int × Int × Int)} {a2 : Int} {r : (Int × Int)} (h : r_impl_firstPoint g1 a2 = some r) : CallS Tryd.prog 106 [.ag [Ti g1.1, Ti g1.2.1, Ti g1.2.2], I a2] (.tc (I r.1) (.tc (I r.2) .tn)) [] := by
  refine CallS_of_text (rs := [.t 4, .t 5]) (vs := [.tmp 4, .tmp 5]) Tryd.func106 rfl rfl (.cons rfl (.cons rfl FitsL.nil)) (by decide) 43 rfl ?_
  unfold r_impl_firstPoint at h
  show V _ _ ⟨.ag [Ti g1.1, Ti g1.2.1, Ti g1.2.2] :: I a2 :: bt 41 [], []⟩ _
  refine V_e (mb 43 6) [16] (s1 := ⟨.bot :: I a2 :: .pt 16 0 :: bt 40 [], [(16, .box [Ti g1.1, Ti g1.2.1, Ti g1.2.2])]⟩) ?_
  refine V_e (mb 43 70) [16] (s1 := ⟨.bot :: I a2 :: .pt 16 0 :: bt 3 (I 0 :: bt 36 []), [(16, .box [Ti g1.1, Ti g1.2.1, Ti g1.2.2])]⟩) ?_
  obtain ⟨qo5, hLo5, hko5⟩ := of_bind h
  refine V_toS (q := qo5) (S := fun _ => (⟨[], []⟩ : St)) [] [] ?_ ?_
  ·refine V_block (V_loop (fun n s => ∃ (size3 : Int), s.keep (mb 43 70) [16] = (⟨.bot :: I a2 :: .pt 16 0 :: bt 3 (I size3 :: bt 36 []), [(16, .box [Ti g1.1, Ti g1.2.1, Ti g1.2.2])]⟩ : St) ∧ r_impl_firstPoint_L4 a2 g1 n size3 = some qo5) FU ⟨_,  by rfl, hLo5⟩ ?_)
   clear hLo5
   rintro n s ⟨size3, hs, h⟩
   refine V_keep _ _ hs ?_
   clear hs
   cases n with
   | zero => cases h
   | succ n =>
    rw [r_impl_firstPoint_L4] at h
    refine V_seq ?_
    refine V_block ?_
    refine V_e (mb 43 198) [16] (s1 := ⟨.bot :: I a2 :: .pt 16 0 :: bt 3 (I size3 :: I 0 :: bt 35 []), [(16, .box [Ti g1.1, Ti g1.2.1, Ti g1.2.2])]⟩) ?_
    obtain ⟨qo8, hLo8, hko8⟩ := of_bind h
    refine V_toS (q := qo8) (S := fun o8 => ⟨.bot :: I a2 :: .pt 16 0 :: bt 3 (I size3 :: bt 36 []), [(16, .box [Ti g1.1, Ti g1.2.1, Ti g1.2.2])]⟩) (mb 43 70) [16] ?_ ?_
    ·refine V_block (V_loop (fun n s => ∃ (x6 : Int), s.keep (mb 43 198) [16] = (⟨.bot :: I a2 :: .pt 16 0 :: bt 3 (I size3 :: I x6 :: bt 35 []), [(16, .box [Ti g1.1, Ti g1.2.1, Ti g1.2.2])]⟩ : St) ∧ r_impl_firstPoint_L7 a2 g1 size3 n x6 = some qo8) FU ⟨_,  by rfl, hLo8⟩ ?_)
     clear hLo8
     rintro n s ⟨x6, hs, h⟩
     refine V_keep _ _ hs ?_
     clear hs
     cases n with
     | zero => cases h
     | succ n =>
      rw [r_impl_firstPoint_L7] at h
      refine V_seq ?_
      refine V_e (mb 43 8390) [16] (s1 := ⟨.bot :: I a2 :: .pt 16 0 :: bt 3 (I size3 :: I x6 :: bt 5 (Bo (leI x6 size3) :: bt 29 [])), [(16, .box [Ti g1.1, Ti g1.2.1, Ti g1.2.2])]⟩) ?_
      refine V_cond rfl (fun hc9 => ?_) (fun hc9 => ?_)
      ·have h := of_true h hc9
       refine V_skip ?_
       show V _ _ _ _
       refine V_seq ?_
       refine V_block ?_
       refine V_e (mb 43 454) [16] (s1 := ⟨.bot :: I a2 :: .pt 16 0 :: bt 3 (I size3 :: I x6 :: I 0 :: bt 34 []), [(16, .box [Ti g1.1, Ti g1.2.1, Ti g1.2.2])]⟩) ?_
       obtain ⟨qo12, hLo12, hko12⟩ := of_bind h
       refine V_toS (q := qo12) (S := fun o12 => ⟨.bot :: I a2 :: .pt 16 0 :: bt 3 (I size3 :: I x6 :: bt 35 []), [(16, .box [Ti g1.1, Ti g1.2.1, Ti g1.2.2])]⟩) (mb 43 198) [16] ?_ ?_
       ·refine V_block (V_loop (fun n s => ∃ (y10 : Int), s.keep (mb 43 454) [16] = (⟨.bot :: I a2 :: .pt 16 0 :: bt 3 (I size3 :: I x6 :: I y10 :: bt 34 []), [(16, .box [Ti g1.1, Ti g1.2.1, Ti g1.2.2])]⟩ : St) ∧ r_impl_firstPoint_L11 a2 g1 size3 x6 n y10 = some qo12) FU ⟨_,  by rfl, hLo12⟩ ?_)
        clear hLo12
        rintro n s ⟨y10, hs, h⟩
        refine V_keep _ _ hs ?_
        clear hs
        cases n with
        | zero => cases h
        | succ n =>
         rw [r_impl_firstPoint_L11] at h
         refine V_seq ?_
         refine V_e (mb 43 262598) [16] (s1 := ⟨.bot :: I a2 :: .pt 16 0 :: bt 3 (I size3 :: I x6 :: I y10 :: bt 9 (Bo (leI y10 size3) :: bt 24 [])), [(16, .box [Ti g1.1, Ti g1.2.1, Ti g1.2.2])]⟩) ?_
         refine V_cond rfl (fun hc13 => ?_) (fun hc13 => ?_)
         ·have h := of_true h hc13
          refine V_skip ?_
          show V _ _ _ _
          refine V_seq ?_
          refine V_block ?_
          obtain ⟨b16, hb16, h⟩ := of_bind h
          obtain ⟨b20, hb20, h⟩ := of_bind h
          refine V_sreg (mb 43 1099511628230) [16] (s1 := ⟨.bot :: I a2 :: .pt 16 0 :: bt 3 (I size3 :: I x6 :: I y10 :: bt 31 (Bo b20 :: .bot :: .bot :: [])), [(16, .box [Ti g1.1, Ti g1.2.1, Ti g1.2.2])]⟩) ?_ ?_
          ·refine XR 2 ?_
           refine L0 rfl rfl (Y0_max (a := x6) (b := y10) rfl (by kernel_rfl) (by kernel_rfl)) ?_
           refine XR 3 ?_
           refine XL_split (eqI (mxI x6 y10) size3) (fun hc14 => ?_) (fun hc14 => ?_)
           ·have hb16 := of_true hb16 hc14
            obtain ⟨y15, hy15, hb16⟩ := of_bind hb16
            have hb16 := some_inj hb16
            refine XL_takeC _ rfl rfl (by kernel_rfl) hc14 (X_of_Y0 rfl (E_move (I x6) rfl (by kernel_rfl))) ?_
            refine XL_takeC _ rfl rfl (by kernel_rfl) hc14 (X_of_Y0 rfl (E_move (I y10) rfl (by kernel_rfl))) ?_
            refine XL_takeC _ rfl rfl (by kernel_rfl) hc14 (X_of_Y1 rfl (Y1_call (s_impl_gcd hy15) cf_impl_gcd rfl (by kernel_rfl))) ?_
            refine XL_takeC _ rfl rfl (by kernel_rfl) hc14 (X_of_Y0 rfl (Y0_eqw (k := .i64) (a := y15) (b := 1) rfl (by kernel_rfl) (by kernel_rfl))) ?_
            refine XL_cons rfl (X_of_Y0 rfl (Y0_pickTe (b := eqI (mxI x6 y10) size3) (p := eqI y15 1) rfl (by kernel_rfl) hc14 (by kernel_rfl) hb16)) ?_
            refine XR 1 ?_
            refine XL_split b16 (fun hc17 => ?_) (fun hc17 => ?_)
            ·have hb20 := of_true hb20 hc17
             obtain ⟨y18, hy18, hb20⟩ := of_bind hb20
             obtain ⟨y19, hy19, hb20⟩ := of_bind hb20
             have hb20 := some_inj hb20
             refine XL_takeC _ rfl rfl (by kernel_rfl) hc17 (X_of_Y0 rfl (E_loadn (cs := [Ti g1.1, Ti g1.2.1, Ti g1.2.2]) [Ti g1.1, Ti g1.2.1, Ti g1.2.2] wd27 rfl (by kernel_rfl) (Nat.le_of_ble_eq_true rfl) (by kernel_rfl))) ?_
             refine XL_takeC _ rfl rfl (by kernel_rfl) hc17 (X_of_Y0 rfl (E_move (I x6) rfl (by kernel_rfl))) ?_
             refine XL_takeC _ rfl rfl (by kernel_rfl) hc17 (X_of_Y0 rfl (E_move (I y10) rfl (by kernel_rfl))) ?_
             refine XL_takeC _ rfl rfl (by kernel_rfl) hc17 (X_of_Y1 rfl (Y1_call (s_impl_Form_at hy18) cf_impl_Form_at rfl (by kernel_rfl))) ?_
             refine XL_takeC _ rfl rfl (by kernel_rfl) hc17 (X_of_Y0 rfl (E_move (I a2) rfl (by kernel_rfl))) ?_
             refine XL_takeC _ rfl rfl (by kernel_rfl) hc17 (X_of_Y1 rfl (Y1_call (s_impl_gcd hy19) cf_impl_gcd rfl (by kernel_rfl))) ?_
             refine XL_takeC _ rfl rfl (by kernel_rfl) hc17 (X_of_Y0 rfl (Y0_eqw (k := .i64) (a := y19) (b := 1) rfl (by kernel_rfl) (by kernel_rfl))) ?_
             refine XL_cons rfl (X_of_Y0 rfl (Y0_pickTe (b := b16) (p := eqI y19 1) rfl (by kernel_rfl) hc17 (by kernel_rfl) hb20)) ?_
             exact XE
            ·have hb20 := some_inj (of_false hb20 hc17)
             refine XL_skipT _ rfl rfl (by kernel_rfl) hc17 rfl ?_
             refine XL_skipT _ rfl rfl (by kernel_rfl) hc17 rfl ?_
             refine XL_skipT _ rfl rfl (by kernel_rfl) hc17 rfl ?_
             refine XL_skipT _ rfl rfl (by kernel_rfl) hc17 rfl ?_
             refine XL_skipT _ rfl rfl (by kernel_rfl) hc17 rfl ?_
             refine XL_skipT _ rfl rfl (by kernel_rfl) hc17 rfl ?_
             refine XL_skipT _ rfl rfl (by kernel_rfl) hc17 rfl ?_
             refine XL_cons rfl (X_of_Y0 rfl (Y0_pickFe (b := b16) (p := false) rfl (by kernel_rfl) hc17 (by kernel_rfl) hb20)) ?_
             exact XE
           ·have hb16 := some_inj (of_false hb16 hc14)
            refine XL_skipT _ rfl rfl (by kernel_rfl) hc14 rfl ?_
            refine XL_skipT _ rfl rfl (by kernel_rfl) hc14 rfl ?_
            refine XL_skipT _ rfl rfl (by kernel_rfl) hc14 rfl ?_
            refine XL_skipT _ rfl rfl (by kernel_rfl) hc14 rfl ?_
            refine XL_cons rfl (X_of_Y0 rfl (Y0_pickFe (b := eqI (mxI x6 y10) size3) (p := false) rfl (by kernel_rfl) hc14 (by kernel_rfl) hb16)) ?_
            refine XR 1 ?_
            refine XL_split b16 (fun hc17 => ?_) (fun hc17 => ?_)
            ·have hb20 := of_true hb20 hc17
             obtain ⟨y18, hy18, hb20⟩ := of_bind hb20
             obtain ⟨y19, hy19, hb20⟩ := of_bind hb20
             have hb20 := some_inj hb20
             refine XL_takeC _ rfl rfl (by kernel_rfl) hc17 (X_of_Y0 rfl (E_loadn (cs := [Ti g1.1, Ti g1.2.1, Ti g1.2.2]) [Ti g1.1, Ti g1.2.1, Ti g1.2.2] wd27 rfl (by kernel_rfl) (Nat.le_of_ble_eq_true rfl) (by kernel_rfl))) ?_
             refine XL_takeC _ rfl rfl (by kernel_rfl) hc17 (X_of_Y0 rfl (E_move (I x6) rfl (by kernel_rfl))) ?_
             refine XL_takeC _ rfl rfl (by kernel_rfl) hc17 (X_of_Y0 rfl (E_move (I y10) rfl (by kernel_rfl))) ?_
             refine XL_takeC _ rfl rfl (by kernel_rfl) hc17 (X_of_Y1 rfl (Y1_call (s_impl_Form_at hy18) cf_impl_Form_at rfl (by kernel_rfl))) ?_
             refine XL_takeC _ rfl rfl (by kernel_rfl) hc17 (X_of_Y0 rfl (E_move (I a2) rfl (by kernel_rfl))) ?_
             refine XL_takeC _ rfl rfl (by kernel_rfl) hc17 (X_of_Y1 rfl (Y1_call (s_impl_gcd hy19) cf_impl_gcd rfl (by kernel_rfl))) ?_
             refine XL_takeC _ rfl rfl (by kernel_rfl) hc17 (X_of_Y0 rfl (Y0_eqw (k := .i64) (a := y19) (b := 1) rfl (by kernel_rfl) (by kernel_rfl))) ?_
             refine XL_cons rfl (X_of_Y0 rfl (Y0_pickTe (b := b16) (p := eqI y19 1) rfl (by kernel_rfl) hc17 (by kernel_rfl) hb20)) ?_
             exact XE
            ·have hb20 := some_inj (of_false hb20 hc17)
             refine XL_skipT _ rfl rfl (by kernel_rfl) hc17 rfl ?_
             refine XL_skipT _ rfl rfl (by kernel_rfl) hc17 rfl ?_
             refine XL_skipT _ rfl rfl (by kernel_rfl) hc17 rfl ?_
             refine XL_skipT _ rfl rfl (by kernel_rfl) hc17 rfl ?_
             refine XL_skipT _ rfl rfl (by kernel_rfl) hc17 rfl ?_
             refine XL_skipT _ rfl rfl (by kernel_rfl) hc17 rfl ?_
             refine XL_skipT _ rfl rfl (by kernel_rfl) hc17 rfl ?_
             refine XL_cons rfl (X_of_Y0 rfl (Y0_pickFe (b := b16) (p := false) rfl (by kernel_rfl) hc17 (by kernel_rfl) hb20)) ?_
             exact XE
          refine V_cond rfl (fun hc21 => ?_) (fun hc21 => ?_)
          ·have h := of_true h hc21
           refine V_e (mb 43 48) [] (s1 := ⟨bt 4 (I x6 :: I y10 :: bt 37 []), []⟩) ?_
           refine V_ret ?_
           obtain rfl := some_inj h
           have h := hko12
           obtain rfl := some_inj h
           have h := hko8
           obtain rfl := some_inj h
           have h := hko5
           obtain rfl := some_inj h
           show Post _ _ _ _ _
           exact ⟨.inr rfl, rfl, rfl, rfl⟩
          ·have h := of_false h hc21
           refine V_skip ?_
           show V _ _ _ _
           obtain ⟨y22, hy22, h⟩ := of_sI h
           refine V_reg (mb 43 454) [16] (s1 := ⟨.bot :: I a2 :: .pt 16 0 :: bt 3 (I size3 :: I x6 :: I y22 :: bt 34 []), [(16, .box [Ti g1.1, Ti g1.2.1, Ti g1.2.2])]⟩) ?_ ?_
           ·refine XR 3 ?_
            refine XL_nil ?_
            subst hy22
            kernel_rfl
           exact ⟨n, Nat.lt_succ_self n, _,  by rfl, h⟩
         ·have h := of_false h hc13
          refine V_exit ?_
          obtain rfl := some_inj h
          exact ⟨_, rfl, by rfl⟩
       rintro o12 rfl
       have h := hko12
       clear hko12
       show V _ _ _ _
       obtain ⟨x23, hx23, h⟩ := of_sI h
       refine V_reg (mb 43 198) [16] (s1 := ⟨.bot :: I a2 :: .pt 16 0 :: bt 3 (I size3 :: I x23 :: bt 35 []), [(16, .box [Ti g1.1, Ti g1.2.1, Ti g1.2.2])]⟩) ?_ ?_
       ·refine XR 3 ?_
        refine XL_nil ?_
        subst hx23
        kernel_rfl
       exact ⟨n, Nat.lt_succ_self n, _,  by rfl, h⟩
      ·have h := of_false h hc9
       refine V_exit ?_
       obtain rfl := some_inj h
       exact ⟨_, rfl, by rfl⟩
    rintro o8 rfl
    have h := hko8
    clear hko8
    show V _ _ _ _
    obtain ⟨size24, hsize24, h⟩ := of_sI h
    refine V_reg (mb 43 70) [16] (s1 := ⟨.bot :: I a2 :: .pt 16 0 :: bt 3 (I size24 :: bt 36 []), [(16, .box [Ti g1.1, Ti g1.2.1, Ti g1.2.2])]⟩) ?_ ?_
    ·refine XR 3 ?_
     refine XL_nil ?_
     subst hsize24
     kernel_rfl
    exact ⟨n, Nat.lt_succ_self n, _,  by rfl, h⟩
  rintro o5 rfl
  cases hko5
theorem cf_impl_inverse : ∀ args w, (callFunc 138 args).run Tryd.prog w = .ok (.enter 138 args) w := run_callFunc Tryd.func138 (by kernel_rfl) (by kernel_rfl)
theorem s_impl_inverse {a1 : Int} {vm2 : Int} {r : Int} (h : r_impl_inverse a1 vm2 = some r) : CallS Tryd.prog 138 [I a1, I vm2] (I r) [] := by
  refine CallS_of_text (rs := [.t 4]) (vs := [.tmp 4]) Tryd.func138 rfl rfl (.cons rfl FitsL.nil) (by decide) 34 rfl ?_
  unfold r_impl_inverse at h
  show V _ _ ⟨I a1 :: I vm2 :: bt 32 [], []⟩ _
  refine V_e (mb 34 3) [] (s1 := ⟨I a1 :: I vm2 :: bt 32 [], []⟩) ?_
  refine V_e (mb 34 99) [] (s1 := ⟨I a1 :: I vm2 :: bt 3 (I 1 :: I 0 :: bt 27 []), []⟩) ?_
  refine V_seq ?_
  obtain ⟨y3, hy3, h⟩ := of_bind h
  refine V_sreg (mb 34 482) [] (s1 := ⟨.bot :: I vm2 :: bt 3 (I 1 :: I 0 :: I y3 :: I vm2 :: bt 25 []), []⟩) ?_ ?_
  ·refine XR 2 ?_
   refine XC (s_impl_mod hy3) cf_impl_mod rfl rfl rfl ?_
   exact XE
  obtain ⟨o9, hLo9, h⟩ := of_bind h
  refine V_toK (mb 34 34) [] (s1 := ⟨.bot :: I vm2 :: bt 3 (I o9 :: bt 28 []), []⟩) ?_ ?_
  ·clear h
   refine V_block (V_loop (fun n s => ∃ (x4 : Int) (y5 : Int) (vr6 : Int) (vs7 : Int), s.keep (mb 34 482) [] = (⟨.bot :: I vm2 :: bt 3 (I x4 :: I y5 :: I vr6 :: I vs7 :: bt 25 []), []⟩ : St) ∧ r_impl_inverse_L8 vm2 n x4 y5 vr6 vs7 = some o9) FU ⟨_, _, _, _,  by rfl, hLo9⟩ ?_)
   clear hLo9
   rintro n s ⟨x4, y5, vr6, vs7, hs, h⟩
   refine V_keep _ _ hs ?_
   clear hs
   cases n with
   | zero => cases h
   | succ n =>
    rw [r_impl_inverse_L8] at h
    refine V_seq ?_
    refine V_e (mb 34 33250) [] (s1 := ⟨.bot :: I vm2 :: bt 3 (I x4 :: I y5 :: I vr6 :: I vs7 :: bt 6 (Bo (!eqI vs7 0) :: bt 18 [])), []⟩) ?_
    refine V_cond rfl (fun hc10 => ?_) (fun hc10 => ?_)
    ·have h := of_true h hc10
     refine V_skip ?_
     show V _ _ _ _
     refine V_block ?_
     obtain ⟨z11, hz11, h⟩ := of_bind h
     obtain ⟨q12, hq12, h⟩ := of_sI h
     refine V_sreg (mb 34 994) [] (s1 := ⟨.bot :: I vm2 :: bt 3 (I x4 :: I y5 :: I vr6 :: I vs7 :: I q12 :: bt 24 []), []⟩) ?_ ?_
     ·refine XR 2 ?_
      refine L0 rfl rfl (Y0_quo64 (a := vr6) (b := vs7) rfl (by kernel_rfl) (by kernel_rfl) (nz_some hz11)) ?_
      refine XR 1 ?_
      refine XL_nil ?_
      subst hq12
      kernel_rfl
     obtain ⟨vs13, hvs13, h⟩ := of_sI h
     refine V_sreg (mb 34 994) [] (s1 := ⟨.bot :: I vm2 :: bt 3 (I x4 :: I y5 :: I vs7 :: I vs13 :: I q12 :: bt 24 []), []⟩) ?_ ?_
     ·refine XR 8 ?_
      refine XL_nil ?_
      subst hvs13
      kernel_rfl
     obtain ⟨y14, hy14, h⟩ := of_sI h
     refine V_reg (mb 34 482) [] (s1 := ⟨.bot :: I vm2 :: bt 3 (I y5 :: I y14 :: I vs7 :: I vs13 :: bt 25 []), []⟩) ?_ ?_
     ·refine XR 8 ?_
      refine XL_nil ?_
      subst hy14
      kernel_rfl
     exact ⟨n, Nat.lt_succ_self n, _, _, _, _,  by rfl, h⟩
    ·have h := of_false h hc10
     refine V_exit ?_
     obtain rfl := some_inj h
     show St.keep _ _ _ = _
     rfl
  show V _ _ _ _
  obtain ⟨y15, hy15, h⟩ := of_bind h
  refine V_sreg (mb 34 16) [] (s1 := ⟨bt 4 (I y15 :: bt 29 []), []⟩) ?_ ?_
  ·refine XR 2 ?_
   refine XC (s_impl_mod hy15) cf_impl_mod rfl rfl rfl ?_
   exact XE
  refine V_ret ?_
  obtain rfl := some_inj h
  show Post _ _ _ _ _
  exact ⟨.inr rfl, rfl, rfl, rfl⟩
theorem cf_impl_Form_complete : ∀ args w, (callFunc 107 args).run Tryd.prog w = .ok (.enter 107 args) w := run_callFunc Tryd.func107 (by kernel_rfl) (by kernel_rfl)
theorem s_impl_Form_complete {f1 : (Int × Int × Int)} {x2 : Int} {y3 : Int} {r : (((Int × Int × Int)) × ((Int × Int × Int × Int)))} (h : r_impl_Form_complete f1 x2 y3 = some r) : CallS Tryd.prog 107 [.ag [Ti f1.1, Ti f1.2.1, Ti f1.2.2], I x2, I y3] (.tc (.ag [Ti r.1.1, Ti r.1.2.1, Ti r.1.2.2]) (.tc (.ag [Ti r.2.1, Ti r.2.2.1, Ti r.2.2.2.1, Ti r.2.2.2.2]) .tn)) [] := by
  refine CallS_of_text (rs := [.w 6 3, .w 7 4]) (vs := [.cell 6 27, .cell 7 42]) Tryd.func107 rfl rfl (.cons ⟨rfl, wd27⟩ (.cons ⟨rfl, wd42⟩ FitsL.nil)) (by decide) 59 rfl ?_
  unfold r_impl_Form_complete at h
  show V _ _ ⟨.ag [Ti f1.1, Ti f1.2.1, Ti f1.2.2] :: I x2 :: I y3 :: bt 56 [], []⟩ _
  refine V_e (mb 59 206) [56, 48, 24] (s1 := ⟨.bot :: I x2 :: I y3 :: .pt 24 0 :: .bot :: .bot :: .pt 48 0 :: .pt 56 0 :: bt 51 [], [(56, .box [Ti 0, Ti 0, Ti 0, Ti 0]), (48, .box [Ti 0, Ti 0, Ti 0]), (24, .box [Ti f1.1, Ti f1.2.1, Ti f1.2.2])]⟩) ?_
  refine V_sreg (mb 59 462) [64, 56, 48, 24] (s1 := ⟨.bot :: I x2 :: I y3 :: .pt 24 0 :: .bot :: .bot :: .pt 48 0 :: .pt 56 0 :: .pt 64 0 :: bt 50 [], [(64, .box [Ti x2, Ti 0, Ti y3, Ti 0]), (56, .box [Ti 0, Ti 0, Ti 0, Ti 0]), (48, .box [Ti 0, Ti 0, Ti 0]), (24, .box [Ti f1.1, Ti f1.2.1, Ti f1.2.2])]⟩) ?_ ?_
  ·refine XR 2 ?_
   refine L0 rfl rfl (Y0_build (cs := [Ti x2, Ti 0, Ti y3, Ti 0]) pl42 bt42 rfl rfl (by kernel_rfl)) ?_
   exact XE
  obtain ⟨j4, hj4, h⟩ := of_bind h
  refine V_cutK (mb 59 462) [64, 56, 48, 24] (s1 := ⟨.bot :: I x2 :: I y3 :: .pt 24 0 :: .bot :: .bot :: .pt 48 0 :: .pt 56 0 :: .pt 64 0 :: bt 50 [], [(64, .box [Ti x2, Ti j4.1, Ti y3, Ti j4.2]), (56, .box [Ti 0, Ti 0, Ti 0, Ti 0]), (48, .box [Ti 0, Ti 0, Ti 0]), (24, .box [Ti f1.1, Ti f1.2.1, Ti f1.2.2])]⟩) ?_ ?_
  ·clear h
   have h := hj4
   clear hj4
   refine V_e (mb 59 33230) [64, 56, 48, 24] (s1 := ⟨.bot :: I x2 :: I y3 :: .pt 24 0 :: .bot :: .bot :: .pt 48 0 :: .pt 56 0 :: .pt 64 0 :: bt 6 (Bo (eqI y3 0) :: bt 43 []), [(64, .box [Ti x2, Ti 0, Ti y3, Ti 0]), (56, .box [Ti 0, Ti 0, Ti 0, Ti 0]), (48, .box [Ti 0, Ti 0, Ti 0]), (24, .box [Ti f1.1, Ti f1.2.1, Ti f1.2.2])]⟩) ?_
   refine V_cond rfl (fun hc5 => ?_) (fun hc5 => ?_)
   ·have h := of_true h hc5
    refine V_reg (mb 59 462) [64, 56, 48, 24] (s1 := ⟨.bot :: I x2 :: I y3 :: .pt 24 0 :: .bot :: .bot :: .pt 48 0 :: .pt 56 0 :: .pt 64 0 :: bt 50 [], [(64, .box [Ti x2, Ti 0, Ti y3, Ti x2]), (56, .box [Ti 0, Ti 0, Ti 0, Ti 0]), (48, .box [Ti 0, Ti 0, Ti 0]), (24, .box [Ti f1.1, Ti f1.2.1, Ti f1.2.2])]⟩) ?_ ?_
    ·exact XE
    obtain rfl := some_inj h
    show St.keep _ _ _ = _
    rfl
   ·have h := of_false h hc5
    obtain ⟨y6, hy6, h⟩ := of_bind h
    obtain ⟨y7, hy7, h⟩ := of_bind h
    refine V_sreg (mb 59 462) [64, 56, 48, 24] (s1 := ⟨.bot :: I x2 :: I y3 :: .pt 24 0 :: .bot :: .bot :: .pt 48 0 :: .pt 56 0 :: .pt 64 0 :: bt 50 [], [(64, .box [Ti x2, Ti 0, Ti y3, Ti y7]), (56, .box [Ti 0, Ti 0, Ti 0, Ti 0]), (48, .box [Ti 0, Ti 0, Ti 0]), (24, .box [Ti f1.1, Ti f1.2.1, Ti f1.2.2])]⟩) ?_ ?_
    ·refine XR 2 ?_
     refine XC (s_impl_abs hy6) cf_impl_abs rfl rfl rfl ?_
     refine XC (s_impl_inverse hy7) cf_impl_inverse rfl rfl rfl ?_
     exact XE
    obtain ⟨z8, hz8, h⟩ := of_bind h
    obtain ⟨f9, hf9, h⟩ := of_sI h
    refine V_reg (mb 59 462) [64, 56, 48, 24] (s1 := ⟨.bot :: I x2 :: I y3 :: .pt 24 0 :: .bot :: .bot :: .pt 48 0 :: .pt 56 0 :: .pt 64 0 :: bt 50 [], [(64, .box [Ti x2, Ti f9, Ti y3, Ti y7]), (56, .box [Ti 0, Ti 0, Ti 0, Ti 0]), (48, .box [Ti 0, Ti 0, Ti 0]), (24, .box [Ti f1.1, Ti f1.2.1, Ti f1.2.2])]⟩) ?_ ?_
    ·refine XR 6 ?_
     refine L0 rfl rfl (Y0_quo64 (a := w64 ((w64 (x2 * y7)) - 1)) (b := y3) rfl (by kernel_rfl) (by kernel_rfl) (nz_some hz8)) ?_
     refine XR 2 ?_
     refine XL_nil ?_
     subst hf9
     kernel_rfl
    obtain rfl := some_inj h
    show St.keep _ _ _ = _
    rfl
  obtain ⟨y10, hy10, h⟩ := of_bind h
  refine V_sreg (mb 59 974) [72, 64, 56, 48, 24] (s1 := ⟨.bot :: I x2 :: I y3 :: .pt 24 0 :: .bot :: .bot :: .pt 48 0 :: .pt 56 0 :: .pt 64 0 :: .pt 72 0 :: bt 49 [], [(72, .box [Ti y10.1, Ti y10.2.1, Ti y10.2.2]), (64, .box [Ti x2, Ti j4.1, Ti y3, Ti j4.2]), (56, .box [Ti 0, Ti 0, Ti 0, Ti 0]), (48, .box [Ti 0, Ti 0, Ti 0]), (24, .box [Ti f1.1, Ti f1.2.1, Ti f1.2.2])]⟩) ?_ ?_
  ·refine XR 2 ?_
   refine XC (s_impl_Form_substitute hy10) cf_impl_Form_substitute rfl rfl rfl ?_
   exact XE
  obtain ⟨y11, hy11, h⟩ := of_bind h
  obtain ⟨t12, ht12, h⟩ := of_sI h
  refine V_sreg (mb 59 1486) [64, 56, 48, 24] (s1 := ⟨.bot :: I x2 :: I y3 :: .pt 24 0 :: .bot :: .bot :: .pt 48 0 :: .pt 56 0 :: .pt 64 0 :: .bot :: I t12 :: bt 48 [], [(64, .box [Ti x2, Ti j4.1, Ti y3, Ti j4.2]), (56, .box [Ti 0, Ti 0, Ti 0, Ti 0]), (48, .box [Ti 0, Ti 0, Ti 0]), (24, .box [Ti f1.1, Ti f1.2.1, Ti f1.2.2])]⟩) ?_ ?_
  ·refine XR 5 ?_
   refine XC (s_impl_floorDiv hy11) cf_impl_floorDiv rfl rfl rfl ?_
   refine XR 2 ?_
   refine XL_nil ?_
   subst ht12
   kernel_rfl
  obtain ⟨f13, hf13, h⟩ := of_sI h
  refine V_sreg (mb 59 1484) [64, 56, 48, 24] (s1 := ⟨.bot :: .bot :: I y3 :: .pt 24 0 :: .bot :: .bot :: .pt 48 0 :: .pt 56 0 :: .pt 64 0 :: .bot :: I t12 :: bt 48 [], [(64, .box [Ti x2, Ti f13, Ti y3, Ti j4.2]), (56, .box [Ti 0, Ti 0, Ti 0, Ti 0]), (48, .box [Ti 0, Ti 0, Ti 0]), (24, .box [Ti f1.1, Ti f1.2.1, Ti f1.2.2])]⟩) ?_ ?_
  ·refine XR 8 ?_
   refine XL_nil ?_
   subst hf13
   kernel_rfl
  obtain ⟨f14, hf14, h⟩ := of_sI h
  refine V_sreg (mb 59 456) [64, 56, 48, 24] (s1 := ⟨bt 3 (.pt 24 0 :: .bot :: .bot :: .pt 48 0 :: .pt 56 0 :: .pt 64 0 :: bt 50 []), [(64, .box [Ti x2, Ti f13, Ti y3, Ti f14]), (56, .box [Ti 0, Ti 0, Ti 0, Ti 0]), (48, .box [Ti 0, Ti 0, Ti 0]), (24, .box [Ti f1.1, Ti f1.2.1, Ti f1.2.2])]⟩) ?_ ?_
  ·refine XR 8 ?_
   refine XL_nil ?_
   subst hf14
   kernel_rfl
  obtain ⟨y15, hy15, h⟩ := of_bind h
  refine V_sdreg [0, 0, 3, 0, 7, 31] 5 [[.z, .b, .z, .b, .z], [.b, .z, .z, .b, .z], [.a, .a, .z, .b, .z], [.b, .b, .b, .z, .r 48], [.a, .a, .a, .b, .z]] (mb 59 192) [56, 48] (s1 := ⟨bt 6 (.pt 48 0 :: .pt 56 0 :: bt 51 []), [(56, .box [Ti x2, Ti f13, Ti y3, Ti f14]), (48, .box [Ti y15.1, Ti y15.2.1, Ti y15.2.2])]⟩) (by kernel_rfl) (by kernel_rfl) ?_ ?_
  ·refine DR 2 ?_
   refine DC 2 (s_impl_Form_substitute hy15) cf_impl_Form_substitute rfl rfl rfl rfl 57 rfl ?_
   refine DA 2 ?_
   exact XE
  refine V_ret ?_
  obtain rfl := some_inj h
  show Post _ _ _ _ _
  exact ⟨.inr rfl, rfl, rfl, rfl⟩
theorem cf_impl_unite : ∀ args w, (callFunc 69 args).run Tryd.prog w = .ok (.enter 69 args) w := run_callFunc Tryd.func69 (by kernel_rfl) (by kernel_rfl)
theorem s_impl_unite {f1 : (Int × Int × Int)} {g2 : (Int × Int × Int)} {r : (Int × Int × Int × Int × ((Int × Int × Int × Int)) × ((Int × Int × Int × Int)))} (h : r_impl_unite f1 g2 = some r) : CallS Tryd.prog 69 [.ag [Ti f1.1, Ti f1.2.1, Ti f1.2.2], .ag [Ti g2.1, Ti g2.2.1, Ti g2.2.2]] (.ag [Ti r.1, Ti r.2.1, Ti r.2.2.1, Ti r.2.2.2.1, Ti r.2.2.2.2.1.1, Ti r.2.2.2.2.1.2.1, Ti r.2.2.2.2.1.2.2.1, Ti r.2.2.2.2.1.2.2.2, Ti r.2.2.2.2.2.1, Ti r.2.2.2.2.2.2.1, Ti r.2.2.2.2.2.2.2.1, Ti r.2.2.2.2.2.2.2.2]) [] := by
  refine CallS_of_text (rs := [.w 4 12]) (vs := [.cell 4 79]) Tryd.func69 rfl rfl (.cons ⟨rfl, wd79⟩ FitsL.nil) (by decide) 103 rfl ?_
  unfold r_impl_unite at h
  show V _ _ ⟨.ag [Ti f1.1, Ti f1.2.1, Ti f1.2.2] :: .ag [Ti g2.1, Ti g2.2.1, Ti g2.2.2] :: bt 101 [], []⟩ _
  refine V_e (mb 103 28) [32, 24, 16] (s1 := ⟨.bot :: .bot :: .pt 16 0 :: .pt 24 0 :: .pt 32 0 :: bt 98 [], [(32, .box [Ti 0, Ti 0, Ti 0, Ti 0, Ti 0, Ti 0, Ti 0, Ti 0, Ti 0, Ti 0, Ti 0, Ti 0]), (24, .box [Ti g2.1, Ti g2.2.1, Ti g2.2.2]), (16, .box [Ti f1.1, Ti f1.2.1, Ti f1.2.2])]⟩) ?_
  obtain ⟨y3, hy3, h⟩ := of_bind h
  refine V_sreg (mb 103 124) [32, 24, 16] (s1 := ⟨.bot :: .bot :: .pt 16 0 :: .pt 24 0 :: .pt 32 0 :: I y3.1 :: I y3.2 :: bt 96 [], [(32, .box [Ti 0, Ti 0, Ti 0, Ti 0, Ti 0, Ti 0, Ti 0, Ti 0, Ti 0, Ti 0, Ti 0, Ti 0]), (24, .box [Ti g2.1, Ti g2.2.1, Ti g2.2.2]), (16, .box [Ti f1.1, Ti f1.2.1, Ti f1.2.2])]⟩) ?_ ?_
  ·refine XR 3 ?_
   refine XC (s_impl_firstPoint hy3) cf_impl_firstPoint rfl rfl rfl ?_
   exact XE
  obtain ⟨y4, hy4, h⟩ := of_bind h
  refine V_sreg (mb 103 404) [64, 56, 32, 16] (s1 := ⟨.bot :: .bot :: .pt 16 0 :: .bot :: .pt 32 0 :: .bot :: .bot :: .pt 56 0 :: .pt 64 0 :: bt 94 [], [(64, .box [Ti y4.2.1, Ti y4.2.2.1, Ti y4.2.2.2.1, Ti y4.2.2.2.2]), (56, .box [Ti y4.1.1, Ti y4.1.2.1, Ti y4.1.2.2]), (32, .box [Ti 0, Ti 0, Ti 0, Ti 0, Ti 0, Ti 0, Ti 0, Ti 0, Ti 0, Ti 0, Ti 0, Ti 0]), (16, .box [Ti f1.1, Ti f1.2.1, Ti f1.2.2])]⟩) ?_ ?_
  ·refine XR 3 ?_
   refine XC (s_impl_Form_complete hy4) cf_impl_Form_complete rfl rfl rfl ?_
   exact XE
  obtain ⟨y5, hy5, h⟩ := of_bind h
  refine V_sdreg [0, 1, 0, 4, 0, 16, 0, 64, 192, 496, 1023, 0, 4095] 12 (cdm 12 [9087648, 9087649, 9087498, 9087514, 8560810, 8561066, 8391338, 8395434, 8411818, 8476074, 8738133, 2796202]) (mb 103 916) [72, 64, 56, 32, 16] (s1 := ⟨.bot :: .bot :: .pt 16 0 :: .bot :: .pt 32 0 :: .bot :: .bot :: .pt 56 0 :: .pt 64 0 :: .pt 72 0 :: bt 93 [], [(72, .box [Ti f1.1, Ti y4.1.1, Ti y5, Ti 0, Ti 0, Ti 0, Ti 0, Ti 0, Ti 0, Ti 0, Ti 0, Ti 0]), (64, .box [Ti y4.2.1, Ti y4.2.2.1, Ti y4.2.2.2.1, Ti y4.2.2.2.2]), (56, .box [Ti y4.1.1, Ti y4.1.2.1, Ti y4.1.2.2]), (32, .box [Ti 0, Ti 0, Ti 0, Ti 0, Ti 0, Ti 0, Ti 0, Ti 0, Ti 0, Ti 0, Ti 0, Ti 0]), (16, .box [Ti f1.1, Ti f1.2.1, Ti f1.2.2])]⟩) (by kernel_rfl) (by kernel_rfl) ?_ ?_
  ·refine DR 9 ?_
   refine DC 9 (s_impl_mod hy5) cf_impl_mod rfl rfl rfl rfl 33 rfl ?_
   refine DE_0 10 (.ag [Ti f1.1, Ti y4.1.1, Ti y5, Ti 0, Ti 0, Ti 0, Ti 0, Ti 0, Ti 0, Ti 0, Ti 0, Ti 0]) (by kernel_rfl) rfl rfl rfl (gsat_none rfl) (by kernel_rfl) (Y0_build (cs := [Ti f1.1, Ti y4.1.1, Ti y5, Ti 0, Ti 0, Ti 0, Ti 0, Ti 0, Ti 0, Ti 0, Ti 0, Ti 0]) pl79 bt79 rfl rfl (by kernel_rfl)) 34 rfl ?_
   refine DA 1 ?_
   exact XE
  refine V_seq ?_
  obtain ⟨o8, hLo8, h⟩ := of_bind h
  refine V_toK (mb 103 916) [72, 64, 56, 32, 16] (s1 := ⟨.bot :: .bot :: .pt 16 0 :: .bot :: .pt 32 0 :: .bot :: .bot :: .pt 56 0 :: .pt 64 0 :: .pt 72 0 :: bt 93 [], [(72, .box [Ti f1.1, Ti y4.1.1, Ti o8, Ti 0, Ti 0, Ti 0, Ti 0, Ti 0, Ti 0, Ti 0, Ti 0, Ti 0]), (64, .box [Ti y4.2.1, Ti y4.2.2.1, Ti y4.2.2.2.1, Ti y4.2.2.2.2]), (56, .box [Ti y4.1.1, Ti y4.1.2.1, Ti y4.1.2.2]), (32, .box [Ti 0, Ti 0, Ti 0, Ti 0, Ti 0, Ti 0, Ti 0, Ti 0, Ti 0, Ti 0, Ti 0, Ti 0]), (16, .box [Ti f1.1, Ti f1.2.1, Ti f1.2.2])]⟩) ?_ ?_
  ·clear h
   refine V_block (V_loop (fun n s => ∃ (f6 : Int), s.keep (mb 103 916) [72, 64, 56, 32, 16] = (⟨.bot :: .bot :: .pt 16 0 :: .bot :: .pt 32 0 :: .bot :: .bot :: .pt 56 0 :: .pt 64 0 :: .pt 72 0 :: bt 93 [], [(72, .box [Ti f1.1, Ti y4.1.1, Ti f6, Ti 0, Ti 0, Ti 0, Ti 0, Ti 0, Ti 0, Ti 0, Ti 0, Ti 0]), (64, .box [Ti y4.2.1, Ti y4.2.2.1, Ti y4.2.2.2.1, Ti y4.2.2.2.2]), (56, .box [Ti y4.1.1, Ti y4.1.2.1, Ti y4.1.2.2]), (32, .box [Ti 0, Ti 0, Ti 0, Ti 0, Ti 0, Ti 0, Ti 0, Ti 0, Ti 0, Ti 0, Ti 0, Ti 0]), (16, .box [Ti f1.1, Ti f1.2.1, Ti f1.2.2])]⟩ : St) ∧ r_impl_unite_L7 f1 y4 n f6 = some o8) FU ⟨_,  by rfl, hLo8⟩ ?_)
   clear hLo8
   rintro n s ⟨f6, hs, h⟩
   refine V_keep _ _ hs ?_
   clear hs
   cases n with
   | zero => cases h
   | succ n =>
    rw [r_impl_unite_L7] at h
    refine V_seq ?_
    obtain ⟨y9, hy9, h⟩ := of_bind h
    refine V_sreg (mb 103 17592186045332) [72, 64, 56, 32, 16] (s1 := ⟨.bot :: .bot :: .pt 16 0 :: .bot :: .pt 32 0 :: .bot :: .bot :: .pt 56 0 :: .pt 64 0 :: .pt 72 0 :: bt 34 (Bo (!eqI y9 0) :: bt 58 []), [(72, .box [Ti f1.1, Ti y4.1.1, Ti f6, Ti 0, Ti 0, Ti 0, Ti 0, Ti 0, Ti 0, Ti 0, Ti 0, Ti 0]), (64, .box [Ti y4.2.1, Ti y4.2.2.1, Ti y4.2.2.2.1, Ti y4.2.2.2.2]), (56, .box [Ti y4.1.1, Ti y4.1.2.1, Ti y4.1.2.2]), (32, .box [Ti 0, Ti 0, Ti 0, Ti 0, Ti 0, Ti 0, Ti 0, Ti 0, Ti 0, Ti 0, Ti 0, Ti 0]), (16, .box [Ti f1.1, Ti f1.2.1, Ti f1.2.2])]⟩) ?_ ?_
    ·refine XR 8 ?_
     refine XC (s_impl_mod hy9) cf_impl_mod rfl rfl rfl ?_
     exact XE
    refine V_cond rfl (fun hc10 => ?_) (fun hc10 => ?_)
    ·have h := of_true h hc10
     refine V_skip ?_
     show V _ _ _ _
     refine V_block ?_
     obtain ⟨f11, hf11, h⟩ := of_sI h
     refine V_reg (mb 103 916) [72, 64, 56, 32, 16] (s1 := ⟨.bot :: .bot :: .pt 16 0 :: .bot :: .pt 32 0 :: .bot :: .bot :: .pt 56 0 :: .pt 64 0 :: .pt 72 0 :: bt 93 [], [(72, .box [Ti f1.1, Ti y4.1.1, Ti f11, Ti 0, Ti 0, Ti 0, Ti 0, Ti 0, Ti 0, Ti 0, Ti 0, Ti 0]), (64, .box [Ti y4.2.1, Ti y4.2.2.1, Ti y4.2.2.2.1, Ti y4.2.2.2.2]), (56, .box [Ti y4.1.1, Ti y4.1.2.1, Ti y4.1.2.2]), (32, .box [Ti 0, Ti 0, Ti 0, Ti 0, Ti 0, Ti 0, Ti 0, Ti 0, Ti 0, Ti 0, Ti 0, Ti 0]), (16, .box [Ti f1.1, Ti f1.2.1, Ti f1.2.2])]⟩) ?_ ?_
     ·refine XR 8 ?_
      refine XL_nil ?_
      subst hf11
      kernel_rfl
     exact ⟨n, Nat.lt_succ_self n, _,  by rfl, h⟩
    ·have h := of_false h hc10
     refine V_exit ?_
     obtain rfl := some_inj h
     show St.keep _ _ _ = _
     rfl
  show V _ _ _ _
  obtain ⟨y12, hy12, h⟩ := of_bind h
  refine V_sreg (mb 103 916) [72, 64, 56, 32, 16] (s1 := ⟨.bot :: .bot :: .pt 16 0 :: .bot :: .pt 32 0 :: .bot :: .bot :: .pt 56 0 :: .pt 64 0 :: .pt 72 0 :: bt 93 [], [(72, .box [Ti f1.1, Ti y4.1.1, Ti y12, Ti 0, Ti 0, Ti 0, Ti 0, Ti 0, Ti 0, Ti 0, Ti 0, Ti 0]), (64, .box [Ti y4.2.1, Ti y4.2.2.1, Ti y4.2.2.2.1, Ti y4.2.2.2.2]), (56, .box [Ti y4.1.1, Ti y4.1.2.1, Ti y4.1.2.2]), (32, .box [Ti 0, Ti 0, Ti 0, Ti 0, Ti 0, Ti 0, Ti 0, Ti 0, Ti 0, Ti 0, Ti 0, Ti 0]), (16, .box [Ti f1.1, Ti f1.2.1, Ti f1.2.2])]⟩) ?_ ?_
  ·refine XR 8 ?_
   refine XC (s_impl_mod hy12) cf_impl_mod rfl rfl rfl ?_
   exact XE
  obtain ⟨y13, hy13, h⟩ := of_bind h
  obtain ⟨z14, hz14, h⟩ := of_bind h
  obtain ⟨f15, hf15, h⟩ := of_sI h
  refine V_sdreg [0, 1, 0, 4, 15, 0, 32, 127, 0, 256, 768, 0, 2048, 7936, 16383, 32767, 65535] 16 (cdm 16 [178923680, 178923681, 178923530, 178923546, 178923605, 178913962, 178914986, 178918741, 41986730, 42052266, 42314410, 2796202, 6990506, 22391466, 89478485, 357913941]) (mb 103 916) [72, 64, 56, 32, 16] (s1 := ⟨.bot :: .bot :: .pt 16 0 :: .bot :: .pt 32 0 :: .bot :: .bot :: .pt 56 0 :: .pt 64 0 :: .pt 72 0 :: bt 93 [], [(72, .box [Ti f1.1, Ti y4.1.1, Ti y12, Ti f15, Ti 0, Ti 0, Ti 0, Ti 0, Ti 0, Ti 0, Ti 0, Ti 0]), (64, .box [Ti y4.2.1, Ti y4.2.2.1, Ti y4.2.2.2.1, Ti y4.2.2.2.2]), (56, .box [Ti y4.1.1, Ti y4.1.2.1, Ti y4.1.2.2]), (32, .box [Ti 0, Ti 0, Ti 0, Ti 0, Ti 0, Ti 0, Ti 0, Ti 0, Ti 0, Ti 0, Ti 0, Ti 0]), (16, .box [Ti f1.1, Ti f1.2.1, Ti f1.2.2])]⟩) (by kernel_rfl) (by kernel_rfl) ?_ ?_
  ·refine DR 6 ?_
   refine DC 6 (s_impl_Form_disc hy13) cf_impl_Form_disc rfl rfl rfl rfl 68 rfl ?_
   refine DR 7 ?_
   refine DE_0 14 (I (w64 (Int.tdiv (w64 ((w64 (y12 * y12)) - y13)) (w64 ((w64 (4 * f1.1)) * y4.1.1))))) (by kernel_rfl) rfl rfl rfl (gsat_none rfl) (by kernel_rfl) (Y0_quo64 (a := w64 ((w64 (y12 * y12)) - y13)) (b := w64 ((w64 (4 * f1.1)) * y4.1.1)) rfl (by kernel_rfl) (by kernel_rfl) (nz_some hz14)) 76 rfl ?_
   refine DA 1 ?_
   refine XR 1 ?_
   refine XL_nil ?_
   subst hf15
   kernel_rfl
  obtain ⟨z16, hz16, h⟩ := of_bind h
  obtain ⟨f17, hf17, h⟩ := of_sI h
  refine V_sreg (mb 103 912) [72, 64, 56, 32] (s1 := ⟨bt 4 (.pt 32 0 :: .bot :: .bot :: .pt 56 0 :: .pt 64 0 :: .pt 72 0 :: bt 93 []), [(72, .box [Ti f1.1, Ti y4.1.1, Ti y12, Ti f15, Ti 1, Ti f17, Ti 0, Ti 1, Ti 0, Ti 0, Ti 0, Ti 0]), (64, .box [Ti y4.2.1, Ti y4.2.2.1, Ti y4.2.2.2.1, Ti y4.2.2.2.2]), (56, .box [Ti y4.1.1, Ti y4.1.2.1, Ti y4.1.2.2]), (32, .box [Ti 0, Ti 0, Ti 0, Ti 0, Ti 0, Ti 0, Ti 0, Ti 0, Ti 0, Ti 0, Ti 0, Ti 0])]⟩) ?_ ?_
  ·refine XR 8 ?_
   refine L0 rfl rfl (Y0_quo64 (a := w64 (y12 - f1.2.1)) (b := w64 (2 * f1.1)) rfl (by kernel_rfl) (by kernel_rfl) (nz_some hz16)) ?_
   refine L0 rfl rfl (Y0_build (cs := [Ti 1, Ti (w64 (Int.tdiv (w64 (y12 - f1.2.1)) (w64 (2 * f1.1)))), Ti 0, Ti 1]) pl42 bt42 rfl rfl (by kernel_rfl)) ?_
   refine XR 2 ?_
   refine XL_nil ?_
   subst hf17
   kernel_rfl
  obtain ⟨z18, hz18, h⟩ := of_bind h
  obtain ⟨y19, hy19, h⟩ := of_bind h
  refine V_sdreg [0, 0, 2, 0, 8, 30, 0, 64, 192, 510, 1022, 2047, 4095, 8191] 13 (cdm 13 [2796200, 172674, 172678, 172074, 172138, 172374, 2730, 6826, 23210, 87382, 349526, 1398101, 5592405]) (mb 103 528) [72, 32] (s1 := ⟨bt 4 (.pt 32 0 :: bt 4 (.pt 72 0 :: bt 93 [])), [(72, .box [Ti f1.1, Ti y4.1.1, Ti y12, Ti f15, Ti 1, Ti f17, Ti 0, Ti 1, Ti y19.1, Ti y19.2.1, Ti y19.2.2.1, Ti y19.2.2.2]), (32, .box [Ti 0, Ti 0, Ti 0, Ti 0, Ti 0, Ti 0, Ti 0, Ti 0, Ti 0, Ti 0, Ti 0, Ti 0])]⟩) (by kernel_rfl) (by kernel_rfl) ?_ ?_
  ·refine DR 9 ?_
   refine DE_0 9 (I (w64 (Int.tdiv (w64 (y12 - y4.1.2.1)) (w64 (2 * y4.1.1))))) (by kernel_rfl) rfl rfl rfl (gsat_none rfl) (by kernel_rfl) (Y0_quo64 (a := w64 (y12 - y4.1.2.1)) (b := w64 (2 * y4.1.1)) rfl (by kernel_rfl) (by kernel_rfl) (nz_some hz18)) 98 rfl ?_
   refine DE_0 10 (.ag [Ti 1, Ti (w64 (Int.tdiv (w64 (y12 - y4.1.2.1)) (w64 (2 * y4.1.1)))), Ti 0, Ti 1]) (by kernel_rfl) rfl rfl rfl (gsat_none rfl) (by kernel_rfl) (Y0_build (cs := [Ti 1, Ti (w64 (Int.tdiv (w64 (y12 - y4.1.2.1)) (w64 (2 * y4.1.1)))), Ti 0, Ti 1]) pl42 bt42 rfl rfl (by kernel_rfl)) 99 rfl ?_
   refine DC 11 (s_impl_Matrix_times hy19) cf_impl_Matrix_times rfl rfl rfl rfl 100 rfl ?_
   refine DA 1 ?_
   exact XE
  refine V_e (mb 103 16) [32] (s1 := ⟨bt 4 (.pt 32 0 :: bt 98 []), [(32, .box [Ti f1.1, Ti y4.1.1, Ti y12, Ti f15, Ti 1, Ti f17, Ti 0, Ti 1, Ti y19.1, Ti y19.2.1, Ti y19.2.2.1, Ti y19.2.2.2])]⟩) ?_
  refine V_ret ?_
  obtain rfl := some_inj h
  show Post _ _ _ _ _
  exact ⟨.inr rfl, rfl, rfl, rfl⟩
theorem cf_impl_Matrix_det : ∀ args w, (callFunc 80 args).run Tryd.prog w = .ok (.enter 80 args) w := run_callFunc Tryd.func80 (by kernel_rfl) (by kernel_rfl)
theorem s_impl_Matrix_det {vm1 : (Int × Int × Int × Int)} {r : Int} (h : r_impl_Matrix_det vm1 = some r) : CallS Tryd.prog 80 [.ag [Ti vm1.1, Ti vm1.2.1, Ti vm1.2.2.1, Ti vm1.2.2.2]] (I r) [] := by
  refine CallS_of_text (rs := [.t 2]) (vs := [.tmp 2]) Tryd.func80 rfl rfl (.cons rfl FitsL.nil) (by decide) 14 rfl ?_
  unfold r_impl_Matrix_det at h
  show V _ _ ⟨.ag [Ti vm1.1, Ti vm1.2.1, Ti vm1.2.2.1, Ti vm1.2.2.2] :: bt 13 [], []⟩ _
  refine V_e (mb 14 2) [8] (s1 := ⟨.bot :: .pt 8 0 :: bt 12 [], [(8, .box [Ti vm1.1, Ti vm1.2.1, Ti vm1.2.2.1, Ti vm1.2.2.2])]⟩) ?_
  obtain ⟨t2, ht2, h⟩ := of_sI h
  refine V_sreg (mb 14 4) [] (s1 := ⟨.bot :: .bot :: I t2 :: bt 11 [], []⟩) ?_ ?_
  ·refine XR 12 ?_
   refine XL_nil ?_
   subst ht2
   kernel_rfl
  refine V_ret ?_
  obtain rfl := some_inj h
  show Post _ _ _ _ _
  exact ⟨.inr rfl, rfl, rfl, rfl⟩
theorem cf_impl_Matrix_inverse : ∀ args w, (callFunc 49 args).run Tryd.prog w = .ok (.enter 49 args) w := run_callFunc Tryd.func49 (by kernel_rfl) (by kernel_rfl)
theorem s_impl_Matrix_inverse {vm1 : (Int × Int × Int × Int)} {r : (Int × Int × Int × Int)} (h : r_impl_Matrix_inverse vm1 = some r) : CallS Tryd.prog 49 [.ag [Ti vm1.1, Ti vm1.2.1, Ti vm1.2.2.1, Ti vm1.2.2.2]] (.ag [Ti r.1, Ti r.2.1, Ti r.2.2.1, Ti r.2.2.2]) [] := by
  refine CallS_of_text (rs := [.w 2 4]) (vs := [.cell 2 42]) Tryd.func49 rfl rfl (.cons ⟨rfl, wd42⟩ FitsL.nil) (by decide) 25 rfl ?_
  unfold r_impl_Matrix_inverse at h
  show V _ _ ⟨.ag [Ti vm1.1, Ti vm1.2.1, Ti vm1.2.2.1, Ti vm1.2.2.2] :: bt 24 [], []⟩ _
  refine V_e (mb 25 6) [16, 8] (s1 := ⟨.bot :: .pt 8 0 :: .pt 16 0 :: bt 22 [], [(16, .box [Ti 0, Ti 0, Ti 0, Ti 0]), (8, .box [Ti vm1.1, Ti vm1.2.1, Ti vm1.2.2.1, Ti vm1.2.2.2])]⟩) ?_
  obtain ⟨y2, hy2, h⟩ := of_bind h
  refine V_sreg (mb 25 14) [16, 8] (s1 := ⟨.bot :: .pt 8 0 :: .pt 16 0 :: I y2 :: bt 21 [], [(16, .box [Ti 0, Ti 0, Ti 0, Ti 0]), (8, .box [Ti vm1.1, Ti vm1.2.1, Ti vm1.2.2.1, Ti vm1.2.2.2])]⟩) ?_ ?_
  ·refine XR 1 ?_
   refine XC (s_impl_Matrix_det hy2) cf_impl_Matrix_det rfl rfl rfl ?_
   exact XE
  obtain ⟨f3, hf3, h⟩ := of_sI h
  obtain ⟨f4, hf4, h⟩ := of_sI h
  obtain ⟨f5, hf5, h⟩ := of_sI h
  obtain ⟨f6, hf6, h⟩ := of_sI h
  refine V_sreg (mb 25 4) [16] (s1 := ⟨.bot :: .bot :: .pt 16 0 :: bt 22 [], [(16, .box [Ti f3, Ti f4, Ti f5, Ti f6])]⟩) ?_ ?_
  ·refine XR 18 ?_
   refine L0 rfl rfl (Y0_build (cs := [Ti (w64 (y2 * vm1.2.2.2)), Ti (w64 ((w64 (0 - y2)) * vm1.2.1)), Ti (w64 ((w64 (0 - y2)) * vm1.2.2.1)), Ti (w64 (y2 * vm1.1))]) pl42 bt42 rfl rfl (by kernel_rfl)) ?_
   refine XR 1 ?_
   refine XL_nil ?_
   subst hf3 hf4 hf5 hf6
   kernel_rfl
  refine V_ret ?_
  obtain rfl := some_inj h
  show Post _ _ _ _ _
  exact ⟨.inr rfl, rfl, rfl, rfl⟩
theorem cf_impl_united_composite : ∀ args w, (callFunc 70 args).run Tryd.prog w = .ok (.enter 70 args) w := run_callFunc Tryd.func70 (by kernel_rfl) (by kernel_rfl)
theorem s_impl_united_composite {u1 : (Int × Int × Int × Int × ((Int × Int × Int × Int)) × ((Int × Int × Int × Int)))} {r : (Int × Int × Int)} (h : r_impl_united_composite u1 = some r) : CallS Tryd.prog 70 [.ag [Ti u1.1, Ti u1.2.1, Ti u1.2.2.1, Ti u1.2.2.2.1, Ti u1.2.2.2.2.1.1, Ti u1.2.2.2.2.1.2.1, Ti u1.2.2.2.2.1.2.2.1, Ti u1.2.2.2.2.1.2.2.2, Ti u1.2.2.2.2.2.1, Ti u1.2.2.2.2.2.2.1, Ti u1.2.2.2.2.2.2.2.1, Ti u1.2.2.2.2.2.2.2.2]] (.ag [Ti r.1, Ti r.2.1, Ti r.2.2]) [] := by
  refine CallS_of_text (rs := [.w 2 3]) (vs := [.cell 2 27]) Tryd.func70 rfl rfl (.cons ⟨rfl, wd27⟩ FitsL.nil) (by decide) 13 rfl ?_
  unfold r_impl_united_composite at h
  show V _ _ ⟨.ag [Ti u1.1, Ti u1.2.1, Ti u1.2.2.1, Ti u1.2.2.2.1, Ti u1.2.2.2.2.1.1, Ti u1.2.2.2.2.1.2.1, Ti u1.2.2.2.2.1.2.2.1, Ti u1.2.2.2.2.1.2.2.2, Ti u1.2.2.2.2.2.1, Ti u1.2.2.2.2.2.2.1, Ti u1.2.2.2.2.2.2.2.1, Ti u1.2.2.2.2.2.2.2.2] :: bt 12 [], []⟩ _
  refine V_e (mb 13 6) [16, 8] (s1 := ⟨.bot :: .pt 8 0 :: .pt 16 0 :: bt 10 [], [(16, .box [Ti 0, Ti 0, Ti 0]), (8, .box [Ti u1.1, Ti u1.2.1, Ti u1.2.2.1, Ti u1.2.2.2.1, Ti u1.2.2.2.2.1.1, Ti u1.2.2.2.2.1.2.1, Ti u1.2.2.2.2.1.2.2.1, Ti u1.2.2.2.2.1.2.2.2, Ti u1.2.2.2.2.2.1, Ti u1.2.2.2.2.2.2.1, Ti u1.2.2.2.2.2.2.2.1, Ti u1.2.2.2.2.2.2.2.2])]⟩) ?_
  obtain ⟨f2, hf2, h⟩ := of_sI h
  refine V_sreg (mb 13 4) [16] (s1 := ⟨.bot :: .bot :: .pt 16 0 :: bt 10 [], [(16, .box [Ti f2, Ti u1.2.2.1, Ti u1.2.2.2.1])]⟩) ?_ ?_
  ·refine XR 9 ?_
   refine L0 rfl rfl (Y0_build (cs := [Ti (w64 (u1.1 * u1.2.1)), Ti u1.2.2.1, Ti u1.2.2.2.1]) pl27 bt27 rfl rfl (by kernel_rfl)) ?_
   refine XR 1 ?_
   refine XL_nil ?_
   subst hf2
   kernel_rfl
  refine V_ret ?_
  obtain rfl := some_inj h
  show Post _ _ _ _ _
  exact ⟨.inr rfl, rfl, rfl, rfl⟩
theorem cf_impl_outer : ∀ args w, (callFunc 71 args).run Tryd.prog w = .ok (.enter 71 args) w := run_callFunc Tryd.func71 (by kernel_rfl) (by kernel_rfl)
theorem s_impl_outer {x1 : Int} {y2 : Int} {u3 : Int} {v4 : Int} {r : (Int × Int × Int × Int)} (h : r_impl_outer x1 y2 u3 v4 = some r) : CallS Tryd.prog 71 [I x1, I y2, I u3, I v4] (.ag [Ti r.1, Ti r.2.1, Ti r.2.2.1, Ti r.2.2.2]) [] := by
  refine CallS_of_text (rs := [.w 8 4]) (vs := [.cell 8 83]) Tryd.func71 rfl rfl (.cons ⟨rfl, wd83⟩ FitsL.nil) (by decide) 22 rfl ?_
  unfold r_impl_outer at h
  show V _ _ ⟨I x1 :: I y2 :: I u3 :: I v4 :: bt 18 [], []⟩ _
  refine V_e (mb 22 271) [64] (s1 := ⟨I x1 :: I y2 :: I u3 :: I v4 :: bt 4 (.pt 64 0 :: bt 13 []), [(64, .box [Ti 0, Ti 0, Ti 0, Ti 0])]⟩) ?_
  obtain ⟨f5, hf5, h⟩ := of_sI h
  obtain ⟨f6, hf6, h⟩ := of_sI h
  obtain ⟨f7, hf7, h⟩ := of_sI h
  obtain ⟨f8, hf8, h⟩ := of_sI h
  refine V_sreg (mb 22 256) [64] (s1 := ⟨bt 8 (.pt 64 0 :: bt 13 []), [(64, .box [Ti f5, Ti f6, Ti f7, Ti f8])]⟩) ?_ ?_
  ·refine XR 12 ?_
   refine L0 rfl rfl (Y0_build (cs := [Ti (w64 (x1 * u3)), Ti (w64 (x1 * v4)), Ti (w64 (y2 * u3)), Ti (w64 (y2 * v4))]) pl83 bt83 rfl rfl (by kernel_rfl)) ?_
   refine XR 1 ?_
   refine XL_nil ?_
   subst hf5 hf6 hf7 hf8
   kernel_rfl
  refine V_ret ?_
  obtain rfl := some_inj h
  show Post _ _ _ _ _
  exact ⟨.inr rfl, rfl, rfl, rfl⟩
theorem cf_impl_bilinear_plus : ∀ args w, (callFunc 72 args).run Tryd.prog w = .ok (.enter 72 args) w := run_callFunc Tryd.func72 (by kernel_rfl) (by kernel_rfl)
theorem s_impl_bilinear_plus {b1 : (Int × Int × Int × Int)} {k2 : Int} {c3 : (Int × Int × Int × Int)} {r : (Int × Int × Int × Int)} (h : r_impl_bilinear_plus b1 k2 c3 = some r) : CallS Tryd.prog 72 [.ag [Ti b1.1, Ti b1.2.1, Ti b1.2.2.1, Ti b1.2.2.2], I k2, .ag [Ti c3.1, Ti c3.2.1, Ti c3.2.2.1, Ti c3.2.2.2]] (.ag [Ti r.1, Ti r.2.1, Ti r.2.2.1, Ti r.2.2.2]) [] := by
  refine CallS_of_text (rs := [.w 6 4]) (vs := [.cell 6 83]) Tryd.func72 rfl rfl (.cons ⟨rfl, wd83⟩ FitsL.nil) (by decide) 23 rfl ?_
  unfold r_impl_bilinear_plus at h
  show V _ _ ⟨.ag [Ti b1.1, Ti b1.2.1, Ti b1.2.2.1, Ti b1.2.2.2] :: I k2 :: .ag [Ti c3.1, Ti c3.2.1, Ti c3.2.2.1, Ti c3.2.2.2] :: bt 20 [], []⟩ _
  refine V_e (mb 23 106) [48, 40, 24] (s1 := ⟨.bot :: I k2 :: .bot :: .pt 24 0 :: .bot :: .pt 40 0 :: .pt 48 0 :: bt 16 [], [(48, .box [Ti 0, Ti 0, Ti 0, Ti 0]), (40, .box [Ti c3.1, Ti c3.2.1, Ti c3.2.2.1, Ti c3.2.2.2]), (24, .box [Ti b1.1, Ti b1.2.1, Ti b1.2.2.1, Ti b1.2.2.2])]⟩) ?_
  refine V_seq ?_
  refine V_e (mb 23 362) [48, 40, 24] (s1 := ⟨.bot :: I k2 :: .bot :: .pt 24 0 :: .bot :: .pt 40 0 :: .pt 48 0 :: .bot :: I 0 :: bt 14 [], [(48, .box [Ti 0, Ti 0, Ti 0, Ti 0]), (40, .box [Ti c3.1, Ti c3.2.1, Ti c3.2.2.1, Ti c3.2.2.2]), (24, .box [Ti b1.1, Ti b1.2.1, Ti b1.2.2.1, Ti b1.2.2.2])]⟩) ?_
  refine V_block (V_unroll 40 ?_)
  refine VR_s (n := 39) ?_
  refine V_keep (mb 23 362) [48, 40, 24] (s' := ⟨.bot :: I k2 :: .bot :: .pt 24 0 :: .bot :: .pt 40 0 :: .pt 48 0 :: .bot :: I 0 :: bt 14 [], [(48, .box [Ti 0, Ti 0, Ti 0, Ti 0]), (40, .box [Ti c3.1, Ti c3.2.1, Ti c3.2.2.1, Ti c3.2.2.2]), (24, .box [Ti b1.1, Ti b1.2.1, Ti b1.2.2.1, Ti b1.2.2.2])]⟩) (by kernel_rfl) ?_
  refine V_e (mb 23 874) [48, 40, 24] (s1 := ⟨.bot :: I k2 :: .bot :: .pt 24 0 :: .bot :: .pt 40 0 :: .pt 48 0 :: .bot :: I 0 :: Bo true :: bt 13 [], [(48, .box [Ti 0, Ti 0, Ti 0, Ti 0]), (40, .box [Ti c3.1, Ti c3.2.1, Ti c3.2.2.1, Ti c3.2.2.2]), (24, .box [Ti b1.1, Ti b1.2.1, Ti b1.2.2.1, Ti b1.2.2.2])]⟩) ?_
  refine V_seq ?_
  refine V_cond_true rfl ?_
  refine V_skip ?_
  show V _ _ _ _
  refine V_seq ?_
  refine V_block ?_
  refine V_e (mb 23 490) [48, 40, 24] (s1 := ⟨.bot :: I k2 :: .bot :: .pt 24 0 :: .bot :: .pt 40 0 :: .pt 48 0 :: I 0 :: I 0 :: bt 14 [], [(48, .box [Ti 0, Ti 0, Ti 0, Ti 0]), (40, .box [Ti c3.1, Ti c3.2.1, Ti c3.2.2.1, Ti c3.2.2.2]), (24, .box [Ti b1.1, Ti b1.2.1, Ti b1.2.2.1, Ti b1.2.2.2])]⟩) ?_
  obtain ⟨f5, hf5, h⟩ := of_sI h
  refine V_dreg [0, 1, 3, 0, 0, 16, 48, 120, 255, 511, 1023] 10 (cdm 10 [43648, 43649, 43653, 10794, 170, 426, 1450, 5482, 21845, 87381]) (mb 23 362) [48, 40, 24] (s1 := ⟨.bot :: I k2 :: .bot :: .pt 24 0 :: .bot :: .pt 40 0 :: .pt 48 0 :: .bot :: I 0 :: bt 14 [], [(48, .box [Ti 0, Ti 0, Ti 0, Ti 0]), (40, .box [Ti c3.1, Ti c3.2.1, Ti c3.2.2.1, Ti c3.2.2.2]), (24, .box [Ti f5, Ti b1.2.1, Ti b1.2.2.1, Ti b1.2.2.2])]⟩) (by kernel_rfl) (by kernel_rfl) ?_ ?_
  ·refine DA 10 ?_
   refine XR 1 ?_
   refine XL_nil ?_
   subst hf5
   kernel_rfl
  show V _ _ _ _
  refine V_reg (mb 23 362) [48, 40, 24] (s1 := ⟨.bot :: I k2 :: .bot :: .pt 24 0 :: .bot :: .pt 40 0 :: .pt 48 0 :: .bot :: I 1 :: bt 14 [], [(48, .box [Ti 0, Ti 0, Ti 0, Ti 0]), (40, .box [Ti c3.1, Ti c3.2.1, Ti c3.2.2.1, Ti c3.2.2.2]), (24, .box [Ti f5, Ti b1.2.1, Ti b1.2.2.1, Ti b1.2.2.2])]⟩) ?_ ?_
  ·exact XE
  show VR _ _ _ _ _
  refine VR_s (n := 38) ?_
  refine V_keep (mb 23 362) [48, 40, 24] (s' := ⟨.bot :: I k2 :: .bot :: .pt 24 0 :: .bot :: .pt 40 0 :: .pt 48 0 :: .bot :: I 1 :: bt 14 [], [(48, .box [Ti 0, Ti 0, Ti 0, Ti 0]), (40, .box [Ti c3.1, Ti c3.2.1, Ti c3.2.2.1, Ti c3.2.2.2]), (24, .box [Ti f5, Ti b1.2.1, Ti b1.2.2.1, Ti b1.2.2.2])]⟩) (by kernel_rfl) ?_
  refine V_e (mb 23 874) [48, 40, 24] (s1 := ⟨.bot :: I k2 :: .bot :: .pt 24 0 :: .bot :: .pt 40 0 :: .pt 48 0 :: .bot :: I 1 :: Bo true :: bt 13 [], [(48, .box [Ti 0, Ti 0, Ti 0, Ti 0]), (40, .box [Ti c3.1, Ti c3.2.1, Ti c3.2.2.1, Ti c3.2.2.2]), (24, .box [Ti f5, Ti b1.2.1, Ti b1.2.2.1, Ti b1.2.2.2])]⟩) ?_
  refine V_seq ?_
  refine V_cond_true rfl ?_
  refine V_skip ?_
  show V _ _ _ _
  refine V_seq ?_
  refine V_block ?_
  refine V_e (mb 23 490) [48, 40, 24] (s1 := ⟨.bot :: I k2 :: .bot :: .pt 24 0 :: .bot :: .pt 40 0 :: .pt 48 0 :: I 1 :: I 1 :: bt 14 [], [(48, .box [Ti 0, Ti 0, Ti 0, Ti 0]), (40, .box [Ti c3.1, Ti c3.2.1, Ti c3.2.2.1, Ti c3.2.2.2]), (24, .box [Ti f5, Ti b1.2.1, Ti b1.2.2.1, Ti b1.2.2.2])]⟩) ?_
  obtain ⟨f7, hf7, h⟩ := of_sI h
  refine V_dreg [0, 1, 3, 0, 0, 16, 48, 120, 255, 511, 1023] 10 (cdm 10 [43648, 43649, 43653, 10794, 170, 426, 1450, 5482, 21845, 87381]) (mb 23 362) [48, 40, 24] (s1 := ⟨.bot :: I k2 :: .bot :: .pt 24 0 :: .bot :: .pt 40 0 :: .pt 48 0 :: .bot :: I 1 :: bt 14 [], [(48, .box [Ti 0, Ti 0, Ti 0, Ti 0]), (40, .box [Ti c3.1, Ti c3.2.1, Ti c3.2.2.1, Ti c3.2.2.2]), (24, .box [Ti f5, Ti f7, Ti b1.2.2.1, Ti b1.2.2.2])]⟩) (by kernel_rfl) (by kernel_rfl) ?_ ?_
  ·refine DA 10 ?_
   refine XR 1 ?_
   refine XL_nil ?_
   subst hf7
   kernel_rfl
  show V _ _ _ _
  refine V_reg (mb 23 362) [48, 40, 24] (s1 := ⟨.bot :: I k2 :: .bot :: .pt 24 0 :: .bot :: .pt 40 0 :: .pt 48 0 :: .bot :: I 2 :: bt 14 [], [(48, .box [Ti 0, Ti 0, Ti 0, Ti 0]), (40, .box [Ti c3.1, Ti c3.2.1, Ti c3.2.2.1, Ti c3.2.2.2]), (24, .box [Ti f5, Ti f7, Ti b1.2.2.1, Ti b1.2.2.2])]⟩) ?_ ?_
  ·exact XE
  show VR _ _ _ _ _
  refine VR_s (n := 37) ?_
  refine V_keep (mb 23 362) [48, 40, 24] (s' := ⟨.bot :: I k2 :: .bot :: .pt 24 0 :: .bot :: .pt 40 0 :: .pt 48 0 :: .bot :: I 2 :: bt 14 [], [(48, .box [Ti 0, Ti 0, Ti 0, Ti 0]), (40, .box [Ti c3.1, Ti c3.2.1, Ti c3.2.2.1, Ti c3.2.2.2]), (24, .box [Ti f5, Ti f7, Ti b1.2.2.1, Ti b1.2.2.2])]⟩) (by kernel_rfl) ?_
  refine V_e (mb 23 874) [48, 40, 24] (s1 := ⟨.bot :: I k2 :: .bot :: .pt 24 0 :: .bot :: .pt 40 0 :: .pt 48 0 :: .bot :: I 2 :: Bo true :: bt 13 [], [(48, .box [Ti 0, Ti 0, Ti 0, Ti 0]), (40, .box [Ti c3.1, Ti c3.2.1, Ti c3.2.2.1, Ti c3.2.2.2]), (24, .box [Ti f5, Ti f7, Ti b1.2.2.1, Ti b1.2.2.2])]⟩) ?_
  refine V_seq ?_
  refine V_cond_true rfl ?_
  refine V_skip ?_
  show V _ _ _ _
  refine V_seq ?_
  refine V_block ?_
  refine V_e (mb 23 490) [48, 40, 24] (s1 := ⟨.bot :: I k2 :: .bot :: .pt 24 0 :: .bot :: .pt 40 0 :: .pt 48 0 :: I 2 :: I 2 :: bt 14 [], [(48, .box [Ti 0, Ti 0, Ti 0, Ti 0]), (40, .box [Ti c3.1, Ti c3.2.1, Ti c3.2.2.1, Ti c3.2.2.2]), (24, .box [Ti f5, Ti f7, Ti b1.2.2.1, Ti b1.2.2.2])]⟩) ?_
  obtain ⟨f9, hf9, h⟩ := of_sI h
  refine V_dreg [0, 1, 3, 0, 0, 16, 48, 120, 255, 511, 1023] 10 (cdm 10 [43648, 43649, 43653, 10794, 170, 426, 1450, 5482, 21845, 87381]) (mb 23 362) [48, 40, 24] (s1 := ⟨.bot :: I k2 :: .bot :: .pt 24 0 :: .bot :: .pt 40 0 :: .pt 48 0 :: .bot :: I 2 :: bt 14 [], [(48, .box [Ti 0, Ti 0, Ti 0, Ti 0]), (40, .box [Ti c3.1, Ti c3.2.1, Ti c3.2.2.1, Ti c3.2.2.2]), (24, .box [Ti f5, Ti f7, Ti f9, Ti b1.2.2.2])]⟩) (by kernel_rfl) (by kernel_rfl) ?_ ?_
  ·refine DA 10 ?_
   refine XR 1 ?_
   refine XL_nil ?_
   subst hf9
   kernel_rfl
  show V _ _ _ _
  refine V_reg (mb 23 362) [48, 40, 24] (s1 := ⟨.bot :: I k2 :: .bot :: .pt 24 0 :: .bot :: .pt 40 0 :: .pt 48 0 :: .bot :: I 3 :: bt 14 [], [(48, .box [Ti 0, Ti 0, Ti 0, Ti 0]), (40, .box [Ti c3.1, Ti c3.2.1, Ti c3.2.2.1, Ti c3.2.2.2]), (24, .box [Ti f5, Ti f7, Ti f9, Ti b1.2.2.2])]⟩) ?_ ?_
  ·exact XE
  show VR _ _ _ _ _
  refine VR_s (n := 36) ?_
  refine V_keep (mb 23 362) [48, 40, 24] (s' := ⟨.bot :: I k2 :: .bot :: .pt 24 0 :: .bot :: .pt 40 0 :: .pt 48 0 :: .bot :: I 3 :: bt 14 [], [(48, .box [Ti 0, Ti 0, Ti 0, Ti 0]), (40, .box [Ti c3.1, Ti c3.2.1, Ti c3.2.2.1, Ti c3.2.2.2]), (24, .box [Ti f5, Ti f7, Ti f9, Ti b1.2.2.2])]⟩) (by kernel_rfl) ?_
  refine V_e (mb 23 874) [48, 40, 24] (s1 := ⟨.bot :: I k2 :: .bot :: .pt 24 0 :: .bot :: .pt 40 0 :: .pt 48 0 :: .bot :: I 3 :: Bo true :: bt 13 [], [(48, .box [Ti 0, Ti 0, Ti 0, Ti 0]), (40, .box [Ti c3.1, Ti c3.2.1, Ti c3.2.2.1, Ti c3.2.2.2]), (24, .box [Ti f5, Ti f7, Ti f9, Ti b1.2.2.2])]⟩) ?_
  refine V_seq ?_
  refine V_cond_true rfl ?_
  refine V_skip ?_
  show V _ _ _ _
  refine V_seq ?_
  refine V_block ?_
  refine V_e (mb 23 490) [48, 40, 24] (s1 := ⟨.bot :: I k2 :: .bot :: .pt 24 0 :: .bot :: .pt 40 0 :: .pt 48 0 :: I 3 :: I 3 :: bt 14 [], [(48, .box [Ti 0, Ti 0, Ti 0, Ti 0]), (40, .box [Ti c3.1, Ti c3.2.1, Ti c3.2.2.1, Ti c3.2.2.2]), (24, .box [Ti f5, Ti f7, Ti f9, Ti b1.2.2.2])]⟩) ?_
  obtain ⟨f11, hf11, h⟩ := of_sI h
  refine V_dreg [0, 1, 3, 0, 0, 16, 48, 120, 255, 511, 1023] 10 (cdm 10 [43648, 43649, 43653, 10794, 170, 426, 1450, 5482, 21845, 87381]) (mb 23 362) [48, 40, 24] (s1 := ⟨.bot :: I k2 :: .bot :: .pt 24 0 :: .bot :: .pt 40 0 :: .pt 48 0 :: .bot :: I 3 :: bt 14 [], [(48, .box [Ti 0, Ti 0, Ti 0, Ti 0]), (40, .box [Ti c3.1, Ti c3.2.1, Ti c3.2.2.1, Ti c3.2.2.2]), (24, .box [Ti f5, Ti f7, Ti f9, Ti f11])]⟩) (by kernel_rfl) (by kernel_rfl) ?_ ?_
  ·refine DA 10 ?_
   refine XR 1 ?_
   refine XL_nil ?_
   subst hf11
   kernel_rfl
  show V _ _ _ _
  refine V_reg (mb 23 362) [48, 40, 24] (s1 := ⟨.bot :: I k2 :: .bot :: .pt 24 0 :: .bot :: .pt 40 0 :: .pt 48 0 :: .bot :: I 4 :: bt 14 [], [(48, .box [Ti 0, Ti 0, Ti 0, Ti 0]), (40, .box [Ti c3.1, Ti c3.2.1, Ti c3.2.2.1, Ti c3.2.2.2]), (24, .box [Ti f5, Ti f7, Ti f9, Ti f11])]⟩) ?_ ?_
  ·exact XE
  show VR _ _ _ _ _
  refine VR_s (n := 35) ?_
  refine V_keep (mb 23 362) [48, 40, 24] (s' := ⟨.bot :: I k2 :: .bot :: .pt 24 0 :: .bot :: .pt 40 0 :: .pt 48 0 :: .bot :: I 4 :: bt 14 [], [(48, .box [Ti 0, Ti 0, Ti 0, Ti 0]), (40, .box [Ti c3.1, Ti c3.2.1, Ti c3.2.2.1, Ti c3.2.2.2]), (24, .box [Ti f5, Ti f7, Ti f9, Ti f11])]⟩) (by kernel_rfl) ?_
  refine V_e (mb 23 874) [48, 40, 24] (s1 := ⟨.bot :: I k2 :: .bot :: .pt 24 0 :: .bot :: .pt 40 0 :: .pt 48 0 :: .bot :: I 4 :: Bo false :: bt 13 [], [(48, .box [Ti 0, Ti 0, Ti 0, Ti 0]), (40, .box [Ti c3.1, Ti c3.2.1, Ti c3.2.2.1, Ti c3.2.2.2]), (24, .box [Ti f5, Ti f7, Ti f9, Ti f11])]⟩) ?_
  refine V_seq ?_
  refine V_cond_false rfl ?_
  refine V_exit ?_
  show V _ _ _ _
  refine V_e (mb 23 64) [48] (s1 := ⟨bt 6 (.pt 48 0 :: bt 16 []), [(48, .box [Ti f5, Ti f7, Ti f9, Ti f11])]⟩) ?_
  refine V_ret ?_
  obtain rfl := some_inj h
  show Post _ _ _ _ _
  exact ⟨.inr rfl, rfl, rfl, rfl⟩
end Go.Proofs.YtnifkkihamgmaaaDoor
