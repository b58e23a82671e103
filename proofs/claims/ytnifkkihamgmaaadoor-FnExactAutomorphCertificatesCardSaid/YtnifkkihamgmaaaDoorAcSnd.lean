/-
  The functions of the program compute what the plain functions say: more of them.
  Conditions: none.
-/
import Derived.Test.YtnifkkihamgmaaaDoorAcSnd1
namespace Go.Proofs.YtnifkkihamgmaaaDoor
open Go.RowKit
set_option linter.unusedVariables false
set_option linter.unusedSimpArgs false
set_option maxRecDepth 100000
set_option maxHeartbeats 400000
theorem cf_impl_AutomorphCertificates : ∀ args w, (callFunc 9 args).run Tryd.prog w = .ok (.enter 9 args) w := run_callFunc Tryd.func9 (by kernel_rfl) (by kernel_rfl)
theorem s_impl_AutomorphCertificates {f1 : (Int × Int × Int)} {r : ((List ByteArray) × Bool)} (h : r_impl_AutomorphCertificates f1 = some r) : CallS Tryd.prog 9 [.ag [Ti f1.1, Ti f1.2.1, Ti f1.2.2]] (.tc (.ow 0) (.tc (Bo r.2) .tn)) [(0, .arr 9 1 (r.1.map c9))] := by
  refine CallS_of_text (rs := [.t 2, .t 3]) (vs := [.tmp 2, .tmp 3]) Tryd.func9 rfl rfl (.cons rfl (.cons rfl FitsL.nil)) (by decide) 33 rfl ?_
  unfold r_impl_AutomorphCertificates at h
  show V _ _ ⟨.ag [Ti f1.1, Ti f1.2.1, Ti f1.2.2] :: bt 32 [], []⟩ _
  refine V_sreg (mb 33 2) [8] (s1 := ⟨.bot :: .pt 8 0 :: bt 31 [], [(8, .box [Ti f1.1, Ti f1.2.1, Ti f1.2.2])]⟩) ?_ ?_
  ·refine XR 1 ?_
   refine L1 rfl rfl (Y1_nil (e := 9) 1 (by decide) (.inl rfl)) ?_
   exact XE
  obtain ⟨y2, hy2, h⟩ := of_bind h
  refine V_sreg (mb 33 50) [88, 8] (s1 := ⟨.bot :: .pt 8 0 :: .bot :: .bot :: .ow 88 :: Bo y2.2 :: bt 27 [], [(88, .arr 42 4 (y2.1.map c42)), (8, .box [Ti f1.1, Ti f1.2.1, Ti f1.2.2])]⟩) ?_ ?_
  ·refine XR 1 ?_
   refine XC (s_impl_Automorphs hy2) cf_impl_Automorphs rfl rfl rfl ?_
   exact XE
  refine V_sreg (mb 33 114) [112, 88, 8] (s1 := ⟨.bot :: .pt 8 0 :: .bot :: .bot :: .ow 88 :: Bo y2.2 :: .ow 112 :: bt 26 [], [(112, .arr 9 1 ((([] : List ByteArray)).map c9)), (88, .arr 42 4 (y2.1.map c42)), (8, .box [Ti f1.1, Ti f1.2.1, Ti f1.2.2])]⟩) ?_ ?_
  ·refine L1 rfl rfl (Y1_bslice0 Tryd.underlying24 sz9 (by decide) rfl rfl) ?_
   exact XE
  refine V_seq ?_
  refine V_sreg (mb 33 229474) [112, 88, 8] (s1 := ⟨.bot :: .pt 8 0 :: bt 3 (Bo y2.2 :: .ow 112 :: bt 8 (.ow 88 :: I ((y2.1.length : Int)) :: I 0 :: bt 15 [])), [(112, .arr 9 1 ((([] : List ByteArray)).map c9)), (88, .arr 42 4 (y2.1.map c42)), (8, .box [Ti f1.1, Ti f1.2.1, Ti f1.2.2])]⟩) ?_ ?_
  ·refine XR 1 ?_
   refine L0 rfl rfl (Y0_lenM (c := c42) (xs := y2.1) Tryd.underlying39 rfl (by kernel_rfl)) ?_
   exact XE
  obtain ⟨o6, hLo6, h⟩ := of_bind h
  refine V_toK (mb 33 96) [112] (s1 := ⟨bt 5 (Bo y2.2 :: .ow 112 :: bt 26 []), [(112, .arr 9 1 (o6.map c9))]⟩) ?_ ?_
  ·clear h
   refine V_block (V_loop (fun n s => ∃ (t3 : Int) (l4 : List ByteArray), s.keep (mb 33 229474) [112, 88, 8] = (⟨.bot :: .pt 8 0 :: bt 3 (Bo y2.2 :: .ow 112 :: bt 8 (.ow 88 :: I ((y2.1.length : Int)) :: I t3 :: bt 15 [])), [(112, .arr 9 1 (l4.map c9)), (88, .arr 42 4 (y2.1.map c42)), (8, .box [Ti f1.1, Ti f1.2.1, Ti f1.2.2])]⟩ : St) ∧ r_impl_AutomorphCertificates_L5 f1 y2 n t3 l4 = some o6) FU ⟨_, _,  by rfl, hLo6⟩ ?_)
   clear hLo6
   rintro n s ⟨t3, l4, hs, h⟩
   refine V_keep _ _ hs ?_
   clear hs
   cases n with
   | zero => cases h
   | succ n =>
    rw [r_impl_AutomorphCertificates_L5] at h
    refine V_e (mb 33 491618) [112, 88, 8] (s1 := ⟨.bot :: .pt 8 0 :: bt 3 (Bo y2.2 :: .ow 112 :: bt 8 (.ow 88 :: I ((y2.1.length : Int)) :: I t3 :: Bo (ltI t3 ((y2.1.length : Int))) :: bt 14 [])), [(112, .arr 9 1 (l4.map c9)), (88, .arr 42 4 (y2.1.map c42)), (8, .box [Ti f1.1, Ti f1.2.1, Ti f1.2.2])]⟩) ?_
    refine V_seq ?_
    refine V_cond rfl (fun hc7 => ?_) (fun hc7 => ?_)
    ·have h := of_true h hc7
     refine V_skip ?_
     show V _ _ _ _
     refine V_seq ?_
     refine V_block ?_
     obtain ⟨e8, he8, h⟩ := of_bind h
     obtain ⟨e9, he9, h⟩ := of_bind h
     refine V_sreg (mb 33 229730) [64, 112, 88, 8] (s1 := ⟨.bot :: .pt 8 0 :: bt 3 (Bo y2.2 :: .ow 112 :: .bot :: .pt 64 0 :: bt 6 (.ow 88 :: I ((y2.1.length : Int)) :: I t3 :: bt 15 [])), [(64, .box [Ti e9.1, Ti e9.2.1, Ti e9.2.2.1, Ti e9.2.2.2]), (112, .arr 9 1 (l4.map c9)), (88, .arr 42 4 (y2.1.map c42)), (8, .box [Ti f1.1, Ti f1.2.1, Ti f1.2.2])]⟩) ?_ ?_
     ·refine L0 rfl rfl (Y0_idxoM (c := c42) (xs := y2.1) (v := e8) (id := 88) (T := 42) (sz := 4) (n := t3) Tryd.underlying39 sz42 rfl (by kernel_rfl) (by kernel_rfl) (by kernel_rfl) he8) ?_
      refine L0 rfl rfl (E_loadon (c := c42) (xs := y2.1) (v := e9) (id := 88) (sz := 4) (T := 42) (off := 0) (n := t3) [Ti e9.1, Ti e9.2.1, Ti e9.2.2.1, Ti e9.2.2.2] wd42 rfl (by kernel_rfl) (by kernel_rfl) he9 (Nat.le_of_ble_eq_true rfl) (by kernel_rfl)) ?_
      exact XE
     obtain ⟨y10, hy10, h⟩ := of_bind h
     obtain ⟨y11, hy11, h⟩ := of_bind h
     obtain ⟨y12, hy12, h⟩ := of_bind h
     obtain ⟨u13, hu13, h⟩ := of_bind h
     refine V_dreg [0, 0, 2, 0, 14, 30, 62, 126, 255, 511] 8 (cdm 8 [43688, 130, 134, 42, 86, 342, 1366, 5462]) (mb 33 229474) [112, 88, 8] (s1 := ⟨.bot :: .pt 8 0 :: bt 3 (Bo y2.2 :: .ow 112 :: bt 8 (.ow 88 :: I ((y2.1.length : Int)) :: I t3 :: bt 15 [])), [(112, .arr 9 1 ((l4 ++ ([y12])).map c9)), (88, .arr 42 4 (y2.1.map c42)), (8, .box [Ti f1.1, Ti f1.2.1, Ti f1.2.2])]⟩) (by kernel_rfl) (by kernel_rfl) ?_ ?_
     ·refine DR 2 ?_
      refine DC 2 (s_impl_formText hy10) cf_impl_formText rfl rfl rfl rfl 23 rfl ?_
      refine DR 1 ?_
      refine DC 4 (s_impl_matrixText hy11) cf_impl_matrixText rfl rfl rfl rfl 25 rfl ?_
      refine DE_1 5 (by kernel_rfl) rfl rfl rfl (gsat_none rfl) (Y1_bslice (z := zv9) (els := [y10, y11].map c9) Tryd.underlying24 iz9 rfl (by decide) rfl (by kernel_rfl) rfl (by simp [c9]) (by decide) (by decide)) rfl rfl rfl 26 rfl ?_
      refine DE_1 6 (by kernel_rfl) rfl rfl rfl (gsat_none rfl) (Y1_callS (s_impl_certificate hy12) cf_impl_certificate rfl (by kernel_rfl) rfl rfl) rfl rfl rfl 27 rfl ?_
      refine DE_1 7 (by kernel_rfl) rfl rfl rfl (gsat_none rfl) (Y1_bslice (z := zv9) (els := [y12].map c9) Tryd.underlying24 iz9 rfl (by decide) rfl (by kernel_rfl) rfl (by simp [c9]) (by decide) (by decide)) rfl rfl rfl 28 rfl ?_
      refine DA 0 ?_
      refine XL_cons rfl (X_appendM (c := c9) (xs := l4) (ys := [y12]) (id := 112) (z := zv9) rfl rfl Tryd.underlying24 izb9 rfl (by kernel_rfl) (by kernel_rfl) (by kernel_rfl) (fun _ => rfl) (by simp) (room_some hu13) (by decide)) ?_
      exact XE
     show V _ _ _ _
     obtain ⟨t14, ht14, h⟩ := of_sI h
     refine V_reg (mb 33 229474) [112, 88, 8] (s1 := ⟨.bot :: .pt 8 0 :: bt 3 (Bo y2.2 :: .ow 112 :: bt 8 (.ow 88 :: I ((y2.1.length : Int)) :: I t14 :: bt 15 [])), [(112, .arr 9 1 ((l4 ++ ([y12])).map c9)), (88, .arr 42 4 (y2.1.map c42)), (8, .box [Ti f1.1, Ti f1.2.1, Ti f1.2.2])]⟩) ?_ ?_
     ·refine XR 2 ?_
      refine XL_nil ?_
      subst ht14
      kernel_rfl
     exact ⟨n, Nat.lt_succ_self n, _, _,  by rfl, h⟩
    ·have h := of_false h hc7
     refine V_exit ?_
     obtain rfl := some_inj h
     show St.keep _ _ _ = _
     rfl
  show V _ _ _ _
  refine V_e (mb 33 12) [112] (s1 := ⟨.bot :: .bot :: .ow 112 :: Bo y2.2 :: bt 29 [], [(112, .arr 9 1 (o6.map c9))]⟩) ?_
  refine V_ret ?_
  obtain rfl := some_inj h
  show Post _ _ _ _ _
  exact ⟨.inr rfl, rfl, rfl, rfl⟩
theorem cf_laws_eqStringS : ∀ args w, (callFunc 10 args).run Tryd.prog w = .ok (.enter 10 args) w := run_callFunc Tryd.func10 (by kernel_rfl) (by kernel_rfl)
theorem s_laws_eqStringS {a1 : List ByteArray} {b2 : List ByteArray} {r : Bool} (h : r_laws_eqStringS a1 b2 = some r) : CallS Tryd.prog 10 [.c (.sl (a1.map c9)), .c (.sl (b2.map c9))] (Bo r) [] := by
  refine CallS_of_text (rs := [.t 4]) (vs := [.tmp 4]) Tryd.func10 rfl rfl (.cons rfl FitsL.nil) (by decide) 26 rfl ?_
  unfold r_laws_eqStringS at h
  show V _ _ ⟨.c (.sl (a1.map c9)) :: .c (.sl (b2.map c9)) :: bt 24 [], []⟩ _
  refine V_e (mb 26 3) [] (s1 := ⟨.c (.sl (a1.map c9)) :: .c (.sl (b2.map c9)) :: bt 24 [], []⟩) ?_
  refine V_seq ?_
  refine V_sreg (mb 26 1027) [] (s1 := ⟨.c (.sl (a1.map c9)) :: .c (.sl (b2.map c9)) :: bt 8 (Bo (!eqI ((a1.length : Int)) ((b2.length : Int))) :: bt 15 []), []⟩) ?_ ?_
  ·refine XR 1 ?_
   refine L0 rfl rfl (Y0_lenM (c := c9) (xs := a1) Tryd.underlying24 rfl (by kernel_rfl)) ?_
   refine XR 1 ?_
   refine L0 rfl rfl (Y0_lenM (c := c9) (xs := b2) Tryd.underlying24 rfl (by kernel_rfl)) ?_
   exact XE
  refine V_cond rfl (fun hc3 => ?_) (fun hc3 => ?_)
  ·have h := of_true h hc3
   refine V_e (mb 26 16) [] (s1 := ⟨bt 4 (Bo false :: bt 21 []), []⟩) ?_
   refine V_ret ?_
   obtain rfl := some_inj h
   show Post _ _ _ _ _
   exact ⟨.inr rfl, rfl, rfl, rfl⟩
  ·have h := of_false h hc3
   refine V_skip ?_
   show V _ _ _ _
   refine V_seq ?_
   refine V_e (mb 26 35) [] (s1 := ⟨.c (.sl (a1.map c9)) :: .c (.sl (b2.map c9)) :: bt 3 (I 0 :: bt 20 []), []⟩) ?_
   obtain ⟨qo6, hLo6, hko6⟩ := of_bind h
   refine V_toS (q := qo6) (S := fun o6 => ⟨bt 26 [], []⟩) (mb 26 0) [] ?_ ?_
   ·refine V_block (V_loop (fun n s => ∃ (i4 : Int), s.keep (mb 26 35) [] = (⟨.c (.sl (a1.map c9)) :: .c (.sl (b2.map c9)) :: bt 3 (I i4 :: bt 20 []), []⟩ : St) ∧ r_laws_eqStringS_L5 a1 b2 n i4 = some qo6) FU ⟨_,  by rfl, hLo6⟩ ?_)
    clear hLo6
    rintro n s ⟨i4, hs, h⟩
    refine V_keep _ _ hs ?_
    clear hs
    cases n with
    | zero => cases h
    | succ n =>
     rw [r_laws_eqStringS_L5] at h
     refine V_seq ?_
     refine V_sreg (mb 26 16419) [] (s1 := ⟨.c (.sl (a1.map c9)) :: .c (.sl (b2.map c9)) :: bt 3 (I i4 :: bt 8 (Bo (ltI i4 ((a1.length : Int))) :: bt 11 [])), []⟩) ?_ ?_
     ·refine XR 2 ?_
      refine L0 rfl rfl (Y0_lenM (c := c9) (xs := a1) Tryd.underlying24 rfl (by kernel_rfl)) ?_
      exact XE
     refine V_cond rfl (fun hc7 => ?_) (fun hc7 => ?_)
     ·have h := of_true h hc7
      refine V_skip ?_
      show V _ _ _ _
      refine V_seq ?_
      refine V_block ?_
      obtain ⟨e8, he8, h⟩ := of_bind h
      obtain ⟨e9, he9, h⟩ := of_bind h
      refine V_sdreg [0, 0, 3, 7, 0, 0, 48, 112, 255] 9 (cdm 9 [43528, 43522, 43525, 43541, 2218, 682, 1450, 5546, 21845]) (mb 26 33554467) [] (s1 := ⟨.c (.sl (a1.map c9)) :: .c (.sl (b2.map c9)) :: bt 3 (I i4 :: bt 19 (Bo (!(e8.toList == e9.toList)) :: [])), []⟩) (by kernel_rfl) (by kernel_rfl) ?_ ?_
      ·refine DR 2 ?_
       refine DE_0 2 (.pe [.v (.string e8)]) (by kernel_rfl) rfl rfl rfl (gsat_none rfl) (by kernel_rfl) (Y0_idxM (c := c9) (xs := a1) (v := e8) (n := i4) Tryd.underlying24 sz9 rfl (by kernel_rfl) (by kernel_rfl) he8) 19 rfl ?_
       refine DR 3 ?_
       refine DE_0 6 (.pe [.v (.string e9)]) (by kernel_rfl) rfl rfl rfl (gsat_none rfl) (by kernel_rfl) (Y0_idxM (c := c9) (xs := b2) (v := e9) (n := i4) Tryd.underlying24 sz9 rfl (by kernel_rfl) (by kernel_rfl) he9) 23 rfl ?_
       refine DR 1 ?_
       refine DE_0 8 (Bo (!(e8.toList == e9.toList))) (by kernel_rfl) rfl rfl rfl (gsat_none rfl) (by kernel_rfl) (Y0_nes (a := e8) (b := e9) rfl (by kernel_rfl) (by kernel_rfl)) 25 rfl ?_
       refine DA 0 ?_
       exact XE
      refine V_cond rfl (fun hc10 => ?_) (fun hc10 => ?_)
      ·have h := of_true h hc10
       refine V_e (mb 26 16) [] (s1 := ⟨bt 4 (Bo false :: bt 21 []), []⟩) ?_
       refine V_ret ?_
       obtain rfl := some_inj h
       have h := hko6
       obtain rfl := some_inj h
       show Post _ _ _ _ _
       exact ⟨.inr rfl, rfl, rfl, rfl⟩
      ·have h := of_false h hc10
       refine V_skip ?_
       show V _ _ _ _
       obtain ⟨i11, hi11, h⟩ := of_sI h
       refine V_reg (mb 26 35) [] (s1 := ⟨.c (.sl (a1.map c9)) :: .c (.sl (b2.map c9)) :: bt 3 (I i11 :: bt 20 []), []⟩) ?_ ?_
       ·refine XR 3 ?_
        refine XL_nil ?_
        subst hi11
        kernel_rfl
       exact ⟨n, Nat.lt_succ_self n, _,  by rfl, h⟩
     ·have h := of_false h hc7
      refine V_exit ?_
      obtain rfl := some_inj h
      exact ⟨_, rfl, by rfl⟩
   rintro o6 rfl
   have h := hko6
   clear hko6
   show V _ _ _ _
   refine V_e (mb 26 16) [] (s1 := ⟨bt 4 (Bo true :: bt 21 []), []⟩) ?_
   refine V_ret ?_
   obtain rfl := some_inj h
   show Post _ _ _ _ _
   exact ⟨.inr rfl, rfl, rfl, rfl⟩
theorem cf_laws_markText : ∀ args w, (callFunc 28 args).run Tryd.prog w = .ok (.enter 28 args) w := run_callFunc Tryd.func28 (by kernel_rfl) (by kernel_rfl)
theorem s_laws_markText {k1 : Int} {r : ByteArray} (h : r_laws_markText k1 = some r) : CallS Tryd.prog 28 [I k1] (.c (.v (.string r))) [] := by
  refine CallS_of_text (rs := [.t 2]) (vs := [.tmp 2]) Tryd.func28 rfl rfl (.cons rfl FitsL.nil) (by decide) 20 rfl ?_
  unfold r_laws_markText at h
  show V _ _ ⟨I k1 :: bt 19 [], []⟩ _
  refine V_e (mb 20 1) [] (s1 := ⟨I k1 :: bt 19 [], []⟩) ?_
  refine V_seq ?_
  refine V_e (mb 20 33) [] (s1 := ⟨I k1 :: bt 4 (Bo (leI k1 0) :: bt 14 []), []⟩) ?_
  refine V_cond rfl (fun hc2 => ?_) (fun hc2 => ?_)
  ·have h := of_true h hc2
   refine V_e (mb 20 4) [] (s1 := ⟨.bot :: .bot :: .c (.v (.string ((⟨#[109, 48]⟩ : ByteArray)))) :: bt 17 [], []⟩) ?_
   refine V_ret ?_
   obtain rfl := some_inj h
   show Post _ _ _ _ _
   exact ⟨.inr rfl, rfl, rfl, rfl⟩
  ·have h := of_false h hc2
   refine V_skip ?_
   show V _ _ _ _
   refine V_e (mb 20 9) [] (s1 := ⟨I k1 :: .bot :: .bot :: .c (.v (.string ((⟨#[]⟩ : ByteArray)))) :: bt 16 [], []⟩) ?_
   refine V_seq ?_
   obtain ⟨o6, hLo6, h⟩ := of_bind h
   refine V_toK (mb 20 8) [] (s1 := ⟨bt 3 (.c (.v (.string o6)) :: bt 16 []), []⟩) ?_ ?_
   ·clear h
    refine V_block (V_loop (fun n s => ∃ (k3 : Int) (out4 : ByteArray), s.keep (mb 20 9) [] = (⟨I k3 :: .bot :: .bot :: .c (.v (.string out4)) :: bt 16 [], []⟩ : St) ∧ r_laws_markText_L5 n k3 out4 = some o6) FU ⟨_, _,  by rfl, hLo6⟩ ?_)
    clear hLo6
    rintro n s ⟨k3, out4, hs, h⟩
    refine V_keep _ _ hs ?_
    clear hs
    cases n with
    | zero => cases h
    | succ n =>
     rw [r_laws_markText_L5] at h
     refine V_seq ?_
     refine V_e (mb 20 137) [] (s1 := ⟨I k3 :: .bot :: .bot :: .c (.v (.string out4)) :: bt 3 (Bo (ltI 0 k3) :: bt 12 []), []⟩) ?_
     refine V_cond rfl (fun hc7 => ?_) (fun hc7 => ?_)
     ·have h := of_true h hc7
      refine V_skip ?_
      show V _ _ _ _
      refine V_block ?_
      obtain ⟨u8, hu8, h⟩ := of_bind h
      refine V_sreg (mb 20 9) [] (s1 := ⟨I k3 :: .bot :: .bot :: .c (.v (.string ((bytesI ([IntKind.u8.wrap (w64 (48 + (Int.tmod k3 10)))])) ++ out4))) :: bt 16 [], []⟩) ?_ ?_
      ·refine XR 1 ?_
       refine L0 rfl rfl (Y0_rem (k := .i64) (a := k3) (b := 10) rfl (by kernel_rfl) (by kernel_rfl) (by decide)) ?_
       refine XR 1 ?_
       refine L0 rfl rfl (Y0_conv (k2 := .i64) (a := w64 (48 + (Int.tmod k3 10))) Tryd.underlying3 Tryd.underlying5 rfl (by kernel_rfl)) ?_
       refine L1 rfl rfl (Y1_bslice (z := zv5) (els := [IntKind.u8.wrap (w64 (48 + (Int.tmod k3 10)))].map c5) Tryd.underlying69 iz5 rfl (by decide) rfl (by kernel_rfl) rfl (by simp [c5]) (by decide) (by decide)) ?_
       refine L0 rfl rfl (Y0_b2s (c := c5) (fun _ => rfl) ([IntKind.u8.wrap (w64 (48 + (Int.tmod k3 10)))]) Tryd.underlying69 Tryd.underlying5 Tryd.underlying9 rfl (by kernel_rfl)) ?_
       refine XR 1 ?_
       refine L0 rfl rfl (Y0_cat (a := bytesI ([IntKind.u8.wrap (w64 (48 + (Int.tmod k3 10)))])) (b := out4) rfl (by kernel_rfl) (by kernel_rfl) (catR_some hu8)) ?_
       exact XE
      obtain ⟨k9, hk9, h⟩ := of_sI h
      refine V_reg (mb 20 9) [] (s1 := ⟨I k9 :: .bot :: .bot :: .c (.v (.string ((bytesI ([IntKind.u8.wrap (w64 (48 + (Int.tmod k3 10)))])) ++ out4))) :: bt 16 [], []⟩) ?_ ?_
      ·refine XR 1 ?_
       refine L0 rfl rfl (Y0_quo64 (a := k3) (b := 10) rfl (by kernel_rfl) (by kernel_rfl) (by decide)) ?_
       refine XR 1 ?_
       refine XL_nil ?_
       subst hk9
       kernel_rfl
      exact ⟨n, Nat.lt_succ_self n, _, _,  by rfl, h⟩
     ·have h := of_false h hc7
      refine V_exit ?_
      obtain rfl := some_inj h
      show St.keep _ _ _ = _
      rfl
   show V _ _ _ _
   obtain ⟨u10, hu10, h⟩ := of_bind h
   refine V_sreg (mb 20 4) [] (s1 := ⟨.bot :: .bot :: .c (.v (.string (((⟨#[109]⟩ : ByteArray)) ++ o6))) :: bt 17 [], []⟩) ?_ ?_
   ·refine XR 1 ?_
    refine L0 rfl rfl (Y0_cat (a := (⟨#[109]⟩ : ByteArray)) (b := o6) rfl (by kernel_rfl) (by kernel_rfl) (catR_some hu10)) ?_
    exact XE
   refine V_ret ?_
   obtain rfl := some_inj h
   show Post _ _ _ _ _
   exact ⟨.inr rfl, rfl, rfl, rfl⟩
theorem cf_laws_markStringS : ∀ args w, (callFunc 11 args).run Tryd.prog w = .ok (.enter 11 args) w := run_callFunc Tryd.func11 (by kernel_rfl) (by kernel_rfl)
theorem s_laws_markStringS {a1 : List ByteArray} {k2 : Int} {r : (Int × (List ByteArray))} (h : r_laws_markStringS a1 k2 = some r) : CallR Tryd.prog 11 [.ow 80000, I k2] [(80000, .arr 9 1 (a1.map c9))] (I r.1) [] [(80000, .arr 9 1 (r.2.map c9))] := by
  refine CallR_of_text (rs := [.t 4]) (vs := [.tmp 4]) Tryd.func11 rfl rfl (.cons rfl FitsL.nil) (by decide) 20 rfl rfl fun σ => ?_
  unfold r_laws_markStringS at h
  show V _ _ ⟨.ow 80000 :: I k2 :: bt 18 [], [(80000, .parr (σ 80000) 9 1 (a1.map c9))]⟩ _
  refine V_e (mb 20 3) [80000] (s1 := ⟨.ow 80000 :: I k2 :: bt 18 [], [(80000, .parr (σ 80000) 9 1 (a1.map c9))]⟩) ?_
  refine V_seq ?_
  refine V_e (mb 20 35) [80000] (s1 := ⟨.ow 80000 :: I k2 :: bt 3 (I 0 :: bt 14 []), [(80000, .parr (σ 80000) 9 1 (a1.map c9))]⟩) ?_
  obtain ⟨o7, hLo7, h⟩ := of_bind h
  refine V_toK (mb 20 2) [80000] (s1 := ⟨.bot :: I o7.1 :: bt 18 [], [(80000, .parr (σ 80000) 9 1 (o7.2.map c9))]⟩) ?_ ?_
  ·clear h
   refine V_block (V_loop (fun n s => ∃ (k3 : Int) (i4 : Int) (l5 : List ByteArray), s.keep (mb 20 35) [80000] = (⟨.ow 80000 :: I k3 :: bt 3 (I i4 :: bt 14 []), [(80000, .parr (σ 80000) 9 1 (l5.map c9))]⟩ : St) ∧ r_laws_markStringS_L6 n k3 i4 l5 = some o7) FU ⟨_, _, _,  by rfl, hLo7⟩ ?_)
   clear hLo7
   rintro n s ⟨k3, i4, l5, hs, h⟩
   refine V_keep _ _ hs ?_
   clear hs
   cases n with
   | zero => cases h
   | succ n =>
    rw [r_laws_markStringS_L6] at h
    refine V_seq ?_
    refine V_sreg (mb 20 547) [80000] (s1 := ⟨.ow 80000 :: I k3 :: bt 3 (I i4 :: bt 3 (Bo (ltI i4 ((l5.length : Int))) :: bt 10 [])), [(80000, .parr (σ 80000) 9 1 (l5.map c9))]⟩) ?_ ?_
    ·refine XR 2 ?_
     refine L0 rfl rfl (Y0_lenM (c := c9) (xs := l5) Tryd.underlying24 rfl (by kernel_rfl)) ?_
     exact XE
    refine V_cond rfl (fun hc8 => ?_) (fun hc8 => ?_)
    ·have h := of_true h hc8
     refine V_skip ?_
     show V _ _ _ _
     refine V_seq ?_
     refine V_block ?_
     obtain ⟨y9, hy9, h⟩ := of_bind h
     obtain ⟨e10, he10, h⟩ := of_bind h
     obtain ⟨e11, he11, h⟩ := of_bind h
     refine V_sreg (mb 20 35) [80000] (s1 := ⟨.ow 80000 :: I k3 :: bt 3 (I i4 :: bt 14 []), [(80000, .parr (σ 80000) 9 1 ((l5.set (Int.toNat (i4)) y9).map c9))]⟩) ?_ ?_
     ·refine XR 3 ?_
      refine XC (s_laws_markText hy9) cf_laws_markText rfl rfl rfl ?_
      refine L0 rfl rfl (Y0_idxoM (c := c9) (xs := l5) (v := e10) (id := 80000) (T := 9) (sz := 1) (n := i4) Tryd.underlying24 sz9 rfl (by kernel_rfl) (by kernel_rfl) (by kernel_rfl) he10) ?_
      refine XL_cons rfl (X_storeopM (l := σ 80000) (c := c9) (xs := l5) (v := e11) (u := y9) (id := 80000) (sz := 1) (off := 0) (T0 := 9) (n := i4) (vc := [.v (.string y9)]) rfl rfl (by kernel_rfl) (by kernel_rfl) he11 (by kernel_rfl) sz9 (Nat.le_of_ble_eq_true rfl) (by kernel_rfl)) ?_
      exact XE
     obtain ⟨k12, hk12, h⟩ := of_sI h
     refine V_reg (mb 20 35) [80000] (s1 := ⟨.ow 80000 :: I k12 :: bt 3 (I i4 :: bt 14 []), [(80000, .parr (σ 80000) 9 1 ((l5.set (Int.toNat (i4)) y9).map c9))]⟩) ?_ ?_
     ·refine XR 3 ?_
      refine XL_nil ?_
      subst hk12
      kernel_rfl
     show V _ _ _ _
     obtain ⟨i13, hi13, h⟩ := of_sI h
     refine V_reg (mb 20 35) [80000] (s1 := ⟨.ow 80000 :: I k12 :: bt 3 (I i13 :: bt 14 []), [(80000, .parr (σ 80000) 9 1 ((l5.set (Int.toNat (i4)) y9).map c9))]⟩) ?_ ?_
     ·refine XR 3 ?_
      refine XL_nil ?_
      subst hi13
      kernel_rfl
     exact ⟨n, Nat.lt_succ_self n, _, _, _,  by rfl, h⟩
    ·have h := of_false h hc8
     refine V_exit ?_
     obtain rfl := some_inj h
     show St.keep _ _ _ = _
     rfl
  show V _ _ _ _
  refine V_e (mb 20 16) [80000] (s1 := ⟨bt 4 (I o7.1 :: bt 15 []), [(80000, .parr (σ 80000) 9 1 (o7.2.map c9))]⟩) ?_
  refine V_ret ?_
  obtain rfl := some_inj h
  show PostR _ _ _ _ _ _
  exact ⟨⟨.inr rfl, rfl, rfl, rfl⟩, ⟨rfl, trivial⟩⟩
theorem cf_laws_heldStringS : ∀ args w, (callFunc 12 args).run Tryd.prog w = .ok (.enter 12 args) w := run_callFunc Tryd.func12 (by kernel_rfl) (by kernel_rfl)
theorem s_laws_heldStringS {a1 : List ByteArray} {k2 : Int} {r : Int} (h : r_laws_heldStringS a1 k2 = some r) : CallS Tryd.prog 12 [.c (.sl (a1.map c9)), I k2] (I r) [] := by
  refine CallS_of_text (rs := [.t 4]) (vs := [.tmp 4]) Tryd.func12 rfl rfl (.cons rfl FitsL.nil) (by decide) 22 rfl ?_
  unfold r_laws_heldStringS at h
  show V _ _ ⟨.c (.sl (a1.map c9)) :: I k2 :: bt 20 [], []⟩ _
  refine V_e (mb 22 3) [] (s1 := ⟨.c (.sl (a1.map c9)) :: I k2 :: bt 20 [], []⟩) ?_
  refine V_seq ?_
  refine V_e (mb 22 35) [] (s1 := ⟨.c (.sl (a1.map c9)) :: I k2 :: bt 3 (I 0 :: bt 16 []), []⟩) ?_
  obtain ⟨qo6, hLo6, hko6⟩ := of_bind h
  refine V_toS (q := qo6) (S := fun o6 => ⟨.bot :: I o6 :: bt 20 [], []⟩) (mb 22 2) [] ?_ ?_
  ·refine V_block (V_loop (fun n s => ∃ (k3 : Int) (i4 : Int), s.keep (mb 22 35) [] = (⟨.c (.sl (a1.map c9)) :: I k3 :: bt 3 (I i4 :: bt 16 []), []⟩ : St) ∧ r_laws_heldStringS_L5 a1 n k3 i4 = some qo6) FU ⟨_, _,  by rfl, hLo6⟩ ?_)
   clear hLo6
   rintro n s ⟨k3, i4, hs, h⟩
   refine V_keep _ _ hs ?_
   clear hs
   cases n with
   | zero => cases h
   | succ n =>
    rw [r_laws_heldStringS_L5] at h
    refine V_seq ?_
    refine V_sreg (mb 22 547) [] (s1 := ⟨.c (.sl (a1.map c9)) :: I k3 :: bt 3 (I i4 :: bt 3 (Bo (ltI i4 ((a1.length : Int))) :: bt 12 [])), []⟩) ?_ ?_
    ·refine XR 2 ?_
     refine L0 rfl rfl (Y0_lenM (c := c9) (xs := a1) Tryd.underlying24 rfl (by kernel_rfl)) ?_
     exact XE
    refine V_cond rfl (fun hc7 => ?_) (fun hc7 => ?_)
    ·have h := of_true h hc7
     refine V_skip ?_
     show V _ _ _ _
     refine V_seq ?_
     refine V_block ?_
     refine V_seq ?_
     obtain ⟨e8, he8, h⟩ := of_bind h
     obtain ⟨y9, hy9, h⟩ := of_bind h
     refine V_sdreg [0, 0, 3, 7, 0, 16, 63] 7 (cdm 7 [2568, 2562, 2565, 2581, 170, 426, 1365]) (mb 22 262179) [] (s1 := ⟨.c (.sl (a1.map c9)) :: I k3 :: bt 3 (I i4 :: bt 12 (Bo (!(e8.toList == y9.toList)) :: bt 3 [])), []⟩) (by kernel_rfl) (by kernel_rfl) ?_ ?_
     ·refine DR 2 ?_
      refine DE_0 2 (.pe [.v (.string e8)]) (by kernel_rfl) rfl rfl rfl (gsat_none rfl) (by kernel_rfl) (Y0_idxM (c := c9) (xs := a1) (v := e8) (n := i4) Tryd.underlying24 sz9 rfl (by kernel_rfl) (by kernel_rfl) he8) 14 rfl ?_
      refine DR 2 ?_
      refine DC 5 (s_laws_markText hy9) cf_laws_markText rfl rfl rfl rfl 17 rfl ?_
      refine DE_0 6 (Bo (!(e8.toList == y9.toList))) (by kernel_rfl) rfl rfl rfl (gsat_none rfl) (by kernel_rfl) (Y0_nes (a := e8) (b := y9) rfl (by kernel_rfl) (by kernel_rfl)) 18 rfl ?_
      refine DA 0 ?_
      exact XE
     refine V_cond rfl (fun hc10 => ?_) (fun hc10 => ?_)
     ·have h := of_true h hc10
      refine V_e (mb 22 16) [] (s1 := ⟨bt 4 (I (-1) :: bt 17 []), []⟩) ?_
      refine V_ret ?_
      obtain rfl := some_inj h
      have h := hko6
      obtain rfl := some_inj h
      show Post _ _ _ _ _
      exact ⟨.inr rfl, rfl, rfl, rfl⟩
     ·have h := of_false h hc10
      refine V_skip ?_
      show V _ _ _ _
      obtain ⟨k11, hk11, h⟩ := of_sI h
      refine V_reg (mb 22 35) [] (s1 := ⟨.c (.sl (a1.map c9)) :: I k11 :: bt 3 (I i4 :: bt 16 []), []⟩) ?_ ?_
      ·refine XR 3 ?_
       refine XL_nil ?_
       subst hk11
       kernel_rfl
      show V _ _ _ _
      obtain ⟨i12, hi12, h⟩ := of_sI h
      refine V_reg (mb 22 35) [] (s1 := ⟨.c (.sl (a1.map c9)) :: I k11 :: bt 3 (I i12 :: bt 16 []), []⟩) ?_ ?_
      ·refine XR 3 ?_
       refine XL_nil ?_
       subst hi12
       kernel_rfl
      exact ⟨n, Nat.lt_succ_self n, _, _,  by rfl, h⟩
    ·have h := of_false h hc7
     refine V_exit ?_
     obtain rfl := some_inj h
     exact ⟨_, rfl, by rfl⟩
  rintro o6 rfl
  have h := hko6
  clear hko6
  show V _ _ _ _
  refine V_e (mb 22 16) [] (s1 := ⟨bt 4 (I o6 :: bt 17 []), []⟩) ?_
  refine V_ret ?_
  obtain rfl := some_inj h
  show Post _ _ _ _ _
  exact ⟨.inr rfl, rfl, rfl, rfl⟩
theorem cf_laws_FnExactAutomorphCertificates : ∀ args w, (callFunc 3 args).run Tryd.prog w = .ok (.enter 3 args) w := run_callFunc Tryd.func3 (by kernel_rfl) (by kernel_rfl)
theorem s_laws_FnExactAutomorphCertificates {aF1 : (Int × Int × Int)} {r : Bool} (h : r_laws_FnExactAutomorphCertificates aF1 = some r) : CallS Tryd.prog 3 [.ag [Ti aF1.1, Ti aF1.2.1, Ti aF1.2.2]] (Bo r) [] := by
  refine CallS_of_text (rs := [.t 2]) (vs := [.tmp 2]) Tryd.func3 rfl rfl (.cons rfl FitsL.nil) (by decide) 66 rfl ?_
  unfold r_laws_FnExactAutomorphCertificates at h
  show V _ _ ⟨.ag [Ti aF1.1, Ti aF1.2.1, Ti aF1.2.2] :: bt 65 [], []⟩ _
  refine V_e (mb 66 2) [8] (s1 := ⟨.bot :: .pt 8 0 :: bt 64 [], [(8, .box [Ti aF1.1, Ti aF1.2.1, Ti aF1.2.2])]⟩) ?_
  obtain ⟨y2, hy2, h⟩ := of_bind h
  obtain ⟨y3, hy3, h⟩ := of_bind h
  refine V_sreg (mb 66 26) [112, 8] (s1 := ⟨.bot :: .pt 8 0 :: .bot :: .ow 112 :: Bo y3.2 :: bt 61 [], [(112, .arr 9 1 (y3.1.map c9)), (8, .box [Ti aF1.1, Ti aF1.2.1, Ti aF1.2.2])]⟩) ?_ ?_
  ·refine XR 1 ?_
   refine XC (s_laws_toForm hy2) cf_laws_toForm rfl rfl rfl ?_
   refine XC (s_spec_AutomorphCertificates hy3) cf_spec_AutomorphCertificates rfl rfl rfl ?_
   exact XE
  obtain ⟨y4, hy4, h⟩ := of_bind h
  obtain ⟨y5, hy5, h⟩ := of_bind h
  refine V_sreg (mb 66 122) [160, 112, 8] (s1 := ⟨.bot :: .pt 8 0 :: .bot :: .ow 112 :: Bo y3.2 :: .ow 160 :: Bo y5.2 :: bt 59 [], [(160, .arr 9 1 (y5.1.map c9)), (112, .arr 9 1 (y3.1.map c9)), (8, .box [Ti aF1.1, Ti aF1.2.1, Ti aF1.2.2])]⟩) ?_ ?_
  ·refine XR 1 ?_
   refine XC (s_laws_toForm hy4) cf_laws_toForm rfl rfl rfl ?_
   refine XC (s_impl_AutomorphCertificates hy5) cf_impl_AutomorphCertificates rfl rfl rfl ?_
   exact XE
  refine V_seq ?_
  obtain ⟨y6, hy6, h⟩ := of_bind h
  refine V_sreg (mb 66 2147483706) [160, 112, 8] (s1 := ⟨.bot :: .pt 8 0 :: .bot :: .ow 112 :: Bo y3.2 :: .ow 160 :: bt 25 (Bo (bif (!y6) then true else (y5.2 != y3.2)) :: bt 34 []), [(160, .arr 9 1 (y5.1.map c9)), (112, .arr 9 1 (y3.1.map c9)), (8, .box [Ti aF1.1, Ti aF1.2.1, Ti aF1.2.2])]⟩) ?_ ?_
  ·refine XR 2 ?_
   refine L1 rfl rfl (Y1_callS (s_laws_eqStringS hy6) cf_laws_eqStringS rfl (by kernel_rfl) rfl rfl) ?_
   refine XR 2 ?_
   refine XL_split (!y6) (fun hc7 => ?_) (fun hc7 => ?_)
   ·refine XL_skipF _ rfl rfl (by kernel_rfl) hc7 rfl ?_
    refine XL_skipF _ rfl rfl (by kernel_rfl) hc7 rfl ?_
    refine XL_skipF _ rfl rfl (by kernel_rfl) hc7 rfl ?_
    refine XL_cons rfl (X_of_Y0 rfl (Y0_pick1 (b := !y6) (p := true) (q := y5.2 != y3.2) rfl (by kernel_rfl) hc7 (by kernel_rfl))) ?_
    exact XE
   ·refine XL_takeC _ rfl rfl (by kernel_rfl) hc7 (X_of_Y0 rfl (E_move (Bo y5.2) rfl (by kernel_rfl))) ?_
    refine XL_takeC _ rfl rfl (by kernel_rfl) hc7 (X_of_Y0 rfl (E_move (Bo y3.2) rfl (by kernel_rfl))) ?_
    refine XL_takeC _ rfl rfl (by kernel_rfl) hc7 (X_of_Y0 rfl (Y0_neb (a := y5.2) (b := y3.2) Tryd.underlying4 rfl (by kernel_rfl) (by kernel_rfl))) ?_
    refine XL_cons rfl (X_of_Y0 rfl (Y0_pick0 (b := !y6) (p := true) (q := y5.2 != y3.2) rfl (by kernel_rfl) hc7 (by kernel_rfl))) ?_
    exact XE
  refine V_cond rfl (fun hc8 => ?_) (fun hc8 => ?_)
  ·have h := of_true h hc8
   refine V_e (mb 66 4) [] (s1 := ⟨.bot :: .bot :: Bo false :: bt 63 [], []⟩) ?_
   refine V_ret ?_
   obtain rfl := some_inj h
   show Post _ _ _ _ _
   exact ⟨.inr rfl, rfl, rfl, rfl⟩
  ·have h := of_false h hc8
   refine V_skip ?_
   show V _ _ _ _
   refine V_e (mb 66 186) [160, 112, 8] (s1 := ⟨.bot :: .pt 8 0 :: .bot :: .ow 112 :: Bo y3.2 :: .ow 160 :: .bot :: I 1 :: bt 58 [], [(160, .arr 9 1 (y5.1.map c9)), (112, .arr 9 1 (y3.1.map c9)), (8, .box [Ti aF1.1, Ti aF1.2.1, Ti aF1.2.2])]⟩) ?_
   obtain ⟨y9, hy9, h⟩ := of_bind h
   refine V_sreg (mb 66 186) [160, 112, 8] (s1 := ⟨.bot :: .pt 8 0 :: .bot :: .ow 112 :: Bo y3.2 :: .ow 160 :: .bot :: I y9.1 :: bt 58 [], [(160, .arr 9 1 (y9.2.map c9)), (112, .arr 9 1 (y3.1.map c9)), (8, .box [Ti aF1.1, Ti aF1.2.1, Ti aF1.2.2])]⟩) ?_ ?_
   ·refine XR 2 ?_
    refine XL_cons rfl (X_callR (E' := [(160, .arr 9 1 (y9.2.map c9)), (112, .arr 9 1 (y3.1.map c9)), (8, .box [Ti aF1.1, Ti aF1.2.1, Ti aF1.2.2])]) [(80000, 160)] 34 (s_laws_markStringS hy9) cf_laws_markStringS rfl rfl (by kernel_rfl) rfl (mE_cons (by kernel_rfl) mE_nil) rfl (by kernel_rfl) rfl rfl (by kernel_rfl)) ?_
    exact XE
   refine V_e (mb 66 442) [160, 112, 8] (s1 := ⟨.bot :: .pt 8 0 :: .bot :: .ow 112 :: Bo y3.2 :: .ow 160 :: .bot :: I y9.1 :: I 1 :: bt 57 [], [(160, .arr 9 1 (y9.2.map c9)), (112, .arr 9 1 (y3.1.map c9)), (8, .box [Ti aF1.1, Ti aF1.2.1, Ti aF1.2.2])]⟩) ?_
   obtain ⟨y10, hy10, h⟩ := of_bind h
   refine V_sreg (mb 66 442) [160, 112, 8] (s1 := ⟨.bot :: .pt 8 0 :: .bot :: .ow 112 :: Bo y3.2 :: .ow 160 :: .bot :: I y9.1 :: I y10 :: bt 57 [], [(160, .arr 9 1 (y9.2.map c9)), (112, .arr 9 1 (y3.1.map c9)), (8, .box [Ti aF1.1, Ti aF1.2.1, Ti aF1.2.2])]⟩) ?_ ?_
   ·refine XR 2 ?_
    refine L1 rfl rfl (Y1_callS (s_laws_heldStringS hy10) cf_laws_heldStringS rfl (by kernel_rfl) rfl rfl) ?_
    exact XE
   refine V_seq ?_
   refine V_e (mb 66 549755814330) [160, 112, 8] (s1 := ⟨.bot :: .pt 8 0 :: .bot :: .ow 112 :: Bo y3.2 :: .ow 160 :: .bot :: I y9.1 :: I y10 :: bt 30 (Bo (ltI y10 0) :: bt 26 []), [(160, .arr 9 1 (y9.2.map c9)), (112, .arr 9 1 (y3.1.map c9)), (8, .box [Ti aF1.1, Ti aF1.2.1, Ti aF1.2.2])]⟩) ?_
   refine V_cond rfl (fun hc11 => ?_) (fun hc11 => ?_)
   ·have h := of_true h hc11
    refine V_e (mb 66 4) [] (s1 := ⟨.bot :: .bot :: Bo false :: bt 63 [], []⟩) ?_
    refine V_ret ?_
    obtain rfl := some_inj h
    show Post _ _ _ _ _
    exact ⟨.inr rfl, rfl, rfl, rfl⟩
   ·have h := of_false h hc11
    refine V_skip ?_
    show V _ _ _ _
    refine V_seq ?_
    refine V_e (mb 66 4398046511290) [160, 112, 8] (s1 := ⟨.bot :: .pt 8 0 :: .bot :: .ow 112 :: Bo y3.2 :: .ow 160 :: .bot :: I y9.1 :: bt 34 (Bo (!eqI y10 y9.1) :: bt 23 []), [(160, .arr 9 1 (y9.2.map c9)), (112, .arr 9 1 (y3.1.map c9)), (8, .box [Ti aF1.1, Ti aF1.2.1, Ti aF1.2.2])]⟩) ?_
    refine V_cond rfl (fun hc12 => ?_) (fun hc12 => ?_)
    ·have h := of_true h hc12
     refine V_e (mb 66 4) [] (s1 := ⟨.bot :: .bot :: Bo false :: bt 63 [], []⟩) ?_
     refine V_ret ?_
     obtain rfl := some_inj h
     show Post _ _ _ _ _
     exact ⟨.inr rfl, rfl, rfl, rfl⟩
    ·have h := of_false h hc12
     refine V_skip ?_
     show V _ _ _ _
     obtain ⟨y13, hy13, h⟩ := of_bind h
     obtain ⟨y14, hy14, h⟩ := of_bind h
     refine V_sreg (mb 66 1720) [368, 160, 112] (s1 := ⟨bt 3 (.ow 112 :: Bo y3.2 :: .ow 160 :: .bot :: I y9.1 :: .bot :: .ow 368 :: Bo y14.2 :: bt 55 []), [(368, .arr 9 1 (y14.1.map c9)), (160, .arr 9 1 (y9.2.map c9)), (112, .arr 9 1 (y3.1.map c9))]⟩) ?_ ?_
     ·refine XR 1 ?_
      refine XC (s_laws_toForm hy13) cf_laws_toForm rfl rfl rfl ?_
      refine XC (s_impl_AutomorphCertificates hy14) cf_impl_AutomorphCertificates rfl rfl rfl ?_
      exact XE
     refine V_seq ?_
     obtain ⟨y15, hy15, h⟩ := of_bind h
     refine V_sreg (mb 66 144115188075856032) [160] (s1 := ⟨bt 5 (.ow 160 :: .bot :: I y9.1 :: bt 49 (Bo (bif (!y15) then true else (y14.2 != y3.2)) :: bt 8 [])), [(160, .arr 9 1 (y9.2.map c9))]⟩) ?_ ?_
     ·refine XR 2 ?_
      refine L1 rfl rfl (Y1_callS (s_laws_eqStringS hy15) cf_laws_eqStringS rfl (by kernel_rfl) rfl rfl) ?_
      refine XR 2 ?_
      refine XL_split (!y15) (fun hc16 => ?_) (fun hc16 => ?_)
      ·refine XL_skipF _ rfl rfl (by kernel_rfl) hc16 rfl ?_
       refine XL_skipF _ rfl rfl (by kernel_rfl) hc16 rfl ?_
       refine XL_skipF _ rfl rfl (by kernel_rfl) hc16 rfl ?_
       refine XL_cons rfl (X_of_Y0 rfl (Y0_pick1 (b := !y15) (p := true) (q := y14.2 != y3.2) rfl (by kernel_rfl) hc16 (by kernel_rfl))) ?_
       exact XE
      ·refine XL_takeC _ rfl rfl (by kernel_rfl) hc16 (X_of_Y0 rfl (E_move (Bo y14.2) rfl (by kernel_rfl))) ?_
       refine XL_takeC _ rfl rfl (by kernel_rfl) hc16 (X_of_Y0 rfl (E_move (Bo y3.2) rfl (by kernel_rfl))) ?_
       refine XL_takeC _ rfl rfl (by kernel_rfl) hc16 (X_of_Y0 rfl (Y0_neb (a := y14.2) (b := y3.2) Tryd.underlying4 rfl (by kernel_rfl) (by kernel_rfl))) ?_
       refine XL_cons rfl (X_of_Y0 rfl (Y0_pick0 (b := !y15) (p := true) (q := y14.2 != y3.2) rfl (by kernel_rfl) hc16 (by kernel_rfl))) ?_
       exact XE
     refine V_cond rfl (fun hc17 => ?_) (fun hc17 => ?_)
     ·have h := of_true h hc17
      refine V_e (mb 66 4) [] (s1 := ⟨.bot :: .bot :: Bo false :: bt 63 [], []⟩) ?_
      refine V_ret ?_
      obtain rfl := some_inj h
      show Post _ _ _ _ _
      exact ⟨.inr rfl, rfl, rfl, rfl⟩
     ·have h := of_false h hc17
      refine V_skip ?_
      show V _ _ _ _
      refine V_e (mb 66 416) [160] (s1 := ⟨bt 5 (.ow 160 :: .bot :: I y9.1 :: I 1 :: bt 57 []), [(160, .arr 9 1 (y9.2.map c9))]⟩) ?_
      obtain ⟨y18, hy18, h⟩ := of_bind h
      refine V_sreg (mb 66 384) [] (s1 := ⟨bt 7 (I y9.1 :: I y18 :: bt 57 []), []⟩) ?_ ?_
      ·refine XR 2 ?_
       refine L1 rfl rfl (Y1_callS (s_laws_heldStringS hy18) cf_laws_heldStringS rfl (by kernel_rfl) rfl rfl) ?_
       exact XE
      refine V_seq ?_
      refine V_e (mb 66 4611686018427388288) [] (s1 := ⟨bt 7 (I y9.1 :: I y18 :: bt 53 (Bo (ltI y18 0) :: bt 3 [])), []⟩) ?_
      refine V_cond rfl (fun hc19 => ?_) (fun hc19 => ?_)
      ·have h := of_true h hc19
       refine V_e (mb 66 4) [] (s1 := ⟨.bot :: .bot :: Bo false :: bt 63 [], []⟩) ?_
       refine V_ret ?_
       obtain rfl := some_inj h
       show Post _ _ _ _ _
       exact ⟨.inr rfl, rfl, rfl, rfl⟩
      ·have h := of_false h hc19
       refine V_skip ?_
       show V _ _ _ _
       refine V_seq ?_
       refine V_e (mb 66 36893488147419103232) [] (s1 := ⟨bt 65 (Bo (!eqI y18 y9.1) :: []), []⟩) ?_
       refine V_cond rfl (fun hc20 => ?_) (fun hc20 => ?_)
       ·have h := of_true h hc20
        refine V_e (mb 66 4) [] (s1 := ⟨.bot :: .bot :: Bo false :: bt 63 [], []⟩) ?_
        refine V_ret ?_
        obtain rfl := some_inj h
        show Post _ _ _ _ _
        exact ⟨.inr rfl, rfl, rfl, rfl⟩
       ·have h := of_false h hc20
        refine V_skip ?_
        show V _ _ _ _
        refine V_e (mb 66 4) [] (s1 := ⟨.bot :: .bot :: Bo true :: bt 63 [], []⟩) ?_
        refine V_ret ?_
        obtain rfl := some_inj h
        show Post _ _ _ _ _
        exact ⟨.inr rfl, rfl, rfl, rfl⟩
end Go.Proofs.YtnifkkihamgmaaaDoor
