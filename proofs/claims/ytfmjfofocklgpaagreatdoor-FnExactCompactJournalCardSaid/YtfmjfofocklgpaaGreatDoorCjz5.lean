/-
  Rules of walks, plain functions and their laws, part 5.
  Conditions: none.
-/
import Derived.Test.YtfmjfofocklgpaaGreatDoorCjz4
namespace Go.Proofs.YtfmjfofocklgpaaGreatDoor
open Go.RowKit
set_option linter.unusedVariables false
set_option linter.unusedSimpArgs false
set_option maxRecDepth 100000
set_option maxHeartbeats 400000
theorem cf_impl_areNumbers : CfW Tryz.prog 166 := cfW Tryz.func166
theorem s_impl_areNumbers {list1 : List Int} {r : Bool} (h : r_impl_areNumbers list1 = some r) : zL Tryz.prog 166 [.c (.sl (list1.map c3))] (Bo r) [] := by
 refine CtW [2] Tryz.func166 rfl rfl 18 ?_
 unfold r_impl_areNumbers at h
 refine VE ?_
 refine zH ?_
 refine VS ?_
 refine YR 1 ?_
 refine L0 rfl rfl (Y0_lenM (c := c3) (xs := list1) Tryz.underlying24 rfl kk) ?_
 refine YF ?_
 obtain ⟨qo4, hLo4, hko4⟩ := zA h
 refine V_toS (q := qo4) (S := fun o4 => ⟨bt 18 [], []⟩) (mb 18 0) [] ?_ ?_
 ·refine zK (V_loop (fun n s => ∃ (t2 : Int), s.keep (mb 18 224) [] = (⟨bt 5 (.c (.sl (list1.map c3)) :: I ((list1.length : Int)) :: I t2 :: bt 10 []), []⟩ : St) ∧ r_impl_areNumbers_L3 list1 n t2 = some qo4) FU ⟨_,  kk, hLo4⟩ ?_)
  clear hLo4
  rintro n s ⟨t2, hs, h⟩
  refine V_keep _ _ hs ?_
  clear hs
  cases n with
  | zero => cases h
  | succ n =>
   rw [r_impl_areNumbers_L3] at h
   refine VE ?_
   refine zH ?_
   refine VC h (fun h => ?_) (fun h => ?_)
   ·refine zI ?_
    show V _ _ _ _
    refine zH ?_
    refine zK ?_
    obtain ⟨e6, he6, h⟩ := zA h
    refine VS ?_
    refine L0 rfl rfl (Y0_idxM (c := c3) (xs := list1) (v := e6) (n := t2) Tryz.underlying24 sz3 rfl kk kk he6) ?_
    refine YF ?_
    refine zN (mb 18 65760) [] (s1 := ⟨bt 5 (.c (.sl (list1.map c3)) :: I ((list1.length : Int)) :: I t2 :: bt 8 (Bo (bif (ltI e6 (-1000000)) then true else (ltI 1000000 e6)) :: .bot :: [])), []⟩) ?_ ?_
    ·refine YR 3 ?_
     refine zD (ltI e6 (-1000000)) (fun hc7 => ?_) (fun hc7 => ?_)
     ·refine YQ hc7 ?_
      exact YE (by rw [hc7]; kernel_rfl)
     ·refine YQ hc7 ?_
      exact YE (by rw [hc7]; kernel_rfl)
    refine VC h (fun h => ?_) (fun h => ?_)
    ·refine VE ?_
     refine zE ?_
     obtain rfl := zB h
     have h := hko4
     obtain rfl := zB h
     exact VT
    ·refine zI ?_
     show V _ _ _ _
     obtain ⟨t9, ht9, h⟩ := zQ h
     refine V_reg (mb 18 224) [] (s1 := ⟨bt 5 (.c (.sl (list1.map c3)) :: I ((list1.length : Int)) :: I t9 :: bt 10 []), []⟩) ?_ ?_
     ·refine XR 2 ?_
      refine zJ ?_
      subst ht9
      kernel_rfl
     exact ⟨n, Nat.lt_succ_self n, _,  kk, h⟩
   ·refine V_exit ?_
    obtain rfl := zB h
    exact ⟨_, rfl, kk⟩
 rintro o4 rfl
 have h := hko4
 clear hko4
 show V _ _ _ _
 refine VE ?_
 cases h
 exact zE VT
theorem cf_impl_IsForm : CfW Tryz.prog 161 := cfW Tryz.func161
theorem s_impl_IsForm {f1 : (Int × Int × Int)} {r : Bool} (h : r_impl_IsForm f1 = some r) : zL Tryz.prog 161 [.ag [Ti f1.1, Ti f1.2.1, Ti f1.2.2]] (Bo r) [] := by
 refine CtW [2] Tryz.func161 rfl rfl 11 ?_
 unfold r_impl_IsForm at h
 refine VE ?_
 obtain ⟨y2, hy2, h⟩ := zA h
 refine VS ?_
 refine YR 6 ?_
 refine L1 rfl rfl (Y1_bslice (z := zv3) (els := [f1.1, f1.2.1, f1.2.2].map c3) Tryz.underlying24 iz3 rfl (by decide) rfl kk rfl (by simp [c3]) (by decide) (by decide)) ?_
 refine L1 rfl rfl (Y1_callS (s_impl_areNumbers hy2) cf_impl_areNumbers rfl kk rfl rfl) ?_
 refine YF ?_
 cases h
 exact zE VT
theorem cf_impl_formText : CfW Tryz.prog 162 := cfW Tryz.func162
theorem s_impl_formText {f1 : (Int × Int × Int)} {r : ByteArray} (h : r_impl_formText f1 = some r) : zL Tryz.prog 162 [.ag [Ti f1.1, Ti f1.2.1, Ti f1.2.2]] (.c (.v (.string r))) [] := by
 refine CtW [2] Tryz.func162 rfl rfl 18 ?_
 unfold r_impl_formText at h
 refine VE ?_
 obtain ⟨y2, hy2, h⟩ := zA h
 obtain ⟨u3, hu3, h⟩ := zA h
 obtain ⟨u4, hu4, h⟩ := zA h
 obtain ⟨y5, hy5, h⟩ := zA h
 obtain ⟨u6, hu6, h⟩ := zA h
 obtain ⟨u7, hu7, h⟩ := zA h
 obtain ⟨y8, hy8, h⟩ := zA h
 obtain ⟨u9, hu9, h⟩ := zA h
 obtain ⟨u10, hu10, h⟩ := zA h
 refine VDS [0, 1, 3, 7, 15, 0, 32, 103, 255, 511, 0, 1024, 3303, 8191, 16383, 32767] 16 (cdm 16 [10496000, 10496001, 10496005, 44083221, 44083285, 10486442, 10487466, 10491541, 44062037, 44127573, 699050, 1747626, 5920405, 22369621, 89478485, 357913941]) ?_
 refine EK 2 (s_strconv_Itoa hy2) cf_strconv_Itoa ?_
 refine E0 3 rfl rfl (Y0_cat (a := (⟨#[40]⟩ : ByteArray)) (b := y2) rfl kk kk (catR_some hu3)) ?_
 refine E0 4 rfl rfl (Y0_cat (a := ((⟨#[40]⟩ : ByteArray)) ++ y2) (b := (⟨#[44]⟩ : ByteArray)) rfl kk kk (catR_some hu4)) ?_
 refine EK 2 (s_strconv_Itoa hy5) cf_strconv_Itoa ?_
 refine E0 8 rfl rfl (Y0_cat (a := (((⟨#[40]⟩ : ByteArray)) ++ y2) ++ ((⟨#[44]⟩ : ByteArray))) (b := y5) rfl kk kk (catR_some hu6)) ?_
 refine E0 9 rfl rfl (Y0_cat (a := ((((⟨#[40]⟩ : ByteArray)) ++ y2) ++ ((⟨#[44]⟩ : ByteArray))) ++ y5) (b := (⟨#[44]⟩ : ByteArray)) rfl kk kk (catR_some hu7)) ?_
 refine EK 2 (s_strconv_Itoa hy8) cf_strconv_Itoa ?_
 refine E0 13 rfl rfl (Y0_cat (a := (((((⟨#[40]⟩ : ByteArray)) ++ y2) ++ ((⟨#[44]⟩ : ByteArray))) ++ y5) ++ ((⟨#[44]⟩ : ByteArray))) (b := y8) rfl kk kk (catR_some hu9)) ?_
 refine E0 14 rfl rfl (Y0_cat (a := ((((((⟨#[40]⟩ : ByteArray)) ++ y2) ++ ((⟨#[44]⟩ : ByteArray))) ++ y5) ++ ((⟨#[44]⟩ : ByteArray))) ++ y8) (b := (⟨#[41]⟩ : ByteArray)) rfl kk kk (catR_some hu10)) ?_
 refine EF 1 ?_
 cases h
 exact zE VT
theorem cf_impl_ParseForm : CfW Tryz.prog 73 := cfW Tryz.func73
theorem s_impl_ParseForm {vs1 : ByteArray} {r : (((Int × Int × Int)) × Bool)} (h : r_impl_ParseForm vs1 = some r) : zL Tryz.prog 73 [.c (.v (.string vs1))] (.tc (.ag [Ti r.1.1, Ti r.1.2.1, Ti r.1.2.2]) (.tc (Bo r.2) .tn)) [] := by
 refine zO (rs := [.w 2 3, .t 3]) (vs := [.cell 2 38, .tmp 3]) Tryz.func73 rfl rfl (.cons ⟨rfl, wd38⟩ (.cons rfl FitsL.nil)) (by decide) 33 rfl ?_
 unfold r_impl_ParseForm at h
 refine VE ?_
 obtain ⟨y2, hy2, h⟩ := zA h
 refine VS ?_
 refine YK 1 (s_impl_integersIn hy2) cf_impl_integersIn ?_
 refine YF ?_
 refine zH ?_
 refine VS ?_
 refine YR 1 ?_
 refine L0 rfl rfl (Y0_lenM (c := c3) (xs := y2) Tryz.underlying24 rfl kk) ?_
 refine YF ?_
 refine VC h (fun h => ?_) (fun h => ?_)
 ·refine VS ?_
  refine L0 rfl rfl (zP (cs := [Ti 0, Ti 0, Ti 0]) pl38 bt38 rfl rfl kk) ?_
  refine YF ?_
  cases h
  exact zE VT
 ·refine zI ?_
  show V _ _ _ _
  obtain ⟨e4, he4, h⟩ := zA h
  obtain ⟨e5, he5, h⟩ := zA h
  obtain ⟨e6, he6, h⟩ := zA h
  obtain ⟨e7, he7, h⟩ := zA h
  obtain ⟨e8, he8, h⟩ := zA h
  obtain ⟨e9, he9, h⟩ := zA h
  refine VDS [0, 1, 3, 0, 8, 24, 0, 64, 192, 511, 0, 2047] 11 (cdm 11 [2271872, 2271873, 2271877, 2269226, 2269290, 2269546, 2099882, 2103978, 2120362, 2184533, 699050]) ?_
  refine ER 1 ?_
  refine E0 1 rfl rfl (Y0_idxoM (c := c3) (xs := y2) (v := e4) (id := 56) (T := 3) (sz := 1) (n := 0) Tryz.underlying24 sz3 rfl kk kk kk he4) ?_
  refine E0 2 rfl rfl (Y0_loado1 (c := c3) (xs := y2) (v := e5) (id := 56) (sz := 1) (T := 3) (off := 0) (n := 0) (d := Ti e5) (ds := []) sc3 rfl kk kk he5 kk) ?_
  refine ER 1 ?_
  refine E0 4 rfl rfl (Y0_idxoM (c := c3) (xs := y2) (v := e6) (id := 56) (T := 3) (sz := 1) (n := 1) Tryz.underlying24 sz3 rfl kk kk kk he6) ?_
  refine E0 5 rfl rfl (Y0_loado1 (c := c3) (xs := y2) (v := e7) (id := 56) (sz := 1) (T := 3) (off := 0) (n := 1) (d := Ti e7) (ds := []) sc3 rfl kk kk he7 kk) ?_
  refine ER 1 ?_
  refine E0 7 rfl rfl (Y0_idxoM (c := c3) (xs := y2) (v := e8) (id := 56) (T := 3) (sz := 1) (n := 2) Tryz.underlying24 sz3 rfl kk kk kk he8) ?_
  refine E0 8 rfl rfl (Y0_loado1 (c := c3) (xs := y2) (v := e9) (id := 56) (sz := 1) (T := 3) (off := 0) (n := 2) (d := Ti e9) (ds := []) sc3 rfl kk kk he9 kk) ?_
  refine E0 9 rfl rfl (zP (cs := [Ti e5, Ti e7, Ti e9]) pl38 bt38 rfl rfl kk) ?_
  refine EF 1 ?_
  refine zH ?_
  obtain ⟨y10, hy10, h⟩ := zA h
  obtain ⟨b13, hb13, h⟩ := zA h
  refine zN (mb 33 1073741860) [40, 16] (s1 := ⟨.bot :: .bot :: .pt 16 0 :: .bot :: .bot :: .pt 40 0 :: bt 24 (Bo b13 :: .bot :: .bot :: []), [(40, .box [Ti e5, Ti e7, Ti e9]), (16, .box [Ti 0, Ti 0, Ti 0])]⟩) ?_ ?_
  ·refine YK 1 (s_impl_IsForm hy10) cf_impl_IsForm ?_
   refine YR 2 ?_
   refine zD (!y10) (fun hc11 => ?_) (fun hc11 => ?_)
   ·have hb13 := zB (of_true hb13 hc11)
    refine YQ hc11 ?_
    exact YE (by rw [← hb13]; (try rw [hc11]); kernel_rfl)
   ·have hb13 := of_false hb13 hc11
    obtain ⟨y12, hy12, hb13⟩ := zA hb13
    have hb13 := zB hb13
    refine YQ hc11 ?_
    refine YK 1 (s_impl_formText hy12) cf_impl_formText ?_
    exact YE (by rw [← hb13]; (try rw [hc11]); kernel_rfl)
  refine VC h (fun h => ?_) (fun h => ?_)
  ·refine VS ?_
   refine L0 rfl rfl (zP (cs := [Ti 0, Ti 0, Ti 0]) pl38 bt38 rfl rfl kk) ?_
   refine YF ?_
   cases h
   exact zE VT
  ·refine zI ?_
   show V _ _ _ _
   refine VE ?_
   cases h
   exact zE VT
theorem cf_impl_isName : CfW Tryz.prog 103 := cfW Tryz.func103
theorem s_impl_isName {vs1 : ByteArray} {r : Bool} (h : r_impl_isName vs1 = some r) : zL Tryz.prog 103 [.c (.v (.string vs1))] (Bo r) [] := by
 refine CtW [2] Tryz.func103 rfl rfl 28 ?_
 unfold r_impl_isName at h
 refine VE ?_
 refine zH ?_
 refine VE ?_
 obtain ⟨qo4, hLo4, hko4⟩ := zA h
 refine V_toS (q := qo4) (S := fun o4 => ⟨.c (.v (.string vs1)) :: bt 27 [], []⟩) (mb 28 1) [] ?_ ?_
 ·refine zK (V_loop (fun n s => ∃ (i2 : Int), s.keep (mb 28 9) [] = (⟨.c (.v (.string vs1)) :: .bot :: .bot :: I i2 :: bt 24 [], []⟩ : St) ∧ r_impl_isName_L3 vs1 n i2 = some qo4) FU ⟨_,  kk, hLo4⟩ ?_)
  clear hLo4
  rintro n s ⟨i2, hs, h⟩
  refine V_keep _ _ hs ?_
  clear hs
  cases n with
  | zero => cases h
  | succ n =>
   rw [r_impl_isName_L3] at h
   refine zH ?_
   refine VS ?_
   refine YF ?_
   refine VC h (fun h => ?_) (fun h => ?_)
   ·refine zI ?_
    show V _ _ _ _
    refine zH ?_
    refine zK ?_
    obtain ⟨e6, he6, h⟩ := zA h
    obtain ⟨b9, hb9, h⟩ := zA h
    refine zN (mb 28 524297) [] (s1 := ⟨.c (.v (.string vs1)) :: .bot :: .bot :: I i2 :: bt 15 (Bo b9 :: bt 8 []), []⟩) ?_ ?_
    ·refine YR 2 ?_
     refine L0 rfl rfl (Y0_idxs (b := vs1) (k := .i64) (n := i2) (v := e6) Tryz.underlying9 rfl kk kk he6) ?_
     refine YR 2 ?_
     refine zD (ltI e6 97) (fun hc7 => ?_) (fun hc7 => ?_)
     ·have hb9 := zB (of_true hb9 hc7)
      refine YQ hc7 ?_
      exact YE (by rw [← hb9]; (try rw [hc7]); kernel_rfl)
     ·have hb9 := of_false hb9 hc7
      obtain ⟨e8, he8, hb9⟩ := zA hb9
      have hb9 := zB hb9
      refine YQ hc7 ?_
      refine YR 2 ?_
      refine YT (X_of_Y0 rfl (Y0_idxs (b := vs1) (k := .i64) (n := i2) (v := e8) Tryz.underlying9 rfl kk kk he8)) ?_
      exact YE (by rw [← hb9]; (try rw [hc7]); kernel_rfl)
    refine VC h (fun h => ?_) (fun h => ?_)
    ·refine VE ?_
     refine zE ?_
     obtain rfl := zB h
     have h := hko4
     obtain rfl := zB h
     exact VT
    ·refine zI ?_
     show V _ _ _ _
     obtain ⟨i11, hi11, h⟩ := zQ h
     refine V_reg (mb 28 9) [] (s1 := ⟨.c (.v (.string vs1)) :: .bot :: .bot :: I i11 :: bt 24 [], []⟩) ?_ ?_
     ·refine XR 3 ?_
      refine zJ ?_
      subst hi11
      kernel_rfl
     exact ⟨n, Nat.lt_succ_self n, _,  kk, h⟩
   ·refine V_exit ?_
    obtain rfl := zB h
    exact ⟨_, rfl, kk⟩
 rintro o4 rfl
 have h := hko4
 clear hko4
 show V _ _ _ _
 obtain ⟨t13, ht13, h⟩ := zA h
 have ht13 := zB ht13
 refine zN (mb 28 4) [] (s1 := ⟨.bot :: .bot :: Bo t13 :: bt 25 [], []⟩) ?_ ?_
 ·refine YR 4 ?_
  refine zD (leI 1 ((vs1.size : Int))) (fun hc12 => ?_) (fun hc12 => ?_)
  ·refine YQ hc12 ?_
   exact YE (by rw [← ht13]; (try rw [hc12]); kernel_rfl)
  ·refine YQ hc12 ?_
   exact YE (by rw [← ht13]; (try rw [hc12]); kernel_rfl)
 cases h
 exact zE VT
theorem cf_impl_Form_disc : CfW Tryz.prog 169 := cfW Tryz.func169
theorem s_impl_Form_disc {f1 : (Int × Int × Int)} {r : Int} (h : r_impl_Form_disc f1 = some r) : zL Tryz.prog 169 [.ag [Ti f1.1, Ti f1.2.1, Ti f1.2.2]] (I r) [] := by
 refine CtW [2] Tryz.func169 rfl rfl 15 ?_
 unfold r_impl_Form_disc at h
 refine VE ?_
 obtain ⟨t2, ht2, h⟩ := zQ h
 refine zN (mb 15 4) [] (s1 := ⟨.bot :: .bot :: I t2 :: bt 12 [], []⟩) ?_ ?_
 ·refine XR 13 ?_
  refine zJ ?_
  subst ht2
  kernel_rfl
 cases h
 exact zE VT
theorem cf_impl_isDefinite : CfW Tryz.prog 77 := cfW Tryz.func77
theorem s_impl_isDefinite {f1 : (Int × Int × Int)} {r : Bool} (h : r_impl_isDefinite f1 = some r) : zL Tryz.prog 77 [.ag [Ti f1.1, Ti f1.2.1, Ti f1.2.2]] (Bo r) [] := by
 refine CtW [2] Tryz.func77 rfl rfl 15 ?_
 unfold r_impl_isDefinite at h
 refine VE ?_
 obtain ⟨y2, hy2, h⟩ := zA h
 obtain ⟨b5, hb5, h⟩ := zA h
 refine zN (mb 15 4) [] (s1 := ⟨.bot :: .bot :: Bo (bif b5 then (ltI 0 f1.1) else false) :: bt 12 [], []⟩) ?_ ?_
 ·refine YK 1 (s_impl_IsForm hy2) cf_impl_IsForm ?_
  refine YR 1 ?_
  refine zD y2 (fun hc3 => ?_) (fun hc3 => ?_)
  ·have hb5 := of_true hb5 hc3
   obtain ⟨y4, hy4, hb5⟩ := zA hb5
   have hb5 := zB hb5
   refine YQ hc3 ?_
   refine YK 1 (s_impl_Form_disc hy4) cf_impl_Form_disc ?_
   refine YR 3 ?_
   refine zD b5 (fun hc6 => ?_) (fun hc6 => ?_)
   ·refine YQ hc6 ?_ (by rw [← hb5]; (try rw [hc3]); kernel_rfl)
    exact YE (by rw [hc6]; kernel_rfl)
   ·refine YQ hc6 ?_ (by rw [← hb5]; (try rw [hc3]); kernel_rfl)
    exact YE (by rw [hc6]; kernel_rfl)
  ·have hb5 := zB (of_false hb5 hc3)
   refine YQ hc3 ?_
   refine YR 5 ?_
   subst hb5
   have hc6 : false = false := rfl
   exact YE
 cases h
 exact zE VT
theorem cf_impl_isShownForm : CfW Tryz.prog 187 := cfW Tryz.func187
theorem s_impl_isShownForm {f1 : (Int × Int × Int)} {r : Bool} (h : r_impl_isShownForm f1 = some r) : zL Tryz.prog 187 [.ag [Ti f1.1, Ti f1.2.1, Ti f1.2.2]] (Bo r) [] := by
 refine CtW [2] Tryz.func187 rfl rfl 10 ?_
 unfold r_impl_isShownForm at h
 refine VE ?_
 obtain ⟨y2, hy2, h⟩ := zA h
 obtain ⟨b5, hb5, h⟩ := zA h
 refine zN (mb 10 4) [] (s1 := ⟨.bot :: .bot :: Bo b5 :: bt 7 [], []⟩) ?_ ?_
 ·refine YK 1 (s_impl_isDefinite hy2) cf_impl_isDefinite ?_
  refine YR 1 ?_
  refine zD y2 (fun hc3 => ?_) (fun hc3 => ?_)
  ·have hb5 := of_true hb5 hc3
   obtain ⟨y4, hy4, hb5⟩ := zA hb5
   have hb5 := zB hb5
   refine YQ hc3 ?_
   refine YK 1 (s_impl_Form_disc hy4) cf_impl_Form_disc ?_
   exact YE (by rw [← hb5]; (try rw [hc3]); kernel_rfl)
  ·have hb5 := zB (of_false hb5 hc3)
   refine YQ hc3 ?_
   exact YE (by rw [← hb5]; (try rw [hc3]); kernel_rfl)
 cases h
 exact zE VT
theorem cf_impl_abs : CfW Tryz.prog 84 := cfW Tryz.func84
theorem s_impl_abs {vn1 : Int} {r : Int} (h : r_impl_abs vn1 = some r) : zL Tryz.prog 84 [I vn1] (I r) [] := by
 refine CtW [2] Tryz.func84 rfl rfl 8 ?_
 unfold r_impl_abs at h
 refine VE ?_
 obtain ⟨t2, ht2, h⟩ := zQ h
 refine zN (mb 8 4) [] (s1 := ⟨.bot :: .bot :: I t2 :: bt 5 [], []⟩) ?_ ?_
 ·refine XR 2 ?_
  refine L0 rfl rfl (Y0_max (a := vn1) (b := -9223372036854775807) rfl kk kk) ?_
  refine XR 1 ?_
  refine L0 rfl rfl (Y0_max (a := vn1) (b := w64 (0 - (mxI vn1 (-9223372036854775807)))) rfl kk kk) ?_
  refine XR 1 ?_
  refine zJ ?_
  subst ht2
  kernel_rfl
 cases h
 exact zE VT
theorem cf_impl_gcd : CfW Tryz.prog 80 := cfW Tryz.func80
theorem s_impl_gcd {a1 : Int} {b2 : Int} {r : Int} (h : r_impl_gcd a1 b2 = some r) : zL Tryz.prog 80 [I a1, I b2] (I r) [] := by
 refine CtW [4] Tryz.func80 rfl rfl 13 ?_
 unfold r_impl_gcd at h
 refine VE ?_
 refine zH ?_
 obtain ⟨o6, hLo6, h⟩ := zA h
 refine V_toK (mb 13 1) [] (s1 := ⟨I o6 :: bt 12 [], []⟩) ?_ ?_
 ·clear h
  refine zK (V_loop (fun n s => ∃ (a3 : Int) (b4 : Int), s.keep (mb 13 3) [] = (⟨I a3 :: I b4 :: bt 11 [], []⟩ : St) ∧ r_impl_gcd_L5 n a3 b4 = some o6) FU ⟨_, _,  kk, hLo6⟩ ?_)
  clear hLo6
  rintro n s ⟨a3, b4, hs, h⟩
  refine V_keep _ _ hs ?_
  clear hs
  cases n with
  | zero => cases h
  | succ n =>
   rw [r_impl_gcd_L5] at h
   refine zH ?_
   refine VE ?_
   refine VC h (fun h => ?_) (fun h => ?_)
   ·refine zI ?_
    show V _ _ _ _
    refine zK ?_
    obtain ⟨z8, hz8, h⟩ := zA h
    obtain ⟨b9, hb9, h⟩ := zQ h
    refine V_dreg [0, 0, 0, 6, 3, 31] 6 (cdm 6 [168, 34, 522, 534, 165, 341]) (mb 13 3) [] (s1 := ⟨I b4 :: I b9 :: bt 11 [], []⟩) kk kk ?_ ?_
    ·refine DR 3 ?_
     refine DE_0 3 (I (Int.tmod a3 b4)) kk rfl rfl rfl (gsat_none rfl) kk (Y0_rem (k := .i64) (a := a3) (b := b4) rfl kk kk (nz_some hz8)) 10 rfl ?_
     refine DA 2 ?_
     refine zJ ?_
     subst hb9
     kernel_rfl
    exact ⟨n, Nat.lt_succ_self n, _, _,  kk, h⟩
   ·refine V_exit ?_
    obtain rfl := zB h
    show St.keep _ _ _ = _
    kernel_rfl
 show V _ _ _ _
 obtain ⟨y10, hy10, h⟩ := zA h
 refine VS ?_
 refine YK 1 (s_impl_abs hy10) cf_impl_abs ?_
 refine YF ?_
 cases h
 exact zE VT
theorem cf_impl_Form_content : CfW Tryz.prog 188 := cfW Tryz.func188
theorem s_impl_Form_content {f1 : (Int × Int × Int)} {r : Int} (h : r_impl_Form_content f1 = some r) : zL Tryz.prog 188 [.ag [Ti f1.1, Ti f1.2.1, Ti f1.2.2]] (I r) [] := by
 refine CtW [2] Tryz.func188 rfl rfl 11 ?_
 unfold r_impl_Form_content at h
 refine VE ?_
 obtain ⟨y2, hy2, h⟩ := zA h
 obtain ⟨y3, hy3, h⟩ := zA h
 refine VDS [0, 1, 0, 4, 0, 16, 60, 127, 255] 9 (cdm 9 [10912, 10913, 2570, 2586, 170, 426, 1370, 5461, 21845]) ?_
 refine EK 6 (s_impl_gcd hy2) cf_impl_gcd ?_
 refine EK 0 (s_impl_gcd hy3) cf_impl_gcd ?_
 refine EF 1 ?_
 cases h
 exact zE VT
theorem cf_impl_isClassForm : CfW Tryz.prog 104 := cfW Tryz.func104
theorem s_impl_isClassForm {f1 : (Int × Int × Int)} {r : Bool} (h : r_impl_isClassForm f1 = some r) : zL Tryz.prog 104 [.ag [Ti f1.1, Ti f1.2.1, Ti f1.2.2]] (Bo r) [] := by
 refine CtW [2] Tryz.func104 rfl rfl 10 ?_
 unfold r_impl_isClassForm at h
 refine VE ?_
 obtain ⟨y2, hy2, h⟩ := zA h
 obtain ⟨b5, hb5, h⟩ := zA h
 refine zN (mb 10 4) [] (s1 := ⟨.bot :: .bot :: Bo b5 :: bt 7 [], []⟩) ?_ ?_
 ·refine YK 1 (s_impl_isShownForm hy2) cf_impl_isShownForm ?_
  refine YR 1 ?_
  refine zD y2 (fun hc3 => ?_) (fun hc3 => ?_)
  ·have hb5 := of_true hb5 hc3
   obtain ⟨y4, hy4, hb5⟩ := zA hb5
   have hb5 := zB hb5
   refine YQ hc3 ?_
   refine YK 1 (s_impl_Form_content hy4) cf_impl_Form_content ?_
   exact YE (by rw [← hb5]; (try rw [hc3]); kernel_rfl)
  ·have hb5 := zB (of_false hb5 hc3)
   refine YQ hc3 ?_
   exact YE (by rw [← hb5]; (try rw [hc3]); kernel_rfl)
 cases h
 exact zE VT
theorem cf_impl_isCommand : CfW Tryz.prog 53 := cfW Tryz.func53
theorem s_impl_isCommand {c1 : (Int × ByteArray × ByteArray × ByteArray × ((Int × Int × Int)))} {r : Bool} (h : r_impl_isCommand c1 = some r) : zL Tryz.prog 53 [.ag [Ti c1.1, .v (.string c1.2.1), .v (.string c1.2.2.1), .v (.string c1.2.2.2.1), Ti c1.2.2.2.2.1, Ti c1.2.2.2.2.2.1, Ti c1.2.2.2.2.2.2]] (Bo r) [] := by
 refine CtW [2] Tryz.func53 rfl rfl 73 ?_
 unfold r_impl_isCommand at h
 refine VE ?_
 refine zH ?_
 obtain ⟨y2, hy2, h⟩ := zA h
 refine VS ?_
 refine YK 2 (s_impl_isName hy2) cf_impl_isName ?_
 refine YF ?_
 refine VC h (fun h => ?_) (fun h => ?_)
 ·refine VE ?_
  cases h
  exact zE VT
 ·refine zI ?_
  show V _ _ _ _
  refine zH ?_
  refine VE ?_
  refine zK ?_
  obtain ⟨j4, hj4, h⟩ := zA h
  refine V_cutK (mb 73 770) [8] (s1 := ⟨.bot :: .pt 8 0 :: bt 6 (I c1.1 :: Bo j4 :: bt 63 []), [(8, .box [Ti c1.1, .v (.string c1.2.1), .v (.string c1.2.2.1), .v (.string c1.2.2.2.1), Ti c1.2.2.2.2.1, Ti c1.2.2.2.2.2.1, Ti c1.2.2.2.2.2.2])]⟩) ?_ ?_
  ·clear h
   have h := hj4
   clear hj4
   refine VE ?_
   refine VC h (fun h => ?_) (fun h => ?_)
   ·refine zI ?_
    obtain rfl := zB h
    show St.keep _ _ _ = _
    kernel_rfl
   ·refine V_region ?_
    refine YF ?_
    obtain rfl := zB h
    show St.keep _ _ _ = _
    kernel_rfl
  refine VC h (fun h => ?_) (fun h => ?_)
  ·obtain ⟨b10, hb10, h⟩ := zA h
   refine zN (mb 73 4) [] (s1 := ⟨.bot :: .bot :: Bo b10 :: bt 70 [], []⟩) ?_ ?_
   ·refine YR 4 ?_
    refine zD (c1.2.2.1.toList == ((⟨#[]⟩ : ByteArray)).toList) (fun hc7 => ?_) (fun hc7 => ?_)
    ·refine YQ hc7 ?_
     refine YR 5 ?_
     refine zD (bif (c1.2.2.1.toList == ((⟨#[]⟩ : ByteArray)).toList) then (c1.2.2.2.1.toList == ((⟨#[]⟩ : ByteArray)).toList) else false) (fun hc8 => ?_) (fun hc8 => ?_)
     ·have hb10 := of_true hb10 hc8
      obtain ⟨y9, hy9, hb10⟩ := zA hb10
      have hb10 := zB hb10
      refine YQ hc8 ?_ (by rw [hc7]; kernel_rfl)
      refine YK 2 (s_impl_isClassForm hy9) cf_impl_isClassForm ?_
      exact YE (by rw [← hb10]; (try rw [hc8]); (try rw [hc7]); kernel_rfl)
     ·have hb10 := zB (of_false hb10 hc8)
      refine YQ hc8 ?_ (by rw [hc7]; kernel_rfl)
      exact YE (by rw [← hb10]; (try rw [hc8]); (try rw [hc7]); kernel_rfl)
    ·refine YQ hc7 ?_
     refine YR 5 ?_
     refine zD (bif (c1.2.2.1.toList == ((⟨#[]⟩ : ByteArray)).toList) then (c1.2.2.2.1.toList == ((⟨#[]⟩ : ByteArray)).toList) else false) (fun hc8 => ?_) (fun hc8 => ?_)
     ·have hb10 := of_true hb10 hc8
      obtain ⟨y9, hy9, hb10⟩ := zA hb10
      have hb10 := zB hb10
      refine YQ hc8 ?_ (by rw [hc7]; kernel_rfl)
      refine YK 2 (s_impl_isClassForm hy9) cf_impl_isClassForm ?_
      exact YE (by rw [← hb10]; (try rw [hc8]); (try rw [hc7]); kernel_rfl)
     ·have hb10 := zB (of_false hb10 hc8)
      refine YQ hc8 ?_ (by rw [hc7]; kernel_rfl)
      exact YE (by rw [← hb10]; (try rw [hc8]); (try rw [hc7]); kernel_rfl)
   cases h
   exact zE VT
  ·refine VE ?_
   refine VC h (fun h => ?_) (fun h => ?_)
   ·obtain ⟨t14, ht14, h⟩ := zA h
    have ht14 := zB ht14
    refine zN (mb 73 4) [] (s1 := ⟨.bot :: .bot :: Bo t14 :: bt 70 [], []⟩) ?_ ?_
    ·refine YR 4 ?_
     refine zD (c1.2.2.1.toList == ((⟨#[]⟩ : ByteArray)).toList) (fun hc12 => ?_) (fun hc12 => ?_)
     ·refine YQ hc12 ?_
      refine YR 5 ?_
      refine zD (bif (c1.2.2.1.toList == ((⟨#[]⟩ : ByteArray)).toList) then (c1.2.2.2.1.toList == ((⟨#[]⟩ : ByteArray)).toList) else false) (fun hc13 => ?_) (fun hc13 => ?_)
      ·refine YQ hc13 ?_ (by rw [hc12]; kernel_rfl)
       refine YR 2 ?_
       refine YT (X_of_Y0 rfl (zP (cs := [Ti 0, Ti 0, Ti 0]) pl38 bt38 rfl rfl kk)) ?_
       refine YT (X_of_Y0 rfl (Y0_eqg3 (a0 := c1.2.2.2.2.1) (b0 := 0) (a1 := c1.2.2.2.2.2.1) (b1 := 0) (a2 := c1.2.2.2.2.2.2) (b2 := 0) eqg38 rfl kk kk)) ?_
       exact YE (by rw [← ht14]; (try rw [hc13]); (try rw [hc12]); kernel_rfl)
      ·refine YQ hc13 ?_ (by rw [hc12]; kernel_rfl)
       exact YE (by rw [← ht14]; (try rw [hc13]); (try rw [hc12]); kernel_rfl)
     ·refine YQ hc12 ?_
      refine YR 5 ?_
      refine zD (bif (c1.2.2.1.toList == ((⟨#[]⟩ : ByteArray)).toList) then (c1.2.2.2.1.toList == ((⟨#[]⟩ : ByteArray)).toList) else false) (fun hc13 => ?_) (fun hc13 => ?_)
      ·refine YQ hc13 ?_ (by rw [hc12]; kernel_rfl)
       refine YR 2 ?_
       refine YT (X_of_Y0 rfl (zP (cs := [Ti 0, Ti 0, Ti 0]) pl38 bt38 rfl rfl kk)) ?_
       refine YT (X_of_Y0 rfl (Y0_eqg3 (a0 := c1.2.2.2.2.1) (b0 := 0) (a1 := c1.2.2.2.2.2.1) (b1 := 0) (a2 := c1.2.2.2.2.2.2) (b2 := 0) eqg38 rfl kk kk)) ?_
       exact YE (by rw [← ht14]; (try rw [hc13]); (try rw [hc12]); kernel_rfl)
      ·refine YQ hc13 ?_ (by rw [hc12]; kernel_rfl)
       exact YE (by rw [← ht14]; (try rw [hc13]); (try rw [hc12]); kernel_rfl)
    cases h
    exact zE VT
   ·refine VE ?_
    refine VC h (fun h => ?_) (fun h => ?_)
    ·obtain ⟨y16, hy16, h⟩ := zA h
     obtain ⟨b19, hb19, h⟩ := zA h
     obtain ⟨t21, ht21, h⟩ := zA h
     have ht21 := zB ht21
     refine zN (mb 73 4) [] (s1 := ⟨.bot :: .bot :: Bo t21 :: bt 70 [], []⟩) ?_ ?_
     ·refine YK 2 (s_impl_isName hy16) cf_impl_isName ?_
      refine YR 1 ?_
      refine zD y16 (fun hc17 => ?_) (fun hc17 => ?_)
      ·have hb19 := of_true hb19 hc17
       obtain ⟨y18, hy18, hb19⟩ := zA hb19
       have hb19 := zB hb19
       refine YQ hc17 ?_
       refine YK 2 (s_impl_isName hy18) cf_impl_isName ?_
       refine YR 2 ?_
       refine zD b19 (fun hc20 => ?_) (fun hc20 => ?_)
       ·refine YQ hc20 ?_ (by rw [← hb19]; (try rw [hc17]); kernel_rfl)
        refine YR 2 ?_
        refine YT (X_of_Y0 rfl (zP (cs := [Ti 0, Ti 0, Ti 0]) pl38 bt38 rfl rfl kk)) ?_
        refine YT (X_of_Y0 rfl (Y0_eqg3 (a0 := c1.2.2.2.2.1) (b0 := 0) (a1 := c1.2.2.2.2.2.1) (b1 := 0) (a2 := c1.2.2.2.2.2.2) (b2 := 0) eqg38 rfl kk kk)) ?_
        exact YE (by rw [← ht21]; (try rw [hc17]); (try rw [hc20]); kernel_rfl)
       ·refine YQ hc20 ?_ (by rw [← hb19]; (try rw [hc17]); kernel_rfl)
        exact YE (by rw [← ht21]; (try rw [hc17]); (try rw [hc20]); kernel_rfl)
      ·have hb19 := zB (of_false hb19 hc17)
       refine YQ hc17 ?_
       refine YR 5 ?_
       subst hb19
       have hc20 : false = false := rfl
       exact YE (by rw [← ht21]; (try rw [hc17]); kernel_rfl)
     cases h
     exact zE VT
    ·refine VE ?_
     refine VC h (fun h => ?_) (fun h => ?_)
     ·obtain ⟨y23, hy23, h⟩ := zA h
      obtain ⟨t26, ht26, h⟩ := zA h
      have ht26 := zB ht26
      refine zN (mb 73 4) [] (s1 := ⟨.bot :: .bot :: Bo t26 :: bt 70 [], []⟩) ?_ ?_
      ·refine YK 2 (s_impl_isName hy23) cf_impl_isName ?_
       refine YR 1 ?_
       refine zD y23 (fun hc24 => ?_) (fun hc24 => ?_)
       ·refine YQ hc24 ?_
        refine YR 5 ?_
        refine zD (bif y23 then (c1.2.2.2.1.toList == ((⟨#[]⟩ : ByteArray)).toList) else false) (fun hc25 => ?_) (fun hc25 => ?_)
        ·refine YQ hc25 ?_ (by rw [hc24]; kernel_rfl)
         refine YR 2 ?_
         refine YT (X_of_Y0 rfl (zP (cs := [Ti 0, Ti 0, Ti 0]) pl38 bt38 rfl rfl kk)) ?_
         refine YT (X_of_Y0 rfl (Y0_eqg3 (a0 := c1.2.2.2.2.1) (b0 := 0) (a1 := c1.2.2.2.2.2.1) (b1 := 0) (a2 := c1.2.2.2.2.2.2) (b2 := 0) eqg38 rfl kk kk)) ?_
         exact YE (by rw [← ht26]; (try rw [hc25]); (try rw [hc24]); kernel_rfl)
        ·refine YQ hc25 ?_ (by rw [hc24]; kernel_rfl)
         exact YE (by rw [← ht26]; (try rw [hc25]); (try rw [hc24]); kernel_rfl)
       ·refine YQ hc24 ?_
        refine YR 5 ?_
        refine zD (bif y23 then (c1.2.2.2.1.toList == ((⟨#[]⟩ : ByteArray)).toList) else false) (fun hc25 => ?_) (fun hc25 => ?_)
        ·refine YQ hc25 ?_ (by rw [hc24]; kernel_rfl)
         refine YR 2 ?_
         refine YT (X_of_Y0 rfl (zP (cs := [Ti 0, Ti 0, Ti 0]) pl38 bt38 rfl rfl kk)) ?_
         refine YT (X_of_Y0 rfl (Y0_eqg3 (a0 := c1.2.2.2.2.1) (b0 := 0) (a1 := c1.2.2.2.2.2.1) (b1 := 0) (a2 := c1.2.2.2.2.2.2) (b2 := 0) eqg38 rfl kk kk)) ?_
         exact YE (by rw [← ht26]; (try rw [hc25]); (try rw [hc24]); kernel_rfl)
        ·refine YQ hc25 ?_ (by rw [hc24]; kernel_rfl)
         exact YE (by rw [← ht26]; (try rw [hc25]); (try rw [hc24]); kernel_rfl)
      cases h
      exact zE VT
     ·refine zI ?_
      show V _ _ _ _
      refine VE ?_
      cases h
      exact zE VT
theorem cf_impl_commandText : CfW Tryz.prog 115 := cfW Tryz.func115
theorem s_impl_commandText {c1 : (Int × ByteArray × ByteArray × ByteArray × ((Int × Int × Int)))} {r : ByteArray} (h : r_impl_commandText c1 = some r) : zL Tryz.prog 115 [.ag [Ti c1.1, .v (.string c1.2.1), .v (.string c1.2.2.1), .v (.string c1.2.2.2.1), Ti c1.2.2.2.2.1, Ti c1.2.2.2.2.2.1, Ti c1.2.2.2.2.2.2]] (.c (.v (.string r))) [] := by
 refine CtW [2] Tryz.func115 rfl rfl 44 ?_
 unfold r_impl_commandText at h
 refine VE ?_
 obtain ⟨e2, he2, h⟩ := zA h
 obtain ⟨e3, he3, h⟩ := zA h
 refine VDS [0, 0, 2, 6, 15, 31, 0, 64, 255, 511] 10 (cdm 10 [41128, 40962, 40966, 40982, 41045, 41301, 2730, 6826, 21845, 87381]) ?_
 refine E1 0 rfl rfl (Y1_bslice (z := zv9) (els := [(⟨#[97, 100, 100]⟩ : ByteArray), (⟨#[100, 114, 111, 112]⟩ : ByteArray), (⟨#[109, 117, 108]⟩ : ByteArray), (⟨#[105, 110, 118]⟩ : ByteArray), (⟨#[109, 111, 118, 101]⟩ : ByteArray)].map c9) Tryz.underlying66 iz9 rfl (by decide) rfl kk rfl (by simp [c9]) (by decide) (by decide)) ?_
 refine ER 3 ?_
 refine E0 4 rfl rfl (Y0_idxoM (c := c9) (xs := [(⟨#[97, 100, 100]⟩ : ByteArray), (⟨#[100, 114, 111, 112]⟩ : ByteArray), (⟨#[109, 117, 108]⟩ : ByteArray), (⟨#[105, 110, 118]⟩ : ByteArray), (⟨#[109, 111, 118, 101]⟩ : ByteArray)]) (v := e2) (id := 48) (T := 9) (sz := 1) (n := w64 (c1.1 - 1)) Tryz.underlying66 sz9 rfl kk kk kk he2) ?_
 refine E0 5 rfl rfl (Y0_loado1 (c := c9) (xs := [(⟨#[97, 100, 100]⟩ : ByteArray), (⟨#[100, 114, 111, 112]⟩ : ByteArray), (⟨#[109, 117, 108]⟩ : ByteArray), (⟨#[105, 110, 118]⟩ : ByteArray), (⟨#[109, 111, 118, 101]⟩ : ByteArray)]) (v := e3) (id := 48) (sz := 1) (T := 9) (off := 0) (n := w64 (c1.1 - 1)) (d := .v (.string e3)) (ds := []) sc9 rfl kk kk he3 kk) ?_
 refine ER 2 ?_
 refine E1 8 rfl rfl (Y1_bslice (z := zv9) (els := [e3, c1.2.1].map c9) Tryz.underlying66 iz9 rfl (by decide) rfl kk rfl (by simp [c9]) (by decide) (by decide)) ?_
 refine EF 1 ?_
 refine zH ?_
 obtain ⟨t4, ht4, h⟩ := zQ h
 refine zN (mb 44 3670026) [152, 112, 8] (s1 := ⟨.bot :: .pt 8 0 :: .bot :: .ow 112 :: bt 15 (.ow 152 :: I t4 :: I 0 :: bt 22 []), [(152, .arr 9 1 (([c1.2.2.1, c1.2.2.2.1]).map c9)), (112, .arr 9 1 (([e3, c1.2.1]).map c9)), (8, .box [Ti c1.1, .v (.string c1.2.1), .v (.string c1.2.2.1), .v (.string c1.2.2.2.1), Ti c1.2.2.2.2.1, Ti c1.2.2.2.2.2.1, Ti c1.2.2.2.2.2.2])]⟩) ?_ ?_
 ·refine XR 4 ?_
  refine L1 rfl rfl (Y1_bslice (z := zv9) (els := [c1.2.2.1, c1.2.2.2.1].map c9) Tryz.underlying66 iz9 rfl (by decide) rfl kk rfl (by simp [c9]) (by decide) (by decide)) ?_
  refine L0 rfl rfl (Y0_lenM (c := c9) (xs := [c1.2.2.1, c1.2.2.2.1]) Tryz.underlying66 rfl kk) ?_
  refine XR 1 ?_
  refine zJ ?_
  subst ht4
  kernel_rfl
 obtain ⟨o8, hLo8, h⟩ := zA h
 refine V_toK (mb 44 10) [112, 8] (s1 := ⟨.bot :: .pt 8 0 :: .bot :: .ow 112 :: bt 40 [], [(112, .arr 9 1 (o8.map c9)), (8, .box [Ti c1.1, .v (.string c1.2.1), .v (.string c1.2.2.1), .v (.string c1.2.2.2.1), Ti c1.2.2.2.2.1, Ti c1.2.2.2.2.2.1, Ti c1.2.2.2.2.2.2])]⟩) ?_ ?_
 ·clear h
  refine zK (V_loop (fun n s => ∃ (t5 : Int) (l6 : List ByteArray), s.keep (mb 44 3670026) [152, 112, 8] = (⟨.bot :: .pt 8 0 :: .bot :: .ow 112 :: bt 15 (.ow 152 :: I t4 :: I t5 :: bt 22 []), [(152, .arr 9 1 (([c1.2.2.1, c1.2.2.2.1]).map c9)), (112, .arr 9 1 (l6.map c9)), (8, .box [Ti c1.1, .v (.string c1.2.1), .v (.string c1.2.2.1), .v (.string c1.2.2.2.1), Ti c1.2.2.2.2.1, Ti c1.2.2.2.2.2.1, Ti c1.2.2.2.2.2.2])]⟩ : St) ∧ r_impl_commandText_L7 c1 t4 n t5 l6 = some o8) FU ⟨_, _,  kk, hLo8⟩ ?_)
  clear hLo8
  rintro n s ⟨t5, l6, hs, h⟩
  refine V_keep _ _ hs ?_
  clear hs
  cases n with
  | zero => cases h
  | succ n =>
   rw [r_impl_commandText_L7] at h
   refine VE ?_
   refine zH ?_
   refine VC h (fun h => ?_) (fun h => ?_)
   ·refine zI ?_
    show V _ _ _ _
    refine zH ?_
    refine zK ?_
    obtain ⟨e10, he10, h⟩ := zA h
    obtain ⟨e11, he11, h⟩ := zA h
    refine VS ?_
    refine L0 rfl rfl (Y0_idxoM (c := c9) (xs := [c1.2.2.1, c1.2.2.2.1]) (v := e10) (id := 152) (T := 9) (sz := 1) (n := t5) Tryz.underlying66 sz9 rfl kk kk kk he10) ?_
    refine L0 rfl rfl (Y0_loado1 (c := c9) (xs := [c1.2.2.1, c1.2.2.2.1]) (v := e11) (id := 152) (sz := 1) (T := 9) (off := 0) (n := t5) (d := .v (.string e11)) (ds := []) sc9 rfl kk kk he11 kk) ?_
    refine YF ?_
    refine VS ?_
    refine YF ?_
    refine VC h (fun h => ?_) (fun h => ?_)
    ·obtain ⟨u13, hu13, h⟩ := zA h
     refine V_region ?_
     refine YR 2 ?_
     refine L1 rfl rfl (Y1_bslice (z := zv9) (els := [e11].map c9) Tryz.underlying66 iz9 rfl (by decide) rfl kk rfl (by simp [c9]) (by decide) (by decide)) ?_
     refine XL_cons rfl (X_appendM (c := c9) (xs := l6) (ys := [e11]) (id := 112) (z := zv9) rfl rfl Tryz.underlying66 izb9 rfl kk kk kk (fun _ => rfl) (by simp) (room_some hu13) (by decide)) ?_
     refine YF ?_
     show V _ _ _ _
     obtain ⟨t14, ht14, h⟩ := zQ h
     refine V_reg (mb 44 3670026) [152, 112, 8] (s1 := ⟨.bot :: .pt 8 0 :: .bot :: .ow 112 :: bt 15 (.ow 152 :: I t4 :: I t14 :: bt 22 []), [(152, .arr 9 1 (([c1.2.2.1, c1.2.2.2.1]).map c9)), (112, .arr 9 1 ((l6 ++ ([e11])).map c9)), (8, .box [Ti c1.1, .v (.string c1.2.1), .v (.string c1.2.2.1), .v (.string c1.2.2.2.1), Ti c1.2.2.2.2.1, Ti c1.2.2.2.2.2.1, Ti c1.2.2.2.2.2.2])]⟩) ?_ ?_
     ·refine XR 2 ?_
      refine zJ ?_
      subst ht14
      kernel_rfl
     exact ⟨n, Nat.lt_succ_self n, _, _,  kk, h⟩
    ·refine zI ?_
     show V _ _ _ _
     obtain ⟨t15, ht15, h⟩ := zQ h
     refine V_reg (mb 44 3670026) [152, 112, 8] (s1 := ⟨.bot :: .pt 8 0 :: .bot :: .ow 112 :: bt 15 (.ow 152 :: I t4 :: I t15 :: bt 22 []), [(152, .arr 9 1 (([c1.2.2.1, c1.2.2.2.1]).map c9)), (112, .arr 9 1 (l6.map c9)), (8, .box [Ti c1.1, .v (.string c1.2.1), .v (.string c1.2.2.1), .v (.string c1.2.2.2.1), Ti c1.2.2.2.2.1, Ti c1.2.2.2.2.2.1, Ti c1.2.2.2.2.2.2])]⟩) ?_ ?_
     ·refine XR 2 ?_
      refine zJ ?_
      subst ht15
      kernel_rfl
     exact ⟨n, Nat.lt_succ_self n, _, _,  kk, h⟩
   ·refine V_exit ?_
    obtain rfl := zB h
    show St.keep _ _ _ = _
    kernel_rfl
 show V _ _ _ _
 obtain ⟨j16, hj16, h⟩ := zA h
 refine V_cutK (mb 44 8) [112] (s1 := ⟨bt 3 (.ow 112 :: bt 40 []), [(112, .arr 9 1 (j16.map c9))]⟩) ?_ ?_
 ·clear h
  have h := hj16
  clear hj16
  obtain ⟨t17, ht17, h⟩ := zA h
  have ht17 := zB ht17
  refine zN (mb 44 34359738378) [112, 8] (s1 := ⟨.bot :: .pt 8 0 :: .bot :: .ow 112 :: bt 31 (Bo t17 :: bt 8 []), [(112, .arr 9 1 (o8.map c9)), (8, .box [Ti c1.1, .v (.string c1.2.1), .v (.string c1.2.2.1), .v (.string c1.2.2.2.1), Ti c1.2.2.2.2.1, Ti c1.2.2.2.2.2.1, Ti c1.2.2.2.2.2.2])]⟩) ?_ ?_
  ·refine XR 2 ?_
   refine L0 rfl rfl (zP (cs := [Ti 0, Ti 0, Ti 0]) pl38 bt38 rfl rfl kk) ?_
   refine L0 rfl rfl (Y0_neg3 (a0 := c1.2.2.2.2.1) (b0 := 0) (a1 := c1.2.2.2.2.2.1) (b1 := 0) (a2 := c1.2.2.2.2.2.2) (b2 := 0) neg38 rfl kk kk) ?_
   refine zJ ?_
   subst ht17
   kernel_rfl
  refine VC h (fun h => ?_) (fun h => ?_)
  ·obtain ⟨y19, hy19, h⟩ := zA h
   obtain ⟨u20, hu20, h⟩ := zA h
   refine V_region ?_
   refine YK 3 (s_impl_formText hy19) cf_impl_formText ?_
   refine L1 rfl rfl (Y1_bslice (z := zv9) (els := [y19].map c9) Tryz.underlying66 iz9 rfl (by decide) rfl kk rfl (by simp [c9]) (by decide) (by decide)) ?_
   refine XL_cons rfl (X_appendM (c := c9) (xs := o8) (ys := [y19]) (id := 112) (z := zv9) rfl rfl Tryz.underlying66 izb9 rfl kk kk kk (fun _ => rfl) (by simp) (room_some hu20) (by decide)) ?_
   refine YF ?_
   obtain rfl := zB h
   show St.keep _ _ _ = _
   kernel_rfl
  ·refine zI ?_
   obtain rfl := zB h
   show St.keep _ _ _ = _
   kernel_rfl
 obtain ⟨y21, hy21, h⟩ := zA h
 refine VS ?_
 refine YR 1 ?_
 refine L1 rfl rfl (Y1_callS (s_strings_Join hy21) cf_strings_Join rfl kk rfl rfl) ?_
 refine YF ?_
 cases h
 exact zE VT
theorem cf_impl_ParseCommand : CfW Tryz.prog 107 := cfW Tryz.func107
theorem s_impl_ParseCommand {vs1 : ByteArray} {r : (((Int × ByteArray × ByteArray × ByteArray × ((Int × Int × Int)))) × Bool)} (h : r_impl_ParseCommand vs1 = some r) : zL Tryz.prog 107 [.c (.v (.string vs1))] (.tc (.ag [Ti r.1.1, .v (.string r.1.2.1), .v (.string r.1.2.2.1), .v (.string r.1.2.2.2.1), Ti r.1.2.2.2.2.1, Ti r.1.2.2.2.2.2.1, Ti r.1.2.2.2.2.2.2]) (.tc (Bo r.2) .tn)) [] := by
 refine zO (rs := [.w 2 7, .t 3]) (vs := [.cell 2 40, .tmp 3]) Tryz.func107 rfl rfl (.cons ⟨rfl, wd40⟩ (.cons rfl FitsL.nil)) (by decide) 68 rfl ?_
 unfold r_impl_ParseCommand at h
 refine VE ?_
 obtain ⟨y2, hy2, h⟩ := zA h
 refine VS ?_
 refine YK 1 (s_strings_Split hy2) cf_strings_Split ?_
 refine YF ?_
 obtain ⟨l3, hl3, h⟩ := zA h
 have hl3 := zB hl3
 refine V_sregM (fun mb11 => ⟨.c (.v (.string vs1)) :: .bot :: .pt 16 0 :: .bot :: .ow 80 :: .c (.v (.map (some mb11))) :: bt 62 [], [(88, .mp mb11 (l3.map kv176)), (80, .arr 9 1 (y2.map c9)), (16, .box [Ti 0, .v (.string ByteArray.empty), .v (.string ByteArray.empty), .v (.string ByteArray.empty), Ti 0, Ti 0, Ti 0])]⟩) (mb 68 53) [88, 80, 16] ?_ ?_
 ·refine XL_mkmap rfl rfl rfl fun mb11 => ?_
  refine XL_cons rfl (X_putM (κ := ByteArray) (ν := Int) (ek := ek176) (ev := ev176) (z := 0) (m := ([] : List ((ByteArray × Int)))) (a := (⟨#[97, 100, 100]⟩ : ByteArray)) (u := 1) (id := 88) (b := mb11) mo176 (.inr rfl) rfl kk kk kk kk) ?_
  refine XL_cons rfl (X_putM (κ := ByteArray) (ν := Int) (ek := ek176) (ev := ev176) (z := 0) (m := mPut ((⟨#[97, 100, 100]⟩ : ByteArray)) 1 (([] : List ((ByteArray × Int))))) (a := (⟨#[100, 114, 111, 112]⟩ : ByteArray)) (u := 2) (id := 88) (b := mb11) mo176 (.inr rfl) rfl kk kk kk kk) ?_
  refine XL_cons rfl (X_putM (κ := ByteArray) (ν := Int) (ek := ek176) (ev := ev176) (z := 0) (m := mPut ((⟨#[100, 114, 111, 112]⟩ : ByteArray)) 2 (mPut ((⟨#[97, 100, 100]⟩ : ByteArray)) 1 (([] : List ((ByteArray × Int)))))) (a := (⟨#[109, 117, 108]⟩ : ByteArray)) (u := 3) (id := 88) (b := mb11) mo176 (.inr rfl) rfl kk kk kk kk) ?_
  refine XL_cons rfl (X_putM (κ := ByteArray) (ν := Int) (ek := ek176) (ev := ev176) (z := 0) (m := mPut ((⟨#[109, 117, 108]⟩ : ByteArray)) 3 (mPut ((⟨#[100, 114, 111, 112]⟩ : ByteArray)) 2 (mPut ((⟨#[97, 100, 100]⟩ : ByteArray)) 1 (([] : List ((ByteArray × Int))))))) (a := (⟨#[105, 110, 118]⟩ : ByteArray)) (u := 4) (id := 88) (b := mb11) mo176 (.inr rfl) rfl kk kk kk kk) ?_
  refine XL_cons rfl (X_putM (κ := ByteArray) (ν := Int) (ek := ek176) (ev := ev176) (z := 0) (m := mPut ((⟨#[105, 110, 118]⟩ : ByteArray)) 4 (mPut ((⟨#[109, 117, 108]⟩ : ByteArray)) 3 (mPut ((⟨#[100, 114, 111, 112]⟩ : ByteArray)) 2 (mPut ((⟨#[97, 100, 100]⟩ : ByteArray)) 1 (([] : List ((ByteArray × Int)))))))) (a := (⟨#[109, 111, 118, 101]⟩ : ByteArray)) (u := 5) (id := 88) (b := mb11) mo176 (.inr rfl) rfl kk kk kk kk) ?_
  refine XR 2 ?_
  refine zJ ?_
  subst hl3
  exact ⟨mb11, by kernel_rfl⟩
 intro mb11
 refine zH ?_
 refine VS ?_
 refine YR 1 ?_
 refine L0 rfl rfl (Y0_lenM (c := c9) (xs := y2) Tryz.underlying66 rfl kk) ?_
 refine YF ?_
 refine VC h (fun h => ?_) (fun h => ?_)
 ·refine VS ?_
  refine L0 rfl rfl (zP (cs := [Ti 0, .v (.string ByteArray.empty), .v (.string ByteArray.empty), .v (.string ByteArray.empty), Ti 0, Ti 0, Ti 0]) pl40 bt40 rfl rfl kk) ?_
  refine YF ?_
  cases h
  exact zE VT
 ·refine zI ?_
  show V _ _ _ _
  obtain ⟨e5, he5, h⟩ := zA h
  obtain ⟨e6, he6, h⟩ := zA h
  obtain ⟨e7, he7, h⟩ := zA h
  obtain ⟨e8, he8, h⟩ := zA h
  obtain ⟨f9, hf9, h⟩ := zQ h
  refine V_sdreg [0, 0, 2, 6, 15, 0, 32, 96, 255, 0, 1023] 10 (cdm 10 [567464, 567298, 567302, 567318, 567381, 524970, 525994, 530090, 546133, 174762]) (mb 68 85) [48, 80, 16] (s1 := ⟨.c (.v (.string vs1)) :: .bot :: .pt 16 0 :: .bot :: .ow 80 :: .bot :: .pt 48 0 :: bt 61 [], [(48, .box [Ti f9, .v (.string e8), .v (.string ByteArray.empty), .v (.string ByteArray.empty), Ti 0, Ti 0, Ti 0]), (80, .arr 9 1 (y2.map c9)), (16, .box [Ti 0, .v (.string ByteArray.empty), .v (.string ByteArray.empty), .v (.string ByteArray.empty), Ti 0, Ti 0, Ti 0])]⟩) kk kk ?_ ?_
  ·refine DR 2 ?_
   refine DE_0 2 (.po 80 1 (Int.toNat (0)) 0) kk rfl rfl rfl (gsat_none rfl) kk (Y0_idxoM (c := c9) (xs := y2) (v := e5) (id := 80) (T := 9) (sz := 1) (n := 0) Tryz.underlying66 sz9 rfl kk kk kk he5) 19 rfl ?_
   refine DE_0 3 (.c (.v (.string e6))) kk rfl rfl rfl (gsat_none rfl) kk (Y0_loado1 (c := c9) (xs := y2) (v := e6) (id := 80) (sz := 1) (T := 9) (off := 0) (n := 0) (d := .v (.string e6)) (ds := []) sc9 rfl kk kk he6 kk) 20 rfl ?_
   refine DE_0 4 (I (mAt e6 l3 0)) kk rfl rfl rfl (gsat_none rfl) kk (Y0_lookM (κ := ByteArray) (ν := Int) (ek := ek176) (ev := ev176) (z := 0) (m := l3) (a := e6) (id := 88) (b := mb11) mo176 rfl kk kk kk) 21 rfl ?_
   refine DR 1 ?_
   refine DE_0 6 (.po 80 1 (Int.toNat (1)) 0) kk rfl rfl rfl (gsat_none rfl) kk (Y0_idxoM (c := c9) (xs := y2) (v := e7) (id := 80) (T := 9) (sz := 1) (n := 1) Tryz.underlying66 sz9 rfl kk kk kk he7) 23 rfl ?_
   refine DE_0 7 (.c (.v (.string e8))) kk rfl rfl rfl (gsat_none rfl) kk (Y0_loado1 (c := c9) (xs := y2) (v := e8) (id := 80) (sz := 1) (T := 9) (off := 0) (n := 1) (d := .v (.string e8)) (ds := []) sc9 rfl kk kk he8 kk) 24 rfl ?_
   refine DE_0 8 (.ag [Ti (mAt e6 l3 0), .v (.string e8), .v (.string ByteArray.empty), .v (.string ByteArray.empty), Ti 0, Ti 0, Ti 0]) kk rfl rfl rfl (gsat_none rfl) kk (zP (cs := [Ti (mAt e6 l3 0), .v (.string e8), .v (.string ByteArray.empty), .v (.string ByteArray.empty), Ti 0, Ti 0, Ti 0]) pl40 bt40 rfl rfl kk) 25 rfl ?_
   refine DA 1 ?_
   refine XR 1 ?_
   refine zJ ?_
   subst hf9
   kernel_rfl
  refine zH ?_
  obtain ⟨u10, hu10, h⟩ := zA h
  obtain ⟨t11, ht11, h⟩ := zQ h
  refine zN (mb 68 939524165) [48, 16] (s1 := ⟨.c (.v (.string vs1)) :: .bot :: .pt 16 0 :: bt 3 (.pt 48 0 :: bt 20 (.c (.sl ((subl y2 2 ((y2.length : Int))).map c9)) :: I t11 :: I 0 :: bt 38 [])), [(48, .box [Ti f9, .v (.string e8), .v (.string ByteArray.empty), .v (.string ByteArray.empty), Ti 0, Ti 0, Ti 0]), (16, .box [Ti 0, .v (.string ByteArray.empty), .v (.string ByteArray.empty), .v (.string ByteArray.empty), Ti 0, Ti 0, Ti 0])]⟩) ?_ ?_
  ·refine XR 1 ?_
   refine XL_freeze 80 (T := 9) (sz := 1) (els := y2.map c9) (s1 := ⟨.c (.v (.string vs1)) :: .bot :: .pt 16 0 :: .bot :: .c (.sl (y2.map c9)) :: .bot :: .pt 48 0 :: bt 19 (.c (.sl (y2.map c9)) :: bt 41 []), [(48, .box [Ti f9, .v (.string e8), .v (.string ByteArray.empty), .v (.string ByteArray.empty), Ti 0, Ti 0, Ti 0]), (16, .box [Ti 0, .v (.string ByteArray.empty), .v (.string ByteArray.empty), .v (.string ByteArray.empty), Ti 0, Ti 0, Ti 0])]⟩) kk kk ?_
   refine L0 rfl rfl (Y0_slice (c := c9) (xs := y2) (l := 2) (h := (y2.length : Int)) Tryz.underlying66 sz9 (fun _ => rfl) rfl kk (fun y hy => by cases hy; exact ⟨.i64, kk⟩) (fun hh => by cases hh) (fun y hy => by cases hy) (fun _ => rfl) (slc_some hu10)) ?_
   refine L0 rfl rfl (Y0_lenM (c := c9) (xs := subl y2 2 ((y2.length : Int))) Tryz.underlying66 rfl kk) ?_
   refine XR 1 ?_
   refine zJ ?_
   subst ht11
   kernel_rfl
  obtain ⟨o19, hLo19, h⟩ := zA h
  refine V_toK (mb 68 69) [48, 16] (s1 := ⟨.c (.v (.string vs1)) :: .bot :: .pt 16 0 :: bt 3 (.pt 48 0 :: bt 61 []), [(48, .box [Ti f9, .v (.string e8), .v (.string o19.1), .v (.string o19.2.1), Ti o19.2.2.1, Ti o19.2.2.2.1, Ti o19.2.2.2.2]), (16, .box [Ti 0, .v (.string ByteArray.empty), .v (.string ByteArray.empty), .v (.string ByteArray.empty), Ti 0, Ti 0, Ti 0])]⟩) ?_ ?_
  ·clear h
   refine zK (V_loop (fun n s => ∃ (t12 : Int) (f13 : Int) (f14 : Int) (f15 : Int) (f16 : ByteArray) (f17 : ByteArray), s.keep (mb 68 939524165) [48, 16] = (⟨.c (.v (.string vs1)) :: .bot :: .pt 16 0 :: bt 3 (.pt 48 0 :: bt 20 (.c (.sl ((subl y2 2 ((y2.length : Int))).map c9)) :: I t11 :: I t12 :: bt 38 [])), [(48, .box [Ti f9, .v (.string e8), .v (.string f16), .v (.string f17), Ti f13, Ti f14, Ti f15]), (16, .box [Ti 0, .v (.string ByteArray.empty), .v (.string ByteArray.empty), .v (.string ByteArray.empty), Ti 0, Ti 0, Ti 0])]⟩ : St) ∧ zG e8 f9 t11 vs1 y2 n t12 f13 f14 f15 f16 f17 = some o19) FU ⟨_, _, _, _, _, _,  kk, hLo19⟩ ?_)
   clear hLo19
   rintro n s ⟨t12, f13, f14, f15, f16, f17, hs, h⟩
   refine V_keep _ _ hs ?_
   clear hs
   cases n with
   | zero => cases h
   | succ n =>
    rw [zG] at h
    refine VE ?_
    refine zH ?_
    refine VC h (fun h => ?_) (fun h => ?_)
    ·refine zI ?_
     show V _ _ _ _
     refine zH ?_
     refine zK ?_
     obtain ⟨e21, he21, h⟩ := zA h
     refine VS ?_
     refine L0 rfl rfl (Y0_idxM (c := c9) (xs := subl y2 2 ((y2.length : Int))) (v := e21) (n := t12) Tryz.underlying66 sz9 rfl kk kk he21) ?_
     refine YF ?_
     refine zK ?_
     refine zN (mb 68 35299262789) [48, 16] (s1 := ⟨.c (.v (.string vs1)) :: .bot :: .pt 16 0 :: bt 3 (.pt 48 0 :: .bot :: .c (.v (.string e21)) :: bt 18 (.c (.sl ((subl y2 2 ((y2.length : Int))).map c9)) :: I t11 :: I t12 :: bt 5 (Bo (bif (eqI f9 1) then true else (eqI f9 5)) :: bt 32 []))), [(48, .box [Ti f9, .v (.string e8), .v (.string f16), .v (.string f17), Ti f13, Ti f14, Ti f15]), (16, .box [Ti 0, .v (.string ByteArray.empty), .v (.string ByteArray.empty), .v (.string ByteArray.empty), Ti 0, Ti 0, Ti 0])]⟩) ?_ ?_
     ·refine YR 4 ?_
      refine zD (eqI f9 1) (fun hc22 => ?_) (fun hc22 => ?_)
      ·refine YQ hc22 ?_
       exact YE (by rw [hc22]; kernel_rfl)
      ·refine YQ hc22 ?_
       exact YE (by rw [hc22]; kernel_rfl)
     refine VC h (fun h => ?_) (fun h => ?_)
     ·obtain ⟨y24, hy24, h⟩ := zA h
      refine V_region ?_
      refine YK 1 (s_impl_ParseForm hy24) cf_impl_ParseForm ?_
      refine YF ?_
      show V _ _ _ _
      obtain ⟨t25, ht25, h⟩ := zQ h
      refine V_reg (mb 68 939524165) [48, 16] (s1 := ⟨.c (.v (.string vs1)) :: .bot :: .pt 16 0 :: bt 3 (.pt 48 0 :: bt 20 (.c (.sl ((subl y2 2 ((y2.length : Int))).map c9)) :: I t11 :: I t25 :: bt 38 [])), [(48, .box [Ti f9, .v (.string e8), .v (.string f16), .v (.string f17), Ti y24.1.1, Ti y24.1.2.1, Ti y24.1.2.2]), (16, .box [Ti 0, .v (.string ByteArray.empty), .v (.string ByteArray.empty), .v (.string ByteArray.empty), Ti 0, Ti 0, Ti 0])]⟩) ?_ ?_
      ·refine XR 2 ?_
       refine zJ ?_
       subst ht25
       kernel_rfl
      exact ⟨n, Nat.lt_succ_self n, _, _, _, _, _, _,  kk, h⟩
     ·refine VS ?_
      refine YF ?_
      refine VC h (fun h => ?_) (fun h => ?_)
      ·refine V_region ?_
       refine YF ?_
       show V _ _ _ _
       obtain ⟨t27, ht27, h⟩ := zQ h
       refine V_reg (mb 68 939524165) [48, 16] (s1 := ⟨.c (.v (.string vs1)) :: .bot :: .pt 16 0 :: bt 3 (.pt 48 0 :: bt 20 (.c (.sl ((subl y2 2 ((y2.length : Int))).map c9)) :: I t11 :: I t27 :: bt 38 [])), [(48, .box [Ti f9, .v (.string e8), .v (.string e21), .v (.string f17), Ti f13, Ti f14, Ti f15]), (16, .box [Ti 0, .v (.string ByteArray.empty), .v (.string ByteArray.empty), .v (.string ByteArray.empty), Ti 0, Ti 0, Ti 0])]⟩) ?_ ?_
       ·refine XR 2 ?_
        refine zJ ?_
        subst ht27
        kernel_rfl
       exact ⟨n, Nat.lt_succ_self n, _, _, _, _, _, _,  kk, h⟩
      ·refine V_region ?_
       refine YF ?_
       show V _ _ _ _
       obtain ⟨t28, ht28, h⟩ := zQ h
       refine V_reg (mb 68 939524165) [48, 16] (s1 := ⟨.c (.v (.string vs1)) :: .bot :: .pt 16 0 :: bt 3 (.pt 48 0 :: bt 20 (.c (.sl ((subl y2 2 ((y2.length : Int))).map c9)) :: I t11 :: I t28 :: bt 38 [])), [(48, .box [Ti f9, .v (.string e8), .v (.string f16), .v (.string e21), Ti f13, Ti f14, Ti f15]), (16, .box [Ti 0, .v (.string ByteArray.empty), .v (.string ByteArray.empty), .v (.string ByteArray.empty), Ti 0, Ti 0, Ti 0])]⟩) ?_ ?_
       ·refine XR 2 ?_
        refine zJ ?_
        subst ht28
        kernel_rfl
       exact ⟨n, Nat.lt_succ_self n, _, _, _, _, _, _,  kk, h⟩
    ·refine V_exit ?_
     obtain rfl := zB h
     show St.keep _ _ _ = _
     kernel_rfl
  show V _ _ _ _
  refine zH ?_
  obtain ⟨y29, hy29, h⟩ := zA h
  obtain ⟨b32, hb32, h⟩ := zA h
  refine zN (mb 68 36893488147419103300) [48, 16] (s1 := ⟨.bot :: .bot :: .pt 16 0 :: bt 3 (.pt 48 0 :: bt 58 (Bo b32 :: .bot :: .bot :: [])), [(48, .box [Ti f9, .v (.string e8), .v (.string o19.1), .v (.string o19.2.1), Ti o19.2.2.1, Ti o19.2.2.2.1, Ti o19.2.2.2.2]), (16, .box [Ti 0, .v (.string ByteArray.empty), .v (.string ByteArray.empty), .v (.string ByteArray.empty), Ti 0, Ti 0, Ti 0])]⟩) ?_ ?_
  ·refine YK 1 (s_impl_isCommand hy29) cf_impl_isCommand ?_
   refine YR 2 ?_
   refine zD (!y29) (fun hc30 => ?_) (fun hc30 => ?_)
   ·have hb32 := zB (of_true hb32 hc30)
    refine YQ hc30 ?_
    exact YE (by rw [← hb32]; (try rw [hc30]); kernel_rfl)
   ·have hb32 := of_false hb32 hc30
    obtain ⟨y31, hy31, hb32⟩ := zA hb32
    have hb32 := zB hb32
    refine YQ hc30 ?_
    refine YK 1 (s_impl_commandText hy31) cf_impl_commandText ?_
    exact YE (by rw [← hb32]; (try rw [hc30]); kernel_rfl)
  refine VC h (fun h => ?_) (fun h => ?_)
  ·refine VS ?_
   refine L0 rfl rfl (zP (cs := [Ti 0, .v (.string ByteArray.empty), .v (.string ByteArray.empty), .v (.string ByteArray.empty), Ti 0, Ti 0, Ti 0]) pl40 bt40 rfl rfl kk) ?_
   refine YF ?_
   cases h
   exact zE VT
  ·refine zI ?_
   show V _ _ _ _
   refine VE ?_
   cases h
   exact zE VT
theorem cf_impl_checkNumber : CfW Tryz.prog 116 := cfW Tryz.func116
theorem s_impl_checkNumber {vs1 : ByteArray} {before2 : Int} {r : Int} (h : r_impl_checkNumber vs1 before2 = some r) : zL Tryz.prog 116 [.c (.v (.string vs1)), I before2] (I r) [] := by
 refine CtW [4] Tryz.func116 rfl rfl 22 ?_
 unfold r_impl_checkNumber at h
 refine VE ?_
 refine zH ?_
 refine VE ?_
 obtain ⟨o6, hLo6, h⟩ := zA h
 refine V_toK (mb 22 2) [] (s1 := ⟨.bot :: I o6 :: bt 20 [], []⟩) ?_ ?_
 ·clear h
  refine zK (V_loop (fun n s => ∃ (before3 : Int) (i4 : Int), s.keep (mb 22 35) [] = (⟨.c (.v (.string vs1)) :: I before3 :: bt 3 (I i4 :: bt 16 []), []⟩ : St) ∧ r_impl_checkNumber_L5 vs1 n before3 i4 = some o6) FU ⟨_, _,  kk, hLo6⟩ ?_)
  clear hLo6
  rintro n s ⟨before3, i4, hs, h⟩
  refine V_keep _ _ hs ?_
  clear hs
  cases n with
  | zero => cases h
  | succ n =>
   rw [r_impl_checkNumber_L5] at h
   refine zH ?_
   refine VS ?_
   refine YF ?_
   refine VC h (fun h => ?_) (fun h => ?_)
   ·refine zI ?_
    show V _ _ _ _
    refine zH ?_
    refine zK ?_
    obtain ⟨e8, he8, h⟩ := zA h
    obtain ⟨before9, hbefore9, h⟩ := zQ h
    refine V_reg (mb 22 35) [] (s1 := ⟨.c (.v (.string vs1)) :: I before9 :: bt 3 (I i4 :: bt 16 []), []⟩) ?_ ?_
    ·refine XR 4 ?_
     refine L0 rfl rfl (Y0_idxs (b := vs1) (k := .i64) (n := i4) (v := e8) Tryz.underlying9 rfl kk kk he8) ?_
     refine L0 rfl rfl (Y0_conv (k2 := .u8) (a := e8) Tryz.underlying5 Tryz.underlying3 rfl kk) ?_
     refine XR 2 ?_
     refine L0 rfl rfl (Y0_rem (k := .i64) (a := w64 ((w64 ((w64 (31 * before3)) + (IntKind.i64.wrap e8))) + 1)) (b := 9973) rfl kk kk (by decide)) ?_
     refine XR 1 ?_
     refine zJ ?_
     subst hbefore9
     kernel_rfl
    show V _ _ _ _
    obtain ⟨i10, hi10, h⟩ := zQ h
    refine V_reg (mb 22 35) [] (s1 := ⟨.c (.v (.string vs1)) :: I before9 :: bt 3 (I i10 :: bt 16 []), []⟩) ?_ ?_
    ·refine XR 3 ?_
     refine zJ ?_
     subst hi10
     kernel_rfl
    exact ⟨n, Nat.lt_succ_self n, _, _,  kk, h⟩
   ·refine V_exit ?_
    obtain rfl := zB h
    show St.keep _ _ _ = _
    kernel_rfl
 show V _ _ _ _
 refine VE ?_
 cases h
 exact zE VT
theorem cf_impl_recordText : CfW Tryz.prog 56 := cfW Tryz.func56
theorem s_impl_recordText {c1 : (Int × ByteArray × ByteArray × ByteArray × ((Int × Int × Int)))} {before2 : Int} {r : (ByteArray × Int)} (h : r_impl_recordText c1 before2 = some r) : zL Tryz.prog 56 [.ag [Ti c1.1, .v (.string c1.2.1), .v (.string c1.2.2.1), .v (.string c1.2.2.2.1), Ti c1.2.2.2.2.1, Ti c1.2.2.2.2.2.1, Ti c1.2.2.2.2.2.2], I before2] (.tc (.c (.v (.string r.1))) (.tc (I r.2) .tn)) [] := by
 refine CtW [4, 5] Tryz.func56 rfl rfl 20 ?_
 unfold r_impl_recordText at h
 refine VE ?_
 obtain ⟨y3, hy3, h⟩ := zA h
 refine VS ?_
 refine YK 1 (s_impl_commandText hy3) cf_impl_commandText ?_
 refine YF ?_
 obtain ⟨y4, hy4, h⟩ := zA h
 refine VS ?_
 refine YK 2 (s_impl_checkNumber hy4) cf_impl_checkNumber ?_
 refine YF ?_
 obtain ⟨u5, hu5, h⟩ := zA h
 obtain ⟨y6, hy6, h⟩ := zA h
 obtain ⟨u7, hu7, h⟩ := zA h
 obtain ⟨u8, hu8, h⟩ := zA h
 refine VS ?_
 refine YR 1 ?_
 refine L0 rfl rfl (Y0_cat (a := y3) (b := (⟨#[35]⟩ : ByteArray)) rfl kk kk (catR_some hu5)) ?_
 refine YK 1 (s_strconv_Itoa hy6) cf_strconv_Itoa ?_
 refine L0 rfl rfl (Y0_cat (a := y3 ++ ((⟨#[35]⟩ : ByteArray))) (b := y6) rfl kk kk (catR_some hu7)) ?_
 refine L0 rfl rfl (Y0_cat (a := (y3 ++ ((⟨#[35]⟩ : ByteArray))) ++ y6) (b := (⟨#[10]⟩ : ByteArray)) rfl kk kk (catR_some hu8)) ?_
 refine YF ?_
 cases h
 exact zE VT
theorem cf_impl_find : CfW Tryz.prog 109 := cfW Tryz.func109
theorem s_impl_find {l1 : List ((ByteArray × ((Int × Int × Int))))} {name2 : ByteArray} {r : (((Int × Int × Int)) × Bool)} (h : r_impl_find l1 name2 = some r) : zL Tryz.prog 109 [.c (.sl (l1.map c73)), .c (.v (.string name2))] (.tc (.ag [Ti r.1.1, Ti r.1.2.1, Ti r.1.2.2]) (.tc (Bo r.2) .tn)) [] := by
 refine zO (rs := [.w 4 3, .t 5]) (vs := [.cell 4 38, .tmp 5]) Tryz.func109 rfl rfl (.cons ⟨rfl, wd38⟩ (.cons rfl FitsL.nil)) (by decide) 22 rfl ?_
 unfold r_impl_find at h
 refine VE ?_
 refine zH ?_
 refine VS ?_
 refine YR 1 ?_
 refine L0 rfl rfl (Y0_lenM (c := c73) (xs := l1) Tryz.underlying43 rfl kk) ?_
 refine YF ?_
 obtain ⟨qo5, hLo5, hko5⟩ := zA h
 refine V_toS (q := qo5) (S := fun o5 => ⟨bt 4 (.pt 32 0 :: bt 17 []), [(32, .box [Ti 0, Ti 0, Ti 0])]⟩) (mb 22 16) [32] ?_ ?_
 ·refine zK (V_loop (fun n s => ∃ (t3 : Int), s.keep (mb 22 1810) [32] = (⟨.bot :: .c (.v (.string name2)) :: .bot :: .bot :: .pt 32 0 :: bt 3 (.c (.sl (l1.map c73)) :: I ((l1.length : Int)) :: I t3 :: bt 11 []), [(32, .box [Ti 0, Ti 0, Ti 0])]⟩ : St) ∧ r_impl_find_L4 l1 name2 n t3 = some qo5) FU ⟨_,  kk, hLo5⟩ ?_)
  clear hLo5
  rintro n s ⟨t3, hs, h⟩
  refine V_keep _ _ hs ?_
  clear hs
  cases n with
  | zero => cases h
  | succ n =>
   rw [r_impl_find_L4] at h
   refine VE ?_
   refine zH ?_
   refine VC h (fun h => ?_) (fun h => ?_)
   ·refine zI ?_
    show V _ _ _ _
    refine zH ?_
    refine zK ?_
    obtain ⟨e7, he7, h⟩ := zA h
    refine VS ?_
    refine L0 rfl rfl (Y0_idxM (c := c73) (xs := l1) (v := e7) (n := t3) Tryz.underlying43 sz73 rfl kk kk he7) ?_
    refine YF ?_
    refine VS ?_
    refine YF ?_
    refine VC h (fun h => ?_) (fun h => ?_)
    ·refine VE ?_
     refine zE ?_
     obtain rfl := zB h
     have h := hko5
     obtain rfl := zB h
     exact VT
    ·refine zI ?_
     show V _ _ _ _
     obtain ⟨t9, ht9, h⟩ := zQ h
     refine V_reg (mb 22 1810) [32] (s1 := ⟨.bot :: .c (.v (.string name2)) :: .bot :: .bot :: .pt 32 0 :: bt 3 (.c (.sl (l1.map c73)) :: I ((l1.length : Int)) :: I t9 :: bt 11 []), [(32, .box [Ti 0, Ti 0, Ti 0])]⟩) ?_ ?_
     ·refine XR 2 ?_
      refine zJ ?_
      subst ht9
      kernel_rfl
     exact ⟨n, Nat.lt_succ_self n, _,  kk, h⟩
   ·refine V_exit ?_
    obtain rfl := zB h
    exact ⟨_, rfl, kk⟩
 rintro o5 rfl
 have h := hko5
 clear hko5
 show V _ _ _ _
 refine VS ?_
 refine L0 rfl rfl (zP (cs := [Ti 0, Ti 0, Ti 0]) pl38 bt38 rfl rfl kk) ?_
 refine YF ?_
 cases h
 exact zE VT
theorem cf_impl_one : CfW Tryz.prog 247 := cfW Tryz.func247
theorem s_impl_one {r : (Int × Int × Int × Int)} (h : r_impl_one = some r) : zL Tryz.prog 247 [] (.ag [Ti r.1, Ti r.2.1, Ti r.2.2.1, Ti r.2.2.2]) [] := by
 refine zO (rs := [.w 0 4]) (vs := [.cell 0 109]) Tryz.func247 rfl rfl (.cons ⟨rfl, wd109⟩ FitsL.nil) (by decide) 2 rfl ?_
 unfold r_impl_one at h
 refine VE ?_
 refine VS ?_
 refine L0 rfl rfl (zP (cs := [Ti 1, Ti 0, Ti 0, Ti 1]) pl109 bt109 rfl rfl kk) ?_
 refine YF ?_
 cases h
 exact zE VT
theorem cf_impl_Form_isNormal : CfW Tryz.prog 170 := cfW Tryz.func170
theorem s_impl_Form_isNormal {f1 : (Int × Int × Int)} {r : Bool} (h : r_impl_Form_isNormal f1 = some r) : zL Tryz.prog 170 [.ag [Ti f1.1, Ti f1.2.1, Ti f1.2.2]] (Bo r) [] := by
 refine CtW [2] Tryz.func170 rfl rfl 16 ?_
 unfold r_impl_Form_isNormal at h
 refine VE ?_
 obtain ⟨t3, ht3, h⟩ := zA h
 have ht3 := zB ht3
 refine zN (mb 16 4) [] (s1 := ⟨.bot :: .bot :: Bo t3 :: bt 13 [], []⟩) ?_ ?_
 ·refine YR 7 ?_
  refine zD (ltI (w64 (0 - f1.1)) f1.2.1) (fun hc2 => ?_) (fun hc2 => ?_)
  ·refine YQ hc2 ?_
   exact YE (by rw [← ht3]; (try rw [hc2]); kernel_rfl)
  ·refine YQ hc2 ?_
   exact YE (by rw [← ht3]; (try rw [hc2]); kernel_rfl)
 cases h
 exact zE VT
theorem cf_impl_Form_isReduced : CfW Tryz.prog 78 := cfW Tryz.func78
theorem s_impl_Form_isReduced {f1 : (Int × Int × Int)} {r : Bool} (h : r_impl_Form_isReduced f1 = some r) : zL Tryz.prog 78 [.ag [Ti f1.1, Ti f1.2.1, Ti f1.2.2]] (Bo r) [] := by
 refine CtW [2] Tryz.func78 rfl rfl 24 ?_
 unfold r_impl_Form_isReduced at h
 refine VE ?_
 obtain ⟨y2, hy2, h⟩ := zA h
 obtain ⟨t6, ht6, h⟩ := zA h
 have ht6 := zB ht6
 refine zN (mb 24 4) [] (s1 := ⟨.bot :: .bot :: Bo t6 :: bt 21 [], []⟩) ?_ ?_
 ·refine YK 1 (s_impl_Form_isNormal hy2) cf_impl_Form_isNormal ?_
  refine YR 1 ?_
  refine zD y2 (fun hc3 => ?_) (fun hc3 => ?_)
  ·refine YQ hc3 ?_
   refine YR 6 ?_
   refine zD (ltI f1.1 f1.2.2) (fun hc4 => ?_) (fun hc4 => ?_)
   ·refine YQ hc4 ?_
    exact YE (by rw [← ht6]; (try rw [hc4]); (try rw [hc3]); kernel_rfl)
   ·refine YQ hc4 ?_
    refine YR 6 ?_
    refine zD (eqI f1.1 f1.2.2) (fun hc5 => ?_) (fun hc5 => ?_)
    ·refine YQ hc5 ?_
     exact YE (by rw [← ht6]; (try rw [hc4]); (try rw [hc5]); (try rw [hc3]); kernel_rfl)
    ·refine YQ hc5 ?_
     exact YE (by rw [← ht6]; (try rw [hc4]); (try rw [hc5]); (try rw [hc3]); kernel_rfl)
  ·refine YQ hc3 ?_
   exact YE (by rw [← ht6]; (try rw [hc3]); kernel_rfl)
 cases h
 exact zE VT
theorem cf_impl_mod : CfW Tryz.prog 234 := cfW Tryz.func234
theorem s_impl_mod {a1 : Int} {vm2 : Int} {r : Int} (h : r_impl_mod a1 vm2 = some r) : zL Tryz.prog 234 [I a1, I vm2] (I r) [] := by
 refine CtW [4] Tryz.func234 rfl rfl 15 ?_
 unfold r_impl_mod at h
 refine VE ?_
 obtain ⟨z3, hz3, h⟩ := zA h
 obtain ⟨vr4, hvr4, h⟩ := zQ h
 refine zN (mb 15 34) [] (s1 := ⟨.bot :: I vm2 :: bt 3 (I vr4 :: bt 9 []), []⟩) ?_ ?_
 ·refine XR 2 ?_
  refine L0 rfl rfl (Y0_rem (k := .i64) (a := a1) (b := vm2) rfl kk kk (nz_some hz3)) ?_
  refine XR 1 ?_
  refine zJ ?_
  subst hvr4
  kernel_rfl
 refine zH ?_
 refine VE ?_
 refine VC h (fun h => ?_) (fun h => ?_)
 ·obtain ⟨vr6, hvr6, h⟩ := zQ h
  refine V_reg (mb 15 32) [] (s1 := ⟨bt 5 (I vr6 :: bt 9 []), []⟩) ?_ ?_
  ·refine XR 4 ?_
   refine zJ ?_
   subst hvr6
   kernel_rfl
  show V _ _ _ _
  refine VE ?_
  cases h
  exact zE VT
 ·refine zI ?_
  show V _ _ _ _
  refine VE ?_
  cases h
  exact zE VT
theorem cf_impl_floorDiv : CfW Tryz.prog 281 := cfW Tryz.func281
theorem s_impl_floorDiv {a1 : Int} {vm2 : Int} {r : Int} (h : r_impl_floorDiv a1 vm2 = some r) : zL Tryz.prog 281 [I a1, I vm2] (I r) [] := by
 refine CtW [4] Tryz.func281 rfl rfl 12 ?_
 unfold r_impl_floorDiv at h
 refine VE ?_
 obtain ⟨y3, hy3, h⟩ := zA h
 obtain ⟨z4, hz4, h⟩ := zA h
 obtain ⟨t5, ht5, h⟩ := zQ h
 refine zN (mb 12 16) [] (s1 := ⟨bt 4 (I t5 :: bt 7 []), []⟩) ?_ ?_
 ·refine XR 3 ?_
  refine XC (s_impl_mod hy3) cf_impl_mod rfl rfl rfl ?_
  refine XR 2 ?_
  refine L0 rfl rfl (Y0_quo64 (a := w64 (a1 - y3)) (b := vm2) rfl kk kk (nz_some hz4)) ?_
  refine XR 1 ?_
  refine zJ ?_
  subst ht5
  kernel_rfl
 cases h
 exact zE VT
theorem cf_impl_Form_step : CfW Tryz.prog 248 := cfW Tryz.func248
theorem s_impl_Form_step {f1 : (Int × Int × Int)} {r : (Int × Int × Int × Int)} (h : r_impl_Form_step f1 = some r) : zL Tryz.prog 248 [.ag [Ti f1.1, Ti f1.2.1, Ti f1.2.2]] (.ag [Ti r.1, Ti r.2.1, Ti r.2.2.1, Ti r.2.2.2]) [] := by
 refine zO (rs := [.w 2 4]) (vs := [.cell 2 109]) Tryz.func248 rfl rfl (.cons ⟨rfl, wd109⟩ FitsL.nil) (by decide) 22 rfl ?_
 unfold r_impl_Form_step at h
 refine VE ?_
 refine zH ?_
 refine zK ?_
 obtain ⟨y2, hy2, h⟩ := zA h
 refine VS ?_
 refine YK 1 (s_impl_Form_isReduced hy2) cf_impl_Form_isReduced ?_
 refine YF ?_
 refine VC h (fun h => ?_) (fun h => ?_)
 ·obtain ⟨y4, hy4, h⟩ := zA h
  refine VS ?_
  refine YK 0 (s_impl_one hy4) cf_impl_one ?_
  refine YF ?_
  cases h
  exact zE VT
 ·obtain ⟨y5, hy5, h⟩ := zA h
  refine VS ?_
  refine YK 1 (s_impl_Form_isNormal hy5) cf_impl_Form_isNormal ?_
  refine YF ?_
  refine VC h (fun h => ?_) (fun h => ?_)
  ·obtain ⟨y7, hy7, h⟩ := zA h
   refine VS ?_
   refine YK 8 (s_impl_floorDiv hy7) cf_impl_floorDiv ?_
   refine L0 rfl rfl (zP (cs := [Ti 1, Ti y7, Ti 0, Ti 1]) pl109 bt109 rfl rfl kk) ?_
   refine YF ?_
   cases h
   exact zE VT
  ·refine zI ?_
   show V _ _ _ _
   refine VS ?_
   refine L0 rfl rfl (zP (cs := [Ti 0, Ti (-1), Ti 1, Ti 0]) pl109 bt109 rfl rfl kk) ?_
   refine YF ?_
   cases h
   exact zE VT
theorem cf_impl_Form_at : CfW Tryz.prog 79 := cfW Tryz.func79
theorem s_impl_Form_at {f1 : (Int × Int × Int)} {x2 : Int} {y3 : Int} {r : Int} (h : r_impl_Form_at f1 x2 y3 = some r) : zL Tryz.prog 79 [.ag [Ti f1.1, Ti f1.2.1, Ti f1.2.2], I x2, I y3] (I r) [] := by
 refine CtW [6] Tryz.func79 rfl rfl 27 ?_
 unfold r_impl_Form_at at h
 refine VE ?_
 obtain ⟨t4, ht4, h⟩ := zQ h
 refine zN (mb 27 64) [] (s1 := ⟨bt 6 (I t4 :: bt 20 []), []⟩) ?_ ?_
 ·refine XR 21 ?_
  refine zJ ?_
  subst ht4
  kernel_rfl
 cases h
 exact zE VT
theorem cf_impl_Form_polar : CfW Tryz.prog 233 := cfW Tryz.func233
theorem s_impl_Form_polar {f1 : (Int × Int × Int)} {x2 : Int} {y3 : Int} {u4 : Int} {v5 : Int} {r : Int} (h : r_impl_Form_polar f1 x2 y3 u4 v5 = some r) : zL Tryz.prog 233 [.ag [Ti f1.1, Ti f1.2.1, Ti f1.2.2], I x2, I y3, I u4, I v5] (I r) [] := by
 refine CtW [10] Tryz.func233 rfl rfl 37 ?_
 unfold r_impl_Form_polar at h
 refine VE ?_
 obtain ⟨t6, ht6, h⟩ := zQ h
 refine zN (mb 37 1024) [] (s1 := ⟨bt 10 (I t6 :: bt 26 []), []⟩) ?_ ?_
 ·refine XR 27 ?_
  refine zJ ?_
  subst ht6
  kernel_rfl
 cases h
 exact zE VT
theorem cf_impl_Form_substitute : CfW Tryz.prog 168 := cfW Tryz.func168
theorem s_impl_Form_substitute {f1 : (Int × Int × Int)} {vm2 : (Int × Int × Int × Int)} {r : (Int × Int × Int)} (h : r_impl_Form_substitute f1 vm2 = some r) : zL Tryz.prog 168 [.ag [Ti f1.1, Ti f1.2.1, Ti f1.2.2], .ag [Ti vm2.1, Ti vm2.2.1, Ti vm2.2.2.1, Ti vm2.2.2.2]] (.ag [Ti r.1, Ti r.2.1, Ti r.2.2]) [] := by
 refine zO (rs := [.w 4 3]) (vs := [.cell 4 38]) Tryz.func168 rfl rfl (.cons ⟨rfl, wd38⟩ FitsL.nil) (by decide) 28 rfl ?_
 unfold r_impl_Form_substitute at h
 refine VE ?_
 obtain ⟨y3, hy3, h⟩ := zA h
 obtain ⟨y4, hy4, h⟩ := zA h
 obtain ⟨y5, hy5, h⟩ := zA h
 refine VDS [0, 0, 2, 0, 8, 31, 0, 0, 128, 0, 512, 0, 2048, 0, 8192, 32767, 0, 0, 131072, 0, 524288, 2097151, 4194303, 8388607] 23 (cdm 23 [2929883521704, 2929883521666, 2929883521670, 2929883521066, 2929883521130, 2929883521365, 2929883515562, 2929883359914, 2929883376298, 2929880902314, 2929881164458, 2929841580714, 2929845775018, 2929212435114, 2929279543978, 2929525609813, 2923441072810, 2760232315562, 2777412184746, 183251937962, 458129844906, 1466015503701, 5864062014805]) ?_
 refine EK 5 (s_impl_Form_at hy3) cf_impl_Form_at ?_
 refine EK 9 (s_impl_Form_polar hy4) cf_impl_Form_polar ?_
 refine EK 5 (s_impl_Form_at hy5) cf_impl_Form_at ?_
 refine E0 22 rfl rfl (zP (cs := [Ti y3, Ti y4, Ti y5]) pl38 bt38 rfl rfl kk) ?_
 refine EF 0 ?_
 cases h
 exact zE VT
theorem cf_impl_Matrix_times : CfW Tryz.prog 246 := cfW Tryz.func246
theorem s_impl_Matrix_times {vm1 : (Int × Int × Int × Int)} {vn2 : (Int × Int × Int × Int)} {r : (Int × Int × Int × Int)} (h : r_impl_Matrix_times vm1 vn2 = some r) : zL Tryz.prog 246 [.ag [Ti vm1.1, Ti vm1.2.1, Ti vm1.2.2.1, Ti vm1.2.2.2], .ag [Ti vn2.1, Ti vn2.2.1, Ti vn2.2.2.1, Ti vn2.2.2.2]] (.ag [Ti r.1, Ti r.2.1, Ti r.2.2.1, Ti r.2.2.2]) [] := by
 refine zO (rs := [.w 4 4]) (vs := [.cell 4 109]) Tryz.func246 rfl rfl (.cons ⟨rfl, wd109⟩ FitsL.nil) (by decide) 50 rfl ?_
 unfold r_impl_Matrix_times at h
 refine VE ?_
 obtain ⟨f3, hf3, h⟩ := zQ h
 obtain ⟨f4, hf4, h⟩ := zQ h
 obtain ⟨f5, hf5, h⟩ := zQ h
 obtain ⟨f6, hf6, h⟩ := zQ h
 refine zN (mb 50 16) [32] (s1 := ⟨bt 4 (.pt 32 0 :: bt 45 []), [(32, .box [Ti f3, Ti f4, Ti f5, Ti f6])]⟩) ?_ ?_
 ·refine XR 44 ?_
  refine L0 rfl rfl (zP (cs := [Ti (w64 ((w64 (vm1.1 * vn2.1)) + (w64 (vm1.2.1 * vn2.2.2.1)))), Ti (w64 ((w64 (vm1.1 * vn2.2.1)) + (w64 (vm1.2.1 * vn2.2.2.2)))), Ti (w64 ((w64 (vm1.2.2.1 * vn2.1)) + (w64 (vm1.2.2.2 * vn2.2.2.1)))), Ti (w64 ((w64 (vm1.2.2.1 * vn2.2.1)) + (w64 (vm1.2.2.2 * vn2.2.2.2))))]) pl109 bt109 rfl rfl kk) ?_
  refine XR 1 ?_
  refine zJ ?_
  subst hf3 hf4 hf5 hf6
  kernel_rfl
 cases h
 exact zE VT
theorem cf_impl_reduce : CfW Tryz.prog 193 := cfW Tryz.func193
theorem s_impl_reduce {f1 : (Int × Int × Int)} {r : (((Int × Int × Int)) × ((Int × Int × Int × Int)))} (h : r_impl_reduce f1 = some r) : zL Tryz.prog 193 [.ag [Ti f1.1, Ti f1.2.1, Ti f1.2.2]] (.tc (.ag [Ti r.1.1, Ti r.1.2.1, Ti r.1.2.2]) (.tc (.ag [Ti r.2.1, Ti r.2.2.1, Ti r.2.2.2.1, Ti r.2.2.2.2]) .tn)) [] := by
 refine zO (rs := [.w 2 3, .w 3 4]) (vs := [.cell 2 38, .cell 3 109]) Tryz.func193 rfl rfl (.cons ⟨rfl, wd38⟩ (.cons ⟨rfl, wd109⟩ FitsL.nil)) (by decide) 20 rfl ?_
 unfold r_impl_reduce at h
 refine VE ?_
 obtain ⟨y2, hy2, h⟩ := zA h
 refine VS ?_
 refine YK 0 (s_impl_one hy2) cf_impl_one ?_
 refine YF ?_
 refine zH ?_
 obtain ⟨o11, hLo11, h⟩ := zA h
 refine V_toK (mb 20 30) [32, 24, 16, 8] (s1 := ⟨.bot :: .pt 8 0 :: .pt 16 0 :: .pt 24 0 :: .pt 32 0 :: bt 15 [], [(32, .box [Ti o11.1, Ti o11.2.1, Ti o11.2.2.1, Ti o11.2.2.2.1]), (24, .box [Ti 0, Ti 0, Ti 0, Ti 0]), (16, .box [Ti 0, Ti 0, Ti 0]), (8, .box [Ti o11.2.2.2.2.1, Ti o11.2.2.2.2.2.1, Ti o11.2.2.2.2.2.2])]⟩) ?_ ?_
 ·clear h
  refine zK (V_loop (fun n s => ∃ (f3 : Int) (f4 : Int) (f5 : Int) (f6 : Int) (f7 : Int) (f8 : Int) (f9 : Int), s.keep (mb 20 30) [32, 24, 16, 8] = (⟨.bot :: .pt 8 0 :: .pt 16 0 :: .pt 24 0 :: .pt 32 0 :: bt 15 [], [(32, .box [Ti f3, Ti f4, Ti f5, Ti f6]), (24, .box [Ti 0, Ti 0, Ti 0, Ti 0]), (16, .box [Ti 0, Ti 0, Ti 0]), (8, .box [Ti f7, Ti f8, Ti f9])]⟩ : St) ∧ r_impl_reduce_L10 n f3 f4 f5 f6 f7 f8 f9 = some o11) FU ⟨_, _, _, _, _, _, _,  kk, hLo11⟩ ?_)
  clear hLo11
  rintro n s ⟨f3, f4, f5, f6, f7, f8, f9, hs, h⟩
  refine V_keep _ _ hs ?_
  clear hs
  cases n with
  | zero => cases h
  | succ n =>
   rw [r_impl_reduce_L10] at h
   refine zH ?_
   obtain ⟨y12, hy12, h⟩ := zA h
   refine VS ?_
   refine YK 1 (s_impl_Form_isReduced hy12) cf_impl_Form_isReduced ?_
   refine YF ?_
   refine VC h (fun h => ?_) (fun h => ?_)
   ·refine zI ?_
    show V _ _ _ _
    refine zK ?_
    obtain ⟨y14, hy14, h⟩ := zA h
    refine VS ?_
    refine YK 1 (s_impl_Form_step hy14) cf_impl_Form_step ?_
    refine YF ?_
    obtain ⟨y15, hy15, h⟩ := zA h
    refine VS ?_
    refine YK 2 (s_impl_Form_substitute hy15) cf_impl_Form_substitute ?_
    refine YF ?_
    obtain ⟨y16, hy16, h⟩ := zA h
    refine V_region ?_
    refine YK 2 (s_impl_Matrix_times hy16) cf_impl_Matrix_times ?_
    refine YF ?_
    exact ⟨n, Nat.lt_succ_self n, _, _, _, _, _, _, _,  kk, h⟩
   ·refine V_exit ?_
    obtain rfl := zB h
    show St.keep _ _ _ = _
    kernel_rfl
 show V _ _ _ _
 refine VDS [0, 0, 1, 7] 3 [[.z, .b, .z], [.b, .z, .r 16], [.a, .b, .z]] ?_
 refine EF 3 ?_
 cases h
 exact zE VT
theorem cf_impl_reduced : CfW Tryz.prog 112 := cfW Tryz.func112
theorem s_impl_reduced {f1 : (Int × Int × Int)} {r : (Int × Int × Int)} (h : r_impl_reduced f1 = some r) : zL Tryz.prog 112 [.ag [Ti f1.1, Ti f1.2.1, Ti f1.2.2]] (.ag [Ti r.1, Ti r.2.1, Ti r.2.2]) [] := by
 refine zO (rs := [.w 2 3]) (vs := [.cell 2 38]) Tryz.func112 rfl rfl (.cons ⟨rfl, wd38⟩ FitsL.nil) (by decide) 11 rfl ?_
 unfold r_impl_reduced at h
 refine VE ?_
 obtain ⟨y2, hy2, h⟩ := zA h
 refine VS ?_
 refine YK 1 (s_impl_reduce hy2) cf_impl_reduce ?_
 refine YF ?_
 refine VE ?_
 cases h
 exact zE VT
theorem cf_impl_refusal : CfW Tryz.prog 108 := cfW Tryz.func108
theorem s_impl_refusal {l1 : List ((ByteArray × ((Int × Int × Int))))} {c2 : (Int × ByteArray × ByteArray × ByteArray × ((Int × Int × Int)))} {r : Int} (h : r_impl_refusal l1 c2 = some r) : zL Tryz.prog 108 [.c (.sl (l1.map c73)), .ag [Ti c2.1, .v (.string c2.2.1), .v (.string c2.2.2.1), .v (.string c2.2.2.2.1), Ti c2.2.2.2.2.1, Ti c2.2.2.2.2.2.1, Ti c2.2.2.2.2.2.2]] (I r) [] := by
 refine CtW [4] Tryz.func108 rfl rfl 95 ?_
 unfold r_impl_refusal at h
 refine VE ?_
 obtain ⟨y3, hy3, h⟩ := zA h
 refine VS ?_
 refine YK 3 (s_impl_find hy3) cf_impl_find ?_
 refine YF ?_
 obtain ⟨y4, hy4, h⟩ := zA h
 refine VS ?_
 refine YK 3 (s_impl_find hy4) cf_impl_find ?_
 refine YF ?_
 obtain ⟨y5, hy5, h⟩ := zA h
 refine VS ?_
 refine YK 3 (s_impl_find hy5) cf_impl_find ?_
 refine YF ?_
 obtain ⟨puts8, hputs8, h⟩ := zA h
 have hputs8 := zB hputs8
 refine zN (mb 95 4072) [72, 56, 40, 24] (s1 := ⟨bt 3 (.pt 24 0 :: .bot :: .pt 40 0 :: Bo y3.2 :: .pt 56 0 :: Bo y4.2 :: .pt 72 0 :: Bo y5.2 :: Bo puts8 :: bt 83 []), [(72, .box [Ti y5.1.1, Ti y5.1.2.1, Ti y5.1.2.2]), (56, .box [Ti y4.1.1, Ti y4.1.2.1, Ti y4.1.2.2]), (40, .box [Ti y3.1.1, Ti y3.1.2.1, Ti y3.1.2.2]), (24, .box [Ti c2.1, .v (.string c2.2.1), .v (.string c2.2.2.1), .v (.string c2.2.2.2.1), Ti c2.2.2.2.2.1, Ti c2.2.2.2.2.2.1, Ti c2.2.2.2.2.2.2])]⟩) ?_ ?_
 ·refine XR 4 ?_
  refine zD (eqI c2.1 1) (fun hc6 => ?_) (fun hc6 => ?_)
  ·refine XL_skipF _ rfl rfl kk hc6 rfl ?_
   refine XL_skipF _ rfl rfl kk hc6 rfl ?_
   refine XL_skipF _ rfl rfl kk hc6 rfl ?_
   refine XL_cons rfl (X_of_Y0 rfl (Y0_pick1 (b := eqI c2.1 1) (p := true) (q := eqI c2.1 3) rfl kk hc6 kk)) ?_
   refine XR 1 ?_
   refine zD (bif (eqI c2.1 1) then true else (eqI c2.1 3)) (fun hc7 => ?_) (fun hc7 => ?_)
   ·refine XL_skipF _ rfl rfl kk hc7 rfl ?_
    refine XL_skipF _ rfl rfl kk hc7 rfl ?_
    refine XL_skipF _ rfl rfl kk hc7 rfl ?_
    refine XL_cons rfl (X_of_Y0 rfl (Y0_pick1 (b := bif (eqI c2.1 1) then true else (eqI c2.1 3)) (p := true) (q := eqI c2.1 4) rfl kk hc7 kk)) ?_
    refine XR 1 ?_
    refine zJ ?_
    subst hputs8
    kernel_rfl
   ·refine XL_takeC _ rfl rfl kk hc7 (X_of_Y0 rfl (E_field (.pt 24 0) Tryz.underlying40 rfl sz3 rfl kk (by intro hh; cases hh))) ?_
    refine XL_takeC _ rfl rfl kk hc7 (X_of_Y0 rfl (Y0_load1 (c := Ti c2.1) (cs := [.v (.string c2.2.1), .v (.string c2.2.2.1), .v (.string c2.2.2.2.1), Ti c2.2.2.2.2.1, Ti c2.2.2.2.2.2.1, Ti c2.2.2.2.2.2.2]) sc3 rfl kk)) ?_
    refine XL_takeC _ rfl rfl kk hc7 (X_of_Y0 rfl (Y0_eqw (k := .i64) (a := c2.1) (b := 4) rfl kk kk)) ?_
    refine XL_cons rfl (X_of_Y0 rfl (Y0_pick0 (b := bif (eqI c2.1 1) then true else (eqI c2.1 3)) (p := true) (q := eqI c2.1 4) rfl kk hc7 kk)) ?_
    refine XR 1 ?_
    refine zJ ?_
    subst hputs8
    kernel_rfl
  ·refine XL_takeC _ rfl rfl kk hc6 (X_of_Y0 rfl (E_field (.pt 24 0) Tryz.underlying40 rfl sz3 rfl kk (by intro hh; cases hh))) ?_
   refine XL_takeC _ rfl rfl kk hc6 (X_of_Y0 rfl (Y0_load1 (c := Ti c2.1) (cs := [.v (.string c2.2.1), .v (.string c2.2.2.1), .v (.string c2.2.2.2.1), Ti c2.2.2.2.2.1, Ti c2.2.2.2.2.2.1, Ti c2.2.2.2.2.2.2]) sc3 rfl kk)) ?_
   refine XL_takeC _ rfl rfl kk hc6 (X_of_Y0 rfl (Y0_eqw (k := .i64) (a := c2.1) (b := 3) rfl kk kk)) ?_
   refine XL_cons rfl (X_of_Y0 rfl (Y0_pick0 (b := eqI c2.1 1) (p := true) (q := eqI c2.1 3) rfl kk hc6 kk)) ?_
   refine XR 1 ?_
   refine zD (bif (eqI c2.1 1) then true else (eqI c2.1 3)) (fun hc7 => ?_) (fun hc7 => ?_)
   ·refine XL_skipF _ rfl rfl kk hc7 rfl ?_
    refine XL_skipF _ rfl rfl kk hc7 rfl ?_
    refine XL_skipF _ rfl rfl kk hc7 rfl ?_
    refine XL_cons rfl (X_of_Y0 rfl (Y0_pick1 (b := bif (eqI c2.1 1) then true else (eqI c2.1 3)) (p := true) (q := eqI c2.1 4) rfl kk hc7 kk)) ?_
    refine XR 1 ?_
    refine zJ ?_
    subst hputs8
    kernel_rfl
   ·refine XL_takeC _ rfl rfl kk hc7 (X_of_Y0 rfl (E_field (.pt 24 0) Tryz.underlying40 rfl sz3 rfl kk (by intro hh; cases hh))) ?_
    refine XL_takeC _ rfl rfl kk hc7 (X_of_Y0 rfl (Y0_load1 (c := Ti c2.1) (cs := [.v (.string c2.2.1), .v (.string c2.2.2.1), .v (.string c2.2.2.2.1), Ti c2.2.2.2.2.1, Ti c2.2.2.2.2.2.1, Ti c2.2.2.2.2.2.2]) sc3 rfl kk)) ?_
    refine XL_takeC _ rfl rfl kk hc7 (X_of_Y0 rfl (Y0_eqw (k := .i64) (a := c2.1) (b := 4) rfl kk kk)) ?_
    refine XL_cons rfl (X_of_Y0 rfl (Y0_pick0 (b := bif (eqI c2.1 1) then true else (eqI c2.1 3)) (p := true) (q := eqI c2.1 4) rfl kk hc7 kk)) ?_
    refine XR 1 ?_
    refine zJ ?_
    subst hputs8
    kernel_rfl
 refine zH ?_
 refine zK ?_
 refine zN (mb 95 70368744181736) [72, 56, 40, 24] (s1 := ⟨bt 3 (.pt 24 0 :: .bot :: .pt 40 0 :: Bo y3.2 :: .pt 56 0 :: Bo y4.2 :: .pt 72 0 :: Bo y5.2 :: Bo puts8 :: bt 34 (Bo (bif puts8 then y3.2 else false) :: bt 48 [])), [(72, .box [Ti y5.1.1, Ti y5.1.2.1, Ti y5.1.2.2]), (56, .box [Ti y4.1.1, Ti y4.1.2.1, Ti y4.1.2.2]), (40, .box [Ti y3.1.1, Ti y3.1.2.1, Ti y3.1.2.2]), (24, .box [Ti c2.1, .v (.string c2.2.1), .v (.string c2.2.2.1), .v (.string c2.2.2.2.1), Ti c2.2.2.2.2.1, Ti c2.2.2.2.2.2.1, Ti c2.2.2.2.2.2.2])]⟩) ?_ ?_
 ·refine YR 2 ?_
  refine zD puts8 (fun hc9 => ?_) (fun hc9 => ?_)
  ·refine YQ hc9 ?_
   exact YE (by rw [hc9]; kernel_rfl)
  ·refine YQ hc9 ?_
   exact YE (by rw [hc9]; kernel_rfl)
 refine VC h (fun h => ?_) (fun h => ?_)
 ·refine VE ?_
  cases h
  exact zE VT
 ·obtain ⟨j11, hj11, h⟩ := zA h
  refine V_cutK (mb 95 2251799813685928) [72, 56, 40, 24] (s1 := ⟨bt 3 (.pt 24 0 :: .bot :: .pt 40 0 :: .bot :: .pt 56 0 :: .bot :: .pt 72 0 :: bt 41 (Bo j11 :: bt 43 [])), [(72, .box [Ti y5.1.1, Ti y5.1.2.1, Ti y5.1.2.2]), (56, .box [Ti y4.1.1, Ti y4.1.2.1, Ti y4.1.2.2]), (40, .box [Ti y3.1.1, Ti y3.1.2.1, Ti y3.1.2.2]), (24, .box [Ti c2.1, .v (.string c2.2.1), .v (.string c2.2.2.1), .v (.string c2.2.2.2.1), Ti c2.2.2.2.2.1, Ti c2.2.2.2.2.2.1, Ti c2.2.2.2.2.2.2])]⟩) ?_ ?_
  ·clear h
   have h := hj11
   clear hj11
   refine zN (mb 95 2251799813687208) [72, 56, 40, 24] (s1 := ⟨bt 3 (.pt 24 0 :: .bot :: .pt 40 0 :: .bot :: .pt 56 0 :: Bo y4.2 :: .pt 72 0 :: Bo y5.2 :: bt 40 (Bo (bif (!puts8) then (!y3.2) else false) :: bt 43 [])), [(72, .box [Ti y5.1.1, Ti y5.1.2.1, Ti y5.1.2.2]), (56, .box [Ti y4.1.1, Ti y4.1.2.1, Ti y4.1.2.2]), (40, .box [Ti y3.1.1, Ti y3.1.2.1, Ti y3.1.2.2]), (24, .box [Ti c2.1, .v (.string c2.2.1), .v (.string c2.2.2.1), .v (.string c2.2.2.2.1), Ti c2.2.2.2.2.1, Ti c2.2.2.2.2.2.1, Ti c2.2.2.2.2.2.2])]⟩) ?_ ?_
   ·refine YR 3 ?_
    refine zD (!puts8) (fun hc12 => ?_) (fun hc12 => ?_)
    ·refine YQ hc12 ?_
     exact YE (by rw [hc12]; kernel_rfl)
    ·refine YQ hc12 ?_
     exact YE (by rw [hc12]; kernel_rfl)
   refine VC h (fun h => ?_) (fun h => ?_)
   ·refine zI ?_
    obtain rfl := zB h
    show St.keep _ _ _ = _
    kernel_rfl
   ·obtain ⟨t15, ht15, h⟩ := zA h
    have ht15 := zB ht15
    refine zN (mb 95 2251799813686952) [72, 56, 40, 24] (s1 := ⟨bt 3 (.pt 24 0 :: .bot :: .pt 40 0 :: .bot :: .pt 56 0 :: .bot :: .pt 72 0 :: Bo y5.2 :: bt 40 (Bo t15 :: bt 43 [])), [(72, .box [Ti y5.1.1, Ti y5.1.2.1, Ti y5.1.2.2]), (56, .box [Ti y4.1.1, Ti y4.1.2.1, Ti y4.1.2.2]), (40, .box [Ti y3.1.1, Ti y3.1.2.1, Ti y3.1.2.2]), (24, .box [Ti c2.1, .v (.string c2.2.1), .v (.string c2.2.2.1), .v (.string c2.2.2.2.1), Ti c2.2.2.2.2.1, Ti c2.2.2.2.2.2.1, Ti c2.2.2.2.2.2.2])]⟩) ?_ ?_
    ·refine YR 4 ?_
     refine zD (!(c2.2.2.1.toList == ((⟨#[]⟩ : ByteArray)).toList)) (fun hc14 => ?_) (fun hc14 => ?_)
     ·refine YQ hc14 ?_
      exact YE (by rw [← ht15]; (try rw [hc14]); kernel_rfl)
     ·refine YQ hc14 ?_
      exact YE (by rw [← ht15]; (try rw [hc14]); kernel_rfl)
    refine VC h (fun h => ?_) (fun h => ?_)
    ·refine zI ?_
     obtain rfl := zB h
     show St.keep _ _ _ = _
     kernel_rfl
    ·obtain ⟨t18, ht18, h⟩ := zA h
     have ht18 := zB ht18
     refine V_reg (mb 95 2251799813685928) [72, 56, 40, 24] (s1 := ⟨bt 3 (.pt 24 0 :: .bot :: .pt 40 0 :: .bot :: .pt 56 0 :: .bot :: .pt 72 0 :: bt 41 (Bo t18 :: bt 43 [])), [(72, .box [Ti y5.1.1, Ti y5.1.2.1, Ti y5.1.2.2]), (56, .box [Ti y4.1.1, Ti y4.1.2.1, Ti y4.1.2.2]), (40, .box [Ti y3.1.1, Ti y3.1.2.1, Ti y3.1.2.2]), (24, .box [Ti c2.1, .v (.string c2.2.1), .v (.string c2.2.2.1), .v (.string c2.2.2.2.1), Ti c2.2.2.2.2.1, Ti c2.2.2.2.2.2.1, Ti c2.2.2.2.2.2.2])]⟩) ?_ ?_
     ·refine YR 4 ?_
      refine zD (!(c2.2.2.2.1.toList == ((⟨#[]⟩ : ByteArray)).toList)) (fun hc17 => ?_) (fun hc17 => ?_)
      ·refine YQ hc17 ?_
       exact YE (by rw [← ht18]; (try rw [hc17]); kernel_rfl)
      ·refine YQ hc17 ?_
       exact YE (by rw [← ht18]; (try rw [hc17]); kernel_rfl)
     obtain rfl := zB h
     show St.keep _ _ _ = _
     kernel_rfl
  refine VC h (fun h => ?_) (fun h => ?_)
  ·refine VE ?_
   cases h
   exact zE VT
  ·obtain ⟨b23, hb23, h⟩ := zA h
   refine V_sdreg [0, 1, 3, 7, 15, 31, 15, 127, 255, 511, 1023] 11 (cdm 11 [0, 1, 5, 21, 8277, 8533, 2645, 5461, 21845, 87381, 349525]) (mb 95 4722366482869645213736) [40, 24] (s1 := ⟨bt 3 (.pt 24 0 :: .bot :: .pt 40 0 :: bt 66 (Bo b23 :: bt 22 [])), [(40, .box [Ti y3.1.1, Ti y3.1.2.1, Ti y3.1.2.2]), (24, .box [Ti c2.1, .v (.string c2.2.1), .v (.string c2.2.2.1), .v (.string c2.2.2.2.1), Ti c2.2.2.2.2.1, Ti c2.2.2.2.2.2.1, Ti c2.2.2.2.2.2.2])]⟩) kk kk ?_ ?_
   ·refine ER 4 ?_
    refine DL_split (eqI c2.1 3) (fun hc20 => ?_) (fun hc20 => ?_)
    ·have hb23 := of_true hb23 hc20
     obtain ⟨y21, hy21, hb23⟩ := zA hb23
     obtain ⟨y22, hy22, hb23⟩ := zA hb23
     have hb23 := zB hb23
     refine EQ hc20 ?_
     refine EK 1 (s_impl_Form_disc hy21) cf_impl_Form_disc ?_
     refine EK 1 (s_impl_Form_disc hy22) cf_impl_Form_disc ?_
     refine EA 3 ?_
     exact YE (by rw [← hb23]; (try rw [hc20]); kernel_rfl)
    ·have hb23 := zB (of_false hb23 hc20)
     refine EQ hc20 ?_
     refine EA 7 ?_
     exact YE (by rw [← hb23]; (try rw [hc20]); kernel_rfl)
   refine VC h (fun h => ?_) (fun h => ?_)
   ·refine VE ?_
    cases h
    exact zE VT
   ·obtain ⟨b28, hb28, h⟩ := zA h
    refine V_sdreg [0, 1, 3, 7, 15, 31, 15, 79, 255, 511, 1023, 2047] 12 (cdm 12 [0, 1, 5, 21, 41045, 41301, 2645, 6741, 21845, 87381, 349525, 1398101]) (mb 95 9671406556917033397649408) [] (s1 := ⟨bt 83 (Bo b28 :: bt 11 []), []⟩) kk kk ?_ ?_
    ·refine ER 4 ?_
     refine DL_split (eqI c2.1 5) (fun hc25 => ?_) (fun hc25 => ?_)
     ·have hb28 := of_true hb28 hc25
      obtain ⟨y26, hy26, hb28⟩ := zA hb28
      obtain ⟨y27, hy27, hb28⟩ := zA hb28
      have hb28 := zB hb28
      refine EQ hc25 ?_
      refine EK 1 (s_impl_reduced hy26) cf_impl_reduced ?_
      refine EK 2 (s_impl_reduced hy27) cf_impl_reduced ?_
      refine E0 9 rfl rfl (Y0_neg3 (a0 := y26.1) (b0 := y27.1) (a1 := y26.2.1) (b1 := y27.2.1) (a2 := y26.2.2) (b2 := y27.2.2) neg38 rfl kk kk) ?_
      refine EA 2 ?_
      exact YE (by rw [← hb28]; (try rw [hc25]); kernel_rfl)
     ·have hb28 := zB (of_false hb28 hc25)
      refine EQ hc25 ?_
      refine EA 8 ?_
      exact YE (by rw [← hb28]; (try rw [hc25]); kernel_rfl)
    refine VC h (fun h => ?_) (fun h => ?_)
    ·refine VE ?_
     cases h
     exact zE VT
    ·refine zI ?_
     show V _ _ _ _
     refine VE ?_
     cases h
     exact zE VT
theorem cf_impl_withoutEntry : CfW Tryz.prog 110 := cfW Tryz.func110
theorem s_impl_withoutEntry {l1 : List ((ByteArray × ((Int × Int × Int))))} {name2 : ByteArray} {r : List ((ByteArray × ((Int × Int × Int))))} (h : r_impl_withoutEntry l1 name2 = some r) : zL Tryz.prog 110 [.c (.sl (l1.map c73)), .c (.v (.string name2))] (.ow 0) [(0, .arr 73 4 (r.map c73))] := by
 refine CtW [4] Tryz.func110 rfl rfl 25 ?_
 unfold r_impl_withoutEntry at h
 refine VS ?_
 refine L1 rfl rfl (Y1_nil (e := 73) 4 (by decide) (.inl rfl)) ?_
 refine YF ?_
 refine VS ?_
 refine L1 rfl rfl (Y1_bslice0 Tryz.underlying43 sz73 (by decide) rfl rfl) ?_
 refine YF ?_
 refine zH ?_
 refine VS ?_
 refine YR 1 ?_
 refine L0 rfl rfl (Y0_lenM (c := c73) (xs := l1) Tryz.underlying43 rfl kk) ?_
 refine YF ?_
 obtain ⟨o6, hLo6, h⟩ := zA h
 refine V_toK (mb 25 32) [64] (s1 := ⟨bt 5 (.ow 64 :: bt 19 []), [(64, .arr 73 4 (o6.map c73))]⟩) ?_ ?_
 ·clear h
  refine zK (V_loop (fun n s => ∃ (t3 : Int) (l4 : List ((ByteArray × ((Int × Int × Int))))), s.keep (mb 25 3618) [64] = (⟨.bot :: .c (.v (.string name2)) :: bt 3 (.ow 64 :: bt 3 (.c (.sl (l1.map c73)) :: I ((l1.length : Int)) :: I t3 :: bt 13 [])), [(64, .arr 73 4 (l4.map c73))]⟩ : St) ∧ r_impl_withoutEntry_L5 l1 name2 n t3 l4 = some o6) FU ⟨_, _,  kk, hLo6⟩ ?_)
  clear hLo6
  rintro n s ⟨t3, l4, hs, h⟩
  refine V_keep _ _ hs ?_
  clear hs
  cases n with
  | zero => cases h
  | succ n =>
   rw [r_impl_withoutEntry_L5] at h
   refine VE ?_
   refine zH ?_
   refine VC h (fun h => ?_) (fun h => ?_)
   ·refine zI ?_
    show V _ _ _ _
    refine zH ?_
    refine zK ?_
    obtain ⟨e8, he8, h⟩ := zA h
    refine VS ?_
    refine L0 rfl rfl (Y0_idxM (c := c73) (xs := l1) (v := e8) (n := t3) Tryz.underlying43 sz73 rfl kk kk he8) ?_
    refine YF ?_
    refine VS ?_
    refine YF ?_
    refine VC h (fun h => ?_) (fun h => ?_)
    ·obtain ⟨u10, hu10, h⟩ := zA h
     refine V_region ?_
     refine YR 2 ?_
     refine L1 rfl rfl (Y1_bslice (z := zv73) (els := [e8].map c73) Tryz.underlying43 iz73 rfl (by decide) rfl kk rfl (by simp [c73]) (by decide) (by decide)) ?_
     refine XL_cons rfl (X_appendM (c := c73) (xs := l4) (ys := [e8]) (id := 64) (z := zv73) rfl rfl Tryz.underlying43 izb73 rfl kk kk kk (fun _ => rfl) (by simp) (room_some hu10) (by decide)) ?_
     refine YF ?_
     show V _ _ _ _
     obtain ⟨t11, ht11, h⟩ := zQ h
     refine V_reg (mb 25 3618) [64] (s1 := ⟨.bot :: .c (.v (.string name2)) :: bt 3 (.ow 64 :: bt 3 (.c (.sl (l1.map c73)) :: I ((l1.length : Int)) :: I t11 :: bt 13 [])), [(64, .arr 73 4 ((l4 ++ ([e8])).map c73))]⟩) ?_ ?_
     ·refine XR 2 ?_
      refine zJ ?_
      subst ht11
      kernel_rfl
     exact ⟨n, Nat.lt_succ_self n, _, _,  kk, h⟩
    ·refine zI ?_
     show V _ _ _ _
     obtain ⟨t12, ht12, h⟩ := zQ h
     refine V_reg (mb 25 3618) [64] (s1 := ⟨.bot :: .c (.v (.string name2)) :: bt 3 (.ow 64 :: bt 3 (.c (.sl (l1.map c73)) :: I ((l1.length : Int)) :: I t12 :: bt 13 [])), [(64, .arr 73 4 (l4.map c73))]⟩) ?_ ?_
     ·refine XR 2 ?_
      refine zJ ?_
      subst ht12
      kernel_rfl
     exact ⟨n, Nat.lt_succ_self n, _, _,  kk, h⟩
   ·refine V_exit ?_
    obtain rfl := zB h
    show St.keep _ _ _ = _
    kernel_rfl
 show V _ _ _ _
 refine VE ?_
 cases h
 exact zE VT
theorem cf_impl_firstPoint : CfW Tryz.prog 244 := cfW Tryz.func244
theorem s_impl_firstPoint {g1 : (Int × Int × Int)} {a2 : Int} {r : (Int × Int)} (h : r_impl_firstPoint g1 a2 = some r) : zL Tryz.prog 244 [.ag [Ti g1.1, Ti g1.2.1, Ti g1.2.2], I a2] (.tc (I r.1) (.tc (I r.2) .tn)) [] := by
 refine CtW [4, 5] Tryz.func244 rfl rfl 43 ?_
 unfold r_impl_firstPoint at h
 refine VE ?_
 refine VE ?_
 obtain ⟨qo5, hLo5, hko5⟩ := zA h
 refine V_toS (q := qo5) (S := fun _ => (⟨[], []⟩ : St)) [] [] ?_ ?_
 ·refine zK (V_loop (fun n s => ∃ (size3 : Int), s.keep (mb 43 70) [16] = (⟨.bot :: I a2 :: .pt 16 0 :: bt 3 (I size3 :: bt 36 []), [(16, .box [Ti g1.1, Ti g1.2.1, Ti g1.2.2])]⟩ : St) ∧ r_impl_firstPoint_L4 a2 g1 n size3 = some qo5) FU ⟨_,  kk, hLo5⟩ ?_)
  clear hLo5
  rintro n s ⟨size3, hs, h⟩
  refine V_keep _ _ hs ?_
  clear hs
  cases n with
  | zero => cases h
  | succ n =>
   rw [r_impl_firstPoint_L4] at h
   refine zH ?_
   refine zK ?_
   refine VE ?_
   obtain ⟨qo8, hLo8, hko8⟩ := zA h
   refine V_toS (q := qo8) (S := fun o8 => ⟨.bot :: I a2 :: .pt 16 0 :: bt 3 (I size3 :: bt 36 []), [(16, .box [Ti g1.1, Ti g1.2.1, Ti g1.2.2])]⟩) (mb 43 70) [16] ?_ ?_
   ·refine zK (V_loop (fun n s => ∃ (x6 : Int), s.keep (mb 43 198) [16] = (⟨.bot :: I a2 :: .pt 16 0 :: bt 3 (I size3 :: I x6 :: bt 35 []), [(16, .box [Ti g1.1, Ti g1.2.1, Ti g1.2.2])]⟩ : St) ∧ r_impl_firstPoint_L7 a2 g1 size3 n x6 = some qo8) FU ⟨_,  kk, hLo8⟩ ?_)
    clear hLo8
    rintro n s ⟨x6, hs, h⟩
    refine V_keep _ _ hs ?_
    clear hs
    cases n with
    | zero => cases h
    | succ n =>
     rw [r_impl_firstPoint_L7] at h
     refine zH ?_
     refine VE ?_
     refine VC h (fun h => ?_) (fun h => ?_)
     ·refine zI ?_
      show V _ _ _ _
      refine zH ?_
      refine zK ?_
      refine VE ?_
      obtain ⟨qo12, hLo12, hko12⟩ := zA h
      refine V_toS (q := qo12) (S := fun o12 => ⟨.bot :: I a2 :: .pt 16 0 :: bt 3 (I size3 :: I x6 :: bt 35 []), [(16, .box [Ti g1.1, Ti g1.2.1, Ti g1.2.2])]⟩) (mb 43 198) [16] ?_ ?_
      ·refine zK (V_loop (fun n s => ∃ (y10 : Int), s.keep (mb 43 454) [16] = (⟨.bot :: I a2 :: .pt 16 0 :: bt 3 (I size3 :: I x6 :: I y10 :: bt 34 []), [(16, .box [Ti g1.1, Ti g1.2.1, Ti g1.2.2])]⟩ : St) ∧ r_impl_firstPoint_L11 a2 g1 size3 x6 n y10 = some qo12) FU ⟨_,  kk, hLo12⟩ ?_)
       clear hLo12
       rintro n s ⟨y10, hs, h⟩
       refine V_keep _ _ hs ?_
       clear hs
       cases n with
       | zero => cases h
       | succ n =>
        rw [r_impl_firstPoint_L11] at h
        refine zH ?_
        refine VE ?_
        refine VC h (fun h => ?_) (fun h => ?_)
        ·refine zI ?_
         show V _ _ _ _
         refine zH ?_
         refine zK ?_
         obtain ⟨b16, hb16, h⟩ := zA h
         obtain ⟨b20, hb20, h⟩ := zA h
         refine zN (mb 43 1099511628230) [16] (s1 := ⟨.bot :: I a2 :: .pt 16 0 :: bt 3 (I size3 :: I x6 :: I y10 :: bt 31 (Bo b20 :: .bot :: .bot :: [])), [(16, .box [Ti g1.1, Ti g1.2.1, Ti g1.2.2])]⟩) ?_ ?_
         ·refine YR 2 ?_
          refine L0 rfl rfl (Y0_max (a := x6) (b := y10) rfl kk kk) ?_
          refine YR 3 ?_
          refine zD (eqI (mxI x6 y10) size3) (fun hc14 => ?_) (fun hc14 => ?_)
          ·have hb16 := of_true hb16 hc14
           obtain ⟨y15, hy15, hb16⟩ := zA hb16
           have hb16 := zB hb16
           refine YQ hc14 ?_
           refine YK 2 (s_impl_gcd hy15) cf_impl_gcd ?_
           refine YR 3 ?_
           refine zD b16 (fun hc17 => ?_) (fun hc17 => ?_)
           ·have hb20 := of_true hb20 hc17
            obtain ⟨y18, hy18, hb20⟩ := zA hb20
            obtain ⟨y19, hy19, hb20⟩ := zA hb20
            have hb20 := zB hb20
            refine YQ hc17 ?_ (by rw [← hb16]; (try rw [← hb20]); (try rw [hc14]); kernel_rfl)
            refine YK 3 (s_impl_Form_at hy18) cf_impl_Form_at ?_
            refine YK 1 (s_impl_gcd hy19) cf_impl_gcd ?_
            exact YE (by rw [← hb20]; (try rw [hc14]); (try rw [hc17]); kernel_rfl)
           ·have hb20 := zB (of_false hb20 hc17)
            refine YQ hc17 ?_ (by rw [← hb16]; (try rw [← hb20]); (try rw [hc14]); kernel_rfl)
            exact YE (by rw [← hb20]; (try rw [hc14]); (try rw [hc17]); kernel_rfl)
          ·have hb16 := zB (of_false hb16 hc14)
           refine YQ hc14 ?_
           refine YR 6 ?_
           subst hb16
           have hc17 : false = false := rfl
           have hb20 := zB (of_false hb20 hc17)
           exact YE (by rw [← hb20]; (try rw [hc14]); kernel_rfl)
         refine VC h (fun h => ?_) (fun h => ?_)
         ·refine VE ?_
          refine zE ?_
          obtain rfl := zB h
          have h := hko12
          obtain rfl := zB h
          have h := hko8
          obtain rfl := zB h
          have h := hko5
          obtain rfl := zB h
          exact VT
         ·refine zI ?_
          show V _ _ _ _
          obtain ⟨y22, hy22, h⟩ := zQ h
          refine V_reg (mb 43 454) [16] (s1 := ⟨.bot :: I a2 :: .pt 16 0 :: bt 3 (I size3 :: I x6 :: I y22 :: bt 34 []), [(16, .box [Ti g1.1, Ti g1.2.1, Ti g1.2.2])]⟩) ?_ ?_
          ·refine XR 3 ?_
           refine zJ ?_
           subst hy22
           kernel_rfl
          exact ⟨n, Nat.lt_succ_self n, _,  kk, h⟩
        ·refine V_exit ?_
         obtain rfl := zB h
         exact ⟨_, rfl, kk⟩
      rintro o12 rfl
      have h := hko12
      clear hko12
      show V _ _ _ _
      obtain ⟨x23, hx23, h⟩ := zQ h
      refine V_reg (mb 43 198) [16] (s1 := ⟨.bot :: I a2 :: .pt 16 0 :: bt 3 (I size3 :: I x23 :: bt 35 []), [(16, .box [Ti g1.1, Ti g1.2.1, Ti g1.2.2])]⟩) ?_ ?_
      ·refine XR 3 ?_
       refine zJ ?_
       subst hx23
       kernel_rfl
      exact ⟨n, Nat.lt_succ_self n, _,  kk, h⟩
     ·refine V_exit ?_
      obtain rfl := zB h
      exact ⟨_, rfl, kk⟩
   rintro o8 rfl
   have h := hko8
   clear hko8
   show V _ _ _ _
   obtain ⟨size24, hsize24, h⟩ := zQ h
   refine V_reg (mb 43 70) [16] (s1 := ⟨.bot :: I a2 :: .pt 16 0 :: bt 3 (I size24 :: bt 36 []), [(16, .box [Ti g1.1, Ti g1.2.1, Ti g1.2.2])]⟩) ?_ ?_
   ·refine XR 3 ?_
    refine zJ ?_
    subst hsize24
    kernel_rfl
   exact ⟨n, Nat.lt_succ_self n, _,  kk, h⟩
 rintro o5 rfl
 cases hko5
theorem cf_impl_inverse : CfW Tryz.prog 280 := cfW Tryz.func280
theorem s_impl_inverse {a1 : Int} {vm2 : Int} {r : Int} (h : r_impl_inverse a1 vm2 = some r) : zL Tryz.prog 280 [I a1, I vm2] (I r) [] := by
 refine CtW [4] Tryz.func280 rfl rfl 34 ?_
 unfold r_impl_inverse at h
 refine VE ?_
 refine VE ?_
 refine zH ?_
 obtain ⟨y3, hy3, h⟩ := zA h
 refine VS ?_
 refine YK 2 (s_impl_mod hy3) cf_impl_mod ?_
 refine YF ?_
 obtain ⟨o9, hLo9, h⟩ := zA h
 refine V_toK (mb 34 34) [] (s1 := ⟨.bot :: I vm2 :: bt 3 (I o9 :: bt 28 []), []⟩) ?_ ?_
 ·clear h
  refine zK (V_loop (fun n s => ∃ (x4 : Int) (y5 : Int) (vr6 : Int) (vs7 : Int), s.keep (mb 34 482) [] = (⟨.bot :: I vm2 :: bt 3 (I x4 :: I y5 :: I vr6 :: I vs7 :: bt 25 []), []⟩ : St) ∧ r_impl_inverse_L8 vm2 n x4 y5 vr6 vs7 = some o9) FU ⟨_, _, _, _,  kk, hLo9⟩ ?_)
  clear hLo9
  rintro n s ⟨x4, y5, vr6, vs7, hs, h⟩
  refine V_keep _ _ hs ?_
  clear hs
  cases n with
  | zero => cases h
  | succ n =>
   rw [r_impl_inverse_L8] at h
   refine zH ?_
   refine VE ?_
   refine VC h (fun h => ?_) (fun h => ?_)
   ·refine zI ?_
    show V _ _ _ _
    refine zK ?_
    obtain ⟨z11, hz11, h⟩ := zA h
    obtain ⟨q12, hq12, h⟩ := zQ h
    refine zN (mb 34 994) [] (s1 := ⟨.bot :: I vm2 :: bt 3 (I x4 :: I y5 :: I vr6 :: I vs7 :: I q12 :: bt 24 []), []⟩) ?_ ?_
    ·refine XR 2 ?_
     refine L0 rfl rfl (Y0_quo64 (a := vr6) (b := vs7) rfl kk kk (nz_some hz11)) ?_
     refine XR 1 ?_
     refine zJ ?_
     subst hq12
     kernel_rfl
    obtain ⟨vs13, hvs13, h⟩ := zQ h
    refine zN (mb 34 994) [] (s1 := ⟨.bot :: I vm2 :: bt 3 (I x4 :: I y5 :: I vs7 :: I vs13 :: I q12 :: bt 24 []), []⟩) ?_ ?_
    ·refine XR 8 ?_
     refine zJ ?_
     subst hvs13
     kernel_rfl
    obtain ⟨y14, hy14, h⟩ := zQ h
    refine V_reg (mb 34 482) [] (s1 := ⟨.bot :: I vm2 :: bt 3 (I y5 :: I y14 :: I vs7 :: I vs13 :: bt 25 []), []⟩) ?_ ?_
    ·refine XR 8 ?_
     refine zJ ?_
     subst hy14
     kernel_rfl
    exact ⟨n, Nat.lt_succ_self n, _, _, _, _,  kk, h⟩
   ·refine V_exit ?_
    obtain rfl := zB h
    show St.keep _ _ _ = _
    kernel_rfl
 show V _ _ _ _
 obtain ⟨y15, hy15, h⟩ := zA h
 refine VS ?_
 refine YK 2 (s_impl_mod hy15) cf_impl_mod ?_
 refine YF ?_
 cases h
 exact zE VT
end Go.Proofs.YtfmjfofocklgpaaGreatDoor
namespace Go.Proofs.YtfmjfofocklgpaaGreatDoor
open Go.RowKit
set_option linter.unusedVariables false
set_option linter.unusedSimpArgs false
set_option maxRecDepth 100000
set_option maxHeartbeats 400000
theorem cf_impl_Form_complete : CfW Tryz.prog 245 := cfW Tryz.func245
theorem s_impl_Form_complete {f1 : (Int × Int × Int)} {x2 : Int} {y3 : Int} {r : (((Int × Int × Int)) × ((Int × Int × Int × Int)))} (h : r_impl_Form_complete f1 x2 y3 = some r) : zL Tryz.prog 245 [.ag [Ti f1.1, Ti f1.2.1, Ti f1.2.2], I x2, I y3] (.tc (.ag [Ti r.1.1, Ti r.1.2.1, Ti r.1.2.2]) (.tc (.ag [Ti r.2.1, Ti r.2.2.1, Ti r.2.2.2.1, Ti r.2.2.2.2]) .tn)) [] := by
 refine zO (rs := [.w 6 3, .w 7 4]) (vs := [.cell 6 38, .cell 7 109]) Tryz.func245 rfl rfl (.cons ⟨rfl, wd38⟩ (.cons ⟨rfl, wd109⟩ FitsL.nil)) (by decide) 59 rfl ?_
 unfold r_impl_Form_complete at h
 refine VE ?_
 refine VS ?_
 refine YR 2 ?_
 refine L0 rfl rfl (zP (cs := [Ti x2, Ti 0, Ti y3, Ti 0]) pl109 bt109 rfl rfl kk) ?_
 refine YF ?_
 obtain ⟨j4, hj4, h⟩ := zA h
 refine V_cutK (mb 59 462) [64, 56, 48, 24] (s1 := ⟨.bot :: I x2 :: I y3 :: .pt 24 0 :: .bot :: .bot :: .pt 48 0 :: .pt 56 0 :: .pt 64 0 :: bt 50 [], [(64, .box [Ti x2, Ti j4.1, Ti y3, Ti j4.2]), (56, .box [Ti 0, Ti 0, Ti 0, Ti 0]), (48, .box [Ti 0, Ti 0, Ti 0]), (24, .box [Ti f1.1, Ti f1.2.1, Ti f1.2.2])]⟩) ?_ ?_
 ·clear h
  have h := hj4
  clear hj4
  refine VE ?_
  refine VC h (fun h => ?_) (fun h => ?_)
  ·refine V_region ?_
   refine YF ?_
   obtain rfl := zB h
   show St.keep _ _ _ = _
   kernel_rfl
  ·obtain ⟨y6, hy6, h⟩ := zA h
   obtain ⟨y7, hy7, h⟩ := zA h
   refine VS ?_
   refine YK 2 (s_impl_abs hy6) cf_impl_abs ?_
   refine YK 0 (s_impl_inverse hy7) cf_impl_inverse ?_
   refine YF ?_
   obtain ⟨z8, hz8, h⟩ := zA h
   obtain ⟨f9, hf9, h⟩ := zQ h
   refine V_reg (mb 59 462) [64, 56, 48, 24] (s1 := ⟨.bot :: I x2 :: I y3 :: .pt 24 0 :: .bot :: .bot :: .pt 48 0 :: .pt 56 0 :: .pt 64 0 :: bt 50 [], [(64, .box [Ti x2, Ti f9, Ti y3, Ti y7]), (56, .box [Ti 0, Ti 0, Ti 0, Ti 0]), (48, .box [Ti 0, Ti 0, Ti 0]), (24, .box [Ti f1.1, Ti f1.2.1, Ti f1.2.2])]⟩) ?_ ?_
   ·refine XR 6 ?_
    refine L0 rfl rfl (Y0_quo64 (a := w64 ((w64 (x2 * y7)) - 1)) (b := y3) rfl kk kk (nz_some hz8)) ?_
    refine XR 2 ?_
    refine zJ ?_
    subst hf9
    kernel_rfl
   obtain rfl := zB h
   show St.keep _ _ _ = _
   kernel_rfl
 obtain ⟨y10, hy10, h⟩ := zA h
 refine VS ?_
 refine YK 2 (s_impl_Form_substitute hy10) cf_impl_Form_substitute ?_
 refine YF ?_
 obtain ⟨y11, hy11, h⟩ := zA h
 obtain ⟨t12, ht12, h⟩ := zQ h
 refine zN (mb 59 1486) [64, 56, 48, 24] (s1 := ⟨.bot :: I x2 :: I y3 :: .pt 24 0 :: .bot :: .bot :: .pt 48 0 :: .pt 56 0 :: .pt 64 0 :: .bot :: I t12 :: bt 48 [], [(64, .box [Ti x2, Ti j4.1, Ti y3, Ti j4.2]), (56, .box [Ti 0, Ti 0, Ti 0, Ti 0]), (48, .box [Ti 0, Ti 0, Ti 0]), (24, .box [Ti f1.1, Ti f1.2.1, Ti f1.2.2])]⟩) ?_ ?_
 ·refine XR 5 ?_
  refine XC (s_impl_floorDiv hy11) cf_impl_floorDiv rfl rfl rfl ?_
  refine XR 2 ?_
  refine zJ ?_
  subst ht12
  kernel_rfl
 obtain ⟨f13, hf13, h⟩ := zQ h
 refine zN (mb 59 1484) [64, 56, 48, 24] (s1 := ⟨.bot :: .bot :: I y3 :: .pt 24 0 :: .bot :: .bot :: .pt 48 0 :: .pt 56 0 :: .pt 64 0 :: .bot :: I t12 :: bt 48 [], [(64, .box [Ti x2, Ti f13, Ti y3, Ti j4.2]), (56, .box [Ti 0, Ti 0, Ti 0, Ti 0]), (48, .box [Ti 0, Ti 0, Ti 0]), (24, .box [Ti f1.1, Ti f1.2.1, Ti f1.2.2])]⟩) ?_ ?_
 ·refine XR 8 ?_
  refine zJ ?_
  subst hf13
  kernel_rfl
 obtain ⟨f14, hf14, h⟩ := zQ h
 refine zN (mb 59 456) [64, 56, 48, 24] (s1 := ⟨bt 3 (.pt 24 0 :: .bot :: .bot :: .pt 48 0 :: .pt 56 0 :: .pt 64 0 :: bt 50 []), [(64, .box [Ti x2, Ti f13, Ti y3, Ti f14]), (56, .box [Ti 0, Ti 0, Ti 0, Ti 0]), (48, .box [Ti 0, Ti 0, Ti 0]), (24, .box [Ti f1.1, Ti f1.2.1, Ti f1.2.2])]⟩) ?_ ?_
 ·refine XR 8 ?_
  refine zJ ?_
  subst hf14
  kernel_rfl
 obtain ⟨y15, hy15, h⟩ := zA h
 refine VDS [0, 0, 3, 0, 7, 31] 5 [[.z, .b, .z, .b, .z], [.b, .z, .z, .b, .z], [.a, .a, .z, .b, .z], [.b, .b, .b, .z, .r 48], [.a, .a, .a, .b, .z]] ?_
 refine EK 2 (s_impl_Form_substitute hy15) cf_impl_Form_substitute ?_
 refine EF 2 ?_
 cases h
 exact zE VT
theorem cf_impl_unite : CfW Tryz.prog 191 := cfW Tryz.func191
theorem s_impl_unite {f1 : (Int × Int × Int)} {g2 : (Int × Int × Int)} {r : (Int × Int × Int × Int × ((Int × Int × Int × Int)) × ((Int × Int × Int × Int)))} (h : r_impl_unite f1 g2 = some r) : zL Tryz.prog 191 [.ag [Ti f1.1, Ti f1.2.1, Ti f1.2.2], .ag [Ti g2.1, Ti g2.2.1, Ti g2.2.2]] (.ag [Ti r.1, Ti r.2.1, Ti r.2.2.1, Ti r.2.2.2.1, Ti r.2.2.2.2.1.1, Ti r.2.2.2.2.1.2.1, Ti r.2.2.2.2.1.2.2.1, Ti r.2.2.2.2.1.2.2.2, Ti r.2.2.2.2.2.1, Ti r.2.2.2.2.2.2.1, Ti r.2.2.2.2.2.2.2.1, Ti r.2.2.2.2.2.2.2.2]) [] := by
 refine zO (rs := [.w 4 12]) (vs := [.cell 4 178]) Tryz.func191 rfl rfl (.cons ⟨rfl, wd178⟩ FitsL.nil) (by decide) 103 rfl ?_
 unfold r_impl_unite at h
 refine VE ?_
 obtain ⟨y3, hy3, h⟩ := zA h
 refine VS ?_
 refine YK 3 (s_impl_firstPoint hy3) cf_impl_firstPoint ?_
 refine YF ?_
 obtain ⟨y4, hy4, h⟩ := zA h
 refine VS ?_
 refine YK 3 (s_impl_Form_complete hy4) cf_impl_Form_complete ?_
 refine YF ?_
 obtain ⟨y5, hy5, h⟩ := zA h
 refine VDS [0, 1, 0, 4, 0, 16, 0, 64, 192, 496, 1023, 0, 4095] 12 (cdm 12 [9087648, 9087649, 9087498, 9087514, 8560810, 8561066, 8391338, 8395434, 8411818, 8476074, 8738133, 2796202]) ?_
 refine EK 9 (s_impl_mod hy5) cf_impl_mod ?_
 refine E0 10 rfl rfl (zP (cs := [Ti f1.1, Ti y4.1.1, Ti y5, Ti 0, Ti 0, Ti 0, Ti 0, Ti 0, Ti 0, Ti 0, Ti 0, Ti 0]) pl178 bt178 rfl rfl kk) ?_
 refine EF 1 ?_
 refine zH ?_
 obtain ⟨o8, hLo8, h⟩ := zA h
 refine V_toK (mb 103 916) [72, 64, 56, 32, 16] (s1 := ⟨.bot :: .bot :: .pt 16 0 :: .bot :: .pt 32 0 :: .bot :: .bot :: .pt 56 0 :: .pt 64 0 :: .pt 72 0 :: bt 93 [], [(72, .box [Ti f1.1, Ti y4.1.1, Ti o8, Ti 0, Ti 0, Ti 0, Ti 0, Ti 0, Ti 0, Ti 0, Ti 0, Ti 0]), (64, .box [Ti y4.2.1, Ti y4.2.2.1, Ti y4.2.2.2.1, Ti y4.2.2.2.2]), (56, .box [Ti y4.1.1, Ti y4.1.2.1, Ti y4.1.2.2]), (32, .box [Ti 0, Ti 0, Ti 0, Ti 0, Ti 0, Ti 0, Ti 0, Ti 0, Ti 0, Ti 0, Ti 0, Ti 0]), (16, .box [Ti f1.1, Ti f1.2.1, Ti f1.2.2])]⟩) ?_ ?_
 ·clear h
  refine zK (V_loop (fun n s => ∃ (f6 : Int), s.keep (mb 103 916) [72, 64, 56, 32, 16] = (⟨.bot :: .bot :: .pt 16 0 :: .bot :: .pt 32 0 :: .bot :: .bot :: .pt 56 0 :: .pt 64 0 :: .pt 72 0 :: bt 93 [], [(72, .box [Ti f1.1, Ti y4.1.1, Ti f6, Ti 0, Ti 0, Ti 0, Ti 0, Ti 0, Ti 0, Ti 0, Ti 0, Ti 0]), (64, .box [Ti y4.2.1, Ti y4.2.2.1, Ti y4.2.2.2.1, Ti y4.2.2.2.2]), (56, .box [Ti y4.1.1, Ti y4.1.2.1, Ti y4.1.2.2]), (32, .box [Ti 0, Ti 0, Ti 0, Ti 0, Ti 0, Ti 0, Ti 0, Ti 0, Ti 0, Ti 0, Ti 0, Ti 0]), (16, .box [Ti f1.1, Ti f1.2.1, Ti f1.2.2])]⟩ : St) ∧ r_impl_unite_L7 f1 y4 n f6 = some o8) FU ⟨_,  kk, hLo8⟩ ?_)
  clear hLo8
  rintro n s ⟨f6, hs, h⟩
  refine V_keep _ _ hs ?_
  clear hs
  cases n with
  | zero => cases h
  | succ n =>
   rw [r_impl_unite_L7] at h
   refine zH ?_
   obtain ⟨y9, hy9, h⟩ := zA h
   refine VS ?_
   refine YK 8 (s_impl_mod hy9) cf_impl_mod ?_
   refine YF ?_
   refine VC h (fun h => ?_) (fun h => ?_)
   ·refine zI ?_
    show V _ _ _ _
    refine zK ?_
    obtain ⟨f11, hf11, h⟩ := zQ h
    refine V_reg (mb 103 916) [72, 64, 56, 32, 16] (s1 := ⟨.bot :: .bot :: .pt 16 0 :: .bot :: .pt 32 0 :: .bot :: .bot :: .pt 56 0 :: .pt 64 0 :: .pt 72 0 :: bt 93 [], [(72, .box [Ti f1.1, Ti y4.1.1, Ti f11, Ti 0, Ti 0, Ti 0, Ti 0, Ti 0, Ti 0, Ti 0, Ti 0, Ti 0]), (64, .box [Ti y4.2.1, Ti y4.2.2.1, Ti y4.2.2.2.1, Ti y4.2.2.2.2]), (56, .box [Ti y4.1.1, Ti y4.1.2.1, Ti y4.1.2.2]), (32, .box [Ti 0, Ti 0, Ti 0, Ti 0, Ti 0, Ti 0, Ti 0, Ti 0, Ti 0, Ti 0, Ti 0, Ti 0]), (16, .box [Ti f1.1, Ti f1.2.1, Ti f1.2.2])]⟩) ?_ ?_
    ·refine XR 8 ?_
     refine zJ ?_
     subst hf11
     kernel_rfl
    exact ⟨n, Nat.lt_succ_self n, _,  kk, h⟩
   ·refine V_exit ?_
    obtain rfl := zB h
    show St.keep _ _ _ = _
    kernel_rfl
 show V _ _ _ _
 obtain ⟨y12, hy12, h⟩ := zA h
 refine VS ?_
 refine YK 8 (s_impl_mod hy12) cf_impl_mod ?_
 refine YF ?_
 obtain ⟨y13, hy13, h⟩ := zA h
 obtain ⟨z14, hz14, h⟩ := zA h
 obtain ⟨f15, hf15, h⟩ := zQ h
 refine V_sdreg [0, 1, 0, 4, 15, 0, 32, 127, 0, 256, 768, 0, 2048, 7936, 16383, 32767, 65535] 16 (cdm 16 [178923680, 178923681, 178923530, 178923546, 178923605, 178913962, 178914986, 178918741, 41986730, 42052266, 42314410, 2796202, 6990506, 22391466, 89478485, 357913941]) (mb 103 916) [72, 64, 56, 32, 16] (s1 := ⟨.bot :: .bot :: .pt 16 0 :: .bot :: .pt 32 0 :: .bot :: .bot :: .pt 56 0 :: .pt 64 0 :: .pt 72 0 :: bt 93 [], [(72, .box [Ti f1.1, Ti y4.1.1, Ti y12, Ti f15, Ti 0, Ti 0, Ti 0, Ti 0, Ti 0, Ti 0, Ti 0, Ti 0]), (64, .box [Ti y4.2.1, Ti y4.2.2.1, Ti y4.2.2.2.1, Ti y4.2.2.2.2]), (56, .box [Ti y4.1.1, Ti y4.1.2.1, Ti y4.1.2.2]), (32, .box [Ti 0, Ti 0, Ti 0, Ti 0, Ti 0, Ti 0, Ti 0, Ti 0, Ti 0, Ti 0, Ti 0, Ti 0]), (16, .box [Ti f1.1, Ti f1.2.1, Ti f1.2.2])]⟩) kk kk ?_ ?_
 ·refine DR 6 ?_
  refine DC 6 (s_impl_Form_disc hy13) cf_impl_Form_disc rfl rfl rfl rfl 68 rfl ?_
  refine DR 7 ?_
  refine DE_0 14 (I (w64 (Int.tdiv (w64 ((w64 (y12 * y12)) - y13)) (w64 ((w64 (4 * f1.1)) * y4.1.1))))) kk rfl rfl rfl (gsat_none rfl) kk (Y0_quo64 (a := w64 ((w64 (y12 * y12)) - y13)) (b := w64 ((w64 (4 * f1.1)) * y4.1.1)) rfl kk kk (nz_some hz14)) 76 rfl ?_
  refine DA 1 ?_
  refine XR 1 ?_
  refine zJ ?_
  subst hf15
  kernel_rfl
 obtain ⟨z16, hz16, h⟩ := zA h
 obtain ⟨f17, hf17, h⟩ := zQ h
 refine zN (mb 103 912) [72, 64, 56, 32] (s1 := ⟨bt 4 (.pt 32 0 :: .bot :: .bot :: .pt 56 0 :: .pt 64 0 :: .pt 72 0 :: bt 93 []), [(72, .box [Ti f1.1, Ti y4.1.1, Ti y12, Ti f15, Ti 1, Ti f17, Ti 0, Ti 1, Ti 0, Ti 0, Ti 0, Ti 0]), (64, .box [Ti y4.2.1, Ti y4.2.2.1, Ti y4.2.2.2.1, Ti y4.2.2.2.2]), (56, .box [Ti y4.1.1, Ti y4.1.2.1, Ti y4.1.2.2]), (32, .box [Ti 0, Ti 0, Ti 0, Ti 0, Ti 0, Ti 0, Ti 0, Ti 0, Ti 0, Ti 0, Ti 0, Ti 0])]⟩) ?_ ?_
 ·refine XR 8 ?_
  refine L0 rfl rfl (Y0_quo64 (a := w64 (y12 - f1.2.1)) (b := w64 (2 * f1.1)) rfl kk kk (nz_some hz16)) ?_
  refine L0 rfl rfl (zP (cs := [Ti 1, Ti (w64 (Int.tdiv (w64 (y12 - f1.2.1)) (w64 (2 * f1.1)))), Ti 0, Ti 1]) pl109 bt109 rfl rfl kk) ?_
  refine XR 2 ?_
  refine zJ ?_
  subst hf17
  kernel_rfl
 obtain ⟨z18, hz18, h⟩ := zA h
 obtain ⟨y19, hy19, h⟩ := zA h
 refine VDS [0, 0, 2, 0, 8, 30, 0, 64, 192, 510, 1022, 2047, 4095, 8191] 13 (cdm 13 [2796200, 172674, 172678, 172074, 172138, 172374, 2730, 6826, 23210, 87382, 349526, 1398101, 5592405]) ?_
 refine ER 9 ?_
 refine E0 9 rfl rfl (Y0_quo64 (a := w64 (y12 - y4.1.2.1)) (b := w64 (2 * y4.1.1)) rfl kk kk (nz_some hz18)) ?_
 refine E0 10 rfl rfl (zP (cs := [Ti 1, Ti (w64 (Int.tdiv (w64 (y12 - y4.1.2.1)) (w64 (2 * y4.1.1)))), Ti 0, Ti 1]) pl109 bt109 rfl rfl kk) ?_
 refine EK 0 (s_impl_Matrix_times hy19) cf_impl_Matrix_times ?_
 refine EF 1 ?_
 refine VE ?_
 cases h
 exact zE VT
theorem cf_impl_united_composite : CfW Tryz.prog 192 := cfW Tryz.func192
theorem s_impl_united_composite {u1 : (Int × Int × Int × Int × ((Int × Int × Int × Int)) × ((Int × Int × Int × Int)))} {r : (Int × Int × Int)} (h : r_impl_united_composite u1 = some r) : zL Tryz.prog 192 [.ag [Ti u1.1, Ti u1.2.1, Ti u1.2.2.1, Ti u1.2.2.2.1, Ti u1.2.2.2.2.1.1, Ti u1.2.2.2.2.1.2.1, Ti u1.2.2.2.2.1.2.2.1, Ti u1.2.2.2.2.1.2.2.2, Ti u1.2.2.2.2.2.1, Ti u1.2.2.2.2.2.2.1, Ti u1.2.2.2.2.2.2.2.1, Ti u1.2.2.2.2.2.2.2.2]] (.ag [Ti r.1, Ti r.2.1, Ti r.2.2]) [] := by
 refine zO (rs := [.w 2 3]) (vs := [.cell 2 38]) Tryz.func192 rfl rfl (.cons ⟨rfl, wd38⟩ FitsL.nil) (by decide) 13 rfl ?_
 unfold r_impl_united_composite at h
 refine VE ?_
 obtain ⟨f2, hf2, h⟩ := zQ h
 refine zN (mb 13 4) [16] (s1 := ⟨.bot :: .bot :: .pt 16 0 :: bt 10 [], [(16, .box [Ti f2, Ti u1.2.2.1, Ti u1.2.2.2.1])]⟩) ?_ ?_
 ·refine XR 9 ?_
  refine L0 rfl rfl (zP (cs := [Ti (w64 (u1.1 * u1.2.1)), Ti u1.2.2.1, Ti u1.2.2.2.1]) pl38 bt38 rfl rfl kk) ?_
  refine XR 1 ?_
  refine zJ ?_
  subst hf2
  kernel_rfl
 cases h
 exact zE VT
theorem cf_impl_compose : CfW Tryz.prog 111 := cfW Tryz.func111
theorem s_impl_compose {f1 : (Int × Int × Int)} {g2 : (Int × Int × Int)} {r : (Int × Int × Int)} (h : r_impl_compose f1 g2 = some r) : zL Tryz.prog 111 [.ag [Ti f1.1, Ti f1.2.1, Ti f1.2.2], .ag [Ti g2.1, Ti g2.2.1, Ti g2.2.2]] (.ag [Ti r.1, Ti r.2.1, Ti r.2.2]) [] := by
 refine zO (rs := [.w 4 3]) (vs := [.cell 4 38]) Tryz.func111 rfl rfl (.cons ⟨rfl, wd38⟩ FitsL.nil) (by decide) 12 rfl ?_
 unfold r_impl_compose at h
 refine VE ?_
 obtain ⟨y3, hy3, h⟩ := zA h
 obtain ⟨y4, hy4, h⟩ := zA h
 obtain ⟨y5, hy5, h⟩ := zA h
 obtain ⟨y6, hy6, h⟩ := zA h
 obtain ⟨y7, hy7, h⟩ := zA h
 refine VDS [0, 1, 0, 7, 15, 31, 63, 127] 7 (cdm 7 [32, 33, 10, 21, 85, 341, 1365]) ?_
 refine EK 1 (s_impl_reduced hy3) cf_impl_reduced ?_
 refine EK 1 (s_impl_reduced hy4) cf_impl_reduced ?_
 refine EK 0 (s_impl_unite hy5) cf_impl_unite ?_
 refine EK 0 (s_impl_united_composite hy6) cf_impl_united_composite ?_
 refine EK 0 (s_impl_reduced hy7) cf_impl_reduced ?_
 refine EF 0 ?_
 cases h
 exact zE VT
theorem cf_impl_Form_opposite : CfW Tryz.prog 113 := cfW Tryz.func113
theorem s_impl_Form_opposite {f1 : (Int × Int × Int)} {r : (Int × Int × Int)} (h : r_impl_Form_opposite f1 = some r) : zL Tryz.prog 113 [.ag [Ti f1.1, Ti f1.2.1, Ti f1.2.2]] (.ag [Ti r.1, Ti r.2.1, Ti r.2.2]) [] := by
 refine zO (rs := [.w 2 3]) (vs := [.cell 2 38]) Tryz.func113 rfl rfl (.cons ⟨rfl, wd38⟩ FitsL.nil) (by decide) 11 rfl ?_
 unfold r_impl_Form_opposite at h
 refine VE ?_
 obtain ⟨f2, hf2, h⟩ := zQ h
 refine zN (mb 11 4) [16] (s1 := ⟨.bot :: .bot :: .pt 16 0 :: bt 8 [], [(16, .box [Ti f1.1, Ti f2, Ti f1.2.2])]⟩) ?_ ?_
 ·refine XR 7 ?_
  refine L0 rfl rfl (zP (cs := [Ti f1.1, Ti (w64 (0 - f1.2.1)), Ti f1.2.2]) pl38 bt38 rfl rfl kk) ?_
  refine XR 1 ?_
  refine zJ ?_
  subst hf2
  kernel_rfl
 cases h
 exact zE VT
theorem cf_impl_withEntry : CfW Tryz.prog 114 := cfW Tryz.func114
theorem s_impl_withEntry {l1 : List ((ByteArray × ((Int × Int × Int))))} {name2 : ByteArray} {f3 : (Int × Int × Int)} {r : List ((ByteArray × ((Int × Int × Int))))} (h : r_impl_withEntry l1 name2 f3 = some r) : zL Tryz.prog 114 [.c (.sl (l1.map c73)), .c (.v (.string name2)), .ag [Ti f3.1, Ti f3.2.1, Ti f3.2.2]] (.ow 0) [(0, .arr 73 4 (r.map c73))] := by
 refine CtW [6] Tryz.func114 rfl rfl 48 ?_
 unfold r_impl_withEntry at h
 refine VS ?_
 refine YR 1 ?_
 refine L1 rfl rfl (Y1_nil (e := 73) 4 (by decide) (.inl rfl)) ?_
 refine YF ?_
 refine VS ?_
 refine L1 rfl rfl (Y1_bslice0 Tryz.underlying43 sz73 (by decide) rfl rfl) ?_
 refine YF ?_
 refine VE ?_
 refine zH ?_
 obtain ⟨y4, hy4, h⟩ := zA h
 refine VS ?_
 refine YK 2 (s_impl_withoutEntry hy4) cf_impl_withoutEntry ?_
 refine L0 rfl rfl (Y0_lenM (c := c73) (xs := y4) Tryz.underlying43 rfl kk) ?_
 refine YF ?_
 obtain ⟨o9, hLo9, h⟩ := zA h
 refine V_toK (mb 48 418) [88, 40] (s1 := ⟨.bot :: .c (.v (.string name2)) :: bt 3 (.pt 40 0 :: .bot :: .ow 88 :: Bo o9.1 :: bt 39 []), [(88, .arr 73 4 (o9.2.map c73)), (40, .box [Ti f3.1, Ti f3.2.1, Ti f3.2.2])]⟩) ?_ ?_
 ·clear h
  refine zK (V_loop (fun n s => ∃ (done5 : Bool) (t6 : Int) (l7 : List ((ByteArray × ((Int × Int × Int))))), s.keep (mb 48 115106) [112, 88, 40] = (⟨.bot :: .c (.v (.string name2)) :: bt 3 (.pt 40 0 :: .bot :: .ow 88 :: Bo done5 :: bt 5 (.ow 112 :: I ((y4.length : Int)) :: I t6 :: bt 31 [])), [(112, .arr 73 4 (y4.map c73)), (88, .arr 73 4 (l7.map c73)), (40, .box [Ti f3.1, Ti f3.2.1, Ti f3.2.2])]⟩ : St) ∧ r_impl_withEntry_L8 f3 name2 y4 n done5 t6 l7 = some o9) FU ⟨_, _, _,  kk, hLo9⟩ ?_)
  clear hLo9
  rintro n s ⟨done5, t6, l7, hs, h⟩
  refine V_keep _ _ hs ?_
  clear hs
  cases n with
  | zero => cases h
  | succ n =>
   rw [r_impl_withEntry_L8] at h
   refine VE ?_
   refine zH ?_
   refine VC h (fun h => ?_) (fun h => ?_)
   ·refine zI ?_
    show V _ _ _ _
    refine zH ?_
    refine zK ?_
    obtain ⟨e11, he11, h⟩ := zA h
    obtain ⟨e12, he12, h⟩ := zA h
    refine VS ?_
    refine L0 rfl rfl (Y0_idxoM (c := c73) (xs := y4) (v := e11) (id := 112) (T := 73) (sz := 4) (n := t6) Tryz.underlying43 sz73 rfl kk kk kk he11) ?_
    refine L0 rfl rfl (E_loadon (c := c73) (xs := y4) (v := e12) (id := 112) (sz := 4) (T := 73) (off := 0) (n := t6) [.v (.string e12.1), Ti e12.2.1, Ti e12.2.2.1, Ti e12.2.2.2] wd73 rfl kk kk he12 (Nat.le_of_ble_eq_true rfl) kk) ?_
    refine YF ?_
    refine zH ?_
    obtain ⟨t14, ht14, h⟩ := zA h
    have ht14 := zB ht14
    refine zN (mb 48 134333858) [80, 112, 88, 40] (s1 := ⟨.bot :: .c (.v (.string name2)) :: bt 3 (.pt 40 0 :: .bot :: .ow 88 :: Bo done5 :: .bot :: .pt 80 0 :: bt 3 (.ow 112 :: I ((y4.length : Int)) :: I t6 :: bt 10 (Bo t14 :: bt 20 []))), [(80, .box [.v (.string e12.1), Ti e12.2.1, Ti e12.2.2.1, Ti e12.2.2.2]), (112, .arr 73 4 (y4.map c73)), (88, .arr 73 4 (l7.map c73)), (40, .box [Ti f3.1, Ti f3.2.1, Ti f3.2.2])]⟩) ?_ ?_
    ·refine YR 3 ?_
     refine zD (!done5) (fun hc13 => ?_) (fun hc13 => ?_)
     ·refine YQ hc13 ?_
      refine YR 3 ?_
      refine YT (X_of_Y0 rfl (Y0_lts (a := name2) (b := e12.1) rfl kk kk)) ?_
      exact YE (by rw [← ht14]; (try rw [hc13]); kernel_rfl)
     ·refine YQ hc13 ?_
      exact YE (by rw [← ht14]; (try rw [hc13]); kernel_rfl)
    refine VC h (fun h => ?_) (fun h => ?_)
    ·obtain ⟨u16, hu16, h⟩ := zA h
     refine VS ?_
     refine YR 3 ?_
     refine L0 rfl rfl (zP (cs := [.v (.string name2), Ti f3.1, Ti f3.2.1, Ti f3.2.2]) pl73 bt73 rfl rfl kk) ?_
     refine L1 rfl rfl (Y1_bslice (z := zv73) (els := [(name2, f3)].map c73) Tryz.underlying43 iz73 rfl (by decide) rfl kk rfl (by simp [c73]) (by decide) (by decide)) ?_
     refine XL_cons rfl (X_appendM (c := c73) (xs := l7) (ys := [(name2, f3)]) (id := 88) (z := zv73) rfl rfl Tryz.underlying43 izb73 rfl kk kk kk (fun _ => rfl) (by simp) (room_some hu16) (by decide)) ?_
     refine YF ?_
     refine V_region ?_
     refine YF ?_
     show V _ _ _ _
     obtain ⟨u17, hu17, h⟩ := zA h
     refine V_region ?_
     refine YR 2 ?_
     refine L1 rfl rfl (Y1_bslice (z := zv73) (els := [e12].map c73) Tryz.underlying43 iz73 rfl (by decide) rfl kk rfl (by simp [c73]) (by decide) (by decide)) ?_
     refine XL_cons rfl (X_appendM (c := c73) (xs := l7 ++ ([(name2, f3)])) (ys := [e12]) (id := 88) (z := zv73) rfl rfl Tryz.underlying43 izb73 rfl kk kk kk (fun _ => rfl) (by simp) (room_some hu17) (by decide)) ?_
     refine YF ?_
     show V _ _ _ _
     obtain ⟨t18, ht18, h⟩ := zQ h
     refine V_reg (mb 48 115106) [112, 88, 40] (s1 := ⟨.bot :: .c (.v (.string name2)) :: bt 3 (.pt 40 0 :: .bot :: .ow 88 :: Bo true :: bt 5 (.ow 112 :: I ((y4.length : Int)) :: I t18 :: bt 31 [])), [(112, .arr 73 4 (y4.map c73)), (88, .arr 73 4 (((l7 ++ ([(name2, f3)])) ++ ([e12])).map c73)), (40, .box [Ti f3.1, Ti f3.2.1, Ti f3.2.2])]⟩) ?_ ?_
     ·refine XR 2 ?_
      refine zJ ?_
      subst ht18
      kernel_rfl
     exact ⟨n, Nat.lt_succ_self n, _, _, _,  kk, h⟩
    ·refine zI ?_
     show V _ _ _ _
     obtain ⟨u19, hu19, h⟩ := zA h
     refine V_region ?_
     refine YR 2 ?_
     refine L1 rfl rfl (Y1_bslice (z := zv73) (els := [e12].map c73) Tryz.underlying43 iz73 rfl (by decide) rfl kk rfl (by simp [c73]) (by decide) (by decide)) ?_
     refine XL_cons rfl (X_appendM (c := c73) (xs := l7) (ys := [e12]) (id := 88) (z := zv73) rfl rfl Tryz.underlying43 izb73 rfl kk kk kk (fun _ => rfl) (by simp) (room_some hu19) (by decide)) ?_
     refine YF ?_
     show V _ _ _ _
     obtain ⟨t20, ht20, h⟩ := zQ h
     refine V_reg (mb 48 115106) [112, 88, 40] (s1 := ⟨.bot :: .c (.v (.string name2)) :: bt 3 (.pt 40 0 :: .bot :: .ow 88 :: Bo done5 :: bt 5 (.ow 112 :: I ((y4.length : Int)) :: I t20 :: bt 31 [])), [(112, .arr 73 4 (y4.map c73)), (88, .arr 73 4 ((l7 ++ ([e12])).map c73)), (40, .box [Ti f3.1, Ti f3.2.1, Ti f3.2.2])]⟩) ?_ ?_
     ·refine XR 2 ?_
      refine zJ ?_
      subst ht20
      kernel_rfl
     exact ⟨n, Nat.lt_succ_self n, _, _, _,  kk, h⟩
   ·refine V_exit ?_
    obtain rfl := zB h
    show St.keep _ _ _ = _
    kernel_rfl
 show V _ _ _ _
 refine zH ?_
 refine VE ?_
 refine VC h (fun h => ?_) (fun h => ?_)
 ·obtain ⟨u22, hu22, h⟩ := zA h
  refine V_region ?_
  refine YR 3 ?_
  refine L0 rfl rfl (zP (cs := [.v (.string name2), Ti f3.1, Ti f3.2.1, Ti f3.2.2]) pl73 bt73 rfl rfl kk) ?_
  refine L1 rfl rfl (Y1_bslice (z := zv73) (els := [(name2, f3)].map c73) Tryz.underlying43 iz73 rfl (by decide) rfl kk rfl (by simp [c73]) (by decide) (by decide)) ?_
  refine XL_cons rfl (X_appendM (c := c73) (xs := o9.2) (ys := [(name2, f3)]) (id := 88) (z := zv73) rfl rfl Tryz.underlying43 izb73 rfl kk kk kk (fun _ => rfl) (by simp) (room_some hu22) (by decide)) ?_
  refine YF ?_
  show V _ _ _ _
  refine VE ?_
  cases h
  exact zE VT
 ·refine zI ?_
  show V _ _ _ _
  refine VE ?_
  cases h
  exact zE VT
theorem cf_impl_runCommand : CfW Tryz.prog 55 := cfW Tryz.func55
theorem s_impl_runCommand {l1 : List ((ByteArray × ((Int × Int × Int))))} {c2 : (Int × ByteArray × ByteArray × ByteArray × ((Int × Int × Int)))} {r : ((List ((ByteArray × ((Int × Int × Int))))) × Int)} (h : r_impl_runCommand l1 c2 = some r) : zL Tryz.prog 55 [.c (.sl (l1.map c73)), .ag [Ti c2.1, .v (.string c2.2.1), .v (.string c2.2.2.1), .v (.string c2.2.2.2.1), Ti c2.2.2.2.2.1, Ti c2.2.2.2.2.2.1, Ti c2.2.2.2.2.2.2]] (.tc (.ow 0) (.tc (I r.2) .tn)) [(0, .arr 73 4 (r.1.map c73))] := by
 refine CtW [4, 5] Tryz.func55 rfl rfl 64 ?_
 unfold r_impl_runCommand at h
 refine VS ?_
 refine YR 1 ?_
 refine L1 rfl rfl (Y1_nil (e := 73) 4 (by decide) (.inl rfl)) ?_
 refine YF ?_
 refine zH ?_
 obtain ⟨y3, hy3, h⟩ := zA h
 refine VS ?_
 refine YK 2 (s_impl_refusal hy3) cf_impl_refusal ?_
 refine YF ?_
 refine VE ?_
 refine VC h (fun h => ?_) (fun h => ?_)
 ·refine VS ?_
  refine L1 rfl rfl (Y1_bslice0 Tryz.underlying43 sz73 (by decide) rfl rfl) ?_
  refine YF ?_
  cases h
  exact zE VT
 ·refine zI ?_
  show V _ _ _ _
  refine VE ?_
  obtain ⟨y5, hy5, h⟩ := zA h
  refine VS ?_
  refine YK 3 (s_impl_find hy5) cf_impl_find ?_
  refine YF ?_
  obtain ⟨y6, hy6, h⟩ := zA h
  refine VS ?_
  refine YK 3 (s_impl_find hy6) cf_impl_find ?_
  refine YF ?_
  obtain ⟨qo7, hLo7, hko7⟩ := zA h
  clear h
  refine V_cutS (q := qo7) (S := fun o7 => ⟨.c (.sl (l1.map c73)) :: .bot :: .bot :: .pt 24 0 :: bt 3 (.pt 56 0 :: bt 56 []), [(56, .box [Ti o7.1, Ti o7.2.1, Ti o7.2.2]), (24, .box [Ti c2.1, .v (.string c2.2.1), .v (.string c2.2.2.1), .v (.string c2.2.2.2.1), Ti c2.2.2.2.2.1, Ti c2.2.2.2.2.2.1, Ti c2.2.2.2.2.2.2])]⟩) (mb 64 137) [56, 24] ?_ ?_
  ·have h := hLo7
   clear hLo7
   refine VE ?_
   refine zK ?_
   refine VE ?_
   refine VC h (fun h => ?_) (fun h => ?_)
   ·obtain ⟨y9, hy9, h⟩ := zA h
    refine VS ?_
    refine YK 3 (s_impl_withoutEntry hy9) cf_impl_withoutEntry ?_
    refine YF ?_
    refine zE ?_
    obtain rfl := zB h
    have h := hko7
    obtain rfl := zB h
    exact VT
   ·refine VE ?_
    refine VC h (fun h => ?_) (fun h => ?_)
    ·obtain ⟨y11, hy11, h⟩ := zA h
     refine V_region ?_
     refine YK 2 (s_impl_compose hy11) cf_impl_compose ?_
     refine YF ?_
     obtain rfl := zB h
     exact ⟨_, rfl, kk⟩
    ·refine VE ?_
     refine VC h (fun h => ?_) (fun h => ?_)
     ·obtain ⟨y13, hy13, h⟩ := zA h
      obtain ⟨y14, hy14, h⟩ := zA h
      refine V_region ?_
      refine YK 1 (s_impl_Form_opposite hy13) cf_impl_Form_opposite ?_
      refine YK 0 (s_impl_reduced hy14) cf_impl_reduced ?_
      refine YF ?_
      obtain rfl := zB h
      exact ⟨_, rfl, kk⟩
     ·refine zI ?_
      obtain rfl := zB h
      exact ⟨_, rfl, kk⟩
  rintro o7 rfl
  have h := hko7
  clear hko7
  obtain ⟨y15, hy15, h⟩ := zA h
  refine VS ?_
  refine YK 4 (s_impl_withEntry hy15) cf_impl_withEntry ?_
  refine YF ?_
  refine zH ?_
  refine VS ?_
  refine YR 1 ?_
  refine L0 rfl rfl (Y0_lenM (c := c73) (xs := y15) Tryz.underlying43 rfl kk) ?_
  refine YF ?_
  refine VC h (fun h => ?_) (fun h => ?_)
  ·refine VS ?_
   refine L1 rfl rfl (Y1_bslice0 Tryz.underlying43 sz73 (by decide) rfl rfl) ?_
   refine YF ?_
   cases h
   exact zE VT
  ·refine zI ?_
   show V _ _ _ _
   refine VE ?_
   cases h
   exact zE VT
theorem cf_impl_replay : CfW Tryz.prog 54 := cfW Tryz.func54
theorem s_impl_replay {vs1 : ByteArray} {r : ((List ((ByteArray × ((Int × Int × Int))))) × Int × Int × Int)} (h : r_impl_replay vs1 = some r) : zL Tryz.prog 54 [.c (.v (.string vs1))] (.tc (.ow 0) (.tc (I r.2.1) (.tc (I r.2.2.1) (.tc (I r.2.2.2) .tn)))) [(0, .arr 73 4 (r.1.map c73))] := by
 refine CtW [2, 3, 4, 5] Tryz.func54 rfl rfl 81 ?_
 unfold r_impl_replay at h
 refine VS ?_
 refine L1 rfl rfl (Y1_nil (e := 73) 4 (by decide) (.inl rfl)) ?_
 refine YF ?_
 refine VS ?_
 refine L1 rfl rfl (Y1_bslice0 Tryz.underlying43 sz73 (by decide) rfl rfl) ?_
 refine YF ?_
 refine VE ?_
 refine zH ?_
 obtain ⟨o7, hLo7, h⟩ := zA h
 refine V_toK (mb 81 960) [168] (s1 := ⟨bt 6 (.ow 168 :: I o7.1 :: I o7.2.1 :: I o7.2.2.1 :: bt 71 []), [(168, .arr 73 4 (o7.2.2.2.map c73))]⟩) ?_ ?_
 ·clear h
  refine zK (V_loop (fun n s => ∃ (many2 : Int) (vat3 : Int) (vn4 : Int) (l5 : List ((ByteArray × ((Int × Int × Int))))), (s.adopt 6 168).keep (mb 81 961) [168] = (⟨.c (.v (.string vs1)) :: bt 5 (.ow 168 :: I many2 :: I vat3 :: I vn4 :: bt 71 []), [(168, .arr 73 4 (l5.map c73))]⟩ : St) ∧ r_impl_replay_L6 vs1 n many2 vat3 vn4 l5 = some o7) FU ⟨_, _, _, _,  kk, hLo7⟩ ?_)
  clear hLo7
  rintro n s ⟨many2, vat3, vn4, l5, hs, h⟩
  refine V_adopt 6 168 ?_
  refine V_keep _ _ hs ?_
  clear hs
  cases n with
  | zero => cases h
  | succ n =>
   rw [r_impl_replay_L6] at h
   refine zH ?_
   refine VE ?_
   refine VC h (fun h => ?_) (fun h => ?_)
   ·refine zI ?_
    show V _ _ _ _
    refine zK ?_
    obtain ⟨u9, hu9, h⟩ := zA h
    obtain ⟨y10, hy10, h⟩ := zA h
    refine VS ?_
    refine YR 2 ?_
    refine L0 rfl rfl (Y0_slices (b := vs1) (l := vat3) (h := (vs1.size : Int)) Tryz.underlying9 rfl kk (fun y hy => by cases hy; exact ⟨.i64, kk⟩) (fun hh => by cases hh) (fun y hy => by cases hy) (fun _ => rfl) (slc_some hu9)) ?_
    refine YK 0 (s_strings_IndexByte hy10) cf_strings_IndexByte ?_
    refine YF ?_
    refine zH ?_
    refine VE ?_
    refine VC h (fun h => ?_) (fun h => ?_)
    ·refine V_exit ?_
     obtain rfl := zB h
     show St.keep _ _ _ = _
     kernel_rfl
    ·refine zI ?_
     show V _ _ _ _
     obtain ⟨u12, hu12, h⟩ := zA h
     refine VS ?_
     refine YR 6 ?_
     refine L0 rfl rfl (Y0_slices (b := vs1) (l := vat3) (h := w64 ((w64 (vat3 + y10)) + 1)) Tryz.underlying9 rfl kk (fun y hy => by cases hy; exact ⟨.i64, kk⟩) (fun hh => by cases hh) (fun y hy => by cases hy; exact ⟨.i64, kk⟩) (fun hh => by cases hh) (slc_some hu12)) ?_
     refine YF ?_
     obtain ⟨y13, hy13, h⟩ := zA h
     refine VS ?_
     refine YK 1 (s_strings_Cut hy13) cf_strings_Cut ?_
     refine YF ?_
     obtain ⟨y14, hy14, h⟩ := zA h
     refine VS ?_
     refine YK 1 (s_impl_ParseCommand hy14) cf_impl_ParseCommand ?_
     refine YF ?_
     refine zH ?_
     refine VE ?_
     refine VC h (fun h => ?_) (fun h => ?_)
     ·refine V_exit ?_
      obtain rfl := zB h
      show St.keep _ _ _ = _
      kernel_rfl
     ·refine zI ?_
      show V _ _ _ _
      obtain ⟨y16, hy16, h⟩ := zA h
      refine VS ?_
      refine YK 2 (s_impl_recordText hy16) cf_impl_recordText ?_
      refine YF ?_
      obtain ⟨y17, hy17, h⟩ := zA h
      refine VS ?_
      refine YR 2 ?_
      refine L1 rfl rfl (Y1_callS (s_impl_runCommand hy17) cf_impl_runCommand rfl kk rfl (flatE_cons (fun _ => rfl) rfl)) ?_
      refine YF ?_
      refine zH ?_
      obtain ⟨t19, ht19, h⟩ := zA h
      have ht19 := zB ht19
      refine zN (mb 81 295147905179353615297) [472, 168] (s1 := ⟨.c (.v (.string vs1)) :: bt 5 (.ow 168 :: I many2 :: I vat3 :: I vn4 :: .bot :: .c (.v (.string (vs1.extract (Int.toNat vat3) (Int.toNat (w64 ((w64 (vat3 + y10)) + 1)))))) :: bt 6 (I y16.2 :: .ow 472 :: bt 48 (Bo t19 :: bt 12 []))), [(472, .arr 73 4 (y17.1.map c73)), (168, .arr 73 4 (l5.map c73))]⟩) ?_ ?_
      ·refine YR 4 ?_
       refine zD (!(y16.1.toList == (vs1.extract (Int.toNat vat3) (Int.toNat (w64 ((w64 (vat3 + y10)) + 1)))).toList)) (fun hc18 => ?_) (fun hc18 => ?_)
       ·refine YQ hc18 ?_
        exact YE (by rw [← ht19]; (try rw [hc18]); kernel_rfl)
       ·refine YQ hc18 ?_
        exact YE (by rw [← ht19]; (try rw [hc18]); kernel_rfl)
      refine VC h (fun h => ?_) (fun h => ?_)
      ·refine V_exit ?_
       obtain rfl := zB h
       show St.keep _ _ _ = _
       kernel_rfl
      ·refine zI ?_
       show V _ _ _ _
       refine VE ?_
       obtain ⟨many21, hmany21, h⟩ := zQ h
       refine zN (mb 81 3009) [472] (s1 := ⟨.c (.v (.string vs1)) :: bt 5 (.ow 472 :: I many21 :: I vat3 :: I y16.2 :: .bot :: .c (.v (.string (vs1.extract (Int.toNat vat3) (Int.toNat (w64 ((w64 (vat3 + y10)) + 1)))))) :: bt 69 []), [(472, .arr 73 4 (y17.1.map c73))]⟩) ?_ ?_
       ·refine XR 3 ?_
        refine zJ ?_
        subst hmany21
        kernel_rfl
       obtain ⟨vat22, hvat22, h⟩ := zQ h
       refine V_reg (mb 81 961) [472] (s1 := ⟨.c (.v (.string vs1)) :: bt 5 (.ow 472 :: I many21 :: I vat22 :: I y16.2 :: bt 71 []), [(472, .arr 73 4 (y17.1.map c73))]⟩) ?_ ?_
       ·refine XR 2 ?_
        refine L0 rfl rfl (Y0_lens (b := vs1.extract (Int.toNat vat3) (Int.toNat (w64 ((w64 (vat3 + y10)) + 1)))) Tryz.underlying9 rfl kk) ?_
        refine XR 2 ?_
        refine zJ ?_
        subst hvat22
        kernel_rfl
       exact ⟨n, Nat.lt_succ_self n, _, _, _, _,  kk, h⟩
   ·refine V_exit ?_
    obtain rfl := zB h
    show St.keep _ _ _ = _
    kernel_rfl
 show V _ _ _ _
 refine VE ?_
 cases h
 exact zE VT
theorem cf_impl_ReplayJournal : CfW Tryz.prog 25 := cfW Tryz.func25
theorem s_impl_ReplayJournal {vs1 : ByteArray} {r : ((List ((ByteArray × ((Int × Int × Int))))) × Int × Int × Bool)} (h : r_impl_ReplayJournal vs1 = some r) : zL Tryz.prog 25 [.c (.v (.string vs1))] (.tc (.ow 0) (.tc (I r.2.1) (.tc (I r.2.2.1) (.tc (Bo r.2.2.2) .tn)))) [(0, .arr 73 4 (r.1.map c73))] := by
 refine CtW [2, 3, 4, 5] Tryz.func25 rfl rfl 24 ?_
 unfold r_impl_ReplayJournal at h
 refine VS ?_
 refine L1 rfl rfl (Y1_nil (e := 73) 4 (by decide) (.inl rfl)) ?_
 refine YF ?_
 refine zH ?_
 refine VS ?_
 refine YF ?_
 refine VC h (fun h => ?_) (fun h => ?_)
 ·refine VS ?_
  refine L1 rfl rfl (Y1_bslice0 Tryz.underlying43 sz73 (by decide) rfl rfl) ?_
  refine YF ?_
  cases h
  exact zE VT
 ·refine zI ?_
  show V _ _ _ _
  obtain ⟨y3, hy3, h⟩ := zA h
  refine VS ?_
  refine YK 1 (s_impl_replay hy3) cf_impl_replay ?_
  refine YF ?_
  refine VE ?_
  cases h
  exact zE VT
theorem rm47_some {n : Nat} {u : Unit} (h : rm47 n = some u) : n ≤ 140737488355328 := by
 unfold rm47 at h
 cases hb : Nat.ble n 140737488355328 with
 | false => rw [hb] at h; cases h
 | true => exact Nat.le_of_ble_eq_true hb
theorem cf_impl_JournalText : CfW Tryz.prog 31 := cfW Tryz.func31
theorem s_impl_JournalText {l1 : List ((Int × ByteArray × ByteArray × ByteArray × ((Int × Int × Int))))} {r : ByteArray × Bool} (h : r_impl_JournalText l1 = some r) : zL Tryz.prog 31 [.c (.sl (l1.map c40))] (.tc (.c (.v (.string r.1))) (.tc (Bo r.2) .tn)) [] := by
 refine CtW [2, 3] Tryz.func31 rfl rfl 33 ?_
 unfold r_impl_JournalText at h
 refine VE ?_
 refine zH ?_
 refine VS ?_
 refine YR 1 ?_
 refine L0 rfl rfl (Y0_lenM (c := c40) (xs := l1) Tryz.underlying50 rfl kk) ?_
 refine YF ?_
 refine VC h (fun h => ?_) (fun h => ?_)
 ·refine VE ?_
  cases h
  exact zE VT
 ·refine zI ?_
  show V _ _ _ _
  refine V_keep (mb 33 1) [] (s' := ⟨.c (.sl (l1.map c40)) :: bt 32 [], []⟩) kk ?_
  refine VB_new rfl rfl rfl kk kk fun b => ?_
  refine VP_seqV (V_region ?_)
  refine YF ?_
  show VP _ _ _ _ _ _
  obtain ⟨q, hq, h⟩ := zA h
  refine VP_seq ?_
  refine VB_seqV (V_region ?_)
  refine YR 1 ?_
  refine L0 rfl rfl (Y0_lenM (c := c40) (xs := l1) Tryz.underlying50 rfl kk) ?_
  refine YF ?_
  show VB _ _ _ _ _ _
  refine VB_block ?_
  refine VB_loop (fun n s l => ∃ (k : Int) (m : Int), s.keep (mb 33 57393) [] = (⟨.c (.sl (l1.map c40)) :: bt 3 (bp b :: I m :: bt 7 (.c (.sl (l1.map c40)) :: I ((l1.length : Int)) :: I k :: bt 17 [])), []⟩ : St) ∧ r_impl_JournalText_L l1 n k m l = some q) FU ⟨_, _, kk, hq⟩ ?_
  rintro n s l ⟨k, m, hs, h2⟩
  refine VB_keep _ _ hs ?_
  clear hs hq
  cases n with
  | zero => cases h2
  | succ n =>
   rw [r_impl_JournalText_L] at h2
   refine VB_seqV (V_region ?_)
   refine YF ?_
   show VB _ _ _ _ _ _
   refine VB_seqV ?_
   refine VC h2 (fun h2 => ?_) (fun h2 => ?_)
   ·refine zI ?_
    show VB _ _ _ _ _ _
    obtain ⟨e, he, h2⟩ := zA h2
    obtain ⟨y, hy, h2⟩ := zA h2
    refine VB_seq ?_
    refine VB_block ?_
    refine VB_seqV (V_region ?_)
    refine L0 rfl rfl (Y0_idxM (c := c40) (xs := l1) (v := e) (n := k) Tryz.underlying50 sz40 rfl kk kk he) ?_
    refine YF ?_
    show VB _ _ _ _ _ _
    refine VB_seqV ?_
    refine VS ?_
    refine YK 1 (s_impl_isCommand hy) cf_impl_isCommand ?_
    refine YF ?_
    refine VC h2 (fun h2 => ?_) (fun h2 => ?_)
    ·refine VE ?_
     cases h2
     cases h
     exact zE VT
    ·refine zI ?_
     show VB _ _ _ _ _ _
     obtain ⟨z, hz, h2⟩ := zA h2
     obtain ⟨u, hu, h2⟩ := zA h2
     refine VB_seqV (V_region ?_)
     refine YK 2 (s_impl_recordText hz) cf_impl_recordText ?_
     refine YF ?_
     show VB _ _ _ _ _ _
     refine VB_seqV (V_region ?_)
     refine YF ?_
     show VB _ _ _ _ _ _
     refine VB_keep (mb 33 57649) [] (s' := ⟨.c (.sl (l1.map c40)) :: bt 3 (bp b :: I z.2 :: bt 2 (.c (.v (.string z.1)) :: bt 4 (.c (.sl (l1.map c40)) :: I ((l1.length : Int)) :: I k :: bt 17 []))), []⟩) kk ?_
     refine VB_region ?_
     refine XLB_1 ?_
     refine XLB_write rfl rfl rfl (rm47_some hu) ?_
     refine XLB_nil ?_
     show VB _ _ _ _ _ _
     refine VB_V (V_region ?_)
     refine YF ?_
     exact ⟨n, Nat.lt_succ_self n, _, _, kk, h2⟩
   ·refine V_exit ?_
    cases h2
    show VP _ _ _ _ _ _
    refine VP_sreg ?_
    refine XLP_string rfl rfl rfl ?_
    refine YF ?_
    cases h
    exact zE VT
theorem cf_impl_CompactJournal : CfW Tryz.prog 19 := cfW Tryz.func19
theorem s_impl_CompactJournal {vs1 : ByteArray} {r : (ByteArray × Bool)} (h : r_impl_CompactJournal vs1 = some r) : zL Tryz.prog 19 [.c (.v (.string vs1))] (.tc (.c (.v (.string r.1))) (.tc (Bo r.2) .tn)) [] := by
 refine CtW [2, 3] Tryz.func19 rfl rfl 40 ?_
 unfold r_impl_CompactJournal at h
 refine VE ?_
 obtain ⟨y2, hy2, h⟩ := zA h
 refine VS ?_
 refine YK 1 (s_impl_ReplayJournal hy2) cf_impl_ReplayJournal ?_
 refine YF ?_
 refine zH ?_
 refine VE ?_
 refine VC h (fun h => ?_) (fun h => ?_)
 ·refine VE ?_
  cases h
  exact zE VT
 ·refine zI ?_
  show V _ _ _ _
  obtain ⟨l4, hl4, h⟩ := zA h
  have hl4 := zB hl4
  refine zN (mb 40 272) [160, 104] (s1 := ⟨bt 4 (.ow 104 :: bt 3 (.ow 160 :: bt 31 [])), [(160, .arr 40 7 (l4.map c40)), (104, .arr 73 4 (y2.1.map c73))]⟩) ?_ ?_
  ·refine L1 rfl rfl (Y1_bslice0 Tryz.underlying50 sz40 (by decide) rfl rfl) ?_
   refine XR 1 ?_
   refine zJ ?_
   subst hl4
   kernel_rfl
  refine zH ?_
  refine VS ?_
  refine YR 1 ?_
  refine L0 rfl rfl (Y0_lenM (c := c73) (xs := y2.1) Tryz.underlying43 rfl kk) ?_
  refine YF ?_
  obtain ⟨o8, hLo8, h⟩ := zA h
  refine V_toK (mb 40 256) [160] (s1 := ⟨bt 8 (.ow 160 :: bt 31 []), [(160, .arr 40 7 (o8.map c40))]⟩) ?_ ?_
  ·clear h
   refine zK (V_loop (fun n s => ∃ (t5 : Int) (l6 : List ((Int × ByteArray × ByteArray × ByteArray × ((Int × Int × Int))))), s.keep (mb 40 14680320) [160, 104] = (⟨bt 8 (.ow 160 :: bt 12 (.ow 104 :: I ((y2.1.length : Int)) :: I t5 :: bt 16 [])), [(160, .arr 40 7 (l6.map c40)), (104, .arr 73 4 (y2.1.map c73))]⟩ : St) ∧ r_impl_CompactJournal_L7 y2 n t5 l6 = some o8) FU ⟨_, _,  kk, hLo8⟩ ?_)
   clear hLo8
   rintro n s ⟨t5, l6, hs, h⟩
   refine V_keep _ _ hs ?_
   clear hs
   cases n with
   | zero => cases h
   | succ n =>
    rw [r_impl_CompactJournal_L7] at h
    refine VE ?_
    refine zH ?_
    refine VC h (fun h => ?_) (fun h => ?_)
    ·refine zI ?_
     show V _ _ _ _
     refine zH ?_
     refine zK ?_
     obtain ⟨e10, he10, h⟩ := zA h
     obtain ⟨e11, he11, h⟩ := zA h
     refine VS ?_
     refine L0 rfl rfl (Y0_idxoM (c := c73) (xs := y2.1) (v := e10) (id := 104) (T := 73) (sz := 4) (n := t5) Tryz.underlying43 sz73 rfl kk kk kk he10) ?_
     refine L0 rfl rfl (E_loadon (c := c73) (xs := y2.1) (v := e11) (id := 104) (sz := 4) (T := 73) (off := 0) (n := t5) [.v (.string e11.1), Ti e11.2.1, Ti e11.2.2.1, Ti e11.2.2.2] wd73 rfl kk kk he11 (Nat.le_of_ble_eq_true rfl) kk) ?_
     refine YF ?_
     obtain ⟨u12, hu12, h⟩ := zA h
     obtain ⟨l13, hl13, h⟩ := zA h
     have hl13 := zB hl13
     refine V_reg (mb 40 14680320) [160, 104] (s1 := ⟨bt 8 (.ow 160 :: bt 12 (.ow 104 :: I ((y2.1.length : Int)) :: I t5 :: bt 16 [])), [(160, .arr 40 7 (l13.map c40)), (104, .arr 73 4 (y2.1.map c73))]⟩) ?_ ?_
     ·refine XR 5 ?_
      refine L0 rfl rfl (zP (cs := [Ti 1, .v (.string e11.1), .v (.string ByteArray.empty), .v (.string ByteArray.empty), Ti e11.2.1, Ti e11.2.2.1, Ti e11.2.2.2]) pl40 bt40 rfl rfl kk) ?_
      refine L1 rfl rfl (Y1_bslice (z := zv40) (els := [(1, e11.1, ByteArray.empty, ByteArray.empty, e11.2)].map c40) Tryz.underlying50 iz40 rfl (by decide) rfl kk rfl (by simp [c40]) (by decide) (by decide)) ?_
      refine XL_cons rfl (X_appendM (c := c40) (xs := l6) (ys := [(1, e11.1, ByteArray.empty, ByteArray.empty, e11.2)]) (id := 160) (z := zv40) rfl rfl Tryz.underlying50 izb40 rfl kk kk kk (fun _ => rfl) (by simp) (room_some hu12) (by decide)) ?_
      refine XR 1 ?_
      refine zJ ?_
      subst hl13
      kernel_rfl
     show V _ _ _ _
     obtain ⟨t14, ht14, h⟩ := zQ h
     refine V_reg (mb 40 14680320) [160, 104] (s1 := ⟨bt 8 (.ow 160 :: bt 12 (.ow 104 :: I ((y2.1.length : Int)) :: I t14 :: bt 16 [])), [(160, .arr 40 7 (l13.map c40)), (104, .arr 73 4 (y2.1.map c73))]⟩) ?_ ?_
     ·refine XR 2 ?_
      refine zJ ?_
      subst ht14
      kernel_rfl
     exact ⟨n, Nat.lt_succ_self n, _, _,  kk, h⟩
    ·refine V_exit ?_
     obtain rfl := zB h
     show St.keep _ _ _ = _
     kernel_rfl
  show V _ _ _ _
  obtain ⟨y15, hy15, h⟩ := zA h
  refine VS ?_
  refine YR 1 ?_
  refine L1 rfl rfl (Y1_callS (s_impl_JournalText hy15) cf_impl_JournalText rfl kk rfl rfl) ?_
  refine YF ?_
  cases h
  exact zE VT
theorem s_laws_FnExactCompactJournal {aS1 : ByteArray} {r : Bool} (h : r_laws_FnExactCompactJournal aS1 = some r) : zL Tryz.prog 5 [.c (.v (.string aS1))] (Bo r) [] := by
 refine CtW [2] Tryz.func5 rfl rfl 28 ?_
 unfold r_laws_FnExactCompactJournal at h
 refine VE ?_
 refine zH ?_
 refine VS ?_
 refine YF ?_
 refine VC h (fun h => ?_) (fun h => ?_)
 ·refine VE ?_
  cases h
  exact zE VT
 ·refine zI ?_
  show V _ _ _ _
  obtain ⟨y3, hy3, h⟩ := zA h
  refine VS ?_
  refine YK 1 (s_spec_CompactJournal hy3) cf_spec_CompactJournal ?_
  refine YF ?_
  obtain ⟨y4, hy4, h⟩ := zA h
  refine VS ?_
  refine YK 1 (s_impl_CompactJournal hy4) cf_impl_CompactJournal ?_
  refine YF ?_
  refine zH ?_
  obtain ⟨t6, ht6, h⟩ := zA h
  have ht6 := zB ht6
  refine zN (mb 28 134217728) [] (s1 := ⟨bt 27 (Bo t6 :: []), []⟩) ?_ ?_
  ·refine YR 4 ?_
   refine zD (!(y4.1.toList == y3.1.toList)) (fun hc5 => ?_) (fun hc5 => ?_)
   ·refine YQ hc5 ?_
    exact YE (by rw [← ht6]; (try rw [hc5]); kernel_rfl)
   ·refine YQ hc5 ?_
    exact YE (by rw [← ht6]; (try rw [hc5]); kernel_rfl)
  refine VC h (fun h => ?_) (fun h => ?_)
  ·refine VE ?_
   cases h
   exact zE VT
  ·refine zI ?_
   show V _ _ _ _
   refine VE ?_
   cases h
   exact zE VT
end Go.Proofs.YtfmjfofocklgpaaGreatDoor
