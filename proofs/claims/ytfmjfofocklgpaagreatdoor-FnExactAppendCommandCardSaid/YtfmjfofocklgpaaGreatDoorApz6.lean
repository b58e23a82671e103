/-
  Rules of walks, plain functions and their laws, part 6.
  Conditions: none.
-/
import Derived.Test.YtfmjfofocklgpaaGreatDoorApz5
namespace Go.Proofs.YtfmjfofocklgpaaGreatDoor
open Go.RowKit
set_option linter.unusedVariables false
set_option linter.unusedSimpArgs false
set_option maxRecDepth 100000
set_option maxHeartbeats 400000
theorem cf_impl_formText : ∀ args w, (callFunc 162 args).run Tryz.prog w = .ok (.enter 162 args) w := zI Tryz.func162 kk kk
theorem s_impl_formText {f1 : (Int × Int × Int)} {r : ByteArray} (h : r_impl_formText f1 = some r) : z7 Tryz.prog 162 [.ag [Ti f1.1, Ti f1.2.1, Ti f1.2.2]] (.c (.v (.string r))) [] := by
  refine zH (rs := [.t 2]) (vs := [.tmp 2]) Tryz.func162 rfl rfl (.cons rfl FitsL.nil) (by decide) 18 rfl ?_
  unfold r_impl_formText at h
  show V _ _ ⟨.ag [Ti f1.1, Ti f1.2.1, Ti f1.2.2] :: bt 17 [], []⟩ _
  refine V_e (mb 18 2) [8] (s1 := ⟨.bot :: .pt 8 0 :: bt 16 [], [(8, .box [Ti f1.1, Ti f1.2.1, Ti f1.2.2])]⟩) ?_
  obtain ⟨y2, hy2, h⟩ := zD h
  obtain ⟨u3, hu3, h⟩ := zD h
  obtain ⟨u4, hu4, h⟩ := zD h
  obtain ⟨y5, hy5, h⟩ := zD h
  obtain ⟨u6, hu6, h⟩ := zD h
  obtain ⟨u7, hu7, h⟩ := zD h
  obtain ⟨y8, hy8, h⟩ := zD h
  obtain ⟨u9, hu9, h⟩ := zD h
  obtain ⟨u10, hu10, h⟩ := zD h
  refine V_sdreg [0, 1, 3, 7, 15, 0, 32, 103, 255, 511, 0, 1024, 3303, 8191, 16383, 32767] 16 (cdm 16 [10496000, 10496001, 10496005, 44083221, 44083285, 10486442, 10487466, 10491541, 44062037, 44127573, 699050, 1747626, 5920405, 22369621, 89478485, 357913941]) (mb 18 4) [] (s1 := ⟨.bot :: .bot :: .c (.v (.string ((((((((⟨#[40]⟩ : ByteArray)) ++ y2) ++ ((⟨#[44]⟩ : ByteArray))) ++ y5) ++ ((⟨#[44]⟩ : ByteArray))) ++ y8) ++ ((⟨#[41]⟩ : ByteArray))))) :: bt 15 [], []⟩) kk kk ?_ ?_
  ·refine DR 2 ?_
   refine DC 2 (s_strconv_Itoa hy2) cf_strconv_Itoa rfl rfl rfl rfl 5 rfl ?_
   refine DE_0 3 (.c (.v (.string (((⟨#[40]⟩ : ByteArray)) ++ y2)))) kk rfl rfl rfl (zO rfl) kk (Y0_cat (a := (⟨#[40]⟩ : ByteArray)) (b := y2) rfl kk kk (catR_some hu3)) 6 rfl ?_
   refine DE_0 4 (.c (.v (.string ((((⟨#[40]⟩ : ByteArray)) ++ y2) ++ ((⟨#[44]⟩ : ByteArray)))))) kk rfl rfl rfl (zO rfl) kk (Y0_cat (a := ((⟨#[40]⟩ : ByteArray)) ++ y2) (b := (⟨#[44]⟩ : ByteArray)) rfl kk kk (catR_some hu4)) 7 rfl ?_
   refine DR 2 ?_
   refine DC 7 (s_strconv_Itoa hy5) cf_strconv_Itoa rfl rfl rfl rfl 10 rfl ?_
   refine DE_0 8 (.c (.v (.string (((((⟨#[40]⟩ : ByteArray)) ++ y2) ++ ((⟨#[44]⟩ : ByteArray))) ++ y5)))) kk rfl rfl rfl (zO rfl) kk (Y0_cat (a := (((⟨#[40]⟩ : ByteArray)) ++ y2) ++ ((⟨#[44]⟩ : ByteArray))) (b := y5) rfl kk kk (catR_some hu6)) 11 rfl ?_
   refine DE_0 9 (.c (.v (.string ((((((⟨#[40]⟩ : ByteArray)) ++ y2) ++ ((⟨#[44]⟩ : ByteArray))) ++ y5) ++ ((⟨#[44]⟩ : ByteArray)))))) kk rfl rfl rfl (zO rfl) kk (Y0_cat (a := ((((⟨#[40]⟩ : ByteArray)) ++ y2) ++ ((⟨#[44]⟩ : ByteArray))) ++ y5) (b := (⟨#[44]⟩ : ByteArray)) rfl kk kk (catR_some hu7)) 12 rfl ?_
   refine DR 2 ?_
   refine DC 12 (s_strconv_Itoa hy8) cf_strconv_Itoa rfl rfl rfl rfl 15 rfl ?_
   refine DE_0 13 (.c (.v (.string (((((((⟨#[40]⟩ : ByteArray)) ++ y2) ++ ((⟨#[44]⟩ : ByteArray))) ++ y5) ++ ((⟨#[44]⟩ : ByteArray))) ++ y8)))) kk rfl rfl rfl (zO rfl) kk (Y0_cat (a := (((((⟨#[40]⟩ : ByteArray)) ++ y2) ++ ((⟨#[44]⟩ : ByteArray))) ++ y5) ++ ((⟨#[44]⟩ : ByteArray))) (b := y8) rfl kk kk (catR_some hu9)) 16 rfl ?_
   refine DE_0 14 (.c (.v (.string ((((((((⟨#[40]⟩ : ByteArray)) ++ y2) ++ ((⟨#[44]⟩ : ByteArray))) ++ y5) ++ ((⟨#[44]⟩ : ByteArray))) ++ y8) ++ ((⟨#[41]⟩ : ByteArray)))))) kk rfl rfl rfl (zO rfl) kk (Y0_cat (a := ((((((⟨#[40]⟩ : ByteArray)) ++ y2) ++ ((⟨#[44]⟩ : ByteArray))) ++ y5) ++ ((⟨#[44]⟩ : ByteArray))) ++ y8) (b := (⟨#[41]⟩ : ByteArray)) rfl kk kk (catR_some hu10)) 17 rfl ?_
   refine DA 1 ?_
   exact XE
  refine zR ?_
  obtain rfl := zE h
  show Post _ _ _ _ _
  exact ⟨.inr rfl, rfl, rfl, rfl⟩
theorem cf_impl_ParseForm : ∀ args w, (callFunc 73 args).run Tryz.prog w = .ok (.enter 73 args) w := zI Tryz.func73 kk kk
theorem s_impl_ParseForm {vs1 : ByteArray} {r : (((Int × Int × Int)) × Bool)} (h : r_impl_ParseForm vs1 = some r) : z7 Tryz.prog 73 [.c (.v (.string vs1))] (.tc (.ag [Ti r.1.1, Ti r.1.2.1, Ti r.1.2.2]) (.tc (Bo r.2) .tn)) [] := by
  refine zH (rs := [.w 2 3, .t 3]) (vs := [.cell 2 38, .tmp 3]) Tryz.func73 rfl rfl (.cons ⟨rfl, wd38⟩ (.cons rfl FitsL.nil)) (by decide) 33 rfl ?_
  unfold r_impl_ParseForm at h
  show V _ _ ⟨.c (.v (.string vs1)) :: bt 32 [], []⟩ _
  refine V_e (mb 33 5) [16] (s1 := ⟨.c (.v (.string vs1)) :: .bot :: .pt 16 0 :: bt 30 [], [(16, .box [Ti 0, Ti 0, Ti 0])]⟩) ?_
  obtain ⟨y2, hy2, h⟩ := zD h
  refine zG (mb 33 21) [56, 16] (s1 := ⟨.c (.v (.string vs1)) :: .bot :: .pt 16 0 :: .bot :: .ow 56 :: bt 28 [], [(56, .arr 3 1 (y2.map c3)), (16, .box [Ti 0, Ti 0, Ti 0])]⟩) ?_ ?_
  ·refine XR 1 ?_
   refine XC (s_impl_integersIn hy2) cf_impl_integersIn rfl rfl rfl ?_
   exact XE
  refine zX ?_
  refine zG (mb 33 1045) [56, 16] (s1 := ⟨.c (.v (.string vs1)) :: .bot :: .pt 16 0 :: .bot :: .ow 56 :: bt 5 (Bo (!eqI ((y2.length : Int)) 3) :: bt 22 []), [(56, .arr 3 1 (y2.map c3)), (16, .box [Ti 0, Ti 0, Ti 0])]⟩) ?_ ?_
  ·refine XR 1 ?_
   refine L0 rfl rfl (Y0_lenM (c := c3) (xs := y2) Tryz.underlying24 rfl kk) ?_
   exact XE
  refine zQ rfl (fun hc3 => ?_) (fun hc3 => ?_)
  ·have h := zM h hc3
   refine zG (mb 33 12) [16] (s1 := ⟨.bot :: .bot :: .pt 16 0 :: Bo false :: bt 29 [], [(16, .box [Ti 0, Ti 0, Ti 0])]⟩) ?_ ?_
   ·refine L0 rfl rfl (qE (cs := [Ti 0, Ti 0, Ti 0]) pl38 bt38 rfl rfl kk) ?_
    exact XE
   refine zR ?_
   obtain rfl := zE h
   show Post _ _ _ _ _
   exact ⟨.inr rfl, rfl, rfl, rfl⟩
  ·have h := zK h hc3
   refine zV ?_
   show V _ _ _ _
   obtain ⟨e4, he4, h⟩ := zD h
   obtain ⟨e5, he5, h⟩ := zD h
   obtain ⟨e6, he6, h⟩ := zD h
   obtain ⟨e7, he7, h⟩ := zD h
   obtain ⟨e8, he8, h⟩ := zD h
   obtain ⟨e9, he9, h⟩ := zD h
   refine V_sdreg [0, 1, 3, 0, 8, 24, 0, 64, 192, 511, 0, 2047] 11 (cdm 11 [2271872, 2271873, 2271877, 2269226, 2269290, 2269546, 2099882, 2103978, 2120362, 2184533, 699050]) (mb 33 37) [40, 16] (s1 := ⟨.c (.v (.string vs1)) :: .bot :: .pt 16 0 :: .bot :: .bot :: .pt 40 0 :: bt 27 [], [(40, .box [Ti e5, Ti e7, Ti e9]), (16, .box [Ti 0, Ti 0, Ti 0])]⟩) kk kk ?_ ?_
   ·refine DR 1 ?_
    refine DE_0 1 (.po 56 1 (Int.toNat (0)) 0) kk rfl rfl rfl (zO rfl) kk (Y0_idxoM (c := c3) (xs := y2) (v := e4) (id := 56) (T := 3) (sz := 1) (n := 0) Tryz.underlying24 sz3 rfl kk kk kk he4) 13 rfl ?_
    refine DE_0 2 (I e5) kk rfl rfl rfl (zO rfl) kk (Y0_loado1 (c := c3) (xs := y2) (v := e5) (id := 56) (sz := 1) (T := 3) (off := 0) (n := 0) (d := Ti e5) (ds := []) sc3 rfl kk kk he5 kk) 14 rfl ?_
    refine DR 1 ?_
    refine DE_0 4 (.po 56 1 (Int.toNat (1)) 0) kk rfl rfl rfl (zO rfl) kk (Y0_idxoM (c := c3) (xs := y2) (v := e6) (id := 56) (T := 3) (sz := 1) (n := 1) Tryz.underlying24 sz3 rfl kk kk kk he6) 16 rfl ?_
    refine DE_0 5 (I e7) kk rfl rfl rfl (zO rfl) kk (Y0_loado1 (c := c3) (xs := y2) (v := e7) (id := 56) (sz := 1) (T := 3) (off := 0) (n := 1) (d := Ti e7) (ds := []) sc3 rfl kk kk he7 kk) 17 rfl ?_
    refine DR 1 ?_
    refine DE_0 7 (.po 56 1 (Int.toNat (2)) 0) kk rfl rfl rfl (zO rfl) kk (Y0_idxoM (c := c3) (xs := y2) (v := e8) (id := 56) (T := 3) (sz := 1) (n := 2) Tryz.underlying24 sz3 rfl kk kk kk he8) 19 rfl ?_
    refine DE_0 8 (I e9) kk rfl rfl rfl (zO rfl) kk (Y0_loado1 (c := c3) (xs := y2) (v := e9) (id := 56) (sz := 1) (T := 3) (off := 0) (n := 2) (d := Ti e9) (ds := []) sc3 rfl kk kk he9 kk) 20 rfl ?_
    refine DE_0 9 (.ag [Ti e5, Ti e7, Ti e9]) kk rfl rfl rfl (zO rfl) kk (qE (cs := [Ti e5, Ti e7, Ti e9]) pl38 bt38 rfl rfl kk) 21 rfl ?_
    refine DA 1 ?_
    exact XE
   refine zX ?_
   obtain ⟨y10, hy10, h⟩ := zD h
   obtain ⟨b13, hb13, h⟩ := zD h
   refine zG (mb 33 1073741860) [40, 16] (s1 := ⟨.bot :: .bot :: .pt 16 0 :: .bot :: .bot :: .pt 40 0 :: bt 24 (Bo b13 :: .bot :: .bot :: []), [(40, .box [Ti e5, Ti e7, Ti e9]), (16, .box [Ti 0, Ti 0, Ti 0])]⟩) ?_ ?_
   ·refine XR 1 ?_
    refine XC (s_impl_IsForm hy10) cf_impl_IsForm rfl rfl rfl ?_
    refine XR 2 ?_
    refine zP (!y10) (fun hc11 => ?_) (fun hc11 => ?_)
    ·have hb13 := zE (zM hb13 hc11)
     refine zL _ rfl rfl kk hc11 rfl ?_
     refine zL _ rfl rfl kk hc11 rfl ?_
     refine zL _ rfl rfl kk hc11 rfl ?_
     refine zL _ rfl rfl kk hc11 rfl ?_
     refine zJ rfl (zA rfl (Y0_pickTe (b := !y10) (p := true) rfl kk hc11 kk hb13)) ?_
     exact XE
    ·have hb13 := zK hb13 hc11
     obtain ⟨y12, hy12, hb13⟩ := zD hb13
     have hb13 := zE hb13
     refine zB _ rfl rfl kk hc11 (zA rfl (E_loadn (cs := [Ti e5, Ti e7, Ti e9]) [Ti e5, Ti e7, Ti e9] wd38 rfl kk (Nat.le_of_ble_eq_true rfl) kk)) ?_
     refine zB _ rfl rfl kk hc11 (X_of_Y1 rfl (Y1_call (s_impl_formText hy12) cf_impl_formText rfl kk)) ?_
     refine zB _ rfl rfl kk hc11 (zA rfl (zY (.c (.v (.string vs1))) rfl kk)) ?_
     refine zB _ rfl rfl kk hc11 (zA rfl (Y0_nes (a := y12) (b := vs1) rfl kk kk)) ?_
     refine zJ rfl (zA rfl (Y0_pickFe (b := !y10) (p := !(y12.toList == vs1.toList)) rfl kk hc11 kk hb13)) ?_
     exact XE
   refine zQ rfl (fun hc14 => ?_) (fun hc14 => ?_)
   ·have h := zM h hc14
    refine zG (mb 33 12) [16] (s1 := ⟨.bot :: .bot :: .pt 16 0 :: Bo false :: bt 29 [], [(16, .box [Ti 0, Ti 0, Ti 0])]⟩) ?_ ?_
    ·refine L0 rfl rfl (qE (cs := [Ti 0, Ti 0, Ti 0]) pl38 bt38 rfl rfl kk) ?_
     exact XE
    refine zR ?_
    obtain rfl := zE h
    show Post _ _ _ _ _
    exact ⟨.inr rfl, rfl, rfl, rfl⟩
   ·have h := zK h hc14
    refine zV ?_
    show V _ _ _ _
    refine V_e (mb 33 12) [16] (s1 := ⟨.bot :: .bot :: .pt 16 0 :: Bo true :: bt 29 [], [(16, .box [Ti e5, Ti e7, Ti e9])]⟩) ?_
    refine zR ?_
    obtain rfl := zE h
    show Post _ _ _ _ _
    exact ⟨.inr rfl, rfl, rfl, rfl⟩
theorem cf_impl_isName : ∀ args w, (callFunc 103 args).run Tryz.prog w = .ok (.enter 103 args) w := zI Tryz.func103 kk kk
theorem s_impl_isName {vs1 : ByteArray} {r : Bool} (h : r_impl_isName vs1 = some r) : z7 Tryz.prog 103 [.c (.v (.string vs1))] (Bo r) [] := by
  refine zH (rs := [.t 2]) (vs := [.tmp 2]) Tryz.func103 rfl rfl (.cons rfl FitsL.nil) (by decide) 28 rfl ?_
  unfold r_impl_isName at h
  show V _ _ ⟨.c (.v (.string vs1)) :: bt 27 [], []⟩ _
  refine V_e (mb 28 1) [] (s1 := ⟨.c (.v (.string vs1)) :: bt 27 [], []⟩) ?_
  refine zX ?_
  refine V_e (mb 28 9) [] (s1 := ⟨.c (.v (.string vs1)) :: .bot :: .bot :: I 0 :: bt 24 [], []⟩) ?_
  obtain ⟨qo4, hLo4, hko4⟩ := zD h
  refine V_toS (q := qo4) (S := fun o4 => ⟨.c (.v (.string vs1)) :: bt 27 [], []⟩) (mb 28 1) [] ?_ ?_
  ·refine zZ (V_loop (fun n s => ∃ (i2 : Int), s.keep (mb 28 9) [] = (⟨.c (.v (.string vs1)) :: .bot :: .bot :: I i2 :: bt 24 [], []⟩ : St) ∧ r_impl_isName_L3 vs1 n i2 = some qo4) FU ⟨_,  by rfl, hLo4⟩ ?_)
   clear hLo4
   rintro n s ⟨i2, hs, h⟩
   refine V_keep _ _ hs ?_
   clear hs
   cases n with
   | zero => cases h
   | succ n =>
    rw [r_impl_isName_L3] at h
    refine zX ?_
    refine zG (mb 28 137) [] (s1 := ⟨.c (.v (.string vs1)) :: .bot :: .bot :: I i2 :: bt 3 (Bo (ltI i2 ((vs1.size : Int))) :: bt 20 []), []⟩) ?_ ?_
    ·refine XR 2 ?_
     refine L0 rfl rfl (Y0_lens (b := vs1) Tryz.underlying9 rfl kk) ?_
     exact XE
    refine zQ rfl (fun hc5 => ?_) (fun hc5 => ?_)
    ·have h := zM h hc5
     refine zV ?_
     show V _ _ _ _
     refine zX ?_
     refine zZ ?_
     obtain ⟨e6, he6, h⟩ := zD h
     obtain ⟨b9, hb9, h⟩ := zD h
     refine zG (mb 28 524297) [] (s1 := ⟨.c (.v (.string vs1)) :: .bot :: .bot :: I i2 :: bt 15 (Bo b9 :: bt 8 []), []⟩) ?_ ?_
     ·refine XR 2 ?_
      refine L0 rfl rfl (Y0_idxs (b := vs1) (k := .i64) (n := i2) (v := e6) Tryz.underlying9 rfl kk kk he6) ?_
      refine L0 rfl rfl (Y0_ltw (k := .u8) (a := e6) (b := 97) rfl kk kk) ?_
      refine XR 1 ?_
      refine zP (ltI e6 97) (fun hc7 => ?_) (fun hc7 => ?_)
      ·have hb9 := zE (zM hb9 hc7)
       refine zL _ rfl rfl kk hc7 rfl ?_
       refine zL _ rfl rfl kk hc7 rfl ?_
       refine zL _ rfl rfl kk hc7 rfl ?_
       refine zL _ rfl rfl kk hc7 rfl ?_
       refine zJ rfl (zA rfl (Y0_pickTe (b := ltI e6 97) (p := true) rfl kk hc7 kk hb9)) ?_
       exact XE
      ·have hb9 := zK hb9 hc7
       obtain ⟨e8, he8, hb9⟩ := zD hb9
       have hb9 := zE hb9
       refine zB _ rfl rfl kk hc7 (zA rfl (zY (.c (.v (.string vs1))) rfl kk)) ?_
       refine zB _ rfl rfl kk hc7 (zA rfl (zY (I i2) rfl kk)) ?_
       refine zB _ rfl rfl kk hc7 (zA rfl (Y0_idxs (b := vs1) (k := .i64) (n := i2) (v := e8) Tryz.underlying9 rfl kk kk he8)) ?_
       refine zB _ rfl rfl kk hc7 (zA rfl (Y0_gtw (k := .u8) (a := e8) (b := 122) rfl kk kk)) ?_
       refine zJ rfl (zA rfl (Y0_pickFe (b := ltI e6 97) (p := ltI 122 e8) rfl kk hc7 kk hb9)) ?_
       exact XE
     refine zQ rfl (fun hc10 => ?_) (fun hc10 => ?_)
     ·have h := zM h hc10
      refine V_e (mb 28 4) [] (s1 := ⟨.bot :: .bot :: Bo false :: bt 25 [], []⟩) ?_
      refine zR ?_
      obtain rfl := zE h
      have h := hko4
      obtain rfl := zE h
      show Post _ _ _ _ _
      exact ⟨.inr rfl, rfl, rfl, rfl⟩
     ·have h := zK h hc10
      refine zV ?_
      show V _ _ _ _
      obtain ⟨i11, hi11, h⟩ := qF h
      refine V_reg (mb 28 9) [] (s1 := ⟨.c (.v (.string vs1)) :: .bot :: .bot :: I i11 :: bt 24 [], []⟩) ?_ ?_
      ·refine XR 3 ?_
       refine zN ?_
       subst hi11
       kernel_rfl
      exact ⟨n, Nat.lt_succ_self n, _,  by rfl, h⟩
    ·have h := zK h hc5
     refine V_exit ?_
     obtain rfl := zE h
     exact ⟨_, rfl, by rfl⟩
  rintro o4 rfl
  have h := hko4
  clear hko4
  show V _ _ _ _
  obtain ⟨t13, ht13, h⟩ := zD h
  have ht13 := zE ht13
  refine zG (mb 28 4) [] (s1 := ⟨.bot :: .bot :: Bo t13 :: bt 25 [], []⟩) ?_ ?_
  ·refine XR 1 ?_
   refine L0 rfl rfl (Y0_lens (b := vs1) Tryz.underlying9 rfl kk) ?_
   refine XR 2 ?_
   refine zP (leI 1 ((vs1.size : Int))) (fun hc12 => ?_) (fun hc12 => ?_)
   ·refine zB _ rfl rfl kk hc12 (zA rfl (zY (.c (.v (.string vs1))) rfl kk)) ?_
    refine zB _ rfl rfl kk hc12 (zA rfl (Y0_lens (b := vs1) Tryz.underlying9 rfl kk)) ?_
    refine zB _ rfl rfl kk hc12 (zA rfl (Y0_lew (k := .i64) (a := (vs1.size : Int)) (b := 8) rfl kk kk)) ?_
    refine zJ rfl (zA rfl (zW (b := leI 1 ((vs1.size : Int))) (p := leI ((vs1.size : Int)) 8) (q := false) rfl kk hc12 kk)) ?_
    refine XR 1 ?_
    refine zN ?_
    subst ht13
    kernel_rfl
   ·refine zF _ rfl rfl kk hc12 rfl ?_
    refine zF _ rfl rfl kk hc12 rfl ?_
    refine zF _ rfl rfl kk hc12 rfl ?_
    refine zJ rfl (zA rfl (zT (b := leI 1 ((vs1.size : Int))) (p := leI ((vs1.size : Int)) 8) (q := false) rfl kk hc12 kk)) ?_
    refine XR 1 ?_
    refine zN ?_
    subst ht13
    kernel_rfl
  refine zR ?_
  obtain rfl := zE h
  show Post _ _ _ _ _
  exact ⟨.inr rfl, rfl, rfl, rfl⟩
theorem cf_impl_Form_disc : ∀ args w, (callFunc 169 args).run Tryz.prog w = .ok (.enter 169 args) w := zI Tryz.func169 kk kk
theorem s_impl_Form_disc {f1 : (Int × Int × Int)} {r : Int} (h : r_impl_Form_disc f1 = some r) : z7 Tryz.prog 169 [.ag [Ti f1.1, Ti f1.2.1, Ti f1.2.2]] (I r) [] := by
  refine zH (rs := [.t 2]) (vs := [.tmp 2]) Tryz.func169 rfl rfl (.cons rfl FitsL.nil) (by decide) 15 rfl ?_
  unfold r_impl_Form_disc at h
  show V _ _ ⟨.ag [Ti f1.1, Ti f1.2.1, Ti f1.2.2] :: bt 14 [], []⟩ _
  refine V_e (mb 15 2) [8] (s1 := ⟨.bot :: .pt 8 0 :: bt 13 [], [(8, .box [Ti f1.1, Ti f1.2.1, Ti f1.2.2])]⟩) ?_
  obtain ⟨t2, ht2, h⟩ := qF h
  refine zG (mb 15 4) [] (s1 := ⟨.bot :: .bot :: I t2 :: bt 12 [], []⟩) ?_ ?_
  ·refine XR 13 ?_
   refine zN ?_
   subst ht2
   kernel_rfl
  refine zR ?_
  obtain rfl := zE h
  show Post _ _ _ _ _
  exact ⟨.inr rfl, rfl, rfl, rfl⟩
theorem cf_impl_isDefinite : ∀ args w, (callFunc 77 args).run Tryz.prog w = .ok (.enter 77 args) w := zI Tryz.func77 kk kk
theorem s_impl_isDefinite {f1 : (Int × Int × Int)} {r : Bool} (h : r_impl_isDefinite f1 = some r) : z7 Tryz.prog 77 [.ag [Ti f1.1, Ti f1.2.1, Ti f1.2.2]] (Bo r) [] := by
  refine zH (rs := [.t 2]) (vs := [.tmp 2]) Tryz.func77 rfl rfl (.cons rfl FitsL.nil) (by decide) 15 rfl ?_
  unfold r_impl_isDefinite at h
  show V _ _ ⟨.ag [Ti f1.1, Ti f1.2.1, Ti f1.2.2] :: bt 14 [], []⟩ _
  refine V_e (mb 15 2) [8] (s1 := ⟨.bot :: .pt 8 0 :: bt 13 [], [(8, .box [Ti f1.1, Ti f1.2.1, Ti f1.2.2])]⟩) ?_
  obtain ⟨y2, hy2, h⟩ := zD h
  obtain ⟨b5, hb5, h⟩ := zD h
  refine zG (mb 15 4) [] (s1 := ⟨.bot :: .bot :: Bo (bif b5 then (ltI 0 f1.1) else false) :: bt 12 [], []⟩) ?_ ?_
  ·refine XR 1 ?_
   refine XC (s_impl_IsForm hy2) cf_impl_IsForm rfl rfl rfl ?_
   refine XR 1 ?_
   refine zP y2 (fun hc3 => ?_) (fun hc3 => ?_)
   ·have hb5 := zM hb5 hc3
    obtain ⟨y4, hy4, hb5⟩ := zD hb5
    have hb5 := zE hb5
    refine zB _ rfl rfl kk hc3 (zA rfl (E_loadn (cs := [Ti f1.1, Ti f1.2.1, Ti f1.2.2]) [Ti f1.1, Ti f1.2.1, Ti f1.2.2] wd38 rfl kk (Nat.le_of_ble_eq_true rfl) kk)) ?_
    refine zB _ rfl rfl kk hc3 (X_of_Y1 rfl (Y1_call (s_impl_Form_disc hy4) cf_impl_Form_disc rfl kk)) ?_
    refine zB _ rfl rfl kk hc3 (zA rfl (Y0_ltw (k := .i64) (a := y4) (b := 0) rfl kk kk)) ?_
    refine zJ rfl (zA rfl (Y0_pickTe (b := y2) (p := ltI y4 0) rfl kk hc3 kk hb5)) ?_
    refine XR 1 ?_
    refine zP b5 (fun hc6 => ?_) (fun hc6 => ?_)
    ·refine zB _ rfl rfl kk hc6 (zA rfl (qD (.pt 8 0) Tryz.underlying38 rfl sz3 rfl kk (by intro hh; cases hh))) ?_
     refine zB _ rfl rfl kk hc6 (zA rfl (qC (c := Ti f1.1) (cs := [Ti f1.2.1, Ti f1.2.2]) sc3 rfl kk)) ?_
     refine zB _ rfl rfl kk hc6 (zA rfl (Y0_gtw (k := .i64) (a := f1.1) (b := 0) rfl kk kk)) ?_
     refine zJ rfl (zA rfl (zW (b := b5) (p := ltI 0 f1.1) (q := false) rfl kk hc6 kk)) ?_
     exact XE
    ·refine zF _ rfl rfl kk hc6 rfl ?_
     refine zF _ rfl rfl kk hc6 rfl ?_
     refine zF _ rfl rfl kk hc6 rfl ?_
     refine zJ rfl (zA rfl (zT (b := b5) (p := ltI 0 f1.1) (q := false) rfl kk hc6 kk)) ?_
     exact XE
   ·have hb5 := zE (zK hb5 hc3)
    refine zF _ rfl rfl kk hc3 rfl ?_
    refine zF _ rfl rfl kk hc3 rfl ?_
    refine zF _ rfl rfl kk hc3 rfl ?_
    refine zJ rfl (zA rfl (Y0_pickFe (b := y2) (p := false) rfl kk hc3 kk hb5)) ?_
    refine XR 1 ?_
    refine zP b5 (fun hc6 => ?_) (fun hc6 => ?_)
    ·refine zB _ rfl rfl kk hc6 (zA rfl (qD (.pt 8 0) Tryz.underlying38 rfl sz3 rfl kk (by intro hh; cases hh))) ?_
     refine zB _ rfl rfl kk hc6 (zA rfl (qC (c := Ti f1.1) (cs := [Ti f1.2.1, Ti f1.2.2]) sc3 rfl kk)) ?_
     refine zB _ rfl rfl kk hc6 (zA rfl (Y0_gtw (k := .i64) (a := f1.1) (b := 0) rfl kk kk)) ?_
     refine zJ rfl (zA rfl (zW (b := b5) (p := ltI 0 f1.1) (q := false) rfl kk hc6 kk)) ?_
     exact XE
    ·refine zF _ rfl rfl kk hc6 rfl ?_
     refine zF _ rfl rfl kk hc6 rfl ?_
     refine zF _ rfl rfl kk hc6 rfl ?_
     refine zJ rfl (zA rfl (zT (b := b5) (p := ltI 0 f1.1) (q := false) rfl kk hc6 kk)) ?_
     exact XE
  refine zR ?_
  obtain rfl := zE h
  show Post _ _ _ _ _
  exact ⟨.inr rfl, rfl, rfl, rfl⟩
theorem cf_impl_isShownForm : ∀ args w, (callFunc 187 args).run Tryz.prog w = .ok (.enter 187 args) w := zI Tryz.func187 kk kk
theorem s_impl_isShownForm {f1 : (Int × Int × Int)} {r : Bool} (h : r_impl_isShownForm f1 = some r) : z7 Tryz.prog 187 [.ag [Ti f1.1, Ti f1.2.1, Ti f1.2.2]] (Bo r) [] := by
  refine zH (rs := [.t 2]) (vs := [.tmp 2]) Tryz.func187 rfl rfl (.cons rfl FitsL.nil) (by decide) 10 rfl ?_
  unfold r_impl_isShownForm at h
  show V _ _ ⟨.ag [Ti f1.1, Ti f1.2.1, Ti f1.2.2] :: bt 9 [], []⟩ _
  refine V_e (mb 10 2) [8] (s1 := ⟨.bot :: .pt 8 0 :: bt 8 [], [(8, .box [Ti f1.1, Ti f1.2.1, Ti f1.2.2])]⟩) ?_
  obtain ⟨y2, hy2, h⟩ := zD h
  obtain ⟨b5, hb5, h⟩ := zD h
  refine zG (mb 10 4) [] (s1 := ⟨.bot :: .bot :: Bo b5 :: bt 7 [], []⟩) ?_ ?_
  ·refine XR 1 ?_
   refine XC (s_impl_isDefinite hy2) cf_impl_isDefinite rfl rfl rfl ?_
   refine XR 1 ?_
   refine zP y2 (fun hc3 => ?_) (fun hc3 => ?_)
   ·have hb5 := zM hb5 hc3
    obtain ⟨y4, hy4, hb5⟩ := zD hb5
    have hb5 := zE hb5
    refine zB _ rfl rfl kk hc3 (zA rfl (E_loadn (cs := [Ti f1.1, Ti f1.2.1, Ti f1.2.2]) [Ti f1.1, Ti f1.2.1, Ti f1.2.2] wd38 rfl kk (Nat.le_of_ble_eq_true rfl) kk)) ?_
    refine zB _ rfl rfl kk hc3 (X_of_Y1 rfl (Y1_call (s_impl_Form_disc hy4) cf_impl_Form_disc rfl kk)) ?_
    refine zB _ rfl rfl kk hc3 (zA rfl (Y0_gew (k := .i64) (a := y4) (b := -2000) rfl kk kk)) ?_
    refine zJ rfl (zA rfl (Y0_pickTe (b := y2) (p := leI (-2000) y4) rfl kk hc3 kk hb5)) ?_
    exact XE
   ·have hb5 := zE (zK hb5 hc3)
    refine zF _ rfl rfl kk hc3 rfl ?_
    refine zF _ rfl rfl kk hc3 rfl ?_
    refine zF _ rfl rfl kk hc3 rfl ?_
    refine zJ rfl (zA rfl (Y0_pickFe (b := y2) (p := false) rfl kk hc3 kk hb5)) ?_
    exact XE
  refine zR ?_
  obtain rfl := zE h
  show Post _ _ _ _ _
  exact ⟨.inr rfl, rfl, rfl, rfl⟩
theorem cf_impl_abs : ∀ args w, (callFunc 84 args).run Tryz.prog w = .ok (.enter 84 args) w := zI Tryz.func84 kk kk
theorem s_impl_abs {vn1 : Int} {r : Int} (h : r_impl_abs vn1 = some r) : z7 Tryz.prog 84 [I vn1] (I r) [] := by
  refine zH (rs := [.t 2]) (vs := [.tmp 2]) Tryz.func84 rfl rfl (.cons rfl FitsL.nil) (by decide) 8 rfl ?_
  unfold r_impl_abs at h
  show V _ _ ⟨I vn1 :: bt 7 [], []⟩ _
  refine V_e (mb 8 1) [] (s1 := ⟨I vn1 :: bt 7 [], []⟩) ?_
  obtain ⟨t2, ht2, h⟩ := qF h
  refine zG (mb 8 4) [] (s1 := ⟨.bot :: .bot :: I t2 :: bt 5 [], []⟩) ?_ ?_
  ·refine XR 2 ?_
   refine L0 rfl rfl (Y0_max (a := vn1) (b := -9223372036854775807) rfl kk kk) ?_
   refine XR 1 ?_
   refine L0 rfl rfl (Y0_max (a := vn1) (b := w64 (0 - (mxI vn1 (-9223372036854775807)))) rfl kk kk) ?_
   refine XR 1 ?_
   refine zN ?_
   subst ht2
   kernel_rfl
  refine zR ?_
  obtain rfl := zE h
  show Post _ _ _ _ _
  exact ⟨.inr rfl, rfl, rfl, rfl⟩
theorem cf_impl_gcd : ∀ args w, (callFunc 80 args).run Tryz.prog w = .ok (.enter 80 args) w := zI Tryz.func80 kk kk
theorem s_impl_gcd {a1 : Int} {b2 : Int} {r : Int} (h : r_impl_gcd a1 b2 = some r) : z7 Tryz.prog 80 [I a1, I b2] (I r) [] := by
  refine zH (rs := [.t 4]) (vs := [.tmp 4]) Tryz.func80 rfl rfl (.cons rfl FitsL.nil) (by decide) 13 rfl ?_
  unfold r_impl_gcd at h
  show V _ _ ⟨I a1 :: I b2 :: bt 11 [], []⟩ _
  refine V_e (mb 13 3) [] (s1 := ⟨I a1 :: I b2 :: bt 11 [], []⟩) ?_
  refine zX ?_
  obtain ⟨o6, hLo6, h⟩ := zD h
  refine V_toK (mb 13 1) [] (s1 := ⟨I o6 :: bt 12 [], []⟩) ?_ ?_
  ·clear h
   refine zZ (V_loop (fun n s => ∃ (a3 : Int) (b4 : Int), s.keep (mb 13 3) [] = (⟨I a3 :: I b4 :: bt 11 [], []⟩ : St) ∧ r_impl_gcd_L5 n a3 b4 = some o6) FU ⟨_, _,  by rfl, hLo6⟩ ?_)
   clear hLo6
   rintro n s ⟨a3, b4, hs, h⟩
   refine V_keep _ _ hs ?_
   clear hs
   cases n with
   | zero => cases h
   | succ n =>
    rw [r_impl_gcd_L5] at h
    refine zX ?_
    refine V_e (mb 13 67) [] (s1 := ⟨I a3 :: I b4 :: bt 4 (Bo (!eqI b4 0) :: bt 6 []), []⟩) ?_
    refine zQ rfl (fun hc7 => ?_) (fun hc7 => ?_)
    ·have h := zM h hc7
     refine zV ?_
     show V _ _ _ _
     refine zZ ?_
     obtain ⟨z8, hz8, h⟩ := zD h
     obtain ⟨b9, hb9, h⟩ := qF h
     refine V_dreg [0, 0, 0, 6, 3, 31] 6 (cdm 6 [168, 34, 522, 534, 165, 341]) (mb 13 3) [] (s1 := ⟨I b4 :: I b9 :: bt 11 [], []⟩) kk kk ?_ ?_
     ·refine DR 3 ?_
      refine DE_0 3 (I (Int.tmod a3 b4)) kk rfl rfl rfl (zO rfl) kk (Y0_rem (k := .i64) (a := a3) (b := b4) rfl kk kk (nz_some hz8)) 10 rfl ?_
      refine DA 2 ?_
      refine zN ?_
      subst hb9
      kernel_rfl
     exact ⟨n, Nat.lt_succ_self n, _, _,  by rfl, h⟩
    ·have h := zK h hc7
     refine V_exit ?_
     obtain rfl := zE h
     show St.keep _ _ _ = _
     rfl
  show V _ _ _ _
  obtain ⟨y10, hy10, h⟩ := zD h
  refine zG (mb 13 16) [] (s1 := ⟨bt 4 (I y10 :: bt 8 []), []⟩) ?_ ?_
  ·refine XR 1 ?_
   refine XC (s_impl_abs hy10) cf_impl_abs rfl rfl rfl ?_
   exact XE
  refine zR ?_
  obtain rfl := zE h
  show Post _ _ _ _ _
  exact ⟨.inr rfl, rfl, rfl, rfl⟩
theorem cf_impl_Form_content : ∀ args w, (callFunc 188 args).run Tryz.prog w = .ok (.enter 188 args) w := zI Tryz.func188 kk kk
theorem s_impl_Form_content {f1 : (Int × Int × Int)} {r : Int} (h : r_impl_Form_content f1 = some r) : z7 Tryz.prog 188 [.ag [Ti f1.1, Ti f1.2.1, Ti f1.2.2]] (I r) [] := by
  refine zH (rs := [.t 2]) (vs := [.tmp 2]) Tryz.func188 rfl rfl (.cons rfl FitsL.nil) (by decide) 11 rfl ?_
  unfold r_impl_Form_content at h
  show V _ _ ⟨.ag [Ti f1.1, Ti f1.2.1, Ti f1.2.2] :: bt 10 [], []⟩ _
  refine V_e (mb 11 2) [8] (s1 := ⟨.bot :: .pt 8 0 :: bt 9 [], [(8, .box [Ti f1.1, Ti f1.2.1, Ti f1.2.2])]⟩) ?_
  obtain ⟨y2, hy2, h⟩ := zD h
  obtain ⟨y3, hy3, h⟩ := zD h
  refine V_sdreg [0, 1, 0, 4, 0, 16, 60, 127, 255] 9 (cdm 9 [10912, 10913, 2570, 2586, 170, 426, 1370, 5461, 21845]) (mb 11 4) [] (s1 := ⟨.bot :: .bot :: I y3 :: bt 8 [], []⟩) kk kk ?_ ?_
  ·refine DR 6 ?_
   refine DC 6 (s_impl_gcd hy2) cf_impl_gcd rfl rfl rfl rfl 9 rfl ?_
   refine DC 7 (s_impl_gcd hy3) cf_impl_gcd rfl rfl rfl rfl 10 rfl ?_
   refine DA 1 ?_
   exact XE
  refine zR ?_
  obtain rfl := zE h
  show Post _ _ _ _ _
  exact ⟨.inr rfl, rfl, rfl, rfl⟩
theorem cf_impl_isClassForm : ∀ args w, (callFunc 104 args).run Tryz.prog w = .ok (.enter 104 args) w := zI Tryz.func104 kk kk
theorem s_impl_isClassForm {f1 : (Int × Int × Int)} {r : Bool} (h : r_impl_isClassForm f1 = some r) : z7 Tryz.prog 104 [.ag [Ti f1.1, Ti f1.2.1, Ti f1.2.2]] (Bo r) [] := by
  refine zH (rs := [.t 2]) (vs := [.tmp 2]) Tryz.func104 rfl rfl (.cons rfl FitsL.nil) (by decide) 10 rfl ?_
  unfold r_impl_isClassForm at h
  show V _ _ ⟨.ag [Ti f1.1, Ti f1.2.1, Ti f1.2.2] :: bt 9 [], []⟩ _
  refine V_e (mb 10 2) [8] (s1 := ⟨.bot :: .pt 8 0 :: bt 8 [], [(8, .box [Ti f1.1, Ti f1.2.1, Ti f1.2.2])]⟩) ?_
  obtain ⟨y2, hy2, h⟩ := zD h
  obtain ⟨b5, hb5, h⟩ := zD h
  refine zG (mb 10 4) [] (s1 := ⟨.bot :: .bot :: Bo b5 :: bt 7 [], []⟩) ?_ ?_
  ·refine XR 1 ?_
   refine XC (s_impl_isShownForm hy2) cf_impl_isShownForm rfl rfl rfl ?_
   refine XR 1 ?_
   refine zP y2 (fun hc3 => ?_) (fun hc3 => ?_)
   ·have hb5 := zM hb5 hc3
    obtain ⟨y4, hy4, hb5⟩ := zD hb5
    have hb5 := zE hb5
    refine zB _ rfl rfl kk hc3 (zA rfl (E_loadn (cs := [Ti f1.1, Ti f1.2.1, Ti f1.2.2]) [Ti f1.1, Ti f1.2.1, Ti f1.2.2] wd38 rfl kk (Nat.le_of_ble_eq_true rfl) kk)) ?_
    refine zB _ rfl rfl kk hc3 (X_of_Y1 rfl (Y1_call (s_impl_Form_content hy4) cf_impl_Form_content rfl kk)) ?_
    refine zB _ rfl rfl kk hc3 (zA rfl (Y0_eqw (k := .i64) (a := y4) (b := 1) rfl kk kk)) ?_
    refine zJ rfl (zA rfl (Y0_pickTe (b := y2) (p := eqI y4 1) rfl kk hc3 kk hb5)) ?_
    exact XE
   ·have hb5 := zE (zK hb5 hc3)
    refine zF _ rfl rfl kk hc3 rfl ?_
    refine zF _ rfl rfl kk hc3 rfl ?_
    refine zF _ rfl rfl kk hc3 rfl ?_
    refine zJ rfl (zA rfl (Y0_pickFe (b := y2) (p := false) rfl kk hc3 kk hb5)) ?_
    exact XE
  refine zR ?_
  obtain rfl := zE h
  show Post _ _ _ _ _
  exact ⟨.inr rfl, rfl, rfl, rfl⟩
theorem cf_impl_isCommand : ∀ args w, (callFunc 53 args).run Tryz.prog w = .ok (.enter 53 args) w := zI Tryz.func53 kk kk
theorem s_impl_isCommand {c1 : (Int × ByteArray × ByteArray × ByteArray × ((Int × Int × Int)))} {r : Bool} (h : r_impl_isCommand c1 = some r) : z7 Tryz.prog 53 [.ag [Ti c1.1, .v (.string c1.2.1), .v (.string c1.2.2.1), .v (.string c1.2.2.2.1), Ti c1.2.2.2.2.1, Ti c1.2.2.2.2.2.1, Ti c1.2.2.2.2.2.2]] (Bo r) [] := by
  refine zH (rs := [.t 2]) (vs := [.tmp 2]) Tryz.func53 rfl rfl (.cons rfl FitsL.nil) (by decide) 73 rfl ?_
  unfold r_impl_isCommand at h
  show V _ _ ⟨.ag [Ti c1.1, .v (.string c1.2.1), .v (.string c1.2.2.1), .v (.string c1.2.2.2.1), Ti c1.2.2.2.2.1, Ti c1.2.2.2.2.2.1, Ti c1.2.2.2.2.2.2] :: bt 72 [], []⟩ _
  refine V_e (mb 73 2) [8] (s1 := ⟨.bot :: .pt 8 0 :: bt 71 [], [(8, .box [Ti c1.1, .v (.string c1.2.1), .v (.string c1.2.2.1), .v (.string c1.2.2.2.1), Ti c1.2.2.2.2.1, Ti c1.2.2.2.2.2.1, Ti c1.2.2.2.2.2.2])]⟩) ?_
  refine zX ?_
  obtain ⟨y2, hy2, h⟩ := zD h
  refine zG (mb 73 66) [8] (s1 := ⟨.bot :: .pt 8 0 :: bt 4 (Bo (!y2) :: bt 66 []), [(8, .box [Ti c1.1, .v (.string c1.2.1), .v (.string c1.2.2.1), .v (.string c1.2.2.2.1), Ti c1.2.2.2.2.1, Ti c1.2.2.2.2.2.1, Ti c1.2.2.2.2.2.2])]⟩) ?_ ?_
  ·refine XR 2 ?_
   refine XC (s_impl_isName hy2) cf_impl_isName rfl rfl rfl ?_
   exact XE
  refine zQ rfl (fun hc3 => ?_) (fun hc3 => ?_)
  ·have h := zM h hc3
   refine V_e (mb 73 4) [] (s1 := ⟨.bot :: .bot :: Bo false :: bt 70 [], []⟩) ?_
   refine zR ?_
   obtain rfl := zE h
   show Post _ _ _ _ _
   exact ⟨.inr rfl, rfl, rfl, rfl⟩
  ·have h := zK h hc3
   refine zV ?_
   show V _ _ _ _
   refine zX ?_
   refine V_e (mb 73 258) [8] (s1 := ⟨.bot :: .pt 8 0 :: bt 6 (I c1.1 :: bt 64 []), [(8, .box [Ti c1.1, .v (.string c1.2.1), .v (.string c1.2.2.1), .v (.string c1.2.2.2.1), Ti c1.2.2.2.2.1, Ti c1.2.2.2.2.2.1, Ti c1.2.2.2.2.2.2])]⟩) ?_
   refine zZ ?_
   obtain ⟨j4, hj4, h⟩ := zD h
   refine V_cutK (mb 73 770) [8] (s1 := ⟨.bot :: .pt 8 0 :: bt 6 (I c1.1 :: Bo j4 :: bt 63 []), [(8, .box [Ti c1.1, .v (.string c1.2.1), .v (.string c1.2.2.1), .v (.string c1.2.2.2.1), Ti c1.2.2.2.2.1, Ti c1.2.2.2.2.2.1, Ti c1.2.2.2.2.2.2])]⟩) ?_ ?_
   ·clear h
    have h := hj4
    clear hj4
    refine V_e (mb 73 770) [8] (s1 := ⟨.bot :: .pt 8 0 :: bt 6 (I c1.1 :: Bo (eqI c1.1 1) :: bt 63 []), [(8, .box [Ti c1.1, .v (.string c1.2.1), .v (.string c1.2.2.1), .v (.string c1.2.2.2.1), Ti c1.2.2.2.2.1, Ti c1.2.2.2.2.2.1, Ti c1.2.2.2.2.2.2])]⟩) ?_
    refine zQ rfl (fun hc5 => ?_) (fun hc5 => ?_)
    ·have h := zM h hc5
     refine zV ?_
     obtain rfl := zE h
     show St.keep _ _ _ = _
     rfl
    ·have h := zK h hc5
     refine V_reg (mb 73 770) [8] (s1 := ⟨.bot :: .pt 8 0 :: bt 6 (I c1.1 :: Bo (eqI c1.1 5) :: bt 63 []), [(8, .box [Ti c1.1, .v (.string c1.2.1), .v (.string c1.2.2.1), .v (.string c1.2.2.2.1), Ti c1.2.2.2.2.1, Ti c1.2.2.2.2.2.1, Ti c1.2.2.2.2.2.2])]⟩) ?_ ?_
     ·exact XE
     obtain rfl := zE h
     show St.keep _ _ _ = _
     rfl
   refine zQ rfl (fun hc6 => ?_) (fun hc6 => ?_)
   ·have h := zM h hc6
    obtain ⟨b10, hb10, h⟩ := zD h
    refine zG (mb 73 4) [] (s1 := ⟨.bot :: .bot :: Bo b10 :: bt 70 [], []⟩) ?_ ?_
    ·refine XR 2 ?_
     refine L0 rfl rfl (Y0_eqs (a := c1.2.2.1) (b := ((⟨#[]⟩ : ByteArray))) rfl kk kk) ?_
     refine XR 1 ?_
     refine zP (c1.2.2.1.toList == ((⟨#[]⟩ : ByteArray)).toList) (fun hc7 => ?_) (fun hc7 => ?_)
     ·refine zB _ rfl rfl kk hc7 (zA rfl (qD (.pt 8 3) Tryz.underlying40 rfl sz9 rfl kk (by intro hh; cases hh))) ?_
      refine zB _ rfl rfl kk hc7 (zA rfl (qC (c := .v (.string c1.2.2.2.1)) (cs := [Ti c1.2.2.2.2.1, Ti c1.2.2.2.2.2.1, Ti c1.2.2.2.2.2.2]) sc9 rfl kk)) ?_
      refine zB _ rfl rfl kk hc7 (zA rfl (Y0_eqs (a := c1.2.2.2.1) (b := ((⟨#[]⟩ : ByteArray))) rfl kk kk)) ?_
      refine zJ rfl (zA rfl (zW (b := c1.2.2.1.toList == ((⟨#[]⟩ : ByteArray)).toList) (p := c1.2.2.2.1.toList == ((⟨#[]⟩ : ByteArray)).toList) (q := false) rfl kk hc7 kk)) ?_
      refine XR 1 ?_
      refine zP (bif (c1.2.2.1.toList == ((⟨#[]⟩ : ByteArray)).toList) then (c1.2.2.2.1.toList == ((⟨#[]⟩ : ByteArray)).toList) else false) (fun hc8 => ?_) (fun hc8 => ?_)
      ·have hb10 := zM hb10 hc8
       obtain ⟨y9, hy9, hb10⟩ := zD hb10
       have hb10 := zE hb10
       refine zB _ rfl rfl kk hc8 (zA rfl (qD (.pt 8 4) Tryz.underlying40 rfl sz38 rfl kk (by intro hh; cases hh))) ?_
       refine zB _ rfl rfl kk hc8 (zA rfl (E_loadn (cs := [Ti c1.2.2.2.2.1, Ti c1.2.2.2.2.2.1, Ti c1.2.2.2.2.2.2]) [Ti c1.2.2.2.2.1, Ti c1.2.2.2.2.2.1, Ti c1.2.2.2.2.2.2] wd38 rfl kk (Nat.le_of_ble_eq_true rfl) kk)) ?_
       refine zB _ rfl rfl kk hc8 (X_of_Y1 rfl (Y1_call (s_impl_isClassForm hy9) cf_impl_isClassForm rfl kk)) ?_
       refine zJ rfl (zA rfl (Y0_pickTe (b := bif (c1.2.2.1.toList == ((⟨#[]⟩ : ByteArray)).toList) then (c1.2.2.2.1.toList == ((⟨#[]⟩ : ByteArray)).toList) else false) (p := y9) rfl kk hc8 kk hb10)) ?_
       exact XE
      ·have hb10 := zE (zK hb10 hc8)
       refine zF _ rfl rfl kk hc8 rfl ?_
       refine zF _ rfl rfl kk hc8 rfl ?_
       refine zF _ rfl rfl kk hc8 rfl ?_
       refine zJ rfl (zA rfl (Y0_pickFe (b := bif (c1.2.2.1.toList == ((⟨#[]⟩ : ByteArray)).toList) then (c1.2.2.2.1.toList == ((⟨#[]⟩ : ByteArray)).toList) else false) (p := false) rfl kk hc8 kk hb10)) ?_
       exact XE
     ·refine zF _ rfl rfl kk hc7 rfl ?_
      refine zF _ rfl rfl kk hc7 rfl ?_
      refine zF _ rfl rfl kk hc7 rfl ?_
      refine zJ rfl (zA rfl (zT (b := c1.2.2.1.toList == ((⟨#[]⟩ : ByteArray)).toList) (p := c1.2.2.2.1.toList == ((⟨#[]⟩ : ByteArray)).toList) (q := false) rfl kk hc7 kk)) ?_
      refine XR 1 ?_
      refine zP (bif (c1.2.2.1.toList == ((⟨#[]⟩ : ByteArray)).toList) then (c1.2.2.2.1.toList == ((⟨#[]⟩ : ByteArray)).toList) else false) (fun hc8 => ?_) (fun hc8 => ?_)
      ·have hb10 := zM hb10 hc8
       obtain ⟨y9, hy9, hb10⟩ := zD hb10
       have hb10 := zE hb10
       refine zB _ rfl rfl kk hc8 (zA rfl (qD (.pt 8 4) Tryz.underlying40 rfl sz38 rfl kk (by intro hh; cases hh))) ?_
       refine zB _ rfl rfl kk hc8 (zA rfl (E_loadn (cs := [Ti c1.2.2.2.2.1, Ti c1.2.2.2.2.2.1, Ti c1.2.2.2.2.2.2]) [Ti c1.2.2.2.2.1, Ti c1.2.2.2.2.2.1, Ti c1.2.2.2.2.2.2] wd38 rfl kk (Nat.le_of_ble_eq_true rfl) kk)) ?_
       refine zB _ rfl rfl kk hc8 (X_of_Y1 rfl (Y1_call (s_impl_isClassForm hy9) cf_impl_isClassForm rfl kk)) ?_
       refine zJ rfl (zA rfl (Y0_pickTe (b := bif (c1.2.2.1.toList == ((⟨#[]⟩ : ByteArray)).toList) then (c1.2.2.2.1.toList == ((⟨#[]⟩ : ByteArray)).toList) else false) (p := y9) rfl kk hc8 kk hb10)) ?_
       exact XE
      ·have hb10 := zE (zK hb10 hc8)
       refine zF _ rfl rfl kk hc8 rfl ?_
       refine zF _ rfl rfl kk hc8 rfl ?_
       refine zF _ rfl rfl kk hc8 rfl ?_
       refine zJ rfl (zA rfl (Y0_pickFe (b := bif (c1.2.2.1.toList == ((⟨#[]⟩ : ByteArray)).toList) then (c1.2.2.2.1.toList == ((⟨#[]⟩ : ByteArray)).toList) else false) (p := false) rfl kk hc8 kk hb10)) ?_
       exact XE
    refine zR ?_
    obtain rfl := zE h
    show Post _ _ _ _ _
    exact ⟨.inr rfl, rfl, rfl, rfl⟩
   ·have h := zK h hc6
    refine V_e (mb 73 33554690) [8] (s1 := ⟨.bot :: .pt 8 0 :: bt 6 (I c1.1 :: bt 16 (Bo (eqI c1.1 2) :: bt 47 [])), [(8, .box [Ti c1.1, .v (.string c1.2.1), .v (.string c1.2.2.1), .v (.string c1.2.2.2.1), Ti c1.2.2.2.2.1, Ti c1.2.2.2.2.2.1, Ti c1.2.2.2.2.2.2])]⟩) ?_
    refine zQ rfl (fun hc11 => ?_) (fun hc11 => ?_)
    ·have h := zM h hc11
     obtain ⟨t14, ht14, h⟩ := zD h
     have ht14 := zE ht14
     refine zG (mb 73 4) [] (s1 := ⟨.bot :: .bot :: Bo t14 :: bt 70 [], []⟩) ?_ ?_
     ·refine XR 2 ?_
      refine L0 rfl rfl (Y0_eqs (a := c1.2.2.1) (b := ((⟨#[]⟩ : ByteArray))) rfl kk kk) ?_
      refine XR 1 ?_
      refine zP (c1.2.2.1.toList == ((⟨#[]⟩ : ByteArray)).toList) (fun hc12 => ?_) (fun hc12 => ?_)
      ·refine zB _ rfl rfl kk hc12 (zA rfl (qD (.pt 8 3) Tryz.underlying40 rfl sz9 rfl kk (by intro hh; cases hh))) ?_
       refine zB _ rfl rfl kk hc12 (zA rfl (qC (c := .v (.string c1.2.2.2.1)) (cs := [Ti c1.2.2.2.2.1, Ti c1.2.2.2.2.2.1, Ti c1.2.2.2.2.2.2]) sc9 rfl kk)) ?_
       refine zB _ rfl rfl kk hc12 (zA rfl (Y0_eqs (a := c1.2.2.2.1) (b := ((⟨#[]⟩ : ByteArray))) rfl kk kk)) ?_
       refine zJ rfl (zA rfl (zW (b := c1.2.2.1.toList == ((⟨#[]⟩ : ByteArray)).toList) (p := c1.2.2.2.1.toList == ((⟨#[]⟩ : ByteArray)).toList) (q := false) rfl kk hc12 kk)) ?_
       refine XR 1 ?_
       refine zP (bif (c1.2.2.1.toList == ((⟨#[]⟩ : ByteArray)).toList) then (c1.2.2.2.1.toList == ((⟨#[]⟩ : ByteArray)).toList) else false) (fun hc13 => ?_) (fun hc13 => ?_)
       ·refine zB _ rfl rfl kk hc13 (zA rfl (qD (.pt 8 4) Tryz.underlying40 rfl sz38 rfl kk (by intro hh; cases hh))) ?_
        refine zB _ rfl rfl kk hc13 (zA rfl (E_loadn (cs := [Ti c1.2.2.2.2.1, Ti c1.2.2.2.2.2.1, Ti c1.2.2.2.2.2.2]) [Ti c1.2.2.2.2.1, Ti c1.2.2.2.2.2.1, Ti c1.2.2.2.2.2.2] wd38 rfl kk (Nat.le_of_ble_eq_true rfl) kk)) ?_
        refine zB _ rfl rfl kk hc13 (zA rfl (qE (cs := [Ti 0, Ti 0, Ti 0]) pl38 bt38 rfl rfl kk)) ?_
        refine zB _ rfl rfl kk hc13 (zA rfl (Y0_eqg3 (a0 := c1.2.2.2.2.1) (b0 := 0) (a1 := c1.2.2.2.2.2.1) (b1 := 0) (a2 := c1.2.2.2.2.2.2) (b2 := 0) eqg38 rfl kk kk)) ?_
        refine zJ rfl (zA rfl (zW (b := bif (c1.2.2.1.toList == ((⟨#[]⟩ : ByteArray)).toList) then (c1.2.2.2.1.toList == ((⟨#[]⟩ : ByteArray)).toList) else false) (p := ((c1.2.2.2.2.1 == 0) && ((c1.2.2.2.2.2.1 == 0) && (c1.2.2.2.2.2.2 == 0)))) (q := false) rfl kk hc13 kk)) ?_
        refine XR 1 ?_
        refine zN ?_
        subst ht14
        kernel_rfl
       ·refine zF _ rfl rfl kk hc13 rfl ?_
        refine zF _ rfl rfl kk hc13 rfl ?_
        refine zF _ rfl rfl kk hc13 rfl ?_
        refine zF _ rfl rfl kk hc13 rfl ?_
        refine zJ rfl (zA rfl (zT (b := bif (c1.2.2.1.toList == ((⟨#[]⟩ : ByteArray)).toList) then (c1.2.2.2.1.toList == ((⟨#[]⟩ : ByteArray)).toList) else false) (p := ((c1.2.2.2.2.1 == 0) && ((c1.2.2.2.2.2.1 == 0) && (c1.2.2.2.2.2.2 == 0)))) (q := false) rfl kk hc13 kk)) ?_
        refine XR 1 ?_
        refine zN ?_
        subst ht14
        kernel_rfl
      ·refine zF _ rfl rfl kk hc12 rfl ?_
       refine zF _ rfl rfl kk hc12 rfl ?_
       refine zF _ rfl rfl kk hc12 rfl ?_
       refine zJ rfl (zA rfl (zT (b := c1.2.2.1.toList == ((⟨#[]⟩ : ByteArray)).toList) (p := c1.2.2.2.1.toList == ((⟨#[]⟩ : ByteArray)).toList) (q := false) rfl kk hc12 kk)) ?_
       refine XR 1 ?_
       refine zP (bif (c1.2.2.1.toList == ((⟨#[]⟩ : ByteArray)).toList) then (c1.2.2.2.1.toList == ((⟨#[]⟩ : ByteArray)).toList) else false) (fun hc13 => ?_) (fun hc13 => ?_)
       ·refine zB _ rfl rfl kk hc13 (zA rfl (qD (.pt 8 4) Tryz.underlying40 rfl sz38 rfl kk (by intro hh; cases hh))) ?_
        refine zB _ rfl rfl kk hc13 (zA rfl (E_loadn (cs := [Ti c1.2.2.2.2.1, Ti c1.2.2.2.2.2.1, Ti c1.2.2.2.2.2.2]) [Ti c1.2.2.2.2.1, Ti c1.2.2.2.2.2.1, Ti c1.2.2.2.2.2.2] wd38 rfl kk (Nat.le_of_ble_eq_true rfl) kk)) ?_
        refine zB _ rfl rfl kk hc13 (zA rfl (qE (cs := [Ti 0, Ti 0, Ti 0]) pl38 bt38 rfl rfl kk)) ?_
        refine zB _ rfl rfl kk hc13 (zA rfl (Y0_eqg3 (a0 := c1.2.2.2.2.1) (b0 := 0) (a1 := c1.2.2.2.2.2.1) (b1 := 0) (a2 := c1.2.2.2.2.2.2) (b2 := 0) eqg38 rfl kk kk)) ?_
        refine zJ rfl (zA rfl (zW (b := bif (c1.2.2.1.toList == ((⟨#[]⟩ : ByteArray)).toList) then (c1.2.2.2.1.toList == ((⟨#[]⟩ : ByteArray)).toList) else false) (p := ((c1.2.2.2.2.1 == 0) && ((c1.2.2.2.2.2.1 == 0) && (c1.2.2.2.2.2.2 == 0)))) (q := false) rfl kk hc13 kk)) ?_
        refine XR 1 ?_
        refine zN ?_
        subst ht14
        kernel_rfl
       ·refine zF _ rfl rfl kk hc13 rfl ?_
        refine zF _ rfl rfl kk hc13 rfl ?_
        refine zF _ rfl rfl kk hc13 rfl ?_
        refine zF _ rfl rfl kk hc13 rfl ?_
        refine zJ rfl (zA rfl (zT (b := bif (c1.2.2.1.toList == ((⟨#[]⟩ : ByteArray)).toList) then (c1.2.2.2.1.toList == ((⟨#[]⟩ : ByteArray)).toList) else false) (p := ((c1.2.2.2.2.1 == 0) && ((c1.2.2.2.2.2.1 == 0) && (c1.2.2.2.2.2.2 == 0)))) (q := false) rfl kk hc13 kk)) ?_
        refine XR 1 ?_
        refine zN ?_
        subst ht14
        kernel_rfl
     refine zR ?_
     obtain rfl := zE h
     show Post _ _ _ _ _
     exact ⟨.inr rfl, rfl, rfl, rfl⟩
    ·have h := zK h hc11
     refine V_e (mb 73 2199023255810) [8] (s1 := ⟨.bot :: .pt 8 0 :: bt 6 (I c1.1 :: bt 32 (Bo (eqI c1.1 3) :: bt 31 [])), [(8, .box [Ti c1.1, .v (.string c1.2.1), .v (.string c1.2.2.1), .v (.string c1.2.2.2.1), Ti c1.2.2.2.2.1, Ti c1.2.2.2.2.2.1, Ti c1.2.2.2.2.2.2])]⟩) ?_
     refine zQ rfl (fun hc15 => ?_) (fun hc15 => ?_)
     ·have h := zM h hc15
      obtain ⟨y16, hy16, h⟩ := zD h
      obtain ⟨b19, hb19, h⟩ := zD h
      obtain ⟨t21, ht21, h⟩ := zD h
      have ht21 := zE ht21
      refine zG (mb 73 4) [] (s1 := ⟨.bot :: .bot :: Bo t21 :: bt 70 [], []⟩) ?_ ?_
      ·refine XR 2 ?_
       refine XC (s_impl_isName hy16) cf_impl_isName rfl rfl rfl ?_
       refine XR 1 ?_
       refine zP y16 (fun hc17 => ?_) (fun hc17 => ?_)
       ·have hb19 := zM hb19 hc17
        obtain ⟨y18, hy18, hb19⟩ := zD hb19
        have hb19 := zE hb19
        refine zB _ rfl rfl kk hc17 (zA rfl (qD (.pt 8 3) Tryz.underlying40 rfl sz9 rfl kk (by intro hh; cases hh))) ?_
        refine zB _ rfl rfl kk hc17 (zA rfl (qC (c := .v (.string c1.2.2.2.1)) (cs := [Ti c1.2.2.2.2.1, Ti c1.2.2.2.2.2.1, Ti c1.2.2.2.2.2.2]) sc9 rfl kk)) ?_
        refine zB _ rfl rfl kk hc17 (X_of_Y1 rfl (Y1_call (s_impl_isName hy18) cf_impl_isName rfl kk)) ?_
        refine zJ rfl (zA rfl (Y0_pickTe (b := y16) (p := y18) rfl kk hc17 kk hb19)) ?_
        refine XR 1 ?_
        refine zP b19 (fun hc20 => ?_) (fun hc20 => ?_)
        ·refine zB _ rfl rfl kk hc20 (zA rfl (qD (.pt 8 4) Tryz.underlying40 rfl sz38 rfl kk (by intro hh; cases hh))) ?_
         refine zB _ rfl rfl kk hc20 (zA rfl (E_loadn (cs := [Ti c1.2.2.2.2.1, Ti c1.2.2.2.2.2.1, Ti c1.2.2.2.2.2.2]) [Ti c1.2.2.2.2.1, Ti c1.2.2.2.2.2.1, Ti c1.2.2.2.2.2.2] wd38 rfl kk (Nat.le_of_ble_eq_true rfl) kk)) ?_
         refine zB _ rfl rfl kk hc20 (zA rfl (qE (cs := [Ti 0, Ti 0, Ti 0]) pl38 bt38 rfl rfl kk)) ?_
         refine zB _ rfl rfl kk hc20 (zA rfl (Y0_eqg3 (a0 := c1.2.2.2.2.1) (b0 := 0) (a1 := c1.2.2.2.2.2.1) (b1 := 0) (a2 := c1.2.2.2.2.2.2) (b2 := 0) eqg38 rfl kk kk)) ?_
         refine zJ rfl (zA rfl (zW (b := b19) (p := ((c1.2.2.2.2.1 == 0) && ((c1.2.2.2.2.2.1 == 0) && (c1.2.2.2.2.2.2 == 0)))) (q := false) rfl kk hc20 kk)) ?_
         refine XR 1 ?_
         refine zN ?_
         subst ht21
         kernel_rfl
        ·refine zF _ rfl rfl kk hc20 rfl ?_
         refine zF _ rfl rfl kk hc20 rfl ?_
         refine zF _ rfl rfl kk hc20 rfl ?_
         refine zF _ rfl rfl kk hc20 rfl ?_
         refine zJ rfl (zA rfl (zT (b := b19) (p := ((c1.2.2.2.2.1 == 0) && ((c1.2.2.2.2.2.1 == 0) && (c1.2.2.2.2.2.2 == 0)))) (q := false) rfl kk hc20 kk)) ?_
         refine XR 1 ?_
         refine zN ?_
         subst ht21
         kernel_rfl
       ·have hb19 := zE (zK hb19 hc17)
        refine zF _ rfl rfl kk hc17 rfl ?_
        refine zF _ rfl rfl kk hc17 rfl ?_
        refine zF _ rfl rfl kk hc17 rfl ?_
        refine zJ rfl (zA rfl (Y0_pickFe (b := y16) (p := false) rfl kk hc17 kk hb19)) ?_
        refine XR 1 ?_
        refine zP b19 (fun hc20 => ?_) (fun hc20 => ?_)
        ·refine zB _ rfl rfl kk hc20 (zA rfl (qD (.pt 8 4) Tryz.underlying40 rfl sz38 rfl kk (by intro hh; cases hh))) ?_
         refine zB _ rfl rfl kk hc20 (zA rfl (E_loadn (cs := [Ti c1.2.2.2.2.1, Ti c1.2.2.2.2.2.1, Ti c1.2.2.2.2.2.2]) [Ti c1.2.2.2.2.1, Ti c1.2.2.2.2.2.1, Ti c1.2.2.2.2.2.2] wd38 rfl kk (Nat.le_of_ble_eq_true rfl) kk)) ?_
         refine zB _ rfl rfl kk hc20 (zA rfl (qE (cs := [Ti 0, Ti 0, Ti 0]) pl38 bt38 rfl rfl kk)) ?_
         refine zB _ rfl rfl kk hc20 (zA rfl (Y0_eqg3 (a0 := c1.2.2.2.2.1) (b0 := 0) (a1 := c1.2.2.2.2.2.1) (b1 := 0) (a2 := c1.2.2.2.2.2.2) (b2 := 0) eqg38 rfl kk kk)) ?_
         refine zJ rfl (zA rfl (zW (b := b19) (p := ((c1.2.2.2.2.1 == 0) && ((c1.2.2.2.2.2.1 == 0) && (c1.2.2.2.2.2.2 == 0)))) (q := false) rfl kk hc20 kk)) ?_
         refine XR 1 ?_
         refine zN ?_
         subst ht21
         kernel_rfl
        ·refine zF _ rfl rfl kk hc20 rfl ?_
         refine zF _ rfl rfl kk hc20 rfl ?_
         refine zF _ rfl rfl kk hc20 rfl ?_
         refine zF _ rfl rfl kk hc20 rfl ?_
         refine zJ rfl (zA rfl (zT (b := b19) (p := ((c1.2.2.2.2.1 == 0) && ((c1.2.2.2.2.2.1 == 0) && (c1.2.2.2.2.2.2 == 0)))) (q := false) rfl kk hc20 kk)) ?_
         refine XR 1 ?_
         refine zN ?_
         subst ht21
         kernel_rfl
      refine zR ?_
      obtain rfl := zE h
      show Post _ _ _ _ _
      exact ⟨.inr rfl, rfl, rfl, rfl⟩
     ·have h := zK h hc15
      refine V_e (mb 73 144115188075855874) [8] (s1 := ⟨.bot :: .pt 8 0 :: bt 55 (Bo (eqI c1.1 4) :: bt 15 []), [(8, .box [Ti c1.1, .v (.string c1.2.1), .v (.string c1.2.2.1), .v (.string c1.2.2.2.1), Ti c1.2.2.2.2.1, Ti c1.2.2.2.2.2.1, Ti c1.2.2.2.2.2.2])]⟩) ?_
      refine zQ rfl (fun hc22 => ?_) (fun hc22 => ?_)
      ·have h := zM h hc22
       obtain ⟨y23, hy23, h⟩ := zD h
       obtain ⟨t26, ht26, h⟩ := zD h
       have ht26 := zE ht26
       refine zG (mb 73 4) [] (s1 := ⟨.bot :: .bot :: Bo t26 :: bt 70 [], []⟩) ?_ ?_
       ·refine XR 2 ?_
        refine XC (s_impl_isName hy23) cf_impl_isName rfl rfl rfl ?_
        refine XR 1 ?_
        refine zP y23 (fun hc24 => ?_) (fun hc24 => ?_)
        ·refine zB _ rfl rfl kk hc24 (zA rfl (qD (.pt 8 3) Tryz.underlying40 rfl sz9 rfl kk (by intro hh; cases hh))) ?_
         refine zB _ rfl rfl kk hc24 (zA rfl (qC (c := .v (.string c1.2.2.2.1)) (cs := [Ti c1.2.2.2.2.1, Ti c1.2.2.2.2.2.1, Ti c1.2.2.2.2.2.2]) sc9 rfl kk)) ?_
         refine zB _ rfl rfl kk hc24 (zA rfl (Y0_eqs (a := c1.2.2.2.1) (b := ((⟨#[]⟩ : ByteArray))) rfl kk kk)) ?_
         refine zJ rfl (zA rfl (zW (b := y23) (p := c1.2.2.2.1.toList == ((⟨#[]⟩ : ByteArray)).toList) (q := false) rfl kk hc24 kk)) ?_
         refine XR 1 ?_
         refine zP (bif y23 then (c1.2.2.2.1.toList == ((⟨#[]⟩ : ByteArray)).toList) else false) (fun hc25 => ?_) (fun hc25 => ?_)
         ·refine zB _ rfl rfl kk hc25 (zA rfl (qD (.pt 8 4) Tryz.underlying40 rfl sz38 rfl kk (by intro hh; cases hh))) ?_
          refine zB _ rfl rfl kk hc25 (zA rfl (E_loadn (cs := [Ti c1.2.2.2.2.1, Ti c1.2.2.2.2.2.1, Ti c1.2.2.2.2.2.2]) [Ti c1.2.2.2.2.1, Ti c1.2.2.2.2.2.1, Ti c1.2.2.2.2.2.2] wd38 rfl kk (Nat.le_of_ble_eq_true rfl) kk)) ?_
          refine zB _ rfl rfl kk hc25 (zA rfl (qE (cs := [Ti 0, Ti 0, Ti 0]) pl38 bt38 rfl rfl kk)) ?_
          refine zB _ rfl rfl kk hc25 (zA rfl (Y0_eqg3 (a0 := c1.2.2.2.2.1) (b0 := 0) (a1 := c1.2.2.2.2.2.1) (b1 := 0) (a2 := c1.2.2.2.2.2.2) (b2 := 0) eqg38 rfl kk kk)) ?_
          refine zJ rfl (zA rfl (zW (b := bif y23 then (c1.2.2.2.1.toList == ((⟨#[]⟩ : ByteArray)).toList) else false) (p := ((c1.2.2.2.2.1 == 0) && ((c1.2.2.2.2.2.1 == 0) && (c1.2.2.2.2.2.2 == 0)))) (q := false) rfl kk hc25 kk)) ?_
          refine XR 1 ?_
          refine zN ?_
          subst ht26
          kernel_rfl
         ·refine zF _ rfl rfl kk hc25 rfl ?_
          refine zF _ rfl rfl kk hc25 rfl ?_
          refine zF _ rfl rfl kk hc25 rfl ?_
          refine zF _ rfl rfl kk hc25 rfl ?_
          refine zJ rfl (zA rfl (zT (b := bif y23 then (c1.2.2.2.1.toList == ((⟨#[]⟩ : ByteArray)).toList) else false) (p := ((c1.2.2.2.2.1 == 0) && ((c1.2.2.2.2.2.1 == 0) && (c1.2.2.2.2.2.2 == 0)))) (q := false) rfl kk hc25 kk)) ?_
          refine XR 1 ?_
          refine zN ?_
          subst ht26
          kernel_rfl
        ·refine zF _ rfl rfl kk hc24 rfl ?_
         refine zF _ rfl rfl kk hc24 rfl ?_
         refine zF _ rfl rfl kk hc24 rfl ?_
         refine zJ rfl (zA rfl (zT (b := y23) (p := c1.2.2.2.1.toList == ((⟨#[]⟩ : ByteArray)).toList) (q := false) rfl kk hc24 kk)) ?_
         refine XR 1 ?_
         refine zP (bif y23 then (c1.2.2.2.1.toList == ((⟨#[]⟩ : ByteArray)).toList) else false) (fun hc25 => ?_) (fun hc25 => ?_)
         ·refine zB _ rfl rfl kk hc25 (zA rfl (qD (.pt 8 4) Tryz.underlying40 rfl sz38 rfl kk (by intro hh; cases hh))) ?_
          refine zB _ rfl rfl kk hc25 (zA rfl (E_loadn (cs := [Ti c1.2.2.2.2.1, Ti c1.2.2.2.2.2.1, Ti c1.2.2.2.2.2.2]) [Ti c1.2.2.2.2.1, Ti c1.2.2.2.2.2.1, Ti c1.2.2.2.2.2.2] wd38 rfl kk (Nat.le_of_ble_eq_true rfl) kk)) ?_
          refine zB _ rfl rfl kk hc25 (zA rfl (qE (cs := [Ti 0, Ti 0, Ti 0]) pl38 bt38 rfl rfl kk)) ?_
          refine zB _ rfl rfl kk hc25 (zA rfl (Y0_eqg3 (a0 := c1.2.2.2.2.1) (b0 := 0) (a1 := c1.2.2.2.2.2.1) (b1 := 0) (a2 := c1.2.2.2.2.2.2) (b2 := 0) eqg38 rfl kk kk)) ?_
          refine zJ rfl (zA rfl (zW (b := bif y23 then (c1.2.2.2.1.toList == ((⟨#[]⟩ : ByteArray)).toList) else false) (p := ((c1.2.2.2.2.1 == 0) && ((c1.2.2.2.2.2.1 == 0) && (c1.2.2.2.2.2.2 == 0)))) (q := false) rfl kk hc25 kk)) ?_
          refine XR 1 ?_
          refine zN ?_
          subst ht26
          kernel_rfl
         ·refine zF _ rfl rfl kk hc25 rfl ?_
          refine zF _ rfl rfl kk hc25 rfl ?_
          refine zF _ rfl rfl kk hc25 rfl ?_
          refine zF _ rfl rfl kk hc25 rfl ?_
          refine zJ rfl (zA rfl (zT (b := bif y23 then (c1.2.2.2.1.toList == ((⟨#[]⟩ : ByteArray)).toList) else false) (p := ((c1.2.2.2.2.1 == 0) && ((c1.2.2.2.2.2.1 == 0) && (c1.2.2.2.2.2.2 == 0)))) (q := false) rfl kk hc25 kk)) ?_
          refine XR 1 ?_
          refine zN ?_
          subst ht26
          kernel_rfl
       refine zR ?_
       obtain rfl := zE h
       show Post _ _ _ _ _
       exact ⟨.inr rfl, rfl, rfl, rfl⟩
      ·have h := zK h hc22
       refine zV ?_
       show V _ _ _ _
       refine V_e (mb 73 4) [] (s1 := ⟨.bot :: .bot :: Bo false :: bt 70 [], []⟩) ?_
       refine zR ?_
       obtain rfl := zE h
       show Post _ _ _ _ _
       exact ⟨.inr rfl, rfl, rfl, rfl⟩
theorem cf_impl_commandText : ∀ args w, (callFunc 115 args).run Tryz.prog w = .ok (.enter 115 args) w := zI Tryz.func115 kk kk
theorem s_impl_commandText {c1 : (Int × ByteArray × ByteArray × ByteArray × ((Int × Int × Int)))} {r : ByteArray} (h : r_impl_commandText c1 = some r) : z7 Tryz.prog 115 [.ag [Ti c1.1, .v (.string c1.2.1), .v (.string c1.2.2.1), .v (.string c1.2.2.2.1), Ti c1.2.2.2.2.1, Ti c1.2.2.2.2.2.1, Ti c1.2.2.2.2.2.2]] (.c (.v (.string r))) [] := by
  refine zH (rs := [.t 2]) (vs := [.tmp 2]) Tryz.func115 rfl rfl (.cons rfl FitsL.nil) (by decide) 44 rfl ?_
  unfold r_impl_commandText at h
  show V _ _ ⟨.ag [Ti c1.1, .v (.string c1.2.1), .v (.string c1.2.2.1), .v (.string c1.2.2.2.1), Ti c1.2.2.2.2.1, Ti c1.2.2.2.2.2.1, Ti c1.2.2.2.2.2.2] :: bt 43 [], []⟩ _
  refine V_e (mb 44 2) [8] (s1 := ⟨.bot :: .pt 8 0 :: bt 42 [], [(8, .box [Ti c1.1, .v (.string c1.2.1), .v (.string c1.2.2.1), .v (.string c1.2.2.2.1), Ti c1.2.2.2.2.1, Ti c1.2.2.2.2.2.1, Ti c1.2.2.2.2.2.2])]⟩) ?_
  obtain ⟨e2, he2, h⟩ := zD h
  obtain ⟨e3, he3, h⟩ := zD h
  refine V_sdreg [0, 0, 2, 6, 15, 31, 0, 64, 255, 511] 10 (cdm 10 [41128, 40962, 40966, 40982, 41045, 41301, 2730, 6826, 21845, 87381]) (mb 44 10) [112, 8] (s1 := ⟨.bot :: .pt 8 0 :: .bot :: .ow 112 :: bt 40 [], [(112, .arr 9 1 (([e3, c1.2.1]).map c9)), (8, .box [Ti c1.1, .v (.string c1.2.1), .v (.string c1.2.2.1), .v (.string c1.2.2.2.1), Ti c1.2.2.2.2.1, Ti c1.2.2.2.2.2.1, Ti c1.2.2.2.2.2.2])]⟩) kk kk ?_ ?_
  ·refine DE_1 0 kk rfl rfl rfl (zO rfl) (Y1_bslice (z := zv9) (els := [(⟨#[97, 100, 100]⟩ : ByteArray), (⟨#[100, 114, 111, 112]⟩ : ByteArray), (⟨#[109, 117, 108]⟩ : ByteArray), (⟨#[105, 110, 118]⟩ : ByteArray), (⟨#[109, 111, 118, 101]⟩ : ByteArray)].map c9) Tryz.underlying66 iz9 rfl (by decide) rfl kk rfl (by simp [c9]) (by decide) (by decide)) rfl rfl rfl 6 rfl ?_
   refine DR 3 ?_
   refine DE_0 4 (.po 48 1 (Int.toNat (w64 (c1.1 - 1))) 0) kk rfl rfl rfl (zO rfl) kk (Y0_idxoM (c := c9) (xs := [(⟨#[97, 100, 100]⟩ : ByteArray), (⟨#[100, 114, 111, 112]⟩ : ByteArray), (⟨#[109, 117, 108]⟩ : ByteArray), (⟨#[105, 110, 118]⟩ : ByteArray), (⟨#[109, 111, 118, 101]⟩ : ByteArray)]) (v := e2) (id := 48) (T := 9) (sz := 1) (n := w64 (c1.1 - 1)) Tryz.underlying66 sz9 rfl kk kk kk he2) 10 rfl ?_
   refine DE_0 5 (.c (.v (.string e3))) kk rfl rfl rfl (zO rfl) kk (Y0_loado1 (c := c9) (xs := [(⟨#[97, 100, 100]⟩ : ByteArray), (⟨#[100, 114, 111, 112]⟩ : ByteArray), (⟨#[109, 117, 108]⟩ : ByteArray), (⟨#[105, 110, 118]⟩ : ByteArray), (⟨#[109, 111, 118, 101]⟩ : ByteArray)]) (v := e3) (id := 48) (sz := 1) (T := 9) (off := 0) (n := w64 (c1.1 - 1)) (d := .v (.string e3)) (ds := []) sc9 rfl kk kk he3 kk) 11 rfl ?_
   refine DR 2 ?_
   refine DE_1 8 kk rfl rfl rfl (zO rfl) (Y1_bslice (z := zv9) (els := [e3, c1.2.1].map c9) Tryz.underlying66 iz9 rfl (by decide) rfl kk rfl (by simp [c9]) (by decide) (by decide)) rfl rfl rfl 14 rfl ?_
   refine DA 1 ?_
   exact XE
  refine zX ?_
  obtain ⟨t4, ht4, h⟩ := qF h
  refine zG (mb 44 3670026) [152, 112, 8] (s1 := ⟨.bot :: .pt 8 0 :: .bot :: .ow 112 :: bt 15 (.ow 152 :: I t4 :: I 0 :: bt 22 []), [(152, .arr 9 1 (([c1.2.2.1, c1.2.2.2.1]).map c9)), (112, .arr 9 1 (([e3, c1.2.1]).map c9)), (8, .box [Ti c1.1, .v (.string c1.2.1), .v (.string c1.2.2.1), .v (.string c1.2.2.2.1), Ti c1.2.2.2.2.1, Ti c1.2.2.2.2.2.1, Ti c1.2.2.2.2.2.2])]⟩) ?_ ?_
  ·refine XR 4 ?_
   refine L1 rfl rfl (Y1_bslice (z := zv9) (els := [c1.2.2.1, c1.2.2.2.1].map c9) Tryz.underlying66 iz9 rfl (by decide) rfl kk rfl (by simp [c9]) (by decide) (by decide)) ?_
   refine L0 rfl rfl (Y0_lenM (c := c9) (xs := [c1.2.2.1, c1.2.2.2.1]) Tryz.underlying66 rfl kk) ?_
   refine XR 1 ?_
   refine zN ?_
   subst ht4
   kernel_rfl
  obtain ⟨o8, hLo8, h⟩ := zD h
  refine V_toK (mb 44 10) [112, 8] (s1 := ⟨.bot :: .pt 8 0 :: .bot :: .ow 112 :: bt 40 [], [(112, .arr 9 1 (o8.map c9)), (8, .box [Ti c1.1, .v (.string c1.2.1), .v (.string c1.2.2.1), .v (.string c1.2.2.2.1), Ti c1.2.2.2.2.1, Ti c1.2.2.2.2.2.1, Ti c1.2.2.2.2.2.2])]⟩) ?_ ?_
  ·clear h
   refine zZ (V_loop (fun n s => ∃ (t5 : Int) (l6 : List ByteArray), s.keep (mb 44 3670026) [152, 112, 8] = (⟨.bot :: .pt 8 0 :: .bot :: .ow 112 :: bt 15 (.ow 152 :: I t4 :: I t5 :: bt 22 []), [(152, .arr 9 1 (([c1.2.2.1, c1.2.2.2.1]).map c9)), (112, .arr 9 1 (l6.map c9)), (8, .box [Ti c1.1, .v (.string c1.2.1), .v (.string c1.2.2.1), .v (.string c1.2.2.2.1), Ti c1.2.2.2.2.1, Ti c1.2.2.2.2.2.1, Ti c1.2.2.2.2.2.2])]⟩ : St) ∧ r_impl_commandText_L7 c1 t4 n t5 l6 = some o8) FU ⟨_, _,  by rfl, hLo8⟩ ?_)
   clear hLo8
   rintro n s ⟨t5, l6, hs, h⟩
   refine V_keep _ _ hs ?_
   clear hs
   cases n with
   | zero => cases h
   | succ n =>
    rw [r_impl_commandText_L7] at h
    refine V_e (mb 44 7864330) [152, 112, 8] (s1 := ⟨.bot :: .pt 8 0 :: .bot :: .ow 112 :: bt 15 (.ow 152 :: I t4 :: I t5 :: Bo (ltI t5 t4) :: bt 21 []), [(152, .arr 9 1 (([c1.2.2.1, c1.2.2.2.1]).map c9)), (112, .arr 9 1 (l6.map c9)), (8, .box [Ti c1.1, .v (.string c1.2.1), .v (.string c1.2.2.1), .v (.string c1.2.2.2.1), Ti c1.2.2.2.2.1, Ti c1.2.2.2.2.2.1, Ti c1.2.2.2.2.2.2])]⟩) ?_
    refine zX ?_
    refine zQ rfl (fun hc9 => ?_) (fun hc9 => ?_)
    ·have h := zM h hc9
     refine zV ?_
     show V _ _ _ _
     refine zX ?_
     refine zZ ?_
     obtain ⟨e10, he10, h⟩ := zD h
     obtain ⟨e11, he11, h⟩ := zD h
     refine zG (mb 44 3670058) [152, 112, 8] (s1 := ⟨.bot :: .pt 8 0 :: .bot :: .ow 112 :: .bot :: .c (.v (.string e11)) :: bt 13 (.ow 152 :: I t4 :: I t5 :: bt 22 []), [(152, .arr 9 1 (([c1.2.2.1, c1.2.2.2.1]).map c9)), (112, .arr 9 1 (l6.map c9)), (8, .box [Ti c1.1, .v (.string c1.2.1), .v (.string c1.2.2.1), .v (.string c1.2.2.2.1), Ti c1.2.2.2.2.1, Ti c1.2.2.2.2.2.1, Ti c1.2.2.2.2.2.2])]⟩) ?_ ?_
     ·refine L0 rfl rfl (Y0_idxoM (c := c9) (xs := [c1.2.2.1, c1.2.2.2.1]) (v := e10) (id := 152) (T := 9) (sz := 1) (n := t5) Tryz.underlying66 sz9 rfl kk kk kk he10) ?_
      refine L0 rfl rfl (Y0_loado1 (c := c9) (xs := [c1.2.2.1, c1.2.2.2.1]) (v := e11) (id := 152) (sz := 1) (T := 9) (off := 0) (n := t5) (d := .v (.string e11)) (ds := []) sc9 rfl kk kk he11 kk) ?_
      exact XE
     refine zG (mb 44 70778922) [152, 112, 8] (s1 := ⟨.bot :: .pt 8 0 :: .bot :: .ow 112 :: .bot :: .c (.v (.string e11)) :: bt 13 (.ow 152 :: I t4 :: I t5 :: bt 4 (Bo (!(e11.toList == ((⟨#[]⟩ : ByteArray)).toList)) :: bt 17 [])), [(152, .arr 9 1 (([c1.2.2.1, c1.2.2.2.1]).map c9)), (112, .arr 9 1 (l6.map c9)), (8, .box [Ti c1.1, .v (.string c1.2.1), .v (.string c1.2.2.1), .v (.string c1.2.2.2.1), Ti c1.2.2.2.2.1, Ti c1.2.2.2.2.2.1, Ti c1.2.2.2.2.2.2])]⟩) ?_ ?_
     ·refine XR 1 ?_
      refine L0 rfl rfl (Y0_nes (a := e11) (b := ((⟨#[]⟩ : ByteArray))) rfl kk kk) ?_
      exact XE
     refine zQ rfl (fun hc12 => ?_) (fun hc12 => ?_)
     ·have h := zM h hc12
      obtain ⟨u13, hu13, h⟩ := zD h
      refine V_reg (mb 44 3670026) [152, 112, 8] (s1 := ⟨.bot :: .pt 8 0 :: .bot :: .ow 112 :: bt 15 (.ow 152 :: I t4 :: I t5 :: bt 22 []), [(152, .arr 9 1 (([c1.2.2.1, c1.2.2.2.1]).map c9)), (112, .arr 9 1 ((l6 ++ ([e11])).map c9)), (8, .box [Ti c1.1, .v (.string c1.2.1), .v (.string c1.2.2.1), .v (.string c1.2.2.2.1), Ti c1.2.2.2.2.1, Ti c1.2.2.2.2.2.1, Ti c1.2.2.2.2.2.2])]⟩) ?_ ?_
      ·refine XR 2 ?_
       refine L1 rfl rfl (Y1_bslice (z := zv9) (els := [e11].map c9) Tryz.underlying66 iz9 rfl (by decide) rfl kk rfl (by simp [c9]) (by decide) (by decide)) ?_
       refine zJ rfl (X_appendM (c := c9) (xs := l6) (ys := [e11]) (id := 112) (z := zv9) rfl rfl Tryz.underlying66 izb9 rfl kk kk kk (fun _ => rfl) (by simp) (room_some hu13) (by decide)) ?_
       exact XE
      show V _ _ _ _
      obtain ⟨t14, ht14, h⟩ := qF h
      refine V_reg (mb 44 3670026) [152, 112, 8] (s1 := ⟨.bot :: .pt 8 0 :: .bot :: .ow 112 :: bt 15 (.ow 152 :: I t4 :: I t14 :: bt 22 []), [(152, .arr 9 1 (([c1.2.2.1, c1.2.2.2.1]).map c9)), (112, .arr 9 1 ((l6 ++ ([e11])).map c9)), (8, .box [Ti c1.1, .v (.string c1.2.1), .v (.string c1.2.2.1), .v (.string c1.2.2.2.1), Ti c1.2.2.2.2.1, Ti c1.2.2.2.2.2.1, Ti c1.2.2.2.2.2.2])]⟩) ?_ ?_
      ·refine XR 2 ?_
       refine zN ?_
       subst ht14
       kernel_rfl
      exact ⟨n, Nat.lt_succ_self n, _, _,  by rfl, h⟩
     ·have h := zK h hc12
      refine zV ?_
      show V _ _ _ _
      obtain ⟨t15, ht15, h⟩ := qF h
      refine V_reg (mb 44 3670026) [152, 112, 8] (s1 := ⟨.bot :: .pt 8 0 :: .bot :: .ow 112 :: bt 15 (.ow 152 :: I t4 :: I t15 :: bt 22 []), [(152, .arr 9 1 (([c1.2.2.1, c1.2.2.2.1]).map c9)), (112, .arr 9 1 (l6.map c9)), (8, .box [Ti c1.1, .v (.string c1.2.1), .v (.string c1.2.2.1), .v (.string c1.2.2.2.1), Ti c1.2.2.2.2.1, Ti c1.2.2.2.2.2.1, Ti c1.2.2.2.2.2.2])]⟩) ?_ ?_
      ·refine XR 2 ?_
       refine zN ?_
       subst ht15
       kernel_rfl
      exact ⟨n, Nat.lt_succ_self n, _, _,  by rfl, h⟩
    ·have h := zK h hc9
     refine V_exit ?_
     obtain rfl := zE h
     show St.keep _ _ _ = _
     rfl
  show V _ _ _ _
  obtain ⟨j16, hj16, h⟩ := zD h
  refine V_cutK (mb 44 8) [112] (s1 := ⟨bt 3 (.ow 112 :: bt 40 []), [(112, .arr 9 1 (j16.map c9))]⟩) ?_ ?_
  ·clear h
   have h := hj16
   clear hj16
   obtain ⟨t17, ht17, h⟩ := zD h
   have ht17 := zE ht17
   refine zG (mb 44 34359738378) [112, 8] (s1 := ⟨.bot :: .pt 8 0 :: .bot :: .ow 112 :: bt 31 (Bo t17 :: bt 8 []), [(112, .arr 9 1 (o8.map c9)), (8, .box [Ti c1.1, .v (.string c1.2.1), .v (.string c1.2.2.1), .v (.string c1.2.2.2.1), Ti c1.2.2.2.2.1, Ti c1.2.2.2.2.2.1, Ti c1.2.2.2.2.2.2])]⟩) ?_ ?_
   ·refine XR 2 ?_
    refine L0 rfl rfl (qE (cs := [Ti 0, Ti 0, Ti 0]) pl38 bt38 rfl rfl kk) ?_
    refine L0 rfl rfl (Y0_neg3 (a0 := c1.2.2.2.2.1) (b0 := 0) (a1 := c1.2.2.2.2.2.1) (b1 := 0) (a2 := c1.2.2.2.2.2.2) (b2 := 0) neg38 rfl kk kk) ?_
    refine zN ?_
    subst ht17
    kernel_rfl
   refine zQ rfl (fun hc18 => ?_) (fun hc18 => ?_)
   ·have h := zM h hc18
    obtain ⟨y19, hy19, h⟩ := zD h
    obtain ⟨u20, hu20, h⟩ := zD h
    refine V_reg (mb 44 8) [112] (s1 := ⟨bt 3 (.ow 112 :: bt 40 []), [(112, .arr 9 1 ((o8 ++ ([y19])).map c9))]⟩) ?_ ?_
    ·refine XR 3 ?_
     refine XC (s_impl_formText hy19) cf_impl_formText rfl rfl rfl ?_
     refine L1 rfl rfl (Y1_bslice (z := zv9) (els := [y19].map c9) Tryz.underlying66 iz9 rfl (by decide) rfl kk rfl (by simp [c9]) (by decide) (by decide)) ?_
     refine zJ rfl (X_appendM (c := c9) (xs := o8) (ys := [y19]) (id := 112) (z := zv9) rfl rfl Tryz.underlying66 izb9 rfl kk kk kk (fun _ => rfl) (by simp) (room_some hu20) (by decide)) ?_
     exact XE
    obtain rfl := zE h
    show St.keep _ _ _ = _
    rfl
   ·have h := zK h hc18
    refine zV ?_
    obtain rfl := zE h
    show St.keep _ _ _ = _
    rfl
  obtain ⟨y21, hy21, h⟩ := zD h
  refine zG (mb 44 4) [] (s1 := ⟨.bot :: .bot :: .c (.v (.string y21)) :: bt 41 [], []⟩) ?_ ?_
  ·refine XR 1 ?_
   refine L1 rfl rfl (Y1_callS (s_strings_Join hy21) cf_strings_Join rfl kk rfl rfl) ?_
   exact XE
  refine zR ?_
  obtain rfl := zE h
  show Post _ _ _ _ _
  exact ⟨.inr rfl, rfl, rfl, rfl⟩
theorem cf_impl_ParseCommand : ∀ args w, (callFunc 107 args).run Tryz.prog w = .ok (.enter 107 args) w := zI Tryz.func107 kk kk
theorem s_impl_ParseCommand {vs1 : ByteArray} {r : (((Int × ByteArray × ByteArray × ByteArray × ((Int × Int × Int)))) × Bool)} (h : r_impl_ParseCommand vs1 = some r) : z7 Tryz.prog 107 [.c (.v (.string vs1))] (.tc (.ag [Ti r.1.1, .v (.string r.1.2.1), .v (.string r.1.2.2.1), .v (.string r.1.2.2.2.1), Ti r.1.2.2.2.2.1, Ti r.1.2.2.2.2.2.1, Ti r.1.2.2.2.2.2.2]) (.tc (Bo r.2) .tn)) [] := by
  refine zH (rs := [.w 2 7, .t 3]) (vs := [.cell 2 40, .tmp 3]) Tryz.func107 rfl rfl (.cons ⟨rfl, wd40⟩ (.cons rfl FitsL.nil)) (by decide) 68 rfl ?_
  unfold r_impl_ParseCommand at h
  show V _ _ ⟨.c (.v (.string vs1)) :: bt 67 [], []⟩ _
  refine V_e (mb 68 5) [16] (s1 := ⟨.c (.v (.string vs1)) :: .bot :: .pt 16 0 :: bt 65 [], [(16, .box [Ti 0, .v (.string ByteArray.empty), .v (.string ByteArray.empty), .v (.string ByteArray.empty), Ti 0, Ti 0, Ti 0])]⟩) ?_
  obtain ⟨y2, hy2, h⟩ := zD h
  refine zG (mb 68 21) [80, 16] (s1 := ⟨.c (.v (.string vs1)) :: .bot :: .pt 16 0 :: .bot :: .ow 80 :: bt 63 [], [(80, .arr 9 1 (y2.map c9)), (16, .box [Ti 0, .v (.string ByteArray.empty), .v (.string ByteArray.empty), .v (.string ByteArray.empty), Ti 0, Ti 0, Ti 0])]⟩) ?_ ?_
  ·refine XR 1 ?_
   refine XC (s_strings_Split hy2) cf_strings_Split rfl rfl rfl ?_
   exact XE
  obtain ⟨l3, hl3, h⟩ := zD h
  have hl3 := zE hl3
  refine V_sregM (fun mb11 => ⟨.c (.v (.string vs1)) :: .bot :: .pt 16 0 :: .bot :: .ow 80 :: .c (.v (.map (some mb11))) :: bt 62 [], [(88, .mp mb11 (l3.map kv176)), (80, .arr 9 1 (y2.map c9)), (16, .box [Ti 0, .v (.string ByteArray.empty), .v (.string ByteArray.empty), .v (.string ByteArray.empty), Ti 0, Ti 0, Ti 0])]⟩) (mb 68 53) [88, 80, 16] ?_ ?_
  ·refine XL_mkmap rfl rfl rfl fun mb11 => ?_
   refine zJ rfl (X_putM (κ := ByteArray) (ν := Int) (ek := ek176) (ev := ev176) (z := 0) (m := ([] : List ((ByteArray × Int)))) (a := (⟨#[97, 100, 100]⟩ : ByteArray)) (u := 1) (id := 88) (b := mb11) mo176 (.inr rfl) rfl kk kk kk kk) ?_
   refine zJ rfl (X_putM (κ := ByteArray) (ν := Int) (ek := ek176) (ev := ev176) (z := 0) (m := mPut ((⟨#[97, 100, 100]⟩ : ByteArray)) 1 (([] : List ((ByteArray × Int))))) (a := (⟨#[100, 114, 111, 112]⟩ : ByteArray)) (u := 2) (id := 88) (b := mb11) mo176 (.inr rfl) rfl kk kk kk kk) ?_
   refine zJ rfl (X_putM (κ := ByteArray) (ν := Int) (ek := ek176) (ev := ev176) (z := 0) (m := mPut ((⟨#[100, 114, 111, 112]⟩ : ByteArray)) 2 (mPut ((⟨#[97, 100, 100]⟩ : ByteArray)) 1 (([] : List ((ByteArray × Int)))))) (a := (⟨#[109, 117, 108]⟩ : ByteArray)) (u := 3) (id := 88) (b := mb11) mo176 (.inr rfl) rfl kk kk kk kk) ?_
   refine zJ rfl (X_putM (κ := ByteArray) (ν := Int) (ek := ek176) (ev := ev176) (z := 0) (m := mPut ((⟨#[109, 117, 108]⟩ : ByteArray)) 3 (mPut ((⟨#[100, 114, 111, 112]⟩ : ByteArray)) 2 (mPut ((⟨#[97, 100, 100]⟩ : ByteArray)) 1 (([] : List ((ByteArray × Int))))))) (a := (⟨#[105, 110, 118]⟩ : ByteArray)) (u := 4) (id := 88) (b := mb11) mo176 (.inr rfl) rfl kk kk kk kk) ?_
   refine zJ rfl (X_putM (κ := ByteArray) (ν := Int) (ek := ek176) (ev := ev176) (z := 0) (m := mPut ((⟨#[105, 110, 118]⟩ : ByteArray)) 4 (mPut ((⟨#[109, 117, 108]⟩ : ByteArray)) 3 (mPut ((⟨#[100, 114, 111, 112]⟩ : ByteArray)) 2 (mPut ((⟨#[97, 100, 100]⟩ : ByteArray)) 1 (([] : List ((ByteArray × Int)))))))) (a := (⟨#[109, 111, 118, 101]⟩ : ByteArray)) (u := 5) (id := 88) (b := mb11) mo176 (.inr rfl) rfl kk kk kk kk) ?_
   refine XR 2 ?_
   refine zN ?_
   subst hl3
   exact ⟨mb11, by kernel_rfl⟩
  intro mb11
  refine zX ?_
  refine zG (mb 68 32821) [88, 80, 16] (s1 := ⟨.c (.v (.string vs1)) :: .bot :: .pt 16 0 :: .bot :: .ow 80 :: .c (.v (.map (some mb11))) :: bt 9 (Bo (ltI ((y2.length : Int)) 2) :: bt 52 []), [(88, .mp mb11 (l3.map kv176)), (80, .arr 9 1 (y2.map c9)), (16, .box [Ti 0, .v (.string ByteArray.empty), .v (.string ByteArray.empty), .v (.string ByteArray.empty), Ti 0, Ti 0, Ti 0])]⟩) ?_ ?_
  ·refine XR 1 ?_
   refine L0 rfl rfl (Y0_lenM (c := c9) (xs := y2) Tryz.underlying66 rfl kk) ?_
   exact XE
  refine zQ rfl (fun hc4 => ?_) (fun hc4 => ?_)
  ·have h := zM h hc4
   refine zG (mb 68 12) [16] (s1 := ⟨.bot :: .bot :: .pt 16 0 :: Bo false :: bt 64 [], [(16, .box [Ti 0, .v (.string ByteArray.empty), .v (.string ByteArray.empty), .v (.string ByteArray.empty), Ti 0, Ti 0, Ti 0])]⟩) ?_ ?_
   ·refine L0 rfl rfl (qE (cs := [Ti 0, .v (.string ByteArray.empty), .v (.string ByteArray.empty), .v (.string ByteArray.empty), Ti 0, Ti 0, Ti 0]) pl40 bt40 rfl rfl kk) ?_
    exact XE
   refine zR ?_
   obtain rfl := zE h
   show Post _ _ _ _ _
   exact ⟨.inr rfl, rfl, rfl, rfl⟩
  ·have h := zK h hc4
   refine zV ?_
   show V _ _ _ _
   obtain ⟨e5, he5, h⟩ := zD h
   obtain ⟨e6, he6, h⟩ := zD h
   obtain ⟨e7, he7, h⟩ := zD h
   obtain ⟨e8, he8, h⟩ := zD h
   obtain ⟨f9, hf9, h⟩ := qF h
   refine V_sdreg [0, 0, 2, 6, 15, 0, 32, 96, 255, 0, 1023] 10 (cdm 10 [567464, 567298, 567302, 567318, 567381, 524970, 525994, 530090, 546133, 174762]) (mb 68 85) [48, 80, 16] (s1 := ⟨.c (.v (.string vs1)) :: .bot :: .pt 16 0 :: .bot :: .ow 80 :: .bot :: .pt 48 0 :: bt 61 [], [(48, .box [Ti f9, .v (.string e8), .v (.string ByteArray.empty), .v (.string ByteArray.empty), Ti 0, Ti 0, Ti 0]), (80, .arr 9 1 (y2.map c9)), (16, .box [Ti 0, .v (.string ByteArray.empty), .v (.string ByteArray.empty), .v (.string ByteArray.empty), Ti 0, Ti 0, Ti 0])]⟩) kk kk ?_ ?_
   ·refine DR 2 ?_
    refine DE_0 2 (.po 80 1 (Int.toNat (0)) 0) kk rfl rfl rfl (zO rfl) kk (Y0_idxoM (c := c9) (xs := y2) (v := e5) (id := 80) (T := 9) (sz := 1) (n := 0) Tryz.underlying66 sz9 rfl kk kk kk he5) 19 rfl ?_
    refine DE_0 3 (.c (.v (.string e6))) kk rfl rfl rfl (zO rfl) kk (Y0_loado1 (c := c9) (xs := y2) (v := e6) (id := 80) (sz := 1) (T := 9) (off := 0) (n := 0) (d := .v (.string e6)) (ds := []) sc9 rfl kk kk he6 kk) 20 rfl ?_
    refine DE_0 4 (I (mAt e6 l3 0)) kk rfl rfl rfl (zO rfl) kk (Y0_lookM (κ := ByteArray) (ν := Int) (ek := ek176) (ev := ev176) (z := 0) (m := l3) (a := e6) (id := 88) (b := mb11) mo176 rfl kk kk kk) 21 rfl ?_
    refine DR 1 ?_
    refine DE_0 6 (.po 80 1 (Int.toNat (1)) 0) kk rfl rfl rfl (zO rfl) kk (Y0_idxoM (c := c9) (xs := y2) (v := e7) (id := 80) (T := 9) (sz := 1) (n := 1) Tryz.underlying66 sz9 rfl kk kk kk he7) 23 rfl ?_
    refine DE_0 7 (.c (.v (.string e8))) kk rfl rfl rfl (zO rfl) kk (Y0_loado1 (c := c9) (xs := y2) (v := e8) (id := 80) (sz := 1) (T := 9) (off := 0) (n := 1) (d := .v (.string e8)) (ds := []) sc9 rfl kk kk he8 kk) 24 rfl ?_
    refine DE_0 8 (.ag [Ti (mAt e6 l3 0), .v (.string e8), .v (.string ByteArray.empty), .v (.string ByteArray.empty), Ti 0, Ti 0, Ti 0]) kk rfl rfl rfl (zO rfl) kk (qE (cs := [Ti (mAt e6 l3 0), .v (.string e8), .v (.string ByteArray.empty), .v (.string ByteArray.empty), Ti 0, Ti 0, Ti 0]) pl40 bt40 rfl rfl kk) 25 rfl ?_
    refine DA 1 ?_
    refine XR 1 ?_
    refine zN ?_
    subst hf9
    kernel_rfl
   refine zX ?_
   obtain ⟨u10, hu10, h⟩ := zD h
   obtain ⟨t11, ht11, h⟩ := qF h
   refine zG (mb 68 939524165) [48, 16] (s1 := ⟨.c (.v (.string vs1)) :: .bot :: .pt 16 0 :: bt 3 (.pt 48 0 :: bt 20 (.c (.sl ((subl y2 2 ((y2.length : Int))).map c9)) :: I t11 :: I 0 :: bt 38 [])), [(48, .box [Ti f9, .v (.string e8), .v (.string ByteArray.empty), .v (.string ByteArray.empty), Ti 0, Ti 0, Ti 0]), (16, .box [Ti 0, .v (.string ByteArray.empty), .v (.string ByteArray.empty), .v (.string ByteArray.empty), Ti 0, Ti 0, Ti 0])]⟩) ?_ ?_
   ·refine XR 1 ?_
    refine XL_freeze 80 (T := 9) (sz := 1) (els := y2.map c9) (s1 := ⟨.c (.v (.string vs1)) :: .bot :: .pt 16 0 :: .bot :: .c (.sl (y2.map c9)) :: .bot :: .pt 48 0 :: bt 19 (.c (.sl (y2.map c9)) :: bt 41 []), [(48, .box [Ti f9, .v (.string e8), .v (.string ByteArray.empty), .v (.string ByteArray.empty), Ti 0, Ti 0, Ti 0]), (16, .box [Ti 0, .v (.string ByteArray.empty), .v (.string ByteArray.empty), .v (.string ByteArray.empty), Ti 0, Ti 0, Ti 0])]⟩) kk kk ?_
    refine L0 rfl rfl (Y0_slice (c := c9) (xs := y2) (l := 2) (h := (y2.length : Int)) Tryz.underlying66 sz9 (fun _ => rfl) rfl kk (fun y hy => by cases hy; exact ⟨.i64, kk⟩) (fun hh => by cases hh) (fun y hy => by cases hy) (fun _ => rfl) (slc_some hu10)) ?_
    refine L0 rfl rfl (Y0_lenM (c := c9) (xs := subl y2 2 ((y2.length : Int))) Tryz.underlying66 rfl kk) ?_
    refine XR 1 ?_
    refine zN ?_
    subst ht11
    kernel_rfl
   obtain ⟨o19, hLo19, h⟩ := zD h
   refine V_toK (mb 68 69) [48, 16] (s1 := ⟨.c (.v (.string vs1)) :: .bot :: .pt 16 0 :: bt 3 (.pt 48 0 :: bt 61 []), [(48, .box [Ti f9, .v (.string e8), .v (.string o19.1), .v (.string o19.2.1), Ti o19.2.2.1, Ti o19.2.2.2.1, Ti o19.2.2.2.2]), (16, .box [Ti 0, .v (.string ByteArray.empty), .v (.string ByteArray.empty), .v (.string ByteArray.empty), Ti 0, Ti 0, Ti 0])]⟩) ?_ ?_
   ·clear h
    refine zZ (V_loop (fun n s => ∃ (t12 : Int) (f13 : Int) (f14 : Int) (f15 : Int) (f16 : ByteArray) (f17 : ByteArray), s.keep (mb 68 939524165) [48, 16] = (⟨.c (.v (.string vs1)) :: .bot :: .pt 16 0 :: bt 3 (.pt 48 0 :: bt 20 (.c (.sl ((subl y2 2 ((y2.length : Int))).map c9)) :: I t11 :: I t12 :: bt 38 [])), [(48, .box [Ti f9, .v (.string e8), .v (.string f16), .v (.string f17), Ti f13, Ti f14, Ti f15]), (16, .box [Ti 0, .v (.string ByteArray.empty), .v (.string ByteArray.empty), .v (.string ByteArray.empty), Ti 0, Ti 0, Ti 0])]⟩ : St) ∧ zU e8 f9 t11 vs1 y2 n t12 f13 f14 f15 f16 f17 = some o19) FU ⟨_, _, _, _, _, _,  by rfl, hLo19⟩ ?_)
    clear hLo19
    rintro n s ⟨t12, f13, f14, f15, f16, f17, hs, h⟩
    refine V_keep _ _ hs ?_
    clear hs
    cases n with
    | zero => cases h
    | succ n =>
     rw [zU] at h
     refine V_e (mb 68 2013265989) [48, 16] (s1 := ⟨.c (.v (.string vs1)) :: .bot :: .pt 16 0 :: bt 3 (.pt 48 0 :: bt 20 (.c (.sl ((subl y2 2 ((y2.length : Int))).map c9)) :: I t11 :: I t12 :: Bo (ltI t12 t11) :: bt 37 [])), [(48, .box [Ti f9, .v (.string e8), .v (.string f16), .v (.string f17), Ti f13, Ti f14, Ti f15]), (16, .box [Ti 0, .v (.string ByteArray.empty), .v (.string ByteArray.empty), .v (.string ByteArray.empty), Ti 0, Ti 0, Ti 0])]⟩) ?_
     refine zX ?_
     refine zQ rfl (fun hc20 => ?_) (fun hc20 => ?_)
     ·have h := zM h hc20
      refine zV ?_
      show V _ _ _ _
      refine zX ?_
      refine zZ ?_
      obtain ⟨e21, he21, h⟩ := zD h
      refine zG (mb 68 939524421) [48, 16] (s1 := ⟨.c (.v (.string vs1)) :: .bot :: .pt 16 0 :: bt 3 (.pt 48 0 :: .bot :: .c (.v (.string e21)) :: bt 18 (.c (.sl ((subl y2 2 ((y2.length : Int))).map c9)) :: I t11 :: I t12 :: bt 38 [])), [(48, .box [Ti f9, .v (.string e8), .v (.string f16), .v (.string f17), Ti f13, Ti f14, Ti f15]), (16, .box [Ti 0, .v (.string ByteArray.empty), .v (.string ByteArray.empty), .v (.string ByteArray.empty), Ti 0, Ti 0, Ti 0])]⟩) ?_ ?_
      ·refine L0 rfl rfl (Y0_idxM (c := c9) (xs := subl y2 2 ((y2.length : Int))) (v := e21) (n := t12) Tryz.underlying66 sz9 rfl kk kk he21) ?_
       exact XE
      refine zZ ?_
      refine zG (mb 68 35299262789) [48, 16] (s1 := ⟨.c (.v (.string vs1)) :: .bot :: .pt 16 0 :: bt 3 (.pt 48 0 :: .bot :: .c (.v (.string e21)) :: bt 18 (.c (.sl ((subl y2 2 ((y2.length : Int))).map c9)) :: I t11 :: I t12 :: bt 5 (Bo (bif (eqI f9 1) then true else (eqI f9 5)) :: bt 32 []))), [(48, .box [Ti f9, .v (.string e8), .v (.string f16), .v (.string f17), Ti f13, Ti f14, Ti f15]), (16, .box [Ti 0, .v (.string ByteArray.empty), .v (.string ByteArray.empty), .v (.string ByteArray.empty), Ti 0, Ti 0, Ti 0])]⟩) ?_ ?_
      ·refine XR 4 ?_
       refine zP (eqI f9 1) (fun hc22 => ?_) (fun hc22 => ?_)
       ·refine zL _ rfl rfl kk hc22 rfl ?_
        refine zL _ rfl rfl kk hc22 rfl ?_
        refine zL _ rfl rfl kk hc22 rfl ?_
        refine zJ rfl (zA rfl (zW (b := eqI f9 1) (p := true) (q := eqI f9 5) rfl kk hc22 kk)) ?_
        exact XE
       ·refine zB _ rfl rfl kk hc22 (zA rfl (qD (.pt 48 0) Tryz.underlying40 rfl sz3 rfl kk (by intro hh; cases hh))) ?_
        refine zB _ rfl rfl kk hc22 (zA rfl (qC (c := Ti f9) (cs := [.v (.string e8), .v (.string f16), .v (.string f17), Ti f13, Ti f14, Ti f15]) sc3 rfl kk)) ?_
        refine zB _ rfl rfl kk hc22 (zA rfl (Y0_eqw (k := .i64) (a := f9) (b := 5) rfl kk kk)) ?_
        refine zJ rfl (zA rfl (zT (b := eqI f9 1) (p := true) (q := eqI f9 5) rfl kk hc22 kk)) ?_
        exact XE
      refine zQ rfl (fun hc23 => ?_) (fun hc23 => ?_)
      ·have h := zM h hc23
       obtain ⟨y24, hy24, h⟩ := zD h
       refine V_reg (mb 68 939524165) [48, 16] (s1 := ⟨.c (.v (.string vs1)) :: .bot :: .pt 16 0 :: bt 3 (.pt 48 0 :: bt 20 (.c (.sl ((subl y2 2 ((y2.length : Int))).map c9)) :: I t11 :: I t12 :: bt 38 [])), [(48, .box [Ti f9, .v (.string e8), .v (.string f16), .v (.string f17), Ti y24.1.1, Ti y24.1.2.1, Ti y24.1.2.2]), (16, .box [Ti 0, .v (.string ByteArray.empty), .v (.string ByteArray.empty), .v (.string ByteArray.empty), Ti 0, Ti 0, Ti 0])]⟩) ?_ ?_
       ·refine XR 1 ?_
        refine XC (s_impl_ParseForm hy24) cf_impl_ParseForm rfl rfl rfl ?_
        exact XE
       show V _ _ _ _
       obtain ⟨t25, ht25, h⟩ := qF h
       refine V_reg (mb 68 939524165) [48, 16] (s1 := ⟨.c (.v (.string vs1)) :: .bot :: .pt 16 0 :: bt 3 (.pt 48 0 :: bt 20 (.c (.sl ((subl y2 2 ((y2.length : Int))).map c9)) :: I t11 :: I t25 :: bt 38 [])), [(48, .box [Ti f9, .v (.string e8), .v (.string f16), .v (.string f17), Ti y24.1.1, Ti y24.1.2.1, Ti y24.1.2.2]), (16, .box [Ti 0, .v (.string ByteArray.empty), .v (.string ByteArray.empty), .v (.string ByteArray.empty), Ti 0, Ti 0, Ti 0])]⟩) ?_ ?_
       ·refine XR 2 ?_
        refine zN ?_
        subst ht25
        kernel_rfl
       exact ⟨n, Nat.lt_succ_self n, _, _, _, _, _, _,  by rfl, h⟩
      ·have h := zK h hc23
       refine zG (mb 68 1125900846367045) [48, 16] (s1 := ⟨.c (.v (.string vs1)) :: .bot :: .pt 16 0 :: bt 3 (.pt 48 0 :: .bot :: .c (.v (.string e21)) :: bt 18 (.c (.sl ((subl y2 2 ((y2.length : Int))).map c9)) :: I t11 :: I t12 :: bt 20 (Bo (f16.toList == ((⟨#[]⟩ : ByteArray)).toList) :: bt 17 []))), [(48, .box [Ti f9, .v (.string e8), .v (.string f16), .v (.string f17), Ti f13, Ti f14, Ti f15]), (16, .box [Ti 0, .v (.string ByteArray.empty), .v (.string ByteArray.empty), .v (.string ByteArray.empty), Ti 0, Ti 0, Ti 0])]⟩) ?_ ?_
       ·refine XR 2 ?_
        refine L0 rfl rfl (Y0_eqs (a := f16) (b := ((⟨#[]⟩ : ByteArray))) rfl kk kk) ?_
        exact XE
       refine zQ rfl (fun hc26 => ?_) (fun hc26 => ?_)
       ·have h := zM h hc26
        refine V_reg (mb 68 939524165) [48, 16] (s1 := ⟨.c (.v (.string vs1)) :: .bot :: .pt 16 0 :: bt 3 (.pt 48 0 :: bt 20 (.c (.sl ((subl y2 2 ((y2.length : Int))).map c9)) :: I t11 :: I t12 :: bt 38 [])), [(48, .box [Ti f9, .v (.string e8), .v (.string e21), .v (.string f17), Ti f13, Ti f14, Ti f15]), (16, .box [Ti 0, .v (.string ByteArray.empty), .v (.string ByteArray.empty), .v (.string ByteArray.empty), Ti 0, Ti 0, Ti 0])]⟩) ?_ ?_
        ·exact XE
        show V _ _ _ _
        obtain ⟨t27, ht27, h⟩ := qF h
        refine V_reg (mb 68 939524165) [48, 16] (s1 := ⟨.c (.v (.string vs1)) :: .bot :: .pt 16 0 :: bt 3 (.pt 48 0 :: bt 20 (.c (.sl ((subl y2 2 ((y2.length : Int))).map c9)) :: I t11 :: I t27 :: bt 38 [])), [(48, .box [Ti f9, .v (.string e8), .v (.string e21), .v (.string f17), Ti f13, Ti f14, Ti f15]), (16, .box [Ti 0, .v (.string ByteArray.empty), .v (.string ByteArray.empty), .v (.string ByteArray.empty), Ti 0, Ti 0, Ti 0])]⟩) ?_ ?_
        ·refine XR 2 ?_
         refine zN ?_
         subst ht27
         kernel_rfl
        exact ⟨n, Nat.lt_succ_self n, _, _, _, _, _, _,  by rfl, h⟩
       ·have h := zK h hc26
        refine V_reg (mb 68 939524165) [48, 16] (s1 := ⟨.c (.v (.string vs1)) :: .bot :: .pt 16 0 :: bt 3 (.pt 48 0 :: bt 20 (.c (.sl ((subl y2 2 ((y2.length : Int))).map c9)) :: I t11 :: I t12 :: bt 38 [])), [(48, .box [Ti f9, .v (.string e8), .v (.string f16), .v (.string e21), Ti f13, Ti f14, Ti f15]), (16, .box [Ti 0, .v (.string ByteArray.empty), .v (.string ByteArray.empty), .v (.string ByteArray.empty), Ti 0, Ti 0, Ti 0])]⟩) ?_ ?_
        ·exact XE
        show V _ _ _ _
        obtain ⟨t28, ht28, h⟩ := qF h
        refine V_reg (mb 68 939524165) [48, 16] (s1 := ⟨.c (.v (.string vs1)) :: .bot :: .pt 16 0 :: bt 3 (.pt 48 0 :: bt 20 (.c (.sl ((subl y2 2 ((y2.length : Int))).map c9)) :: I t11 :: I t28 :: bt 38 [])), [(48, .box [Ti f9, .v (.string e8), .v (.string f16), .v (.string e21), Ti f13, Ti f14, Ti f15]), (16, .box [Ti 0, .v (.string ByteArray.empty), .v (.string ByteArray.empty), .v (.string ByteArray.empty), Ti 0, Ti 0, Ti 0])]⟩) ?_ ?_
        ·refine XR 2 ?_
         refine zN ?_
         subst ht28
         kernel_rfl
        exact ⟨n, Nat.lt_succ_self n, _, _, _, _, _, _,  by rfl, h⟩
     ·have h := zK h hc20
      refine V_exit ?_
      obtain rfl := zE h
      show St.keep _ _ _ = _
      rfl
   show V _ _ _ _
   refine zX ?_
   obtain ⟨y29, hy29, h⟩ := zD h
   obtain ⟨b32, hb32, h⟩ := zD h
   refine zG (mb 68 36893488147419103300) [48, 16] (s1 := ⟨.bot :: .bot :: .pt 16 0 :: bt 3 (.pt 48 0 :: bt 58 (Bo b32 :: .bot :: .bot :: [])), [(48, .box [Ti f9, .v (.string e8), .v (.string o19.1), .v (.string o19.2.1), Ti o19.2.2.1, Ti o19.2.2.2.1, Ti o19.2.2.2.2]), (16, .box [Ti 0, .v (.string ByteArray.empty), .v (.string ByteArray.empty), .v (.string ByteArray.empty), Ti 0, Ti 0, Ti 0])]⟩) ?_ ?_
   ·refine XR 1 ?_
    refine XC (s_impl_isCommand hy29) cf_impl_isCommand rfl rfl rfl ?_
    refine XR 2 ?_
    refine zP (!y29) (fun hc30 => ?_) (fun hc30 => ?_)
    ·have hb32 := zE (zM hb32 hc30)
     refine zL _ rfl rfl kk hc30 rfl ?_
     refine zL _ rfl rfl kk hc30 rfl ?_
     refine zL _ rfl rfl kk hc30 rfl ?_
     refine zL _ rfl rfl kk hc30 rfl ?_
     refine zJ rfl (zA rfl (Y0_pickTe (b := !y29) (p := true) rfl kk hc30 kk hb32)) ?_
     exact XE
    ·have hb32 := zK hb32 hc30
     obtain ⟨y31, hy31, hb32⟩ := zD hb32
     have hb32 := zE hb32
     refine zB _ rfl rfl kk hc30 (zA rfl (E_loadn (cs := [Ti f9, .v (.string e8), .v (.string o19.1), .v (.string o19.2.1), Ti o19.2.2.1, Ti o19.2.2.2.1, Ti o19.2.2.2.2]) [Ti f9, .v (.string e8), .v (.string o19.1), .v (.string o19.2.1), Ti o19.2.2.1, Ti o19.2.2.2.1, Ti o19.2.2.2.2] wd40 rfl kk (Nat.le_of_ble_eq_true rfl) kk)) ?_
     refine zB _ rfl rfl kk hc30 (X_of_Y1 rfl (Y1_call (s_impl_commandText hy31) cf_impl_commandText rfl kk)) ?_
     refine zB _ rfl rfl kk hc30 (zA rfl (zY (.c (.v (.string vs1))) rfl kk)) ?_
     refine zB _ rfl rfl kk hc30 (zA rfl (Y0_nes (a := y31) (b := vs1) rfl kk kk)) ?_
     refine zJ rfl (zA rfl (Y0_pickFe (b := !y29) (p := !(y31.toList == vs1.toList)) rfl kk hc30 kk hb32)) ?_
     exact XE
   refine zQ rfl (fun hc33 => ?_) (fun hc33 => ?_)
   ·have h := zM h hc33
    refine zG (mb 68 12) [16] (s1 := ⟨.bot :: .bot :: .pt 16 0 :: Bo false :: bt 64 [], [(16, .box [Ti 0, .v (.string ByteArray.empty), .v (.string ByteArray.empty), .v (.string ByteArray.empty), Ti 0, Ti 0, Ti 0])]⟩) ?_ ?_
    ·refine L0 rfl rfl (qE (cs := [Ti 0, .v (.string ByteArray.empty), .v (.string ByteArray.empty), .v (.string ByteArray.empty), Ti 0, Ti 0, Ti 0]) pl40 bt40 rfl rfl kk) ?_
     exact XE
    refine zR ?_
    obtain rfl := zE h
    show Post _ _ _ _ _
    exact ⟨.inr rfl, rfl, rfl, rfl⟩
   ·have h := zK h hc33
    refine zV ?_
    show V _ _ _ _
    refine V_e (mb 68 12) [16] (s1 := ⟨.bot :: .bot :: .pt 16 0 :: Bo true :: bt 64 [], [(16, .box [Ti f9, .v (.string e8), .v (.string o19.1), .v (.string o19.2.1), Ti o19.2.2.1, Ti o19.2.2.2.1, Ti o19.2.2.2.2])]⟩) ?_
    refine zR ?_
    obtain rfl := zE h
    show Post _ _ _ _ _
    exact ⟨.inr rfl, rfl, rfl, rfl⟩
theorem cf_impl_checkNumber : ∀ args w, (callFunc 116 args).run Tryz.prog w = .ok (.enter 116 args) w := zI Tryz.func116 kk kk
theorem s_impl_checkNumber {vs1 : ByteArray} {before2 : Int} {r : Int} (h : r_impl_checkNumber vs1 before2 = some r) : z7 Tryz.prog 116 [.c (.v (.string vs1)), I before2] (I r) [] := by
  refine zH (rs := [.t 4]) (vs := [.tmp 4]) Tryz.func116 rfl rfl (.cons rfl FitsL.nil) (by decide) 22 rfl ?_
  unfold r_impl_checkNumber at h
  show V _ _ ⟨.c (.v (.string vs1)) :: I before2 :: bt 20 [], []⟩ _
  refine V_e (mb 22 3) [] (s1 := ⟨.c (.v (.string vs1)) :: I before2 :: bt 20 [], []⟩) ?_
  refine zX ?_
  refine V_e (mb 22 35) [] (s1 := ⟨.c (.v (.string vs1)) :: I before2 :: bt 3 (I 0 :: bt 16 []), []⟩) ?_
  obtain ⟨o6, hLo6, h⟩ := zD h
  refine V_toK (mb 22 2) [] (s1 := ⟨.bot :: I o6 :: bt 20 [], []⟩) ?_ ?_
  ·clear h
   refine zZ (V_loop (fun n s => ∃ (before3 : Int) (i4 : Int), s.keep (mb 22 35) [] = (⟨.c (.v (.string vs1)) :: I before3 :: bt 3 (I i4 :: bt 16 []), []⟩ : St) ∧ r_impl_checkNumber_L5 vs1 n before3 i4 = some o6) FU ⟨_, _,  by rfl, hLo6⟩ ?_)
   clear hLo6
   rintro n s ⟨before3, i4, hs, h⟩
   refine V_keep _ _ hs ?_
   clear hs
   cases n with
   | zero => cases h
   | succ n =>
    rw [r_impl_checkNumber_L5] at h
    refine zX ?_
    refine zG (mb 22 547) [] (s1 := ⟨.c (.v (.string vs1)) :: I before3 :: bt 3 (I i4 :: bt 3 (Bo (ltI i4 ((vs1.size : Int))) :: bt 12 [])), []⟩) ?_ ?_
    ·refine XR 2 ?_
     refine L0 rfl rfl (Y0_lens (b := vs1) Tryz.underlying9 rfl kk) ?_
     exact XE
    refine zQ rfl (fun hc7 => ?_) (fun hc7 => ?_)
    ·have h := zM h hc7
     refine zV ?_
     show V _ _ _ _
     refine zX ?_
     refine zZ ?_
     obtain ⟨e8, he8, h⟩ := zD h
     obtain ⟨before9, hbefore9, h⟩ := qF h
     refine V_reg (mb 22 35) [] (s1 := ⟨.c (.v (.string vs1)) :: I before9 :: bt 3 (I i4 :: bt 16 []), []⟩) ?_ ?_
     ·refine XR 4 ?_
      refine L0 rfl rfl (Y0_idxs (b := vs1) (k := .i64) (n := i4) (v := e8) Tryz.underlying9 rfl kk kk he8) ?_
      refine L0 rfl rfl (Y0_conv (k2 := .u8) (a := e8) Tryz.underlying5 Tryz.underlying3 rfl kk) ?_
      refine XR 2 ?_
      refine L0 rfl rfl (Y0_rem (k := .i64) (a := w64 ((w64 ((w64 (31 * before3)) + (IntKind.i64.wrap e8))) + 1)) (b := 9973) rfl kk kk (by decide)) ?_
      refine XR 1 ?_
      refine zN ?_
      subst hbefore9
      kernel_rfl
     show V _ _ _ _
     obtain ⟨i10, hi10, h⟩ := qF h
     refine V_reg (mb 22 35) [] (s1 := ⟨.c (.v (.string vs1)) :: I before9 :: bt 3 (I i10 :: bt 16 []), []⟩) ?_ ?_
     ·refine XR 3 ?_
      refine zN ?_
      subst hi10
      kernel_rfl
     exact ⟨n, Nat.lt_succ_self n, _, _,  by rfl, h⟩
    ·have h := zK h hc7
     refine V_exit ?_
     obtain rfl := zE h
     show St.keep _ _ _ = _
     rfl
  show V _ _ _ _
  refine V_e (mb 22 16) [] (s1 := ⟨bt 4 (I o6 :: bt 17 []), []⟩) ?_
  refine zR ?_
  obtain rfl := zE h
  show Post _ _ _ _ _
  exact ⟨.inr rfl, rfl, rfl, rfl⟩
theorem cf_impl_recordText : ∀ args w, (callFunc 56 args).run Tryz.prog w = .ok (.enter 56 args) w := zI Tryz.func56 kk kk
theorem s_impl_recordText {c1 : (Int × ByteArray × ByteArray × ByteArray × ((Int × Int × Int)))} {before2 : Int} {r : (ByteArray × Int)} (h : r_impl_recordText c1 before2 = some r) : z7 Tryz.prog 56 [.ag [Ti c1.1, .v (.string c1.2.1), .v (.string c1.2.2.1), .v (.string c1.2.2.2.1), Ti c1.2.2.2.2.1, Ti c1.2.2.2.2.2.1, Ti c1.2.2.2.2.2.2], I before2] (.tc (.c (.v (.string r.1))) (.tc (I r.2) .tn)) [] := by
  refine zH (rs := [.t 4, .t 5]) (vs := [.tmp 4, .tmp 5]) Tryz.func56 rfl rfl (.cons rfl (.cons rfl FitsL.nil)) (by decide) 20 rfl ?_
  unfold r_impl_recordText at h
  show V _ _ ⟨.ag [Ti c1.1, .v (.string c1.2.1), .v (.string c1.2.2.1), .v (.string c1.2.2.2.1), Ti c1.2.2.2.2.1, Ti c1.2.2.2.2.2.1, Ti c1.2.2.2.2.2.2] :: I before2 :: bt 18 [], []⟩ _
  refine V_e (mb 20 6) [16] (s1 := ⟨.bot :: I before2 :: .pt 16 0 :: bt 17 [], [(16, .box [Ti c1.1, .v (.string c1.2.1), .v (.string c1.2.2.1), .v (.string c1.2.2.2.1), Ti c1.2.2.2.2.1, Ti c1.2.2.2.2.2.1, Ti c1.2.2.2.2.2.2])]⟩) ?_
  obtain ⟨y3, hy3, h⟩ := zD h
  refine zG (mb 20 66) [] (s1 := ⟨.bot :: I before2 :: bt 4 (.c (.v (.string y3)) :: bt 13 []), []⟩) ?_ ?_
  ·refine XR 1 ?_
   refine XC (s_impl_commandText hy3) cf_impl_commandText rfl rfl rfl ?_
   exact XE
  obtain ⟨y4, hy4, h⟩ := zD h
  refine zG (mb 20 192) [] (s1 := ⟨bt 6 (.c (.v (.string y3)) :: I y4 :: bt 12 []), []⟩) ?_ ?_
  ·refine XR 2 ?_
   refine XC (s_impl_checkNumber hy4) cf_impl_checkNumber rfl rfl rfl ?_
   exact XE
  obtain ⟨u5, hu5, h⟩ := zD h
  obtain ⟨y6, hy6, h⟩ := zD h
  obtain ⟨u7, hu7, h⟩ := zD h
  obtain ⟨u8, hu8, h⟩ := zD h
  refine zG (mb 20 48) [] (s1 := ⟨bt 4 (.c (.v (.string (((y3 ++ ((⟨#[35]⟩ : ByteArray))) ++ y6) ++ ((⟨#[10]⟩ : ByteArray))))) :: I y4 :: bt 14 []), []⟩) ?_ ?_
  ·refine XR 1 ?_
   refine L0 rfl rfl (Y0_cat (a := y3) (b := (⟨#[35]⟩ : ByteArray)) rfl kk kk (catR_some hu5)) ?_
   refine XR 1 ?_
   refine XC (s_strconv_Itoa hy6) cf_strconv_Itoa rfl rfl rfl ?_
   refine L0 rfl rfl (Y0_cat (a := y3 ++ ((⟨#[35]⟩ : ByteArray))) (b := y6) rfl kk kk (catR_some hu7)) ?_
   refine L0 rfl rfl (Y0_cat (a := (y3 ++ ((⟨#[35]⟩ : ByteArray))) ++ y6) (b := (⟨#[10]⟩ : ByteArray)) rfl kk kk (catR_some hu8)) ?_
   exact XE
  refine zR ?_
  obtain rfl := zE h
  show Post _ _ _ _ _
  exact ⟨.inr rfl, rfl, rfl, rfl⟩
theorem cf_impl_find : ∀ args w, (callFunc 109 args).run Tryz.prog w = .ok (.enter 109 args) w := zI Tryz.func109 kk kk
theorem s_impl_find {l1 : List ((ByteArray × ((Int × Int × Int))))} {name2 : ByteArray} {r : (((Int × Int × Int)) × Bool)} (h : r_impl_find l1 name2 = some r) : z7 Tryz.prog 109 [.c (.sl (l1.map c73)), .c (.v (.string name2))] (.tc (.ag [Ti r.1.1, Ti r.1.2.1, Ti r.1.2.2]) (.tc (Bo r.2) .tn)) [] := by
  refine zH (rs := [.w 4 3, .t 5]) (vs := [.cell 4 38, .tmp 5]) Tryz.func109 rfl rfl (.cons ⟨rfl, wd38⟩ (.cons rfl FitsL.nil)) (by decide) 22 rfl ?_
  unfold r_impl_find at h
  show V _ _ ⟨.c (.sl (l1.map c73)) :: .c (.v (.string name2)) :: bt 20 [], []⟩ _
  refine V_e (mb 22 19) [32] (s1 := ⟨.c (.sl (l1.map c73)) :: .c (.v (.string name2)) :: .bot :: .bot :: .pt 32 0 :: bt 17 [], [(32, .box [Ti 0, Ti 0, Ti 0])]⟩) ?_
  refine zX ?_
  refine zG (mb 22 1810) [32] (s1 := ⟨.bot :: .c (.v (.string name2)) :: .bot :: .bot :: .pt 32 0 :: bt 3 (.c (.sl (l1.map c73)) :: I ((l1.length : Int)) :: I 0 :: bt 11 []), [(32, .box [Ti 0, Ti 0, Ti 0])]⟩) ?_ ?_
  ·refine XR 1 ?_
   refine L0 rfl rfl (Y0_lenM (c := c73) (xs := l1) Tryz.underlying43 rfl kk) ?_
   exact XE
  obtain ⟨qo5, hLo5, hko5⟩ := zD h
  refine V_toS (q := qo5) (S := fun o5 => ⟨bt 4 (.pt 32 0 :: bt 17 []), [(32, .box [Ti 0, Ti 0, Ti 0])]⟩) (mb 22 16) [32] ?_ ?_
  ·refine zZ (V_loop (fun n s => ∃ (t3 : Int), s.keep (mb 22 1810) [32] = (⟨.bot :: .c (.v (.string name2)) :: .bot :: .bot :: .pt 32 0 :: bt 3 (.c (.sl (l1.map c73)) :: I ((l1.length : Int)) :: I t3 :: bt 11 []), [(32, .box [Ti 0, Ti 0, Ti 0])]⟩ : St) ∧ r_impl_find_L4 l1 name2 n t3 = some qo5) FU ⟨_,  by rfl, hLo5⟩ ?_)
   clear hLo5
   rintro n s ⟨t3, hs, h⟩
   refine V_keep _ _ hs ?_
   clear hs
   cases n with
   | zero => cases h
   | succ n =>
    rw [r_impl_find_L4] at h
    refine V_e (mb 22 3858) [32] (s1 := ⟨.bot :: .c (.v (.string name2)) :: .bot :: .bot :: .pt 32 0 :: bt 3 (.c (.sl (l1.map c73)) :: I ((l1.length : Int)) :: I t3 :: Bo (ltI t3 ((l1.length : Int))) :: bt 10 []), [(32, .box [Ti 0, Ti 0, Ti 0])]⟩) ?_
    refine zX ?_
    refine zQ rfl (fun hc6 => ?_) (fun hc6 => ?_)
    ·have h := zM h hc6
     refine zV ?_
     show V _ _ _ _
     refine zX ?_
     refine zZ ?_
     obtain ⟨e7, he7, h⟩ := zD h
     refine zG (mb 22 1938) [56, 32] (s1 := ⟨.bot :: .c (.v (.string name2)) :: .bot :: .bot :: .pt 32 0 :: .bot :: .bot :: .pt 56 0 :: .c (.sl (l1.map c73)) :: I ((l1.length : Int)) :: I t3 :: bt 11 [], [(56, .box [.v (.string e7.1), Ti e7.2.1, Ti e7.2.2.1, Ti e7.2.2.2]), (32, .box [Ti 0, Ti 0, Ti 0])]⟩) ?_ ?_
     ·refine L0 rfl rfl (Y0_idxM (c := c73) (xs := l1) (v := e7) (n := t3) Tryz.underlying43 sz73 rfl kk kk he7) ?_
      exact XE
     refine zG (mb 22 133010) [56, 32] (s1 := ⟨.bot :: .c (.v (.string name2)) :: .bot :: .bot :: .pt 32 0 :: .bot :: .bot :: .pt 56 0 :: .c (.sl (l1.map c73)) :: I ((l1.length : Int)) :: I t3 :: bt 6 (Bo (e7.1.toList == name2.toList) :: bt 4 []), [(56, .box [.v (.string e7.1), Ti e7.2.1, Ti e7.2.2.1, Ti e7.2.2.2]), (32, .box [Ti 0, Ti 0, Ti 0])]⟩) ?_ ?_
     ·refine XR 3 ?_
      refine L0 rfl rfl (Y0_eqs (a := e7.1) (b := name2) rfl kk kk) ?_
      exact XE
     refine zQ rfl (fun hc8 => ?_) (fun hc8 => ?_)
     ·have h := zM h hc8
      refine V_e (mb 22 48) [32] (s1 := ⟨bt 4 (.pt 32 0 :: Bo true :: bt 16 []), [(32, .box [Ti e7.2.1, Ti e7.2.2.1, Ti e7.2.2.2])]⟩) ?_
      refine zR ?_
      obtain rfl := zE h
      have h := hko5
      obtain rfl := zE h
      show Post _ _ _ _ _
      exact ⟨.inr rfl, rfl, rfl, rfl⟩
     ·have h := zK h hc8
      refine zV ?_
      show V _ _ _ _
      obtain ⟨t9, ht9, h⟩ := qF h
      refine V_reg (mb 22 1810) [32] (s1 := ⟨.bot :: .c (.v (.string name2)) :: .bot :: .bot :: .pt 32 0 :: bt 3 (.c (.sl (l1.map c73)) :: I ((l1.length : Int)) :: I t9 :: bt 11 []), [(32, .box [Ti 0, Ti 0, Ti 0])]⟩) ?_ ?_
      ·refine XR 2 ?_
       refine zN ?_
       subst ht9
       kernel_rfl
      exact ⟨n, Nat.lt_succ_self n, _,  by rfl, h⟩
    ·have h := zK h hc6
     refine V_exit ?_
     obtain rfl := zE h
     exact ⟨_, rfl, by rfl⟩
  rintro o5 rfl
  have h := hko5
  clear hko5
  show V _ _ _ _
  refine zG (mb 22 48) [32] (s1 := ⟨bt 4 (.pt 32 0 :: Bo false :: bt 16 []), [(32, .box [Ti 0, Ti 0, Ti 0])]⟩) ?_ ?_
  ·refine L0 rfl rfl (qE (cs := [Ti 0, Ti 0, Ti 0]) pl38 bt38 rfl rfl kk) ?_
   exact XE
  refine zR ?_
  obtain rfl := zE h
  show Post _ _ _ _ _
  exact ⟨.inr rfl, rfl, rfl, rfl⟩
theorem cf_impl_one : ∀ args w, (callFunc 247 args).run Tryz.prog w = .ok (.enter 247 args) w := zI Tryz.func247 kk kk
theorem s_impl_one {r : (Int × Int × Int × Int)} (h : r_impl_one = some r) : z7 Tryz.prog 247 [] (.ag [Ti r.1, Ti r.2.1, Ti r.2.2.1, Ti r.2.2.2]) [] := by
  refine zH (rs := [.w 0 4]) (vs := [.cell 0 109]) Tryz.func247 rfl rfl (.cons ⟨rfl, wd109⟩ FitsL.nil) (by decide) 2 rfl ?_
  unfold r_impl_one at h
  show V _ _ ⟨.bot :: .bot :: [], []⟩ _
  refine V_e (mb 2 1) [0] (s1 := ⟨.pt 0 0 :: .bot :: [], [(0, .box [Ti 0, Ti 0, Ti 0, Ti 0])]⟩) ?_
  refine zG (mb 2 1) [0] (s1 := ⟨.pt 0 0 :: .bot :: [], [(0, .box [Ti 1, Ti 0, Ti 0, Ti 1])]⟩) ?_ ?_
  ·refine L0 rfl rfl (qE (cs := [Ti 1, Ti 0, Ti 0, Ti 1]) pl109 bt109 rfl rfl kk) ?_
   exact XE
  refine zR ?_
  obtain rfl := zE h
  show Post _ _ _ _ _
  exact ⟨.inr rfl, rfl, rfl, rfl⟩
theorem cf_impl_Form_isNormal : ∀ args w, (callFunc 170 args).run Tryz.prog w = .ok (.enter 170 args) w := zI Tryz.func170 kk kk
theorem s_impl_Form_isNormal {f1 : (Int × Int × Int)} {r : Bool} (h : r_impl_Form_isNormal f1 = some r) : z7 Tryz.prog 170 [.ag [Ti f1.1, Ti f1.2.1, Ti f1.2.2]] (Bo r) [] := by
  refine zH (rs := [.t 2]) (vs := [.tmp 2]) Tryz.func170 rfl rfl (.cons rfl FitsL.nil) (by decide) 16 rfl ?_
  unfold r_impl_Form_isNormal at h
  show V _ _ ⟨.ag [Ti f1.1, Ti f1.2.1, Ti f1.2.2] :: bt 15 [], []⟩ _
  refine V_e (mb 16 2) [8] (s1 := ⟨.bot :: .pt 8 0 :: bt 14 [], [(8, .box [Ti f1.1, Ti f1.2.1, Ti f1.2.2])]⟩) ?_
  obtain ⟨t3, ht3, h⟩ := zD h
  have ht3 := zE ht3
  refine zG (mb 16 4) [] (s1 := ⟨.bot :: .bot :: Bo t3 :: bt 13 [], []⟩) ?_ ?_
  ·refine XR 7 ?_
   refine zP (ltI (w64 (0 - f1.1)) f1.2.1) (fun hc2 => ?_) (fun hc2 => ?_)
   ·refine zB _ rfl rfl kk hc2 (zA rfl (qD (.pt 8 1) Tryz.underlying38 rfl sz3 rfl kk (by intro hh; cases hh))) ?_
    refine zB _ rfl rfl kk hc2 (zA rfl (qC (c := Ti f1.2.1) (cs := [Ti f1.2.2]) sc3 rfl kk)) ?_
    refine zB _ rfl rfl kk hc2 (zA rfl (qD (.pt 8 0) Tryz.underlying38 rfl sz3 rfl kk (by intro hh; cases hh))) ?_
    refine zB _ rfl rfl kk hc2 (zA rfl (qC (c := Ti f1.1) (cs := [Ti f1.2.1, Ti f1.2.2]) sc3 rfl kk)) ?_
    refine zB _ rfl rfl kk hc2 (zA rfl (Y0_lew (k := .i64) (a := f1.2.1) (b := f1.1) rfl kk kk)) ?_
    refine zJ rfl (zA rfl (zW (b := ltI (w64 (0 - f1.1)) f1.2.1) (p := leI f1.2.1 f1.1) (q := false) rfl kk hc2 kk)) ?_
    refine XR 1 ?_
    refine zN ?_
    subst ht3
    kernel_rfl
   ·refine zF _ rfl rfl kk hc2 rfl ?_
    refine zF _ rfl rfl kk hc2 rfl ?_
    refine zF _ rfl rfl kk hc2 rfl ?_
    refine zF _ rfl rfl kk hc2 rfl ?_
    refine zF _ rfl rfl kk hc2 rfl ?_
    refine zJ rfl (zA rfl (zT (b := ltI (w64 (0 - f1.1)) f1.2.1) (p := leI f1.2.1 f1.1) (q := false) rfl kk hc2 kk)) ?_
    refine XR 1 ?_
    refine zN ?_
    subst ht3
    kernel_rfl
  refine zR ?_
  obtain rfl := zE h
  show Post _ _ _ _ _
  exact ⟨.inr rfl, rfl, rfl, rfl⟩
theorem cf_impl_Form_isReduced : ∀ args w, (callFunc 78 args).run Tryz.prog w = .ok (.enter 78 args) w := zI Tryz.func78 kk kk
theorem s_impl_Form_isReduced {f1 : (Int × Int × Int)} {r : Bool} (h : r_impl_Form_isReduced f1 = some r) : z7 Tryz.prog 78 [.ag [Ti f1.1, Ti f1.2.1, Ti f1.2.2]] (Bo r) [] := by
  refine zH (rs := [.t 2]) (vs := [.tmp 2]) Tryz.func78 rfl rfl (.cons rfl FitsL.nil) (by decide) 24 rfl ?_
  unfold r_impl_Form_isReduced at h
  show V _ _ ⟨.ag [Ti f1.1, Ti f1.2.1, Ti f1.2.2] :: bt 23 [], []⟩ _
  refine V_e (mb 24 2) [8] (s1 := ⟨.bot :: .pt 8 0 :: bt 22 [], [(8, .box [Ti f1.1, Ti f1.2.1, Ti f1.2.2])]⟩) ?_
  obtain ⟨y2, hy2, h⟩ := zD h
  obtain ⟨t6, ht6, h⟩ := zD h
  have ht6 := zE ht6
  refine zG (mb 24 4) [] (s1 := ⟨.bot :: .bot :: Bo t6 :: bt 21 [], []⟩) ?_ ?_
  ·refine XR 1 ?_
   refine XC (s_impl_Form_isNormal hy2) cf_impl_Form_isNormal rfl rfl rfl ?_
   refine XR 1 ?_
   refine zP y2 (fun hc3 => ?_) (fun hc3 => ?_)
   ·refine zB _ rfl rfl kk hc3 (zA rfl (qD (.pt 8 0) Tryz.underlying38 rfl sz3 rfl kk (by intro hh; cases hh))) ?_
    refine zB _ rfl rfl kk hc3 (zA rfl (qC (c := Ti f1.1) (cs := [Ti f1.2.1, Ti f1.2.2]) sc3 rfl kk)) ?_
    refine zB _ rfl rfl kk hc3 (zA rfl (qD (.pt 8 2) Tryz.underlying38 rfl sz3 rfl kk (by intro hh; cases hh))) ?_
    refine zB _ rfl rfl kk hc3 (zA rfl (qC (c := Ti f1.2.2) (cs := []) sc3 rfl kk)) ?_
    refine zB _ rfl rfl kk hc3 (zA rfl (Y0_ltw (k := .i64) (a := f1.1) (b := f1.2.2) rfl kk kk)) ?_
    refine zB _ rfl rfl kk hc3 (zA rfl (zY (Bo (ltI f1.1 f1.2.2)) rfl kk)) ?_
    refine zP (ltI f1.1 f1.2.2) (fun hc4 => ?_) (fun hc4 => ?_)
    ·refine zL _ rfl rfl kk hc4 rfl ?_
     refine zL _ rfl rfl kk hc4 rfl ?_
     refine zL _ rfl rfl kk hc4 rfl ?_
     refine zL _ rfl rfl kk hc4 rfl ?_
     refine zL _ rfl rfl kk hc4 rfl ?_
     refine zL _ rfl rfl kk hc4 rfl ?_
     refine qA rfl rfl kk rfl ?_
     refine qA rfl rfl kk rfl ?_
     refine qA rfl rfl kk rfl ?_
     refine zL _ rfl rfl kk hc4 rfl ?_
     refine zB _ rfl rfl kk hc3 (zA rfl (zW (b := ltI f1.1 f1.2.2) (p := true) (q := bif (eqI f1.1 f1.2.2) then (leI 0 f1.2.1) else false) rfl kk hc4 kk)) ?_
     refine zJ rfl (zA rfl (zW (b := y2) (p := bif (ltI f1.1 f1.2.2) then true else (bif (eqI f1.1 f1.2.2) then (leI 0 f1.2.1) else false)) (q := false) rfl kk hc3 kk)) ?_
     refine XR 1 ?_
     refine zN ?_
     subst ht6
     kernel_rfl
    ·refine zB _ rfl rfl kk hc4 (zA rfl (qD (.pt 8 0) Tryz.underlying38 rfl sz3 rfl kk (by intro hh; cases hh))) ?_
     refine zB _ rfl rfl kk hc4 (zA rfl (qC (c := Ti f1.1) (cs := [Ti f1.2.1, Ti f1.2.2]) sc3 rfl kk)) ?_
     refine zB _ rfl rfl kk hc4 (zA rfl (qD (.pt 8 2) Tryz.underlying38 rfl sz3 rfl kk (by intro hh; cases hh))) ?_
     refine zB _ rfl rfl kk hc4 (zA rfl (qC (c := Ti f1.2.2) (cs := []) sc3 rfl kk)) ?_
     refine zB _ rfl rfl kk hc4 (zA rfl (Y0_eqw (k := .i64) (a := f1.1) (b := f1.2.2) rfl kk kk)) ?_
     refine zB _ rfl rfl kk hc4 (zA rfl (zY (Bo (eqI f1.1 f1.2.2)) rfl kk)) ?_
     refine zP (eqI f1.1 f1.2.2) (fun hc5 => ?_) (fun hc5 => ?_)
     ·refine zB _ rfl rfl kk hc5 (zA rfl (qD (.pt 8 1) Tryz.underlying38 rfl sz3 rfl kk (by intro hh; cases hh))) ?_
      refine zB _ rfl rfl kk hc5 (zA rfl (qC (c := Ti f1.2.1) (cs := [Ti f1.2.2]) sc3 rfl kk)) ?_
      refine zB _ rfl rfl kk hc5 (zA rfl (Y0_gew (k := .i64) (a := f1.2.1) (b := 0) rfl kk kk)) ?_
      refine zB _ rfl rfl kk hc4 (zA rfl (zW (b := eqI f1.1 f1.2.2) (p := leI 0 f1.2.1) (q := false) rfl kk hc5 kk)) ?_
      refine zB _ rfl rfl kk hc3 (zA rfl (zT (b := ltI f1.1 f1.2.2) (p := true) (q := bif (eqI f1.1 f1.2.2) then (leI 0 f1.2.1) else false) rfl kk hc4 kk)) ?_
      refine zJ rfl (zA rfl (zW (b := y2) (p := bif (ltI f1.1 f1.2.2) then true else (bif (eqI f1.1 f1.2.2) then (leI 0 f1.2.1) else false)) (q := false) rfl kk hc3 kk)) ?_
      refine XR 1 ?_
      refine zN ?_
      subst ht6
      kernel_rfl
     ·refine zF _ rfl rfl kk hc5 rfl ?_
      refine zF _ rfl rfl kk hc5 rfl ?_
      refine zF _ rfl rfl kk hc5 rfl ?_
      refine zB _ rfl rfl kk hc4 (zA rfl (zT (b := eqI f1.1 f1.2.2) (p := leI 0 f1.2.1) (q := false) rfl kk hc5 kk)) ?_
      refine zB _ rfl rfl kk hc3 (zA rfl (zT (b := ltI f1.1 f1.2.2) (p := true) (q := bif (eqI f1.1 f1.2.2) then (leI 0 f1.2.1) else false) rfl kk hc4 kk)) ?_
      refine zJ rfl (zA rfl (zW (b := y2) (p := bif (ltI f1.1 f1.2.2) then true else (bif (eqI f1.1 f1.2.2) then (leI 0 f1.2.1) else false)) (q := false) rfl kk hc3 kk)) ?_
      refine XR 1 ?_
      refine zN ?_
      subst ht6
      kernel_rfl
   ·refine zF _ rfl rfl kk hc3 rfl ?_
    refine zF _ rfl rfl kk hc3 rfl ?_
    refine zF _ rfl rfl kk hc3 rfl ?_
    refine zF _ rfl rfl kk hc3 rfl ?_
    refine zF _ rfl rfl kk hc3 rfl ?_
    refine zF _ rfl rfl kk hc3 rfl ?_
    refine qA rfl rfl kk rfl ?_
    refine qA rfl rfl kk rfl ?_
    refine qA rfl rfl kk rfl ?_
    refine qA rfl rfl kk rfl ?_
    refine qA rfl rfl kk rfl ?_
    refine qA rfl rfl kk rfl ?_
    refine qA rfl rfl kk rfl ?_
    refine qA rfl rfl kk rfl ?_
    refine qA rfl rfl kk rfl ?_
    refine qA rfl rfl kk rfl ?_
    refine zF _ rfl rfl kk hc3 rfl ?_
    refine zJ rfl (zA rfl (zT (b := y2) (p := bif (ltI f1.1 f1.2.2) then true else (bif (eqI f1.1 f1.2.2) then (leI 0 f1.2.1) else false)) (q := false) rfl kk hc3 kk)) ?_
    refine XR 1 ?_
    refine zN ?_
    subst ht6
    kernel_rfl
  refine zR ?_
  obtain rfl := zE h
  show Post _ _ _ _ _
  exact ⟨.inr rfl, rfl, rfl, rfl⟩
theorem cf_impl_mod : ∀ args w, (callFunc 234 args).run Tryz.prog w = .ok (.enter 234 args) w := zI Tryz.func234 kk kk
theorem s_impl_mod {a1 : Int} {vm2 : Int} {r : Int} (h : r_impl_mod a1 vm2 = some r) : z7 Tryz.prog 234 [I a1, I vm2] (I r) [] := by
  refine zH (rs := [.t 4]) (vs := [.tmp 4]) Tryz.func234 rfl rfl (.cons rfl FitsL.nil) (by decide) 15 rfl ?_
  unfold r_impl_mod at h
  show V _ _ ⟨I a1 :: I vm2 :: bt 13 [], []⟩ _
  refine V_e (mb 15 3) [] (s1 := ⟨I a1 :: I vm2 :: bt 13 [], []⟩) ?_
  obtain ⟨z3, hz3, h⟩ := zD h
  obtain ⟨vr4, hvr4, h⟩ := qF h
  refine zG (mb 15 34) [] (s1 := ⟨.bot :: I vm2 :: bt 3 (I vr4 :: bt 9 []), []⟩) ?_ ?_
  ·refine XR 2 ?_
   refine L0 rfl rfl (Y0_rem (k := .i64) (a := a1) (b := vm2) rfl kk kk (nz_some hz3)) ?_
   refine XR 1 ?_
   refine zN ?_
   subst hvr4
   kernel_rfl
  refine zX ?_
  refine V_e (mb 15 1058) [] (s1 := ⟨.bot :: I vm2 :: bt 3 (I vr4 :: bt 4 (Bo (ltI vr4 0) :: bt 4 [])), []⟩) ?_
  refine zQ rfl (fun hc5 => ?_) (fun hc5 => ?_)
  ·have h := zM h hc5
   obtain ⟨vr6, hvr6, h⟩ := qF h
   refine V_reg (mb 15 32) [] (s1 := ⟨bt 5 (I vr6 :: bt 9 []), []⟩) ?_ ?_
   ·refine XR 4 ?_
    refine zN ?_
    subst hvr6
    kernel_rfl
   show V _ _ _ _
   refine V_e (mb 15 16) [] (s1 := ⟨bt 4 (I vr6 :: bt 10 []), []⟩) ?_
   refine zR ?_
   obtain rfl := zE h
   show Post _ _ _ _ _
   exact ⟨.inr rfl, rfl, rfl, rfl⟩
  ·have h := zK h hc5
   refine zV ?_
   show V _ _ _ _
   refine V_e (mb 15 16) [] (s1 := ⟨bt 4 (I vr4 :: bt 10 []), []⟩) ?_
   refine zR ?_
   obtain rfl := zE h
   show Post _ _ _ _ _
   exact ⟨.inr rfl, rfl, rfl, rfl⟩
theorem cf_impl_floorDiv : ∀ args w, (callFunc 281 args).run Tryz.prog w = .ok (.enter 281 args) w := zI Tryz.func281 kk kk
theorem s_impl_floorDiv {a1 : Int} {vm2 : Int} {r : Int} (h : r_impl_floorDiv a1 vm2 = some r) : z7 Tryz.prog 281 [I a1, I vm2] (I r) [] := by
  refine zH (rs := [.t 4]) (vs := [.tmp 4]) Tryz.func281 rfl rfl (.cons rfl FitsL.nil) (by decide) 12 rfl ?_
  unfold r_impl_floorDiv at h
  show V _ _ ⟨I a1 :: I vm2 :: bt 10 [], []⟩ _
  refine V_e (mb 12 3) [] (s1 := ⟨I a1 :: I vm2 :: bt 10 [], []⟩) ?_
  obtain ⟨y3, hy3, h⟩ := zD h
  obtain ⟨z4, hz4, h⟩ := zD h
  obtain ⟨t5, ht5, h⟩ := qF h
  refine zG (mb 12 16) [] (s1 := ⟨bt 4 (I t5 :: bt 7 []), []⟩) ?_ ?_
  ·refine XR 3 ?_
   refine XC (s_impl_mod hy3) cf_impl_mod rfl rfl rfl ?_
   refine XR 2 ?_
   refine L0 rfl rfl (Y0_quo64 (a := w64 (a1 - y3)) (b := vm2) rfl kk kk (nz_some hz4)) ?_
   refine XR 1 ?_
   refine zN ?_
   subst ht5
   kernel_rfl
  refine zR ?_
  obtain rfl := zE h
  show Post _ _ _ _ _
  exact ⟨.inr rfl, rfl, rfl, rfl⟩
theorem cf_impl_Form_step : ∀ args w, (callFunc 248 args).run Tryz.prog w = .ok (.enter 248 args) w := zI Tryz.func248 kk kk
theorem s_impl_Form_step {f1 : (Int × Int × Int)} {r : (Int × Int × Int × Int)} (h : r_impl_Form_step f1 = some r) : z7 Tryz.prog 248 [.ag [Ti f1.1, Ti f1.2.1, Ti f1.2.2]] (.ag [Ti r.1, Ti r.2.1, Ti r.2.2.1, Ti r.2.2.2]) [] := by
  refine zH (rs := [.w 2 4]) (vs := [.cell 2 109]) Tryz.func248 rfl rfl (.cons ⟨rfl, wd109⟩ FitsL.nil) (by decide) 22 rfl ?_
  unfold r_impl_Form_step at h
  show V _ _ ⟨.ag [Ti f1.1, Ti f1.2.1, Ti f1.2.2] :: bt 21 [], []⟩ _
  refine V_e (mb 22 6) [16, 8] (s1 := ⟨.bot :: .pt 8 0 :: .pt 16 0 :: bt 19 [], [(16, .box [Ti 0, Ti 0, Ti 0, Ti 0]), (8, .box [Ti f1.1, Ti f1.2.1, Ti f1.2.2])]⟩) ?_
  refine zX ?_
  refine zZ ?_
  obtain ⟨y2, hy2, h⟩ := zD h
  refine zG (mb 22 14) [16, 8] (s1 := ⟨.bot :: .pt 8 0 :: .pt 16 0 :: Bo y2 :: bt 18 [], [(16, .box [Ti 0, Ti 0, Ti 0, Ti 0]), (8, .box [Ti f1.1, Ti f1.2.1, Ti f1.2.2])]⟩) ?_ ?_
  ·refine XR 1 ?_
   refine XC (s_impl_Form_isReduced hy2) cf_impl_Form_isReduced rfl rfl rfl ?_
   exact XE
  refine zQ rfl (fun hc3 => ?_) (fun hc3 => ?_)
  ·have h := zM h hc3
   obtain ⟨y4, hy4, h⟩ := zD h
   refine zG (mb 22 4) [16] (s1 := ⟨.bot :: .bot :: .pt 16 0 :: bt 19 [], [(16, .box [Ti y4.1, Ti y4.2.1, Ti y4.2.2.1, Ti y4.2.2.2])]⟩) ?_ ?_
   ·refine XC (s_impl_one hy4) cf_impl_one rfl rfl rfl ?_
    exact XE
   refine zR ?_
   obtain rfl := zE h
   show Post _ _ _ _ _
   exact ⟨.inr rfl, rfl, rfl, rfl⟩
  ·have h := zK h hc3
   obtain ⟨y5, hy5, h⟩ := zD h
   refine zG (mb 22 134) [16, 8] (s1 := ⟨.bot :: .pt 8 0 :: .pt 16 0 :: bt 4 (Bo (!y5) :: bt 14 []), [(16, .box [Ti 0, Ti 0, Ti 0, Ti 0]), (8, .box [Ti f1.1, Ti f1.2.1, Ti f1.2.2])]⟩) ?_ ?_
   ·refine XR 1 ?_
    refine XC (s_impl_Form_isNormal hy5) cf_impl_Form_isNormal rfl rfl rfl ?_
    exact XE
   refine zQ rfl (fun hc6 => ?_) (fun hc6 => ?_)
   ·have h := zM h hc6
    obtain ⟨y7, hy7, h⟩ := zD h
    refine zG (mb 22 4) [16] (s1 := ⟨.bot :: .bot :: .pt 16 0 :: bt 19 [], [(16, .box [Ti 1, Ti y7, Ti 0, Ti 1])]⟩) ?_ ?_
    ·refine XR 8 ?_
     refine XC (s_impl_floorDiv hy7) cf_impl_floorDiv rfl rfl rfl ?_
     refine L0 rfl rfl (qE (cs := [Ti 1, Ti y7, Ti 0, Ti 1]) pl109 bt109 rfl rfl kk) ?_
     exact XE
    refine zR ?_
    obtain rfl := zE h
    show Post _ _ _ _ _
    exact ⟨.inr rfl, rfl, rfl, rfl⟩
   ·have h := zK h hc6
    refine zV ?_
    show V _ _ _ _
    refine zG (mb 22 4) [16] (s1 := ⟨.bot :: .bot :: .pt 16 0 :: bt 19 [], [(16, .box [Ti 0, Ti (-1), Ti 1, Ti 0])]⟩) ?_ ?_
    ·refine L0 rfl rfl (qE (cs := [Ti 0, Ti (-1), Ti 1, Ti 0]) pl109 bt109 rfl rfl kk) ?_
     exact XE
    refine zR ?_
    obtain rfl := zE h
    show Post _ _ _ _ _
    exact ⟨.inr rfl, rfl, rfl, rfl⟩
theorem cf_impl_Form_at : ∀ args w, (callFunc 79 args).run Tryz.prog w = .ok (.enter 79 args) w := zI Tryz.func79 kk kk
theorem s_impl_Form_at {f1 : (Int × Int × Int)} {x2 : Int} {y3 : Int} {r : Int} (h : r_impl_Form_at f1 x2 y3 = some r) : z7 Tryz.prog 79 [.ag [Ti f1.1, Ti f1.2.1, Ti f1.2.2], I x2, I y3] (I r) [] := by
  refine zH (rs := [.t 6]) (vs := [.tmp 6]) Tryz.func79 rfl rfl (.cons rfl FitsL.nil) (by decide) 27 rfl ?_
  unfold r_impl_Form_at at h
  show V _ _ ⟨.ag [Ti f1.1, Ti f1.2.1, Ti f1.2.2] :: I x2 :: I y3 :: bt 24 [], []⟩ _
  refine V_e (mb 27 14) [24] (s1 := ⟨.bot :: I x2 :: I y3 :: .pt 24 0 :: bt 23 [], [(24, .box [Ti f1.1, Ti f1.2.1, Ti f1.2.2])]⟩) ?_
  obtain ⟨t4, ht4, h⟩ := qF h
  refine zG (mb 27 64) [] (s1 := ⟨bt 6 (I t4 :: bt 20 []), []⟩) ?_ ?_
  ·refine XR 21 ?_
   refine zN ?_
   subst ht4
   kernel_rfl
  refine zR ?_
  obtain rfl := zE h
  show Post _ _ _ _ _
  exact ⟨.inr rfl, rfl, rfl, rfl⟩
theorem cf_impl_Form_polar : ∀ args w, (callFunc 233 args).run Tryz.prog w = .ok (.enter 233 args) w := zI Tryz.func233 kk kk
theorem s_impl_Form_polar {f1 : (Int × Int × Int)} {x2 : Int} {y3 : Int} {u4 : Int} {v5 : Int} {r : Int} (h : r_impl_Form_polar f1 x2 y3 u4 v5 = some r) : z7 Tryz.prog 233 [.ag [Ti f1.1, Ti f1.2.1, Ti f1.2.2], I x2, I y3, I u4, I v5] (I r) [] := by
  refine zH (rs := [.t 10]) (vs := [.tmp 10]) Tryz.func233 rfl rfl (.cons rfl FitsL.nil) (by decide) 37 rfl ?_
  unfold r_impl_Form_polar at h
  show V _ _ ⟨.ag [Ti f1.1, Ti f1.2.1, Ti f1.2.2] :: I x2 :: I y3 :: I u4 :: I v5 :: bt 32 [], []⟩ _
  refine V_e (mb 37 62) [40] (s1 := ⟨.bot :: I x2 :: I y3 :: I u4 :: I v5 :: .pt 40 0 :: bt 31 [], [(40, .box [Ti f1.1, Ti f1.2.1, Ti f1.2.2])]⟩) ?_
  obtain ⟨t6, ht6, h⟩ := qF h
  refine zG (mb 37 1024) [] (s1 := ⟨bt 10 (I t6 :: bt 26 []), []⟩) ?_ ?_
  ·refine XR 27 ?_
   refine zN ?_
   subst ht6
   kernel_rfl
  refine zR ?_
  obtain rfl := zE h
  show Post _ _ _ _ _
  exact ⟨.inr rfl, rfl, rfl, rfl⟩
theorem cf_impl_Form_substitute : ∀ args w, (callFunc 168 args).run Tryz.prog w = .ok (.enter 168 args) w := zI Tryz.func168 kk kk
theorem s_impl_Form_substitute {f1 : (Int × Int × Int)} {vm2 : (Int × Int × Int × Int)} {r : (Int × Int × Int)} (h : r_impl_Form_substitute f1 vm2 = some r) : z7 Tryz.prog 168 [.ag [Ti f1.1, Ti f1.2.1, Ti f1.2.2], .ag [Ti vm2.1, Ti vm2.2.1, Ti vm2.2.2.1, Ti vm2.2.2.2]] (.ag [Ti r.1, Ti r.2.1, Ti r.2.2]) [] := by
  refine zH (rs := [.w 4 3]) (vs := [.cell 4 38]) Tryz.func168 rfl rfl (.cons ⟨rfl, wd38⟩ FitsL.nil) (by decide) 28 rfl ?_
  unfold r_impl_Form_substitute at h
  show V _ _ ⟨.ag [Ti f1.1, Ti f1.2.1, Ti f1.2.2] :: .ag [Ti vm2.1, Ti vm2.2.1, Ti vm2.2.2.1, Ti vm2.2.2.2] :: bt 26 [], []⟩ _
  refine V_e (mb 28 28) [32, 24, 16] (s1 := ⟨.bot :: .bot :: .pt 16 0 :: .pt 24 0 :: .pt 32 0 :: bt 23 [], [(32, .box [Ti 0, Ti 0, Ti 0]), (24, .box [Ti vm2.1, Ti vm2.2.1, Ti vm2.2.2.1, Ti vm2.2.2.2]), (16, .box [Ti f1.1, Ti f1.2.1, Ti f1.2.2])]⟩) ?_
  obtain ⟨y3, hy3, h⟩ := zD h
  obtain ⟨y4, hy4, h⟩ := zD h
  obtain ⟨y5, hy5, h⟩ := zD h
  refine V_sdreg [0, 0, 2, 0, 8, 31, 0, 0, 128, 0, 512, 0, 2048, 0, 8192, 32767, 0, 0, 131072, 0, 524288, 2097151, 4194303, 8388607] 23 (cdm 23 [2929883521704, 2929883521666, 2929883521670, 2929883521066, 2929883521130, 2929883521365, 2929883515562, 2929883359914, 2929883376298, 2929880902314, 2929881164458, 2929841580714, 2929845775018, 2929212435114, 2929279543978, 2929525609813, 2923441072810, 2760232315562, 2777412184746, 183251937962, 458129844906, 1466015503701, 5864062014805]) (mb 28 16) [32] (s1 := ⟨bt 4 (.pt 32 0 :: bt 23 []), [(32, .box [Ti y3, Ti y4, Ti y5])]⟩) kk kk ?_ ?_
  ·refine DR 5 ?_
   refine DC 5 (s_impl_Form_at hy3) cf_impl_Form_at rfl rfl rfl rfl 10 rfl ?_
   refine DR 9 ?_
   refine DC 15 (s_impl_Form_polar hy4) cf_impl_Form_polar rfl rfl rfl rfl 20 rfl ?_
   refine DR 5 ?_
   refine DC 21 (s_impl_Form_at hy5) cf_impl_Form_at rfl rfl rfl rfl 26 rfl ?_
   refine DE_0 22 (.ag [Ti y3, Ti y4, Ti y5]) kk rfl rfl rfl (zO rfl) kk (qE (cs := [Ti y3, Ti y4, Ti y5]) pl38 bt38 rfl rfl kk) 27 rfl ?_
   refine DA 0 ?_
   exact XE
  refine zR ?_
  obtain rfl := zE h
  show Post _ _ _ _ _
  exact ⟨.inr rfl, rfl, rfl, rfl⟩
theorem cf_impl_Matrix_times : ∀ args w, (callFunc 246 args).run Tryz.prog w = .ok (.enter 246 args) w := zI Tryz.func246 kk kk
theorem s_impl_Matrix_times {vm1 : (Int × Int × Int × Int)} {vn2 : (Int × Int × Int × Int)} {r : (Int × Int × Int × Int)} (h : r_impl_Matrix_times vm1 vn2 = some r) : z7 Tryz.prog 246 [.ag [Ti vm1.1, Ti vm1.2.1, Ti vm1.2.2.1, Ti vm1.2.2.2], .ag [Ti vn2.1, Ti vn2.2.1, Ti vn2.2.2.1, Ti vn2.2.2.2]] (.ag [Ti r.1, Ti r.2.1, Ti r.2.2.1, Ti r.2.2.2]) [] := by
  refine zH (rs := [.w 4 4]) (vs := [.cell 4 109]) Tryz.func246 rfl rfl (.cons ⟨rfl, wd109⟩ FitsL.nil) (by decide) 50 rfl ?_
  unfold r_impl_Matrix_times at h
  show V _ _ ⟨.ag [Ti vm1.1, Ti vm1.2.1, Ti vm1.2.2.1, Ti vm1.2.2.2] :: .ag [Ti vn2.1, Ti vn2.2.1, Ti vn2.2.2.1, Ti vn2.2.2.2] :: bt 48 [], []⟩ _
  refine V_e (mb 50 28) [32, 24, 16] (s1 := ⟨.bot :: .bot :: .pt 16 0 :: .pt 24 0 :: .pt 32 0 :: bt 45 [], [(32, .box [Ti 0, Ti 0, Ti 0, Ti 0]), (24, .box [Ti vn2.1, Ti vn2.2.1, Ti vn2.2.2.1, Ti vn2.2.2.2]), (16, .box [Ti vm1.1, Ti vm1.2.1, Ti vm1.2.2.1, Ti vm1.2.2.2])]⟩) ?_
  obtain ⟨f3, hf3, h⟩ := qF h
  obtain ⟨f4, hf4, h⟩ := qF h
  obtain ⟨f5, hf5, h⟩ := qF h
  obtain ⟨f6, hf6, h⟩ := qF h
  refine zG (mb 50 16) [32] (s1 := ⟨bt 4 (.pt 32 0 :: bt 45 []), [(32, .box [Ti f3, Ti f4, Ti f5, Ti f6])]⟩) ?_ ?_
  ·refine XR 44 ?_
   refine L0 rfl rfl (qE (cs := [Ti (w64 ((w64 (vm1.1 * vn2.1)) + (w64 (vm1.2.1 * vn2.2.2.1)))), Ti (w64 ((w64 (vm1.1 * vn2.2.1)) + (w64 (vm1.2.1 * vn2.2.2.2)))), Ti (w64 ((w64 (vm1.2.2.1 * vn2.1)) + (w64 (vm1.2.2.2 * vn2.2.2.1)))), Ti (w64 ((w64 (vm1.2.2.1 * vn2.2.1)) + (w64 (vm1.2.2.2 * vn2.2.2.2))))]) pl109 bt109 rfl rfl kk) ?_
   refine XR 1 ?_
   refine zN ?_
   subst hf3 hf4 hf5 hf6
   kernel_rfl
  refine zR ?_
  obtain rfl := zE h
  show Post _ _ _ _ _
  exact ⟨.inr rfl, rfl, rfl, rfl⟩
theorem cf_impl_reduce : ∀ args w, (callFunc 193 args).run Tryz.prog w = .ok (.enter 193 args) w := zI Tryz.func193 kk kk
theorem s_impl_reduce {f1 : (Int × Int × Int)} {r : (((Int × Int × Int)) × ((Int × Int × Int × Int)))} (h : r_impl_reduce f1 = some r) : z7 Tryz.prog 193 [.ag [Ti f1.1, Ti f1.2.1, Ti f1.2.2]] (.tc (.ag [Ti r.1.1, Ti r.1.2.1, Ti r.1.2.2]) (.tc (.ag [Ti r.2.1, Ti r.2.2.1, Ti r.2.2.2.1, Ti r.2.2.2.2]) .tn)) [] := by
  refine zH (rs := [.w 2 3, .w 3 4]) (vs := [.cell 2 38, .cell 3 109]) Tryz.func193 rfl rfl (.cons ⟨rfl, wd38⟩ (.cons ⟨rfl, wd109⟩ FitsL.nil)) (by decide) 20 rfl ?_
  unfold r_impl_reduce at h
  show V _ _ ⟨.ag [Ti f1.1, Ti f1.2.1, Ti f1.2.2] :: bt 19 [], []⟩ _
  refine V_e (mb 20 14) [24, 16, 8] (s1 := ⟨.bot :: .pt 8 0 :: .pt 16 0 :: .pt 24 0 :: bt 16 [], [(24, .box [Ti 0, Ti 0, Ti 0, Ti 0]), (16, .box [Ti 0, Ti 0, Ti 0]), (8, .box [Ti f1.1, Ti f1.2.1, Ti f1.2.2])]⟩) ?_
  obtain ⟨y2, hy2, h⟩ := zD h
  refine zG (mb 20 30) [32, 24, 16, 8] (s1 := ⟨.bot :: .pt 8 0 :: .pt 16 0 :: .pt 24 0 :: .pt 32 0 :: bt 15 [], [(32, .box [Ti y2.1, Ti y2.2.1, Ti y2.2.2.1, Ti y2.2.2.2]), (24, .box [Ti 0, Ti 0, Ti 0, Ti 0]), (16, .box [Ti 0, Ti 0, Ti 0]), (8, .box [Ti f1.1, Ti f1.2.1, Ti f1.2.2])]⟩) ?_ ?_
  ·refine XC (s_impl_one hy2) cf_impl_one rfl rfl rfl ?_
   exact XE
  refine zX ?_
  obtain ⟨o11, hLo11, h⟩ := zD h
  refine V_toK (mb 20 30) [32, 24, 16, 8] (s1 := ⟨.bot :: .pt 8 0 :: .pt 16 0 :: .pt 24 0 :: .pt 32 0 :: bt 15 [], [(32, .box [Ti o11.1, Ti o11.2.1, Ti o11.2.2.1, Ti o11.2.2.2.1]), (24, .box [Ti 0, Ti 0, Ti 0, Ti 0]), (16, .box [Ti 0, Ti 0, Ti 0]), (8, .box [Ti o11.2.2.2.2.1, Ti o11.2.2.2.2.2.1, Ti o11.2.2.2.2.2.2])]⟩) ?_ ?_
  ·clear h
   refine zZ (V_loop (fun n s => ∃ (f3 : Int) (f4 : Int) (f5 : Int) (f6 : Int) (f7 : Int) (f8 : Int) (f9 : Int), s.keep (mb 20 30) [32, 24, 16, 8] = (⟨.bot :: .pt 8 0 :: .pt 16 0 :: .pt 24 0 :: .pt 32 0 :: bt 15 [], [(32, .box [Ti f3, Ti f4, Ti f5, Ti f6]), (24, .box [Ti 0, Ti 0, Ti 0, Ti 0]), (16, .box [Ti 0, Ti 0, Ti 0]), (8, .box [Ti f7, Ti f8, Ti f9])]⟩ : St) ∧ r_impl_reduce_L10 n f3 f4 f5 f6 f7 f8 f9 = some o11) FU ⟨_, _, _, _, _, _, _,  by rfl, hLo11⟩ ?_)
   clear hLo11
   rintro n s ⟨f3, f4, f5, f6, f7, f8, f9, hs, h⟩
   refine V_keep _ _ hs ?_
   clear hs
   cases n with
   | zero => cases h
   | succ n =>
    rw [r_impl_reduce_L10] at h
    refine zX ?_
    obtain ⟨y12, hy12, h⟩ := zD h
    refine zG (mb 20 542) [32, 24, 16, 8] (s1 := ⟨.bot :: .pt 8 0 :: .pt 16 0 :: .pt 24 0 :: .pt 32 0 :: bt 4 (Bo (!y12) :: bt 10 []), [(32, .box [Ti f3, Ti f4, Ti f5, Ti f6]), (24, .box [Ti 0, Ti 0, Ti 0, Ti 0]), (16, .box [Ti 0, Ti 0, Ti 0]), (8, .box [Ti f7, Ti f8, Ti f9])]⟩) ?_ ?_
    ·refine XR 1 ?_
     refine XC (s_impl_Form_isReduced hy12) cf_impl_Form_isReduced rfl rfl rfl ?_
     exact XE
    refine zQ rfl (fun hc13 => ?_) (fun hc13 => ?_)
    ·have h := zM h hc13
     refine zV ?_
     show V _ _ _ _
     refine zZ ?_
     obtain ⟨y14, hy14, h⟩ := zD h
     refine zG (mb 20 62) [40, 32, 24, 16, 8] (s1 := ⟨.bot :: .pt 8 0 :: .pt 16 0 :: .pt 24 0 :: .pt 32 0 :: .pt 40 0 :: bt 14 [], [(40, .box [Ti y14.1, Ti y14.2.1, Ti y14.2.2.1, Ti y14.2.2.2]), (32, .box [Ti f3, Ti f4, Ti f5, Ti f6]), (24, .box [Ti 0, Ti 0, Ti 0, Ti 0]), (16, .box [Ti 0, Ti 0, Ti 0]), (8, .box [Ti f7, Ti f8, Ti f9])]⟩) ?_ ?_
     ·refine XR 1 ?_
      refine XC (s_impl_Form_step hy14) cf_impl_Form_step rfl rfl rfl ?_
      exact XE
     obtain ⟨y15, hy15, h⟩ := zD h
     refine zG (mb 20 62) [40, 32, 24, 16, 8] (s1 := ⟨.bot :: .pt 8 0 :: .pt 16 0 :: .pt 24 0 :: .pt 32 0 :: .pt 40 0 :: bt 14 [], [(40, .box [Ti y14.1, Ti y14.2.1, Ti y14.2.2.1, Ti y14.2.2.2]), (32, .box [Ti f3, Ti f4, Ti f5, Ti f6]), (24, .box [Ti 0, Ti 0, Ti 0, Ti 0]), (16, .box [Ti 0, Ti 0, Ti 0]), (8, .box [Ti y15.1, Ti y15.2.1, Ti y15.2.2])]⟩) ?_ ?_
     ·refine XR 2 ?_
      refine XC (s_impl_Form_substitute hy15) cf_impl_Form_substitute rfl rfl rfl ?_
      exact XE
     obtain ⟨y16, hy16, h⟩ := zD h
     refine V_reg (mb 20 30) [32, 24, 16, 8] (s1 := ⟨.bot :: .pt 8 0 :: .pt 16 0 :: .pt 24 0 :: .pt 32 0 :: bt 15 [], [(32, .box [Ti y16.1, Ti y16.2.1, Ti y16.2.2.1, Ti y16.2.2.2]), (24, .box [Ti 0, Ti 0, Ti 0, Ti 0]), (16, .box [Ti 0, Ti 0, Ti 0]), (8, .box [Ti y15.1, Ti y15.2.1, Ti y15.2.2])]⟩) ?_ ?_
     ·refine XR 2 ?_
      refine XC (s_impl_Matrix_times hy16) cf_impl_Matrix_times rfl rfl rfl ?_
      exact XE
     exact ⟨n, Nat.lt_succ_self n, _, _, _, _, _, _, _,  by rfl, h⟩
    ·have h := zK h hc13
     refine V_exit ?_
     obtain rfl := zE h
     show St.keep _ _ _ = _
     rfl
  show V _ _ _ _
  refine V_sdreg [0, 0, 1, 7] 3 [[.z, .b, .z], [.b, .z, .r 16], [.a, .b, .z]] (mb 20 12) [24, 16] (s1 := ⟨.bot :: .bot :: .pt 16 0 :: .pt 24 0 :: bt 16 [], [(24, .box [Ti o11.1, Ti o11.2.1, Ti o11.2.2.1, Ti o11.2.2.2.1]), (16, .box [Ti o11.2.2.2.2.1, Ti o11.2.2.2.2.2.1, Ti o11.2.2.2.2.2.2])]⟩) kk kk ?_ ?_
  ·refine DA 3 ?_
   exact XE
  refine zR ?_
  obtain rfl := zE h
  show Post _ _ _ _ _
  exact ⟨.inr rfl, rfl, rfl, rfl⟩
theorem cf_impl_reduced : ∀ args w, (callFunc 112 args).run Tryz.prog w = .ok (.enter 112 args) w := zI Tryz.func112 kk kk
theorem s_impl_reduced {f1 : (Int × Int × Int)} {r : (Int × Int × Int)} (h : r_impl_reduced f1 = some r) : z7 Tryz.prog 112 [.ag [Ti f1.1, Ti f1.2.1, Ti f1.2.2]] (.ag [Ti r.1, Ti r.2.1, Ti r.2.2]) [] := by
  refine zH (rs := [.w 2 3]) (vs := [.cell 2 38]) Tryz.func112 rfl rfl (.cons ⟨rfl, wd38⟩ FitsL.nil) (by decide) 11 rfl ?_
  unfold r_impl_reduced at h
  show V _ _ ⟨.ag [Ti f1.1, Ti f1.2.1, Ti f1.2.2] :: bt 10 [], []⟩ _
  refine V_e (mb 11 6) [16, 8] (s1 := ⟨.bot :: .pt 8 0 :: .pt 16 0 :: bt 8 [], [(16, .box [Ti 0, Ti 0, Ti 0]), (8, .box [Ti f1.1, Ti f1.2.1, Ti f1.2.2])]⟩) ?_
  obtain ⟨y2, hy2, h⟩ := zD h
  refine zG (mb 11 12) [24, 16] (s1 := ⟨.bot :: .bot :: .pt 16 0 :: .pt 24 0 :: bt 7 [], [(24, .box [Ti y2.1.1, Ti y2.1.2.1, Ti y2.1.2.2]), (16, .box [Ti 0, Ti 0, Ti 0])]⟩) ?_ ?_
  ·refine XR 1 ?_
   refine XC (s_impl_reduce hy2) cf_impl_reduce rfl rfl rfl ?_
   exact XE
  refine V_e (mb 11 4) [16] (s1 := ⟨.bot :: .bot :: .pt 16 0 :: bt 8 [], [(16, .box [Ti y2.1.1, Ti y2.1.2.1, Ti y2.1.2.2])]⟩) ?_
  refine zR ?_
  obtain rfl := zE h
  show Post _ _ _ _ _
  exact ⟨.inr rfl, rfl, rfl, rfl⟩
theorem cf_impl_refusal : ∀ args w, (callFunc 108 args).run Tryz.prog w = .ok (.enter 108 args) w := zI Tryz.func108 kk kk
theorem s_impl_refusal {l1 : List ((ByteArray × ((Int × Int × Int))))} {c2 : (Int × ByteArray × ByteArray × ByteArray × ((Int × Int × Int)))} {r : Int} (h : r_impl_refusal l1 c2 = some r) : z7 Tryz.prog 108 [.c (.sl (l1.map c73)), .ag [Ti c2.1, .v (.string c2.2.1), .v (.string c2.2.2.1), .v (.string c2.2.2.2.1), Ti c2.2.2.2.2.1, Ti c2.2.2.2.2.2.1, Ti c2.2.2.2.2.2.2]] (I r) [] := by
  refine zH (rs := [.t 4]) (vs := [.tmp 4]) Tryz.func108 rfl rfl (.cons rfl FitsL.nil) (by decide) 95 rfl ?_
  unfold r_impl_refusal at h
  show V _ _ ⟨.c (.sl (l1.map c73)) :: .ag [Ti c2.1, .v (.string c2.2.1), .v (.string c2.2.2.1), .v (.string c2.2.2.2.1), Ti c2.2.2.2.2.1, Ti c2.2.2.2.2.2.1, Ti c2.2.2.2.2.2.2] :: bt 93 [], []⟩ _
  refine V_e (mb 95 9) [24] (s1 := ⟨.c (.sl (l1.map c73)) :: .bot :: .bot :: .pt 24 0 :: bt 91 [], [(24, .box [Ti c2.1, .v (.string c2.2.1), .v (.string c2.2.2.1), .v (.string c2.2.2.2.1), Ti c2.2.2.2.2.1, Ti c2.2.2.2.2.2.1, Ti c2.2.2.2.2.2.2])]⟩) ?_
  obtain ⟨y3, hy3, h⟩ := zD h
  refine zG (mb 95 105) [40, 24] (s1 := ⟨.c (.sl (l1.map c73)) :: .bot :: .bot :: .pt 24 0 :: .bot :: .pt 40 0 :: Bo y3.2 :: bt 88 [], [(40, .box [Ti y3.1.1, Ti y3.1.2.1, Ti y3.1.2.2]), (24, .box [Ti c2.1, .v (.string c2.2.1), .v (.string c2.2.2.1), .v (.string c2.2.2.2.1), Ti c2.2.2.2.2.1, Ti c2.2.2.2.2.2.1, Ti c2.2.2.2.2.2.2])]⟩) ?_ ?_
  ·refine XR 3 ?_
   refine XC (s_impl_find hy3) cf_impl_find rfl rfl rfl ?_
   exact XE
  obtain ⟨y4, hy4, h⟩ := zD h
  refine zG (mb 95 489) [56, 40, 24] (s1 := ⟨.c (.sl (l1.map c73)) :: .bot :: .bot :: .pt 24 0 :: .bot :: .pt 40 0 :: Bo y3.2 :: .pt 56 0 :: Bo y4.2 :: bt 86 [], [(56, .box [Ti y4.1.1, Ti y4.1.2.1, Ti y4.1.2.2]), (40, .box [Ti y3.1.1, Ti y3.1.2.1, Ti y3.1.2.2]), (24, .box [Ti c2.1, .v (.string c2.2.1), .v (.string c2.2.2.1), .v (.string c2.2.2.2.1), Ti c2.2.2.2.2.1, Ti c2.2.2.2.2.2.1, Ti c2.2.2.2.2.2.2])]⟩) ?_ ?_
  ·refine XR 3 ?_
   refine XC (s_impl_find hy4) cf_impl_find rfl rfl rfl ?_
   exact XE
  obtain ⟨y5, hy5, h⟩ := zD h
  refine zG (mb 95 2024) [72, 56, 40, 24] (s1 := ⟨bt 3 (.pt 24 0 :: .bot :: .pt 40 0 :: Bo y3.2 :: .pt 56 0 :: Bo y4.2 :: .pt 72 0 :: Bo y5.2 :: bt 84 []), [(72, .box [Ti y5.1.1, Ti y5.1.2.1, Ti y5.1.2.2]), (56, .box [Ti y4.1.1, Ti y4.1.2.1, Ti y4.1.2.2]), (40, .box [Ti y3.1.1, Ti y3.1.2.1, Ti y3.1.2.2]), (24, .box [Ti c2.1, .v (.string c2.2.1), .v (.string c2.2.2.1), .v (.string c2.2.2.2.1), Ti c2.2.2.2.2.1, Ti c2.2.2.2.2.2.1, Ti c2.2.2.2.2.2.2])]⟩) ?_ ?_
  ·refine XR 3 ?_
   refine XC (s_impl_find hy5) cf_impl_find rfl rfl rfl ?_
   exact XE
  obtain ⟨puts8, hputs8, h⟩ := zD h
  have hputs8 := zE hputs8
  refine zG (mb 95 4072) [72, 56, 40, 24] (s1 := ⟨bt 3 (.pt 24 0 :: .bot :: .pt 40 0 :: Bo y3.2 :: .pt 56 0 :: Bo y4.2 :: .pt 72 0 :: Bo y5.2 :: Bo puts8 :: bt 83 []), [(72, .box [Ti y5.1.1, Ti y5.1.2.1, Ti y5.1.2.2]), (56, .box [Ti y4.1.1, Ti y4.1.2.1, Ti y4.1.2.2]), (40, .box [Ti y3.1.1, Ti y3.1.2.1, Ti y3.1.2.2]), (24, .box [Ti c2.1, .v (.string c2.2.1), .v (.string c2.2.2.1), .v (.string c2.2.2.2.1), Ti c2.2.2.2.2.1, Ti c2.2.2.2.2.2.1, Ti c2.2.2.2.2.2.2])]⟩) ?_ ?_
  ·refine XR 4 ?_
   refine zP (eqI c2.1 1) (fun hc6 => ?_) (fun hc6 => ?_)
   ·refine zL _ rfl rfl kk hc6 rfl ?_
    refine zL _ rfl rfl kk hc6 rfl ?_
    refine zL _ rfl rfl kk hc6 rfl ?_
    refine zJ rfl (zA rfl (zW (b := eqI c2.1 1) (p := true) (q := eqI c2.1 3) rfl kk hc6 kk)) ?_
    refine XR 1 ?_
    refine zP (bif (eqI c2.1 1) then true else (eqI c2.1 3)) (fun hc7 => ?_) (fun hc7 => ?_)
    ·refine zL _ rfl rfl kk hc7 rfl ?_
     refine zL _ rfl rfl kk hc7 rfl ?_
     refine zL _ rfl rfl kk hc7 rfl ?_
     refine zJ rfl (zA rfl (zW (b := bif (eqI c2.1 1) then true else (eqI c2.1 3)) (p := true) (q := eqI c2.1 4) rfl kk hc7 kk)) ?_
     refine XR 1 ?_
     refine zN ?_
     subst hputs8
     kernel_rfl
    ·refine zB _ rfl rfl kk hc7 (zA rfl (qD (.pt 24 0) Tryz.underlying40 rfl sz3 rfl kk (by intro hh; cases hh))) ?_
     refine zB _ rfl rfl kk hc7 (zA rfl (qC (c := Ti c2.1) (cs := [.v (.string c2.2.1), .v (.string c2.2.2.1), .v (.string c2.2.2.2.1), Ti c2.2.2.2.2.1, Ti c2.2.2.2.2.2.1, Ti c2.2.2.2.2.2.2]) sc3 rfl kk)) ?_
     refine zB _ rfl rfl kk hc7 (zA rfl (Y0_eqw (k := .i64) (a := c2.1) (b := 4) rfl kk kk)) ?_
     refine zJ rfl (zA rfl (zT (b := bif (eqI c2.1 1) then true else (eqI c2.1 3)) (p := true) (q := eqI c2.1 4) rfl kk hc7 kk)) ?_
     refine XR 1 ?_
     refine zN ?_
     subst hputs8
     kernel_rfl
   ·refine zB _ rfl rfl kk hc6 (zA rfl (qD (.pt 24 0) Tryz.underlying40 rfl sz3 rfl kk (by intro hh; cases hh))) ?_
    refine zB _ rfl rfl kk hc6 (zA rfl (qC (c := Ti c2.1) (cs := [.v (.string c2.2.1), .v (.string c2.2.2.1), .v (.string c2.2.2.2.1), Ti c2.2.2.2.2.1, Ti c2.2.2.2.2.2.1, Ti c2.2.2.2.2.2.2]) sc3 rfl kk)) ?_
    refine zB _ rfl rfl kk hc6 (zA rfl (Y0_eqw (k := .i64) (a := c2.1) (b := 3) rfl kk kk)) ?_
    refine zJ rfl (zA rfl (zT (b := eqI c2.1 1) (p := true) (q := eqI c2.1 3) rfl kk hc6 kk)) ?_
    refine XR 1 ?_
    refine zP (bif (eqI c2.1 1) then true else (eqI c2.1 3)) (fun hc7 => ?_) (fun hc7 => ?_)
    ·refine zL _ rfl rfl kk hc7 rfl ?_
     refine zL _ rfl rfl kk hc7 rfl ?_
     refine zL _ rfl rfl kk hc7 rfl ?_
     refine zJ rfl (zA rfl (zW (b := bif (eqI c2.1 1) then true else (eqI c2.1 3)) (p := true) (q := eqI c2.1 4) rfl kk hc7 kk)) ?_
     refine XR 1 ?_
     refine zN ?_
     subst hputs8
     kernel_rfl
    ·refine zB _ rfl rfl kk hc7 (zA rfl (qD (.pt 24 0) Tryz.underlying40 rfl sz3 rfl kk (by intro hh; cases hh))) ?_
     refine zB _ rfl rfl kk hc7 (zA rfl (qC (c := Ti c2.1) (cs := [.v (.string c2.2.1), .v (.string c2.2.2.1), .v (.string c2.2.2.2.1), Ti c2.2.2.2.2.1, Ti c2.2.2.2.2.2.1, Ti c2.2.2.2.2.2.2]) sc3 rfl kk)) ?_
     refine zB _ rfl rfl kk hc7 (zA rfl (Y0_eqw (k := .i64) (a := c2.1) (b := 4) rfl kk kk)) ?_
     refine zJ rfl (zA rfl (zT (b := bif (eqI c2.1 1) then true else (eqI c2.1 3)) (p := true) (q := eqI c2.1 4) rfl kk hc7 kk)) ?_
     refine XR 1 ?_
     refine zN ?_
     subst hputs8
     kernel_rfl
  refine zX ?_
  refine zZ ?_
  refine zG (mb 95 70368744181736) [72, 56, 40, 24] (s1 := ⟨bt 3 (.pt 24 0 :: .bot :: .pt 40 0 :: Bo y3.2 :: .pt 56 0 :: Bo y4.2 :: .pt 72 0 :: Bo y5.2 :: Bo puts8 :: bt 34 (Bo (bif puts8 then y3.2 else false) :: bt 48 [])), [(72, .box [Ti y5.1.1, Ti y5.1.2.1, Ti y5.1.2.2]), (56, .box [Ti y4.1.1, Ti y4.1.2.1, Ti y4.1.2.2]), (40, .box [Ti y3.1.1, Ti y3.1.2.1, Ti y3.1.2.2]), (24, .box [Ti c2.1, .v (.string c2.2.1), .v (.string c2.2.2.1), .v (.string c2.2.2.2.1), Ti c2.2.2.2.2.1, Ti c2.2.2.2.2.2.1, Ti c2.2.2.2.2.2.2])]⟩) ?_ ?_
  ·refine XR 2 ?_
   refine zP puts8 (fun hc9 => ?_) (fun hc9 => ?_)
   ·refine zB _ rfl rfl kk hc9 (zA rfl (zY (Bo y3.2) rfl kk)) ?_
    refine zJ rfl (zA rfl (zW (b := puts8) (p := y3.2) (q := false) rfl kk hc9 kk)) ?_
    exact XE
   ·refine zF _ rfl rfl kk hc9 rfl ?_
    refine zJ rfl (zA rfl (zT (b := puts8) (p := y3.2) (q := false) rfl kk hc9 kk)) ?_
    exact XE
  refine zQ rfl (fun hc10 => ?_) (fun hc10 => ?_)
  ·have h := zM h hc10
   refine V_e (mb 95 16) [] (s1 := ⟨bt 4 (I 2 :: bt 90 []), []⟩) ?_
   refine zR ?_
   obtain rfl := zE h
   show Post _ _ _ _ _
   exact ⟨.inr rfl, rfl, rfl, rfl⟩
  ·have h := zK h hc10
   obtain ⟨j11, hj11, h⟩ := zD h
   refine V_cutK (mb 95 2251799813685928) [72, 56, 40, 24] (s1 := ⟨bt 3 (.pt 24 0 :: .bot :: .pt 40 0 :: .bot :: .pt 56 0 :: .bot :: .pt 72 0 :: bt 41 (Bo j11 :: bt 43 [])), [(72, .box [Ti y5.1.1, Ti y5.1.2.1, Ti y5.1.2.2]), (56, .box [Ti y4.1.1, Ti y4.1.2.1, Ti y4.1.2.2]), (40, .box [Ti y3.1.1, Ti y3.1.2.1, Ti y3.1.2.2]), (24, .box [Ti c2.1, .v (.string c2.2.1), .v (.string c2.2.2.1), .v (.string c2.2.2.2.1), Ti c2.2.2.2.2.1, Ti c2.2.2.2.2.2.1, Ti c2.2.2.2.2.2.2])]⟩) ?_ ?_
   ·clear h
    have h := hj11
    clear hj11
    refine zG (mb 95 2251799813687208) [72, 56, 40, 24] (s1 := ⟨bt 3 (.pt 24 0 :: .bot :: .pt 40 0 :: .bot :: .pt 56 0 :: Bo y4.2 :: .pt 72 0 :: Bo y5.2 :: bt 40 (Bo (bif (!puts8) then (!y3.2) else false) :: bt 43 [])), [(72, .box [Ti y5.1.1, Ti y5.1.2.1, Ti y5.1.2.2]), (56, .box [Ti y4.1.1, Ti y4.1.2.1, Ti y4.1.2.2]), (40, .box [Ti y3.1.1, Ti y3.1.2.1, Ti y3.1.2.2]), (24, .box [Ti c2.1, .v (.string c2.2.1), .v (.string c2.2.2.1), .v (.string c2.2.2.2.1), Ti c2.2.2.2.2.1, Ti c2.2.2.2.2.2.1, Ti c2.2.2.2.2.2.2])]⟩) ?_ ?_
    ·refine XR 3 ?_
     refine zP (!puts8) (fun hc12 => ?_) (fun hc12 => ?_)
     ·refine zB _ rfl rfl kk hc12 (zA rfl (zY (Bo y3.2) rfl kk)) ?_
      refine zB _ rfl rfl kk hc12 (zA rfl (Y0_not (b := y3.2) rfl kk)) ?_
      refine zJ rfl (zA rfl (zW (b := !puts8) (p := !y3.2) (q := false) rfl kk hc12 kk)) ?_
      exact XE
     ·refine zF _ rfl rfl kk hc12 rfl ?_
      refine zF _ rfl rfl kk hc12 rfl ?_
      refine zJ rfl (zA rfl (zT (b := !puts8) (p := !y3.2) (q := false) rfl kk hc12 kk)) ?_
      exact XE
    refine zQ rfl (fun hc13 => ?_) (fun hc13 => ?_)
    ·have h := zM h hc13
     refine zV ?_
     obtain rfl := zE h
     show St.keep _ _ _ = _
     rfl
    ·have h := zK h hc13
     obtain ⟨t15, ht15, h⟩ := zD h
     have ht15 := zE ht15
     refine zG (mb 95 2251799813686952) [72, 56, 40, 24] (s1 := ⟨bt 3 (.pt 24 0 :: .bot :: .pt 40 0 :: .bot :: .pt 56 0 :: .bot :: .pt 72 0 :: Bo y5.2 :: bt 40 (Bo t15 :: bt 43 [])), [(72, .box [Ti y5.1.1, Ti y5.1.2.1, Ti y5.1.2.2]), (56, .box [Ti y4.1.1, Ti y4.1.2.1, Ti y4.1.2.2]), (40, .box [Ti y3.1.1, Ti y3.1.2.1, Ti y3.1.2.2]), (24, .box [Ti c2.1, .v (.string c2.2.1), .v (.string c2.2.2.1), .v (.string c2.2.2.2.1), Ti c2.2.2.2.2.1, Ti c2.2.2.2.2.2.1, Ti c2.2.2.2.2.2.2])]⟩) ?_ ?_
     ·refine XR 2 ?_
      refine L0 rfl rfl (Y0_nes (a := c2.2.2.1) (b := ((⟨#[]⟩ : ByteArray))) rfl kk kk) ?_
      refine XR 1 ?_
      refine zP (!(c2.2.2.1.toList == ((⟨#[]⟩ : ByteArray)).toList)) (fun hc14 => ?_) (fun hc14 => ?_)
      ·refine zB _ rfl rfl kk hc14 (zA rfl (zY (Bo y4.2) rfl kk)) ?_
       refine zB _ rfl rfl kk hc14 (zA rfl (Y0_not (b := y4.2) rfl kk)) ?_
       refine zJ rfl (zA rfl (zW (b := !(c2.2.2.1.toList == ((⟨#[]⟩ : ByteArray)).toList)) (p := !y4.2) (q := false) rfl kk hc14 kk)) ?_
       refine XR 1 ?_
       refine zN ?_
       subst ht15
       kernel_rfl
      ·refine zF _ rfl rfl kk hc14 rfl ?_
       refine zF _ rfl rfl kk hc14 rfl ?_
       refine zJ rfl (zA rfl (zT (b := !(c2.2.2.1.toList == ((⟨#[]⟩ : ByteArray)).toList)) (p := !y4.2) (q := false) rfl kk hc14 kk)) ?_
       refine XR 1 ?_
       refine zN ?_
       subst ht15
       kernel_rfl
     refine zQ rfl (fun hc16 => ?_) (fun hc16 => ?_)
     ·have h := zM h hc16
      refine zV ?_
      obtain rfl := zE h
      show St.keep _ _ _ = _
      rfl
     ·have h := zK h hc16
      obtain ⟨t18, ht18, h⟩ := zD h
      have ht18 := zE ht18
      refine V_reg (mb 95 2251799813685928) [72, 56, 40, 24] (s1 := ⟨bt 3 (.pt 24 0 :: .bot :: .pt 40 0 :: .bot :: .pt 56 0 :: .bot :: .pt 72 0 :: bt 41 (Bo t18 :: bt 43 [])), [(72, .box [Ti y5.1.1, Ti y5.1.2.1, Ti y5.1.2.2]), (56, .box [Ti y4.1.1, Ti y4.1.2.1, Ti y4.1.2.2]), (40, .box [Ti y3.1.1, Ti y3.1.2.1, Ti y3.1.2.2]), (24, .box [Ti c2.1, .v (.string c2.2.1), .v (.string c2.2.2.1), .v (.string c2.2.2.2.1), Ti c2.2.2.2.2.1, Ti c2.2.2.2.2.2.1, Ti c2.2.2.2.2.2.2])]⟩) ?_ ?_
      ·refine XR 2 ?_
       refine L0 rfl rfl (Y0_nes (a := c2.2.2.2.1) (b := ((⟨#[]⟩ : ByteArray))) rfl kk kk) ?_
       refine XR 1 ?_
       refine zP (!(c2.2.2.2.1.toList == ((⟨#[]⟩ : ByteArray)).toList)) (fun hc17 => ?_) (fun hc17 => ?_)
       ·refine zB _ rfl rfl kk hc17 (zA rfl (zY (Bo y5.2) rfl kk)) ?_
        refine zB _ rfl rfl kk hc17 (zA rfl (Y0_not (b := y5.2) rfl kk)) ?_
        refine zJ rfl (zA rfl (zW (b := !(c2.2.2.2.1.toList == ((⟨#[]⟩ : ByteArray)).toList)) (p := !y5.2) (q := false) rfl kk hc17 kk)) ?_
        refine XR 1 ?_
        refine zN ?_
        subst ht18
        kernel_rfl
       ·refine zF _ rfl rfl kk hc17 rfl ?_
        refine zF _ rfl rfl kk hc17 rfl ?_
        refine zJ rfl (zA rfl (zT (b := !(c2.2.2.2.1.toList == ((⟨#[]⟩ : ByteArray)).toList)) (p := !y5.2) (q := false) rfl kk hc17 kk)) ?_
        refine XR 1 ?_
        refine zN ?_
        subst ht18
        kernel_rfl
      obtain rfl := zE h
      show St.keep _ _ _ = _
      rfl
   refine zQ rfl (fun hc19 => ?_) (fun hc19 => ?_)
   ·have h := zM h hc19
    refine V_e (mb 95 16) [] (s1 := ⟨bt 4 (I 3 :: bt 90 []), []⟩) ?_
    refine zR ?_
    obtain rfl := zE h
    show Post _ _ _ _ _
    exact ⟨.inr rfl, rfl, rfl, rfl⟩
   ·have h := zK h hc19
    obtain ⟨b23, hb23, h⟩ := zD h
    refine V_sdreg [0, 1, 3, 7, 15, 31, 15, 127, 255, 511, 1023] 11 (cdm 11 [0, 1, 5, 21, 8277, 8533, 2645, 5461, 21845, 87381, 349525]) (mb 95 4722366482869645213736) [40, 24] (s1 := ⟨bt 3 (.pt 24 0 :: .bot :: .pt 40 0 :: bt 66 (Bo b23 :: bt 22 [])), [(40, .box [Ti y3.1.1, Ti y3.1.2.1, Ti y3.1.2.2]), (24, .box [Ti c2.1, .v (.string c2.2.1), .v (.string c2.2.2.1), .v (.string c2.2.2.2.1), Ti c2.2.2.2.2.1, Ti c2.2.2.2.2.2.1, Ti c2.2.2.2.2.2.2])]⟩) kk kk ?_ ?_
    ·refine DR 4 ?_
     refine DL_split (eqI c2.1 3) (fun hc20 => ?_) (fun hc20 => ?_)
     ·have hb23 := zM hb23 hc20
      obtain ⟨y21, hy21, hb23⟩ := zD hb23
      obtain ⟨y22, hy22, hb23⟩ := zD hb23
      have hb23 := zE hb23
      refine DE_0 4 (.ag [Ti y4.1.1, Ti y4.1.2.1, Ti y4.1.2.2]) kk rfl rfl rfl (gsat_C (eqI c2.1 3) rfl rfl kk hc20) kk (E_loadn (cs := [Ti y4.1.1, Ti y4.1.2.1, Ti y4.1.2.2]) [Ti y4.1.1, Ti y4.1.2.1, Ti y4.1.2.2] wd38 rfl kk (Nat.le_of_ble_eq_true rfl) kk) 77 rfl ?_
      refine DE_1 5 kk rfl rfl rfl (gsat_C (eqI c2.1 3) rfl rfl kk hc20) (Y1_call (s_impl_Form_disc hy21) cf_impl_Form_disc rfl kk) rfl rfl rfl 78 rfl ?_
      refine DE_0 6 (.ag [Ti y5.1.1, Ti y5.1.2.1, Ti y5.1.2.2]) kk rfl rfl rfl (gsat_C (eqI c2.1 3) rfl rfl kk hc20) kk (E_loadn (cs := [Ti y5.1.1, Ti y5.1.2.1, Ti y5.1.2.2]) [Ti y5.1.1, Ti y5.1.2.1, Ti y5.1.2.2] wd38 rfl kk (Nat.le_of_ble_eq_true rfl) kk) 79 rfl ?_
      refine DE_1 7 kk rfl rfl rfl (gsat_C (eqI c2.1 3) rfl rfl kk hc20) (Y1_call (s_impl_Form_disc hy22) cf_impl_Form_disc rfl kk) rfl rfl rfl 80 rfl ?_
      refine DE_0 8 (Bo (!eqI y21 y22)) kk rfl rfl rfl (gsat_C (eqI c2.1 3) rfl rfl kk hc20) kk (Y0_new (k := .i64) (a := y21) (b := y22) rfl kk kk) 81 rfl ?_
      refine DE_0 9 (Bo (b23)) kk rfl rfl rfl (zO rfl) kk (Y0_pickTe (b := eqI c2.1 3) (p := !eqI y21 y22) rfl kk hc20 kk hb23) 82 rfl ?_
      refine DA 1 ?_
      exact XE
     ·have hb23 := zE (zK hb23 hc20)
      refine DE_t 4 kk rfl rfl rfl (gun_T (eqI c2.1 3) rfl rfl kk hc20) 77 rfl ?_
      refine DE_t 5 kk rfl rfl rfl (gun_T (eqI c2.1 3) rfl rfl kk hc20) 78 rfl ?_
      refine DE_t 6 kk rfl rfl rfl (gun_T (eqI c2.1 3) rfl rfl kk hc20) 79 rfl ?_
      refine DE_t 7 kk rfl rfl rfl (gun_T (eqI c2.1 3) rfl rfl kk hc20) 80 rfl ?_
      refine DE_t 8 kk rfl rfl rfl (gun_T (eqI c2.1 3) rfl rfl kk hc20) 81 rfl ?_
      refine DE_0 9 (Bo (b23)) kk rfl rfl rfl (zO rfl) kk (Y0_pickFe (b := eqI c2.1 3) (p := false) rfl kk hc20 kk hb23) 82 rfl ?_
      refine DA 1 ?_
      exact XE
    refine zQ rfl (fun hc24 => ?_) (fun hc24 => ?_)
    ·have h := zM h hc24
     refine V_e (mb 95 16) [] (s1 := ⟨bt 4 (I 4 :: bt 90 []), []⟩) ?_
     refine zR ?_
     obtain rfl := zE h
     show Post _ _ _ _ _
     exact ⟨.inr rfl, rfl, rfl, rfl⟩
    ·have h := zK h hc24
     obtain ⟨b28, hb28, h⟩ := zD h
     refine V_sdreg [0, 1, 3, 7, 15, 31, 15, 79, 255, 511, 1023, 2047] 12 (cdm 12 [0, 1, 5, 21, 41045, 41301, 2645, 6741, 21845, 87381, 349525, 1398101]) (mb 95 9671406556917033397649408) [] (s1 := ⟨bt 83 (Bo b28 :: bt 11 []), []⟩) kk kk ?_ ?_
     ·refine DR 4 ?_
      refine DL_split (eqI c2.1 5) (fun hc25 => ?_) (fun hc25 => ?_)
      ·have hb28 := zM hb28 hc25
       obtain ⟨y26, hy26, hb28⟩ := zD hb28
       obtain ⟨y27, hy27, hb28⟩ := zD hb28
       have hb28 := zE hb28
       refine DE_0 4 (.ag [Ti y3.1.1, Ti y3.1.2.1, Ti y3.1.2.2]) kk rfl rfl rfl (gsat_C (eqI c2.1 5) rfl rfl kk hc25) kk (E_loadn (cs := [Ti y3.1.1, Ti y3.1.2.1, Ti y3.1.2.2]) [Ti y3.1.1, Ti y3.1.2.1, Ti y3.1.2.2] wd38 rfl kk (Nat.le_of_ble_eq_true rfl) kk) 88 rfl ?_
       refine DE_1 5 kk rfl rfl rfl (gsat_C (eqI c2.1 5) rfl rfl kk hc25) (Y1_call (s_impl_reduced hy26) cf_impl_reduced rfl kk) rfl rfl rfl 89 rfl ?_
       refine DE_0 6 (.pt 24 4) kk rfl rfl rfl (gsat_C (eqI c2.1 5) rfl rfl kk hc25) kk (qD (.pt 24 4) Tryz.underlying40 rfl sz38 rfl kk (by intro hh; cases hh)) 90 rfl ?_
       refine DE_0 7 (.ag [Ti c2.2.2.2.2.1, Ti c2.2.2.2.2.2.1, Ti c2.2.2.2.2.2.2]) kk rfl rfl rfl (gsat_C (eqI c2.1 5) rfl rfl kk hc25) kk (E_loadn (cs := [Ti c2.2.2.2.2.1, Ti c2.2.2.2.2.2.1, Ti c2.2.2.2.2.2.2]) [Ti c2.2.2.2.2.1, Ti c2.2.2.2.2.2.1, Ti c2.2.2.2.2.2.2] wd38 rfl kk (Nat.le_of_ble_eq_true rfl) kk) 91 rfl ?_
       refine DE_1 8 kk rfl rfl rfl (gsat_C (eqI c2.1 5) rfl rfl kk hc25) (Y1_call (s_impl_reduced hy27) cf_impl_reduced rfl kk) rfl rfl rfl 92 rfl ?_
       refine DE_0 9 (Bo (!((y26.1 == y27.1) && ((y26.2.1 == y27.2.1) && (y26.2.2 == y27.2.2))))) kk rfl rfl rfl (gsat_C (eqI c2.1 5) rfl rfl kk hc25) kk (Y0_neg3 (a0 := y26.1) (b0 := y27.1) (a1 := y26.2.1) (b1 := y27.2.1) (a2 := y26.2.2) (b2 := y27.2.2) neg38 rfl kk kk) 93 rfl ?_
       refine DE_0 10 (Bo (b28)) kk rfl rfl rfl (zO rfl) kk (Y0_pickTe (b := eqI c2.1 5) (p := !((y26.1 == y27.1) && ((y26.2.1 == y27.2.1) && (y26.2.2 == y27.2.2)))) rfl kk hc25 kk hb28) 94 rfl ?_
       refine DA 1 ?_
       exact XE
      ·have hb28 := zE (zK hb28 hc25)
       refine DE_t 4 kk rfl rfl rfl (gun_T (eqI c2.1 5) rfl rfl kk hc25) 88 rfl ?_
       refine DE_t 5 kk rfl rfl rfl (gun_T (eqI c2.1 5) rfl rfl kk hc25) 89 rfl ?_
       refine DE_t 6 kk rfl rfl rfl (gun_T (eqI c2.1 5) rfl rfl kk hc25) 90 rfl ?_
       refine DE_t 7 kk rfl rfl rfl (gun_T (eqI c2.1 5) rfl rfl kk hc25) 91 rfl ?_
       refine DE_t 8 kk rfl rfl rfl (gun_T (eqI c2.1 5) rfl rfl kk hc25) 92 rfl ?_
       refine DE_t 9 kk rfl rfl rfl (gun_T (eqI c2.1 5) rfl rfl kk hc25) 93 rfl ?_
       refine DE_0 10 (Bo (b28)) kk rfl rfl rfl (zO rfl) kk (Y0_pickFe (b := eqI c2.1 5) (p := false) rfl kk hc25 kk hb28) 94 rfl ?_
       refine DA 1 ?_
       exact XE
     refine zQ rfl (fun hc29 => ?_) (fun hc29 => ?_)
     ·have h := zM h hc29
      refine V_e (mb 95 16) [] (s1 := ⟨bt 4 (I 4 :: bt 90 []), []⟩) ?_
      refine zR ?_
      obtain rfl := zE h
      show Post _ _ _ _ _
      exact ⟨.inr rfl, rfl, rfl, rfl⟩
     ·have h := zK h hc29
      refine zV ?_
      show V _ _ _ _
      refine V_e (mb 95 16) [] (s1 := ⟨bt 4 (I 0 :: bt 90 []), []⟩) ?_
      refine zR ?_
      obtain rfl := zE h
      show Post _ _ _ _ _
      exact ⟨.inr rfl, rfl, rfl, rfl⟩
theorem cf_impl_withoutEntry : ∀ args w, (callFunc 110 args).run Tryz.prog w = .ok (.enter 110 args) w := zI Tryz.func110 kk kk
theorem s_impl_withoutEntry {l1 : List ((ByteArray × ((Int × Int × Int))))} {name2 : ByteArray} {r : List ((ByteArray × ((Int × Int × Int))))} (h : r_impl_withoutEntry l1 name2 = some r) : z7 Tryz.prog 110 [.c (.sl (l1.map c73)), .c (.v (.string name2))] (.ow 0) [(0, .arr 73 4 (r.map c73))] := by
  refine zH (rs := [.t 4]) (vs := [.tmp 4]) Tryz.func110 rfl rfl (.cons rfl FitsL.nil) (by decide) 25 rfl ?_
  unfold r_impl_withoutEntry at h
  show V _ _ ⟨.c (.sl (l1.map c73)) :: .c (.v (.string name2)) :: bt 23 [], []⟩ _
  refine zG (mb 25 3) [] (s1 := ⟨.c (.sl (l1.map c73)) :: .c (.v (.string name2)) :: bt 23 [], []⟩) ?_ ?_
  ·refine L1 rfl rfl (Y1_nil (e := 73) 4 (by decide) (.inl rfl)) ?_
   exact XE
  refine zG (mb 25 35) [64] (s1 := ⟨.c (.sl (l1.map c73)) :: .c (.v (.string name2)) :: bt 3 (.ow 64 :: bt 19 []), [(64, .arr 73 4 ((([] : List ((ByteArray × ((Int × Int × Int)))))).map c73))]⟩) ?_ ?_
  ·refine L1 rfl rfl (Y1_bslice0 Tryz.underlying43 sz73 (by decide) rfl rfl) ?_
   exact XE
  refine zX ?_
  refine zG (mb 25 3618) [64] (s1 := ⟨.bot :: .c (.v (.string name2)) :: bt 3 (.ow 64 :: bt 3 (.c (.sl (l1.map c73)) :: I ((l1.length : Int)) :: I 0 :: bt 13 [])), [(64, .arr 73 4 ((([] : List ((ByteArray × ((Int × Int × Int)))))).map c73))]⟩) ?_ ?_
  ·refine XR 1 ?_
   refine L0 rfl rfl (Y0_lenM (c := c73) (xs := l1) Tryz.underlying43 rfl kk) ?_
   exact XE
  obtain ⟨o6, hLo6, h⟩ := zD h
  refine V_toK (mb 25 32) [64] (s1 := ⟨bt 5 (.ow 64 :: bt 19 []), [(64, .arr 73 4 (o6.map c73))]⟩) ?_ ?_
  ·clear h
   refine zZ (V_loop (fun n s => ∃ (t3 : Int) (l4 : List ((ByteArray × ((Int × Int × Int))))), s.keep (mb 25 3618) [64] = (⟨.bot :: .c (.v (.string name2)) :: bt 3 (.ow 64 :: bt 3 (.c (.sl (l1.map c73)) :: I ((l1.length : Int)) :: I t3 :: bt 13 [])), [(64, .arr 73 4 (l4.map c73))]⟩ : St) ∧ r_impl_withoutEntry_L5 l1 name2 n t3 l4 = some o6) FU ⟨_, _,  by rfl, hLo6⟩ ?_)
   clear hLo6
   rintro n s ⟨t3, l4, hs, h⟩
   refine V_keep _ _ hs ?_
   clear hs
   cases n with
   | zero => cases h
   | succ n =>
    rw [r_impl_withoutEntry_L5] at h
    refine V_e (mb 25 7714) [64] (s1 := ⟨.bot :: .c (.v (.string name2)) :: bt 3 (.ow 64 :: bt 3 (.c (.sl (l1.map c73)) :: I ((l1.length : Int)) :: I t3 :: Bo (ltI t3 ((l1.length : Int))) :: bt 12 [])), [(64, .arr 73 4 (l4.map c73))]⟩) ?_
    refine zX ?_
    refine zQ rfl (fun hc7 => ?_) (fun hc7 => ?_)
    ·have h := zM h hc7
     refine zV ?_
     show V _ _ _ _
     refine zX ?_
     refine zZ ?_
     obtain ⟨e8, he8, h⟩ := zD h
     refine zG (mb 25 3746) [56, 64] (s1 := ⟨.bot :: .c (.v (.string name2)) :: bt 3 (.ow 64 :: .bot :: .pt 56 0 :: .bot :: .c (.sl (l1.map c73)) :: I ((l1.length : Int)) :: I t3 :: bt 13 []), [(56, .box [.v (.string e8.1), Ti e8.2.1, Ti e8.2.2.1, Ti e8.2.2.2]), (64, .arr 73 4 (l4.map c73))]⟩) ?_ ?_
     ·refine L0 rfl rfl (Y0_idxM (c := c73) (xs := l1) (v := e8) (n := t3) Tryz.underlying43 sz73 rfl kk kk he8) ?_
      exact XE
     refine zG (mb 25 265890) [56, 64] (s1 := ⟨.bot :: .c (.v (.string name2)) :: bt 3 (.ow 64 :: .bot :: .pt 56 0 :: .bot :: .c (.sl (l1.map c73)) :: I ((l1.length : Int)) :: I t3 :: bt 6 (Bo (!(e8.1.toList == name2.toList)) :: bt 6 [])), [(56, .box [.v (.string e8.1), Ti e8.2.1, Ti e8.2.2.1, Ti e8.2.2.2]), (64, .arr 73 4 (l4.map c73))]⟩) ?_ ?_
     ·refine XR 3 ?_
      refine L0 rfl rfl (Y0_nes (a := e8.1) (b := name2) rfl kk kk) ?_
      exact XE
     refine zQ rfl (fun hc9 => ?_) (fun hc9 => ?_)
     ·have h := zM h hc9
      obtain ⟨u10, hu10, h⟩ := zD h
      refine V_reg (mb 25 3618) [64] (s1 := ⟨.bot :: .c (.v (.string name2)) :: bt 3 (.ow 64 :: bt 3 (.c (.sl (l1.map c73)) :: I ((l1.length : Int)) :: I t3 :: bt 13 [])), [(64, .arr 73 4 ((l4 ++ ([e8])).map c73))]⟩) ?_ ?_
      ·refine XR 2 ?_
       refine L1 rfl rfl (Y1_bslice (z := zv73) (els := [e8].map c73) Tryz.underlying43 iz73 rfl (by decide) rfl kk rfl (by simp [c73]) (by decide) (by decide)) ?_
       refine zJ rfl (X_appendM (c := c73) (xs := l4) (ys := [e8]) (id := 64) (z := zv73) rfl rfl Tryz.underlying43 izb73 rfl kk kk kk (fun _ => rfl) (by simp) (room_some hu10) (by decide)) ?_
       exact XE
      show V _ _ _ _
      obtain ⟨t11, ht11, h⟩ := qF h
      refine V_reg (mb 25 3618) [64] (s1 := ⟨.bot :: .c (.v (.string name2)) :: bt 3 (.ow 64 :: bt 3 (.c (.sl (l1.map c73)) :: I ((l1.length : Int)) :: I t11 :: bt 13 [])), [(64, .arr 73 4 ((l4 ++ ([e8])).map c73))]⟩) ?_ ?_
      ·refine XR 2 ?_
       refine zN ?_
       subst ht11
       kernel_rfl
      exact ⟨n, Nat.lt_succ_self n, _, _,  by rfl, h⟩
     ·have h := zK h hc9
      refine zV ?_
      show V _ _ _ _
      obtain ⟨t12, ht12, h⟩ := qF h
      refine V_reg (mb 25 3618) [64] (s1 := ⟨.bot :: .c (.v (.string name2)) :: bt 3 (.ow 64 :: bt 3 (.c (.sl (l1.map c73)) :: I ((l1.length : Int)) :: I t12 :: bt 13 [])), [(64, .arr 73 4 (l4.map c73))]⟩) ?_ ?_
      ·refine XR 2 ?_
       refine zN ?_
       subst ht12
       kernel_rfl
      exact ⟨n, Nat.lt_succ_self n, _, _,  by rfl, h⟩
    ·have h := zK h hc7
     refine V_exit ?_
     obtain rfl := zE h
     show St.keep _ _ _ = _
     rfl
  show V _ _ _ _
  refine V_e (mb 25 16) [64] (s1 := ⟨bt 4 (.ow 64 :: bt 20 []), [(64, .arr 73 4 (o6.map c73))]⟩) ?_
  refine zR ?_
  obtain rfl := zE h
  show Post _ _ _ _ _
  exact ⟨.inr rfl, rfl, rfl, rfl⟩
theorem cf_impl_firstPoint : ∀ args w, (callFunc 244 args).run Tryz.prog w = .ok (.enter 244 args) w := zI Tryz.func244 kk kk
theorem s_impl_firstPoint {g1 : (Int × Int × Int)} {a2 : Int} {r : (Int × Int)} (h : r_impl_firstPoint g1 a2 = some r) : z7 Tryz.prog 244 [.ag [Ti g1.1, Ti g1.2.1, Ti g1.2.2], I a2] (.tc (I r.1) (.tc (I r.2) .tn)) [] := by
  refine zH (rs := [.t 4, .t 5]) (vs := [.tmp 4, .tmp 5]) Tryz.func244 rfl rfl (.cons rfl (.cons rfl FitsL.nil)) (by decide) 43 rfl ?_
  unfold r_impl_firstPoint at h
  show V _ _ ⟨.ag [Ti g1.1, Ti g1.2.1, Ti g1.2.2] :: I a2 :: bt 41 [], []⟩ _
  refine V_e (mb 43 6) [16] (s1 := ⟨.bot :: I a2 :: .pt 16 0 :: bt 40 [], [(16, .box [Ti g1.1, Ti g1.2.1, Ti g1.2.2])]⟩) ?_
  refine V_e (mb 43 70) [16] (s1 := ⟨.bot :: I a2 :: .pt 16 0 :: bt 3 (I 0 :: bt 36 []), [(16, .box [Ti g1.1, Ti g1.2.1, Ti g1.2.2])]⟩) ?_
  obtain ⟨qo5, hLo5, hko5⟩ := zD h
  refine V_toS (q := qo5) (S := fun _ => (⟨[], []⟩ : St)) [] [] ?_ ?_
  ·refine zZ (V_loop (fun n s => ∃ (size3 : Int), s.keep (mb 43 70) [16] = (⟨.bot :: I a2 :: .pt 16 0 :: bt 3 (I size3 :: bt 36 []), [(16, .box [Ti g1.1, Ti g1.2.1, Ti g1.2.2])]⟩ : St) ∧ r_impl_firstPoint_L4 a2 g1 n size3 = some qo5) FU ⟨_,  by rfl, hLo5⟩ ?_)
   clear hLo5
   rintro n s ⟨size3, hs, h⟩
   refine V_keep _ _ hs ?_
   clear hs
   cases n with
   | zero => cases h
   | succ n =>
    rw [r_impl_firstPoint_L4] at h
    refine zX ?_
    refine zZ ?_
    refine V_e (mb 43 198) [16] (s1 := ⟨.bot :: I a2 :: .pt 16 0 :: bt 3 (I size3 :: I 0 :: bt 35 []), [(16, .box [Ti g1.1, Ti g1.2.1, Ti g1.2.2])]⟩) ?_
    obtain ⟨qo8, hLo8, hko8⟩ := zD h
    refine V_toS (q := qo8) (S := fun o8 => ⟨.bot :: I a2 :: .pt 16 0 :: bt 3 (I size3 :: bt 36 []), [(16, .box [Ti g1.1, Ti g1.2.1, Ti g1.2.2])]⟩) (mb 43 70) [16] ?_ ?_
    ·refine zZ (V_loop (fun n s => ∃ (x6 : Int), s.keep (mb 43 198) [16] = (⟨.bot :: I a2 :: .pt 16 0 :: bt 3 (I size3 :: I x6 :: bt 35 []), [(16, .box [Ti g1.1, Ti g1.2.1, Ti g1.2.2])]⟩ : St) ∧ r_impl_firstPoint_L7 a2 g1 size3 n x6 = some qo8) FU ⟨_,  by rfl, hLo8⟩ ?_)
     clear hLo8
     rintro n s ⟨x6, hs, h⟩
     refine V_keep _ _ hs ?_
     clear hs
     cases n with
     | zero => cases h
     | succ n =>
      rw [r_impl_firstPoint_L7] at h
      refine zX ?_
      refine V_e (mb 43 8390) [16] (s1 := ⟨.bot :: I a2 :: .pt 16 0 :: bt 3 (I size3 :: I x6 :: bt 5 (Bo (leI x6 size3) :: bt 29 [])), [(16, .box [Ti g1.1, Ti g1.2.1, Ti g1.2.2])]⟩) ?_
      refine zQ rfl (fun hc9 => ?_) (fun hc9 => ?_)
      ·have h := zM h hc9
       refine zV ?_
       show V _ _ _ _
       refine zX ?_
       refine zZ ?_
       refine V_e (mb 43 454) [16] (s1 := ⟨.bot :: I a2 :: .pt 16 0 :: bt 3 (I size3 :: I x6 :: I 0 :: bt 34 []), [(16, .box [Ti g1.1, Ti g1.2.1, Ti g1.2.2])]⟩) ?_
       obtain ⟨qo12, hLo12, hko12⟩ := zD h
       refine V_toS (q := qo12) (S := fun o12 => ⟨.bot :: I a2 :: .pt 16 0 :: bt 3 (I size3 :: I x6 :: bt 35 []), [(16, .box [Ti g1.1, Ti g1.2.1, Ti g1.2.2])]⟩) (mb 43 198) [16] ?_ ?_
       ·refine zZ (V_loop (fun n s => ∃ (y10 : Int), s.keep (mb 43 454) [16] = (⟨.bot :: I a2 :: .pt 16 0 :: bt 3 (I size3 :: I x6 :: I y10 :: bt 34 []), [(16, .box [Ti g1.1, Ti g1.2.1, Ti g1.2.2])]⟩ : St) ∧ r_impl_firstPoint_L11 a2 g1 size3 x6 n y10 = some qo12) FU ⟨_,  by rfl, hLo12⟩ ?_)
        clear hLo12
        rintro n s ⟨y10, hs, h⟩
        refine V_keep _ _ hs ?_
        clear hs
        cases n with
        | zero => cases h
        | succ n =>
         rw [r_impl_firstPoint_L11] at h
         refine zX ?_
         refine V_e (mb 43 262598) [16] (s1 := ⟨.bot :: I a2 :: .pt 16 0 :: bt 3 (I size3 :: I x6 :: I y10 :: bt 9 (Bo (leI y10 size3) :: bt 24 [])), [(16, .box [Ti g1.1, Ti g1.2.1, Ti g1.2.2])]⟩) ?_
         refine zQ rfl (fun hc13 => ?_) (fun hc13 => ?_)
         ·have h := zM h hc13
          refine zV ?_
          show V _ _ _ _
          refine zX ?_
          refine zZ ?_
          obtain ⟨b16, hb16, h⟩ := zD h
          obtain ⟨b20, hb20, h⟩ := zD h
          refine zG (mb 43 1099511628230) [16] (s1 := ⟨.bot :: I a2 :: .pt 16 0 :: bt 3 (I size3 :: I x6 :: I y10 :: bt 31 (Bo b20 :: .bot :: .bot :: [])), [(16, .box [Ti g1.1, Ti g1.2.1, Ti g1.2.2])]⟩) ?_ ?_
          ·refine XR 2 ?_
           refine L0 rfl rfl (Y0_max (a := x6) (b := y10) rfl kk kk) ?_
           refine XR 3 ?_
           refine zP (eqI (mxI x6 y10) size3) (fun hc14 => ?_) (fun hc14 => ?_)
           ·have hb16 := zM hb16 hc14
            obtain ⟨y15, hy15, hb16⟩ := zD hb16
            have hb16 := zE hb16
            refine zB _ rfl rfl kk hc14 (zA rfl (zY (I x6) rfl kk)) ?_
            refine zB _ rfl rfl kk hc14 (zA rfl (zY (I y10) rfl kk)) ?_
            refine zB _ rfl rfl kk hc14 (X_of_Y1 rfl (Y1_call (s_impl_gcd hy15) cf_impl_gcd rfl kk)) ?_
            refine zB _ rfl rfl kk hc14 (zA rfl (Y0_eqw (k := .i64) (a := y15) (b := 1) rfl kk kk)) ?_
            refine zJ rfl (zA rfl (Y0_pickTe (b := eqI (mxI x6 y10) size3) (p := eqI y15 1) rfl kk hc14 kk hb16)) ?_
            refine XR 1 ?_
            refine zP b16 (fun hc17 => ?_) (fun hc17 => ?_)
            ·have hb20 := zM hb20 hc17
             obtain ⟨y18, hy18, hb20⟩ := zD hb20
             obtain ⟨y19, hy19, hb20⟩ := zD hb20
             have hb20 := zE hb20
             refine zB _ rfl rfl kk hc17 (zA rfl (E_loadn (cs := [Ti g1.1, Ti g1.2.1, Ti g1.2.2]) [Ti g1.1, Ti g1.2.1, Ti g1.2.2] wd38 rfl kk (Nat.le_of_ble_eq_true rfl) kk)) ?_
             refine zB _ rfl rfl kk hc17 (zA rfl (zY (I x6) rfl kk)) ?_
             refine zB _ rfl rfl kk hc17 (zA rfl (zY (I y10) rfl kk)) ?_
             refine zB _ rfl rfl kk hc17 (X_of_Y1 rfl (Y1_call (s_impl_Form_at hy18) cf_impl_Form_at rfl kk)) ?_
             refine zB _ rfl rfl kk hc17 (zA rfl (zY (I a2) rfl kk)) ?_
             refine zB _ rfl rfl kk hc17 (X_of_Y1 rfl (Y1_call (s_impl_gcd hy19) cf_impl_gcd rfl kk)) ?_
             refine zB _ rfl rfl kk hc17 (zA rfl (Y0_eqw (k := .i64) (a := y19) (b := 1) rfl kk kk)) ?_
             refine zJ rfl (zA rfl (Y0_pickTe (b := b16) (p := eqI y19 1) rfl kk hc17 kk hb20)) ?_
             exact XE
            ·have hb20 := zE (zK hb20 hc17)
             refine zF _ rfl rfl kk hc17 rfl ?_
             refine zF _ rfl rfl kk hc17 rfl ?_
             refine zF _ rfl rfl kk hc17 rfl ?_
             refine zF _ rfl rfl kk hc17 rfl ?_
             refine zF _ rfl rfl kk hc17 rfl ?_
             refine zF _ rfl rfl kk hc17 rfl ?_
             refine zF _ rfl rfl kk hc17 rfl ?_
             refine zJ rfl (zA rfl (Y0_pickFe (b := b16) (p := false) rfl kk hc17 kk hb20)) ?_
             exact XE
           ·have hb16 := zE (zK hb16 hc14)
            refine zF _ rfl rfl kk hc14 rfl ?_
            refine zF _ rfl rfl kk hc14 rfl ?_
            refine zF _ rfl rfl kk hc14 rfl ?_
            refine zF _ rfl rfl kk hc14 rfl ?_
            refine zJ rfl (zA rfl (Y0_pickFe (b := eqI (mxI x6 y10) size3) (p := false) rfl kk hc14 kk hb16)) ?_
            refine XR 1 ?_
            refine zP b16 (fun hc17 => ?_) (fun hc17 => ?_)
            ·have hb20 := zM hb20 hc17
             obtain ⟨y18, hy18, hb20⟩ := zD hb20
             obtain ⟨y19, hy19, hb20⟩ := zD hb20
             have hb20 := zE hb20
             refine zB _ rfl rfl kk hc17 (zA rfl (E_loadn (cs := [Ti g1.1, Ti g1.2.1, Ti g1.2.2]) [Ti g1.1, Ti g1.2.1, Ti g1.2.2] wd38 rfl kk (Nat.le_of_ble_eq_true rfl) kk)) ?_
             refine zB _ rfl rfl kk hc17 (zA rfl (zY (I x6) rfl kk)) ?_
             refine zB _ rfl rfl kk hc17 (zA rfl (zY (I y10) rfl kk)) ?_
             refine zB _ rfl rfl kk hc17 (X_of_Y1 rfl (Y1_call (s_impl_Form_at hy18) cf_impl_Form_at rfl kk)) ?_
             refine zB _ rfl rfl kk hc17 (zA rfl (zY (I a2) rfl kk)) ?_
             refine zB _ rfl rfl kk hc17 (X_of_Y1 rfl (Y1_call (s_impl_gcd hy19) cf_impl_gcd rfl kk)) ?_
             refine zB _ rfl rfl kk hc17 (zA rfl (Y0_eqw (k := .i64) (a := y19) (b := 1) rfl kk kk)) ?_
             refine zJ rfl (zA rfl (Y0_pickTe (b := b16) (p := eqI y19 1) rfl kk hc17 kk hb20)) ?_
             exact XE
            ·have hb20 := zE (zK hb20 hc17)
             refine zF _ rfl rfl kk hc17 rfl ?_
             refine zF _ rfl rfl kk hc17 rfl ?_
             refine zF _ rfl rfl kk hc17 rfl ?_
             refine zF _ rfl rfl kk hc17 rfl ?_
             refine zF _ rfl rfl kk hc17 rfl ?_
             refine zF _ rfl rfl kk hc17 rfl ?_
             refine zF _ rfl rfl kk hc17 rfl ?_
             refine zJ rfl (zA rfl (Y0_pickFe (b := b16) (p := false) rfl kk hc17 kk hb20)) ?_
             exact XE
          refine zQ rfl (fun hc21 => ?_) (fun hc21 => ?_)
          ·have h := zM h hc21
           refine V_e (mb 43 48) [] (s1 := ⟨bt 4 (I x6 :: I y10 :: bt 37 []), []⟩) ?_
           refine zR ?_
           obtain rfl := zE h
           have h := hko12
           obtain rfl := zE h
           have h := hko8
           obtain rfl := zE h
           have h := hko5
           obtain rfl := zE h
           show Post _ _ _ _ _
           exact ⟨.inr rfl, rfl, rfl, rfl⟩
          ·have h := zK h hc21
           refine zV ?_
           show V _ _ _ _
           obtain ⟨y22, hy22, h⟩ := qF h
           refine V_reg (mb 43 454) [16] (s1 := ⟨.bot :: I a2 :: .pt 16 0 :: bt 3 (I size3 :: I x6 :: I y22 :: bt 34 []), [(16, .box [Ti g1.1, Ti g1.2.1, Ti g1.2.2])]⟩) ?_ ?_
           ·refine XR 3 ?_
            refine zN ?_
            subst hy22
            kernel_rfl
           exact ⟨n, Nat.lt_succ_self n, _,  by rfl, h⟩
         ·have h := zK h hc13
          refine V_exit ?_
          obtain rfl := zE h
          exact ⟨_, rfl, by rfl⟩
       rintro o12 rfl
       have h := hko12
       clear hko12
       show V _ _ _ _
       obtain ⟨x23, hx23, h⟩ := qF h
       refine V_reg (mb 43 198) [16] (s1 := ⟨.bot :: I a2 :: .pt 16 0 :: bt 3 (I size3 :: I x23 :: bt 35 []), [(16, .box [Ti g1.1, Ti g1.2.1, Ti g1.2.2])]⟩) ?_ ?_
       ·refine XR 3 ?_
        refine zN ?_
        subst hx23
        kernel_rfl
       exact ⟨n, Nat.lt_succ_self n, _,  by rfl, h⟩
      ·have h := zK h hc9
       refine V_exit ?_
       obtain rfl := zE h
       exact ⟨_, rfl, by rfl⟩
    rintro o8 rfl
    have h := hko8
    clear hko8
    show V _ _ _ _
    obtain ⟨size24, hsize24, h⟩ := qF h
    refine V_reg (mb 43 70) [16] (s1 := ⟨.bot :: I a2 :: .pt 16 0 :: bt 3 (I size24 :: bt 36 []), [(16, .box [Ti g1.1, Ti g1.2.1, Ti g1.2.2])]⟩) ?_ ?_
    ·refine XR 3 ?_
     refine zN ?_
     subst hsize24
     kernel_rfl
    exact ⟨n, Nat.lt_succ_self n, _,  by rfl, h⟩
  rintro o5 rfl
  cases hko5
theorem cf_impl_inverse : ∀ args w, (callFunc 280 args).run Tryz.prog w = .ok (.enter 280 args) w := zI Tryz.func280 kk kk
theorem s_impl_inverse {a1 : Int} {vm2 : Int} {r : Int} (h : r_impl_inverse a1 vm2 = some r) : z7 Tryz.prog 280 [I a1, I vm2] (I r) [] := by
  refine zH (rs := [.t 4]) (vs := [.tmp 4]) Tryz.func280 rfl rfl (.cons rfl FitsL.nil) (by decide) 34 rfl ?_
  unfold r_impl_inverse at h
  show V _ _ ⟨I a1 :: I vm2 :: bt 32 [], []⟩ _
  refine V_e (mb 34 3) [] (s1 := ⟨I a1 :: I vm2 :: bt 32 [], []⟩) ?_
  refine V_e (mb 34 99) [] (s1 := ⟨I a1 :: I vm2 :: bt 3 (I 1 :: I 0 :: bt 27 []), []⟩) ?_
  refine zX ?_
  obtain ⟨y3, hy3, h⟩ := zD h
  refine zG (mb 34 482) [] (s1 := ⟨.bot :: I vm2 :: bt 3 (I 1 :: I 0 :: I y3 :: I vm2 :: bt 25 []), []⟩) ?_ ?_
  ·refine XR 2 ?_
   refine XC (s_impl_mod hy3) cf_impl_mod rfl rfl rfl ?_
   exact XE
  obtain ⟨o9, hLo9, h⟩ := zD h
  refine V_toK (mb 34 34) [] (s1 := ⟨.bot :: I vm2 :: bt 3 (I o9 :: bt 28 []), []⟩) ?_ ?_
  ·clear h
   refine zZ (V_loop (fun n s => ∃ (x4 : Int) (y5 : Int) (vr6 : Int) (vs7 : Int), s.keep (mb 34 482) [] = (⟨.bot :: I vm2 :: bt 3 (I x4 :: I y5 :: I vr6 :: I vs7 :: bt 25 []), []⟩ : St) ∧ r_impl_inverse_L8 vm2 n x4 y5 vr6 vs7 = some o9) FU ⟨_, _, _, _,  by rfl, hLo9⟩ ?_)
   clear hLo9
   rintro n s ⟨x4, y5, vr6, vs7, hs, h⟩
   refine V_keep _ _ hs ?_
   clear hs
   cases n with
   | zero => cases h
   | succ n =>
    rw [r_impl_inverse_L8] at h
    refine zX ?_
    refine V_e (mb 34 33250) [] (s1 := ⟨.bot :: I vm2 :: bt 3 (I x4 :: I y5 :: I vr6 :: I vs7 :: bt 6 (Bo (!eqI vs7 0) :: bt 18 [])), []⟩) ?_
    refine zQ rfl (fun hc10 => ?_) (fun hc10 => ?_)
    ·have h := zM h hc10
     refine zV ?_
     show V _ _ _ _
     refine zZ ?_
     obtain ⟨z11, hz11, h⟩ := zD h
     obtain ⟨q12, hq12, h⟩ := qF h
     refine zG (mb 34 994) [] (s1 := ⟨.bot :: I vm2 :: bt 3 (I x4 :: I y5 :: I vr6 :: I vs7 :: I q12 :: bt 24 []), []⟩) ?_ ?_
     ·refine XR 2 ?_
      refine L0 rfl rfl (Y0_quo64 (a := vr6) (b := vs7) rfl kk kk (nz_some hz11)) ?_
      refine XR 1 ?_
      refine zN ?_
      subst hq12
      kernel_rfl
     obtain ⟨vs13, hvs13, h⟩ := qF h
     refine zG (mb 34 994) [] (s1 := ⟨.bot :: I vm2 :: bt 3 (I x4 :: I y5 :: I vs7 :: I vs13 :: I q12 :: bt 24 []), []⟩) ?_ ?_
     ·refine XR 8 ?_
      refine zN ?_
      subst hvs13
      kernel_rfl
     obtain ⟨y14, hy14, h⟩ := qF h
     refine V_reg (mb 34 482) [] (s1 := ⟨.bot :: I vm2 :: bt 3 (I y5 :: I y14 :: I vs7 :: I vs13 :: bt 25 []), []⟩) ?_ ?_
     ·refine XR 8 ?_
      refine zN ?_
      subst hy14
      kernel_rfl
     exact ⟨n, Nat.lt_succ_self n, _, _, _, _,  by rfl, h⟩
    ·have h := zK h hc10
     refine V_exit ?_
     obtain rfl := zE h
     show St.keep _ _ _ = _
     rfl
  show V _ _ _ _
  obtain ⟨y15, hy15, h⟩ := zD h
  refine zG (mb 34 16) [] (s1 := ⟨bt 4 (I y15 :: bt 29 []), []⟩) ?_ ?_
  ·refine XR 2 ?_
   refine XC (s_impl_mod hy15) cf_impl_mod rfl rfl rfl ?_
   exact XE
  refine zR ?_
  obtain rfl := zE h
  show Post _ _ _ _ _
  exact ⟨.inr rfl, rfl, rfl, rfl⟩
end Go.Proofs.YtfmjfofocklgpaaGreatDoor
namespace Go.Proofs.YtfmjfofocklgpaaGreatDoor
open Go.RowKit
set_option linter.unusedVariables false
set_option linter.unusedSimpArgs false
set_option maxRecDepth 100000
set_option maxHeartbeats 400000
theorem cf_impl_Form_complete : ∀ args w, (callFunc 245 args).run Tryz.prog w = .ok (.enter 245 args) w := zI Tryz.func245 kk kk
theorem s_impl_Form_complete {f1 : (Int × Int × Int)} {x2 : Int} {y3 : Int} {r : (((Int × Int × Int)) × ((Int × Int × Int × Int)))} (h : r_impl_Form_complete f1 x2 y3 = some r) : z7 Tryz.prog 245 [.ag [Ti f1.1, Ti f1.2.1, Ti f1.2.2], I x2, I y3] (.tc (.ag [Ti r.1.1, Ti r.1.2.1, Ti r.1.2.2]) (.tc (.ag [Ti r.2.1, Ti r.2.2.1, Ti r.2.2.2.1, Ti r.2.2.2.2]) .tn)) [] := by
  refine zH (rs := [.w 6 3, .w 7 4]) (vs := [.cell 6 38, .cell 7 109]) Tryz.func245 rfl rfl (.cons ⟨rfl, wd38⟩ (.cons ⟨rfl, wd109⟩ FitsL.nil)) (by decide) 59 rfl ?_
  unfold r_impl_Form_complete at h
  show V _ _ ⟨.ag [Ti f1.1, Ti f1.2.1, Ti f1.2.2] :: I x2 :: I y3 :: bt 56 [], []⟩ _
  refine V_e (mb 59 206) [56, 48, 24] (s1 := ⟨.bot :: I x2 :: I y3 :: .pt 24 0 :: .bot :: .bot :: .pt 48 0 :: .pt 56 0 :: bt 51 [], [(56, .box [Ti 0, Ti 0, Ti 0, Ti 0]), (48, .box [Ti 0, Ti 0, Ti 0]), (24, .box [Ti f1.1, Ti f1.2.1, Ti f1.2.2])]⟩) ?_
  refine zG (mb 59 462) [64, 56, 48, 24] (s1 := ⟨.bot :: I x2 :: I y3 :: .pt 24 0 :: .bot :: .bot :: .pt 48 0 :: .pt 56 0 :: .pt 64 0 :: bt 50 [], [(64, .box [Ti x2, Ti 0, Ti y3, Ti 0]), (56, .box [Ti 0, Ti 0, Ti 0, Ti 0]), (48, .box [Ti 0, Ti 0, Ti 0]), (24, .box [Ti f1.1, Ti f1.2.1, Ti f1.2.2])]⟩) ?_ ?_
  ·refine XR 2 ?_
   refine L0 rfl rfl (qE (cs := [Ti x2, Ti 0, Ti y3, Ti 0]) pl109 bt109 rfl rfl kk) ?_
   exact XE
  obtain ⟨j4, hj4, h⟩ := zD h
  refine V_cutK (mb 59 462) [64, 56, 48, 24] (s1 := ⟨.bot :: I x2 :: I y3 :: .pt 24 0 :: .bot :: .bot :: .pt 48 0 :: .pt 56 0 :: .pt 64 0 :: bt 50 [], [(64, .box [Ti x2, Ti j4.1, Ti y3, Ti j4.2]), (56, .box [Ti 0, Ti 0, Ti 0, Ti 0]), (48, .box [Ti 0, Ti 0, Ti 0]), (24, .box [Ti f1.1, Ti f1.2.1, Ti f1.2.2])]⟩) ?_ ?_
  ·clear h
   have h := hj4
   clear hj4
   refine V_e (mb 59 33230) [64, 56, 48, 24] (s1 := ⟨.bot :: I x2 :: I y3 :: .pt 24 0 :: .bot :: .bot :: .pt 48 0 :: .pt 56 0 :: .pt 64 0 :: bt 6 (Bo (eqI y3 0) :: bt 43 []), [(64, .box [Ti x2, Ti 0, Ti y3, Ti 0]), (56, .box [Ti 0, Ti 0, Ti 0, Ti 0]), (48, .box [Ti 0, Ti 0, Ti 0]), (24, .box [Ti f1.1, Ti f1.2.1, Ti f1.2.2])]⟩) ?_
   refine zQ rfl (fun hc5 => ?_) (fun hc5 => ?_)
   ·have h := zM h hc5
    refine V_reg (mb 59 462) [64, 56, 48, 24] (s1 := ⟨.bot :: I x2 :: I y3 :: .pt 24 0 :: .bot :: .bot :: .pt 48 0 :: .pt 56 0 :: .pt 64 0 :: bt 50 [], [(64, .box [Ti x2, Ti 0, Ti y3, Ti x2]), (56, .box [Ti 0, Ti 0, Ti 0, Ti 0]), (48, .box [Ti 0, Ti 0, Ti 0]), (24, .box [Ti f1.1, Ti f1.2.1, Ti f1.2.2])]⟩) ?_ ?_
    ·exact XE
    obtain rfl := zE h
    show St.keep _ _ _ = _
    rfl
   ·have h := zK h hc5
    obtain ⟨y6, hy6, h⟩ := zD h
    obtain ⟨y7, hy7, h⟩ := zD h
    refine zG (mb 59 462) [64, 56, 48, 24] (s1 := ⟨.bot :: I x2 :: I y3 :: .pt 24 0 :: .bot :: .bot :: .pt 48 0 :: .pt 56 0 :: .pt 64 0 :: bt 50 [], [(64, .box [Ti x2, Ti 0, Ti y3, Ti y7]), (56, .box [Ti 0, Ti 0, Ti 0, Ti 0]), (48, .box [Ti 0, Ti 0, Ti 0]), (24, .box [Ti f1.1, Ti f1.2.1, Ti f1.2.2])]⟩) ?_ ?_
    ·refine XR 2 ?_
     refine XC (s_impl_abs hy6) cf_impl_abs rfl rfl rfl ?_
     refine XC (s_impl_inverse hy7) cf_impl_inverse rfl rfl rfl ?_
     exact XE
    obtain ⟨z8, hz8, h⟩ := zD h
    obtain ⟨f9, hf9, h⟩ := qF h
    refine V_reg (mb 59 462) [64, 56, 48, 24] (s1 := ⟨.bot :: I x2 :: I y3 :: .pt 24 0 :: .bot :: .bot :: .pt 48 0 :: .pt 56 0 :: .pt 64 0 :: bt 50 [], [(64, .box [Ti x2, Ti f9, Ti y3, Ti y7]), (56, .box [Ti 0, Ti 0, Ti 0, Ti 0]), (48, .box [Ti 0, Ti 0, Ti 0]), (24, .box [Ti f1.1, Ti f1.2.1, Ti f1.2.2])]⟩) ?_ ?_
    ·refine XR 6 ?_
     refine L0 rfl rfl (Y0_quo64 (a := w64 ((w64 (x2 * y7)) - 1)) (b := y3) rfl kk kk (nz_some hz8)) ?_
     refine XR 2 ?_
     refine zN ?_
     subst hf9
     kernel_rfl
    obtain rfl := zE h
    show St.keep _ _ _ = _
    rfl
  obtain ⟨y10, hy10, h⟩ := zD h
  refine zG (mb 59 974) [72, 64, 56, 48, 24] (s1 := ⟨.bot :: I x2 :: I y3 :: .pt 24 0 :: .bot :: .bot :: .pt 48 0 :: .pt 56 0 :: .pt 64 0 :: .pt 72 0 :: bt 49 [], [(72, .box [Ti y10.1, Ti y10.2.1, Ti y10.2.2]), (64, .box [Ti x2, Ti j4.1, Ti y3, Ti j4.2]), (56, .box [Ti 0, Ti 0, Ti 0, Ti 0]), (48, .box [Ti 0, Ti 0, Ti 0]), (24, .box [Ti f1.1, Ti f1.2.1, Ti f1.2.2])]⟩) ?_ ?_
  ·refine XR 2 ?_
   refine XC (s_impl_Form_substitute hy10) cf_impl_Form_substitute rfl rfl rfl ?_
   exact XE
  obtain ⟨y11, hy11, h⟩ := zD h
  obtain ⟨t12, ht12, h⟩ := qF h
  refine zG (mb 59 1486) [64, 56, 48, 24] (s1 := ⟨.bot :: I x2 :: I y3 :: .pt 24 0 :: .bot :: .bot :: .pt 48 0 :: .pt 56 0 :: .pt 64 0 :: .bot :: I t12 :: bt 48 [], [(64, .box [Ti x2, Ti j4.1, Ti y3, Ti j4.2]), (56, .box [Ti 0, Ti 0, Ti 0, Ti 0]), (48, .box [Ti 0, Ti 0, Ti 0]), (24, .box [Ti f1.1, Ti f1.2.1, Ti f1.2.2])]⟩) ?_ ?_
  ·refine XR 5 ?_
   refine XC (s_impl_floorDiv hy11) cf_impl_floorDiv rfl rfl rfl ?_
   refine XR 2 ?_
   refine zN ?_
   subst ht12
   kernel_rfl
  obtain ⟨f13, hf13, h⟩ := qF h
  refine zG (mb 59 1484) [64, 56, 48, 24] (s1 := ⟨.bot :: .bot :: I y3 :: .pt 24 0 :: .bot :: .bot :: .pt 48 0 :: .pt 56 0 :: .pt 64 0 :: .bot :: I t12 :: bt 48 [], [(64, .box [Ti x2, Ti f13, Ti y3, Ti j4.2]), (56, .box [Ti 0, Ti 0, Ti 0, Ti 0]), (48, .box [Ti 0, Ti 0, Ti 0]), (24, .box [Ti f1.1, Ti f1.2.1, Ti f1.2.2])]⟩) ?_ ?_
  ·refine XR 8 ?_
   refine zN ?_
   subst hf13
   kernel_rfl
  obtain ⟨f14, hf14, h⟩ := qF h
  refine zG (mb 59 456) [64, 56, 48, 24] (s1 := ⟨bt 3 (.pt 24 0 :: .bot :: .bot :: .pt 48 0 :: .pt 56 0 :: .pt 64 0 :: bt 50 []), [(64, .box [Ti x2, Ti f13, Ti y3, Ti f14]), (56, .box [Ti 0, Ti 0, Ti 0, Ti 0]), (48, .box [Ti 0, Ti 0, Ti 0]), (24, .box [Ti f1.1, Ti f1.2.1, Ti f1.2.2])]⟩) ?_ ?_
  ·refine XR 8 ?_
   refine zN ?_
   subst hf14
   kernel_rfl
  obtain ⟨y15, hy15, h⟩ := zD h
  refine V_sdreg [0, 0, 3, 0, 7, 31] 5 [[.z, .b, .z, .b, .z], [.b, .z, .z, .b, .z], [.a, .a, .z, .b, .z], [.b, .b, .b, .z, .r 48], [.a, .a, .a, .b, .z]] (mb 59 192) [56, 48] (s1 := ⟨bt 6 (.pt 48 0 :: .pt 56 0 :: bt 51 []), [(56, .box [Ti x2, Ti f13, Ti y3, Ti f14]), (48, .box [Ti y15.1, Ti y15.2.1, Ti y15.2.2])]⟩) kk kk ?_ ?_
  ·refine DR 2 ?_
   refine DC 2 (s_impl_Form_substitute hy15) cf_impl_Form_substitute rfl rfl rfl rfl 57 rfl ?_
   refine DA 2 ?_
   exact XE
  refine zR ?_
  obtain rfl := zE h
  show Post _ _ _ _ _
  exact ⟨.inr rfl, rfl, rfl, rfl⟩
theorem cf_impl_unite : ∀ args w, (callFunc 191 args).run Tryz.prog w = .ok (.enter 191 args) w := zI Tryz.func191 kk kk
theorem s_impl_unite {f1 : (Int × Int × Int)} {g2 : (Int × Int × Int)} {r : (Int × Int × Int × Int × ((Int × Int × Int × Int)) × ((Int × Int × Int × Int)))} (h : r_impl_unite f1 g2 = some r) : z7 Tryz.prog 191 [.ag [Ti f1.1, Ti f1.2.1, Ti f1.2.2], .ag [Ti g2.1, Ti g2.2.1, Ti g2.2.2]] (.ag [Ti r.1, Ti r.2.1, Ti r.2.2.1, Ti r.2.2.2.1, Ti r.2.2.2.2.1.1, Ti r.2.2.2.2.1.2.1, Ti r.2.2.2.2.1.2.2.1, Ti r.2.2.2.2.1.2.2.2, Ti r.2.2.2.2.2.1, Ti r.2.2.2.2.2.2.1, Ti r.2.2.2.2.2.2.2.1, Ti r.2.2.2.2.2.2.2.2]) [] := by
  refine zH (rs := [.w 4 12]) (vs := [.cell 4 178]) Tryz.func191 rfl rfl (.cons ⟨rfl, wd178⟩ FitsL.nil) (by decide) 103 rfl ?_
  unfold r_impl_unite at h
  show V _ _ ⟨.ag [Ti f1.1, Ti f1.2.1, Ti f1.2.2] :: .ag [Ti g2.1, Ti g2.2.1, Ti g2.2.2] :: bt 101 [], []⟩ _
  refine V_e (mb 103 28) [32, 24, 16] (s1 := ⟨.bot :: .bot :: .pt 16 0 :: .pt 24 0 :: .pt 32 0 :: bt 98 [], [(32, .box [Ti 0, Ti 0, Ti 0, Ti 0, Ti 0, Ti 0, Ti 0, Ti 0, Ti 0, Ti 0, Ti 0, Ti 0]), (24, .box [Ti g2.1, Ti g2.2.1, Ti g2.2.2]), (16, .box [Ti f1.1, Ti f1.2.1, Ti f1.2.2])]⟩) ?_
  obtain ⟨y3, hy3, h⟩ := zD h
  refine zG (mb 103 124) [32, 24, 16] (s1 := ⟨.bot :: .bot :: .pt 16 0 :: .pt 24 0 :: .pt 32 0 :: I y3.1 :: I y3.2 :: bt 96 [], [(32, .box [Ti 0, Ti 0, Ti 0, Ti 0, Ti 0, Ti 0, Ti 0, Ti 0, Ti 0, Ti 0, Ti 0, Ti 0]), (24, .box [Ti g2.1, Ti g2.2.1, Ti g2.2.2]), (16, .box [Ti f1.1, Ti f1.2.1, Ti f1.2.2])]⟩) ?_ ?_
  ·refine XR 3 ?_
   refine XC (s_impl_firstPoint hy3) cf_impl_firstPoint rfl rfl rfl ?_
   exact XE
  obtain ⟨y4, hy4, h⟩ := zD h
  refine zG (mb 103 404) [64, 56, 32, 16] (s1 := ⟨.bot :: .bot :: .pt 16 0 :: .bot :: .pt 32 0 :: .bot :: .bot :: .pt 56 0 :: .pt 64 0 :: bt 94 [], [(64, .box [Ti y4.2.1, Ti y4.2.2.1, Ti y4.2.2.2.1, Ti y4.2.2.2.2]), (56, .box [Ti y4.1.1, Ti y4.1.2.1, Ti y4.1.2.2]), (32, .box [Ti 0, Ti 0, Ti 0, Ti 0, Ti 0, Ti 0, Ti 0, Ti 0, Ti 0, Ti 0, Ti 0, Ti 0]), (16, .box [Ti f1.1, Ti f1.2.1, Ti f1.2.2])]⟩) ?_ ?_
  ·refine XR 3 ?_
   refine XC (s_impl_Form_complete hy4) cf_impl_Form_complete rfl rfl rfl ?_
   exact XE
  obtain ⟨y5, hy5, h⟩ := zD h
  refine V_sdreg [0, 1, 0, 4, 0, 16, 0, 64, 192, 496, 1023, 0, 4095] 12 (cdm 12 [9087648, 9087649, 9087498, 9087514, 8560810, 8561066, 8391338, 8395434, 8411818, 8476074, 8738133, 2796202]) (mb 103 916) [72, 64, 56, 32, 16] (s1 := ⟨.bot :: .bot :: .pt 16 0 :: .bot :: .pt 32 0 :: .bot :: .bot :: .pt 56 0 :: .pt 64 0 :: .pt 72 0 :: bt 93 [], [(72, .box [Ti f1.1, Ti y4.1.1, Ti y5, Ti 0, Ti 0, Ti 0, Ti 0, Ti 0, Ti 0, Ti 0, Ti 0, Ti 0]), (64, .box [Ti y4.2.1, Ti y4.2.2.1, Ti y4.2.2.2.1, Ti y4.2.2.2.2]), (56, .box [Ti y4.1.1, Ti y4.1.2.1, Ti y4.1.2.2]), (32, .box [Ti 0, Ti 0, Ti 0, Ti 0, Ti 0, Ti 0, Ti 0, Ti 0, Ti 0, Ti 0, Ti 0, Ti 0]), (16, .box [Ti f1.1, Ti f1.2.1, Ti f1.2.2])]⟩) kk kk ?_ ?_
  ·refine DR 9 ?_
   refine DC 9 (s_impl_mod hy5) cf_impl_mod rfl rfl rfl rfl 33 rfl ?_
   refine DE_0 10 (.ag [Ti f1.1, Ti y4.1.1, Ti y5, Ti 0, Ti 0, Ti 0, Ti 0, Ti 0, Ti 0, Ti 0, Ti 0, Ti 0]) kk rfl rfl rfl (zO rfl) kk (qE (cs := [Ti f1.1, Ti y4.1.1, Ti y5, Ti 0, Ti 0, Ti 0, Ti 0, Ti 0, Ti 0, Ti 0, Ti 0, Ti 0]) pl178 bt178 rfl rfl kk) 34 rfl ?_
   refine DA 1 ?_
   exact XE
  refine zX ?_
  obtain ⟨o8, hLo8, h⟩ := zD h
  refine V_toK (mb 103 916) [72, 64, 56, 32, 16] (s1 := ⟨.bot :: .bot :: .pt 16 0 :: .bot :: .pt 32 0 :: .bot :: .bot :: .pt 56 0 :: .pt 64 0 :: .pt 72 0 :: bt 93 [], [(72, .box [Ti f1.1, Ti y4.1.1, Ti o8, Ti 0, Ti 0, Ti 0, Ti 0, Ti 0, Ti 0, Ti 0, Ti 0, Ti 0]), (64, .box [Ti y4.2.1, Ti y4.2.2.1, Ti y4.2.2.2.1, Ti y4.2.2.2.2]), (56, .box [Ti y4.1.1, Ti y4.1.2.1, Ti y4.1.2.2]), (32, .box [Ti 0, Ti 0, Ti 0, Ti 0, Ti 0, Ti 0, Ti 0, Ti 0, Ti 0, Ti 0, Ti 0, Ti 0]), (16, .box [Ti f1.1, Ti f1.2.1, Ti f1.2.2])]⟩) ?_ ?_
  ·clear h
   refine zZ (V_loop (fun n s => ∃ (f6 : Int), s.keep (mb 103 916) [72, 64, 56, 32, 16] = (⟨.bot :: .bot :: .pt 16 0 :: .bot :: .pt 32 0 :: .bot :: .bot :: .pt 56 0 :: .pt 64 0 :: .pt 72 0 :: bt 93 [], [(72, .box [Ti f1.1, Ti y4.1.1, Ti f6, Ti 0, Ti 0, Ti 0, Ti 0, Ti 0, Ti 0, Ti 0, Ti 0, Ti 0]), (64, .box [Ti y4.2.1, Ti y4.2.2.1, Ti y4.2.2.2.1, Ti y4.2.2.2.2]), (56, .box [Ti y4.1.1, Ti y4.1.2.1, Ti y4.1.2.2]), (32, .box [Ti 0, Ti 0, Ti 0, Ti 0, Ti 0, Ti 0, Ti 0, Ti 0, Ti 0, Ti 0, Ti 0, Ti 0]), (16, .box [Ti f1.1, Ti f1.2.1, Ti f1.2.2])]⟩ : St) ∧ r_impl_unite_L7 f1 y4 n f6 = some o8) FU ⟨_,  by rfl, hLo8⟩ ?_)
   clear hLo8
   rintro n s ⟨f6, hs, h⟩
   refine V_keep _ _ hs ?_
   clear hs
   cases n with
   | zero => cases h
   | succ n =>
    rw [r_impl_unite_L7] at h
    refine zX ?_
    obtain ⟨y9, hy9, h⟩ := zD h
    refine zG (mb 103 17592186045332) [72, 64, 56, 32, 16] (s1 := ⟨.bot :: .bot :: .pt 16 0 :: .bot :: .pt 32 0 :: .bot :: .bot :: .pt 56 0 :: .pt 64 0 :: .pt 72 0 :: bt 34 (Bo (!eqI y9 0) :: bt 58 []), [(72, .box [Ti f1.1, Ti y4.1.1, Ti f6, Ti 0, Ti 0, Ti 0, Ti 0, Ti 0, Ti 0, Ti 0, Ti 0, Ti 0]), (64, .box [Ti y4.2.1, Ti y4.2.2.1, Ti y4.2.2.2.1, Ti y4.2.2.2.2]), (56, .box [Ti y4.1.1, Ti y4.1.2.1, Ti y4.1.2.2]), (32, .box [Ti 0, Ti 0, Ti 0, Ti 0, Ti 0, Ti 0, Ti 0, Ti 0, Ti 0, Ti 0, Ti 0, Ti 0]), (16, .box [Ti f1.1, Ti f1.2.1, Ti f1.2.2])]⟩) ?_ ?_
    ·refine XR 8 ?_
     refine XC (s_impl_mod hy9) cf_impl_mod rfl rfl rfl ?_
     exact XE
    refine zQ rfl (fun hc10 => ?_) (fun hc10 => ?_)
    ·have h := zM h hc10
     refine zV ?_
     show V _ _ _ _
     refine zZ ?_
     obtain ⟨f11, hf11, h⟩ := qF h
     refine V_reg (mb 103 916) [72, 64, 56, 32, 16] (s1 := ⟨.bot :: .bot :: .pt 16 0 :: .bot :: .pt 32 0 :: .bot :: .bot :: .pt 56 0 :: .pt 64 0 :: .pt 72 0 :: bt 93 [], [(72, .box [Ti f1.1, Ti y4.1.1, Ti f11, Ti 0, Ti 0, Ti 0, Ti 0, Ti 0, Ti 0, Ti 0, Ti 0, Ti 0]), (64, .box [Ti y4.2.1, Ti y4.2.2.1, Ti y4.2.2.2.1, Ti y4.2.2.2.2]), (56, .box [Ti y4.1.1, Ti y4.1.2.1, Ti y4.1.2.2]), (32, .box [Ti 0, Ti 0, Ti 0, Ti 0, Ti 0, Ti 0, Ti 0, Ti 0, Ti 0, Ti 0, Ti 0, Ti 0]), (16, .box [Ti f1.1, Ti f1.2.1, Ti f1.2.2])]⟩) ?_ ?_
     ·refine XR 8 ?_
      refine zN ?_
      subst hf11
      kernel_rfl
     exact ⟨n, Nat.lt_succ_self n, _,  by rfl, h⟩
    ·have h := zK h hc10
     refine V_exit ?_
     obtain rfl := zE h
     show St.keep _ _ _ = _
     rfl
  show V _ _ _ _
  obtain ⟨y12, hy12, h⟩ := zD h
  refine zG (mb 103 916) [72, 64, 56, 32, 16] (s1 := ⟨.bot :: .bot :: .pt 16 0 :: .bot :: .pt 32 0 :: .bot :: .bot :: .pt 56 0 :: .pt 64 0 :: .pt 72 0 :: bt 93 [], [(72, .box [Ti f1.1, Ti y4.1.1, Ti y12, Ti 0, Ti 0, Ti 0, Ti 0, Ti 0, Ti 0, Ti 0, Ti 0, Ti 0]), (64, .box [Ti y4.2.1, Ti y4.2.2.1, Ti y4.2.2.2.1, Ti y4.2.2.2.2]), (56, .box [Ti y4.1.1, Ti y4.1.2.1, Ti y4.1.2.2]), (32, .box [Ti 0, Ti 0, Ti 0, Ti 0, Ti 0, Ti 0, Ti 0, Ti 0, Ti 0, Ti 0, Ti 0, Ti 0]), (16, .box [Ti f1.1, Ti f1.2.1, Ti f1.2.2])]⟩) ?_ ?_
  ·refine XR 8 ?_
   refine XC (s_impl_mod hy12) cf_impl_mod rfl rfl rfl ?_
   exact XE
  obtain ⟨y13, hy13, h⟩ := zD h
  obtain ⟨z14, hz14, h⟩ := zD h
  obtain ⟨f15, hf15, h⟩ := qF h
  refine V_sdreg [0, 1, 0, 4, 15, 0, 32, 127, 0, 256, 768, 0, 2048, 7936, 16383, 32767, 65535] 16 (cdm 16 [178923680, 178923681, 178923530, 178923546, 178923605, 178913962, 178914986, 178918741, 41986730, 42052266, 42314410, 2796202, 6990506, 22391466, 89478485, 357913941]) (mb 103 916) [72, 64, 56, 32, 16] (s1 := ⟨.bot :: .bot :: .pt 16 0 :: .bot :: .pt 32 0 :: .bot :: .bot :: .pt 56 0 :: .pt 64 0 :: .pt 72 0 :: bt 93 [], [(72, .box [Ti f1.1, Ti y4.1.1, Ti y12, Ti f15, Ti 0, Ti 0, Ti 0, Ti 0, Ti 0, Ti 0, Ti 0, Ti 0]), (64, .box [Ti y4.2.1, Ti y4.2.2.1, Ti y4.2.2.2.1, Ti y4.2.2.2.2]), (56, .box [Ti y4.1.1, Ti y4.1.2.1, Ti y4.1.2.2]), (32, .box [Ti 0, Ti 0, Ti 0, Ti 0, Ti 0, Ti 0, Ti 0, Ti 0, Ti 0, Ti 0, Ti 0, Ti 0]), (16, .box [Ti f1.1, Ti f1.2.1, Ti f1.2.2])]⟩) kk kk ?_ ?_
  ·refine DR 6 ?_
   refine DC 6 (s_impl_Form_disc hy13) cf_impl_Form_disc rfl rfl rfl rfl 68 rfl ?_
   refine DR 7 ?_
   refine DE_0 14 (I (w64 (Int.tdiv (w64 ((w64 (y12 * y12)) - y13)) (w64 ((w64 (4 * f1.1)) * y4.1.1))))) kk rfl rfl rfl (zO rfl) kk (Y0_quo64 (a := w64 ((w64 (y12 * y12)) - y13)) (b := w64 ((w64 (4 * f1.1)) * y4.1.1)) rfl kk kk (nz_some hz14)) 76 rfl ?_
   refine DA 1 ?_
   refine XR 1 ?_
   refine zN ?_
   subst hf15
   kernel_rfl
  obtain ⟨z16, hz16, h⟩ := zD h
  obtain ⟨f17, hf17, h⟩ := qF h
  refine zG (mb 103 912) [72, 64, 56, 32] (s1 := ⟨bt 4 (.pt 32 0 :: .bot :: .bot :: .pt 56 0 :: .pt 64 0 :: .pt 72 0 :: bt 93 []), [(72, .box [Ti f1.1, Ti y4.1.1, Ti y12, Ti f15, Ti 1, Ti f17, Ti 0, Ti 1, Ti 0, Ti 0, Ti 0, Ti 0]), (64, .box [Ti y4.2.1, Ti y4.2.2.1, Ti y4.2.2.2.1, Ti y4.2.2.2.2]), (56, .box [Ti y4.1.1, Ti y4.1.2.1, Ti y4.1.2.2]), (32, .box [Ti 0, Ti 0, Ti 0, Ti 0, Ti 0, Ti 0, Ti 0, Ti 0, Ti 0, Ti 0, Ti 0, Ti 0])]⟩) ?_ ?_
  ·refine XR 8 ?_
   refine L0 rfl rfl (Y0_quo64 (a := w64 (y12 - f1.2.1)) (b := w64 (2 * f1.1)) rfl kk kk (nz_some hz16)) ?_
   refine L0 rfl rfl (qE (cs := [Ti 1, Ti (w64 (Int.tdiv (w64 (y12 - f1.2.1)) (w64 (2 * f1.1)))), Ti 0, Ti 1]) pl109 bt109 rfl rfl kk) ?_
   refine XR 2 ?_
   refine zN ?_
   subst hf17
   kernel_rfl
  obtain ⟨z18, hz18, h⟩ := zD h
  obtain ⟨y19, hy19, h⟩ := zD h
  refine V_sdreg [0, 0, 2, 0, 8, 30, 0, 64, 192, 510, 1022, 2047, 4095, 8191] 13 (cdm 13 [2796200, 172674, 172678, 172074, 172138, 172374, 2730, 6826, 23210, 87382, 349526, 1398101, 5592405]) (mb 103 528) [72, 32] (s1 := ⟨bt 4 (.pt 32 0 :: bt 4 (.pt 72 0 :: bt 93 [])), [(72, .box [Ti f1.1, Ti y4.1.1, Ti y12, Ti f15, Ti 1, Ti f17, Ti 0, Ti 1, Ti y19.1, Ti y19.2.1, Ti y19.2.2.1, Ti y19.2.2.2]), (32, .box [Ti 0, Ti 0, Ti 0, Ti 0, Ti 0, Ti 0, Ti 0, Ti 0, Ti 0, Ti 0, Ti 0, Ti 0])]⟩) kk kk ?_ ?_
  ·refine DR 9 ?_
   refine DE_0 9 (I (w64 (Int.tdiv (w64 (y12 - y4.1.2.1)) (w64 (2 * y4.1.1))))) kk rfl rfl rfl (zO rfl) kk (Y0_quo64 (a := w64 (y12 - y4.1.2.1)) (b := w64 (2 * y4.1.1)) rfl kk kk (nz_some hz18)) 98 rfl ?_
   refine DE_0 10 (.ag [Ti 1, Ti (w64 (Int.tdiv (w64 (y12 - y4.1.2.1)) (w64 (2 * y4.1.1)))), Ti 0, Ti 1]) kk rfl rfl rfl (zO rfl) kk (qE (cs := [Ti 1, Ti (w64 (Int.tdiv (w64 (y12 - y4.1.2.1)) (w64 (2 * y4.1.1)))), Ti 0, Ti 1]) pl109 bt109 rfl rfl kk) 99 rfl ?_
   refine DC 11 (s_impl_Matrix_times hy19) cf_impl_Matrix_times rfl rfl rfl rfl 100 rfl ?_
   refine DA 1 ?_
   exact XE
  refine V_e (mb 103 16) [32] (s1 := ⟨bt 4 (.pt 32 0 :: bt 98 []), [(32, .box [Ti f1.1, Ti y4.1.1, Ti y12, Ti f15, Ti 1, Ti f17, Ti 0, Ti 1, Ti y19.1, Ti y19.2.1, Ti y19.2.2.1, Ti y19.2.2.2])]⟩) ?_
  refine zR ?_
  obtain rfl := zE h
  show Post _ _ _ _ _
  exact ⟨.inr rfl, rfl, rfl, rfl⟩
theorem cf_impl_united_composite : ∀ args w, (callFunc 192 args).run Tryz.prog w = .ok (.enter 192 args) w := zI Tryz.func192 kk kk
theorem s_impl_united_composite {u1 : (Int × Int × Int × Int × ((Int × Int × Int × Int)) × ((Int × Int × Int × Int)))} {r : (Int × Int × Int)} (h : r_impl_united_composite u1 = some r) : z7 Tryz.prog 192 [.ag [Ti u1.1, Ti u1.2.1, Ti u1.2.2.1, Ti u1.2.2.2.1, Ti u1.2.2.2.2.1.1, Ti u1.2.2.2.2.1.2.1, Ti u1.2.2.2.2.1.2.2.1, Ti u1.2.2.2.2.1.2.2.2, Ti u1.2.2.2.2.2.1, Ti u1.2.2.2.2.2.2.1, Ti u1.2.2.2.2.2.2.2.1, Ti u1.2.2.2.2.2.2.2.2]] (.ag [Ti r.1, Ti r.2.1, Ti r.2.2]) [] := by
  refine zH (rs := [.w 2 3]) (vs := [.cell 2 38]) Tryz.func192 rfl rfl (.cons ⟨rfl, wd38⟩ FitsL.nil) (by decide) 13 rfl ?_
  unfold r_impl_united_composite at h
  show V _ _ ⟨.ag [Ti u1.1, Ti u1.2.1, Ti u1.2.2.1, Ti u1.2.2.2.1, Ti u1.2.2.2.2.1.1, Ti u1.2.2.2.2.1.2.1, Ti u1.2.2.2.2.1.2.2.1, Ti u1.2.2.2.2.1.2.2.2, Ti u1.2.2.2.2.2.1, Ti u1.2.2.2.2.2.2.1, Ti u1.2.2.2.2.2.2.2.1, Ti u1.2.2.2.2.2.2.2.2] :: bt 12 [], []⟩ _
  refine V_e (mb 13 6) [16, 8] (s1 := ⟨.bot :: .pt 8 0 :: .pt 16 0 :: bt 10 [], [(16, .box [Ti 0, Ti 0, Ti 0]), (8, .box [Ti u1.1, Ti u1.2.1, Ti u1.2.2.1, Ti u1.2.2.2.1, Ti u1.2.2.2.2.1.1, Ti u1.2.2.2.2.1.2.1, Ti u1.2.2.2.2.1.2.2.1, Ti u1.2.2.2.2.1.2.2.2, Ti u1.2.2.2.2.2.1, Ti u1.2.2.2.2.2.2.1, Ti u1.2.2.2.2.2.2.2.1, Ti u1.2.2.2.2.2.2.2.2])]⟩) ?_
  obtain ⟨f2, hf2, h⟩ := qF h
  refine zG (mb 13 4) [16] (s1 := ⟨.bot :: .bot :: .pt 16 0 :: bt 10 [], [(16, .box [Ti f2, Ti u1.2.2.1, Ti u1.2.2.2.1])]⟩) ?_ ?_
  ·refine XR 9 ?_
   refine L0 rfl rfl (qE (cs := [Ti (w64 (u1.1 * u1.2.1)), Ti u1.2.2.1, Ti u1.2.2.2.1]) pl38 bt38 rfl rfl kk) ?_
   refine XR 1 ?_
   refine zN ?_
   subst hf2
   kernel_rfl
  refine zR ?_
  obtain rfl := zE h
  show Post _ _ _ _ _
  exact ⟨.inr rfl, rfl, rfl, rfl⟩
theorem cf_impl_compose : ∀ args w, (callFunc 111 args).run Tryz.prog w = .ok (.enter 111 args) w := zI Tryz.func111 kk kk
theorem s_impl_compose {f1 : (Int × Int × Int)} {g2 : (Int × Int × Int)} {r : (Int × Int × Int)} (h : r_impl_compose f1 g2 = some r) : z7 Tryz.prog 111 [.ag [Ti f1.1, Ti f1.2.1, Ti f1.2.2], .ag [Ti g2.1, Ti g2.2.1, Ti g2.2.2]] (.ag [Ti r.1, Ti r.2.1, Ti r.2.2]) [] := by
  refine zH (rs := [.w 4 3]) (vs := [.cell 4 38]) Tryz.func111 rfl rfl (.cons ⟨rfl, wd38⟩ FitsL.nil) (by decide) 12 rfl ?_
  unfold r_impl_compose at h
  show V _ _ ⟨.ag [Ti f1.1, Ti f1.2.1, Ti f1.2.2] :: .ag [Ti g2.1, Ti g2.2.1, Ti g2.2.2] :: bt 10 [], []⟩ _
  refine V_e (mb 12 28) [32, 24, 16] (s1 := ⟨.bot :: .bot :: .pt 16 0 :: .pt 24 0 :: .pt 32 0 :: bt 7 [], [(32, .box [Ti 0, Ti 0, Ti 0]), (24, .box [Ti g2.1, Ti g2.2.1, Ti g2.2.2]), (16, .box [Ti f1.1, Ti f1.2.1, Ti f1.2.2])]⟩) ?_
  obtain ⟨y3, hy3, h⟩ := zD h
  obtain ⟨y4, hy4, h⟩ := zD h
  obtain ⟨y5, hy5, h⟩ := zD h
  obtain ⟨y6, hy6, h⟩ := zD h
  obtain ⟨y7, hy7, h⟩ := zD h
  refine V_sdreg [0, 1, 0, 7, 15, 31, 63, 127] 7 (cdm 7 [32, 33, 10, 21, 85, 341, 1365]) (mb 12 16) [32] (s1 := ⟨bt 4 (.pt 32 0 :: bt 7 []), [(32, .box [Ti y7.1, Ti y7.2.1, Ti y7.2.2])]⟩) kk kk ?_ ?_
  ·refine DR 1 ?_
   refine DC 1 (s_impl_reduced hy3) cf_impl_reduced rfl rfl rfl rfl 6 rfl ?_
   refine DR 1 ?_
   refine DC 3 (s_impl_reduced hy4) cf_impl_reduced rfl rfl rfl rfl 8 rfl ?_
   refine DC 4 (s_impl_unite hy5) cf_impl_unite rfl rfl rfl rfl 9 rfl ?_
   refine DC 5 (s_impl_united_composite hy6) cf_impl_united_composite rfl rfl rfl rfl 10 rfl ?_
   refine DC 6 (s_impl_reduced hy7) cf_impl_reduced rfl rfl rfl rfl 11 rfl ?_
   refine DA 0 ?_
   exact XE
  refine zR ?_
  obtain rfl := zE h
  show Post _ _ _ _ _
  exact ⟨.inr rfl, rfl, rfl, rfl⟩
theorem cf_impl_Form_opposite : ∀ args w, (callFunc 113 args).run Tryz.prog w = .ok (.enter 113 args) w := zI Tryz.func113 kk kk
theorem s_impl_Form_opposite {f1 : (Int × Int × Int)} {r : (Int × Int × Int)} (h : r_impl_Form_opposite f1 = some r) : z7 Tryz.prog 113 [.ag [Ti f1.1, Ti f1.2.1, Ti f1.2.2]] (.ag [Ti r.1, Ti r.2.1, Ti r.2.2]) [] := by
  refine zH (rs := [.w 2 3]) (vs := [.cell 2 38]) Tryz.func113 rfl rfl (.cons ⟨rfl, wd38⟩ FitsL.nil) (by decide) 11 rfl ?_
  unfold r_impl_Form_opposite at h
  show V _ _ ⟨.ag [Ti f1.1, Ti f1.2.1, Ti f1.2.2] :: bt 10 [], []⟩ _
  refine V_e (mb 11 6) [16, 8] (s1 := ⟨.bot :: .pt 8 0 :: .pt 16 0 :: bt 8 [], [(16, .box [Ti 0, Ti 0, Ti 0]), (8, .box [Ti f1.1, Ti f1.2.1, Ti f1.2.2])]⟩) ?_
  obtain ⟨f2, hf2, h⟩ := qF h
  refine zG (mb 11 4) [16] (s1 := ⟨.bot :: .bot :: .pt 16 0 :: bt 8 [], [(16, .box [Ti f1.1, Ti f2, Ti f1.2.2])]⟩) ?_ ?_
  ·refine XR 7 ?_
   refine L0 rfl rfl (qE (cs := [Ti f1.1, Ti (w64 (0 - f1.2.1)), Ti f1.2.2]) pl38 bt38 rfl rfl kk) ?_
   refine XR 1 ?_
   refine zN ?_
   subst hf2
   kernel_rfl
  refine zR ?_
  obtain rfl := zE h
  show Post _ _ _ _ _
  exact ⟨.inr rfl, rfl, rfl, rfl⟩
theorem cf_impl_withEntry : ∀ args w, (callFunc 114 args).run Tryz.prog w = .ok (.enter 114 args) w := zI Tryz.func114 kk kk
theorem s_impl_withEntry {l1 : List ((ByteArray × ((Int × Int × Int))))} {name2 : ByteArray} {f3 : (Int × Int × Int)} {r : List ((ByteArray × ((Int × Int × Int))))} (h : r_impl_withEntry l1 name2 f3 = some r) : z7 Tryz.prog 114 [.c (.sl (l1.map c73)), .c (.v (.string name2)), .ag [Ti f3.1, Ti f3.2.1, Ti f3.2.2]] (.ow 0) [(0, .arr 73 4 (r.map c73))] := by
  refine zH (rs := [.t 6]) (vs := [.tmp 6]) Tryz.func114 rfl rfl (.cons rfl FitsL.nil) (by decide) 48 rfl ?_
  unfold r_impl_withEntry at h
  show V _ _ ⟨.c (.sl (l1.map c73)) :: .c (.v (.string name2)) :: .ag [Ti f3.1, Ti f3.2.1, Ti f3.2.2] :: bt 45 [], []⟩ _
  refine zG (mb 48 35) [40] (s1 := ⟨.c (.sl (l1.map c73)) :: .c (.v (.string name2)) :: bt 3 (.pt 40 0 :: bt 42 []), [(40, .box [Ti f3.1, Ti f3.2.1, Ti f3.2.2])]⟩) ?_ ?_
  ·refine XR 1 ?_
   refine L1 rfl rfl (Y1_nil (e := 73) 4 (by decide) (.inl rfl)) ?_
   exact XE
  refine zG (mb 48 163) [88, 40] (s1 := ⟨.c (.sl (l1.map c73)) :: .c (.v (.string name2)) :: bt 3 (.pt 40 0 :: .bot :: .ow 88 :: bt 40 []), [(88, .arr 73 4 ((([] : List ((ByteArray × ((Int × Int × Int)))))).map c73)), (40, .box [Ti f3.1, Ti f3.2.1, Ti f3.2.2])]⟩) ?_ ?_
  ·refine L1 rfl rfl (Y1_bslice0 Tryz.underlying43 sz73 (by decide) rfl rfl) ?_
   exact XE
  refine V_e (mb 48 419) [88, 40] (s1 := ⟨.c (.sl (l1.map c73)) :: .c (.v (.string name2)) :: bt 3 (.pt 40 0 :: .bot :: .ow 88 :: Bo false :: bt 39 []), [(88, .arr 73 4 ((([] : List ((ByteArray × ((Int × Int × Int)))))).map c73)), (40, .box [Ti f3.1, Ti f3.2.1, Ti f3.2.2])]⟩) ?_
  refine zX ?_
  obtain ⟨y4, hy4, h⟩ := zD h
  refine zG (mb 48 115106) [112, 88, 40] (s1 := ⟨.bot :: .c (.v (.string name2)) :: bt 3 (.pt 40 0 :: .bot :: .ow 88 :: Bo false :: bt 5 (.ow 112 :: I ((y4.length : Int)) :: I 0 :: bt 31 [])), [(112, .arr 73 4 (y4.map c73)), (88, .arr 73 4 ((([] : List ((ByteArray × ((Int × Int × Int)))))).map c73)), (40, .box [Ti f3.1, Ti f3.2.1, Ti f3.2.2])]⟩) ?_ ?_
  ·refine XR 2 ?_
   refine XC (s_impl_withoutEntry hy4) cf_impl_withoutEntry rfl rfl rfl ?_
   refine L0 rfl rfl (Y0_lenM (c := c73) (xs := y4) Tryz.underlying43 rfl kk) ?_
   exact XE
  obtain ⟨o9, hLo9, h⟩ := zD h
  refine V_toK (mb 48 418) [88, 40] (s1 := ⟨.bot :: .c (.v (.string name2)) :: bt 3 (.pt 40 0 :: .bot :: .ow 88 :: Bo o9.1 :: bt 39 []), [(88, .arr 73 4 (o9.2.map c73)), (40, .box [Ti f3.1, Ti f3.2.1, Ti f3.2.2])]⟩) ?_ ?_
  ·clear h
   refine zZ (V_loop (fun n s => ∃ (done5 : Bool) (t6 : Int) (l7 : List ((ByteArray × ((Int × Int × Int))))), s.keep (mb 48 115106) [112, 88, 40] = (⟨.bot :: .c (.v (.string name2)) :: bt 3 (.pt 40 0 :: .bot :: .ow 88 :: Bo done5 :: bt 5 (.ow 112 :: I ((y4.length : Int)) :: I t6 :: bt 31 [])), [(112, .arr 73 4 (y4.map c73)), (88, .arr 73 4 (l7.map c73)), (40, .box [Ti f3.1, Ti f3.2.1, Ti f3.2.2])]⟩ : St) ∧ r_impl_withEntry_L8 f3 name2 y4 n done5 t6 l7 = some o9) FU ⟨_, _, _,  by rfl, hLo9⟩ ?_)
   clear hLo9
   rintro n s ⟨done5, t6, l7, hs, h⟩
   refine V_keep _ _ hs ?_
   clear hs
   cases n with
   | zero => cases h
   | succ n =>
    rw [r_impl_withEntry_L8] at h
    refine V_e (mb 48 246178) [112, 88, 40] (s1 := ⟨.bot :: .c (.v (.string name2)) :: bt 3 (.pt 40 0 :: .bot :: .ow 88 :: Bo done5 :: bt 5 (.ow 112 :: I ((y4.length : Int)) :: I t6 :: Bo (ltI t6 ((y4.length : Int))) :: bt 30 [])), [(112, .arr 73 4 (y4.map c73)), (88, .arr 73 4 (l7.map c73)), (40, .box [Ti f3.1, Ti f3.2.1, Ti f3.2.2])]⟩) ?_
    refine zX ?_
    refine zQ rfl (fun hc10 => ?_) (fun hc10 => ?_)
    ·have h := zM h hc10
     refine zV ?_
     show V _ _ _ _
     refine zX ?_
     refine zZ ?_
     obtain ⟨e11, he11, h⟩ := zD h
     obtain ⟨e12, he12, h⟩ := zD h
     refine zG (mb 48 116130) [80, 112, 88, 40] (s1 := ⟨.bot :: .c (.v (.string name2)) :: bt 3 (.pt 40 0 :: .bot :: .ow 88 :: Bo done5 :: .bot :: .pt 80 0 :: bt 3 (.ow 112 :: I ((y4.length : Int)) :: I t6 :: bt 31 [])), [(80, .box [.v (.string e12.1), Ti e12.2.1, Ti e12.2.2.1, Ti e12.2.2.2]), (112, .arr 73 4 (y4.map c73)), (88, .arr 73 4 (l7.map c73)), (40, .box [Ti f3.1, Ti f3.2.1, Ti f3.2.2])]⟩) ?_ ?_
     ·refine L0 rfl rfl (Y0_idxoM (c := c73) (xs := y4) (v := e11) (id := 112) (T := 73) (sz := 4) (n := t6) Tryz.underlying43 sz73 rfl kk kk kk he11) ?_
      refine L0 rfl rfl (E_loadon (c := c73) (xs := y4) (v := e12) (id := 112) (sz := 4) (T := 73) (off := 0) (n := t6) [.v (.string e12.1), Ti e12.2.1, Ti e12.2.2.1, Ti e12.2.2.2] wd73 rfl kk kk he12 (Nat.le_of_ble_eq_true rfl) kk) ?_
      exact XE
     refine zX ?_
     obtain ⟨t14, ht14, h⟩ := zD h
     have ht14 := zE ht14
     refine zG (mb 48 134333858) [80, 112, 88, 40] (s1 := ⟨.bot :: .c (.v (.string name2)) :: bt 3 (.pt 40 0 :: .bot :: .ow 88 :: Bo done5 :: .bot :: .pt 80 0 :: bt 3 (.ow 112 :: I ((y4.length : Int)) :: I t6 :: bt 10 (Bo t14 :: bt 20 []))), [(80, .box [.v (.string e12.1), Ti e12.2.1, Ti e12.2.2.1, Ti e12.2.2.2]), (112, .arr 73 4 (y4.map c73)), (88, .arr 73 4 (l7.map c73)), (40, .box [Ti f3.1, Ti f3.2.1, Ti f3.2.2])]⟩) ?_ ?_
     ·refine XR 3 ?_
      refine zP (!done5) (fun hc13 => ?_) (fun hc13 => ?_)
      ·refine zB _ rfl rfl kk hc13 (zA rfl (zY (.c (.v (.string name2))) rfl kk)) ?_
       refine zB _ rfl rfl kk hc13 (zA rfl (qD (.pt 80 0) Tryz.underlying73 rfl sz9 rfl kk (by intro hh; cases hh))) ?_
       refine zB _ rfl rfl kk hc13 (zA rfl (qC (c := .v (.string e12.1)) (cs := [Ti e12.2.1, Ti e12.2.2.1, Ti e12.2.2.2]) sc9 rfl kk)) ?_
       refine zB _ rfl rfl kk hc13 (zA rfl (Y0_lts (a := name2) (b := e12.1) rfl kk kk)) ?_
       refine zJ rfl (zA rfl (zW (b := !done5) (p := Op.bytesLess name2.toList e12.1.toList) (q := false) rfl kk hc13 kk)) ?_
       refine zN ?_
       subst ht14
       kernel_rfl
      ·refine zF _ rfl rfl kk hc13 rfl ?_
       refine zF _ rfl rfl kk hc13 rfl ?_
       refine zF _ rfl rfl kk hc13 rfl ?_
       refine zF _ rfl rfl kk hc13 rfl ?_
       refine zJ rfl (zA rfl (zT (b := !done5) (p := Op.bytesLess name2.toList e12.1.toList) (q := false) rfl kk hc13 kk)) ?_
       refine zN ?_
       subst ht14
       kernel_rfl
     refine zQ rfl (fun hc15 => ?_) (fun hc15 => ?_)
     ·have h := zM h hc15
      obtain ⟨u16, hu16, h⟩ := zD h
      refine zG (mb 48 115874) [80, 112, 88, 40] (s1 := ⟨.bot :: .c (.v (.string name2)) :: bt 3 (.pt 40 0 :: .bot :: .ow 88 :: .bot :: .bot :: .pt 80 0 :: bt 3 (.ow 112 :: I ((y4.length : Int)) :: I t6 :: bt 31 [])), [(80, .box [.v (.string e12.1), Ti e12.2.1, Ti e12.2.2.1, Ti e12.2.2.2]), (112, .arr 73 4 (y4.map c73)), (88, .arr 73 4 ((l7 ++ ([(name2, f3)])).map c73)), (40, .box [Ti f3.1, Ti f3.2.1, Ti f3.2.2])]⟩) ?_ ?_
      ·refine XR 3 ?_
       refine L0 rfl rfl (qE (cs := [.v (.string name2), Ti f3.1, Ti f3.2.1, Ti f3.2.2]) pl73 bt73 rfl rfl kk) ?_
       refine L1 rfl rfl (Y1_bslice (z := zv73) (els := [(name2, f3)].map c73) Tryz.underlying43 iz73 rfl (by decide) rfl kk rfl (by simp [c73]) (by decide) (by decide)) ?_
       refine zJ rfl (X_appendM (c := c73) (xs := l7) (ys := [(name2, f3)]) (id := 88) (z := zv73) rfl rfl Tryz.underlying43 izb73 rfl kk kk kk (fun _ => rfl) (by simp) (room_some hu16) (by decide)) ?_
       exact XE
      refine V_reg (mb 48 116130) [80, 112, 88, 40] (s1 := ⟨.bot :: .c (.v (.string name2)) :: bt 3 (.pt 40 0 :: .bot :: .ow 88 :: Bo true :: .bot :: .pt 80 0 :: bt 3 (.ow 112 :: I ((y4.length : Int)) :: I t6 :: bt 31 [])), [(80, .box [.v (.string e12.1), Ti e12.2.1, Ti e12.2.2.1, Ti e12.2.2.2]), (112, .arr 73 4 (y4.map c73)), (88, .arr 73 4 ((l7 ++ ([(name2, f3)])).map c73)), (40, .box [Ti f3.1, Ti f3.2.1, Ti f3.2.2])]⟩) ?_ ?_
      ·exact XE
      show V _ _ _ _
      obtain ⟨u17, hu17, h⟩ := zD h
      refine V_reg (mb 48 115106) [112, 88, 40] (s1 := ⟨.bot :: .c (.v (.string name2)) :: bt 3 (.pt 40 0 :: .bot :: .ow 88 :: Bo true :: bt 5 (.ow 112 :: I ((y4.length : Int)) :: I t6 :: bt 31 [])), [(112, .arr 73 4 (y4.map c73)), (88, .arr 73 4 (((l7 ++ ([(name2, f3)])) ++ ([e12])).map c73)), (40, .box [Ti f3.1, Ti f3.2.1, Ti f3.2.2])]⟩) ?_ ?_
      ·refine XR 2 ?_
       refine L1 rfl rfl (Y1_bslice (z := zv73) (els := [e12].map c73) Tryz.underlying43 iz73 rfl (by decide) rfl kk rfl (by simp [c73]) (by decide) (by decide)) ?_
       refine zJ rfl (X_appendM (c := c73) (xs := l7 ++ ([(name2, f3)])) (ys := [e12]) (id := 88) (z := zv73) rfl rfl Tryz.underlying43 izb73 rfl kk kk kk (fun _ => rfl) (by simp) (room_some hu17) (by decide)) ?_
       exact XE
      show V _ _ _ _
      obtain ⟨t18, ht18, h⟩ := qF h
      refine V_reg (mb 48 115106) [112, 88, 40] (s1 := ⟨.bot :: .c (.v (.string name2)) :: bt 3 (.pt 40 0 :: .bot :: .ow 88 :: Bo true :: bt 5 (.ow 112 :: I ((y4.length : Int)) :: I t18 :: bt 31 [])), [(112, .arr 73 4 (y4.map c73)), (88, .arr 73 4 (((l7 ++ ([(name2, f3)])) ++ ([e12])).map c73)), (40, .box [Ti f3.1, Ti f3.2.1, Ti f3.2.2])]⟩) ?_ ?_
      ·refine XR 2 ?_
       refine zN ?_
       subst ht18
       kernel_rfl
      exact ⟨n, Nat.lt_succ_self n, _, _, _,  by rfl, h⟩
     ·have h := zK h hc15
      refine zV ?_
      show V _ _ _ _
      obtain ⟨u19, hu19, h⟩ := zD h
      refine V_reg (mb 48 115106) [112, 88, 40] (s1 := ⟨.bot :: .c (.v (.string name2)) :: bt 3 (.pt 40 0 :: .bot :: .ow 88 :: Bo done5 :: bt 5 (.ow 112 :: I ((y4.length : Int)) :: I t6 :: bt 31 [])), [(112, .arr 73 4 (y4.map c73)), (88, .arr 73 4 ((l7 ++ ([e12])).map c73)), (40, .box [Ti f3.1, Ti f3.2.1, Ti f3.2.2])]⟩) ?_ ?_
      ·refine XR 2 ?_
       refine L1 rfl rfl (Y1_bslice (z := zv73) (els := [e12].map c73) Tryz.underlying43 iz73 rfl (by decide) rfl kk rfl (by simp [c73]) (by decide) (by decide)) ?_
       refine zJ rfl (X_appendM (c := c73) (xs := l7) (ys := [e12]) (id := 88) (z := zv73) rfl rfl Tryz.underlying43 izb73 rfl kk kk kk (fun _ => rfl) (by simp) (room_some hu19) (by decide)) ?_
       exact XE
      show V _ _ _ _
      obtain ⟨t20, ht20, h⟩ := qF h
      refine V_reg (mb 48 115106) [112, 88, 40] (s1 := ⟨.bot :: .c (.v (.string name2)) :: bt 3 (.pt 40 0 :: .bot :: .ow 88 :: Bo done5 :: bt 5 (.ow 112 :: I ((y4.length : Int)) :: I t20 :: bt 31 [])), [(112, .arr 73 4 (y4.map c73)), (88, .arr 73 4 ((l7 ++ ([e12])).map c73)), (40, .box [Ti f3.1, Ti f3.2.1, Ti f3.2.2])]⟩) ?_ ?_
      ·refine XR 2 ?_
       refine zN ?_
       subst ht20
       kernel_rfl
      exact ⟨n, Nat.lt_succ_self n, _, _, _,  by rfl, h⟩
    ·have h := zK h hc10
     refine V_exit ?_
     obtain rfl := zE h
     show St.keep _ _ _ = _
     rfl
  show V _ _ _ _
  refine zX ?_
  refine V_e (mb 48 1099511627938) [88, 40] (s1 := ⟨.bot :: .c (.v (.string name2)) :: bt 3 (.pt 40 0 :: .bot :: .ow 88 :: bt 32 (Bo (!o9.1) :: bt 7 [])), [(88, .arr 73 4 (o9.2.map c73)), (40, .box [Ti f3.1, Ti f3.2.1, Ti f3.2.2])]⟩) ?_
  refine zQ rfl (fun hc21 => ?_) (fun hc21 => ?_)
  ·have h := zM h hc21
   obtain ⟨u22, hu22, h⟩ := zD h
   refine V_reg (mb 48 128) [88] (s1 := ⟨bt 7 (.ow 88 :: bt 40 []), [(88, .arr 73 4 ((o9.2 ++ ([(name2, f3)])).map c73))]⟩) ?_ ?_
   ·refine XR 3 ?_
    refine L0 rfl rfl (qE (cs := [.v (.string name2), Ti f3.1, Ti f3.2.1, Ti f3.2.2]) pl73 bt73 rfl rfl kk) ?_
    refine L1 rfl rfl (Y1_bslice (z := zv73) (els := [(name2, f3)].map c73) Tryz.underlying43 iz73 rfl (by decide) rfl kk rfl (by simp [c73]) (by decide) (by decide)) ?_
    refine zJ rfl (X_appendM (c := c73) (xs := o9.2) (ys := [(name2, f3)]) (id := 88) (z := zv73) rfl rfl Tryz.underlying43 izb73 rfl kk kk kk (fun _ => rfl) (by simp) (room_some hu22) (by decide)) ?_
    exact XE
   show V _ _ _ _
   refine V_e (mb 48 64) [88] (s1 := ⟨bt 6 (.ow 88 :: bt 41 []), [(88, .arr 73 4 ((o9.2 ++ ([(name2, f3)])).map c73))]⟩) ?_
   refine zR ?_
   obtain rfl := zE h
   show Post _ _ _ _ _
   exact ⟨.inr rfl, rfl, rfl, rfl⟩
  ·have h := zK h hc21
   refine zV ?_
   show V _ _ _ _
   refine V_e (mb 48 64) [88] (s1 := ⟨bt 6 (.ow 88 :: bt 41 []), [(88, .arr 73 4 (o9.2.map c73))]⟩) ?_
   refine zR ?_
   obtain rfl := zE h
   show Post _ _ _ _ _
   exact ⟨.inr rfl, rfl, rfl, rfl⟩
theorem cf_impl_runCommand : ∀ args w, (callFunc 55 args).run Tryz.prog w = .ok (.enter 55 args) w := zI Tryz.func55 kk kk
theorem s_impl_runCommand {l1 : List ((ByteArray × ((Int × Int × Int))))} {c2 : (Int × ByteArray × ByteArray × ByteArray × ((Int × Int × Int)))} {r : ((List ((ByteArray × ((Int × Int × Int))))) × Int)} (h : r_impl_runCommand l1 c2 = some r) : z7 Tryz.prog 55 [.c (.sl (l1.map c73)), .ag [Ti c2.1, .v (.string c2.2.1), .v (.string c2.2.2.1), .v (.string c2.2.2.2.1), Ti c2.2.2.2.2.1, Ti c2.2.2.2.2.2.1, Ti c2.2.2.2.2.2.2]] (.tc (.ow 0) (.tc (I r.2) .tn)) [(0, .arr 73 4 (r.1.map c73))] := by
  refine zH (rs := [.t 4, .t 5]) (vs := [.tmp 4, .tmp 5]) Tryz.func55 rfl rfl (.cons rfl (.cons rfl FitsL.nil)) (by decide) 64 rfl ?_
  unfold r_impl_runCommand at h
  show V _ _ ⟨.c (.sl (l1.map c73)) :: .ag [Ti c2.1, .v (.string c2.2.1), .v (.string c2.2.2.1), .v (.string c2.2.2.2.1), Ti c2.2.2.2.2.1, Ti c2.2.2.2.2.2.1, Ti c2.2.2.2.2.2.2] :: bt 62 [], []⟩ _
  refine zG (mb 64 9) [24] (s1 := ⟨.c (.sl (l1.map c73)) :: .bot :: .bot :: .pt 24 0 :: bt 60 [], [(24, .box [Ti c2.1, .v (.string c2.2.1), .v (.string c2.2.2.1), .v (.string c2.2.2.2.1), Ti c2.2.2.2.2.1, Ti c2.2.2.2.2.2.1, Ti c2.2.2.2.2.2.2])]⟩) ?_ ?_
  ·refine XR 1 ?_
   refine L1 rfl rfl (Y1_nil (e := 73) 4 (by decide) (.inl rfl)) ?_
   exact XE
  refine zX ?_
  obtain ⟨y3, hy3, h⟩ := zD h
  refine zG (mb 64 73) [24] (s1 := ⟨.c (.sl (l1.map c73)) :: .bot :: .bot :: .pt 24 0 :: .bot :: .bot :: I y3 :: bt 57 [], [(24, .box [Ti c2.1, .v (.string c2.2.1), .v (.string c2.2.2.1), .v (.string c2.2.2.2.1), Ti c2.2.2.2.2.1, Ti c2.2.2.2.2.2.1, Ti c2.2.2.2.2.2.2])]⟩) ?_ ?_
  ·refine XR 2 ?_
   refine XC (s_impl_refusal hy3) cf_impl_refusal rfl rfl rfl ?_
   exact XE
  refine V_e (mb 64 131145) [24] (s1 := ⟨.c (.sl (l1.map c73)) :: .bot :: .bot :: .pt 24 0 :: .bot :: .bot :: I y3 :: bt 10 (Bo (!eqI y3 0) :: bt 46 []), [(24, .box [Ti c2.1, .v (.string c2.2.1), .v (.string c2.2.2.1), .v (.string c2.2.2.2.1), Ti c2.2.2.2.2.1, Ti c2.2.2.2.2.2.1, Ti c2.2.2.2.2.2.2])]⟩) ?_
  refine zQ rfl (fun hc4 => ?_) (fun hc4 => ?_)
  ·have h := zM h hc4
   refine zG (mb 64 48) [144] (s1 := ⟨bt 4 (.ow 144 :: I y3 :: bt 58 []), [(144, .arr 73 4 ((([] : List ((ByteArray × ((Int × Int × Int)))))).map c73))]⟩) ?_ ?_
   ·refine L1 rfl rfl (Y1_bslice0 Tryz.underlying43 sz73 (by decide) rfl rfl) ?_
    exact XE
   refine zR ?_
   obtain rfl := zE h
   show Post _ _ _ _ _
   exact ⟨.inr rfl, rfl, rfl, rfl⟩
  ·have h := zK h hc4
   refine zV ?_
   show V _ _ _ _
   refine V_e (mb 64 137) [56, 24] (s1 := ⟨.c (.sl (l1.map c73)) :: .bot :: .bot :: .pt 24 0 :: bt 3 (.pt 56 0 :: bt 56 []), [(56, .box [Ti c2.2.2.2.2.1, Ti c2.2.2.2.2.2.1, Ti c2.2.2.2.2.2.2]), (24, .box [Ti c2.1, .v (.string c2.2.1), .v (.string c2.2.2.1), .v (.string c2.2.2.2.1), Ti c2.2.2.2.2.1, Ti c2.2.2.2.2.2.1, Ti c2.2.2.2.2.2.2])]⟩) ?_
   obtain ⟨y5, hy5, h⟩ := zD h
   refine zG (mb 64 393) [64, 56, 24] (s1 := ⟨.c (.sl (l1.map c73)) :: .bot :: .bot :: .pt 24 0 :: bt 3 (.pt 56 0 :: .pt 64 0 :: bt 55 []), [(64, .box [Ti y5.1.1, Ti y5.1.2.1, Ti y5.1.2.2]), (56, .box [Ti c2.2.2.2.2.1, Ti c2.2.2.2.2.2.1, Ti c2.2.2.2.2.2.2]), (24, .box [Ti c2.1, .v (.string c2.2.1), .v (.string c2.2.2.1), .v (.string c2.2.2.2.1), Ti c2.2.2.2.2.1, Ti c2.2.2.2.2.2.1, Ti c2.2.2.2.2.2.2])]⟩) ?_ ?_
   ·refine XR 3 ?_
    refine XC (s_impl_find hy5) cf_impl_find rfl rfl rfl ?_
    exact XE
   obtain ⟨y6, hy6, h⟩ := zD h
   refine zG (mb 64 1417) [80, 64, 56, 24] (s1 := ⟨.c (.sl (l1.map c73)) :: .bot :: .bot :: .pt 24 0 :: bt 3 (.pt 56 0 :: .pt 64 0 :: .bot :: .pt 80 0 :: bt 53 []), [(80, .box [Ti y6.1.1, Ti y6.1.2.1, Ti y6.1.2.2]), (64, .box [Ti y5.1.1, Ti y5.1.2.1, Ti y5.1.2.2]), (56, .box [Ti c2.2.2.2.2.1, Ti c2.2.2.2.2.2.1, Ti c2.2.2.2.2.2.2]), (24, .box [Ti c2.1, .v (.string c2.2.1), .v (.string c2.2.2.1), .v (.string c2.2.2.2.1), Ti c2.2.2.2.2.1, Ti c2.2.2.2.2.2.1, Ti c2.2.2.2.2.2.2])]⟩) ?_ ?_
   ·refine XR 3 ?_
    refine XC (s_impl_find hy6) cf_impl_find rfl rfl rfl ?_
    exact XE
   obtain ⟨qo7, hLo7, hko7⟩ := zD h
   clear h
   refine V_cutS (q := qo7) (S := fun o7 => ⟨.c (.sl (l1.map c73)) :: .bot :: .bot :: .pt 24 0 :: bt 3 (.pt 56 0 :: bt 56 []), [(56, .box [Ti o7.1, Ti o7.2.1, Ti o7.2.2]), (24, .box [Ti c2.1, .v (.string c2.2.1), .v (.string c2.2.2.1), .v (.string c2.2.2.2.1), Ti c2.2.2.2.2.1, Ti c2.2.2.2.2.2.1, Ti c2.2.2.2.2.2.2])]⟩) (mb 64 137) [56, 24] ?_ ?_
   ·have h := hLo7
    clear hLo7
    refine V_e (mb 64 137438954889) [80, 64, 56, 24] (s1 := ⟨.c (.sl (l1.map c73)) :: .bot :: .bot :: .pt 24 0 :: bt 3 (.pt 56 0 :: .pt 64 0 :: .bot :: .pt 80 0 :: bt 26 (I c2.1 :: bt 26 [])), [(80, .box [Ti y6.1.1, Ti y6.1.2.1, Ti y6.1.2.2]), (64, .box [Ti y5.1.1, Ti y5.1.2.1, Ti y5.1.2.2]), (56, .box [Ti c2.2.2.2.2.1, Ti c2.2.2.2.2.2.1, Ti c2.2.2.2.2.2.2]), (24, .box [Ti c2.1, .v (.string c2.2.1), .v (.string c2.2.2.1), .v (.string c2.2.2.2.1), Ti c2.2.2.2.2.1, Ti c2.2.2.2.2.2.1, Ti c2.2.2.2.2.2.2])]⟩) ?_
    refine zZ ?_
    refine V_e (mb 64 412316861833) [80, 64, 56, 24] (s1 := ⟨.c (.sl (l1.map c73)) :: .bot :: .bot :: .pt 24 0 :: bt 3 (.pt 56 0 :: .pt 64 0 :: .bot :: .pt 80 0 :: bt 26 (I c2.1 :: Bo (eqI c2.1 2) :: bt 25 [])), [(80, .box [Ti y6.1.1, Ti y6.1.2.1, Ti y6.1.2.2]), (64, .box [Ti y5.1.1, Ti y5.1.2.1, Ti y5.1.2.2]), (56, .box [Ti c2.2.2.2.2.1, Ti c2.2.2.2.2.2.1, Ti c2.2.2.2.2.2.2]), (24, .box [Ti c2.1, .v (.string c2.2.1), .v (.string c2.2.2.1), .v (.string c2.2.2.2.1), Ti c2.2.2.2.2.1, Ti c2.2.2.2.2.2.1, Ti c2.2.2.2.2.2.2])]⟩) ?_
    refine zQ rfl (fun hc8 => ?_) (fun hc8 => ?_)
    ·have h := zM h hc8
     obtain ⟨y9, hy9, h⟩ := zD h
     refine zG (mb 64 48) [344] (s1 := ⟨bt 4 (.ow 344 :: I 0 :: bt 58 []), [(344, .arr 73 4 (y9.map c73))]⟩) ?_ ?_
     ·refine XR 3 ?_
      refine XC (s_impl_withoutEntry hy9) cf_impl_withoutEntry rfl rfl rfl ?_
      exact XE
     refine zR ?_
     obtain rfl := zE h
     have h := hko7
     obtain rfl := zE h
     show Post _ _ _ _ _
     exact ⟨.inr rfl, rfl, rfl, rfl⟩
    ·have h := zK h hc8
     refine V_e (mb 64 17729624999305) [80, 64, 56, 24] (s1 := ⟨.c (.sl (l1.map c73)) :: .bot :: .bot :: .pt 24 0 :: bt 3 (.pt 56 0 :: .pt 64 0 :: .bot :: .pt 80 0 :: bt 26 (I c2.1 :: bt 6 (Bo (eqI c2.1 3) :: bt 19 []))), [(80, .box [Ti y6.1.1, Ti y6.1.2.1, Ti y6.1.2.2]), (64, .box [Ti y5.1.1, Ti y5.1.2.1, Ti y5.1.2.2]), (56, .box [Ti c2.2.2.2.2.1, Ti c2.2.2.2.2.2.1, Ti c2.2.2.2.2.2.2]), (24, .box [Ti c2.1, .v (.string c2.2.1), .v (.string c2.2.2.1), .v (.string c2.2.2.2.1), Ti c2.2.2.2.2.1, Ti c2.2.2.2.2.2.1, Ti c2.2.2.2.2.2.2])]⟩) ?_
     refine zQ rfl (fun hc10 => ?_) (fun hc10 => ?_)
     ·have h := zM h hc10
      obtain ⟨y11, hy11, h⟩ := zD h
      refine V_reg (mb 64 137) [56, 24] (s1 := ⟨.c (.sl (l1.map c73)) :: .bot :: .bot :: .pt 24 0 :: bt 3 (.pt 56 0 :: bt 56 []), [(56, .box [Ti y11.1, Ti y11.2.1, Ti y11.2.2]), (24, .box [Ti c2.1, .v (.string c2.2.1), .v (.string c2.2.2.1), .v (.string c2.2.2.2.1), Ti c2.2.2.2.2.1, Ti c2.2.2.2.2.2.1, Ti c2.2.2.2.2.2.2])]⟩) ?_ ?_
      ·refine XR 2 ?_
       refine XC (s_impl_compose hy11) cf_impl_compose rfl rfl rfl ?_
       exact XE
      obtain rfl := zE h
      exact ⟨_, rfl, by rfl⟩
     ·have h := zK h hc10
      refine V_e (mb 64 562949953421705) [64, 56, 24] (s1 := ⟨.c (.sl (l1.map c73)) :: .bot :: .bot :: .pt 24 0 :: bt 3 (.pt 56 0 :: .pt 64 0 :: bt 40 (Bo (eqI c2.1 4) :: bt 14 [])), [(64, .box [Ti y5.1.1, Ti y5.1.2.1, Ti y5.1.2.2]), (56, .box [Ti c2.2.2.2.2.1, Ti c2.2.2.2.2.2.1, Ti c2.2.2.2.2.2.2]), (24, .box [Ti c2.1, .v (.string c2.2.1), .v (.string c2.2.2.1), .v (.string c2.2.2.2.1), Ti c2.2.2.2.2.1, Ti c2.2.2.2.2.2.1, Ti c2.2.2.2.2.2.2])]⟩) ?_
      refine zQ rfl (fun hc12 => ?_) (fun hc12 => ?_)
      ·have h := zM h hc12
       obtain ⟨y13, hy13, h⟩ := zD h
       obtain ⟨y14, hy14, h⟩ := zD h
       refine V_reg (mb 64 137) [56, 24] (s1 := ⟨.c (.sl (l1.map c73)) :: .bot :: .bot :: .pt 24 0 :: bt 3 (.pt 56 0 :: bt 56 []), [(56, .box [Ti y14.1, Ti y14.2.1, Ti y14.2.2]), (24, .box [Ti c2.1, .v (.string c2.2.1), .v (.string c2.2.2.1), .v (.string c2.2.2.2.1), Ti c2.2.2.2.2.1, Ti c2.2.2.2.2.2.1, Ti c2.2.2.2.2.2.2])]⟩) ?_ ?_
       ·refine XR 1 ?_
        refine XC (s_impl_Form_opposite hy13) cf_impl_Form_opposite rfl rfl rfl ?_
        refine XC (s_impl_reduced hy14) cf_impl_reduced rfl rfl rfl ?_
        exact XE
       obtain rfl := zE h
       exact ⟨_, rfl, by rfl⟩
      ·have h := zK h hc12
       refine zV ?_
       obtain rfl := zE h
       exact ⟨_, rfl, by rfl⟩
   rintro o7 rfl
   have h := hko7
   clear hko7
   obtain ⟨y15, hy15, h⟩ := zD h
   refine zG (mb 64 4096) [464] (s1 := ⟨bt 12 (.ow 464 :: bt 51 []), [(464, .arr 73 4 (y15.map c73))]⟩) ?_ ?_
   ·refine XR 4 ?_
    refine XC (s_impl_withEntry hy15) cf_impl_withEntry rfl rfl rfl ?_
    exact XE
   refine zX ?_
   refine zG (mb 64 2305843009213698048) [464] (s1 := ⟨bt 12 (.ow 464 :: bt 48 (Bo (ltI 20 ((y15.length : Int))) :: .bot :: .bot :: [])), [(464, .arr 73 4 (y15.map c73))]⟩) ?_ ?_
   ·refine XR 1 ?_
    refine L0 rfl rfl (Y0_lenM (c := c73) (xs := y15) Tryz.underlying43 rfl kk) ?_
    exact XE
   refine zQ rfl (fun hc16 => ?_) (fun hc16 => ?_)
   ·have h := zM h hc16
    refine zG (mb 64 48) [496] (s1 := ⟨bt 4 (.ow 496 :: I 5 :: bt 58 []), [(496, .arr 73 4 ((([] : List ((ByteArray × ((Int × Int × Int)))))).map c73))]⟩) ?_ ?_
    ·refine L1 rfl rfl (Y1_bslice0 Tryz.underlying43 sz73 (by decide) rfl rfl) ?_
     exact XE
    refine zR ?_
    obtain rfl := zE h
    show Post _ _ _ _ _
    exact ⟨.inr rfl, rfl, rfl, rfl⟩
   ·have h := zK h hc16
    refine zV ?_
    show V _ _ _ _
    refine V_e (mb 64 48) [464] (s1 := ⟨bt 4 (.ow 464 :: I 0 :: bt 58 []), [(464, .arr 73 4 (y15.map c73))]⟩) ?_
    refine zR ?_
    obtain rfl := zE h
    show Post _ _ _ _ _
    exact ⟨.inr rfl, rfl, rfl, rfl⟩
theorem cf_impl_replay : ∀ args w, (callFunc 54 args).run Tryz.prog w = .ok (.enter 54 args) w := zI Tryz.func54 kk kk
theorem s_impl_replay {vs1 : ByteArray} {r : ((List ((ByteArray × ((Int × Int × Int))))) × Int × Int × Int)} (h : r_impl_replay vs1 = some r) : z7 Tryz.prog 54 [.c (.v (.string vs1))] (.tc (.ow 0) (.tc (I r.2.1) (.tc (I r.2.2.1) (.tc (I r.2.2.2) .tn)))) [(0, .arr 73 4 (r.1.map c73))] := by
  refine zH (rs := [.t 2, .t 3, .t 4, .t 5]) (vs := [.tmp 2, .tmp 3, .tmp 4, .tmp 5]) Tryz.func54 rfl rfl (.cons rfl (.cons rfl (.cons rfl (.cons rfl FitsL.nil)))) (by decide) 81 rfl ?_
  unfold r_impl_replay at h
  show V _ _ ⟨.c (.v (.string vs1)) :: bt 80 [], []⟩ _
  refine zG (mb 81 1) [] (s1 := ⟨.c (.v (.string vs1)) :: bt 80 [], []⟩) ?_ ?_
  ·refine L1 rfl rfl (Y1_nil (e := 73) 4 (by decide) (.inl rfl)) ?_
   exact XE
  refine zG (mb 81 65) [168] (s1 := ⟨.c (.v (.string vs1)) :: bt 5 (.ow 168 :: bt 74 []), [(168, .arr 73 4 ((([] : List ((ByteArray × ((Int × Int × Int)))))).map c73))]⟩) ?_ ?_
  ·refine L1 rfl rfl (Y1_bslice0 Tryz.underlying43 sz73 (by decide) rfl rfl) ?_
   exact XE
  refine V_e (mb 81 961) [168] (s1 := ⟨.c (.v (.string vs1)) :: bt 5 (.ow 168 :: I 0 :: I 0 :: I 0 :: bt 71 []), [(168, .arr 73 4 ((([] : List ((ByteArray × ((Int × Int × Int)))))).map c73))]⟩) ?_
  refine zX ?_
  obtain ⟨o7, hLo7, h⟩ := zD h
  refine V_toK (mb 81 960) [168] (s1 := ⟨bt 6 (.ow 168 :: I o7.1 :: I o7.2.1 :: I o7.2.2.1 :: bt 71 []), [(168, .arr 73 4 (o7.2.2.2.map c73))]⟩) ?_ ?_
  ·clear h
   refine zZ (V_loop (fun n s => ∃ (many2 : Int) (vat3 : Int) (vn4 : Int) (l5 : List ((ByteArray × ((Int × Int × Int))))), (s.adopt 6 168).keep (mb 81 961) [168] = (⟨.c (.v (.string vs1)) :: bt 5 (.ow 168 :: I many2 :: I vat3 :: I vn4 :: bt 71 []), [(168, .arr 73 4 (l5.map c73))]⟩ : St) ∧ r_impl_replay_L6 vs1 n many2 vat3 vn4 l5 = some o7) FU ⟨_, _, _, _,  by rfl, hLo7⟩ ?_)
   clear hLo7
   rintro n s ⟨many2, vat3, vn4, l5, hs, h⟩
   refine V_adopt 6 168 ?_
   refine V_keep _ _ hs ?_
   clear hs
   cases n with
   | zero => cases h
   | succ n =>
    rw [r_impl_replay_L6] at h
    refine zX ?_
    refine V_e (mb 81 8389569) [168] (s1 := ⟨.c (.v (.string vs1)) :: bt 5 (.ow 168 :: I many2 :: I vat3 :: I vn4 :: bt 13 (Bo (ltI many2 40) :: bt 57 [])), [(168, .arr 73 4 (l5.map c73))]⟩) ?_
    refine zQ rfl (fun hc8 => ?_) (fun hc8 => ?_)
    ·have h := zM h hc8
     refine zV ?_
     show V _ _ _ _
     refine zZ ?_
     obtain ⟨u9, hu9, h⟩ := zD h
     obtain ⟨y10, hy10, h⟩ := zD h
     refine zG (mb 81 1985) [168] (s1 := ⟨.c (.v (.string vs1)) :: bt 5 (.ow 168 :: I many2 :: I vat3 :: I vn4 :: I y10 :: bt 70 []), [(168, .arr 73 4 (l5.map c73))]⟩) ?_ ?_
     ·refine XR 2 ?_
      refine L0 rfl rfl (Y0_slices (b := vs1) (l := vat3) (h := (vs1.size : Int)) Tryz.underlying9 rfl kk (fun y hy => by cases hy; exact ⟨.i64, kk⟩) (fun hh => by cases hh) (fun y hy => by cases hy) (fun _ => rfl) (slc_some hu9)) ?_
      refine XC (s_strings_IndexByte hy10) cf_strings_IndexByte rfl rfl rfl ?_
      exact XE
     refine zX ?_
     refine V_e (mb 81 536872897) [168] (s1 := ⟨.c (.v (.string vs1)) :: bt 5 (.ow 168 :: I many2 :: I vat3 :: I vn4 :: I y10 :: bt 18 (Bo (ltI y10 0) :: bt 51 [])), [(168, .arr 73 4 (l5.map c73))]⟩) ?_
     refine zQ rfl (fun hc11 => ?_) (fun hc11 => ?_)
     ·have h := zM h hc11
      refine V_exit ?_
      obtain rfl := zE h
      show St.keep _ _ _ = _
      rfl
     ·have h := zK h hc11
      refine zV ?_
      show V _ _ _ _
      obtain ⟨u12, hu12, h⟩ := zD h
      refine zG (mb 81 3009) [168] (s1 := ⟨.c (.v (.string vs1)) :: bt 5 (.ow 168 :: I many2 :: I vat3 :: I vn4 :: .bot :: .c (.v (.string (vs1.extract (Int.toNat vat3) (Int.toNat (w64 ((w64 (vat3 + y10)) + 1)))))) :: bt 69 []), [(168, .arr 73 4 (l5.map c73))]⟩) ?_ ?_
      ·refine XR 6 ?_
       refine L0 rfl rfl (Y0_slices (b := vs1) (l := vat3) (h := w64 ((w64 (vat3 + y10)) + 1)) Tryz.underlying9 rfl kk (fun y hy => by cases hy; exact ⟨.i64, kk⟩) (fun hh => by cases hh) (fun y hy => by cases hy; exact ⟨.i64, kk⟩) (fun hh => by cases hh) (slc_some hu12)) ?_
       exact XE
      obtain ⟨y13, hy13, h⟩ := zD h
      refine zG (mb 81 7105) [168] (s1 := ⟨.c (.v (.string vs1)) :: bt 5 (.ow 168 :: I many2 :: I vat3 :: I vn4 :: .bot :: .c (.v (.string (vs1.extract (Int.toNat vat3) (Int.toNat (w64 ((w64 (vat3 + y10)) + 1)))))) :: .c (.v (.string y13.1)) :: bt 68 []), [(168, .arr 73 4 (l5.map c73))]⟩) ?_ ?_
      ·refine XR 1 ?_
       refine XC (s_strings_Cut hy13) cf_strings_Cut rfl rfl rfl ?_
       exact XE
      obtain ⟨y14, hy14, h⟩ := zD h
      refine zG (mb 81 101313) [120, 168] (s1 := ⟨.c (.v (.string vs1)) :: bt 5 (.ow 168 :: I many2 :: I vat3 :: I vn4 :: .bot :: .c (.v (.string (vs1.extract (Int.toNat vat3) (Int.toNat (w64 ((w64 (vat3 + y10)) + 1)))))) :: bt 3 (.pt 120 0 :: Bo y14.2 :: bt 64 [])), [(120, .box [Ti y14.1.1, .v (.string y14.1.2.1), .v (.string y14.1.2.2.1), .v (.string y14.1.2.2.2.1), Ti y14.1.2.2.2.2.1, Ti y14.1.2.2.2.2.2.1, Ti y14.1.2.2.2.2.2.2]), (168, .arr 73 4 (l5.map c73))]⟩) ?_ ?_
      ·refine XR 1 ?_
       refine XC (s_impl_ParseCommand hy14) cf_impl_ParseCommand rfl rfl rfl ?_
       exact XE
      refine zX ?_
      refine V_e (mb 81 562949953457089) [120, 168] (s1 := ⟨.c (.v (.string vs1)) :: bt 5 (.ow 168 :: I many2 :: I vat3 :: I vn4 :: .bot :: .c (.v (.string (vs1.extract (Int.toNat vat3) (Int.toNat (w64 ((w64 (vat3 + y10)) + 1)))))) :: bt 3 (.pt 120 0 :: bt 33 (Bo (!y14.2) :: bt 31 []))), [(120, .box [Ti y14.1.1, .v (.string y14.1.2.1), .v (.string y14.1.2.2.1), .v (.string y14.1.2.2.2.1), Ti y14.1.2.2.2.2.1, Ti y14.1.2.2.2.2.2.1, Ti y14.1.2.2.2.2.2.2]), (168, .arr 73 4 (l5.map c73))]⟩) ?_
      refine zQ rfl (fun hc15 => ?_) (fun hc15 => ?_)
      ·have h := zM h hc15
       refine V_exit ?_
       obtain rfl := zE h
       show St.keep _ _ _ = _
       rfl
      ·have h := zK h hc15
       refine zV ?_
       show V _ _ _ _
       obtain ⟨y16, hy16, h⟩ := zD h
       refine zG (mb 81 428993) [120, 168] (s1 := ⟨.c (.v (.string vs1)) :: bt 5 (.ow 168 :: I many2 :: I vat3 :: I vn4 :: .bot :: .c (.v (.string (vs1.extract (Int.toNat vat3) (Int.toNat (w64 ((w64 (vat3 + y10)) + 1)))))) :: bt 3 (.pt 120 0 :: .bot :: .c (.v (.string y16.1)) :: I y16.2 :: bt 62 [])), [(120, .box [Ti y14.1.1, .v (.string y14.1.2.1), .v (.string y14.1.2.2.1), .v (.string y14.1.2.2.2.1), Ti y14.1.2.2.2.2.1, Ti y14.1.2.2.2.2.2.1, Ti y14.1.2.2.2.2.2.2]), (168, .arr 73 4 (l5.map c73))]⟩) ?_ ?_
       ·refine XR 2 ?_
        refine XC (s_impl_recordText hy16) cf_impl_recordText rfl rfl rfl ?_
        exact XE
       obtain ⟨y17, hy17, h⟩ := zD h
       refine zG (mb 81 1969089) [472, 168] (s1 := ⟨.c (.v (.string vs1)) :: bt 5 (.ow 168 :: I many2 :: I vat3 :: I vn4 :: .bot :: .c (.v (.string (vs1.extract (Int.toNat vat3) (Int.toNat (w64 ((w64 (vat3 + y10)) + 1)))))) :: bt 5 (.c (.v (.string y16.1)) :: I y16.2 :: .ow 472 :: I y17.2 :: bt 60 [])), [(472, .arr 73 4 (y17.1.map c73)), (168, .arr 73 4 (l5.map c73))]⟩) ?_ ?_
       ·refine XR 2 ?_
        refine L1 rfl rfl (Y1_callS (s_impl_runCommand hy17) cf_impl_runCommand rfl kk rfl (flatE_cons (fun _ => rfl) rfl)) ?_
        exact XE
       refine zX ?_
       obtain ⟨t19, ht19, h⟩ := zD h
       have ht19 := zE ht19
       refine zG (mb 81 295147905179353615297) [472, 168] (s1 := ⟨.c (.v (.string vs1)) :: bt 5 (.ow 168 :: I many2 :: I vat3 :: I vn4 :: .bot :: .c (.v (.string (vs1.extract (Int.toNat vat3) (Int.toNat (w64 ((w64 (vat3 + y10)) + 1)))))) :: bt 6 (I y16.2 :: .ow 472 :: bt 48 (Bo t19 :: bt 12 []))), [(472, .arr 73 4 (y17.1.map c73)), (168, .arr 73 4 (l5.map c73))]⟩) ?_ ?_
       ·refine XR 2 ?_
        refine L0 rfl rfl (Y0_nes (a := y16.1) (b := (vs1.extract (Int.toNat vat3) (Int.toNat (w64 ((w64 (vat3 + y10)) + 1))))) rfl kk kk) ?_
        refine XR 1 ?_
        refine zP (!(y16.1.toList == (vs1.extract (Int.toNat vat3) (Int.toNat (w64 ((w64 (vat3 + y10)) + 1)))).toList)) (fun hc18 => ?_) (fun hc18 => ?_)
        ·refine zL _ rfl rfl kk hc18 rfl ?_
         refine zL _ rfl rfl kk hc18 rfl ?_
         refine zJ rfl (zA rfl (zW (b := !(y16.1.toList == (vs1.extract (Int.toNat vat3) (Int.toNat (w64 ((w64 (vat3 + y10)) + 1)))).toList)) (p := true) (q := !eqI y17.2 0) rfl kk hc18 kk)) ?_
         refine zN ?_
         subst ht19
         kernel_rfl
        ·refine zB _ rfl rfl kk hc18 (zA rfl (zY (I y17.2) rfl kk)) ?_
         refine zB _ rfl rfl kk hc18 (zA rfl (Y0_new (k := .i64) (a := y17.2) (b := 0) rfl kk kk)) ?_
         refine zJ rfl (zA rfl (zT (b := !(y16.1.toList == (vs1.extract (Int.toNat vat3) (Int.toNat (w64 ((w64 (vat3 + y10)) + 1)))).toList)) (p := true) (q := !eqI y17.2 0) rfl kk hc18 kk)) ?_
         refine zN ?_
         subst ht19
         kernel_rfl
       refine zQ rfl (fun hc20 => ?_) (fun hc20 => ?_)
       ·have h := zM h hc20
        refine V_exit ?_
        obtain rfl := zE h
        show St.keep _ _ _ = _
        rfl
       ·have h := zK h hc20
        refine zV ?_
        show V _ _ _ _
        refine V_e (mb 81 3009) [472] (s1 := ⟨.c (.v (.string vs1)) :: bt 5 (.ow 472 :: I many2 :: I vat3 :: I y16.2 :: .bot :: .c (.v (.string (vs1.extract (Int.toNat vat3) (Int.toNat (w64 ((w64 (vat3 + y10)) + 1)))))) :: bt 69 []), [(472, .arr 73 4 (y17.1.map c73))]⟩) ?_
        obtain ⟨many21, hmany21, h⟩ := qF h
        refine zG (mb 81 3009) [472] (s1 := ⟨.c (.v (.string vs1)) :: bt 5 (.ow 472 :: I many21 :: I vat3 :: I y16.2 :: .bot :: .c (.v (.string (vs1.extract (Int.toNat vat3) (Int.toNat (w64 ((w64 (vat3 + y10)) + 1)))))) :: bt 69 []), [(472, .arr 73 4 (y17.1.map c73))]⟩) ?_ ?_
        ·refine XR 3 ?_
         refine zN ?_
         subst hmany21
         kernel_rfl
        obtain ⟨vat22, hvat22, h⟩ := qF h
        refine V_reg (mb 81 961) [472] (s1 := ⟨.c (.v (.string vs1)) :: bt 5 (.ow 472 :: I many21 :: I vat22 :: I y16.2 :: bt 71 []), [(472, .arr 73 4 (y17.1.map c73))]⟩) ?_ ?_
        ·refine XR 2 ?_
         refine L0 rfl rfl (Y0_lens (b := vs1.extract (Int.toNat vat3) (Int.toNat (w64 ((w64 (vat3 + y10)) + 1)))) Tryz.underlying9 rfl kk) ?_
         refine XR 2 ?_
         refine zN ?_
         subst hvat22
         kernel_rfl
        exact ⟨n, Nat.lt_succ_self n, _, _, _, _,  by rfl, h⟩
    ·have h := zK h hc8
     refine V_exit ?_
     obtain rfl := zE h
     show St.keep _ _ _ = _
     rfl
  show V _ _ _ _
  refine V_e (mb 81 60) [168] (s1 := ⟨.bot :: .bot :: .ow 168 :: I o7.1 :: I o7.2.1 :: I o7.2.2.1 :: bt 75 [], [(168, .arr 73 4 (o7.2.2.2.map c73))]⟩) ?_
  refine zR ?_
  obtain rfl := zE h
  show Post _ _ _ _ _
  exact ⟨.inr rfl, rfl, rfl, rfl⟩
theorem cf_laws_szCommand : ∀ args w, (callFunc 20 args).run Tryz.prog w = .ok (.enter 20 args) w := zI Tryz.func20 kk kk
theorem s_laws_szCommand {a1 : (Int × ByteArray × ByteArray × ByteArray × ((Int × Int × Int)))} {left2 : Int} {r : Int} (h : r_laws_szCommand a1 left2 = some r) : z7 Tryz.prog 20 [.ag [Ti a1.1, .v (.string a1.2.1), .v (.string a1.2.2.1), .v (.string a1.2.2.2.1), Ti a1.2.2.2.2.1, Ti a1.2.2.2.2.2.1, Ti a1.2.2.2.2.2.2], I left2] (I r) [] := by
  refine zH (rs := [.t 4]) (vs := [.tmp 4]) Tryz.func20 rfl rfl (.cons rfl FitsL.nil) (by decide) 27 rfl ?_
  unfold r_laws_szCommand at h
  show V _ _ ⟨.ag [Ti a1.1, .v (.string a1.2.1), .v (.string a1.2.2.1), .v (.string a1.2.2.2.1), Ti a1.2.2.2.2.1, Ti a1.2.2.2.2.2.1, Ti a1.2.2.2.2.2.2] :: I left2 :: bt 25 [], []⟩ _
  refine V_e (mb 27 6) [16] (s1 := ⟨.bot :: I left2 :: .pt 16 0 :: bt 24 [], [(16, .box [Ti a1.1, .v (.string a1.2.1), .v (.string a1.2.2.1), .v (.string a1.2.2.2.1), Ti a1.2.2.2.2.1, Ti a1.2.2.2.2.2.1, Ti a1.2.2.2.2.2.2])]⟩) ?_
  obtain ⟨left3, hleft3, h⟩ := qF h
  refine zG (mb 27 6) [16] (s1 := ⟨.bot :: I left3 :: .pt 16 0 :: bt 24 [], [(16, .box [Ti a1.1, .v (.string a1.2.1), .v (.string a1.2.2.1), .v (.string a1.2.2.2.1), Ti a1.2.2.2.2.1, Ti a1.2.2.2.2.2.1, Ti a1.2.2.2.2.2.2])]⟩) ?_ ?_
  ·refine XR 3 ?_
   refine L0 rfl rfl (Y0_lens (b := a1.2.1) Tryz.underlying9 rfl kk) ?_
   refine XR 2 ?_
   refine zN ?_
   subst hleft3
   kernel_rfl
  refine zX ?_
  refine V_e (mb 27 2054) [16] (s1 := ⟨.bot :: I left3 :: .pt 16 0 :: bt 8 (Bo (ltI left3 0) :: bt 15 []), [(16, .box [Ti a1.1, .v (.string a1.2.1), .v (.string a1.2.2.1), .v (.string a1.2.2.2.1), Ti a1.2.2.2.2.1, Ti a1.2.2.2.2.2.1, Ti a1.2.2.2.2.2.2])]⟩) ?_
  refine zQ rfl (fun hc4 => ?_) (fun hc4 => ?_)
  ·have h := zM h hc4
   refine V_e (mb 27 16) [] (s1 := ⟨bt 4 (I (-1) :: bt 22 []), []⟩) ?_
   refine zR ?_
   obtain rfl := zE h
   show Post _ _ _ _ _
   exact ⟨.inr rfl, rfl, rfl, rfl⟩
  ·have h := zK h hc4
   refine zV ?_
   show V _ _ _ _
   obtain ⟨left5, hleft5, h⟩ := qF h
   refine zG (mb 27 6) [16] (s1 := ⟨.bot :: I left5 :: .pt 16 0 :: bt 24 [], [(16, .box [Ti a1.1, .v (.string a1.2.1), .v (.string a1.2.2.1), .v (.string a1.2.2.2.1), Ti a1.2.2.2.2.1, Ti a1.2.2.2.2.2.1, Ti a1.2.2.2.2.2.2])]⟩) ?_ ?_
   ·refine XR 3 ?_
    refine L0 rfl rfl (Y0_lens (b := a1.2.2.1) Tryz.underlying9 rfl kk) ?_
    refine XR 2 ?_
    refine zN ?_
    subst hleft5
    kernel_rfl
   refine zX ?_
   refine V_e (mb 27 262150) [16] (s1 := ⟨.bot :: I left5 :: .pt 16 0 :: bt 15 (Bo (ltI left5 0) :: bt 8 []), [(16, .box [Ti a1.1, .v (.string a1.2.1), .v (.string a1.2.2.1), .v (.string a1.2.2.2.1), Ti a1.2.2.2.2.1, Ti a1.2.2.2.2.2.1, Ti a1.2.2.2.2.2.2])]⟩) ?_
   refine zQ rfl (fun hc6 => ?_) (fun hc6 => ?_)
   ·have h := zM h hc6
    refine V_e (mb 27 16) [] (s1 := ⟨bt 4 (I (-1) :: bt 22 []), []⟩) ?_
    refine zR ?_
    obtain rfl := zE h
    show Post _ _ _ _ _
    exact ⟨.inr rfl, rfl, rfl, rfl⟩
   ·have h := zK h hc6
    refine zV ?_
    show V _ _ _ _
    obtain ⟨left7, hleft7, h⟩ := qF h
    refine zG (mb 27 2) [] (s1 := ⟨.bot :: I left7 :: bt 25 [], []⟩) ?_ ?_
    ·refine XR 3 ?_
     refine L0 rfl rfl (Y0_lens (b := a1.2.2.2.1) Tryz.underlying9 rfl kk) ?_
     refine XR 2 ?_
     refine zN ?_
     subst hleft7
     kernel_rfl
    refine zX ?_
    refine V_e (mb 27 33554434) [] (s1 := ⟨.bot :: I left7 :: bt 23 (Bo (ltI left7 0) :: .bot :: []), []⟩) ?_
    refine zQ rfl (fun hc8 => ?_) (fun hc8 => ?_)
    ·have h := zM h hc8
     refine V_e (mb 27 16) [] (s1 := ⟨bt 4 (I (-1) :: bt 22 []), []⟩) ?_
     refine zR ?_
     obtain rfl := zE h
     show Post _ _ _ _ _
     exact ⟨.inr rfl, rfl, rfl, rfl⟩
    ·have h := zK h hc8
     refine zV ?_
     show V _ _ _ _
     refine V_e (mb 27 16) [] (s1 := ⟨bt 4 (I left7 :: bt 22 []), []⟩) ?_
     refine zR ?_
     obtain rfl := zE h
     show Post _ _ _ _ _
     exact ⟨.inr rfl, rfl, rfl, rfl⟩
theorem cf_laws_toForm : ∀ args w, (callFunc 52 args).run Tryz.prog w = .ok (.enter 52 args) w := zI Tryz.func52 kk kk
theorem s_laws_toForm {a1 : (Int × Int × Int)} {r : (Int × Int × Int)} (h : r_laws_toForm a1 = some r) : z7 Tryz.prog 52 [.ag [Ti a1.1, Ti a1.2.1, Ti a1.2.2]] (.ag [Ti r.1, Ti r.2.1, Ti r.2.2]) [] := by
  refine zH (rs := [.w 2 3]) (vs := [.cell 2 38]) Tryz.func52 rfl rfl (.cons ⟨rfl, wd38⟩ FitsL.nil) (by decide) 14 rfl ?_
  unfold r_laws_toForm at h
  show V _ _ ⟨.ag [Ti a1.1, Ti a1.2.1, Ti a1.2.2] :: bt 13 [], []⟩ _
  refine V_e (mb 14 6) [16, 8] (s1 := ⟨.bot :: .pt 8 0 :: .pt 16 0 :: bt 11 [], [(16, .box [Ti 0, Ti 0, Ti 0]), (8, .box [Ti a1.1, Ti a1.2.1, Ti a1.2.2])]⟩) ?_
  refine V_e (mb 14 14) [24, 16, 8] (s1 := ⟨.bot :: .pt 8 0 :: .pt 16 0 :: .pt 24 0 :: bt 10 [], [(24, .box [Ti 0, Ti 0, Ti 0]), (16, .box [Ti 0, Ti 0, Ti 0]), (8, .box [Ti a1.1, Ti a1.2.1, Ti a1.2.2])]⟩) ?_
  refine V_e (mb 14 14) [24, 16, 8] (s1 := ⟨.bot :: .pt 8 0 :: .pt 16 0 :: .pt 24 0 :: bt 10 [], [(24, .box [Ti a1.1, Ti 0, Ti 0]), (16, .box [Ti 0, Ti 0, Ti 0]), (8, .box [Ti a1.1, Ti a1.2.1, Ti a1.2.2])]⟩) ?_
  refine V_e (mb 14 14) [24, 16, 8] (s1 := ⟨.bot :: .pt 8 0 :: .pt 16 0 :: .pt 24 0 :: bt 10 [], [(24, .box [Ti a1.1, Ti a1.2.1, Ti 0]), (16, .box [Ti 0, Ti 0, Ti 0]), (8, .box [Ti a1.1, Ti a1.2.1, Ti a1.2.2])]⟩) ?_
  refine V_e (mb 14 12) [24, 16] (s1 := ⟨.bot :: .bot :: .pt 16 0 :: .pt 24 0 :: bt 10 [], [(24, .box [Ti a1.1, Ti a1.2.1, Ti a1.2.2]), (16, .box [Ti 0, Ti 0, Ti 0])]⟩) ?_
  refine V_e (mb 14 4) [16] (s1 := ⟨.bot :: .bot :: .pt 16 0 :: bt 11 [], [(16, .box [Ti a1.1, Ti a1.2.1, Ti a1.2.2])]⟩) ?_
  refine zR ?_
  obtain rfl := zE h
  show Post _ _ _ _ _
  exact ⟨.inr rfl, rfl, rfl, rfl⟩
theorem cf_laws_toCommand : ∀ args w, (callFunc 22 args).run Tryz.prog w = .ok (.enter 22 args) w := zI Tryz.func22 kk kk
theorem s_laws_toCommand {a1 : (Int × ByteArray × ByteArray × ByteArray × ((Int × Int × Int)))} {r : (Int × ByteArray × ByteArray × ByteArray × ((Int × Int × Int)))} (h : r_laws_toCommand a1 = some r) : z7 Tryz.prog 22 [.ag [Ti a1.1, .v (.string a1.2.1), .v (.string a1.2.2.1), .v (.string a1.2.2.2.1), Ti a1.2.2.2.2.1, Ti a1.2.2.2.2.2.1, Ti a1.2.2.2.2.2.2]] (.ag [Ti r.1, .v (.string r.2.1), .v (.string r.2.2.1), .v (.string r.2.2.2.1), Ti r.2.2.2.2.1, Ti r.2.2.2.2.2.1, Ti r.2.2.2.2.2.2]) [] := by
  refine zH (rs := [.w 2 7]) (vs := [.cell 2 40]) Tryz.func22 rfl rfl (.cons ⟨rfl, wd40⟩ FitsL.nil) (by decide) 21 rfl ?_
  unfold r_laws_toCommand at h
  show V _ _ ⟨.ag [Ti a1.1, .v (.string a1.2.1), .v (.string a1.2.2.1), .v (.string a1.2.2.2.1), Ti a1.2.2.2.2.1, Ti a1.2.2.2.2.2.1, Ti a1.2.2.2.2.2.2] :: bt 20 [], []⟩ _
  refine V_e (mb 21 6) [16, 8] (s1 := ⟨.bot :: .pt 8 0 :: .pt 16 0 :: bt 18 [], [(16, .box [Ti 0, .v (.string ByteArray.empty), .v (.string ByteArray.empty), .v (.string ByteArray.empty), Ti 0, Ti 0, Ti 0]), (8, .box [Ti a1.1, .v (.string a1.2.1), .v (.string a1.2.2.1), .v (.string a1.2.2.2.1), Ti a1.2.2.2.2.1, Ti a1.2.2.2.2.2.1, Ti a1.2.2.2.2.2.2])]⟩) ?_
  refine V_e (mb 21 14) [24, 16, 8] (s1 := ⟨.bot :: .pt 8 0 :: .pt 16 0 :: .pt 24 0 :: bt 17 [], [(24, .box [Ti 0, .v (.string ByteArray.empty), .v (.string ByteArray.empty), .v (.string ByteArray.empty), Ti 0, Ti 0, Ti 0]), (16, .box [Ti 0, .v (.string ByteArray.empty), .v (.string ByteArray.empty), .v (.string ByteArray.empty), Ti 0, Ti 0, Ti 0]), (8, .box [Ti a1.1, .v (.string a1.2.1), .v (.string a1.2.2.1), .v (.string a1.2.2.2.1), Ti a1.2.2.2.2.1, Ti a1.2.2.2.2.2.1, Ti a1.2.2.2.2.2.2])]⟩) ?_
  refine V_e (mb 21 14) [24, 16, 8] (s1 := ⟨.bot :: .pt 8 0 :: .pt 16 0 :: .pt 24 0 :: bt 17 [], [(24, .box [Ti a1.1, .v (.string ByteArray.empty), .v (.string ByteArray.empty), .v (.string ByteArray.empty), Ti 0, Ti 0, Ti 0]), (16, .box [Ti 0, .v (.string ByteArray.empty), .v (.string ByteArray.empty), .v (.string ByteArray.empty), Ti 0, Ti 0, Ti 0]), (8, .box [Ti a1.1, .v (.string a1.2.1), .v (.string a1.2.2.1), .v (.string a1.2.2.2.1), Ti a1.2.2.2.2.1, Ti a1.2.2.2.2.2.1, Ti a1.2.2.2.2.2.2])]⟩) ?_
  refine V_e (mb 21 14) [24, 16, 8] (s1 := ⟨.bot :: .pt 8 0 :: .pt 16 0 :: .pt 24 0 :: bt 17 [], [(24, .box [Ti a1.1, .v (.string a1.2.1), .v (.string ByteArray.empty), .v (.string ByteArray.empty), Ti 0, Ti 0, Ti 0]), (16, .box [Ti 0, .v (.string ByteArray.empty), .v (.string ByteArray.empty), .v (.string ByteArray.empty), Ti 0, Ti 0, Ti 0]), (8, .box [Ti a1.1, .v (.string a1.2.1), .v (.string a1.2.2.1), .v (.string a1.2.2.2.1), Ti a1.2.2.2.2.1, Ti a1.2.2.2.2.2.1, Ti a1.2.2.2.2.2.2])]⟩) ?_
  refine V_e (mb 21 14) [24, 16, 8] (s1 := ⟨.bot :: .pt 8 0 :: .pt 16 0 :: .pt 24 0 :: bt 17 [], [(24, .box [Ti a1.1, .v (.string a1.2.1), .v (.string a1.2.2.1), .v (.string ByteArray.empty), Ti 0, Ti 0, Ti 0]), (16, .box [Ti 0, .v (.string ByteArray.empty), .v (.string ByteArray.empty), .v (.string ByteArray.empty), Ti 0, Ti 0, Ti 0]), (8, .box [Ti a1.1, .v (.string a1.2.1), .v (.string a1.2.2.1), .v (.string a1.2.2.2.1), Ti a1.2.2.2.2.1, Ti a1.2.2.2.2.2.1, Ti a1.2.2.2.2.2.2])]⟩) ?_
  refine V_e (mb 21 14) [24, 16, 8] (s1 := ⟨.bot :: .pt 8 0 :: .pt 16 0 :: .pt 24 0 :: bt 17 [], [(24, .box [Ti a1.1, .v (.string a1.2.1), .v (.string a1.2.2.1), .v (.string a1.2.2.2.1), Ti 0, Ti 0, Ti 0]), (16, .box [Ti 0, .v (.string ByteArray.empty), .v (.string ByteArray.empty), .v (.string ByteArray.empty), Ti 0, Ti 0, Ti 0]), (8, .box [Ti a1.1, .v (.string a1.2.1), .v (.string a1.2.2.1), .v (.string a1.2.2.2.1), Ti a1.2.2.2.2.1, Ti a1.2.2.2.2.2.1, Ti a1.2.2.2.2.2.2])]⟩) ?_
  obtain ⟨y2, hy2, h⟩ := zD h
  refine zG (mb 21 12) [24, 16] (s1 := ⟨.bot :: .bot :: .pt 16 0 :: .pt 24 0 :: bt 17 [], [(24, .box [Ti a1.1, .v (.string a1.2.1), .v (.string a1.2.2.1), .v (.string a1.2.2.2.1), Ti y2.1, Ti y2.2.1, Ti y2.2.2]), (16, .box [Ti 0, .v (.string ByteArray.empty), .v (.string ByteArray.empty), .v (.string ByteArray.empty), Ti 0, Ti 0, Ti 0])]⟩) ?_ ?_
  ·refine XR 2 ?_
   refine XC (s_laws_toForm hy2) cf_laws_toForm rfl rfl rfl ?_
   exact XE
  refine V_e (mb 21 4) [16] (s1 := ⟨.bot :: .bot :: .pt 16 0 :: bt 18 [], [(16, .box [Ti a1.1, .v (.string a1.2.1), .v (.string a1.2.2.1), .v (.string a1.2.2.2.1), Ti y2.1, Ti y2.2.1, Ti y2.2.2])]⟩) ?_
  refine zR ?_
  obtain rfl := zE h
  show Post _ _ _ _ _
  exact ⟨.inr rfl, rfl, rfl, rfl⟩
theorem cf_spec_AppendCommand : ∀ args w, (callFunc 21 args).run Tryz.prog w = .ok (.enter 21 args) w := zI Tryz.func21 kk kk
theorem s_spec_AppendCommand {vs1 : ByteArray} {c2 : (Int × ByteArray × ByteArray × ByteArray × ((Int × Int × Int)))} {r : (ByteArray × Int)} (h : r_spec_AppendCommand vs1 c2 = some r) : z7 Tryz.prog 21 [.c (.v (.string vs1)), .ag [Ti c2.1, .v (.string c2.2.1), .v (.string c2.2.2.1), .v (.string c2.2.2.2.1), Ti c2.2.2.2.2.1, Ti c2.2.2.2.2.2.1, Ti c2.2.2.2.2.2.2]] (.tc (.c (.v (.string r.1))) (.tc (I r.2) .tn)) [] := by
  refine zH (rs := [.t 4, .t 5]) (vs := [.tmp 4, .tmp 5]) Tryz.func21 rfl rfl (.cons rfl (.cons rfl FitsL.nil)) (by decide) 47 rfl ?_
  unfold r_spec_AppendCommand at h
  show V _ _ ⟨.c (.v (.string vs1)) :: .ag [Ti c2.1, .v (.string c2.2.1), .v (.string c2.2.2.1), .v (.string c2.2.2.2.1), Ti c2.2.2.2.2.1, Ti c2.2.2.2.2.2.1, Ti c2.2.2.2.2.2.2] :: bt 45 [], []⟩ _
  refine V_e (mb 47 9) [24] (s1 := ⟨.c (.v (.string vs1)) :: .bot :: .bot :: .pt 24 0 :: bt 43 [], [(24, .box [Ti c2.1, .v (.string c2.2.1), .v (.string c2.2.2.1), .v (.string c2.2.2.2.1), Ti c2.2.2.2.2.1, Ti c2.2.2.2.2.2.1, Ti c2.2.2.2.2.2.2])]⟩) ?_
  refine zX ?_
  obtain ⟨y3, hy3, h⟩ := zD h
  refine zG (mb 47 524297) [24] (s1 := ⟨.c (.v (.string vs1)) :: .bot :: .bot :: .pt 24 0 :: bt 15 (Bo (bif (!y3) then true else (ltI 4000 ((vs1.size : Int)))) :: bt 27 []), [(24, .box [Ti c2.1, .v (.string c2.2.1), .v (.string c2.2.2.1), .v (.string c2.2.2.2.1), Ti c2.2.2.2.2.1, Ti c2.2.2.2.2.2.1, Ti c2.2.2.2.2.2.2])]⟩) ?_ ?_
  ·refine XR 1 ?_
   refine XC (s_spec_lgCommand hy3) cf_spec_lgCommand rfl rfl rfl ?_
   refine XR 2 ?_
   refine zP (!y3) (fun hc4 => ?_) (fun hc4 => ?_)
   ·refine zL _ rfl rfl kk hc4 rfl ?_
    refine zL _ rfl rfl kk hc4 rfl ?_
    refine zL _ rfl rfl kk hc4 rfl ?_
    refine zJ rfl (zA rfl (zW (b := !y3) (p := true) (q := ltI 4000 ((vs1.size : Int))) rfl kk hc4 kk)) ?_
    exact XE
   ·refine zB _ rfl rfl kk hc4 (zA rfl (zY (.c (.v (.string vs1))) rfl kk)) ?_
    refine zB _ rfl rfl kk hc4 (zA rfl (Y0_lens (b := vs1) Tryz.underlying9 rfl kk)) ?_
    refine zB _ rfl rfl kk hc4 (zA rfl (Y0_gtw (k := .i64) (a := (vs1.size : Int)) (b := 4000) rfl kk kk)) ?_
    refine zJ rfl (zA rfl (zT (b := !y3) (p := true) (q := ltI 4000 ((vs1.size : Int))) rfl kk hc4 kk)) ?_
    exact XE
  refine zQ rfl (fun hc5 => ?_) (fun hc5 => ?_)
  ·have h := zM h hc5
   refine V_e (mb 47 48) [] (s1 := ⟨bt 4 (.c (.v (.string ((⟨#[]⟩ : ByteArray)))) :: I 1 :: bt 41 []), []⟩) ?_
   refine zR ?_
   obtain rfl := zE h
   show Post _ _ _ _ _
   exact ⟨.inr rfl, rfl, rfl, rfl⟩
  ·have h := zK h hc5
   refine zV ?_
   show V _ _ _ _
   obtain ⟨y6, hy6, h⟩ := zD h
   refine zG (mb 47 969) [24] (s1 := ⟨.c (.v (.string vs1)) :: .bot :: .bot :: .pt 24 0 :: .bot :: .bot :: .c (.sl (y6.1.map c73)) :: I y6.2.1 :: I y6.2.2.1 :: I y6.2.2.2 :: bt 37 [], [(24, .box [Ti c2.1, .v (.string c2.2.1), .v (.string c2.2.2.1), .v (.string c2.2.2.2.1), Ti c2.2.2.2.2.1, Ti c2.2.2.2.2.2.1, Ti c2.2.2.2.2.2.2])]⟩) ?_ ?_
   ·refine XR 1 ?_
    refine XC (s_spec_lgReplay hy6) cf_spec_lgReplay rfl rfl rfl ?_
    exact XE
   refine zX ?_
   refine zG (mb 47 1073742537) [24] (s1 := ⟨.c (.v (.string vs1)) :: .bot :: .bot :: .pt 24 0 :: .bot :: .bot :: .c (.sl (y6.1.map c73)) :: I y6.2.1 :: .bot :: I y6.2.2.2 :: bt 20 (Bo (ltI y6.2.2.1 ((vs1.size : Int))) :: bt 16 []), [(24, .box [Ti c2.1, .v (.string c2.2.1), .v (.string c2.2.2.1), .v (.string c2.2.2.2.1), Ti c2.2.2.2.2.1, Ti c2.2.2.2.2.2.1, Ti c2.2.2.2.2.2.2])]⟩) ?_ ?_
   ·refine XR 2 ?_
    refine L0 rfl rfl (Y0_lens (b := vs1) Tryz.underlying9 rfl kk) ?_
    exact XE
   refine zQ rfl (fun hc7 => ?_) (fun hc7 => ?_)
   ·have h := zM h hc7
    refine V_e (mb 47 48) [] (s1 := ⟨bt 4 (.c (.v (.string ((⟨#[]⟩ : ByteArray)))) :: I 1 :: bt 41 []), []⟩) ?_
    refine zR ?_
    obtain rfl := zE h
    show Post _ _ _ _ _
    exact ⟨.inr rfl, rfl, rfl, rfl⟩
   ·have h := zK h hc7
    refine zV ?_
    show V _ _ _ _
    obtain ⟨y8, hy8, h⟩ := zD h
    refine zG (mb 47 2697) [24] (s1 := ⟨.c (.v (.string vs1)) :: .bot :: .bot :: .pt 24 0 :: bt 3 (I y6.2.1 :: .bot :: I y6.2.2.2 :: .bot :: I y8.2 :: bt 35 []), [(24, .box [Ti c2.1, .v (.string c2.2.1), .v (.string c2.2.2.1), .v (.string c2.2.2.2.1), Ti c2.2.2.2.2.1, Ti c2.2.2.2.2.2.1, Ti c2.2.2.2.2.2.2])]⟩) ?_ ?_
    ·refine XR 2 ?_
     refine XC (s_spec_lgRun hy8) cf_spec_lgRun rfl rfl rfl ?_
     exact XE
    refine zX ?_
    refine V_e (mb 47 274877909641) [24] (s1 := ⟨.c (.v (.string vs1)) :: .bot :: .bot :: .pt 24 0 :: bt 3 (I y6.2.1 :: .bot :: I y6.2.2.2 :: .bot :: I y8.2 :: bt 26 (Bo (!eqI y8.2 0) :: bt 8 [])), [(24, .box [Ti c2.1, .v (.string c2.2.1), .v (.string c2.2.2.1), .v (.string c2.2.2.2.1), Ti c2.2.2.2.2.1, Ti c2.2.2.2.2.2.1, Ti c2.2.2.2.2.2.2])]⟩) ?_
    refine zQ rfl (fun hc9 => ?_) (fun hc9 => ?_)
    ·have h := zM h hc9
     refine V_e (mb 47 48) [] (s1 := ⟨bt 4 (.c (.v (.string ((⟨#[]⟩ : ByteArray)))) :: I y8.2 :: bt 41 []), []⟩) ?_
     refine zR ?_
     obtain rfl := zE h
     show Post _ _ _ _ _
     exact ⟨.inr rfl, rfl, rfl, rfl⟩
    ·have h := zK h hc9
     refine zV ?_
     show V _ _ _ _
     refine zX ?_
     refine V_e (mb 47 2199023256073) [24] (s1 := ⟨.c (.v (.string vs1)) :: .bot :: .bot :: .pt 24 0 :: bt 5 (I y6.2.2.2 :: bt 31 (Bo (eqI y6.2.1 40) :: bt 5 [])), [(24, .box [Ti c2.1, .v (.string c2.2.1), .v (.string c2.2.2.1), .v (.string c2.2.2.2.1), Ti c2.2.2.2.2.1, Ti c2.2.2.2.2.2.1, Ti c2.2.2.2.2.2.2])]⟩) ?_
     refine zQ rfl (fun hc10 => ?_) (fun hc10 => ?_)
     ·have h := zM h hc10
      refine V_e (mb 47 48) [] (s1 := ⟨bt 4 (.c (.v (.string ((⟨#[]⟩ : ByteArray)))) :: I 5 :: bt 41 []), []⟩) ?_
      refine zR ?_
      obtain rfl := zE h
      show Post _ _ _ _ _
      exact ⟨.inr rfl, rfl, rfl, rfl⟩
     ·have h := zK h hc10
      refine zV ?_
      show V _ _ _ _
      obtain ⟨y11, hy11, h⟩ := zD h
      obtain ⟨u12, hu12, h⟩ := zD h
      refine zG (mb 47 48) [] (s1 := ⟨bt 4 (.c (.v (.string (vs1 ++ y11))) :: I 0 :: bt 41 []), []⟩) ?_ ?_
      ·refine XR 3 ?_
       refine XC (s_spec_lgRecord hy11) cf_spec_lgRecord rfl rfl rfl ?_
       refine L0 rfl rfl (Y0_cat (a := vs1) (b := y11) rfl kk kk (catR_some hu12)) ?_
       exact XE
      refine zR ?_
      obtain rfl := zE h
      show Post _ _ _ _ _
      exact ⟨.inr rfl, rfl, rfl, rfl⟩
theorem cf_impl_AppendCommand : ∀ args w, (callFunc 23 args).run Tryz.prog w = .ok (.enter 23 args) w := zI Tryz.func23 kk kk
theorem s_impl_AppendCommand {vs1 : ByteArray} {c2 : (Int × ByteArray × ByteArray × ByteArray × ((Int × Int × Int)))} {r : (ByteArray × Int)} (h : r_impl_AppendCommand vs1 c2 = some r) : z7 Tryz.prog 23 [.c (.v (.string vs1)), .ag [Ti c2.1, .v (.string c2.2.1), .v (.string c2.2.2.1), .v (.string c2.2.2.2.1), Ti c2.2.2.2.2.1, Ti c2.2.2.2.2.2.1, Ti c2.2.2.2.2.2.2]] (.tc (.c (.v (.string r.1))) (.tc (I r.2) .tn)) [] := by
  refine zH (rs := [.t 4, .t 5]) (vs := [.tmp 4, .tmp 5]) Tryz.func23 rfl rfl (.cons rfl (.cons rfl FitsL.nil)) (by decide) 53 rfl ?_
  unfold r_impl_AppendCommand at h
  show V _ _ ⟨.c (.v (.string vs1)) :: .ag [Ti c2.1, .v (.string c2.2.1), .v (.string c2.2.2.1), .v (.string c2.2.2.2.1), Ti c2.2.2.2.2.1, Ti c2.2.2.2.2.2.1, Ti c2.2.2.2.2.2.2] :: bt 51 [], []⟩ _
  refine V_e (mb 53 9) [24] (s1 := ⟨.c (.v (.string vs1)) :: .bot :: .bot :: .pt 24 0 :: bt 49 [], [(24, .box [Ti c2.1, .v (.string c2.2.1), .v (.string c2.2.2.1), .v (.string c2.2.2.2.1), Ti c2.2.2.2.2.1, Ti c2.2.2.2.2.2.1, Ti c2.2.2.2.2.2.2])]⟩) ?_
  refine zX ?_
  obtain ⟨y3, hy3, h⟩ := zD h
  refine zG (mb 53 2097161) [24] (s1 := ⟨.c (.v (.string vs1)) :: .bot :: .bot :: .pt 24 0 :: bt 17 (Bo (bif (!y3) then true else (ltI 4000 ((vs1.size : Int)))) :: bt 31 []), [(24, .box [Ti c2.1, .v (.string c2.2.1), .v (.string c2.2.2.1), .v (.string c2.2.2.2.1), Ti c2.2.2.2.2.1, Ti c2.2.2.2.2.2.1, Ti c2.2.2.2.2.2.2])]⟩) ?_ ?_
  ·refine XR 1 ?_
   refine XC (s_impl_isCommand hy3) cf_impl_isCommand rfl rfl rfl ?_
   refine XR 2 ?_
   refine zP (!y3) (fun hc4 => ?_) (fun hc4 => ?_)
   ·refine zL _ rfl rfl kk hc4 rfl ?_
    refine zL _ rfl rfl kk hc4 rfl ?_
    refine zL _ rfl rfl kk hc4 rfl ?_
    refine zJ rfl (zA rfl (zW (b := !y3) (p := true) (q := ltI 4000 ((vs1.size : Int))) rfl kk hc4 kk)) ?_
    exact XE
   ·refine zB _ rfl rfl kk hc4 (zA rfl (zY (.c (.v (.string vs1))) rfl kk)) ?_
    refine zB _ rfl rfl kk hc4 (zA rfl (Y0_lens (b := vs1) Tryz.underlying9 rfl kk)) ?_
    refine zB _ rfl rfl kk hc4 (zA rfl (Y0_gtw (k := .i64) (a := (vs1.size : Int)) (b := 4000) rfl kk kk)) ?_
    refine zJ rfl (zA rfl (zT (b := !y3) (p := true) (q := ltI 4000 ((vs1.size : Int))) rfl kk hc4 kk)) ?_
    exact XE
  refine zQ rfl (fun hc5 => ?_) (fun hc5 => ?_)
  ·have h := zM h hc5
   refine V_e (mb 53 48) [] (s1 := ⟨bt 4 (.c (.v (.string ((⟨#[]⟩ : ByteArray)))) :: I 1 :: bt 47 []), []⟩) ?_
   refine zR ?_
   obtain rfl := zE h
   show Post _ _ _ _ _
   exact ⟨.inr rfl, rfl, rfl, rfl⟩
  ·have h := zK h hc5
   refine zV ?_
   show V _ _ _ _
   obtain ⟨y6, hy6, h⟩ := zD h
   refine zG (mb 53 969) [192, 24] (s1 := ⟨.c (.v (.string vs1)) :: .bot :: .bot :: .pt 24 0 :: .bot :: .bot :: .ow 192 :: I y6.2.1 :: I y6.2.2.1 :: I y6.2.2.2 :: bt 43 [], [(192, .arr 73 4 (y6.1.map c73)), (24, .box [Ti c2.1, .v (.string c2.2.1), .v (.string c2.2.2.1), .v (.string c2.2.2.2.1), Ti c2.2.2.2.2.1, Ti c2.2.2.2.2.2.1, Ti c2.2.2.2.2.2.2])]⟩) ?_ ?_
   ·refine XR 1 ?_
    refine XC (s_impl_replay hy6) cf_impl_replay rfl rfl rfl ?_
    exact XE
   refine zX ?_
   refine zG (mb 53 4294968009) [192, 24] (s1 := ⟨.c (.v (.string vs1)) :: .bot :: .bot :: .pt 24 0 :: .bot :: .bot :: .ow 192 :: I y6.2.1 :: .bot :: I y6.2.2.2 :: bt 22 (Bo (ltI y6.2.2.1 ((vs1.size : Int))) :: bt 20 []), [(192, .arr 73 4 (y6.1.map c73)), (24, .box [Ti c2.1, .v (.string c2.2.1), .v (.string c2.2.2.1), .v (.string c2.2.2.2.1), Ti c2.2.2.2.2.1, Ti c2.2.2.2.2.2.1, Ti c2.2.2.2.2.2.2])]⟩) ?_ ?_
   ·refine XR 2 ?_
    refine L0 rfl rfl (Y0_lens (b := vs1) Tryz.underlying9 rfl kk) ?_
    exact XE
   refine zQ rfl (fun hc7 => ?_) (fun hc7 => ?_)
   ·have h := zM h hc7
    refine V_e (mb 53 48) [] (s1 := ⟨bt 4 (.c (.v (.string ((⟨#[]⟩ : ByteArray)))) :: I 1 :: bt 47 []), []⟩) ?_
    refine zR ?_
    obtain rfl := zE h
    show Post _ _ _ _ _
    exact ⟨.inr rfl, rfl, rfl, rfl⟩
   ·have h := zK h hc7
    refine zV ?_
    show V _ _ _ _
    refine zX ?_
    obtain ⟨y8, hy8, h⟩ := zD h
    refine zG (mb 53 2697) [24] (s1 := ⟨.c (.v (.string vs1)) :: .bot :: .bot :: .pt 24 0 :: bt 3 (I y6.2.1 :: .bot :: I y6.2.2.2 :: .bot :: I y8.2 :: bt 41 []), [(24, .box [Ti c2.1, .v (.string c2.2.1), .v (.string c2.2.2.1), .v (.string c2.2.2.2.1), Ti c2.2.2.2.2.1, Ti c2.2.2.2.2.2.1, Ti c2.2.2.2.2.2.2])]⟩) ?_ ?_
    ·refine XR 2 ?_
     refine L1 rfl rfl (Y1_callS (s_impl_runCommand hy8) cf_impl_runCommand rfl kk rfl (flatE_cons (fun _ => rfl) rfl)) ?_
     exact XE
    refine V_e (mb 53 1099511630473) [24] (s1 := ⟨.c (.v (.string vs1)) :: .bot :: .bot :: .pt 24 0 :: bt 3 (I y6.2.1 :: .bot :: I y6.2.2.2 :: .bot :: I y8.2 :: bt 28 (Bo (!eqI y8.2 0) :: bt 12 [])), [(24, .box [Ti c2.1, .v (.string c2.2.1), .v (.string c2.2.2.1), .v (.string c2.2.2.2.1), Ti c2.2.2.2.2.1, Ti c2.2.2.2.2.2.1, Ti c2.2.2.2.2.2.2])]⟩) ?_
    refine zQ rfl (fun hc9 => ?_) (fun hc9 => ?_)
    ·have h := zM h hc9
     refine V_e (mb 53 48) [] (s1 := ⟨bt 4 (.c (.v (.string ((⟨#[]⟩ : ByteArray)))) :: I y8.2 :: bt 47 []), []⟩) ?_
     refine zR ?_
     obtain rfl := zE h
     show Post _ _ _ _ _
     exact ⟨.inr rfl, rfl, rfl, rfl⟩
    ·have h := zK h hc9
     refine zV ?_
     show V _ _ _ _
     refine zX ?_
     refine V_e (mb 53 8796093022729) [24] (s1 := ⟨.c (.v (.string vs1)) :: .bot :: .bot :: .pt 24 0 :: bt 5 (I y6.2.2.2 :: bt 33 (Bo (eqI y6.2.1 40) :: bt 9 [])), [(24, .box [Ti c2.1, .v (.string c2.2.1), .v (.string c2.2.2.1), .v (.string c2.2.2.2.1), Ti c2.2.2.2.2.1, Ti c2.2.2.2.2.2.1, Ti c2.2.2.2.2.2.2])]⟩) ?_
     refine zQ rfl (fun hc10 => ?_) (fun hc10 => ?_)
     ·have h := zM h hc10
      refine V_e (mb 53 48) [] (s1 := ⟨bt 4 (.c (.v (.string ((⟨#[]⟩ : ByteArray)))) :: I 5 :: bt 47 []), []⟩) ?_
      refine zR ?_
      obtain rfl := zE h
      show Post _ _ _ _ _
      exact ⟨.inr rfl, rfl, rfl, rfl⟩
     ·have h := zK h hc10
      refine zV ?_
      show V _ _ _ _
      obtain ⟨y11, hy11, h⟩ := zD h
      refine zG (mb 53 4097) [] (s1 := ⟨.c (.v (.string vs1)) :: bt 11 (.c (.v (.string y11.1)) :: bt 40 []), []⟩) ?_ ?_
      ·refine XR 2 ?_
       refine XC (s_impl_recordText hy11) cf_impl_recordText rfl rfl rfl ?_
       exact XE
      obtain ⟨u12, hu12, h⟩ := zD h
      refine zG (mb 53 48) [] (s1 := ⟨bt 4 (.c (.v (.string (vs1 ++ y11.1))) :: I 0 :: bt 47 []), []⟩) ?_ ?_
      ·refine XR 2 ?_
       refine L0 rfl rfl (Y0_cat (a := vs1) (b := y11.1) rfl kk kk (catR_some hu12)) ?_
       exact XE
      refine zR ?_
      obtain rfl := zE h
      show Post _ _ _ _ _
      exact ⟨.inr rfl, rfl, rfl, rfl⟩
theorem s_laws_FnExactAppendCommand {aS1 : ByteArray} {aC2 : (Int × ByteArray × ByteArray × ByteArray × ((Int × Int × Int)))} {r : Bool} (h : r_laws_FnExactAppendCommand aS1 aC2 = some r) : z7 Tryz.prog 6 [.c (.v (.string aS1)), .ag [Ti aC2.1, .v (.string aC2.2.1), .v (.string aC2.2.2.1), .v (.string aC2.2.2.2.1), Ti aC2.2.2.2.2.1, Ti aC2.2.2.2.2.2.1, Ti aC2.2.2.2.2.2.2]] (Bo r) [] := by
  refine zH (rs := [.t 4]) (vs := [.tmp 4]) Tryz.func6 rfl rfl (.cons rfl FitsL.nil) (by decide) 40 rfl ?_
  unfold r_laws_FnExactAppendCommand at h
  show V _ _ ⟨.c (.v (.string aS1)) :: .ag [Ti aC2.1, .v (.string aC2.2.1), .v (.string aC2.2.2.1), .v (.string aC2.2.2.2.1), Ti aC2.2.2.2.2.1, Ti aC2.2.2.2.2.2.1, Ti aC2.2.2.2.2.2.2] :: bt 38 [], []⟩ _
  refine V_e (mb 40 9) [24] (s1 := ⟨.c (.v (.string aS1)) :: .bot :: .bot :: .pt 24 0 :: bt 36 [], [(24, .box [Ti aC2.1, .v (.string aC2.2.1), .v (.string aC2.2.2.1), .v (.string aC2.2.2.2.1), Ti aC2.2.2.2.2.1, Ti aC2.2.2.2.2.2.1, Ti aC2.2.2.2.2.2.2])]⟩) ?_
  refine zX ?_
  refine zG (mb 40 4105) [24] (s1 := ⟨.c (.v (.string aS1)) :: .bot :: .bot :: .pt 24 0 :: bt 8 (Bo (ltI 1048576 ((aS1.size : Int))) :: bt 27 []), [(24, .box [Ti aC2.1, .v (.string aC2.2.1), .v (.string aC2.2.2.1), .v (.string aC2.2.2.2.1), Ti aC2.2.2.2.2.1, Ti aC2.2.2.2.2.2.1, Ti aC2.2.2.2.2.2.2])]⟩) ?_ ?_
  ·refine XR 1 ?_
   refine L0 rfl rfl (Y0_lens (b := aS1) Tryz.underlying9 rfl kk) ?_
   exact XE
  refine zQ rfl (fun hc3 => ?_) (fun hc3 => ?_)
  ·have h := zM h hc3
   refine V_e (mb 40 16) [] (s1 := ⟨bt 4 (Bo true :: bt 35 []), []⟩) ?_
   refine zR ?_
   obtain rfl := zE h
   show Post _ _ _ _ _
   exact ⟨.inr rfl, rfl, rfl, rfl⟩
  ·have h := zK h hc3
   refine zV ?_
   show V _ _ _ _
   refine V_e (mb 40 41) [24] (s1 := ⟨.c (.v (.string aS1)) :: .bot :: .bot :: .pt 24 0 :: .bot :: I 1048576 :: bt 34 [], [(24, .box [Ti aC2.1, .v (.string aC2.2.1), .v (.string aC2.2.2.1), .v (.string aC2.2.2.2.1), Ti aC2.2.2.2.2.1, Ti aC2.2.2.2.2.2.1, Ti aC2.2.2.2.2.2.2])]⟩) ?_
   obtain ⟨y4, hy4, h⟩ := zD h
   refine zG (mb 40 41) [24] (s1 := ⟨.c (.v (.string aS1)) :: .bot :: .bot :: .pt 24 0 :: .bot :: I y4 :: bt 34 [], [(24, .box [Ti aC2.1, .v (.string aC2.2.1), .v (.string aC2.2.2.1), .v (.string aC2.2.2.2.1), Ti aC2.2.2.2.2.1, Ti aC2.2.2.2.2.2.1, Ti aC2.2.2.2.2.2.2])]⟩) ?_ ?_
   ·refine XR 2 ?_
    refine XC (s_laws_szCommand hy4) cf_laws_szCommand rfl rfl rfl ?_
    exact XE
   refine zX ?_
   refine V_e (mb 40 131081) [24] (s1 := ⟨.c (.v (.string aS1)) :: .bot :: .bot :: .pt 24 0 :: bt 13 (Bo (ltI y4 0) :: bt 22 []), [(24, .box [Ti aC2.1, .v (.string aC2.2.1), .v (.string aC2.2.2.1), .v (.string aC2.2.2.2.1), Ti aC2.2.2.2.2.1, Ti aC2.2.2.2.2.2.1, Ti aC2.2.2.2.2.2.2])]⟩) ?_
   refine zQ rfl (fun hc5 => ?_) (fun hc5 => ?_)
   ·have h := zM h hc5
    refine V_e (mb 40 16) [] (s1 := ⟨bt 4 (Bo true :: bt 35 []), []⟩) ?_
    refine zR ?_
    obtain rfl := zE h
    show Post _ _ _ _ _
    exact ⟨.inr rfl, rfl, rfl, rfl⟩
   ·have h := zK h hc5
    refine zV ?_
    show V _ _ _ _
    obtain ⟨y6, hy6, h⟩ := zD h
    obtain ⟨y7, hy7, h⟩ := zD h
    refine zG (mb 40 201) [24] (s1 := ⟨.c (.v (.string aS1)) :: .bot :: .bot :: .pt 24 0 :: .bot :: .bot :: .c (.v (.string y7.1)) :: I y7.2 :: bt 32 [], [(24, .box [Ti aC2.1, .v (.string aC2.2.1), .v (.string aC2.2.2.1), .v (.string aC2.2.2.2.1), Ti aC2.2.2.2.2.1, Ti aC2.2.2.2.2.2.1, Ti aC2.2.2.2.2.2.2])]⟩) ?_ ?_
    ·refine XR 2 ?_
     refine XC (s_laws_toCommand hy6) cf_laws_toCommand rfl rfl rfl ?_
     refine XC (s_spec_AppendCommand hy7) cf_spec_AppendCommand rfl rfl rfl ?_
     exact XE
    obtain ⟨y8, hy8, h⟩ := zD h
    obtain ⟨y9, hy9, h⟩ := zD h
    refine zG (mb 40 960) [] (s1 := ⟨bt 6 (.c (.v (.string y7.1)) :: I y7.2 :: .c (.v (.string y9.1)) :: I y9.2 :: bt 30 []), []⟩) ?_ ?_
    ·refine XR 2 ?_
     refine XC (s_laws_toCommand hy8) cf_laws_toCommand rfl rfl rfl ?_
     refine XC (s_impl_AppendCommand hy9) cf_impl_AppendCommand rfl rfl rfl ?_
     exact XE
    refine zX ?_
    obtain ⟨t11, ht11, h⟩ := zD h
    have ht11 := zE ht11
    refine zG (mb 40 549755813888) [] (s1 := ⟨bt 39 (Bo t11 :: []), []⟩) ?_ ?_
    ·refine XR 2 ?_
     refine L0 rfl rfl (Y0_nes (a := y9.1) (b := y7.1) rfl kk kk) ?_
     refine XR 1 ?_
     refine zP (!(y9.1.toList == y7.1.toList)) (fun hc10 => ?_) (fun hc10 => ?_)
     ·refine zL _ rfl rfl kk hc10 rfl ?_
      refine zL _ rfl rfl kk hc10 rfl ?_
      refine zL _ rfl rfl kk hc10 rfl ?_
      refine zJ rfl (zA rfl (zW (b := !(y9.1.toList == y7.1.toList)) (p := true) (q := !eqI y9.2 y7.2) rfl kk hc10 kk)) ?_
      refine zN ?_
      subst ht11
      kernel_rfl
     ·refine zB _ rfl rfl kk hc10 (zA rfl (zY (I y9.2) rfl kk)) ?_
      refine zB _ rfl rfl kk hc10 (zA rfl (zY (I y7.2) rfl kk)) ?_
      refine zB _ rfl rfl kk hc10 (zA rfl (Y0_new (k := .i64) (a := y9.2) (b := y7.2) rfl kk kk)) ?_
      refine zJ rfl (zA rfl (zT (b := !(y9.1.toList == y7.1.toList)) (p := true) (q := !eqI y9.2 y7.2) rfl kk hc10 kk)) ?_
      refine zN ?_
      subst ht11
      kernel_rfl
    refine zQ rfl (fun hc12 => ?_) (fun hc12 => ?_)
    ·have h := zM h hc12
     refine V_e (mb 40 16) [] (s1 := ⟨bt 4 (Bo false :: bt 35 []), []⟩) ?_
     refine zR ?_
     obtain rfl := zE h
     show Post _ _ _ _ _
     exact ⟨.inr rfl, rfl, rfl, rfl⟩
    ·have h := zK h hc12
     refine zV ?_
     show V _ _ _ _
     refine V_e (mb 40 16) [] (s1 := ⟨bt 4 (Bo true :: bt 35 []), []⟩) ?_
     refine zR ?_
     obtain rfl := zE h
     show Post _ _ _ _ _
     exact ⟨.inr rfl, rfl, rfl, rfl⟩
end Go.Proofs.YtfmjfofocklgpaaGreatDoor
