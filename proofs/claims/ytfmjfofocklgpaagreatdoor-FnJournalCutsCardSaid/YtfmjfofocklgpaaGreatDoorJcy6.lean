/-
  Rules of walks, plain functions and their laws, part 6.
  Conditions: none.
-/
import Derived.Test.YtfmjfofocklgpaaGreatDoorJcy5
namespace Go.Proofs.YtfmjfofocklgpaaGreatDoor
open Go.RowKit
set_option linter.unusedVariables false
set_option linter.unusedSimpArgs false
set_option maxRecDepth 100000
set_option maxHeartbeats 400000
theorem cf_impl_ParseCommand : CfW Tryz.prog 107 := cfW Tryz.func107
theorem s_impl_ParseCommand {vs1 : ByteArray} {r : (((Int × ByteArray × ByteArray × ByteArray × ((Int × Int × Int)))) × Bool)} (h : qL vs1 = some r) : zT Tryz.prog 107 [.c (.v (.string vs1))] (.tc (.ag [Ti r.1.1, .v (.string r.1.2.1), .v (.string r.1.2.2.1), .v (.string r.1.2.2.2.1), Ti r.1.2.2.2.2.1, Ti r.1.2.2.2.2.2.1, Ti r.1.2.2.2.2.2.2]) (.tc (Bo r.2) .tn)) [] := by
 refine zY (rs := [.w 2 7, .t 3]) (vs := [.cell 2 40, .tmp 3]) Tryz.func107 rfl rfl (.cons ⟨rfl, wd40⟩ (.cons rfl FitsL.nil)) (by decide) 68 rfl ?_
 unfold qL at h
 refine VE ?_
 obtain ⟨y2, hy2, h⟩ := zA h
 refine VS ?_
 refine YK 1 (s_strings_Split hy2) cf_strings_Split ?_
 refine YF ?_
 obtain ⟨l3, hl3, h⟩ := zA h
 have hl3 := zB hl3
 refine V_sregM (fun mb11 => ⟨.c (.v (.string vs1)) :: .bot :: .pt 16 0 :: .bot :: .ow 80 :: .c (.v (.map (some mb11))) :: bt 62 [], [(88, .mp mb11 (l3.map kv176)), (80, .arr 9 1 (y2.map c9)), (16, .box [Ti 0, .v (.string ByteArray.empty), .v (.string ByteArray.empty), .v (.string ByteArray.empty), Ti 0, Ti 0, Ti 0])]⟩) (mb 68 53) [88, 80, 16] ?_ ?_
 ·refine XL_mkmap rfl rfl rfl fun mb11 => ?_
  refine zM rfl (X_putM (κ := ByteArray) (ν := Int) (ek := ek176) (ev := ev176) (z := 0) (m := ([] : List ((ByteArray × Int)))) (a := (⟨#[97, 100, 100]⟩ : ByteArray)) (u := 1) (id := 88) (b := mb11) mo176 (.inr rfl) rfl kk kk kk kk) ?_
  refine zM rfl (X_putM (κ := ByteArray) (ν := Int) (ek := ek176) (ev := ev176) (z := 0) (m := mPut ((⟨#[97, 100, 100]⟩ : ByteArray)) 1 (([] : List ((ByteArray × Int))))) (a := (⟨#[100, 114, 111, 112]⟩ : ByteArray)) (u := 2) (id := 88) (b := mb11) mo176 (.inr rfl) rfl kk kk kk kk) ?_
  refine zM rfl (X_putM (κ := ByteArray) (ν := Int) (ek := ek176) (ev := ev176) (z := 0) (m := mPut ((⟨#[100, 114, 111, 112]⟩ : ByteArray)) 2 (mPut ((⟨#[97, 100, 100]⟩ : ByteArray)) 1 (([] : List ((ByteArray × Int)))))) (a := (⟨#[109, 117, 108]⟩ : ByteArray)) (u := 3) (id := 88) (b := mb11) mo176 (.inr rfl) rfl kk kk kk kk) ?_
  refine zM rfl (X_putM (κ := ByteArray) (ν := Int) (ek := ek176) (ev := ev176) (z := 0) (m := mPut ((⟨#[109, 117, 108]⟩ : ByteArray)) 3 (mPut ((⟨#[100, 114, 111, 112]⟩ : ByteArray)) 2 (mPut ((⟨#[97, 100, 100]⟩ : ByteArray)) 1 (([] : List ((ByteArray × Int))))))) (a := (⟨#[105, 110, 118]⟩ : ByteArray)) (u := 4) (id := 88) (b := mb11) mo176 (.inr rfl) rfl kk kk kk kk) ?_
  refine zM rfl (X_putM (κ := ByteArray) (ν := Int) (ek := ek176) (ev := ev176) (z := 0) (m := mPut ((⟨#[105, 110, 118]⟩ : ByteArray)) 4 (mPut ((⟨#[109, 117, 108]⟩ : ByteArray)) 3 (mPut ((⟨#[100, 114, 111, 112]⟩ : ByteArray)) 2 (mPut ((⟨#[97, 100, 100]⟩ : ByteArray)) 1 (([] : List ((ByteArray × Int)))))))) (a := (⟨#[109, 111, 118, 101]⟩ : ByteArray)) (u := 5) (id := 88) (b := mb11) mo176 (.inr rfl) rfl kk kk kk kk) ?_
  refine XR 2 ?_
  refine zK ?_
  subst hl3
  exact ⟨mb11, by kernel_rfl⟩
 intro mb11
 refine zJ ?_
 refine VS ?_
 refine YR 1 ?_
 refine L0 rfl rfl (qK (c := c9) (xs := y2) Tryz.underlying66 rfl kk) ?_
 refine YF ?_
 refine VC h (fun h => ?_) (fun h => ?_)
 ·refine VS ?_
  refine L0 rfl rfl (zW (cs := [Ti 0, .v (.string ByteArray.empty), .v (.string ByteArray.empty), .v (.string ByteArray.empty), Ti 0, Ti 0, Ti 0]) pl40 bt40 rfl rfl kk) ?_
  refine YF ?_
  cases h
  exact zE VT
 ·refine zG ?_
  show V _ _ _ _
  obtain ⟨e5, he5, h⟩ := zA h
  obtain ⟨e6, he6, h⟩ := zA h
  obtain ⟨e7, he7, h⟩ := zA h
  obtain ⟨e8, he8, h⟩ := zA h
  obtain ⟨f9, hf9, h⟩ := zS h
  refine zC1 [0, 0, 2, 6, 15, 0, 32, 96, 255, 0, 1023] 10 (cdm 10 [567464, 567298, 567302, 567318, 567381, 524970, 525994, 530090, 546133, 174762]) (mb 68 85) [48, 80, 16] (s1 := ⟨.c (.v (.string vs1)) :: .bot :: .pt 16 0 :: .bot :: .ow 80 :: .bot :: .pt 48 0 :: bt 61 [], [(48, .box [Ti f9, .v (.string e8), .v (.string ByteArray.empty), .v (.string ByteArray.empty), Ti 0, Ti 0, Ti 0]), (80, .arr 9 1 (y2.map c9)), (16, .box [Ti 0, .v (.string ByteArray.empty), .v (.string ByteArray.empty), .v (.string ByteArray.empty), Ti 0, Ti 0, Ti 0])]⟩) kk kk ?_ ?_
  ·refine DR 2 ?_
   refine DE_0 2 (.po 80 1 (Int.toNat (0)) 0) kk rfl rfl rfl (qO rfl) kk (zAV (c := c9) (xs := y2) (v := e5) (id := 80) (T := 9) (sz := 1) (n := 0) Tryz.underlying66 sz9 rfl kk kk kk he5) 19 rfl ?_
   refine DE_0 3 (.c (.v (.string e6))) kk rfl rfl rfl (qO rfl) kk (zA5 (c := c9) (xs := y2) (v := e6) (id := 80) (sz := 1) (T := 9) (off := 0) (n := 0) (d := .v (.string e6)) (ds := []) sc9 rfl kk kk he6 kk) 20 rfl ?_
   refine DE_0 4 (I (mAt e6 l3 0)) kk rfl rfl rfl (qO rfl) kk (Y0_lookM (κ := ByteArray) (ν := Int) (ek := ek176) (ev := ev176) (z := 0) (m := l3) (a := e6) (id := 88) (b := mb11) mo176 rfl kk kk kk) 21 rfl ?_
   refine DR 1 ?_
   refine DE_0 6 (.po 80 1 (Int.toNat (1)) 0) kk rfl rfl rfl (qO rfl) kk (zAV (c := c9) (xs := y2) (v := e7) (id := 80) (T := 9) (sz := 1) (n := 1) Tryz.underlying66 sz9 rfl kk kk kk he7) 23 rfl ?_
   refine DE_0 7 (.c (.v (.string e8))) kk rfl rfl rfl (qO rfl) kk (zA5 (c := c9) (xs := y2) (v := e8) (id := 80) (sz := 1) (T := 9) (off := 0) (n := 1) (d := .v (.string e8)) (ds := []) sc9 rfl kk kk he8 kk) 24 rfl ?_
   refine DE_0 8 (.ag [Ti (mAt e6 l3 0), .v (.string e8), .v (.string ByteArray.empty), .v (.string ByteArray.empty), Ti 0, Ti 0, Ti 0]) kk rfl rfl rfl (qO rfl) kk (zW (cs := [Ti (mAt e6 l3 0), .v (.string e8), .v (.string ByteArray.empty), .v (.string ByteArray.empty), Ti 0, Ti 0, Ti 0]) pl40 bt40 rfl rfl kk) 25 rfl ?_
   refine DA 1 ?_
   refine XR 1 ?_
   refine zK ?_
   subst hf9
   kernel_rfl
  refine zJ ?_
  obtain ⟨u10, hu10, h⟩ := zA h
  obtain ⟨t11, ht11, h⟩ := zS h
  refine zO (mb 68 939524165) [48, 16] (s1 := ⟨.c (.v (.string vs1)) :: .bot :: .pt 16 0 :: bt 3 (.pt 48 0 :: bt 20 (.c (.sl ((subl y2 2 ((y2.length : Int))).map c9)) :: I t11 :: I 0 :: bt 38 [])), [(48, .box [Ti f9, .v (.string e8), .v (.string ByteArray.empty), .v (.string ByteArray.empty), Ti 0, Ti 0, Ti 0]), (16, .box [Ti 0, .v (.string ByteArray.empty), .v (.string ByteArray.empty), .v (.string ByteArray.empty), Ti 0, Ti 0, Ti 0])]⟩) ?_ ?_
  ·refine XR 1 ?_
   refine zCh 80 (T := 9) (sz := 1) (els := y2.map c9) (s1 := ⟨.c (.v (.string vs1)) :: .bot :: .pt 16 0 :: .bot :: .c (.sl (y2.map c9)) :: .bot :: .pt 48 0 :: bt 19 (.c (.sl (y2.map c9)) :: bt 41 []), [(48, .box [Ti f9, .v (.string e8), .v (.string ByteArray.empty), .v (.string ByteArray.empty), Ti 0, Ti 0, Ti 0]), (16, .box [Ti 0, .v (.string ByteArray.empty), .v (.string ByteArray.empty), .v (.string ByteArray.empty), Ti 0, Ti 0, Ti 0])]⟩) kk kk ?_
   refine L0 rfl rfl (Y0_slice (c := c9) (xs := y2) (l := 2) (h := (y2.length : Int)) Tryz.underlying66 sz9 (fun _ => rfl) rfl kk (fun y hy => by cases hy; exact ⟨.i64, kk⟩) (fun hh => by cases hh) (fun y hy => by cases hy) (fun _ => rfl) (zB1 hu10)) ?_
   refine L0 rfl rfl (qK (c := c9) (xs := subl y2 2 ((y2.length : Int))) Tryz.underlying66 rfl kk) ?_
   refine XR 1 ?_
   refine zK ?_
   subst ht11
   kernel_rfl
  obtain ⟨o19, hLo19, h⟩ := zA h
  refine zCV (mb 68 69) [48, 16] (s1 := ⟨.c (.v (.string vs1)) :: .bot :: .pt 16 0 :: bt 3 (.pt 48 0 :: bt 61 []), [(48, .box [Ti f9, .v (.string e8), .v (.string o19.1), .v (.string o19.2.1), Ti o19.2.2.1, Ti o19.2.2.2.1, Ti o19.2.2.2.2]), (16, .box [Ti 0, .v (.string ByteArray.empty), .v (.string ByteArray.empty), .v (.string ByteArray.empty), Ti 0, Ti 0, Ti 0])]⟩) ?_ ?_
  ·clear h
   refine zN (jH (fun n s => ∃ (t12 : Int) (f13 : Int) (f14 : Int) (f15 : Int) (f16 : ByteArray) (f17 : ByteArray), s.keep (mb 68 939524165) [48, 16] = (⟨.c (.v (.string vs1)) :: .bot :: .pt 16 0 :: bt 3 (.pt 48 0 :: bt 20 (.c (.sl ((subl y2 2 ((y2.length : Int))).map c9)) :: I t11 :: I t12 :: bt 38 [])), [(48, .box [Ti f9, .v (.string e8), .v (.string f16), .v (.string f17), Ti f13, Ti f14, Ti f15]), (16, .box [Ti 0, .v (.string ByteArray.empty), .v (.string ByteArray.empty), .v (.string ByteArray.empty), Ti 0, Ti 0, Ti 0])]⟩ : St) ∧ zP e8 f9 t11 vs1 y2 n t12 f13 f14 f15 f16 f17 = some o19) FU ⟨_, _, _, _, _, _,  kk, hLo19⟩ ?_)
   clear hLo19
   rintro n s ⟨t12, f13, f14, f15, f16, f17, hs, h⟩
   refine jE _ _ hs ?_
   clear hs
   cases n with
   | zero => cases h
   | succ n =>
    rw [zP] at h
    refine VE ?_
    refine zJ ?_
    refine VC h (fun h => ?_) (fun h => ?_)
    ·refine zG ?_
     show V _ _ _ _
     refine zJ ?_
     refine zN ?_
     obtain ⟨e21, he21, h⟩ := zA h
     refine VS ?_
     refine L0 rfl rfl (zAn (c := c9) (xs := subl y2 2 ((y2.length : Int))) (v := e21) (n := t12) Tryz.underlying66 sz9 rfl kk kk he21) ?_
     refine YF ?_
     refine zN ?_
     refine zO (mb 68 35299262789) [48, 16] (s1 := ⟨.c (.v (.string vs1)) :: .bot :: .pt 16 0 :: bt 3 (.pt 48 0 :: .bot :: .c (.v (.string e21)) :: bt 18 (.c (.sl ((subl y2 2 ((y2.length : Int))).map c9)) :: I t11 :: I t12 :: bt 5 (Bo (bif (eqI f9 1) then true else (eqI f9 5)) :: bt 32 []))), [(48, .box [Ti f9, .v (.string e8), .v (.string f16), .v (.string f17), Ti f13, Ti f14, Ti f15]), (16, .box [Ti 0, .v (.string ByteArray.empty), .v (.string ByteArray.empty), .v (.string ByteArray.empty), Ti 0, Ti 0, Ti 0])]⟩) ?_ ?_
     ·refine YR 4 ?_
      refine zD (eqI f9 1) (fun hc22 => ?_) (fun hc22 => ?_)
      ·refine YQ hc22 ?_
       exact YE (by rw [hc22]; kernel_rfl)
      ·refine YQ hc22 ?_
       exact YE (by rw [hc22]; kernel_rfl)
     refine VC h (fun h => ?_) (fun h => ?_)
     ·obtain ⟨y24, hy24, h⟩ := zA h
      refine zX ?_
      refine YK 1 (s_impl_ParseForm hy24) cf_impl_ParseForm ?_
      refine YF ?_
      show V _ _ _ _
      obtain ⟨t25, ht25, h⟩ := zS h
      refine jD (mb 68 939524165) [48, 16] (s1 := ⟨.c (.v (.string vs1)) :: .bot :: .pt 16 0 :: bt 3 (.pt 48 0 :: bt 20 (.c (.sl ((subl y2 2 ((y2.length : Int))).map c9)) :: I t11 :: I t25 :: bt 38 [])), [(48, .box [Ti f9, .v (.string e8), .v (.string f16), .v (.string f17), Ti y24.1.1, Ti y24.1.2.1, Ti y24.1.2.2]), (16, .box [Ti 0, .v (.string ByteArray.empty), .v (.string ByteArray.empty), .v (.string ByteArray.empty), Ti 0, Ti 0, Ti 0])]⟩) ?_ ?_
      ·refine XR 2 ?_
       refine zK ?_
       subst ht25
       kernel_rfl
      exact ⟨n, Nat.lt_succ_self n, _, _, _, _, _, _,  kk, h⟩
     ·refine VS ?_
      refine YF ?_
      refine VC h (fun h => ?_) (fun h => ?_)
      ·refine zX ?_
       refine YF ?_
       show V _ _ _ _
       obtain ⟨t27, ht27, h⟩ := zS h
       refine jD (mb 68 939524165) [48, 16] (s1 := ⟨.c (.v (.string vs1)) :: .bot :: .pt 16 0 :: bt 3 (.pt 48 0 :: bt 20 (.c (.sl ((subl y2 2 ((y2.length : Int))).map c9)) :: I t11 :: I t27 :: bt 38 [])), [(48, .box [Ti f9, .v (.string e8), .v (.string e21), .v (.string f17), Ti f13, Ti f14, Ti f15]), (16, .box [Ti 0, .v (.string ByteArray.empty), .v (.string ByteArray.empty), .v (.string ByteArray.empty), Ti 0, Ti 0, Ti 0])]⟩) ?_ ?_
       ·refine XR 2 ?_
        refine zK ?_
        subst ht27
        kernel_rfl
       exact ⟨n, Nat.lt_succ_self n, _, _, _, _, _, _,  kk, h⟩
      ·refine zX ?_
       refine YF ?_
       show V _ _ _ _
       obtain ⟨t28, ht28, h⟩ := zS h
       refine jD (mb 68 939524165) [48, 16] (s1 := ⟨.c (.v (.string vs1)) :: .bot :: .pt 16 0 :: bt 3 (.pt 48 0 :: bt 20 (.c (.sl ((subl y2 2 ((y2.length : Int))).map c9)) :: I t11 :: I t28 :: bt 38 [])), [(48, .box [Ti f9, .v (.string e8), .v (.string f16), .v (.string e21), Ti f13, Ti f14, Ti f15]), (16, .box [Ti 0, .v (.string ByteArray.empty), .v (.string ByteArray.empty), .v (.string ByteArray.empty), Ti 0, Ti 0, Ti 0])]⟩) ?_ ?_
       ·refine XR 2 ?_
        refine zK ?_
        subst ht28
        kernel_rfl
       exact ⟨n, Nat.lt_succ_self n, _, _, _, _, _, _,  kk, h⟩
    ·refine jA ?_
     obtain rfl := zB h
     show St.keep _ _ _ = _
     kernel_rfl
  show V _ _ _ _
  refine zJ ?_
  obtain ⟨y29, hy29, h⟩ := zA h
  obtain ⟨b32, hb32, h⟩ := zA h
  refine zO (mb 68 36893488147419103300) [48, 16] (s1 := ⟨.bot :: .bot :: .pt 16 0 :: bt 3 (.pt 48 0 :: bt 58 (Bo b32 :: .bot :: .bot :: [])), [(48, .box [Ti f9, .v (.string e8), .v (.string o19.1), .v (.string o19.2.1), Ti o19.2.2.1, Ti o19.2.2.2.1, Ti o19.2.2.2.2]), (16, .box [Ti 0, .v (.string ByteArray.empty), .v (.string ByteArray.empty), .v (.string ByteArray.empty), Ti 0, Ti 0, Ti 0])]⟩) ?_ ?_
  ·refine YK 1 (s_impl_isCommand hy29) zER ?_
   refine YR 2 ?_
   refine zD (!y29) (fun hc30 => ?_) (fun hc30 => ?_)
   ·have hb32 := zB (qM hb32 hc30)
    refine YQ hc30 ?_
    exact YE (by rw [← hb32]; (try rw [hc30]); kernel_rfl)
   ·have hb32 := qB hb32 hc30
    obtain ⟨y31, hy31, hb32⟩ := zA hb32
    have hb32 := zB hb32
    refine YQ hc30 ?_
    refine YK 1 (s_impl_commandText hy31) cf_impl_commandText ?_
    exact YE (by rw [← hb32]; (try rw [hc30]); kernel_rfl)
  refine VC h (fun h => ?_) (fun h => ?_)
  ·refine VS ?_
   refine L0 rfl rfl (zW (cs := [Ti 0, .v (.string ByteArray.empty), .v (.string ByteArray.empty), .v (.string ByteArray.empty), Ti 0, Ti 0, Ti 0]) pl40 bt40 rfl rfl kk) ?_
   refine YF ?_
   cases h
   exact zE VT
  ·refine zG ?_
   show V _ _ _ _
   refine VE ?_
   cases h
   exact zE VT
theorem zES : CfW Tryz.prog 109 := cfW Tryz.func109
theorem s_impl_find {l1 : List ((ByteArray × ((Int × Int × Int))))} {name2 : ByteArray} {r : (((Int × Int × Int)) × Bool)} (h : zBN l1 name2 = some r) : zT Tryz.prog 109 [.c (.sl (l1.map c73)), .c (.v (.string name2))] (.tc (.ag [Ti r.1.1, Ti r.1.2.1, Ti r.1.2.2]) (.tc (Bo r.2) .tn)) [] := by
 refine zY (rs := [.w 4 3, .t 5]) (vs := [.cell 4 38, .tmp 5]) Tryz.func109 rfl rfl (.cons ⟨rfl, wd38⟩ (.cons rfl FitsL.nil)) (by decide) 22 rfl ?_
 unfold zBN at h
 refine VE ?_
 refine zJ ?_
 refine VS ?_
 refine YR 1 ?_
 refine L0 rfl rfl (qK (c := c73) (xs := l1) Tryz.underlying43 rfl kk) ?_
 refine YF ?_
 obtain ⟨qo5, hLo5, hko5⟩ := zA h
 refine zEX (q := qo5) (S := fun o5 => ⟨bt 4 (.pt 32 0 :: bt 17 []), [(32, .box [Ti 0, Ti 0, Ti 0])]⟩) (mb 22 16) [32] ?_ ?_
 ·refine zN (jH (fun n s => ∃ (t3 : Int), s.keep (mb 22 1810) [32] = (⟨.bot :: .c (.v (.string name2)) :: .bot :: .bot :: .pt 32 0 :: bt 3 (.c (.sl (l1.map c73)) :: I ((l1.length : Int)) :: I t3 :: bt 11 []), [(32, .box [Ti 0, Ti 0, Ti 0])]⟩ : St) ∧ zB4 l1 name2 n t3 = some qo5) FU ⟨_,  kk, hLo5⟩ ?_)
  clear hLo5
  rintro n s ⟨t3, hs, h⟩
  refine jE _ _ hs ?_
  clear hs
  cases n with
  | zero => cases h
  | succ n =>
   rw [zB4] at h
   refine VE ?_
   refine zJ ?_
   refine VC h (fun h => ?_) (fun h => ?_)
   ·refine zG ?_
    show V _ _ _ _
    refine zJ ?_
    refine zN ?_
    obtain ⟨e7, he7, h⟩ := zA h
    refine VS ?_
    refine L0 rfl rfl (zAn (c := c73) (xs := l1) (v := e7) (n := t3) Tryz.underlying43 sz73 rfl kk kk he7) ?_
    refine YF ?_
    refine VS ?_
    refine YF ?_
    refine VC h (fun h => ?_) (fun h => ?_)
    ·refine VE ?_
     refine zE ?_
     obtain rfl := zB h
     have h := hko5
     obtain rfl := zB h
     exact VT
    ·refine zG ?_
     show V _ _ _ _
     obtain ⟨t9, ht9, h⟩ := zS h
     refine jD (mb 22 1810) [32] (s1 := ⟨.bot :: .c (.v (.string name2)) :: .bot :: .bot :: .pt 32 0 :: bt 3 (.c (.sl (l1.map c73)) :: I ((l1.length : Int)) :: I t9 :: bt 11 []), [(32, .box [Ti 0, Ti 0, Ti 0])]⟩) ?_ ?_
     ·refine XR 2 ?_
      refine zK ?_
      subst ht9
      kernel_rfl
     exact ⟨n, Nat.lt_succ_self n, _,  kk, h⟩
   ·refine jA ?_
    obtain rfl := zB h
    exact ⟨_, rfl, kk⟩
 rintro o5 rfl
 have h := hko5
 clear hko5
 show V _ _ _ _
 refine VS ?_
 refine L0 rfl rfl (zW (cs := [Ti 0, Ti 0, Ti 0]) pl38 bt38 rfl rfl kk) ?_
 refine YF ?_
 cases h
 exact zE VT
theorem cf_impl_one : CfW Tryz.prog 247 := cfW Tryz.func247
theorem s_impl_one {r : (Int × Int × Int × Int)} (h : r_impl_one = some r) : zT Tryz.prog 247 [] (.ag [Ti r.1, Ti r.2.1, Ti r.2.2.1, Ti r.2.2.2]) [] := by
 refine zY (rs := [.w 0 4]) (vs := [.cell 0 109]) Tryz.func247 rfl rfl (.cons ⟨rfl, wd109⟩ FitsL.nil) (by decide) 2 rfl ?_
 unfold r_impl_one at h
 refine VE ?_
 refine VS ?_
 refine L0 rfl rfl (zW (cs := [Ti 1, Ti 0, Ti 0, Ti 1]) zEK bt109 rfl rfl kk) ?_
 refine YF ?_
 cases h
 exact zE VT
theorem cf_impl_Form_isNormal : CfW Tryz.prog 170 := cfW Tryz.func170
theorem s_impl_Form_isNormal {f1 : (Int × Int × Int)} {r : Bool} (h : qI f1 = some r) : zT Tryz.prog 170 [.ag [Ti f1.1, Ti f1.2.1, Ti f1.2.2]] (Bo r) [] := by
 refine CtW [2] Tryz.func170 rfl rfl 16 ?_
 unfold qI at h
 refine VE ?_
 obtain ⟨t3, ht3, h⟩ := zA h
 have ht3 := zB ht3
 refine zO (mb 16 4) [] (s1 := ⟨.bot :: .bot :: Bo t3 :: bt 13 [], []⟩) ?_ ?_
 ·refine YR 7 ?_
  refine zD (ltI (w64 (0 - f1.1)) f1.2.1) (fun hc2 => ?_) (fun hc2 => ?_)
  ·refine YQ hc2 ?_
   exact YE (by rw [← ht3]; (try rw [hc2]); kernel_rfl)
  ·refine YQ hc2 ?_
   exact YE (by rw [← ht3]; (try rw [hc2]); kernel_rfl)
 cases h
 exact zE VT
theorem zET : CfW Tryz.prog 78 := cfW Tryz.func78
theorem s_impl_Form_isReduced {f1 : (Int × Int × Int)} {r : Bool} (h : jF f1 = some r) : zT Tryz.prog 78 [.ag [Ti f1.1, Ti f1.2.1, Ti f1.2.2]] (Bo r) [] := by
 refine CtW [2] Tryz.func78 rfl rfl 24 ?_
 unfold jF at h
 refine VE ?_
 obtain ⟨y2, hy2, h⟩ := zA h
 obtain ⟨t6, ht6, h⟩ := zA h
 have ht6 := zB ht6
 refine zO (mb 24 4) [] (s1 := ⟨.bot :: .bot :: Bo t6 :: bt 21 [], []⟩) ?_ ?_
 ·refine YK 1 (s_impl_Form_isNormal hy2) cf_impl_Form_isNormal ?_
  refine YR 1 ?_
  refine zD y2 (fun hc3 => ?_) (fun hc3 => ?_)
  ·refine YQ hc3 ?_
   refine YR 6 ?_
   refine zD (ltI f1.1 f1.2.2) (fun hc4 => ?_) (fun hc4 => ?_)
   ·refine YQ hc4 ?_
    exact YE (by rw [← ht6]; (try rw [hc4]); (try rw [hc3]); kernel_rfl)
   ·refine YQ hc4 ?_
    refine YR 6 ?_
    refine zD (eqI f1.1 f1.2.2) (fun hc5 => ?_) (fun hc5 => ?_)
    ·refine YQ hc5 ?_
     exact YE (by rw [← ht6]; (try rw [hc4]); (try rw [hc5]); (try rw [hc3]); kernel_rfl)
    ·refine YQ hc5 ?_
     exact YE (by rw [← ht6]; (try rw [hc4]); (try rw [hc5]); (try rw [hc3]); kernel_rfl)
  ·refine YQ hc3 ?_
   exact YE (by rw [← ht6]; (try rw [hc3]); kernel_rfl)
 cases h
 exact zE VT
theorem zDx : CfW Tryz.prog 234 := cfW Tryz.func234
theorem s_impl_mod {a1 : Int} {vm2 : Int} {r : Int} (h : zBd a1 vm2 = some r) : zT Tryz.prog 234 [I a1, I vm2] (I r) [] := by
 refine CtW [4] Tryz.func234 rfl rfl 15 ?_
 unfold zBd at h
 refine VE ?_
 obtain ⟨z3, hz3, h⟩ := zA h
 obtain ⟨vr4, hvr4, h⟩ := zS h
 refine zO (mb 15 34) [] (s1 := ⟨.bot :: I vm2 :: bt 3 (I vr4 :: bt 9 []), []⟩) ?_ ?_
 ·refine XR 2 ?_
  refine L0 rfl rfl (Y0_rem (k := .i64) (a := a1) (b := vm2) rfl kk kk (jT hz3)) ?_
  refine XR 1 ?_
  refine zK ?_
  subst hvr4
  kernel_rfl
 refine zJ ?_
 refine VE ?_
 refine VC h (fun h => ?_) (fun h => ?_)
 ·obtain ⟨vr6, hvr6, h⟩ := zS h
  refine jD (mb 15 32) [] (s1 := ⟨bt 5 (I vr6 :: bt 9 []), []⟩) ?_ ?_
  ·refine XR 4 ?_
   refine zK ?_
   subst hvr6
   kernel_rfl
  show V _ _ _ _
  refine VE ?_
  cases h
  exact zE VT
 ·refine zG ?_
  show V _ _ _ _
  refine VE ?_
  cases h
  exact zE VT
theorem cf_impl_floorDiv : CfW Tryz.prog 281 := cfW Tryz.func281
theorem s_impl_floorDiv {a1 : Int} {vm2 : Int} {r : Int} (h : zAm a1 vm2 = some r) : zT Tryz.prog 281 [I a1, I vm2] (I r) [] := by
 refine CtW [4] Tryz.func281 rfl rfl 12 ?_
 unfold zAm at h
 refine VE ?_
 obtain ⟨y3, hy3, h⟩ := zA h
 obtain ⟨z4, hz4, h⟩ := zA h
 obtain ⟨t5, ht5, h⟩ := zS h
 refine zO (mb 12 16) [] (s1 := ⟨bt 4 (I t5 :: bt 7 []), []⟩) ?_ ?_
 ·refine XR 3 ?_
  refine XC (s_impl_mod hy3) zDx rfl rfl rfl ?_
  refine XR 2 ?_
  refine L0 rfl rfl (zAC (a := w64 (a1 - y3)) (b := vm2) rfl kk kk (jT hz4)) ?_
  refine XR 1 ?_
  refine zK ?_
  subst ht5
  kernel_rfl
 cases h
 exact zE VT
theorem cf_impl_Form_step : CfW Tryz.prog 248 := cfW Tryz.func248
theorem s_impl_Form_step {f1 : (Int × Int × Int)} {r : (Int × Int × Int × Int)} (h : qR f1 = some r) : zT Tryz.prog 248 [.ag [Ti f1.1, Ti f1.2.1, Ti f1.2.2]] (.ag [Ti r.1, Ti r.2.1, Ti r.2.2.1, Ti r.2.2.2]) [] := by
 refine zY (rs := [.w 2 4]) (vs := [.cell 2 109]) Tryz.func248 rfl rfl (.cons ⟨rfl, wd109⟩ FitsL.nil) (by decide) 22 rfl ?_
 unfold qR at h
 refine VE ?_
 refine zJ ?_
 refine zN ?_
 obtain ⟨y2, hy2, h⟩ := zA h
 refine VS ?_
 refine YK 1 (s_impl_Form_isReduced hy2) zET ?_
 refine YF ?_
 refine VC h (fun h => ?_) (fun h => ?_)
 ·obtain ⟨y4, hy4, h⟩ := zA h
  refine VS ?_
  refine YK 0 (s_impl_one hy4) cf_impl_one ?_
  refine YF ?_
  cases h
  exact zE VT
 ·obtain ⟨y5, hy5, h⟩ := zA h
  refine VS ?_
  refine YK 1 (s_impl_Form_isNormal hy5) cf_impl_Form_isNormal ?_
  refine YF ?_
  refine VC h (fun h => ?_) (fun h => ?_)
  ·obtain ⟨y7, hy7, h⟩ := zA h
   refine VS ?_
   refine YK 8 (s_impl_floorDiv hy7) cf_impl_floorDiv ?_
   refine L0 rfl rfl (zW (cs := [Ti 1, Ti y7, Ti 0, Ti 1]) zEK bt109 rfl rfl kk) ?_
   refine YF ?_
   cases h
   exact zE VT
  ·refine zG ?_
   show V _ _ _ _
   refine VS ?_
   refine L0 rfl rfl (zW (cs := [Ti 0, Ti (-1), Ti 1, Ti 0]) zEK bt109 rfl rfl kk) ?_
   refine YF ?_
   cases h
   exact zE VT
theorem cf_impl_Form_at : CfW Tryz.prog 79 := cfW Tryz.func79
theorem s_impl_Form_at {f1 : (Int × Int × Int)} {x2 : Int} {y3 : Int} {r : Int} (h : zAj f1 x2 y3 = some r) : zT Tryz.prog 79 [.ag [Ti f1.1, Ti f1.2.1, Ti f1.2.2], I x2, I y3] (I r) [] := by
 refine CtW [6] Tryz.func79 rfl rfl 27 ?_
 unfold zAj at h
 refine VE ?_
 obtain ⟨t4, ht4, h⟩ := zS h
 refine zO (mb 27 64) [] (s1 := ⟨bt 6 (I t4 :: bt 20 []), []⟩) ?_ ?_
 ·refine XR 21 ?_
  refine zK ?_
  subst ht4
  kernel_rfl
 cases h
 exact zE VT
theorem cf_impl_Form_polar : CfW Tryz.prog 233 := cfW Tryz.func233
theorem s_impl_Form_polar {f1 : (Int × Int × Int)} {x2 : Int} {y3 : Int} {u4 : Int} {v5 : Int} {r : Int} (h : zAd f1 x2 y3 u4 v5 = some r) : zT Tryz.prog 233 [.ag [Ti f1.1, Ti f1.2.1, Ti f1.2.2], I x2, I y3, I u4, I v5] (I r) [] := by
 refine CtW [10] Tryz.func233 rfl rfl 37 ?_
 unfold zAd at h
 refine VE ?_
 obtain ⟨t6, ht6, h⟩ := zS h
 refine zO (mb 37 1024) [] (s1 := ⟨bt 10 (I t6 :: bt 26 []), []⟩) ?_ ?_
 ·refine XR 27 ?_
  refine zK ?_
  subst ht6
  kernel_rfl
 cases h
 exact zE VT
theorem zCd : CfW Tryz.prog 168 := cfW Tryz.func168
theorem zCm {f1 : (Int × Int × Int)} {vm2 : (Int × Int × Int × Int)} {r : (Int × Int × Int)} (h : qC f1 vm2 = some r) : zT Tryz.prog 168 [.ag [Ti f1.1, Ti f1.2.1, Ti f1.2.2], .ag [Ti vm2.1, Ti vm2.2.1, Ti vm2.2.2.1, Ti vm2.2.2.2]] (.ag [Ti r.1, Ti r.2.1, Ti r.2.2]) [] := by
 refine zY (rs := [.w 4 3]) (vs := [.cell 4 38]) Tryz.func168 rfl rfl (.cons ⟨rfl, wd38⟩ FitsL.nil) (by decide) 28 rfl ?_
 unfold qC at h
 refine VE ?_
 obtain ⟨y3, hy3, h⟩ := zA h
 obtain ⟨y4, hy4, h⟩ := zA h
 obtain ⟨y5, hy5, h⟩ := zA h
 refine VDS [0, 0, 2, 0, 8, 31, 0, 0, 128, 0, 512, 0, 2048, 0, 8192, 32767, 0, 0, 131072, 0, 524288, 2097151, 4194303, 8388607] 23 (cdm 23 [2929883521704, 2929883521666, 2929883521670, 2929883521066, 2929883521130, 2929883521365, 2929883515562, 2929883359914, 2929883376298, 2929880902314, 2929881164458, 2929841580714, 2929845775018, 2929212435114, 2929279543978, 2929525609813, 2923441072810, 2760232315562, 2777412184746, 183251937962, 458129844906, 1466015503701, 5864062014805]) ?_
 refine EK 5 (s_impl_Form_at hy3) cf_impl_Form_at ?_
 refine EK 9 (s_impl_Form_polar hy4) cf_impl_Form_polar ?_
 refine EK 5 (s_impl_Form_at hy5) cf_impl_Form_at ?_
 refine E0 22 rfl rfl (zW (cs := [Ti y3, Ti y4, Ti y5]) pl38 bt38 rfl rfl kk) ?_
 refine EF 0 ?_
 cases h
 exact zE VT
theorem cf_impl_Matrix_times : CfW Tryz.prog 246 := cfW Tryz.func246
theorem s_impl_Matrix_times {vm1 : (Int × Int × Int × Int)} {vn2 : (Int × Int × Int × Int)} {r : (Int × Int × Int × Int)} (h : qE vm1 vn2 = some r) : zT Tryz.prog 246 [.ag [Ti vm1.1, Ti vm1.2.1, Ti vm1.2.2.1, Ti vm1.2.2.2], .ag [Ti vn2.1, Ti vn2.2.1, Ti vn2.2.2.1, Ti vn2.2.2.2]] (.ag [Ti r.1, Ti r.2.1, Ti r.2.2.1, Ti r.2.2.2]) [] := by
 refine zY (rs := [.w 4 4]) (vs := [.cell 4 109]) Tryz.func246 rfl rfl (.cons ⟨rfl, wd109⟩ FitsL.nil) (by decide) 50 rfl ?_
 unfold qE at h
 refine VE ?_
 obtain ⟨f3, hf3, h⟩ := zS h
 obtain ⟨f4, hf4, h⟩ := zS h
 obtain ⟨f5, hf5, h⟩ := zS h
 obtain ⟨f6, hf6, h⟩ := zS h
 refine zO (mb 50 16) [32] (s1 := ⟨bt 4 (.pt 32 0 :: bt 45 []), [(32, .box [Ti f3, Ti f4, Ti f5, Ti f6])]⟩) ?_ ?_
 ·refine XR 44 ?_
  refine L0 rfl rfl (zW (cs := [Ti (w64 ((w64 (vm1.1 * vn2.1)) + (w64 (vm1.2.1 * vn2.2.2.1)))), Ti (w64 ((w64 (vm1.1 * vn2.2.1)) + (w64 (vm1.2.1 * vn2.2.2.2)))), Ti (w64 ((w64 (vm1.2.2.1 * vn2.1)) + (w64 (vm1.2.2.2 * vn2.2.2.1)))), Ti (w64 ((w64 (vm1.2.2.1 * vn2.2.1)) + (w64 (vm1.2.2.2 * vn2.2.2.2))))]) zEK bt109 rfl rfl kk) ?_
  refine XR 1 ?_
  refine zK ?_
  subst hf3 hf4 hf5 hf6
  kernel_rfl
 cases h
 exact zE VT
theorem cf_impl_reduce : CfW Tryz.prog 193 := cfW Tryz.func193
theorem s_impl_reduce {f1 : (Int × Int × Int)} {r : (((Int × Int × Int)) × ((Int × Int × Int × Int)))} (h : zAi f1 = some r) : zT Tryz.prog 193 [.ag [Ti f1.1, Ti f1.2.1, Ti f1.2.2]] (.tc (.ag [Ti r.1.1, Ti r.1.2.1, Ti r.1.2.2]) (.tc (.ag [Ti r.2.1, Ti r.2.2.1, Ti r.2.2.2.1, Ti r.2.2.2.2]) .tn)) [] := by
 refine zY (rs := [.w 2 3, .w 3 4]) (vs := [.cell 2 38, .cell 3 109]) Tryz.func193 rfl rfl (.cons ⟨rfl, wd38⟩ (.cons ⟨rfl, wd109⟩ FitsL.nil)) (by decide) 20 rfl ?_
 unfold zAi at h
 refine VE ?_
 obtain ⟨y2, hy2, h⟩ := zA h
 refine VS ?_
 refine YK 0 (s_impl_one hy2) cf_impl_one ?_
 refine YF ?_
 refine zJ ?_
 obtain ⟨o11, hLo11, h⟩ := zA h
 refine zCV (mb 20 30) [32, 24, 16, 8] (s1 := ⟨.bot :: .pt 8 0 :: .pt 16 0 :: .pt 24 0 :: .pt 32 0 :: bt 15 [], [(32, .box [Ti o11.1, Ti o11.2.1, Ti o11.2.2.1, Ti o11.2.2.2.1]), (24, .box [Ti 0, Ti 0, Ti 0, Ti 0]), (16, .box [Ti 0, Ti 0, Ti 0]), (8, .box [Ti o11.2.2.2.2.1, Ti o11.2.2.2.2.2.1, Ti o11.2.2.2.2.2.2])]⟩) ?_ ?_
 ·clear h
  refine zN (jH (fun n s => ∃ (f3 : Int) (f4 : Int) (f5 : Int) (f6 : Int) (f7 : Int) (f8 : Int) (f9 : Int), s.keep (mb 20 30) [32, 24, 16, 8] = (⟨.bot :: .pt 8 0 :: .pt 16 0 :: .pt 24 0 :: .pt 32 0 :: bt 15 [], [(32, .box [Ti f3, Ti f4, Ti f5, Ti f6]), (24, .box [Ti 0, Ti 0, Ti 0, Ti 0]), (16, .box [Ti 0, Ti 0, Ti 0]), (8, .box [Ti f7, Ti f8, Ti f9])]⟩ : St) ∧ zAc n f3 f4 f5 f6 f7 f8 f9 = some o11) FU ⟨_, _, _, _, _, _, _,  kk, hLo11⟩ ?_)
  clear hLo11
  rintro n s ⟨f3, f4, f5, f6, f7, f8, f9, hs, h⟩
  refine jE _ _ hs ?_
  clear hs
  cases n with
  | zero => cases h
  | succ n =>
   rw [zAc] at h
   refine zJ ?_
   obtain ⟨y12, hy12, h⟩ := zA h
   refine VS ?_
   refine YK 1 (s_impl_Form_isReduced hy12) zET ?_
   refine YF ?_
   refine VC h (fun h => ?_) (fun h => ?_)
   ·refine zG ?_
    show V _ _ _ _
    refine zN ?_
    obtain ⟨y14, hy14, h⟩ := zA h
    refine VS ?_
    refine YK 1 (s_impl_Form_step hy14) cf_impl_Form_step ?_
    refine YF ?_
    obtain ⟨y15, hy15, h⟩ := zA h
    refine VS ?_
    refine YK 2 (zCm hy15) zCd ?_
    refine YF ?_
    obtain ⟨y16, hy16, h⟩ := zA h
    refine zX ?_
    refine YK 2 (s_impl_Matrix_times hy16) cf_impl_Matrix_times ?_
    refine YF ?_
    exact ⟨n, Nat.lt_succ_self n, _, _, _, _, _, _, _,  kk, h⟩
   ·refine jA ?_
    obtain rfl := zB h
    show St.keep _ _ _ = _
    kernel_rfl
 show V _ _ _ _
 refine VDS [0, 0, 1, 7] 3 [[.z, .b, .z], [.b, .z, .r 16], [.a, .b, .z]] ?_
 refine EF 3 ?_
 cases h
 exact zE VT
theorem zCA : CfW Tryz.prog 112 := cfW Tryz.func112
theorem zC4 {f1 : (Int × Int × Int)} {r : (Int × Int × Int)} (h : jR f1 = some r) : zT Tryz.prog 112 [.ag [Ti f1.1, Ti f1.2.1, Ti f1.2.2]] (.ag [Ti r.1, Ti r.2.1, Ti r.2.2]) [] := by
 refine zY (rs := [.w 2 3]) (vs := [.cell 2 38]) Tryz.func112 rfl rfl (.cons ⟨rfl, wd38⟩ FitsL.nil) (by decide) 11 rfl ?_
 unfold jR at h
 refine VE ?_
 obtain ⟨y2, hy2, h⟩ := zA h
 refine VS ?_
 refine YK 1 (s_impl_reduce hy2) cf_impl_reduce ?_
 refine YF ?_
 refine VE ?_
 cases h
 exact zE VT
theorem cf_impl_refusal : CfW Tryz.prog 108 := cfW Tryz.func108
theorem s_impl_refusal {l1 : List ((ByteArray × ((Int × Int × Int))))} {c2 : (Int × ByteArray × ByteArray × ByteArray × ((Int × Int × Int)))} {r : Int} (h : zEJ l1 c2 = some r) : zT Tryz.prog 108 [.c (.sl (l1.map c73)), .ag [Ti c2.1, .v (.string c2.2.1), .v (.string c2.2.2.1), .v (.string c2.2.2.2.1), Ti c2.2.2.2.2.1, Ti c2.2.2.2.2.2.1, Ti c2.2.2.2.2.2.2]] (I r) [] := by
 refine CtW [4] Tryz.func108 rfl rfl 95 ?_
 unfold zEJ at h
 refine VE ?_
 obtain ⟨y3, hy3, h⟩ := zA h
 refine VS ?_
 refine YK 3 (s_impl_find hy3) zES ?_
 refine YF ?_
 obtain ⟨y4, hy4, h⟩ := zA h
 refine VS ?_
 refine YK 3 (s_impl_find hy4) zES ?_
 refine YF ?_
 obtain ⟨y5, hy5, h⟩ := zA h
 refine VS ?_
 refine YK 3 (s_impl_find hy5) zES ?_
 refine YF ?_
 obtain ⟨puts8, hputs8, h⟩ := zA h
 have hputs8 := zB hputs8
 refine zO (mb 95 4072) [72, 56, 40, 24] (s1 := ⟨bt 3 (.pt 24 0 :: .bot :: .pt 40 0 :: Bo y3.2 :: .pt 56 0 :: Bo y4.2 :: .pt 72 0 :: Bo y5.2 :: Bo puts8 :: bt 83 []), [(72, .box [Ti y5.1.1, Ti y5.1.2.1, Ti y5.1.2.2]), (56, .box [Ti y4.1.1, Ti y4.1.2.1, Ti y4.1.2.2]), (40, .box [Ti y3.1.1, Ti y3.1.2.1, Ti y3.1.2.2]), (24, .box [Ti c2.1, .v (.string c2.2.1), .v (.string c2.2.2.1), .v (.string c2.2.2.2.1), Ti c2.2.2.2.2.1, Ti c2.2.2.2.2.2.1, Ti c2.2.2.2.2.2.2])]⟩) ?_ ?_
 ·refine XR 4 ?_
  refine zD (eqI c2.1 1) (fun hc6 => ?_) (fun hc6 => ?_)
  ·refine zEW _ rfl rfl kk hc6 rfl ?_
   refine zEW _ rfl rfl kk hc6 rfl ?_
   refine zEW _ rfl rfl kk hc6 rfl ?_
   refine zM rfl (qD rfl (Y0_pick1 (b := eqI c2.1 1) (p := true) (q := eqI c2.1 3) rfl kk hc6 kk)) ?_
   refine XR 1 ?_
   refine zD (bif (eqI c2.1 1) then true else (eqI c2.1 3)) (fun hc7 => ?_) (fun hc7 => ?_)
   ·refine zEW _ rfl rfl kk hc7 rfl ?_
    refine zEW _ rfl rfl kk hc7 rfl ?_
    refine zEW _ rfl rfl kk hc7 rfl ?_
    refine zM rfl (qD rfl (Y0_pick1 (b := bif (eqI c2.1 1) then true else (eqI c2.1 3)) (p := true) (q := eqI c2.1 4) rfl kk hc7 kk)) ?_
    refine XR 1 ?_
    refine zK ?_
    subst hputs8
    kernel_rfl
   ·refine zEV _ rfl rfl kk hc7 (qD rfl (E_field (.pt 24 0) Tryz.underlying40 rfl sz3 rfl kk (by intro hh; cases hh))) ?_
    refine zEV _ rfl rfl kk hc7 (qD rfl (Y0_load1 (c := Ti c2.1) (cs := [.v (.string c2.2.1), .v (.string c2.2.2.1), .v (.string c2.2.2.2.1), Ti c2.2.2.2.2.1, Ti c2.2.2.2.2.2.1, Ti c2.2.2.2.2.2.2]) sc3 rfl kk)) ?_
    refine zEV _ rfl rfl kk hc7 (qD rfl (Y0_eqw (k := .i64) (a := c2.1) (b := 4) rfl kk kk)) ?_
    refine zM rfl (qD rfl (Y0_pick0 (b := bif (eqI c2.1 1) then true else (eqI c2.1 3)) (p := true) (q := eqI c2.1 4) rfl kk hc7 kk)) ?_
    refine XR 1 ?_
    refine zK ?_
    subst hputs8
    kernel_rfl
  ·refine zEV _ rfl rfl kk hc6 (qD rfl (E_field (.pt 24 0) Tryz.underlying40 rfl sz3 rfl kk (by intro hh; cases hh))) ?_
   refine zEV _ rfl rfl kk hc6 (qD rfl (Y0_load1 (c := Ti c2.1) (cs := [.v (.string c2.2.1), .v (.string c2.2.2.1), .v (.string c2.2.2.2.1), Ti c2.2.2.2.2.1, Ti c2.2.2.2.2.2.1, Ti c2.2.2.2.2.2.2]) sc3 rfl kk)) ?_
   refine zEV _ rfl rfl kk hc6 (qD rfl (Y0_eqw (k := .i64) (a := c2.1) (b := 3) rfl kk kk)) ?_
   refine zM rfl (qD rfl (Y0_pick0 (b := eqI c2.1 1) (p := true) (q := eqI c2.1 3) rfl kk hc6 kk)) ?_
   refine XR 1 ?_
   refine zD (bif (eqI c2.1 1) then true else (eqI c2.1 3)) (fun hc7 => ?_) (fun hc7 => ?_)
   ·refine zEW _ rfl rfl kk hc7 rfl ?_
    refine zEW _ rfl rfl kk hc7 rfl ?_
    refine zEW _ rfl rfl kk hc7 rfl ?_
    refine zM rfl (qD rfl (Y0_pick1 (b := bif (eqI c2.1 1) then true else (eqI c2.1 3)) (p := true) (q := eqI c2.1 4) rfl kk hc7 kk)) ?_
    refine XR 1 ?_
    refine zK ?_
    subst hputs8
    kernel_rfl
   ·refine zEV _ rfl rfl kk hc7 (qD rfl (E_field (.pt 24 0) Tryz.underlying40 rfl sz3 rfl kk (by intro hh; cases hh))) ?_
    refine zEV _ rfl rfl kk hc7 (qD rfl (Y0_load1 (c := Ti c2.1) (cs := [.v (.string c2.2.1), .v (.string c2.2.2.1), .v (.string c2.2.2.2.1), Ti c2.2.2.2.2.1, Ti c2.2.2.2.2.2.1, Ti c2.2.2.2.2.2.2]) sc3 rfl kk)) ?_
    refine zEV _ rfl rfl kk hc7 (qD rfl (Y0_eqw (k := .i64) (a := c2.1) (b := 4) rfl kk kk)) ?_
    refine zM rfl (qD rfl (Y0_pick0 (b := bif (eqI c2.1 1) then true else (eqI c2.1 3)) (p := true) (q := eqI c2.1 4) rfl kk hc7 kk)) ?_
    refine XR 1 ?_
    refine zK ?_
    subst hputs8
    kernel_rfl
 refine zJ ?_
 refine zN ?_
 refine zO (mb 95 70368744181736) [72, 56, 40, 24] (s1 := ⟨bt 3 (.pt 24 0 :: .bot :: .pt 40 0 :: Bo y3.2 :: .pt 56 0 :: Bo y4.2 :: .pt 72 0 :: Bo y5.2 :: Bo puts8 :: bt 34 (Bo (bif puts8 then y3.2 else false) :: bt 48 [])), [(72, .box [Ti y5.1.1, Ti y5.1.2.1, Ti y5.1.2.2]), (56, .box [Ti y4.1.1, Ti y4.1.2.1, Ti y4.1.2.2]), (40, .box [Ti y3.1.1, Ti y3.1.2.1, Ti y3.1.2.2]), (24, .box [Ti c2.1, .v (.string c2.2.1), .v (.string c2.2.2.1), .v (.string c2.2.2.2.1), Ti c2.2.2.2.2.1, Ti c2.2.2.2.2.2.1, Ti c2.2.2.2.2.2.2])]⟩) ?_ ?_
 ·refine YR 2 ?_
  refine zD puts8 (fun hc9 => ?_) (fun hc9 => ?_)
  ·refine YQ hc9 ?_
   exact YE (by rw [hc9]; kernel_rfl)
  ·refine YQ hc9 ?_
   exact YE (by rw [hc9]; kernel_rfl)
 refine VC h (fun h => ?_) (fun h => ?_)
 ·refine VE ?_
  cases h
  exact zE VT
 ·obtain ⟨j11, hj11, h⟩ := zA h
  refine zCw (mb 95 2251799813685928) [72, 56, 40, 24] (s1 := ⟨bt 3 (.pt 24 0 :: .bot :: .pt 40 0 :: .bot :: .pt 56 0 :: .bot :: .pt 72 0 :: bt 41 (Bo j11 :: bt 43 [])), [(72, .box [Ti y5.1.1, Ti y5.1.2.1, Ti y5.1.2.2]), (56, .box [Ti y4.1.1, Ti y4.1.2.1, Ti y4.1.2.2]), (40, .box [Ti y3.1.1, Ti y3.1.2.1, Ti y3.1.2.2]), (24, .box [Ti c2.1, .v (.string c2.2.1), .v (.string c2.2.2.1), .v (.string c2.2.2.2.1), Ti c2.2.2.2.2.1, Ti c2.2.2.2.2.2.1, Ti c2.2.2.2.2.2.2])]⟩) ?_ ?_
  ·clear h
   have h := hj11
   clear hj11
   refine zO (mb 95 2251799813687208) [72, 56, 40, 24] (s1 := ⟨bt 3 (.pt 24 0 :: .bot :: .pt 40 0 :: .bot :: .pt 56 0 :: Bo y4.2 :: .pt 72 0 :: Bo y5.2 :: bt 40 (Bo (bif (!puts8) then (!y3.2) else false) :: bt 43 [])), [(72, .box [Ti y5.1.1, Ti y5.1.2.1, Ti y5.1.2.2]), (56, .box [Ti y4.1.1, Ti y4.1.2.1, Ti y4.1.2.2]), (40, .box [Ti y3.1.1, Ti y3.1.2.1, Ti y3.1.2.2]), (24, .box [Ti c2.1, .v (.string c2.2.1), .v (.string c2.2.2.1), .v (.string c2.2.2.2.1), Ti c2.2.2.2.2.1, Ti c2.2.2.2.2.2.1, Ti c2.2.2.2.2.2.2])]⟩) ?_ ?_
   ·refine YR 3 ?_
    refine zD (!puts8) (fun hc12 => ?_) (fun hc12 => ?_)
    ·refine YQ hc12 ?_
     exact YE (by rw [hc12]; kernel_rfl)
    ·refine YQ hc12 ?_
     exact YE (by rw [hc12]; kernel_rfl)
   refine VC h (fun h => ?_) (fun h => ?_)
   ·refine zG ?_
    obtain rfl := zB h
    show St.keep _ _ _ = _
    kernel_rfl
   ·obtain ⟨t15, ht15, h⟩ := zA h
    have ht15 := zB ht15
    refine zO (mb 95 2251799813686952) [72, 56, 40, 24] (s1 := ⟨bt 3 (.pt 24 0 :: .bot :: .pt 40 0 :: .bot :: .pt 56 0 :: .bot :: .pt 72 0 :: Bo y5.2 :: bt 40 (Bo t15 :: bt 43 [])), [(72, .box [Ti y5.1.1, Ti y5.1.2.1, Ti y5.1.2.2]), (56, .box [Ti y4.1.1, Ti y4.1.2.1, Ti y4.1.2.2]), (40, .box [Ti y3.1.1, Ti y3.1.2.1, Ti y3.1.2.2]), (24, .box [Ti c2.1, .v (.string c2.2.1), .v (.string c2.2.2.1), .v (.string c2.2.2.2.1), Ti c2.2.2.2.2.1, Ti c2.2.2.2.2.2.1, Ti c2.2.2.2.2.2.2])]⟩) ?_ ?_
    ·refine YR 4 ?_
     refine zD (!(c2.2.2.1.toList == ((⟨#[]⟩ : ByteArray)).toList)) (fun hc14 => ?_) (fun hc14 => ?_)
     ·refine YQ hc14 ?_
      exact YE (by rw [← ht15]; (try rw [hc14]); kernel_rfl)
     ·refine YQ hc14 ?_
      exact YE (by rw [← ht15]; (try rw [hc14]); kernel_rfl)
    refine VC h (fun h => ?_) (fun h => ?_)
    ·refine zG ?_
     obtain rfl := zB h
     show St.keep _ _ _ = _
     kernel_rfl
    ·obtain ⟨t18, ht18, h⟩ := zA h
     have ht18 := zB ht18
     refine jD (mb 95 2251799813685928) [72, 56, 40, 24] (s1 := ⟨bt 3 (.pt 24 0 :: .bot :: .pt 40 0 :: .bot :: .pt 56 0 :: .bot :: .pt 72 0 :: bt 41 (Bo t18 :: bt 43 [])), [(72, .box [Ti y5.1.1, Ti y5.1.2.1, Ti y5.1.2.2]), (56, .box [Ti y4.1.1, Ti y4.1.2.1, Ti y4.1.2.2]), (40, .box [Ti y3.1.1, Ti y3.1.2.1, Ti y3.1.2.2]), (24, .box [Ti c2.1, .v (.string c2.2.1), .v (.string c2.2.2.1), .v (.string c2.2.2.2.1), Ti c2.2.2.2.2.1, Ti c2.2.2.2.2.2.1, Ti c2.2.2.2.2.2.2])]⟩) ?_ ?_
     ·refine YR 4 ?_
      refine zD (!(c2.2.2.2.1.toList == ((⟨#[]⟩ : ByteArray)).toList)) (fun hc17 => ?_) (fun hc17 => ?_)
      ·refine YQ hc17 ?_
       exact YE (by rw [← ht18]; (try rw [hc17]); kernel_rfl)
      ·refine YQ hc17 ?_
       exact YE (by rw [← ht18]; (try rw [hc17]); kernel_rfl)
     obtain rfl := zB h
     show St.keep _ _ _ = _
     kernel_rfl
  refine VC h (fun h => ?_) (fun h => ?_)
  ·refine VE ?_
   cases h
   exact zE VT
  ·obtain ⟨b23, hb23, h⟩ := zA h
   refine zC1 [0, 1, 3, 7, 15, 31, 15, 127, 255, 511, 1023] 11 (cdm 11 [0, 1, 5, 21, 8277, 8533, 2645, 5461, 21845, 87381, 349525]) (mb 95 4722366482869645213736) [40, 24] (s1 := ⟨bt 3 (.pt 24 0 :: .bot :: .pt 40 0 :: bt 66 (Bo b23 :: bt 22 [])), [(40, .box [Ti y3.1.1, Ti y3.1.2.1, Ti y3.1.2.2]), (24, .box [Ti c2.1, .v (.string c2.2.1), .v (.string c2.2.2.1), .v (.string c2.2.2.2.1), Ti c2.2.2.2.2.1, Ti c2.2.2.2.2.2.1, Ti c2.2.2.2.2.2.2])]⟩) kk kk ?_ ?_
   ·refine ER 4 ?_
    refine zEY (eqI c2.1 3) (fun hc20 => ?_) (fun hc20 => ?_)
    ·have hb23 := qM hb23 hc20
     obtain ⟨y21, hy21, hb23⟩ := zA hb23
     obtain ⟨y22, hy22, hb23⟩ := zA hb23
     have hb23 := zB hb23
     refine EQ hc20 ?_
     refine EK 1 (zC5 hy21) zCO ?_
     refine EK 1 (zC5 hy22) zCO ?_
     refine EA 3 ?_
     exact YE (by rw [← hb23]; (try rw [hc20]); kernel_rfl)
    ·have hb23 := zB (qB hb23 hc20)
     refine EQ hc20 ?_
     refine EA 7 ?_
     exact YE (by rw [← hb23]; (try rw [hc20]); kernel_rfl)
   refine VC h (fun h => ?_) (fun h => ?_)
   ·refine VE ?_
    cases h
    exact zE VT
   ·obtain ⟨b28, hb28, h⟩ := zA h
    refine zC1 [0, 1, 3, 7, 15, 31, 15, 79, 255, 511, 1023, 2047] 12 (cdm 12 [0, 1, 5, 21, 41045, 41301, 2645, 6741, 21845, 87381, 349525, 1398101]) (mb 95 9671406556917033397649408) [] (s1 := ⟨bt 83 (Bo b28 :: bt 11 []), []⟩) kk kk ?_ ?_
    ·refine ER 4 ?_
     refine zEY (eqI c2.1 5) (fun hc25 => ?_) (fun hc25 => ?_)
     ·have hb28 := qM hb28 hc25
      obtain ⟨y26, hy26, hb28⟩ := zA hb28
      obtain ⟨y27, hy27, hb28⟩ := zA hb28
      have hb28 := zB hb28
      refine EQ hc25 ?_
      refine EK 1 (zC4 hy26) zCA ?_
      refine EK 2 (zC4 hy27) zCA ?_
      refine E0 9 rfl rfl (Y0_neg3 (a0 := y26.1) (b0 := y27.1) (a1 := y26.2.1) (b1 := y27.2.1) (a2 := y26.2.2) (b2 := y27.2.2) neg38 rfl kk kk) ?_
      refine EA 2 ?_
      exact YE (by rw [← hb28]; (try rw [hc25]); kernel_rfl)
     ·have hb28 := zB (qB hb28 hc25)
      refine EQ hc25 ?_
      refine EA 8 ?_
      exact YE (by rw [← hb28]; (try rw [hc25]); kernel_rfl)
    refine VC h (fun h => ?_) (fun h => ?_)
    ·refine VE ?_
     cases h
     exact zE VT
    ·refine zG ?_
     show V _ _ _ _
     refine VE ?_
     cases h
     exact zE VT
theorem cf_impl_withoutEntry : CfW Tryz.prog 110 := cfW Tryz.func110
theorem s_impl_withoutEntry {l1 : List ((ByteArray × ((Int × Int × Int))))} {name2 : ByteArray} {r : List ((ByteArray × ((Int × Int × Int))))} (h : zBH l1 name2 = some r) : zT Tryz.prog 110 [.c (.sl (l1.map c73)), .c (.v (.string name2))] (.ow 0) [(0, .arr 73 4 (r.map c73))] := by
 refine CtW [4] Tryz.func110 rfl rfl 25 ?_
 unfold zBH at h
 refine VS ?_
 refine L1 rfl rfl (zAU (e := 73) 4 (by decide) (.inl rfl)) ?_
 refine YF ?_
 refine VS ?_
 refine L1 rfl rfl (zBs Tryz.underlying43 sz73 (by decide) rfl rfl) ?_
 refine YF ?_
 refine zJ ?_
 refine VS ?_
 refine YR 1 ?_
 refine L0 rfl rfl (qK (c := c73) (xs := l1) Tryz.underlying43 rfl kk) ?_
 refine YF ?_
 obtain ⟨o6, hLo6, h⟩ := zA h
 refine zCV (mb 25 32) [64] (s1 := ⟨bt 5 (.ow 64 :: bt 19 []), [(64, .arr 73 4 (o6.map c73))]⟩) ?_ ?_
 ·clear h
  refine zN (jH (fun n s => ∃ (t3 : Int) (l4 : List ((ByteArray × ((Int × Int × Int))))), s.keep (mb 25 3618) [64] = (⟨.bot :: .c (.v (.string name2)) :: bt 3 (.ow 64 :: bt 3 (.c (.sl (l1.map c73)) :: I ((l1.length : Int)) :: I t3 :: bt 13 [])), [(64, .arr 73 4 (l4.map c73))]⟩ : St) ∧ jB l1 name2 n t3 l4 = some o6) FU ⟨_, _,  kk, hLo6⟩ ?_)
  clear hLo6
  rintro n s ⟨t3, l4, hs, h⟩
  refine jE _ _ hs ?_
  clear hs
  cases n with
  | zero => cases h
  | succ n =>
   rw [jB] at h
   refine VE ?_
   refine zJ ?_
   refine VC h (fun h => ?_) (fun h => ?_)
   ·refine zG ?_
    show V _ _ _ _
    refine zJ ?_
    refine zN ?_
    obtain ⟨e8, he8, h⟩ := zA h
    refine VS ?_
    refine L0 rfl rfl (zAn (c := c73) (xs := l1) (v := e8) (n := t3) Tryz.underlying43 sz73 rfl kk kk he8) ?_
    refine YF ?_
    refine VS ?_
    refine YF ?_
    refine VC h (fun h => ?_) (fun h => ?_)
    ·obtain ⟨u10, hu10, h⟩ := zA h
     refine zX ?_
     refine YR 2 ?_
     refine L1 rfl rfl (qP (z := zv73) (els := [e8].map c73) Tryz.underlying43 iz73 rfl (by decide) rfl kk rfl (by simp [c73]) (by decide) (by decide)) ?_
     refine zM rfl (zBJ (c := c73) (xs := l4) (ys := [e8]) (id := 64) (z := zv73) rfl rfl Tryz.underlying43 izb73 rfl kk kk kk (fun _ => rfl) (by simp) (zAY hu10) (by decide)) ?_
     refine YF ?_
     show V _ _ _ _
     obtain ⟨t11, ht11, h⟩ := zS h
     refine jD (mb 25 3618) [64] (s1 := ⟨.bot :: .c (.v (.string name2)) :: bt 3 (.ow 64 :: bt 3 (.c (.sl (l1.map c73)) :: I ((l1.length : Int)) :: I t11 :: bt 13 [])), [(64, .arr 73 4 ((l4 ++ ([e8])).map c73))]⟩) ?_ ?_
     ·refine XR 2 ?_
      refine zK ?_
      subst ht11
      kernel_rfl
     exact ⟨n, Nat.lt_succ_self n, _, _,  kk, h⟩
    ·refine zG ?_
     show V _ _ _ _
     obtain ⟨t12, ht12, h⟩ := zS h
     refine jD (mb 25 3618) [64] (s1 := ⟨.bot :: .c (.v (.string name2)) :: bt 3 (.ow 64 :: bt 3 (.c (.sl (l1.map c73)) :: I ((l1.length : Int)) :: I t12 :: bt 13 [])), [(64, .arr 73 4 (l4.map c73))]⟩) ?_ ?_
     ·refine XR 2 ?_
      refine zK ?_
      subst ht12
      kernel_rfl
     exact ⟨n, Nat.lt_succ_self n, _, _,  kk, h⟩
   ·refine jA ?_
    obtain rfl := zB h
    show St.keep _ _ _ = _
    kernel_rfl
 show V _ _ _ _
 refine VE ?_
 cases h
 exact zE VT
theorem cf_impl_firstPoint : CfW Tryz.prog 244 := cfW Tryz.func244
theorem s_impl_firstPoint {g1 : (Int × Int × Int)} {a2 : Int} {r : (Int × Int)} (h : zCH g1 a2 = some r) : zT Tryz.prog 244 [.ag [Ti g1.1, Ti g1.2.1, Ti g1.2.2], I a2] (.tc (I r.1) (.tc (I r.2) .tn)) [] := by
 refine CtW [4, 5] Tryz.func244 rfl rfl 43 ?_
 unfold zCH at h
 refine VE ?_
 refine VE ?_
 obtain ⟨qo5, hLo5, hko5⟩ := zA h
 refine zEX (q := qo5) (S := fun _ => (⟨[], []⟩ : St)) [] [] ?_ ?_
 ·refine zN (jH (fun n s => ∃ (size3 : Int), s.keep (mb 43 70) [16] = (⟨.bot :: I a2 :: .pt 16 0 :: bt 3 (I size3 :: bt 36 []), [(16, .box [Ti g1.1, Ti g1.2.1, Ti g1.2.2])]⟩ : St) ∧ jV a2 g1 n size3 = some qo5) FU ⟨_,  kk, hLo5⟩ ?_)
  clear hLo5
  rintro n s ⟨size3, hs, h⟩
  refine jE _ _ hs ?_
  clear hs
  cases n with
  | zero => cases h
  | succ n =>
   rw [jV] at h
   refine zJ ?_
   refine zN ?_
   refine VE ?_
   obtain ⟨qo8, hLo8, hko8⟩ := zA h
   refine zEX (q := qo8) (S := fun o8 => ⟨.bot :: I a2 :: .pt 16 0 :: bt 3 (I size3 :: bt 36 []), [(16, .box [Ti g1.1, Ti g1.2.1, Ti g1.2.2])]⟩) (mb 43 70) [16] ?_ ?_
   ·refine zN (jH (fun n s => ∃ (x6 : Int), s.keep (mb 43 198) [16] = (⟨.bot :: I a2 :: .pt 16 0 :: bt 3 (I size3 :: I x6 :: bt 35 []), [(16, .box [Ti g1.1, Ti g1.2.1, Ti g1.2.2])]⟩ : St) ∧ zAu a2 g1 size3 n x6 = some qo8) FU ⟨_,  kk, hLo8⟩ ?_)
    clear hLo8
    rintro n s ⟨x6, hs, h⟩
    refine jE _ _ hs ?_
    clear hs
    cases n with
    | zero => cases h
    | succ n =>
     rw [zAu] at h
     refine zJ ?_
     refine VE ?_
     refine VC h (fun h => ?_) (fun h => ?_)
     ·refine zG ?_
      show V _ _ _ _
      refine zJ ?_
      refine zN ?_
      refine VE ?_
      obtain ⟨qo12, hLo12, hko12⟩ := zA h
      refine zEX (q := qo12) (S := fun o12 => ⟨.bot :: I a2 :: .pt 16 0 :: bt 3 (I size3 :: I x6 :: bt 35 []), [(16, .box [Ti g1.1, Ti g1.2.1, Ti g1.2.2])]⟩) (mb 43 198) [16] ?_ ?_
      ·refine zN (jH (fun n s => ∃ (y10 : Int), s.keep (mb 43 454) [16] = (⟨.bot :: I a2 :: .pt 16 0 :: bt 3 (I size3 :: I x6 :: I y10 :: bt 34 []), [(16, .box [Ti g1.1, Ti g1.2.1, Ti g1.2.2])]⟩ : St) ∧ zAe a2 g1 size3 x6 n y10 = some qo12) FU ⟨_,  kk, hLo12⟩ ?_)
       clear hLo12
       rintro n s ⟨y10, hs, h⟩
       refine jE _ _ hs ?_
       clear hs
       cases n with
       | zero => cases h
       | succ n =>
        rw [zAe] at h
        refine zJ ?_
        refine VE ?_
        refine VC h (fun h => ?_) (fun h => ?_)
        ·refine zG ?_
         show V _ _ _ _
         refine zJ ?_
         refine zN ?_
         obtain ⟨b16, hb16, h⟩ := zA h
         obtain ⟨b20, hb20, h⟩ := zA h
         refine zO (mb 43 1099511628230) [16] (s1 := ⟨.bot :: I a2 :: .pt 16 0 :: bt 3 (I size3 :: I x6 :: I y10 :: bt 31 (Bo b20 :: .bot :: .bot :: [])), [(16, .box [Ti g1.1, Ti g1.2.1, Ti g1.2.2])]⟩) ?_ ?_
         ·refine YR 2 ?_
          refine L0 rfl rfl (Y0_max (a := x6) (b := y10) rfl kk kk) ?_
          refine YR 3 ?_
          refine zD (eqI (mxI x6 y10) size3) (fun hc14 => ?_) (fun hc14 => ?_)
          ·have hb16 := qM hb16 hc14
           obtain ⟨y15, hy15, hb16⟩ := zA hb16
           have hb16 := zB hb16
           refine YQ hc14 ?_
           refine YK 2 (s_impl_gcd hy15) cf_impl_gcd ?_
           refine YR 3 ?_
           refine zD b16 (fun hc17 => ?_) (fun hc17 => ?_)
           ·have hb20 := qM hb20 hc17
            obtain ⟨y18, hy18, hb20⟩ := zA hb20
            obtain ⟨y19, hy19, hb20⟩ := zA hb20
            have hb20 := zB hb20
            refine YQ hc17 ?_ (by rw [← hb16]; (try rw [← hb20]); (try rw [hc14]); kernel_rfl)
            refine YK 3 (s_impl_Form_at hy18) cf_impl_Form_at ?_
            refine YK 1 (s_impl_gcd hy19) cf_impl_gcd ?_
            exact YE (by rw [← hb20]; (try rw [hc14]); (try rw [hc17]); kernel_rfl)
           ·have hb20 := zB (qB hb20 hc17)
            refine YQ hc17 ?_ (by rw [← hb16]; (try rw [← hb20]); (try rw [hc14]); kernel_rfl)
            exact YE (by rw [← hb20]; (try rw [hc14]); (try rw [hc17]); kernel_rfl)
          ·have hb16 := zB (qB hb16 hc14)
           refine YQ hc14 ?_
           refine YR 6 ?_
           subst hb16
           have hc17 : false = false := rfl
           have hb20 := zB (qB hb20 hc17)
           exact YE (by rw [← hb20]; (try rw [hc14]); kernel_rfl)
         refine VC h (fun h => ?_) (fun h => ?_)
         ·refine VE ?_
          refine zE ?_
          obtain rfl := zB h
          have h := hko12
          obtain rfl := zB h
          have h := hko8
          obtain rfl := zB h
          have h := hko5
          obtain rfl := zB h
          exact VT
         ·refine zG ?_
          show V _ _ _ _
          obtain ⟨y22, hy22, h⟩ := zS h
          refine jD (mb 43 454) [16] (s1 := ⟨.bot :: I a2 :: .pt 16 0 :: bt 3 (I size3 :: I x6 :: I y22 :: bt 34 []), [(16, .box [Ti g1.1, Ti g1.2.1, Ti g1.2.2])]⟩) ?_ ?_
          ·refine XR 3 ?_
           refine zK ?_
           subst hy22
           kernel_rfl
          exact ⟨n, Nat.lt_succ_self n, _,  kk, h⟩
        ·refine jA ?_
         obtain rfl := zB h
         exact ⟨_, rfl, kk⟩
      rintro o12 rfl
      have h := hko12
      clear hko12
      show V _ _ _ _
      obtain ⟨x23, hx23, h⟩ := zS h
      refine jD (mb 43 198) [16] (s1 := ⟨.bot :: I a2 :: .pt 16 0 :: bt 3 (I size3 :: I x23 :: bt 35 []), [(16, .box [Ti g1.1, Ti g1.2.1, Ti g1.2.2])]⟩) ?_ ?_
      ·refine XR 3 ?_
       refine zK ?_
       subst hx23
       kernel_rfl
      exact ⟨n, Nat.lt_succ_self n, _,  kk, h⟩
     ·refine jA ?_
      obtain rfl := zB h
      exact ⟨_, rfl, kk⟩
   rintro o8 rfl
   have h := hko8
   clear hko8
   show V _ _ _ _
   obtain ⟨size24, hsize24, h⟩ := zS h
   refine jD (mb 43 70) [16] (s1 := ⟨.bot :: I a2 :: .pt 16 0 :: bt 3 (I size24 :: bt 36 []), [(16, .box [Ti g1.1, Ti g1.2.1, Ti g1.2.2])]⟩) ?_ ?_
   ·refine XR 3 ?_
    refine zK ?_
    subst hsize24
    kernel_rfl
   exact ⟨n, Nat.lt_succ_self n, _,  kk, h⟩
 rintro o5 rfl
 cases hko5
theorem cf_impl_inverse : CfW Tryz.prog 280 := cfW Tryz.func280
theorem s_impl_inverse {a1 : Int} {vm2 : Int} {r : Int} (h : zDR a1 vm2 = some r) : zT Tryz.prog 280 [I a1, I vm2] (I r) [] := by
 refine CtW [4] Tryz.func280 rfl rfl 34 ?_
 unfold zDR at h
 refine VE ?_
 refine VE ?_
 refine zJ ?_
 obtain ⟨y3, hy3, h⟩ := zA h
 refine VS ?_
 refine YK 2 (s_impl_mod hy3) zDx ?_
 refine YF ?_
 obtain ⟨o9, hLo9, h⟩ := zA h
 refine zCV (mb 34 34) [] (s1 := ⟨.bot :: I vm2 :: bt 3 (I o9 :: bt 28 []), []⟩) ?_ ?_
 ·clear h
  refine zN (jH (fun n s => ∃ (x4 : Int) (y5 : Int) (vr6 : Int) (vs7 : Int), s.keep (mb 34 482) [] = (⟨.bot :: I vm2 :: bt 3 (I x4 :: I y5 :: I vr6 :: I vs7 :: bt 25 []), []⟩ : St) ∧ zDL vm2 n x4 y5 vr6 vs7 = some o9) FU ⟨_, _, _, _,  kk, hLo9⟩ ?_)
  clear hLo9
  rintro n s ⟨x4, y5, vr6, vs7, hs, h⟩
  refine jE _ _ hs ?_
  clear hs
  cases n with
  | zero => cases h
  | succ n =>
   rw [zDL] at h
   refine zJ ?_
   refine VE ?_
   refine VC h (fun h => ?_) (fun h => ?_)
   ·refine zG ?_
    show V _ _ _ _
    refine zN ?_
    obtain ⟨z11, hz11, h⟩ := zA h
    obtain ⟨q12, hq12, h⟩ := zS h
    refine zO (mb 34 994) [] (s1 := ⟨.bot :: I vm2 :: bt 3 (I x4 :: I y5 :: I vr6 :: I vs7 :: I q12 :: bt 24 []), []⟩) ?_ ?_
    ·refine XR 2 ?_
     refine L0 rfl rfl (zAC (a := vr6) (b := vs7) rfl kk kk (jT hz11)) ?_
     refine XR 1 ?_
     refine zK ?_
     subst hq12
     kernel_rfl
    obtain ⟨vs13, hvs13, h⟩ := zS h
    refine zO (mb 34 994) [] (s1 := ⟨.bot :: I vm2 :: bt 3 (I x4 :: I y5 :: I vs7 :: I vs13 :: I q12 :: bt 24 []), []⟩) ?_ ?_
    ·refine XR 8 ?_
     refine zK ?_
     subst hvs13
     kernel_rfl
    obtain ⟨y14, hy14, h⟩ := zS h
    refine jD (mb 34 482) [] (s1 := ⟨.bot :: I vm2 :: bt 3 (I y5 :: I y14 :: I vs7 :: I vs13 :: bt 25 []), []⟩) ?_ ?_
    ·refine XR 8 ?_
     refine zK ?_
     subst hy14
     kernel_rfl
    exact ⟨n, Nat.lt_succ_self n, _, _, _, _,  kk, h⟩
   ·refine jA ?_
    obtain rfl := zB h
    show St.keep _ _ _ = _
    kernel_rfl
 show V _ _ _ _
 obtain ⟨y15, hy15, h⟩ := zA h
 refine VS ?_
 refine YK 2 (s_impl_mod hy15) zDx ?_
 refine YF ?_
 cases h
 exact zE VT
theorem cf_impl_Form_complete : CfW Tryz.prog 245 := cfW Tryz.func245
theorem s_impl_Form_complete {f1 : (Int × Int × Int)} {x2 : Int} {y3 : Int} {r : (((Int × Int × Int)) × ((Int × Int × Int × Int)))} (h : zAw f1 x2 y3 = some r) : zT Tryz.prog 245 [.ag [Ti f1.1, Ti f1.2.1, Ti f1.2.2], I x2, I y3] (.tc (.ag [Ti r.1.1, Ti r.1.2.1, Ti r.1.2.2]) (.tc (.ag [Ti r.2.1, Ti r.2.2.1, Ti r.2.2.2.1, Ti r.2.2.2.2]) .tn)) [] := by
 refine zY (rs := [.w 6 3, .w 7 4]) (vs := [.cell 6 38, .cell 7 109]) Tryz.func245 rfl rfl (.cons ⟨rfl, wd38⟩ (.cons ⟨rfl, wd109⟩ FitsL.nil)) (by decide) 59 rfl ?_
 unfold zAw at h
 refine VE ?_
 refine VS ?_
 refine YR 2 ?_
 refine L0 rfl rfl (zW (cs := [Ti x2, Ti 0, Ti y3, Ti 0]) zEK bt109 rfl rfl kk) ?_
 refine YF ?_
 obtain ⟨j4, hj4, h⟩ := zA h
 refine zCw (mb 59 462) [64, 56, 48, 24] (s1 := ⟨.bot :: I x2 :: I y3 :: .pt 24 0 :: .bot :: .bot :: .pt 48 0 :: .pt 56 0 :: .pt 64 0 :: bt 50 [], [(64, .box [Ti x2, Ti j4.1, Ti y3, Ti j4.2]), (56, .box [Ti 0, Ti 0, Ti 0, Ti 0]), (48, .box [Ti 0, Ti 0, Ti 0]), (24, .box [Ti f1.1, Ti f1.2.1, Ti f1.2.2])]⟩) ?_ ?_
 ·clear h
  have h := hj4
  clear hj4
  refine VE ?_
  refine VC h (fun h => ?_) (fun h => ?_)
  ·refine zX ?_
   refine YF ?_
   obtain rfl := zB h
   show St.keep _ _ _ = _
   kernel_rfl
  ·obtain ⟨y6, hy6, h⟩ := zA h
   obtain ⟨y7, hy7, h⟩ := zA h
   refine VS ?_
   refine YK 2 (s_impl_abs hy6) cf_impl_abs ?_
   refine YK 0 (s_impl_inverse hy7) cf_impl_inverse ?_
   refine YF ?_
   obtain ⟨z8, hz8, h⟩ := zA h
   obtain ⟨f9, hf9, h⟩ := zS h
   refine jD (mb 59 462) [64, 56, 48, 24] (s1 := ⟨.bot :: I x2 :: I y3 :: .pt 24 0 :: .bot :: .bot :: .pt 48 0 :: .pt 56 0 :: .pt 64 0 :: bt 50 [], [(64, .box [Ti x2, Ti f9, Ti y3, Ti y7]), (56, .box [Ti 0, Ti 0, Ti 0, Ti 0]), (48, .box [Ti 0, Ti 0, Ti 0]), (24, .box [Ti f1.1, Ti f1.2.1, Ti f1.2.2])]⟩) ?_ ?_
   ·refine XR 6 ?_
    refine L0 rfl rfl (zAC (a := w64 ((w64 (x2 * y7)) - 1)) (b := y3) rfl kk kk (jT hz8)) ?_
    refine XR 2 ?_
    refine zK ?_
    subst hf9
    kernel_rfl
   obtain rfl := zB h
   show St.keep _ _ _ = _
   kernel_rfl
 obtain ⟨y10, hy10, h⟩ := zA h
 refine VS ?_
 refine YK 2 (zCm hy10) zCd ?_
 refine YF ?_
 obtain ⟨y11, hy11, h⟩ := zA h
 obtain ⟨t12, ht12, h⟩ := zS h
 refine zO (mb 59 1486) [64, 56, 48, 24] (s1 := ⟨.bot :: I x2 :: I y3 :: .pt 24 0 :: .bot :: .bot :: .pt 48 0 :: .pt 56 0 :: .pt 64 0 :: .bot :: I t12 :: bt 48 [], [(64, .box [Ti x2, Ti j4.1, Ti y3, Ti j4.2]), (56, .box [Ti 0, Ti 0, Ti 0, Ti 0]), (48, .box [Ti 0, Ti 0, Ti 0]), (24, .box [Ti f1.1, Ti f1.2.1, Ti f1.2.2])]⟩) ?_ ?_
 ·refine XR 5 ?_
  refine XC (s_impl_floorDiv hy11) cf_impl_floorDiv rfl rfl rfl ?_
  refine XR 2 ?_
  refine zK ?_
  subst ht12
  kernel_rfl
 obtain ⟨f13, hf13, h⟩ := zS h
 refine zO (mb 59 1484) [64, 56, 48, 24] (s1 := ⟨.bot :: .bot :: I y3 :: .pt 24 0 :: .bot :: .bot :: .pt 48 0 :: .pt 56 0 :: .pt 64 0 :: .bot :: I t12 :: bt 48 [], [(64, .box [Ti x2, Ti f13, Ti y3, Ti j4.2]), (56, .box [Ti 0, Ti 0, Ti 0, Ti 0]), (48, .box [Ti 0, Ti 0, Ti 0]), (24, .box [Ti f1.1, Ti f1.2.1, Ti f1.2.2])]⟩) ?_ ?_
 ·refine XR 8 ?_
  refine zK ?_
  subst hf13
  kernel_rfl
 obtain ⟨f14, hf14, h⟩ := zS h
 refine zO (mb 59 456) [64, 56, 48, 24] (s1 := ⟨bt 3 (.pt 24 0 :: .bot :: .bot :: .pt 48 0 :: .pt 56 0 :: .pt 64 0 :: bt 50 []), [(64, .box [Ti x2, Ti f13, Ti y3, Ti f14]), (56, .box [Ti 0, Ti 0, Ti 0, Ti 0]), (48, .box [Ti 0, Ti 0, Ti 0]), (24, .box [Ti f1.1, Ti f1.2.1, Ti f1.2.2])]⟩) ?_ ?_
 ·refine XR 8 ?_
  refine zK ?_
  subst hf14
  kernel_rfl
 obtain ⟨y15, hy15, h⟩ := zA h
 refine VDS [0, 0, 3, 0, 7, 31] 5 [[.z, .b, .z, .b, .z], [.b, .z, .z, .b, .z], [.a, .a, .z, .b, .z], [.b, .b, .b, .z, .r 48], [.a, .a, .a, .b, .z]] ?_
 refine EK 2 (zCm hy15) zCd ?_
 refine EF 2 ?_
 cases h
 exact zE VT
theorem cf_impl_unite : CfW Tryz.prog 191 := cfW Tryz.func191
theorem s_impl_unite {f1 : (Int × Int × Int)} {g2 : (Int × Int × Int)} {r : (Int × Int × Int × Int × ((Int × Int × Int × Int)) × ((Int × Int × Int × Int)))} (h : zCs f1 g2 = some r) : zT Tryz.prog 191 [.ag [Ti f1.1, Ti f1.2.1, Ti f1.2.2], .ag [Ti g2.1, Ti g2.2.1, Ti g2.2.2]] (.ag [Ti r.1, Ti r.2.1, Ti r.2.2.1, Ti r.2.2.2.1, Ti r.2.2.2.2.1.1, Ti r.2.2.2.2.1.2.1, Ti r.2.2.2.2.1.2.2.1, Ti r.2.2.2.2.1.2.2.2, Ti r.2.2.2.2.2.1, Ti r.2.2.2.2.2.2.1, Ti r.2.2.2.2.2.2.2.1, Ti r.2.2.2.2.2.2.2.2]) [] := by
 refine zY (rs := [.w 4 12]) (vs := [.cell 4 178]) Tryz.func191 rfl rfl (.cons ⟨rfl, wd178⟩ FitsL.nil) (by decide) 103 rfl ?_
 unfold zCs at h
 refine VE ?_
 obtain ⟨y3, hy3, h⟩ := zA h
 refine VS ?_
 refine YK 3 (s_impl_firstPoint hy3) cf_impl_firstPoint ?_
 refine YF ?_
 obtain ⟨y4, hy4, h⟩ := zA h
 refine VS ?_
 refine YK 3 (s_impl_Form_complete hy4) cf_impl_Form_complete ?_
 refine YF ?_
 obtain ⟨y5, hy5, h⟩ := zA h
 refine VDS [0, 1, 0, 4, 0, 16, 0, 64, 192, 496, 1023, 0, 4095] 12 (cdm 12 [9087648, 9087649, 9087498, 9087514, 8560810, 8561066, 8391338, 8395434, 8411818, 8476074, 8738133, 2796202]) ?_
 refine EK 9 (s_impl_mod hy5) zDx ?_
 refine E0 10 rfl rfl (zW (cs := [Ti f1.1, Ti y4.1.1, Ti y5, Ti 0, Ti 0, Ti 0, Ti 0, Ti 0, Ti 0, Ti 0, Ti 0, Ti 0]) pl178 bt178 rfl rfl kk) ?_
 refine EF 1 ?_
 refine zJ ?_
 obtain ⟨o8, hLo8, h⟩ := zA h
 refine zCV (mb 103 916) [72, 64, 56, 32, 16] (s1 := ⟨.bot :: .bot :: .pt 16 0 :: .bot :: .pt 32 0 :: .bot :: .bot :: .pt 56 0 :: .pt 64 0 :: .pt 72 0 :: bt 93 [], [(72, .box [Ti f1.1, Ti y4.1.1, Ti o8, Ti 0, Ti 0, Ti 0, Ti 0, Ti 0, Ti 0, Ti 0, Ti 0, Ti 0]), (64, .box [Ti y4.2.1, Ti y4.2.2.1, Ti y4.2.2.2.1, Ti y4.2.2.2.2]), (56, .box [Ti y4.1.1, Ti y4.1.2.1, Ti y4.1.2.2]), (32, .box [Ti 0, Ti 0, Ti 0, Ti 0, Ti 0, Ti 0, Ti 0, Ti 0, Ti 0, Ti 0, Ti 0, Ti 0]), (16, .box [Ti f1.1, Ti f1.2.1, Ti f1.2.2])]⟩) ?_ ?_
 ·clear h
  refine zN (jH (fun n s => ∃ (f6 : Int), s.keep (mb 103 916) [72, 64, 56, 32, 16] = (⟨.bot :: .bot :: .pt 16 0 :: .bot :: .pt 32 0 :: .bot :: .bot :: .pt 56 0 :: .pt 64 0 :: .pt 72 0 :: bt 93 [], [(72, .box [Ti f1.1, Ti y4.1.1, Ti f6, Ti 0, Ti 0, Ti 0, Ti 0, Ti 0, Ti 0, Ti 0, Ti 0, Ti 0]), (64, .box [Ti y4.2.1, Ti y4.2.2.1, Ti y4.2.2.2.1, Ti y4.2.2.2.2]), (56, .box [Ti y4.1.1, Ti y4.1.2.1, Ti y4.1.2.2]), (32, .box [Ti 0, Ti 0, Ti 0, Ti 0, Ti 0, Ti 0, Ti 0, Ti 0, Ti 0, Ti 0, Ti 0, Ti 0]), (16, .box [Ti f1.1, Ti f1.2.1, Ti f1.2.2])]⟩ : St) ∧ zBx f1 y4 n f6 = some o8) FU ⟨_,  kk, hLo8⟩ ?_)
  clear hLo8
  rintro n s ⟨f6, hs, h⟩
  refine jE _ _ hs ?_
  clear hs
  cases n with
  | zero => cases h
  | succ n =>
   rw [zBx] at h
   refine zJ ?_
   obtain ⟨y9, hy9, h⟩ := zA h
   refine VS ?_
   refine YK 8 (s_impl_mod hy9) zDx ?_
   refine YF ?_
   refine VC h (fun h => ?_) (fun h => ?_)
   ·refine zG ?_
    show V _ _ _ _
    refine zN ?_
    obtain ⟨f11, hf11, h⟩ := zS h
    refine jD (mb 103 916) [72, 64, 56, 32, 16] (s1 := ⟨.bot :: .bot :: .pt 16 0 :: .bot :: .pt 32 0 :: .bot :: .bot :: .pt 56 0 :: .pt 64 0 :: .pt 72 0 :: bt 93 [], [(72, .box [Ti f1.1, Ti y4.1.1, Ti f11, Ti 0, Ti 0, Ti 0, Ti 0, Ti 0, Ti 0, Ti 0, Ti 0, Ti 0]), (64, .box [Ti y4.2.1, Ti y4.2.2.1, Ti y4.2.2.2.1, Ti y4.2.2.2.2]), (56, .box [Ti y4.1.1, Ti y4.1.2.1, Ti y4.1.2.2]), (32, .box [Ti 0, Ti 0, Ti 0, Ti 0, Ti 0, Ti 0, Ti 0, Ti 0, Ti 0, Ti 0, Ti 0, Ti 0]), (16, .box [Ti f1.1, Ti f1.2.1, Ti f1.2.2])]⟩) ?_ ?_
    ·refine XR 8 ?_
     refine zK ?_
     subst hf11
     kernel_rfl
    exact ⟨n, Nat.lt_succ_self n, _,  kk, h⟩
   ·refine jA ?_
    obtain rfl := zB h
    show St.keep _ _ _ = _
    kernel_rfl
 show V _ _ _ _
 obtain ⟨y12, hy12, h⟩ := zA h
 refine VS ?_
 refine YK 8 (s_impl_mod hy12) zDx ?_
 refine YF ?_
 obtain ⟨y13, hy13, h⟩ := zA h
 obtain ⟨z14, hz14, h⟩ := zA h
 obtain ⟨f15, hf15, h⟩ := zS h
 refine zC1 [0, 1, 0, 4, 15, 0, 32, 127, 0, 256, 768, 0, 2048, 7936, 16383, 32767, 65535] 16 (cdm 16 [178923680, 178923681, 178923530, 178923546, 178923605, 178913962, 178914986, 178918741, 41986730, 42052266, 42314410, 2796202, 6990506, 22391466, 89478485, 357913941]) (mb 103 916) [72, 64, 56, 32, 16] (s1 := ⟨.bot :: .bot :: .pt 16 0 :: .bot :: .pt 32 0 :: .bot :: .bot :: .pt 56 0 :: .pt 64 0 :: .pt 72 0 :: bt 93 [], [(72, .box [Ti f1.1, Ti y4.1.1, Ti y12, Ti f15, Ti 0, Ti 0, Ti 0, Ti 0, Ti 0, Ti 0, Ti 0, Ti 0]), (64, .box [Ti y4.2.1, Ti y4.2.2.1, Ti y4.2.2.2.1, Ti y4.2.2.2.2]), (56, .box [Ti y4.1.1, Ti y4.1.2.1, Ti y4.1.2.2]), (32, .box [Ti 0, Ti 0, Ti 0, Ti 0, Ti 0, Ti 0, Ti 0, Ti 0, Ti 0, Ti 0, Ti 0, Ti 0]), (16, .box [Ti f1.1, Ti f1.2.1, Ti f1.2.2])]⟩) kk kk ?_ ?_
 ·refine DR 6 ?_
  refine DC 6 (zC5 hy13) zCO rfl rfl rfl rfl 68 rfl ?_
  refine DR 7 ?_
  refine DE_0 14 (I (w64 (Int.tdiv (w64 ((w64 (y12 * y12)) - y13)) (w64 ((w64 (4 * f1.1)) * y4.1.1))))) kk rfl rfl rfl (qO rfl) kk (zAC (a := w64 ((w64 (y12 * y12)) - y13)) (b := w64 ((w64 (4 * f1.1)) * y4.1.1)) rfl kk kk (jT hz14)) 76 rfl ?_
  refine DA 1 ?_
  refine XR 1 ?_
  refine zK ?_
  subst hf15
  kernel_rfl
 obtain ⟨z16, hz16, h⟩ := zA h
 obtain ⟨f17, hf17, h⟩ := zS h
 refine zO (mb 103 912) [72, 64, 56, 32] (s1 := ⟨bt 4 (.pt 32 0 :: .bot :: .bot :: .pt 56 0 :: .pt 64 0 :: .pt 72 0 :: bt 93 []), [(72, .box [Ti f1.1, Ti y4.1.1, Ti y12, Ti f15, Ti 1, Ti f17, Ti 0, Ti 1, Ti 0, Ti 0, Ti 0, Ti 0]), (64, .box [Ti y4.2.1, Ti y4.2.2.1, Ti y4.2.2.2.1, Ti y4.2.2.2.2]), (56, .box [Ti y4.1.1, Ti y4.1.2.1, Ti y4.1.2.2]), (32, .box [Ti 0, Ti 0, Ti 0, Ti 0, Ti 0, Ti 0, Ti 0, Ti 0, Ti 0, Ti 0, Ti 0, Ti 0])]⟩) ?_ ?_
 ·refine XR 8 ?_
  refine L0 rfl rfl (zAC (a := w64 (y12 - f1.2.1)) (b := w64 (2 * f1.1)) rfl kk kk (jT hz16)) ?_
  refine L0 rfl rfl (zW (cs := [Ti 1, Ti (w64 (Int.tdiv (w64 (y12 - f1.2.1)) (w64 (2 * f1.1)))), Ti 0, Ti 1]) zEK bt109 rfl rfl kk) ?_
  refine XR 2 ?_
  refine zK ?_
  subst hf17
  kernel_rfl
 obtain ⟨z18, hz18, h⟩ := zA h
 obtain ⟨y19, hy19, h⟩ := zA h
 refine VDS [0, 0, 2, 0, 8, 30, 0, 64, 192, 510, 1022, 2047, 4095, 8191] 13 (cdm 13 [2796200, 172674, 172678, 172074, 172138, 172374, 2730, 6826, 23210, 87382, 349526, 1398101, 5592405]) ?_
 refine ER 9 ?_
 refine E0 9 rfl rfl (zAC (a := w64 (y12 - y4.1.2.1)) (b := w64 (2 * y4.1.1)) rfl kk kk (jT hz18)) ?_
 refine E0 10 rfl rfl (zW (cs := [Ti 1, Ti (w64 (Int.tdiv (w64 (y12 - y4.1.2.1)) (w64 (2 * y4.1.1)))), Ti 0, Ti 1]) zEK bt109 rfl rfl kk) ?_
 refine EK 0 (s_impl_Matrix_times hy19) cf_impl_Matrix_times ?_
 refine EF 1 ?_
 refine VE ?_
 cases h
 exact zE VT
theorem cf_impl_united_composite : CfW Tryz.prog 192 := cfW Tryz.func192
theorem s_impl_united_composite {u1 : (Int × Int × Int × Int × ((Int × Int × Int × Int)) × ((Int × Int × Int × Int)))} {r : (Int × Int × Int)} (h : zBa u1 = some r) : zT Tryz.prog 192 [.ag [Ti u1.1, Ti u1.2.1, Ti u1.2.2.1, Ti u1.2.2.2.1, Ti u1.2.2.2.2.1.1, Ti u1.2.2.2.2.1.2.1, Ti u1.2.2.2.2.1.2.2.1, Ti u1.2.2.2.2.1.2.2.2, Ti u1.2.2.2.2.2.1, Ti u1.2.2.2.2.2.2.1, Ti u1.2.2.2.2.2.2.2.1, Ti u1.2.2.2.2.2.2.2.2]] (.ag [Ti r.1, Ti r.2.1, Ti r.2.2]) [] := by
 refine zY (rs := [.w 2 3]) (vs := [.cell 2 38]) Tryz.func192 rfl rfl (.cons ⟨rfl, wd38⟩ FitsL.nil) (by decide) 13 rfl ?_
 unfold zBa at h
 refine VE ?_
 obtain ⟨f2, hf2, h⟩ := zS h
 refine zO (mb 13 4) [16] (s1 := ⟨.bot :: .bot :: .pt 16 0 :: bt 10 [], [(16, .box [Ti f2, Ti u1.2.2.1, Ti u1.2.2.2.1])]⟩) ?_ ?_
 ·refine XR 9 ?_
  refine L0 rfl rfl (zW (cs := [Ti (w64 (u1.1 * u1.2.1)), Ti u1.2.2.1, Ti u1.2.2.2.1]) pl38 bt38 rfl rfl kk) ?_
  refine XR 1 ?_
  refine zK ?_
  subst hf2
  kernel_rfl
 cases h
 exact zE VT
theorem cf_impl_compose : CfW Tryz.prog 111 := cfW Tryz.func111
theorem s_impl_compose {f1 : (Int × Int × Int)} {g2 : (Int × Int × Int)} {r : (Int × Int × Int)} (h : zCb f1 g2 = some r) : zT Tryz.prog 111 [.ag [Ti f1.1, Ti f1.2.1, Ti f1.2.2], .ag [Ti g2.1, Ti g2.2.1, Ti g2.2.2]] (.ag [Ti r.1, Ti r.2.1, Ti r.2.2]) [] := by
 refine zY (rs := [.w 4 3]) (vs := [.cell 4 38]) Tryz.func111 rfl rfl (.cons ⟨rfl, wd38⟩ FitsL.nil) (by decide) 12 rfl ?_
 unfold zCb at h
 refine VE ?_
 obtain ⟨y3, hy3, h⟩ := zA h
 obtain ⟨y4, hy4, h⟩ := zA h
 obtain ⟨y5, hy5, h⟩ := zA h
 obtain ⟨y6, hy6, h⟩ := zA h
 obtain ⟨y7, hy7, h⟩ := zA h
 refine VDS [0, 1, 0, 7, 15, 31, 63, 127] 7 (cdm 7 [32, 33, 10, 21, 85, 341, 1365]) ?_
 refine EK 1 (zC4 hy3) zCA ?_
 refine EK 1 (zC4 hy4) zCA ?_
 refine EK 0 (s_impl_unite hy5) cf_impl_unite ?_
 refine EK 0 (s_impl_united_composite hy6) cf_impl_united_composite ?_
 refine EK 0 (zC4 hy7) zCA ?_
 refine EF 0 ?_
 cases h
 exact zE VT
theorem cf_impl_Form_opposite : CfW Tryz.prog 113 := cfW Tryz.func113
theorem s_impl_Form_opposite {f1 : (Int × Int × Int)} {r : (Int × Int × Int)} (h : jW f1 = some r) : zT Tryz.prog 113 [.ag [Ti f1.1, Ti f1.2.1, Ti f1.2.2]] (.ag [Ti r.1, Ti r.2.1, Ti r.2.2]) [] := by
 refine zY (rs := [.w 2 3]) (vs := [.cell 2 38]) Tryz.func113 rfl rfl (.cons ⟨rfl, wd38⟩ FitsL.nil) (by decide) 11 rfl ?_
 unfold jW at h
 refine VE ?_
 obtain ⟨f2, hf2, h⟩ := zS h
 refine zO (mb 11 4) [16] (s1 := ⟨.bot :: .bot :: .pt 16 0 :: bt 8 [], [(16, .box [Ti f1.1, Ti f2, Ti f1.2.2])]⟩) ?_ ?_
 ·refine XR 7 ?_
  refine L0 rfl rfl (zW (cs := [Ti f1.1, Ti (w64 (0 - f1.2.1)), Ti f1.2.2]) pl38 bt38 rfl rfl kk) ?_
  refine XR 1 ?_
  refine zK ?_
  subst hf2
  kernel_rfl
 cases h
 exact zE VT
theorem cf_impl_withEntry : CfW Tryz.prog 114 := cfW Tryz.func114
theorem s_impl_withEntry {l1 : List ((ByteArray × ((Int × Int × Int))))} {name2 : ByteArray} {f3 : (Int × Int × Int)} {r : List ((ByteArray × ((Int × Int × Int))))} (h : zCa l1 name2 f3 = some r) : zT Tryz.prog 114 [.c (.sl (l1.map c73)), .c (.v (.string name2)), .ag [Ti f3.1, Ti f3.2.1, Ti f3.2.2]] (.ow 0) [(0, .arr 73 4 (r.map c73))] := by
 refine CtW [6] Tryz.func114 rfl rfl 48 ?_
 unfold zCa at h
 refine VS ?_
 refine YR 1 ?_
 refine L1 rfl rfl (zAU (e := 73) 4 (by decide) (.inl rfl)) ?_
 refine YF ?_
 refine VS ?_
 refine L1 rfl rfl (zBs Tryz.underlying43 sz73 (by decide) rfl rfl) ?_
 refine YF ?_
 refine VE ?_
 refine zJ ?_
 obtain ⟨y4, hy4, h⟩ := zA h
 refine VS ?_
 refine YK 2 (s_impl_withoutEntry hy4) cf_impl_withoutEntry ?_
 refine L0 rfl rfl (qK (c := c73) (xs := y4) Tryz.underlying43 rfl kk) ?_
 refine YF ?_
 obtain ⟨o9, hLo9, h⟩ := zA h
 refine zCV (mb 48 418) [88, 40] (s1 := ⟨.bot :: .c (.v (.string name2)) :: bt 3 (.pt 40 0 :: .bot :: .ow 88 :: Bo o9.1 :: bt 39 []), [(88, .arr 73 4 (o9.2.map c73)), (40, .box [Ti f3.1, Ti f3.2.1, Ti f3.2.2])]⟩) ?_ ?_
 ·clear h
  refine zN (jH (fun n s => ∃ (done5 : Bool) (t6 : Int) (l7 : List ((ByteArray × ((Int × Int × Int))))), s.keep (mb 48 115106) [112, 88, 40] = (⟨.bot :: .c (.v (.string name2)) :: bt 3 (.pt 40 0 :: .bot :: .ow 88 :: Bo done5 :: bt 5 (.ow 112 :: I ((y4.length : Int)) :: I t6 :: bt 31 [])), [(112, .arr 73 4 (y4.map c73)), (88, .arr 73 4 (l7.map c73)), (40, .box [Ti f3.1, Ti f3.2.1, Ti f3.2.2])]⟩ : St) ∧ jQ f3 name2 y4 n done5 t6 l7 = some o9) FU ⟨_, _, _,  kk, hLo9⟩ ?_)
  clear hLo9
  rintro n s ⟨done5, t6, l7, hs, h⟩
  refine jE _ _ hs ?_
  clear hs
  cases n with
  | zero => cases h
  | succ n =>
   rw [jQ] at h
   refine VE ?_
   refine zJ ?_
   refine VC h (fun h => ?_) (fun h => ?_)
   ·refine zG ?_
    show V _ _ _ _
    refine zJ ?_
    refine zN ?_
    obtain ⟨e11, he11, h⟩ := zA h
    obtain ⟨e12, he12, h⟩ := zA h
    refine VS ?_
    refine L0 rfl rfl (zAV (c := c73) (xs := y4) (v := e11) (id := 112) (T := 73) (sz := 4) (n := t6) Tryz.underlying43 sz73 rfl kk kk kk he11) ?_
    refine L0 rfl rfl (E_loadon (c := c73) (xs := y4) (v := e12) (id := 112) (sz := 4) (T := 73) (off := 0) (n := t6) [.v (.string e12.1), Ti e12.2.1, Ti e12.2.2.1, Ti e12.2.2.2] wd73 rfl kk kk he12 (Nat.le_of_ble_eq_true rfl) kk) ?_
    refine YF ?_
    refine zJ ?_
    obtain ⟨t14, ht14, h⟩ := zA h
    have ht14 := zB ht14
    refine zO (mb 48 134333858) [80, 112, 88, 40] (s1 := ⟨.bot :: .c (.v (.string name2)) :: bt 3 (.pt 40 0 :: .bot :: .ow 88 :: Bo done5 :: .bot :: .pt 80 0 :: bt 3 (.ow 112 :: I ((y4.length : Int)) :: I t6 :: bt 10 (Bo t14 :: bt 20 []))), [(80, .box [.v (.string e12.1), Ti e12.2.1, Ti e12.2.2.1, Ti e12.2.2.2]), (112, .arr 73 4 (y4.map c73)), (88, .arr 73 4 (l7.map c73)), (40, .box [Ti f3.1, Ti f3.2.1, Ti f3.2.2])]⟩) ?_ ?_
    ·refine YR 3 ?_
     refine zD (!done5) (fun hc13 => ?_) (fun hc13 => ?_)
     ·refine YQ hc13 ?_
      refine YR 3 ?_
      refine YT (qD rfl (Y0_lts (a := name2) (b := e12.1) rfl kk kk)) ?_
      exact YE (by rw [← ht14]; (try rw [hc13]); kernel_rfl)
     ·refine YQ hc13 ?_
      exact YE (by rw [← ht14]; (try rw [hc13]); kernel_rfl)
    refine VC h (fun h => ?_) (fun h => ?_)
    ·obtain ⟨u16, hu16, h⟩ := zA h
     refine VS ?_
     refine YR 3 ?_
     refine L0 rfl rfl (zW (cs := [.v (.string name2), Ti f3.1, Ti f3.2.1, Ti f3.2.2]) pl73 bt73 rfl rfl kk) ?_
     refine L1 rfl rfl (qP (z := zv73) (els := [(name2, f3)].map c73) Tryz.underlying43 iz73 rfl (by decide) rfl kk rfl (by simp [c73]) (by decide) (by decide)) ?_
     refine zM rfl (zBJ (c := c73) (xs := l7) (ys := [(name2, f3)]) (id := 88) (z := zv73) rfl rfl Tryz.underlying43 izb73 rfl kk kk kk (fun _ => rfl) (by simp) (zAY hu16) (by decide)) ?_
     refine YF ?_
     refine zX ?_
     refine YF ?_
     show V _ _ _ _
     obtain ⟨u17, hu17, h⟩ := zA h
     refine zX ?_
     refine YR 2 ?_
     refine L1 rfl rfl (qP (z := zv73) (els := [e12].map c73) Tryz.underlying43 iz73 rfl (by decide) rfl kk rfl (by simp [c73]) (by decide) (by decide)) ?_
     refine zM rfl (zBJ (c := c73) (xs := l7 ++ ([(name2, f3)])) (ys := [e12]) (id := 88) (z := zv73) rfl rfl Tryz.underlying43 izb73 rfl kk kk kk (fun _ => rfl) (by simp) (zAY hu17) (by decide)) ?_
     refine YF ?_
     show V _ _ _ _
     obtain ⟨t18, ht18, h⟩ := zS h
     refine jD (mb 48 115106) [112, 88, 40] (s1 := ⟨.bot :: .c (.v (.string name2)) :: bt 3 (.pt 40 0 :: .bot :: .ow 88 :: Bo true :: bt 5 (.ow 112 :: I ((y4.length : Int)) :: I t18 :: bt 31 [])), [(112, .arr 73 4 (y4.map c73)), (88, .arr 73 4 (((l7 ++ ([(name2, f3)])) ++ ([e12])).map c73)), (40, .box [Ti f3.1, Ti f3.2.1, Ti f3.2.2])]⟩) ?_ ?_
     ·refine XR 2 ?_
      refine zK ?_
      subst ht18
      kernel_rfl
     exact ⟨n, Nat.lt_succ_self n, _, _, _,  kk, h⟩
    ·refine zG ?_
     show V _ _ _ _
     obtain ⟨u19, hu19, h⟩ := zA h
     refine zX ?_
     refine YR 2 ?_
     refine L1 rfl rfl (qP (z := zv73) (els := [e12].map c73) Tryz.underlying43 iz73 rfl (by decide) rfl kk rfl (by simp [c73]) (by decide) (by decide)) ?_
     refine zM rfl (zBJ (c := c73) (xs := l7) (ys := [e12]) (id := 88) (z := zv73) rfl rfl Tryz.underlying43 izb73 rfl kk kk kk (fun _ => rfl) (by simp) (zAY hu19) (by decide)) ?_
     refine YF ?_
     show V _ _ _ _
     obtain ⟨t20, ht20, h⟩ := zS h
     refine jD (mb 48 115106) [112, 88, 40] (s1 := ⟨.bot :: .c (.v (.string name2)) :: bt 3 (.pt 40 0 :: .bot :: .ow 88 :: Bo done5 :: bt 5 (.ow 112 :: I ((y4.length : Int)) :: I t20 :: bt 31 [])), [(112, .arr 73 4 (y4.map c73)), (88, .arr 73 4 ((l7 ++ ([e12])).map c73)), (40, .box [Ti f3.1, Ti f3.2.1, Ti f3.2.2])]⟩) ?_ ?_
     ·refine XR 2 ?_
      refine zK ?_
      subst ht20
      kernel_rfl
     exact ⟨n, Nat.lt_succ_self n, _, _, _,  kk, h⟩
   ·refine jA ?_
    obtain rfl := zB h
    show St.keep _ _ _ = _
    kernel_rfl
 show V _ _ _ _
 refine zJ ?_
 refine VE ?_
 refine VC h (fun h => ?_) (fun h => ?_)
 ·obtain ⟨u22, hu22, h⟩ := zA h
  refine zX ?_
  refine YR 3 ?_
  refine L0 rfl rfl (zW (cs := [.v (.string name2), Ti f3.1, Ti f3.2.1, Ti f3.2.2]) pl73 bt73 rfl rfl kk) ?_
  refine L1 rfl rfl (qP (z := zv73) (els := [(name2, f3)].map c73) Tryz.underlying43 iz73 rfl (by decide) rfl kk rfl (by simp [c73]) (by decide) (by decide)) ?_
  refine zM rfl (zBJ (c := c73) (xs := o9.2) (ys := [(name2, f3)]) (id := 88) (z := zv73) rfl rfl Tryz.underlying43 izb73 rfl kk kk kk (fun _ => rfl) (by simp) (zAY hu22) (by decide)) ?_
  refine YF ?_
  show V _ _ _ _
  refine VE ?_
  cases h
  exact zE VT
 ·refine zG ?_
  show V _ _ _ _
  refine VE ?_
  cases h
  exact zE VT
theorem cf_impl_runCommand : CfW Tryz.prog 55 := cfW Tryz.func55
theorem s_impl_runCommand {l1 : List ((ByteArray × ((Int × Int × Int))))} {c2 : (Int × ByteArray × ByteArray × ByteArray × ((Int × Int × Int)))} {r : ((List ((ByteArray × ((Int × Int × Int))))) × Int)} (h : jS l1 c2 = some r) : zT Tryz.prog 55 [.c (.sl (l1.map c73)), .ag [Ti c2.1, .v (.string c2.2.1), .v (.string c2.2.2.1), .v (.string c2.2.2.2.1), Ti c2.2.2.2.2.1, Ti c2.2.2.2.2.2.1, Ti c2.2.2.2.2.2.2]] (.tc (.ow 0) (.tc (I r.2) .tn)) [(0, .arr 73 4 (r.1.map c73))] := by
 refine CtW [4, 5] Tryz.func55 rfl rfl 64 ?_
 unfold jS at h
 refine VS ?_
 refine YR 1 ?_
 refine L1 rfl rfl (zAU (e := 73) 4 (by decide) (.inl rfl)) ?_
 refine YF ?_
 refine zJ ?_
 obtain ⟨y3, hy3, h⟩ := zA h
 refine VS ?_
 refine YK 2 (s_impl_refusal hy3) cf_impl_refusal ?_
 refine YF ?_
 refine VE ?_
 refine VC h (fun h => ?_) (fun h => ?_)
 ·refine VS ?_
  refine L1 rfl rfl (zBs Tryz.underlying43 sz73 (by decide) rfl rfl) ?_
  refine YF ?_
  cases h
  exact zE VT
 ·refine zG ?_
  show V _ _ _ _
  refine VE ?_
  obtain ⟨y5, hy5, h⟩ := zA h
  refine VS ?_
  refine YK 3 (s_impl_find hy5) zES ?_
  refine YF ?_
  obtain ⟨y6, hy6, h⟩ := zA h
  refine VS ?_
  refine YK 3 (s_impl_find hy6) zES ?_
  refine YF ?_
  obtain ⟨qo7, hLo7, hko7⟩ := zA h
  clear h
  refine V_cutS (q := qo7) (S := fun o7 => ⟨.c (.sl (l1.map c73)) :: .bot :: .bot :: .pt 24 0 :: bt 3 (.pt 56 0 :: bt 56 []), [(56, .box [Ti o7.1, Ti o7.2.1, Ti o7.2.2]), (24, .box [Ti c2.1, .v (.string c2.2.1), .v (.string c2.2.2.1), .v (.string c2.2.2.2.1), Ti c2.2.2.2.2.1, Ti c2.2.2.2.2.2.1, Ti c2.2.2.2.2.2.2])]⟩) (mb 64 137) [56, 24] ?_ ?_
  ·have h := hLo7
   clear hLo7
   refine VE ?_
   refine zN ?_
   refine VE ?_
   refine VC h (fun h => ?_) (fun h => ?_)
   ·obtain ⟨y9, hy9, h⟩ := zA h
    refine VS ?_
    refine YK 3 (s_impl_withoutEntry hy9) cf_impl_withoutEntry ?_
    refine YF ?_
    refine zE ?_
    obtain rfl := zB h
    have h := hko7
    obtain rfl := zB h
    exact VT
   ·refine VE ?_
    refine VC h (fun h => ?_) (fun h => ?_)
    ·obtain ⟨y11, hy11, h⟩ := zA h
     refine zX ?_
     refine YK 2 (s_impl_compose hy11) cf_impl_compose ?_
     refine YF ?_
     obtain rfl := zB h
     exact ⟨_, rfl, kk⟩
    ·refine VE ?_
     refine VC h (fun h => ?_) (fun h => ?_)
     ·obtain ⟨y13, hy13, h⟩ := zA h
      obtain ⟨y14, hy14, h⟩ := zA h
      refine zX ?_
      refine YK 1 (s_impl_Form_opposite hy13) cf_impl_Form_opposite ?_
      refine YK 0 (zC4 hy14) zCA ?_
      refine YF ?_
      obtain rfl := zB h
      exact ⟨_, rfl, kk⟩
     ·refine zG ?_
      obtain rfl := zB h
      exact ⟨_, rfl, kk⟩
  rintro o7 rfl
  have h := hko7
  clear hko7
  obtain ⟨y15, hy15, h⟩ := zA h
  refine VS ?_
  refine YK 4 (s_impl_withEntry hy15) cf_impl_withEntry ?_
  refine YF ?_
  refine zJ ?_
  refine VS ?_
  refine YR 1 ?_
  refine L0 rfl rfl (qK (c := c73) (xs := y15) Tryz.underlying43 rfl kk) ?_
  refine YF ?_
  refine VC h (fun h => ?_) (fun h => ?_)
  ·refine VS ?_
   refine L1 rfl rfl (zBs Tryz.underlying43 sz73 (by decide) rfl rfl) ?_
   refine YF ?_
   cases h
   exact zE VT
  ·refine zG ?_
   show V _ _ _ _
   refine VE ?_
   cases h
   exact zE VT
theorem cf_impl_replay : CfW Tryz.prog 54 := cfW Tryz.func54
theorem s_impl_replay {vs1 : ByteArray} {r : ((List ((ByteArray × ((Int × Int × Int))))) × Int × Int × Int)} (h : zCS vs1 = some r) : zT Tryz.prog 54 [.c (.v (.string vs1))] (.tc (.ow 0) (.tc (I r.2.1) (.tc (I r.2.2.1) (.tc (I r.2.2.2) .tn)))) [(0, .arr 73 4 (r.1.map c73))] := by
 refine CtW [2, 3, 4, 5] Tryz.func54 rfl rfl 81 ?_
 unfold zCS at h
 refine VS ?_
 refine L1 rfl rfl (zAU (e := 73) 4 (by decide) (.inl rfl)) ?_
 refine YF ?_
 refine VS ?_
 refine L1 rfl rfl (zBs Tryz.underlying43 sz73 (by decide) rfl rfl) ?_
 refine YF ?_
 refine VE ?_
 refine zJ ?_
 obtain ⟨o7, hLo7, h⟩ := zA h
 refine zCV (mb 81 960) [168] (s1 := ⟨bt 6 (.ow 168 :: I o7.1 :: I o7.2.1 :: I o7.2.2.1 :: bt 71 []), [(168, .arr 73 4 (o7.2.2.2.map c73))]⟩) ?_ ?_
 ·clear h
  refine zN (jH (fun n s => ∃ (many2 : Int) (vat3 : Int) (vn4 : Int) (l5 : List ((ByteArray × ((Int × Int × Int))))), (s.adopt 6 168).keep (mb 81 961) [168] = (⟨.c (.v (.string vs1)) :: bt 5 (.ow 168 :: I many2 :: I vat3 :: I vn4 :: bt 71 []), [(168, .arr 73 4 (l5.map c73))]⟩ : St) ∧ zAt vs1 n many2 vat3 vn4 l5 = some o7) FU ⟨_, _, _, _,  kk, hLo7⟩ ?_)
  clear hLo7
  rintro n s ⟨many2, vat3, vn4, l5, hs, h⟩
  refine V_adopt 6 168 ?_
  refine jE _ _ hs ?_
  clear hs
  cases n with
  | zero => cases h
  | succ n =>
   rw [zAt] at h
   refine zJ ?_
   refine VE ?_
   refine VC h (fun h => ?_) (fun h => ?_)
   ·refine zG ?_
    show V _ _ _ _
    refine zN ?_
    obtain ⟨u9, hu9, h⟩ := zA h
    obtain ⟨y10, hy10, h⟩ := zA h
    refine VS ?_
    refine YR 2 ?_
    refine L0 rfl rfl (zCf (b := vs1) (l := vat3) (h := (vs1.size : Int)) Tryz.underlying9 rfl kk (fun y hy => by cases hy; exact ⟨.i64, kk⟩) (fun hh => by cases hh) (fun y hy => by cases hy) (fun _ => rfl) (zB1 hu9)) ?_
    refine YK 0 (s_strings_IndexByte hy10) cf_strings_IndexByte ?_
    refine YF ?_
    refine zJ ?_
    refine VE ?_
    refine VC h (fun h => ?_) (fun h => ?_)
    ·refine jA ?_
     obtain rfl := zB h
     show St.keep _ _ _ = _
     kernel_rfl
    ·refine zG ?_
     show V _ _ _ _
     obtain ⟨u12, hu12, h⟩ := zA h
     refine VS ?_
     refine YR 6 ?_
     refine L0 rfl rfl (zCf (b := vs1) (l := vat3) (h := w64 ((w64 (vat3 + y10)) + 1)) Tryz.underlying9 rfl kk (fun y hy => by cases hy; exact ⟨.i64, kk⟩) (fun hh => by cases hh) (fun y hy => by cases hy; exact ⟨.i64, kk⟩) (fun hh => by cases hh) (zB1 hu12)) ?_
     refine YF ?_
     obtain ⟨y13, hy13, h⟩ := zA h
     refine VS ?_
     refine YK 1 (s_strings_Cut hy13) cf_strings_Cut ?_
     refine YF ?_
     obtain ⟨y14, hy14, h⟩ := zA h
     refine VS ?_
     refine YK 1 (s_impl_ParseCommand hy14) cf_impl_ParseCommand ?_
     refine YF ?_
     refine zJ ?_
     refine VE ?_
     refine VC h (fun h => ?_) (fun h => ?_)
     ·refine jA ?_
      obtain rfl := zB h
      show St.keep _ _ _ = _
      kernel_rfl
     ·refine zG ?_
      show V _ _ _ _
      obtain ⟨y16, hy16, h⟩ := zA h
      refine VS ?_
      refine YK 2 (s_impl_recordText hy16) cf_impl_recordText ?_
      refine YF ?_
      obtain ⟨y17, hy17, h⟩ := zA h
      refine VS ?_
      refine YR 2 ?_
      refine L1 rfl rfl (Y1_callS (s_impl_runCommand hy17) cf_impl_runCommand rfl kk rfl (flatE_cons (fun _ => rfl) rfl)) ?_
      refine YF ?_
      refine zJ ?_
      obtain ⟨t19, ht19, h⟩ := zA h
      have ht19 := zB ht19
      refine zO (mb 81 295147905179353615297) [472, 168] (s1 := ⟨.c (.v (.string vs1)) :: bt 5 (.ow 168 :: I many2 :: I vat3 :: I vn4 :: .bot :: .c (.v (.string (vs1.extract (Int.toNat vat3) (Int.toNat (w64 ((w64 (vat3 + y10)) + 1)))))) :: bt 6 (I y16.2 :: .ow 472 :: bt 48 (Bo t19 :: bt 12 []))), [(472, .arr 73 4 (y17.1.map c73)), (168, .arr 73 4 (l5.map c73))]⟩) ?_ ?_
      ·refine YR 4 ?_
       refine zD (!(y16.1.toList == (vs1.extract (Int.toNat vat3) (Int.toNat (w64 ((w64 (vat3 + y10)) + 1)))).toList)) (fun hc18 => ?_) (fun hc18 => ?_)
       ·refine YQ hc18 ?_
        exact YE (by rw [← ht19]; (try rw [hc18]); kernel_rfl)
       ·refine YQ hc18 ?_
        exact YE (by rw [← ht19]; (try rw [hc18]); kernel_rfl)
      refine VC h (fun h => ?_) (fun h => ?_)
      ·refine jA ?_
       obtain rfl := zB h
       show St.keep _ _ _ = _
       kernel_rfl
      ·refine zG ?_
       show V _ _ _ _
       refine VE ?_
       obtain ⟨many21, hmany21, h⟩ := zS h
       refine zO (mb 81 3009) [472] (s1 := ⟨.c (.v (.string vs1)) :: bt 5 (.ow 472 :: I many21 :: I vat3 :: I y16.2 :: .bot :: .c (.v (.string (vs1.extract (Int.toNat vat3) (Int.toNat (w64 ((w64 (vat3 + y10)) + 1)))))) :: bt 69 []), [(472, .arr 73 4 (y17.1.map c73))]⟩) ?_ ?_
       ·refine XR 3 ?_
        refine zK ?_
        subst hmany21
        kernel_rfl
       obtain ⟨vat22, hvat22, h⟩ := zS h
       refine jD (mb 81 961) [472] (s1 := ⟨.c (.v (.string vs1)) :: bt 5 (.ow 472 :: I many21 :: I vat22 :: I y16.2 :: bt 71 []), [(472, .arr 73 4 (y17.1.map c73))]⟩) ?_ ?_
       ·refine XR 2 ?_
        refine L0 rfl rfl (Y0_lens (b := vs1.extract (Int.toNat vat3) (Int.toNat (w64 ((w64 (vat3 + y10)) + 1)))) Tryz.underlying9 rfl kk) ?_
        refine XR 2 ?_
        refine zK ?_
        subst hvat22
        kernel_rfl
       exact ⟨n, Nat.lt_succ_self n, _, _, _, _,  kk, h⟩
   ·refine jA ?_
    obtain rfl := zB h
    show St.keep _ _ _ = _
    kernel_rfl
 show V _ _ _ _
 refine VE ?_
 cases h
 exact zE VT
theorem cf_impl_ReplayJournal : CfW Tryz.prog 25 := cfW Tryz.func25
theorem s_impl_ReplayJournal {vs1 : ByteArray} {r : ((List ((ByteArray × ((Int × Int × Int))))) × Int × Int × Bool)} (h : zAT vs1 = some r) : zT Tryz.prog 25 [.c (.v (.string vs1))] (.tc (.ow 0) (.tc (I r.2.1) (.tc (I r.2.2.1) (.tc (Bo r.2.2.2) .tn)))) [(0, .arr 73 4 (r.1.map c73))] := by
 refine CtW [2, 3, 4, 5] Tryz.func25 rfl rfl 24 ?_
 unfold zAT at h
 refine VS ?_
 refine L1 rfl rfl (zAU (e := 73) 4 (by decide) (.inl rfl)) ?_
 refine YF ?_
 refine zJ ?_
 refine VS ?_
 refine YF ?_
 refine VC h (fun h => ?_) (fun h => ?_)
 ·refine VS ?_
  refine L1 rfl rfl (zBs Tryz.underlying43 sz73 (by decide) rfl rfl) ?_
  refine YF ?_
  cases h
  exact zE VT
 ·refine zG ?_
  show V _ _ _ _
  obtain ⟨y3, hy3, h⟩ := zA h
  refine VS ?_
  refine YK 1 (s_impl_replay hy3) cf_impl_replay ?_
  refine YF ?_
  refine VE ?_
  cases h
  exact zE VT
end Go.Proofs.YtfmjfofocklgpaaGreatDoor
namespace Go.Proofs.YtfmjfofocklgpaaGreatDoor
open Go.RowKit
set_option linter.unusedVariables false
set_option linter.unusedSimpArgs false
set_option maxRecDepth 100000
set_option maxHeartbeats 400000
theorem cf_spec_l1Split : CfW Tryz.prog 85 := cfW Tryz.func85
theorem s_spec_l1Split {vs1 : ByteArray} {b2 : Int} {r : List ByteArray} (h : zB2 vs1 b2 = some r) : zT Tryz.prog 85 [.c (.v (.string vs1)), .c (.v (.int .u8 b2))] (.ow 0) [(0, .arr 9 1 (r.map c9))] := by
 refine CtW [4] Tryz.func85 rfl rfl 34 ?_
 unfold zB2 at h
 refine VS ?_
 refine L1 rfl rfl (zAU (e := 9) 1 (by decide) (.inl rfl)) ?_
 refine YF ?_
 refine VS ?_
 refine L1 rfl rfl (zAU (e := 9) 1 (by decide) (.inl rfl)) ?_
 refine YF ?_
 refine VE ?_
 refine zJ ?_
 refine VE ?_
 obtain ⟨o7, hLo7, h⟩ := zA h
 refine zCV (mb 34 97) [40] (s1 := ⟨.c (.v (.string vs1)) :: bt 4 (.ow 40 :: I o7.1 :: bt 27 []), [(40, .arr 9 1 (o7.2.map c9))]⟩) ?_ ?_
 ·clear h
  refine zN (jH (fun n s => ∃ (vfrom3 : Int) (i4 : Int) (l5 : List ByteArray), s.keep (mb 34 227) [40] = (⟨.c (.v (.string vs1)) :: .c (.v (.int .u8 b2)) :: bt 3 (.ow 40 :: I vfrom3 :: I i4 :: bt 26 []), [(40, .arr 9 1 (l5.map c9))]⟩ : St) ∧ zAL b2 vs1 n vfrom3 i4 l5 = some o7) FU ⟨_, _, _,  kk, hLo7⟩ ?_)
  clear hLo7
  rintro n s ⟨vfrom3, i4, l5, hs, h⟩
  refine jE _ _ hs ?_
  clear hs
  cases n with
  | zero => cases h
  | succ n =>
   rw [zAL] at h
   refine zJ ?_
   refine VS ?_
   refine YF ?_
   refine VC h (fun h => ?_) (fun h => ?_)
   ·refine zG ?_
    show V _ _ _ _
    refine zJ ?_
    refine zN ?_
    obtain ⟨e9, he9, h⟩ := zA h
    refine VS ?_
    refine YR 2 ?_
    refine L0 rfl rfl (zC0 (b := vs1) (k := .i64) (n := i4) (v := e9) Tryz.underlying9 rfl kk kk he9) ?_
    refine YF ?_
    refine VC h (fun h => ?_) (fun h => ?_)
    ·obtain ⟨u11, hu11, h⟩ := zA h
     obtain ⟨u12, hu12, h⟩ := zA h
     refine VS ?_
     refine YR 4 ?_
     refine L0 rfl rfl (zCf (b := vs1) (l := vfrom3) (h := i4) Tryz.underlying9 rfl kk (fun y hy => by cases hy; exact ⟨.i64, kk⟩) (fun hh => by cases hh) (fun y hy => by cases hy; exact ⟨.i64, kk⟩) (fun hh => by cases hh) (zB1 hu11)) ?_
     refine L1 rfl rfl (qP (z := zv9) (els := [vs1.extract (Int.toNat vfrom3) (Int.toNat i4)].map c9) Tryz.underlying66 iz9 rfl (by decide) rfl kk rfl (by simp [c9]) (by decide) (by decide)) ?_
     refine zM rfl (zBJ (c := c9) (xs := l5) (ys := [vs1.extract (Int.toNat vfrom3) (Int.toNat i4)]) (id := 40) (z := zv9) rfl rfl Tryz.underlying66 izb9 rfl kk kk kk (fun _ => rfl) (by simp) (zAY hu12) (by decide)) ?_
     refine YF ?_
     obtain ⟨vfrom13, hvfrom13, h⟩ := zS h
     refine jD (mb 34 227) [40] (s1 := ⟨.c (.v (.string vs1)) :: .c (.v (.int .u8 b2)) :: bt 3 (.ow 40 :: I vfrom13 :: I i4 :: bt 26 []), [(40, .arr 9 1 ((l5 ++ ([vs1.extract (Int.toNat vfrom3) (Int.toNat i4)])).map c9))]⟩) ?_ ?_
     ·refine XR 3 ?_
      refine zK ?_
      subst hvfrom13
      kernel_rfl
     show V _ _ _ _
     obtain ⟨i14, hi14, h⟩ := zS h
     refine jD (mb 34 227) [40] (s1 := ⟨.c (.v (.string vs1)) :: .c (.v (.int .u8 b2)) :: bt 3 (.ow 40 :: I vfrom13 :: I i14 :: bt 26 []), [(40, .arr 9 1 ((l5 ++ ([vs1.extract (Int.toNat vfrom3) (Int.toNat i4)])).map c9))]⟩) ?_ ?_
     ·refine XR 3 ?_
      refine zK ?_
      subst hi14
      kernel_rfl
     exact ⟨n, Nat.lt_succ_self n, _, _, _,  kk, h⟩
    ·refine zG ?_
     show V _ _ _ _
     obtain ⟨i15, hi15, h⟩ := zS h
     refine jD (mb 34 227) [40] (s1 := ⟨.c (.v (.string vs1)) :: .c (.v (.int .u8 b2)) :: bt 3 (.ow 40 :: I vfrom3 :: I i15 :: bt 26 []), [(40, .arr 9 1 (l5.map c9))]⟩) ?_ ?_
     ·refine XR 3 ?_
      refine zK ?_
      subst hi15
      kernel_rfl
     exact ⟨n, Nat.lt_succ_self n, _, _, _,  kk, h⟩
   ·refine jA ?_
    obtain rfl := zB h
    show St.keep _ _ _ = _
    kernel_rfl
 show V _ _ _ _
 obtain ⟨u16, hu16, h⟩ := zA h
 obtain ⟨u17, hu17, h⟩ := zA h
 obtain ⟨l18, hl18, h⟩ := zA h
 have hl18 := zB hl18
 refine zO (mb 34 16) [40] (s1 := ⟨bt 4 (.ow 40 :: bt 29 []), [(40, .arr 9 1 (l18.map c9))]⟩) ?_ ?_
 ·refine XR 3 ?_
  refine L0 rfl rfl (zCf (b := vs1) (l := o7.1) (h := (vs1.size : Int)) Tryz.underlying9 rfl kk (fun y hy => by cases hy; exact ⟨.i64, kk⟩) (fun hh => by cases hh) (fun y hy => by cases hy) (fun _ => rfl) (zB1 hu16)) ?_
  refine L1 rfl rfl (qP (z := zv9) (els := [vs1.extract (Int.toNat o7.1) (Int.toNat ((vs1.size : Int)))].map c9) Tryz.underlying66 iz9 rfl (by decide) rfl kk rfl (by simp [c9]) (by decide) (by decide)) ?_
  refine zM rfl (zBJ (c := c9) (xs := o7.2) (ys := [vs1.extract (Int.toNat o7.1) (Int.toNat ((vs1.size : Int)))]) (id := 40) (z := zv9) rfl rfl Tryz.underlying66 izb9 rfl kk kk kk (fun _ => rfl) (by simp) (zAY hu17) (by decide)) ?_
  refine XR 1 ?_
  refine zK ?_
  subst hl18
  kernel_rfl
 cases h
 exact zE VT
theorem cf_spec_foInside : CfW Tryz.prog 214 := cfW Tryz.func214
theorem s_spec_foInside {vs1 : ByteArray} {first2 : Int} {last3 : Int} {r : (ByteArray × Bool)} (h : zBM vs1 first2 last3 = some r) : zT Tryz.prog 214 [.c (.v (.string vs1)), .c (.v (.int .u8 first2)), .c (.v (.int .u8 last3))] (.tc (.c (.v (.string r.1))) (.tc (Bo r.2) .tn)) [] := by
 refine CtW [6, 7] Tryz.func214 rfl rfl 31 ?_
 unfold zBM at h
 refine VE ?_
 refine zJ ?_
 obtain ⟨b6, hb6, h⟩ := zA h
 obtain ⟨b9, hb9, h⟩ := zA h
 refine zO (mb 31 33554433) [] (s1 := ⟨.c (.v (.string vs1)) :: bt 24 (Bo b9 :: bt 5 []), []⟩) ?_ ?_
 ·refine YR 4 ?_
  refine zD (ltI ((vs1.size : Int)) 2) (fun hc4 => ?_) (fun hc4 => ?_)
  ·have hb6 := zB (qM hb6 hc4)
   refine YQ hc4 ?_
   refine YR 6 ?_
   subst hb6
   have hc7 : true = true := rfl
   have hb9 := zB (qM hb9 hc7)
   exact YE (by rw [← hb9]; (try rw [hc4]); kernel_rfl)
  ·have hb6 := qB hb6 hc4
   obtain ⟨e5, he5, hb6⟩ := zA hb6
   have hb6 := zB hb6
   refine YQ hc4 ?_
   refine YR 1 ?_
   refine YT (qD rfl (zC0 (b := vs1) (k := .i64) (n := 0) (v := e5) Tryz.underlying9 rfl kk kk he5)) ?_
   refine YR 4 ?_
   refine zD b6 (fun hc7 => ?_) (fun hc7 => ?_)
   ·have hb9 := zB (qM hb9 hc7)
    refine YQ hc7 ?_ (by rw [← hb6]; (try rw [← hb9]); (try rw [hc4]); kernel_rfl)
    exact YE (by rw [← hb9]; (try rw [hc4]); (try rw [hc7]); kernel_rfl)
   ·have hb9 := qB hb9 hc7
    obtain ⟨e8, he8, hb9⟩ := zA hb9
    have hb9 := zB hb9
    refine YQ hc7 ?_ (by rw [← hb6]; (try rw [← hb9]); (try rw [hc4]); kernel_rfl)
    refine YR 4 ?_
    refine YT (qD rfl (zC0 (b := vs1) (k := .i64) (n := w64 (((vs1.size : Int)) - 1)) (v := e8) Tryz.underlying9 rfl kk kk he8)) ?_
    exact YE (by rw [← hb9]; (try rw [hc4]); (try rw [hc7]); kernel_rfl)
 refine VC h (fun h => ?_) (fun h => ?_)
 ·refine VE ?_
  cases h
  exact zE VT
 ·refine zG ?_
  show V _ _ _ _
  obtain ⟨u11, hu11, h⟩ := zA h
  refine VS ?_
  refine YR 4 ?_
  refine L0 rfl rfl (zCf (b := vs1) (l := 1) (h := w64 (((vs1.size : Int)) - 1)) Tryz.underlying9 rfl kk (fun y hy => by cases hy; exact ⟨.i64, kk⟩) (fun hh => by cases hh) (fun y hy => by cases hy; exact ⟨.i64, kk⟩) (fun hh => by cases hh) (zB1 hu11)) ?_
  refine YF ?_
  cases h
  exact zE VT
theorem cf_spec_nuRead : CfW Tryz.prog 216 := cfW Tryz.func216
theorem s_spec_nuRead {vs1 : ByteArray} {r : Int} (h : zDe vs1 = some r) : zT Tryz.prog 216 [.c (.v (.string vs1))] (I r) [] := by
 refine CtW [2] Tryz.func216 rfl rfl 44 ?_
 unfold zDe at h
 refine VE ?_
 refine zJ ?_
 obtain ⟨y2, hy2, h⟩ := zA h
 obtain ⟨b6, hb6, h⟩ := zA h
 refine zO (mb 44 262145) [] (s1 := ⟨.c (.v (.string vs1)) :: bt 17 (Bo b6 :: bt 25 []), []⟩) ?_ ?_
 ·refine YK 2 (zDv hy2) zD4 ?_
  refine YR 2 ?_
  refine zD (!y2) (fun hc3 => ?_) (fun hc3 => ?_)
  ·have hb6 := zB (qM hb6 hc3)
   refine YQ hc3 ?_
   exact YE (by rw [← hb6]; (try rw [hc3]); kernel_rfl)
  ·have hb6 := qB hb6 hc3
   obtain ⟨e4, he4, hb6⟩ := zA hb6
   have hb6 := zB hb6
   refine YQ hc3 ?_
   refine YR 1 ?_
   refine YT (qD rfl (zC0 (b := vs1) (k := .i64) (n := 0) (v := e4) Tryz.underlying9 rfl kk kk he4)) ?_
   refine YR 2 ?_
   refine zD (eqI e4 48) (fun hc5 => ?_) (fun hc5 => ?_)
   ·refine YQ hc5 ?_
    exact YE (by rw [← hb6]; (try rw [hc5]); (try rw [hc3]); kernel_rfl)
   ·refine YQ hc5 ?_
    exact YE (by rw [← hb6]; (try rw [hc5]); (try rw [hc3]); kernel_rfl)
 refine VC h (fun h => ?_) (fun h => ?_)
 ·refine VE ?_
  cases h
  exact zE VT
 ·refine zG ?_
  show V _ _ _ _
  refine VE ?_
  refine zJ ?_
  refine VE ?_
  obtain ⟨qo11, hLo11, hko11⟩ := zA h
  refine zEX (q := qo11) (S := fun o11 => ⟨bt 3 (I o11 :: bt 40 []), []⟩) (mb 44 8) [] ?_ ?_
  ·refine zN (jH (fun n s => ∃ (vn8 : Int) (i9 : Int), s.keep (mb 44 25) [] = (⟨.c (.v (.string vs1)) :: .bot :: .bot :: I vn8 :: I i9 :: bt 39 [], []⟩ : St) ∧ zAb vs1 n vn8 i9 = some qo11) FU ⟨_, _,  kk, hLo11⟩ ?_)
   clear hLo11
   rintro n s ⟨vn8, i9, hs, h⟩
   refine jE _ _ hs ?_
   clear hs
   cases n with
   | zero => cases h
   | succ n =>
    rw [zAb] at h
    refine zJ ?_
    refine VS ?_
    refine YF ?_
    refine VC h (fun h => ?_) (fun h => ?_)
    ·refine zG ?_
     show V _ _ _ _
     refine zJ ?_
     refine zN ?_
     refine zJ ?_
     obtain ⟨e13, he13, h⟩ := zA h
     obtain ⟨b16, hb16, h⟩ := zA h
     refine zO (mb 44 17179869209) [] (s1 := ⟨.c (.v (.string vs1)) :: .bot :: .bot :: I vn8 :: I i9 :: bt 29 (Bo b16 :: bt 9 []), []⟩) ?_ ?_
     ·refine YR 2 ?_
      refine L0 rfl rfl (zC0 (b := vs1) (k := .i64) (n := i9) (v := e13) Tryz.underlying9 rfl kk kk he13) ?_
      refine YR 2 ?_
      refine zD (ltI e13 48) (fun hc14 => ?_) (fun hc14 => ?_)
      ·have hb16 := zB (qM hb16 hc14)
       refine YQ hc14 ?_
       exact YE (by rw [← hb16]; (try rw [hc14]); kernel_rfl)
      ·have hb16 := qB hb16 hc14
       obtain ⟨e15, he15, hb16⟩ := zA hb16
       have hb16 := zB hb16
       refine YQ hc14 ?_
       refine YR 2 ?_
       refine YT (qD rfl (zC0 (b := vs1) (k := .i64) (n := i9) (v := e15) Tryz.underlying9 rfl kk kk he15)) ?_
       exact YE (by rw [← hb16]; (try rw [hc14]); kernel_rfl)
     refine VC h (fun h => ?_) (fun h => ?_)
     ·refine VE ?_
      refine zE ?_
      obtain rfl := zB h
      have h := hko11
      obtain rfl := zB h
      exact VT
     ·refine zG ?_
      show V _ _ _ _
      obtain ⟨e18, he18, h⟩ := zA h
      obtain ⟨vn19, hvn19, h⟩ := zS h
      refine jD (mb 44 25) [] (s1 := ⟨.c (.v (.string vs1)) :: .bot :: .bot :: I vn19 :: I i9 :: bt 39 [], []⟩) ?_ ?_
      ·refine XR 4 ?_
       refine L0 rfl rfl (zC0 (b := vs1) (k := .i64) (n := i9) (v := e18) Tryz.underlying9 rfl kk kk he18) ?_
       refine L0 rfl rfl (Y0_sub (k := .u8) (a := e18) (b := 48) rfl kk kk) ?_
       refine L0 rfl rfl (Y0_conv (k2 := .u8) (a := IntKind.u8.wrap (e18 - 48)) Tryz.underlying5 Tryz.underlying3 rfl kk) ?_
       refine XR 2 ?_
       refine zK ?_
       subst hvn19
       kernel_rfl
      show V _ _ _ _
      obtain ⟨i20, hi20, h⟩ := zS h
      refine jD (mb 44 25) [] (s1 := ⟨.c (.v (.string vs1)) :: .bot :: .bot :: I vn19 :: I i20 :: bt 39 [], []⟩) ?_ ?_
      ·refine XR 3 ?_
       refine zK ?_
       subst hi20
       kernel_rfl
      exact ⟨n, Nat.lt_succ_self n, _, _,  kk, h⟩
    ·refine jA ?_
     obtain rfl := zB h
     exact ⟨_, rfl, kk⟩
  rintro o11 rfl
  have h := hko11
  clear hko11
  show V _ _ _ _
  refine VE ?_
  cases h
  exact zE VT
theorem cf_spec_foInt : CfW Tryz.prog 146 := cfW Tryz.func146
theorem s_spec_foInt {vs1 : ByteArray} {r : (Int × Bool)} (h : zCp vs1 = some r) : zT Tryz.prog 146 [.c (.v (.string vs1))] (.tc (I r.1) (.tc (Bo r.2) .tn)) [] := by
 refine CtW [2, 3] Tryz.func146 rfl rfl 36 ?_
 unfold zCp at h
 refine VE ?_
 obtain ⟨b4, hb4, h⟩ := zA h
 refine zO (mb 36 17) [] (s1 := ⟨.c (.v (.string vs1)) :: bt 3 (Bo b4 :: bt 31 []), []⟩) ?_ ?_
 ·refine YR 4 ?_
  refine zD (ltI 1 ((vs1.size : Int))) (fun hc2 => ?_) (fun hc2 => ?_)
  ·have hb4 := qM hb4 hc2
   obtain ⟨e3, he3, hb4⟩ := zA hb4
   have hb4 := zB hb4
   refine YQ hc2 ?_
   refine YR 1 ?_
   refine YT (qD rfl (zC0 (b := vs1) (k := .i64) (n := 0) (v := e3) Tryz.underlying9 rfl kk kk he3)) ?_
   exact YE (by rw [← hb4]; (try rw [hc2]); kernel_rfl)
  ·have hb4 := zB (qB hb4 hc2)
   refine YQ hc2 ?_
   exact YE (by rw [← hb4]; (try rw [hc2]); kernel_rfl)
 obtain ⟨j5, hj5, h⟩ := zA h
 refine zCw (mb 36 17) [] (s1 := ⟨.c (.v (.string j5)) :: bt 3 (Bo b4 :: bt 31 []), []⟩) ?_ ?_
 ·clear h
  have h := hj5
  clear hj5
  refine VE ?_
  refine VC h (fun h => ?_) (fun h => ?_)
  ·obtain ⟨u7, hu7, h⟩ := zA h
   refine zX ?_
   refine YR 1 ?_
   refine L0 rfl rfl (zCf (b := vs1) (l := 1) (h := (vs1.size : Int)) Tryz.underlying9 rfl kk (fun y hy => by cases hy; exact ⟨.i64, kk⟩) (fun hh => by cases hh) (fun y hy => by cases hy) (fun _ => rfl) (zB1 hu7)) ?_
   refine YF ?_
   obtain rfl := zB h
   show St.keep _ _ _ = _
   kernel_rfl
  ·refine zG ?_
   obtain rfl := zB h
   show St.keep _ _ _ = _
   kernel_rfl
 obtain ⟨y8, hy8, h⟩ := zA h
 refine VS ?_
 refine YK 1 (s_spec_nuRead hy8) cf_spec_nuRead ?_
 refine YF ?_
 refine zJ ?_
 obtain ⟨t12, ht12, h⟩ := zA h
 have ht12 := zB ht12
 refine zO (mb 36 2147483696) [] (s1 := ⟨bt 4 (Bo b4 :: I y8 :: bt 25 (Bo t12 :: bt 4 [])), []⟩) ?_ ?_
 ·refine YR 3 ?_
  refine zD (ltI y8 0) (fun hc9 => ?_) (fun hc9 => ?_)
  ·refine YQ hc9 ?_
   refine YR 7 ?_
   refine zD (bif (ltI y8 0) then true else (bif b4 then (eqI y8 0) else false)) (fun hc11 => ?_) (fun hc11 => ?_)
   ·refine YQ hc11 ?_ (by rw [hc9]; kernel_rfl)
    exact YE (by rw [← ht12]; (try rw [hc11]); (try rw [hc9]); kernel_rfl)
   ·refine YQ hc11 ?_ (by rw [hc9]; kernel_rfl)
    exact YE (by rw [← ht12]; (try rw [hc11]); (try rw [hc9]); kernel_rfl)
  ·refine YQ hc9 ?_
   refine YR 2 ?_
   refine zD b4 (fun hc10 => ?_) (fun hc10 => ?_)
   ·refine YQ hc10 ?_
    refine YR 5 ?_
    refine zD (bif (ltI y8 0) then true else (bif b4 then (eqI y8 0) else false)) (fun hc11 => ?_) (fun hc11 => ?_)
    ·refine YQ hc11 ?_ (by rw [hc9]; (try rw [hc10]); kernel_rfl)
     exact YE (by rw [← ht12]; (try rw [hc11]); (try rw [hc9]); (try rw [hc10]); kernel_rfl)
    ·refine YQ hc11 ?_ (by rw [hc9]; (try rw [hc10]); kernel_rfl)
     exact YE (by rw [← ht12]; (try rw [hc11]); (try rw [hc9]); (try rw [hc10]); kernel_rfl)
   ·refine YQ hc10 ?_
    refine YR 5 ?_
    refine zD (bif (ltI y8 0) then true else (bif b4 then (eqI y8 0) else false)) (fun hc11 => ?_) (fun hc11 => ?_)
    ·refine YQ hc11 ?_ (by rw [hc9]; (try rw [hc10]); kernel_rfl)
     exact YE (by rw [← ht12]; (try rw [hc11]); (try rw [hc9]); (try rw [hc10]); kernel_rfl)
    ·refine YQ hc11 ?_ (by rw [hc9]; (try rw [hc10]); kernel_rfl)
     exact YE (by rw [← ht12]; (try rw [hc11]); (try rw [hc9]); (try rw [hc10]); kernel_rfl)
 refine VC h (fun h => ?_) (fun h => ?_)
 ·refine VE ?_
  cases h
  exact zE VT
 ·refine zG ?_
  show V _ _ _ _
  refine zJ ?_
  refine VE ?_
  refine VC h (fun h => ?_) (fun h => ?_)
  ·obtain ⟨t15, ht15, h⟩ := zS h
   refine zO (mb 36 12) [] (s1 := ⟨.bot :: .bot :: I t15 :: Bo true :: bt 32 [], []⟩) ?_ ?_
   ·refine XR 4 ?_
    refine zK ?_
    subst ht15
    kernel_rfl
   cases h
   exact zE VT
  ·refine zG ?_
   show V _ _ _ _
   refine VE ?_
   cases h
   exact zE VT
theorem cf_spec_foInts : CfW Tryz.prog 215 := cfW Tryz.func215
theorem s_spec_foInts {vs1 : ByteArray} {b2 : Int} {count3 : Int} {r : List Int} (h : zBY vs1 b2 count3 = some r) : zT Tryz.prog 215 [.c (.v (.string vs1)), .c (.v (.int .u8 b2)), I count3] (.ow 0) [(0, .arr 3 1 (r.map c3))] := by
 refine CtW [6] Tryz.func215 rfl rfl 39 ?_
 unfold zBY at h
 refine VS ?_
 refine L1 rfl rfl (zAU (e := 3) 1 (by decide) (.inl rfl)) ?_
 refine YF ?_
 obtain ⟨y4, hy4, h⟩ := zA h
 refine VS ?_
 refine YK 2 (s_spec_l1Split hy4) cf_spec_l1Split ?_
 refine YF ?_
 refine zJ ?_
 refine VS ?_
 refine YR 1 ?_
 refine L0 rfl rfl (qK (c := c9) (xs := y4) Tryz.underlying66 rfl kk) ?_
 refine YF ?_
 refine VC h (fun h => ?_) (fun h => ?_)
 ·refine VS ?_
  refine L1 rfl rfl (zAU (e := 3) 1 (by decide) (.inl rfl)) ?_
  refine YF ?_
  cases h
  exact zE VT
 ·refine zG ?_
  show V _ _ _ _
  refine VS ?_
  refine L1 rfl rfl (zAU (e := 3) 1 (by decide) (.inl rfl)) ?_
  refine YF ?_
  refine zJ ?_
  refine VS ?_
  refine YR 1 ?_
  refine L0 rfl rfl (qK (c := c9) (xs := y4) Tryz.underlying66 rfl kk) ?_
  refine YF ?_
  obtain ⟨qo9, hLo9, hko9⟩ := zA h
  refine zEX (q := qo9) (S := fun o9 => ⟨bt 8 (.ow 64 :: bt 30 []), [(64, .arr 3 1 (o9.map c3))]⟩) (mb 39 256) [64] ?_ ?_
  ·refine zN (jH (fun n s => ∃ (t6 : Int) (l7 : List Int), s.keep (mb 39 7340288) [64, 120] = (⟨bt 8 (.ow 64 :: bt 11 (.ow 120 :: I ((y4.length : Int)) :: I t6 :: bt 16 [])), [(64, .arr 3 1 (l7.map c3)), (120, .arr 9 1 (y4.map c9))]⟩ : St) ∧ zAF y4 n t6 l7 = some qo9) FU ⟨_, _,  kk, hLo9⟩ ?_)
   clear hLo9
   rintro n s ⟨t6, l7, hs, h⟩
   refine jE _ _ hs ?_
   clear hs
   cases n with
   | zero => cases h
   | succ n =>
    rw [zAF] at h
    refine VE ?_
    refine zJ ?_
    refine VC h (fun h => ?_) (fun h => ?_)
    ·refine zG ?_
     show V _ _ _ _
     refine zJ ?_
     refine zN ?_
     obtain ⟨e11, he11, h⟩ := zA h
     obtain ⟨e12, he12, h⟩ := zA h
     refine VS ?_
     refine L0 rfl rfl (zAV (c := c9) (xs := y4) (v := e11) (id := 120) (T := 9) (sz := 1) (n := t6) Tryz.underlying66 sz9 rfl kk kk kk he11) ?_
     refine L0 rfl rfl (zA5 (c := c9) (xs := y4) (v := e12) (id := 120) (sz := 1) (T := 9) (off := 0) (n := t6) (d := .v (.string e12)) (ds := []) sc9 rfl kk kk he12 kk) ?_
     refine YF ?_
     obtain ⟨y13, hy13, h⟩ := zA h
     refine VS ?_
     refine YK 1 (s_spec_foInt hy13) cf_spec_foInt ?_
     refine YF ?_
     refine zJ ?_
     refine VE ?_
     refine VC h (fun h => ?_) (fun h => ?_)
     ·refine VS ?_
      refine L1 rfl rfl (zAU (e := 3) 1 (by decide) (.inl rfl)) ?_
      refine YF ?_
      refine zE ?_
      obtain rfl := zB h
      have h := hko9
      obtain rfl := zB h
      exact VT
     ·refine zG ?_
      show V _ _ _ _
      obtain ⟨u15, hu15, h⟩ := zA h
      refine zX ?_
      refine YR 2 ?_
      refine L1 rfl rfl (qP (z := zv3) (els := [y13.1].map c3) Tryz.underlying24 iz3 rfl (by decide) rfl kk rfl (by simp [c3]) (by decide) (by decide)) ?_
      refine zM rfl (zBJ (c := c3) (xs := l7) (ys := [y13.1]) (id := 64) (z := zv3) rfl rfl Tryz.underlying24 izb3 rfl kk kk kk (fun _ => rfl) (by simp) (zAY hu15) (by decide)) ?_
      refine YF ?_
      show V _ _ _ _
      obtain ⟨t16, ht16, h⟩ := zS h
      refine jD (mb 39 7340288) [64, 120] (s1 := ⟨bt 8 (.ow 64 :: bt 11 (.ow 120 :: I ((y4.length : Int)) :: I t16 :: bt 16 [])), [(64, .arr 3 1 ((l7 ++ ([y13.1])).map c3)), (120, .arr 9 1 (y4.map c9))]⟩) ?_ ?_
      ·refine XR 2 ?_
       refine zK ?_
       subst ht16
       kernel_rfl
      exact ⟨n, Nat.lt_succ_self n, _, _,  kk, h⟩
    ·refine jA ?_
     obtain rfl := zB h
     exact ⟨_, rfl, kk⟩
  rintro o9 rfl
  have h := hko9
  clear hko9
  show V _ _ _ _
  refine VE ?_
  cases h
  exact zE VT
theorem cf_spec_foRead : CfW Tryz.prog 144 := cfW Tryz.func144
theorem s_spec_foRead {vs1 : ByteArray} {r : (((Int × Int × Int)) × Bool)} (h : zBj vs1 = some r) : zT Tryz.prog 144 [.c (.v (.string vs1))] (.tc (.ag [Ti r.1.1, Ti r.1.2.1, Ti r.1.2.2]) (.tc (Bo r.2) .tn)) [] := by
 refine zY (rs := [.w 2 3, .t 3]) (vs := [.cell 2 38, .tmp 3]) Tryz.func144 rfl rfl (.cons ⟨rfl, wd38⟩ (.cons rfl FitsL.nil)) (by decide) 32 rfl ?_
 unfold zBj at h
 refine VE ?_
 obtain ⟨y2, hy2, h⟩ := zA h
 refine VS ?_
 refine YK 1 (s_spec_foInside hy2) cf_spec_foInside ?_
 refine YF ?_
 obtain ⟨y3, hy3, h⟩ := zA h
 refine VS ?_
 refine YK 1 (s_spec_foInts hy3) cf_spec_foInts ?_
 refine YF ?_
 refine zJ ?_
 refine zO (mb 32 1048644) [104, 16] (s1 := ⟨.bot :: .bot :: .pt 16 0 :: bt 3 (.ow 104 :: bt 13 (Bo (bif (!y2.2) then true else (!eqI ((y3.length : Int)) 3)) :: bt 11 [])), [(104, .arr 3 1 (y3.map c3)), (16, .box [Ti 0, Ti 0, Ti 0])]⟩) ?_ ?_
 ·refine YR 3 ?_
  refine zD (!y2.2) (fun hc4 => ?_) (fun hc4 => ?_)
  ·refine YQ hc4 ?_
   exact YE (by rw [hc4]; kernel_rfl)
  ·refine YQ hc4 ?_
   refine YR 1 ?_
   refine YT (qD rfl (qK (c := c3) (xs := y3) Tryz.underlying24 rfl kk)) ?_
   exact YE (by rw [hc4]; kernel_rfl)
 refine VC h (fun h => ?_) (fun h => ?_)
 ·refine VS ?_
  refine L0 rfl rfl (zW (cs := [Ti 0, Ti 0, Ti 0]) pl38 bt38 rfl rfl kk) ?_
  refine YF ?_
  cases h
  exact zE VT
 ·refine zG ?_
  show V _ _ _ _
  obtain ⟨e6, he6, h⟩ := zA h
  obtain ⟨e7, he7, h⟩ := zA h
  obtain ⟨e8, he8, h⟩ := zA h
  obtain ⟨e9, he9, h⟩ := zA h
  obtain ⟨e10, he10, h⟩ := zA h
  obtain ⟨e11, he11, h⟩ := zA h
  refine VDS [0, 1, 3, 0, 8, 24, 0, 64, 192, 511, 1023, 2047] 10 (cdm 10 [174720, 174721, 174725, 172074, 172138, 172394, 2730, 6826, 23210, 87381]) ?_
  refine ER 1 ?_
  refine E0 1 rfl rfl (zAV (c := c3) (xs := y3) (v := e6) (id := 104) (T := 3) (sz := 1) (n := 0) Tryz.underlying24 sz3 rfl kk kk kk he6) ?_
  refine E0 2 rfl rfl (zA5 (c := c3) (xs := y3) (v := e7) (id := 104) (sz := 1) (T := 3) (off := 0) (n := 0) (d := Ti e7) (ds := []) sc3 rfl kk kk he7 kk) ?_
  refine ER 1 ?_
  refine E0 4 rfl rfl (zAV (c := c3) (xs := y3) (v := e8) (id := 104) (T := 3) (sz := 1) (n := 1) Tryz.underlying24 sz3 rfl kk kk kk he8) ?_
  refine E0 5 rfl rfl (zA5 (c := c3) (xs := y3) (v := e9) (id := 104) (sz := 1) (T := 3) (off := 0) (n := 1) (d := Ti e9) (ds := []) sc3 rfl kk kk he9 kk) ?_
  refine ER 1 ?_
  refine E0 7 rfl rfl (zAV (c := c3) (xs := y3) (v := e10) (id := 104) (T := 3) (sz := 1) (n := 2) Tryz.underlying24 sz3 rfl kk kk kk he10) ?_
  refine E0 8 rfl rfl (zA5 (c := c3) (xs := y3) (v := e11) (id := 104) (sz := 1) (T := 3) (off := 0) (n := 2) (d := Ti e11) (ds := []) sc3 rfl kk kk he11 kk) ?_
  refine E0 9 rfl rfl (zW (cs := [Ti e7, Ti e9, Ti e11]) pl38 bt38 rfl rfl kk) ?_
  refine EF 0 ?_
  cases h
  exact zE VT
theorem cf_spec_lgRead : CfW Tryz.prog 88 := cfW Tryz.func88
theorem s_spec_lgRead {vs1 : ByteArray} {r : (((Int × ByteArray × ByteArray × ByteArray × ((Int × Int × Int)))) × Bool)} (h : zAx vs1 = some r) : zT Tryz.prog 88 [.c (.v (.string vs1))] (.tc (.ag [Ti r.1.1, .v (.string r.1.2.1), .v (.string r.1.2.2.1), .v (.string r.1.2.2.2.1), Ti r.1.2.2.2.2.1, Ti r.1.2.2.2.2.2.1, Ti r.1.2.2.2.2.2.2]) (.tc (Bo r.2) .tn)) [] := by
 refine zY (rs := [.w 2 7, .t 3]) (vs := [.cell 2 40, .tmp 3]) Tryz.func88 rfl rfl (.cons ⟨rfl, wd40⟩ (.cons rfl FitsL.nil)) (by decide) 84 rfl ?_
 unfold zAx at h
 refine VE ?_
 obtain ⟨y2, hy2, h⟩ := zA h
 refine VS ?_
 refine YK 1 (s_spec_l1Split hy2) cf_spec_l1Split ?_
 refine YF ?_
 refine zJ ?_
 obtain ⟨y3, hy3, h⟩ := zA h
 refine VS ?_
 refine YR 1 ?_
 refine L0 rfl rfl (qK (c := c9) (xs := y2) Tryz.underlying66 rfl kk) ?_
 refine YK 0 (zDv hy3) zD4 ?_
 refine YF ?_
 refine VC h (fun h => ?_) (fun h => ?_)
 ·refine VS ?_
  refine L0 rfl rfl (zW (cs := [Ti 0, .v (.string ByteArray.empty), .v (.string ByteArray.empty), .v (.string ByteArray.empty), Ti 0, Ti 0, Ti 0]) pl40 bt40 rfl rfl kk) ?_
  refine YF ?_
  cases h
  exact zE VT
 ·refine zG ?_
  show V _ _ _ _
  obtain ⟨e5, he5, h⟩ := zA h
  obtain ⟨e6, he6, h⟩ := zA h
  refine VS ?_
  refine YR 1 ?_
  refine L0 rfl rfl (zAV (c := c9) (xs := y2) (v := e5) (id := 88) (T := 9) (sz := 1) (n := 1) Tryz.underlying66 sz9 rfl kk kk kk he5) ?_
  refine L0 rfl rfl (zA5 (c := c9) (xs := y2) (v := e6) (id := 88) (sz := 1) (T := 9) (off := 0) (n := 1) (d := .v (.string e6)) (ds := []) sc9 rfl kk kk he6 kk) ?_
  refine L0 rfl rfl (zW (cs := [Ti 0, .v (.string e6), .v (.string ByteArray.empty), .v (.string ByteArray.empty), Ti 0, Ti 0, Ti 0]) pl40 bt40 rfl rfl kk) ?_
  refine YF ?_
  refine zJ ?_
  obtain ⟨y7, hy7, h⟩ := zA h
  refine VS ?_
  refine YK 0 (s_spec_lgWords hy7) cf_spec_lgWords ?_
  refine L0 rfl rfl (qK (c := c9) (xs := y7) Tryz.underlying66 rfl kk) ?_
  refine YF ?_
  obtain ⟨o11, hLo11, h⟩ := zA h
  refine zCV (mb 84 53) [40, 88, 16] (s1 := ⟨.c (.v (.string vs1)) :: .bot :: .pt 16 0 :: .bot :: .ow 88 :: .pt 40 0 :: bt 78 [], [(40, .box [Ti o11, .v (.string e6), .v (.string ByteArray.empty), .v (.string ByteArray.empty), Ti 0, Ti 0, Ti 0]), (88, .arr 9 1 (y2.map c9)), (16, .box [Ti 0, .v (.string ByteArray.empty), .v (.string ByteArray.empty), .v (.string ByteArray.empty), Ti 0, Ti 0, Ti 0])]⟩) ?_ ?_
  ·clear h
   refine zN (jH (fun n s => ∃ (t8 : Int) (f9 : Int), s.keep (mb 84 14680117) [168, 40, 88, 16] = (⟨.c (.v (.string vs1)) :: .bot :: .pt 16 0 :: .bot :: .ow 88 :: .pt 40 0 :: bt 15 (.ow 168 :: I ((y7.length : Int)) :: I t8 :: bt 60 []), [(168, .arr 9 1 (y7.map c9)), (40, .box [Ti f9, .v (.string e6), .v (.string ByteArray.empty), .v (.string ByteArray.empty), Ti 0, Ti 0, Ti 0]), (88, .arr 9 1 (y2.map c9)), (16, .box [Ti 0, .v (.string ByteArray.empty), .v (.string ByteArray.empty), .v (.string ByteArray.empty), Ti 0, Ti 0, Ti 0])]⟩ : St) ∧ jJ e6 vs1 y2 y7 n t8 f9 = some o11) FU ⟨_, _,  kk, hLo11⟩ ?_)
   clear hLo11
   rintro n s ⟨t8, f9, hs, h⟩
   refine jE _ _ hs ?_
   clear hs
   cases n with
   | zero => cases h
   | succ n =>
    rw [jJ] at h
    refine VE ?_
    refine zJ ?_
    refine VC h (fun h => ?_) (fun h => ?_)
    ·refine zG ?_
     show V _ _ _ _
     refine zJ ?_
     refine zN ?_
     obtain ⟨e13, he13, h⟩ := zA h
     obtain ⟨e14, he14, h⟩ := zA h
     refine VS ?_
     refine YR 1 ?_
     refine L0 rfl rfl (zAV (c := c9) (xs := y7) (v := e13) (id := 168) (T := 9) (sz := 1) (n := t8) Tryz.underlying66 sz9 rfl kk kk kk he13) ?_
     refine L0 rfl rfl (zA5 (c := c9) (xs := y7) (v := e14) (id := 168) (sz := 1) (T := 9) (off := 0) (n := t8) (d := .v (.string e14)) (ds := []) sc9 rfl kk kk he14 kk) ?_
     refine YF ?_
     obtain ⟨b18, hb18, h⟩ := zA h
     refine zO (mb 84 68734156917) [168, 40, 88, 16] (s1 := ⟨.c (.v (.string vs1)) :: .bot :: .pt 16 0 :: .bot :: .ow 88 :: .pt 40 0 :: I t8 :: bt 14 (.ow 168 :: I ((y7.length : Int)) :: I t8 :: bt 12 (Bo b18 :: bt 47 [])), [(168, .arr 9 1 (y7.map c9)), (40, .box [Ti f9, .v (.string e6), .v (.string ByteArray.empty), .v (.string ByteArray.empty), Ti 0, Ti 0, Ti 0]), (88, .arr 9 1 (y2.map c9)), (16, .box [Ti 0, .v (.string ByteArray.empty), .v (.string ByteArray.empty), .v (.string ByteArray.empty), Ti 0, Ti 0, Ti 0])]⟩) ?_ ?_
     ·refine YR 3 ?_
      refine zD (ltI 0 t8) (fun hc15 => ?_) (fun hc15 => ?_)
      ·have hb18 := qM hb18 hc15
       obtain ⟨e16, he16, hb18⟩ := zA hb18
       obtain ⟨e17, he17, hb18⟩ := zA hb18
       have hb18 := zB hb18
       refine YQ hc15 ?_
       refine YR 2 ?_
       refine YT (qD rfl (zAV (c := c9) (xs := y2) (v := e16) (id := 88) (T := 9) (sz := 1) (n := 0) Tryz.underlying66 sz9 rfl kk kk kk he16)) ?_
       refine YT (qD rfl (zA5 (c := c9) (xs := y2) (v := e17) (id := 88) (sz := 1) (T := 9) (off := 0) (n := 0) (d := .v (.string e17)) (ds := []) sc9 rfl kk kk he17 kk)) ?_
       exact YE (by rw [← hb18]; (try rw [hc15]); kernel_rfl)
      ·have hb18 := zB (qB hb18 hc15)
       refine YQ hc15 ?_
       exact YE (by rw [← hb18]; (try rw [hc15]); kernel_rfl)
     refine VC h (fun h => ?_) (fun h => ?_)
     ·refine zX ?_
      refine YF ?_
      show V _ _ _ _
      obtain ⟨t20, ht20, h⟩ := zS h
      refine jD (mb 84 14680117) [168, 40, 88, 16] (s1 := ⟨.c (.v (.string vs1)) :: .bot :: .pt 16 0 :: .bot :: .ow 88 :: .pt 40 0 :: bt 15 (.ow 168 :: I ((y7.length : Int)) :: I t20 :: bt 60 []), [(168, .arr 9 1 (y7.map c9)), (40, .box [Ti t8, .v (.string e6), .v (.string ByteArray.empty), .v (.string ByteArray.empty), Ti 0, Ti 0, Ti 0]), (88, .arr 9 1 (y2.map c9)), (16, .box [Ti 0, .v (.string ByteArray.empty), .v (.string ByteArray.empty), .v (.string ByteArray.empty), Ti 0, Ti 0, Ti 0])]⟩) ?_ ?_
      ·refine XR 2 ?_
       refine zK ?_
       subst ht20
       kernel_rfl
      exact ⟨n, Nat.lt_succ_self n, _, _,  kk, h⟩
     ·refine zG ?_
      show V _ _ _ _
      obtain ⟨t21, ht21, h⟩ := zS h
      refine jD (mb 84 14680117) [168, 40, 88, 16] (s1 := ⟨.c (.v (.string vs1)) :: .bot :: .pt 16 0 :: .bot :: .ow 88 :: .pt 40 0 :: bt 15 (.ow 168 :: I ((y7.length : Int)) :: I t21 :: bt 60 []), [(168, .arr 9 1 (y7.map c9)), (40, .box [Ti f9, .v (.string e6), .v (.string ByteArray.empty), .v (.string ByteArray.empty), Ti 0, Ti 0, Ti 0]), (88, .arr 9 1 (y2.map c9)), (16, .box [Ti 0, .v (.string ByteArray.empty), .v (.string ByteArray.empty), .v (.string ByteArray.empty), Ti 0, Ti 0, Ti 0])]⟩) ?_ ?_
      ·refine XR 2 ?_
       refine zK ?_
       subst ht21
       kernel_rfl
      exact ⟨n, Nat.lt_succ_self n, _, _,  kk, h⟩
    ·refine jA ?_
     obtain rfl := zB h
     show St.keep _ _ _ = _
     kernel_rfl
  show V _ _ _ _
  obtain ⟨qo22, hLo22, hko22⟩ := zA h
  clear h
  refine V_cutS (q := qo22) (S := fun o22 => ⟨.c (.v (.string vs1)) :: .bot :: .pt 16 0 :: .bot :: .bot :: .pt 40 0 :: bt 78 [], [(40, .box [Ti o11, .v (.string e6), .v (.string o22.1), .v (.string o22.2.1), Ti o22.2.2.1, Ti o22.2.2.2.1, Ti o22.2.2.2.2]), (16, .box [Ti 0, .v (.string ByteArray.empty), .v (.string ByteArray.empty), .v (.string ByteArray.empty), Ti 0, Ti 0, Ti 0])]⟩) (mb 84 37) [40, 16] ?_ ?_
  ·have h := hLo22
   clear hLo22
   obtain ⟨y23, hy23, h⟩ := zA h
   refine VS ?_
   refine YK 2 (s_spec_lgHasForm hy23) zEP ?_
   refine YF ?_
   refine VC h (fun h => ?_) (fun h => ?_)
   ·refine zJ ?_
    refine VS ?_
    refine YR 1 ?_
    refine L0 rfl rfl (qK (c := c9) (xs := y2) Tryz.underlying66 rfl kk) ?_
    refine YF ?_
    refine VC h (fun h => ?_) (fun h => ?_)
    ·refine VS ?_
     refine L0 rfl rfl (zW (cs := [Ti 0, .v (.string ByteArray.empty), .v (.string ByteArray.empty), .v (.string ByteArray.empty), Ti 0, Ti 0, Ti 0]) pl40 bt40 rfl rfl kk) ?_
     refine YF ?_
     refine zE ?_
     obtain rfl := zB h
     have h := hko22
     obtain rfl := zB h
     exact VT
    ·refine zG ?_
     show V _ _ _ _
     obtain ⟨e26, he26, h⟩ := zA h
     obtain ⟨e27, he27, h⟩ := zA h
     obtain ⟨y28, hy28, h⟩ := zA h
     refine VS ?_
     refine YR 1 ?_
     refine L0 rfl rfl (zAV (c := c9) (xs := y2) (v := e26) (id := 88) (T := 9) (sz := 1) (n := 2) Tryz.underlying66 sz9 rfl kk kk kk he26) ?_
     refine L0 rfl rfl (zA5 (c := c9) (xs := y2) (v := e27) (id := 88) (sz := 1) (T := 9) (off := 0) (n := 2) (d := .v (.string e27)) (ds := []) sc9 rfl kk kk he27 kk) ?_
     refine YK 0 (s_spec_foRead hy28) cf_spec_foRead ?_
     refine YF ?_
     refine zJ ?_
     refine VE ?_
     refine VC h (fun h => ?_) (fun h => ?_)
     ·refine VS ?_
      refine L0 rfl rfl (zW (cs := [Ti 0, .v (.string ByteArray.empty), .v (.string ByteArray.empty), .v (.string ByteArray.empty), Ti 0, Ti 0, Ti 0]) pl40 bt40 rfl rfl kk) ?_
      refine YF ?_
      refine zE ?_
      obtain rfl := zB h
      have h := hko22
      obtain rfl := zB h
      exact VT
     ·refine zG ?_
      show V _ _ _ _
      refine zX ?_
      refine YF ?_
      obtain rfl := zB h
      exact ⟨_, rfl, kk⟩
   ·obtain ⟨j30, hj30, h⟩ := zA h
    refine zCw (mb 84 53) [40, 88, 16] (s1 := ⟨.c (.v (.string vs1)) :: .bot :: .pt 16 0 :: .bot :: .ow 88 :: .pt 40 0 :: bt 78 [], [(40, .box [Ti o11, .v (.string e6), .v (.string j30), .v (.string ByteArray.empty), Ti 0, Ti 0, Ti 0]), (88, .arr 9 1 (y2.map c9)), (16, .box [Ti 0, .v (.string ByteArray.empty), .v (.string ByteArray.empty), .v (.string ByteArray.empty), Ti 0, Ti 0, Ti 0])]⟩) ?_ ?_
    ·clear h
     have h := hj30
     clear hj30
     refine VS ?_
     refine YR 1 ?_
     refine L0 rfl rfl (qK (c := c9) (xs := y2) Tryz.underlying66 rfl kk) ?_
     refine YF ?_
     refine VC h (fun h => ?_) (fun h => ?_)
     ·obtain ⟨e32, he32, h⟩ := zA h
      obtain ⟨e33, he33, h⟩ := zA h
      refine zX ?_
      refine YR 1 ?_
      refine L0 rfl rfl (zAV (c := c9) (xs := y2) (v := e32) (id := 88) (T := 9) (sz := 1) (n := 2) Tryz.underlying66 sz9 rfl kk kk kk he32) ?_
      refine L0 rfl rfl (zA5 (c := c9) (xs := y2) (v := e33) (id := 88) (sz := 1) (T := 9) (off := 0) (n := 2) (d := .v (.string e33)) (ds := []) sc9 rfl kk kk he33 kk) ?_
      refine YF ?_
      obtain rfl := zB h
      show St.keep _ _ _ = _
      kernel_rfl
     ·refine zG ?_
      obtain rfl := zB h
      show St.keep _ _ _ = _
      kernel_rfl
    refine VS ?_
    refine YR 1 ?_
    refine L0 rfl rfl (qK (c := c9) (xs := y2) Tryz.underlying66 rfl kk) ?_
    refine YF ?_
    refine VC h (fun h => ?_) (fun h => ?_)
    ·obtain ⟨e35, he35, h⟩ := zA h
     obtain ⟨e36, he36, h⟩ := zA h
     refine zX ?_
     refine YR 1 ?_
     refine L0 rfl rfl (zAV (c := c9) (xs := y2) (v := e35) (id := 88) (T := 9) (sz := 1) (n := 3) Tryz.underlying66 sz9 rfl kk kk kk he35) ?_
     refine L0 rfl rfl (zA5 (c := c9) (xs := y2) (v := e36) (id := 88) (sz := 1) (T := 9) (off := 0) (n := 3) (d := .v (.string e36)) (ds := []) sc9 rfl kk kk he36 kk) ?_
     refine YF ?_
     obtain rfl := zB h
     exact ⟨_, rfl, kk⟩
    ·refine zG ?_
     obtain rfl := zB h
     exact ⟨_, rfl, kk⟩
  rintro o22 rfl
  have h := hko22
  clear hko22
  refine zJ ?_
  obtain ⟨y37, hy37, h⟩ := zA h
  obtain ⟨b40, hb40, h⟩ := zA h
  refine zO (mb 84 2417851639229258349412388) [40, 16] (s1 := ⟨.bot :: .bot :: .pt 16 0 :: .bot :: .bot :: .pt 40 0 :: bt 75 (Bo b40 :: .bot :: .bot :: []), [(40, .box [Ti o11, .v (.string e6), .v (.string o22.1), .v (.string o22.2.1), Ti o22.2.2.1, Ti o22.2.2.2.1, Ti o22.2.2.2.2]), (16, .box [Ti 0, .v (.string ByteArray.empty), .v (.string ByteArray.empty), .v (.string ByteArray.empty), Ti 0, Ti 0, Ti 0])]⟩) ?_ ?_
  ·refine YK 1 (s_spec_lgCommand hy37) zEQ ?_
   refine YR 2 ?_
   refine zD (!y37) (fun hc38 => ?_) (fun hc38 => ?_)
   ·have hb40 := zB (qM hb40 hc38)
    refine YQ hc38 ?_
    exact YE (by rw [← hb40]; (try rw [hc38]); kernel_rfl)
   ·have hb40 := qB hb40 hc38
    obtain ⟨y39, hy39, hb40⟩ := zA hb40
    have hb40 := zB hb40
    refine YQ hc38 ?_
    refine YK 1 (s_spec_lgText hy39) cf_spec_lgText ?_
    exact YE (by rw [← hb40]; (try rw [hc38]); kernel_rfl)
  refine VC h (fun h => ?_) (fun h => ?_)
  ·refine VS ?_
   refine L0 rfl rfl (zW (cs := [Ti 0, .v (.string ByteArray.empty), .v (.string ByteArray.empty), .v (.string ByteArray.empty), Ti 0, Ti 0, Ti 0]) pl40 bt40 rfl rfl kk) ?_
   refine YF ?_
   cases h
   exact zE VT
  ·refine zG ?_
   show V _ _ _ _
   refine VE ?_
   cases h
   exact zE VT
theorem cf_spec_lgReplay : CfW Tryz.prog 47 := cfW Tryz.func47
theorem s_spec_lgReplay {vs1 : ByteArray} {r : ((List ((ByteArray × ((Int × Int × Int))))) × Int × Int × Int)} (h : zCy vs1 = some r) : zT Tryz.prog 47 [.c (.v (.string vs1))] (.tc (.c (.sl (r.1.map c73))) (.tc (I r.2.1) (.tc (I r.2.2.1) (.tc (I r.2.2.2) .tn)))) [] := by
 refine CtW [2, 3, 4, 5] Tryz.func47 rfl rfl 93 ?_
 unfold zCy at h
 refine VS ?_
 refine L1 rfl rfl (zAU (e := 73) 4 (by decide) (.inl rfl)) ?_
 refine YF ?_
 refine VS ?_
 refine L1 rfl rfl (zAU (e := 73) 4 (by decide) (.inl rfl)) ?_
 refine YF ?_
 refine VE ?_
 refine zJ ?_
 refine V_freeze 48 (T := 73) (sz := 4) (els := (([] : List ((ByteArray × ((Int × Int × Int)))))).map c73) kk rfl ?_
 obtain ⟨o7, hLo7, h⟩ := zA h
 refine zCV (mb 93 960) [] (s1 := ⟨bt 6 (.c (.sl (o7.1.map c73)) :: I o7.2.1 :: I o7.2.2.1 :: I o7.2.2.2 :: bt 83 []), []⟩) ?_ ?_
 ·clear h
  refine zN (jH (fun n s => ∃ (l2 : List ((ByteArray × ((Int × Int × Int))))) (records3 : Int) (vat4 : Int) (check5 : Int), s.keep (mb 93 961) [] = (⟨.c (.v (.string vs1)) :: bt 5 (.c (.sl (l2.map c73)) :: I records3 :: I vat4 :: I check5 :: bt 83 []), []⟩ : St) ∧ zAP vs1 n l2 records3 vat4 check5 = some o7) FU ⟨_, _, _, _,  kk, hLo7⟩ ?_)
  clear hLo7
  rintro n s ⟨l2, records3, vat4, check5, hs, h⟩
  refine jE _ _ hs ?_
  clear hs
  cases n with
  | zero => cases h
  | succ n =>
   rw [zAP] at h
   refine zJ ?_
   refine VE ?_
   refine VC h (fun h => ?_) (fun h => ?_)
   ·refine zG ?_
    show V _ _ _ _
    refine zN ?_
    refine VE ?_
    refine zJ ?_
    obtain ⟨o11, hLo11, h⟩ := zA h
    refine zCV (mb 93 1985) [] (s1 := ⟨.c (.v (.string vs1)) :: bt 5 (.c (.sl (l2.map c73)) :: I records3 :: I vat4 :: I check5 :: I o11 :: bt 82 []), []⟩) ?_ ?_
    ·clear h
     refine zN (jH (fun n s => ∃ (vend9 : Int), s.keep (mb 93 1985) [] = (⟨.c (.v (.string vs1)) :: bt 5 (.c (.sl (l2.map c73)) :: I records3 :: I vat4 :: I check5 :: I vend9 :: bt 82 []), []⟩ : St) ∧ zA7 check5 l2 records3 vat4 vs1 n vend9 = some o11) FU ⟨_,  kk, hLo11⟩ ?_)
     clear hLo11
     rintro n s ⟨vend9, hs, h⟩
     refine jE _ _ hs ?_
     clear hs
     cases n with
     | zero => cases h
     | succ n =>
      rw [zA7] at h
      refine zJ ?_
      obtain ⟨b14, hb14, h⟩ := zA h
      refine zO (mb 93 268437441) [] (s1 := ⟨.c (.v (.string vs1)) :: bt 5 (.c (.sl (l2.map c73)) :: I records3 :: I vat4 :: I check5 :: I vend9 :: bt 17 (Bo b14 :: bt 64 [])), []⟩) ?_ ?_
      ·refine YR 5 ?_
       refine zD (ltI vend9 ((vs1.size : Int))) (fun hc12 => ?_) (fun hc12 => ?_)
       ·have hb14 := qM hb14 hc12
        obtain ⟨e13, he13, hb14⟩ := zA hb14
        have hb14 := zB hb14
        refine YQ hc12 ?_
        refine YR 2 ?_
        refine YT (qD rfl (zC0 (b := vs1) (k := .i64) (n := vend9) (v := e13) Tryz.underlying9 rfl kk kk he13)) ?_
        exact YE (by rw [← hb14]; (try rw [hc12]); kernel_rfl)
       ·have hb14 := zB (qB hb14 hc12)
        refine YQ hc12 ?_
        exact YE (by rw [← hb14]; (try rw [hc12]); kernel_rfl)
      refine VC h (fun h => ?_) (fun h => ?_)
      ·refine zG ?_
       show V _ _ _ _
       refine zN ?_
       obtain ⟨vend16, hvend16, h⟩ := zS h
       refine jD (mb 93 1985) [] (s1 := ⟨.c (.v (.string vs1)) :: bt 5 (.c (.sl (l2.map c73)) :: I records3 :: I vat4 :: I check5 :: I vend16 :: bt 82 []), []⟩) ?_ ?_
       ·refine XR 3 ?_
        refine zK ?_
        subst hvend16
        kernel_rfl
       exact ⟨n, Nat.lt_succ_self n, _,  kk, h⟩
      ·refine jA ?_
       obtain rfl := zB h
       show St.keep _ _ _ = _
       kernel_rfl
    show V _ _ _ _
    refine VE ?_
    refine zJ ?_
    obtain ⟨o19, hLo19, h⟩ := zA h
    refine zCV (mb 93 4033) [] (s1 := ⟨.c (.v (.string vs1)) :: bt 5 (.c (.sl (l2.map c73)) :: I records3 :: I vat4 :: I check5 :: I o11 :: I o19 :: bt 81 []), []⟩) ?_ ?_
    ·clear h
     refine zN (jH (fun n s => ∃ (mark17 : Int), s.keep (mb 93 4033) [] = (⟨.c (.v (.string vs1)) :: bt 5 (.c (.sl (l2.map c73)) :: I records3 :: I vat4 :: I check5 :: I o11 :: I mark17 :: bt 81 []), []⟩ : St) ∧ zA6 check5 l2 o11 records3 vat4 vs1 n mark17 = some o19) FU ⟨_,  kk, hLo19⟩ ?_)
     clear hLo19
     rintro n s ⟨mark17, hs, h⟩
     refine jE _ _ hs ?_
     clear hs
     cases n with
     | zero => cases h
     | succ n =>
      rw [zA6] at h
      refine zJ ?_
      obtain ⟨b22, hb22, h⟩ := zA h
      refine zO (mb 93 1099511631809) [] (s1 := ⟨.c (.v (.string vs1)) :: bt 5 (.c (.sl (l2.map c73)) :: I records3 :: I vat4 :: I check5 :: I o11 :: I mark17 :: bt 28 (Bo b22 :: bt 52 [])), []⟩) ?_ ?_
      ·refine YR 4 ?_
       refine zD (ltI mark17 o11) (fun hc20 => ?_) (fun hc20 => ?_)
       ·have hb22 := qM hb22 hc20
        obtain ⟨e21, he21, hb22⟩ := zA hb22
        have hb22 := zB hb22
        refine YQ hc20 ?_
        refine YR 2 ?_
        refine YT (qD rfl (zC0 (b := vs1) (k := .i64) (n := mark17) (v := e21) Tryz.underlying9 rfl kk kk he21)) ?_
        exact YE (by rw [← hb22]; (try rw [hc20]); kernel_rfl)
       ·have hb22 := zB (qB hb22 hc20)
        refine YQ hc20 ?_
        exact YE (by rw [← hb22]; (try rw [hc20]); kernel_rfl)
      refine VC h (fun h => ?_) (fun h => ?_)
      ·refine zG ?_
       show V _ _ _ _
       refine zN ?_
       obtain ⟨mark24, hmark24, h⟩ := zS h
       refine jD (mb 93 4033) [] (s1 := ⟨.c (.v (.string vs1)) :: bt 5 (.c (.sl (l2.map c73)) :: I records3 :: I vat4 :: I check5 :: I o11 :: I mark24 :: bt 81 []), []⟩) ?_ ?_
       ·refine XR 3 ?_
        refine zK ?_
        subst hmark24
        kernel_rfl
       exact ⟨n, Nat.lt_succ_self n, _,  kk, h⟩
      ·refine jA ?_
       obtain rfl := zB h
       show St.keep _ _ _ = _
       kernel_rfl
    show V _ _ _ _
    obtain ⟨u25, hu25, h⟩ := zA h
    obtain ⟨y26, hy26, h⟩ := zA h
    refine VS ?_
    refine YR 3 ?_
    refine L0 rfl rfl (zCf (b := vs1) (l := vat4) (h := o19) Tryz.underlying9 rfl kk (fun y hy => by cases hy; exact ⟨.i64, kk⟩) (fun hh => by cases hh) (fun y hy => by cases hy; exact ⟨.i64, kk⟩) (fun hh => by cases hh) (zB1 hu25)) ?_
    refine YK 0 (s_spec_lgRead hy26) cf_spec_lgRead ?_
    refine YF ?_
    refine zJ ?_
    obtain ⟨b31, hb31, h⟩ := zA h
    refine zC1 [0, 0, 2, 7, 15, 31, 63, 127, 255, 511, 511, 511, 2559, 8191, 511, 511, 49663, 131071, 262143] 19 (cdm 19 [40, 2, 6, 21, 85, 341, 1365, 5461, 21845, 11318416725, 11316843861, 11276997973, 11281192277, 11296658773, 2326353237, 715740501, 1521046869, 5726623061, 22906492245]) (mb 93 590295810358705659841) [96] (s1 := ⟨.c (.v (.string vs1)) :: bt 5 (.c (.sl (l2.map c73)) :: I records3 :: I vat4 :: I check5 :: I o11 :: I o19 :: .pt 96 0 :: bt 56 (Bo b31 :: bt 23 [])), [(96, .box [Ti y26.1.1, .v (.string y26.1.2.1), .v (.string y26.1.2.2.1), .v (.string y26.1.2.2.2.1), Ti y26.1.2.2.2.2.1, Ti y26.1.2.2.2.2.2.1, Ti y26.1.2.2.2.2.2.2])]⟩) kk kk ?_ ?_
    ·refine ER 5 ?_
     refine zEY (eqI o11 ((vs1.size : Int))) (fun hc27 => ?_) (fun hc27 => ?_)
     ·refine EQ hc27 ?_
      refine ER 4 ?_
      refine zEY (bif (eqI o11 ((vs1.size : Int))) then true else (!y26.2)) (fun hc28 => ?_) (fun hc28 => ?_)
      ·have hb31 := zB (qM hb31 hc28)
       refine EQ hc28 ?_ (by rw [hc27]; kernel_rfl)
       refine EA 10 ?_
       exact YE (by rw [← hb31]; (try rw [hc28]); (try rw [hc27]); kernel_rfl)
      ·have hb31 := qB hb31 hc28
       obtain ⟨u29, hu29, hb31⟩ := zA hb31
       obtain ⟨y30, hy30, hb31⟩ := zA hb31
       have hb31 := zB hb31
       refine EQ hc28 ?_ (by rw [hc27]; kernel_rfl)
       refine ER 4 ?_
       refine E0 13 rfl rfl (zCf (b := vs1) (l := vat4) (h := w64 (o11 + 1)) Tryz.underlying9 rfl kk (fun y hy => by cases hy; exact ⟨.i64, kk⟩) (fun hh => by cases hh) (fun y hy => by cases hy; exact ⟨.i64, kk⟩) (fun hh => by cases hh) (zB1 hu29)) ?_
       refine EK 2 (s_spec_lgRecord hy30) cf_spec_lgRecord ?_
       refine EA 2 ?_
       exact YE (by rw [← hb31]; (try rw [hc28]); (try rw [hc27]); kernel_rfl)
     ·refine EQ hc27 ?_
      refine ER 4 ?_
      refine zEY (bif (eqI o11 ((vs1.size : Int))) then true else (!y26.2)) (fun hc28 => ?_) (fun hc28 => ?_)
      ·have hb31 := zB (qM hb31 hc28)
       refine EQ hc28 ?_ (by rw [hc27]; kernel_rfl)
       refine EA 10 ?_
       exact YE (by rw [← hb31]; (try rw [hc28]); (try rw [hc27]); kernel_rfl)
      ·have hb31 := qB hb31 hc28
       obtain ⟨u29, hu29, hb31⟩ := zA hb31
       obtain ⟨y30, hy30, hb31⟩ := zA hb31
       have hb31 := zB hb31
       refine EQ hc28 ?_ (by rw [hc27]; kernel_rfl)
       refine ER 4 ?_
       refine E0 13 rfl rfl (zCf (b := vs1) (l := vat4) (h := w64 (o11 + 1)) Tryz.underlying9 rfl kk (fun y hy => by cases hy; exact ⟨.i64, kk⟩) (fun hh => by cases hh) (fun y hy => by cases hy; exact ⟨.i64, kk⟩) (fun hh => by cases hh) (zB1 hu29)) ?_
       refine EK 2 (s_spec_lgRecord hy30) cf_spec_lgRecord ?_
       refine EA 2 ?_
       exact YE (by rw [← hb31]; (try rw [hc28]); (try rw [hc27]); kernel_rfl)
    refine VC h (fun h => ?_) (fun h => ?_)
    ·refine jA ?_
     obtain rfl := zB h
     show St.keep _ _ _ = _
     kernel_rfl
    ·refine zG ?_
     show V _ _ _ _
     obtain ⟨y33, hy33, h⟩ := zA h
     refine VS ?_
     refine YK 2 (s_spec_lgRun hy33) cf_spec_lgRun ?_
     refine YF ?_
     refine zJ ?_
     refine VE ?_
     refine VC h (fun h => ?_) (fun h => ?_)
     ·refine jA ?_
      obtain rfl := zB h
      show St.keep _ _ _ = _
      kernel_rfl
     ·refine zG ?_
      show V _ _ _ _
      obtain ⟨u35, hu35, h⟩ := zA h
      obtain ⟨y36, hy36, h⟩ := zA h
      refine VS ?_
      refine YR 3 ?_
      refine L0 rfl rfl (zCf (b := vs1) (l := vat4) (h := o19) Tryz.underlying9 rfl kk (fun y hy => by cases hy; exact ⟨.i64, kk⟩) (fun hh => by cases hh) (fun y hy => by cases hy; exact ⟨.i64, kk⟩) (fun hh => by cases hh) (zB1 hu35)) ?_
      refine YK 1 (s_spec_lgCheck hy36) cf_spec_lgCheck ?_
      refine YF ?_
      refine V_freeze 584 (T := 73) (sz := 4) (els := y33.1.map c73) kk rfl ?_
      obtain ⟨vat37, hvat37, h⟩ := zS h
      refine zO (mb 93 961) [] (s1 := ⟨.c (.v (.string vs1)) :: bt 5 (.c (.sl (y33.1.map c73)) :: I records3 :: I vat37 :: I y36 :: bt 83 []), []⟩) ?_ ?_
      ·refine XR 5 ?_
       refine zK ?_
       subst hvat37
       kernel_rfl
      obtain ⟨records38, hrecords38, h⟩ := zS h
      refine jD (mb 93 961) [] (s1 := ⟨.c (.v (.string vs1)) :: bt 5 (.c (.sl (y33.1.map c73)) :: I records38 :: I vat37 :: I y36 :: bt 83 []), []⟩) ?_ ?_
      ·refine XR 3 ?_
       refine zK ?_
       subst hrecords38
       kernel_rfl
      exact ⟨n, Nat.lt_succ_self n, _, _, _, _,  kk, h⟩
   ·refine jA ?_
    obtain rfl := zB h
    show St.keep _ _ _ = _
    kernel_rfl
 show V _ _ _ _
 refine VE ?_
 cases h
 exact zE VT
theorem cf_spec_ReplayJournal : CfW Tryz.prog 24 := cfW Tryz.func24
theorem s_spec_ReplayJournal {vs1 : ByteArray} {r : ((List ((ByteArray × ((Int × Int × Int))))) × Int × Int × Bool)} (h : zAR vs1 = some r) : zT Tryz.prog 24 [.c (.v (.string vs1))] (.tc (.c (.sl (r.1.map c73))) (.tc (I r.2.1) (.tc (I r.2.2.1) (.tc (Bo r.2.2.2) .tn)))) [] := by
 refine CtW [2, 3, 4, 5] Tryz.func24 rfl rfl 23 ?_
 unfold zAR at h
 refine VS ?_
 refine L1 rfl rfl (zAU (e := 73) 4 (by decide) (.inl rfl)) ?_
 refine YF ?_
 refine zJ ?_
 refine VS ?_
 refine YF ?_
 refine VC h (fun h => ?_) (fun h => ?_)
 ·refine VS ?_
  refine L1 rfl rfl (zAU (e := 73) 4 (by decide) (.inl rfl)) ?_
  refine YF ?_
  refine V_freeze 16 (T := 73) (sz := 4) (els := (([] : List ((ByteArray × ((Int × Int × Int)))))).map c73) kk rfl ?_
  cases h
  exact zE VT
 ·refine zG ?_
  show V _ _ _ _
  obtain ⟨y3, hy3, h⟩ := zA h
  refine VS ?_
  refine YK 1 (s_spec_lgReplay hy3) cf_spec_lgReplay ?_
  refine YF ?_
  refine VE ?_
  cases h
  exact zE VT
theorem cf_laws_pSameEntries : CfW Tryz.prog 33 := cfW Tryz.func33
theorem s_laws_pSameEntries {a1 : List ((ByteArray × ((Int × Int × Int))))} {b2 : List ((ByteArray × ((Int × Int × Int))))} {r : Bool} (h : zBG a1 b2 = some r) : zT Tryz.prog 33 [.c (.sl (a1.map c73)), .c (.sl (b2.map c73))] (Bo r) [] := by
 refine CtW [4] Tryz.func33 rfl rfl 26 ?_
 unfold zBG at h
 refine VE ?_
 refine zJ ?_
 refine VS ?_
 refine YR 1 ?_
 refine L0 rfl rfl (qK (c := c73) (xs := a1) Tryz.underlying43 rfl kk) ?_
 refine YR 1 ?_
 refine L0 rfl rfl (qK (c := c73) (xs := b2) Tryz.underlying43 rfl kk) ?_
 refine YF ?_
 refine VC h (fun h => ?_) (fun h => ?_)
 ·refine VE ?_
  cases h
  exact zE VT
 ·refine zG ?_
  show V _ _ _ _
  refine zJ ?_
  refine VS ?_
  refine YR 1 ?_
  refine L0 rfl rfl (qK (c := c73) (xs := a1) Tryz.underlying43 rfl kk) ?_
  refine YF ?_
  obtain ⟨qo6, hLo6, hko6⟩ := zA h
  refine zEX (q := qo6) (S := fun o6 => ⟨bt 26 [], []⟩) (mb 26 0) [] ?_ ?_
  ·refine zN (jH (fun n s => ∃ (t4 : Int), s.keep (mb 26 12291) [] = (⟨.c (.sl (a1.map c73)) :: .c (.sl (b2.map c73)) :: bt 10 (I ((a1.length : Int)) :: I t4 :: bt 12 []), []⟩ : St) ∧ jL a1 b2 n t4 = some qo6) FU ⟨_,  kk, hLo6⟩ ?_)
   clear hLo6
   rintro n s ⟨t4, hs, h⟩
   refine jE _ _ hs ?_
   clear hs
   cases n with
   | zero => cases h
   | succ n =>
    rw [jL] at h
    refine VE ?_
    refine zJ ?_
    refine VC h (fun h => ?_) (fun h => ?_)
    ·refine zG ?_
     show V _ _ _ _
     refine zJ ?_
     refine zN ?_
     refine VE ?_
     obtain ⟨e8, he8, h⟩ := zA h
     obtain ⟨e9, he9, h⟩ := zA h
     obtain ⟨t10, ht10, h⟩ := zA h
     have ht10 := zB ht10
     refine zC1 [0, 0, 3, 7, 0, 0, 48, 112, 255] 9 (cdm 9 [43528, 43522, 43525, 43541, 2218, 682, 1450, 5546, 21845]) (mb 26 16789507) [] (s1 := ⟨.c (.sl (a1.map c73)) :: .c (.sl (b2.map c73)) :: bt 10 (I ((a1.length : Int)) :: I t4 :: bt 10 (Bo t10 :: .bot :: [])), []⟩) kk kk ?_ ?_
     ·refine DR 2 ?_
      refine DE_0 2 (.pe [.v (.string e8.1), Ti e8.2.1, Ti e8.2.2.1, Ti e8.2.2.2]) kk rfl rfl rfl (qO rfl) kk (zAn (c := c73) (xs := a1) (v := e8) (n := t4) Tryz.underlying43 sz73 rfl kk kk he8) 18 rfl ?_
      refine DR 3 ?_
      refine DE_0 6 (.pe [.v (.string e9.1), Ti e9.2.1, Ti e9.2.2.1, Ti e9.2.2.2]) kk rfl rfl rfl (qO rfl) kk (zAn (c := c73) (xs := b2) (v := e9) (n := t4) Tryz.underlying43 sz73 rfl kk kk he9) 22 rfl ?_
      refine DR 1 ?_
      refine DE_0 8 (Bo (!((e8.1.toList == e9.1.toList) && ((e8.2.1 == e9.2.1) && ((e8.2.2.1 == e9.2.2.1) && (e8.2.2.2 == e9.2.2.2)))))) kk rfl rfl rfl (qO rfl) kk (Y0_negS (n := e8.1) (m := e9.1) (a1 := e8.2.1) (b1 := e9.2.1) (a2 := e8.2.2.1) (b2 := e9.2.2.1) (a3 := e8.2.2.2) (b3 := e9.2.2.2) ngS73 rfl kk kk) 24 rfl ?_
      refine DA 0 ?_
      refine zK ?_
      subst ht10
      kernel_rfl
     refine VC h (fun h => ?_) (fun h => ?_)
     ·refine VE ?_
      refine zE ?_
      obtain rfl := zB h
      have h := hko6
      obtain rfl := zB h
      exact VT
     ·refine zG ?_
      show V _ _ _ _
      obtain ⟨t12, ht12, h⟩ := zS h
      refine jD (mb 26 12291) [] (s1 := ⟨.c (.sl (a1.map c73)) :: .c (.sl (b2.map c73)) :: bt 10 (I ((a1.length : Int)) :: I t12 :: bt 12 []), []⟩) ?_ ?_
      ·refine XR 2 ?_
       refine zK ?_
       subst ht12
       kernel_rfl
      exact ⟨n, Nat.lt_succ_self n, _,  kk, h⟩
    ·refine jA ?_
     obtain rfl := zB h
     exact ⟨_, rfl, kk⟩
  rintro o6 rfl
  have h := hko6
  clear hko6
  show V _ _ _ _
  refine VE ?_
  cases h
  exact zE VT
theorem cf_laws_numberOf : CfW Tryz.prog 34 := cfW Tryz.func34
theorem s_laws_numberOf {b1 : List Int} {r : Int} (h : zCz b1 = some r) : zT Tryz.prog 34 [.c (.sl (b1.map c5))] (I r) [] := by
 refine CtW [2] Tryz.func34 rfl rfl 20 ?_
 unfold zCz at h
 refine VE ?_
 refine VE ?_
 refine zJ ?_
 refine VS ?_
 refine YR 1 ?_
 refine L0 rfl rfl (qK (c := c5) (xs := b1) Tryz.underlying48 rfl kk) ?_
 refine YF ?_
 obtain ⟨o5, hLo5, h⟩ := zA h
 refine zCV (mb 20 8) [] (s1 := ⟨bt 3 (I o5 :: bt 16 []), []⟩) ?_ ?_
 ·clear h
  refine zN (jH (fun n s => ∃ (vn2 : Int) (t3 : Int), s.keep (mb 20 456) [] = (⟨bt 3 (I vn2 :: .bot :: .bot :: .c (.sl (b1.map c5)) :: I ((b1.length : Int)) :: I t3 :: bt 11 []), []⟩ : St) ∧ zAp b1 n vn2 t3 = some o5) FU ⟨_, _,  kk, hLo5⟩ ?_)
  clear hLo5
  rintro n s ⟨vn2, t3, hs, h⟩
  refine jE _ _ hs ?_
  clear hs
  cases n with
  | zero => cases h
  | succ n =>
   rw [zAp] at h
   refine VE ?_
   refine zJ ?_
   refine VC h (fun h => ?_) (fun h => ?_)
   ·refine zG ?_
    show V _ _ _ _
    refine zJ ?_
    refine zN ?_
    obtain ⟨e7, he7, h⟩ := zA h
    refine VS ?_
    refine L0 rfl rfl (zAn (c := c5) (xs := b1) (v := e7) (n := t3) Tryz.underlying48 sz5 rfl kk kk he7) ?_
    refine YF ?_
    obtain ⟨vn8, hvn8, h⟩ := zS h
    refine jD (mb 20 456) [] (s1 := ⟨bt 3 (I vn8 :: .bot :: .bot :: .c (.sl (b1.map c5)) :: I ((b1.length : Int)) :: I t3 :: bt 11 []), []⟩) ?_ ?_
    ·refine XR 3 ?_
     refine L0 rfl rfl (Y0_conv (k2 := .u8) (a := e7) Tryz.underlying5 Tryz.underlying3 rfl kk) ?_
     refine XR 1 ?_
     refine L0 rfl rfl (Y0_rem (k := .i64) (a := w64 ((w64 (31 * vn2)) + (IntKind.i64.wrap e7))) (b := 1000003) rfl kk kk (by decide)) ?_
     refine XR 1 ?_
     refine zK ?_
     subst hvn8
     kernel_rfl
    show V _ _ _ _
    obtain ⟨t9, ht9, h⟩ := zS h
    refine jD (mb 20 456) [] (s1 := ⟨bt 3 (I vn8 :: .bot :: .bot :: .c (.sl (b1.map c5)) :: I ((b1.length : Int)) :: I t9 :: bt 11 []), []⟩) ?_ ?_
    ·refine XR 2 ?_
     refine zK ?_
     subst ht9
     kernel_rfl
    exact ⟨n, Nat.lt_succ_self n, _, _,  kk, h⟩
   ·refine jA ?_
    obtain rfl := zB h
    show St.keep _ _ _ = _
    kernel_rfl
 show V _ _ _ _
 refine VE ?_
 cases h
 exact zE VT
theorem cf_impl_isCatalogue : CfW Tryz.prog 63 := cfW Tryz.func63
theorem s_impl_isCatalogue {l1 : List ((ByteArray × ((Int × Int × Int))))} {r : Bool} (h : zBq l1 = some r) : zT Tryz.prog 63 [.c (.sl (l1.map c73))] (Bo r) [] := by
 refine CtW [2] Tryz.func63 rfl rfl 41 ?_
 unfold zBq at h
 refine VE ?_
 refine zJ ?_
 refine VS ?_
 refine YR 1 ?_
 refine L0 rfl rfl (qK (c := c73) (xs := l1) Tryz.underlying43 rfl kk) ?_
 refine YF ?_
 obtain ⟨qo4, hLo4, hko4⟩ := zA h
 refine zEX (q := qo4) (S := fun o4 => ⟨.c (.sl (l1.map c73)) :: bt 40 [], []⟩) (mb 41 1) [] ?_ ?_
 ·refine zN (jH (fun n s => ∃ (t2 : Int), s.keep (mb 41 225) [] = (⟨.c (.sl (l1.map c73)) :: bt 4 (.c (.sl (l1.map c73)) :: I ((l1.length : Int)) :: I t2 :: bt 33 []), []⟩ : St) ∧ jP l1 n t2 = some qo4) FU ⟨_,  kk, hLo4⟩ ?_)
  clear hLo4
  rintro n s ⟨t2, hs, h⟩
  refine jE _ _ hs ?_
  clear hs
  cases n with
  | zero => cases h
  | succ n =>
   rw [jP] at h
   refine VE ?_
   refine zJ ?_
   refine VC h (fun h => ?_) (fun h => ?_)
   ·refine zG ?_
    show V _ _ _ _
    refine zJ ?_
    refine zN ?_
    obtain ⟨e6, he6, h⟩ := zA h
    refine VS ?_
    refine YR 1 ?_
    refine L0 rfl rfl (zAn (c := c73) (xs := l1) (v := e6) (n := t2) Tryz.underlying43 sz73 rfl kk kk he6) ?_
    refine YF ?_
    obtain ⟨y7, hy7, h⟩ := zA h
    obtain ⟨b10, hb10, h⟩ := zA h
    obtain ⟨b15, hb15, h⟩ := zA h
    refine zC1 [0, 1, 3, 7, 15, 31, 63, 127, 255, 511, 1023, 2047, 4095, 8191, 16383, 16383, 49151, 131071, 262143, 524287, 16383, 1064959, 4194303, 8388607, 16777215] 25 (cdm 25 [0, 1, 5, 21, 85, 341, 1365, 5461, 21845, 87381, 349525, 1398101, 5592405, 22369621, 11005943174485, 10995742627157, 10996816368981, 11000842900821, 11018022770005, 11086742246741, 732918273365, 1832429901141, 5864062014805, 23456248059221, 93824992236885]) (mb 41 68719476961) [] (s1 := ⟨.c (.sl (l1.map c73)) :: bt 4 (.c (.sl (l1.map c73)) :: I ((l1.length : Int)) :: I t2 :: bt 28 (Bo b15 :: bt 4 [])), []⟩) kk kk ?_ ?_
    ·refine EK 2 (zDa hy7) zDW ?_
     refine ER 2 ?_
     refine zEY (!y7) (fun hc8 => ?_) (fun hc8 => ?_)
     ·have hb10 := zB (qM hb10 hc8)
      refine EQ hc8 ?_
      refine ER 6 ?_
      subst hb10
      have hc11 : true = true := rfl
      have hb15 := zB (qM hb15 hc11)
      refine EA 14 ?_
      exact YE (by rw [← hb15]; (try rw [hc8]); kernel_rfl)
     ·have hb10 := qB hb10 hc8
      obtain ⟨y9, hy9, hb10⟩ := zA hb10
      have hb10 := zB hb10
      refine EQ hc8 ?_
      refine EK 2 (zDs hy9) zD8 ?_
      refine ER 3 ?_
      refine zEY b10 (fun hc11 => ?_) (fun hc11 => ?_)
      ·have hb15 := zB (qM hb15 hc11)
       refine EQ hc11 ?_ (by rw [← hb10]; (try rw [← hb15]); (try rw [hc8]); kernel_rfl)
       refine EA 14 ?_
       exact YE (by rw [← hb15]; (try rw [hc8]); (try rw [hc11]); kernel_rfl)
      ·have hb15 := qB hb15 hc11
       obtain ⟨b14, hb14, hb15⟩ := zA hb15
       have hb15 := zB hb15
       refine EQ hc11 ?_ (by rw [← hb10]; (try rw [← hb15]); (try rw [hc8]); kernel_rfl)
       refine ER 3 ?_
       refine zEY (ltI 0 t2) (fun hc12 => ?_) (fun hc12 => ?_)
       ·have hb14 := qM hb14 hc12
        obtain ⟨e13, he13, hb14⟩ := zA hb14
        have hb14 := zB hb14
        refine EQ hc12 ?_
        refine ER 3 ?_
        refine E0 17 rfl rfl (zAn (c := c73) (xs := l1) (v := e13) (n := w64 (t2 - 1)) Tryz.underlying43 sz73 rfl kk kk he13) ?_
        refine ER 4 ?_
        refine E0 22 rfl rfl (Y0_ges (a := e13.1) (b := e6.1) rfl kk kk) ?_
        refine EA 2 ?_
        exact YE (by rw [← hb15]; (try rw [← hb14]); (try rw [hc12]); (try rw [hc8]); (try rw [hc11]); kernel_rfl)
       ·have hb14 := zB (qB hb14 hc12)
        refine EQ hc12 ?_
        refine EA 11 ?_
        exact YE (by rw [← hb15]; (try rw [← hb14]); (try rw [hc12]); (try rw [hc8]); (try rw [hc11]); kernel_rfl)
    refine VC h (fun h => ?_) (fun h => ?_)
    ·refine VE ?_
     refine zE ?_
     obtain rfl := zB h
     have h := hko4
     obtain rfl := zB h
     exact VT
    ·refine zG ?_
     show V _ _ _ _
     obtain ⟨t17, ht17, h⟩ := zS h
     refine jD (mb 41 225) [] (s1 := ⟨.c (.sl (l1.map c73)) :: bt 4 (.c (.sl (l1.map c73)) :: I ((l1.length : Int)) :: I t17 :: bt 33 []), []⟩) ?_ ?_
     ·refine XR 2 ?_
      refine zK ?_
      subst ht17
      kernel_rfl
     exact ⟨n, Nat.lt_succ_self n, _,  kk, h⟩
   ·refine jA ?_
    obtain rfl := zB h
    exact ⟨_, rfl, kk⟩
 rintro o4 rfl
 have h := hko4
 clear hko4
 show V _ _ _ _
 refine VS ?_
 refine YR 1 ?_
 refine L0 rfl rfl (qK (c := c73) (xs := l1) Tryz.underlying43 rfl kk) ?_
 refine YF ?_
 cases h
 exact zE VT
theorem cf_impl_RunCommand : CfW Tryz.prog 35 := cfW Tryz.func35
theorem s_impl_RunCommand {l1 : List ((ByteArray × ((Int × Int × Int))))} {c2 : (Int × ByteArray × ByteArray × ByteArray × ((Int × Int × Int)))} {r : ((List ((ByteArray × ((Int × Int × Int))))) × Int)} (h : zCJ l1 c2 = some r) : zT Tryz.prog 35 [.c (.sl (l1.map c73)), .ag [Ti c2.1, .v (.string c2.2.1), .v (.string c2.2.2.1), .v (.string c2.2.2.2.1), Ti c2.2.2.2.2.1, Ti c2.2.2.2.2.2.1, Ti c2.2.2.2.2.2.2]] (.tc (.ow 0) (.tc (I r.2) .tn)) [(0, .arr 73 4 (r.1.map c73))] := by
 refine CtW [4, 5] Tryz.func35 rfl rfl 20 ?_
 unfold zCJ at h
 refine VS ?_
 refine YR 1 ?_
 refine L1 rfl rfl (zAU (e := 73) 4 (by decide) (.inl rfl)) ?_
 refine YF ?_
 refine zJ ?_
 obtain ⟨y3, hy3, h⟩ := zA h
 obtain ⟨b6, hb6, h⟩ := zA h
 refine zO (mb 20 8201) [24] (s1 := ⟨.c (.sl (l1.map c73)) :: .bot :: .bot :: .pt 24 0 :: bt 9 (Bo b6 :: bt 6 []), [(24, .box [Ti c2.1, .v (.string c2.2.1), .v (.string c2.2.2.1), .v (.string c2.2.2.2.1), Ti c2.2.2.2.2.1, Ti c2.2.2.2.2.2.1, Ti c2.2.2.2.2.2.2])]⟩) ?_ ?_
 ·refine YK 1 (s_impl_isCatalogue hy3) cf_impl_isCatalogue ?_
  refine YR 2 ?_
  refine zD (!y3) (fun hc4 => ?_) (fun hc4 => ?_)
  ·have hb6 := zB (qM hb6 hc4)
   refine YQ hc4 ?_
   exact YE (by rw [← hb6]; (try rw [hc4]); kernel_rfl)
  ·have hb6 := qB hb6 hc4
   obtain ⟨y5, hy5, hb6⟩ := zA hb6
   have hb6 := zB hb6
   refine YQ hc4 ?_
   refine YK 1 (s_impl_isCommand hy5) zER ?_
   exact YE (by rw [← hb6]; (try rw [hc4]); kernel_rfl)
 refine VC h (fun h => ?_) (fun h => ?_)
 ·refine VS ?_
  refine L1 rfl rfl (zBs Tryz.underlying43 sz73 (by decide) rfl rfl) ?_
  refine YF ?_
  cases h
  exact zE VT
 ·refine zG ?_
  show V _ _ _ _
  obtain ⟨y8, hy8, h⟩ := zA h
  refine VS ?_
  refine YK 2 (s_impl_runCommand hy8) cf_impl_runCommand ?_
  refine YF ?_
  cases h
  exact zE VT
theorem s_laws_FnJournalCuts {code1 : List Int} {more2 : List Int} {r : Bool} (h : zCG code1 more2 = some r) : zT Tryz.prog 8 [.c (.sl (code1.map c5)), .c (.sl (more2.map c5))] (Bo r) [] := by
 refine CtW [4] Tryz.func8 rfl rfl 157 ?_
 unfold zCG at h
 refine VE ?_
 refine zJ ?_
 obtain ⟨y3, hy3, h⟩ := zA h
 refine VS ?_
 refine YK 2 (s_laws_big hy3) cf_laws_big ?_
 refine YF ?_
 refine VC h (fun h => ?_) (fun h => ?_)
 ·refine VE ?_
  cases h
  exact zE VT
 ·refine zG ?_
  show V _ _ _ _
  obtain ⟨y5, hy5, h⟩ := zA h
  refine VS ?_
  refine YK 1 (s_spec_DrawJournalText hy5) cf_spec_DrawJournalText ?_
  refine YF ?_
  obtain ⟨y6, hy6, h⟩ := zA h
  refine VS ?_
  refine YR 1 ?_
  refine L1 rfl rfl (Y1_callS (s_impl_JournalText hy6) cf_impl_JournalText rfl kk rfl rfl) ?_
  refine YF ?_
  obtain ⟨y7, hy7, h⟩ := zA h
  refine VS ?_
  refine YR 1 ?_
  refine L1 rfl rfl (Y1_callS (s_spec_JournalText hy7) cf_spec_JournalText rfl kk rfl rfl) ?_
  refine YF ?_
  refine zJ ?_
  obtain ⟨t9, ht9, h⟩ := zA h
  have ht9 := zB ht9
  refine zO (mb 157 562949953421538) [248] (s1 := ⟨.bot :: .c (.sl (more2.map c5)) :: bt 3 (.ow 248 :: .c (.v (.string y6.1)) :: Bo y6.2 :: bt 41 (Bo t9 :: bt 107 [])), [(248, .arr 40 7 (y5.map c40))]⟩) ?_ ?_
  ·refine YR 4 ?_
   refine zD (y6.2 != y7.2) (fun hc8 => ?_) (fun hc8 => ?_)
   ·refine YQ hc8 ?_
    exact YE (by rw [← ht9]; (try rw [hc8]); kernel_rfl)
   ·refine YQ hc8 ?_
    exact YE (by rw [← ht9]; (try rw [hc8]); kernel_rfl)
  refine VC h (fun h => ?_) (fun h => ?_)
  ·refine VE ?_
   cases h
   exact zE VT
  ·refine zG ?_
   show V _ _ _ _
   obtain ⟨y11, hy11, h⟩ := zA h
   refine VS ?_
   refine YK 1 (s_impl_ReplayJournal hy11) cf_impl_ReplayJournal ?_
   refine YF ?_
   obtain ⟨y12, hy12, h⟩ := zA h
   refine VS ?_
   refine YK 1 (s_spec_ReplayJournal hy12) cf_spec_ReplayJournal ?_
   refine YF ?_
   refine zJ ?_
   obtain ⟨b15, hb15, h⟩ := zA h
   obtain ⟨t18, ht18, h⟩ := zA h
   have ht18 := zB ht18
   refine zO (mb 157 4835703278458516698835170) [248] (s1 := ⟨.bot :: .c (.sl (more2.map c5)) :: bt 3 (.ow 248 :: .c (.v (.string y6.1)) :: Bo y6.2 :: bt 3 (I y11.2.1 :: .bot :: Bo y11.2.2.2 :: bt 68 (Bo t18 :: bt 74 []))), [(248, .arr 40 7 (y5.map c40))]⟩) ?_ ?_
   ·refine YR 4 ?_
    refine zD (y11.2.2.2 != y12.2.2.2) (fun hc13 => ?_) (fun hc13 => ?_)
    ·have hb15 := zB (qM hb15 hc13)
     refine YQ hc13 ?_
     refine YR 6 ?_
     subst hb15
     have hc16 : true = true := rfl
     refine YR 5 ?_
     refine zD (bif true then true else (!eqI y11.2.1 y12.2.1)) (fun hc17 => ?_) (fun hc17 => ?_)
     ·refine YQ hc17 ?_
      exact YE (by rw [← ht18]; (try rw [hc17]); (try rw [hc13]); kernel_rfl)
     ·refine YQ hc17 ?_
      exact YE (by rw [← ht18]; (try rw [hc17]); (try rw [hc13]); kernel_rfl)
    ·have hb15 := qB hb15 hc13
     obtain ⟨y14, hy14, hb15⟩ := zA hb15
     have hb15 := zB hb15
     refine YQ hc13 ?_
     refine YR 2 ?_
     refine YT (zD5 rfl (Y1_callS (s_laws_pSameEntries hy14) cf_laws_pSameEntries rfl kk rfl rfl)) ?_
     refine YR 3 ?_
     refine zD b15 (fun hc16 => ?_) (fun hc16 => ?_)
     ·refine YQ hc16 ?_ (by rw [← hb15]; (try rw [hc13]); kernel_rfl)
      refine YR 5 ?_
      refine zD (bif b15 then true else (!eqI y11.2.1 y12.2.1)) (fun hc17 => ?_) (fun hc17 => ?_)
      ·refine YQ hc17 ?_ (by rw [hc16]; kernel_rfl)
       exact YE (by rw [← ht18]; (try rw [hc17]); (try rw [hc13]); (try rw [hc16]); kernel_rfl)
      ·refine YQ hc17 ?_ (by rw [hc16]; kernel_rfl)
       exact YE (by rw [← ht18]; (try rw [hc17]); (try rw [hc13]); (try rw [hc16]); kernel_rfl)
     ·refine YQ hc16 ?_ (by rw [← hb15]; (try rw [hc13]); kernel_rfl)
      refine YR 5 ?_
      refine zD (bif b15 then true else (!eqI y11.2.1 y12.2.1)) (fun hc17 => ?_) (fun hc17 => ?_)
      ·refine YQ hc17 ?_ (by rw [hc16]; kernel_rfl)
       exact YE (by rw [← ht18]; (try rw [hc17]); (try rw [hc13]); (try rw [hc16]); kernel_rfl)
      ·refine YQ hc17 ?_ (by rw [hc16]; kernel_rfl)
       exact YE (by rw [← ht18]; (try rw [hc17]); (try rw [hc13]); (try rw [hc16]); kernel_rfl)
   refine VC h (fun h => ?_) (fun h => ?_)
   ·refine VE ?_
    cases h
    exact zE VT
   ·refine zG ?_
    show V _ _ _ _
    refine zJ ?_
    obtain ⟨t22, ht22, h⟩ := zA h
    have ht22 := zB ht22
    refine zO (mb 157 9903520314283042199192995938) [248] (s1 := ⟨.bot :: .c (.sl (more2.map c5)) :: bt 3 (.ow 248 :: .c (.v (.string y6.1)) :: bt 4 (I y11.2.1 :: bt 81 (Bo t22 :: bt 63 []))), [(248, .arr 40 7 (y5.map c40))]⟩) ?_ ?_
    ·refine YR 3 ?_
     refine zD (!y6.2) (fun hc20 => ?_) (fun hc20 => ?_)
     ·refine YQ hc20 ?_
      refine YR 4 ?_
      refine zD (bif (!y6.2) then true else (!y11.2.2.2)) (fun hc21 => ?_) (fun hc21 => ?_)
      ·refine YQ hc21 ?_ (by rw [hc20]; kernel_rfl)
       exact YE (by rw [← ht22]; (try rw [hc21]); (try rw [hc20]); kernel_rfl)
      ·refine YQ hc21 ?_ (by rw [hc20]; kernel_rfl)
       exact YE (by rw [← ht22]; (try rw [hc21]); (try rw [hc20]); kernel_rfl)
     ·refine YQ hc20 ?_
      refine YR 4 ?_
      refine zD (bif (!y6.2) then true else (!y11.2.2.2)) (fun hc21 => ?_) (fun hc21 => ?_)
      ·refine YQ hc21 ?_ (by rw [hc20]; kernel_rfl)
       exact YE (by rw [← ht22]; (try rw [hc21]); (try rw [hc20]); kernel_rfl)
      ·refine YQ hc21 ?_ (by rw [hc20]; kernel_rfl)
       exact YE (by rw [← ht22]; (try rw [hc21]); (try rw [hc20]); kernel_rfl)
    refine VC h (fun h => ?_) (fun h => ?_)
    ·refine VE ?_
     cases h
     exact zE VT
    ·refine zG ?_
     show V _ _ _ _
     obtain ⟨y24, hy24, h⟩ := zA h
     obtain ⟨z25, hz25, h⟩ := zA h
     obtain ⟨vat26, hvat26, h⟩ := zS h
     refine zO (mb 157 264288) [248] (s1 := ⟨bt 5 (.ow 248 :: .c (.v (.string y6.1)) :: bt 4 (I y11.2.1 :: bt 6 (I vat26 :: bt 138 []))), [(248, .arr 40 7 (y5.map c40))]⟩) ?_ ?_
     ·refine XR 1 ?_
      refine XC (s_laws_numberOf hy24) cf_laws_numberOf rfl rfl rfl ?_
      refine XR 1 ?_
      refine L0 rfl rfl (Y0_lens (b := y6.1) Tryz.underlying9 rfl kk) ?_
      refine L0 rfl rfl (Y0_rem (k := .i64) (a := y24) (b := (y6.1.size : Int)) rfl kk kk (jT hz25)) ?_
      refine XR 1 ?_
      refine zK ?_
      subst hvat26
      kernel_rfl
     obtain ⟨u27, hu27, h⟩ := zA h
     obtain ⟨y28, hy28, h⟩ := zA h
     refine VS ?_
     refine YR 2 ?_
     refine L0 rfl rfl (zCf (b := y6.1) (l := 0) (h := vat26) Tryz.underlying9 rfl kk (fun y hy => by cases hy) (fun _ => rfl) (fun y hy => by cases hy; exact ⟨.i64, kk⟩) (fun hh => by cases hh) (zB1 hu27)) ?_
     refine YK 0 (s_impl_ReplayJournal hy28) cf_impl_ReplayJournal ?_
     refine YF ?_
     refine zJ ?_
     obtain ⟨t31, ht31, h⟩ := zA h
     have ht31 := zB ht31
     refine zO (mb 157 664613997892457936451903530144106528) [824, 248] (s1 := ⟨bt 5 (.ow 248 :: bt 5 (I y11.2.1 :: bt 6 (I vat26 :: .ow 824 :: I y28.2.1 :: I y28.2.2.1 :: bt 97 (Bo t31 :: bt 37 [])))), [(824, .arr 73 4 (y28.1.map c73)), (248, .arr 40 7 (y5.map c40))]⟩) ?_ ?_
     ·refine YR 3 ?_
      refine zD (!y28.2.2.2) (fun hc29 => ?_) (fun hc29 => ?_)
      ·refine YQ hc29 ?_
       refine YR 5 ?_
       refine zD (bif (!y28.2.2.2) then true else (ltI y11.2.1 y28.2.1)) (fun hc30 => ?_) (fun hc30 => ?_)
       ·refine YQ hc30 ?_ (by rw [hc29]; kernel_rfl)
        exact YE (by rw [← ht31]; (try rw [hc30]); (try rw [hc29]); kernel_rfl)
       ·refine YQ hc30 ?_ (by rw [hc29]; kernel_rfl)
        exact YE (by rw [← ht31]; (try rw [hc30]); (try rw [hc29]); kernel_rfl)
      ·refine YQ hc29 ?_
       refine YR 5 ?_
       refine zD (bif (!y28.2.2.2) then true else (ltI y11.2.1 y28.2.1)) (fun hc30 => ?_) (fun hc30 => ?_)
       ·refine YQ hc30 ?_ (by rw [hc29]; kernel_rfl)
        exact YE (by rw [← ht31]; (try rw [hc30]); (try rw [hc29]); kernel_rfl)
       ·refine YQ hc30 ?_ (by rw [hc29]; kernel_rfl)
        exact YE (by rw [← ht31]; (try rw [hc30]); (try rw [hc29]); kernel_rfl)
     refine VC h (fun h => ?_) (fun h => ?_)
     ·refine VE ?_
      cases h
      exact zE VT
     ·refine zG ?_
      show V _ _ _ _
      refine VS ?_
      refine L1 rfl rfl (zAU (e := 73) 4 (by decide) (.inl rfl)) ?_
      refine YF ?_
      refine zJ ?_
      refine VE ?_
      refine V_freeze 184 (T := 73) (sz := 4) (els := (([] : List ((ByteArray × ((Int × Int × Int)))))).map c73) kk rfl ?_
      obtain ⟨qo36, hLo36, hko36⟩ := zA h
      refine zEX (q := qo36) (S := fun o36 => ⟨bt 11 (I y11.2.1 :: bt 6 (I vat26 :: .ow 824 :: I y28.2.1 :: I y28.2.2.1 :: .bot :: .c (.sl (o36.map c73)) :: bt 133 [])), [(824, .arr 73 4 (y28.1.map c73))]⟩) (mb 157 12322816) [824] ?_ ?_
      ·refine zN (jH (fun n s => ∃ (state33 : List ((ByteArray × ((Int × Int × Int))))) (k34 : Int), s.keep (mb 157 29100064) [824, 248] = (⟨bt 5 (.ow 248 :: bt 5 (I y11.2.1 :: bt 6 (I vat26 :: .ow 824 :: I y28.2.1 :: I y28.2.2.1 :: .bot :: .c (.sl (state33.map c73)) :: I k34 :: bt 132 []))), [(824, .arr 73 4 (y28.1.map c73)), (248, .arr 40 7 (y5.map c40))]⟩ : St) ∧ jC vat26 y11 y28 y5 n state33 k34 = some qo36) FU ⟨_, _,  kk, hLo36⟩ ?_)
       clear hLo36
       rintro n s ⟨state33, k34, hs, h⟩
       refine jE _ _ hs ?_
       clear hs
       cases n with
       | zero => cases h
       | succ n =>
        rw [jC] at h
        refine zJ ?_
        obtain ⟨t38, ht38, h⟩ := zA h
        have ht38 := zB ht38
        refine zO (mb 157 340282366920938463463374607431797311520) [824, 248] (s1 := ⟨bt 5 (.ow 248 :: bt 5 (I y11.2.1 :: bt 6 (I vat26 :: .ow 824 :: I y28.2.1 :: I y28.2.2.1 :: .bot :: .c (.sl (state33.map c73)) :: I k34 :: bt 103 (Bo t38 :: bt 28 [])))), [(824, .arr 73 4 (y28.1.map c73)), (248, .arr 40 7 (y5.map c40))]⟩) ?_ ?_
        ·refine YR 4 ?_
         refine zD (ltI k34 y28.2.1) (fun hc37 => ?_) (fun hc37 => ?_)
         ·refine YQ hc37 ?_
          refine YR 2 ?_
          refine YT (qD rfl (qK (c := c40) (xs := y5) Tryz.underlying50 rfl kk)) ?_
          exact YE (by rw [← ht38]; (try rw [hc37]); kernel_rfl)
         ·refine YQ hc37 ?_
          exact YE (by rw [← ht38]; (try rw [hc37]); kernel_rfl)
        refine VC h (fun h => ?_) (fun h => ?_)
        ·refine zG ?_
         show V _ _ _ _
         refine zJ ?_
         refine zN ?_
         obtain ⟨e40, he40, h⟩ := zA h
         obtain ⟨e41, he41, h⟩ := zA h
         obtain ⟨y42, hy42, h⟩ := zA h
         refine VS ?_
         refine YR 3 ?_
         refine L0 rfl rfl (zAV (c := c40) (xs := y5) (v := e40) (id := 248) (T := 40) (sz := 7) (n := k34) Tryz.underlying50 sz40 rfl kk kk kk he40) ?_
         refine L0 rfl rfl (E_loadon (c := c40) (xs := y5) (v := e41) (id := 248) (sz := 7) (T := 40) (off := 0) (n := k34) [Ti e41.1, .v (.string e41.2.1), .v (.string e41.2.2.1), .v (.string e41.2.2.2.1), Ti e41.2.2.2.2.1, Ti e41.2.2.2.2.2.1, Ti e41.2.2.2.2.2.2] wd40 rfl kk kk he41 (Nat.le_of_ble_eq_true rfl) kk) ?_
         refine YK 0 (s_impl_RunCommand hy42) cf_impl_RunCommand ?_
         refine YF ?_
         refine zJ ?_
         refine VE ?_
         refine VC h (fun h => ?_) (fun h => ?_)
         ·refine VE ?_
          refine zE ?_
          obtain rfl := zB h
          have h := hko36
          obtain rfl := zB h
          exact VT
         ·refine zG ?_
          show V _ _ _ _
          refine V_freeze 1096 (T := 73) (sz := 4) (els := y42.1.map c73) kk rfl ?_
          refine zX ?_
          refine YF ?_
          show V _ _ _ _
          obtain ⟨k44, hk44, h⟩ := zS h
          refine jD (mb 157 29100064) [824, 248] (s1 := ⟨bt 5 (.ow 248 :: bt 5 (I y11.2.1 :: bt 6 (I vat26 :: .ow 824 :: I y28.2.1 :: I y28.2.2.1 :: .bot :: .c (.sl (y42.1.map c73)) :: I k44 :: bt 132 []))), [(824, .arr 73 4 (y28.1.map c73)), (248, .arr 40 7 (y5.map c40))]⟩) ?_ ?_
          ·refine XR 3 ?_
           refine zK ?_
           subst hk44
           kernel_rfl
          exact ⟨n, Nat.lt_succ_self n, _, _,  kk, h⟩
        ·refine jA ?_
         obtain rfl := zB h
         exact ⟨_, rfl, kk⟩
      rintro o36 rfl
      have h := hko36
      clear hko36
      show V _ _ _ _
      obtain ⟨y45, hy45, h⟩ := zA h
      obtain ⟨t48, ht48, h⟩ := zA h
      have ht48 := zB ht48
      refine zO (mb 157 16) [] (s1 := ⟨bt 4 (Bo t48 :: bt 152 []), []⟩) ?_ ?_
      ·refine YR 2 ?_
       refine L1 rfl rfl (Y1_callS (s_laws_pSameEntries hy45) cf_laws_pSameEntries rfl kk rfl rfl) ?_
       refine YR 1 ?_
       refine zD y45 (fun hc46 => ?_) (fun hc46 => ?_)
       ·refine YQ hc46 ?_
        refine YR 4 ?_
        refine zD (eqI y28.2.1 y11.2.1) (fun hc47 => ?_) (fun hc47 => ?_)
        ·refine YQ hc47 ?_
         exact YE (by rw [← ht48]; (try rw [hc47]); (try rw [hc46]); kernel_rfl)
        ·refine YQ hc47 ?_
         exact YE (by rw [← ht48]; (try rw [hc47]); (try rw [hc46]); kernel_rfl)
       ·refine YQ hc46 ?_
        exact YE (by rw [← ht48]; (try rw [hc46]); kernel_rfl)
      cases h
      exact zE VT
end Go.Proofs.YtfmjfofocklgpaaGreatDoor
