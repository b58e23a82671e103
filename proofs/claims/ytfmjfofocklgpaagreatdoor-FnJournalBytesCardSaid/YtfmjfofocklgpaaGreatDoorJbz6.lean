/-
  Rules of walks, plain functions and their laws, part 6.
  Conditions: none.
-/
import Derived.Test.YtfmjfofocklgpaaGreatDoorJbz5
set_option linter.unusedSimpArgs false
set_option linter.unusedVariables false
namespace Go.Proofs.YtfmjfofocklgpaaGreatDoor
open Go.RowKit
set_option maxRecDepth 100000
set_option maxHeartbeats 400000
theorem zEw : CfW Tryz.prog 47 := cfW Tryz.func47
theorem zFP {vs1 : ByteArray} {r : ((List ((ByteArray × ((Int × Int × Int))))) × Int × Int × Int)} (h : zA4 vs1 = some r) : zV Tryz.prog 47 [.c (.v (.string vs1))] (.tc (.c (.sl (r.1.map c73))) (.tc (I r.2.1) (.tc (I r.2.2.1) (.tc (I r.2.2.2) .tn)))) [] := by
 refine CtW [2, 3, 4, 5] Tryz.func47 rfl rfl 93 ?_
 unfold zA4 at h
 refine VS ?_
 refine L1 rfl rfl (zAc (e := 73) 4 (by decide) (.inl rfl)) ?_
 refine YF ?_
 refine VS ?_
 refine L1 rfl rfl (zAc (e := 73) 4 (by decide) (.inl rfl)) ?_
 refine YF ?_
 refine VE ?_
 refine zK ?_
 refine zIE 48 (T := 73) (sz := 4) (els := (([] : List ((ByteArray × ((Int × Int × Int)))))).map c73) kk rfl ?_
 obtain ⟨o7, hLo7, h⟩ := zA h
 refine zCS (mb 93 960) [] (s1 := ⟨bt 6 (.c (.sl (o7.1.map c73)) :: I o7.2.1 :: I o7.2.2.1 :: I o7.2.2.2 :: bt 83 []), []⟩) ?_ ?_
 ·clear h
  refine zN (jM (fun n s => ∃ (l2 : List ((ByteArray × ((Int × Int × Int))))) (records3 : Int) (vat4 : Int) (check5 : Int), s.keep (mb 93 961) [] = (⟨.c (.v (.string vs1)) :: bt 5 (.c (.sl (l2.map c73)) :: I records3 :: I vat4 :: I check5 :: bt 83 []), []⟩ : St) ∧ jD vs1 n l2 records3 vat4 check5 = some o7) FU ⟨_, _, _, _,  kk, hLo7⟩ ?_)
  clear hLo7
  rintro n s ⟨l2, records3, vat4, check5, hs, h⟩
  refine jF _ _ hs ?_
  clear hs
  cases n with
  | zero => cases h
  | succ n =>
   rw [jD] at h
   refine zK ?_
   refine VE ?_
   refine VC h (fun h => ?_) (fun h => ?_)
   ·refine zH ?_
    show V _ _ _ _
    refine zN ?_
    refine VE ?_
    refine zK ?_
    obtain ⟨o11, hLo11, h⟩ := zA h
    refine zCS (mb 93 1985) [] (s1 := ⟨.c (.v (.string vs1)) :: bt 5 (.c (.sl (l2.map c73)) :: I records3 :: I vat4 :: I check5 :: I o11 :: bt 82 []), []⟩) ?_ ?_
    ·clear h
     refine zN (jM (fun n s => ∃ (vend9 : Int), s.keep (mb 93 1985) [] = (⟨.c (.v (.string vs1)) :: bt 5 (.c (.sl (l2.map c73)) :: I records3 :: I vat4 :: I check5 :: I vend9 :: bt 82 []), []⟩ : St) ∧ zAf check5 l2 records3 vat4 vs1 n vend9 = some o11) FU ⟨_,  kk, hLo11⟩ ?_)
     clear hLo11
     rintro n s ⟨vend9, hs, h⟩
     refine jF _ _ hs ?_
     clear hs
     cases n with
     | zero => cases h
     | succ n =>
      rw [zAf] at h
      refine zK ?_
      obtain ⟨b14, hb14, h⟩ := zA h
      refine zO (mb 93 268437441) [] (s1 := ⟨.c (.v (.string vs1)) :: bt 5 (.c (.sl (l2.map c73)) :: I records3 :: I vat4 :: I check5 :: I vend9 :: bt 17 (Bo b14 :: bt 64 [])), []⟩) ?_ ?_
      ·refine YR 5 ?_
       refine zE (ltI vend9 ((vs1.size : Int))) (fun hc12 => ?_) (fun hc12 => ?_)
       ·have hb14 := qH hb14 hc12
        obtain ⟨e13, he13, hb14⟩ := zA hb14
        have hb14 := zB hb14
        refine YQ hc12 ?_
        refine YR 2 ?_
        refine YT (qB rfl (zC9 (b := vs1) (k := .i64) (n := vend9) (v := e13) Tryz.underlying9 rfl kk kk he13)) ?_
        exact YE (by rw [← hb14]; (try rw [hc12]); kernel_rfl)
       ·have hb14 := zB (z7 hb14 hc12)
        refine YQ hc12 ?_
        exact YE (by rw [← hb14]; (try rw [hc12]); kernel_rfl)
      refine VC h (fun h => ?_) (fun h => ?_)
      ·refine zH ?_
       show V _ _ _ _
       refine zN ?_
       obtain ⟨vend16, hvend16, h⟩ := zT h
       refine jC (mb 93 1985) [] (s1 := ⟨.c (.v (.string vs1)) :: bt 5 (.c (.sl (l2.map c73)) :: I records3 :: I vat4 :: I check5 :: I vend16 :: bt 82 []), []⟩) ?_ ?_
       ·refine XR 3 ?_
        refine zM ?_
        subst hvend16
        kernel_rfl
       exact ⟨n, Nat.lt_succ_self n, _,  kk, h⟩
      ·refine jE ?_
       obtain rfl := zB h
       show St.keep _ _ _ = _
       kernel_rfl
    show V _ _ _ _
    refine VE ?_
    refine zK ?_
    obtain ⟨o19, hLo19, h⟩ := zA h
    refine zCS (mb 93 4033) [] (s1 := ⟨.c (.v (.string vs1)) :: bt 5 (.c (.sl (l2.map c73)) :: I records3 :: I vat4 :: I check5 :: I o11 :: I o19 :: bt 81 []), []⟩) ?_ ?_
    ·clear h
     refine zN (jM (fun n s => ∃ (mark17 : Int), s.keep (mb 93 4033) [] = (⟨.c (.v (.string vs1)) :: bt 5 (.c (.sl (l2.map c73)) :: I records3 :: I vat4 :: I check5 :: I o11 :: I mark17 :: bt 81 []), []⟩ : St) ∧ zAe check5 l2 o11 records3 vat4 vs1 n mark17 = some o19) FU ⟨_,  kk, hLo19⟩ ?_)
     clear hLo19
     rintro n s ⟨mark17, hs, h⟩
     refine jF _ _ hs ?_
     clear hs
     cases n with
     | zero => cases h
     | succ n =>
      rw [zAe] at h
      refine zK ?_
      obtain ⟨b22, hb22, h⟩ := zA h
      refine zO (mb 93 1099511631809) [] (s1 := ⟨.c (.v (.string vs1)) :: bt 5 (.c (.sl (l2.map c73)) :: I records3 :: I vat4 :: I check5 :: I o11 :: I mark17 :: bt 28 (Bo b22 :: bt 52 [])), []⟩) ?_ ?_
      ·refine YR 4 ?_
       refine zE (ltI mark17 o11) (fun hc20 => ?_) (fun hc20 => ?_)
       ·have hb22 := qH hb22 hc20
        obtain ⟨e21, he21, hb22⟩ := zA hb22
        have hb22 := zB hb22
        refine YQ hc20 ?_
        refine YR 2 ?_
        refine YT (qB rfl (zC9 (b := vs1) (k := .i64) (n := mark17) (v := e21) Tryz.underlying9 rfl kk kk he21)) ?_
        exact YE (by rw [← hb22]; (try rw [hc20]); kernel_rfl)
       ·have hb22 := zB (z7 hb22 hc20)
        refine YQ hc20 ?_
        exact YE (by rw [← hb22]; (try rw [hc20]); kernel_rfl)
      refine VC h (fun h => ?_) (fun h => ?_)
      ·refine zH ?_
       show V _ _ _ _
       refine zN ?_
       obtain ⟨mark24, hmark24, h⟩ := zT h
       refine jC (mb 93 4033) [] (s1 := ⟨.c (.v (.string vs1)) :: bt 5 (.c (.sl (l2.map c73)) :: I records3 :: I vat4 :: I check5 :: I o11 :: I mark24 :: bt 81 []), []⟩) ?_ ?_
       ·refine XR 3 ?_
        refine zM ?_
        subst hmark24
        kernel_rfl
       exact ⟨n, Nat.lt_succ_self n, _,  kk, h⟩
      ·refine jE ?_
       obtain rfl := zB h
       show St.keep _ _ _ = _
       kernel_rfl
    show V _ _ _ _
    obtain ⟨u25, hu25, h⟩ := zA h
    obtain ⟨y26, hy26, h⟩ := zA h
    refine VS ?_
    refine YR 3 ?_
    refine L0 rfl rfl (zBF (b := vs1) (l := vat4) (h := o19) Tryz.underlying9 rfl kk (fun y hy => by cases hy; exact ⟨.i64, kk⟩) (fun hh => by cases hh) (fun y hy => by cases hy; exact ⟨.i64, kk⟩) (fun hh => by cases hh) (zAY hu25)) ?_
    refine YK 0 (s_spec_lgRead hy26) zMA ?_
    refine YF ?_
    refine zK ?_
    obtain ⟨b31, hb31, h⟩ := zA h
    refine zCj [0, 0, 2, 7, 15, 31, 63, 127, 255, 511, 511, 511, 2559, 8191, 511, 511, 49663, 131071, 262143] 19 (cdm 19 [40, 2, 6, 21, 85, 341, 1365, 5461, 21845, 11318416725, 11316843861, 11276997973, 11281192277, 11296658773, 2326353237, 715740501, 1521046869, 5726623061, 22906492245]) (mb 93 590295810358705659841) [96] (s1 := ⟨.c (.v (.string vs1)) :: bt 5 (.c (.sl (l2.map c73)) :: I records3 :: I vat4 :: I check5 :: I o11 :: I o19 :: .pt 96 0 :: bt 56 (Bo b31 :: bt 23 [])), [(96, .box [Ti y26.1.1, .v (.string y26.1.2.1), .v (.string y26.1.2.2.1), .v (.string y26.1.2.2.2.1), Ti y26.1.2.2.2.2.1, Ti y26.1.2.2.2.2.2.1, Ti y26.1.2.2.2.2.2.2])]⟩) kk kk ?_ ?_
    ·refine ER 5 ?_
     refine zEj (eqI o11 ((vs1.size : Int))) (fun hc27 => ?_) (fun hc27 => ?_)
     ·refine EQ hc27 ?_
      refine ER 4 ?_
      refine zEj (bif (eqI o11 ((vs1.size : Int))) then true else (!y26.2)) (fun hc28 => ?_) (fun hc28 => ?_)
      ·have hb31 := zB (qH hb31 hc28)
       refine EQ hc28 ?_ (by rw [hc27]; kernel_rfl)
       refine EA 10 ?_
       exact YE (by rw [← hb31]; (try rw [hc28]); (try rw [hc27]); kernel_rfl)
      ·have hb31 := z7 hb31 hc28
       obtain ⟨u29, hu29, hb31⟩ := zA hb31
       obtain ⟨y30, hy30, hb31⟩ := zA hb31
       have hb31 := zB hb31
       refine EQ hc28 ?_ (by rw [hc27]; kernel_rfl)
       refine ER 4 ?_
       refine E0 13 rfl rfl (zBF (b := vs1) (l := vat4) (h := w64 (o11 + 1)) Tryz.underlying9 rfl kk (fun y hy => by cases hy; exact ⟨.i64, kk⟩) (fun hh => by cases hh) (fun y hy => by cases hy; exact ⟨.i64, kk⟩) (fun hh => by cases hh) (zAY hu29)) ?_
       refine EK 2 (zEF hy30) zDo ?_
       refine EA 2 ?_
       exact YE (by rw [← hb31]; (try rw [hc28]); (try rw [hc27]); kernel_rfl)
     ·refine EQ hc27 ?_
      refine ER 4 ?_
      refine zEj (bif (eqI o11 ((vs1.size : Int))) then true else (!y26.2)) (fun hc28 => ?_) (fun hc28 => ?_)
      ·have hb31 := zB (qH hb31 hc28)
       refine EQ hc28 ?_ (by rw [hc27]; kernel_rfl)
       refine EA 10 ?_
       exact YE (by rw [← hb31]; (try rw [hc28]); (try rw [hc27]); kernel_rfl)
      ·have hb31 := z7 hb31 hc28
       obtain ⟨u29, hu29, hb31⟩ := zA hb31
       obtain ⟨y30, hy30, hb31⟩ := zA hb31
       have hb31 := zB hb31
       refine EQ hc28 ?_ (by rw [hc27]; kernel_rfl)
       refine ER 4 ?_
       refine E0 13 rfl rfl (zBF (b := vs1) (l := vat4) (h := w64 (o11 + 1)) Tryz.underlying9 rfl kk (fun y hy => by cases hy; exact ⟨.i64, kk⟩) (fun hh => by cases hh) (fun y hy => by cases hy; exact ⟨.i64, kk⟩) (fun hh => by cases hh) (zAY hu29)) ?_
       refine EK 2 (zEF hy30) zDo ?_
       refine EA 2 ?_
       exact YE (by rw [← hb31]; (try rw [hc28]); (try rw [hc27]); kernel_rfl)
    refine VC h (fun h => ?_) (fun h => ?_)
    ·refine jE ?_
     obtain rfl := zB h
     show St.keep _ _ _ = _
     kernel_rfl
    ·refine zH ?_
     show V _ _ _ _
     obtain ⟨y33, hy33, h⟩ := zA h
     refine VS ?_
     refine YK 2 (zG8 hy33) zGE ?_
     refine YF ?_
     refine zK ?_
     refine VE ?_
     refine VC h (fun h => ?_) (fun h => ?_)
     ·refine jE ?_
      obtain rfl := zB h
      show St.keep _ _ _ = _
      kernel_rfl
     ·refine zH ?_
      show V _ _ _ _
      obtain ⟨u35, hu35, h⟩ := zA h
      obtain ⟨y36, hy36, h⟩ := zA h
      refine VS ?_
      refine YR 3 ?_
      refine L0 rfl rfl (zBF (b := vs1) (l := vat4) (h := o19) Tryz.underlying9 rfl kk (fun y hy => by cases hy; exact ⟨.i64, kk⟩) (fun hh => by cases hh) (fun y hy => by cases hy; exact ⟨.i64, kk⟩) (fun hh => by cases hh) (zAY hu35)) ?_
      refine YK 1 (zF8 hy36) zFR ?_
      refine YF ?_
      refine zIE 584 (T := 73) (sz := 4) (els := y33.1.map c73) kk rfl ?_
      obtain ⟨vat37, hvat37, h⟩ := zT h
      refine zO (mb 93 961) [] (s1 := ⟨.c (.v (.string vs1)) :: bt 5 (.c (.sl (y33.1.map c73)) :: I records3 :: I vat37 :: I y36 :: bt 83 []), []⟩) ?_ ?_
      ·refine XR 5 ?_
       refine zM ?_
       subst hvat37
       kernel_rfl
      obtain ⟨records38, hrecords38, h⟩ := zT h
      refine jC (mb 93 961) [] (s1 := ⟨.c (.v (.string vs1)) :: bt 5 (.c (.sl (y33.1.map c73)) :: I records38 :: I vat37 :: I y36 :: bt 83 []), []⟩) ?_ ?_
      ·refine XR 3 ?_
       refine zM ?_
       subst hrecords38
       kernel_rfl
      exact ⟨n, Nat.lt_succ_self n, _, _, _, _,  kk, h⟩
   ·refine jE ?_
    obtain rfl := zB h
    show St.keep _ _ _ = _
    kernel_rfl
 show V _ _ _ _
 refine VE ?_
 cases h
 exact zF VT
theorem zFm : CfW Tryz.prog 36 := cfW Tryz.func36
theorem zGA {code1 : List Int} {r : (ByteArray × ((Int × ByteArray × ByteArray × ByteArray × ((Int × Int × Int)))))} (h : zAr code1 = some r) : zV Tryz.prog 36 [.c (.sl (code1.map c5))] (.tc (.c (.v (.string r.1))) (.tc (.ag [Ti r.2.1, .v (.string r.2.2.1), .v (.string r.2.2.2.1), .v (.string r.2.2.2.2.1), Ti r.2.2.2.2.2.1, Ti r.2.2.2.2.2.2.1, Ti r.2.2.2.2.2.2.2]) .tn)) [] := by
 refine zZ (rs := [.t 2, .w 3 7]) (vs := [.tmp 2, .cell 3 40]) Tryz.func36 rfl rfl (.cons rfl (.cons ⟨rfl, wd40⟩ FitsL.nil)) (by decide) 26 rfl ?_
 unfold zAr at h
 refine VE ?_
 refine VS ?_
 refine YR 1 ?_
 refine L0 rfl rfl (zW (cs := [.sl (code1.map c5), Ti 0, .v (.int .u64 0)]) pl84 bt84 rfl rfl kk) ?_
 refine YF ?_
 obtain ⟨y2, hy2, h⟩ := zA h
 refine VS ?_
 refine YR 1 ?_
 refine zL rfl (zS [(80000, 96)] 14 (zHZ hy2) zHM rfl rfl kk rfl (zR kk zX) rfl kk rfl rfl rfl) ?_
 refine YF ?_
 obtain ⟨y3, hy3, h⟩ := zA h
 refine VS ?_
 refine YK 1 (zFP hy3) zEw ?_
 refine YF ?_
 obtain ⟨y4, hy4, h⟩ := zA h
 refine VS ?_
 refine YR 3 ?_
 refine zL rfl (zS [(80000, 96)] 25 (zFE hy4) zEm rfl rfl kk rfl (zR kk zX) rfl kk rfl rfl rfl) ?_
 refine YF ?_
 cases h
 exact zF VT
theorem zDf : CfW Tryz.prog 103 := cfW Tryz.func103
theorem zDu {vs1 : ByteArray} {r : Bool} (h : zBa vs1 = some r) : zV Tryz.prog 103 [.c (.v (.string vs1))] (Bo r) [] := by
 refine CtW [2] Tryz.func103 rfl rfl 28 ?_
 unfold zBa at h
 refine VE ?_
 refine zK ?_
 refine VE ?_
 obtain ⟨qo4, hLo4, hko4⟩ := zA h
 refine zFN (q := qo4) (S := fun o4 => ⟨.c (.v (.string vs1)) :: bt 27 [], []⟩) (mb 28 1) [] ?_ ?_
 ·refine zN (jM (fun n s => ∃ (i2 : Int), s.keep (mb 28 9) [] = (⟨.c (.v (.string vs1)) :: .bot :: .bot :: I i2 :: bt 24 [], []⟩ : St) ∧ zAN vs1 n i2 = some qo4) FU ⟨_,  kk, hLo4⟩ ?_)
  clear hLo4
  rintro n s ⟨i2, hs, h⟩
  refine jF _ _ hs ?_
  clear hs
  cases n with
  | zero => cases h
  | succ n =>
   rw [zAN] at h
   refine zK ?_
   refine VS ?_
   refine YF ?_
   refine VC h (fun h => ?_) (fun h => ?_)
   ·refine zH ?_
    show V _ _ _ _
    refine zK ?_
    refine zN ?_
    obtain ⟨e6, he6, h⟩ := zA h
    obtain ⟨b9, hb9, h⟩ := zA h
    refine zO (mb 28 524297) [] (s1 := ⟨.c (.v (.string vs1)) :: .bot :: .bot :: I i2 :: bt 15 (Bo b9 :: bt 8 []), []⟩) ?_ ?_
    ·refine YR 2 ?_
     refine L0 rfl rfl (zC9 (b := vs1) (k := .i64) (n := i2) (v := e6) Tryz.underlying9 rfl kk kk he6) ?_
     refine YR 2 ?_
     refine zE (ltI e6 97) (fun hc7 => ?_) (fun hc7 => ?_)
     ·have hb9 := zB (qH hb9 hc7)
      refine YQ hc7 ?_
      exact YE (by rw [← hb9]; (try rw [hc7]); kernel_rfl)
     ·have hb9 := z7 hb9 hc7
      obtain ⟨e8, he8, hb9⟩ := zA hb9
      have hb9 := zB hb9
      refine YQ hc7 ?_
      refine YR 2 ?_
      refine YT (qB rfl (zC9 (b := vs1) (k := .i64) (n := i2) (v := e8) Tryz.underlying9 rfl kk kk he8)) ?_
      exact YE (by rw [← hb9]; (try rw [hc7]); kernel_rfl)
    refine VC h (fun h => ?_) (fun h => ?_)
    ·refine VE ?_
     refine zF ?_
     obtain rfl := zB h
     have h := hko4
     obtain rfl := zB h
     exact VT
    ·refine zH ?_
     show V _ _ _ _
     obtain ⟨i11, hi11, h⟩ := zT h
     refine jC (mb 28 9) [] (s1 := ⟨.c (.v (.string vs1)) :: .bot :: .bot :: I i11 :: bt 24 [], []⟩) ?_ ?_
     ·refine XR 3 ?_
      refine zM ?_
      subst hi11
      kernel_rfl
     exact ⟨n, Nat.lt_succ_self n, _,  kk, h⟩
   ·refine jE ?_
    obtain rfl := zB h
    exact ⟨_, rfl, kk⟩
 rintro o4 rfl
 have h := hko4
 clear hko4
 show V _ _ _ _
 obtain ⟨t13, ht13, h⟩ := zA h
 have ht13 := zB ht13
 refine zO (mb 28 4) [] (s1 := ⟨.bot :: .bot :: Bo t13 :: bt 25 [], []⟩) ?_ ?_
 ·refine YR 4 ?_
  refine zE (leI 1 ((vs1.size : Int))) (fun hc12 => ?_) (fun hc12 => ?_)
  ·refine YQ hc12 ?_
   exact YE (by rw [← ht13]; (try rw [hc12]); kernel_rfl)
  ·refine YQ hc12 ?_
   exact YE (by rw [← ht13]; (try rw [hc12]); kernel_rfl)
 cases h
 exact zF VT
theorem zJG : CfW Tryz.prog 166 := cfW Tryz.func166
theorem zJW {list1 : List Int} {r : Bool} (h : zC4 list1 = some r) : zV Tryz.prog 166 [.c (.sl (list1.map c3))] (Bo r) [] := by
 refine CtW [2] Tryz.func166 rfl rfl 18 ?_
 unfold zC4 at h
 refine VE ?_
 refine zK ?_
 refine VS ?_
 refine YR 1 ?_
 refine L0 rfl rfl (qQ (c := c3) (xs := list1) Tryz.underlying24 rfl kk) ?_
 refine YF ?_
 obtain ⟨qo4, hLo4, hko4⟩ := zA h
 refine zFN (q := qo4) (S := fun o4 => ⟨bt 18 [], []⟩) (mb 18 0) [] ?_ ?_
 ·refine zN (jM (fun n s => ∃ (t2 : Int), s.keep (mb 18 224) [] = (⟨bt 5 (.c (.sl (list1.map c3)) :: I ((list1.length : Int)) :: I t2 :: bt 10 []), []⟩ : St) ∧ zBD list1 n t2 = some qo4) FU ⟨_,  kk, hLo4⟩ ?_)
  clear hLo4
  rintro n s ⟨t2, hs, h⟩
  refine jF _ _ hs ?_
  clear hs
  cases n with
  | zero => cases h
  | succ n =>
   rw [zBD] at h
   refine VE ?_
   refine zK ?_
   refine VC h (fun h => ?_) (fun h => ?_)
   ·refine zH ?_
    show V _ _ _ _
    refine zK ?_
    refine zN ?_
    obtain ⟨e6, he6, h⟩ := zA h
    refine VS ?_
    refine L0 rfl rfl (zBG (c := c3) (xs := list1) (v := e6) (n := t2) Tryz.underlying24 sz3 rfl kk kk he6) ?_
    refine YF ?_
    refine zO (mb 18 65760) [] (s1 := ⟨bt 5 (.c (.sl (list1.map c3)) :: I ((list1.length : Int)) :: I t2 :: bt 8 (Bo (bif (ltI e6 (-1000000)) then true else (ltI 1000000 e6)) :: .bot :: [])), []⟩) ?_ ?_
    ·refine YR 3 ?_
     refine zE (ltI e6 (-1000000)) (fun hc7 => ?_) (fun hc7 => ?_)
     ·refine YQ hc7 ?_
      exact YE (by rw [hc7]; kernel_rfl)
     ·refine YQ hc7 ?_
      exact YE (by rw [hc7]; kernel_rfl)
    refine VC h (fun h => ?_) (fun h => ?_)
    ·refine VE ?_
     refine zF ?_
     obtain rfl := zB h
     have h := hko4
     obtain rfl := zB h
     exact VT
    ·refine zH ?_
     show V _ _ _ _
     obtain ⟨t9, ht9, h⟩ := zT h
     refine jC (mb 18 224) [] (s1 := ⟨bt 5 (.c (.sl (list1.map c3)) :: I ((list1.length : Int)) :: I t9 :: bt 10 []), []⟩) ?_ ?_
     ·refine XR 2 ?_
      refine zM ?_
      subst ht9
      kernel_rfl
     exact ⟨n, Nat.lt_succ_self n, _,  kk, h⟩
   ·refine jE ?_
    obtain rfl := zB h
    exact ⟨_, rfl, kk⟩
 rintro o4 rfl
 have h := hko4
 clear hko4
 show V _ _ _ _
 refine VE ?_
 cases h
 exact zF VT
theorem zHy : CfW Tryz.prog 161 := cfW Tryz.func161
theorem zI9 {f1 : (Int × Int × Int)} {r : Bool} (h : zDR f1 = some r) : zV Tryz.prog 161 [.ag [Ti f1.1, Ti f1.2.1, Ti f1.2.2]] (Bo r) [] := by
 refine CtW [2] Tryz.func161 rfl rfl 11 ?_
 unfold zDR at h
 refine VE ?_
 obtain ⟨y2, hy2, h⟩ := zA h
 refine VS ?_
 refine YR 6 ?_
 refine L1 rfl rfl (qP (z := zv3) (els := [f1.1, f1.2.1, f1.2.2].map c3) Tryz.underlying24 iz3 rfl (by decide) rfl kk rfl (by simp [c3]) (by decide) (by decide)) ?_
 refine L1 rfl rfl (zBy (zJW hy2) zJG rfl kk rfl rfl) ?_
 refine YF ?_
 cases h
 exact zF VT
theorem zC8 : CfW Tryz.prog 169 := cfW Tryz.func169
theorem zCm {f1 : (Int × Int × Int)} {r : Int} (h : qI f1 = some r) : zV Tryz.prog 169 [.ag [Ti f1.1, Ti f1.2.1, Ti f1.2.2]] (I r) [] := by
 refine CtW [2] Tryz.func169 rfl rfl 15 ?_
 unfold qI at h
 refine VE ?_
 obtain ⟨t2, ht2, h⟩ := zT h
 refine zO (mb 15 4) [] (s1 := ⟨.bot :: .bot :: I t2 :: bt 12 [], []⟩) ?_ ?_
 ·refine XR 13 ?_
  refine zM ?_
  subst ht2
  kernel_rfl
 cases h
 exact zF VT
theorem zJD : CfW Tryz.prog 77 := cfW Tryz.func77
theorem zJT {f1 : (Int × Int × Int)} {r : Bool} (h : zAU f1 = some r) : zV Tryz.prog 77 [.ag [Ti f1.1, Ti f1.2.1, Ti f1.2.2]] (Bo r) [] := by
 refine CtW [2] Tryz.func77 rfl rfl 15 ?_
 unfold zAU at h
 refine VE ?_
 obtain ⟨y2, hy2, h⟩ := zA h
 obtain ⟨b5, hb5, h⟩ := zA h
 refine zO (mb 15 4) [] (s1 := ⟨.bot :: .bot :: Bo (bif b5 then (ltI 0 f1.1) else false) :: bt 12 [], []⟩) ?_ ?_
 ·refine YK 1 (zI9 hy2) zHy ?_
  refine YR 1 ?_
  refine zE y2 (fun hc3 => ?_) (fun hc3 => ?_)
  ·have hb5 := qH hb5 hc3
   obtain ⟨y4, hy4, hb5⟩ := zA hb5
   have hb5 := zB hb5
   refine YQ hc3 ?_
   refine YK 1 (zCm hy4) zC8 ?_
   refine YR 3 ?_
   refine zE b5 (fun hc6 => ?_) (fun hc6 => ?_)
   ·refine YQ hc6 ?_ (by rw [← hb5]; (try rw [hc3]); kernel_rfl)
    exact YE (by rw [hc6]; kernel_rfl)
   ·refine YQ hc6 ?_ (by rw [← hb5]; (try rw [hc3]); kernel_rfl)
    exact YE (by rw [hc6]; kernel_rfl)
  ·have hb5 := zB (z7 hb5 hc3)
   refine YQ hc3 ?_
   refine YR 5 ?_
   subst hb5
   have hc6 : false = false := rfl
   exact YE
 cases h
 exact zF VT
theorem zI0 : CfW Tryz.prog 187 := cfW Tryz.func187
theorem zIl {f1 : (Int × Int × Int)} {r : Bool} (h : jT f1 = some r) : zV Tryz.prog 187 [.ag [Ti f1.1, Ti f1.2.1, Ti f1.2.2]] (Bo r) [] := by
 refine CtW [2] Tryz.func187 rfl rfl 10 ?_
 unfold jT at h
 refine VE ?_
 obtain ⟨y2, hy2, h⟩ := zA h
 obtain ⟨b5, hb5, h⟩ := zA h
 refine zO (mb 10 4) [] (s1 := ⟨.bot :: .bot :: Bo b5 :: bt 7 [], []⟩) ?_ ?_
 ·refine YK 1 (zJT hy2) zJD ?_
  refine YR 1 ?_
  refine zE y2 (fun hc3 => ?_) (fun hc3 => ?_)
  ·have hb5 := qH hb5 hc3
   obtain ⟨y4, hy4, hb5⟩ := zA hb5
   have hb5 := zB hb5
   refine YQ hc3 ?_
   refine YK 1 (zCm hy4) zC8 ?_
   exact YE (by rw [← hb5]; (try rw [hc3]); kernel_rfl)
  ·have hb5 := zB (z7 hb5 hc3)
   refine YQ hc3 ?_
   exact YE (by rw [← hb5]; (try rw [hc3]); kernel_rfl)
 cases h
 exact zF VT
theorem zKe : CfW Tryz.prog 84 := cfW Tryz.func84
theorem zLZ {vn1 : Int} {r : Int} (h : zDb vn1 = some r) : zV Tryz.prog 84 [I vn1] (I r) [] := by
 refine CtW [2] Tryz.func84 rfl rfl 8 ?_
 unfold zDb at h
 refine VE ?_
 obtain ⟨t2, ht2, h⟩ := zT h
 refine zO (mb 8 4) [] (s1 := ⟨.bot :: .bot :: I t2 :: bt 5 [], []⟩) ?_ ?_
 ·refine XR 2 ?_
  refine L0 rfl rfl (Y0_max (a := vn1) (b := -9223372036854775807) rfl kk kk) ?_
  refine XR 1 ?_
  refine L0 rfl rfl (Y0_max (a := vn1) (b := w64 (0 - (mxI vn1 (-9223372036854775807)))) rfl kk kk) ?_
  refine XR 1 ?_
  refine zM ?_
  subst ht2
  kernel_rfl
 cases h
 exact zF VT
theorem zFt : CfW Tryz.prog 80 := cfW Tryz.func80
theorem zGe {a1 : Int} {b2 : Int} {r : Int} (h : zDa a1 b2 = some r) : zV Tryz.prog 80 [I a1, I b2] (I r) [] := by
 refine CtW [4] Tryz.func80 rfl rfl 13 ?_
 unfold zDa at h
 refine VE ?_
 refine zK ?_
 obtain ⟨o6, hLo6, h⟩ := zA h
 refine zCS (mb 13 1) [] (s1 := ⟨I o6 :: bt 12 [], []⟩) ?_ ?_
 ·clear h
  refine zN (jM (fun n s => ∃ (a3 : Int) (b4 : Int), s.keep (mb 13 3) [] = (⟨I a3 :: I b4 :: bt 11 [], []⟩ : St) ∧ zA6 n a3 b4 = some o6) FU ⟨_, _,  kk, hLo6⟩ ?_)
  clear hLo6
  rintro n s ⟨a3, b4, hs, h⟩
  refine jF _ _ hs ?_
  clear hs
  cases n with
  | zero => cases h
  | succ n =>
   rw [zA6] at h
   refine zK ?_
   refine VE ?_
   refine VC h (fun h => ?_) (fun h => ?_)
   ·refine zH ?_
    show V _ _ _ _
    refine zN ?_
    obtain ⟨z8, hz8, h⟩ := zA h
    obtain ⟨b9, hb9, h⟩ := zT h
    refine zMP [0, 0, 0, 6, 3, 31] 6 (cdm 6 [168, 34, 522, 534, 165, 341]) (mb 13 3) [] (s1 := ⟨I b4 :: I b9 :: bt 11 [], []⟩) kk kk ?_ ?_
    ·refine DR 3 ?_
     refine DE_0 3 (I (Int.tmod a3 b4)) kk rfl rfl rfl (qS rfl) kk (zEy (k := .i64) (a := a3) (b := b4) rfl kk kk (zAA hz8)) 10 rfl ?_
     refine DA 2 ?_
     refine zM ?_
     subst hb9
     kernel_rfl
    exact ⟨n, Nat.lt_succ_self n, _, _,  kk, h⟩
   ·refine jE ?_
    obtain rfl := zB h
    show St.keep _ _ _ = _
    kernel_rfl
 show V _ _ _ _
 obtain ⟨y10, hy10, h⟩ := zA h
 refine VS ?_
 refine YK 1 (zLZ hy10) zKe ?_
 refine YF ?_
 cases h
 exact zF VT
theorem zHz : CfW Tryz.prog 188 := cfW Tryz.func188
theorem zIZ {f1 : (Int × Int × Int)} {r : Int} (h : zBx f1 = some r) : zV Tryz.prog 188 [.ag [Ti f1.1, Ti f1.2.1, Ti f1.2.2]] (I r) [] := by
 refine CtW [2] Tryz.func188 rfl rfl 11 ?_
 unfold zBx at h
 refine VE ?_
 obtain ⟨y2, hy2, h⟩ := zA h
 obtain ⟨y3, hy3, h⟩ := zA h
 refine VDS [0, 1, 0, 4, 0, 16, 60, 127, 255] 9 (cdm 9 [10912, 10913, 2570, 2586, 170, 426, 1370, 5461, 21845]) ?_
 refine EK 6 (zGe hy2) zFt ?_
 refine EK 0 (zGe hy3) zFt ?_
 refine EF 1 ?_
 cases h
 exact zF VT
theorem zDt : CfW Tryz.prog 104 := cfW Tryz.func104
theorem zEO {f1 : (Int × Int × Int)} {r : Bool} (h : qC f1 = some r) : zV Tryz.prog 104 [.ag [Ti f1.1, Ti f1.2.1, Ti f1.2.2]] (Bo r) [] := by
 refine CtW [2] Tryz.func104 rfl rfl 10 ?_
 unfold qC at h
 refine VE ?_
 obtain ⟨y2, hy2, h⟩ := zA h
 obtain ⟨b5, hb5, h⟩ := zA h
 refine zO (mb 10 4) [] (s1 := ⟨.bot :: .bot :: Bo b5 :: bt 7 [], []⟩) ?_ ?_
 ·refine YK 1 (zIl hy2) zI0 ?_
  refine YR 1 ?_
  refine zE y2 (fun hc3 => ?_) (fun hc3 => ?_)
  ·have hb5 := qH hb5 hc3
   obtain ⟨y4, hy4, hb5⟩ := zA hb5
   have hb5 := zB hb5
   refine YQ hc3 ?_
   refine YK 1 (zIZ hy4) zHz ?_
   exact YE (by rw [← hb5]; (try rw [hc3]); kernel_rfl)
  ·have hb5 := zB (z7 hb5 hc3)
   refine YQ hc3 ?_
   exact YE (by rw [← hb5]; (try rw [hc3]); kernel_rfl)
 cases h
 exact zF VT
theorem zD3 : CfW Tryz.prog 53 := cfW Tryz.func53
theorem zDj {c1 : (Int × ByteArray × ByteArray × ByteArray × ((Int × Int × Int)))} {r : Bool} (h : zAO c1 = some r) : zV Tryz.prog 53 [.ag [Ti c1.1, .v (.string c1.2.1), .v (.string c1.2.2.1), .v (.string c1.2.2.2.1), Ti c1.2.2.2.2.1, Ti c1.2.2.2.2.2.1, Ti c1.2.2.2.2.2.2]] (Bo r) [] := by
 refine CtW [2] Tryz.func53 rfl rfl 73 ?_
 unfold zAO at h
 refine VE ?_
 refine zK ?_
 obtain ⟨y2, hy2, h⟩ := zA h
 refine VS ?_
 refine YK 2 (zDu hy2) zDf ?_
 refine YF ?_
 refine VC h (fun h => ?_) (fun h => ?_)
 ·refine VE ?_
  cases h
  exact zF VT
 ·refine zH ?_
  show V _ _ _ _
  refine zK ?_
  refine VE ?_
  refine zN ?_
  obtain ⟨j4, hj4, h⟩ := zA h
  refine zCw (mb 73 770) [8] (s1 := ⟨.bot :: .pt 8 0 :: bt 6 (I c1.1 :: Bo j4 :: bt 63 []), [(8, .box [Ti c1.1, .v (.string c1.2.1), .v (.string c1.2.2.1), .v (.string c1.2.2.2.1), Ti c1.2.2.2.2.1, Ti c1.2.2.2.2.2.1, Ti c1.2.2.2.2.2.2])]⟩) ?_ ?_
  ·clear h
   have h := hj4
   clear hj4
   refine VE ?_
   refine VC h (fun h => ?_) (fun h => ?_)
   ·refine zH ?_
    obtain rfl := zB h
    show St.keep _ _ _ = _
    kernel_rfl
   ·refine zY ?_
    refine YF ?_
    obtain rfl := zB h
    show St.keep _ _ _ = _
    kernel_rfl
  refine VC h (fun h => ?_) (fun h => ?_)
  ·obtain ⟨b10, hb10, h⟩ := zA h
   refine zO (mb 73 4) [] (s1 := ⟨.bot :: .bot :: Bo b10 :: bt 70 [], []⟩) ?_ ?_
   ·refine YR 4 ?_
    refine zE (c1.2.2.1.toList == ((⟨#[]⟩ : ByteArray)).toList) (fun hc7 => ?_) (fun hc7 => ?_)
    ·refine YQ hc7 ?_
     refine YR 5 ?_
     refine zE (bif (c1.2.2.1.toList == ((⟨#[]⟩ : ByteArray)).toList) then (c1.2.2.2.1.toList == ((⟨#[]⟩ : ByteArray)).toList) else false) (fun hc8 => ?_) (fun hc8 => ?_)
     ·have hb10 := qH hb10 hc8
      obtain ⟨y9, hy9, hb10⟩ := zA hb10
      have hb10 := zB hb10
      refine YQ hc8 ?_ (by rw [hc7]; kernel_rfl)
      refine YK 2 (zEO hy9) zDt ?_
      exact YE (by rw [← hb10]; (try rw [hc8]); (try rw [hc7]); kernel_rfl)
     ·have hb10 := zB (z7 hb10 hc8)
      refine YQ hc8 ?_ (by rw [hc7]; kernel_rfl)
      exact YE (by rw [← hb10]; (try rw [hc8]); (try rw [hc7]); kernel_rfl)
    ·refine YQ hc7 ?_
     refine YR 5 ?_
     refine zE (bif (c1.2.2.1.toList == ((⟨#[]⟩ : ByteArray)).toList) then (c1.2.2.2.1.toList == ((⟨#[]⟩ : ByteArray)).toList) else false) (fun hc8 => ?_) (fun hc8 => ?_)
     ·have hb10 := qH hb10 hc8
      obtain ⟨y9, hy9, hb10⟩ := zA hb10
      have hb10 := zB hb10
      refine YQ hc8 ?_ (by rw [hc7]; kernel_rfl)
      refine YK 2 (zEO hy9) zDt ?_
      exact YE (by rw [← hb10]; (try rw [hc8]); (try rw [hc7]); kernel_rfl)
     ·have hb10 := zB (z7 hb10 hc8)
      refine YQ hc8 ?_ (by rw [hc7]; kernel_rfl)
      exact YE (by rw [← hb10]; (try rw [hc8]); (try rw [hc7]); kernel_rfl)
   cases h
   exact zF VT
  ·refine VE ?_
   refine VC h (fun h => ?_) (fun h => ?_)
   ·obtain ⟨t14, ht14, h⟩ := zA h
    have ht14 := zB ht14
    refine zO (mb 73 4) [] (s1 := ⟨.bot :: .bot :: Bo t14 :: bt 70 [], []⟩) ?_ ?_
    ·refine YR 4 ?_
     refine zE (c1.2.2.1.toList == ((⟨#[]⟩ : ByteArray)).toList) (fun hc12 => ?_) (fun hc12 => ?_)
     ·refine YQ hc12 ?_
      refine YR 5 ?_
      refine zE (bif (c1.2.2.1.toList == ((⟨#[]⟩ : ByteArray)).toList) then (c1.2.2.2.1.toList == ((⟨#[]⟩ : ByteArray)).toList) else false) (fun hc13 => ?_) (fun hc13 => ?_)
      ·refine YQ hc13 ?_ (by rw [hc12]; kernel_rfl)
       refine YR 2 ?_
       refine YT (qB rfl (zW (cs := [Ti 0, Ti 0, Ti 0]) pl38 bt38 rfl rfl kk)) ?_
       refine YT (qB rfl (zJp (a0 := c1.2.2.2.2.1) (b0 := 0) (a1 := c1.2.2.2.2.2.1) (b1 := 0) (a2 := c1.2.2.2.2.2.2) (b2 := 0) eqg38 rfl kk kk)) ?_
       exact YE (by rw [← ht14]; (try rw [hc13]); (try rw [hc12]); kernel_rfl)
      ·refine YQ hc13 ?_ (by rw [hc12]; kernel_rfl)
       exact YE (by rw [← ht14]; (try rw [hc13]); (try rw [hc12]); kernel_rfl)
     ·refine YQ hc12 ?_
      refine YR 5 ?_
      refine zE (bif (c1.2.2.1.toList == ((⟨#[]⟩ : ByteArray)).toList) then (c1.2.2.2.1.toList == ((⟨#[]⟩ : ByteArray)).toList) else false) (fun hc13 => ?_) (fun hc13 => ?_)
      ·refine YQ hc13 ?_ (by rw [hc12]; kernel_rfl)
       refine YR 2 ?_
       refine YT (qB rfl (zW (cs := [Ti 0, Ti 0, Ti 0]) pl38 bt38 rfl rfl kk)) ?_
       refine YT (qB rfl (zJp (a0 := c1.2.2.2.2.1) (b0 := 0) (a1 := c1.2.2.2.2.2.1) (b1 := 0) (a2 := c1.2.2.2.2.2.2) (b2 := 0) eqg38 rfl kk kk)) ?_
       exact YE (by rw [← ht14]; (try rw [hc13]); (try rw [hc12]); kernel_rfl)
      ·refine YQ hc13 ?_ (by rw [hc12]; kernel_rfl)
       exact YE (by rw [← ht14]; (try rw [hc13]); (try rw [hc12]); kernel_rfl)
    cases h
    exact zF VT
   ·refine VE ?_
    refine VC h (fun h => ?_) (fun h => ?_)
    ·obtain ⟨y16, hy16, h⟩ := zA h
     obtain ⟨b19, hb19, h⟩ := zA h
     obtain ⟨t21, ht21, h⟩ := zA h
     have ht21 := zB ht21
     refine zO (mb 73 4) [] (s1 := ⟨.bot :: .bot :: Bo t21 :: bt 70 [], []⟩) ?_ ?_
     ·refine YK 2 (zDu hy16) zDf ?_
      refine YR 1 ?_
      refine zE y16 (fun hc17 => ?_) (fun hc17 => ?_)
      ·have hb19 := qH hb19 hc17
       obtain ⟨y18, hy18, hb19⟩ := zA hb19
       have hb19 := zB hb19
       refine YQ hc17 ?_
       refine YK 2 (zDu hy18) zDf ?_
       refine YR 2 ?_
       refine zE b19 (fun hc20 => ?_) (fun hc20 => ?_)
       ·refine YQ hc20 ?_ (by rw [← hb19]; (try rw [hc17]); kernel_rfl)
        refine YR 2 ?_
        refine YT (qB rfl (zW (cs := [Ti 0, Ti 0, Ti 0]) pl38 bt38 rfl rfl kk)) ?_
        refine YT (qB rfl (zJp (a0 := c1.2.2.2.2.1) (b0 := 0) (a1 := c1.2.2.2.2.2.1) (b1 := 0) (a2 := c1.2.2.2.2.2.2) (b2 := 0) eqg38 rfl kk kk)) ?_
        exact YE (by rw [← ht21]; (try rw [hc17]); (try rw [hc20]); kernel_rfl)
       ·refine YQ hc20 ?_ (by rw [← hb19]; (try rw [hc17]); kernel_rfl)
        exact YE (by rw [← ht21]; (try rw [hc17]); (try rw [hc20]); kernel_rfl)
      ·have hb19 := zB (z7 hb19 hc17)
       refine YQ hc17 ?_
       refine YR 5 ?_
       subst hb19
       have hc20 : false = false := rfl
       exact YE (by rw [← ht21]; (try rw [hc17]); kernel_rfl)
     cases h
     exact zF VT
    ·refine VE ?_
     refine VC h (fun h => ?_) (fun h => ?_)
     ·obtain ⟨y23, hy23, h⟩ := zA h
      obtain ⟨t26, ht26, h⟩ := zA h
      have ht26 := zB ht26
      refine zO (mb 73 4) [] (s1 := ⟨.bot :: .bot :: Bo t26 :: bt 70 [], []⟩) ?_ ?_
      ·refine YK 2 (zDu hy23) zDf ?_
       refine YR 1 ?_
       refine zE y23 (fun hc24 => ?_) (fun hc24 => ?_)
       ·refine YQ hc24 ?_
        refine YR 5 ?_
        refine zE (bif y23 then (c1.2.2.2.1.toList == ((⟨#[]⟩ : ByteArray)).toList) else false) (fun hc25 => ?_) (fun hc25 => ?_)
        ·refine YQ hc25 ?_ (by rw [hc24]; kernel_rfl)
         refine YR 2 ?_
         refine YT (qB rfl (zW (cs := [Ti 0, Ti 0, Ti 0]) pl38 bt38 rfl rfl kk)) ?_
         refine YT (qB rfl (zJp (a0 := c1.2.2.2.2.1) (b0 := 0) (a1 := c1.2.2.2.2.2.1) (b1 := 0) (a2 := c1.2.2.2.2.2.2) (b2 := 0) eqg38 rfl kk kk)) ?_
         exact YE (by rw [← ht26]; (try rw [hc25]); (try rw [hc24]); kernel_rfl)
        ·refine YQ hc25 ?_ (by rw [hc24]; kernel_rfl)
         exact YE (by rw [← ht26]; (try rw [hc25]); (try rw [hc24]); kernel_rfl)
       ·refine YQ hc24 ?_
        refine YR 5 ?_
        refine zE (bif y23 then (c1.2.2.2.1.toList == ((⟨#[]⟩ : ByteArray)).toList) else false) (fun hc25 => ?_) (fun hc25 => ?_)
        ·refine YQ hc25 ?_ (by rw [hc24]; kernel_rfl)
         refine YR 2 ?_
         refine YT (qB rfl (zW (cs := [Ti 0, Ti 0, Ti 0]) pl38 bt38 rfl rfl kk)) ?_
         refine YT (qB rfl (zJp (a0 := c1.2.2.2.2.1) (b0 := 0) (a1 := c1.2.2.2.2.2.1) (b1 := 0) (a2 := c1.2.2.2.2.2.2) (b2 := 0) eqg38 rfl kk kk)) ?_
         exact YE (by rw [← ht26]; (try rw [hc25]); (try rw [hc24]); kernel_rfl)
        ·refine YQ hc25 ?_ (by rw [hc24]; kernel_rfl)
         exact YE (by rw [← ht26]; (try rw [hc25]); (try rw [hc24]); kernel_rfl)
      cases h
      exact zF VT
     ·refine zH ?_
      show V _ _ _ _
      refine VE ?_
      cases h
      exact zF VT
theorem zEX : CfW Tryz.prog 189 := cfW Tryz.func189
theorem zE3 {vs1 : ByteArray} {c2 : Int} {r : Int} (h : jS vs1 c2 = some r) : zV Tryz.prog 189 [.c (.v (.string vs1)), .c (.v (.int .u8 c2))] (I r) [] := by
 refine CtW [4] Tryz.func189 rfl rfl 8 ?_
 unfold jS at h
 refine VE ?_
 obtain ⟨t3, ht3, h⟩ := zT h
 refine zO (mb 8 16) [] (s1 := ⟨bt 4 (I t3 :: bt 3 []), []⟩) ?_ ?_
 ·refine XR 2 ?_
  refine L0 rfl rfl (Y0_idxb (b := vs1) (c := c2) cx_242 rfl kk kk) ?_
  refine XR 1 ?_
  refine zM ?_
  subst ht3
  kernel_rfl
 cases h
 exact zF VT
theorem zHr : CfW Tryz.prog 105 := cfW Tryz.func105
theorem zIW {vs1 : ByteArray} {c2 : Int} {r : Int} (h : zBu vs1 c2 = some r) : zV Tryz.prog 105 [.c (.v (.string vs1)), .c (.v (.int .u8 c2))] (I r) [] := by
 refine CtW [4] Tryz.func105 rfl rfl 8 ?_
 unfold zBu at h
 refine VE ?_
 obtain ⟨y3, hy3, h⟩ := zA h
 refine VS ?_
 refine YK 2 (zE3 hy3) zEX ?_
 refine YF ?_
 cases h
 exact zF VT
theorem zJE : CfW Tryz.prog 160 := cfW Tryz.func160
theorem zJU {vs1 : ByteArray} {r : List Int} (h : zBM vs1 = some r) : zV Tryz.prog 160 [.c (.v (.string vs1))] (.ow 0) [(0, .arr 3 1 (r.map c3))] := by
 refine CtW [2] Tryz.func160 rfl rfl 30 ?_
 unfold zBM at h
 refine VS ?_
 refine L1 rfl rfl (zAc (e := 3) 1 (by decide) (.inl rfl)) ?_
 refine YF ?_
 refine VS ?_
 refine L1 rfl rfl (zBt Tryz.underlying24 sz3 (by decide) rfl rfl) ?_
 refine YF ?_
 refine zK ?_
 obtain ⟨y2, hy2, h⟩ := zA h
 refine VS ?_
 refine YK 1 (zFv hy2) zHL ?_
 refine L0 rfl rfl (qQ (c := c9) (xs := y2) Tryz.underlying66 rfl kk) ?_
 refine YF ?_
 obtain ⟨qo6, hLo6, hko6⟩ := zA h
 refine zFN (q := qo6) (S := fun o6 => ⟨bt 3 (.ow 64 :: bt 26 []), [(64, .arr 3 1 (o6.map c3))]⟩) (mb 30 8) [64] ?_ ?_
 ·refine zN (jM (fun n s => ∃ (t3 : Int) (l4 : List Int), s.keep (mb 30 7176) [80, 64] = (⟨bt 3 (.ow 64 :: bt 6 (.ow 80 :: I ((y2.length : Int)) :: I t3 :: bt 17 [])), [(80, .arr 9 1 (y2.map c9)), (64, .arr 3 1 (l4.map c3))]⟩ : St) ∧ qR y2 n t3 l4 = some qo6) FU ⟨_, _,  kk, hLo6⟩ ?_)
  clear hLo6
  rintro n s ⟨t3, l4, hs, h⟩
  refine jF _ _ hs ?_
  clear hs
  cases n with
  | zero => cases h
  | succ n =>
   rw [qR] at h
   refine VE ?_
   refine zK ?_
   refine VC h (fun h => ?_) (fun h => ?_)
   ·refine zH ?_
    show V _ _ _ _
    refine zK ?_
    refine zN ?_
    obtain ⟨e8, he8, h⟩ := zA h
    obtain ⟨e9, he9, h⟩ := zA h
    refine VS ?_
    refine L0 rfl rfl (zAV (c := c9) (xs := y2) (v := e8) (id := 80) (T := 9) (sz := 1) (n := t3) Tryz.underlying66 sz9 rfl kk kk kk he8) ?_
    refine L0 rfl rfl (zAd (c := c9) (xs := y2) (v := e9) (id := 80) (sz := 1) (T := 9) (off := 0) (n := t3) (d := .v (.string e9)) (ds := []) sc9 rfl kk kk he9 kk) ?_
    refine YF ?_
    obtain ⟨y10, hy10, h⟩ := zA h
    refine VS ?_
    refine YK 1 (zLS hy10) zKq ?_
    refine YF ?_
    refine zK ?_
    refine VS ?_
    refine YR 1 ?_
    refine L0 rfl rfl (Y0_erne (b := y10.2) Tryz.underlying91 rfl kk) ?_
    refine YF ?_
    refine VC h (fun h => ?_) (fun h => ?_)
    ·refine VS ?_
     refine L1 rfl rfl (zBt Tryz.underlying24 sz3 (by decide) rfl rfl) ?_
     refine YF ?_
     refine zF ?_
     obtain rfl := zB h
     have h := hko6
     obtain rfl := zB h
     exact VT
    ·refine zH ?_
     show V _ _ _ _
     obtain ⟨u12, hu12, h⟩ := zA h
     refine zY ?_
     refine YR 2 ?_
     refine L1 rfl rfl (qP (z := zv3) (els := [y10.1].map c3) Tryz.underlying24 iz3 rfl (by decide) rfl kk rfl (by simp [c3]) (by decide) (by decide)) ?_
     refine zL rfl (zAn (c := c3) (xs := l4) (ys := [y10.1]) (id := 64) (z := zv3) rfl rfl Tryz.underlying24 izb3 rfl kk kk kk (fun _ => rfl) (by simp) (zAK hu12) (by decide)) ?_
     refine YF ?_
     show V _ _ _ _
     obtain ⟨t13, ht13, h⟩ := zT h
     refine jC (mb 30 7176) [80, 64] (s1 := ⟨bt 3 (.ow 64 :: bt 6 (.ow 80 :: I ((y2.length : Int)) :: I t13 :: bt 17 [])), [(80, .arr 9 1 (y2.map c9)), (64, .arr 3 1 ((l4 ++ ([y10.1])).map c3))]⟩) ?_ ?_
     ·refine XR 2 ?_
      refine zM ?_
      subst ht13
      kernel_rfl
     exact ⟨n, Nat.lt_succ_self n, _, _,  kk, h⟩
   ·refine jE ?_
    obtain rfl := zB h
    exact ⟨_, rfl, kk⟩
 rintro o6 rfl
 have h := hko6
 clear hko6
 show V _ _ _ _
 refine VE ?_
 cases h
 exact zF VT
theorem zGY : CfW Tryz.prog 162 := cfW Tryz.func162
theorem zGy {f1 : (Int × Int × Int)} {r : ByteArray} (h : zCX f1 = some r) : zV Tryz.prog 162 [.ag [Ti f1.1, Ti f1.2.1, Ti f1.2.2]] (.c (.v (.string r))) [] := by
 refine CtW [2] Tryz.func162 rfl rfl 18 ?_
 unfold zCX at h
 refine VE ?_
 obtain ⟨y2, hy2, h⟩ := zA h
 obtain ⟨u3, hu3, h⟩ := zA h
 obtain ⟨u4, hu4, h⟩ := zA h
 obtain ⟨y5, hy5, h⟩ := zA h
 obtain ⟨u6, hu6, h⟩ := zA h
 obtain ⟨u7, hu7, h⟩ := zA h
 obtain ⟨y8, hy8, h⟩ := zA h
 obtain ⟨u9, hu9, h⟩ := zA h
 obtain ⟨u10, hu10, h⟩ := zA h
 refine VDS [0, 1, 3, 7, 15, 0, 32, 103, 255, 511, 0, 1024, 3303, 8191, 16383, 32767] 16 (cdm 16 [10496000, 10496001, 10496005, 44083221, 44083285, 10486442, 10487466, 10491541, 44062037, 44127573, 699050, 1747626, 5920405, 22369621, 89478485, 357913941]) ?_
 refine EK 2 (zE0 hy2) zEK ?_
 refine E0 3 rfl rfl (zAW (a := (⟨#[40]⟩ : ByteArray)) (b := y2) rfl kk kk (qJ hu3)) ?_
 refine E0 4 rfl rfl (zAW (a := ((⟨#[40]⟩ : ByteArray)) ++ y2) (b := (⟨#[44]⟩ : ByteArray)) rfl kk kk (qJ hu4)) ?_
 refine EK 2 (zE0 hy5) zEK ?_
 refine E0 8 rfl rfl (zAW (a := (((⟨#[40]⟩ : ByteArray)) ++ y2) ++ ((⟨#[44]⟩ : ByteArray))) (b := y5) rfl kk kk (qJ hu6)) ?_
 refine E0 9 rfl rfl (zAW (a := ((((⟨#[40]⟩ : ByteArray)) ++ y2) ++ ((⟨#[44]⟩ : ByteArray))) ++ y5) (b := (⟨#[44]⟩ : ByteArray)) rfl kk kk (qJ hu7)) ?_
 refine EK 2 (zE0 hy8) zEK ?_
 refine E0 13 rfl rfl (zAW (a := (((((⟨#[40]⟩ : ByteArray)) ++ y2) ++ ((⟨#[44]⟩ : ByteArray))) ++ y5) ++ ((⟨#[44]⟩ : ByteArray))) (b := y8) rfl kk kk (qJ hu9)) ?_
 refine E0 14 rfl rfl (zAW (a := ((((((⟨#[40]⟩ : ByteArray)) ++ y2) ++ ((⟨#[44]⟩ : ByteArray))) ++ y5) ++ ((⟨#[44]⟩ : ByteArray))) ++ y8) (b := (⟨#[41]⟩ : ByteArray)) rfl kk kk (qJ hu10)) ?_
 refine EF 1 ?_
 cases h
 exact zF VT
theorem zJm : CfW Tryz.prog 73 := cfW Tryz.func73
theorem zJx {vs1 : ByteArray} {r : (((Int × Int × Int)) × Bool)} (h : zAa vs1 = some r) : zV Tryz.prog 73 [.c (.v (.string vs1))] (.tc (.ag [Ti r.1.1, Ti r.1.2.1, Ti r.1.2.2]) (.tc (Bo r.2) .tn)) [] := by
 refine zZ (rs := [.w 2 3, .t 3]) (vs := [.cell 2 38, .tmp 3]) Tryz.func73 rfl rfl (.cons ⟨rfl, wd38⟩ (.cons rfl FitsL.nil)) (by decide) 33 rfl ?_
 unfold zAa at h
 refine VE ?_
 obtain ⟨y2, hy2, h⟩ := zA h
 refine VS ?_
 refine YK 1 (zJU hy2) zJE ?_
 refine YF ?_
 refine zK ?_
 refine VS ?_
 refine YR 1 ?_
 refine L0 rfl rfl (qQ (c := c3) (xs := y2) Tryz.underlying24 rfl kk) ?_
 refine YF ?_
 refine VC h (fun h => ?_) (fun h => ?_)
 ·refine VS ?_
  refine L0 rfl rfl (zW (cs := [Ti 0, Ti 0, Ti 0]) pl38 bt38 rfl rfl kk) ?_
  refine YF ?_
  cases h
  exact zF VT
 ·refine zH ?_
  show V _ _ _ _
  obtain ⟨e4, he4, h⟩ := zA h
  obtain ⟨e5, he5, h⟩ := zA h
  obtain ⟨e6, he6, h⟩ := zA h
  obtain ⟨e7, he7, h⟩ := zA h
  obtain ⟨e8, he8, h⟩ := zA h
  obtain ⟨e9, he9, h⟩ := zA h
  refine VDS [0, 1, 3, 0, 8, 24, 0, 64, 192, 511, 0, 2047] 11 (cdm 11 [2271872, 2271873, 2271877, 2269226, 2269290, 2269546, 2099882, 2103978, 2120362, 2184533, 699050]) ?_
  refine ER 1 ?_
  refine E0 1 rfl rfl (zAV (c := c3) (xs := y2) (v := e4) (id := 56) (T := 3) (sz := 1) (n := 0) Tryz.underlying24 sz3 rfl kk kk kk he4) ?_
  refine E0 2 rfl rfl (zAd (c := c3) (xs := y2) (v := e5) (id := 56) (sz := 1) (T := 3) (off := 0) (n := 0) (d := Ti e5) (ds := []) sc3 rfl kk kk he5 kk) ?_
  refine ER 1 ?_
  refine E0 4 rfl rfl (zAV (c := c3) (xs := y2) (v := e6) (id := 56) (T := 3) (sz := 1) (n := 1) Tryz.underlying24 sz3 rfl kk kk kk he6) ?_
  refine E0 5 rfl rfl (zAd (c := c3) (xs := y2) (v := e7) (id := 56) (sz := 1) (T := 3) (off := 0) (n := 1) (d := Ti e7) (ds := []) sc3 rfl kk kk he7 kk) ?_
  refine ER 1 ?_
  refine E0 7 rfl rfl (zAV (c := c3) (xs := y2) (v := e8) (id := 56) (T := 3) (sz := 1) (n := 2) Tryz.underlying24 sz3 rfl kk kk kk he8) ?_
  refine E0 8 rfl rfl (zAd (c := c3) (xs := y2) (v := e9) (id := 56) (sz := 1) (T := 3) (off := 0) (n := 2) (d := Ti e9) (ds := []) sc3 rfl kk kk he9 kk) ?_
  refine E0 9 rfl rfl (zW (cs := [Ti e5, Ti e7, Ti e9]) pl38 bt38 rfl rfl kk) ?_
  refine EF 1 ?_
  refine zK ?_
  obtain ⟨y10, hy10, h⟩ := zA h
  obtain ⟨b13, hb13, h⟩ := zA h
  refine zO (mb 33 1073741860) [40, 16] (s1 := ⟨.bot :: .bot :: .pt 16 0 :: .bot :: .bot :: .pt 40 0 :: bt 24 (Bo b13 :: .bot :: .bot :: []), [(40, .box [Ti e5, Ti e7, Ti e9]), (16, .box [Ti 0, Ti 0, Ti 0])]⟩) ?_ ?_
  ·refine YK 1 (zI9 hy10) zHy ?_
   refine YR 2 ?_
   refine zE (!y10) (fun hc11 => ?_) (fun hc11 => ?_)
   ·have hb13 := zB (qH hb13 hc11)
    refine YQ hc11 ?_
    exact YE (by rw [← hb13]; (try rw [hc11]); kernel_rfl)
   ·have hb13 := z7 hb13 hc11
    obtain ⟨y12, hy12, hb13⟩ := zA hb13
    have hb13 := zB hb13
    refine YQ hc11 ?_
    refine YK 1 (zGy hy12) zGY ?_
    exact YE (by rw [← hb13]; (try rw [hc11]); kernel_rfl)
  refine VC h (fun h => ?_) (fun h => ?_)
  ·refine VS ?_
   refine L0 rfl rfl (zW (cs := [Ti 0, Ti 0, Ti 0]) pl38 bt38 rfl rfl kk) ?_
   refine YF ?_
   cases h
   exact zF VT
  ·refine zH ?_
   show V _ _ _ _
   refine VE ?_
   cases h
   exact zF VT
theorem zFW : CfW Tryz.prog 115 := cfW Tryz.func115
theorem zF9 {c1 : (Int × ByteArray × ByteArray × ByteArray × ((Int × Int × Int)))} {r : ByteArray} (h : qK c1 = some r) : zV Tryz.prog 115 [.ag [Ti c1.1, .v (.string c1.2.1), .v (.string c1.2.2.1), .v (.string c1.2.2.2.1), Ti c1.2.2.2.2.1, Ti c1.2.2.2.2.2.1, Ti c1.2.2.2.2.2.2]] (.c (.v (.string r))) [] := by
 refine CtW [2] Tryz.func115 rfl rfl 44 ?_
 unfold qK at h
 refine VE ?_
 obtain ⟨e2, he2, h⟩ := zA h
 obtain ⟨e3, he3, h⟩ := zA h
 refine VDS [0, 0, 2, 6, 15, 31, 0, 64, 255, 511] 10 (cdm 10 [41128, 40962, 40966, 40982, 41045, 41301, 2730, 6826, 21845, 87381]) ?_
 refine E1 0 rfl rfl (qP (z := zv9) (els := [(⟨#[97, 100, 100]⟩ : ByteArray), (⟨#[100, 114, 111, 112]⟩ : ByteArray), (⟨#[109, 117, 108]⟩ : ByteArray), (⟨#[105, 110, 118]⟩ : ByteArray), (⟨#[109, 111, 118, 101]⟩ : ByteArray)].map c9) Tryz.underlying66 iz9 rfl (by decide) rfl kk rfl (by simp [c9]) (by decide) (by decide)) ?_
 refine ER 3 ?_
 refine E0 4 rfl rfl (zAV (c := c9) (xs := [(⟨#[97, 100, 100]⟩ : ByteArray), (⟨#[100, 114, 111, 112]⟩ : ByteArray), (⟨#[109, 117, 108]⟩ : ByteArray), (⟨#[105, 110, 118]⟩ : ByteArray), (⟨#[109, 111, 118, 101]⟩ : ByteArray)]) (v := e2) (id := 48) (T := 9) (sz := 1) (n := w64 (c1.1 - 1)) Tryz.underlying66 sz9 rfl kk kk kk he2) ?_
 refine E0 5 rfl rfl (zAd (c := c9) (xs := [(⟨#[97, 100, 100]⟩ : ByteArray), (⟨#[100, 114, 111, 112]⟩ : ByteArray), (⟨#[109, 117, 108]⟩ : ByteArray), (⟨#[105, 110, 118]⟩ : ByteArray), (⟨#[109, 111, 118, 101]⟩ : ByteArray)]) (v := e3) (id := 48) (sz := 1) (T := 9) (off := 0) (n := w64 (c1.1 - 1)) (d := .v (.string e3)) (ds := []) sc9 rfl kk kk he3 kk) ?_
 refine ER 2 ?_
 refine E1 8 rfl rfl (qP (z := zv9) (els := [e3, c1.2.1].map c9) Tryz.underlying66 iz9 rfl (by decide) rfl kk rfl (by simp [c9]) (by decide) (by decide)) ?_
 refine EF 1 ?_
 refine zK ?_
 obtain ⟨t4, ht4, h⟩ := zT h
 refine zO (mb 44 3670026) [152, 112, 8] (s1 := ⟨.bot :: .pt 8 0 :: .bot :: .ow 112 :: bt 15 (.ow 152 :: I t4 :: I 0 :: bt 22 []), [(152, .arr 9 1 (([c1.2.2.1, c1.2.2.2.1]).map c9)), (112, .arr 9 1 (([e3, c1.2.1]).map c9)), (8, .box [Ti c1.1, .v (.string c1.2.1), .v (.string c1.2.2.1), .v (.string c1.2.2.2.1), Ti c1.2.2.2.2.1, Ti c1.2.2.2.2.2.1, Ti c1.2.2.2.2.2.2])]⟩) ?_ ?_
 ·refine XR 4 ?_
  refine L1 rfl rfl (qP (z := zv9) (els := [c1.2.2.1, c1.2.2.2.1].map c9) Tryz.underlying66 iz9 rfl (by decide) rfl kk rfl (by simp [c9]) (by decide) (by decide)) ?_
  refine L0 rfl rfl (qQ (c := c9) (xs := [c1.2.2.1, c1.2.2.2.1]) Tryz.underlying66 rfl kk) ?_
  refine XR 1 ?_
  refine zM ?_
  subst ht4
  kernel_rfl
 obtain ⟨o8, hLo8, h⟩ := zA h
 refine zCS (mb 44 10) [112, 8] (s1 := ⟨.bot :: .pt 8 0 :: .bot :: .ow 112 :: bt 40 [], [(112, .arr 9 1 (o8.map c9)), (8, .box [Ti c1.1, .v (.string c1.2.1), .v (.string c1.2.2.1), .v (.string c1.2.2.2.1), Ti c1.2.2.2.2.1, Ti c1.2.2.2.2.2.1, Ti c1.2.2.2.2.2.2])]⟩) ?_ ?_
 ·clear h
  refine zN (jM (fun n s => ∃ (t5 : Int) (l6 : List ByteArray), s.keep (mb 44 3670026) [152, 112, 8] = (⟨.bot :: .pt 8 0 :: .bot :: .ow 112 :: bt 15 (.ow 152 :: I t4 :: I t5 :: bt 22 []), [(152, .arr 9 1 (([c1.2.2.1, c1.2.2.2.1]).map c9)), (112, .arr 9 1 (l6.map c9)), (8, .box [Ti c1.1, .v (.string c1.2.1), .v (.string c1.2.2.1), .v (.string c1.2.2.2.1), Ti c1.2.2.2.2.1, Ti c1.2.2.2.2.2.1, Ti c1.2.2.2.2.2.2])]⟩ : St) ∧ qU c1 t4 n t5 l6 = some o8) FU ⟨_, _,  kk, hLo8⟩ ?_)
  clear hLo8
  rintro n s ⟨t5, l6, hs, h⟩
  refine jF _ _ hs ?_
  clear hs
  cases n with
  | zero => cases h
  | succ n =>
   rw [qU] at h
   refine VE ?_
   refine zK ?_
   refine VC h (fun h => ?_) (fun h => ?_)
   ·refine zH ?_
    show V _ _ _ _
    refine zK ?_
    refine zN ?_
    obtain ⟨e10, he10, h⟩ := zA h
    obtain ⟨e11, he11, h⟩ := zA h
    refine VS ?_
    refine L0 rfl rfl (zAV (c := c9) (xs := [c1.2.2.1, c1.2.2.2.1]) (v := e10) (id := 152) (T := 9) (sz := 1) (n := t5) Tryz.underlying66 sz9 rfl kk kk kk he10) ?_
    refine L0 rfl rfl (zAd (c := c9) (xs := [c1.2.2.1, c1.2.2.2.1]) (v := e11) (id := 152) (sz := 1) (T := 9) (off := 0) (n := t5) (d := .v (.string e11)) (ds := []) sc9 rfl kk kk he11 kk) ?_
    refine YF ?_
    refine VS ?_
    refine YF ?_
    refine VC h (fun h => ?_) (fun h => ?_)
    ·obtain ⟨u13, hu13, h⟩ := zA h
     refine zY ?_
     refine YR 2 ?_
     refine L1 rfl rfl (qP (z := zv9) (els := [e11].map c9) Tryz.underlying66 iz9 rfl (by decide) rfl kk rfl (by simp [c9]) (by decide) (by decide)) ?_
     refine zL rfl (zAn (c := c9) (xs := l6) (ys := [e11]) (id := 112) (z := zv9) rfl rfl Tryz.underlying66 izb9 rfl kk kk kk (fun _ => rfl) (by simp) (zAK hu13) (by decide)) ?_
     refine YF ?_
     show V _ _ _ _
     obtain ⟨t14, ht14, h⟩ := zT h
     refine jC (mb 44 3670026) [152, 112, 8] (s1 := ⟨.bot :: .pt 8 0 :: .bot :: .ow 112 :: bt 15 (.ow 152 :: I t4 :: I t14 :: bt 22 []), [(152, .arr 9 1 (([c1.2.2.1, c1.2.2.2.1]).map c9)), (112, .arr 9 1 ((l6 ++ ([e11])).map c9)), (8, .box [Ti c1.1, .v (.string c1.2.1), .v (.string c1.2.2.1), .v (.string c1.2.2.2.1), Ti c1.2.2.2.2.1, Ti c1.2.2.2.2.2.1, Ti c1.2.2.2.2.2.2])]⟩) ?_ ?_
     ·refine XR 2 ?_
      refine zM ?_
      subst ht14
      kernel_rfl
     exact ⟨n, Nat.lt_succ_self n, _, _,  kk, h⟩
    ·refine zH ?_
     show V _ _ _ _
     obtain ⟨t15, ht15, h⟩ := zT h
     refine jC (mb 44 3670026) [152, 112, 8] (s1 := ⟨.bot :: .pt 8 0 :: .bot :: .ow 112 :: bt 15 (.ow 152 :: I t4 :: I t15 :: bt 22 []), [(152, .arr 9 1 (([c1.2.2.1, c1.2.2.2.1]).map c9)), (112, .arr 9 1 (l6.map c9)), (8, .box [Ti c1.1, .v (.string c1.2.1), .v (.string c1.2.2.1), .v (.string c1.2.2.2.1), Ti c1.2.2.2.2.1, Ti c1.2.2.2.2.2.1, Ti c1.2.2.2.2.2.2])]⟩) ?_ ?_
     ·refine XR 2 ?_
      refine zM ?_
      subst ht15
      kernel_rfl
     exact ⟨n, Nat.lt_succ_self n, _, _,  kk, h⟩
   ·refine jE ?_
    obtain rfl := zB h
    show St.keep _ _ _ = _
    kernel_rfl
 show V _ _ _ _
 obtain ⟨j16, hj16, h⟩ := zA h
 refine zCw (mb 44 8) [112] (s1 := ⟨bt 3 (.ow 112 :: bt 40 []), [(112, .arr 9 1 (j16.map c9))]⟩) ?_ ?_
 ·clear h
  have h := hj16
  clear hj16
  obtain ⟨t17, ht17, h⟩ := zA h
  have ht17 := zB ht17
  refine zO (mb 44 34359738378) [112, 8] (s1 := ⟨.bot :: .pt 8 0 :: .bot :: .ow 112 :: bt 31 (Bo t17 :: bt 8 []), [(112, .arr 9 1 (o8.map c9)), (8, .box [Ti c1.1, .v (.string c1.2.1), .v (.string c1.2.2.1), .v (.string c1.2.2.2.1), Ti c1.2.2.2.2.1, Ti c1.2.2.2.2.2.1, Ti c1.2.2.2.2.2.2])]⟩) ?_ ?_
  ·refine XR 2 ?_
   refine L0 rfl rfl (zW (cs := [Ti 0, Ti 0, Ti 0]) pl38 bt38 rfl rfl kk) ?_
   refine L0 rfl rfl (zLL (a0 := c1.2.2.2.2.1) (b0 := 0) (a1 := c1.2.2.2.2.2.1) (b1 := 0) (a2 := c1.2.2.2.2.2.2) (b2 := 0) neg38 rfl kk kk) ?_
   refine zM ?_
   subst ht17
   kernel_rfl
  refine VC h (fun h => ?_) (fun h => ?_)
  ·obtain ⟨y19, hy19, h⟩ := zA h
   obtain ⟨u20, hu20, h⟩ := zA h
   refine zY ?_
   refine YK 3 (zGy hy19) zGY ?_
   refine L1 rfl rfl (qP (z := zv9) (els := [y19].map c9) Tryz.underlying66 iz9 rfl (by decide) rfl kk rfl (by simp [c9]) (by decide) (by decide)) ?_
   refine zL rfl (zAn (c := c9) (xs := o8) (ys := [y19]) (id := 112) (z := zv9) rfl rfl Tryz.underlying66 izb9 rfl kk kk kk (fun _ => rfl) (by simp) (zAK hu20) (by decide)) ?_
   refine YF ?_
   obtain rfl := zB h
   show St.keep _ _ _ = _
   kernel_rfl
  ·refine zH ?_
   obtain rfl := zB h
   show St.keep _ _ _ = _
   kernel_rfl
 obtain ⟨y21, hy21, h⟩ := zA h
 refine VS ?_
 refine YR 1 ?_
 refine L1 rfl rfl (zBy (zLR hy21) zKp rfl kk rfl rfl) ?_
 refine YF ?_
 cases h
 exact zF VT
theorem zHx : CfW Tryz.prog 107 := cfW Tryz.func107
theorem zIY {vs1 : ByteArray} {r : (((Int × ByteArray × ByteArray × ByteArray × ((Int × Int × Int)))) × Bool)} (h : qX vs1 = some r) : zV Tryz.prog 107 [.c (.v (.string vs1))] (.tc (.ag [Ti r.1.1, .v (.string r.1.2.1), .v (.string r.1.2.2.1), .v (.string r.1.2.2.2.1), Ti r.1.2.2.2.2.1, Ti r.1.2.2.2.2.2.1, Ti r.1.2.2.2.2.2.2]) (.tc (Bo r.2) .tn)) [] := by
 refine zZ (rs := [.w 2 7, .t 3]) (vs := [.cell 2 40, .tmp 3]) Tryz.func107 rfl rfl (.cons ⟨rfl, wd40⟩ (.cons rfl FitsL.nil)) (by decide) 68 rfl ?_
 unfold qX at h
 refine VE ?_
 obtain ⟨y2, hy2, h⟩ := zA h
 refine VS ?_
 refine YK 1 (zKi hy2) zKS ?_
 refine YF ?_
 obtain ⟨l3, hl3, h⟩ := zA h
 have hl3 := zB hl3
 refine V_sregM (fun mb11 => ⟨.c (.v (.string vs1)) :: .bot :: .pt 16 0 :: .bot :: .ow 80 :: .c (.v (.map (some mb11))) :: bt 62 [], [(88, .mp mb11 (l3.map kv176)), (80, .arr 9 1 (y2.map c9)), (16, .box [Ti 0, .v (.string ByteArray.empty), .v (.string ByteArray.empty), .v (.string ByteArray.empty), Ti 0, Ti 0, Ti 0])]⟩) (mb 68 53) [88, 80, 16] ?_ ?_
 ·refine XL_mkmap rfl rfl rfl fun mb11 => ?_
  refine zL rfl (zMN (κ := ByteArray) (ν := Int) (ek := zHB) (ev := zKb) (z := 0) (m := ([] : List ((ByteArray × Int)))) (a := (⟨#[97, 100, 100]⟩ : ByteArray)) (u := 1) (id := 88) (b := mb11) mo176 (.inr rfl) rfl kk kk kk kk) ?_
  refine zL rfl (zMN (κ := ByteArray) (ν := Int) (ek := zHB) (ev := zKb) (z := 0) (m := mPut ((⟨#[97, 100, 100]⟩ : ByteArray)) 1 (([] : List ((ByteArray × Int))))) (a := (⟨#[100, 114, 111, 112]⟩ : ByteArray)) (u := 2) (id := 88) (b := mb11) mo176 (.inr rfl) rfl kk kk kk kk) ?_
  refine zL rfl (zMN (κ := ByteArray) (ν := Int) (ek := zHB) (ev := zKb) (z := 0) (m := mPut ((⟨#[100, 114, 111, 112]⟩ : ByteArray)) 2 (mPut ((⟨#[97, 100, 100]⟩ : ByteArray)) 1 (([] : List ((ByteArray × Int)))))) (a := (⟨#[109, 117, 108]⟩ : ByteArray)) (u := 3) (id := 88) (b := mb11) mo176 (.inr rfl) rfl kk kk kk kk) ?_
  refine zL rfl (zMN (κ := ByteArray) (ν := Int) (ek := zHB) (ev := zKb) (z := 0) (m := mPut ((⟨#[109, 117, 108]⟩ : ByteArray)) 3 (mPut ((⟨#[100, 114, 111, 112]⟩ : ByteArray)) 2 (mPut ((⟨#[97, 100, 100]⟩ : ByteArray)) 1 (([] : List ((ByteArray × Int))))))) (a := (⟨#[105, 110, 118]⟩ : ByteArray)) (u := 4) (id := 88) (b := mb11) mo176 (.inr rfl) rfl kk kk kk kk) ?_
  refine zL rfl (zMN (κ := ByteArray) (ν := Int) (ek := zHB) (ev := zKb) (z := 0) (m := mPut ((⟨#[105, 110, 118]⟩ : ByteArray)) 4 (mPut ((⟨#[109, 117, 108]⟩ : ByteArray)) 3 (mPut ((⟨#[100, 114, 111, 112]⟩ : ByteArray)) 2 (mPut ((⟨#[97, 100, 100]⟩ : ByteArray)) 1 (([] : List ((ByteArray × Int)))))))) (a := (⟨#[109, 111, 118, 101]⟩ : ByteArray)) (u := 5) (id := 88) (b := mb11) mo176 (.inr rfl) rfl kk kk kk kk) ?_
  refine XR 2 ?_
  refine zM ?_
  subst hl3
  exact ⟨mb11, by kernel_rfl⟩
 intro mb11
 refine zK ?_
 refine VS ?_
 refine YR 1 ?_
 refine L0 rfl rfl (qQ (c := c9) (xs := y2) Tryz.underlying66 rfl kk) ?_
 refine YF ?_
 refine VC h (fun h => ?_) (fun h => ?_)
 ·refine VS ?_
  refine L0 rfl rfl (zW (cs := [Ti 0, .v (.string ByteArray.empty), .v (.string ByteArray.empty), .v (.string ByteArray.empty), Ti 0, Ti 0, Ti 0]) pl40 bt40 rfl rfl kk) ?_
  refine YF ?_
  cases h
  exact zF VT
 ·refine zH ?_
  show V _ _ _ _
  obtain ⟨e5, he5, h⟩ := zA h
  obtain ⟨e6, he6, h⟩ := zA h
  obtain ⟨e7, he7, h⟩ := zA h
  obtain ⟨e8, he8, h⟩ := zA h
  obtain ⟨f9, hf9, h⟩ := zT h
  refine zCj [0, 0, 2, 6, 15, 0, 32, 96, 255, 0, 1023] 10 (cdm 10 [567464, 567298, 567302, 567318, 567381, 524970, 525994, 530090, 546133, 174762]) (mb 68 85) [48, 80, 16] (s1 := ⟨.c (.v (.string vs1)) :: .bot :: .pt 16 0 :: .bot :: .ow 80 :: .bot :: .pt 48 0 :: bt 61 [], [(48, .box [Ti f9, .v (.string e8), .v (.string ByteArray.empty), .v (.string ByteArray.empty), Ti 0, Ti 0, Ti 0]), (80, .arr 9 1 (y2.map c9)), (16, .box [Ti 0, .v (.string ByteArray.empty), .v (.string ByteArray.empty), .v (.string ByteArray.empty), Ti 0, Ti 0, Ti 0])]⟩) kk kk ?_ ?_
  ·refine DR 2 ?_
   refine DE_0 2 (.po 80 1 (Int.toNat (0)) 0) kk rfl rfl rfl (qS rfl) kk (zAV (c := c9) (xs := y2) (v := e5) (id := 80) (T := 9) (sz := 1) (n := 0) Tryz.underlying66 sz9 rfl kk kk kk he5) 19 rfl ?_
   refine DE_0 3 (.c (.v (.string e6))) kk rfl rfl rfl (qS rfl) kk (zAd (c := c9) (xs := y2) (v := e6) (id := 80) (sz := 1) (T := 9) (off := 0) (n := 0) (d := .v (.string e6)) (ds := []) sc9 rfl kk kk he6 kk) 20 rfl ?_
   refine DE_0 4 (I (mAt e6 l3 0)) kk rfl rfl rfl (qS rfl) kk (Y0_lookM (κ := ByteArray) (ν := Int) (ek := zHB) (ev := zKb) (z := 0) (m := l3) (a := e6) (id := 88) (b := mb11) mo176 rfl kk kk kk) 21 rfl ?_
   refine DR 1 ?_
   refine DE_0 6 (.po 80 1 (Int.toNat (1)) 0) kk rfl rfl rfl (qS rfl) kk (zAV (c := c9) (xs := y2) (v := e7) (id := 80) (T := 9) (sz := 1) (n := 1) Tryz.underlying66 sz9 rfl kk kk kk he7) 23 rfl ?_
   refine DE_0 7 (.c (.v (.string e8))) kk rfl rfl rfl (qS rfl) kk (zAd (c := c9) (xs := y2) (v := e8) (id := 80) (sz := 1) (T := 9) (off := 0) (n := 1) (d := .v (.string e8)) (ds := []) sc9 rfl kk kk he8 kk) 24 rfl ?_
   refine DE_0 8 (.ag [Ti (mAt e6 l3 0), .v (.string e8), .v (.string ByteArray.empty), .v (.string ByteArray.empty), Ti 0, Ti 0, Ti 0]) kk rfl rfl rfl (qS rfl) kk (zW (cs := [Ti (mAt e6 l3 0), .v (.string e8), .v (.string ByteArray.empty), .v (.string ByteArray.empty), Ti 0, Ti 0, Ti 0]) pl40 bt40 rfl rfl kk) 25 rfl ?_
   refine DA 1 ?_
   refine XR 1 ?_
   refine zM ?_
   subst hf9
   kernel_rfl
  refine zK ?_
  obtain ⟨u10, hu10, h⟩ := zA h
  obtain ⟨t11, ht11, h⟩ := zT h
  refine zO (mb 68 939524165) [48, 16] (s1 := ⟨.c (.v (.string vs1)) :: .bot :: .pt 16 0 :: bt 3 (.pt 48 0 :: bt 20 (.c (.sl ((subl y2 2 ((y2.length : Int))).map c9)) :: I t11 :: I 0 :: bt 38 [])), [(48, .box [Ti f9, .v (.string e8), .v (.string ByteArray.empty), .v (.string ByteArray.empty), Ti 0, Ti 0, Ti 0]), (16, .box [Ti 0, .v (.string ByteArray.empty), .v (.string ByteArray.empty), .v (.string ByteArray.empty), Ti 0, Ti 0, Ti 0])]⟩) ?_ ?_
  ·refine XR 1 ?_
   refine zDT 80 (T := 9) (sz := 1) (els := y2.map c9) (s1 := ⟨.c (.v (.string vs1)) :: .bot :: .pt 16 0 :: .bot :: .c (.sl (y2.map c9)) :: .bot :: .pt 48 0 :: bt 19 (.c (.sl (y2.map c9)) :: bt 41 []), [(48, .box [Ti f9, .v (.string e8), .v (.string ByteArray.empty), .v (.string ByteArray.empty), Ti 0, Ti 0, Ti 0]), (16, .box [Ti 0, .v (.string ByteArray.empty), .v (.string ByteArray.empty), .v (.string ByteArray.empty), Ti 0, Ti 0, Ti 0])]⟩) kk kk ?_
   refine L0 rfl rfl (zIC (c := c9) (xs := y2) (l := 2) (h := (y2.length : Int)) Tryz.underlying66 sz9 (fun _ => rfl) rfl kk (fun y hy => by cases hy; exact ⟨.i64, kk⟩) (fun hh => by cases hh) (fun y hy => by cases hy) (fun _ => rfl) (zAY hu10)) ?_
   refine L0 rfl rfl (qQ (c := c9) (xs := subl y2 2 ((y2.length : Int))) Tryz.underlying66 rfl kk) ?_
   refine XR 1 ?_
   refine zM ?_
   subst ht11
   kernel_rfl
  obtain ⟨o19, hLo19, h⟩ := zA h
  refine zCS (mb 68 69) [48, 16] (s1 := ⟨.c (.v (.string vs1)) :: .bot :: .pt 16 0 :: bt 3 (.pt 48 0 :: bt 61 []), [(48, .box [Ti f9, .v (.string e8), .v (.string o19.1), .v (.string o19.2.1), Ti o19.2.2.1, Ti o19.2.2.2.1, Ti o19.2.2.2.2]), (16, .box [Ti 0, .v (.string ByteArray.empty), .v (.string ByteArray.empty), .v (.string ByteArray.empty), Ti 0, Ti 0, Ti 0])]⟩) ?_ ?_
  ·clear h
   refine zN (jM (fun n s => ∃ (t12 : Int) (f13 : Int) (f14 : Int) (f15 : Int) (f16 : ByteArray) (f17 : ByteArray), s.keep (mb 68 939524165) [48, 16] = (⟨.c (.v (.string vs1)) :: .bot :: .pt 16 0 :: bt 3 (.pt 48 0 :: bt 20 (.c (.sl ((subl y2 2 ((y2.length : Int))).map c9)) :: I t11 :: I t12 :: bt 38 [])), [(48, .box [Ti f9, .v (.string e8), .v (.string f16), .v (.string f17), Ti f13, Ti f14, Ti f15]), (16, .box [Ti 0, .v (.string ByteArray.empty), .v (.string ByteArray.empty), .v (.string ByteArray.empty), Ti 0, Ti 0, Ti 0])]⟩ : St) ∧ zQ e8 f9 t11 vs1 y2 n t12 f13 f14 f15 f16 f17 = some o19) FU ⟨_, _, _, _, _, _,  kk, hLo19⟩ ?_)
   clear hLo19
   rintro n s ⟨t12, f13, f14, f15, f16, f17, hs, h⟩
   refine jF _ _ hs ?_
   clear hs
   cases n with
   | zero => cases h
   | succ n =>
    rw [zQ] at h
    refine VE ?_
    refine zK ?_
    refine VC h (fun h => ?_) (fun h => ?_)
    ·refine zH ?_
     show V _ _ _ _
     refine zK ?_
     refine zN ?_
     obtain ⟨e21, he21, h⟩ := zA h
     refine VS ?_
     refine L0 rfl rfl (zBG (c := c9) (xs := subl y2 2 ((y2.length : Int))) (v := e21) (n := t12) Tryz.underlying66 sz9 rfl kk kk he21) ?_
     refine YF ?_
     refine zN ?_
     refine zO (mb 68 35299262789) [48, 16] (s1 := ⟨.c (.v (.string vs1)) :: .bot :: .pt 16 0 :: bt 3 (.pt 48 0 :: .bot :: .c (.v (.string e21)) :: bt 18 (.c (.sl ((subl y2 2 ((y2.length : Int))).map c9)) :: I t11 :: I t12 :: bt 5 (Bo (bif (eqI f9 1) then true else (eqI f9 5)) :: bt 32 []))), [(48, .box [Ti f9, .v (.string e8), .v (.string f16), .v (.string f17), Ti f13, Ti f14, Ti f15]), (16, .box [Ti 0, .v (.string ByteArray.empty), .v (.string ByteArray.empty), .v (.string ByteArray.empty), Ti 0, Ti 0, Ti 0])]⟩) ?_ ?_
     ·refine YR 4 ?_
      refine zE (eqI f9 1) (fun hc22 => ?_) (fun hc22 => ?_)
      ·refine YQ hc22 ?_
       exact YE (by rw [hc22]; kernel_rfl)
      ·refine YQ hc22 ?_
       exact YE (by rw [hc22]; kernel_rfl)
     refine VC h (fun h => ?_) (fun h => ?_)
     ·obtain ⟨y24, hy24, h⟩ := zA h
      refine zY ?_
      refine YK 1 (zJx hy24) zJm ?_
      refine YF ?_
      show V _ _ _ _
      obtain ⟨t25, ht25, h⟩ := zT h
      refine jC (mb 68 939524165) [48, 16] (s1 := ⟨.c (.v (.string vs1)) :: .bot :: .pt 16 0 :: bt 3 (.pt 48 0 :: bt 20 (.c (.sl ((subl y2 2 ((y2.length : Int))).map c9)) :: I t11 :: I t25 :: bt 38 [])), [(48, .box [Ti f9, .v (.string e8), .v (.string f16), .v (.string f17), Ti y24.1.1, Ti y24.1.2.1, Ti y24.1.2.2]), (16, .box [Ti 0, .v (.string ByteArray.empty), .v (.string ByteArray.empty), .v (.string ByteArray.empty), Ti 0, Ti 0, Ti 0])]⟩) ?_ ?_
      ·refine XR 2 ?_
       refine zM ?_
       subst ht25
       kernel_rfl
      exact ⟨n, Nat.lt_succ_self n, _, _, _, _, _, _,  kk, h⟩
     ·refine VS ?_
      refine YF ?_
      refine VC h (fun h => ?_) (fun h => ?_)
      ·refine zY ?_
       refine YF ?_
       show V _ _ _ _
       obtain ⟨t27, ht27, h⟩ := zT h
       refine jC (mb 68 939524165) [48, 16] (s1 := ⟨.c (.v (.string vs1)) :: .bot :: .pt 16 0 :: bt 3 (.pt 48 0 :: bt 20 (.c (.sl ((subl y2 2 ((y2.length : Int))).map c9)) :: I t11 :: I t27 :: bt 38 [])), [(48, .box [Ti f9, .v (.string e8), .v (.string e21), .v (.string f17), Ti f13, Ti f14, Ti f15]), (16, .box [Ti 0, .v (.string ByteArray.empty), .v (.string ByteArray.empty), .v (.string ByteArray.empty), Ti 0, Ti 0, Ti 0])]⟩) ?_ ?_
       ·refine XR 2 ?_
        refine zM ?_
        subst ht27
        kernel_rfl
       exact ⟨n, Nat.lt_succ_self n, _, _, _, _, _, _,  kk, h⟩
      ·refine zY ?_
       refine YF ?_
       show V _ _ _ _
       obtain ⟨t28, ht28, h⟩ := zT h
       refine jC (mb 68 939524165) [48, 16] (s1 := ⟨.c (.v (.string vs1)) :: .bot :: .pt 16 0 :: bt 3 (.pt 48 0 :: bt 20 (.c (.sl ((subl y2 2 ((y2.length : Int))).map c9)) :: I t11 :: I t28 :: bt 38 [])), [(48, .box [Ti f9, .v (.string e8), .v (.string f16), .v (.string e21), Ti f13, Ti f14, Ti f15]), (16, .box [Ti 0, .v (.string ByteArray.empty), .v (.string ByteArray.empty), .v (.string ByteArray.empty), Ti 0, Ti 0, Ti 0])]⟩) ?_ ?_
       ·refine XR 2 ?_
        refine zM ?_
        subst ht28
        kernel_rfl
       exact ⟨n, Nat.lt_succ_self n, _, _, _, _, _, _,  kk, h⟩
    ·refine jE ?_
     obtain rfl := zB h
     show St.keep _ _ _ = _
     kernel_rfl
  show V _ _ _ _
  refine zK ?_
  obtain ⟨y29, hy29, h⟩ := zA h
  obtain ⟨b32, hb32, h⟩ := zA h
  refine zO (mb 68 36893488147419103300) [48, 16] (s1 := ⟨.bot :: .bot :: .pt 16 0 :: bt 3 (.pt 48 0 :: bt 58 (Bo b32 :: .bot :: .bot :: [])), [(48, .box [Ti f9, .v (.string e8), .v (.string o19.1), .v (.string o19.2.1), Ti o19.2.2.1, Ti o19.2.2.2.1, Ti o19.2.2.2.2]), (16, .box [Ti 0, .v (.string ByteArray.empty), .v (.string ByteArray.empty), .v (.string ByteArray.empty), Ti 0, Ti 0, Ti 0])]⟩) ?_ ?_
  ·refine YK 1 (zDj hy29) zD3 ?_
   refine YR 2 ?_
   refine zE (!y29) (fun hc30 => ?_) (fun hc30 => ?_)
   ·have hb32 := zB (qH hb32 hc30)
    refine YQ hc30 ?_
    exact YE (by rw [← hb32]; (try rw [hc30]); kernel_rfl)
   ·have hb32 := z7 hb32 hc30
    obtain ⟨y31, hy31, hb32⟩ := zA hb32
    have hb32 := zB hb32
    refine YQ hc30 ?_
    refine YK 1 (zF9 hy31) zFW ?_
    exact YE (by rw [← hb32]; (try rw [hc30]); kernel_rfl)
  refine VC h (fun h => ?_) (fun h => ?_)
  ·refine VS ?_
   refine L0 rfl rfl (zW (cs := [Ti 0, .v (.string ByteArray.empty), .v (.string ByteArray.empty), .v (.string ByteArray.empty), Ti 0, Ti 0, Ti 0]) pl40 bt40 rfl rfl kk) ?_
   refine YF ?_
   cases h
   exact zF VT
  ·refine zH ?_
   show V _ _ _ _
   refine VE ?_
   cases h
   exact zF VT
theorem zI2 : CfW Tryz.prog 116 := cfW Tryz.func116
theorem zIn {vs1 : ByteArray} {before2 : Int} {r : Int} (h : qD vs1 before2 = some r) : zV Tryz.prog 116 [.c (.v (.string vs1)), I before2] (I r) [] := by
 refine CtW [4] Tryz.func116 rfl rfl 22 ?_
 unfold qD at h
 refine VE ?_
 refine zK ?_
 refine VE ?_
 obtain ⟨o6, hLo6, h⟩ := zA h
 refine zCS (mb 22 2) [] (s1 := ⟨.bot :: I o6 :: bt 20 [], []⟩) ?_ ?_
 ·clear h
  refine zN (jM (fun n s => ∃ (before3 : Int) (i4 : Int), s.keep (mb 22 35) [] = (⟨.c (.v (.string vs1)) :: I before3 :: bt 3 (I i4 :: bt 16 []), []⟩ : St) ∧ qE vs1 n before3 i4 = some o6) FU ⟨_, _,  kk, hLo6⟩ ?_)
  clear hLo6
  rintro n s ⟨before3, i4, hs, h⟩
  refine jF _ _ hs ?_
  clear hs
  cases n with
  | zero => cases h
  | succ n =>
   rw [qE] at h
   refine zK ?_
   refine VS ?_
   refine YF ?_
   refine VC h (fun h => ?_) (fun h => ?_)
   ·refine zH ?_
    show V _ _ _ _
    refine zK ?_
    refine zN ?_
    obtain ⟨e8, he8, h⟩ := zA h
    obtain ⟨before9, hbefore9, h⟩ := zT h
    refine jC (mb 22 35) [] (s1 := ⟨.c (.v (.string vs1)) :: I before9 :: bt 3 (I i4 :: bt 16 []), []⟩) ?_ ?_
    ·refine XR 4 ?_
     refine L0 rfl rfl (zC9 (b := vs1) (k := .i64) (n := i4) (v := e8) Tryz.underlying9 rfl kk kk he8) ?_
     refine L0 rfl rfl (zFD (k2 := .u8) (a := e8) Tryz.underlying5 Tryz.underlying3 rfl kk) ?_
     refine XR 2 ?_
     refine L0 rfl rfl (zEy (k := .i64) (a := w64 ((w64 ((w64 (31 * before3)) + (IntKind.i64.wrap e8))) + 1)) (b := 9973) rfl kk kk (by decide)) ?_
     refine XR 1 ?_
     refine zM ?_
     subst hbefore9
     kernel_rfl
    show V _ _ _ _
    obtain ⟨i10, hi10, h⟩ := zT h
    refine jC (mb 22 35) [] (s1 := ⟨.c (.v (.string vs1)) :: I before9 :: bt 3 (I i10 :: bt 16 []), []⟩) ?_ ?_
    ·refine XR 3 ?_
     refine zM ?_
     subst hi10
     kernel_rfl
    exact ⟨n, Nat.lt_succ_self n, _, _,  kk, h⟩
   ·refine jE ?_
    obtain rfl := zB h
    show St.keep _ _ _ = _
    kernel_rfl
 show V _ _ _ _
 refine VE ?_
 cases h
 exact zF VT
theorem zES : CfW Tryz.prog 56 := cfW Tryz.func56
theorem zE5 {c1 : (Int × ByteArray × ByteArray × ByteArray × ((Int × Int × Int)))} {before2 : Int} {r : (ByteArray × Int)} (h : zBL c1 before2 = some r) : zV Tryz.prog 56 [.ag [Ti c1.1, .v (.string c1.2.1), .v (.string c1.2.2.1), .v (.string c1.2.2.2.1), Ti c1.2.2.2.2.1, Ti c1.2.2.2.2.2.1, Ti c1.2.2.2.2.2.2], I before2] (.tc (.c (.v (.string r.1))) (.tc (I r.2) .tn)) [] := by
 refine CtW [4, 5] Tryz.func56 rfl rfl 20 ?_
 unfold zBL at h
 refine VE ?_
 obtain ⟨y3, hy3, h⟩ := zA h
 refine VS ?_
 refine YK 1 (zF9 hy3) zFW ?_
 refine YF ?_
 obtain ⟨y4, hy4, h⟩ := zA h
 refine VS ?_
 refine YK 2 (zIn hy4) zI2 ?_
 refine YF ?_
 obtain ⟨u5, hu5, h⟩ := zA h
 obtain ⟨y6, hy6, h⟩ := zA h
 obtain ⟨u7, hu7, h⟩ := zA h
 obtain ⟨u8, hu8, h⟩ := zA h
 refine VS ?_
 refine YR 1 ?_
 refine L0 rfl rfl (zAW (a := y3) (b := (⟨#[35]⟩ : ByteArray)) rfl kk kk (qJ hu5)) ?_
 refine YK 1 (zE0 hy6) zEK ?_
 refine L0 rfl rfl (zAW (a := y3 ++ ((⟨#[35]⟩ : ByteArray))) (b := y6) rfl kk kk (qJ hu7)) ?_
 refine L0 rfl rfl (zAW (a := (y3 ++ ((⟨#[35]⟩ : ByteArray))) ++ y6) (b := (⟨#[10]⟩ : ByteArray)) rfl kk kk (qJ hu8)) ?_
 refine YF ?_
 cases h
 exact zF VT
theorem zEe : CfW Tryz.prog 109 := cfW Tryz.func109
theorem zFF {l1 : List ((ByteArray × ((Int × Int × Int))))} {name2 : ByteArray} {r : (((Int × Int × Int)) × Bool)} (h : zBV l1 name2 = some r) : zV Tryz.prog 109 [.c (.sl (l1.map c73)), .c (.v (.string name2))] (.tc (.ag [Ti r.1.1, Ti r.1.2.1, Ti r.1.2.2]) (.tc (Bo r.2) .tn)) [] := by
 refine zZ (rs := [.w 4 3, .t 5]) (vs := [.cell 4 38, .tmp 5]) Tryz.func109 rfl rfl (.cons ⟨rfl, wd38⟩ (.cons rfl FitsL.nil)) (by decide) 22 rfl ?_
 unfold zBV at h
 refine VE ?_
 refine zK ?_
 refine VS ?_
 refine YR 1 ?_
 refine L0 rfl rfl (qQ (c := c73) (xs := l1) Tryz.underlying43 rfl kk) ?_
 refine YF ?_
 obtain ⟨qo5, hLo5, hko5⟩ := zA h
 refine zFN (q := qo5) (S := fun o5 => ⟨bt 4 (.pt 32 0 :: bt 17 []), [(32, .box [Ti 0, Ti 0, Ti 0])]⟩) (mb 22 16) [32] ?_ ?_
 ·refine zN (jM (fun n s => ∃ (t3 : Int), s.keep (mb 22 1810) [32] = (⟨.bot :: .c (.v (.string name2)) :: .bot :: .bot :: .pt 32 0 :: bt 3 (.c (.sl (l1.map c73)) :: I ((l1.length : Int)) :: I t3 :: bt 11 []), [(32, .box [Ti 0, Ti 0, Ti 0])]⟩ : St) ∧ zBf l1 name2 n t3 = some qo5) FU ⟨_,  kk, hLo5⟩ ?_)
  clear hLo5
  rintro n s ⟨t3, hs, h⟩
  refine jF _ _ hs ?_
  clear hs
  cases n with
  | zero => cases h
  | succ n =>
   rw [zBf] at h
   refine VE ?_
   refine zK ?_
   refine VC h (fun h => ?_) (fun h => ?_)
   ·refine zH ?_
    show V _ _ _ _
    refine zK ?_
    refine zN ?_
    obtain ⟨e7, he7, h⟩ := zA h
    refine VS ?_
    refine L0 rfl rfl (zBG (c := c73) (xs := l1) (v := e7) (n := t3) Tryz.underlying43 sz73 rfl kk kk he7) ?_
    refine YF ?_
    refine VS ?_
    refine YF ?_
    refine VC h (fun h => ?_) (fun h => ?_)
    ·refine VE ?_
     refine zF ?_
     obtain rfl := zB h
     have h := hko5
     obtain rfl := zB h
     exact VT
    ·refine zH ?_
     show V _ _ _ _
     obtain ⟨t9, ht9, h⟩ := zT h
     refine jC (mb 22 1810) [32] (s1 := ⟨.bot :: .c (.v (.string name2)) :: .bot :: .bot :: .pt 32 0 :: bt 3 (.c (.sl (l1.map c73)) :: I ((l1.length : Int)) :: I t9 :: bt 11 []), [(32, .box [Ti 0, Ti 0, Ti 0])]⟩) ?_ ?_
     ·refine XR 2 ?_
      refine zM ?_
      subst ht9
      kernel_rfl
     exact ⟨n, Nat.lt_succ_self n, _,  kk, h⟩
   ·refine jE ?_
    obtain rfl := zB h
    exact ⟨_, rfl, kk⟩
 rintro o5 rfl
 have h := hko5
 clear hko5
 show V _ _ _ _
 refine VS ?_
 refine L0 rfl rfl (zW (cs := [Ti 0, Ti 0, Ti 0]) pl38 bt38 rfl rfl kk) ?_
 refine YF ?_
 cases h
 exact zF VT
theorem zKd : CfW Tryz.prog 247 := cfW Tryz.func247
theorem zLW {r : (Int × Int × Int × Int)} (h : zEs = some r) : zV Tryz.prog 247 [] (.ag [Ti r.1, Ti r.2.1, Ti r.2.2.1, Ti r.2.2.2]) [] := by
 refine zZ (rs := [.w 0 4]) (vs := [.cell 0 109]) Tryz.func247 rfl rfl (.cons ⟨rfl, zGJ⟩ FitsL.nil) (by decide) 2 rfl ?_
 unfold zEs at h
 refine VE ?_
 refine VS ?_
 refine L0 rfl rfl (zW (cs := [Ti 1, Ti 0, Ti 0, Ti 1]) zE7 zEo rfl rfl kk) ?_
 refine YF ?_
 cases h
 exact zF VT
theorem zEn : CfW Tryz.prog 170 := cfW Tryz.func170
theorem zFG {f1 : (Int × Int × Int)} {r : Bool} (h : qN f1 = some r) : zV Tryz.prog 170 [.ag [Ti f1.1, Ti f1.2.1, Ti f1.2.2]] (Bo r) [] := by
 refine CtW [2] Tryz.func170 rfl rfl 16 ?_
 unfold qN at h
 refine VE ?_
 obtain ⟨t3, ht3, h⟩ := zA h
 have ht3 := zB ht3
 refine zO (mb 16 4) [] (s1 := ⟨.bot :: .bot :: Bo t3 :: bt 13 [], []⟩) ?_ ?_
 ·refine YR 7 ?_
  refine zE (ltI (w64 (0 - f1.1)) f1.2.1) (fun hc2 => ?_) (fun hc2 => ?_)
  ·refine YQ hc2 ?_
   exact YE (by rw [← ht3]; (try rw [hc2]); kernel_rfl)
  ·refine YQ hc2 ?_
   exact YE (by rw [← ht3]; (try rw [hc2]); kernel_rfl)
 cases h
 exact zF VT
theorem zEf : CfW Tryz.prog 78 := cfW Tryz.func78
theorem zEl {f1 : (Int × Int × Int)} {r : Bool} (h : jK f1 = some r) : zV Tryz.prog 78 [.ag [Ti f1.1, Ti f1.2.1, Ti f1.2.2]] (Bo r) [] := by
 refine CtW [2] Tryz.func78 rfl rfl 24 ?_
 unfold jK at h
 refine VE ?_
 obtain ⟨y2, hy2, h⟩ := zA h
 obtain ⟨t6, ht6, h⟩ := zA h
 have ht6 := zB ht6
 refine zO (mb 24 4) [] (s1 := ⟨.bot :: .bot :: Bo t6 :: bt 21 [], []⟩) ?_ ?_
 ·refine YK 1 (zFG hy2) zEn ?_
  refine YR 1 ?_
  refine zE y2 (fun hc3 => ?_) (fun hc3 => ?_)
  ·refine YQ hc3 ?_
   refine YR 6 ?_
   refine zE (ltI f1.1 f1.2.2) (fun hc4 => ?_) (fun hc4 => ?_)
   ·refine YQ hc4 ?_
    exact YE (by rw [← ht6]; (try rw [hc4]); (try rw [hc3]); kernel_rfl)
   ·refine YQ hc4 ?_
    refine YR 6 ?_
    refine zE (eqI f1.1 f1.2.2) (fun hc5 => ?_) (fun hc5 => ?_)
    ·refine YQ hc5 ?_
     exact YE (by rw [← ht6]; (try rw [hc4]); (try rw [hc5]); (try rw [hc3]); kernel_rfl)
    ·refine YQ hc5 ?_
     exact YE (by rw [← ht6]; (try rw [hc4]); (try rw [hc5]); (try rw [hc3]); kernel_rfl)
  ·refine YQ hc3 ?_
   exact YE (by rw [← ht6]; (try rw [hc3]); kernel_rfl)
 cases h
 exact zF VT
theorem zEV : CfW Tryz.prog 234 := cfW Tryz.func234
theorem zEq {a1 : Int} {vm2 : Int} {r : Int} (h : zBr a1 vm2 = some r) : zV Tryz.prog 234 [I a1, I vm2] (I r) [] := by
 refine CtW [4] Tryz.func234 rfl rfl 15 ?_
 unfold zBr at h
 refine VE ?_
 obtain ⟨z3, hz3, h⟩ := zA h
 obtain ⟨vr4, hvr4, h⟩ := zT h
 refine zO (mb 15 34) [] (s1 := ⟨.bot :: I vm2 :: bt 3 (I vr4 :: bt 9 []), []⟩) ?_ ?_
 ·refine XR 2 ?_
  refine L0 rfl rfl (zEy (k := .i64) (a := a1) (b := vm2) rfl kk kk (zAA hz3)) ?_
  refine XR 1 ?_
  refine zM ?_
  subst hvr4
  kernel_rfl
 refine zK ?_
 refine VE ?_
 refine VC h (fun h => ?_) (fun h => ?_)
 ·obtain ⟨vr6, hvr6, h⟩ := zT h
  refine jC (mb 15 32) [] (s1 := ⟨bt 5 (I vr6 :: bt 9 []), []⟩) ?_ ?_
  ·refine XR 4 ?_
   refine zM ?_
   subst hvr6
   kernel_rfl
  show V _ _ _ _
  refine VE ?_
  cases h
  exact zF VT
 ·refine zH ?_
  show V _ _ _ _
  refine VE ?_
  cases h
  exact zF VT
theorem zGZ : CfW Tryz.prog 281 := cfW Tryz.func281
theorem zGz {a1 : Int} {vm2 : Int} {r : Int} (h : zAw a1 vm2 = some r) : zV Tryz.prog 281 [I a1, I vm2] (I r) [] := by
 refine CtW [4] Tryz.func281 rfl rfl 12 ?_
 unfold zAw at h
 refine VE ?_
 obtain ⟨y3, hy3, h⟩ := zA h
 obtain ⟨z4, hz4, h⟩ := zA h
 obtain ⟨t5, ht5, h⟩ := zT h
 refine zO (mb 12 16) [] (s1 := ⟨bt 4 (I t5 :: bt 7 []), []⟩) ?_ ?_
 ·refine XR 3 ?_
  refine XC (zEq hy3) zEV rfl rfl rfl ?_
  refine XR 2 ?_
  refine L0 rfl rfl (zAJ (a := w64 (a1 - y3)) (b := vm2) rfl kk kk (zAA hz4)) ?_
  refine XR 1 ?_
  refine zM ?_
  subst ht5
  kernel_rfl
 cases h
 exact zF VT
theorem zJn : CfW Tryz.prog 248 := cfW Tryz.func248
theorem zJy {f1 : (Int × Int × Int)} {r : (Int × Int × Int × Int)} (h : qW f1 = some r) : zV Tryz.prog 248 [.ag [Ti f1.1, Ti f1.2.1, Ti f1.2.2]] (.ag [Ti r.1, Ti r.2.1, Ti r.2.2.1, Ti r.2.2.2]) [] := by
 refine zZ (rs := [.w 2 4]) (vs := [.cell 2 109]) Tryz.func248 rfl rfl (.cons ⟨rfl, zGJ⟩ FitsL.nil) (by decide) 22 rfl ?_
 unfold qW at h
 refine VE ?_
 refine zK ?_
 refine zN ?_
 obtain ⟨y2, hy2, h⟩ := zA h
 refine VS ?_
 refine YK 1 (zEl hy2) zEf ?_
 refine YF ?_
 refine VC h (fun h => ?_) (fun h => ?_)
 ·obtain ⟨y4, hy4, h⟩ := zA h
  refine VS ?_
  refine YK 0 (zLW hy4) zKd ?_
  refine YF ?_
  cases h
  exact zF VT
 ·obtain ⟨y5, hy5, h⟩ := zA h
  refine VS ?_
  refine YK 1 (zFG hy5) zEn ?_
  refine YF ?_
  refine VC h (fun h => ?_) (fun h => ?_)
  ·obtain ⟨y7, hy7, h⟩ := zA h
   refine VS ?_
   refine YK 8 (zGz hy7) zGZ ?_
   refine L0 rfl rfl (zW (cs := [Ti 1, Ti y7, Ti 0, Ti 1]) zE7 zEo rfl rfl kk) ?_
   refine YF ?_
   cases h
   exact zF VT
  ·refine zH ?_
   show V _ _ _ _
   refine VS ?_
   refine L0 rfl rfl (zW (cs := [Ti 0, Ti (-1), Ti 1, Ti 0]) zE7 zEo rfl rfl kk) ?_
   refine YF ?_
   cases h
   exact zF VT
theorem zFS : CfW Tryz.prog 79 := cfW Tryz.func79
theorem zFa {f1 : (Int × Int × Int)} {x2 : Int} {y3 : Int} {r : Int} (h : zAt f1 x2 y3 = some r) : zV Tryz.prog 79 [.ag [Ti f1.1, Ti f1.2.1, Ti f1.2.2], I x2, I y3] (I r) [] := by
 refine CtW [6] Tryz.func79 rfl rfl 27 ?_
 unfold zAt at h
 refine VE ?_
 obtain ⟨t4, ht4, h⟩ := zT h
 refine zO (mb 27 64) [] (s1 := ⟨bt 6 (I t4 :: bt 20 []), []⟩) ?_ ?_
 ·refine XR 21 ?_
  refine zM ?_
  subst ht4
  kernel_rfl
 cases h
 exact zF VT
theorem zJI : CfW Tryz.prog 233 := cfW Tryz.func233
theorem zJY {f1 : (Int × Int × Int)} {x2 : Int} {y3 : Int} {u4 : Int} {v5 : Int} {r : Int} (h : zAl f1 x2 y3 u4 v5 = some r) : zV Tryz.prog 233 [.ag [Ti f1.1, Ti f1.2.1, Ti f1.2.2], I x2, I y3, I u4, I v5] (I r) [] := by
 refine CtW [10] Tryz.func233 rfl rfl 37 ?_
 unfold zAl at h
 refine VE ?_
 obtain ⟨t6, ht6, h⟩ := zT h
 refine zO (mb 37 1024) [] (s1 := ⟨bt 10 (I t6 :: bt 26 []), []⟩) ?_ ?_
 ·refine XR 27 ?_
  refine zM ?_
  subst ht6
  kernel_rfl
 cases h
 exact zF VT
theorem zCt : CfW Tryz.prog 168 := cfW Tryz.func168
theorem zDB {f1 : (Int × Int × Int)} {vm2 : (Int × Int × Int × Int)} {r : (Int × Int × Int)} (h : qF f1 vm2 = some r) : zV Tryz.prog 168 [.ag [Ti f1.1, Ti f1.2.1, Ti f1.2.2], .ag [Ti vm2.1, Ti vm2.2.1, Ti vm2.2.2.1, Ti vm2.2.2.2]] (.ag [Ti r.1, Ti r.2.1, Ti r.2.2]) [] := by
 refine zZ (rs := [.w 4 3]) (vs := [.cell 4 38]) Tryz.func168 rfl rfl (.cons ⟨rfl, wd38⟩ FitsL.nil) (by decide) 28 rfl ?_
 unfold qF at h
 refine VE ?_
 obtain ⟨y3, hy3, h⟩ := zA h
 obtain ⟨y4, hy4, h⟩ := zA h
 obtain ⟨y5, hy5, h⟩ := zA h
 refine VDS [0, 0, 2, 0, 8, 31, 0, 0, 128, 0, 512, 0, 2048, 0, 8192, 32767, 0, 0, 131072, 0, 524288, 2097151, 4194303, 8388607] 23 (cdm 23 [2929883521704, 2929883521666, 2929883521670, 2929883521066, 2929883521130, 2929883521365, 2929883515562, 2929883359914, 2929883376298, 2929880902314, 2929881164458, 2929841580714, 2929845775018, 2929212435114, 2929279543978, 2929525609813, 2923441072810, 2760232315562, 2777412184746, 183251937962, 458129844906, 1466015503701, 5864062014805]) ?_
 refine EK 5 (zFa hy3) zFS ?_
 refine EK 9 (zJY hy4) zJI ?_
 refine EK 5 (zFa hy5) zFS ?_
 refine E0 22 rfl rfl (zW (cs := [Ti y3, Ti y4, Ti y5]) pl38 bt38 rfl rfl kk) ?_
 refine EF 0 ?_
 cases h
 exact zF VT
theorem zFL : CfW Tryz.prog 246 := cfW Tryz.func246
theorem zFU {vm1 : (Int × Int × Int × Int)} {vn2 : (Int × Int × Int × Int)} {r : (Int × Int × Int × Int)} (h : qG vm1 vn2 = some r) : zV Tryz.prog 246 [.ag [Ti vm1.1, Ti vm1.2.1, Ti vm1.2.2.1, Ti vm1.2.2.2], .ag [Ti vn2.1, Ti vn2.2.1, Ti vn2.2.2.1, Ti vn2.2.2.2]] (.ag [Ti r.1, Ti r.2.1, Ti r.2.2.1, Ti r.2.2.2]) [] := by
 refine zZ (rs := [.w 4 4]) (vs := [.cell 4 109]) Tryz.func246 rfl rfl (.cons ⟨rfl, zGJ⟩ FitsL.nil) (by decide) 50 rfl ?_
 unfold qG at h
 refine VE ?_
 obtain ⟨f3, hf3, h⟩ := zT h
 obtain ⟨f4, hf4, h⟩ := zT h
 obtain ⟨f5, hf5, h⟩ := zT h
 obtain ⟨f6, hf6, h⟩ := zT h
 refine zO (mb 50 16) [32] (s1 := ⟨bt 4 (.pt 32 0 :: bt 45 []), [(32, .box [Ti f3, Ti f4, Ti f5, Ti f6])]⟩) ?_ ?_
 ·refine XR 44 ?_
  refine L0 rfl rfl (zW (cs := [Ti (w64 ((w64 (vm1.1 * vn2.1)) + (w64 (vm1.2.1 * vn2.2.2.1)))), Ti (w64 ((w64 (vm1.1 * vn2.2.1)) + (w64 (vm1.2.1 * vn2.2.2.2)))), Ti (w64 ((w64 (vm1.2.2.1 * vn2.1)) + (w64 (vm1.2.2.2 * vn2.2.2.1)))), Ti (w64 ((w64 (vm1.2.2.1 * vn2.2.1)) + (w64 (vm1.2.2.2 * vn2.2.2.2))))]) zE7 zEo rfl rfl kk) ?_
  refine XR 1 ?_
  refine zM ?_
  subst hf3 hf4 hf5 hf6
  kernel_rfl
 cases h
 exact zF VT
theorem zMF : CfW Tryz.prog 193 := cfW Tryz.func193
theorem s_impl_reduce {f1 : (Int × Int × Int)} {r : (((Int × Int × Int)) × ((Int × Int × Int × Int)))} (h : zAs f1 = some r) : zV Tryz.prog 193 [.ag [Ti f1.1, Ti f1.2.1, Ti f1.2.2]] (.tc (.ag [Ti r.1.1, Ti r.1.2.1, Ti r.1.2.2]) (.tc (.ag [Ti r.2.1, Ti r.2.2.1, Ti r.2.2.2.1, Ti r.2.2.2.2]) .tn)) [] := by
 refine zZ (rs := [.w 2 3, .w 3 4]) (vs := [.cell 2 38, .cell 3 109]) Tryz.func193 rfl rfl (.cons ⟨rfl, wd38⟩ (.cons ⟨rfl, zGJ⟩ FitsL.nil)) (by decide) 20 rfl ?_
 unfold zAs at h
 refine VE ?_
 obtain ⟨y2, hy2, h⟩ := zA h
 refine VS ?_
 refine YK 0 (zLW hy2) zKd ?_
 refine YF ?_
 refine zK ?_
 obtain ⟨o11, hLo11, h⟩ := zA h
 refine zCS (mb 20 30) [32, 24, 16, 8] (s1 := ⟨.bot :: .pt 8 0 :: .pt 16 0 :: .pt 24 0 :: .pt 32 0 :: bt 15 [], [(32, .box [Ti o11.1, Ti o11.2.1, Ti o11.2.2.1, Ti o11.2.2.2.1]), (24, .box [Ti 0, Ti 0, Ti 0, Ti 0]), (16, .box [Ti 0, Ti 0, Ti 0]), (8, .box [Ti o11.2.2.2.2.1, Ti o11.2.2.2.2.2.1, Ti o11.2.2.2.2.2.2])]⟩) ?_ ?_
 ·clear h
  refine zN (jM (fun n s => ∃ (f3 : Int) (f4 : Int) (f5 : Int) (f6 : Int) (f7 : Int) (f8 : Int) (f9 : Int), s.keep (mb 20 30) [32, 24, 16, 8] = (⟨.bot :: .pt 8 0 :: .pt 16 0 :: .pt 24 0 :: .pt 32 0 :: bt 15 [], [(32, .box [Ti f3, Ti f4, Ti f5, Ti f6]), (24, .box [Ti 0, Ti 0, Ti 0, Ti 0]), (16, .box [Ti 0, Ti 0, Ti 0]), (8, .box [Ti f7, Ti f8, Ti f9])]⟩ : St) ∧ zAk n f3 f4 f5 f6 f7 f8 f9 = some o11) FU ⟨_, _, _, _, _, _, _,  kk, hLo11⟩ ?_)
  clear hLo11
  rintro n s ⟨f3, f4, f5, f6, f7, f8, f9, hs, h⟩
  refine jF _ _ hs ?_
  clear hs
  cases n with
  | zero => cases h
  | succ n =>
   rw [zAk] at h
   refine zK ?_
   obtain ⟨y12, hy12, h⟩ := zA h
   refine VS ?_
   refine YK 1 (zEl hy12) zEf ?_
   refine YF ?_
   refine VC h (fun h => ?_) (fun h => ?_)
   ·refine zH ?_
    show V _ _ _ _
    refine zN ?_
    obtain ⟨y14, hy14, h⟩ := zA h
    refine VS ?_
    refine YK 1 (zJy hy14) zJn ?_
    refine YF ?_
    obtain ⟨y15, hy15, h⟩ := zA h
    refine VS ?_
    refine YK 2 (zDB hy15) zCt ?_
    refine YF ?_
    obtain ⟨y16, hy16, h⟩ := zA h
    refine zY ?_
    refine YK 2 (zFU hy16) zFL ?_
    refine YF ?_
    exact ⟨n, Nat.lt_succ_self n, _, _, _, _, _, _, _,  kk, h⟩
   ·refine jE ?_
    obtain rfl := zB h
    show St.keep _ _ _ = _
    kernel_rfl
 show V _ _ _ _
 refine VDS [0, 0, 1, 7] 3 [[.z, .b, .z], [.b, .z, .r 16], [.a, .b, .z]] ?_
 refine EF 3 ?_
 cases h
 exact zF VT
theorem zCY : CfW Tryz.prog 112 := cfW Tryz.func112
theorem zCl {f1 : (Int × Int × Int)} {r : (Int × Int × Int)} (h : jZ f1 = some r) : zV Tryz.prog 112 [.ag [Ti f1.1, Ti f1.2.1, Ti f1.2.2]] (.ag [Ti r.1, Ti r.2.1, Ti r.2.2]) [] := by
 refine zZ (rs := [.w 2 3]) (vs := [.cell 2 38]) Tryz.func112 rfl rfl (.cons ⟨rfl, wd38⟩ FitsL.nil) (by decide) 11 rfl ?_
 unfold jZ at h
 refine VE ?_
 obtain ⟨y2, hy2, h⟩ := zA h
 refine VS ?_
 refine YK 1 (s_impl_reduce hy2) zMF ?_
 refine YF ?_
 refine VE ?_
 cases h
 exact zF VT
theorem zKt : CfW Tryz.prog 108 := cfW Tryz.func108
theorem zLV {l1 : List ((ByteArray × ((Int × Int × Int))))} {c2 : (Int × ByteArray × ByteArray × ByteArray × ((Int × Int × Int)))} {r : Int} (h : zD8 l1 c2 = some r) : zV Tryz.prog 108 [.c (.sl (l1.map c73)), .ag [Ti c2.1, .v (.string c2.2.1), .v (.string c2.2.2.1), .v (.string c2.2.2.2.1), Ti c2.2.2.2.2.1, Ti c2.2.2.2.2.2.1, Ti c2.2.2.2.2.2.2]] (I r) [] := by
 refine CtW [4] Tryz.func108 rfl rfl 95 ?_
 unfold zD8 at h
 refine VE ?_
 obtain ⟨y3, hy3, h⟩ := zA h
 refine VS ?_
 refine YK 3 (zFF hy3) zEe ?_
 refine YF ?_
 obtain ⟨y4, hy4, h⟩ := zA h
 refine VS ?_
 refine YK 3 (zFF hy4) zEe ?_
 refine YF ?_
 obtain ⟨y5, hy5, h⟩ := zA h
 refine VS ?_
 refine YK 3 (zFF hy5) zEe ?_
 refine YF ?_
 obtain ⟨puts8, hputs8, h⟩ := zA h
 have hputs8 := zB hputs8
 refine zO (mb 95 4072) [72, 56, 40, 24] (s1 := ⟨bt 3 (.pt 24 0 :: .bot :: .pt 40 0 :: Bo y3.2 :: .pt 56 0 :: Bo y4.2 :: .pt 72 0 :: Bo y5.2 :: Bo puts8 :: bt 83 []), [(72, .box [Ti y5.1.1, Ti y5.1.2.1, Ti y5.1.2.2]), (56, .box [Ti y4.1.1, Ti y4.1.2.1, Ti y4.1.2.2]), (40, .box [Ti y3.1.1, Ti y3.1.2.1, Ti y3.1.2.2]), (24, .box [Ti c2.1, .v (.string c2.2.1), .v (.string c2.2.2.1), .v (.string c2.2.2.2.1), Ti c2.2.2.2.2.1, Ti c2.2.2.2.2.2.1, Ti c2.2.2.2.2.2.2])]⟩) ?_ ?_
 ·refine XR 4 ?_
  refine zE (eqI c2.1 1) (fun hc6 => ?_) (fun hc6 => ?_)
  ·refine zEi _ rfl rfl kk hc6 rfl ?_
   refine zEi _ rfl rfl kk hc6 rfl ?_
   refine zEi _ rfl rfl kk hc6 rfl ?_
   refine zL rfl (qB rfl (zMK (b := eqI c2.1 1) (p := true) (q := eqI c2.1 3) rfl kk hc6 kk)) ?_
   refine XR 1 ?_
   refine zE (bif (eqI c2.1 1) then true else (eqI c2.1 3)) (fun hc7 => ?_) (fun hc7 => ?_)
   ·refine zEi _ rfl rfl kk hc7 rfl ?_
    refine zEi _ rfl rfl kk hc7 rfl ?_
    refine zEi _ rfl rfl kk hc7 rfl ?_
    refine zL rfl (qB rfl (zMK (b := bif (eqI c2.1 1) then true else (eqI c2.1 3)) (p := true) (q := eqI c2.1 4) rfl kk hc7 kk)) ?_
    refine XR 1 ?_
    refine zM ?_
    subst hputs8
    kernel_rfl
   ·refine zEh _ rfl rfl kk hc7 (qB rfl (zLM (.pt 24 0) Tryz.underlying40 rfl sz3 rfl kk (by intro hh; cases hh))) ?_
    refine zEh _ rfl rfl kk hc7 (qB rfl (zID (c := Ti c2.1) (cs := [.v (.string c2.2.1), .v (.string c2.2.2.1), .v (.string c2.2.2.2.1), Ti c2.2.2.2.2.1, Ti c2.2.2.2.2.2.1, Ti c2.2.2.2.2.2.2]) sc3 rfl kk)) ?_
    refine zEh _ rfl rfl kk hc7 (qB rfl (zMM (k := .i64) (a := c2.1) (b := 4) rfl kk kk)) ?_
    refine zL rfl (qB rfl (zML (b := bif (eqI c2.1 1) then true else (eqI c2.1 3)) (p := true) (q := eqI c2.1 4) rfl kk hc7 kk)) ?_
    refine XR 1 ?_
    refine zM ?_
    subst hputs8
    kernel_rfl
  ·refine zEh _ rfl rfl kk hc6 (qB rfl (zLM (.pt 24 0) Tryz.underlying40 rfl sz3 rfl kk (by intro hh; cases hh))) ?_
   refine zEh _ rfl rfl kk hc6 (qB rfl (zID (c := Ti c2.1) (cs := [.v (.string c2.2.1), .v (.string c2.2.2.1), .v (.string c2.2.2.2.1), Ti c2.2.2.2.2.1, Ti c2.2.2.2.2.2.1, Ti c2.2.2.2.2.2.2]) sc3 rfl kk)) ?_
   refine zEh _ rfl rfl kk hc6 (qB rfl (zMM (k := .i64) (a := c2.1) (b := 3) rfl kk kk)) ?_
   refine zL rfl (qB rfl (zML (b := eqI c2.1 1) (p := true) (q := eqI c2.1 3) rfl kk hc6 kk)) ?_
   refine XR 1 ?_
   refine zE (bif (eqI c2.1 1) then true else (eqI c2.1 3)) (fun hc7 => ?_) (fun hc7 => ?_)
   ·refine zEi _ rfl rfl kk hc7 rfl ?_
    refine zEi _ rfl rfl kk hc7 rfl ?_
    refine zEi _ rfl rfl kk hc7 rfl ?_
    refine zL rfl (qB rfl (zMK (b := bif (eqI c2.1 1) then true else (eqI c2.1 3)) (p := true) (q := eqI c2.1 4) rfl kk hc7 kk)) ?_
    refine XR 1 ?_
    refine zM ?_
    subst hputs8
    kernel_rfl
   ·refine zEh _ rfl rfl kk hc7 (qB rfl (zLM (.pt 24 0) Tryz.underlying40 rfl sz3 rfl kk (by intro hh; cases hh))) ?_
    refine zEh _ rfl rfl kk hc7 (qB rfl (zID (c := Ti c2.1) (cs := [.v (.string c2.2.1), .v (.string c2.2.2.1), .v (.string c2.2.2.2.1), Ti c2.2.2.2.2.1, Ti c2.2.2.2.2.2.1, Ti c2.2.2.2.2.2.2]) sc3 rfl kk)) ?_
    refine zEh _ rfl rfl kk hc7 (qB rfl (zMM (k := .i64) (a := c2.1) (b := 4) rfl kk kk)) ?_
    refine zL rfl (qB rfl (zML (b := bif (eqI c2.1 1) then true else (eqI c2.1 3)) (p := true) (q := eqI c2.1 4) rfl kk hc7 kk)) ?_
    refine XR 1 ?_
    refine zM ?_
    subst hputs8
    kernel_rfl
 refine zK ?_
 refine zN ?_
 refine zO (mb 95 70368744181736) [72, 56, 40, 24] (s1 := ⟨bt 3 (.pt 24 0 :: .bot :: .pt 40 0 :: Bo y3.2 :: .pt 56 0 :: Bo y4.2 :: .pt 72 0 :: Bo y5.2 :: Bo puts8 :: bt 34 (Bo (bif puts8 then y3.2 else false) :: bt 48 [])), [(72, .box [Ti y5.1.1, Ti y5.1.2.1, Ti y5.1.2.2]), (56, .box [Ti y4.1.1, Ti y4.1.2.1, Ti y4.1.2.2]), (40, .box [Ti y3.1.1, Ti y3.1.2.1, Ti y3.1.2.2]), (24, .box [Ti c2.1, .v (.string c2.2.1), .v (.string c2.2.2.1), .v (.string c2.2.2.2.1), Ti c2.2.2.2.2.1, Ti c2.2.2.2.2.2.1, Ti c2.2.2.2.2.2.2])]⟩) ?_ ?_
 ·refine YR 2 ?_
  refine zE puts8 (fun hc9 => ?_) (fun hc9 => ?_)
  ·refine YQ hc9 ?_
   exact YE (by rw [hc9]; kernel_rfl)
  ·refine YQ hc9 ?_
   exact YE (by rw [hc9]; kernel_rfl)
 refine VC h (fun h => ?_) (fun h => ?_)
 ·refine VE ?_
  cases h
  exact zF VT
 ·obtain ⟨j11, hj11, h⟩ := zA h
  refine zCw (mb 95 2251799813685928) [72, 56, 40, 24] (s1 := ⟨bt 3 (.pt 24 0 :: .bot :: .pt 40 0 :: .bot :: .pt 56 0 :: .bot :: .pt 72 0 :: bt 41 (Bo j11 :: bt 43 [])), [(72, .box [Ti y5.1.1, Ti y5.1.2.1, Ti y5.1.2.2]), (56, .box [Ti y4.1.1, Ti y4.1.2.1, Ti y4.1.2.2]), (40, .box [Ti y3.1.1, Ti y3.1.2.1, Ti y3.1.2.2]), (24, .box [Ti c2.1, .v (.string c2.2.1), .v (.string c2.2.2.1), .v (.string c2.2.2.2.1), Ti c2.2.2.2.2.1, Ti c2.2.2.2.2.2.1, Ti c2.2.2.2.2.2.2])]⟩) ?_ ?_
  ·clear h
   have h := hj11
   clear hj11
   refine zO (mb 95 2251799813687208) [72, 56, 40, 24] (s1 := ⟨bt 3 (.pt 24 0 :: .bot :: .pt 40 0 :: .bot :: .pt 56 0 :: Bo y4.2 :: .pt 72 0 :: Bo y5.2 :: bt 40 (Bo (bif (!puts8) then (!y3.2) else false) :: bt 43 [])), [(72, .box [Ti y5.1.1, Ti y5.1.2.1, Ti y5.1.2.2]), (56, .box [Ti y4.1.1, Ti y4.1.2.1, Ti y4.1.2.2]), (40, .box [Ti y3.1.1, Ti y3.1.2.1, Ti y3.1.2.2]), (24, .box [Ti c2.1, .v (.string c2.2.1), .v (.string c2.2.2.1), .v (.string c2.2.2.2.1), Ti c2.2.2.2.2.1, Ti c2.2.2.2.2.2.1, Ti c2.2.2.2.2.2.2])]⟩) ?_ ?_
   ·refine YR 3 ?_
    refine zE (!puts8) (fun hc12 => ?_) (fun hc12 => ?_)
    ·refine YQ hc12 ?_
     exact YE (by rw [hc12]; kernel_rfl)
    ·refine YQ hc12 ?_
     exact YE (by rw [hc12]; kernel_rfl)
   refine VC h (fun h => ?_) (fun h => ?_)
   ·refine zH ?_
    obtain rfl := zB h
    show St.keep _ _ _ = _
    kernel_rfl
   ·obtain ⟨t15, ht15, h⟩ := zA h
    have ht15 := zB ht15
    refine zO (mb 95 2251799813686952) [72, 56, 40, 24] (s1 := ⟨bt 3 (.pt 24 0 :: .bot :: .pt 40 0 :: .bot :: .pt 56 0 :: .bot :: .pt 72 0 :: Bo y5.2 :: bt 40 (Bo t15 :: bt 43 [])), [(72, .box [Ti y5.1.1, Ti y5.1.2.1, Ti y5.1.2.2]), (56, .box [Ti y4.1.1, Ti y4.1.2.1, Ti y4.1.2.2]), (40, .box [Ti y3.1.1, Ti y3.1.2.1, Ti y3.1.2.2]), (24, .box [Ti c2.1, .v (.string c2.2.1), .v (.string c2.2.2.1), .v (.string c2.2.2.2.1), Ti c2.2.2.2.2.1, Ti c2.2.2.2.2.2.1, Ti c2.2.2.2.2.2.2])]⟩) ?_ ?_
    ·refine YR 4 ?_
     refine zE (!(c2.2.2.1.toList == ((⟨#[]⟩ : ByteArray)).toList)) (fun hc14 => ?_) (fun hc14 => ?_)
     ·refine YQ hc14 ?_
      exact YE (by rw [← ht15]; (try rw [hc14]); kernel_rfl)
     ·refine YQ hc14 ?_
      exact YE (by rw [← ht15]; (try rw [hc14]); kernel_rfl)
    refine VC h (fun h => ?_) (fun h => ?_)
    ·refine zH ?_
     obtain rfl := zB h
     show St.keep _ _ _ = _
     kernel_rfl
    ·obtain ⟨t18, ht18, h⟩ := zA h
     have ht18 := zB ht18
     refine jC (mb 95 2251799813685928) [72, 56, 40, 24] (s1 := ⟨bt 3 (.pt 24 0 :: .bot :: .pt 40 0 :: .bot :: .pt 56 0 :: .bot :: .pt 72 0 :: bt 41 (Bo t18 :: bt 43 [])), [(72, .box [Ti y5.1.1, Ti y5.1.2.1, Ti y5.1.2.2]), (56, .box [Ti y4.1.1, Ti y4.1.2.1, Ti y4.1.2.2]), (40, .box [Ti y3.1.1, Ti y3.1.2.1, Ti y3.1.2.2]), (24, .box [Ti c2.1, .v (.string c2.2.1), .v (.string c2.2.2.1), .v (.string c2.2.2.2.1), Ti c2.2.2.2.2.1, Ti c2.2.2.2.2.2.1, Ti c2.2.2.2.2.2.2])]⟩) ?_ ?_
     ·refine YR 4 ?_
      refine zE (!(c2.2.2.2.1.toList == ((⟨#[]⟩ : ByteArray)).toList)) (fun hc17 => ?_) (fun hc17 => ?_)
      ·refine YQ hc17 ?_
       exact YE (by rw [← ht18]; (try rw [hc17]); kernel_rfl)
      ·refine YQ hc17 ?_
       exact YE (by rw [← ht18]; (try rw [hc17]); kernel_rfl)
     obtain rfl := zB h
     show St.keep _ _ _ = _
     kernel_rfl
  refine VC h (fun h => ?_) (fun h => ?_)
  ·refine VE ?_
   cases h
   exact zF VT
  ·obtain ⟨b23, hb23, h⟩ := zA h
   refine zCj [0, 1, 3, 7, 15, 31, 15, 127, 255, 511, 1023] 11 (cdm 11 [0, 1, 5, 21, 8277, 8533, 2645, 5461, 21845, 87381, 349525]) (mb 95 4722366482869645213736) [40, 24] (s1 := ⟨bt 3 (.pt 24 0 :: .bot :: .pt 40 0 :: bt 66 (Bo b23 :: bt 22 [])), [(40, .box [Ti y3.1.1, Ti y3.1.2.1, Ti y3.1.2.2]), (24, .box [Ti c2.1, .v (.string c2.2.1), .v (.string c2.2.2.1), .v (.string c2.2.2.2.1), Ti c2.2.2.2.2.1, Ti c2.2.2.2.2.2.1, Ti c2.2.2.2.2.2.2])]⟩) kk kk ?_ ?_
   ·refine ER 4 ?_
    refine zEj (eqI c2.1 3) (fun hc20 => ?_) (fun hc20 => ?_)
    ·have hb23 := qH hb23 hc20
     obtain ⟨y21, hy21, hb23⟩ := zA hb23
     obtain ⟨y22, hy22, hb23⟩ := zA hb23
     have hb23 := zB hb23
     refine EQ hc20 ?_
     refine EK 1 (zCm hy21) zC8 ?_
     refine EK 1 (zCm hy22) zC8 ?_
     refine EA 3 ?_
     exact YE (by rw [← hb23]; (try rw [hc20]); kernel_rfl)
    ·have hb23 := zB (z7 hb23 hc20)
     refine EQ hc20 ?_
     refine EA 7 ?_
     exact YE (by rw [← hb23]; (try rw [hc20]); kernel_rfl)
   refine VC h (fun h => ?_) (fun h => ?_)
   ·refine VE ?_
    cases h
    exact zF VT
   ·obtain ⟨b28, hb28, h⟩ := zA h
    refine zCj [0, 1, 3, 7, 15, 31, 15, 79, 255, 511, 1023, 2047] 12 (cdm 12 [0, 1, 5, 21, 41045, 41301, 2645, 6741, 21845, 87381, 349525, 1398101]) (mb 95 9671406556917033397649408) [] (s1 := ⟨bt 83 (Bo b28 :: bt 11 []), []⟩) kk kk ?_ ?_
    ·refine ER 4 ?_
     refine zEj (eqI c2.1 5) (fun hc25 => ?_) (fun hc25 => ?_)
     ·have hb28 := qH hb28 hc25
      obtain ⟨y26, hy26, hb28⟩ := zA hb28
      obtain ⟨y27, hy27, hb28⟩ := zA hb28
      have hb28 := zB hb28
      refine EQ hc25 ?_
      refine EK 1 (zCl hy26) zCY ?_
      refine EK 2 (zCl hy27) zCY ?_
      refine E0 9 rfl rfl (zLL (a0 := y26.1) (b0 := y27.1) (a1 := y26.2.1) (b1 := y27.2.1) (a2 := y26.2.2) (b2 := y27.2.2) neg38 rfl kk kk) ?_
      refine EA 2 ?_
      exact YE (by rw [← hb28]; (try rw [hc25]); kernel_rfl)
     ·have hb28 := zB (z7 hb28 hc25)
      refine EQ hc25 ?_
      refine EA 8 ?_
      exact YE (by rw [← hb28]; (try rw [hc25]); kernel_rfl)
    refine VC h (fun h => ?_) (fun h => ?_)
    ·refine VE ?_
     cases h
     exact zF VT
    ·refine zH ?_
     show V _ _ _ _
     refine VE ?_
     cases h
     exact zF VT
theorem zFK : CfW Tryz.prog 110 := cfW Tryz.func110
theorem zFT {l1 : List ((ByteArray × ((Int × Int × Int))))} {name2 : ByteArray} {r : List ((ByteArray × ((Int × Int × Int))))} (h : zBP l1 name2 = some r) : zV Tryz.prog 110 [.c (.sl (l1.map c73)), .c (.v (.string name2))] (.ow 0) [(0, .arr 73 4 (r.map c73))] := by
 refine CtW [4] Tryz.func110 rfl rfl 25 ?_
 unfold zBP at h
 refine VS ?_
 refine L1 rfl rfl (zAc (e := 73) 4 (by decide) (.inl rfl)) ?_
 refine YF ?_
 refine VS ?_
 refine L1 rfl rfl (zBt Tryz.underlying43 sz73 (by decide) rfl rfl) ?_
 refine YF ?_
 refine zK ?_
 refine VS ?_
 refine YR 1 ?_
 refine L0 rfl rfl (qQ (c := c73) (xs := l1) Tryz.underlying43 rfl kk) ?_
 refine YF ?_
 obtain ⟨o6, hLo6, h⟩ := zA h
 refine zCS (mb 25 32) [64] (s1 := ⟨bt 5 (.ow 64 :: bt 19 []), [(64, .arr 73 4 (o6.map c73))]⟩) ?_ ?_
 ·clear h
  refine zN (jM (fun n s => ∃ (t3 : Int) (l4 : List ((ByteArray × ((Int × Int × Int))))), s.keep (mb 25 3618) [64] = (⟨.bot :: .c (.v (.string name2)) :: bt 3 (.ow 64 :: bt 3 (.c (.sl (l1.map c73)) :: I ((l1.length : Int)) :: I t3 :: bt 13 [])), [(64, .arr 73 4 (l4.map c73))]⟩ : St) ∧ jG l1 name2 n t3 l4 = some o6) FU ⟨_, _,  kk, hLo6⟩ ?_)
  clear hLo6
  rintro n s ⟨t3, l4, hs, h⟩
  refine jF _ _ hs ?_
  clear hs
  cases n with
  | zero => cases h
  | succ n =>
   rw [jG] at h
   refine VE ?_
   refine zK ?_
   refine VC h (fun h => ?_) (fun h => ?_)
   ·refine zH ?_
    show V _ _ _ _
    refine zK ?_
    refine zN ?_
    obtain ⟨e8, he8, h⟩ := zA h
    refine VS ?_
    refine L0 rfl rfl (zBG (c := c73) (xs := l1) (v := e8) (n := t3) Tryz.underlying43 sz73 rfl kk kk he8) ?_
    refine YF ?_
    refine VS ?_
    refine YF ?_
    refine VC h (fun h => ?_) (fun h => ?_)
    ·obtain ⟨u10, hu10, h⟩ := zA h
     refine zY ?_
     refine YR 2 ?_
     refine L1 rfl rfl (qP (z := zv73) (els := [e8].map c73) Tryz.underlying43 iz73 rfl (by decide) rfl kk rfl (by simp [c73]) (by decide) (by decide)) ?_
     refine zL rfl (zAn (c := c73) (xs := l4) (ys := [e8]) (id := 64) (z := zv73) rfl rfl Tryz.underlying43 zIc rfl kk kk kk (fun _ => rfl) (by simp) (zAK hu10) (by decide)) ?_
     refine YF ?_
     show V _ _ _ _
     obtain ⟨t11, ht11, h⟩ := zT h
     refine jC (mb 25 3618) [64] (s1 := ⟨.bot :: .c (.v (.string name2)) :: bt 3 (.ow 64 :: bt 3 (.c (.sl (l1.map c73)) :: I ((l1.length : Int)) :: I t11 :: bt 13 [])), [(64, .arr 73 4 ((l4 ++ ([e8])).map c73))]⟩) ?_ ?_
     ·refine XR 2 ?_
      refine zM ?_
      subst ht11
      kernel_rfl
     exact ⟨n, Nat.lt_succ_self n, _, _,  kk, h⟩
    ·refine zH ?_
     show V _ _ _ _
     obtain ⟨t12, ht12, h⟩ := zT h
     refine jC (mb 25 3618) [64] (s1 := ⟨.bot :: .c (.v (.string name2)) :: bt 3 (.ow 64 :: bt 3 (.c (.sl (l1.map c73)) :: I ((l1.length : Int)) :: I t12 :: bt 13 [])), [(64, .arr 73 4 (l4.map c73))]⟩) ?_ ?_
     ·refine XR 2 ?_
      refine zM ?_
      subst ht12
      kernel_rfl
     exact ⟨n, Nat.lt_succ_self n, _, _,  kk, h⟩
   ·refine jE ?_
    obtain rfl := zB h
    show St.keep _ _ _ = _
    kernel_rfl
 show V _ _ _ _
 refine VE ?_
 cases h
 exact zF VT
theorem zJF : CfW Tryz.prog 244 := cfW Tryz.func244
theorem zJV {g1 : (Int × Int × Int)} {a2 : Int} {r : (Int × Int)} (h : zC3 g1 a2 = some r) : zV Tryz.prog 244 [.ag [Ti g1.1, Ti g1.2.1, Ti g1.2.2], I a2] (.tc (I r.1) (.tc (I r.2) .tn)) [] := by
 refine CtW [4, 5] Tryz.func244 rfl rfl 43 ?_
 unfold zC3 at h
 refine VE ?_
 refine VE ?_
 obtain ⟨qo5, hLo5, hko5⟩ := zA h
 refine zFN (q := qo5) (S := fun _ => (⟨[], []⟩ : St)) [] [] ?_ ?_
 ·refine zN (jM (fun n s => ∃ (size3 : Int), s.keep (mb 43 70) [16] = (⟨.bot :: I a2 :: .pt 16 0 :: bt 3 (I size3 :: bt 36 []), [(16, .box [Ti g1.1, Ti g1.2.1, Ti g1.2.2])]⟩ : St) ∧ zAC a2 g1 n size3 = some qo5) FU ⟨_,  kk, hLo5⟩ ?_)
  clear hLo5
  rintro n s ⟨size3, hs, h⟩
  refine jF _ _ hs ?_
  clear hs
  cases n with
  | zero => cases h
  | succ n =>
   rw [zAC] at h
   refine zK ?_
   refine zN ?_
   refine VE ?_
   obtain ⟨qo8, hLo8, hko8⟩ := zA h
   refine zFN (q := qo8) (S := fun o8 => ⟨.bot :: I a2 :: .pt 16 0 :: bt 3 (I size3 :: bt 36 []), [(16, .box [Ti g1.1, Ti g1.2.1, Ti g1.2.2])]⟩) (mb 43 70) [16] ?_ ?_
   ·refine zN (jM (fun n s => ∃ (x6 : Int), s.keep (mb 43 198) [16] = (⟨.bot :: I a2 :: .pt 16 0 :: bt 3 (I size3 :: I x6 :: bt 35 []), [(16, .box [Ti g1.1, Ti g1.2.1, Ti g1.2.2])]⟩ : St) ∧ zBC a2 g1 size3 n x6 = some qo8) FU ⟨_,  kk, hLo8⟩ ?_)
    clear hLo8
    rintro n s ⟨x6, hs, h⟩
    refine jF _ _ hs ?_
    clear hs
    cases n with
    | zero => cases h
    | succ n =>
     rw [zBC] at h
     refine zK ?_
     refine VE ?_
     refine VC h (fun h => ?_) (fun h => ?_)
     ·refine zH ?_
      show V _ _ _ _
      refine zK ?_
      refine zN ?_
      refine VE ?_
      obtain ⟨qo12, hLo12, hko12⟩ := zA h
      refine zFN (q := qo12) (S := fun o12 => ⟨.bot :: I a2 :: .pt 16 0 :: bt 3 (I size3 :: I x6 :: bt 35 []), [(16, .box [Ti g1.1, Ti g1.2.1, Ti g1.2.2])]⟩) (mb 43 198) [16] ?_ ?_
      ·refine zN (jM (fun n s => ∃ (y10 : Int), s.keep (mb 43 454) [16] = (⟨.bot :: I a2 :: .pt 16 0 :: bt 3 (I size3 :: I x6 :: I y10 :: bt 34 []), [(16, .box [Ti g1.1, Ti g1.2.1, Ti g1.2.2])]⟩ : St) ∧ zAm a2 g1 size3 x6 n y10 = some qo12) FU ⟨_,  kk, hLo12⟩ ?_)
       clear hLo12
       rintro n s ⟨y10, hs, h⟩
       refine jF _ _ hs ?_
       clear hs
       cases n with
       | zero => cases h
       | succ n =>
        rw [zAm] at h
        refine zK ?_
        refine VE ?_
        refine VC h (fun h => ?_) (fun h => ?_)
        ·refine zH ?_
         show V _ _ _ _
         refine zK ?_
         refine zN ?_
         obtain ⟨b16, hb16, h⟩ := zA h
         obtain ⟨b20, hb20, h⟩ := zA h
         refine zO (mb 43 1099511628230) [16] (s1 := ⟨.bot :: I a2 :: .pt 16 0 :: bt 3 (I size3 :: I x6 :: I y10 :: bt 31 (Bo b20 :: .bot :: .bot :: [])), [(16, .box [Ti g1.1, Ti g1.2.1, Ti g1.2.2])]⟩) ?_ ?_
         ·refine YR 2 ?_
          refine L0 rfl rfl (Y0_max (a := x6) (b := y10) rfl kk kk) ?_
          refine YR 3 ?_
          refine zE (eqI (mxI x6 y10) size3) (fun hc14 => ?_) (fun hc14 => ?_)
          ·have hb16 := qH hb16 hc14
           obtain ⟨y15, hy15, hb16⟩ := zA hb16
           have hb16 := zB hb16
           refine YQ hc14 ?_
           refine YK 2 (zGe hy15) zFt ?_
           refine YR 3 ?_
           refine zE b16 (fun hc17 => ?_) (fun hc17 => ?_)
           ·have hb20 := qH hb20 hc17
            obtain ⟨y18, hy18, hb20⟩ := zA hb20
            obtain ⟨y19, hy19, hb20⟩ := zA hb20
            have hb20 := zB hb20
            refine YQ hc17 ?_ (by rw [← hb16]; (try rw [← hb20]); (try rw [hc14]); kernel_rfl)
            refine YK 3 (zFa hy18) zFS ?_
            refine YK 1 (zGe hy19) zFt ?_
            exact YE (by rw [← hb20]; (try rw [hc14]); (try rw [hc17]); kernel_rfl)
           ·have hb20 := zB (z7 hb20 hc17)
            refine YQ hc17 ?_ (by rw [← hb16]; (try rw [← hb20]); (try rw [hc14]); kernel_rfl)
            exact YE (by rw [← hb20]; (try rw [hc14]); (try rw [hc17]); kernel_rfl)
          ·have hb16 := zB (z7 hb16 hc14)
           refine YQ hc14 ?_
           refine YR 6 ?_
           subst hb16
           have hc17 : false = false := rfl
           have hb20 := zB (z7 hb20 hc17)
           exact YE (by rw [← hb20]; (try rw [hc14]); kernel_rfl)
         refine VC h (fun h => ?_) (fun h => ?_)
         ·refine VE ?_
          refine zF ?_
          obtain rfl := zB h
          have h := hko12
          obtain rfl := zB h
          have h := hko8
          obtain rfl := zB h
          have h := hko5
          obtain rfl := zB h
          exact VT
         ·refine zH ?_
          show V _ _ _ _
          obtain ⟨y22, hy22, h⟩ := zT h
          refine jC (mb 43 454) [16] (s1 := ⟨.bot :: I a2 :: .pt 16 0 :: bt 3 (I size3 :: I x6 :: I y22 :: bt 34 []), [(16, .box [Ti g1.1, Ti g1.2.1, Ti g1.2.2])]⟩) ?_ ?_
          ·refine XR 3 ?_
           refine zM ?_
           subst hy22
           kernel_rfl
          exact ⟨n, Nat.lt_succ_self n, _,  kk, h⟩
        ·refine jE ?_
         obtain rfl := zB h
         exact ⟨_, rfl, kk⟩
      rintro o12 rfl
      have h := hko12
      clear hko12
      show V _ _ _ _
      obtain ⟨x23, hx23, h⟩ := zT h
      refine jC (mb 43 198) [16] (s1 := ⟨.bot :: I a2 :: .pt 16 0 :: bt 3 (I size3 :: I x23 :: bt 35 []), [(16, .box [Ti g1.1, Ti g1.2.1, Ti g1.2.2])]⟩) ?_ ?_
      ·refine XR 3 ?_
       refine zM ?_
       subst hx23
       kernel_rfl
      exact ⟨n, Nat.lt_succ_self n, _,  kk, h⟩
     ·refine jE ?_
      obtain rfl := zB h
      exact ⟨_, rfl, kk⟩
   rintro o8 rfl
   have h := hko8
   clear hko8
   show V _ _ _ _
   obtain ⟨size24, hsize24, h⟩ := zT h
   refine jC (mb 43 70) [16] (s1 := ⟨.bot :: I a2 :: .pt 16 0 :: bt 3 (I size24 :: bt 36 []), [(16, .box [Ti g1.1, Ti g1.2.1, Ti g1.2.2])]⟩) ?_ ?_
   ·refine XR 3 ?_
    refine zM ?_
    subst hsize24
    kernel_rfl
   exact ⟨n, Nat.lt_succ_self n, _,  kk, h⟩
 rintro o5 rfl
 cases hko5
theorem zKu : CfW Tryz.prog 280 := cfW Tryz.func280
theorem zLX {a1 : Int} {vm2 : Int} {r : Int} (h : zD9 a1 vm2 = some r) : zV Tryz.prog 280 [I a1, I vm2] (I r) [] := by
 refine CtW [4] Tryz.func280 rfl rfl 34 ?_
 unfold zD9 at h
 refine VE ?_
 refine VE ?_
 refine zK ?_
 obtain ⟨y3, hy3, h⟩ := zA h
 refine VS ?_
 refine YK 2 (zEq hy3) zEV ?_
 refine YF ?_
 obtain ⟨o9, hLo9, h⟩ := zA h
 refine zCS (mb 34 34) [] (s1 := ⟨.bot :: I vm2 :: bt 3 (I o9 :: bt 28 []), []⟩) ?_ ?_
 ·clear h
  refine zN (jM (fun n s => ∃ (x4 : Int) (y5 : Int) (vr6 : Int) (vs7 : Int), s.keep (mb 34 482) [] = (⟨.bot :: I vm2 :: bt 3 (I x4 :: I y5 :: I vr6 :: I vs7 :: bt 25 []), []⟩ : St) ∧ zD0 vm2 n x4 y5 vr6 vs7 = some o9) FU ⟨_, _, _, _,  kk, hLo9⟩ ?_)
  clear hLo9
  rintro n s ⟨x4, y5, vr6, vs7, hs, h⟩
  refine jF _ _ hs ?_
  clear hs
  cases n with
  | zero => cases h
  | succ n =>
   rw [zD0] at h
   refine zK ?_
   refine VE ?_
   refine VC h (fun h => ?_) (fun h => ?_)
   ·refine zH ?_
    show V _ _ _ _
    refine zN ?_
    obtain ⟨z11, hz11, h⟩ := zA h
    obtain ⟨q12, hq12, h⟩ := zT h
    refine zO (mb 34 994) [] (s1 := ⟨.bot :: I vm2 :: bt 3 (I x4 :: I y5 :: I vr6 :: I vs7 :: I q12 :: bt 24 []), []⟩) ?_ ?_
    ·refine XR 2 ?_
     refine L0 rfl rfl (zAJ (a := vr6) (b := vs7) rfl kk kk (zAA hz11)) ?_
     refine XR 1 ?_
     refine zM ?_
     subst hq12
     kernel_rfl
    obtain ⟨vs13, hvs13, h⟩ := zT h
    refine zO (mb 34 994) [] (s1 := ⟨.bot :: I vm2 :: bt 3 (I x4 :: I y5 :: I vs7 :: I vs13 :: I q12 :: bt 24 []), []⟩) ?_ ?_
    ·refine XR 8 ?_
     refine zM ?_
     subst hvs13
     kernel_rfl
    obtain ⟨y14, hy14, h⟩ := zT h
    refine jC (mb 34 482) [] (s1 := ⟨.bot :: I vm2 :: bt 3 (I y5 :: I y14 :: I vs7 :: I vs13 :: bt 25 []), []⟩) ?_ ?_
    ·refine XR 8 ?_
     refine zM ?_
     subst hy14
     kernel_rfl
    exact ⟨n, Nat.lt_succ_self n, _, _, _, _,  kk, h⟩
   ·refine jE ?_
    obtain rfl := zB h
    show St.keep _ _ _ = _
    kernel_rfl
 show V _ _ _ _
 obtain ⟨y15, hy15, h⟩ := zA h
 refine VS ?_
 refine YK 2 (zEq hy15) zEV ?_
 refine YF ?_
 cases h
 exact zF VT
theorem zHQ : CfW Tryz.prog 245 := cfW Tryz.func245
theorem zH5 {f1 : (Int × Int × Int)} {x2 : Int} {y3 : Int} {r : (((Int × Int × Int)) × ((Int × Int × Int × Int)))} (h : zBE f1 x2 y3 = some r) : zV Tryz.prog 245 [.ag [Ti f1.1, Ti f1.2.1, Ti f1.2.2], I x2, I y3] (.tc (.ag [Ti r.1.1, Ti r.1.2.1, Ti r.1.2.2]) (.tc (.ag [Ti r.2.1, Ti r.2.2.1, Ti r.2.2.2.1, Ti r.2.2.2.2]) .tn)) [] := by
 refine zZ (rs := [.w 6 3, .w 7 4]) (vs := [.cell 6 38, .cell 7 109]) Tryz.func245 rfl rfl (.cons ⟨rfl, wd38⟩ (.cons ⟨rfl, zGJ⟩ FitsL.nil)) (by decide) 59 rfl ?_
 unfold zBE at h
 refine VE ?_
 refine VS ?_
 refine YR 2 ?_
 refine L0 rfl rfl (zW (cs := [Ti x2, Ti 0, Ti y3, Ti 0]) zE7 zEo rfl rfl kk) ?_
 refine YF ?_
 obtain ⟨j4, hj4, h⟩ := zA h
 refine zCw (mb 59 462) [64, 56, 48, 24] (s1 := ⟨.bot :: I x2 :: I y3 :: .pt 24 0 :: .bot :: .bot :: .pt 48 0 :: .pt 56 0 :: .pt 64 0 :: bt 50 [], [(64, .box [Ti x2, Ti j4.1, Ti y3, Ti j4.2]), (56, .box [Ti 0, Ti 0, Ti 0, Ti 0]), (48, .box [Ti 0, Ti 0, Ti 0]), (24, .box [Ti f1.1, Ti f1.2.1, Ti f1.2.2])]⟩) ?_ ?_
 ·clear h
  have h := hj4
  clear hj4
  refine VE ?_
  refine VC h (fun h => ?_) (fun h => ?_)
  ·refine zY ?_
   refine YF ?_
   obtain rfl := zB h
   show St.keep _ _ _ = _
   kernel_rfl
  ·obtain ⟨y6, hy6, h⟩ := zA h
   obtain ⟨y7, hy7, h⟩ := zA h
   refine VS ?_
   refine YK 2 (zLZ hy6) zKe ?_
   refine YK 0 (zLX hy7) zKu ?_
   refine YF ?_
   obtain ⟨z8, hz8, h⟩ := zA h
   obtain ⟨f9, hf9, h⟩ := zT h
   refine jC (mb 59 462) [64, 56, 48, 24] (s1 := ⟨.bot :: I x2 :: I y3 :: .pt 24 0 :: .bot :: .bot :: .pt 48 0 :: .pt 56 0 :: .pt 64 0 :: bt 50 [], [(64, .box [Ti x2, Ti f9, Ti y3, Ti y7]), (56, .box [Ti 0, Ti 0, Ti 0, Ti 0]), (48, .box [Ti 0, Ti 0, Ti 0]), (24, .box [Ti f1.1, Ti f1.2.1, Ti f1.2.2])]⟩) ?_ ?_
   ·refine XR 6 ?_
    refine L0 rfl rfl (zAJ (a := w64 ((w64 (x2 * y7)) - 1)) (b := y3) rfl kk kk (zAA hz8)) ?_
    refine XR 2 ?_
    refine zM ?_
    subst hf9
    kernel_rfl
   obtain rfl := zB h
   show St.keep _ _ _ = _
   kernel_rfl
 obtain ⟨y10, hy10, h⟩ := zA h
 refine VS ?_
 refine YK 2 (zDB hy10) zCt ?_
 refine YF ?_
 obtain ⟨y11, hy11, h⟩ := zA h
 obtain ⟨t12, ht12, h⟩ := zT h
 refine zO (mb 59 1486) [64, 56, 48, 24] (s1 := ⟨.bot :: I x2 :: I y3 :: .pt 24 0 :: .bot :: .bot :: .pt 48 0 :: .pt 56 0 :: .pt 64 0 :: .bot :: I t12 :: bt 48 [], [(64, .box [Ti x2, Ti j4.1, Ti y3, Ti j4.2]), (56, .box [Ti 0, Ti 0, Ti 0, Ti 0]), (48, .box [Ti 0, Ti 0, Ti 0]), (24, .box [Ti f1.1, Ti f1.2.1, Ti f1.2.2])]⟩) ?_ ?_
 ·refine XR 5 ?_
  refine XC (zGz hy11) zGZ rfl rfl rfl ?_
  refine XR 2 ?_
  refine zM ?_
  subst ht12
  kernel_rfl
 obtain ⟨f13, hf13, h⟩ := zT h
 refine zO (mb 59 1484) [64, 56, 48, 24] (s1 := ⟨.bot :: .bot :: I y3 :: .pt 24 0 :: .bot :: .bot :: .pt 48 0 :: .pt 56 0 :: .pt 64 0 :: .bot :: I t12 :: bt 48 [], [(64, .box [Ti x2, Ti f13, Ti y3, Ti j4.2]), (56, .box [Ti 0, Ti 0, Ti 0, Ti 0]), (48, .box [Ti 0, Ti 0, Ti 0]), (24, .box [Ti f1.1, Ti f1.2.1, Ti f1.2.2])]⟩) ?_ ?_
 ·refine XR 8 ?_
  refine zM ?_
  subst hf13
  kernel_rfl
 obtain ⟨f14, hf14, h⟩ := zT h
 refine zO (mb 59 456) [64, 56, 48, 24] (s1 := ⟨bt 3 (.pt 24 0 :: .bot :: .bot :: .pt 48 0 :: .pt 56 0 :: .pt 64 0 :: bt 50 []), [(64, .box [Ti x2, Ti f13, Ti y3, Ti f14]), (56, .box [Ti 0, Ti 0, Ti 0, Ti 0]), (48, .box [Ti 0, Ti 0, Ti 0]), (24, .box [Ti f1.1, Ti f1.2.1, Ti f1.2.2])]⟩) ?_ ?_
 ·refine XR 8 ?_
  refine zM ?_
  subst hf14
  kernel_rfl
 obtain ⟨y15, hy15, h⟩ := zA h
 refine VDS [0, 0, 3, 0, 7, 31] 5 [[.z, .b, .z, .b, .z], [.b, .z, .z, .b, .z], [.a, .a, .z, .b, .z], [.b, .b, .b, .z, .r 48], [.a, .a, .a, .b, .z]] ?_
 refine EK 2 (zDB hy15) zCt ?_
 refine EF 2 ?_
 cases h
 exact zF VT
theorem cf_impl_unite : CfW Tryz.prog 191 := cfW Tryz.func191
theorem s_impl_unite {f1 : (Int × Int × Int)} {g2 : (Int × Int × Int)} {r : (Int × Int × Int × Int × ((Int × Int × Int × Int)) × ((Int × Int × Int × Int)))} (h : zDI f1 g2 = some r) : zV Tryz.prog 191 [.ag [Ti f1.1, Ti f1.2.1, Ti f1.2.2], .ag [Ti g2.1, Ti g2.2.1, Ti g2.2.2]] (.ag [Ti r.1, Ti r.2.1, Ti r.2.2.1, Ti r.2.2.2.1, Ti r.2.2.2.2.1.1, Ti r.2.2.2.2.1.2.1, Ti r.2.2.2.2.1.2.2.1, Ti r.2.2.2.2.1.2.2.2, Ti r.2.2.2.2.2.1, Ti r.2.2.2.2.2.2.1, Ti r.2.2.2.2.2.2.2.1, Ti r.2.2.2.2.2.2.2.2]) [] := by
 refine zZ (rs := [.w 4 12]) (vs := [.cell 4 178]) Tryz.func191 rfl rfl (.cons ⟨rfl, wd178⟩ FitsL.nil) (by decide) 103 rfl ?_
 unfold zDI at h
 refine VE ?_
 obtain ⟨y3, hy3, h⟩ := zA h
 refine VS ?_
 refine YK 3 (zJV hy3) zJF ?_
 refine YF ?_
 obtain ⟨y4, hy4, h⟩ := zA h
 refine VS ?_
 refine YK 3 (zH5 hy4) zHQ ?_
 refine YF ?_
 obtain ⟨y5, hy5, h⟩ := zA h
 refine VDS [0, 1, 0, 4, 0, 16, 0, 64, 192, 496, 1023, 0, 4095] 12 (cdm 12 [9087648, 9087649, 9087498, 9087514, 8560810, 8561066, 8391338, 8395434, 8411818, 8476074, 8738133, 2796202]) ?_
 refine EK 9 (zEq hy5) zEV ?_
 refine E0 10 rfl rfl (zW (cs := [Ti f1.1, Ti y4.1.1, Ti y5, Ti 0, Ti 0, Ti 0, Ti 0, Ti 0, Ti 0, Ti 0, Ti 0, Ti 0]) pl178 bt178 rfl rfl kk) ?_
 refine EF 1 ?_
 refine zK ?_
 obtain ⟨o8, hLo8, h⟩ := zA h
 refine zCS (mb 103 916) [72, 64, 56, 32, 16] (s1 := ⟨.bot :: .bot :: .pt 16 0 :: .bot :: .pt 32 0 :: .bot :: .bot :: .pt 56 0 :: .pt 64 0 :: .pt 72 0 :: bt 93 [], [(72, .box [Ti f1.1, Ti y4.1.1, Ti o8, Ti 0, Ti 0, Ti 0, Ti 0, Ti 0, Ti 0, Ti 0, Ti 0, Ti 0]), (64, .box [Ti y4.2.1, Ti y4.2.2.1, Ti y4.2.2.2.1, Ti y4.2.2.2.2]), (56, .box [Ti y4.1.1, Ti y4.1.2.1, Ti y4.1.2.2]), (32, .box [Ti 0, Ti 0, Ti 0, Ti 0, Ti 0, Ti 0, Ti 0, Ti 0, Ti 0, Ti 0, Ti 0, Ti 0]), (16, .box [Ti f1.1, Ti f1.2.1, Ti f1.2.2])]⟩) ?_ ?_
 ·clear h
  refine zN (jM (fun n s => ∃ (f6 : Int), s.keep (mb 103 916) [72, 64, 56, 32, 16] = (⟨.bot :: .bot :: .pt 16 0 :: .bot :: .pt 32 0 :: .bot :: .bot :: .pt 56 0 :: .pt 64 0 :: .pt 72 0 :: bt 93 [], [(72, .box [Ti f1.1, Ti y4.1.1, Ti f6, Ti 0, Ti 0, Ti 0, Ti 0, Ti 0, Ti 0, Ti 0, Ti 0, Ti 0]), (64, .box [Ti y4.2.1, Ti y4.2.2.1, Ti y4.2.2.2.1, Ti y4.2.2.2.2]), (56, .box [Ti y4.1.1, Ti y4.1.2.1, Ti y4.1.2.2]), (32, .box [Ti 0, Ti 0, Ti 0, Ti 0, Ti 0, Ti 0, Ti 0, Ti 0, Ti 0, Ti 0, Ti 0, Ti 0]), (16, .box [Ti f1.1, Ti f1.2.1, Ti f1.2.2])]⟩ : St) ∧ zCW f1 y4 n f6 = some o8) FU ⟨_,  kk, hLo8⟩ ?_)
  clear hLo8
  rintro n s ⟨f6, hs, h⟩
  refine jF _ _ hs ?_
  clear hs
  cases n with
  | zero => cases h
  | succ n =>
   rw [zCW] at h
   refine zK ?_
   obtain ⟨y9, hy9, h⟩ := zA h
   refine VS ?_
   refine YK 8 (zEq hy9) zEV ?_
   refine YF ?_
   refine VC h (fun h => ?_) (fun h => ?_)
   ·refine zH ?_
    show V _ _ _ _
    refine zN ?_
    obtain ⟨f11, hf11, h⟩ := zT h
    refine jC (mb 103 916) [72, 64, 56, 32, 16] (s1 := ⟨.bot :: .bot :: .pt 16 0 :: .bot :: .pt 32 0 :: .bot :: .bot :: .pt 56 0 :: .pt 64 0 :: .pt 72 0 :: bt 93 [], [(72, .box [Ti f1.1, Ti y4.1.1, Ti f11, Ti 0, Ti 0, Ti 0, Ti 0, Ti 0, Ti 0, Ti 0, Ti 0, Ti 0]), (64, .box [Ti y4.2.1, Ti y4.2.2.1, Ti y4.2.2.2.1, Ti y4.2.2.2.2]), (56, .box [Ti y4.1.1, Ti y4.1.2.1, Ti y4.1.2.2]), (32, .box [Ti 0, Ti 0, Ti 0, Ti 0, Ti 0, Ti 0, Ti 0, Ti 0, Ti 0, Ti 0, Ti 0, Ti 0]), (16, .box [Ti f1.1, Ti f1.2.1, Ti f1.2.2])]⟩) ?_ ?_
    ·refine XR 8 ?_
     refine zM ?_
     subst hf11
     kernel_rfl
    exact ⟨n, Nat.lt_succ_self n, _,  kk, h⟩
   ·refine jE ?_
    obtain rfl := zB h
    show St.keep _ _ _ = _
    kernel_rfl
 show V _ _ _ _
 obtain ⟨y12, hy12, h⟩ := zA h
 refine VS ?_
 refine YK 8 (zEq hy12) zEV ?_
 refine YF ?_
 obtain ⟨y13, hy13, h⟩ := zA h
 obtain ⟨z14, hz14, h⟩ := zA h
 obtain ⟨f15, hf15, h⟩ := zT h
 refine zCj [0, 1, 0, 4, 15, 0, 32, 127, 0, 256, 768, 0, 2048, 7936, 16383, 32767, 65535] 16 (cdm 16 [178923680, 178923681, 178923530, 178923546, 178923605, 178913962, 178914986, 178918741, 41986730, 42052266, 42314410, 2796202, 6990506, 22391466, 89478485, 357913941]) (mb 103 916) [72, 64, 56, 32, 16] (s1 := ⟨.bot :: .bot :: .pt 16 0 :: .bot :: .pt 32 0 :: .bot :: .bot :: .pt 56 0 :: .pt 64 0 :: .pt 72 0 :: bt 93 [], [(72, .box [Ti f1.1, Ti y4.1.1, Ti y12, Ti f15, Ti 0, Ti 0, Ti 0, Ti 0, Ti 0, Ti 0, Ti 0, Ti 0]), (64, .box [Ti y4.2.1, Ti y4.2.2.1, Ti y4.2.2.2.1, Ti y4.2.2.2.2]), (56, .box [Ti y4.1.1, Ti y4.1.2.1, Ti y4.1.2.2]), (32, .box [Ti 0, Ti 0, Ti 0, Ti 0, Ti 0, Ti 0, Ti 0, Ti 0, Ti 0, Ti 0, Ti 0, Ti 0]), (16, .box [Ti f1.1, Ti f1.2.1, Ti f1.2.2])]⟩) kk kk ?_ ?_
 ·refine DR 6 ?_
  refine DC 6 (zCm hy13) zC8 rfl rfl rfl rfl 68 rfl ?_
  refine DR 7 ?_
  refine DE_0 14 (I (w64 (Int.tdiv (w64 ((w64 (y12 * y12)) - y13)) (w64 ((w64 (4 * f1.1)) * y4.1.1))))) kk rfl rfl rfl (qS rfl) kk (zAJ (a := w64 ((w64 (y12 * y12)) - y13)) (b := w64 ((w64 (4 * f1.1)) * y4.1.1)) rfl kk kk (zAA hz14)) 76 rfl ?_
  refine DA 1 ?_
  refine XR 1 ?_
  refine zM ?_
  subst hf15
  kernel_rfl
 obtain ⟨z16, hz16, h⟩ := zA h
 obtain ⟨f17, hf17, h⟩ := zT h
 refine zO (mb 103 912) [72, 64, 56, 32] (s1 := ⟨bt 4 (.pt 32 0 :: .bot :: .bot :: .pt 56 0 :: .pt 64 0 :: .pt 72 0 :: bt 93 []), [(72, .box [Ti f1.1, Ti y4.1.1, Ti y12, Ti f15, Ti 1, Ti f17, Ti 0, Ti 1, Ti 0, Ti 0, Ti 0, Ti 0]), (64, .box [Ti y4.2.1, Ti y4.2.2.1, Ti y4.2.2.2.1, Ti y4.2.2.2.2]), (56, .box [Ti y4.1.1, Ti y4.1.2.1, Ti y4.1.2.2]), (32, .box [Ti 0, Ti 0, Ti 0, Ti 0, Ti 0, Ti 0, Ti 0, Ti 0, Ti 0, Ti 0, Ti 0, Ti 0])]⟩) ?_ ?_
 ·refine XR 8 ?_
  refine L0 rfl rfl (zAJ (a := w64 (y12 - f1.2.1)) (b := w64 (2 * f1.1)) rfl kk kk (zAA hz16)) ?_
  refine L0 rfl rfl (zW (cs := [Ti 1, Ti (w64 (Int.tdiv (w64 (y12 - f1.2.1)) (w64 (2 * f1.1)))), Ti 0, Ti 1]) zE7 zEo rfl rfl kk) ?_
  refine XR 2 ?_
  refine zM ?_
  subst hf17
  kernel_rfl
 obtain ⟨z18, hz18, h⟩ := zA h
 obtain ⟨y19, hy19, h⟩ := zA h
 refine VDS [0, 0, 2, 0, 8, 30, 0, 64, 192, 510, 1022, 2047, 4095, 8191] 13 (cdm 13 [2796200, 172674, 172678, 172074, 172138, 172374, 2730, 6826, 23210, 87382, 349526, 1398101, 5592405]) ?_
 refine ER 9 ?_
 refine E0 9 rfl rfl (zAJ (a := w64 (y12 - y4.1.2.1)) (b := w64 (2 * y4.1.1)) rfl kk kk (zAA hz18)) ?_
 refine E0 10 rfl rfl (zW (cs := [Ti 1, Ti (w64 (Int.tdiv (w64 (y12 - y4.1.2.1)) (w64 (2 * y4.1.1)))), Ti 0, Ti 1]) zE7 zEo rfl rfl kk) ?_
 refine EK 0 (zFU hy19) zFL ?_
 refine EF 1 ?_
 refine VE ?_
 cases h
 exact zF VT
theorem zGI : CfW Tryz.prog 192 := cfW Tryz.func192
theorem zGP {u1 : (Int × Int × Int × Int × ((Int × Int × Int × Int)) × ((Int × Int × Int × Int)))} {r : (Int × Int × Int)} (h : zBl u1 = some r) : zV Tryz.prog 192 [.ag [Ti u1.1, Ti u1.2.1, Ti u1.2.2.1, Ti u1.2.2.2.1, Ti u1.2.2.2.2.1.1, Ti u1.2.2.2.2.1.2.1, Ti u1.2.2.2.2.1.2.2.1, Ti u1.2.2.2.2.1.2.2.2, Ti u1.2.2.2.2.2.1, Ti u1.2.2.2.2.2.2.1, Ti u1.2.2.2.2.2.2.2.1, Ti u1.2.2.2.2.2.2.2.2]] (.ag [Ti r.1, Ti r.2.1, Ti r.2.2]) [] := by
 refine zZ (rs := [.w 2 3]) (vs := [.cell 2 38]) Tryz.func192 rfl rfl (.cons ⟨rfl, wd38⟩ FitsL.nil) (by decide) 13 rfl ?_
 unfold zBl at h
 refine VE ?_
 obtain ⟨f2, hf2, h⟩ := zT h
 refine zO (mb 13 4) [16] (s1 := ⟨.bot :: .bot :: .pt 16 0 :: bt 10 [], [(16, .box [Ti f2, Ti u1.2.2.1, Ti u1.2.2.2.1])]⟩) ?_ ?_
 ·refine XR 9 ?_
  refine L0 rfl rfl (zW (cs := [Ti (w64 (u1.1 * u1.2.1)), Ti u1.2.2.1, Ti u1.2.2.2.1]) pl38 bt38 rfl rfl kk) ?_
  refine XR 1 ?_
  refine zM ?_
  subst hf2
  kernel_rfl
 cases h
 exact zF VT
theorem zKv : CfW Tryz.prog 111 := cfW Tryz.func111
theorem zLY {f1 : (Int × Int × Int)} {g2 : (Int × Int × Int)} {r : (Int × Int × Int)} (h : zCr f1 g2 = some r) : zV Tryz.prog 111 [.ag [Ti f1.1, Ti f1.2.1, Ti f1.2.2], .ag [Ti g2.1, Ti g2.2.1, Ti g2.2.2]] (.ag [Ti r.1, Ti r.2.1, Ti r.2.2]) [] := by
 refine zZ (rs := [.w 4 3]) (vs := [.cell 4 38]) Tryz.func111 rfl rfl (.cons ⟨rfl, wd38⟩ FitsL.nil) (by decide) 12 rfl ?_
 unfold zCr at h
 refine VE ?_
 obtain ⟨y3, hy3, h⟩ := zA h
 obtain ⟨y4, hy4, h⟩ := zA h
 obtain ⟨y5, hy5, h⟩ := zA h
 obtain ⟨y6, hy6, h⟩ := zA h
 obtain ⟨y7, hy7, h⟩ := zA h
 refine VDS [0, 1, 0, 7, 15, 31, 63, 127] 7 (cdm 7 [32, 33, 10, 21, 85, 341, 1365]) ?_
 refine EK 1 (zCl hy3) zCY ?_
 refine EK 1 (zCl hy4) zCY ?_
 refine EK 0 (s_impl_unite hy5) cf_impl_unite ?_
 refine EK 0 (zGP hy6) zGI ?_
 refine EK 0 (zCl hy7) zCY ?_
 refine EF 0 ?_
 cases h
 exact zF VT
theorem zHP : CfW Tryz.prog 113 := cfW Tryz.func113
theorem zH4 {f1 : (Int × Int × Int)} {r : (Int × Int × Int)} (h : zAE f1 = some r) : zV Tryz.prog 113 [.ag [Ti f1.1, Ti f1.2.1, Ti f1.2.2]] (.ag [Ti r.1, Ti r.2.1, Ti r.2.2]) [] := by
 refine zZ (rs := [.w 2 3]) (vs := [.cell 2 38]) Tryz.func113 rfl rfl (.cons ⟨rfl, wd38⟩ FitsL.nil) (by decide) 11 rfl ?_
 unfold zAE at h
 refine VE ?_
 obtain ⟨f2, hf2, h⟩ := zT h
 refine zO (mb 11 4) [16] (s1 := ⟨.bot :: .bot :: .pt 16 0 :: bt 8 [], [(16, .box [Ti f1.1, Ti f2, Ti f1.2.2])]⟩) ?_ ?_
 ·refine XR 7 ?_
  refine L0 rfl rfl (zW (cs := [Ti f1.1, Ti (w64 (0 - f1.2.1)), Ti f1.2.2]) pl38 bt38 rfl rfl kk) ?_
  refine XR 1 ?_
  refine zM ?_
  subst hf2
  kernel_rfl
 cases h
 exact zF VT
theorem zJl : CfW Tryz.prog 114 := cfW Tryz.func114
theorem zJw {l1 : List ((ByteArray × ((Int × Int × Int))))} {name2 : ByteArray} {f3 : (Int × Int × Int)} {r : List ((ByteArray × ((Int × Int × Int))))} (h : zCJ l1 name2 f3 = some r) : zV Tryz.prog 114 [.c (.sl (l1.map c73)), .c (.v (.string name2)), .ag [Ti f3.1, Ti f3.2.1, Ti f3.2.2]] (.ow 0) [(0, .arr 73 4 (r.map c73))] := by
 refine CtW [6] Tryz.func114 rfl rfl 48 ?_
 unfold zCJ at h
 refine VS ?_
 refine YR 1 ?_
 refine L1 rfl rfl (zAc (e := 73) 4 (by decide) (.inl rfl)) ?_
 refine YF ?_
 refine VS ?_
 refine L1 rfl rfl (zBt Tryz.underlying43 sz73 (by decide) rfl rfl) ?_
 refine YF ?_
 refine VE ?_
 refine zK ?_
 obtain ⟨y4, hy4, h⟩ := zA h
 refine VS ?_
 refine YK 2 (zFT hy4) zFK ?_
 refine L0 rfl rfl (qQ (c := c73) (xs := y4) Tryz.underlying43 rfl kk) ?_
 refine YF ?_
 obtain ⟨o9, hLo9, h⟩ := zA h
 refine zCS (mb 48 418) [88, 40] (s1 := ⟨.bot :: .c (.v (.string name2)) :: bt 3 (.pt 40 0 :: .bot :: .ow 88 :: Bo o9.1 :: bt 39 []), [(88, .arr 73 4 (o9.2.map c73)), (40, .box [Ti f3.1, Ti f3.2.1, Ti f3.2.2])]⟩) ?_ ?_
 ·clear h
  refine zN (jM (fun n s => ∃ (done5 : Bool) (t6 : Int) (l7 : List ((ByteArray × ((Int × Int × Int))))), s.keep (mb 48 115106) [112, 88, 40] = (⟨.bot :: .c (.v (.string name2)) :: bt 3 (.pt 40 0 :: .bot :: .ow 88 :: Bo done5 :: bt 5 (.ow 112 :: I ((y4.length : Int)) :: I t6 :: bt 31 [])), [(112, .arr 73 4 (y4.map c73)), (88, .arr 73 4 (l7.map c73)), (40, .box [Ti f3.1, Ti f3.2.1, Ti f3.2.2])]⟩ : St) ∧ jW f3 name2 y4 n done5 t6 l7 = some o9) FU ⟨_, _, _,  kk, hLo9⟩ ?_)
  clear hLo9
  rintro n s ⟨done5, t6, l7, hs, h⟩
  refine jF _ _ hs ?_
  clear hs
  cases n with
  | zero => cases h
  | succ n =>
   rw [jW] at h
   refine VE ?_
   refine zK ?_
   refine VC h (fun h => ?_) (fun h => ?_)
   ·refine zH ?_
    show V _ _ _ _
    refine zK ?_
    refine zN ?_
    obtain ⟨e11, he11, h⟩ := zA h
    obtain ⟨e12, he12, h⟩ := zA h
    refine VS ?_
    refine L0 rfl rfl (zAV (c := c73) (xs := y4) (v := e11) (id := 112) (T := 73) (sz := 4) (n := t6) Tryz.underlying43 sz73 rfl kk kk kk he11) ?_
    refine L0 rfl rfl (zIG (c := c73) (xs := y4) (v := e12) (id := 112) (sz := 4) (T := 73) (off := 0) (n := t6) [.v (.string e12.1), Ti e12.2.1, Ti e12.2.2.1, Ti e12.2.2.2] wd73 rfl kk kk he12 (Nat.le_of_ble_eq_true rfl) kk) ?_
    refine YF ?_
    refine zK ?_
    obtain ⟨t14, ht14, h⟩ := zA h
    have ht14 := zB ht14
    refine zO (mb 48 134333858) [80, 112, 88, 40] (s1 := ⟨.bot :: .c (.v (.string name2)) :: bt 3 (.pt 40 0 :: .bot :: .ow 88 :: Bo done5 :: .bot :: .pt 80 0 :: bt 3 (.ow 112 :: I ((y4.length : Int)) :: I t6 :: bt 10 (Bo t14 :: bt 20 []))), [(80, .box [.v (.string e12.1), Ti e12.2.1, Ti e12.2.2.1, Ti e12.2.2.2]), (112, .arr 73 4 (y4.map c73)), (88, .arr 73 4 (l7.map c73)), (40, .box [Ti f3.1, Ti f3.2.1, Ti f3.2.2])]⟩) ?_ ?_
    ·refine YR 3 ?_
     refine zE (!done5) (fun hc13 => ?_) (fun hc13 => ?_)
     ·refine YQ hc13 ?_
      refine YR 3 ?_
      refine YT (qB rfl (Y0_lts (a := name2) (b := e12.1) rfl kk kk)) ?_
      exact YE (by rw [← ht14]; (try rw [hc13]); kernel_rfl)
     ·refine YQ hc13 ?_
      exact YE (by rw [← ht14]; (try rw [hc13]); kernel_rfl)
    refine VC h (fun h => ?_) (fun h => ?_)
    ·obtain ⟨u16, hu16, h⟩ := zA h
     refine VS ?_
     refine YR 3 ?_
     refine L0 rfl rfl (zW (cs := [.v (.string name2), Ti f3.1, Ti f3.2.1, Ti f3.2.2]) pl73 bt73 rfl rfl kk) ?_
     refine L1 rfl rfl (qP (z := zv73) (els := [(name2, f3)].map c73) Tryz.underlying43 iz73 rfl (by decide) rfl kk rfl (by simp [c73]) (by decide) (by decide)) ?_
     refine zL rfl (zAn (c := c73) (xs := l7) (ys := [(name2, f3)]) (id := 88) (z := zv73) rfl rfl Tryz.underlying43 zIc rfl kk kk kk (fun _ => rfl) (by simp) (zAK hu16) (by decide)) ?_
     refine YF ?_
     refine zY ?_
     refine YF ?_
     show V _ _ _ _
     obtain ⟨u17, hu17, h⟩ := zA h
     refine zY ?_
     refine YR 2 ?_
     refine L1 rfl rfl (qP (z := zv73) (els := [e12].map c73) Tryz.underlying43 iz73 rfl (by decide) rfl kk rfl (by simp [c73]) (by decide) (by decide)) ?_
     refine zL rfl (zAn (c := c73) (xs := l7 ++ ([(name2, f3)])) (ys := [e12]) (id := 88) (z := zv73) rfl rfl Tryz.underlying43 zIc rfl kk kk kk (fun _ => rfl) (by simp) (zAK hu17) (by decide)) ?_
     refine YF ?_
     show V _ _ _ _
     obtain ⟨t18, ht18, h⟩ := zT h
     refine jC (mb 48 115106) [112, 88, 40] (s1 := ⟨.bot :: .c (.v (.string name2)) :: bt 3 (.pt 40 0 :: .bot :: .ow 88 :: Bo true :: bt 5 (.ow 112 :: I ((y4.length : Int)) :: I t18 :: bt 31 [])), [(112, .arr 73 4 (y4.map c73)), (88, .arr 73 4 (((l7 ++ ([(name2, f3)])) ++ ([e12])).map c73)), (40, .box [Ti f3.1, Ti f3.2.1, Ti f3.2.2])]⟩) ?_ ?_
     ·refine XR 2 ?_
      refine zM ?_
      subst ht18
      kernel_rfl
     exact ⟨n, Nat.lt_succ_self n, _, _, _,  kk, h⟩
    ·refine zH ?_
     show V _ _ _ _
     obtain ⟨u19, hu19, h⟩ := zA h
     refine zY ?_
     refine YR 2 ?_
     refine L1 rfl rfl (qP (z := zv73) (els := [e12].map c73) Tryz.underlying43 iz73 rfl (by decide) rfl kk rfl (by simp [c73]) (by decide) (by decide)) ?_
     refine zL rfl (zAn (c := c73) (xs := l7) (ys := [e12]) (id := 88) (z := zv73) rfl rfl Tryz.underlying43 zIc rfl kk kk kk (fun _ => rfl) (by simp) (zAK hu19) (by decide)) ?_
     refine YF ?_
     show V _ _ _ _
     obtain ⟨t20, ht20, h⟩ := zT h
     refine jC (mb 48 115106) [112, 88, 40] (s1 := ⟨.bot :: .c (.v (.string name2)) :: bt 3 (.pt 40 0 :: .bot :: .ow 88 :: Bo done5 :: bt 5 (.ow 112 :: I ((y4.length : Int)) :: I t20 :: bt 31 [])), [(112, .arr 73 4 (y4.map c73)), (88, .arr 73 4 ((l7 ++ ([e12])).map c73)), (40, .box [Ti f3.1, Ti f3.2.1, Ti f3.2.2])]⟩) ?_ ?_
     ·refine XR 2 ?_
      refine zM ?_
      subst ht20
      kernel_rfl
     exact ⟨n, Nat.lt_succ_self n, _, _, _,  kk, h⟩
   ·refine jE ?_
    obtain rfl := zB h
    show St.keep _ _ _ = _
    kernel_rfl
 show V _ _ _ _
 refine zK ?_
 refine VE ?_
 refine VC h (fun h => ?_) (fun h => ?_)
 ·obtain ⟨u22, hu22, h⟩ := zA h
  refine zY ?_
  refine YR 3 ?_
  refine L0 rfl rfl (zW (cs := [.v (.string name2), Ti f3.1, Ti f3.2.1, Ti f3.2.2]) pl73 bt73 rfl rfl kk) ?_
  refine L1 rfl rfl (qP (z := zv73) (els := [(name2, f3)].map c73) Tryz.underlying43 iz73 rfl (by decide) rfl kk rfl (by simp [c73]) (by decide) (by decide)) ?_
  refine zL rfl (zAn (c := c73) (xs := o9.2) (ys := [(name2, f3)]) (id := 88) (z := zv73) rfl rfl Tryz.underlying43 zIc rfl kk kk kk (fun _ => rfl) (by simp) (zAK hu22) (by decide)) ?_
  refine YF ?_
  show V _ _ _ _
  refine VE ?_
  cases h
  exact zF VT
 ·refine zH ?_
  show V _ _ _ _
  refine VE ?_
  cases h
  exact zF VT
theorem zER : CfW Tryz.prog 55 := cfW Tryz.func55
theorem zE4 {l1 : List ((ByteArray × ((Int × Int × Int))))} {c2 : (Int × ByteArray × ByteArray × ByteArray × ((Int × Int × Int)))} {r : ((List ((ByteArray × ((Int × Int × Int))))) × Int)} (h : qV l1 c2 = some r) : zV Tryz.prog 55 [.c (.sl (l1.map c73)), .ag [Ti c2.1, .v (.string c2.2.1), .v (.string c2.2.2.1), .v (.string c2.2.2.2.1), Ti c2.2.2.2.2.1, Ti c2.2.2.2.2.2.1, Ti c2.2.2.2.2.2.2]] (.tc (.ow 0) (.tc (I r.2) .tn)) [(0, .arr 73 4 (r.1.map c73))] := by
 refine CtW [4, 5] Tryz.func55 rfl rfl 64 ?_
 unfold qV at h
 refine VS ?_
 refine YR 1 ?_
 refine L1 rfl rfl (zAc (e := 73) 4 (by decide) (.inl rfl)) ?_
 refine YF ?_
 refine zK ?_
 obtain ⟨y3, hy3, h⟩ := zA h
 refine VS ?_
 refine YK 2 (zLV hy3) zKt ?_
 refine YF ?_
 refine VE ?_
 refine VC h (fun h => ?_) (fun h => ?_)
 ·refine VS ?_
  refine L1 rfl rfl (zBt Tryz.underlying43 sz73 (by decide) rfl rfl) ?_
  refine YF ?_
  cases h
  exact zF VT
 ·refine zH ?_
  show V _ _ _ _
  refine VE ?_
  obtain ⟨y5, hy5, h⟩ := zA h
  refine VS ?_
  refine YK 3 (zFF hy5) zEe ?_
  refine YF ?_
  obtain ⟨y6, hy6, h⟩ := zA h
  refine VS ?_
  refine YK 3 (zFF hy6) zEe ?_
  refine YF ?_
  obtain ⟨qo7, hLo7, hko7⟩ := zA h
  clear h
  refine V_cutS (q := qo7) (S := fun o7 => ⟨.c (.sl (l1.map c73)) :: .bot :: .bot :: .pt 24 0 :: bt 3 (.pt 56 0 :: bt 56 []), [(56, .box [Ti o7.1, Ti o7.2.1, Ti o7.2.2]), (24, .box [Ti c2.1, .v (.string c2.2.1), .v (.string c2.2.2.1), .v (.string c2.2.2.2.1), Ti c2.2.2.2.2.1, Ti c2.2.2.2.2.2.1, Ti c2.2.2.2.2.2.2])]⟩) (mb 64 137) [56, 24] ?_ ?_
  ·have h := hLo7
   clear hLo7
   refine VE ?_
   refine zN ?_
   refine VE ?_
   refine VC h (fun h => ?_) (fun h => ?_)
   ·obtain ⟨y9, hy9, h⟩ := zA h
    refine VS ?_
    refine YK 3 (zFT hy9) zFK ?_
    refine YF ?_
    refine zF ?_
    obtain rfl := zB h
    have h := hko7
    obtain rfl := zB h
    exact VT
   ·refine VE ?_
    refine VC h (fun h => ?_) (fun h => ?_)
    ·obtain ⟨y11, hy11, h⟩ := zA h
     refine zY ?_
     refine YK 2 (zLY hy11) zKv ?_
     refine YF ?_
     obtain rfl := zB h
     exact ⟨_, rfl, kk⟩
    ·refine VE ?_
     refine VC h (fun h => ?_) (fun h => ?_)
     ·obtain ⟨y13, hy13, h⟩ := zA h
      obtain ⟨y14, hy14, h⟩ := zA h
      refine zY ?_
      refine YK 1 (zH4 hy13) zHP ?_
      refine YK 0 (zCl hy14) zCY ?_
      refine YF ?_
      obtain rfl := zB h
      exact ⟨_, rfl, kk⟩
     ·refine zH ?_
      obtain rfl := zB h
      exact ⟨_, rfl, kk⟩
  rintro o7 rfl
  have h := hko7
  clear hko7
  obtain ⟨y15, hy15, h⟩ := zA h
  refine VS ?_
  refine YK 4 (zJw hy15) zJl ?_
  refine YF ?_
  refine zK ?_
  refine VS ?_
  refine YR 1 ?_
  refine L0 rfl rfl (qQ (c := c73) (xs := y15) Tryz.underlying43 rfl kk) ?_
  refine YF ?_
  refine VC h (fun h => ?_) (fun h => ?_)
  ·refine VS ?_
   refine L1 rfl rfl (zBt Tryz.underlying43 sz73 (by decide) rfl rfl) ?_
   refine YF ?_
   cases h
   exact zF VT
  ·refine zH ?_
   show V _ _ _ _
   refine VE ?_
   cases h
   exact zF VT
theorem zHw : CfW Tryz.prog 54 := cfW Tryz.func54
theorem zI8 {vs1 : ByteArray} {r : ((List ((ByteArray × ((Int × Int × Int))))) × Int × Int × Int)} (h : zA5 vs1 = some r) : zV Tryz.prog 54 [.c (.v (.string vs1))] (.tc (.ow 0) (.tc (I r.2.1) (.tc (I r.2.2.1) (.tc (I r.2.2.2) .tn)))) [(0, .arr 73 4 (r.1.map c73))] := by
 refine CtW [2, 3, 4, 5] Tryz.func54 rfl rfl 81 ?_
 unfold zA5 at h
 refine VS ?_
 refine L1 rfl rfl (zAc (e := 73) 4 (by decide) (.inl rfl)) ?_
 refine YF ?_
 refine VS ?_
 refine L1 rfl rfl (zBt Tryz.underlying43 sz73 (by decide) rfl rfl) ?_
 refine YF ?_
 refine VE ?_
 refine zK ?_
 obtain ⟨o7, hLo7, h⟩ := zA h
 refine zCS (mb 81 960) [168] (s1 := ⟨bt 6 (.ow 168 :: I o7.1 :: I o7.2.1 :: I o7.2.2.1 :: bt 71 []), [(168, .arr 73 4 (o7.2.2.2.map c73))]⟩) ?_ ?_
 ·clear h
  refine zN (jM (fun n s => ∃ (many2 : Int) (vat3 : Int) (vn4 : Int) (l5 : List ((ByteArray × ((Int × Int × Int))))), (s.adopt 6 168).keep (mb 81 961) [168] = (⟨.c (.v (.string vs1)) :: bt 5 (.ow 168 :: I many2 :: I vat3 :: I vn4 :: bt 71 []), [(168, .arr 73 4 (l5.map c73))]⟩ : St) ∧ jO vs1 n many2 vat3 vn4 l5 = some o7) FU ⟨_, _, _, _,  kk, hLo7⟩ ?_)
  clear hLo7
  rintro n s ⟨many2, vat3, vn4, l5, hs, h⟩
  refine V_adopt 6 168 ?_
  refine jF _ _ hs ?_
  clear hs
  cases n with
  | zero => cases h
  | succ n =>
   rw [jO] at h
   refine zK ?_
   refine VE ?_
   refine VC h (fun h => ?_) (fun h => ?_)
   ·refine zH ?_
    show V _ _ _ _
    refine zN ?_
    obtain ⟨u9, hu9, h⟩ := zA h
    obtain ⟨y10, hy10, h⟩ := zA h
    refine VS ?_
    refine YR 2 ?_
    refine L0 rfl rfl (zBF (b := vs1) (l := vat3) (h := (vs1.size : Int)) Tryz.underlying9 rfl kk (fun y hy => by cases hy; exact ⟨.i64, kk⟩) (fun hh => by cases hh) (fun y hy => by cases hy) (fun _ => rfl) (zAY hu9)) ?_
    refine YK 0 (zIW hy10) zHr ?_
    refine YF ?_
    refine zK ?_
    refine VE ?_
    refine VC h (fun h => ?_) (fun h => ?_)
    ·refine jE ?_
     obtain rfl := zB h
     show St.keep _ _ _ = _
     kernel_rfl
    ·refine zH ?_
     show V _ _ _ _
     obtain ⟨u12, hu12, h⟩ := zA h
     refine VS ?_
     refine YR 6 ?_
     refine L0 rfl rfl (zBF (b := vs1) (l := vat3) (h := w64 ((w64 (vat3 + y10)) + 1)) Tryz.underlying9 rfl kk (fun y hy => by cases hy; exact ⟨.i64, kk⟩) (fun hh => by cases hh) (fun y hy => by cases hy; exact ⟨.i64, kk⟩) (fun hh => by cases hh) (zAY hu12)) ?_
     refine YF ?_
     obtain ⟨y13, hy13, h⟩ := zA h
     refine VS ?_
     refine YK 1 (s_strings_Cut hy13) zLu ?_
     refine YF ?_
     obtain ⟨y14, hy14, h⟩ := zA h
     refine VS ?_
     refine YK 1 (zIY hy14) zHx ?_
     refine YF ?_
     refine zK ?_
     refine VE ?_
     refine VC h (fun h => ?_) (fun h => ?_)
     ·refine jE ?_
      obtain rfl := zB h
      show St.keep _ _ _ = _
      kernel_rfl
     ·refine zH ?_
      show V _ _ _ _
      obtain ⟨y16, hy16, h⟩ := zA h
      refine VS ?_
      refine YK 2 (zE5 hy16) zES ?_
      refine YF ?_
      obtain ⟨y17, hy17, h⟩ := zA h
      refine VS ?_
      refine YR 2 ?_
      refine L1 rfl rfl (zBy (zE4 hy17) zER rfl kk rfl (zGn (fun _ => rfl) rfl)) ?_
      refine YF ?_
      refine zK ?_
      obtain ⟨t19, ht19, h⟩ := zA h
      have ht19 := zB ht19
      refine zO (mb 81 295147905179353615297) [472, 168] (s1 := ⟨.c (.v (.string vs1)) :: bt 5 (.ow 168 :: I many2 :: I vat3 :: I vn4 :: .bot :: .c (.v (.string (vs1.extract (Int.toNat vat3) (Int.toNat (w64 ((w64 (vat3 + y10)) + 1)))))) :: bt 6 (I y16.2 :: .ow 472 :: bt 48 (Bo t19 :: bt 12 []))), [(472, .arr 73 4 (y17.1.map c73)), (168, .arr 73 4 (l5.map c73))]⟩) ?_ ?_
      ·refine YR 4 ?_
       refine zE (!(y16.1.toList == (vs1.extract (Int.toNat vat3) (Int.toNat (w64 ((w64 (vat3 + y10)) + 1)))).toList)) (fun hc18 => ?_) (fun hc18 => ?_)
       ·refine YQ hc18 ?_
        exact YE (by rw [← ht19]; (try rw [hc18]); kernel_rfl)
       ·refine YQ hc18 ?_
        exact YE (by rw [← ht19]; (try rw [hc18]); kernel_rfl)
      refine VC h (fun h => ?_) (fun h => ?_)
      ·refine jE ?_
       obtain rfl := zB h
       show St.keep _ _ _ = _
       kernel_rfl
      ·refine zH ?_
       show V _ _ _ _
       refine VE ?_
       obtain ⟨many21, hmany21, h⟩ := zT h
       refine zO (mb 81 3009) [472] (s1 := ⟨.c (.v (.string vs1)) :: bt 5 (.ow 472 :: I many21 :: I vat3 :: I y16.2 :: .bot :: .c (.v (.string (vs1.extract (Int.toNat vat3) (Int.toNat (w64 ((w64 (vat3 + y10)) + 1)))))) :: bt 69 []), [(472, .arr 73 4 (y17.1.map c73))]⟩) ?_ ?_
       ·refine XR 3 ?_
        refine zM ?_
        subst hmany21
        kernel_rfl
       obtain ⟨vat22, hvat22, h⟩ := zT h
       refine jC (mb 81 961) [472] (s1 := ⟨.c (.v (.string vs1)) :: bt 5 (.ow 472 :: I many21 :: I vat22 :: I y16.2 :: bt 71 []), [(472, .arr 73 4 (y17.1.map c73))]⟩) ?_ ?_
       ·refine XR 2 ?_
        refine L0 rfl rfl (Y0_lens (b := vs1.extract (Int.toNat vat3) (Int.toNat (w64 ((w64 (vat3 + y10)) + 1)))) Tryz.underlying9 rfl kk) ?_
        refine XR 2 ?_
        refine zM ?_
        subst hvat22
        kernel_rfl
       exact ⟨n, Nat.lt_succ_self n, _, _, _, _,  kk, h⟩
   ·refine jE ?_
    obtain rfl := zB h
    show St.keep _ _ _ = _
    kernel_rfl
 show V _ _ _ _
 refine VE ?_
 cases h
 exact zF VT
theorem zHR : CfW Tryz.prog 23 := cfW Tryz.func23
theorem zH6 {vs1 : ByteArray} {c2 : (Int × ByteArray × ByteArray × ByteArray × ((Int × Int × Int)))} {r : (ByteArray × Int)} (h : zA2 vs1 c2 = some r) : zV Tryz.prog 23 [.c (.v (.string vs1)), .ag [Ti c2.1, .v (.string c2.2.1), .v (.string c2.2.2.1), .v (.string c2.2.2.2.1), Ti c2.2.2.2.2.1, Ti c2.2.2.2.2.2.1, Ti c2.2.2.2.2.2.2]] (.tc (.c (.v (.string r.1))) (.tc (I r.2) .tn)) [] := by
 refine CtW [4, 5] Tryz.func23 rfl rfl 53 ?_
 unfold zA2 at h
 refine VE ?_
 refine zK ?_
 obtain ⟨y3, hy3, h⟩ := zA h
 refine zO (mb 53 2097161) [24] (s1 := ⟨.c (.v (.string vs1)) :: .bot :: .bot :: .pt 24 0 :: bt 17 (Bo (bif (!y3) then true else (ltI 4000 ((vs1.size : Int)))) :: bt 31 []), [(24, .box [Ti c2.1, .v (.string c2.2.1), .v (.string c2.2.2.1), .v (.string c2.2.2.2.1), Ti c2.2.2.2.2.1, Ti c2.2.2.2.2.2.1, Ti c2.2.2.2.2.2.2])]⟩) ?_ ?_
 ·refine YK 1 (zDj hy3) zD3 ?_
  refine YR 2 ?_
  refine zE (!y3) (fun hc4 => ?_) (fun hc4 => ?_)
  ·refine YQ hc4 ?_
   exact YE (by rw [hc4]; kernel_rfl)
  ·refine YQ hc4 ?_
   exact YE (by rw [hc4]; kernel_rfl)
 refine VC h (fun h => ?_) (fun h => ?_)
 ·refine VE ?_
  cases h
  exact zF VT
 ·refine zH ?_
  show V _ _ _ _
  obtain ⟨y6, hy6, h⟩ := zA h
  refine VS ?_
  refine YK 1 (zI8 hy6) zHw ?_
  refine YF ?_
  refine zK ?_
  refine VS ?_
  refine YF ?_
  refine VC h (fun h => ?_) (fun h => ?_)
  ·refine VE ?_
   cases h
   exact zF VT
  ·refine zH ?_
   show V _ _ _ _
   refine zK ?_
   obtain ⟨y8, hy8, h⟩ := zA h
   refine VS ?_
   refine YR 2 ?_
   refine L1 rfl rfl (zBy (zE4 hy8) zER rfl kk rfl (zGn (fun _ => rfl) rfl)) ?_
   refine YF ?_
   refine VE ?_
   refine VC h (fun h => ?_) (fun h => ?_)
   ·refine VE ?_
    cases h
    exact zF VT
   ·refine zH ?_
    show V _ _ _ _
    refine zK ?_
    refine VE ?_
    refine VC h (fun h => ?_) (fun h => ?_)
    ·refine VE ?_
     cases h
     exact zF VT
    ·refine zH ?_
     show V _ _ _ _
     obtain ⟨y11, hy11, h⟩ := zA h
     refine VS ?_
     refine YK 2 (zE5 hy11) zES ?_
     refine YF ?_
     obtain ⟨u12, hu12, h⟩ := zA h
     refine VS ?_
     refine YR 2 ?_
     refine L0 rfl rfl (zAW (a := vs1) (b := y11.1) rfl kk kk (qJ hu12)) ?_
     refine YF ?_
     cases h
     exact zF VT
theorem zHO : CfW Tryz.prog 21 := cfW Tryz.func21
theorem zH3 {vs1 : ByteArray} {c2 : (Int × ByteArray × ByteArray × ByteArray × ((Int × Int × Int)))} {r : (ByteArray × Int)} (h : zA1 vs1 c2 = some r) : zV Tryz.prog 21 [.c (.v (.string vs1)), .ag [Ti c2.1, .v (.string c2.2.1), .v (.string c2.2.2.1), .v (.string c2.2.2.2.1), Ti c2.2.2.2.2.1, Ti c2.2.2.2.2.2.1, Ti c2.2.2.2.2.2.2]] (.tc (.c (.v (.string r.1))) (.tc (I r.2) .tn)) [] := by
 refine CtW [4, 5] Tryz.func21 rfl rfl 47 ?_
 unfold zA1 at h
 refine VE ?_
 refine zK ?_
 obtain ⟨y3, hy3, h⟩ := zA h
 refine zO (mb 47 524297) [24] (s1 := ⟨.c (.v (.string vs1)) :: .bot :: .bot :: .pt 24 0 :: bt 15 (Bo (bif (!y3) then true else (ltI 4000 ((vs1.size : Int)))) :: bt 27 []), [(24, .box [Ti c2.1, .v (.string c2.2.1), .v (.string c2.2.2.1), .v (.string c2.2.2.2.1), Ti c2.2.2.2.2.1, Ti c2.2.2.2.2.2.1, Ti c2.2.2.2.2.2.2])]⟩) ?_ ?_
 ·refine YK 1 (zDi hy3) zD2 ?_
  refine YR 2 ?_
  refine zE (!y3) (fun hc4 => ?_) (fun hc4 => ?_)
  ·refine YQ hc4 ?_
   exact YE (by rw [hc4]; kernel_rfl)
  ·refine YQ hc4 ?_
   exact YE (by rw [hc4]; kernel_rfl)
 refine VC h (fun h => ?_) (fun h => ?_)
 ·refine VE ?_
  cases h
  exact zF VT
 ·refine zH ?_
  show V _ _ _ _
  obtain ⟨y6, hy6, h⟩ := zA h
  refine VS ?_
  refine YK 1 (zFP hy6) zEw ?_
  refine YF ?_
  refine zK ?_
  refine VS ?_
  refine YF ?_
  refine VC h (fun h => ?_) (fun h => ?_)
  ·refine VE ?_
   cases h
   exact zF VT
  ·refine zH ?_
   show V _ _ _ _
   obtain ⟨y8, hy8, h⟩ := zA h
   refine VS ?_
   refine YK 2 (zG8 hy8) zGE ?_
   refine YF ?_
   refine zK ?_
   refine VE ?_
   refine VC h (fun h => ?_) (fun h => ?_)
   ·refine VE ?_
    cases h
    exact zF VT
   ·refine zH ?_
    show V _ _ _ _
    refine zK ?_
    refine VE ?_
    refine VC h (fun h => ?_) (fun h => ?_)
    ·refine VE ?_
     cases h
     exact zF VT
    ·refine zH ?_
     show V _ _ _ _
     obtain ⟨y11, hy11, h⟩ := zA h
     obtain ⟨u12, hu12, h⟩ := zA h
     refine VS ?_
     refine YK 3 (zEF hy11) zDo ?_
     refine L0 rfl rfl (zAW (a := vs1) (b := y11) rfl kk kk (qJ hu12)) ?_
     refine YF ?_
     cases h
     exact zF VT
theorem zB1 : CfW Tryz.prog 25 := cfW Tryz.func25
theorem zBc {vs1 : ByteArray} {r : ((List ((ByteArray × ((Int × Int × Int))))) × Int × Int × Bool)} (h : qM vs1 = some r) : zV Tryz.prog 25 [.c (.v (.string vs1))] (.tc (.ow 0) (.tc (I r.2.1) (.tc (I r.2.2.1) (.tc (Bo r.2.2.2) .tn)))) [(0, .arr 73 4 (r.1.map c73))] := by
 refine CtW [2, 3, 4, 5] Tryz.func25 rfl rfl 24 ?_
 unfold qM at h
 refine VS ?_
 refine L1 rfl rfl (zAc (e := 73) 4 (by decide) (.inl rfl)) ?_
 refine YF ?_
 refine zK ?_
 refine VS ?_
 refine YF ?_
 refine VC h (fun h => ?_) (fun h => ?_)
 ·refine VS ?_
  refine L1 rfl rfl (zBt Tryz.underlying43 sz73 (by decide) rfl rfl) ?_
  refine YF ?_
  cases h
  exact zF VT
 ·refine zH ?_
  show V _ _ _ _
  obtain ⟨y3, hy3, h⟩ := zA h
  refine VS ?_
  refine YK 1 (zI8 hy3) zHw ?_
  refine YF ?_
  refine VE ?_
  cases h
  exact zF VT
theorem zHN : CfW Tryz.prog 24 := cfW Tryz.func24
theorem zH2 {vs1 : ByteArray} {r : ((List ((ByteArray × ((Int × Int × Int))))) × Int × Int × Bool)} (h : zA0 vs1 = some r) : zV Tryz.prog 24 [.c (.v (.string vs1))] (.tc (.c (.sl (r.1.map c73))) (.tc (I r.2.1) (.tc (I r.2.2.1) (.tc (Bo r.2.2.2) .tn)))) [] := by
 refine CtW [2, 3, 4, 5] Tryz.func24 rfl rfl 23 ?_
 unfold zA0 at h
 refine VS ?_
 refine L1 rfl rfl (zAc (e := 73) 4 (by decide) (.inl rfl)) ?_
 refine YF ?_
 refine zK ?_
 refine VS ?_
 refine YF ?_
 refine VC h (fun h => ?_) (fun h => ?_)
 ·refine VS ?_
  refine L1 rfl rfl (zAc (e := 73) 4 (by decide) (.inl rfl)) ?_
  refine YF ?_
  refine zIE 16 (T := 73) (sz := 4) (els := (([] : List ((ByteArray × ((Int × Int × Int)))))).map c73) kk rfl ?_
  cases h
  exact zF VT
 ·refine zH ?_
  show V _ _ _ _
  obtain ⟨y3, hy3, h⟩ := zA h
  refine VS ?_
  refine YK 1 (zFP hy3) zEw ?_
  refine YF ?_
  refine VE ?_
  cases h
  exact zF VT
theorem zI1 : CfW Tryz.prog 63 := cfW Tryz.func63
theorem zIm {l1 : List ((ByteArray × ((Int × Int × Int))))} {r : Bool} (h : zCP l1 = some r) : zV Tryz.prog 63 [.c (.sl (l1.map c73))] (Bo r) [] := by
 refine CtW [2] Tryz.func63 rfl rfl 41 ?_
 unfold zCP at h
 refine VE ?_
 refine zK ?_
 refine VS ?_
 refine YR 1 ?_
 refine L0 rfl rfl (qQ (c := c73) (xs := l1) Tryz.underlying43 rfl kk) ?_
 refine YF ?_
 obtain ⟨qo4, hLo4, hko4⟩ := zA h
 refine zFN (q := qo4) (S := fun o4 => ⟨.c (.sl (l1.map c73)) :: bt 40 [], []⟩) (mb 41 1) [] ?_ ?_
 ·refine zN (jM (fun n s => ∃ (t2 : Int), s.keep (mb 41 225) [] = (⟨.c (.sl (l1.map c73)) :: bt 4 (.c (.sl (l1.map c73)) :: I ((l1.length : Int)) :: I t2 :: bt 33 []), []⟩ : St) ∧ jV l1 n t2 = some qo4) FU ⟨_,  kk, hLo4⟩ ?_)
  clear hLo4
  rintro n s ⟨t2, hs, h⟩
  refine jF _ _ hs ?_
  clear hs
  cases n with
  | zero => cases h
  | succ n =>
   rw [jV] at h
   refine VE ?_
   refine zK ?_
   refine VC h (fun h => ?_) (fun h => ?_)
   ·refine zH ?_
    show V _ _ _ _
    refine zK ?_
    refine zN ?_
    obtain ⟨e6, he6, h⟩ := zA h
    refine VS ?_
    refine YR 1 ?_
    refine L0 rfl rfl (zBG (c := c73) (xs := l1) (v := e6) (n := t2) Tryz.underlying43 sz73 rfl kk kk he6) ?_
    refine YF ?_
    obtain ⟨y7, hy7, h⟩ := zA h
    obtain ⟨b10, hb10, h⟩ := zA h
    obtain ⟨b15, hb15, h⟩ := zA h
    refine zCj [0, 1, 3, 7, 15, 31, 63, 127, 255, 511, 1023, 2047, 4095, 8191, 16383, 16383, 49151, 131071, 262143, 524287, 16383, 1064959, 4194303, 8388607, 16777215] 25 (cdm 25 [0, 1, 5, 21, 85, 341, 1365, 5461, 21845, 87381, 349525, 1398101, 5592405, 22369621, 11005943174485, 10995742627157, 10996816368981, 11000842900821, 11018022770005, 11086742246741, 732918273365, 1832429901141, 5864062014805, 23456248059221, 93824992236885]) (mb 41 68719476961) [] (s1 := ⟨.c (.sl (l1.map c73)) :: bt 4 (.c (.sl (l1.map c73)) :: I ((l1.length : Int)) :: I t2 :: bt 28 (Bo b15 :: bt 4 [])), []⟩) kk kk ?_ ?_
    ·refine EK 2 (zDu hy7) zDf ?_
     refine ER 2 ?_
     refine zEj (!y7) (fun hc8 => ?_) (fun hc8 => ?_)
     ·have hb10 := zB (qH hb10 hc8)
      refine EQ hc8 ?_
      refine ER 6 ?_
      subst hb10
      have hc11 : true = true := rfl
      have hb15 := zB (qH hb15 hc11)
      refine EA 14 ?_
      exact YE (by rw [← hb15]; (try rw [hc8]); kernel_rfl)
     ·have hb10 := z7 hb10 hc8
      obtain ⟨y9, hy9, hb10⟩ := zA hb10
      have hb10 := zB hb10
      refine EQ hc8 ?_
      refine EK 2 (zEO hy9) zDt ?_
      refine ER 3 ?_
      refine zEj b10 (fun hc11 => ?_) (fun hc11 => ?_)
      ·have hb15 := zB (qH hb15 hc11)
       refine EQ hc11 ?_ (by rw [← hb10]; (try rw [← hb15]); (try rw [hc8]); kernel_rfl)
       refine EA 14 ?_
       exact YE (by rw [← hb15]; (try rw [hc8]); (try rw [hc11]); kernel_rfl)
      ·have hb15 := z7 hb15 hc11
       obtain ⟨b14, hb14, hb15⟩ := zA hb15
       have hb15 := zB hb15
       refine EQ hc11 ?_ (by rw [← hb10]; (try rw [← hb15]); (try rw [hc8]); kernel_rfl)
       refine ER 3 ?_
       refine zEj (ltI 0 t2) (fun hc12 => ?_) (fun hc12 => ?_)
       ·have hb14 := qH hb14 hc12
        obtain ⟨e13, he13, hb14⟩ := zA hb14
        have hb14 := zB hb14
        refine EQ hc12 ?_
        refine ER 3 ?_
        refine E0 17 rfl rfl (zBG (c := c73) (xs := l1) (v := e13) (n := w64 (t2 - 1)) Tryz.underlying43 sz73 rfl kk kk he13) ?_
        refine ER 4 ?_
        refine E0 22 rfl rfl (Y0_ges (a := e13.1) (b := e6.1) rfl kk kk) ?_
        refine EA 2 ?_
        exact YE (by rw [← hb15]; (try rw [← hb14]); (try rw [hc12]); (try rw [hc8]); (try rw [hc11]); kernel_rfl)
       ·have hb14 := zB (z7 hb14 hc12)
        refine EQ hc12 ?_
        refine EA 11 ?_
        exact YE (by rw [← hb15]; (try rw [← hb14]); (try rw [hc12]); (try rw [hc8]); (try rw [hc11]); kernel_rfl)
    refine VC h (fun h => ?_) (fun h => ?_)
    ·refine VE ?_
     refine zF ?_
     obtain rfl := zB h
     have h := hko4
     obtain rfl := zB h
     exact VT
    ·refine zH ?_
     show V _ _ _ _
     obtain ⟨t17, ht17, h⟩ := zT h
     refine jC (mb 41 225) [] (s1 := ⟨.c (.sl (l1.map c73)) :: bt 4 (.c (.sl (l1.map c73)) :: I ((l1.length : Int)) :: I t17 :: bt 33 []), []⟩) ?_ ?_
     ·refine XR 2 ?_
      refine zM ?_
      subst ht17
      kernel_rfl
     exact ⟨n, Nat.lt_succ_self n, _,  kk, h⟩
   ·refine jE ?_
    obtain rfl := zB h
    exact ⟨_, rfl, kk⟩
 rintro o4 rfl
 have h := hko4
 clear hko4
 show V _ _ _ _
 refine VS ?_
 refine YR 1 ?_
 refine L0 rfl rfl (qQ (c := c73) (xs := l1) Tryz.underlying43 rfl kk) ?_
 refine YF ?_
 cases h
 exact zF VT
theorem zJH : CfW Tryz.prog 35 := cfW Tryz.func35
theorem zJX {l1 : List ((ByteArray × ((Int × Int × Int))))} {c2 : (Int × ByteArray × ByteArray × ByteArray × ((Int × Int × Int)))} {r : ((List ((ByteArray × ((Int × Int × Int))))) × Int)} (h : zBm l1 c2 = some r) : zV Tryz.prog 35 [.c (.sl (l1.map c73)), .ag [Ti c2.1, .v (.string c2.2.1), .v (.string c2.2.2.1), .v (.string c2.2.2.2.1), Ti c2.2.2.2.2.1, Ti c2.2.2.2.2.2.1, Ti c2.2.2.2.2.2.2]] (.tc (.ow 0) (.tc (I r.2) .tn)) [(0, .arr 73 4 (r.1.map c73))] := by
 refine CtW [4, 5] Tryz.func35 rfl rfl 20 ?_
 unfold zBm at h
 refine VS ?_
 refine YR 1 ?_
 refine L1 rfl rfl (zAc (e := 73) 4 (by decide) (.inl rfl)) ?_
 refine YF ?_
 refine zK ?_
 obtain ⟨y3, hy3, h⟩ := zA h
 obtain ⟨b6, hb6, h⟩ := zA h
 refine zO (mb 20 8201) [24] (s1 := ⟨.c (.sl (l1.map c73)) :: .bot :: .bot :: .pt 24 0 :: bt 9 (Bo b6 :: bt 6 []), [(24, .box [Ti c2.1, .v (.string c2.2.1), .v (.string c2.2.2.1), .v (.string c2.2.2.2.1), Ti c2.2.2.2.2.1, Ti c2.2.2.2.2.2.1, Ti c2.2.2.2.2.2.2])]⟩) ?_ ?_
 ·refine YK 1 (zIm hy3) zI1 ?_
  refine YR 2 ?_
  refine zE (!y3) (fun hc4 => ?_) (fun hc4 => ?_)
  ·have hb6 := zB (qH hb6 hc4)
   refine YQ hc4 ?_
   exact YE (by rw [← hb6]; (try rw [hc4]); kernel_rfl)
  ·have hb6 := z7 hb6 hc4
   obtain ⟨y5, hy5, hb6⟩ := zA hb6
   have hb6 := zB hb6
   refine YQ hc4 ?_
   refine YK 1 (zDj hy5) zD3 ?_
   exact YE (by rw [← hb6]; (try rw [hc4]); kernel_rfl)
 refine VC h (fun h => ?_) (fun h => ?_)
 ·refine VS ?_
  refine L1 rfl rfl (zBt Tryz.underlying43 sz73 (by decide) rfl rfl) ?_
  refine YF ?_
  cases h
  exact zF VT
 ·refine zH ?_
  show V _ _ _ _
  obtain ⟨y8, hy8, h⟩ := zA h
  refine VS ?_
  refine YK 2 (zE4 hy8) zER ?_
  refine YF ?_
  cases h
  exact zF VT
theorem zAF : CfW Tryz.prog 33 := cfW Tryz.func33
theorem zAP {a1 : List ((ByteArray × ((Int × Int × Int))))} {b2 : List ((ByteArray × ((Int × Int × Int))))} {r : Bool} (h : zAh a1 b2 = some r) : zV Tryz.prog 33 [.c (.sl (a1.map c73)), .c (.sl (b2.map c73))] (Bo r) [] := by
 refine CtW [4] Tryz.func33 rfl rfl 26 ?_
 unfold zAh at h
 refine VE ?_
 refine zK ?_
 refine VS ?_
 refine YR 1 ?_
 refine L0 rfl rfl (qQ (c := c73) (xs := a1) Tryz.underlying43 rfl kk) ?_
 refine YR 1 ?_
 refine L0 rfl rfl (qQ (c := c73) (xs := b2) Tryz.underlying43 rfl kk) ?_
 refine YF ?_
 refine VC h (fun h => ?_) (fun h => ?_)
 ·refine VE ?_
  cases h
  exact zF VT
 ·refine zH ?_
  show V _ _ _ _
  refine zK ?_
  refine VS ?_
  refine YR 1 ?_
  refine L0 rfl rfl (qQ (c := c73) (xs := a1) Tryz.underlying43 rfl kk) ?_
  refine YF ?_
  obtain ⟨qo6, hLo6, hko6⟩ := zA h
  refine zFN (q := qo6) (S := fun o6 => ⟨bt 26 [], []⟩) (mb 26 0) [] ?_ ?_
  ·refine zN (jM (fun n s => ∃ (t4 : Int), s.keep (mb 26 12291) [] = (⟨.c (.sl (a1.map c73)) :: .c (.sl (b2.map c73)) :: bt 10 (I ((a1.length : Int)) :: I t4 :: bt 12 []), []⟩ : St) ∧ jR a1 b2 n t4 = some qo6) FU ⟨_,  kk, hLo6⟩ ?_)
   clear hLo6
   rintro n s ⟨t4, hs, h⟩
   refine jF _ _ hs ?_
   clear hs
   cases n with
   | zero => cases h
   | succ n =>
    rw [jR] at h
    refine VE ?_
    refine zK ?_
    refine VC h (fun h => ?_) (fun h => ?_)
    ·refine zH ?_
     show V _ _ _ _
     refine zK ?_
     refine zN ?_
     refine VE ?_
     obtain ⟨e8, he8, h⟩ := zA h
     obtain ⟨e9, he9, h⟩ := zA h
     obtain ⟨t10, ht10, h⟩ := zA h
     have ht10 := zB ht10
     refine zCj [0, 0, 3, 7, 0, 0, 48, 112, 255] 9 (cdm 9 [43528, 43522, 43525, 43541, 2218, 682, 1450, 5546, 21845]) (mb 26 16789507) [] (s1 := ⟨.c (.sl (a1.map c73)) :: .c (.sl (b2.map c73)) :: bt 10 (I ((a1.length : Int)) :: I t4 :: bt 10 (Bo t10 :: .bot :: [])), []⟩) kk kk ?_ ?_
     ·refine DR 2 ?_
      refine DE_0 2 (.pe [.v (.string e8.1), Ti e8.2.1, Ti e8.2.2.1, Ti e8.2.2.2]) kk rfl rfl rfl (qS rfl) kk (zBG (c := c73) (xs := a1) (v := e8) (n := t4) Tryz.underlying43 sz73 rfl kk kk he8) 18 rfl ?_
      refine DR 3 ?_
      refine DE_0 6 (.pe [.v (.string e9.1), Ti e9.2.1, Ti e9.2.2.1, Ti e9.2.2.2]) kk rfl rfl rfl (qS rfl) kk (zBG (c := c73) (xs := b2) (v := e9) (n := t4) Tryz.underlying43 sz73 rfl kk kk he9) 22 rfl ?_
      refine DR 1 ?_
      refine DE_0 8 (Bo (!((e8.1.toList == e9.1.toList) && ((e8.2.1 == e9.2.1) && ((e8.2.2.1 == e9.2.2.1) && (e8.2.2.2 == e9.2.2.2)))))) kk rfl rfl rfl (qS rfl) kk (Y0_negS (n := e8.1) (m := e9.1) (a1 := e8.2.1) (b1 := e9.2.1) (a2 := e8.2.2.1) (b2 := e9.2.2.1) (a3 := e8.2.2.2) (b3 := e9.2.2.2) ngS73 rfl kk kk) 24 rfl ?_
      refine DA 0 ?_
      refine zM ?_
      subst ht10
      kernel_rfl
     refine VC h (fun h => ?_) (fun h => ?_)
     ·refine VE ?_
      refine zF ?_
      obtain rfl := zB h
      have h := hko6
      obtain rfl := zB h
      exact VT
     ·refine zH ?_
      show V _ _ _ _
      obtain ⟨t12, ht12, h⟩ := zT h
      refine jC (mb 26 12291) [] (s1 := ⟨.c (.sl (a1.map c73)) :: .c (.sl (b2.map c73)) :: bt 10 (I ((a1.length : Int)) :: I t12 :: bt 12 []), []⟩) ?_ ?_
      ·refine XR 2 ?_
       refine zM ?_
       subst ht12
       kernel_rfl
      exact ⟨n, Nat.lt_succ_self n, _,  kk, h⟩
    ·refine jE ?_
     obtain rfl := zB h
     exact ⟨_, rfl, kk⟩
  rintro o6 rfl
  have h := hko6
  clear hko6
  show V _ _ _ _
  refine VE ?_
  cases h
  exact zF VT
theorem rm47_some {n : Nat} {u : Unit} (h : rm47 n = some u) : n ≤ 140737488355328 := by
 unfold rm47 at h
 cases hb : Nat.ble n 140737488355328 with
 | false => rw [hb] at h; cases h
 | true => exact Nat.le_of_ble_eq_true hb
theorem zI3 : CfW Tryz.prog 31 := cfW Tryz.func31
theorem zIo {l1 : List ((Int × ByteArray × ByteArray × ByteArray × ((Int × Int × Int))))} {r : ByteArray × Bool} (h : zCQ l1 = some r) : zV Tryz.prog 31 [.c (.sl (l1.map c40))] (.tc (.c (.v (.string r.1))) (.tc (Bo r.2) .tn)) [] := by
 refine CtW [2, 3] Tryz.func31 rfl rfl 33 ?_
 unfold zCQ at h
 refine VE ?_
 refine zK ?_
 refine VS ?_
 refine YR 1 ?_
 refine L0 rfl rfl (qQ (c := c40) (xs := l1) Tryz.underlying50 rfl kk) ?_
 refine YF ?_
 refine VC h (fun h => ?_) (fun h => ?_)
 ·refine VE ?_
  cases h
  exact zF VT
 ·refine zH ?_
  show V _ _ _ _
  refine jF (mb 33 1) [] (s' := ⟨.c (.sl (l1.map c40)) :: bt 32 [], []⟩) kk ?_
  refine VB_new rfl rfl rfl kk kk fun b => ?_
  refine VP_seqV (zY ?_)
  refine YF ?_
  show VP _ _ _ _ _ _
  obtain ⟨q, hq, h⟩ := zA h
  refine VP_seq ?_
  refine zGw (zY ?_)
  refine YR 1 ?_
  refine L0 rfl rfl (qQ (c := c40) (xs := l1) Tryz.underlying50 rfl kk) ?_
  refine YF ?_
  show VB _ _ _ _ _ _
  refine VB_block ?_
  refine VB_loop (fun n s l => ∃ (k : Int) (m : Int), s.keep (mb 33 57393) [] = (⟨.c (.sl (l1.map c40)) :: bt 3 (bp b :: I m :: bt 7 (.c (.sl (l1.map c40)) :: I ((l1.length : Int)) :: I k :: bt 17 [])), []⟩ : St) ∧ zAD l1 n k m l = some q) FU ⟨_, _, kk, hq⟩ ?_
  rintro n s l ⟨k, m, hs, h2⟩
  refine VB_keep _ _ hs ?_
  clear hs hq
  cases n with
  | zero => cases h2
  | succ n =>
   rw [zAD] at h2
   refine zGw (zY ?_)
   refine YF ?_
   show VB _ _ _ _ _ _
   refine zGw ?_
   refine VC h2 (fun h2 => ?_) (fun h2 => ?_)
   ·refine zH ?_
    show VB _ _ _ _ _ _
    obtain ⟨e, he, h2⟩ := zA h2
    obtain ⟨y, hy, h2⟩ := zA h2
    refine VB_seq ?_
    refine VB_block ?_
    refine zGw (zY ?_)
    refine L0 rfl rfl (zBG (c := c40) (xs := l1) (v := e) (n := k) Tryz.underlying50 sz40 rfl kk kk he) ?_
    refine YF ?_
    show VB _ _ _ _ _ _
    refine zGw ?_
    refine VS ?_
    refine YK 1 (zDj hy) zD3 ?_
    refine YF ?_
    refine VC h2 (fun h2 => ?_) (fun h2 => ?_)
    ·refine VE ?_
     cases h2
     cases h
     exact zF VT
    ·refine zH ?_
     show VB _ _ _ _ _ _
     obtain ⟨z, hz, h2⟩ := zA h2
     obtain ⟨u, hu, h2⟩ := zA h2
     refine zGw (zY ?_)
     refine YK 2 (zE5 hz) zES ?_
     refine YF ?_
     show VB _ _ _ _ _ _
     refine zGw (zY ?_)
     refine YF ?_
     show VB _ _ _ _ _ _
     refine VB_keep (mb 33 57649) [] (s' := ⟨.c (.sl (l1.map c40)) :: bt 3 (bp b :: I z.2 :: bt 2 (.c (.v (.string z.1)) :: bt 4 (.c (.sl (l1.map c40)) :: I ((l1.length : Int)) :: I k :: bt 17 []))), []⟩) kk ?_
     refine VB_region ?_
     refine XLB_1 ?_
     refine XLB_write rfl rfl rfl (rm47_some hu) ?_
     refine XLB_nil ?_
     show VB _ _ _ _ _ _
     refine VB_V (zY ?_)
     refine YF ?_
     exact ⟨n, Nat.lt_succ_self n, _, _, kk, h2⟩
   ·refine jE ?_
    cases h2
    show VP _ _ _ _ _ _
    refine VP_sreg ?_
    refine XLP_string rfl rfl rfl ?_
    refine YF ?_
    cases h
    exact zF VT
theorem zGu : CfW Tryz.prog 19 := cfW Tryz.func19
theorem zHK {vs1 : ByteArray} {r : (ByteArray × Bool)} (h : zB0 vs1 = some r) : zV Tryz.prog 19 [.c (.v (.string vs1))] (.tc (.c (.v (.string r.1))) (.tc (Bo r.2) .tn)) [] := by
 refine CtW [2, 3] Tryz.func19 rfl rfl 40 ?_
 unfold zB0 at h
 refine VE ?_
 obtain ⟨y2, hy2, h⟩ := zA h
 refine VS ?_
 refine YK 1 (zBc hy2) zB1 ?_
 refine YF ?_
 refine zK ?_
 refine VE ?_
 refine VC h (fun h => ?_) (fun h => ?_)
 ·refine VE ?_
  cases h
  exact zF VT
 ·refine zH ?_
  show V _ _ _ _
  obtain ⟨l4, hl4, h⟩ := zA h
  have hl4 := zB hl4
  refine zO (mb 40 272) [160, 104] (s1 := ⟨bt 4 (.ow 104 :: bt 3 (.ow 160 :: bt 31 [])), [(160, .arr 40 7 (l4.map c40)), (104, .arr 73 4 (y2.1.map c73))]⟩) ?_ ?_
  ·refine L1 rfl rfl (zBt Tryz.underlying50 sz40 (by decide) rfl rfl) ?_
   refine XR 1 ?_
   refine zM ?_
   subst hl4
   kernel_rfl
  refine zK ?_
  refine VS ?_
  refine YR 1 ?_
  refine L0 rfl rfl (qQ (c := c73) (xs := y2.1) Tryz.underlying43 rfl kk) ?_
  refine YF ?_
  obtain ⟨o8, hLo8, h⟩ := zA h
  refine zCS (mb 40 256) [160] (s1 := ⟨bt 8 (.ow 160 :: bt 31 []), [(160, .arr 40 7 (o8.map c40))]⟩) ?_ ?_
  ·clear h
   refine zN (jM (fun n s => ∃ (t5 : Int) (l6 : List ((Int × ByteArray × ByteArray × ByteArray × ((Int × Int × Int))))), s.keep (mb 40 14680320) [160, 104] = (⟨bt 8 (.ow 160 :: bt 12 (.ow 104 :: I ((y2.1.length : Int)) :: I t5 :: bt 16 [])), [(160, .arr 40 7 (l6.map c40)), (104, .arr 73 4 (y2.1.map c73))]⟩ : St) ∧ jH y2 n t5 l6 = some o8) FU ⟨_, _,  kk, hLo8⟩ ?_)
   clear hLo8
   rintro n s ⟨t5, l6, hs, h⟩
   refine jF _ _ hs ?_
   clear hs
   cases n with
   | zero => cases h
   | succ n =>
    rw [jH] at h
    refine VE ?_
    refine zK ?_
    refine VC h (fun h => ?_) (fun h => ?_)
    ·refine zH ?_
     show V _ _ _ _
     refine zK ?_
     refine zN ?_
     obtain ⟨e10, he10, h⟩ := zA h
     obtain ⟨e11, he11, h⟩ := zA h
     refine VS ?_
     refine L0 rfl rfl (zAV (c := c73) (xs := y2.1) (v := e10) (id := 104) (T := 73) (sz := 4) (n := t5) Tryz.underlying43 sz73 rfl kk kk kk he10) ?_
     refine L0 rfl rfl (zIG (c := c73) (xs := y2.1) (v := e11) (id := 104) (sz := 4) (T := 73) (off := 0) (n := t5) [.v (.string e11.1), Ti e11.2.1, Ti e11.2.2.1, Ti e11.2.2.2] wd73 rfl kk kk he11 (Nat.le_of_ble_eq_true rfl) kk) ?_
     refine YF ?_
     obtain ⟨u12, hu12, h⟩ := zA h
     obtain ⟨l13, hl13, h⟩ := zA h
     have hl13 := zB hl13
     refine jC (mb 40 14680320) [160, 104] (s1 := ⟨bt 8 (.ow 160 :: bt 12 (.ow 104 :: I ((y2.1.length : Int)) :: I t5 :: bt 16 [])), [(160, .arr 40 7 (l13.map c40)), (104, .arr 73 4 (y2.1.map c73))]⟩) ?_ ?_
     ·refine XR 5 ?_
      refine L0 rfl rfl (zW (cs := [Ti 1, .v (.string e11.1), .v (.string ByteArray.empty), .v (.string ByteArray.empty), Ti e11.2.1, Ti e11.2.2.1, Ti e11.2.2.2]) pl40 bt40 rfl rfl kk) ?_
      refine L1 rfl rfl (qP (z := zv40) (els := [(1, e11.1, ByteArray.empty, ByteArray.empty, e11.2)].map c40) Tryz.underlying50 iz40 rfl (by decide) rfl kk rfl (by simp [c40]) (by decide) (by decide)) ?_
      refine zL rfl (zAn (c := c40) (xs := l6) (ys := [(1, e11.1, ByteArray.empty, ByteArray.empty, e11.2)]) (id := 160) (z := zv40) rfl rfl Tryz.underlying50 izb40 rfl kk kk kk (fun _ => rfl) (by simp) (zAK hu12) (by decide)) ?_
      refine XR 1 ?_
      refine zM ?_
      subst hl13
      kernel_rfl
     show V _ _ _ _
     obtain ⟨t14, ht14, h⟩ := zT h
     refine jC (mb 40 14680320) [160, 104] (s1 := ⟨bt 8 (.ow 160 :: bt 12 (.ow 104 :: I ((y2.1.length : Int)) :: I t14 :: bt 16 [])), [(160, .arr 40 7 (l13.map c40)), (104, .arr 73 4 (y2.1.map c73))]⟩) ?_ ?_
     ·refine XR 2 ?_
      refine zM ?_
      subst ht14
      kernel_rfl
     exact ⟨n, Nat.lt_succ_self n, _, _,  kk, h⟩
    ·refine jE ?_
     obtain rfl := zB h
     show St.keep _ _ _ = _
     kernel_rfl
  show V _ _ _ _
  obtain ⟨y15, hy15, h⟩ := zA h
  refine VS ?_
  refine YR 1 ?_
  refine L1 rfl rfl (zBy (zIo hy15) zI3 rfl kk rfl rfl) ?_
  refine YF ?_
  cases h
  exact zF VT
theorem zKY : CfW Tryz.prog 34 := cfW Tryz.func34
theorem zKo {b1 : List Int} {r : Int} (h : zDM b1 = some r) : zV Tryz.prog 34 [.c (.sl (b1.map c5))] (I r) [] := by
 refine CtW [2] Tryz.func34 rfl rfl 20 ?_
 unfold zDM at h
 refine VE ?_
 refine VE ?_
 refine zK ?_
 refine VS ?_
 refine YR 1 ?_
 refine L0 rfl rfl (qQ (c := c5) (xs := b1) Tryz.underlying48 rfl kk) ?_
 refine YF ?_
 obtain ⟨o5, hLo5, h⟩ := zA h
 refine zCS (mb 20 8) [] (s1 := ⟨bt 3 (I o5 :: bt 16 []), []⟩) ?_ ?_
 ·clear h
  refine zN (jM (fun n s => ∃ (vn2 : Int) (t3 : Int), s.keep (mb 20 456) [] = (⟨bt 3 (I vn2 :: .bot :: .bot :: .c (.sl (b1.map c5)) :: I ((b1.length : Int)) :: I t3 :: bt 11 []), []⟩ : St) ∧ zAx b1 n vn2 t3 = some o5) FU ⟨_, _,  kk, hLo5⟩ ?_)
  clear hLo5
  rintro n s ⟨vn2, t3, hs, h⟩
  refine jF _ _ hs ?_
  clear hs
  cases n with
  | zero => cases h
  | succ n =>
   rw [zAx] at h
   refine VE ?_
   refine zK ?_
   refine VC h (fun h => ?_) (fun h => ?_)
   ·refine zH ?_
    show V _ _ _ _
    refine zK ?_
    refine zN ?_
    obtain ⟨e7, he7, h⟩ := zA h
    refine VS ?_
    refine L0 rfl rfl (zBG (c := c5) (xs := b1) (v := e7) (n := t3) Tryz.underlying48 sz5 rfl kk kk he7) ?_
    refine YF ?_
    obtain ⟨vn8, hvn8, h⟩ := zT h
    refine jC (mb 20 456) [] (s1 := ⟨bt 3 (I vn8 :: .bot :: .bot :: .c (.sl (b1.map c5)) :: I ((b1.length : Int)) :: I t3 :: bt 11 []), []⟩) ?_ ?_
    ·refine XR 3 ?_
     refine L0 rfl rfl (zFD (k2 := .u8) (a := e7) Tryz.underlying5 Tryz.underlying3 rfl kk) ?_
     refine XR 1 ?_
     refine L0 rfl rfl (zEy (k := .i64) (a := w64 ((w64 (31 * vn2)) + (IntKind.i64.wrap e7))) (b := 1000003) rfl kk kk (by decide)) ?_
     refine XR 1 ?_
     refine zM ?_
     subst hvn8
     kernel_rfl
    show V _ _ _ _
    obtain ⟨t9, ht9, h⟩ := zT h
    refine jC (mb 20 456) [] (s1 := ⟨bt 3 (I vn8 :: .bot :: .bot :: .c (.sl (b1.map c5)) :: I ((b1.length : Int)) :: I t9 :: bt 11 []), []⟩) ?_ ?_
    ·refine XR 2 ?_
     refine zM ?_
     subst ht9
     kernel_rfl
    exact ⟨n, Nat.lt_succ_self n, _, _,  kk, h⟩
   ·refine jE ?_
    obtain rfl := zB h
    show St.keep _ _ _ = _
    kernel_rfl
 show V _ _ _ _
 refine VE ?_
 cases h
 exact zF VT
theorem zHJ {code1 : List Int} {more2 : List Int} {r : Bool} (h : zCT code1 more2 = some r) : zV Tryz.prog 9 [.c (.sl (code1.map c5)), .c (.sl (more2.map c5))] (Bo r) [] := by
 refine CtW [4] Tryz.func9 rfl rfl 190 ?_
 unfold zCT at h
 refine VE ?_
 refine zK ?_
 obtain ⟨y3, hy3, h⟩ := zA h
 refine VS ?_
 refine YK 2 (s_laws_big hy3) cf_laws_big ?_
 refine YF ?_
 refine VC h (fun h => ?_) (fun h => ?_)
 ·refine VE ?_
  cases h
  exact zF VT
 ·refine zH ?_
  show V _ _ _ _
  obtain ⟨y5, hy5, h⟩ := zA h
  refine VS ?_
  refine YK 1 (zGA hy5) zFm ?_
  refine YF ?_
  obtain ⟨y6, hy6, h⟩ := zA h
  refine VS ?_
  refine YK 2 (zH6 hy6) zHR ?_
  refine YF ?_
  obtain ⟨y7, hy7, h⟩ := zA h
  refine VS ?_
  refine YK 2 (zH3 hy7) zHO ?_
  refine YF ?_
  refine zK ?_
  obtain ⟨t9, ht9, h⟩ := zA h
  have ht9 := zB ht9
  refine zO (mb 190 18446744073709552098) [48] (s1 := ⟨.bot :: .c (.sl (more2.map c5)) :: bt 3 (.c (.v (.string y5.1)) :: .pt 48 0 :: .c (.v (.string y6.1)) :: I y6.2 :: bt 55 (Bo t9 :: bt 125 [])), [(48, .box [Ti y5.2.1, .v (.string y5.2.2.1), .v (.string y5.2.2.2.1), .v (.string y5.2.2.2.2.1), Ti y5.2.2.2.2.2.1, Ti y5.2.2.2.2.2.2.1, Ti y5.2.2.2.2.2.2.2])]⟩) ?_ ?_
  ·refine YR 4 ?_
   refine zE (!(y6.1.toList == y7.1.toList)) (fun hc8 => ?_) (fun hc8 => ?_)
   ·refine YQ hc8 ?_
    exact YE (by rw [← ht9]; (try rw [hc8]); kernel_rfl)
   ·refine YQ hc8 ?_
    exact YE (by rw [← ht9]; (try rw [hc8]); kernel_rfl)
  refine VC h (fun h => ?_) (fun h => ?_)
  ·refine VE ?_
   cases h
   exact zF VT
  ·refine zH ?_
   show V _ _ _ _
   obtain ⟨y11, hy11, h⟩ := zA h
   refine VS ?_
   refine YK 1 (zBc hy11) zB1 ?_
   refine YF ?_
   obtain ⟨y12, hy12, h⟩ := zA h
   refine VS ?_
   refine YK 1 (zH2 hy12) zHN ?_
   refine YF ?_
   refine zK ?_
   obtain ⟨t15, ht15, h⟩ := zA h
   have ht15 := zB ht15
   refine zO (mb 190 2475880078570760549798279650) [536, 48] (s1 := ⟨.bot :: .c (.sl (more2.map c5)) :: bt 3 (.c (.v (.string y5.1)) :: .pt 48 0 :: .c (.v (.string y6.1)) :: I y6.2 :: .bot :: .bot :: .ow 536 :: I y11.2.1 :: I y11.2.2.1 :: Bo y11.2.2.2 :: bt 76 (Bo t15 :: bt 98 [])), [(536, .arr 73 4 (y11.1.map c73)), (48, .box [Ti y5.2.1, .v (.string y5.2.2.1), .v (.string y5.2.2.2.1), .v (.string y5.2.2.2.2.1), Ti y5.2.2.2.2.2.1, Ti y5.2.2.2.2.2.2.1, Ti y5.2.2.2.2.2.2.2])]⟩) ?_ ?_
   ·refine YR 4 ?_
    refine zE (y11.2.2.2 != y12.2.2.2) (fun hc13 => ?_) (fun hc13 => ?_)
    ·refine YQ hc13 ?_
     refine YR 5 ?_
     refine zE (bif (y11.2.2.2 != y12.2.2.2) then true else (!eqI y11.2.1 y12.2.1)) (fun hc14 => ?_) (fun hc14 => ?_)
     ·refine YQ hc14 ?_ (by rw [hc13]; kernel_rfl)
      exact YE (by rw [← ht15]; (try rw [hc14]); (try rw [hc13]); kernel_rfl)
     ·refine YQ hc14 ?_ (by rw [hc13]; kernel_rfl)
      exact YE (by rw [← ht15]; (try rw [hc14]); (try rw [hc13]); kernel_rfl)
    ·refine YQ hc13 ?_
     refine YR 5 ?_
     refine zE (bif (y11.2.2.2 != y12.2.2.2) then true else (!eqI y11.2.1 y12.2.1)) (fun hc14 => ?_) (fun hc14 => ?_)
     ·refine YQ hc14 ?_ (by rw [hc13]; kernel_rfl)
      exact YE (by rw [← ht15]; (try rw [hc14]); (try rw [hc13]); kernel_rfl)
     ·refine YQ hc14 ?_ (by rw [hc13]; kernel_rfl)
      exact YE (by rw [← ht15]; (try rw [hc14]); (try rw [hc13]); kernel_rfl)
   refine VC h (fun h => ?_) (fun h => ?_)
   ·refine VE ?_
    cases h
    exact zF VT
   ·refine zH ?_
    show V _ _ _ _
    refine zK ?_
    refine VE ?_
    refine VC h (fun h => ?_) (fun h => ?_)
    ·refine VE ?_
     cases h
     exact zF VT
    ·refine zH ?_
     show V _ _ _ _
     obtain ⟨qo18, hLo18, hko18⟩ := zA h
     clear h
     refine V_cutS (q := qo18) (S := fun o18 => ⟨.bot :: .c (.sl (more2.map c5)) :: bt 3 (.c (.v (.string y5.1)) :: bt 5 (.ow 536 :: .bot :: I y11.2.2.1 :: bt 176 [])), [(536, .arr 73 4 (y11.1.map c73))]⟩) (mb 190 10274) [536] ?_ ?_
     ·have h := hLo18
      clear hLo18
      refine VE ?_
      refine VC h (fun h => ?_) (fun h => ?_)
      ·obtain ⟨y20, hy20, h⟩ := zA h
       refine VS ?_
       refine YR 2 ?_
       refine L1 rfl rfl (zBy (zJX hy20) zJH rfl kk rfl (zGn (fun _ => rfl) rfl)) ?_
       refine YF ?_
       obtain ⟨y21, hy21, h⟩ := zA h
       refine VS ?_
       refine YK 1 (zBc hy21) zB1 ?_
       refine YF ?_
       obtain ⟨b26, hb26, h⟩ := zA h
       refine zO (mb 190 85070591730234615865843651857942063138) [536] (s1 := ⟨.bot :: .c (.sl (more2.map c5)) :: bt 3 (.c (.v (.string y5.1)) :: bt 5 (.ow 536 :: .bot :: I y11.2.2.1 :: bt 112 (Bo b26 :: bt 63 []))), [(536, .arr 73 4 (y11.1.map c73))]⟩) ?_ ?_
       ·refine YR 3 ?_
        refine zE (!eqI y20.2 0) (fun hc22 => ?_) (fun hc22 => ?_)
        ·refine YQ hc22 ?_
         refine YR 4 ?_
         refine zE (bif (!eqI y20.2 0) then true else (!y21.2.2.2)) (fun hc23 => ?_) (fun hc23 => ?_)
         ·refine YQ hc23 ?_ (by rw [hc22]; kernel_rfl)
          refine YR 6 ?_
          refine zE (bif (bif (!eqI y20.2 0) then true else (!y21.2.2.2)) then true else (!eqI y21.2.1 (w64 (y11.2.1 + 1)))) (fun hc24 => ?_) (fun hc24 => ?_)
          ·have hb26 := zB (qH hb26 hc24)
           refine YQ hc24 ?_ (by rw [hc23]; (try rw [hc22]); kernel_rfl)
           exact YE (by rw [← hb26]; (try rw [hc24]); (try rw [hc23]); (try rw [hc22]); kernel_rfl)
          ·have hb26 := z7 hb26 hc24
           obtain ⟨y25, hy25, hb26⟩ := zA hb26
           have hb26 := zB hb26
           refine YQ hc24 ?_ (by rw [hc23]; (try rw [hc22]); kernel_rfl)
           refine YR 2 ?_
           refine YT (zBo rfl (zBy (zAP hy25) zAF rfl kk rfl rfl)) ?_
           exact YE (by rw [← hb26]; (try rw [hc24]); (try rw [hc23]); (try rw [hc22]); kernel_rfl)
         ·refine YQ hc23 ?_ (by rw [hc22]; kernel_rfl)
          refine YR 6 ?_
          refine zE (bif (bif (!eqI y20.2 0) then true else (!y21.2.2.2)) then true else (!eqI y21.2.1 (w64 (y11.2.1 + 1)))) (fun hc24 => ?_) (fun hc24 => ?_)
          ·have hb26 := zB (qH hb26 hc24)
           refine YQ hc24 ?_ (by rw [hc23]; (try rw [hc22]); kernel_rfl)
           exact YE (by rw [← hb26]; (try rw [hc24]); (try rw [hc23]); (try rw [hc22]); kernel_rfl)
          ·have hb26 := z7 hb26 hc24
           obtain ⟨y25, hy25, hb26⟩ := zA hb26
           have hb26 := zB hb26
           refine YQ hc24 ?_ (by rw [hc23]; (try rw [hc22]); kernel_rfl)
           refine YR 2 ?_
           refine YT (zBo rfl (zBy (zAP hy25) zAF rfl kk rfl rfl)) ?_
           exact YE (by rw [← hb26]; (try rw [hc24]); (try rw [hc23]); (try rw [hc22]); kernel_rfl)
        ·refine YQ hc22 ?_
         refine YR 4 ?_
         refine zE (bif (!eqI y20.2 0) then true else (!y21.2.2.2)) (fun hc23 => ?_) (fun hc23 => ?_)
         ·refine YQ hc23 ?_ (by rw [hc22]; kernel_rfl)
          refine YR 6 ?_
          refine zE (bif (bif (!eqI y20.2 0) then true else (!y21.2.2.2)) then true else (!eqI y21.2.1 (w64 (y11.2.1 + 1)))) (fun hc24 => ?_) (fun hc24 => ?_)
          ·have hb26 := zB (qH hb26 hc24)
           refine YQ hc24 ?_ (by rw [hc23]; (try rw [hc22]); kernel_rfl)
           exact YE (by rw [← hb26]; (try rw [hc24]); (try rw [hc23]); (try rw [hc22]); kernel_rfl)
          ·have hb26 := z7 hb26 hc24
           obtain ⟨y25, hy25, hb26⟩ := zA hb26
           have hb26 := zB hb26
           refine YQ hc24 ?_ (by rw [hc23]; (try rw [hc22]); kernel_rfl)
           refine YR 2 ?_
           refine YT (zBo rfl (zBy (zAP hy25) zAF rfl kk rfl rfl)) ?_
           exact YE (by rw [← hb26]; (try rw [hc24]); (try rw [hc23]); (try rw [hc22]); kernel_rfl)
         ·refine YQ hc23 ?_ (by rw [hc22]; kernel_rfl)
          refine YR 6 ?_
          refine zE (bif (bif (!eqI y20.2 0) then true else (!y21.2.2.2)) then true else (!eqI y21.2.1 (w64 (y11.2.1 + 1)))) (fun hc24 => ?_) (fun hc24 => ?_)
          ·have hb26 := zB (qH hb26 hc24)
           refine YQ hc24 ?_ (by rw [hc23]; (try rw [hc22]); kernel_rfl)
           exact YE (by rw [← hb26]; (try rw [hc24]); (try rw [hc23]); (try rw [hc22]); kernel_rfl)
          ·have hb26 := z7 hb26 hc24
           obtain ⟨y25, hy25, hb26⟩ := zA hb26
           have hb26 := zB hb26
           refine YQ hc24 ?_ (by rw [hc23]; (try rw [hc22]); kernel_rfl)
           refine YR 2 ?_
           refine YT (zBo rfl (zBy (zAP hy25) zAF rfl kk rfl rfl)) ?_
           exact YE (by rw [← hb26]; (try rw [hc24]); (try rw [hc23]); (try rw [hc22]); kernel_rfl)
       refine VC h (fun h => ?_) (fun h => ?_)
       ·refine VE ?_
        refine zF ?_
        obtain rfl := zB h
        have h := hko18
        obtain rfl := zB h
        exact VT
       ·refine zH ?_
        obtain rfl := zB h
        exact ⟨_, rfl, kk⟩
      ·refine zH ?_
       obtain rfl := zB h
       exact ⟨_, rfl, kk⟩
     rintro o18 rfl
     have h := hko18
     clear hko18
     obtain ⟨y28, hy28, h⟩ := zA h
     refine VS ?_
     refine YK 1 (zHK hy28) zGu ?_
     refine YF ?_
     obtain ⟨y29, hy29, h⟩ := zA h
     refine VS ?_
     refine YK 1 (zBc hy29) zB1 ?_
     refine YF ?_
     refine zK ?_
     obtain ⟨b34, hb34, h⟩ := zA h
     refine zO (mb 190 91343852333181432387730302044767688728495792162) [] (s1 := ⟨.bot :: .c (.sl (more2.map c5)) :: bt 3 (.c (.v (.string y5.1)) :: bt 7 (I y11.2.2.1 :: bt 142 (Bo b34 :: bt 33 []))), []⟩) ?_ ?_
     ·refine YR 3 ?_
      refine zE (!y28.2) (fun hc30 => ?_) (fun hc30 => ?_)
      ·refine YQ hc30 ?_
       refine YR 4 ?_
       refine zE (bif (!y28.2) then true else (!y29.2.2.2)) (fun hc31 => ?_) (fun hc31 => ?_)
       ·refine YQ hc31 ?_ (by rw [hc30]; kernel_rfl)
        refine YR 6 ?_
        refine zE (bif (bif (!y28.2) then true else (!y29.2.2.2)) then true else (!eqI y29.2.2.1 ((y28.1.size : Int)))) (fun hc32 => ?_) (fun hc32 => ?_)
        ·have hb34 := zB (qH hb34 hc32)
         refine YQ hc32 ?_ (by rw [hc31]; (try rw [hc30]); kernel_rfl)
         exact YE (by rw [← hb34]; (try rw [hc32]); (try rw [hc31]); (try rw [hc30]); kernel_rfl)
        ·have hb34 := z7 hb34 hc32
         obtain ⟨y33, hy33, hb34⟩ := zA hb34
         have hb34 := zB hb34
         refine YQ hc32 ?_ (by rw [hc31]; (try rw [hc30]); kernel_rfl)
         refine YR 2 ?_
         refine YT (zBo rfl (zBy (zAP hy33) zAF rfl kk rfl rfl)) ?_
         exact YE (by rw [← hb34]; (try rw [hc32]); (try rw [hc31]); (try rw [hc30]); kernel_rfl)
       ·refine YQ hc31 ?_ (by rw [hc30]; kernel_rfl)
        refine YR 6 ?_
        refine zE (bif (bif (!y28.2) then true else (!y29.2.2.2)) then true else (!eqI y29.2.2.1 ((y28.1.size : Int)))) (fun hc32 => ?_) (fun hc32 => ?_)
        ·have hb34 := zB (qH hb34 hc32)
         refine YQ hc32 ?_ (by rw [hc31]; (try rw [hc30]); kernel_rfl)
         exact YE (by rw [← hb34]; (try rw [hc32]); (try rw [hc31]); (try rw [hc30]); kernel_rfl)
        ·have hb34 := z7 hb34 hc32
         obtain ⟨y33, hy33, hb34⟩ := zA hb34
         have hb34 := zB hb34
         refine YQ hc32 ?_ (by rw [hc31]; (try rw [hc30]); kernel_rfl)
         refine YR 2 ?_
         refine YT (zBo rfl (zBy (zAP hy33) zAF rfl kk rfl rfl)) ?_
         exact YE (by rw [← hb34]; (try rw [hc32]); (try rw [hc31]); (try rw [hc30]); kernel_rfl)
      ·refine YQ hc30 ?_
       refine YR 4 ?_
       refine zE (bif (!y28.2) then true else (!y29.2.2.2)) (fun hc31 => ?_) (fun hc31 => ?_)
       ·refine YQ hc31 ?_ (by rw [hc30]; kernel_rfl)
        refine YR 6 ?_
        refine zE (bif (bif (!y28.2) then true else (!y29.2.2.2)) then true else (!eqI y29.2.2.1 ((y28.1.size : Int)))) (fun hc32 => ?_) (fun hc32 => ?_)
        ·have hb34 := zB (qH hb34 hc32)
         refine YQ hc32 ?_ (by rw [hc31]; (try rw [hc30]); kernel_rfl)
         exact YE (by rw [← hb34]; (try rw [hc32]); (try rw [hc31]); (try rw [hc30]); kernel_rfl)
        ·have hb34 := z7 hb34 hc32
         obtain ⟨y33, hy33, hb34⟩ := zA hb34
         have hb34 := zB hb34
         refine YQ hc32 ?_ (by rw [hc31]; (try rw [hc30]); kernel_rfl)
         refine YR 2 ?_
         refine YT (zBo rfl (zBy (zAP hy33) zAF rfl kk rfl rfl)) ?_
         exact YE (by rw [← hb34]; (try rw [hc32]); (try rw [hc31]); (try rw [hc30]); kernel_rfl)
       ·refine YQ hc31 ?_ (by rw [hc30]; kernel_rfl)
        refine YR 6 ?_
        refine zE (bif (bif (!y28.2) then true else (!y29.2.2.2)) then true else (!eqI y29.2.2.1 ((y28.1.size : Int)))) (fun hc32 => ?_) (fun hc32 => ?_)
        ·have hb34 := zB (qH hb34 hc32)
         refine YQ hc32 ?_ (by rw [hc31]; (try rw [hc30]); kernel_rfl)
         exact YE (by rw [← hb34]; (try rw [hc32]); (try rw [hc31]); (try rw [hc30]); kernel_rfl)
        ·have hb34 := z7 hb34 hc32
         obtain ⟨y33, hy33, hb34⟩ := zA hb34
         have hb34 := zB hb34
         refine YQ hc32 ?_ (by rw [hc31]; (try rw [hc30]); kernel_rfl)
         refine YR 2 ?_
         refine YT (zBo rfl (zBy (zAP hy33) zAF rfl kk rfl rfl)) ?_
         exact YE (by rw [← hb34]; (try rw [hc32]); (try rw [hc31]); (try rw [hc30]); kernel_rfl)
     refine VC h (fun h => ?_) (fun h => ?_)
     ·refine VE ?_
      cases h
      exact zF VT
     ·refine zH ?_
      show V _ _ _ _
      refine zK ?_
      refine VE ?_
      refine VC h (fun h => ?_) (fun h => ?_)
      ·obtain ⟨y37, hy37, h⟩ := zA h
       obtain ⟨z38, hz38, h⟩ := zA h
       obtain ⟨vat39, hvat39, h⟩ := zT h
       refine zO (mb 190 2147483682) [] (s1 := ⟨.bot :: .c (.sl (more2.map c5)) :: bt 3 (.c (.v (.string y5.1)) :: bt 25 (I vat39 :: bt 158 [])), []⟩) ?_ ?_
       ·refine XR 1 ?_
        refine XC (zKo hy37) zKY rfl rfl rfl ?_
        refine XR 1 ?_
        refine L0 rfl rfl (zEy (k := .i64) (a := y37) (b := y11.2.2.1) rfl kk kk (zAA hz38)) ?_
        refine XR 1 ?_
        refine zM ?_
        subst hvat39
        kernel_rfl
       obtain ⟨q40, hq40, h⟩ := zA h
       refine jF (mb 190 2147483682) [] (s' := ⟨.bot :: .c (.sl (more2.map c5)) :: bt 3 (.c (.v (.string y5.1)) :: bt 25 (I vat39 :: bt 158 [])), []⟩) kk ?_
       obtain ⟨bj, hbj, bu, ebk, ebu, ebq⟩ := bendB_some hq40
       refine V_bytes ?_
       refine XZ_1 ?_
       refine XZ_new (str := y5.1) Tryz.underlying9 Tryz.underlying48 Tryz.underlying5 rfl rfl rfl fun bb bcap => ?_
       refine XYB_1 ?_
       refine XYB_nil ?_
       refine YB_reg ?_
       refine XYB_1 ?_
       refine zED rfl (qB rfl (zK3 (I vat39) rfl kk)) ?_
       refine zED rfl (qB rfl (Y0_idxY (b := bb) (n := y5.1.size) (cap := bcap) (k := bj) Tryz.underlying48 sz5 rfl kk kk ebk hbj)) ?_
       refine XYB_load sc5 rfl rfl rfl hbj kk ?_
       refine zED rfl (qB rfl (zK3 (.c (.sl (more2.map c5))) rfl kk)) ?_
       refine zED rfl (qB rfl (qQ (c := c5) (xs := more2) Tryz.underlying48 rfl kk)) ?_
       refine zED rfl (qB rfl (zEy (k := .i64) (a := (more2.length : Int)) (b := 200) rfl kk kk (by decide))) ?_
       refine zED rfl (qB rfl (Y0_add64 (a := 1) (b := Int.tmod ((more2.length : Int)) 200) rfl kk kk)) ?_
       refine zED rfl (qB rfl (zFD (k2 := .i64) (a := w64 (1 + (Int.tmod ((more2.length : Int)) 200))) Tryz.underlying3 Tryz.underlying5 rfl kk)) ?_
       refine zED rfl (qB rfl (Y0_xor (k := .u8) (a := ((y5.1.data.toList[bj]'hbj).toNat : Int)) (b := IntKind.u8.wrap (w64 (1 + (Int.tmod ((more2.length : Int)) 200)))) rfl kk kk)) ?_
       refine zED rfl (qB rfl (Y0_idxY (b := bb) (n := y5.1.size) (cap := bcap) (k := bj) Tryz.underlying48 sz5 rfl kk kk ebk hbj)) ?_
       refine XYB_store (u := bu) sz5 rfl rfl rfl hbj ebu kk kk kk ?_
       refine XYB_nil ?_
       refine YP_reg ?_
       refine XYP_1 ?_
       refine XYP_back (n := y5.1.size) (cap := bcap) Tryz.underlying48 Tryz.underlying5 Tryz.underlying9 rfl rfl rfl (by rw [List.length_set]; rfl) kk ebq ?_
       obtain ⟨y41, hy41, h⟩ := zA h
       refine XL_toK (mb 190 105226698752) [] (s1 := ⟨bt 31 (I vat39 :: bt 3 (I y41.2.2.1 :: Bo y41.2.2.2 :: bt 153 [])), []⟩) ?_ ?_
       ·refine XC (zBc hy41) zB1 rfl rfl rfl ?_
        exact XE
       refine zO (mb 190 16) [] (s1 := ⟨bt 4 (Bo (bif y41.2.2.2 then (leI y41.2.2.1 vat39) else false) :: bt 185 []), []⟩) ?_ ?_
       ·refine YR 2 ?_
        refine zE y41.2.2.2 (fun hc42 => ?_) (fun hc42 => ?_)
        ·refine YQ hc42 ?_
         exact YE (by rw [hc42]; kernel_rfl)
        ·refine YQ hc42 ?_
         exact YE (by rw [hc42]; kernel_rfl)
       cases h
       exact zF VT
      ·refine zH ?_
       show V _ _ _ _
       refine VE ?_
       cases h
       exact zF VT
end Go.Proofs.YtfmjfofocklgpaaGreatDoor
