/-
  Rules of walks, plain functions and their laws, part 6.
  Conditions: none.
-/
import Derived.Test.YtfmjfofocklgpaaGreatDoorCkz5
namespace Go.Proofs.YtfmjfofocklgpaaGreatDoor
open Go.RowKit
set_option linter.unusedVariables false
set_option linter.unusedSimpArgs false
set_option maxRecDepth 100000
set_option maxHeartbeats 400000
theorem cf_impl_parts_claim : CfW Tryz.prog 44 := cfW Tryz.func44
theorem s_impl_parts_claim {c1 : (ByteArray × (List ((Int × Int × Int))) × (List ((Int × Int × Int × Int))) × (List Int))} {r : Bool} (h : zP c1 = some r) : zQ Tryz.prog 44 [.ag [.v (.string c1.1), .sl (c1.2.1.map c38), .sl (c1.2.2.1.map c109), .sl (c1.2.2.2.map c3)]] (Bo r) [] := by
 refine CtW [2] Tryz.func44 rfl rfl 210 ?_
 unfold zP at h
 refine VE ?_
 refine VDS [0, 1, 0, 4, 0, 16, 3, 79, 255] 9 (cdm 9 [2720, 2721, 10762, 10778, 41130, 41386, 2725, 6741, 21845]) ?_
 refine EF 9 ?_
 refine zG ?_
 refine VE ?_
 refine zH ?_
 obtain ⟨t2, ht2, h⟩ := zA h
 have ht2 := zB ht2
 refine zO (mb 210 98360) [] (s1 := ⟨bt 3 (.c (.sl (c1.2.1.map c38)) :: .c (.sl (c1.2.2.1.map c109)) :: .c (.sl (c1.2.2.2.map c3)) :: bt 9 (.c (.v (.string c1.1)) :: Bo t2 :: bt 193 [])), []⟩) ?_ ?_
 ·refine L0 rfl rfl (Y0_eqs (a := c1.1) (b := ((⟨#[101, 113, 117, 105, 118, 97, 108, 101, 110, 116]⟩ : ByteArray))) rfl kk kk) ?_
  refine XR 1 ?_
  refine zD ?_
  subst ht2
  kernel_rfl
 refine VC h (fun h => ?_) (fun h => ?_)
 ·obtain ⟨e4, he4, h⟩ := zA h
  obtain ⟨e5, he5, h⟩ := zA h
  obtain ⟨e6, he6, h⟩ := zA h
  obtain ⟨y7, hy7, h⟩ := zA h
  refine VDS [0, 1, 3, 0, 8, 24, 0, 64, 192, 511, 1023] 11 (cdm 11 [174720, 174721, 174725, 172074, 172138, 172394, 2730, 6826, 23210, 87381, 349525]) ?_
  refine ER 1 ?_
  refine E0 1 rfl rfl (zM (c := c38) (xs := c1.2.1) (v := e4) (n := 0) Tryz.underlying59 sz38 rfl kk kk he4) ?_
  refine ER 2 ?_
  refine E0 4 rfl rfl (zM (c := c109) (xs := c1.2.2.1) (v := e5) (n := 0) Tryz.underlying60 sz109 rfl kk kk he5) ?_
  refine ER 2 ?_
  refine E0 7 rfl rfl (zM (c := c38) (xs := c1.2.1) (v := e6) (n := 1) Tryz.underlying59 sz38 rfl kk kk he6) ?_
  refine EK 1 (s_impl_makesOf hy7) cf_impl_makesOf ?_
  refine EF 1 ?_
  cases h
  exact zJ VT
 ·obtain ⟨t8, ht8, h⟩ := zA h
  have ht8 := zB ht8
  refine zO (mb 210 268468280) [] (s1 := ⟨bt 3 (.c (.sl (c1.2.1.map c38)) :: .c (.sl (c1.2.2.1.map c109)) :: .c (.sl (c1.2.2.2.map c3)) :: bt 9 (.c (.v (.string c1.1)) :: bt 12 (Bo t8 :: bt 181 []))), []⟩) ?_ ?_
  ·refine L0 rfl rfl (Y0_eqs (a := c1.1) (b := ((⟨#[100, 105, 102, 102, 101, 114, 101, 110, 116]⟩ : ByteArray))) rfl kk kk) ?_
   refine XR 1 ?_
   refine zD ?_
   subst ht8
   kernel_rfl
  refine VC h (fun h => ?_) (fun h => ?_)
  ·obtain ⟨e10, he10, h⟩ := zA h
   obtain ⟨y11, hy11, h⟩ := zA h
   obtain ⟨b15, hb15, h⟩ := zA h
   obtain ⟨b21, hb21, h⟩ := zA h
   obtain ⟨b27, hb27, h⟩ := zA h
   obtain ⟨b31, hb31, h⟩ := zA h
   obtain ⟨b35, hb35, h⟩ := zA h
   obtain ⟨b39, hb39, h⟩ := zA h
   refine V_sdreg [0, 1, 3, 7, 15, 31, 63, 127, 255, 511, 1023, 2047, 4095, 8191, 2047, 18431, 51199, 2047, 133119, 395263, 1048575, 2097151, 4194303, 8388607, 16777215, 33554431, 8388607, 75497471, 209715199, 8388607, 545259519, 1619001343, 4294967295, 8589934591, 17179869183, 34359738367, 68719476735, 137438953471, 274877906943, 549755813887, 1099511627775, 2199023255551, 4398046511103, 8796093022207, 17592186044415, 35184372088831, 70368744177663, 140737488355327, 281474976710655, 562949953421311, 140737488355327, 1266637395197951, 3518437208883199, 9007199254740991, 18014398509481983, 36028797018963967] 56 (cdm 56 [0, 1, 5, 21, 85, 341, 1365, 5461, 21845, 87381, 349525, 732830192981, 732834387285, 732851164501, 721732064597, 722000500053, 723074241877, 11451848021, 28631717205, 97351193941, 366503875925, 1466015503701, 5864062014805, 12294850438969513301, 12294920807713690965, 12295202282690401621, 12108654741875414357, 12113158341502784853, 12131172740012266837, 192130127853081941, 480360504004793685, 1633282008611640661, 6148914691236517205, 24595658764946068821, 98382635059784275285, 393530540239137101141, 1574122160956548404565, 6296488643826193618261, 25185954575304774473045, 100743818301219097892181, 402975273204876391568725, 1611901092819505566274901, 6447604371278022265099605, 25790417485112089060398421, 103161669940448356241593685, 412646679761793424966374741, 1650586719047173699865498965, 53247927556461823557660996621653, 53267734597090389642059382609237, 53346962759604653979652926559573, 838498053275964239531673474389, 2106148653504193641028376679765, 7176751054417111247015189501269, 27043212804868893898596335048021, 108172851219475575594385340192085, 432691404877902302377541360768341]) (mb 210 4) [] (s1 := ⟨.bot :: .bot :: Bo b39 :: bt 207 [], []⟩) kk kk ?_ ?_
   ·refine ER 1 ?_
    refine E0 1 rfl rfl (zM (c := c38) (xs := c1.2.1) (v := e10) (n := 0) Tryz.underlying59 sz38 rfl kk kk he10) ?_
    refine EK 1 (s_impl_isDefinite hy11) cf_impl_isDefinite ?_
    refine ER 1 ?_
    refine DL_split y11 (fun hc12 => ?_) (fun hc12 => ?_)
    ·have hb15 := zN hb15 hc12
     obtain ⟨e13, he13, hb15⟩ := zA hb15
     obtain ⟨y14, hy14, hb15⟩ := zA hb15
     have hb15 := zB hb15
     refine EQ hc12 ?_
     refine ER 1 ?_
     refine E0 6 rfl rfl (zM (c := c38) (xs := c1.2.1) (v := e13) (n := 2) Tryz.underlying59 sz38 rfl kk kk he13) ?_
     refine EK 1 (s_impl_isDefinite hy14) cf_impl_isDefinite ?_
     refine ER 2 ?_
     refine DL_split b15 (fun hc16 => ?_) (fun hc16 => ?_)
     ·have hb21 := zN hb21 hc16
      obtain ⟨e17, he17, hb21⟩ := zA hb21
      obtain ⟨e18, he18, hb21⟩ := zA hb21
      obtain ⟨e19, he19, hb21⟩ := zA hb21
      obtain ⟨y20, hy20, hb21⟩ := zA hb21
      have hb21 := zB hb21
      refine EQ hc16 ?_ (by rw [← hb15]; (try rw [← hb21]); (try rw [hc12]); kernel_rfl)
      refine ER 1 ?_
      refine E0 12 rfl rfl (zM (c := c38) (xs := c1.2.1) (v := e17) (n := 0) Tryz.underlying59 sz38 rfl kk kk he17) ?_
      refine ER 2 ?_
      refine E0 15 rfl rfl (zM (c := c109) (xs := c1.2.2.1) (v := e18) (n := 0) Tryz.underlying60 sz109 rfl kk kk he18) ?_
      refine ER 2 ?_
      refine E0 18 rfl rfl (zM (c := c38) (xs := c1.2.1) (v := e19) (n := 1) Tryz.underlying59 sz38 rfl kk kk he19) ?_
      refine EK 1 (s_impl_makesOf hy20) cf_impl_makesOf ?_
      refine ER 2 ?_
      refine DL_split b21 (fun hc22 => ?_) (fun hc22 => ?_)
      ·have hb27 := zN hb27 hc22
       obtain ⟨e23, he23, hb27⟩ := zA hb27
       obtain ⟨e24, he24, hb27⟩ := zA hb27
       obtain ⟨e25, he25, hb27⟩ := zA hb27
       obtain ⟨y26, hy26, hb27⟩ := zA hb27
       have hb27 := zB hb27
       refine EQ hc22 ?_ (by rw [← hb21]; (try rw [← hb27]); (try rw [hc12]); (try rw [hc16]); kernel_rfl)
       refine ER 1 ?_
       refine E0 24 rfl rfl (zM (c := c38) (xs := c1.2.1) (v := e23) (n := 2) Tryz.underlying59 sz38 rfl kk kk he23) ?_
       refine ER 2 ?_
       refine E0 27 rfl rfl (zM (c := c109) (xs := c1.2.2.1) (v := e24) (n := 1) Tryz.underlying60 sz109 rfl kk kk he24) ?_
       refine ER 2 ?_
       refine E0 30 rfl rfl (zM (c := c38) (xs := c1.2.1) (v := e25) (n := 3) Tryz.underlying59 sz38 rfl kk kk he25) ?_
       refine EK 1 (s_impl_makesOf hy26) cf_impl_makesOf ?_
       refine ER 2 ?_
       refine DL_split b27 (fun hc28 => ?_) (fun hc28 => ?_)
       ·have hb31 := zN hb31 hc28
        obtain ⟨e29, he29, hb31⟩ := zA hb31
        obtain ⟨y30, hy30, hb31⟩ := zA hb31
        have hb31 := zB hb31
        refine EQ hc28 ?_ (by rw [← hb27]; (try rw [← hb31]); (try rw [hc12]); (try rw [hc16]); (try rw [hc22]); kernel_rfl)
        refine ER 1 ?_
        refine E0 36 rfl rfl (zM (c := c38) (xs := c1.2.1) (v := e29) (n := 1) Tryz.underlying59 sz38 rfl kk kk he29) ?_
        refine EK 1 (s_impl_Form_isReduced hy30) cf_impl_Form_isReduced ?_
        refine ER 2 ?_
        refine DL_split b31 (fun hc32 => ?_) (fun hc32 => ?_)
        ·have hb35 := zN hb35 hc32
         obtain ⟨e33, he33, hb35⟩ := zA hb35
         obtain ⟨y34, hy34, hb35⟩ := zA hb35
         have hb35 := zB hb35
         refine EQ hc32 ?_ (by rw [← hb31]; (try rw [← hb35]); (try rw [hc12]); (try rw [hc16]); (try rw [hc22]); (try rw [hc28]); kernel_rfl)
         refine ER 1 ?_
         refine E0 42 rfl rfl (zM (c := c38) (xs := c1.2.1) (v := e33) (n := 3) Tryz.underlying59 sz38 rfl kk kk he33) ?_
         refine EK 1 (s_impl_Form_isReduced hy34) cf_impl_Form_isReduced ?_
         refine ER 2 ?_
         refine DL_split b35 (fun hc36 => ?_) (fun hc36 => ?_)
         ·have hb39 := zN hb39 hc36
          obtain ⟨e37, he37, hb39⟩ := zA hb39
          obtain ⟨e38, he38, hb39⟩ := zA hb39
          have hb39 := zB hb39
          refine EQ hc36 ?_ (by rw [← hb35]; (try rw [← hb39]); (try rw [hc12]); (try rw [hc16]); (try rw [hc22]); (try rw [hc28]); (try rw [hc32]); kernel_rfl)
          refine ER 1 ?_
          refine E0 48 rfl rfl (zM (c := c38) (xs := c1.2.1) (v := e37) (n := 1) Tryz.underlying59 sz38 rfl kk kk he37) ?_
          refine ER 2 ?_
          refine E0 51 rfl rfl (zM (c := c38) (xs := c1.2.1) (v := e38) (n := 3) Tryz.underlying59 sz38 rfl kk kk he38) ?_
          refine ER 1 ?_
          refine E0 53 rfl rfl (Y0_neg3 (a0 := e37.1) (b0 := e38.1) (a1 := e37.2.1) (b1 := e38.2.1) (a2 := e37.2.2) (b2 := e38.2.2) neg38 rfl kk kk) ?_
          refine EA 2 ?_
          exact YE (by rw [← hb39]; (try rw [hc12]); (try rw [hc16]); (try rw [hc22]); (try rw [hc28]); (try rw [hc32]); (try rw [hc36]); kernel_rfl)
         ·have hb39 := zB (zC hb39 hc36)
          refine EQ hc36 ?_ (by rw [← hb35]; (try rw [← hb39]); (try rw [hc12]); (try rw [hc16]); (try rw [hc22]); (try rw [hc28]); (try rw [hc32]); kernel_rfl)
          refine EA 9 ?_
          exact YE (by rw [← hb39]; (try rw [hc12]); (try rw [hc16]); (try rw [hc22]); (try rw [hc28]); (try rw [hc32]); (try rw [hc36]); kernel_rfl)
        ·have hb35 := zB (zC hb35 hc32)
         refine EQ hc32 ?_ (by rw [← hb31]; (try rw [← hb39]); (try rw [hc12]); (try rw [hc16]); (try rw [hc22]); (try rw [hc28]); kernel_rfl)
         refine ER 6 ?_
         subst hb35
         have hc36 : false = false := rfl
         have hb39 := zB (zC hb39 hc36)
         refine EA 9 ?_
         exact YE (by rw [← hb39]; (try rw [hc12]); (try rw [hc16]); (try rw [hc22]); (try rw [hc28]); (try rw [hc32]); kernel_rfl)
       ·have hb31 := zB (zC hb31 hc28)
        refine EQ hc28 ?_ (by rw [← hb27]; (try rw [← hb39]); (try rw [hc12]); (try rw [hc16]); (try rw [hc22]); kernel_rfl)
        refine ER 6 ?_
        subst hb31
        have hc32 : false = false := rfl
        have hb35 := zB (zC hb35 hc32)
        refine ER 6 ?_
        subst hb35
        have hc36 : false = false := rfl
        have hb39 := zB (zC hb39 hc36)
        refine EA 9 ?_
        exact YE (by rw [← hb39]; (try rw [hc12]); (try rw [hc16]); (try rw [hc22]); (try rw [hc28]); kernel_rfl)
      ·have hb27 := zB (zC hb27 hc22)
       refine EQ hc22 ?_ (by rw [← hb21]; (try rw [← hb39]); (try rw [hc12]); (try rw [hc16]); kernel_rfl)
       refine ER 12 ?_
       subst hb27
       have hc28 : false = false := rfl
       have hb31 := zB (zC hb31 hc28)
       refine ER 6 ?_
       subst hb31
       have hc32 : false = false := rfl
       have hb35 := zB (zC hb35 hc32)
       refine ER 6 ?_
       subst hb35
       have hc36 : false = false := rfl
       have hb39 := zB (zC hb39 hc36)
       refine EA 9 ?_
       exact YE (by rw [← hb39]; (try rw [hc12]); (try rw [hc16]); (try rw [hc22]); kernel_rfl)
     ·have hb21 := zB (zC hb21 hc16)
      refine EQ hc16 ?_ (by rw [← hb15]; (try rw [← hb39]); (try rw [hc12]); kernel_rfl)
      refine ER 12 ?_
      subst hb21
      have hc22 : false = false := rfl
      have hb27 := zB (zC hb27 hc22)
      refine ER 12 ?_
      subst hb27
      have hc28 : false = false := rfl
      have hb31 := zB (zC hb31 hc28)
      refine ER 6 ?_
      subst hb31
      have hc32 : false = false := rfl
      have hb35 := zB (zC hb35 hc32)
      refine ER 6 ?_
      subst hb35
      have hc36 : false = false := rfl
      have hb39 := zB (zC hb39 hc36)
      refine EA 9 ?_
      exact YE (by rw [← hb39]; (try rw [hc12]); (try rw [hc16]); kernel_rfl)
    ·have hb15 := zB (zC hb15 hc12)
     refine EQ hc12 ?_
     refine ER 6 ?_
     subst hb15
     have hc16 : false = false := rfl
     have hb21 := zB (zC hb21 hc16)
     refine ER 12 ?_
     subst hb21
     have hc22 : false = false := rfl
     have hb27 := zB (zC hb27 hc22)
     refine ER 12 ?_
     subst hb27
     have hc28 : false = false := rfl
     have hb31 := zB (zC hb31 hc28)
     refine ER 6 ?_
     subst hb31
     have hc32 : false = false := rfl
     have hb35 := zB (zC hb35 hc32)
     refine ER 6 ?_
     subst hb35
     have hc36 : false = false := rfl
     have hb39 := zB (zC hb39 hc36)
     refine EA 9 ?_
     exact YE (by rw [← hb39]; (try rw [hc12]); kernel_rfl)
   cases h
   exact zJ VT
  ·obtain ⟨t40, ht40, h⟩ := zA h
   have ht40 := zB ht40
   refine zO (mb 210 38685626227668133590630456) [] (s1 := ⟨bt 3 (.c (.sl (c1.2.1.map c38)) :: .c (.sl (c1.2.2.1.map c109)) :: .c (.sl (c1.2.2.2.map c3)) :: bt 9 (.c (.v (.string c1.1)) :: bt 69 (Bo t40 :: bt 124 []))), []⟩) ?_ ?_
   ·refine L0 rfl rfl (Y0_eqs (a := c1.1) (b := ((⟨#[118, 97, 108, 117, 101]⟩ : ByteArray))) rfl kk kk) ?_
    refine XR 1 ?_
    refine zD ?_
    subst ht40
    kernel_rfl
   refine VC h (fun h => ?_) (fun h => ?_)
   ·obtain ⟨e42, he42, h⟩ := zA h
    obtain ⟨e43, he43, h⟩ := zA h
    obtain ⟨e44, he44, h⟩ := zA h
    obtain ⟨y45, hy45, h⟩ := zA h
    obtain ⟨e46, he46, h⟩ := zA h
    obtain ⟨b51, hb51, h⟩ := zA h
    refine V_sdreg [0, 1, 3, 0, 8, 24, 0, 64, 192, 511, 0, 1024, 3072, 8191, 16383, 32767, 65535, 131071, 32767, 294911, 819199, 2097151, 4194303, 8388607, 16777215] 25 (cdm 25 [44214912, 44214913, 44214917, 44212266, 44212330, 44212586, 44042922, 44047018, 44063402, 44127573, 699050, 1747626, 5941930, 22369621, 89478485, 2886575936853, 2887649678677, 2891944645973, 45455070549, 114174547285, 389052454229, 1466015503701, 5864062014805, 23456248059221, 93824992236885]) (mb 210 4) [] (s1 := ⟨.bot :: .bot :: Bo b51 :: bt 207 [], []⟩) kk kk ?_ ?_
    ·refine ER 1 ?_
     refine E0 1 rfl rfl (zM (c := c38) (xs := c1.2.1) (v := e42) (n := 0) Tryz.underlying59 sz38 rfl kk kk he42) ?_
     refine ER 2 ?_
     refine E0 4 rfl rfl (zM (c := c3) (xs := c1.2.2.2) (v := e43) (n := 1) Tryz.underlying24 sz3 rfl kk kk he43) ?_
     refine ER 2 ?_
     refine E0 7 rfl rfl (zM (c := c3) (xs := c1.2.2.2) (v := e44) (n := 2) Tryz.underlying24 sz3 rfl kk kk he44) ?_
     refine EK 1 (s_impl_Form_at hy45) cf_impl_Form_at ?_
     refine ER 1 ?_
     refine E0 11 rfl rfl (zM (c := c3) (xs := c1.2.2.2) (v := e46) (n := 0) Tryz.underlying24 sz3 rfl kk kk he46) ?_
     refine ER 3 ?_
     refine DL_split (eqI y45 e46) (fun hc47 => ?_) (fun hc47 => ?_)
     ·have hb51 := zN hb51 hc47
      obtain ⟨e48, he48, hb51⟩ := zA hb51
      obtain ⟨e49, he49, hb51⟩ := zA hb51
      obtain ⟨y50, hy50, hb51⟩ := zA hb51
      have hb51 := zB hb51
      refine EQ hc47 ?_
      refine ER 1 ?_
      refine E0 16 rfl rfl (zM (c := c3) (xs := c1.2.2.2) (v := e48) (n := 1) Tryz.underlying24 sz3 rfl kk kk he48) ?_
      refine ER 2 ?_
      refine E0 19 rfl rfl (zM (c := c3) (xs := c1.2.2.2) (v := e49) (n := 2) Tryz.underlying24 sz3 rfl kk kk he49) ?_
      refine EK 1 (s_impl_gcd hy50) cf_impl_gcd ?_
      refine EA 3 ?_
      exact YE (by rw [← hb51]; (try rw [hc47]); kernel_rfl)
     ·have hb51 := zB (zC hb51 hc47)
      refine EQ hc47 ?_
      refine EA 10 ?_
      exact YE (by rw [← hb51]; (try rw [hc47]); kernel_rfl)
    cases h
    exact zJ VT
   ·obtain ⟨t52, ht52, h⟩ := zA h
    have ht52 := zB ht52
    refine zO (mb 210 2596148429267413814265248164642872) [] (s1 := ⟨bt 3 (.c (.sl (c1.2.1.map c38)) :: .c (.sl (c1.2.2.1.map c109)) :: .c (.sl (c1.2.2.2.map c3)) :: bt 9 (.c (.v (.string c1.1)) :: bt 95 (Bo t52 :: bt 98 []))), []⟩) ?_ ?_
    ·refine L0 rfl rfl (Y0_eqs (a := c1.1) (b := ((⟨#[111, 98, 115, 116, 114, 117, 99, 116, 105, 111, 110]⟩ : ByteArray))) rfl kk kk) ?_
     refine XR 1 ?_
     refine zD ?_
     subst ht52
     kernel_rfl
    refine VC h (fun h => ?_) (fun h => ?_)
    ·obtain ⟨e54, he54, h⟩ := zA h
     obtain ⟨e55, he55, h⟩ := zA h
     obtain ⟨e56, he56, h⟩ := zA h
     obtain ⟨y57, hy57, h⟩ := zA h
     refine VDS [0, 1, 3, 0, 8, 24, 0, 64, 192, 511, 1023] 11 (cdm 11 [174720, 174721, 174725, 172074, 172138, 172394, 2730, 6826, 23210, 87381, 349525]) ?_
     refine ER 1 ?_
     refine E0 1 rfl rfl (zM (c := c3) (xs := c1.2.2.2) (v := e54) (n := 0) Tryz.underlying24 sz3 rfl kk kk he54) ?_
     refine ER 2 ?_
     refine E0 4 rfl rfl (zM (c := c3) (xs := c1.2.2.2) (v := e55) (n := 1) Tryz.underlying24 sz3 rfl kk kk he55) ?_
     refine ER 2 ?_
     refine E0 7 rfl rfl (zM (c := c3) (xs := c1.2.2.2) (v := e56) (n := 2) Tryz.underlying24 sz3 rfl kk kk he56) ?_
     refine EK 1 (s_impl_isObstruction hy57) cf_impl_isObstruction ?_
     refine EF 1 ?_
     cases h
     exact zJ VT
    ·obtain ⟨t58, ht58, h⟩ := zA h
     have ht58 := zB ht58
     refine zO (mb 210 10633823966279326983230456482242789432) [] (s1 := ⟨bt 3 (.c (.sl (c1.2.1.map c38)) :: .c (.sl (c1.2.2.1.map c109)) :: .c (.sl (c1.2.2.2.map c3)) :: bt 9 (.c (.v (.string c1.1)) :: bt 107 (Bo t58 :: bt 86 []))), []⟩) ?_ ?_
     ·refine L0 rfl rfl (Y0_eqs (a := c1.1) (b := ((⟨#[99, 111, 109, 112, 111, 115, 105, 116, 101]⟩ : ByteArray))) rfl kk kk) ?_
      refine XR 1 ?_
      refine zD ?_
      subst ht58
      kernel_rfl
     refine VC h (fun h => ?_) (fun h => ?_)
     ·obtain ⟨e60, he60, h⟩ := zA h
      obtain ⟨e61, he61, h⟩ := zA h
      obtain ⟨e62, he62, h⟩ := zA h
      obtain ⟨y63, hy63, h⟩ := zA h
      refine VDS [0, 1, 3, 0, 8, 24, 0, 64, 192, 0, 1023, 2047, 4095, 4095, 8191, 32767] 16 (cdm 16 [699008, 699009, 699013, 696362, 696426, 696682, 527018, 531114, 547498, 174762, 349525, 1398101, 139810133, 576017749, 156587349, 357913941]) ?_
      refine ER 1 ?_
      refine E0 1 rfl rfl (zM (c := c38) (xs := c1.2.1) (v := e60) (n := 0) Tryz.underlying59 sz38 rfl kk kk he60) ?_
      refine ER 2 ?_
      refine E0 4 rfl rfl (zM (c := c38) (xs := c1.2.1) (v := e61) (n := 1) Tryz.underlying59 sz38 rfl kk kk he61) ?_
      refine ER 2 ?_
      refine E0 7 rfl rfl (zM (c := c38) (xs := c1.2.1) (v := e62) (n := 2) Tryz.underlying59 sz38 rfl kk kk he62) ?_
      refine EK 2 (s_impl_IsComposition hy63) cf_impl_IsComposition ?_
      refine EF 5 ?_
      refine zO (mb 210 4) [] (s1 := ⟨.bot :: .bot :: Bo (bif y63.1 then y63.2 else false) :: bt 207 [], []⟩) ?_ ?_
      ·refine YR 2 ?_
       refine zI y63.1 (fun hc64 => ?_) (fun hc64 => ?_)
       ·refine YQ hc64 ?_
        exact YE (by rw [hc64]; kernel_rfl)
       ·refine YQ hc64 ?_
        exact YE (by rw [hc64]; kernel_rfl)
      cases h
      exact zJ VT
     ·obtain ⟨t65, ht65, h⟩ := zA h
      have ht65 := zB ht65
      refine zO (mb 210 11150372599265311570767859136324180753023032) [] (s1 := ⟨bt 3 (.c (.sl (c1.2.1.map c38)) :: .c (.sl (c1.2.2.1.map c109)) :: .c (.sl (c1.2.2.2.map c3)) :: bt 9 (.c (.v (.string c1.1)) :: bt 127 (Bo t65 :: bt 66 []))), []⟩) ?_ ?_
      ·refine L0 rfl rfl (Y0_eqs (a := c1.1) (b := ((⟨#[111, 114, 100, 101, 114]⟩ : ByteArray))) rfl kk kk) ?_
       refine XR 1 ?_
       refine zD ?_
       subst ht65
       kernel_rfl
      refine VC h (fun h => ?_) (fun h => ?_)
      ·obtain ⟨e67, he67, h⟩ := zA h
       obtain ⟨e68, he68, h⟩ := zA h
       obtain ⟨y69, hy69, h⟩ := zA h
       refine VDS [0, 1, 3, 0, 8, 24, 63, 127] 8 (cdm 8 [2688, 2689, 2693, 42, 106, 362, 1365, 5461]) ?_
       refine ER 1 ?_
       refine E0 1 rfl rfl (zM (c := c38) (xs := c1.2.1) (v := e67) (n := 0) Tryz.underlying59 sz38 rfl kk kk he67) ?_
       refine ER 2 ?_
       refine E0 4 rfl rfl (zM (c := c3) (xs := c1.2.2.2) (v := e68) (n := 0) Tryz.underlying24 sz3 rfl kk kk he68) ?_
       refine EK 1 (s_impl_isOrderOf hy69) cf_impl_isOrderOf ?_
       refine EF 1 ?_
       cases h
       exact zJ VT
      ·obtain ⟨t70, ht70, h⟩ := zA h
       have ht70 := zB ht70
       refine zO (mb 210 5708990770823839524233143877797980545531019320) [] (s1 := ⟨bt 3 (.c (.sl (c1.2.1.map c38)) :: .c (.sl (c1.2.2.1.map c109)) :: .c (.sl (c1.2.2.2.map c3)) :: bt 9 (.c (.v (.string c1.1)) :: bt 136 (Bo t70 :: bt 57 []))), []⟩) ?_ ?_
       ·refine L0 rfl rfl (Y0_eqs (a := c1.1) (b := ((⟨#[114, 111, 111, 116]⟩ : ByteArray))) rfl kk kk) ?_
        refine XR 1 ?_
        refine zD ?_
        subst ht70
        kernel_rfl
       refine VC h (fun h => ?_) (fun h => ?_)
       ·obtain ⟨e72, he72, h⟩ := zA h
        obtain ⟨b79, hb79, h⟩ := zA h
        refine V_sdreg [0, 1, 3, 7, 15, 31, 63, 127, 31, 287, 799, 2047, 31, 4127, 12319, 32767, 31, 65567, 196639, 458783, 1048575, 2097151, 4194303, 8388607] 24 (cdm 24 [0, 1, 5, 21, 85, 730851836245, 730851837269, 730851841365, 730849126741, 730849192277, 730849454421, 730850481493, 730155624789, 730172402005, 730239510869, 730502354261, 2863311189, 7158278485, 24338147669, 93057624405, 366503875925, 1466015503701, 5864062014805, 23456248059221]) (mb 210 4) [] (s1 := ⟨.bot :: .bot :: Bo b79 :: bt 207 [], []⟩) kk kk ?_ ?_
        ·refine ER 1 ?_
         refine E0 1 rfl rfl (zM (c := c3) (xs := c1.2.2.2) (v := e72) (n := 1) Tryz.underlying24 sz3 rfl kk kk he72) ?_
         refine ER 3 ?_
         refine DL_split (leI 1 e72) (fun hc73 => ?_) (fun hc73 => ?_)
         ·have hb79 := zN hb79 hc73
          obtain ⟨e74, he74, hb79⟩ := zA hb79
          obtain ⟨e75, he75, hb79⟩ := zA hb79
          obtain ⟨e76, he76, hb79⟩ := zA hb79
          obtain ⟨e77, he77, hb79⟩ := zA hb79
          obtain ⟨z78, hz78, hb79⟩ := zA hb79
          have hb79 := zB hb79
          refine EQ hc73 ?_
          refine ER 1 ?_
          refine E0 6 rfl rfl (zM (c := c3) (xs := c1.2.2.2) (v := e74) (n := 2) Tryz.underlying24 sz3 rfl kk kk he74) ?_
          refine ER 2 ?_
          refine E0 9 rfl rfl (zM (c := c3) (xs := c1.2.2.2) (v := e75) (n := 2) Tryz.underlying24 sz3 rfl kk kk he75) ?_
          refine ER 3 ?_
          refine E0 13 rfl rfl (zM (c := c3) (xs := c1.2.2.2) (v := e76) (n := 0) Tryz.underlying24 sz3 rfl kk kk he76) ?_
          refine ER 3 ?_
          refine E0 17 rfl rfl (zM (c := c3) (xs := c1.2.2.2) (v := e77) (n := 1) Tryz.underlying24 sz3 rfl kk kk he77) ?_
          refine ER 2 ?_
          refine E0 20 rfl rfl (Y0_rem (k := .i64) (a := w64 ((w64 (e74 * e75)) - e76)) (b := w64 (4 * e77)) rfl kk kk (nz_some hz78)) ?_
          refine EA 3 ?_
          exact YE (by rw [← hb79]; (try rw [hc73]); kernel_rfl)
         ·have hb79 := zB (zC hb79 hc73)
          refine EQ hc73 ?_
          refine EA 19 ?_
          exact YE (by rw [← hb79]; (try rw [hc73]); kernel_rfl)
        cases h
        exact zJ VT
       ·obtain ⟨t80, ht80, h⟩ := zA h
        have ht80 := zB ht80
        refine zO (mb 210 191561942608236107294793378393788647952342390272950328) [] (s1 := ⟨bt 3 (.c (.sl (c1.2.1.map c38)) :: .c (.sl (c1.2.2.1.map c109)) :: .c (.sl (c1.2.2.2.map c3)) :: bt 171 (Bo t80 :: bt 32 [])), []⟩) ?_ ?_
        ·refine L0 rfl rfl (Y0_eqs (a := c1.1) (b := ((⟨#[97, 117, 116, 111, 109, 111, 114, 112, 104]⟩ : ByteArray))) rfl kk kk) ?_
         refine XR 1 ?_
         refine zD ?_
         subst ht80
         kernel_rfl
        refine VC h (fun h => ?_) (fun h => ?_)
        ·obtain ⟨e82, he82, h⟩ := zA h
         obtain ⟨e83, he83, h⟩ := zA h
         obtain ⟨e84, he84, h⟩ := zA h
         obtain ⟨y85, hy85, h⟩ := zA h
         refine VDS [0, 1, 3, 0, 8, 24, 0, 64, 192, 511, 1023] 11 (cdm 11 [174720, 174721, 174725, 172074, 172138, 172394, 2730, 6826, 23210, 87381, 349525]) ?_
         refine ER 1 ?_
         refine E0 1 rfl rfl (zM (c := c38) (xs := c1.2.1) (v := e82) (n := 0) Tryz.underlying59 sz38 rfl kk kk he82) ?_
         refine ER 2 ?_
         refine E0 4 rfl rfl (zM (c := c109) (xs := c1.2.2.1) (v := e83) (n := 0) Tryz.underlying60 sz109 rfl kk kk he83) ?_
         refine ER 2 ?_
         refine E0 7 rfl rfl (zM (c := c38) (xs := c1.2.1) (v := e84) (n := 0) Tryz.underlying59 sz38 rfl kk kk he84) ?_
         refine EK 1 (s_impl_makesOf hy85) cf_impl_makesOf ?_
         refine EF 1 ?_
         cases h
         exact zJ VT
        ·refine zK ?_
         show V _ _ _ _
         obtain ⟨e86, he86, h⟩ := zA h
         obtain ⟨e87, he87, h⟩ := zA h
         obtain ⟨e88, he88, h⟩ := zA h
         obtain ⟨e89, he89, h⟩ := zA h
         obtain ⟨e90, he90, h⟩ := zA h
         obtain ⟨y91, hy91, h⟩ := zA h
         refine VDS [0, 1, 3, 0, 8, 24, 63, 0, 128, 384, 0, 1024, 3072, 8064, 0, 16384, 49152, 130944, 262143, 524287, 1048575, 2097151] 22 (cdm 22 [45812976256, 45812976257, 45812976261, 45812973610, 45812973674, 45812973930, 45812974933, 11318340266, 11318356650, 11318422186, 11274988202, 11276036778, 11280231082, 11296664234, 178956970, 447392426, 1521134250, 5726628522, 22906492245, 91625968981, 366503875925, 1466015503701]) ?_
         refine ER 1 ?_
         refine E0 1 rfl rfl (zM (c := c3) (xs := c1.2.2.2) (v := e86) (n := 1) Tryz.underlying24 sz3 rfl kk kk he86) ?_
         refine ER 2 ?_
         refine E0 4 rfl rfl (zM (c := c3) (xs := c1.2.2.2) (v := e87) (n := 1) Tryz.underlying24 sz3 rfl kk kk he87) ?_
         refine ER 3 ?_
         refine E0 8 rfl rfl (zM (c := c3) (xs := c1.2.2.2) (v := e88) (n := 0) Tryz.underlying24 sz3 rfl kk kk he88) ?_
         refine ER 2 ?_
         refine E0 11 rfl rfl (zM (c := c3) (xs := c1.2.2.2) (v := e89) (n := 2) Tryz.underlying24 sz3 rfl kk kk he89) ?_
         refine ER 3 ?_
         refine E0 15 rfl rfl (zM (c := c3) (xs := c1.2.2.2) (v := e90) (n := 2) Tryz.underlying24 sz3 rfl kk kk he90) ?_
         refine EK 3 (s_impl_abs hy91) cf_impl_abs ?_
         refine EF 2 ?_
         cases h
         exact zJ VT
end Go.Proofs.YtfmjfofocklgpaaGreatDoor
namespace Go.Proofs.YtfmjfofocklgpaaGreatDoor
open Go.RowKit
set_option linter.unusedVariables false
set_option linter.unusedSimpArgs false
set_option maxRecDepth 100000
set_option maxHeartbeats 400000
theorem cf_impl_CheckCertificate : CfW Tryz.prog 12 := cfW Tryz.func12
theorem s_impl_CheckCertificate {vs1 : ByteArray} {r : Int} (h : r_impl_CheckCertificate vs1 = some r) : zQ Tryz.prog 12 [.c (.v (.string vs1))] (I r) [] := by
 refine CtW [2] Tryz.func12 rfl rfl 16 ?_
 unfold r_impl_CheckCertificate at h
 refine VE ?_
 obtain ⟨y2, hy2, h⟩ := zA h
 refine VS ?_
 refine YK 1 (s_impl_partsOf hy2) cf_impl_partsOf ?_
 refine YF ?_
 refine zG ?_
 refine zH ?_
 refine VE ?_
 refine VC h (fun h => ?_) (fun h => ?_)
 ·refine VE ?_
  cases h
  exact zJ VT
 ·obtain ⟨y4, hy4, h⟩ := zA h
  refine VS ?_
  refine YK 1 (s_impl_parts_claim hy4) cf_impl_parts_claim ?_
  refine YF ?_
  refine VC h (fun h => ?_) (fun h => ?_)
  ·refine VE ?_
   cases h
   exact zJ VT
  ·refine zK ?_
   show V _ _ _ _
   refine VE ?_
   cases h
   exact zJ VT
theorem s_laws_FnExactCheckCertificate {aS1 : ByteArray} {r : Bool} (h : r_laws_FnExactCheckCertificate aS1 = some r) : zQ Tryz.prog 3 [.c (.v (.string aS1))] (Bo r) [] := by
 refine CtW [2] Tryz.func3 rfl rfl 15 ?_
 unfold r_laws_FnExactCheckCertificate at h
 refine VE ?_
 refine zG ?_
 refine VS ?_
 refine YF ?_
 refine VC h (fun h => ?_) (fun h => ?_)
 ·refine VE ?_
  cases h
  exact zJ VT
 ·refine zK ?_
  show V _ _ _ _
  obtain ⟨y3, hy3, h⟩ := zA h
  refine VS ?_
  refine YK 1 (s_spec_CheckCertificate hy3) cf_spec_CheckCertificate ?_
  refine YF ?_
  obtain ⟨y4, hy4, h⟩ := zA h
  refine VS ?_
  refine YK 1 (s_impl_CheckCertificate hy4) cf_impl_CheckCertificate ?_
  refine YF ?_
  refine zG ?_
  refine VE ?_
  refine VC h (fun h => ?_) (fun h => ?_)
  ·refine VE ?_
   cases h
   exact zJ VT
  ·refine zK ?_
   show V _ _ _ _
   refine VE ?_
   cases h
   exact zJ VT
end Go.Proofs.YtfmjfofocklgpaaGreatDoor
