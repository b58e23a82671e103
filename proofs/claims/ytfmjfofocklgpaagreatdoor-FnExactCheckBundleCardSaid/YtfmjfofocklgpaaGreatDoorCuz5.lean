/-
  Rules of walks, plain functions and their laws, part 5.
  Conditions: none.
-/
import Derived.Test.YtfmjfofocklgpaaGreatDoorCuz4
namespace Go.Proofs.YtfmjfofocklgpaaGreatDoor
open Go.RowKit
set_option linter.unusedVariables false
set_option linter.unusedSimpArgs false
set_option maxRecDepth 100000
set_option maxHeartbeats 400000
theorem cf_spec_coFits : CfW Tryz.prog 221 := cfW Tryz.func221
theorem s_spec_coFits {f1 : (Int × Int × Int)} {g2 : (Int × Int × Int)} {vh3 : (Int × Int × Int)} {k4 : List Int} {r : Bool} (h : r_spec_coFits f1 g2 vh3 k4 = some r) : zP Tryz.prog 221 [.ag [Ti f1.1, Ti f1.2.1, Ti f1.2.2], .ag [Ti g2.1, Ti g2.2.1, Ti g2.2.2], .ag [Ti vh3.1, Ti vh3.2.1, Ti vh3.2.2], .c (.sl (k4.map c3))] (Bo r) [] := by
 refine CtW [8] Tryz.func221 rfl rfl 122 ?_
 unfold r_spec_coFits at h
 refine VE ?_
 refine VS ?_
 refine YR 6 ?_
 refine L1 rfl rfl (Y1_bslice (z := zv3) (els := [f1.1, f1.2.1, f1.2.2].map c3) Tryz.underlying24 iz3 rfl (by decide) rfl kk rfl (by simp [c3]) (by decide) (by decide)) ?_
 refine YR 6 ?_
 refine L1 rfl rfl (Y1_bslice (z := zv3) (els := [g2.1, g2.2.1, g2.2.2].map c3) Tryz.underlying24 iz3 rfl (by decide) rfl kk rfl (by simp [c3]) (by decide) (by decide)) ?_
 refine XL_freeze 168 (T := 3) (sz := 1) (els := ([f1.1, f1.2.1, f1.2.2]).map c3) kk rfl ?_
 refine XL_freeze 224 (T := 3) (sz := 1) (els := ([g2.1, g2.2.1, g2.2.2]).map c3) kk rfl ?_
 refine L1 rfl rfl (Y1_bslice (z := zv24) (els := [[f1.1, f1.2.1, f1.2.2], [g2.1, g2.2.1, g2.2.2]].map c24) Tryz.underlying233 iz24 rfl (by decide) rfl kk rfl (by simp [c24]) (by decide) (by decide)) ?_
 refine YF ?_
 obtain ⟨u5, hu5, h⟩ := zA h
 refine VS ?_
 refine L1 rfl rfl (Y1_make (c := c3) (zx := (0 : Int)) (z := zv3) (l := 9) (k := 9) Tryz.underlying24 izb3 rfl rfl (by decide) rfl rfl kk kk (mk_some hu5) (by decide)) ?_
 refine YF ?_
 refine zF ?_
 refine VE ?_
 obtain ⟨o9, hLo9, h⟩ := zA h
 refine V_toK (mb 122 1536) [240, 232] (s1 := ⟨bt 9 (.ow 232 :: .ow 240 :: bt 111 []), [(240, .arr 3 1 (o9.map c3)), (232, .arr 24 1 (([[f1.1, f1.2.1, f1.2.2], [g2.1, g2.2.1, g2.2.2]]).map c24))]⟩) ?_ ?_
 ·clear h
  refine zG (V_loop (fun n s => ∃ (i6 : Int) (l7 : List Int), s.keep (mb 122 3656) [240, 232, 48] = (⟨bt 3 (.c (.sl (k4.map c3)) :: .bot :: .bot :: .pt 48 0 :: .bot :: .bot :: .ow 232 :: .ow 240 :: I i6 :: bt 110 []), [(240, .arr 3 1 (l7.map c3)), (232, .arr 24 1 (([[f1.1, f1.2.1, f1.2.2], [g2.1, g2.2.1, g2.2.2]]).map c24)), (48, .box [Ti vh3.1, Ti vh3.2.1, Ti vh3.2.2])]⟩ : St) ∧ r_spec_coFits_L8 f1 g2 k4 vh3 n i6 l7 = some o9) FU ⟨_, _,  kk, hLo9⟩ ?_)
  clear hLo9
  rintro n s ⟨i6, l7, hs, h⟩
  refine zV _ _ hs ?_
  clear hs
  cases n with
  | zero => cases h
  | succ n =>
   rw [r_spec_coFits_L8] at h
   refine zF ?_
   refine VE ?_
   refine VC h (fun h => ?_) (fun h => ?_)
   ·refine zK ?_
    show V _ _ _ _
    refine zF ?_
    refine zG ?_
    refine VE ?_
    obtain ⟨o14, hLo14, h⟩ := zA h
    refine V_toK (mb 122 3656) [240, 232, 48] (s1 := ⟨bt 3 (.c (.sl (k4.map c3)) :: .bot :: .bot :: .pt 48 0 :: .bot :: .bot :: .ow 232 :: .ow 240 :: I i6 :: bt 110 []), [(240, .arr 3 1 (o14.map c3)), (232, .arr 24 1 (([[f1.1, f1.2.1, f1.2.2], [g2.1, g2.2.1, g2.2.2]]).map c24)), (48, .box [Ti vh3.1, Ti vh3.2.1, Ti vh3.2.2])]⟩) ?_ ?_
    ·clear h
     refine zG (V_loop (fun n s => ∃ (j11 : Int) (l12 : List Int), s.keep (mb 122 7752) [240, 232, 48] = (⟨bt 3 (.c (.sl (k4.map c3)) :: .bot :: .bot :: .pt 48 0 :: .bot :: .bot :: .ow 232 :: .ow 240 :: I i6 :: I j11 :: bt 109 []), [(240, .arr 3 1 (l12.map c3)), (232, .arr 24 1 (([[f1.1, f1.2.1, f1.2.2], [g2.1, g2.2.1, g2.2.2]]).map c24)), (48, .box [Ti vh3.1, Ti vh3.2.1, Ti vh3.2.2])]⟩ : St) ∧ r_spec_coFits_L13 f1 g2 i6 k4 vh3 n j11 l12 = some o14) FU ⟨_, _,  kk, hLo14⟩ ?_)
     clear hLo14
     rintro n s ⟨j11, l12, hs, h⟩
     refine zV _ _ hs ?_
     clear hs
     cases n with
     | zero => cases h
     | succ n =>
      rw [r_spec_coFits_L13] at h
      refine zF ?_
      refine VE ?_
      refine VC h (fun h => ?_) (fun h => ?_)
      ·refine zK ?_
       show V _ _ _ _
       refine zF ?_
       refine zG ?_
       obtain ⟨vat16, hvat16, h⟩ := zU h
       refine zO (mb 122 15944) [240, 232, 48] (s1 := ⟨bt 3 (.c (.sl (k4.map c3)) :: .bot :: .bot :: .pt 48 0 :: .bot :: .bot :: .ow 232 :: .ow 240 :: I i6 :: I j11 :: I vat16 :: bt 108 []), [(240, .arr 3 1 (l12.map c3)), (232, .arr 24 1 (([[f1.1, f1.2.1, f1.2.2], [g2.1, g2.2.1, g2.2.2]]).map c24)), (48, .box [Ti vh3.1, Ti vh3.2.1, Ti vh3.2.2])]⟩) ?_ ?_
       ·refine XR 1 ?_
        refine L0 rfl rfl (zS (a := i6) (b := 2) rfl kk kk (by decide)) ?_
        refine XR 1 ?_
        refine L0 rfl rfl (zS (a := j11) (b := 2) rfl kk kk (by decide)) ?_
        refine XR 3 ?_
        refine L0 rfl rfl (Y0_rem (k := .i64) (a := i6) (b := 2) rfl kk kk (by decide)) ?_
        refine XR 2 ?_
        refine L0 rfl rfl (Y0_rem (k := .i64) (a := j11) (b := 2) rfl kk kk (by decide)) ?_
        refine XR 2 ?_
        refine zD ?_
        subst hvat16
        kernel_rfl
       obtain ⟨e17, he17, h⟩ := zA h
       obtain ⟨e18, he18, h⟩ := zA h
       obtain ⟨e19, he19, h⟩ := zA h
       obtain ⟨e20, he20, h⟩ := zA h
       obtain ⟨e21, he21, h⟩ := zA h
       obtain ⟨e22, he22, h⟩ := zA h
       obtain ⟨e23, he23, h⟩ := zA h
       obtain ⟨e24, he24, h⟩ := zA h
       obtain ⟨e25, he25, h⟩ := zA h
       obtain ⟨e26, he26, h⟩ := zA h
       obtain ⟨l27, hl27, h⟩ := zA h
       have hl27 := zB hl27
       refine V_dreg [0, 0, 3, 7, 0, 16, 0, 0, 192, 448, 1008, 0, 0, 6144, 14336, 32752, 0, 65536, 0, 0, 786432, 1835008, 4128768, 0, 0, 16777216, 58720256, 125829120, 268369920, 536870896, 0, 1073741824, 0, 0, 8589934592, 30064771072, 64424509440, 136365211648, 0, 0, 549755813888, 1924145348608, 4123168604160, 8795019280384, 17592186044400, 35184372088831, 70368744177663, 140737488355327] 47 (cdm 47 [825293359523586849932749320, 825293359523586849932749314, 825293359523586849932749317, 825293359523586849932749333, 206323339304435958030180522, 206323339304435958030180778, 206323339304435958029519530, 206323339304435958029494954, 206323339304435958029507242, 206323339304435958029572778, 206323339304435958029833642, 206323339304435957352802986, 206323339304435957327637162, 206323339304435957340220074, 206323339304435957407328938, 206323339304435957674366378, 206323339160285544782146218, 206323339160285549077113514, 206323339160274455176587946, 206323339160274042859727530, 206323339160274249018157738, 206323339160275348529785514, 206323339160279725101460138, 206323339115144038341847722, 206323339112470026063096490, 206323339112751501039807146, 206323339113807032202472106, 206323339118310631829842602, 206323339136301575522921130, 206323339208359168129193386, 51543044509146174890617514, 51543045662067679497464490, 51531213228665899426949802, 51530512252391098463988394, 51530586039367393302194858, 51530862740528498945469098, 51532043332149216356772522, 51536759934024562967751338, 3072686458187182485711530, 201487636602438195784362, 503719091506095489460906, 1637087047394810340747946, 6472790325853327039572650, 25790417869419257262680746, 103161669940448356241593770, 412646679761793424966374741, 1650586719047173699865498965]) (mb 122 7752) [240, 232, 48] (s1 := ⟨bt 3 (.c (.sl (k4.map c3)) :: .bot :: .bot :: .pt 48 0 :: .bot :: .bot :: .ow 232 :: .ow 240 :: I i6 :: I j11 :: bt 109 []), [(240, .arr 3 1 (l27.map c3)), (232, .arr 24 1 (([[f1.1, f1.2.1, f1.2.2], [g2.1, g2.2.1, g2.2.2]]).map c24)), (48, .box [Ti vh3.1, Ti vh3.2.1, Ti vh3.2.2])]⟩) kk kk ?_ ?_
       ·refine DR 2 ?_
        refine DE_0 2 (.po 240 1 (Int.toNat (vat16)) 0) kk rfl rfl rfl (zI rfl) kk (Y0_idxoM (c := c3) (xs := l12) (v := e17) (id := 240) (T := 3) (sz := 1) (n := vat16) Tryz.underlying24 sz3 rfl kk kk kk he17) 53 rfl ?_
        refine DE_0 3 (I e18) kk rfl rfl rfl (zI rfl) kk (Y0_loado1 (c := c3) (xs := l12) (v := e18) (id := 240) (sz := 1) (T := 3) (off := 0) (n := vat16) (d := Ti e18) (ds := []) sc3 rfl kk kk he18 kk) 54 rfl ?_
        refine DR 4 ?_
        refine DE_0 8 (.pe [Ti e19]) kk rfl rfl rfl (zI rfl) kk (zM (c := c3) (xs := k4) (v := e19) (n := i6) Tryz.underlying24 sz3 rfl kk kk he19) 59 rfl ?_
        refine DR 4 ?_
        refine DE_0 13 (.pe [Ti e20]) kk rfl rfl rfl (zI rfl) kk (zM (c := c3) (xs := k4) (v := e20) (n := j11) Tryz.underlying24 sz3 rfl kk kk he20) 64 rfl ?_
        refine DR 6 ?_
        refine DE_0 20 (.pe [Ti e21]) kk rfl rfl rfl (zI rfl) kk (zM (c := c3) (xs := k4) (v := e21) (n := i6) Tryz.underlying24 sz3 rfl kk kk he21) 71 rfl ?_
        refine DR 5 ?_
        refine DE_0 26 (.pe [Ti e22]) kk rfl rfl rfl (zI rfl) kk (zM (c := c3) (xs := k4) (v := e22) (n := w64 (4 + j11)) Tryz.underlying24 sz3 rfl kk kk he22) 77 rfl ?_
        refine DR 8 ?_
        refine DE_0 35 (.pe [Ti e23]) kk rfl rfl rfl (zI rfl) kk (zM (c := c3) (xs := k4) (v := e23) (n := w64 (4 + i6)) Tryz.underlying24 sz3 rfl kk kk he23) 86 rfl ?_
        refine DR 5 ?_
        refine DE_0 41 (.pe [Ti e24]) kk rfl rfl rfl (zI rfl) kk (zM (c := c3) (xs := k4) (v := e24) (n := w64 (4 + j11)) Tryz.underlying24 sz3 rfl kk kk he24) 92 rfl ?_
        refine DR 4 ?_
        refine DE_0 46 (.po 240 1 (Int.toNat (vat16)) 0) kk rfl rfl rfl (zI rfl) kk (Y0_idxoM (c := c3) (xs := l12) (v := e25) (id := 240) (T := 3) (sz := 1) (n := vat16) Tryz.underlying24 sz3 rfl kk kk kk he25) 97 rfl ?_
        refine DA 0 ?_
        refine XL_cons rfl (X_storeoM (c := c3) (xs := l12) (v := e26) (u := w64 (e18 + (w64 ((w64 ((w64 ((w64 (vh3.1 * e19)) * e20)) + (w64 ((w64 (vh3.2.1 * e21)) * e22)))) + (w64 ((w64 (vh3.2.2 * e23)) * e24)))))) (id := 240) (sz := 1) (off := 0) (T0 := 3) (n := vat16) (vc := [Ti (w64 (e18 + (w64 ((w64 ((w64 ((w64 (vh3.1 * e19)) * e20)) + (w64 ((w64 (vh3.2.1 * e21)) * e22)))) + (w64 ((w64 (vh3.2.2 * e23)) * e24))))))]) rfl rfl kk kk he26 kk sz3 (Nat.le_of_ble_eq_true rfl) kk) ?_
        refine zD ?_
        subst hl27
        kernel_rfl
       show V _ _ _ _
       obtain ⟨j28, hj28, h⟩ := zU h
       refine V_reg (mb 122 7752) [240, 232, 48] (s1 := ⟨bt 3 (.c (.sl (k4.map c3)) :: .bot :: .bot :: .pt 48 0 :: .bot :: .bot :: .ow 232 :: .ow 240 :: I i6 :: I j28 :: bt 109 []), [(240, .arr 3 1 (l27.map c3)), (232, .arr 24 1 (([[f1.1, f1.2.1, f1.2.2], [g2.1, g2.2.1, g2.2.2]]).map c24)), (48, .box [Ti vh3.1, Ti vh3.2.1, Ti vh3.2.2])]⟩) ?_ ?_
       ·refine XR 3 ?_
        refine zD ?_
        subst hj28
        kernel_rfl
       exact ⟨n, Nat.lt_succ_self n, _, _,  kk, h⟩
      ·refine V_exit ?_
       obtain rfl := zB h
       show St.keep _ _ _ = _
       kernel_rfl
    show V _ _ _ _
    obtain ⟨i29, hi29, h⟩ := zU h
    refine V_reg (mb 122 3656) [240, 232, 48] (s1 := ⟨bt 3 (.c (.sl (k4.map c3)) :: .bot :: .bot :: .pt 48 0 :: .bot :: .bot :: .ow 232 :: .ow 240 :: I i29 :: bt 110 []), [(240, .arr 3 1 (o14.map c3)), (232, .arr 24 1 (([[f1.1, f1.2.1, f1.2.2], [g2.1, g2.2.1, g2.2.2]]).map c24)), (48, .box [Ti vh3.1, Ti vh3.2.1, Ti vh3.2.2])]⟩) ?_ ?_
    ·refine XR 3 ?_
     refine zD ?_
     subst hi29
     kernel_rfl
    exact ⟨n, Nat.lt_succ_self n, _, _,  kk, h⟩
   ·refine V_exit ?_
    obtain rfl := zB h
    show St.keep _ _ _ = _
    kernel_rfl
 show V _ _ _ _
 refine zF ?_
 refine VE ?_
 obtain ⟨qo32, hLo32, hko32⟩ := zA h
 refine V_toS (q := qo32) (S := fun o32 => ⟨bt 122 [], []⟩) (mb 122 0) [] ?_ ?_
 ·refine zG (V_loop (fun n s => ∃ (i30 : Int), s.keep (mb 122 17920) [240, 232] = (⟨bt 9 (.ow 232 :: .ow 240 :: bt 3 (I i30 :: bt 107 [])), [(240, .arr 3 1 (o9.map c3)), (232, .arr 24 1 (([[f1.1, f1.2.1, f1.2.2], [g2.1, g2.2.1, g2.2.2]]).map c24))]⟩ : St) ∧ r_spec_coFits_L31 f1 g2 o9 n i30 = some qo32) FU ⟨_,  kk, hLo32⟩ ?_)
  clear hLo32
  rintro n s ⟨i30, hs, h⟩
  refine zV _ _ hs ?_
  clear hs
  cases n with
  | zero => cases h
  | succ n =>
   rw [r_spec_coFits_L31] at h
   refine zF ?_
   refine VE ?_
   refine VC h (fun h => ?_) (fun h => ?_)
   ·refine zK ?_
    show V _ _ _ _
    refine zF ?_
    refine zG ?_
    obtain ⟨e34, he34, h⟩ := zA h
    obtain ⟨e35, he35, h⟩ := zA h
    obtain ⟨e36, he36, h⟩ := zA h
    obtain ⟨e37, he37, h⟩ := zA h
    obtain ⟨e38, he38, h⟩ := zA h
    obtain ⟨e39, he39, h⟩ := zA h
    obtain ⟨e40, he40, h⟩ := zA h
    obtain ⟨e41, he41, h⟩ := zA h
    refine VDS [0, 0, 3, 7, 0, 16, 48, 0, 128, 496, 1008, 0, 2048, 6144, 0, 16384, 63488, 129024, 262128, 524287] 20 (cdm 20 [183251937800, 183251937794, 183251937797, 183251937813, 45810352298, 45810352554, 45810353578, 45810199210, 45810215594, 45810275754, 45810537898, 2687150762, 2691345066, 2708122282, 178956970, 447392426, 1433053866, 5728021162, 22906492330, 91625968981]) ?_
    refine ER 2 ?_
    refine E0 2 rfl rfl (Y0_idxoM (c := c3) (xs := o9) (v := e34) (id := 240) (T := 3) (sz := 1) (n := i30) Tryz.underlying24 sz3 rfl kk kk kk he34) ?_
    refine E0 3 rfl rfl (Y0_loado1 (c := c3) (xs := o9) (v := e35) (id := 240) (sz := 1) (T := 3) (off := 0) (n := i30) (d := Ti e35) (ds := []) sc3 rfl kk kk he35 kk) ?_
    refine ER 1 ?_
    refine E0 5 rfl rfl (Y0_idxoM (c := c24) (xs := [[f1.1, f1.2.1, f1.2.2], [g2.1, g2.2.1, g2.2.2]]) (v := e36) (id := 232) (T := 24) (sz := 1) (n := 0) Tryz.underlying233 sz24 rfl kk kk kk he36) ?_
    refine E0 6 rfl rfl (Y0_loado1 (c := c24) (xs := [[f1.1, f1.2.1, f1.2.2], [g2.1, g2.2.1, g2.2.2]]) (v := e37) (id := 232) (sz := 1) (T := 24) (off := 0) (n := 0) (d := .sl (e37.map c3)) (ds := []) sc24 rfl kk kk he37 kk) ?_
    refine ER 1 ?_
    refine E0 8 rfl rfl (zS (a := i30) (b := 3) rfl kk kk (by decide)) ?_
    refine E0 9 rfl rfl (zM (c := c3) (xs := e37) (v := e38) (n := w64 (Int.tdiv i30 3)) Tryz.underlying24 sz3 rfl kk kk he38) ?_
    refine ER 2 ?_
    refine E0 12 rfl rfl (Y0_idxoM (c := c24) (xs := [[f1.1, f1.2.1, f1.2.2], [g2.1, g2.2.1, g2.2.2]]) (v := e39) (id := 232) (T := 24) (sz := 1) (n := 1) Tryz.underlying233 sz24 rfl kk kk kk he39) ?_
    refine E0 13 rfl rfl (Y0_loado1 (c := c24) (xs := [[f1.1, f1.2.1, f1.2.2], [g2.1, g2.2.1, g2.2.2]]) (v := e40) (id := 232) (sz := 1) (T := 24) (off := 0) (n := 1) (d := .sl (e40.map c3)) (ds := []) sc24 rfl kk kk he40 kk) ?_
    refine ER 1 ?_
    refine E0 15 rfl rfl (Y0_rem (k := .i64) (a := i30) (b := 3) rfl kk kk (by decide)) ?_
    refine E0 16 rfl rfl (zM (c := c3) (xs := e40) (v := e41) (n := Int.tmod i30 3) Tryz.underlying24 sz3 rfl kk kk he41) ?_
    refine EF 3 ?_
    refine VC h (fun h => ?_) (fun h => ?_)
    ·refine VE ?_
     refine zH ?_
     obtain rfl := zB h
     have h := hko32
     obtain rfl := zB h
     exact VT
    ·refine zK ?_
     show V _ _ _ _
     obtain ⟨i43, hi43, h⟩ := zU h
     refine V_reg (mb 122 17920) [240, 232] (s1 := ⟨bt 9 (.ow 232 :: .ow 240 :: bt 3 (I i43 :: bt 107 [])), [(240, .arr 3 1 (o9.map c3)), (232, .arr 24 1 (([[f1.1, f1.2.1, f1.2.2], [g2.1, g2.2.1, g2.2.2]]).map c24))]⟩) ?_ ?_
     ·refine XR 3 ?_
      refine zD ?_
      subst hi43
      kernel_rfl
     exact ⟨n, Nat.lt_succ_self n, _,  kk, h⟩
   ·refine V_exit ?_
    obtain rfl := zB h
    exact ⟨_, rfl, kk⟩
 rintro o32 rfl
 have h := hko32
 clear hko32
 show V _ _ _ _
 refine VE ?_
 cases h
 exact zH VT
theorem cf_spec_IsComposition : CfW Tryz.prog 156 := cfW Tryz.func156
theorem s_spec_IsComposition {f1 : (Int × Int × Int)} {g2 : (Int × Int × Int)} {vh3 : (Int × Int × Int)} {k4 : List Int} {r : (Bool × Bool)} (h : r_spec_IsComposition f1 g2 vh3 k4 = some r) : zP Tryz.prog 156 [.ag [Ti f1.1, Ti f1.2.1, Ti f1.2.2], .ag [Ti g2.1, Ti g2.2.1, Ti g2.2.2], .ag [Ti vh3.1, Ti vh3.2.1, Ti vh3.2.2], .c (.sl (k4.map c3))] (.tc (Bo r.1) (.tc (Bo r.2) .tn)) [] := by
 refine CtW [8, 9] Tryz.func156 rfl rfl 40 ?_
 unfold r_spec_IsComposition at h
 refine VE ?_
 refine zF ?_
 obtain ⟨y5, hy5, h⟩ := zA h
 obtain ⟨b8, hb8, h⟩ := zA h
 obtain ⟨b11, hb11, h⟩ := zA h
 obtain ⟨b15, hb15, h⟩ := zA h
 refine zO (mb 40 17179869304) [48, 40, 32] (s1 := ⟨bt 3 (.c (.sl (k4.map c3)) :: .pt 32 0 :: .pt 40 0 :: .pt 48 0 :: bt 27 (Bo b15 :: bt 5 [])), [(48, .box [Ti vh3.1, Ti vh3.2.1, Ti vh3.2.2]), (40, .box [Ti g2.1, Ti g2.2.1, Ti g2.2.2]), (32, .box [Ti f1.1, Ti f1.2.1, Ti f1.2.2])]⟩) ?_ ?_
 ·refine YK 2 (s_spec_coTwo hy5) cf_spec_coTwo ?_
  refine YR 2 ?_
  refine zJ (!y5) (fun hc6 => ?_) (fun hc6 => ?_)
  ·have hb8 := zB (zN hb8 hc6)
   refine YQ hc6 ?_
   refine YR 6 ?_
   subst hb8
   have hc9 : true = true := rfl
   have hb11 := zB (zN hb11 hc9)
   refine YR 5 ?_
   subst hb11
   have hc12 : true = true := rfl
   refine YR 5 ?_
   refine zJ (bif true then true else (!eqI ((k4.length : Int)) 8)) (fun hc13 => ?_) (fun hc13 => ?_)
   ·have hb15 := zB (zN hb15 hc13)
    refine YQ hc13 ?_
    exact YE (by rw [← hb15]; (try rw [hc13]); (try rw [hc6]); kernel_rfl)
   ·have hb15 := zC hb15 hc13
    obtain ⟨y14, hy14, hb15⟩ := zA hb15
    have hb15 := zB hb15
    refine YQ hc13 ?_
    refine YK 1 (s_spec_l1All hy14) cf_spec_l1All ?_
    exact YE (by rw [← hb15]; (try rw [hc13]); (try rw [hc6]); kernel_rfl)
  ·have hb8 := zC hb8 hc6
   obtain ⟨y7, hy7, hb8⟩ := zA hb8
   have hb8 := zB hb8
   refine YQ hc6 ?_
   refine YK 2 (s_spec_coTwo hy7) cf_spec_coTwo ?_
   refine YR 3 ?_
   refine zJ b8 (fun hc9 => ?_) (fun hc9 => ?_)
   ·have hb11 := zB (zN hb11 hc9)
    refine YQ hc9 ?_ (by rw [← hb8]; (try rw [hc6]); kernel_rfl)
    refine YR 5 ?_
    subst hb11
    have hc12 : true = true := rfl
    refine YR 5 ?_
    refine zJ (bif true then true else (!eqI ((k4.length : Int)) 8)) (fun hc13 => ?_) (fun hc13 => ?_)
    ·have hb15 := zB (zN hb15 hc13)
     refine YQ hc13 ?_
     exact YE (by rw [← hb15]; (try rw [hc13]); (try rw [hc6]); (try rw [hc9]); kernel_rfl)
    ·have hb15 := zC hb15 hc13
     obtain ⟨y14, hy14, hb15⟩ := zA hb15
     have hb15 := zB hb15
     refine YQ hc13 ?_
     refine YK 1 (s_spec_l1All hy14) cf_spec_l1All ?_
     exact YE (by rw [← hb15]; (try rw [hc13]); (try rw [hc6]); (try rw [hc9]); kernel_rfl)
   ·have hb11 := zC hb11 hc9
    obtain ⟨y10, hy10, hb11⟩ := zA hb11
    have hb11 := zB hb11
    refine YQ hc9 ?_ (by rw [← hb8]; (try rw [← hb11]); (try rw [hc6]); kernel_rfl)
    refine YK 1 (s_spec_reIs hy10) cf_spec_reIs ?_
    refine YR 3 ?_
    refine zJ b11 (fun hc12 => ?_) (fun hc12 => ?_)
    ·refine YQ hc12 ?_ (by rw [← hb11]; (try rw [hc6]); (try rw [hc9]); kernel_rfl)
     refine YR 5 ?_
     refine zJ (bif b11 then true else (!eqI ((k4.length : Int)) 8)) (fun hc13 => ?_) (fun hc13 => ?_)
     ·have hb15 := zB (zN hb15 hc13)
      refine YQ hc13 ?_ (by rw [hc12]; kernel_rfl)
      exact YE (by rw [← hb15]; (try rw [hc13]); (try rw [hc6]); (try rw [hc12]); (try rw [hc9]); kernel_rfl)
     ·have hb15 := zC hb15 hc13
      obtain ⟨y14, hy14, hb15⟩ := zA hb15
      have hb15 := zB hb15
      refine YQ hc13 ?_ (by rw [hc12]; kernel_rfl)
      refine YK 1 (s_spec_l1All hy14) cf_spec_l1All ?_
      exact YE (by rw [← hb15]; (try rw [hc13]); (try rw [hc6]); (try rw [hc12]); (try rw [hc9]); kernel_rfl)
    ·refine YQ hc12 ?_ (by rw [← hb11]; (try rw [hc6]); (try rw [hc9]); kernel_rfl)
     refine YR 1 ?_
     refine YT (X_of_Y0 rfl (Y0_lenM (c := c3) (xs := k4) Tryz.underlying24 rfl kk)) ?_
     refine YR 3 ?_
     refine zJ (bif b11 then true else (!eqI ((k4.length : Int)) 8)) (fun hc13 => ?_) (fun hc13 => ?_)
     ·have hb15 := zB (zN hb15 hc13)
      refine YQ hc13 ?_ (by rw [hc12]; kernel_rfl)
      exact YE (by rw [← hb15]; (try rw [hc13]); (try rw [hc6]); (try rw [hc12]); (try rw [hc9]); kernel_rfl)
     ·have hb15 := zC hb15 hc13
      obtain ⟨y14, hy14, hb15⟩ := zA hb15
      have hb15 := zB hb15
      refine YQ hc13 ?_ (by rw [hc12]; kernel_rfl)
      refine YK 1 (s_spec_l1All hy14) cf_spec_l1All ?_
      exact YE (by rw [← hb15]; (try rw [hc13]); (try rw [hc6]); (try rw [hc12]); (try rw [hc9]); kernel_rfl)
 refine VC h (fun h => ?_) (fun h => ?_)
 ·refine VE ?_
  cases h
  exact zH VT
 ·refine zK ?_
  show V _ _ _ _
  obtain ⟨y17, hy17, h⟩ := zA h
  refine VS ?_
  refine YK 4 (s_spec_coFits hy17) cf_spec_coFits ?_
  refine YF ?_
  cases h
  exact zH VT
theorem cf_spec_coOne : CfW Tryz.prog 222 := cfW Tryz.func222
theorem s_spec_coOne {d1 : Int} {r : (Int × Int × Int)} (h : r_spec_coOne d1 = some r) : zP Tryz.prog 222 [I d1] (.ag [Ti r.1, Ti r.2.1, Ti r.2.2]) [] := by
 refine zT (rs := [.w 2 3]) (vs := [.cell 2 38]) Tryz.func222 rfl rfl (.cons ⟨rfl, wd38⟩ FitsL.nil) (by decide) 12 rfl ?_
 unfold r_spec_coOne at h
 refine VE ?_
 obtain ⟨y2, hy2, h⟩ := zA h
 refine VS ?_
 refine YK 1 (s_spec_nuMod hy2) cf_spec_nuMod ?_
 refine YF ?_
 obtain ⟨f3, hf3, h⟩ := zU h
 refine zO (mb 12 4) [16] (s1 := ⟨.bot :: .bot :: .pt 16 0 :: bt 9 [], [(16, .box [Ti 1, Ti y2, Ti f3])]⟩) ?_ ?_
 ·refine XR 4 ?_
  refine L0 rfl rfl (zS (a := w64 (y2 - d1)) (b := 4) rfl kk kk (by decide)) ?_
  refine L0 rfl rfl (Y0_build (cs := [Ti 1, Ti y2, Ti (w64 (Int.tdiv (w64 (y2 - d1)) 4))]) pl38 bt38 rfl rfl kk) ?_
  refine XR 1 ?_
  refine zD ?_
  subst hf3
  kernel_rfl
 cases h
 exact zH VT
theorem cf_spec_reNormal : CfW Tryz.prog 274 := cfW Tryz.func274
theorem s_spec_reNormal {f1 : (Int × Int × Int)} {r : Int} (h : r_spec_reNormal f1 = some r) : zP Tryz.prog 274 [.ag [Ti f1.1, Ti f1.2.1, Ti f1.2.2]] (I r) [] := by
 refine CtW [2] Tryz.func274 rfl rfl 22 ?_
 unfold r_spec_reNormal at h
 refine VE ?_
 obtain ⟨y2, hy2, h⟩ := zA h
 obtain ⟨z3, hz3, h⟩ := zA h
 obtain ⟨t4, ht4, h⟩ := zU h
 refine V_sdreg [0, 1, 0, 4, 15, 0, 32, 0, 128, 480, 0, 1024, 3072, 8160, 16383, 0, 32768, 98304, 262143, 524287] 20 (cdm 20 [45276113056, 45276113057, 45276112906, 45276112922, 45276112981, 45141361322, 45141362346, 45141207722, 45141224106, 45141284522, 45097855658, 45098904234, 45103098538, 45119526570, 45186635093, 715827882, 1789569706, 6084537002, 22906492245, 91625968981]) (mb 22 4) [] (s1 := ⟨.bot :: .bot :: I t4 :: bt 19 [], []⟩) kk kk ?_ ?_
 ·refine DR 13 ?_
  refine DC 13 (s_spec_nuMod hy2) cf_spec_nuMod rfl rfl rfl rfl 16 rfl ?_
  refine DR 4 ?_
  refine DE_0 18 (I (w64 (Int.tdiv (w64 ((w64 (f1.1 - f1.2.1)) - y2)) (w64 (2 * f1.1))))) kk rfl rfl rfl (zI rfl) kk (zS (a := w64 ((w64 (f1.1 - f1.2.1)) - y2)) (b := w64 (2 * f1.1)) rfl kk kk (nz_some hz3)) 21 rfl ?_
  refine DA 1 ?_
  refine zD ?_
  subst ht4
  kernel_rfl
 cases h
 exact zH VT
theorem cf_spec_reMove : CfW Tryz.prog 236 := cfW Tryz.func236
theorem s_spec_reMove {f1 : (Int × Int × Int)} {r : (Int × Int × Int × Int)} (h : r_spec_reMove f1 = some r) : zP Tryz.prog 236 [.ag [Ti f1.1, Ti f1.2.1, Ti f1.2.2]] (.ag [Ti r.1, Ti r.2.1, Ti r.2.2.1, Ti r.2.2.2]) [] := by
 refine zT (rs := [.w 2 4]) (vs := [.cell 2 109]) Tryz.func236 rfl rfl (.cons ⟨rfl, wd109⟩ FitsL.nil) (by decide) 14 rfl ?_
 unfold r_spec_reMove at h
 refine VE ?_
 refine zF ?_
 obtain ⟨y2, hy2, h⟩ := zA h
 refine VS ?_
 refine YK 1 (s_spec_reNormal hy2) cf_spec_reNormal ?_
 refine YF ?_
 refine VE ?_
 refine VC h (fun h => ?_) (fun h => ?_)
 ·refine VS ?_
  refine YR 1 ?_
  refine L0 rfl rfl (Y0_build (cs := [Ti 1, Ti y2, Ti 0, Ti 1]) pl109 bt109 rfl rfl kk) ?_
  refine YF ?_
  cases h
  exact zH VT
 ·refine zK ?_
  show V _ _ _ _
  refine zF ?_
  obtain ⟨y4, hy4, h⟩ := zA h
  refine VS ?_
  refine YK 1 (s_spec_reIs hy4) cf_spec_reIs ?_
  refine YF ?_
  refine VC h (fun h => ?_) (fun h => ?_)
  ·refine VS ?_
   refine L0 rfl rfl (Y0_build (cs := [Ti 1, Ti 0, Ti 0, Ti 1]) pl109 bt109 rfl rfl kk) ?_
   refine YF ?_
   cases h
   exact zH VT
  ·refine zK ?_
   show V _ _ _ _
   refine VS ?_
   refine L0 rfl rfl (Y0_build (cs := [Ti 0, Ti (-1), Ti 1, Ti 0]) pl109 bt109 rfl rfl kk) ?_
   refine YF ?_
   cases h
   exact zH VT
theorem cf_spec_foMul : CfW Tryz.prog 237 := cfW Tryz.func237
theorem s_spec_foMul {vm1 : (Int × Int × Int × Int)} {vn2 : (Int × Int × Int × Int)} {r : (Int × Int × Int × Int)} (h : r_spec_foMul vm1 vn2 = some r) : zP Tryz.prog 237 [.ag [Ti vm1.1, Ti vm1.2.1, Ti vm1.2.2.1, Ti vm1.2.2.2], .ag [Ti vn2.1, Ti vn2.2.1, Ti vn2.2.2.1, Ti vn2.2.2.2]] (.ag [Ti r.1, Ti r.2.1, Ti r.2.2.1, Ti r.2.2.2]) [] := by
 refine zT (rs := [.w 4 4]) (vs := [.cell 4 109]) Tryz.func237 rfl rfl (.cons ⟨rfl, wd109⟩ FitsL.nil) (by decide) 50 rfl ?_
 unfold r_spec_foMul at h
 refine VE ?_
 obtain ⟨f3, hf3, h⟩ := zU h
 obtain ⟨f4, hf4, h⟩ := zU h
 obtain ⟨f5, hf5, h⟩ := zU h
 obtain ⟨f6, hf6, h⟩ := zU h
 refine zO (mb 50 16) [32] (s1 := ⟨bt 4 (.pt 32 0 :: bt 45 []), [(32, .box [Ti f3, Ti f4, Ti f5, Ti f6])]⟩) ?_ ?_
 ·refine XR 44 ?_
  refine L0 rfl rfl (Y0_build (cs := [Ti (w64 ((w64 (vm1.1 * vn2.1)) + (w64 (vm1.2.1 * vn2.2.2.1)))), Ti (w64 ((w64 (vm1.1 * vn2.2.1)) + (w64 (vm1.2.1 * vn2.2.2.2)))), Ti (w64 ((w64 (vm1.2.2.1 * vn2.1)) + (w64 (vm1.2.2.2 * vn2.2.2.1)))), Ti (w64 ((w64 (vm1.2.2.1 * vn2.2.1)) + (w64 (vm1.2.2.2 * vn2.2.2.2))))]) pl109 bt109 rfl rfl kk) ?_
  refine XR 1 ?_
  refine zD ?_
  subst hf3 hf4 hf5 hf6
  kernel_rfl
 cases h
 exact zH VT
theorem cf_spec_reReduce : CfW Tryz.prog 183 := cfW Tryz.func183
theorem s_spec_reReduce {f1 : (Int × Int × Int)} {r : (((Int × Int × Int)) × ((Int × Int × Int × Int)))} (h : r_spec_reReduce f1 = some r) : zP Tryz.prog 183 [.ag [Ti f1.1, Ti f1.2.1, Ti f1.2.2]] (.tc (.ag [Ti r.1.1, Ti r.1.2.1, Ti r.1.2.2]) (.tc (.ag [Ti r.2.1, Ti r.2.2.1, Ti r.2.2.2.1, Ti r.2.2.2.2]) .tn)) [] := by
 refine zT (rs := [.w 2 3, .w 3 4]) (vs := [.cell 2 38, .cell 3 109]) Tryz.func183 rfl rfl (.cons ⟨rfl, wd38⟩ (.cons ⟨rfl, wd109⟩ FitsL.nil)) (by decide) 20 rfl ?_
 unfold r_spec_reReduce at h
 refine VE ?_
 refine VS ?_
 refine L0 rfl rfl (Y0_build (cs := [Ti 1, Ti 0, Ti 0, Ti 1]) pl109 bt109 rfl rfl kk) ?_
 refine YF ?_
 refine zF ?_
 obtain ⟨o10, hLo10, h⟩ := zA h
 refine V_toK (mb 20 30) [32, 24, 16, 8] (s1 := ⟨.bot :: .pt 8 0 :: .pt 16 0 :: .pt 24 0 :: .pt 32 0 :: bt 15 [], [(32, .box [Ti o10.1, Ti o10.2.1, Ti o10.2.2.1, Ti o10.2.2.2.1]), (24, .box [Ti 0, Ti 0, Ti 0, Ti 0]), (16, .box [Ti 0, Ti 0, Ti 0]), (8, .box [Ti o10.2.2.2.2.1, Ti o10.2.2.2.2.2.1, Ti o10.2.2.2.2.2.2])]⟩) ?_ ?_
 ·clear h
  refine zG (V_loop (fun n s => ∃ (f2 : Int) (f3 : Int) (f4 : Int) (f5 : Int) (f6 : Int) (f7 : Int) (f8 : Int), s.keep (mb 20 30) [32, 24, 16, 8] = (⟨.bot :: .pt 8 0 :: .pt 16 0 :: .pt 24 0 :: .pt 32 0 :: bt 15 [], [(32, .box [Ti f2, Ti f3, Ti f4, Ti f5]), (24, .box [Ti 0, Ti 0, Ti 0, Ti 0]), (16, .box [Ti 0, Ti 0, Ti 0]), (8, .box [Ti f6, Ti f7, Ti f8])]⟩ : St) ∧ r_spec_reReduce_L9 n f2 f3 f4 f5 f6 f7 f8 = some o10) FU ⟨_, _, _, _, _, _, _,  kk, hLo10⟩ ?_)
  clear hLo10
  rintro n s ⟨f2, f3, f4, f5, f6, f7, f8, hs, h⟩
  refine zV _ _ hs ?_
  clear hs
  cases n with
  | zero => cases h
  | succ n =>
   rw [r_spec_reReduce_L9] at h
   refine zF ?_
   obtain ⟨y11, hy11, h⟩ := zA h
   refine VS ?_
   refine YK 1 (s_spec_reIs hy11) cf_spec_reIs ?_
   refine YF ?_
   refine VC h (fun h => ?_) (fun h => ?_)
   ·refine zK ?_
    show V _ _ _ _
    refine zG ?_
    obtain ⟨y13, hy13, h⟩ := zA h
    refine VS ?_
    refine YK 1 (s_spec_reMove hy13) cf_spec_reMove ?_
    refine YF ?_
    obtain ⟨y14, hy14, h⟩ := zA h
    obtain ⟨y15, hy15, h⟩ := zA h
    refine VDR [0, 0, 3, 0, 0, 31, 63, 127] 6 (cdm 6 [648, 642, 645, 554, 170, 341]) ?_
    refine EK 2 (s_spec_foAct hy14) cf_spec_foAct ?_
    refine EK 2 (s_spec_foMul hy15) cf_spec_foMul ?_
    refine EF 0 ?_
    exact ⟨n, Nat.lt_succ_self n, _, _, _, _, _, _, _,  kk, h⟩
   ·refine V_exit ?_
    obtain rfl := zB h
    show St.keep _ _ _ = _
    kernel_rfl
 show V _ _ _ _
 refine VDS [0, 0, 1, 7] 3 [[.z, .b, .z], [.b, .z, .r 16], [.a, .b, .z]] ?_
 refine EF 3 ?_
 cases h
 exact zH VT
theorem cf_spec_reClass : CfW Tryz.prog 97 := cfW Tryz.func97
theorem s_spec_reClass {f1 : (Int × Int × Int)} {r : (Int × Int × Int)} (h : r_spec_reClass f1 = some r) : zP Tryz.prog 97 [.ag [Ti f1.1, Ti f1.2.1, Ti f1.2.2]] (.ag [Ti r.1, Ti r.2.1, Ti r.2.2]) [] := by
 refine zT (rs := [.w 2 3]) (vs := [.cell 2 38]) Tryz.func97 rfl rfl (.cons ⟨rfl, wd38⟩ FitsL.nil) (by decide) 11 rfl ?_
 unfold r_spec_reClass at h
 refine VE ?_
 obtain ⟨y2, hy2, h⟩ := zA h
 refine VS ?_
 refine YK 1 (s_spec_reReduce hy2) cf_spec_reReduce ?_
 refine YF ?_
 refine VE ?_
 cases h
 exact zH VT
theorem cf_spec_foOpposite : CfW Tryz.prog 186 := cfW Tryz.func186
theorem s_spec_foOpposite {f1 : (Int × Int × Int)} {r : (Int × Int × Int)} (h : r_spec_foOpposite f1 = some r) : zP Tryz.prog 186 [.ag [Ti f1.1, Ti f1.2.1, Ti f1.2.2]] (.ag [Ti r.1, Ti r.2.1, Ti r.2.2]) [] := by
 refine zT (rs := [.w 2 3]) (vs := [.cell 2 38]) Tryz.func186 rfl rfl (.cons ⟨rfl, wd38⟩ FitsL.nil) (by decide) 11 rfl ?_
 unfold r_spec_foOpposite at h
 refine VE ?_
 obtain ⟨f2, hf2, h⟩ := zU h
 refine zO (mb 11 4) [16] (s1 := ⟨.bot :: .bot :: .pt 16 0 :: bt 8 [], [(16, .box [Ti f1.1, Ti f2, Ti f1.2.2])]⟩) ?_ ?_
 ·refine XR 7 ?_
  refine L0 rfl rfl (Y0_build (cs := [Ti f1.1, Ti (w64 (0 - f1.2.1)), Ti f1.2.2]) pl38 bt38 rfl rfl kk) ?_
  refine XR 1 ?_
  refine zD ?_
  subst hf2
  kernel_rfl
 cases h
 exact zH VT
theorem cf_spec_coInverse : CfW Tryz.prog 101 := cfW Tryz.func101
theorem s_spec_coInverse {f1 : (Int × Int × Int)} {r : (Int × Int × Int)} (h : r_spec_coInverse f1 = some r) : zP Tryz.prog 101 [.ag [Ti f1.1, Ti f1.2.1, Ti f1.2.2]] (.ag [Ti r.1, Ti r.2.1, Ti r.2.2]) [] := by
 refine zT (rs := [.w 2 3]) (vs := [.cell 2 38]) Tryz.func101 rfl rfl (.cons ⟨rfl, wd38⟩ FitsL.nil) (by decide) 6 rfl ?_
 unfold r_spec_coInverse at h
 refine VE ?_
 obtain ⟨y2, hy2, h⟩ := zA h
 obtain ⟨y3, hy3, h⟩ := zA h
 refine VS ?_
 refine YK 1 (s_spec_foOpposite hy2) cf_spec_foOpposite ?_
 refine YK 0 (s_spec_reClass hy3) cf_spec_reClass ?_
 refine YF ?_
 cases h
 exact zH VT
theorem cf_spec_coPoint : CfW Tryz.prog 238 := cfW Tryz.func238
theorem s_spec_coPoint {g1 : (Int × Int × Int)} {a2 : Int} {r : (Int × Int)} (h : r_spec_coPoint g1 a2 = some r) : zP Tryz.prog 238 [.ag [Ti g1.1, Ti g1.2.1, Ti g1.2.2], I a2] (.tc (I r.1) (.tc (I r.2) .tn)) [] := by
 refine CtW [4, 5] Tryz.func238 rfl rfl 45 ?_
 unfold r_spec_coPoint at h
 refine VE ?_
 refine zF ?_
 refine VE ?_
 obtain ⟨qo5, hLo5, hko5⟩ := zA h
 refine V_toS (q := qo5) (S := fun o5 => ⟨bt 45 [], []⟩) (mb 45 0) [] ?_ ?_
 ·refine zG (V_loop (fun n s => ∃ (k3 : Int), s.keep (mb 45 70) [16] = (⟨.bot :: I a2 :: .pt 16 0 :: bt 3 (I k3 :: bt 38 []), [(16, .box [Ti g1.1, Ti g1.2.1, Ti g1.2.2])]⟩ : St) ∧ r_spec_coPoint_L4 a2 g1 n k3 = some qo5) FU ⟨_,  kk, hLo5⟩ ?_)
  clear hLo5
  rintro n s ⟨k3, hs, h⟩
  refine zV _ _ hs ?_
  clear hs
  cases n with
  | zero => cases h
  | succ n =>
   rw [r_spec_coPoint_L4] at h
   refine zF ?_
   refine VE ?_
   refine VC h (fun h => ?_) (fun h => ?_)
   ·refine zK ?_
    show V _ _ _ _
    refine zF ?_
    refine zG ?_
    refine VE ?_
    obtain ⟨qo9, hLo9, hko9⟩ := zA h
    refine V_toS (q := qo9) (S := fun o9 => ⟨.bot :: I a2 :: .pt 16 0 :: bt 3 (I k3 :: bt 38 []), [(16, .box [Ti g1.1, Ti g1.2.1, Ti g1.2.2])]⟩) (mb 45 70) [16] ?_ ?_
    ·refine zG (V_loop (fun n s => ∃ (x7 : Int), s.keep (mb 45 198) [16] = (⟨.bot :: I a2 :: .pt 16 0 :: bt 3 (I k3 :: I x7 :: bt 37 []), [(16, .box [Ti g1.1, Ti g1.2.1, Ti g1.2.2])]⟩ : St) ∧ r_spec_coPoint_L8 a2 g1 k3 n x7 = some qo9) FU ⟨_,  kk, hLo9⟩ ?_)
     clear hLo9
     rintro n s ⟨x7, hs, h⟩
     refine zV _ _ hs ?_
     clear hs
     cases n with
     | zero => cases h
     | succ n =>
      rw [r_spec_coPoint_L8] at h
      refine zF ?_
      refine VE ?_
      refine VC h (fun h => ?_) (fun h => ?_)
      ·refine zK ?_
       show V _ _ _ _
       refine zF ?_
       refine zG ?_
       refine VE ?_
       obtain ⟨qo13, hLo13, hko13⟩ := zA h
       refine V_toS (q := qo13) (S := fun o13 => ⟨.bot :: I a2 :: .pt 16 0 :: bt 3 (I k3 :: I x7 :: bt 37 []), [(16, .box [Ti g1.1, Ti g1.2.1, Ti g1.2.2])]⟩) (mb 45 198) [16] ?_ ?_
       ·refine zG (V_loop (fun n s => ∃ (y11 : Int), s.keep (mb 45 454) [16] = (⟨.bot :: I a2 :: .pt 16 0 :: bt 3 (I k3 :: I x7 :: I y11 :: bt 36 []), [(16, .box [Ti g1.1, Ti g1.2.1, Ti g1.2.2])]⟩ : St) ∧ r_spec_coPoint_L12 a2 g1 k3 x7 n y11 = some qo13) FU ⟨_,  kk, hLo13⟩ ?_)
        clear hLo13
        rintro n s ⟨y11, hs, h⟩
        refine zV _ _ hs ?_
        clear hs
        cases n with
        | zero => cases h
        | succ n =>
         rw [r_spec_coPoint_L12] at h
         refine zF ?_
         refine VE ?_
         refine VC h (fun h => ?_) (fun h => ?_)
         ·refine zK ?_
          show V _ _ _ _
          refine zF ?_
          refine zG ?_
          obtain ⟨y15, hy15, h⟩ := zA h
          obtain ⟨b18, hb18, h⟩ := zA h
          obtain ⟨b22, hb22, h⟩ := zA h
          refine zO (mb 45 4398046511558) [16] (s1 := ⟨.bot :: I a2 :: .pt 16 0 :: bt 3 (I k3 :: I x7 :: I y11 :: bt 33 (Bo b22 :: .bot :: .bot :: [])), [(16, .box [Ti g1.1, Ti g1.2.1, Ti g1.2.2])]⟩) ?_ ?_
          ·refine YK 2 (s_spec_l1Most hy15) cf_spec_l1Most ?_
           refine YR 3 ?_
           refine zJ (eqI y15 k3) (fun hc16 => ?_) (fun hc16 => ?_)
           ·have hb18 := zN hb18 hc16
            obtain ⟨y17, hy17, hb18⟩ := zA hb18
            have hb18 := zB hb18
            refine YQ hc16 ?_
            refine YK 2 (s_spec_nuGcd hy17) cf_spec_nuGcd ?_
            refine YR 3 ?_
            refine zJ b18 (fun hc19 => ?_) (fun hc19 => ?_)
            ·have hb22 := zN hb22 hc19
             obtain ⟨y20, hy20, hb22⟩ := zA hb22
             obtain ⟨y21, hy21, hb22⟩ := zA hb22
             have hb22 := zB hb22
             refine YQ hc19 ?_ (by rw [← hb18]; (try rw [← hb22]); (try rw [hc16]); kernel_rfl)
             refine YK 3 (s_spec_foValue hy20) cf_spec_foValue ?_
             refine YK 1 (s_spec_nuGcd hy21) cf_spec_nuGcd ?_
             exact YE (by rw [← hb22]; (try rw [hc16]); (try rw [hc19]); kernel_rfl)
            ·have hb22 := zB (zC hb22 hc19)
             refine YQ hc19 ?_ (by rw [← hb18]; (try rw [← hb22]); (try rw [hc16]); kernel_rfl)
             exact YE (by rw [← hb22]; (try rw [hc16]); (try rw [hc19]); kernel_rfl)
           ·have hb18 := zB (zC hb18 hc16)
            refine YQ hc16 ?_
            refine YR 6 ?_
            subst hb18
            have hc19 : false = false := rfl
            have hb22 := zB (zC hb22 hc19)
            exact YE (by rw [← hb22]; (try rw [hc16]); kernel_rfl)
          refine VC h (fun h => ?_) (fun h => ?_)
          ·refine VE ?_
           refine zH ?_
           obtain rfl := zB h
           have h := hko13
           obtain rfl := zB h
           have h := hko9
           obtain rfl := zB h
           have h := hko5
           obtain rfl := zB h
           exact VT
          ·refine zK ?_
           show V _ _ _ _
           obtain ⟨y24, hy24, h⟩ := zU h
           refine V_reg (mb 45 454) [16] (s1 := ⟨.bot :: I a2 :: .pt 16 0 :: bt 3 (I k3 :: I x7 :: I y24 :: bt 36 []), [(16, .box [Ti g1.1, Ti g1.2.1, Ti g1.2.2])]⟩) ?_ ?_
           ·refine XR 3 ?_
            refine zD ?_
            subst hy24
            kernel_rfl
           exact ⟨n, Nat.lt_succ_self n, _,  kk, h⟩
         ·refine V_exit ?_
          obtain rfl := zB h
          exact ⟨_, rfl, kk⟩
       rintro o13 rfl
       have h := hko13
       clear hko13
       show V _ _ _ _
       obtain ⟨x25, hx25, h⟩ := zU h
       refine V_reg (mb 45 198) [16] (s1 := ⟨.bot :: I a2 :: .pt 16 0 :: bt 3 (I k3 :: I x25 :: bt 37 []), [(16, .box [Ti g1.1, Ti g1.2.1, Ti g1.2.2])]⟩) ?_ ?_
       ·refine XR 3 ?_
        refine zD ?_
        subst hx25
        kernel_rfl
       exact ⟨n, Nat.lt_succ_self n, _,  kk, h⟩
      ·refine V_exit ?_
       obtain rfl := zB h
       exact ⟨_, rfl, kk⟩
    rintro o9 rfl
    have h := hko9
    clear hko9
    show V _ _ _ _
    obtain ⟨k26, hk26, h⟩ := zU h
    refine V_reg (mb 45 70) [16] (s1 := ⟨.bot :: I a2 :: .pt 16 0 :: bt 3 (I k26 :: bt 38 []), [(16, .box [Ti g1.1, Ti g1.2.1, Ti g1.2.2])]⟩) ?_ ?_
    ·refine XR 3 ?_
     refine zD ?_
     subst hk26
     kernel_rfl
    exact ⟨n, Nat.lt_succ_self n, _,  kk, h⟩
   ·refine V_exit ?_
    obtain rfl := zB h
    exact ⟨_, rfl, kk⟩
 rintro o5 rfl
 have h := hko5
 clear hko5
 show V _ _ _ _
 refine VE ?_
 cases h
 exact zH VT
theorem cf_spec_l1Sign : CfW Tryz.prog 299 := cfW Tryz.func299
theorem s_spec_l1Sign {vn1 : Int} {r : Int} (h : r_spec_l1Sign vn1 = some r) : zP Tryz.prog 299 [I vn1] (I r) [] := by
 refine CtW [2] Tryz.func299 rfl rfl 9 ?_
 unfold r_spec_l1Sign at h
 refine VE ?_
 refine zF ?_
 refine zG ?_
 refine VE ?_
 refine VC h (fun h => ?_) (fun h => ?_)
 ·refine VE ?_
  cases h
  exact zH VT
 ·refine VE ?_
  refine VC h (fun h => ?_) (fun h => ?_)
  ·refine VE ?_
   cases h
   exact zH VT
  ·refine zK ?_
   show V _ _ _ _
   refine VE ?_
   cases h
   exact zH VT
theorem cf_spec_nuInverse : CfW Tryz.prog 276 := cfW Tryz.func276
theorem s_spec_nuInverse {a1 : Int} {vm2 : Int} {r : Int} (h : r_spec_nuInverse a1 vm2 = some r) : zP Tryz.prog 276 [I a1, I vm2] (I r) [] := by
 refine CtW [4] Tryz.func276 rfl rfl 36 ?_
 unfold r_spec_nuInverse at h
 refine VE ?_
 obtain ⟨y3, hy3, h⟩ := zA h
 refine VS ?_
 refine YK 3 (s_spec_nuMod hy3) cf_spec_nuMod ?_
 refine YF ?_
 refine zF ?_
 obtain ⟨o9, hLo9, h⟩ := zA h
 refine V_toK (mb 36 162) [] (s1 := ⟨.bot :: I vm2 :: bt 3 (I o9.1 :: .bot :: I o9.2 :: bt 28 []), []⟩) ?_ ?_
 ·clear h
  refine zG (V_loop (fun n s => ∃ (vr4 : Int) (next5 : Int) (x6 : Int) (y7 : Int), s.keep (mb 36 482) [] = (⟨.bot :: I vm2 :: bt 3 (I vr4 :: I next5 :: I x6 :: I y7 :: bt 27 []), []⟩ : St) ∧ r_spec_nuInverse_L8 vm2 n vr4 next5 x6 y7 = some o9) FU ⟨_, _, _, _,  kk, hLo9⟩ ?_)
  clear hLo9
  rintro n s ⟨vr4, next5, x6, y7, hs, h⟩
  refine zV _ _ hs ?_
  clear hs
  cases n with
  | zero => cases h
  | succ n =>
   rw [r_spec_nuInverse_L8] at h
   refine zF ?_
   refine VE ?_
   refine VC h (fun h => ?_) (fun h => ?_)
   ·refine zK ?_
    show V _ _ _ _
    refine zG ?_
    obtain ⟨z11, hz11, h⟩ := zA h
    obtain ⟨q12, hq12, h⟩ := zU h
    refine zO (mb 36 994) [] (s1 := ⟨.bot :: I vm2 :: bt 3 (I vr4 :: I next5 :: I x6 :: I y7 :: I q12 :: bt 26 []), []⟩) ?_ ?_
    ·refine XR 2 ?_
     refine L0 rfl rfl (zS (a := vr4) (b := next5) rfl kk kk (nz_some hz11)) ?_
     refine XR 1 ?_
     refine zD ?_
     subst hq12
     kernel_rfl
    obtain ⟨next13, hnext13, h⟩ := zU h
    refine zO (mb 36 994) [] (s1 := ⟨.bot :: I vm2 :: bt 3 (I next5 :: I next13 :: I x6 :: I y7 :: I q12 :: bt 26 []), []⟩) ?_ ?_
    ·refine XR 8 ?_
     refine zD ?_
     subst hnext13
     kernel_rfl
    obtain ⟨y14, hy14, h⟩ := zU h
    refine V_reg (mb 36 482) [] (s1 := ⟨.bot :: I vm2 :: bt 3 (I next5 :: I next13 :: I y7 :: I y14 :: bt 27 []), []⟩) ?_ ?_
    ·refine XR 8 ?_
     refine zD ?_
     subst hy14
     kernel_rfl
    exact ⟨n, Nat.lt_succ_self n, _, _, _, _,  kk, h⟩
   ·refine V_exit ?_
    obtain rfl := zB h
    show St.keep _ _ _ = _
    kernel_rfl
 show V _ _ _ _
 refine zF ?_
 refine VE ?_
 refine VC h (fun h => ?_) (fun h => ?_)
 ·refine VE ?_
  cases h
  exact zH VT
 ·refine zK ?_
  show V _ _ _ _
  obtain ⟨y16, hy16, h⟩ := zA h
  refine VS ?_
  refine YK 2 (s_spec_nuMod hy16) cf_spec_nuMod ?_
  refine YF ?_
  cases h
  exact zH VT
theorem cf_spec_nuBezout : CfW Tryz.prog 275 := cfW Tryz.func275
theorem s_spec_nuBezout {a1 : Int} {b2 : Int} {r : (Int × Int × Int)} (h : r_spec_nuBezout a1 b2 = some r) : zP Tryz.prog 275 [I a1, I b2] (.tc (I r.1) (.tc (I r.2.1) (.tc (I r.2.2) .tn))) [] := by
 refine CtW [4, 5, 6] Tryz.func275 rfl rfl 34 ?_
 unfold r_spec_nuBezout at h
 refine VE ?_
 obtain ⟨y3, hy3, h⟩ := zA h
 refine VS ?_
 refine YK 2 (s_spec_nuGcd hy3) cf_spec_nuGcd ?_
 refine YF ?_
 refine zF ?_
 refine VE ?_
 refine VC h (fun h => ?_) (fun h => ?_)
 ·obtain ⟨y5, hy5, h⟩ := zA h
  refine VS ?_
  refine YK 2 (s_spec_l1Sign hy5) cf_spec_l1Sign ?_
  refine YF ?_
  cases h
  exact zH VT
 ·refine zK ?_
  show V _ _ _ _
  obtain ⟨z6, hz6, h⟩ := zA h
  obtain ⟨y7, hy7, h⟩ := zA h
  obtain ⟨z8, hz8, h⟩ := zA h
  obtain ⟨y9, hy9, h⟩ := zA h
  refine VDS [0, 0, 3, 0, 8, 0, 56, 127, 255] 9 (cdm 9 [10888, 10882, 10885, 2090, 2154, 682, 1386, 5461, 21845]) ?_
  refine ER 2 ?_
  refine E0 2 rfl rfl (zS (a := a1) (b := y3) rfl kk kk (nz_some hz6)) ?_
  refine EK 1 (s_spec_l1Abs hy7) cf_spec_l1Abs ?_
  refine ER 1 ?_
  refine E0 6 rfl rfl (zS (a := y7) (b := y3) rfl kk kk (nz_some hz8)) ?_
  refine EK 0 (s_spec_nuInverse hy9) cf_spec_nuInverse ?_
  refine EF 1 ?_
  obtain ⟨z10, hz10, h⟩ := zA h
  obtain ⟨t11, ht11, h⟩ := zU h
  refine V_sdreg [0, 0, 0, 0, 0, 24, 60, 0, 252, 1, 515, 2047] 12 (cdm 12 [174760, 699042, 2656906, 2654762, 2654378, 2654570, 2655578, 2632362, 2643290, 174761, 436901, 1398101]) (mb 34 112) [] (s1 := ⟨bt 4 (I y3 :: I y9 :: I t11 :: bt 27 []), []⟩) kk kk ?_ ?_
  ·refine DR 8 ?_
   refine DE_0 8 (I (w64 (Int.tdiv (w64 (y3 - (w64 (a1 * y9)))) b2))) kk rfl rfl rfl (zI rfl) kk (zS (a := w64 (y3 - (w64 (a1 * y9)))) (b := b2) rfl kk kk (nz_some hz10)) 33 rfl ?_
   refine DA 3 ?_
   refine zD ?_
   subst ht11
   kernel_rfl
  cases h
  exact zH VT
theorem cf_spec_vaComplete : CfW Tryz.prog 239 := cfW Tryz.func239
theorem s_spec_vaComplete {f1 : (Int × Int × Int)} {x2 : Int} {y3 : Int} {r : (((Int × Int × Int)) × ((Int × Int × Int × Int)))} (h : r_spec_vaComplete f1 x2 y3 = some r) : zP Tryz.prog 239 [.ag [Ti f1.1, Ti f1.2.1, Ti f1.2.2], I x2, I y3] (.tc (.ag [Ti r.1.1, Ti r.1.2.1, Ti r.1.2.2]) (.tc (.ag [Ti r.2.1, Ti r.2.2.1, Ti r.2.2.2.1, Ti r.2.2.2.2]) .tn)) [] := by
 refine zT (rs := [.w 6 3, .w 7 4]) (vs := [.cell 6 38, .cell 7 109]) Tryz.func239 rfl rfl (.cons ⟨rfl, wd38⟩ (.cons ⟨rfl, wd109⟩ FitsL.nil)) (by decide) 76 rfl ?_
 unfold r_spec_vaComplete at h
 refine VE ?_
 obtain ⟨y4, hy4, h⟩ := zA h
 refine VS ?_
 refine YK 2 (s_spec_nuBezout hy4) cf_spec_nuBezout ?_
 refine YF ?_
 obtain ⟨y5, hy5, h⟩ := zA h
 obtain ⟨q6, hq6, h⟩ := zU h
 refine zO (mb 76 6862) [56, 48, 24] (s1 := ⟨.bot :: I x2 :: I y3 :: .pt 24 0 :: .bot :: .bot :: .pt 48 0 :: .pt 56 0 :: .bot :: I y4.2.1 :: .bot :: I q6 :: I y5 :: bt 63 [], [(56, .box [Ti 0, Ti 0, Ti 0, Ti 0]), (48, .box [Ti 0, Ti 0, Ti 0]), (24, .box [Ti f1.1, Ti f1.2.1, Ti f1.2.2])]⟩) ?_ ?_
 ·refine XR 5 ?_
  refine XC (s_spec_foValue hy5) cf_spec_foValue rfl rfl rfl ?_
  refine XR 2 ?_
  refine zD ?_
  subst hq6
  kernel_rfl
 obtain ⟨y7, hy7, h⟩ := zA h
 refine VS ?_
 refine YK 5 (s_spec_foPolar hy7) cf_spec_foPolar ?_
 refine YF ?_
 obtain ⟨y8, hy8, h⟩ := zA h
 obtain ⟨z9, hz9, h⟩ := zA h
 obtain ⟨t10, ht10, h⟩ := zU h
 refine zO (mb 76 31438) [56, 48, 24] (s1 := ⟨.bot :: I x2 :: I y3 :: .pt 24 0 :: .bot :: .bot :: .pt 48 0 :: .pt 56 0 :: .bot :: I y4.2.1 :: .bot :: I q6 :: I y5 :: I y7 :: I t10 :: bt 61 [], [(56, .box [Ti 0, Ti 0, Ti 0, Ti 0]), (48, .box [Ti 0, Ti 0, Ti 0]), (24, .box [Ti f1.1, Ti f1.2.1, Ti f1.2.2])]⟩) ?_ ?_
 ·refine XR 3 ?_
  refine XC (s_spec_nuMod hy8) cf_spec_nuMod rfl rfl rfl ?_
  refine XR 4 ?_
  refine L0 rfl rfl (zS (a := w64 (y8 - y7)) (b := w64 (2 * y5)) rfl kk kk (nz_some hz9)) ?_
  refine XR 1 ?_
  refine zD ?_
  subst ht10
  kernel_rfl
 obtain ⟨f11, hf11, h⟩ := zU h
 obtain ⟨f12, hf12, h⟩ := zU h
 refine zO (mb 76 61640) [120, 56, 48, 24] (s1 := ⟨bt 3 (.pt 24 0 :: .bot :: .bot :: .pt 48 0 :: .pt 56 0 :: bt 4 (I y5 :: I y7 :: I t10 :: .pt 120 0 :: bt 60 [])), [(120, .box [Ti x2, Ti f11, Ti y3, Ti f12]), (56, .box [Ti 0, Ti 0, Ti 0, Ti 0]), (48, .box [Ti 0, Ti 0, Ti 0]), (24, .box [Ti f1.1, Ti f1.2.1, Ti f1.2.2])]⟩) ?_ ?_
 ·refine XR 12 ?_
  refine L0 rfl rfl (Y0_build (cs := [Ti x2, Ti (w64 (q6 + (w64 (x2 * t10)))), Ti y3, Ti (w64 (y4.2.1 + (w64 (y3 * t10))))]) pl109 bt109 rfl rfl kk) ?_
  refine XR 2 ?_
  refine zD ?_
  subst hf11 hf12
  kernel_rfl
 obtain ⟨b13, hb13, h⟩ := zU h
 refine zO (mb 76 45256) [120, 56, 48, 24] (s1 := ⟨bt 3 (.pt 24 0 :: .bot :: .bot :: .pt 48 0 :: .pt 56 0 :: bt 4 (I y5 :: I b13 :: .bot :: .pt 120 0 :: bt 60 [])), [(120, .box [Ti x2, Ti f11, Ti y3, Ti f12]), (56, .box [Ti 0, Ti 0, Ti 0, Ti 0]), (48, .box [Ti 0, Ti 0, Ti 0]), (24, .box [Ti f1.1, Ti f1.2.1, Ti f1.2.2])]⟩) ?_ ?_
 ·refine XR 7 ?_
  refine zD ?_
  subst hb13
  kernel_rfl
 obtain ⟨y14, hy14, h⟩ := zA h
 obtain ⟨z15, hz15, h⟩ := zA h
 obtain ⟨f16, hf16, h⟩ := zU h
 refine V_sdreg [0, 0, 0, 0, 12, 0, 32, 124, 0, 256, 1020, 2047, 0, 4095, 16383] 14 [[.z, .b, .b, .b, .b, .b, .b, .b, .b, .b, .b, .z, .b, .z], [.b, .z, .b, .b, .b, .b, .b, .b, .b, .b, .b, .z, .b, .z], [.b, .b, .z, .b, .z, .b, .b, .z, .b, .b, .z, .z, .b, .z], [.b, .b, .b, .z, .z, .b, .b, .z, .b, .b, .z, .z, .b, .z], [.b, .b, .a, .a, .z, .b, .b, .z, .b, .b, .z, .z, .b, .z], [.b, .b, .b, .b, .b, .z, .z, .z, .b, .b, .z, .z, .b, .z], [.b, .b, .b, .b, .b, .a, .z, .z, .b, .b, .z, .z, .b, .z], [.b, .b, .a, .a, .a, .a, .a, .z, .b, .b, .z, .z, .b, .z], [.b, .b, .b, .b, .b, .b, .b, .b, .z, .z, .z, .z, .b, .z], [.b, .b, .b, .b, .b, .b, .b, .b, .a, .z, .z, .z, .b, .z], [.b, .b, .a, .a, .a, .a, .a, .a, .a, .a, .z, .z, .b, .z], [.a, .a, .a, .a, .a, .a, .a, .a, .a, .a, .a, .z, .b, .z], [.b, .b, .b, .b, .b, .b, .b, .b, .b, .b, .b, .b, .z, .r 48], [.a, .a, .a, .a, .a, .a, .a, .a, .a, .a, .a, .a, .b, .z]] (mb 76 192) [56, 48] (s1 := ⟨bt 6 (.pt 48 0 :: .pt 56 0 :: bt 68 []), [(56, .box [Ti x2, Ti f11, Ti y3, Ti f12]), (48, .box [Ti y5, Ti b13, Ti f16])]⟩) kk kk ?_ ?_
 ·refine DR 6 ?_
  refine DC 6 (s_spec_foDisc hy14) cf_spec_foDisc rfl rfl rfl rfl 69 rfl ?_
  refine DR 3 ?_
  refine DE_0 10 (I (w64 (Int.tdiv (w64 ((w64 (b13 * b13)) - y14)) (w64 (4 * y5))))) kk rfl rfl rfl (zI rfl) kk (zS (a := w64 ((w64 (b13 * b13)) - y14)) (b := w64 (4 * y5)) rfl kk kk (nz_some hz15)) 73 rfl ?_
  refine DE_0 11 (.ag [Ti y5, Ti b13, Ti (w64 (Int.tdiv (w64 ((w64 (b13 * b13)) - y14)) (w64 (4 * y5))))]) kk rfl rfl rfl (zI rfl) kk (Y0_build (cs := [Ti y5, Ti b13, Ti (w64 (Int.tdiv (w64 ((w64 (b13 * b13)) - y14)) (w64 (4 * y5))))]) pl38 bt38 rfl rfl kk) 74 rfl ?_
  refine DA 2 ?_
  refine XR 1 ?_
  refine zD ?_
  subst hf16
  kernel_rfl
 cases h
 exact zH VT
theorem cf_spec_nuCommon : CfW Tryz.prog 240 := cfW Tryz.func240
theorem s_spec_nuCommon {a1 : Int} {vm2 : Int} {b3 : Int} {vn4 : Int} {r : (Int × Int × Bool)} (h : r_spec_nuCommon a1 vm2 b3 vn4 = some r) : zP Tryz.prog 240 [I a1, I vm2, I b3, I vn4] (.tc (I r.1) (.tc (I r.2.1) (.tc (Bo r.2.2) .tn))) [] := by
 refine CtW [8, 9, 10] Tryz.func240 rfl rfl 53 ?_
 unfold r_spec_nuCommon at h
 refine VE ?_
 obtain ⟨y5, hy5, h⟩ := zA h
 refine VS ?_
 refine YK 2 (s_spec_nuGcd hy5) cf_spec_nuGcd ?_
 refine YF ?_
 refine zF ?_
 obtain ⟨z6, hz6, h⟩ := zA h
 refine VS ?_
 refine YR 4 ?_
 refine L0 rfl rfl (Y0_rem (k := .i64) (a := w64 (b3 - a1)) (b := y5) rfl kk kk (nz_some hz6)) ?_
 refine YF ?_
 refine VC h (fun h => ?_) (fun h => ?_)
 ·refine VE ?_
  cases h
  exact zH VT
 ·refine zK ?_
  show V _ _ _ _
  obtain ⟨z8, hz8, h⟩ := zA h
  obtain ⟨z9, hz9, h⟩ := zA h
  obtain ⟨z10, hz10, h⟩ := zA h
  obtain ⟨y11, hy11, h⟩ := zA h
  obtain ⟨z12, hz12, h⟩ := zA h
  obtain ⟨y13, hy13, h⟩ := zA h
  refine VDS [0, 0, 3, 0, 15, 0, 0, 96, 0, 0, 768, 2016, 4095, 0, 0, 24576, 65535, 131071] 18 (cdm 18 [2829756552, 2829756546, 2829756549, 2829756458, 2829756501, 2821333674, 2821327530, 2821330602, 2819140266, 2818747050, 2818943658, 2819970730, 2824164693, 581610154, 178956970, 380283562, 1431655765, 5726623061]) ?_
  refine ER 4 ?_
  refine E0 4 rfl rfl (zS (a := w64 (b3 - a1)) (b := y5) rfl kk kk (nz_some hz8)) ?_
  refine ER 2 ?_
  refine E0 7 rfl rfl (zS (a := vm2) (b := y5) rfl kk kk (nz_some hz9)) ?_
  refine ER 2 ?_
  refine E0 10 rfl rfl (zS (a := vn4) (b := y5) rfl kk kk (nz_some hz10)) ?_
  refine EK 0 (s_spec_nuInverse hy11) cf_spec_nuInverse ?_
  refine ER 3 ?_
  refine E0 15 rfl rfl (zS (a := vn4) (b := y5) rfl kk kk (nz_some hz12)) ?_
  refine EK 0 (s_spec_nuMod hy13) cf_spec_nuMod ?_
  refine EF 1 ?_
  obtain ⟨z14, hz14, h⟩ := zA h
  obtain ⟨all15, hall15, h⟩ := zU h
  refine zO (mb 53 12291) [] (s1 := ⟨I a1 :: I vm2 :: bt 10 (I y13 :: I all15 :: bt 39 []), []⟩) ?_ ?_
  ·refine XR 2 ?_
   refine L0 rfl rfl (zS (a := vm2) (b := y5) rfl kk kk (nz_some hz14)) ?_
   refine XR 3 ?_
   refine zD ?_
   subst hall15
   kernel_rfl
  obtain ⟨y16, hy16, h⟩ := zA h
  refine VS ?_
  refine YK 6 (s_spec_nuMod hy16) cf_spec_nuMod ?_
  refine YF ?_
  cases h
  exact zH VT
theorem cf_spec_coShift : CfW Tryz.prog 241 := cfW Tryz.func241
theorem s_spec_coShift {t1 : Int} {r : (Int × Int × Int × Int)} (h : r_spec_coShift t1 = some r) : zP Tryz.prog 241 [I t1] (.ag [Ti r.1, Ti r.2.1, Ti r.2.2.1, Ti r.2.2.2]) [] := by
 refine zT (rs := [.w 2 4]) (vs := [.cell 2 109]) Tryz.func241 rfl rfl (.cons ⟨rfl, wd109⟩ FitsL.nil) (by decide) 5 rfl ?_
 unfold r_spec_coShift at h
 refine VE ?_
 refine VS ?_
 refine YR 1 ?_
 refine L0 rfl rfl (Y0_build (cs := [Ti 1, Ti t1, Ti 0, Ti 1]) pl109 bt109 rfl rfl kk) ?_
 refine YF ?_
 cases h
 exact zH VT
theorem cf_spec_coUnite : CfW Tryz.prog 184 := cfW Tryz.func184
theorem s_spec_coUnite {f1 : (Int × Int × Int)} {g2 : (Int × Int × Int)} {r : (((Int × Int × Int)) × ((Int × Int × Int)) × ((Int × Int × Int × Int)) × ((Int × Int × Int × Int)))} (h : r_spec_coUnite f1 g2 = some r) : zP Tryz.prog 184 [.ag [Ti f1.1, Ti f1.2.1, Ti f1.2.2], .ag [Ti g2.1, Ti g2.2.1, Ti g2.2.2]] (.tc (.ag [Ti r.1.1, Ti r.1.2.1, Ti r.1.2.2]) (.tc (.ag [Ti r.2.1.1, Ti r.2.1.2.1, Ti r.2.1.2.2]) (.tc (.ag [Ti r.2.2.1.1, Ti r.2.2.1.2.1, Ti r.2.2.1.2.2.1, Ti r.2.2.1.2.2.2]) (.tc (.ag [Ti r.2.2.2.1, Ti r.2.2.2.2.1, Ti r.2.2.2.2.2.1, Ti r.2.2.2.2.2.2]) .tn)))) [] := by
 refine zT (rs := [.w 4 3, .w 5 3, .w 6 4, .w 7 4]) (vs := [.cell 4 38, .cell 5 38, .cell 6 109, .cell 7 109]) Tryz.func184 rfl rfl (.cons ⟨rfl, wd38⟩ (.cons ⟨rfl, wd38⟩ (.cons ⟨rfl, wd109⟩ (.cons ⟨rfl, wd109⟩ FitsL.nil)))) (by decide) 118 rfl ?_
 unfold r_spec_coUnite at h
 refine VE ?_
 obtain ⟨y3, hy3, h⟩ := zA h
 refine VS ?_
 refine YK 1 (s_spec_reReduce hy3) cf_spec_reReduce ?_
 refine YF ?_
 obtain ⟨y4, hy4, h⟩ := zA h
 refine VS ?_
 refine YK 1 (s_spec_reReduce hy4) cf_spec_reReduce ?_
 refine YF ?_
 obtain ⟨y5, hy5, h⟩ := zA h
 refine VS ?_
 refine YK 3 (s_spec_coPoint hy5) cf_spec_coPoint ?_
 refine YF ?_
 obtain ⟨y6, hy6, h⟩ := zA h
 refine VS ?_
 refine YK 3 (s_spec_vaComplete hy6) cf_spec_vaComplete ?_
 refine YF ?_
 obtain ⟨y7, hy7, h⟩ := zA h
 refine VS ?_
 refine YK 2 (s_spec_foMul hy7) cf_spec_foMul ?_
 refine YF ?_
 obtain ⟨y8, hy8, h⟩ := zA h
 obtain ⟨y9, hy9, h⟩ := zA h
 refine VDS [0, 1, 0, 4, 12, 31, 0, 64, 192, 0, 512, 0, 2048, 6144, 16383, 32767, 65535, 65535, 65535, 131071, 786431, 2097151] 22 (cdm 22 [178954912, 178954913, 178954250, 178954266, 178954330, 178954581, 178784938, 178789034, 178805418, 176335530, 176597674, 2796202, 6990506, 23767722, 89478485, 357913941, 173230347605, 697216357717, 2793160398165, 177525314901, 435223352661, 1466015503701]) ?_
 refine EK 5 (s_spec_nuMod hy8) cf_spec_nuMod ?_
 refine EK 8 (s_spec_nuCommon hy9) cf_spec_nuCommon ?_
 refine EF 7 ?_
 obtain ⟨z10, hz10, h⟩ := zA h
 obtain ⟨y11, hy11, h⟩ := zA h
 obtain ⟨y12, hy12, h⟩ := zA h
 refine V_sdreg [0, 0, 0, 4, 14, 0, 32, 96, 254, 510, 1023, 2047] 11 (cdm 11 [699048, 43170, 43018, 43034, 43094, 682, 1706, 5802, 21846, 87382, 349525]) (mb 118 36848) [88, 80, 72, 64, 56, 48, 40, 32] (s1 := ⟨bt 4 (.pt 32 0 :: .pt 40 0 :: .pt 48 0 :: .pt 56 0 :: .pt 64 0 :: .pt 72 0 :: .pt 80 0 :: .pt 88 0 :: bt 3 (I y9.1 :: bt 102 [])), [(88, .box [Ti y7.1, Ti y7.2.1, Ti y7.2.2.1, Ti y7.2.2.2]), (80, .box [Ti y6.1.1, Ti y6.1.2.1, Ti y6.1.2.2]), (72, .box [Ti y12.1, Ti y12.2.1, Ti y12.2.2.1, Ti y12.2.2.2]), (64, .box [Ti y3.1.1, Ti y3.1.2.1, Ti y3.1.2.2]), (56, .box [Ti 0, Ti 0, Ti 0, Ti 0]), (48, .box [Ti 0, Ti 0, Ti 0, Ti 0]), (40, .box [Ti 0, Ti 0, Ti 0]), (32, .box [Ti 0, Ti 0, Ti 0])]⟩) kk kk ?_ ?_
 ·refine ER 8 ?_
  refine E0 8 rfl rfl (zS (a := w64 (y9.1 - y3.1.2.1)) (b := w64 (2 * y3.1.1)) rfl kk kk (nz_some hz10)) ?_
  refine EK 0 (s_spec_coShift hy11) cf_spec_coShift ?_
  refine EK 0 (s_spec_foMul hy12) cf_spec_foMul ?_
  refine EA 0 ?_
  exact XE
 obtain ⟨z13, hz13, h⟩ := zA h
 obtain ⟨y14, hy14, h⟩ := zA h
 obtain ⟨y15, hy15, h⟩ := zA h
 refine VDS [0, 0, 0, 4, 14, 0, 32, 96, 254, 510, 1023, 2047] 11 (cdm 11 [699048, 43170, 43018, 43034, 43094, 682, 1706, 5802, 21846, 87382, 349525]) ?_
 refine ER 8 ?_
 refine E0 8 rfl rfl (zS (a := w64 (y9.1 - y6.1.2.1)) (b := w64 (2 * y6.1.1)) rfl kk kk (nz_some hz13)) ?_
 refine EK 0 (s_spec_coShift hy14) cf_spec_coShift ?_
 refine EK 0 (s_spec_foMul hy15) cf_spec_foMul ?_
 refine EF 0 ?_
 obtain ⟨y16, hy16, h⟩ := zA h
 obtain ⟨z17, hz17, h⟩ := zA h
 obtain ⟨c18, hc18, h⟩ := zU h
 refine V_sdreg [0, 0, 3, 0, 8, 31, 0, 64, 192, 0, 512, 1984, 4095, 8191] 14 (cdm 14 [11182728, 11182722, 11182725, 11182122, 11182186, 11182421, 2624170, 2628266, 2644650, 174762, 436906, 1399466, 5592405, 22369621]) (mb 118 298992) [88, 80, 72, 64, 56, 48, 40, 32] (s1 := ⟨bt 4 (.pt 32 0 :: .pt 40 0 :: .pt 48 0 :: .pt 56 0 :: .pt 64 0 :: .pt 72 0 :: .pt 80 0 :: .pt 88 0 :: bt 3 (I y9.1 :: .bot :: .bot :: I c18 :: bt 99 [])), [(88, .box [Ti y15.1, Ti y15.2.1, Ti y15.2.2.1, Ti y15.2.2.2]), (80, .box [Ti y6.1.1, Ti y6.1.2.1, Ti y6.1.2.2]), (72, .box [Ti y12.1, Ti y12.2.1, Ti y12.2.2.1, Ti y12.2.2.2]), (64, .box [Ti y3.1.1, Ti y3.1.2.1, Ti y3.1.2.2]), (56, .box [Ti 0, Ti 0, Ti 0, Ti 0]), (48, .box [Ti 0, Ti 0, Ti 0, Ti 0]), (40, .box [Ti 0, Ti 0, Ti 0]), (32, .box [Ti 0, Ti 0, Ti 0])]⟩) kk kk ?_ ?_
 ·refine DR 4 ?_
  refine DC 4 (s_spec_foDisc hy16) cf_spec_foDisc rfl rfl rfl rfl 91 rfl ?_
  refine DR 7 ?_
  refine DE_0 12 (I (w64 (Int.tdiv (w64 ((w64 (y9.1 * y9.1)) - y16)) (w64 ((w64 (4 * y3.1.1)) * y6.1.1))))) kk rfl rfl rfl (zI rfl) kk (zS (a := w64 ((w64 (y9.1 * y9.1)) - y16)) (b := w64 ((w64 (4 * y3.1.1)) * y6.1.1)) rfl kk kk (nz_some hz17)) 99 rfl ?_
  refine DA 1 ?_
  refine zD ?_
  subst hc18
  kernel_rfl
 obtain ⟨f19, hf19, h⟩ := zU h
 obtain ⟨f20, hf20, h⟩ := zU h
 refine V_sdreg [0, 1, 0, 0, 8, 0, 56, 127, 0, 256, 0, 0, 2048, 0, 14336, 32512, 0, 0, 255, 327679, 917503, 2097151] 21 [[.z, .z, .b, .b, .b, .b, .b, .z, .b, .b, .b, .b, .b, .b, .b, .b, .b, .b, .z, .z, .z], [.a, .z, .b, .b, .b, .b, .b, .z, .b, .b, .b, .b, .b, .b, .b, .b, .b, .b, .z, .z, .z], [.b, .b, .z, .b, .b, .b, .b, .z, .b, .b, .b, .b, .b, .b, .b, .b, .b, .b, .z, .z, .z], [.b, .b, .b, .z, .z, .b, .z, .z, .b, .b, .b, .b, .b, .b, .b, .b, .b, .b, .z, .z, .z], [.b, .b, .b, .a, .z, .b, .z, .z, .b, .b, .b, .b, .b, .b, .b, .b, .b, .b, .z, .z, .z], [.b, .b, .b, .b, .b, .z, .z, .z, .b, .b, .b, .b, .b, .b, .b, .b, .b, .b, .z, .z, .z], [.b, .b, .b, .a, .a, .a, .z, .z, .b, .b, .b, .b, .b, .b, .b, .b, .b, .b, .z, .z, .z], [.a, .a, .a, .a, .a, .a, .a, .z, .b, .b, .b, .b, .b, .b, .b, .b, .b, .b, .z, .z, .z], [.b, .b, .b, .b, .b, .b, .b, .b, .z, .z, .b, .b, .b, .b, .b, .z, .b, .b, .r 32, .z, .z], [.b, .b, .b, .b, .b, .b, .b, .b, .a, .z, .b, .b, .b, .b, .b, .z, .b, .b, .r 32, .z, .z], [.b, .b, .b, .b, .b, .b, .b, .b, .b, .b, .z, .b, .b, .b, .b, .z, .b, .b, .r 32, .z, .z], [.b, .b, .b, .b, .b, .b, .b, .b, .b, .b, .b, .z, .z, .b, .z, .z, .b, .b, .r 32, .z, .z], [.b, .b, .b, .b, .b, .b, .b, .b, .b, .b, .b, .a, .z, .b, .z, .z, .b, .b, .r 32, .z, .z], [.b, .b, .b, .b, .b, .b, .b, .b, .b, .b, .b, .b, .b, .z, .z, .z, .b, .b, .r 32, .z, .z], [.b, .b, .b, .b, .b, .b, .b, .b, .b, .b, .b, .a, .a, .a, .z, .z, .b, .b, .r 32, .z, .z], [.b, .b, .b, .b, .b, .b, .b, .b, .a, .a, .a, .a, .a, .a, .a, .z, .b, .b, .r 32, .z, .z], [.b, .b, .b, .b, .b, .b, .b, .b, .b, .b, .b, .b, .b, .b, .b, .b, .z, .b, .r 32, .r 40, .z], [.b, .b, .b, .b, .b, .b, .b, .b, .b, .b, .b, .b, .b, .b, .b, .b, .b, .z, .r 32, .r 40, .r 48], [.a, .a, .a, .a, .a, .a, .a, .a, .b, .b, .b, .b, .b, .b, .b, .b, .b, .b, .z, .z, .z], [.a, .a, .a, .a, .a, .a, .a, .a, .a, .a, .a, .a, .a, .a, .a, .a, .b, .b, .a, .z, .z], [.a, .a, .a, .a, .a, .a, .a, .a, .a, .a, .a, .a, .a, .a, .a, .a, .a, .b, .a, .a, .z]] (mb 118 240) [56, 48, 40, 32] (s1 := ⟨bt 4 (.pt 32 0 :: .pt 40 0 :: .pt 48 0 :: .pt 56 0 :: bt 110 []), [(56, .box [Ti y15.1, Ti y15.2.1, Ti y15.2.2.1, Ti y15.2.2.2]), (48, .box [Ti y12.1, Ti y12.2.1, Ti y12.2.2.1, Ti y12.2.2.2]), (40, .box [Ti y6.1.1, Ti y9.1, Ti f19]), (32, .box [Ti y3.1.1, Ti y9.1, Ti f20])]⟩) kk kk ?_ ?_
 ·refine DR 7 ?_
  refine DE_0 7 (.ag [Ti y3.1.1, Ti y9.1, Ti (w64 (y6.1.1 * c18))]) kk rfl rfl rfl (zI rfl) kk (Y0_build (cs := [Ti y3.1.1, Ti y9.1, Ti (w64 (y6.1.1 * c18))]) pl38 bt38 rfl rfl kk) 107 rfl ?_
  refine DR 7 ?_
  refine DE_0 15 (.ag [Ti y6.1.1, Ti y9.1, Ti (w64 (y3.1.1 * c18))]) kk rfl rfl rfl (zI rfl) kk (Y0_build (cs := [Ti y6.1.1, Ti y9.1, Ti (w64 (y3.1.1 * c18))]) pl38 bt38 rfl rfl kk) 115 rfl ?_
  refine DA 5 ?_
  refine XR 1 ?_
  refine zD ?_
  subst hf19 hf20
  kernel_rfl
 cases h
 exact zH VT
theorem cf_spec_coJoined : CfW Tryz.prog 185 := cfW Tryz.func185
theorem s_spec_coJoined {a1 : (Int × Int × Int)} {e2 : (Int × Int × Int)} {r : (Int × Int × Int)} (h : r_spec_coJoined a1 e2 = some r) : zP Tryz.prog 185 [.ag [Ti a1.1, Ti a1.2.1, Ti a1.2.2], .ag [Ti e2.1, Ti e2.2.1, Ti e2.2.2]] (.ag [Ti r.1, Ti r.2.1, Ti r.2.2]) [] := by
 refine zT (rs := [.w 4 3]) (vs := [.cell 4 38]) Tryz.func185 rfl rfl (.cons ⟨rfl, wd38⟩ FitsL.nil) (by decide) 18 rfl ?_
 unfold r_spec_coJoined at h
 refine VE ?_
 obtain ⟨z3, hz3, h⟩ := zA h
 obtain ⟨f4, hf4, h⟩ := zU h
 obtain ⟨f5, hf5, h⟩ := zU h
 refine V_sdreg [0, 1, 0, 4, 15, 0, 32, 0, 128, 0, 512, 1920, 4095, 8191] 13 (cdm 13 [11184288, 11184289, 11184138, 11184154, 11184213, 11174570, 11175594, 2632362, 2648746, 174762, 436906, 1403562, 5592405]) (mb 18 16) [32] (s1 := ⟨bt 4 (.pt 32 0 :: bt 13 []), [(32, .box [Ti f4, Ti a1.2.1, Ti f5])]⟩) kk kk ?_ ?_
 ·refine DR 11 ?_
  refine DE_0 11 (I (w64 (Int.tdiv a1.2.2 e2.1))) kk rfl rfl rfl (zI rfl) kk (zS (a := a1.2.2) (b := e2.1) rfl kk kk (nz_some hz3)) 16 rfl ?_
  refine DE_0 12 (.ag [Ti (w64 (a1.1 * e2.1)), Ti a1.2.1, Ti (w64 (Int.tdiv a1.2.2 e2.1))]) kk rfl rfl rfl (zI rfl) kk (Y0_build (cs := [Ti (w64 (a1.1 * e2.1)), Ti a1.2.1, Ti (w64 (Int.tdiv a1.2.2 e2.1))]) pl38 bt38 rfl rfl kk) 17 rfl ?_
  refine DA 0 ?_
  refine XR 1 ?_
  refine zD ?_
  subst hf4 hf5
  kernel_rfl
 cases h
 exact zH VT
theorem cf_spec_coMul : CfW Tryz.prog 100 := cfW Tryz.func100
theorem s_spec_coMul {f1 : (Int × Int × Int)} {g2 : (Int × Int × Int)} {r : (Int × Int × Int)} (h : r_spec_coMul f1 g2 = some r) : zP Tryz.prog 100 [.ag [Ti f1.1, Ti f1.2.1, Ti f1.2.2], .ag [Ti g2.1, Ti g2.2.1, Ti g2.2.2]] (.ag [Ti r.1, Ti r.2.1, Ti r.2.2]) [] := by
 refine zT (rs := [.w 4 3]) (vs := [.cell 4 38]) Tryz.func100 rfl rfl (.cons ⟨rfl, wd38⟩ FitsL.nil) (by decide) 21 rfl ?_
 unfold r_spec_coMul at h
 refine VE ?_
 obtain ⟨y3, hy3, h⟩ := zA h
 refine VS ?_
 refine YK 2 (s_spec_coUnite hy3) cf_spec_coUnite ?_
 refine YF ?_
 obtain ⟨y4, hy4, h⟩ := zA h
 obtain ⟨y5, hy5, h⟩ := zA h
 refine VS ?_
 refine YK 2 (s_spec_coJoined hy4) cf_spec_coJoined ?_
 refine YK 0 (s_spec_reClass hy5) cf_spec_reClass ?_
 refine YF ?_
 cases h
 exact zH VT
theorem cf_spec_coPower : CfW Tryz.prog 223 := cfW Tryz.func223
theorem s_spec_coPower {f1 : (Int × Int × Int)} {k2 : Int} {r : (Int × Int × Int)} (h : r_spec_coPower f1 k2 = some r) : zP Tryz.prog 223 [.ag [Ti f1.1, Ti f1.2.1, Ti f1.2.2], I k2] (.ag [Ti r.1, Ti r.2.1, Ti r.2.2]) [] := by
 refine zT (rs := [.w 4 3]) (vs := [.cell 4 38]) Tryz.func223 rfl rfl (.cons ⟨rfl, wd38⟩ FitsL.nil) (by decide) 31 rfl ?_
 unfold r_spec_coPower at h
 refine VE ?_
 obtain ⟨y3, hy3, h⟩ := zA h
 refine VS ?_
 refine YK 1 (s_spec_reClass hy3) cf_spec_reClass ?_
 refine YF ?_
 obtain ⟨j4, hj4, h⟩ := zA h
 refine V_cutK (mb 31 22) [32, 16] (s1 := ⟨.bot :: I j4.1 :: .pt 16 0 :: .bot :: .pt 32 0 :: bt 26 [], [(32, .box [Ti 0, Ti 0, Ti 0]), (16, .box [Ti j4.2.1, Ti j4.2.2.1, Ti j4.2.2.2])]⟩) ?_ ?_
 ·clear h
  have h := hj4
  clear hj4
  refine VE ?_
  refine VC h (fun h => ?_) (fun h => ?_)
  ·obtain ⟨y6, hy6, h⟩ := zA h
   obtain ⟨k7, hk7, h⟩ := zU h
   refine V_reg (mb 31 22) [32, 16] (s1 := ⟨.bot :: I k7 :: .pt 16 0 :: .bot :: .pt 32 0 :: bt 26 [], [(32, .box [Ti 0, Ti 0, Ti 0]), (16, .box [Ti y6.1, Ti y6.2.1, Ti y6.2.2])]⟩) ?_ ?_
   ·refine XR 1 ?_
    refine XC (s_spec_coInverse hy6) cf_spec_coInverse rfl rfl rfl ?_
    refine XR 4 ?_
    refine zD ?_
    subst hk7
    kernel_rfl
   obtain rfl := zB h
   show St.keep _ _ _ = _
   kernel_rfl
  ·refine zK ?_
   obtain rfl := zB h
   show St.keep _ _ _ = _
   kernel_rfl
 obtain ⟨y8, hy8, h⟩ := zA h
 obtain ⟨y9, hy9, h⟩ := zA h
 refine VS ?_
 refine YK 1 (s_spec_foDisc hy8) cf_spec_foDisc ?_
 refine YK 0 (s_spec_coOne hy9) cf_spec_coOne ?_
 refine YF ?_
 refine zF ?_
 obtain ⟨o18, hLo18, h⟩ := zA h
 refine V_toK (mb 31 48) [40, 32] (s1 := ⟨bt 4 (.pt 32 0 :: .pt 40 0 :: bt 25 []), [(40, .box [Ti o18.1, Ti o18.2.1, Ti o18.2.2]), (32, .box [Ti 0, Ti 0, Ti 0])]⟩) ?_ ?_
 ·clear h
  refine zG (V_loop (fun n s => ∃ (k10 : Int) (f11 : Int) (f12 : Int) (f13 : Int) (f14 : Int) (f15 : Int) (f16 : Int), s.keep (mb 31 54) [40, 32, 16] = (⟨.bot :: I k10 :: .pt 16 0 :: .bot :: .pt 32 0 :: .pt 40 0 :: bt 25 [], [(40, .box [Ti f11, Ti f12, Ti f13]), (32, .box [Ti 0, Ti 0, Ti 0]), (16, .box [Ti f14, Ti f15, Ti f16])]⟩ : St) ∧ r_spec_coPower_L17 n k10 f11 f12 f13 f14 f15 f16 = some o18) FU ⟨_, _, _, _, _, _, _,  kk, hLo18⟩ ?_)
  clear hLo18
  rintro n s ⟨k10, f11, f12, f13, f14, f15, f16, hs, h⟩
  refine zV _ _ hs ?_
  clear hs
  cases n with
  | zero => cases h
  | succ n =>
   rw [r_spec_coPower_L17] at h
   refine zF ?_
   refine VE ?_
   refine VC h (fun h => ?_) (fun h => ?_)
   ·refine zK ?_
    show V _ _ _ _
    refine zF ?_
    refine zG ?_
    obtain ⟨j20, hj20, h⟩ := zA h
    refine V_cutK (mb 31 54) [40, 32, 16] (s1 := ⟨.bot :: I k10 :: .pt 16 0 :: .bot :: .pt 32 0 :: .pt 40 0 :: bt 25 [], [(40, .box [Ti j20.1, Ti j20.2.1, Ti j20.2.2]), (32, .box [Ti 0, Ti 0, Ti 0]), (16, .box [Ti f14, Ti f15, Ti f16])]⟩) ?_ ?_
    ·clear h
     have h := hj20
     clear hj20
     refine VS ?_
     refine YR 1 ?_
     refine L0 rfl rfl (Y0_rem (k := .i64) (a := k10) (b := 2) rfl kk kk (by decide)) ?_
     refine YF ?_
     refine VC h (fun h => ?_) (fun h => ?_)
     ·obtain ⟨y22, hy22, h⟩ := zA h
      refine zW ?_
      refine YK 2 (s_spec_coMul hy22) cf_spec_coMul ?_
      refine YF ?_
      obtain rfl := zB h
      show St.keep _ _ _ = _
      kernel_rfl
     ·refine zK ?_
      obtain rfl := zB h
      show St.keep _ _ _ = _
      kernel_rfl
    obtain ⟨y23, hy23, h⟩ := zA h
    refine zW ?_
    refine YK 2 (s_spec_coMul hy23) cf_spec_coMul ?_
    refine YF ?_
    show V _ _ _ _
    obtain ⟨k24, hk24, h⟩ := zU h
    refine V_reg (mb 31 54) [40, 32, 16] (s1 := ⟨.bot :: I k24 :: .pt 16 0 :: .bot :: .pt 32 0 :: .pt 40 0 :: bt 25 [], [(40, .box [Ti j20.1, Ti j20.2.1, Ti j20.2.2]), (32, .box [Ti 0, Ti 0, Ti 0]), (16, .box [Ti y23.1, Ti y23.2.1, Ti y23.2.2])]⟩) ?_ ?_
    ·refine XR 1 ?_
     refine L0 rfl rfl (zS (a := k10) (b := 2) rfl kk kk (by decide)) ?_
     refine XR 1 ?_
     refine zD ?_
     subst hk24
     kernel_rfl
    exact ⟨n, Nat.lt_succ_self n, _, _, _, _, _, _, _,  kk, h⟩
   ·refine V_exit ?_
    obtain rfl := zB h
    show St.keep _ _ _ = _
    kernel_rfl
 show V _ _ _ _
 refine VE ?_
 cases h
 exact zH VT
theorem cf_spec_nuFactors : CfW Tryz.prog 263 := cfW Tryz.func263
theorem s_spec_nuFactors {vn1 : Int} {r : List Int} (h : r_spec_nuFactors vn1 = some r) : zP Tryz.prog 263 [I vn1] (.ow 0) [(0, .arr 3 1 (r.map c3))] := by
 refine CtW [2] Tryz.func263 rfl rfl 30 ?_
 unfold r_spec_nuFactors at h
 refine VS ?_
 refine L1 rfl rfl (Y1_nil (e := 3) 1 (by decide) (.inl rfl)) ?_
 refine YF ?_
 refine VS ?_
 refine L1 rfl rfl (Y1_nil (e := 3) 1 (by decide) (.inl rfl)) ?_
 refine YF ?_
 refine zF ?_
 refine VE ?_
 obtain ⟨o6, hLo6, h⟩ := zA h
 refine V_toK (mb 30 9) [24] (s1 := ⟨I o6.1 :: .bot :: .bot :: .ow 24 :: bt 26 [], [(24, .arr 3 1 (o6.2.map c3))]⟩) ?_ ?_
 ·clear h
  refine zG (V_loop (fun n s => ∃ (vn2 : Int) (d3 : Int) (l4 : List Int), s.keep (mb 30 25) [24] = (⟨I vn2 :: .bot :: .bot :: .ow 24 :: I d3 :: bt 25 [], [(24, .arr 3 1 (l4.map c3))]⟩ : St) ∧ r_spec_nuFactors_L5 n vn2 d3 l4 = some o6) FU ⟨_, _, _,  kk, hLo6⟩ ?_)
  clear hLo6
  rintro n s ⟨vn2, d3, l4, hs, h⟩
  refine zV _ _ hs ?_
  clear hs
  cases n with
  | zero => cases h
  | succ n =>
   rw [r_spec_nuFactors_L5] at h
   refine zF ?_
   refine VE ?_
   refine VC h (fun h => ?_) (fun h => ?_)
   ·refine zK ?_
    show V _ _ _ _
    refine zF ?_
    refine zG ?_
    obtain ⟨o11, hLo11, h⟩ := zA h
    refine V_toK (mb 30 25) [24] (s1 := ⟨I o11.1 :: .bot :: .bot :: .ow 24 :: I d3 :: bt 25 [], [(24, .arr 3 1 (o11.2.map c3))]⟩) ?_ ?_
    ·clear h
     refine zG (V_loop (fun n s => ∃ (vn8 : Int) (l9 : List Int), s.keep (mb 30 25) [24] = (⟨I vn8 :: .bot :: .bot :: .ow 24 :: I d3 :: bt 25 [], [(24, .arr 3 1 (l9.map c3))]⟩ : St) ∧ r_spec_nuFactors_L10 d3 n vn8 l9 = some o11) FU ⟨_, _,  kk, hLo11⟩ ?_)
     clear hLo11
     rintro n s ⟨vn8, l9, hs, h⟩
     refine zV _ _ hs ?_
     clear hs
     cases n with
     | zero => cases h
     | succ n =>
      rw [r_spec_nuFactors_L10] at h
      refine zF ?_
      obtain ⟨z12, hz12, h⟩ := zA h
      refine VS ?_
      refine YR 2 ?_
      refine L0 rfl rfl (Y0_rem (k := .i64) (a := vn8) (b := d3) rfl kk kk (nz_some hz12)) ?_
      refine YF ?_
      refine VC h (fun h => ?_) (fun h => ?_)
      ·refine zK ?_
       show V _ _ _ _
       refine zG ?_
       obtain ⟨u14, hu14, h⟩ := zA h
       refine VS ?_
       refine YR 2 ?_
       refine L1 rfl rfl (Y1_bslice (z := zv3) (els := [d3].map c3) Tryz.underlying24 iz3 rfl (by decide) rfl kk rfl (by simp [c3]) (by decide) (by decide)) ?_
       refine XL_cons rfl (X_appendM (c := c3) (xs := l9) (ys := [d3]) (id := 24) (z := zv3) rfl rfl Tryz.underlying24 izb3 rfl kk kk kk (fun _ => rfl) (by simp) (room_some hu14) (by decide)) ?_
       refine YF ?_
       obtain ⟨z15, hz15, h⟩ := zA h
       obtain ⟨vn16, hvn16, h⟩ := zU h
       refine V_reg (mb 30 25) [24] (s1 := ⟨I vn16 :: .bot :: .bot :: .ow 24 :: I d3 :: bt 25 [], [(24, .arr 3 1 ((l9 ++ ([d3])).map c3))]⟩) ?_ ?_
       ·refine XR 2 ?_
        refine L0 rfl rfl (zS (a := vn8) (b := d3) rfl kk kk (nz_some hz15)) ?_
        refine XR 1 ?_
        refine zD ?_
        subst hvn16
        kernel_rfl
       exact ⟨n, Nat.lt_succ_self n, _, _,  kk, h⟩
      ·refine V_exit ?_
       obtain rfl := zB h
       show St.keep _ _ _ = _
       kernel_rfl
    show V _ _ _ _
    obtain ⟨d17, hd17, h⟩ := zU h
    refine V_reg (mb 30 25) [24] (s1 := ⟨I o11.1 :: .bot :: .bot :: .ow 24 :: I d17 :: bt 25 [], [(24, .arr 3 1 (o11.2.map c3))]⟩) ?_ ?_
    ·refine XR 3 ?_
     refine zD ?_
     subst hd17
     kernel_rfl
    exact ⟨n, Nat.lt_succ_self n, _, _, _,  kk, h⟩
   ·refine V_exit ?_
    obtain rfl := zB h
    show St.keep _ _ _ = _
    kernel_rfl
 show V _ _ _ _
 refine zF ?_
 refine VE ?_
 refine VC h (fun h => ?_) (fun h => ?_)
 ·obtain ⟨u19, hu19, h⟩ := zA h
  refine zW ?_
  refine YR 2 ?_
  refine L1 rfl rfl (Y1_bslice (z := zv3) (els := [o6.1].map c3) Tryz.underlying24 iz3 rfl (by decide) rfl kk rfl (by simp [c3]) (by decide) (by decide)) ?_
  refine XL_cons rfl (X_appendM (c := c3) (xs := o6.2) (ys := [o6.1]) (id := 24) (z := zv3) rfl rfl Tryz.underlying24 izb3 rfl kk kk kk (fun _ => rfl) (by simp) (room_some hu19) (by decide)) ?_
  refine YF ?_
  show V _ _ _ _
  refine VE ?_
  cases h
  exact zH VT
 ·refine zK ?_
  show V _ _ _ _
  refine VE ?_
  cases h
  exact zH VT
theorem cf_spec_l1Put : CfW Tryz.prog 264 := cfW Tryz.func264
theorem s_spec_l1Put {l1 : List Int} {vn2 : Int} {r : List Int} (h : r_spec_l1Put l1 vn2 = some r) : zP Tryz.prog 264 [.c (.sl (l1.map c3)), I vn2] (.c (.sl (r.map c3))) [] := by
 refine CtW [4] Tryz.func264 rfl rfl 48 ?_
 unfold r_spec_l1Put at h
 refine VS ?_
 refine L1 rfl rfl (Y1_nil (e := 3) 1 (by decide) (.inl rfl)) ?_
 refine YF ?_
 refine VE ?_
 refine zF ?_
 obtain ⟨o5, hLo5, h⟩ := zA h
 refine V_toK (mb 48 35) [] (s1 := ⟨.c (.sl (l1.map c3)) :: I vn2 :: bt 3 (I o5 :: bt 42 []), []⟩) ?_ ?_
 ·clear h
  refine zG (V_loop (fun n s => ∃ (k3 : Int), s.keep (mb 48 35) [] = (⟨.c (.sl (l1.map c3)) :: I vn2 :: bt 3 (I k3 :: bt 42 []), []⟩ : St) ∧ r_spec_l1Put_L4 l1 vn2 n k3 = some o5) FU ⟨_,  kk, hLo5⟩ ?_)
  clear hLo5
  rintro n s ⟨k3, hs, h⟩
  refine zV _ _ hs ?_
  clear hs
  cases n with
  | zero => cases h
  | succ n =>
   rw [r_spec_l1Put_L4] at h
   refine zF ?_
   obtain ⟨b8, hb8, h⟩ := zA h
   refine zO (mb 48 262179) [] (s1 := ⟨.c (.sl (l1.map c3)) :: I vn2 :: bt 3 (I k3 :: bt 12 (Bo b8 :: bt 29 [])), []⟩) ?_ ?_
   ·refine YR 2 ?_
    refine L0 rfl rfl (Y0_lenM (c := c3) (xs := l1) Tryz.underlying24 rfl kk) ?_
    refine YR 2 ?_
    refine zJ (ltI k3 ((l1.length : Int))) (fun hc6 => ?_) (fun hc6 => ?_)
    ·have hb8 := zN hb8 hc6
     obtain ⟨e7, he7, hb8⟩ := zA hb8
     have hb8 := zB hb8
     refine YQ hc6 ?_
     refine YR 2 ?_
     refine YT (X_of_Y0 rfl (zM (c := c3) (xs := l1) (v := e7) (n := k3) Tryz.underlying24 sz3 rfl kk kk he7)) ?_
     exact YE (by rw [← hb8]; (try rw [hc6]); kernel_rfl)
    ·have hb8 := zB (zC hb8 hc6)
     refine YQ hc6 ?_
     exact YE (by rw [← hb8]; (try rw [hc6]); kernel_rfl)
   refine VC h (fun h => ?_) (fun h => ?_)
   ·refine zK ?_
    show V _ _ _ _
    refine zG ?_
    obtain ⟨k10, hk10, h⟩ := zU h
    refine V_reg (mb 48 35) [] (s1 := ⟨.c (.sl (l1.map c3)) :: I vn2 :: bt 3 (I k10 :: bt 42 []), []⟩) ?_ ?_
    ·refine XR 3 ?_
     refine zD ?_
     subst hk10
     kernel_rfl
    exact ⟨n, Nat.lt_succ_self n, _,  kk, h⟩
   ·refine V_exit ?_
    obtain rfl := zB h
    show St.keep _ _ _ = _
    kernel_rfl
 show V _ _ _ _
 refine zF ?_
 obtain ⟨b13, hb13, h⟩ := zA h
 refine zO (mb 48 4294967331) [] (s1 := ⟨.c (.sl (l1.map c3)) :: I vn2 :: bt 3 (I o5 :: bt 26 (Bo b13 :: bt 15 [])), []⟩) ?_ ?_
 ·refine YR 2 ?_
  refine L0 rfl rfl (Y0_lenM (c := c3) (xs := l1) Tryz.underlying24 rfl kk) ?_
  refine YR 2 ?_
  refine zJ (ltI o5 ((l1.length : Int))) (fun hc11 => ?_) (fun hc11 => ?_)
  ·have hb13 := zN hb13 hc11
   obtain ⟨e12, he12, hb13⟩ := zA hb13
   have hb13 := zB hb13
   refine YQ hc11 ?_
   refine YR 2 ?_
   refine YT (X_of_Y0 rfl (zM (c := c3) (xs := l1) (v := e12) (n := o5) Tryz.underlying24 sz3 rfl kk kk he12)) ?_
   exact YE (by rw [← hb13]; (try rw [hc11]); kernel_rfl)
  ·have hb13 := zB (zC hb13 hc11)
   refine YQ hc11 ?_
   exact YE (by rw [← hb13]; (try rw [hc11]); kernel_rfl)
 refine VC h (fun h => ?_) (fun h => ?_)
 ·refine VE ?_
  cases h
  exact zH VT
 ·refine zK ?_
  show V _ _ _ _
  obtain ⟨u15, hu15, h⟩ := zA h
  obtain ⟨u16, hu16, h⟩ := zA h
  refine VS ?_
  refine L1 rfl rfl (Y1_bslice0 Tryz.underlying24 sz3 (by decide) rfl rfl) ?_
  refine YR 2 ?_
  refine L0 rfl rfl (Y0_slice (c := c3) (xs := l1) (l := 0) (h := o5) Tryz.underlying24 sz3 (fun _ => rfl) rfl kk (fun y hy => by cases hy) (fun _ => rfl) (fun y hy => by cases hy; exact ⟨.i64, kk⟩) (fun hh => by cases hh) (slc_some hu15)) ?_
  refine XL_cons rfl (X_appendA (c := c3) (xs := ([] : List Int)) (ys := subl l1 0 o5) (id := 272) (z := zv3) rfl rfl Tryz.underlying24 izb3 rfl kk kk kk (fun _ => rfl) (room_some hu16) (by decide)) ?_
  refine YF ?_
  obtain ⟨u17, hu17, h⟩ := zA h
  refine VS ?_
  refine YR 2 ?_
  refine L1 rfl rfl (Y1_bslice (z := zv3) (els := [vn2].map c3) Tryz.underlying24 iz3 rfl (by decide) rfl kk rfl (by simp [c3]) (by decide) (by decide)) ?_
  refine XL_cons rfl (X_appendM (c := c3) (xs := (([] : List Int)) ++ (subl l1 0 o5)) (ys := [vn2]) (id := 272) (z := zv3) rfl rfl Tryz.underlying24 izb3 rfl kk kk kk (fun _ => rfl) (by simp) (room_some hu17) (by decide)) ?_
  refine YF ?_
  obtain ⟨u18, hu18, h⟩ := zA h
  obtain ⟨u19, hu19, h⟩ := zA h
  obtain ⟨l20, hl20, h⟩ := zA h
  have hl20 := zB hl20
  refine zO (mb 48 16) [272] (s1 := ⟨bt 4 (.ow 272 :: bt 43 []), [(272, .arr 3 1 (l20.map c3))]⟩) ?_ ?_
  ·refine XR 3 ?_
   refine L0 rfl rfl (Y0_slice (c := c3) (xs := l1) (l := o5) (h := (l1.length : Int)) Tryz.underlying24 sz3 (fun _ => rfl) rfl kk (fun y hy => by cases hy; exact ⟨.i64, kk⟩) (fun hh => by cases hh) (fun y hy => by cases hy) (fun _ => rfl) (slc_some hu18)) ?_
   refine XL_cons rfl (X_appendA (c := c3) (xs := ((([] : List Int)) ++ (subl l1 0 o5)) ++ ([vn2])) (ys := subl l1 o5 ((l1.length : Int))) (id := 272) (z := zv3) rfl rfl Tryz.underlying24 izb3 rfl kk kk kk (fun _ => rfl) (room_some hu19) (by decide)) ?_
   refine XR 1 ?_
   refine zD ?_
   subst hl20
   kernel_rfl
  refine V_freeze 272 (T := 3) (sz := 1) (els := l20.map c3) kk rfl ?_
  cases h
  exact zH VT
theorem cf_spec_nuPrimes : CfW Tryz.prog 224 := cfW Tryz.func224
theorem s_spec_nuPrimes {vn1 : Int} {r : List Int} (h : r_spec_nuPrimes vn1 = some r) : zP Tryz.prog 224 [I vn1] (.c (.sl (r.map c3))) [] := by
 refine CtW [2] Tryz.func224 rfl rfl 18 ?_
 unfold r_spec_nuPrimes at h
 refine VS ?_
 refine L1 rfl rfl (Y1_nil (e := 3) 1 (by decide) (.inl rfl)) ?_
 refine YF ?_
 refine VS ?_
 refine L1 rfl rfl (Y1_nil (e := 3) 1 (by decide) (.inl rfl)) ?_
 refine YF ?_
 refine zF ?_
 obtain ⟨y2, hy2, h⟩ := zA h
 refine VS ?_
 refine YK 1 (s_spec_nuFactors hy2) cf_spec_nuFactors ?_
 refine L0 rfl rfl (Y0_lenM (c := c3) (xs := y2) Tryz.underlying24 rfl kk) ?_
 refine YF ?_
 refine V_freeze 24 (T := 3) (sz := 1) (els := (([] : List Int)).map c3) kk rfl ?_
 obtain ⟨o6, hLo6, h⟩ := zA h
 refine V_toK (mb 18 8) [] (s1 := ⟨bt 3 (.c (.sl (o6.map c3)) :: bt 14 []), []⟩) ?_ ?_
 ·clear h
  refine zG (V_loop (fun n s => ∃ (out3 : List Int) (t4 : Int), s.keep (mb 18 904) [56] = (⟨bt 3 (.c (.sl (out3.map c3)) :: bt 3 (.ow 56 :: I ((y2.length : Int)) :: I t4 :: bt 8 [])), [(56, .arr 3 1 (y2.map c3))]⟩ : St) ∧ r_spec_nuPrimes_L5 y2 n out3 t4 = some o6) FU ⟨_, _,  kk, hLo6⟩ ?_)
  clear hLo6
  rintro n s ⟨out3, t4, hs, h⟩
  refine zV _ _ hs ?_
  clear hs
  cases n with
  | zero => cases h
  | succ n =>
   rw [r_spec_nuPrimes_L5] at h
   refine VE ?_
   refine zF ?_
   refine VC h (fun h => ?_) (fun h => ?_)
   ·refine zK ?_
    show V _ _ _ _
    refine zF ?_
    refine zG ?_
    obtain ⟨e8, he8, h⟩ := zA h
    obtain ⟨e9, he9, h⟩ := zA h
    refine VS ?_
    refine L0 rfl rfl (Y0_idxoM (c := c3) (xs := y2) (v := e8) (id := 56) (T := 3) (sz := 1) (n := t4) Tryz.underlying24 sz3 rfl kk kk kk he8) ?_
    refine L0 rfl rfl (Y0_loado1 (c := c3) (xs := y2) (v := e9) (id := 56) (sz := 1) (T := 3) (off := 0) (n := t4) (d := Ti e9) (ds := []) sc3 rfl kk kk he9 kk) ?_
    refine YF ?_
    obtain ⟨y10, hy10, h⟩ := zA h
    refine zW ?_
    refine YK 2 (s_spec_l1Put hy10) cf_spec_l1Put ?_
    refine YF ?_
    show V _ _ _ _
    obtain ⟨t11, ht11, h⟩ := zU h
    refine V_reg (mb 18 904) [56] (s1 := ⟨bt 3 (.c (.sl (y10.map c3)) :: bt 3 (.ow 56 :: I ((y2.length : Int)) :: I t11 :: bt 8 [])), [(56, .arr 3 1 (y2.map c3))]⟩) ?_ ?_
    ·refine XR 2 ?_
     refine zD ?_
     subst ht11
     kernel_rfl
    exact ⟨n, Nat.lt_succ_self n, _, _,  kk, h⟩
   ·refine V_exit ?_
    obtain rfl := zB h
    show St.keep _ _ _ = _
    kernel_rfl
 show V _ _ _ _
 refine VE ?_
 cases h
 exact zH VT
theorem cf_spec_prOrder : CfW Tryz.prog 157 := cfW Tryz.func157
theorem s_spec_prOrder {f1 : (Int × Int × Int)} {vn2 : Int} {r : Bool} (h : r_spec_prOrder f1 vn2 = some r) : zP Tryz.prog 157 [.ag [Ti f1.1, Ti f1.2.1, Ti f1.2.2], I vn2] (Bo r) [] := by
 refine CtW [4] Tryz.func157 rfl rfl 38 ?_
 unfold r_spec_prOrder at h
 refine VE ?_
 refine zF ?_
 obtain ⟨y3, hy3, h⟩ := zA h
 refine zO (mb 38 16390) [16] (s1 := ⟨.bot :: I vn2 :: .pt 16 0 :: bt 11 (Bo (bif (!y3) then true else (ltI vn2 1)) :: bt 23 []), [(16, .box [Ti f1.1, Ti f1.2.1, Ti f1.2.2])]⟩) ?_ ?_
 ·refine YK 1 (s_spec_coGood hy3) cf_spec_coGood ?_
  refine YR 2 ?_
  refine zJ (!y3) (fun hc4 => ?_) (fun hc4 => ?_)
  ·refine YQ hc4 ?_
   exact YE (by rw [hc4]; kernel_rfl)
  ·refine YQ hc4 ?_
   exact YE (by rw [hc4]; kernel_rfl)
 refine VC h (fun h => ?_) (fun h => ?_)
 ·refine VE ?_
  cases h
  exact zH VT
 ·refine zK ?_
  show V _ _ _ _
  obtain ⟨y6, hy6, h⟩ := zA h
  obtain ⟨y7, hy7, h⟩ := zA h
  refine VS ?_
  refine YK 1 (s_spec_foDisc hy6) cf_spec_foDisc ?_
  refine YK 0 (s_spec_coOne hy7) cf_spec_coOne ?_
  refine YF ?_
  refine zF ?_
  obtain ⟨y8, hy8, h⟩ := zA h
  obtain ⟨t9, ht9, h⟩ := zA h
  have ht9 := zB ht9
  refine V_sdreg [0, 0, 3, 0, 15] 5 (cdm 5 [136, 130, 133, 42, 85]) (mb 38 4194342) [40, 16] (s1 := ⟨.bot :: I vn2 :: .pt 16 0 :: .bot :: .bot :: .pt 40 0 :: bt 16 (Bo t9 :: bt 15 []), [(40, .box [Ti y7.1, Ti y7.2.1, Ti y7.2.2]), (16, .box [Ti f1.1, Ti f1.2.1, Ti f1.2.2])]⟩) kk kk ?_ ?_
  ·refine DR 2 ?_
   refine DC 2 (s_spec_coPower hy8) cf_spec_coPower rfl rfl rfl rfl 20 rfl ?_
   refine DR 1 ?_
   refine DE_0 4 (Bo (!((y8.1 == y7.1) && ((y8.2.1 == y7.2.1) && (y8.2.2 == y7.2.2))))) kk rfl rfl rfl (zI rfl) kk (Y0_neg3 (a0 := y8.1) (b0 := y7.1) (a1 := y8.2.1) (b1 := y7.2.1) (a2 := y8.2.2) (b2 := y7.2.2) neg38 rfl kk kk) 22 rfl ?_
   refine DA 0 ?_
   refine zD ?_
   subst ht9
   kernel_rfl
  refine VC h (fun h => ?_) (fun h => ?_)
  ·refine VE ?_
   cases h
   exact zH VT
  ·refine zK ?_
   show V _ _ _ _
   refine zF ?_
   obtain ⟨y11, hy11, h⟩ := zA h
   refine VS ?_
   refine YK 1 (s_spec_nuPrimes hy11) cf_spec_nuPrimes ?_
   refine L0 rfl rfl (Y0_lenM (c := c3) (xs := y11) Tryz.underlying24 rfl kk) ?_
   refine YF ?_
   obtain ⟨qo14, hLo14, hko14⟩ := zA h
   refine V_toS (q := qo14) (S := fun o14 => ⟨bt 38 [], []⟩) (mb 38 0) [] ?_ ?_
   ·refine zG (V_loop (fun n s => ∃ (t12 : Int), s.keep (mb 38 117440550) [40, 16] = (⟨.bot :: I vn2 :: .pt 16 0 :: .bot :: .bot :: .pt 40 0 :: bt 18 (.c (.sl (y11.map c3)) :: I ((y11.length : Int)) :: I t12 :: bt 11 []), [(40, .box [Ti y7.1, Ti y7.2.1, Ti y7.2.2]), (16, .box [Ti f1.1, Ti f1.2.1, Ti f1.2.2])]⟩ : St) ∧ r_spec_prOrder_L13 f1 vn2 y11 y7 n t12 = some qo14) FU ⟨_,  kk, hLo14⟩ ?_)
    clear hLo14
    rintro n s ⟨t12, hs, h⟩
    refine zV _ _ hs ?_
    clear hs
    cases n with
    | zero => cases h
    | succ n =>
     rw [r_spec_prOrder_L13] at h
     refine VE ?_
     refine zF ?_
     refine VC h (fun h => ?_) (fun h => ?_)
     ·refine zK ?_
      show V _ _ _ _
      refine zF ?_
      refine zG ?_
      obtain ⟨e16, he16, h⟩ := zA h
      refine VS ?_
      refine L0 rfl rfl (zM (c := c3) (xs := y11) (v := e16) (n := t12) Tryz.underlying24 sz3 rfl kk kk he16) ?_
      refine YF ?_
      obtain ⟨z17, hz17, h⟩ := zA h
      obtain ⟨y18, hy18, h⟩ := zA h
      obtain ⟨t19, ht19, h⟩ := zA h
      have ht19 := zB ht19
      refine V_sdreg [0, 0, 0, 6, 15, 0, 63] 7 (cdm 7 [2216, 2082, 2058, 2070, 2133, 682, 1365]) (mb 38 68836917286) [40, 16] (s1 := ⟨.bot :: I vn2 :: .pt 16 0 :: .bot :: .bot :: .pt 40 0 :: bt 18 (.c (.sl (y11.map c3)) :: I ((y11.length : Int)) :: I t12 :: bt 9 (Bo t19 :: .bot :: [])), [(40, .box [Ti y7.1, Ti y7.2.1, Ti y7.2.2]), (16, .box [Ti f1.1, Ti f1.2.1, Ti f1.2.2])]⟩) kk kk ?_ ?_
      ·refine DR 3 ?_
       refine DE_0 3 (I (w64 (Int.tdiv vn2 e16))) kk rfl rfl rfl (zI rfl) kk (zS (a := vn2) (b := e16) rfl kk kk (nz_some hz17)) 33 rfl ?_
       refine DC 4 (s_spec_coPower hy18) cf_spec_coPower rfl rfl rfl rfl 34 rfl ?_
       refine DR 1 ?_
       refine DE_0 6 (Bo (((y18.1 == y7.1) && ((y18.2.1 == y7.2.1) && (y18.2.2 == y7.2.2))))) kk rfl rfl rfl (zI rfl) kk (Y0_eqg3 (a0 := y18.1) (b0 := y7.1) (a1 := y18.2.1) (b1 := y7.2.1) (a2 := y18.2.2) (b2 := y7.2.2) eqg38 rfl kk kk) 36 rfl ?_
       refine DA 0 ?_
       refine zD ?_
       subst ht19
       kernel_rfl
      refine VC h (fun h => ?_) (fun h => ?_)
      ·refine VE ?_
       refine zH ?_
       obtain rfl := zB h
       have h := hko14
       obtain rfl := zB h
       exact VT
      ·refine zK ?_
       show V _ _ _ _
       obtain ⟨t21, ht21, h⟩ := zU h
       refine V_reg (mb 38 117440550) [40, 16] (s1 := ⟨.bot :: I vn2 :: .pt 16 0 :: .bot :: .bot :: .pt 40 0 :: bt 18 (.c (.sl (y11.map c3)) :: I ((y11.length : Int)) :: I t21 :: bt 11 []), [(40, .box [Ti y7.1, Ti y7.2.1, Ti y7.2.2]), (16, .box [Ti f1.1, Ti f1.2.1, Ti f1.2.2])]⟩) ?_ ?_
       ·refine XR 2 ?_
        refine zD ?_
        subst ht21
        kernel_rfl
       exact ⟨n, Nat.lt_succ_self n, _,  kk, h⟩
     ·refine V_exit ?_
      obtain rfl := zB h
      exact ⟨_, rfl, kk⟩
   rintro o14 rfl
   have h := hko14
   clear hko14
   show V _ _ _ _
   refine VE ?_
   cases h
   exact zH VT
end Go.Proofs.YtfmjfofocklgpaaGreatDoor
namespace Go.Proofs.YtfmjfofocklgpaaGreatDoor
open Go.RowKit
set_option linter.unusedVariables false
set_option linter.unusedSimpArgs false
set_option maxRecDepth 100000
set_option maxHeartbeats 400000
theorem cf_spec_prTrue : CfW Tryz.prog 70 := cfW Tryz.func70
theorem s_spec_prTrue {kind1 : ByteArray} {x2 : ((List ((Int × Int × Int))) × (List ((Int × Int × Int × Int))) × (List Int))} {r : Bool} (h : r_spec_prTrue kind1 x2 = some r) : zP Tryz.prog 70 [.c (.v (.string kind1)), .ag [.sl (x2.1.map c38), .sl (x2.2.1.map c109), .sl (x2.2.2.map c3)]] (Bo r) [] := by
 refine CtW [4] Tryz.func70 rfl rfl 265 ?_
 unfold r_spec_prTrue at h
 refine VE ?_
 refine zF ?_
 refine VE ?_
 refine zG ?_
 obtain ⟨t3, ht3, h⟩ := zA h
 have ht3 := zB ht3
 refine zO (mb 265 3145736) [24] (s1 := ⟨bt 3 (.pt 24 0 :: bt 16 (.c (.v (.string kind1)) :: Bo t3 :: bt 243 [])), [(24, .box [.sl (x2.1.map c38), .sl (x2.2.1.map c109), .sl (x2.2.2.map c3)])]⟩) ?_ ?_
 ·refine L0 rfl rfl (Y0_eqs (a := kind1) (b := ((⟨#[101, 113, 117, 105, 118, 97, 108, 101, 110, 116]⟩ : ByteArray))) rfl kk kk) ?_
  refine XR 1 ?_
  refine zD ?_
  subst ht3
  kernel_rfl
 refine VC h (fun h => ?_) (fun h => ?_)
 ·obtain ⟨e5, he5, h⟩ := zA h
  obtain ⟨e6, he6, h⟩ := zA h
  obtain ⟨e7, he7, h⟩ := zA h
  obtain ⟨y8, hy8, h⟩ := zA h
  refine VDS [0, 1, 3, 7, 0, 16, 48, 112, 0, 256, 768, 1792, 4095, 8191] 14 (cdm 14 [11184640, 11184641, 11184645, 11184661, 11141290, 11141546, 11142570, 11146666, 43690, 109226, 371370, 1419946, 5592405, 22369621]) ?_
  refine ER 2 ?_
  refine E0 2 rfl rfl (zM (c := c38) (xs := x2.1) (v := e5) (n := 0) Tryz.underlying59 sz38 rfl kk kk he5) ?_
  refine ER 3 ?_
  refine E0 6 rfl rfl (zM (c := c109) (xs := x2.2.1) (v := e6) (n := 0) Tryz.underlying60 sz109 rfl kk kk he6) ?_
  refine ER 3 ?_
  refine E0 10 rfl rfl (zM (c := c38) (xs := x2.1) (v := e7) (n := 1) Tryz.underlying59 sz38 rfl kk kk he7) ?_
  refine EK 1 (s_spec_prTakes hy8) cf_spec_prTakes ?_
  refine EF 1 ?_
  cases h
  exact zH VT
 ·obtain ⟨t9, ht9, h⟩ := zA h
  have ht9 := zB ht9
  refine zO (mb 265 68720525320) [24] (s1 := ⟨bt 3 (.pt 24 0 :: bt 16 (.c (.v (.string kind1)) :: bt 15 (Bo t9 :: bt 228 []))), [(24, .box [.sl (x2.1.map c38), .sl (x2.2.1.map c109), .sl (x2.2.2.map c3)])]⟩) ?_ ?_
  ·refine L0 rfl rfl (Y0_eqs (a := kind1) (b := ((⟨#[100, 105, 102, 102, 101, 114, 101, 110, 116]⟩ : ByteArray))) rfl kk kk) ?_
   refine XR 1 ?_
   refine zD ?_
   subst ht9
   kernel_rfl
  refine VC h (fun h => ?_) (fun h => ?_)
  ·obtain ⟨e11, he11, h⟩ := zA h
   obtain ⟨e12, he12, h⟩ := zA h
   obtain ⟨e13, he13, h⟩ := zA h
   obtain ⟨e14, he14, h⟩ := zA h
   refine VDS [0, 1, 3, 7, 0, 16, 48, 112, 0, 256, 768, 1792, 0, 4096, 12288, 28672, 0, 0, 0, 0, 983055, 2031871, 4132863, 8388607] 23 [[.z, .z, .z, .z, .b, .b, .b, .b, .b, .b, .b, .b, .b, .b, .b, .b, .b, .b, .b, .b, .z, .z, .z], [.a, .z, .z, .z, .b, .b, .b, .b, .b, .b, .b, .b, .b, .b, .b, .b, .b, .b, .b, .b, .z, .z, .z], [.a, .a, .z, .z, .b, .b, .b, .b, .b, .b, .b, .b, .b, .b, .b, .b, .b, .b, .b, .b, .z, .z, .z], [.a, .a, .a, .z, .b, .b, .b, .b, .b, .b, .b, .b, .b, .b, .b, .b, .b, .b, .b, .b, .z, .z, .z], [.b, .b, .b, .b, .z, .z, .z, .z, .b, .b, .b, .b, .b, .b, .b, .b, .b, .b, .b, .b, .r 40, .z, .z], [.b, .b, .b, .b, .a, .z, .z, .z, .b, .b, .b, .b, .b, .b, .b, .b, .b, .b, .b, .b, .r 40, .z, .z], [.b, .b, .b, .b, .a, .a, .z, .z, .b, .b, .b, .b, .b, .b, .b, .b, .b, .b, .b, .b, .r 40, .z, .z], [.b, .b, .b, .b, .a, .a, .a, .z, .b, .b, .b, .b, .b, .b, .b, .b, .b, .b, .b, .b, .r 40, .z, .z], [.b, .b, .b, .b, .b, .b, .b, .b, .z, .z, .z, .z, .b, .b, .b, .b, .b, .b, .b, .b, .r 40, .r 48, .z], [.b, .b, .b, .b, .b, .b, .b, .b, .a, .z, .z, .z, .b, .b, .b, .b, .b, .b, .b, .b, .r 40, .r 48, .z], [.b, .b, .b, .b, .b, .b, .b, .b, .a, .a, .z, .z, .b, .b, .b, .b, .b, .b, .b, .b, .r 40, .r 48, .z], [.b, .b, .b, .b, .b, .b, .b, .b, .a, .a, .a, .z, .b, .b, .b, .b, .b, .b, .b, .b, .r 40, .r 48, .z], [.b, .b, .b, .b, .b, .b, .b, .b, .b, .b, .b, .b, .z, .z, .z, .z, .b, .b, .b, .b, .r 40, .r 48, .r 56], [.b, .b, .b, .b, .b, .b, .b, .b, .b, .b, .b, .b, .a, .z, .z, .z, .b, .b, .b, .b, .r 40, .r 48, .r 56], [.b, .b, .b, .b, .b, .b, .b, .b, .b, .b, .b, .b, .a, .a, .z, .z, .b, .b, .b, .b, .r 40, .r 48, .r 56], [.b, .b, .b, .b, .b, .b, .b, .b, .b, .b, .b, .b, .a, .a, .a, .z, .b, .b, .b, .b, .r 40, .r 48, .r 56], [.b, .b, .b, .b, .b, .b, .b, .b, .b, .b, .b, .b, .b, .b, .b, .b, .z, .b, .b, .b, .z, .z, .z], [.b, .b, .b, .b, .b, .b, .b, .b, .b, .b, .b, .b, .b, .b, .b, .b, .b, .z, .b, .b, .z, .z, .z], [.b, .b, .b, .b, .b, .b, .b, .b, .b, .b, .b, .b, .b, .b, .b, .b, .b, .b, .z, .b, .z, .z, .z], [.b, .b, .b, .b, .b, .b, .b, .b, .b, .b, .b, .b, .b, .b, .b, .b, .b, .b, .b, .z, .z, .z, .z], [.a, .a, .a, .a, .b, .b, .b, .b, .b, .b, .b, .b, .b, .b, .b, .b, .a, .a, .a, .a, .z, .z, .z], [.a, .a, .a, .a, .a, .a, .a, .a, .b, .b, .b, .b, .b, .b, .b, .b, .a, .a, .a, .a, .a, .z, .z], [.a, .a, .a, .a, .a, .a, .a, .a, .a, .a, .a, .a, .b, .b, .b, .b, .a, .a, .a, .a, .a, .a, .z]] ?_
   refine ER 2 ?_
   refine E0 2 rfl rfl (zM (c := c38) (xs := x2.1) (v := e11) (n := 0) Tryz.underlying59 sz38 rfl kk kk he11) ?_
   refine ER 3 ?_
   refine E0 6 rfl rfl (zM (c := c38) (xs := x2.1) (v := e12) (n := 1) Tryz.underlying59 sz38 rfl kk kk he12) ?_
   refine ER 3 ?_
   refine E0 10 rfl rfl (zM (c := c38) (xs := x2.1) (v := e13) (n := 2) Tryz.underlying59 sz38 rfl kk kk he13) ?_
   refine ER 3 ?_
   refine E0 14 rfl rfl (zM (c := c38) (xs := x2.1) (v := e14) (n := 3) Tryz.underlying59 sz38 rfl kk kk he14) ?_
   refine EF 8 ?_
   obtain ⟨y15, hy15, h⟩ := zA h
   obtain ⟨b18, hb18, h⟩ := zA h
   obtain ⟨b22, hb22, h⟩ := zA h
   obtain ⟨b26, hb26, h⟩ := zA h
   obtain ⟨b29, hb29, h⟩ := zA h
   obtain ⟨b32, hb32, h⟩ := zA h
   obtain ⟨t34, ht34, h⟩ := zA h
   have ht34 := zB ht34
   refine V_sdreg [0, 1, 3, 7, 15, 31, 63, 127, 127, 383, 895, 1919, 127, 8191, 16383, 32767, 65535, 65535, 196607, 458751, 983039, 65535, 4194303, 8388607, 16777215, 33554431, 67108863, 134217727, 268435455, 536870911, 1073741823, 2147483647, 4294967295, 8589934591, 8589934591, 34359738367, 68719476735, 137438953471] 38 (cdm 38 [0, 1, 5, 21, 85, 341, 1365, 44701013, 33592661, 33658197, 33920341, 34968917, 11179349, 22369621, 89478485, 357913941, 11718102439253, 8806114612565, 8823294481749, 8892013958485, 9166891865429, 2930599351637, 5864062014805, 23456248059221, 93824992236885, 375299968947541, 1501199875790165, 6004799503160661, 24019198012642645, 96076792050570581, 384307168202282325, 1537228672809129301, 6148914691236517205, 614891469123651720533, 172169611354622481749, 393530540239137101141, 1574122160956548404565, 6296488643826193618261]) (mb 265 16) [] (s1 := ⟨bt 4 (Bo t34 :: bt 260 []), []⟩) kk kk ?_ ?_
   ·refine EK 1 (s_spec_foDefinite hy15) cf_spec_foDefinite ?_
    refine ER 1 ?_
    refine DL_split y15 (fun hc16 => ?_) (fun hc16 => ?_)
    ·have hb18 := zN hb18 hc16
     obtain ⟨y17, hy17, hb18⟩ := zA hb18
     have hb18 := zB hb18
     refine EQ hc16 ?_
     refine EK 1 (s_spec_foDefinite hy17) cf_spec_foDefinite ?_
     refine ER 2 ?_
     refine DL_split b18 (fun hc19 => ?_) (fun hc19 => ?_)
     ·have hb22 := zN hb22 hc19
      obtain ⟨e20, he20, hb22⟩ := zA hb22
      obtain ⟨y21, hy21, hb22⟩ := zA hb22
      have hb22 := zB hb22
      refine EQ hc19 ?_ (by rw [← hb18]; (try rw [← hb22]); (try rw [hc16]); kernel_rfl)
      refine ER 3 ?_
      refine E0 10 rfl rfl (zM (c := c109) (xs := x2.2.1) (v := e20) (n := 0) Tryz.underlying60 sz109 rfl kk kk he20) ?_
      refine EK 2 (s_spec_prTakes hy21) cf_spec_prTakes ?_
      refine ER 2 ?_
      refine DL_split b22 (fun hc23 => ?_) (fun hc23 => ?_)
      ·have hb26 := zN hb26 hc23
       obtain ⟨e24, he24, hb26⟩ := zA hb26
       obtain ⟨y25, hy25, hb26⟩ := zA hb26
       have hb26 := zB hb26
       refine EQ hc23 ?_ (by rw [← hb22]; (try rw [← hb26]); (try rw [hc16]); (try rw [hc19]); kernel_rfl)
       refine ER 3 ?_
       refine E0 19 rfl rfl (zM (c := c109) (xs := x2.2.1) (v := e24) (n := 1) Tryz.underlying60 sz109 rfl kk kk he24) ?_
       refine EK 2 (s_spec_prTakes hy25) cf_spec_prTakes ?_
       refine ER 2 ?_
       refine DL_split b26 (fun hc27 => ?_) (fun hc27 => ?_)
       ·have hb29 := zN hb29 hc27
        obtain ⟨y28, hy28, hb29⟩ := zA hb29
        have hb29 := zB hb29
        refine EQ hc27 ?_ (by rw [← hb26]; (try rw [← hb29]); (try rw [hc16]); (try rw [hc19]); (try rw [hc23]); kernel_rfl)
        refine EK 1 (s_spec_reIs hy28) cf_spec_reIs ?_
        refine ER 2 ?_
        refine DL_split b29 (fun hc30 => ?_) (fun hc30 => ?_)
        ·have hb32 := zN hb32 hc30
         obtain ⟨y31, hy31, hb32⟩ := zA hb32
         have hb32 := zB hb32
         refine EQ hc30 ?_ (by rw [← hb29]; (try rw [← hb32]); (try rw [hc16]); (try rw [hc19]); (try rw [hc23]); (try rw [hc27]); kernel_rfl)
         refine EK 1 (s_spec_reIs hy31) cf_spec_reIs ?_
         refine ER 2 ?_
         refine DL_split b32 (fun hc33 => ?_) (fun hc33 => ?_)
         ·refine EQ hc33 ?_ (by rw [← hb32]; (try rw [hc16]); (try rw [hc19]); (try rw [hc23]); (try rw [hc27]); (try rw [hc30]); kernel_rfl)
          refine ER 2 ?_
          refine E0 35 rfl rfl (Y0_neg3 (a0 := e12.1) (b0 := e14.1) (a1 := e12.2.1) (b1 := e14.2.1) (a2 := e12.2.2) (b2 := e14.2.2) neg38 rfl kk kk) ?_
          refine EA 2 ?_
          exact YE (by rw [← ht34]; (try rw [hc16]); (try rw [hc19]); (try rw [hc23]); (try rw [hc27]); (try rw [hc30]); (try rw [hc33]); kernel_rfl)
         ·refine EQ hc33 ?_ (by rw [← hb32]; (try rw [hc16]); (try rw [hc19]); (try rw [hc23]); (try rw [hc27]); (try rw [hc30]); kernel_rfl)
          refine EA 5 ?_
          exact YE (by rw [← ht34]; (try rw [hc16]); (try rw [hc19]); (try rw [hc23]); (try rw [hc27]); (try rw [hc30]); (try rw [hc33]); kernel_rfl)
        ·have hb32 := zB (zC hb32 hc30)
         refine EQ hc30 ?_ (by rw [← hb29]; (try rw [hc16]); (try rw [hc19]); (try rw [hc23]); (try rw [hc27]); kernel_rfl)
         refine ER 4 ?_
         subst hb32
         have hc33 : false = false := rfl
         refine EA 5 ?_
         exact YE (by rw [← ht34]; (try rw [hc16]); (try rw [hc19]); (try rw [hc23]); (try rw [hc27]); (try rw [hc30]); kernel_rfl)
       ·have hb29 := zB (zC hb29 hc27)
        refine EQ hc27 ?_ (by rw [← hb26]; (try rw [hc16]); (try rw [hc19]); (try rw [hc23]); kernel_rfl)
        refine ER 4 ?_
        subst hb29
        have hc30 : false = false := rfl
        have hb32 := zB (zC hb32 hc30)
        refine ER 4 ?_
        subst hb32
        have hc33 : false = false := rfl
        refine EA 5 ?_
        exact YE (by rw [← ht34]; (try rw [hc16]); (try rw [hc19]); (try rw [hc23]); (try rw [hc27]); kernel_rfl)
      ·have hb26 := zB (zC hb26 hc23)
       refine EQ hc23 ?_ (by rw [← hb22]; (try rw [hc16]); (try rw [hc19]); kernel_rfl)
       refine ER 9 ?_
       subst hb26
       have hc27 : false = false := rfl
       have hb29 := zB (zC hb29 hc27)
       refine ER 4 ?_
       subst hb29
       have hc30 : false = false := rfl
       have hb32 := zB (zC hb32 hc30)
       refine ER 4 ?_
       subst hb32
       have hc33 : false = false := rfl
       refine EA 5 ?_
       exact YE (by rw [← ht34]; (try rw [hc16]); (try rw [hc19]); (try rw [hc23]); kernel_rfl)
     ·have hb22 := zB (zC hb22 hc19)
      refine EQ hc19 ?_ (by rw [← hb18]; (try rw [hc16]); kernel_rfl)
      refine ER 9 ?_
      subst hb22
      have hc23 : false = false := rfl
      have hb26 := zB (zC hb26 hc23)
      refine ER 9 ?_
      subst hb26
      have hc27 : false = false := rfl
      have hb29 := zB (zC hb29 hc27)
      refine ER 4 ?_
      subst hb29
      have hc30 : false = false := rfl
      have hb32 := zB (zC hb32 hc30)
      refine ER 4 ?_
      subst hb32
      have hc33 : false = false := rfl
      refine EA 5 ?_
      exact YE (by rw [← ht34]; (try rw [hc16]); (try rw [hc19]); kernel_rfl)
    ·have hb18 := zB (zC hb18 hc16)
     refine EQ hc16 ?_
     refine ER 4 ?_
     subst hb18
     have hc19 : false = false := rfl
     have hb22 := zB (zC hb22 hc19)
     refine ER 9 ?_
     subst hb22
     have hc23 : false = false := rfl
     have hb26 := zB (zC hb26 hc23)
     refine ER 9 ?_
     subst hb26
     have hc27 : false = false := rfl
     have hb29 := zB (zC hb29 hc27)
     refine ER 4 ?_
     subst hb29
     have hc30 : false = false := rfl
     have hb32 := zB (zC hb32 hc30)
     refine ER 4 ?_
     subst hb32
     have hc33 : false = false := rfl
     refine EA 5 ?_
     exact YE (by rw [← ht34]; (try rw [hc16]); kernel_rfl)
   cases h
   exact zH VT
  ·obtain ⟨t35, ht35, h⟩ := zA h
   have ht35 := zB ht35
   refine zO (mb 265 2475880078570760549799297032) [24] (s1 := ⟨bt 3 (.pt 24 0 :: bt 16 (.c (.v (.string kind1)) :: bt 70 (Bo t35 :: bt 173 []))), [(24, .box [.sl (x2.1.map c38), .sl (x2.2.1.map c109), .sl (x2.2.2.map c3)])]⟩) ?_ ?_
   ·refine L0 rfl rfl (Y0_eqs (a := kind1) (b := ((⟨#[118, 97, 108, 117, 101]⟩ : ByteArray))) rfl kk kk) ?_
    refine XR 1 ?_
    refine zD ?_
    subst ht35
    kernel_rfl
   refine VC h (fun h => ?_) (fun h => ?_)
   ·obtain ⟨e37, he37, h⟩ := zA h
    obtain ⟨e38, he38, h⟩ := zA h
    obtain ⟨e39, he39, h⟩ := zA h
    obtain ⟨y40, hy40, h⟩ := zA h
    obtain ⟨e41, he41, h⟩ := zA h
    obtain ⟨b46, hb46, h⟩ := zA h
    refine V_sdreg [0, 1, 3, 7, 0, 16, 48, 112, 0, 256, 768, 1792, 4095, 0, 8192, 24576, 57344, 131071, 262143, 524287, 1048575, 2097151, 4194303, 524287, 8912895, 25690111, 59244543, 134217727, 268435455, 536870911, 1073741823] 31 (cdm 31 [11419691520, 11419691521, 11419691525, 11419691541, 11419648170, 11419648426, 11419649450, 11419653546, 11408550570, 11408616106, 11408878250, 11409926826, 11414099285, 44739242, 111848106, 380283562, 1454025386, 5726623061, 22906492245, 11962778136171861, 11963053014078805, 11964152525706581, 11968550572217685, 46820870149461, 117189614327125, 398664591037781, 1524564497880405, 6004799503160661, 24019198012642645, 96076792050570581, 384307168202282325]) (mb 265 16) [] (s1 := ⟨bt 4 (Bo b46 :: bt 260 []), []⟩) kk kk ?_ ?_
    ·refine ER 2 ?_
     refine E0 2 rfl rfl (zM (c := c38) (xs := x2.1) (v := e37) (n := 0) Tryz.underlying59 sz38 rfl kk kk he37) ?_
     refine ER 3 ?_
     refine E0 6 rfl rfl (zM (c := c3) (xs := x2.2.2) (v := e38) (n := 1) Tryz.underlying24 sz3 rfl kk kk he38) ?_
     refine ER 3 ?_
     refine E0 10 rfl rfl (zM (c := c3) (xs := x2.2.2) (v := e39) (n := 2) Tryz.underlying24 sz3 rfl kk kk he39) ?_
     refine EK 1 (s_spec_foValue hy40) cf_spec_foValue ?_
     refine ER 2 ?_
     refine E0 15 rfl rfl (zM (c := c3) (xs := x2.2.2) (v := e41) (n := 0) Tryz.underlying24 sz3 rfl kk kk he41) ?_
     refine ER 3 ?_
     refine DL_split (eqI y40 e41) (fun hc42 => ?_) (fun hc42 => ?_)
     ·have hb46 := zN hb46 hc42
      obtain ⟨e43, he43, hb46⟩ := zA hb46
      obtain ⟨e44, he44, hb46⟩ := zA hb46
      obtain ⟨y45, hy45, hb46⟩ := zA hb46
      have hb46 := zB hb46
      refine EQ hc42 ?_
      refine ER 2 ?_
      refine E0 21 rfl rfl (zM (c := c3) (xs := x2.2.2) (v := e43) (n := 1) Tryz.underlying24 sz3 rfl kk kk he43) ?_
      refine ER 3 ?_
      refine E0 25 rfl rfl (zM (c := c3) (xs := x2.2.2) (v := e44) (n := 2) Tryz.underlying24 sz3 rfl kk kk he44) ?_
      refine EK 1 (s_spec_nuGcd hy45) cf_spec_nuGcd ?_
      refine EA 3 ?_
      exact YE (by rw [← hb46]; (try rw [hc42]); kernel_rfl)
     ·have hb46 := zB (zC hb46 hc42)
      refine EQ hc42 ?_
      refine EA 12 ?_
      exact YE (by rw [← hb46]; (try rw [hc42]); kernel_rfl)
    cases h
    exact zH VT
   ·obtain ⟨t47, ht47, h⟩ := zA h
    have ht47 := zB ht47
    refine zO (mb 265 10633823966279326983230456482243805192) [24] (s1 := ⟨bt 3 (.pt 24 0 :: bt 16 (.c (.v (.string kind1)) :: bt 102 (Bo t47 :: bt 141 []))), [(24, .box [.sl (x2.1.map c38), .sl (x2.2.1.map c109), .sl (x2.2.2.map c3)])]⟩) ?_ ?_
    ·refine L0 rfl rfl (Y0_eqs (a := kind1) (b := ((⟨#[111, 98, 115, 116, 114, 117, 99, 116, 105, 111, 110]⟩ : ByteArray))) rfl kk kk) ?_
     refine XR 1 ?_
     refine zD ?_
     subst ht47
     kernel_rfl
    refine VC h (fun h => ?_) (fun h => ?_)
    ·obtain ⟨e49, he49, h⟩ := zA h
     obtain ⟨e50, he50, h⟩ := zA h
     obtain ⟨e51, he51, h⟩ := zA h
     refine VDS [0, 1, 3, 7, 0, 16, 48, 112, 0, 256, 768, 1792, 15, 4351, 16383] 15 (cdm 15 [11184640, 11184641, 11184645, 11184661, 44695722, 44695978, 44697002, 44701098, 167815850, 167881386, 168143530, 169192106, 11184725, 27940181, 89478485]) ?_
     refine ER 2 ?_
     refine E0 2 rfl rfl (zM (c := c3) (xs := x2.2.2) (v := e49) (n := 0) Tryz.underlying24 sz3 rfl kk kk he49) ?_
     refine ER 3 ?_
     refine E0 6 rfl rfl (zM (c := c3) (xs := x2.2.2) (v := e50) (n := 1) Tryz.underlying24 sz3 rfl kk kk he50) ?_
     refine ER 3 ?_
     refine E0 10 rfl rfl (zM (c := c3) (xs := x2.2.2) (v := e51) (n := 2) Tryz.underlying24 sz3 rfl kk kk he51) ?_
     refine EF 4 ?_
     obtain ⟨y52, hy52, h⟩ := zA h
     obtain ⟨b56, hb56, h⟩ := zA h
     obtain ⟨b59, hb59, h⟩ := zA h
     obtain ⟨b62, hb62, h⟩ := zA h
     obtain ⟨b65, hb65, h⟩ := zA h
     refine zO (mb 265 16) [] (s1 := ⟨bt 4 (Bo b65 :: bt 260 []), []⟩) ?_ ?_
     ·refine YK 1 (s_spec_reDisc hy52) cf_spec_reDisc ?_
      refine YR 1 ?_
      refine zJ y52 (fun hc53 => ?_) (fun hc53 => ?_)
      ·refine YQ hc53 ?_
       refine YR 4 ?_
       refine zJ (bif y52 then (leI 1 e50) else false) (fun hc54 => ?_) (fun hc54 => ?_)
       ·have hb56 := zN hb56 hc54
        obtain ⟨y55, hy55, hb56⟩ := zA hb56
        have hb56 := zB hb56
        refine YQ hc54 ?_ (by rw [hc53]; kernel_rfl)
        refine YK 1 (s_spec_l1In hy55) cf_spec_l1In ?_
        refine YR 2 ?_
        refine zJ b56 (fun hc57 => ?_) (fun hc57 => ?_)
        ·have hb59 := zN hb59 hc57
         obtain ⟨y58, hy58, hb59⟩ := zA hb59
         have hb59 := zB hb59
         refine YQ hc57 ?_ (by rw [← hb56]; (try rw [← hb59]); (try rw [hc54]); (try rw [hc53]); kernel_rfl)
         refine YK 1 (s_spec_nuPrime hy58) cf_spec_nuPrime ?_
         refine YR 2 ?_
         refine zJ b59 (fun hc60 => ?_) (fun hc60 => ?_)
         ·have hb62 := zN hb62 hc60
          obtain ⟨y61, hy61, hb62⟩ := zA hb62
          have hb62 := zB hb62
          refine YQ hc60 ?_ (by rw [← hb59]; (try rw [← hb62]); (try rw [hc54]); (try rw [hc53]); (try rw [hc57]); kernel_rfl)
          refine YK 2 (s_spec_nuExponent hy61) cf_spec_nuExponent ?_
          refine YT (X_of_Y0 rfl (Y0_rem (k := .i64) (a := y61) (b := 2) rfl kk kk (by decide))) ?_
          refine YR 3 ?_
          refine zJ b62 (fun hc63 => ?_) (fun hc63 => ?_)
          ·have hb65 := zN hb65 hc63
           obtain ⟨y64, hy64, hb65⟩ := zA hb65
           have hb65 := zB hb65
           refine YQ hc63 ?_ (by rw [← hb62]; (try rw [← hb65]); (try rw [hc54]); (try rw [hc53]); (try rw [hc57]); (try rw [hc60]); kernel_rfl)
           refine YK 2 (s_spec_roDisc hy64) cf_spec_roDisc ?_
           refine YT (X_of_Y0 rfl (Y0_lenM (c := c3) (xs := y64) Tryz.underlying24 rfl kk)) ?_
           exact YE (by rw [← hb65]; (try rw [hc54]); (try rw [hc53]); (try rw [hc57]); (try rw [hc60]); (try rw [hc63]); kernel_rfl)
          ·have hb65 := zB (zC hb65 hc63)
           refine YQ hc63 ?_ (by rw [← hb62]; (try rw [← hb65]); (try rw [hc54]); (try rw [hc53]); (try rw [hc57]); (try rw [hc60]); kernel_rfl)
           exact YE (by rw [← hb65]; (try rw [hc54]); (try rw [hc53]); (try rw [hc57]); (try rw [hc60]); (try rw [hc63]); kernel_rfl)
         ·have hb62 := zB (zC hb62 hc60)
          refine YQ hc60 ?_ (by rw [← hb59]; (try rw [← hb65]); (try rw [hc54]); (try rw [hc53]); (try rw [hc57]); kernel_rfl)
          refine YR 7 ?_
          subst hb62
          have hc63 : false = false := rfl
          have hb65 := zB (zC hb65 hc63)
          exact YE (by rw [← hb65]; (try rw [hc54]); (try rw [hc53]); (try rw [hc57]); (try rw [hc60]); kernel_rfl)
        ·have hb59 := zB (zC hb59 hc57)
         refine YQ hc57 ?_ (by rw [← hb56]; (try rw [← hb65]); (try rw [hc54]); (try rw [hc53]); kernel_rfl)
         refine YR 4 ?_
         subst hb59
         have hc60 : false = false := rfl
         have hb62 := zB (zC hb62 hc60)
         refine YR 7 ?_
         subst hb62
         have hc63 : false = false := rfl
         have hb65 := zB (zC hb65 hc63)
         exact YE (by rw [← hb65]; (try rw [hc54]); (try rw [hc53]); (try rw [hc57]); kernel_rfl)
       ·have hb56 := zB (zC hb56 hc54)
        refine YQ hc54 ?_ (by rw [hc53]; kernel_rfl)
        refine YR 4 ?_
        subst hb56
        have hc57 : false = false := rfl
        have hb59 := zB (zC hb59 hc57)
        refine YR 4 ?_
        subst hb59
        have hc60 : false = false := rfl
        have hb62 := zB (zC hb62 hc60)
        refine YR 7 ?_
        subst hb62
        have hc63 : false = false := rfl
        have hb65 := zB (zC hb65 hc63)
        exact YE (by rw [← hb65]; (try rw [hc54]); (try rw [hc53]); kernel_rfl)
      ·refine YQ hc53 ?_
       refine YR 4 ?_
       refine zJ (bif y52 then (leI 1 e50) else false) (fun hc54 => ?_) (fun hc54 => ?_)
       ·have hb56 := zN hb56 hc54
        obtain ⟨y55, hy55, hb56⟩ := zA hb56
        have hb56 := zB hb56
        refine YQ hc54 ?_ (by rw [hc53]; kernel_rfl)
        refine YK 1 (s_spec_l1In hy55) cf_spec_l1In ?_
        refine YR 2 ?_
        refine zJ b56 (fun hc57 => ?_) (fun hc57 => ?_)
        ·have hb59 := zN hb59 hc57
         obtain ⟨y58, hy58, hb59⟩ := zA hb59
         have hb59 := zB hb59
         refine YQ hc57 ?_ (by rw [← hb56]; (try rw [← hb59]); (try rw [hc54]); (try rw [hc53]); kernel_rfl)
         refine YK 1 (s_spec_nuPrime hy58) cf_spec_nuPrime ?_
         refine YR 2 ?_
         refine zJ b59 (fun hc60 => ?_) (fun hc60 => ?_)
         ·have hb62 := zN hb62 hc60
          obtain ⟨y61, hy61, hb62⟩ := zA hb62
          have hb62 := zB hb62
          refine YQ hc60 ?_ (by rw [← hb59]; (try rw [← hb62]); (try rw [hc54]); (try rw [hc53]); (try rw [hc57]); kernel_rfl)
          refine YK 2 (s_spec_nuExponent hy61) cf_spec_nuExponent ?_
          refine YT (X_of_Y0 rfl (Y0_rem (k := .i64) (a := y61) (b := 2) rfl kk kk (by decide))) ?_
          refine YR 3 ?_
          refine zJ b62 (fun hc63 => ?_) (fun hc63 => ?_)
          ·have hb65 := zN hb65 hc63
           obtain ⟨y64, hy64, hb65⟩ := zA hb65
           have hb65 := zB hb65
           refine YQ hc63 ?_ (by rw [← hb62]; (try rw [← hb65]); (try rw [hc54]); (try rw [hc53]); (try rw [hc57]); (try rw [hc60]); kernel_rfl)
           refine YK 2 (s_spec_roDisc hy64) cf_spec_roDisc ?_
           refine YT (X_of_Y0 rfl (Y0_lenM (c := c3) (xs := y64) Tryz.underlying24 rfl kk)) ?_
           exact YE (by rw [← hb65]; (try rw [hc54]); (try rw [hc53]); (try rw [hc57]); (try rw [hc60]); (try rw [hc63]); kernel_rfl)
          ·have hb65 := zB (zC hb65 hc63)
           refine YQ hc63 ?_ (by rw [← hb62]; (try rw [← hb65]); (try rw [hc54]); (try rw [hc53]); (try rw [hc57]); (try rw [hc60]); kernel_rfl)
           exact YE (by rw [← hb65]; (try rw [hc54]); (try rw [hc53]); (try rw [hc57]); (try rw [hc60]); (try rw [hc63]); kernel_rfl)
         ·have hb62 := zB (zC hb62 hc60)
          refine YQ hc60 ?_ (by rw [← hb59]; (try rw [← hb65]); (try rw [hc54]); (try rw [hc53]); (try rw [hc57]); kernel_rfl)
          refine YR 7 ?_
          subst hb62
          have hc63 : false = false := rfl
          have hb65 := zB (zC hb65 hc63)
          exact YE (by rw [← hb65]; (try rw [hc54]); (try rw [hc53]); (try rw [hc57]); (try rw [hc60]); kernel_rfl)
        ·have hb59 := zB (zC hb59 hc57)
         refine YQ hc57 ?_ (by rw [← hb56]; (try rw [← hb65]); (try rw [hc54]); (try rw [hc53]); kernel_rfl)
         refine YR 4 ?_
         subst hb59
         have hc60 : false = false := rfl
         have hb62 := zB (zC hb62 hc60)
         refine YR 7 ?_
         subst hb62
         have hc63 : false = false := rfl
         have hb65 := zB (zC hb65 hc63)
         exact YE (by rw [← hb65]; (try rw [hc54]); (try rw [hc53]); (try rw [hc57]); kernel_rfl)
       ·have hb56 := zB (zC hb56 hc54)
        refine YQ hc54 ?_ (by rw [hc53]; kernel_rfl)
        refine YR 4 ?_
        subst hb56
        have hc57 : false = false := rfl
        have hb59 := zB (zC hb59 hc57)
        refine YR 4 ?_
        subst hb59
        have hc60 : false = false := rfl
        have hb62 := zB (zC hb62 hc60)
        refine YR 7 ?_
        subst hb62
        have hc63 : false = false := rfl
        have hb65 := zB (zC hb65 hc63)
        exact YE (by rw [← hb65]; (try rw [hc54]); (try rw [hc53]); kernel_rfl)
     cases h
     exact zH VT
    ·obtain ⟨t66, ht66, h⟩ := zA h
     have ht66 := zB ht66
     refine zO (mb 265 46768052394588893382517914646921056628989842423816) [24] (s1 := ⟨bt 3 (.pt 24 0 :: bt 16 (.c (.v (.string kind1)) :: bt 144 (Bo t66 :: bt 99 []))), [(24, .box [.sl (x2.1.map c38), .sl (x2.2.1.map c109), .sl (x2.2.2.map c3)])]⟩) ?_ ?_
     ·refine L0 rfl rfl (Y0_eqs (a := kind1) (b := ((⟨#[99, 111, 109, 112, 111, 115, 105, 116, 101]⟩ : ByteArray))) rfl kk kk) ?_
      refine XR 1 ?_
      refine zD ?_
      subst ht66
      kernel_rfl
     refine VC h (fun h => ?_) (fun h => ?_)
     ·obtain ⟨e68, he68, h⟩ := zA h
      obtain ⟨e69, he69, h⟩ := zA h
      obtain ⟨e70, he70, h⟩ := zA h
      obtain ⟨y71, hy71, h⟩ := zA h
      refine VDS [0, 1, 3, 7, 0, 16, 48, 112, 0, 256, 768, 1792, 0, 4096, 16383, 32767, 65535, 65535, 131071, 524287] 20 (cdm 20 [178956800, 178956801, 178956805, 178956821, 178913450, 178913706, 178914730, 178918826, 167815850, 167881386, 168143530, 169192106, 11184810, 27962026, 89478485, 357913941, 35791394133, 147460543829, 40086361429, 91625968981]) ?_
      refine ER 2 ?_
      refine E0 2 rfl rfl (zM (c := c38) (xs := x2.1) (v := e68) (n := 0) Tryz.underlying59 sz38 rfl kk kk he68) ?_
      refine ER 3 ?_
      refine E0 6 rfl rfl (zM (c := c38) (xs := x2.1) (v := e69) (n := 1) Tryz.underlying59 sz38 rfl kk kk he69) ?_
      refine ER 3 ?_
      refine E0 10 rfl rfl (zM (c := c38) (xs := x2.1) (v := e70) (n := 2) Tryz.underlying59 sz38 rfl kk kk he70) ?_
      refine EK 3 (s_spec_IsComposition hy71) cf_spec_IsComposition ?_
      refine EF 5 ?_
      refine zO (mb 265 16) [] (s1 := ⟨bt 4 (Bo (bif y71.1 then y71.2 else false) :: bt 260 []), []⟩) ?_ ?_
      ·refine YR 2 ?_
       refine zJ y71.1 (fun hc72 => ?_) (fun hc72 => ?_)
       ·refine YQ hc72 ?_
        exact YE (by rw [hc72]; kernel_rfl)
       ·refine YQ hc72 ?_
        exact YE (by rw [hc72]; kernel_rfl)
      cases h
      exact zH VT
     ·obtain ⟨t73, ht73, h⟩ := zA h
      have ht73 := zB ht73
      refine zO (mb 265 784637716923335095479473677900958302012794430558005362696) [24] (s1 := ⟨bt 3 (.pt 24 0 :: bt 16 (.c (.v (.string kind1)) :: bt 168 (Bo t73 :: bt 75 []))), [(24, .box [.sl (x2.1.map c38), .sl (x2.2.1.map c109), .sl (x2.2.2.map c3)])]⟩) ?_ ?_
      ·refine L0 rfl rfl (Y0_eqs (a := kind1) (b := ((⟨#[111, 114, 100, 101, 114]⟩ : ByteArray))) rfl kk kk) ?_
       refine XR 1 ?_
       refine zD ?_
       subst ht73
       kernel_rfl
      refine VC h (fun h => ?_) (fun h => ?_)
      ·obtain ⟨e75, he75, h⟩ := zA h
       obtain ⟨e76, he76, h⟩ := zA h
       obtain ⟨y77, hy77, h⟩ := zA h
       refine VDS [0, 1, 3, 7, 0, 16, 48, 112, 255, 511] 10 (cdm 10 [43520, 43521, 43525, 43541, 170, 426, 1450, 5546, 21845, 87381]) ?_
       refine ER 2 ?_
       refine E0 2 rfl rfl (zM (c := c38) (xs := x2.1) (v := e75) (n := 0) Tryz.underlying59 sz38 rfl kk kk he75) ?_
       refine ER 3 ?_
       refine E0 6 rfl rfl (zM (c := c3) (xs := x2.2.2) (v := e76) (n := 0) Tryz.underlying24 sz3 rfl kk kk he76) ?_
       refine EK 1 (s_spec_prOrder hy77) cf_spec_prOrder ?_
       refine EF 1 ?_
       cases h
       exact zH VT
      ·obtain ⟨t78, ht78, h⟩ := zA h
       have ht78 := zB ht78
       refine zO (mb 265 1606938044258990275541962092341162602522202993782792836349960) [24] (s1 := ⟨bt 3 (.pt 24 0 :: bt 16 (.c (.v (.string kind1)) :: bt 179 (Bo t78 :: bt 64 []))), [(24, .box [.sl (x2.1.map c38), .sl (x2.2.1.map c109), .sl (x2.2.2.map c3)])]⟩) ?_ ?_
       ·refine L0 rfl rfl (Y0_eqs (a := kind1) (b := ((⟨#[114, 111, 111, 116]⟩ : ByteArray))) rfl kk kk) ?_
        refine XR 1 ?_
        refine zD ?_
        subst ht78
        kernel_rfl
       refine VC h (fun h => ?_) (fun h => ?_)
       ·obtain ⟨e80, he80, h⟩ := zA h
        obtain ⟨e81, he81, h⟩ := zA h
        obtain ⟨e82, he82, h⟩ := zA h
        refine VDS [0, 1, 3, 7, 0, 16, 48, 112, 0, 256, 768, 1792, 15, 4351, 16383] 15 (cdm 15 [11184640, 11184641, 11184645, 11184661, 44695722, 44695978, 44697002, 44701098, 167815850, 167881386, 168143530, 169192106, 11184725, 27940181, 89478485]) ?_
        refine ER 2 ?_
        refine E0 2 rfl rfl (zM (c := c3) (xs := x2.2.2) (v := e80) (n := 0) Tryz.underlying24 sz3 rfl kk kk he80) ?_
        refine ER 3 ?_
        refine E0 6 rfl rfl (zM (c := c3) (xs := x2.2.2) (v := e81) (n := 1) Tryz.underlying24 sz3 rfl kk kk he81) ?_
        refine ER 3 ?_
        refine E0 10 rfl rfl (zM (c := c3) (xs := x2.2.2) (v := e82) (n := 2) Tryz.underlying24 sz3 rfl kk kk he82) ?_
        refine EF 4 ?_
        obtain ⟨b85, hb85, h⟩ := zA h
        refine zO (mb 265 16) [] (s1 := ⟨bt 4 (Bo b85 :: bt 260 []), []⟩) ?_ ?_
        ·refine YR 3 ?_
         refine zJ (leI 1 e81) (fun hc83 => ?_) (fun hc83 => ?_)
         ·have hb85 := zN hb85 hc83
          obtain ⟨z84, hz84, hb85⟩ := zA hb85
          have hb85 := zB hb85
          refine YQ hc83 ?_
          refine YR 7 ?_
          refine YT (X_of_Y0 rfl (Y0_rem (k := .i64) (a := w64 ((w64 (e82 * e82)) - e80)) (b := w64 (4 * e81)) rfl kk kk (nz_some hz84))) ?_
          exact YE (by rw [← hb85]; (try rw [hc83]); kernel_rfl)
         ·have hb85 := zB (zC hb85 hc83)
          refine YQ hc83 ?_
          exact YE (by rw [← hb85]; (try rw [hc83]); kernel_rfl)
        cases h
        exact zH VT
       ·obtain ⟨t86, ht86, h⟩ := zA h
        have ht86 := zB ht86
        refine zO (mb 265 215679573337205118357336120696157045389097155380324579848828881993736) [24] (s1 := ⟨bt 3 (.pt 24 0 :: bt 223 (Bo t86 :: bt 37 [])), [(24, .box [.sl (x2.1.map c38), .sl (x2.2.1.map c109), .sl (x2.2.2.map c3)])]⟩) ?_ ?_
        ·refine L0 rfl rfl (Y0_eqs (a := kind1) (b := ((⟨#[97, 117, 116, 111, 109, 111, 114, 112, 104]⟩ : ByteArray))) rfl kk kk) ?_
         refine XR 1 ?_
         refine zD ?_
         subst ht86
         kernel_rfl
        refine VC h (fun h => ?_) (fun h => ?_)
        ·obtain ⟨e88, he88, h⟩ := zA h
         obtain ⟨e89, he89, h⟩ := zA h
         obtain ⟨e90, he90, h⟩ := zA h
         obtain ⟨y91, hy91, h⟩ := zA h
         refine VDS [0, 1, 3, 7, 0, 16, 48, 112, 0, 256, 768, 1792, 4095, 8191] 14 (cdm 14 [11184640, 11184641, 11184645, 11184661, 11141290, 11141546, 11142570, 11146666, 43690, 109226, 371370, 1419946, 5592405, 22369621]) ?_
         refine ER 2 ?_
         refine E0 2 rfl rfl (zM (c := c38) (xs := x2.1) (v := e88) (n := 0) Tryz.underlying59 sz38 rfl kk kk he88) ?_
         refine ER 3 ?_
         refine E0 6 rfl rfl (zM (c := c109) (xs := x2.2.1) (v := e89) (n := 0) Tryz.underlying60 sz109 rfl kk kk he89) ?_
         refine ER 3 ?_
         refine E0 10 rfl rfl (zM (c := c38) (xs := x2.1) (v := e90) (n := 0) Tryz.underlying59 sz38 rfl kk kk he90) ?_
         refine EK 1 (s_spec_prTakes hy91) cf_spec_prTakes ?_
         refine EF 1 ?_
         cases h
         exact zH VT
        ·refine zK ?_
         show V _ _ _ _
         obtain ⟨e92, he92, h⟩ := zA h
         obtain ⟨e93, he93, h⟩ := zA h
         obtain ⟨e94, he94, h⟩ := zA h
         refine VDS [0, 1, 3, 7, 0, 16, 48, 112, 0, 256, 768, 1792, 15, 4351, 16383] 15 (cdm 15 [11184640, 11184641, 11184645, 11184661, 44695722, 44695978, 44697002, 44701098, 167815850, 167881386, 168143530, 169192106, 11184725, 27940181, 89478485]) ?_
         refine ER 2 ?_
         refine E0 2 rfl rfl (zM (c := c3) (xs := x2.2.2) (v := e92) (n := 0) Tryz.underlying24 sz3 rfl kk kk he92) ?_
         refine ER 3 ?_
         refine E0 6 rfl rfl (zM (c := c3) (xs := x2.2.2) (v := e93) (n := 1) Tryz.underlying24 sz3 rfl kk kk he93) ?_
         refine ER 3 ?_
         refine E0 10 rfl rfl (zM (c := c3) (xs := x2.2.2) (v := e94) (n := 2) Tryz.underlying24 sz3 rfl kk kk he94) ?_
         refine EF 4 ?_
         obtain ⟨y95, hy95, h⟩ := zA h
         refine VS ?_
         refine YK 9 (s_spec_l1Abs hy95) cf_spec_l1Abs ?_
         refine YF ?_
         cases h
         exact zH VT
end Go.Proofs.YtfmjfofocklgpaaGreatDoor
namespace Go.Proofs.YtfmjfofocklgpaaGreatDoor
open Go.RowKit
set_option linter.unusedVariables false
set_option linter.unusedSimpArgs false
set_option maxRecDepth 100000
set_option maxHeartbeats 400000
theorem cf_spec_prCheck : CfW Tryz.prog 42 := cfW Tryz.func42
theorem s_spec_prCheck {vs1 : ByteArray} {r : Int} (h : r_spec_prCheck vs1 = some r) : zP Tryz.prog 42 [.c (.v (.string vs1))] (I r) [] := by
 refine CtW [2] Tryz.func42 rfl rfl 17 ?_
 unfold r_spec_prCheck at h
 refine VE ?_
 obtain ⟨y2, hy2, h⟩ := zA h
 refine VS ?_
 refine YK 1 (s_spec_prParse hy2) cf_spec_prParse ?_
 refine YF ?_
 refine zF ?_
 refine VE ?_
 refine VC h (fun h => ?_) (fun h => ?_)
 ·refine VE ?_
  cases h
  exact zH VT
 ·refine zK ?_
  show V _ _ _ _
  refine zF ?_
  obtain ⟨y4, hy4, h⟩ := zA h
  refine VS ?_
  refine YK 2 (s_spec_prTrue hy4) cf_spec_prTrue ?_
  refine YF ?_
  refine VC h (fun h => ?_) (fun h => ?_)
  ·refine VE ?_
   cases h
   exact zH VT
  ·refine zK ?_
   show V _ _ _ _
   refine VE ?_
   cases h
   exact zH VT
theorem cf_spec_CheckBundle : CfW Tryz.prog 13 := cfW Tryz.func13
theorem s_spec_CheckBundle {vs1 : ByteArray} {r : ((List Int) × Bool)} (h : r_spec_CheckBundle vs1 = some r) : zP Tryz.prog 13 [.c (.v (.string vs1))] (.tc (.ow 0) (.tc (Bo r.2) .tn)) [(0, .arr 3 1 (r.1.map c3))] := by
 refine CtW [2, 3] Tryz.func13 rfl rfl 29 ?_
 unfold r_spec_CheckBundle at h
 refine VS ?_
 refine L1 rfl rfl (Y1_nil (e := 3) 1 (by decide) (.inl rfl)) ?_
 refine YF ?_
 obtain ⟨y2, hy2, h⟩ := zA h
 refine VS ?_
 refine YK 1 (s_spec_prLines hy2) cf_spec_prLines ?_
 refine YF ?_
 refine zF ?_
 refine VE ?_
 refine VC h (fun h => ?_) (fun h => ?_)
 ·refine VS ?_
  refine L1 rfl rfl (Y1_nil (e := 3) 1 (by decide) (.inl rfl)) ?_
  refine YF ?_
  cases h
  exact zH VT
 ·refine zK ?_
  show V _ _ _ _
  refine VS ?_
  refine L1 rfl rfl (Y1_nil (e := 3) 1 (by decide) (.inl rfl)) ?_
  refine YF ?_
  refine zF ?_
  refine VS ?_
  refine YR 1 ?_
  refine L0 rfl rfl (Y0_lenM (c := c9) (xs := y2.1) Tryz.underlying66 rfl kk) ?_
  refine YF ?_
  obtain ⟨o7, hLo7, h⟩ := zA h
  refine V_toK (mb 29 64) [48] (s1 := ⟨bt 6 (.ow 48 :: bt 22 []), [(48, .arr 3 1 (o7.map c3))]⟩) ?_ ?_
  ·clear h
   refine zG (V_loop (fun n s => ∃ (t4 : Int) (l5 : List Int), s.keep (mb 29 458816) [48] = (⟨bt 6 (.ow 48 :: bt 9 (.c (.sl (y2.1.map c9)) :: I ((y2.1.length : Int)) :: I t4 :: bt 10 [])), [(48, .arr 3 1 (l5.map c3))]⟩ : St) ∧ r_spec_CheckBundle_L6 y2 n t4 l5 = some o7) FU ⟨_, _,  kk, hLo7⟩ ?_)
   clear hLo7
   rintro n s ⟨t4, l5, hs, h⟩
   refine zV _ _ hs ?_
   clear hs
   cases n with
   | zero => cases h
   | succ n =>
    rw [r_spec_CheckBundle_L6] at h
    refine VE ?_
    refine zF ?_
    refine VC h (fun h => ?_) (fun h => ?_)
    ·refine zK ?_
     show V _ _ _ _
     refine zF ?_
     refine zG ?_
     obtain ⟨e9, he9, h⟩ := zA h
     refine VS ?_
     refine L0 rfl rfl (zM (c := c9) (xs := y2.1) (v := e9) (n := t4) Tryz.underlying66 sz9 rfl kk kk he9) ?_
     refine YF ?_
     obtain ⟨y10, hy10, h⟩ := zA h
     obtain ⟨u11, hu11, h⟩ := zA h
     refine zW ?_
     refine YK 2 (s_spec_prCheck hy10) cf_spec_prCheck ?_
     refine L1 rfl rfl (Y1_bslice (z := zv3) (els := [y10].map c3) Tryz.underlying24 iz3 rfl (by decide) rfl kk rfl (by simp [c3]) (by decide) (by decide)) ?_
     refine XL_cons rfl (X_appendM (c := c3) (xs := l5) (ys := [y10]) (id := 48) (z := zv3) rfl rfl Tryz.underlying24 izb3 rfl kk kk kk (fun _ => rfl) (by simp) (room_some hu11) (by decide)) ?_
     refine YF ?_
     show V _ _ _ _
     obtain ⟨t12, ht12, h⟩ := zU h
     refine V_reg (mb 29 458816) [48] (s1 := ⟨bt 6 (.ow 48 :: bt 9 (.c (.sl (y2.1.map c9)) :: I ((y2.1.length : Int)) :: I t12 :: bt 10 [])), [(48, .arr 3 1 ((l5 ++ ([y10])).map c3))]⟩) ?_ ?_
     ·refine XR 2 ?_
      refine zD ?_
      subst ht12
      kernel_rfl
     exact ⟨n, Nat.lt_succ_self n, _, _,  kk, h⟩
    ·refine V_exit ?_
     obtain rfl := zB h
     show St.keep _ _ _ = _
     kernel_rfl
  show V _ _ _ _
  refine VE ?_
  cases h
  exact zH VT
theorem cf_internal_stringslite_HasSuffix : CfW Tryz.prog 179 := cfW Tryz.func179
theorem s_internal_stringslite_HasSuffix {vs1 : ByteArray} {suffix2 : ByteArray} {r : Bool} (h : r_internal_stringslite_HasSuffix vs1 suffix2 = some r) : zP Tryz.prog 179 [.c (.v (.string vs1)), .c (.v (.string suffix2))] (Bo r) [] := by
 refine CtW [4] Tryz.func179 rfl rfl 21 ?_
 unfold r_internal_stringslite_HasSuffix at h
 refine VE ?_
 obtain ⟨b5, hb5, h⟩ := zA h
 refine zO (mb 21 16) [] (s1 := ⟨bt 4 (Bo b5 :: bt 16 []), []⟩) ?_ ?_
 ·refine YR 6 ?_
  refine zJ (leI ((suffix2.size : Int)) ((vs1.size : Int))) (fun hc3 => ?_) (fun hc3 => ?_)
  ·have hb5 := zN hb5 hc3
   obtain ⟨u4, hu4, hb5⟩ := zA hb5
   have hb5 := zB hb5
   refine YQ hc3 ?_
   refine YR 6 ?_
   refine YT (X_of_Y0 rfl (Y0_slices (b := vs1) (l := w64 (((vs1.size : Int)) - ((suffix2.size : Int)))) (h := (vs1.size : Int)) Tryz.underlying9 rfl kk (fun y hy => by cases hy; exact ⟨.i64, kk⟩) (fun hh => by cases hh) (fun y hy => by cases hy) (fun _ => rfl) (slc_some hu4))) ?_
   exact YE (by rw [← hb5]; (try rw [hc3]); kernel_rfl)
  ·have hb5 := zB (zC hb5 hc3)
   refine YQ hc3 ?_
   exact YE (by rw [← hb5]; (try rw [hc3]); kernel_rfl)
 cases h
 exact zH VT
theorem cf_internal_stringslite_TrimSuffix : CfW Tryz.prog 178 := cfW Tryz.func178
theorem s_internal_stringslite_TrimSuffix {vs1 : ByteArray} {suffix2 : ByteArray} {r : ByteArray} (h : r_internal_stringslite_TrimSuffix vs1 suffix2 = some r) : zP Tryz.prog 178 [.c (.v (.string vs1)), .c (.v (.string suffix2))] (.c (.v (.string r))) [] := by
 refine CtW [4] Tryz.func178 rfl rfl 16 ?_
 unfold r_internal_stringslite_TrimSuffix at h
 refine VE ?_
 refine zF ?_
 obtain ⟨y3, hy3, h⟩ := zA h
 refine VS ?_
 refine YK 2 (s_internal_stringslite_HasSuffix hy3) cf_internal_stringslite_HasSuffix ?_
 refine YF ?_
 refine VC h (fun h => ?_) (fun h => ?_)
 ·obtain ⟨u5, hu5, h⟩ := zA h
  refine VS ?_
  refine YR 6 ?_
  refine L0 rfl rfl (Y0_slices (b := vs1) (l := 0) (h := w64 (((vs1.size : Int)) - ((suffix2.size : Int)))) Tryz.underlying9 rfl kk (fun y hy => by cases hy) (fun _ => rfl) (fun y hy => by cases hy; exact ⟨.i64, kk⟩) (fun hh => by cases hh) (slc_some hu5)) ?_
  refine YF ?_
  cases h
  exact zH VT
 ·refine zK ?_
  show V _ _ _ _
  refine VE ?_
  cases h
  exact zH VT
theorem cf_strings_TrimSuffix : CfW Tryz.prog 86 := cfW Tryz.func86
theorem s_strings_TrimSuffix {vs1 : ByteArray} {suffix2 : ByteArray} {r : ByteArray} (h : r_strings_TrimSuffix vs1 suffix2 = some r) : zP Tryz.prog 86 [.c (.v (.string vs1)), .c (.v (.string suffix2))] (.c (.v (.string r))) [] := by
 refine CtW [4] Tryz.func86 rfl rfl 8 ?_
 unfold r_strings_TrimSuffix at h
 refine VE ?_
 obtain ⟨y3, hy3, h⟩ := zA h
 refine VS ?_
 refine YK 2 (s_internal_stringslite_TrimSuffix hy3) cf_internal_stringslite_TrimSuffix ?_
 refine YF ?_
 cases h
 exact zH VT
theorem cf_strings_HasSuffix : CfW Tryz.prog 87 := cfW Tryz.func87
theorem s_strings_HasSuffix {vs1 : ByteArray} {suffix2 : ByteArray} {r : Bool} (h : r_strings_HasSuffix vs1 suffix2 = some r) : zP Tryz.prog 87 [.c (.v (.string vs1)), .c (.v (.string suffix2))] (Bo r) [] := by
 refine CtW [4] Tryz.func87 rfl rfl 8 ?_
 unfold r_strings_HasSuffix at h
 refine VE ?_
 obtain ⟨y3, hy3, h⟩ := zA h
 refine VS ?_
 refine YK 2 (s_internal_stringslite_HasSuffix hy3) cf_internal_stringslite_HasSuffix ?_
 refine YF ?_
 cases h
 exact zH VT
theorem cf_impl_linesOf : CfW Tryz.prog 46 := cfW Tryz.func46
theorem s_impl_linesOf {vs1 : ByteArray} {r : ((List ByteArray) × Bool)} (h : r_impl_linesOf vs1 = some r) : zP Tryz.prog 46 [.c (.v (.string vs1))] (.tc (.ow 0) (.tc (Bo r.2) .tn)) [(0, .arr 9 1 (r.1.map c9))] := by
 refine CtW [2, 3] Tryz.func46 rfl rfl 12 ?_
 unfold r_impl_linesOf at h
 refine VS ?_
 refine L1 rfl rfl (Y1_nil (e := 9) 1 (by decide) (.inl rfl)) ?_
 refine YF ?_
 refine zF ?_
 refine VS ?_
 refine YF ?_
 refine VC h (fun h => ?_) (fun h => ?_)
 ·refine VS ?_
  refine L1 rfl rfl (Y1_bslice0 Tryz.underlying66 sz9 (by decide) rfl rfl) ?_
  refine YF ?_
  cases h
  exact zH VT
 ·refine zK ?_
  show V _ _ _ _
  obtain ⟨y3, hy3, h⟩ := zA h
  obtain ⟨y4, hy4, h⟩ := zA h
  obtain ⟨y5, hy5, h⟩ := zA h
  refine VS ?_
  refine YK 1 (s_strings_TrimSuffix hy3) cf_strings_TrimSuffix ?_
  refine YK 0 (s_strings_Split hy4) cf_strings_Split ?_
  refine YK 1 (s_strings_HasSuffix hy5) cf_strings_HasSuffix ?_
  refine YF ?_
  cases h
  exact zH VT
theorem cf_impl_shapeOf : CfW Tryz.prog 72 := cfW Tryz.func72
theorem s_impl_shapeOf {kind1 : ByteArray} {r : ByteArray} (h : r_impl_shapeOf kind1 = some r) : zP Tryz.prog 72 [.c (.v (.string kind1))] (.c (.v (.string r))) [] := by
 refine CtW [2] Tryz.func72 rfl rfl 9 ?_
 unfold r_impl_shapeOf at h
 refine VE ?_
 obtain ⟨l2, hl2, h⟩ := zA h
 have hl2 := zB hl2
 refine V_sregM (fun mb4 => ⟨.c (.v (.string kind1)) :: .bot :: .bot :: .c (.v (.map (some mb4))) :: bt 5 [], [(32, .mp mb4 (l2.map kv161))]⟩) (mb 9 9) [32] ?_ ?_
 ·refine XL_mkmap rfl rfl rfl fun mb4 => ?_
  refine XL_cons rfl (X_putM (κ := ByteArray) (ν := ByteArray) (ek := ek161) (ev := ev161) (z := ByteArray.empty) (m := ([] : List ((ByteArray × ByteArray)))) (a := (⟨#[101, 113, 117, 105, 118, 97, 108, 101, 110, 116]⟩ : ByteArray)) (u := (⟨#[102, 102, 109]⟩ : ByteArray)) (id := 32) (b := mb4) mo161 (.inr rfl) rfl kk kk kk kk) ?_
  refine XL_cons rfl (X_putM (κ := ByteArray) (ν := ByteArray) (ek := ek161) (ev := ev161) (z := ByteArray.empty) (m := mPut ((⟨#[101, 113, 117, 105, 118, 97, 108, 101, 110, 116]⟩ : ByteArray)) ((⟨#[102, 102, 109]⟩ : ByteArray)) (([] : List ((ByteArray × ByteArray))))) (a := (⟨#[100, 105, 102, 102, 101, 114, 101, 110, 116]⟩ : ByteArray)) (u := (⟨#[102, 109, 102, 102, 109, 102]⟩ : ByteArray)) (id := 32) (b := mb4) mo161 (.inr rfl) rfl kk kk kk kk) ?_
  refine XL_cons rfl (X_putM (κ := ByteArray) (ν := ByteArray) (ek := ek161) (ev := ev161) (z := ByteArray.empty) (m := mPut ((⟨#[100, 105, 102, 102, 101, 114, 101, 110, 116]⟩ : ByteArray)) ((⟨#[102, 109, 102, 102, 109, 102]⟩ : ByteArray)) (mPut ((⟨#[101, 113, 117, 105, 118, 97, 108, 101, 110, 116]⟩ : ByteArray)) ((⟨#[102, 102, 109]⟩ : ByteArray)) (([] : List ((ByteArray × ByteArray)))))) (a := (⟨#[118, 97, 108, 117, 101]⟩ : ByteArray)) (u := (⟨#[102, 110, 110, 110]⟩ : ByteArray)) (id := 32) (b := mb4) mo161 (.inr rfl) rfl kk kk kk kk) ?_
  refine XL_cons rfl (X_putM (κ := ByteArray) (ν := ByteArray) (ek := ek161) (ev := ev161) (z := ByteArray.empty) (m := mPut ((⟨#[118, 97, 108, 117, 101]⟩ : ByteArray)) ((⟨#[102, 110, 110, 110]⟩ : ByteArray)) (mPut ((⟨#[100, 105, 102, 102, 101, 114, 101, 110, 116]⟩ : ByteArray)) ((⟨#[102, 109, 102, 102, 109, 102]⟩ : ByteArray)) (mPut ((⟨#[101, 113, 117, 105, 118, 97, 108, 101, 110, 116]⟩ : ByteArray)) ((⟨#[102, 102, 109]⟩ : ByteArray)) (([] : List ((ByteArray × ByteArray))))))) (a := (⟨#[111, 98, 115, 116, 114, 117, 99, 116, 105, 111, 110]⟩ : ByteArray)) (u := (⟨#[110, 110, 110]⟩ : ByteArray)) (id := 32) (b := mb4) mo161 (.inr rfl) rfl kk kk kk kk) ?_
  refine XL_cons rfl (X_putM (κ := ByteArray) (ν := ByteArray) (ek := ek161) (ev := ev161) (z := ByteArray.empty) (m := mPut ((⟨#[111, 98, 115, 116, 114, 117, 99, 116, 105, 111, 110]⟩ : ByteArray)) ((⟨#[110, 110, 110]⟩ : ByteArray)) (mPut ((⟨#[118, 97, 108, 117, 101]⟩ : ByteArray)) ((⟨#[102, 110, 110, 110]⟩ : ByteArray)) (mPut ((⟨#[100, 105, 102, 102, 101, 114, 101, 110, 116]⟩ : ByteArray)) ((⟨#[102, 109, 102, 102, 109, 102]⟩ : ByteArray)) (mPut ((⟨#[101, 113, 117, 105, 118, 97, 108, 101, 110, 116]⟩ : ByteArray)) ((⟨#[102, 102, 109]⟩ : ByteArray)) (([] : List ((ByteArray × ByteArray)))))))) (a := (⟨#[99, 111, 109, 112, 111, 115, 105, 116, 101]⟩ : ByteArray)) (u := (⟨#[102, 102, 102, 110, 110, 110, 110, 110, 110, 110, 110]⟩ : ByteArray)) (id := 32) (b := mb4) mo161 (.inr rfl) rfl kk kk kk kk) ?_
  refine XL_cons rfl (X_putM (κ := ByteArray) (ν := ByteArray) (ek := ek161) (ev := ev161) (z := ByteArray.empty) (m := mPut ((⟨#[99, 111, 109, 112, 111, 115, 105, 116, 101]⟩ : ByteArray)) ((⟨#[102, 102, 102, 110, 110, 110, 110, 110, 110, 110, 110]⟩ : ByteArray)) (mPut ((⟨#[111, 98, 115, 116, 114, 117, 99, 116, 105, 111, 110]⟩ : ByteArray)) ((⟨#[110, 110, 110]⟩ : ByteArray)) (mPut ((⟨#[118, 97, 108, 117, 101]⟩ : ByteArray)) ((⟨#[102, 110, 110, 110]⟩ : ByteArray)) (mPut ((⟨#[100, 105, 102, 102, 101, 114, 101, 110, 116]⟩ : ByteArray)) ((⟨#[102, 109, 102, 102, 109, 102]⟩ : ByteArray)) (mPut ((⟨#[101, 113, 117, 105, 118, 97, 108, 101, 110, 116]⟩ : ByteArray)) ((⟨#[102, 102, 109]⟩ : ByteArray)) (([] : List ((ByteArray × ByteArray))))))))) (a := (⟨#[111, 114, 100, 101, 114]⟩ : ByteArray)) (u := (⟨#[102, 110]⟩ : ByteArray)) (id := 32) (b := mb4) mo161 (.inr rfl) rfl kk kk kk kk) ?_
  refine XL_cons rfl (X_putM (κ := ByteArray) (ν := ByteArray) (ek := ek161) (ev := ev161) (z := ByteArray.empty) (m := mPut ((⟨#[111, 114, 100, 101, 114]⟩ : ByteArray)) ((⟨#[102, 110]⟩ : ByteArray)) (mPut ((⟨#[99, 111, 109, 112, 111, 115, 105, 116, 101]⟩ : ByteArray)) ((⟨#[102, 102, 102, 110, 110, 110, 110, 110, 110, 110, 110]⟩ : ByteArray)) (mPut ((⟨#[111, 98, 115, 116, 114, 117, 99, 116, 105, 111, 110]⟩ : ByteArray)) ((⟨#[110, 110, 110]⟩ : ByteArray)) (mPut ((⟨#[118, 97, 108, 117, 101]⟩ : ByteArray)) ((⟨#[102, 110, 110, 110]⟩ : ByteArray)) (mPut ((⟨#[100, 105, 102, 102, 101, 114, 101, 110, 116]⟩ : ByteArray)) ((⟨#[102, 109, 102, 102, 109, 102]⟩ : ByteArray)) (mPut ((⟨#[101, 113, 117, 105, 118, 97, 108, 101, 110, 116]⟩ : ByteArray)) ((⟨#[102, 102, 109]⟩ : ByteArray)) (([] : List ((ByteArray × ByteArray)))))))))) (a := (⟨#[114, 111, 111, 116]⟩ : ByteArray)) (u := (⟨#[110, 110, 110]⟩ : ByteArray)) (id := 32) (b := mb4) mo161 (.inr rfl) rfl kk kk kk kk) ?_
  refine XL_cons rfl (X_putM (κ := ByteArray) (ν := ByteArray) (ek := ek161) (ev := ev161) (z := ByteArray.empty) (m := mPut ((⟨#[114, 111, 111, 116]⟩ : ByteArray)) ((⟨#[110, 110, 110]⟩ : ByteArray)) (mPut ((⟨#[111, 114, 100, 101, 114]⟩ : ByteArray)) ((⟨#[102, 110]⟩ : ByteArray)) (mPut ((⟨#[99, 111, 109, 112, 111, 115, 105, 116, 101]⟩ : ByteArray)) ((⟨#[102, 102, 102, 110, 110, 110, 110, 110, 110, 110, 110]⟩ : ByteArray)) (mPut ((⟨#[111, 98, 115, 116, 114, 117, 99, 116, 105, 111, 110]⟩ : ByteArray)) ((⟨#[110, 110, 110]⟩ : ByteArray)) (mPut ((⟨#[118, 97, 108, 117, 101]⟩ : ByteArray)) ((⟨#[102, 110, 110, 110]⟩ : ByteArray)) (mPut ((⟨#[100, 105, 102, 102, 101, 114, 101, 110, 116]⟩ : ByteArray)) ((⟨#[102, 109, 102, 102, 109, 102]⟩ : ByteArray)) (mPut ((⟨#[101, 113, 117, 105, 118, 97, 108, 101, 110, 116]⟩ : ByteArray)) ((⟨#[102, 102, 109]⟩ : ByteArray)) (([] : List ((ByteArray × ByteArray))))))))))) (a := (⟨#[97, 117, 116, 111, 109, 111, 114, 112, 104]⟩ : ByteArray)) (u := (⟨#[102, 109]⟩ : ByteArray)) (id := 32) (b := mb4) mo161 (.inr rfl) rfl kk kk kk kk) ?_
  refine XL_cons rfl (X_putM (κ := ByteArray) (ν := ByteArray) (ek := ek161) (ev := ev161) (z := ByteArray.empty) (m := mPut ((⟨#[97, 117, 116, 111, 109, 111, 114, 112, 104]⟩ : ByteArray)) ((⟨#[102, 109]⟩ : ByteArray)) (mPut ((⟨#[114, 111, 111, 116]⟩ : ByteArray)) ((⟨#[110, 110, 110]⟩ : ByteArray)) (mPut ((⟨#[111, 114, 100, 101, 114]⟩ : ByteArray)) ((⟨#[102, 110]⟩ : ByteArray)) (mPut ((⟨#[99, 111, 109, 112, 111, 115, 105, 116, 101]⟩ : ByteArray)) ((⟨#[102, 102, 102, 110, 110, 110, 110, 110, 110, 110, 110]⟩ : ByteArray)) (mPut ((⟨#[111, 98, 115, 116, 114, 117, 99, 116, 105, 111, 110]⟩ : ByteArray)) ((⟨#[110, 110, 110]⟩ : ByteArray)) (mPut ((⟨#[118, 97, 108, 117, 101]⟩ : ByteArray)) ((⟨#[102, 110, 110, 110]⟩ : ByteArray)) (mPut ((⟨#[100, 105, 102, 102, 101, 114, 101, 110, 116]⟩ : ByteArray)) ((⟨#[102, 109, 102, 102, 109, 102]⟩ : ByteArray)) (mPut ((⟨#[101, 113, 117, 105, 118, 97, 108, 101, 110, 116]⟩ : ByteArray)) ((⟨#[102, 102, 109]⟩ : ByteArray)) (([] : List ((ByteArray × ByteArray)))))))))))) (a := (⟨#[115, 111, 108, 117, 116, 105, 111, 110]⟩ : ByteArray)) (u := (⟨#[110, 110, 110]⟩ : ByteArray)) (id := 32) (b := mb4) mo161 (.inr rfl) rfl kk kk kk kk) ?_
  refine XR 2 ?_
  refine zD ?_
  subst hl2
  exact ⟨mb4, by kernel_rfl⟩
 intro mb4
 refine VS ?_
 refine YR 2 ?_
 refine L0 rfl rfl (Y0_lookM (κ := ByteArray) (ν := ByteArray) (ek := ek161) (ev := ev161) (z := ByteArray.empty) (m := l2) (a := kind1) (id := 32) (b := mb4) mo161 rfl kk kk kk) ?_
 refine YF ?_
 cases h
 exact zH VT
theorem cf_impl_integersIn : CfW Tryz.prog 160 := cfW Tryz.func160
theorem s_impl_integersIn {vs1 : ByteArray} {r : List Int} (h : r_impl_integersIn vs1 = some r) : zP Tryz.prog 160 [.c (.v (.string vs1))] (.ow 0) [(0, .arr 3 1 (r.map c3))] := by
 refine CtW [2] Tryz.func160 rfl rfl 30 ?_
 unfold r_impl_integersIn at h
 refine VS ?_
 refine L1 rfl rfl (Y1_nil (e := 3) 1 (by decide) (.inl rfl)) ?_
 refine YF ?_
 refine VS ?_
 refine L1 rfl rfl (Y1_bslice0 Tryz.underlying24 sz3 (by decide) rfl rfl) ?_
 refine YF ?_
 refine zF ?_
 obtain ⟨y2, hy2, h⟩ := zA h
 refine VS ?_
 refine YK 1 (s_strings_FieldsFunc_230 hy2) cf_strings_FieldsFunc ?_
 refine L0 rfl rfl (Y0_lenM (c := c9) (xs := y2) Tryz.underlying66 rfl kk) ?_
 refine YF ?_
 obtain ⟨qo6, hLo6, hko6⟩ := zA h
 refine V_toS (q := qo6) (S := fun o6 => ⟨bt 3 (.ow 64 :: bt 26 []), [(64, .arr 3 1 (o6.map c3))]⟩) (mb 30 8) [64] ?_ ?_
 ·refine zG (V_loop (fun n s => ∃ (t3 : Int) (l4 : List Int), s.keep (mb 30 7176) [80, 64] = (⟨bt 3 (.ow 64 :: bt 6 (.ow 80 :: I ((y2.length : Int)) :: I t3 :: bt 17 [])), [(80, .arr 9 1 (y2.map c9)), (64, .arr 3 1 (l4.map c3))]⟩ : St) ∧ r_impl_integersIn_L5 y2 n t3 l4 = some qo6) FU ⟨_, _,  kk, hLo6⟩ ?_)
  clear hLo6
  rintro n s ⟨t3, l4, hs, h⟩
  refine zV _ _ hs ?_
  clear hs
  cases n with
  | zero => cases h
  | succ n =>
   rw [r_impl_integersIn_L5] at h
   refine VE ?_
   refine zF ?_
   refine VC h (fun h => ?_) (fun h => ?_)
   ·refine zK ?_
    show V _ _ _ _
    refine zF ?_
    refine zG ?_
    obtain ⟨e8, he8, h⟩ := zA h
    obtain ⟨e9, he9, h⟩ := zA h
    refine VS ?_
    refine L0 rfl rfl (Y0_idxoM (c := c9) (xs := y2) (v := e8) (id := 80) (T := 9) (sz := 1) (n := t3) Tryz.underlying66 sz9 rfl kk kk kk he8) ?_
    refine L0 rfl rfl (Y0_loado1 (c := c9) (xs := y2) (v := e9) (id := 80) (sz := 1) (T := 9) (off := 0) (n := t3) (d := .v (.string e9)) (ds := []) sc9 rfl kk kk he9 kk) ?_
    refine YF ?_
    obtain ⟨y10, hy10, h⟩ := zA h
    refine VS ?_
    refine YK 1 (s_strconv_Atoi hy10) cf_strconv_Atoi ?_
    refine YF ?_
    refine zF ?_
    refine VS ?_
    refine YR 1 ?_
    refine L0 rfl rfl (Y0_erne (b := y10.2) Tryz.underlying91 rfl kk) ?_
    refine YF ?_
    refine VC h (fun h => ?_) (fun h => ?_)
    ·refine VS ?_
     refine L1 rfl rfl (Y1_bslice0 Tryz.underlying24 sz3 (by decide) rfl rfl) ?_
     refine YF ?_
     refine zH ?_
     obtain rfl := zB h
     have h := hko6
     obtain rfl := zB h
     exact VT
    ·refine zK ?_
     show V _ _ _ _
     obtain ⟨u12, hu12, h⟩ := zA h
     refine zW ?_
     refine YR 2 ?_
     refine L1 rfl rfl (Y1_bslice (z := zv3) (els := [y10.1].map c3) Tryz.underlying24 iz3 rfl (by decide) rfl kk rfl (by simp [c3]) (by decide) (by decide)) ?_
     refine XL_cons rfl (X_appendM (c := c3) (xs := l4) (ys := [y10.1]) (id := 64) (z := zv3) rfl rfl Tryz.underlying24 izb3 rfl kk kk kk (fun _ => rfl) (by simp) (room_some hu12) (by decide)) ?_
     refine YF ?_
     show V _ _ _ _
     obtain ⟨t13, ht13, h⟩ := zU h
     refine V_reg (mb 30 7176) [80, 64] (s1 := ⟨bt 3 (.ow 64 :: bt 6 (.ow 80 :: I ((y2.length : Int)) :: I t13 :: bt 17 [])), [(80, .arr 9 1 (y2.map c9)), (64, .arr 3 1 ((l4 ++ ([y10.1])).map c3))]⟩) ?_ ?_
     ·refine XR 2 ?_
      refine zD ?_
      subst ht13
      kernel_rfl
     exact ⟨n, Nat.lt_succ_self n, _, _,  kk, h⟩
   ·refine V_exit ?_
    obtain rfl := zB h
    exact ⟨_, rfl, kk⟩
 rintro o6 rfl
 have h := hko6
 clear hko6
 show V _ _ _ _
 refine VE ?_
 cases h
 exact zH VT
theorem cf_impl_areNumbers : CfW Tryz.prog 166 := cfW Tryz.func166
theorem s_impl_areNumbers {list1 : List Int} {r : Bool} (h : r_impl_areNumbers list1 = some r) : zP Tryz.prog 166 [.c (.sl (list1.map c3))] (Bo r) [] := by
 refine CtW [2] Tryz.func166 rfl rfl 18 ?_
 unfold r_impl_areNumbers at h
 refine VE ?_
 refine zF ?_
 refine VS ?_
 refine YR 1 ?_
 refine L0 rfl rfl (Y0_lenM (c := c3) (xs := list1) Tryz.underlying24 rfl kk) ?_
 refine YF ?_
 obtain ⟨qo4, hLo4, hko4⟩ := zA h
 refine V_toS (q := qo4) (S := fun o4 => ⟨bt 18 [], []⟩) (mb 18 0) [] ?_ ?_
 ·refine zG (V_loop (fun n s => ∃ (t2 : Int), s.keep (mb 18 224) [] = (⟨bt 5 (.c (.sl (list1.map c3)) :: I ((list1.length : Int)) :: I t2 :: bt 10 []), []⟩ : St) ∧ r_impl_areNumbers_L3 list1 n t2 = some qo4) FU ⟨_,  kk, hLo4⟩ ?_)
  clear hLo4
  rintro n s ⟨t2, hs, h⟩
  refine zV _ _ hs ?_
  clear hs
  cases n with
  | zero => cases h
  | succ n =>
   rw [r_impl_areNumbers_L3] at h
   refine VE ?_
   refine zF ?_
   refine VC h (fun h => ?_) (fun h => ?_)
   ·refine zK ?_
    show V _ _ _ _
    refine zF ?_
    refine zG ?_
    obtain ⟨e6, he6, h⟩ := zA h
    refine VS ?_
    refine L0 rfl rfl (zM (c := c3) (xs := list1) (v := e6) (n := t2) Tryz.underlying24 sz3 rfl kk kk he6) ?_
    refine YF ?_
    refine zO (mb 18 65760) [] (s1 := ⟨bt 5 (.c (.sl (list1.map c3)) :: I ((list1.length : Int)) :: I t2 :: bt 8 (Bo (bif (ltI e6 (-1000000)) then true else (ltI 1000000 e6)) :: .bot :: [])), []⟩) ?_ ?_
    ·refine YR 3 ?_
     refine zJ (ltI e6 (-1000000)) (fun hc7 => ?_) (fun hc7 => ?_)
     ·refine YQ hc7 ?_
      exact YE (by rw [hc7]; kernel_rfl)
     ·refine YQ hc7 ?_
      exact YE (by rw [hc7]; kernel_rfl)
    refine VC h (fun h => ?_) (fun h => ?_)
    ·refine VE ?_
     refine zH ?_
     obtain rfl := zB h
     have h := hko4
     obtain rfl := zB h
     exact VT
    ·refine zK ?_
     show V _ _ _ _
     obtain ⟨t9, ht9, h⟩ := zU h
     refine V_reg (mb 18 224) [] (s1 := ⟨bt 5 (.c (.sl (list1.map c3)) :: I ((list1.length : Int)) :: I t9 :: bt 10 []), []⟩) ?_ ?_
     ·refine XR 2 ?_
      refine zD ?_
      subst ht9
      kernel_rfl
     exact ⟨n, Nat.lt_succ_self n, _,  kk, h⟩
   ·refine V_exit ?_
    obtain rfl := zB h
    exact ⟨_, rfl, kk⟩
 rintro o4 rfl
 have h := hko4
 clear hko4
 show V _ _ _ _
 refine VE ?_
 cases h
 exact zH VT
theorem cf_impl_IsForm : CfW Tryz.prog 161 := cfW Tryz.func161
theorem s_impl_IsForm {f1 : (Int × Int × Int)} {r : Bool} (h : r_impl_IsForm f1 = some r) : zP Tryz.prog 161 [.ag [Ti f1.1, Ti f1.2.1, Ti f1.2.2]] (Bo r) [] := by
 refine CtW [2] Tryz.func161 rfl rfl 11 ?_
 unfold r_impl_IsForm at h
 refine VE ?_
 obtain ⟨y2, hy2, h⟩ := zA h
 refine VS ?_
 refine YR 6 ?_
 refine L1 rfl rfl (Y1_bslice (z := zv3) (els := [f1.1, f1.2.1, f1.2.2].map c3) Tryz.underlying24 iz3 rfl (by decide) rfl kk rfl (by simp [c3]) (by decide) (by decide)) ?_
 refine L1 rfl rfl (Y1_callS (s_impl_areNumbers hy2) cf_impl_areNumbers rfl kk rfl rfl) ?_
 refine YF ?_
 cases h
 exact zH VT
theorem cf_impl_formText : CfW Tryz.prog 162 := cfW Tryz.func162
theorem s_impl_formText {f1 : (Int × Int × Int)} {r : ByteArray} (h : r_impl_formText f1 = some r) : zP Tryz.prog 162 [.ag [Ti f1.1, Ti f1.2.1, Ti f1.2.2]] (.c (.v (.string r))) [] := by
 refine CtW [2] Tryz.func162 rfl rfl 18 ?_
 unfold r_impl_formText at h
 refine VE ?_
 obtain ⟨y2, hy2, h⟩ := zA h
 obtain ⟨u3, hu3, h⟩ := zA h
 obtain ⟨u4, hu4, h⟩ := zA h
 obtain ⟨y5, hy5, h⟩ := zA h
 obtain ⟨u6, hu6, h⟩ := zA h
 obtain ⟨u7, hu7, h⟩ := zA h
 obtain ⟨y8, hy8, h⟩ := zA h
 obtain ⟨u9, hu9, h⟩ := zA h
 obtain ⟨u10, hu10, h⟩ := zA h
 refine VDS [0, 1, 3, 7, 15, 0, 32, 103, 255, 511, 0, 1024, 3303, 8191, 16383, 32767] 16 (cdm 16 [10496000, 10496001, 10496005, 44083221, 44083285, 10486442, 10487466, 10491541, 44062037, 44127573, 699050, 1747626, 5920405, 22369621, 89478485, 357913941]) ?_
 refine EK 2 (s_strconv_Itoa hy2) cf_strconv_Itoa ?_
 refine E0 3 rfl rfl (Y0_cat (a := (⟨#[40]⟩ : ByteArray)) (b := y2) rfl kk kk (catR_some hu3)) ?_
 refine E0 4 rfl rfl (Y0_cat (a := ((⟨#[40]⟩ : ByteArray)) ++ y2) (b := (⟨#[44]⟩ : ByteArray)) rfl kk kk (catR_some hu4)) ?_
 refine EK 2 (s_strconv_Itoa hy5) cf_strconv_Itoa ?_
 refine E0 8 rfl rfl (Y0_cat (a := (((⟨#[40]⟩ : ByteArray)) ++ y2) ++ ((⟨#[44]⟩ : ByteArray))) (b := y5) rfl kk kk (catR_some hu6)) ?_
 refine E0 9 rfl rfl (Y0_cat (a := ((((⟨#[40]⟩ : ByteArray)) ++ y2) ++ ((⟨#[44]⟩ : ByteArray))) ++ y5) (b := (⟨#[44]⟩ : ByteArray)) rfl kk kk (catR_some hu7)) ?_
 refine EK 2 (s_strconv_Itoa hy8) cf_strconv_Itoa ?_
 refine E0 13 rfl rfl (Y0_cat (a := (((((⟨#[40]⟩ : ByteArray)) ++ y2) ++ ((⟨#[44]⟩ : ByteArray))) ++ y5) ++ ((⟨#[44]⟩ : ByteArray))) (b := y8) rfl kk kk (catR_some hu9)) ?_
 refine E0 14 rfl rfl (Y0_cat (a := ((((((⟨#[40]⟩ : ByteArray)) ++ y2) ++ ((⟨#[44]⟩ : ByteArray))) ++ y5) ++ ((⟨#[44]⟩ : ByteArray))) ++ y8) (b := (⟨#[41]⟩ : ByteArray)) rfl kk kk (catR_some hu10)) ?_
 refine EF 1 ?_
 cases h
 exact zH VT
theorem cf_impl_ParseForm : CfW Tryz.prog 73 := cfW Tryz.func73
theorem s_impl_ParseForm {vs1 : ByteArray} {r : (((Int × Int × Int)) × Bool)} (h : r_impl_ParseForm vs1 = some r) : zP Tryz.prog 73 [.c (.v (.string vs1))] (.tc (.ag [Ti r.1.1, Ti r.1.2.1, Ti r.1.2.2]) (.tc (Bo r.2) .tn)) [] := by
 refine zT (rs := [.w 2 3, .t 3]) (vs := [.cell 2 38, .tmp 3]) Tryz.func73 rfl rfl (.cons ⟨rfl, wd38⟩ (.cons rfl FitsL.nil)) (by decide) 33 rfl ?_
 unfold r_impl_ParseForm at h
 refine VE ?_
 obtain ⟨y2, hy2, h⟩ := zA h
 refine VS ?_
 refine YK 1 (s_impl_integersIn hy2) cf_impl_integersIn ?_
 refine YF ?_
 refine zF ?_
 refine VS ?_
 refine YR 1 ?_
 refine L0 rfl rfl (Y0_lenM (c := c3) (xs := y2) Tryz.underlying24 rfl kk) ?_
 refine YF ?_
 refine VC h (fun h => ?_) (fun h => ?_)
 ·refine VS ?_
  refine L0 rfl rfl (Y0_build (cs := [Ti 0, Ti 0, Ti 0]) pl38 bt38 rfl rfl kk) ?_
  refine YF ?_
  cases h
  exact zH VT
 ·refine zK ?_
  show V _ _ _ _
  obtain ⟨e4, he4, h⟩ := zA h
  obtain ⟨e5, he5, h⟩ := zA h
  obtain ⟨e6, he6, h⟩ := zA h
  obtain ⟨e7, he7, h⟩ := zA h
  obtain ⟨e8, he8, h⟩ := zA h
  obtain ⟨e9, he9, h⟩ := zA h
  refine VDS [0, 1, 3, 0, 8, 24, 0, 64, 192, 511, 0, 2047] 11 (cdm 11 [2271872, 2271873, 2271877, 2269226, 2269290, 2269546, 2099882, 2103978, 2120362, 2184533, 699050]) ?_
  refine ER 1 ?_
  refine E0 1 rfl rfl (Y0_idxoM (c := c3) (xs := y2) (v := e4) (id := 56) (T := 3) (sz := 1) (n := 0) Tryz.underlying24 sz3 rfl kk kk kk he4) ?_
  refine E0 2 rfl rfl (Y0_loado1 (c := c3) (xs := y2) (v := e5) (id := 56) (sz := 1) (T := 3) (off := 0) (n := 0) (d := Ti e5) (ds := []) sc3 rfl kk kk he5 kk) ?_
  refine ER 1 ?_
  refine E0 4 rfl rfl (Y0_idxoM (c := c3) (xs := y2) (v := e6) (id := 56) (T := 3) (sz := 1) (n := 1) Tryz.underlying24 sz3 rfl kk kk kk he6) ?_
  refine E0 5 rfl rfl (Y0_loado1 (c := c3) (xs := y2) (v := e7) (id := 56) (sz := 1) (T := 3) (off := 0) (n := 1) (d := Ti e7) (ds := []) sc3 rfl kk kk he7 kk) ?_
  refine ER 1 ?_
  refine E0 7 rfl rfl (Y0_idxoM (c := c3) (xs := y2) (v := e8) (id := 56) (T := 3) (sz := 1) (n := 2) Tryz.underlying24 sz3 rfl kk kk kk he8) ?_
  refine E0 8 rfl rfl (Y0_loado1 (c := c3) (xs := y2) (v := e9) (id := 56) (sz := 1) (T := 3) (off := 0) (n := 2) (d := Ti e9) (ds := []) sc3 rfl kk kk he9 kk) ?_
  refine E0 9 rfl rfl (Y0_build (cs := [Ti e5, Ti e7, Ti e9]) pl38 bt38 rfl rfl kk) ?_
  refine EF 1 ?_
  refine zF ?_
  obtain ⟨y10, hy10, h⟩ := zA h
  obtain ⟨b13, hb13, h⟩ := zA h
  refine zO (mb 33 1073741860) [40, 16] (s1 := ⟨.bot :: .bot :: .pt 16 0 :: .bot :: .bot :: .pt 40 0 :: bt 24 (Bo b13 :: .bot :: .bot :: []), [(40, .box [Ti e5, Ti e7, Ti e9]), (16, .box [Ti 0, Ti 0, Ti 0])]⟩) ?_ ?_
  ·refine YK 1 (s_impl_IsForm hy10) cf_impl_IsForm ?_
   refine YR 2 ?_
   refine zJ (!y10) (fun hc11 => ?_) (fun hc11 => ?_)
   ·have hb13 := zB (zN hb13 hc11)
    refine YQ hc11 ?_
    exact YE (by rw [← hb13]; (try rw [hc11]); kernel_rfl)
   ·have hb13 := zC hb13 hc11
    obtain ⟨y12, hy12, hb13⟩ := zA hb13
    have hb13 := zB hb13
    refine YQ hc11 ?_
    refine YK 1 (s_impl_formText hy12) cf_impl_formText ?_
    exact YE (by rw [← hb13]; (try rw [hc11]); kernel_rfl)
  refine VC h (fun h => ?_) (fun h => ?_)
  ·refine VS ?_
   refine L0 rfl rfl (Y0_build (cs := [Ti 0, Ti 0, Ti 0]) pl38 bt38 rfl rfl kk) ?_
   refine YF ?_
   cases h
   exact zH VT
  ·refine zK ?_
   show V _ _ _ _
   refine VE ?_
   cases h
   exact zH VT
theorem cf_impl_IsMatrix : CfW Tryz.prog 163 := cfW Tryz.func163
theorem s_impl_IsMatrix {vm1 : (Int × Int × Int × Int)} {r : Bool} (h : r_impl_IsMatrix vm1 = some r) : zP Tryz.prog 163 [.ag [Ti vm1.1, Ti vm1.2.1, Ti vm1.2.2.1, Ti vm1.2.2.2]] (Bo r) [] := by
 refine CtW [2] Tryz.func163 rfl rfl 13 ?_
 unfold r_impl_IsMatrix at h
 refine VE ?_
 obtain ⟨y2, hy2, h⟩ := zA h
 refine VS ?_
 refine YR 8 ?_
 refine L1 rfl rfl (Y1_bslice (z := zv3) (els := [vm1.1, vm1.2.1, vm1.2.2.1, vm1.2.2.2].map c3) Tryz.underlying24 iz3 rfl (by decide) rfl kk rfl (by simp [c3]) (by decide) (by decide)) ?_
 refine L1 rfl rfl (Y1_callS (s_impl_areNumbers hy2) cf_impl_areNumbers rfl kk rfl rfl) ?_
 refine YF ?_
 cases h
 exact zH VT
theorem cf_impl_matrixText : CfW Tryz.prog 164 := cfW Tryz.func164
theorem s_impl_matrixText {vm1 : (Int × Int × Int × Int)} {r : ByteArray} (h : r_impl_matrixText vm1 = some r) : zP Tryz.prog 164 [.ag [Ti vm1.1, Ti vm1.2.1, Ti vm1.2.2.1, Ti vm1.2.2.2]] (.c (.v (.string r))) [] := by
 refine CtW [2] Tryz.func164 rfl rfl 23 ?_
 unfold r_impl_matrixText at h
 refine VE ?_
 obtain ⟨y2, hy2, h⟩ := zA h
 obtain ⟨u3, hu3, h⟩ := zA h
 obtain ⟨u4, hu4, h⟩ := zA h
 obtain ⟨y5, hy5, h⟩ := zA h
 obtain ⟨u6, hu6, h⟩ := zA h
 obtain ⟨u7, hu7, h⟩ := zA h
 obtain ⟨y8, hy8, h⟩ := zA h
 obtain ⟨u9, hu9, h⟩ := zA h
 obtain ⟨u10, hu10, h⟩ := zA h
 obtain ⟨y11, hy11, h⟩ := zA h
 obtain ⟨u12, hu12, h⟩ := zA h
 obtain ⟨u13, hu13, h⟩ := zA h
 refine VDS [0, 1, 3, 7, 15, 0, 32, 103, 255, 511, 0, 1024, 3303, 8191, 16383, 0, 32768, 105703, 262143, 524287, 1048575] 21 (cdm 21 [10747914240, 10747914241, 10747914245, 45141239829, 45141239893, 10747904682, 10747905706, 10747909781, 45141218645, 45141284181, 10738117290, 10739165866, 10743338645, 45119526229, 45186635093, 715827882, 1789569706, 6062495381, 22906492245, 91625968981, 366503875925]) ?_
 refine EK 2 (s_strconv_Itoa hy2) cf_strconv_Itoa ?_
 refine E0 3 rfl rfl (Y0_cat (a := (⟨#[91]⟩ : ByteArray)) (b := y2) rfl kk kk (catR_some hu3)) ?_
 refine E0 4 rfl rfl (Y0_cat (a := ((⟨#[91]⟩ : ByteArray)) ++ y2) (b := (⟨#[44]⟩ : ByteArray)) rfl kk kk (catR_some hu4)) ?_
 refine EK 2 (s_strconv_Itoa hy5) cf_strconv_Itoa ?_
 refine E0 8 rfl rfl (Y0_cat (a := (((⟨#[91]⟩ : ByteArray)) ++ y2) ++ ((⟨#[44]⟩ : ByteArray))) (b := y5) rfl kk kk (catR_some hu6)) ?_
 refine E0 9 rfl rfl (Y0_cat (a := ((((⟨#[91]⟩ : ByteArray)) ++ y2) ++ ((⟨#[44]⟩ : ByteArray))) ++ y5) (b := (⟨#[59]⟩ : ByteArray)) rfl kk kk (catR_some hu7)) ?_
 refine EK 2 (s_strconv_Itoa hy8) cf_strconv_Itoa ?_
 refine E0 13 rfl rfl (Y0_cat (a := (((((⟨#[91]⟩ : ByteArray)) ++ y2) ++ ((⟨#[44]⟩ : ByteArray))) ++ y5) ++ ((⟨#[59]⟩ : ByteArray))) (b := y8) rfl kk kk (catR_some hu9)) ?_
 refine E0 14 rfl rfl (Y0_cat (a := ((((((⟨#[91]⟩ : ByteArray)) ++ y2) ++ ((⟨#[44]⟩ : ByteArray))) ++ y5) ++ ((⟨#[59]⟩ : ByteArray))) ++ y8) (b := (⟨#[44]⟩ : ByteArray)) rfl kk kk (catR_some hu10)) ?_
 refine EK 2 (s_strconv_Itoa hy11) cf_strconv_Itoa ?_
 refine E0 18 rfl rfl (Y0_cat (a := (((((((⟨#[91]⟩ : ByteArray)) ++ y2) ++ ((⟨#[44]⟩ : ByteArray))) ++ y5) ++ ((⟨#[59]⟩ : ByteArray))) ++ y8) ++ ((⟨#[44]⟩ : ByteArray))) (b := y11) rfl kk kk (catR_some hu12)) ?_
 refine E0 19 rfl rfl (Y0_cat (a := ((((((((⟨#[91]⟩ : ByteArray)) ++ y2) ++ ((⟨#[44]⟩ : ByteArray))) ++ y5) ++ ((⟨#[59]⟩ : ByteArray))) ++ y8) ++ ((⟨#[44]⟩ : ByteArray))) ++ y11) (b := (⟨#[93]⟩ : ByteArray)) rfl kk kk (catR_some hu13)) ?_
 refine EF 1 ?_
 cases h
 exact zH VT
theorem cf_impl_ParseMatrix : CfW Tryz.prog 74 := cfW Tryz.func74
theorem s_impl_ParseMatrix {vs1 : ByteArray} {r : (((Int × Int × Int × Int)) × Bool)} (h : r_impl_ParseMatrix vs1 = some r) : zP Tryz.prog 74 [.c (.v (.string vs1))] (.tc (.ag [Ti r.1.1, Ti r.1.2.1, Ti r.1.2.2.1, Ti r.1.2.2.2]) (.tc (Bo r.2) .tn)) [] := by
 refine zT (rs := [.w 2 4, .t 3]) (vs := [.cell 2 109, .tmp 3]) Tryz.func74 rfl rfl (.cons ⟨rfl, wd109⟩ (.cons rfl FitsL.nil)) (by decide) 36 rfl ?_
 unfold r_impl_ParseMatrix at h
 refine VE ?_
 obtain ⟨y2, hy2, h⟩ := zA h
 refine VS ?_
 refine YK 1 (s_impl_integersIn hy2) cf_impl_integersIn ?_
 refine YF ?_
 refine zF ?_
 refine VS ?_
 refine YR 1 ?_
 refine L0 rfl rfl (Y0_lenM (c := c3) (xs := y2) Tryz.underlying24 rfl kk) ?_
 refine YF ?_
 refine VC h (fun h => ?_) (fun h => ?_)
 ·refine VS ?_
  refine L0 rfl rfl (Y0_build (cs := [Ti 0, Ti 0, Ti 0, Ti 0]) pl109 bt109 rfl rfl kk) ?_
  refine YF ?_
  cases h
  exact zH VT
 ·refine zK ?_
  show V _ _ _ _
  obtain ⟨e4, he4, h⟩ := zA h
  obtain ⟨e5, he5, h⟩ := zA h
  obtain ⟨e6, he6, h⟩ := zA h
  obtain ⟨e7, he7, h⟩ := zA h
  obtain ⟨e8, he8, h⟩ := zA h
  obtain ⟨e9, he9, h⟩ := zA h
  obtain ⟨e10, he10, h⟩ := zA h
  obtain ⟨e11, he11, h⟩ := zA h
  refine VDS [0, 1, 3, 0, 8, 24, 0, 64, 192, 0, 512, 1536, 4095, 0, 16383] 14 (cdm 14 [145402496, 145402497, 145402501, 145399850, 145399914, 145400170, 145230506, 145234602, 145250986, 134392490, 134654634, 135703210, 139810133, 44739242]) ?_
  refine ER 1 ?_
  refine E0 1 rfl rfl (Y0_idxoM (c := c3) (xs := y2) (v := e4) (id := 56) (T := 3) (sz := 1) (n := 0) Tryz.underlying24 sz3 rfl kk kk kk he4) ?_
  refine E0 2 rfl rfl (Y0_loado1 (c := c3) (xs := y2) (v := e5) (id := 56) (sz := 1) (T := 3) (off := 0) (n := 0) (d := Ti e5) (ds := []) sc3 rfl kk kk he5 kk) ?_
  refine ER 1 ?_
  refine E0 4 rfl rfl (Y0_idxoM (c := c3) (xs := y2) (v := e6) (id := 56) (T := 3) (sz := 1) (n := 1) Tryz.underlying24 sz3 rfl kk kk kk he6) ?_
  refine E0 5 rfl rfl (Y0_loado1 (c := c3) (xs := y2) (v := e7) (id := 56) (sz := 1) (T := 3) (off := 0) (n := 1) (d := Ti e7) (ds := []) sc3 rfl kk kk he7 kk) ?_
  refine ER 1 ?_
  refine E0 7 rfl rfl (Y0_idxoM (c := c3) (xs := y2) (v := e8) (id := 56) (T := 3) (sz := 1) (n := 2) Tryz.underlying24 sz3 rfl kk kk kk he8) ?_
  refine E0 8 rfl rfl (Y0_loado1 (c := c3) (xs := y2) (v := e9) (id := 56) (sz := 1) (T := 3) (off := 0) (n := 2) (d := Ti e9) (ds := []) sc3 rfl kk kk he9 kk) ?_
  refine ER 1 ?_
  refine E0 10 rfl rfl (Y0_idxoM (c := c3) (xs := y2) (v := e10) (id := 56) (T := 3) (sz := 1) (n := 3) Tryz.underlying24 sz3 rfl kk kk kk he10) ?_
  refine E0 11 rfl rfl (Y0_loado1 (c := c3) (xs := y2) (v := e11) (id := 56) (sz := 1) (T := 3) (off := 0) (n := 3) (d := Ti e11) (ds := []) sc3 rfl kk kk he11 kk) ?_
  refine E0 12 rfl rfl (Y0_build (cs := [Ti e5, Ti e7, Ti e9, Ti e11]) pl109 bt109 rfl rfl kk) ?_
  refine EF 1 ?_
  refine zF ?_
  obtain ⟨y12, hy12, h⟩ := zA h
  obtain ⟨b15, hb15, h⟩ := zA h
  refine zO (mb 36 8589934628) [40, 16] (s1 := ⟨.bot :: .bot :: .pt 16 0 :: .bot :: .bot :: .pt 40 0 :: bt 27 (Bo b15 :: .bot :: .bot :: []), [(40, .box [Ti e5, Ti e7, Ti e9, Ti e11]), (16, .box [Ti 0, Ti 0, Ti 0, Ti 0])]⟩) ?_ ?_
  ·refine YK 1 (s_impl_IsMatrix hy12) cf_impl_IsMatrix ?_
   refine YR 2 ?_
   refine zJ (!y12) (fun hc13 => ?_) (fun hc13 => ?_)
   ·have hb15 := zB (zN hb15 hc13)
    refine YQ hc13 ?_
    exact YE (by rw [← hb15]; (try rw [hc13]); kernel_rfl)
   ·have hb15 := zC hb15 hc13
    obtain ⟨y14, hy14, hb15⟩ := zA hb15
    have hb15 := zB hb15
    refine YQ hc13 ?_
    refine YK 1 (s_impl_matrixText hy14) cf_impl_matrixText ?_
    exact YE (by rw [← hb15]; (try rw [hc13]); kernel_rfl)
  refine VC h (fun h => ?_) (fun h => ?_)
  ·refine VS ?_
   refine L0 rfl rfl (Y0_build (cs := [Ti 0, Ti 0, Ti 0, Ti 0]) pl109 bt109 rfl rfl kk) ?_
   refine YF ?_
   cases h
   exact zH VT
  ·refine zK ?_
   show V _ _ _ _
   refine VE ?_
   cases h
   exact zH VT
theorem cf_impl_numberOf : CfW Tryz.prog 75 := cfW Tryz.func75
theorem s_impl_numberOf {w1 : ByteArray} {r : (Int × Bool)} (h : r_impl_numberOf w1 = some r) : zP Tryz.prog 75 [.c (.v (.string w1))] (.tc (I r.1) (.tc (Bo r.2) .tn)) [] := by
 refine CtW [2, 3] Tryz.func75 rfl rfl 25 ?_
 unfold r_impl_numberOf at h
 refine VE ?_
 obtain ⟨y2, hy2, h⟩ := zA h
 refine VS ?_
 refine YK 1 (s_strconv_Atoi hy2) cf_strconv_Atoi ?_
 refine YF ?_
 obtain ⟨b5, hb5, h⟩ := zA h
 obtain ⟨b8, hb8, h⟩ := zA h
 refine zO (mb 25 12) [] (s1 := ⟨.bot :: .bot :: I y2.1 :: Bo b8 :: bt 21 [], []⟩) ?_ ?_
 ·refine YR 2 ?_
  refine L0 rfl rfl (Y0_ereq (b := y2.2) Tryz.underlying91 rfl kk) ?_
  refine YR 1 ?_
  refine zJ y2.2 (fun hc3 => ?_) (fun hc3 => ?_)
  ·have hb5 := zN hb5 hc3
   obtain ⟨y4, hy4, hb5⟩ := zA hb5
   have hb5 := zB hb5
   refine YQ hc3 ?_
   refine YR 1 ?_
   refine YT (X_of_Y1 rfl (Y1_bslice (z := zv3) (els := [y2.1].map c3) Tryz.underlying24 iz3 rfl (by decide) rfl kk rfl (by simp [c3]) (by decide) (by decide))) ?_
   refine YT (X_of_Y1 rfl (Y1_callS (s_impl_areNumbers hy4) cf_impl_areNumbers rfl kk rfl rfl)) ?_
   refine YR 2 ?_
   refine zJ b5 (fun hc6 => ?_) (fun hc6 => ?_)
   ·have hb8 := zN hb8 hc6
    obtain ⟨y7, hy7, hb8⟩ := zA hb8
    have hb8 := zB hb8
    refine YQ hc6 ?_ (by rw [← hb5]; (try rw [← hb8]); (try rw [hc3]); kernel_rfl)
    refine YK 1 (s_strconv_Itoa hy7) cf_strconv_Itoa ?_
    exact YE (by rw [← hb8]; (try rw [hc3]); (try rw [hc6]); kernel_rfl)
   ·have hb8 := zB (zC hb8 hc6)
    refine YQ hc6 ?_ (by rw [← hb5]; (try rw [← hb8]); (try rw [hc3]); kernel_rfl)
    exact YE (by rw [← hb8]; (try rw [hc3]); (try rw [hc6]); kernel_rfl)
  ·have hb5 := zB (zC hb5 hc3)
   refine YQ hc3 ?_
   refine YR 5 ?_
   subst hb5
   have hc6 : false = false := rfl
   have hb8 := zB (zC hb8 hc6)
   exact YE (by rw [← hb8]; (try rw [hc3]); kernel_rfl)
 cases h
 exact zH VT
theorem cf_impl_partsOf : CfW Tryz.prog 43 := cfW Tryz.func43
theorem s_impl_partsOf {vs1 : ByteArray} {r : (((ByteArray × (List ((Int × Int × Int))) × (List ((Int × Int × Int × Int))) × (List Int))) × Bool)} (h : r_impl_partsOf vs1 = some r) : zP Tryz.prog 43 [.c (.v (.string vs1))] (.tc (.ag [.v (.string r.1.1), .sl (r.1.2.1.map c38), .sl (r.1.2.2.1.map c109), .sl (r.1.2.2.2.map c3)]) (.tc (Bo r.2) .tn)) [] := by
 refine zT (rs := [.w 2 4, .t 3]) (vs := [.cell 2 62, .tmp 3]) Tryz.func43 rfl rfl (.cons ⟨rfl, wd62⟩ (.cons rfl FitsL.nil)) (by decide) 92 rfl ?_
 unfold r_impl_partsOf at h
 refine VE ?_
 obtain ⟨y2, hy2, h⟩ := zA h
 refine VS ?_
 refine YK 1 (s_strings_Split hy2) cf_strings_Split ?_
 refine YF ?_
 obtain ⟨e3, he3, h⟩ := zA h
 obtain ⟨e4, he4, h⟩ := zA h
 refine VS ?_
 refine YR 1 ?_
 refine L0 rfl rfl (Y0_idxoM (c := c9) (xs := y2) (v := e3) (id := 136) (T := 9) (sz := 1) (n := 0) Tryz.underlying66 sz9 rfl kk kk kk he3) ?_
 refine L0 rfl rfl (Y0_loado1 (c := c9) (xs := y2) (v := e4) (id := 136) (sz := 1) (T := 9) (off := 0) (n := 0) (d := .v (.string e4)) (ds := []) sc9 rfl kk kk he4 kk) ?_
 refine L0 rfl rfl (Y0_build (cs := [.v (.string e4), .v (.slice none 0 0), .v (.slice none 0 0), .v (.slice none 0 0)]) pl62 bt62 rfl rfl kk) ?_
 refine YF ?_
 obtain ⟨y5, hy5, h⟩ := zA h
 refine VS ?_
 refine YK 2 (s_impl_shapeOf hy5) cf_impl_shapeOf ?_
 refine YF ?_
 refine zF ?_
 obtain ⟨t7, ht7, h⟩ := zA h
 have ht7 := zB ht7
 refine zO (mb 92 17179869300) [40, 136, 16] (s1 := ⟨.bot :: .bot :: .pt 16 0 :: .bot :: .ow 136 :: .pt 40 0 :: .c (.v (.string y5)) :: bt 27 (Bo t7 :: bt 57 []), [(40, .box [.v (.string e4), .v (.slice none 0 0), .v (.slice none 0 0), .v (.slice none 0 0)]), (136, .arr 9 1 (y2.map c9)), (16, .box [.v (.string ByteArray.empty), .v (.slice none 0 0), .v (.slice none 0 0), .v (.slice none 0 0)])]⟩) ?_ ?_
 ·refine YR 3 ?_
  refine zJ (y5.toList == ((⟨#[]⟩ : ByteArray)).toList) (fun hc6 => ?_) (fun hc6 => ?_)
  ·refine YQ hc6 ?_
   exact YE (by rw [← ht7]; (try rw [hc6]); kernel_rfl)
  ·refine YQ hc6 ?_
   refine YR 1 ?_
   refine YT (X_of_Y0 rfl (Y0_lenM (c := c9) (xs := y2) Tryz.underlying66 rfl kk)) ?_
   exact YE (by rw [← ht7]; (try rw [hc6]); kernel_rfl)
 refine VC h (fun h => ?_) (fun h => ?_)
 ·refine VS ?_
  refine L0 rfl rfl (Y0_build (cs := [.v (.string ByteArray.empty), .v (.slice none 0 0), .v (.slice none 0 0), .v (.slice none 0 0)]) pl62 bt62 rfl rfl kk) ?_
  refine YF ?_
  refine V_nilSl 16 1 (cs := [.v (.string ByteArray.empty), .v (.slice none 0 0), .v (.slice none 0 0), .v (.slice none 0 0)]) kk kk rfl ?_
  refine V_nilSl 16 2 (cs := [.v (.string ByteArray.empty), .sl ((([] : List ((Int × Int × Int)))).map c38), .v (.slice none 0 0), .v (.slice none 0 0)]) kk kk rfl ?_
  refine V_nilSl 16 3 (cs := [.v (.string ByteArray.empty), .sl ((([] : List ((Int × Int × Int)))).map c38), .sl ((([] : List ((Int × Int × Int × Int)))).map c109), .v (.slice none 0 0)]) kk kk rfl ?_
  cases h
  exact zH VT
 ·refine zK ?_
  show V _ _ _ _
  refine zF ?_
  obtain ⟨u9, hu9, h⟩ := zA h
  obtain ⟨t10, ht10, h⟩ := zU h
  refine zO (mb 92 962072674404) [40, 16] (s1 := ⟨.bot :: .bot :: .pt 16 0 :: .bot :: .bot :: .pt 40 0 :: .c (.v (.string y5)) :: bt 30 (.c (.sl ((subl y2 1 ((y2.length : Int))).map c9)) :: I t10 :: I 0 :: bt 52 []), [(40, .box [.v (.string e4), .v (.slice none 0 0), .v (.slice none 0 0), .v (.slice none 0 0)]), (16, .box [.v (.string ByteArray.empty), .v (.slice none 0 0), .v (.slice none 0 0), .v (.slice none 0 0)])]⟩) ?_ ?_
  ·refine YR 1 ?_
   refine XL_freeze 136 (T := 9) (sz := 1) (els := y2.map c9) kk rfl ?_
   refine L0 rfl rfl (Y0_slice (c := c9) (xs := y2) (l := 1) (h := (y2.length : Int)) Tryz.underlying66 sz9 (fun _ => rfl) rfl kk (fun y hy => by cases hy; exact ⟨.i64, kk⟩) (fun hh => by cases hh) (fun y hy => by cases hy) (fun _ => rfl) (slc_some hu9)) ?_
   refine L0 rfl rfl (Y0_lenM (c := c9) (xs := subl y2 1 ((y2.length : Int))) Tryz.underlying66 rfl kk) ?_
   refine YR 1 ?_
   refine zD ?_
   subst ht10
   kernel_rfl
  refine V_nilrow 42 38 3 kk (by decide) ?_
  refine V_nilrow 43 109 4 kk (by decide) ?_
  refine V_nilrow 44 3 1 kk (by decide) ?_
  refine V_gen (fun γ : Nat → Loc => ⟨.bot :: .bot :: .pt 16 0 :: .bot :: .bot :: .pt 40 0 :: .c (.v (.string y5)) :: bt 30 (.c (.sl ((subl y2 1 ((y2.length : Int))).map c9)) :: I t10 :: I 0 :: bt 52 []), [(44, .qarr (γ 44) 3 1 ((([] : List Int)).map c3)), (43, .qarr (γ 43) 109 4 ((([] : List ((Int × Int × Int × Int)))).map c109)), (42, .qarr (γ 42) 38 3 ((([] : List ((Int × Int × Int)))).map c38)), (40, .box [.v (.string e4), .v (zE (γ 42)), .v (zE (γ 43)), .v (zE (γ 44))]), (16, .box [.v (.string ByteArray.empty), .v (.slice none 0 0), .v (.slice none 0 0), .v (.slice none 0 0)])]⟩) (fun _ => loc0) kk fun γ => ?_
  obtain ⟨qo16, hLo16, hko16⟩ := zA h
  refine V_toSQ (q := qo16) (S := fun o16 (γ : Nat → Loc) => ⟨.bot :: .bot :: .pt 16 0 :: .bot :: .bot :: .pt 40 0 :: bt 86 [], [(44, .qarr (γ 44) 3 1 (o16.1.map c3)), (43, .qarr (γ 43) 109 4 (o16.2.1.map c109)), (42, .qarr (γ 42) 38 3 (o16.2.2.map c38)), (40, .box [.v (.string e4), .v (zE (γ 42)), .v (zE (γ 43)), .v (zE (γ 44))]), (16, .box [.v (.string ByteArray.empty), .v (.slice none 0 0), .v (.slice none 0 0), .v (.slice none 0 0)])]⟩) (mb 92 36) [44, 43, 42, 40, 16] ?_ ?_
  ·refine zG (V_loop (fun n s => ∃ (t11 : Int) (l12 : List ((Int × Int × Int))) (l13 : List ((Int × Int × Int × Int))) (l14 : List Int), ∃ γ : Nat → Loc, s.keep (mb 92 962072674404) [44, 43, 42, 40, 16] = (⟨.bot :: .bot :: .pt 16 0 :: .bot :: .bot :: .pt 40 0 :: .c (.v (.string y5)) :: bt 30 (.c (.sl ((subl y2 1 ((y2.length : Int))).map c9)) :: I t10 :: I t11 :: bt 52 []), [(44, .qarr (γ 44) 3 1 (l14.map c3)), (43, .qarr (γ 43) 109 4 (l13.map c109)), (42, .qarr (γ 42) 38 3 (l12.map c38)), (40, .box [.v (.string e4), .v (zE (γ 42)), .v (zE (γ 43)), .v (zE (γ 44))]), (16, .box [.v (.string ByteArray.empty), .v (.slice none 0 0), .v (.slice none 0 0), .v (.slice none 0 0)])]⟩ : St) ∧ r_impl_partsOf_L15 e4 t10 y2 y5 n t11 l12 l13 l14 = some qo16) FU ⟨_, _, _, _, γ,  kk, hLo16⟩ ?_)
   clear hLo16
   rintro n s ⟨t11, l12, l13, l14, γ, hs, h⟩
   refine zV _ _ hs ?_
   clear hs
   cases n with
   | zero => cases h
   | succ n =>
    rw [r_impl_partsOf_L15] at h
    refine V_sregQ (fun γ : Nat → Loc => ⟨.bot :: .bot :: .pt 16 0 :: .bot :: .bot :: .pt 40 0 :: .c (.v (.string y5)) :: bt 30 (.c (.sl ((subl y2 1 ((y2.length : Int))).map c9)) :: I t10 :: I t11 :: Bo (ltI t11 t10) :: bt 51 []), [(44, .qarr (γ 44) 3 1 (l14.map c3)), (43, .qarr (γ 43) 109 4 (l13.map c109)), (42, .qarr (γ 42) 38 3 (l12.map c38)), (40, .box [.v (.string e4), .v (zE (γ 42)), .v (zE (γ 43)), .v (zE (γ 44))]), (16, .box [.v (.string ByteArray.empty), .v (.slice none 0 0), .v (.slice none 0 0), .v (.slice none 0 0)])]⟩) (mb 92 2061584302180) [44, 43, 42, 40, 16] ?_ ?_
    ·refine XR 1 ?_
     refine zD ?_
     exact ⟨γ, by kernel_rfl⟩
    intro γ
    refine zF ?_
    refine VC h (fun h => ?_) (fun h => ?_)
    ·refine zK ?_
     show V _ _ _ _
     refine zF ?_
     refine zG ?_
     obtain ⟨e18, he18, h⟩ := zA h
     refine V_sregQ (fun γ : Nat → Loc => ⟨.bot :: .bot :: .pt 16 0 :: .bot :: .bot :: .pt 40 0 :: .c (.v (.string y5)) :: I t11 :: .c (.v (.string e18)) :: bt 28 (.c (.sl ((subl y2 1 ((y2.length : Int))).map c9)) :: I t10 :: I t11 :: bt 52 []), [(44, .qarr (γ 44) 3 1 (l14.map c3)), (43, .qarr (γ 43) 109 4 (l13.map c109)), (42, .qarr (γ 42) 38 3 (l12.map c38)), (40, .box [.v (.string e4), .v (zE (γ 42)), .v (zE (γ 43)), .v (zE (γ 44))]), (16, .box [.v (.string ByteArray.empty), .v (.slice none 0 0), .v (.slice none 0 0), .v (.slice none 0 0)])]⟩) (mb 92 962072674788) [44, 43, 42, 40, 16] ?_ ?_
     ·refine XR 1 ?_
      refine L0 rfl rfl (zM (c := c9) (xs := subl y2 1 ((y2.length : Int))) (v := e18) (n := t11) Tryz.underlying66 sz9 rfl kk kk he18) ?_
      refine XR 3 ?_
      refine zD ?_
      exact ⟨γ, by kernel_rfl⟩
     intro γ
     refine V_sregQ (fun γ : Nat → Loc => ⟨.bot :: .bot :: .pt 16 0 :: .bot :: .bot :: .pt 40 0 :: .c (.v (.string y5)) :: I t11 :: .c (.v (.string e18)) :: bt 28 (.c (.sl ((subl y2 1 ((y2.length : Int))).map c9)) :: I t10 :: I t11 :: bt 52 []), [(44, .qarr (γ 44) 3 1 (l14.map c3)), (43, .qarr (γ 43) 109 4 (l13.map c109)), (42, .qarr (γ 42) 38 3 (l12.map c38)), (40, .box [.v (.string e4), .v (zE (γ 42)), .v (zE (γ 43)), .v (zE (γ 44))]), (16, .box [.v (.string ByteArray.empty), .v (.slice none 0 0), .v (.slice none 0 0), .v (.slice none 0 0)])]⟩) (mb 92 962072674788) [44, 43, 42, 40, 16] ?_ ?_
     ·refine XR 1 ?_
      refine zD ?_
      exact ⟨γ, by kernel_rfl⟩
     intro γ
     refine zF ?_
     obtain ⟨e19, he19, h⟩ := zA h
     refine V_sregQ (fun γ : Nat → Loc => ⟨.bot :: .bot :: .pt 16 0 :: .bot :: .bot :: .pt 40 0 :: .c (.v (.string y5)) :: .bot :: .c (.v (.string e18)) :: bt 28 (.c (.sl ((subl y2 1 ((y2.length : Int))).map c9)) :: I t10 :: I t11 :: bt 6 (.c (.v (.int .u8 e19)) :: bt 45 [])), [(44, .qarr (γ 44) 3 1 (l14.map c3)), (43, .qarr (γ 43) 109 4 (l13.map c109)), (42, .qarr (γ 42) 38 3 (l12.map c38)), (40, .box [.v (.string e4), .v (zE (γ 42)), .v (zE (γ 43)), .v (zE (γ 44))]), (16, .box [.v (.string ByteArray.empty), .v (.slice none 0 0), .v (.slice none 0 0), .v (.slice none 0 0)])]⟩) (mb 92 71330816852324) [44, 43, 42, 40, 16] ?_ ?_
     ·refine XR 2 ?_
      refine L0 rfl rfl (Y0_idxs (b := y5) (k := .i64) (n := t11) (v := e19) Tryz.underlying9 rfl kk kk he19) ?_
      refine zD ?_
      exact ⟨γ, by kernel_rfl⟩
     intro γ
     refine zG ?_
     refine V_sregQ (fun γ : Nat → Loc => ⟨.bot :: .bot :: .pt 16 0 :: .bot :: .bot :: .pt 40 0 :: .c (.v (.string y5)) :: .bot :: .c (.v (.string e18)) :: bt 28 (.c (.sl ((subl y2 1 ((y2.length : Int))).map c9)) :: I t10 :: I t11 :: bt 6 (.c (.v (.int .u8 e19)) :: bt 12 (Bo (eqI e19 102) :: bt 32 []))), [(44, .qarr (γ 44) 3 1 (l14.map c3)), (43, .qarr (γ 43) 109 4 (l13.map c109)), (42, .qarr (γ 42) 38 3 (l12.map c38)), (40, .box [.v (.string e4), .v (zE (γ 42)), .v (zE (γ 43)), .v (zE (γ 44))]), (16, .box [.v (.string ByteArray.empty), .v (.slice none 0 0), .v (.slice none 0 0), .v (.slice none 0 0)])]⟩) (mb 92 576532083120275812) [44, 43, 42, 40, 16] ?_ ?_
     ·refine L0 rfl rfl (Y0_eqw (k := .u8) (a := e19) (b := 102) rfl kk kk) ?_
      refine XR 1 ?_
      refine zD ?_
      exact ⟨γ, by kernel_rfl⟩
     intro γ
     refine VC h (fun h => ?_) (fun h => ?_)
     ·obtain ⟨y21, hy21, h⟩ := zA h
      refine V_sregQ (fun γ : Nat → Loc => ⟨.bot :: .bot :: .pt 16 0 :: .bot :: .bot :: .pt 40 0 :: .c (.v (.string y5)) :: bt 3 (.pt 80 0 :: Bo y21.2 :: bt 25 (.c (.sl ((subl y2 1 ((y2.length : Int))).map c9)) :: I t10 :: I t11 :: bt 52 [])), [(80, .box [Ti y21.1.1, Ti y21.1.2.1, Ti y21.1.2.2]), (44, .qarr (γ 44) 3 1 (l14.map c3)), (43, .qarr (γ 43) 109 4 (l13.map c109)), (42, .qarr (γ 42) 38 3 (l12.map c38)), (40, .box [.v (.string e4), .v (zE (γ 42)), .v (zE (γ 43)), .v (zE (γ 44))]), (16, .box [.v (.string ByteArray.empty), .v (.slice none 0 0), .v (.slice none 0 0), .v (.slice none 0 0)])]⟩) (mb 92 962072677476) [80, 44, 43, 42, 40, 16] ?_ ?_
      ·refine XR 1 ?_
       refine XC (s_impl_ParseForm hy21) cf_impl_ParseForm rfl rfl rfl ?_
       refine XR 6 ?_
       refine zD ?_
       exact ⟨γ, by kernel_rfl⟩
      intro γ
      obtain ⟨u22, hu22, h⟩ := zA h
      refine V_regQ (fun γ : Nat → Loc => ⟨.bot :: .bot :: .pt 16 0 :: .bot :: .bot :: .pt 40 0 :: .c (.v (.string y5)) :: .bot :: .bot :: Bo y21.2 :: bt 27 (.c (.sl ((subl y2 1 ((y2.length : Int))).map c9)) :: I t10 :: I t11 :: bt 52 []), [(44, .qarr (γ 44) 3 1 (l14.map c3)), (43, .qarr (γ 43) 109 4 (l13.map c109)), (42, .qarr (γ 42) 38 3 ((l12 ++ ([y21.1])).map c38)), (40, .box [.v (.string e4), .v (zE (γ 42)), .v (zE (γ 43)), .v (zE (γ 44))]), (16, .box [.v (.string ByteArray.empty), .v (.slice none 0 0), .v (.slice none 0 0), .v (.slice none 0 0)])]⟩) (mb 92 962072674916) [44, 43, 42, 40, 16] ?_ ?_
      ·refine XR 3 ?_
       refine L1 rfl rfl (Y1_bslice (z := zv38) (els := [y21.1].map c38) Tryz.underlying59 iz38 rfl (by decide) rfl kk rfl (by simp [c38]) (by decide) (by decide)) ?_
       refine XL_unpinQ 67 42 (l := γ 42) (T := 38) (sz := 3) (els := l12.map c38) kk kk ?_
       refine XL_cons rfl (X_appendM (c := c38) (xs := l12) (ys := [y21.1]) (id := 42) (z := zv38) rfl rfl Tryz.underlying59 izb38 rfl kk kk kk (fun _ => rfl) (by simp) (room_some hu22) (by decide)) ?_
       refine XR 2 ?_
       refine XL_pinQ 70 42 (T := 38) (sz := 3) (els := (l12 ++ ([y21.1])).map c38) kk kk fun lq1 => ?_
       refine XR 2 ?_
       refine zD ?_
       exact ⟨(fun i => if i = 42 then lq1 else γ i), by kernel_rfl⟩
      intro γ
      show V _ _ _ _
      refine V_sregQ (fun γ : Nat → Loc => ⟨.bot :: .bot :: .pt 16 0 :: .bot :: .bot :: .pt 40 0 :: .c (.v (.string y5)) :: bt 30 (.c (.sl ((subl y2 1 ((y2.length : Int))).map c9)) :: I t10 :: I t11 :: bt 48 (Bo (!y21.2) :: bt 3 [])), [(44, .qarr (γ 44) 3 1 (l14.map c3)), (43, .qarr (γ 43) 109 4 (l13.map c109)), (42, .qarr (γ 42) 38 3 ((l12 ++ ([y21.1])).map c38)), (40, .box [.v (.string e4), .v (zE (γ 42)), .v (zE (γ 43)), .v (zE (γ 44))]), (16, .box [.v (.string ByteArray.empty), .v (.slice none 0 0), .v (.slice none 0 0), .v (.slice none 0 0)])]⟩) (mb 92 309485009821346030797455460) [44, 43, 42, 40, 16] ?_ ?_
      ·refine XR 2 ?_
       refine zD ?_
       exact ⟨γ, by kernel_rfl⟩
      intro γ
      refine VC h (fun h => ?_) (fun h => ?_)
      ·refine V_sregQ (fun γ : Nat → Loc => ⟨.bot :: .bot :: .pt 16 0 :: Bo false :: bt 88 [], [(44, .qarr (γ 44) 3 1 (l14.map c3)), (43, .qarr (γ 43) 109 4 (l13.map c109)), (42, .qarr (γ 42) 38 3 ((l12 ++ ([y21.1])).map c38)), (16, .box [.v (.string ByteArray.empty), .v (.slice none 0 0), .v (.slice none 0 0), .v (.slice none 0 0)])]⟩) (mb 92 12) [44, 43, 42, 16] ?_ ?_
       ·refine L0 rfl rfl (Y0_build (cs := [.v (.string ByteArray.empty), .v (.slice none 0 0), .v (.slice none 0 0), .v (.slice none 0 0)]) pl62 bt62 rfl rfl kk) ?_
        refine XR 2 ?_
        refine zD ?_
        exact ⟨γ, by kernel_rfl⟩
       intro γ
       refine V_nilSl 16 1 (cs := [.v (.string ByteArray.empty), .v (.slice none 0 0), .v (.slice none 0 0), .v (.slice none 0 0)]) kk kk rfl ?_
       refine V_nilSl 16 2 (cs := [.v (.string ByteArray.empty), .sl ((([] : List ((Int × Int × Int)))).map c38), .v (.slice none 0 0), .v (.slice none 0 0)]) kk kk rfl ?_
       refine V_nilSl 16 3 (cs := [.v (.string ByteArray.empty), .sl ((([] : List ((Int × Int × Int)))).map c38), .sl ((([] : List ((Int × Int × Int × Int)))).map c109), .v (.slice none 0 0)]) kk kk rfl ?_
       refine zH ?_
       obtain rfl := zB h
       have h := hko16
       obtain rfl := zB h
       exact VT
      ·refine zK ?_
       show V _ _ _ _
       obtain ⟨t24, ht24, h⟩ := zU h
       refine V_regQ (fun γ : Nat → Loc => ⟨.bot :: .bot :: .pt 16 0 :: .bot :: .bot :: .pt 40 0 :: .c (.v (.string y5)) :: bt 30 (.c (.sl ((subl y2 1 ((y2.length : Int))).map c9)) :: I t10 :: I t24 :: bt 52 []), [(44, .qarr (γ 44) 3 1 (l14.map c3)), (43, .qarr (γ 43) 109 4 (l13.map c109)), (42, .qarr (γ 42) 38 3 ((l12 ++ ([y21.1])).map c38)), (40, .box [.v (.string e4), .v (zE (γ 42)), .v (zE (γ 43)), .v (zE (γ 44))]), (16, .box [.v (.string ByteArray.empty), .v (.slice none 0 0), .v (.slice none 0 0), .v (.slice none 0 0)])]⟩) (mb 92 962072674404) [44, 43, 42, 40, 16] ?_ ?_
       ·refine XR 2 ?_
        refine zD ?_
        subst ht24
        exact ⟨γ, by kernel_rfl⟩
       intro γ
       exact ⟨n, Nat.lt_succ_self n, _, _, _, _, γ,  kk, h⟩
     ·refine V_sregQ (fun γ : Nat → Loc => ⟨.bot :: .bot :: .pt 16 0 :: .bot :: .bot :: .pt 40 0 :: .c (.v (.string y5)) :: .bot :: .c (.v (.string e18)) :: bt 28 (.c (.sl ((subl y2 1 ((y2.length : Int))).map c9)) :: I t10 :: I t11 :: bt 33 (Bo (eqI e19 109) :: bt 18 [])), [(44, .qarr (γ 44) 3 1 (l14.map c3)), (43, .qarr (γ 43) 109 4 (l13.map c109)), (42, .qarr (γ 42) 38 3 (l12.map c38)), (40, .box [.v (.string e4), .v (zE (γ 42)), .v (zE (γ 43)), .v (zE (γ 44))]), (16, .box [.v (.string ByteArray.empty), .v (.slice none 0 0), .v (.slice none 0 0), .v (.slice none 0 0)])]⟩) (mb 92 9444732966701363102052) [44, 43, 42, 40, 16] ?_ ?_
      ·refine L0 rfl rfl (Y0_eqw (k := .u8) (a := e19) (b := 109) rfl kk kk) ?_
       refine XR 1 ?_
       refine zD ?_
       exact ⟨γ, by kernel_rfl⟩
      intro γ
      refine VC h (fun h => ?_) (fun h => ?_)
      ·obtain ⟨y26, hy26, h⟩ := zA h
       refine V_sregQ (fun γ : Nat → Loc => ⟨.bot :: .bot :: .pt 16 0 :: .bot :: .bot :: .pt 40 0 :: .c (.v (.string y5)) :: bt 5 (.pt 96 0 :: Bo y26.2 :: bt 23 (.c (.sl ((subl y2 1 ((y2.length : Int))).map c9)) :: I t10 :: I t11 :: bt 52 [])), [(96, .box [Ti y26.1.1, Ti y26.1.2.1, Ti y26.1.2.2.1, Ti y26.1.2.2.2]), (44, .qarr (γ 44) 3 1 (l14.map c3)), (43, .qarr (γ 43) 109 4 (l13.map c109)), (42, .qarr (γ 42) 38 3 (l12.map c38)), (40, .box [.v (.string e4), .v (zE (γ 42)), .v (zE (γ 43)), .v (zE (γ 44))]), (16, .box [.v (.string ByteArray.empty), .v (.slice none 0 0), .v (.slice none 0 0), .v (.slice none 0 0)])]⟩) (mb 92 962072686692) [96, 44, 43, 42, 40, 16] ?_ ?_
       ·refine XR 1 ?_
        refine XC (s_impl_ParseMatrix hy26) cf_impl_ParseMatrix rfl rfl rfl ?_
        refine XR 6 ?_
        refine zD ?_
        exact ⟨γ, by kernel_rfl⟩
       intro γ
       obtain ⟨u27, hu27, h⟩ := zA h
       refine V_regQ (fun γ : Nat → Loc => ⟨.bot :: .bot :: .pt 16 0 :: .bot :: .bot :: .pt 40 0 :: .c (.v (.string y5)) :: .bot :: .bot :: Bo y26.2 :: bt 27 (.c (.sl ((subl y2 1 ((y2.length : Int))).map c9)) :: I t10 :: I t11 :: bt 52 []), [(44, .qarr (γ 44) 3 1 (l14.map c3)), (43, .qarr (γ 43) 109 4 ((l13 ++ ([y26.1])).map c109)), (42, .qarr (γ 42) 38 3 (l12.map c38)), (40, .box [.v (.string e4), .v (zE (γ 42)), .v (zE (γ 43)), .v (zE (γ 44))]), (16, .box [.v (.string ByteArray.empty), .v (.slice none 0 0), .v (.slice none 0 0), .v (.slice none 0 0)])]⟩) (mb 92 962072674916) [44, 43, 42, 40, 16] ?_ ?_
       ·refine XR 3 ?_
        refine L1 rfl rfl (Y1_bslice (z := zv109) (els := [y26.1].map c109) Tryz.underlying60 iz109 rfl (by decide) rfl kk rfl (by simp [c109]) (by decide) (by decide)) ?_
        refine XL_unpinQ 81 43 (l := γ 43) (T := 109) (sz := 4) (els := l13.map c109) kk kk ?_
        refine XL_cons rfl (X_appendM (c := c109) (xs := l13) (ys := [y26.1]) (id := 43) (z := zv109) rfl rfl Tryz.underlying60 izb109 rfl kk kk kk (fun _ => rfl) (by simp) (room_some hu27) (by decide)) ?_
        refine XR 2 ?_
        refine XL_pinQ 84 43 (T := 109) (sz := 4) (els := (l13 ++ ([y26.1])).map c109) kk kk fun lq1 => ?_
        refine XR 2 ?_
        refine zD ?_
        exact ⟨(fun i => if i = 43 then lq1 else γ i), by kernel_rfl⟩
       intro γ
       show V _ _ _ _
       refine V_sregQ (fun γ : Nat → Loc => ⟨.bot :: .bot :: .pt 16 0 :: .bot :: .bot :: .pt 40 0 :: .c (.v (.string y5)) :: bt 30 (.c (.sl ((subl y2 1 ((y2.length : Int))).map c9)) :: I t10 :: I t11 :: bt 48 (Bo (!y26.2) :: bt 3 [])), [(44, .qarr (γ 44) 3 1 (l14.map c3)), (43, .qarr (γ 43) 109 4 ((l13 ++ ([y26.1])).map c109)), (42, .qarr (γ 42) 38 3 (l12.map c38)), (40, .box [.v (.string e4), .v (zE (γ 42)), .v (zE (γ 43)), .v (zE (γ 44))]), (16, .box [.v (.string ByteArray.empty), .v (.slice none 0 0), .v (.slice none 0 0), .v (.slice none 0 0)])]⟩) (mb 92 309485009821346030797455460) [44, 43, 42, 40, 16] ?_ ?_
       ·refine XR 2 ?_
        refine zD ?_
        exact ⟨γ, by kernel_rfl⟩
       intro γ
       refine VC h (fun h => ?_) (fun h => ?_)
       ·refine V_sregQ (fun γ : Nat → Loc => ⟨.bot :: .bot :: .pt 16 0 :: Bo false :: bt 88 [], [(44, .qarr (γ 44) 3 1 (l14.map c3)), (43, .qarr (γ 43) 109 4 ((l13 ++ ([y26.1])).map c109)), (42, .qarr (γ 42) 38 3 (l12.map c38)), (16, .box [.v (.string ByteArray.empty), .v (.slice none 0 0), .v (.slice none 0 0), .v (.slice none 0 0)])]⟩) (mb 92 12) [44, 43, 42, 16] ?_ ?_
        ·refine L0 rfl rfl (Y0_build (cs := [.v (.string ByteArray.empty), .v (.slice none 0 0), .v (.slice none 0 0), .v (.slice none 0 0)]) pl62 bt62 rfl rfl kk) ?_
         refine XR 2 ?_
         refine zD ?_
         exact ⟨γ, by kernel_rfl⟩
        intro γ
        refine V_nilSl 16 1 (cs := [.v (.string ByteArray.empty), .v (.slice none 0 0), .v (.slice none 0 0), .v (.slice none 0 0)]) kk kk rfl ?_
        refine V_nilSl 16 2 (cs := [.v (.string ByteArray.empty), .sl ((([] : List ((Int × Int × Int)))).map c38), .v (.slice none 0 0), .v (.slice none 0 0)]) kk kk rfl ?_
        refine V_nilSl 16 3 (cs := [.v (.string ByteArray.empty), .sl ((([] : List ((Int × Int × Int)))).map c38), .sl ((([] : List ((Int × Int × Int × Int)))).map c109), .v (.slice none 0 0)]) kk kk rfl ?_
        refine zH ?_
        obtain rfl := zB h
        have h := hko16
        obtain rfl := zB h
        exact VT
       ·refine zK ?_
        show V _ _ _ _
        obtain ⟨t29, ht29, h⟩ := zU h
        refine V_regQ (fun γ : Nat → Loc => ⟨.bot :: .bot :: .pt 16 0 :: .bot :: .bot :: .pt 40 0 :: .c (.v (.string y5)) :: bt 30 (.c (.sl ((subl y2 1 ((y2.length : Int))).map c9)) :: I t10 :: I t29 :: bt 52 []), [(44, .qarr (γ 44) 3 1 (l14.map c3)), (43, .qarr (γ 43) 109 4 ((l13 ++ ([y26.1])).map c109)), (42, .qarr (γ 42) 38 3 (l12.map c38)), (40, .box [.v (.string e4), .v (zE (γ 42)), .v (zE (γ 43)), .v (zE (γ 44))]), (16, .box [.v (.string ByteArray.empty), .v (.slice none 0 0), .v (.slice none 0 0), .v (.slice none 0 0)])]⟩) (mb 92 962072674404) [44, 43, 42, 40, 16] ?_ ?_
        ·refine XR 2 ?_
         refine zD ?_
         subst ht29
         exact ⟨γ, by kernel_rfl⟩
        intro γ
        exact ⟨n, Nat.lt_succ_self n, _, _, _, _, γ,  kk, h⟩
      ·obtain ⟨y30, hy30, h⟩ := zA h
       refine V_sregQ (fun γ : Nat → Loc => ⟨.bot :: .bot :: .pt 16 0 :: .bot :: .bot :: .pt 40 0 :: .c (.v (.string y5)) :: bt 7 (I y30.1 :: Bo y30.2 :: bt 21 (.c (.sl ((subl y2 1 ((y2.length : Int))).map c9)) :: I t10 :: I t11 :: bt 52 [])), [(44, .qarr (γ 44) 3 1 (l14.map c3)), (43, .qarr (γ 43) 109 4 (l13.map c109)), (42, .qarr (γ 42) 38 3 (l12.map c38)), (40, .box [.v (.string e4), .v (zE (γ 42)), .v (zE (γ 43)), .v (zE (γ 44))]), (16, .box [.v (.string ByteArray.empty), .v (.slice none 0 0), .v (.slice none 0 0), .v (.slice none 0 0)])]⟩) (mb 92 962072723556) [44, 43, 42, 40, 16] ?_ ?_
       ·refine XR 1 ?_
        refine XC (s_impl_numberOf hy30) cf_impl_numberOf rfl rfl rfl ?_
        refine XR 5 ?_
        refine zD ?_
        exact ⟨γ, by kernel_rfl⟩
       intro γ
       obtain ⟨u31, hu31, h⟩ := zA h
       refine V_regQ (fun γ : Nat → Loc => ⟨.bot :: .bot :: .pt 16 0 :: .bot :: .bot :: .pt 40 0 :: .c (.v (.string y5)) :: .bot :: .bot :: Bo y30.2 :: bt 27 (.c (.sl ((subl y2 1 ((y2.length : Int))).map c9)) :: I t10 :: I t11 :: bt 52 []), [(44, .qarr (γ 44) 3 1 ((l14 ++ ([y30.1])).map c3)), (43, .qarr (γ 43) 109 4 (l13.map c109)), (42, .qarr (γ 42) 38 3 (l12.map c38)), (40, .box [.v (.string e4), .v (zE (γ 42)), .v (zE (γ 43)), .v (zE (γ 44))]), (16, .box [.v (.string ByteArray.empty), .v (.slice none 0 0), .v (.slice none 0 0), .v (.slice none 0 0)])]⟩) (mb 92 962072674916) [44, 43, 42, 40, 16] ?_ ?_
       ·refine XR 3 ?_
        refine L1 rfl rfl (Y1_bslice (z := zv3) (els := [y30.1].map c3) Tryz.underlying24 iz3 rfl (by decide) rfl kk rfl (by simp [c3]) (by decide) (by decide)) ?_
        refine XL_unpinQ 53 44 (l := γ 44) (T := 3) (sz := 1) (els := l14.map c3) kk kk ?_
        refine XL_cons rfl (X_appendM (c := c3) (xs := l14) (ys := [y30.1]) (id := 44) (z := zv3) rfl rfl Tryz.underlying24 izb3 rfl kk kk kk (fun _ => rfl) (by simp) (room_some hu31) (by decide)) ?_
        refine XR 2 ?_
        refine XL_pinQ 56 44 (T := 3) (sz := 1) (els := (l14 ++ ([y30.1])).map c3) kk kk fun lq1 => ?_
        refine XR 2 ?_
        refine zD ?_
        exact ⟨(fun i => if i = 44 then lq1 else γ i), by kernel_rfl⟩
       intro γ
       show V _ _ _ _
       refine V_sregQ (fun γ : Nat → Loc => ⟨.bot :: .bot :: .pt 16 0 :: .bot :: .bot :: .pt 40 0 :: .c (.v (.string y5)) :: bt 30 (.c (.sl ((subl y2 1 ((y2.length : Int))).map c9)) :: I t10 :: I t11 :: bt 48 (Bo (!y30.2) :: bt 3 [])), [(44, .qarr (γ 44) 3 1 ((l14 ++ ([y30.1])).map c3)), (43, .qarr (γ 43) 109 4 (l13.map c109)), (42, .qarr (γ 42) 38 3 (l12.map c38)), (40, .box [.v (.string e4), .v (zE (γ 42)), .v (zE (γ 43)), .v (zE (γ 44))]), (16, .box [.v (.string ByteArray.empty), .v (.slice none 0 0), .v (.slice none 0 0), .v (.slice none 0 0)])]⟩) (mb 92 309485009821346030797455460) [44, 43, 42, 40, 16] ?_ ?_
       ·refine XR 2 ?_
        refine zD ?_
        exact ⟨γ, by kernel_rfl⟩
       intro γ
       refine VC h (fun h => ?_) (fun h => ?_)
       ·refine V_sregQ (fun γ : Nat → Loc => ⟨.bot :: .bot :: .pt 16 0 :: Bo false :: bt 88 [], [(44, .qarr (γ 44) 3 1 ((l14 ++ ([y30.1])).map c3)), (43, .qarr (γ 43) 109 4 (l13.map c109)), (42, .qarr (γ 42) 38 3 (l12.map c38)), (16, .box [.v (.string ByteArray.empty), .v (.slice none 0 0), .v (.slice none 0 0), .v (.slice none 0 0)])]⟩) (mb 92 12) [44, 43, 42, 16] ?_ ?_
        ·refine L0 rfl rfl (Y0_build (cs := [.v (.string ByteArray.empty), .v (.slice none 0 0), .v (.slice none 0 0), .v (.slice none 0 0)]) pl62 bt62 rfl rfl kk) ?_
         refine XR 2 ?_
         refine zD ?_
         exact ⟨γ, by kernel_rfl⟩
        intro γ
        refine V_nilSl 16 1 (cs := [.v (.string ByteArray.empty), .v (.slice none 0 0), .v (.slice none 0 0), .v (.slice none 0 0)]) kk kk rfl ?_
        refine V_nilSl 16 2 (cs := [.v (.string ByteArray.empty), .sl ((([] : List ((Int × Int × Int)))).map c38), .v (.slice none 0 0), .v (.slice none 0 0)]) kk kk rfl ?_
        refine V_nilSl 16 3 (cs := [.v (.string ByteArray.empty), .sl ((([] : List ((Int × Int × Int)))).map c38), .sl ((([] : List ((Int × Int × Int × Int)))).map c109), .v (.slice none 0 0)]) kk kk rfl ?_
        refine zH ?_
        obtain rfl := zB h
        have h := hko16
        obtain rfl := zB h
        exact VT
       ·refine zK ?_
        show V _ _ _ _
        obtain ⟨t33, ht33, h⟩ := zU h
        refine V_regQ (fun γ : Nat → Loc => ⟨.bot :: .bot :: .pt 16 0 :: .bot :: .bot :: .pt 40 0 :: .c (.v (.string y5)) :: bt 30 (.c (.sl ((subl y2 1 ((y2.length : Int))).map c9)) :: I t10 :: I t33 :: bt 52 []), [(44, .qarr (γ 44) 3 1 ((l14 ++ ([y30.1])).map c3)), (43, .qarr (γ 43) 109 4 (l13.map c109)), (42, .qarr (γ 42) 38 3 (l12.map c38)), (40, .box [.v (.string e4), .v (zE (γ 42)), .v (zE (γ 43)), .v (zE (γ 44))]), (16, .box [.v (.string ByteArray.empty), .v (.slice none 0 0), .v (.slice none 0 0), .v (.slice none 0 0)])]⟩) (mb 92 962072674404) [44, 43, 42, 40, 16] ?_ ?_
        ·refine XR 2 ?_
         refine zD ?_
         subst ht33
         exact ⟨γ, by kernel_rfl⟩
        intro γ
        exact ⟨n, Nat.lt_succ_self n, _, _, _, _, γ,  kk, h⟩
    ·refine V_exit ?_
     obtain rfl := zB h
     exact ⟨_, rfl, γ, kk⟩
  rintro o16 rfl γ
  have h := hko16
  clear hko16
  show V _ _ _ _
  refine V_frzQ 42 40 1 (l := γ 42) (T := 38) (sz := 3) (els := o16.2.2.map c38) (cs := [.v (.string e4), .v (zE (γ 42)), .v (zE (γ 43)), .v (zE (γ 44))]) (s1 := ⟨.bot :: .bot :: .pt 16 0 :: .bot :: .bot :: .pt 40 0 :: bt 86 [], [(44, .qarr (γ 44) 3 1 (o16.1.map c3)), (43, .qarr (γ 43) 109 4 (o16.2.1.map c109)), (40, .box [.v (.string e4), .sl (o16.2.2.map c38), .v (zE (γ 43)), .v (zE (γ 44))]), (16, .box [.v (.string ByteArray.empty), .v (.slice none 0 0), .v (.slice none 0 0), .v (.slice none 0 0)])]⟩) kk kk kk kk ?_
  refine V_frzQ 43 40 2 (l := γ 43) (T := 109) (sz := 4) (els := o16.2.1.map c109) (cs := [.v (.string e4), .sl (o16.2.2.map c38), .v (zE (γ 43)), .v (zE (γ 44))]) (s1 := ⟨.bot :: .bot :: .pt 16 0 :: .bot :: .bot :: .pt 40 0 :: bt 86 [], [(44, .qarr (γ 44) 3 1 (o16.1.map c3)), (40, .box [.v (.string e4), .sl (o16.2.2.map c38), .sl (o16.2.1.map c109), .v (zE (γ 44))]), (16, .box [.v (.string ByteArray.empty), .v (.slice none 0 0), .v (.slice none 0 0), .v (.slice none 0 0)])]⟩) kk kk kk kk ?_
  refine V_frzQ 44 40 3 (l := γ 44) (T := 3) (sz := 1) (els := o16.1.map c3) (cs := [.v (.string e4), .sl (o16.2.2.map c38), .sl (o16.2.1.map c109), .v (zE (γ 44))]) (s1 := ⟨.bot :: .bot :: .pt 16 0 :: .bot :: .bot :: .pt 40 0 :: bt 86 [], [(40, .box [.v (.string e4), .sl (o16.2.2.map c38), .sl (o16.2.1.map c109), .sl (o16.1.map c3)]), (16, .box [.v (.string ByteArray.empty), .v (.slice none 0 0), .v (.slice none 0 0), .v (.slice none 0 0)])]⟩) kk kk kk kk ?_
  refine VE ?_
  cases h
  exact zH VT
theorem cf_impl_Matrix_det : CfW Tryz.prog 167 := cfW Tryz.func167
theorem s_impl_Matrix_det {vm1 : (Int × Int × Int × Int)} {r : Int} (h : r_impl_Matrix_det vm1 = some r) : zP Tryz.prog 167 [.ag [Ti vm1.1, Ti vm1.2.1, Ti vm1.2.2.1, Ti vm1.2.2.2]] (I r) [] := by
 refine CtW [2] Tryz.func167 rfl rfl 14 ?_
 unfold r_impl_Matrix_det at h
 refine VE ?_
 obtain ⟨t2, ht2, h⟩ := zU h
 refine zO (mb 14 4) [] (s1 := ⟨.bot :: .bot :: I t2 :: bt 11 [], []⟩) ?_ ?_
 ·refine XR 12 ?_
  refine zD ?_
  subst ht2
  kernel_rfl
 cases h
 exact zH VT
theorem cf_impl_Form_at : CfW Tryz.prog 79 := cfW Tryz.func79
theorem s_impl_Form_at {f1 : (Int × Int × Int)} {x2 : Int} {y3 : Int} {r : Int} (h : r_impl_Form_at f1 x2 y3 = some r) : zP Tryz.prog 79 [.ag [Ti f1.1, Ti f1.2.1, Ti f1.2.2], I x2, I y3] (I r) [] := by
 refine CtW [6] Tryz.func79 rfl rfl 27 ?_
 unfold r_impl_Form_at at h
 refine VE ?_
 obtain ⟨t4, ht4, h⟩ := zU h
 refine zO (mb 27 64) [] (s1 := ⟨bt 6 (I t4 :: bt 20 []), []⟩) ?_ ?_
 ·refine XR 21 ?_
  refine zD ?_
  subst ht4
  kernel_rfl
 cases h
 exact zH VT
theorem cf_impl_Form_polar : CfW Tryz.prog 233 := cfW Tryz.func233
theorem s_impl_Form_polar {f1 : (Int × Int × Int)} {x2 : Int} {y3 : Int} {u4 : Int} {v5 : Int} {r : Int} (h : r_impl_Form_polar f1 x2 y3 u4 v5 = some r) : zP Tryz.prog 233 [.ag [Ti f1.1, Ti f1.2.1, Ti f1.2.2], I x2, I y3, I u4, I v5] (I r) [] := by
 refine CtW [10] Tryz.func233 rfl rfl 37 ?_
 unfold r_impl_Form_polar at h
 refine VE ?_
 obtain ⟨t6, ht6, h⟩ := zU h
 refine zO (mb 37 1024) [] (s1 := ⟨bt 10 (I t6 :: bt 26 []), []⟩) ?_ ?_
 ·refine XR 27 ?_
  refine zD ?_
  subst ht6
  kernel_rfl
 cases h
 exact zH VT
theorem cf_impl_Form_substitute : CfW Tryz.prog 168 := cfW Tryz.func168
theorem s_impl_Form_substitute {f1 : (Int × Int × Int)} {vm2 : (Int × Int × Int × Int)} {r : (Int × Int × Int)} (h : zX f1 vm2 = some r) : zP Tryz.prog 168 [.ag [Ti f1.1, Ti f1.2.1, Ti f1.2.2], .ag [Ti vm2.1, Ti vm2.2.1, Ti vm2.2.2.1, Ti vm2.2.2.2]] (.ag [Ti r.1, Ti r.2.1, Ti r.2.2]) [] := by
 refine zT (rs := [.w 4 3]) (vs := [.cell 4 38]) Tryz.func168 rfl rfl (.cons ⟨rfl, wd38⟩ FitsL.nil) (by decide) 28 rfl ?_
 unfold zX at h
 refine VE ?_
 obtain ⟨y3, hy3, h⟩ := zA h
 obtain ⟨y4, hy4, h⟩ := zA h
 obtain ⟨y5, hy5, h⟩ := zA h
 refine VDS [0, 0, 2, 0, 8, 31, 0, 0, 128, 0, 512, 0, 2048, 0, 8192, 32767, 0, 0, 131072, 0, 524288, 2097151, 4194303, 8388607] 23 (cdm 23 [2929883521704, 2929883521666, 2929883521670, 2929883521066, 2929883521130, 2929883521365, 2929883515562, 2929883359914, 2929883376298, 2929880902314, 2929881164458, 2929841580714, 2929845775018, 2929212435114, 2929279543978, 2929525609813, 2923441072810, 2760232315562, 2777412184746, 183251937962, 458129844906, 1466015503701, 5864062014805]) ?_
 refine EK 5 (s_impl_Form_at hy3) cf_impl_Form_at ?_
 refine EK 9 (s_impl_Form_polar hy4) cf_impl_Form_polar ?_
 refine EK 5 (s_impl_Form_at hy5) cf_impl_Form_at ?_
 refine E0 22 rfl rfl (Y0_build (cs := [Ti y3, Ti y4, Ti y5]) pl38 bt38 rfl rfl kk) ?_
 refine EF 0 ?_
 cases h
 exact zH VT
theorem cf_impl_makesOf : CfW Tryz.prog 76 := cfW Tryz.func76
theorem s_impl_makesOf {f1 : (Int × Int × Int)} {vm2 : (Int × Int × Int × Int)} {g3 : (Int × Int × Int)} {r : Bool} (h : r_impl_makesOf f1 vm2 g3 = some r) : zP Tryz.prog 76 [.ag [Ti f1.1, Ti f1.2.1, Ti f1.2.2], .ag [Ti vm2.1, Ti vm2.2.1, Ti vm2.2.2.1, Ti vm2.2.2.2], .ag [Ti g3.1, Ti g3.2.1, Ti g3.2.2]] (Bo r) [] := by
 refine CtW [6] Tryz.func76 rfl rfl 17 ?_
 unfold r_impl_makesOf at h
 refine VE ?_
 obtain ⟨y4, hy4, h⟩ := zA h
 obtain ⟨b7, hb7, h⟩ := zA h
 refine V_sdreg [0, 1, 3, 7, 15, 15, 63, 15, 255, 511, 1023] 11 (cdm 11 [0, 1, 5, 21, 34901, 33365, 34133, 10837, 21845, 87381, 349525]) (mb 17 64) [] (s1 := ⟨bt 6 (Bo b7 :: bt 10 []), []⟩) kk kk ?_ ?_
 ·refine EK 1 (s_impl_Matrix_det hy4) cf_impl_Matrix_det ?_
  refine ER 2 ?_
  refine DL_split (eqI y4 1) (fun hc5 => ?_) (fun hc5 => ?_)
  ·have hb7 := zN hb7 hc5
   obtain ⟨y6, hy6, hb7⟩ := zA hb7
   have hb7 := zB hb7
   refine EQ hc5 ?_
   refine EK 2 (s_impl_Form_substitute hy6) cf_impl_Form_substitute ?_
   refine ER 1 ?_
   refine E0 8 rfl rfl (Y0_eqg3 (a0 := y6.1) (b0 := g3.1) (a1 := y6.2.1) (b1 := g3.2.1) (a2 := y6.2.2) (b2 := g3.2.2) eqg38 rfl kk kk) ?_
   refine EA 2 ?_
   exact YE (by rw [← hb7]; (try rw [hc5]); kernel_rfl)
  ·have hb7 := zB (zC hb7 hc5)
   refine EQ hc5 ?_
   refine EA 7 ?_
   exact YE (by rw [← hb7]; (try rw [hc5]); kernel_rfl)
 cases h
 exact zH VT
theorem cf_impl_Form_disc : CfW Tryz.prog 169 := cfW Tryz.func169
theorem s_impl_Form_disc {f1 : (Int × Int × Int)} {r : Int} (h : r_impl_Form_disc f1 = some r) : zP Tryz.prog 169 [.ag [Ti f1.1, Ti f1.2.1, Ti f1.2.2]] (I r) [] := by
 refine CtW [2] Tryz.func169 rfl rfl 15 ?_
 unfold r_impl_Form_disc at h
 refine VE ?_
 obtain ⟨t2, ht2, h⟩ := zU h
 refine zO (mb 15 4) [] (s1 := ⟨.bot :: .bot :: I t2 :: bt 12 [], []⟩) ?_ ?_
 ·refine XR 13 ?_
  refine zD ?_
  subst ht2
  kernel_rfl
 cases h
 exact zH VT
theorem cf_impl_isDefinite : CfW Tryz.prog 77 := cfW Tryz.func77
theorem s_impl_isDefinite {f1 : (Int × Int × Int)} {r : Bool} (h : r_impl_isDefinite f1 = some r) : zP Tryz.prog 77 [.ag [Ti f1.1, Ti f1.2.1, Ti f1.2.2]] (Bo r) [] := by
 refine CtW [2] Tryz.func77 rfl rfl 15 ?_
 unfold r_impl_isDefinite at h
 refine VE ?_
 obtain ⟨y2, hy2, h⟩ := zA h
 obtain ⟨b5, hb5, h⟩ := zA h
 refine zO (mb 15 4) [] (s1 := ⟨.bot :: .bot :: Bo (bif b5 then (ltI 0 f1.1) else false) :: bt 12 [], []⟩) ?_ ?_
 ·refine YK 1 (s_impl_IsForm hy2) cf_impl_IsForm ?_
  refine YR 1 ?_
  refine zJ y2 (fun hc3 => ?_) (fun hc3 => ?_)
  ·have hb5 := zN hb5 hc3
   obtain ⟨y4, hy4, hb5⟩ := zA hb5
   have hb5 := zB hb5
   refine YQ hc3 ?_
   refine YK 1 (s_impl_Form_disc hy4) cf_impl_Form_disc ?_
   refine YR 3 ?_
   refine zJ b5 (fun hc6 => ?_) (fun hc6 => ?_)
   ·refine YQ hc6 ?_ (by rw [← hb5]; (try rw [hc3]); kernel_rfl)
    exact YE (by rw [hc6]; kernel_rfl)
   ·refine YQ hc6 ?_ (by rw [← hb5]; (try rw [hc3]); kernel_rfl)
    exact YE (by rw [hc6]; kernel_rfl)
  ·have hb5 := zB (zC hb5 hc3)
   refine YQ hc3 ?_
   refine YR 5 ?_
   subst hb5
   have hc6 : false = false := rfl
   exact YE
 cases h
 exact zH VT
theorem cf_impl_Form_isNormal : CfW Tryz.prog 170 := cfW Tryz.func170
theorem s_impl_Form_isNormal {f1 : (Int × Int × Int)} {r : Bool} (h : r_impl_Form_isNormal f1 = some r) : zP Tryz.prog 170 [.ag [Ti f1.1, Ti f1.2.1, Ti f1.2.2]] (Bo r) [] := by
 refine CtW [2] Tryz.func170 rfl rfl 16 ?_
 unfold r_impl_Form_isNormal at h
 refine VE ?_
 obtain ⟨t3, ht3, h⟩ := zA h
 have ht3 := zB ht3
 refine zO (mb 16 4) [] (s1 := ⟨.bot :: .bot :: Bo t3 :: bt 13 [], []⟩) ?_ ?_
 ·refine YR 7 ?_
  refine zJ (ltI (w64 (0 - f1.1)) f1.2.1) (fun hc2 => ?_) (fun hc2 => ?_)
  ·refine YQ hc2 ?_
   exact YE (by rw [← ht3]; (try rw [hc2]); kernel_rfl)
  ·refine YQ hc2 ?_
   exact YE (by rw [← ht3]; (try rw [hc2]); kernel_rfl)
 cases h
 exact zH VT
theorem cf_impl_Form_isReduced : CfW Tryz.prog 78 := cfW Tryz.func78
theorem s_impl_Form_isReduced {f1 : (Int × Int × Int)} {r : Bool} (h : r_impl_Form_isReduced f1 = some r) : zP Tryz.prog 78 [.ag [Ti f1.1, Ti f1.2.1, Ti f1.2.2]] (Bo r) [] := by
 refine CtW [2] Tryz.func78 rfl rfl 24 ?_
 unfold r_impl_Form_isReduced at h
 refine VE ?_
 obtain ⟨y2, hy2, h⟩ := zA h
 obtain ⟨t6, ht6, h⟩ := zA h
 have ht6 := zB ht6
 refine zO (mb 24 4) [] (s1 := ⟨.bot :: .bot :: Bo t6 :: bt 21 [], []⟩) ?_ ?_
 ·refine YK 1 (s_impl_Form_isNormal hy2) cf_impl_Form_isNormal ?_
  refine YR 1 ?_
  refine zJ y2 (fun hc3 => ?_) (fun hc3 => ?_)
  ·refine YQ hc3 ?_
   refine YR 6 ?_
   refine zJ (ltI f1.1 f1.2.2) (fun hc4 => ?_) (fun hc4 => ?_)
   ·refine YQ hc4 ?_
    exact YE (by rw [← ht6]; (try rw [hc4]); (try rw [hc3]); kernel_rfl)
   ·refine YQ hc4 ?_
    refine YR 6 ?_
    refine zJ (eqI f1.1 f1.2.2) (fun hc5 => ?_) (fun hc5 => ?_)
    ·refine YQ hc5 ?_
     exact YE (by rw [← ht6]; (try rw [hc4]); (try rw [hc5]); (try rw [hc3]); kernel_rfl)
    ·refine YQ hc5 ?_
     exact YE (by rw [← ht6]; (try rw [hc4]); (try rw [hc5]); (try rw [hc3]); kernel_rfl)
  ·refine YQ hc3 ?_
   exact YE (by rw [← ht6]; (try rw [hc3]); kernel_rfl)
 cases h
 exact zH VT
theorem cf_impl_abs : CfW Tryz.prog 84 := cfW Tryz.func84
theorem s_impl_abs {vn1 : Int} {r : Int} (h : r_impl_abs vn1 = some r) : zP Tryz.prog 84 [I vn1] (I r) [] := by
 refine CtW [2] Tryz.func84 rfl rfl 8 ?_
 unfold r_impl_abs at h
 refine VE ?_
 obtain ⟨t2, ht2, h⟩ := zU h
 refine zO (mb 8 4) [] (s1 := ⟨.bot :: .bot :: I t2 :: bt 5 [], []⟩) ?_ ?_
 ·refine XR 2 ?_
  refine L0 rfl rfl (Y0_max (a := vn1) (b := -9223372036854775807) rfl kk kk) ?_
  refine XR 1 ?_
  refine L0 rfl rfl (Y0_max (a := vn1) (b := w64 (0 - (mxI vn1 (-9223372036854775807)))) rfl kk kk) ?_
  refine XR 1 ?_
  refine zD ?_
  subst ht2
  kernel_rfl
 cases h
 exact zH VT
theorem cf_impl_gcd : CfW Tryz.prog 80 := cfW Tryz.func80
theorem s_impl_gcd {a1 : Int} {b2 : Int} {r : Int} (h : r_impl_gcd a1 b2 = some r) : zP Tryz.prog 80 [I a1, I b2] (I r) [] := by
 refine CtW [4] Tryz.func80 rfl rfl 13 ?_
 unfold r_impl_gcd at h
 refine VE ?_
 refine zF ?_
 obtain ⟨o6, hLo6, h⟩ := zA h
 refine V_toK (mb 13 1) [] (s1 := ⟨I o6 :: bt 12 [], []⟩) ?_ ?_
 ·clear h
  refine zG (V_loop (fun n s => ∃ (a3 : Int) (b4 : Int), s.keep (mb 13 3) [] = (⟨I a3 :: I b4 :: bt 11 [], []⟩ : St) ∧ r_impl_gcd_L5 n a3 b4 = some o6) FU ⟨_, _,  kk, hLo6⟩ ?_)
  clear hLo6
  rintro n s ⟨a3, b4, hs, h⟩
  refine zV _ _ hs ?_
  clear hs
  cases n with
  | zero => cases h
  | succ n =>
   rw [r_impl_gcd_L5] at h
   refine zF ?_
   refine VE ?_
   refine VC h (fun h => ?_) (fun h => ?_)
   ·refine zK ?_
    show V _ _ _ _
    refine zG ?_
    obtain ⟨z8, hz8, h⟩ := zA h
    obtain ⟨b9, hb9, h⟩ := zU h
    refine V_dreg [0, 0, 0, 6, 3, 31] 6 (cdm 6 [168, 34, 522, 534, 165, 341]) (mb 13 3) [] (s1 := ⟨I b4 :: I b9 :: bt 11 [], []⟩) kk kk ?_ ?_
    ·refine DR 3 ?_
     refine DE_0 3 (I (Int.tmod a3 b4)) kk rfl rfl rfl (zI rfl) kk (Y0_rem (k := .i64) (a := a3) (b := b4) rfl kk kk (nz_some hz8)) 10 rfl ?_
     refine DA 2 ?_
     refine zD ?_
     subst hb9
     kernel_rfl
    exact ⟨n, Nat.lt_succ_self n, _, _,  kk, h⟩
   ·refine V_exit ?_
    obtain rfl := zB h
    show St.keep _ _ _ = _
    kernel_rfl
 show V _ _ _ _
 obtain ⟨y10, hy10, h⟩ := zA h
 refine VS ?_
 refine YK 1 (s_impl_abs hy10) cf_impl_abs ?_
 refine YF ?_
 cases h
 exact zH VT
theorem cf_impl_mod : CfW Tryz.prog 234 := cfW Tryz.func234
theorem s_impl_mod {a1 : Int} {vm2 : Int} {r : Int} (h : r_impl_mod a1 vm2 = some r) : zP Tryz.prog 234 [I a1, I vm2] (I r) [] := by
 refine CtW [4] Tryz.func234 rfl rfl 15 ?_
 unfold r_impl_mod at h
 refine VE ?_
 obtain ⟨z3, hz3, h⟩ := zA h
 obtain ⟨vr4, hvr4, h⟩ := zU h
 refine zO (mb 15 34) [] (s1 := ⟨.bot :: I vm2 :: bt 3 (I vr4 :: bt 9 []), []⟩) ?_ ?_
 ·refine XR 2 ?_
  refine L0 rfl rfl (Y0_rem (k := .i64) (a := a1) (b := vm2) rfl kk kk (nz_some hz3)) ?_
  refine XR 1 ?_
  refine zD ?_
  subst hvr4
  kernel_rfl
 refine zF ?_
 refine VE ?_
 refine VC h (fun h => ?_) (fun h => ?_)
 ·obtain ⟨vr6, hvr6, h⟩ := zU h
  refine V_reg (mb 15 32) [] (s1 := ⟨bt 5 (I vr6 :: bt 9 []), []⟩) ?_ ?_
  ·refine XR 4 ?_
   refine zD ?_
   subst hvr6
   kernel_rfl
  show V _ _ _ _
  refine VE ?_
  cases h
  exact zH VT
 ·refine zK ?_
  show V _ _ _ _
  refine VE ?_
  cases h
  exact zH VT
theorem cf_impl_isNegativeDisc : CfW Tryz.prog 171 := cfW Tryz.func171
theorem s_impl_isNegativeDisc {d1 : Int} {r : Bool} (h : r_impl_isNegativeDisc d1 = some r) : zP Tryz.prog 171 [I d1] (Bo r) [] := by
 refine CtW [2] Tryz.func171 rfl rfl 14 ?_
 unfold r_impl_isNegativeDisc at h
 refine VE ?_
 obtain ⟨b5, hb5, h⟩ := zA h
 refine zO (mb 14 4) [] (s1 := ⟨.bot :: .bot :: Bo b5 :: bt 11 [], []⟩) ?_ ?_
 ·refine YR 3 ?_
  refine zJ (leI (-2000) d1) (fun hc2 => ?_) (fun hc2 => ?_)
  ·refine YQ hc2 ?_
   refine YR 4 ?_
   refine zJ (bif (leI (-2000) d1) then (leI d1 (-3)) else false) (fun hc3 => ?_) (fun hc3 => ?_)
   ·have hb5 := zN hb5 hc3
    obtain ⟨y4, hy4, hb5⟩ := zA hb5
    have hb5 := zB hb5
    refine YQ hc3 ?_ (by rw [hc2]; kernel_rfl)
    refine YK 1 (s_impl_mod hy4) cf_impl_mod ?_
    exact YE (by rw [← hb5]; (try rw [hc3]); (try rw [hc2]); kernel_rfl)
   ·have hb5 := zB (zC hb5 hc3)
    refine YQ hc3 ?_ (by rw [hc2]; kernel_rfl)
    exact YE (by rw [← hb5]; (try rw [hc3]); (try rw [hc2]); kernel_rfl)
  ·refine YQ hc2 ?_
   refine YR 4 ?_
   refine zJ (bif (leI (-2000) d1) then (leI d1 (-3)) else false) (fun hc3 => ?_) (fun hc3 => ?_)
   ·have hb5 := zN hb5 hc3
    obtain ⟨y4, hy4, hb5⟩ := zA hb5
    have hb5 := zB hb5
    refine YQ hc3 ?_ (by rw [hc2]; kernel_rfl)
    refine YK 1 (s_impl_mod hy4) cf_impl_mod ?_
    exact YE (by rw [← hb5]; (try rw [hc3]); (try rw [hc2]); kernel_rfl)
   ·have hb5 := zB (zC hb5 hc3)
    refine YQ hc3 ?_ (by rw [hc2]; kernel_rfl)
    exact YE (by rw [← hb5]; (try rw [hc3]); (try rw [hc2]); kernel_rfl)
 cases h
 exact zH VT
theorem cf_impl_isPrime : CfW Tryz.prog 172 := cfW Tryz.func172
theorem s_impl_isPrime {vn1 : Int} {r : Bool} (h : r_impl_isPrime vn1 = some r) : zP Tryz.prog 172 [I vn1] (Bo r) [] := by
 refine CtW [2] Tryz.func172 rfl rfl 17 ?_
 unfold r_impl_isPrime at h
 refine VE ?_
 refine zF ?_
 refine VE ?_
 refine VC h (fun h => ?_) (fun h => ?_)
 ·refine VE ?_
  cases h
  exact zH VT
 ·refine zK ?_
  show V _ _ _ _
  refine zF ?_
  refine VE ?_
  obtain ⟨qo5, hLo5, hko5⟩ := zA h
  refine V_toS (q := qo5) (S := fun o5 => ⟨bt 17 [], []⟩) (mb 17 0) [] ?_ ?_
  ·refine zG (V_loop (fun n s => ∃ (p3 : Int), s.keep (mb 17 9) [] = (⟨I vn1 :: .bot :: .bot :: I p3 :: bt 13 [], []⟩ : St) ∧ r_impl_isPrime_L4 vn1 n p3 = some qo5) FU ⟨_,  kk, hLo5⟩ ?_)
   clear hLo5
   rintro n s ⟨p3, hs, h⟩
   refine zV _ _ hs ?_
   clear hs
   cases n with
   | zero => cases h
   | succ n =>
    rw [r_impl_isPrime_L4] at h
    refine zF ?_
    refine VE ?_
    refine VC h (fun h => ?_) (fun h => ?_)
    ·refine zK ?_
     show V _ _ _ _
     refine zF ?_
     refine zG ?_
     obtain ⟨z7, hz7, h⟩ := zA h
     refine VS ?_
     refine YR 2 ?_
     refine L0 rfl rfl (Y0_rem (k := .i64) (a := vn1) (b := p3) rfl kk kk (nz_some hz7)) ?_
     refine YF ?_
     refine VC h (fun h => ?_) (fun h => ?_)
     ·refine VE ?_
      refine zH ?_
      obtain rfl := zB h
      have h := hko5
      obtain rfl := zB h
      exact VT
     ·refine zK ?_
      show V _ _ _ _
      obtain ⟨p9, hp9, h⟩ := zU h
      refine V_reg (mb 17 9) [] (s1 := ⟨I vn1 :: .bot :: .bot :: I p9 :: bt 13 [], []⟩) ?_ ?_
      ·refine XR 3 ?_
       refine zD ?_
       subst hp9
       kernel_rfl
      exact ⟨n, Nat.lt_succ_self n, _,  kk, h⟩
    ·refine V_exit ?_
     obtain rfl := zB h
     exact ⟨_, rfl, kk⟩
  rintro o5 rfl
  have h := hko5
  clear hko5
  show V _ _ _ _
  refine VE ?_
  cases h
  exact zH VT
theorem cf_impl_exponent : CfW Tryz.prog 173 := cfW Tryz.func173
theorem s_impl_exponent {vn1 : Int} {p2 : Int} {r : Int} (h : r_impl_exponent vn1 p2 = some r) : zP Tryz.prog 173 [I vn1, I p2] (I r) [] := by
 refine CtW [4] Tryz.func173 rfl rfl 16 ?_
 unfold r_impl_exponent at h
 refine VE ?_
 refine VE ?_
 refine zF ?_
 obtain ⟨o6, hLo6, h⟩ := zA h
 refine V_toK (mb 16 32) [] (s1 := ⟨bt 5 (I o6 :: bt 10 []), []⟩) ?_ ?_
 ·clear h
  refine zG (V_loop (fun n s => ∃ (vn3 : Int) (k4 : Int), s.keep (mb 16 35) [] = (⟨I vn3 :: I p2 :: bt 3 (I k4 :: bt 10 []), []⟩ : St) ∧ r_impl_exponent_L5 p2 n vn3 k4 = some o6) FU ⟨_, _,  kk, hLo6⟩ ?_)
  clear hLo6
  rintro n s ⟨vn3, k4, hs, h⟩
  refine zV _ _ hs ?_
  clear hs
  cases n with
  | zero => cases h
  | succ n =>
   rw [r_impl_exponent_L5] at h
   refine zF ?_
   obtain ⟨z7, hz7, h⟩ := zA h
   refine VS ?_
   refine YR 2 ?_
   refine L0 rfl rfl (Y0_rem (k := .i64) (a := vn3) (b := p2) rfl kk kk (nz_some hz7)) ?_
   refine YF ?_
   refine VC h (fun h => ?_) (fun h => ?_)
   ·refine zK ?_
    show V _ _ _ _
    refine zF ?_
    refine zG ?_
    obtain ⟨k9, hk9, h⟩ := zU h
    refine V_reg (mb 16 35) [] (s1 := ⟨I vn3 :: I p2 :: bt 3 (I k9 :: bt 10 []), []⟩) ?_ ?_
    ·refine XR 3 ?_
     refine zD ?_
     subst hk9
     kernel_rfl
    show V _ _ _ _
    obtain ⟨z10, hz10, h⟩ := zA h
    obtain ⟨vn11, hvn11, h⟩ := zU h
    refine V_reg (mb 16 35) [] (s1 := ⟨I vn11 :: I p2 :: bt 3 (I k9 :: bt 10 []), []⟩) ?_ ?_
    ·refine XR 2 ?_
     refine L0 rfl rfl (zS (a := vn3) (b := p2) rfl kk kk (nz_some hz10)) ?_
     refine XR 1 ?_
     refine zD ?_
     subst hvn11
     kernel_rfl
    exact ⟨n, Nat.lt_succ_self n, _, _,  kk, h⟩
   ·refine V_exit ?_
    obtain rfl := zB h
    show St.keep _ _ _ = _
    kernel_rfl
 show V _ _ _ _
 refine VE ?_
 cases h
 exact zH VT
theorem cf_impl_rootsOfDiscriminant : CfW Tryz.prog 174 := cfW Tryz.func174
theorem s_impl_rootsOfDiscriminant {d1 : Int} {vn2 : Int} {r : List Int} (h : r_impl_rootsOfDiscriminant d1 vn2 = some r) : zP Tryz.prog 174 [I d1, I vn2] (.ow 0) [(0, .arr 3 1 (r.map c3))] := by
 refine CtW [4] Tryz.func174 rfl rfl 28 ?_
 unfold r_impl_rootsOfDiscriminant at h
 refine VS ?_
 refine L1 rfl rfl (Y1_nil (e := 3) 1 (by decide) (.inl rfl)) ?_
 refine YF ?_
 refine VS ?_
 refine L1 rfl rfl (Y1_bslice0 Tryz.underlying24 sz3 (by decide) rfl rfl) ?_
 refine YF ?_
 refine zF ?_
 refine VE ?_
 obtain ⟨o6, hLo6, h⟩ := zA h
 refine V_toK (mb 28 32) [56] (s1 := ⟨bt 5 (.ow 56 :: bt 22 []), [(56, .arr 3 1 (o6.map c3))]⟩) ?_ ?_
 ·clear h
  refine zG (V_loop (fun n s => ∃ (b3 : Int) (l4 : List Int), s.keep (mb 28 99) [56] = (⟨I d1 :: I vn2 :: bt 3 (.ow 56 :: I b3 :: bt 21 []), [(56, .arr 3 1 (l4.map c3))]⟩ : St) ∧ r_impl_rootsOfDiscriminant_L5 d1 vn2 n b3 l4 = some o6) FU ⟨_, _,  kk, hLo6⟩ ?_)
  clear hLo6
  rintro n s ⟨b3, l4, hs, h⟩
  refine zV _ _ hs ?_
  clear hs
  cases n with
  | zero => cases h
  | succ n =>
   rw [r_impl_rootsOfDiscriminant_L5] at h
   refine zF ?_
   refine VE ?_
   refine VC h (fun h => ?_) (fun h => ?_)
   ·refine zK ?_
    show V _ _ _ _
    refine zF ?_
    refine zG ?_
    obtain ⟨z8, hz8, h⟩ := zA h
    obtain ⟨t9, ht9, h⟩ := zA h
    have ht9 := zB ht9
    refine zO (mb 28 4194403) [56] (s1 := ⟨I d1 :: I vn2 :: bt 3 (.ow 56 :: I b3 :: bt 15 (Bo t9 :: bt 5 [])), [(56, .arr 3 1 (l4.map c3))]⟩) ?_ ?_
    ·refine XR 7 ?_
     refine L0 rfl rfl (Y0_rem (k := .i64) (a := w64 ((w64 (b3 * b3)) - d1)) (b := w64 (4 * vn2)) rfl kk kk (nz_some hz8)) ?_
     refine XR 1 ?_
     refine zD ?_
     subst ht9
     kernel_rfl
    refine VC h (fun h => ?_) (fun h => ?_)
    ·obtain ⟨u11, hu11, h⟩ := zA h
     refine zW ?_
     refine YR 2 ?_
     refine L1 rfl rfl (Y1_bslice (z := zv3) (els := [b3].map c3) Tryz.underlying24 iz3 rfl (by decide) rfl kk rfl (by simp [c3]) (by decide) (by decide)) ?_
     refine XL_cons rfl (X_appendM (c := c3) (xs := l4) (ys := [b3]) (id := 56) (z := zv3) rfl rfl Tryz.underlying24 izb3 rfl kk kk kk (fun _ => rfl) (by simp) (room_some hu11) (by decide)) ?_
     refine YF ?_
     show V _ _ _ _
     obtain ⟨b12, hb12, h⟩ := zU h
     refine V_reg (mb 28 99) [56] (s1 := ⟨I d1 :: I vn2 :: bt 3 (.ow 56 :: I b12 :: bt 21 []), [(56, .arr 3 1 ((l4 ++ ([b3])).map c3))]⟩) ?_ ?_
     ·refine XR 3 ?_
      refine zD ?_
      subst hb12
      kernel_rfl
     exact ⟨n, Nat.lt_succ_self n, _, _,  kk, h⟩
    ·refine zK ?_
     show V _ _ _ _
     obtain ⟨b13, hb13, h⟩ := zU h
     refine V_reg (mb 28 99) [56] (s1 := ⟨I d1 :: I vn2 :: bt 3 (.ow 56 :: I b13 :: bt 21 []), [(56, .arr 3 1 (l4.map c3))]⟩) ?_ ?_
     ·refine XR 3 ?_
      refine zD ?_
      subst hb13
      kernel_rfl
     exact ⟨n, Nat.lt_succ_self n, _, _,  kk, h⟩
   ·refine V_exit ?_
    obtain rfl := zB h
    show St.keep _ _ _ = _
    kernel_rfl
 show V _ _ _ _
 refine VE ?_
 cases h
 exact zH VT
theorem cf_impl_isObstruction : CfW Tryz.prog 81 := cfW Tryz.func81
theorem s_impl_isObstruction {d1 : Int} {vn2 : Int} {p3 : Int} {r : Bool} (h : r_impl_isObstruction d1 vn2 p3 = some r) : zP Tryz.prog 81 [I d1, I vn2, I p3] (Bo r) [] := by
 refine CtW [6] Tryz.func81 rfl rfl 35 ?_
 unfold r_impl_isObstruction at h
 refine VE ?_
 obtain ⟨y4, hy4, h⟩ := zA h
 obtain ⟨b9, hb9, h⟩ := zA h
 obtain ⟨b12, hb12, h⟩ := zA h
 obtain ⟨b15, hb15, h⟩ := zA h
 refine zO (mb 35 64) [] (s1 := ⟨bt 6 (Bo b15 :: bt 28 []), []⟩) ?_ ?_
 ·refine YK 1 (s_impl_isNegativeDisc hy4) cf_impl_isNegativeDisc ?_
  refine YR 1 ?_
  refine zJ y4 (fun hc5 => ?_) (fun hc5 => ?_)
  ·refine YQ hc5 ?_
   refine YR 4 ?_
   refine zJ (bif y4 then (leI 1 vn2) else false) (fun hc6 => ?_) (fun hc6 => ?_)
   ·refine YQ hc6 ?_ (by rw [hc5]; kernel_rfl)
    refine YR 4 ?_
    refine zJ (bif (bif y4 then (leI 1 vn2) else false) then (leI p3 2500) else false) (fun hc7 => ?_) (fun hc7 => ?_)
    ·have hb9 := zN hb9 hc7
     obtain ⟨y8, hy8, hb9⟩ := zA hb9
     have hb9 := zB hb9
     refine YQ hc7 ?_ (by rw [hc6]; (try rw [hc5]); kernel_rfl)
     refine YK 1 (s_impl_isPrime hy8) cf_impl_isPrime ?_
     refine YR 2 ?_
     refine zJ b9 (fun hc10 => ?_) (fun hc10 => ?_)
     ·have hb12 := zN hb12 hc10
      obtain ⟨y11, hy11, hb12⟩ := zA hb12
      have hb12 := zB hb12
      refine YQ hc10 ?_ (by rw [← hb9]; (try rw [← hb12]); (try rw [hc7]); (try rw [hc6]); (try rw [hc5]); kernel_rfl)
      refine YK 2 (s_impl_exponent hy11) cf_impl_exponent ?_
      refine YT (X_of_Y0 rfl (Y0_rem (k := .i64) (a := y11) (b := 2) rfl kk kk (by decide))) ?_
      refine YR 3 ?_
      refine zJ b12 (fun hc13 => ?_) (fun hc13 => ?_)
      ·have hb15 := zN hb15 hc13
       obtain ⟨y14, hy14, hb15⟩ := zA hb15
       have hb15 := zB hb15
       refine YQ hc13 ?_ (by rw [← hb12]; (try rw [← hb15]); (try rw [hc7]); (try rw [hc6]); (try rw [hc5]); (try rw [hc10]); kernel_rfl)
       refine YK 2 (s_impl_rootsOfDiscriminant hy14) cf_impl_rootsOfDiscriminant ?_
       refine YT (X_of_Y0 rfl (Y0_lenM (c := c3) (xs := y14) Tryz.underlying24 rfl kk)) ?_
       exact YE (by rw [← hb15]; (try rw [hc7]); (try rw [hc6]); (try rw [hc13]); (try rw [hc5]); (try rw [hc10]); kernel_rfl)
      ·have hb15 := zB (zC hb15 hc13)
       refine YQ hc13 ?_ (by rw [← hb12]; (try rw [← hb15]); (try rw [hc7]); (try rw [hc6]); (try rw [hc5]); (try rw [hc10]); kernel_rfl)
       exact YE (by rw [← hb15]; (try rw [hc7]); (try rw [hc6]); (try rw [hc13]); (try rw [hc5]); (try rw [hc10]); kernel_rfl)
     ·have hb12 := zB (zC hb12 hc10)
      refine YQ hc10 ?_ (by rw [← hb9]; (try rw [← hb15]); (try rw [hc7]); (try rw [hc6]); (try rw [hc5]); kernel_rfl)
      refine YR 7 ?_
      subst hb12
      have hc13 : false = false := rfl
      have hb15 := zB (zC hb15 hc13)
      exact YE (by rw [← hb15]; (try rw [hc7]); (try rw [hc6]); (try rw [hc5]); (try rw [hc10]); kernel_rfl)
    ·have hb9 := zB (zC hb9 hc7)
     refine YQ hc7 ?_ (by rw [hc6]; (try rw [hc5]); kernel_rfl)
     refine YR 4 ?_
     subst hb9
     have hc10 : false = false := rfl
     have hb12 := zB (zC hb12 hc10)
     refine YR 7 ?_
     subst hb12
     have hc13 : false = false := rfl
     have hb15 := zB (zC hb15 hc13)
     exact YE (by rw [← hb15]; (try rw [hc7]); (try rw [hc6]); (try rw [hc5]); kernel_rfl)
   ·refine YQ hc6 ?_ (by rw [hc5]; kernel_rfl)
    refine YR 4 ?_
    refine zJ (bif (bif y4 then (leI 1 vn2) else false) then (leI p3 2500) else false) (fun hc7 => ?_) (fun hc7 => ?_)
    ·have hb9 := zN hb9 hc7
     obtain ⟨y8, hy8, hb9⟩ := zA hb9
     have hb9 := zB hb9
     refine YQ hc7 ?_ (by rw [hc6]; (try rw [hc5]); kernel_rfl)
     refine YK 1 (s_impl_isPrime hy8) cf_impl_isPrime ?_
     refine YR 2 ?_
     refine zJ b9 (fun hc10 => ?_) (fun hc10 => ?_)
     ·have hb12 := zN hb12 hc10
      obtain ⟨y11, hy11, hb12⟩ := zA hb12
      have hb12 := zB hb12
      refine YQ hc10 ?_ (by rw [← hb9]; (try rw [← hb12]); (try rw [hc7]); (try rw [hc6]); (try rw [hc5]); kernel_rfl)
      refine YK 2 (s_impl_exponent hy11) cf_impl_exponent ?_
      refine YT (X_of_Y0 rfl (Y0_rem (k := .i64) (a := y11) (b := 2) rfl kk kk (by decide))) ?_
      refine YR 3 ?_
      refine zJ b12 (fun hc13 => ?_) (fun hc13 => ?_)
      ·have hb15 := zN hb15 hc13
       obtain ⟨y14, hy14, hb15⟩ := zA hb15
       have hb15 := zB hb15
       refine YQ hc13 ?_ (by rw [← hb12]; (try rw [← hb15]); (try rw [hc7]); (try rw [hc6]); (try rw [hc5]); (try rw [hc10]); kernel_rfl)
       refine YK 2 (s_impl_rootsOfDiscriminant hy14) cf_impl_rootsOfDiscriminant ?_
       refine YT (X_of_Y0 rfl (Y0_lenM (c := c3) (xs := y14) Tryz.underlying24 rfl kk)) ?_
       exact YE (by rw [← hb15]; (try rw [hc7]); (try rw [hc6]); (try rw [hc13]); (try rw [hc5]); (try rw [hc10]); kernel_rfl)
      ·have hb15 := zB (zC hb15 hc13)
       refine YQ hc13 ?_ (by rw [← hb12]; (try rw [← hb15]); (try rw [hc7]); (try rw [hc6]); (try rw [hc5]); (try rw [hc10]); kernel_rfl)
       exact YE (by rw [← hb15]; (try rw [hc7]); (try rw [hc6]); (try rw [hc13]); (try rw [hc5]); (try rw [hc10]); kernel_rfl)
     ·have hb12 := zB (zC hb12 hc10)
      refine YQ hc10 ?_ (by rw [← hb9]; (try rw [← hb15]); (try rw [hc7]); (try rw [hc6]); (try rw [hc5]); kernel_rfl)
      refine YR 7 ?_
      subst hb12
      have hc13 : false = false := rfl
      have hb15 := zB (zC hb15 hc13)
      exact YE (by rw [← hb15]; (try rw [hc7]); (try rw [hc6]); (try rw [hc5]); (try rw [hc10]); kernel_rfl)
    ·have hb9 := zB (zC hb9 hc7)
     refine YQ hc7 ?_ (by rw [hc6]; (try rw [hc5]); kernel_rfl)
     refine YR 4 ?_
     subst hb9
     have hc10 : false = false := rfl
     have hb12 := zB (zC hb12 hc10)
     refine YR 7 ?_
     subst hb12
     have hc13 : false = false := rfl
     have hb15 := zB (zC hb15 hc13)
     exact YE (by rw [← hb15]; (try rw [hc7]); (try rw [hc6]); (try rw [hc5]); kernel_rfl)
  ·refine YQ hc5 ?_
   refine YR 4 ?_
   refine zJ (bif y4 then (leI 1 vn2) else false) (fun hc6 => ?_) (fun hc6 => ?_)
   ·refine YQ hc6 ?_ (by rw [hc5]; kernel_rfl)
    refine YR 4 ?_
    refine zJ (bif (bif y4 then (leI 1 vn2) else false) then (leI p3 2500) else false) (fun hc7 => ?_) (fun hc7 => ?_)
    ·have hb9 := zN hb9 hc7
     obtain ⟨y8, hy8, hb9⟩ := zA hb9
     have hb9 := zB hb9
     refine YQ hc7 ?_ (by rw [hc6]; (try rw [hc5]); kernel_rfl)
     refine YK 1 (s_impl_isPrime hy8) cf_impl_isPrime ?_
     refine YR 2 ?_
     refine zJ b9 (fun hc10 => ?_) (fun hc10 => ?_)
     ·have hb12 := zN hb12 hc10
      obtain ⟨y11, hy11, hb12⟩ := zA hb12
      have hb12 := zB hb12
      refine YQ hc10 ?_ (by rw [← hb9]; (try rw [← hb12]); (try rw [hc7]); (try rw [hc6]); (try rw [hc5]); kernel_rfl)
      refine YK 2 (s_impl_exponent hy11) cf_impl_exponent ?_
      refine YT (X_of_Y0 rfl (Y0_rem (k := .i64) (a := y11) (b := 2) rfl kk kk (by decide))) ?_
      refine YR 3 ?_
      refine zJ b12 (fun hc13 => ?_) (fun hc13 => ?_)
      ·have hb15 := zN hb15 hc13
       obtain ⟨y14, hy14, hb15⟩ := zA hb15
       have hb15 := zB hb15
       refine YQ hc13 ?_ (by rw [← hb12]; (try rw [← hb15]); (try rw [hc7]); (try rw [hc6]); (try rw [hc5]); (try rw [hc10]); kernel_rfl)
       refine YK 2 (s_impl_rootsOfDiscriminant hy14) cf_impl_rootsOfDiscriminant ?_
       refine YT (X_of_Y0 rfl (Y0_lenM (c := c3) (xs := y14) Tryz.underlying24 rfl kk)) ?_
       exact YE (by rw [← hb15]; (try rw [hc7]); (try rw [hc6]); (try rw [hc13]); (try rw [hc5]); (try rw [hc10]); kernel_rfl)
      ·have hb15 := zB (zC hb15 hc13)
       refine YQ hc13 ?_ (by rw [← hb12]; (try rw [← hb15]); (try rw [hc7]); (try rw [hc6]); (try rw [hc5]); (try rw [hc10]); kernel_rfl)
       exact YE (by rw [← hb15]; (try rw [hc7]); (try rw [hc6]); (try rw [hc13]); (try rw [hc5]); (try rw [hc10]); kernel_rfl)
     ·have hb12 := zB (zC hb12 hc10)
      refine YQ hc10 ?_ (by rw [← hb9]; (try rw [← hb15]); (try rw [hc7]); (try rw [hc6]); (try rw [hc5]); kernel_rfl)
      refine YR 7 ?_
      subst hb12
      have hc13 : false = false := rfl
      have hb15 := zB (zC hb15 hc13)
      exact YE (by rw [← hb15]; (try rw [hc7]); (try rw [hc6]); (try rw [hc5]); (try rw [hc10]); kernel_rfl)
    ·have hb9 := zB (zC hb9 hc7)
     refine YQ hc7 ?_ (by rw [hc6]; (try rw [hc5]); kernel_rfl)
     refine YR 4 ?_
     subst hb9
     have hc10 : false = false := rfl
     have hb12 := zB (zC hb12 hc10)
     refine YR 7 ?_
     subst hb12
     have hc13 : false = false := rfl
     have hb15 := zB (zC hb15 hc13)
     exact YE (by rw [← hb15]; (try rw [hc7]); (try rw [hc6]); (try rw [hc5]); kernel_rfl)
   ·refine YQ hc6 ?_ (by rw [hc5]; kernel_rfl)
    refine YR 4 ?_
    refine zJ (bif (bif y4 then (leI 1 vn2) else false) then (leI p3 2500) else false) (fun hc7 => ?_) (fun hc7 => ?_)
    ·have hb9 := zN hb9 hc7
     obtain ⟨y8, hy8, hb9⟩ := zA hb9
     have hb9 := zB hb9
     refine YQ hc7 ?_ (by rw [hc6]; (try rw [hc5]); kernel_rfl)
     refine YK 1 (s_impl_isPrime hy8) cf_impl_isPrime ?_
     refine YR 2 ?_
     refine zJ b9 (fun hc10 => ?_) (fun hc10 => ?_)
     ·have hb12 := zN hb12 hc10
      obtain ⟨y11, hy11, hb12⟩ := zA hb12
      have hb12 := zB hb12
      refine YQ hc10 ?_ (by rw [← hb9]; (try rw [← hb12]); (try rw [hc7]); (try rw [hc6]); (try rw [hc5]); kernel_rfl)
      refine YK 2 (s_impl_exponent hy11) cf_impl_exponent ?_
      refine YT (X_of_Y0 rfl (Y0_rem (k := .i64) (a := y11) (b := 2) rfl kk kk (by decide))) ?_
      refine YR 3 ?_
      refine zJ b12 (fun hc13 => ?_) (fun hc13 => ?_)
      ·have hb15 := zN hb15 hc13
       obtain ⟨y14, hy14, hb15⟩ := zA hb15
       have hb15 := zB hb15
       refine YQ hc13 ?_ (by rw [← hb12]; (try rw [← hb15]); (try rw [hc7]); (try rw [hc6]); (try rw [hc5]); (try rw [hc10]); kernel_rfl)
       refine YK 2 (s_impl_rootsOfDiscriminant hy14) cf_impl_rootsOfDiscriminant ?_
       refine YT (X_of_Y0 rfl (Y0_lenM (c := c3) (xs := y14) Tryz.underlying24 rfl kk)) ?_
       exact YE (by rw [← hb15]; (try rw [hc7]); (try rw [hc6]); (try rw [hc13]); (try rw [hc5]); (try rw [hc10]); kernel_rfl)
      ·have hb15 := zB (zC hb15 hc13)
       refine YQ hc13 ?_ (by rw [← hb12]; (try rw [← hb15]); (try rw [hc7]); (try rw [hc6]); (try rw [hc5]); (try rw [hc10]); kernel_rfl)
       exact YE (by rw [← hb15]; (try rw [hc7]); (try rw [hc6]); (try rw [hc13]); (try rw [hc5]); (try rw [hc10]); kernel_rfl)
     ·have hb12 := zB (zC hb12 hc10)
      refine YQ hc10 ?_ (by rw [← hb9]; (try rw [← hb15]); (try rw [hc7]); (try rw [hc6]); (try rw [hc5]); kernel_rfl)
      refine YR 7 ?_
      subst hb12
      have hc13 : false = false := rfl
      have hb15 := zB (zC hb15 hc13)
      exact YE (by rw [← hb15]; (try rw [hc7]); (try rw [hc6]); (try rw [hc5]); (try rw [hc10]); kernel_rfl)
    ·have hb9 := zB (zC hb9 hc7)
     refine YQ hc7 ?_ (by rw [hc6]; (try rw [hc5]); kernel_rfl)
     refine YR 4 ?_
     subst hb9
     have hc10 : false = false := rfl
     have hb12 := zB (zC hb12 hc10)
     refine YR 7 ?_
     subst hb12
     have hc13 : false = false := rfl
     have hb15 := zB (zC hb15 hc13)
     exact YE (by rw [← hb15]; (try rw [hc7]); (try rw [hc6]); (try rw [hc5]); kernel_rfl)
 cases h
 exact zH VT
end Go.Proofs.YtfmjfofocklgpaaGreatDoor
namespace Go.Proofs.YtfmjfofocklgpaaGreatDoor
open Go.RowKit
set_option linter.unusedVariables false
set_option linter.unusedSimpArgs false
set_option maxRecDepth 100000
set_option maxHeartbeats 400000
theorem cf_impl_isShownForm : CfW Tryz.prog 187 := cfW Tryz.func187
theorem s_impl_isShownForm {f1 : (Int × Int × Int)} {r : Bool} (h : r_impl_isShownForm f1 = some r) : zP Tryz.prog 187 [.ag [Ti f1.1, Ti f1.2.1, Ti f1.2.2]] (Bo r) [] := by
 refine CtW [2] Tryz.func187 rfl rfl 10 ?_
 unfold r_impl_isShownForm at h
 refine VE ?_
 obtain ⟨y2, hy2, h⟩ := zA h
 obtain ⟨b5, hb5, h⟩ := zA h
 refine zO (mb 10 4) [] (s1 := ⟨.bot :: .bot :: Bo b5 :: bt 7 [], []⟩) ?_ ?_
 ·refine YK 1 (s_impl_isDefinite hy2) cf_impl_isDefinite ?_
  refine YR 1 ?_
  refine zJ y2 (fun hc3 => ?_) (fun hc3 => ?_)
  ·have hb5 := zN hb5 hc3
   obtain ⟨y4, hy4, hb5⟩ := zA hb5
   have hb5 := zB hb5
   refine YQ hc3 ?_
   refine YK 1 (s_impl_Form_disc hy4) cf_impl_Form_disc ?_
   exact YE (by rw [← hb5]; (try rw [hc3]); kernel_rfl)
  ·have hb5 := zB (zC hb5 hc3)
   refine YQ hc3 ?_
   exact YE (by rw [← hb5]; (try rw [hc3]); kernel_rfl)
 cases h
 exact zH VT
theorem cf_impl_Form_content : CfW Tryz.prog 188 := cfW Tryz.func188
theorem s_impl_Form_content {f1 : (Int × Int × Int)} {r : Int} (h : r_impl_Form_content f1 = some r) : zP Tryz.prog 188 [.ag [Ti f1.1, Ti f1.2.1, Ti f1.2.2]] (I r) [] := by
 refine CtW [2] Tryz.func188 rfl rfl 11 ?_
 unfold r_impl_Form_content at h
 refine VE ?_
 obtain ⟨y2, hy2, h⟩ := zA h
 obtain ⟨y3, hy3, h⟩ := zA h
 refine VDS [0, 1, 0, 4, 0, 16, 60, 127, 255] 9 (cdm 9 [10912, 10913, 2570, 2586, 170, 426, 1370, 5461, 21845]) ?_
 refine EK 6 (s_impl_gcd hy2) cf_impl_gcd ?_
 refine EK 0 (s_impl_gcd hy3) cf_impl_gcd ?_
 refine EF 1 ?_
 cases h
 exact zH VT
theorem cf_impl_isClassForm : CfW Tryz.prog 104 := cfW Tryz.func104
theorem s_impl_isClassForm {f1 : (Int × Int × Int)} {r : Bool} (h : r_impl_isClassForm f1 = some r) : zP Tryz.prog 104 [.ag [Ti f1.1, Ti f1.2.1, Ti f1.2.2]] (Bo r) [] := by
 refine CtW [2] Tryz.func104 rfl rfl 10 ?_
 unfold r_impl_isClassForm at h
 refine VE ?_
 obtain ⟨y2, hy2, h⟩ := zA h
 obtain ⟨b5, hb5, h⟩ := zA h
 refine zO (mb 10 4) [] (s1 := ⟨.bot :: .bot :: Bo b5 :: bt 7 [], []⟩) ?_ ?_
 ·refine YK 1 (s_impl_isShownForm hy2) cf_impl_isShownForm ?_
  refine YR 1 ?_
  refine zJ y2 (fun hc3 => ?_) (fun hc3 => ?_)
  ·have hb5 := zN hb5 hc3
   obtain ⟨y4, hy4, hb5⟩ := zA hb5
   have hb5 := zB hb5
   refine YQ hc3 ?_
   refine YK 1 (s_impl_Form_content hy4) cf_impl_Form_content ?_
   exact YE (by rw [← hb5]; (try rw [hc3]); kernel_rfl)
  ·have hb5 := zB (zC hb5 hc3)
   refine YQ hc3 ?_
   exact YE (by rw [← hb5]; (try rw [hc3]); kernel_rfl)
 cases h
 exact zH VT
theorem cf_impl_arePair : CfW Tryz.prog 175 := cfW Tryz.func175
theorem s_impl_arePair {f1 : (Int × Int × Int)} {g2 : (Int × Int × Int)} {r : Bool} (h : r_impl_arePair f1 g2 = some r) : zP Tryz.prog 175 [.ag [Ti f1.1, Ti f1.2.1, Ti f1.2.2], .ag [Ti g2.1, Ti g2.2.1, Ti g2.2.2]] (Bo r) [] := by
 refine CtW [4] Tryz.func175 rfl rfl 18 ?_
 unfold r_impl_arePair at h
 refine VE ?_
 obtain ⟨y3, hy3, h⟩ := zA h
 obtain ⟨b6, hb6, h⟩ := zA h
 obtain ⟨b10, hb10, h⟩ := zA h
 refine V_sdreg [0, 1, 3, 7, 15, 31, 63, 127, 255, 127, 1023, 2047, 4095, 8191] 14 (cdm 14 [0, 1, 5, 21, 85, 341, 1365, 529749, 546133, 169301, 349525, 1398101, 5592405, 22369621]) (mb 18 16) [] (s1 := ⟨bt 4 (Bo b10 :: bt 13 []), []⟩) kk kk ?_ ?_
 ·refine EK 1 (s_impl_isClassForm hy3) cf_impl_isClassForm ?_
  refine ER 1 ?_
  refine DL_split y3 (fun hc4 => ?_) (fun hc4 => ?_)
  ·have hb6 := zN hb6 hc4
   obtain ⟨y5, hy5, hb6⟩ := zA hb6
   have hb6 := zB hb6
   refine EQ hc4 ?_
   refine EK 1 (s_impl_isClassForm hy5) cf_impl_isClassForm ?_
   refine ER 2 ?_
   refine DL_split b6 (fun hc7 => ?_) (fun hc7 => ?_)
   ·have hb10 := zN hb10 hc7
    obtain ⟨y8, hy8, hb10⟩ := zA hb10
    obtain ⟨y9, hy9, hb10⟩ := zA hb10
    have hb10 := zB hb10
    refine EQ hc7 ?_ (by rw [← hb6]; (try rw [← hb10]); (try rw [hc4]); kernel_rfl)
    refine EK 1 (s_impl_Form_disc hy8) cf_impl_Form_disc ?_
    refine EK 1 (s_impl_Form_disc hy9) cf_impl_Form_disc ?_
    refine EA 3 ?_
    exact YE (by rw [← hb10]; (try rw [hc4]); (try rw [hc7]); kernel_rfl)
   ·have hb10 := zB (zC hb10 hc7)
    refine EQ hc7 ?_ (by rw [← hb6]; (try rw [← hb10]); (try rw [hc4]); kernel_rfl)
    refine EA 7 ?_
    exact YE (by rw [← hb10]; (try rw [hc4]); (try rw [hc7]); kernel_rfl)
  ·have hb6 := zB (zC hb6 hc4)
   refine EQ hc4 ?_
   refine ER 4 ?_
   subst hb6
   have hc7 : false = false := rfl
   have hb10 := zB (zC hb10 hc7)
   refine EA 7 ?_
   exact YE (by rw [← hb10]; (try rw [hc4]); kernel_rfl)
 cases h
 exact zH VT
theorem cf_impl_squareOf : CfW Tryz.prog 176 := cfW Tryz.func176
theorem s_impl_squareOf {p1 : (Int × Int × Int × Int)} {q2 : (Int × Int × Int × Int)} {r : (((Int × Int × Int)) × ((Int × Int × Int)) × ((Int × Int × Int)))} (h : r_impl_squareOf p1 q2 = some r) : zP Tryz.prog 176 [.ag [Ti p1.1, Ti p1.2.1, Ti p1.2.2.1, Ti p1.2.2.2], .ag [Ti q2.1, Ti q2.2.1, Ti q2.2.2.1, Ti q2.2.2.2]] (.ag [Ti r.1.1, Ti r.1.2.1, Ti r.1.2.2, Ti r.2.1.1, Ti r.2.1.2.1, Ti r.2.1.2.2, Ti r.2.2.1, Ti r.2.2.2.1, Ti r.2.2.2.2]) [] := by
 refine zT (rs := [.w 4 9]) (vs := [.cell 4 169]) Tryz.func176 rfl rfl (.cons ⟨rfl, wd169⟩ FitsL.nil) (by decide) 43 rfl ?_
 unfold r_impl_squareOf at h
 refine VE ?_
 refine VS ?_
 refine L0 rfl rfl (Y0_build (cs := [Ti 0, Ti 0, Ti 0, Ti 0, Ti 0, Ti 0, Ti 0, Ti 0, Ti 0]) pl169 bt169 rfl rfl kk) ?_
 refine YF ?_
 refine zF ?_
 refine VE ?_
 refine zG (V_unroll 40 ?_)
 refine VR_s (n := 39) ?_
 refine zV (mb 43 6200) [40, 32, 24] (s' := ⟨bt 3 (.pt 24 0 :: .pt 32 0 :: .pt 40 0 :: bt 5 (.ag [Ti p1.1, Ti p1.2.1, Ti p1.2.2.1, Ti p1.2.2.2] :: I 0 :: bt 30 [])), [(40, .box [Ti 0, Ti 0, Ti 0, Ti 0, Ti 0, Ti 0, Ti 0, Ti 0, Ti 0]), (32, .box [Ti 0, Ti 0, Ti 0, Ti 0, Ti 0, Ti 0, Ti 0, Ti 0, Ti 0]), (24, .box [Ti q2.1, Ti q2.2.1, Ti q2.2.2.1, Ti q2.2.2.2])]⟩) kk ?_
 refine VE ?_
 refine zF ?_
 refine V_cond_true rfl ?_
 refine zK ?_
 show V _ _ _ _
 refine zF ?_
 refine zG ?_
 refine VS ?_
 refine YR 1 ?_
 refine L0 rfl rfl (Y0_indexA (c := fun v => [Ti v]) (xs := [p1.1, p1.2.1, p1.2.2.1, p1.2.2.2]) (v := p1.1) (k := .i64) (n := 0) Tryz.underlying167 sc3 sz3 rfl kk kk rfl (fun _ => rfl) rfl rfl) ?_
 refine YF ?_
 refine VE ?_
 refine zG (V_unroll 40 ?_)
 refine VR_s (n := 39) ?_
 refine zV (mb 43 203000) [40, 32, 24] (s' := ⟨bt 3 (.pt 24 0 :: .pt 32 0 :: .pt 40 0 :: I 0 :: I p1.1 :: bt 3 (.ag [Ti p1.1, Ti p1.2.1, Ti p1.2.2.1, Ti p1.2.2.2] :: I 0 :: bt 3 (.ag [Ti q2.1, Ti q2.2.1, Ti q2.2.2.1, Ti q2.2.2.2] :: I 0 :: bt 25 []))), [(40, .box [Ti 0, Ti 0, Ti 0, Ti 0, Ti 0, Ti 0, Ti 0, Ti 0, Ti 0]), (32, .box [Ti 0, Ti 0, Ti 0, Ti 0, Ti 0, Ti 0, Ti 0, Ti 0, Ti 0]), (24, .box [Ti q2.1, Ti q2.2.1, Ti q2.2.2.1, Ti q2.2.2.2])]⟩) kk ?_
 refine VE ?_
 refine zF ?_
 refine V_cond_true rfl ?_
 refine zK ?_
 show V _ _ _ _
 refine zF ?_
 refine zG ?_
 refine VS ?_
 refine YR 1 ?_
 refine L0 rfl rfl (Y0_indexA (c := fun v => [Ti v]) (xs := [q2.1, q2.2.1, q2.2.2.1, q2.2.2.2]) (v := q2.1) (k := .i64) (n := 0) Tryz.underlying167 sc3 sz3 rfl kk kk rfl (fun _ => rfl) rfl rfl) ?_
 refine YF ?_
 obtain ⟨f5, hf5, h⟩ := zU h
 refine V_dreg [0, 1, 0, 4, 15, 0, 32, 0, 128, 480, 31, 2047, 4095, 0, 0, 24576, 65535, 31, 262143, 524287] 19 (cdm 19 [2819270816, 2819270817, 2819270666, 2819270682, 2819270741, 37180572330, 37180573354, 37180418730, 37180435114, 37180495530, 37179009365, 37179708757, 37183903061, 34941348522, 34538695338, 34740021930, 35791394133, 11453245781, 22906492245]) (mb 43 203000) [40, 32, 24] (s1 := ⟨bt 3 (.pt 24 0 :: .pt 32 0 :: .pt 40 0 :: I 0 :: I p1.1 :: bt 3 (.ag [Ti p1.1, Ti p1.2.1, Ti p1.2.2.1, Ti p1.2.2.2] :: I 0 :: bt 3 (.ag [Ti q2.1, Ti q2.2.1, Ti q2.2.2.1, Ti q2.2.2.2] :: I 0 :: bt 25 []))), [(40, .box [Ti f5, Ti 0, Ti 0, Ti 0, Ti 0, Ti 0, Ti 0, Ti 0, Ti 0]), (32, .box [Ti 0, Ti 0, Ti 0, Ti 0, Ti 0, Ti 0, Ti 0, Ti 0, Ti 0]), (24, .box [Ti q2.1, Ti q2.2.1, Ti q2.2.2.1, Ti q2.2.2.2])]⟩) kk kk ?_ ?_
 ·refine DR 1 ?_
  refine DE_0 1 (I 0) kk rfl rfl rfl (zI rfl) kk (zS (a := 0) (b := 2) rfl kk kk (by decide)) 22 rfl ?_
  refine DR 1 ?_
  refine DE_0 3 (I 0) kk rfl rfl rfl (zI rfl) kk (zS (a := 0) (b := 2) rfl kk kk (by decide)) 24 rfl ?_
  refine DR 2 ?_
  refine DE_0 6 (I 0) kk rfl rfl rfl (zI rfl) kk (Y0_rem (k := .i64) (a := 0) (b := 2) rfl kk kk (by decide)) 27 rfl ?_
  refine DR 1 ?_
  refine DE_0 8 (I 0) kk rfl rfl rfl (zI rfl) kk (Y0_rem (k := .i64) (a := 0) (b := 2) rfl kk kk (by decide)) 29 rfl ?_
  refine DA 10 ?_
  refine XR 1 ?_
  refine zD ?_
  subst hf5
  kernel_rfl
 show V _ _ _ _
 refine zW ?_
 refine YF ?_
 show VR _ _ _ _ _
 refine VR_s (n := 38) ?_
 refine zV (mb 43 203000) [40, 32, 24] (s' := ⟨bt 3 (.pt 24 0 :: .pt 32 0 :: .pt 40 0 :: I 0 :: I p1.1 :: bt 3 (.ag [Ti p1.1, Ti p1.2.1, Ti p1.2.2.1, Ti p1.2.2.2] :: I 0 :: bt 3 (.ag [Ti q2.1, Ti q2.2.1, Ti q2.2.2.1, Ti q2.2.2.2] :: I 1 :: bt 25 []))), [(40, .box [Ti f5, Ti 0, Ti 0, Ti 0, Ti 0, Ti 0, Ti 0, Ti 0, Ti 0]), (32, .box [Ti 0, Ti 0, Ti 0, Ti 0, Ti 0, Ti 0, Ti 0, Ti 0, Ti 0]), (24, .box [Ti q2.1, Ti q2.2.1, Ti q2.2.2.1, Ti q2.2.2.2])]⟩) kk ?_
 refine VE ?_
 refine zF ?_
 refine V_cond_true rfl ?_
 refine zK ?_
 show V _ _ _ _
 refine zF ?_
 refine zG ?_
 refine VS ?_
 refine YR 1 ?_
 refine L0 rfl rfl (Y0_indexA (c := fun v => [Ti v]) (xs := [q2.1, q2.2.1, q2.2.2.1, q2.2.2.2]) (v := q2.2.1) (k := .i64) (n := 1) Tryz.underlying167 sc3 sz3 rfl kk kk rfl (fun _ => rfl) rfl rfl) ?_
 refine YF ?_
 obtain ⟨f7, hf7, h⟩ := zU h
 refine V_dreg [0, 1, 0, 4, 15, 0, 32, 0, 128, 480, 31, 2047, 4095, 0, 0, 24576, 65535, 31, 262143, 524287] 19 (cdm 19 [2819270816, 2819270817, 2819270666, 2819270682, 2819270741, 37180572330, 37180573354, 37180418730, 37180435114, 37180495530, 37179009365, 37179708757, 37183903061, 34941348522, 34538695338, 34740021930, 35791394133, 11453245781, 22906492245]) (mb 43 203000) [40, 32, 24] (s1 := ⟨bt 3 (.pt 24 0 :: .pt 32 0 :: .pt 40 0 :: I 0 :: I p1.1 :: bt 3 (.ag [Ti p1.1, Ti p1.2.1, Ti p1.2.2.1, Ti p1.2.2.2] :: I 0 :: bt 3 (.ag [Ti q2.1, Ti q2.2.1, Ti q2.2.2.1, Ti q2.2.2.2] :: I 1 :: bt 25 []))), [(40, .box [Ti f5, Ti f7, Ti 0, Ti 0, Ti 0, Ti 0, Ti 0, Ti 0, Ti 0]), (32, .box [Ti 0, Ti 0, Ti 0, Ti 0, Ti 0, Ti 0, Ti 0, Ti 0, Ti 0]), (24, .box [Ti q2.1, Ti q2.2.1, Ti q2.2.2.1, Ti q2.2.2.2])]⟩) kk kk ?_ ?_
 ·refine DR 1 ?_
  refine DE_0 1 (I 0) kk rfl rfl rfl (zI rfl) kk (zS (a := 0) (b := 2) rfl kk kk (by decide)) 22 rfl ?_
  refine DR 1 ?_
  refine DE_0 3 (I 0) kk rfl rfl rfl (zI rfl) kk (zS (a := 1) (b := 2) rfl kk kk (by decide)) 24 rfl ?_
  refine DR 2 ?_
  refine DE_0 6 (I 0) kk rfl rfl rfl (zI rfl) kk (Y0_rem (k := .i64) (a := 0) (b := 2) rfl kk kk (by decide)) 27 rfl ?_
  refine DR 1 ?_
  refine DE_0 8 (I 1) kk rfl rfl rfl (zI rfl) kk (Y0_rem (k := .i64) (a := 1) (b := 2) rfl kk kk (by decide)) 29 rfl ?_
  refine DA 10 ?_
  refine XR 1 ?_
  refine zD ?_
  subst hf7
  kernel_rfl
 show V _ _ _ _
 refine zW ?_
 refine YF ?_
 show VR _ _ _ _ _
 refine VR_s (n := 37) ?_
 refine zV (mb 43 203000) [40, 32, 24] (s' := ⟨bt 3 (.pt 24 0 :: .pt 32 0 :: .pt 40 0 :: I 0 :: I p1.1 :: bt 3 (.ag [Ti p1.1, Ti p1.2.1, Ti p1.2.2.1, Ti p1.2.2.2] :: I 0 :: bt 3 (.ag [Ti q2.1, Ti q2.2.1, Ti q2.2.2.1, Ti q2.2.2.2] :: I 2 :: bt 25 []))), [(40, .box [Ti f5, Ti f7, Ti 0, Ti 0, Ti 0, Ti 0, Ti 0, Ti 0, Ti 0]), (32, .box [Ti 0, Ti 0, Ti 0, Ti 0, Ti 0, Ti 0, Ti 0, Ti 0, Ti 0]), (24, .box [Ti q2.1, Ti q2.2.1, Ti q2.2.2.1, Ti q2.2.2.2])]⟩) kk ?_
 refine VE ?_
 refine zF ?_
 refine V_cond_true rfl ?_
 refine zK ?_
 show V _ _ _ _
 refine zF ?_
 refine zG ?_
 refine VS ?_
 refine YR 1 ?_
 refine L0 rfl rfl (Y0_indexA (c := fun v => [Ti v]) (xs := [q2.1, q2.2.1, q2.2.2.1, q2.2.2.2]) (v := q2.2.2.1) (k := .i64) (n := 2) Tryz.underlying167 sc3 sz3 rfl kk kk rfl (fun _ => rfl) rfl rfl) ?_
 refine YF ?_
 obtain ⟨f9, hf9, h⟩ := zU h
 refine V_dreg [0, 1, 0, 4, 15, 0, 32, 0, 128, 480, 31, 2047, 4095, 0, 0, 24576, 65535, 31, 262143, 524287] 19 (cdm 19 [2819270816, 2819270817, 2819270666, 2819270682, 2819270741, 37180572330, 37180573354, 37180418730, 37180435114, 37180495530, 37179009365, 37179708757, 37183903061, 34941348522, 34538695338, 34740021930, 35791394133, 11453245781, 22906492245]) (mb 43 203000) [40, 32, 24] (s1 := ⟨bt 3 (.pt 24 0 :: .pt 32 0 :: .pt 40 0 :: I 0 :: I p1.1 :: bt 3 (.ag [Ti p1.1, Ti p1.2.1, Ti p1.2.2.1, Ti p1.2.2.2] :: I 0 :: bt 3 (.ag [Ti q2.1, Ti q2.2.1, Ti q2.2.2.1, Ti q2.2.2.2] :: I 2 :: bt 25 []))), [(40, .box [Ti f5, Ti f7, Ti 0, Ti f9, Ti 0, Ti 0, Ti 0, Ti 0, Ti 0]), (32, .box [Ti 0, Ti 0, Ti 0, Ti 0, Ti 0, Ti 0, Ti 0, Ti 0, Ti 0]), (24, .box [Ti q2.1, Ti q2.2.1, Ti q2.2.2.1, Ti q2.2.2.2])]⟩) kk kk ?_ ?_
 ·refine DR 1 ?_
  refine DE_0 1 (I 0) kk rfl rfl rfl (zI rfl) kk (zS (a := 0) (b := 2) rfl kk kk (by decide)) 22 rfl ?_
  refine DR 1 ?_
  refine DE_0 3 (I 1) kk rfl rfl rfl (zI rfl) kk (zS (a := 2) (b := 2) rfl kk kk (by decide)) 24 rfl ?_
  refine DR 2 ?_
  refine DE_0 6 (I 0) kk rfl rfl rfl (zI rfl) kk (Y0_rem (k := .i64) (a := 0) (b := 2) rfl kk kk (by decide)) 27 rfl ?_
  refine DR 1 ?_
  refine DE_0 8 (I 0) kk rfl rfl rfl (zI rfl) kk (Y0_rem (k := .i64) (a := 2) (b := 2) rfl kk kk (by decide)) 29 rfl ?_
  refine DA 10 ?_
  refine XR 1 ?_
  refine zD ?_
  subst hf9
  kernel_rfl
 show V _ _ _ _
 refine zW ?_
 refine YF ?_
 show VR _ _ _ _ _
 refine VR_s (n := 36) ?_
 refine zV (mb 43 203000) [40, 32, 24] (s' := ⟨bt 3 (.pt 24 0 :: .pt 32 0 :: .pt 40 0 :: I 0 :: I p1.1 :: bt 3 (.ag [Ti p1.1, Ti p1.2.1, Ti p1.2.2.1, Ti p1.2.2.2] :: I 0 :: bt 3 (.ag [Ti q2.1, Ti q2.2.1, Ti q2.2.2.1, Ti q2.2.2.2] :: I 3 :: bt 25 []))), [(40, .box [Ti f5, Ti f7, Ti 0, Ti f9, Ti 0, Ti 0, Ti 0, Ti 0, Ti 0]), (32, .box [Ti 0, Ti 0, Ti 0, Ti 0, Ti 0, Ti 0, Ti 0, Ti 0, Ti 0]), (24, .box [Ti q2.1, Ti q2.2.1, Ti q2.2.2.1, Ti q2.2.2.2])]⟩) kk ?_
 refine VE ?_
 refine zF ?_
 refine V_cond_true rfl ?_
 refine zK ?_
 show V _ _ _ _
 refine zF ?_
 refine zG ?_
 refine VS ?_
 refine YR 1 ?_
 refine L0 rfl rfl (Y0_indexA (c := fun v => [Ti v]) (xs := [q2.1, q2.2.1, q2.2.2.1, q2.2.2.2]) (v := q2.2.2.2) (k := .i64) (n := 3) Tryz.underlying167 sc3 sz3 rfl kk kk rfl (fun _ => rfl) rfl rfl) ?_
 refine YF ?_
 obtain ⟨f11, hf11, h⟩ := zU h
 refine V_dreg [0, 1, 0, 4, 15, 0, 32, 0, 128, 480, 31, 2047, 4095, 0, 0, 24576, 65535, 31, 262143, 524287] 19 (cdm 19 [2819270816, 2819270817, 2819270666, 2819270682, 2819270741, 37180572330, 37180573354, 37180418730, 37180435114, 37180495530, 37179009365, 37179708757, 37183903061, 34941348522, 34538695338, 34740021930, 35791394133, 11453245781, 22906492245]) (mb 43 203000) [40, 32, 24] (s1 := ⟨bt 3 (.pt 24 0 :: .pt 32 0 :: .pt 40 0 :: I 0 :: I p1.1 :: bt 3 (.ag [Ti p1.1, Ti p1.2.1, Ti p1.2.2.1, Ti p1.2.2.2] :: I 0 :: bt 3 (.ag [Ti q2.1, Ti q2.2.1, Ti q2.2.2.1, Ti q2.2.2.2] :: I 3 :: bt 25 []))), [(40, .box [Ti f5, Ti f7, Ti 0, Ti f9, Ti f11, Ti 0, Ti 0, Ti 0, Ti 0]), (32, .box [Ti 0, Ti 0, Ti 0, Ti 0, Ti 0, Ti 0, Ti 0, Ti 0, Ti 0]), (24, .box [Ti q2.1, Ti q2.2.1, Ti q2.2.2.1, Ti q2.2.2.2])]⟩) kk kk ?_ ?_
 ·refine DR 1 ?_
  refine DE_0 1 (I 0) kk rfl rfl rfl (zI rfl) kk (zS (a := 0) (b := 2) rfl kk kk (by decide)) 22 rfl ?_
  refine DR 1 ?_
  refine DE_0 3 (I 1) kk rfl rfl rfl (zI rfl) kk (zS (a := 3) (b := 2) rfl kk kk (by decide)) 24 rfl ?_
  refine DR 2 ?_
  refine DE_0 6 (I 0) kk rfl rfl rfl (zI rfl) kk (Y0_rem (k := .i64) (a := 0) (b := 2) rfl kk kk (by decide)) 27 rfl ?_
  refine DR 1 ?_
  refine DE_0 8 (I 1) kk rfl rfl rfl (zI rfl) kk (Y0_rem (k := .i64) (a := 3) (b := 2) rfl kk kk (by decide)) 29 rfl ?_
  refine DA 10 ?_
  refine XR 1 ?_
  refine zD ?_
  subst hf11
  kernel_rfl
 show V _ _ _ _
 refine zW ?_
 refine YF ?_
 show VR _ _ _ _ _
 refine VR_s (n := 35) ?_
 refine zV (mb 43 203000) [40, 32, 24] (s' := ⟨bt 3 (.pt 24 0 :: .pt 32 0 :: .pt 40 0 :: I 0 :: I p1.1 :: bt 3 (.ag [Ti p1.1, Ti p1.2.1, Ti p1.2.2.1, Ti p1.2.2.2] :: I 0 :: bt 3 (.ag [Ti q2.1, Ti q2.2.1, Ti q2.2.2.1, Ti q2.2.2.2] :: I 4 :: bt 25 []))), [(40, .box [Ti f5, Ti f7, Ti 0, Ti f9, Ti f11, Ti 0, Ti 0, Ti 0, Ti 0]), (32, .box [Ti 0, Ti 0, Ti 0, Ti 0, Ti 0, Ti 0, Ti 0, Ti 0, Ti 0]), (24, .box [Ti q2.1, Ti q2.2.1, Ti q2.2.2.1, Ti q2.2.2.2])]⟩) kk ?_
 refine VE ?_
 refine zF ?_
 refine V_cond_false rfl ?_
 refine V_exit ?_
 show V _ _ _ _
 refine zW ?_
 refine YF ?_
 show VR _ _ _ _ _
 refine VR_s (n := 38) ?_
 refine zV (mb 43 6200) [40, 32, 24] (s' := ⟨bt 3 (.pt 24 0 :: .pt 32 0 :: .pt 40 0 :: bt 5 (.ag [Ti p1.1, Ti p1.2.1, Ti p1.2.2.1, Ti p1.2.2.2] :: I 1 :: bt 30 [])), [(40, .box [Ti f5, Ti f7, Ti 0, Ti f9, Ti f11, Ti 0, Ti 0, Ti 0, Ti 0]), (32, .box [Ti 0, Ti 0, Ti 0, Ti 0, Ti 0, Ti 0, Ti 0, Ti 0, Ti 0]), (24, .box [Ti q2.1, Ti q2.2.1, Ti q2.2.2.1, Ti q2.2.2.2])]⟩) kk ?_
 refine VE ?_
 refine zF ?_
 refine V_cond_true rfl ?_
 refine zK ?_
 show V _ _ _ _
 refine zF ?_
 refine zG ?_
 refine VS ?_
 refine YR 1 ?_
 refine L0 rfl rfl (Y0_indexA (c := fun v => [Ti v]) (xs := [p1.1, p1.2.1, p1.2.2.1, p1.2.2.2]) (v := p1.2.1) (k := .i64) (n := 1) Tryz.underlying167 sc3 sz3 rfl kk kk rfl (fun _ => rfl) rfl rfl) ?_
 refine YF ?_
 refine VE ?_
 refine zG (V_unroll 40 ?_)
 refine VR_s (n := 39) ?_
 refine zV (mb 43 203000) [40, 32, 24] (s' := ⟨bt 3 (.pt 24 0 :: .pt 32 0 :: .pt 40 0 :: I 1 :: I p1.2.1 :: bt 3 (.ag [Ti p1.1, Ti p1.2.1, Ti p1.2.2.1, Ti p1.2.2.2] :: I 1 :: bt 3 (.ag [Ti q2.1, Ti q2.2.1, Ti q2.2.2.1, Ti q2.2.2.2] :: I 0 :: bt 25 []))), [(40, .box [Ti f5, Ti f7, Ti 0, Ti f9, Ti f11, Ti 0, Ti 0, Ti 0, Ti 0]), (32, .box [Ti 0, Ti 0, Ti 0, Ti 0, Ti 0, Ti 0, Ti 0, Ti 0, Ti 0]), (24, .box [Ti q2.1, Ti q2.2.1, Ti q2.2.2.1, Ti q2.2.2.2])]⟩) kk ?_
 refine VE ?_
 refine zF ?_
 refine V_cond_true rfl ?_
 refine zK ?_
 show V _ _ _ _
 refine zF ?_
 refine zG ?_
 refine VS ?_
 refine YR 1 ?_
 refine L0 rfl rfl (Y0_indexA (c := fun v => [Ti v]) (xs := [q2.1, q2.2.1, q2.2.2.1, q2.2.2.2]) (v := q2.1) (k := .i64) (n := 0) Tryz.underlying167 sc3 sz3 rfl kk kk rfl (fun _ => rfl) rfl rfl) ?_
 refine YF ?_
 obtain ⟨f15, hf15, h⟩ := zU h
 refine V_dreg [0, 1, 0, 4, 15, 0, 32, 0, 128, 480, 31, 2047, 4095, 0, 0, 24576, 65535, 31, 262143, 524287] 19 (cdm 19 [2819270816, 2819270817, 2819270666, 2819270682, 2819270741, 37180572330, 37180573354, 37180418730, 37180435114, 37180495530, 37179009365, 37179708757, 37183903061, 34941348522, 34538695338, 34740021930, 35791394133, 11453245781, 22906492245]) (mb 43 203000) [40, 32, 24] (s1 := ⟨bt 3 (.pt 24 0 :: .pt 32 0 :: .pt 40 0 :: I 1 :: I p1.2.1 :: bt 3 (.ag [Ti p1.1, Ti p1.2.1, Ti p1.2.2.1, Ti p1.2.2.2] :: I 1 :: bt 3 (.ag [Ti q2.1, Ti q2.2.1, Ti q2.2.2.1, Ti q2.2.2.2] :: I 0 :: bt 25 []))), [(40, .box [Ti f5, Ti f15, Ti 0, Ti f9, Ti f11, Ti 0, Ti 0, Ti 0, Ti 0]), (32, .box [Ti 0, Ti 0, Ti 0, Ti 0, Ti 0, Ti 0, Ti 0, Ti 0, Ti 0]), (24, .box [Ti q2.1, Ti q2.2.1, Ti q2.2.2.1, Ti q2.2.2.2])]⟩) kk kk ?_ ?_
 ·refine DR 1 ?_
  refine DE_0 1 (I 0) kk rfl rfl rfl (zI rfl) kk (zS (a := 1) (b := 2) rfl kk kk (by decide)) 22 rfl ?_
  refine DR 1 ?_
  refine DE_0 3 (I 0) kk rfl rfl rfl (zI rfl) kk (zS (a := 0) (b := 2) rfl kk kk (by decide)) 24 rfl ?_
  refine DR 2 ?_
  refine DE_0 6 (I 1) kk rfl rfl rfl (zI rfl) kk (Y0_rem (k := .i64) (a := 1) (b := 2) rfl kk kk (by decide)) 27 rfl ?_
  refine DR 1 ?_
  refine DE_0 8 (I 0) kk rfl rfl rfl (zI rfl) kk (Y0_rem (k := .i64) (a := 0) (b := 2) rfl kk kk (by decide)) 29 rfl ?_
  refine DA 10 ?_
  refine XR 1 ?_
  refine zD ?_
  subst hf15
  kernel_rfl
 show V _ _ _ _
 refine zW ?_
 refine YF ?_
 show VR _ _ _ _ _
 refine VR_s (n := 38) ?_
 refine zV (mb 43 203000) [40, 32, 24] (s' := ⟨bt 3 (.pt 24 0 :: .pt 32 0 :: .pt 40 0 :: I 1 :: I p1.2.1 :: bt 3 (.ag [Ti p1.1, Ti p1.2.1, Ti p1.2.2.1, Ti p1.2.2.2] :: I 1 :: bt 3 (.ag [Ti q2.1, Ti q2.2.1, Ti q2.2.2.1, Ti q2.2.2.2] :: I 1 :: bt 25 []))), [(40, .box [Ti f5, Ti f15, Ti 0, Ti f9, Ti f11, Ti 0, Ti 0, Ti 0, Ti 0]), (32, .box [Ti 0, Ti 0, Ti 0, Ti 0, Ti 0, Ti 0, Ti 0, Ti 0, Ti 0]), (24, .box [Ti q2.1, Ti q2.2.1, Ti q2.2.2.1, Ti q2.2.2.2])]⟩) kk ?_
 refine VE ?_
 refine zF ?_
 refine V_cond_true rfl ?_
 refine zK ?_
 show V _ _ _ _
 refine zF ?_
 refine zG ?_
 refine VS ?_
 refine YR 1 ?_
 refine L0 rfl rfl (Y0_indexA (c := fun v => [Ti v]) (xs := [q2.1, q2.2.1, q2.2.2.1, q2.2.2.2]) (v := q2.2.1) (k := .i64) (n := 1) Tryz.underlying167 sc3 sz3 rfl kk kk rfl (fun _ => rfl) rfl rfl) ?_
 refine YF ?_
 obtain ⟨f17, hf17, h⟩ := zU h
 refine V_dreg [0, 1, 0, 4, 15, 0, 32, 0, 128, 480, 31, 2047, 4095, 0, 0, 24576, 65535, 31, 262143, 524287] 19 (cdm 19 [2819270816, 2819270817, 2819270666, 2819270682, 2819270741, 37180572330, 37180573354, 37180418730, 37180435114, 37180495530, 37179009365, 37179708757, 37183903061, 34941348522, 34538695338, 34740021930, 35791394133, 11453245781, 22906492245]) (mb 43 203000) [40, 32, 24] (s1 := ⟨bt 3 (.pt 24 0 :: .pt 32 0 :: .pt 40 0 :: I 1 :: I p1.2.1 :: bt 3 (.ag [Ti p1.1, Ti p1.2.1, Ti p1.2.2.1, Ti p1.2.2.2] :: I 1 :: bt 3 (.ag [Ti q2.1, Ti q2.2.1, Ti q2.2.2.1, Ti q2.2.2.2] :: I 1 :: bt 25 []))), [(40, .box [Ti f5, Ti f15, Ti f17, Ti f9, Ti f11, Ti 0, Ti 0, Ti 0, Ti 0]), (32, .box [Ti 0, Ti 0, Ti 0, Ti 0, Ti 0, Ti 0, Ti 0, Ti 0, Ti 0]), (24, .box [Ti q2.1, Ti q2.2.1, Ti q2.2.2.1, Ti q2.2.2.2])]⟩) kk kk ?_ ?_
 ·refine DR 1 ?_
  refine DE_0 1 (I 0) kk rfl rfl rfl (zI rfl) kk (zS (a := 1) (b := 2) rfl kk kk (by decide)) 22 rfl ?_
  refine DR 1 ?_
  refine DE_0 3 (I 0) kk rfl rfl rfl (zI rfl) kk (zS (a := 1) (b := 2) rfl kk kk (by decide)) 24 rfl ?_
  refine DR 2 ?_
  refine DE_0 6 (I 1) kk rfl rfl rfl (zI rfl) kk (Y0_rem (k := .i64) (a := 1) (b := 2) rfl kk kk (by decide)) 27 rfl ?_
  refine DR 1 ?_
  refine DE_0 8 (I 1) kk rfl rfl rfl (zI rfl) kk (Y0_rem (k := .i64) (a := 1) (b := 2) rfl kk kk (by decide)) 29 rfl ?_
  refine DA 10 ?_
  refine XR 1 ?_
  refine zD ?_
  subst hf17
  kernel_rfl
 show V _ _ _ _
 refine zW ?_
 refine YF ?_
 show VR _ _ _ _ _
 refine VR_s (n := 37) ?_
 refine zV (mb 43 203000) [40, 32, 24] (s' := ⟨bt 3 (.pt 24 0 :: .pt 32 0 :: .pt 40 0 :: I 1 :: I p1.2.1 :: bt 3 (.ag [Ti p1.1, Ti p1.2.1, Ti p1.2.2.1, Ti p1.2.2.2] :: I 1 :: bt 3 (.ag [Ti q2.1, Ti q2.2.1, Ti q2.2.2.1, Ti q2.2.2.2] :: I 2 :: bt 25 []))), [(40, .box [Ti f5, Ti f15, Ti f17, Ti f9, Ti f11, Ti 0, Ti 0, Ti 0, Ti 0]), (32, .box [Ti 0, Ti 0, Ti 0, Ti 0, Ti 0, Ti 0, Ti 0, Ti 0, Ti 0]), (24, .box [Ti q2.1, Ti q2.2.1, Ti q2.2.2.1, Ti q2.2.2.2])]⟩) kk ?_
 refine VE ?_
 refine zF ?_
 refine V_cond_true rfl ?_
 refine zK ?_
 show V _ _ _ _
 refine zF ?_
 refine zG ?_
 refine VS ?_
 refine YR 1 ?_
 refine L0 rfl rfl (Y0_indexA (c := fun v => [Ti v]) (xs := [q2.1, q2.2.1, q2.2.2.1, q2.2.2.2]) (v := q2.2.2.1) (k := .i64) (n := 2) Tryz.underlying167 sc3 sz3 rfl kk kk rfl (fun _ => rfl) rfl rfl) ?_
 refine YF ?_
 obtain ⟨f19, hf19, h⟩ := zU h
 refine V_dreg [0, 1, 0, 4, 15, 0, 32, 0, 128, 480, 31, 2047, 4095, 0, 0, 24576, 65535, 31, 262143, 524287] 19 (cdm 19 [2819270816, 2819270817, 2819270666, 2819270682, 2819270741, 37180572330, 37180573354, 37180418730, 37180435114, 37180495530, 37179009365, 37179708757, 37183903061, 34941348522, 34538695338, 34740021930, 35791394133, 11453245781, 22906492245]) (mb 43 203000) [40, 32, 24] (s1 := ⟨bt 3 (.pt 24 0 :: .pt 32 0 :: .pt 40 0 :: I 1 :: I p1.2.1 :: bt 3 (.ag [Ti p1.1, Ti p1.2.1, Ti p1.2.2.1, Ti p1.2.2.2] :: I 1 :: bt 3 (.ag [Ti q2.1, Ti q2.2.1, Ti q2.2.2.1, Ti q2.2.2.2] :: I 2 :: bt 25 []))), [(40, .box [Ti f5, Ti f15, Ti f17, Ti f9, Ti f19, Ti 0, Ti 0, Ti 0, Ti 0]), (32, .box [Ti 0, Ti 0, Ti 0, Ti 0, Ti 0, Ti 0, Ti 0, Ti 0, Ti 0]), (24, .box [Ti q2.1, Ti q2.2.1, Ti q2.2.2.1, Ti q2.2.2.2])]⟩) kk kk ?_ ?_
 ·refine DR 1 ?_
  refine DE_0 1 (I 0) kk rfl rfl rfl (zI rfl) kk (zS (a := 1) (b := 2) rfl kk kk (by decide)) 22 rfl ?_
  refine DR 1 ?_
  refine DE_0 3 (I 1) kk rfl rfl rfl (zI rfl) kk (zS (a := 2) (b := 2) rfl kk kk (by decide)) 24 rfl ?_
  refine DR 2 ?_
  refine DE_0 6 (I 1) kk rfl rfl rfl (zI rfl) kk (Y0_rem (k := .i64) (a := 1) (b := 2) rfl kk kk (by decide)) 27 rfl ?_
  refine DR 1 ?_
  refine DE_0 8 (I 0) kk rfl rfl rfl (zI rfl) kk (Y0_rem (k := .i64) (a := 2) (b := 2) rfl kk kk (by decide)) 29 rfl ?_
  refine DA 10 ?_
  refine XR 1 ?_
  refine zD ?_
  subst hf19
  kernel_rfl
 show V _ _ _ _
 refine zW ?_
 refine YF ?_
 show VR _ _ _ _ _
 refine VR_s (n := 36) ?_
 refine zV (mb 43 203000) [40, 32, 24] (s' := ⟨bt 3 (.pt 24 0 :: .pt 32 0 :: .pt 40 0 :: I 1 :: I p1.2.1 :: bt 3 (.ag [Ti p1.1, Ti p1.2.1, Ti p1.2.2.1, Ti p1.2.2.2] :: I 1 :: bt 3 (.ag [Ti q2.1, Ti q2.2.1, Ti q2.2.2.1, Ti q2.2.2.2] :: I 3 :: bt 25 []))), [(40, .box [Ti f5, Ti f15, Ti f17, Ti f9, Ti f19, Ti 0, Ti 0, Ti 0, Ti 0]), (32, .box [Ti 0, Ti 0, Ti 0, Ti 0, Ti 0, Ti 0, Ti 0, Ti 0, Ti 0]), (24, .box [Ti q2.1, Ti q2.2.1, Ti q2.2.2.1, Ti q2.2.2.2])]⟩) kk ?_
 refine VE ?_
 refine zF ?_
 refine V_cond_true rfl ?_
 refine zK ?_
 show V _ _ _ _
 refine zF ?_
 refine zG ?_
 refine VS ?_
 refine YR 1 ?_
 refine L0 rfl rfl (Y0_indexA (c := fun v => [Ti v]) (xs := [q2.1, q2.2.1, q2.2.2.1, q2.2.2.2]) (v := q2.2.2.2) (k := .i64) (n := 3) Tryz.underlying167 sc3 sz3 rfl kk kk rfl (fun _ => rfl) rfl rfl) ?_
 refine YF ?_
 obtain ⟨f21, hf21, h⟩ := zU h
 refine V_dreg [0, 1, 0, 4, 15, 0, 32, 0, 128, 480, 31, 2047, 4095, 0, 0, 24576, 65535, 31, 262143, 524287] 19 (cdm 19 [2819270816, 2819270817, 2819270666, 2819270682, 2819270741, 37180572330, 37180573354, 37180418730, 37180435114, 37180495530, 37179009365, 37179708757, 37183903061, 34941348522, 34538695338, 34740021930, 35791394133, 11453245781, 22906492245]) (mb 43 203000) [40, 32, 24] (s1 := ⟨bt 3 (.pt 24 0 :: .pt 32 0 :: .pt 40 0 :: I 1 :: I p1.2.1 :: bt 3 (.ag [Ti p1.1, Ti p1.2.1, Ti p1.2.2.1, Ti p1.2.2.2] :: I 1 :: bt 3 (.ag [Ti q2.1, Ti q2.2.1, Ti q2.2.2.1, Ti q2.2.2.2] :: I 3 :: bt 25 []))), [(40, .box [Ti f5, Ti f15, Ti f17, Ti f9, Ti f19, Ti f21, Ti 0, Ti 0, Ti 0]), (32, .box [Ti 0, Ti 0, Ti 0, Ti 0, Ti 0, Ti 0, Ti 0, Ti 0, Ti 0]), (24, .box [Ti q2.1, Ti q2.2.1, Ti q2.2.2.1, Ti q2.2.2.2])]⟩) kk kk ?_ ?_
 ·refine DR 1 ?_
  refine DE_0 1 (I 0) kk rfl rfl rfl (zI rfl) kk (zS (a := 1) (b := 2) rfl kk kk (by decide)) 22 rfl ?_
  refine DR 1 ?_
  refine DE_0 3 (I 1) kk rfl rfl rfl (zI rfl) kk (zS (a := 3) (b := 2) rfl kk kk (by decide)) 24 rfl ?_
  refine DR 2 ?_
  refine DE_0 6 (I 1) kk rfl rfl rfl (zI rfl) kk (Y0_rem (k := .i64) (a := 1) (b := 2) rfl kk kk (by decide)) 27 rfl ?_
  refine DR 1 ?_
  refine DE_0 8 (I 1) kk rfl rfl rfl (zI rfl) kk (Y0_rem (k := .i64) (a := 3) (b := 2) rfl kk kk (by decide)) 29 rfl ?_
  refine DA 10 ?_
  refine XR 1 ?_
  refine zD ?_
  subst hf21
  kernel_rfl
 show V _ _ _ _
 refine zW ?_
 refine YF ?_
 show VR _ _ _ _ _
 refine VR_s (n := 35) ?_
 refine zV (mb 43 203000) [40, 32, 24] (s' := ⟨bt 3 (.pt 24 0 :: .pt 32 0 :: .pt 40 0 :: I 1 :: I p1.2.1 :: bt 3 (.ag [Ti p1.1, Ti p1.2.1, Ti p1.2.2.1, Ti p1.2.2.2] :: I 1 :: bt 3 (.ag [Ti q2.1, Ti q2.2.1, Ti q2.2.2.1, Ti q2.2.2.2] :: I 4 :: bt 25 []))), [(40, .box [Ti f5, Ti f15, Ti f17, Ti f9, Ti f19, Ti f21, Ti 0, Ti 0, Ti 0]), (32, .box [Ti 0, Ti 0, Ti 0, Ti 0, Ti 0, Ti 0, Ti 0, Ti 0, Ti 0]), (24, .box [Ti q2.1, Ti q2.2.1, Ti q2.2.2.1, Ti q2.2.2.2])]⟩) kk ?_
 refine VE ?_
 refine zF ?_
 refine V_cond_false rfl ?_
 refine V_exit ?_
 show V _ _ _ _
 refine zW ?_
 refine YF ?_
 show VR _ _ _ _ _
 refine VR_s (n := 37) ?_
 refine zV (mb 43 6200) [40, 32, 24] (s' := ⟨bt 3 (.pt 24 0 :: .pt 32 0 :: .pt 40 0 :: bt 5 (.ag [Ti p1.1, Ti p1.2.1, Ti p1.2.2.1, Ti p1.2.2.2] :: I 2 :: bt 30 [])), [(40, .box [Ti f5, Ti f15, Ti f17, Ti f9, Ti f19, Ti f21, Ti 0, Ti 0, Ti 0]), (32, .box [Ti 0, Ti 0, Ti 0, Ti 0, Ti 0, Ti 0, Ti 0, Ti 0, Ti 0]), (24, .box [Ti q2.1, Ti q2.2.1, Ti q2.2.2.1, Ti q2.2.2.2])]⟩) kk ?_
 refine VE ?_
 refine zF ?_
 refine V_cond_true rfl ?_
 refine zK ?_
 show V _ _ _ _
 refine zF ?_
 refine zG ?_
 refine VS ?_
 refine YR 1 ?_
 refine L0 rfl rfl (Y0_indexA (c := fun v => [Ti v]) (xs := [p1.1, p1.2.1, p1.2.2.1, p1.2.2.2]) (v := p1.2.2.1) (k := .i64) (n := 2) Tryz.underlying167 sc3 sz3 rfl kk kk rfl (fun _ => rfl) rfl rfl) ?_
 refine YF ?_
 refine VE ?_
 refine zG (V_unroll 40 ?_)
 refine VR_s (n := 39) ?_
 refine zV (mb 43 203000) [40, 32, 24] (s' := ⟨bt 3 (.pt 24 0 :: .pt 32 0 :: .pt 40 0 :: I 2 :: I p1.2.2.1 :: bt 3 (.ag [Ti p1.1, Ti p1.2.1, Ti p1.2.2.1, Ti p1.2.2.2] :: I 2 :: bt 3 (.ag [Ti q2.1, Ti q2.2.1, Ti q2.2.2.1, Ti q2.2.2.2] :: I 0 :: bt 25 []))), [(40, .box [Ti f5, Ti f15, Ti f17, Ti f9, Ti f19, Ti f21, Ti 0, Ti 0, Ti 0]), (32, .box [Ti 0, Ti 0, Ti 0, Ti 0, Ti 0, Ti 0, Ti 0, Ti 0, Ti 0]), (24, .box [Ti q2.1, Ti q2.2.1, Ti q2.2.2.1, Ti q2.2.2.2])]⟩) kk ?_
 refine VE ?_
 refine zF ?_
 refine V_cond_true rfl ?_
 refine zK ?_
 show V _ _ _ _
 refine zF ?_
 refine zG ?_
 refine VS ?_
 refine YR 1 ?_
 refine L0 rfl rfl (Y0_indexA (c := fun v => [Ti v]) (xs := [q2.1, q2.2.1, q2.2.2.1, q2.2.2.2]) (v := q2.1) (k := .i64) (n := 0) Tryz.underlying167 sc3 sz3 rfl kk kk rfl (fun _ => rfl) rfl rfl) ?_
 refine YF ?_
 obtain ⟨f25, hf25, h⟩ := zU h
 refine V_dreg [0, 1, 0, 4, 15, 0, 32, 0, 128, 480, 31, 2047, 4095, 0, 0, 24576, 65535, 31, 262143, 524287] 19 (cdm 19 [2819270816, 2819270817, 2819270666, 2819270682, 2819270741, 37180572330, 37180573354, 37180418730, 37180435114, 37180495530, 37179009365, 37179708757, 37183903061, 34941348522, 34538695338, 34740021930, 35791394133, 11453245781, 22906492245]) (mb 43 203000) [40, 32, 24] (s1 := ⟨bt 3 (.pt 24 0 :: .pt 32 0 :: .pt 40 0 :: I 2 :: I p1.2.2.1 :: bt 3 (.ag [Ti p1.1, Ti p1.2.1, Ti p1.2.2.1, Ti p1.2.2.2] :: I 2 :: bt 3 (.ag [Ti q2.1, Ti q2.2.1, Ti q2.2.2.1, Ti q2.2.2.2] :: I 0 :: bt 25 []))), [(40, .box [Ti f5, Ti f15, Ti f17, Ti f25, Ti f19, Ti f21, Ti 0, Ti 0, Ti 0]), (32, .box [Ti 0, Ti 0, Ti 0, Ti 0, Ti 0, Ti 0, Ti 0, Ti 0, Ti 0]), (24, .box [Ti q2.1, Ti q2.2.1, Ti q2.2.2.1, Ti q2.2.2.2])]⟩) kk kk ?_ ?_
 ·refine DR 1 ?_
  refine DE_0 1 (I 1) kk rfl rfl rfl (zI rfl) kk (zS (a := 2) (b := 2) rfl kk kk (by decide)) 22 rfl ?_
  refine DR 1 ?_
  refine DE_0 3 (I 0) kk rfl rfl rfl (zI rfl) kk (zS (a := 0) (b := 2) rfl kk kk (by decide)) 24 rfl ?_
  refine DR 2 ?_
  refine DE_0 6 (I 0) kk rfl rfl rfl (zI rfl) kk (Y0_rem (k := .i64) (a := 2) (b := 2) rfl kk kk (by decide)) 27 rfl ?_
  refine DR 1 ?_
  refine DE_0 8 (I 0) kk rfl rfl rfl (zI rfl) kk (Y0_rem (k := .i64) (a := 0) (b := 2) rfl kk kk (by decide)) 29 rfl ?_
  refine DA 10 ?_
  refine XR 1 ?_
  refine zD ?_
  subst hf25
  kernel_rfl
 show V _ _ _ _
 refine zW ?_
 refine YF ?_
 show VR _ _ _ _ _
 refine VR_s (n := 38) ?_
 refine zV (mb 43 203000) [40, 32, 24] (s' := ⟨bt 3 (.pt 24 0 :: .pt 32 0 :: .pt 40 0 :: I 2 :: I p1.2.2.1 :: bt 3 (.ag [Ti p1.1, Ti p1.2.1, Ti p1.2.2.1, Ti p1.2.2.2] :: I 2 :: bt 3 (.ag [Ti q2.1, Ti q2.2.1, Ti q2.2.2.1, Ti q2.2.2.2] :: I 1 :: bt 25 []))), [(40, .box [Ti f5, Ti f15, Ti f17, Ti f25, Ti f19, Ti f21, Ti 0, Ti 0, Ti 0]), (32, .box [Ti 0, Ti 0, Ti 0, Ti 0, Ti 0, Ti 0, Ti 0, Ti 0, Ti 0]), (24, .box [Ti q2.1, Ti q2.2.1, Ti q2.2.2.1, Ti q2.2.2.2])]⟩) kk ?_
 refine VE ?_
 refine zF ?_
 refine V_cond_true rfl ?_
 refine zK ?_
 show V _ _ _ _
 refine zF ?_
 refine zG ?_
 refine VS ?_
 refine YR 1 ?_
 refine L0 rfl rfl (Y0_indexA (c := fun v => [Ti v]) (xs := [q2.1, q2.2.1, q2.2.2.1, q2.2.2.2]) (v := q2.2.1) (k := .i64) (n := 1) Tryz.underlying167 sc3 sz3 rfl kk kk rfl (fun _ => rfl) rfl rfl) ?_
 refine YF ?_
 obtain ⟨f27, hf27, h⟩ := zU h
 refine V_dreg [0, 1, 0, 4, 15, 0, 32, 0, 128, 480, 31, 2047, 4095, 0, 0, 24576, 65535, 31, 262143, 524287] 19 (cdm 19 [2819270816, 2819270817, 2819270666, 2819270682, 2819270741, 37180572330, 37180573354, 37180418730, 37180435114, 37180495530, 37179009365, 37179708757, 37183903061, 34941348522, 34538695338, 34740021930, 35791394133, 11453245781, 22906492245]) (mb 43 203000) [40, 32, 24] (s1 := ⟨bt 3 (.pt 24 0 :: .pt 32 0 :: .pt 40 0 :: I 2 :: I p1.2.2.1 :: bt 3 (.ag [Ti p1.1, Ti p1.2.1, Ti p1.2.2.1, Ti p1.2.2.2] :: I 2 :: bt 3 (.ag [Ti q2.1, Ti q2.2.1, Ti q2.2.2.1, Ti q2.2.2.2] :: I 1 :: bt 25 []))), [(40, .box [Ti f5, Ti f15, Ti f17, Ti f25, Ti f27, Ti f21, Ti 0, Ti 0, Ti 0]), (32, .box [Ti 0, Ti 0, Ti 0, Ti 0, Ti 0, Ti 0, Ti 0, Ti 0, Ti 0]), (24, .box [Ti q2.1, Ti q2.2.1, Ti q2.2.2.1, Ti q2.2.2.2])]⟩) kk kk ?_ ?_
 ·refine DR 1 ?_
  refine DE_0 1 (I 1) kk rfl rfl rfl (zI rfl) kk (zS (a := 2) (b := 2) rfl kk kk (by decide)) 22 rfl ?_
  refine DR 1 ?_
  refine DE_0 3 (I 0) kk rfl rfl rfl (zI rfl) kk (zS (a := 1) (b := 2) rfl kk kk (by decide)) 24 rfl ?_
  refine DR 2 ?_
  refine DE_0 6 (I 0) kk rfl rfl rfl (zI rfl) kk (Y0_rem (k := .i64) (a := 2) (b := 2) rfl kk kk (by decide)) 27 rfl ?_
  refine DR 1 ?_
  refine DE_0 8 (I 1) kk rfl rfl rfl (zI rfl) kk (Y0_rem (k := .i64) (a := 1) (b := 2) rfl kk kk (by decide)) 29 rfl ?_
  refine DA 10 ?_
  refine XR 1 ?_
  refine zD ?_
  subst hf27
  kernel_rfl
 show V _ _ _ _
 refine zW ?_
 refine YF ?_
 show VR _ _ _ _ _
 refine VR_s (n := 37) ?_
 refine zV (mb 43 203000) [40, 32, 24] (s' := ⟨bt 3 (.pt 24 0 :: .pt 32 0 :: .pt 40 0 :: I 2 :: I p1.2.2.1 :: bt 3 (.ag [Ti p1.1, Ti p1.2.1, Ti p1.2.2.1, Ti p1.2.2.2] :: I 2 :: bt 3 (.ag [Ti q2.1, Ti q2.2.1, Ti q2.2.2.1, Ti q2.2.2.2] :: I 2 :: bt 25 []))), [(40, .box [Ti f5, Ti f15, Ti f17, Ti f25, Ti f27, Ti f21, Ti 0, Ti 0, Ti 0]), (32, .box [Ti 0, Ti 0, Ti 0, Ti 0, Ti 0, Ti 0, Ti 0, Ti 0, Ti 0]), (24, .box [Ti q2.1, Ti q2.2.1, Ti q2.2.2.1, Ti q2.2.2.2])]⟩) kk ?_
 refine VE ?_
 refine zF ?_
 refine V_cond_true rfl ?_
 refine zK ?_
 show V _ _ _ _
 refine zF ?_
 refine zG ?_
 refine VS ?_
 refine YR 1 ?_
 refine L0 rfl rfl (Y0_indexA (c := fun v => [Ti v]) (xs := [q2.1, q2.2.1, q2.2.2.1, q2.2.2.2]) (v := q2.2.2.1) (k := .i64) (n := 2) Tryz.underlying167 sc3 sz3 rfl kk kk rfl (fun _ => rfl) rfl rfl) ?_
 refine YF ?_
 obtain ⟨f29, hf29, h⟩ := zU h
 refine V_dreg [0, 1, 0, 4, 15, 0, 32, 0, 128, 480, 31, 2047, 4095, 0, 0, 24576, 65535, 31, 262143, 524287] 19 (cdm 19 [2819270816, 2819270817, 2819270666, 2819270682, 2819270741, 37180572330, 37180573354, 37180418730, 37180435114, 37180495530, 37179009365, 37179708757, 37183903061, 34941348522, 34538695338, 34740021930, 35791394133, 11453245781, 22906492245]) (mb 43 203000) [40, 32, 24] (s1 := ⟨bt 3 (.pt 24 0 :: .pt 32 0 :: .pt 40 0 :: I 2 :: I p1.2.2.1 :: bt 3 (.ag [Ti p1.1, Ti p1.2.1, Ti p1.2.2.1, Ti p1.2.2.2] :: I 2 :: bt 3 (.ag [Ti q2.1, Ti q2.2.1, Ti q2.2.2.1, Ti q2.2.2.2] :: I 2 :: bt 25 []))), [(40, .box [Ti f5, Ti f15, Ti f17, Ti f25, Ti f27, Ti f21, Ti f29, Ti 0, Ti 0]), (32, .box [Ti 0, Ti 0, Ti 0, Ti 0, Ti 0, Ti 0, Ti 0, Ti 0, Ti 0]), (24, .box [Ti q2.1, Ti q2.2.1, Ti q2.2.2.1, Ti q2.2.2.2])]⟩) kk kk ?_ ?_
 ·refine DR 1 ?_
  refine DE_0 1 (I 1) kk rfl rfl rfl (zI rfl) kk (zS (a := 2) (b := 2) rfl kk kk (by decide)) 22 rfl ?_
  refine DR 1 ?_
  refine DE_0 3 (I 1) kk rfl rfl rfl (zI rfl) kk (zS (a := 2) (b := 2) rfl kk kk (by decide)) 24 rfl ?_
  refine DR 2 ?_
  refine DE_0 6 (I 0) kk rfl rfl rfl (zI rfl) kk (Y0_rem (k := .i64) (a := 2) (b := 2) rfl kk kk (by decide)) 27 rfl ?_
  refine DR 1 ?_
  refine DE_0 8 (I 0) kk rfl rfl rfl (zI rfl) kk (Y0_rem (k := .i64) (a := 2) (b := 2) rfl kk kk (by decide)) 29 rfl ?_
  refine DA 10 ?_
  refine XR 1 ?_
  refine zD ?_
  subst hf29
  kernel_rfl
 show V _ _ _ _
 refine zW ?_
 refine YF ?_
 show VR _ _ _ _ _
 refine VR_s (n := 36) ?_
 refine zV (mb 43 203000) [40, 32, 24] (s' := ⟨bt 3 (.pt 24 0 :: .pt 32 0 :: .pt 40 0 :: I 2 :: I p1.2.2.1 :: bt 3 (.ag [Ti p1.1, Ti p1.2.1, Ti p1.2.2.1, Ti p1.2.2.2] :: I 2 :: bt 3 (.ag [Ti q2.1, Ti q2.2.1, Ti q2.2.2.1, Ti q2.2.2.2] :: I 3 :: bt 25 []))), [(40, .box [Ti f5, Ti f15, Ti f17, Ti f25, Ti f27, Ti f21, Ti f29, Ti 0, Ti 0]), (32, .box [Ti 0, Ti 0, Ti 0, Ti 0, Ti 0, Ti 0, Ti 0, Ti 0, Ti 0]), (24, .box [Ti q2.1, Ti q2.2.1, Ti q2.2.2.1, Ti q2.2.2.2])]⟩) kk ?_
 refine VE ?_
 refine zF ?_
 refine V_cond_true rfl ?_
 refine zK ?_
 show V _ _ _ _
 refine zF ?_
 refine zG ?_
 refine VS ?_
 refine YR 1 ?_
 refine L0 rfl rfl (Y0_indexA (c := fun v => [Ti v]) (xs := [q2.1, q2.2.1, q2.2.2.1, q2.2.2.2]) (v := q2.2.2.2) (k := .i64) (n := 3) Tryz.underlying167 sc3 sz3 rfl kk kk rfl (fun _ => rfl) rfl rfl) ?_
 refine YF ?_
 obtain ⟨f31, hf31, h⟩ := zU h
 refine V_dreg [0, 1, 0, 4, 15, 0, 32, 0, 128, 480, 31, 2047, 4095, 0, 0, 24576, 65535, 31, 262143, 524287] 19 (cdm 19 [2819270816, 2819270817, 2819270666, 2819270682, 2819270741, 37180572330, 37180573354, 37180418730, 37180435114, 37180495530, 37179009365, 37179708757, 37183903061, 34941348522, 34538695338, 34740021930, 35791394133, 11453245781, 22906492245]) (mb 43 203000) [40, 32, 24] (s1 := ⟨bt 3 (.pt 24 0 :: .pt 32 0 :: .pt 40 0 :: I 2 :: I p1.2.2.1 :: bt 3 (.ag [Ti p1.1, Ti p1.2.1, Ti p1.2.2.1, Ti p1.2.2.2] :: I 2 :: bt 3 (.ag [Ti q2.1, Ti q2.2.1, Ti q2.2.2.1, Ti q2.2.2.2] :: I 3 :: bt 25 []))), [(40, .box [Ti f5, Ti f15, Ti f17, Ti f25, Ti f27, Ti f21, Ti f29, Ti f31, Ti 0]), (32, .box [Ti 0, Ti 0, Ti 0, Ti 0, Ti 0, Ti 0, Ti 0, Ti 0, Ti 0]), (24, .box [Ti q2.1, Ti q2.2.1, Ti q2.2.2.1, Ti q2.2.2.2])]⟩) kk kk ?_ ?_
 ·refine DR 1 ?_
  refine DE_0 1 (I 1) kk rfl rfl rfl (zI rfl) kk (zS (a := 2) (b := 2) rfl kk kk (by decide)) 22 rfl ?_
  refine DR 1 ?_
  refine DE_0 3 (I 1) kk rfl rfl rfl (zI rfl) kk (zS (a := 3) (b := 2) rfl kk kk (by decide)) 24 rfl ?_
  refine DR 2 ?_
  refine DE_0 6 (I 0) kk rfl rfl rfl (zI rfl) kk (Y0_rem (k := .i64) (a := 2) (b := 2) rfl kk kk (by decide)) 27 rfl ?_
  refine DR 1 ?_
  refine DE_0 8 (I 1) kk rfl rfl rfl (zI rfl) kk (Y0_rem (k := .i64) (a := 3) (b := 2) rfl kk kk (by decide)) 29 rfl ?_
  refine DA 10 ?_
  refine XR 1 ?_
  refine zD ?_
  subst hf31
  kernel_rfl
 show V _ _ _ _
 refine zW ?_
 refine YF ?_
 show VR _ _ _ _ _
 refine VR_s (n := 35) ?_
 refine zV (mb 43 203000) [40, 32, 24] (s' := ⟨bt 3 (.pt 24 0 :: .pt 32 0 :: .pt 40 0 :: I 2 :: I p1.2.2.1 :: bt 3 (.ag [Ti p1.1, Ti p1.2.1, Ti p1.2.2.1, Ti p1.2.2.2] :: I 2 :: bt 3 (.ag [Ti q2.1, Ti q2.2.1, Ti q2.2.2.1, Ti q2.2.2.2] :: I 4 :: bt 25 []))), [(40, .box [Ti f5, Ti f15, Ti f17, Ti f25, Ti f27, Ti f21, Ti f29, Ti f31, Ti 0]), (32, .box [Ti 0, Ti 0, Ti 0, Ti 0, Ti 0, Ti 0, Ti 0, Ti 0, Ti 0]), (24, .box [Ti q2.1, Ti q2.2.1, Ti q2.2.2.1, Ti q2.2.2.2])]⟩) kk ?_
 refine VE ?_
 refine zF ?_
 refine V_cond_false rfl ?_
 refine V_exit ?_
 show V _ _ _ _
 refine zW ?_
 refine YF ?_
 show VR _ _ _ _ _
 refine VR_s (n := 36) ?_
 refine zV (mb 43 6200) [40, 32, 24] (s' := ⟨bt 3 (.pt 24 0 :: .pt 32 0 :: .pt 40 0 :: bt 5 (.ag [Ti p1.1, Ti p1.2.1, Ti p1.2.2.1, Ti p1.2.2.2] :: I 3 :: bt 30 [])), [(40, .box [Ti f5, Ti f15, Ti f17, Ti f25, Ti f27, Ti f21, Ti f29, Ti f31, Ti 0]), (32, .box [Ti 0, Ti 0, Ti 0, Ti 0, Ti 0, Ti 0, Ti 0, Ti 0, Ti 0]), (24, .box [Ti q2.1, Ti q2.2.1, Ti q2.2.2.1, Ti q2.2.2.2])]⟩) kk ?_
 refine VE ?_
 refine zF ?_
 refine V_cond_true rfl ?_
 refine zK ?_
 show V _ _ _ _
 refine zF ?_
 refine zG ?_
 refine VS ?_
 refine YR 1 ?_
 refine L0 rfl rfl (Y0_indexA (c := fun v => [Ti v]) (xs := [p1.1, p1.2.1, p1.2.2.1, p1.2.2.2]) (v := p1.2.2.2) (k := .i64) (n := 3) Tryz.underlying167 sc3 sz3 rfl kk kk rfl (fun _ => rfl) rfl rfl) ?_
 refine YF ?_
 refine VE ?_
 refine zG (V_unroll 40 ?_)
 refine VR_s (n := 39) ?_
 refine zV (mb 43 203000) [40, 32, 24] (s' := ⟨bt 3 (.pt 24 0 :: .pt 32 0 :: .pt 40 0 :: I 3 :: I p1.2.2.2 :: bt 3 (.ag [Ti p1.1, Ti p1.2.1, Ti p1.2.2.1, Ti p1.2.2.2] :: I 3 :: bt 3 (.ag [Ti q2.1, Ti q2.2.1, Ti q2.2.2.1, Ti q2.2.2.2] :: I 0 :: bt 25 []))), [(40, .box [Ti f5, Ti f15, Ti f17, Ti f25, Ti f27, Ti f21, Ti f29, Ti f31, Ti 0]), (32, .box [Ti 0, Ti 0, Ti 0, Ti 0, Ti 0, Ti 0, Ti 0, Ti 0, Ti 0]), (24, .box [Ti q2.1, Ti q2.2.1, Ti q2.2.2.1, Ti q2.2.2.2])]⟩) kk ?_
 refine VE ?_
 refine zF ?_
 refine V_cond_true rfl ?_
 refine zK ?_
 show V _ _ _ _
 refine zF ?_
 refine zG ?_
 refine VS ?_
 refine YR 1 ?_
 refine L0 rfl rfl (Y0_indexA (c := fun v => [Ti v]) (xs := [q2.1, q2.2.1, q2.2.2.1, q2.2.2.2]) (v := q2.1) (k := .i64) (n := 0) Tryz.underlying167 sc3 sz3 rfl kk kk rfl (fun _ => rfl) rfl rfl) ?_
 refine YF ?_
 obtain ⟨f35, hf35, h⟩ := zU h
 refine V_dreg [0, 1, 0, 4, 15, 0, 32, 0, 128, 480, 31, 2047, 4095, 0, 0, 24576, 65535, 31, 262143, 524287] 19 (cdm 19 [2819270816, 2819270817, 2819270666, 2819270682, 2819270741, 37180572330, 37180573354, 37180418730, 37180435114, 37180495530, 37179009365, 37179708757, 37183903061, 34941348522, 34538695338, 34740021930, 35791394133, 11453245781, 22906492245]) (mb 43 203000) [40, 32, 24] (s1 := ⟨bt 3 (.pt 24 0 :: .pt 32 0 :: .pt 40 0 :: I 3 :: I p1.2.2.2 :: bt 3 (.ag [Ti p1.1, Ti p1.2.1, Ti p1.2.2.1, Ti p1.2.2.2] :: I 3 :: bt 3 (.ag [Ti q2.1, Ti q2.2.1, Ti q2.2.2.1, Ti q2.2.2.2] :: I 0 :: bt 25 []))), [(40, .box [Ti f5, Ti f15, Ti f17, Ti f25, Ti f35, Ti f21, Ti f29, Ti f31, Ti 0]), (32, .box [Ti 0, Ti 0, Ti 0, Ti 0, Ti 0, Ti 0, Ti 0, Ti 0, Ti 0]), (24, .box [Ti q2.1, Ti q2.2.1, Ti q2.2.2.1, Ti q2.2.2.2])]⟩) kk kk ?_ ?_
 ·refine DR 1 ?_
  refine DE_0 1 (I 1) kk rfl rfl rfl (zI rfl) kk (zS (a := 3) (b := 2) rfl kk kk (by decide)) 22 rfl ?_
  refine DR 1 ?_
  refine DE_0 3 (I 0) kk rfl rfl rfl (zI rfl) kk (zS (a := 0) (b := 2) rfl kk kk (by decide)) 24 rfl ?_
  refine DR 2 ?_
  refine DE_0 6 (I 1) kk rfl rfl rfl (zI rfl) kk (Y0_rem (k := .i64) (a := 3) (b := 2) rfl kk kk (by decide)) 27 rfl ?_
  refine DR 1 ?_
  refine DE_0 8 (I 0) kk rfl rfl rfl (zI rfl) kk (Y0_rem (k := .i64) (a := 0) (b := 2) rfl kk kk (by decide)) 29 rfl ?_
  refine DA 10 ?_
  refine XR 1 ?_
  refine zD ?_
  subst hf35
  kernel_rfl
 show V _ _ _ _
 refine zW ?_
 refine YF ?_
 show VR _ _ _ _ _
 refine VR_s (n := 38) ?_
 refine zV (mb 43 203000) [40, 32, 24] (s' := ⟨bt 3 (.pt 24 0 :: .pt 32 0 :: .pt 40 0 :: I 3 :: I p1.2.2.2 :: bt 3 (.ag [Ti p1.1, Ti p1.2.1, Ti p1.2.2.1, Ti p1.2.2.2] :: I 3 :: bt 3 (.ag [Ti q2.1, Ti q2.2.1, Ti q2.2.2.1, Ti q2.2.2.2] :: I 1 :: bt 25 []))), [(40, .box [Ti f5, Ti f15, Ti f17, Ti f25, Ti f35, Ti f21, Ti f29, Ti f31, Ti 0]), (32, .box [Ti 0, Ti 0, Ti 0, Ti 0, Ti 0, Ti 0, Ti 0, Ti 0, Ti 0]), (24, .box [Ti q2.1, Ti q2.2.1, Ti q2.2.2.1, Ti q2.2.2.2])]⟩) kk ?_
 refine VE ?_
 refine zF ?_
 refine V_cond_true rfl ?_
 refine zK ?_
 show V _ _ _ _
 refine zF ?_
 refine zG ?_
 refine VS ?_
 refine YR 1 ?_
 refine L0 rfl rfl (Y0_indexA (c := fun v => [Ti v]) (xs := [q2.1, q2.2.1, q2.2.2.1, q2.2.2.2]) (v := q2.2.1) (k := .i64) (n := 1) Tryz.underlying167 sc3 sz3 rfl kk kk rfl (fun _ => rfl) rfl rfl) ?_
 refine YF ?_
 obtain ⟨f37, hf37, h⟩ := zU h
 refine V_dreg [0, 1, 0, 4, 15, 0, 32, 0, 128, 480, 31, 2047, 4095, 0, 0, 24576, 65535, 31, 262143, 524287] 19 (cdm 19 [2819270816, 2819270817, 2819270666, 2819270682, 2819270741, 37180572330, 37180573354, 37180418730, 37180435114, 37180495530, 37179009365, 37179708757, 37183903061, 34941348522, 34538695338, 34740021930, 35791394133, 11453245781, 22906492245]) (mb 43 203000) [40, 32, 24] (s1 := ⟨bt 3 (.pt 24 0 :: .pt 32 0 :: .pt 40 0 :: I 3 :: I p1.2.2.2 :: bt 3 (.ag [Ti p1.1, Ti p1.2.1, Ti p1.2.2.1, Ti p1.2.2.2] :: I 3 :: bt 3 (.ag [Ti q2.1, Ti q2.2.1, Ti q2.2.2.1, Ti q2.2.2.2] :: I 1 :: bt 25 []))), [(40, .box [Ti f5, Ti f15, Ti f17, Ti f25, Ti f35, Ti f37, Ti f29, Ti f31, Ti 0]), (32, .box [Ti 0, Ti 0, Ti 0, Ti 0, Ti 0, Ti 0, Ti 0, Ti 0, Ti 0]), (24, .box [Ti q2.1, Ti q2.2.1, Ti q2.2.2.1, Ti q2.2.2.2])]⟩) kk kk ?_ ?_
 ·refine DR 1 ?_
  refine DE_0 1 (I 1) kk rfl rfl rfl (zI rfl) kk (zS (a := 3) (b := 2) rfl kk kk (by decide)) 22 rfl ?_
  refine DR 1 ?_
  refine DE_0 3 (I 0) kk rfl rfl rfl (zI rfl) kk (zS (a := 1) (b := 2) rfl kk kk (by decide)) 24 rfl ?_
  refine DR 2 ?_
  refine DE_0 6 (I 1) kk rfl rfl rfl (zI rfl) kk (Y0_rem (k := .i64) (a := 3) (b := 2) rfl kk kk (by decide)) 27 rfl ?_
  refine DR 1 ?_
  refine DE_0 8 (I 1) kk rfl rfl rfl (zI rfl) kk (Y0_rem (k := .i64) (a := 1) (b := 2) rfl kk kk (by decide)) 29 rfl ?_
  refine DA 10 ?_
  refine XR 1 ?_
  refine zD ?_
  subst hf37
  kernel_rfl
 show V _ _ _ _
 refine zW ?_
 refine YF ?_
 show VR _ _ _ _ _
 refine VR_s (n := 37) ?_
 refine zV (mb 43 203000) [40, 32, 24] (s' := ⟨bt 3 (.pt 24 0 :: .pt 32 0 :: .pt 40 0 :: I 3 :: I p1.2.2.2 :: bt 3 (.ag [Ti p1.1, Ti p1.2.1, Ti p1.2.2.1, Ti p1.2.2.2] :: I 3 :: bt 3 (.ag [Ti q2.1, Ti q2.2.1, Ti q2.2.2.1, Ti q2.2.2.2] :: I 2 :: bt 25 []))), [(40, .box [Ti f5, Ti f15, Ti f17, Ti f25, Ti f35, Ti f37, Ti f29, Ti f31, Ti 0]), (32, .box [Ti 0, Ti 0, Ti 0, Ti 0, Ti 0, Ti 0, Ti 0, Ti 0, Ti 0]), (24, .box [Ti q2.1, Ti q2.2.1, Ti q2.2.2.1, Ti q2.2.2.2])]⟩) kk ?_
 refine VE ?_
 refine zF ?_
 refine V_cond_true rfl ?_
 refine zK ?_
 show V _ _ _ _
 refine zF ?_
 refine zG ?_
 refine VS ?_
 refine YR 1 ?_
 refine L0 rfl rfl (Y0_indexA (c := fun v => [Ti v]) (xs := [q2.1, q2.2.1, q2.2.2.1, q2.2.2.2]) (v := q2.2.2.1) (k := .i64) (n := 2) Tryz.underlying167 sc3 sz3 rfl kk kk rfl (fun _ => rfl) rfl rfl) ?_
 refine YF ?_
 obtain ⟨f39, hf39, h⟩ := zU h
 refine V_dreg [0, 1, 0, 4, 15, 0, 32, 0, 128, 480, 31, 2047, 4095, 0, 0, 24576, 65535, 31, 262143, 524287] 19 (cdm 19 [2819270816, 2819270817, 2819270666, 2819270682, 2819270741, 37180572330, 37180573354, 37180418730, 37180435114, 37180495530, 37179009365, 37179708757, 37183903061, 34941348522, 34538695338, 34740021930, 35791394133, 11453245781, 22906492245]) (mb 43 203000) [40, 32, 24] (s1 := ⟨bt 3 (.pt 24 0 :: .pt 32 0 :: .pt 40 0 :: I 3 :: I p1.2.2.2 :: bt 3 (.ag [Ti p1.1, Ti p1.2.1, Ti p1.2.2.1, Ti p1.2.2.2] :: I 3 :: bt 3 (.ag [Ti q2.1, Ti q2.2.1, Ti q2.2.2.1, Ti q2.2.2.2] :: I 2 :: bt 25 []))), [(40, .box [Ti f5, Ti f15, Ti f17, Ti f25, Ti f35, Ti f37, Ti f29, Ti f39, Ti 0]), (32, .box [Ti 0, Ti 0, Ti 0, Ti 0, Ti 0, Ti 0, Ti 0, Ti 0, Ti 0]), (24, .box [Ti q2.1, Ti q2.2.1, Ti q2.2.2.1, Ti q2.2.2.2])]⟩) kk kk ?_ ?_
 ·refine DR 1 ?_
  refine DE_0 1 (I 1) kk rfl rfl rfl (zI rfl) kk (zS (a := 3) (b := 2) rfl kk kk (by decide)) 22 rfl ?_
  refine DR 1 ?_
  refine DE_0 3 (I 1) kk rfl rfl rfl (zI rfl) kk (zS (a := 2) (b := 2) rfl kk kk (by decide)) 24 rfl ?_
  refine DR 2 ?_
  refine DE_0 6 (I 1) kk rfl rfl rfl (zI rfl) kk (Y0_rem (k := .i64) (a := 3) (b := 2) rfl kk kk (by decide)) 27 rfl ?_
  refine DR 1 ?_
  refine DE_0 8 (I 0) kk rfl rfl rfl (zI rfl) kk (Y0_rem (k := .i64) (a := 2) (b := 2) rfl kk kk (by decide)) 29 rfl ?_
  refine DA 10 ?_
  refine XR 1 ?_
  refine zD ?_
  subst hf39
  kernel_rfl
 show V _ _ _ _
 refine zW ?_
 refine YF ?_
 show VR _ _ _ _ _
 refine VR_s (n := 36) ?_
 refine zV (mb 43 203000) [40, 32, 24] (s' := ⟨bt 3 (.pt 24 0 :: .pt 32 0 :: .pt 40 0 :: I 3 :: I p1.2.2.2 :: bt 3 (.ag [Ti p1.1, Ti p1.2.1, Ti p1.2.2.1, Ti p1.2.2.2] :: I 3 :: bt 3 (.ag [Ti q2.1, Ti q2.2.1, Ti q2.2.2.1, Ti q2.2.2.2] :: I 3 :: bt 25 []))), [(40, .box [Ti f5, Ti f15, Ti f17, Ti f25, Ti f35, Ti f37, Ti f29, Ti f39, Ti 0]), (32, .box [Ti 0, Ti 0, Ti 0, Ti 0, Ti 0, Ti 0, Ti 0, Ti 0, Ti 0]), (24, .box [Ti q2.1, Ti q2.2.1, Ti q2.2.2.1, Ti q2.2.2.2])]⟩) kk ?_
 refine VE ?_
 refine zF ?_
 refine V_cond_true rfl ?_
 refine zK ?_
 show V _ _ _ _
 refine zF ?_
 refine zG ?_
 refine VS ?_
 refine YR 1 ?_
 refine L0 rfl rfl (Y0_indexA (c := fun v => [Ti v]) (xs := [q2.1, q2.2.1, q2.2.2.1, q2.2.2.2]) (v := q2.2.2.2) (k := .i64) (n := 3) Tryz.underlying167 sc3 sz3 rfl kk kk rfl (fun _ => rfl) rfl rfl) ?_
 refine YF ?_
 obtain ⟨f41, hf41, h⟩ := zU h
 refine V_dreg [0, 1, 0, 4, 15, 0, 32, 0, 128, 480, 31, 2047, 4095, 0, 0, 24576, 65535, 31, 262143, 524287] 19 (cdm 19 [2819270816, 2819270817, 2819270666, 2819270682, 2819270741, 37180572330, 37180573354, 37180418730, 37180435114, 37180495530, 37179009365, 37179708757, 37183903061, 34941348522, 34538695338, 34740021930, 35791394133, 11453245781, 22906492245]) (mb 43 203000) [40, 32, 24] (s1 := ⟨bt 3 (.pt 24 0 :: .pt 32 0 :: .pt 40 0 :: I 3 :: I p1.2.2.2 :: bt 3 (.ag [Ti p1.1, Ti p1.2.1, Ti p1.2.2.1, Ti p1.2.2.2] :: I 3 :: bt 3 (.ag [Ti q2.1, Ti q2.2.1, Ti q2.2.2.1, Ti q2.2.2.2] :: I 3 :: bt 25 []))), [(40, .box [Ti f5, Ti f15, Ti f17, Ti f25, Ti f35, Ti f37, Ti f29, Ti f39, Ti f41]), (32, .box [Ti 0, Ti 0, Ti 0, Ti 0, Ti 0, Ti 0, Ti 0, Ti 0, Ti 0]), (24, .box [Ti q2.1, Ti q2.2.1, Ti q2.2.2.1, Ti q2.2.2.2])]⟩) kk kk ?_ ?_
 ·refine DR 1 ?_
  refine DE_0 1 (I 1) kk rfl rfl rfl (zI rfl) kk (zS (a := 3) (b := 2) rfl kk kk (by decide)) 22 rfl ?_
  refine DR 1 ?_
  refine DE_0 3 (I 1) kk rfl rfl rfl (zI rfl) kk (zS (a := 3) (b := 2) rfl kk kk (by decide)) 24 rfl ?_
  refine DR 2 ?_
  refine DE_0 6 (I 1) kk rfl rfl rfl (zI rfl) kk (Y0_rem (k := .i64) (a := 3) (b := 2) rfl kk kk (by decide)) 27 rfl ?_
  refine DR 1 ?_
  refine DE_0 8 (I 1) kk rfl rfl rfl (zI rfl) kk (Y0_rem (k := .i64) (a := 3) (b := 2) rfl kk kk (by decide)) 29 rfl ?_
  refine DA 10 ?_
  refine XR 1 ?_
  refine zD ?_
  subst hf41
  kernel_rfl
 show V _ _ _ _
 refine zW ?_
 refine YF ?_
 show VR _ _ _ _ _
 refine VR_s (n := 35) ?_
 refine zV (mb 43 203000) [40, 32, 24] (s' := ⟨bt 3 (.pt 24 0 :: .pt 32 0 :: .pt 40 0 :: I 3 :: I p1.2.2.2 :: bt 3 (.ag [Ti p1.1, Ti p1.2.1, Ti p1.2.2.1, Ti p1.2.2.2] :: I 3 :: bt 3 (.ag [Ti q2.1, Ti q2.2.1, Ti q2.2.2.1, Ti q2.2.2.2] :: I 4 :: bt 25 []))), [(40, .box [Ti f5, Ti f15, Ti f17, Ti f25, Ti f35, Ti f37, Ti f29, Ti f39, Ti f41]), (32, .box [Ti 0, Ti 0, Ti 0, Ti 0, Ti 0, Ti 0, Ti 0, Ti 0, Ti 0]), (24, .box [Ti q2.1, Ti q2.2.1, Ti q2.2.2.1, Ti q2.2.2.2])]⟩) kk ?_
 refine VE ?_
 refine zF ?_
 refine V_cond_false rfl ?_
 refine V_exit ?_
 show V _ _ _ _
 refine zW ?_
 refine YF ?_
 show VR _ _ _ _ _
 refine VR_s (n := 35) ?_
 refine zV (mb 43 6200) [40, 32, 24] (s' := ⟨bt 3 (.pt 24 0 :: .pt 32 0 :: .pt 40 0 :: bt 5 (.ag [Ti p1.1, Ti p1.2.1, Ti p1.2.2.1, Ti p1.2.2.2] :: I 4 :: bt 30 [])), [(40, .box [Ti f5, Ti f15, Ti f17, Ti f25, Ti f35, Ti f37, Ti f29, Ti f39, Ti f41]), (32, .box [Ti 0, Ti 0, Ti 0, Ti 0, Ti 0, Ti 0, Ti 0, Ti 0, Ti 0]), (24, .box [Ti q2.1, Ti q2.2.1, Ti q2.2.2.1, Ti q2.2.2.2])]⟩) kk ?_
 refine VE ?_
 refine zF ?_
 refine V_cond_false rfl ?_
 refine V_exit ?_
 show V _ _ _ _
 refine VE ?_
 cases h
 exact zH VT
end Go.Proofs.YtfmjfofocklgpaaGreatDoor
