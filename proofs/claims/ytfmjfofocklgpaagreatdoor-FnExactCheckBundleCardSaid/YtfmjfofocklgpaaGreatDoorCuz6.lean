/-
  Rules of walks, plain functions and their laws, part 6.
  Conditions: none.
-/
import Derived.Test.YtfmjfofocklgpaaGreatDoorCuz5
namespace Go.Proofs.YtfmjfofocklgpaaGreatDoor
open Go.RowKit
set_option linter.unusedVariables false
set_option linter.unusedSimpArgs false
set_option maxRecDepth 100000
set_option maxHeartbeats 400000
theorem cf_impl_IsComposition : CfW Tryz.prog 82 := cfW Tryz.func82
theorem s_impl_IsComposition {f1 : (Int × Int × Int)} {g2 : (Int × Int × Int)} {vh3 : (Int × Int × Int)} {k4 : List Int} {r : (Bool × Bool)} (h : r_impl_IsComposition f1 g2 vh3 k4 = some r) : zP Tryz.prog 82 [.ag [Ti f1.1, Ti f1.2.1, Ti f1.2.2], .ag [Ti g2.1, Ti g2.2.1, Ti g2.2.2], .ag [Ti vh3.1, Ti vh3.2.1, Ti vh3.2.2], .c (.sl (k4.map c3))] (.tc (Bo r.1) (.tc (Bo r.2) .tn)) [] := by
 refine CtW [8, 9] Tryz.func82 rfl rfl 117 ?_
 unfold r_impl_IsComposition at h
 refine VE ?_
 refine zF ?_
 obtain ⟨y5, hy5, h⟩ := zA h
 obtain ⟨b8, hb8, h⟩ := zA h
 obtain ⟨b11, hb11, h⟩ := zA h
 obtain ⟨b15, hb15, h⟩ := zA h
 refine zO (mb 117 8796093022328) [48, 40, 32] (s1 := ⟨bt 3 (.c (.sl (k4.map c3)) :: .pt 32 0 :: .pt 40 0 :: .pt 48 0 :: bt 36 (Bo b15 :: bt 73 [])), [(48, .box [Ti vh3.1, Ti vh3.2.1, Ti vh3.2.2]), (40, .box [Ti g2.1, Ti g2.2.1, Ti g2.2.2]), (32, .box [Ti f1.1, Ti f1.2.1, Ti f1.2.2])]⟩) ?_ ?_
 ·refine YK 2 (s_impl_arePair hy5) cf_impl_arePair ?_
  refine YR 2 ?_
  refine zJ (!y5) (fun hc6 => ?_) (fun hc6 => ?_)
  ·have hb8 := zB (zN hb8 hc6)
   refine YQ hc6 ?_
   refine YR 6 ?_
   subst hb8
   have hc9 : true = true := rfl
   have hb11 := zB (zN hb11 hc9)
   refine YR 5 ?_
   subst hb11
   have hc12 : true = true := rfl
   refine YR 5 ?_
   refine zJ (bif true then true else (!eqI ((k4.length : Int)) 8)) (fun hc13 => ?_) (fun hc13 => ?_)
   ·have hb15 := zB (zN hb15 hc13)
    refine YQ hc13 ?_
    exact YE (by rw [← hb15]; (try rw [hc13]); (try rw [hc6]); kernel_rfl)
   ·have hb15 := zC hb15 hc13
    obtain ⟨y14, hy14, hb15⟩ := zA hb15
    have hb15 := zB hb15
    refine YQ hc13 ?_
    refine YK 1 (s_impl_areNumbers hy14) cf_impl_areNumbers ?_
    exact YE (by rw [← hb15]; (try rw [hc13]); (try rw [hc6]); kernel_rfl)
  ·have hb8 := zC hb8 hc6
   obtain ⟨y7, hy7, hb8⟩ := zA hb8
   have hb8 := zB hb8
   refine YQ hc6 ?_
   refine YK 2 (s_impl_arePair hy7) cf_impl_arePair ?_
   refine YR 3 ?_
   refine zJ b8 (fun hc9 => ?_) (fun hc9 => ?_)
   ·have hb11 := zB (zN hb11 hc9)
    refine YQ hc9 ?_ (by rw [← hb8]; (try rw [hc6]); kernel_rfl)
    refine YR 5 ?_
    subst hb11
    have hc12 : true = true := rfl
    refine YR 5 ?_
    refine zJ (bif true then true else (!eqI ((k4.length : Int)) 8)) (fun hc13 => ?_) (fun hc13 => ?_)
    ·have hb15 := zB (zN hb15 hc13)
     refine YQ hc13 ?_
     exact YE (by rw [← hb15]; (try rw [hc13]); (try rw [hc6]); (try rw [hc9]); kernel_rfl)
    ·have hb15 := zC hb15 hc13
     obtain ⟨y14, hy14, hb15⟩ := zA hb15
     have hb15 := zB hb15
     refine YQ hc13 ?_
     refine YK 1 (s_impl_areNumbers hy14) cf_impl_areNumbers ?_
     exact YE (by rw [← hb15]; (try rw [hc13]); (try rw [hc6]); (try rw [hc9]); kernel_rfl)
   ·have hb11 := zC hb11 hc9
    obtain ⟨y10, hy10, hb11⟩ := zA hb11
    have hb11 := zB hb11
    refine YQ hc9 ?_ (by rw [← hb8]; (try rw [← hb11]); (try rw [hc6]); kernel_rfl)
    refine YK 1 (s_impl_Form_isReduced hy10) cf_impl_Form_isReduced ?_
    refine YR 3 ?_
    refine zJ b11 (fun hc12 => ?_) (fun hc12 => ?_)
    ·refine YQ hc12 ?_ (by rw [← hb11]; (try rw [hc6]); (try rw [hc9]); kernel_rfl)
     refine YR 5 ?_
     refine zJ (bif b11 then true else (!eqI ((k4.length : Int)) 8)) (fun hc13 => ?_) (fun hc13 => ?_)
     ·have hb15 := zB (zN hb15 hc13)
      refine YQ hc13 ?_ (by rw [hc12]; kernel_rfl)
      exact YE (by rw [← hb15]; (try rw [hc13]); (try rw [hc6]); (try rw [hc12]); (try rw [hc9]); kernel_rfl)
     ·have hb15 := zC hb15 hc13
      obtain ⟨y14, hy14, hb15⟩ := zA hb15
      have hb15 := zB hb15
      refine YQ hc13 ?_ (by rw [hc12]; kernel_rfl)
      refine YK 1 (s_impl_areNumbers hy14) cf_impl_areNumbers ?_
      exact YE (by rw [← hb15]; (try rw [hc13]); (try rw [hc6]); (try rw [hc12]); (try rw [hc9]); kernel_rfl)
    ·refine YQ hc12 ?_ (by rw [← hb11]; (try rw [hc6]); (try rw [hc9]); kernel_rfl)
     refine YR 1 ?_
     refine YT (X_of_Y0 rfl (Y0_lenM (c := c3) (xs := k4) Tryz.underlying24 rfl kk)) ?_
     refine YR 3 ?_
     refine zJ (bif b11 then true else (!eqI ((k4.length : Int)) 8)) (fun hc13 => ?_) (fun hc13 => ?_)
     ·have hb15 := zB (zN hb15 hc13)
      refine YQ hc13 ?_ (by rw [hc12]; kernel_rfl)
      exact YE (by rw [← hb15]; (try rw [hc13]); (try rw [hc6]); (try rw [hc12]); (try rw [hc9]); kernel_rfl)
     ·have hb15 := zC hb15 hc13
      obtain ⟨y14, hy14, hb15⟩ := zA hb15
      have hb15 := zB hb15
      refine YQ hc13 ?_ (by rw [hc12]; kernel_rfl)
      refine YK 1 (s_impl_areNumbers hy14) cf_impl_areNumbers ?_
      exact YE (by rw [← hb15]; (try rw [hc13]); (try rw [hc6]); (try rw [hc12]); (try rw [hc9]); kernel_rfl)
 refine VC h (fun h => ?_) (fun h => ?_)
 ·refine VE ?_
  cases h
  exact zH VT
 ·refine zK ?_
  show V _ _ _ _
  obtain ⟨u17, hu17, h⟩ := zA h
  obtain ⟨e18, he18, h⟩ := zA h
  obtain ⟨e19, he19, h⟩ := zA h
  obtain ⟨e20, he20, h⟩ := zA h
  obtain ⟨e21, he21, h⟩ := zA h
  obtain ⟨u22, hu22, h⟩ := zA h
  obtain ⟨e23, he23, h⟩ := zA h
  obtain ⟨e24, he24, h⟩ := zA h
  obtain ⟨e25, he25, h⟩ := zA h
  obtain ⟨e26, he26, h⟩ := zA h
  refine VDS [0, 1, 3, 7, 0, 16, 48, 112, 0, 0, 783, 2047] 11 [[.z, .z, .z, .z, .b, .b, .b, .b, .b, .b, .z], [.a, .z, .z, .z, .b, .b, .b, .b, .b, .b, .z], [.a, .a, .z, .z, .b, .b, .b, .b, .b, .b, .z], [.a, .a, .a, .z, .b, .b, .b, .b, .b, .b, .z], [.b, .b, .b, .b, .z, .z, .z, .z, .b, .b, .r 80], [.b, .b, .b, .b, .a, .z, .z, .z, .b, .b, .r 80], [.b, .b, .b, .b, .a, .a, .z, .z, .b, .b, .r 80], [.b, .b, .b, .b, .a, .a, .a, .z, .b, .b, .r 80], [.b, .b, .b, .b, .b, .b, .b, .b, .z, .b, .z], [.b, .b, .b, .b, .b, .b, .b, .b, .b, .z, .z], [.a, .a, .a, .a, .b, .b, .b, .b, .a, .a, .z]] ?_
  refine ER 1 ?_
  refine E0 1 rfl rfl (Y0_slice (c := c3) (xs := k4) (l := 0) (h := 4) Tryz.underlying24 sz3 (fun _ => rfl) rfl kk (fun y hy => by cases hy) (fun _ => rfl) (fun y hy => by cases hy; exact ⟨.i64, kk⟩) (fun hh => by cases hh) (slc_some hu17)) ?_
  refine E0 2 rfl rfl (Y0_s2ap (c := c3) (xs := subl k4 0 4) (ys := [e18, e19, e20, e21]) Tryz.underlying167 (by decide) (fun _ => rfl) rfl kk (tk_cons 0 3 he18 rfl (tk_cons 1 2 he19 rfl (tk_cons 2 1 he20 rfl (tk_cons 3 0 he21 rfl tk_nil)))) rfl) ?_
  refine ER 2 ?_
  refine E0 5 rfl rfl (Y0_slice (c := c3) (xs := k4) (l := 4) (h := (k4.length : Int)) Tryz.underlying24 sz3 (fun _ => rfl) rfl kk (fun y hy => by cases hy; exact ⟨.i64, kk⟩) (fun hh => by cases hh) (fun y hy => by cases hy) (fun _ => rfl) (slc_some hu22)) ?_
  refine E0 6 rfl rfl (Y0_s2ap (c := c3) (xs := subl k4 4 ((k4.length : Int))) (ys := [e23, e24, e25, e26]) Tryz.underlying167 (by decide) (fun _ => rfl) rfl kk (tk_cons 0 3 he23 rfl (tk_cons 1 2 he24 rfl (tk_cons 2 1 he25 rfl (tk_cons 3 0 he26 rfl tk_nil)))) rfl) ?_
  refine EF 4 ?_
  obtain ⟨y27, hy27, h⟩ := zA h
  obtain ⟨y28, hy28, h⟩ := zA h
  obtain ⟨y29, hy29, h⟩ := zA h
  refine VDS [0, 0, 3, 0, 0, 31, 0, 0, 255, 0, 0, 0, 4095, 8191, 16383] 12 (cdm 12 [11051656, 11051650, 11051653, 11051562, 11051178, 11051349, 11045546, 11020970, 11031893, 10660522, 9087658, 2796202]) ?_
  refine EK 2 (s_impl_squareOf hy27) cf_impl_squareOf ?_
  refine EK 2 (s_impl_squareOf hy28) cf_impl_squareOf ?_
  refine EK 2 (s_impl_squareOf hy29) cf_impl_squareOf ?_
  refine EF 3 ?_
  refine V_sdreg [0, 1, 0, 4, 0, 16, 63, 0, 128, 0, 512, 0, 2048, 8064, 0, 0, 49279, 131071] 17 [[.z, .z, .b, .b, .b, .b, .z, .b, .b, .b, .b, .b, .b, .b, .b, .b, .z], [.a, .z, .b, .b, .b, .b, .z, .b, .b, .b, .b, .b, .b, .b, .b, .b, .z], [.b, .b, .z, .z, .b, .b, .z, .b, .b, .b, .b, .b, .b, .b, .b, .b, .z], [.b, .b, .a, .z, .b, .b, .z, .b, .b, .b, .b, .b, .b, .b, .b, .b, .z], [.b, .b, .b, .b, .z, .z, .z, .b, .b, .b, .b, .b, .b, .b, .b, .b, .z], [.b, .b, .b, .b, .a, .z, .z, .b, .b, .b, .b, .b, .b, .b, .b, .b, .z], [.a, .a, .a, .a, .a, .a, .z, .b, .b, .b, .b, .b, .b, .b, .b, .b, .z], [.b, .b, .b, .b, .b, .b, .b, .z, .z, .b, .b, .b, .b, .z, .b, .b, .r 120], [.b, .b, .b, .b, .b, .b, .b, .a, .z, .b, .b, .b, .b, .z, .b, .b, .r 120], [.b, .b, .b, .b, .b, .b, .b, .b, .b, .z, .z, .b, .b, .z, .b, .b, .r 120], [.b, .b, .b, .b, .b, .b, .b, .b, .b, .a, .z, .b, .b, .z, .b, .b, .r 120], [.b, .b, .b, .b, .b, .b, .b, .b, .b, .b, .b, .z, .z, .z, .b, .b, .r 120], [.b, .b, .b, .b, .b, .b, .b, .b, .b, .b, .b, .a, .z, .z, .b, .b, .r 120], [.b, .b, .b, .b, .b, .b, .b, .a, .a, .a, .a, .a, .a, .z, .b, .b, .r 120], [.b, .b, .b, .b, .b, .b, .b, .b, .b, .b, .b, .b, .b, .b, .z, .b, .z], [.b, .b, .b, .b, .b, .b, .b, .b, .b, .b, .b, .b, .b, .b, .b, .z, .z], [.a, .a, .a, .a, .a, .a, .a, .b, .b, .b, .b, .b, .b, .b, .a, .a, .z]] (mb 117 127040) [128, 120, 112, 104, 96, 48] (s1 := ⟨bt 6 (.pt 48 0 :: bt 5 (.pt 96 0 :: .pt 104 0 :: .pt 112 0 :: .pt 120 0 :: .pt 128 0 :: bt 100 [])), [(128, .box [Ti g2.1, Ti g2.2.1, Ti g2.2.2]), (120, .box [Ti f1.1, Ti f1.2.1, Ti f1.2.2]), (112, .box [Ti y29.1.1, Ti y29.1.2.1, Ti y29.1.2.2, Ti y29.2.1.1, Ti y29.2.1.2.1, Ti y29.2.1.2.2, Ti y29.2.2.1, Ti y29.2.2.2.1, Ti y29.2.2.2.2]), (104, .box [Ti y28.1.1, Ti y28.1.2.1, Ti y28.1.2.2, Ti y28.2.1.1, Ti y28.2.1.2.1, Ti y28.2.1.2.2, Ti y28.2.2.1, Ti y28.2.2.2.1, Ti y28.2.2.2.2]), (96, .box [Ti y27.1.1, Ti y27.1.2.1, Ti y27.1.2.2, Ti y27.2.1.1, Ti y27.2.1.2.1, Ti y27.2.1.2.2, Ti y27.2.2.1, Ti y27.2.2.2.1, Ti y27.2.2.2.2]), (48, .box [Ti vh3.1, Ti vh3.2.1, Ti vh3.2.2])]⟩) kk kk ?_ ?_
  ·refine ER 6 ?_
   refine E0 6 rfl rfl (Y0_build (cs := [Ti f1.1, Ti f1.2.1, Ti f1.2.2]) pl168 bt168 rfl rfl kk) ?_
   refine ER 6 ?_
   refine E0 13 rfl rfl (Y0_build (cs := [Ti g2.1, Ti g2.2.1, Ti g2.2.2]) pl168 bt168 rfl rfl kk) ?_
   refine EA 3 ?_
   exact XE
  refine zF ?_
  refine VE ?_
  refine zG (V_unroll 40 ?_)
  refine VR_s (n := 39) ?_
  refine zV (mb 117 37778931862957161836608) [128, 120, 112, 104, 96, 48] (s' := ⟨bt 6 (.pt 48 0 :: bt 5 (.pt 96 0 :: .pt 104 0 :: .pt 112 0 :: .pt 120 0 :: .pt 128 0 :: bt 58 (I 0 :: bt 41 []))), [(128, .box [Ti g2.1, Ti g2.2.1, Ti g2.2.2]), (120, .box [Ti f1.1, Ti f1.2.1, Ti f1.2.2]), (112, .box [Ti y29.1.1, Ti y29.1.2.1, Ti y29.1.2.2, Ti y29.2.1.1, Ti y29.2.1.2.1, Ti y29.2.1.2.2, Ti y29.2.2.1, Ti y29.2.2.2.1, Ti y29.2.2.2.2]), (104, .box [Ti y28.1.1, Ti y28.1.2.1, Ti y28.1.2.2, Ti y28.2.1.1, Ti y28.2.1.2.1, Ti y28.2.1.2.2, Ti y28.2.2.1, Ti y28.2.2.2.1, Ti y28.2.2.2.2]), (96, .box [Ti y27.1.1, Ti y27.1.2.1, Ti y27.1.2.2, Ti y27.2.1.1, Ti y27.2.1.2.1, Ti y27.2.1.2.2, Ti y27.2.2.1, Ti y27.2.2.2.1, Ti y27.2.2.2.2]), (48, .box [Ti vh3.1, Ti vh3.2.1, Ti vh3.2.2])]⟩) kk ?_
  refine VE ?_
  refine zF ?_
  refine V_cond_true rfl ?_
  refine zK ?_
  show V _ _ _ _
  refine zF ?_
  refine zG ?_
  refine VE ?_
  refine VE ?_
  refine zG (V_unroll 40 ?_)
  refine VR_s (n := 39) ?_
  refine zV (mb 117 340010386766614455644224) [128, 120, 112, 104, 96, 48] (s' := ⟨bt 6 (.pt 48 0 :: bt 5 (.pt 96 0 :: .pt 104 0 :: .pt 112 0 :: .pt 120 0 :: .pt 128 0 :: I 0 :: bt 57 (I 0 :: .bot :: .bot :: I 0 :: bt 38 []))), [(128, .box [Ti g2.1, Ti g2.2.1, Ti g2.2.2]), (120, .box [Ti f1.1, Ti f1.2.1, Ti f1.2.2]), (112, .box [Ti y29.1.1, Ti y29.1.2.1, Ti y29.1.2.2, Ti y29.2.1.1, Ti y29.2.1.2.1, Ti y29.2.1.2.2, Ti y29.2.2.1, Ti y29.2.2.2.1, Ti y29.2.2.2.2]), (104, .box [Ti y28.1.1, Ti y28.1.2.1, Ti y28.1.2.2, Ti y28.2.1.1, Ti y28.2.1.2.1, Ti y28.2.1.2.2, Ti y28.2.2.1, Ti y28.2.2.2.1, Ti y28.2.2.2.2]), (96, .box [Ti y27.1.1, Ti y27.1.2.1, Ti y27.1.2.2, Ti y27.2.1.1, Ti y27.2.1.2.1, Ti y27.2.1.2.2, Ti y27.2.2.1, Ti y27.2.2.2.1, Ti y27.2.2.2.2]), (48, .box [Ti vh3.1, Ti vh3.2.1, Ti vh3.2.2])]⟩) kk ?_
  refine VE ?_
  refine zF ?_
  refine V_cond_true rfl ?_
  refine zK ?_
  show V _ _ _ _
  refine zF ?_
  refine zG ?_
  refine VE ?_
  obtain ⟨t32, ht32, h⟩ := zA h
  have ht32 := zB ht32
  refine V_sdreg [0, 1, 0, 0, 4, 28, 60, 127, 0, 256, 0, 0, 1024, 7168, 15360, 32512, 65535, 0, 131072, 0, 0, 524288, 3670016, 7864320, 16646144, 33554431, 0, 67108864, 201326592, 0, 536870912, 1610612736, 4227858432, 8589934591] 34 (cdm 34 [49189065721488485024, 49189065721488485025, 49189065721488474250, 49189065721488474666, 49189065721488474266, 49189065721488474458, 49189065721488475482, 49189065721488479573, 49189065719340378794, 49189065719340444330, 49189065718634293930, 49189065718661556906, 49189065718635342506, 49189065718647925418, 49189065718715034282, 49189065718983142058, 49189065720056862037, 49188502608326339242, 49188502625506208426, 49188317512415750826, 49188324659241331370, 49188317787293657770, 49188321085828541098, 49188338678014585514, 49188408960859417258, 49188690430109504853, 12108678198123473578, 12113181797750844074, 12131196196260326058, 192153584101141162, 480383960252852906, 1633305464859699882, 6150415891112307370, 24595658764946068821]) (mb 117 20769187434479320900888599772524608) [128, 120, 112, 104, 96, 48] (s1 := ⟨bt 6 (.pt 48 0 :: bt 5 (.pt 96 0 :: .pt 104 0 :: .pt 112 0 :: .pt 120 0 :: .pt 128 0 :: I 0 :: bt 57 (I 0 :: .bot :: .bot :: I 0 :: bt 35 (Bo t32 :: .bot :: .bot :: [])))), [(128, .box [Ti g2.1, Ti g2.2.1, Ti g2.2.2]), (120, .box [Ti f1.1, Ti f1.2.1, Ti f1.2.2]), (112, .box [Ti y29.1.1, Ti y29.1.2.1, Ti y29.1.2.2, Ti y29.2.1.1, Ti y29.2.1.2.1, Ti y29.2.1.2.2, Ti y29.2.2.1, Ti y29.2.2.2.1, Ti y29.2.2.2.2]), (104, .box [Ti y28.1.1, Ti y28.1.2.1, Ti y28.1.2.2, Ti y28.2.1.1, Ti y28.2.1.2.1, Ti y28.2.1.2.2, Ti y28.2.2.1, Ti y28.2.2.2.1, Ti y28.2.2.2.2]), (96, .box [Ti y27.1.1, Ti y27.1.2.1, Ti y27.1.2.2, Ti y27.2.1.1, Ti y27.2.1.2.1, Ti y27.2.1.2.2, Ti y27.2.2.1, Ti y27.2.2.2.1, Ti y27.2.2.2.2]), (48, .box [Ti vh3.1, Ti vh3.2.1, Ti vh3.2.2])]⟩) kk kk ?_ ?_
  ·refine DA 34 ?_
   refine zD ?_
   subst ht32
   kernel_rfl
  refine VC h (fun h => ?_) (fun h => ?_)
  ·refine VE ?_
   cases h
   exact zH VT
  ·refine zK ?_
   show V _ _ _ _
   refine zW ?_
   refine YF ?_
   show VR _ _ _ _ _
   refine VR_s (n := 38) ?_
   refine zV (mb 117 340010386766614455644224) [128, 120, 112, 104, 96, 48] (s' := ⟨bt 6 (.pt 48 0 :: bt 5 (.pt 96 0 :: .pt 104 0 :: .pt 112 0 :: .pt 120 0 :: .pt 128 0 :: I 0 :: bt 57 (I 0 :: .bot :: .bot :: I 1 :: bt 38 []))), [(128, .box [Ti g2.1, Ti g2.2.1, Ti g2.2.2]), (120, .box [Ti f1.1, Ti f1.2.1, Ti f1.2.2]), (112, .box [Ti y29.1.1, Ti y29.1.2.1, Ti y29.1.2.2, Ti y29.2.1.1, Ti y29.2.1.2.1, Ti y29.2.1.2.2, Ti y29.2.2.1, Ti y29.2.2.2.1, Ti y29.2.2.2.2]), (104, .box [Ti y28.1.1, Ti y28.1.2.1, Ti y28.1.2.2, Ti y28.2.1.1, Ti y28.2.1.2.1, Ti y28.2.1.2.2, Ti y28.2.2.1, Ti y28.2.2.2.1, Ti y28.2.2.2.2]), (96, .box [Ti y27.1.1, Ti y27.1.2.1, Ti y27.1.2.2, Ti y27.2.1.1, Ti y27.2.1.2.1, Ti y27.2.1.2.2, Ti y27.2.2.1, Ti y27.2.2.2.1, Ti y27.2.2.2.2]), (48, .box [Ti vh3.1, Ti vh3.2.1, Ti vh3.2.2])]⟩) kk ?_
   refine VE ?_
   refine zF ?_
   refine V_cond_true rfl ?_
   refine zK ?_
   show V _ _ _ _
   refine zF ?_
   refine zG ?_
   refine VE ?_
   obtain ⟨t35, ht35, h⟩ := zA h
   have ht35 := zB ht35
   refine V_sdreg [0, 1, 0, 0, 4, 28, 60, 127, 0, 256, 0, 0, 1024, 7168, 15360, 32512, 65535, 0, 131072, 0, 0, 524288, 3670016, 7864320, 16646144, 33554431, 0, 67108864, 201326592, 0, 536870912, 1610612736, 4227858432, 8589934591] 34 (cdm 34 [49189065721488485024, 49189065721488485025, 49189065721488474250, 49189065721488474666, 49189065721488474266, 49189065721488474458, 49189065721488475482, 49189065721488479573, 49189065719340378794, 49189065719340444330, 49189065718634293930, 49189065718661556906, 49189065718635342506, 49189065718647925418, 49189065718715034282, 49189065718983142058, 49189065720056862037, 49188502608326339242, 49188502625506208426, 49188317512415750826, 49188324659241331370, 49188317787293657770, 49188321085828541098, 49188338678014585514, 49188408960859417258, 49188690430109504853, 12108678198123473578, 12113181797750844074, 12131196196260326058, 192153584101141162, 480383960252852906, 1633305464859699882, 6150415891112307370, 24595658764946068821]) (mb 117 20769187434479320900888599772524608) [128, 120, 112, 104, 96, 48] (s1 := ⟨bt 6 (.pt 48 0 :: bt 5 (.pt 96 0 :: .pt 104 0 :: .pt 112 0 :: .pt 120 0 :: .pt 128 0 :: I 0 :: bt 57 (I 0 :: .bot :: .bot :: I 1 :: bt 35 (Bo t35 :: .bot :: .bot :: [])))), [(128, .box [Ti g2.1, Ti g2.2.1, Ti g2.2.2]), (120, .box [Ti f1.1, Ti f1.2.1, Ti f1.2.2]), (112, .box [Ti y29.1.1, Ti y29.1.2.1, Ti y29.1.2.2, Ti y29.2.1.1, Ti y29.2.1.2.1, Ti y29.2.1.2.2, Ti y29.2.2.1, Ti y29.2.2.2.1, Ti y29.2.2.2.2]), (104, .box [Ti y28.1.1, Ti y28.1.2.1, Ti y28.1.2.2, Ti y28.2.1.1, Ti y28.2.1.2.1, Ti y28.2.1.2.2, Ti y28.2.2.1, Ti y28.2.2.2.1, Ti y28.2.2.2.2]), (96, .box [Ti y27.1.1, Ti y27.1.2.1, Ti y27.1.2.2, Ti y27.2.1.1, Ti y27.2.1.2.1, Ti y27.2.1.2.2, Ti y27.2.2.1, Ti y27.2.2.2.1, Ti y27.2.2.2.2]), (48, .box [Ti vh3.1, Ti vh3.2.1, Ti vh3.2.2])]⟩) kk kk ?_ ?_
   ·refine DA 34 ?_
    refine zD ?_
    subst ht35
    kernel_rfl
   refine VC h (fun h => ?_) (fun h => ?_)
   ·refine VE ?_
    cases h
    exact zH VT
   ·refine zK ?_
    show V _ _ _ _
    refine zW ?_
    refine YF ?_
    show VR _ _ _ _ _
    refine VR_s (n := 37) ?_
    refine zV (mb 117 340010386766614455644224) [128, 120, 112, 104, 96, 48] (s' := ⟨bt 6 (.pt 48 0 :: bt 5 (.pt 96 0 :: .pt 104 0 :: .pt 112 0 :: .pt 120 0 :: .pt 128 0 :: I 0 :: bt 57 (I 0 :: .bot :: .bot :: I 2 :: bt 38 []))), [(128, .box [Ti g2.1, Ti g2.2.1, Ti g2.2.2]), (120, .box [Ti f1.1, Ti f1.2.1, Ti f1.2.2]), (112, .box [Ti y29.1.1, Ti y29.1.2.1, Ti y29.1.2.2, Ti y29.2.1.1, Ti y29.2.1.2.1, Ti y29.2.1.2.2, Ti y29.2.2.1, Ti y29.2.2.2.1, Ti y29.2.2.2.2]), (104, .box [Ti y28.1.1, Ti y28.1.2.1, Ti y28.1.2.2, Ti y28.2.1.1, Ti y28.2.1.2.1, Ti y28.2.1.2.2, Ti y28.2.2.1, Ti y28.2.2.2.1, Ti y28.2.2.2.2]), (96, .box [Ti y27.1.1, Ti y27.1.2.1, Ti y27.1.2.2, Ti y27.2.1.1, Ti y27.2.1.2.1, Ti y27.2.1.2.2, Ti y27.2.2.1, Ti y27.2.2.2.1, Ti y27.2.2.2.2]), (48, .box [Ti vh3.1, Ti vh3.2.1, Ti vh3.2.2])]⟩) kk ?_
    refine VE ?_
    refine zF ?_
    refine V_cond_true rfl ?_
    refine zK ?_
    show V _ _ _ _
    refine zF ?_
    refine zG ?_
    refine VE ?_
    obtain ⟨t38, ht38, h⟩ := zA h
    have ht38 := zB ht38
    refine V_sdreg [0, 1, 0, 0, 4, 28, 60, 127, 0, 256, 0, 0, 1024, 7168, 15360, 32512, 65535, 0, 131072, 0, 0, 524288, 3670016, 7864320, 16646144, 33554431, 0, 67108864, 201326592, 0, 536870912, 1610612736, 4227858432, 8589934591] 34 (cdm 34 [49189065721488485024, 49189065721488485025, 49189065721488474250, 49189065721488474666, 49189065721488474266, 49189065721488474458, 49189065721488475482, 49189065721488479573, 49189065719340378794, 49189065719340444330, 49189065718634293930, 49189065718661556906, 49189065718635342506, 49189065718647925418, 49189065718715034282, 49189065718983142058, 49189065720056862037, 49188502608326339242, 49188502625506208426, 49188317512415750826, 49188324659241331370, 49188317787293657770, 49188321085828541098, 49188338678014585514, 49188408960859417258, 49188690430109504853, 12108678198123473578, 12113181797750844074, 12131196196260326058, 192153584101141162, 480383960252852906, 1633305464859699882, 6150415891112307370, 24595658764946068821]) (mb 117 20769187434479320900888599772524608) [128, 120, 112, 104, 96, 48] (s1 := ⟨bt 6 (.pt 48 0 :: bt 5 (.pt 96 0 :: .pt 104 0 :: .pt 112 0 :: .pt 120 0 :: .pt 128 0 :: I 0 :: bt 57 (I 0 :: .bot :: .bot :: I 2 :: bt 35 (Bo t38 :: .bot :: .bot :: [])))), [(128, .box [Ti g2.1, Ti g2.2.1, Ti g2.2.2]), (120, .box [Ti f1.1, Ti f1.2.1, Ti f1.2.2]), (112, .box [Ti y29.1.1, Ti y29.1.2.1, Ti y29.1.2.2, Ti y29.2.1.1, Ti y29.2.1.2.1, Ti y29.2.1.2.2, Ti y29.2.2.1, Ti y29.2.2.2.1, Ti y29.2.2.2.2]), (104, .box [Ti y28.1.1, Ti y28.1.2.1, Ti y28.1.2.2, Ti y28.2.1.1, Ti y28.2.1.2.1, Ti y28.2.1.2.2, Ti y28.2.2.1, Ti y28.2.2.2.1, Ti y28.2.2.2.2]), (96, .box [Ti y27.1.1, Ti y27.1.2.1, Ti y27.1.2.2, Ti y27.2.1.1, Ti y27.2.1.2.1, Ti y27.2.1.2.2, Ti y27.2.2.1, Ti y27.2.2.2.1, Ti y27.2.2.2.2]), (48, .box [Ti vh3.1, Ti vh3.2.1, Ti vh3.2.2])]⟩) kk kk ?_ ?_
    ·refine DA 34 ?_
     refine zD ?_
     subst ht38
     kernel_rfl
    refine VC h (fun h => ?_) (fun h => ?_)
    ·refine VE ?_
     cases h
     exact zH VT
    ·refine zK ?_
     show V _ _ _ _
     refine zW ?_
     refine YF ?_
     show VR _ _ _ _ _
     refine VR_s (n := 36) ?_
     refine zV (mb 117 340010386766614455644224) [128, 120, 112, 104, 96, 48] (s' := ⟨bt 6 (.pt 48 0 :: bt 5 (.pt 96 0 :: .pt 104 0 :: .pt 112 0 :: .pt 120 0 :: .pt 128 0 :: I 0 :: bt 57 (I 0 :: .bot :: .bot :: I 3 :: bt 38 []))), [(128, .box [Ti g2.1, Ti g2.2.1, Ti g2.2.2]), (120, .box [Ti f1.1, Ti f1.2.1, Ti f1.2.2]), (112, .box [Ti y29.1.1, Ti y29.1.2.1, Ti y29.1.2.2, Ti y29.2.1.1, Ti y29.2.1.2.1, Ti y29.2.1.2.2, Ti y29.2.2.1, Ti y29.2.2.2.1, Ti y29.2.2.2.2]), (104, .box [Ti y28.1.1, Ti y28.1.2.1, Ti y28.1.2.2, Ti y28.2.1.1, Ti y28.2.1.2.1, Ti y28.2.1.2.2, Ti y28.2.2.1, Ti y28.2.2.2.1, Ti y28.2.2.2.2]), (96, .box [Ti y27.1.1, Ti y27.1.2.1, Ti y27.1.2.2, Ti y27.2.1.1, Ti y27.2.1.2.1, Ti y27.2.1.2.2, Ti y27.2.2.1, Ti y27.2.2.2.1, Ti y27.2.2.2.2]), (48, .box [Ti vh3.1, Ti vh3.2.1, Ti vh3.2.2])]⟩) kk ?_
     refine VE ?_
     refine zF ?_
     refine V_cond_false rfl ?_
     refine V_exit ?_
     show V _ _ _ _
     refine zW ?_
     refine YF ?_
     show VR _ _ _ _ _
     refine VR_s (n := 38) ?_
     refine zV (mb 117 37778931862957161836608) [128, 120, 112, 104, 96, 48] (s' := ⟨bt 6 (.pt 48 0 :: bt 5 (.pt 96 0 :: .pt 104 0 :: .pt 112 0 :: .pt 120 0 :: .pt 128 0 :: bt 58 (I 1 :: bt 41 []))), [(128, .box [Ti g2.1, Ti g2.2.1, Ti g2.2.2]), (120, .box [Ti f1.1, Ti f1.2.1, Ti f1.2.2]), (112, .box [Ti y29.1.1, Ti y29.1.2.1, Ti y29.1.2.2, Ti y29.2.1.1, Ti y29.2.1.2.1, Ti y29.2.1.2.2, Ti y29.2.2.1, Ti y29.2.2.2.1, Ti y29.2.2.2.2]), (104, .box [Ti y28.1.1, Ti y28.1.2.1, Ti y28.1.2.2, Ti y28.2.1.1, Ti y28.2.1.2.1, Ti y28.2.1.2.2, Ti y28.2.2.1, Ti y28.2.2.2.1, Ti y28.2.2.2.2]), (96, .box [Ti y27.1.1, Ti y27.1.2.1, Ti y27.1.2.2, Ti y27.2.1.1, Ti y27.2.1.2.1, Ti y27.2.1.2.2, Ti y27.2.2.1, Ti y27.2.2.2.1, Ti y27.2.2.2.2]), (48, .box [Ti vh3.1, Ti vh3.2.1, Ti vh3.2.2])]⟩) kk ?_
     refine VE ?_
     refine zF ?_
     refine V_cond_true rfl ?_
     refine zK ?_
     show V _ _ _ _
     refine zF ?_
     refine zG ?_
     refine VE ?_
     refine VE ?_
     refine zG (V_unroll 40 ?_)
     refine VR_s (n := 39) ?_
     refine zV (mb 117 340010386766614455644224) [128, 120, 112, 104, 96, 48] (s' := ⟨bt 6 (.pt 48 0 :: bt 5 (.pt 96 0 :: .pt 104 0 :: .pt 112 0 :: .pt 120 0 :: .pt 128 0 :: I 1 :: bt 57 (I 1 :: .bot :: .bot :: I 0 :: bt 38 []))), [(128, .box [Ti g2.1, Ti g2.2.1, Ti g2.2.2]), (120, .box [Ti f1.1, Ti f1.2.1, Ti f1.2.2]), (112, .box [Ti y29.1.1, Ti y29.1.2.1, Ti y29.1.2.2, Ti y29.2.1.1, Ti y29.2.1.2.1, Ti y29.2.1.2.2, Ti y29.2.2.1, Ti y29.2.2.2.1, Ti y29.2.2.2.2]), (104, .box [Ti y28.1.1, Ti y28.1.2.1, Ti y28.1.2.2, Ti y28.2.1.1, Ti y28.2.1.2.1, Ti y28.2.1.2.2, Ti y28.2.2.1, Ti y28.2.2.2.1, Ti y28.2.2.2.2]), (96, .box [Ti y27.1.1, Ti y27.1.2.1, Ti y27.1.2.2, Ti y27.2.1.1, Ti y27.2.1.2.1, Ti y27.2.1.2.2, Ti y27.2.2.1, Ti y27.2.2.2.1, Ti y27.2.2.2.2]), (48, .box [Ti vh3.1, Ti vh3.2.1, Ti vh3.2.2])]⟩) kk ?_
     refine VE ?_
     refine zF ?_
     refine V_cond_true rfl ?_
     refine zK ?_
     show V _ _ _ _
     refine zF ?_
     refine zG ?_
     refine VE ?_
     obtain ⟨t43, ht43, h⟩ := zA h
     have ht43 := zB ht43
     refine V_sdreg [0, 1, 0, 0, 4, 28, 60, 127, 0, 256, 0, 0, 1024, 7168, 15360, 32512, 65535, 0, 131072, 0, 0, 524288, 3670016, 7864320, 16646144, 33554431, 0, 67108864, 201326592, 0, 536870912, 1610612736, 4227858432, 8589934591] 34 (cdm 34 [49189065721488485024, 49189065721488485025, 49189065721488474250, 49189065721488474666, 49189065721488474266, 49189065721488474458, 49189065721488475482, 49189065721488479573, 49189065719340378794, 49189065719340444330, 49189065718634293930, 49189065718661556906, 49189065718635342506, 49189065718647925418, 49189065718715034282, 49189065718983142058, 49189065720056862037, 49188502608326339242, 49188502625506208426, 49188317512415750826, 49188324659241331370, 49188317787293657770, 49188321085828541098, 49188338678014585514, 49188408960859417258, 49188690430109504853, 12108678198123473578, 12113181797750844074, 12131196196260326058, 192153584101141162, 480383960252852906, 1633305464859699882, 6150415891112307370, 24595658764946068821]) (mb 117 20769187434479320900888599772524608) [128, 120, 112, 104, 96, 48] (s1 := ⟨bt 6 (.pt 48 0 :: bt 5 (.pt 96 0 :: .pt 104 0 :: .pt 112 0 :: .pt 120 0 :: .pt 128 0 :: I 1 :: bt 57 (I 1 :: .bot :: .bot :: I 0 :: bt 35 (Bo t43 :: .bot :: .bot :: [])))), [(128, .box [Ti g2.1, Ti g2.2.1, Ti g2.2.2]), (120, .box [Ti f1.1, Ti f1.2.1, Ti f1.2.2]), (112, .box [Ti y29.1.1, Ti y29.1.2.1, Ti y29.1.2.2, Ti y29.2.1.1, Ti y29.2.1.2.1, Ti y29.2.1.2.2, Ti y29.2.2.1, Ti y29.2.2.2.1, Ti y29.2.2.2.2]), (104, .box [Ti y28.1.1, Ti y28.1.2.1, Ti y28.1.2.2, Ti y28.2.1.1, Ti y28.2.1.2.1, Ti y28.2.1.2.2, Ti y28.2.2.1, Ti y28.2.2.2.1, Ti y28.2.2.2.2]), (96, .box [Ti y27.1.1, Ti y27.1.2.1, Ti y27.1.2.2, Ti y27.2.1.1, Ti y27.2.1.2.1, Ti y27.2.1.2.2, Ti y27.2.2.1, Ti y27.2.2.2.1, Ti y27.2.2.2.2]), (48, .box [Ti vh3.1, Ti vh3.2.1, Ti vh3.2.2])]⟩) kk kk ?_ ?_
     ·refine DA 34 ?_
      refine zD ?_
      subst ht43
      kernel_rfl
     refine VC h (fun h => ?_) (fun h => ?_)
     ·refine VE ?_
      cases h
      exact zH VT
     ·refine zK ?_
      show V _ _ _ _
      refine zW ?_
      refine YF ?_
      show VR _ _ _ _ _
      refine VR_s (n := 38) ?_
      refine zV (mb 117 340010386766614455644224) [128, 120, 112, 104, 96, 48] (s' := ⟨bt 6 (.pt 48 0 :: bt 5 (.pt 96 0 :: .pt 104 0 :: .pt 112 0 :: .pt 120 0 :: .pt 128 0 :: I 1 :: bt 57 (I 1 :: .bot :: .bot :: I 1 :: bt 38 []))), [(128, .box [Ti g2.1, Ti g2.2.1, Ti g2.2.2]), (120, .box [Ti f1.1, Ti f1.2.1, Ti f1.2.2]), (112, .box [Ti y29.1.1, Ti y29.1.2.1, Ti y29.1.2.2, Ti y29.2.1.1, Ti y29.2.1.2.1, Ti y29.2.1.2.2, Ti y29.2.2.1, Ti y29.2.2.2.1, Ti y29.2.2.2.2]), (104, .box [Ti y28.1.1, Ti y28.1.2.1, Ti y28.1.2.2, Ti y28.2.1.1, Ti y28.2.1.2.1, Ti y28.2.1.2.2, Ti y28.2.2.1, Ti y28.2.2.2.1, Ti y28.2.2.2.2]), (96, .box [Ti y27.1.1, Ti y27.1.2.1, Ti y27.1.2.2, Ti y27.2.1.1, Ti y27.2.1.2.1, Ti y27.2.1.2.2, Ti y27.2.2.1, Ti y27.2.2.2.1, Ti y27.2.2.2.2]), (48, .box [Ti vh3.1, Ti vh3.2.1, Ti vh3.2.2])]⟩) kk ?_
      refine VE ?_
      refine zF ?_
      refine V_cond_true rfl ?_
      refine zK ?_
      show V _ _ _ _
      refine zF ?_
      refine zG ?_
      refine VE ?_
      obtain ⟨t46, ht46, h⟩ := zA h
      have ht46 := zB ht46
      refine V_sdreg [0, 1, 0, 0, 4, 28, 60, 127, 0, 256, 0, 0, 1024, 7168, 15360, 32512, 65535, 0, 131072, 0, 0, 524288, 3670016, 7864320, 16646144, 33554431, 0, 67108864, 201326592, 0, 536870912, 1610612736, 4227858432, 8589934591] 34 (cdm 34 [49189065721488485024, 49189065721488485025, 49189065721488474250, 49189065721488474666, 49189065721488474266, 49189065721488474458, 49189065721488475482, 49189065721488479573, 49189065719340378794, 49189065719340444330, 49189065718634293930, 49189065718661556906, 49189065718635342506, 49189065718647925418, 49189065718715034282, 49189065718983142058, 49189065720056862037, 49188502608326339242, 49188502625506208426, 49188317512415750826, 49188324659241331370, 49188317787293657770, 49188321085828541098, 49188338678014585514, 49188408960859417258, 49188690430109504853, 12108678198123473578, 12113181797750844074, 12131196196260326058, 192153584101141162, 480383960252852906, 1633305464859699882, 6150415891112307370, 24595658764946068821]) (mb 117 20769187434479320900888599772524608) [128, 120, 112, 104, 96, 48] (s1 := ⟨bt 6 (.pt 48 0 :: bt 5 (.pt 96 0 :: .pt 104 0 :: .pt 112 0 :: .pt 120 0 :: .pt 128 0 :: I 1 :: bt 57 (I 1 :: .bot :: .bot :: I 1 :: bt 35 (Bo t46 :: .bot :: .bot :: [])))), [(128, .box [Ti g2.1, Ti g2.2.1, Ti g2.2.2]), (120, .box [Ti f1.1, Ti f1.2.1, Ti f1.2.2]), (112, .box [Ti y29.1.1, Ti y29.1.2.1, Ti y29.1.2.2, Ti y29.2.1.1, Ti y29.2.1.2.1, Ti y29.2.1.2.2, Ti y29.2.2.1, Ti y29.2.2.2.1, Ti y29.2.2.2.2]), (104, .box [Ti y28.1.1, Ti y28.1.2.1, Ti y28.1.2.2, Ti y28.2.1.1, Ti y28.2.1.2.1, Ti y28.2.1.2.2, Ti y28.2.2.1, Ti y28.2.2.2.1, Ti y28.2.2.2.2]), (96, .box [Ti y27.1.1, Ti y27.1.2.1, Ti y27.1.2.2, Ti y27.2.1.1, Ti y27.2.1.2.1, Ti y27.2.1.2.2, Ti y27.2.2.1, Ti y27.2.2.2.1, Ti y27.2.2.2.2]), (48, .box [Ti vh3.1, Ti vh3.2.1, Ti vh3.2.2])]⟩) kk kk ?_ ?_
      ·refine DA 34 ?_
       refine zD ?_
       subst ht46
       kernel_rfl
      refine VC h (fun h => ?_) (fun h => ?_)
      ·refine VE ?_
       cases h
       exact zH VT
      ·refine zK ?_
       show V _ _ _ _
       refine zW ?_
       refine YF ?_
       show VR _ _ _ _ _
       refine VR_s (n := 37) ?_
       refine zV (mb 117 340010386766614455644224) [128, 120, 112, 104, 96, 48] (s' := ⟨bt 6 (.pt 48 0 :: bt 5 (.pt 96 0 :: .pt 104 0 :: .pt 112 0 :: .pt 120 0 :: .pt 128 0 :: I 1 :: bt 57 (I 1 :: .bot :: .bot :: I 2 :: bt 38 []))), [(128, .box [Ti g2.1, Ti g2.2.1, Ti g2.2.2]), (120, .box [Ti f1.1, Ti f1.2.1, Ti f1.2.2]), (112, .box [Ti y29.1.1, Ti y29.1.2.1, Ti y29.1.2.2, Ti y29.2.1.1, Ti y29.2.1.2.1, Ti y29.2.1.2.2, Ti y29.2.2.1, Ti y29.2.2.2.1, Ti y29.2.2.2.2]), (104, .box [Ti y28.1.1, Ti y28.1.2.1, Ti y28.1.2.2, Ti y28.2.1.1, Ti y28.2.1.2.1, Ti y28.2.1.2.2, Ti y28.2.2.1, Ti y28.2.2.2.1, Ti y28.2.2.2.2]), (96, .box [Ti y27.1.1, Ti y27.1.2.1, Ti y27.1.2.2, Ti y27.2.1.1, Ti y27.2.1.2.1, Ti y27.2.1.2.2, Ti y27.2.2.1, Ti y27.2.2.2.1, Ti y27.2.2.2.2]), (48, .box [Ti vh3.1, Ti vh3.2.1, Ti vh3.2.2])]⟩) kk ?_
       refine VE ?_
       refine zF ?_
       refine V_cond_true rfl ?_
       refine zK ?_
       show V _ _ _ _
       refine zF ?_
       refine zG ?_
       refine VE ?_
       obtain ⟨t49, ht49, h⟩ := zA h
       have ht49 := zB ht49
       refine V_sdreg [0, 1, 0, 0, 4, 28, 60, 127, 0, 256, 0, 0, 1024, 7168, 15360, 32512, 65535, 0, 131072, 0, 0, 524288, 3670016, 7864320, 16646144, 33554431, 0, 67108864, 201326592, 0, 536870912, 1610612736, 4227858432, 8589934591] 34 (cdm 34 [49189065721488485024, 49189065721488485025, 49189065721488474250, 49189065721488474666, 49189065721488474266, 49189065721488474458, 49189065721488475482, 49189065721488479573, 49189065719340378794, 49189065719340444330, 49189065718634293930, 49189065718661556906, 49189065718635342506, 49189065718647925418, 49189065718715034282, 49189065718983142058, 49189065720056862037, 49188502608326339242, 49188502625506208426, 49188317512415750826, 49188324659241331370, 49188317787293657770, 49188321085828541098, 49188338678014585514, 49188408960859417258, 49188690430109504853, 12108678198123473578, 12113181797750844074, 12131196196260326058, 192153584101141162, 480383960252852906, 1633305464859699882, 6150415891112307370, 24595658764946068821]) (mb 117 20769187434479320900888599772524608) [128, 120, 112, 104, 96, 48] (s1 := ⟨bt 6 (.pt 48 0 :: bt 5 (.pt 96 0 :: .pt 104 0 :: .pt 112 0 :: .pt 120 0 :: .pt 128 0 :: I 1 :: bt 57 (I 1 :: .bot :: .bot :: I 2 :: bt 35 (Bo t49 :: .bot :: .bot :: [])))), [(128, .box [Ti g2.1, Ti g2.2.1, Ti g2.2.2]), (120, .box [Ti f1.1, Ti f1.2.1, Ti f1.2.2]), (112, .box [Ti y29.1.1, Ti y29.1.2.1, Ti y29.1.2.2, Ti y29.2.1.1, Ti y29.2.1.2.1, Ti y29.2.1.2.2, Ti y29.2.2.1, Ti y29.2.2.2.1, Ti y29.2.2.2.2]), (104, .box [Ti y28.1.1, Ti y28.1.2.1, Ti y28.1.2.2, Ti y28.2.1.1, Ti y28.2.1.2.1, Ti y28.2.1.2.2, Ti y28.2.2.1, Ti y28.2.2.2.1, Ti y28.2.2.2.2]), (96, .box [Ti y27.1.1, Ti y27.1.2.1, Ti y27.1.2.2, Ti y27.2.1.1, Ti y27.2.1.2.1, Ti y27.2.1.2.2, Ti y27.2.2.1, Ti y27.2.2.2.1, Ti y27.2.2.2.2]), (48, .box [Ti vh3.1, Ti vh3.2.1, Ti vh3.2.2])]⟩) kk kk ?_ ?_
       ·refine DA 34 ?_
        refine zD ?_
        subst ht49
        kernel_rfl
       refine VC h (fun h => ?_) (fun h => ?_)
       ·refine VE ?_
        cases h
        exact zH VT
       ·refine zK ?_
        show V _ _ _ _
        refine zW ?_
        refine YF ?_
        show VR _ _ _ _ _
        refine VR_s (n := 36) ?_
        refine zV (mb 117 340010386766614455644224) [128, 120, 112, 104, 96, 48] (s' := ⟨bt 6 (.pt 48 0 :: bt 5 (.pt 96 0 :: .pt 104 0 :: .pt 112 0 :: .pt 120 0 :: .pt 128 0 :: I 1 :: bt 57 (I 1 :: .bot :: .bot :: I 3 :: bt 38 []))), [(128, .box [Ti g2.1, Ti g2.2.1, Ti g2.2.2]), (120, .box [Ti f1.1, Ti f1.2.1, Ti f1.2.2]), (112, .box [Ti y29.1.1, Ti y29.1.2.1, Ti y29.1.2.2, Ti y29.2.1.1, Ti y29.2.1.2.1, Ti y29.2.1.2.2, Ti y29.2.2.1, Ti y29.2.2.2.1, Ti y29.2.2.2.2]), (104, .box [Ti y28.1.1, Ti y28.1.2.1, Ti y28.1.2.2, Ti y28.2.1.1, Ti y28.2.1.2.1, Ti y28.2.1.2.2, Ti y28.2.2.1, Ti y28.2.2.2.1, Ti y28.2.2.2.2]), (96, .box [Ti y27.1.1, Ti y27.1.2.1, Ti y27.1.2.2, Ti y27.2.1.1, Ti y27.2.1.2.1, Ti y27.2.1.2.2, Ti y27.2.2.1, Ti y27.2.2.2.1, Ti y27.2.2.2.2]), (48, .box [Ti vh3.1, Ti vh3.2.1, Ti vh3.2.2])]⟩) kk ?_
        refine VE ?_
        refine zF ?_
        refine V_cond_false rfl ?_
        refine V_exit ?_
        show V _ _ _ _
        refine zW ?_
        refine YF ?_
        show VR _ _ _ _ _
        refine VR_s (n := 37) ?_
        refine zV (mb 117 37778931862957161836608) [128, 120, 112, 104, 96, 48] (s' := ⟨bt 6 (.pt 48 0 :: bt 5 (.pt 96 0 :: .pt 104 0 :: .pt 112 0 :: .pt 120 0 :: .pt 128 0 :: bt 58 (I 2 :: bt 41 []))), [(128, .box [Ti g2.1, Ti g2.2.1, Ti g2.2.2]), (120, .box [Ti f1.1, Ti f1.2.1, Ti f1.2.2]), (112, .box [Ti y29.1.1, Ti y29.1.2.1, Ti y29.1.2.2, Ti y29.2.1.1, Ti y29.2.1.2.1, Ti y29.2.1.2.2, Ti y29.2.2.1, Ti y29.2.2.2.1, Ti y29.2.2.2.2]), (104, .box [Ti y28.1.1, Ti y28.1.2.1, Ti y28.1.2.2, Ti y28.2.1.1, Ti y28.2.1.2.1, Ti y28.2.1.2.2, Ti y28.2.2.1, Ti y28.2.2.2.1, Ti y28.2.2.2.2]), (96, .box [Ti y27.1.1, Ti y27.1.2.1, Ti y27.1.2.2, Ti y27.2.1.1, Ti y27.2.1.2.1, Ti y27.2.1.2.2, Ti y27.2.2.1, Ti y27.2.2.2.1, Ti y27.2.2.2.2]), (48, .box [Ti vh3.1, Ti vh3.2.1, Ti vh3.2.2])]⟩) kk ?_
        refine VE ?_
        refine zF ?_
        refine V_cond_true rfl ?_
        refine zK ?_
        show V _ _ _ _
        refine zF ?_
        refine zG ?_
        refine VE ?_
        refine VE ?_
        refine zG (V_unroll 40 ?_)
        refine VR_s (n := 39) ?_
        refine zV (mb 117 340010386766614455644224) [128, 120, 112, 104, 96, 48] (s' := ⟨bt 6 (.pt 48 0 :: bt 5 (.pt 96 0 :: .pt 104 0 :: .pt 112 0 :: .pt 120 0 :: .pt 128 0 :: I 2 :: bt 57 (I 2 :: .bot :: .bot :: I 0 :: bt 38 []))), [(128, .box [Ti g2.1, Ti g2.2.1, Ti g2.2.2]), (120, .box [Ti f1.1, Ti f1.2.1, Ti f1.2.2]), (112, .box [Ti y29.1.1, Ti y29.1.2.1, Ti y29.1.2.2, Ti y29.2.1.1, Ti y29.2.1.2.1, Ti y29.2.1.2.2, Ti y29.2.2.1, Ti y29.2.2.2.1, Ti y29.2.2.2.2]), (104, .box [Ti y28.1.1, Ti y28.1.2.1, Ti y28.1.2.2, Ti y28.2.1.1, Ti y28.2.1.2.1, Ti y28.2.1.2.2, Ti y28.2.2.1, Ti y28.2.2.2.1, Ti y28.2.2.2.2]), (96, .box [Ti y27.1.1, Ti y27.1.2.1, Ti y27.1.2.2, Ti y27.2.1.1, Ti y27.2.1.2.1, Ti y27.2.1.2.2, Ti y27.2.2.1, Ti y27.2.2.2.1, Ti y27.2.2.2.2]), (48, .box [Ti vh3.1, Ti vh3.2.1, Ti vh3.2.2])]⟩) kk ?_
        refine VE ?_
        refine zF ?_
        refine V_cond_true rfl ?_
        refine zK ?_
        show V _ _ _ _
        refine zF ?_
        refine zG ?_
        refine VE ?_
        obtain ⟨t54, ht54, h⟩ := zA h
        have ht54 := zB ht54
        refine V_sdreg [0, 1, 0, 0, 4, 28, 60, 127, 0, 256, 0, 0, 1024, 7168, 15360, 32512, 65535, 0, 131072, 0, 0, 524288, 3670016, 7864320, 16646144, 33554431, 0, 67108864, 201326592, 0, 536870912, 1610612736, 4227858432, 8589934591] 34 (cdm 34 [49189065721488485024, 49189065721488485025, 49189065721488474250, 49189065721488474666, 49189065721488474266, 49189065721488474458, 49189065721488475482, 49189065721488479573, 49189065719340378794, 49189065719340444330, 49189065718634293930, 49189065718661556906, 49189065718635342506, 49189065718647925418, 49189065718715034282, 49189065718983142058, 49189065720056862037, 49188502608326339242, 49188502625506208426, 49188317512415750826, 49188324659241331370, 49188317787293657770, 49188321085828541098, 49188338678014585514, 49188408960859417258, 49188690430109504853, 12108678198123473578, 12113181797750844074, 12131196196260326058, 192153584101141162, 480383960252852906, 1633305464859699882, 6150415891112307370, 24595658764946068821]) (mb 117 20769187434479320900888599772524608) [128, 120, 112, 104, 96, 48] (s1 := ⟨bt 6 (.pt 48 0 :: bt 5 (.pt 96 0 :: .pt 104 0 :: .pt 112 0 :: .pt 120 0 :: .pt 128 0 :: I 2 :: bt 57 (I 2 :: .bot :: .bot :: I 0 :: bt 35 (Bo t54 :: .bot :: .bot :: [])))), [(128, .box [Ti g2.1, Ti g2.2.1, Ti g2.2.2]), (120, .box [Ti f1.1, Ti f1.2.1, Ti f1.2.2]), (112, .box [Ti y29.1.1, Ti y29.1.2.1, Ti y29.1.2.2, Ti y29.2.1.1, Ti y29.2.1.2.1, Ti y29.2.1.2.2, Ti y29.2.2.1, Ti y29.2.2.2.1, Ti y29.2.2.2.2]), (104, .box [Ti y28.1.1, Ti y28.1.2.1, Ti y28.1.2.2, Ti y28.2.1.1, Ti y28.2.1.2.1, Ti y28.2.1.2.2, Ti y28.2.2.1, Ti y28.2.2.2.1, Ti y28.2.2.2.2]), (96, .box [Ti y27.1.1, Ti y27.1.2.1, Ti y27.1.2.2, Ti y27.2.1.1, Ti y27.2.1.2.1, Ti y27.2.1.2.2, Ti y27.2.2.1, Ti y27.2.2.2.1, Ti y27.2.2.2.2]), (48, .box [Ti vh3.1, Ti vh3.2.1, Ti vh3.2.2])]⟩) kk kk ?_ ?_
        ·refine DA 34 ?_
         refine zD ?_
         subst ht54
         kernel_rfl
        refine VC h (fun h => ?_) (fun h => ?_)
        ·refine VE ?_
         cases h
         exact zH VT
        ·refine zK ?_
         show V _ _ _ _
         refine zW ?_
         refine YF ?_
         show VR _ _ _ _ _
         refine VR_s (n := 38) ?_
         refine zV (mb 117 340010386766614455644224) [128, 120, 112, 104, 96, 48] (s' := ⟨bt 6 (.pt 48 0 :: bt 5 (.pt 96 0 :: .pt 104 0 :: .pt 112 0 :: .pt 120 0 :: .pt 128 0 :: I 2 :: bt 57 (I 2 :: .bot :: .bot :: I 1 :: bt 38 []))), [(128, .box [Ti g2.1, Ti g2.2.1, Ti g2.2.2]), (120, .box [Ti f1.1, Ti f1.2.1, Ti f1.2.2]), (112, .box [Ti y29.1.1, Ti y29.1.2.1, Ti y29.1.2.2, Ti y29.2.1.1, Ti y29.2.1.2.1, Ti y29.2.1.2.2, Ti y29.2.2.1, Ti y29.2.2.2.1, Ti y29.2.2.2.2]), (104, .box [Ti y28.1.1, Ti y28.1.2.1, Ti y28.1.2.2, Ti y28.2.1.1, Ti y28.2.1.2.1, Ti y28.2.1.2.2, Ti y28.2.2.1, Ti y28.2.2.2.1, Ti y28.2.2.2.2]), (96, .box [Ti y27.1.1, Ti y27.1.2.1, Ti y27.1.2.2, Ti y27.2.1.1, Ti y27.2.1.2.1, Ti y27.2.1.2.2, Ti y27.2.2.1, Ti y27.2.2.2.1, Ti y27.2.2.2.2]), (48, .box [Ti vh3.1, Ti vh3.2.1, Ti vh3.2.2])]⟩) kk ?_
         refine VE ?_
         refine zF ?_
         refine V_cond_true rfl ?_
         refine zK ?_
         show V _ _ _ _
         refine zF ?_
         refine zG ?_
         refine VE ?_
         obtain ⟨t57, ht57, h⟩ := zA h
         have ht57 := zB ht57
         refine V_sdreg [0, 1, 0, 0, 4, 28, 60, 127, 0, 256, 0, 0, 1024, 7168, 15360, 32512, 65535, 0, 131072, 0, 0, 524288, 3670016, 7864320, 16646144, 33554431, 0, 67108864, 201326592, 0, 536870912, 1610612736, 4227858432, 8589934591] 34 (cdm 34 [49189065721488485024, 49189065721488485025, 49189065721488474250, 49189065721488474666, 49189065721488474266, 49189065721488474458, 49189065721488475482, 49189065721488479573, 49189065719340378794, 49189065719340444330, 49189065718634293930, 49189065718661556906, 49189065718635342506, 49189065718647925418, 49189065718715034282, 49189065718983142058, 49189065720056862037, 49188502608326339242, 49188502625506208426, 49188317512415750826, 49188324659241331370, 49188317787293657770, 49188321085828541098, 49188338678014585514, 49188408960859417258, 49188690430109504853, 12108678198123473578, 12113181797750844074, 12131196196260326058, 192153584101141162, 480383960252852906, 1633305464859699882, 6150415891112307370, 24595658764946068821]) (mb 117 20769187434479320900888599772524608) [128, 120, 112, 104, 96, 48] (s1 := ⟨bt 6 (.pt 48 0 :: bt 5 (.pt 96 0 :: .pt 104 0 :: .pt 112 0 :: .pt 120 0 :: .pt 128 0 :: I 2 :: bt 57 (I 2 :: .bot :: .bot :: I 1 :: bt 35 (Bo t57 :: .bot :: .bot :: [])))), [(128, .box [Ti g2.1, Ti g2.2.1, Ti g2.2.2]), (120, .box [Ti f1.1, Ti f1.2.1, Ti f1.2.2]), (112, .box [Ti y29.1.1, Ti y29.1.2.1, Ti y29.1.2.2, Ti y29.2.1.1, Ti y29.2.1.2.1, Ti y29.2.1.2.2, Ti y29.2.2.1, Ti y29.2.2.2.1, Ti y29.2.2.2.2]), (104, .box [Ti y28.1.1, Ti y28.1.2.1, Ti y28.1.2.2, Ti y28.2.1.1, Ti y28.2.1.2.1, Ti y28.2.1.2.2, Ti y28.2.2.1, Ti y28.2.2.2.1, Ti y28.2.2.2.2]), (96, .box [Ti y27.1.1, Ti y27.1.2.1, Ti y27.1.2.2, Ti y27.2.1.1, Ti y27.2.1.2.1, Ti y27.2.1.2.2, Ti y27.2.2.1, Ti y27.2.2.2.1, Ti y27.2.2.2.2]), (48, .box [Ti vh3.1, Ti vh3.2.1, Ti vh3.2.2])]⟩) kk kk ?_ ?_
         ·refine DA 34 ?_
          refine zD ?_
          subst ht57
          kernel_rfl
         refine VC h (fun h => ?_) (fun h => ?_)
         ·refine VE ?_
          cases h
          exact zH VT
         ·refine zK ?_
          show V _ _ _ _
          refine zW ?_
          refine YF ?_
          show VR _ _ _ _ _
          refine VR_s (n := 37) ?_
          refine zV (mb 117 340010386766614455644224) [128, 120, 112, 104, 96, 48] (s' := ⟨bt 6 (.pt 48 0 :: bt 5 (.pt 96 0 :: .pt 104 0 :: .pt 112 0 :: .pt 120 0 :: .pt 128 0 :: I 2 :: bt 57 (I 2 :: .bot :: .bot :: I 2 :: bt 38 []))), [(128, .box [Ti g2.1, Ti g2.2.1, Ti g2.2.2]), (120, .box [Ti f1.1, Ti f1.2.1, Ti f1.2.2]), (112, .box [Ti y29.1.1, Ti y29.1.2.1, Ti y29.1.2.2, Ti y29.2.1.1, Ti y29.2.1.2.1, Ti y29.2.1.2.2, Ti y29.2.2.1, Ti y29.2.2.2.1, Ti y29.2.2.2.2]), (104, .box [Ti y28.1.1, Ti y28.1.2.1, Ti y28.1.2.2, Ti y28.2.1.1, Ti y28.2.1.2.1, Ti y28.2.1.2.2, Ti y28.2.2.1, Ti y28.2.2.2.1, Ti y28.2.2.2.2]), (96, .box [Ti y27.1.1, Ti y27.1.2.1, Ti y27.1.2.2, Ti y27.2.1.1, Ti y27.2.1.2.1, Ti y27.2.1.2.2, Ti y27.2.2.1, Ti y27.2.2.2.1, Ti y27.2.2.2.2]), (48, .box [Ti vh3.1, Ti vh3.2.1, Ti vh3.2.2])]⟩) kk ?_
          refine VE ?_
          refine zF ?_
          refine V_cond_true rfl ?_
          refine zK ?_
          show V _ _ _ _
          refine zF ?_
          refine zG ?_
          refine VE ?_
          obtain ⟨t60, ht60, h⟩ := zA h
          have ht60 := zB ht60
          refine V_sdreg [0, 1, 0, 0, 4, 28, 60, 127, 0, 256, 0, 0, 1024, 7168, 15360, 32512, 65535, 0, 131072, 0, 0, 524288, 3670016, 7864320, 16646144, 33554431, 0, 67108864, 201326592, 0, 536870912, 1610612736, 4227858432, 8589934591] 34 (cdm 34 [49189065721488485024, 49189065721488485025, 49189065721488474250, 49189065721488474666, 49189065721488474266, 49189065721488474458, 49189065721488475482, 49189065721488479573, 49189065719340378794, 49189065719340444330, 49189065718634293930, 49189065718661556906, 49189065718635342506, 49189065718647925418, 49189065718715034282, 49189065718983142058, 49189065720056862037, 49188502608326339242, 49188502625506208426, 49188317512415750826, 49188324659241331370, 49188317787293657770, 49188321085828541098, 49188338678014585514, 49188408960859417258, 49188690430109504853, 12108678198123473578, 12113181797750844074, 12131196196260326058, 192153584101141162, 480383960252852906, 1633305464859699882, 6150415891112307370, 24595658764946068821]) (mb 117 20769187434479320900888599772524608) [128, 120, 112, 104, 96, 48] (s1 := ⟨bt 6 (.pt 48 0 :: bt 5 (.pt 96 0 :: .pt 104 0 :: .pt 112 0 :: .pt 120 0 :: .pt 128 0 :: I 2 :: bt 57 (I 2 :: .bot :: .bot :: I 2 :: bt 35 (Bo t60 :: .bot :: .bot :: [])))), [(128, .box [Ti g2.1, Ti g2.2.1, Ti g2.2.2]), (120, .box [Ti f1.1, Ti f1.2.1, Ti f1.2.2]), (112, .box [Ti y29.1.1, Ti y29.1.2.1, Ti y29.1.2.2, Ti y29.2.1.1, Ti y29.2.1.2.1, Ti y29.2.1.2.2, Ti y29.2.2.1, Ti y29.2.2.2.1, Ti y29.2.2.2.2]), (104, .box [Ti y28.1.1, Ti y28.1.2.1, Ti y28.1.2.2, Ti y28.2.1.1, Ti y28.2.1.2.1, Ti y28.2.1.2.2, Ti y28.2.2.1, Ti y28.2.2.2.1, Ti y28.2.2.2.2]), (96, .box [Ti y27.1.1, Ti y27.1.2.1, Ti y27.1.2.2, Ti y27.2.1.1, Ti y27.2.1.2.1, Ti y27.2.1.2.2, Ti y27.2.2.1, Ti y27.2.2.2.1, Ti y27.2.2.2.2]), (48, .box [Ti vh3.1, Ti vh3.2.1, Ti vh3.2.2])]⟩) kk kk ?_ ?_
          ·refine DA 34 ?_
           refine zD ?_
           subst ht60
           kernel_rfl
          refine VC h (fun h => ?_) (fun h => ?_)
          ·refine VE ?_
           cases h
           exact zH VT
          ·refine zK ?_
           show V _ _ _ _
           refine zW ?_
           refine YF ?_
           show VR _ _ _ _ _
           refine VR_s (n := 36) ?_
           refine zV (mb 117 340010386766614455644224) [128, 120, 112, 104, 96, 48] (s' := ⟨bt 6 (.pt 48 0 :: bt 5 (.pt 96 0 :: .pt 104 0 :: .pt 112 0 :: .pt 120 0 :: .pt 128 0 :: I 2 :: bt 57 (I 2 :: .bot :: .bot :: I 3 :: bt 38 []))), [(128, .box [Ti g2.1, Ti g2.2.1, Ti g2.2.2]), (120, .box [Ti f1.1, Ti f1.2.1, Ti f1.2.2]), (112, .box [Ti y29.1.1, Ti y29.1.2.1, Ti y29.1.2.2, Ti y29.2.1.1, Ti y29.2.1.2.1, Ti y29.2.1.2.2, Ti y29.2.2.1, Ti y29.2.2.2.1, Ti y29.2.2.2.2]), (104, .box [Ti y28.1.1, Ti y28.1.2.1, Ti y28.1.2.2, Ti y28.2.1.1, Ti y28.2.1.2.1, Ti y28.2.1.2.2, Ti y28.2.2.1, Ti y28.2.2.2.1, Ti y28.2.2.2.2]), (96, .box [Ti y27.1.1, Ti y27.1.2.1, Ti y27.1.2.2, Ti y27.2.1.1, Ti y27.2.1.2.1, Ti y27.2.1.2.2, Ti y27.2.2.1, Ti y27.2.2.2.1, Ti y27.2.2.2.2]), (48, .box [Ti vh3.1, Ti vh3.2.1, Ti vh3.2.2])]⟩) kk ?_
           refine VE ?_
           refine zF ?_
           refine V_cond_false rfl ?_
           refine V_exit ?_
           show V _ _ _ _
           refine zW ?_
           refine YF ?_
           show VR _ _ _ _ _
           refine VR_s (n := 36) ?_
           refine zV (mb 117 37778931862957161836608) [128, 120, 112, 104, 96, 48] (s' := ⟨bt 6 (.pt 48 0 :: bt 5 (.pt 96 0 :: .pt 104 0 :: .pt 112 0 :: .pt 120 0 :: .pt 128 0 :: bt 58 (I 3 :: bt 41 []))), [(128, .box [Ti g2.1, Ti g2.2.1, Ti g2.2.2]), (120, .box [Ti f1.1, Ti f1.2.1, Ti f1.2.2]), (112, .box [Ti y29.1.1, Ti y29.1.2.1, Ti y29.1.2.2, Ti y29.2.1.1, Ti y29.2.1.2.1, Ti y29.2.1.2.2, Ti y29.2.2.1, Ti y29.2.2.2.1, Ti y29.2.2.2.2]), (104, .box [Ti y28.1.1, Ti y28.1.2.1, Ti y28.1.2.2, Ti y28.2.1.1, Ti y28.2.1.2.1, Ti y28.2.1.2.2, Ti y28.2.2.1, Ti y28.2.2.2.1, Ti y28.2.2.2.2]), (96, .box [Ti y27.1.1, Ti y27.1.2.1, Ti y27.1.2.2, Ti y27.2.1.1, Ti y27.2.1.2.1, Ti y27.2.1.2.2, Ti y27.2.2.1, Ti y27.2.2.2.1, Ti y27.2.2.2.2]), (48, .box [Ti vh3.1, Ti vh3.2.1, Ti vh3.2.2])]⟩) kk ?_
           refine VE ?_
           refine zF ?_
           refine V_cond_false rfl ?_
           refine V_exit ?_
           show V _ _ _ _
           refine VE ?_
           cases h
           exact zH VT
theorem cf_impl_one : CfW Tryz.prog 247 := cfW Tryz.func247
theorem s_impl_one {r : (Int × Int × Int × Int)} (h : r_impl_one = some r) : zP Tryz.prog 247 [] (.ag [Ti r.1, Ti r.2.1, Ti r.2.2.1, Ti r.2.2.2]) [] := by
 refine zT (rs := [.w 0 4]) (vs := [.cell 0 109]) Tryz.func247 rfl rfl (.cons ⟨rfl, wd109⟩ FitsL.nil) (by decide) 2 rfl ?_
 unfold r_impl_one at h
 refine VE ?_
 refine VS ?_
 refine L0 rfl rfl (Y0_build (cs := [Ti 1, Ti 0, Ti 0, Ti 1]) pl109 bt109 rfl rfl kk) ?_
 refine YF ?_
 cases h
 exact zH VT
theorem cf_impl_floorDiv : CfW Tryz.prog 281 := cfW Tryz.func281
theorem s_impl_floorDiv {a1 : Int} {vm2 : Int} {r : Int} (h : r_impl_floorDiv a1 vm2 = some r) : zP Tryz.prog 281 [I a1, I vm2] (I r) [] := by
 refine CtW [4] Tryz.func281 rfl rfl 12 ?_
 unfold r_impl_floorDiv at h
 refine VE ?_
 obtain ⟨y3, hy3, h⟩ := zA h
 obtain ⟨z4, hz4, h⟩ := zA h
 obtain ⟨t5, ht5, h⟩ := zU h
 refine zO (mb 12 16) [] (s1 := ⟨bt 4 (I t5 :: bt 7 []), []⟩) ?_ ?_
 ·refine XR 3 ?_
  refine XC (s_impl_mod hy3) cf_impl_mod rfl rfl rfl ?_
  refine XR 2 ?_
  refine L0 rfl rfl (zS (a := w64 (a1 - y3)) (b := vm2) rfl kk kk (nz_some hz4)) ?_
  refine XR 1 ?_
  refine zD ?_
  subst ht5
  kernel_rfl
 cases h
 exact zH VT
theorem cf_impl_Form_step : CfW Tryz.prog 248 := cfW Tryz.func248
theorem s_impl_Form_step {f1 : (Int × Int × Int)} {r : (Int × Int × Int × Int)} (h : r_impl_Form_step f1 = some r) : zP Tryz.prog 248 [.ag [Ti f1.1, Ti f1.2.1, Ti f1.2.2]] (.ag [Ti r.1, Ti r.2.1, Ti r.2.2.1, Ti r.2.2.2]) [] := by
 refine zT (rs := [.w 2 4]) (vs := [.cell 2 109]) Tryz.func248 rfl rfl (.cons ⟨rfl, wd109⟩ FitsL.nil) (by decide) 22 rfl ?_
 unfold r_impl_Form_step at h
 refine VE ?_
 refine zF ?_
 refine zG ?_
 obtain ⟨y2, hy2, h⟩ := zA h
 refine VS ?_
 refine YK 1 (s_impl_Form_isReduced hy2) cf_impl_Form_isReduced ?_
 refine YF ?_
 refine VC h (fun h => ?_) (fun h => ?_)
 ·obtain ⟨y4, hy4, h⟩ := zA h
  refine VS ?_
  refine YK 0 (s_impl_one hy4) cf_impl_one ?_
  refine YF ?_
  cases h
  exact zH VT
 ·obtain ⟨y5, hy5, h⟩ := zA h
  refine VS ?_
  refine YK 1 (s_impl_Form_isNormal hy5) cf_impl_Form_isNormal ?_
  refine YF ?_
  refine VC h (fun h => ?_) (fun h => ?_)
  ·obtain ⟨y7, hy7, h⟩ := zA h
   refine VS ?_
   refine YK 8 (s_impl_floorDiv hy7) cf_impl_floorDiv ?_
   refine L0 rfl rfl (Y0_build (cs := [Ti 1, Ti y7, Ti 0, Ti 1]) pl109 bt109 rfl rfl kk) ?_
   refine YF ?_
   cases h
   exact zH VT
  ·refine zK ?_
   show V _ _ _ _
   refine VS ?_
   refine L0 rfl rfl (Y0_build (cs := [Ti 0, Ti (-1), Ti 1, Ti 0]) pl109 bt109 rfl rfl kk) ?_
   refine YF ?_
   cases h
   exact zH VT
theorem cf_impl_Matrix_times : CfW Tryz.prog 246 := cfW Tryz.func246
theorem s_impl_Matrix_times {vm1 : (Int × Int × Int × Int)} {vn2 : (Int × Int × Int × Int)} {r : (Int × Int × Int × Int)} (h : r_impl_Matrix_times vm1 vn2 = some r) : zP Tryz.prog 246 [.ag [Ti vm1.1, Ti vm1.2.1, Ti vm1.2.2.1, Ti vm1.2.2.2], .ag [Ti vn2.1, Ti vn2.2.1, Ti vn2.2.2.1, Ti vn2.2.2.2]] (.ag [Ti r.1, Ti r.2.1, Ti r.2.2.1, Ti r.2.2.2]) [] := by
 refine zT (rs := [.w 4 4]) (vs := [.cell 4 109]) Tryz.func246 rfl rfl (.cons ⟨rfl, wd109⟩ FitsL.nil) (by decide) 50 rfl ?_
 unfold r_impl_Matrix_times at h
 refine VE ?_
 obtain ⟨f3, hf3, h⟩ := zU h
 obtain ⟨f4, hf4, h⟩ := zU h
 obtain ⟨f5, hf5, h⟩ := zU h
 obtain ⟨f6, hf6, h⟩ := zU h
 refine zO (mb 50 16) [32] (s1 := ⟨bt 4 (.pt 32 0 :: bt 45 []), [(32, .box [Ti f3, Ti f4, Ti f5, Ti f6])]⟩) ?_ ?_
 ·refine XR 44 ?_
  refine L0 rfl rfl (Y0_build (cs := [Ti (w64 ((w64 (vm1.1 * vn2.1)) + (w64 (vm1.2.1 * vn2.2.2.1)))), Ti (w64 ((w64 (vm1.1 * vn2.2.1)) + (w64 (vm1.2.1 * vn2.2.2.2)))), Ti (w64 ((w64 (vm1.2.2.1 * vn2.1)) + (w64 (vm1.2.2.2 * vn2.2.2.1)))), Ti (w64 ((w64 (vm1.2.2.1 * vn2.2.1)) + (w64 (vm1.2.2.2 * vn2.2.2.2))))]) pl109 bt109 rfl rfl kk) ?_
  refine XR 1 ?_
  refine zD ?_
  subst hf3 hf4 hf5 hf6
  kernel_rfl
 cases h
 exact zH VT
theorem cf_impl_reduce : CfW Tryz.prog 193 := cfW Tryz.func193
theorem s_impl_reduce {f1 : (Int × Int × Int)} {r : (((Int × Int × Int)) × ((Int × Int × Int × Int)))} (h : r_impl_reduce f1 = some r) : zP Tryz.prog 193 [.ag [Ti f1.1, Ti f1.2.1, Ti f1.2.2]] (.tc (.ag [Ti r.1.1, Ti r.1.2.1, Ti r.1.2.2]) (.tc (.ag [Ti r.2.1, Ti r.2.2.1, Ti r.2.2.2.1, Ti r.2.2.2.2]) .tn)) [] := by
 refine zT (rs := [.w 2 3, .w 3 4]) (vs := [.cell 2 38, .cell 3 109]) Tryz.func193 rfl rfl (.cons ⟨rfl, wd38⟩ (.cons ⟨rfl, wd109⟩ FitsL.nil)) (by decide) 20 rfl ?_
 unfold r_impl_reduce at h
 refine VE ?_
 obtain ⟨y2, hy2, h⟩ := zA h
 refine VS ?_
 refine YK 0 (s_impl_one hy2) cf_impl_one ?_
 refine YF ?_
 refine zF ?_
 obtain ⟨o11, hLo11, h⟩ := zA h
 refine V_toK (mb 20 30) [32, 24, 16, 8] (s1 := ⟨.bot :: .pt 8 0 :: .pt 16 0 :: .pt 24 0 :: .pt 32 0 :: bt 15 [], [(32, .box [Ti o11.1, Ti o11.2.1, Ti o11.2.2.1, Ti o11.2.2.2.1]), (24, .box [Ti 0, Ti 0, Ti 0, Ti 0]), (16, .box [Ti 0, Ti 0, Ti 0]), (8, .box [Ti o11.2.2.2.2.1, Ti o11.2.2.2.2.2.1, Ti o11.2.2.2.2.2.2])]⟩) ?_ ?_
 ·clear h
  refine zG (V_loop (fun n s => ∃ (f3 : Int) (f4 : Int) (f5 : Int) (f6 : Int) (f7 : Int) (f8 : Int) (f9 : Int), s.keep (mb 20 30) [32, 24, 16, 8] = (⟨.bot :: .pt 8 0 :: .pt 16 0 :: .pt 24 0 :: .pt 32 0 :: bt 15 [], [(32, .box [Ti f3, Ti f4, Ti f5, Ti f6]), (24, .box [Ti 0, Ti 0, Ti 0, Ti 0]), (16, .box [Ti 0, Ti 0, Ti 0]), (8, .box [Ti f7, Ti f8, Ti f9])]⟩ : St) ∧ r_impl_reduce_L10 n f3 f4 f5 f6 f7 f8 f9 = some o11) FU ⟨_, _, _, _, _, _, _,  kk, hLo11⟩ ?_)
  clear hLo11
  rintro n s ⟨f3, f4, f5, f6, f7, f8, f9, hs, h⟩
  refine zV _ _ hs ?_
  clear hs
  cases n with
  | zero => cases h
  | succ n =>
   rw [r_impl_reduce_L10] at h
   refine zF ?_
   obtain ⟨y12, hy12, h⟩ := zA h
   refine VS ?_
   refine YK 1 (s_impl_Form_isReduced hy12) cf_impl_Form_isReduced ?_
   refine YF ?_
   refine VC h (fun h => ?_) (fun h => ?_)
   ·refine zK ?_
    show V _ _ _ _
    refine zG ?_
    obtain ⟨y14, hy14, h⟩ := zA h
    refine VS ?_
    refine YK 1 (s_impl_Form_step hy14) cf_impl_Form_step ?_
    refine YF ?_
    obtain ⟨y15, hy15, h⟩ := zA h
    refine VS ?_
    refine YK 2 (s_impl_Form_substitute hy15) cf_impl_Form_substitute ?_
    refine YF ?_
    obtain ⟨y16, hy16, h⟩ := zA h
    refine zW ?_
    refine YK 2 (s_impl_Matrix_times hy16) cf_impl_Matrix_times ?_
    refine YF ?_
    exact ⟨n, Nat.lt_succ_self n, _, _, _, _, _, _, _,  kk, h⟩
   ·refine V_exit ?_
    obtain rfl := zB h
    show St.keep _ _ _ = _
    kernel_rfl
 show V _ _ _ _
 refine VDS [0, 0, 1, 7] 3 [[.z, .b, .z], [.b, .z, .r 16], [.a, .b, .z]] ?_
 refine EF 3 ?_
 cases h
 exact zH VT
theorem cf_impl_reduced : CfW Tryz.prog 112 := cfW Tryz.func112
theorem s_impl_reduced {f1 : (Int × Int × Int)} {r : (Int × Int × Int)} (h : r_impl_reduced f1 = some r) : zP Tryz.prog 112 [.ag [Ti f1.1, Ti f1.2.1, Ti f1.2.2]] (.ag [Ti r.1, Ti r.2.1, Ti r.2.2]) [] := by
 refine zT (rs := [.w 2 3]) (vs := [.cell 2 38]) Tryz.func112 rfl rfl (.cons ⟨rfl, wd38⟩ FitsL.nil) (by decide) 11 rfl ?_
 unfold r_impl_reduced at h
 refine VE ?_
 obtain ⟨y2, hy2, h⟩ := zA h
 refine VS ?_
 refine YK 1 (s_impl_reduce hy2) cf_impl_reduce ?_
 refine YF ?_
 refine VE ?_
 cases h
 exact zH VT
theorem cf_impl_principalForm : CfW Tryz.prog 273 := cfW Tryz.func273
theorem s_impl_principalForm {d1 : Int} {r : (Int × Int × Int)} (h : r_impl_principalForm d1 = some r) : zP Tryz.prog 273 [I d1] (.ag [Ti r.1, Ti r.2.1, Ti r.2.2]) [] := by
 refine zT (rs := [.w 2 3]) (vs := [.cell 2 38]) Tryz.func273 rfl rfl (.cons ⟨rfl, wd38⟩ FitsL.nil) (by decide) 12 rfl ?_
 unfold r_impl_principalForm at h
 refine VE ?_
 obtain ⟨y2, hy2, h⟩ := zA h
 refine VS ?_
 refine YK 1 (s_impl_mod hy2) cf_impl_mod ?_
 refine YF ?_
 obtain ⟨f3, hf3, h⟩ := zU h
 refine zO (mb 12 4) [16] (s1 := ⟨.bot :: .bot :: .pt 16 0 :: bt 9 [], [(16, .box [Ti 1, Ti y2, Ti f3])]⟩) ?_ ?_
 ·refine XR 4 ?_
  refine L0 rfl rfl (zS (a := w64 (y2 - d1)) (b := 4) rfl kk kk (by decide)) ?_
  refine L0 rfl rfl (Y0_build (cs := [Ti 1, Ti y2, Ti (w64 (Int.tdiv (w64 (y2 - d1)) 4))]) pl38 bt38 rfl rfl kk) ?_
  refine XR 1 ?_
  refine zD ?_
  subst hf3
  kernel_rfl
 cases h
 exact zH VT
theorem cf_impl_isIdentity : CfW Tryz.prog 235 := cfW Tryz.func235
theorem s_impl_isIdentity {f1 : (Int × Int × Int)} {r : Bool} (h : r_impl_isIdentity f1 = some r) : zP Tryz.prog 235 [.ag [Ti f1.1, Ti f1.2.1, Ti f1.2.2]] (Bo r) [] := by
 refine CtW [2] Tryz.func235 rfl rfl 10 ?_
 unfold r_impl_isIdentity at h
 refine VE ?_
 obtain ⟨y2, hy2, h⟩ := zA h
 obtain ⟨y3, hy3, h⟩ := zA h
 obtain ⟨y4, hy4, h⟩ := zA h
 obtain ⟨y5, hy5, h⟩ := zA h
 obtain ⟨t6, ht6, h⟩ := zA h
 have ht6 := zB ht6
 refine V_sdreg [0, 1, 0, 7, 15, 31, 63, 127] 8 (cdm 8 [32, 33, 10, 21, 85, 341, 1365, 5461]) (mb 10 4) [] (s1 := ⟨.bot :: .bot :: Bo t6 :: bt 7 [], []⟩) kk kk ?_ ?_
 ·refine DR 1 ?_
  refine DC 1 (s_impl_reduced hy2) cf_impl_reduced rfl rfl rfl rfl 4 rfl ?_
  refine DR 1 ?_
  refine DC 3 (s_impl_Form_disc hy3) cf_impl_Form_disc rfl rfl rfl rfl 6 rfl ?_
  refine DC 4 (s_impl_principalForm hy4) cf_impl_principalForm rfl rfl rfl rfl 7 rfl ?_
  refine DC 5 (s_impl_reduced hy5) cf_impl_reduced rfl rfl rfl rfl 8 rfl ?_
  refine DE_0 6 (Bo (((y2.1 == y5.1) && ((y2.2.1 == y5.2.1) && (y2.2.2 == y5.2.2))))) kk rfl rfl rfl (zI rfl) kk (Y0_eqg3 (a0 := y2.1) (b0 := y5.1) (a1 := y2.2.1) (b1 := y5.2.1) (a2 := y2.2.2) (b2 := y5.2.2) eqg38 rfl kk kk) 9 rfl ?_
  refine DA 1 ?_
  refine zD ?_
  subst ht6
  kernel_rfl
 cases h
 exact zH VT
theorem cf_impl_firstPoint : CfW Tryz.prog 244 := cfW Tryz.func244
theorem s_impl_firstPoint {g1 : (Int × Int × Int)} {a2 : Int} {r : (Int × Int)} (h : r_impl_firstPoint g1 a2 = some r) : zP Tryz.prog 244 [.ag [Ti g1.1, Ti g1.2.1, Ti g1.2.2], I a2] (.tc (I r.1) (.tc (I r.2) .tn)) [] := by
 refine CtW [4, 5] Tryz.func244 rfl rfl 43 ?_
 unfold r_impl_firstPoint at h
 refine VE ?_
 refine VE ?_
 obtain ⟨qo5, hLo5, hko5⟩ := zA h
 refine V_toS (q := qo5) (S := fun _ => (⟨[], []⟩ : St)) [] [] ?_ ?_
 ·refine zG (V_loop (fun n s => ∃ (size3 : Int), s.keep (mb 43 70) [16] = (⟨.bot :: I a2 :: .pt 16 0 :: bt 3 (I size3 :: bt 36 []), [(16, .box [Ti g1.1, Ti g1.2.1, Ti g1.2.2])]⟩ : St) ∧ r_impl_firstPoint_L4 a2 g1 n size3 = some qo5) FU ⟨_,  kk, hLo5⟩ ?_)
  clear hLo5
  rintro n s ⟨size3, hs, h⟩
  refine zV _ _ hs ?_
  clear hs
  cases n with
  | zero => cases h
  | succ n =>
   rw [r_impl_firstPoint_L4] at h
   refine zF ?_
   refine zG ?_
   refine VE ?_
   obtain ⟨qo8, hLo8, hko8⟩ := zA h
   refine V_toS (q := qo8) (S := fun o8 => ⟨.bot :: I a2 :: .pt 16 0 :: bt 3 (I size3 :: bt 36 []), [(16, .box [Ti g1.1, Ti g1.2.1, Ti g1.2.2])]⟩) (mb 43 70) [16] ?_ ?_
   ·refine zG (V_loop (fun n s => ∃ (x6 : Int), s.keep (mb 43 198) [16] = (⟨.bot :: I a2 :: .pt 16 0 :: bt 3 (I size3 :: I x6 :: bt 35 []), [(16, .box [Ti g1.1, Ti g1.2.1, Ti g1.2.2])]⟩ : St) ∧ r_impl_firstPoint_L7 a2 g1 size3 n x6 = some qo8) FU ⟨_,  kk, hLo8⟩ ?_)
    clear hLo8
    rintro n s ⟨x6, hs, h⟩
    refine zV _ _ hs ?_
    clear hs
    cases n with
    | zero => cases h
    | succ n =>
     rw [r_impl_firstPoint_L7] at h
     refine zF ?_
     refine VE ?_
     refine VC h (fun h => ?_) (fun h => ?_)
     ·refine zK ?_
      show V _ _ _ _
      refine zF ?_
      refine zG ?_
      refine VE ?_
      obtain ⟨qo12, hLo12, hko12⟩ := zA h
      refine V_toS (q := qo12) (S := fun o12 => ⟨.bot :: I a2 :: .pt 16 0 :: bt 3 (I size3 :: I x6 :: bt 35 []), [(16, .box [Ti g1.1, Ti g1.2.1, Ti g1.2.2])]⟩) (mb 43 198) [16] ?_ ?_
      ·refine zG (V_loop (fun n s => ∃ (y10 : Int), s.keep (mb 43 454) [16] = (⟨.bot :: I a2 :: .pt 16 0 :: bt 3 (I size3 :: I x6 :: I y10 :: bt 34 []), [(16, .box [Ti g1.1, Ti g1.2.1, Ti g1.2.2])]⟩ : St) ∧ r_impl_firstPoint_L11 a2 g1 size3 x6 n y10 = some qo12) FU ⟨_,  kk, hLo12⟩ ?_)
       clear hLo12
       rintro n s ⟨y10, hs, h⟩
       refine zV _ _ hs ?_
       clear hs
       cases n with
       | zero => cases h
       | succ n =>
        rw [r_impl_firstPoint_L11] at h
        refine zF ?_
        refine VE ?_
        refine VC h (fun h => ?_) (fun h => ?_)
        ·refine zK ?_
         show V _ _ _ _
         refine zF ?_
         refine zG ?_
         obtain ⟨b16, hb16, h⟩ := zA h
         obtain ⟨b20, hb20, h⟩ := zA h
         refine zO (mb 43 1099511628230) [16] (s1 := ⟨.bot :: I a2 :: .pt 16 0 :: bt 3 (I size3 :: I x6 :: I y10 :: bt 31 (Bo b20 :: .bot :: .bot :: [])), [(16, .box [Ti g1.1, Ti g1.2.1, Ti g1.2.2])]⟩) ?_ ?_
         ·refine YR 2 ?_
          refine L0 rfl rfl (Y0_max (a := x6) (b := y10) rfl kk kk) ?_
          refine YR 3 ?_
          refine zJ (eqI (mxI x6 y10) size3) (fun hc14 => ?_) (fun hc14 => ?_)
          ·have hb16 := zN hb16 hc14
           obtain ⟨y15, hy15, hb16⟩ := zA hb16
           have hb16 := zB hb16
           refine YQ hc14 ?_
           refine YK 2 (s_impl_gcd hy15) cf_impl_gcd ?_
           refine YR 3 ?_
           refine zJ b16 (fun hc17 => ?_) (fun hc17 => ?_)
           ·have hb20 := zN hb20 hc17
            obtain ⟨y18, hy18, hb20⟩ := zA hb20
            obtain ⟨y19, hy19, hb20⟩ := zA hb20
            have hb20 := zB hb20
            refine YQ hc17 ?_ (by rw [← hb16]; (try rw [← hb20]); (try rw [hc14]); kernel_rfl)
            refine YK 3 (s_impl_Form_at hy18) cf_impl_Form_at ?_
            refine YK 1 (s_impl_gcd hy19) cf_impl_gcd ?_
            exact YE (by rw [← hb20]; (try rw [hc14]); (try rw [hc17]); kernel_rfl)
           ·have hb20 := zB (zC hb20 hc17)
            refine YQ hc17 ?_ (by rw [← hb16]; (try rw [← hb20]); (try rw [hc14]); kernel_rfl)
            exact YE (by rw [← hb20]; (try rw [hc14]); (try rw [hc17]); kernel_rfl)
          ·have hb16 := zB (zC hb16 hc14)
           refine YQ hc14 ?_
           refine YR 6 ?_
           subst hb16
           have hc17 : false = false := rfl
           have hb20 := zB (zC hb20 hc17)
           exact YE (by rw [← hb20]; (try rw [hc14]); kernel_rfl)
         refine VC h (fun h => ?_) (fun h => ?_)
         ·refine VE ?_
          refine zH ?_
          obtain rfl := zB h
          have h := hko12
          obtain rfl := zB h
          have h := hko8
          obtain rfl := zB h
          have h := hko5
          obtain rfl := zB h
          exact VT
         ·refine zK ?_
          show V _ _ _ _
          obtain ⟨y22, hy22, h⟩ := zU h
          refine V_reg (mb 43 454) [16] (s1 := ⟨.bot :: I a2 :: .pt 16 0 :: bt 3 (I size3 :: I x6 :: I y22 :: bt 34 []), [(16, .box [Ti g1.1, Ti g1.2.1, Ti g1.2.2])]⟩) ?_ ?_
          ·refine XR 3 ?_
           refine zD ?_
           subst hy22
           kernel_rfl
          exact ⟨n, Nat.lt_succ_self n, _,  kk, h⟩
        ·refine V_exit ?_
         obtain rfl := zB h
         exact ⟨_, rfl, kk⟩
      rintro o12 rfl
      have h := hko12
      clear hko12
      show V _ _ _ _
      obtain ⟨x23, hx23, h⟩ := zU h
      refine V_reg (mb 43 198) [16] (s1 := ⟨.bot :: I a2 :: .pt 16 0 :: bt 3 (I size3 :: I x23 :: bt 35 []), [(16, .box [Ti g1.1, Ti g1.2.1, Ti g1.2.2])]⟩) ?_ ?_
      ·refine XR 3 ?_
       refine zD ?_
       subst hx23
       kernel_rfl
      exact ⟨n, Nat.lt_succ_self n, _,  kk, h⟩
     ·refine V_exit ?_
      obtain rfl := zB h
      exact ⟨_, rfl, kk⟩
   rintro o8 rfl
   have h := hko8
   clear hko8
   show V _ _ _ _
   obtain ⟨size24, hsize24, h⟩ := zU h
   refine V_reg (mb 43 70) [16] (s1 := ⟨.bot :: I a2 :: .pt 16 0 :: bt 3 (I size24 :: bt 36 []), [(16, .box [Ti g1.1, Ti g1.2.1, Ti g1.2.2])]⟩) ?_ ?_
   ·refine XR 3 ?_
    refine zD ?_
    subst hsize24
    kernel_rfl
   exact ⟨n, Nat.lt_succ_self n, _,  kk, h⟩
 rintro o5 rfl
 cases hko5
theorem cf_impl_inverse : CfW Tryz.prog 280 := cfW Tryz.func280
theorem s_impl_inverse {a1 : Int} {vm2 : Int} {r : Int} (h : r_impl_inverse a1 vm2 = some r) : zP Tryz.prog 280 [I a1, I vm2] (I r) [] := by
 refine CtW [4] Tryz.func280 rfl rfl 34 ?_
 unfold r_impl_inverse at h
 refine VE ?_
 refine VE ?_
 refine zF ?_
 obtain ⟨y3, hy3, h⟩ := zA h
 refine VS ?_
 refine YK 2 (s_impl_mod hy3) cf_impl_mod ?_
 refine YF ?_
 obtain ⟨o9, hLo9, h⟩ := zA h
 refine V_toK (mb 34 34) [] (s1 := ⟨.bot :: I vm2 :: bt 3 (I o9 :: bt 28 []), []⟩) ?_ ?_
 ·clear h
  refine zG (V_loop (fun n s => ∃ (x4 : Int) (y5 : Int) (vr6 : Int) (vs7 : Int), s.keep (mb 34 482) [] = (⟨.bot :: I vm2 :: bt 3 (I x4 :: I y5 :: I vr6 :: I vs7 :: bt 25 []), []⟩ : St) ∧ r_impl_inverse_L8 vm2 n x4 y5 vr6 vs7 = some o9) FU ⟨_, _, _, _,  kk, hLo9⟩ ?_)
  clear hLo9
  rintro n s ⟨x4, y5, vr6, vs7, hs, h⟩
  refine zV _ _ hs ?_
  clear hs
  cases n with
  | zero => cases h
  | succ n =>
   rw [r_impl_inverse_L8] at h
   refine zF ?_
   refine VE ?_
   refine VC h (fun h => ?_) (fun h => ?_)
   ·refine zK ?_
    show V _ _ _ _
    refine zG ?_
    obtain ⟨z11, hz11, h⟩ := zA h
    obtain ⟨q12, hq12, h⟩ := zU h
    refine zO (mb 34 994) [] (s1 := ⟨.bot :: I vm2 :: bt 3 (I x4 :: I y5 :: I vr6 :: I vs7 :: I q12 :: bt 24 []), []⟩) ?_ ?_
    ·refine XR 2 ?_
     refine L0 rfl rfl (zS (a := vr6) (b := vs7) rfl kk kk (nz_some hz11)) ?_
     refine XR 1 ?_
     refine zD ?_
     subst hq12
     kernel_rfl
    obtain ⟨vs13, hvs13, h⟩ := zU h
    refine zO (mb 34 994) [] (s1 := ⟨.bot :: I vm2 :: bt 3 (I x4 :: I y5 :: I vs7 :: I vs13 :: I q12 :: bt 24 []), []⟩) ?_ ?_
    ·refine XR 8 ?_
     refine zD ?_
     subst hvs13
     kernel_rfl
    obtain ⟨y14, hy14, h⟩ := zU h
    refine V_reg (mb 34 482) [] (s1 := ⟨.bot :: I vm2 :: bt 3 (I y5 :: I y14 :: I vs7 :: I vs13 :: bt 25 []), []⟩) ?_ ?_
    ·refine XR 8 ?_
     refine zD ?_
     subst hy14
     kernel_rfl
    exact ⟨n, Nat.lt_succ_self n, _, _, _, _,  kk, h⟩
   ·refine V_exit ?_
    obtain rfl := zB h
    show St.keep _ _ _ = _
    kernel_rfl
 show V _ _ _ _
 obtain ⟨y15, hy15, h⟩ := zA h
 refine VS ?_
 refine YK 2 (s_impl_mod hy15) cf_impl_mod ?_
 refine YF ?_
 cases h
 exact zH VT
end Go.Proofs.YtfmjfofocklgpaaGreatDoor
namespace Go.Proofs.YtfmjfofocklgpaaGreatDoor
open Go.RowKit
set_option linter.unusedVariables false
set_option linter.unusedSimpArgs false
set_option maxRecDepth 100000
set_option maxHeartbeats 400000
theorem cf_impl_Form_complete : CfW Tryz.prog 245 := cfW Tryz.func245
theorem s_impl_Form_complete {f1 : (Int × Int × Int)} {x2 : Int} {y3 : Int} {r : (((Int × Int × Int)) × ((Int × Int × Int × Int)))} (h : r_impl_Form_complete f1 x2 y3 = some r) : zP Tryz.prog 245 [.ag [Ti f1.1, Ti f1.2.1, Ti f1.2.2], I x2, I y3] (.tc (.ag [Ti r.1.1, Ti r.1.2.1, Ti r.1.2.2]) (.tc (.ag [Ti r.2.1, Ti r.2.2.1, Ti r.2.2.2.1, Ti r.2.2.2.2]) .tn)) [] := by
 refine zT (rs := [.w 6 3, .w 7 4]) (vs := [.cell 6 38, .cell 7 109]) Tryz.func245 rfl rfl (.cons ⟨rfl, wd38⟩ (.cons ⟨rfl, wd109⟩ FitsL.nil)) (by decide) 59 rfl ?_
 unfold r_impl_Form_complete at h
 refine VE ?_
 refine VS ?_
 refine YR 2 ?_
 refine L0 rfl rfl (Y0_build (cs := [Ti x2, Ti 0, Ti y3, Ti 0]) pl109 bt109 rfl rfl kk) ?_
 refine YF ?_
 obtain ⟨j4, hj4, h⟩ := zA h
 refine V_cutK (mb 59 462) [64, 56, 48, 24] (s1 := ⟨.bot :: I x2 :: I y3 :: .pt 24 0 :: .bot :: .bot :: .pt 48 0 :: .pt 56 0 :: .pt 64 0 :: bt 50 [], [(64, .box [Ti x2, Ti j4.1, Ti y3, Ti j4.2]), (56, .box [Ti 0, Ti 0, Ti 0, Ti 0]), (48, .box [Ti 0, Ti 0, Ti 0]), (24, .box [Ti f1.1, Ti f1.2.1, Ti f1.2.2])]⟩) ?_ ?_
 ·clear h
  have h := hj4
  clear hj4
  refine VE ?_
  refine VC h (fun h => ?_) (fun h => ?_)
  ·refine zW ?_
   refine YF ?_
   obtain rfl := zB h
   show St.keep _ _ _ = _
   kernel_rfl
  ·obtain ⟨y6, hy6, h⟩ := zA h
   obtain ⟨y7, hy7, h⟩ := zA h
   refine VS ?_
   refine YK 2 (s_impl_abs hy6) cf_impl_abs ?_
   refine YK 0 (s_impl_inverse hy7) cf_impl_inverse ?_
   refine YF ?_
   obtain ⟨z8, hz8, h⟩ := zA h
   obtain ⟨f9, hf9, h⟩ := zU h
   refine V_reg (mb 59 462) [64, 56, 48, 24] (s1 := ⟨.bot :: I x2 :: I y3 :: .pt 24 0 :: .bot :: .bot :: .pt 48 0 :: .pt 56 0 :: .pt 64 0 :: bt 50 [], [(64, .box [Ti x2, Ti f9, Ti y3, Ti y7]), (56, .box [Ti 0, Ti 0, Ti 0, Ti 0]), (48, .box [Ti 0, Ti 0, Ti 0]), (24, .box [Ti f1.1, Ti f1.2.1, Ti f1.2.2])]⟩) ?_ ?_
   ·refine XR 6 ?_
    refine L0 rfl rfl (zS (a := w64 ((w64 (x2 * y7)) - 1)) (b := y3) rfl kk kk (nz_some hz8)) ?_
    refine XR 2 ?_
    refine zD ?_
    subst hf9
    kernel_rfl
   obtain rfl := zB h
   show St.keep _ _ _ = _
   kernel_rfl
 obtain ⟨y10, hy10, h⟩ := zA h
 refine VS ?_
 refine YK 2 (s_impl_Form_substitute hy10) cf_impl_Form_substitute ?_
 refine YF ?_
 obtain ⟨y11, hy11, h⟩ := zA h
 obtain ⟨t12, ht12, h⟩ := zU h
 refine zO (mb 59 1486) [64, 56, 48, 24] (s1 := ⟨.bot :: I x2 :: I y3 :: .pt 24 0 :: .bot :: .bot :: .pt 48 0 :: .pt 56 0 :: .pt 64 0 :: .bot :: I t12 :: bt 48 [], [(64, .box [Ti x2, Ti j4.1, Ti y3, Ti j4.2]), (56, .box [Ti 0, Ti 0, Ti 0, Ti 0]), (48, .box [Ti 0, Ti 0, Ti 0]), (24, .box [Ti f1.1, Ti f1.2.1, Ti f1.2.2])]⟩) ?_ ?_
 ·refine XR 5 ?_
  refine XC (s_impl_floorDiv hy11) cf_impl_floorDiv rfl rfl rfl ?_
  refine XR 2 ?_
  refine zD ?_
  subst ht12
  kernel_rfl
 obtain ⟨f13, hf13, h⟩ := zU h
 refine zO (mb 59 1484) [64, 56, 48, 24] (s1 := ⟨.bot :: .bot :: I y3 :: .pt 24 0 :: .bot :: .bot :: .pt 48 0 :: .pt 56 0 :: .pt 64 0 :: .bot :: I t12 :: bt 48 [], [(64, .box [Ti x2, Ti f13, Ti y3, Ti j4.2]), (56, .box [Ti 0, Ti 0, Ti 0, Ti 0]), (48, .box [Ti 0, Ti 0, Ti 0]), (24, .box [Ti f1.1, Ti f1.2.1, Ti f1.2.2])]⟩) ?_ ?_
 ·refine XR 8 ?_
  refine zD ?_
  subst hf13
  kernel_rfl
 obtain ⟨f14, hf14, h⟩ := zU h
 refine zO (mb 59 456) [64, 56, 48, 24] (s1 := ⟨bt 3 (.pt 24 0 :: .bot :: .bot :: .pt 48 0 :: .pt 56 0 :: .pt 64 0 :: bt 50 []), [(64, .box [Ti x2, Ti f13, Ti y3, Ti f14]), (56, .box [Ti 0, Ti 0, Ti 0, Ti 0]), (48, .box [Ti 0, Ti 0, Ti 0]), (24, .box [Ti f1.1, Ti f1.2.1, Ti f1.2.2])]⟩) ?_ ?_
 ·refine XR 8 ?_
  refine zD ?_
  subst hf14
  kernel_rfl
 obtain ⟨y15, hy15, h⟩ := zA h
 refine VDS [0, 0, 3, 0, 7, 31] 5 [[.z, .b, .z, .b, .z], [.b, .z, .z, .b, .z], [.a, .a, .z, .b, .z], [.b, .b, .b, .z, .r 48], [.a, .a, .a, .b, .z]] ?_
 refine EK 2 (s_impl_Form_substitute hy15) cf_impl_Form_substitute ?_
 refine EF 2 ?_
 cases h
 exact zH VT
theorem cf_impl_unite : CfW Tryz.prog 191 := cfW Tryz.func191
theorem s_impl_unite {f1 : (Int × Int × Int)} {g2 : (Int × Int × Int)} {r : (Int × Int × Int × Int × ((Int × Int × Int × Int)) × ((Int × Int × Int × Int)))} (h : r_impl_unite f1 g2 = some r) : zP Tryz.prog 191 [.ag [Ti f1.1, Ti f1.2.1, Ti f1.2.2], .ag [Ti g2.1, Ti g2.2.1, Ti g2.2.2]] (.ag [Ti r.1, Ti r.2.1, Ti r.2.2.1, Ti r.2.2.2.1, Ti r.2.2.2.2.1.1, Ti r.2.2.2.2.1.2.1, Ti r.2.2.2.2.1.2.2.1, Ti r.2.2.2.2.1.2.2.2, Ti r.2.2.2.2.2.1, Ti r.2.2.2.2.2.2.1, Ti r.2.2.2.2.2.2.2.1, Ti r.2.2.2.2.2.2.2.2]) [] := by
 refine zT (rs := [.w 4 12]) (vs := [.cell 4 178]) Tryz.func191 rfl rfl (.cons ⟨rfl, wd178⟩ FitsL.nil) (by decide) 103 rfl ?_
 unfold r_impl_unite at h
 refine VE ?_
 obtain ⟨y3, hy3, h⟩ := zA h
 refine VS ?_
 refine YK 3 (s_impl_firstPoint hy3) cf_impl_firstPoint ?_
 refine YF ?_
 obtain ⟨y4, hy4, h⟩ := zA h
 refine VS ?_
 refine YK 3 (s_impl_Form_complete hy4) cf_impl_Form_complete ?_
 refine YF ?_
 obtain ⟨y5, hy5, h⟩ := zA h
 refine VDS [0, 1, 0, 4, 0, 16, 0, 64, 192, 496, 1023, 0, 4095] 12 (cdm 12 [9087648, 9087649, 9087498, 9087514, 8560810, 8561066, 8391338, 8395434, 8411818, 8476074, 8738133, 2796202]) ?_
 refine EK 9 (s_impl_mod hy5) cf_impl_mod ?_
 refine E0 10 rfl rfl (Y0_build (cs := [Ti f1.1, Ti y4.1.1, Ti y5, Ti 0, Ti 0, Ti 0, Ti 0, Ti 0, Ti 0, Ti 0, Ti 0, Ti 0]) pl178 bt178 rfl rfl kk) ?_
 refine EF 1 ?_
 refine zF ?_
 obtain ⟨o8, hLo8, h⟩ := zA h
 refine V_toK (mb 103 916) [72, 64, 56, 32, 16] (s1 := ⟨.bot :: .bot :: .pt 16 0 :: .bot :: .pt 32 0 :: .bot :: .bot :: .pt 56 0 :: .pt 64 0 :: .pt 72 0 :: bt 93 [], [(72, .box [Ti f1.1, Ti y4.1.1, Ti o8, Ti 0, Ti 0, Ti 0, Ti 0, Ti 0, Ti 0, Ti 0, Ti 0, Ti 0]), (64, .box [Ti y4.2.1, Ti y4.2.2.1, Ti y4.2.2.2.1, Ti y4.2.2.2.2]), (56, .box [Ti y4.1.1, Ti y4.1.2.1, Ti y4.1.2.2]), (32, .box [Ti 0, Ti 0, Ti 0, Ti 0, Ti 0, Ti 0, Ti 0, Ti 0, Ti 0, Ti 0, Ti 0, Ti 0]), (16, .box [Ti f1.1, Ti f1.2.1, Ti f1.2.2])]⟩) ?_ ?_
 ·clear h
  refine zG (V_loop (fun n s => ∃ (f6 : Int), s.keep (mb 103 916) [72, 64, 56, 32, 16] = (⟨.bot :: .bot :: .pt 16 0 :: .bot :: .pt 32 0 :: .bot :: .bot :: .pt 56 0 :: .pt 64 0 :: .pt 72 0 :: bt 93 [], [(72, .box [Ti f1.1, Ti y4.1.1, Ti f6, Ti 0, Ti 0, Ti 0, Ti 0, Ti 0, Ti 0, Ti 0, Ti 0, Ti 0]), (64, .box [Ti y4.2.1, Ti y4.2.2.1, Ti y4.2.2.2.1, Ti y4.2.2.2.2]), (56, .box [Ti y4.1.1, Ti y4.1.2.1, Ti y4.1.2.2]), (32, .box [Ti 0, Ti 0, Ti 0, Ti 0, Ti 0, Ti 0, Ti 0, Ti 0, Ti 0, Ti 0, Ti 0, Ti 0]), (16, .box [Ti f1.1, Ti f1.2.1, Ti f1.2.2])]⟩ : St) ∧ r_impl_unite_L7 f1 y4 n f6 = some o8) FU ⟨_,  kk, hLo8⟩ ?_)
  clear hLo8
  rintro n s ⟨f6, hs, h⟩
  refine zV _ _ hs ?_
  clear hs
  cases n with
  | zero => cases h
  | succ n =>
   rw [r_impl_unite_L7] at h
   refine zF ?_
   obtain ⟨y9, hy9, h⟩ := zA h
   refine VS ?_
   refine YK 8 (s_impl_mod hy9) cf_impl_mod ?_
   refine YF ?_
   refine VC h (fun h => ?_) (fun h => ?_)
   ·refine zK ?_
    show V _ _ _ _
    refine zG ?_
    obtain ⟨f11, hf11, h⟩ := zU h
    refine V_reg (mb 103 916) [72, 64, 56, 32, 16] (s1 := ⟨.bot :: .bot :: .pt 16 0 :: .bot :: .pt 32 0 :: .bot :: .bot :: .pt 56 0 :: .pt 64 0 :: .pt 72 0 :: bt 93 [], [(72, .box [Ti f1.1, Ti y4.1.1, Ti f11, Ti 0, Ti 0, Ti 0, Ti 0, Ti 0, Ti 0, Ti 0, Ti 0, Ti 0]), (64, .box [Ti y4.2.1, Ti y4.2.2.1, Ti y4.2.2.2.1, Ti y4.2.2.2.2]), (56, .box [Ti y4.1.1, Ti y4.1.2.1, Ti y4.1.2.2]), (32, .box [Ti 0, Ti 0, Ti 0, Ti 0, Ti 0, Ti 0, Ti 0, Ti 0, Ti 0, Ti 0, Ti 0, Ti 0]), (16, .box [Ti f1.1, Ti f1.2.1, Ti f1.2.2])]⟩) ?_ ?_
    ·refine XR 8 ?_
     refine zD ?_
     subst hf11
     kernel_rfl
    exact ⟨n, Nat.lt_succ_self n, _,  kk, h⟩
   ·refine V_exit ?_
    obtain rfl := zB h
    show St.keep _ _ _ = _
    kernel_rfl
 show V _ _ _ _
 obtain ⟨y12, hy12, h⟩ := zA h
 refine VS ?_
 refine YK 8 (s_impl_mod hy12) cf_impl_mod ?_
 refine YF ?_
 obtain ⟨y13, hy13, h⟩ := zA h
 obtain ⟨z14, hz14, h⟩ := zA h
 obtain ⟨f15, hf15, h⟩ := zU h
 refine V_sdreg [0, 1, 0, 4, 15, 0, 32, 127, 0, 256, 768, 0, 2048, 7936, 16383, 32767, 65535] 16 (cdm 16 [178923680, 178923681, 178923530, 178923546, 178923605, 178913962, 178914986, 178918741, 41986730, 42052266, 42314410, 2796202, 6990506, 22391466, 89478485, 357913941]) (mb 103 916) [72, 64, 56, 32, 16] (s1 := ⟨.bot :: .bot :: .pt 16 0 :: .bot :: .pt 32 0 :: .bot :: .bot :: .pt 56 0 :: .pt 64 0 :: .pt 72 0 :: bt 93 [], [(72, .box [Ti f1.1, Ti y4.1.1, Ti y12, Ti f15, Ti 0, Ti 0, Ti 0, Ti 0, Ti 0, Ti 0, Ti 0, Ti 0]), (64, .box [Ti y4.2.1, Ti y4.2.2.1, Ti y4.2.2.2.1, Ti y4.2.2.2.2]), (56, .box [Ti y4.1.1, Ti y4.1.2.1, Ti y4.1.2.2]), (32, .box [Ti 0, Ti 0, Ti 0, Ti 0, Ti 0, Ti 0, Ti 0, Ti 0, Ti 0, Ti 0, Ti 0, Ti 0]), (16, .box [Ti f1.1, Ti f1.2.1, Ti f1.2.2])]⟩) kk kk ?_ ?_
 ·refine DR 6 ?_
  refine DC 6 (s_impl_Form_disc hy13) cf_impl_Form_disc rfl rfl rfl rfl 68 rfl ?_
  refine DR 7 ?_
  refine DE_0 14 (I (w64 (Int.tdiv (w64 ((w64 (y12 * y12)) - y13)) (w64 ((w64 (4 * f1.1)) * y4.1.1))))) kk rfl rfl rfl (zI rfl) kk (zS (a := w64 ((w64 (y12 * y12)) - y13)) (b := w64 ((w64 (4 * f1.1)) * y4.1.1)) rfl kk kk (nz_some hz14)) 76 rfl ?_
  refine DA 1 ?_
  refine XR 1 ?_
  refine zD ?_
  subst hf15
  kernel_rfl
 obtain ⟨z16, hz16, h⟩ := zA h
 obtain ⟨f17, hf17, h⟩ := zU h
 refine zO (mb 103 912) [72, 64, 56, 32] (s1 := ⟨bt 4 (.pt 32 0 :: .bot :: .bot :: .pt 56 0 :: .pt 64 0 :: .pt 72 0 :: bt 93 []), [(72, .box [Ti f1.1, Ti y4.1.1, Ti y12, Ti f15, Ti 1, Ti f17, Ti 0, Ti 1, Ti 0, Ti 0, Ti 0, Ti 0]), (64, .box [Ti y4.2.1, Ti y4.2.2.1, Ti y4.2.2.2.1, Ti y4.2.2.2.2]), (56, .box [Ti y4.1.1, Ti y4.1.2.1, Ti y4.1.2.2]), (32, .box [Ti 0, Ti 0, Ti 0, Ti 0, Ti 0, Ti 0, Ti 0, Ti 0, Ti 0, Ti 0, Ti 0, Ti 0])]⟩) ?_ ?_
 ·refine XR 8 ?_
  refine L0 rfl rfl (zS (a := w64 (y12 - f1.2.1)) (b := w64 (2 * f1.1)) rfl kk kk (nz_some hz16)) ?_
  refine L0 rfl rfl (Y0_build (cs := [Ti 1, Ti (w64 (Int.tdiv (w64 (y12 - f1.2.1)) (w64 (2 * f1.1)))), Ti 0, Ti 1]) pl109 bt109 rfl rfl kk) ?_
  refine XR 2 ?_
  refine zD ?_
  subst hf17
  kernel_rfl
 obtain ⟨z18, hz18, h⟩ := zA h
 obtain ⟨y19, hy19, h⟩ := zA h
 refine VDS [0, 0, 2, 0, 8, 30, 0, 64, 192, 510, 1022, 2047, 4095, 8191] 13 (cdm 13 [2796200, 172674, 172678, 172074, 172138, 172374, 2730, 6826, 23210, 87382, 349526, 1398101, 5592405]) ?_
 refine ER 9 ?_
 refine E0 9 rfl rfl (zS (a := w64 (y12 - y4.1.2.1)) (b := w64 (2 * y4.1.1)) rfl kk kk (nz_some hz18)) ?_
 refine E0 10 rfl rfl (Y0_build (cs := [Ti 1, Ti (w64 (Int.tdiv (w64 (y12 - y4.1.2.1)) (w64 (2 * y4.1.1)))), Ti 0, Ti 1]) pl109 bt109 rfl rfl kk) ?_
 refine EK 0 (s_impl_Matrix_times hy19) cf_impl_Matrix_times ?_
 refine EF 1 ?_
 refine VE ?_
 cases h
 exact zH VT
theorem cf_impl_united_composite : CfW Tryz.prog 192 := cfW Tryz.func192
theorem s_impl_united_composite {u1 : (Int × Int × Int × Int × ((Int × Int × Int × Int)) × ((Int × Int × Int × Int)))} {r : (Int × Int × Int)} (h : r_impl_united_composite u1 = some r) : zP Tryz.prog 192 [.ag [Ti u1.1, Ti u1.2.1, Ti u1.2.2.1, Ti u1.2.2.2.1, Ti u1.2.2.2.2.1.1, Ti u1.2.2.2.2.1.2.1, Ti u1.2.2.2.2.1.2.2.1, Ti u1.2.2.2.2.1.2.2.2, Ti u1.2.2.2.2.2.1, Ti u1.2.2.2.2.2.2.1, Ti u1.2.2.2.2.2.2.2.1, Ti u1.2.2.2.2.2.2.2.2]] (.ag [Ti r.1, Ti r.2.1, Ti r.2.2]) [] := by
 refine zT (rs := [.w 2 3]) (vs := [.cell 2 38]) Tryz.func192 rfl rfl (.cons ⟨rfl, wd38⟩ FitsL.nil) (by decide) 13 rfl ?_
 unfold r_impl_united_composite at h
 refine VE ?_
 obtain ⟨f2, hf2, h⟩ := zU h
 refine zO (mb 13 4) [16] (s1 := ⟨.bot :: .bot :: .pt 16 0 :: bt 10 [], [(16, .box [Ti f2, Ti u1.2.2.1, Ti u1.2.2.2.1])]⟩) ?_ ?_
 ·refine XR 9 ?_
  refine L0 rfl rfl (Y0_build (cs := [Ti (w64 (u1.1 * u1.2.1)), Ti u1.2.2.1, Ti u1.2.2.2.1]) pl38 bt38 rfl rfl kk) ?_
  refine XR 1 ?_
  refine zD ?_
  subst hf2
  kernel_rfl
 cases h
 exact zH VT
theorem cf_impl_compose : CfW Tryz.prog 111 := cfW Tryz.func111
theorem s_impl_compose {f1 : (Int × Int × Int)} {g2 : (Int × Int × Int)} {r : (Int × Int × Int)} (h : r_impl_compose f1 g2 = some r) : zP Tryz.prog 111 [.ag [Ti f1.1, Ti f1.2.1, Ti f1.2.2], .ag [Ti g2.1, Ti g2.2.1, Ti g2.2.2]] (.ag [Ti r.1, Ti r.2.1, Ti r.2.2]) [] := by
 refine zT (rs := [.w 4 3]) (vs := [.cell 4 38]) Tryz.func111 rfl rfl (.cons ⟨rfl, wd38⟩ FitsL.nil) (by decide) 12 rfl ?_
 unfold r_impl_compose at h
 refine VE ?_
 obtain ⟨y3, hy3, h⟩ := zA h
 obtain ⟨y4, hy4, h⟩ := zA h
 obtain ⟨y5, hy5, h⟩ := zA h
 obtain ⟨y6, hy6, h⟩ := zA h
 obtain ⟨y7, hy7, h⟩ := zA h
 refine VDS [0, 1, 0, 7, 15, 31, 63, 127] 7 (cdm 7 [32, 33, 10, 21, 85, 341, 1365]) ?_
 refine EK 1 (s_impl_reduced hy3) cf_impl_reduced ?_
 refine EK 1 (s_impl_reduced hy4) cf_impl_reduced ?_
 refine EK 0 (s_impl_unite hy5) cf_impl_unite ?_
 refine EK 0 (s_impl_united_composite hy6) cf_impl_united_composite ?_
 refine EK 0 (s_impl_reduced hy7) cf_impl_reduced ?_
 refine EF 0 ?_
 cases h
 exact zH VT
theorem cf_impl_orderOf : CfW Tryz.prog 177 := cfW Tryz.func177
theorem s_impl_orderOf {f1 : (Int × Int × Int)} {r : Int} (h : r_impl_orderOf f1 = some r) : zP Tryz.prog 177 [.ag [Ti f1.1, Ti f1.2.1, Ti f1.2.2]] (I r) [] := by
 refine CtW [2] Tryz.func177 rfl rfl 17 ?_
 unfold r_impl_orderOf at h
 refine VE ?_
 refine VE ?_
 refine zF ?_
 obtain ⟨y2, hy2, h⟩ := zA h
 refine VS ?_
 refine YK 1 (s_impl_reduced hy2) cf_impl_reduced ?_
 refine YF ?_
 obtain ⟨o8, hLo8, h⟩ := zA h
 refine V_toK (mb 17 8) [] (s1 := ⟨bt 3 (I o8 :: bt 13 []), []⟩) ?_ ?_
 ·clear h
  refine zG (V_loop (fun n s => ∃ (k3 : Int) (f4 : Int) (f5 : Int) (f6 : Int), s.keep (mb 17 26) [32, 8] = (⟨.bot :: .pt 8 0 :: .bot :: I k3 :: .pt 32 0 :: bt 12 [], [(32, .box [Ti f4, Ti f5, Ti f6]), (8, .box [Ti f1.1, Ti f1.2.1, Ti f1.2.2])]⟩ : St) ∧ r_impl_orderOf_L7 f1 n k3 f4 f5 f6 = some o8) FU ⟨_, _, _, _,  kk, hLo8⟩ ?_)
  clear hLo8
  rintro n s ⟨k3, f4, f5, f6, hs, h⟩
  refine zV _ _ hs ?_
  clear hs
  cases n with
  | zero => cases h
  | succ n =>
   rw [r_impl_orderOf_L7] at h
   refine zF ?_
   obtain ⟨y9, hy9, h⟩ := zA h
   refine VS ?_
   refine YK 1 (s_impl_isIdentity hy9) cf_impl_isIdentity ?_
   refine YF ?_
   refine VC h (fun h => ?_) (fun h => ?_)
   ·refine zK ?_
    show V _ _ _ _
    refine zF ?_
    refine zG ?_
    obtain ⟨k11, hk11, h⟩ := zU h
    refine V_reg (mb 17 26) [32, 8] (s1 := ⟨.bot :: .pt 8 0 :: .bot :: I k11 :: .pt 32 0 :: bt 12 [], [(32, .box [Ti f4, Ti f5, Ti f6]), (8, .box [Ti f1.1, Ti f1.2.1, Ti f1.2.2])]⟩) ?_ ?_
    ·refine XR 3 ?_
     refine zD ?_
     subst hk11
     kernel_rfl
    show V _ _ _ _
    refine zF ?_
    refine VE ?_
    refine zW ?_
    refine YF ?_
    show V _ _ _ _
    obtain ⟨y12, hy12, h⟩ := zA h
    refine zW ?_
    refine YK 2 (s_impl_compose hy12) cf_impl_compose ?_
    refine YF ?_
    exact ⟨n, Nat.lt_succ_self n, _, _, _, _,  kk, h⟩
   ·refine V_exit ?_
    obtain rfl := zB h
    show St.keep _ _ _ = _
    kernel_rfl
 show V _ _ _ _
 refine VE ?_
 cases h
 exact zH VT
theorem cf_impl_isOrderOf : CfW Tryz.prog 83 := cfW Tryz.func83
theorem s_impl_isOrderOf {f1 : (Int × Int × Int)} {vn2 : Int} {r : Bool} (h : r_impl_isOrderOf f1 vn2 = some r) : zP Tryz.prog 83 [.ag [Ti f1.1, Ti f1.2.1, Ti f1.2.2], I vn2] (Bo r) [] := by
 refine CtW [4] Tryz.func83 rfl rfl 17 ?_
 unfold r_impl_isOrderOf at h
 refine VE ?_
 obtain ⟨y3, hy3, h⟩ := zA h
 obtain ⟨b7, hb7, h⟩ := zA h
 refine zO (mb 17 16) [] (s1 := ⟨bt 4 (Bo b7 :: bt 12 []), []⟩) ?_ ?_
 ·refine YK 1 (s_impl_isClassForm hy3) cf_impl_isClassForm ?_
  refine YR 1 ?_
  refine zJ y3 (fun hc4 => ?_) (fun hc4 => ?_)
  ·refine YQ hc4 ?_
   refine YR 4 ?_
   refine zJ (bif y3 then (leI 1 vn2) else false) (fun hc5 => ?_) (fun hc5 => ?_)
   ·have hb7 := zN hb7 hc5
    obtain ⟨y6, hy6, hb7⟩ := zA hb7
    have hb7 := zB hb7
    refine YQ hc5 ?_ (by rw [hc4]; kernel_rfl)
    refine YK 1 (s_impl_orderOf hy6) cf_impl_orderOf ?_
    exact YE (by rw [← hb7]; (try rw [hc5]); (try rw [hc4]); kernel_rfl)
   ·have hb7 := zB (zC hb7 hc5)
    refine YQ hc5 ?_ (by rw [hc4]; kernel_rfl)
    exact YE (by rw [← hb7]; (try rw [hc5]); (try rw [hc4]); kernel_rfl)
  ·refine YQ hc4 ?_
   refine YR 4 ?_
   refine zJ (bif y3 then (leI 1 vn2) else false) (fun hc5 => ?_) (fun hc5 => ?_)
   ·have hb7 := zN hb7 hc5
    obtain ⟨y6, hy6, hb7⟩ := zA hb7
    have hb7 := zB hb7
    refine YQ hc5 ?_ (by rw [hc4]; kernel_rfl)
    refine YK 1 (s_impl_orderOf hy6) cf_impl_orderOf ?_
    exact YE (by rw [← hb7]; (try rw [hc5]); (try rw [hc4]); kernel_rfl)
   ·have hb7 := zB (zC hb7 hc5)
    refine YQ hc5 ?_ (by rw [hc4]; kernel_rfl)
    exact YE (by rw [← hb7]; (try rw [hc5]); (try rw [hc4]); kernel_rfl)
 cases h
 exact zH VT
end Go.Proofs.YtfmjfofocklgpaaGreatDoor
namespace Go.Proofs.YtfmjfofocklgpaaGreatDoor
open Go.RowKit
set_option linter.unusedVariables false
set_option linter.unusedSimpArgs false
set_option maxRecDepth 100000
set_option maxHeartbeats 400000
theorem cf_impl_parts_claim : CfW Tryz.prog 44 := cfW Tryz.func44
theorem s_impl_parts_claim {c1 : (ByteArray × (List ((Int × Int × Int))) × (List ((Int × Int × Int × Int))) × (List Int))} {r : Bool} (h : zQ c1 = some r) : zP Tryz.prog 44 [.ag [.v (.string c1.1), .sl (c1.2.1.map c38), .sl (c1.2.2.1.map c109), .sl (c1.2.2.2.map c3)]] (Bo r) [] := by
 refine CtW [2] Tryz.func44 rfl rfl 210 ?_
 unfold zQ at h
 refine VE ?_
 refine VDS [0, 1, 0, 4, 0, 16, 3, 79, 255] 9 (cdm 9 [2720, 2721, 10762, 10778, 41130, 41386, 2725, 6741, 21845]) ?_
 refine EF 9 ?_
 refine zF ?_
 refine VE ?_
 refine zG ?_
 obtain ⟨t2, ht2, h⟩ := zA h
 have ht2 := zB ht2
 refine zO (mb 210 98360) [] (s1 := ⟨bt 3 (.c (.sl (c1.2.1.map c38)) :: .c (.sl (c1.2.2.1.map c109)) :: .c (.sl (c1.2.2.2.map c3)) :: bt 9 (.c (.v (.string c1.1)) :: Bo t2 :: bt 193 [])), []⟩) ?_ ?_
 ·refine L0 rfl rfl (Y0_eqs (a := c1.1) (b := ((⟨#[101, 113, 117, 105, 118, 97, 108, 101, 110, 116]⟩ : ByteArray))) rfl kk kk) ?_
  refine XR 1 ?_
  refine zD ?_
  subst ht2
  kernel_rfl
 refine VC h (fun h => ?_) (fun h => ?_)
 ·obtain ⟨e4, he4, h⟩ := zA h
  obtain ⟨e5, he5, h⟩ := zA h
  obtain ⟨e6, he6, h⟩ := zA h
  obtain ⟨y7, hy7, h⟩ := zA h
  refine VDS [0, 1, 3, 0, 8, 24, 0, 64, 192, 511, 1023] 11 (cdm 11 [174720, 174721, 174725, 172074, 172138, 172394, 2730, 6826, 23210, 87381, 349525]) ?_
  refine ER 1 ?_
  refine E0 1 rfl rfl (zM (c := c38) (xs := c1.2.1) (v := e4) (n := 0) Tryz.underlying59 sz38 rfl kk kk he4) ?_
  refine ER 2 ?_
  refine E0 4 rfl rfl (zM (c := c109) (xs := c1.2.2.1) (v := e5) (n := 0) Tryz.underlying60 sz109 rfl kk kk he5) ?_
  refine ER 2 ?_
  refine E0 7 rfl rfl (zM (c := c38) (xs := c1.2.1) (v := e6) (n := 1) Tryz.underlying59 sz38 rfl kk kk he6) ?_
  refine EK 1 (s_impl_makesOf hy7) cf_impl_makesOf ?_
  refine EF 1 ?_
  cases h
  exact zH VT
 ·obtain ⟨t8, ht8, h⟩ := zA h
  have ht8 := zB ht8
  refine zO (mb 210 268468280) [] (s1 := ⟨bt 3 (.c (.sl (c1.2.1.map c38)) :: .c (.sl (c1.2.2.1.map c109)) :: .c (.sl (c1.2.2.2.map c3)) :: bt 9 (.c (.v (.string c1.1)) :: bt 12 (Bo t8 :: bt 181 []))), []⟩) ?_ ?_
  ·refine L0 rfl rfl (Y0_eqs (a := c1.1) (b := ((⟨#[100, 105, 102, 102, 101, 114, 101, 110, 116]⟩ : ByteArray))) rfl kk kk) ?_
   refine XR 1 ?_
   refine zD ?_
   subst ht8
   kernel_rfl
  refine VC h (fun h => ?_) (fun h => ?_)
  ·obtain ⟨e10, he10, h⟩ := zA h
   obtain ⟨y11, hy11, h⟩ := zA h
   obtain ⟨b15, hb15, h⟩ := zA h
   obtain ⟨b21, hb21, h⟩ := zA h
   obtain ⟨b27, hb27, h⟩ := zA h
   obtain ⟨b31, hb31, h⟩ := zA h
   obtain ⟨b35, hb35, h⟩ := zA h
   obtain ⟨b39, hb39, h⟩ := zA h
   refine V_sdreg [0, 1, 3, 7, 15, 31, 63, 127, 255, 511, 1023, 2047, 4095, 8191, 2047, 18431, 51199, 2047, 133119, 395263, 1048575, 2097151, 4194303, 8388607, 16777215, 33554431, 8388607, 75497471, 209715199, 8388607, 545259519, 1619001343, 4294967295, 8589934591, 17179869183, 34359738367, 68719476735, 137438953471, 274877906943, 549755813887, 1099511627775, 2199023255551, 4398046511103, 8796093022207, 17592186044415, 35184372088831, 70368744177663, 140737488355327, 281474976710655, 562949953421311, 140737488355327, 1266637395197951, 3518437208883199, 9007199254740991, 18014398509481983, 36028797018963967] 56 (cdm 56 [0, 1, 5, 21, 85, 341, 1365, 5461, 21845, 87381, 349525, 732830192981, 732834387285, 732851164501, 721732064597, 722000500053, 723074241877, 11451848021, 28631717205, 97351193941, 366503875925, 1466015503701, 5864062014805, 12294850438969513301, 12294920807713690965, 12295202282690401621, 12108654741875414357, 12113158341502784853, 12131172740012266837, 192130127853081941, 480360504004793685, 1633282008611640661, 6148914691236517205, 24595658764946068821, 98382635059784275285, 393530540239137101141, 1574122160956548404565, 6296488643826193618261, 25185954575304774473045, 100743818301219097892181, 402975273204876391568725, 1611901092819505566274901, 6447604371278022265099605, 25790417485112089060398421, 103161669940448356241593685, 412646679761793424966374741, 1650586719047173699865498965, 53247927556461823557660996621653, 53267734597090389642059382609237, 53346962759604653979652926559573, 838498053275964239531673474389, 2106148653504193641028376679765, 7176751054417111247015189501269, 27043212804868893898596335048021, 108172851219475575594385340192085, 432691404877902302377541360768341]) (mb 210 4) [] (s1 := ⟨.bot :: .bot :: Bo b39 :: bt 207 [], []⟩) kk kk ?_ ?_
   ·refine ER 1 ?_
    refine E0 1 rfl rfl (zM (c := c38) (xs := c1.2.1) (v := e10) (n := 0) Tryz.underlying59 sz38 rfl kk kk he10) ?_
    refine EK 1 (s_impl_isDefinite hy11) cf_impl_isDefinite ?_
    refine ER 1 ?_
    refine DL_split y11 (fun hc12 => ?_) (fun hc12 => ?_)
    ·have hb15 := zN hb15 hc12
     obtain ⟨e13, he13, hb15⟩ := zA hb15
     obtain ⟨y14, hy14, hb15⟩ := zA hb15
     have hb15 := zB hb15
     refine EQ hc12 ?_
     refine ER 1 ?_
     refine E0 6 rfl rfl (zM (c := c38) (xs := c1.2.1) (v := e13) (n := 2) Tryz.underlying59 sz38 rfl kk kk he13) ?_
     refine EK 1 (s_impl_isDefinite hy14) cf_impl_isDefinite ?_
     refine ER 2 ?_
     refine DL_split b15 (fun hc16 => ?_) (fun hc16 => ?_)
     ·have hb21 := zN hb21 hc16
      obtain ⟨e17, he17, hb21⟩ := zA hb21
      obtain ⟨e18, he18, hb21⟩ := zA hb21
      obtain ⟨e19, he19, hb21⟩ := zA hb21
      obtain ⟨y20, hy20, hb21⟩ := zA hb21
      have hb21 := zB hb21
      refine EQ hc16 ?_ (by rw [← hb15]; (try rw [← hb21]); (try rw [hc12]); kernel_rfl)
      refine ER 1 ?_
      refine E0 12 rfl rfl (zM (c := c38) (xs := c1.2.1) (v := e17) (n := 0) Tryz.underlying59 sz38 rfl kk kk he17) ?_
      refine ER 2 ?_
      refine E0 15 rfl rfl (zM (c := c109) (xs := c1.2.2.1) (v := e18) (n := 0) Tryz.underlying60 sz109 rfl kk kk he18) ?_
      refine ER 2 ?_
      refine E0 18 rfl rfl (zM (c := c38) (xs := c1.2.1) (v := e19) (n := 1) Tryz.underlying59 sz38 rfl kk kk he19) ?_
      refine EK 1 (s_impl_makesOf hy20) cf_impl_makesOf ?_
      refine ER 2 ?_
      refine DL_split b21 (fun hc22 => ?_) (fun hc22 => ?_)
      ·have hb27 := zN hb27 hc22
       obtain ⟨e23, he23, hb27⟩ := zA hb27
       obtain ⟨e24, he24, hb27⟩ := zA hb27
       obtain ⟨e25, he25, hb27⟩ := zA hb27
       obtain ⟨y26, hy26, hb27⟩ := zA hb27
       have hb27 := zB hb27
       refine EQ hc22 ?_ (by rw [← hb21]; (try rw [← hb27]); (try rw [hc12]); (try rw [hc16]); kernel_rfl)
       refine ER 1 ?_
       refine E0 24 rfl rfl (zM (c := c38) (xs := c1.2.1) (v := e23) (n := 2) Tryz.underlying59 sz38 rfl kk kk he23) ?_
       refine ER 2 ?_
       refine E0 27 rfl rfl (zM (c := c109) (xs := c1.2.2.1) (v := e24) (n := 1) Tryz.underlying60 sz109 rfl kk kk he24) ?_
       refine ER 2 ?_
       refine E0 30 rfl rfl (zM (c := c38) (xs := c1.2.1) (v := e25) (n := 3) Tryz.underlying59 sz38 rfl kk kk he25) ?_
       refine EK 1 (s_impl_makesOf hy26) cf_impl_makesOf ?_
       refine ER 2 ?_
       refine DL_split b27 (fun hc28 => ?_) (fun hc28 => ?_)
       ·have hb31 := zN hb31 hc28
        obtain ⟨e29, he29, hb31⟩ := zA hb31
        obtain ⟨y30, hy30, hb31⟩ := zA hb31
        have hb31 := zB hb31
        refine EQ hc28 ?_ (by rw [← hb27]; (try rw [← hb31]); (try rw [hc12]); (try rw [hc16]); (try rw [hc22]); kernel_rfl)
        refine ER 1 ?_
        refine E0 36 rfl rfl (zM (c := c38) (xs := c1.2.1) (v := e29) (n := 1) Tryz.underlying59 sz38 rfl kk kk he29) ?_
        refine EK 1 (s_impl_Form_isReduced hy30) cf_impl_Form_isReduced ?_
        refine ER 2 ?_
        refine DL_split b31 (fun hc32 => ?_) (fun hc32 => ?_)
        ·have hb35 := zN hb35 hc32
         obtain ⟨e33, he33, hb35⟩ := zA hb35
         obtain ⟨y34, hy34, hb35⟩ := zA hb35
         have hb35 := zB hb35
         refine EQ hc32 ?_ (by rw [← hb31]; (try rw [← hb35]); (try rw [hc12]); (try rw [hc16]); (try rw [hc22]); (try rw [hc28]); kernel_rfl)
         refine ER 1 ?_
         refine E0 42 rfl rfl (zM (c := c38) (xs := c1.2.1) (v := e33) (n := 3) Tryz.underlying59 sz38 rfl kk kk he33) ?_
         refine EK 1 (s_impl_Form_isReduced hy34) cf_impl_Form_isReduced ?_
         refine ER 2 ?_
         refine DL_split b35 (fun hc36 => ?_) (fun hc36 => ?_)
         ·have hb39 := zN hb39 hc36
          obtain ⟨e37, he37, hb39⟩ := zA hb39
          obtain ⟨e38, he38, hb39⟩ := zA hb39
          have hb39 := zB hb39
          refine EQ hc36 ?_ (by rw [← hb35]; (try rw [← hb39]); (try rw [hc12]); (try rw [hc16]); (try rw [hc22]); (try rw [hc28]); (try rw [hc32]); kernel_rfl)
          refine ER 1 ?_
          refine E0 48 rfl rfl (zM (c := c38) (xs := c1.2.1) (v := e37) (n := 1) Tryz.underlying59 sz38 rfl kk kk he37) ?_
          refine ER 2 ?_
          refine E0 51 rfl rfl (zM (c := c38) (xs := c1.2.1) (v := e38) (n := 3) Tryz.underlying59 sz38 rfl kk kk he38) ?_
          refine ER 1 ?_
          refine E0 53 rfl rfl (Y0_neg3 (a0 := e37.1) (b0 := e38.1) (a1 := e37.2.1) (b1 := e38.2.1) (a2 := e37.2.2) (b2 := e38.2.2) neg38 rfl kk kk) ?_
          refine EA 2 ?_
          exact YE (by rw [← hb39]; (try rw [hc12]); (try rw [hc16]); (try rw [hc22]); (try rw [hc28]); (try rw [hc32]); (try rw [hc36]); kernel_rfl)
         ·have hb39 := zB (zC hb39 hc36)
          refine EQ hc36 ?_ (by rw [← hb35]; (try rw [← hb39]); (try rw [hc12]); (try rw [hc16]); (try rw [hc22]); (try rw [hc28]); (try rw [hc32]); kernel_rfl)
          refine EA 9 ?_
          exact YE (by rw [← hb39]; (try rw [hc12]); (try rw [hc16]); (try rw [hc22]); (try rw [hc28]); (try rw [hc32]); (try rw [hc36]); kernel_rfl)
        ·have hb35 := zB (zC hb35 hc32)
         refine EQ hc32 ?_ (by rw [← hb31]; (try rw [← hb39]); (try rw [hc12]); (try rw [hc16]); (try rw [hc22]); (try rw [hc28]); kernel_rfl)
         refine ER 6 ?_
         subst hb35
         have hc36 : false = false := rfl
         have hb39 := zB (zC hb39 hc36)
         refine EA 9 ?_
         exact YE (by rw [← hb39]; (try rw [hc12]); (try rw [hc16]); (try rw [hc22]); (try rw [hc28]); (try rw [hc32]); kernel_rfl)
       ·have hb31 := zB (zC hb31 hc28)
        refine EQ hc28 ?_ (by rw [← hb27]; (try rw [← hb39]); (try rw [hc12]); (try rw [hc16]); (try rw [hc22]); kernel_rfl)
        refine ER 6 ?_
        subst hb31
        have hc32 : false = false := rfl
        have hb35 := zB (zC hb35 hc32)
        refine ER 6 ?_
        subst hb35
        have hc36 : false = false := rfl
        have hb39 := zB (zC hb39 hc36)
        refine EA 9 ?_
        exact YE (by rw [← hb39]; (try rw [hc12]); (try rw [hc16]); (try rw [hc22]); (try rw [hc28]); kernel_rfl)
      ·have hb27 := zB (zC hb27 hc22)
       refine EQ hc22 ?_ (by rw [← hb21]; (try rw [← hb39]); (try rw [hc12]); (try rw [hc16]); kernel_rfl)
       refine ER 12 ?_
       subst hb27
       have hc28 : false = false := rfl
       have hb31 := zB (zC hb31 hc28)
       refine ER 6 ?_
       subst hb31
       have hc32 : false = false := rfl
       have hb35 := zB (zC hb35 hc32)
       refine ER 6 ?_
       subst hb35
       have hc36 : false = false := rfl
       have hb39 := zB (zC hb39 hc36)
       refine EA 9 ?_
       exact YE (by rw [← hb39]; (try rw [hc12]); (try rw [hc16]); (try rw [hc22]); kernel_rfl)
     ·have hb21 := zB (zC hb21 hc16)
      refine EQ hc16 ?_ (by rw [← hb15]; (try rw [← hb39]); (try rw [hc12]); kernel_rfl)
      refine ER 12 ?_
      subst hb21
      have hc22 : false = false := rfl
      have hb27 := zB (zC hb27 hc22)
      refine ER 12 ?_
      subst hb27
      have hc28 : false = false := rfl
      have hb31 := zB (zC hb31 hc28)
      refine ER 6 ?_
      subst hb31
      have hc32 : false = false := rfl
      have hb35 := zB (zC hb35 hc32)
      refine ER 6 ?_
      subst hb35
      have hc36 : false = false := rfl
      have hb39 := zB (zC hb39 hc36)
      refine EA 9 ?_
      exact YE (by rw [← hb39]; (try rw [hc12]); (try rw [hc16]); kernel_rfl)
    ·have hb15 := zB (zC hb15 hc12)
     refine EQ hc12 ?_
     refine ER 6 ?_
     subst hb15
     have hc16 : false = false := rfl
     have hb21 := zB (zC hb21 hc16)
     refine ER 12 ?_
     subst hb21
     have hc22 : false = false := rfl
     have hb27 := zB (zC hb27 hc22)
     refine ER 12 ?_
     subst hb27
     have hc28 : false = false := rfl
     have hb31 := zB (zC hb31 hc28)
     refine ER 6 ?_
     subst hb31
     have hc32 : false = false := rfl
     have hb35 := zB (zC hb35 hc32)
     refine ER 6 ?_
     subst hb35
     have hc36 : false = false := rfl
     have hb39 := zB (zC hb39 hc36)
     refine EA 9 ?_
     exact YE (by rw [← hb39]; (try rw [hc12]); kernel_rfl)
   cases h
   exact zH VT
  ·obtain ⟨t40, ht40, h⟩ := zA h
   have ht40 := zB ht40
   refine zO (mb 210 38685626227668133590630456) [] (s1 := ⟨bt 3 (.c (.sl (c1.2.1.map c38)) :: .c (.sl (c1.2.2.1.map c109)) :: .c (.sl (c1.2.2.2.map c3)) :: bt 9 (.c (.v (.string c1.1)) :: bt 69 (Bo t40 :: bt 124 []))), []⟩) ?_ ?_
   ·refine L0 rfl rfl (Y0_eqs (a := c1.1) (b := ((⟨#[118, 97, 108, 117, 101]⟩ : ByteArray))) rfl kk kk) ?_
    refine XR 1 ?_
    refine zD ?_
    subst ht40
    kernel_rfl
   refine VC h (fun h => ?_) (fun h => ?_)
   ·obtain ⟨e42, he42, h⟩ := zA h
    obtain ⟨e43, he43, h⟩ := zA h
    obtain ⟨e44, he44, h⟩ := zA h
    obtain ⟨y45, hy45, h⟩ := zA h
    obtain ⟨e46, he46, h⟩ := zA h
    obtain ⟨b51, hb51, h⟩ := zA h
    refine V_sdreg [0, 1, 3, 0, 8, 24, 0, 64, 192, 511, 0, 1024, 3072, 8191, 16383, 32767, 65535, 131071, 32767, 294911, 819199, 2097151, 4194303, 8388607, 16777215] 25 (cdm 25 [44214912, 44214913, 44214917, 44212266, 44212330, 44212586, 44042922, 44047018, 44063402, 44127573, 699050, 1747626, 5941930, 22369621, 89478485, 2886575936853, 2887649678677, 2891944645973, 45455070549, 114174547285, 389052454229, 1466015503701, 5864062014805, 23456248059221, 93824992236885]) (mb 210 4) [] (s1 := ⟨.bot :: .bot :: Bo b51 :: bt 207 [], []⟩) kk kk ?_ ?_
    ·refine ER 1 ?_
     refine E0 1 rfl rfl (zM (c := c38) (xs := c1.2.1) (v := e42) (n := 0) Tryz.underlying59 sz38 rfl kk kk he42) ?_
     refine ER 2 ?_
     refine E0 4 rfl rfl (zM (c := c3) (xs := c1.2.2.2) (v := e43) (n := 1) Tryz.underlying24 sz3 rfl kk kk he43) ?_
     refine ER 2 ?_
     refine E0 7 rfl rfl (zM (c := c3) (xs := c1.2.2.2) (v := e44) (n := 2) Tryz.underlying24 sz3 rfl kk kk he44) ?_
     refine EK 1 (s_impl_Form_at hy45) cf_impl_Form_at ?_
     refine ER 1 ?_
     refine E0 11 rfl rfl (zM (c := c3) (xs := c1.2.2.2) (v := e46) (n := 0) Tryz.underlying24 sz3 rfl kk kk he46) ?_
     refine ER 3 ?_
     refine DL_split (eqI y45 e46) (fun hc47 => ?_) (fun hc47 => ?_)
     ·have hb51 := zN hb51 hc47
      obtain ⟨e48, he48, hb51⟩ := zA hb51
      obtain ⟨e49, he49, hb51⟩ := zA hb51
      obtain ⟨y50, hy50, hb51⟩ := zA hb51
      have hb51 := zB hb51
      refine EQ hc47 ?_
      refine ER 1 ?_
      refine E0 16 rfl rfl (zM (c := c3) (xs := c1.2.2.2) (v := e48) (n := 1) Tryz.underlying24 sz3 rfl kk kk he48) ?_
      refine ER 2 ?_
      refine E0 19 rfl rfl (zM (c := c3) (xs := c1.2.2.2) (v := e49) (n := 2) Tryz.underlying24 sz3 rfl kk kk he49) ?_
      refine EK 1 (s_impl_gcd hy50) cf_impl_gcd ?_
      refine EA 3 ?_
      exact YE (by rw [← hb51]; (try rw [hc47]); kernel_rfl)
     ·have hb51 := zB (zC hb51 hc47)
      refine EQ hc47 ?_
      refine EA 10 ?_
      exact YE (by rw [← hb51]; (try rw [hc47]); kernel_rfl)
    cases h
    exact zH VT
   ·obtain ⟨t52, ht52, h⟩ := zA h
    have ht52 := zB ht52
    refine zO (mb 210 2596148429267413814265248164642872) [] (s1 := ⟨bt 3 (.c (.sl (c1.2.1.map c38)) :: .c (.sl (c1.2.2.1.map c109)) :: .c (.sl (c1.2.2.2.map c3)) :: bt 9 (.c (.v (.string c1.1)) :: bt 95 (Bo t52 :: bt 98 []))), []⟩) ?_ ?_
    ·refine L0 rfl rfl (Y0_eqs (a := c1.1) (b := ((⟨#[111, 98, 115, 116, 114, 117, 99, 116, 105, 111, 110]⟩ : ByteArray))) rfl kk kk) ?_
     refine XR 1 ?_
     refine zD ?_
     subst ht52
     kernel_rfl
    refine VC h (fun h => ?_) (fun h => ?_)
    ·obtain ⟨e54, he54, h⟩ := zA h
     obtain ⟨e55, he55, h⟩ := zA h
     obtain ⟨e56, he56, h⟩ := zA h
     obtain ⟨y57, hy57, h⟩ := zA h
     refine VDS [0, 1, 3, 0, 8, 24, 0, 64, 192, 511, 1023] 11 (cdm 11 [174720, 174721, 174725, 172074, 172138, 172394, 2730, 6826, 23210, 87381, 349525]) ?_
     refine ER 1 ?_
     refine E0 1 rfl rfl (zM (c := c3) (xs := c1.2.2.2) (v := e54) (n := 0) Tryz.underlying24 sz3 rfl kk kk he54) ?_
     refine ER 2 ?_
     refine E0 4 rfl rfl (zM (c := c3) (xs := c1.2.2.2) (v := e55) (n := 1) Tryz.underlying24 sz3 rfl kk kk he55) ?_
     refine ER 2 ?_
     refine E0 7 rfl rfl (zM (c := c3) (xs := c1.2.2.2) (v := e56) (n := 2) Tryz.underlying24 sz3 rfl kk kk he56) ?_
     refine EK 1 (s_impl_isObstruction hy57) cf_impl_isObstruction ?_
     refine EF 1 ?_
     cases h
     exact zH VT
    ·obtain ⟨t58, ht58, h⟩ := zA h
     have ht58 := zB ht58
     refine zO (mb 210 10633823966279326983230456482242789432) [] (s1 := ⟨bt 3 (.c (.sl (c1.2.1.map c38)) :: .c (.sl (c1.2.2.1.map c109)) :: .c (.sl (c1.2.2.2.map c3)) :: bt 9 (.c (.v (.string c1.1)) :: bt 107 (Bo t58 :: bt 86 []))), []⟩) ?_ ?_
     ·refine L0 rfl rfl (Y0_eqs (a := c1.1) (b := ((⟨#[99, 111, 109, 112, 111, 115, 105, 116, 101]⟩ : ByteArray))) rfl kk kk) ?_
      refine XR 1 ?_
      refine zD ?_
      subst ht58
      kernel_rfl
     refine VC h (fun h => ?_) (fun h => ?_)
     ·obtain ⟨e60, he60, h⟩ := zA h
      obtain ⟨e61, he61, h⟩ := zA h
      obtain ⟨e62, he62, h⟩ := zA h
      obtain ⟨y63, hy63, h⟩ := zA h
      refine VDS [0, 1, 3, 0, 8, 24, 0, 64, 192, 0, 1023, 2047, 4095, 4095, 8191, 32767] 16 (cdm 16 [699008, 699009, 699013, 696362, 696426, 696682, 527018, 531114, 547498, 174762, 349525, 1398101, 139810133, 576017749, 156587349, 357913941]) ?_
      refine ER 1 ?_
      refine E0 1 rfl rfl (zM (c := c38) (xs := c1.2.1) (v := e60) (n := 0) Tryz.underlying59 sz38 rfl kk kk he60) ?_
      refine ER 2 ?_
      refine E0 4 rfl rfl (zM (c := c38) (xs := c1.2.1) (v := e61) (n := 1) Tryz.underlying59 sz38 rfl kk kk he61) ?_
      refine ER 2 ?_
      refine E0 7 rfl rfl (zM (c := c38) (xs := c1.2.1) (v := e62) (n := 2) Tryz.underlying59 sz38 rfl kk kk he62) ?_
      refine EK 2 (s_impl_IsComposition hy63) cf_impl_IsComposition ?_
      refine EF 5 ?_
      refine zO (mb 210 4) [] (s1 := ⟨.bot :: .bot :: Bo (bif y63.1 then y63.2 else false) :: bt 207 [], []⟩) ?_ ?_
      ·refine YR 2 ?_
       refine zJ y63.1 (fun hc64 => ?_) (fun hc64 => ?_)
       ·refine YQ hc64 ?_
        exact YE (by rw [hc64]; kernel_rfl)
       ·refine YQ hc64 ?_
        exact YE (by rw [hc64]; kernel_rfl)
      cases h
      exact zH VT
     ·obtain ⟨t65, ht65, h⟩ := zA h
      have ht65 := zB ht65
      refine zO (mb 210 11150372599265311570767859136324180753023032) [] (s1 := ⟨bt 3 (.c (.sl (c1.2.1.map c38)) :: .c (.sl (c1.2.2.1.map c109)) :: .c (.sl (c1.2.2.2.map c3)) :: bt 9 (.c (.v (.string c1.1)) :: bt 127 (Bo t65 :: bt 66 []))), []⟩) ?_ ?_
      ·refine L0 rfl rfl (Y0_eqs (a := c1.1) (b := ((⟨#[111, 114, 100, 101, 114]⟩ : ByteArray))) rfl kk kk) ?_
       refine XR 1 ?_
       refine zD ?_
       subst ht65
       kernel_rfl
      refine VC h (fun h => ?_) (fun h => ?_)
      ·obtain ⟨e67, he67, h⟩ := zA h
       obtain ⟨e68, he68, h⟩ := zA h
       obtain ⟨y69, hy69, h⟩ := zA h
       refine VDS [0, 1, 3, 0, 8, 24, 63, 127] 8 (cdm 8 [2688, 2689, 2693, 42, 106, 362, 1365, 5461]) ?_
       refine ER 1 ?_
       refine E0 1 rfl rfl (zM (c := c38) (xs := c1.2.1) (v := e67) (n := 0) Tryz.underlying59 sz38 rfl kk kk he67) ?_
       refine ER 2 ?_
       refine E0 4 rfl rfl (zM (c := c3) (xs := c1.2.2.2) (v := e68) (n := 0) Tryz.underlying24 sz3 rfl kk kk he68) ?_
       refine EK 1 (s_impl_isOrderOf hy69) cf_impl_isOrderOf ?_
       refine EF 1 ?_
       cases h
       exact zH VT
      ·obtain ⟨t70, ht70, h⟩ := zA h
       have ht70 := zB ht70
       refine zO (mb 210 5708990770823839524233143877797980545531019320) [] (s1 := ⟨bt 3 (.c (.sl (c1.2.1.map c38)) :: .c (.sl (c1.2.2.1.map c109)) :: .c (.sl (c1.2.2.2.map c3)) :: bt 9 (.c (.v (.string c1.1)) :: bt 136 (Bo t70 :: bt 57 []))), []⟩) ?_ ?_
       ·refine L0 rfl rfl (Y0_eqs (a := c1.1) (b := ((⟨#[114, 111, 111, 116]⟩ : ByteArray))) rfl kk kk) ?_
        refine XR 1 ?_
        refine zD ?_
        subst ht70
        kernel_rfl
       refine VC h (fun h => ?_) (fun h => ?_)
       ·obtain ⟨e72, he72, h⟩ := zA h
        obtain ⟨b79, hb79, h⟩ := zA h
        refine V_sdreg [0, 1, 3, 7, 15, 31, 63, 127, 31, 287, 799, 2047, 31, 4127, 12319, 32767, 31, 65567, 196639, 458783, 1048575, 2097151, 4194303, 8388607] 24 (cdm 24 [0, 1, 5, 21, 85, 730851836245, 730851837269, 730851841365, 730849126741, 730849192277, 730849454421, 730850481493, 730155624789, 730172402005, 730239510869, 730502354261, 2863311189, 7158278485, 24338147669, 93057624405, 366503875925, 1466015503701, 5864062014805, 23456248059221]) (mb 210 4) [] (s1 := ⟨.bot :: .bot :: Bo b79 :: bt 207 [], []⟩) kk kk ?_ ?_
        ·refine ER 1 ?_
         refine E0 1 rfl rfl (zM (c := c3) (xs := c1.2.2.2) (v := e72) (n := 1) Tryz.underlying24 sz3 rfl kk kk he72) ?_
         refine ER 3 ?_
         refine DL_split (leI 1 e72) (fun hc73 => ?_) (fun hc73 => ?_)
         ·have hb79 := zN hb79 hc73
          obtain ⟨e74, he74, hb79⟩ := zA hb79
          obtain ⟨e75, he75, hb79⟩ := zA hb79
          obtain ⟨e76, he76, hb79⟩ := zA hb79
          obtain ⟨e77, he77, hb79⟩ := zA hb79
          obtain ⟨z78, hz78, hb79⟩ := zA hb79
          have hb79 := zB hb79
          refine EQ hc73 ?_
          refine ER 1 ?_
          refine E0 6 rfl rfl (zM (c := c3) (xs := c1.2.2.2) (v := e74) (n := 2) Tryz.underlying24 sz3 rfl kk kk he74) ?_
          refine ER 2 ?_
          refine E0 9 rfl rfl (zM (c := c3) (xs := c1.2.2.2) (v := e75) (n := 2) Tryz.underlying24 sz3 rfl kk kk he75) ?_
          refine ER 3 ?_
          refine E0 13 rfl rfl (zM (c := c3) (xs := c1.2.2.2) (v := e76) (n := 0) Tryz.underlying24 sz3 rfl kk kk he76) ?_
          refine ER 3 ?_
          refine E0 17 rfl rfl (zM (c := c3) (xs := c1.2.2.2) (v := e77) (n := 1) Tryz.underlying24 sz3 rfl kk kk he77) ?_
          refine ER 2 ?_
          refine E0 20 rfl rfl (Y0_rem (k := .i64) (a := w64 ((w64 (e74 * e75)) - e76)) (b := w64 (4 * e77)) rfl kk kk (nz_some hz78)) ?_
          refine EA 3 ?_
          exact YE (by rw [← hb79]; (try rw [hc73]); kernel_rfl)
         ·have hb79 := zB (zC hb79 hc73)
          refine EQ hc73 ?_
          refine EA 19 ?_
          exact YE (by rw [← hb79]; (try rw [hc73]); kernel_rfl)
        cases h
        exact zH VT
       ·obtain ⟨t80, ht80, h⟩ := zA h
        have ht80 := zB ht80
        refine zO (mb 210 191561942608236107294793378393788647952342390272950328) [] (s1 := ⟨bt 3 (.c (.sl (c1.2.1.map c38)) :: .c (.sl (c1.2.2.1.map c109)) :: .c (.sl (c1.2.2.2.map c3)) :: bt 171 (Bo t80 :: bt 32 [])), []⟩) ?_ ?_
        ·refine L0 rfl rfl (Y0_eqs (a := c1.1) (b := ((⟨#[97, 117, 116, 111, 109, 111, 114, 112, 104]⟩ : ByteArray))) rfl kk kk) ?_
         refine XR 1 ?_
         refine zD ?_
         subst ht80
         kernel_rfl
        refine VC h (fun h => ?_) (fun h => ?_)
        ·obtain ⟨e82, he82, h⟩ := zA h
         obtain ⟨e83, he83, h⟩ := zA h
         obtain ⟨e84, he84, h⟩ := zA h
         obtain ⟨y85, hy85, h⟩ := zA h
         refine VDS [0, 1, 3, 0, 8, 24, 0, 64, 192, 511, 1023] 11 (cdm 11 [174720, 174721, 174725, 172074, 172138, 172394, 2730, 6826, 23210, 87381, 349525]) ?_
         refine ER 1 ?_
         refine E0 1 rfl rfl (zM (c := c38) (xs := c1.2.1) (v := e82) (n := 0) Tryz.underlying59 sz38 rfl kk kk he82) ?_
         refine ER 2 ?_
         refine E0 4 rfl rfl (zM (c := c109) (xs := c1.2.2.1) (v := e83) (n := 0) Tryz.underlying60 sz109 rfl kk kk he83) ?_
         refine ER 2 ?_
         refine E0 7 rfl rfl (zM (c := c38) (xs := c1.2.1) (v := e84) (n := 0) Tryz.underlying59 sz38 rfl kk kk he84) ?_
         refine EK 1 (s_impl_makesOf hy85) cf_impl_makesOf ?_
         refine EF 1 ?_
         cases h
         exact zH VT
        ·refine zK ?_
         show V _ _ _ _
         obtain ⟨e86, he86, h⟩ := zA h
         obtain ⟨e87, he87, h⟩ := zA h
         obtain ⟨e88, he88, h⟩ := zA h
         obtain ⟨e89, he89, h⟩ := zA h
         obtain ⟨e90, he90, h⟩ := zA h
         obtain ⟨y91, hy91, h⟩ := zA h
         refine VDS [0, 1, 3, 0, 8, 24, 63, 0, 128, 384, 0, 1024, 3072, 8064, 0, 16384, 49152, 130944, 262143, 524287, 1048575, 2097151] 22 (cdm 22 [45812976256, 45812976257, 45812976261, 45812973610, 45812973674, 45812973930, 45812974933, 11318340266, 11318356650, 11318422186, 11274988202, 11276036778, 11280231082, 11296664234, 178956970, 447392426, 1521134250, 5726628522, 22906492245, 91625968981, 366503875925, 1466015503701]) ?_
         refine ER 1 ?_
         refine E0 1 rfl rfl (zM (c := c3) (xs := c1.2.2.2) (v := e86) (n := 1) Tryz.underlying24 sz3 rfl kk kk he86) ?_
         refine ER 2 ?_
         refine E0 4 rfl rfl (zM (c := c3) (xs := c1.2.2.2) (v := e87) (n := 1) Tryz.underlying24 sz3 rfl kk kk he87) ?_
         refine ER 3 ?_
         refine E0 8 rfl rfl (zM (c := c3) (xs := c1.2.2.2) (v := e88) (n := 0) Tryz.underlying24 sz3 rfl kk kk he88) ?_
         refine ER 2 ?_
         refine E0 11 rfl rfl (zM (c := c3) (xs := c1.2.2.2) (v := e89) (n := 2) Tryz.underlying24 sz3 rfl kk kk he89) ?_
         refine ER 3 ?_
         refine E0 15 rfl rfl (zM (c := c3) (xs := c1.2.2.2) (v := e90) (n := 2) Tryz.underlying24 sz3 rfl kk kk he90) ?_
         refine EK 3 (s_impl_abs hy91) cf_impl_abs ?_
         refine EF 2 ?_
         cases h
         exact zH VT
end Go.Proofs.YtfmjfofocklgpaaGreatDoor
namespace Go.Proofs.YtfmjfofocklgpaaGreatDoor
open Go.RowKit
set_option linter.unusedVariables false
set_option linter.unusedSimpArgs false
set_option maxRecDepth 100000
set_option maxHeartbeats 400000
theorem cf_impl_CheckCertificate : CfW Tryz.prog 12 := cfW Tryz.func12
theorem s_impl_CheckCertificate {vs1 : ByteArray} {r : Int} (h : r_impl_CheckCertificate vs1 = some r) : zP Tryz.prog 12 [.c (.v (.string vs1))] (I r) [] := by
 refine CtW [2] Tryz.func12 rfl rfl 16 ?_
 unfold r_impl_CheckCertificate at h
 refine VE ?_
 obtain ⟨y2, hy2, h⟩ := zA h
 refine VS ?_
 refine YK 1 (s_impl_partsOf hy2) cf_impl_partsOf ?_
 refine YF ?_
 refine zF ?_
 refine zG ?_
 refine VE ?_
 refine VC h (fun h => ?_) (fun h => ?_)
 ·refine VE ?_
  cases h
  exact zH VT
 ·obtain ⟨y4, hy4, h⟩ := zA h
  refine VS ?_
  refine YK 1 (s_impl_parts_claim hy4) cf_impl_parts_claim ?_
  refine YF ?_
  refine VC h (fun h => ?_) (fun h => ?_)
  ·refine VE ?_
   cases h
   exact zH VT
  ·refine zK ?_
   show V _ _ _ _
   refine VE ?_
   cases h
   exact zH VT
theorem cf_impl_CheckBundle : CfW Tryz.prog 14 := cfW Tryz.func14
theorem s_impl_CheckBundle {vs1 : ByteArray} {r : ((List Int) × Bool)} (h : r_impl_CheckBundle vs1 = some r) : zP Tryz.prog 14 [.c (.v (.string vs1))] (.tc (.ow 0) (.tc (Bo r.2) .tn)) [(0, .arr 3 1 (r.1.map c3))] := by
 refine CtW [2, 3] Tryz.func14 rfl rfl 41 ?_
 unfold r_impl_CheckBundle at h
 refine VS ?_
 refine L1 rfl rfl (Y1_nil (e := 3) 1 (by decide) (.inl rfl)) ?_
 refine YF ?_
 obtain ⟨y2, hy2, h⟩ := zA h
 refine VS ?_
 refine YK 1 (s_impl_linesOf hy2) cf_impl_linesOf ?_
 refine YF ?_
 refine zF ?_
 obtain ⟨t5, ht5, h⟩ := zA h
 have ht5 := zB ht5
 refine zO (mb 41 33554448) [88] (s1 := ⟨bt 4 (.ow 88 :: bt 20 (Bo t5 :: bt 15 [])), [(88, .arr 9 1 (y2.1.map c9))]⟩) ?_ ?_
 ·refine YR 3 ?_
  refine zJ (!y2.2) (fun hc3 => ?_) (fun hc3 => ?_)
  ·refine YQ hc3 ?_
   refine YR 5 ?_
   refine zJ (bif (!y2.2) then true else (ltI 4000 ((vs1.size : Int)))) (fun hc4 => ?_) (fun hc4 => ?_)
   ·refine YQ hc4 ?_ (by rw [hc3]; kernel_rfl)
    exact YE (by rw [← ht5]; (try rw [hc4]); (try rw [hc3]); kernel_rfl)
   ·refine YQ hc4 ?_ (by rw [hc3]; kernel_rfl)
    refine YR 1 ?_
    refine YT (X_of_Y0 rfl (Y0_lenM (c := c9) (xs := y2.1) Tryz.underlying66 rfl kk)) ?_
    exact YE (by rw [← ht5]; (try rw [hc4]); (try rw [hc3]); kernel_rfl)
  ·refine YQ hc3 ?_
   refine YR 5 ?_
   refine zJ (bif (!y2.2) then true else (ltI 4000 ((vs1.size : Int)))) (fun hc4 => ?_) (fun hc4 => ?_)
   ·refine YQ hc4 ?_ (by rw [hc3]; kernel_rfl)
    exact YE (by rw [← ht5]; (try rw [hc4]); (try rw [hc3]); kernel_rfl)
   ·refine YQ hc4 ?_ (by rw [hc3]; kernel_rfl)
    refine YR 1 ?_
    refine YT (X_of_Y0 rfl (Y0_lenM (c := c9) (xs := y2.1) Tryz.underlying66 rfl kk)) ?_
    exact YE (by rw [← ht5]; (try rw [hc4]); (try rw [hc3]); kernel_rfl)
 refine VC h (fun h => ?_) (fun h => ?_)
 ·refine VS ?_
  refine L1 rfl rfl (Y1_bslice0 Tryz.underlying24 sz3 (by decide) rfl rfl) ?_
  refine YF ?_
  cases h
  exact zH VT
 ·refine zK ?_
  show V _ _ _ _
  refine VS ?_
  refine L1 rfl rfl (Y1_bslice0 Tryz.underlying24 sz3 (by decide) rfl rfl) ?_
  refine YF ?_
  refine zF ?_
  refine VS ?_
  refine YR 1 ?_
  refine L0 rfl rfl (Y0_lenM (c := c9) (xs := y2.1) Tryz.underlying66 rfl kk) ?_
  refine YF ?_
  obtain ⟨o10, hLo10, h⟩ := zA h
  refine V_toK (mb 41 64) [216] (s1 := ⟨bt 6 (.ow 216 :: bt 34 []), [(216, .arr 3 1 (o10.map c3))]⟩) ?_ ?_
  ·clear h
   refine zG (V_loop (fun n s => ∃ (t7 : Int) (l8 : List Int), s.keep (mb 41 1879048256) [216, 88] = (⟨bt 6 (.ow 216 :: bt 21 (.ow 88 :: I ((y2.1.length : Int)) :: I t7 :: bt 10 [])), [(216, .arr 3 1 (l8.map c3)), (88, .arr 9 1 (y2.1.map c9))]⟩ : St) ∧ r_impl_CheckBundle_L9 y2 n t7 l8 = some o10) FU ⟨_, _,  kk, hLo10⟩ ?_)
   clear hLo10
   rintro n s ⟨t7, l8, hs, h⟩
   refine zV _ _ hs ?_
   clear hs
   cases n with
   | zero => cases h
   | succ n =>
    rw [r_impl_CheckBundle_L9] at h
    refine VE ?_
    refine zF ?_
    refine VC h (fun h => ?_) (fun h => ?_)
    ·refine zK ?_
     show V _ _ _ _
     refine zF ?_
     refine zG ?_
     obtain ⟨e12, he12, h⟩ := zA h
     obtain ⟨e13, he13, h⟩ := zA h
     refine VS ?_
     refine L0 rfl rfl (Y0_idxoM (c := c9) (xs := y2.1) (v := e12) (id := 88) (T := 9) (sz := 1) (n := t7) Tryz.underlying66 sz9 rfl kk kk kk he12) ?_
     refine L0 rfl rfl (Y0_loado1 (c := c9) (xs := y2.1) (v := e13) (id := 88) (sz := 1) (T := 9) (off := 0) (n := t7) (d := .v (.string e13)) (ds := []) sc9 rfl kk kk he13 kk) ?_
     refine YF ?_
     obtain ⟨y14, hy14, h⟩ := zA h
     obtain ⟨u15, hu15, h⟩ := zA h
     refine zW ?_
     refine YK 2 (s_impl_CheckCertificate hy14) cf_impl_CheckCertificate ?_
     refine L1 rfl rfl (Y1_bslice (z := zv3) (els := [y14].map c3) Tryz.underlying24 iz3 rfl (by decide) rfl kk rfl (by simp [c3]) (by decide) (by decide)) ?_
     refine XL_cons rfl (X_appendM (c := c3) (xs := l8) (ys := [y14]) (id := 216) (z := zv3) rfl rfl Tryz.underlying24 izb3 rfl kk kk kk (fun _ => rfl) (by simp) (room_some hu15) (by decide)) ?_
     refine YF ?_
     show V _ _ _ _
     obtain ⟨t16, ht16, h⟩ := zU h
     refine V_reg (mb 41 1879048256) [216, 88] (s1 := ⟨bt 6 (.ow 216 :: bt 21 (.ow 88 :: I ((y2.1.length : Int)) :: I t16 :: bt 10 [])), [(216, .arr 3 1 ((l8 ++ ([y14])).map c3)), (88, .arr 9 1 (y2.1.map c9))]⟩) ?_ ?_
     ·refine XR 2 ?_
      refine zD ?_
      subst ht16
      kernel_rfl
     exact ⟨n, Nat.lt_succ_self n, _, _,  kk, h⟩
    ·refine V_exit ?_
     obtain rfl := zB h
     show St.keep _ _ _ = _
     kernel_rfl
  show V _ _ _ _
  refine VE ?_
  cases h
  exact zH VT
theorem cf_laws_eqIntS : CfW Tryz.prog 15 := cfW Tryz.func15
theorem s_laws_eqIntS {a1 : List Int} {b2 : List Int} {r : Bool} (h : r_laws_eqIntS a1 b2 = some r) : zP Tryz.prog 15 [.c (.sl (a1.map c3)), .c (.sl (b2.map c3))] (Bo r) [] := by
 refine CtW [4] Tryz.func15 rfl rfl 26 ?_
 unfold r_laws_eqIntS at h
 refine VE ?_
 refine zF ?_
 refine VS ?_
 refine YR 1 ?_
 refine L0 rfl rfl (Y0_lenM (c := c3) (xs := a1) Tryz.underlying24 rfl kk) ?_
 refine YR 1 ?_
 refine L0 rfl rfl (Y0_lenM (c := c3) (xs := b2) Tryz.underlying24 rfl kk) ?_
 refine YF ?_
 refine VC h (fun h => ?_) (fun h => ?_)
 ·refine VE ?_
  cases h
  exact zH VT
 ·refine zK ?_
  show V _ _ _ _
  refine zF ?_
  refine VE ?_
  obtain ⟨qo6, hLo6, hko6⟩ := zA h
  refine V_toS (q := qo6) (S := fun o6 => ⟨bt 26 [], []⟩) (mb 26 0) [] ?_ ?_
  ·refine zG (V_loop (fun n s => ∃ (i4 : Int), s.keep (mb 26 35) [] = (⟨.c (.sl (a1.map c3)) :: .c (.sl (b2.map c3)) :: bt 3 (I i4 :: bt 20 []), []⟩ : St) ∧ r_laws_eqIntS_L5 a1 b2 n i4 = some qo6) FU ⟨_,  kk, hLo6⟩ ?_)
   clear hLo6
   rintro n s ⟨i4, hs, h⟩
   refine zV _ _ hs ?_
   clear hs
   cases n with
   | zero => cases h
   | succ n =>
    rw [r_laws_eqIntS_L5] at h
    refine zF ?_
    refine VS ?_
    refine YR 2 ?_
    refine L0 rfl rfl (Y0_lenM (c := c3) (xs := a1) Tryz.underlying24 rfl kk) ?_
    refine YF ?_
    refine VC h (fun h => ?_) (fun h => ?_)
    ·refine zK ?_
     show V _ _ _ _
     refine zF ?_
     refine zG ?_
     obtain ⟨e8, he8, h⟩ := zA h
     obtain ⟨e9, he9, h⟩ := zA h
     refine VDS [0, 0, 3, 7, 0, 0, 48, 112, 255] 9 (cdm 9 [43528, 43522, 43525, 43541, 2218, 682, 1450, 5546, 21845]) ?_
     refine ER 2 ?_
     refine E0 2 rfl rfl (zM (c := c3) (xs := a1) (v := e8) (n := i4) Tryz.underlying24 sz3 rfl kk kk he8) ?_
     refine ER 3 ?_
     refine E0 6 rfl rfl (zM (c := c3) (xs := b2) (v := e9) (n := i4) Tryz.underlying24 sz3 rfl kk kk he9) ?_
     refine EF 2 ?_
     refine VC h (fun h => ?_) (fun h => ?_)
     ·refine VE ?_
      refine zH ?_
      obtain rfl := zB h
      have h := hko6
      obtain rfl := zB h
      exact VT
     ·refine zK ?_
      show V _ _ _ _
      obtain ⟨i11, hi11, h⟩ := zU h
      refine V_reg (mb 26 35) [] (s1 := ⟨.c (.sl (a1.map c3)) :: .c (.sl (b2.map c3)) :: bt 3 (I i11 :: bt 20 []), []⟩) ?_ ?_
      ·refine XR 3 ?_
       refine zD ?_
       subst hi11
       kernel_rfl
      exact ⟨n, Nat.lt_succ_self n, _,  kk, h⟩
    ·refine V_exit ?_
     obtain rfl := zB h
     exact ⟨_, rfl, kk⟩
  rintro o6 rfl
  have h := hko6
  clear hko6
  show V _ _ _ _
  refine VE ?_
  cases h
  exact zH VT
theorem cf_laws_markIntS : CfW Tryz.prog 16 := cfW Tryz.func16
theorem s_laws_markIntS {a1 : List Int} {k2 : Int} {r : (Int × (List Int))} (h : r_laws_markIntS a1 k2 = some r) : CallR Tryz.prog 16 [.ow 80000, I k2] [(80000, .arr 3 1 (a1.map c3))] (I r.1) [] [(80000, .arr 3 1 (r.2.map c3))] := by
 refine CallR_of_text (rs := [.t 4]) (vs := [.tmp 4]) Tryz.func16 rfl rfl (.cons rfl FitsL.nil) (by decide) 19 rfl rfl fun σ => ?_
 unfold r_laws_markIntS at h
 show V _ _ ⟨.ow 80000 :: I k2 :: bt 17 [], [(80000, .parr (σ 80000) 3 1 (a1.map c3))]⟩ _
 refine VE ?_
 refine zF ?_
 refine VE ?_
 obtain ⟨o7, hLo7, h⟩ := zA h
 refine V_toK (mb 19 2) [80000] (s1 := ⟨.bot :: I o7.1 :: bt 17 [], [(80000, .parr (σ 80000) 3 1 (o7.2.map c3))]⟩) ?_ ?_
 ·clear h
  refine zG (V_loop (fun n s => ∃ (k3 : Int) (i4 : Int) (l5 : List Int), s.keep (mb 19 35) [80000] = (⟨.ow 80000 :: I k3 :: bt 3 (I i4 :: bt 13 []), [(80000, .parr (σ 80000) 3 1 (l5.map c3))]⟩ : St) ∧ r_laws_markIntS_L6 n k3 i4 l5 = some o7) FU ⟨_, _, _,  kk, hLo7⟩ ?_)
  clear hLo7
  rintro n s ⟨k3, i4, l5, hs, h⟩
  refine zV _ _ hs ?_
  clear hs
  cases n with
  | zero => cases h
  | succ n =>
   rw [r_laws_markIntS_L6] at h
   refine zF ?_
   refine VS ?_
   refine YR 2 ?_
   refine L0 rfl rfl (Y0_lenM (c := c3) (xs := l5) Tryz.underlying24 rfl kk) ?_
   refine YF ?_
   refine VC h (fun h => ?_) (fun h => ?_)
   ·refine zK ?_
    show V _ _ _ _
    refine zF ?_
    refine zG ?_
    obtain ⟨e9, he9, h⟩ := zA h
    obtain ⟨e10, he10, h⟩ := zA h
    refine VS ?_
    refine YR 3 ?_
    refine L0 rfl rfl (Y0_idxoM (c := c3) (xs := l5) (v := e9) (id := 80000) (T := 3) (sz := 1) (n := i4) Tryz.underlying24 sz3 rfl kk kk kk he9) ?_
    refine XL_cons rfl (X_storeopM (l := σ 80000) (c := c3) (xs := l5) (v := e10) (u := k3) (id := 80000) (sz := 1) (off := 0) (T0 := 3) (n := i4) (vc := [Ti k3]) rfl rfl kk kk he10 kk sz3 (Nat.le_of_ble_eq_true rfl) kk) ?_
    refine YF ?_
    obtain ⟨k11, hk11, h⟩ := zU h
    refine V_reg (mb 19 35) [80000] (s1 := ⟨.ow 80000 :: I k11 :: bt 3 (I i4 :: bt 13 []), [(80000, .parr (σ 80000) 3 1 ((l5.set (Int.toNat (i4)) k3).map c3))]⟩) ?_ ?_
    ·refine XR 3 ?_
     refine zD ?_
     subst hk11
     kernel_rfl
    show V _ _ _ _
    obtain ⟨i12, hi12, h⟩ := zU h
    refine V_reg (mb 19 35) [80000] (s1 := ⟨.ow 80000 :: I k11 :: bt 3 (I i12 :: bt 13 []), [(80000, .parr (σ 80000) 3 1 ((l5.set (Int.toNat (i4)) k3).map c3))]⟩) ?_ ?_
    ·refine XR 3 ?_
     refine zD ?_
     subst hi12
     kernel_rfl
    exact ⟨n, Nat.lt_succ_self n, _, _, _,  kk, h⟩
   ·refine V_exit ?_
    obtain rfl := zB h
    show St.keep _ _ _ = _
    kernel_rfl
 show V _ _ _ _
 refine VE ?_
 refine zH ?_
 obtain rfl := zB h
 show PostR _ _ _ _ _ _
 exact ⟨⟨.inr rfl, rfl, rfl, rfl⟩, ⟨rfl, trivial⟩⟩
theorem cf_laws_heldIntS : CfW Tryz.prog 17 := cfW Tryz.func17
theorem s_laws_heldIntS {a1 : List Int} {k2 : Int} {r : Int} (h : r_laws_heldIntS a1 k2 = some r) : zP Tryz.prog 17 [.c (.sl (a1.map c3)), I k2] (I r) [] := by
 refine CtW [4] Tryz.func17 rfl rfl 21 ?_
 unfold r_laws_heldIntS at h
 refine VE ?_
 refine zF ?_
 refine VE ?_
 obtain ⟨qo6, hLo6, hko6⟩ := zA h
 refine V_toS (q := qo6) (S := fun o6 => ⟨.bot :: I o6 :: bt 19 [], []⟩) (mb 21 2) [] ?_ ?_
 ·refine zG (V_loop (fun n s => ∃ (k3 : Int) (i4 : Int), s.keep (mb 21 35) [] = (⟨.c (.sl (a1.map c3)) :: I k3 :: bt 3 (I i4 :: bt 15 []), []⟩ : St) ∧ r_laws_heldIntS_L5 a1 n k3 i4 = some qo6) FU ⟨_, _,  kk, hLo6⟩ ?_)
  clear hLo6
  rintro n s ⟨k3, i4, hs, h⟩
  refine zV _ _ hs ?_
  clear hs
  cases n with
  | zero => cases h
  | succ n =>
   rw [r_laws_heldIntS_L5] at h
   refine zF ?_
   refine VS ?_
   refine YR 2 ?_
   refine L0 rfl rfl (Y0_lenM (c := c3) (xs := a1) Tryz.underlying24 rfl kk) ?_
   refine YF ?_
   refine VC h (fun h => ?_) (fun h => ?_)
   ·refine zK ?_
    show V _ _ _ _
    refine zF ?_
    refine zG ?_
    refine zF ?_
    obtain ⟨e8, he8, h⟩ := zA h
    refine VS ?_
    refine YR 2 ?_
    refine L0 rfl rfl (zM (c := c3) (xs := a1) (v := e8) (n := i4) Tryz.underlying24 sz3 rfl kk kk he8) ?_
    refine YF ?_
    refine VC h (fun h => ?_) (fun h => ?_)
    ·refine VE ?_
     refine zH ?_
     obtain rfl := zB h
     have h := hko6
     obtain rfl := zB h
     exact VT
    ·refine zK ?_
     show V _ _ _ _
     obtain ⟨k10, hk10, h⟩ := zU h
     refine V_reg (mb 21 35) [] (s1 := ⟨.c (.sl (a1.map c3)) :: I k10 :: bt 3 (I i4 :: bt 15 []), []⟩) ?_ ?_
     ·refine XR 3 ?_
      refine zD ?_
      subst hk10
      kernel_rfl
     show V _ _ _ _
     obtain ⟨i11, hi11, h⟩ := zU h
     refine V_reg (mb 21 35) [] (s1 := ⟨.c (.sl (a1.map c3)) :: I k10 :: bt 3 (I i11 :: bt 15 []), []⟩) ?_ ?_
     ·refine XR 3 ?_
      refine zD ?_
      subst hi11
      kernel_rfl
     exact ⟨n, Nat.lt_succ_self n, _, _,  kk, h⟩
   ·refine V_exit ?_
    obtain rfl := zB h
    exact ⟨_, rfl, kk⟩
 rintro o6 rfl
 have h := hko6
 clear hko6
 show V _ _ _ _
 refine VE ?_
 cases h
 exact zH VT
theorem s_laws_FnExactCheckBundle {aS1 : ByteArray} {r : Bool} (h : r_laws_FnExactCheckBundle aS1 = some r) : zP Tryz.prog 4 [.c (.v (.string aS1))] (Bo r) [] := by
 refine CtW [2] Tryz.func4 rfl rfl 66 ?_
 unfold r_laws_FnExactCheckBundle at h
 refine VE ?_
 refine zF ?_
 refine VS ?_
 refine YF ?_
 refine VC h (fun h => ?_) (fun h => ?_)
 ·refine VE ?_
  cases h
  exact zH VT
 ·refine zK ?_
  show V _ _ _ _
  obtain ⟨y3, hy3, h⟩ := zA h
  refine VS ?_
  refine YK 1 (s_spec_CheckBundle hy3) cf_spec_CheckBundle ?_
  refine YF ?_
  obtain ⟨y4, hy4, h⟩ := zA h
  refine VS ?_
  refine YK 1 (s_impl_CheckBundle hy4) cf_impl_CheckBundle ?_
  refine YF ?_
  refine zF ?_
  obtain ⟨y5, hy5, h⟩ := zA h
  refine zO (mb 66 4294967353) [168, 128] (s1 := ⟨.c (.v (.string aS1)) :: .bot :: .bot :: .ow 128 :: Bo y3.2 :: .ow 168 :: bt 26 (Bo (bif (!y5) then true else (y4.2 != y3.2)) :: bt 33 []), [(168, .arr 3 1 (y4.1.map c3)), (128, .arr 3 1 (y3.1.map c3))]⟩) ?_ ?_
  ·refine YR 2 ?_
   refine L1 rfl rfl (Y1_callS (s_laws_eqIntS hy5) cf_laws_eqIntS rfl kk rfl rfl) ?_
   refine YR 2 ?_
   refine zJ (!y5) (fun hc6 => ?_) (fun hc6 => ?_)
   ·refine YQ hc6 ?_
    exact YE (by rw [hc6]; kernel_rfl)
   ·refine YQ hc6 ?_
    exact YE (by rw [hc6]; kernel_rfl)
  refine VC h (fun h => ?_) (fun h => ?_)
  ·refine VE ?_
   cases h
   exact zH VT
  ·refine zK ?_
   show V _ _ _ _
   refine VE ?_
   obtain ⟨y8, hy8, h⟩ := zA h
   refine VS ?_
   refine YR 2 ?_
   refine XL_cons rfl (X_callR (E' := [(168, .arr 3 1 (y8.2.map c3)), (128, .arr 3 1 (y3.1.map c3))]) [(80000, 168)] 35 (s_laws_markIntS hy8) cf_laws_markIntS rfl rfl kk rfl (mE_cons kk mE_nil) rfl kk rfl rfl kk) ?_
   refine YF ?_
   refine VE ?_
   obtain ⟨y9, hy9, h⟩ := zA h
   refine VS ?_
   refine YR 2 ?_
   refine L1 rfl rfl (Y1_callS (s_laws_heldIntS hy9) cf_laws_heldIntS rfl kk rfl rfl) ?_
   refine YF ?_
   refine zF ?_
   refine VE ?_
   refine VC h (fun h => ?_) (fun h => ?_)
   ·refine VE ?_
    cases h
    exact zH VT
   ·refine zK ?_
    show V _ _ _ _
    refine zF ?_
    refine VE ?_
    refine VC h (fun h => ?_) (fun h => ?_)
    ·refine VE ?_
     cases h
     exact zH VT
    ·refine zK ?_
     show V _ _ _ _
     obtain ⟨y12, hy12, h⟩ := zA h
     refine VS ?_
     refine YK 1 (s_impl_CheckBundle hy12) cf_impl_CheckBundle ?_
     refine YF ?_
     refine zF ?_
     obtain ⟨y13, hy13, h⟩ := zA h
     refine zO (mb 66 144115188075856032) [168] (s1 := ⟨bt 5 (.ow 168 :: .bot :: I y8.1 :: bt 49 (Bo (bif (!y13) then true else (y12.2 != y3.2)) :: bt 8 [])), [(168, .arr 3 1 (y8.2.map c3))]⟩) ?_ ?_
     ·refine YR 2 ?_
      refine L1 rfl rfl (Y1_callS (s_laws_eqIntS hy13) cf_laws_eqIntS rfl kk rfl rfl) ?_
      refine YR 2 ?_
      refine zJ (!y13) (fun hc14 => ?_) (fun hc14 => ?_)
      ·refine YQ hc14 ?_
       exact YE (by rw [hc14]; kernel_rfl)
      ·refine YQ hc14 ?_
       exact YE (by rw [hc14]; kernel_rfl)
     refine VC h (fun h => ?_) (fun h => ?_)
     ·refine VE ?_
      cases h
      exact zH VT
     ·refine zK ?_
      show V _ _ _ _
      refine VE ?_
      obtain ⟨y16, hy16, h⟩ := zA h
      refine VS ?_
      refine YR 2 ?_
      refine L1 rfl rfl (Y1_callS (s_laws_heldIntS hy16) cf_laws_heldIntS rfl kk rfl rfl) ?_
      refine YF ?_
      refine zF ?_
      refine VE ?_
      refine VC h (fun h => ?_) (fun h => ?_)
      ·refine VE ?_
       cases h
       exact zH VT
      ·refine zK ?_
       show V _ _ _ _
       refine zF ?_
       refine VE ?_
       refine VC h (fun h => ?_) (fun h => ?_)
       ·refine VE ?_
        cases h
        exact zH VT
       ·refine zK ?_
        show V _ _ _ _
        refine VE ?_
        cases h
        exact zH VT
end Go.Proofs.YtfmjfofocklgpaaGreatDoor
