/-
  Rules of walks, plain functions and their laws, part 5.
  Conditions: none.
-/
import Derived.Test.YtfmjfofocklgpaaGreatDoorApz4
namespace Go.Proofs.YtfmjfofocklgpaaGreatDoor
open Go.RowKit
set_option linter.unusedVariables false
set_option linter.unusedSimpArgs false
set_option maxRecDepth 100000
set_option maxHeartbeats 400000
theorem cf_spec_reReduce : ∀ args w, (callFunc 183 args).run Tryz.prog w = .ok (.enter 183 args) w := zI Tryz.func183 kk kk
theorem s_spec_reReduce {f1 : (Int × Int × Int)} {r : (((Int × Int × Int)) × ((Int × Int × Int × Int)))} (h : r_spec_reReduce f1 = some r) : z7 Tryz.prog 183 [.ag [Ti f1.1, Ti f1.2.1, Ti f1.2.2]] (.tc (.ag [Ti r.1.1, Ti r.1.2.1, Ti r.1.2.2]) (.tc (.ag [Ti r.2.1, Ti r.2.2.1, Ti r.2.2.2.1, Ti r.2.2.2.2]) .tn)) [] := by
  refine zH (rs := [.w 2 3, .w 3 4]) (vs := [.cell 2 38, .cell 3 109]) Tryz.func183 rfl rfl (.cons ⟨rfl, wd38⟩ (.cons ⟨rfl, wd109⟩ FitsL.nil)) (by decide) 20 rfl ?_
  unfold r_spec_reReduce at h
  show V _ _ ⟨.ag [Ti f1.1, Ti f1.2.1, Ti f1.2.2] :: bt 19 [], []⟩ _
  refine V_e (mb 20 14) [24, 16, 8] (s1 := ⟨.bot :: .pt 8 0 :: .pt 16 0 :: .pt 24 0 :: bt 16 [], [(24, .box [Ti 0, Ti 0, Ti 0, Ti 0]), (16, .box [Ti 0, Ti 0, Ti 0]), (8, .box [Ti f1.1, Ti f1.2.1, Ti f1.2.2])]⟩) ?_
  refine zG (mb 20 30) [32, 24, 16, 8] (s1 := ⟨.bot :: .pt 8 0 :: .pt 16 0 :: .pt 24 0 :: .pt 32 0 :: bt 15 [], [(32, .box [Ti 1, Ti 0, Ti 0, Ti 1]), (24, .box [Ti 0, Ti 0, Ti 0, Ti 0]), (16, .box [Ti 0, Ti 0, Ti 0]), (8, .box [Ti f1.1, Ti f1.2.1, Ti f1.2.2])]⟩) ?_ ?_
  ·refine L0 rfl rfl (qE (cs := [Ti 1, Ti 0, Ti 0, Ti 1]) pl109 bt109 rfl rfl kk) ?_
   exact XE
  refine zX ?_
  obtain ⟨o10, hLo10, h⟩ := zD h
  refine V_toK (mb 20 30) [32, 24, 16, 8] (s1 := ⟨.bot :: .pt 8 0 :: .pt 16 0 :: .pt 24 0 :: .pt 32 0 :: bt 15 [], [(32, .box [Ti o10.1, Ti o10.2.1, Ti o10.2.2.1, Ti o10.2.2.2.1]), (24, .box [Ti 0, Ti 0, Ti 0, Ti 0]), (16, .box [Ti 0, Ti 0, Ti 0]), (8, .box [Ti o10.2.2.2.2.1, Ti o10.2.2.2.2.2.1, Ti o10.2.2.2.2.2.2])]⟩) ?_ ?_
  ·clear h
   refine zZ (V_loop (fun n s => ∃ (f2 : Int) (f3 : Int) (f4 : Int) (f5 : Int) (f6 : Int) (f7 : Int) (f8 : Int), s.keep (mb 20 30) [32, 24, 16, 8] = (⟨.bot :: .pt 8 0 :: .pt 16 0 :: .pt 24 0 :: .pt 32 0 :: bt 15 [], [(32, .box [Ti f2, Ti f3, Ti f4, Ti f5]), (24, .box [Ti 0, Ti 0, Ti 0, Ti 0]), (16, .box [Ti 0, Ti 0, Ti 0]), (8, .box [Ti f6, Ti f7, Ti f8])]⟩ : St) ∧ r_spec_reReduce_L9 n f2 f3 f4 f5 f6 f7 f8 = some o10) FU ⟨_, _, _, _, _, _, _,  by rfl, hLo10⟩ ?_)
   clear hLo10
   rintro n s ⟨f2, f3, f4, f5, f6, f7, f8, hs, h⟩
   refine V_keep _ _ hs ?_
   clear hs
   cases n with
   | zero => cases h
   | succ n =>
    rw [r_spec_reReduce_L9] at h
    refine zX ?_
    obtain ⟨y11, hy11, h⟩ := zD h
    refine zG (mb 20 542) [32, 24, 16, 8] (s1 := ⟨.bot :: .pt 8 0 :: .pt 16 0 :: .pt 24 0 :: .pt 32 0 :: bt 4 (Bo (!y11) :: bt 10 []), [(32, .box [Ti f2, Ti f3, Ti f4, Ti f5]), (24, .box [Ti 0, Ti 0, Ti 0, Ti 0]), (16, .box [Ti 0, Ti 0, Ti 0]), (8, .box [Ti f6, Ti f7, Ti f8])]⟩) ?_ ?_
    ·refine XR 1 ?_
     refine XC (s_spec_reIs hy11) cf_spec_reIs rfl rfl rfl ?_
     exact XE
    refine zQ rfl (fun hc12 => ?_) (fun hc12 => ?_)
    ·have h := zM h hc12
     refine zV ?_
     show V _ _ _ _
     refine zZ ?_
     obtain ⟨y13, hy13, h⟩ := zD h
     refine zG (mb 20 62) [40, 32, 24, 16, 8] (s1 := ⟨.bot :: .pt 8 0 :: .pt 16 0 :: .pt 24 0 :: .pt 32 0 :: .pt 40 0 :: bt 14 [], [(40, .box [Ti y13.1, Ti y13.2.1, Ti y13.2.2.1, Ti y13.2.2.2]), (32, .box [Ti f2, Ti f3, Ti f4, Ti f5]), (24, .box [Ti 0, Ti 0, Ti 0, Ti 0]), (16, .box [Ti 0, Ti 0, Ti 0]), (8, .box [Ti f6, Ti f7, Ti f8])]⟩) ?_ ?_
     ·refine XR 1 ?_
      refine XC (s_spec_reMove hy13) cf_spec_reMove rfl rfl rfl ?_
      exact XE
     obtain ⟨y14, hy14, h⟩ := zD h
     obtain ⟨y15, hy15, h⟩ := zD h
     refine V_dreg [0, 0, 3, 0, 0, 31, 63, 127] 6 (cdm 6 [648, 642, 645, 554, 170, 341]) (mb 20 30) [32, 24, 16, 8] (s1 := ⟨.bot :: .pt 8 0 :: .pt 16 0 :: .pt 24 0 :: .pt 32 0 :: bt 15 [], [(32, .box [Ti y15.1, Ti y15.2.1, Ti y15.2.2.1, Ti y15.2.2.2]), (24, .box [Ti 0, Ti 0, Ti 0, Ti 0]), (16, .box [Ti 0, Ti 0, Ti 0]), (8, .box [Ti y14.1, Ti y14.2.1, Ti y14.2.2])]⟩) kk kk ?_ ?_
     ·refine DR 2 ?_
      refine DC 2 (s_spec_foAct hy14) cf_spec_foAct rfl rfl rfl rfl 14 rfl ?_
      refine DR 2 ?_
      refine DC 5 (s_spec_foMul hy15) cf_spec_foMul rfl rfl rfl rfl 17 rfl ?_
      refine DA 0 ?_
      exact XE
     exact ⟨n, Nat.lt_succ_self n, _, _, _, _, _, _, _,  by rfl, h⟩
    ·have h := zK h hc12
     refine V_exit ?_
     obtain rfl := zE h
     show St.keep _ _ _ = _
     rfl
  show V _ _ _ _
  refine V_sdreg [0, 0, 1, 7] 3 [[.z, .b, .z], [.b, .z, .r 16], [.a, .b, .z]] (mb 20 12) [24, 16] (s1 := ⟨.bot :: .bot :: .pt 16 0 :: .pt 24 0 :: bt 16 [], [(24, .box [Ti o10.1, Ti o10.2.1, Ti o10.2.2.1, Ti o10.2.2.2.1]), (16, .box [Ti o10.2.2.2.2.1, Ti o10.2.2.2.2.2.1, Ti o10.2.2.2.2.2.2])]⟩) kk kk ?_ ?_
  ·refine DA 3 ?_
   exact XE
  refine zR ?_
  obtain rfl := zE h
  show Post _ _ _ _ _
  exact ⟨.inr rfl, rfl, rfl, rfl⟩
theorem cf_spec_reClass : ∀ args w, (callFunc 97 args).run Tryz.prog w = .ok (.enter 97 args) w := zI Tryz.func97 kk kk
theorem s_spec_reClass {f1 : (Int × Int × Int)} {r : (Int × Int × Int)} (h : r_spec_reClass f1 = some r) : z7 Tryz.prog 97 [.ag [Ti f1.1, Ti f1.2.1, Ti f1.2.2]] (.ag [Ti r.1, Ti r.2.1, Ti r.2.2]) [] := by
  refine zH (rs := [.w 2 3]) (vs := [.cell 2 38]) Tryz.func97 rfl rfl (.cons ⟨rfl, wd38⟩ FitsL.nil) (by decide) 11 rfl ?_
  unfold r_spec_reClass at h
  show V _ _ ⟨.ag [Ti f1.1, Ti f1.2.1, Ti f1.2.2] :: bt 10 [], []⟩ _
  refine V_e (mb 11 6) [16, 8] (s1 := ⟨.bot :: .pt 8 0 :: .pt 16 0 :: bt 8 [], [(16, .box [Ti 0, Ti 0, Ti 0]), (8, .box [Ti f1.1, Ti f1.2.1, Ti f1.2.2])]⟩) ?_
  obtain ⟨y2, hy2, h⟩ := zD h
  refine zG (mb 11 12) [24, 16] (s1 := ⟨.bot :: .bot :: .pt 16 0 :: .pt 24 0 :: bt 7 [], [(24, .box [Ti y2.1.1, Ti y2.1.2.1, Ti y2.1.2.2]), (16, .box [Ti 0, Ti 0, Ti 0])]⟩) ?_ ?_
  ·refine XR 1 ?_
   refine XC (s_spec_reReduce hy2) cf_spec_reReduce rfl rfl rfl ?_
   exact XE
  refine V_e (mb 11 4) [16] (s1 := ⟨.bot :: .bot :: .pt 16 0 :: bt 8 [], [(16, .box [Ti y2.1.1, Ti y2.1.2.1, Ti y2.1.2.2])]⟩) ?_
  refine zR ?_
  obtain rfl := zE h
  show Post _ _ _ _ _
  exact ⟨.inr rfl, rfl, rfl, rfl⟩
theorem cf_spec_lgPut : ∀ args w, (callFunc 98 args).run Tryz.prog w = .ok (.enter 98 args) w := zI Tryz.func98 kk kk
theorem s_spec_lgPut {l1 : List ((ByteArray × ((Int × Int × Int))))} {e2 : (ByteArray × ((Int × Int × Int)))} {r : List ((ByteArray × ((Int × Int × Int))))} (h : r_spec_lgPut l1 e2 = some r) : z7 Tryz.prog 98 [.c (.sl (l1.map c73)), .ag [.v (.string e2.1), Ti e2.2.1, Ti e2.2.2.1, Ti e2.2.2.2]] (.ow 0) [(0, .arr 73 4 (r.map c73))] := by
  refine zH (rs := [.t 4]) (vs := [.tmp 4]) Tryz.func98 rfl rfl (.cons rfl FitsL.nil) (by decide) 37 rfl ?_
  unfold r_spec_lgPut at h
  show V _ _ ⟨.c (.sl (l1.map c73)) :: .ag [.v (.string e2.1), Ti e2.2.1, Ti e2.2.2.1, Ti e2.2.2.2] :: bt 35 [], []⟩ _
  refine zG (mb 37 9) [24] (s1 := ⟨.c (.sl (l1.map c73)) :: .bot :: .bot :: .pt 24 0 :: bt 33 [], [(24, .box [.v (.string e2.1), Ti e2.2.1, Ti e2.2.2.1, Ti e2.2.2.2])]⟩) ?_ ?_
  ·refine XR 1 ?_
   refine L1 rfl rfl (Y1_nil (e := 73) 4 (by decide) (.inl rfl)) ?_
   exact XE
  refine V_e (mb 37 41) [24] (s1 := ⟨.c (.sl (l1.map c73)) :: .bot :: .bot :: .pt 24 0 :: .bot :: I 0 :: bt 31 [], [(24, .box [.v (.string e2.1), Ti e2.2.1, Ti e2.2.2.1, Ti e2.2.2.2])]⟩) ?_
  refine zX ?_
  obtain ⟨o5, hLo5, h⟩ := zD h
  refine V_toK (mb 37 41) [24] (s1 := ⟨.c (.sl (l1.map c73)) :: .bot :: .bot :: .pt 24 0 :: .bot :: I o5 :: bt 31 [], [(24, .box [.v (.string e2.1), Ti e2.2.1, Ti e2.2.2.1, Ti e2.2.2.2])]⟩) ?_ ?_
  ·clear h
   refine zZ (V_loop (fun n s => ∃ (k3 : Int), s.keep (mb 37 41) [24] = (⟨.c (.sl (l1.map c73)) :: .bot :: .bot :: .pt 24 0 :: .bot :: I k3 :: bt 31 [], [(24, .box [.v (.string e2.1), Ti e2.2.1, Ti e2.2.2.1, Ti e2.2.2.2])]⟩ : St) ∧ r_spec_lgPut_L4 e2 l1 n k3 = some o5) FU ⟨_,  by rfl, hLo5⟩ ?_)
   clear hLo5
   rintro n s ⟨k3, hs, h⟩
   refine V_keep _ _ hs ?_
   clear hs
   cases n with
   | zero => cases h
   | succ n =>
    rw [r_spec_lgPut_L4] at h
    refine zX ?_
    obtain ⟨b8, hb8, h⟩ := zD h
    refine V_sdreg [0, 0, 2, 7, 15, 31, 31, 127, 255, 511, 31, 1055, 4095, 8191] 14 (cdm 14 [40, 2, 6, 21, 85, 10494293, 10488149, 10491221, 10507605, 10573141, 698709, 1747285, 5592405, 22369621]) (mb 37 1048617) [24] (s1 := ⟨.c (.sl (l1.map c73)) :: .bot :: .bot :: .pt 24 0 :: .bot :: I k3 :: bt 14 (Bo b8 :: bt 16 []), [(24, .box [.v (.string e2.1), Ti e2.2.1, Ti e2.2.2.1, Ti e2.2.2.2])]⟩) kk kk ?_ ?_
    ·refine DR 2 ?_
     refine DE_0 2 (I ((l1.length : Int))) kk rfl rfl rfl (zO rfl) kk (Y0_lenM (c := c73) (xs := l1) Tryz.underlying43 rfl kk) 9 rfl ?_
     refine DR 2 ?_
     refine DL_split (ltI k3 ((l1.length : Int))) (fun hc6 => ?_) (fun hc6 => ?_)
     ·have hb8 := zM hb8 hc6
      obtain ⟨e7, he7, hb8⟩ := zD hb8
      have hb8 := zE hb8
      refine DE_0 5 (.c (.sl (l1.map c73))) kk rfl rfl rfl (gsat_C (ltI k3 ((l1.length : Int))) rfl rfl kk hc6) kk (zY (.c (.sl (l1.map c73))) rfl kk) 12 rfl ?_
      refine DE_0 6 (I k3) kk rfl rfl rfl (gsat_C (ltI k3 ((l1.length : Int))) rfl rfl kk hc6) kk (zY (I k3) rfl kk) 13 rfl ?_
      refine DE_0 7 (.pe [.v (.string e7.1), Ti e7.2.1, Ti e7.2.2.1, Ti e7.2.2.2]) kk rfl rfl rfl (gsat_C (ltI k3 ((l1.length : Int))) rfl rfl kk hc6) kk (Y0_idxM (c := c73) (xs := l1) (v := e7) (n := k3) Tryz.underlying43 sz73 rfl kk kk he7) 14 rfl ?_
      refine DE_0 8 (.pe [.v (.string e7.1), Ti e7.2.1, Ti e7.2.2.1, Ti e7.2.2.2]) kk rfl rfl rfl (gsat_C (ltI k3 ((l1.length : Int))) rfl rfl kk hc6) kk (qD (.pe [.v (.string e7.1), Ti e7.2.1, Ti e7.2.2.1, Ti e7.2.2.2]) Tryz.underlying73 rfl sz9 rfl kk (by intro hh; cases hh)) 15 rfl ?_
      refine DE_0 9 (.c (.v (.string e7.1))) kk rfl rfl rfl (gsat_C (ltI k3 ((l1.length : Int))) rfl rfl kk hc6) kk (qC (c := .v (.string e7.1)) (cs := [Ti e7.2.1, Ti e7.2.2.1, Ti e7.2.2.2]) sc9 rfl kk) 16 rfl ?_
      refine DE_0 10 (.pt 24 0) kk rfl rfl rfl (gsat_C (ltI k3 ((l1.length : Int))) rfl rfl kk hc6) kk (qD (.pt 24 0) Tryz.underlying73 rfl sz9 rfl kk (by intro hh; cases hh)) 17 rfl ?_
      refine DE_0 11 (.c (.v (.string e2.1))) kk rfl rfl rfl (gsat_C (ltI k3 ((l1.length : Int))) rfl rfl kk hc6) kk (qC (c := .v (.string e2.1)) (cs := [Ti e2.2.1, Ti e2.2.2.1, Ti e2.2.2.2]) sc9 rfl kk) 18 rfl ?_
      refine DE_0 12 (Bo (Op.bytesLess e7.1.toList e2.1.toList)) kk rfl rfl rfl (gsat_C (ltI k3 ((l1.length : Int))) rfl rfl kk hc6) kk (Y0_lts (a := e7.1) (b := e2.1) rfl kk kk) 19 rfl ?_
      refine DE_0 13 (Bo (b8)) kk rfl rfl rfl (zO rfl) kk (Y0_pickTe (b := ltI k3 ((l1.length : Int))) (p := Op.bytesLess e7.1.toList e2.1.toList) rfl kk hc6 kk hb8) 20 rfl ?_
      refine DA 0 ?_
      exact XE
     ·have hb8 := zE (zK hb8 hc6)
      refine DE_t 5 kk rfl rfl rfl (gun_T (ltI k3 ((l1.length : Int))) rfl rfl kk hc6) 12 rfl ?_
      refine DE_t 6 kk rfl rfl rfl (gun_T (ltI k3 ((l1.length : Int))) rfl rfl kk hc6) 13 rfl ?_
      refine DE_t 7 kk rfl rfl rfl (gun_T (ltI k3 ((l1.length : Int))) rfl rfl kk hc6) 14 rfl ?_
      refine DE_t 8 kk rfl rfl rfl (gun_T (ltI k3 ((l1.length : Int))) rfl rfl kk hc6) 15 rfl ?_
      refine DE_t 9 kk rfl rfl rfl (gun_T (ltI k3 ((l1.length : Int))) rfl rfl kk hc6) 16 rfl ?_
      refine DE_t 10 kk rfl rfl rfl (gun_T (ltI k3 ((l1.length : Int))) rfl rfl kk hc6) 17 rfl ?_
      refine DE_t 11 kk rfl rfl rfl (gun_T (ltI k3 ((l1.length : Int))) rfl rfl kk hc6) 18 rfl ?_
      refine DE_t 12 kk rfl rfl rfl (gun_T (ltI k3 ((l1.length : Int))) rfl rfl kk hc6) 19 rfl ?_
      refine DE_0 13 (Bo (b8)) kk rfl rfl rfl (zO rfl) kk (Y0_pickFe (b := ltI k3 ((l1.length : Int))) (p := false) rfl kk hc6 kk hb8) 20 rfl ?_
      refine DA 0 ?_
      exact XE
    refine zQ rfl (fun hc9 => ?_) (fun hc9 => ?_)
    ·have h := zM h hc9
     refine zV ?_
     show V _ _ _ _
     refine zZ ?_
     obtain ⟨k10, hk10, h⟩ := qF h
     refine V_reg (mb 37 41) [24] (s1 := ⟨.c (.sl (l1.map c73)) :: .bot :: .bot :: .pt 24 0 :: .bot :: I k10 :: bt 31 [], [(24, .box [.v (.string e2.1), Ti e2.2.1, Ti e2.2.2.1, Ti e2.2.2.2])]⟩) ?_ ?_
     ·refine XR 3 ?_
      refine zN ?_
      subst hk10
      kernel_rfl
     exact ⟨n, Nat.lt_succ_self n, _,  by rfl, h⟩
    ·have h := zK h hc9
     refine V_exit ?_
     obtain rfl := zE h
     show St.keep _ _ _ = _
     rfl
  show V _ _ _ _
  obtain ⟨u11, hu11, h⟩ := zD h
  obtain ⟨u12, hu12, h⟩ := zD h
  obtain ⟨l13, hl13, h⟩ := zD h
  have hl13 := zE hl13
  refine zG (mb 37 105) [184, 24] (s1 := ⟨.c (.sl (l1.map c73)) :: .bot :: .bot :: .pt 24 0 :: .bot :: I o5 :: .ow 184 :: bt 30 [], [(184, .arr 73 4 (l13.map c73)), (24, .box [.v (.string e2.1), Ti e2.2.1, Ti e2.2.2.1, Ti e2.2.2.2])]⟩) ?_ ?_
  ·refine L1 rfl rfl (Y1_bslice0 Tryz.underlying43 sz73 (by decide) rfl rfl) ?_
   refine XR 2 ?_
   refine L0 rfl rfl (Y0_slice (c := c73) (xs := l1) (l := 0) (h := o5) Tryz.underlying43 sz73 (fun _ => rfl) rfl kk (fun y hy => by cases hy) (fun _ => rfl) (fun y hy => by cases hy; exact ⟨.i64, kk⟩) (fun hh => by cases hh) (slc_some hu11)) ?_
   refine zJ rfl (X_appendA (c := c73) (xs := ([] : List ((ByteArray × ((Int × Int × Int)))))) (ys := subl l1 0 o5) (id := 184) (z := zv73) rfl rfl Tryz.underlying43 izb73 rfl kk kk kk (fun _ => rfl) (room_some hu12) (by decide)) ?_
   refine XR 1 ?_
   refine zN ?_
   subst hl13
   kernel_rfl
  obtain ⟨u14, hu14, h⟩ := zD h
  refine zG (mb 37 97) [184] (s1 := ⟨.c (.sl (l1.map c73)) :: bt 4 (I o5 :: .ow 184 :: bt 30 []), [(184, .arr 73 4 ((l13 ++ ([e2])).map c73))]⟩) ?_ ?_
  ·refine XR 2 ?_
   refine L1 rfl rfl (Y1_bslice (z := zv73) (els := [e2].map c73) Tryz.underlying43 iz73 rfl (by decide) rfl kk rfl (by simp [c73]) (by decide) (by decide)) ?_
   refine zJ rfl (X_appendM (c := c73) (xs := l13) (ys := [e2]) (id := 184) (z := zv73) rfl rfl Tryz.underlying43 izb73 rfl kk kk kk (fun _ => rfl) (by simp) (room_some hu14) (by decide)) ?_
   exact XE
  obtain ⟨u15, hu15, h⟩ := zD h
  obtain ⟨u16, hu16, h⟩ := zD h
  refine zG (mb 37 16) [184] (s1 := ⟨bt 4 (.ow 184 :: bt 32 []), [(184, .arr 73 4 (((l13 ++ ([e2])) ++ (subl l1 o5 ((l1.length : Int)))).map c73))]⟩) ?_ ?_
  ·refine XR 3 ?_
   refine L0 rfl rfl (Y0_slice (c := c73) (xs := l1) (l := o5) (h := (l1.length : Int)) Tryz.underlying43 sz73 (fun _ => rfl) rfl kk (fun y hy => by cases hy; exact ⟨.i64, kk⟩) (fun hh => by cases hh) (fun y hy => by cases hy) (fun _ => rfl) (slc_some hu15)) ?_
   refine zJ rfl (X_appendA (c := c73) (xs := l13 ++ ([e2])) (ys := subl l1 o5 ((l1.length : Int))) (id := 184) (z := zv73) rfl rfl Tryz.underlying43 izb73 rfl kk kk kk (fun _ => rfl) (room_some hu16) (by decide)) ?_
   exact XE
  refine zR ?_
  obtain rfl := zE h
  show Post _ _ _ _ _
  exact ⟨.inr rfl, rfl, rfl, rfl⟩
theorem cf_spec_coPoint : ∀ args w, (callFunc 238 args).run Tryz.prog w = .ok (.enter 238 args) w := zI Tryz.func238 kk kk
theorem s_spec_coPoint {g1 : (Int × Int × Int)} {a2 : Int} {r : (Int × Int)} (h : r_spec_coPoint g1 a2 = some r) : z7 Tryz.prog 238 [.ag [Ti g1.1, Ti g1.2.1, Ti g1.2.2], I a2] (.tc (I r.1) (.tc (I r.2) .tn)) [] := by
  refine zH (rs := [.t 4, .t 5]) (vs := [.tmp 4, .tmp 5]) Tryz.func238 rfl rfl (.cons rfl (.cons rfl FitsL.nil)) (by decide) 45 rfl ?_
  unfold r_spec_coPoint at h
  show V _ _ ⟨.ag [Ti g1.1, Ti g1.2.1, Ti g1.2.2] :: I a2 :: bt 43 [], []⟩ _
  refine V_e (mb 45 6) [16] (s1 := ⟨.bot :: I a2 :: .pt 16 0 :: bt 42 [], [(16, .box [Ti g1.1, Ti g1.2.1, Ti g1.2.2])]⟩) ?_
  refine zX ?_
  refine V_e (mb 45 70) [16] (s1 := ⟨.bot :: I a2 :: .pt 16 0 :: bt 3 (I 1 :: bt 38 []), [(16, .box [Ti g1.1, Ti g1.2.1, Ti g1.2.2])]⟩) ?_
  obtain ⟨qo5, hLo5, hko5⟩ := zD h
  refine V_toS (q := qo5) (S := fun o5 => ⟨bt 45 [], []⟩) (mb 45 0) [] ?_ ?_
  ·refine zZ (V_loop (fun n s => ∃ (k3 : Int), s.keep (mb 45 70) [16] = (⟨.bot :: I a2 :: .pt 16 0 :: bt 3 (I k3 :: bt 38 []), [(16, .box [Ti g1.1, Ti g1.2.1, Ti g1.2.2])]⟩ : St) ∧ r_spec_coPoint_L4 a2 g1 n k3 = some qo5) FU ⟨_,  by rfl, hLo5⟩ ?_)
   clear hLo5
   rintro n s ⟨k3, hs, h⟩
   refine V_keep _ _ hs ?_
   clear hs
   cases n with
   | zero => cases h
   | succ n =>
    rw [r_spec_coPoint_L4] at h
    refine zX ?_
    refine V_e (mb 45 1094) [16] (s1 := ⟨.bot :: I a2 :: .pt 16 0 :: bt 3 (I k3 :: bt 3 (Bo (leI k3 100) :: bt 34 [])), [(16, .box [Ti g1.1, Ti g1.2.1, Ti g1.2.2])]⟩) ?_
    refine zQ rfl (fun hc6 => ?_) (fun hc6 => ?_)
    ·have h := zM h hc6
     refine zV ?_
     show V _ _ _ _
     refine zX ?_
     refine zZ ?_
     refine V_e (mb 45 198) [16] (s1 := ⟨.bot :: I a2 :: .pt 16 0 :: bt 3 (I k3 :: I 0 :: bt 37 []), [(16, .box [Ti g1.1, Ti g1.2.1, Ti g1.2.2])]⟩) ?_
     obtain ⟨qo9, hLo9, hko9⟩ := zD h
     refine V_toS (q := qo9) (S := fun o9 => ⟨.bot :: I a2 :: .pt 16 0 :: bt 3 (I k3 :: bt 38 []), [(16, .box [Ti g1.1, Ti g1.2.1, Ti g1.2.2])]⟩) (mb 45 70) [16] ?_ ?_
     ·refine zZ (V_loop (fun n s => ∃ (x7 : Int), s.keep (mb 45 198) [16] = (⟨.bot :: I a2 :: .pt 16 0 :: bt 3 (I k3 :: I x7 :: bt 37 []), [(16, .box [Ti g1.1, Ti g1.2.1, Ti g1.2.2])]⟩ : St) ∧ r_spec_coPoint_L8 a2 g1 k3 n x7 = some qo9) FU ⟨_,  by rfl, hLo9⟩ ?_)
      clear hLo9
      rintro n s ⟨x7, hs, h⟩
      refine V_keep _ _ hs ?_
      clear hs
      cases n with
      | zero => cases h
      | succ n =>
       rw [r_spec_coPoint_L8] at h
       refine zX ?_
       refine V_e (mb 45 32966) [16] (s1 := ⟨.bot :: I a2 :: .pt 16 0 :: bt 3 (I k3 :: I x7 :: bt 7 (Bo (leI x7 k3) :: bt 29 [])), [(16, .box [Ti g1.1, Ti g1.2.1, Ti g1.2.2])]⟩) ?_
       refine zQ rfl (fun hc10 => ?_) (fun hc10 => ?_)
       ·have h := zM h hc10
        refine zV ?_
        show V _ _ _ _
        refine zX ?_
        refine zZ ?_
        refine V_e (mb 45 454) [16] (s1 := ⟨.bot :: I a2 :: .pt 16 0 :: bt 3 (I k3 :: I x7 :: I 0 :: bt 36 []), [(16, .box [Ti g1.1, Ti g1.2.1, Ti g1.2.2])]⟩) ?_
        obtain ⟨qo13, hLo13, hko13⟩ := zD h
        refine V_toS (q := qo13) (S := fun o13 => ⟨.bot :: I a2 :: .pt 16 0 :: bt 3 (I k3 :: I x7 :: bt 37 []), [(16, .box [Ti g1.1, Ti g1.2.1, Ti g1.2.2])]⟩) (mb 45 198) [16] ?_ ?_
        ·refine zZ (V_loop (fun n s => ∃ (y11 : Int), s.keep (mb 45 454) [16] = (⟨.bot :: I a2 :: .pt 16 0 :: bt 3 (I k3 :: I x7 :: I y11 :: bt 36 []), [(16, .box [Ti g1.1, Ti g1.2.1, Ti g1.2.2])]⟩ : St) ∧ r_spec_coPoint_L12 a2 g1 k3 x7 n y11 = some qo13) FU ⟨_,  by rfl, hLo13⟩ ?_)
         clear hLo13
         rintro n s ⟨y11, hs, h⟩
         refine V_keep _ _ hs ?_
         clear hs
         cases n with
         | zero => cases h
         | succ n =>
          rw [r_spec_coPoint_L12] at h
          refine zX ?_
          refine V_e (mb 45 1049030) [16] (s1 := ⟨.bot :: I a2 :: .pt 16 0 :: bt 3 (I k3 :: I x7 :: I y11 :: bt 11 (Bo (leI y11 k3) :: bt 24 [])), [(16, .box [Ti g1.1, Ti g1.2.1, Ti g1.2.2])]⟩) ?_
          refine zQ rfl (fun hc14 => ?_) (fun hc14 => ?_)
          ·have h := zM h hc14
           refine zV ?_
           show V _ _ _ _
           refine zX ?_
           refine zZ ?_
           obtain ⟨y15, hy15, h⟩ := zD h
           obtain ⟨b18, hb18, h⟩ := zD h
           obtain ⟨b22, hb22, h⟩ := zD h
           refine zG (mb 45 4398046511558) [16] (s1 := ⟨.bot :: I a2 :: .pt 16 0 :: bt 3 (I k3 :: I x7 :: I y11 :: bt 33 (Bo b22 :: .bot :: .bot :: [])), [(16, .box [Ti g1.1, Ti g1.2.1, Ti g1.2.2])]⟩) ?_ ?_
           ·refine XR 2 ?_
            refine XC (s_spec_l1Most hy15) cf_spec_l1Most rfl rfl rfl ?_
            refine XR 3 ?_
            refine zP (eqI y15 k3) (fun hc16 => ?_) (fun hc16 => ?_)
            ·have hb18 := zM hb18 hc16
             obtain ⟨y17, hy17, hb18⟩ := zD hb18
             have hb18 := zE hb18
             refine zB _ rfl rfl kk hc16 (zA rfl (zY (I x7) rfl kk)) ?_
             refine zB _ rfl rfl kk hc16 (zA rfl (zY (I y11) rfl kk)) ?_
             refine zB _ rfl rfl kk hc16 (X_of_Y1 rfl (Y1_call (s_spec_nuGcd hy17) cf_spec_nuGcd rfl kk)) ?_
             refine zB _ rfl rfl kk hc16 (zA rfl (Y0_eqw (k := .i64) (a := y17) (b := 1) rfl kk kk)) ?_
             refine zJ rfl (zA rfl (Y0_pickTe (b := eqI y15 k3) (p := eqI y17 1) rfl kk hc16 kk hb18)) ?_
             refine XR 1 ?_
             refine zP b18 (fun hc19 => ?_) (fun hc19 => ?_)
             ·have hb22 := zM hb22 hc19
              obtain ⟨y20, hy20, hb22⟩ := zD hb22
              obtain ⟨y21, hy21, hb22⟩ := zD hb22
              have hb22 := zE hb22
              refine zB _ rfl rfl kk hc19 (zA rfl (E_loadn (cs := [Ti g1.1, Ti g1.2.1, Ti g1.2.2]) [Ti g1.1, Ti g1.2.1, Ti g1.2.2] wd38 rfl kk (Nat.le_of_ble_eq_true rfl) kk)) ?_
              refine zB _ rfl rfl kk hc19 (zA rfl (zY (I x7) rfl kk)) ?_
              refine zB _ rfl rfl kk hc19 (zA rfl (zY (I y11) rfl kk)) ?_
              refine zB _ rfl rfl kk hc19 (X_of_Y1 rfl (Y1_call (s_spec_foValue hy20) cf_spec_foValue rfl kk)) ?_
              refine zB _ rfl rfl kk hc19 (zA rfl (zY (I a2) rfl kk)) ?_
              refine zB _ rfl rfl kk hc19 (X_of_Y1 rfl (Y1_call (s_spec_nuGcd hy21) cf_spec_nuGcd rfl kk)) ?_
              refine zB _ rfl rfl kk hc19 (zA rfl (Y0_eqw (k := .i64) (a := y21) (b := 1) rfl kk kk)) ?_
              refine zJ rfl (zA rfl (Y0_pickTe (b := b18) (p := eqI y21 1) rfl kk hc19 kk hb22)) ?_
              exact XE
             ·have hb22 := zE (zK hb22 hc19)
              refine zF _ rfl rfl kk hc19 rfl ?_
              refine zF _ rfl rfl kk hc19 rfl ?_
              refine zF _ rfl rfl kk hc19 rfl ?_
              refine zF _ rfl rfl kk hc19 rfl ?_
              refine zF _ rfl rfl kk hc19 rfl ?_
              refine zF _ rfl rfl kk hc19 rfl ?_
              refine zF _ rfl rfl kk hc19 rfl ?_
              refine zJ rfl (zA rfl (Y0_pickFe (b := b18) (p := false) rfl kk hc19 kk hb22)) ?_
              exact XE
            ·have hb18 := zE (zK hb18 hc16)
             refine zF _ rfl rfl kk hc16 rfl ?_
             refine zF _ rfl rfl kk hc16 rfl ?_
             refine zF _ rfl rfl kk hc16 rfl ?_
             refine zF _ rfl rfl kk hc16 rfl ?_
             refine zJ rfl (zA rfl (Y0_pickFe (b := eqI y15 k3) (p := false) rfl kk hc16 kk hb18)) ?_
             refine XR 1 ?_
             refine zP b18 (fun hc19 => ?_) (fun hc19 => ?_)
             ·have hb22 := zM hb22 hc19
              obtain ⟨y20, hy20, hb22⟩ := zD hb22
              obtain ⟨y21, hy21, hb22⟩ := zD hb22
              have hb22 := zE hb22
              refine zB _ rfl rfl kk hc19 (zA rfl (E_loadn (cs := [Ti g1.1, Ti g1.2.1, Ti g1.2.2]) [Ti g1.1, Ti g1.2.1, Ti g1.2.2] wd38 rfl kk (Nat.le_of_ble_eq_true rfl) kk)) ?_
              refine zB _ rfl rfl kk hc19 (zA rfl (zY (I x7) rfl kk)) ?_
              refine zB _ rfl rfl kk hc19 (zA rfl (zY (I y11) rfl kk)) ?_
              refine zB _ rfl rfl kk hc19 (X_of_Y1 rfl (Y1_call (s_spec_foValue hy20) cf_spec_foValue rfl kk)) ?_
              refine zB _ rfl rfl kk hc19 (zA rfl (zY (I a2) rfl kk)) ?_
              refine zB _ rfl rfl kk hc19 (X_of_Y1 rfl (Y1_call (s_spec_nuGcd hy21) cf_spec_nuGcd rfl kk)) ?_
              refine zB _ rfl rfl kk hc19 (zA rfl (Y0_eqw (k := .i64) (a := y21) (b := 1) rfl kk kk)) ?_
              refine zJ rfl (zA rfl (Y0_pickTe (b := b18) (p := eqI y21 1) rfl kk hc19 kk hb22)) ?_
              exact XE
             ·have hb22 := zE (zK hb22 hc19)
              refine zF _ rfl rfl kk hc19 rfl ?_
              refine zF _ rfl rfl kk hc19 rfl ?_
              refine zF _ rfl rfl kk hc19 rfl ?_
              refine zF _ rfl rfl kk hc19 rfl ?_
              refine zF _ rfl rfl kk hc19 rfl ?_
              refine zF _ rfl rfl kk hc19 rfl ?_
              refine zF _ rfl rfl kk hc19 rfl ?_
              refine zJ rfl (zA rfl (Y0_pickFe (b := b18) (p := false) rfl kk hc19 kk hb22)) ?_
              exact XE
           refine zQ rfl (fun hc23 => ?_) (fun hc23 => ?_)
           ·have h := zM h hc23
            refine V_e (mb 45 48) [] (s1 := ⟨bt 4 (I x7 :: I y11 :: bt 39 []), []⟩) ?_
            refine zR ?_
            obtain rfl := zE h
            have h := hko13
            obtain rfl := zE h
            have h := hko9
            obtain rfl := zE h
            have h := hko5
            obtain rfl := zE h
            show Post _ _ _ _ _
            exact ⟨.inr rfl, rfl, rfl, rfl⟩
           ·have h := zK h hc23
            refine zV ?_
            show V _ _ _ _
            obtain ⟨y24, hy24, h⟩ := qF h
            refine V_reg (mb 45 454) [16] (s1 := ⟨.bot :: I a2 :: .pt 16 0 :: bt 3 (I k3 :: I x7 :: I y24 :: bt 36 []), [(16, .box [Ti g1.1, Ti g1.2.1, Ti g1.2.2])]⟩) ?_ ?_
            ·refine XR 3 ?_
             refine zN ?_
             subst hy24
             kernel_rfl
            exact ⟨n, Nat.lt_succ_self n, _,  by rfl, h⟩
          ·have h := zK h hc14
           refine V_exit ?_
           obtain rfl := zE h
           exact ⟨_, rfl, by rfl⟩
        rintro o13 rfl
        have h := hko13
        clear hko13
        show V _ _ _ _
        obtain ⟨x25, hx25, h⟩ := qF h
        refine V_reg (mb 45 198) [16] (s1 := ⟨.bot :: I a2 :: .pt 16 0 :: bt 3 (I k3 :: I x25 :: bt 37 []), [(16, .box [Ti g1.1, Ti g1.2.1, Ti g1.2.2])]⟩) ?_ ?_
        ·refine XR 3 ?_
         refine zN ?_
         subst hx25
         kernel_rfl
        exact ⟨n, Nat.lt_succ_self n, _,  by rfl, h⟩
       ·have h := zK h hc10
        refine V_exit ?_
        obtain rfl := zE h
        exact ⟨_, rfl, by rfl⟩
     rintro o9 rfl
     have h := hko9
     clear hko9
     show V _ _ _ _
     obtain ⟨k26, hk26, h⟩ := qF h
     refine V_reg (mb 45 70) [16] (s1 := ⟨.bot :: I a2 :: .pt 16 0 :: bt 3 (I k26 :: bt 38 []), [(16, .box [Ti g1.1, Ti g1.2.1, Ti g1.2.2])]⟩) ?_ ?_
     ·refine XR 3 ?_
      refine zN ?_
      subst hk26
      kernel_rfl
     exact ⟨n, Nat.lt_succ_self n, _,  by rfl, h⟩
    ·have h := zK h hc6
     refine V_exit ?_
     obtain rfl := zE h
     exact ⟨_, rfl, by rfl⟩
  rintro o5 rfl
  have h := hko5
  clear hko5
  show V _ _ _ _
  refine V_e (mb 45 48) [] (s1 := ⟨bt 4 (I 1 :: I 0 :: bt 39 []), []⟩) ?_
  refine zR ?_
  obtain rfl := zE h
  show Post _ _ _ _ _
  exact ⟨.inr rfl, rfl, rfl, rfl⟩
theorem cf_spec_l1Sign : ∀ args w, (callFunc 299 args).run Tryz.prog w = .ok (.enter 299 args) w := zI Tryz.func299 kk kk
theorem s_spec_l1Sign {vn1 : Int} {r : Int} (h : r_spec_l1Sign vn1 = some r) : z7 Tryz.prog 299 [I vn1] (I r) [] := by
  refine zH (rs := [.t 2]) (vs := [.tmp 2]) Tryz.func299 rfl rfl (.cons rfl FitsL.nil) (by decide) 9 rfl ?_
  unfold r_spec_l1Sign at h
  show V _ _ ⟨I vn1 :: bt 8 [], []⟩ _
  refine V_e (mb 9 1) [] (s1 := ⟨I vn1 :: bt 8 [], []⟩) ?_
  refine zX ?_
  refine zZ ?_
  refine V_e (mb 9 9) [] (s1 := ⟨I vn1 :: .bot :: .bot :: Bo (ltI 0 vn1) :: bt 5 [], []⟩) ?_
  refine zQ rfl (fun hc2 => ?_) (fun hc2 => ?_)
  ·have h := zM h hc2
   refine V_e (mb 9 4) [] (s1 := ⟨.bot :: .bot :: I 1 :: bt 6 [], []⟩) ?_
   refine zR ?_
   obtain rfl := zE h
   show Post _ _ _ _ _
   exact ⟨.inr rfl, rfl, rfl, rfl⟩
  ·have h := zK h hc2
   refine V_e (mb 9 64) [] (s1 := ⟨bt 6 (Bo (ltI vn1 0) :: .bot :: .bot :: []), []⟩) ?_
   refine zQ rfl (fun hc3 => ?_) (fun hc3 => ?_)
   ·have h := zM h hc3
    refine V_e (mb 9 4) [] (s1 := ⟨.bot :: .bot :: I (-1) :: bt 6 [], []⟩) ?_
    refine zR ?_
    obtain rfl := zE h
    show Post _ _ _ _ _
    exact ⟨.inr rfl, rfl, rfl, rfl⟩
   ·have h := zK h hc3
    refine zV ?_
    show V _ _ _ _
    refine V_e (mb 9 4) [] (s1 := ⟨.bot :: .bot :: I 0 :: bt 6 [], []⟩) ?_
    refine zR ?_
    obtain rfl := zE h
    show Post _ _ _ _ _
    exact ⟨.inr rfl, rfl, rfl, rfl⟩
theorem cf_spec_nuInverse : ∀ args w, (callFunc 276 args).run Tryz.prog w = .ok (.enter 276 args) w := zI Tryz.func276 kk kk
theorem s_spec_nuInverse {a1 : Int} {vm2 : Int} {r : Int} (h : r_spec_nuInverse a1 vm2 = some r) : z7 Tryz.prog 276 [I a1, I vm2] (I r) [] := by
  refine zH (rs := [.t 4]) (vs := [.tmp 4]) Tryz.func276 rfl rfl (.cons rfl FitsL.nil) (by decide) 36 rfl ?_
  unfold r_spec_nuInverse at h
  show V _ _ ⟨I a1 :: I vm2 :: bt 34 [], []⟩ _
  refine V_e (mb 36 3) [] (s1 := ⟨I a1 :: I vm2 :: bt 34 [], []⟩) ?_
  obtain ⟨y3, hy3, h⟩ := zD h
  refine zG (mb 36 482) [] (s1 := ⟨.bot :: I vm2 :: bt 3 (I vm2 :: I y3 :: I 0 :: I 1 :: bt 27 []), []⟩) ?_ ?_
  ·refine XR 3 ?_
   refine XC (s_spec_nuMod hy3) cf_spec_nuMod rfl rfl rfl ?_
   exact XE
  refine zX ?_
  obtain ⟨o9, hLo9, h⟩ := zD h
  refine V_toK (mb 36 162) [] (s1 := ⟨.bot :: I vm2 :: bt 3 (I o9.1 :: .bot :: I o9.2 :: bt 28 []), []⟩) ?_ ?_
  ·clear h
   refine zZ (V_loop (fun n s => ∃ (vr4 : Int) (next5 : Int) (x6 : Int) (y7 : Int), s.keep (mb 36 482) [] = (⟨.bot :: I vm2 :: bt 3 (I vr4 :: I next5 :: I x6 :: I y7 :: bt 27 []), []⟩ : St) ∧ r_spec_nuInverse_L8 vm2 n vr4 next5 x6 y7 = some o9) FU ⟨_, _, _, _,  by rfl, hLo9⟩ ?_)
   clear hLo9
   rintro n s ⟨vr4, next5, x6, y7, hs, h⟩
   refine V_keep _ _ hs ?_
   clear hs
   cases n with
   | zero => cases h
   | succ n =>
    rw [r_spec_nuInverse_L8] at h
    refine zX ?_
    refine V_e (mb 36 33250) [] (s1 := ⟨.bot :: I vm2 :: bt 3 (I vr4 :: I next5 :: I x6 :: I y7 :: bt 6 (Bo (!eqI next5 0) :: bt 20 [])), []⟩) ?_
    refine zQ rfl (fun hc10 => ?_) (fun hc10 => ?_)
    ·have h := zM h hc10
     refine zV ?_
     show V _ _ _ _
     refine zZ ?_
     obtain ⟨z11, hz11, h⟩ := zD h
     obtain ⟨q12, hq12, h⟩ := qF h
     refine zG (mb 36 994) [] (s1 := ⟨.bot :: I vm2 :: bt 3 (I vr4 :: I next5 :: I x6 :: I y7 :: I q12 :: bt 26 []), []⟩) ?_ ?_
     ·refine XR 2 ?_
      refine L0 rfl rfl (Y0_quo64 (a := vr4) (b := next5) rfl kk kk (nz_some hz11)) ?_
      refine XR 1 ?_
      refine zN ?_
      subst hq12
      kernel_rfl
     obtain ⟨next13, hnext13, h⟩ := qF h
     refine zG (mb 36 994) [] (s1 := ⟨.bot :: I vm2 :: bt 3 (I next5 :: I next13 :: I x6 :: I y7 :: I q12 :: bt 26 []), []⟩) ?_ ?_
     ·refine XR 8 ?_
      refine zN ?_
      subst hnext13
      kernel_rfl
     obtain ⟨y14, hy14, h⟩ := qF h
     refine V_reg (mb 36 482) [] (s1 := ⟨.bot :: I vm2 :: bt 3 (I next5 :: I next13 :: I y7 :: I y14 :: bt 27 []), []⟩) ?_ ?_
     ·refine XR 8 ?_
      refine zN ?_
      subst hy14
      kernel_rfl
     exact ⟨n, Nat.lt_succ_self n, _, _, _, _,  by rfl, h⟩
    ·have h := zK h hc10
     refine V_exit ?_
     obtain rfl := zE h
     show St.keep _ _ _ = _
     rfl
  show V _ _ _ _
  refine zX ?_
  refine V_e (mb 36 4294967426) [] (s1 := ⟨.bot :: I vm2 :: bt 5 (I o9.2 :: bt 24 (Bo (!eqI o9.1 1) :: bt 3 [])), []⟩) ?_
  refine zQ rfl (fun hc15 => ?_) (fun hc15 => ?_)
  ·have h := zM h hc15
   refine V_e (mb 36 16) [] (s1 := ⟨bt 4 (I (-1) :: bt 31 []), []⟩) ?_
   refine zR ?_
   obtain rfl := zE h
   show Post _ _ _ _ _
   exact ⟨.inr rfl, rfl, rfl, rfl⟩
  ·have h := zK h hc15
   refine zV ?_
   show V _ _ _ _
   obtain ⟨y16, hy16, h⟩ := zD h
   refine zG (mb 36 16) [] (s1 := ⟨bt 4 (I y16 :: bt 31 []), []⟩) ?_ ?_
   ·refine XR 2 ?_
    refine XC (s_spec_nuMod hy16) cf_spec_nuMod rfl rfl rfl ?_
    exact XE
   refine zR ?_
   obtain rfl := zE h
   show Post _ _ _ _ _
   exact ⟨.inr rfl, rfl, rfl, rfl⟩
theorem cf_spec_nuBezout : ∀ args w, (callFunc 275 args).run Tryz.prog w = .ok (.enter 275 args) w := zI Tryz.func275 kk kk
theorem s_spec_nuBezout {a1 : Int} {b2 : Int} {r : (Int × Int × Int)} (h : r_spec_nuBezout a1 b2 = some r) : z7 Tryz.prog 275 [I a1, I b2] (.tc (I r.1) (.tc (I r.2.1) (.tc (I r.2.2) .tn))) [] := by
  refine zH (rs := [.t 4, .t 5, .t 6]) (vs := [.tmp 4, .tmp 5, .tmp 6]) Tryz.func275 rfl rfl (.cons rfl (.cons rfl (.cons rfl FitsL.nil))) (by decide) 34 rfl ?_
  unfold r_spec_nuBezout at h
  show V _ _ ⟨I a1 :: I b2 :: bt 32 [], []⟩ _
  refine V_e (mb 34 3) [] (s1 := ⟨I a1 :: I b2 :: bt 32 [], []⟩) ?_
  obtain ⟨y3, hy3, h⟩ := zD h
  refine zG (mb 34 131) [] (s1 := ⟨I a1 :: I b2 :: bt 5 (I y3 :: bt 26 []), []⟩) ?_ ?_
  ·refine XR 2 ?_
   refine XC (s_spec_nuGcd hy3) cf_spec_nuGcd rfl rfl rfl ?_
   exact XE
  refine zX ?_
  refine V_e (mb 34 8323) [] (s1 := ⟨I a1 :: I b2 :: bt 5 (I y3 :: bt 5 (Bo (eqI b2 0) :: bt 20 [])), []⟩) ?_
  refine zQ rfl (fun hc4 => ?_) (fun hc4 => ?_)
  ·have h := zM h hc4
   obtain ⟨y5, hy5, h⟩ := zD h
   refine zG (mb 34 112) [] (s1 := ⟨bt 4 (I y3 :: I y5 :: I 0 :: bt 27 []), []⟩) ?_ ?_
   ·refine XR 2 ?_
    refine XC (s_spec_l1Sign hy5) cf_spec_l1Sign rfl rfl rfl ?_
    exact XE
   refine zR ?_
   obtain rfl := zE h
   show Post _ _ _ _ _
   exact ⟨.inr rfl, rfl, rfl, rfl⟩
  ·have h := zK h hc4
   refine zV ?_
   show V _ _ _ _
   obtain ⟨z6, hz6, h⟩ := zD h
   obtain ⟨y7, hy7, h⟩ := zD h
   obtain ⟨z8, hz8, h⟩ := zD h
   obtain ⟨y9, hy9, h⟩ := zD h
   refine V_sdreg [0, 0, 3, 0, 8, 0, 56, 127, 255] 9 (cdm 9 [10888, 10882, 10885, 2090, 2154, 682, 1386, 5461, 21845]) (mb 34 387) [] (s1 := ⟨I a1 :: I b2 :: bt 5 (I y3 :: I y9 :: bt 25 []), []⟩) kk kk ?_ ?_
   ·refine DR 2 ?_
    refine DE_0 2 (I (w64 (Int.tdiv a1 y3))) kk rfl rfl rfl (zO rfl) kk (Y0_quo64 (a := a1) (b := y3) rfl kk kk (nz_some hz6)) 19 rfl ?_
    refine DR 1 ?_
    refine DC 4 (s_spec_l1Abs hy7) cf_spec_l1Abs rfl rfl rfl rfl 21 rfl ?_
    refine DR 1 ?_
    refine DE_0 6 (I (w64 (Int.tdiv y7 y3))) kk rfl rfl rfl (zO rfl) kk (Y0_quo64 (a := y7) (b := y3) rfl kk kk (nz_some hz8)) 23 rfl ?_
    refine DC 7 (s_spec_nuInverse hy9) cf_spec_nuInverse rfl rfl rfl rfl 24 rfl ?_
    refine DA 1 ?_
    exact XE
   obtain ⟨z10, hz10, h⟩ := zD h
   obtain ⟨t11, ht11, h⟩ := qF h
   refine V_sdreg [0, 0, 0, 0, 0, 24, 60, 0, 252, 1, 515, 2047] 12 (cdm 12 [174760, 699042, 2656906, 2654762, 2654378, 2654570, 2655578, 2632362, 2643290, 174761, 436901, 1398101]) (mb 34 112) [] (s1 := ⟨bt 4 (I y3 :: I y9 :: I t11 :: bt 27 []), []⟩) kk kk ?_ ?_
   ·refine DR 8 ?_
    refine DE_0 8 (I (w64 (Int.tdiv (w64 (y3 - (w64 (a1 * y9)))) b2))) kk rfl rfl rfl (zO rfl) kk (Y0_quo64 (a := w64 (y3 - (w64 (a1 * y9)))) (b := b2) rfl kk kk (nz_some hz10)) 33 rfl ?_
    refine DA 3 ?_
    refine zN ?_
    subst ht11
    kernel_rfl
   refine zR ?_
   obtain rfl := zE h
   show Post _ _ _ _ _
   exact ⟨.inr rfl, rfl, rfl, rfl⟩
theorem cf_spec_vaComplete : ∀ args w, (callFunc 239 args).run Tryz.prog w = .ok (.enter 239 args) w := zI Tryz.func239 kk kk
theorem s_spec_vaComplete {f1 : (Int × Int × Int)} {x2 : Int} {y3 : Int} {r : (((Int × Int × Int)) × ((Int × Int × Int × Int)))} (h : r_spec_vaComplete f1 x2 y3 = some r) : z7 Tryz.prog 239 [.ag [Ti f1.1, Ti f1.2.1, Ti f1.2.2], I x2, I y3] (.tc (.ag [Ti r.1.1, Ti r.1.2.1, Ti r.1.2.2]) (.tc (.ag [Ti r.2.1, Ti r.2.2.1, Ti r.2.2.2.1, Ti r.2.2.2.2]) .tn)) [] := by
  refine zH (rs := [.w 6 3, .w 7 4]) (vs := [.cell 6 38, .cell 7 109]) Tryz.func239 rfl rfl (.cons ⟨rfl, wd38⟩ (.cons ⟨rfl, wd109⟩ FitsL.nil)) (by decide) 76 rfl ?_
  unfold r_spec_vaComplete at h
  show V _ _ ⟨.ag [Ti f1.1, Ti f1.2.1, Ti f1.2.2] :: I x2 :: I y3 :: bt 73 [], []⟩ _
  refine V_e (mb 76 206) [56, 48, 24] (s1 := ⟨.bot :: I x2 :: I y3 :: .pt 24 0 :: .bot :: .bot :: .pt 48 0 :: .pt 56 0 :: bt 68 [], [(56, .box [Ti 0, Ti 0, Ti 0, Ti 0]), (48, .box [Ti 0, Ti 0, Ti 0]), (24, .box [Ti f1.1, Ti f1.2.1, Ti f1.2.2])]⟩) ?_
  obtain ⟨y4, hy4, h⟩ := zD h
  refine zG (mb 76 1742) [56, 48, 24] (s1 := ⟨.bot :: I x2 :: I y3 :: .pt 24 0 :: .bot :: .bot :: .pt 48 0 :: .pt 56 0 :: .bot :: I y4.2.1 :: I y4.2.2 :: bt 65 [], [(56, .box [Ti 0, Ti 0, Ti 0, Ti 0]), (48, .box [Ti 0, Ti 0, Ti 0]), (24, .box [Ti f1.1, Ti f1.2.1, Ti f1.2.2])]⟩) ?_ ?_
  ·refine XR 2 ?_
   refine XC (s_spec_nuBezout hy4) cf_spec_nuBezout rfl rfl rfl ?_
   exact XE
  obtain ⟨y5, hy5, h⟩ := zD h
  obtain ⟨q6, hq6, h⟩ := qF h
  refine zG (mb 76 6862) [56, 48, 24] (s1 := ⟨.bot :: I x2 :: I y3 :: .pt 24 0 :: .bot :: .bot :: .pt 48 0 :: .pt 56 0 :: .bot :: I y4.2.1 :: .bot :: I q6 :: I y5 :: bt 63 [], [(56, .box [Ti 0, Ti 0, Ti 0, Ti 0]), (48, .box [Ti 0, Ti 0, Ti 0]), (24, .box [Ti f1.1, Ti f1.2.1, Ti f1.2.2])]⟩) ?_ ?_
  ·refine XR 5 ?_
   refine XC (s_spec_foValue hy5) cf_spec_foValue rfl rfl rfl ?_
   refine XR 2 ?_
   refine zN ?_
   subst hq6
   kernel_rfl
  obtain ⟨y7, hy7, h⟩ := zD h
  refine zG (mb 76 15054) [56, 48, 24] (s1 := ⟨.bot :: I x2 :: I y3 :: .pt 24 0 :: .bot :: .bot :: .pt 48 0 :: .pt 56 0 :: .bot :: I y4.2.1 :: .bot :: I q6 :: I y5 :: I y7 :: bt 62 [], [(56, .box [Ti 0, Ti 0, Ti 0, Ti 0]), (48, .box [Ti 0, Ti 0, Ti 0]), (24, .box [Ti f1.1, Ti f1.2.1, Ti f1.2.2])]⟩) ?_ ?_
  ·refine XR 5 ?_
   refine XC (s_spec_foPolar hy7) cf_spec_foPolar rfl rfl rfl ?_
   exact XE
  obtain ⟨y8, hy8, h⟩ := zD h
  obtain ⟨z9, hz9, h⟩ := zD h
  obtain ⟨t10, ht10, h⟩ := qF h
  refine zG (mb 76 31438) [56, 48, 24] (s1 := ⟨.bot :: I x2 :: I y3 :: .pt 24 0 :: .bot :: .bot :: .pt 48 0 :: .pt 56 0 :: .bot :: I y4.2.1 :: .bot :: I q6 :: I y5 :: I y7 :: I t10 :: bt 61 [], [(56, .box [Ti 0, Ti 0, Ti 0, Ti 0]), (48, .box [Ti 0, Ti 0, Ti 0]), (24, .box [Ti f1.1, Ti f1.2.1, Ti f1.2.2])]⟩) ?_ ?_
  ·refine XR 3 ?_
   refine XC (s_spec_nuMod hy8) cf_spec_nuMod rfl rfl rfl ?_
   refine XR 4 ?_
   refine L0 rfl rfl (Y0_quo64 (a := w64 (y8 - y7)) (b := w64 (2 * y5)) rfl kk kk (nz_some hz9)) ?_
   refine XR 1 ?_
   refine zN ?_
   subst ht10
   kernel_rfl
  obtain ⟨f11, hf11, h⟩ := qF h
  obtain ⟨f12, hf12, h⟩ := qF h
  refine zG (mb 76 61640) [120, 56, 48, 24] (s1 := ⟨bt 3 (.pt 24 0 :: .bot :: .bot :: .pt 48 0 :: .pt 56 0 :: bt 4 (I y5 :: I y7 :: I t10 :: .pt 120 0 :: bt 60 [])), [(120, .box [Ti x2, Ti f11, Ti y3, Ti f12]), (56, .box [Ti 0, Ti 0, Ti 0, Ti 0]), (48, .box [Ti 0, Ti 0, Ti 0]), (24, .box [Ti f1.1, Ti f1.2.1, Ti f1.2.2])]⟩) ?_ ?_
  ·refine XR 12 ?_
   refine L0 rfl rfl (qE (cs := [Ti x2, Ti (w64 (q6 + (w64 (x2 * t10)))), Ti y3, Ti (w64 (y4.2.1 + (w64 (y3 * t10))))]) pl109 bt109 rfl rfl kk) ?_
   refine XR 2 ?_
   refine zN ?_
   subst hf11 hf12
   kernel_rfl
  obtain ⟨b13, hb13, h⟩ := qF h
  refine zG (mb 76 45256) [120, 56, 48, 24] (s1 := ⟨bt 3 (.pt 24 0 :: .bot :: .bot :: .pt 48 0 :: .pt 56 0 :: bt 4 (I y5 :: I b13 :: .bot :: .pt 120 0 :: bt 60 [])), [(120, .box [Ti x2, Ti f11, Ti y3, Ti f12]), (56, .box [Ti 0, Ti 0, Ti 0, Ti 0]), (48, .box [Ti 0, Ti 0, Ti 0]), (24, .box [Ti f1.1, Ti f1.2.1, Ti f1.2.2])]⟩) ?_ ?_
  ·refine XR 7 ?_
   refine zN ?_
   subst hb13
   kernel_rfl
  obtain ⟨y14, hy14, h⟩ := zD h
  obtain ⟨z15, hz15, h⟩ := zD h
  obtain ⟨f16, hf16, h⟩ := qF h
  refine V_sdreg [0, 0, 0, 0, 12, 0, 32, 124, 0, 256, 1020, 2047, 0, 4095, 16383] 14 [[.z, .b, .b, .b, .b, .b, .b, .b, .b, .b, .b, .z, .b, .z], [.b, .z, .b, .b, .b, .b, .b, .b, .b, .b, .b, .z, .b, .z], [.b, .b, .z, .b, .z, .b, .b, .z, .b, .b, .z, .z, .b, .z], [.b, .b, .b, .z, .z, .b, .b, .z, .b, .b, .z, .z, .b, .z], [.b, .b, .a, .a, .z, .b, .b, .z, .b, .b, .z, .z, .b, .z], [.b, .b, .b, .b, .b, .z, .z, .z, .b, .b, .z, .z, .b, .z], [.b, .b, .b, .b, .b, .a, .z, .z, .b, .b, .z, .z, .b, .z], [.b, .b, .a, .a, .a, .a, .a, .z, .b, .b, .z, .z, .b, .z], [.b, .b, .b, .b, .b, .b, .b, .b, .z, .z, .z, .z, .b, .z], [.b, .b, .b, .b, .b, .b, .b, .b, .a, .z, .z, .z, .b, .z], [.b, .b, .a, .a, .a, .a, .a, .a, .a, .a, .z, .z, .b, .z], [.a, .a, .a, .a, .a, .a, .a, .a, .a, .a, .a, .z, .b, .z], [.b, .b, .b, .b, .b, .b, .b, .b, .b, .b, .b, .b, .z, .r 48], [.a, .a, .a, .a, .a, .a, .a, .a, .a, .a, .a, .a, .b, .z]] (mb 76 192) [56, 48] (s1 := ⟨bt 6 (.pt 48 0 :: .pt 56 0 :: bt 68 []), [(56, .box [Ti x2, Ti f11, Ti y3, Ti f12]), (48, .box [Ti y5, Ti b13, Ti f16])]⟩) kk kk ?_ ?_
  ·refine DR 6 ?_
   refine DC 6 (s_spec_foDisc hy14) cf_spec_foDisc rfl rfl rfl rfl 69 rfl ?_
   refine DR 3 ?_
   refine DE_0 10 (I (w64 (Int.tdiv (w64 ((w64 (b13 * b13)) - y14)) (w64 (4 * y5))))) kk rfl rfl rfl (zO rfl) kk (Y0_quo64 (a := w64 ((w64 (b13 * b13)) - y14)) (b := w64 (4 * y5)) rfl kk kk (nz_some hz15)) 73 rfl ?_
   refine DE_0 11 (.ag [Ti y5, Ti b13, Ti (w64 (Int.tdiv (w64 ((w64 (b13 * b13)) - y14)) (w64 (4 * y5))))]) kk rfl rfl rfl (zO rfl) kk (qE (cs := [Ti y5, Ti b13, Ti (w64 (Int.tdiv (w64 ((w64 (b13 * b13)) - y14)) (w64 (4 * y5))))]) pl38 bt38 rfl rfl kk) 74 rfl ?_
   refine DA 2 ?_
   refine XR 1 ?_
   refine zN ?_
   subst hf16
   kernel_rfl
  refine zR ?_
  obtain rfl := zE h
  show Post _ _ _ _ _
  exact ⟨.inr rfl, rfl, rfl, rfl⟩
theorem cf_spec_nuCommon : ∀ args w, (callFunc 240 args).run Tryz.prog w = .ok (.enter 240 args) w := zI Tryz.func240 kk kk
theorem s_spec_nuCommon {a1 : Int} {vm2 : Int} {b3 : Int} {vn4 : Int} {r : (Int × Int × Bool)} (h : r_spec_nuCommon a1 vm2 b3 vn4 = some r) : z7 Tryz.prog 240 [I a1, I vm2, I b3, I vn4] (.tc (I r.1) (.tc (I r.2.1) (.tc (Bo r.2.2) .tn))) [] := by
  refine zH (rs := [.t 8, .t 9, .t 10]) (vs := [.tmp 8, .tmp 9, .tmp 10]) Tryz.func240 rfl rfl (.cons rfl (.cons rfl (.cons rfl FitsL.nil))) (by decide) 53 rfl ?_
  unfold r_spec_nuCommon at h
  show V _ _ ⟨I a1 :: I vm2 :: I b3 :: I vn4 :: bt 49 [], []⟩ _
  refine V_e (mb 53 15) [] (s1 := ⟨I a1 :: I vm2 :: I b3 :: I vn4 :: bt 49 [], []⟩) ?_
  obtain ⟨y5, hy5, h⟩ := zD h
  refine zG (mb 53 2063) [] (s1 := ⟨I a1 :: I vm2 :: I b3 :: I vn4 :: bt 7 (I y5 :: bt 41 []), []⟩) ?_ ?_
  ·refine XR 2 ?_
   refine XC (s_spec_nuGcd hy5) cf_spec_nuGcd rfl rfl rfl ?_
   exact XE
  refine zX ?_
  obtain ⟨z6, hz6, h⟩ := zD h
  refine zG (mb 53 4196367) [] (s1 := ⟨I a1 :: I vm2 :: I b3 :: I vn4 :: bt 7 (I y5 :: bt 10 (Bo (!eqI (Int.tmod (w64 (b3 - a1)) y5) 0) :: bt 30 [])), []⟩) ?_ ?_
  ·refine XR 4 ?_
   refine L0 rfl rfl (Y0_rem (k := .i64) (a := w64 (b3 - a1)) (b := y5) rfl kk kk (nz_some hz6)) ?_
   exact XE
  refine zQ rfl (fun hc7 => ?_) (fun hc7 => ?_)
  ·have h := zM h hc7
   refine V_e (mb 53 1792) [] (s1 := ⟨bt 8 (I 0 :: I 0 :: Bo false :: bt 42 []), []⟩) ?_
   refine zR ?_
   obtain rfl := zE h
   show Post _ _ _ _ _
   exact ⟨.inr rfl, rfl, rfl, rfl⟩
  ·have h := zK h hc7
   refine zV ?_
   show V _ _ _ _
   obtain ⟨z8, hz8, h⟩ := zD h
   obtain ⟨z9, hz9, h⟩ := zD h
   obtain ⟨z10, hz10, h⟩ := zD h
   obtain ⟨y11, hy11, h⟩ := zD h
   obtain ⟨z12, hz12, h⟩ := zD h
   obtain ⟨y13, hy13, h⟩ := zD h
   refine V_sdreg [0, 0, 3, 0, 15, 0, 0, 96, 0, 0, 768, 2016, 4095, 0, 0, 24576, 65535, 131071] 18 (cdm 18 [2829756552, 2829756546, 2829756549, 2829756458, 2829756501, 2821333674, 2821327530, 2821330602, 2819140266, 2818747050, 2818943658, 2819970730, 2824164693, 581610154, 178956970, 380283562, 1431655765, 5726623061]) (mb 53 6155) [] (s1 := ⟨I a1 :: I vm2 :: .bot :: I vn4 :: bt 7 (I y5 :: I y13 :: bt 40 []), []⟩) kk kk ?_ ?_
   ·refine DR 4 ?_
    refine DE_0 4 (I (w64 (Int.tdiv (w64 (b3 - a1)) y5))) kk rfl rfl rfl (zO rfl) kk (Y0_quo64 (a := w64 (b3 - a1)) (b := y5) rfl kk kk (nz_some hz8)) 27 rfl ?_
    refine DR 2 ?_
    refine DE_0 7 (I (w64 (Int.tdiv vm2 y5))) kk rfl rfl rfl (zO rfl) kk (Y0_quo64 (a := vm2) (b := y5) rfl kk kk (nz_some hz9)) 30 rfl ?_
    refine DR 2 ?_
    refine DE_0 10 (I (w64 (Int.tdiv vn4 y5))) kk rfl rfl rfl (zO rfl) kk (Y0_quo64 (a := vn4) (b := y5) rfl kk kk (nz_some hz10)) 33 rfl ?_
    refine DC 11 (s_spec_nuInverse hy11) cf_spec_nuInverse rfl rfl rfl rfl 34 rfl ?_
    refine DR 3 ?_
    refine DE_0 15 (I (w64 (Int.tdiv vn4 y5))) kk rfl rfl rfl (zO rfl) kk (Y0_quo64 (a := vn4) (b := y5) rfl kk kk (nz_some hz12)) 38 rfl ?_
    refine DC 16 (s_spec_nuMod hy13) cf_spec_nuMod rfl rfl rfl rfl 39 rfl ?_
    refine DA 1 ?_
    exact XE
   obtain ⟨z14, hz14, h⟩ := zD h
   obtain ⟨all15, hall15, h⟩ := qF h
   refine zG (mb 53 12291) [] (s1 := ⟨I a1 :: I vm2 :: bt 10 (I y13 :: I all15 :: bt 39 []), []⟩) ?_ ?_
   ·refine XR 2 ?_
    refine L0 rfl rfl (Y0_quo64 (a := vm2) (b := y5) rfl kk kk (nz_some hz14)) ?_
    refine XR 3 ?_
    refine zN ?_
    subst hall15
    kernel_rfl
   obtain ⟨y16, hy16, h⟩ := zD h
   refine zG (mb 53 1792) [] (s1 := ⟨bt 8 (I y16 :: I all15 :: Bo true :: bt 42 []), []⟩) ?_ ?_
   ·refine XR 6 ?_
    refine XC (s_spec_nuMod hy16) cf_spec_nuMod rfl rfl rfl ?_
    exact XE
   refine zR ?_
   obtain rfl := zE h
   show Post _ _ _ _ _
   exact ⟨.inr rfl, rfl, rfl, rfl⟩
theorem cf_spec_coShift : ∀ args w, (callFunc 241 args).run Tryz.prog w = .ok (.enter 241 args) w := zI Tryz.func241 kk kk
theorem s_spec_coShift {t1 : Int} {r : (Int × Int × Int × Int)} (h : r_spec_coShift t1 = some r) : z7 Tryz.prog 241 [I t1] (.ag [Ti r.1, Ti r.2.1, Ti r.2.2.1, Ti r.2.2.2]) [] := by
  refine zH (rs := [.w 2 4]) (vs := [.cell 2 109]) Tryz.func241 rfl rfl (.cons ⟨rfl, wd109⟩ FitsL.nil) (by decide) 5 rfl ?_
  unfold r_spec_coShift at h
  show V _ _ ⟨I t1 :: bt 4 [], []⟩ _
  refine V_e (mb 5 5) [16] (s1 := ⟨I t1 :: .bot :: .pt 16 0 :: .bot :: .bot :: [], [(16, .box [Ti 0, Ti 0, Ti 0, Ti 0])]⟩) ?_
  refine zG (mb 5 4) [16] (s1 := ⟨.bot :: .bot :: .pt 16 0 :: .bot :: .bot :: [], [(16, .box [Ti 1, Ti t1, Ti 0, Ti 1])]⟩) ?_ ?_
  ·refine XR 1 ?_
   refine L0 rfl rfl (qE (cs := [Ti 1, Ti t1, Ti 0, Ti 1]) pl109 bt109 rfl rfl kk) ?_
   exact XE
  refine zR ?_
  obtain rfl := zE h
  show Post _ _ _ _ _
  exact ⟨.inr rfl, rfl, rfl, rfl⟩
theorem cf_spec_coUnite : ∀ args w, (callFunc 184 args).run Tryz.prog w = .ok (.enter 184 args) w := zI Tryz.func184 kk kk
theorem s_spec_coUnite {f1 : (Int × Int × Int)} {g2 : (Int × Int × Int)} {r : (((Int × Int × Int)) × ((Int × Int × Int)) × ((Int × Int × Int × Int)) × ((Int × Int × Int × Int)))} (h : r_spec_coUnite f1 g2 = some r) : z7 Tryz.prog 184 [.ag [Ti f1.1, Ti f1.2.1, Ti f1.2.2], .ag [Ti g2.1, Ti g2.2.1, Ti g2.2.2]] (.tc (.ag [Ti r.1.1, Ti r.1.2.1, Ti r.1.2.2]) (.tc (.ag [Ti r.2.1.1, Ti r.2.1.2.1, Ti r.2.1.2.2]) (.tc (.ag [Ti r.2.2.1.1, Ti r.2.2.1.2.1, Ti r.2.2.1.2.2.1, Ti r.2.2.1.2.2.2]) (.tc (.ag [Ti r.2.2.2.1, Ti r.2.2.2.2.1, Ti r.2.2.2.2.2.1, Ti r.2.2.2.2.2.2]) .tn)))) [] := by
  refine zH (rs := [.w 4 3, .w 5 3, .w 6 4, .w 7 4]) (vs := [.cell 4 38, .cell 5 38, .cell 6 109, .cell 7 109]) Tryz.func184 rfl rfl (.cons ⟨rfl, wd38⟩ (.cons ⟨rfl, wd38⟩ (.cons ⟨rfl, wd109⟩ (.cons ⟨rfl, wd109⟩ FitsL.nil)))) (by decide) 118 rfl ?_
  unfold r_spec_coUnite at h
  show V _ _ ⟨.ag [Ti f1.1, Ti f1.2.1, Ti f1.2.2] :: .ag [Ti g2.1, Ti g2.2.1, Ti g2.2.2] :: bt 116 [], []⟩ _
  refine V_e (mb 118 252) [56, 48, 40, 32, 24, 16] (s1 := ⟨.bot :: .bot :: .pt 16 0 :: .pt 24 0 :: .pt 32 0 :: .pt 40 0 :: .pt 48 0 :: .pt 56 0 :: bt 110 [], [(56, .box [Ti 0, Ti 0, Ti 0, Ti 0]), (48, .box [Ti 0, Ti 0, Ti 0, Ti 0]), (40, .box [Ti 0, Ti 0, Ti 0]), (32, .box [Ti 0, Ti 0, Ti 0]), (24, .box [Ti g2.1, Ti g2.2.1, Ti g2.2.2]), (16, .box [Ti f1.1, Ti f1.2.1, Ti f1.2.2])]⟩) ?_
  obtain ⟨y3, hy3, h⟩ := zD h
  refine zG (mb 118 1016) [72, 64, 56, 48, 40, 32, 24] (s1 := ⟨bt 3 (.pt 24 0 :: .pt 32 0 :: .pt 40 0 :: .pt 48 0 :: .pt 56 0 :: .pt 64 0 :: .pt 72 0 :: bt 108 []), [(72, .box [Ti y3.2.1, Ti y3.2.2.1, Ti y3.2.2.2.1, Ti y3.2.2.2.2]), (64, .box [Ti y3.1.1, Ti y3.1.2.1, Ti y3.1.2.2]), (56, .box [Ti 0, Ti 0, Ti 0, Ti 0]), (48, .box [Ti 0, Ti 0, Ti 0, Ti 0]), (40, .box [Ti 0, Ti 0, Ti 0]), (32, .box [Ti 0, Ti 0, Ti 0]), (24, .box [Ti g2.1, Ti g2.2.1, Ti g2.2.2])]⟩) ?_ ?_
  ·refine XR 1 ?_
   refine XC (s_spec_reReduce hy3) cf_spec_reReduce rfl rfl rfl ?_
   exact XE
  obtain ⟨y4, hy4, h⟩ := zD h
  refine zG (mb 118 4080) [88, 80, 72, 64, 56, 48, 40, 32] (s1 := ⟨bt 4 (.pt 32 0 :: .pt 40 0 :: .pt 48 0 :: .pt 56 0 :: .pt 64 0 :: .pt 72 0 :: .pt 80 0 :: .pt 88 0 :: bt 106 []), [(88, .box [Ti y4.2.1, Ti y4.2.2.1, Ti y4.2.2.2.1, Ti y4.2.2.2.2]), (80, .box [Ti y4.1.1, Ti y4.1.2.1, Ti y4.1.2.2]), (72, .box [Ti y3.2.1, Ti y3.2.2.1, Ti y3.2.2.2.1, Ti y3.2.2.2.2]), (64, .box [Ti y3.1.1, Ti y3.1.2.1, Ti y3.1.2.2]), (56, .box [Ti 0, Ti 0, Ti 0, Ti 0]), (48, .box [Ti 0, Ti 0, Ti 0, Ti 0]), (40, .box [Ti 0, Ti 0, Ti 0]), (32, .box [Ti 0, Ti 0, Ti 0])]⟩) ?_ ?_
  ·refine XR 1 ?_
   refine XC (s_spec_reReduce hy4) cf_spec_reReduce rfl rfl rfl ?_
   exact XE
  obtain ⟨y5, hy5, h⟩ := zD h
  refine zG (mb 118 16368) [88, 80, 72, 64, 56, 48, 40, 32] (s1 := ⟨bt 4 (.pt 32 0 :: .pt 40 0 :: .pt 48 0 :: .pt 56 0 :: .pt 64 0 :: .pt 72 0 :: .pt 80 0 :: .pt 88 0 :: I y5.1 :: I y5.2 :: bt 104 []), [(88, .box [Ti y4.2.1, Ti y4.2.2.1, Ti y4.2.2.2.1, Ti y4.2.2.2.2]), (80, .box [Ti y4.1.1, Ti y4.1.2.1, Ti y4.1.2.2]), (72, .box [Ti y3.2.1, Ti y3.2.2.1, Ti y3.2.2.2.1, Ti y3.2.2.2.2]), (64, .box [Ti y3.1.1, Ti y3.1.2.1, Ti y3.1.2.2]), (56, .box [Ti 0, Ti 0, Ti 0, Ti 0]), (48, .box [Ti 0, Ti 0, Ti 0, Ti 0]), (40, .box [Ti 0, Ti 0, Ti 0]), (32, .box [Ti 0, Ti 0, Ti 0])]⟩) ?_ ?_
  ·refine XR 3 ?_
   refine XC (s_spec_coPoint hy5) cf_spec_coPoint rfl rfl rfl ?_
   exact XE
  obtain ⟨y6, hy6, h⟩ := zD h
  refine zG (mb 118 20464) [112, 88, 80, 72, 64, 56, 48, 40, 32] (s1 := ⟨bt 4 (.pt 32 0 :: .pt 40 0 :: .pt 48 0 :: .pt 56 0 :: .pt 64 0 :: .pt 72 0 :: .pt 80 0 :: .pt 88 0 :: .bot :: .bot :: .pt 112 0 :: bt 103 []), [(112, .box [Ti y6.2.1, Ti y6.2.2.1, Ti y6.2.2.2.1, Ti y6.2.2.2.2]), (88, .box [Ti y4.2.1, Ti y4.2.2.1, Ti y4.2.2.2.1, Ti y4.2.2.2.2]), (80, .box [Ti y6.1.1, Ti y6.1.2.1, Ti y6.1.2.2]), (72, .box [Ti y3.2.1, Ti y3.2.2.1, Ti y3.2.2.2.1, Ti y3.2.2.2.2]), (64, .box [Ti y3.1.1, Ti y3.1.2.1, Ti y3.1.2.2]), (56, .box [Ti 0, Ti 0, Ti 0, Ti 0]), (48, .box [Ti 0, Ti 0, Ti 0, Ti 0]), (40, .box [Ti 0, Ti 0, Ti 0]), (32, .box [Ti 0, Ti 0, Ti 0])]⟩) ?_ ?_
  ·refine XR 3 ?_
   refine XC (s_spec_vaComplete hy6) cf_spec_vaComplete rfl rfl rfl ?_
   exact XE
  obtain ⟨y7, hy7, h⟩ := zD h
  refine zG (mb 118 4080) [88, 80, 72, 64, 56, 48, 40, 32] (s1 := ⟨bt 4 (.pt 32 0 :: .pt 40 0 :: .pt 48 0 :: .pt 56 0 :: .pt 64 0 :: .pt 72 0 :: .pt 80 0 :: .pt 88 0 :: bt 106 []), [(88, .box [Ti y7.1, Ti y7.2.1, Ti y7.2.2.1, Ti y7.2.2.2]), (80, .box [Ti y6.1.1, Ti y6.1.2.1, Ti y6.1.2.2]), (72, .box [Ti y3.2.1, Ti y3.2.2.1, Ti y3.2.2.2.1, Ti y3.2.2.2.2]), (64, .box [Ti y3.1.1, Ti y3.1.2.1, Ti y3.1.2.2]), (56, .box [Ti 0, Ti 0, Ti 0, Ti 0]), (48, .box [Ti 0, Ti 0, Ti 0, Ti 0]), (40, .box [Ti 0, Ti 0, Ti 0]), (32, .box [Ti 0, Ti 0, Ti 0])]⟩) ?_ ?_
  ·refine XR 2 ?_
   refine XC (s_spec_foMul hy7) cf_spec_foMul rfl rfl rfl ?_
   exact XE
  obtain ⟨y8, hy8, h⟩ := zD h
  obtain ⟨y9, hy9, h⟩ := zD h
  refine V_sdreg [0, 1, 0, 4, 12, 31, 0, 64, 192, 0, 512, 0, 2048, 6144, 16383, 32767, 65535, 65535, 65535, 131071, 786431, 2097151] 22 (cdm 22 [178954912, 178954913, 178954250, 178954266, 178954330, 178954581, 178784938, 178789034, 178805418, 176335530, 176597674, 2796202, 6990506, 23767722, 89478485, 357913941, 173230347605, 697216357717, 2793160398165, 177525314901, 435223352661, 1466015503701]) (mb 118 36848) [88, 80, 72, 64, 56, 48, 40, 32] (s1 := ⟨bt 4 (.pt 32 0 :: .pt 40 0 :: .pt 48 0 :: .pt 56 0 :: .pt 64 0 :: .pt 72 0 :: .pt 80 0 :: .pt 88 0 :: bt 3 (I y9.1 :: bt 102 [])), [(88, .box [Ti y7.1, Ti y7.2.1, Ti y7.2.2.1, Ti y7.2.2.2]), (80, .box [Ti y6.1.1, Ti y6.1.2.1, Ti y6.1.2.2]), (72, .box [Ti y3.2.1, Ti y3.2.2.1, Ti y3.2.2.2.1, Ti y3.2.2.2.2]), (64, .box [Ti y3.1.1, Ti y3.1.2.1, Ti y3.1.2.2]), (56, .box [Ti 0, Ti 0, Ti 0, Ti 0]), (48, .box [Ti 0, Ti 0, Ti 0, Ti 0]), (40, .box [Ti 0, Ti 0, Ti 0]), (32, .box [Ti 0, Ti 0, Ti 0])]⟩) kk kk ?_ ?_
  ·refine DR 5 ?_
   refine DC 5 (s_spec_nuMod hy8) cf_spec_nuMod rfl rfl rfl rfl 52 rfl ?_
   refine DR 8 ?_
   refine DC 14 (s_spec_nuCommon hy9) cf_spec_nuCommon rfl rfl rfl rfl 61 rfl ?_
   refine DA 7 ?_
   exact XE
  obtain ⟨z10, hz10, h⟩ := zD h
  obtain ⟨y11, hy11, h⟩ := zD h
  obtain ⟨y12, hy12, h⟩ := zD h
  refine V_sdreg [0, 0, 0, 4, 14, 0, 32, 96, 254, 510, 1023, 2047] 11 (cdm 11 [699048, 43170, 43018, 43034, 43094, 682, 1706, 5802, 21846, 87382, 349525]) (mb 118 36848) [88, 80, 72, 64, 56, 48, 40, 32] (s1 := ⟨bt 4 (.pt 32 0 :: .pt 40 0 :: .pt 48 0 :: .pt 56 0 :: .pt 64 0 :: .pt 72 0 :: .pt 80 0 :: .pt 88 0 :: bt 3 (I y9.1 :: bt 102 [])), [(88, .box [Ti y7.1, Ti y7.2.1, Ti y7.2.2.1, Ti y7.2.2.2]), (80, .box [Ti y6.1.1, Ti y6.1.2.1, Ti y6.1.2.2]), (72, .box [Ti y12.1, Ti y12.2.1, Ti y12.2.2.1, Ti y12.2.2.2]), (64, .box [Ti y3.1.1, Ti y3.1.2.1, Ti y3.1.2.2]), (56, .box [Ti 0, Ti 0, Ti 0, Ti 0]), (48, .box [Ti 0, Ti 0, Ti 0, Ti 0]), (40, .box [Ti 0, Ti 0, Ti 0]), (32, .box [Ti 0, Ti 0, Ti 0])]⟩) kk kk ?_ ?_
  ·refine DR 8 ?_
   refine DE_0 8 (I (w64 (Int.tdiv (w64 (y9.1 - y3.1.2.1)) (w64 (2 * y3.1.1))))) kk rfl rfl rfl (zO rfl) kk (Y0_quo64 (a := w64 (y9.1 - y3.1.2.1)) (b := w64 (2 * y3.1.1)) rfl kk kk (nz_some hz10)) 73 rfl ?_
   refine DC 9 (s_spec_coShift hy11) cf_spec_coShift rfl rfl rfl rfl 74 rfl ?_
   refine DC 10 (s_spec_foMul hy12) cf_spec_foMul rfl rfl rfl rfl 75 rfl ?_
   refine DA 0 ?_
   exact XE
  obtain ⟨z13, hz13, h⟩ := zD h
  obtain ⟨y14, hy14, h⟩ := zD h
  obtain ⟨y15, hy15, h⟩ := zD h
  refine V_sdreg [0, 0, 0, 4, 14, 0, 32, 96, 254, 510, 1023, 2047] 11 (cdm 11 [699048, 43170, 43018, 43034, 43094, 682, 1706, 5802, 21846, 87382, 349525]) (mb 118 36848) [88, 80, 72, 64, 56, 48, 40, 32] (s1 := ⟨bt 4 (.pt 32 0 :: .pt 40 0 :: .pt 48 0 :: .pt 56 0 :: .pt 64 0 :: .pt 72 0 :: .pt 80 0 :: .pt 88 0 :: bt 3 (I y9.1 :: bt 102 [])), [(88, .box [Ti y15.1, Ti y15.2.1, Ti y15.2.2.1, Ti y15.2.2.2]), (80, .box [Ti y6.1.1, Ti y6.1.2.1, Ti y6.1.2.2]), (72, .box [Ti y12.1, Ti y12.2.1, Ti y12.2.2.1, Ti y12.2.2.2]), (64, .box [Ti y3.1.1, Ti y3.1.2.1, Ti y3.1.2.2]), (56, .box [Ti 0, Ti 0, Ti 0, Ti 0]), (48, .box [Ti 0, Ti 0, Ti 0, Ti 0]), (40, .box [Ti 0, Ti 0, Ti 0]), (32, .box [Ti 0, Ti 0, Ti 0])]⟩) kk kk ?_ ?_
  ·refine DR 8 ?_
   refine DE_0 8 (I (w64 (Int.tdiv (w64 (y9.1 - y6.1.2.1)) (w64 (2 * y6.1.1))))) kk rfl rfl rfl (zO rfl) kk (Y0_quo64 (a := w64 (y9.1 - y6.1.2.1)) (b := w64 (2 * y6.1.1)) rfl kk kk (nz_some hz13)) 84 rfl ?_
   refine DC 9 (s_spec_coShift hy14) cf_spec_coShift rfl rfl rfl rfl 85 rfl ?_
   refine DC 10 (s_spec_foMul hy15) cf_spec_foMul rfl rfl rfl rfl 86 rfl ?_
   refine DA 0 ?_
   exact XE
  obtain ⟨y16, hy16, h⟩ := zD h
  obtain ⟨z17, hz17, h⟩ := zD h
  obtain ⟨c18, hc18, h⟩ := qF h
  refine V_sdreg [0, 0, 3, 0, 8, 31, 0, 64, 192, 0, 512, 1984, 4095, 8191] 14 (cdm 14 [11182728, 11182722, 11182725, 11182122, 11182186, 11182421, 2624170, 2628266, 2644650, 174762, 436906, 1399466, 5592405, 22369621]) (mb 118 298992) [88, 80, 72, 64, 56, 48, 40, 32] (s1 := ⟨bt 4 (.pt 32 0 :: .pt 40 0 :: .pt 48 0 :: .pt 56 0 :: .pt 64 0 :: .pt 72 0 :: .pt 80 0 :: .pt 88 0 :: bt 3 (I y9.1 :: .bot :: .bot :: I c18 :: bt 99 [])), [(88, .box [Ti y15.1, Ti y15.2.1, Ti y15.2.2.1, Ti y15.2.2.2]), (80, .box [Ti y6.1.1, Ti y6.1.2.1, Ti y6.1.2.2]), (72, .box [Ti y12.1, Ti y12.2.1, Ti y12.2.2.1, Ti y12.2.2.2]), (64, .box [Ti y3.1.1, Ti y3.1.2.1, Ti y3.1.2.2]), (56, .box [Ti 0, Ti 0, Ti 0, Ti 0]), (48, .box [Ti 0, Ti 0, Ti 0, Ti 0]), (40, .box [Ti 0, Ti 0, Ti 0]), (32, .box [Ti 0, Ti 0, Ti 0])]⟩) kk kk ?_ ?_
  ·refine DR 4 ?_
   refine DC 4 (s_spec_foDisc hy16) cf_spec_foDisc rfl rfl rfl rfl 91 rfl ?_
   refine DR 7 ?_
   refine DE_0 12 (I (w64 (Int.tdiv (w64 ((w64 (y9.1 * y9.1)) - y16)) (w64 ((w64 (4 * y3.1.1)) * y6.1.1))))) kk rfl rfl rfl (zO rfl) kk (Y0_quo64 (a := w64 ((w64 (y9.1 * y9.1)) - y16)) (b := w64 ((w64 (4 * y3.1.1)) * y6.1.1)) rfl kk kk (nz_some hz17)) 99 rfl ?_
   refine DA 1 ?_
   refine zN ?_
   subst hc18
   kernel_rfl
  obtain ⟨f19, hf19, h⟩ := qF h
  obtain ⟨f20, hf20, h⟩ := qF h
  refine V_sdreg [0, 1, 0, 0, 8, 0, 56, 127, 0, 256, 0, 0, 2048, 0, 14336, 32512, 0, 0, 255, 327679, 917503, 2097151] 21 [[.z, .z, .b, .b, .b, .b, .b, .z, .b, .b, .b, .b, .b, .b, .b, .b, .b, .b, .z, .z, .z], [.a, .z, .b, .b, .b, .b, .b, .z, .b, .b, .b, .b, .b, .b, .b, .b, .b, .b, .z, .z, .z], [.b, .b, .z, .b, .b, .b, .b, .z, .b, .b, .b, .b, .b, .b, .b, .b, .b, .b, .z, .z, .z], [.b, .b, .b, .z, .z, .b, .z, .z, .b, .b, .b, .b, .b, .b, .b, .b, .b, .b, .z, .z, .z], [.b, .b, .b, .a, .z, .b, .z, .z, .b, .b, .b, .b, .b, .b, .b, .b, .b, .b, .z, .z, .z], [.b, .b, .b, .b, .b, .z, .z, .z, .b, .b, .b, .b, .b, .b, .b, .b, .b, .b, .z, .z, .z], [.b, .b, .b, .a, .a, .a, .z, .z, .b, .b, .b, .b, .b, .b, .b, .b, .b, .b, .z, .z, .z], [.a, .a, .a, .a, .a, .a, .a, .z, .b, .b, .b, .b, .b, .b, .b, .b, .b, .b, .z, .z, .z], [.b, .b, .b, .b, .b, .b, .b, .b, .z, .z, .b, .b, .b, .b, .b, .z, .b, .b, .r 32, .z, .z], [.b, .b, .b, .b, .b, .b, .b, .b, .a, .z, .b, .b, .b, .b, .b, .z, .b, .b, .r 32, .z, .z], [.b, .b, .b, .b, .b, .b, .b, .b, .b, .b, .z, .b, .b, .b, .b, .z, .b, .b, .r 32, .z, .z], [.b, .b, .b, .b, .b, .b, .b, .b, .b, .b, .b, .z, .z, .b, .z, .z, .b, .b, .r 32, .z, .z], [.b, .b, .b, .b, .b, .b, .b, .b, .b, .b, .b, .a, .z, .b, .z, .z, .b, .b, .r 32, .z, .z], [.b, .b, .b, .b, .b, .b, .b, .b, .b, .b, .b, .b, .b, .z, .z, .z, .b, .b, .r 32, .z, .z], [.b, .b, .b, .b, .b, .b, .b, .b, .b, .b, .b, .a, .a, .a, .z, .z, .b, .b, .r 32, .z, .z], [.b, .b, .b, .b, .b, .b, .b, .b, .a, .a, .a, .a, .a, .a, .a, .z, .b, .b, .r 32, .z, .z], [.b, .b, .b, .b, .b, .b, .b, .b, .b, .b, .b, .b, .b, .b, .b, .b, .z, .b, .r 32, .r 40, .z], [.b, .b, .b, .b, .b, .b, .b, .b, .b, .b, .b, .b, .b, .b, .b, .b, .b, .z, .r 32, .r 40, .r 48], [.a, .a, .a, .a, .a, .a, .a, .a, .b, .b, .b, .b, .b, .b, .b, .b, .b, .b, .z, .z, .z], [.a, .a, .a, .a, .a, .a, .a, .a, .a, .a, .a, .a, .a, .a, .a, .a, .b, .b, .a, .z, .z], [.a, .a, .a, .a, .a, .a, .a, .a, .a, .a, .a, .a, .a, .a, .a, .a, .a, .b, .a, .a, .z]] (mb 118 240) [56, 48, 40, 32] (s1 := ⟨bt 4 (.pt 32 0 :: .pt 40 0 :: .pt 48 0 :: .pt 56 0 :: bt 110 []), [(56, .box [Ti y15.1, Ti y15.2.1, Ti y15.2.2.1, Ti y15.2.2.2]), (48, .box [Ti y12.1, Ti y12.2.1, Ti y12.2.2.1, Ti y12.2.2.2]), (40, .box [Ti y6.1.1, Ti y9.1, Ti f19]), (32, .box [Ti y3.1.1, Ti y9.1, Ti f20])]⟩) kk kk ?_ ?_
  ·refine DR 7 ?_
   refine DE_0 7 (.ag [Ti y3.1.1, Ti y9.1, Ti (w64 (y6.1.1 * c18))]) kk rfl rfl rfl (zO rfl) kk (qE (cs := [Ti y3.1.1, Ti y9.1, Ti (w64 (y6.1.1 * c18))]) pl38 bt38 rfl rfl kk) 107 rfl ?_
   refine DR 7 ?_
   refine DE_0 15 (.ag [Ti y6.1.1, Ti y9.1, Ti (w64 (y3.1.1 * c18))]) kk rfl rfl rfl (zO rfl) kk (qE (cs := [Ti y6.1.1, Ti y9.1, Ti (w64 (y3.1.1 * c18))]) pl38 bt38 rfl rfl kk) 115 rfl ?_
   refine DA 5 ?_
   refine XR 1 ?_
   refine zN ?_
   subst hf19 hf20
   kernel_rfl
  refine zR ?_
  obtain rfl := zE h
  show Post _ _ _ _ _
  exact ⟨.inr rfl, rfl, rfl, rfl⟩
theorem cf_spec_coJoined : ∀ args w, (callFunc 185 args).run Tryz.prog w = .ok (.enter 185 args) w := zI Tryz.func185 kk kk
theorem s_spec_coJoined {a1 : (Int × Int × Int)} {e2 : (Int × Int × Int)} {r : (Int × Int × Int)} (h : r_spec_coJoined a1 e2 = some r) : z7 Tryz.prog 185 [.ag [Ti a1.1, Ti a1.2.1, Ti a1.2.2], .ag [Ti e2.1, Ti e2.2.1, Ti e2.2.2]] (.ag [Ti r.1, Ti r.2.1, Ti r.2.2]) [] := by
  refine zH (rs := [.w 4 3]) (vs := [.cell 4 38]) Tryz.func185 rfl rfl (.cons ⟨rfl, wd38⟩ FitsL.nil) (by decide) 18 rfl ?_
  unfold r_spec_coJoined at h
  show V _ _ ⟨.ag [Ti a1.1, Ti a1.2.1, Ti a1.2.2] :: .ag [Ti e2.1, Ti e2.2.1, Ti e2.2.2] :: bt 16 [], []⟩ _
  refine V_e (mb 18 28) [32, 24, 16] (s1 := ⟨.bot :: .bot :: .pt 16 0 :: .pt 24 0 :: .pt 32 0 :: bt 13 [], [(32, .box [Ti 0, Ti 0, Ti 0]), (24, .box [Ti e2.1, Ti e2.2.1, Ti e2.2.2]), (16, .box [Ti a1.1, Ti a1.2.1, Ti a1.2.2])]⟩) ?_
  obtain ⟨z3, hz3, h⟩ := zD h
  obtain ⟨f4, hf4, h⟩ := qF h
  obtain ⟨f5, hf5, h⟩ := qF h
  refine V_sdreg [0, 1, 0, 4, 15, 0, 32, 0, 128, 0, 512, 1920, 4095, 8191] 13 (cdm 13 [11184288, 11184289, 11184138, 11184154, 11184213, 11174570, 11175594, 2632362, 2648746, 174762, 436906, 1403562, 5592405]) (mb 18 16) [32] (s1 := ⟨bt 4 (.pt 32 0 :: bt 13 []), [(32, .box [Ti f4, Ti a1.2.1, Ti f5])]⟩) kk kk ?_ ?_
  ·refine DR 11 ?_
   refine DE_0 11 (I (w64 (Int.tdiv a1.2.2 e2.1))) kk rfl rfl rfl (zO rfl) kk (Y0_quo64 (a := a1.2.2) (b := e2.1) rfl kk kk (nz_some hz3)) 16 rfl ?_
   refine DE_0 12 (.ag [Ti (w64 (a1.1 * e2.1)), Ti a1.2.1, Ti (w64 (Int.tdiv a1.2.2 e2.1))]) kk rfl rfl rfl (zO rfl) kk (qE (cs := [Ti (w64 (a1.1 * e2.1)), Ti a1.2.1, Ti (w64 (Int.tdiv a1.2.2 e2.1))]) pl38 bt38 rfl rfl kk) 17 rfl ?_
   refine DA 0 ?_
   refine XR 1 ?_
   refine zN ?_
   subst hf4 hf5
   kernel_rfl
  refine zR ?_
  obtain rfl := zE h
  show Post _ _ _ _ _
  exact ⟨.inr rfl, rfl, rfl, rfl⟩
theorem cf_spec_coMul : ∀ args w, (callFunc 100 args).run Tryz.prog w = .ok (.enter 100 args) w := zI Tryz.func100 kk kk
theorem s_spec_coMul {f1 : (Int × Int × Int)} {g2 : (Int × Int × Int)} {r : (Int × Int × Int)} (h : r_spec_coMul f1 g2 = some r) : z7 Tryz.prog 100 [.ag [Ti f1.1, Ti f1.2.1, Ti f1.2.2], .ag [Ti g2.1, Ti g2.2.1, Ti g2.2.2]] (.ag [Ti r.1, Ti r.2.1, Ti r.2.2]) [] := by
  refine zH (rs := [.w 4 3]) (vs := [.cell 4 38]) Tryz.func100 rfl rfl (.cons ⟨rfl, wd38⟩ FitsL.nil) (by decide) 21 rfl ?_
  unfold r_spec_coMul at h
  show V _ _ ⟨.ag [Ti f1.1, Ti f1.2.1, Ti f1.2.2] :: .ag [Ti g2.1, Ti g2.2.1, Ti g2.2.2] :: bt 19 [], []⟩ _
  refine V_e (mb 21 28) [32, 24, 16] (s1 := ⟨.bot :: .bot :: .pt 16 0 :: .pt 24 0 :: .pt 32 0 :: bt 16 [], [(32, .box [Ti 0, Ti 0, Ti 0]), (24, .box [Ti g2.1, Ti g2.2.1, Ti g2.2.2]), (16, .box [Ti f1.1, Ti f1.2.1, Ti f1.2.2])]⟩) ?_
  obtain ⟨y3, hy3, h⟩ := zD h
  refine zG (mb 21 112) [48, 40, 32] (s1 := ⟨bt 4 (.pt 32 0 :: .pt 40 0 :: .pt 48 0 :: bt 14 []), [(48, .box [Ti y3.2.1.1, Ti y3.2.1.2.1, Ti y3.2.1.2.2]), (40, .box [Ti y3.1.1, Ti y3.1.2.1, Ti y3.1.2.2]), (32, .box [Ti 0, Ti 0, Ti 0])]⟩) ?_ ?_
  ·refine XR 2 ?_
   refine XC (s_spec_coUnite hy3) cf_spec_coUnite rfl rfl rfl ?_
   exact XE
  obtain ⟨y4, hy4, h⟩ := zD h
  obtain ⟨y5, hy5, h⟩ := zD h
  refine zG (mb 21 16) [32] (s1 := ⟨bt 4 (.pt 32 0 :: bt 16 []), [(32, .box [Ti y5.1, Ti y5.2.1, Ti y5.2.2])]⟩) ?_ ?_
  ·refine XR 2 ?_
   refine XC (s_spec_coJoined hy4) cf_spec_coJoined rfl rfl rfl ?_
   refine XC (s_spec_reClass hy5) cf_spec_reClass rfl rfl rfl ?_
   exact XE
  refine zR ?_
  obtain rfl := zE h
  show Post _ _ _ _ _
  exact ⟨.inr rfl, rfl, rfl, rfl⟩
theorem cf_spec_foOpposite : ∀ args w, (callFunc 186 args).run Tryz.prog w = .ok (.enter 186 args) w := zI Tryz.func186 kk kk
theorem s_spec_foOpposite {f1 : (Int × Int × Int)} {r : (Int × Int × Int)} (h : r_spec_foOpposite f1 = some r) : z7 Tryz.prog 186 [.ag [Ti f1.1, Ti f1.2.1, Ti f1.2.2]] (.ag [Ti r.1, Ti r.2.1, Ti r.2.2]) [] := by
  refine zH (rs := [.w 2 3]) (vs := [.cell 2 38]) Tryz.func186 rfl rfl (.cons ⟨rfl, wd38⟩ FitsL.nil) (by decide) 11 rfl ?_
  unfold r_spec_foOpposite at h
  show V _ _ ⟨.ag [Ti f1.1, Ti f1.2.1, Ti f1.2.2] :: bt 10 [], []⟩ _
  refine V_e (mb 11 6) [16, 8] (s1 := ⟨.bot :: .pt 8 0 :: .pt 16 0 :: bt 8 [], [(16, .box [Ti 0, Ti 0, Ti 0]), (8, .box [Ti f1.1, Ti f1.2.1, Ti f1.2.2])]⟩) ?_
  obtain ⟨f2, hf2, h⟩ := qF h
  refine zG (mb 11 4) [16] (s1 := ⟨.bot :: .bot :: .pt 16 0 :: bt 8 [], [(16, .box [Ti f1.1, Ti f2, Ti f1.2.2])]⟩) ?_ ?_
  ·refine XR 7 ?_
   refine L0 rfl rfl (qE (cs := [Ti f1.1, Ti (w64 (0 - f1.2.1)), Ti f1.2.2]) pl38 bt38 rfl rfl kk) ?_
   refine XR 1 ?_
   refine zN ?_
   subst hf2
   kernel_rfl
  refine zR ?_
  obtain rfl := zE h
  show Post _ _ _ _ _
  exact ⟨.inr rfl, rfl, rfl, rfl⟩
theorem cf_spec_coInverse : ∀ args w, (callFunc 101 args).run Tryz.prog w = .ok (.enter 101 args) w := zI Tryz.func101 kk kk
theorem s_spec_coInverse {f1 : (Int × Int × Int)} {r : (Int × Int × Int)} (h : r_spec_coInverse f1 = some r) : z7 Tryz.prog 101 [.ag [Ti f1.1, Ti f1.2.1, Ti f1.2.2]] (.ag [Ti r.1, Ti r.2.1, Ti r.2.2]) [] := by
  refine zH (rs := [.w 2 3]) (vs := [.cell 2 38]) Tryz.func101 rfl rfl (.cons ⟨rfl, wd38⟩ FitsL.nil) (by decide) 6 rfl ?_
  unfold r_spec_coInverse at h
  show V _ _ ⟨.ag [Ti f1.1, Ti f1.2.1, Ti f1.2.2] :: bt 5 [], []⟩ _
  refine V_e (mb 6 6) [16, 8] (s1 := ⟨.bot :: .pt 8 0 :: .pt 16 0 :: bt 3 [], [(16, .box [Ti 0, Ti 0, Ti 0]), (8, .box [Ti f1.1, Ti f1.2.1, Ti f1.2.2])]⟩) ?_
  obtain ⟨y2, hy2, h⟩ := zD h
  obtain ⟨y3, hy3, h⟩ := zD h
  refine zG (mb 6 4) [16] (s1 := ⟨.bot :: .bot :: .pt 16 0 :: bt 3 [], [(16, .box [Ti y3.1, Ti y3.2.1, Ti y3.2.2])]⟩) ?_ ?_
  ·refine XR 1 ?_
   refine XC (s_spec_foOpposite hy2) cf_spec_foOpposite rfl rfl rfl ?_
   refine XC (s_spec_reClass hy3) cf_spec_reClass rfl rfl rfl ?_
   exact XE
  refine zR ?_
  obtain rfl := zE h
  show Post _ _ _ _ _
  exact ⟨.inr rfl, rfl, rfl, rfl⟩
theorem cf_spec_lgRun : ∀ args w, (callFunc 50 args).run Tryz.prog w = .ok (.enter 50 args) w := zI Tryz.func50 kk kk
theorem s_spec_lgRun {l1 : List ((ByteArray × ((Int × Int × Int))))} {c2 : (Int × ByteArray × ByteArray × ByteArray × ((Int × Int × Int)))} {r : ((List ((ByteArray × ((Int × Int × Int))))) × Int)} (h : r_spec_lgRun l1 c2 = some r) : z7 Tryz.prog 50 [.c (.sl (l1.map c73)), .ag [Ti c2.1, .v (.string c2.2.1), .v (.string c2.2.2.1), .v (.string c2.2.2.2.1), Ti c2.2.2.2.2.1, Ti c2.2.2.2.2.2.1, Ti c2.2.2.2.2.2.2]] (.tc (.ow 0) (.tc (I r.2) .tn)) [(0, .arr 73 4 (r.1.map c73))] := by
  refine zH (rs := [.t 4, .t 5]) (vs := [.tmp 4, .tmp 5]) Tryz.func50 rfl rfl (.cons rfl (.cons rfl FitsL.nil)) (by decide) 133 rfl ?_
  unfold r_spec_lgRun at h
  show V _ _ ⟨.c (.sl (l1.map c73)) :: .ag [Ti c2.1, .v (.string c2.2.1), .v (.string c2.2.2.1), .v (.string c2.2.2.2.1), Ti c2.2.2.2.2.1, Ti c2.2.2.2.2.2.1, Ti c2.2.2.2.2.2.2] :: bt 131 [], []⟩ _
  refine zG (mb 133 9) [24] (s1 := ⟨.c (.sl (l1.map c73)) :: .bot :: .bot :: .pt 24 0 :: bt 129 [], [(24, .box [Ti c2.1, .v (.string c2.2.1), .v (.string c2.2.2.1), .v (.string c2.2.2.2.1), Ti c2.2.2.2.2.1, Ti c2.2.2.2.2.2.1, Ti c2.2.2.2.2.2.2])]⟩) ?_ ?_
  ·refine XR 1 ?_
   refine L1 rfl rfl (Y1_nil (e := 73) 4 (by decide) (.inl rfl)) ?_
   exact XE
  obtain ⟨y3, hy3, h⟩ := zD h
  obtain ⟨y4, hy4, h⟩ := zD h
  obtain ⟨y5, hy5, h⟩ := zD h
  refine V_sdreg [0, 0, 2, 7, 0, 0, 32, 127, 0, 0, 512, 2047, 4095, 8191, 16383] 15 (cdm 15 [2763304, 2763266, 2763270, 2763285, 2762922, 2753194, 2754218, 2757973, 2665130, 174762, 436906, 1398101, 5592405, 22369621, 89478485]) (mb 133 457) [24] (s1 := ⟨.c (.sl (l1.map c73)) :: .bot :: .bot :: .pt 24 0 :: .bot :: .bot :: I y3 :: I y4 :: I y5 :: bt 124 [], [(24, .box [Ti c2.1, .v (.string c2.2.1), .v (.string c2.2.2.1), .v (.string c2.2.2.2.1), Ti c2.2.2.2.2.1, Ti c2.2.2.2.2.2.1, Ti c2.2.2.2.2.2.2])]⟩) kk kk ?_ ?_
  ·refine DR 3 ?_
   refine DC 3 (s_spec_lgFind hy3) cf_spec_lgFind rfl rfl rfl rfl 14 rfl ?_
   refine DR 3 ?_
   refine DC 7 (s_spec_lgFind hy4) cf_spec_lgFind rfl rfl rfl rfl 18 rfl ?_
   refine DR 3 ?_
   refine DC 11 (s_spec_lgFind hy5) cf_spec_lgFind rfl rfl rfl rfl 22 rfl ?_
   refine DA 3 ?_
   exact XE
  refine zG (mb 133 969) [24] (s1 := ⟨.c (.sl (l1.map c73)) :: .bot :: .bot :: .pt 24 0 :: .bot :: .bot :: I y3 :: I y4 :: I y5 :: Bo (bif (eqI c2.1 2) then true else (eqI c2.1 5)) :: bt 123 [], [(24, .box [Ti c2.1, .v (.string c2.2.1), .v (.string c2.2.2.1), .v (.string c2.2.2.2.1), Ti c2.2.2.2.2.1, Ti c2.2.2.2.2.2.1, Ti c2.2.2.2.2.2.2])]⟩) ?_ ?_
  ·refine XR 4 ?_
   refine zP (eqI c2.1 2) (fun hc6 => ?_) (fun hc6 => ?_)
   ·refine zL _ rfl rfl kk hc6 rfl ?_
    refine zL _ rfl rfl kk hc6 rfl ?_
    refine zL _ rfl rfl kk hc6 rfl ?_
    refine zJ rfl (zA rfl (zW (b := eqI c2.1 2) (p := true) (q := eqI c2.1 5) rfl kk hc6 kk)) ?_
    exact XE
   ·refine zB _ rfl rfl kk hc6 (zA rfl (qD (.pt 24 0) Tryz.underlying40 rfl sz3 rfl kk (by intro hh; cases hh))) ?_
    refine zB _ rfl rfl kk hc6 (zA rfl (qC (c := Ti c2.1) (cs := [.v (.string c2.2.1), .v (.string c2.2.2.1), .v (.string c2.2.2.2.1), Ti c2.2.2.2.2.1, Ti c2.2.2.2.2.2.1, Ti c2.2.2.2.2.2.2]) sc3 rfl kk)) ?_
    refine zB _ rfl rfl kk hc6 (zA rfl (Y0_eqw (k := .i64) (a := c2.1) (b := 5) rfl kk kk)) ?_
    refine zJ rfl (zA rfl (zT (b := eqI c2.1 2) (p := true) (q := eqI c2.1 5) rfl kk hc6 kk)) ?_
    exact XE
  refine zX ?_
  obtain ⟨t8, ht8, h⟩ := zD h
  have ht8 := zE ht8
  refine zG (mb 133 68719477705) [24] (s1 := ⟨.c (.sl (l1.map c73)) :: .bot :: .bot :: .pt 24 0 :: .bot :: .bot :: I y3 :: I y4 :: I y5 :: Bo (bif (eqI c2.1 2) then true else (eqI c2.1 5)) :: bt 26 (Bo t8 :: bt 96 []), [(24, .box [Ti c2.1, .v (.string c2.2.1), .v (.string c2.2.2.1), .v (.string c2.2.2.2.1), Ti c2.2.2.2.2.1, Ti c2.2.2.2.2.2.1, Ti c2.2.2.2.2.2.2])]⟩) ?_ ?_
  ·refine XR 3 ?_
   refine zP (!(bif (eqI c2.1 2) then true else (eqI c2.1 5))) (fun hc7 => ?_) (fun hc7 => ?_)
   ·refine zB _ rfl rfl kk hc7 (zA rfl (zY (I y3) rfl kk)) ?_
    refine zB _ rfl rfl kk hc7 (zA rfl (Y0_gew (k := .i64) (a := y3) (b := 0) rfl kk kk)) ?_
    refine zJ rfl (zA rfl (zW (b := !(bif (eqI c2.1 2) then true else (eqI c2.1 5))) (p := leI 0 y3) (q := false) rfl kk hc7 kk)) ?_
    refine zN ?_
    subst ht8
    kernel_rfl
   ·refine zF _ rfl rfl kk hc7 rfl ?_
    refine zF _ rfl rfl kk hc7 rfl ?_
    refine zJ rfl (zA rfl (zT (b := !(bif (eqI c2.1 2) then true else (eqI c2.1 5))) (p := leI 0 y3) (q := false) rfl kk hc7 kk)) ?_
    refine zN ?_
    subst ht8
    kernel_rfl
  refine zQ rfl (fun hc9 => ?_) (fun hc9 => ?_)
  ·have h := zM h hc9
   refine zG (mb 133 48) [32] (s1 := ⟨bt 4 (.ow 32 :: I 2 :: bt 127 []), [(32, .arr 73 4 ((([] : List ((ByteArray × ((Int × Int × Int)))))).map c73))]⟩) ?_ ?_
   ·refine L1 rfl rfl (Y1_nil (e := 73) 4 (by decide) (.inl rfl)) ?_
    exact XE
   refine zR ?_
   obtain rfl := zE h
   show Post _ _ _ _ _
   exact ⟨.inr rfl, rfl, rfl, rfl⟩
  ·have h := zK h hc9
   refine zV ?_
   show V _ _ _ _
   refine zX ?_
   obtain ⟨t15, ht15, h⟩ := zD h
   have ht15 := zE ht15
   refine zG (mb 133 576460752303423945) [24] (s1 := ⟨.c (.sl (l1.map c73)) :: .bot :: .bot :: .pt 24 0 :: .bot :: .bot :: I y3 :: I y4 :: I y5 :: bt 50 (Bo t15 :: bt 73 []), [(24, .box [Ti c2.1, .v (.string c2.2.1), .v (.string c2.2.2.1), .v (.string c2.2.2.2.1), Ti c2.2.2.2.2.1, Ti c2.2.2.2.2.2.1, Ti c2.2.2.2.2.2.2])]⟩) ?_ ?_
   ·refine XR 2 ?_
    refine zP (bif (eqI c2.1 2) then true else (eqI c2.1 5)) (fun hc10 => ?_) (fun hc10 => ?_)
    ·refine zB _ rfl rfl kk hc10 (zA rfl (zY (I y3) rfl kk)) ?_
     refine zB _ rfl rfl kk hc10 (zA rfl (Y0_ltw (k := .i64) (a := y3) (b := 0) rfl kk kk)) ?_
     refine zJ rfl (zA rfl (zW (b := bif (eqI c2.1 2) then true else (eqI c2.1 5)) (p := ltI y3 0) (q := false) rfl kk hc10 kk)) ?_
     refine XR 1 ?_
     refine zP (bif (bif (eqI c2.1 2) then true else (eqI c2.1 5)) then (ltI y3 0) else false) (fun hc11 => ?_) (fun hc11 => ?_)
     ·refine zL _ rfl rfl kk hc11 rfl ?_
      refine zL _ rfl rfl kk hc11 rfl ?_
      refine zL _ rfl rfl kk hc11 rfl ?_
      refine zL _ rfl rfl kk hc11 rfl ?_
      refine qA rfl rfl kk rfl ?_
      refine qA rfl rfl kk rfl ?_
      refine zL _ rfl rfl kk hc11 rfl ?_
      refine zJ rfl (zA rfl (zW (b := bif (bif (eqI c2.1 2) then true else (eqI c2.1 5)) then (ltI y3 0) else false) (p := true) (q := bif (!(c2.2.2.1.toList == ((⟨#[]⟩ : ByteArray)).toList)) then (ltI y4 0) else false) rfl kk hc11 kk)) ?_
      refine XR 1 ?_
      refine zP (bif (bif (bif (eqI c2.1 2) then true else (eqI c2.1 5)) then (ltI y3 0) else false) then true else (bif (!(c2.2.2.1.toList == ((⟨#[]⟩ : ByteArray)).toList)) then (ltI y4 0) else false)) (fun hc13 => ?_) (fun hc13 => ?_)
      ·refine zL _ rfl rfl kk hc13 rfl ?_
       refine zL _ rfl rfl kk hc13 rfl ?_
       refine zL _ rfl rfl kk hc13 rfl ?_
       refine zL _ rfl rfl kk hc13 rfl ?_
       refine qA rfl rfl kk rfl ?_
       refine qA rfl rfl kk rfl ?_
       refine zL _ rfl rfl kk hc13 rfl ?_
       refine zJ rfl (zA rfl (zW (b := bif (bif (bif (eqI c2.1 2) then true else (eqI c2.1 5)) then (ltI y3 0) else false) then true else (bif (!(c2.2.2.1.toList == ((⟨#[]⟩ : ByteArray)).toList)) then (ltI y4 0) else false)) (p := true) (q := bif (!(c2.2.2.2.1.toList == ((⟨#[]⟩ : ByteArray)).toList)) then (ltI y5 0) else false) rfl kk hc13 kk)) ?_
       refine zN ?_
       subst ht15
       kernel_rfl
      ·refine zB _ rfl rfl kk hc13 (zA rfl (qD (.pt 24 3) Tryz.underlying40 rfl sz9 rfl kk (by intro hh; cases hh))) ?_
       refine zB _ rfl rfl kk hc13 (zA rfl (qC (c := .v (.string c2.2.2.2.1)) (cs := [Ti c2.2.2.2.2.1, Ti c2.2.2.2.2.2.1, Ti c2.2.2.2.2.2.2]) sc9 rfl kk)) ?_
       refine zB _ rfl rfl kk hc13 (zA rfl (Y0_nes (a := c2.2.2.2.1) (b := ((⟨#[]⟩ : ByteArray))) rfl kk kk)) ?_
       refine zB _ rfl rfl kk hc13 (zA rfl (zY (Bo (!(c2.2.2.2.1.toList == ((⟨#[]⟩ : ByteArray)).toList))) rfl kk)) ?_
       refine zP (!(c2.2.2.2.1.toList == ((⟨#[]⟩ : ByteArray)).toList)) (fun hc14 => ?_) (fun hc14 => ?_)
       ·refine zB _ rfl rfl kk hc14 (zA rfl (zY (I y5) rfl kk)) ?_
        refine zB _ rfl rfl kk hc14 (zA rfl (Y0_ltw (k := .i64) (a := y5) (b := 0) rfl kk kk)) ?_
        refine zB _ rfl rfl kk hc13 (zA rfl (zW (b := !(c2.2.2.2.1.toList == ((⟨#[]⟩ : ByteArray)).toList)) (p := ltI y5 0) (q := false) rfl kk hc14 kk)) ?_
        refine zJ rfl (zA rfl (zT (b := bif (bif (bif (eqI c2.1 2) then true else (eqI c2.1 5)) then (ltI y3 0) else false) then true else (bif (!(c2.2.2.1.toList == ((⟨#[]⟩ : ByteArray)).toList)) then (ltI y4 0) else false)) (p := true) (q := bif (!(c2.2.2.2.1.toList == ((⟨#[]⟩ : ByteArray)).toList)) then (ltI y5 0) else false) rfl kk hc13 kk)) ?_
        refine zN ?_
        subst ht15
        kernel_rfl
       ·refine zF _ rfl rfl kk hc14 rfl ?_
        refine zF _ rfl rfl kk hc14 rfl ?_
        refine zB _ rfl rfl kk hc13 (zA rfl (zT (b := !(c2.2.2.2.1.toList == ((⟨#[]⟩ : ByteArray)).toList)) (p := ltI y5 0) (q := false) rfl kk hc14 kk)) ?_
        refine zJ rfl (zA rfl (zT (b := bif (bif (bif (eqI c2.1 2) then true else (eqI c2.1 5)) then (ltI y3 0) else false) then true else (bif (!(c2.2.2.1.toList == ((⟨#[]⟩ : ByteArray)).toList)) then (ltI y4 0) else false)) (p := true) (q := bif (!(c2.2.2.2.1.toList == ((⟨#[]⟩ : ByteArray)).toList)) then (ltI y5 0) else false) rfl kk hc13 kk)) ?_
        refine zN ?_
        subst ht15
        kernel_rfl
     ·refine zB _ rfl rfl kk hc11 (zA rfl (qD (.pt 24 2) Tryz.underlying40 rfl sz9 rfl kk (by intro hh; cases hh))) ?_
      refine zB _ rfl rfl kk hc11 (zA rfl (qC (c := .v (.string c2.2.2.1)) (cs := [.v (.string c2.2.2.2.1), Ti c2.2.2.2.2.1, Ti c2.2.2.2.2.2.1, Ti c2.2.2.2.2.2.2]) sc9 rfl kk)) ?_
      refine zB _ rfl rfl kk hc11 (zA rfl (Y0_nes (a := c2.2.2.1) (b := ((⟨#[]⟩ : ByteArray))) rfl kk kk)) ?_
      refine zB _ rfl rfl kk hc11 (zA rfl (zY (Bo (!(c2.2.2.1.toList == ((⟨#[]⟩ : ByteArray)).toList))) rfl kk)) ?_
      refine zP (!(c2.2.2.1.toList == ((⟨#[]⟩ : ByteArray)).toList)) (fun hc12 => ?_) (fun hc12 => ?_)
      ·refine zB _ rfl rfl kk hc12 (zA rfl (zY (I y4) rfl kk)) ?_
       refine zB _ rfl rfl kk hc12 (zA rfl (Y0_ltw (k := .i64) (a := y4) (b := 0) rfl kk kk)) ?_
       refine zB _ rfl rfl kk hc11 (zA rfl (zW (b := !(c2.2.2.1.toList == ((⟨#[]⟩ : ByteArray)).toList)) (p := ltI y4 0) (q := false) rfl kk hc12 kk)) ?_
       refine zJ rfl (zA rfl (zT (b := bif (bif (eqI c2.1 2) then true else (eqI c2.1 5)) then (ltI y3 0) else false) (p := true) (q := bif (!(c2.2.2.1.toList == ((⟨#[]⟩ : ByteArray)).toList)) then (ltI y4 0) else false) rfl kk hc11 kk)) ?_
       refine XR 1 ?_
       refine zP (bif (bif (bif (eqI c2.1 2) then true else (eqI c2.1 5)) then (ltI y3 0) else false) then true else (bif (!(c2.2.2.1.toList == ((⟨#[]⟩ : ByteArray)).toList)) then (ltI y4 0) else false)) (fun hc13 => ?_) (fun hc13 => ?_)
       ·refine zL _ rfl rfl kk hc13 rfl ?_
        refine zL _ rfl rfl kk hc13 rfl ?_
        refine zL _ rfl rfl kk hc13 rfl ?_
        refine zL _ rfl rfl kk hc13 rfl ?_
        refine qA rfl rfl kk rfl ?_
        refine qA rfl rfl kk rfl ?_
        refine zL _ rfl rfl kk hc13 rfl ?_
        refine zJ rfl (zA rfl (zW (b := bif (bif (bif (eqI c2.1 2) then true else (eqI c2.1 5)) then (ltI y3 0) else false) then true else (bif (!(c2.2.2.1.toList == ((⟨#[]⟩ : ByteArray)).toList)) then (ltI y4 0) else false)) (p := true) (q := bif (!(c2.2.2.2.1.toList == ((⟨#[]⟩ : ByteArray)).toList)) then (ltI y5 0) else false) rfl kk hc13 kk)) ?_
        refine zN ?_
        subst ht15
        kernel_rfl
       ·refine zB _ rfl rfl kk hc13 (zA rfl (qD (.pt 24 3) Tryz.underlying40 rfl sz9 rfl kk (by intro hh; cases hh))) ?_
        refine zB _ rfl rfl kk hc13 (zA rfl (qC (c := .v (.string c2.2.2.2.1)) (cs := [Ti c2.2.2.2.2.1, Ti c2.2.2.2.2.2.1, Ti c2.2.2.2.2.2.2]) sc9 rfl kk)) ?_
        refine zB _ rfl rfl kk hc13 (zA rfl (Y0_nes (a := c2.2.2.2.1) (b := ((⟨#[]⟩ : ByteArray))) rfl kk kk)) ?_
        refine zB _ rfl rfl kk hc13 (zA rfl (zY (Bo (!(c2.2.2.2.1.toList == ((⟨#[]⟩ : ByteArray)).toList))) rfl kk)) ?_
        refine zP (!(c2.2.2.2.1.toList == ((⟨#[]⟩ : ByteArray)).toList)) (fun hc14 => ?_) (fun hc14 => ?_)
        ·refine zB _ rfl rfl kk hc14 (zA rfl (zY (I y5) rfl kk)) ?_
         refine zB _ rfl rfl kk hc14 (zA rfl (Y0_ltw (k := .i64) (a := y5) (b := 0) rfl kk kk)) ?_
         refine zB _ rfl rfl kk hc13 (zA rfl (zW (b := !(c2.2.2.2.1.toList == ((⟨#[]⟩ : ByteArray)).toList)) (p := ltI y5 0) (q := false) rfl kk hc14 kk)) ?_
         refine zJ rfl (zA rfl (zT (b := bif (bif (bif (eqI c2.1 2) then true else (eqI c2.1 5)) then (ltI y3 0) else false) then true else (bif (!(c2.2.2.1.toList == ((⟨#[]⟩ : ByteArray)).toList)) then (ltI y4 0) else false)) (p := true) (q := bif (!(c2.2.2.2.1.toList == ((⟨#[]⟩ : ByteArray)).toList)) then (ltI y5 0) else false) rfl kk hc13 kk)) ?_
         refine zN ?_
         subst ht15
         kernel_rfl
        ·refine zF _ rfl rfl kk hc14 rfl ?_
         refine zF _ rfl rfl kk hc14 rfl ?_
         refine zB _ rfl rfl kk hc13 (zA rfl (zT (b := !(c2.2.2.2.1.toList == ((⟨#[]⟩ : ByteArray)).toList)) (p := ltI y5 0) (q := false) rfl kk hc14 kk)) ?_
         refine zJ rfl (zA rfl (zT (b := bif (bif (bif (eqI c2.1 2) then true else (eqI c2.1 5)) then (ltI y3 0) else false) then true else (bif (!(c2.2.2.1.toList == ((⟨#[]⟩ : ByteArray)).toList)) then (ltI y4 0) else false)) (p := true) (q := bif (!(c2.2.2.2.1.toList == ((⟨#[]⟩ : ByteArray)).toList)) then (ltI y5 0) else false) rfl kk hc13 kk)) ?_
         refine zN ?_
         subst ht15
         kernel_rfl
      ·refine zF _ rfl rfl kk hc12 rfl ?_
       refine zF _ rfl rfl kk hc12 rfl ?_
       refine zB _ rfl rfl kk hc11 (zA rfl (zT (b := !(c2.2.2.1.toList == ((⟨#[]⟩ : ByteArray)).toList)) (p := ltI y4 0) (q := false) rfl kk hc12 kk)) ?_
       refine zJ rfl (zA rfl (zT (b := bif (bif (eqI c2.1 2) then true else (eqI c2.1 5)) then (ltI y3 0) else false) (p := true) (q := bif (!(c2.2.2.1.toList == ((⟨#[]⟩ : ByteArray)).toList)) then (ltI y4 0) else false) rfl kk hc11 kk)) ?_
       refine XR 1 ?_
       refine zP (bif (bif (bif (eqI c2.1 2) then true else (eqI c2.1 5)) then (ltI y3 0) else false) then true else (bif (!(c2.2.2.1.toList == ((⟨#[]⟩ : ByteArray)).toList)) then (ltI y4 0) else false)) (fun hc13 => ?_) (fun hc13 => ?_)
       ·refine zL _ rfl rfl kk hc13 rfl ?_
        refine zL _ rfl rfl kk hc13 rfl ?_
        refine zL _ rfl rfl kk hc13 rfl ?_
        refine zL _ rfl rfl kk hc13 rfl ?_
        refine qA rfl rfl kk rfl ?_
        refine qA rfl rfl kk rfl ?_
        refine zL _ rfl rfl kk hc13 rfl ?_
        refine zJ rfl (zA rfl (zW (b := bif (bif (bif (eqI c2.1 2) then true else (eqI c2.1 5)) then (ltI y3 0) else false) then true else (bif (!(c2.2.2.1.toList == ((⟨#[]⟩ : ByteArray)).toList)) then (ltI y4 0) else false)) (p := true) (q := bif (!(c2.2.2.2.1.toList == ((⟨#[]⟩ : ByteArray)).toList)) then (ltI y5 0) else false) rfl kk hc13 kk)) ?_
        refine zN ?_
        subst ht15
        kernel_rfl
       ·refine zB _ rfl rfl kk hc13 (zA rfl (qD (.pt 24 3) Tryz.underlying40 rfl sz9 rfl kk (by intro hh; cases hh))) ?_
        refine zB _ rfl rfl kk hc13 (zA rfl (qC (c := .v (.string c2.2.2.2.1)) (cs := [Ti c2.2.2.2.2.1, Ti c2.2.2.2.2.2.1, Ti c2.2.2.2.2.2.2]) sc9 rfl kk)) ?_
        refine zB _ rfl rfl kk hc13 (zA rfl (Y0_nes (a := c2.2.2.2.1) (b := ((⟨#[]⟩ : ByteArray))) rfl kk kk)) ?_
        refine zB _ rfl rfl kk hc13 (zA rfl (zY (Bo (!(c2.2.2.2.1.toList == ((⟨#[]⟩ : ByteArray)).toList))) rfl kk)) ?_
        refine zP (!(c2.2.2.2.1.toList == ((⟨#[]⟩ : ByteArray)).toList)) (fun hc14 => ?_) (fun hc14 => ?_)
        ·refine zB _ rfl rfl kk hc14 (zA rfl (zY (I y5) rfl kk)) ?_
         refine zB _ rfl rfl kk hc14 (zA rfl (Y0_ltw (k := .i64) (a := y5) (b := 0) rfl kk kk)) ?_
         refine zB _ rfl rfl kk hc13 (zA rfl (zW (b := !(c2.2.2.2.1.toList == ((⟨#[]⟩ : ByteArray)).toList)) (p := ltI y5 0) (q := false) rfl kk hc14 kk)) ?_
         refine zJ rfl (zA rfl (zT (b := bif (bif (bif (eqI c2.1 2) then true else (eqI c2.1 5)) then (ltI y3 0) else false) then true else (bif (!(c2.2.2.1.toList == ((⟨#[]⟩ : ByteArray)).toList)) then (ltI y4 0) else false)) (p := true) (q := bif (!(c2.2.2.2.1.toList == ((⟨#[]⟩ : ByteArray)).toList)) then (ltI y5 0) else false) rfl kk hc13 kk)) ?_
         refine zN ?_
         subst ht15
         kernel_rfl
        ·refine zF _ rfl rfl kk hc14 rfl ?_
         refine zF _ rfl rfl kk hc14 rfl ?_
         refine zB _ rfl rfl kk hc13 (zA rfl (zT (b := !(c2.2.2.2.1.toList == ((⟨#[]⟩ : ByteArray)).toList)) (p := ltI y5 0) (q := false) rfl kk hc14 kk)) ?_
         refine zJ rfl (zA rfl (zT (b := bif (bif (bif (eqI c2.1 2) then true else (eqI c2.1 5)) then (ltI y3 0) else false) then true else (bif (!(c2.2.2.1.toList == ((⟨#[]⟩ : ByteArray)).toList)) then (ltI y4 0) else false)) (p := true) (q := bif (!(c2.2.2.2.1.toList == ((⟨#[]⟩ : ByteArray)).toList)) then (ltI y5 0) else false) rfl kk hc13 kk)) ?_
         refine zN ?_
         subst ht15
         kernel_rfl
    ·refine zF _ rfl rfl kk hc10 rfl ?_
     refine zF _ rfl rfl kk hc10 rfl ?_
     refine zJ rfl (zA rfl (zT (b := bif (eqI c2.1 2) then true else (eqI c2.1 5)) (p := ltI y3 0) (q := false) rfl kk hc10 kk)) ?_
     refine XR 1 ?_
     refine zP (bif (bif (eqI c2.1 2) then true else (eqI c2.1 5)) then (ltI y3 0) else false) (fun hc11 => ?_) (fun hc11 => ?_)
     ·refine zL _ rfl rfl kk hc11 rfl ?_
      refine zL _ rfl rfl kk hc11 rfl ?_
      refine zL _ rfl rfl kk hc11 rfl ?_
      refine zL _ rfl rfl kk hc11 rfl ?_
      refine qA rfl rfl kk rfl ?_
      refine qA rfl rfl kk rfl ?_
      refine zL _ rfl rfl kk hc11 rfl ?_
      refine zJ rfl (zA rfl (zW (b := bif (bif (eqI c2.1 2) then true else (eqI c2.1 5)) then (ltI y3 0) else false) (p := true) (q := bif (!(c2.2.2.1.toList == ((⟨#[]⟩ : ByteArray)).toList)) then (ltI y4 0) else false) rfl kk hc11 kk)) ?_
      refine XR 1 ?_
      refine zP (bif (bif (bif (eqI c2.1 2) then true else (eqI c2.1 5)) then (ltI y3 0) else false) then true else (bif (!(c2.2.2.1.toList == ((⟨#[]⟩ : ByteArray)).toList)) then (ltI y4 0) else false)) (fun hc13 => ?_) (fun hc13 => ?_)
      ·refine zL _ rfl rfl kk hc13 rfl ?_
       refine zL _ rfl rfl kk hc13 rfl ?_
       refine zL _ rfl rfl kk hc13 rfl ?_
       refine zL _ rfl rfl kk hc13 rfl ?_
       refine qA rfl rfl kk rfl ?_
       refine qA rfl rfl kk rfl ?_
       refine zL _ rfl rfl kk hc13 rfl ?_
       refine zJ rfl (zA rfl (zW (b := bif (bif (bif (eqI c2.1 2) then true else (eqI c2.1 5)) then (ltI y3 0) else false) then true else (bif (!(c2.2.2.1.toList == ((⟨#[]⟩ : ByteArray)).toList)) then (ltI y4 0) else false)) (p := true) (q := bif (!(c2.2.2.2.1.toList == ((⟨#[]⟩ : ByteArray)).toList)) then (ltI y5 0) else false) rfl kk hc13 kk)) ?_
       refine zN ?_
       subst ht15
       kernel_rfl
      ·refine zB _ rfl rfl kk hc13 (zA rfl (qD (.pt 24 3) Tryz.underlying40 rfl sz9 rfl kk (by intro hh; cases hh))) ?_
       refine zB _ rfl rfl kk hc13 (zA rfl (qC (c := .v (.string c2.2.2.2.1)) (cs := [Ti c2.2.2.2.2.1, Ti c2.2.2.2.2.2.1, Ti c2.2.2.2.2.2.2]) sc9 rfl kk)) ?_
       refine zB _ rfl rfl kk hc13 (zA rfl (Y0_nes (a := c2.2.2.2.1) (b := ((⟨#[]⟩ : ByteArray))) rfl kk kk)) ?_
       refine zB _ rfl rfl kk hc13 (zA rfl (zY (Bo (!(c2.2.2.2.1.toList == ((⟨#[]⟩ : ByteArray)).toList))) rfl kk)) ?_
       refine zP (!(c2.2.2.2.1.toList == ((⟨#[]⟩ : ByteArray)).toList)) (fun hc14 => ?_) (fun hc14 => ?_)
       ·refine zB _ rfl rfl kk hc14 (zA rfl (zY (I y5) rfl kk)) ?_
        refine zB _ rfl rfl kk hc14 (zA rfl (Y0_ltw (k := .i64) (a := y5) (b := 0) rfl kk kk)) ?_
        refine zB _ rfl rfl kk hc13 (zA rfl (zW (b := !(c2.2.2.2.1.toList == ((⟨#[]⟩ : ByteArray)).toList)) (p := ltI y5 0) (q := false) rfl kk hc14 kk)) ?_
        refine zJ rfl (zA rfl (zT (b := bif (bif (bif (eqI c2.1 2) then true else (eqI c2.1 5)) then (ltI y3 0) else false) then true else (bif (!(c2.2.2.1.toList == ((⟨#[]⟩ : ByteArray)).toList)) then (ltI y4 0) else false)) (p := true) (q := bif (!(c2.2.2.2.1.toList == ((⟨#[]⟩ : ByteArray)).toList)) then (ltI y5 0) else false) rfl kk hc13 kk)) ?_
        refine zN ?_
        subst ht15
        kernel_rfl
       ·refine zF _ rfl rfl kk hc14 rfl ?_
        refine zF _ rfl rfl kk hc14 rfl ?_
        refine zB _ rfl rfl kk hc13 (zA rfl (zT (b := !(c2.2.2.2.1.toList == ((⟨#[]⟩ : ByteArray)).toList)) (p := ltI y5 0) (q := false) rfl kk hc14 kk)) ?_
        refine zJ rfl (zA rfl (zT (b := bif (bif (bif (eqI c2.1 2) then true else (eqI c2.1 5)) then (ltI y3 0) else false) then true else (bif (!(c2.2.2.1.toList == ((⟨#[]⟩ : ByteArray)).toList)) then (ltI y4 0) else false)) (p := true) (q := bif (!(c2.2.2.2.1.toList == ((⟨#[]⟩ : ByteArray)).toList)) then (ltI y5 0) else false) rfl kk hc13 kk)) ?_
        refine zN ?_
        subst ht15
        kernel_rfl
     ·refine zB _ rfl rfl kk hc11 (zA rfl (qD (.pt 24 2) Tryz.underlying40 rfl sz9 rfl kk (by intro hh; cases hh))) ?_
      refine zB _ rfl rfl kk hc11 (zA rfl (qC (c := .v (.string c2.2.2.1)) (cs := [.v (.string c2.2.2.2.1), Ti c2.2.2.2.2.1, Ti c2.2.2.2.2.2.1, Ti c2.2.2.2.2.2.2]) sc9 rfl kk)) ?_
      refine zB _ rfl rfl kk hc11 (zA rfl (Y0_nes (a := c2.2.2.1) (b := ((⟨#[]⟩ : ByteArray))) rfl kk kk)) ?_
      refine zB _ rfl rfl kk hc11 (zA rfl (zY (Bo (!(c2.2.2.1.toList == ((⟨#[]⟩ : ByteArray)).toList))) rfl kk)) ?_
      refine zP (!(c2.2.2.1.toList == ((⟨#[]⟩ : ByteArray)).toList)) (fun hc12 => ?_) (fun hc12 => ?_)
      ·refine zB _ rfl rfl kk hc12 (zA rfl (zY (I y4) rfl kk)) ?_
       refine zB _ rfl rfl kk hc12 (zA rfl (Y0_ltw (k := .i64) (a := y4) (b := 0) rfl kk kk)) ?_
       refine zB _ rfl rfl kk hc11 (zA rfl (zW (b := !(c2.2.2.1.toList == ((⟨#[]⟩ : ByteArray)).toList)) (p := ltI y4 0) (q := false) rfl kk hc12 kk)) ?_
       refine zJ rfl (zA rfl (zT (b := bif (bif (eqI c2.1 2) then true else (eqI c2.1 5)) then (ltI y3 0) else false) (p := true) (q := bif (!(c2.2.2.1.toList == ((⟨#[]⟩ : ByteArray)).toList)) then (ltI y4 0) else false) rfl kk hc11 kk)) ?_
       refine XR 1 ?_
       refine zP (bif (bif (bif (eqI c2.1 2) then true else (eqI c2.1 5)) then (ltI y3 0) else false) then true else (bif (!(c2.2.2.1.toList == ((⟨#[]⟩ : ByteArray)).toList)) then (ltI y4 0) else false)) (fun hc13 => ?_) (fun hc13 => ?_)
       ·refine zL _ rfl rfl kk hc13 rfl ?_
        refine zL _ rfl rfl kk hc13 rfl ?_
        refine zL _ rfl rfl kk hc13 rfl ?_
        refine zL _ rfl rfl kk hc13 rfl ?_
        refine qA rfl rfl kk rfl ?_
        refine qA rfl rfl kk rfl ?_
        refine zL _ rfl rfl kk hc13 rfl ?_
        refine zJ rfl (zA rfl (zW (b := bif (bif (bif (eqI c2.1 2) then true else (eqI c2.1 5)) then (ltI y3 0) else false) then true else (bif (!(c2.2.2.1.toList == ((⟨#[]⟩ : ByteArray)).toList)) then (ltI y4 0) else false)) (p := true) (q := bif (!(c2.2.2.2.1.toList == ((⟨#[]⟩ : ByteArray)).toList)) then (ltI y5 0) else false) rfl kk hc13 kk)) ?_
        refine zN ?_
        subst ht15
        kernel_rfl
       ·refine zB _ rfl rfl kk hc13 (zA rfl (qD (.pt 24 3) Tryz.underlying40 rfl sz9 rfl kk (by intro hh; cases hh))) ?_
        refine zB _ rfl rfl kk hc13 (zA rfl (qC (c := .v (.string c2.2.2.2.1)) (cs := [Ti c2.2.2.2.2.1, Ti c2.2.2.2.2.2.1, Ti c2.2.2.2.2.2.2]) sc9 rfl kk)) ?_
        refine zB _ rfl rfl kk hc13 (zA rfl (Y0_nes (a := c2.2.2.2.1) (b := ((⟨#[]⟩ : ByteArray))) rfl kk kk)) ?_
        refine zB _ rfl rfl kk hc13 (zA rfl (zY (Bo (!(c2.2.2.2.1.toList == ((⟨#[]⟩ : ByteArray)).toList))) rfl kk)) ?_
        refine zP (!(c2.2.2.2.1.toList == ((⟨#[]⟩ : ByteArray)).toList)) (fun hc14 => ?_) (fun hc14 => ?_)
        ·refine zB _ rfl rfl kk hc14 (zA rfl (zY (I y5) rfl kk)) ?_
         refine zB _ rfl rfl kk hc14 (zA rfl (Y0_ltw (k := .i64) (a := y5) (b := 0) rfl kk kk)) ?_
         refine zB _ rfl rfl kk hc13 (zA rfl (zW (b := !(c2.2.2.2.1.toList == ((⟨#[]⟩ : ByteArray)).toList)) (p := ltI y5 0) (q := false) rfl kk hc14 kk)) ?_
         refine zJ rfl (zA rfl (zT (b := bif (bif (bif (eqI c2.1 2) then true else (eqI c2.1 5)) then (ltI y3 0) else false) then true else (bif (!(c2.2.2.1.toList == ((⟨#[]⟩ : ByteArray)).toList)) then (ltI y4 0) else false)) (p := true) (q := bif (!(c2.2.2.2.1.toList == ((⟨#[]⟩ : ByteArray)).toList)) then (ltI y5 0) else false) rfl kk hc13 kk)) ?_
         refine zN ?_
         subst ht15
         kernel_rfl
        ·refine zF _ rfl rfl kk hc14 rfl ?_
         refine zF _ rfl rfl kk hc14 rfl ?_
         refine zB _ rfl rfl kk hc13 (zA rfl (zT (b := !(c2.2.2.2.1.toList == ((⟨#[]⟩ : ByteArray)).toList)) (p := ltI y5 0) (q := false) rfl kk hc14 kk)) ?_
         refine zJ rfl (zA rfl (zT (b := bif (bif (bif (eqI c2.1 2) then true else (eqI c2.1 5)) then (ltI y3 0) else false) then true else (bif (!(c2.2.2.1.toList == ((⟨#[]⟩ : ByteArray)).toList)) then (ltI y4 0) else false)) (p := true) (q := bif (!(c2.2.2.2.1.toList == ((⟨#[]⟩ : ByteArray)).toList)) then (ltI y5 0) else false) rfl kk hc13 kk)) ?_
         refine zN ?_
         subst ht15
         kernel_rfl
      ·refine zF _ rfl rfl kk hc12 rfl ?_
       refine zF _ rfl rfl kk hc12 rfl ?_
       refine zB _ rfl rfl kk hc11 (zA rfl (zT (b := !(c2.2.2.1.toList == ((⟨#[]⟩ : ByteArray)).toList)) (p := ltI y4 0) (q := false) rfl kk hc12 kk)) ?_
       refine zJ rfl (zA rfl (zT (b := bif (bif (eqI c2.1 2) then true else (eqI c2.1 5)) then (ltI y3 0) else false) (p := true) (q := bif (!(c2.2.2.1.toList == ((⟨#[]⟩ : ByteArray)).toList)) then (ltI y4 0) else false) rfl kk hc11 kk)) ?_
       refine XR 1 ?_
       refine zP (bif (bif (bif (eqI c2.1 2) then true else (eqI c2.1 5)) then (ltI y3 0) else false) then true else (bif (!(c2.2.2.1.toList == ((⟨#[]⟩ : ByteArray)).toList)) then (ltI y4 0) else false)) (fun hc13 => ?_) (fun hc13 => ?_)
       ·refine zL _ rfl rfl kk hc13 rfl ?_
        refine zL _ rfl rfl kk hc13 rfl ?_
        refine zL _ rfl rfl kk hc13 rfl ?_
        refine zL _ rfl rfl kk hc13 rfl ?_
        refine qA rfl rfl kk rfl ?_
        refine qA rfl rfl kk rfl ?_
        refine zL _ rfl rfl kk hc13 rfl ?_
        refine zJ rfl (zA rfl (zW (b := bif (bif (bif (eqI c2.1 2) then true else (eqI c2.1 5)) then (ltI y3 0) else false) then true else (bif (!(c2.2.2.1.toList == ((⟨#[]⟩ : ByteArray)).toList)) then (ltI y4 0) else false)) (p := true) (q := bif (!(c2.2.2.2.1.toList == ((⟨#[]⟩ : ByteArray)).toList)) then (ltI y5 0) else false) rfl kk hc13 kk)) ?_
        refine zN ?_
        subst ht15
        kernel_rfl
       ·refine zB _ rfl rfl kk hc13 (zA rfl (qD (.pt 24 3) Tryz.underlying40 rfl sz9 rfl kk (by intro hh; cases hh))) ?_
        refine zB _ rfl rfl kk hc13 (zA rfl (qC (c := .v (.string c2.2.2.2.1)) (cs := [Ti c2.2.2.2.2.1, Ti c2.2.2.2.2.2.1, Ti c2.2.2.2.2.2.2]) sc9 rfl kk)) ?_
        refine zB _ rfl rfl kk hc13 (zA rfl (Y0_nes (a := c2.2.2.2.1) (b := ((⟨#[]⟩ : ByteArray))) rfl kk kk)) ?_
        refine zB _ rfl rfl kk hc13 (zA rfl (zY (Bo (!(c2.2.2.2.1.toList == ((⟨#[]⟩ : ByteArray)).toList))) rfl kk)) ?_
        refine zP (!(c2.2.2.2.1.toList == ((⟨#[]⟩ : ByteArray)).toList)) (fun hc14 => ?_) (fun hc14 => ?_)
        ·refine zB _ rfl rfl kk hc14 (zA rfl (zY (I y5) rfl kk)) ?_
         refine zB _ rfl rfl kk hc14 (zA rfl (Y0_ltw (k := .i64) (a := y5) (b := 0) rfl kk kk)) ?_
         refine zB _ rfl rfl kk hc13 (zA rfl (zW (b := !(c2.2.2.2.1.toList == ((⟨#[]⟩ : ByteArray)).toList)) (p := ltI y5 0) (q := false) rfl kk hc14 kk)) ?_
         refine zJ rfl (zA rfl (zT (b := bif (bif (bif (eqI c2.1 2) then true else (eqI c2.1 5)) then (ltI y3 0) else false) then true else (bif (!(c2.2.2.1.toList == ((⟨#[]⟩ : ByteArray)).toList)) then (ltI y4 0) else false)) (p := true) (q := bif (!(c2.2.2.2.1.toList == ((⟨#[]⟩ : ByteArray)).toList)) then (ltI y5 0) else false) rfl kk hc13 kk)) ?_
         refine zN ?_
         subst ht15
         kernel_rfl
        ·refine zF _ rfl rfl kk hc14 rfl ?_
         refine zF _ rfl rfl kk hc14 rfl ?_
         refine zB _ rfl rfl kk hc13 (zA rfl (zT (b := !(c2.2.2.2.1.toList == ((⟨#[]⟩ : ByteArray)).toList)) (p := ltI y5 0) (q := false) rfl kk hc14 kk)) ?_
         refine zJ rfl (zA rfl (zT (b := bif (bif (bif (eqI c2.1 2) then true else (eqI c2.1 5)) then (ltI y3 0) else false) then true else (bif (!(c2.2.2.1.toList == ((⟨#[]⟩ : ByteArray)).toList)) then (ltI y4 0) else false)) (p := true) (q := bif (!(c2.2.2.2.1.toList == ((⟨#[]⟩ : ByteArray)).toList)) then (ltI y5 0) else false) rfl kk hc13 kk)) ?_
         refine zN ?_
         subst ht15
         kernel_rfl
   refine zQ rfl (fun hc16 => ?_) (fun hc16 => ?_)
   ·have h := zM h hc16
    refine zG (mb 133 48) [32] (s1 := ⟨bt 4 (.ow 32 :: I 3 :: bt 127 []), [(32, .arr 73 4 ((([] : List ((ByteArray × ((Int × Int × Int)))))).map c73))]⟩) ?_ ?_
    ·refine L1 rfl rfl (Y1_nil (e := 73) 4 (by decide) (.inl rfl)) ?_
     exact XE
    refine zR ?_
    obtain rfl := zE h
    show Post _ _ _ _ _
    exact ⟨.inr rfl, rfl, rfl, rfl⟩
   ·have h := zK h hc16
    refine zV ?_
    show V _ _ _ _
    refine V_e (mb 133 1481) [80, 24] (s1 := ⟨.c (.sl (l1.map c73)) :: .bot :: .bot :: .pt 24 0 :: .bot :: .bot :: I y3 :: I y4 :: I y5 :: .bot :: .pt 80 0 :: bt 122 [], [(80, .box [Ti c2.2.2.2.2.1, Ti c2.2.2.2.2.2.1, Ti c2.2.2.2.2.2.2]), (24, .box [Ti c2.1, .v (.string c2.2.1), .v (.string c2.2.2.1), .v (.string c2.2.2.2.1), Ti c2.2.2.2.2.1, Ti c2.2.2.2.2.2.1, Ti c2.2.2.2.2.2.2])]⟩) ?_
    obtain ⟨qo17, hLo17, hko17⟩ := zD h
    clear h
    refine V_cutS (q := qo17) (S := fun o17 => ⟨.c (.sl (l1.map c73)) :: .bot :: .bot :: .pt 24 0 :: bt 6 (.pt 80 0 :: bt 122 []), [(80, .box [Ti o17.1, Ti o17.2.1, Ti o17.2.2]), (24, .box [Ti c2.1, .v (.string c2.2.1), .v (.string c2.2.2.1), .v (.string c2.2.2.2.1), Ti c2.2.2.2.2.1, Ti c2.2.2.2.2.2.1, Ti c2.2.2.2.2.2.2])]⟩) (mb 133 1033) [80, 24] ?_ ?_
    ·have h := hLo17
     clear hLo17
     refine V_e (mb 133 9223372036854777289) [80, 24] (s1 := ⟨.c (.sl (l1.map c73)) :: .bot :: .bot :: .pt 24 0 :: .bot :: .bot :: I y3 :: I y4 :: I y5 :: .bot :: .pt 80 0 :: bt 52 (I c2.1 :: bt 69 []), [(80, .box [Ti c2.2.2.2.2.1, Ti c2.2.2.2.2.2.1, Ti c2.2.2.2.2.2.2]), (24, .box [Ti c2.1, .v (.string c2.2.1), .v (.string c2.2.2.1), .v (.string c2.2.2.2.1), Ti c2.2.2.2.2.1, Ti c2.2.2.2.2.2.1, Ti c2.2.2.2.2.2.2])]⟩) ?_
     refine zZ ?_
     refine V_e (mb 133 27670116110564328905) [80, 24] (s1 := ⟨.c (.sl (l1.map c73)) :: .bot :: .bot :: .pt 24 0 :: .bot :: .bot :: I y3 :: I y4 :: I y5 :: .bot :: .pt 80 0 :: bt 52 (I c2.1 :: Bo (eqI c2.1 2) :: bt 68 []), [(80, .box [Ti c2.2.2.2.2.1, Ti c2.2.2.2.2.2.1, Ti c2.2.2.2.2.2.2]), (24, .box [Ti c2.1, .v (.string c2.2.1), .v (.string c2.2.2.1), .v (.string c2.2.2.2.1), Ti c2.2.2.2.2.1, Ti c2.2.2.2.2.2.1, Ti c2.2.2.2.2.2.2])]⟩) ?_
     refine zQ rfl (fun hc18 => ?_) (fun hc18 => ?_)
     ·have h := zM h hc18
      obtain ⟨y19, hy19, h⟩ := zD h
      refine zG (mb 133 48) [544] (s1 := ⟨bt 4 (.ow 544 :: I 0 :: bt 127 []), [(544, .arr 73 4 (y19.map c73))]⟩) ?_ ?_
      ·refine XR 2 ?_
       refine XC (s_spec_lgDrop hy19) cf_spec_lgDrop rfl rfl rfl ?_
       exact XE
      refine zR ?_
      obtain rfl := zE h
      have h := hko17
      obtain rfl := zE h
      show Post _ _ _ _ _
      exact ⟨.inr rfl, rfl, rfl, rfl⟩
     ·have h := zK h hc18
      refine V_e (mb 133 599519182395560429001) [80, 24] (s1 := ⟨.c (.sl (l1.map c73)) :: .bot :: .bot :: .pt 24 0 :: .bot :: .bot :: I y3 :: I y4 :: I y5 :: .bot :: .pt 80 0 :: bt 52 (I c2.1 :: bt 5 (Bo (eqI c2.1 5) :: bt 63 [])), [(80, .box [Ti c2.2.2.2.2.1, Ti c2.2.2.2.2.2.1, Ti c2.2.2.2.2.2.2]), (24, .box [Ti c2.1, .v (.string c2.2.1), .v (.string c2.2.2.1), .v (.string c2.2.2.2.1), Ti c2.2.2.2.2.1, Ti c2.2.2.2.2.2.1, Ti c2.2.2.2.2.2.2])]⟩) ?_
      refine zQ rfl (fun hc20 => ?_) (fun hc20 => ?_)
      ·have h := zM h hc20
       refine zX ?_
       obtain ⟨y21, hy21, h⟩ := zD h
       obtain ⟨e22, he22, h⟩ := zD h
       obtain ⟨y23, hy23, h⟩ := zD h
       obtain ⟨t24, ht24, h⟩ := zD h
       have ht24 := zE ht24
       refine V_sdreg [0, 1, 3, 0, 0, 24, 56, 120, 255, 511] 10 (cdm 10 [43648, 43649, 43653, 554, 170, 362, 1386, 5482, 21845, 87381]) (mb 133 1208925819614629174706249) [24] (s1 := ⟨.c (.sl (l1.map c73)) :: .bot :: .bot :: .pt 24 0 :: .bot :: .bot :: I y3 :: bt 73 (Bo t24 :: bt 52 []), [(24, .box [Ti c2.1, .v (.string c2.2.1), .v (.string c2.2.2.1), .v (.string c2.2.2.2.1), Ti c2.2.2.2.2.1, Ti c2.2.2.2.2.2.1, Ti c2.2.2.2.2.2.2])]⟩) kk kk ?_ ?_
       ·refine DR 2 ?_
        refine DC 2 (s_spec_reClass hy21) cf_spec_reClass rfl rfl rfl rfl 73 rfl ?_
        refine DR 2 ?_
        refine DE_0 5 (.pe [.v (.string e22.1), Ti e22.2.1, Ti e22.2.2.1, Ti e22.2.2.2]) kk rfl rfl rfl (zO rfl) kk (Y0_idxM (c := c73) (xs := l1) (v := e22) (n := y3) Tryz.underlying43 sz73 rfl kk kk he22) 76 rfl ?_
        refine DR 2 ?_
        refine DC 8 (s_spec_reClass hy23) cf_spec_reClass rfl rfl rfl rfl 79 rfl ?_
        refine DE_0 9 (Bo (!((y21.1 == y23.1) && ((y21.2.1 == y23.2.1) && (y21.2.2 == y23.2.2))))) kk rfl rfl rfl (zO rfl) kk (Y0_neg3 (a0 := y21.1) (b0 := y23.1) (a1 := y21.2.1) (b1 := y23.2.1) (a2 := y21.2.2) (b2 := y23.2.2) neg38 rfl kk kk) 80 rfl ?_
        refine DA 0 ?_
        refine zN ?_
        subst ht24
        kernel_rfl
       refine zQ rfl (fun hc25 => ?_) (fun hc25 => ?_)
       ·have h := zM h hc25
        refine zG (mb 133 48) [32] (s1 := ⟨bt 4 (.ow 32 :: I 4 :: bt 127 []), [(32, .arr 73 4 ((([] : List ((ByteArray × ((Int × Int × Int)))))).map c73))]⟩) ?_ ?_
        ·refine L1 rfl rfl (Y1_nil (e := 73) 4 (by decide) (.inl rfl)) ?_
         exact XE
        refine zR ?_
        obtain rfl := zE h
        have h := hko17
        obtain rfl := zE h
        show Post _ _ _ _ _
        exact ⟨.inr rfl, rfl, rfl, rfl⟩
       ·have h := zK h hc25
        refine zV ?_
        show V _ _ _ _
        obtain ⟨y26, hy26, h⟩ := zD h
        obtain ⟨y27, hy27, h⟩ := zD h
        refine V_sdreg [0, 0, 3, 0, 8, 0, 32, 120, 255, 511, 1023] 11 (cdm 11 [43656, 43650, 43653, 10282, 10346, 682, 1706, 5482, 21845, 87381, 349525]) (mb 133 48) [712] (s1 := ⟨bt 4 (.ow 712 :: I 0 :: bt 127 []), [(712, .arr 73 4 (y27.map c73))]⟩) kk kk ?_ ?_
        ·refine DR 2 ?_
         refine DC 2 (s_spec_lgDrop hy26) cf_spec_lgDrop rfl rfl rfl rfl 83 rfl ?_
         refine DR 4 ?_
         refine DE_0 7 (.ag [.v (.string c2.2.1), Ti c2.2.2.2.2.1, Ti c2.2.2.2.2.2.1, Ti c2.2.2.2.2.2.2]) kk rfl rfl rfl (zO rfl) kk (qE (cs := [.v (.string c2.2.1), Ti c2.2.2.2.2.1, Ti c2.2.2.2.2.2.1, Ti c2.2.2.2.2.2.2]) pl73 bt73 rfl rfl kk) 88 rfl ?_
         refine DE_1 8 kk rfl rfl rfl (zO rfl) (Y1_callS (s_spec_lgPut hy27) cf_spec_lgPut rfl kk rfl (flatE_cons (fun _ => rfl) rfl)) rfl rfl rfl 89 rfl ?_
         refine DA 2 ?_
         exact XE
        refine zR ?_
        obtain rfl := zE h
        have h := hko17
        obtain rfl := zE h
        show Post _ _ _ _ _
        exact ⟨.inr rfl, rfl, rfl, rfl⟩
      ·have h := zK h hc20
       refine V_e (mb 133 1237940048508752311753901449) [80, 24] (s1 := ⟨.c (.sl (l1.map c73)) :: .bot :: .bot :: .pt 24 0 :: bt 3 (I y4 :: I y5 :: .bot :: .pt 80 0 :: bt 52 (I c2.1 :: bt 26 (Bo (eqI c2.1 3) :: bt 42 []))), [(80, .box [Ti c2.2.2.2.2.1, Ti c2.2.2.2.2.2.1, Ti c2.2.2.2.2.2.2]), (24, .box [Ti c2.1, .v (.string c2.2.1), .v (.string c2.2.2.1), .v (.string c2.2.2.2.1), Ti c2.2.2.2.2.1, Ti c2.2.2.2.2.2.1, Ti c2.2.2.2.2.2.2])]⟩) ?_
       refine zQ rfl (fun hc28 => ?_) (fun hc28 => ?_)
       ·have h := zM h hc28
        refine zX ?_
        obtain ⟨e29, he29, h⟩ := zD h
        obtain ⟨y30, hy30, h⟩ := zD h
        obtain ⟨e31, he31, h⟩ := zD h
        obtain ⟨y32, hy32, h⟩ := zD h
        refine V_sdreg [0, 0, 3, 7, 15, 31, 0, 0, 192, 448, 960, 2047, 4095] 13 (cdm 13 [2793480, 2793474, 2793477, 2793493, 2793557, 2793813, 35498, 10922, 23210, 88746, 350890, 1398101, 5592405]) (mb 133 20282409603651670423947251287433) [80, 24] (s1 := ⟨.c (.sl (l1.map c73)) :: .bot :: .bot :: .pt 24 0 :: bt 3 (I y4 :: I y5 :: .bot :: .pt 80 0 :: bt 93 (Bo (!eqI y30 y32) :: bt 28 [])), [(80, .box [Ti c2.2.2.2.2.1, Ti c2.2.2.2.2.2.1, Ti c2.2.2.2.2.2.2]), (24, .box [Ti c2.1, .v (.string c2.2.1), .v (.string c2.2.2.1), .v (.string c2.2.2.2.1), Ti c2.2.2.2.2.1, Ti c2.2.2.2.2.2.1, Ti c2.2.2.2.2.2.2])]⟩) kk kk ?_ ?_
        ·refine DR 2 ?_
         refine DE_0 2 (.pe [.v (.string e29.1), Ti e29.2.1, Ti e29.2.2.1, Ti e29.2.2.2]) kk rfl rfl rfl (zO rfl) kk (Y0_idxM (c := c73) (xs := l1) (v := e29) (n := y4) Tryz.underlying43 sz73 rfl kk kk he29) 94 rfl ?_
         refine DR 2 ?_
         refine DC 5 (s_spec_foDisc hy30) cf_spec_foDisc rfl rfl rfl rfl 97 rfl ?_
         refine DR 2 ?_
         refine DE_0 8 (.pe [.v (.string e31.1), Ti e31.2.1, Ti e31.2.2.1, Ti e31.2.2.2]) kk rfl rfl rfl (zO rfl) kk (Y0_idxM (c := c73) (xs := l1) (v := e31) (n := y5) Tryz.underlying43 sz73 rfl kk kk he31) 100 rfl ?_
         refine DR 2 ?_
         refine DC 11 (s_spec_foDisc hy32) cf_spec_foDisc rfl rfl rfl rfl 103 rfl ?_
         refine DA 1 ?_
         exact XE
        refine zQ rfl (fun hc33 => ?_) (fun hc33 => ?_)
        ·have h := zM h hc33
         refine zG (mb 133 48) [32] (s1 := ⟨bt 4 (.ow 32 :: I 4 :: bt 127 []), [(32, .arr 73 4 ((([] : List ((ByteArray × ((Int × Int × Int)))))).map c73))]⟩) ?_ ?_
         ·refine L1 rfl rfl (Y1_nil (e := 73) 4 (by decide) (.inl rfl)) ?_
          exact XE
         refine zR ?_
         obtain rfl := zE h
         have h := hko17
         obtain rfl := zE h
         show Post _ _ _ _ _
         exact ⟨.inr rfl, rfl, rfl, rfl⟩
        ·have h := zK h hc33
         refine zV ?_
         show V _ _ _ _
         obtain ⟨e34, he34, h⟩ := zD h
         obtain ⟨e35, he35, h⟩ := zD h
         obtain ⟨y36, hy36, h⟩ := zD h
         refine V_dreg [0, 0, 3, 7, 15, 0, 0, 96, 224, 480, 1023, 2047] 11 (cdm 11 [698376, 698370, 698373, 698389, 698453, 8874, 2730, 5802, 22186, 87722, 349525]) (mb 133 1033) [80, 24] (s1 := ⟨.c (.sl (l1.map c73)) :: .bot :: .bot :: .pt 24 0 :: bt 6 (.pt 80 0 :: bt 122 []), [(80, .box [Ti y36.1, Ti y36.2.1, Ti y36.2.2]), (24, .box [Ti c2.1, .v (.string c2.2.1), .v (.string c2.2.2.1), .v (.string c2.2.2.2.1), Ti c2.2.2.2.2.1, Ti c2.2.2.2.2.2.1, Ti c2.2.2.2.2.2.2])]⟩) kk kk ?_ ?_
         ·refine DR 2 ?_
          refine DE_0 2 (.pe [.v (.string e34.1), Ti e34.2.1, Ti e34.2.2.1, Ti e34.2.2.2]) kk rfl rfl rfl (zO rfl) kk (Y0_idxM (c := c73) (xs := l1) (v := e34) (n := y4) Tryz.underlying43 sz73 rfl kk kk he34) 107 rfl ?_
          refine DR 4 ?_
          refine DE_0 7 (.pe [.v (.string e35.1), Ti e35.2.1, Ti e35.2.2.1, Ti e35.2.2.2]) kk rfl rfl rfl (zO rfl) kk (Y0_idxM (c := c73) (xs := l1) (v := e35) (n := y5) Tryz.underlying43 sz73 rfl kk kk he35) 112 rfl ?_
          refine DR 2 ?_
          refine DC 10 (s_spec_coMul hy36) cf_spec_coMul rfl rfl rfl rfl 115 rfl ?_
          refine DA 0 ?_
          exact XE
         obtain rfl := zE h
         exact ⟨_, rfl, by rfl⟩
       ·have h := zK h hc28
        refine V_e (mb 133 83076749736557242056487941267522697) [80, 24] (s1 := ⟨.c (.sl (l1.map c73)) :: .bot :: .bot :: .pt 24 0 :: bt 3 (I y4 :: .bot :: .bot :: .pt 80 0 :: bt 105 (Bo (eqI c2.1 4) :: bt 16 [])), [(80, .box [Ti c2.2.2.2.2.1, Ti c2.2.2.2.2.2.1, Ti c2.2.2.2.2.2.2]), (24, .box [Ti c2.1, .v (.string c2.2.1), .v (.string c2.2.2.1), .v (.string c2.2.2.2.1), Ti c2.2.2.2.2.1, Ti c2.2.2.2.2.2.1, Ti c2.2.2.2.2.2.2])]⟩) ?_
        refine zQ rfl (fun hc37 => ?_) (fun hc37 => ?_)
        ·have h := zM h hc37
         obtain ⟨e38, he38, h⟩ := zD h
         obtain ⟨y39, hy39, h⟩ := zD h
         refine V_reg (mb 133 1033) [80, 24] (s1 := ⟨.c (.sl (l1.map c73)) :: .bot :: .bot :: .pt 24 0 :: bt 6 (.pt 80 0 :: bt 122 []), [(80, .box [Ti y39.1, Ti y39.2.1, Ti y39.2.2]), (24, .box [Ti c2.1, .v (.string c2.2.1), .v (.string c2.2.2.1), .v (.string c2.2.2.2.1), Ti c2.2.2.2.2.1, Ti c2.2.2.2.2.2.1, Ti c2.2.2.2.2.2.2])]⟩) ?_ ?_
         ·refine XR 2 ?_
          refine L0 rfl rfl (Y0_idxM (c := c73) (xs := l1) (v := e38) (n := y4) Tryz.underlying43 sz73 rfl kk kk he38) ?_
          refine XR 2 ?_
          refine XC (s_spec_coInverse hy39) cf_spec_coInverse rfl rfl rfl ?_
          exact XE
         obtain rfl := zE h
         exact ⟨_, rfl, by rfl⟩
        ·have h := zK h hc37
         refine zV ?_
         obtain rfl := zE h
         exact ⟨_, rfl, by rfl⟩
    rintro o17 rfl
    have h := hko17
    clear hko17
    refine zX ?_
    refine zG (mb 133 85070591730234615865843651857942053897) [80, 24] (s1 := ⟨.c (.sl (l1.map c73)) :: .bot :: .bot :: .pt 24 0 :: bt 6 (.pt 80 0 :: bt 115 (Bo (leI 20 ((l1.length : Int))) :: bt 6 [])), [(80, .box [Ti o17.1, Ti o17.2.1, Ti o17.2.2]), (24, .box [Ti c2.1, .v (.string c2.2.1), .v (.string c2.2.2.1), .v (.string c2.2.2.2.1), Ti c2.2.2.2.2.1, Ti c2.2.2.2.2.2.1, Ti c2.2.2.2.2.2.2])]⟩) ?_ ?_
    ·refine XR 1 ?_
     refine L0 rfl rfl (Y0_lenM (c := c73) (xs := l1) Tryz.underlying43 rfl kk) ?_
     exact XE
    refine zQ rfl (fun hc40 => ?_) (fun hc40 => ?_)
    ·have h := zM h hc40
     refine zG (mb 133 48) [32] (s1 := ⟨bt 4 (.ow 32 :: I 5 :: bt 127 []), [(32, .arr 73 4 ((([] : List ((ByteArray × ((Int × Int × Int)))))).map c73))]⟩) ?_ ?_
     ·refine L1 rfl rfl (Y1_nil (e := 73) 4 (by decide) (.inl rfl)) ?_
      exact XE
     refine zR ?_
     obtain rfl := zE h
     show Post _ _ _ _ _
     exact ⟨.inr rfl, rfl, rfl, rfl⟩
    ·have h := zK h hc40
     refine zV ?_
     show V _ _ _ _
     obtain ⟨y41, hy41, h⟩ := zD h
     refine zG (mb 133 48) [1056] (s1 := ⟨bt 4 (.ow 1056 :: I 0 :: bt 127 []), [(1056, .arr 73 4 (y41.map c73))]⟩) ?_ ?_
     ·refine XR 4 ?_
      refine L0 rfl rfl (qE (cs := [.v (.string c2.2.1), Ti o17.1, Ti o17.2.1, Ti o17.2.2]) pl73 bt73 rfl rfl kk) ?_
      refine XC (s_spec_lgPut hy41) cf_spec_lgPut rfl rfl rfl ?_
      exact XE
     refine zR ?_
     obtain rfl := zE h
     show Post _ _ _ _ _
     exact ⟨.inr rfl, rfl, rfl, rfl⟩
theorem cf_spec_lgReplay : ∀ args w, (callFunc 47 args).run Tryz.prog w = .ok (.enter 47 args) w := zI Tryz.func47 kk kk
theorem s_spec_lgReplay {vs1 : ByteArray} {r : ((List ((ByteArray × ((Int × Int × Int))))) × Int × Int × Int)} (h : r_spec_lgReplay vs1 = some r) : z7 Tryz.prog 47 [.c (.v (.string vs1))] (.tc (.c (.sl (r.1.map c73))) (.tc (I r.2.1) (.tc (I r.2.2.1) (.tc (I r.2.2.2) .tn)))) [] := by
  refine zH (rs := [.t 2, .t 3, .t 4, .t 5]) (vs := [.tmp 2, .tmp 3, .tmp 4, .tmp 5]) Tryz.func47 rfl rfl (.cons rfl (.cons rfl (.cons rfl (.cons rfl FitsL.nil)))) (by decide) 93 rfl ?_
  unfold r_spec_lgReplay at h
  show V _ _ ⟨.c (.v (.string vs1)) :: bt 92 [], []⟩ _
  refine zG (mb 93 1) [] (s1 := ⟨.c (.v (.string vs1)) :: bt 92 [], []⟩) ?_ ?_
  ·refine L1 rfl rfl (Y1_nil (e := 73) 4 (by decide) (.inl rfl)) ?_
   exact XE
  refine zG (mb 93 65) [48] (s1 := ⟨.c (.v (.string vs1)) :: bt 5 (.ow 48 :: bt 86 []), [(48, .arr 73 4 ((([] : List ((ByteArray × ((Int × Int × Int)))))).map c73))]⟩) ?_ ?_
  ·refine L1 rfl rfl (Y1_nil (e := 73) 4 (by decide) (.inl rfl)) ?_
   exact XE
  refine V_e (mb 93 961) [48] (s1 := ⟨.c (.v (.string vs1)) :: bt 5 (.ow 48 :: I 0 :: I 0 :: I 0 :: bt 83 []), [(48, .arr 73 4 ((([] : List ((ByteArray × ((Int × Int × Int)))))).map c73))]⟩) ?_
  refine zX ?_
  refine V_freeze 48 (T := 73) (sz := 4) (els := (([] : List ((ByteArray × ((Int × Int × Int)))))).map c73) (s1 := ⟨.c (.v (.string vs1)) :: bt 5 (.c (.sl ((([] : List ((ByteArray × ((Int × Int × Int)))))).map c73)) :: I 0 :: I 0 :: I 0 :: bt 83 []), []⟩) kk kk ?_
  obtain ⟨o7, hLo7, h⟩ := zD h
  refine V_toK (mb 93 960) [] (s1 := ⟨bt 6 (.c (.sl (o7.1.map c73)) :: I o7.2.1 :: I o7.2.2.1 :: I o7.2.2.2 :: bt 83 []), []⟩) ?_ ?_
  ·clear h
   refine zZ (V_loop (fun n s => ∃ (l2 : List ((ByteArray × ((Int × Int × Int))))) (records3 : Int) (vat4 : Int) (check5 : Int), s.keep (mb 93 961) [] = (⟨.c (.v (.string vs1)) :: bt 5 (.c (.sl (l2.map c73)) :: I records3 :: I vat4 :: I check5 :: bt 83 []), []⟩ : St) ∧ r_spec_lgReplay_L6 vs1 n l2 records3 vat4 check5 = some o7) FU ⟨_, _, _, _,  by rfl, hLo7⟩ ?_)
   clear hLo7
   rintro n s ⟨l2, records3, vat4, check5, hs, h⟩
   refine V_keep _ _ hs ?_
   clear hs
   cases n with
   | zero => cases h
   | succ n =>
    rw [r_spec_lgReplay_L6] at h
    refine zX ?_
    refine V_e (mb 93 132033) [] (s1 := ⟨.c (.v (.string vs1)) :: bt 5 (.c (.sl (l2.map c73)) :: I records3 :: I vat4 :: I check5 :: bt 7 (Bo (ltI records3 40) :: bt 75 [])), []⟩) ?_
    refine zQ rfl (fun hc8 => ?_) (fun hc8 => ?_)
    ·have h := zM h hc8
     refine zV ?_
     show V _ _ _ _
     refine zZ ?_
     refine V_e (mb 93 1985) [] (s1 := ⟨.c (.v (.string vs1)) :: bt 5 (.c (.sl (l2.map c73)) :: I records3 :: I vat4 :: I check5 :: I vat4 :: bt 82 []), []⟩) ?_
     refine zX ?_
     obtain ⟨o11, hLo11, h⟩ := zD h
     refine V_toK (mb 93 1985) [] (s1 := ⟨.c (.v (.string vs1)) :: bt 5 (.c (.sl (l2.map c73)) :: I records3 :: I vat4 :: I check5 :: I o11 :: bt 82 []), []⟩) ?_ ?_
     ·clear h
      refine zZ (V_loop (fun n s => ∃ (vend9 : Int), s.keep (mb 93 1985) [] = (⟨.c (.v (.string vs1)) :: bt 5 (.c (.sl (l2.map c73)) :: I records3 :: I vat4 :: I check5 :: I vend9 :: bt 82 []), []⟩ : St) ∧ r_spec_lgReplay_L10 check5 l2 records3 vat4 vs1 n vend9 = some o11) FU ⟨_,  by rfl, hLo11⟩ ?_)
      clear hLo11
      rintro n s ⟨vend9, hs, h⟩
      refine V_keep _ _ hs ?_
      clear hs
      cases n with
      | zero => cases h
      | succ n =>
       rw [r_spec_lgReplay_L10] at h
       refine zX ?_
       obtain ⟨b14, hb14, h⟩ := zD h
       refine zG (mb 93 268437441) [] (s1 := ⟨.c (.v (.string vs1)) :: bt 5 (.c (.sl (l2.map c73)) :: I records3 :: I vat4 :: I check5 :: I vend9 :: bt 17 (Bo b14 :: bt 64 [])), []⟩) ?_ ?_
       ·refine XR 2 ?_
        refine L0 rfl rfl (Y0_lens (b := vs1) Tryz.underlying9 rfl kk) ?_
        refine XR 2 ?_
        refine zP (ltI vend9 ((vs1.size : Int))) (fun hc12 => ?_) (fun hc12 => ?_)
        ·have hb14 := zM hb14 hc12
         obtain ⟨e13, he13, hb14⟩ := zD hb14
         have hb14 := zE hb14
         refine zB _ rfl rfl kk hc12 (zA rfl (zY (.c (.v (.string vs1))) rfl kk)) ?_
         refine zB _ rfl rfl kk hc12 (zA rfl (zY (I vend9) rfl kk)) ?_
         refine zB _ rfl rfl kk hc12 (zA rfl (Y0_idxs (b := vs1) (k := .i64) (n := vend9) (v := e13) Tryz.underlying9 rfl kk kk he13)) ?_
         refine zB _ rfl rfl kk hc12 (zA rfl (Y0_new (k := .u8) (a := e13) (b := 10) rfl kk kk)) ?_
         refine zJ rfl (zA rfl (Y0_pickTe (b := ltI vend9 ((vs1.size : Int))) (p := !eqI e13 10) rfl kk hc12 kk hb14)) ?_
         exact XE
        ·have hb14 := zE (zK hb14 hc12)
         refine zF _ rfl rfl kk hc12 rfl ?_
         refine zF _ rfl rfl kk hc12 rfl ?_
         refine zF _ rfl rfl kk hc12 rfl ?_
         refine zF _ rfl rfl kk hc12 rfl ?_
         refine zJ rfl (zA rfl (Y0_pickFe (b := ltI vend9 ((vs1.size : Int))) (p := false) rfl kk hc12 kk hb14)) ?_
         exact XE
       refine zQ rfl (fun hc15 => ?_) (fun hc15 => ?_)
       ·have h := zM h hc15
        refine zV ?_
        show V _ _ _ _
        refine zZ ?_
        obtain ⟨vend16, hvend16, h⟩ := qF h
        refine V_reg (mb 93 1985) [] (s1 := ⟨.c (.v (.string vs1)) :: bt 5 (.c (.sl (l2.map c73)) :: I records3 :: I vat4 :: I check5 :: I vend16 :: bt 82 []), []⟩) ?_ ?_
        ·refine XR 3 ?_
         refine zN ?_
         subst hvend16
         kernel_rfl
        exact ⟨n, Nat.lt_succ_self n, _,  by rfl, h⟩
       ·have h := zK h hc15
        refine V_exit ?_
        obtain rfl := zE h
        show St.keep _ _ _ = _
        rfl
     show V _ _ _ _
     refine V_e (mb 93 4033) [] (s1 := ⟨.c (.v (.string vs1)) :: bt 5 (.c (.sl (l2.map c73)) :: I records3 :: I vat4 :: I check5 :: I o11 :: I vat4 :: bt 81 []), []⟩) ?_
     refine zX ?_
     obtain ⟨o19, hLo19, h⟩ := zD h
     refine V_toK (mb 93 4033) [] (s1 := ⟨.c (.v (.string vs1)) :: bt 5 (.c (.sl (l2.map c73)) :: I records3 :: I vat4 :: I check5 :: I o11 :: I o19 :: bt 81 []), []⟩) ?_ ?_
     ·clear h
      refine zZ (V_loop (fun n s => ∃ (mark17 : Int), s.keep (mb 93 4033) [] = (⟨.c (.v (.string vs1)) :: bt 5 (.c (.sl (l2.map c73)) :: I records3 :: I vat4 :: I check5 :: I o11 :: I mark17 :: bt 81 []), []⟩ : St) ∧ r_spec_lgReplay_L18 check5 l2 o11 records3 vat4 vs1 n mark17 = some o19) FU ⟨_,  by rfl, hLo19⟩ ?_)
      clear hLo19
      rintro n s ⟨mark17, hs, h⟩
      refine V_keep _ _ hs ?_
      clear hs
      cases n with
      | zero => cases h
      | succ n =>
       rw [r_spec_lgReplay_L18] at h
       refine zX ?_
       obtain ⟨b22, hb22, h⟩ := zD h
       refine zG (mb 93 1099511631809) [] (s1 := ⟨.c (.v (.string vs1)) :: bt 5 (.c (.sl (l2.map c73)) :: I records3 :: I vat4 :: I check5 :: I o11 :: I mark17 :: bt 28 (Bo b22 :: bt 52 [])), []⟩) ?_ ?_
       ·refine XR 4 ?_
        refine zP (ltI mark17 o11) (fun hc20 => ?_) (fun hc20 => ?_)
        ·have hb22 := zM hb22 hc20
         obtain ⟨e21, he21, hb22⟩ := zD hb22
         have hb22 := zE hb22
         refine zB _ rfl rfl kk hc20 (zA rfl (zY (.c (.v (.string vs1))) rfl kk)) ?_
         refine zB _ rfl rfl kk hc20 (zA rfl (zY (I mark17) rfl kk)) ?_
         refine zB _ rfl rfl kk hc20 (zA rfl (Y0_idxs (b := vs1) (k := .i64) (n := mark17) (v := e21) Tryz.underlying9 rfl kk kk he21)) ?_
         refine zB _ rfl rfl kk hc20 (zA rfl (Y0_new (k := .u8) (a := e21) (b := 35) rfl kk kk)) ?_
         refine zJ rfl (zA rfl (Y0_pickTe (b := ltI mark17 o11) (p := !eqI e21 35) rfl kk hc20 kk hb22)) ?_
         exact XE
        ·have hb22 := zE (zK hb22 hc20)
         refine zF _ rfl rfl kk hc20 rfl ?_
         refine zF _ rfl rfl kk hc20 rfl ?_
         refine zF _ rfl rfl kk hc20 rfl ?_
         refine zF _ rfl rfl kk hc20 rfl ?_
         refine zJ rfl (zA rfl (Y0_pickFe (b := ltI mark17 o11) (p := false) rfl kk hc20 kk hb22)) ?_
         exact XE
       refine zQ rfl (fun hc23 => ?_) (fun hc23 => ?_)
       ·have h := zM h hc23
        refine zV ?_
        show V _ _ _ _
        refine zZ ?_
        obtain ⟨mark24, hmark24, h⟩ := qF h
        refine V_reg (mb 93 4033) [] (s1 := ⟨.c (.v (.string vs1)) :: bt 5 (.c (.sl (l2.map c73)) :: I records3 :: I vat4 :: I check5 :: I o11 :: I mark24 :: bt 81 []), []⟩) ?_ ?_
        ·refine XR 3 ?_
         refine zN ?_
         subst hmark24
         kernel_rfl
        exact ⟨n, Nat.lt_succ_self n, _,  by rfl, h⟩
       ·have h := zK h hc23
        refine V_exit ?_
        obtain rfl := zE h
        show St.keep _ _ _ = _
        rfl
     show V _ _ _ _
     obtain ⟨u25, hu25, h⟩ := zD h
     obtain ⟨y26, hy26, h⟩ := zD h
     refine zG (mb 93 16321) [96] (s1 := ⟨.c (.v (.string vs1)) :: bt 5 (.c (.sl (l2.map c73)) :: I records3 :: I vat4 :: I check5 :: I o11 :: I o19 :: .pt 96 0 :: Bo y26.2 :: bt 79 []), [(96, .box [Ti y26.1.1, .v (.string y26.1.2.1), .v (.string y26.1.2.2.1), .v (.string y26.1.2.2.2.1), Ti y26.1.2.2.2.2.1, Ti y26.1.2.2.2.2.2.1, Ti y26.1.2.2.2.2.2.2])]⟩) ?_ ?_
     ·refine XR 3 ?_
      refine L0 rfl rfl (Y0_slices (b := vs1) (l := vat4) (h := o19) Tryz.underlying9 rfl kk (fun y hy => by cases hy; exact ⟨.i64, kk⟩) (fun hh => by cases hh) (fun y hy => by cases hy; exact ⟨.i64, kk⟩) (fun hh => by cases hh) (slc_some hu25)) ?_
      refine XC (s_spec_lgRead hy26) cf_spec_lgRead rfl rfl rfl ?_
      exact XE
     refine zX ?_
     obtain ⟨b31, hb31, h⟩ := zD h
     refine V_sdreg [0, 0, 2, 7, 15, 31, 63, 127, 255, 511, 511, 511, 2559, 8191, 511, 511, 49663, 131071, 262143] 19 (cdm 19 [40, 2, 6, 21, 85, 341, 1365, 5461, 21845, 11318416725, 11316843861, 11276997973, 11281192277, 11296658773, 2326353237, 715740501, 1521046869, 5726623061, 22906492245]) (mb 93 590295810358705659841) [96] (s1 := ⟨.c (.v (.string vs1)) :: bt 5 (.c (.sl (l2.map c73)) :: I records3 :: I vat4 :: I check5 :: I o11 :: I o19 :: .pt 96 0 :: bt 56 (Bo b31 :: bt 23 [])), [(96, .box [Ti y26.1.1, .v (.string y26.1.2.1), .v (.string y26.1.2.2.1), .v (.string y26.1.2.2.2.1), Ti y26.1.2.2.2.2.1, Ti y26.1.2.2.2.2.2.1, Ti y26.1.2.2.2.2.2.2])]⟩) kk kk ?_ ?_
     ·refine DR 2 ?_
      refine DE_0 2 (I ((vs1.size : Int))) kk rfl rfl rfl (zO rfl) kk (Y0_lens (b := vs1) Tryz.underlying9 rfl kk) 53 rfl ?_
      refine DR 2 ?_
      refine DL_split (eqI o11 ((vs1.size : Int))) (fun hc27 => ?_) (fun hc27 => ?_)
      ·refine DE_t 5 kk rfl rfl rfl (gun_F (eqI o11 ((vs1.size : Int))) rfl rfl kk hc27) 56 rfl ?_
       refine DE_t 6 kk rfl rfl rfl (gun_F (eqI o11 ((vs1.size : Int))) rfl rfl kk hc27) 57 rfl ?_
       refine DE_0 7 (Bo (bif (eqI o11 ((vs1.size : Int))) then true else (!y26.2))) kk rfl rfl rfl (zO rfl) kk (zW (b := eqI o11 ((vs1.size : Int))) (p := true) (q := !y26.2) rfl kk hc27 kk) 58 rfl ?_
       refine DR 1 ?_
       refine DL_split (bif (eqI o11 ((vs1.size : Int))) then true else (!y26.2)) (fun hc28 => ?_) (fun hc28 => ?_)
       ·have hb31 := zE (zM hb31 hc28)
        refine DE_t 9 kk rfl rfl rfl (gun_F (bif (eqI o11 ((vs1.size : Int))) then true else (!y26.2)) rfl rfl kk hc28) 60 rfl ?_
        refine DE_t 10 kk rfl rfl rfl (gun_F (bif (eqI o11 ((vs1.size : Int))) then true else (!y26.2)) rfl rfl kk hc28) 61 rfl ?_
        refine DE_t 11 kk rfl rfl rfl (gun_F (bif (eqI o11 ((vs1.size : Int))) then true else (!y26.2)) rfl rfl kk hc28) 62 rfl ?_
        refine DE_t 12 kk rfl rfl rfl (gun_F (bif (eqI o11 ((vs1.size : Int))) then true else (!y26.2)) rfl rfl kk hc28) 63 rfl ?_
        refine DE_t 13 kk rfl rfl rfl (gun_F (bif (eqI o11 ((vs1.size : Int))) then true else (!y26.2)) rfl rfl kk hc28) 64 rfl ?_
        refine DE_t 14 kk rfl rfl rfl (gun_F (bif (eqI o11 ((vs1.size : Int))) then true else (!y26.2)) rfl rfl kk hc28) 65 rfl ?_
        refine DE_t 15 kk rfl rfl rfl (gun_F (bif (eqI o11 ((vs1.size : Int))) then true else (!y26.2)) rfl rfl kk hc28) 66 rfl ?_
        refine DE_t 16 kk rfl rfl rfl (gun_F (bif (eqI o11 ((vs1.size : Int))) then true else (!y26.2)) rfl rfl kk hc28) 67 rfl ?_
        refine DE_t 17 kk rfl rfl rfl (gun_F (bif (eqI o11 ((vs1.size : Int))) then true else (!y26.2)) rfl rfl kk hc28) 68 rfl ?_
        refine DE_0 18 (Bo (b31)) kk rfl rfl rfl (zO rfl) kk (Y0_pickTe (b := bif (eqI o11 ((vs1.size : Int))) then true else (!y26.2)) (p := true) rfl kk hc28 kk hb31) 69 rfl ?_
        refine DA 0 ?_
        exact XE
       ·have hb31 := zK hb31 hc28
        obtain ⟨u29, hu29, hb31⟩ := zD hb31
        obtain ⟨y30, hy30, hb31⟩ := zD hb31
        have hb31 := zE hb31
        refine DE_0 9 (.c (.v (.string vs1))) kk rfl rfl rfl (gsat_C (bif (eqI o11 ((vs1.size : Int))) then true else (!y26.2)) rfl rfl kk hc28) kk (zY (.c (.v (.string vs1))) rfl kk) 60 rfl ?_
        refine DE_0 10 (I vat4) kk rfl rfl rfl (gsat_C (bif (eqI o11 ((vs1.size : Int))) then true else (!y26.2)) rfl rfl kk hc28) kk (zY (I vat4) rfl kk) 61 rfl ?_
        refine DE_0 11 (I o11) kk rfl rfl rfl (gsat_C (bif (eqI o11 ((vs1.size : Int))) then true else (!y26.2)) rfl rfl kk hc28) kk (zY (I o11) rfl kk) 62 rfl ?_
        refine DE_0 12 (I (w64 (o11 + 1))) kk rfl rfl rfl (gsat_C (bif (eqI o11 ((vs1.size : Int))) then true else (!y26.2)) rfl rfl kk hc28) kk (Y0_add64 (a := o11) (b := 1) rfl kk kk) 63 rfl ?_
        refine DE_0 13 (.c (.v (.string (vs1.extract (Int.toNat vat4) (Int.toNat (w64 (o11 + 1))))))) kk rfl rfl rfl (gsat_C (bif (eqI o11 ((vs1.size : Int))) then true else (!y26.2)) rfl rfl kk hc28) kk (Y0_slices (b := vs1) (l := vat4) (h := w64 (o11 + 1)) Tryz.underlying9 rfl kk (fun y hy => by cases hy; exact ⟨.i64, kk⟩) (fun hh => by cases hh) (fun y hy => by cases hy; exact ⟨.i64, kk⟩) (fun hh => by cases hh) (slc_some hu29)) 64 rfl ?_
        refine DE_0 14 (.ag [Ti y26.1.1, .v (.string y26.1.2.1), .v (.string y26.1.2.2.1), .v (.string y26.1.2.2.2.1), Ti y26.1.2.2.2.2.1, Ti y26.1.2.2.2.2.2.1, Ti y26.1.2.2.2.2.2.2]) kk rfl rfl rfl (gsat_C (bif (eqI o11 ((vs1.size : Int))) then true else (!y26.2)) rfl rfl kk hc28) kk (E_loadn (cs := [Ti y26.1.1, .v (.string y26.1.2.1), .v (.string y26.1.2.2.1), .v (.string y26.1.2.2.2.1), Ti y26.1.2.2.2.2.1, Ti y26.1.2.2.2.2.2.1, Ti y26.1.2.2.2.2.2.2]) [Ti y26.1.1, .v (.string y26.1.2.1), .v (.string y26.1.2.2.1), .v (.string y26.1.2.2.2.1), Ti y26.1.2.2.2.2.1, Ti y26.1.2.2.2.2.2.1, Ti y26.1.2.2.2.2.2.2] wd40 rfl kk (Nat.le_of_ble_eq_true rfl) kk) 65 rfl ?_
        refine DE_0 15 (I check5) kk rfl rfl rfl (gsat_C (bif (eqI o11 ((vs1.size : Int))) then true else (!y26.2)) rfl rfl kk hc28) kk (zY (I check5) rfl kk) 66 rfl ?_
        refine DE_1 16 kk rfl rfl rfl (gsat_C (bif (eqI o11 ((vs1.size : Int))) then true else (!y26.2)) rfl rfl kk hc28) (Y1_call (s_spec_lgRecord hy30) cf_spec_lgRecord rfl kk) rfl rfl rfl 67 rfl ?_
        refine DE_0 17 (Bo (!((vs1.extract (Int.toNat vat4) (Int.toNat (w64 (o11 + 1)))).toList == y30.toList))) kk rfl rfl rfl (gsat_C (bif (eqI o11 ((vs1.size : Int))) then true else (!y26.2)) rfl rfl kk hc28) kk (Y0_nes (a := (vs1.extract (Int.toNat vat4) (Int.toNat (w64 (o11 + 1))))) (b := y30) rfl kk kk) 68 rfl ?_
        refine DE_0 18 (Bo (b31)) kk rfl rfl rfl (zO rfl) kk (Y0_pickFe (b := bif (eqI o11 ((vs1.size : Int))) then true else (!y26.2)) (p := !((vs1.extract (Int.toNat vat4) (Int.toNat (w64 (o11 + 1)))).toList == y30.toList)) rfl kk hc28 kk hb31) 69 rfl ?_
        refine DA 0 ?_
        exact XE
      ·refine DE_0 5 (Bo y26.2) kk rfl rfl rfl (gsat_C (eqI o11 ((vs1.size : Int))) rfl rfl kk hc27) kk (zY (Bo y26.2) rfl kk) 56 rfl ?_
       refine DE_0 6 (Bo (!y26.2)) kk rfl rfl rfl (gsat_C (eqI o11 ((vs1.size : Int))) rfl rfl kk hc27) kk (Y0_not (b := y26.2) rfl kk) 57 rfl ?_
       refine DE_0 7 (Bo (bif (eqI o11 ((vs1.size : Int))) then true else (!y26.2))) kk rfl rfl rfl (zO rfl) kk (zT (b := eqI o11 ((vs1.size : Int))) (p := true) (q := !y26.2) rfl kk hc27 kk) 58 rfl ?_
       refine DR 1 ?_
       refine DL_split (bif (eqI o11 ((vs1.size : Int))) then true else (!y26.2)) (fun hc28 => ?_) (fun hc28 => ?_)
       ·have hb31 := zE (zM hb31 hc28)
        refine DE_t 9 kk rfl rfl rfl (gun_F (bif (eqI o11 ((vs1.size : Int))) then true else (!y26.2)) rfl rfl kk hc28) 60 rfl ?_
        refine DE_t 10 kk rfl rfl rfl (gun_F (bif (eqI o11 ((vs1.size : Int))) then true else (!y26.2)) rfl rfl kk hc28) 61 rfl ?_
        refine DE_t 11 kk rfl rfl rfl (gun_F (bif (eqI o11 ((vs1.size : Int))) then true else (!y26.2)) rfl rfl kk hc28) 62 rfl ?_
        refine DE_t 12 kk rfl rfl rfl (gun_F (bif (eqI o11 ((vs1.size : Int))) then true else (!y26.2)) rfl rfl kk hc28) 63 rfl ?_
        refine DE_t 13 kk rfl rfl rfl (gun_F (bif (eqI o11 ((vs1.size : Int))) then true else (!y26.2)) rfl rfl kk hc28) 64 rfl ?_
        refine DE_t 14 kk rfl rfl rfl (gun_F (bif (eqI o11 ((vs1.size : Int))) then true else (!y26.2)) rfl rfl kk hc28) 65 rfl ?_
        refine DE_t 15 kk rfl rfl rfl (gun_F (bif (eqI o11 ((vs1.size : Int))) then true else (!y26.2)) rfl rfl kk hc28) 66 rfl ?_
        refine DE_t 16 kk rfl rfl rfl (gun_F (bif (eqI o11 ((vs1.size : Int))) then true else (!y26.2)) rfl rfl kk hc28) 67 rfl ?_
        refine DE_t 17 kk rfl rfl rfl (gun_F (bif (eqI o11 ((vs1.size : Int))) then true else (!y26.2)) rfl rfl kk hc28) 68 rfl ?_
        refine DE_0 18 (Bo (b31)) kk rfl rfl rfl (zO rfl) kk (Y0_pickTe (b := bif (eqI o11 ((vs1.size : Int))) then true else (!y26.2)) (p := true) rfl kk hc28 kk hb31) 69 rfl ?_
        refine DA 0 ?_
        exact XE
       ·have hb31 := zK hb31 hc28
        obtain ⟨u29, hu29, hb31⟩ := zD hb31
        obtain ⟨y30, hy30, hb31⟩ := zD hb31
        have hb31 := zE hb31
        refine DE_0 9 (.c (.v (.string vs1))) kk rfl rfl rfl (gsat_C (bif (eqI o11 ((vs1.size : Int))) then true else (!y26.2)) rfl rfl kk hc28) kk (zY (.c (.v (.string vs1))) rfl kk) 60 rfl ?_
        refine DE_0 10 (I vat4) kk rfl rfl rfl (gsat_C (bif (eqI o11 ((vs1.size : Int))) then true else (!y26.2)) rfl rfl kk hc28) kk (zY (I vat4) rfl kk) 61 rfl ?_
        refine DE_0 11 (I o11) kk rfl rfl rfl (gsat_C (bif (eqI o11 ((vs1.size : Int))) then true else (!y26.2)) rfl rfl kk hc28) kk (zY (I o11) rfl kk) 62 rfl ?_
        refine DE_0 12 (I (w64 (o11 + 1))) kk rfl rfl rfl (gsat_C (bif (eqI o11 ((vs1.size : Int))) then true else (!y26.2)) rfl rfl kk hc28) kk (Y0_add64 (a := o11) (b := 1) rfl kk kk) 63 rfl ?_
        refine DE_0 13 (.c (.v (.string (vs1.extract (Int.toNat vat4) (Int.toNat (w64 (o11 + 1))))))) kk rfl rfl rfl (gsat_C (bif (eqI o11 ((vs1.size : Int))) then true else (!y26.2)) rfl rfl kk hc28) kk (Y0_slices (b := vs1) (l := vat4) (h := w64 (o11 + 1)) Tryz.underlying9 rfl kk (fun y hy => by cases hy; exact ⟨.i64, kk⟩) (fun hh => by cases hh) (fun y hy => by cases hy; exact ⟨.i64, kk⟩) (fun hh => by cases hh) (slc_some hu29)) 64 rfl ?_
        refine DE_0 14 (.ag [Ti y26.1.1, .v (.string y26.1.2.1), .v (.string y26.1.2.2.1), .v (.string y26.1.2.2.2.1), Ti y26.1.2.2.2.2.1, Ti y26.1.2.2.2.2.2.1, Ti y26.1.2.2.2.2.2.2]) kk rfl rfl rfl (gsat_C (bif (eqI o11 ((vs1.size : Int))) then true else (!y26.2)) rfl rfl kk hc28) kk (E_loadn (cs := [Ti y26.1.1, .v (.string y26.1.2.1), .v (.string y26.1.2.2.1), .v (.string y26.1.2.2.2.1), Ti y26.1.2.2.2.2.1, Ti y26.1.2.2.2.2.2.1, Ti y26.1.2.2.2.2.2.2]) [Ti y26.1.1, .v (.string y26.1.2.1), .v (.string y26.1.2.2.1), .v (.string y26.1.2.2.2.1), Ti y26.1.2.2.2.2.1, Ti y26.1.2.2.2.2.2.1, Ti y26.1.2.2.2.2.2.2] wd40 rfl kk (Nat.le_of_ble_eq_true rfl) kk) 65 rfl ?_
        refine DE_0 15 (I check5) kk rfl rfl rfl (gsat_C (bif (eqI o11 ((vs1.size : Int))) then true else (!y26.2)) rfl rfl kk hc28) kk (zY (I check5) rfl kk) 66 rfl ?_
        refine DE_1 16 kk rfl rfl rfl (gsat_C (bif (eqI o11 ((vs1.size : Int))) then true else (!y26.2)) rfl rfl kk hc28) (Y1_call (s_spec_lgRecord hy30) cf_spec_lgRecord rfl kk) rfl rfl rfl 67 rfl ?_
        refine DE_0 17 (Bo (!((vs1.extract (Int.toNat vat4) (Int.toNat (w64 (o11 + 1)))).toList == y30.toList))) kk rfl rfl rfl (gsat_C (bif (eqI o11 ((vs1.size : Int))) then true else (!y26.2)) rfl rfl kk hc28) kk (Y0_nes (a := (vs1.extract (Int.toNat vat4) (Int.toNat (w64 (o11 + 1))))) (b := y30) rfl kk kk) 68 rfl ?_
        refine DE_0 18 (Bo (b31)) kk rfl rfl rfl (zO rfl) kk (Y0_pickFe (b := bif (eqI o11 ((vs1.size : Int))) then true else (!y26.2)) (p := !((vs1.extract (Int.toNat vat4) (Int.toNat (w64 (o11 + 1)))).toList == y30.toList)) rfl kk hc28 kk hb31) 69 rfl ?_
        refine DA 0 ?_
        exact XE
     refine zQ rfl (fun hc32 => ?_) (fun hc32 => ?_)
     ·have h := zM h hc32
      refine V_exit ?_
      obtain rfl := zE h
      show St.keep _ _ _ = _
      rfl
     ·have h := zK h hc32
      refine zV ?_
      show V _ _ _ _
      obtain ⟨y33, hy33, h⟩ := zD h
      refine zG (mb 93 53185) [584] (s1 := ⟨.c (.v (.string vs1)) :: bt 5 (.c (.sl (l2.map c73)) :: I records3 :: I vat4 :: I check5 :: I o11 :: I o19 :: .bot :: .bot :: .ow 584 :: I y33.2 :: bt 77 []), [(584, .arr 73 4 (y33.1.map c73))]⟩) ?_ ?_
      ·refine XR 2 ?_
       refine XC (s_spec_lgRun hy33) cf_spec_lgRun rfl rfl rfl ?_
       exact XE
      refine zX ?_
      refine V_e (mb 93 151115727451828646858689) [584] (s1 := ⟨.c (.v (.string vs1)) :: bt 5 (.c (.sl (l2.map c73)) :: I records3 :: I vat4 :: I check5 :: I o11 :: I o19 :: .bot :: .bot :: .ow 584 :: bt 62 (Bo (!eqI y33.2 0) :: bt 15 [])), [(584, .arr 73 4 (y33.1.map c73))]⟩) ?_
      refine zQ rfl (fun hc34 => ?_) (fun hc34 => ?_)
      ·have h := zM h hc34
       refine V_exit ?_
       obtain rfl := zE h
       show St.keep _ _ _ = _
       rfl
      ·have h := zK h hc34
       refine zV ?_
       show V _ _ _ _
       obtain ⟨u35, hu35, h⟩ := zD h
       obtain ⟨y36, hy36, h⟩ := zD h
       refine zG (mb 93 18049) [584] (s1 := ⟨.c (.v (.string vs1)) :: bt 6 (I records3 :: .bot :: I y36 :: I o11 :: bt 3 (.ow 584 :: bt 78 [])), [(584, .arr 73 4 (y33.1.map c73))]⟩) ?_ ?_
       ·refine XR 3 ?_
        refine L0 rfl rfl (Y0_slices (b := vs1) (l := vat4) (h := o19) Tryz.underlying9 rfl kk (fun y hy => by cases hy; exact ⟨.i64, kk⟩) (fun hh => by cases hh) (fun y hy => by cases hy; exact ⟨.i64, kk⟩) (fun hh => by cases hh) (slc_some hu35)) ?_
        refine XR 1 ?_
        refine XC (s_spec_lgCheck hy36) cf_spec_lgCheck rfl rfl rfl ?_
        exact XE
       refine V_freeze 584 (T := 73) (sz := 4) (els := y33.1.map c73) (s1 := ⟨.c (.v (.string vs1)) :: bt 6 (I records3 :: .bot :: I y36 :: I o11 :: bt 3 (.c (.sl (y33.1.map c73)) :: bt 78 [])), []⟩) kk kk ?_
       obtain ⟨vat37, hvat37, h⟩ := qF h
       refine zG (mb 93 961) [] (s1 := ⟨.c (.v (.string vs1)) :: bt 5 (.c (.sl (y33.1.map c73)) :: I records3 :: I vat37 :: I y36 :: bt 83 []), []⟩) ?_ ?_
       ·refine XR 5 ?_
        refine zN ?_
        subst hvat37
        kernel_rfl
       obtain ⟨records38, hrecords38, h⟩ := qF h
       refine V_reg (mb 93 961) [] (s1 := ⟨.c (.v (.string vs1)) :: bt 5 (.c (.sl (y33.1.map c73)) :: I records38 :: I vat37 :: I y36 :: bt 83 []), []⟩) ?_ ?_
       ·refine XR 3 ?_
        refine zN ?_
        subst hrecords38
        kernel_rfl
       exact ⟨n, Nat.lt_succ_self n, _, _, _, _,  by rfl, h⟩
    ·have h := zK h hc8
     refine V_exit ?_
     obtain rfl := zE h
     show St.keep _ _ _ = _
     rfl
  show V _ _ _ _
  refine V_e (mb 93 60) [] (s1 := ⟨.bot :: .bot :: .c (.sl (o7.1.map c73)) :: I o7.2.1 :: I o7.2.2.1 :: I o7.2.2.2 :: bt 87 [], []⟩) ?_
  refine zR ?_
  obtain rfl := zE h
  show Post _ _ _ _ _
  exact ⟨.inr rfl, rfl, rfl, rfl⟩
theorem cf_internal_stringslite_IndexByte : ∀ args w, (callFunc 189 args).run Tryz.prog w = .ok (.enter 189 args) w := zI Tryz.func189 kk kk
theorem s_internal_stringslite_IndexByte {vs1 : ByteArray} {c2 : Int} {r : Int} (h : r_internal_stringslite_IndexByte vs1 c2 = some r) : z7 Tryz.prog 189 [.c (.v (.string vs1)), .c (.v (.int .u8 c2))] (I r) [] := by
  refine zH (rs := [.t 4]) (vs := [.tmp 4]) Tryz.func189 rfl rfl (.cons rfl FitsL.nil) (by decide) 8 rfl ?_
  unfold r_internal_stringslite_IndexByte at h
  show V _ _ ⟨.c (.v (.string vs1)) :: .c (.v (.int .u8 c2)) :: bt 6 [], []⟩ _
  refine V_e (mb 8 3) [] (s1 := ⟨.c (.v (.string vs1)) :: .c (.v (.int .u8 c2)) :: bt 6 [], []⟩) ?_
  obtain ⟨t3, ht3, h⟩ := qF h
  refine zG (mb 8 16) [] (s1 := ⟨bt 4 (I t3 :: bt 3 []), []⟩) ?_ ?_
  ·refine XR 2 ?_
   refine L0 rfl rfl (Y0_idxb (b := vs1) (c := c2) cx_242 rfl kk kk) ?_
   refine XR 1 ?_
   refine zN ?_
   subst ht3
   kernel_rfl
  refine zR ?_
  obtain rfl := zE h
  show Post _ _ _ _ _
  exact ⟨.inr rfl, rfl, rfl, rfl⟩
theorem cf_strings_IndexByte : ∀ args w, (callFunc 105 args).run Tryz.prog w = .ok (.enter 105 args) w := zI Tryz.func105 kk kk
theorem s_strings_IndexByte {vs1 : ByteArray} {c2 : Int} {r : Int} (h : r_strings_IndexByte vs1 c2 = some r) : z7 Tryz.prog 105 [.c (.v (.string vs1)), .c (.v (.int .u8 c2))] (I r) [] := by
  refine zH (rs := [.t 4]) (vs := [.tmp 4]) Tryz.func105 rfl rfl (.cons rfl FitsL.nil) (by decide) 8 rfl ?_
  unfold r_strings_IndexByte at h
  show V _ _ ⟨.c (.v (.string vs1)) :: .c (.v (.int .u8 c2)) :: bt 6 [], []⟩ _
  refine V_e (mb 8 3) [] (s1 := ⟨.c (.v (.string vs1)) :: .c (.v (.int .u8 c2)) :: bt 6 [], []⟩) ?_
  obtain ⟨y3, hy3, h⟩ := zD h
  refine zG (mb 8 16) [] (s1 := ⟨bt 4 (I y3 :: bt 3 []), []⟩) ?_ ?_
  ·refine XR 2 ?_
   refine XC (s_internal_stringslite_IndexByte hy3) cf_internal_stringslite_IndexByte rfl rfl rfl ?_
   exact XE
  refine zR ?_
  obtain rfl := zE h
  show Post _ _ _ _ _
  exact ⟨.inr rfl, rfl, rfl, rfl⟩
theorem cf_impl_integersIn : ∀ args w, (callFunc 160 args).run Tryz.prog w = .ok (.enter 160 args) w := zI Tryz.func160 kk kk
theorem s_impl_integersIn {vs1 : ByteArray} {r : List Int} (h : r_impl_integersIn vs1 = some r) : z7 Tryz.prog 160 [.c (.v (.string vs1))] (.ow 0) [(0, .arr 3 1 (r.map c3))] := by
  refine zH (rs := [.t 2]) (vs := [.tmp 2]) Tryz.func160 rfl rfl (.cons rfl FitsL.nil) (by decide) 30 rfl ?_
  unfold r_impl_integersIn at h
  show V _ _ ⟨.c (.v (.string vs1)) :: bt 29 [], []⟩ _
  refine zG (mb 30 1) [] (s1 := ⟨.c (.v (.string vs1)) :: bt 29 [], []⟩) ?_ ?_
  ·refine L1 rfl rfl (Y1_nil (e := 3) 1 (by decide) (.inl rfl)) ?_
   exact XE
  refine zG (mb 30 9) [64] (s1 := ⟨.c (.v (.string vs1)) :: .bot :: .bot :: .ow 64 :: bt 26 [], [(64, .arr 3 1 ((([] : List Int)).map c3))]⟩) ?_ ?_
  ·refine L1 rfl rfl (Y1_bslice0 Tryz.underlying24 sz3 (by decide) rfl rfl) ?_
   exact XE
  refine zX ?_
  obtain ⟨y2, hy2, h⟩ := zD h
  refine zG (mb 30 7176) [80, 64] (s1 := ⟨bt 3 (.ow 64 :: bt 6 (.ow 80 :: I ((y2.length : Int)) :: I 0 :: bt 17 [])), [(80, .arr 9 1 (y2.map c9)), (64, .arr 3 1 ((([] : List Int)).map c3))]⟩) ?_ ?_
  ·refine XR 1 ?_
   refine XC (s_strings_FieldsFunc_230 hy2) cf_strings_FieldsFunc rfl rfl rfl ?_
   refine L0 rfl rfl (Y0_lenM (c := c9) (xs := y2) Tryz.underlying66 rfl kk) ?_
   exact XE
  obtain ⟨qo6, hLo6, hko6⟩ := zD h
  refine V_toS (q := qo6) (S := fun o6 => ⟨bt 3 (.ow 64 :: bt 26 []), [(64, .arr 3 1 (o6.map c3))]⟩) (mb 30 8) [64] ?_ ?_
  ·refine zZ (V_loop (fun n s => ∃ (t3 : Int) (l4 : List Int), s.keep (mb 30 7176) [80, 64] = (⟨bt 3 (.ow 64 :: bt 6 (.ow 80 :: I ((y2.length : Int)) :: I t3 :: bt 17 [])), [(80, .arr 9 1 (y2.map c9)), (64, .arr 3 1 (l4.map c3))]⟩ : St) ∧ r_impl_integersIn_L5 y2 n t3 l4 = some qo6) FU ⟨_, _,  by rfl, hLo6⟩ ?_)
   clear hLo6
   rintro n s ⟨t3, l4, hs, h⟩
   refine V_keep _ _ hs ?_
   clear hs
   cases n with
   | zero => cases h
   | succ n =>
    rw [r_impl_integersIn_L5] at h
    refine V_e (mb 30 15368) [80, 64] (s1 := ⟨bt 3 (.ow 64 :: bt 6 (.ow 80 :: I ((y2.length : Int)) :: I t3 :: Bo (ltI t3 ((y2.length : Int))) :: bt 16 [])), [(80, .arr 9 1 (y2.map c9)), (64, .arr 3 1 (l4.map c3))]⟩) ?_
    refine zX ?_
    refine zQ rfl (fun hc7 => ?_) (fun hc7 => ?_)
    ·have h := zM h hc7
     refine zV ?_
     show V _ _ _ _
     refine zX ?_
     refine zZ ?_
     obtain ⟨e8, he8, h⟩ := zD h
     obtain ⟨e9, he9, h⟩ := zD h
     refine zG (mb 30 7208) [80, 64] (s1 := ⟨bt 3 (.ow 64 :: .bot :: .c (.v (.string e9)) :: bt 4 (.ow 80 :: I ((y2.length : Int)) :: I t3 :: bt 17 [])), [(80, .arr 9 1 (y2.map c9)), (64, .arr 3 1 (l4.map c3))]⟩) ?_ ?_
     ·refine L0 rfl rfl (Y0_idxoM (c := c9) (xs := y2) (v := e8) (id := 80) (T := 9) (sz := 1) (n := t3) Tryz.underlying66 sz9 rfl kk kk kk he8) ?_
      refine L0 rfl rfl (Y0_loado1 (c := c9) (xs := y2) (v := e9) (id := 80) (sz := 1) (T := 9) (off := 0) (n := t3) (d := .v (.string e9)) (ds := []) sc9 rfl kk kk he9 kk) ?_
      exact XE
     obtain ⟨y10, hy10, h⟩ := zD h
     refine zG (mb 30 7368) [80, 64] (s1 := ⟨bt 3 (.ow 64 :: .bot :: .bot :: I y10.1 :: .er y10.2 :: .bot :: .bot :: .ow 80 :: I ((y2.length : Int)) :: I t3 :: bt 17 []), [(80, .arr 9 1 (y2.map c9)), (64, .arr 3 1 (l4.map c3))]⟩) ?_ ?_
     ·refine XR 1 ?_
      refine XC (s_strconv_Atoi hy10) cf_strconv_Atoi rfl rfl rfl ?_
      exact XE
     refine zX ?_
     refine zG (mb 30 4201544) [80, 64] (s1 := ⟨bt 3 (.ow 64 :: .bot :: .bot :: I y10.1 :: bt 3 (.ow 80 :: I ((y2.length : Int)) :: I t3 :: bt 9 (Bo (!y10.2) :: bt 7 []))), [(80, .arr 9 1 (y2.map c9)), (64, .arr 3 1 (l4.map c3))]⟩) ?_ ?_
     ·refine XR 1 ?_
      refine L0 rfl rfl (Y0_erne (b := y10.2) Tryz.underlying91 rfl kk) ?_
      exact XE
     refine zQ rfl (fun hc11 => ?_) (fun hc11 => ?_)
     ·have h := zM h hc11
      refine zG (mb 30 4) [184] (s1 := ⟨.bot :: .bot :: .ow 184 :: bt 27 [], [(184, .arr 3 1 ((([] : List Int)).map c3))]⟩) ?_ ?_
      ·refine L1 rfl rfl (Y1_bslice0 Tryz.underlying24 sz3 (by decide) rfl rfl) ?_
       exact XE
      refine zR ?_
      obtain rfl := zE h
      have h := hko6
      obtain rfl := zE h
      show Post _ _ _ _ _
      exact ⟨.inr rfl, rfl, rfl, rfl⟩
     ·have h := zK h hc11
      refine zV ?_
      show V _ _ _ _
      obtain ⟨u12, hu12, h⟩ := zD h
      refine V_reg (mb 30 7176) [80, 64] (s1 := ⟨bt 3 (.ow 64 :: bt 6 (.ow 80 :: I ((y2.length : Int)) :: I t3 :: bt 17 [])), [(80, .arr 9 1 (y2.map c9)), (64, .arr 3 1 ((l4 ++ ([y10.1])).map c3))]⟩) ?_ ?_
      ·refine XR 2 ?_
       refine L1 rfl rfl (Y1_bslice (z := zv3) (els := [y10.1].map c3) Tryz.underlying24 iz3 rfl (by decide) rfl kk rfl (by simp [c3]) (by decide) (by decide)) ?_
       refine zJ rfl (X_appendM (c := c3) (xs := l4) (ys := [y10.1]) (id := 64) (z := zv3) rfl rfl Tryz.underlying24 izb3 rfl kk kk kk (fun _ => rfl) (by simp) (room_some hu12) (by decide)) ?_
       exact XE
      show V _ _ _ _
      obtain ⟨t13, ht13, h⟩ := qF h
      refine V_reg (mb 30 7176) [80, 64] (s1 := ⟨bt 3 (.ow 64 :: bt 6 (.ow 80 :: I ((y2.length : Int)) :: I t13 :: bt 17 [])), [(80, .arr 9 1 (y2.map c9)), (64, .arr 3 1 ((l4 ++ ([y10.1])).map c3))]⟩) ?_ ?_
      ·refine XR 2 ?_
       refine zN ?_
       subst ht13
       kernel_rfl
      exact ⟨n, Nat.lt_succ_self n, _, _,  by rfl, h⟩
    ·have h := zK h hc7
     refine V_exit ?_
     obtain rfl := zE h
     exact ⟨_, rfl, by rfl⟩
  rintro o6 rfl
  have h := hko6
  clear hko6
  show V _ _ _ _
  refine V_e (mb 30 4) [64] (s1 := ⟨.bot :: .bot :: .ow 64 :: bt 27 [], [(64, .arr 3 1 (o6.map c3))]⟩) ?_
  refine zR ?_
  obtain rfl := zE h
  show Post _ _ _ _ _
  exact ⟨.inr rfl, rfl, rfl, rfl⟩
theorem cf_impl_areNumbers : ∀ args w, (callFunc 166 args).run Tryz.prog w = .ok (.enter 166 args) w := zI Tryz.func166 kk kk
theorem s_impl_areNumbers {list1 : List Int} {r : Bool} (h : r_impl_areNumbers list1 = some r) : z7 Tryz.prog 166 [.c (.sl (list1.map c3))] (Bo r) [] := by
  refine zH (rs := [.t 2]) (vs := [.tmp 2]) Tryz.func166 rfl rfl (.cons rfl FitsL.nil) (by decide) 18 rfl ?_
  unfold r_impl_areNumbers at h
  show V _ _ ⟨.c (.sl (list1.map c3)) :: bt 17 [], []⟩ _
  refine V_e (mb 18 1) [] (s1 := ⟨.c (.sl (list1.map c3)) :: bt 17 [], []⟩) ?_
  refine zX ?_
  refine zG (mb 18 224) [] (s1 := ⟨bt 5 (.c (.sl (list1.map c3)) :: I ((list1.length : Int)) :: I 0 :: bt 10 []), []⟩) ?_ ?_
  ·refine XR 1 ?_
   refine L0 rfl rfl (Y0_lenM (c := c3) (xs := list1) Tryz.underlying24 rfl kk) ?_
   exact XE
  obtain ⟨qo4, hLo4, hko4⟩ := zD h
  refine V_toS (q := qo4) (S := fun o4 => ⟨bt 18 [], []⟩) (mb 18 0) [] ?_ ?_
  ·refine zZ (V_loop (fun n s => ∃ (t2 : Int), s.keep (mb 18 224) [] = (⟨bt 5 (.c (.sl (list1.map c3)) :: I ((list1.length : Int)) :: I t2 :: bt 10 []), []⟩ : St) ∧ r_impl_areNumbers_L3 list1 n t2 = some qo4) FU ⟨_,  by rfl, hLo4⟩ ?_)
   clear hLo4
   rintro n s ⟨t2, hs, h⟩
   refine V_keep _ _ hs ?_
   clear hs
   cases n with
   | zero => cases h
   | succ n =>
    rw [r_impl_areNumbers_L3] at h
    refine V_e (mb 18 480) [] (s1 := ⟨bt 5 (.c (.sl (list1.map c3)) :: I ((list1.length : Int)) :: I t2 :: Bo (ltI t2 ((list1.length : Int))) :: bt 9 []), []⟩) ?_
    refine zX ?_
    refine zQ rfl (fun hc5 => ?_) (fun hc5 => ?_)
    ·have h := zM h hc5
     refine zV ?_
     show V _ _ _ _
     refine zX ?_
     refine zZ ?_
     obtain ⟨e6, he6, h⟩ := zD h
     refine zG (mb 18 240) [] (s1 := ⟨bt 4 (I e6 :: .c (.sl (list1.map c3)) :: I ((list1.length : Int)) :: I t2 :: bt 10 []), []⟩) ?_ ?_
     ·refine L0 rfl rfl (Y0_idxM (c := c3) (xs := list1) (v := e6) (n := t2) Tryz.underlying24 sz3 rfl kk kk he6) ?_
      exact XE
     refine zG (mb 18 65760) [] (s1 := ⟨bt 5 (.c (.sl (list1.map c3)) :: I ((list1.length : Int)) :: I t2 :: bt 8 (Bo (bif (ltI e6 (-1000000)) then true else (ltI 1000000 e6)) :: .bot :: [])), []⟩) ?_ ?_
     ·refine XR 3 ?_
      refine zP (ltI e6 (-1000000)) (fun hc7 => ?_) (fun hc7 => ?_)
      ·refine zL _ rfl rfl kk hc7 rfl ?_
       refine zL _ rfl rfl kk hc7 rfl ?_
       refine zJ rfl (zA rfl (zW (b := ltI e6 (-1000000)) (p := true) (q := ltI 1000000 e6) rfl kk hc7 kk)) ?_
       exact XE
      ·refine zB _ rfl rfl kk hc7 (zA rfl (zY (I e6) rfl kk)) ?_
       refine zB _ rfl rfl kk hc7 (zA rfl (Y0_gtw (k := .i64) (a := e6) (b := 1000000) rfl kk kk)) ?_
       refine zJ rfl (zA rfl (zT (b := ltI e6 (-1000000)) (p := true) (q := ltI 1000000 e6) rfl kk hc7 kk)) ?_
       exact XE
     refine zQ rfl (fun hc8 => ?_) (fun hc8 => ?_)
     ·have h := zM h hc8
      refine V_e (mb 18 4) [] (s1 := ⟨.bot :: .bot :: Bo false :: bt 15 [], []⟩) ?_
      refine zR ?_
      obtain rfl := zE h
      have h := hko4
      obtain rfl := zE h
      show Post _ _ _ _ _
      exact ⟨.inr rfl, rfl, rfl, rfl⟩
     ·have h := zK h hc8
      refine zV ?_
      show V _ _ _ _
      obtain ⟨t9, ht9, h⟩ := qF h
      refine V_reg (mb 18 224) [] (s1 := ⟨bt 5 (.c (.sl (list1.map c3)) :: I ((list1.length : Int)) :: I t9 :: bt 10 []), []⟩) ?_ ?_
      ·refine XR 2 ?_
       refine zN ?_
       subst ht9
       kernel_rfl
      exact ⟨n, Nat.lt_succ_self n, _,  by rfl, h⟩
    ·have h := zK h hc5
     refine V_exit ?_
     obtain rfl := zE h
     exact ⟨_, rfl, by rfl⟩
  rintro o4 rfl
  have h := hko4
  clear hko4
  show V _ _ _ _
  refine V_e (mb 18 4) [] (s1 := ⟨.bot :: .bot :: Bo true :: bt 15 [], []⟩) ?_
  refine zR ?_
  obtain rfl := zE h
  show Post _ _ _ _ _
  exact ⟨.inr rfl, rfl, rfl, rfl⟩
theorem cf_impl_IsForm : ∀ args w, (callFunc 161 args).run Tryz.prog w = .ok (.enter 161 args) w := zI Tryz.func161 kk kk
theorem s_impl_IsForm {f1 : (Int × Int × Int)} {r : Bool} (h : r_impl_IsForm f1 = some r) : z7 Tryz.prog 161 [.ag [Ti f1.1, Ti f1.2.1, Ti f1.2.2]] (Bo r) [] := by
  refine zH (rs := [.t 2]) (vs := [.tmp 2]) Tryz.func161 rfl rfl (.cons rfl FitsL.nil) (by decide) 11 rfl ?_
  unfold r_impl_IsForm at h
  show V _ _ ⟨.ag [Ti f1.1, Ti f1.2.1, Ti f1.2.2] :: bt 10 [], []⟩ _
  refine V_e (mb 11 2) [8] (s1 := ⟨.bot :: .pt 8 0 :: bt 9 [], [(8, .box [Ti f1.1, Ti f1.2.1, Ti f1.2.2])]⟩) ?_
  obtain ⟨y2, hy2, h⟩ := zD h
  refine zG (mb 11 4) [] (s1 := ⟨.bot :: .bot :: Bo y2 :: bt 8 [], []⟩) ?_ ?_
  ·refine XR 6 ?_
   refine L1 rfl rfl (Y1_bslice (z := zv3) (els := [f1.1, f1.2.1, f1.2.2].map c3) Tryz.underlying24 iz3 rfl (by decide) rfl kk rfl (by simp [c3]) (by decide) (by decide)) ?_
   refine L1 rfl rfl (Y1_callS (s_impl_areNumbers hy2) cf_impl_areNumbers rfl kk rfl rfl) ?_
   exact XE
  refine zR ?_
  obtain rfl := zE h
  show Post _ _ _ _ _
  exact ⟨.inr rfl, rfl, rfl, rfl⟩
end Go.Proofs.YtfmjfofocklgpaaGreatDoor
