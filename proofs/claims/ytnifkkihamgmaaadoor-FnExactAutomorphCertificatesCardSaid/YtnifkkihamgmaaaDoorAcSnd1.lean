/-
  The functions of the program compute what the plain functions say.
  Conditions: none.
-/
import Derived.Test.YtnifkkihamgmaaaDoorShLi
import Derived.Test.YtnifkkihamgmaaaDoorShEx
import Derived.Test.YtnifkkihamgmaaaDoorShVw
import Derived.Test.YtnifkkihamgmaaaDoorAcRaw
import Derived.Test.YtnifkkihamgmaaaDoorRows
namespace Go.Proofs.YtnifkkihamgmaaaDoor
open Go.RowKit
set_option linter.unusedVariables false
set_option linter.unusedSimpArgs false
set_option maxRecDepth 100000
set_option maxHeartbeats 400000
def c42 (x : (Int × Int × Int × Int)) : List Tr := [Ti x.1, Ti x.2.1, Ti x.2.2.1, Ti x.2.2.2]
def c5 (x : Int) : List Tr := [.v (.int .u8 x)]
def c9 (x : ByteArray) : List Tr := [.v (.string x)]
def c3 (x : Int) : List Tr := [Ti x]
def zv3 : Value := .int .i64 0
theorem zf3 : (Tryd.prog.info? 3).bind (·.zero) = some zv3 := by kernel_rfl
def zv5 : Value := .int .u8 0
theorem zf5 : (Tryd.prog.info? 5).bind (·.zero) = some zv5 := by kernel_rfl
def zv9 : Value := .string ByteArray.empty
theorem zf9 : (Tryd.prog.info? 9).bind (·.zero) = some zv9 := by kernel_rfl
def zv27 : Value := .agg #[.int .i64 0, .int .i64 0, .int .i64 0]
theorem zf27 : (Tryd.prog.info? 27).bind (·.zero) = some zv27 := by kernel_rfl
def zv42 : Value := .agg #[.int .i64 0, .int .i64 0, .int .i64 0, .int .i64 0]
theorem zf42 : (Tryd.prog.info? 42).bind (·.zero) = some zv42 := by kernel_rfl
theorem iz3 : (Tryd.prog.info? 3).map (fun i => (i.zero, i.size)) = some (some zv3, 1) := by kernel_rfl
theorem iz5 : (Tryd.prog.info? 5).map (fun i => (i.zero, i.size)) = some (some zv5, 1) := by kernel_rfl
theorem iz9 : (Tryd.prog.info? 9).map (fun i => (i.zero, i.size)) = some (some zv9, 1) := by kernel_rfl
theorem iz42 : (Tryd.prog.info? 42).map (fun i => (i.zero, i.size)) = some (some zv42, 4) := by kernel_rfl
theorem izb9 : (Tryd.prog.info? 9).map (fun i => (i.zero, i.size, i.bytes)) = some (some zv9, 1, 16) := by kernel_rfl
theorem izb42 : (Tryd.prog.info? 42).map (fun i => (i.zero, i.size, i.bytes)) = some (some zv42, 4, 32) := by kernel_rfl
theorem sc3 : scalar Tryd.prog 3 := ⟨_, Tryd.underlying3, rfl⟩
theorem sc9 : scalar Tryd.prog 9 := ⟨_, Tryd.underlying9, rfl⟩
theorem sz3 : (Tryd.prog.info? 3).map (·.size) = some 1 := by kernel_rfl
theorem sz9 : (Tryd.prog.info? 9).map (·.size) = some 1 := by kernel_rfl
theorem sz27 : (Tryd.prog.info? 27).map (·.size) = some 3 := by kernel_rfl
theorem sz42 : (Tryd.prog.info? 42).map (·.size) = some 4 := by kernel_rfl
theorem wd23 : wide Tryd.prog 23 3 := ⟨⟨_, Tryd.underlying23, rfl⟩, by kernel_rfl⟩
theorem wd27 : wide Tryd.prog 27 3 := ⟨⟨_, Tryd.underlying27, rfl⟩, by kernel_rfl⟩
theorem wd42 : wide Tryd.prog 42 4 := ⟨⟨_, Tryd.underlying42, rfl⟩, by kernel_rfl⟩
def pl27 : Nat → Option (Nat × Nat) := fun i => (#[(0, 1), (1, 1), (2, 1)] : Array (Nat × Nat))[i]?
theorem bt27 : ∀ ps, Tryd.prog.built 27 ps = Instr.fill pl27 #[.int .i64 0, .int .i64 0, .int .i64 0] ps := fun ps => by kernel_rfl
def pl42 : Nat → Option (Nat × Nat) := fun i => (#[(0, 1), (1, 1), (2, 1), (3, 1)] : Array (Nat × Nat))[i]?
theorem bt42 : ∀ ps, Tryd.prog.built 42 ps = Instr.fill pl42 #[.int .i64 0, .int .i64 0, .int .i64 0, .int .i64 0] ps := fun ps => by kernel_rfl
theorem cf_laws_toForm : ∀ args w, (callFunc 8 args).run Tryd.prog w = .ok (.enter 8 args) w := run_callFunc Tryd.func8 (by kernel_rfl) (by kernel_rfl)
theorem s_laws_toForm {a1 : (Int × Int × Int)} {r : (Int × Int × Int)} (h : r_laws_toForm a1 = some r) : CallS Tryd.prog 8 [.ag [Ti a1.1, Ti a1.2.1, Ti a1.2.2]] (.ag [Ti r.1, Ti r.2.1, Ti r.2.2]) [] := by
  refine CallS_of_text (rs := [.w 2 3]) (vs := [.cell 2 27]) Tryd.func8 rfl rfl (.cons ⟨rfl, wd27⟩ FitsL.nil) (by decide) 14 rfl ?_
  unfold r_laws_toForm at h
  show V _ _ ⟨.ag [Ti a1.1, Ti a1.2.1, Ti a1.2.2] :: bt 13 [], []⟩ _
  refine V_e (mb 14 6) [16, 8] (s1 := ⟨.bot :: .pt 8 0 :: .pt 16 0 :: bt 11 [], [(16, .box [Ti 0, Ti 0, Ti 0]), (8, .box [Ti a1.1, Ti a1.2.1, Ti a1.2.2])]⟩) ?_
  refine V_e (mb 14 14) [24, 16, 8] (s1 := ⟨.bot :: .pt 8 0 :: .pt 16 0 :: .pt 24 0 :: bt 10 [], [(24, .box [Ti 0, Ti 0, Ti 0]), (16, .box [Ti 0, Ti 0, Ti 0]), (8, .box [Ti a1.1, Ti a1.2.1, Ti a1.2.2])]⟩) ?_
  refine V_e (mb 14 14) [24, 16, 8] (s1 := ⟨.bot :: .pt 8 0 :: .pt 16 0 :: .pt 24 0 :: bt 10 [], [(24, .box [Ti a1.1, Ti 0, Ti 0]), (16, .box [Ti 0, Ti 0, Ti 0]), (8, .box [Ti a1.1, Ti a1.2.1, Ti a1.2.2])]⟩) ?_
  refine V_e (mb 14 14) [24, 16, 8] (s1 := ⟨.bot :: .pt 8 0 :: .pt 16 0 :: .pt 24 0 :: bt 10 [], [(24, .box [Ti a1.1, Ti a1.2.1, Ti 0]), (16, .box [Ti 0, Ti 0, Ti 0]), (8, .box [Ti a1.1, Ti a1.2.1, Ti a1.2.2])]⟩) ?_
  refine V_e (mb 14 12) [24, 16] (s1 := ⟨.bot :: .bot :: .pt 16 0 :: .pt 24 0 :: bt 10 [], [(24, .box [Ti a1.1, Ti a1.2.1, Ti a1.2.2]), (16, .box [Ti 0, Ti 0, Ti 0])]⟩) ?_
  refine V_e (mb 14 4) [16] (s1 := ⟨.bot :: .bot :: .pt 16 0 :: bt 11 [], [(16, .box [Ti a1.1, Ti a1.2.1, Ti a1.2.2])]⟩) ?_
  refine V_ret ?_
  obtain rfl := some_inj h
  show Post _ _ _ _ _
  exact ⟨.inr rfl, rfl, rfl, rfl⟩
theorem cf_spec_l1In : ∀ args w, (callFunc 55 args).run Tryd.prog w = .ok (.enter 55 args) w := run_callFunc Tryd.func55 (by kernel_rfl) (by kernel_rfl)
theorem s_spec_l1In {vn1 : Int} {lo2 : Int} {hi3 : Int} {r : Bool} (h : r_spec_l1In vn1 lo2 hi3 = some r) : CallS Tryd.prog 55 [I vn1, I lo2, I hi3] (Bo r) [] := by
  refine CallS_of_text (rs := [.t 6]) (vs := [.tmp 6]) Tryd.func55 rfl rfl (.cons rfl FitsL.nil) (by decide) 15 rfl ?_
  unfold r_spec_l1In at h
  show V _ _ ⟨I vn1 :: I lo2 :: I hi3 :: bt 12 [], []⟩ _
  refine V_e (mb 15 7) [] (s1 := ⟨I vn1 :: I lo2 :: I hi3 :: bt 12 [], []⟩) ?_
  refine V_sreg (mb 15 64) [] (s1 := ⟨bt 6 (Bo (bif (leI lo2 vn1) then (leI vn1 hi3) else false) :: bt 8 []), []⟩) ?_ ?_
  ·refine XR 4 ?_
   refine XL_split (leI lo2 vn1) (fun hc4 => ?_) (fun hc4 => ?_)
   ·refine XL_takeC _ rfl rfl (by kernel_rfl) hc4 (X_of_Y0 rfl (E_move (I vn1) rfl (by kernel_rfl))) ?_
    refine XL_takeC _ rfl rfl (by kernel_rfl) hc4 (X_of_Y0 rfl (E_move (I hi3) rfl (by kernel_rfl))) ?_
    refine XL_takeC _ rfl rfl (by kernel_rfl) hc4 (X_of_Y0 rfl (Y0_lew (k := .i64) (a := vn1) (b := hi3) rfl (by kernel_rfl) (by kernel_rfl))) ?_
    refine XL_cons rfl (X_of_Y0 rfl (Y0_pick1 (b := leI lo2 vn1) (p := leI vn1 hi3) (q := false) rfl (by kernel_rfl) hc4 (by kernel_rfl))) ?_
    exact XE
   ·refine XL_skipT _ rfl rfl (by kernel_rfl) hc4 rfl ?_
    refine XL_skipT _ rfl rfl (by kernel_rfl) hc4 rfl ?_
    refine XL_skipT _ rfl rfl (by kernel_rfl) hc4 rfl ?_
    refine XL_cons rfl (X_of_Y0 rfl (Y0_pick0 (b := leI lo2 vn1) (p := leI vn1 hi3) (q := false) rfl (by kernel_rfl) hc4 (by kernel_rfl))) ?_
    exact XE
  refine V_ret ?_
  obtain rfl := some_inj h
  show Post _ _ _ _ _
  exact ⟨.inr rfl, rfl, rfl, rfl⟩
theorem cf_spec_nuGood : ∀ args w, (callFunc 30 args).run Tryd.prog w = .ok (.enter 30 args) w := run_callFunc Tryd.func30 (by kernel_rfl) (by kernel_rfl)
theorem s_spec_nuGood {vn1 : Int} {r : Bool} (h : r_spec_nuGood vn1 = some r) : CallS Tryd.prog 30 [I vn1] (Bo r) [] := by
  refine CallS_of_text (rs := [.t 2]) (vs := [.tmp 2]) Tryd.func30 rfl rfl (.cons rfl FitsL.nil) (by decide) 5 rfl ?_
  unfold r_spec_nuGood at h
  show V _ _ ⟨I vn1 :: bt 4 [], []⟩ _
  refine V_e (mb 5 1) [] (s1 := ⟨I vn1 :: bt 4 [], []⟩) ?_
  obtain ⟨y2, hy2, h⟩ := of_bind h
  refine V_sreg (mb 5 4) [] (s1 := ⟨.bot :: .bot :: Bo y2 :: .bot :: .bot :: [], []⟩) ?_ ?_
  ·refine XR 1 ?_
   refine XC (s_spec_l1In hy2) cf_spec_l1In rfl rfl rfl ?_
   exact XE
  refine V_ret ?_
  obtain rfl := some_inj h
  show Post _ _ _ _ _
  exact ⟨.inr rfl, rfl, rfl, rfl⟩
theorem cf_spec_foGood : ∀ args w, (callFunc 41 args).run Tryd.prog w = .ok (.enter 41 args) w := run_callFunc Tryd.func41 (by kernel_rfl) (by kernel_rfl)
theorem s_spec_foGood {f1 : (Int × Int × Int)} {r : Bool} (h : r_spec_foGood f1 = some r) : CallS Tryd.prog 41 [.ag [Ti f1.1, Ti f1.2.1, Ti f1.2.2]] (Bo r) [] := by
  refine CallS_of_text (rs := [.t 2]) (vs := [.tmp 2]) Tryd.func41 rfl rfl (.cons rfl FitsL.nil) (by decide) 16 rfl ?_
  unfold r_spec_foGood at h
  show V _ _ ⟨.ag [Ti f1.1, Ti f1.2.1, Ti f1.2.2] :: bt 15 [], []⟩ _
  refine V_e (mb 16 2) [8] (s1 := ⟨.bot :: .pt 8 0 :: bt 14 [], [(8, .box [Ti f1.1, Ti f1.2.1, Ti f1.2.2])]⟩) ?_
  obtain ⟨y2, hy2, h⟩ := of_bind h
  obtain ⟨b5, hb5, h⟩ := of_bind h
  obtain ⟨b8, hb8, h⟩ := of_bind h
  refine V_sreg (mb 16 4) [] (s1 := ⟨.bot :: .bot :: Bo b8 :: bt 13 [], []⟩) ?_ ?_
  ·refine XR 2 ?_
   refine XC (s_spec_nuGood hy2) cf_spec_nuGood rfl rfl rfl ?_
   refine XR 1 ?_
   refine XL_split y2 (fun hc3 => ?_) (fun hc3 => ?_)
   ·have hb5 := of_true hb5 hc3
    obtain ⟨y4, hy4, hb5⟩ := of_bind hb5
    have hb5 := some_inj hb5
    refine XL_takeC _ rfl rfl (by kernel_rfl) hc3 (X_of_Y0 rfl (E_field (.pt 8 1) Tryd.underlying27 rfl sz3 rfl (by kernel_rfl) (by intro hh; cases hh))) ?_
    refine XL_takeC _ rfl rfl (by kernel_rfl) hc3 (X_of_Y0 rfl (Y0_load1 (c := Ti f1.2.1) (cs := [Ti f1.2.2]) sc3 rfl (by kernel_rfl))) ?_
    refine XL_takeC _ rfl rfl (by kernel_rfl) hc3 (X_of_Y1 rfl (Y1_call (s_spec_nuGood hy4) cf_spec_nuGood rfl (by kernel_rfl))) ?_
    refine XL_cons rfl (X_of_Y0 rfl (Y0_pickTe (b := y2) (p := y4) rfl (by kernel_rfl) hc3 (by kernel_rfl) hb5)) ?_
    refine XR 1 ?_
    refine XL_split b5 (fun hc6 => ?_) (fun hc6 => ?_)
    ·have hb8 := of_true hb8 hc6
     obtain ⟨y7, hy7, hb8⟩ := of_bind hb8
     have hb8 := some_inj hb8
     refine XL_takeC _ rfl rfl (by kernel_rfl) hc6 (X_of_Y0 rfl (E_field (.pt 8 2) Tryd.underlying27 rfl sz3 rfl (by kernel_rfl) (by intro hh; cases hh))) ?_
     refine XL_takeC _ rfl rfl (by kernel_rfl) hc6 (X_of_Y0 rfl (Y0_load1 (c := Ti f1.2.2) (cs := []) sc3 rfl (by kernel_rfl))) ?_
     refine XL_takeC _ rfl rfl (by kernel_rfl) hc6 (X_of_Y1 rfl (Y1_call (s_spec_nuGood hy7) cf_spec_nuGood rfl (by kernel_rfl))) ?_
     refine XL_cons rfl (X_of_Y0 rfl (Y0_pickTe (b := b5) (p := y7) rfl (by kernel_rfl) hc6 (by kernel_rfl) hb8)) ?_
     exact XE
    ·have hb8 := some_inj (of_false hb8 hc6)
     refine XL_skipT _ rfl rfl (by kernel_rfl) hc6 rfl ?_
     refine XL_skipT _ rfl rfl (by kernel_rfl) hc6 rfl ?_
     refine XL_skipT _ rfl rfl (by kernel_rfl) hc6 rfl ?_
     refine XL_cons rfl (X_of_Y0 rfl (Y0_pickFe (b := b5) (p := false) rfl (by kernel_rfl) hc6 (by kernel_rfl) hb8)) ?_
     exact XE
   ·have hb5 := some_inj (of_false hb5 hc3)
    refine XL_skipT _ rfl rfl (by kernel_rfl) hc3 rfl ?_
    refine XL_skipT _ rfl rfl (by kernel_rfl) hc3 rfl ?_
    refine XL_skipT _ rfl rfl (by kernel_rfl) hc3 rfl ?_
    refine XL_cons rfl (X_of_Y0 rfl (Y0_pickFe (b := y2) (p := false) rfl (by kernel_rfl) hc3 (by kernel_rfl) hb5)) ?_
    refine XR 1 ?_
    refine XL_split b5 (fun hc6 => ?_) (fun hc6 => ?_)
    ·have hb8 := of_true hb8 hc6
     obtain ⟨y7, hy7, hb8⟩ := of_bind hb8
     have hb8 := some_inj hb8
     refine XL_takeC _ rfl rfl (by kernel_rfl) hc6 (X_of_Y0 rfl (E_field (.pt 8 2) Tryd.underlying27 rfl sz3 rfl (by kernel_rfl) (by intro hh; cases hh))) ?_
     refine XL_takeC _ rfl rfl (by kernel_rfl) hc6 (X_of_Y0 rfl (Y0_load1 (c := Ti f1.2.2) (cs := []) sc3 rfl (by kernel_rfl))) ?_
     refine XL_takeC _ rfl rfl (by kernel_rfl) hc6 (X_of_Y1 rfl (Y1_call (s_spec_nuGood hy7) cf_spec_nuGood rfl (by kernel_rfl))) ?_
     refine XL_cons rfl (X_of_Y0 rfl (Y0_pickTe (b := b5) (p := y7) rfl (by kernel_rfl) hc6 (by kernel_rfl) hb8)) ?_
     exact XE
    ·have hb8 := some_inj (of_false hb8 hc6)
     refine XL_skipT _ rfl rfl (by kernel_rfl) hc6 rfl ?_
     refine XL_skipT _ rfl rfl (by kernel_rfl) hc6 rfl ?_
     refine XL_skipT _ rfl rfl (by kernel_rfl) hc6 rfl ?_
     refine XL_cons rfl (X_of_Y0 rfl (Y0_pickFe (b := b5) (p := false) rfl (by kernel_rfl) hc6 (by kernel_rfl) hb8)) ?_
     exact XE
  refine V_ret ?_
  obtain rfl := some_inj h
  show Post _ _ _ _ _
  exact ⟨.inr rfl, rfl, rfl, rfl⟩
theorem cf_spec_foDisc : ∀ args w, (callFunc 42 args).run Tryd.prog w = .ok (.enter 42 args) w := run_callFunc Tryd.func42 (by kernel_rfl) (by kernel_rfl)
theorem s_spec_foDisc {f1 : (Int × Int × Int)} {r : Int} (h : r_spec_foDisc f1 = some r) : CallS Tryd.prog 42 [.ag [Ti f1.1, Ti f1.2.1, Ti f1.2.2]] (I r) [] := by
  refine CallS_of_text (rs := [.t 2]) (vs := [.tmp 2]) Tryd.func42 rfl rfl (.cons rfl FitsL.nil) (by decide) 15 rfl ?_
  unfold r_spec_foDisc at h
  show V _ _ ⟨.ag [Ti f1.1, Ti f1.2.1, Ti f1.2.2] :: bt 14 [], []⟩ _
  refine V_e (mb 15 2) [8] (s1 := ⟨.bot :: .pt 8 0 :: bt 13 [], [(8, .box [Ti f1.1, Ti f1.2.1, Ti f1.2.2])]⟩) ?_
  obtain ⟨t2, ht2, h⟩ := of_sI h
  refine V_sreg (mb 15 4) [] (s1 := ⟨.bot :: .bot :: I t2 :: bt 12 [], []⟩) ?_ ?_
  ·refine XR 13 ?_
   refine XL_nil ?_
   subst ht2
   kernel_rfl
  refine V_ret ?_
  obtain rfl := some_inj h
  show Post _ _ _ _ _
  exact ⟨.inr rfl, rfl, rfl, rfl⟩
theorem cf_spec_foDefinite : ∀ args w, (callFunc 19 args).run Tryd.prog w = .ok (.enter 19 args) w := run_callFunc Tryd.func19 (by kernel_rfl) (by kernel_rfl)
theorem s_spec_foDefinite {f1 : (Int × Int × Int)} {r : Bool} (h : r_spec_foDefinite f1 = some r) : CallS Tryd.prog 19 [.ag [Ti f1.1, Ti f1.2.1, Ti f1.2.2]] (Bo r) [] := by
  refine CallS_of_text (rs := [.t 2]) (vs := [.tmp 2]) Tryd.func19 rfl rfl (.cons rfl FitsL.nil) (by decide) 15 rfl ?_
  unfold r_spec_foDefinite at h
  show V _ _ ⟨.ag [Ti f1.1, Ti f1.2.1, Ti f1.2.2] :: bt 14 [], []⟩ _
  refine V_e (mb 15 2) [8] (s1 := ⟨.bot :: .pt 8 0 :: bt 13 [], [(8, .box [Ti f1.1, Ti f1.2.1, Ti f1.2.2])]⟩) ?_
  obtain ⟨y2, hy2, h⟩ := of_bind h
  obtain ⟨b5, hb5, h⟩ := of_bind h
  refine V_sreg (mb 15 4) [] (s1 := ⟨.bot :: .bot :: Bo (bif b5 then (ltI 0 f1.1) else false) :: bt 12 [], []⟩) ?_ ?_
  ·refine XR 1 ?_
   refine XC (s_spec_foGood hy2) cf_spec_foGood rfl rfl rfl ?_
   refine XR 1 ?_
   refine XL_split y2 (fun hc3 => ?_) (fun hc3 => ?_)
   ·have hb5 := of_true hb5 hc3
    obtain ⟨y4, hy4, hb5⟩ := of_bind hb5
    have hb5 := some_inj hb5
    refine XL_takeC _ rfl rfl (by kernel_rfl) hc3 (X_of_Y0 rfl (E_loadn (cs := [Ti f1.1, Ti f1.2.1, Ti f1.2.2]) [Ti f1.1, Ti f1.2.1, Ti f1.2.2] wd27 rfl (by kernel_rfl) (Nat.le_of_ble_eq_true rfl) (by kernel_rfl))) ?_
    refine XL_takeC _ rfl rfl (by kernel_rfl) hc3 (X_of_Y1 rfl (Y1_call (s_spec_foDisc hy4) cf_spec_foDisc rfl (by kernel_rfl))) ?_
    refine XL_takeC _ rfl rfl (by kernel_rfl) hc3 (X_of_Y0 rfl (Y0_ltw (k := .i64) (a := y4) (b := 0) rfl (by kernel_rfl) (by kernel_rfl))) ?_
    refine XL_cons rfl (X_of_Y0 rfl (Y0_pickTe (b := y2) (p := ltI y4 0) rfl (by kernel_rfl) hc3 (by kernel_rfl) hb5)) ?_
    refine XR 1 ?_
    refine XL_split b5 (fun hc6 => ?_) (fun hc6 => ?_)
    ·refine XL_takeC _ rfl rfl (by kernel_rfl) hc6 (X_of_Y0 rfl (E_field (.pt 8 0) Tryd.underlying27 rfl sz3 rfl (by kernel_rfl) (by intro hh; cases hh))) ?_
     refine XL_takeC _ rfl rfl (by kernel_rfl) hc6 (X_of_Y0 rfl (Y0_load1 (c := Ti f1.1) (cs := [Ti f1.2.1, Ti f1.2.2]) sc3 rfl (by kernel_rfl))) ?_
     refine XL_takeC _ rfl rfl (by kernel_rfl) hc6 (X_of_Y0 rfl (Y0_gtw (k := .i64) (a := f1.1) (b := 0) rfl (by kernel_rfl) (by kernel_rfl))) ?_
     refine XL_cons rfl (X_of_Y0 rfl (Y0_pick1 (b := b5) (p := ltI 0 f1.1) (q := false) rfl (by kernel_rfl) hc6 (by kernel_rfl))) ?_
     exact XE
    ·refine XL_skipT _ rfl rfl (by kernel_rfl) hc6 rfl ?_
     refine XL_skipT _ rfl rfl (by kernel_rfl) hc6 rfl ?_
     refine XL_skipT _ rfl rfl (by kernel_rfl) hc6 rfl ?_
     refine XL_cons rfl (X_of_Y0 rfl (Y0_pick0 (b := b5) (p := ltI 0 f1.1) (q := false) rfl (by kernel_rfl) hc6 (by kernel_rfl))) ?_
     exact XE
   ·have hb5 := some_inj (of_false hb5 hc3)
    refine XL_skipT _ rfl rfl (by kernel_rfl) hc3 rfl ?_
    refine XL_skipT _ rfl rfl (by kernel_rfl) hc3 rfl ?_
    refine XL_skipT _ rfl rfl (by kernel_rfl) hc3 rfl ?_
    refine XL_cons rfl (X_of_Y0 rfl (Y0_pickFe (b := y2) (p := false) rfl (by kernel_rfl) hc3 (by kernel_rfl) hb5)) ?_
    refine XR 1 ?_
    refine XL_split b5 (fun hc6 => ?_) (fun hc6 => ?_)
    ·refine XL_takeC _ rfl rfl (by kernel_rfl) hc6 (X_of_Y0 rfl (E_field (.pt 8 0) Tryd.underlying27 rfl sz3 rfl (by kernel_rfl) (by intro hh; cases hh))) ?_
     refine XL_takeC _ rfl rfl (by kernel_rfl) hc6 (X_of_Y0 rfl (Y0_load1 (c := Ti f1.1) (cs := [Ti f1.2.1, Ti f1.2.2]) sc3 rfl (by kernel_rfl))) ?_
     refine XL_takeC _ rfl rfl (by kernel_rfl) hc6 (X_of_Y0 rfl (Y0_gtw (k := .i64) (a := f1.1) (b := 0) rfl (by kernel_rfl) (by kernel_rfl))) ?_
     refine XL_cons rfl (X_of_Y0 rfl (Y0_pick1 (b := b5) (p := ltI 0 f1.1) (q := false) rfl (by kernel_rfl) hc6 (by kernel_rfl))) ?_
     exact XE
    ·refine XL_skipT _ rfl rfl (by kernel_rfl) hc6 rfl ?_
     refine XL_skipT _ rfl rfl (by kernel_rfl) hc6 rfl ?_
     refine XL_skipT _ rfl rfl (by kernel_rfl) hc6 rfl ?_
     refine XL_cons rfl (X_of_Y0 rfl (Y0_pick0 (b := b5) (p := ltI 0 f1.1) (q := false) rfl (by kernel_rfl) hc6 (by kernel_rfl))) ?_
     exact XE
  refine V_ret ?_
  obtain rfl := some_inj h
  show Post _ _ _ _ _
  exact ⟨.inr rfl, rfl, rfl, rfl⟩
theorem cf_spec_l1Most : ∀ args w, (callFunc 121 args).run Tryd.prog w = .ok (.enter 121 args) w := run_callFunc Tryd.func121 (by kernel_rfl) (by kernel_rfl)
theorem s_spec_l1Most {a1 : Int} {b2 : Int} {r : Int} (h : r_spec_l1Most a1 b2 = some r) : CallS Tryd.prog 121 [I a1, I b2] (I r) [] := by
  refine CallS_of_text (rs := [.t 4]) (vs := [.tmp 4]) Tryd.func121 rfl rfl (.cons rfl FitsL.nil) (by decide) 10 rfl ?_
  unfold r_spec_l1Most at h
  show V _ _ ⟨I a1 :: I b2 :: bt 8 [], []⟩ _
  refine V_e (mb 10 3) [] (s1 := ⟨I a1 :: I b2 :: bt 8 [], []⟩) ?_
  refine V_seq ?_
  refine V_e (mb 10 131) [] (s1 := ⟨I a1 :: I b2 :: bt 5 (Bo (ltI b2 a1) :: .bot :: .bot :: []), []⟩) ?_
  refine V_cond rfl (fun hc3 => ?_) (fun hc3 => ?_)
  ·have h := of_true h hc3
   refine V_e (mb 10 16) [] (s1 := ⟨bt 4 (I a1 :: bt 5 []), []⟩) ?_
   refine V_ret ?_
   obtain rfl := some_inj h
   show Post _ _ _ _ _
   exact ⟨.inr rfl, rfl, rfl, rfl⟩
  ·have h := of_false h hc3
   refine V_skip ?_
   show V _ _ _ _
   refine V_e (mb 10 16) [] (s1 := ⟨bt 4 (I b2 :: bt 5 []), []⟩) ?_
   refine V_ret ?_
   obtain rfl := some_inj h
   show Post _ _ _ _ _
   exact ⟨.inr rfl, rfl, rfl, rfl⟩
theorem cf_spec_l1Abs : ∀ args w, (callFunc 91 args).run Tryd.prog w = .ok (.enter 91 args) w := run_callFunc Tryd.func91 (by kernel_rfl) (by kernel_rfl)
theorem s_spec_l1Abs {vn1 : Int} {r : Int} (h : r_spec_l1Abs vn1 = some r) : CallS Tryd.prog 91 [I vn1] (I r) [] := by
  refine CallS_of_text (rs := [.t 2]) (vs := [.tmp 2]) Tryd.func91 rfl rfl (.cons rfl FitsL.nil) (by decide) 7 rfl ?_
  unfold r_spec_l1Abs at h
  show V _ _ ⟨I vn1 :: bt 6 [], []⟩ _
  refine V_e (mb 7 1) [] (s1 := ⟨I vn1 :: bt 6 [], []⟩) ?_
  obtain ⟨y2, hy2, h⟩ := of_bind h
  refine V_sreg (mb 7 4) [] (s1 := ⟨.bot :: .bot :: I y2 :: bt 4 [], []⟩) ?_ ?_
  ·refine XR 3 ?_
   refine XC (s_spec_l1Most hy2) cf_spec_l1Most rfl rfl rfl ?_
   exact XE
  refine V_ret ?_
  obtain rfl := some_inj h
  show Post _ _ _ _ _
  exact ⟨.inr rfl, rfl, rfl, rfl⟩
theorem cf_spec_nuGcd : ∀ args w, (callFunc 73 args).run Tryd.prog w = .ok (.enter 73 args) w := run_callFunc Tryd.func73 (by kernel_rfl) (by kernel_rfl)
theorem s_spec_nuGcd {a1 : Int} {b2 : Int} {r : Int} (h : r_spec_nuGcd a1 b2 = some r) : CallS Tryd.prog 73 [I a1, I b2] (I r) [] := by
  refine CallS_of_text (rs := [.t 4]) (vs := [.tmp 4]) Tryd.func73 rfl rfl (.cons rfl FitsL.nil) (by decide) 16 rfl ?_
  unfold r_spec_nuGcd at h
  show V _ _ ⟨I a1 :: I b2 :: bt 14 [], []⟩ _
  refine V_e (mb 16 3) [] (s1 := ⟨I a1 :: I b2 :: bt 14 [], []⟩) ?_
  obtain ⟨y3, hy3, h⟩ := of_bind h
  obtain ⟨y4, hy4, h⟩ := of_bind h
  refine V_sreg (mb 16 3) [] (s1 := ⟨I y3 :: I y4 :: bt 14 [], []⟩) ?_ ?_
  ·refine XR 1 ?_
   refine XC (s_spec_l1Abs hy3) cf_spec_l1Abs rfl rfl rfl ?_
   refine XR 1 ?_
   refine XC (s_spec_l1Abs hy4) cf_spec_l1Abs rfl rfl rfl ?_
   exact XE
  refine V_seq ?_
  obtain ⟨o8, hLo8, h⟩ := of_bind h
  refine V_toK (mb 16 1) [] (s1 := ⟨I o8 :: bt 15 [], []⟩) ?_ ?_
  ·clear h
   refine V_block (V_loop (fun n s => ∃ (a5 : Int) (b6 : Int), s.keep (mb 16 3) [] = (⟨I a5 :: I b6 :: bt 14 [], []⟩ : St) ∧ r_spec_nuGcd_L7 n a5 b6 = some o8) FU ⟨_, _,  by rfl, hLo8⟩ ?_)
   clear hLo8
   rintro n s ⟨a5, b6, hs, h⟩
   refine V_keep _ _ hs ?_
   clear hs
   cases n with
   | zero => cases h
   | succ n =>
    rw [r_spec_nuGcd_L7] at h
    refine V_seq ?_
    refine V_e (mb 16 1027) [] (s1 := ⟨I a5 :: I b6 :: bt 8 (Bo (!eqI b6 0) :: bt 5 []), []⟩) ?_
    refine V_cond rfl (fun hc9 => ?_) (fun hc9 => ?_)
    ·have h := of_true h hc9
     refine V_skip ?_
     show V _ _ _ _
     refine V_block ?_
     obtain ⟨z10, hz10, h⟩ := of_bind h
     obtain ⟨b11, hb11, h⟩ := of_sI h
     refine V_dreg [0, 0, 0, 6, 3, 31] 6 (cdm 6 [168, 34, 522, 534, 165, 341]) (mb 16 3) [] (s1 := ⟨I b6 :: I b11 :: bt 14 [], []⟩) (by kernel_rfl) (by kernel_rfl) ?_ ?_
     ·refine DR 3 ?_
      refine DE_0 3 (I (Int.tmod a5 b6)) (by kernel_rfl) rfl rfl rfl (gsat_none rfl) (by kernel_rfl) (Y0_rem (k := .i64) (a := a5) (b := b6) rfl (by kernel_rfl) (by kernel_rfl) (nz_some hz10)) 14 rfl ?_
      refine DA 2 ?_
      refine XL_nil ?_
      subst hb11
      kernel_rfl
     exact ⟨n, Nat.lt_succ_self n, _, _,  by rfl, h⟩
    ·have h := of_false h hc9
     refine V_exit ?_
     obtain rfl := some_inj h
     show St.keep _ _ _ = _
     rfl
  show V _ _ _ _
  refine V_e (mb 16 16) [] (s1 := ⟨bt 4 (I o8 :: bt 11 []), []⟩) ?_
  refine V_ret ?_
  obtain rfl := some_inj h
  show Post _ _ _ _ _
  exact ⟨.inr rfl, rfl, rfl, rfl⟩
theorem cf_spec_foContent : ∀ args w, (callFunc 43 args).run Tryd.prog w = .ok (.enter 43 args) w := run_callFunc Tryd.func43 (by kernel_rfl) (by kernel_rfl)
theorem s_spec_foContent {f1 : (Int × Int × Int)} {r : Int} (h : r_spec_foContent f1 = some r) : CallS Tryd.prog 43 [.ag [Ti f1.1, Ti f1.2.1, Ti f1.2.2]] (I r) [] := by
  refine CallS_of_text (rs := [.t 2]) (vs := [.tmp 2]) Tryd.func43 rfl rfl (.cons rfl FitsL.nil) (by decide) 11 rfl ?_
  unfold r_spec_foContent at h
  show V _ _ ⟨.ag [Ti f1.1, Ti f1.2.1, Ti f1.2.2] :: bt 10 [], []⟩ _
  refine V_e (mb 11 2) [8] (s1 := ⟨.bot :: .pt 8 0 :: bt 9 [], [(8, .box [Ti f1.1, Ti f1.2.1, Ti f1.2.2])]⟩) ?_
  obtain ⟨y2, hy2, h⟩ := of_bind h
  obtain ⟨y3, hy3, h⟩ := of_bind h
  refine V_sdreg [0, 1, 0, 4, 15, 0, 32, 127, 255] 9 (cdm 9 [10400, 10401, 10250, 10266, 10325, 682, 1706, 5461, 21845]) (mb 11 4) [] (s1 := ⟨.bot :: .bot :: I y3 :: bt 8 [], []⟩) (by kernel_rfl) (by kernel_rfl) ?_ ?_
  ·refine DR 4 ?_
   refine DC 4 (s_spec_nuGcd hy2) cf_spec_nuGcd rfl rfl rfl rfl 7 rfl ?_
   refine DR 2 ?_
   refine DC 7 (s_spec_nuGcd hy3) cf_spec_nuGcd rfl rfl rfl rfl 10 rfl ?_
   refine DA 1 ?_
   exact XE
  refine V_ret ?_
  obtain rfl := some_inj h
  show Post _ _ _ _ _
  exact ⟨.inr rfl, rfl, rfl, rfl⟩
theorem cf_spec_reLess : ∀ args w, (callFunc 44 args).run Tryd.prog w = .ok (.enter 44 args) w := run_callFunc Tryd.func44 (by kernel_rfl) (by kernel_rfl)
theorem s_spec_reLess {vm1 : (Int × Int × Int × Int)} {vn2 : (Int × Int × Int × Int)} {r : Bool} (h : r_spec_reLess vm1 vn2 = some r) : CallS Tryd.prog 44 [.ag [Ti vm1.1, Ti vm1.2.1, Ti vm1.2.2.1, Ti vm1.2.2.2], .ag [Ti vn2.1, Ti vn2.2.1, Ti vn2.2.2.1, Ti vn2.2.2.2]] (Bo r) [] := by
  refine CallS_of_text (rs := [.t 4]) (vs := [.tmp 4]) Tryd.func44 rfl rfl (.cons rfl FitsL.nil) (by decide) 43 rfl ?_
  unfold r_spec_reLess at h
  show V _ _ ⟨.ag [Ti vm1.1, Ti vm1.2.1, Ti vm1.2.2.1, Ti vm1.2.2.2] :: .ag [Ti vn2.1, Ti vn2.2.1, Ti vn2.2.2.1, Ti vn2.2.2.2] :: bt 41 [], []⟩ _
  refine V_e (mb 43 12) [24, 16] (s1 := ⟨.bot :: .bot :: .pt 16 0 :: .pt 24 0 :: bt 39 [], [(24, .box [Ti vn2.1, Ti vn2.2.1, Ti vn2.2.2.1, Ti vn2.2.2.2]), (16, .box [Ti vm1.1, Ti vm1.2.1, Ti vm1.2.2.1, Ti vm1.2.2.2])]⟩) ?_
  refine V_seq ?_
  refine V_block ?_
  refine V_e (mb 43 44) [24, 16] (s1 := ⟨.bot :: .bot :: .pt 16 0 :: .pt 24 0 :: .bot :: Bo (!eqI vm1.1 vn2.1) :: bt 37 [], [(24, .box [Ti vn2.1, Ti vn2.2.1, Ti vn2.2.2.1, Ti vn2.2.2.2]), (16, .box [Ti vm1.1, Ti vm1.2.1, Ti vm1.2.2.1, Ti vm1.2.2.2])]⟩) ?_
  refine V_cond rfl (fun hc3 => ?_) (fun hc3 => ?_)
  ·have h := of_true h hc3
   refine V_e (mb 43 16) [] (s1 := ⟨bt 4 (Bo (ltI vm1.1 vn2.1) :: bt 38 []), []⟩) ?_
   refine V_ret ?_
   obtain rfl := some_inj h
   show Post _ _ _ _ _
   exact ⟨.inr rfl, rfl, rfl, rfl⟩
  ·have h := of_false h hc3
   refine V_e (mb 43 65548) [24, 16] (s1 := ⟨.bot :: .bot :: .pt 16 0 :: .pt 24 0 :: bt 12 (Bo (!eqI vm1.2.1 vn2.2.1) :: bt 26 []), [(24, .box [Ti vn2.1, Ti vn2.2.1, Ti vn2.2.2.1, Ti vn2.2.2.2]), (16, .box [Ti vm1.1, Ti vm1.2.1, Ti vm1.2.2.1, Ti vm1.2.2.2])]⟩) ?_
   refine V_cond rfl (fun hc4 => ?_) (fun hc4 => ?_)
   ·have h := of_true h hc4
    refine V_e (mb 43 16) [] (s1 := ⟨bt 4 (Bo (ltI vm1.2.1 vn2.2.1) :: bt 38 []), []⟩) ?_
    refine V_ret ?_
    obtain rfl := some_inj h
    show Post _ _ _ _ _
    exact ⟨.inr rfl, rfl, rfl, rfl⟩
   ·have h := of_false h hc4
    refine V_e (mb 43 134217740) [24, 16] (s1 := ⟨.bot :: .bot :: .pt 16 0 :: .pt 24 0 :: bt 23 (Bo (!eqI vm1.2.2.1 vn2.2.2.1) :: bt 15 []), [(24, .box [Ti vn2.1, Ti vn2.2.1, Ti vn2.2.2.1, Ti vn2.2.2.2]), (16, .box [Ti vm1.1, Ti vm1.2.1, Ti vm1.2.2.1, Ti vm1.2.2.2])]⟩) ?_
    refine V_cond rfl (fun hc5 => ?_) (fun hc5 => ?_)
    ·have h := of_true h hc5
     refine V_e (mb 43 16) [] (s1 := ⟨bt 4 (Bo (ltI vm1.2.2.1 vn2.2.2.1) :: bt 38 []), []⟩) ?_
     refine V_ret ?_
     obtain rfl := some_inj h
     show Post _ _ _ _ _
     exact ⟨.inr rfl, rfl, rfl, rfl⟩
    ·have h := of_false h hc5
     refine V_skip ?_
     show V _ _ _ _
     refine V_e (mb 43 16) [] (s1 := ⟨bt 4 (Bo (ltI vm1.2.2.2 vn2.2.2.2) :: bt 38 []), []⟩) ?_
     refine V_ret ?_
     obtain rfl := some_inj h
     show Post _ _ _ _ _
     exact ⟨.inr rfl, rfl, rfl, rfl⟩
theorem cf_spec_reAutomorphs : ∀ args w, (callFunc 20 args).run Tryd.prog w = .ok (.enter 20 args) w := run_callFunc Tryd.func20 (by kernel_rfl) (by kernel_rfl)
theorem s_spec_reAutomorphs {f1 : (Int × Int × Int)} {r : List ((Int × Int × Int × Int))} (h : r_spec_reAutomorphs f1 = some r) : CallS Tryd.prog 20 [.ag [Ti f1.1, Ti f1.2.1, Ti f1.2.2]] (.ow 0) [(0, .arr 42 4 (r.map c42))] := by
  refine CallS_of_text (rs := [.t 2]) (vs := [.tmp 2]) Tryd.func20 rfl rfl (.cons rfl FitsL.nil) (by decide) 101 rfl ?_
  unfold r_spec_reAutomorphs at h
  show V _ _ ⟨.ag [Ti f1.1, Ti f1.2.1, Ti f1.2.2] :: bt 100 [], []⟩ _
  refine V_sreg (mb 101 2) [8] (s1 := ⟨.bot :: .pt 8 0 :: bt 99 [], [(8, .box [Ti f1.1, Ti f1.2.1, Ti f1.2.2])]⟩) ?_ ?_
  ·refine XR 1 ?_
   refine L1 rfl rfl (Y1_nil (e := 42) 4 (by decide) (.inl rfl)) ?_
   exact XE
  obtain ⟨y2, hy2, h⟩ := of_bind h
  refine V_sreg (mb 101 10) [8] (s1 := ⟨.bot :: .pt 8 0 :: .bot :: I y2 :: bt 97 [], [(8, .box [Ti f1.1, Ti f1.2.1, Ti f1.2.2])]⟩) ?_ ?_
  ·refine XR 1 ?_
   refine XC (s_spec_foContent hy2) cf_spec_foContent rfl rfl rfl ?_
   exact XE
  obtain ⟨z3, hz3, h⟩ := of_bind h
  obtain ⟨z4, hz4, h⟩ := of_bind h
  obtain ⟨z5, hz5, h⟩ := of_bind h
  obtain ⟨f6, hf6, h⟩ := of_sI h
  obtain ⟨f7, hf7, h⟩ := of_sI h
  obtain ⟨f8, hf8, h⟩ := of_sI h
  refine V_sdreg [0, 1, 0, 7, 0, 16, 0, 112, 0, 256, 0, 1792, 4095, 8191] 13 (cdm 13 [11184672, 11184673, 11184650, 11184661, 11149482, 11149738, 11143850, 11146666, 2140842, 2206378, 699050, 1419946, 5592405]) (mb 101 2) [8] (s1 := ⟨.bot :: .pt 8 0 :: bt 99 [], [(8, .box [Ti f6, Ti f7, Ti f8])]⟩) (by kernel_rfl) (by kernel_rfl) ?_ ?_
  ·refine DR 3 ?_
   refine DE_0 3 (I (w64 (Int.tdiv f1.1 y2))) (by kernel_rfl) rfl rfl rfl (gsat_none rfl) (by kernel_rfl) (Y0_quo64 (a := f1.1) (b := y2) rfl (by kernel_rfl) (by kernel_rfl) (nz_some hz3)) 15 rfl ?_
   refine DR 3 ?_
   refine DE_0 7 (I (w64 (Int.tdiv f1.2.1 y2))) (by kernel_rfl) rfl rfl rfl (gsat_none rfl) (by kernel_rfl) (Y0_quo64 (a := f1.2.1) (b := y2) rfl (by kernel_rfl) (by kernel_rfl) (nz_some hz4)) 19 rfl ?_
   refine DR 3 ?_
   refine DE_0 11 (I (w64 (Int.tdiv f1.2.2 y2))) (by kernel_rfl) rfl rfl rfl (gsat_none rfl) (by kernel_rfl) (Y0_quo64 (a := f1.2.2) (b := y2) rfl (by kernel_rfl) (by kernel_rfl) (nz_some hz5)) 23 rfl ?_
   refine DE_0 12 (.ag [Ti (w64 (Int.tdiv f1.1 y2)), Ti (w64 (Int.tdiv f1.2.1 y2)), Ti (w64 (Int.tdiv f1.2.2 y2))]) (by kernel_rfl) rfl rfl rfl (gsat_none rfl) (by kernel_rfl) (Y0_build (cs := [Ti (w64 (Int.tdiv f1.1 y2)), Ti (w64 (Int.tdiv f1.2.1 y2)), Ti (w64 (Int.tdiv f1.2.2 y2))]) pl27 bt27 rfl rfl (by kernel_rfl)) 24 rfl ?_
   refine DA 0 ?_
   refine XR 1 ?_
   refine XL_nil ?_
   subst hf6 hf7 hf8
   kernel_rfl
  obtain ⟨y9, hy9, h⟩ := of_bind h
  refine V_sreg (mb 101 18) [8] (s1 := ⟨.bot :: .pt 8 0 :: .bot :: .bot :: I y9 :: bt 96 [], [(8, .box [Ti f6, Ti f7, Ti f8])]⟩) ?_ ?_
  ·refine XR 1 ?_
   refine XC (s_spec_foDisc hy9) cf_spec_foDisc rfl rfl rfl ?_
   exact XE
  refine V_sreg (mb 101 50) [40, 8] (s1 := ⟨.bot :: .pt 8 0 :: .bot :: .bot :: I y9 :: .ow 40 :: bt 95 [], [(40, .arr 42 4 ((([] : List ((Int × Int × Int × Int)))).map c42)), (8, .box [Ti f6, Ti f7, Ti f8])]⟩) ?_ ?_
  ·refine L1 rfl rfl (Y1_nil (e := 42) 4 (by decide) (.inl rfl)) ?_
   exact XE
  refine V_seq ?_
  refine V_e (mb 101 114) [40, 8] (s1 := ⟨.bot :: .pt 8 0 :: .bot :: .bot :: I y9 :: .ow 40 :: I (-2) :: bt 94 [], [(40, .arr 42 4 ((([] : List ((Int × Int × Int × Int)))).map c42)), (8, .box [Ti f6, Ti f7, Ti f8])]⟩) ?_
  obtain ⟨o13, hLo13, h⟩ := of_bind h
  refine V_toK (mb 101 32) [40] (s1 := ⟨bt 5 (.ow 40 :: bt 95 []), [(40, .arr 42 4 (o13.map c42))]⟩) ?_ ?_
  ·clear h
   refine V_block (V_loop (fun n s => ∃ (t10 : Int) (l11 : List ((Int × Int × Int × Int))), s.keep (mb 101 114) [40, 8] = (⟨.bot :: .pt 8 0 :: .bot :: .bot :: I y9 :: .ow 40 :: I t10 :: bt 94 [], [(40, .arr 42 4 (l11.map c42)), (8, .box [Ti f6, Ti f7, Ti f8])]⟩ : St) ∧ r_spec_reAutomorphs_L12 f6 f7 f8 y9 n t10 l11 = some o13) FU ⟨_, _,  by rfl, hLo13⟩ ?_)
   clear hLo13
   rintro n s ⟨t10, l11, hs, h⟩
   refine V_keep _ _ hs ?_
   clear hs
   cases n with
   | zero => cases h
   | succ n =>
    rw [r_spec_reAutomorphs_L12] at h
    refine V_seq ?_
    refine V_e (mb 101 268435570) [40, 8] (s1 := ⟨.bot :: .pt 8 0 :: .bot :: .bot :: I y9 :: .ow 40 :: I t10 :: bt 21 (Bo (leI t10 2) :: bt 72 []), [(40, .arr 42 4 (l11.map c42)), (8, .box [Ti f6, Ti f7, Ti f8])]⟩) ?_
    refine V_cond rfl (fun hc14 => ?_) (fun hc14 => ?_)
    ·have h := of_true h hc14
     refine V_skip ?_
     show V _ _ _ _
     refine V_seq ?_
     refine V_block ?_
     refine V_e (mb 101 242) [40, 8] (s1 := ⟨.bot :: .pt 8 0 :: .bot :: .bot :: I y9 :: .ow 40 :: I t10 :: I (-1) :: bt 93 [], [(40, .arr 42 4 (l11.map c42)), (8, .box [Ti f6, Ti f7, Ti f8])]⟩) ?_
     obtain ⟨o18, hLo18, h⟩ := of_bind h
     refine V_toK (mb 101 114) [40, 8] (s1 := ⟨.bot :: .pt 8 0 :: .bot :: .bot :: I y9 :: .ow 40 :: I t10 :: bt 94 [], [(40, .arr 42 4 (o18.map c42)), (8, .box [Ti f6, Ti f7, Ti f8])]⟩) ?_ ?_
     ·clear h
      refine V_block (V_loop (fun n s => ∃ (u15 : Int) (l16 : List ((Int × Int × Int × Int))), s.keep (mb 101 242) [40, 8] = (⟨.bot :: .pt 8 0 :: .bot :: .bot :: I y9 :: .ow 40 :: I t10 :: I u15 :: bt 93 [], [(40, .arr 42 4 (l16.map c42)), (8, .box [Ti f6, Ti f7, Ti f8])]⟩ : St) ∧ r_spec_reAutomorphs_L17 f6 f7 f8 t10 y9 n u15 l16 = some o18) FU ⟨_, _,  by rfl, hLo18⟩ ?_)
      clear hLo18
      rintro n s ⟨u15, l16, hs, h⟩
      refine V_keep _ _ hs ?_
      clear hs
      cases n with
      | zero => cases h
      | succ n =>
       rw [r_spec_reAutomorphs_L17] at h
       refine V_seq ?_
       refine V_e (mb 101 4294967538) [40, 8] (s1 := ⟨.bot :: .pt 8 0 :: .bot :: .bot :: I y9 :: .ow 40 :: I t10 :: I u15 :: bt 24 (Bo (leI u15 1) :: bt 68 []), [(40, .arr 42 4 (l16.map c42)), (8, .box [Ti f6, Ti f7, Ti f8])]⟩) ?_
       refine V_cond rfl (fun hc19 => ?_) (fun hc19 => ?_)
       ·have h := of_true h hc19
        refine V_skip ?_
        show V _ _ _ _
        refine V_seq ?_
        refine V_block ?_
        refine V_seq ?_
        obtain ⟨t20, ht20, h⟩ := of_bind h
        have ht20 := some_inj ht20
        refine V_sreg (mb 101 17592186044658) [40, 8] (s1 := ⟨.bot :: .pt 8 0 :: .bot :: .bot :: I y9 :: .ow 40 :: I t10 :: I u15 :: bt 36 (Bo t20 :: bt 56 []), [(40, .arr 42 4 (l16.map c42)), (8, .box [Ti f6, Ti f7, Ti f8])]⟩) ?_ ?_
        ·refine XR 10 ?_
         refine XL_nil ?_
         subst ht20
         kernel_rfl
        refine V_cond rfl (fun hc21 => ?_) (fun hc21 => ?_)
        ·have h := of_true h hc21
         refine V_exit ?_
         show V _ _ _ _
         obtain ⟨u22, hu22, h⟩ := of_sI h
         refine V_reg (mb 101 242) [40, 8] (s1 := ⟨.bot :: .pt 8 0 :: .bot :: .bot :: I y9 :: .ow 40 :: I t10 :: I u22 :: bt 93 [], [(40, .arr 42 4 (l16.map c42)), (8, .box [Ti f6, Ti f7, Ti f8])]⟩) ?_ ?_
         ·refine XR 3 ?_
          refine XL_nil ?_
          subst hu22
          kernel_rfl
         exact ⟨n, Nat.lt_succ_self n, _, _,  by rfl, h⟩
        ·have h := of_false h hc21
         refine V_skip ?_
         show V _ _ _ _
         obtain ⟨f23, hf23, h⟩ := of_sI h
         obtain ⟨f24, hf24, h⟩ := of_sI h
         obtain ⟨f25, hf25, h⟩ := of_sI h
         obtain ⟨f26, hf26, h⟩ := of_sI h
         refine V_sreg (mb 101 498) [64, 40, 8] (s1 := ⟨.bot :: .pt 8 0 :: .bot :: .bot :: I y9 :: .ow 40 :: I t10 :: I u15 :: .pt 64 0 :: bt 92 [], [(64, .box [Ti f23, Ti f24, Ti f25, Ti f26]), (40, .arr 42 4 (l16.map c42)), (8, .box [Ti f6, Ti f7, Ti f8])]⟩) ?_ ?_
         ·refine XR 6 ?_
          refine L0 rfl rfl (Y0_quo64 (a := w64 (t10 - (w64 (f7 * u15)))) (b := 2) rfl (by kernel_rfl) (by kernel_rfl) (by decide)) ?_
          refine XR 15 ?_
          refine L0 rfl rfl (Y0_quo64 (a := w64 (t10 + (w64 (f7 * u15)))) (b := 2) rfl (by kernel_rfl) (by kernel_rfl) (by decide)) ?_
          refine L0 rfl rfl (Y0_build (cs := [Ti (w64 (Int.tdiv (w64 (t10 - (w64 (f7 * u15)))) 2)), Ti (w64 ((w64 (0 - f8)) * u15)), Ti (w64 (f6 * u15)), Ti (w64 (Int.tdiv (w64 (t10 + (w64 (f7 * u15)))) 2))]) pl42 bt42 rfl rfl (by kernel_rfl)) ?_
          refine XR 2 ?_
          refine XL_nil ?_
          subst hf23 hf24 hf25 hf26
          kernel_rfl
         refine V_sreg (mb 101 1010) [64, 40, 8] (s1 := ⟨.bot :: .pt 8 0 :: .bot :: .bot :: I y9 :: .ow 40 :: I t10 :: I u15 :: .pt 64 0 :: I ((l16.length : Int)) :: bt 91 [], [(64, .box [Ti f23, Ti f24, Ti f25, Ti f26]), (40, .arr 42 4 (l16.map c42)), (8, .box [Ti f6, Ti f7, Ti f8])]⟩) ?_ ?_
         ·refine XR 1 ?_
          refine L0 rfl rfl (Y0_lenM (c := c42) (xs := l16) Tryd.underlying39 rfl (by kernel_rfl)) ?_
          exact XE
         obtain ⟨u27, hu27, h⟩ := of_bind h
         refine V_sreg (mb 101 1010) [64, 40, 8] (s1 := ⟨.bot :: .pt 8 0 :: .bot :: .bot :: I y9 :: .ow 40 :: I t10 :: I u15 :: .pt 64 0 :: I ((l16.length : Int)) :: bt 91 [], [(64, .box [Ti f23, Ti f24, Ti f25, Ti f26]), (40, .arr 42 4 ((l16 ++ ([(f23, f24, f25, f26)])).map c42)), (8, .box [Ti f6, Ti f7, Ti f8])]⟩) ?_ ?_
         ·refine XR 2 ?_
          refine L1 rfl rfl (Y1_bslice (z := zv42) (els := [(f23, f24, f25, f26)].map c42) Tryd.underlying39 iz42 rfl (by decide) rfl (by kernel_rfl) rfl (by simp [c42]) (by decide) (by decide)) ?_
          refine XL_cons rfl (X_appendM (c := c42) (xs := l16) (ys := [(f23, f24, f25, f26)]) (id := 40) (z := zv42) rfl rfl Tryd.underlying39 izb42 rfl (by kernel_rfl) (by kernel_rfl) (by kernel_rfl) (fun _ => rfl) (by simp) (room_some hu27) (by decide)) ?_
          exact XE
         refine V_seq ?_
         obtain ⟨o31, hLo31, h⟩ := of_bind h
         refine V_toK (mb 101 1010) [64, 40, 8] (s1 := ⟨.bot :: .pt 8 0 :: .bot :: .bot :: I y9 :: .ow 40 :: I t10 :: I u15 :: .pt 64 0 :: I o31.1 :: bt 91 [], [(64, .box [Ti f23, Ti f24, Ti f25, Ti f26]), (40, .arr 42 4 (o31.2.map c42)), (8, .box [Ti f6, Ti f7, Ti f8])]⟩) ?_ ?_
         ·clear h
          refine V_block (V_loop (fun n s => ∃ (vat28 : Int) (l29 : List ((Int × Int × Int × Int))), s.keep (mb 101 1010) [64, 40, 8] = (⟨.bot :: .pt 8 0 :: .bot :: .bot :: I y9 :: .ow 40 :: I t10 :: I u15 :: .pt 64 0 :: I vat28 :: bt 91 [], [(64, .box [Ti f23, Ti f24, Ti f25, Ti f26]), (40, .arr 42 4 (l29.map c42)), (8, .box [Ti f6, Ti f7, Ti f8])]⟩ : St) ∧ r_spec_reAutomorphs_L30 f23 f24 f25 f26 f6 f7 f8 t10 u15 y9 n vat28 l29 = some o31) FU ⟨_, _,  by rfl, hLo31⟩ ?_)
          clear hLo31
          rintro n s ⟨vat28, l29, hs, h⟩
          refine V_keep _ _ hs ?_
          clear hs
          cases n with
          | zero => cases h
          | succ n =>
           rw [r_spec_reAutomorphs_L30] at h
           refine V_seq ?_
           obtain ⟨b36, hb36, h⟩ := of_bind h
           refine V_sdreg [0, 1, 3, 7, 7, 7, 39, 119, 247, 511, 1023] 11 (cdm 11 [0, 1, 5, 174613, 10389, 661, 1685, 5525, 21909, 87381, 349525]) (mb 101 38685626227668133590598642) [64, 40, 8] (s1 := ⟨.bot :: .pt 8 0 :: .bot :: .bot :: I y9 :: .ow 40 :: I t10 :: I u15 :: .pt 64 0 :: I vat28 :: bt 75 (Bo b36 :: bt 15 []), [(64, .box [Ti f23, Ti f24, Ti f25, Ti f26]), (40, .arr 42 4 (l29.map c42)), (8, .box [Ti f6, Ti f7, Ti f8])]⟩) (by kernel_rfl) (by kernel_rfl) ?_ ?_
           ·refine DR 3 ?_
            refine DL_split (ltI 0 vat28) (fun hc32 => ?_) (fun hc32 => ?_)
            ·have hb36 := of_true hb36 hc32
             obtain ⟨e33, he33, hb36⟩ := of_bind hb36
             obtain ⟨e34, he34, hb36⟩ := of_bind hb36
             obtain ⟨y35, hy35, hb36⟩ := of_bind hb36
             have hb36 := some_inj hb36
             refine DE_0 3 (.ag [Ti f23, Ti f24, Ti f25, Ti f26]) (by kernel_rfl) rfl rfl rfl (gsat_C (ltI 0 vat28) rfl rfl (by kernel_rfl) hc32) (by kernel_rfl) (E_loadn (cs := [Ti f23, Ti f24, Ti f25, Ti f26]) [Ti f23, Ti f24, Ti f25, Ti f26] wd42 rfl (by kernel_rfl) (Nat.le_of_ble_eq_true rfl) (by kernel_rfl)) 78 rfl ?_
             refine DE_0 4 (.ow 40) (by kernel_rfl) rfl rfl rfl (gsat_C (ltI 0 vat28) rfl rfl (by kernel_rfl) hc32) (by kernel_rfl) (E_move (.ow 40) rfl (by kernel_rfl)) 79 rfl ?_
             refine DE_0 5 (I vat28) (by kernel_rfl) rfl rfl rfl (gsat_C (ltI 0 vat28) rfl rfl (by kernel_rfl) hc32) (by kernel_rfl) (E_move (I vat28) rfl (by kernel_rfl)) 80 rfl ?_
             refine DE_0 6 (I (w64 (vat28 - 1))) (by kernel_rfl) rfl rfl rfl (gsat_C (ltI 0 vat28) rfl rfl (by kernel_rfl) hc32) (by kernel_rfl) (Y0_sub64 (a := vat28) (b := 1) rfl (by kernel_rfl) (by kernel_rfl)) 81 rfl ?_
             refine DE_0 7 (.po 40 4 (Int.toNat (w64 (vat28 - 1))) 0) (by kernel_rfl) rfl rfl rfl (gsat_C (ltI 0 vat28) rfl rfl (by kernel_rfl) hc32) (by kernel_rfl) (Y0_idxoM (c := c42) (xs := l29) (v := e33) (id := 40) (T := 42) (sz := 4) (n := w64 (vat28 - 1)) Tryd.underlying39 sz42 rfl (by kernel_rfl) (by kernel_rfl) (by kernel_rfl) he33) 82 rfl ?_
             refine DE_0 8 (.ag [Ti e34.1, Ti e34.2.1, Ti e34.2.2.1, Ti e34.2.2.2]) (by kernel_rfl) rfl rfl rfl (gsat_C (ltI 0 vat28) rfl rfl (by kernel_rfl) hc32) (by kernel_rfl) (E_loadon (c := c42) (xs := l29) (v := e34) (id := 40) (sz := 4) (T := 42) (off := 0) (n := w64 (vat28 - 1)) [Ti e34.1, Ti e34.2.1, Ti e34.2.2.1, Ti e34.2.2.2] wd42 rfl (by kernel_rfl) (by kernel_rfl) he34 (Nat.le_of_ble_eq_true rfl) (by kernel_rfl)) 83 rfl ?_
             refine DE_1 9 (by kernel_rfl) rfl rfl rfl (gsat_C (ltI 0 vat28) rfl rfl (by kernel_rfl) hc32) (Y1_call (s_spec_reLess hy35) cf_spec_reLess rfl (by kernel_rfl)) rfl rfl rfl 84 rfl ?_
             refine DE_0 10 (Bo (b36)) (by kernel_rfl) rfl rfl rfl (gsat_none rfl) (by kernel_rfl) (Y0_pickTe (b := ltI 0 vat28) (p := y35) rfl (by kernel_rfl) hc32 (by kernel_rfl) hb36) 85 rfl ?_
             refine DA 0 ?_
             exact XE
            ·have hb36 := some_inj (of_false hb36 hc32)
             refine DE_t 3 (by kernel_rfl) rfl rfl rfl (gun_T (ltI 0 vat28) rfl rfl (by kernel_rfl) hc32) 78 rfl ?_
             refine DE_t 4 (by kernel_rfl) rfl rfl rfl (gun_T (ltI 0 vat28) rfl rfl (by kernel_rfl) hc32) 79 rfl ?_
             refine DE_t 5 (by kernel_rfl) rfl rfl rfl (gun_T (ltI 0 vat28) rfl rfl (by kernel_rfl) hc32) 80 rfl ?_
             refine DE_t 6 (by kernel_rfl) rfl rfl rfl (gun_T (ltI 0 vat28) rfl rfl (by kernel_rfl) hc32) 81 rfl ?_
             refine DE_t 7 (by kernel_rfl) rfl rfl rfl (gun_T (ltI 0 vat28) rfl rfl (by kernel_rfl) hc32) 82 rfl ?_
             refine DE_t 8 (by kernel_rfl) rfl rfl rfl (gun_T (ltI 0 vat28) rfl rfl (by kernel_rfl) hc32) 83 rfl ?_
             refine DE_t 9 (by kernel_rfl) rfl rfl rfl (gun_T (ltI 0 vat28) rfl rfl (by kernel_rfl) hc32) 84 rfl ?_
             refine DE_0 10 (Bo (b36)) (by kernel_rfl) rfl rfl rfl (gsat_none rfl) (by kernel_rfl) (Y0_pickFe (b := ltI 0 vat28) (p := false) rfl (by kernel_rfl) hc32 (by kernel_rfl) hb36) 85 rfl ?_
             refine DA 0 ?_
             exact XE
           refine V_cond rfl (fun hc37 => ?_) (fun hc37 => ?_)
           ·have h := of_true h hc37
            refine V_skip ?_
            show V _ _ _ _
            refine V_seq ?_
            refine V_block ?_
            obtain ⟨e38, he38, h⟩ := of_bind h
            obtain ⟨e39, he39, h⟩ := of_bind h
            obtain ⟨e40, he40, h⟩ := of_bind h
            obtain ⟨e41, he41, h⟩ := of_bind h
            refine V_reg (mb 101 1010) [64, 40, 8] (s1 := ⟨.bot :: .pt 8 0 :: .bot :: .bot :: I y9 :: .ow 40 :: I t10 :: I u15 :: .pt 64 0 :: I vat28 :: bt 91 [], [(64, .box [Ti f23, Ti f24, Ti f25, Ti f26]), (40, .arr 42 4 ((l29.set (Int.toNat (vat28)) e39).map c42)), (8, .box [Ti f6, Ti f7, Ti f8])]⟩) ?_ ?_
            ·refine XR 5 ?_
             refine L0 rfl rfl (Y0_idxoM (c := c42) (xs := l29) (v := e38) (id := 40) (T := 42) (sz := 4) (n := w64 (vat28 - 1)) Tryd.underlying39 sz42 rfl (by kernel_rfl) (by kernel_rfl) (by kernel_rfl) he38) ?_
             refine L0 rfl rfl (E_loadon (c := c42) (xs := l29) (v := e39) (id := 40) (sz := 4) (T := 42) (off := 0) (n := w64 (vat28 - 1)) [Ti e39.1, Ti e39.2.1, Ti e39.2.2.1, Ti e39.2.2.2] wd42 rfl (by kernel_rfl) (by kernel_rfl) he39 (Nat.le_of_ble_eq_true rfl) (by kernel_rfl)) ?_
             refine L0 rfl rfl (Y0_idxoM (c := c42) (xs := l29) (v := e40) (id := 40) (T := 42) (sz := 4) (n := vat28) Tryd.underlying39 sz42 rfl (by kernel_rfl) (by kernel_rfl) (by kernel_rfl) he40) ?_
             refine XL_cons rfl (X_storeoM (c := c42) (xs := l29) (v := e41) (u := e39) (id := 40) (sz := 4) (off := 0) (T0 := 42) (n := vat28) (vc := [Ti e39.1, Ti e39.2.1, Ti e39.2.2.1, Ti e39.2.2.2]) rfl rfl (by kernel_rfl) (by kernel_rfl) he41 (by kernel_rfl) sz42 (Nat.le_of_ble_eq_true rfl) (by kernel_rfl)) ?_
             exact XE
            show V _ _ _ _
            obtain ⟨vat42, hvat42, h⟩ := of_sI h
            refine V_reg (mb 101 1010) [64, 40, 8] (s1 := ⟨.bot :: .pt 8 0 :: .bot :: .bot :: I y9 :: .ow 40 :: I t10 :: I u15 :: .pt 64 0 :: I vat42 :: bt 91 [], [(64, .box [Ti f23, Ti f24, Ti f25, Ti f26]), (40, .arr 42 4 ((l29.set (Int.toNat (vat28)) e39).map c42)), (8, .box [Ti f6, Ti f7, Ti f8])]⟩) ?_ ?_
            ·refine XR 3 ?_
             refine XL_nil ?_
             subst hvat42
             kernel_rfl
            exact ⟨n, Nat.lt_succ_self n, _, _,  by rfl, h⟩
           ·have h := of_false h hc37
            refine V_exit ?_
            obtain rfl := some_inj h
            show St.keep _ _ _ = _
            rfl
         show V _ _ _ _
         obtain ⟨e43, he43, h⟩ := of_bind h
         obtain ⟨e44, he44, h⟩ := of_bind h
         refine V_reg (mb 101 242) [40, 8] (s1 := ⟨.bot :: .pt 8 0 :: .bot :: .bot :: I y9 :: .ow 40 :: I t10 :: I u15 :: bt 93 [], [(40, .arr 42 4 ((o31.2.set (Int.toNat (o31.1)) ((f23, f24, f25, f26))).map c42)), (8, .box [Ti f6, Ti f7, Ti f8])]⟩) ?_ ?_
         ·refine XR 3 ?_
          refine L0 rfl rfl (Y0_idxoM (c := c42) (xs := o31.2) (v := e43) (id := 40) (T := 42) (sz := 4) (n := o31.1) Tryd.underlying39 sz42 rfl (by kernel_rfl) (by kernel_rfl) (by kernel_rfl) he43) ?_
          refine XL_cons rfl (X_storeoM (c := c42) (xs := o31.2) (v := e44) (u := (f23, f24, f25, f26)) (id := 40) (sz := 4) (off := 0) (T0 := 42) (n := o31.1) (vc := [Ti f23, Ti f24, Ti f25, Ti f26]) rfl rfl (by kernel_rfl) (by kernel_rfl) he44 (by kernel_rfl) sz42 (Nat.le_of_ble_eq_true rfl) (by kernel_rfl)) ?_
          exact XE
         show V _ _ _ _
         obtain ⟨u45, hu45, h⟩ := of_sI h
         refine V_reg (mb 101 242) [40, 8] (s1 := ⟨.bot :: .pt 8 0 :: .bot :: .bot :: I y9 :: .ow 40 :: I t10 :: I u45 :: bt 93 [], [(40, .arr 42 4 ((o31.2.set (Int.toNat (o31.1)) ((f23, f24, f25, f26))).map c42)), (8, .box [Ti f6, Ti f7, Ti f8])]⟩) ?_ ?_
         ·refine XR 3 ?_
          refine XL_nil ?_
          subst hu45
          kernel_rfl
         exact ⟨n, Nat.lt_succ_self n, _, _,  by rfl, h⟩
       ·have h := of_false h hc19
        refine V_exit ?_
        obtain rfl := some_inj h
        show St.keep _ _ _ = _
        rfl
     show V _ _ _ _
     obtain ⟨t46, ht46, h⟩ := of_sI h
     refine V_reg (mb 101 114) [40, 8] (s1 := ⟨.bot :: .pt 8 0 :: .bot :: .bot :: I y9 :: .ow 40 :: I t46 :: bt 94 [], [(40, .arr 42 4 (o18.map c42)), (8, .box [Ti f6, Ti f7, Ti f8])]⟩) ?_ ?_
     ·refine XR 3 ?_
      refine XL_nil ?_
      subst ht46
      kernel_rfl
     exact ⟨n, Nat.lt_succ_self n, _, _,  by rfl, h⟩
    ·have h := of_false h hc14
     refine V_exit ?_
     obtain rfl := some_inj h
     show St.keep _ _ _ = _
     rfl
  show V _ _ _ _
  refine V_e (mb 101 4) [40] (s1 := ⟨.bot :: .bot :: .ow 40 :: bt 98 [], [(40, .arr 42 4 (o13.map c42))]⟩) ?_
  refine V_ret ?_
  obtain rfl := some_inj h
  show Post _ _ _ _ _
  exact ⟨.inr rfl, rfl, rfl, rfl⟩
theorem cf_spec_l1Num : ∀ args w, (callFunc 36 args).run Tryd.prog w = .ok (.enter 36 args) w := run_callFunc Tryd.func36 (by kernel_rfl) (by kernel_rfl)
theorem s_spec_l1Num_rec : ∀ (n : Nat) {vn1 : Int} {r : ByteArray}, r_spec_l1Num n vn1 = some r → CallS Tryd.prog 36 [I vn1] (.c (.v (.string r))) [] := by
  intro n
  induction n with
  | zero => intro vn1 r h; cases h
  | succ n ih =>
   intro vn1 r h
   refine CallS_of_text (rs := [.t 2]) (vs := [.tmp 2]) Tryd.func36 rfl rfl (.cons rfl FitsL.nil) (by decide) 20 rfl ?_
   rw [r_spec_l1Num] at h
   show V _ _ ⟨I vn1 :: bt 19 [], []⟩ _
   refine V_e (mb 20 1) [] (s1 := ⟨I vn1 :: bt 19 [], []⟩) ?_
   refine V_seq ?_
   refine V_e (mb 20 17) [] (s1 := ⟨I vn1 :: bt 3 (Bo (ltI vn1 10) :: bt 15 []), []⟩) ?_
   refine V_cond rfl (fun hc2 => ?_) (fun hc2 => ?_)
   ·have h := of_true h hc2
    refine V_sreg (mb 20 4) [] (s1 := ⟨.bot :: .bot :: .c (.v (.string (bytesI ([IntKind.u8.wrap (w64 (48 + vn1))])))) :: bt 17 [], []⟩) ?_ ?_
    ·refine XR 2 ?_
     refine L0 rfl rfl (Y0_conv (k2 := .i64) (a := w64 (48 + vn1)) Tryd.underlying3 Tryd.underlying5 rfl (by kernel_rfl)) ?_
     refine L1 rfl rfl (Y1_bslice (z := zv5) (els := [IntKind.u8.wrap (w64 (48 + vn1))].map c5) Tryd.underlying69 iz5 rfl (by decide) rfl (by kernel_rfl) rfl (by simp [c5]) (by decide) (by decide)) ?_
     refine L0 rfl rfl (Y0_b2s (c := c5) (fun _ => rfl) ([IntKind.u8.wrap (w64 (48 + vn1))]) Tryd.underlying69 Tryd.underlying5 Tryd.underlying9 rfl (by kernel_rfl)) ?_
     exact XE
    refine V_ret ?_
    obtain rfl := some_inj h
    show Post _ _ _ _ _
    exact ⟨.inr rfl, rfl, rfl, rfl⟩
   ·have h := of_false h hc2
    refine V_skip ?_
    show V _ _ _ _
    obtain ⟨y3, hy3, h⟩ := of_bind h
    obtain ⟨u4, hu4, h⟩ := of_bind h
    refine V_sdreg [0, 1, 3, 0, 8, 24, 56, 120, 248, 511, 1023] 11 (cdm 11 [174720, 174721, 174725, 42, 106, 362, 1386, 5482, 21866, 87381, 349525]) (mb 20 4) [] (s1 := ⟨.bot :: .bot :: .c (.v (.string (y3 ++ (bytesI ([IntKind.u8.wrap (w64 (48 + (Int.tmod vn1 10)))]))))) :: bt 17 [], []⟩) (by kernel_rfl) (by kernel_rfl) ?_ ?_
    ·refine DR 1 ?_
     refine DE_0 1 (I (w64 (Int.tdiv vn1 10))) (by kernel_rfl) rfl rfl rfl (gsat_none rfl) (by kernel_rfl) (Y0_quo64 (a := vn1) (b := 10) rfl (by kernel_rfl) (by kernel_rfl) (by decide)) 11 rfl ?_
     refine DC 2 (ih hy3) cf_spec_l1Num rfl rfl rfl rfl 12 rfl ?_
     refine DR 1 ?_
     refine DE_0 4 (I (Int.tmod vn1 10)) (by kernel_rfl) rfl rfl rfl (gsat_none rfl) (by kernel_rfl) (Y0_rem (k := .i64) (a := vn1) (b := 10) rfl (by kernel_rfl) (by kernel_rfl) (by decide)) 14 rfl ?_
     refine DR 1 ?_
     refine DE_0 6 (.c (.v (.int .u8 (IntKind.u8.wrap (w64 (48 + (Int.tmod vn1 10))))))) (by kernel_rfl) rfl rfl rfl (gsat_none rfl) (by kernel_rfl) (Y0_conv (k2 := .i64) (a := w64 (48 + (Int.tmod vn1 10))) Tryd.underlying3 Tryd.underlying5 rfl (by kernel_rfl)) 16 rfl ?_
     refine DE_1 7 (by kernel_rfl) rfl rfl rfl (gsat_none rfl) (Y1_bslice (z := zv5) (els := [IntKind.u8.wrap (w64 (48 + (Int.tmod vn1 10)))].map c5) Tryd.underlying69 iz5 rfl (by decide) rfl (by kernel_rfl) rfl (by simp [c5]) (by decide) (by decide)) rfl rfl rfl 17 rfl ?_
     refine DE_0 8 (.c (.v (.string (bytesI ([IntKind.u8.wrap (w64 (48 + (Int.tmod vn1 10)))]))))) (by kernel_rfl) rfl rfl rfl (gsat_none rfl) (by kernel_rfl) (Y0_b2s (c := c5) (fun _ => rfl) ([IntKind.u8.wrap (w64 (48 + (Int.tmod vn1 10)))]) Tryd.underlying69 Tryd.underlying5 Tryd.underlying9 rfl (by kernel_rfl)) 18 rfl ?_
     refine DE_0 9 (.c (.v (.string (y3 ++ (bytesI ([IntKind.u8.wrap (w64 (48 + (Int.tmod vn1 10)))])))))) (by kernel_rfl) rfl rfl rfl (gsat_none rfl) (by kernel_rfl) (Y0_cat (a := y3) (b := bytesI ([IntKind.u8.wrap (w64 (48 + (Int.tmod vn1 10)))])) rfl (by kernel_rfl) (by kernel_rfl) (catR_some hu4)) 19 rfl ?_
     refine DA 1 ?_
     exact XE
    refine V_ret ?_
    obtain rfl := some_inj h
    show Post _ _ _ _ _
    exact ⟨.inr rfl, rfl, rfl, rfl⟩
theorem s_spec_l1Num {vn1 : Int} {r : ByteArray} (h : r_spec_l1Num FU vn1 = some r) : CallS Tryd.prog 36 [I vn1] (.c (.v (.string r))) [] := s_spec_l1Num_rec FU h
theorem cf_spec_l1Int : ∀ args w, (callFunc 31 args).run Tryd.prog w = .ok (.enter 31 args) w := run_callFunc Tryd.func31 (by kernel_rfl) (by kernel_rfl)
theorem s_spec_l1Int {vn1 : Int} {r : ByteArray} (h : r_spec_l1Int vn1 = some r) : CallS Tryd.prog 31 [I vn1] (.c (.v (.string r))) [] := by
  refine CallS_of_text (rs := [.t 2]) (vs := [.tmp 2]) Tryd.func31 rfl rfl (.cons rfl FitsL.nil) (by decide) 11 rfl ?_
  unfold r_spec_l1Int at h
  show V _ _ ⟨I vn1 :: bt 10 [], []⟩ _
  refine V_e (mb 11 1) [] (s1 := ⟨I vn1 :: bt 10 [], []⟩) ?_
  refine V_seq ?_
  refine V_e (mb 11 17) [] (s1 := ⟨I vn1 :: bt 3 (Bo (ltI vn1 0) :: bt 6 []), []⟩) ?_
  refine V_cond rfl (fun hc2 => ?_) (fun hc2 => ?_)
  ·have h := of_true h hc2
   obtain ⟨y3, hy3, h⟩ := of_bind h
   obtain ⟨u4, hu4, h⟩ := of_bind h
   refine V_sreg (mb 11 4) [] (s1 := ⟨.bot :: .bot :: .c (.v (.string (((⟨#[45]⟩ : ByteArray)) ++ y3))) :: bt 8 [], []⟩) ?_ ?_
   ·refine XR 2 ?_
    refine XC (s_spec_l1Num hy3) cf_spec_l1Num rfl rfl rfl ?_
    refine L0 rfl rfl (Y0_cat (a := (⟨#[45]⟩ : ByteArray)) (b := y3) rfl (by kernel_rfl) (by kernel_rfl) (catR_some hu4)) ?_
    exact XE
   refine V_ret ?_
   obtain rfl := some_inj h
   show Post _ _ _ _ _
   exact ⟨.inr rfl, rfl, rfl, rfl⟩
  ·have h := of_false h hc2
   refine V_skip ?_
   show V _ _ _ _
   obtain ⟨y5, hy5, h⟩ := of_bind h
   refine V_sreg (mb 11 4) [] (s1 := ⟨.bot :: .bot :: .c (.v (.string y5)) :: bt 8 [], []⟩) ?_ ?_
   ·refine XR 1 ?_
    refine XC (s_spec_l1Num hy5) cf_spec_l1Num rfl rfl rfl ?_
    exact XE
   refine V_ret ?_
   obtain rfl := some_inj h
   show Post _ _ _ _ _
   exact ⟨.inr rfl, rfl, rfl, rfl⟩
theorem cf_spec_foText : ∀ args w, (callFunc 22 args).run Tryd.prog w = .ok (.enter 22 args) w := run_callFunc Tryd.func22 (by kernel_rfl) (by kernel_rfl)
theorem s_spec_foText {f1 : (Int × Int × Int)} {r : ByteArray} (h : r_spec_foText f1 = some r) : CallS Tryd.prog 22 [.ag [Ti f1.1, Ti f1.2.1, Ti f1.2.2]] (.c (.v (.string r))) [] := by
  refine CallS_of_text (rs := [.t 2]) (vs := [.tmp 2]) Tryd.func22 rfl rfl (.cons rfl FitsL.nil) (by decide) 18 rfl ?_
  unfold r_spec_foText at h
  show V _ _ ⟨.ag [Ti f1.1, Ti f1.2.1, Ti f1.2.2] :: bt 17 [], []⟩ _
  refine V_e (mb 18 2) [8] (s1 := ⟨.bot :: .pt 8 0 :: bt 16 [], [(8, .box [Ti f1.1, Ti f1.2.1, Ti f1.2.2])]⟩) ?_
  obtain ⟨y2, hy2, h⟩ := of_bind h
  obtain ⟨u3, hu3, h⟩ := of_bind h
  obtain ⟨u4, hu4, h⟩ := of_bind h
  obtain ⟨y5, hy5, h⟩ := of_bind h
  obtain ⟨u6, hu6, h⟩ := of_bind h
  obtain ⟨u7, hu7, h⟩ := of_bind h
  obtain ⟨y8, hy8, h⟩ := of_bind h
  obtain ⟨u9, hu9, h⟩ := of_bind h
  obtain ⟨u10, hu10, h⟩ := of_bind h
  refine V_sdreg [0, 1, 3, 7, 15, 0, 32, 103, 255, 511, 0, 1024, 3303, 8191, 16383, 32767] 16 (cdm 16 [10496000, 10496001, 10496005, 44083221, 44083285, 10486442, 10487466, 10491541, 44062037, 44127573, 699050, 1747626, 5920405, 22369621, 89478485, 357913941]) (mb 18 4) [] (s1 := ⟨.bot :: .bot :: .c (.v (.string ((((((((⟨#[40]⟩ : ByteArray)) ++ y2) ++ ((⟨#[44]⟩ : ByteArray))) ++ y5) ++ ((⟨#[44]⟩ : ByteArray))) ++ y8) ++ ((⟨#[41]⟩ : ByteArray))))) :: bt 15 [], []⟩) (by kernel_rfl) (by kernel_rfl) ?_ ?_
  ·refine DR 2 ?_
   refine DC 2 (s_spec_l1Int hy2) cf_spec_l1Int rfl rfl rfl rfl 5 rfl ?_
   refine DE_0 3 (.c (.v (.string (((⟨#[40]⟩ : ByteArray)) ++ y2)))) (by kernel_rfl) rfl rfl rfl (gsat_none rfl) (by kernel_rfl) (Y0_cat (a := (⟨#[40]⟩ : ByteArray)) (b := y2) rfl (by kernel_rfl) (by kernel_rfl) (catR_some hu3)) 6 rfl ?_
   refine DE_0 4 (.c (.v (.string ((((⟨#[40]⟩ : ByteArray)) ++ y2) ++ ((⟨#[44]⟩ : ByteArray)))))) (by kernel_rfl) rfl rfl rfl (gsat_none rfl) (by kernel_rfl) (Y0_cat (a := ((⟨#[40]⟩ : ByteArray)) ++ y2) (b := (⟨#[44]⟩ : ByteArray)) rfl (by kernel_rfl) (by kernel_rfl) (catR_some hu4)) 7 rfl ?_
   refine DR 2 ?_
   refine DC 7 (s_spec_l1Int hy5) cf_spec_l1Int rfl rfl rfl rfl 10 rfl ?_
   refine DE_0 8 (.c (.v (.string (((((⟨#[40]⟩ : ByteArray)) ++ y2) ++ ((⟨#[44]⟩ : ByteArray))) ++ y5)))) (by kernel_rfl) rfl rfl rfl (gsat_none rfl) (by kernel_rfl) (Y0_cat (a := (((⟨#[40]⟩ : ByteArray)) ++ y2) ++ ((⟨#[44]⟩ : ByteArray))) (b := y5) rfl (by kernel_rfl) (by kernel_rfl) (catR_some hu6)) 11 rfl ?_
   refine DE_0 9 (.c (.v (.string ((((((⟨#[40]⟩ : ByteArray)) ++ y2) ++ ((⟨#[44]⟩ : ByteArray))) ++ y5) ++ ((⟨#[44]⟩ : ByteArray)))))) (by kernel_rfl) rfl rfl rfl (gsat_none rfl) (by kernel_rfl) (Y0_cat (a := ((((⟨#[40]⟩ : ByteArray)) ++ y2) ++ ((⟨#[44]⟩ : ByteArray))) ++ y5) (b := (⟨#[44]⟩ : ByteArray)) rfl (by kernel_rfl) (by kernel_rfl) (catR_some hu7)) 12 rfl ?_
   refine DR 2 ?_
   refine DC 12 (s_spec_l1Int hy8) cf_spec_l1Int rfl rfl rfl rfl 15 rfl ?_
   refine DE_0 13 (.c (.v (.string (((((((⟨#[40]⟩ : ByteArray)) ++ y2) ++ ((⟨#[44]⟩ : ByteArray))) ++ y5) ++ ((⟨#[44]⟩ : ByteArray))) ++ y8)))) (by kernel_rfl) rfl rfl rfl (gsat_none rfl) (by kernel_rfl) (Y0_cat (a := (((((⟨#[40]⟩ : ByteArray)) ++ y2) ++ ((⟨#[44]⟩ : ByteArray))) ++ y5) ++ ((⟨#[44]⟩ : ByteArray))) (b := y8) rfl (by kernel_rfl) (by kernel_rfl) (catR_some hu9)) 16 rfl ?_
   refine DE_0 14 (.c (.v (.string ((((((((⟨#[40]⟩ : ByteArray)) ++ y2) ++ ((⟨#[44]⟩ : ByteArray))) ++ y5) ++ ((⟨#[44]⟩ : ByteArray))) ++ y8) ++ ((⟨#[41]⟩ : ByteArray)))))) (by kernel_rfl) rfl rfl rfl (gsat_none rfl) (by kernel_rfl) (Y0_cat (a := ((((((⟨#[40]⟩ : ByteArray)) ++ y2) ++ ((⟨#[44]⟩ : ByteArray))) ++ y5) ++ ((⟨#[44]⟩ : ByteArray))) ++ y8) (b := (⟨#[41]⟩ : ByteArray)) rfl (by kernel_rfl) (by kernel_rfl) (catR_some hu10)) 17 rfl ?_
   refine DA 1 ?_
   exact XE
  refine V_ret ?_
  obtain rfl := some_inj h
  show Post _ _ _ _ _
  exact ⟨.inr rfl, rfl, rfl, rfl⟩
theorem cf_spec_foMatrixText : ∀ args w, (callFunc 23 args).run Tryd.prog w = .ok (.enter 23 args) w := run_callFunc Tryd.func23 (by kernel_rfl) (by kernel_rfl)
theorem s_spec_foMatrixText {vm1 : (Int × Int × Int × Int)} {r : ByteArray} (h : r_spec_foMatrixText vm1 = some r) : CallS Tryd.prog 23 [.ag [Ti vm1.1, Ti vm1.2.1, Ti vm1.2.2.1, Ti vm1.2.2.2]] (.c (.v (.string r))) [] := by
  refine CallS_of_text (rs := [.t 2]) (vs := [.tmp 2]) Tryd.func23 rfl rfl (.cons rfl FitsL.nil) (by decide) 23 rfl ?_
  unfold r_spec_foMatrixText at h
  show V _ _ ⟨.ag [Ti vm1.1, Ti vm1.2.1, Ti vm1.2.2.1, Ti vm1.2.2.2] :: bt 22 [], []⟩ _
  refine V_e (mb 23 2) [8] (s1 := ⟨.bot :: .pt 8 0 :: bt 21 [], [(8, .box [Ti vm1.1, Ti vm1.2.1, Ti vm1.2.2.1, Ti vm1.2.2.2])]⟩) ?_
  obtain ⟨y2, hy2, h⟩ := of_bind h
  obtain ⟨u3, hu3, h⟩ := of_bind h
  obtain ⟨u4, hu4, h⟩ := of_bind h
  obtain ⟨y5, hy5, h⟩ := of_bind h
  obtain ⟨u6, hu6, h⟩ := of_bind h
  obtain ⟨u7, hu7, h⟩ := of_bind h
  obtain ⟨y8, hy8, h⟩ := of_bind h
  obtain ⟨u9, hu9, h⟩ := of_bind h
  obtain ⟨u10, hu10, h⟩ := of_bind h
  obtain ⟨y11, hy11, h⟩ := of_bind h
  obtain ⟨u12, hu12, h⟩ := of_bind h
  obtain ⟨u13, hu13, h⟩ := of_bind h
  refine V_sdreg [0, 1, 3, 7, 15, 0, 32, 103, 255, 511, 0, 1024, 3303, 8191, 16383, 0, 32768, 105703, 262143, 524287, 1048575] 21 (cdm 21 [10747914240, 10747914241, 10747914245, 45141239829, 45141239893, 10747904682, 10747905706, 10747909781, 45141218645, 45141284181, 10738117290, 10739165866, 10743338645, 45119526229, 45186635093, 715827882, 1789569706, 6062495381, 22906492245, 91625968981, 366503875925]) (mb 23 4) [] (s1 := ⟨.bot :: .bot :: .c (.v (.string ((((((((((⟨#[91]⟩ : ByteArray)) ++ y2) ++ ((⟨#[44]⟩ : ByteArray))) ++ y5) ++ ((⟨#[59]⟩ : ByteArray))) ++ y8) ++ ((⟨#[44]⟩ : ByteArray))) ++ y11) ++ ((⟨#[93]⟩ : ByteArray))))) :: bt 20 [], []⟩) (by kernel_rfl) (by kernel_rfl) ?_ ?_
  ·refine DR 2 ?_
   refine DC 2 (s_spec_l1Int hy2) cf_spec_l1Int rfl rfl rfl rfl 5 rfl ?_
   refine DE_0 3 (.c (.v (.string (((⟨#[91]⟩ : ByteArray)) ++ y2)))) (by kernel_rfl) rfl rfl rfl (gsat_none rfl) (by kernel_rfl) (Y0_cat (a := (⟨#[91]⟩ : ByteArray)) (b := y2) rfl (by kernel_rfl) (by kernel_rfl) (catR_some hu3)) 6 rfl ?_
   refine DE_0 4 (.c (.v (.string ((((⟨#[91]⟩ : ByteArray)) ++ y2) ++ ((⟨#[44]⟩ : ByteArray)))))) (by kernel_rfl) rfl rfl rfl (gsat_none rfl) (by kernel_rfl) (Y0_cat (a := ((⟨#[91]⟩ : ByteArray)) ++ y2) (b := (⟨#[44]⟩ : ByteArray)) rfl (by kernel_rfl) (by kernel_rfl) (catR_some hu4)) 7 rfl ?_
   refine DR 2 ?_
   refine DC 7 (s_spec_l1Int hy5) cf_spec_l1Int rfl rfl rfl rfl 10 rfl ?_
   refine DE_0 8 (.c (.v (.string (((((⟨#[91]⟩ : ByteArray)) ++ y2) ++ ((⟨#[44]⟩ : ByteArray))) ++ y5)))) (by kernel_rfl) rfl rfl rfl (gsat_none rfl) (by kernel_rfl) (Y0_cat (a := (((⟨#[91]⟩ : ByteArray)) ++ y2) ++ ((⟨#[44]⟩ : ByteArray))) (b := y5) rfl (by kernel_rfl) (by kernel_rfl) (catR_some hu6)) 11 rfl ?_
   refine DE_0 9 (.c (.v (.string ((((((⟨#[91]⟩ : ByteArray)) ++ y2) ++ ((⟨#[44]⟩ : ByteArray))) ++ y5) ++ ((⟨#[59]⟩ : ByteArray)))))) (by kernel_rfl) rfl rfl rfl (gsat_none rfl) (by kernel_rfl) (Y0_cat (a := ((((⟨#[91]⟩ : ByteArray)) ++ y2) ++ ((⟨#[44]⟩ : ByteArray))) ++ y5) (b := (⟨#[59]⟩ : ByteArray)) rfl (by kernel_rfl) (by kernel_rfl) (catR_some hu7)) 12 rfl ?_
   refine DR 2 ?_
   refine DC 12 (s_spec_l1Int hy8) cf_spec_l1Int rfl rfl rfl rfl 15 rfl ?_
   refine DE_0 13 (.c (.v (.string (((((((⟨#[91]⟩ : ByteArray)) ++ y2) ++ ((⟨#[44]⟩ : ByteArray))) ++ y5) ++ ((⟨#[59]⟩ : ByteArray))) ++ y8)))) (by kernel_rfl) rfl rfl rfl (gsat_none rfl) (by kernel_rfl) (Y0_cat (a := (((((⟨#[91]⟩ : ByteArray)) ++ y2) ++ ((⟨#[44]⟩ : ByteArray))) ++ y5) ++ ((⟨#[59]⟩ : ByteArray))) (b := y8) rfl (by kernel_rfl) (by kernel_rfl) (catR_some hu9)) 16 rfl ?_
   refine DE_0 14 (.c (.v (.string ((((((((⟨#[91]⟩ : ByteArray)) ++ y2) ++ ((⟨#[44]⟩ : ByteArray))) ++ y5) ++ ((⟨#[59]⟩ : ByteArray))) ++ y8) ++ ((⟨#[44]⟩ : ByteArray)))))) (by kernel_rfl) rfl rfl rfl (gsat_none rfl) (by kernel_rfl) (Y0_cat (a := ((((((⟨#[91]⟩ : ByteArray)) ++ y2) ++ ((⟨#[44]⟩ : ByteArray))) ++ y5) ++ ((⟨#[59]⟩ : ByteArray))) ++ y8) (b := (⟨#[44]⟩ : ByteArray)) rfl (by kernel_rfl) (by kernel_rfl) (catR_some hu10)) 17 rfl ?_
   refine DR 2 ?_
   refine DC 17 (s_spec_l1Int hy11) cf_spec_l1Int rfl rfl rfl rfl 20 rfl ?_
   refine DE_0 18 (.c (.v (.string (((((((((⟨#[91]⟩ : ByteArray)) ++ y2) ++ ((⟨#[44]⟩ : ByteArray))) ++ y5) ++ ((⟨#[59]⟩ : ByteArray))) ++ y8) ++ ((⟨#[44]⟩ : ByteArray))) ++ y11)))) (by kernel_rfl) rfl rfl rfl (gsat_none rfl) (by kernel_rfl) (Y0_cat (a := (((((((⟨#[91]⟩ : ByteArray)) ++ y2) ++ ((⟨#[44]⟩ : ByteArray))) ++ y5) ++ ((⟨#[59]⟩ : ByteArray))) ++ y8) ++ ((⟨#[44]⟩ : ByteArray))) (b := y11) rfl (by kernel_rfl) (by kernel_rfl) (catR_some hu12)) 21 rfl ?_
   refine DE_0 19 (.c (.v (.string ((((((((((⟨#[91]⟩ : ByteArray)) ++ y2) ++ ((⟨#[44]⟩ : ByteArray))) ++ y5) ++ ((⟨#[59]⟩ : ByteArray))) ++ y8) ++ ((⟨#[44]⟩ : ByteArray))) ++ y11) ++ ((⟨#[93]⟩ : ByteArray)))))) (by kernel_rfl) rfl rfl rfl (gsat_none rfl) (by kernel_rfl) (Y0_cat (a := ((((((((⟨#[91]⟩ : ByteArray)) ++ y2) ++ ((⟨#[44]⟩ : ByteArray))) ++ y5) ++ ((⟨#[59]⟩ : ByteArray))) ++ y8) ++ ((⟨#[44]⟩ : ByteArray))) ++ y11) (b := (⟨#[93]⟩ : ByteArray)) rfl (by kernel_rfl) (by kernel_rfl) (catR_some hu13)) 22 rfl ?_
   refine DA 1 ?_
   exact XE
  refine V_ret ?_
  obtain rfl := some_inj h
  show Post _ _ _ _ _
  exact ⟨.inr rfl, rfl, rfl, rfl⟩
theorem cf_spec_prText : ∀ args w, (callFunc 21 args).run Tryd.prog w = .ok (.enter 21 args) w := run_callFunc Tryd.func21 (by kernel_rfl) (by kernel_rfl)
theorem s_spec_prText {l1 : List ByteArray} {r : ByteArray} (h : r_spec_prText l1 = some r) : CallS Tryd.prog 21 [.c (.sl (l1.map c9))] (.c (.v (.string r))) [] := by
  refine CallS_of_text (rs := [.t 2]) (vs := [.tmp 2]) Tryd.func21 rfl rfl (.cons rfl FitsL.nil) (by decide) 22 rfl ?_
  unfold r_spec_prText at h
  show V _ _ ⟨.c (.sl (l1.map c9)) :: bt 21 [], []⟩ _
  refine V_e (mb 22 1) [] (s1 := ⟨.c (.sl (l1.map c9)) :: bt 21 [], []⟩) ?_
  refine V_e (mb 22 9) [] (s1 := ⟨.c (.sl (l1.map c9)) :: .bot :: .bot :: .c (.v (.string ((⟨#[]⟩ : ByteArray)))) :: bt 18 [], []⟩) ?_
  refine V_seq ?_
  refine V_sreg (mb 22 456) [] (s1 := ⟨bt 3 (.c (.v (.string ((⟨#[]⟩ : ByteArray)))) :: .bot :: .bot :: .c (.sl (l1.map c9)) :: I ((l1.length : Int)) :: I 0 :: bt 13 []), []⟩) ?_ ?_
  ·refine XR 1 ?_
   refine L0 rfl rfl (Y0_lenM (c := c9) (xs := l1) Tryd.underlying24 rfl (by kernel_rfl)) ?_
   exact XE
  obtain ⟨o5, hLo5, h⟩ := of_bind h
  refine V_toK (mb 22 8) [] (s1 := ⟨bt 3 (.c (.v (.string o5)) :: bt 18 []), []⟩) ?_ ?_
  ·clear h
   refine V_block (V_loop (fun n s => ∃ (out2 : ByteArray) (t3 : Int), s.keep (mb 22 456) [] = (⟨bt 3 (.c (.v (.string out2)) :: .bot :: .bot :: .c (.sl (l1.map c9)) :: I ((l1.length : Int)) :: I t3 :: bt 13 []), []⟩ : St) ∧ r_spec_prText_L4 l1 n out2 t3 = some o5) FU ⟨_, _,  by rfl, hLo5⟩ ?_)
   clear hLo5
   rintro n s ⟨out2, t3, hs, h⟩
   refine V_keep _ _ hs ?_
   clear hs
   cases n with
   | zero => cases h
   | succ n =>
    rw [r_spec_prText_L4] at h
    refine V_e (mb 22 968) [] (s1 := ⟨bt 3 (.c (.v (.string out2)) :: .bot :: .bot :: .c (.sl (l1.map c9)) :: I ((l1.length : Int)) :: I t3 :: Bo (ltI t3 ((l1.length : Int))) :: bt 12 []), []⟩) ?_
    refine V_seq ?_
    refine V_cond rfl (fun hc6 => ?_) (fun hc6 => ?_)
    ·have h := of_true h hc6
     refine V_skip ?_
     show V _ _ _ _
     refine V_seq ?_
     refine V_block ?_
     obtain ⟨e7, he7, h⟩ := of_bind h
     refine V_sreg (mb 22 504) [] (s1 := ⟨bt 3 (.c (.v (.string out2)) :: I t3 :: .c (.v (.string e7)) :: .c (.sl (l1.map c9)) :: I ((l1.length : Int)) :: I t3 :: bt 13 []), []⟩) ?_ ?_
     ·refine XR 1 ?_
      refine L0 rfl rfl (Y0_idxM (c := c9) (xs := l1) (v := e7) (n := t3) Tryd.underlying24 sz9 rfl (by kernel_rfl) (by kernel_rfl) he7) ?_
      exact XE
     refine V_seq ?_
     refine V_e (mb 22 16872) [] (s1 := ⟨bt 3 (.c (.v (.string out2)) :: .bot :: .c (.v (.string e7)) :: .c (.sl (l1.map c9)) :: I ((l1.length : Int)) :: I t3 :: bt 5 (Bo (ltI 0 t3) :: bt 7 [])), []⟩) ?_
     refine V_cond rfl (fun hc8 => ?_) (fun hc8 => ?_)
     ·have h := of_true h hc8
      obtain ⟨u9, hu9, h⟩ := of_bind h
      refine V_reg (mb 22 488) [] (s1 := ⟨bt 3 (.c (.v (.string (out2 ++ ((⟨#[32]⟩ : ByteArray))))) :: .bot :: .c (.v (.string e7)) :: .c (.sl (l1.map c9)) :: I ((l1.length : Int)) :: I t3 :: bt 13 []), []⟩) ?_ ?_
      ·refine XR 1 ?_
       refine L0 rfl rfl (Y0_cat (a := out2) (b := (⟨#[32]⟩ : ByteArray)) rfl (by kernel_rfl) (by kernel_rfl) (catR_some hu9)) ?_
       exact XE
      show V _ _ _ _
      obtain ⟨u10, hu10, h⟩ := of_bind h
      refine V_reg (mb 22 456) [] (s1 := ⟨bt 3 (.c (.v (.string ((out2 ++ ((⟨#[32]⟩ : ByteArray))) ++ e7))) :: .bot :: .bot :: .c (.sl (l1.map c9)) :: I ((l1.length : Int)) :: I t3 :: bt 13 []), []⟩) ?_ ?_
      ·refine XR 2 ?_
       refine L0 rfl rfl (Y0_cat (a := out2 ++ ((⟨#[32]⟩ : ByteArray))) (b := e7) rfl (by kernel_rfl) (by kernel_rfl) (catR_some hu10)) ?_
       exact XE
      show V _ _ _ _
      obtain ⟨t11, ht11, h⟩ := of_sI h
      refine V_reg (mb 22 456) [] (s1 := ⟨bt 3 (.c (.v (.string ((out2 ++ ((⟨#[32]⟩ : ByteArray))) ++ e7))) :: .bot :: .bot :: .c (.sl (l1.map c9)) :: I ((l1.length : Int)) :: I t11 :: bt 13 []), []⟩) ?_ ?_
      ·refine XR 2 ?_
       refine XL_nil ?_
       subst ht11
       kernel_rfl
      exact ⟨n, Nat.lt_succ_self n, _, _,  by rfl, h⟩
     ·have h := of_false h hc8
      refine V_skip ?_
      show V _ _ _ _
      obtain ⟨u12, hu12, h⟩ := of_bind h
      refine V_reg (mb 22 456) [] (s1 := ⟨bt 3 (.c (.v (.string (out2 ++ e7))) :: .bot :: .bot :: .c (.sl (l1.map c9)) :: I ((l1.length : Int)) :: I t3 :: bt 13 []), []⟩) ?_ ?_
      ·refine XR 2 ?_
       refine L0 rfl rfl (Y0_cat (a := out2) (b := e7) rfl (by kernel_rfl) (by kernel_rfl) (catR_some hu12)) ?_
       exact XE
      show V _ _ _ _
      obtain ⟨t13, ht13, h⟩ := of_sI h
      refine V_reg (mb 22 456) [] (s1 := ⟨bt 3 (.c (.v (.string (out2 ++ e7))) :: .bot :: .bot :: .c (.sl (l1.map c9)) :: I ((l1.length : Int)) :: I t13 :: bt 13 []), []⟩) ?_ ?_
      ·refine XR 2 ?_
       refine XL_nil ?_
       subst ht13
       kernel_rfl
      exact ⟨n, Nat.lt_succ_self n, _, _,  by rfl, h⟩
    ·have h := of_false h hc6
     refine V_exit ?_
     obtain rfl := some_inj h
     show St.keep _ _ _ = _
     rfl
  show V _ _ _ _
  refine V_e (mb 22 4) [] (s1 := ⟨.bot :: .bot :: .c (.v (.string o5)) :: bt 19 [], []⟩) ?_
  refine V_ret ?_
  obtain rfl := some_inj h
  show Post _ _ _ _ _
  exact ⟨.inr rfl, rfl, rfl, rfl⟩
theorem cf_spec_AutomorphCertificates : ∀ args w, (callFunc 7 args).run Tryd.prog w = .ok (.enter 7 args) w := run_callFunc Tryd.func7 (by kernel_rfl) (by kernel_rfl)
theorem s_spec_AutomorphCertificates {f1 : (Int × Int × Int)} {r : ((List ByteArray) × Bool)} (h : r_spec_AutomorphCertificates f1 = some r) : CallS Tryd.prog 7 [.ag [Ti f1.1, Ti f1.2.1, Ti f1.2.2]] (.tc (.ow 0) (.tc (Bo r.2) .tn)) [(0, .arr 9 1 (r.1.map c9))] := by
  refine CallS_of_text (rs := [.t 2, .t 3]) (vs := [.tmp 2, .tmp 3]) Tryd.func7 rfl rfl (.cons rfl (.cons rfl FitsL.nil)) (by decide) 28 rfl ?_
  unfold r_spec_AutomorphCertificates at h
  show V _ _ ⟨.ag [Ti f1.1, Ti f1.2.1, Ti f1.2.2] :: bt 27 [], []⟩ _
  refine V_sreg (mb 28 2) [8] (s1 := ⟨.bot :: .pt 8 0 :: bt 26 [], [(8, .box [Ti f1.1, Ti f1.2.1, Ti f1.2.2])]⟩) ?_ ?_
  ·refine XR 1 ?_
   refine L1 rfl rfl (Y1_nil (e := 9) 1 (by decide) (.inl rfl)) ?_
   exact XE
  refine V_seq ?_
  obtain ⟨y2, hy2, h⟩ := of_bind h
  refine V_sreg (mb 28 514) [8] (s1 := ⟨.bot :: .pt 8 0 :: bt 7 (Bo (!y2) :: bt 18 []), [(8, .box [Ti f1.1, Ti f1.2.1, Ti f1.2.2])]⟩) ?_ ?_
  ·refine XR 1 ?_
   refine XC (s_spec_foDefinite hy2) cf_spec_foDefinite rfl rfl rfl ?_
   exact XE
  refine V_cond rfl (fun hc3 => ?_) (fun hc3 => ?_)
  ·have h := of_true h hc3
   refine V_sreg (mb 28 12) [16] (s1 := ⟨.bot :: .bot :: .ow 16 :: Bo false :: bt 24 [], [(16, .arr 9 1 ((([] : List ByteArray)).map c9))]⟩) ?_ ?_
   ·refine L1 rfl rfl (Y1_nil (e := 9) 1 (by decide) (.inl rfl)) ?_
    exact XE
   refine V_ret ?_
   obtain rfl := some_inj h
   show Post _ _ _ _ _
   exact ⟨.inr rfl, rfl, rfl, rfl⟩
  ·have h := of_false h hc3
   refine V_skip ?_
   show V _ _ _ _
   refine V_sreg (mb 28 18) [32, 8] (s1 := ⟨.bot :: .pt 8 0 :: .bot :: .bot :: .ow 32 :: bt 23 [], [(32, .arr 9 1 ((([] : List ByteArray)).map c9)), (8, .box [Ti f1.1, Ti f1.2.1, Ti f1.2.2])]⟩) ?_ ?_
   ·refine L1 rfl rfl (Y1_nil (e := 9) 1 (by decide) (.inl rfl)) ?_
    exact XE
   refine V_seq ?_
   obtain ⟨y4, hy4, h⟩ := of_bind h
   refine V_sreg (mb 28 14354) [88, 32, 8] (s1 := ⟨.bot :: .pt 8 0 :: .bot :: .bot :: .ow 32 :: bt 6 (.ow 88 :: I ((y4.length : Int)) :: I 0 :: bt 14 []), [(88, .arr 42 4 (y4.map c42)), (32, .arr 9 1 ((([] : List ByteArray)).map c9)), (8, .box [Ti f1.1, Ti f1.2.1, Ti f1.2.2])]⟩) ?_ ?_
   ·refine XR 1 ?_
    refine XC (s_spec_reAutomorphs hy4) cf_spec_reAutomorphs rfl rfl rfl ?_
    refine L0 rfl rfl (Y0_lenM (c := c42) (xs := y4) Tryd.underlying39 rfl (by kernel_rfl)) ?_
    exact XE
   obtain ⟨o8, hLo8, h⟩ := of_bind h
   refine V_toK (mb 28 16) [32] (s1 := ⟨bt 4 (.ow 32 :: bt 23 []), [(32, .arr 9 1 (o8.map c9))]⟩) ?_ ?_
   ·clear h
    refine V_block (V_loop (fun n s => ∃ (t5 : Int) (l6 : List ByteArray), s.keep (mb 28 14354) [88, 32, 8] = (⟨.bot :: .pt 8 0 :: .bot :: .bot :: .ow 32 :: bt 6 (.ow 88 :: I ((y4.length : Int)) :: I t5 :: bt 14 []), [(88, .arr 42 4 (y4.map c42)), (32, .arr 9 1 (l6.map c9)), (8, .box [Ti f1.1, Ti f1.2.1, Ti f1.2.2])]⟩ : St) ∧ r_spec_AutomorphCertificates_L7 f1 y4 n t5 l6 = some o8) FU ⟨_, _,  by rfl, hLo8⟩ ?_)
    clear hLo8
    rintro n s ⟨t5, l6, hs, h⟩
    refine V_keep _ _ hs ?_
    clear hs
    cases n with
    | zero => cases h
    | succ n =>
     rw [r_spec_AutomorphCertificates_L7] at h
     refine V_e (mb 28 30738) [88, 32, 8] (s1 := ⟨.bot :: .pt 8 0 :: .bot :: .bot :: .ow 32 :: bt 6 (.ow 88 :: I ((y4.length : Int)) :: I t5 :: Bo (ltI t5 ((y4.length : Int))) :: bt 13 []), [(88, .arr 42 4 (y4.map c42)), (32, .arr 9 1 (l6.map c9)), (8, .box [Ti f1.1, Ti f1.2.1, Ti f1.2.2])]⟩) ?_
     refine V_seq ?_
     refine V_cond rfl (fun hc9 => ?_) (fun hc9 => ?_)
     ·have h := of_true h hc9
      refine V_skip ?_
      show V _ _ _ _
      refine V_seq ?_
      refine V_block ?_
      obtain ⟨e10, he10, h⟩ := of_bind h
      obtain ⟨e11, he11, h⟩ := of_bind h
      refine V_sreg (mb 28 14418) [48, 88, 32, 8] (s1 := ⟨.bot :: .pt 8 0 :: .bot :: .bot :: .ow 32 :: .bot :: .pt 48 0 :: bt 4 (.ow 88 :: I ((y4.length : Int)) :: I t5 :: bt 14 []), [(48, .box [Ti e11.1, Ti e11.2.1, Ti e11.2.2.1, Ti e11.2.2.2]), (88, .arr 42 4 (y4.map c42)), (32, .arr 9 1 (l6.map c9)), (8, .box [Ti f1.1, Ti f1.2.1, Ti f1.2.2])]⟩) ?_ ?_
      ·refine L0 rfl rfl (Y0_idxoM (c := c42) (xs := y4) (v := e10) (id := 88) (T := 42) (sz := 4) (n := t5) Tryd.underlying39 sz42 rfl (by kernel_rfl) (by kernel_rfl) (by kernel_rfl) he10) ?_
       refine L0 rfl rfl (E_loadon (c := c42) (xs := y4) (v := e11) (id := 88) (sz := 4) (T := 42) (off := 0) (n := t5) [Ti e11.1, Ti e11.2.1, Ti e11.2.2.1, Ti e11.2.2.2] wd42 rfl (by kernel_rfl) (by kernel_rfl) he11 (Nat.le_of_ble_eq_true rfl) (by kernel_rfl)) ?_
       exact XE
      obtain ⟨y12, hy12, h⟩ := of_bind h
      obtain ⟨y13, hy13, h⟩ := of_bind h
      obtain ⟨y14, hy14, h⟩ := of_bind h
      obtain ⟨u15, hu15, h⟩ := of_bind h
      refine V_dreg [0, 0, 2, 0, 14, 30, 62, 126, 255, 511] 8 (cdm 8 [43688, 130, 134, 42, 86, 342, 1366, 5462]) (mb 28 14354) [88, 32, 8] (s1 := ⟨.bot :: .pt 8 0 :: .bot :: .bot :: .ow 32 :: bt 6 (.ow 88 :: I ((y4.length : Int)) :: I t5 :: bt 14 []), [(88, .arr 42 4 (y4.map c42)), (32, .arr 9 1 ((l6 ++ ([y14])).map c9)), (8, .box [Ti f1.1, Ti f1.2.1, Ti f1.2.2])]⟩) (by kernel_rfl) (by kernel_rfl) ?_ ?_
      ·refine DR 2 ?_
       refine DC 2 (s_spec_foText hy12) cf_spec_foText rfl rfl rfl rfl 19 rfl ?_
       refine DR 1 ?_
       refine DC 4 (s_spec_foMatrixText hy13) cf_spec_foMatrixText rfl rfl rfl rfl 21 rfl ?_
       refine DE_1 5 (by kernel_rfl) rfl rfl rfl (gsat_none rfl) (Y1_bslice (z := zv9) (els := [(⟨#[97, 117, 116, 111, 109, 111, 114, 112, 104]⟩ : ByteArray), y12, y13].map c9) Tryd.underlying24 iz9 rfl (by decide) rfl (by kernel_rfl) rfl (by simp [c9]) (by decide) (by decide)) rfl rfl rfl 22 rfl ?_
       refine DE_1 6 (by kernel_rfl) rfl rfl rfl (gsat_none rfl) (Y1_callS (s_spec_prText hy14) cf_spec_prText rfl (by kernel_rfl) rfl rfl) rfl rfl rfl 23 rfl ?_
       refine DE_1 7 (by kernel_rfl) rfl rfl rfl (gsat_none rfl) (Y1_bslice (z := zv9) (els := [y14].map c9) Tryd.underlying24 iz9 rfl (by decide) rfl (by kernel_rfl) rfl (by simp [c9]) (by decide) (by decide)) rfl rfl rfl 24 rfl ?_
       refine DA 0 ?_
       refine XL_cons rfl (X_appendM (c := c9) (xs := l6) (ys := [y14]) (id := 32) (z := zv9) rfl rfl Tryd.underlying24 izb9 rfl (by kernel_rfl) (by kernel_rfl) (by kernel_rfl) (fun _ => rfl) (by simp) (room_some hu15) (by decide)) ?_
       exact XE
      show V _ _ _ _
      obtain ⟨t16, ht16, h⟩ := of_sI h
      refine V_reg (mb 28 14354) [88, 32, 8] (s1 := ⟨.bot :: .pt 8 0 :: .bot :: .bot :: .ow 32 :: bt 6 (.ow 88 :: I ((y4.length : Int)) :: I t16 :: bt 14 []), [(88, .arr 42 4 (y4.map c42)), (32, .arr 9 1 ((l6 ++ ([y14])).map c9)), (8, .box [Ti f1.1, Ti f1.2.1, Ti f1.2.2])]⟩) ?_ ?_
      ·refine XR 2 ?_
       refine XL_nil ?_
       subst ht16
       kernel_rfl
      exact ⟨n, Nat.lt_succ_self n, _, _,  by rfl, h⟩
     ·have h := of_false h hc9
      refine V_exit ?_
      obtain rfl := some_inj h
      show St.keep _ _ _ = _
      rfl
   show V _ _ _ _
   refine V_e (mb 28 12) [32] (s1 := ⟨.bot :: .bot :: .ow 32 :: Bo true :: bt 24 [], [(32, .arr 9 1 (o8.map c9))]⟩) ?_
   refine V_ret ?_
   obtain rfl := some_inj h
   show Post _ _ _ _ _
   exact ⟨.inr rfl, rfl, rfl, rfl⟩
theorem cf_impl_areNumbers : ∀ args w, (callFunc 33 args).run Tryd.prog w = .ok (.enter 33 args) w := run_callFunc Tryd.func33 (by kernel_rfl) (by kernel_rfl)
theorem s_impl_areNumbers {list1 : List Int} {r : Bool} (h : r_impl_areNumbers list1 = some r) : CallS Tryd.prog 33 [.c (.sl (list1.map c3))] (Bo r) [] := by
  refine CallS_of_text (rs := [.t 2]) (vs := [.tmp 2]) Tryd.func33 rfl rfl (.cons rfl FitsL.nil) (by decide) 18 rfl ?_
  unfold r_impl_areNumbers at h
  show V _ _ ⟨.c (.sl (list1.map c3)) :: bt 17 [], []⟩ _
  refine V_e (mb 18 1) [] (s1 := ⟨.c (.sl (list1.map c3)) :: bt 17 [], []⟩) ?_
  refine V_seq ?_
  refine V_sreg (mb 18 224) [] (s1 := ⟨bt 5 (.c (.sl (list1.map c3)) :: I ((list1.length : Int)) :: I 0 :: bt 10 []), []⟩) ?_ ?_
  ·refine XR 1 ?_
   refine L0 rfl rfl (Y0_lenM (c := c3) (xs := list1) Tryd.underlying58 rfl (by kernel_rfl)) ?_
   exact XE
  obtain ⟨qo4, hLo4, hko4⟩ := of_bind h
  refine V_toS (q := qo4) (S := fun o4 => ⟨bt 18 [], []⟩) (mb 18 0) [] ?_ ?_
  ·refine V_block (V_loop (fun n s => ∃ (t2 : Int), s.keep (mb 18 224) [] = (⟨bt 5 (.c (.sl (list1.map c3)) :: I ((list1.length : Int)) :: I t2 :: bt 10 []), []⟩ : St) ∧ r_impl_areNumbers_L3 list1 n t2 = some qo4) FU ⟨_,  by rfl, hLo4⟩ ?_)
   clear hLo4
   rintro n s ⟨t2, hs, h⟩
   refine V_keep _ _ hs ?_
   clear hs
   cases n with
   | zero => cases h
   | succ n =>
    rw [r_impl_areNumbers_L3] at h
    refine V_e (mb 18 480) [] (s1 := ⟨bt 5 (.c (.sl (list1.map c3)) :: I ((list1.length : Int)) :: I t2 :: Bo (ltI t2 ((list1.length : Int))) :: bt 9 []), []⟩) ?_
    refine V_seq ?_
    refine V_cond rfl (fun hc5 => ?_) (fun hc5 => ?_)
    ·have h := of_true h hc5
     refine V_skip ?_
     show V _ _ _ _
     refine V_seq ?_
     refine V_block ?_
     obtain ⟨e6, he6, h⟩ := of_bind h
     refine V_sreg (mb 18 240) [] (s1 := ⟨bt 4 (I e6 :: .c (.sl (list1.map c3)) :: I ((list1.length : Int)) :: I t2 :: bt 10 []), []⟩) ?_ ?_
     ·refine L0 rfl rfl (Y0_idxM (c := c3) (xs := list1) (v := e6) (n := t2) Tryd.underlying58 sz3 rfl (by kernel_rfl) (by kernel_rfl) he6) ?_
      exact XE
     refine V_sreg (mb 18 65760) [] (s1 := ⟨bt 5 (.c (.sl (list1.map c3)) :: I ((list1.length : Int)) :: I t2 :: bt 8 (Bo (bif (ltI e6 (-1000000)) then true else (ltI 1000000 e6)) :: .bot :: [])), []⟩) ?_ ?_
     ·refine XR 3 ?_
      refine XL_split (ltI e6 (-1000000)) (fun hc7 => ?_) (fun hc7 => ?_)
      ·refine XL_skipF _ rfl rfl (by kernel_rfl) hc7 rfl ?_
       refine XL_skipF _ rfl rfl (by kernel_rfl) hc7 rfl ?_
       refine XL_cons rfl (X_of_Y0 rfl (Y0_pick1 (b := ltI e6 (-1000000)) (p := true) (q := ltI 1000000 e6) rfl (by kernel_rfl) hc7 (by kernel_rfl))) ?_
       exact XE
      ·refine XL_takeC _ rfl rfl (by kernel_rfl) hc7 (X_of_Y0 rfl (E_move (I e6) rfl (by kernel_rfl))) ?_
       refine XL_takeC _ rfl rfl (by kernel_rfl) hc7 (X_of_Y0 rfl (Y0_gtw (k := .i64) (a := e6) (b := 1000000) rfl (by kernel_rfl) (by kernel_rfl))) ?_
       refine XL_cons rfl (X_of_Y0 rfl (Y0_pick0 (b := ltI e6 (-1000000)) (p := true) (q := ltI 1000000 e6) rfl (by kernel_rfl) hc7 (by kernel_rfl))) ?_
       exact XE
     refine V_cond rfl (fun hc8 => ?_) (fun hc8 => ?_)
     ·have h := of_true h hc8
      refine V_e (mb 18 4) [] (s1 := ⟨.bot :: .bot :: Bo false :: bt 15 [], []⟩) ?_
      refine V_ret ?_
      obtain rfl := some_inj h
      have h := hko4
      obtain rfl := some_inj h
      show Post _ _ _ _ _
      exact ⟨.inr rfl, rfl, rfl, rfl⟩
     ·have h := of_false h hc8
      refine V_skip ?_
      show V _ _ _ _
      obtain ⟨t9, ht9, h⟩ := of_sI h
      refine V_reg (mb 18 224) [] (s1 := ⟨bt 5 (.c (.sl (list1.map c3)) :: I ((list1.length : Int)) :: I t9 :: bt 10 []), []⟩) ?_ ?_
      ·refine XR 2 ?_
       refine XL_nil ?_
       subst ht9
       kernel_rfl
      exact ⟨n, Nat.lt_succ_self n, _,  by rfl, h⟩
    ·have h := of_false h hc5
     refine V_exit ?_
     obtain rfl := some_inj h
     exact ⟨_, rfl, by rfl⟩
  rintro o4 rfl
  have h := hko4
  clear hko4
  show V _ _ _ _
  refine V_e (mb 18 4) [] (s1 := ⟨.bot :: .bot :: Bo true :: bt 15 [], []⟩) ?_
  refine V_ret ?_
  obtain rfl := some_inj h
  show Post _ _ _ _ _
  exact ⟨.inr rfl, rfl, rfl, rfl⟩
theorem cf_impl_IsForm : ∀ args w, (callFunc 74 args).run Tryd.prog w = .ok (.enter 74 args) w := run_callFunc Tryd.func74 (by kernel_rfl) (by kernel_rfl)
theorem s_impl_IsForm {f1 : (Int × Int × Int)} {r : Bool} (h : r_impl_IsForm f1 = some r) : CallS Tryd.prog 74 [.ag [Ti f1.1, Ti f1.2.1, Ti f1.2.2]] (Bo r) [] := by
  refine CallS_of_text (rs := [.t 2]) (vs := [.tmp 2]) Tryd.func74 rfl rfl (.cons rfl FitsL.nil) (by decide) 11 rfl ?_
  unfold r_impl_IsForm at h
  show V _ _ ⟨.ag [Ti f1.1, Ti f1.2.1, Ti f1.2.2] :: bt 10 [], []⟩ _
  refine V_e (mb 11 2) [8] (s1 := ⟨.bot :: .pt 8 0 :: bt 9 [], [(8, .box [Ti f1.1, Ti f1.2.1, Ti f1.2.2])]⟩) ?_
  obtain ⟨y2, hy2, h⟩ := of_bind h
  refine V_sreg (mb 11 4) [] (s1 := ⟨.bot :: .bot :: Bo y2 :: bt 8 [], []⟩) ?_ ?_
  ·refine XR 6 ?_
   refine L1 rfl rfl (Y1_bslice (z := zv3) (els := [f1.1, f1.2.1, f1.2.2].map c3) Tryd.underlying58 iz3 rfl (by decide) rfl (by kernel_rfl) rfl (by simp [c3]) (by decide) (by decide)) ?_
   refine L1 rfl rfl (Y1_callS (s_impl_areNumbers hy2) cf_impl_areNumbers rfl (by kernel_rfl) rfl rfl) ?_
   exact XE
  refine V_ret ?_
  obtain rfl := some_inj h
  show Post _ _ _ _ _
  exact ⟨.inr rfl, rfl, rfl, rfl⟩
theorem cf_impl_Form_disc : ∀ args w, (callFunc 75 args).run Tryd.prog w = .ok (.enter 75 args) w := run_callFunc Tryd.func75 (by kernel_rfl) (by kernel_rfl)
theorem s_impl_Form_disc {f1 : (Int × Int × Int)} {r : Int} (h : r_impl_Form_disc f1 = some r) : CallS Tryd.prog 75 [.ag [Ti f1.1, Ti f1.2.1, Ti f1.2.2]] (I r) [] := by
  refine CallS_of_text (rs := [.t 2]) (vs := [.tmp 2]) Tryd.func75 rfl rfl (.cons rfl FitsL.nil) (by decide) 15 rfl ?_
  unfold r_impl_Form_disc at h
  show V _ _ ⟨.ag [Ti f1.1, Ti f1.2.1, Ti f1.2.2] :: bt 14 [], []⟩ _
  refine V_e (mb 15 2) [8] (s1 := ⟨.bot :: .pt 8 0 :: bt 13 [], [(8, .box [Ti f1.1, Ti f1.2.1, Ti f1.2.2])]⟩) ?_
  obtain ⟨t2, ht2, h⟩ := of_sI h
  refine V_sreg (mb 15 4) [] (s1 := ⟨.bot :: .bot :: I t2 :: bt 12 [], []⟩) ?_ ?_
  ·refine XR 13 ?_
   refine XL_nil ?_
   subst ht2
   kernel_rfl
  refine V_ret ?_
  obtain rfl := some_inj h
  show Post _ _ _ _ _
  exact ⟨.inr rfl, rfl, rfl, rfl⟩
theorem cf_impl_isDefinite : ∀ args w, (callFunc 45 args).run Tryd.prog w = .ok (.enter 45 args) w := run_callFunc Tryd.func45 (by kernel_rfl) (by kernel_rfl)
theorem s_impl_isDefinite {f1 : (Int × Int × Int)} {r : Bool} (h : r_impl_isDefinite f1 = some r) : CallS Tryd.prog 45 [.ag [Ti f1.1, Ti f1.2.1, Ti f1.2.2]] (Bo r) [] := by
  refine CallS_of_text (rs := [.t 2]) (vs := [.tmp 2]) Tryd.func45 rfl rfl (.cons rfl FitsL.nil) (by decide) 15 rfl ?_
  unfold r_impl_isDefinite at h
  show V _ _ ⟨.ag [Ti f1.1, Ti f1.2.1, Ti f1.2.2] :: bt 14 [], []⟩ _
  refine V_e (mb 15 2) [8] (s1 := ⟨.bot :: .pt 8 0 :: bt 13 [], [(8, .box [Ti f1.1, Ti f1.2.1, Ti f1.2.2])]⟩) ?_
  obtain ⟨y2, hy2, h⟩ := of_bind h
  obtain ⟨b5, hb5, h⟩ := of_bind h
  refine V_sreg (mb 15 4) [] (s1 := ⟨.bot :: .bot :: Bo (bif b5 then (ltI 0 f1.1) else false) :: bt 12 [], []⟩) ?_ ?_
  ·refine XR 1 ?_
   refine XC (s_impl_IsForm hy2) cf_impl_IsForm rfl rfl rfl ?_
   refine XR 1 ?_
   refine XL_split y2 (fun hc3 => ?_) (fun hc3 => ?_)
   ·have hb5 := of_true hb5 hc3
    obtain ⟨y4, hy4, hb5⟩ := of_bind hb5
    have hb5 := some_inj hb5
    refine XL_takeC _ rfl rfl (by kernel_rfl) hc3 (X_of_Y0 rfl (E_loadn (cs := [Ti f1.1, Ti f1.2.1, Ti f1.2.2]) [Ti f1.1, Ti f1.2.1, Ti f1.2.2] wd27 rfl (by kernel_rfl) (Nat.le_of_ble_eq_true rfl) (by kernel_rfl))) ?_
    refine XL_takeC _ rfl rfl (by kernel_rfl) hc3 (X_of_Y1 rfl (Y1_call (s_impl_Form_disc hy4) cf_impl_Form_disc rfl (by kernel_rfl))) ?_
    refine XL_takeC _ rfl rfl (by kernel_rfl) hc3 (X_of_Y0 rfl (Y0_ltw (k := .i64) (a := y4) (b := 0) rfl (by kernel_rfl) (by kernel_rfl))) ?_
    refine XL_cons rfl (X_of_Y0 rfl (Y0_pickTe (b := y2) (p := ltI y4 0) rfl (by kernel_rfl) hc3 (by kernel_rfl) hb5)) ?_
    refine XR 1 ?_
    refine XL_split b5 (fun hc6 => ?_) (fun hc6 => ?_)
    ·refine XL_takeC _ rfl rfl (by kernel_rfl) hc6 (X_of_Y0 rfl (E_field (.pt 8 0) Tryd.underlying27 rfl sz3 rfl (by kernel_rfl) (by intro hh; cases hh))) ?_
     refine XL_takeC _ rfl rfl (by kernel_rfl) hc6 (X_of_Y0 rfl (Y0_load1 (c := Ti f1.1) (cs := [Ti f1.2.1, Ti f1.2.2]) sc3 rfl (by kernel_rfl))) ?_
     refine XL_takeC _ rfl rfl (by kernel_rfl) hc6 (X_of_Y0 rfl (Y0_gtw (k := .i64) (a := f1.1) (b := 0) rfl (by kernel_rfl) (by kernel_rfl))) ?_
     refine XL_cons rfl (X_of_Y0 rfl (Y0_pick1 (b := b5) (p := ltI 0 f1.1) (q := false) rfl (by kernel_rfl) hc6 (by kernel_rfl))) ?_
     exact XE
    ·refine XL_skipT _ rfl rfl (by kernel_rfl) hc6 rfl ?_
     refine XL_skipT _ rfl rfl (by kernel_rfl) hc6 rfl ?_
     refine XL_skipT _ rfl rfl (by kernel_rfl) hc6 rfl ?_
     refine XL_cons rfl (X_of_Y0 rfl (Y0_pick0 (b := b5) (p := ltI 0 f1.1) (q := false) rfl (by kernel_rfl) hc6 (by kernel_rfl))) ?_
     exact XE
   ·have hb5 := some_inj (of_false hb5 hc3)
    refine XL_skipT _ rfl rfl (by kernel_rfl) hc3 rfl ?_
    refine XL_skipT _ rfl rfl (by kernel_rfl) hc3 rfl ?_
    refine XL_skipT _ rfl rfl (by kernel_rfl) hc3 rfl ?_
    refine XL_cons rfl (X_of_Y0 rfl (Y0_pickFe (b := y2) (p := false) rfl (by kernel_rfl) hc3 (by kernel_rfl) hb5)) ?_
    refine XR 1 ?_
    refine XL_split b5 (fun hc6 => ?_) (fun hc6 => ?_)
    ·refine XL_takeC _ rfl rfl (by kernel_rfl) hc6 (X_of_Y0 rfl (E_field (.pt 8 0) Tryd.underlying27 rfl sz3 rfl (by kernel_rfl) (by intro hh; cases hh))) ?_
     refine XL_takeC _ rfl rfl (by kernel_rfl) hc6 (X_of_Y0 rfl (Y0_load1 (c := Ti f1.1) (cs := [Ti f1.2.1, Ti f1.2.2]) sc3 rfl (by kernel_rfl))) ?_
     refine XL_takeC _ rfl rfl (by kernel_rfl) hc6 (X_of_Y0 rfl (Y0_gtw (k := .i64) (a := f1.1) (b := 0) rfl (by kernel_rfl) (by kernel_rfl))) ?_
     refine XL_cons rfl (X_of_Y0 rfl (Y0_pick1 (b := b5) (p := ltI 0 f1.1) (q := false) rfl (by kernel_rfl) hc6 (by kernel_rfl))) ?_
     exact XE
    ·refine XL_skipT _ rfl rfl (by kernel_rfl) hc6 rfl ?_
     refine XL_skipT _ rfl rfl (by kernel_rfl) hc6 rfl ?_
     refine XL_skipT _ rfl rfl (by kernel_rfl) hc6 rfl ?_
     refine XL_cons rfl (X_of_Y0 rfl (Y0_pick0 (b := b5) (p := ltI 0 f1.1) (q := false) rfl (by kernel_rfl) hc6 (by kernel_rfl))) ?_
     exact XE
  refine V_ret ?_
  obtain rfl := some_inj h
  show Post _ _ _ _ _
  exact ⟨.inr rfl, rfl, rfl, rfl⟩
theorem cf_impl_one : ∀ args w, (callFunc 76 args).run Tryd.prog w = .ok (.enter 76 args) w := run_callFunc Tryd.func76 (by kernel_rfl) (by kernel_rfl)
theorem s_impl_one {r : (Int × Int × Int × Int)} (h : r_impl_one = some r) : CallS Tryd.prog 76 [] (.ag [Ti r.1, Ti r.2.1, Ti r.2.2.1, Ti r.2.2.2]) [] := by
  refine CallS_of_text (rs := [.w 0 4]) (vs := [.cell 0 42]) Tryd.func76 rfl rfl (.cons ⟨rfl, wd42⟩ FitsL.nil) (by decide) 2 rfl ?_
  unfold r_impl_one at h
  show V _ _ ⟨.bot :: .bot :: [], []⟩ _
  refine V_e (mb 2 1) [0] (s1 := ⟨.pt 0 0 :: .bot :: [], [(0, .box [Ti 0, Ti 0, Ti 0, Ti 0])]⟩) ?_
  refine V_sreg (mb 2 1) [0] (s1 := ⟨.pt 0 0 :: .bot :: [], [(0, .box [Ti 1, Ti 0, Ti 0, Ti 1])]⟩) ?_ ?_
  ·refine L0 rfl rfl (Y0_build (cs := [Ti 1, Ti 0, Ti 0, Ti 1]) pl42 bt42 rfl rfl (by kernel_rfl)) ?_
   exact XE
  refine V_ret ?_
  obtain rfl := some_inj h
  show Post _ _ _ _ _
  exact ⟨.inr rfl, rfl, rfl, rfl⟩
theorem cf_impl_Form_isNormal : ∀ args w, (callFunc 108 args).run Tryd.prog w = .ok (.enter 108 args) w := run_callFunc Tryd.func108 (by kernel_rfl) (by kernel_rfl)
theorem s_impl_Form_isNormal {f1 : (Int × Int × Int)} {r : Bool} (h : r_impl_Form_isNormal f1 = some r) : CallS Tryd.prog 108 [.ag [Ti f1.1, Ti f1.2.1, Ti f1.2.2]] (Bo r) [] := by
  refine CallS_of_text (rs := [.t 2]) (vs := [.tmp 2]) Tryd.func108 rfl rfl (.cons rfl FitsL.nil) (by decide) 16 rfl ?_
  unfold r_impl_Form_isNormal at h
  show V _ _ ⟨.ag [Ti f1.1, Ti f1.2.1, Ti f1.2.2] :: bt 15 [], []⟩ _
  refine V_e (mb 16 2) [8] (s1 := ⟨.bot :: .pt 8 0 :: bt 14 [], [(8, .box [Ti f1.1, Ti f1.2.1, Ti f1.2.2])]⟩) ?_
  obtain ⟨t3, ht3, h⟩ := of_bind h
  have ht3 := some_inj ht3
  refine V_sreg (mb 16 4) [] (s1 := ⟨.bot :: .bot :: Bo t3 :: bt 13 [], []⟩) ?_ ?_
  ·refine XR 7 ?_
   refine XL_split (ltI (w64 (0 - f1.1)) f1.2.1) (fun hc2 => ?_) (fun hc2 => ?_)
   ·refine XL_takeC _ rfl rfl (by kernel_rfl) hc2 (X_of_Y0 rfl (E_field (.pt 8 1) Tryd.underlying27 rfl sz3 rfl (by kernel_rfl) (by intro hh; cases hh))) ?_
    refine XL_takeC _ rfl rfl (by kernel_rfl) hc2 (X_of_Y0 rfl (Y0_load1 (c := Ti f1.2.1) (cs := [Ti f1.2.2]) sc3 rfl (by kernel_rfl))) ?_
    refine XL_takeC _ rfl rfl (by kernel_rfl) hc2 (X_of_Y0 rfl (E_field (.pt 8 0) Tryd.underlying27 rfl sz3 rfl (by kernel_rfl) (by intro hh; cases hh))) ?_
    refine XL_takeC _ rfl rfl (by kernel_rfl) hc2 (X_of_Y0 rfl (Y0_load1 (c := Ti f1.1) (cs := [Ti f1.2.1, Ti f1.2.2]) sc3 rfl (by kernel_rfl))) ?_
    refine XL_takeC _ rfl rfl (by kernel_rfl) hc2 (X_of_Y0 rfl (Y0_lew (k := .i64) (a := f1.2.1) (b := f1.1) rfl (by kernel_rfl) (by kernel_rfl))) ?_
    refine XL_cons rfl (X_of_Y0 rfl (Y0_pick1 (b := ltI (w64 (0 - f1.1)) f1.2.1) (p := leI f1.2.1 f1.1) (q := false) rfl (by kernel_rfl) hc2 (by kernel_rfl))) ?_
    refine XR 1 ?_
    refine XL_nil ?_
    subst ht3
    kernel_rfl
   ·refine XL_skipT _ rfl rfl (by kernel_rfl) hc2 rfl ?_
    refine XL_skipT _ rfl rfl (by kernel_rfl) hc2 rfl ?_
    refine XL_skipT _ rfl rfl (by kernel_rfl) hc2 rfl ?_
    refine XL_skipT _ rfl rfl (by kernel_rfl) hc2 rfl ?_
    refine XL_skipT _ rfl rfl (by kernel_rfl) hc2 rfl ?_
    refine XL_cons rfl (X_of_Y0 rfl (Y0_pick0 (b := ltI (w64 (0 - f1.1)) f1.2.1) (p := leI f1.2.1 f1.1) (q := false) rfl (by kernel_rfl) hc2 (by kernel_rfl))) ?_
    refine XR 1 ?_
    refine XL_nil ?_
    subst ht3
    kernel_rfl
  refine V_ret ?_
  obtain rfl := some_inj h
  show Post _ _ _ _ _
  exact ⟨.inr rfl, rfl, rfl, rfl⟩
theorem cf_impl_Form_isReduced : ∀ args w, (callFunc 77 args).run Tryd.prog w = .ok (.enter 77 args) w := run_callFunc Tryd.func77 (by kernel_rfl) (by kernel_rfl)
theorem s_impl_Form_isReduced {f1 : (Int × Int × Int)} {r : Bool} (h : r_impl_Form_isReduced f1 = some r) : CallS Tryd.prog 77 [.ag [Ti f1.1, Ti f1.2.1, Ti f1.2.2]] (Bo r) [] := by
  refine CallS_of_text (rs := [.t 2]) (vs := [.tmp 2]) Tryd.func77 rfl rfl (.cons rfl FitsL.nil) (by decide) 24 rfl ?_
  unfold r_impl_Form_isReduced at h
  show V _ _ ⟨.ag [Ti f1.1, Ti f1.2.1, Ti f1.2.2] :: bt 23 [], []⟩ _
  refine V_e (mb 24 2) [8] (s1 := ⟨.bot :: .pt 8 0 :: bt 22 [], [(8, .box [Ti f1.1, Ti f1.2.1, Ti f1.2.2])]⟩) ?_
  obtain ⟨y2, hy2, h⟩ := of_bind h
  obtain ⟨t6, ht6, h⟩ := of_bind h
  have ht6 := some_inj ht6
  refine V_sreg (mb 24 4) [] (s1 := ⟨.bot :: .bot :: Bo t6 :: bt 21 [], []⟩) ?_ ?_
  ·refine XR 1 ?_
   refine XC (s_impl_Form_isNormal hy2) cf_impl_Form_isNormal rfl rfl rfl ?_
   refine XR 1 ?_
   refine XL_split y2 (fun hc3 => ?_) (fun hc3 => ?_)
   ·refine XL_takeC _ rfl rfl (by kernel_rfl) hc3 (X_of_Y0 rfl (E_field (.pt 8 0) Tryd.underlying27 rfl sz3 rfl (by kernel_rfl) (by intro hh; cases hh))) ?_
    refine XL_takeC _ rfl rfl (by kernel_rfl) hc3 (X_of_Y0 rfl (Y0_load1 (c := Ti f1.1) (cs := [Ti f1.2.1, Ti f1.2.2]) sc3 rfl (by kernel_rfl))) ?_
    refine XL_takeC _ rfl rfl (by kernel_rfl) hc3 (X_of_Y0 rfl (E_field (.pt 8 2) Tryd.underlying27 rfl sz3 rfl (by kernel_rfl) (by intro hh; cases hh))) ?_
    refine XL_takeC _ rfl rfl (by kernel_rfl) hc3 (X_of_Y0 rfl (Y0_load1 (c := Ti f1.2.2) (cs := []) sc3 rfl (by kernel_rfl))) ?_
    refine XL_takeC _ rfl rfl (by kernel_rfl) hc3 (X_of_Y0 rfl (Y0_ltw (k := .i64) (a := f1.1) (b := f1.2.2) rfl (by kernel_rfl) (by kernel_rfl))) ?_
    refine XL_takeC _ rfl rfl (by kernel_rfl) hc3 (X_of_Y0 rfl (E_move (Bo (ltI f1.1 f1.2.2)) rfl (by kernel_rfl))) ?_
    refine XL_split (ltI f1.1 f1.2.2) (fun hc4 => ?_) (fun hc4 => ?_)
    ·refine XL_skipF _ rfl rfl (by kernel_rfl) hc4 rfl ?_
     refine XL_skipF _ rfl rfl (by kernel_rfl) hc4 rfl ?_
     refine XL_skipF _ rfl rfl (by kernel_rfl) hc4 rfl ?_
     refine XL_skipF _ rfl rfl (by kernel_rfl) hc4 rfl ?_
     refine XL_skipF _ rfl rfl (by kernel_rfl) hc4 rfl ?_
     refine XL_skipF _ rfl rfl (by kernel_rfl) hc4 rfl ?_
     refine XL_skip2 rfl rfl (by kernel_rfl) rfl ?_
     refine XL_skip2 rfl rfl (by kernel_rfl) rfl ?_
     refine XL_skip2 rfl rfl (by kernel_rfl) rfl ?_
     refine XL_skipF _ rfl rfl (by kernel_rfl) hc4 rfl ?_
     refine XL_takeC _ rfl rfl (by kernel_rfl) hc3 (X_of_Y0 rfl (Y0_pick1 (b := ltI f1.1 f1.2.2) (p := true) (q := bif (eqI f1.1 f1.2.2) then (leI 0 f1.2.1) else false) rfl (by kernel_rfl) hc4 (by kernel_rfl))) ?_
     refine XL_cons rfl (X_of_Y0 rfl (Y0_pick1 (b := y2) (p := bif (ltI f1.1 f1.2.2) then true else (bif (eqI f1.1 f1.2.2) then (leI 0 f1.2.1) else false)) (q := false) rfl (by kernel_rfl) hc3 (by kernel_rfl))) ?_
     refine XR 1 ?_
     refine XL_nil ?_
     subst ht6
     kernel_rfl
    ·refine XL_takeC _ rfl rfl (by kernel_rfl) hc4 (X_of_Y0 rfl (E_field (.pt 8 0) Tryd.underlying27 rfl sz3 rfl (by kernel_rfl) (by intro hh; cases hh))) ?_
     refine XL_takeC _ rfl rfl (by kernel_rfl) hc4 (X_of_Y0 rfl (Y0_load1 (c := Ti f1.1) (cs := [Ti f1.2.1, Ti f1.2.2]) sc3 rfl (by kernel_rfl))) ?_
     refine XL_takeC _ rfl rfl (by kernel_rfl) hc4 (X_of_Y0 rfl (E_field (.pt 8 2) Tryd.underlying27 rfl sz3 rfl (by kernel_rfl) (by intro hh; cases hh))) ?_
     refine XL_takeC _ rfl rfl (by kernel_rfl) hc4 (X_of_Y0 rfl (Y0_load1 (c := Ti f1.2.2) (cs := []) sc3 rfl (by kernel_rfl))) ?_
     refine XL_takeC _ rfl rfl (by kernel_rfl) hc4 (X_of_Y0 rfl (Y0_eqw (k := .i64) (a := f1.1) (b := f1.2.2) rfl (by kernel_rfl) (by kernel_rfl))) ?_
     refine XL_takeC _ rfl rfl (by kernel_rfl) hc4 (X_of_Y0 rfl (E_move (Bo (eqI f1.1 f1.2.2)) rfl (by kernel_rfl))) ?_
     refine XL_split (eqI f1.1 f1.2.2) (fun hc5 => ?_) (fun hc5 => ?_)
     ·refine XL_takeC _ rfl rfl (by kernel_rfl) hc5 (X_of_Y0 rfl (E_field (.pt 8 1) Tryd.underlying27 rfl sz3 rfl (by kernel_rfl) (by intro hh; cases hh))) ?_
      refine XL_takeC _ rfl rfl (by kernel_rfl) hc5 (X_of_Y0 rfl (Y0_load1 (c := Ti f1.2.1) (cs := [Ti f1.2.2]) sc3 rfl (by kernel_rfl))) ?_
      refine XL_takeC _ rfl rfl (by kernel_rfl) hc5 (X_of_Y0 rfl (Y0_gew (k := .i64) (a := f1.2.1) (b := 0) rfl (by kernel_rfl) (by kernel_rfl))) ?_
      refine XL_takeC _ rfl rfl (by kernel_rfl) hc4 (X_of_Y0 rfl (Y0_pick1 (b := eqI f1.1 f1.2.2) (p := leI 0 f1.2.1) (q := false) rfl (by kernel_rfl) hc5 (by kernel_rfl))) ?_
      refine XL_takeC _ rfl rfl (by kernel_rfl) hc3 (X_of_Y0 rfl (Y0_pick0 (b := ltI f1.1 f1.2.2) (p := true) (q := bif (eqI f1.1 f1.2.2) then (leI 0 f1.2.1) else false) rfl (by kernel_rfl) hc4 (by kernel_rfl))) ?_
      refine XL_cons rfl (X_of_Y0 rfl (Y0_pick1 (b := y2) (p := bif (ltI f1.1 f1.2.2) then true else (bif (eqI f1.1 f1.2.2) then (leI 0 f1.2.1) else false)) (q := false) rfl (by kernel_rfl) hc3 (by kernel_rfl))) ?_
      refine XR 1 ?_
      refine XL_nil ?_
      subst ht6
      kernel_rfl
     ·refine XL_skipT _ rfl rfl (by kernel_rfl) hc5 rfl ?_
      refine XL_skipT _ rfl rfl (by kernel_rfl) hc5 rfl ?_
      refine XL_skipT _ rfl rfl (by kernel_rfl) hc5 rfl ?_
      refine XL_takeC _ rfl rfl (by kernel_rfl) hc4 (X_of_Y0 rfl (Y0_pick0 (b := eqI f1.1 f1.2.2) (p := leI 0 f1.2.1) (q := false) rfl (by kernel_rfl) hc5 (by kernel_rfl))) ?_
      refine XL_takeC _ rfl rfl (by kernel_rfl) hc3 (X_of_Y0 rfl (Y0_pick0 (b := ltI f1.1 f1.2.2) (p := true) (q := bif (eqI f1.1 f1.2.2) then (leI 0 f1.2.1) else false) rfl (by kernel_rfl) hc4 (by kernel_rfl))) ?_
      refine XL_cons rfl (X_of_Y0 rfl (Y0_pick1 (b := y2) (p := bif (ltI f1.1 f1.2.2) then true else (bif (eqI f1.1 f1.2.2) then (leI 0 f1.2.1) else false)) (q := false) rfl (by kernel_rfl) hc3 (by kernel_rfl))) ?_
      refine XR 1 ?_
      refine XL_nil ?_
      subst ht6
      kernel_rfl
   ·refine XL_skipT _ rfl rfl (by kernel_rfl) hc3 rfl ?_
    refine XL_skipT _ rfl rfl (by kernel_rfl) hc3 rfl ?_
    refine XL_skipT _ rfl rfl (by kernel_rfl) hc3 rfl ?_
    refine XL_skipT _ rfl rfl (by kernel_rfl) hc3 rfl ?_
    refine XL_skipT _ rfl rfl (by kernel_rfl) hc3 rfl ?_
    refine XL_skipT _ rfl rfl (by kernel_rfl) hc3 rfl ?_
    refine XL_skip2 rfl rfl (by kernel_rfl) rfl ?_
    refine XL_skip2 rfl rfl (by kernel_rfl) rfl ?_
    refine XL_skip2 rfl rfl (by kernel_rfl) rfl ?_
    refine XL_skip2 rfl rfl (by kernel_rfl) rfl ?_
    refine XL_skip2 rfl rfl (by kernel_rfl) rfl ?_
    refine XL_skip2 rfl rfl (by kernel_rfl) rfl ?_
    refine XL_skip2 rfl rfl (by kernel_rfl) rfl ?_
    refine XL_skip2 rfl rfl (by kernel_rfl) rfl ?_
    refine XL_skip2 rfl rfl (by kernel_rfl) rfl ?_
    refine XL_skip2 rfl rfl (by kernel_rfl) rfl ?_
    refine XL_skipT _ rfl rfl (by kernel_rfl) hc3 rfl ?_
    refine XL_cons rfl (X_of_Y0 rfl (Y0_pick0 (b := y2) (p := bif (ltI f1.1 f1.2.2) then true else (bif (eqI f1.1 f1.2.2) then (leI 0 f1.2.1) else false)) (q := false) rfl (by kernel_rfl) hc3 (by kernel_rfl))) ?_
    refine XR 1 ?_
    refine XL_nil ?_
    subst ht6
    kernel_rfl
  refine V_ret ?_
  obtain rfl := some_inj h
  show Post _ _ _ _ _
  exact ⟨.inr rfl, rfl, rfl, rfl⟩
theorem cf_impl_mod : ∀ args w, (callFunc 93 args).run Tryd.prog w = .ok (.enter 93 args) w := run_callFunc Tryd.func93 (by kernel_rfl) (by kernel_rfl)
theorem s_impl_mod {a1 : Int} {vm2 : Int} {r : Int} (h : r_impl_mod a1 vm2 = some r) : CallS Tryd.prog 93 [I a1, I vm2] (I r) [] := by
  refine CallS_of_text (rs := [.t 4]) (vs := [.tmp 4]) Tryd.func93 rfl rfl (.cons rfl FitsL.nil) (by decide) 15 rfl ?_
  unfold r_impl_mod at h
  show V _ _ ⟨I a1 :: I vm2 :: bt 13 [], []⟩ _
  refine V_e (mb 15 3) [] (s1 := ⟨I a1 :: I vm2 :: bt 13 [], []⟩) ?_
  obtain ⟨z3, hz3, h⟩ := of_bind h
  obtain ⟨vr4, hvr4, h⟩ := of_sI h
  refine V_sreg (mb 15 34) [] (s1 := ⟨.bot :: I vm2 :: bt 3 (I vr4 :: bt 9 []), []⟩) ?_ ?_
  ·refine XR 2 ?_
   refine L0 rfl rfl (Y0_rem (k := .i64) (a := a1) (b := vm2) rfl (by kernel_rfl) (by kernel_rfl) (nz_some hz3)) ?_
   refine XR 1 ?_
   refine XL_nil ?_
   subst hvr4
   kernel_rfl
  refine V_seq ?_
  refine V_e (mb 15 1058) [] (s1 := ⟨.bot :: I vm2 :: bt 3 (I vr4 :: bt 4 (Bo (ltI vr4 0) :: bt 4 [])), []⟩) ?_
  refine V_cond rfl (fun hc5 => ?_) (fun hc5 => ?_)
  ·have h := of_true h hc5
   obtain ⟨vr6, hvr6, h⟩ := of_sI h
   refine V_reg (mb 15 32) [] (s1 := ⟨bt 5 (I vr6 :: bt 9 []), []⟩) ?_ ?_
   ·refine XR 4 ?_
    refine XL_nil ?_
    subst hvr6
    kernel_rfl
   show V _ _ _ _
   refine V_e (mb 15 16) [] (s1 := ⟨bt 4 (I vr6 :: bt 10 []), []⟩) ?_
   refine V_ret ?_
   obtain rfl := some_inj h
   show Post _ _ _ _ _
   exact ⟨.inr rfl, rfl, rfl, rfl⟩
  ·have h := of_false h hc5
   refine V_skip ?_
   show V _ _ _ _
   refine V_e (mb 15 16) [] (s1 := ⟨bt 4 (I vr4 :: bt 10 []), []⟩) ?_
   refine V_ret ?_
   obtain rfl := some_inj h
   show Post _ _ _ _ _
   exact ⟨.inr rfl, rfl, rfl, rfl⟩
theorem cf_impl_floorDiv : ∀ args w, (callFunc 109 args).run Tryd.prog w = .ok (.enter 109 args) w := run_callFunc Tryd.func109 (by kernel_rfl) (by kernel_rfl)
theorem s_impl_floorDiv {a1 : Int} {vm2 : Int} {r : Int} (h : r_impl_floorDiv a1 vm2 = some r) : CallS Tryd.prog 109 [I a1, I vm2] (I r) [] := by
  refine CallS_of_text (rs := [.t 4]) (vs := [.tmp 4]) Tryd.func109 rfl rfl (.cons rfl FitsL.nil) (by decide) 12 rfl ?_
  unfold r_impl_floorDiv at h
  show V _ _ ⟨I a1 :: I vm2 :: bt 10 [], []⟩ _
  refine V_e (mb 12 3) [] (s1 := ⟨I a1 :: I vm2 :: bt 10 [], []⟩) ?_
  obtain ⟨y3, hy3, h⟩ := of_bind h
  obtain ⟨z4, hz4, h⟩ := of_bind h
  obtain ⟨t5, ht5, h⟩ := of_sI h
  refine V_sreg (mb 12 16) [] (s1 := ⟨bt 4 (I t5 :: bt 7 []), []⟩) ?_ ?_
  ·refine XR 3 ?_
   refine XC (s_impl_mod hy3) cf_impl_mod rfl rfl rfl ?_
   refine XR 2 ?_
   refine L0 rfl rfl (Y0_quo64 (a := w64 (a1 - y3)) (b := vm2) rfl (by kernel_rfl) (by kernel_rfl) (nz_some hz4)) ?_
   refine XR 1 ?_
   refine XL_nil ?_
   subst ht5
   kernel_rfl
  refine V_ret ?_
  obtain rfl := some_inj h
  show Post _ _ _ _ _
  exact ⟨.inr rfl, rfl, rfl, rfl⟩
theorem cf_impl_Form_step : ∀ args w, (callFunc 78 args).run Tryd.prog w = .ok (.enter 78 args) w := run_callFunc Tryd.func78 (by kernel_rfl) (by kernel_rfl)
theorem s_impl_Form_step {f1 : (Int × Int × Int)} {r : (Int × Int × Int × Int)} (h : r_impl_Form_step f1 = some r) : CallS Tryd.prog 78 [.ag [Ti f1.1, Ti f1.2.1, Ti f1.2.2]] (.ag [Ti r.1, Ti r.2.1, Ti r.2.2.1, Ti r.2.2.2]) [] := by
  refine CallS_of_text (rs := [.w 2 4]) (vs := [.cell 2 42]) Tryd.func78 rfl rfl (.cons ⟨rfl, wd42⟩ FitsL.nil) (by decide) 22 rfl ?_
  unfold r_impl_Form_step at h
  show V _ _ ⟨.ag [Ti f1.1, Ti f1.2.1, Ti f1.2.2] :: bt 21 [], []⟩ _
  refine V_e (mb 22 6) [16, 8] (s1 := ⟨.bot :: .pt 8 0 :: .pt 16 0 :: bt 19 [], [(16, .box [Ti 0, Ti 0, Ti 0, Ti 0]), (8, .box [Ti f1.1, Ti f1.2.1, Ti f1.2.2])]⟩) ?_
  refine V_seq ?_
  refine V_block ?_
  obtain ⟨y2, hy2, h⟩ := of_bind h
  refine V_sreg (mb 22 14) [16, 8] (s1 := ⟨.bot :: .pt 8 0 :: .pt 16 0 :: Bo y2 :: bt 18 [], [(16, .box [Ti 0, Ti 0, Ti 0, Ti 0]), (8, .box [Ti f1.1, Ti f1.2.1, Ti f1.2.2])]⟩) ?_ ?_
  ·refine XR 1 ?_
   refine XC (s_impl_Form_isReduced hy2) cf_impl_Form_isReduced rfl rfl rfl ?_
   exact XE
  refine V_cond rfl (fun hc3 => ?_) (fun hc3 => ?_)
  ·have h := of_true h hc3
   obtain ⟨y4, hy4, h⟩ := of_bind h
   refine V_sreg (mb 22 4) [16] (s1 := ⟨.bot :: .bot :: .pt 16 0 :: bt 19 [], [(16, .box [Ti y4.1, Ti y4.2.1, Ti y4.2.2.1, Ti y4.2.2.2])]⟩) ?_ ?_
   ·refine XC (s_impl_one hy4) cf_impl_one rfl rfl rfl ?_
    exact XE
   refine V_ret ?_
   obtain rfl := some_inj h
   show Post _ _ _ _ _
   exact ⟨.inr rfl, rfl, rfl, rfl⟩
  ·have h := of_false h hc3
   obtain ⟨y5, hy5, h⟩ := of_bind h
   refine V_sreg (mb 22 134) [16, 8] (s1 := ⟨.bot :: .pt 8 0 :: .pt 16 0 :: bt 4 (Bo (!y5) :: bt 14 []), [(16, .box [Ti 0, Ti 0, Ti 0, Ti 0]), (8, .box [Ti f1.1, Ti f1.2.1, Ti f1.2.2])]⟩) ?_ ?_
   ·refine XR 1 ?_
    refine XC (s_impl_Form_isNormal hy5) cf_impl_Form_isNormal rfl rfl rfl ?_
    exact XE
   refine V_cond rfl (fun hc6 => ?_) (fun hc6 => ?_)
   ·have h := of_true h hc6
    obtain ⟨y7, hy7, h⟩ := of_bind h
    refine V_sreg (mb 22 4) [16] (s1 := ⟨.bot :: .bot :: .pt 16 0 :: bt 19 [], [(16, .box [Ti 1, Ti y7, Ti 0, Ti 1])]⟩) ?_ ?_
    ·refine XR 8 ?_
     refine XC (s_impl_floorDiv hy7) cf_impl_floorDiv rfl rfl rfl ?_
     refine L0 rfl rfl (Y0_build (cs := [Ti 1, Ti y7, Ti 0, Ti 1]) pl42 bt42 rfl rfl (by kernel_rfl)) ?_
     exact XE
    refine V_ret ?_
    obtain rfl := some_inj h
    show Post _ _ _ _ _
    exact ⟨.inr rfl, rfl, rfl, rfl⟩
   ·have h := of_false h hc6
    refine V_skip ?_
    show V _ _ _ _
    refine V_sreg (mb 22 4) [16] (s1 := ⟨.bot :: .bot :: .pt 16 0 :: bt 19 [], [(16, .box [Ti 0, Ti (-1), Ti 1, Ti 0])]⟩) ?_ ?_
    ·refine L0 rfl rfl (Y0_build (cs := [Ti 0, Ti (-1), Ti 1, Ti 0]) pl42 bt42 rfl rfl (by kernel_rfl)) ?_
     exact XE
    refine V_ret ?_
    obtain rfl := some_inj h
    show Post _ _ _ _ _
    exact ⟨.inr rfl, rfl, rfl, rfl⟩
theorem cf_impl_Form_at : ∀ args w, (callFunc 110 args).run Tryd.prog w = .ok (.enter 110 args) w := run_callFunc Tryd.func110 (by kernel_rfl) (by kernel_rfl)
theorem s_impl_Form_at {f1 : (Int × Int × Int)} {x2 : Int} {y3 : Int} {r : Int} (h : r_impl_Form_at f1 x2 y3 = some r) : CallS Tryd.prog 110 [.ag [Ti f1.1, Ti f1.2.1, Ti f1.2.2], I x2, I y3] (I r) [] := by
  refine CallS_of_text (rs := [.t 6]) (vs := [.tmp 6]) Tryd.func110 rfl rfl (.cons rfl FitsL.nil) (by decide) 27 rfl ?_
  unfold r_impl_Form_at at h
  show V _ _ ⟨.ag [Ti f1.1, Ti f1.2.1, Ti f1.2.2] :: I x2 :: I y3 :: bt 24 [], []⟩ _
  refine V_e (mb 27 14) [24] (s1 := ⟨.bot :: I x2 :: I y3 :: .pt 24 0 :: bt 23 [], [(24, .box [Ti f1.1, Ti f1.2.1, Ti f1.2.2])]⟩) ?_
  obtain ⟨t4, ht4, h⟩ := of_sI h
  refine V_sreg (mb 27 64) [] (s1 := ⟨bt 6 (I t4 :: bt 20 []), []⟩) ?_ ?_
  ·refine XR 21 ?_
   refine XL_nil ?_
   subst ht4
   kernel_rfl
  refine V_ret ?_
  obtain rfl := some_inj h
  show Post _ _ _ _ _
  exact ⟨.inr rfl, rfl, rfl, rfl⟩
theorem cf_impl_Form_polar : ∀ args w, (callFunc 111 args).run Tryd.prog w = .ok (.enter 111 args) w := run_callFunc Tryd.func111 (by kernel_rfl) (by kernel_rfl)
theorem s_impl_Form_polar {f1 : (Int × Int × Int)} {x2 : Int} {y3 : Int} {u4 : Int} {v5 : Int} {r : Int} (h : r_impl_Form_polar f1 x2 y3 u4 v5 = some r) : CallS Tryd.prog 111 [.ag [Ti f1.1, Ti f1.2.1, Ti f1.2.2], I x2, I y3, I u4, I v5] (I r) [] := by
  refine CallS_of_text (rs := [.t 10]) (vs := [.tmp 10]) Tryd.func111 rfl rfl (.cons rfl FitsL.nil) (by decide) 37 rfl ?_
  unfold r_impl_Form_polar at h
  show V _ _ ⟨.ag [Ti f1.1, Ti f1.2.1, Ti f1.2.2] :: I x2 :: I y3 :: I u4 :: I v5 :: bt 32 [], []⟩ _
  refine V_e (mb 37 62) [40] (s1 := ⟨.bot :: I x2 :: I y3 :: I u4 :: I v5 :: .pt 40 0 :: bt 31 [], [(40, .box [Ti f1.1, Ti f1.2.1, Ti f1.2.2])]⟩) ?_
  obtain ⟨t6, ht6, h⟩ := of_sI h
  refine V_sreg (mb 37 1024) [] (s1 := ⟨bt 10 (I t6 :: bt 26 []), []⟩) ?_ ?_
  ·refine XR 27 ?_
   refine XL_nil ?_
   subst ht6
   kernel_rfl
  refine V_ret ?_
  obtain rfl := some_inj h
  show Post _ _ _ _ _
  exact ⟨.inr rfl, rfl, rfl, rfl⟩
theorem cf_impl_Form_substitute : ∀ args w, (callFunc 79 args).run Tryd.prog w = .ok (.enter 79 args) w := run_callFunc Tryd.func79 (by kernel_rfl) (by kernel_rfl)
theorem s_impl_Form_substitute {f1 : (Int × Int × Int)} {vm2 : (Int × Int × Int × Int)} {r : (Int × Int × Int)} (h : r_impl_Form_substitute f1 vm2 = some r) : CallS Tryd.prog 79 [.ag [Ti f1.1, Ti f1.2.1, Ti f1.2.2], .ag [Ti vm2.1, Ti vm2.2.1, Ti vm2.2.2.1, Ti vm2.2.2.2]] (.ag [Ti r.1, Ti r.2.1, Ti r.2.2]) [] := by
  refine CallS_of_text (rs := [.w 4 3]) (vs := [.cell 4 27]) Tryd.func79 rfl rfl (.cons ⟨rfl, wd27⟩ FitsL.nil) (by decide) 28 rfl ?_
  unfold r_impl_Form_substitute at h
  show V _ _ ⟨.ag [Ti f1.1, Ti f1.2.1, Ti f1.2.2] :: .ag [Ti vm2.1, Ti vm2.2.1, Ti vm2.2.2.1, Ti vm2.2.2.2] :: bt 26 [], []⟩ _
  refine V_e (mb 28 28) [32, 24, 16] (s1 := ⟨.bot :: .bot :: .pt 16 0 :: .pt 24 0 :: .pt 32 0 :: bt 23 [], [(32, .box [Ti 0, Ti 0, Ti 0]), (24, .box [Ti vm2.1, Ti vm2.2.1, Ti vm2.2.2.1, Ti vm2.2.2.2]), (16, .box [Ti f1.1, Ti f1.2.1, Ti f1.2.2])]⟩) ?_
  obtain ⟨y3, hy3, h⟩ := of_bind h
  obtain ⟨y4, hy4, h⟩ := of_bind h
  obtain ⟨y5, hy5, h⟩ := of_bind h
  refine V_sdreg [0, 0, 2, 0, 8, 31, 0, 0, 128, 0, 512, 0, 2048, 0, 8192, 32767, 0, 0, 131072, 0, 524288, 2097151, 4194303, 8388607] 23 (cdm 23 [2929883521704, 2929883521666, 2929883521670, 2929883521066, 2929883521130, 2929883521365, 2929883515562, 2929883359914, 2929883376298, 2929880902314, 2929881164458, 2929841580714, 2929845775018, 2929212435114, 2929279543978, 2929525609813, 2923441072810, 2760232315562, 2777412184746, 183251937962, 458129844906, 1466015503701, 5864062014805]) (mb 28 16) [32] (s1 := ⟨bt 4 (.pt 32 0 :: bt 23 []), [(32, .box [Ti y3, Ti y4, Ti y5])]⟩) (by kernel_rfl) (by kernel_rfl) ?_ ?_
  ·refine DR 5 ?_
   refine DC 5 (s_impl_Form_at hy3) cf_impl_Form_at rfl rfl rfl rfl 10 rfl ?_
   refine DR 9 ?_
   refine DC 15 (s_impl_Form_polar hy4) cf_impl_Form_polar rfl rfl rfl rfl 20 rfl ?_
   refine DR 5 ?_
   refine DC 21 (s_impl_Form_at hy5) cf_impl_Form_at rfl rfl rfl rfl 26 rfl ?_
   refine DE_0 22 (.ag [Ti y3, Ti y4, Ti y5]) (by kernel_rfl) rfl rfl rfl (gsat_none rfl) (by kernel_rfl) (Y0_build (cs := [Ti y3, Ti y4, Ti y5]) pl27 bt27 rfl rfl (by kernel_rfl)) 27 rfl ?_
   refine DA 0 ?_
   exact XE
  refine V_ret ?_
  obtain rfl := some_inj h
  show Post _ _ _ _ _
  exact ⟨.inr rfl, rfl, rfl, rfl⟩
theorem cf_impl_Matrix_times : ∀ args w, (callFunc 48 args).run Tryd.prog w = .ok (.enter 48 args) w := run_callFunc Tryd.func48 (by kernel_rfl) (by kernel_rfl)
theorem s_impl_Matrix_times {vm1 : (Int × Int × Int × Int)} {vn2 : (Int × Int × Int × Int)} {r : (Int × Int × Int × Int)} (h : r_impl_Matrix_times vm1 vn2 = some r) : CallS Tryd.prog 48 [.ag [Ti vm1.1, Ti vm1.2.1, Ti vm1.2.2.1, Ti vm1.2.2.2], .ag [Ti vn2.1, Ti vn2.2.1, Ti vn2.2.2.1, Ti vn2.2.2.2]] (.ag [Ti r.1, Ti r.2.1, Ti r.2.2.1, Ti r.2.2.2]) [] := by
  refine CallS_of_text (rs := [.w 4 4]) (vs := [.cell 4 42]) Tryd.func48 rfl rfl (.cons ⟨rfl, wd42⟩ FitsL.nil) (by decide) 50 rfl ?_
  unfold r_impl_Matrix_times at h
  show V _ _ ⟨.ag [Ti vm1.1, Ti vm1.2.1, Ti vm1.2.2.1, Ti vm1.2.2.2] :: .ag [Ti vn2.1, Ti vn2.2.1, Ti vn2.2.2.1, Ti vn2.2.2.2] :: bt 48 [], []⟩ _
  refine V_e (mb 50 28) [32, 24, 16] (s1 := ⟨.bot :: .bot :: .pt 16 0 :: .pt 24 0 :: .pt 32 0 :: bt 45 [], [(32, .box [Ti 0, Ti 0, Ti 0, Ti 0]), (24, .box [Ti vn2.1, Ti vn2.2.1, Ti vn2.2.2.1, Ti vn2.2.2.2]), (16, .box [Ti vm1.1, Ti vm1.2.1, Ti vm1.2.2.1, Ti vm1.2.2.2])]⟩) ?_
  obtain ⟨f3, hf3, h⟩ := of_sI h
  obtain ⟨f4, hf4, h⟩ := of_sI h
  obtain ⟨f5, hf5, h⟩ := of_sI h
  obtain ⟨f6, hf6, h⟩ := of_sI h
  refine V_sreg (mb 50 16) [32] (s1 := ⟨bt 4 (.pt 32 0 :: bt 45 []), [(32, .box [Ti f3, Ti f4, Ti f5, Ti f6])]⟩) ?_ ?_
  ·refine XR 44 ?_
   refine L0 rfl rfl (Y0_build (cs := [Ti (w64 ((w64 (vm1.1 * vn2.1)) + (w64 (vm1.2.1 * vn2.2.2.1)))), Ti (w64 ((w64 (vm1.1 * vn2.2.1)) + (w64 (vm1.2.1 * vn2.2.2.2)))), Ti (w64 ((w64 (vm1.2.2.1 * vn2.1)) + (w64 (vm1.2.2.2 * vn2.2.2.1)))), Ti (w64 ((w64 (vm1.2.2.1 * vn2.2.1)) + (w64 (vm1.2.2.2 * vn2.2.2.2))))]) pl42 bt42 rfl rfl (by kernel_rfl)) ?_
   refine XR 1 ?_
   refine XL_nil ?_
   subst hf3 hf4 hf5 hf6
   kernel_rfl
  refine V_ret ?_
  obtain rfl := some_inj h
  show Post _ _ _ _ _
  exact ⟨.inr rfl, rfl, rfl, rfl⟩
theorem cf_impl_reduce : ∀ args w, (callFunc 46 args).run Tryd.prog w = .ok (.enter 46 args) w := run_callFunc Tryd.func46 (by kernel_rfl) (by kernel_rfl)
theorem s_impl_reduce {f1 : (Int × Int × Int)} {r : (((Int × Int × Int)) × ((Int × Int × Int × Int)))} (h : r_impl_reduce f1 = some r) : CallS Tryd.prog 46 [.ag [Ti f1.1, Ti f1.2.1, Ti f1.2.2]] (.tc (.ag [Ti r.1.1, Ti r.1.2.1, Ti r.1.2.2]) (.tc (.ag [Ti r.2.1, Ti r.2.2.1, Ti r.2.2.2.1, Ti r.2.2.2.2]) .tn)) [] := by
  refine CallS_of_text (rs := [.w 2 3, .w 3 4]) (vs := [.cell 2 27, .cell 3 42]) Tryd.func46 rfl rfl (.cons ⟨rfl, wd27⟩ (.cons ⟨rfl, wd42⟩ FitsL.nil)) (by decide) 20 rfl ?_
  unfold r_impl_reduce at h
  show V _ _ ⟨.ag [Ti f1.1, Ti f1.2.1, Ti f1.2.2] :: bt 19 [], []⟩ _
  refine V_e (mb 20 14) [24, 16, 8] (s1 := ⟨.bot :: .pt 8 0 :: .pt 16 0 :: .pt 24 0 :: bt 16 [], [(24, .box [Ti 0, Ti 0, Ti 0, Ti 0]), (16, .box [Ti 0, Ti 0, Ti 0]), (8, .box [Ti f1.1, Ti f1.2.1, Ti f1.2.2])]⟩) ?_
  obtain ⟨y2, hy2, h⟩ := of_bind h
  refine V_sreg (mb 20 30) [32, 24, 16, 8] (s1 := ⟨.bot :: .pt 8 0 :: .pt 16 0 :: .pt 24 0 :: .pt 32 0 :: bt 15 [], [(32, .box [Ti y2.1, Ti y2.2.1, Ti y2.2.2.1, Ti y2.2.2.2]), (24, .box [Ti 0, Ti 0, Ti 0, Ti 0]), (16, .box [Ti 0, Ti 0, Ti 0]), (8, .box [Ti f1.1, Ti f1.2.1, Ti f1.2.2])]⟩) ?_ ?_
  ·refine XC (s_impl_one hy2) cf_impl_one rfl rfl rfl ?_
   exact XE
  refine V_seq ?_
  obtain ⟨o11, hLo11, h⟩ := of_bind h
  refine V_toK (mb 20 30) [32, 24, 16, 8] (s1 := ⟨.bot :: .pt 8 0 :: .pt 16 0 :: .pt 24 0 :: .pt 32 0 :: bt 15 [], [(32, .box [Ti o11.1, Ti o11.2.1, Ti o11.2.2.1, Ti o11.2.2.2.1]), (24, .box [Ti 0, Ti 0, Ti 0, Ti 0]), (16, .box [Ti 0, Ti 0, Ti 0]), (8, .box [Ti o11.2.2.2.2.1, Ti o11.2.2.2.2.2.1, Ti o11.2.2.2.2.2.2])]⟩) ?_ ?_
  ·clear h
   refine V_block (V_loop (fun n s => ∃ (f3 : Int) (f4 : Int) (f5 : Int) (f6 : Int) (f7 : Int) (f8 : Int) (f9 : Int), s.keep (mb 20 30) [32, 24, 16, 8] = (⟨.bot :: .pt 8 0 :: .pt 16 0 :: .pt 24 0 :: .pt 32 0 :: bt 15 [], [(32, .box [Ti f3, Ti f4, Ti f5, Ti f6]), (24, .box [Ti 0, Ti 0, Ti 0, Ti 0]), (16, .box [Ti 0, Ti 0, Ti 0]), (8, .box [Ti f7, Ti f8, Ti f9])]⟩ : St) ∧ r_impl_reduce_L10 n f3 f4 f5 f6 f7 f8 f9 = some o11) FU ⟨_, _, _, _, _, _, _,  by rfl, hLo11⟩ ?_)
   clear hLo11
   rintro n s ⟨f3, f4, f5, f6, f7, f8, f9, hs, h⟩
   refine V_keep _ _ hs ?_
   clear hs
   cases n with
   | zero => cases h
   | succ n =>
    rw [r_impl_reduce_L10] at h
    refine V_seq ?_
    obtain ⟨y12, hy12, h⟩ := of_bind h
    refine V_sreg (mb 20 542) [32, 24, 16, 8] (s1 := ⟨.bot :: .pt 8 0 :: .pt 16 0 :: .pt 24 0 :: .pt 32 0 :: bt 4 (Bo (!y12) :: bt 10 []), [(32, .box [Ti f3, Ti f4, Ti f5, Ti f6]), (24, .box [Ti 0, Ti 0, Ti 0, Ti 0]), (16, .box [Ti 0, Ti 0, Ti 0]), (8, .box [Ti f7, Ti f8, Ti f9])]⟩) ?_ ?_
    ·refine XR 1 ?_
     refine XC (s_impl_Form_isReduced hy12) cf_impl_Form_isReduced rfl rfl rfl ?_
     exact XE
    refine V_cond rfl (fun hc13 => ?_) (fun hc13 => ?_)
    ·have h := of_true h hc13
     refine V_skip ?_
     show V _ _ _ _
     refine V_block ?_
     obtain ⟨y14, hy14, h⟩ := of_bind h
     refine V_sreg (mb 20 62) [40, 32, 24, 16, 8] (s1 := ⟨.bot :: .pt 8 0 :: .pt 16 0 :: .pt 24 0 :: .pt 32 0 :: .pt 40 0 :: bt 14 [], [(40, .box [Ti y14.1, Ti y14.2.1, Ti y14.2.2.1, Ti y14.2.2.2]), (32, .box [Ti f3, Ti f4, Ti f5, Ti f6]), (24, .box [Ti 0, Ti 0, Ti 0, Ti 0]), (16, .box [Ti 0, Ti 0, Ti 0]), (8, .box [Ti f7, Ti f8, Ti f9])]⟩) ?_ ?_
     ·refine XR 1 ?_
      refine XC (s_impl_Form_step hy14) cf_impl_Form_step rfl rfl rfl ?_
      exact XE
     obtain ⟨y15, hy15, h⟩ := of_bind h
     refine V_sreg (mb 20 62) [40, 32, 24, 16, 8] (s1 := ⟨.bot :: .pt 8 0 :: .pt 16 0 :: .pt 24 0 :: .pt 32 0 :: .pt 40 0 :: bt 14 [], [(40, .box [Ti y14.1, Ti y14.2.1, Ti y14.2.2.1, Ti y14.2.2.2]), (32, .box [Ti f3, Ti f4, Ti f5, Ti f6]), (24, .box [Ti 0, Ti 0, Ti 0, Ti 0]), (16, .box [Ti 0, Ti 0, Ti 0]), (8, .box [Ti y15.1, Ti y15.2.1, Ti y15.2.2])]⟩) ?_ ?_
     ·refine XR 2 ?_
      refine XC (s_impl_Form_substitute hy15) cf_impl_Form_substitute rfl rfl rfl ?_
      exact XE
     obtain ⟨y16, hy16, h⟩ := of_bind h
     refine V_reg (mb 20 30) [32, 24, 16, 8] (s1 := ⟨.bot :: .pt 8 0 :: .pt 16 0 :: .pt 24 0 :: .pt 32 0 :: bt 15 [], [(32, .box [Ti y16.1, Ti y16.2.1, Ti y16.2.2.1, Ti y16.2.2.2]), (24, .box [Ti 0, Ti 0, Ti 0, Ti 0]), (16, .box [Ti 0, Ti 0, Ti 0]), (8, .box [Ti y15.1, Ti y15.2.1, Ti y15.2.2])]⟩) ?_ ?_
     ·refine XR 2 ?_
      refine XC (s_impl_Matrix_times hy16) cf_impl_Matrix_times rfl rfl rfl ?_
      exact XE
     exact ⟨n, Nat.lt_succ_self n, _, _, _, _, _, _, _,  by rfl, h⟩
    ·have h := of_false h hc13
     refine V_exit ?_
     obtain rfl := some_inj h
     show St.keep _ _ _ = _
     rfl
  show V _ _ _ _
  refine V_sdreg [0, 0, 1, 7] 3 [[.z, .b, .z], [.b, .z, .r 16], [.a, .b, .z]] (mb 20 12) [24, 16] (s1 := ⟨.bot :: .bot :: .pt 16 0 :: .pt 24 0 :: bt 16 [], [(24, .box [Ti o11.1, Ti o11.2.1, Ti o11.2.2.1, Ti o11.2.2.2.1]), (16, .box [Ti o11.2.2.2.2.1, Ti o11.2.2.2.2.2.1, Ti o11.2.2.2.2.2.2])]⟩) (by kernel_rfl) (by kernel_rfl) ?_ ?_
  ·refine DA 3 ?_
   exact XE
  refine V_ret ?_
  obtain rfl := some_inj h
  show Post _ _ _ _ _
  exact ⟨.inr rfl, rfl, rfl, rfl⟩
theorem v_impl_Form_turns {f1 o6 : List ((Int × Int × Int × Int))} {J : Exit → St → Prop} (hne : f1 ≠ []) (h : r_impl_Form_turns_V f1 FU 0 [] = some o6) : V Tryd.prog (vloop Tryd.f47) ⟨bt 3 (.ow 56 :: bt 66 []), [(56, .arr 42 4 (f1.map c42))]⟩ (thenA (fun s' => s'.keep (mb 70 8) [56] = ⟨bt 3 (.ow 56 :: bt 66 []), [(56, .arr 42 4 ((f1 ++ o6).map c42))]⟩) J) := by
  refine V_sreg (mb 70 492581209243656) [56] (s1 := ⟨bt 3 (.ow 56 :: bt 42 (.vw 56 (f1.map c42) none :: I ((f1.length : Int)) :: I 0 :: bt 21 [])), [(56, .arr 42 4 (f1.map c42))]⟩) ?_ ?_
  ·refine XR 2 ?_
   refine L0 rfl rfl (Y0_lenM (c := c42) (xs := f1) Tryd.underlying39 rfl (by kernel_rfl)) ?_
   refine XR 1 ?_
   refine L0 rfl rfl (Y0_lenM (c := c42) (xs := f1) Tryd.underlying39 rfl (by kernel_rfl)) ?_
   refine L0 rfl rfl (Y0_viewM (c := c42) (xs := f1) (id := 56) (T := 42) Tryd.underlying39 sz42 rfl (by kernel_rfl) (by kernel_rfl) hne (by kernel_rfl) (by kernel_rfl)) ?_
   refine L0 rfl rfl (Y0_lenVM (c := c42) (xs := f1) (id := 56) Tryd.underlying39 rfl (by kernel_rfl)) ?_
   exact XE
  refine V_block (V_loop (fun n s => ∃ (t3 : Int) (l4 : List ((Int × Int × Int × Int))), s.keep (mb 70 492581209243656) [56] = (⟨bt 3 (.ow 56 :: bt 42 (.vw 56 (f1.map c42) none :: I ((f1.length : Int)) :: I t3 :: bt 21 [])), [(56, .arr 42 4 ((f1 ++ l4).map c42))]⟩ : St) ∧ r_impl_Form_turns_V f1 n t3 l4 = some o6) FU ⟨0, [], by rw [List.append_nil]; rfl, h⟩ ?_)
  clear h
  rintro n s ⟨t3, l4, hs, h⟩
  refine V_keep _ _ hs ?_
  clear hs
  cases n with
  | zero => cases h
  | succ n =>
   rw [r_impl_Form_turns_V] at h
   refine V_e (mb 70 1055531162664968) [56] (s1 := ⟨bt 3 (.ow 56 :: bt 42 (.vw 56 (f1.map c42) none :: I ((f1.length : Int)) :: I t3 :: Bo (ltI t3 ((f1.length : Int))) :: bt 20 [])), [(56, .arr 42 4 ((f1 ++ l4).map c42))]⟩) ?_
   refine V_seq ?_
   refine V_cond rfl (fun hc7 => ?_) (fun hc7 => ?_)
   ·have h := of_true h hc7
    refine V_skip ?_
    show V _ _ _ _
    refine V_seq ?_
    refine V_block ?_
    obtain ⟨e8, he8, h⟩ := of_bind h
    refine V_sreg (mb 70 492581209243688) [40, 56] (s1 := ⟨bt 3 (.ow 56 :: .bot :: .pt 40 0 :: bt 40 (.vw 56 (f1.map c42) none :: I ((f1.length : Int)) :: I t3 :: bt 21 [])), [(40, .box [Ti e8.1, Ti e8.2.1, Ti e8.2.2.1, Ti e8.2.2.2]), (56, .arr 42 4 ((f1 ++ l4).map c42))]⟩) ?_ ?_
    ·refine L0 rfl rfl (Y0_idxVM (c := c42) (xs := f1) (v := e8) (n := t3) (id := 56) Tryd.underlying39 sz42 (fun _ => rfl) rfl (by kernel_rfl) (by kernel_rfl) he8) ?_
     refine L0 rfl rfl (Y0_loadVM (T := 42) (sz := 4) (c := c42) (xs := f1) (ys := l4) (v := e8) (n := t3) (id := 56) [Ti e8.1, Ti e8.2.1, Ti e8.2.2.1, Ti e8.2.2.2] wd42 rfl (by kernel_rfl) (by kernel_rfl) he8 rfl rfl) ?_
     exact XE
    obtain ⟨u9, hu9, h⟩ := of_bind h
    refine V_reg (mb 70 492581209243656) [56] (s1 := ⟨bt 3 (.ow 56 :: bt 42 (.vw 56 (f1.map c42) none :: I ((f1.length : Int)) :: I t3 :: bt 21 [])), [(56, .arr 42 4 ((f1 ++ (l4 ++ ([(w64 (0 - e8.1), w64 (0 - e8.2.1), w64 (0 - e8.2.2.1), w64 (0 - e8.2.2.2))]))).map c42))]⟩) ?_ ?_
    ·refine XR 13 ?_
     refine L0 rfl rfl (Y0_build (cs := [Ti (w64 (0 - e8.1)), Ti (w64 (0 - e8.2.1)), Ti (w64 (0 - e8.2.2.1)), Ti (w64 (0 - e8.2.2.2))]) pl42 bt42 rfl rfl (by kernel_rfl)) ?_
     refine L1 rfl rfl (Y1_bslice (z := zv42) (els := [(w64 (0 - e8.1), w64 (0 - e8.2.1), w64 (0 - e8.2.2.1), w64 (0 - e8.2.2.2))].map c42) Tryd.underlying39 iz42 rfl (by decide) rfl (by kernel_rfl) rfl (by simp [c42]) (by decide) (by decide)) ?_
     refine XL_cons rfl (X_appendVM (sz := 4) (c := c42) (xs := f1) (ys := l4) (zs := [(w64 (0 - e8.1), w64 (0 - e8.2.1), w64 (0 - e8.2.2.1), w64 (0 - e8.2.2.2))]) (id := 56) (z := zv42) 46 rfl rfl Tryd.underlying39 izb42 rfl (by kernel_rfl) (by kernel_rfl) (by kernel_rfl) (fun _ => rfl) (by simp) (room_some hu9) (by decide) (by kernel_rfl) (by decide)) ?_
     exact XE
    show V _ _ _ _
    obtain ⟨t11, ht11, h⟩ := of_sI h
    refine V_reg (mb 70 492581209243656) [56] (s1 := ⟨bt 3 (.ow 56 :: bt 42 (.vw 56 (f1.map c42) none :: I ((f1.length : Int)) :: I t11 :: bt 21 [])), [(56, .arr 42 4 ((f1 ++ (l4 ++ ([(w64 (0 - e8.1), w64 (0 - e8.2.1), w64 (0 - e8.2.2.1), w64 (0 - e8.2.2.2))]))).map c42))]⟩) ?_ ?_
    ·refine XR 2 ?_
     refine XL_nil ?_
     subst ht11
     kernel_rfl
    exact ⟨n, Nat.lt_succ_self n, _, _,  by rfl, h⟩
   ·have h := of_false h hc7
    refine V_exit ?_
    obtain rfl := some_inj h
    show St.keep _ _ _ = _
    rfl
theorem cf_impl_Form_turns : ∀ args w, (callFunc 47 args).run Tryd.prog w = .ok (.enter 47 args) w := run_callFunc Tryd.func47 (by kernel_rfl) (by kernel_rfl)
theorem s_impl_Form_turns {f1 : (Int × Int × Int)} {r : List ((Int × Int × Int × Int))} (h : r_impl_Form_turns f1 = some r) : CallS Tryd.prog 47 [.ag [Ti f1.1, Ti f1.2.1, Ti f1.2.2]] (.ow 0) [(0, .arr 42 4 (r.map c42))] := by
  refine CallS_of_text (rs := [.t 2]) (vs := [.tmp 2]) Tryd.func47 rfl rfl (.cons rfl FitsL.nil) (by decide) 70 rfl ?_
  unfold r_impl_Form_turns at h
  show V _ _ ⟨.ag [Ti f1.1, Ti f1.2.1, Ti f1.2.2] :: bt 69 [], []⟩ _
  refine V_sreg (mb 70 2) [8] (s1 := ⟨.bot :: .pt 8 0 :: bt 68 [], [(8, .box [Ti f1.1, Ti f1.2.1, Ti f1.2.2])]⟩) ?_ ?_
  ·refine XR 1 ?_
   refine L1 rfl rfl (Y1_nil (e := 42) 4 (by decide) (.inl rfl)) ?_
   exact XE
  obtain ⟨y2, hy2, h⟩ := of_bind h
  refine V_sreg (mb 70 10) [56, 8] (s1 := ⟨.bot :: .pt 8 0 :: .bot :: .ow 56 :: bt 66 [], [(56, .arr 42 4 (([y2]).map c42)), (8, .box [Ti f1.1, Ti f1.2.1, Ti f1.2.2])]⟩) ?_ ?_
  ·refine XC (s_impl_one hy2) cf_impl_one rfl rfl rfl ?_
   refine L1 rfl rfl (Y1_bslice (z := zv42) (els := [y2].map c42) Tryd.underlying39 iz42 rfl (by decide) rfl (by kernel_rfl) rfl (by simp [c42]) (by decide) (by decide)) ?_
   exact XE
  refine V_seq ?_
  refine V_block ?_
  refine V_sreg (mb 70 266) [56, 8] (s1 := ⟨.bot :: .pt 8 0 :: .bot :: .ow 56 :: bt 4 (Bo (bif (eqI f1.1 f1.2.2) then (eqI f1.2.1 0) else false) :: bt 61 []), [(56, .arr 42 4 (([y2]).map c42)), (8, .box [Ti f1.1, Ti f1.2.1, Ti f1.2.2])]⟩) ?_ ?_
  ·refine XR 6 ?_
   refine XL_split (eqI f1.1 f1.2.2) (fun hc3 => ?_) (fun hc3 => ?_)
   ·refine XL_takeC _ rfl rfl (by kernel_rfl) hc3 (X_of_Y0 rfl (E_field (.pt 8 1) Tryd.underlying27 rfl sz3 rfl (by kernel_rfl) (by intro hh; cases hh))) ?_
    refine XL_takeC _ rfl rfl (by kernel_rfl) hc3 (X_of_Y0 rfl (Y0_load1 (c := Ti f1.2.1) (cs := [Ti f1.2.2]) sc3 rfl (by kernel_rfl))) ?_
    refine XL_takeC _ rfl rfl (by kernel_rfl) hc3 (X_of_Y0 rfl (Y0_eqw (k := .i64) (a := f1.2.1) (b := 0) rfl (by kernel_rfl) (by kernel_rfl))) ?_
    refine XL_cons rfl (X_of_Y0 rfl (Y0_pick1 (b := eqI f1.1 f1.2.2) (p := eqI f1.2.1 0) (q := false) rfl (by kernel_rfl) hc3 (by kernel_rfl))) ?_
    exact XE
   ·refine XL_skipT _ rfl rfl (by kernel_rfl) hc3 rfl ?_
    refine XL_skipT _ rfl rfl (by kernel_rfl) hc3 rfl ?_
    refine XL_skipT _ rfl rfl (by kernel_rfl) hc3 rfl ?_
    refine XL_cons rfl (X_of_Y0 rfl (Y0_pick0 (b := eqI f1.1 f1.2.2) (p := eqI f1.2.1 0) (q := false) rfl (by kernel_rfl) hc3 (by kernel_rfl))) ?_
    exact XE
  refine V_cond rfl (fun hc4 => ?_) (fun hc4 => ?_)
  ·have h := of_true h hc4
   obtain ⟨u5, hu5, h⟩ := of_bind h
   refine V_reg (mb 70 8) [56] (s1 := ⟨bt 3 (.ow 56 :: bt 66 []), [(56, .arr 42 4 ((([y2]) ++ ([(0, -1, 1, 0)])).map c42))]⟩) ?_ ?_
   ·refine XR 1 ?_
    refine L0 rfl rfl (Y0_build (cs := [Ti 0, Ti (-1), Ti 1, Ti 0]) pl42 bt42 rfl rfl (by kernel_rfl)) ?_
    refine L1 rfl rfl (Y1_bslice (z := zv42) (els := [(0, -1, 1, 0)].map c42) Tryd.underlying39 iz42 rfl (by decide) rfl (by kernel_rfl) rfl (by simp [c42]) (by decide) (by decide)) ?_
    refine XL_cons rfl (X_appendM (c := c42) (xs := [y2]) (ys := [(0, -1, 1, 0)]) (id := 56) (z := zv42) rfl rfl Tryd.underlying39 izb42 rfl (by kernel_rfl) (by kernel_rfl) (by kernel_rfl) (fun _ => rfl) (by simp) (room_some hu5) (by decide)) ?_
    exact XE
   show V _ _ _ _
   obtain ⟨oV, hoV, h⟩ := of_bind h
   refine V_keep (mb 70 8) [56] (s' := ⟨bt 3 (.ow 56 :: bt 66 []), [(56, .arr 42 4 ((([y2]) ++ ([(0, -1, 1, 0)])).map c42))]⟩) (by rfl) ?_
   refine V_cutK (mb 70 8) [56] (v_impl_Form_turns (by simp) hoV) ?_
   refine V_e (mb 70 4) [56] (s1 := ⟨.bot :: .bot :: .ow 56 :: bt 67 [], [(56, .arr 42 4 (((([y2]) ++ ([(0, -1, 1, 0)])) ++ oV).map c42))]⟩) ?_
   refine V_ret ?_
   obtain rfl := some_inj h
   show Post _ _ _ _ _
   exact ⟨.inr rfl, rfl, rfl, rfl⟩
  ·have h := of_false h hc4
   refine V_sreg (mb 70 8388616) [56] (s1 := ⟨bt 3 (.ow 56 :: bt 19 (Bo (bif (eqI f1.1 f1.2.2) then (eqI f1.2.1 f1.1) else false) :: bt 46 [])), [(56, .arr 42 4 (([y2]).map c42))]⟩) ?_ ?_
   ·refine XR 6 ?_
    refine XL_split (eqI f1.1 f1.2.2) (fun hc6 => ?_) (fun hc6 => ?_)
    ·refine XL_takeC _ rfl rfl (by kernel_rfl) hc6 (X_of_Y0 rfl (E_field (.pt 8 1) Tryd.underlying27 rfl sz3 rfl (by kernel_rfl) (by intro hh; cases hh))) ?_
     refine XL_takeC _ rfl rfl (by kernel_rfl) hc6 (X_of_Y0 rfl (Y0_load1 (c := Ti f1.2.1) (cs := [Ti f1.2.2]) sc3 rfl (by kernel_rfl))) ?_
     refine XL_takeC _ rfl rfl (by kernel_rfl) hc6 (X_of_Y0 rfl (E_field (.pt 8 0) Tryd.underlying27 rfl sz3 rfl (by kernel_rfl) (by intro hh; cases hh))) ?_
     refine XL_takeC _ rfl rfl (by kernel_rfl) hc6 (X_of_Y0 rfl (Y0_load1 (c := Ti f1.1) (cs := [Ti f1.2.1, Ti f1.2.2]) sc3 rfl (by kernel_rfl))) ?_
     refine XL_takeC _ rfl rfl (by kernel_rfl) hc6 (X_of_Y0 rfl (Y0_eqw (k := .i64) (a := f1.2.1) (b := f1.1) rfl (by kernel_rfl) (by kernel_rfl))) ?_
     refine XL_cons rfl (X_of_Y0 rfl (Y0_pick1 (b := eqI f1.1 f1.2.2) (p := eqI f1.2.1 f1.1) (q := false) rfl (by kernel_rfl) hc6 (by kernel_rfl))) ?_
     exact XE
    ·refine XL_skipT _ rfl rfl (by kernel_rfl) hc6 rfl ?_
     refine XL_skipT _ rfl rfl (by kernel_rfl) hc6 rfl ?_
     refine XL_skipT _ rfl rfl (by kernel_rfl) hc6 rfl ?_
     refine XL_skipT _ rfl rfl (by kernel_rfl) hc6 rfl ?_
     refine XL_skipT _ rfl rfl (by kernel_rfl) hc6 rfl ?_
     refine XL_cons rfl (X_of_Y0 rfl (Y0_pick0 (b := eqI f1.1 f1.2.2) (p := eqI f1.2.1 f1.1) (q := false) rfl (by kernel_rfl) hc6 (by kernel_rfl))) ?_
     exact XE
   refine V_cond rfl (fun hc7 => ?_) (fun hc7 => ?_)
   ·have h := of_true h hc7
    obtain ⟨u8, hu8, h⟩ := of_bind h
    refine V_reg (mb 70 8) [56] (s1 := ⟨bt 3 (.ow 56 :: bt 66 []), [(56, .arr 42 4 ((([y2]) ++ ([(0, -1, 1, 1), (1, 1, -1, 0)])).map c42))]⟩) ?_ ?_
    ·refine XR 1 ?_
     refine L0 rfl rfl (Y0_build (cs := [Ti 0, Ti (-1), Ti 1, Ti 1]) pl42 bt42 rfl rfl (by kernel_rfl)) ?_
     refine L0 rfl rfl (Y0_build (cs := [Ti 1, Ti 1, Ti (-1), Ti 0]) pl42 bt42 rfl rfl (by kernel_rfl)) ?_
     refine L1 rfl rfl (Y1_bslice (z := zv42) (els := [(0, -1, 1, 1), (1, 1, -1, 0)].map c42) Tryd.underlying39 iz42 rfl (by decide) rfl (by kernel_rfl) rfl (by simp [c42]) (by decide) (by decide)) ?_
     refine XL_cons rfl (X_appendM (c := c42) (xs := [y2]) (ys := [(0, -1, 1, 1), (1, 1, -1, 0)]) (id := 56) (z := zv42) rfl rfl Tryd.underlying39 izb42 rfl (by kernel_rfl) (by kernel_rfl) (by kernel_rfl) (fun _ => rfl) (by simp) (room_some hu8) (by decide)) ?_
     exact XE
    show V _ _ _ _
    obtain ⟨oV, hoV, h⟩ := of_bind h
    refine V_keep (mb 70 8) [56] (s' := ⟨bt 3 (.ow 56 :: bt 66 []), [(56, .arr 42 4 ((([y2]) ++ ([(0, -1, 1, 1), (1, 1, -1, 0)])).map c42))]⟩) (by rfl) ?_
    refine V_cutK (mb 70 8) [56] (v_impl_Form_turns (by simp) hoV) ?_
    refine V_e (mb 70 4) [56] (s1 := ⟨.bot :: .bot :: .ow 56 :: bt 67 [], [(56, .arr 42 4 (((([y2]) ++ ([(0, -1, 1, 1), (1, 1, -1, 0)])) ++ oV).map c42))]⟩) ?_
    refine V_ret ?_
    obtain rfl := some_inj h
    show Post _ _ _ _ _
    exact ⟨.inr rfl, rfl, rfl, rfl⟩
   ·have h := of_false h hc7
    refine V_skip ?_
    show V _ _ _ _
    obtain ⟨oV, hoV, h⟩ := of_bind h
    refine V_keep (mb 70 8) [56] (s' := ⟨bt 3 (.ow 56 :: bt 66 []), [(56, .arr 42 4 (([y2]).map c42))]⟩) (by rfl) ?_
    refine V_cutK (mb 70 8) [56] (v_impl_Form_turns (by simp) hoV) ?_
    refine V_e (mb 70 4) [56] (s1 := ⟨.bot :: .bot :: .ow 56 :: bt 67 [], [(56, .arr 42 4 ((([y2]) ++ oV).map c42))]⟩) ?_
    refine V_ret ?_
    obtain rfl := some_inj h
    show Post _ _ _ _ _
    exact ⟨.inr rfl, rfl, rfl, rfl⟩
theorem cf_impl_Matrix_det : ∀ args w, (callFunc 80 args).run Tryd.prog w = .ok (.enter 80 args) w := run_callFunc Tryd.func80 (by kernel_rfl) (by kernel_rfl)
theorem s_impl_Matrix_det {vm1 : (Int × Int × Int × Int)} {r : Int} (h : r_impl_Matrix_det vm1 = some r) : CallS Tryd.prog 80 [.ag [Ti vm1.1, Ti vm1.2.1, Ti vm1.2.2.1, Ti vm1.2.2.2]] (I r) [] := by
  refine CallS_of_text (rs := [.t 2]) (vs := [.tmp 2]) Tryd.func80 rfl rfl (.cons rfl FitsL.nil) (by decide) 14 rfl ?_
  unfold r_impl_Matrix_det at h
  show V _ _ ⟨.ag [Ti vm1.1, Ti vm1.2.1, Ti vm1.2.2.1, Ti vm1.2.2.2] :: bt 13 [], []⟩ _
  refine V_e (mb 14 2) [8] (s1 := ⟨.bot :: .pt 8 0 :: bt 12 [], [(8, .box [Ti vm1.1, Ti vm1.2.1, Ti vm1.2.2.1, Ti vm1.2.2.2])]⟩) ?_
  obtain ⟨t2, ht2, h⟩ := of_sI h
  refine V_sreg (mb 14 4) [] (s1 := ⟨.bot :: .bot :: I t2 :: bt 11 [], []⟩) ?_ ?_
  ·refine XR 12 ?_
   refine XL_nil ?_
   subst ht2
   kernel_rfl
  refine V_ret ?_
  obtain rfl := some_inj h
  show Post _ _ _ _ _
  exact ⟨.inr rfl, rfl, rfl, rfl⟩
theorem cf_impl_Matrix_inverse : ∀ args w, (callFunc 49 args).run Tryd.prog w = .ok (.enter 49 args) w := run_callFunc Tryd.func49 (by kernel_rfl) (by kernel_rfl)
theorem s_impl_Matrix_inverse {vm1 : (Int × Int × Int × Int)} {r : (Int × Int × Int × Int)} (h : r_impl_Matrix_inverse vm1 = some r) : CallS Tryd.prog 49 [.ag [Ti vm1.1, Ti vm1.2.1, Ti vm1.2.2.1, Ti vm1.2.2.2]] (.ag [Ti r.1, Ti r.2.1, Ti r.2.2.1, Ti r.2.2.2]) [] := by
  refine CallS_of_text (rs := [.w 2 4]) (vs := [.cell 2 42]) Tryd.func49 rfl rfl (.cons ⟨rfl, wd42⟩ FitsL.nil) (by decide) 25 rfl ?_
  unfold r_impl_Matrix_inverse at h
  show V _ _ ⟨.ag [Ti vm1.1, Ti vm1.2.1, Ti vm1.2.2.1, Ti vm1.2.2.2] :: bt 24 [], []⟩ _
  refine V_e (mb 25 6) [16, 8] (s1 := ⟨.bot :: .pt 8 0 :: .pt 16 0 :: bt 22 [], [(16, .box [Ti 0, Ti 0, Ti 0, Ti 0]), (8, .box [Ti vm1.1, Ti vm1.2.1, Ti vm1.2.2.1, Ti vm1.2.2.2])]⟩) ?_
  obtain ⟨y2, hy2, h⟩ := of_bind h
  refine V_sreg (mb 25 14) [16, 8] (s1 := ⟨.bot :: .pt 8 0 :: .pt 16 0 :: I y2 :: bt 21 [], [(16, .box [Ti 0, Ti 0, Ti 0, Ti 0]), (8, .box [Ti vm1.1, Ti vm1.2.1, Ti vm1.2.2.1, Ti vm1.2.2.2])]⟩) ?_ ?_
  ·refine XR 1 ?_
   refine XC (s_impl_Matrix_det hy2) cf_impl_Matrix_det rfl rfl rfl ?_
   exact XE
  obtain ⟨f3, hf3, h⟩ := of_sI h
  obtain ⟨f4, hf4, h⟩ := of_sI h
  obtain ⟨f5, hf5, h⟩ := of_sI h
  obtain ⟨f6, hf6, h⟩ := of_sI h
  refine V_sreg (mb 25 4) [16] (s1 := ⟨.bot :: .bot :: .pt 16 0 :: bt 22 [], [(16, .box [Ti f3, Ti f4, Ti f5, Ti f6])]⟩) ?_ ?_
  ·refine XR 18 ?_
   refine L0 rfl rfl (Y0_build (cs := [Ti (w64 (y2 * vm1.2.2.2)), Ti (w64 ((w64 (0 - y2)) * vm1.2.1)), Ti (w64 ((w64 (0 - y2)) * vm1.2.2.1)), Ti (w64 (y2 * vm1.1))]) pl42 bt42 rfl rfl (by kernel_rfl)) ?_
   refine XR 1 ?_
   refine XL_nil ?_
   subst hf3 hf4 hf5 hf6
   kernel_rfl
  refine V_ret ?_
  obtain rfl := some_inj h
  show Post _ _ _ _ _
  exact ⟨.inr rfl, rfl, rfl, rfl⟩
theorem cf_impl_IsMatrix : ∀ args w, (callFunc 50 args).run Tryd.prog w = .ok (.enter 50 args) w := run_callFunc Tryd.func50 (by kernel_rfl) (by kernel_rfl)
theorem s_impl_IsMatrix {vm1 : (Int × Int × Int × Int)} {r : Bool} (h : r_impl_IsMatrix vm1 = some r) : CallS Tryd.prog 50 [.ag [Ti vm1.1, Ti vm1.2.1, Ti vm1.2.2.1, Ti vm1.2.2.2]] (Bo r) [] := by
  refine CallS_of_text (rs := [.t 2]) (vs := [.tmp 2]) Tryd.func50 rfl rfl (.cons rfl FitsL.nil) (by decide) 13 rfl ?_
  unfold r_impl_IsMatrix at h
  show V _ _ ⟨.ag [Ti vm1.1, Ti vm1.2.1, Ti vm1.2.2.1, Ti vm1.2.2.2] :: bt 12 [], []⟩ _
  refine V_e (mb 13 2) [8] (s1 := ⟨.bot :: .pt 8 0 :: bt 11 [], [(8, .box [Ti vm1.1, Ti vm1.2.1, Ti vm1.2.2.1, Ti vm1.2.2.2])]⟩) ?_
  obtain ⟨y2, hy2, h⟩ := of_bind h
  refine V_sreg (mb 13 4) [] (s1 := ⟨.bot :: .bot :: Bo y2 :: bt 10 [], []⟩) ?_ ?_
  ·refine XR 8 ?_
   refine L1 rfl rfl (Y1_bslice (z := zv3) (els := [vm1.1, vm1.2.1, vm1.2.2.1, vm1.2.2.2].map c3) Tryd.underlying58 iz3 rfl (by decide) rfl (by kernel_rfl) rfl (by simp [c3]) (by decide) (by decide)) ?_
   refine L1 rfl rfl (Y1_callS (s_impl_areNumbers hy2) cf_impl_areNumbers rfl (by kernel_rfl) rfl rfl) ?_
   exact XE
  refine V_ret ?_
  obtain rfl := some_inj h
  show Post _ _ _ _ _
  exact ⟨.inr rfl, rfl, rfl, rfl⟩
theorem cf_impl_lessMatrix : ∀ args w, (callFunc 51 args).run Tryd.prog w = .ok (.enter 51 args) w := run_callFunc Tryd.func51 (by kernel_rfl) (by kernel_rfl)
theorem s_impl_lessMatrix {vm1 : (Int × Int × Int × Int)} {vn2 : (Int × Int × Int × Int)} {r : Bool} (h : r_impl_lessMatrix vm1 vn2 = some r) : CallS Tryd.prog 51 [.ag [Ti vm1.1, Ti vm1.2.1, Ti vm1.2.2.1, Ti vm1.2.2.2], .ag [Ti vn2.1, Ti vn2.2.1, Ti vn2.2.2.1, Ti vn2.2.2.2]] (Bo r) [] := by
  refine CallS_of_text (rs := [.t 4]) (vs := [.tmp 4]) Tryd.func51 rfl rfl (.cons rfl FitsL.nil) (by decide) 43 rfl ?_
  unfold r_impl_lessMatrix at h
  show V _ _ ⟨.ag [Ti vm1.1, Ti vm1.2.1, Ti vm1.2.2.1, Ti vm1.2.2.2] :: .ag [Ti vn2.1, Ti vn2.2.1, Ti vn2.2.2.1, Ti vn2.2.2.2] :: bt 41 [], []⟩ _
  refine V_e (mb 43 12) [24, 16] (s1 := ⟨.bot :: .bot :: .pt 16 0 :: .pt 24 0 :: bt 39 [], [(24, .box [Ti vn2.1, Ti vn2.2.1, Ti vn2.2.2.1, Ti vn2.2.2.2]), (16, .box [Ti vm1.1, Ti vm1.2.1, Ti vm1.2.2.1, Ti vm1.2.2.2])]⟩) ?_
  refine V_seq ?_
  refine V_block ?_
  refine V_e (mb 43 44) [24, 16] (s1 := ⟨.bot :: .bot :: .pt 16 0 :: .pt 24 0 :: .bot :: Bo (!eqI vm1.1 vn2.1) :: bt 37 [], [(24, .box [Ti vn2.1, Ti vn2.2.1, Ti vn2.2.2.1, Ti vn2.2.2.2]), (16, .box [Ti vm1.1, Ti vm1.2.1, Ti vm1.2.2.1, Ti vm1.2.2.2])]⟩) ?_
  refine V_cond rfl (fun hc3 => ?_) (fun hc3 => ?_)
  ·have h := of_true h hc3
   refine V_e (mb 43 16) [] (s1 := ⟨bt 4 (Bo (ltI vm1.1 vn2.1) :: bt 38 []), []⟩) ?_
   refine V_ret ?_
   obtain rfl := some_inj h
   show Post _ _ _ _ _
   exact ⟨.inr rfl, rfl, rfl, rfl⟩
  ·have h := of_false h hc3
   refine V_e (mb 43 65548) [24, 16] (s1 := ⟨.bot :: .bot :: .pt 16 0 :: .pt 24 0 :: bt 12 (Bo (!eqI vm1.2.1 vn2.2.1) :: bt 26 []), [(24, .box [Ti vn2.1, Ti vn2.2.1, Ti vn2.2.2.1, Ti vn2.2.2.2]), (16, .box [Ti vm1.1, Ti vm1.2.1, Ti vm1.2.2.1, Ti vm1.2.2.2])]⟩) ?_
   refine V_cond rfl (fun hc4 => ?_) (fun hc4 => ?_)
   ·have h := of_true h hc4
    refine V_e (mb 43 16) [] (s1 := ⟨bt 4 (Bo (ltI vm1.2.1 vn2.2.1) :: bt 38 []), []⟩) ?_
    refine V_ret ?_
    obtain rfl := some_inj h
    show Post _ _ _ _ _
    exact ⟨.inr rfl, rfl, rfl, rfl⟩
   ·have h := of_false h hc4
    refine V_e (mb 43 134217740) [24, 16] (s1 := ⟨.bot :: .bot :: .pt 16 0 :: .pt 24 0 :: bt 23 (Bo (!eqI vm1.2.2.1 vn2.2.2.1) :: bt 15 []), [(24, .box [Ti vn2.1, Ti vn2.2.1, Ti vn2.2.2.1, Ti vn2.2.2.2]), (16, .box [Ti vm1.1, Ti vm1.2.1, Ti vm1.2.2.1, Ti vm1.2.2.2])]⟩) ?_
    refine V_cond rfl (fun hc5 => ?_) (fun hc5 => ?_)
    ·have h := of_true h hc5
     refine V_e (mb 43 16) [] (s1 := ⟨bt 4 (Bo (ltI vm1.2.2.1 vn2.2.2.1) :: bt 38 []), []⟩) ?_
     refine V_ret ?_
     obtain rfl := some_inj h
     show Post _ _ _ _ _
     exact ⟨.inr rfl, rfl, rfl, rfl⟩
    ·have h := of_false h hc5
     refine V_skip ?_
     show V _ _ _ _
     refine V_e (mb 43 16) [] (s1 := ⟨bt 4 (Bo (ltI vm1.2.2.2 vn2.2.2.2) :: bt 38 []), []⟩) ?_
     refine V_ret ?_
     obtain rfl := some_inj h
     show Post _ _ _ _ _
     exact ⟨.inr rfl, rfl, rfl, rfl⟩
theorem cf_impl_Automorphs : ∀ args w, (callFunc 24 args).run Tryd.prog w = .ok (.enter 24 args) w := run_callFunc Tryd.func24 (by kernel_rfl) (by kernel_rfl)
theorem s_impl_Automorphs {f1 : (Int × Int × Int)} {r : ((List ((Int × Int × Int × Int))) × Bool)} (h : r_impl_Automorphs f1 = some r) : CallS Tryd.prog 24 [.ag [Ti f1.1, Ti f1.2.1, Ti f1.2.2]] (.tc (.ow 0) (.tc (Bo r.2) .tn)) [(0, .arr 42 4 (r.1.map c42))] := by
  refine CallS_of_text (rs := [.t 2, .t 3]) (vs := [.tmp 2, .tmp 3]) Tryd.func24 rfl rfl (.cons rfl (.cons rfl FitsL.nil)) (by decide) 71 rfl ?_
  unfold r_impl_Automorphs at h
  show V _ _ ⟨.ag [Ti f1.1, Ti f1.2.1, Ti f1.2.2] :: bt 70 [], []⟩ _
  refine V_sreg (mb 71 2) [8] (s1 := ⟨.bot :: .pt 8 0 :: bt 69 [], [(8, .box [Ti f1.1, Ti f1.2.1, Ti f1.2.2])]⟩) ?_ ?_
  ·refine XR 1 ?_
   refine L1 rfl rfl (Y1_nil (e := 42) 4 (by decide) (.inl rfl)) ?_
   exact XE
  refine V_seq ?_
  obtain ⟨y2, hy2, h⟩ := of_bind h
  refine V_sreg (mb 71 8194) [8] (s1 := ⟨.bot :: .pt 8 0 :: bt 11 (Bo (!y2) :: bt 57 []), [(8, .box [Ti f1.1, Ti f1.2.1, Ti f1.2.2])]⟩) ?_ ?_
  ·refine XR 1 ?_
   refine XC (s_impl_isDefinite hy2) cf_impl_isDefinite rfl rfl rfl ?_
   exact XE
  refine V_cond rfl (fun hc3 => ?_) (fun hc3 => ?_)
  ·have h := of_true h hc3
   refine V_sreg (mb 71 12) [112] (s1 := ⟨.bot :: .bot :: .ow 112 :: Bo false :: bt 67 [], [(112, .arr 42 4 ((([] : List ((Int × Int × Int × Int)))).map c42))]⟩) ?_ ?_
   ·refine L1 rfl rfl (Y1_bslice0 Tryd.underlying39 sz42 (by decide) rfl rfl) ?_
    exact XE
   refine V_ret ?_
   obtain rfl := some_inj h
   show Post _ _ _ _ _
   exact ⟨.inr rfl, rfl, rfl, rfl⟩
  ·have h := of_false h hc3
   refine V_skip ?_
   show V _ _ _ _
   obtain ⟨y4, hy4, h⟩ := of_bind h
   refine V_sreg (mb 71 48) [40, 32] (s1 := ⟨bt 4 (.pt 32 0 :: .pt 40 0 :: bt 65 []), [(40, .box [Ti y4.2.1, Ti y4.2.2.1, Ti y4.2.2.2.1, Ti y4.2.2.2.2]), (32, .box [Ti y4.1.1, Ti y4.1.2.1, Ti y4.1.2.2])]⟩) ?_ ?_
   ·refine XR 1 ?_
    refine XC (s_impl_reduce hy4) cf_impl_reduce rfl rfl rfl ?_
    exact XE
   refine V_sreg (mb 71 112) [160, 40, 32] (s1 := ⟨bt 4 (.pt 32 0 :: .pt 40 0 :: .ow 160 :: bt 64 []), [(160, .arr 42 4 ((([] : List ((Int × Int × Int × Int)))).map c42)), (40, .box [Ti y4.2.1, Ti y4.2.2.1, Ti y4.2.2.2.1, Ti y4.2.2.2.2]), (32, .box [Ti y4.1.1, Ti y4.1.2.1, Ti y4.1.2.2])]⟩) ?_ ?_
   ·refine L1 rfl rfl (Y1_bslice0 Tryd.underlying39 sz42 (by decide) rfl rfl) ?_
    exact XE
   refine V_seq ?_
   obtain ⟨y5, hy5, h⟩ := of_bind h
   refine V_sreg (mb 71 29360224) [176, 160, 40] (s1 := ⟨bt 5 (.pt 40 0 :: .ow 160 :: bt 15 (.ow 176 :: I ((y5.length : Int)) :: I 0 :: bt 46 [])), [(176, .arr 42 4 (y5.map c42)), (160, .arr 42 4 ((([] : List ((Int × Int × Int × Int)))).map c42)), (40, .box [Ti y4.2.1, Ti y4.2.2.1, Ti y4.2.2.2.1, Ti y4.2.2.2.2])]⟩) ?_ ?_
   ·refine XR 1 ?_
    refine XC (s_impl_Form_turns hy5) cf_impl_Form_turns rfl rfl rfl ?_
    refine L0 rfl rfl (Y0_lenM (c := c42) (xs := y5) Tryd.underlying39 rfl (by kernel_rfl)) ?_
    exact XE
   obtain ⟨qo9, hLo9, hko9⟩ := of_bind h
   refine V_toS (q := qo9) (S := fun o9 => ⟨bt 6 (.ow 160 :: bt 64 []), [(160, .arr 42 4 (o9.map c42))]⟩) (mb 71 64) [160] ?_ ?_
   ·refine V_block (V_loop (fun n s => ∃ (t6 : Int) (l7 : List ((Int × Int × Int × Int))), s.keep (mb 71 29360224) [176, 160, 40] = (⟨bt 5 (.pt 40 0 :: .ow 160 :: bt 15 (.ow 176 :: I ((y5.length : Int)) :: I t6 :: bt 46 [])), [(176, .arr 42 4 (y5.map c42)), (160, .arr 42 4 (l7.map c42)), (40, .box [Ti y4.2.1, Ti y4.2.2.1, Ti y4.2.2.2.1, Ti y4.2.2.2.2])]⟩ : St) ∧ r_impl_Automorphs_L8 y4 y5 n t6 l7 = some qo9) FU ⟨_, _,  by rfl, hLo9⟩ ?_)
    clear hLo9
    rintro n s ⟨t6, l7, hs, h⟩
    refine V_keep _ _ hs ?_
    clear hs
    cases n with
    | zero => cases h
    | succ n =>
     rw [r_impl_Automorphs_L8] at h
     refine V_e (mb 71 62914656) [176, 160, 40] (s1 := ⟨bt 5 (.pt 40 0 :: .ow 160 :: bt 15 (.ow 176 :: I ((y5.length : Int)) :: I t6 :: Bo (ltI t6 ((y5.length : Int))) :: bt 45 [])), [(176, .arr 42 4 (y5.map c42)), (160, .arr 42 4 (l7.map c42)), (40, .box [Ti y4.2.1, Ti y4.2.2.1, Ti y4.2.2.2.1, Ti y4.2.2.2.2])]⟩) ?_
     refine V_seq ?_
     refine V_cond rfl (fun hc10 => ?_) (fun hc10 => ?_)
     ·have h := of_true h hc10
      refine V_skip ?_
      show V _ _ _ _
      refine V_seq ?_
      refine V_block ?_
      obtain ⟨e11, he11, h⟩ := of_bind h
      obtain ⟨e12, he12, h⟩ := of_bind h
      refine V_sreg (mb 71 29360480) [64, 176, 160, 40] (s1 := ⟨bt 5 (.pt 40 0 :: .ow 160 :: .bot :: .pt 64 0 :: bt 13 (.ow 176 :: I ((y5.length : Int)) :: I t6 :: bt 46 [])), [(64, .box [Ti e12.1, Ti e12.2.1, Ti e12.2.2.1, Ti e12.2.2.2]), (176, .arr 42 4 (y5.map c42)), (160, .arr 42 4 (l7.map c42)), (40, .box [Ti y4.2.1, Ti y4.2.2.1, Ti y4.2.2.2.1, Ti y4.2.2.2.2])]⟩) ?_ ?_
      ·refine L0 rfl rfl (Y0_idxoM (c := c42) (xs := y5) (v := e11) (id := 176) (T := 42) (sz := 4) (n := t6) Tryd.underlying39 sz42 rfl (by kernel_rfl) (by kernel_rfl) (by kernel_rfl) he11) ?_
       refine L0 rfl rfl (E_loadon (c := c42) (xs := y5) (v := e12) (id := 176) (sz := 4) (T := 42) (off := 0) (n := t6) [Ti e12.1, Ti e12.2.1, Ti e12.2.2.1, Ti e12.2.2.2] wd42 rfl (by kernel_rfl) (by kernel_rfl) he12 (Nat.le_of_ble_eq_true rfl) (by kernel_rfl)) ?_
       exact XE
      obtain ⟨y13, hy13, h⟩ := of_bind h
      obtain ⟨y14, hy14, h⟩ := of_bind h
      obtain ⟨y15, hy15, h⟩ := of_bind h
      refine V_sdreg [0, 0, 3, 0, 15, 31, 0, 127] 7 (cdm 7 [8328, 8322, 8325, 8234, 8277, 8533, 2730]) (mb 71 29360736) [72, 176, 160, 40] (s1 := ⟨bt 5 (.pt 40 0 :: .ow 160 :: .bot :: .bot :: .pt 72 0 :: bt 12 (.ow 176 :: I ((y5.length : Int)) :: I t6 :: bt 46 [])), [(72, .box [Ti y15.1, Ti y15.2.1, Ti y15.2.2.1, Ti y15.2.2.2]), (176, .arr 42 4 (y5.map c42)), (160, .arr 42 4 (l7.map c42)), (40, .box [Ti y4.2.1, Ti y4.2.2.1, Ti y4.2.2.2.1, Ti y4.2.2.2.2])]⟩) (by kernel_rfl) (by kernel_rfl) ?_ ?_
      ·refine DR 2 ?_
       refine DC 2 (s_impl_Matrix_times hy13) cf_impl_Matrix_times rfl rfl rfl rfl 30 rfl ?_
       refine DR 1 ?_
       refine DC 4 (s_impl_Matrix_inverse hy14) cf_impl_Matrix_inverse rfl rfl rfl rfl 32 rfl ?_
       refine DC 5 (s_impl_Matrix_times hy15) cf_impl_Matrix_times rfl rfl rfl rfl 33 rfl ?_
       refine DA 1 ?_
       exact XE
      refine V_seq ?_
      obtain ⟨y16, hy16, h⟩ := of_bind h
      refine V_sreg (mb 71 68748837472) [72, 176, 160, 40] (s1 := ⟨bt 5 (.pt 40 0 :: .ow 160 :: .bot :: .bot :: .pt 72 0 :: bt 12 (.ow 176 :: I ((y5.length : Int)) :: I t6 :: bt 11 (Bo (!y16) :: bt 34 []))), [(72, .box [Ti y15.1, Ti y15.2.1, Ti y15.2.2.1, Ti y15.2.2.2]), (176, .arr 42 4 (y5.map c42)), (160, .arr 42 4 (l7.map c42)), (40, .box [Ti y4.2.1, Ti y4.2.2.1, Ti y4.2.2.2.1, Ti y4.2.2.2.2])]⟩) ?_ ?_
      ·refine XR 1 ?_
       refine XC (s_impl_IsMatrix hy16) cf_impl_IsMatrix rfl rfl rfl ?_
       exact XE
      refine V_cond rfl (fun hc17 => ?_) (fun hc17 => ?_)
      ·have h := of_true h hc17
       refine V_sreg (mb 71 12) [296] (s1 := ⟨.bot :: .bot :: .ow 296 :: Bo false :: bt 67 [], [(296, .arr 42 4 ((([] : List ((Int × Int × Int × Int)))).map c42))]⟩) ?_ ?_
       ·refine L1 rfl rfl (Y1_bslice0 Tryd.underlying39 sz42 (by decide) rfl rfl) ?_
        exact XE
       refine V_ret ?_
       obtain rfl := some_inj h
       have h := hko9
       obtain rfl := some_inj h
       show Post _ _ _ _ _
       exact ⟨.inr rfl, rfl, rfl, rfl⟩
      ·have h := of_false h hc17
       refine V_skip ?_
       show V _ _ _ _
       refine V_sreg (mb 71 29361760) [72, 176, 160, 40] (s1 := ⟨bt 5 (.pt 40 0 :: .ow 160 :: .bot :: .bot :: .pt 72 0 :: I ((l7.length : Int)) :: bt 11 (.ow 176 :: I ((y5.length : Int)) :: I t6 :: bt 46 [])), [(72, .box [Ti y15.1, Ti y15.2.1, Ti y15.2.2.1, Ti y15.2.2.2]), (176, .arr 42 4 (y5.map c42)), (160, .arr 42 4 (l7.map c42)), (40, .box [Ti y4.2.1, Ti y4.2.2.1, Ti y4.2.2.2.1, Ti y4.2.2.2.2])]⟩) ?_ ?_
       ·refine XR 1 ?_
        refine L0 rfl rfl (Y0_lenM (c := c42) (xs := l7) Tryd.underlying39 rfl (by kernel_rfl)) ?_
        exact XE
       refine V_seq ?_
       obtain ⟨o20, hLo20, h⟩ := of_bind h
       refine V_toK (mb 71 29361760) [72, 176, 160, 40] (s1 := ⟨bt 5 (.pt 40 0 :: .ow 160 :: .bot :: .bot :: .pt 72 0 :: I o20 :: bt 11 (.ow 176 :: I ((y5.length : Int)) :: I t6 :: bt 46 [])), [(72, .box [Ti y15.1, Ti y15.2.1, Ti y15.2.2.1, Ti y15.2.2.2]), (176, .arr 42 4 (y5.map c42)), (160, .arr 42 4 (l7.map c42)), (40, .box [Ti y4.2.1, Ti y4.2.2.1, Ti y4.2.2.2.1, Ti y4.2.2.2.2])]⟩) ?_ ?_
       ·clear h
        refine V_block (V_loop (fun n s => ∃ (vat18 : Int), s.keep (mb 71 29361760) [72, 176, 160, 40] = (⟨bt 5 (.pt 40 0 :: .ow 160 :: .bot :: .bot :: .pt 72 0 :: I vat18 :: bt 11 (.ow 176 :: I ((y5.length : Int)) :: I t6 :: bt 46 [])), [(72, .box [Ti y15.1, Ti y15.2.1, Ti y15.2.2.1, Ti y15.2.2.2]), (176, .arr 42 4 (y5.map c42)), (160, .arr 42 4 (l7.map c42)), (40, .box [Ti y4.2.1, Ti y4.2.2.1, Ti y4.2.2.2.1, Ti y4.2.2.2.2])]⟩ : St) ∧ r_impl_Automorphs_L19 l7 t6 y15 y4 y5 n vat18 = some o20) FU ⟨_,  by rfl, hLo20⟩ ?_)
        clear hLo20
        rintro n s ⟨vat18, hs, h⟩
        refine V_keep _ _ hs ?_
        clear hs
        cases n with
        | zero => cases h
        | succ n =>
         rw [r_impl_Automorphs_L19] at h
         refine V_seq ?_
         obtain ⟨b25, hb25, h⟩ := of_bind h
         refine V_sdreg [0, 1, 3, 7, 7, 7, 39, 119, 247, 511, 1023] 11 (cdm 11 [0, 1, 5, 174613, 10389, 661, 1685, 5525, 21909, 87381, 349525]) (mb 71 1125899936204384) [72, 176, 160, 40] (s1 := ⟨bt 5 (.pt 40 0 :: .ow 160 :: .bot :: .bot :: .pt 72 0 :: I vat18 :: bt 11 (.ow 176 :: I ((y5.length : Int)) :: I t6 :: bt 25 (Bo b25 :: bt 20 []))), [(72, .box [Ti y15.1, Ti y15.2.1, Ti y15.2.2.1, Ti y15.2.2.2]), (176, .arr 42 4 (y5.map c42)), (160, .arr 42 4 (l7.map c42)), (40, .box [Ti y4.2.1, Ti y4.2.2.1, Ti y4.2.2.2.1, Ti y4.2.2.2.2])]⟩) (by kernel_rfl) (by kernel_rfl) ?_ ?_
         ·refine DR 3 ?_
          refine DL_split (ltI 0 vat18) (fun hc21 => ?_) (fun hc21 => ?_)
          ·have hb25 := of_true hb25 hc21
           obtain ⟨e22, he22, hb25⟩ := of_bind hb25
           obtain ⟨e23, he23, hb25⟩ := of_bind hb25
           obtain ⟨y24, hy24, hb25⟩ := of_bind hb25
           have hb25 := some_inj hb25
           refine DE_0 3 (.ag [Ti y15.1, Ti y15.2.1, Ti y15.2.2.1, Ti y15.2.2.2]) (by kernel_rfl) rfl rfl rfl (gsat_C (ltI 0 vat18) rfl rfl (by kernel_rfl) hc21) (by kernel_rfl) (E_loadn (cs := [Ti y15.1, Ti y15.2.1, Ti y15.2.2.1, Ti y15.2.2.2]) [Ti y15.1, Ti y15.2.1, Ti y15.2.2.1, Ti y15.2.2.2] wd42 rfl (by kernel_rfl) (Nat.le_of_ble_eq_true rfl) (by kernel_rfl)) 43 rfl ?_
           refine DE_0 4 (.ow 160) (by kernel_rfl) rfl rfl rfl (gsat_C (ltI 0 vat18) rfl rfl (by kernel_rfl) hc21) (by kernel_rfl) (E_move (.ow 160) rfl (by kernel_rfl)) 44 rfl ?_
           refine DE_0 5 (I vat18) (by kernel_rfl) rfl rfl rfl (gsat_C (ltI 0 vat18) rfl rfl (by kernel_rfl) hc21) (by kernel_rfl) (E_move (I vat18) rfl (by kernel_rfl)) 45 rfl ?_
           refine DE_0 6 (I (w64 (vat18 - 1))) (by kernel_rfl) rfl rfl rfl (gsat_C (ltI 0 vat18) rfl rfl (by kernel_rfl) hc21) (by kernel_rfl) (Y0_sub64 (a := vat18) (b := 1) rfl (by kernel_rfl) (by kernel_rfl)) 46 rfl ?_
           refine DE_0 7 (.po 160 4 (Int.toNat (w64 (vat18 - 1))) 0) (by kernel_rfl) rfl rfl rfl (gsat_C (ltI 0 vat18) rfl rfl (by kernel_rfl) hc21) (by kernel_rfl) (Y0_idxoM (c := c42) (xs := l7) (v := e22) (id := 160) (T := 42) (sz := 4) (n := w64 (vat18 - 1)) Tryd.underlying39 sz42 rfl (by kernel_rfl) (by kernel_rfl) (by kernel_rfl) he22) 47 rfl ?_
           refine DE_0 8 (.ag [Ti e23.1, Ti e23.2.1, Ti e23.2.2.1, Ti e23.2.2.2]) (by kernel_rfl) rfl rfl rfl (gsat_C (ltI 0 vat18) rfl rfl (by kernel_rfl) hc21) (by kernel_rfl) (E_loadon (c := c42) (xs := l7) (v := e23) (id := 160) (sz := 4) (T := 42) (off := 0) (n := w64 (vat18 - 1)) [Ti e23.1, Ti e23.2.1, Ti e23.2.2.1, Ti e23.2.2.2] wd42 rfl (by kernel_rfl) (by kernel_rfl) he23 (Nat.le_of_ble_eq_true rfl) (by kernel_rfl)) 48 rfl ?_
           refine DE_1 9 (by kernel_rfl) rfl rfl rfl (gsat_C (ltI 0 vat18) rfl rfl (by kernel_rfl) hc21) (Y1_call (s_impl_lessMatrix hy24) cf_impl_lessMatrix rfl (by kernel_rfl)) rfl rfl rfl 49 rfl ?_
           refine DE_0 10 (Bo (b25)) (by kernel_rfl) rfl rfl rfl (gsat_none rfl) (by kernel_rfl) (Y0_pickTe (b := ltI 0 vat18) (p := y24) rfl (by kernel_rfl) hc21 (by kernel_rfl) hb25) 50 rfl ?_
           refine DA 0 ?_
           exact XE
          ·have hb25 := some_inj (of_false hb25 hc21)
           refine DE_t 3 (by kernel_rfl) rfl rfl rfl (gun_T (ltI 0 vat18) rfl rfl (by kernel_rfl) hc21) 43 rfl ?_
           refine DE_t 4 (by kernel_rfl) rfl rfl rfl (gun_T (ltI 0 vat18) rfl rfl (by kernel_rfl) hc21) 44 rfl ?_
           refine DE_t 5 (by kernel_rfl) rfl rfl rfl (gun_T (ltI 0 vat18) rfl rfl (by kernel_rfl) hc21) 45 rfl ?_
           refine DE_t 6 (by kernel_rfl) rfl rfl rfl (gun_T (ltI 0 vat18) rfl rfl (by kernel_rfl) hc21) 46 rfl ?_
           refine DE_t 7 (by kernel_rfl) rfl rfl rfl (gun_T (ltI 0 vat18) rfl rfl (by kernel_rfl) hc21) 47 rfl ?_
           refine DE_t 8 (by kernel_rfl) rfl rfl rfl (gun_T (ltI 0 vat18) rfl rfl (by kernel_rfl) hc21) 48 rfl ?_
           refine DE_t 9 (by kernel_rfl) rfl rfl rfl (gun_T (ltI 0 vat18) rfl rfl (by kernel_rfl) hc21) 49 rfl ?_
           refine DE_0 10 (Bo (b25)) (by kernel_rfl) rfl rfl rfl (gsat_none rfl) (by kernel_rfl) (Y0_pickFe (b := ltI 0 vat18) (p := false) rfl (by kernel_rfl) hc21 (by kernel_rfl) hb25) 50 rfl ?_
           refine DA 0 ?_
           exact XE
         refine V_cond rfl (fun hc26 => ?_) (fun hc26 => ?_)
         ·have h := of_true h hc26
          refine V_skip ?_
          show V _ _ _ _
          refine V_block ?_
          obtain ⟨vat27, hvat27, h⟩ := of_sI h
          refine V_reg (mb 71 29361760) [72, 176, 160, 40] (s1 := ⟨bt 5 (.pt 40 0 :: .ow 160 :: .bot :: .bot :: .pt 72 0 :: I vat27 :: bt 11 (.ow 176 :: I ((y5.length : Int)) :: I t6 :: bt 46 [])), [(72, .box [Ti y15.1, Ti y15.2.1, Ti y15.2.2.1, Ti y15.2.2.2]), (176, .arr 42 4 (y5.map c42)), (160, .arr 42 4 (l7.map c42)), (40, .box [Ti y4.2.1, Ti y4.2.2.1, Ti y4.2.2.2.1, Ti y4.2.2.2.2])]⟩) ?_ ?_
          ·refine XR 3 ?_
           refine XL_nil ?_
           subst hvat27
           kernel_rfl
          exact ⟨n, Nat.lt_succ_self n, _,  by rfl, h⟩
         ·have h := of_false h hc26
          refine V_exit ?_
          obtain rfl := some_inj h
          show St.keep _ _ _ = _
          rfl
       show V _ _ _ _
       obtain ⟨u28, hu28, h⟩ := of_bind h
       refine V_sreg (mb 71 29361760) [72, 176, 160, 40] (s1 := ⟨bt 5 (.pt 40 0 :: .ow 160 :: .bot :: .bot :: .pt 72 0 :: I o20 :: bt 11 (.ow 176 :: I ((y5.length : Int)) :: I t6 :: bt 46 [])), [(72, .box [Ti y15.1, Ti y15.2.1, Ti y15.2.2.1, Ti y15.2.2.2]), (176, .arr 42 4 (y5.map c42)), (160, .arr 42 4 ((l7 ++ ([(0, 0, 0, 0)])).map c42)), (40, .box [Ti y4.2.1, Ti y4.2.2.1, Ti y4.2.2.2.1, Ti y4.2.2.2.2])]⟩) ?_ ?_
       ·refine XR 1 ?_
        refine L0 rfl rfl (Y0_build (cs := [Ti 0, Ti 0, Ti 0, Ti 0]) pl42 bt42 rfl rfl (by kernel_rfl)) ?_
        refine L1 rfl rfl (Y1_bslice (z := zv42) (els := [(0, 0, 0, 0)].map c42) Tryd.underlying39 iz42 rfl (by decide) rfl (by kernel_rfl) rfl (by simp [c42]) (by decide) (by decide)) ?_
        refine XL_cons rfl (X_appendM (c := c42) (xs := l7) (ys := [(0, 0, 0, 0)]) (id := 160) (z := zv42) rfl rfl Tryd.underlying39 izb42 rfl (by kernel_rfl) (by kernel_rfl) (by kernel_rfl) (fun _ => rfl) (by simp) (room_some hu28) (by decide)) ?_
        exact XE
       obtain ⟨u29, hu29, h⟩ := of_bind h
       obtain ⟨u30, hu30, h⟩ := of_bind h
       obtain ⟨l31, hl31, h⟩ := of_bind h
       have hl31 := some_inj hl31
       refine V_sdreg [0, 0, 2, 7, 0, 0, 48, 127] 7 (cdm 7 [10792, 10754, 10758, 10773, 2218, 682, 1450]) (mb 71 29361760) [72, 176, 160, 40] (s1 := ⟨bt 5 (.pt 40 0 :: .ow 160 :: .bot :: .bot :: .pt 72 0 :: I o20 :: bt 11 (.ow 176 :: I ((y5.length : Int)) :: I t6 :: bt 46 [])), [(72, .box [Ti y15.1, Ti y15.2.1, Ti y15.2.2.1, Ti y15.2.2.2]), (176, .arr 42 4 (y5.map c42)), (160, .arr 42 4 (l31.map c42)), (40, .box [Ti y4.2.1, Ti y4.2.2.1, Ti y4.2.2.2.1, Ti y4.2.2.2.2])]⟩) (by kernel_rfl) (by kernel_rfl) ?_ ?_
       ·refine DR 3 ?_
        refine DE_0 3 (.sf 160 4 (Int.toNat (w64 (o20 + 1)))) (by kernel_rfl) rfl rfl rfl (gsat_none rfl) (by kernel_rfl) (Y0_suffix (c := c42) (xs := l7 ++ ([(0, 0, 0, 0)])) (l := w64 (o20 + 1)) (T := 42) (id := 160) Tryd.underlying39 sz42 rfl (by kernel_rfl) (by kernel_rfl) (by kernel_rfl) hu29) 60 rfl ?_
        refine DR 2 ?_
        refine DE_0 6 (.sf 160 4 (Int.toNat (o20))) (by kernel_rfl) rfl rfl rfl (gsat_none rfl) (by kernel_rfl) (Y0_suffix (c := c42) (xs := l7 ++ ([(0, 0, 0, 0)])) (l := o20) (T := 42) (id := 160) Tryd.underlying39 sz42 rfl (by kernel_rfl) (by kernel_rfl) (by kernel_rfl) hu30) 63 rfl ?_
        refine DA 0 ?_
        refine XL_cons rfl (X_toBot 64 (X_copyS (c := c42) (xs := l7 ++ ([(0, 0, 0, 0)])) (id := 160) (sz := 4) (T := 42) (k1 := Int.toNat (w64 (o20 + 1))) (k2 := Int.toNat o20) rfl rfl Tryd.underlying39 sz42 (by kernel_rfl) (by kernel_rfl) (by kernel_rfl) (slc_le hu29) (slc_le hu30) (by simp))) ?_
        refine XL_nil ?_
        subst hl31
        kernel_rfl
       obtain ⟨e32, he32, h⟩ := of_bind h
       obtain ⟨e33, he33, h⟩ := of_bind h
       refine V_reg (mb 71 29360224) [176, 160, 40] (s1 := ⟨bt 5 (.pt 40 0 :: .ow 160 :: bt 15 (.ow 176 :: I ((y5.length : Int)) :: I t6 :: bt 46 [])), [(176, .arr 42 4 (y5.map c42)), (160, .arr 42 4 ((l31.set (Int.toNat (o20)) y15).map c42)), (40, .box [Ti y4.2.1, Ti y4.2.2.1, Ti y4.2.2.2.1, Ti y4.2.2.2.2])]⟩) ?_ ?_
       ·refine XR 3 ?_
        refine L0 rfl rfl (Y0_idxoM (c := c42) (xs := l31) (v := e32) (id := 160) (T := 42) (sz := 4) (n := o20) Tryd.underlying39 sz42 rfl (by kernel_rfl) (by kernel_rfl) (by kernel_rfl) he32) ?_
        refine XL_cons rfl (X_storeoM (c := c42) (xs := l31) (v := e33) (u := y15) (id := 160) (sz := 4) (off := 0) (T0 := 42) (n := o20) (vc := [Ti y15.1, Ti y15.2.1, Ti y15.2.2.1, Ti y15.2.2.2]) rfl rfl (by kernel_rfl) (by kernel_rfl) he33 (by kernel_rfl) sz42 (Nat.le_of_ble_eq_true rfl) (by kernel_rfl)) ?_
        exact XE
       show V _ _ _ _
       obtain ⟨t34, ht34, h⟩ := of_sI h
       refine V_reg (mb 71 29360224) [176, 160, 40] (s1 := ⟨bt 5 (.pt 40 0 :: .ow 160 :: bt 15 (.ow 176 :: I ((y5.length : Int)) :: I t34 :: bt 46 [])), [(176, .arr 42 4 (y5.map c42)), (160, .arr 42 4 ((l31.set (Int.toNat (o20)) y15).map c42)), (40, .box [Ti y4.2.1, Ti y4.2.2.1, Ti y4.2.2.2.1, Ti y4.2.2.2.2])]⟩) ?_ ?_
       ·refine XR 2 ?_
        refine XL_nil ?_
        subst ht34
        kernel_rfl
       exact ⟨n, Nat.lt_succ_self n, _, _,  by rfl, h⟩
     ·have h := of_false h hc10
      refine V_exit ?_
      obtain rfl := some_inj h
      exact ⟨_, rfl, by rfl⟩
   rintro o9 rfl
   have h := hko9
   clear hko9
   show V _ _ _ _
   refine V_e (mb 71 12) [160] (s1 := ⟨.bot :: .bot :: .ow 160 :: Bo true :: bt 67 [], [(160, .arr 42 4 (o9.map c42))]⟩) ?_
   refine V_ret ?_
   obtain rfl := some_inj h
   show Post _ _ _ _ _
   exact ⟨.inr rfl, rfl, rfl, rfl⟩
theorem cf_impl_formText : ∀ args w, (callFunc 26 args).run Tryd.prog w = .ok (.enter 26 args) w := run_callFunc Tryd.func26 (by kernel_rfl) (by kernel_rfl)
theorem s_impl_formText {f1 : (Int × Int × Int)} {r : ByteArray} (h : r_impl_formText f1 = some r) : CallS Tryd.prog 26 [.ag [Ti f1.1, Ti f1.2.1, Ti f1.2.2]] (.c (.v (.string r))) [] := by
  refine CallS_of_text (rs := [.t 2]) (vs := [.tmp 2]) Tryd.func26 rfl rfl (.cons rfl FitsL.nil) (by decide) 18 rfl ?_
  unfold r_impl_formText at h
  show V _ _ ⟨.ag [Ti f1.1, Ti f1.2.1, Ti f1.2.2] :: bt 17 [], []⟩ _
  refine V_e (mb 18 2) [8] (s1 := ⟨.bot :: .pt 8 0 :: bt 16 [], [(8, .box [Ti f1.1, Ti f1.2.1, Ti f1.2.2])]⟩) ?_
  obtain ⟨y2, hy2, h⟩ := of_bind h
  obtain ⟨u3, hu3, h⟩ := of_bind h
  obtain ⟨u4, hu4, h⟩ := of_bind h
  obtain ⟨y5, hy5, h⟩ := of_bind h
  obtain ⟨u6, hu6, h⟩ := of_bind h
  obtain ⟨u7, hu7, h⟩ := of_bind h
  obtain ⟨y8, hy8, h⟩ := of_bind h
  obtain ⟨u9, hu9, h⟩ := of_bind h
  obtain ⟨u10, hu10, h⟩ := of_bind h
  refine V_sdreg [0, 1, 3, 7, 15, 0, 32, 103, 255, 511, 0, 1024, 3303, 8191, 16383, 32767] 16 (cdm 16 [10496000, 10496001, 10496005, 44083221, 44083285, 10486442, 10487466, 10491541, 44062037, 44127573, 699050, 1747626, 5920405, 22369621, 89478485, 357913941]) (mb 18 4) [] (s1 := ⟨.bot :: .bot :: .c (.v (.string ((((((((⟨#[40]⟩ : ByteArray)) ++ y2) ++ ((⟨#[44]⟩ : ByteArray))) ++ y5) ++ ((⟨#[44]⟩ : ByteArray))) ++ y8) ++ ((⟨#[41]⟩ : ByteArray))))) :: bt 15 [], []⟩) (by kernel_rfl) (by kernel_rfl) ?_ ?_
  ·refine DR 2 ?_
   refine DC 2 (s_strconv_Itoa hy2) cf_strconv_Itoa rfl rfl rfl rfl 5 rfl ?_
   refine DE_0 3 (.c (.v (.string (((⟨#[40]⟩ : ByteArray)) ++ y2)))) (by kernel_rfl) rfl rfl rfl (gsat_none rfl) (by kernel_rfl) (Y0_cat (a := (⟨#[40]⟩ : ByteArray)) (b := y2) rfl (by kernel_rfl) (by kernel_rfl) (catR_some hu3)) 6 rfl ?_
   refine DE_0 4 (.c (.v (.string ((((⟨#[40]⟩ : ByteArray)) ++ y2) ++ ((⟨#[44]⟩ : ByteArray)))))) (by kernel_rfl) rfl rfl rfl (gsat_none rfl) (by kernel_rfl) (Y0_cat (a := ((⟨#[40]⟩ : ByteArray)) ++ y2) (b := (⟨#[44]⟩ : ByteArray)) rfl (by kernel_rfl) (by kernel_rfl) (catR_some hu4)) 7 rfl ?_
   refine DR 2 ?_
   refine DC 7 (s_strconv_Itoa hy5) cf_strconv_Itoa rfl rfl rfl rfl 10 rfl ?_
   refine DE_0 8 (.c (.v (.string (((((⟨#[40]⟩ : ByteArray)) ++ y2) ++ ((⟨#[44]⟩ : ByteArray))) ++ y5)))) (by kernel_rfl) rfl rfl rfl (gsat_none rfl) (by kernel_rfl) (Y0_cat (a := (((⟨#[40]⟩ : ByteArray)) ++ y2) ++ ((⟨#[44]⟩ : ByteArray))) (b := y5) rfl (by kernel_rfl) (by kernel_rfl) (catR_some hu6)) 11 rfl ?_
   refine DE_0 9 (.c (.v (.string ((((((⟨#[40]⟩ : ByteArray)) ++ y2) ++ ((⟨#[44]⟩ : ByteArray))) ++ y5) ++ ((⟨#[44]⟩ : ByteArray)))))) (by kernel_rfl) rfl rfl rfl (gsat_none rfl) (by kernel_rfl) (Y0_cat (a := ((((⟨#[40]⟩ : ByteArray)) ++ y2) ++ ((⟨#[44]⟩ : ByteArray))) ++ y5) (b := (⟨#[44]⟩ : ByteArray)) rfl (by kernel_rfl) (by kernel_rfl) (catR_some hu7)) 12 rfl ?_
   refine DR 2 ?_
   refine DC 12 (s_strconv_Itoa hy8) cf_strconv_Itoa rfl rfl rfl rfl 15 rfl ?_
   refine DE_0 13 (.c (.v (.string (((((((⟨#[40]⟩ : ByteArray)) ++ y2) ++ ((⟨#[44]⟩ : ByteArray))) ++ y5) ++ ((⟨#[44]⟩ : ByteArray))) ++ y8)))) (by kernel_rfl) rfl rfl rfl (gsat_none rfl) (by kernel_rfl) (Y0_cat (a := (((((⟨#[40]⟩ : ByteArray)) ++ y2) ++ ((⟨#[44]⟩ : ByteArray))) ++ y5) ++ ((⟨#[44]⟩ : ByteArray))) (b := y8) rfl (by kernel_rfl) (by kernel_rfl) (catR_some hu9)) 16 rfl ?_
   refine DE_0 14 (.c (.v (.string ((((((((⟨#[40]⟩ : ByteArray)) ++ y2) ++ ((⟨#[44]⟩ : ByteArray))) ++ y5) ++ ((⟨#[44]⟩ : ByteArray))) ++ y8) ++ ((⟨#[41]⟩ : ByteArray)))))) (by kernel_rfl) rfl rfl rfl (gsat_none rfl) (by kernel_rfl) (Y0_cat (a := ((((((⟨#[40]⟩ : ByteArray)) ++ y2) ++ ((⟨#[44]⟩ : ByteArray))) ++ y5) ++ ((⟨#[44]⟩ : ByteArray))) ++ y8) (b := (⟨#[41]⟩ : ByteArray)) rfl (by kernel_rfl) (by kernel_rfl) (catR_some hu10)) 17 rfl ?_
   refine DA 1 ?_
   exact XE
  refine V_ret ?_
  obtain rfl := some_inj h
  show Post _ _ _ _ _
  exact ⟨.inr rfl, rfl, rfl, rfl⟩
theorem cf_impl_matrixText : ∀ args w, (callFunc 27 args).run Tryd.prog w = .ok (.enter 27 args) w := run_callFunc Tryd.func27 (by kernel_rfl) (by kernel_rfl)
theorem s_impl_matrixText {vm1 : (Int × Int × Int × Int)} {r : ByteArray} (h : r_impl_matrixText vm1 = some r) : CallS Tryd.prog 27 [.ag [Ti vm1.1, Ti vm1.2.1, Ti vm1.2.2.1, Ti vm1.2.2.2]] (.c (.v (.string r))) [] := by
  refine CallS_of_text (rs := [.t 2]) (vs := [.tmp 2]) Tryd.func27 rfl rfl (.cons rfl FitsL.nil) (by decide) 23 rfl ?_
  unfold r_impl_matrixText at h
  show V _ _ ⟨.ag [Ti vm1.1, Ti vm1.2.1, Ti vm1.2.2.1, Ti vm1.2.2.2] :: bt 22 [], []⟩ _
  refine V_e (mb 23 2) [8] (s1 := ⟨.bot :: .pt 8 0 :: bt 21 [], [(8, .box [Ti vm1.1, Ti vm1.2.1, Ti vm1.2.2.1, Ti vm1.2.2.2])]⟩) ?_
  obtain ⟨y2, hy2, h⟩ := of_bind h
  obtain ⟨u3, hu3, h⟩ := of_bind h
  obtain ⟨u4, hu4, h⟩ := of_bind h
  obtain ⟨y5, hy5, h⟩ := of_bind h
  obtain ⟨u6, hu6, h⟩ := of_bind h
  obtain ⟨u7, hu7, h⟩ := of_bind h
  obtain ⟨y8, hy8, h⟩ := of_bind h
  obtain ⟨u9, hu9, h⟩ := of_bind h
  obtain ⟨u10, hu10, h⟩ := of_bind h
  obtain ⟨y11, hy11, h⟩ := of_bind h
  obtain ⟨u12, hu12, h⟩ := of_bind h
  obtain ⟨u13, hu13, h⟩ := of_bind h
  refine V_sdreg [0, 1, 3, 7, 15, 0, 32, 103, 255, 511, 0, 1024, 3303, 8191, 16383, 0, 32768, 105703, 262143, 524287, 1048575] 21 (cdm 21 [10747914240, 10747914241, 10747914245, 45141239829, 45141239893, 10747904682, 10747905706, 10747909781, 45141218645, 45141284181, 10738117290, 10739165866, 10743338645, 45119526229, 45186635093, 715827882, 1789569706, 6062495381, 22906492245, 91625968981, 366503875925]) (mb 23 4) [] (s1 := ⟨.bot :: .bot :: .c (.v (.string ((((((((((⟨#[91]⟩ : ByteArray)) ++ y2) ++ ((⟨#[44]⟩ : ByteArray))) ++ y5) ++ ((⟨#[59]⟩ : ByteArray))) ++ y8) ++ ((⟨#[44]⟩ : ByteArray))) ++ y11) ++ ((⟨#[93]⟩ : ByteArray))))) :: bt 20 [], []⟩) (by kernel_rfl) (by kernel_rfl) ?_ ?_
  ·refine DR 2 ?_
   refine DC 2 (s_strconv_Itoa hy2) cf_strconv_Itoa rfl rfl rfl rfl 5 rfl ?_
   refine DE_0 3 (.c (.v (.string (((⟨#[91]⟩ : ByteArray)) ++ y2)))) (by kernel_rfl) rfl rfl rfl (gsat_none rfl) (by kernel_rfl) (Y0_cat (a := (⟨#[91]⟩ : ByteArray)) (b := y2) rfl (by kernel_rfl) (by kernel_rfl) (catR_some hu3)) 6 rfl ?_
   refine DE_0 4 (.c (.v (.string ((((⟨#[91]⟩ : ByteArray)) ++ y2) ++ ((⟨#[44]⟩ : ByteArray)))))) (by kernel_rfl) rfl rfl rfl (gsat_none rfl) (by kernel_rfl) (Y0_cat (a := ((⟨#[91]⟩ : ByteArray)) ++ y2) (b := (⟨#[44]⟩ : ByteArray)) rfl (by kernel_rfl) (by kernel_rfl) (catR_some hu4)) 7 rfl ?_
   refine DR 2 ?_
   refine DC 7 (s_strconv_Itoa hy5) cf_strconv_Itoa rfl rfl rfl rfl 10 rfl ?_
   refine DE_0 8 (.c (.v (.string (((((⟨#[91]⟩ : ByteArray)) ++ y2) ++ ((⟨#[44]⟩ : ByteArray))) ++ y5)))) (by kernel_rfl) rfl rfl rfl (gsat_none rfl) (by kernel_rfl) (Y0_cat (a := (((⟨#[91]⟩ : ByteArray)) ++ y2) ++ ((⟨#[44]⟩ : ByteArray))) (b := y5) rfl (by kernel_rfl) (by kernel_rfl) (catR_some hu6)) 11 rfl ?_
   refine DE_0 9 (.c (.v (.string ((((((⟨#[91]⟩ : ByteArray)) ++ y2) ++ ((⟨#[44]⟩ : ByteArray))) ++ y5) ++ ((⟨#[59]⟩ : ByteArray)))))) (by kernel_rfl) rfl rfl rfl (gsat_none rfl) (by kernel_rfl) (Y0_cat (a := ((((⟨#[91]⟩ : ByteArray)) ++ y2) ++ ((⟨#[44]⟩ : ByteArray))) ++ y5) (b := (⟨#[59]⟩ : ByteArray)) rfl (by kernel_rfl) (by kernel_rfl) (catR_some hu7)) 12 rfl ?_
   refine DR 2 ?_
   refine DC 12 (s_strconv_Itoa hy8) cf_strconv_Itoa rfl rfl rfl rfl 15 rfl ?_
   refine DE_0 13 (.c (.v (.string (((((((⟨#[91]⟩ : ByteArray)) ++ y2) ++ ((⟨#[44]⟩ : ByteArray))) ++ y5) ++ ((⟨#[59]⟩ : ByteArray))) ++ y8)))) (by kernel_rfl) rfl rfl rfl (gsat_none rfl) (by kernel_rfl) (Y0_cat (a := (((((⟨#[91]⟩ : ByteArray)) ++ y2) ++ ((⟨#[44]⟩ : ByteArray))) ++ y5) ++ ((⟨#[59]⟩ : ByteArray))) (b := y8) rfl (by kernel_rfl) (by kernel_rfl) (catR_some hu9)) 16 rfl ?_
   refine DE_0 14 (.c (.v (.string ((((((((⟨#[91]⟩ : ByteArray)) ++ y2) ++ ((⟨#[44]⟩ : ByteArray))) ++ y5) ++ ((⟨#[59]⟩ : ByteArray))) ++ y8) ++ ((⟨#[44]⟩ : ByteArray)))))) (by kernel_rfl) rfl rfl rfl (gsat_none rfl) (by kernel_rfl) (Y0_cat (a := ((((((⟨#[91]⟩ : ByteArray)) ++ y2) ++ ((⟨#[44]⟩ : ByteArray))) ++ y5) ++ ((⟨#[59]⟩ : ByteArray))) ++ y8) (b := (⟨#[44]⟩ : ByteArray)) rfl (by kernel_rfl) (by kernel_rfl) (catR_some hu10)) 17 rfl ?_
   refine DR 2 ?_
   refine DC 17 (s_strconv_Itoa hy11) cf_strconv_Itoa rfl rfl rfl rfl 20 rfl ?_
   refine DE_0 18 (.c (.v (.string (((((((((⟨#[91]⟩ : ByteArray)) ++ y2) ++ ((⟨#[44]⟩ : ByteArray))) ++ y5) ++ ((⟨#[59]⟩ : ByteArray))) ++ y8) ++ ((⟨#[44]⟩ : ByteArray))) ++ y11)))) (by kernel_rfl) rfl rfl rfl (gsat_none rfl) (by kernel_rfl) (Y0_cat (a := (((((((⟨#[91]⟩ : ByteArray)) ++ y2) ++ ((⟨#[44]⟩ : ByteArray))) ++ y5) ++ ((⟨#[59]⟩ : ByteArray))) ++ y8) ++ ((⟨#[44]⟩ : ByteArray))) (b := y11) rfl (by kernel_rfl) (by kernel_rfl) (catR_some hu12)) 21 rfl ?_
   refine DE_0 19 (.c (.v (.string ((((((((((⟨#[91]⟩ : ByteArray)) ++ y2) ++ ((⟨#[44]⟩ : ByteArray))) ++ y5) ++ ((⟨#[59]⟩ : ByteArray))) ++ y8) ++ ((⟨#[44]⟩ : ByteArray))) ++ y11) ++ ((⟨#[93]⟩ : ByteArray)))))) (by kernel_rfl) rfl rfl rfl (gsat_none rfl) (by kernel_rfl) (Y0_cat (a := ((((((((⟨#[91]⟩ : ByteArray)) ++ y2) ++ ((⟨#[44]⟩ : ByteArray))) ++ y5) ++ ((⟨#[59]⟩ : ByteArray))) ++ y8) ++ ((⟨#[44]⟩ : ByteArray))) ++ y11) (b := (⟨#[93]⟩ : ByteArray)) rfl (by kernel_rfl) (by kernel_rfl) (catR_some hu13)) 22 rfl ?_
   refine DA 1 ?_
   exact XE
  refine V_ret ?_
  obtain rfl := some_inj h
  show Post _ _ _ _ _
  exact ⟨.inr rfl, rfl, rfl, rfl⟩
theorem cf_impl_certificate : ∀ args w, (callFunc 25 args).run Tryd.prog w = .ok (.enter 25 args) w := run_callFunc Tryd.func25 (by kernel_rfl) (by kernel_rfl)
theorem s_impl_certificate {kind1 : ByteArray} {words2 : List ByteArray} {r : ByteArray} (h : r_impl_certificate kind1 words2 = some r) : CallS Tryd.prog 25 [.c (.v (.string kind1)), .c (.sl (words2.map c9))] (.c (.v (.string r))) [] := by
  refine CallS_of_text (rs := [.t 4]) (vs := [.tmp 4]) Tryd.func25 rfl rfl (.cons rfl FitsL.nil) (by decide) 10 rfl ?_
  unfold r_impl_certificate at h
  show V _ _ ⟨.c (.v (.string kind1)) :: .c (.sl (words2.map c9)) :: bt 8 [], []⟩ _
  refine V_e (mb 10 3) [] (s1 := ⟨.c (.v (.string kind1)) :: .c (.sl (words2.map c9)) :: bt 8 [], []⟩) ?_
  obtain ⟨u3, hu3, h⟩ := of_bind h
  obtain ⟨y4, hy4, h⟩ := of_bind h
  obtain ⟨u5, hu5, h⟩ := of_bind h
  refine V_sreg (mb 10 16) [] (s1 := ⟨bt 4 (.c (.v (.string ((kind1 ++ ((⟨#[32]⟩ : ByteArray))) ++ y4))) :: bt 5 []), []⟩) ?_ ?_
  ·refine XR 1 ?_
   refine L0 rfl rfl (Y0_cat (a := kind1) (b := (⟨#[32]⟩ : ByteArray)) rfl (by kernel_rfl) (by kernel_rfl) (catR_some hu3)) ?_
   refine XR 1 ?_
   refine XC (s_strings_Join hy4) cf_strings_Join rfl rfl rfl ?_
   refine L0 rfl rfl (Y0_cat (a := kind1 ++ ((⟨#[32]⟩ : ByteArray))) (b := y4) rfl (by kernel_rfl) (by kernel_rfl) (catR_some hu5)) ?_
   exact XE
  refine V_ret ?_
  obtain rfl := some_inj h
  show Post _ _ _ _ _
  exact ⟨.inr rfl, rfl, rfl, rfl⟩
end Go.Proofs.YtnifkkihamgmaaaDoor
