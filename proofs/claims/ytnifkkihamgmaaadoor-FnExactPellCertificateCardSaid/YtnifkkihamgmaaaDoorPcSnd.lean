/-
  The functions of the program compute what the plain functions say.
  Conditions: none.
-/
import Derived.Test.YtnifkkihamgmaaaDoorShLi
import Derived.Test.YtnifkkihamgmaaaDoorShEx
import Derived.Test.YtnifkkihamgmaaaDoorShFy
import Derived.Test.YtnifkkihamgmaaaDoorPcRaw
import Derived.Test.YtnifkkihamgmaaaDoorRows
namespace Go.Proofs.YtnifkkihamgmaaaDoor
open Go.RowKit
set_option linter.unusedVariables false
set_option linter.unusedSimpArgs false
set_option maxRecDepth 100000
set_option maxHeartbeats 400000
def c5 (x : Int) : List Tr := [.v (.int .u8 x)]
def c9 (x : ByteArray) : List Tr := [.v (.string x)]
def c3 (x : Int) : List Tr := [Ti x]
def zv3 : Value := .int .i64 0
theorem zf3 : (Tryd.prog.info? 3).bind (·.zero) = some zv3 := by kernel_rfl
def zv5 : Value := .int .u8 0
theorem zf5 : (Tryd.prog.info? 5).bind (·.zero) = some zv5 := by kernel_rfl
def zv9 : Value := .string ByteArray.empty
theorem zf9 : (Tryd.prog.info? 9).bind (·.zero) = some zv9 := by kernel_rfl
def zv27 : Value := .agg #[.int .i64 0, .int .i64 0, .int .i64 0]
theorem zf27 : (Tryd.prog.info? 27).bind (·.zero) = some zv27 := by kernel_rfl
def zv42 : Value := .agg #[.int .i64 0, .int .i64 0, .int .i64 0, .int .i64 0]
theorem zf42 : (Tryd.prog.info? 42).bind (·.zero) = some zv42 := by kernel_rfl
def zv51 : Value := .agg #[.int .i64 0, .int .i64 0]
theorem zf51 : (Tryd.prog.info? 51).bind (·.zero) = some zv51 := by kernel_rfl
theorem iz3 : (Tryd.prog.info? 3).map (fun i => (i.zero, i.size)) = some (some zv3, 1) := by kernel_rfl
theorem iz5 : (Tryd.prog.info? 5).map (fun i => (i.zero, i.size)) = some (some zv5, 1) := by kernel_rfl
theorem iz9 : (Tryd.prog.info? 9).map (fun i => (i.zero, i.size)) = some (some zv9, 1) := by kernel_rfl
theorem sc3 : scalar Tryd.prog 3 := ⟨_, Tryd.underlying3, rfl⟩
theorem sc9 : scalar Tryd.prog 9 := ⟨_, Tryd.underlying9, rfl⟩
theorem sz3 : (Tryd.prog.info? 3).map (·.size) = some 1 := by kernel_rfl
theorem sz9 : (Tryd.prog.info? 9).map (·.size) = some 1 := by kernel_rfl
theorem sz27 : (Tryd.prog.info? 27).map (·.size) = some 3 := by kernel_rfl
theorem sz42 : (Tryd.prog.info? 42).map (·.size) = some 4 := by kernel_rfl
theorem sz51 : (Tryd.prog.info? 51).map (·.size) = some 2 := by kernel_rfl
theorem wd27 : wide Tryd.prog 27 3 := ⟨⟨_, Tryd.underlying27, rfl⟩, by kernel_rfl⟩
theorem wd42 : wide Tryd.prog 42 4 := ⟨⟨_, Tryd.underlying42, rfl⟩, by kernel_rfl⟩
theorem wd51 : wide Tryd.prog 51 2 := ⟨⟨_, Tryd.underlying51, rfl⟩, by kernel_rfl⟩
def pl27 : Nat → Option (Nat × Nat) := fun i => (#[(0, 1), (1, 1), (2, 1)] : Array (Nat × Nat))[i]?
theorem bt27 : ∀ ps, Tryd.prog.built 27 ps = Instr.fill pl27 #[.int .i64 0, .int .i64 0, .int .i64 0] ps := fun ps => by kernel_rfl
def pl42 : Nat → Option (Nat × Nat) := fun i => (#[(0, 1), (1, 1), (2, 1), (3, 1)] : Array (Nat × Nat))[i]?
theorem bt42 : ∀ ps, Tryd.prog.built 42 ps = Instr.fill pl42 #[.int .i64 0, .int .i64 0, .int .i64 0, .int .i64 0] ps := fun ps => by kernel_rfl
def pl51 : Nat → Option (Nat × Nat) := fun i => (#[(0, 1), (1, 1)] : Array (Nat × Nat))[i]?
theorem bt51 : ∀ ps, Tryd.prog.built 51 ps = Instr.fill pl51 #[.int .i64 0, .int .i64 0] ps := fun ps => by kernel_rfl
theorem eqg27 : EqAg3 Tryd.prog .eql 27 := by
  intro a0 a1 a2 b0 b1 b2 x y w
  have hg : (eqGuard .eql 27 x y (.agg #[.int .i64 a0, .int .i64 a1, .int .i64 a2]) (.agg #[.int .i64 b0, .int .i64 b1, .int .i64 b2])).run Tryd.prog w = .ok () w := by simp [eqGuard, (by kernel_rfl : Tryd.prog.eqGuardType Tryd.prog.depth 27 = false)]
  have hf : (Tryd.prog.fieldsOf 27).toList = (match Tryd.prog.underlying 27 with | some (.struct fs) => fs.toList | _ => []) := by kernel_rfl
  refine ⟨hg, ?_⟩
  rw [run_eql_struct, run_equalIn_agg (d := 9999) (ht := by kernel_rfl) (hp := by kernel_rfl), hf, Tryd.underlying27]
  by_cases h0 : a0 = b0 <;> by_cases h1 : a1 = b1 <;> by_cases h2 : a2 = b2 <;> simp [Op.eqFields, part, go_sem, h0, h1, h2]
theorem neg27 : EqAg3 Tryd.prog .neq 27 := by
  intro a0 a1 a2 b0 b1 b2 x y w
  have hg : (eqGuard .neq 27 x y (.agg #[.int .i64 a0, .int .i64 a1, .int .i64 a2]) (.agg #[.int .i64 b0, .int .i64 b1, .int .i64 b2])).run Tryd.prog w = .ok () w := by simp [eqGuard, (by kernel_rfl : Tryd.prog.eqGuardType Tryd.prog.depth 27 = false)]
  have hf : (Tryd.prog.fieldsOf 27).toList = (match Tryd.prog.underlying 27 with | some (.struct fs) => fs.toList | _ => []) := by kernel_rfl
  refine ⟨hg, ?_⟩
  rw [run_neq_struct, run_equalIn_agg (d := 9999) (ht := by kernel_rfl) (hp := by kernel_rfl), hf, Tryd.underlying27]
  by_cases h0 : a0 = b0 <;> by_cases h1 : a1 = b1 <;> by_cases h2 : a2 = b2 <;> simp [Op.eqFields, part, go_sem, h0, h1, h2]
theorem cx_143 : ∀ args w, (callFunc 143 args).run Tryd.prog w = ((Extern.MathSqrt.sqrt args).run Tryd.prog w).andThen fun v w' => .ok (.value v) w' := fun args w => run_callFunc_extern Tryd.func143 (by kernel_rfl) (by kernel_rfl) (by kernel_rfl) (by kernel_rfl) args w
theorem cf_spec_l1In : ∀ args w, (callFunc 55 args).run Tryd.prog w = .ok (.enter 55 args) w := run_callFunc Tryd.func55 (by kernel_rfl) (by kernel_rfl)
theorem s_spec_l1In {vn1 : Int} {lo2 : Int} {hi3 : Int} {r : Bool} (h : r_spec_l1In vn1 lo2 hi3 = some r) : CallS Tryd.prog 55 [I vn1, I lo2, I hi3] (Bo r) [] := by
  refine CallS_of_text (rs := [.t 6]) (vs := [.tmp 6]) Tryd.func55 rfl rfl (.cons rfl FitsL.nil) (by decide) 15 rfl ?_
  unfold r_spec_l1In at h
  show V _ _ ⟨I vn1 :: I lo2 :: I hi3 :: bt 12 [], []⟩ _
  refine V_e (mb 15 7) [] (s1 := ⟨I vn1 :: I lo2 :: I hi3 :: bt 12 [], []⟩) ?_
  refine V_sreg (mb 15 64) [] (s1 := ⟨bt 6 (Bo (bif (leI lo2 vn1) then (leI vn1 hi3) else false) :: bt 8 []), []⟩) ?_ ?_
  ·refine XR 4 ?_
   refine XL_split (leI lo2 vn1) (fun hc4 => ?_) (fun hc4 => ?_)
   ·refine XL_takeC _ rfl rfl (by kernel_rfl) hc4 (X_of_Y0 rfl (E_move (I vn1) rfl (by kernel_rfl))) ?_
    refine XL_takeC _ rfl rfl (by kernel_rfl) hc4 (X_of_Y0 rfl (E_move (I hi3) rfl (by kernel_rfl))) ?_
    refine XL_takeC _ rfl rfl (by kernel_rfl) hc4 (X_of_Y0 rfl (Y0_lew (k := .i64) (a := vn1) (b := hi3) rfl (by kernel_rfl) (by kernel_rfl))) ?_
    refine XL_cons rfl (X_of_Y0 rfl (Y0_pick1 (b := leI lo2 vn1) (p := leI vn1 hi3) (q := false) rfl (by kernel_rfl) hc4 (by kernel_rfl))) ?_
    exact XE
   ·refine XL_skipT _ rfl rfl (by kernel_rfl) hc4 rfl ?_
    refine XL_skipT _ rfl rfl (by kernel_rfl) hc4 rfl ?_
    refine XL_skipT _ rfl rfl (by kernel_rfl) hc4 rfl ?_
    refine XL_cons rfl (X_of_Y0 rfl (Y0_pick0 (b := leI lo2 vn1) (p := leI vn1 hi3) (q := false) rfl (by kernel_rfl) hc4 (by kernel_rfl))) ?_
    exact XE
  refine V_ret ?_
  obtain rfl := some_inj h
  show Post _ _ _ _ _
  exact ⟨.inr rfl, rfl, rfl, rfl⟩
theorem cf_spec_nuMod : ∀ args w, (callFunc 84 args).run Tryd.prog w = .ok (.enter 84 args) w := run_callFunc Tryd.func84 (by kernel_rfl) (by kernel_rfl)
theorem s_spec_nuMod {a1 : Int} {vm2 : Int} {r : Int} (h : r_spec_nuMod a1 vm2 = some r) : CallS Tryd.prog 84 [I a1, I vm2] (I r) [] := by
  refine CallS_of_text (rs := [.t 4]) (vs := [.tmp 4]) Tryd.func84 rfl rfl (.cons rfl FitsL.nil) (by decide) 15 rfl ?_
  unfold r_spec_nuMod at h
  show V _ _ ⟨I a1 :: I vm2 :: bt 13 [], []⟩ _
  refine V_e (mb 15 3) [] (s1 := ⟨I a1 :: I vm2 :: bt 13 [], []⟩) ?_
  obtain ⟨z3, hz3, h⟩ := of_bind h
  obtain ⟨vr4, hvr4, h⟩ := of_sI h
  refine V_sreg (mb 15 34) [] (s1 := ⟨.bot :: I vm2 :: bt 3 (I vr4 :: bt 9 []), []⟩) ?_ ?_
  ·refine XR 2 ?_
   refine L0 rfl rfl (Y0_rem (k := .i64) (a := a1) (b := vm2) rfl (by kernel_rfl) (by kernel_rfl) (nz_some hz3)) ?_
   refine XR 1 ?_
   refine XL_nil ?_
   subst hvr4
   kernel_rfl
  refine V_seq ?_
  refine V_e (mb 15 1058) [] (s1 := ⟨.bot :: I vm2 :: bt 3 (I vr4 :: bt 4 (Bo (ltI vr4 0) :: bt 4 [])), []⟩) ?_
  refine V_cond rfl (fun hc5 => ?_) (fun hc5 => ?_)
  ·have h := of_true h hc5
   obtain ⟨vr6, hvr6, h⟩ := of_sI h
   refine V_reg (mb 15 32) [] (s1 := ⟨bt 5 (I vr6 :: bt 9 []), []⟩) ?_ ?_
   ·refine XR 4 ?_
    refine XL_nil ?_
    subst hvr6
    kernel_rfl
   show V _ _ _ _
   refine V_e (mb 15 16) [] (s1 := ⟨bt 4 (I vr6 :: bt 10 []), []⟩) ?_
   refine V_ret ?_
   obtain rfl := some_inj h
   show Post _ _ _ _ _
   exact ⟨.inr rfl, rfl, rfl, rfl⟩
  ·have h := of_false h hc5
   refine V_skip ?_
   show V _ _ _ _
   refine V_e (mb 15 16) [] (s1 := ⟨bt 4 (I vr4 :: bt 10 []), []⟩) ?_
   refine V_ret ?_
   obtain rfl := some_inj h
   show Post _ _ _ _ _
   exact ⟨.inr rfl, rfl, rfl, rfl⟩
theorem cf_spec_nuRoot : ∀ args w, (callFunc 114 args).run Tryd.prog w = .ok (.enter 114 args) w := run_callFunc Tryd.func114 (by kernel_rfl) (by kernel_rfl)
theorem s_spec_nuRoot {vn1 : Int} {r : Int} (h : r_spec_nuRoot vn1 = some r) : CallS Tryd.prog 114 [I vn1] (I r) [] := by
  refine CallS_of_text (rs := [.t 2]) (vs := [.tmp 2]) Tryd.func114 rfl rfl (.cons rfl FitsL.nil) (by decide) 23 rfl ?_
  unfold r_spec_nuRoot at h
  show V _ _ ⟨I vn1 :: bt 22 [], []⟩ _
  refine V_e (mb 23 1) [] (s1 := ⟨I vn1 :: bt 22 [], []⟩) ?_
  refine V_e (mb 23 25) [] (s1 := ⟨I vn1 :: .bot :: .bot :: I 0 :: I 1000000000 :: bt 18 [], []⟩) ?_
  refine V_seq ?_
  obtain ⟨o5, hLo5, h⟩ := of_bind h
  refine V_toK (mb 23 8) [] (s1 := ⟨bt 3 (I o5 :: bt 19 []), []⟩) ?_ ?_
  ·clear h
   refine V_block (V_loop (fun n s => ∃ (lo2 : Int) (hi3 : Int), s.keep (mb 23 25) [] = (⟨I vn1 :: .bot :: .bot :: I lo2 :: I hi3 :: bt 18 [], []⟩ : St) ∧ r_spec_nuRoot_L4 vn1 n lo2 hi3 = some o5) FU ⟨_, _,  by rfl, hLo5⟩ ?_)
   clear hLo5
   rintro n s ⟨lo2, hi3, hs, h⟩
   refine V_keep _ _ hs ?_
   clear hs
   cases n with
   | zero => cases h
   | succ n =>
    rw [r_spec_nuRoot_L4] at h
    refine V_seq ?_
    refine V_e (mb 23 281) [] (s1 := ⟨I vn1 :: .bot :: .bot :: I lo2 :: I hi3 :: bt 3 (Bo (ltI lo2 hi3) :: bt 14 []), []⟩) ?_
    refine V_cond rfl (fun hc6 => ?_) (fun hc6 => ?_)
    ·have h := of_true h hc6
     refine V_skip ?_
     show V _ _ _ _
     refine V_block ?_
     obtain ⟨mid7, hmid7, h⟩ := of_sI h
     refine V_sreg (mb 23 57) [] (s1 := ⟨I vn1 :: .bot :: .bot :: I lo2 :: I hi3 :: I mid7 :: bt 17 [], []⟩) ?_ ?_
     ·refine XR 4 ?_
      refine L0 rfl rfl (Y0_quo64 (a := w64 ((w64 (lo2 + hi3)) + 1)) (b := 2) rfl (by kernel_rfl) (by kernel_rfl) (by decide)) ?_
      refine XR 1 ?_
      refine XL_nil ?_
      subst hmid7
      kernel_rfl
     refine V_e (mb 23 262201) [] (s1 := ⟨I vn1 :: .bot :: .bot :: I lo2 :: I hi3 :: I mid7 :: bt 12 (Bo (leI (w64 (mid7 * mid7)) vn1) :: bt 4 []), []⟩) ?_
     refine V_cond rfl (fun hc8 => ?_) (fun hc8 => ?_)
     ·have h := of_true h hc8
      refine V_reg (mb 23 25) [] (s1 := ⟨I vn1 :: .bot :: .bot :: I mid7 :: I hi3 :: bt 18 [], []⟩) ?_ ?_
      ·exact XE
      exact ⟨n, Nat.lt_succ_self n, _, _,  by rfl, h⟩
     ·have h := of_false h hc8
      obtain ⟨hi9, hhi9, h⟩ := of_sI h
      refine V_reg (mb 23 25) [] (s1 := ⟨I vn1 :: .bot :: .bot :: I lo2 :: I hi9 :: bt 18 [], []⟩) ?_ ?_
      ·refine XR 3 ?_
       refine XL_nil ?_
       subst hhi9
       kernel_rfl
      exact ⟨n, Nat.lt_succ_self n, _, _,  by rfl, h⟩
    ·have h := of_false h hc6
     refine V_exit ?_
     obtain rfl := some_inj h
     show St.keep _ _ _ = _
     rfl
  show V _ _ _ _
  refine V_e (mb 23 4) [] (s1 := ⟨.bot :: .bot :: I o5 :: bt 20 [], []⟩) ?_
  refine V_ret ?_
  obtain rfl := some_inj h
  show Post _ _ _ _ _
  exact ⟨.inr rfl, rfl, rfl, rfl⟩
theorem cf_spec_nuSquare : ∀ args w, (callFunc 85 args).run Tryd.prog w = .ok (.enter 85 args) w := run_callFunc Tryd.func85 (by kernel_rfl) (by kernel_rfl)
theorem s_spec_nuSquare {vn1 : Int} {r : Bool} (h : r_spec_nuSquare vn1 = some r) : CallS Tryd.prog 85 [I vn1] (Bo r) [] := by
  refine CallS_of_text (rs := [.t 2]) (vs := [.tmp 2]) Tryd.func85 rfl rfl (.cons rfl FitsL.nil) (by decide) 13 rfl ?_
  unfold r_spec_nuSquare at h
  show V _ _ ⟨I vn1 :: bt 12 [], []⟩ _
  refine V_e (mb 13 1) [] (s1 := ⟨I vn1 :: bt 12 [], []⟩) ?_
  refine V_seq ?_
  refine V_e (mb 13 33) [] (s1 := ⟨I vn1 :: bt 4 (Bo (ltI vn1 0) :: bt 7 []), []⟩) ?_
  refine V_cond rfl (fun hc2 => ?_) (fun hc2 => ?_)
  ·have h := of_true h hc2
   refine V_e (mb 13 4) [] (s1 := ⟨.bot :: .bot :: Bo false :: bt 10 [], []⟩) ?_
   refine V_ret ?_
   obtain rfl := some_inj h
   show Post _ _ _ _ _
   exact ⟨.inr rfl, rfl, rfl, rfl⟩
  ·have h := of_false h hc2
   refine V_skip ?_
   show V _ _ _ _
   obtain ⟨y3, hy3, h⟩ := of_bind h
   refine V_sreg (mb 13 9) [] (s1 := ⟨I vn1 :: .bot :: .bot :: I y3 :: bt 9 [], []⟩) ?_ ?_
   ·refine XR 1 ?_
    refine XC (s_spec_nuRoot hy3) cf_spec_nuRoot rfl rfl rfl ?_
    exact XE
   refine V_e (mb 13 4) [] (s1 := ⟨.bot :: .bot :: Bo (eqI (w64 (y3 * y3)) vn1) :: bt 10 [], []⟩) ?_
   refine V_ret ?_
   obtain rfl := some_inj h
   show Post _ _ _ _ _
   exact ⟨.inr rfl, rfl, rfl, rfl⟩
theorem cf_spec_cyDisc : ∀ args w, (callFunc 53 args).run Tryd.prog w = .ok (.enter 53 args) w := run_callFunc Tryd.func53 (by kernel_rfl) (by kernel_rfl)
theorem s_spec_cyDisc {d1 : Int} {r : Bool} (h : r_spec_cyDisc d1 = some r) : CallS Tryd.prog 53 [I d1] (Bo r) [] := by
  refine CallS_of_text (rs := [.t 2]) (vs := [.tmp 2]) Tryd.func53 rfl rfl (.cons rfl FitsL.nil) (by decide) 15 rfl ?_
  unfold r_spec_cyDisc at h
  show V _ _ ⟨I d1 :: bt 14 [], []⟩ _
  refine V_e (mb 15 1) [] (s1 := ⟨I d1 :: bt 14 [], []⟩) ?_
  obtain ⟨y2, hy2, h⟩ := of_bind h
  obtain ⟨b5, hb5, h⟩ := of_bind h
  obtain ⟨b8, hb8, h⟩ := of_bind h
  refine V_sreg (mb 15 4) [] (s1 := ⟨.bot :: .bot :: Bo b8 :: bt 12 [], []⟩) ?_ ?_
  ·refine XR 1 ?_
   refine XC (s_spec_l1In hy2) cf_spec_l1In rfl rfl rfl ?_
   refine XR 1 ?_
   refine XL_split y2 (fun hc3 => ?_) (fun hc3 => ?_)
   ·have hb5 := of_true hb5 hc3
    obtain ⟨y4, hy4, hb5⟩ := of_bind hb5
    have hb5 := some_inj hb5
    refine XL_takeC _ rfl rfl (by kernel_rfl) hc3 (X_of_Y0 rfl (E_move (I d1) rfl (by kernel_rfl))) ?_
    refine XL_takeC _ rfl rfl (by kernel_rfl) hc3 (X_of_Y1 rfl (Y1_call (s_spec_nuMod hy4) cf_spec_nuMod rfl (by kernel_rfl))) ?_
    refine XL_takeC _ rfl rfl (by kernel_rfl) hc3 (X_of_Y0 rfl (Y0_ltw (k := .i64) (a := y4) (b := 2) rfl (by kernel_rfl) (by kernel_rfl))) ?_
    refine XL_cons rfl (X_of_Y0 rfl (Y0_pickTe (b := y2) (p := ltI y4 2) rfl (by kernel_rfl) hc3 (by kernel_rfl) hb5)) ?_
    refine XR 1 ?_
    refine XL_split b5 (fun hc6 => ?_) (fun hc6 => ?_)
    ·have hb8 := of_true hb8 hc6
     obtain ⟨y7, hy7, hb8⟩ := of_bind hb8
     have hb8 := some_inj hb8
     refine XL_takeC _ rfl rfl (by kernel_rfl) hc6 (X_of_Y0 rfl (E_move (I d1) rfl (by kernel_rfl))) ?_
     refine XL_takeC _ rfl rfl (by kernel_rfl) hc6 (X_of_Y1 rfl (Y1_call (s_spec_nuSquare hy7) cf_spec_nuSquare rfl (by kernel_rfl))) ?_
     refine XL_takeC _ rfl rfl (by kernel_rfl) hc6 (X_of_Y0 rfl (Y0_not (b := y7) rfl (by kernel_rfl))) ?_
     refine XL_cons rfl (X_of_Y0 rfl (Y0_pickTe (b := b5) (p := !y7) rfl (by kernel_rfl) hc6 (by kernel_rfl) hb8)) ?_
     exact XE
    ·have hb8 := some_inj (of_false hb8 hc6)
     refine XL_skipT _ rfl rfl (by kernel_rfl) hc6 rfl ?_
     refine XL_skipT _ rfl rfl (by kernel_rfl) hc6 rfl ?_
     refine XL_skipT _ rfl rfl (by kernel_rfl) hc6 rfl ?_
     refine XL_cons rfl (X_of_Y0 rfl (Y0_pickFe (b := b5) (p := false) rfl (by kernel_rfl) hc6 (by kernel_rfl) hb8)) ?_
     exact XE
   ·have hb5 := some_inj (of_false hb5 hc3)
    refine XL_skipT _ rfl rfl (by kernel_rfl) hc3 rfl ?_
    refine XL_skipT _ rfl rfl (by kernel_rfl) hc3 rfl ?_
    refine XL_skipT _ rfl rfl (by kernel_rfl) hc3 rfl ?_
    refine XL_cons rfl (X_of_Y0 rfl (Y0_pickFe (b := y2) (p := false) rfl (by kernel_rfl) hc3 (by kernel_rfl) hb5)) ?_
    refine XR 1 ?_
    refine XL_split b5 (fun hc6 => ?_) (fun hc6 => ?_)
    ·have hb8 := of_true hb8 hc6
     obtain ⟨y7, hy7, hb8⟩ := of_bind hb8
     have hb8 := some_inj hb8
     refine XL_takeC _ rfl rfl (by kernel_rfl) hc6 (X_of_Y0 rfl (E_move (I d1) rfl (by kernel_rfl))) ?_
     refine XL_takeC _ rfl rfl (by kernel_rfl) hc6 (X_of_Y1 rfl (Y1_call (s_spec_nuSquare hy7) cf_spec_nuSquare rfl (by kernel_rfl))) ?_
     refine XL_takeC _ rfl rfl (by kernel_rfl) hc6 (X_of_Y0 rfl (Y0_not (b := y7) rfl (by kernel_rfl))) ?_
     refine XL_cons rfl (X_of_Y0 rfl (Y0_pickTe (b := b5) (p := !y7) rfl (by kernel_rfl) hc6 (by kernel_rfl) hb8)) ?_
     exact XE
    ·have hb8 := some_inj (of_false hb8 hc6)
     refine XL_skipT _ rfl rfl (by kernel_rfl) hc6 rfl ?_
     refine XL_skipT _ rfl rfl (by kernel_rfl) hc6 rfl ?_
     refine XL_skipT _ rfl rfl (by kernel_rfl) hc6 rfl ?_
     refine XL_cons rfl (X_of_Y0 rfl (Y0_pickFe (b := b5) (p := false) rfl (by kernel_rfl) hc6 (by kernel_rfl) hb8)) ?_
     exact XE
  refine V_ret ?_
  obtain rfl := some_inj h
  show Post _ _ _ _ _
  exact ⟨.inr rfl, rfl, rfl, rfl⟩
theorem cf_spec_nuGood : ∀ args w, (callFunc 30 args).run Tryd.prog w = .ok (.enter 30 args) w := run_callFunc Tryd.func30 (by kernel_rfl) (by kernel_rfl)
theorem s_spec_nuGood {vn1 : Int} {r : Bool} (h : r_spec_nuGood vn1 = some r) : CallS Tryd.prog 30 [I vn1] (Bo r) [] := by
  refine CallS_of_text (rs := [.t 2]) (vs := [.tmp 2]) Tryd.func30 rfl rfl (.cons rfl FitsL.nil) (by decide) 5 rfl ?_
  unfold r_spec_nuGood at h
  show V _ _ ⟨I vn1 :: bt 4 [], []⟩ _
  refine V_e (mb 5 1) [] (s1 := ⟨I vn1 :: bt 4 [], []⟩) ?_
  obtain ⟨y2, hy2, h⟩ := of_bind h
  refine V_sreg (mb 5 4) [] (s1 := ⟨.bot :: .bot :: Bo y2 :: .bot :: .bot :: [], []⟩) ?_ ?_
  ·refine XR 1 ?_
   refine XC (s_spec_l1In hy2) cf_spec_l1In rfl rfl rfl ?_
   exact XE
  refine V_ret ?_
  obtain rfl := some_inj h
  show Post _ _ _ _ _
  exact ⟨.inr rfl, rfl, rfl, rfl⟩
theorem cf_spec_diIs : ∀ args w, (callFunc 115 args).run Tryd.prog w = .ok (.enter 115 args) w := run_callFunc Tryd.func115 (by kernel_rfl) (by kernel_rfl)
theorem s_spec_diIs {d1 : Int} {r : Bool} (h : r_spec_diIs d1 = some r) : CallS Tryd.prog 115 [I d1] (Bo r) [] := by
  refine CallS_of_text (rs := [.t 2]) (vs := [.tmp 2]) Tryd.func115 rfl rfl (.cons rfl FitsL.nil) (by decide) 15 rfl ?_
  unfold r_spec_diIs at h
  show V _ _ ⟨I d1 :: bt 14 [], []⟩ _
  refine V_e (mb 15 1) [] (s1 := ⟨I d1 :: bt 14 [], []⟩) ?_
  obtain ⟨y2, hy2, h⟩ := of_bind h
  obtain ⟨b5, hb5, h⟩ := of_bind h
  obtain ⟨b8, hb8, h⟩ := of_bind h
  refine V_sreg (mb 15 4) [] (s1 := ⟨.bot :: .bot :: Bo b8 :: bt 12 [], []⟩) ?_ ?_
  ·refine XR 1 ?_
   refine XC (s_spec_nuGood hy2) cf_spec_nuGood rfl rfl rfl ?_
   refine XR 1 ?_
   refine XL_split y2 (fun hc3 => ?_) (fun hc3 => ?_)
   ·have hb5 := of_true hb5 hc3
    obtain ⟨y4, hy4, hb5⟩ := of_bind hb5
    have hb5 := some_inj hb5
    refine XL_takeC _ rfl rfl (by kernel_rfl) hc3 (X_of_Y0 rfl (E_move (I d1) rfl (by kernel_rfl))) ?_
    refine XL_takeC _ rfl rfl (by kernel_rfl) hc3 (X_of_Y1 rfl (Y1_call (s_spec_nuMod hy4) cf_spec_nuMod rfl (by kernel_rfl))) ?_
    refine XL_takeC _ rfl rfl (by kernel_rfl) hc3 (X_of_Y0 rfl (Y0_ltw (k := .i64) (a := y4) (b := 2) rfl (by kernel_rfl) (by kernel_rfl))) ?_
    refine XL_cons rfl (X_of_Y0 rfl (Y0_pickTe (b := y2) (p := ltI y4 2) rfl (by kernel_rfl) hc3 (by kernel_rfl) hb5)) ?_
    refine XR 1 ?_
    refine XL_split b5 (fun hc6 => ?_) (fun hc6 => ?_)
    ·have hb8 := of_true hb8 hc6
     obtain ⟨y7, hy7, hb8⟩ := of_bind hb8
     have hb8 := some_inj hb8
     refine XL_takeC _ rfl rfl (by kernel_rfl) hc6 (X_of_Y0 rfl (E_move (I d1) rfl (by kernel_rfl))) ?_
     refine XL_takeC _ rfl rfl (by kernel_rfl) hc6 (X_of_Y1 rfl (Y1_call (s_spec_nuSquare hy7) cf_spec_nuSquare rfl (by kernel_rfl))) ?_
     refine XL_takeC _ rfl rfl (by kernel_rfl) hc6 (X_of_Y0 rfl (Y0_not (b := y7) rfl (by kernel_rfl))) ?_
     refine XL_cons rfl (X_of_Y0 rfl (Y0_pickTe (b := b5) (p := !y7) rfl (by kernel_rfl) hc6 (by kernel_rfl) hb8)) ?_
     exact XE
    ·have hb8 := some_inj (of_false hb8 hc6)
     refine XL_skipT _ rfl rfl (by kernel_rfl) hc6 rfl ?_
     refine XL_skipT _ rfl rfl (by kernel_rfl) hc6 rfl ?_
     refine XL_skipT _ rfl rfl (by kernel_rfl) hc6 rfl ?_
     refine XL_cons rfl (X_of_Y0 rfl (Y0_pickFe (b := b5) (p := false) rfl (by kernel_rfl) hc6 (by kernel_rfl) hb8)) ?_
     exact XE
   ·have hb5 := some_inj (of_false hb5 hc3)
    refine XL_skipT _ rfl rfl (by kernel_rfl) hc3 rfl ?_
    refine XL_skipT _ rfl rfl (by kernel_rfl) hc3 rfl ?_
    refine XL_skipT _ rfl rfl (by kernel_rfl) hc3 rfl ?_
    refine XL_cons rfl (X_of_Y0 rfl (Y0_pickFe (b := y2) (p := false) rfl (by kernel_rfl) hc3 (by kernel_rfl) hb5)) ?_
    refine XR 1 ?_
    refine XL_split b5 (fun hc6 => ?_) (fun hc6 => ?_)
    ·have hb8 := of_true hb8 hc6
     obtain ⟨y7, hy7, hb8⟩ := of_bind hb8
     have hb8 := some_inj hb8
     refine XL_takeC _ rfl rfl (by kernel_rfl) hc6 (X_of_Y0 rfl (E_move (I d1) rfl (by kernel_rfl))) ?_
     refine XL_takeC _ rfl rfl (by kernel_rfl) hc6 (X_of_Y1 rfl (Y1_call (s_spec_nuSquare hy7) cf_spec_nuSquare rfl (by kernel_rfl))) ?_
     refine XL_takeC _ rfl rfl (by kernel_rfl) hc6 (X_of_Y0 rfl (Y0_not (b := y7) rfl (by kernel_rfl))) ?_
     refine XL_cons rfl (X_of_Y0 rfl (Y0_pickTe (b := b5) (p := !y7) rfl (by kernel_rfl) hc6 (by kernel_rfl) hb8)) ?_
     exact XE
    ·have hb8 := some_inj (of_false hb8 hc6)
     refine XL_skipT _ rfl rfl (by kernel_rfl) hc6 rfl ?_
     refine XL_skipT _ rfl rfl (by kernel_rfl) hc6 rfl ?_
     refine XL_skipT _ rfl rfl (by kernel_rfl) hc6 rfl ?_
     refine XL_cons rfl (X_of_Y0 rfl (Y0_pickFe (b := b5) (p := false) rfl (by kernel_rfl) hc6 (by kernel_rfl) hb8)) ?_
     exact XE
  refine V_ret ?_
  obtain rfl := some_inj h
  show Post _ _ _ _ _
  exact ⟨.inr rfl, rfl, rfl, rfl⟩
theorem cf_spec_PrincipalForm : ∀ args w, (callFunc 86 args).run Tryd.prog w = .ok (.enter 86 args) w := run_callFunc Tryd.func86 (by kernel_rfl) (by kernel_rfl)
theorem s_spec_PrincipalForm {d1 : Int} {r : (((Int × Int × Int)) × Bool)} (h : r_spec_PrincipalForm d1 = some r) : CallS Tryd.prog 86 [I d1] (.tc (.ag [Ti r.1.1, Ti r.1.2.1, Ti r.1.2.2]) (.tc (Bo r.2) .tn)) [] := by
  refine CallS_of_text (rs := [.w 2 3, .t 3]) (vs := [.cell 2 27, .tmp 3]) Tryd.func86 rfl rfl (.cons ⟨rfl, wd27⟩ (.cons rfl FitsL.nil)) (by decide) 17 rfl ?_
  unfold r_spec_PrincipalForm at h
  show V _ _ ⟨I d1 :: bt 16 [], []⟩ _
  refine V_e (mb 17 5) [16] (s1 := ⟨I d1 :: .bot :: .pt 16 0 :: bt 14 [], [(16, .box [Ti 0, Ti 0, Ti 0])]⟩) ?_
  refine V_seq ?_
  obtain ⟨y2, hy2, h⟩ := of_bind h
  refine V_sreg (mb 17 133) [16] (s1 := ⟨I d1 :: .bot :: .pt 16 0 :: bt 4 (Bo (!y2) :: bt 9 []), [(16, .box [Ti 0, Ti 0, Ti 0])]⟩) ?_ ?_
  ·refine XR 1 ?_
   refine XC (s_spec_diIs hy2) cf_spec_diIs rfl rfl rfl ?_
   exact XE
  refine V_cond rfl (fun hc3 => ?_) (fun hc3 => ?_)
  ·have h := of_true h hc3
   refine V_sreg (mb 17 12) [16] (s1 := ⟨.bot :: .bot :: .pt 16 0 :: Bo false :: bt 13 [], [(16, .box [Ti 0, Ti 0, Ti 0])]⟩) ?_ ?_
   ·refine L0 rfl rfl (Y0_build (cs := [Ti 0, Ti 0, Ti 0]) pl27 bt27 rfl rfl (by kernel_rfl)) ?_
    exact XE
   refine V_ret ?_
   obtain rfl := some_inj h
   show Post _ _ _ _ _
   exact ⟨.inr rfl, rfl, rfl, rfl⟩
  ·have h := of_false h hc3
   refine V_skip ?_
   show V _ _ _ _
   obtain ⟨y4, hy4, h⟩ := of_bind h
   refine V_sreg (mb 17 21) [16] (s1 := ⟨I d1 :: .bot :: .pt 16 0 :: .bot :: I y4 :: bt 12 [], [(16, .box [Ti 0, Ti 0, Ti 0])]⟩) ?_ ?_
   ·refine XR 1 ?_
    refine XC (s_spec_nuMod hy4) cf_spec_nuMod rfl rfl rfl ?_
    exact XE
   obtain ⟨f5, hf5, h⟩ := of_sI h
   refine V_sreg (mb 17 12) [16] (s1 := ⟨.bot :: .bot :: .pt 16 0 :: Bo true :: bt 13 [], [(16, .box [Ti 1, Ti y4, Ti f5])]⟩) ?_ ?_
   ·refine XR 4 ?_
    refine L0 rfl rfl (Y0_quo64 (a := w64 (y4 - d1)) (b := 4) rfl (by kernel_rfl) (by kernel_rfl) (by decide)) ?_
    refine L0 rfl rfl (Y0_build (cs := [Ti 1, Ti y4, Ti (w64 (Int.tdiv (w64 (y4 - d1)) 4))]) pl27 bt27 rfl rfl (by kernel_rfl)) ?_
    refine XR 2 ?_
    refine XL_nil ?_
    subst hf5
    kernel_rfl
   refine V_ret ?_
   obtain rfl := some_inj h
   show Post _ _ _ _ _
   exact ⟨.inr rfl, rfl, rfl, rfl⟩
theorem cf_spec_foDisc : ∀ args w, (callFunc 42 args).run Tryd.prog w = .ok (.enter 42 args) w := run_callFunc Tryd.func42 (by kernel_rfl) (by kernel_rfl)
theorem s_spec_foDisc {f1 : (Int × Int × Int)} {r : Int} (h : r_spec_foDisc f1 = some r) : CallS Tryd.prog 42 [.ag [Ti f1.1, Ti f1.2.1, Ti f1.2.2]] (I r) [] := by
  refine CallS_of_text (rs := [.t 2]) (vs := [.tmp 2]) Tryd.func42 rfl rfl (.cons rfl FitsL.nil) (by decide) 15 rfl ?_
  unfold r_spec_foDisc at h
  show V _ _ ⟨.ag [Ti f1.1, Ti f1.2.1, Ti f1.2.2] :: bt 14 [], []⟩ _
  refine V_e (mb 15 2) [8] (s1 := ⟨.bot :: .pt 8 0 :: bt 13 [], [(8, .box [Ti f1.1, Ti f1.2.1, Ti f1.2.2])]⟩) ?_
  obtain ⟨t2, ht2, h⟩ := of_sI h
  refine V_sreg (mb 15 4) [] (s1 := ⟨.bot :: .bot :: I t2 :: bt 12 [], []⟩) ?_ ?_
  ·refine XR 13 ?_
   refine XL_nil ?_
   subst ht2
   kernel_rfl
  refine V_ret ?_
  obtain rfl := some_inj h
  show Post _ _ _ _ _
  exact ⟨.inr rfl, rfl, rfl, rfl⟩
theorem cf_spec_l1Most : ∀ args w, (callFunc 121 args).run Tryd.prog w = .ok (.enter 121 args) w := run_callFunc Tryd.func121 (by kernel_rfl) (by kernel_rfl)
theorem s_spec_l1Most {a1 : Int} {b2 : Int} {r : Int} (h : r_spec_l1Most a1 b2 = some r) : CallS Tryd.prog 121 [I a1, I b2] (I r) [] := by
  refine CallS_of_text (rs := [.t 4]) (vs := [.tmp 4]) Tryd.func121 rfl rfl (.cons rfl FitsL.nil) (by decide) 10 rfl ?_
  unfold r_spec_l1Most at h
  show V _ _ ⟨I a1 :: I b2 :: bt 8 [], []⟩ _
  refine V_e (mb 10 3) [] (s1 := ⟨I a1 :: I b2 :: bt 8 [], []⟩) ?_
  refine V_seq ?_
  refine V_e (mb 10 131) [] (s1 := ⟨I a1 :: I b2 :: bt 5 (Bo (ltI b2 a1) :: .bot :: .bot :: []), []⟩) ?_
  refine V_cond rfl (fun hc3 => ?_) (fun hc3 => ?_)
  ·have h := of_true h hc3
   refine V_e (mb 10 16) [] (s1 := ⟨bt 4 (I a1 :: bt 5 []), []⟩) ?_
   refine V_ret ?_
   obtain rfl := some_inj h
   show Post _ _ _ _ _
   exact ⟨.inr rfl, rfl, rfl, rfl⟩
  ·have h := of_false h hc3
   refine V_skip ?_
   show V _ _ _ _
   refine V_e (mb 10 16) [] (s1 := ⟨bt 4 (I b2 :: bt 5 []), []⟩) ?_
   refine V_ret ?_
   obtain rfl := some_inj h
   show Post _ _ _ _ _
   exact ⟨.inr rfl, rfl, rfl, rfl⟩
theorem cf_spec_l1Abs : ∀ args w, (callFunc 91 args).run Tryd.prog w = .ok (.enter 91 args) w := run_callFunc Tryd.func91 (by kernel_rfl) (by kernel_rfl)
theorem s_spec_l1Abs {vn1 : Int} {r : Int} (h : r_spec_l1Abs vn1 = some r) : CallS Tryd.prog 91 [I vn1] (I r) [] := by
  refine CallS_of_text (rs := [.t 2]) (vs := [.tmp 2]) Tryd.func91 rfl rfl (.cons rfl FitsL.nil) (by decide) 7 rfl ?_
  unfold r_spec_l1Abs at h
  show V _ _ ⟨I vn1 :: bt 6 [], []⟩ _
  refine V_e (mb 7 1) [] (s1 := ⟨I vn1 :: bt 6 [], []⟩) ?_
  obtain ⟨y2, hy2, h⟩ := of_bind h
  refine V_sreg (mb 7 4) [] (s1 := ⟨.bot :: .bot :: I y2 :: bt 4 [], []⟩) ?_ ?_
  ·refine XR 3 ?_
   refine XC (s_spec_l1Most hy2) cf_spec_l1Most rfl rfl rfl ?_
   exact XE
  refine V_ret ?_
  obtain rfl := some_inj h
  show Post _ _ _ _ _
  exact ⟨.inr rfl, rfl, rfl, rfl⟩
theorem cf_spec_cyIs : ∀ args w, (callFunc 116 args).run Tryd.prog w = .ok (.enter 116 args) w := run_callFunc Tryd.func116 (by kernel_rfl) (by kernel_rfl)
theorem s_spec_cyIs {f1 : (Int × Int × Int)} {r : Bool} (h : r_spec_cyIs f1 = some r) : CallS Tryd.prog 116 [.ag [Ti f1.1, Ti f1.2.1, Ti f1.2.2]] (Bo r) [] := by
  refine CallS_of_text (rs := [.t 2]) (vs := [.tmp 2]) Tryd.func116 rfl rfl (.cons rfl FitsL.nil) (by decide) 37 rfl ?_
  unfold r_spec_cyIs at h
  show V _ _ ⟨.ag [Ti f1.1, Ti f1.2.1, Ti f1.2.2] :: bt 36 [], []⟩ _
  refine V_e (mb 37 2) [8] (s1 := ⟨.bot :: .pt 8 0 :: bt 35 [], [(8, .box [Ti f1.1, Ti f1.2.1, Ti f1.2.2])]⟩) ?_
  obtain ⟨y2, hy2, h⟩ := of_bind h
  obtain ⟨y3, hy3, h⟩ := of_bind h
  refine V_sreg (mb 37 10) [8] (s1 := ⟨.bot :: .pt 8 0 :: .bot :: I y3 :: bt 33 [], [(8, .box [Ti f1.1, Ti f1.2.1, Ti f1.2.2])]⟩) ?_ ?_
  ·refine XR 1 ?_
   refine XC (s_spec_foDisc hy2) cf_spec_foDisc rfl rfl rfl ?_
   refine XC (s_spec_nuRoot hy3) cf_spec_nuRoot rfl rfl rfl ?_
   exact XE
  obtain ⟨y4, hy4, h⟩ := of_bind h
  obtain ⟨a5, ha5, h⟩ := of_sI h
  refine V_sreg (mb 37 26) [8] (s1 := ⟨.bot :: .pt 8 0 :: .bot :: I y3 :: I a5 :: bt 32 [], [(8, .box [Ti f1.1, Ti f1.2.1, Ti f1.2.2])]⟩) ?_ ?_
  ·refine XR 2 ?_
   refine XC (s_spec_l1Abs hy4) cf_spec_l1Abs rfl rfl rfl ?_
   refine XR 2 ?_
   refine XL_nil ?_
   subst ha5
   kernel_rfl
  obtain ⟨t9, ht9, h⟩ := of_bind h
  have ht9 := some_inj ht9
  refine V_sreg (mb 37 4) [] (s1 := ⟨.bot :: .bot :: Bo t9 :: bt 34 [], []⟩) ?_ ?_
  ·refine XR 4 ?_
   refine XL_split (ltI 0 f1.2.1) (fun hc6 => ?_) (fun hc6 => ?_)
   ·refine XL_takeC _ rfl rfl (by kernel_rfl) hc6 (X_of_Y0 rfl (E_field (.pt 8 1) Tryd.underlying27 rfl sz3 rfl (by kernel_rfl) (by intro hh; cases hh))) ?_
    refine XL_takeC _ rfl rfl (by kernel_rfl) hc6 (X_of_Y0 rfl (Y0_load1 (c := Ti f1.2.1) (cs := [Ti f1.2.2]) sc3 rfl (by kernel_rfl))) ?_
    refine XL_takeC _ rfl rfl (by kernel_rfl) hc6 (X_of_Y0 rfl (E_move (I y3) rfl (by kernel_rfl))) ?_
    refine XL_takeC _ rfl rfl (by kernel_rfl) hc6 (X_of_Y0 rfl (Y0_lew (k := .i64) (a := f1.2.1) (b := y3) rfl (by kernel_rfl) (by kernel_rfl))) ?_
    refine XL_cons rfl (X_of_Y0 rfl (Y0_pick1 (b := ltI 0 f1.2.1) (p := leI f1.2.1 y3) (q := false) rfl (by kernel_rfl) hc6 (by kernel_rfl))) ?_
    refine XR 1 ?_
    refine XL_split (bif (ltI 0 f1.2.1) then (leI f1.2.1 y3) else false) (fun hc7 => ?_) (fun hc7 => ?_)
    ·refine XL_takeC _ rfl rfl (by kernel_rfl) hc7 (X_of_Y0 rfl (E_move (I y3) rfl (by kernel_rfl))) ?_
     refine XL_takeC _ rfl rfl (by kernel_rfl) hc7 (X_of_Y0 rfl (E_field (.pt 8 1) Tryd.underlying27 rfl sz3 rfl (by kernel_rfl) (by intro hh; cases hh))) ?_
     refine XL_takeC _ rfl rfl (by kernel_rfl) hc7 (X_of_Y0 rfl (Y0_load1 (c := Ti f1.2.1) (cs := [Ti f1.2.2]) sc3 rfl (by kernel_rfl))) ?_
     refine XL_takeC _ rfl rfl (by kernel_rfl) hc7 (X_of_Y0 rfl (Y0_sub64 (a := y3) (b := f1.2.1) rfl (by kernel_rfl) (by kernel_rfl))) ?_
     refine XL_takeC _ rfl rfl (by kernel_rfl) hc7 (X_of_Y0 rfl (E_move (I a5) rfl (by kernel_rfl))) ?_
     refine XL_takeC _ rfl rfl (by kernel_rfl) hc7 (X_of_Y0 rfl (Y0_ltw (k := .i64) (a := w64 (y3 - f1.2.1)) (b := a5) rfl (by kernel_rfl) (by kernel_rfl))) ?_
     refine XL_cons rfl (X_of_Y0 rfl (Y0_pick1 (b := bif (ltI 0 f1.2.1) then (leI f1.2.1 y3) else false) (p := ltI (w64 (y3 - f1.2.1)) a5) (q := false) rfl (by kernel_rfl) hc7 (by kernel_rfl))) ?_
     refine XR 1 ?_
     refine XL_split (bif (bif (ltI 0 f1.2.1) then (leI f1.2.1 y3) else false) then (ltI (w64 (y3 - f1.2.1)) a5) else false) (fun hc8 => ?_) (fun hc8 => ?_)
     ·refine XL_takeC _ rfl rfl (by kernel_rfl) hc8 (X_of_Y0 rfl (E_move (I a5) rfl (by kernel_rfl))) ?_
      refine XL_takeC _ rfl rfl (by kernel_rfl) hc8 (X_of_Y0 rfl (E_move (I y3) rfl (by kernel_rfl))) ?_
      refine XL_takeC _ rfl rfl (by kernel_rfl) hc8 (X_of_Y0 rfl (E_field (.pt 8 1) Tryd.underlying27 rfl sz3 rfl (by kernel_rfl) (by intro hh; cases hh))) ?_
      refine XL_takeC _ rfl rfl (by kernel_rfl) hc8 (X_of_Y0 rfl (Y0_load1 (c := Ti f1.2.1) (cs := [Ti f1.2.2]) sc3 rfl (by kernel_rfl))) ?_
      refine XL_takeC _ rfl rfl (by kernel_rfl) hc8 (X_of_Y0 rfl (Y0_add64 (a := y3) (b := f1.2.1) rfl (by kernel_rfl) (by kernel_rfl))) ?_
      refine XL_takeC _ rfl rfl (by kernel_rfl) hc8 (X_of_Y0 rfl (Y0_lew (k := .i64) (a := a5) (b := w64 (y3 + f1.2.1)) rfl (by kernel_rfl) (by kernel_rfl))) ?_
      refine XL_cons rfl (X_of_Y0 rfl (Y0_pick1 (b := bif (bif (ltI 0 f1.2.1) then (leI f1.2.1 y3) else false) then (ltI (w64 (y3 - f1.2.1)) a5) else false) (p := leI a5 (w64 (y3 + f1.2.1))) (q := false) rfl (by kernel_rfl) hc8 (by kernel_rfl))) ?_
      refine XR 1 ?_
      refine XL_nil ?_
      subst ht9
      kernel_rfl
     ·refine XL_skipT _ rfl rfl (by kernel_rfl) hc8 rfl ?_
      refine XL_skipT _ rfl rfl (by kernel_rfl) hc8 rfl ?_
      refine XL_skipT _ rfl rfl (by kernel_rfl) hc8 rfl ?_
      refine XL_skipT _ rfl rfl (by kernel_rfl) hc8 rfl ?_
      refine XL_skipT _ rfl rfl (by kernel_rfl) hc8 rfl ?_
      refine XL_skipT _ rfl rfl (by kernel_rfl) hc8 rfl ?_
      refine XL_cons rfl (X_of_Y0 rfl (Y0_pick0 (b := bif (bif (ltI 0 f1.2.1) then (leI f1.2.1 y3) else false) then (ltI (w64 (y3 - f1.2.1)) a5) else false) (p := leI a5 (w64 (y3 + f1.2.1))) (q := false) rfl (by kernel_rfl) hc8 (by kernel_rfl))) ?_
      refine XR 1 ?_
      refine XL_nil ?_
      subst ht9
      kernel_rfl
    ·refine XL_skipT _ rfl rfl (by kernel_rfl) hc7 rfl ?_
     refine XL_skipT _ rfl rfl (by kernel_rfl) hc7 rfl ?_
     refine XL_skipT _ rfl rfl (by kernel_rfl) hc7 rfl ?_
     refine XL_skipT _ rfl rfl (by kernel_rfl) hc7 rfl ?_
     refine XL_skipT _ rfl rfl (by kernel_rfl) hc7 rfl ?_
     refine XL_skipT _ rfl rfl (by kernel_rfl) hc7 rfl ?_
     refine XL_cons rfl (X_of_Y0 rfl (Y0_pick0 (b := bif (ltI 0 f1.2.1) then (leI f1.2.1 y3) else false) (p := ltI (w64 (y3 - f1.2.1)) a5) (q := false) rfl (by kernel_rfl) hc7 (by kernel_rfl))) ?_
     refine XR 1 ?_
     refine XL_split (bif (bif (ltI 0 f1.2.1) then (leI f1.2.1 y3) else false) then (ltI (w64 (y3 - f1.2.1)) a5) else false) (fun hc8 => ?_) (fun hc8 => ?_)
     ·refine XL_takeC _ rfl rfl (by kernel_rfl) hc8 (X_of_Y0 rfl (E_move (I a5) rfl (by kernel_rfl))) ?_
      refine XL_takeC _ rfl rfl (by kernel_rfl) hc8 (X_of_Y0 rfl (E_move (I y3) rfl (by kernel_rfl))) ?_
      refine XL_takeC _ rfl rfl (by kernel_rfl) hc8 (X_of_Y0 rfl (E_field (.pt 8 1) Tryd.underlying27 rfl sz3 rfl (by kernel_rfl) (by intro hh; cases hh))) ?_
      refine XL_takeC _ rfl rfl (by kernel_rfl) hc8 (X_of_Y0 rfl (Y0_load1 (c := Ti f1.2.1) (cs := [Ti f1.2.2]) sc3 rfl (by kernel_rfl))) ?_
      refine XL_takeC _ rfl rfl (by kernel_rfl) hc8 (X_of_Y0 rfl (Y0_add64 (a := y3) (b := f1.2.1) rfl (by kernel_rfl) (by kernel_rfl))) ?_
      refine XL_takeC _ rfl rfl (by kernel_rfl) hc8 (X_of_Y0 rfl (Y0_lew (k := .i64) (a := a5) (b := w64 (y3 + f1.2.1)) rfl (by kernel_rfl) (by kernel_rfl))) ?_
      refine XL_cons rfl (X_of_Y0 rfl (Y0_pick1 (b := bif (bif (ltI 0 f1.2.1) then (leI f1.2.1 y3) else false) then (ltI (w64 (y3 - f1.2.1)) a5) else false) (p := leI a5 (w64 (y3 + f1.2.1))) (q := false) rfl (by kernel_rfl) hc8 (by kernel_rfl))) ?_
      refine XR 1 ?_
      refine XL_nil ?_
      subst ht9
      kernel_rfl
     ·refine XL_skipT _ rfl rfl (by kernel_rfl) hc8 rfl ?_
      refine XL_skipT _ rfl rfl (by kernel_rfl) hc8 rfl ?_
      refine XL_skipT _ rfl rfl (by kernel_rfl) hc8 rfl ?_
      refine XL_skipT _ rfl rfl (by kernel_rfl) hc8 rfl ?_
      refine XL_skipT _ rfl rfl (by kernel_rfl) hc8 rfl ?_
      refine XL_skipT _ rfl rfl (by kernel_rfl) hc8 rfl ?_
      refine XL_cons rfl (X_of_Y0 rfl (Y0_pick0 (b := bif (bif (ltI 0 f1.2.1) then (leI f1.2.1 y3) else false) then (ltI (w64 (y3 - f1.2.1)) a5) else false) (p := leI a5 (w64 (y3 + f1.2.1))) (q := false) rfl (by kernel_rfl) hc8 (by kernel_rfl))) ?_
      refine XR 1 ?_
      refine XL_nil ?_
      subst ht9
      kernel_rfl
   ·refine XL_skipT _ rfl rfl (by kernel_rfl) hc6 rfl ?_
    refine XL_skipT _ rfl rfl (by kernel_rfl) hc6 rfl ?_
    refine XL_skipT _ rfl rfl (by kernel_rfl) hc6 rfl ?_
    refine XL_skipT _ rfl rfl (by kernel_rfl) hc6 rfl ?_
    refine XL_cons rfl (X_of_Y0 rfl (Y0_pick0 (b := ltI 0 f1.2.1) (p := leI f1.2.1 y3) (q := false) rfl (by kernel_rfl) hc6 (by kernel_rfl))) ?_
    refine XR 1 ?_
    refine XL_split (bif (ltI 0 f1.2.1) then (leI f1.2.1 y3) else false) (fun hc7 => ?_) (fun hc7 => ?_)
    ·refine XL_takeC _ rfl rfl (by kernel_rfl) hc7 (X_of_Y0 rfl (E_move (I y3) rfl (by kernel_rfl))) ?_
     refine XL_takeC _ rfl rfl (by kernel_rfl) hc7 (X_of_Y0 rfl (E_field (.pt 8 1) Tryd.underlying27 rfl sz3 rfl (by kernel_rfl) (by intro hh; cases hh))) ?_
     refine XL_takeC _ rfl rfl (by kernel_rfl) hc7 (X_of_Y0 rfl (Y0_load1 (c := Ti f1.2.1) (cs := [Ti f1.2.2]) sc3 rfl (by kernel_rfl))) ?_
     refine XL_takeC _ rfl rfl (by kernel_rfl) hc7 (X_of_Y0 rfl (Y0_sub64 (a := y3) (b := f1.2.1) rfl (by kernel_rfl) (by kernel_rfl))) ?_
     refine XL_takeC _ rfl rfl (by kernel_rfl) hc7 (X_of_Y0 rfl (E_move (I a5) rfl (by kernel_rfl))) ?_
     refine XL_takeC _ rfl rfl (by kernel_rfl) hc7 (X_of_Y0 rfl (Y0_ltw (k := .i64) (a := w64 (y3 - f1.2.1)) (b := a5) rfl (by kernel_rfl) (by kernel_rfl))) ?_
     refine XL_cons rfl (X_of_Y0 rfl (Y0_pick1 (b := bif (ltI 0 f1.2.1) then (leI f1.2.1 y3) else false) (p := ltI (w64 (y3 - f1.2.1)) a5) (q := false) rfl (by kernel_rfl) hc7 (by kernel_rfl))) ?_
     refine XR 1 ?_
     refine XL_split (bif (bif (ltI 0 f1.2.1) then (leI f1.2.1 y3) else false) then (ltI (w64 (y3 - f1.2.1)) a5) else false) (fun hc8 => ?_) (fun hc8 => ?_)
     ·refine XL_takeC _ rfl rfl (by kernel_rfl) hc8 (X_of_Y0 rfl (E_move (I a5) rfl (by kernel_rfl))) ?_
      refine XL_takeC _ rfl rfl (by kernel_rfl) hc8 (X_of_Y0 rfl (E_move (I y3) rfl (by kernel_rfl))) ?_
      refine XL_takeC _ rfl rfl (by kernel_rfl) hc8 (X_of_Y0 rfl (E_field (.pt 8 1) Tryd.underlying27 rfl sz3 rfl (by kernel_rfl) (by intro hh; cases hh))) ?_
      refine XL_takeC _ rfl rfl (by kernel_rfl) hc8 (X_of_Y0 rfl (Y0_load1 (c := Ti f1.2.1) (cs := [Ti f1.2.2]) sc3 rfl (by kernel_rfl))) ?_
      refine XL_takeC _ rfl rfl (by kernel_rfl) hc8 (X_of_Y0 rfl (Y0_add64 (a := y3) (b := f1.2.1) rfl (by kernel_rfl) (by kernel_rfl))) ?_
      refine XL_takeC _ rfl rfl (by kernel_rfl) hc8 (X_of_Y0 rfl (Y0_lew (k := .i64) (a := a5) (b := w64 (y3 + f1.2.1)) rfl (by kernel_rfl) (by kernel_rfl))) ?_
      refine XL_cons rfl (X_of_Y0 rfl (Y0_pick1 (b := bif (bif (ltI 0 f1.2.1) then (leI f1.2.1 y3) else false) then (ltI (w64 (y3 - f1.2.1)) a5) else false) (p := leI a5 (w64 (y3 + f1.2.1))) (q := false) rfl (by kernel_rfl) hc8 (by kernel_rfl))) ?_
      refine XR 1 ?_
      refine XL_nil ?_
      subst ht9
      kernel_rfl
     ·refine XL_skipT _ rfl rfl (by kernel_rfl) hc8 rfl ?_
      refine XL_skipT _ rfl rfl (by kernel_rfl) hc8 rfl ?_
      refine XL_skipT _ rfl rfl (by kernel_rfl) hc8 rfl ?_
      refine XL_skipT _ rfl rfl (by kernel_rfl) hc8 rfl ?_
      refine XL_skipT _ rfl rfl (by kernel_rfl) hc8 rfl ?_
      refine XL_skipT _ rfl rfl (by kernel_rfl) hc8 rfl ?_
      refine XL_cons rfl (X_of_Y0 rfl (Y0_pick0 (b := bif (bif (ltI 0 f1.2.1) then (leI f1.2.1 y3) else false) then (ltI (w64 (y3 - f1.2.1)) a5) else false) (p := leI a5 (w64 (y3 + f1.2.1))) (q := false) rfl (by kernel_rfl) hc8 (by kernel_rfl))) ?_
      refine XR 1 ?_
      refine XL_nil ?_
      subst ht9
      kernel_rfl
    ·refine XL_skipT _ rfl rfl (by kernel_rfl) hc7 rfl ?_
     refine XL_skipT _ rfl rfl (by kernel_rfl) hc7 rfl ?_
     refine XL_skipT _ rfl rfl (by kernel_rfl) hc7 rfl ?_
     refine XL_skipT _ rfl rfl (by kernel_rfl) hc7 rfl ?_
     refine XL_skipT _ rfl rfl (by kernel_rfl) hc7 rfl ?_
     refine XL_skipT _ rfl rfl (by kernel_rfl) hc7 rfl ?_
     refine XL_cons rfl (X_of_Y0 rfl (Y0_pick0 (b := bif (ltI 0 f1.2.1) then (leI f1.2.1 y3) else false) (p := ltI (w64 (y3 - f1.2.1)) a5) (q := false) rfl (by kernel_rfl) hc7 (by kernel_rfl))) ?_
     refine XR 1 ?_
     refine XL_split (bif (bif (ltI 0 f1.2.1) then (leI f1.2.1 y3) else false) then (ltI (w64 (y3 - f1.2.1)) a5) else false) (fun hc8 => ?_) (fun hc8 => ?_)
     ·refine XL_takeC _ rfl rfl (by kernel_rfl) hc8 (X_of_Y0 rfl (E_move (I a5) rfl (by kernel_rfl))) ?_
      refine XL_takeC _ rfl rfl (by kernel_rfl) hc8 (X_of_Y0 rfl (E_move (I y3) rfl (by kernel_rfl))) ?_
      refine XL_takeC _ rfl rfl (by kernel_rfl) hc8 (X_of_Y0 rfl (E_field (.pt 8 1) Tryd.underlying27 rfl sz3 rfl (by kernel_rfl) (by intro hh; cases hh))) ?_
      refine XL_takeC _ rfl rfl (by kernel_rfl) hc8 (X_of_Y0 rfl (Y0_load1 (c := Ti f1.2.1) (cs := [Ti f1.2.2]) sc3 rfl (by kernel_rfl))) ?_
      refine XL_takeC _ rfl rfl (by kernel_rfl) hc8 (X_of_Y0 rfl (Y0_add64 (a := y3) (b := f1.2.1) rfl (by kernel_rfl) (by kernel_rfl))) ?_
      refine XL_takeC _ rfl rfl (by kernel_rfl) hc8 (X_of_Y0 rfl (Y0_lew (k := .i64) (a := a5) (b := w64 (y3 + f1.2.1)) rfl (by kernel_rfl) (by kernel_rfl))) ?_
      refine XL_cons rfl (X_of_Y0 rfl (Y0_pick1 (b := bif (bif (ltI 0 f1.2.1) then (leI f1.2.1 y3) else false) then (ltI (w64 (y3 - f1.2.1)) a5) else false) (p := leI a5 (w64 (y3 + f1.2.1))) (q := false) rfl (by kernel_rfl) hc8 (by kernel_rfl))) ?_
      refine XR 1 ?_
      refine XL_nil ?_
      subst ht9
      kernel_rfl
     ·refine XL_skipT _ rfl rfl (by kernel_rfl) hc8 rfl ?_
      refine XL_skipT _ rfl rfl (by kernel_rfl) hc8 rfl ?_
      refine XL_skipT _ rfl rfl (by kernel_rfl) hc8 rfl ?_
      refine XL_skipT _ rfl rfl (by kernel_rfl) hc8 rfl ?_
      refine XL_skipT _ rfl rfl (by kernel_rfl) hc8 rfl ?_
      refine XL_skipT _ rfl rfl (by kernel_rfl) hc8 rfl ?_
      refine XL_cons rfl (X_of_Y0 rfl (Y0_pick0 (b := bif (bif (ltI 0 f1.2.1) then (leI f1.2.1 y3) else false) then (ltI (w64 (y3 - f1.2.1)) a5) else false) (p := leI a5 (w64 (y3 + f1.2.1))) (q := false) rfl (by kernel_rfl) hc8 (by kernel_rfl))) ?_
      refine XR 1 ?_
      refine XL_nil ?_
      subst ht9
      kernel_rfl
  refine V_ret ?_
  obtain rfl := some_inj h
  show Post _ _ _ _ _
  exact ⟨.inr rfl, rfl, rfl, rfl⟩
theorem cf_spec_foGood : ∀ args w, (callFunc 41 args).run Tryd.prog w = .ok (.enter 41 args) w := run_callFunc Tryd.func41 (by kernel_rfl) (by kernel_rfl)
theorem s_spec_foGood {f1 : (Int × Int × Int)} {r : Bool} (h : r_spec_foGood f1 = some r) : CallS Tryd.prog 41 [.ag [Ti f1.1, Ti f1.2.1, Ti f1.2.2]] (Bo r) [] := by
  refine CallS_of_text (rs := [.t 2]) (vs := [.tmp 2]) Tryd.func41 rfl rfl (.cons rfl FitsL.nil) (by decide) 16 rfl ?_
  unfold r_spec_foGood at h
  show V _ _ ⟨.ag [Ti f1.1, Ti f1.2.1, Ti f1.2.2] :: bt 15 [], []⟩ _
  refine V_e (mb 16 2) [8] (s1 := ⟨.bot :: .pt 8 0 :: bt 14 [], [(8, .box [Ti f1.1, Ti f1.2.1, Ti f1.2.2])]⟩) ?_
  obtain ⟨y2, hy2, h⟩ := of_bind h
  obtain ⟨b5, hb5, h⟩ := of_bind h
  obtain ⟨b8, hb8, h⟩ := of_bind h
  refine V_sreg (mb 16 4) [] (s1 := ⟨.bot :: .bot :: Bo b8 :: bt 13 [], []⟩) ?_ ?_
  ·refine XR 2 ?_
   refine XC (s_spec_nuGood hy2) cf_spec_nuGood rfl rfl rfl ?_
   refine XR 1 ?_
   refine XL_split y2 (fun hc3 => ?_) (fun hc3 => ?_)
   ·have hb5 := of_true hb5 hc3
    obtain ⟨y4, hy4, hb5⟩ := of_bind hb5
    have hb5 := some_inj hb5
    refine XL_takeC _ rfl rfl (by kernel_rfl) hc3 (X_of_Y0 rfl (E_field (.pt 8 1) Tryd.underlying27 rfl sz3 rfl (by kernel_rfl) (by intro hh; cases hh))) ?_
    refine XL_takeC _ rfl rfl (by kernel_rfl) hc3 (X_of_Y0 rfl (Y0_load1 (c := Ti f1.2.1) (cs := [Ti f1.2.2]) sc3 rfl (by kernel_rfl))) ?_
    refine XL_takeC _ rfl rfl (by kernel_rfl) hc3 (X_of_Y1 rfl (Y1_call (s_spec_nuGood hy4) cf_spec_nuGood rfl (by kernel_rfl))) ?_
    refine XL_cons rfl (X_of_Y0 rfl (Y0_pickTe (b := y2) (p := y4) rfl (by kernel_rfl) hc3 (by kernel_rfl) hb5)) ?_
    refine XR 1 ?_
    refine XL_split b5 (fun hc6 => ?_) (fun hc6 => ?_)
    ·have hb8 := of_true hb8 hc6
     obtain ⟨y7, hy7, hb8⟩ := of_bind hb8
     have hb8 := some_inj hb8
     refine XL_takeC _ rfl rfl (by kernel_rfl) hc6 (X_of_Y0 rfl (E_field (.pt 8 2) Tryd.underlying27 rfl sz3 rfl (by kernel_rfl) (by intro hh; cases hh))) ?_
     refine XL_takeC _ rfl rfl (by kernel_rfl) hc6 (X_of_Y0 rfl (Y0_load1 (c := Ti f1.2.2) (cs := []) sc3 rfl (by kernel_rfl))) ?_
     refine XL_takeC _ rfl rfl (by kernel_rfl) hc6 (X_of_Y1 rfl (Y1_call (s_spec_nuGood hy7) cf_spec_nuGood rfl (by kernel_rfl))) ?_
     refine XL_cons rfl (X_of_Y0 rfl (Y0_pickTe (b := b5) (p := y7) rfl (by kernel_rfl) hc6 (by kernel_rfl) hb8)) ?_
     exact XE
    ·have hb8 := some_inj (of_false hb8 hc6)
     refine XL_skipT _ rfl rfl (by kernel_rfl) hc6 rfl ?_
     refine XL_skipT _ rfl rfl (by kernel_rfl) hc6 rfl ?_
     refine XL_skipT _ rfl rfl (by kernel_rfl) hc6 rfl ?_
     refine XL_cons rfl (X_of_Y0 rfl (Y0_pickFe (b := b5) (p := false) rfl (by kernel_rfl) hc6 (by kernel_rfl) hb8)) ?_
     exact XE
   ·have hb5 := some_inj (of_false hb5 hc3)
    refine XL_skipT _ rfl rfl (by kernel_rfl) hc3 rfl ?_
    refine XL_skipT _ rfl rfl (by kernel_rfl) hc3 rfl ?_
    refine XL_skipT _ rfl rfl (by kernel_rfl) hc3 rfl ?_
    refine XL_cons rfl (X_of_Y0 rfl (Y0_pickFe (b := y2) (p := false) rfl (by kernel_rfl) hc3 (by kernel_rfl) hb5)) ?_
    refine XR 1 ?_
    refine XL_split b5 (fun hc6 => ?_) (fun hc6 => ?_)
    ·have hb8 := of_true hb8 hc6
     obtain ⟨y7, hy7, hb8⟩ := of_bind hb8
     have hb8 := some_inj hb8
     refine XL_takeC _ rfl rfl (by kernel_rfl) hc6 (X_of_Y0 rfl (E_field (.pt 8 2) Tryd.underlying27 rfl sz3 rfl (by kernel_rfl) (by intro hh; cases hh))) ?_
     refine XL_takeC _ rfl rfl (by kernel_rfl) hc6 (X_of_Y0 rfl (Y0_load1 (c := Ti f1.2.2) (cs := []) sc3 rfl (by kernel_rfl))) ?_
     refine XL_takeC _ rfl rfl (by kernel_rfl) hc6 (X_of_Y1 rfl (Y1_call (s_spec_nuGood hy7) cf_spec_nuGood rfl (by kernel_rfl))) ?_
     refine XL_cons rfl (X_of_Y0 rfl (Y0_pickTe (b := b5) (p := y7) rfl (by kernel_rfl) hc6 (by kernel_rfl) hb8)) ?_
     exact XE
    ·have hb8 := some_inj (of_false hb8 hc6)
     refine XL_skipT _ rfl rfl (by kernel_rfl) hc6 rfl ?_
     refine XL_skipT _ rfl rfl (by kernel_rfl) hc6 rfl ?_
     refine XL_skipT _ rfl rfl (by kernel_rfl) hc6 rfl ?_
     refine XL_cons rfl (X_of_Y0 rfl (Y0_pickFe (b := b5) (p := false) rfl (by kernel_rfl) hc6 (by kernel_rfl) hb8)) ?_
     exact XE
  refine V_ret ?_
  obtain rfl := some_inj h
  show Post _ _ _ _ _
  exact ⟨.inr rfl, rfl, rfl, rfl⟩
theorem cf_spec_cyGood : ∀ args w, (callFunc 142 args).run Tryd.prog w = .ok (.enter 142 args) w := run_callFunc Tryd.func142 (by kernel_rfl) (by kernel_rfl)
theorem s_spec_cyGood {f1 : (Int × Int × Int)} {r : Bool} (h : r_spec_cyGood f1 = some r) : CallS Tryd.prog 142 [.ag [Ti f1.1, Ti f1.2.1, Ti f1.2.2]] (Bo r) [] := by
  refine CallS_of_text (rs := [.t 2]) (vs := [.tmp 2]) Tryd.func142 rfl rfl (.cons rfl FitsL.nil) (by decide) 10 rfl ?_
  unfold r_spec_cyGood at h
  show V _ _ ⟨.ag [Ti f1.1, Ti f1.2.1, Ti f1.2.2] :: bt 9 [], []⟩ _
  refine V_e (mb 10 2) [8] (s1 := ⟨.bot :: .pt 8 0 :: bt 8 [], [(8, .box [Ti f1.1, Ti f1.2.1, Ti f1.2.2])]⟩) ?_
  obtain ⟨y2, hy2, h⟩ := of_bind h
  obtain ⟨b6, hb6, h⟩ := of_bind h
  refine V_sreg (mb 10 4) [] (s1 := ⟨.bot :: .bot :: Bo b6 :: bt 7 [], []⟩) ?_ ?_
  ·refine XR 1 ?_
   refine XC (s_spec_foGood hy2) cf_spec_foGood rfl rfl rfl ?_
   refine XR 1 ?_
   refine XL_split y2 (fun hc3 => ?_) (fun hc3 => ?_)
   ·have hb6 := of_true hb6 hc3
    obtain ⟨y4, hy4, hb6⟩ := of_bind hb6
    obtain ⟨y5, hy5, hb6⟩ := of_bind hb6
    have hb6 := some_inj hb6
    refine XL_takeC _ rfl rfl (by kernel_rfl) hc3 (X_of_Y0 rfl (E_loadn (cs := [Ti f1.1, Ti f1.2.1, Ti f1.2.2]) [Ti f1.1, Ti f1.2.1, Ti f1.2.2] wd27 rfl (by kernel_rfl) (Nat.le_of_ble_eq_true rfl) (by kernel_rfl))) ?_
    refine XL_takeC _ rfl rfl (by kernel_rfl) hc3 (X_of_Y1 rfl (Y1_call (s_spec_foDisc hy4) cf_spec_foDisc rfl (by kernel_rfl))) ?_
    refine XL_takeC _ rfl rfl (by kernel_rfl) hc3 (X_of_Y1 rfl (Y1_call (s_spec_cyDisc hy5) cf_spec_cyDisc rfl (by kernel_rfl))) ?_
    refine XL_cons rfl (X_of_Y0 rfl (Y0_pickTe (b := y2) (p := y5) rfl (by kernel_rfl) hc3 (by kernel_rfl) hb6)) ?_
    exact XE
   ·have hb6 := some_inj (of_false hb6 hc3)
    refine XL_skipT _ rfl rfl (by kernel_rfl) hc3 rfl ?_
    refine XL_skipT _ rfl rfl (by kernel_rfl) hc3 rfl ?_
    refine XL_skipT _ rfl rfl (by kernel_rfl) hc3 rfl ?_
    refine XL_cons rfl (X_of_Y0 rfl (Y0_pickFe (b := y2) (p := false) rfl (by kernel_rfl) hc3 (by kernel_rfl) hb6)) ?_
    exact XE
  refine V_ret ?_
  obtain rfl := some_inj h
  show Post _ _ _ _ _
  exact ⟨.inr rfl, rfl, rfl, rfl⟩
theorem cf_spec_cyMove : ∀ args w, (callFunc 88 args).run Tryd.prog w = .ok (.enter 88 args) w := run_callFunc Tryd.func88 (by kernel_rfl) (by kernel_rfl)
theorem s_spec_cyMove {f1 : (Int × Int × Int)} {r : (Int × Int × Int × Int)} (h : r_spec_cyMove f1 = some r) : CallS Tryd.prog 88 [.ag [Ti f1.1, Ti f1.2.1, Ti f1.2.2]] (.ag [Ti r.1, Ti r.2.1, Ti r.2.2.1, Ti r.2.2.2]) [] := by
  refine CallS_of_text (rs := [.w 2 4]) (vs := [.cell 2 42]) Tryd.func88 rfl rfl (.cons ⟨rfl, wd42⟩ FitsL.nil) (by decide) 36 rfl ?_
  unfold r_spec_cyMove at h
  show V _ _ ⟨.ag [Ti f1.1, Ti f1.2.1, Ti f1.2.2] :: bt 35 [], []⟩ _
  refine V_e (mb 36 6) [16, 8] (s1 := ⟨.bot :: .pt 8 0 :: .pt 16 0 :: bt 33 [], [(16, .box [Ti 0, Ti 0, Ti 0, Ti 0]), (8, .box [Ti f1.1, Ti f1.2.1, Ti f1.2.2])]⟩) ?_
  obtain ⟨y2, hy2, h⟩ := of_bind h
  obtain ⟨y3, hy3, h⟩ := of_bind h
  refine V_sreg (mb 36 14) [16, 8] (s1 := ⟨.bot :: .pt 8 0 :: .pt 16 0 :: I y3 :: bt 32 [], [(16, .box [Ti 0, Ti 0, Ti 0, Ti 0]), (8, .box [Ti f1.1, Ti f1.2.1, Ti f1.2.2])]⟩) ?_ ?_
  ·refine XR 1 ?_
   refine XC (s_spec_foDisc hy2) cf_spec_foDisc rfl rfl rfl ?_
   refine XC (s_spec_nuRoot hy3) cf_spec_nuRoot rfl rfl rfl ?_
   exact XE
  obtain ⟨y4, hy4, h⟩ := of_bind h
  refine V_sreg (mb 36 30) [16, 8] (s1 := ⟨.bot :: .pt 8 0 :: .pt 16 0 :: I y3 :: I y4 :: bt 31 [], [(16, .box [Ti 0, Ti 0, Ti 0, Ti 0]), (8, .box [Ti f1.1, Ti f1.2.1, Ti f1.2.2])]⟩) ?_ ?_
  ·refine XR 2 ?_
   refine XC (s_spec_l1Abs hy4) cf_spec_l1Abs rfl rfl rfl ?_
   exact XE
  refine V_e (mb 36 62) [16, 8] (s1 := ⟨.bot :: .pt 8 0 :: .pt 16 0 :: I y3 :: I y4 :: I y3 :: bt 30 [], [(16, .box [Ti 0, Ti 0, Ti 0, Ti 0]), (8, .box [Ti f1.1, Ti f1.2.1, Ti f1.2.2])]⟩) ?_
  obtain ⟨j5, hj5, h⟩ := of_bind h
  refine V_cutK (mb 36 54) [16, 8] (s1 := ⟨.bot :: .pt 8 0 :: .pt 16 0 :: .bot :: I y4 :: I j5 :: bt 30 [], [(16, .box [Ti 0, Ti 0, Ti 0, Ti 0]), (8, .box [Ti f1.1, Ti f1.2.1, Ti f1.2.2])]⟩) ?_ ?_
  ·clear h
   have h := hj5
   clear hj5
   refine V_e (mb 36 65590) [16, 8] (s1 := ⟨.bot :: .pt 8 0 :: .pt 16 0 :: .bot :: I y4 :: I y3 :: bt 10 (Bo (ltI y3 y4) :: bt 19 []), [(16, .box [Ti 0, Ti 0, Ti 0, Ti 0]), (8, .box [Ti f1.1, Ti f1.2.1, Ti f1.2.2])]⟩) ?_
   refine V_cond rfl (fun hc6 => ?_) (fun hc6 => ?_)
   ·have h := of_true h hc6
    refine V_reg (mb 36 54) [16, 8] (s1 := ⟨.bot :: .pt 8 0 :: .pt 16 0 :: .bot :: I y4 :: I y4 :: bt 30 [], [(16, .box [Ti 0, Ti 0, Ti 0, Ti 0]), (8, .box [Ti f1.1, Ti f1.2.1, Ti f1.2.2])]⟩) ?_ ?_
    ·exact XE
    obtain rfl := some_inj h
    show St.keep _ _ _ = _
    rfl
   ·have h := of_false h hc6
    refine V_skip ?_
    obtain rfl := some_inj h
    show St.keep _ _ _ = _
    rfl
  obtain ⟨y7, hy7, h⟩ := of_bind h
  obtain ⟨b8, hb8, h⟩ := of_sI h
  refine V_sreg (mb 36 70) [16, 8] (s1 := ⟨.bot :: .pt 8 0 :: .pt 16 0 :: bt 3 (I b8 :: bt 29 []), [(16, .box [Ti 0, Ti 0, Ti 0, Ti 0]), (8, .box [Ti f1.1, Ti f1.2.1, Ti f1.2.2])]⟩) ?_ ?_
  ·refine XR 7 ?_
   refine XC (s_spec_nuMod hy7) cf_spec_nuMod rfl rfl rfl ?_
   refine XR 2 ?_
   refine XL_nil ?_
   subst hb8
   kernel_rfl
  obtain ⟨z9, hz9, h⟩ := of_bind h
  obtain ⟨f10, hf10, h⟩ := of_sI h
  refine V_sreg (mb 36 4) [16] (s1 := ⟨.bot :: .bot :: .pt 16 0 :: bt 33 [], [(16, .box [Ti 0, Ti (-1), Ti 1, Ti f10])]⟩) ?_ ?_
  ·refine XR 7 ?_
   refine L0 rfl rfl (Y0_quo64 (a := w64 (f1.2.1 + b8)) (b := w64 (2 * f1.2.2)) rfl (by kernel_rfl) (by kernel_rfl) (nz_some hz9)) ?_
   refine L0 rfl rfl (Y0_build (cs := [Ti 0, Ti (-1), Ti 1, Ti (w64 (Int.tdiv (w64 (f1.2.1 + b8)) (w64 (2 * f1.2.2))))]) pl42 bt42 rfl rfl (by kernel_rfl)) ?_
   refine XR 1 ?_
   refine XL_nil ?_
   subst hf10
   kernel_rfl
  refine V_ret ?_
  obtain rfl := some_inj h
  show Post _ _ _ _ _
  exact ⟨.inr rfl, rfl, rfl, rfl⟩
theorem cf_spec_foValue : ∀ args w, (callFunc 119 args).run Tryd.prog w = .ok (.enter 119 args) w := run_callFunc Tryd.func119 (by kernel_rfl) (by kernel_rfl)
theorem s_spec_foValue {f1 : (Int × Int × Int)} {x2 : Int} {y3 : Int} {r : Int} (h : r_spec_foValue f1 x2 y3 = some r) : CallS Tryd.prog 119 [.ag [Ti f1.1, Ti f1.2.1, Ti f1.2.2], I x2, I y3] (I r) [] := by
  refine CallS_of_text (rs := [.t 6]) (vs := [.tmp 6]) Tryd.func119 rfl rfl (.cons rfl FitsL.nil) (by decide) 27 rfl ?_
  unfold r_spec_foValue at h
  show V _ _ ⟨.ag [Ti f1.1, Ti f1.2.1, Ti f1.2.2] :: I x2 :: I y3 :: bt 24 [], []⟩ _
  refine V_e (mb 27 14) [24] (s1 := ⟨.bot :: I x2 :: I y3 :: .pt 24 0 :: bt 23 [], [(24, .box [Ti f1.1, Ti f1.2.1, Ti f1.2.2])]⟩) ?_
  obtain ⟨t4, ht4, h⟩ := of_sI h
  refine V_sreg (mb 27 64) [] (s1 := ⟨bt 6 (I t4 :: bt 20 []), []⟩) ?_ ?_
  ·refine XR 21 ?_
   refine XL_nil ?_
   subst ht4
   kernel_rfl
  refine V_ret ?_
  obtain rfl := some_inj h
  show Post _ _ _ _ _
  exact ⟨.inr rfl, rfl, rfl, rfl⟩
theorem cf_spec_foPolar : ∀ args w, (callFunc 120 args).run Tryd.prog w = .ok (.enter 120 args) w := run_callFunc Tryd.func120 (by kernel_rfl) (by kernel_rfl)
theorem s_spec_foPolar {f1 : (Int × Int × Int)} {x2 : Int} {y3 : Int} {u4 : Int} {v5 : Int} {r : Int} (h : r_spec_foPolar f1 x2 y3 u4 v5 = some r) : CallS Tryd.prog 120 [.ag [Ti f1.1, Ti f1.2.1, Ti f1.2.2], I x2, I y3, I u4, I v5] (I r) [] := by
  refine CallS_of_text (rs := [.t 10]) (vs := [.tmp 10]) Tryd.func120 rfl rfl (.cons rfl FitsL.nil) (by decide) 37 rfl ?_
  unfold r_spec_foPolar at h
  show V _ _ ⟨.ag [Ti f1.1, Ti f1.2.1, Ti f1.2.2] :: I x2 :: I y3 :: I u4 :: I v5 :: bt 32 [], []⟩ _
  refine V_e (mb 37 62) [40] (s1 := ⟨.bot :: I x2 :: I y3 :: I u4 :: I v5 :: .pt 40 0 :: bt 31 [], [(40, .box [Ti f1.1, Ti f1.2.1, Ti f1.2.2])]⟩) ?_
  obtain ⟨t6, ht6, h⟩ := of_sI h
  refine V_sreg (mb 37 1024) [] (s1 := ⟨bt 10 (I t6 :: bt 26 []), []⟩) ?_ ?_
  ·refine XR 27 ?_
   refine XL_nil ?_
   subst ht6
   kernel_rfl
  refine V_ret ?_
  obtain rfl := some_inj h
  show Post _ _ _ _ _
  exact ⟨.inr rfl, rfl, rfl, rfl⟩
theorem cf_spec_foAct : ∀ args w, (callFunc 89 args).run Tryd.prog w = .ok (.enter 89 args) w := run_callFunc Tryd.func89 (by kernel_rfl) (by kernel_rfl)
theorem s_spec_foAct {f1 : (Int × Int × Int)} {vm2 : (Int × Int × Int × Int)} {r : (Int × Int × Int)} (h : r_spec_foAct f1 vm2 = some r) : CallS Tryd.prog 89 [.ag [Ti f1.1, Ti f1.2.1, Ti f1.2.2], .ag [Ti vm2.1, Ti vm2.2.1, Ti vm2.2.2.1, Ti vm2.2.2.2]] (.ag [Ti r.1, Ti r.2.1, Ti r.2.2]) [] := by
  refine CallS_of_text (rs := [.w 4 3]) (vs := [.cell 4 27]) Tryd.func89 rfl rfl (.cons ⟨rfl, wd27⟩ FitsL.nil) (by decide) 28 rfl ?_
  unfold r_spec_foAct at h
  show V _ _ ⟨.ag [Ti f1.1, Ti f1.2.1, Ti f1.2.2] :: .ag [Ti vm2.1, Ti vm2.2.1, Ti vm2.2.2.1, Ti vm2.2.2.2] :: bt 26 [], []⟩ _
  refine V_e (mb 28 28) [32, 24, 16] (s1 := ⟨.bot :: .bot :: .pt 16 0 :: .pt 24 0 :: .pt 32 0 :: bt 23 [], [(32, .box [Ti 0, Ti 0, Ti 0]), (24, .box [Ti vm2.1, Ti vm2.2.1, Ti vm2.2.2.1, Ti vm2.2.2.2]), (16, .box [Ti f1.1, Ti f1.2.1, Ti f1.2.2])]⟩) ?_
  obtain ⟨y3, hy3, h⟩ := of_bind h
  obtain ⟨y4, hy4, h⟩ := of_bind h
  obtain ⟨y5, hy5, h⟩ := of_bind h
  refine V_sdreg [0, 0, 2, 0, 8, 31, 0, 0, 128, 0, 512, 0, 2048, 0, 8192, 32767, 0, 0, 131072, 0, 524288, 2097151, 4194303, 8388607] 23 (cdm 23 [2929883521704, 2929883521666, 2929883521670, 2929883521066, 2929883521130, 2929883521365, 2929883515562, 2929883359914, 2929883376298, 2929880902314, 2929881164458, 2929841580714, 2929845775018, 2929212435114, 2929279543978, 2929525609813, 2923441072810, 2760232315562, 2777412184746, 183251937962, 458129844906, 1466015503701, 5864062014805]) (mb 28 16) [32] (s1 := ⟨bt 4 (.pt 32 0 :: bt 23 []), [(32, .box [Ti y3, Ti y4, Ti y5])]⟩) (by kernel_rfl) (by kernel_rfl) ?_ ?_
  ·refine DR 5 ?_
   refine DC 5 (s_spec_foValue hy3) cf_spec_foValue rfl rfl rfl rfl 10 rfl ?_
   refine DR 9 ?_
   refine DC 15 (s_spec_foPolar hy4) cf_spec_foPolar rfl rfl rfl rfl 20 rfl ?_
   refine DR 5 ?_
   refine DC 21 (s_spec_foValue hy5) cf_spec_foValue rfl rfl rfl rfl 26 rfl ?_
   refine DE_0 22 (.ag [Ti y3, Ti y4, Ti y5]) (by kernel_rfl) rfl rfl rfl (gsat_none rfl) (by kernel_rfl) (Y0_build (cs := [Ti y3, Ti y4, Ti y5]) pl27 bt27 rfl rfl (by kernel_rfl)) 27 rfl ?_
   refine DA 0 ?_
   exact XE
  refine V_ret ?_
  obtain rfl := some_inj h
  show Post _ _ _ _ _
  exact ⟨.inr rfl, rfl, rfl, rfl⟩
theorem cf_spec_foMatrix : ∀ args w, (callFunc 118 args).run Tryd.prog w = .ok (.enter 118 args) w := run_callFunc Tryd.func118 (by kernel_rfl) (by kernel_rfl)
theorem s_spec_foMatrix {vm1 : (Int × Int × Int × Int)} {r : Bool} (h : r_spec_foMatrix vm1 = some r) : CallS Tryd.prog 118 [.ag [Ti vm1.1, Ti vm1.2.1, Ti vm1.2.2.1, Ti vm1.2.2.2]] (Bo r) [] := by
  refine CallS_of_text (rs := [.t 2]) (vs := [.tmp 2]) Tryd.func118 rfl rfl (.cons rfl FitsL.nil) (by decide) 21 rfl ?_
  unfold r_spec_foMatrix at h
  show V _ _ ⟨.ag [Ti vm1.1, Ti vm1.2.1, Ti vm1.2.2.1, Ti vm1.2.2.2] :: bt 20 [], []⟩ _
  refine V_e (mb 21 2) [8] (s1 := ⟨.bot :: .pt 8 0 :: bt 19 [], [(8, .box [Ti vm1.1, Ti vm1.2.1, Ti vm1.2.2.1, Ti vm1.2.2.2])]⟩) ?_
  obtain ⟨y2, hy2, h⟩ := of_bind h
  obtain ⟨b5, hb5, h⟩ := of_bind h
  obtain ⟨b8, hb8, h⟩ := of_bind h
  obtain ⟨b11, hb11, h⟩ := of_bind h
  refine V_sreg (mb 21 4) [] (s1 := ⟨.bot :: .bot :: Bo b11 :: bt 18 [], []⟩) ?_ ?_
  ·refine XR 2 ?_
   refine XC (s_spec_nuGood hy2) cf_spec_nuGood rfl rfl rfl ?_
   refine XR 1 ?_
   refine XL_split y2 (fun hc3 => ?_) (fun hc3 => ?_)
   ·have hb5 := of_true hb5 hc3
    obtain ⟨y4, hy4, hb5⟩ := of_bind hb5
    have hb5 := some_inj hb5
    refine XL_takeC _ rfl rfl (by kernel_rfl) hc3 (X_of_Y0 rfl (E_field (.pt 8 1) Tryd.underlying42 rfl sz3 rfl (by kernel_rfl) (by intro hh; cases hh))) ?_
    refine XL_takeC _ rfl rfl (by kernel_rfl) hc3 (X_of_Y0 rfl (Y0_load1 (c := Ti vm1.2.1) (cs := [Ti vm1.2.2.1, Ti vm1.2.2.2]) sc3 rfl (by kernel_rfl))) ?_
    refine XL_takeC _ rfl rfl (by kernel_rfl) hc3 (X_of_Y1 rfl (Y1_call (s_spec_nuGood hy4) cf_spec_nuGood rfl (by kernel_rfl))) ?_
    refine XL_cons rfl (X_of_Y0 rfl (Y0_pickTe (b := y2) (p := y4) rfl (by kernel_rfl) hc3 (by kernel_rfl) hb5)) ?_
    refine XR 1 ?_
    refine XL_split b5 (fun hc6 => ?_) (fun hc6 => ?_)
    ·have hb8 := of_true hb8 hc6
     obtain ⟨y7, hy7, hb8⟩ := of_bind hb8
     have hb8 := some_inj hb8
     refine XL_takeC _ rfl rfl (by kernel_rfl) hc6 (X_of_Y0 rfl (E_field (.pt 8 2) Tryd.underlying42 rfl sz3 rfl (by kernel_rfl) (by intro hh; cases hh))) ?_
     refine XL_takeC _ rfl rfl (by kernel_rfl) hc6 (X_of_Y0 rfl (Y0_load1 (c := Ti vm1.2.2.1) (cs := [Ti vm1.2.2.2]) sc3 rfl (by kernel_rfl))) ?_
     refine XL_takeC _ rfl rfl (by kernel_rfl) hc6 (X_of_Y1 rfl (Y1_call (s_spec_nuGood hy7) cf_spec_nuGood rfl (by kernel_rfl))) ?_
     refine XL_cons rfl (X_of_Y0 rfl (Y0_pickTe (b := b5) (p := y7) rfl (by kernel_rfl) hc6 (by kernel_rfl) hb8)) ?_
     refine XR 1 ?_
     refine XL_split b8 (fun hc9 => ?_) (fun hc9 => ?_)
     ·have hb11 := of_true hb11 hc9
      obtain ⟨y10, hy10, hb11⟩ := of_bind hb11
      have hb11 := some_inj hb11
      refine XL_takeC _ rfl rfl (by kernel_rfl) hc9 (X_of_Y0 rfl (E_field (.pt 8 3) Tryd.underlying42 rfl sz3 rfl (by kernel_rfl) (by intro hh; cases hh))) ?_
      refine XL_takeC _ rfl rfl (by kernel_rfl) hc9 (X_of_Y0 rfl (Y0_load1 (c := Ti vm1.2.2.2) (cs := []) sc3 rfl (by kernel_rfl))) ?_
      refine XL_takeC _ rfl rfl (by kernel_rfl) hc9 (X_of_Y1 rfl (Y1_call (s_spec_nuGood hy10) cf_spec_nuGood rfl (by kernel_rfl))) ?_
      refine XL_cons rfl (X_of_Y0 rfl (Y0_pickTe (b := b8) (p := y10) rfl (by kernel_rfl) hc9 (by kernel_rfl) hb11)) ?_
      exact XE
     ·have hb11 := some_inj (of_false hb11 hc9)
      refine XL_skipT _ rfl rfl (by kernel_rfl) hc9 rfl ?_
      refine XL_skipT _ rfl rfl (by kernel_rfl) hc9 rfl ?_
      refine XL_skipT _ rfl rfl (by kernel_rfl) hc9 rfl ?_
      refine XL_cons rfl (X_of_Y0 rfl (Y0_pickFe (b := b8) (p := false) rfl (by kernel_rfl) hc9 (by kernel_rfl) hb11)) ?_
      exact XE
    ·have hb8 := some_inj (of_false hb8 hc6)
     refine XL_skipT _ rfl rfl (by kernel_rfl) hc6 rfl ?_
     refine XL_skipT _ rfl rfl (by kernel_rfl) hc6 rfl ?_
     refine XL_skipT _ rfl rfl (by kernel_rfl) hc6 rfl ?_
     refine XL_cons rfl (X_of_Y0 rfl (Y0_pickFe (b := b5) (p := false) rfl (by kernel_rfl) hc6 (by kernel_rfl) hb8)) ?_
     refine XR 1 ?_
     refine XL_split b8 (fun hc9 => ?_) (fun hc9 => ?_)
     ·have hb11 := of_true hb11 hc9
      obtain ⟨y10, hy10, hb11⟩ := of_bind hb11
      have hb11 := some_inj hb11
      refine XL_takeC _ rfl rfl (by kernel_rfl) hc9 (X_of_Y0 rfl (E_field (.pt 8 3) Tryd.underlying42 rfl sz3 rfl (by kernel_rfl) (by intro hh; cases hh))) ?_
      refine XL_takeC _ rfl rfl (by kernel_rfl) hc9 (X_of_Y0 rfl (Y0_load1 (c := Ti vm1.2.2.2) (cs := []) sc3 rfl (by kernel_rfl))) ?_
      refine XL_takeC _ rfl rfl (by kernel_rfl) hc9 (X_of_Y1 rfl (Y1_call (s_spec_nuGood hy10) cf_spec_nuGood rfl (by kernel_rfl))) ?_
      refine XL_cons rfl (X_of_Y0 rfl (Y0_pickTe (b := b8) (p := y10) rfl (by kernel_rfl) hc9 (by kernel_rfl) hb11)) ?_
      exact XE
     ·have hb11 := some_inj (of_false hb11 hc9)
      refine XL_skipT _ rfl rfl (by kernel_rfl) hc9 rfl ?_
      refine XL_skipT _ rfl rfl (by kernel_rfl) hc9 rfl ?_
      refine XL_skipT _ rfl rfl (by kernel_rfl) hc9 rfl ?_
      refine XL_cons rfl (X_of_Y0 rfl (Y0_pickFe (b := b8) (p := false) rfl (by kernel_rfl) hc9 (by kernel_rfl) hb11)) ?_
      exact XE
   ·have hb5 := some_inj (of_false hb5 hc3)
    refine XL_skipT _ rfl rfl (by kernel_rfl) hc3 rfl ?_
    refine XL_skipT _ rfl rfl (by kernel_rfl) hc3 rfl ?_
    refine XL_skipT _ rfl rfl (by kernel_rfl) hc3 rfl ?_
    refine XL_cons rfl (X_of_Y0 rfl (Y0_pickFe (b := y2) (p := false) rfl (by kernel_rfl) hc3 (by kernel_rfl) hb5)) ?_
    refine XR 1 ?_
    refine XL_split b5 (fun hc6 => ?_) (fun hc6 => ?_)
    ·have hb8 := of_true hb8 hc6
     obtain ⟨y7, hy7, hb8⟩ := of_bind hb8
     have hb8 := some_inj hb8
     refine XL_takeC _ rfl rfl (by kernel_rfl) hc6 (X_of_Y0 rfl (E_field (.pt 8 2) Tryd.underlying42 rfl sz3 rfl (by kernel_rfl) (by intro hh; cases hh))) ?_
     refine XL_takeC _ rfl rfl (by kernel_rfl) hc6 (X_of_Y0 rfl (Y0_load1 (c := Ti vm1.2.2.1) (cs := [Ti vm1.2.2.2]) sc3 rfl (by kernel_rfl))) ?_
     refine XL_takeC _ rfl rfl (by kernel_rfl) hc6 (X_of_Y1 rfl (Y1_call (s_spec_nuGood hy7) cf_spec_nuGood rfl (by kernel_rfl))) ?_
     refine XL_cons rfl (X_of_Y0 rfl (Y0_pickTe (b := b5) (p := y7) rfl (by kernel_rfl) hc6 (by kernel_rfl) hb8)) ?_
     refine XR 1 ?_
     refine XL_split b8 (fun hc9 => ?_) (fun hc9 => ?_)
     ·have hb11 := of_true hb11 hc9
      obtain ⟨y10, hy10, hb11⟩ := of_bind hb11
      have hb11 := some_inj hb11
      refine XL_takeC _ rfl rfl (by kernel_rfl) hc9 (X_of_Y0 rfl (E_field (.pt 8 3) Tryd.underlying42 rfl sz3 rfl (by kernel_rfl) (by intro hh; cases hh))) ?_
      refine XL_takeC _ rfl rfl (by kernel_rfl) hc9 (X_of_Y0 rfl (Y0_load1 (c := Ti vm1.2.2.2) (cs := []) sc3 rfl (by kernel_rfl))) ?_
      refine XL_takeC _ rfl rfl (by kernel_rfl) hc9 (X_of_Y1 rfl (Y1_call (s_spec_nuGood hy10) cf_spec_nuGood rfl (by kernel_rfl))) ?_
      refine XL_cons rfl (X_of_Y0 rfl (Y0_pickTe (b := b8) (p := y10) rfl (by kernel_rfl) hc9 (by kernel_rfl) hb11)) ?_
      exact XE
     ·have hb11 := some_inj (of_false hb11 hc9)
      refine XL_skipT _ rfl rfl (by kernel_rfl) hc9 rfl ?_
      refine XL_skipT _ rfl rfl (by kernel_rfl) hc9 rfl ?_
      refine XL_skipT _ rfl rfl (by kernel_rfl) hc9 rfl ?_
      refine XL_cons rfl (X_of_Y0 rfl (Y0_pickFe (b := b8) (p := false) rfl (by kernel_rfl) hc9 (by kernel_rfl) hb11)) ?_
      exact XE
    ·have hb8 := some_inj (of_false hb8 hc6)
     refine XL_skipT _ rfl rfl (by kernel_rfl) hc6 rfl ?_
     refine XL_skipT _ rfl rfl (by kernel_rfl) hc6 rfl ?_
     refine XL_skipT _ rfl rfl (by kernel_rfl) hc6 rfl ?_
     refine XL_cons rfl (X_of_Y0 rfl (Y0_pickFe (b := b5) (p := false) rfl (by kernel_rfl) hc6 (by kernel_rfl) hb8)) ?_
     refine XR 1 ?_
     refine XL_split b8 (fun hc9 => ?_) (fun hc9 => ?_)
     ·have hb11 := of_true hb11 hc9
      obtain ⟨y10, hy10, hb11⟩ := of_bind hb11
      have hb11 := some_inj hb11
      refine XL_takeC _ rfl rfl (by kernel_rfl) hc9 (X_of_Y0 rfl (E_field (.pt 8 3) Tryd.underlying42 rfl sz3 rfl (by kernel_rfl) (by intro hh; cases hh))) ?_
      refine XL_takeC _ rfl rfl (by kernel_rfl) hc9 (X_of_Y0 rfl (Y0_load1 (c := Ti vm1.2.2.2) (cs := []) sc3 rfl (by kernel_rfl))) ?_
      refine XL_takeC _ rfl rfl (by kernel_rfl) hc9 (X_of_Y1 rfl (Y1_call (s_spec_nuGood hy10) cf_spec_nuGood rfl (by kernel_rfl))) ?_
      refine XL_cons rfl (X_of_Y0 rfl (Y0_pickTe (b := b8) (p := y10) rfl (by kernel_rfl) hc9 (by kernel_rfl) hb11)) ?_
      exact XE
     ·have hb11 := some_inj (of_false hb11 hc9)
      refine XL_skipT _ rfl rfl (by kernel_rfl) hc9 rfl ?_
      refine XL_skipT _ rfl rfl (by kernel_rfl) hc9 rfl ?_
      refine XL_skipT _ rfl rfl (by kernel_rfl) hc9 rfl ?_
      refine XL_cons rfl (X_of_Y0 rfl (Y0_pickFe (b := b8) (p := false) rfl (by kernel_rfl) hc9 (by kernel_rfl) hb11)) ?_
      exact XE
  refine V_ret ?_
  obtain rfl := some_inj h
  show Post _ _ _ _ _
  exact ⟨.inr rfl, rfl, rfl, rfl⟩
theorem cf_spec_NextForm : ∀ args w, (callFunc 117 args).run Tryd.prog w = .ok (.enter 117 args) w := run_callFunc Tryd.func117 (by kernel_rfl) (by kernel_rfl)
theorem s_spec_NextForm {f1 : (Int × Int × Int)} {r : (((Int × Int × Int)) × ((Int × Int × Int × Int)) × Bool)} (h : r_spec_NextForm f1 = some r) : CallS Tryd.prog 117 [.ag [Ti f1.1, Ti f1.2.1, Ti f1.2.2]] (.tc (.ag [Ti r.1.1, Ti r.1.2.1, Ti r.1.2.2]) (.tc (.ag [Ti r.2.1.1, Ti r.2.1.2.1, Ti r.2.1.2.2.1, Ti r.2.1.2.2.2]) (.tc (Bo r.2.2) .tn))) [] := by
  refine CallS_of_text (rs := [.w 2 3, .w 3 4, .t 4]) (vs := [.cell 2 27, .cell 3 42, .tmp 4]) Tryd.func117 rfl rfl (.cons ⟨rfl, wd27⟩ (.cons ⟨rfl, wd42⟩ (.cons rfl FitsL.nil))) (by decide) 29 rfl ?_
  unfold r_spec_NextForm at h
  show V _ _ ⟨.ag [Ti f1.1, Ti f1.2.1, Ti f1.2.2] :: bt 28 [], []⟩ _
  refine V_e (mb 29 14) [24, 16, 8] (s1 := ⟨.bot :: .pt 8 0 :: .pt 16 0 :: .pt 24 0 :: bt 25 [], [(24, .box [Ti 0, Ti 0, Ti 0, Ti 0]), (16, .box [Ti 0, Ti 0, Ti 0]), (8, .box [Ti f1.1, Ti f1.2.1, Ti f1.2.2])]⟩) ?_
  refine V_seq ?_
  obtain ⟨y2, hy2, h⟩ := of_bind h
  refine V_sreg (mb 29 526) [24, 16, 8] (s1 := ⟨.bot :: .pt 8 0 :: .pt 16 0 :: .pt 24 0 :: bt 5 (Bo (!y2) :: bt 19 []), [(24, .box [Ti 0, Ti 0, Ti 0, Ti 0]), (16, .box [Ti 0, Ti 0, Ti 0]), (8, .box [Ti f1.1, Ti f1.2.1, Ti f1.2.2])]⟩) ?_ ?_
  ·refine XR 1 ?_
   refine XC (s_spec_cyGood hy2) cf_spec_cyGood rfl rfl rfl ?_
   exact XE
  refine V_cond rfl (fun hc3 => ?_) (fun hc3 => ?_)
  ·have h := of_true h hc3
   refine V_sreg (mb 29 28) [24, 16] (s1 := ⟨.bot :: .bot :: .pt 16 0 :: .pt 24 0 :: Bo false :: bt 24 [], [(24, .box [Ti 0, Ti 0, Ti 0, Ti 0]), (16, .box [Ti 0, Ti 0, Ti 0])]⟩) ?_ ?_
   ·refine L0 rfl rfl (Y0_build (cs := [Ti 0, Ti 0, Ti 0]) pl27 bt27 rfl rfl (by kernel_rfl)) ?_
    refine L0 rfl rfl (Y0_build (cs := [Ti 0, Ti 0, Ti 0, Ti 0]) pl42 bt42 rfl rfl (by kernel_rfl)) ?_
    exact XE
   refine V_ret ?_
   obtain rfl := some_inj h
   show Post _ _ _ _ _
   exact ⟨.inr rfl, rfl, rfl, rfl⟩
  ·have h := of_false h hc3
   refine V_skip ?_
   show V _ _ _ _
   obtain ⟨y4, hy4, h⟩ := of_bind h
   refine V_sreg (mb 29 46) [40, 24, 16, 8] (s1 := ⟨.bot :: .pt 8 0 :: .pt 16 0 :: .pt 24 0 :: .bot :: .pt 40 0 :: bt 23 [], [(40, .box [Ti y4.1, Ti y4.2.1, Ti y4.2.2.1, Ti y4.2.2.2]), (24, .box [Ti 0, Ti 0, Ti 0, Ti 0]), (16, .box [Ti 0, Ti 0, Ti 0]), (8, .box [Ti f1.1, Ti f1.2.1, Ti f1.2.2])]⟩) ?_ ?_
   ·refine XR 1 ?_
    refine XC (s_spec_cyMove hy4) cf_spec_cyMove rfl rfl rfl ?_
    exact XE
   obtain ⟨y5, hy5, h⟩ := of_bind h
   refine V_sreg (mb 29 108) [48, 40, 24, 16] (s1 := ⟨.bot :: .bot :: .pt 16 0 :: .pt 24 0 :: .bot :: .pt 40 0 :: .pt 48 0 :: bt 22 [], [(48, .box [Ti y5.1, Ti y5.2.1, Ti y5.2.2]), (40, .box [Ti y4.1, Ti y4.2.1, Ti y4.2.2.1, Ti y4.2.2.2]), (24, .box [Ti 0, Ti 0, Ti 0, Ti 0]), (16, .box [Ti 0, Ti 0, Ti 0])]⟩) ?_ ?_
   ·refine XR 2 ?_
    refine XC (s_spec_foAct hy5) cf_spec_foAct rfl rfl rfl ?_
    exact XE
   refine V_seq ?_
   obtain ⟨y6, hy6, h⟩ := of_bind h
   obtain ⟨b9, hb9, h⟩ := of_bind h
   refine V_sreg (mb 29 16777324) [48, 40, 24, 16] (s1 := ⟨.bot :: .bot :: .pt 16 0 :: .pt 24 0 :: .bot :: .pt 40 0 :: .pt 48 0 :: bt 17 (Bo b9 :: bt 4 []), [(48, .box [Ti y5.1, Ti y5.2.1, Ti y5.2.2]), (40, .box [Ti y4.1, Ti y4.2.1, Ti y4.2.2.1, Ti y4.2.2.2]), (24, .box [Ti 0, Ti 0, Ti 0, Ti 0]), (16, .box [Ti 0, Ti 0, Ti 0])]⟩) ?_ ?_
   ·refine XR 1 ?_
    refine XC (s_spec_foGood hy6) cf_spec_foGood rfl rfl rfl ?_
    refine XR 2 ?_
    refine XL_split (!y6) (fun hc7 => ?_) (fun hc7 => ?_)
    ·have hb9 := some_inj (of_true hb9 hc7)
     refine XL_skipF _ rfl rfl (by kernel_rfl) hc7 rfl ?_
     refine XL_skipF _ rfl rfl (by kernel_rfl) hc7 rfl ?_
     refine XL_skipF _ rfl rfl (by kernel_rfl) hc7 rfl ?_
     refine XL_cons rfl (X_of_Y0 rfl (Y0_pickTe (b := !y6) (p := true) rfl (by kernel_rfl) hc7 (by kernel_rfl) hb9)) ?_
     exact XE
    ·have hb9 := of_false hb9 hc7
     obtain ⟨y8, hy8, hb9⟩ := of_bind hb9
     have hb9 := some_inj hb9
     refine XL_takeC _ rfl rfl (by kernel_rfl) hc7 (X_of_Y0 rfl (E_loadn (cs := [Ti y4.1, Ti y4.2.1, Ti y4.2.2.1, Ti y4.2.2.2]) [Ti y4.1, Ti y4.2.1, Ti y4.2.2.1, Ti y4.2.2.2] wd42 rfl (by kernel_rfl) (Nat.le_of_ble_eq_true rfl) (by kernel_rfl))) ?_
     refine XL_takeC _ rfl rfl (by kernel_rfl) hc7 (X_of_Y1 rfl (Y1_call (s_spec_foMatrix hy8) cf_spec_foMatrix rfl (by kernel_rfl))) ?_
     refine XL_takeC _ rfl rfl (by kernel_rfl) hc7 (X_of_Y0 rfl (Y0_not (b := y8) rfl (by kernel_rfl))) ?_
     refine XL_cons rfl (X_of_Y0 rfl (Y0_pickFe (b := !y6) (p := !y8) rfl (by kernel_rfl) hc7 (by kernel_rfl) hb9)) ?_
     exact XE
   refine V_cond rfl (fun hc10 => ?_) (fun hc10 => ?_)
   ·have h := of_true h hc10
    refine V_sreg (mb 29 28) [24, 16] (s1 := ⟨.bot :: .bot :: .pt 16 0 :: .pt 24 0 :: Bo false :: bt 24 [], [(24, .box [Ti 0, Ti 0, Ti 0, Ti 0]), (16, .box [Ti 0, Ti 0, Ti 0])]⟩) ?_ ?_
    ·refine L0 rfl rfl (Y0_build (cs := [Ti 0, Ti 0, Ti 0]) pl27 bt27 rfl rfl (by kernel_rfl)) ?_
     refine L0 rfl rfl (Y0_build (cs := [Ti 0, Ti 0, Ti 0, Ti 0]) pl42 bt42 rfl rfl (by kernel_rfl)) ?_
     exact XE
    refine V_ret ?_
    obtain rfl := some_inj h
    show Post _ _ _ _ _
    exact ⟨.inr rfl, rfl, rfl, rfl⟩
   ·have h := of_false h hc10
    refine V_skip ?_
    show V _ _ _ _
    refine V_sdreg [0, 0, 1, 7, 15] 3 [[.z, .b, .z], [.b, .z, .r 16], [.a, .b, .z]] (mb 29 28) [24, 16] (s1 := ⟨.bot :: .bot :: .pt 16 0 :: .pt 24 0 :: Bo true :: bt 24 [], [(24, .box [Ti y4.1, Ti y4.2.1, Ti y4.2.2.1, Ti y4.2.2.2]), (16, .box [Ti y5.1, Ti y5.2.1, Ti y5.2.2])]⟩) (by kernel_rfl) (by kernel_rfl) ?_ ?_
    ·refine DA 3 ?_
     exact XE
    refine V_ret ?_
    obtain rfl := some_inj h
    show Post _ _ _ _ _
    exact ⟨.inr rfl, rfl, rfl, rfl⟩
theorem cf_spec_foMul : ∀ args w, (callFunc 90 args).run Tryd.prog w = .ok (.enter 90 args) w := run_callFunc Tryd.func90 (by kernel_rfl) (by kernel_rfl)
theorem s_spec_foMul {vm1 : (Int × Int × Int × Int)} {vn2 : (Int × Int × Int × Int)} {r : (Int × Int × Int × Int)} (h : r_spec_foMul vm1 vn2 = some r) : CallS Tryd.prog 90 [.ag [Ti vm1.1, Ti vm1.2.1, Ti vm1.2.2.1, Ti vm1.2.2.2], .ag [Ti vn2.1, Ti vn2.2.1, Ti vn2.2.2.1, Ti vn2.2.2.2]] (.ag [Ti r.1, Ti r.2.1, Ti r.2.2.1, Ti r.2.2.2]) [] := by
  refine CallS_of_text (rs := [.w 4 4]) (vs := [.cell 4 42]) Tryd.func90 rfl rfl (.cons ⟨rfl, wd42⟩ FitsL.nil) (by decide) 50 rfl ?_
  unfold r_spec_foMul at h
  show V _ _ ⟨.ag [Ti vm1.1, Ti vm1.2.1, Ti vm1.2.2.1, Ti vm1.2.2.2] :: .ag [Ti vn2.1, Ti vn2.2.1, Ti vn2.2.2.1, Ti vn2.2.2.2] :: bt 48 [], []⟩ _
  refine V_e (mb 50 28) [32, 24, 16] (s1 := ⟨.bot :: .bot :: .pt 16 0 :: .pt 24 0 :: .pt 32 0 :: bt 45 [], [(32, .box [Ti 0, Ti 0, Ti 0, Ti 0]), (24, .box [Ti vn2.1, Ti vn2.2.1, Ti vn2.2.2.1, Ti vn2.2.2.2]), (16, .box [Ti vm1.1, Ti vm1.2.1, Ti vm1.2.2.1, Ti vm1.2.2.2])]⟩) ?_
  obtain ⟨f3, hf3, h⟩ := of_sI h
  obtain ⟨f4, hf4, h⟩ := of_sI h
  obtain ⟨f5, hf5, h⟩ := of_sI h
  obtain ⟨f6, hf6, h⟩ := of_sI h
  refine V_sreg (mb 50 16) [32] (s1 := ⟨bt 4 (.pt 32 0 :: bt 45 []), [(32, .box [Ti f3, Ti f4, Ti f5, Ti f6])]⟩) ?_ ?_
  ·refine XR 44 ?_
   refine L0 rfl rfl (Y0_build (cs := [Ti (w64 ((w64 (vm1.1 * vn2.1)) + (w64 (vm1.2.1 * vn2.2.2.1)))), Ti (w64 ((w64 (vm1.1 * vn2.2.1)) + (w64 (vm1.2.1 * vn2.2.2.2)))), Ti (w64 ((w64 (vm1.2.2.1 * vn2.1)) + (w64 (vm1.2.2.2 * vn2.2.2.1)))), Ti (w64 ((w64 (vm1.2.2.1 * vn2.2.1)) + (w64 (vm1.2.2.2 * vn2.2.2.2))))]) pl42 bt42 rfl rfl (by kernel_rfl)) ?_
   refine XR 1 ?_
   refine XL_nil ?_
   subst hf3 hf4 hf5 hf6
   kernel_rfl
  refine V_ret ?_
  obtain rfl := some_inj h
  show Post _ _ _ _ _
  exact ⟨.inr rfl, rfl, rfl, rfl⟩
theorem cf_spec_cyReduce : ∀ args w, (callFunc 87 args).run Tryd.prog w = .ok (.enter 87 args) w := run_callFunc Tryd.func87 (by kernel_rfl) (by kernel_rfl)
theorem s_spec_cyReduce {f1 : (Int × Int × Int)} {r : (((Int × Int × Int)) × ((Int × Int × Int × Int)) × Bool)} (h : r_spec_cyReduce f1 = some r) : CallS Tryd.prog 87 [.ag [Ti f1.1, Ti f1.2.1, Ti f1.2.2]] (.tc (.ag [Ti r.1.1, Ti r.1.2.1, Ti r.1.2.2]) (.tc (.ag [Ti r.2.1.1, Ti r.2.1.2.1, Ti r.2.1.2.2.1, Ti r.2.1.2.2.2]) (.tc (Bo r.2.2) .tn))) [] := by
  refine CallS_of_text (rs := [.w 2 3, .w 3 4, .t 4]) (vs := [.cell 2 27, .cell 3 42, .tmp 4]) Tryd.func87 rfl rfl (.cons ⟨rfl, wd27⟩ (.cons ⟨rfl, wd42⟩ (.cons rfl FitsL.nil))) (by decide) 34 rfl ?_
  unfold r_spec_cyReduce at h
  show V _ _ ⟨.ag [Ti f1.1, Ti f1.2.1, Ti f1.2.2] :: bt 33 [], []⟩ _
  refine V_e (mb 34 14) [24, 16, 8] (s1 := ⟨.bot :: .pt 8 0 :: .pt 16 0 :: .pt 24 0 :: bt 30 [], [(24, .box [Ti 0, Ti 0, Ti 0, Ti 0]), (16, .box [Ti 0, Ti 0, Ti 0]), (8, .box [Ti f1.1, Ti f1.2.1, Ti f1.2.2])]⟩) ?_
  refine V_sreg (mb 34 46) [40, 24, 16, 8] (s1 := ⟨.bot :: .pt 8 0 :: .pt 16 0 :: .pt 24 0 :: .bot :: .pt 40 0 :: bt 28 [], [(40, .box [Ti 1, Ti 0, Ti 0, Ti 1]), (24, .box [Ti 0, Ti 0, Ti 0, Ti 0]), (16, .box [Ti 0, Ti 0, Ti 0]), (8, .box [Ti f1.1, Ti f1.2.1, Ti f1.2.2])]⟩) ?_ ?_
  ·refine L0 rfl rfl (Y0_build (cs := [Ti 1, Ti 0, Ti 0, Ti 1]) pl42 bt42 rfl rfl (by kernel_rfl)) ?_
   exact XE
  refine V_seq ?_
  obtain ⟨qo10, hLo10, hko10⟩ := of_bind h
  refine V_toS (q := qo10) (S := fun o10 => ⟨.bot :: .pt 8 0 :: .pt 16 0 :: .pt 24 0 :: .bot :: .pt 40 0 :: bt 28 [], [(40, .box [Ti o10.1, Ti o10.2.1, Ti o10.2.2.1, Ti o10.2.2.2.1]), (24, .box [Ti 0, Ti 0, Ti 0, Ti 0]), (16, .box [Ti 0, Ti 0, Ti 0]), (8, .box [Ti o10.2.2.2.2.1, Ti o10.2.2.2.2.2.1, Ti o10.2.2.2.2.2.2])]⟩) (mb 34 46) [40, 24, 16, 8] ?_ ?_
  ·refine V_block (V_loop (fun n s => ∃ (f2 : Int) (f3 : Int) (f4 : Int) (f5 : Int) (f6 : Int) (f7 : Int) (f8 : Int), s.keep (mb 34 46) [40, 24, 16, 8] = (⟨.bot :: .pt 8 0 :: .pt 16 0 :: .pt 24 0 :: .bot :: .pt 40 0 :: bt 28 [], [(40, .box [Ti f2, Ti f3, Ti f4, Ti f5]), (24, .box [Ti 0, Ti 0, Ti 0, Ti 0]), (16, .box [Ti 0, Ti 0, Ti 0]), (8, .box [Ti f6, Ti f7, Ti f8])]⟩ : St) ∧ r_spec_cyReduce_L9 n f2 f3 f4 f5 f6 f7 f8 = some qo10) FU ⟨_, _, _, _, _, _, _,  by rfl, hLo10⟩ ?_)
   clear hLo10
   rintro n s ⟨f2, f3, f4, f5, f6, f7, f8, hs, h⟩
   refine V_keep _ _ hs ?_
   clear hs
   cases n with
   | zero => cases h
   | succ n =>
    rw [r_spec_cyReduce_L9] at h
    refine V_seq ?_
    obtain ⟨y11, hy11, h⟩ := of_bind h
    refine V_sreg (mb 34 4142) [40, 24, 16, 8] (s1 := ⟨.bot :: .pt 8 0 :: .pt 16 0 :: .pt 24 0 :: .bot :: .pt 40 0 :: bt 6 (Bo (!y11) :: bt 21 []), [(40, .box [Ti f2, Ti f3, Ti f4, Ti f5]), (24, .box [Ti 0, Ti 0, Ti 0, Ti 0]), (16, .box [Ti 0, Ti 0, Ti 0]), (8, .box [Ti f6, Ti f7, Ti f8])]⟩) ?_ ?_
    ·refine XR 1 ?_
     refine XC (s_spec_cyIs hy11) cf_spec_cyIs rfl rfl rfl ?_
     exact XE
    refine V_cond rfl (fun hc12 => ?_) (fun hc12 => ?_)
    ·have h := of_true h hc12
     refine V_skip ?_
     show V _ _ _ _
     refine V_block ?_
     obtain ⟨y13, hy13, h⟩ := of_bind h
     refine V_sreg (mb 34 494) [56, 48, 40, 24, 16, 8] (s1 := ⟨.bot :: .pt 8 0 :: .pt 16 0 :: .pt 24 0 :: .bot :: .pt 40 0 :: .pt 48 0 :: .pt 56 0 :: Bo y13.2.2 :: bt 25 [], [(56, .box [Ti y13.2.1.1, Ti y13.2.1.2.1, Ti y13.2.1.2.2.1, Ti y13.2.1.2.2.2]), (48, .box [Ti y13.1.1, Ti y13.1.2.1, Ti y13.1.2.2]), (40, .box [Ti f2, Ti f3, Ti f4, Ti f5]), (24, .box [Ti 0, Ti 0, Ti 0, Ti 0]), (16, .box [Ti 0, Ti 0, Ti 0]), (8, .box [Ti f6, Ti f7, Ti f8])]⟩) ?_ ?_
     ·refine XR 1 ?_
      refine XC (s_spec_NextForm hy13) cf_spec_NextForm rfl rfl rfl ?_
      exact XE
     refine V_seq ?_
     refine V_e (mb 34 1048814) [56, 48, 40, 24, 16, 8] (s1 := ⟨.bot :: .pt 8 0 :: .pt 16 0 :: .pt 24 0 :: .bot :: .pt 40 0 :: .pt 48 0 :: .pt 56 0 :: bt 12 (Bo (!y13.2.2) :: bt 13 []), [(56, .box [Ti y13.2.1.1, Ti y13.2.1.2.1, Ti y13.2.1.2.2.1, Ti y13.2.1.2.2.2]), (48, .box [Ti y13.1.1, Ti y13.1.2.1, Ti y13.1.2.2]), (40, .box [Ti f2, Ti f3, Ti f4, Ti f5]), (24, .box [Ti 0, Ti 0, Ti 0, Ti 0]), (16, .box [Ti 0, Ti 0, Ti 0]), (8, .box [Ti f6, Ti f7, Ti f8])]⟩) ?_
     refine V_cond rfl (fun hc14 => ?_) (fun hc14 => ?_)
     ·have h := of_true h hc14
      refine V_sreg (mb 34 28) [24, 16] (s1 := ⟨.bot :: .bot :: .pt 16 0 :: .pt 24 0 :: Bo false :: bt 29 [], [(24, .box [Ti 0, Ti 0, Ti 0, Ti 0]), (16, .box [Ti 0, Ti 0, Ti 0])]⟩) ?_ ?_
      ·refine L0 rfl rfl (Y0_build (cs := [Ti 0, Ti 0, Ti 0]) pl27 bt27 rfl rfl (by kernel_rfl)) ?_
       refine L0 rfl rfl (Y0_build (cs := [Ti 0, Ti 0, Ti 0, Ti 0]) pl42 bt42 rfl rfl (by kernel_rfl)) ?_
       exact XE
      refine V_ret ?_
      obtain rfl := some_inj h
      have h := hko10
      obtain rfl := some_inj h
      show Post _ _ _ _ _
      exact ⟨.inr rfl, rfl, rfl, rfl⟩
     ·have h := of_false h hc14
      refine V_skip ?_
      show V _ _ _ _
      obtain ⟨y15, hy15, h⟩ := of_bind h
      refine V_sdreg [0, 0, 0, 6, 15, 31] 4 (cdm 4 [168, 34, 10, 22]) (mb 34 46) [40, 24, 16, 8] (s1 := ⟨.bot :: .pt 8 0 :: .pt 16 0 :: .pt 24 0 :: .bot :: .pt 40 0 :: bt 28 [], [(40, .box [Ti y15.1, Ti y15.2.1, Ti y15.2.2.1, Ti y15.2.2.2]), (24, .box [Ti 0, Ti 0, Ti 0, Ti 0]), (16, .box [Ti 0, Ti 0, Ti 0]), (8, .box [Ti y13.1.1, Ti y13.1.2.1, Ti y13.1.2.2])]⟩) (by kernel_rfl) (by kernel_rfl) ?_ ?_
      ·refine DR 3 ?_
       refine DC 3 (s_spec_foMul hy15) cf_spec_foMul rfl rfl rfl rfl 26 rfl ?_
       refine DA 0 ?_
       exact XE
      obtain ⟨y16, hy16, h⟩ := of_bind h
      refine V_sreg (mb 34 536870958) [40, 24, 16, 8] (s1 := ⟨.bot :: .pt 8 0 :: .pt 16 0 :: .pt 24 0 :: .bot :: .pt 40 0 :: bt 23 (Bo (!y16) :: bt 4 []), [(40, .box [Ti y15.1, Ti y15.2.1, Ti y15.2.2.1, Ti y15.2.2.2]), (24, .box [Ti 0, Ti 0, Ti 0, Ti 0]), (16, .box [Ti 0, Ti 0, Ti 0]), (8, .box [Ti y13.1.1, Ti y13.1.2.1, Ti y13.1.2.2])]⟩) ?_ ?_
      ·refine XR 1 ?_
       refine XC (s_spec_foMatrix hy16) cf_spec_foMatrix rfl rfl rfl ?_
       exact XE
      refine V_cond rfl (fun hc17 => ?_) (fun hc17 => ?_)
      ·have h := of_true h hc17
       refine V_sreg (mb 34 28) [24, 16] (s1 := ⟨.bot :: .bot :: .pt 16 0 :: .pt 24 0 :: Bo false :: bt 29 [], [(24, .box [Ti 0, Ti 0, Ti 0, Ti 0]), (16, .box [Ti 0, Ti 0, Ti 0])]⟩) ?_ ?_
       ·refine L0 rfl rfl (Y0_build (cs := [Ti 0, Ti 0, Ti 0]) pl27 bt27 rfl rfl (by kernel_rfl)) ?_
        refine L0 rfl rfl (Y0_build (cs := [Ti 0, Ti 0, Ti 0, Ti 0]) pl42 bt42 rfl rfl (by kernel_rfl)) ?_
        exact XE
       refine V_ret ?_
       obtain rfl := some_inj h
       have h := hko10
       obtain rfl := some_inj h
       show Post _ _ _ _ _
       exact ⟨.inr rfl, rfl, rfl, rfl⟩
      ·have h := of_false h hc17
       refine V_skip ?_
       exact ⟨n, Nat.lt_succ_self n, _, _, _, _, _, _, _,  by rfl, h⟩
    ·have h := of_false h hc12
     refine V_exit ?_
     obtain rfl := some_inj h
     exact ⟨_, rfl, by rfl⟩
  rintro o10 rfl
  have h := hko10
  clear hko10
  show V _ _ _ _
  refine V_sdreg [0, 0, 1, 7, 15] 3 [[.z, .b, .z], [.b, .z, .r 16], [.a, .b, .z]] (mb 34 28) [24, 16] (s1 := ⟨.bot :: .bot :: .pt 16 0 :: .pt 24 0 :: Bo true :: bt 29 [], [(24, .box [Ti o10.1, Ti o10.2.1, Ti o10.2.2.1, Ti o10.2.2.2.1]), (16, .box [Ti o10.2.2.2.2.1, Ti o10.2.2.2.2.2.1, Ti o10.2.2.2.2.2.2])]⟩) (by kernel_rfl) (by kernel_rfl) ?_ ?_
  ·refine DA 3 ?_
   exact XE
  refine V_ret ?_
  obtain rfl := some_inj h
  show Post _ _ _ _ _
  exact ⟨.inr rfl, rfl, rfl, rfl⟩
theorem cf_spec_unSmall : ∀ args w, (callFunc 92 args).run Tryd.prog w = .ok (.enter 92 args) w := run_callFunc Tryd.func92 (by kernel_rfl) (by kernel_rfl)
theorem s_spec_unSmall {x1 : (Int × Int)} {r : Bool} (h : r_spec_unSmall x1 = some r) : CallS Tryd.prog 92 [.ag [Ti x1.1, Ti x1.2]] (Bo r) [] := by
  refine CallS_of_text (rs := [.t 2]) (vs := [.tmp 2]) Tryd.func92 rfl rfl (.cons rfl FitsL.nil) (by decide) 11 rfl ?_
  unfold r_spec_unSmall at h
  show V _ _ ⟨.ag [Ti x1.1, Ti x1.2] :: bt 10 [], []⟩ _
  refine V_e (mb 11 2) [8] (s1 := ⟨.bot :: .pt 8 0 :: bt 9 [], [(8, .box [Ti x1.1, Ti x1.2])]⟩) ?_
  obtain ⟨y2, hy2, h⟩ := of_bind h
  obtain ⟨b5, hb5, h⟩ := of_bind h
  refine V_sreg (mb 11 4) [] (s1 := ⟨.bot :: .bot :: Bo b5 :: bt 8 [], []⟩) ?_ ?_
  ·refine XR 2 ?_
   refine XC (s_spec_l1In hy2) cf_spec_l1In rfl rfl rfl ?_
   refine XR 1 ?_
   refine XL_split y2 (fun hc3 => ?_) (fun hc3 => ?_)
   ·have hb5 := of_true hb5 hc3
    obtain ⟨y4, hy4, hb5⟩ := of_bind hb5
    have hb5 := some_inj hb5
    refine XL_takeC _ rfl rfl (by kernel_rfl) hc3 (X_of_Y0 rfl (E_field (.pt 8 1) Tryd.underlying51 rfl sz3 rfl (by kernel_rfl) (by intro hh; cases hh))) ?_
    refine XL_takeC _ rfl rfl (by kernel_rfl) hc3 (X_of_Y0 rfl (Y0_load1 (c := Ti x1.2) (cs := []) sc3 rfl (by kernel_rfl))) ?_
    refine XL_takeC _ rfl rfl (by kernel_rfl) hc3 (X_of_Y1 rfl (Y1_call (s_spec_nuGood hy4) cf_spec_nuGood rfl (by kernel_rfl))) ?_
    refine XL_cons rfl (X_of_Y0 rfl (Y0_pickTe (b := y2) (p := y4) rfl (by kernel_rfl) hc3 (by kernel_rfl) hb5)) ?_
    exact XE
   ·have hb5 := some_inj (of_false hb5 hc3)
    refine XL_skipT _ rfl rfl (by kernel_rfl) hc3 rfl ?_
    refine XL_skipT _ rfl rfl (by kernel_rfl) hc3 rfl ?_
    refine XL_skipT _ rfl rfl (by kernel_rfl) hc3 rfl ?_
    refine XL_cons rfl (X_of_Y0 rfl (Y0_pickFe (b := y2) (p := false) rfl (by kernel_rfl) hc3 (by kernel_rfl) hb5)) ?_
    exact XE
  refine V_ret ?_
  obtain rfl := some_inj h
  show Post _ _ _ _ _
  exact ⟨.inr rfl, rfl, rfl, rfl⟩
theorem cf_spec_unFour : ∀ args w, (callFunc 54 args).run Tryd.prog w = .ok (.enter 54 args) w := run_callFunc Tryd.func54 (by kernel_rfl) (by kernel_rfl)
theorem s_spec_unFour {d1 : Int} {r : (((Int × Int)) × Bool)} (h : r_spec_unFour d1 = some r) : CallS Tryd.prog 54 [I d1] (.tc (.ag [Ti r.1.1, Ti r.1.2]) (.tc (Bo r.2) .tn)) [] := by
  refine CallS_of_text (rs := [.w 2 2, .t 3]) (vs := [.cell 2 51, .tmp 3]) Tryd.func54 rfl rfl (.cons ⟨rfl, wd51⟩ (.cons rfl FitsL.nil)) (by decide) 74 rfl ?_
  unfold r_spec_unFour at h
  show V _ _ ⟨I d1 :: bt 73 [], []⟩ _
  refine V_e (mb 74 5) [16] (s1 := ⟨I d1 :: .bot :: .pt 16 0 :: bt 71 [], [(16, .box [Ti 0, Ti 0])]⟩) ?_
  obtain ⟨y2, hy2, h⟩ := of_bind h
  refine V_sreg (mb 74 20) [32, 16] (s1 := ⟨.bot :: .bot :: .pt 16 0 :: .bot :: .pt 32 0 :: bt 69 [], [(32, .box [Ti y2.1.1, Ti y2.1.2.1, Ti y2.1.2.2]), (16, .box [Ti 0, Ti 0])]⟩) ?_ ?_
  ·refine XR 1 ?_
   refine XC (s_spec_PrincipalForm hy2) cf_spec_PrincipalForm rfl rfl rfl ?_
   exact XE
  obtain ⟨y3, hy3, h⟩ := of_bind h
  refine V_sreg (mb 74 20) [32, 16] (s1 := ⟨.bot :: .bot :: .pt 16 0 :: .bot :: .pt 32 0 :: bt 69 [], [(32, .box [Ti y3.1.1, Ti y3.1.2.1, Ti y3.1.2.2]), (16, .box [Ti 0, Ti 0])]⟩) ?_ ?_
  ·refine XR 1 ?_
   refine XC (s_spec_cyReduce hy3) cf_spec_cyReduce rfl rfl rfl ?_
   exact XE
  refine V_sreg (mb 74 84) [48, 32, 16] (s1 := ⟨.bot :: .bot :: .pt 16 0 :: .bot :: .pt 32 0 :: .bot :: .pt 48 0 :: bt 67 [], [(48, .box [Ti 1, Ti 0, Ti 0, Ti 1]), (32, .box [Ti y3.1.1, Ti y3.1.2.1, Ti y3.1.2.2]), (16, .box [Ti 0, Ti 0])]⟩) ?_ ?_
  ·refine L0 rfl rfl (Y0_build (cs := [Ti 1, Ti 0, Ti 0, Ti 1]) pl42 bt42 rfl rfl (by kernel_rfl)) ?_
   exact XE
  refine V_seq ?_
  refine V_e (mb 74 212) [56, 48, 32, 16] (s1 := ⟨.bot :: .bot :: .pt 16 0 :: .bot :: .pt 32 0 :: .bot :: .pt 48 0 :: .pt 56 0 :: bt 66 [], [(56, .box [Ti y3.1.1, Ti y3.1.2.1, Ti y3.1.2.2]), (48, .box [Ti 1, Ti 0, Ti 0, Ti 1]), (32, .box [Ti y3.1.1, Ti y3.1.2.1, Ti y3.1.2.2]), (16, .box [Ti 0, Ti 0])]⟩) ?_
  obtain ⟨qo12, hLo12, hko12⟩ := of_bind h
  refine V_toS (q := qo12) (S := fun o12 => ⟨.bot :: .bot :: .pt 16 0 :: .bot :: .pt 32 0 :: .bot :: .pt 48 0 :: bt 67 [], [(48, .box [Ti o12.1, Ti o12.2.1, Ti o12.2.2.1, Ti o12.2.2.2]), (32, .box [Ti y3.1.1, Ti y3.1.2.1, Ti y3.1.2.2]), (16, .box [Ti 0, Ti 0])]⟩) (mb 74 84) [48, 32, 16] ?_ ?_
  ·refine V_block (V_loop (fun n s => ∃ (f4 : Int) (f5 : Int) (f6 : Int) (f7 : Int) (f8 : Int) (f9 : Int) (f10 : Int), s.keep (mb 74 212) [56, 48, 32, 16] = (⟨.bot :: .bot :: .pt 16 0 :: .bot :: .pt 32 0 :: .bot :: .pt 48 0 :: .pt 56 0 :: bt 66 [], [(56, .box [Ti f4, Ti f5, Ti f6]), (48, .box [Ti f7, Ti f8, Ti f9, Ti f10]), (32, .box [Ti y3.1.1, Ti y3.1.2.1, Ti y3.1.2.2]), (16, .box [Ti 0, Ti 0])]⟩ : St) ∧ r_spec_unFour_L11 y3 n f4 f5 f6 f7 f8 f9 f10 = some qo12) FU ⟨_, _, _, _, _, _, _,  by rfl, hLo12⟩ ?_)
   clear hLo12
   rintro n s ⟨f4, f5, f6, f7, f8, f9, f10, hs, h⟩
   refine V_keep _ _ hs ?_
   clear hs
   cases n with
   | zero => cases h
   | succ n =>
    rw [r_spec_unFour_L11] at h
    refine V_seq ?_
    refine V_block ?_
    obtain ⟨y13, hy13, h⟩ := of_bind h
    refine V_sreg (mb 74 468) [64, 56, 48, 32, 16] (s1 := ⟨.bot :: .bot :: .pt 16 0 :: .bot :: .pt 32 0 :: .bot :: .pt 48 0 :: .pt 56 0 :: .pt 64 0 :: bt 65 [], [(64, .box [Ti y13.1, Ti y13.2.1, Ti y13.2.2.1, Ti y13.2.2.2]), (56, .box [Ti f4, Ti f5, Ti f6]), (48, .box [Ti f7, Ti f8, Ti f9, Ti f10]), (32, .box [Ti y3.1.1, Ti y3.1.2.1, Ti y3.1.2.2]), (16, .box [Ti 0, Ti 0])]⟩) ?_ ?_
    ·refine XR 1 ?_
     refine XC (s_spec_cyMove hy13) cf_spec_cyMove rfl rfl rfl ?_
     exact XE
    obtain ⟨y14, hy14, h⟩ := of_bind h
    obtain ⟨y15, hy15, h⟩ := of_bind h
    refine V_sdreg [0, 0, 3, 0, 0, 31, 63, 127] 6 (cdm 6 [648, 642, 645, 554, 170, 341]) (mb 74 212) [56, 48, 32, 16] (s1 := ⟨.bot :: .bot :: .pt 16 0 :: .bot :: .pt 32 0 :: .bot :: .pt 48 0 :: .pt 56 0 :: bt 66 [], [(56, .box [Ti y14.1, Ti y14.2.1, Ti y14.2.2]), (48, .box [Ti y15.1, Ti y15.2.1, Ti y15.2.2.1, Ti y15.2.2.2]), (32, .box [Ti y3.1.1, Ti y3.1.2.1, Ti y3.1.2.2]), (16, .box [Ti 0, Ti 0])]⟩) (by kernel_rfl) (by kernel_rfl) ?_ ?_
    ·refine DR 2 ?_
     refine DC 2 (s_spec_foAct hy14) cf_spec_foAct rfl rfl rfl rfl 27 rfl ?_
     refine DR 2 ?_
     refine DC 5 (s_spec_foMul hy15) cf_spec_foMul rfl rfl rfl rfl 30 rfl ?_
     refine DA 0 ?_
     exact XE
    refine V_seq ?_
    obtain ⟨y16, hy16, h⟩ := of_bind h
    obtain ⟨b19, hb19, h⟩ := of_bind h
    obtain ⟨b22, hb22, h⟩ := of_bind h
    obtain ⟨b25, hb25, h⟩ := of_bind h
    refine V_sreg (mb 74 4503599627370708) [56, 48, 32, 16] (s1 := ⟨.bot :: .bot :: .pt 16 0 :: .bot :: .pt 32 0 :: .bot :: .pt 48 0 :: .pt 56 0 :: bt 44 (Bo b25 :: bt 21 []), [(56, .box [Ti y14.1, Ti y14.2.1, Ti y14.2.2]), (48, .box [Ti y15.1, Ti y15.2.1, Ti y15.2.2.1, Ti y15.2.2.2]), (32, .box [Ti y3.1.1, Ti y3.1.2.1, Ti y3.1.2.2]), (16, .box [Ti 0, Ti 0])]⟩) ?_ ?_
    ·refine XR 2 ?_
     refine XC (s_spec_l1Abs hy16) cf_spec_l1Abs rfl rfl rfl ?_
     refine XR 2 ?_
     refine XL_split (ltI 1000000000 y16) (fun hc17 => ?_) (fun hc17 => ?_)
     ·have hb19 := some_inj (of_true hb19 hc17)
      refine XL_skipF _ rfl rfl (by kernel_rfl) hc17 rfl ?_
      refine XL_skipF _ rfl rfl (by kernel_rfl) hc17 rfl ?_
      refine XL_skipF _ rfl rfl (by kernel_rfl) hc17 rfl ?_
      refine XL_skipF _ rfl rfl (by kernel_rfl) hc17 rfl ?_
      refine XL_cons rfl (X_of_Y0 rfl (Y0_pickTe (b := ltI 1000000000 y16) (p := true) rfl (by kernel_rfl) hc17 (by kernel_rfl) hb19)) ?_
      refine XR 1 ?_
      refine XL_split b19 (fun hc20 => ?_) (fun hc20 => ?_)
      ·have hb22 := some_inj (of_true hb22 hc20)
       refine XL_skipF _ rfl rfl (by kernel_rfl) hc20 rfl ?_
       refine XL_skipF _ rfl rfl (by kernel_rfl) hc20 rfl ?_
       refine XL_skipF _ rfl rfl (by kernel_rfl) hc20 rfl ?_
       refine XL_skipF _ rfl rfl (by kernel_rfl) hc20 rfl ?_
       refine XL_cons rfl (X_of_Y0 rfl (Y0_pickTe (b := b19) (p := true) rfl (by kernel_rfl) hc20 (by kernel_rfl) hb22)) ?_
       refine XR 1 ?_
       refine XL_split b22 (fun hc23 => ?_) (fun hc23 => ?_)
       ·have hb25 := some_inj (of_true hb25 hc23)
        refine XL_skipF _ rfl rfl (by kernel_rfl) hc23 rfl ?_
        refine XL_skipF _ rfl rfl (by kernel_rfl) hc23 rfl ?_
        refine XL_skipF _ rfl rfl (by kernel_rfl) hc23 rfl ?_
        refine XL_skipF _ rfl rfl (by kernel_rfl) hc23 rfl ?_
        refine XL_cons rfl (X_of_Y0 rfl (Y0_pickTe (b := b22) (p := true) rfl (by kernel_rfl) hc23 (by kernel_rfl) hb25)) ?_
        exact XE
       ·have hb25 := of_false hb25 hc23
        obtain ⟨y24, hy24, hb25⟩ := of_bind hb25
        have hb25 := some_inj hb25
        refine XL_takeC _ rfl rfl (by kernel_rfl) hc23 (X_of_Y0 rfl (E_field (.pt 48 3) Tryd.underlying42 rfl sz3 rfl (by kernel_rfl) (by intro hh; cases hh))) ?_
        refine XL_takeC _ rfl rfl (by kernel_rfl) hc23 (X_of_Y0 rfl (Y0_load1 (c := Ti y15.2.2.2) (cs := []) sc3 rfl (by kernel_rfl))) ?_
        refine XL_takeC _ rfl rfl (by kernel_rfl) hc23 (X_of_Y1 rfl (Y1_call (s_spec_l1Abs hy24) cf_spec_l1Abs rfl (by kernel_rfl))) ?_
        refine XL_takeC _ rfl rfl (by kernel_rfl) hc23 (X_of_Y0 rfl (Y0_gtw (k := .i64) (a := y24) (b := 1000000000) rfl (by kernel_rfl) (by kernel_rfl))) ?_
        refine XL_cons rfl (X_of_Y0 rfl (Y0_pickFe (b := b22) (p := ltI 1000000000 y24) rfl (by kernel_rfl) hc23 (by kernel_rfl) hb25)) ?_
        exact XE
      ·have hb22 := of_false hb22 hc20
       obtain ⟨y21, hy21, hb22⟩ := of_bind hb22
       have hb22 := some_inj hb22
       refine XL_takeC _ rfl rfl (by kernel_rfl) hc20 (X_of_Y0 rfl (E_field (.pt 48 2) Tryd.underlying42 rfl sz3 rfl (by kernel_rfl) (by intro hh; cases hh))) ?_
       refine XL_takeC _ rfl rfl (by kernel_rfl) hc20 (X_of_Y0 rfl (Y0_load1 (c := Ti y15.2.2.1) (cs := [Ti y15.2.2.2]) sc3 rfl (by kernel_rfl))) ?_
       refine XL_takeC _ rfl rfl (by kernel_rfl) hc20 (X_of_Y1 rfl (Y1_call (s_spec_l1Abs hy21) cf_spec_l1Abs rfl (by kernel_rfl))) ?_
       refine XL_takeC _ rfl rfl (by kernel_rfl) hc20 (X_of_Y0 rfl (Y0_gtw (k := .i64) (a := y21) (b := 1000000000) rfl (by kernel_rfl) (by kernel_rfl))) ?_
       refine XL_cons rfl (X_of_Y0 rfl (Y0_pickFe (b := b19) (p := ltI 1000000000 y21) rfl (by kernel_rfl) hc20 (by kernel_rfl) hb22)) ?_
       refine XR 1 ?_
       refine XL_split b22 (fun hc23 => ?_) (fun hc23 => ?_)
       ·have hb25 := some_inj (of_true hb25 hc23)
        refine XL_skipF _ rfl rfl (by kernel_rfl) hc23 rfl ?_
        refine XL_skipF _ rfl rfl (by kernel_rfl) hc23 rfl ?_
        refine XL_skipF _ rfl rfl (by kernel_rfl) hc23 rfl ?_
        refine XL_skipF _ rfl rfl (by kernel_rfl) hc23 rfl ?_
        refine XL_cons rfl (X_of_Y0 rfl (Y0_pickTe (b := b22) (p := true) rfl (by kernel_rfl) hc23 (by kernel_rfl) hb25)) ?_
        exact XE
       ·have hb25 := of_false hb25 hc23
        obtain ⟨y24, hy24, hb25⟩ := of_bind hb25
        have hb25 := some_inj hb25
        refine XL_takeC _ rfl rfl (by kernel_rfl) hc23 (X_of_Y0 rfl (E_field (.pt 48 3) Tryd.underlying42 rfl sz3 rfl (by kernel_rfl) (by intro hh; cases hh))) ?_
        refine XL_takeC _ rfl rfl (by kernel_rfl) hc23 (X_of_Y0 rfl (Y0_load1 (c := Ti y15.2.2.2) (cs := []) sc3 rfl (by kernel_rfl))) ?_
        refine XL_takeC _ rfl rfl (by kernel_rfl) hc23 (X_of_Y1 rfl (Y1_call (s_spec_l1Abs hy24) cf_spec_l1Abs rfl (by kernel_rfl))) ?_
        refine XL_takeC _ rfl rfl (by kernel_rfl) hc23 (X_of_Y0 rfl (Y0_gtw (k := .i64) (a := y24) (b := 1000000000) rfl (by kernel_rfl) (by kernel_rfl))) ?_
        refine XL_cons rfl (X_of_Y0 rfl (Y0_pickFe (b := b22) (p := ltI 1000000000 y24) rfl (by kernel_rfl) hc23 (by kernel_rfl) hb25)) ?_
        exact XE
     ·have hb19 := of_false hb19 hc17
      obtain ⟨y18, hy18, hb19⟩ := of_bind hb19
      have hb19 := some_inj hb19
      refine XL_takeC _ rfl rfl (by kernel_rfl) hc17 (X_of_Y0 rfl (E_field (.pt 48 1) Tryd.underlying42 rfl sz3 rfl (by kernel_rfl) (by intro hh; cases hh))) ?_
      refine XL_takeC _ rfl rfl (by kernel_rfl) hc17 (X_of_Y0 rfl (Y0_load1 (c := Ti y15.2.1) (cs := [Ti y15.2.2.1, Ti y15.2.2.2]) sc3 rfl (by kernel_rfl))) ?_
      refine XL_takeC _ rfl rfl (by kernel_rfl) hc17 (X_of_Y1 rfl (Y1_call (s_spec_l1Abs hy18) cf_spec_l1Abs rfl (by kernel_rfl))) ?_
      refine XL_takeC _ rfl rfl (by kernel_rfl) hc17 (X_of_Y0 rfl (Y0_gtw (k := .i64) (a := y18) (b := 1000000000) rfl (by kernel_rfl) (by kernel_rfl))) ?_
      refine XL_cons rfl (X_of_Y0 rfl (Y0_pickFe (b := ltI 1000000000 y16) (p := ltI 1000000000 y18) rfl (by kernel_rfl) hc17 (by kernel_rfl) hb19)) ?_
      refine XR 1 ?_
      refine XL_split b19 (fun hc20 => ?_) (fun hc20 => ?_)
      ·have hb22 := some_inj (of_true hb22 hc20)
       refine XL_skipF _ rfl rfl (by kernel_rfl) hc20 rfl ?_
       refine XL_skipF _ rfl rfl (by kernel_rfl) hc20 rfl ?_
       refine XL_skipF _ rfl rfl (by kernel_rfl) hc20 rfl ?_
       refine XL_skipF _ rfl rfl (by kernel_rfl) hc20 rfl ?_
       refine XL_cons rfl (X_of_Y0 rfl (Y0_pickTe (b := b19) (p := true) rfl (by kernel_rfl) hc20 (by kernel_rfl) hb22)) ?_
       refine XR 1 ?_
       refine XL_split b22 (fun hc23 => ?_) (fun hc23 => ?_)
       ·have hb25 := some_inj (of_true hb25 hc23)
        refine XL_skipF _ rfl rfl (by kernel_rfl) hc23 rfl ?_
        refine XL_skipF _ rfl rfl (by kernel_rfl) hc23 rfl ?_
        refine XL_skipF _ rfl rfl (by kernel_rfl) hc23 rfl ?_
        refine XL_skipF _ rfl rfl (by kernel_rfl) hc23 rfl ?_
        refine XL_cons rfl (X_of_Y0 rfl (Y0_pickTe (b := b22) (p := true) rfl (by kernel_rfl) hc23 (by kernel_rfl) hb25)) ?_
        exact XE
       ·have hb25 := of_false hb25 hc23
        obtain ⟨y24, hy24, hb25⟩ := of_bind hb25
        have hb25 := some_inj hb25
        refine XL_takeC _ rfl rfl (by kernel_rfl) hc23 (X_of_Y0 rfl (E_field (.pt 48 3) Tryd.underlying42 rfl sz3 rfl (by kernel_rfl) (by intro hh; cases hh))) ?_
        refine XL_takeC _ rfl rfl (by kernel_rfl) hc23 (X_of_Y0 rfl (Y0_load1 (c := Ti y15.2.2.2) (cs := []) sc3 rfl (by kernel_rfl))) ?_
        refine XL_takeC _ rfl rfl (by kernel_rfl) hc23 (X_of_Y1 rfl (Y1_call (s_spec_l1Abs hy24) cf_spec_l1Abs rfl (by kernel_rfl))) ?_
        refine XL_takeC _ rfl rfl (by kernel_rfl) hc23 (X_of_Y0 rfl (Y0_gtw (k := .i64) (a := y24) (b := 1000000000) rfl (by kernel_rfl) (by kernel_rfl))) ?_
        refine XL_cons rfl (X_of_Y0 rfl (Y0_pickFe (b := b22) (p := ltI 1000000000 y24) rfl (by kernel_rfl) hc23 (by kernel_rfl) hb25)) ?_
        exact XE
      ·have hb22 := of_false hb22 hc20
       obtain ⟨y21, hy21, hb22⟩ := of_bind hb22
       have hb22 := some_inj hb22
       refine XL_takeC _ rfl rfl (by kernel_rfl) hc20 (X_of_Y0 rfl (E_field (.pt 48 2) Tryd.underlying42 rfl sz3 rfl (by kernel_rfl) (by intro hh; cases hh))) ?_
       refine XL_takeC _ rfl rfl (by kernel_rfl) hc20 (X_of_Y0 rfl (Y0_load1 (c := Ti y15.2.2.1) (cs := [Ti y15.2.2.2]) sc3 rfl (by kernel_rfl))) ?_
       refine XL_takeC _ rfl rfl (by kernel_rfl) hc20 (X_of_Y1 rfl (Y1_call (s_spec_l1Abs hy21) cf_spec_l1Abs rfl (by kernel_rfl))) ?_
       refine XL_takeC _ rfl rfl (by kernel_rfl) hc20 (X_of_Y0 rfl (Y0_gtw (k := .i64) (a := y21) (b := 1000000000) rfl (by kernel_rfl) (by kernel_rfl))) ?_
       refine XL_cons rfl (X_of_Y0 rfl (Y0_pickFe (b := b19) (p := ltI 1000000000 y21) rfl (by kernel_rfl) hc20 (by kernel_rfl) hb22)) ?_
       refine XR 1 ?_
       refine XL_split b22 (fun hc23 => ?_) (fun hc23 => ?_)
       ·have hb25 := some_inj (of_true hb25 hc23)
        refine XL_skipF _ rfl rfl (by kernel_rfl) hc23 rfl ?_
        refine XL_skipF _ rfl rfl (by kernel_rfl) hc23 rfl ?_
        refine XL_skipF _ rfl rfl (by kernel_rfl) hc23 rfl ?_
        refine XL_skipF _ rfl rfl (by kernel_rfl) hc23 rfl ?_
        refine XL_cons rfl (X_of_Y0 rfl (Y0_pickTe (b := b22) (p := true) rfl (by kernel_rfl) hc23 (by kernel_rfl) hb25)) ?_
        exact XE
       ·have hb25 := of_false hb25 hc23
        obtain ⟨y24, hy24, hb25⟩ := of_bind hb25
        have hb25 := some_inj hb25
        refine XL_takeC _ rfl rfl (by kernel_rfl) hc23 (X_of_Y0 rfl (E_field (.pt 48 3) Tryd.underlying42 rfl sz3 rfl (by kernel_rfl) (by intro hh; cases hh))) ?_
        refine XL_takeC _ rfl rfl (by kernel_rfl) hc23 (X_of_Y0 rfl (Y0_load1 (c := Ti y15.2.2.2) (cs := []) sc3 rfl (by kernel_rfl))) ?_
        refine XL_takeC _ rfl rfl (by kernel_rfl) hc23 (X_of_Y1 rfl (Y1_call (s_spec_l1Abs hy24) cf_spec_l1Abs rfl (by kernel_rfl))) ?_
        refine XL_takeC _ rfl rfl (by kernel_rfl) hc23 (X_of_Y0 rfl (Y0_gtw (k := .i64) (a := y24) (b := 1000000000) rfl (by kernel_rfl) (by kernel_rfl))) ?_
        refine XL_cons rfl (X_of_Y0 rfl (Y0_pickFe (b := b22) (p := ltI 1000000000 y24) rfl (by kernel_rfl) hc23 (by kernel_rfl) hb25)) ?_
        exact XE
    refine V_cond rfl (fun hc26 => ?_) (fun hc26 => ?_)
    ·have h := of_true h hc26
     refine V_sreg (mb 74 12) [16] (s1 := ⟨.bot :: .bot :: .pt 16 0 :: Bo false :: bt 70 [], [(16, .box [Ti 0, Ti 0])]⟩) ?_ ?_
     ·refine L0 rfl rfl (Y0_build (cs := [Ti 0, Ti 0]) pl51 bt51 rfl rfl (by kernel_rfl)) ?_
      exact XE
     refine V_ret ?_
     obtain rfl := some_inj h
     have h := hko12
     obtain rfl := some_inj h
     show Post _ _ _ _ _
     exact ⟨.inr rfl, rfl, rfl, rfl⟩
    ·have h := of_false h hc26
     refine V_skip ?_
     show V _ _ _ _
     obtain ⟨t27, ht27, h⟩ := of_bind h
     have ht27 := some_inj ht27
     refine V_sreg (mb 74 72057594037928148) [56, 48, 32, 16] (s1 := ⟨.bot :: .bot :: .pt 16 0 :: .bot :: .pt 32 0 :: .bot :: .pt 48 0 :: .pt 56 0 :: bt 48 (Bo t27 :: bt 17 []), [(56, .box [Ti y14.1, Ti y14.2.1, Ti y14.2.2]), (48, .box [Ti y15.1, Ti y15.2.1, Ti y15.2.2.1, Ti y15.2.2.2]), (32, .box [Ti y3.1.1, Ti y3.1.2.1, Ti y3.1.2.2]), (16, .box [Ti 0, Ti 0])]⟩) ?_ ?_
     ·refine XR 2 ?_
      refine L0 rfl rfl (Y0_eqg3 (a0 := y14.1) (b0 := y3.1.1) (a1 := y14.2.1) (b1 := y3.1.2.1) (a2 := y14.2.2) (b2 := y3.1.2.2) eqg27 rfl (by kernel_rfl) (by kernel_rfl)) ?_
      refine XL_nil ?_
      subst ht27
      kernel_rfl
     refine V_cond rfl (fun hc28 => ?_) (fun hc28 => ?_)
     ·have h := of_true h hc28
      refine V_exit ?_
      obtain rfl := some_inj h
      exact ⟨_, rfl, by rfl⟩
     ·have h := of_false h hc28
      refine V_skip ?_
      show V _ _ _ _
      refine V_e (mb 74 144115188075855956) [48, 32, 16] (s1 := ⟨.bot :: .bot :: .pt 16 0 :: .bot :: .pt 32 0 :: .bot :: .pt 48 0 :: bt 50 (.ag [Ti y14.1, Ti y14.2.1, Ti y14.2.2] :: bt 16 []), [(48, .box [Ti y15.1, Ti y15.2.1, Ti y15.2.2.1, Ti y15.2.2.2]), (32, .box [Ti y3.1.1, Ti y3.1.2.1, Ti y3.1.2.2]), (16, .box [Ti 0, Ti 0])]⟩) ?_
      refine V_reg (mb 74 212) [56, 48, 32, 16] (s1 := ⟨.bot :: .bot :: .pt 16 0 :: .bot :: .pt 32 0 :: .bot :: .pt 48 0 :: .pt 56 0 :: bt 66 [], [(56, .box [Ti y14.1, Ti y14.2.1, Ti y14.2.2]), (48, .box [Ti y15.1, Ti y15.2.1, Ti y15.2.2.1, Ti y15.2.2.2]), (32, .box [Ti y3.1.1, Ti y3.1.2.1, Ti y3.1.2.2]), (16, .box [Ti 0, Ti 0])]⟩) ?_ ?_
      ·exact XE
      exact ⟨n, Nat.lt_succ_self n, _, _, _, _, _, _, _,  by rfl, h⟩
  rintro o12 rfl
  have h := hko12
  clear hko12
  show V _ _ _ _
  obtain ⟨y29, hy29, h⟩ := of_bind h
  obtain ⟨z30, hz30, h⟩ := of_bind h
  obtain ⟨y31, hy31, h⟩ := of_bind h
  refine V_sdreg [0, 1, 0, 4, 15, 31, 0, 64, 0, 256, 960, 2047, 4095, 0, 16383] 14 (cdm 14 [137011360, 137011361, 137011210, 137011226, 137011285, 137011541, 134875818, 134879914, 134261418, 134326954, 134568618, 135615829, 139810133, 44739242]) (mb 74 516) [72, 16] (s1 := ⟨.bot :: .bot :: .pt 16 0 :: bt 6 (.pt 72 0 :: bt 64 []), [(72, .box [Ti y29, Ti y31]), (16, .box [Ti 0, Ti 0])]⟩) (by kernel_rfl) (by kernel_rfl) ?_ ?_
  ·refine DR 5 ?_
   refine DC 5 (s_spec_l1Abs hy29) cf_spec_l1Abs rfl rfl rfl rfl 63 rfl ?_
   refine DR 4 ?_
   refine DE_0 10 (I (w64 (Int.tdiv o12.2.2.1 y3.1.1))) (by kernel_rfl) rfl rfl rfl (gsat_none rfl) (by kernel_rfl) (Y0_quo64 (a := o12.2.2.1) (b := y3.1.1) rfl (by kernel_rfl) (by kernel_rfl) (nz_some hz30)) 68 rfl ?_
   refine DC 11 (s_spec_l1Abs hy31) cf_spec_l1Abs rfl rfl rfl rfl 69 rfl ?_
   refine DE_0 12 (.ag [Ti y29, Ti y31]) (by kernel_rfl) rfl rfl rfl (gsat_none rfl) (by kernel_rfl) (Y0_build (cs := [Ti y29, Ti y31]) pl51 bt51 rfl rfl (by kernel_rfl)) 70 rfl ?_
   refine DA 1 ?_
   exact XE
  obtain ⟨y32, hy32, h⟩ := of_bind h
  refine V_sdreg [0, 0, 2, 7, 15] 3 (cdm 3 [40, 2, 6]) (mb 74 12) [16] (s1 := ⟨.bot :: .bot :: .pt 16 0 :: Bo y32 :: bt 70 [], [(16, .box [Ti y29, Ti y31])]⟩) (by kernel_rfl) (by kernel_rfl) ?_ ?_
  ·refine DR 2 ?_
   refine DC 2 (s_spec_unSmall hy32) cf_spec_unSmall rfl rfl rfl rfl 73 rfl ?_
   refine DA 0 ?_
   exact XE
  refine V_ret ?_
  obtain rfl := some_inj h
  show Post _ _ _ _ _
  exact ⟨.inr rfl, rfl, rfl, rfl⟩
theorem cf_spec_PellFour : ∀ args w, (callFunc 29 args).run Tryd.prog w = .ok (.enter 29 args) w := run_callFunc Tryd.func29 (by kernel_rfl) (by kernel_rfl)
theorem s_spec_PellFour {d1 : Int} {r : (((Int × Int)) × Bool)} (h : r_spec_PellFour d1 = some r) : CallS Tryd.prog 29 [I d1] (.tc (.ag [Ti r.1.1, Ti r.1.2]) (.tc (Bo r.2) .tn)) [] := by
  refine CallS_of_text (rs := [.w 2 2, .t 3]) (vs := [.cell 2 51, .tmp 3]) Tryd.func29 rfl rfl (.cons ⟨rfl, wd51⟩ (.cons rfl FitsL.nil)) (by decide) 19 rfl ?_
  unfold r_spec_PellFour at h
  show V _ _ ⟨I d1 :: bt 18 [], []⟩ _
  refine V_e (mb 19 5) [16] (s1 := ⟨I d1 :: .bot :: .pt 16 0 :: bt 16 [], [(16, .box [Ti 0, Ti 0])]⟩) ?_
  refine V_seq ?_
  obtain ⟨y2, hy2, h⟩ := of_bind h
  refine V_sreg (mb 19 261) [16] (s1 := ⟨I d1 :: .bot :: .pt 16 0 :: bt 5 (Bo (!y2) :: bt 10 []), [(16, .box [Ti 0, Ti 0])]⟩) ?_ ?_
  ·refine XR 1 ?_
   refine XC (s_spec_cyDisc hy2) cf_spec_cyDisc rfl rfl rfl ?_
   exact XE
  refine V_cond rfl (fun hc3 => ?_) (fun hc3 => ?_)
  ·have h := of_true h hc3
   refine V_sreg (mb 19 12) [16] (s1 := ⟨.bot :: .bot :: .pt 16 0 :: Bo false :: bt 15 [], [(16, .box [Ti 0, Ti 0])]⟩) ?_ ?_
   ·refine L0 rfl rfl (Y0_build (cs := [Ti 0, Ti 0]) pl51 bt51 rfl rfl (by kernel_rfl)) ?_
    exact XE
   refine V_ret ?_
   obtain rfl := some_inj h
   show Post _ _ _ _ _
   exact ⟨.inr rfl, rfl, rfl, rfl⟩
  ·have h := of_false h hc3
   refine V_skip ?_
   show V _ _ _ _
   obtain ⟨y4, hy4, h⟩ := of_bind h
   refine V_sreg (mb 19 52) [32, 16] (s1 := ⟨.bot :: .bot :: .pt 16 0 :: .bot :: .pt 32 0 :: Bo y4.2 :: bt 13 [], [(32, .box [Ti y4.1.1, Ti y4.1.2]), (16, .box [Ti 0, Ti 0])]⟩) ?_ ?_
   ·refine XR 1 ?_
    refine XC (s_spec_unFour hy4) cf_spec_unFour rfl rfl rfl ?_
    exact XE
   refine V_seq ?_
   refine V_e (mb 19 65556) [32, 16] (s1 := ⟨.bot :: .bot :: .pt 16 0 :: .bot :: .pt 32 0 :: bt 11 (Bo (!y4.2) :: .bot :: .bot :: []), [(32, .box [Ti y4.1.1, Ti y4.1.2]), (16, .box [Ti 0, Ti 0])]⟩) ?_
   refine V_cond rfl (fun hc5 => ?_) (fun hc5 => ?_)
   ·have h := of_true h hc5
    refine V_sreg (mb 19 12) [16] (s1 := ⟨.bot :: .bot :: .pt 16 0 :: Bo false :: bt 15 [], [(16, .box [Ti 0, Ti 0])]⟩) ?_ ?_
    ·refine L0 rfl rfl (Y0_build (cs := [Ti 0, Ti 0]) pl51 bt51 rfl rfl (by kernel_rfl)) ?_
     exact XE
    refine V_ret ?_
    obtain rfl := some_inj h
    show Post _ _ _ _ _
    exact ⟨.inr rfl, rfl, rfl, rfl⟩
   ·have h := of_false h hc5
    refine V_skip ?_
    show V _ _ _ _
    refine V_e (mb 19 12) [16] (s1 := ⟨.bot :: .bot :: .pt 16 0 :: Bo true :: bt 15 [], [(16, .box [Ti y4.1.1, Ti y4.1.2])]⟩) ?_
    refine V_ret ?_
    obtain rfl := some_inj h
    show Post _ _ _ _ _
    exact ⟨.inr rfl, rfl, rfl, rfl⟩
theorem cf_spec_l1Num : ∀ args w, (callFunc 36 args).run Tryd.prog w = .ok (.enter 36 args) w := run_callFunc Tryd.func36 (by kernel_rfl) (by kernel_rfl)
theorem s_spec_l1Num_rec : ∀ (n : Nat) {vn1 : Int} {r : ByteArray}, r_spec_l1Num n vn1 = some r → CallS Tryd.prog 36 [I vn1] (.c (.v (.string r))) [] := by
  intro n
  induction n with
  | zero => intro vn1 r h; cases h
  | succ n ih =>
   intro vn1 r h
   refine CallS_of_text (rs := [.t 2]) (vs := [.tmp 2]) Tryd.func36 rfl rfl (.cons rfl FitsL.nil) (by decide) 20 rfl ?_
   rw [r_spec_l1Num] at h
   show V _ _ ⟨I vn1 :: bt 19 [], []⟩ _
   refine V_e (mb 20 1) [] (s1 := ⟨I vn1 :: bt 19 [], []⟩) ?_
   refine V_seq ?_
   refine V_e (mb 20 17) [] (s1 := ⟨I vn1 :: bt 3 (Bo (ltI vn1 10) :: bt 15 []), []⟩) ?_
   refine V_cond rfl (fun hc2 => ?_) (fun hc2 => ?_)
   ·have h := of_true h hc2
    refine V_sreg (mb 20 4) [] (s1 := ⟨.bot :: .bot :: .c (.v (.string (bytesI ([IntKind.u8.wrap (w64 (48 + vn1))])))) :: bt 17 [], []⟩) ?_ ?_
    ·refine XR 2 ?_
     refine L0 rfl rfl (Y0_conv (k2 := .i64) (a := w64 (48 + vn1)) Tryd.underlying3 Tryd.underlying5 rfl (by kernel_rfl)) ?_
     refine L1 rfl rfl (Y1_bslice (z := zv5) (els := [IntKind.u8.wrap (w64 (48 + vn1))].map c5) Tryd.underlying69 iz5 rfl (by decide) rfl (by kernel_rfl) rfl (by simp [c5]) (by decide) (by decide)) ?_
     refine L0 rfl rfl (Y0_b2s (c := c5) (fun _ => rfl) ([IntKind.u8.wrap (w64 (48 + vn1))]) Tryd.underlying69 Tryd.underlying5 Tryd.underlying9 rfl (by kernel_rfl)) ?_
     exact XE
    refine V_ret ?_
    obtain rfl := some_inj h
    show Post _ _ _ _ _
    exact ⟨.inr rfl, rfl, rfl, rfl⟩
   ·have h := of_false h hc2
    refine V_skip ?_
    show V _ _ _ _
    obtain ⟨y3, hy3, h⟩ := of_bind h
    obtain ⟨u4, hu4, h⟩ := of_bind h
    refine V_sdreg [0, 1, 3, 0, 8, 24, 56, 120, 248, 511, 1023] 11 (cdm 11 [174720, 174721, 174725, 42, 106, 362, 1386, 5482, 21866, 87381, 349525]) (mb 20 4) [] (s1 := ⟨.bot :: .bot :: .c (.v (.string (y3 ++ (bytesI ([IntKind.u8.wrap (w64 (48 + (Int.tmod vn1 10)))]))))) :: bt 17 [], []⟩) (by kernel_rfl) (by kernel_rfl) ?_ ?_
    ·refine DR 1 ?_
     refine DE_0 1 (I (w64 (Int.tdiv vn1 10))) (by kernel_rfl) rfl rfl rfl (gsat_none rfl) (by kernel_rfl) (Y0_quo64 (a := vn1) (b := 10) rfl (by kernel_rfl) (by kernel_rfl) (by decide)) 11 rfl ?_
     refine DC 2 (ih hy3) cf_spec_l1Num rfl rfl rfl rfl 12 rfl ?_
     refine DR 1 ?_
     refine DE_0 4 (I (Int.tmod vn1 10)) (by kernel_rfl) rfl rfl rfl (gsat_none rfl) (by kernel_rfl) (Y0_rem (k := .i64) (a := vn1) (b := 10) rfl (by kernel_rfl) (by kernel_rfl) (by decide)) 14 rfl ?_
     refine DR 1 ?_
     refine DE_0 6 (.c (.v (.int .u8 (IntKind.u8.wrap (w64 (48 + (Int.tmod vn1 10))))))) (by kernel_rfl) rfl rfl rfl (gsat_none rfl) (by kernel_rfl) (Y0_conv (k2 := .i64) (a := w64 (48 + (Int.tmod vn1 10))) Tryd.underlying3 Tryd.underlying5 rfl (by kernel_rfl)) 16 rfl ?_
     refine DE_1 7 (by kernel_rfl) rfl rfl rfl (gsat_none rfl) (Y1_bslice (z := zv5) (els := [IntKind.u8.wrap (w64 (48 + (Int.tmod vn1 10)))].map c5) Tryd.underlying69 iz5 rfl (by decide) rfl (by kernel_rfl) rfl (by simp [c5]) (by decide) (by decide)) rfl rfl rfl 17 rfl ?_
     refine DE_0 8 (.c (.v (.string (bytesI ([IntKind.u8.wrap (w64 (48 + (Int.tmod vn1 10)))]))))) (by kernel_rfl) rfl rfl rfl (gsat_none rfl) (by kernel_rfl) (Y0_b2s (c := c5) (fun _ => rfl) ([IntKind.u8.wrap (w64 (48 + (Int.tmod vn1 10)))]) Tryd.underlying69 Tryd.underlying5 Tryd.underlying9 rfl (by kernel_rfl)) 18 rfl ?_
     refine DE_0 9 (.c (.v (.string (y3 ++ (bytesI ([IntKind.u8.wrap (w64 (48 + (Int.tmod vn1 10)))])))))) (by kernel_rfl) rfl rfl rfl (gsat_none rfl) (by kernel_rfl) (Y0_cat (a := y3) (b := bytesI ([IntKind.u8.wrap (w64 (48 + (Int.tmod vn1 10)))])) rfl (by kernel_rfl) (by kernel_rfl) (catR_some hu4)) 19 rfl ?_
     refine DA 1 ?_
     exact XE
    refine V_ret ?_
    obtain rfl := some_inj h
    show Post _ _ _ _ _
    exact ⟨.inr rfl, rfl, rfl, rfl⟩
theorem s_spec_l1Num {vn1 : Int} {r : ByteArray} (h : r_spec_l1Num FU vn1 = some r) : CallS Tryd.prog 36 [I vn1] (.c (.v (.string r))) [] := s_spec_l1Num_rec FU h
theorem cf_spec_l1Int : ∀ args w, (callFunc 31 args).run Tryd.prog w = .ok (.enter 31 args) w := run_callFunc Tryd.func31 (by kernel_rfl) (by kernel_rfl)
theorem s_spec_l1Int {vn1 : Int} {r : ByteArray} (h : r_spec_l1Int vn1 = some r) : CallS Tryd.prog 31 [I vn1] (.c (.v (.string r))) [] := by
  refine CallS_of_text (rs := [.t 2]) (vs := [.tmp 2]) Tryd.func31 rfl rfl (.cons rfl FitsL.nil) (by decide) 11 rfl ?_
  unfold r_spec_l1Int at h
  show V _ _ ⟨I vn1 :: bt 10 [], []⟩ _
  refine V_e (mb 11 1) [] (s1 := ⟨I vn1 :: bt 10 [], []⟩) ?_
  refine V_seq ?_
  refine V_e (mb 11 17) [] (s1 := ⟨I vn1 :: bt 3 (Bo (ltI vn1 0) :: bt 6 []), []⟩) ?_
  refine V_cond rfl (fun hc2 => ?_) (fun hc2 => ?_)
  ·have h := of_true h hc2
   obtain ⟨y3, hy3, h⟩ := of_bind h
   obtain ⟨u4, hu4, h⟩ := of_bind h
   refine V_sreg (mb 11 4) [] (s1 := ⟨.bot :: .bot :: .c (.v (.string (((⟨#[45]⟩ : ByteArray)) ++ y3))) :: bt 8 [], []⟩) ?_ ?_
   ·refine XR 2 ?_
    refine XC (s_spec_l1Num hy3) cf_spec_l1Num rfl rfl rfl ?_
    refine L0 rfl rfl (Y0_cat (a := (⟨#[45]⟩ : ByteArray)) (b := y3) rfl (by kernel_rfl) (by kernel_rfl) (catR_some hu4)) ?_
    exact XE
   refine V_ret ?_
   obtain rfl := some_inj h
   show Post _ _ _ _ _
   exact ⟨.inr rfl, rfl, rfl, rfl⟩
  ·have h := of_false h hc2
   refine V_skip ?_
   show V _ _ _ _
   obtain ⟨y5, hy5, h⟩ := of_bind h
   refine V_sreg (mb 11 4) [] (s1 := ⟨.bot :: .bot :: .c (.v (.string y5)) :: bt 8 [], []⟩) ?_ ?_
   ·refine XR 1 ?_
    refine XC (s_spec_l1Num hy5) cf_spec_l1Num rfl rfl rfl ?_
    exact XE
   refine V_ret ?_
   obtain rfl := some_inj h
   show Post _ _ _ _ _
   exact ⟨.inr rfl, rfl, rfl, rfl⟩
theorem cf_spec_prText : ∀ args w, (callFunc 21 args).run Tryd.prog w = .ok (.enter 21 args) w := run_callFunc Tryd.func21 (by kernel_rfl) (by kernel_rfl)
theorem s_spec_prText {l1 : List ByteArray} {r : ByteArray} (h : r_spec_prText l1 = some r) : CallS Tryd.prog 21 [.c (.sl (l1.map c9))] (.c (.v (.string r))) [] := by
  refine CallS_of_text (rs := [.t 2]) (vs := [.tmp 2]) Tryd.func21 rfl rfl (.cons rfl FitsL.nil) (by decide) 22 rfl ?_
  unfold r_spec_prText at h
  show V _ _ ⟨.c (.sl (l1.map c9)) :: bt 21 [], []⟩ _
  refine V_e (mb 22 1) [] (s1 := ⟨.c (.sl (l1.map c9)) :: bt 21 [], []⟩) ?_
  refine V_e (mb 22 9) [] (s1 := ⟨.c (.sl (l1.map c9)) :: .bot :: .bot :: .c (.v (.string ((⟨#[]⟩ : ByteArray)))) :: bt 18 [], []⟩) ?_
  refine V_seq ?_
  refine V_sreg (mb 22 456) [] (s1 := ⟨bt 3 (.c (.v (.string ((⟨#[]⟩ : ByteArray)))) :: .bot :: .bot :: .c (.sl (l1.map c9)) :: I ((l1.length : Int)) :: I 0 :: bt 13 []), []⟩) ?_ ?_
  ·refine XR 1 ?_
   refine L0 rfl rfl (Y0_lenM (c := c9) (xs := l1) Tryd.underlying24 rfl (by kernel_rfl)) ?_
   exact XE
  obtain ⟨o5, hLo5, h⟩ := of_bind h
  refine V_toK (mb 22 8) [] (s1 := ⟨bt 3 (.c (.v (.string o5)) :: bt 18 []), []⟩) ?_ ?_
  ·clear h
   refine V_block (V_loop (fun n s => ∃ (out2 : ByteArray) (t3 : Int), s.keep (mb 22 456) [] = (⟨bt 3 (.c (.v (.string out2)) :: .bot :: .bot :: .c (.sl (l1.map c9)) :: I ((l1.length : Int)) :: I t3 :: bt 13 []), []⟩ : St) ∧ r_spec_prText_L4 l1 n out2 t3 = some o5) FU ⟨_, _,  by rfl, hLo5⟩ ?_)
   clear hLo5
   rintro n s ⟨out2, t3, hs, h⟩
   refine V_keep _ _ hs ?_
   clear hs
   cases n with
   | zero => cases h
   | succ n =>
    rw [r_spec_prText_L4] at h
    refine V_e (mb 22 968) [] (s1 := ⟨bt 3 (.c (.v (.string out2)) :: .bot :: .bot :: .c (.sl (l1.map c9)) :: I ((l1.length : Int)) :: I t3 :: Bo (ltI t3 ((l1.length : Int))) :: bt 12 []), []⟩) ?_
    refine V_seq ?_
    refine V_cond rfl (fun hc6 => ?_) (fun hc6 => ?_)
    ·have h := of_true h hc6
     refine V_skip ?_
     show V _ _ _ _
     refine V_seq ?_
     refine V_block ?_
     obtain ⟨e7, he7, h⟩ := of_bind h
     refine V_sreg (mb 22 504) [] (s1 := ⟨bt 3 (.c (.v (.string out2)) :: I t3 :: .c (.v (.string e7)) :: .c (.sl (l1.map c9)) :: I ((l1.length : Int)) :: I t3 :: bt 13 []), []⟩) ?_ ?_
     ·refine XR 1 ?_
      refine L0 rfl rfl (Y0_idxM (c := c9) (xs := l1) (v := e7) (n := t3) Tryd.underlying24 sz9 rfl (by kernel_rfl) (by kernel_rfl) he7) ?_
      exact XE
     refine V_seq ?_
     refine V_e (mb 22 16872) [] (s1 := ⟨bt 3 (.c (.v (.string out2)) :: .bot :: .c (.v (.string e7)) :: .c (.sl (l1.map c9)) :: I ((l1.length : Int)) :: I t3 :: bt 5 (Bo (ltI 0 t3) :: bt 7 [])), []⟩) ?_
     refine V_cond rfl (fun hc8 => ?_) (fun hc8 => ?_)
     ·have h := of_true h hc8
      obtain ⟨u9, hu9, h⟩ := of_bind h
      refine V_reg (mb 22 488) [] (s1 := ⟨bt 3 (.c (.v (.string (out2 ++ ((⟨#[32]⟩ : ByteArray))))) :: .bot :: .c (.v (.string e7)) :: .c (.sl (l1.map c9)) :: I ((l1.length : Int)) :: I t3 :: bt 13 []), []⟩) ?_ ?_
      ·refine XR 1 ?_
       refine L0 rfl rfl (Y0_cat (a := out2) (b := (⟨#[32]⟩ : ByteArray)) rfl (by kernel_rfl) (by kernel_rfl) (catR_some hu9)) ?_
       exact XE
      show V _ _ _ _
      obtain ⟨u10, hu10, h⟩ := of_bind h
      refine V_reg (mb 22 456) [] (s1 := ⟨bt 3 (.c (.v (.string ((out2 ++ ((⟨#[32]⟩ : ByteArray))) ++ e7))) :: .bot :: .bot :: .c (.sl (l1.map c9)) :: I ((l1.length : Int)) :: I t3 :: bt 13 []), []⟩) ?_ ?_
      ·refine XR 2 ?_
       refine L0 rfl rfl (Y0_cat (a := out2 ++ ((⟨#[32]⟩ : ByteArray))) (b := e7) rfl (by kernel_rfl) (by kernel_rfl) (catR_some hu10)) ?_
       exact XE
      show V _ _ _ _
      obtain ⟨t11, ht11, h⟩ := of_sI h
      refine V_reg (mb 22 456) [] (s1 := ⟨bt 3 (.c (.v (.string ((out2 ++ ((⟨#[32]⟩ : ByteArray))) ++ e7))) :: .bot :: .bot :: .c (.sl (l1.map c9)) :: I ((l1.length : Int)) :: I t11 :: bt 13 []), []⟩) ?_ ?_
      ·refine XR 2 ?_
       refine XL_nil ?_
       subst ht11
       kernel_rfl
      exact ⟨n, Nat.lt_succ_self n, _, _,  by rfl, h⟩
     ·have h := of_false h hc8
      refine V_skip ?_
      show V _ _ _ _
      obtain ⟨u12, hu12, h⟩ := of_bind h
      refine V_reg (mb 22 456) [] (s1 := ⟨bt 3 (.c (.v (.string (out2 ++ e7))) :: .bot :: .bot :: .c (.sl (l1.map c9)) :: I ((l1.length : Int)) :: I t3 :: bt 13 []), []⟩) ?_ ?_
      ·refine XR 2 ?_
       refine L0 rfl rfl (Y0_cat (a := out2) (b := e7) rfl (by kernel_rfl) (by kernel_rfl) (catR_some hu12)) ?_
       exact XE
      show V _ _ _ _
      obtain ⟨t13, ht13, h⟩ := of_sI h
      refine V_reg (mb 22 456) [] (s1 := ⟨bt 3 (.c (.v (.string (out2 ++ e7))) :: .bot :: .bot :: .c (.sl (l1.map c9)) :: I ((l1.length : Int)) :: I t13 :: bt 13 []), []⟩) ?_ ?_
      ·refine XR 2 ?_
       refine XL_nil ?_
       subst ht13
       kernel_rfl
      exact ⟨n, Nat.lt_succ_self n, _, _,  by rfl, h⟩
    ·have h := of_false h hc6
     refine V_exit ?_
     obtain rfl := some_inj h
     show St.keep _ _ _ = _
     rfl
  show V _ _ _ _
  refine V_e (mb 22 4) [] (s1 := ⟨.bot :: .bot :: .c (.v (.string o5)) :: bt 19 [], []⟩) ?_
  refine V_ret ?_
  obtain rfl := some_inj h
  show Post _ _ _ _ _
  exact ⟨.inr rfl, rfl, rfl, rfl⟩
theorem cf_spec_PellCertificate : ∀ args w, (callFunc 13 args).run Tryd.prog w = .ok (.enter 13 args) w := run_callFunc Tryd.func13 (by kernel_rfl) (by kernel_rfl)
theorem s_spec_PellCertificate {d1 : Int} {r : (ByteArray × Bool)} (h : r_spec_PellCertificate d1 = some r) : CallS Tryd.prog 13 [I d1] (.tc (.c (.v (.string r.1))) (.tc (Bo r.2) .tn)) [] := by
  refine CallS_of_text (rs := [.t 2, .t 3]) (vs := [.tmp 2, .tmp 3]) Tryd.func13 rfl rfl (.cons rfl (.cons rfl FitsL.nil)) (by decide) 29 rfl ?_
  unfold r_spec_PellCertificate at h
  show V _ _ ⟨I d1 :: bt 28 [], []⟩ _
  refine V_e (mb 29 1) [] (s1 := ⟨I d1 :: bt 28 [], []⟩) ?_
  obtain ⟨y2, hy2, h⟩ := of_bind h
  refine V_sreg (mb 29 49) [32] (s1 := ⟨I d1 :: bt 3 (.pt 32 0 :: Bo y2.2 :: bt 23 []), [(32, .box [Ti y2.1.1, Ti y2.1.2])]⟩) ?_ ?_
  ·refine XR 1 ?_
   refine XC (s_spec_PellFour hy2) cf_spec_PellFour rfl rfl rfl ?_
   exact XE
  refine V_seq ?_
  obtain ⟨b5, hb5, h⟩ := of_bind h
  refine V_sreg (mb 29 262161) [32] (s1 := ⟨I d1 :: bt 3 (.pt 32 0 :: bt 13 (Bo b5 :: bt 10 [])), [(32, .box [Ti y2.1.1, Ti y2.1.2])]⟩) ?_ ?_
  ·refine XR 3 ?_
   refine XL_split (!y2.2) (fun hc3 => ?_) (fun hc3 => ?_)
   ·have hb5 := some_inj (of_true hb5 hc3)
    refine XL_skipF _ rfl rfl (by kernel_rfl) hc3 rfl ?_
    refine XL_skipF _ rfl rfl (by kernel_rfl) hc3 rfl ?_
    refine XL_skipF _ rfl rfl (by kernel_rfl) hc3 rfl ?_
    refine XL_skipF _ rfl rfl (by kernel_rfl) hc3 rfl ?_
    refine XL_cons rfl (X_of_Y0 rfl (Y0_pickTe (b := !y2.2) (p := true) rfl (by kernel_rfl) hc3 (by kernel_rfl) hb5)) ?_
    exact XE
   ·have hb5 := of_false hb5 hc3
    obtain ⟨y4, hy4, hb5⟩ := of_bind hb5
    have hb5 := some_inj hb5
    refine XL_takeC _ rfl rfl (by kernel_rfl) hc3 (X_of_Y0 rfl (E_field (.pt 32 0) Tryd.underlying51 rfl sz3 rfl (by kernel_rfl) (by intro hh; cases hh))) ?_
    refine XL_takeC _ rfl rfl (by kernel_rfl) hc3 (X_of_Y0 rfl (Y0_load1 (c := Ti y2.1.1) (cs := [Ti y2.1.2]) sc3 rfl (by kernel_rfl))) ?_
    refine XL_takeC _ rfl rfl (by kernel_rfl) hc3 (X_of_Y1 rfl (Y1_call (s_spec_nuGood hy4) cf_spec_nuGood rfl (by kernel_rfl))) ?_
    refine XL_takeC _ rfl rfl (by kernel_rfl) hc3 (X_of_Y0 rfl (Y0_not (b := y4) rfl (by kernel_rfl))) ?_
    refine XL_cons rfl (X_of_Y0 rfl (Y0_pickFe (b := !y2.2) (p := !y4) rfl (by kernel_rfl) hc3 (by kernel_rfl) hb5)) ?_
    exact XE
  refine V_cond rfl (fun hc6 => ?_) (fun hc6 => ?_)
  ·have h := of_true h hc6
   refine V_e (mb 29 12) [] (s1 := ⟨.bot :: .bot :: .c (.v (.string ((⟨#[]⟩ : ByteArray)))) :: Bo false :: bt 25 [], []⟩) ?_
   refine V_ret ?_
   obtain rfl := some_inj h
   show Post _ _ _ _ _
   exact ⟨.inr rfl, rfl, rfl, rfl⟩
  ·have h := of_false h hc6
   refine V_skip ?_
   show V _ _ _ _
   obtain ⟨y7, hy7, h⟩ := of_bind h
   obtain ⟨y8, hy8, h⟩ := of_bind h
   obtain ⟨y9, hy9, h⟩ := of_bind h
   obtain ⟨y10, hy10, h⟩ := of_bind h
   refine V_sdreg [0, 1, 0, 4, 15, 0, 32, 127, 255, 511, 1023, 2047] 12 (cdm 12 [10400, 10401, 10250, 10266, 10325, 682, 1706, 5461, 21845, 87381, 349525, 1398101]) (mb 29 12) [] (s1 := ⟨.bot :: .bot :: .c (.v (.string y10)) :: Bo true :: bt 25 [], []⟩) (by kernel_rfl) (by kernel_rfl) ?_ ?_
   ·refine DR 1 ?_
    refine DC 1 (s_spec_l1Int hy7) cf_spec_l1Int rfl rfl rfl rfl 20 rfl ?_
    refine DR 2 ?_
    refine DC 4 (s_spec_l1Int hy8) cf_spec_l1Int rfl rfl rfl rfl 23 rfl ?_
    refine DR 2 ?_
    refine DC 7 (s_spec_l1Int hy9) cf_spec_l1Int rfl rfl rfl rfl 26 rfl ?_
    refine DE_1 8 (by kernel_rfl) rfl rfl rfl (gsat_none rfl) (Y1_bslice (z := zv9) (els := [(⟨#[115, 111, 108, 117, 116, 105, 111, 110]⟩ : ByteArray), y7, y8, y9].map c9) Tryd.underlying24 iz9 rfl (by decide) rfl (by kernel_rfl) rfl (by simp [c9]) (by decide) (by decide)) rfl rfl rfl 27 rfl ?_
    refine DE_1 9 (by kernel_rfl) rfl rfl rfl (gsat_none rfl) (Y1_callS (s_spec_prText hy10) cf_spec_prText rfl (by kernel_rfl) rfl rfl) rfl rfl rfl 28 rfl ?_
    refine DA 2 ?_
    exact XE
   refine V_ret ?_
   obtain rfl := some_inj h
   show Post _ _ _ _ _
   exact ⟨.inr rfl, rfl, rfl, rfl⟩
theorem cf_impl_mod : ∀ args w, (callFunc 93 args).run Tryd.prog w = .ok (.enter 93 args) w := run_callFunc Tryd.func93 (by kernel_rfl) (by kernel_rfl)
theorem s_impl_mod {a1 : Int} {vm2 : Int} {r : Int} (h : r_impl_mod a1 vm2 = some r) : CallS Tryd.prog 93 [I a1, I vm2] (I r) [] := by
  refine CallS_of_text (rs := [.t 4]) (vs := [.tmp 4]) Tryd.func93 rfl rfl (.cons rfl FitsL.nil) (by decide) 15 rfl ?_
  unfold r_impl_mod at h
  show V _ _ ⟨I a1 :: I vm2 :: bt 13 [], []⟩ _
  refine V_e (mb 15 3) [] (s1 := ⟨I a1 :: I vm2 :: bt 13 [], []⟩) ?_
  obtain ⟨z3, hz3, h⟩ := of_bind h
  obtain ⟨vr4, hvr4, h⟩ := of_sI h
  refine V_sreg (mb 15 34) [] (s1 := ⟨.bot :: I vm2 :: bt 3 (I vr4 :: bt 9 []), []⟩) ?_ ?_
  ·refine XR 2 ?_
   refine L0 rfl rfl (Y0_rem (k := .i64) (a := a1) (b := vm2) rfl (by kernel_rfl) (by kernel_rfl) (nz_some hz3)) ?_
   refine XR 1 ?_
   refine XL_nil ?_
   subst hvr4
   kernel_rfl
  refine V_seq ?_
  refine V_e (mb 15 1058) [] (s1 := ⟨.bot :: I vm2 :: bt 3 (I vr4 :: bt 4 (Bo (ltI vr4 0) :: bt 4 [])), []⟩) ?_
  refine V_cond rfl (fun hc5 => ?_) (fun hc5 => ?_)
  ·have h := of_true h hc5
   obtain ⟨vr6, hvr6, h⟩ := of_sI h
   refine V_reg (mb 15 32) [] (s1 := ⟨bt 5 (I vr6 :: bt 9 []), []⟩) ?_ ?_
   ·refine XR 4 ?_
    refine XL_nil ?_
    subst hvr6
    kernel_rfl
   show V _ _ _ _
   refine V_e (mb 15 16) [] (s1 := ⟨bt 4 (I vr6 :: bt 10 []), []⟩) ?_
   refine V_ret ?_
   obtain rfl := some_inj h
   show Post _ _ _ _ _
   exact ⟨.inr rfl, rfl, rfl, rfl⟩
  ·have h := of_false h hc5
   refine V_skip ?_
   show V _ _ _ _
   refine V_e (mb 15 16) [] (s1 := ⟨bt 4 (I vr4 :: bt 10 []), []⟩) ?_
   refine V_ret ?_
   obtain rfl := some_inj h
   show Post _ _ _ _ _
   exact ⟨.inr rfl, rfl, rfl, rfl⟩
theorem cf_impl_root : ∀ args w, (callFunc 122 args).run Tryd.prog w = .ok (.enter 122 args) w := run_callFunc Tryd.func122 (by kernel_rfl) (by kernel_rfl)
theorem s_impl_root {vn1 : Int} {r : Int} (h : r_impl_root vn1 = some r) : CallS Tryd.prog 122 [I vn1] (I r) [] := by
  refine CallS_of_text (rs := [.t 2]) (vs := [.tmp 2]) Tryd.func122 rfl rfl (.cons rfl FitsL.nil) (by decide) 23 rfl ?_
  unfold r_impl_root at h
  show V _ _ ⟨I vn1 :: bt 22 [], []⟩ _
  refine V_e (mb 23 1) [] (s1 := ⟨I vn1 :: bt 22 [], []⟩) ?_
  refine V_e (mb 23 25) [] (s1 := ⟨I vn1 :: .bot :: .bot :: I 0 :: I 3000000000 :: bt 18 [], []⟩) ?_
  refine V_seq ?_
  obtain ⟨o5, hLo5, h⟩ := of_bind h
  refine V_toK (mb 23 8) [] (s1 := ⟨bt 3 (I o5 :: bt 19 []), []⟩) ?_ ?_
  ·clear h
   refine V_block (V_loop (fun n s => ∃ (low2 : Int) (high3 : Int), s.keep (mb 23 25) [] = (⟨I vn1 :: .bot :: .bot :: I low2 :: I high3 :: bt 18 [], []⟩ : St) ∧ r_impl_root_L4 vn1 n low2 high3 = some o5) FU ⟨_, _,  by rfl, hLo5⟩ ?_)
   clear hLo5
   rintro n s ⟨low2, high3, hs, h⟩
   refine V_keep _ _ hs ?_
   clear hs
   cases n with
   | zero => cases h
   | succ n =>
    rw [r_impl_root_L4] at h
    refine V_seq ?_
    refine V_e (mb 23 281) [] (s1 := ⟨I vn1 :: .bot :: .bot :: I low2 :: I high3 :: bt 3 (Bo (ltI low2 high3) :: bt 14 []), []⟩) ?_
    refine V_cond rfl (fun hc6 => ?_) (fun hc6 => ?_)
    ·have h := of_true h hc6
     refine V_skip ?_
     show V _ _ _ _
     refine V_block ?_
     obtain ⟨vm7, hvm7, h⟩ := of_sI h
     refine V_sreg (mb 23 57) [] (s1 := ⟨I vn1 :: .bot :: .bot :: I low2 :: I high3 :: I vm7 :: bt 17 [], []⟩) ?_ ?_
     ·refine XR 4 ?_
      refine L0 rfl rfl (Y0_quo64 (a := w64 ((w64 (low2 + high3)) + 1)) (b := 2) rfl (by kernel_rfl) (by kernel_rfl) (by decide)) ?_
      refine XR 1 ?_
      refine XL_nil ?_
      subst hvm7
      kernel_rfl
     refine V_e (mb 23 262201) [] (s1 := ⟨I vn1 :: .bot :: .bot :: I low2 :: I high3 :: I vm7 :: bt 12 (Bo (leI (w64 (vm7 * vm7)) vn1) :: bt 4 []), []⟩) ?_
     refine V_cond rfl (fun hc8 => ?_) (fun hc8 => ?_)
     ·have h := of_true h hc8
      refine V_reg (mb 23 25) [] (s1 := ⟨I vn1 :: .bot :: .bot :: I vm7 :: I high3 :: bt 18 [], []⟩) ?_ ?_
      ·exact XE
      exact ⟨n, Nat.lt_succ_self n, _, _,  by rfl, h⟩
     ·have h := of_false h hc8
      obtain ⟨high9, hhigh9, h⟩ := of_sI h
      refine V_reg (mb 23 25) [] (s1 := ⟨I vn1 :: .bot :: .bot :: I low2 :: I high9 :: bt 18 [], []⟩) ?_ ?_
      ·refine XR 3 ?_
       refine XL_nil ?_
       subst hhigh9
       kernel_rfl
      exact ⟨n, Nat.lt_succ_self n, _, _,  by rfl, h⟩
    ·have h := of_false h hc6
     refine V_exit ?_
     obtain rfl := some_inj h
     show St.keep _ _ _ = _
     rfl
  show V _ _ _ _
  refine V_e (mb 23 4) [] (s1 := ⟨.bot :: .bot :: I o5 :: bt 20 [], []⟩) ?_
  refine V_ret ?_
  obtain rfl := some_inj h
  show Post _ _ _ _ _
  exact ⟨.inr rfl, rfl, rfl, rfl⟩
theorem cf_impl_isSquare : ∀ args w, (callFunc 94 args).run Tryd.prog w = .ok (.enter 94 args) w := run_callFunc Tryd.func94 (by kernel_rfl) (by kernel_rfl)
theorem s_impl_isSquare {vn1 : Int} {r : Bool} (h : r_impl_isSquare vn1 = some r) : CallS Tryd.prog 94 [I vn1] (Bo r) [] := by
  refine CallS_of_text (rs := [.t 2]) (vs := [.tmp 2]) Tryd.func94 rfl rfl (.cons rfl FitsL.nil) (by decide) 14 rfl ?_
  unfold r_impl_isSquare at h
  show V _ _ ⟨I vn1 :: bt 13 [], []⟩ _
  refine V_e (mb 14 1) [] (s1 := ⟨I vn1 :: bt 13 [], []⟩) ?_
  obtain ⟨b5, hb5, h⟩ := of_bind h
  refine V_sreg (mb 14 4) [] (s1 := ⟨.bot :: .bot :: Bo b5 :: bt 11 [], []⟩) ?_ ?_
  ·refine XR 3 ?_
   refine XL_split (leI 0 vn1) (fun hc2 => ?_) (fun hc2 => ?_)
   ·have hb5 := of_true hb5 hc2
    obtain ⟨y3, hy3, hb5⟩ := of_bind hb5
    obtain ⟨y4, hy4, hb5⟩ := of_bind hb5
    have hb5 := some_inj hb5
    refine XL_takeC _ rfl rfl (by kernel_rfl) hc2 (X_of_Y0 rfl (E_move (I vn1) rfl (by kernel_rfl))) ?_
    refine XL_takeC _ rfl rfl (by kernel_rfl) hc2 (X_of_Y1 rfl (Y1_call (s_impl_root hy3) cf_impl_root rfl (by kernel_rfl))) ?_
    refine XL_takeC _ rfl rfl (by kernel_rfl) hc2 (X_of_Y0 rfl (E_move (I vn1) rfl (by kernel_rfl))) ?_
    refine XL_takeC _ rfl rfl (by kernel_rfl) hc2 (X_of_Y1 rfl (Y1_call (s_impl_root hy4) cf_impl_root rfl (by kernel_rfl))) ?_
    refine XL_takeC _ rfl rfl (by kernel_rfl) hc2 (X_of_Y0 rfl (Y0_mul64 (a := y3) (b := y4) rfl (by kernel_rfl) (by kernel_rfl))) ?_
    refine XL_takeC _ rfl rfl (by kernel_rfl) hc2 (X_of_Y0 rfl (E_move (I vn1) rfl (by kernel_rfl))) ?_
    refine XL_takeC _ rfl rfl (by kernel_rfl) hc2 (X_of_Y0 rfl (Y0_eqw (k := .i64) (a := w64 (y3 * y4)) (b := vn1) rfl (by kernel_rfl) (by kernel_rfl))) ?_
    refine XL_cons rfl (X_of_Y0 rfl (Y0_pickTe (b := leI 0 vn1) (p := eqI (w64 (y3 * y4)) vn1) rfl (by kernel_rfl) hc2 (by kernel_rfl) hb5)) ?_
    exact XE
   ·have hb5 := some_inj (of_false hb5 hc2)
    refine XL_skipT _ rfl rfl (by kernel_rfl) hc2 rfl ?_
    refine XL_skipT _ rfl rfl (by kernel_rfl) hc2 rfl ?_
    refine XL_skipT _ rfl rfl (by kernel_rfl) hc2 rfl ?_
    refine XL_skipT _ rfl rfl (by kernel_rfl) hc2 rfl ?_
    refine XL_skipT _ rfl rfl (by kernel_rfl) hc2 rfl ?_
    refine XL_skipT _ rfl rfl (by kernel_rfl) hc2 rfl ?_
    refine XL_skipT _ rfl rfl (by kernel_rfl) hc2 rfl ?_
    refine XL_cons rfl (X_of_Y0 rfl (Y0_pickFe (b := leI 0 vn1) (p := false) rfl (by kernel_rfl) hc2 (by kernel_rfl) hb5)) ?_
    exact XE
  refine V_ret ?_
  obtain rfl := some_inj h
  show Post _ _ _ _ _
  exact ⟨.inr rfl, rfl, rfl, rfl⟩
theorem cf_impl_isPositiveDisc : ∀ args w, (callFunc 56 args).run Tryd.prog w = .ok (.enter 56 args) w := run_callFunc Tryd.func56 (by kernel_rfl) (by kernel_rfl)
theorem s_impl_isPositiveDisc {d1 : Int} {r : Bool} (h : r_impl_isPositiveDisc d1 = some r) : CallS Tryd.prog 56 [I d1] (Bo r) [] := by
  refine CallS_of_text (rs := [.t 2]) (vs := [.tmp 2]) Tryd.func56 rfl rfl (.cons rfl FitsL.nil) (by decide) 19 rfl ?_
  unfold r_impl_isPositiveDisc at h
  show V _ _ ⟨I d1 :: bt 18 [], []⟩ _
  refine V_e (mb 19 1) [] (s1 := ⟨I d1 :: bt 18 [], []⟩) ?_
  obtain ⟨b5, hb5, h⟩ := of_bind h
  obtain ⟨b8, hb8, h⟩ := of_bind h
  refine V_sreg (mb 19 4) [] (s1 := ⟨.bot :: .bot :: Bo b8 :: bt 16 [], []⟩) ?_ ?_
  ·refine XR 3 ?_
   refine XL_split (leI 5 d1) (fun hc2 => ?_) (fun hc2 => ?_)
   ·refine XL_takeC _ rfl rfl (by kernel_rfl) hc2 (X_of_Y0 rfl (E_move (I d1) rfl (by kernel_rfl))) ?_
    refine XL_takeC _ rfl rfl (by kernel_rfl) hc2 (X_of_Y0 rfl (Y0_lew (k := .i64) (a := d1) (b := 1000) rfl (by kernel_rfl) (by kernel_rfl))) ?_
    refine XL_cons rfl (X_of_Y0 rfl (Y0_pick1 (b := leI 5 d1) (p := leI d1 1000) (q := false) rfl (by kernel_rfl) hc2 (by kernel_rfl))) ?_
    refine XR 1 ?_
    refine XL_split (bif (leI 5 d1) then (leI d1 1000) else false) (fun hc3 => ?_) (fun hc3 => ?_)
    ·have hb5 := of_true hb5 hc3
     obtain ⟨y4, hy4, hb5⟩ := of_bind hb5
     have hb5 := some_inj hb5
     refine XL_takeC _ rfl rfl (by kernel_rfl) hc3 (X_of_Y0 rfl (E_move (I d1) rfl (by kernel_rfl))) ?_
     refine XL_takeC _ rfl rfl (by kernel_rfl) hc3 (X_of_Y1 rfl (Y1_call (s_impl_mod hy4) cf_impl_mod rfl (by kernel_rfl))) ?_
     refine XL_takeC _ rfl rfl (by kernel_rfl) hc3 (X_of_Y0 rfl (Y0_lew (k := .i64) (a := y4) (b := 1) rfl (by kernel_rfl) (by kernel_rfl))) ?_
     refine XL_cons rfl (X_of_Y0 rfl (Y0_pickTe (b := bif (leI 5 d1) then (leI d1 1000) else false) (p := leI y4 1) rfl (by kernel_rfl) hc3 (by kernel_rfl) hb5)) ?_
     refine XR 1 ?_
     refine XL_split b5 (fun hc6 => ?_) (fun hc6 => ?_)
     ·have hb8 := of_true hb8 hc6
      obtain ⟨y7, hy7, hb8⟩ := of_bind hb8
      have hb8 := some_inj hb8
      refine XL_takeC _ rfl rfl (by kernel_rfl) hc6 (X_of_Y0 rfl (E_move (I d1) rfl (by kernel_rfl))) ?_
      refine XL_takeC _ rfl rfl (by kernel_rfl) hc6 (X_of_Y1 rfl (Y1_call (s_impl_isSquare hy7) cf_impl_isSquare rfl (by kernel_rfl))) ?_
      refine XL_takeC _ rfl rfl (by kernel_rfl) hc6 (X_of_Y0 rfl (Y0_not (b := y7) rfl (by kernel_rfl))) ?_
      refine XL_cons rfl (X_of_Y0 rfl (Y0_pickTe (b := b5) (p := !y7) rfl (by kernel_rfl) hc6 (by kernel_rfl) hb8)) ?_
      exact XE
     ·have hb8 := some_inj (of_false hb8 hc6)
      refine XL_skipT _ rfl rfl (by kernel_rfl) hc6 rfl ?_
      refine XL_skipT _ rfl rfl (by kernel_rfl) hc6 rfl ?_
      refine XL_skipT _ rfl rfl (by kernel_rfl) hc6 rfl ?_
      refine XL_cons rfl (X_of_Y0 rfl (Y0_pickFe (b := b5) (p := false) rfl (by kernel_rfl) hc6 (by kernel_rfl) hb8)) ?_
      exact XE
    ·have hb5 := some_inj (of_false hb5 hc3)
     refine XL_skipT _ rfl rfl (by kernel_rfl) hc3 rfl ?_
     refine XL_skipT _ rfl rfl (by kernel_rfl) hc3 rfl ?_
     refine XL_skipT _ rfl rfl (by kernel_rfl) hc3 rfl ?_
     refine XL_cons rfl (X_of_Y0 rfl (Y0_pickFe (b := bif (leI 5 d1) then (leI d1 1000) else false) (p := false) rfl (by kernel_rfl) hc3 (by kernel_rfl) hb5)) ?_
     refine XR 1 ?_
     refine XL_split b5 (fun hc6 => ?_) (fun hc6 => ?_)
     ·have hb8 := of_true hb8 hc6
      obtain ⟨y7, hy7, hb8⟩ := of_bind hb8
      have hb8 := some_inj hb8
      refine XL_takeC _ rfl rfl (by kernel_rfl) hc6 (X_of_Y0 rfl (E_move (I d1) rfl (by kernel_rfl))) ?_
      refine XL_takeC _ rfl rfl (by kernel_rfl) hc6 (X_of_Y1 rfl (Y1_call (s_impl_isSquare hy7) cf_impl_isSquare rfl (by kernel_rfl))) ?_
      refine XL_takeC _ rfl rfl (by kernel_rfl) hc6 (X_of_Y0 rfl (Y0_not (b := y7) rfl (by kernel_rfl))) ?_
      refine XL_cons rfl (X_of_Y0 rfl (Y0_pickTe (b := b5) (p := !y7) rfl (by kernel_rfl) hc6 (by kernel_rfl) hb8)) ?_
      exact XE
     ·have hb8 := some_inj (of_false hb8 hc6)
      refine XL_skipT _ rfl rfl (by kernel_rfl) hc6 rfl ?_
      refine XL_skipT _ rfl rfl (by kernel_rfl) hc6 rfl ?_
      refine XL_skipT _ rfl rfl (by kernel_rfl) hc6 rfl ?_
      refine XL_cons rfl (X_of_Y0 rfl (Y0_pickFe (b := b5) (p := false) rfl (by kernel_rfl) hc6 (by kernel_rfl) hb8)) ?_
      exact XE
   ·refine XL_skipT _ rfl rfl (by kernel_rfl) hc2 rfl ?_
    refine XL_skipT _ rfl rfl (by kernel_rfl) hc2 rfl ?_
    refine XL_cons rfl (X_of_Y0 rfl (Y0_pick0 (b := leI 5 d1) (p := leI d1 1000) (q := false) rfl (by kernel_rfl) hc2 (by kernel_rfl))) ?_
    refine XR 1 ?_
    refine XL_split (bif (leI 5 d1) then (leI d1 1000) else false) (fun hc3 => ?_) (fun hc3 => ?_)
    ·have hb5 := of_true hb5 hc3
     obtain ⟨y4, hy4, hb5⟩ := of_bind hb5
     have hb5 := some_inj hb5
     refine XL_takeC _ rfl rfl (by kernel_rfl) hc3 (X_of_Y0 rfl (E_move (I d1) rfl (by kernel_rfl))) ?_
     refine XL_takeC _ rfl rfl (by kernel_rfl) hc3 (X_of_Y1 rfl (Y1_call (s_impl_mod hy4) cf_impl_mod rfl (by kernel_rfl))) ?_
     refine XL_takeC _ rfl rfl (by kernel_rfl) hc3 (X_of_Y0 rfl (Y0_lew (k := .i64) (a := y4) (b := 1) rfl (by kernel_rfl) (by kernel_rfl))) ?_
     refine XL_cons rfl (X_of_Y0 rfl (Y0_pickTe (b := bif (leI 5 d1) then (leI d1 1000) else false) (p := leI y4 1) rfl (by kernel_rfl) hc3 (by kernel_rfl) hb5)) ?_
     refine XR 1 ?_
     refine XL_split b5 (fun hc6 => ?_) (fun hc6 => ?_)
     ·have hb8 := of_true hb8 hc6
      obtain ⟨y7, hy7, hb8⟩ := of_bind hb8
      have hb8 := some_inj hb8
      refine XL_takeC _ rfl rfl (by kernel_rfl) hc6 (X_of_Y0 rfl (E_move (I d1) rfl (by kernel_rfl))) ?_
      refine XL_takeC _ rfl rfl (by kernel_rfl) hc6 (X_of_Y1 rfl (Y1_call (s_impl_isSquare hy7) cf_impl_isSquare rfl (by kernel_rfl))) ?_
      refine XL_takeC _ rfl rfl (by kernel_rfl) hc6 (X_of_Y0 rfl (Y0_not (b := y7) rfl (by kernel_rfl))) ?_
      refine XL_cons rfl (X_of_Y0 rfl (Y0_pickTe (b := b5) (p := !y7) rfl (by kernel_rfl) hc6 (by kernel_rfl) hb8)) ?_
      exact XE
     ·have hb8 := some_inj (of_false hb8 hc6)
      refine XL_skipT _ rfl rfl (by kernel_rfl) hc6 rfl ?_
      refine XL_skipT _ rfl rfl (by kernel_rfl) hc6 rfl ?_
      refine XL_skipT _ rfl rfl (by kernel_rfl) hc6 rfl ?_
      refine XL_cons rfl (X_of_Y0 rfl (Y0_pickFe (b := b5) (p := false) rfl (by kernel_rfl) hc6 (by kernel_rfl) hb8)) ?_
      exact XE
    ·have hb5 := some_inj (of_false hb5 hc3)
     refine XL_skipT _ rfl rfl (by kernel_rfl) hc3 rfl ?_
     refine XL_skipT _ rfl rfl (by kernel_rfl) hc3 rfl ?_
     refine XL_skipT _ rfl rfl (by kernel_rfl) hc3 rfl ?_
     refine XL_cons rfl (X_of_Y0 rfl (Y0_pickFe (b := bif (leI 5 d1) then (leI d1 1000) else false) (p := false) rfl (by kernel_rfl) hc3 (by kernel_rfl) hb5)) ?_
     refine XR 1 ?_
     refine XL_split b5 (fun hc6 => ?_) (fun hc6 => ?_)
     ·have hb8 := of_true hb8 hc6
      obtain ⟨y7, hy7, hb8⟩ := of_bind hb8
      have hb8 := some_inj hb8
      refine XL_takeC _ rfl rfl (by kernel_rfl) hc6 (X_of_Y0 rfl (E_move (I d1) rfl (by kernel_rfl))) ?_
      refine XL_takeC _ rfl rfl (by kernel_rfl) hc6 (X_of_Y1 rfl (Y1_call (s_impl_isSquare hy7) cf_impl_isSquare rfl (by kernel_rfl))) ?_
      refine XL_takeC _ rfl rfl (by kernel_rfl) hc6 (X_of_Y0 rfl (Y0_not (b := y7) rfl (by kernel_rfl))) ?_
      refine XL_cons rfl (X_of_Y0 rfl (Y0_pickTe (b := b5) (p := !y7) rfl (by kernel_rfl) hc6 (by kernel_rfl) hb8)) ?_
      exact XE
     ·have hb8 := some_inj (of_false hb8 hc6)
      refine XL_skipT _ rfl rfl (by kernel_rfl) hc6 rfl ?_
      refine XL_skipT _ rfl rfl (by kernel_rfl) hc6 rfl ?_
      refine XL_skipT _ rfl rfl (by kernel_rfl) hc6 rfl ?_
      refine XL_cons rfl (X_of_Y0 rfl (Y0_pickFe (b := b5) (p := false) rfl (by kernel_rfl) hc6 (by kernel_rfl) hb8)) ?_
      exact XE
  refine V_ret ?_
  obtain rfl := some_inj h
  show Post _ _ _ _ _
  exact ⟨.inr rfl, rfl, rfl, rfl⟩
theorem cf_math_Sqrt : ∀ args w, (callFunc 123 args).run Tryd.prog w = .ok (.enter 123 args) w := run_callFunc Tryd.func123 (by kernel_rfl) (by kernel_rfl)
theorem s_math_Sqrt {x1 : Nat} {r : Nat} (h : r_math_Sqrt x1 = some r) : CallS Tryd.prog 123 [.c (.v (.float .f64 x1))] (.c (.v (.float .f64 r))) [] := by
  refine CallS_of_text (rs := [.t 2]) (vs := [.tmp 2]) Tryd.func123 rfl rfl (.cons rfl FitsL.nil) (by decide) 5 rfl ?_
  unfold r_math_Sqrt at h
  show V _ _ ⟨.c (.v (.float .f64 x1)) :: bt 4 [], []⟩ _
  refine V_e (mb 5 1) [] (s1 := ⟨.c (.v (.float .f64 x1)) :: bt 4 [], []⟩) ?_
  obtain ⟨q2, hq2, h⟩ := of_bind h
  refine V_sreg (mb 5 4) [] (s1 := ⟨.bot :: .bot :: .c (.v (.float .f64 q2)) :: .bot :: .bot :: [], []⟩) ?_ ?_
  ·refine XR 1 ?_
   refine L0 rfl rfl (Y0_fsqrt (b := x1) (r := q2) cx_143 rfl (by kernel_rfl) hq2) ?_
   exact XE
  refine V_ret ?_
  obtain rfl := some_inj h
  show Post _ _ _ _ _
  exact ⟨.inr rfl, rfl, rfl, rfl⟩
theorem cf_impl_abs : ∀ args w, (callFunc 139 args).run Tryd.prog w = .ok (.enter 139 args) w := run_callFunc Tryd.func139 (by kernel_rfl) (by kernel_rfl)
theorem s_impl_abs {vn1 : Int} {r : Int} (h : r_impl_abs vn1 = some r) : CallS Tryd.prog 139 [I vn1] (I r) [] := by
  refine CallS_of_text (rs := [.t 2]) (vs := [.tmp 2]) Tryd.func139 rfl rfl (.cons rfl FitsL.nil) (by decide) 8 rfl ?_
  unfold r_impl_abs at h
  show V _ _ ⟨I vn1 :: bt 7 [], []⟩ _
  refine V_e (mb 8 1) [] (s1 := ⟨I vn1 :: bt 7 [], []⟩) ?_
  obtain ⟨t2, ht2, h⟩ := of_sI h
  refine V_sreg (mb 8 4) [] (s1 := ⟨.bot :: .bot :: I t2 :: bt 5 [], []⟩) ?_ ?_
  ·refine XR 2 ?_
   refine L0 rfl rfl (Y0_max (a := vn1) (b := -9223372036854775807) rfl (by kernel_rfl) (by kernel_rfl)) ?_
   refine XR 1 ?_
   refine L0 rfl rfl (Y0_max (a := vn1) (b := w64 (0 - (mxI vn1 (-9223372036854775807)))) rfl (by kernel_rfl) (by kernel_rfl)) ?_
   refine XR 1 ?_
   refine XL_nil ?_
   subst ht2
   kernel_rfl
  refine V_ret ?_
  obtain rfl := some_inj h
  show Post _ _ _ _ _
  exact ⟨.inr rfl, rfl, rfl, rfl⟩
theorem cf_impl_areNumbers : ∀ args w, (callFunc 33 args).run Tryd.prog w = .ok (.enter 33 args) w := run_callFunc Tryd.func33 (by kernel_rfl) (by kernel_rfl)
theorem s_impl_areNumbers {list1 : List Int} {r : Bool} (h : r_impl_areNumbers list1 = some r) : CallS Tryd.prog 33 [.c (.sl (list1.map c3))] (Bo r) [] := by
  refine CallS_of_text (rs := [.t 2]) (vs := [.tmp 2]) Tryd.func33 rfl rfl (.cons rfl FitsL.nil) (by decide) 18 rfl ?_
  unfold r_impl_areNumbers at h
  show V _ _ ⟨.c (.sl (list1.map c3)) :: bt 17 [], []⟩ _
  refine V_e (mb 18 1) [] (s1 := ⟨.c (.sl (list1.map c3)) :: bt 17 [], []⟩) ?_
  refine V_seq ?_
  refine V_sreg (mb 18 224) [] (s1 := ⟨bt 5 (.c (.sl (list1.map c3)) :: I ((list1.length : Int)) :: I 0 :: bt 10 []), []⟩) ?_ ?_
  ·refine XR 1 ?_
   refine L0 rfl rfl (Y0_lenM (c := c3) (xs := list1) Tryd.underlying58 rfl (by kernel_rfl)) ?_
   exact XE
  obtain ⟨qo4, hLo4, hko4⟩ := of_bind h
  refine V_toS (q := qo4) (S := fun o4 => ⟨bt 18 [], []⟩) (mb 18 0) [] ?_ ?_
  ·refine V_block (V_loop (fun n s => ∃ (t2 : Int), s.keep (mb 18 224) [] = (⟨bt 5 (.c (.sl (list1.map c3)) :: I ((list1.length : Int)) :: I t2 :: bt 10 []), []⟩ : St) ∧ r_impl_areNumbers_L3 list1 n t2 = some qo4) FU ⟨_,  by rfl, hLo4⟩ ?_)
   clear hLo4
   rintro n s ⟨t2, hs, h⟩
   refine V_keep _ _ hs ?_
   clear hs
   cases n with
   | zero => cases h
   | succ n =>
    rw [r_impl_areNumbers_L3] at h
    refine V_e (mb 18 480) [] (s1 := ⟨bt 5 (.c (.sl (list1.map c3)) :: I ((list1.length : Int)) :: I t2 :: Bo (ltI t2 ((list1.length : Int))) :: bt 9 []), []⟩) ?_
    refine V_seq ?_
    refine V_cond rfl (fun hc5 => ?_) (fun hc5 => ?_)
    ·have h := of_true h hc5
     refine V_skip ?_
     show V _ _ _ _
     refine V_seq ?_
     refine V_block ?_
     obtain ⟨e6, he6, h⟩ := of_bind h
     refine V_sreg (mb 18 240) [] (s1 := ⟨bt 4 (I e6 :: .c (.sl (list1.map c3)) :: I ((list1.length : Int)) :: I t2 :: bt 10 []), []⟩) ?_ ?_
     ·refine L0 rfl rfl (Y0_idxM (c := c3) (xs := list1) (v := e6) (n := t2) Tryd.underlying58 sz3 rfl (by kernel_rfl) (by kernel_rfl) he6) ?_
      exact XE
     refine V_sreg (mb 18 65760) [] (s1 := ⟨bt 5 (.c (.sl (list1.map c3)) :: I ((list1.length : Int)) :: I t2 :: bt 8 (Bo (bif (ltI e6 (-1000000)) then true else (ltI 1000000 e6)) :: .bot :: [])), []⟩) ?_ ?_
     ·refine XR 3 ?_
      refine XL_split (ltI e6 (-1000000)) (fun hc7 => ?_) (fun hc7 => ?_)
      ·refine XL_skipF _ rfl rfl (by kernel_rfl) hc7 rfl ?_
       refine XL_skipF _ rfl rfl (by kernel_rfl) hc7 rfl ?_
       refine XL_cons rfl (X_of_Y0 rfl (Y0_pick1 (b := ltI e6 (-1000000)) (p := true) (q := ltI 1000000 e6) rfl (by kernel_rfl) hc7 (by kernel_rfl))) ?_
       exact XE
      ·refine XL_takeC _ rfl rfl (by kernel_rfl) hc7 (X_of_Y0 rfl (E_move (I e6) rfl (by kernel_rfl))) ?_
       refine XL_takeC _ rfl rfl (by kernel_rfl) hc7 (X_of_Y0 rfl (Y0_gtw (k := .i64) (a := e6) (b := 1000000) rfl (by kernel_rfl) (by kernel_rfl))) ?_
       refine XL_cons rfl (X_of_Y0 rfl (Y0_pick0 (b := ltI e6 (-1000000)) (p := true) (q := ltI 1000000 e6) rfl (by kernel_rfl) hc7 (by kernel_rfl))) ?_
       exact XE
     refine V_cond rfl (fun hc8 => ?_) (fun hc8 => ?_)
     ·have h := of_true h hc8
      refine V_e (mb 18 4) [] (s1 := ⟨.bot :: .bot :: Bo false :: bt 15 [], []⟩) ?_
      refine V_ret ?_
      obtain rfl := some_inj h
      have h := hko4
      obtain rfl := some_inj h
      show Post _ _ _ _ _
      exact ⟨.inr rfl, rfl, rfl, rfl⟩
     ·have h := of_false h hc8
      refine V_skip ?_
      show V _ _ _ _
      obtain ⟨t9, ht9, h⟩ := of_sI h
      refine V_reg (mb 18 224) [] (s1 := ⟨bt 5 (.c (.sl (list1.map c3)) :: I ((list1.length : Int)) :: I t9 :: bt 10 []), []⟩) ?_ ?_
      ·refine XR 2 ?_
       refine XL_nil ?_
       subst ht9
       kernel_rfl
      exact ⟨n, Nat.lt_succ_self n, _,  by rfl, h⟩
    ·have h := of_false h hc5
     refine V_exit ?_
     obtain rfl := some_inj h
     exact ⟨_, rfl, by rfl⟩
  rintro o4 rfl
  have h := hko4
  clear hko4
  show V _ _ _ _
  refine V_e (mb 18 4) [] (s1 := ⟨.bot :: .bot :: Bo true :: bt 15 [], []⟩) ?_
  refine V_ret ?_
  obtain rfl := some_inj h
  show Post _ _ _ _ _
  exact ⟨.inr rfl, rfl, rfl, rfl⟩
theorem cf_impl_isSmall : ∀ args w, (callFunc 124 args).run Tryd.prog w = .ok (.enter 124 args) w := run_callFunc Tryd.func124 (by kernel_rfl) (by kernel_rfl)
theorem s_impl_isSmall {vs1 : (Int × Int)} {r : Bool} (h : r_impl_isSmall vs1 = some r) : CallS Tryd.prog 124 [.ag [Ti vs1.1, Ti vs1.2]] (Bo r) [] := by
  refine CallS_of_text (rs := [.t 2]) (vs := [.tmp 2]) Tryd.func124 rfl rfl (.cons rfl FitsL.nil) (by decide) 13 rfl ?_
  unfold r_impl_isSmall at h
  show V _ _ ⟨.ag [Ti vs1.1, Ti vs1.2] :: bt 12 [], []⟩ _
  refine V_e (mb 13 2) [8] (s1 := ⟨.bot :: .pt 8 0 :: bt 11 [], [(8, .box [Ti vs1.1, Ti vs1.2])]⟩) ?_
  obtain ⟨y2, hy2, h⟩ := of_bind h
  obtain ⟨b5, hb5, h⟩ := of_bind h
  refine V_sreg (mb 13 4) [] (s1 := ⟨.bot :: .bot :: Bo b5 :: bt 10 [], []⟩) ?_ ?_
  ·refine XR 2 ?_
   refine XC (s_impl_abs hy2) cf_impl_abs rfl rfl rfl ?_
   refine XR 2 ?_
   refine XL_split (leI y2 100000000) (fun hc3 => ?_) (fun hc3 => ?_)
   ·have hb5 := of_true hb5 hc3
    obtain ⟨y4, hy4, hb5⟩ := of_bind hb5
    have hb5 := some_inj hb5
    refine XL_takeC _ rfl rfl (by kernel_rfl) hc3 (X_of_Y0 rfl (E_field (.pt 8 1) Tryd.underlying51 rfl sz3 rfl (by kernel_rfl) (by intro hh; cases hh))) ?_
    refine XL_takeC _ rfl rfl (by kernel_rfl) hc3 (X_of_Y0 rfl (Y0_load1 (c := Ti vs1.2) (cs := []) sc3 rfl (by kernel_rfl))) ?_
    refine XL_takeC _ rfl rfl (by kernel_rfl) hc3 (X_of_Y1 rfl (Y1_bslice (z := zv3) (els := [vs1.2].map c3) Tryd.underlying58 iz3 rfl (by decide) rfl (by kernel_rfl) rfl (by simp [c3]) (by decide) (by decide))) ?_
    refine XL_takeC _ rfl rfl (by kernel_rfl) hc3 (X_of_Y1 rfl (Y1_callS (s_impl_areNumbers hy4) cf_impl_areNumbers rfl (by kernel_rfl) rfl rfl)) ?_
    refine XL_cons rfl (X_of_Y0 rfl (Y0_pickTe (b := leI y2 100000000) (p := y4) rfl (by kernel_rfl) hc3 (by kernel_rfl) hb5)) ?_
    exact XE
   ·have hb5 := some_inj (of_false hb5 hc3)
    refine XL_skipT _ rfl rfl (by kernel_rfl) hc3 rfl ?_
    refine XL_skipT _ rfl rfl (by kernel_rfl) hc3 rfl ?_
    refine XL_skipT _ rfl rfl (by kernel_rfl) hc3 rfl ?_
    refine XL_skipT _ rfl rfl (by kernel_rfl) hc3 rfl ?_
    refine XL_cons rfl (X_of_Y0 rfl (Y0_pickFe (b := leI y2 100000000) (p := false) rfl (by kernel_rfl) hc3 (by kernel_rfl) hb5)) ?_
    exact XE
  refine V_ret ?_
  obtain rfl := some_inj h
  show Post _ _ _ _ _
  exact ⟨.inr rfl, rfl, rfl, rfl⟩
theorem cf_impl_leastSolution : ∀ args w, (callFunc 95 args).run Tryd.prog w = .ok (.enter 95 args) w := run_callFunc Tryd.func95 (by kernel_rfl) (by kernel_rfl)
theorem s_impl_leastSolution {d1 : Int} {side2 : Int} {most3 : Int} {r : (((Int × Int)) × Bool)} (h : r_impl_leastSolution d1 side2 most3 = some r) : CallS Tryd.prog 95 [I d1, I side2, I most3] (.tc (.ag [Ti r.1.1, Ti r.1.2]) (.tc (Bo r.2) .tn)) [] := by
  refine CallS_of_text (rs := [.w 6 2, .t 7]) (vs := [.cell 6 51, .tmp 7]) Tryd.func95 rfl rfl (.cons ⟨rfl, wd51⟩ (.cons rfl FitsL.nil)) (by decide) 45 rfl ?_
  unfold r_impl_leastSolution at h
  show V _ _ ⟨I d1 :: I side2 :: I most3 :: bt 42 [], []⟩ _
  refine V_e (mb 45 71) [48] (s1 := ⟨I d1 :: I side2 :: I most3 :: bt 3 (.pt 48 0 :: bt 38 []), [(48, .box [Ti 0, Ti 0])]⟩) ?_
  refine V_seq ?_
  refine V_e (mb 45 327) [48] (s1 := ⟨I d1 :: I side2 :: I most3 :: bt 3 (.pt 48 0 :: .bot :: I 1 :: bt 36 []), [(48, .box [Ti 0, Ti 0])]⟩) ?_
  obtain ⟨qo6, hLo6, hko6⟩ := of_bind h
  refine V_toS (q := qo6) (S := fun o6 => ⟨bt 6 (.pt 48 0 :: bt 38 []), [(48, .box [Ti 0, Ti 0])]⟩) (mb 45 64) [48] ?_ ?_
  ·refine V_block (V_loop (fun n s => ∃ (u4 : Int), s.keep (mb 45 327) [48] = (⟨I d1 :: I side2 :: I most3 :: bt 3 (.pt 48 0 :: .bot :: I u4 :: bt 36 []), [(48, .box [Ti 0, Ti 0])]⟩ : St) ∧ r_impl_leastSolution_L5 d1 most3 side2 n u4 = some qo6) FU ⟨_,  by rfl, hLo6⟩ ?_)
   clear hLo6
   rintro n s ⟨u4, hs, h⟩
   refine V_keep _ _ hs ?_
   clear hs
   cases n with
   | zero => cases h
   | succ n =>
    rw [r_impl_leastSolution_L5] at h
    refine V_seq ?_
    refine V_e (mb 45 16711) [48] (s1 := ⟨I d1 :: I side2 :: I most3 :: bt 3 (.pt 48 0 :: .bot :: I u4 :: bt 5 (Bo (leI u4 most3) :: bt 30 [])), [(48, .box [Ti 0, Ti 0])]⟩) ?_
    refine V_cond rfl (fun hc7 => ?_) (fun hc7 => ?_)
    ·have h := of_true h hc7
     refine V_skip ?_
     show V _ _ _ _
     refine V_seq ?_
     refine V_block ?_
     obtain ⟨square8, hsquare8, h⟩ := of_sI h
     refine V_sreg (mb 45 839) [48] (s1 := ⟨I d1 :: I side2 :: I most3 :: bt 3 (.pt 48 0 :: .bot :: I u4 :: I square8 :: bt 35 []), [(48, .box [Ti 0, Ti 0])]⟩) ?_ ?_
     ·refine XR 8 ?_
      refine XL_nil ?_
      subst hsquare8
      kernel_rfl
     obtain ⟨y9, hy9, h⟩ := of_bind h
     obtain ⟨t10, ht10, h⟩ := of_bind h
     refine V_sreg (mb 45 1863) [48] (s1 := ⟨I d1 :: I side2 :: I most3 :: bt 3 (.pt 48 0 :: .bot :: I u4 :: I square8 :: I t10 :: bt 34 []), [(48, .box [Ti 0, Ti 0])]⟩) ?_ ?_
     ·refine XR 1 ?_
      refine L0 rfl rfl (Y0_max (a := square8) (b := 0) rfl (by kernel_rfl) (by kernel_rfl)) ?_
      refine L0 rfl rfl (Y0_itof (k2 := .i64) (a := mxI square8 0) Tryd.underlying3 Tryd.underlying119 rfl (by kernel_rfl)) ?_
      refine XC (s_math_Sqrt hy9) cf_math_Sqrt rfl rfl rfl ?_
      refine L0 rfl rfl (Y0_ftoi (b := y9) (a := t10) Tryd.underlying119 Tryd.underlying3 rfl (by kernel_rfl) ht10) ?_
      exact XE
     obtain ⟨t12, ht12, h⟩ := of_bind h
     have ht12 := some_inj ht12
     refine V_sreg (mb 45 137438954823) [48] (s1 := ⟨I d1 :: I side2 :: I most3 :: bt 3 (.pt 48 0 :: .bot :: I u4 :: .bot :: I t10 :: bt 26 (Bo t12 :: bt 7 [])), [(48, .box [Ti 0, Ti 0])]⟩) ?_ ?_
     ·refine XR 3 ?_
      refine XL_split (ltI 0 t10) (fun hc11 => ?_) (fun hc11 => ?_)
      ·refine XL_takeC _ rfl rfl (by kernel_rfl) hc11 (X_of_Y0 rfl (E_move (I t10) rfl (by kernel_rfl))) ?_
       refine XL_takeC _ rfl rfl (by kernel_rfl) hc11 (X_of_Y0 rfl (E_move (I t10) rfl (by kernel_rfl))) ?_
       refine XL_takeC _ rfl rfl (by kernel_rfl) hc11 (X_of_Y0 rfl (Y0_mul64 (a := t10) (b := t10) rfl (by kernel_rfl) (by kernel_rfl))) ?_
       refine XL_takeC _ rfl rfl (by kernel_rfl) hc11 (X_of_Y0 rfl (E_move (I square8) rfl (by kernel_rfl))) ?_
       refine XL_takeC _ rfl rfl (by kernel_rfl) hc11 (X_of_Y0 rfl (Y0_eqw (k := .i64) (a := w64 (t10 * t10)) (b := square8) rfl (by kernel_rfl) (by kernel_rfl))) ?_
       refine XL_cons rfl (X_of_Y0 rfl (Y0_pick1 (b := ltI 0 t10) (p := eqI (w64 (t10 * t10)) square8) (q := false) rfl (by kernel_rfl) hc11 (by kernel_rfl))) ?_
       refine XL_nil ?_
       subst ht12
       kernel_rfl
      ·refine XL_skipT _ rfl rfl (by kernel_rfl) hc11 rfl ?_
       refine XL_skipT _ rfl rfl (by kernel_rfl) hc11 rfl ?_
       refine XL_skipT _ rfl rfl (by kernel_rfl) hc11 rfl ?_
       refine XL_skipT _ rfl rfl (by kernel_rfl) hc11 rfl ?_
       refine XL_skipT _ rfl rfl (by kernel_rfl) hc11 rfl ?_
       refine XL_cons rfl (X_of_Y0 rfl (Y0_pick0 (b := ltI 0 t10) (p := eqI (w64 (t10 * t10)) square8) (q := false) rfl (by kernel_rfl) hc11 (by kernel_rfl))) ?_
       refine XL_nil ?_
       subst ht12
       kernel_rfl
     refine V_cond rfl (fun hc13 => ?_) (fun hc13 => ?_)
     ·have h := of_true h hc13
      refine V_sreg (mb 45 2112) [88, 48] (s1 := ⟨bt 6 (.pt 48 0 :: bt 4 (.pt 88 0 :: bt 33 [])), [(88, .box [Ti t10, Ti u4]), (48, .box [Ti 0, Ti 0])]⟩) ?_ ?_
      ·refine XR 2 ?_
       refine L0 rfl rfl (Y0_build (cs := [Ti t10, Ti u4]) pl51 bt51 rfl rfl (by kernel_rfl)) ?_
       exact XE
      obtain ⟨y14, hy14, h⟩ := of_bind h
      refine V_sdreg [0, 0, 2, 7, 15] 3 (cdm 3 [40, 2, 6]) (mb 45 192) [48] (s1 := ⟨bt 6 (.pt 48 0 :: Bo y14 :: bt 37 []), [(48, .box [Ti t10, Ti u4])]⟩) (by kernel_rfl) (by kernel_rfl) ?_ ?_
      ·refine DR 2 ?_
       refine DC 2 (s_impl_isSmall hy14) cf_impl_isSmall rfl rfl rfl rfl 43 rfl ?_
       refine DA 0 ?_
       exact XE
      refine V_ret ?_
      obtain rfl := some_inj h
      have h := hko6
      obtain rfl := some_inj h
      show Post _ _ _ _ _
      exact ⟨.inr rfl, rfl, rfl, rfl⟩
     ·have h := of_false h hc13
      refine V_skip ?_
      show V _ _ _ _
      obtain ⟨u15, hu15, h⟩ := of_sI h
      refine V_reg (mb 45 327) [48] (s1 := ⟨I d1 :: I side2 :: I most3 :: bt 3 (.pt 48 0 :: .bot :: I u15 :: bt 36 []), [(48, .box [Ti 0, Ti 0])]⟩) ?_ ?_
      ·refine XR 3 ?_
       refine XL_nil ?_
       subst hu15
       kernel_rfl
      exact ⟨n, Nat.lt_succ_self n, _,  by rfl, h⟩
    ·have h := of_false h hc7
     refine V_exit ?_
     obtain rfl := some_inj h
     exact ⟨_, rfl, by rfl⟩
  rintro o6 rfl
  have h := hko6
  clear hko6
  show V _ _ _ _
  refine V_sreg (mb 45 192) [48] (s1 := ⟨bt 6 (.pt 48 0 :: Bo false :: bt 37 []), [(48, .box [Ti 0, Ti 0])]⟩) ?_ ?_
  ·refine L0 rfl rfl (Y0_build (cs := [Ti 0, Ti 0]) pl51 bt51 rfl rfl (by kernel_rfl)) ?_
   exact XE
  refine V_ret ?_
  obtain rfl := some_inj h
  show Post _ _ _ _ _
  exact ⟨.inr rfl, rfl, rfl, rfl⟩
theorem cf_impl_pellFour : ∀ args w, (callFunc 57 args).run Tryd.prog w = .ok (.enter 57 args) w := run_callFunc Tryd.func57 (by kernel_rfl) (by kernel_rfl)
theorem s_impl_pellFour {d1 : Int} {r : (((Int × Int)) × Bool)} (h : r_impl_pellFour d1 = some r) : CallS Tryd.prog 57 [I d1] (.tc (.ag [Ti r.1.1, Ti r.1.2]) (.tc (Bo r.2) .tn)) [] := by
  refine CallS_of_text (rs := [.w 2 2, .t 3]) (vs := [.cell 2 51, .tmp 3]) Tryd.func57 rfl rfl (.cons ⟨rfl, wd51⟩ (.cons rfl FitsL.nil)) (by decide) 15 rfl ?_
  unfold r_impl_pellFour at h
  show V _ _ ⟨I d1 :: bt 14 [], []⟩ _
  refine V_e (mb 15 5) [16] (s1 := ⟨I d1 :: .bot :: .pt 16 0 :: bt 12 [], [(16, .box [Ti 0, Ti 0])]⟩) ?_
  obtain ⟨y2, hy2, h⟩ := of_bind h
  refine V_sreg (mb 15 52) [32, 16] (s1 := ⟨.bot :: .bot :: .pt 16 0 :: .bot :: .pt 32 0 :: Bo y2.2 :: bt 9 [], [(32, .box [Ti y2.1.1, Ti y2.1.2]), (16, .box [Ti 0, Ti 0])]⟩) ?_ ?_
  ·refine XR 1 ?_
   refine XC (s_impl_leastSolution hy2) cf_impl_leastSolution rfl rfl rfl ?_
   exact XE
  refine V_seq ?_
  refine V_e (mb 15 4116) [32, 16] (s1 := ⟨.bot :: .bot :: .pt 16 0 :: .bot :: .pt 32 0 :: bt 7 (Bo (!y2.2) :: .bot :: .bot :: []), [(32, .box [Ti y2.1.1, Ti y2.1.2]), (16, .box [Ti 0, Ti 0])]⟩) ?_
  refine V_cond rfl (fun hc3 => ?_) (fun hc3 => ?_)
  ·have h := of_true h hc3
   refine V_sreg (mb 15 12) [16] (s1 := ⟨.bot :: .bot :: .pt 16 0 :: Bo false :: bt 11 [], [(16, .box [Ti 0, Ti 0])]⟩) ?_ ?_
   ·refine L0 rfl rfl (Y0_build (cs := [Ti 0, Ti 0]) pl51 bt51 rfl rfl (by kernel_rfl)) ?_
    exact XE
   refine V_ret ?_
   obtain rfl := some_inj h
   show Post _ _ _ _ _
   exact ⟨.inr rfl, rfl, rfl, rfl⟩
  ·have h := of_false h hc3
   refine V_skip ?_
   show V _ _ _ _
   refine V_e (mb 15 12) [16] (s1 := ⟨.bot :: .bot :: .pt 16 0 :: Bo true :: bt 11 [], [(16, .box [Ti y2.1.1, Ti y2.1.2])]⟩) ?_
   refine V_ret ?_
   obtain rfl := some_inj h
   show Post _ _ _ _ _
   exact ⟨.inr rfl, rfl, rfl, rfl⟩
theorem cf_impl_PellFour : ∀ args w, (callFunc 32 args).run Tryd.prog w = .ok (.enter 32 args) w := run_callFunc Tryd.func32 (by kernel_rfl) (by kernel_rfl)
theorem s_impl_PellFour {d1 : Int} {r : (((Int × Int)) × Bool)} (h : r_impl_PellFour d1 = some r) : CallS Tryd.prog 32 [I d1] (.tc (.ag [Ti r.1.1, Ti r.1.2]) (.tc (Bo r.2) .tn)) [] := by
  refine CallS_of_text (rs := [.w 2 2, .t 3]) (vs := [.cell 2 51, .tmp 3]) Tryd.func32 rfl rfl (.cons ⟨rfl, wd51⟩ (.cons rfl FitsL.nil)) (by decide) 12 rfl ?_
  unfold r_impl_PellFour at h
  show V _ _ ⟨I d1 :: bt 11 [], []⟩ _
  refine V_e (mb 12 5) [16] (s1 := ⟨I d1 :: .bot :: .pt 16 0 :: bt 9 [], [(16, .box [Ti 0, Ti 0])]⟩) ?_
  refine V_seq ?_
  obtain ⟨y2, hy2, h⟩ := of_bind h
  refine V_sreg (mb 12 69) [16] (s1 := ⟨I d1 :: .bot :: .pt 16 0 :: bt 3 (Bo (!y2) :: bt 5 []), [(16, .box [Ti 0, Ti 0])]⟩) ?_ ?_
  ·refine XR 1 ?_
   refine XC (s_impl_isPositiveDisc hy2) cf_impl_isPositiveDisc rfl rfl rfl ?_
   exact XE
  refine V_cond rfl (fun hc3 => ?_) (fun hc3 => ?_)
  ·have h := of_true h hc3
   refine V_sreg (mb 12 12) [16] (s1 := ⟨.bot :: .bot :: .pt 16 0 :: Bo false :: bt 8 [], [(16, .box [Ti 0, Ti 0])]⟩) ?_ ?_
   ·refine L0 rfl rfl (Y0_build (cs := [Ti 0, Ti 0]) pl51 bt51 rfl rfl (by kernel_rfl)) ?_
    exact XE
   refine V_ret ?_
   obtain rfl := some_inj h
   show Post _ _ _ _ _
   exact ⟨.inr rfl, rfl, rfl, rfl⟩
  ·have h := of_false h hc3
   refine V_skip ?_
   show V _ _ _ _
   obtain ⟨y4, hy4, h⟩ := of_bind h
   refine V_sreg (mb 12 12) [16] (s1 := ⟨.bot :: .bot :: .pt 16 0 :: Bo y4.2 :: bt 8 [], [(16, .box [Ti y4.1.1, Ti y4.1.2])]⟩) ?_ ?_
   ·refine XR 1 ?_
    refine XC (s_impl_pellFour hy4) cf_impl_pellFour rfl rfl rfl ?_
    exact XE
   refine V_ret ?_
   obtain rfl := some_inj h
   show Post _ _ _ _ _
   exact ⟨.inr rfl, rfl, rfl, rfl⟩
theorem cf_impl_certificate : ∀ args w, (callFunc 25 args).run Tryd.prog w = .ok (.enter 25 args) w := run_callFunc Tryd.func25 (by kernel_rfl) (by kernel_rfl)
theorem s_impl_certificate {kind1 : ByteArray} {words2 : List ByteArray} {r : ByteArray} (h : r_impl_certificate kind1 words2 = some r) : CallS Tryd.prog 25 [.c (.v (.string kind1)), .c (.sl (words2.map c9))] (.c (.v (.string r))) [] := by
  refine CallS_of_text (rs := [.t 4]) (vs := [.tmp 4]) Tryd.func25 rfl rfl (.cons rfl FitsL.nil) (by decide) 10 rfl ?_
  unfold r_impl_certificate at h
  show V _ _ ⟨.c (.v (.string kind1)) :: .c (.sl (words2.map c9)) :: bt 8 [], []⟩ _
  refine V_e (mb 10 3) [] (s1 := ⟨.c (.v (.string kind1)) :: .c (.sl (words2.map c9)) :: bt 8 [], []⟩) ?_
  obtain ⟨u3, hu3, h⟩ := of_bind h
  obtain ⟨y4, hy4, h⟩ := of_bind h
  obtain ⟨u5, hu5, h⟩ := of_bind h
  refine V_sreg (mb 10 16) [] (s1 := ⟨bt 4 (.c (.v (.string ((kind1 ++ ((⟨#[32]⟩ : ByteArray))) ++ y4))) :: bt 5 []), []⟩) ?_ ?_
  ·refine XR 1 ?_
   refine L0 rfl rfl (Y0_cat (a := kind1) (b := (⟨#[32]⟩ : ByteArray)) rfl (by kernel_rfl) (by kernel_rfl) (catR_some hu3)) ?_
   refine XR 1 ?_
   refine XC (s_strings_Join hy4) cf_strings_Join rfl rfl rfl ?_
   refine L0 rfl rfl (Y0_cat (a := kind1 ++ ((⟨#[32]⟩ : ByteArray))) (b := y4) rfl (by kernel_rfl) (by kernel_rfl) (catR_some hu5)) ?_
   exact XE
  refine V_ret ?_
  obtain rfl := some_inj h
  show Post _ _ _ _ _
  exact ⟨.inr rfl, rfl, rfl, rfl⟩
theorem cf_impl_PellCertificate : ∀ args w, (callFunc 14 args).run Tryd.prog w = .ok (.enter 14 args) w := run_callFunc Tryd.func14 (by kernel_rfl) (by kernel_rfl)
theorem s_impl_PellCertificate {d1 : Int} {r : (ByteArray × Bool)} (h : r_impl_PellCertificate d1 = some r) : CallS Tryd.prog 14 [I d1] (.tc (.c (.v (.string r.1))) (.tc (Bo r.2) .tn)) [] := by
  refine CallS_of_text (rs := [.t 2, .t 3]) (vs := [.tmp 2, .tmp 3]) Tryd.func14 rfl rfl (.cons rfl (.cons rfl FitsL.nil)) (by decide) 32 rfl ?_
  unfold r_impl_PellCertificate at h
  show V _ _ ⟨I d1 :: bt 31 [], []⟩ _
  refine V_e (mb 32 1) [] (s1 := ⟨I d1 :: bt 31 [], []⟩) ?_
  obtain ⟨y2, hy2, h⟩ := of_bind h
  refine V_sreg (mb 32 49) [32] (s1 := ⟨I d1 :: bt 3 (.pt 32 0 :: Bo y2.2 :: bt 26 []), [(32, .box [Ti y2.1.1, Ti y2.1.2])]⟩) ?_ ?_
  ·refine XR 1 ?_
   refine XC (s_impl_PellFour hy2) cf_impl_PellFour rfl rfl rfl ?_
   exact XE
  refine V_seq ?_
  obtain ⟨b5, hb5, h⟩ := of_bind h
  refine V_sreg (mb 32 2097169) [32] (s1 := ⟨I d1 :: bt 3 (.pt 32 0 :: bt 16 (Bo b5 :: bt 10 [])), [(32, .box [Ti y2.1.1, Ti y2.1.2])]⟩) ?_ ?_
  ·refine XR 3 ?_
   refine XL_split (!y2.2) (fun hc3 => ?_) (fun hc3 => ?_)
   ·have hb5 := some_inj (of_true hb5 hc3)
    refine XL_skipF _ rfl rfl (by kernel_rfl) hc3 rfl ?_
    refine XL_skipF _ rfl rfl (by kernel_rfl) hc3 rfl ?_
    refine XL_skipF _ rfl rfl (by kernel_rfl) hc3 rfl ?_
    refine XL_skipF _ rfl rfl (by kernel_rfl) hc3 rfl ?_
    refine XL_skipF _ rfl rfl (by kernel_rfl) hc3 rfl ?_
    refine XL_skipF _ rfl rfl (by kernel_rfl) hc3 rfl ?_
    refine XL_skipF _ rfl rfl (by kernel_rfl) hc3 rfl ?_
    refine XL_cons rfl (X_of_Y0 rfl (Y0_pickTe (b := !y2.2) (p := true) rfl (by kernel_rfl) hc3 (by kernel_rfl) hb5)) ?_
    exact XE
   ·have hb5 := of_false hb5 hc3
    obtain ⟨y4, hy4, hb5⟩ := of_bind hb5
    have hb5 := some_inj hb5
    refine XL_takeC _ rfl rfl (by kernel_rfl) hc3 (X_of_Y0 rfl (E_field (.pt 32 0) Tryd.underlying51 rfl sz3 rfl (by kernel_rfl) (by intro hh; cases hh))) ?_
    refine XL_takeC _ rfl rfl (by kernel_rfl) hc3 (X_of_Y0 rfl (Y0_load1 (c := Ti y2.1.1) (cs := [Ti y2.1.2]) sc3 rfl (by kernel_rfl))) ?_
    refine XL_takeC _ rfl rfl (by kernel_rfl) hc3 (X_of_Y0 rfl (E_field (.pt 32 1) Tryd.underlying51 rfl sz3 rfl (by kernel_rfl) (by intro hh; cases hh))) ?_
    refine XL_takeC _ rfl rfl (by kernel_rfl) hc3 (X_of_Y0 rfl (Y0_load1 (c := Ti y2.1.2) (cs := []) sc3 rfl (by kernel_rfl))) ?_
    refine XL_takeC _ rfl rfl (by kernel_rfl) hc3 (X_of_Y1 rfl (Y1_bslice (z := zv3) (els := [y2.1.1, y2.1.2].map c3) Tryd.underlying58 iz3 rfl (by decide) rfl (by kernel_rfl) rfl (by simp [c3]) (by decide) (by decide))) ?_
    refine XL_takeC _ rfl rfl (by kernel_rfl) hc3 (X_of_Y1 rfl (Y1_callS (s_impl_areNumbers hy4) cf_impl_areNumbers rfl (by kernel_rfl) rfl rfl)) ?_
    refine XL_takeC _ rfl rfl (by kernel_rfl) hc3 (X_of_Y0 rfl (Y0_not (b := y4) rfl (by kernel_rfl))) ?_
    refine XL_cons rfl (X_of_Y0 rfl (Y0_pickFe (b := !y2.2) (p := !y4) rfl (by kernel_rfl) hc3 (by kernel_rfl) hb5)) ?_
    exact XE
  refine V_cond rfl (fun hc6 => ?_) (fun hc6 => ?_)
  ·have h := of_true h hc6
   refine V_e (mb 32 12) [] (s1 := ⟨.bot :: .bot :: .c (.v (.string ((⟨#[]⟩ : ByteArray)))) :: Bo false :: bt 28 [], []⟩) ?_
   refine V_ret ?_
   obtain rfl := some_inj h
   show Post _ _ _ _ _
   exact ⟨.inr rfl, rfl, rfl, rfl⟩
  ·have h := of_false h hc6
   refine V_skip ?_
   show V _ _ _ _
   obtain ⟨y7, hy7, h⟩ := of_bind h
   obtain ⟨y8, hy8, h⟩ := of_bind h
   obtain ⟨y9, hy9, h⟩ := of_bind h
   obtain ⟨y10, hy10, h⟩ := of_bind h
   refine V_sdreg [0, 1, 0, 4, 15, 0, 32, 127, 255, 511, 1023, 2047] 12 (cdm 12 [10400, 10401, 10250, 10266, 10325, 682, 1706, 5461, 21845, 87381, 349525, 1398101]) (mb 32 12) [] (s1 := ⟨.bot :: .bot :: .c (.v (.string y10)) :: Bo true :: bt 28 [], []⟩) (by kernel_rfl) (by kernel_rfl) ?_ ?_
   ·refine DR 1 ?_
    refine DC 1 (s_strconv_Itoa hy7) cf_strconv_Itoa rfl rfl rfl rfl 23 rfl ?_
    refine DR 2 ?_
    refine DC 4 (s_strconv_Itoa hy8) cf_strconv_Itoa rfl rfl rfl rfl 26 rfl ?_
    refine DR 2 ?_
    refine DC 7 (s_strconv_Itoa hy9) cf_strconv_Itoa rfl rfl rfl rfl 29 rfl ?_
    refine DE_1 8 (by kernel_rfl) rfl rfl rfl (gsat_none rfl) (Y1_bslice (z := zv9) (els := [y7, y8, y9].map c9) Tryd.underlying24 iz9 rfl (by decide) rfl (by kernel_rfl) rfl (by simp [c9]) (by decide) (by decide)) rfl rfl rfl 30 rfl ?_
    refine DE_1 9 (by kernel_rfl) rfl rfl rfl (gsat_none rfl) (Y1_callS (s_impl_certificate hy10) cf_impl_certificate rfl (by kernel_rfl) rfl rfl) rfl rfl rfl 31 rfl ?_
    refine DA 2 ?_
    exact XE
   refine V_ret ?_
   obtain rfl := some_inj h
   show Post _ _ _ _ _
   exact ⟨.inr rfl, rfl, rfl, rfl⟩
theorem cf_laws_FnExactPellCertificate : ∀ args w, (callFunc 4 args).run Tryd.prog w = .ok (.enter 4 args) w := run_callFunc Tryd.func4 (by kernel_rfl) (by kernel_rfl)
theorem s_laws_FnExactPellCertificate {aD1 : Int} {r : Bool} (h : r_laws_FnExactPellCertificate aD1 = some r) : CallS Tryd.prog 4 [I aD1] (Bo r) [] := by
  refine CallS_of_text (rs := [.t 2]) (vs := [.tmp 2]) Tryd.func4 rfl rfl (.cons rfl FitsL.nil) (by decide) 25 rfl ?_
  unfold r_laws_FnExactPellCertificate at h
  show V _ _ ⟨I aD1 :: bt 24 [], []⟩ _
  refine V_e (mb 25 1) [] (s1 := ⟨I aD1 :: bt 24 [], []⟩) ?_
  obtain ⟨y2, hy2, h⟩ := of_bind h
  refine V_sreg (mb 25 25) [] (s1 := ⟨I aD1 :: .bot :: .bot :: .c (.v (.string y2.1)) :: Bo y2.2 :: bt 20 [], []⟩) ?_ ?_
  ·refine XR 1 ?_
   refine XC (s_spec_PellCertificate hy2) cf_spec_PellCertificate rfl rfl rfl ?_
   exact XE
  obtain ⟨y3, hy3, h⟩ := of_bind h
  refine V_sreg (mb 25 120) [] (s1 := ⟨bt 3 (.c (.v (.string y2.1)) :: Bo y2.2 :: .c (.v (.string y3.1)) :: Bo y3.2 :: bt 18 []), []⟩) ?_ ?_
  ·refine XR 1 ?_
   refine XC (s_impl_PellCertificate hy3) cf_impl_PellCertificate rfl rfl rfl ?_
   exact XE
  refine V_seq ?_
  obtain ⟨t5, ht5, h⟩ := of_bind h
  have ht5 := some_inj ht5
  refine V_sreg (mb 25 16777216) [] (s1 := ⟨bt 24 (Bo t5 :: []), []⟩) ?_ ?_
  ·refine XR 2 ?_
   refine L0 rfl rfl (Y0_nes (a := y3.1) (b := y2.1) rfl (by kernel_rfl) (by kernel_rfl)) ?_
   refine XR 1 ?_
   refine XL_split (!(y3.1.toList == y2.1.toList)) (fun hc4 => ?_) (fun hc4 => ?_)
   ·refine XL_skipF _ rfl rfl (by kernel_rfl) hc4 rfl ?_
    refine XL_skipF _ rfl rfl (by kernel_rfl) hc4 rfl ?_
    refine XL_skipF _ rfl rfl (by kernel_rfl) hc4 rfl ?_
    refine XL_cons rfl (X_of_Y0 rfl (Y0_pick1 (b := !(y3.1.toList == y2.1.toList)) (p := true) (q := y3.2 != y2.2) rfl (by kernel_rfl) hc4 (by kernel_rfl))) ?_
    refine XL_nil ?_
    subst ht5
    kernel_rfl
   ·refine XL_takeC _ rfl rfl (by kernel_rfl) hc4 (X_of_Y0 rfl (E_move (Bo y3.2) rfl (by kernel_rfl))) ?_
    refine XL_takeC _ rfl rfl (by kernel_rfl) hc4 (X_of_Y0 rfl (E_move (Bo y2.2) rfl (by kernel_rfl))) ?_
    refine XL_takeC _ rfl rfl (by kernel_rfl) hc4 (X_of_Y0 rfl (Y0_neb (a := y3.2) (b := y2.2) Tryd.underlying4 rfl (by kernel_rfl) (by kernel_rfl))) ?_
    refine XL_cons rfl (X_of_Y0 rfl (Y0_pick0 (b := !(y3.1.toList == y2.1.toList)) (p := true) (q := y3.2 != y2.2) rfl (by kernel_rfl) hc4 (by kernel_rfl))) ?_
    refine XL_nil ?_
    subst ht5
    kernel_rfl
  refine V_cond rfl (fun hc6 => ?_) (fun hc6 => ?_)
  ·have h := of_true h hc6
   refine V_e (mb 25 4) [] (s1 := ⟨.bot :: .bot :: Bo false :: bt 22 [], []⟩) ?_
   refine V_ret ?_
   obtain rfl := some_inj h
   show Post _ _ _ _ _
   exact ⟨.inr rfl, rfl, rfl, rfl⟩
  ·have h := of_false h hc6
   refine V_skip ?_
   show V _ _ _ _
   refine V_e (mb 25 4) [] (s1 := ⟨.bot :: .bot :: Bo true :: bt 22 [], []⟩) ?_
   refine V_ret ?_
   obtain rfl := some_inj h
   show Post _ _ _ _ _
   exact ⟨.inr rfl, rfl, rfl, rfl⟩
end Go.Proofs.YtnifkkihamgmaaaDoor
