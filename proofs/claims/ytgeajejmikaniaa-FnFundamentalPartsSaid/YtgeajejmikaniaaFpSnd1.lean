/-
  The functions of the program compute what the plain functions say.
  Conditions: none.
-/
import Derived.Test.YtgeajejmikaniaaShZ
import Derived.Test.YtgeajejmikaniaaFpRaw
import Derived.Test.YtgeajejmikaniaaRows
namespace Go.Proofs.Ytgeajejmikaniaa
open Go.RowKit
set_option linter.unusedVariables false
set_option linter.unusedSimpArgs false
def c5 (x : Int) : List Tr := [.v (.int .u8 x)]
def c3 (x : Int) : List Tr := [Ti x]
def zv3 : Value := .int .i64 0
theorem zf3 : (Try.prog.info? 3).bind (·.zero) = some zv3 := by kernel_rfl
def zv45 : Value := .agg #[.int .i64 0, .int .i64 0, .int .i64 0]
theorem zf45 : (Try.prog.info? 45).bind (·.zero) = some zv45 := by kernel_rfl
theorem iz3 : (Try.prog.info? 3).map (fun i => (i.zero, i.size)) = some (some zv3, 1) := by kernel_rfl
theorem izb3 : (Try.prog.info? 3).map (fun i => (i.zero, i.size, i.bytes)) = some (some zv3, 1, 8) := by kernel_rfl
theorem sc3 : scalar Try.prog 3 := ⟨_, Try.underlying3, rfl⟩
theorem sc5 : scalar Try.prog 5 := ⟨_, Try.underlying5, rfl⟩
theorem sc22 : scalar Try.prog 22 := ⟨_, Try.underlying22, rfl⟩
theorem sc96 : scalar Try.prog 96 := ⟨_, Try.underlying96, rfl⟩
theorem sz3 : (Try.prog.info? 3).map (·.size) = some 1 := by kernel_rfl
theorem sz5 : (Try.prog.info? 5).map (·.size) = some 1 := by kernel_rfl
theorem sz22 : (Try.prog.info? 22).map (·.size) = some 1 := by kernel_rfl
theorem sz45 : (Try.prog.info? 45).map (·.size) = some 3 := by kernel_rfl
theorem sz96 : (Try.prog.info? 96).map (·.size) = some 1 := by kernel_rfl
theorem wd45 : wide Try.prog 45 3 := ⟨⟨_, Try.underlying45, rfl⟩, by kernel_rfl⟩
def pl45 : Nat → Option (Nat × Nat) := fun i => (#[(0, 1), (1, 1), (2, 1)] : Array (Nat × Nat))[i]?
theorem bt45 : ∀ ps, Try.prog.built 45 ps = Instr.fill pl45 #[.int .i64 0, .int .i64 0, .int .i64 0] ps := fun ps => by kernel_rfl
def pl98 : Nat → Option (Nat × Nat) := fun i => (#[(0, 1), (1, 1), (2, 1)] : Array (Nat × Nat))[i]?
theorem bt98 : ∀ ps, Try.prog.built 98 ps = Instr.fill pl98 #[.slice none 0 0, .int .i64 0, .int .u64 0] ps := fun ps => by kernel_rfl
def pl124 : Nat → Option (Nat × Nat) := fun i => some (i * 1, 1)
theorem bt124 : ∀ ps, Try.prog.built 124 ps = Instr.fill pl124 #[.int .i64 0, .int .i64 0, .int .i64 0] ps := fun ps => by kernel_rfl
theorem cf_laws_big : ∀ args w, (callFunc 8 args).run Try.prog w = .ok (.enter 8 args) w := run_callFunc Try.func8 (by kernel_rfl) (by kernel_rfl)
set_option maxRecDepth 100000 in
set_option maxHeartbeats 400000 in
theorem s_laws_big {code1 : List Int} {more2 : List Int} {r : Bool} (h : r_laws_big code1 more2 = some r) : CallS Try.prog 8 [.c (.sl (code1.map c5)), .c (.sl (more2.map c5))] (Bo r) [] := by
  refine CallS_of_text (rs := [.t 4]) (vs := [.tmp 4]) Try.func8 rfl rfl (.cons rfl FitsL.nil) (by decide) 16 rfl ?_
  unfold r_laws_big at h
  show V _ _ ⟨.c (.sl (code1.map c5)) :: .c (.sl (more2.map c5)) :: bt 14 [], []⟩ _
  refine V_sreg (mb 16 3) [] (s1 := ⟨.c (.sl (code1.map c5)) :: .c (.sl (more2.map c5)) :: bt 14 [], []⟩) ?_ ?_
  ·refine L0 rfl rfl (E_assign (Bo false) rfl (by kernel_rfl)) ?_
   refine XL_nil ?_
   kernel_rfl
  obtain ⟨t4, ht4, h⟩ := of_bind h
  have ht4 := some_inj ht4
  refine V_sreg (mb 16 16) [] (s1 := ⟨bt 4 (Bo t4 :: bt 11 []), []⟩) ?_ ?_
  ·refine L0 rfl rfl (E_move (.c (.sl (code1.map c5))) rfl (by kernel_rfl)) ?_
   refine L0 rfl rfl (Y0_lenM (c := c5) (xs := code1) Try.underlying22 rfl (by kernel_rfl)) ?_
   refine L0 rfl rfl (Y0_gtw (k := .i64) (a := (code1.length : Int)) (b := 1048576) rfl (by kernel_rfl) (by kernel_rfl)) ?_
   refine L0 rfl rfl (E_move (Bo (ltI 1048576 ((code1.length : Int)))) rfl (by kernel_rfl)) ?_
   refine XL_split (ltI 1048576 ((code1.length : Int))) (fun hc3 => ?_) (fun hc3 => ?_)
   ·refine XL_skipF _ rfl rfl (by kernel_rfl) hc3 rfl ?_
    refine XL_skipF _ rfl rfl (by kernel_rfl) hc3 rfl ?_
    refine XL_skipF _ rfl rfl (by kernel_rfl) hc3 rfl ?_
    refine XL_skipF _ rfl rfl (by kernel_rfl) hc3 rfl ?_
    refine XL_skipF _ rfl rfl (by kernel_rfl) hc3 rfl ?_
    refine XL_skipF _ rfl rfl (by kernel_rfl) hc3 rfl ?_
    refine XL_cons rfl (X_of_Y0 rfl (Y0_pick1 (b := ltI 1048576 ((code1.length : Int))) (p := true) (q := ltI (w64 (1048576 - ((code1.length : Int)))) ((more2.length : Int))) rfl (by kernel_rfl) hc3 (by kernel_rfl))) ?_
    refine L0 rfl rfl (E_assign (Bo (bif (ltI 1048576 ((code1.length : Int))) then true else (ltI (w64 (1048576 - ((code1.length : Int)))) ((more2.length : Int))))) rfl (by kernel_rfl)) ?_
    refine XL_nil ?_
    subst ht4
    kernel_rfl
   ·refine XL_takeC _ rfl rfl (by kernel_rfl) hc3 (X_of_Y0 rfl (E_move (.c (.sl (more2.map c5))) rfl (by kernel_rfl))) ?_
    refine XL_takeC _ rfl rfl (by kernel_rfl) hc3 (X_of_Y0 rfl (Y0_lenM (c := c5) (xs := more2) Try.underlying22 rfl (by kernel_rfl))) ?_
    refine XL_takeC _ rfl rfl (by kernel_rfl) hc3 (X_of_Y0 rfl (E_move (.c (.sl (code1.map c5))) rfl (by kernel_rfl))) ?_
    refine XL_takeC _ rfl rfl (by kernel_rfl) hc3 (X_of_Y0 rfl (Y0_lenM (c := c5) (xs := code1) Try.underlying22 rfl (by kernel_rfl))) ?_
    refine XL_takeC _ rfl rfl (by kernel_rfl) hc3 (X_of_Y0 rfl (Y0_sub64 (a := 1048576) (b := (code1.length : Int)) rfl (by kernel_rfl) (by kernel_rfl))) ?_
    refine XL_takeC _ rfl rfl (by kernel_rfl) hc3 (X_of_Y0 rfl (Y0_gtw (k := .i64) (a := (more2.length : Int)) (b := w64 (1048576 - ((code1.length : Int)))) rfl (by kernel_rfl) (by kernel_rfl))) ?_
    refine XL_cons rfl (X_of_Y0 rfl (Y0_pick0 (b := ltI 1048576 ((code1.length : Int))) (p := true) (q := ltI (w64 (1048576 - ((code1.length : Int)))) ((more2.length : Int))) rfl (by kernel_rfl) hc3 (by kernel_rfl))) ?_
    refine L0 rfl rfl (E_assign (Bo (bif (ltI 1048576 ((code1.length : Int))) then true else (ltI (w64 (1048576 - ((code1.length : Int)))) ((more2.length : Int))))) rfl (by kernel_rfl)) ?_
    refine XL_nil ?_
    subst ht4
    kernel_rfl
  refine V_ret ?_
  obtain rfl := some_inj h
  show Post _ _ _ _ _
  exact ⟨.inr rfl, rfl, rfl, rfl⟩
theorem cf_spec_l1Cur_next : ∀ args w, (callFunc 175 args).run Try.prog w = .ok (.enter 175 args) w := run_callFunc Try.func175 (by kernel_rfl) (by kernel_rfl)
set_option maxRecDepth 100000 in
set_option maxHeartbeats 400000 in
theorem s_spec_l1Cur_next {c1 : ((List Int) × Int × Int)} {r : (Int × (((List Int) × Int × Int)))} (h : r_spec_l1Cur_next c1 = some r) : CallR Try.prog 175 [.pt 80000 0] [(80000, .box [.sl (c1.1.map c5), Ti c1.2.1, .v (.int .u64 c1.2.2)])] (I r.1) [] [(80000, .box [.sl (r.2.1.map c5), Ti r.2.2.1, .v (.int .u64 r.2.2.2)])] := by
  refine CallR_of_text (rs := [.t 2]) (vs := [.tmp 2]) Try.func175 rfl rfl (.cons rfl FitsL.nil) (by decide) 62 rfl rfl fun σ => ?_
  unfold r_spec_l1Cur_next at h
  show V _ _ ⟨.pt 80000 0 :: bt 61 [], [(80000, .pbox (σ 80000) [.sl (c1.1.map c5), Ti c1.2.1, .v (.int .u64 c1.2.2)])]⟩ _
  refine V_sreg (mb 62 1) [80000] (s1 := ⟨.pt 80000 0 :: bt 61 [], [(80000, .pbox (σ 80000) [.sl (c1.1.map c5), Ti c1.2.1, .v (.int .u64 c1.2.2)])]⟩) ?_ ?_
  ·refine L0 rfl rfl (E_assign (I 0) rfl (by kernel_rfl)) ?_
   refine XL_nil ?_
   kernel_rfl
  refine V_sreg (mb 62 9) [80000] (s1 := ⟨.pt 80000 0 :: .bot :: .bot :: I 0 :: bt 58 [], [(80000, .pbox (σ 80000) [.sl (c1.1.map c5), Ti c1.2.1, .v (.int .u64 c1.2.2)])]⟩) ?_ ?_
  ·refine L0 rfl rfl (E_assign (I 0) rfl (by kernel_rfl)) ?_
   refine XL_nil ?_
   kernel_rfl
  obtain ⟨j2, hj2, h⟩ := of_bind h
  refine V_cutK (mb 62 9) [80000] (s1 := ⟨.pt 80000 0 :: .bot :: .bot :: I j2 :: bt 58 [], [(80000, .pbox (σ 80000) [.sl (c1.1.map c5), Ti c1.2.1, .v (.int .u64 c1.2.2)])]⟩) ?_ ?_
  ·clear h
   have h := hj2
   clear hj2
   refine V_sdreg [0, 1, 3, 7, 0, 16, 48, 112, 240, 511] 10 [[.z, .z, .z, .z, .b, .b, .b, .b, .b, .z], [.a, .z, .z, .z, .b, .b, .b, .b, .b, .z], [.a, .a, .z, .z, .b, .b, .b, .b, .b, .z], [.a, .a, .a, .z, .b, .b, .b, .b, .b, .z], [.b, .b, .b, .b, .z, .z, .z, .z, .z, .z], [.b, .b, .b, .b, .a, .z, .z, .z, .z, .z], [.b, .b, .b, .b, .a, .a, .z, .z, .z, .z], [.b, .b, .b, .b, .a, .a, .a, .z, .z, .z], [.b, .b, .b, .b, .a, .a, .a, .a, .z, .z], [.a, .a, .a, .a, .a, .a, .a, .a, .a, .z]] (mb 62 8201) [80000] (s1 := ⟨.pt 80000 0 :: .bot :: .bot :: I 0 :: bt 9 (Bo (ltI c1.2.1 ((c1.1.length : Int))) :: bt 48 []), [(80000, .pbox (σ 80000) [.sl (c1.1.map c5), Ti c1.2.1, .v (.int .u64 c1.2.2)])]⟩) (by kernel_rfl) (by kernel_rfl) ?_ ?_
   ·refine DE_0 0 (.pt 80000 0) (by kernel_rfl) rfl rfl rfl (gsat_none rfl) (by kernel_rfl) (E_move (.pt 80000 0) rfl (by kernel_rfl)) 4 rfl ?_
    refine DE_0 1 (.pt 80000 0) (by kernel_rfl) rfl rfl rfl (gsat_none rfl) (by kernel_rfl) (E_nil (.pt 80000 0) rfl (by kernel_rfl) (by intro hh; cases hh)) 5 rfl ?_
    refine DE_0 2 (.pt 80000 1) (by kernel_rfl) rfl rfl rfl (gsat_none rfl) (by kernel_rfl) (E_field (.pt 80000 1) Try.underlying98 rfl sz3 rfl (by kernel_rfl) (by intro hh; cases hh)) 6 rfl ?_
    refine DE_0 3 (I c1.2.1) (by kernel_rfl) rfl rfl rfl (gsat_none rfl) (by kernel_rfl) (Y0_load1 (c := Ti c1.2.1) (cs := [.v (.int .u64 c1.2.2)]) sc3 rfl (by kernel_rfl)) 7 rfl ?_
    refine DE_0 4 (.pt 80000 0) (by kernel_rfl) rfl rfl rfl (gsat_none rfl) (by kernel_rfl) (E_move (.pt 80000 0) rfl (by kernel_rfl)) 8 rfl ?_
    refine DE_0 5 (.pt 80000 0) (by kernel_rfl) rfl rfl rfl (gsat_none rfl) (by kernel_rfl) (E_nil (.pt 80000 0) rfl (by kernel_rfl) (by intro hh; cases hh)) 9 rfl ?_
    refine DE_0 6 (.pt 80000 0) (by kernel_rfl) rfl rfl rfl (gsat_none rfl) (by kernel_rfl) (E_field (.pt 80000 0) Try.underlying98 rfl sz22 rfl (by kernel_rfl) (by intro hh; cases hh)) 10 rfl ?_
    refine DE_0 7 (.c (.sl (c1.1.map c5))) (by kernel_rfl) rfl rfl rfl (gsat_none rfl) (by kernel_rfl) (Y0_load1 (c := .sl (c1.1.map c5)) (cs := [Ti c1.2.1, .v (.int .u64 c1.2.2)]) sc22 rfl (by kernel_rfl)) 11 rfl ?_
    refine DE_0 8 (I ((c1.1.length : Int))) (by kernel_rfl) rfl rfl rfl (gsat_none rfl) (by kernel_rfl) (Y0_lenM (c := c5) (xs := c1.1) Try.underlying22 rfl (by kernel_rfl)) 12 rfl ?_
    refine DE_0 9 (Bo (ltI c1.2.1 ((c1.1.length : Int)))) (by kernel_rfl) rfl rfl rfl (gsat_none rfl) (by kernel_rfl) (Y0_ltw (k := .i64) (a := c1.2.1) (b := (c1.1.length : Int)) rfl (by kernel_rfl) (by kernel_rfl)) 13 rfl ?_
    refine DL_nil (by kernel_rfl) ?_
    refine XL_nil ?_
    kernel_rfl
   refine V_cond rfl (fun hc3 => ?_) (fun hc3 => ?_)
   ·have h := of_true h hc3
    obtain ⟨e4, he4, h⟩ := of_bind h
    obtain ⟨b5, hb5, h⟩ := of_sI h
    refine V_dreg [0, 1, 3, 7, 0, 16, 48, 112, 255, 511, 1023, 2047] 12 [[.z, .z, .z, .z, .b, .b, .b, .b, .z, .z, .z, .z], [.a, .z, .z, .z, .b, .b, .b, .b, .z, .z, .z, .z], [.a, .a, .z, .z, .b, .b, .b, .b, .z, .z, .z, .z], [.a, .a, .a, .z, .b, .b, .b, .b, .z, .z, .z, .z], [.b, .b, .b, .b, .z, .z, .z, .z, .z, .z, .z, .z], [.b, .b, .b, .b, .a, .z, .z, .z, .z, .z, .z, .z], [.b, .b, .b, .b, .a, .a, .z, .z, .z, .z, .z, .z], [.b, .b, .b, .b, .a, .a, .a, .z, .z, .z, .z, .z], [.a, .a, .a, .a, .a, .a, .a, .a, .z, .z, .z, .z], [.a, .a, .a, .a, .a, .a, .a, .a, .a, .z, .z, .z], [.a, .a, .a, .a, .a, .a, .a, .a, .a, .a, .z, .z], [.a, .a, .a, .a, .a, .a, .a, .a, .a, .a, .a, .z]] (mb 62 9) [80000] (s1 := ⟨.pt 80000 0 :: .bot :: .bot :: I b5 :: bt 58 [], [(80000, .pbox (σ 80000) [.sl (c1.1.map c5), Ti c1.2.1, .v (.int .u64 c1.2.2)])]⟩) (by kernel_rfl) (by kernel_rfl) ?_ ?_
    ·refine DE_0 0 (.pt 80000 0) (by kernel_rfl) rfl rfl rfl (gsat_none rfl) (by kernel_rfl) (E_move (.pt 80000 0) rfl (by kernel_rfl)) 14 rfl ?_
     refine DE_0 1 (.pt 80000 0) (by kernel_rfl) rfl rfl rfl (gsat_none rfl) (by kernel_rfl) (E_nil (.pt 80000 0) rfl (by kernel_rfl) (by intro hh; cases hh)) 15 rfl ?_
     refine DE_0 2 (.pt 80000 0) (by kernel_rfl) rfl rfl rfl (gsat_none rfl) (by kernel_rfl) (E_field (.pt 80000 0) Try.underlying98 rfl sz22 rfl (by kernel_rfl) (by intro hh; cases hh)) 16 rfl ?_
     refine DE_0 3 (.c (.sl (c1.1.map c5))) (by kernel_rfl) rfl rfl rfl (gsat_none rfl) (by kernel_rfl) (Y0_load1 (c := .sl (c1.1.map c5)) (cs := [Ti c1.2.1, .v (.int .u64 c1.2.2)]) sc22 rfl (by kernel_rfl)) 17 rfl ?_
     refine DE_0 4 (.pt 80000 0) (by kernel_rfl) rfl rfl rfl (gsat_none rfl) (by kernel_rfl) (E_move (.pt 80000 0) rfl (by kernel_rfl)) 18 rfl ?_
     refine DE_0 5 (.pt 80000 0) (by kernel_rfl) rfl rfl rfl (gsat_none rfl) (by kernel_rfl) (E_nil (.pt 80000 0) rfl (by kernel_rfl) (by intro hh; cases hh)) 19 rfl ?_
     refine DE_0 6 (.pt 80000 1) (by kernel_rfl) rfl rfl rfl (gsat_none rfl) (by kernel_rfl) (E_field (.pt 80000 1) Try.underlying98 rfl sz3 rfl (by kernel_rfl) (by intro hh; cases hh)) 20 rfl ?_
     refine DE_0 7 (I c1.2.1) (by kernel_rfl) rfl rfl rfl (gsat_none rfl) (by kernel_rfl) (Y0_load1 (c := Ti c1.2.1) (cs := [.v (.int .u64 c1.2.2)]) sc3 rfl (by kernel_rfl)) 21 rfl ?_
     refine DE_0 8 (.pe [.v (.int .u8 e4)]) (by kernel_rfl) rfl rfl rfl (gsat_none rfl) (by kernel_rfl) (Y0_idxM (c := c5) (xs := c1.1) (v := e4) (n := c1.2.1) Try.underlying22 sz5 rfl (by kernel_rfl) (by kernel_rfl) he4) 22 rfl ?_
     refine DE_0 9 (.c (.v (.int .u8 e4))) (by kernel_rfl) rfl rfl rfl (gsat_none rfl) (by kernel_rfl) (Y0_load1 (c := .v (.int .u8 e4)) (cs := []) sc5 rfl (by kernel_rfl)) 23 rfl ?_
     refine DE_0 10 (I (IntKind.i64.wrap e4)) (by kernel_rfl) rfl rfl rfl (gsat_none rfl) (by kernel_rfl) (Y0_conv (k2 := .u8) (a := e4) Try.underlying5 Try.underlying3 rfl (by kernel_rfl)) 24 rfl ?_
     refine DE_0 11 (I (IntKind.i64.wrap e4)) (by kernel_rfl) rfl rfl rfl (gsat_none rfl) (by kernel_rfl) (E_assign (I (IntKind.i64.wrap e4)) rfl (by kernel_rfl)) 3 rfl ?_
     refine DL_nil (by kernel_rfl) ?_
     refine XL_nil ?_
     subst hb5
     kernel_rfl
    obtain rfl := some_inj h
    show St.keep _ _ _ = _
    rfl
   ·have h := of_false h hc3
    refine V_skip ?_
    obtain rfl := some_inj h
    show St.keep _ _ _ = _
    rfl
  obtain ⟨f6, hf6, h⟩ := of_sI h
  refine V_sreg (mb 62 9) [80000] (s1 := ⟨.pt 80000 0 :: .bot :: .bot :: I j2 :: bt 58 [], [(80000, .pbox (σ 80000) [.sl (c1.1.map c5), Ti f6, .v (.int .u64 c1.2.2)])]⟩) ?_ ?_
  ·refine L0 rfl rfl (E_move (.pt 80000 0) rfl (by kernel_rfl)) ?_
   refine L0 rfl rfl (E_nil (.pt 80000 0) rfl (by kernel_rfl) (by intro hh; cases hh)) ?_
   refine L0 rfl rfl (E_field (.pt 80000 1) Try.underlying98 rfl sz3 rfl (by kernel_rfl) (by intro hh; cases hh)) ?_
   refine L0 rfl rfl (Y0_load1 (c := Ti c1.2.1) (cs := [.v (.int .u64 c1.2.2)]) sc3 rfl (by kernel_rfl)) ?_
   refine L0 rfl rfl (Y0_add64 (a := c1.2.1) (b := 1) rfl (by kernel_rfl) (by kernel_rfl)) ?_
   refine L0 rfl rfl (E_nil (.pt 80000 0) rfl (by kernel_rfl) (by intro hh; cases hh)) ?_
   refine L0 rfl rfl (E_field (.pt 80000 1) Try.underlying98 rfl sz3 rfl (by kernel_rfl) (by intro hh; cases hh)) ?_
   refine XL_cons rfl (E_storep (l := σ 80000) (id := 80000) (off := 1) (cs := [.sl (c1.1.map c5), Ti c1.2.1, .v (.int .u64 c1.2.2)]) (vc := [Ti (w64 (c1.2.1 + 1))]) [.sl (c1.1.map c5), Ti (w64 (c1.2.1 + 1)), .v (.int .u64 c1.2.2)] rfl rfl (by kernel_rfl) (by kernel_rfl) (by kernel_rfl) sz3 (Nat.le_of_ble_eq_true rfl) (by kernel_rfl)) ?_
   refine XL_nil ?_
   subst hf6
   kernel_rfl
  obtain ⟨f7, hf7, h⟩ := of_sI h
  refine V_sreg (mb 62 9) [80000] (s1 := ⟨.pt 80000 0 :: .bot :: .bot :: I j2 :: bt 58 [], [(80000, .pbox (σ 80000) [.sl (c1.1.map c5), Ti f6, .v (.int .u64 f7)])]⟩) ?_ ?_
  ·refine L0 rfl rfl (E_move (.pt 80000 0) rfl (by kernel_rfl)) ?_
   refine L0 rfl rfl (E_move (.pt 80000 0) rfl (by kernel_rfl)) ?_
   refine L0 rfl rfl (E_nil (.pt 80000 0) rfl (by kernel_rfl) (by intro hh; cases hh)) ?_
   refine L0 rfl rfl (E_field (.pt 80000 2) Try.underlying98 rfl sz96 rfl (by kernel_rfl) (by intro hh; cases hh)) ?_
   refine L0 rfl rfl (Y0_load1 (c := .v (.int .u64 c1.2.2)) (cs := []) sc96 rfl (by kernel_rfl)) ?_
   refine L0 rfl rfl (Y0_mul (k := .u64) (a := c1.2.2) (b := 6364136223846793005) rfl (by kernel_rfl) (by kernel_rfl)) ?_
   refine L0 rfl rfl (E_move (I j2) rfl (by kernel_rfl)) ?_
   refine L0 rfl rfl (Y0_conv (k2 := .i64) (a := j2) Try.underlying3 Try.underlying96 rfl (by kernel_rfl)) ?_
   refine L0 rfl rfl (Y0_add (k := .u64) (a := IntKind.u64.wrap (c1.2.2 * 6364136223846793005)) (b := IntKind.u64.wrap j2) rfl (by kernel_rfl) (by kernel_rfl)) ?_
   refine L0 rfl rfl (Y0_add (k := .u64) (a := IntKind.u64.wrap ((IntKind.u64.wrap (c1.2.2 * 6364136223846793005)) + (IntKind.u64.wrap j2))) (b := 1442695040888963407) rfl (by kernel_rfl) (by kernel_rfl)) ?_
   refine L0 rfl rfl (E_nil (.pt 80000 0) rfl (by kernel_rfl) (by intro hh; cases hh)) ?_
   refine L0 rfl rfl (E_field (.pt 80000 2) Try.underlying98 rfl sz96 rfl (by kernel_rfl) (by intro hh; cases hh)) ?_
   refine XL_cons rfl (E_storep (l := σ 80000) (id := 80000) (off := 2) (cs := [.sl (c1.1.map c5), Ti f6, .v (.int .u64 c1.2.2)]) (vc := [.v (.int .u64 (IntKind.u64.wrap ((IntKind.u64.wrap ((IntKind.u64.wrap (c1.2.2 * 6364136223846793005)) + (IntKind.u64.wrap j2))) + 1442695040888963407)))]) [.sl (c1.1.map c5), Ti f6, .v (.int .u64 (IntKind.u64.wrap ((IntKind.u64.wrap ((IntKind.u64.wrap (c1.2.2 * 6364136223846793005)) + (IntKind.u64.wrap j2))) + 1442695040888963407)))] rfl rfl (by kernel_rfl) (by kernel_rfl) (by kernel_rfl) sz96 (Nat.le_of_ble_eq_true rfl) (by kernel_rfl)) ?_
   refine XL_nil ?_
   subst hf7
   kernel_rfl
  refine V_seq ?_
  refine V_sdreg [0, 1, 3, 7, 0, 16, 48, 112, 240, 511] 10 [[.z, .z, .z, .z, .b, .b, .b, .b, .b, .z], [.a, .z, .z, .z, .b, .b, .b, .b, .b, .z], [.a, .a, .z, .z, .b, .b, .b, .b, .b, .z], [.a, .a, .a, .z, .b, .b, .b, .b, .b, .z], [.b, .b, .b, .b, .z, .z, .z, .z, .z, .z], [.b, .b, .b, .b, .a, .z, .z, .z, .z, .z], [.b, .b, .b, .b, .a, .a, .z, .z, .z, .z], [.b, .b, .b, .b, .a, .a, .a, .z, .z, .z], [.b, .b, .b, .b, .a, .a, .a, .a, .z, .z], [.a, .a, .a, .a, .a, .a, .a, .a, .a, .z]] (mb 62 9007199254741001) [80000] (s1 := ⟨.pt 80000 0 :: .bot :: .bot :: I j2 :: bt 49 (Bo (leI f6 ((c1.1.length : Int))) :: bt 8 []), [(80000, .pbox (σ 80000) [.sl (c1.1.map c5), Ti f6, .v (.int .u64 f7)])]⟩) (by kernel_rfl) (by kernel_rfl) ?_ ?_
  ·refine DE_0 0 (.pt 80000 0) (by kernel_rfl) rfl rfl rfl (gsat_none rfl) (by kernel_rfl) (E_move (.pt 80000 0) rfl (by kernel_rfl)) 44 rfl ?_
   refine DE_0 1 (.pt 80000 0) (by kernel_rfl) rfl rfl rfl (gsat_none rfl) (by kernel_rfl) (E_nil (.pt 80000 0) rfl (by kernel_rfl) (by intro hh; cases hh)) 45 rfl ?_
   refine DE_0 2 (.pt 80000 1) (by kernel_rfl) rfl rfl rfl (gsat_none rfl) (by kernel_rfl) (E_field (.pt 80000 1) Try.underlying98 rfl sz3 rfl (by kernel_rfl) (by intro hh; cases hh)) 46 rfl ?_
   refine DE_0 3 (I f6) (by kernel_rfl) rfl rfl rfl (gsat_none rfl) (by kernel_rfl) (Y0_load1 (c := Ti f6) (cs := [.v (.int .u64 f7)]) sc3 rfl (by kernel_rfl)) 47 rfl ?_
   refine DE_0 4 (.pt 80000 0) (by kernel_rfl) rfl rfl rfl (gsat_none rfl) (by kernel_rfl) (E_move (.pt 80000 0) rfl (by kernel_rfl)) 48 rfl ?_
   refine DE_0 5 (.pt 80000 0) (by kernel_rfl) rfl rfl rfl (gsat_none rfl) (by kernel_rfl) (E_nil (.pt 80000 0) rfl (by kernel_rfl) (by intro hh; cases hh)) 49 rfl ?_
   refine DE_0 6 (.pt 80000 0) (by kernel_rfl) rfl rfl rfl (gsat_none rfl) (by kernel_rfl) (E_field (.pt 80000 0) Try.underlying98 rfl sz22 rfl (by kernel_rfl) (by intro hh; cases hh)) 50 rfl ?_
   refine DE_0 7 (.c (.sl (c1.1.map c5))) (by kernel_rfl) rfl rfl rfl (gsat_none rfl) (by kernel_rfl) (Y0_load1 (c := .sl (c1.1.map c5)) (cs := [Ti f6, .v (.int .u64 f7)]) sc22 rfl (by kernel_rfl)) 51 rfl ?_
   refine DE_0 8 (I ((c1.1.length : Int))) (by kernel_rfl) rfl rfl rfl (gsat_none rfl) (by kernel_rfl) (Y0_lenM (c := c5) (xs := c1.1) Try.underlying22 rfl (by kernel_rfl)) 52 rfl ?_
   refine DE_0 9 (Bo (leI f6 ((c1.1.length : Int)))) (by kernel_rfl) rfl rfl rfl (gsat_none rfl) (by kernel_rfl) (Y0_lew (k := .i64) (a := f6) (b := (c1.1.length : Int)) rfl (by kernel_rfl) (by kernel_rfl)) 53 rfl ?_
   refine DL_nil (by kernel_rfl) ?_
   refine XL_nil ?_
   kernel_rfl
  refine V_cond rfl (fun hc8 => ?_) (fun hc8 => ?_)
  ·have h := of_true h hc8
   refine V_sreg (mb 62 4) [80000] (s1 := ⟨.bot :: .bot :: I j2 :: bt 59 [], [(80000, .pbox (σ 80000) [.sl (c1.1.map c5), Ti f6, .v (.int .u64 f7)])]⟩) ?_ ?_
   ·refine L0 rfl rfl (E_move (I j2) rfl (by kernel_rfl)) ?_
    refine L0 rfl rfl (E_assign (I j2) rfl (by kernel_rfl)) ?_
    refine XL_nil ?_
    kernel_rfl
   refine V_ret ?_
   obtain rfl := some_inj h
   show PostR _ _ _ _ _ _
   exact ⟨⟨.inr rfl, rfl, rfl, rfl⟩, ⟨rfl, trivial⟩⟩
  ·have h := of_false h hc8
   refine V_skip ?_
   show V _ _ _ _
   obtain ⟨t9, ht9, h⟩ := of_sI h
   refine V_sreg (mb 62 4) [80000] (s1 := ⟨.bot :: .bot :: I t9 :: bt 59 [], [(80000, .pbox (σ 80000) [.sl (c1.1.map c5), Ti f6, .v (.int .u64 f7)])]⟩) ?_ ?_
   ·refine L0 rfl rfl (E_move (.pt 80000 0) rfl (by kernel_rfl)) ?_
    refine L0 rfl rfl (E_nil (.pt 80000 0) rfl (by kernel_rfl) (by intro hh; cases hh)) ?_
    refine L0 rfl rfl (E_field (.pt 80000 2) Try.underlying98 rfl sz96 rfl (by kernel_rfl) (by intro hh; cases hh)) ?_
    refine L0 rfl rfl (Y0_load1 (c := .v (.int .u64 f7)) (cs := []) sc96 rfl (by kernel_rfl)) ?_
    refine L0 rfl rfl (Y0_shr (k := .u64) (k2 := .u64) (a := f7) (b := 40) rfl (by kernel_rfl) (by kernel_rfl) (by decide)) ?_
    refine L0 rfl rfl (Y0_and (k := .u64) (a := shrI .u64 f7 40) (b := 255) rfl (by kernel_rfl) (by kernel_rfl)) ?_
    refine L0 rfl rfl (Y0_conv (k2 := .u64) (a := andI .u64 (shrI .u64 f7 40) 255) Try.underlying96 Try.underlying3 rfl (by kernel_rfl)) ?_
    refine L0 rfl rfl (E_assign (I (IntKind.i64.wrap (andI .u64 (shrI .u64 f7 40) 255))) rfl (by kernel_rfl)) ?_
    refine XL_nil ?_
    subst ht9
    kernel_rfl
   refine V_ret ?_
   obtain rfl := some_inj h
   show PostR _ _ _ _ _ _
   exact ⟨⟨.inr rfl, rfl, rfl, rfl⟩, ⟨rfl, trivial⟩⟩
theorem cf_spec_l1Cur_pick : ∀ args w, (callFunc 116 args).run Try.prog w = .ok (.enter 116 args) w := run_callFunc Try.func116 (by kernel_rfl) (by kernel_rfl)
set_option maxRecDepth 100000 in
set_option maxHeartbeats 400000 in
theorem s_spec_l1Cur_pick {c1 : ((List Int) × Int × Int)} {vn2 : Int} {r : (Int × (((List Int) × Int × Int)))} (h : r_spec_l1Cur_pick c1 vn2 = some r) : CallR Try.prog 116 [.pt 80000 0, I vn2] [(80000, .box [.sl (c1.1.map c5), Ti c1.2.1, .v (.int .u64 c1.2.2)])] (I r.1) [] [(80000, .box [.sl (r.2.1.map c5), Ti r.2.2.1, .v (.int .u64 r.2.2.2)])] := by
  refine CallR_of_text (rs := [.t 4]) (vs := [.tmp 4]) Try.func116 rfl rfl (.cons rfl FitsL.nil) (by decide) 20 rfl rfl fun σ => ?_
  unfold r_spec_l1Cur_pick at h
  show V _ _ ⟨.pt 80000 0 :: I vn2 :: bt 18 [], [(80000, .pbox (σ 80000) [.sl (c1.1.map c5), Ti c1.2.1, .v (.int .u64 c1.2.2)])]⟩ _
  refine V_sreg (mb 20 3) [80000] (s1 := ⟨.pt 80000 0 :: I vn2 :: bt 18 [], [(80000, .pbox (σ 80000) [.sl (c1.1.map c5), Ti c1.2.1, .v (.int .u64 c1.2.2)])]⟩) ?_ ?_
  ·refine L0 rfl rfl (E_assign (I 0) rfl (by kernel_rfl)) ?_
   refine XL_nil ?_
   kernel_rfl
  refine V_seq ?_
  refine V_sreg (mb 20 131) [80000] (s1 := ⟨.pt 80000 0 :: I vn2 :: bt 5 (Bo (leI vn2 1) :: bt 12 []), [(80000, .pbox (σ 80000) [.sl (c1.1.map c5), Ti c1.2.1, .v (.int .u64 c1.2.2)])]⟩) ?_ ?_
  ·refine L0 rfl rfl (E_move (I vn2) rfl (by kernel_rfl)) ?_
   refine L0 rfl rfl (Y0_lew (k := .i64) (a := vn2) (b := 1) rfl (by kernel_rfl) (by kernel_rfl)) ?_
   refine XL_nil ?_
   kernel_rfl
  refine V_cond rfl (fun hc3 => ?_) (fun hc3 => ?_)
  ·have h := of_true h hc3
   refine V_sreg (mb 20 16) [80000] (s1 := ⟨bt 4 (I 0 :: bt 15 []), [(80000, .pbox (σ 80000) [.sl (c1.1.map c5), Ti c1.2.1, .v (.int .u64 c1.2.2)])]⟩) ?_ ?_
   ·refine L0 rfl rfl (E_assign (I 0) rfl (by kernel_rfl)) ?_
    refine XL_nil ?_
    kernel_rfl
   refine V_ret ?_
   obtain rfl := some_inj h
   show PostR _ _ _ _ _ _
   exact ⟨⟨.inr rfl, rfl, rfl, rfl⟩, ⟨rfl, trivial⟩⟩
  ·have h := of_false h hc3
   refine V_skip ?_
   show V _ _ _ _
   obtain ⟨y4, hy4, h⟩ := of_bind h
   refine V_sreg (mb 20 35) [80000] (s1 := ⟨.pt 80000 0 :: I vn2 :: bt 3 (I y4.1 :: bt 14 []), [(80000, .pbox (σ 80000) [.sl (y4.2.1.map c5), Ti y4.2.2.1, .v (.int .u64 y4.2.2.2)])]⟩) ?_ ?_
   ·refine L0 rfl rfl (E_move (.pt 80000 0) rfl (by kernel_rfl)) ?_
    refine XL_cons rfl (X_callR (E' := [(80000, .pbox (σ 80000) [.sl (y4.2.1.map c5), Ti y4.2.2.1, .v (.int .u64 y4.2.2.2)])]) [(80000, 80000)] 9 (s_spec_l1Cur_next hy4) cf_spec_l1Cur_next rfl rfl (by kernel_rfl) rfl (mE_cons (by kernel_rfl) mE_nil) rfl (by kernel_rfl) rfl rfl (by kernel_rfl)) ?_
    refine L0 rfl rfl (E_assign (I y4.1) rfl (by kernel_rfl)) ?_
    refine XL_nil ?_
    kernel_rfl
   refine V_seq ?_
   refine V_sreg (mb 20 2083) [80000] (s1 := ⟨.pt 80000 0 :: I vn2 :: bt 3 (I y4.1 :: bt 5 (Bo (ltI 200 vn2) :: bt 8 [])), [(80000, .pbox (σ 80000) [.sl (y4.2.1.map c5), Ti y4.2.2.1, .v (.int .u64 y4.2.2.2)])]⟩) ?_ ?_
   ·refine L0 rfl rfl (E_move (I vn2) rfl (by kernel_rfl)) ?_
    refine L0 rfl rfl (Y0_gtw (k := .i64) (a := vn2) (b := 200) rfl (by kernel_rfl) (by kernel_rfl)) ?_
    refine XL_nil ?_
    kernel_rfl
   refine V_cond rfl (fun hc5 => ?_) (fun hc5 => ?_)
   ·have h := of_true h hc5
    obtain ⟨y6, hy6, h⟩ := of_bind h
    obtain ⟨x7, hx7, h⟩ := of_sI h
    refine V_reg (mb 20 34) [80000] (s1 := ⟨.bot :: I vn2 :: bt 3 (I x7 :: bt 14 []), [(80000, .pbox (σ 80000) [.sl (y6.2.1.map c5), Ti y6.2.2.1, .v (.int .u64 y6.2.2.2)])]⟩) ?_ ?_
    ·refine L0 rfl rfl (E_move (I y4.1) rfl (by kernel_rfl)) ?_
     refine L0 rfl rfl (Y0_mul64 (a := y4.1) (b := 256) rfl (by kernel_rfl) (by kernel_rfl)) ?_
     refine L0 rfl rfl (E_move (.pt 80000 0) rfl (by kernel_rfl)) ?_
     refine XL_cons rfl (X_callR (E' := [(80000, .pbox (σ 80000) [.sl (y6.2.1.map c5), Ti y6.2.2.1, .v (.int .u64 y6.2.2.2)])]) [(80000, 80000)] 15 (s_spec_l1Cur_next hy6) cf_spec_l1Cur_next rfl rfl (by kernel_rfl) rfl (mE_cons (by kernel_rfl) mE_nil) rfl (by kernel_rfl) rfl rfl (by kernel_rfl)) ?_
     refine L0 rfl rfl (Y0_add64 (a := w64 (y4.1 * 256)) (b := y6.1) rfl (by kernel_rfl) (by kernel_rfl)) ?_
     refine L0 rfl rfl (E_assign (I (w64 ((w64 (y4.1 * 256)) + y6.1))) rfl (by kernel_rfl)) ?_
     refine XL_nil ?_
     subst hx7
     kernel_rfl
    show V _ _ _ _
    obtain ⟨z8, hz8, h⟩ := of_bind h
    obtain ⟨t9, ht9, h⟩ := of_sI h
    refine V_sreg (mb 20 16) [80000] (s1 := ⟨bt 4 (I t9 :: bt 15 []), [(80000, .pbox (σ 80000) [.sl (y6.2.1.map c5), Ti y6.2.2.1, .v (.int .u64 y6.2.2.2)])]⟩) ?_ ?_
    ·refine L0 rfl rfl (E_move (I x7) rfl (by kernel_rfl)) ?_
     refine L0 rfl rfl (E_move (I vn2) rfl (by kernel_rfl)) ?_
     refine L0 rfl rfl (Y0_rem (k := .i64) (a := x7) (b := vn2) rfl (by kernel_rfl) (by kernel_rfl) (nz_some hz8)) ?_
     refine L0 rfl rfl (E_assign (I (Int.tmod x7 vn2)) rfl (by kernel_rfl)) ?_
     refine XL_nil ?_
     subst ht9
     kernel_rfl
    refine V_ret ?_
    obtain rfl := some_inj h
    show PostR _ _ _ _ _ _
    exact ⟨⟨.inr rfl, rfl, rfl, rfl⟩, ⟨rfl, trivial⟩⟩
   ·have h := of_false h hc5
    refine V_skip ?_
    show V _ _ _ _
    obtain ⟨z10, hz10, h⟩ := of_bind h
    obtain ⟨t11, ht11, h⟩ := of_sI h
    refine V_sreg (mb 20 16) [80000] (s1 := ⟨bt 4 (I t11 :: bt 15 []), [(80000, .pbox (σ 80000) [.sl (y4.2.1.map c5), Ti y4.2.2.1, .v (.int .u64 y4.2.2.2)])]⟩) ?_ ?_
    ·refine L0 rfl rfl (E_move (I y4.1) rfl (by kernel_rfl)) ?_
     refine L0 rfl rfl (E_move (I vn2) rfl (by kernel_rfl)) ?_
     refine L0 rfl rfl (Y0_rem (k := .i64) (a := y4.1) (b := vn2) rfl (by kernel_rfl) (by kernel_rfl) (nz_some hz10)) ?_
     refine L0 rfl rfl (E_assign (I (Int.tmod y4.1 vn2)) rfl (by kernel_rfl)) ?_
     refine XL_nil ?_
     subst ht11
     kernel_rfl
    refine V_ret ?_
    obtain rfl := some_inj h
    show PostR _ _ _ _ _ _
    exact ⟨⟨.inr rfl, rfl, rfl, rfl⟩, ⟨rfl, trivial⟩⟩
theorem cf_spec_l1Cur_one : ∀ args w, (callFunc 118 args).run Try.prog w = .ok (.enter 118 args) w := run_callFunc Try.func118 (by kernel_rfl) (by kernel_rfl)
set_option maxRecDepth 100000 in
set_option maxHeartbeats 400000 in
theorem s_spec_l1Cur_one {c1 : ((List Int) × Int × Int)} {vn2 : Int} {r : (Bool × (((List Int) × Int × Int)))} (h : r_spec_l1Cur_one c1 vn2 = some r) : CallR Try.prog 118 [.pt 80000 0, I vn2] [(80000, .box [.sl (c1.1.map c5), Ti c1.2.1, .v (.int .u64 c1.2.2)])] (Bo r.1) [] [(80000, .box [.sl (r.2.1.map c5), Ti r.2.2.1, .v (.int .u64 r.2.2.2)])] := by
  refine CallR_of_text (rs := [.t 4]) (vs := [.tmp 4]) Try.func118 rfl rfl (.cons rfl FitsL.nil) (by decide) 9 rfl rfl fun σ => ?_
  unfold r_spec_l1Cur_one at h
  show V _ _ ⟨.pt 80000 0 :: I vn2 :: bt 7 [], [(80000, .pbox (σ 80000) [.sl (c1.1.map c5), Ti c1.2.1, .v (.int .u64 c1.2.2)])]⟩ _
  refine V_sreg (mb 9 3) [80000] (s1 := ⟨.pt 80000 0 :: I vn2 :: bt 7 [], [(80000, .pbox (σ 80000) [.sl (c1.1.map c5), Ti c1.2.1, .v (.int .u64 c1.2.2)])]⟩) ?_ ?_
  ·refine L0 rfl rfl (E_assign (Bo false) rfl (by kernel_rfl)) ?_
   refine XL_nil ?_
   kernel_rfl
  obtain ⟨y3, hy3, h⟩ := of_bind h
  refine V_sreg (mb 9 16) [80000] (s1 := ⟨bt 4 (Bo (eqI y3.1 0) :: bt 4 []), [(80000, .pbox (σ 80000) [.sl (y3.2.1.map c5), Ti y3.2.2.1, .v (.int .u64 y3.2.2.2)])]⟩) ?_ ?_
  ·refine L0 rfl rfl (E_move (.pt 80000 0) rfl (by kernel_rfl)) ?_
   refine L0 rfl rfl (E_move (I vn2) rfl (by kernel_rfl)) ?_
   refine XL_cons rfl (X_callR (E' := [(80000, .pbox (σ 80000) [.sl (y3.2.1.map c5), Ti y3.2.2.1, .v (.int .u64 y3.2.2.2)])]) [(80000, 80000)] 7 (s_spec_l1Cur_pick hy3) cf_spec_l1Cur_pick rfl rfl (by kernel_rfl) rfl (mE_cons (by kernel_rfl) mE_nil) rfl (by kernel_rfl) rfl rfl (by kernel_rfl)) ?_
   refine L0 rfl rfl (Y0_eqw (k := .i64) (a := y3.1) (b := 0) rfl (by kernel_rfl) (by kernel_rfl)) ?_
   refine L0 rfl rfl (E_assign (Bo (eqI y3.1 0)) rfl (by kernel_rfl)) ?_
   refine XL_nil ?_
   kernel_rfl
  refine V_ret ?_
  obtain rfl := some_inj h
  show PostR _ _ _ _ _ _
  exact ⟨⟨.inr rfl, rfl, rfl, rfl⟩, ⟨rfl, trivial⟩⟩
theorem cf_spec_l1Cur_among : ∀ args w, (callFunc 115 args).run Try.prog w = .ok (.enter 115 args) w := run_callFunc Try.func115 (by kernel_rfl) (by kernel_rfl)
set_option maxRecDepth 100000 in
set_option maxHeartbeats 400000 in
theorem s_spec_l1Cur_among {c1 : ((List Int) × Int × Int)} {list2 : List Int} {r : (Int × (((List Int) × Int × Int)))} (h : r_spec_l1Cur_among c1 list2 = some r) : CallR Try.prog 115 [.pt 80000 0, .c (.sl (list2.map c3))] [(80000, .box [.sl (c1.1.map c5), Ti c1.2.1, .v (.int .u64 c1.2.2)])] (I r.1) [] [(80000, .box [.sl (r.2.1.map c5), Ti r.2.2.1, .v (.int .u64 r.2.2.2)])] := by
  refine CallR_of_text (rs := [.t 4]) (vs := [.tmp 4]) Try.func115 rfl rfl (.cons rfl FitsL.nil) (by decide) 12 rfl rfl fun σ => ?_
  unfold r_spec_l1Cur_among at h
  show V _ _ ⟨.pt 80000 0 :: .c (.sl (list2.map c3)) :: bt 10 [], [(80000, .pbox (σ 80000) [.sl (c1.1.map c5), Ti c1.2.1, .v (.int .u64 c1.2.2)])]⟩ _
  refine V_sreg (mb 12 3) [80000] (s1 := ⟨.pt 80000 0 :: .c (.sl (list2.map c3)) :: bt 10 [], [(80000, .pbox (σ 80000) [.sl (c1.1.map c5), Ti c1.2.1, .v (.int .u64 c1.2.2)])]⟩) ?_ ?_
  ·refine L0 rfl rfl (E_assign (I 0) rfl (by kernel_rfl)) ?_
   refine XL_nil ?_
   kernel_rfl
  obtain ⟨y3, hy3, h⟩ := of_bind h
  obtain ⟨e4, he4, h⟩ := of_bind h
  refine V_sreg (mb 12 16) [80000] (s1 := ⟨bt 4 (I e4 :: bt 7 []), [(80000, .pbox (σ 80000) [.sl (y3.2.1.map c5), Ti y3.2.2.1, .v (.int .u64 y3.2.2.2)])]⟩) ?_ ?_
  ·refine L0 rfl rfl (E_move (.c (.sl (list2.map c3))) rfl (by kernel_rfl)) ?_
   refine L0 rfl rfl (E_move (.pt 80000 0) rfl (by kernel_rfl)) ?_
   refine L0 rfl rfl (E_move (.c (.sl (list2.map c3))) rfl (by kernel_rfl)) ?_
   refine L0 rfl rfl (Y0_lenM (c := c3) (xs := list2) Try.underlying41 rfl (by kernel_rfl)) ?_
   refine XL_cons rfl (X_callR (E' := [(80000, .pbox (σ 80000) [.sl (y3.2.1.map c5), Ti y3.2.2.1, .v (.int .u64 y3.2.2.2)])]) [(80000, 80000)] 9 (s_spec_l1Cur_pick hy3) cf_spec_l1Cur_pick rfl rfl (by kernel_rfl) rfl (mE_cons (by kernel_rfl) mE_nil) rfl (by kernel_rfl) rfl rfl (by kernel_rfl)) ?_
   refine L0 rfl rfl (Y0_idxM (c := c3) (xs := list2) (v := e4) (n := y3.1) Try.underlying41 sz3 rfl (by kernel_rfl) (by kernel_rfl) he4) ?_
   refine L0 rfl rfl (Y0_load1 (c := Ti e4) (cs := []) sc3 rfl (by kernel_rfl)) ?_
   refine L0 rfl rfl (E_assign (I e4) rfl (by kernel_rfl)) ?_
   refine XL_nil ?_
   kernel_rfl
  refine V_ret ?_
  obtain rfl := some_inj h
  show PostR _ _ _ _ _ _
  exact ⟨⟨.inr rfl, rfl, rfl, rfl⟩, ⟨rfl, trivial⟩⟩
theorem cf_spec_l1Cur_number : ∀ args w, (callFunc 136 args).run Try.prog w = .ok (.enter 136 args) w := run_callFunc Try.func136 (by kernel_rfl) (by kernel_rfl)
set_option maxRecDepth 100000 in
set_option maxHeartbeats 400000 in
theorem s_spec_l1Cur_number {c1 : ((List Int) × Int × Int)} {r : (Int × (((List Int) × Int × Int)))} (h : r_spec_l1Cur_number c1 = some r) : CallR Try.prog 136 [.pt 80000 0] [(80000, .box [.sl (c1.1.map c5), Ti c1.2.1, .v (.int .u64 c1.2.2)])] (I r.1) [] [(80000, .box [.sl (r.2.1.map c5), Ti r.2.2.1, .v (.int .u64 r.2.2.2)])] := by
  refine CallR_of_text (rs := [.t 2]) (vs := [.tmp 2]) Try.func136 rfl rfl (.cons rfl FitsL.nil) (by decide) 32 rfl rfl fun σ => ?_
  unfold r_spec_l1Cur_number at h
  show V _ _ ⟨.pt 80000 0 :: bt 31 [], [(80000, .pbox (σ 80000) [.sl (c1.1.map c5), Ti c1.2.1, .v (.int .u64 c1.2.2)])]⟩ _
  refine V_sreg (mb 32 1) [80000] (s1 := ⟨.pt 80000 0 :: bt 31 [], [(80000, .pbox (σ 80000) [.sl (c1.1.map c5), Ti c1.2.1, .v (.int .u64 c1.2.2)])]⟩) ?_ ?_
  ·refine L0 rfl rfl (E_assign (I 0) rfl (by kernel_rfl)) ?_
   refine XL_nil ?_
   kernel_rfl
  refine V_seq ?_
  obtain ⟨y2, hy2, h⟩ := of_bind h
  refine V_sreg (mb 32 17) [80000] (s1 := ⟨.pt 80000 0 :: bt 3 (I y2.1 :: bt 27 []), [(80000, .pbox (σ 80000) [.sl (y2.2.1.map c5), Ti y2.2.2.1, .v (.int .u64 y2.2.2.2)])]⟩) ?_ ?_
  ·refine L0 rfl rfl (E_move (.pt 80000 0) rfl (by kernel_rfl)) ?_
   refine XL_cons rfl (X_callR (E' := [(80000, .pbox (σ 80000) [.sl (y2.2.1.map c5), Ti y2.2.2.1, .v (.int .u64 y2.2.2.2)])]) [(80000, 80000)] 4 (s_spec_l1Cur_pick hy2) cf_spec_l1Cur_pick rfl rfl (by kernel_rfl) rfl (mE_cons (by kernel_rfl) mE_nil) rfl (by kernel_rfl) rfl rfl (by kernel_rfl)) ?_
   refine XL_nil ?_
   kernel_rfl
  refine V_block ?_
  refine V_sreg (mb 32 49) [80000] (s1 := ⟨.pt 80000 0 :: bt 3 (I y2.1 :: Bo (eqI y2.1 0) :: bt 26 []), [(80000, .pbox (σ 80000) [.sl (y2.2.1.map c5), Ti y2.2.2.1, .v (.int .u64 y2.2.2.2)])]⟩) ?_ ?_
  ·refine L0 rfl rfl (Y0_eqw (k := .i64) (a := y2.1) (b := 0) rfl (by kernel_rfl) (by kernel_rfl)) ?_
   refine L0 rfl rfl (E_assign (Bo (eqI y2.1 0)) rfl (by kernel_rfl)) ?_
   refine XL_nil ?_
   kernel_rfl
  refine V_cond rfl (fun hc3 => ?_) (fun hc3 => ?_)
  ·have h := of_true h hc3
   obtain ⟨y4, hy4, h⟩ := of_bind h
   refine V_sreg (mb 32 4) [80000] (s1 := ⟨.bot :: .bot :: I y4.1 :: bt 29 [], [(80000, .pbox (σ 80000) [.sl (y4.2.1.map c5), Ti y4.2.2.1, .v (.int .u64 y4.2.2.2)])]⟩) ?_ ?_
   ·refine L0 rfl rfl (E_move (.pt 80000 0) rfl (by kernel_rfl)) ?_
    refine L1 rfl rfl (Y1_bslice (z := zv3) (els := [0, 1, -1, 1000000, -1000000, 1000001, -1000001, -9223372036854775808, 9223372036854775807, 999983, 999999, 1000].map c3) Try.underlying41 iz3 rfl (by decide) rfl (by kernel_rfl) rfl (by simp [c3]) (by decide) (by decide)) ?_
    refine XL_freeze 64 (T := 3) (sz := 1) (els := ([0, 1, -1, 1000000, -1000000, 1000001, -1000001, -9223372036854775808, 9223372036854775807, 999983, 999999, 1000]).map c3) (s1 := ⟨.pt 80000 0 :: bt 3 (I y2.1 :: Bo (eqI y2.1 0) :: .bot :: .pt 80000 0 :: .c (.sl (([0, 1, -1, 1000000, -1000000, 1000001, -1000001, -9223372036854775808, 9223372036854775807, 999983, 999999, 1000]).map c3)) :: bt 23 []), [(80000, .pbox (σ 80000) [.sl (y2.2.1.map c5), Ti y2.2.2.1, .v (.int .u64 y2.2.2.2)])]⟩) (by kernel_rfl) (by kernel_rfl) ?_
    refine XL_cons rfl (X_callR (E' := [(80000, .pbox (σ 80000) [.sl (y4.2.1.map c5), Ti y4.2.2.1, .v (.int .u64 y4.2.2.2)])]) [(80000, 80000)] 9 (s_spec_l1Cur_among hy4) cf_spec_l1Cur_among rfl rfl (by kernel_rfl) rfl (mE_cons (by kernel_rfl) mE_nil) rfl (by kernel_rfl) rfl rfl (by kernel_rfl)) ?_
    refine L0 rfl rfl (E_assign (I y4.1) rfl (by kernel_rfl)) ?_
    refine XL_nil ?_
    kernel_rfl
   refine V_ret ?_
   obtain rfl := some_inj h
   show PostR _ _ _ _ _ _
   exact ⟨⟨.inr rfl, rfl, rfl, rfl⟩, ⟨rfl, trivial⟩⟩
  ·have h := of_false h hc3
   obtain ⟨j5, hj5, h⟩ := of_bind h
   refine V_cutK (mb 32 1041) [80000] (s1 := ⟨.pt 80000 0 :: bt 3 (I y2.1 :: bt 5 (Bo j5 :: bt 21 [])), [(80000, .pbox (σ 80000) [.sl (y2.2.1.map c5), Ti y2.2.2.1, .v (.int .u64 y2.2.2.2)])]⟩) ?_ ?_
   ·clear h
    have h := hj5
    clear hj5
    refine V_sreg (mb 32 1041) [80000] (s1 := ⟨.pt 80000 0 :: bt 3 (I y2.1 :: bt 5 (Bo (eqI y2.1 1) :: bt 21 [])), [(80000, .pbox (σ 80000) [.sl (y2.2.1.map c5), Ti y2.2.2.1, .v (.int .u64 y2.2.2.2)])]⟩) ?_ ?_
    ·refine L0 rfl rfl (Y0_eqw (k := .i64) (a := y2.1) (b := 1) rfl (by kernel_rfl) (by kernel_rfl)) ?_
     refine L0 rfl rfl (E_assign (Bo (eqI y2.1 1)) rfl (by kernel_rfl)) ?_
     refine XL_nil ?_
     kernel_rfl
    refine V_cond rfl (fun hc6 => ?_) (fun hc6 => ?_)
    ·have h := of_true h hc6
     refine V_skip ?_
     obtain rfl := some_inj h
     show St.keep _ _ _ = _
     rfl
    ·have h := of_false h hc6
     refine V_reg (mb 32 1041) [80000] (s1 := ⟨.pt 80000 0 :: bt 3 (I y2.1 :: bt 5 (Bo (eqI y2.1 2) :: bt 21 [])), [(80000, .pbox (σ 80000) [.sl (y2.2.1.map c5), Ti y2.2.2.1, .v (.int .u64 y2.2.2.2)])]⟩) ?_ ?_
     ·refine L0 rfl rfl (Y0_eqw (k := .i64) (a := y2.1) (b := 2) rfl (by kernel_rfl) (by kernel_rfl)) ?_
      refine L0 rfl rfl (E_assign (Bo (eqI y2.1 2)) rfl (by kernel_rfl)) ?_
      refine XL_nil ?_
      kernel_rfl
     obtain rfl := some_inj h
     show St.keep _ _ _ = _
     rfl
   refine V_cond rfl (fun hc7 => ?_) (fun hc7 => ?_)
   ·have h := of_true h hc7
    obtain ⟨y8, hy8, h⟩ := of_bind h
    obtain ⟨y9, hy9, h⟩ := of_bind h
    obtain ⟨y10, hy10, h⟩ := of_bind h
    obtain ⟨t11, ht11, h⟩ := of_sI h
    refine V_sreg (mb 32 4) [80000] (s1 := ⟨.bot :: .bot :: I t11 :: bt 29 [], [(80000, .pbox (σ 80000) [.sl (y10.2.1.map c5), Ti y10.2.2.1, .v (.int .u64 y10.2.2.2)])]⟩) ?_ ?_
    ·refine L0 rfl rfl (E_move (.pt 80000 0) rfl (by kernel_rfl)) ?_
     refine XL_cons rfl (X_callR (E' := [(80000, .pbox (σ 80000) [.sl (y8.2.1.map c5), Ti y8.2.2.1, .v (.int .u64 y8.2.2.2)])]) [(80000, 80000)] 14 (s_spec_l1Cur_pick hy8) cf_spec_l1Cur_pick rfl rfl (by kernel_rfl) rfl (mE_cons (by kernel_rfl) mE_nil) rfl (by kernel_rfl) rfl rfl (by kernel_rfl)) ?_
     refine L0 rfl rfl (E_move (.pt 80000 0) rfl (by kernel_rfl)) ?_
     refine XL_cons rfl (X_callR (E' := [(80000, .pbox (σ 80000) [.sl (y9.2.1.map c5), Ti y9.2.2.1, .v (.int .u64 y9.2.2.2)])]) [(80000, 80000)] 16 (s_spec_l1Cur_pick hy9) cf_spec_l1Cur_pick rfl rfl (by kernel_rfl) rfl (mE_cons (by kernel_rfl) mE_nil) rfl (by kernel_rfl) rfl rfl (by kernel_rfl)) ?_
     refine L0 rfl rfl (Y0_add64 (a := 1) (b := y9.1) rfl (by kernel_rfl) (by kernel_rfl)) ?_
     refine L0 rfl rfl (Y0_mul64 (a := y8.1) (b := w64 (1 + y9.1)) rfl (by kernel_rfl) (by kernel_rfl)) ?_
     refine L0 rfl rfl (E_move (.pt 80000 0) rfl (by kernel_rfl)) ?_
     refine XL_cons rfl (X_callR (E' := [(80000, .pbox (σ 80000) [.sl (y10.2.1.map c5), Ti y10.2.2.1, .v (.int .u64 y10.2.2.2)])]) [(80000, 80000)] 20 (s_spec_l1Cur_pick hy10) cf_spec_l1Cur_pick rfl rfl (by kernel_rfl) rfl (mE_cons (by kernel_rfl) mE_nil) rfl (by kernel_rfl) rfl rfl (by kernel_rfl)) ?_
     refine L0 rfl rfl (Y0_mul64 (a := 2) (b := y10.1) rfl (by kernel_rfl) (by kernel_rfl)) ?_
     refine L0 rfl rfl (Y0_sub64 (a := 1) (b := w64 (2 * y10.1)) rfl (by kernel_rfl) (by kernel_rfl)) ?_
     refine L0 rfl rfl (Y0_mul64 (a := w64 (y8.1 * (w64 (1 + y9.1)))) (b := w64 (1 - (w64 (2 * y10.1)))) rfl (by kernel_rfl) (by kernel_rfl)) ?_
     refine L0 rfl rfl (E_assign (I (w64 ((w64 (y8.1 * (w64 (1 + y9.1)))) * (w64 (1 - (w64 (2 * y10.1))))))) rfl (by kernel_rfl)) ?_
     refine XL_nil ?_
     subst ht11
     kernel_rfl
    refine V_ret ?_
    obtain rfl := some_inj h
    show PostR _ _ _ _ _ _
    exact ⟨⟨.inr rfl, rfl, rfl, rfl⟩, ⟨rfl, trivial⟩⟩
   ·have h := of_false h hc7
    obtain ⟨j12, hj12, h⟩ := of_bind h
    refine V_cutK (mb 32 16777217) [80000] (s1 := ⟨.pt 80000 0 :: bt 23 (Bo j12 :: bt 7 []), [(80000, .pbox (σ 80000) [.sl (y2.2.1.map c5), Ti y2.2.2.1, .v (.int .u64 y2.2.2.2)])]⟩) ?_ ?_
    ·clear h
     have h := hj12
     clear hj12
     refine V_sreg (mb 32 16777233) [80000] (s1 := ⟨.pt 80000 0 :: bt 3 (I y2.1 :: bt 19 (Bo (eqI y2.1 3) :: bt 7 [])), [(80000, .pbox (σ 80000) [.sl (y2.2.1.map c5), Ti y2.2.2.1, .v (.int .u64 y2.2.2.2)])]⟩) ?_ ?_
     ·refine L0 rfl rfl (Y0_eqw (k := .i64) (a := y2.1) (b := 3) rfl (by kernel_rfl) (by kernel_rfl)) ?_
      refine L0 rfl rfl (E_assign (Bo (eqI y2.1 3)) rfl (by kernel_rfl)) ?_
      refine XL_nil ?_
      kernel_rfl
     refine V_cond rfl (fun hc13 => ?_) (fun hc13 => ?_)
     ·have h := of_true h hc13
      refine V_skip ?_
      obtain rfl := some_inj h
      show St.keep _ _ _ = _
      rfl
     ·have h := of_false h hc13
      refine V_reg (mb 32 16777217) [80000] (s1 := ⟨.pt 80000 0 :: bt 23 (Bo (eqI y2.1 4) :: bt 7 []), [(80000, .pbox (σ 80000) [.sl (y2.2.1.map c5), Ti y2.2.2.1, .v (.int .u64 y2.2.2.2)])]⟩) ?_ ?_
      ·refine L0 rfl rfl (Y0_eqw (k := .i64) (a := y2.1) (b := 4) rfl (by kernel_rfl) (by kernel_rfl)) ?_
       refine L0 rfl rfl (E_assign (Bo (eqI y2.1 4)) rfl (by kernel_rfl)) ?_
       refine XL_nil ?_
       kernel_rfl
      obtain rfl := some_inj h
      show St.keep _ _ _ = _
      rfl
    refine V_cond rfl (fun hc14 => ?_) (fun hc14 => ?_)
    ·have h := of_true h hc14
     obtain ⟨y15, hy15, h⟩ := of_bind h
     refine V_sreg (mb 32 4) [80000] (s1 := ⟨.bot :: .bot :: I y15.1 :: bt 29 [], [(80000, .pbox (σ 80000) [.sl (y15.2.1.map c5), Ti y15.2.2.1, .v (.int .u64 y15.2.2.2)])]⟩) ?_ ?_
     ·refine L0 rfl rfl (E_move (.pt 80000 0) rfl (by kernel_rfl)) ?_
      refine XL_cons rfl (X_callR (E' := [(80000, .pbox (σ 80000) [.sl (y15.2.1.map c5), Ti y15.2.2.1, .v (.int .u64 y15.2.2.2)])]) [(80000, 80000)] 28 (s_spec_l1Cur_pick hy15) cf_spec_l1Cur_pick rfl rfl (by kernel_rfl) rfl (mE_cons (by kernel_rfl) mE_nil) rfl (by kernel_rfl) rfl rfl (by kernel_rfl)) ?_
      refine L0 rfl rfl (E_assign (I y15.1) rfl (by kernel_rfl)) ?_
      refine XL_nil ?_
      kernel_rfl
     refine V_ret ?_
     obtain rfl := some_inj h
     show PostR _ _ _ _ _ _
     exact ⟨⟨.inr rfl, rfl, rfl, rfl⟩, ⟨rfl, trivial⟩⟩
    ·have h := of_false h hc14
     refine V_skip ?_
     show V _ _ _ _
     obtain ⟨y16, hy16, h⟩ := of_bind h
     obtain ⟨t17, ht17, h⟩ := of_sI h
     refine V_sreg (mb 32 4) [80000] (s1 := ⟨.bot :: .bot :: I t17 :: bt 29 [], [(80000, .pbox (σ 80000) [.sl (y16.2.1.map c5), Ti y16.2.2.1, .v (.int .u64 y16.2.2.2)])]⟩) ?_ ?_
     ·refine L0 rfl rfl (E_move (.pt 80000 0) rfl (by kernel_rfl)) ?_
      refine XL_cons rfl (X_callR (E' := [(80000, .pbox (σ 80000) [.sl (y16.2.1.map c5), Ti y16.2.2.1, .v (.int .u64 y16.2.2.2)])]) [(80000, 80000)] 30 (s_spec_l1Cur_pick hy16) cf_spec_l1Cur_pick rfl rfl (by kernel_rfl) rfl (mE_cons (by kernel_rfl) mE_nil) rfl (by kernel_rfl) rfl rfl (by kernel_rfl)) ?_
      refine L0 rfl rfl (Y0_sub64 (a := y16.1) (b := 40) rfl (by kernel_rfl) (by kernel_rfl)) ?_
      refine L0 rfl rfl (E_assign (I (w64 (y16.1 - 40))) rfl (by kernel_rfl)) ?_
      refine XL_nil ?_
      subst ht17
      kernel_rfl
     refine V_ret ?_
     obtain rfl := some_inj h
     show PostR _ _ _ _ _ _
     exact ⟨⟨.inr rfl, rfl, rfl, rfl⟩, ⟨rfl, trivial⟩⟩
theorem cf_spec_nuMod : ∀ args w, (callFunc 63 args).run Try.prog w = .ok (.enter 63 args) w := run_callFunc Try.func63 (by kernel_rfl) (by kernel_rfl)
set_option maxRecDepth 100000 in
set_option maxHeartbeats 400000 in
theorem s_spec_nuMod {a1 : Int} {vm2 : Int} {r : Int} (h : r_spec_nuMod a1 vm2 = some r) : CallS Try.prog 63 [I a1, I vm2] (I r) [] := by
  refine CallS_of_text (rs := [.t 4]) (vs := [.tmp 4]) Try.func63 rfl rfl (.cons rfl FitsL.nil) (by decide) 15 rfl ?_
  unfold r_spec_nuMod at h
  show V _ _ ⟨I a1 :: I vm2 :: bt 13 [], []⟩ _
  refine V_sreg (mb 15 3) [] (s1 := ⟨I a1 :: I vm2 :: bt 13 [], []⟩) ?_ ?_
  ·refine L0 rfl rfl (E_assign (I 0) rfl (by kernel_rfl)) ?_
   refine XL_nil ?_
   kernel_rfl
  obtain ⟨z3, hz3, h⟩ := of_bind h
  obtain ⟨vr4, hvr4, h⟩ := of_sI h
  refine V_sreg (mb 15 34) [] (s1 := ⟨.bot :: I vm2 :: bt 3 (I vr4 :: bt 9 []), []⟩) ?_ ?_
  ·refine L0 rfl rfl (E_move (I a1) rfl (by kernel_rfl)) ?_
   refine L0 rfl rfl (E_move (I vm2) rfl (by kernel_rfl)) ?_
   refine L0 rfl rfl (Y0_rem (k := .i64) (a := a1) (b := vm2) rfl (by kernel_rfl) (by kernel_rfl) (nz_some hz3)) ?_
   refine L0 rfl rfl (E_assign (I (Int.tmod a1 vm2)) rfl (by kernel_rfl)) ?_
   refine XL_nil ?_
   subst hvr4
   kernel_rfl
  refine V_seq ?_
  refine V_sreg (mb 15 1058) [] (s1 := ⟨.bot :: I vm2 :: bt 3 (I vr4 :: bt 4 (Bo (ltI vr4 0) :: bt 4 [])), []⟩) ?_ ?_
  ·refine L0 rfl rfl (E_move (I vr4) rfl (by kernel_rfl)) ?_
   refine L0 rfl rfl (Y0_ltw (k := .i64) (a := vr4) (b := 0) rfl (by kernel_rfl) (by kernel_rfl)) ?_
   refine XL_nil ?_
   kernel_rfl
  refine V_cond rfl (fun hc5 => ?_) (fun hc5 => ?_)
  ·have h := of_true h hc5
   obtain ⟨vr6, hvr6, h⟩ := of_sI h
   refine V_reg (mb 15 32) [] (s1 := ⟨bt 5 (I vr6 :: bt 9 []), []⟩) ?_ ?_
   ·refine L0 rfl rfl (E_move (I vr4) rfl (by kernel_rfl)) ?_
    refine L0 rfl rfl (E_move (I vm2) rfl (by kernel_rfl)) ?_
    refine L0 rfl rfl (Y0_add64 (a := vr4) (b := vm2) rfl (by kernel_rfl) (by kernel_rfl)) ?_
    refine L0 rfl rfl (E_assign (I (w64 (vr4 + vm2))) rfl (by kernel_rfl)) ?_
    refine XL_nil ?_
    subst hvr6
    kernel_rfl
   show V _ _ _ _
   refine V_sreg (mb 15 16) [] (s1 := ⟨bt 4 (I vr6 :: bt 10 []), []⟩) ?_ ?_
   ·refine L0 rfl rfl (E_move (I vr6) rfl (by kernel_rfl)) ?_
    refine L0 rfl rfl (E_assign (I vr6) rfl (by kernel_rfl)) ?_
    refine XL_nil ?_
    kernel_rfl
   refine V_ret ?_
   obtain rfl := some_inj h
   show Post _ _ _ _ _
   exact ⟨.inr rfl, rfl, rfl, rfl⟩
  ·have h := of_false h hc5
   refine V_skip ?_
   show V _ _ _ _
   refine V_sreg (mb 15 16) [] (s1 := ⟨bt 4 (I vr4 :: bt 10 []), []⟩) ?_ ?_
   ·refine L0 rfl rfl (E_move (I vr4) rfl (by kernel_rfl)) ?_
    refine L0 rfl rfl (E_assign (I vr4) rfl (by kernel_rfl)) ?_
    refine XL_nil ?_
    kernel_rfl
   refine V_ret ?_
   obtain rfl := some_inj h
   show Post _ _ _ _ _
   exact ⟨.inr rfl, rfl, rfl, rfl⟩
theorem cf_spec_l1Most : ∀ args w, (callFunc 185 args).run Try.prog w = .ok (.enter 185 args) w := run_callFunc Try.func185 (by kernel_rfl) (by kernel_rfl)
set_option maxRecDepth 100000 in
set_option maxHeartbeats 400000 in
theorem s_spec_l1Most {a1 : Int} {b2 : Int} {r : Int} (h : r_spec_l1Most a1 b2 = some r) : CallS Try.prog 185 [I a1, I b2] (I r) [] := by
  refine CallS_of_text (rs := [.t 4]) (vs := [.tmp 4]) Try.func185 rfl rfl (.cons rfl FitsL.nil) (by decide) 10 rfl ?_
  unfold r_spec_l1Most at h
  show V _ _ ⟨I a1 :: I b2 :: bt 8 [], []⟩ _
  refine V_sreg (mb 10 3) [] (s1 := ⟨I a1 :: I b2 :: bt 8 [], []⟩) ?_ ?_
  ·refine L0 rfl rfl (E_assign (I 0) rfl (by kernel_rfl)) ?_
   refine XL_nil ?_
   kernel_rfl
  refine V_seq ?_
  refine V_sreg (mb 10 131) [] (s1 := ⟨I a1 :: I b2 :: bt 5 (Bo (ltI b2 a1) :: .bot :: .bot :: []), []⟩) ?_ ?_
  ·refine L0 rfl rfl (E_move (I a1) rfl (by kernel_rfl)) ?_
   refine L0 rfl rfl (E_move (I b2) rfl (by kernel_rfl)) ?_
   refine L0 rfl rfl (Y0_gtw (k := .i64) (a := a1) (b := b2) rfl (by kernel_rfl) (by kernel_rfl)) ?_
   refine XL_nil ?_
   kernel_rfl
  refine V_cond rfl (fun hc3 => ?_) (fun hc3 => ?_)
  ·have h := of_true h hc3
   refine V_sreg (mb 10 16) [] (s1 := ⟨bt 4 (I a1 :: bt 5 []), []⟩) ?_ ?_
   ·refine L0 rfl rfl (E_move (I a1) rfl (by kernel_rfl)) ?_
    refine L0 rfl rfl (E_assign (I a1) rfl (by kernel_rfl)) ?_
    refine XL_nil ?_
    kernel_rfl
   refine V_ret ?_
   obtain rfl := some_inj h
   show Post _ _ _ _ _
   exact ⟨.inr rfl, rfl, rfl, rfl⟩
  ·have h := of_false h hc3
   refine V_skip ?_
   show V _ _ _ _
   refine V_sreg (mb 10 16) [] (s1 := ⟨bt 4 (I b2 :: bt 5 []), []⟩) ?_ ?_
   ·refine L0 rfl rfl (E_move (I b2) rfl (by kernel_rfl)) ?_
    refine L0 rfl rfl (E_assign (I b2) rfl (by kernel_rfl)) ?_
    refine XL_nil ?_
    kernel_rfl
   refine V_ret ?_
   obtain rfl := some_inj h
   show Post _ _ _ _ _
   exact ⟨.inr rfl, rfl, rfl, rfl⟩
theorem cf_spec_l1Cur_disc : ∀ args w, (callFunc 157 args).run Try.prog w = .ok (.enter 157 args) w := run_callFunc Try.func157 (by kernel_rfl) (by kernel_rfl)
set_option maxRecDepth 100000 in
set_option maxHeartbeats 400000 in
theorem s_spec_l1Cur_disc {c1 : ((List Int) × Int × Int)} {r : (Int × (((List Int) × Int × Int)))} (h : r_spec_l1Cur_disc c1 = some r) : CallR Try.prog 157 [.pt 80000 0] [(80000, .box [.sl (c1.1.map c5), Ti c1.2.1, .v (.int .u64 c1.2.2)])] (I r.1) [] [(80000, .box [.sl (r.2.1.map c5), Ti r.2.2.1, .v (.int .u64 r.2.2.2)])] := by
  refine CallR_of_text (rs := [.t 2]) (vs := [.tmp 2]) Try.func157 rfl rfl (.cons rfl FitsL.nil) (by decide) 42 rfl rfl fun σ => ?_
  unfold r_spec_l1Cur_disc at h
  show V _ _ ⟨.pt 80000 0 :: bt 41 [], [(80000, .pbox (σ 80000) [.sl (c1.1.map c5), Ti c1.2.1, .v (.int .u64 c1.2.2)])]⟩ _
  refine V_sreg (mb 42 1) [80000] (s1 := ⟨.pt 80000 0 :: bt 41 [], [(80000, .pbox (σ 80000) [.sl (c1.1.map c5), Ti c1.2.1, .v (.int .u64 c1.2.2)])]⟩) ?_ ?_
  ·refine L0 rfl rfl (E_assign (I 0) rfl (by kernel_rfl)) ?_
   refine XL_nil ?_
   kernel_rfl
  refine V_seq ?_
  obtain ⟨y2, hy2, h⟩ := of_bind h
  refine V_sreg (mb 42 33) [80000] (s1 := ⟨.pt 80000 0 :: bt 4 (I y2.1 :: bt 36 []), [(80000, .pbox (σ 80000) [.sl (y2.2.1.map c5), Ti y2.2.2.1, .v (.int .u64 y2.2.2.2)])]⟩) ?_ ?_
  ·refine L0 rfl rfl (E_move (.pt 80000 0) rfl (by kernel_rfl)) ?_
   refine XL_cons rfl (X_callR (E' := [(80000, .pbox (σ 80000) [.sl (y2.2.1.map c5), Ti y2.2.2.1, .v (.int .u64 y2.2.2.2)])]) [(80000, 80000)] 5 (s_spec_l1Cur_pick hy2) cf_spec_l1Cur_pick rfl rfl (by kernel_rfl) rfl (mE_cons (by kernel_rfl) mE_nil) rfl (by kernel_rfl) rfl rfl (by kernel_rfl)) ?_
   refine XL_nil ?_
   kernel_rfl
  refine V_block ?_
  refine V_sreg (mb 42 97) [80000] (s1 := ⟨.pt 80000 0 :: bt 4 (I y2.1 :: Bo (eqI y2.1 0) :: bt 35 []), [(80000, .pbox (σ 80000) [.sl (y2.2.1.map c5), Ti y2.2.2.1, .v (.int .u64 y2.2.2.2)])]⟩) ?_ ?_
  ·refine L0 rfl rfl (Y0_eqw (k := .i64) (a := y2.1) (b := 0) rfl (by kernel_rfl) (by kernel_rfl)) ?_
   refine L0 rfl rfl (E_assign (Bo (eqI y2.1 0)) rfl (by kernel_rfl)) ?_
   refine XL_nil ?_
   kernel_rfl
  refine V_cond rfl (fun hc3 => ?_) (fun hc3 => ?_)
  ·have h := of_true h hc3
   obtain ⟨y4, hy4, h⟩ := of_bind h
   refine V_sreg (mb 42 4) [80000] (s1 := ⟨.bot :: .bot :: I y4.1 :: bt 39 [], [(80000, .pbox (σ 80000) [.sl (y4.2.1.map c5), Ti y4.2.2.1, .v (.int .u64 y4.2.2.2)])]⟩) ?_ ?_
   ·refine L0 rfl rfl (E_move (.pt 80000 0) rfl (by kernel_rfl)) ?_
    refine L1 rfl rfl (Y1_bslice (z := zv3) (els := [-3, -4, -2000, -1999, -1996, -1995, -163, -2001, -2003, -2004, 0, 1, 5, -1, -2, -5, -9223372036854775808].map c3) Try.underlying41 iz3 rfl (by decide) rfl (by kernel_rfl) rfl (by simp [c3]) (by decide) (by decide)) ?_
    refine XL_freeze 72 (T := 3) (sz := 1) (els := ([-3, -4, -2000, -1999, -1996, -1995, -163, -2001, -2003, -2004, 0, 1, 5, -1, -2, -5, -9223372036854775808]).map c3) (s1 := ⟨.pt 80000 0 :: bt 4 (I y2.1 :: Bo (eqI y2.1 0) :: .bot :: .pt 80000 0 :: .c (.sl (([-3, -4, -2000, -1999, -1996, -1995, -163, -2001, -2003, -2004, 0, 1, 5, -1, -2, -5, -9223372036854775808]).map c3)) :: bt 32 []), [(80000, .pbox (σ 80000) [.sl (y2.2.1.map c5), Ti y2.2.2.1, .v (.int .u64 y2.2.2.2)])]⟩) (by kernel_rfl) (by kernel_rfl) ?_
    refine XL_cons rfl (X_callR (E' := [(80000, .pbox (σ 80000) [.sl (y4.2.1.map c5), Ti y4.2.2.1, .v (.int .u64 y4.2.2.2)])]) [(80000, 80000)] 10 (s_spec_l1Cur_among hy4) cf_spec_l1Cur_among rfl rfl (by kernel_rfl) rfl (mE_cons (by kernel_rfl) mE_nil) rfl (by kernel_rfl) rfl rfl (by kernel_rfl)) ?_
    refine L0 rfl rfl (E_assign (I y4.1) rfl (by kernel_rfl)) ?_
    refine XL_nil ?_
    kernel_rfl
   refine V_ret ?_
   obtain rfl := some_inj h
   show PostR _ _ _ _ _ _
   exact ⟨⟨.inr rfl, rfl, rfl, rfl⟩, ⟨rfl, trivial⟩⟩
  ·have h := of_false h hc3
   obtain ⟨j5, hj5, h⟩ := of_bind h
   refine V_cutK (mb 42 2081) [80000] (s1 := ⟨.pt 80000 0 :: bt 4 (I y2.1 :: bt 5 (Bo j5 :: bt 30 [])), [(80000, .pbox (σ 80000) [.sl (y2.2.1.map c5), Ti y2.2.2.1, .v (.int .u64 y2.2.2.2)])]⟩) ?_ ?_
   ·clear h
    have h := hj5
    clear hj5
    refine V_sreg (mb 42 2081) [80000] (s1 := ⟨.pt 80000 0 :: bt 4 (I y2.1 :: bt 5 (Bo (eqI y2.1 1) :: bt 30 [])), [(80000, .pbox (σ 80000) [.sl (y2.2.1.map c5), Ti y2.2.2.1, .v (.int .u64 y2.2.2.2)])]⟩) ?_ ?_
    ·refine L0 rfl rfl (Y0_eqw (k := .i64) (a := y2.1) (b := 1) rfl (by kernel_rfl) (by kernel_rfl)) ?_
     refine L0 rfl rfl (E_assign (Bo (eqI y2.1 1)) rfl (by kernel_rfl)) ?_
     refine XL_nil ?_
     kernel_rfl
    refine V_cond rfl (fun hc6 => ?_) (fun hc6 => ?_)
    ·have h := of_true h hc6
     refine V_skip ?_
     obtain rfl := some_inj h
     show St.keep _ _ _ = _
     rfl
    ·have h := of_false h hc6
     refine V_reg (mb 42 2081) [80000] (s1 := ⟨.pt 80000 0 :: bt 4 (I y2.1 :: bt 5 (Bo (eqI y2.1 2) :: bt 30 [])), [(80000, .pbox (σ 80000) [.sl (y2.2.1.map c5), Ti y2.2.2.1, .v (.int .u64 y2.2.2.2)])]⟩) ?_ ?_
     ·refine L0 rfl rfl (Y0_eqw (k := .i64) (a := y2.1) (b := 2) rfl (by kernel_rfl) (by kernel_rfl)) ?_
      refine L0 rfl rfl (E_assign (Bo (eqI y2.1 2)) rfl (by kernel_rfl)) ?_
      refine XL_nil ?_
      kernel_rfl
     obtain rfl := some_inj h
     show St.keep _ _ _ = _
     rfl
   refine V_cond rfl (fun hc7 => ?_) (fun hc7 => ?_)
   ·have h := of_true h hc7
    obtain ⟨y8, hy8, h⟩ := of_bind h
    obtain ⟨d9, hd9, h⟩ := of_sI h
    refine V_sreg (mb 42 8) [80000] (s1 := ⟨bt 3 (I d9 :: bt 38 []), [(80000, .pbox (σ 80000) [.sl (y8.2.1.map c5), Ti y8.2.2.1, .v (.int .u64 y8.2.2.2)])]⟩) ?_ ?_
    ·refine L0 rfl rfl (E_move (.pt 80000 0) rfl (by kernel_rfl)) ?_
     refine XL_cons rfl (X_callR (E' := [(80000, .pbox (σ 80000) [.sl (y8.2.1.map c5), Ti y8.2.2.1, .v (.int .u64 y8.2.2.2)])]) [(80000, 80000)] 15 (s_spec_l1Cur_pick hy8) cf_spec_l1Cur_pick rfl rfl (by kernel_rfl) rfl (mE_cons (by kernel_rfl) mE_nil) rfl (by kernel_rfl) rfl rfl (by kernel_rfl)) ?_
     refine L0 rfl rfl (Y0_sub64 (a := -3) (b := y8.1) rfl (by kernel_rfl) (by kernel_rfl)) ?_
     refine L0 rfl rfl (E_assign (I (w64 ((-3) - y8.1))) rfl (by kernel_rfl)) ?_
     refine XL_nil ?_
     subst hd9
     kernel_rfl
    refine V_seq ?_
    obtain ⟨y10, hy10, h⟩ := of_bind h
    refine V_sreg (mb 42 524296) [80000] (s1 := ⟨bt 3 (I d9 :: bt 15 (Bo (ltI 1 y10) :: bt 22 [])), [(80000, .pbox (σ 80000) [.sl (y8.2.1.map c5), Ti y8.2.2.1, .v (.int .u64 y8.2.2.2)])]⟩) ?_ ?_
    ·refine L0 rfl rfl (E_move (I d9) rfl (by kernel_rfl)) ?_
     refine L1 rfl rfl (Y1_call (s_spec_nuMod hy10) cf_spec_nuMod rfl (by kernel_rfl)) ?_
     refine L0 rfl rfl (Y0_gtw (k := .i64) (a := y10) (b := 1) rfl (by kernel_rfl) (by kernel_rfl)) ?_
     refine XL_nil ?_
     kernel_rfl
    refine V_cond rfl (fun hc11 => ?_) (fun hc11 => ?_)
    ·have h := of_true h hc11
     obtain ⟨y12, hy12, h⟩ := of_bind h
     refine V_reg (mb 42 8) [80000] (s1 := ⟨bt 3 (I y12 :: bt 38 []), [(80000, .pbox (σ 80000) [.sl (y8.2.1.map c5), Ti y8.2.2.1, .v (.int .u64 y8.2.2.2)])]⟩) ?_ ?_
     ·refine L0 rfl rfl (E_move (I d9) rfl (by kernel_rfl)) ?_
      refine L0 rfl rfl (Y0_sub64 (a := d9) (b := 2) rfl (by kernel_rfl) (by kernel_rfl)) ?_
      refine L1 rfl rfl (Y1_call (s_spec_l1Most hy12) cf_spec_l1Most rfl (by kernel_rfl)) ?_
      refine L0 rfl rfl (E_assign (I y12) rfl (by kernel_rfl)) ?_
      refine XL_nil ?_
      kernel_rfl
     show V _ _ _ _
     refine V_sreg (mb 42 4) [80000] (s1 := ⟨.bot :: .bot :: I y12 :: bt 39 [], [(80000, .pbox (σ 80000) [.sl (y8.2.1.map c5), Ti y8.2.2.1, .v (.int .u64 y8.2.2.2)])]⟩) ?_ ?_
     ·refine L0 rfl rfl (E_move (I y12) rfl (by kernel_rfl)) ?_
      refine L0 rfl rfl (E_assign (I y12) rfl (by kernel_rfl)) ?_
      refine XL_nil ?_
      kernel_rfl
     refine V_ret ?_
     obtain rfl := some_inj h
     show PostR _ _ _ _ _ _
     exact ⟨⟨.inr rfl, rfl, rfl, rfl⟩, ⟨rfl, trivial⟩⟩
    ·have h := of_false h hc11
     refine V_skip ?_
     show V _ _ _ _
     refine V_sreg (mb 42 4) [80000] (s1 := ⟨.bot :: .bot :: I d9 :: bt 39 [], [(80000, .pbox (σ 80000) [.sl (y8.2.1.map c5), Ti y8.2.2.1, .v (.int .u64 y8.2.2.2)])]⟩) ?_ ?_
     ·refine L0 rfl rfl (E_move (I d9) rfl (by kernel_rfl)) ?_
      refine L0 rfl rfl (E_assign (I d9) rfl (by kernel_rfl)) ?_
      refine XL_nil ?_
      kernel_rfl
     refine V_ret ?_
     obtain rfl := some_inj h
     show PostR _ _ _ _ _ _
     exact ⟨⟨.inr rfl, rfl, rfl, rfl⟩, ⟨rfl, trivial⟩⟩
   ·have h := of_false h hc7
    obtain ⟨j13, hj13, h⟩ := of_bind h
    refine V_cutK (mb 42 16777249) [80000] (s1 := ⟨.pt 80000 0 :: bt 4 (I y2.1 :: bt 18 (Bo j13 :: bt 17 [])), [(80000, .pbox (σ 80000) [.sl (y2.2.1.map c5), Ti y2.2.2.1, .v (.int .u64 y2.2.2.2)])]⟩) ?_ ?_
    ·clear h
     have h := hj13
     clear hj13
     refine V_sreg (mb 42 16777249) [80000] (s1 := ⟨.pt 80000 0 :: bt 4 (I y2.1 :: bt 18 (Bo (eqI y2.1 3) :: bt 17 [])), [(80000, .pbox (σ 80000) [.sl (y2.2.1.map c5), Ti y2.2.2.1, .v (.int .u64 y2.2.2.2)])]⟩) ?_ ?_
     ·refine L0 rfl rfl (Y0_eqw (k := .i64) (a := y2.1) (b := 3) rfl (by kernel_rfl) (by kernel_rfl)) ?_
      refine L0 rfl rfl (E_assign (Bo (eqI y2.1 3)) rfl (by kernel_rfl)) ?_
      refine XL_nil ?_
      kernel_rfl
     refine V_cond rfl (fun hc14 => ?_) (fun hc14 => ?_)
     ·have h := of_true h hc14
      refine V_skip ?_
      obtain rfl := some_inj h
      show St.keep _ _ _ = _
      rfl
     ·have h := of_false h hc14
      refine V_sreg (mb 42 16777249) [80000] (s1 := ⟨.pt 80000 0 :: bt 4 (I y2.1 :: bt 18 (Bo (eqI y2.1 4) :: bt 17 [])), [(80000, .pbox (σ 80000) [.sl (y2.2.1.map c5), Ti y2.2.2.1, .v (.int .u64 y2.2.2.2)])]⟩) ?_ ?_
      ·refine L0 rfl rfl (Y0_eqw (k := .i64) (a := y2.1) (b := 4) rfl (by kernel_rfl) (by kernel_rfl)) ?_
       refine L0 rfl rfl (E_assign (Bo (eqI y2.1 4)) rfl (by kernel_rfl)) ?_
       refine XL_nil ?_
       kernel_rfl
      refine V_cond rfl (fun hc15 => ?_) (fun hc15 => ?_)
      ·have h := of_true h hc15
       refine V_skip ?_
       obtain rfl := some_inj h
       show St.keep _ _ _ = _
       rfl
      ·have h := of_false h hc15
       refine V_reg (mb 42 16777249) [80000] (s1 := ⟨.pt 80000 0 :: bt 4 (I y2.1 :: bt 18 (Bo (eqI y2.1 5) :: bt 17 [])), [(80000, .pbox (σ 80000) [.sl (y2.2.1.map c5), Ti y2.2.2.1, .v (.int .u64 y2.2.2.2)])]⟩) ?_ ?_
       ·refine L0 rfl rfl (Y0_eqw (k := .i64) (a := y2.1) (b := 5) rfl (by kernel_rfl) (by kernel_rfl)) ?_
        refine L0 rfl rfl (E_assign (Bo (eqI y2.1 5)) rfl (by kernel_rfl)) ?_
        refine XL_nil ?_
        kernel_rfl
       obtain rfl := some_inj h
       show St.keep _ _ _ = _
       rfl
    refine V_cond rfl (fun hc16 => ?_) (fun hc16 => ?_)
    ·have h := of_true h hc16
     obtain ⟨y17, hy17, h⟩ := of_bind h
     refine V_sreg (mb 42 4) [80000] (s1 := ⟨.bot :: .bot :: I y17.1 :: bt 39 [], [(80000, .pbox (σ 80000) [.sl (y17.2.1.map c5), Ti y17.2.2.1, .v (.int .u64 y17.2.2.2)])]⟩) ?_ ?_
     ·refine L0 rfl rfl (E_move (.pt 80000 0) rfl (by kernel_rfl)) ?_
      refine L1 rfl rfl (Y1_bslice (z := zv3) (els := [-84, -420, -231, -260, -455, -520, -660, -1155, -1320, -1380, -1428, -1540, -399, -1092, -1560, -1785].map c3) Try.underlying41 iz3 rfl (by decide) rfl (by kernel_rfl) rfl (by simp [c3]) (by decide) (by decide)) ?_
      refine XL_freeze 232 (T := 3) (sz := 1) (els := ([-84, -420, -231, -260, -455, -520, -660, -1155, -1320, -1380, -1428, -1540, -399, -1092, -1560, -1785]).map c3) (s1 := ⟨.pt 80000 0 :: bt 4 (I y2.1 :: bt 18 (Bo j13 :: bt 3 (.pt 80000 0 :: .c (.sl (([-84, -420, -231, -260, -455, -520, -660, -1155, -1320, -1380, -1428, -1540, -399, -1092, -1560, -1785]).map c3)) :: bt 12 []))), [(80000, .pbox (σ 80000) [.sl (y2.2.1.map c5), Ti y2.2.2.1, .v (.int .u64 y2.2.2.2)])]⟩) (by kernel_rfl) (by kernel_rfl) ?_
      refine XL_cons rfl (X_callR (E' := [(80000, .pbox (σ 80000) [.sl (y17.2.1.map c5), Ti y17.2.2.1, .v (.int .u64 y17.2.2.2)])]) [(80000, 80000)] 30 (s_spec_l1Cur_among hy17) cf_spec_l1Cur_among rfl rfl (by kernel_rfl) rfl (mE_cons (by kernel_rfl) mE_nil) rfl (by kernel_rfl) rfl rfl (by kernel_rfl)) ?_
      refine L0 rfl rfl (E_assign (I y17.1) rfl (by kernel_rfl)) ?_
      refine XL_nil ?_
      kernel_rfl
     refine V_ret ?_
     obtain rfl := some_inj h
     show PostR _ _ _ _ _ _
     exact ⟨⟨.inr rfl, rfl, rfl, rfl⟩, ⟨rfl, trivial⟩⟩
    ·have h := of_false h hc16
     obtain ⟨j18, hj18, h⟩ := of_bind h
     refine V_cutK (mb 42 2147483649) [80000] (s1 := ⟨.pt 80000 0 :: bt 30 (Bo j18 :: bt 10 []), [(80000, .pbox (σ 80000) [.sl (y2.2.1.map c5), Ti y2.2.2.1, .v (.int .u64 y2.2.2.2)])]⟩) ?_ ?_
     ·clear h
      have h := hj18
      clear hj18
      refine V_sreg (mb 42 2147483681) [80000] (s1 := ⟨.pt 80000 0 :: bt 4 (I y2.1 :: bt 25 (Bo (eqI y2.1 6) :: bt 10 [])), [(80000, .pbox (σ 80000) [.sl (y2.2.1.map c5), Ti y2.2.2.1, .v (.int .u64 y2.2.2.2)])]⟩) ?_ ?_
      ·refine L0 rfl rfl (Y0_eqw (k := .i64) (a := y2.1) (b := 6) rfl (by kernel_rfl) (by kernel_rfl)) ?_
       refine L0 rfl rfl (E_assign (Bo (eqI y2.1 6)) rfl (by kernel_rfl)) ?_
       refine XL_nil ?_
       kernel_rfl
      refine V_cond rfl (fun hc19 => ?_) (fun hc19 => ?_)
      ·have h := of_true h hc19
       refine V_skip ?_
       obtain rfl := some_inj h
       show St.keep _ _ _ = _
       rfl
      ·have h := of_false h hc19
       refine V_reg (mb 42 2147483649) [80000] (s1 := ⟨.pt 80000 0 :: bt 30 (Bo (eqI y2.1 7) :: bt 10 []), [(80000, .pbox (σ 80000) [.sl (y2.2.1.map c5), Ti y2.2.2.1, .v (.int .u64 y2.2.2.2)])]⟩) ?_ ?_
       ·refine L0 rfl rfl (Y0_eqw (k := .i64) (a := y2.1) (b := 7) rfl (by kernel_rfl) (by kernel_rfl)) ?_
        refine L0 rfl rfl (E_assign (Bo (eqI y2.1 7)) rfl (by kernel_rfl)) ?_
        refine XL_nil ?_
        kernel_rfl
       obtain rfl := some_inj h
       show St.keep _ _ _ = _
       rfl
     refine V_cond rfl (fun hc20 => ?_) (fun hc20 => ?_)
     ·have h := of_true h hc20
      obtain ⟨y21, hy21, h⟩ := of_bind h
      obtain ⟨t22, ht22, h⟩ := of_sI h
      refine V_sreg (mb 42 4) [80000] (s1 := ⟨.bot :: .bot :: I t22 :: bt 39 [], [(80000, .pbox (σ 80000) [.sl (y21.2.1.map c5), Ti y21.2.2.1, .v (.int .u64 y21.2.2.2)])]⟩) ?_ ?_
      ·refine L0 rfl rfl (E_move (.pt 80000 0) rfl (by kernel_rfl)) ?_
       refine XL_cons rfl (X_callR (E' := [(80000, .pbox (σ 80000) [.sl (y21.2.1.map c5), Ti y21.2.2.1, .v (.int .u64 y21.2.2.2)])]) [(80000, 80000)] 35 (s_spec_l1Cur_pick hy21) cf_spec_l1Cur_pick rfl rfl (by kernel_rfl) rfl (mE_cons (by kernel_rfl) mE_nil) rfl (by kernel_rfl) rfl rfl (by kernel_rfl)) ?_
       refine L0 rfl rfl (Y0_add64 (a := 1) (b := y21.1) rfl (by kernel_rfl) (by kernel_rfl)) ?_
       refine L0 rfl rfl (Y0_mul64 (a := -4) (b := w64 (1 + y21.1)) rfl (by kernel_rfl) (by kernel_rfl)) ?_
       refine L0 rfl rfl (E_assign (I (w64 ((-4) * (w64 (1 + y21.1))))) rfl (by kernel_rfl)) ?_
       refine XL_nil ?_
       subst ht22
       kernel_rfl
      refine V_ret ?_
      obtain rfl := some_inj h
      show PostR _ _ _ _ _ _
      exact ⟨⟨.inr rfl, rfl, rfl, rfl⟩, ⟨rfl, trivial⟩⟩
     ·have h := of_false h hc20
      refine V_skip ?_
      show V _ _ _ _
      obtain ⟨y23, hy23, h⟩ := of_bind h
      obtain ⟨t24, ht24, h⟩ := of_sI h
      refine V_sreg (mb 42 4) [80000] (s1 := ⟨.bot :: .bot :: I t24 :: bt 39 [], [(80000, .pbox (σ 80000) [.sl (y23.2.1.map c5), Ti y23.2.2.1, .v (.int .u64 y23.2.2.2)])]⟩) ?_ ?_
      ·refine L0 rfl rfl (E_move (.pt 80000 0) rfl (by kernel_rfl)) ?_
       refine XL_cons rfl (X_callR (E' := [(80000, .pbox (σ 80000) [.sl (y23.2.1.map c5), Ti y23.2.2.1, .v (.int .u64 y23.2.2.2)])]) [(80000, 80000)] 39 (s_spec_l1Cur_pick hy23) cf_spec_l1Cur_pick rfl rfl (by kernel_rfl) rfl (mE_cons (by kernel_rfl) mE_nil) rfl (by kernel_rfl) rfl rfl (by kernel_rfl)) ?_
       refine L0 rfl rfl (Y0_mul64 (a := 4) (b := y23.1) rfl (by kernel_rfl) (by kernel_rfl)) ?_
       refine L0 rfl rfl (Y0_sub64 (a := -3) (b := w64 (4 * y23.1)) rfl (by kernel_rfl) (by kernel_rfl)) ?_
       refine L0 rfl rfl (E_assign (I (w64 ((-3) - (w64 (4 * y23.1))))) rfl (by kernel_rfl)) ?_
       refine XL_nil ?_
       subst ht24
       kernel_rfl
      refine V_ret ?_
      obtain rfl := some_inj h
      show PostR _ _ _ _ _ _
      exact ⟨⟨.inr rfl, rfl, rfl, rfl⟩, ⟨rfl, trivial⟩⟩
theorem cf_spec_l1Cur_anyDisc : ∀ args w, (callFunc 194 args).run Try.prog w = .ok (.enter 194 args) w := run_callFunc Try.func194 (by kernel_rfl) (by kernel_rfl)
set_option maxRecDepth 100000 in
set_option maxHeartbeats 400000 in
theorem s_spec_l1Cur_anyDisc {c1 : ((List Int) × Int × Int)} {r : (Int × (((List Int) × Int × Int)))} (h : r_spec_l1Cur_anyDisc c1 = some r) : CallR Try.prog 194 [.pt 80000 0] [(80000, .box [.sl (c1.1.map c5), Ti c1.2.1, .v (.int .u64 c1.2.2)])] (I r.1) [] [(80000, .box [.sl (r.2.1.map c5), Ti r.2.2.1, .v (.int .u64 r.2.2.2)])] := by
  refine CallR_of_text (rs := [.t 2]) (vs := [.tmp 2]) Try.func194 rfl rfl (.cons rfl FitsL.nil) (by decide) 17 rfl rfl fun σ => ?_
  unfold r_spec_l1Cur_anyDisc at h
  show V _ _ ⟨.pt 80000 0 :: bt 16 [], [(80000, .pbox (σ 80000) [.sl (c1.1.map c5), Ti c1.2.1, .v (.int .u64 c1.2.2)])]⟩ _
  refine V_sreg (mb 17 1) [80000] (s1 := ⟨.pt 80000 0 :: bt 16 [], [(80000, .pbox (σ 80000) [.sl (c1.1.map c5), Ti c1.2.1, .v (.int .u64 c1.2.2)])]⟩) ?_ ?_
  ·refine L0 rfl rfl (E_assign (I 0) rfl (by kernel_rfl)) ?_
   refine XL_nil ?_
   kernel_rfl
  refine V_seq ?_
  obtain ⟨y2, hy2, h⟩ := of_bind h
  refine V_sreg (mb 17 17) [80000] (s1 := ⟨.pt 80000 0 :: bt 3 (I y2.1 :: bt 12 []), [(80000, .pbox (σ 80000) [.sl (y2.2.1.map c5), Ti y2.2.2.1, .v (.int .u64 y2.2.2.2)])]⟩) ?_ ?_
  ·refine L0 rfl rfl (E_move (.pt 80000 0) rfl (by kernel_rfl)) ?_
   refine XL_cons rfl (X_callR (E' := [(80000, .pbox (σ 80000) [.sl (y2.2.1.map c5), Ti y2.2.2.1, .v (.int .u64 y2.2.2.2)])]) [(80000, 80000)] 4 (s_spec_l1Cur_pick hy2) cf_spec_l1Cur_pick rfl rfl (by kernel_rfl) rfl (mE_cons (by kernel_rfl) mE_nil) rfl (by kernel_rfl) rfl rfl (by kernel_rfl)) ?_
   refine XL_nil ?_
   kernel_rfl
  refine V_block ?_
  refine V_sreg (mb 17 49) [80000] (s1 := ⟨.pt 80000 0 :: bt 3 (I y2.1 :: Bo (eqI y2.1 0) :: bt 11 []), [(80000, .pbox (σ 80000) [.sl (y2.2.1.map c5), Ti y2.2.2.1, .v (.int .u64 y2.2.2.2)])]⟩) ?_ ?_
  ·refine L0 rfl rfl (Y0_eqw (k := .i64) (a := y2.1) (b := 0) rfl (by kernel_rfl) (by kernel_rfl)) ?_
   refine L0 rfl rfl (E_assign (Bo (eqI y2.1 0)) rfl (by kernel_rfl)) ?_
   refine XL_nil ?_
   kernel_rfl
  refine V_cond rfl (fun hc3 => ?_) (fun hc3 => ?_)
  ·have h := of_true h hc3
   obtain ⟨y4, hy4, h⟩ := of_bind h
   refine V_sreg (mb 17 4) [80000] (s1 := ⟨.bot :: .bot :: I y4.1 :: bt 14 [], [(80000, .pbox (σ 80000) [.sl (y4.2.1.map c5), Ti y4.2.2.1, .v (.int .u64 y4.2.2.2)])]⟩) ?_ ?_
   ·refine L0 rfl rfl (E_move (.pt 80000 0) rfl (by kernel_rfl)) ?_
    refine XL_cons rfl (X_callR (E' := [(80000, .pbox (σ 80000) [.sl (y4.2.1.map c5), Ti y4.2.2.1, .v (.int .u64 y4.2.2.2)])]) [(80000, 80000)] 8 (s_spec_l1Cur_number hy4) cf_spec_l1Cur_number rfl rfl (by kernel_rfl) rfl (mE_cons (by kernel_rfl) mE_nil) rfl (by kernel_rfl) rfl rfl (by kernel_rfl)) ?_
    refine L0 rfl rfl (E_assign (I y4.1) rfl (by kernel_rfl)) ?_
    refine XL_nil ?_
    kernel_rfl
   refine V_ret ?_
   obtain rfl := some_inj h
   show PostR _ _ _ _ _ _
   exact ⟨⟨.inr rfl, rfl, rfl, rfl⟩, ⟨rfl, trivial⟩⟩
  ·have h := of_false h hc3
   obtain ⟨j5, hj5, h⟩ := of_bind h
   refine V_cutK (mb 17 513) [80000] (s1 := ⟨.pt 80000 0 :: bt 8 (Bo j5 :: bt 7 []), [(80000, .pbox (σ 80000) [.sl (y2.2.1.map c5), Ti y2.2.2.1, .v (.int .u64 y2.2.2.2)])]⟩) ?_ ?_
   ·clear h
    have h := hj5
    clear hj5
    refine V_sreg (mb 17 529) [80000] (s1 := ⟨.pt 80000 0 :: bt 3 (I y2.1 :: bt 4 (Bo (eqI y2.1 1) :: bt 7 [])), [(80000, .pbox (σ 80000) [.sl (y2.2.1.map c5), Ti y2.2.2.1, .v (.int .u64 y2.2.2.2)])]⟩) ?_ ?_
    ·refine L0 rfl rfl (Y0_eqw (k := .i64) (a := y2.1) (b := 1) rfl (by kernel_rfl) (by kernel_rfl)) ?_
     refine L0 rfl rfl (E_assign (Bo (eqI y2.1 1)) rfl (by kernel_rfl)) ?_
     refine XL_nil ?_
     kernel_rfl
    refine V_cond rfl (fun hc6 => ?_) (fun hc6 => ?_)
    ·have h := of_true h hc6
     refine V_skip ?_
     obtain rfl := some_inj h
     show St.keep _ _ _ = _
     rfl
    ·have h := of_false h hc6
     refine V_reg (mb 17 513) [80000] (s1 := ⟨.pt 80000 0 :: bt 8 (Bo (eqI y2.1 2) :: bt 7 []), [(80000, .pbox (σ 80000) [.sl (y2.2.1.map c5), Ti y2.2.2.1, .v (.int .u64 y2.2.2.2)])]⟩) ?_ ?_
     ·refine L0 rfl rfl (Y0_eqw (k := .i64) (a := y2.1) (b := 2) rfl (by kernel_rfl) (by kernel_rfl)) ?_
      refine L0 rfl rfl (E_assign (Bo (eqI y2.1 2)) rfl (by kernel_rfl)) ?_
      refine XL_nil ?_
      kernel_rfl
     obtain rfl := some_inj h
     show St.keep _ _ _ = _
     rfl
   refine V_cond rfl (fun hc7 => ?_) (fun hc7 => ?_)
   ·have h := of_true h hc7
    obtain ⟨y8, hy8, h⟩ := of_bind h
    refine V_sreg (mb 17 4) [80000] (s1 := ⟨.bot :: .bot :: I y8.1 :: bt 14 [], [(80000, .pbox (σ 80000) [.sl (y8.2.1.map c5), Ti y8.2.2.1, .v (.int .u64 y8.2.2.2)])]⟩) ?_ ?_
    ·refine L0 rfl rfl (E_move (.pt 80000 0) rfl (by kernel_rfl)) ?_
     refine L1 rfl rfl (Y1_bslice (z := zv3) (els := [5, 8, 12, 13, 17, 21, 60, 136, 1000, 997, 4, 9, 1, 0].map c3) Try.underlying41 iz3 rfl (by decide) rfl (by kernel_rfl) rfl (by simp [c3]) (by decide) (by decide)) ?_
     refine XL_freeze 104 (T := 3) (sz := 1) (els := ([5, 8, 12, 13, 17, 21, 60, 136, 1000, 997, 4, 9, 1, 0]).map c3) (s1 := ⟨.pt 80000 0 :: bt 8 (Bo j5 :: .bot :: .bot :: .pt 80000 0 :: .c (.sl (([5, 8, 12, 13, 17, 21, 60, 136, 1000, 997, 4, 9, 1, 0]).map c3)) :: bt 3 []), [(80000, .pbox (σ 80000) [.sl (y2.2.1.map c5), Ti y2.2.2.1, .v (.int .u64 y2.2.2.2)])]⟩) (by kernel_rfl) (by kernel_rfl) ?_
     refine XL_cons rfl (X_callR (E' := [(80000, .pbox (σ 80000) [.sl (y8.2.1.map c5), Ti y8.2.2.1, .v (.int .u64 y8.2.2.2)])]) [(80000, 80000)] 14 (s_spec_l1Cur_among hy8) cf_spec_l1Cur_among rfl rfl (by kernel_rfl) rfl (mE_cons (by kernel_rfl) mE_nil) rfl (by kernel_rfl) rfl rfl (by kernel_rfl)) ?_
     refine L0 rfl rfl (E_assign (I y8.1) rfl (by kernel_rfl)) ?_
     refine XL_nil ?_
     kernel_rfl
    refine V_ret ?_
    obtain rfl := some_inj h
    show PostR _ _ _ _ _ _
    exact ⟨⟨.inr rfl, rfl, rfl, rfl⟩, ⟨rfl, trivial⟩⟩
   ·have h := of_false h hc7
    refine V_skip ?_
    show V _ _ _ _
    obtain ⟨y9, hy9, h⟩ := of_bind h
    refine V_sreg (mb 17 4) [80000] (s1 := ⟨.bot :: .bot :: I y9.1 :: bt 14 [], [(80000, .pbox (σ 80000) [.sl (y9.2.1.map c5), Ti y9.2.2.1, .v (.int .u64 y9.2.2.2)])]⟩) ?_ ?_
    ·refine L0 rfl rfl (E_move (.pt 80000 0) rfl (by kernel_rfl)) ?_
     refine XL_cons rfl (X_callR (E' := [(80000, .pbox (σ 80000) [.sl (y9.2.1.map c5), Ti y9.2.2.1, .v (.int .u64 y9.2.2.2)])]) [(80000, 80000)] 16 (s_spec_l1Cur_disc hy9) cf_spec_l1Cur_disc rfl rfl (by kernel_rfl) rfl (mE_cons (by kernel_rfl) mE_nil) rfl (by kernel_rfl) rfl rfl (by kernel_rfl)) ?_
     refine L0 rfl rfl (E_assign (I y9.1) rfl (by kernel_rfl)) ?_
     refine XL_nil ?_
     kernel_rfl
    refine V_ret ?_
    obtain rfl := some_inj h
    show PostR _ _ _ _ _ _
    exact ⟨⟨.inr rfl, rfl, rfl, rfl⟩, ⟨rfl, trivial⟩⟩
theorem cf_spec_l1Cur_bigDisc : ∀ args w, (callFunc 137 args).run Try.prog w = .ok (.enter 137 args) w := run_callFunc Try.func137 (by kernel_rfl) (by kernel_rfl)
set_option maxRecDepth 100000 in
set_option maxHeartbeats 400000 in
theorem s_spec_l1Cur_bigDisc {c1 : ((List Int) × Int × Int)} {r : (Int × (((List Int) × Int × Int)))} (h : r_spec_l1Cur_bigDisc c1 = some r) : CallR Try.prog 137 [.pt 80000 0] [(80000, .box [.sl (c1.1.map c5), Ti c1.2.1, .v (.int .u64 c1.2.2)])] (I r.1) [] [(80000, .box [.sl (r.2.1.map c5), Ti r.2.2.1, .v (.int .u64 r.2.2.2)])] := by
  refine CallR_of_text (rs := [.t 2]) (vs := [.tmp 2]) Try.func137 rfl rfl (.cons rfl FitsL.nil) (by decide) 20 rfl rfl fun σ => ?_
  unfold r_spec_l1Cur_bigDisc at h
  show V _ _ ⟨.pt 80000 0 :: bt 19 [], [(80000, .pbox (σ 80000) [.sl (c1.1.map c5), Ti c1.2.1, .v (.int .u64 c1.2.2)])]⟩ _
  refine V_sreg (mb 20 1) [80000] (s1 := ⟨.pt 80000 0 :: bt 19 [], [(80000, .pbox (σ 80000) [.sl (c1.1.map c5), Ti c1.2.1, .v (.int .u64 c1.2.2)])]⟩) ?_ ?_
  ·refine L0 rfl rfl (E_assign (I 0) rfl (by kernel_rfl)) ?_
   refine XL_nil ?_
   kernel_rfl
  refine V_seq ?_
  obtain ⟨y2, hy2, h⟩ := of_bind h
  refine V_sreg (mb 20 65) [80000] (s1 := ⟨.pt 80000 0 :: bt 5 (Bo y2.1 :: bt 13 []), [(80000, .pbox (σ 80000) [.sl (y2.2.1.map c5), Ti y2.2.2.1, .v (.int .u64 y2.2.2.2)])]⟩) ?_ ?_
  ·refine L0 rfl rfl (E_move (.pt 80000 0) rfl (by kernel_rfl)) ?_
   refine XL_cons rfl (X_callR (E' := [(80000, .pbox (σ 80000) [.sl (y2.2.1.map c5), Ti y2.2.2.1, .v (.int .u64 y2.2.2.2)])]) [(80000, 80000)] 6 (s_spec_l1Cur_one hy2) cf_spec_l1Cur_one rfl rfl (by kernel_rfl) rfl (mE_cons (by kernel_rfl) mE_nil) rfl (by kernel_rfl) rfl rfl (by kernel_rfl)) ?_
   refine XL_nil ?_
   kernel_rfl
  refine V_cond rfl (fun hc3 => ?_) (fun hc3 => ?_)
  ·have h := of_true h hc3
   obtain ⟨y4, hy4, h⟩ := of_bind h
   refine V_sreg (mb 20 4) [80000] (s1 := ⟨.bot :: .bot :: I y4.1 :: bt 17 [], [(80000, .pbox (σ 80000) [.sl (y4.2.1.map c5), Ti y4.2.2.1, .v (.int .u64 y4.2.2.2)])]⟩) ?_ ?_
   ·refine L0 rfl rfl (E_move (.pt 80000 0) rfl (by kernel_rfl)) ?_
    refine XL_cons rfl (X_callR (E' := [(80000, .pbox (σ 80000) [.sl (y4.2.1.map c5), Ti y4.2.2.1, .v (.int .u64 y4.2.2.2)])]) [(80000, 80000)] 8 (s_spec_l1Cur_anyDisc hy4) cf_spec_l1Cur_anyDisc rfl rfl (by kernel_rfl) rfl (mE_cons (by kernel_rfl) mE_nil) rfl (by kernel_rfl) rfl rfl (by kernel_rfl)) ?_
    refine L0 rfl rfl (E_assign (I y4.1) rfl (by kernel_rfl)) ?_
    refine XL_nil ?_
    kernel_rfl
   refine V_ret ?_
   obtain rfl := some_inj h
   show PostR _ _ _ _ _ _
   exact ⟨⟨.inr rfl, rfl, rfl, rfl⟩, ⟨rfl, trivial⟩⟩
  ·have h := of_false h hc3
   refine V_skip ?_
   show V _ _ _ _
   obtain ⟨y5, hy5, h⟩ := of_bind h
   obtain ⟨k6, hk6, h⟩ := of_sI h
   refine V_sreg (mb 20 9) [80000] (s1 := ⟨.pt 80000 0 :: .bot :: .bot :: I k6 :: bt 16 [], [(80000, .pbox (σ 80000) [.sl (y5.2.1.map c5), Ti y5.2.2.1, .v (.int .u64 y5.2.2.2)])]⟩) ?_ ?_
   ·refine L0 rfl rfl (E_move (.pt 80000 0) rfl (by kernel_rfl)) ?_
    refine XL_cons rfl (X_callR (E' := [(80000, .pbox (σ 80000) [.sl (y5.2.1.map c5), Ti y5.2.2.1, .v (.int .u64 y5.2.2.2)])]) [(80000, 80000)] 10 (s_spec_l1Cur_pick hy5) cf_spec_l1Cur_pick rfl rfl (by kernel_rfl) rfl (mE_cons (by kernel_rfl) mE_nil) rfl (by kernel_rfl) rfl rfl (by kernel_rfl)) ?_
    refine L0 rfl rfl (Y0_add64 (a := 1) (b := y5.1) rfl (by kernel_rfl) (by kernel_rfl)) ?_
    refine L0 rfl rfl (E_assign (I (w64 (1 + y5.1))) rfl (by kernel_rfl)) ?_
    refine XL_nil ?_
    subst hk6
    kernel_rfl
   obtain ⟨y7, hy7, h⟩ := of_bind h
   refine V_sreg (mb 20 24) [80000] (s1 := ⟨bt 3 (I k6 :: I y7.1 :: bt 15 []), [(80000, .pbox (σ 80000) [.sl (y7.2.1.map c5), Ti y7.2.2.1, .v (.int .u64 y7.2.2.2)])]⟩) ?_ ?_
   ·refine L0 rfl rfl (E_move (.pt 80000 0) rfl (by kernel_rfl)) ?_
    refine L1 rfl rfl (Y1_bslice (z := zv3) (els := [-3, -4, -7, -8, -15, -20, -23, -84, 5, 8, 12, 13, 60, -1, 2, 1].map c3) Try.underlying41 iz3 rfl (by decide) rfl (by kernel_rfl) rfl (by simp [c3]) (by decide) (by decide)) ?_
    refine XL_freeze 104 (T := 3) (sz := 1) (els := ([-3, -4, -7, -8, -15, -20, -23, -84, 5, 8, 12, 13, 60, -1, 2, 1]).map c3) (s1 := ⟨.pt 80000 0 :: .bot :: .bot :: I k6 :: bt 8 (.pt 80000 0 :: .c (.sl (([-3, -4, -7, -8, -15, -20, -23, -84, 5, 8, 12, 13, 60, -1, 2, 1]).map c3)) :: bt 6 []), [(80000, .pbox (σ 80000) [.sl (y5.2.1.map c5), Ti y5.2.2.1, .v (.int .u64 y5.2.2.2)])]⟩) (by kernel_rfl) (by kernel_rfl) ?_
    refine XL_cons rfl (X_callR (E' := [(80000, .pbox (σ 80000) [.sl (y7.2.1.map c5), Ti y7.2.2.1, .v (.int .u64 y7.2.2.2)])]) [(80000, 80000)] 14 (s_spec_l1Cur_among hy7) cf_spec_l1Cur_among rfl rfl (by kernel_rfl) rfl (mE_cons (by kernel_rfl) mE_nil) rfl (by kernel_rfl) rfl rfl (by kernel_rfl)) ?_
    refine L0 rfl rfl (E_assign (I y7.1) rfl (by kernel_rfl)) ?_
    refine XL_nil ?_
    kernel_rfl
   obtain ⟨t8, ht8, h⟩ := of_sI h
   refine V_sreg (mb 20 4) [80000] (s1 := ⟨.bot :: .bot :: I t8 :: bt 17 [], [(80000, .pbox (σ 80000) [.sl (y7.2.1.map c5), Ti y7.2.2.1, .v (.int .u64 y7.2.2.2)])]⟩) ?_ ?_
   ·refine L0 rfl rfl (E_move (I y7.1) rfl (by kernel_rfl)) ?_
    refine L0 rfl rfl (E_move (I k6) rfl (by kernel_rfl)) ?_
    refine L0 rfl rfl (Y0_mul64 (a := y7.1) (b := k6) rfl (by kernel_rfl) (by kernel_rfl)) ?_
    refine L0 rfl rfl (E_move (I k6) rfl (by kernel_rfl)) ?_
    refine L0 rfl rfl (Y0_mul64 (a := w64 (y7.1 * k6)) (b := k6) rfl (by kernel_rfl) (by kernel_rfl)) ?_
    refine L0 rfl rfl (E_assign (I (w64 ((w64 (y7.1 * k6)) * k6))) rfl (by kernel_rfl)) ?_
    refine XL_nil ?_
    subst ht8
    kernel_rfl
   refine V_ret ?_
   obtain rfl := some_inj h
   show PostR _ _ _ _ _ _
   exact ⟨⟨.inr rfl, rfl, rfl, rfl⟩, ⟨rfl, trivial⟩⟩
theorem cf_spec_DrawIsDiscriminant : ∀ args w, (callFunc 70 args).run Try.prog w = .ok (.enter 70 args) w := run_callFunc Try.func70 (by kernel_rfl) (by kernel_rfl)
set_option maxRecDepth 100000 in
set_option maxHeartbeats 400000 in
theorem s_spec_DrawIsDiscriminant {code1 : List Int} {r : Int} (h : r_spec_DrawIsDiscriminant code1 = some r) : CallS Try.prog 70 [.c (.sl (code1.map c5))] (I r) [] := by
  refine CallS_of_text (rs := [.t 2]) (vs := [.tmp 2]) Try.func70 rfl rfl (.cons rfl FitsL.nil) (by decide) 13 rfl ?_
  unfold r_spec_DrawIsDiscriminant at h
  show V _ _ ⟨.c (.sl (code1.map c5)) :: bt 12 [], []⟩ _
  refine V_sreg (mb 13 1) [] (s1 := ⟨.c (.sl (code1.map c5)) :: bt 12 [], []⟩) ?_ ?_
  ·refine L0 rfl rfl (E_assign (I 0) rfl (by kernel_rfl)) ?_
   refine XL_nil ?_
   kernel_rfl
  refine V_sreg (mb 13 8) [48] (s1 := ⟨bt 3 (.pt 48 0 :: bt 9 []), [(48, .box [.sl (code1.map c5), Ti 0, .v (.int .u64 0)])]⟩) ?_ ?_
  ·refine L0 rfl rfl (E_move (.c (.sl (code1.map c5))) rfl (by kernel_rfl)) ?_
   refine L0 rfl rfl (Y0_build (cs := [.sl (code1.map c5), Ti 0, .v (.int .u64 0)]) pl98 bt98 rfl rfl (by kernel_rfl)) ?_
   refine L1 rfl rfl (Y1_box (cs := [.sl (code1.map c5), Ti 0, .v (.int .u64 0)]) rfl (by kernel_rfl)) ?_
   refine L0 rfl rfl (E_assign (.pt 48 0) rfl (by kernel_rfl)) ?_
   refine XL_nil ?_
   kernel_rfl
  refine V_seq ?_
  obtain ⟨y2, hy2, h⟩ := of_bind h
  refine V_sreg (mb 13 264) [48] (s1 := ⟨bt 3 (.pt 48 0 :: bt 4 (Bo y2.1 :: bt 4 [])), [(48, .box [.sl (y2.2.1.map c5), Ti y2.2.2.1, .v (.int .u64 y2.2.2.2)])]⟩) ?_ ?_
  ·refine L0 rfl rfl (E_move (.pt 48 0) rfl (by kernel_rfl)) ?_
   refine XL_cons rfl (X_callR (E' := [(48, .box [.sl (y2.2.1.map c5), Ti y2.2.2.1, .v (.int .u64 y2.2.2.2)])]) [(80000, 48)] 8 (s_spec_l1Cur_one hy2) cf_spec_l1Cur_one rfl rfl (by kernel_rfl) rfl (mE_cons (by kernel_rfl) mE_nil) rfl (by kernel_rfl) rfl rfl (by kernel_rfl)) ?_
   refine XL_nil ?_
   kernel_rfl
  refine V_cond rfl (fun hc3 => ?_) (fun hc3 => ?_)
  ·have h := of_true h hc3
   obtain ⟨y4, hy4, h⟩ := of_bind h
   refine V_sreg (mb 13 4) [] (s1 := ⟨.bot :: .bot :: I y4.1 :: bt 10 [], []⟩) ?_ ?_
   ·refine L0 rfl rfl (E_move (.pt 48 0) rfl (by kernel_rfl)) ?_
    refine XL_cons rfl (X_callR (E' := [(48, .box [.sl (y4.2.1.map c5), Ti y4.2.2.1, .v (.int .u64 y4.2.2.2)])]) [(80000, 48)] 10 (s_spec_l1Cur_number hy4) cf_spec_l1Cur_number rfl rfl (by kernel_rfl) rfl (mE_cons (by kernel_rfl) mE_nil) rfl (by kernel_rfl) rfl rfl (by kernel_rfl)) ?_
    refine L0 rfl rfl (E_assign (I y4.1) rfl (by kernel_rfl)) ?_
    refine XL_nil ?_
    kernel_rfl
   refine V_ret ?_
   obtain rfl := some_inj h
   show Post _ _ _ _ _
   exact ⟨.inr rfl, rfl, rfl, rfl⟩
  ·have h := of_false h hc3
   refine V_skip ?_
   show V _ _ _ _
   obtain ⟨y5, hy5, h⟩ := of_bind h
   refine V_sreg (mb 13 4) [] (s1 := ⟨.bot :: .bot :: I y5.1 :: bt 10 [], []⟩) ?_ ?_
   ·refine L0 rfl rfl (E_move (.pt 48 0) rfl (by kernel_rfl)) ?_
    refine XL_cons rfl (X_callR (E' := [(48, .box [.sl (y5.2.1.map c5), Ti y5.2.2.1, .v (.int .u64 y5.2.2.2)])]) [(80000, 48)] 12 (s_spec_l1Cur_bigDisc hy5) cf_spec_l1Cur_bigDisc rfl rfl (by kernel_rfl) rfl (mE_cons (by kernel_rfl) mE_nil) rfl (by kernel_rfl) rfl rfl (by kernel_rfl)) ?_
    refine L0 rfl rfl (E_assign (I y5.1) rfl (by kernel_rfl)) ?_
    refine XL_nil ?_
    kernel_rfl
   refine V_ret ?_
   obtain rfl := some_inj h
   show Post _ _ _ _ _
   exact ⟨.inr rfl, rfl, rfl, rfl⟩
theorem cf_spec_DrawFundamentalPart : ∀ args w, (callFunc 18 args).run Try.prog w = .ok (.enter 18 args) w := run_callFunc Try.func18 (by kernel_rfl) (by kernel_rfl)
set_option maxRecDepth 100000 in
set_option maxHeartbeats 400000 in
theorem s_spec_DrawFundamentalPart {code1 : List Int} {r : Int} (h : r_spec_DrawFundamentalPart code1 = some r) : CallS Try.prog 18 [.c (.sl (code1.map c5))] (I r) [] := by
  refine CallS_of_text (rs := [.t 2]) (vs := [.tmp 2]) Try.func18 rfl rfl (.cons rfl FitsL.nil) (by decide) 5 rfl ?_
  unfold r_spec_DrawFundamentalPart at h
  show V _ _ ⟨.c (.sl (code1.map c5)) :: bt 4 [], []⟩ _
  refine V_sreg (mb 5 1) [] (s1 := ⟨.c (.sl (code1.map c5)) :: bt 4 [], []⟩) ?_ ?_
  ·refine L0 rfl rfl (E_assign (I 0) rfl (by kernel_rfl)) ?_
   refine XL_nil ?_
   kernel_rfl
  obtain ⟨y2, hy2, h⟩ := of_bind h
  refine V_sreg (mb 5 4) [] (s1 := ⟨.bot :: .bot :: I y2 :: .bot :: .bot :: [], []⟩) ?_ ?_
  ·refine L0 rfl rfl (E_move (.c (.sl (code1.map c5))) rfl (by kernel_rfl)) ?_
   refine L1 rfl rfl (Y1_call (s_spec_DrawIsDiscriminant hy2) cf_spec_DrawIsDiscriminant rfl (by kernel_rfl)) ?_
   refine L0 rfl rfl (E_assign (I y2) rfl (by kernel_rfl)) ?_
   refine XL_nil ?_
   kernel_rfl
  refine V_ret ?_
  obtain rfl := some_inj h
  show Post _ _ _ _ _
  exact ⟨.inr rfl, rfl, rfl, rfl⟩
theorem cf_impl_areNumbers : ∀ args w, (callFunc 79 args).run Try.prog w = .ok (.enter 79 args) w := run_callFunc Try.func79 (by kernel_rfl) (by kernel_rfl)
set_option maxRecDepth 100000 in
set_option maxHeartbeats 400000 in
theorem s_impl_areNumbers {list1 : List Int} {r : Bool} (h : r_impl_areNumbers list1 = some r) : CallS Try.prog 79 [.c (.sl (list1.map c3))] (Bo r) [] := by
  refine CallS_of_text (rs := [.t 2]) (vs := [.tmp 2]) Try.func79 rfl rfl (.cons rfl FitsL.nil) (by decide) 18 rfl ?_
  unfold r_impl_areNumbers at h
  show V _ _ ⟨.c (.sl (list1.map c3)) :: bt 17 [], []⟩ _
  refine V_sreg (mb 18 1) [] (s1 := ⟨.c (.sl (list1.map c3)) :: bt 17 [], []⟩) ?_ ?_
  ·refine L0 rfl rfl (E_assign (Bo false) rfl (by kernel_rfl)) ?_
   refine XL_nil ?_
   kernel_rfl
  refine V_seq ?_
  refine V_sreg (mb 18 224) [] (s1 := ⟨bt 5 (.c (.sl (list1.map c3)) :: I ((list1.length : Int)) :: I 0 :: bt 10 []), []⟩) ?_ ?_
  ·refine L0 rfl rfl (E_move (.c (.sl (list1.map c3))) rfl (by kernel_rfl)) ?_
   refine L0 rfl rfl (Y0_lenM (c := c3) (xs := list1) Try.underlying41 rfl (by kernel_rfl)) ?_
   refine L0 rfl rfl (E_move (I 0) rfl (by kernel_rfl)) ?_
   refine XL_nil ?_
   kernel_rfl
  obtain ⟨qo4, hLo4, hko4⟩ := of_bind h
  refine V_toS (q := qo4) (S := fun o4 => ⟨bt 18 [], []⟩) (mb 18 0) [] ?_ ?_
  ·refine V_block (V_loop (fun n s => ∃ (t2 : Int), s.keep (mb 18 224) [] = (⟨bt 5 (.c (.sl (list1.map c3)) :: I ((list1.length : Int)) :: I t2 :: bt 10 []), []⟩ : St) ∧ r_impl_areNumbers_L3 list1 n t2 = some qo4) FU ⟨_,  by rfl, hLo4⟩ ?_)
   clear hLo4
   rintro n s ⟨t2, hs, h⟩
   refine V_keep _ _ hs ?_
   clear hs
   cases n with
   | zero => cases h
   | succ n =>
    rw [r_impl_areNumbers_L3] at h
    refine V_sreg (mb 18 480) [] (s1 := ⟨bt 5 (.c (.sl (list1.map c3)) :: I ((list1.length : Int)) :: I t2 :: Bo (ltI t2 ((list1.length : Int))) :: bt 9 []), []⟩) ?_ ?_
    ·refine L0 rfl rfl (Y0_ltw (k := .i64) (a := t2) (b := (list1.length : Int)) rfl (by kernel_rfl) (by kernel_rfl)) ?_
     refine XL_nil ?_
     kernel_rfl
    refine V_seq ?_
    refine V_cond rfl (fun hc5 => ?_) (fun hc5 => ?_)
    ·have h := of_true h hc5
     refine V_skip ?_
     show V _ _ _ _
     refine V_seq ?_
     refine V_block ?_
     obtain ⟨e6, he6, h⟩ := of_bind h
     refine V_sreg (mb 18 240) [] (s1 := ⟨bt 4 (I e6 :: .c (.sl (list1.map c3)) :: I ((list1.length : Int)) :: I t2 :: bt 10 []), []⟩) ?_ ?_
     ·refine L0 rfl rfl (Y0_idxM (c := c3) (xs := list1) (v := e6) (n := t2) Try.underlying41 sz3 rfl (by kernel_rfl) (by kernel_rfl) he6) ?_
      refine L0 rfl rfl (Y0_load1 (c := Ti e6) (cs := []) sc3 rfl (by kernel_rfl)) ?_
      refine L0 rfl rfl (E_assign (I e6) rfl (by kernel_rfl)) ?_
      refine XL_nil ?_
      kernel_rfl
     refine V_sreg (mb 18 65760) [] (s1 := ⟨bt 5 (.c (.sl (list1.map c3)) :: I ((list1.length : Int)) :: I t2 :: bt 8 (Bo (bif (ltI e6 (-1000000)) then true else (ltI 1000000 e6)) :: .bot :: [])), []⟩) ?_ ?_
     ·refine L0 rfl rfl (E_move (I e6) rfl (by kernel_rfl)) ?_
      refine L0 rfl rfl (Y0_ltw (k := .i64) (a := e6) (b := -1000000) rfl (by kernel_rfl) (by kernel_rfl)) ?_
      refine L0 rfl rfl (E_move (Bo (ltI e6 (-1000000))) rfl (by kernel_rfl)) ?_
      refine XL_split (ltI e6 (-1000000)) (fun hc7 => ?_) (fun hc7 => ?_)
      ·refine XL_skipF _ rfl rfl (by kernel_rfl) hc7 rfl ?_
       refine XL_skipF _ rfl rfl (by kernel_rfl) hc7 rfl ?_
       refine XL_cons rfl (X_of_Y0 rfl (Y0_pick1 (b := ltI e6 (-1000000)) (p := true) (q := ltI 1000000 e6) rfl (by kernel_rfl) hc7 (by kernel_rfl))) ?_
       refine XL_nil ?_
       kernel_rfl
      ·refine XL_takeC _ rfl rfl (by kernel_rfl) hc7 (X_of_Y0 rfl (E_move (I e6) rfl (by kernel_rfl))) ?_
       refine XL_takeC _ rfl rfl (by kernel_rfl) hc7 (X_of_Y0 rfl (Y0_gtw (k := .i64) (a := e6) (b := 1000000) rfl (by kernel_rfl) (by kernel_rfl))) ?_
       refine XL_cons rfl (X_of_Y0 rfl (Y0_pick0 (b := ltI e6 (-1000000)) (p := true) (q := ltI 1000000 e6) rfl (by kernel_rfl) hc7 (by kernel_rfl))) ?_
       refine XL_nil ?_
       kernel_rfl
     refine V_cond rfl (fun hc8 => ?_) (fun hc8 => ?_)
     ·have h := of_true h hc8
      refine V_sreg (mb 18 4) [] (s1 := ⟨.bot :: .bot :: Bo false :: bt 15 [], []⟩) ?_ ?_
      ·refine L0 rfl rfl (E_assign (Bo false) rfl (by kernel_rfl)) ?_
       refine XL_nil ?_
       kernel_rfl
      refine V_ret ?_
      obtain rfl := some_inj h
      have h := hko4
      obtain rfl := some_inj h
      show Post _ _ _ _ _
      exact ⟨.inr rfl, rfl, rfl, rfl⟩
     ·have h := of_false h hc8
      refine V_skip ?_
      show V _ _ _ _
      obtain ⟨t9, ht9, h⟩ := of_sI h
      refine V_reg (mb 18 224) [] (s1 := ⟨bt 5 (.c (.sl (list1.map c3)) :: I ((list1.length : Int)) :: I t9 :: bt 10 []), []⟩) ?_ ?_
      ·refine L0 rfl rfl (Y0_add64 (a := t2) (b := 1) rfl (by kernel_rfl) (by kernel_rfl)) ?_
       refine L0 rfl rfl (E_move (I (w64 (t2 + 1))) rfl (by kernel_rfl)) ?_
       refine XL_nil ?_
       subst ht9
       kernel_rfl
      exact ⟨n, Nat.lt_succ_self n, _,  by rfl, h⟩
    ·have h := of_false h hc5
     refine V_exit ?_
     obtain rfl := some_inj h
     exact ⟨_, rfl, by rfl⟩
  rintro o4 rfl
  have h := hko4
  clear hko4
  show V _ _ _ _
  refine V_sreg (mb 18 4) [] (s1 := ⟨.bot :: .bot :: Bo true :: bt 15 [], []⟩) ?_ ?_
  ·refine L0 rfl rfl (E_assign (Bo true) rfl (by kernel_rfl)) ?_
   refine XL_nil ?_
   kernel_rfl
  refine V_ret ?_
  obtain rfl := some_inj h
  show Post _ _ _ _ _
  exact ⟨.inr rfl, rfl, rfl, rfl⟩
theorem cf_impl_mod : ∀ args w, (callFunc 58 args).run Try.prog w = .ok (.enter 58 args) w := run_callFunc Try.func58 (by kernel_rfl) (by kernel_rfl)
set_option maxRecDepth 100000 in
set_option maxHeartbeats 400000 in
theorem s_impl_mod {a1 : Int} {vm2 : Int} {r : Int} (h : r_impl_mod a1 vm2 = some r) : CallS Try.prog 58 [I a1, I vm2] (I r) [] := by
  refine CallS_of_text (rs := [.t 4]) (vs := [.tmp 4]) Try.func58 rfl rfl (.cons rfl FitsL.nil) (by decide) 15 rfl ?_
  unfold r_impl_mod at h
  show V _ _ ⟨I a1 :: I vm2 :: bt 13 [], []⟩ _
  refine V_sreg (mb 15 3) [] (s1 := ⟨I a1 :: I vm2 :: bt 13 [], []⟩) ?_ ?_
  ·refine L0 rfl rfl (E_assign (I 0) rfl (by kernel_rfl)) ?_
   refine XL_nil ?_
   kernel_rfl
  obtain ⟨z3, hz3, h⟩ := of_bind h
  obtain ⟨vr4, hvr4, h⟩ := of_sI h
  refine V_sreg (mb 15 34) [] (s1 := ⟨.bot :: I vm2 :: bt 3 (I vr4 :: bt 9 []), []⟩) ?_ ?_
  ·refine L0 rfl rfl (E_move (I a1) rfl (by kernel_rfl)) ?_
   refine L0 rfl rfl (E_move (I vm2) rfl (by kernel_rfl)) ?_
   refine L0 rfl rfl (Y0_rem (k := .i64) (a := a1) (b := vm2) rfl (by kernel_rfl) (by kernel_rfl) (nz_some hz3)) ?_
   refine L0 rfl rfl (E_assign (I (Int.tmod a1 vm2)) rfl (by kernel_rfl)) ?_
   refine XL_nil ?_
   subst hvr4
   kernel_rfl
  refine V_seq ?_
  refine V_sreg (mb 15 1058) [] (s1 := ⟨.bot :: I vm2 :: bt 3 (I vr4 :: bt 4 (Bo (ltI vr4 0) :: bt 4 [])), []⟩) ?_ ?_
  ·refine L0 rfl rfl (E_move (I vr4) rfl (by kernel_rfl)) ?_
   refine L0 rfl rfl (Y0_ltw (k := .i64) (a := vr4) (b := 0) rfl (by kernel_rfl) (by kernel_rfl)) ?_
   refine XL_nil ?_
   kernel_rfl
  refine V_cond rfl (fun hc5 => ?_) (fun hc5 => ?_)
  ·have h := of_true h hc5
   obtain ⟨vr6, hvr6, h⟩ := of_sI h
   refine V_reg (mb 15 32) [] (s1 := ⟨bt 5 (I vr6 :: bt 9 []), []⟩) ?_ ?_
   ·refine L0 rfl rfl (E_move (I vr4) rfl (by kernel_rfl)) ?_
    refine L0 rfl rfl (E_move (I vm2) rfl (by kernel_rfl)) ?_
    refine L0 rfl rfl (Y0_add64 (a := vr4) (b := vm2) rfl (by kernel_rfl) (by kernel_rfl)) ?_
    refine L0 rfl rfl (E_assign (I (w64 (vr4 + vm2))) rfl (by kernel_rfl)) ?_
    refine XL_nil ?_
    subst hvr6
    kernel_rfl
   show V _ _ _ _
   refine V_sreg (mb 15 16) [] (s1 := ⟨bt 4 (I vr6 :: bt 10 []), []⟩) ?_ ?_
   ·refine L0 rfl rfl (E_move (I vr6) rfl (by kernel_rfl)) ?_
    refine L0 rfl rfl (E_assign (I vr6) rfl (by kernel_rfl)) ?_
    refine XL_nil ?_
    kernel_rfl
   refine V_ret ?_
   obtain rfl := some_inj h
   show Post _ _ _ _ _
   exact ⟨.inr rfl, rfl, rfl, rfl⟩
  ·have h := of_false h hc5
   refine V_skip ?_
   show V _ _ _ _
   refine V_sreg (mb 15 16) [] (s1 := ⟨bt 4 (I vr4 :: bt 10 []), []⟩) ?_ ?_
   ·refine L0 rfl rfl (E_move (I vr4) rfl (by kernel_rfl)) ?_
    refine L0 rfl rfl (E_assign (I vr4) rfl (by kernel_rfl)) ?_
    refine XL_nil ?_
    kernel_rfl
   refine V_ret ?_
   obtain rfl := some_inj h
   show Post _ _ _ _ _
   exact ⟨.inr rfl, rfl, rfl, rfl⟩
theorem cf_impl_root : ∀ args w, (callFunc 195 args).run Try.prog w = .ok (.enter 195 args) w := run_callFunc Try.func195 (by kernel_rfl) (by kernel_rfl)
set_option maxRecDepth 100000 in
set_option maxHeartbeats 400000 in
theorem s_impl_root {vn1 : Int} {r : Int} (h : r_impl_root vn1 = some r) : CallS Try.prog 195 [I vn1] (I r) [] := by
  refine CallS_of_text (rs := [.t 2]) (vs := [.tmp 2]) Try.func195 rfl rfl (.cons rfl FitsL.nil) (by decide) 23 rfl ?_
  unfold r_impl_root at h
  show V _ _ ⟨I vn1 :: bt 22 [], []⟩ _
  refine V_sreg (mb 23 1) [] (s1 := ⟨I vn1 :: bt 22 [], []⟩) ?_ ?_
  ·refine L0 rfl rfl (E_assign (I 0) rfl (by kernel_rfl)) ?_
   refine XL_nil ?_
   kernel_rfl
  refine V_sreg (mb 23 25) [] (s1 := ⟨I vn1 :: .bot :: .bot :: I 0 :: I 3000000000 :: bt 18 [], []⟩) ?_ ?_
  ·refine L0 rfl rfl (E_assign (I 0) rfl (by kernel_rfl)) ?_
   refine L0 rfl rfl (E_assign (I 3000000000) rfl (by kernel_rfl)) ?_
   refine XL_nil ?_
   kernel_rfl
  refine V_seq ?_
  obtain ⟨o5, hLo5, h⟩ := of_bind h
  refine V_toK (mb 23 8) [] (s1 := ⟨bt 3 (I o5 :: bt 19 []), []⟩) ?_ ?_
  ·clear h
   refine V_block (V_loop (fun n s => ∃ (low2 : Int) (high3 : Int), s.keep (mb 23 25) [] = (⟨I vn1 :: .bot :: .bot :: I low2 :: I high3 :: bt 18 [], []⟩ : St) ∧ r_impl_root_L4 vn1 n low2 high3 = some o5) FU ⟨_, _,  by rfl, hLo5⟩ ?_)
   clear hLo5
   rintro n s ⟨low2, high3, hs, h⟩
   refine V_keep _ _ hs ?_
   clear hs
   cases n with
   | zero => cases h
   | succ n =>
    rw [r_impl_root_L4] at h
    refine V_seq ?_
    refine V_sreg (mb 23 281) [] (s1 := ⟨I vn1 :: .bot :: .bot :: I low2 :: I high3 :: bt 3 (Bo (ltI low2 high3) :: bt 14 []), []⟩) ?_ ?_
    ·refine L0 rfl rfl (E_move (I low2) rfl (by kernel_rfl)) ?_
     refine L0 rfl rfl (E_move (I high3) rfl (by kernel_rfl)) ?_
     refine L0 rfl rfl (Y0_ltw (k := .i64) (a := low2) (b := high3) rfl (by kernel_rfl) (by kernel_rfl)) ?_
     refine XL_nil ?_
     kernel_rfl
    refine V_cond rfl (fun hc6 => ?_) (fun hc6 => ?_)
    ·have h := of_true h hc6
     refine V_skip ?_
     show V _ _ _ _
     refine V_block ?_
     obtain ⟨vm7, hvm7, h⟩ := of_sI h
     refine V_sreg (mb 23 57) [] (s1 := ⟨I vn1 :: .bot :: .bot :: I low2 :: I high3 :: I vm7 :: bt 17 [], []⟩) ?_ ?_
     ·refine L0 rfl rfl (E_move (I low2) rfl (by kernel_rfl)) ?_
      refine L0 rfl rfl (E_move (I high3) rfl (by kernel_rfl)) ?_
      refine L0 rfl rfl (Y0_add64 (a := low2) (b := high3) rfl (by kernel_rfl) (by kernel_rfl)) ?_
      refine L0 rfl rfl (Y0_add64 (a := w64 (low2 + high3)) (b := 1) rfl (by kernel_rfl) (by kernel_rfl)) ?_
      refine L0 rfl rfl (Y0_quo64 (a := w64 ((w64 (low2 + high3)) + 1)) (b := 2) rfl (by kernel_rfl) (by kernel_rfl) (by decide)) ?_
      refine L0 rfl rfl (E_assign (I (w64 (Int.tdiv (w64 ((w64 (low2 + high3)) + 1)) 2))) rfl (by kernel_rfl)) ?_
      refine XL_nil ?_
      subst hvm7
      kernel_rfl
     refine V_sreg (mb 23 262201) [] (s1 := ⟨I vn1 :: .bot :: .bot :: I low2 :: I high3 :: I vm7 :: bt 12 (Bo (leI (w64 (vm7 * vm7)) vn1) :: bt 4 []), []⟩) ?_ ?_
     ·refine L0 rfl rfl (E_move (I vm7) rfl (by kernel_rfl)) ?_
      refine L0 rfl rfl (E_move (I vm7) rfl (by kernel_rfl)) ?_
      refine L0 rfl rfl (Y0_mul64 (a := vm7) (b := vm7) rfl (by kernel_rfl) (by kernel_rfl)) ?_
      refine L0 rfl rfl (E_move (I vn1) rfl (by kernel_rfl)) ?_
      refine L0 rfl rfl (Y0_lew (k := .i64) (a := w64 (vm7 * vm7)) (b := vn1) rfl (by kernel_rfl) (by kernel_rfl)) ?_
      refine XL_nil ?_
      kernel_rfl
     refine V_cond rfl (fun hc8 => ?_) (fun hc8 => ?_)
     ·have h := of_true h hc8
      refine V_reg (mb 23 25) [] (s1 := ⟨I vn1 :: .bot :: .bot :: I vm7 :: I high3 :: bt 18 [], []⟩) ?_ ?_
      ·refine L0 rfl rfl (E_move (I vm7) rfl (by kernel_rfl)) ?_
       refine L0 rfl rfl (E_assign (I vm7) rfl (by kernel_rfl)) ?_
       refine XL_nil ?_
       kernel_rfl
      exact ⟨n, Nat.lt_succ_self n, _, _,  by rfl, h⟩
     ·have h := of_false h hc8
      obtain ⟨high9, hhigh9, h⟩ := of_sI h
      refine V_reg (mb 23 25) [] (s1 := ⟨I vn1 :: .bot :: .bot :: I low2 :: I high9 :: bt 18 [], []⟩) ?_ ?_
      ·refine L0 rfl rfl (E_move (I vm7) rfl (by kernel_rfl)) ?_
       refine L0 rfl rfl (Y0_sub64 (a := vm7) (b := 1) rfl (by kernel_rfl) (by kernel_rfl)) ?_
       refine L0 rfl rfl (E_assign (I (w64 (vm7 - 1))) rfl (by kernel_rfl)) ?_
       refine XL_nil ?_
       subst hhigh9
       kernel_rfl
      exact ⟨n, Nat.lt_succ_self n, _, _,  by rfl, h⟩
    ·have h := of_false h hc6
     refine V_exit ?_
     obtain rfl := some_inj h
     show St.keep _ _ _ = _
     rfl
  show V _ _ _ _
  refine V_sreg (mb 23 4) [] (s1 := ⟨.bot :: .bot :: I o5 :: bt 20 [], []⟩) ?_ ?_
  ·refine L0 rfl rfl (E_move (I o5) rfl (by kernel_rfl)) ?_
   refine L0 rfl rfl (E_assign (I o5) rfl (by kernel_rfl)) ?_
   refine XL_nil ?_
   kernel_rfl
  refine V_ret ?_
  obtain rfl := some_inj h
  show Post _ _ _ _ _
  exact ⟨.inr rfl, rfl, rfl, rfl⟩
theorem cf_impl_isSquare : ∀ args w, (callFunc 138 args).run Try.prog w = .ok (.enter 138 args) w := run_callFunc Try.func138 (by kernel_rfl) (by kernel_rfl)
set_option maxRecDepth 100000 in
set_option maxHeartbeats 400000 in
theorem s_impl_isSquare {vn1 : Int} {r : Bool} (h : r_impl_isSquare vn1 = some r) : CallS Try.prog 138 [I vn1] (Bo r) [] := by
  refine CallS_of_text (rs := [.t 2]) (vs := [.tmp 2]) Try.func138 rfl rfl (.cons rfl FitsL.nil) (by decide) 14 rfl ?_
  unfold r_impl_isSquare at h
  show V _ _ ⟨I vn1 :: bt 13 [], []⟩ _
  refine V_sreg (mb 14 1) [] (s1 := ⟨I vn1 :: bt 13 [], []⟩) ?_ ?_
  ·refine L0 rfl rfl (E_assign (Bo false) rfl (by kernel_rfl)) ?_
   refine XL_nil ?_
   kernel_rfl
  obtain ⟨b5, hb5, h⟩ := of_bind h
  refine V_sreg (mb 14 4) [] (s1 := ⟨.bot :: .bot :: Bo b5 :: bt 11 [], []⟩) ?_ ?_
  ·refine L0 rfl rfl (E_move (I vn1) rfl (by kernel_rfl)) ?_
   refine L0 rfl rfl (Y0_gew (k := .i64) (a := vn1) (b := 0) rfl (by kernel_rfl) (by kernel_rfl)) ?_
   refine L0 rfl rfl (E_move (Bo (leI 0 vn1)) rfl (by kernel_rfl)) ?_
   refine XL_split (leI 0 vn1) (fun hc2 => ?_) (fun hc2 => ?_)
   ·have hb5 := of_true hb5 hc2
    obtain ⟨y3, hy3, hb5⟩ := of_bind hb5
    obtain ⟨y4, hy4, hb5⟩ := of_bind hb5
    have hb5 := some_inj hb5
    refine XL_takeC _ rfl rfl (by kernel_rfl) hc2 (X_of_Y0 rfl (E_move (I vn1) rfl (by kernel_rfl))) ?_
    refine XL_takeC _ rfl rfl (by kernel_rfl) hc2 (X_of_Y1 rfl (Y1_call (s_impl_root hy3) cf_impl_root rfl (by kernel_rfl))) ?_
    refine XL_takeC _ rfl rfl (by kernel_rfl) hc2 (X_of_Y0 rfl (E_move (I vn1) rfl (by kernel_rfl))) ?_
    refine XL_takeC _ rfl rfl (by kernel_rfl) hc2 (X_of_Y1 rfl (Y1_call (s_impl_root hy4) cf_impl_root rfl (by kernel_rfl))) ?_
    refine XL_takeC _ rfl rfl (by kernel_rfl) hc2 (X_of_Y0 rfl (Y0_mul64 (a := y3) (b := y4) rfl (by kernel_rfl) (by kernel_rfl))) ?_
    refine XL_takeC _ rfl rfl (by kernel_rfl) hc2 (X_of_Y0 rfl (E_move (I vn1) rfl (by kernel_rfl))) ?_
    refine XL_takeC _ rfl rfl (by kernel_rfl) hc2 (X_of_Y0 rfl (Y0_eqw (k := .i64) (a := w64 (y3 * y4)) (b := vn1) rfl (by kernel_rfl) (by kernel_rfl))) ?_
    refine XL_cons rfl (X_of_Y0 rfl (Y0_pickTe (b := leI 0 vn1) (p := eqI (w64 (y3 * y4)) vn1) rfl (by kernel_rfl) hc2 (by kernel_rfl) hb5)) ?_
    refine L0 rfl rfl (E_assign (Bo b5) rfl (by kernel_rfl)) ?_
    refine XL_nil ?_
    kernel_rfl
   ·have hb5 := some_inj (of_false hb5 hc2)
    refine XL_skipT _ rfl rfl (by kernel_rfl) hc2 rfl ?_
    refine XL_skipT _ rfl rfl (by kernel_rfl) hc2 rfl ?_
    refine XL_skipT _ rfl rfl (by kernel_rfl) hc2 rfl ?_
    refine XL_skipT _ rfl rfl (by kernel_rfl) hc2 rfl ?_
    refine XL_skipT _ rfl rfl (by kernel_rfl) hc2 rfl ?_
    refine XL_skipT _ rfl rfl (by kernel_rfl) hc2 rfl ?_
    refine XL_skipT _ rfl rfl (by kernel_rfl) hc2 rfl ?_
    refine XL_cons rfl (X_of_Y0 rfl (Y0_pickFe (b := leI 0 vn1) (p := false) rfl (by kernel_rfl) hc2 (by kernel_rfl) hb5)) ?_
    refine L0 rfl rfl (E_assign (Bo b5) rfl (by kernel_rfl)) ?_
    refine XL_nil ?_
    kernel_rfl
  refine V_ret ?_
  obtain rfl := some_inj h
  show Post _ _ _ _ _
  exact ⟨.inr rfl, rfl, rfl, rfl⟩
theorem cf_impl_isDiscriminant : ∀ args w, (callFunc 71 args).run Try.prog w = .ok (.enter 71 args) w := run_callFunc Try.func71 (by kernel_rfl) (by kernel_rfl)
set_option maxRecDepth 100000 in
set_option maxHeartbeats 400000 in
theorem s_impl_isDiscriminant {d1 : Int} {r : Bool} (h : r_impl_isDiscriminant d1 = some r) : CallS Try.prog 71 [I d1] (Bo r) [] := by
  refine CallS_of_text (rs := [.t 2]) (vs := [.tmp 2]) Try.func71 rfl rfl (.cons rfl FitsL.nil) (by decide) 16 rfl ?_
  unfold r_impl_isDiscriminant at h
  show V _ _ ⟨I d1 :: bt 15 [], []⟩ _
  refine V_sreg (mb 16 1) [] (s1 := ⟨I d1 :: bt 15 [], []⟩) ?_ ?_
  ·refine L0 rfl rfl (E_assign (Bo false) rfl (by kernel_rfl)) ?_
   refine XL_nil ?_
   kernel_rfl
  obtain ⟨y2, hy2, h⟩ := of_bind h
  obtain ⟨b5, hb5, h⟩ := of_bind h
  obtain ⟨b8, hb8, h⟩ := of_bind h
  refine V_sreg (mb 16 4) [] (s1 := ⟨.bot :: .bot :: Bo b8 :: bt 13 [], []⟩) ?_ ?_
  ·refine L0 rfl rfl (E_move (I d1) rfl (by kernel_rfl)) ?_
   refine L1 rfl rfl (Y1_bslice (z := zv3) (els := [d1].map c3) Try.underlying41 iz3 rfl (by decide) rfl (by kernel_rfl) rfl (by simp [c3]) (by decide) (by decide)) ?_
   refine L1 rfl rfl (Y1_callS (s_impl_areNumbers hy2) cf_impl_areNumbers rfl (by kernel_rfl) rfl rfl) ?_
   refine L0 rfl rfl (E_move (Bo y2) rfl (by kernel_rfl)) ?_
   refine XL_split y2 (fun hc3 => ?_) (fun hc3 => ?_)
   ·have hb5 := of_true hb5 hc3
    obtain ⟨y4, hy4, hb5⟩ := of_bind hb5
    have hb5 := some_inj hb5
    refine XL_takeC _ rfl rfl (by kernel_rfl) hc3 (X_of_Y0 rfl (E_move (I d1) rfl (by kernel_rfl))) ?_
    refine XL_takeC _ rfl rfl (by kernel_rfl) hc3 (X_of_Y1 rfl (Y1_call (s_impl_mod hy4) cf_impl_mod rfl (by kernel_rfl))) ?_
    refine XL_takeC _ rfl rfl (by kernel_rfl) hc3 (X_of_Y0 rfl (Y0_lew (k := .i64) (a := y4) (b := 1) rfl (by kernel_rfl) (by kernel_rfl))) ?_
    refine XL_cons rfl (X_of_Y0 rfl (Y0_pickTe (b := y2) (p := leI y4 1) rfl (by kernel_rfl) hc3 (by kernel_rfl) hb5)) ?_
    refine L0 rfl rfl (E_move (Bo b5) rfl (by kernel_rfl)) ?_
    refine XL_split b5 (fun hc6 => ?_) (fun hc6 => ?_)
    ·have hb8 := of_true hb8 hc6
     obtain ⟨y7, hy7, hb8⟩ := of_bind hb8
     have hb8 := some_inj hb8
     refine XL_takeC _ rfl rfl (by kernel_rfl) hc6 (X_of_Y0 rfl (E_move (I d1) rfl (by kernel_rfl))) ?_
     refine XL_takeC _ rfl rfl (by kernel_rfl) hc6 (X_of_Y1 rfl (Y1_call (s_impl_isSquare hy7) cf_impl_isSquare rfl (by kernel_rfl))) ?_
     refine XL_takeC _ rfl rfl (by kernel_rfl) hc6 (X_of_Y0 rfl (Y0_not (b := y7) rfl (by kernel_rfl))) ?_
     refine XL_cons rfl (X_of_Y0 rfl (Y0_pickTe (b := b5) (p := !y7) rfl (by kernel_rfl) hc6 (by kernel_rfl) hb8)) ?_
     refine L0 rfl rfl (E_assign (Bo b8) rfl (by kernel_rfl)) ?_
     refine XL_nil ?_
     kernel_rfl
    ·have hb8 := some_inj (of_false hb8 hc6)
     refine XL_skipT _ rfl rfl (by kernel_rfl) hc6 rfl ?_
     refine XL_skipT _ rfl rfl (by kernel_rfl) hc6 rfl ?_
     refine XL_skipT _ rfl rfl (by kernel_rfl) hc6 rfl ?_
     refine XL_cons rfl (X_of_Y0 rfl (Y0_pickFe (b := b5) (p := false) rfl (by kernel_rfl) hc6 (by kernel_rfl) hb8)) ?_
     refine L0 rfl rfl (E_assign (Bo b8) rfl (by kernel_rfl)) ?_
     refine XL_nil ?_
     kernel_rfl
   ·have hb5 := some_inj (of_false hb5 hc3)
    refine XL_skipT _ rfl rfl (by kernel_rfl) hc3 rfl ?_
    refine XL_skipT _ rfl rfl (by kernel_rfl) hc3 rfl ?_
    refine XL_skipT _ rfl rfl (by kernel_rfl) hc3 rfl ?_
    refine XL_cons rfl (X_of_Y0 rfl (Y0_pickFe (b := y2) (p := false) rfl (by kernel_rfl) hc3 (by kernel_rfl) hb5)) ?_
    refine L0 rfl rfl (E_move (Bo b5) rfl (by kernel_rfl)) ?_
    refine XL_split b5 (fun hc6 => ?_) (fun hc6 => ?_)
    ·have hb8 := of_true hb8 hc6
     obtain ⟨y7, hy7, hb8⟩ := of_bind hb8
     have hb8 := some_inj hb8
     refine XL_takeC _ rfl rfl (by kernel_rfl) hc6 (X_of_Y0 rfl (E_move (I d1) rfl (by kernel_rfl))) ?_
     refine XL_takeC _ rfl rfl (by kernel_rfl) hc6 (X_of_Y1 rfl (Y1_call (s_impl_isSquare hy7) cf_impl_isSquare rfl (by kernel_rfl))) ?_
     refine XL_takeC _ rfl rfl (by kernel_rfl) hc6 (X_of_Y0 rfl (Y0_not (b := y7) rfl (by kernel_rfl))) ?_
     refine XL_cons rfl (X_of_Y0 rfl (Y0_pickTe (b := b5) (p := !y7) rfl (by kernel_rfl) hc6 (by kernel_rfl) hb8)) ?_
     refine L0 rfl rfl (E_assign (Bo b8) rfl (by kernel_rfl)) ?_
     refine XL_nil ?_
     kernel_rfl
    ·have hb8 := some_inj (of_false hb8 hc6)
     refine XL_skipT _ rfl rfl (by kernel_rfl) hc6 rfl ?_
     refine XL_skipT _ rfl rfl (by kernel_rfl) hc6 rfl ?_
     refine XL_skipT _ rfl rfl (by kernel_rfl) hc6 rfl ?_
     refine XL_cons rfl (X_of_Y0 rfl (Y0_pickFe (b := b5) (p := false) rfl (by kernel_rfl) hc6 (by kernel_rfl) hb8)) ?_
     refine L0 rfl rfl (E_assign (Bo b8) rfl (by kernel_rfl)) ?_
     refine XL_nil ?_
     kernel_rfl
  refine V_ret ?_
  obtain rfl := some_inj h
  show Post _ _ _ _ _
  exact ⟨.inr rfl, rfl, rfl, rfl⟩
theorem cf_impl_abs : ∀ args w, (callFunc 121 args).run Try.prog w = .ok (.enter 121 args) w := run_callFunc Try.func121 (by kernel_rfl) (by kernel_rfl)
set_option maxRecDepth 100000 in
set_option maxHeartbeats 400000 in
theorem s_impl_abs {vn1 : Int} {r : Int} (h : r_impl_abs vn1 = some r) : CallS Try.prog 121 [I vn1] (I r) [] := by
  refine CallS_of_text (rs := [.t 2]) (vs := [.tmp 2]) Try.func121 rfl rfl (.cons rfl FitsL.nil) (by decide) 8 rfl ?_
  unfold r_impl_abs at h
  show V _ _ ⟨I vn1 :: bt 7 [], []⟩ _
  refine V_sreg (mb 8 1) [] (s1 := ⟨I vn1 :: bt 7 [], []⟩) ?_ ?_
  ·refine L0 rfl rfl (E_assign (I 0) rfl (by kernel_rfl)) ?_
   refine XL_nil ?_
   kernel_rfl
  obtain ⟨t2, ht2, h⟩ := of_sI h
  refine V_sreg (mb 8 4) [] (s1 := ⟨.bot :: .bot :: I t2 :: bt 5 [], []⟩) ?_ ?_
  ·refine L0 rfl rfl (E_move (I vn1) rfl (by kernel_rfl)) ?_
   refine L0 rfl rfl (E_move (I vn1) rfl (by kernel_rfl)) ?_
   refine L0 rfl rfl (Y0_max (a := vn1) (b := -9223372036854775807) rfl (by kernel_rfl) (by kernel_rfl)) ?_
   refine L0 rfl rfl (Y0_neg64 (a := mxI vn1 (-9223372036854775807)) rfl (by kernel_rfl)) ?_
   refine L0 rfl rfl (Y0_max (a := vn1) (b := w64 (0 - (mxI vn1 (-9223372036854775807)))) rfl (by kernel_rfl) (by kernel_rfl)) ?_
   refine L0 rfl rfl (E_assign (I (mxI vn1 (w64 (0 - (mxI vn1 (-9223372036854775807)))))) rfl (by kernel_rfl)) ?_
   refine XL_nil ?_
   subst ht2
   kernel_rfl
  refine V_ret ?_
  obtain rfl := some_inj h
  show Post _ _ _ _ _
  exact ⟨.inr rfl, rfl, rfl, rfl⟩
theorem cf_impl_squareFree : ∀ args w, (callFunc 139 args).run Try.prog w = .ok (.enter 139 args) w := run_callFunc Try.func139 (by kernel_rfl) (by kernel_rfl)
set_option maxRecDepth 100000 in
set_option maxHeartbeats 400000 in
theorem s_impl_squareFree {vn1 : Int} {r : (Int × Int)} (h : r_impl_squareFree vn1 = some r) : CallS Try.prog 139 [I vn1] (.tc (I r.1) (.tc (I r.2) .tn)) [] := by
  refine CallS_of_text (rs := [.t 2, .t 3]) (vs := [.tmp 2, .tmp 3]) Try.func139 rfl rfl (.cons rfl (.cons rfl FitsL.nil)) (by decide) 30 rfl ?_
  unfold r_impl_squareFree at h
  show V _ _ ⟨I vn1 :: bt 29 [], []⟩ _
  refine V_sreg (mb 30 1) [] (s1 := ⟨I vn1 :: bt 29 [], []⟩) ?_ ?_
  ·refine L0 rfl rfl (E_assign (I 0) rfl (by kernel_rfl)) ?_
   refine L0 rfl rfl (E_assign (I 0) rfl (by kernel_rfl)) ?_
   refine XL_nil ?_
   kernel_rfl
  refine V_sreg (mb 30 17) [] (s1 := ⟨I vn1 :: bt 3 (I 1 :: bt 25 []), []⟩) ?_ ?_
  ·refine L0 rfl rfl (E_assign (I 1) rfl (by kernel_rfl)) ?_
   refine XL_nil ?_
   kernel_rfl
  refine V_seq ?_
  refine V_sreg (mb 30 49) [] (s1 := ⟨I vn1 :: bt 3 (I 1 :: I 2 :: bt 24 []), []⟩) ?_ ?_
  ·refine L0 rfl rfl (E_assign (I 2) rfl (by kernel_rfl)) ?_
   refine XL_nil ?_
   kernel_rfl
  obtain ⟨o6, hLo6, h⟩ := of_bind h
  refine V_toK (mb 30 17) [] (s1 := ⟨I o6.1 :: bt 3 (I o6.2 :: bt 25 []), []⟩) ?_ ?_
  ·clear h
   refine V_block (V_loop (fun n s => ∃ (vn2 : Int) (k3 : Int) (p4 : Int), s.keep (mb 30 49) [] = (⟨I vn2 :: bt 3 (I k3 :: I p4 :: bt 24 []), []⟩ : St) ∧ r_impl_squareFree_L5 n vn2 k3 p4 = some o6) FU ⟨_, _, _,  by rfl, hLo6⟩ ?_)
   clear hLo6
   rintro n s ⟨vn2, k3, p4, hs, h⟩
   refine V_keep _ _ hs ?_
   clear hs
   cases n with
   | zero => cases h
   | succ n =>
    rw [r_impl_squareFree_L5] at h
    refine V_seq ?_
    obtain ⟨y7, hy7, h⟩ := of_bind h
    refine V_sreg (mb 30 2097) [] (s1 := ⟨I vn2 :: bt 3 (I k3 :: I p4 :: bt 5 (Bo (leI (w64 (p4 * p4)) y7) :: bt 18 [])), []⟩) ?_ ?_
    ·refine L0 rfl rfl (E_move (I p4) rfl (by kernel_rfl)) ?_
     refine L0 rfl rfl (E_move (I p4) rfl (by kernel_rfl)) ?_
     refine L0 rfl rfl (Y0_mul64 (a := p4) (b := p4) rfl (by kernel_rfl) (by kernel_rfl)) ?_
     refine L0 rfl rfl (E_move (I vn2) rfl (by kernel_rfl)) ?_
     refine L1 rfl rfl (Y1_call (s_impl_abs hy7) cf_impl_abs rfl (by kernel_rfl)) ?_
     refine L0 rfl rfl (Y0_lew (k := .i64) (a := w64 (p4 * p4)) (b := y7) rfl (by kernel_rfl) (by kernel_rfl)) ?_
     refine XL_nil ?_
     kernel_rfl
    refine V_cond rfl (fun hc8 => ?_) (fun hc8 => ?_)
    ·have h := of_true h hc8
     refine V_skip ?_
     show V _ _ _ _
     refine V_seq ?_
     refine V_block ?_
     obtain ⟨o12, hLo12, h⟩ := of_bind h
     refine V_toK (mb 30 49) [] (s1 := ⟨I o12.1 :: bt 3 (I o12.2 :: I p4 :: bt 24 []), []⟩) ?_ ?_
     ·clear h
      refine V_block (V_loop (fun n s => ∃ (vn9 : Int) (k10 : Int), s.keep (mb 30 49) [] = (⟨I vn9 :: bt 3 (I k10 :: I p4 :: bt 24 []), []⟩ : St) ∧ r_impl_squareFree_L11 p4 n vn9 k10 = some o12) FU ⟨_, _,  by rfl, hLo12⟩ ?_)
      clear hLo12
      rintro n s ⟨vn9, k10, hs, h⟩
      refine V_keep _ _ hs ?_
      clear hs
      cases n with
      | zero => cases h
      | succ n =>
       rw [r_impl_squareFree_L11] at h
       refine V_seq ?_
       obtain ⟨z13, hz13, h⟩ := of_bind h
       refine V_sreg (mb 30 524337) [] (s1 := ⟨I vn9 :: bt 3 (I k10 :: I p4 :: bt 13 (Bo (eqI (Int.tmod vn9 (w64 (p4 * p4))) 0) :: bt 10 [])), []⟩) ?_ ?_
       ·refine L0 rfl rfl (E_move (I vn9) rfl (by kernel_rfl)) ?_
        refine L0 rfl rfl (E_move (I p4) rfl (by kernel_rfl)) ?_
        refine L0 rfl rfl (E_move (I p4) rfl (by kernel_rfl)) ?_
        refine L0 rfl rfl (Y0_mul64 (a := p4) (b := p4) rfl (by kernel_rfl) (by kernel_rfl)) ?_
        refine L0 rfl rfl (Y0_rem (k := .i64) (a := vn9) (b := w64 (p4 * p4)) rfl (by kernel_rfl) (by kernel_rfl) (nz_some hz13)) ?_
        refine L0 rfl rfl (Y0_eqw (k := .i64) (a := Int.tmod vn9 (w64 (p4 * p4))) (b := 0) rfl (by kernel_rfl) (by kernel_rfl)) ?_
        refine XL_nil ?_
        kernel_rfl
       refine V_cond rfl (fun hc14 => ?_) (fun hc14 => ?_)
       ·have h := of_true h hc14
        refine V_skip ?_
        show V _ _ _ _
        refine V_block ?_
        obtain ⟨z15, hz15, h⟩ := of_bind h
        obtain ⟨vn16, hvn16, h⟩ := of_sI h
        refine V_sreg (mb 30 49) [] (s1 := ⟨I vn16 :: bt 3 (I k10 :: I p4 :: bt 24 []), []⟩) ?_ ?_
        ·refine L0 rfl rfl (E_move (I vn9) rfl (by kernel_rfl)) ?_
         refine L0 rfl rfl (E_move (I p4) rfl (by kernel_rfl)) ?_
         refine L0 rfl rfl (E_move (I p4) rfl (by kernel_rfl)) ?_
         refine L0 rfl rfl (Y0_mul64 (a := p4) (b := p4) rfl (by kernel_rfl) (by kernel_rfl)) ?_
         refine L0 rfl rfl (Y0_quo64 (a := vn9) (b := w64 (p4 * p4)) rfl (by kernel_rfl) (by kernel_rfl) (nz_some hz15)) ?_
         refine L0 rfl rfl (E_assign (I (w64 (Int.tdiv vn9 (w64 (p4 * p4))))) rfl (by kernel_rfl)) ?_
         refine XL_nil ?_
         subst hvn16
         kernel_rfl
        obtain ⟨k17, hk17, h⟩ := of_sI h
        refine V_reg (mb 30 49) [] (s1 := ⟨I vn16 :: bt 3 (I k17 :: I p4 :: bt 24 []), []⟩) ?_ ?_
        ·refine L0 rfl rfl (E_move (I k10) rfl (by kernel_rfl)) ?_
         refine L0 rfl rfl (E_move (I p4) rfl (by kernel_rfl)) ?_
         refine L0 rfl rfl (Y0_mul64 (a := k10) (b := p4) rfl (by kernel_rfl) (by kernel_rfl)) ?_
         refine L0 rfl rfl (E_assign (I (w64 (k10 * p4))) rfl (by kernel_rfl)) ?_
         refine XL_nil ?_
         subst hk17
         kernel_rfl
        exact ⟨n, Nat.lt_succ_self n, _, _,  by rfl, h⟩
       ·have h := of_false h hc14
        refine V_exit ?_
        obtain rfl := some_inj h
        show St.keep _ _ _ = _
        rfl
     show V _ _ _ _
     obtain ⟨p18, hp18, h⟩ := of_sI h
     refine V_reg (mb 30 49) [] (s1 := ⟨I o12.1 :: bt 3 (I o12.2 :: I p18 :: bt 24 []), []⟩) ?_ ?_
     ·refine L0 rfl rfl (E_move (I p4) rfl (by kernel_rfl)) ?_
      refine L0 rfl rfl (Y0_add64 (a := p4) (b := 1) rfl (by kernel_rfl) (by kernel_rfl)) ?_
      refine L0 rfl rfl (E_assign (I (w64 (p4 + 1))) rfl (by kernel_rfl)) ?_
      refine XL_nil ?_
      subst hp18
      kernel_rfl
     exact ⟨n, Nat.lt_succ_self n, _, _, _,  by rfl, h⟩
    ·have h := of_false h hc8
     refine V_exit ?_
     obtain rfl := some_inj h
     show St.keep _ _ _ = _
     rfl
  show V _ _ _ _
  refine V_sreg (mb 30 12) [] (s1 := ⟨.bot :: .bot :: I o6.1 :: I o6.2 :: bt 26 [], []⟩) ?_ ?_
  ·refine L0 rfl rfl (E_move (I o6.1) rfl (by kernel_rfl)) ?_
   refine L0 rfl rfl (E_move (I o6.2) rfl (by kernel_rfl)) ?_
   refine L0 rfl rfl (E_assign (I o6.1) rfl (by kernel_rfl)) ?_
   refine L0 rfl rfl (E_assign (I o6.2) rfl (by kernel_rfl)) ?_
   refine XL_nil ?_
   kernel_rfl
  refine V_ret ?_
  obtain rfl := some_inj h
  show Post _ _ _ _ _
  exact ⟨.inr rfl, rfl, rfl, rfl⟩
theorem cf_impl_fundamental : ∀ args w, (callFunc 72 args).run Try.prog w = .ok (.enter 72 args) w := run_callFunc Try.func72 (by kernel_rfl) (by kernel_rfl)
set_option maxRecDepth 100000 in
set_option maxHeartbeats 400000 in
theorem s_impl_fundamental {d1 : Int} {r : (Int × Int)} (h : r_impl_fundamental d1 = some r) : CallS Try.prog 72 [I d1] (.tc (I r.1) (.tc (I r.2) .tn)) [] := by
  refine CallS_of_text (rs := [.t 2, .t 3]) (vs := [.tmp 2, .tmp 3]) Try.func72 rfl rfl (.cons rfl (.cons rfl FitsL.nil)) (by decide) 20 rfl ?_
  unfold r_impl_fundamental at h
  show V _ _ ⟨I d1 :: bt 19 [], []⟩ _
  refine V_sreg (mb 20 1) [] (s1 := ⟨I d1 :: bt 19 [], []⟩) ?_ ?_
  ·refine L0 rfl rfl (E_assign (I 0) rfl (by kernel_rfl)) ?_
   refine L0 rfl rfl (E_assign (I 0) rfl (by kernel_rfl)) ?_
   refine XL_nil ?_
   kernel_rfl
  obtain ⟨y2, hy2, h⟩ := of_bind h
  refine V_sreg (mb 20 48) [] (s1 := ⟨bt 4 (I y2.1 :: I y2.2 :: bt 14 []), []⟩) ?_ ?_
  ·refine L0 rfl rfl (E_move (I d1) rfl (by kernel_rfl)) ?_
   refine L1 rfl rfl (Y1_call (s_impl_squareFree hy2) cf_impl_squareFree rfl (by kernel_rfl)) ?_
   refine L0 rfl rfl (E_move (.tc (I y2.1) (.tc (I y2.2) .tn)) rfl (by kernel_rfl)) ?_
   refine L0 rfl rfl (E_ext (n := 0) (I y2.1) (.tc (I y2.2) .tn) (I y2.1) rfl (by kernel_rfl) (by kernel_rfl) (by intro hh; cases hh)) ?_
   refine L0 rfl rfl (E_ext (n := 1) (I y2.1) (.tc (I y2.2) .tn) (I y2.2) rfl (by kernel_rfl) (by kernel_rfl) (by intro hh; cases hh)) ?_
   refine L0 rfl rfl (E_assign (I y2.1) rfl (by kernel_rfl)) ?_
   refine L0 rfl rfl (E_assign (I y2.2) rfl (by kernel_rfl)) ?_
   refine XL_nil ?_
   kernel_rfl
  refine V_seq ?_
  obtain ⟨y3, hy3, h⟩ := of_bind h
  refine V_sreg (mb 20 8240) [] (s1 := ⟨bt 4 (I y2.1 :: I y2.2 :: bt 7 (Bo (!eqI y3 1) :: bt 6 [])), []⟩) ?_ ?_
  ·refine L0 rfl rfl (E_move (I y2.1) rfl (by kernel_rfl)) ?_
   refine L1 rfl rfl (Y1_call (s_impl_mod hy3) cf_impl_mod rfl (by kernel_rfl)) ?_
   refine L0 rfl rfl (Y0_new (k := .i64) (a := y3) (b := 1) rfl (by kernel_rfl) (by kernel_rfl)) ?_
   refine XL_nil ?_
   kernel_rfl
  refine V_cond rfl (fun hc4 => ?_) (fun hc4 => ?_)
  ·have h := of_true h hc4
   obtain ⟨t5, ht5, h⟩ := of_sI h
   obtain ⟨t6, ht6, h⟩ := of_sI h
   refine V_sreg (mb 20 12) [] (s1 := ⟨.bot :: .bot :: I t5 :: I t6 :: bt 16 [], []⟩) ?_ ?_
   ·refine L0 rfl rfl (E_move (I y2.1) rfl (by kernel_rfl)) ?_
    refine L0 rfl rfl (Y0_mul64 (a := 4) (b := y2.1) rfl (by kernel_rfl) (by kernel_rfl)) ?_
    refine L0 rfl rfl (E_move (I y2.2) rfl (by kernel_rfl)) ?_
    refine L0 rfl rfl (Y0_quo64 (a := y2.2) (b := 2) rfl (by kernel_rfl) (by kernel_rfl) (by decide)) ?_
    refine L0 rfl rfl (E_assign (I (w64 (4 * y2.1))) rfl (by kernel_rfl)) ?_
    refine L0 rfl rfl (E_assign (I (w64 (Int.tdiv y2.2 2))) rfl (by kernel_rfl)) ?_
    refine XL_nil ?_
    subst ht5 ht6
    kernel_rfl
   refine V_ret ?_
   obtain rfl := some_inj h
   show Post _ _ _ _ _
   exact ⟨.inr rfl, rfl, rfl, rfl⟩
  ·have h := of_false h hc4
   refine V_skip ?_
   show V _ _ _ _
   refine V_sreg (mb 20 12) [] (s1 := ⟨.bot :: .bot :: I y2.1 :: I y2.2 :: bt 16 [], []⟩) ?_ ?_
   ·refine L0 rfl rfl (E_move (I y2.1) rfl (by kernel_rfl)) ?_
    refine L0 rfl rfl (E_move (I y2.2) rfl (by kernel_rfl)) ?_
    refine L0 rfl rfl (E_assign (I y2.1) rfl (by kernel_rfl)) ?_
    refine L0 rfl rfl (E_assign (I y2.2) rfl (by kernel_rfl)) ?_
    refine XL_nil ?_
    kernel_rfl
   refine V_ret ?_
   obtain rfl := some_inj h
   show Post _ _ _ _ _
   exact ⟨.inr rfl, rfl, rfl, rfl⟩
theorem cf_impl_FundamentalPart : ∀ args w, (callFunc 19 args).run Try.prog w = .ok (.enter 19 args) w := run_callFunc Try.func19 (by kernel_rfl) (by kernel_rfl)
set_option maxRecDepth 100000 in
set_option maxHeartbeats 400000 in
theorem s_impl_FundamentalPart {d1 : Int} {r : (Int × Int × Bool)} (h : r_impl_FundamentalPart d1 = some r) : CallS Try.prog 19 [I d1] (.tc (I r.1) (.tc (I r.2.1) (.tc (Bo r.2.2) .tn))) [] := by
  refine CallS_of_text (rs := [.t 2, .t 3, .t 4]) (vs := [.tmp 2, .tmp 3, .tmp 4]) Try.func19 rfl rfl (.cons rfl (.cons rfl (.cons rfl FitsL.nil))) (by decide) 17 rfl ?_
  unfold r_impl_FundamentalPart at h
  show V _ _ ⟨I d1 :: bt 16 [], []⟩ _
  refine V_sreg (mb 17 1) [] (s1 := ⟨I d1 :: bt 16 [], []⟩) ?_ ?_
  ·refine L0 rfl rfl (E_assign (I 0) rfl (by kernel_rfl)) ?_
   refine L0 rfl rfl (E_assign (I 0) rfl (by kernel_rfl)) ?_
   refine L0 rfl rfl (E_assign (Bo false) rfl (by kernel_rfl)) ?_
   refine XL_nil ?_
   kernel_rfl
  refine V_seq ?_
  obtain ⟨y2, hy2, h⟩ := of_bind h
  refine V_sreg (mb 17 513) [] (s1 := ⟨I d1 :: bt 8 (Bo (!y2) :: bt 7 []), []⟩) ?_ ?_
  ·refine L0 rfl rfl (E_move (I d1) rfl (by kernel_rfl)) ?_
   refine L1 rfl rfl (Y1_call (s_impl_isDiscriminant hy2) cf_impl_isDiscriminant rfl (by kernel_rfl)) ?_
   refine L0 rfl rfl (Y0_not (b := y2) rfl (by kernel_rfl)) ?_
   refine XL_nil ?_
   kernel_rfl
  refine V_cond rfl (fun hc3 => ?_) (fun hc3 => ?_)
  ·have h := of_true h hc3
   refine V_sreg (mb 17 28) [] (s1 := ⟨.bot :: .bot :: I 0 :: I 0 :: Bo false :: bt 12 [], []⟩) ?_ ?_
   ·refine L0 rfl rfl (E_assign (I 0) rfl (by kernel_rfl)) ?_
    refine L0 rfl rfl (E_assign (I 0) rfl (by kernel_rfl)) ?_
    refine L0 rfl rfl (E_assign (Bo false) rfl (by kernel_rfl)) ?_
    refine XL_nil ?_
    kernel_rfl
   refine V_ret ?_
   obtain rfl := some_inj h
   show Post _ _ _ _ _
   exact ⟨.inr rfl, rfl, rfl, rfl⟩
  ·have h := of_false h hc3
   refine V_skip ?_
   show V _ _ _ _
   obtain ⟨y4, hy4, h⟩ := of_bind h
   refine V_sreg (mb 17 96) [] (s1 := ⟨bt 5 (I y4.1 :: I y4.2 :: bt 10 []), []⟩) ?_ ?_
   ·refine L0 rfl rfl (E_move (I d1) rfl (by kernel_rfl)) ?_
    refine L1 rfl rfl (Y1_call (s_impl_fundamental hy4) cf_impl_fundamental rfl (by kernel_rfl)) ?_
    refine L0 rfl rfl (E_move (.tc (I y4.1) (.tc (I y4.2) .tn)) rfl (by kernel_rfl)) ?_
    refine L0 rfl rfl (E_ext (n := 0) (I y4.1) (.tc (I y4.2) .tn) (I y4.1) rfl (by kernel_rfl) (by kernel_rfl) (by intro hh; cases hh)) ?_
    refine L0 rfl rfl (E_ext (n := 1) (I y4.1) (.tc (I y4.2) .tn) (I y4.2) rfl (by kernel_rfl) (by kernel_rfl) (by intro hh; cases hh)) ?_
    refine L0 rfl rfl (E_assign (I y4.1) rfl (by kernel_rfl)) ?_
    refine L0 rfl rfl (E_assign (I y4.2) rfl (by kernel_rfl)) ?_
    refine XL_nil ?_
    kernel_rfl
   refine V_sreg (mb 17 28) [] (s1 := ⟨.bot :: .bot :: I y4.1 :: I y4.2 :: Bo true :: bt 12 [], []⟩) ?_ ?_
   ·refine L0 rfl rfl (E_move (I y4.1) rfl (by kernel_rfl)) ?_
    refine L0 rfl rfl (E_move (I y4.2) rfl (by kernel_rfl)) ?_
    refine L0 rfl rfl (E_assign (I y4.1) rfl (by kernel_rfl)) ?_
    refine L0 rfl rfl (E_assign (I y4.2) rfl (by kernel_rfl)) ?_
    refine L0 rfl rfl (E_assign (Bo true) rfl (by kernel_rfl)) ?_
    refine XL_nil ?_
    kernel_rfl
   refine V_ret ?_
   obtain rfl := some_inj h
   show Post _ _ _ _ _
   exact ⟨.inr rfl, rfl, rfl, rfl⟩
theorem cf_spec_l1In : ∀ args w, (callFunc 125 args).run Try.prog w = .ok (.enter 125 args) w := run_callFunc Try.func125 (by kernel_rfl) (by kernel_rfl)
set_option maxRecDepth 100000 in
set_option maxHeartbeats 400000 in
theorem s_spec_l1In {vn1 : Int} {lo2 : Int} {hi3 : Int} {r : Bool} (h : r_spec_l1In vn1 lo2 hi3 = some r) : CallS Try.prog 125 [I vn1, I lo2, I hi3] (Bo r) [] := by
  refine CallS_of_text (rs := [.t 6]) (vs := [.tmp 6]) Try.func125 rfl rfl (.cons rfl FitsL.nil) (by decide) 15 rfl ?_
  unfold r_spec_l1In at h
  show V _ _ ⟨I vn1 :: I lo2 :: I hi3 :: bt 12 [], []⟩ _
  refine V_sreg (mb 15 7) [] (s1 := ⟨I vn1 :: I lo2 :: I hi3 :: bt 12 [], []⟩) ?_ ?_
  ·refine L0 rfl rfl (E_assign (Bo false) rfl (by kernel_rfl)) ?_
   refine XL_nil ?_
   kernel_rfl
  refine V_sreg (mb 15 64) [] (s1 := ⟨bt 6 (Bo (bif (leI lo2 vn1) then (leI vn1 hi3) else false) :: bt 8 []), []⟩) ?_ ?_
  ·refine L0 rfl rfl (E_move (I vn1) rfl (by kernel_rfl)) ?_
   refine L0 rfl rfl (E_move (I lo2) rfl (by kernel_rfl)) ?_
   refine L0 rfl rfl (Y0_gew (k := .i64) (a := vn1) (b := lo2) rfl (by kernel_rfl) (by kernel_rfl)) ?_
   refine L0 rfl rfl (E_move (Bo (leI lo2 vn1)) rfl (by kernel_rfl)) ?_
   refine XL_split (leI lo2 vn1) (fun hc4 => ?_) (fun hc4 => ?_)
   ·refine XL_takeC _ rfl rfl (by kernel_rfl) hc4 (X_of_Y0 rfl (E_move (I vn1) rfl (by kernel_rfl))) ?_
    refine XL_takeC _ rfl rfl (by kernel_rfl) hc4 (X_of_Y0 rfl (E_move (I hi3) rfl (by kernel_rfl))) ?_
    refine XL_takeC _ rfl rfl (by kernel_rfl) hc4 (X_of_Y0 rfl (Y0_lew (k := .i64) (a := vn1) (b := hi3) rfl (by kernel_rfl) (by kernel_rfl))) ?_
    refine XL_cons rfl (X_of_Y0 rfl (Y0_pick1 (b := leI lo2 vn1) (p := leI vn1 hi3) (q := false) rfl (by kernel_rfl) hc4 (by kernel_rfl))) ?_
    refine L0 rfl rfl (E_assign (Bo (bif (leI lo2 vn1) then (leI vn1 hi3) else false)) rfl (by kernel_rfl)) ?_
    refine XL_nil ?_
    kernel_rfl
   ·refine XL_skipT _ rfl rfl (by kernel_rfl) hc4 rfl ?_
    refine XL_skipT _ rfl rfl (by kernel_rfl) hc4 rfl ?_
    refine XL_skipT _ rfl rfl (by kernel_rfl) hc4 rfl ?_
    refine XL_cons rfl (X_of_Y0 rfl (Y0_pick0 (b := leI lo2 vn1) (p := leI vn1 hi3) (q := false) rfl (by kernel_rfl) hc4 (by kernel_rfl))) ?_
    refine L0 rfl rfl (E_assign (Bo (bif (leI lo2 vn1) then (leI vn1 hi3) else false)) rfl (by kernel_rfl)) ?_
    refine XL_nil ?_
    kernel_rfl
  refine V_ret ?_
  obtain rfl := some_inj h
  show Post _ _ _ _ _
  exact ⟨.inr rfl, rfl, rfl, rfl⟩
theorem cf_spec_nuGood : ∀ args w, (callFunc 132 args).run Try.prog w = .ok (.enter 132 args) w := run_callFunc Try.func132 (by kernel_rfl) (by kernel_rfl)
set_option maxRecDepth 100000 in
set_option maxHeartbeats 400000 in
theorem s_spec_nuGood {vn1 : Int} {r : Bool} (h : r_spec_nuGood vn1 = some r) : CallS Try.prog 132 [I vn1] (Bo r) [] := by
  refine CallS_of_text (rs := [.t 2]) (vs := [.tmp 2]) Try.func132 rfl rfl (.cons rfl FitsL.nil) (by decide) 5 rfl ?_
  unfold r_spec_nuGood at h
  show V _ _ ⟨I vn1 :: bt 4 [], []⟩ _
  refine V_sreg (mb 5 1) [] (s1 := ⟨I vn1 :: bt 4 [], []⟩) ?_ ?_
  ·refine L0 rfl rfl (E_assign (Bo false) rfl (by kernel_rfl)) ?_
   refine XL_nil ?_
   kernel_rfl
  obtain ⟨y2, hy2, h⟩ := of_bind h
  refine V_sreg (mb 5 4) [] (s1 := ⟨.bot :: .bot :: Bo y2 :: .bot :: .bot :: [], []⟩) ?_ ?_
  ·refine L0 rfl rfl (E_move (I vn1) rfl (by kernel_rfl)) ?_
   refine L1 rfl rfl (Y1_call (s_spec_l1In hy2) cf_spec_l1In rfl (by kernel_rfl)) ?_
   refine L0 rfl rfl (E_assign (Bo y2) rfl (by kernel_rfl)) ?_
   refine XL_nil ?_
   kernel_rfl
  refine V_ret ?_
  obtain rfl := some_inj h
  show Post _ _ _ _ _
  exact ⟨.inr rfl, rfl, rfl, rfl⟩
theorem cf_spec_nuRoot : ∀ args w, (callFunc 196 args).run Try.prog w = .ok (.enter 196 args) w := run_callFunc Try.func196 (by kernel_rfl) (by kernel_rfl)
set_option maxRecDepth 100000 in
set_option maxHeartbeats 400000 in
theorem s_spec_nuRoot {vn1 : Int} {r : Int} (h : r_spec_nuRoot vn1 = some r) : CallS Try.prog 196 [I vn1] (I r) [] := by
  refine CallS_of_text (rs := [.t 2]) (vs := [.tmp 2]) Try.func196 rfl rfl (.cons rfl FitsL.nil) (by decide) 23 rfl ?_
  unfold r_spec_nuRoot at h
  show V _ _ ⟨I vn1 :: bt 22 [], []⟩ _
  refine V_sreg (mb 23 1) [] (s1 := ⟨I vn1 :: bt 22 [], []⟩) ?_ ?_
  ·refine L0 rfl rfl (E_assign (I 0) rfl (by kernel_rfl)) ?_
   refine XL_nil ?_
   kernel_rfl
  refine V_sreg (mb 23 25) [] (s1 := ⟨I vn1 :: .bot :: .bot :: I 0 :: I 1000000000 :: bt 18 [], []⟩) ?_ ?_
  ·refine L0 rfl rfl (E_assign (I 0) rfl (by kernel_rfl)) ?_
   refine L0 rfl rfl (E_assign (I 1000000000) rfl (by kernel_rfl)) ?_
   refine XL_nil ?_
   kernel_rfl
  refine V_seq ?_
  obtain ⟨o5, hLo5, h⟩ := of_bind h
  refine V_toK (mb 23 8) [] (s1 := ⟨bt 3 (I o5 :: bt 19 []), []⟩) ?_ ?_
  ·clear h
   refine V_block (V_loop (fun n s => ∃ (lo2 : Int) (hi3 : Int), s.keep (mb 23 25) [] = (⟨I vn1 :: .bot :: .bot :: I lo2 :: I hi3 :: bt 18 [], []⟩ : St) ∧ r_spec_nuRoot_L4 vn1 n lo2 hi3 = some o5) FU ⟨_, _,  by rfl, hLo5⟩ ?_)
   clear hLo5
   rintro n s ⟨lo2, hi3, hs, h⟩
   refine V_keep _ _ hs ?_
   clear hs
   cases n with
   | zero => cases h
   | succ n =>
    rw [r_spec_nuRoot_L4] at h
    refine V_seq ?_
    refine V_sreg (mb 23 281) [] (s1 := ⟨I vn1 :: .bot :: .bot :: I lo2 :: I hi3 :: bt 3 (Bo (ltI lo2 hi3) :: bt 14 []), []⟩) ?_ ?_
    ·refine L0 rfl rfl (E_move (I lo2) rfl (by kernel_rfl)) ?_
     refine L0 rfl rfl (E_move (I hi3) rfl (by kernel_rfl)) ?_
     refine L0 rfl rfl (Y0_ltw (k := .i64) (a := lo2) (b := hi3) rfl (by kernel_rfl) (by kernel_rfl)) ?_
     refine XL_nil ?_
     kernel_rfl
    refine V_cond rfl (fun hc6 => ?_) (fun hc6 => ?_)
    ·have h := of_true h hc6
     refine V_skip ?_
     show V _ _ _ _
     refine V_block ?_
     obtain ⟨mid7, hmid7, h⟩ := of_sI h
     refine V_sreg (mb 23 57) [] (s1 := ⟨I vn1 :: .bot :: .bot :: I lo2 :: I hi3 :: I mid7 :: bt 17 [], []⟩) ?_ ?_
     ·refine L0 rfl rfl (E_move (I lo2) rfl (by kernel_rfl)) ?_
      refine L0 rfl rfl (E_move (I hi3) rfl (by kernel_rfl)) ?_
      refine L0 rfl rfl (Y0_add64 (a := lo2) (b := hi3) rfl (by kernel_rfl) (by kernel_rfl)) ?_
      refine L0 rfl rfl (Y0_add64 (a := w64 (lo2 + hi3)) (b := 1) rfl (by kernel_rfl) (by kernel_rfl)) ?_
      refine L0 rfl rfl (Y0_quo64 (a := w64 ((w64 (lo2 + hi3)) + 1)) (b := 2) rfl (by kernel_rfl) (by kernel_rfl) (by decide)) ?_
      refine L0 rfl rfl (E_assign (I (w64 (Int.tdiv (w64 ((w64 (lo2 + hi3)) + 1)) 2))) rfl (by kernel_rfl)) ?_
      refine XL_nil ?_
      subst hmid7
      kernel_rfl
     refine V_sreg (mb 23 262201) [] (s1 := ⟨I vn1 :: .bot :: .bot :: I lo2 :: I hi3 :: I mid7 :: bt 12 (Bo (leI (w64 (mid7 * mid7)) vn1) :: bt 4 []), []⟩) ?_ ?_
     ·refine L0 rfl rfl (E_move (I mid7) rfl (by kernel_rfl)) ?_
      refine L0 rfl rfl (E_move (I mid7) rfl (by kernel_rfl)) ?_
      refine L0 rfl rfl (Y0_mul64 (a := mid7) (b := mid7) rfl (by kernel_rfl) (by kernel_rfl)) ?_
      refine L0 rfl rfl (E_move (I vn1) rfl (by kernel_rfl)) ?_
      refine L0 rfl rfl (Y0_lew (k := .i64) (a := w64 (mid7 * mid7)) (b := vn1) rfl (by kernel_rfl) (by kernel_rfl)) ?_
      refine XL_nil ?_
      kernel_rfl
     refine V_cond rfl (fun hc8 => ?_) (fun hc8 => ?_)
     ·have h := of_true h hc8
      refine V_reg (mb 23 25) [] (s1 := ⟨I vn1 :: .bot :: .bot :: I mid7 :: I hi3 :: bt 18 [], []⟩) ?_ ?_
      ·refine L0 rfl rfl (E_move (I mid7) rfl (by kernel_rfl)) ?_
       refine L0 rfl rfl (E_assign (I mid7) rfl (by kernel_rfl)) ?_
       refine XL_nil ?_
       kernel_rfl
      exact ⟨n, Nat.lt_succ_self n, _, _,  by rfl, h⟩
     ·have h := of_false h hc8
      obtain ⟨hi9, hhi9, h⟩ := of_sI h
      refine V_reg (mb 23 25) [] (s1 := ⟨I vn1 :: .bot :: .bot :: I lo2 :: I hi9 :: bt 18 [], []⟩) ?_ ?_
      ·refine L0 rfl rfl (E_move (I mid7) rfl (by kernel_rfl)) ?_
       refine L0 rfl rfl (Y0_sub64 (a := mid7) (b := 1) rfl (by kernel_rfl) (by kernel_rfl)) ?_
       refine L0 rfl rfl (E_assign (I (w64 (mid7 - 1))) rfl (by kernel_rfl)) ?_
       refine XL_nil ?_
       subst hhi9
       kernel_rfl
      exact ⟨n, Nat.lt_succ_self n, _, _,  by rfl, h⟩
    ·have h := of_false h hc6
     refine V_exit ?_
     obtain rfl := some_inj h
     show St.keep _ _ _ = _
     rfl
  show V _ _ _ _
  refine V_sreg (mb 23 4) [] (s1 := ⟨.bot :: .bot :: I o5 :: bt 20 [], []⟩) ?_ ?_
  ·refine L0 rfl rfl (E_move (I o5) rfl (by kernel_rfl)) ?_
   refine L0 rfl rfl (E_assign (I o5) rfl (by kernel_rfl)) ?_
   refine XL_nil ?_
   kernel_rfl
  refine V_ret ?_
  obtain rfl := some_inj h
  show Post _ _ _ _ _
  exact ⟨.inr rfl, rfl, rfl, rfl⟩
theorem cf_spec_nuSquare : ∀ args w, (callFunc 140 args).run Try.prog w = .ok (.enter 140 args) w := run_callFunc Try.func140 (by kernel_rfl) (by kernel_rfl)
set_option maxRecDepth 100000 in
set_option maxHeartbeats 400000 in
theorem s_spec_nuSquare {vn1 : Int} {r : Bool} (h : r_spec_nuSquare vn1 = some r) : CallS Try.prog 140 [I vn1] (Bo r) [] := by
  refine CallS_of_text (rs := [.t 2]) (vs := [.tmp 2]) Try.func140 rfl rfl (.cons rfl FitsL.nil) (by decide) 13 rfl ?_
  unfold r_spec_nuSquare at h
  show V _ _ ⟨I vn1 :: bt 12 [], []⟩ _
  refine V_sreg (mb 13 1) [] (s1 := ⟨I vn1 :: bt 12 [], []⟩) ?_ ?_
  ·refine L0 rfl rfl (E_assign (Bo false) rfl (by kernel_rfl)) ?_
   refine XL_nil ?_
   kernel_rfl
  refine V_seq ?_
  refine V_sreg (mb 13 33) [] (s1 := ⟨I vn1 :: bt 4 (Bo (ltI vn1 0) :: bt 7 []), []⟩) ?_ ?_
  ·refine L0 rfl rfl (E_move (I vn1) rfl (by kernel_rfl)) ?_
   refine L0 rfl rfl (Y0_ltw (k := .i64) (a := vn1) (b := 0) rfl (by kernel_rfl) (by kernel_rfl)) ?_
   refine XL_nil ?_
   kernel_rfl
  refine V_cond rfl (fun hc2 => ?_) (fun hc2 => ?_)
  ·have h := of_true h hc2
   refine V_sreg (mb 13 4) [] (s1 := ⟨.bot :: .bot :: Bo false :: bt 10 [], []⟩) ?_ ?_
   ·refine L0 rfl rfl (E_assign (Bo false) rfl (by kernel_rfl)) ?_
    refine XL_nil ?_
    kernel_rfl
   refine V_ret ?_
   obtain rfl := some_inj h
   show Post _ _ _ _ _
   exact ⟨.inr rfl, rfl, rfl, rfl⟩
  ·have h := of_false h hc2
   refine V_skip ?_
   show V _ _ _ _
   obtain ⟨y3, hy3, h⟩ := of_bind h
   refine V_sreg (mb 13 9) [] (s1 := ⟨I vn1 :: .bot :: .bot :: I y3 :: bt 9 [], []⟩) ?_ ?_
   ·refine L0 rfl rfl (E_move (I vn1) rfl (by kernel_rfl)) ?_
    refine L1 rfl rfl (Y1_call (s_spec_nuRoot hy3) cf_spec_nuRoot rfl (by kernel_rfl)) ?_
    refine L0 rfl rfl (E_assign (I y3) rfl (by kernel_rfl)) ?_
    refine XL_nil ?_
    kernel_rfl
   refine V_sreg (mb 13 4) [] (s1 := ⟨.bot :: .bot :: Bo (eqI (w64 (y3 * y3)) vn1) :: bt 10 [], []⟩) ?_ ?_
   ·refine L0 rfl rfl (E_move (I y3) rfl (by kernel_rfl)) ?_
    refine L0 rfl rfl (E_move (I y3) rfl (by kernel_rfl)) ?_
    refine L0 rfl rfl (Y0_mul64 (a := y3) (b := y3) rfl (by kernel_rfl) (by kernel_rfl)) ?_
    refine L0 rfl rfl (E_move (I vn1) rfl (by kernel_rfl)) ?_
    refine L0 rfl rfl (Y0_eqw (k := .i64) (a := w64 (y3 * y3)) (b := vn1) rfl (by kernel_rfl) (by kernel_rfl)) ?_
    refine L0 rfl rfl (E_assign (Bo (eqI (w64 (y3 * y3)) vn1)) rfl (by kernel_rfl)) ?_
    refine XL_nil ?_
    kernel_rfl
   refine V_ret ?_
   obtain rfl := some_inj h
   show Post _ _ _ _ _
   exact ⟨.inr rfl, rfl, rfl, rfl⟩
theorem cf_spec_diIs : ∀ args w, (callFunc 73 args).run Try.prog w = .ok (.enter 73 args) w := run_callFunc Try.func73 (by kernel_rfl) (by kernel_rfl)
set_option maxRecDepth 100000 in
set_option maxHeartbeats 400000 in
theorem s_spec_diIs {d1 : Int} {r : Bool} (h : r_spec_diIs d1 = some r) : CallS Try.prog 73 [I d1] (Bo r) [] := by
  refine CallS_of_text (rs := [.t 2]) (vs := [.tmp 2]) Try.func73 rfl rfl (.cons rfl FitsL.nil) (by decide) 15 rfl ?_
  unfold r_spec_diIs at h
  show V _ _ ⟨I d1 :: bt 14 [], []⟩ _
  refine V_sreg (mb 15 1) [] (s1 := ⟨I d1 :: bt 14 [], []⟩) ?_ ?_
  ·refine L0 rfl rfl (E_assign (Bo false) rfl (by kernel_rfl)) ?_
   refine XL_nil ?_
   kernel_rfl
  obtain ⟨y2, hy2, h⟩ := of_bind h
  obtain ⟨b5, hb5, h⟩ := of_bind h
  obtain ⟨b8, hb8, h⟩ := of_bind h
  refine V_sreg (mb 15 4) [] (s1 := ⟨.bot :: .bot :: Bo b8 :: bt 12 [], []⟩) ?_ ?_
  ·refine L0 rfl rfl (E_move (I d1) rfl (by kernel_rfl)) ?_
   refine L1 rfl rfl (Y1_call (s_spec_nuGood hy2) cf_spec_nuGood rfl (by kernel_rfl)) ?_
   refine L0 rfl rfl (E_move (Bo y2) rfl (by kernel_rfl)) ?_
   refine XL_split y2 (fun hc3 => ?_) (fun hc3 => ?_)
   ·have hb5 := of_true hb5 hc3
    obtain ⟨y4, hy4, hb5⟩ := of_bind hb5
    have hb5 := some_inj hb5
    refine XL_takeC _ rfl rfl (by kernel_rfl) hc3 (X_of_Y0 rfl (E_move (I d1) rfl (by kernel_rfl))) ?_
    refine XL_takeC _ rfl rfl (by kernel_rfl) hc3 (X_of_Y1 rfl (Y1_call (s_spec_nuMod hy4) cf_spec_nuMod rfl (by kernel_rfl))) ?_
    refine XL_takeC _ rfl rfl (by kernel_rfl) hc3 (X_of_Y0 rfl (Y0_ltw (k := .i64) (a := y4) (b := 2) rfl (by kernel_rfl) (by kernel_rfl))) ?_
    refine XL_cons rfl (X_of_Y0 rfl (Y0_pickTe (b := y2) (p := ltI y4 2) rfl (by kernel_rfl) hc3 (by kernel_rfl) hb5)) ?_
    refine L0 rfl rfl (E_move (Bo b5) rfl (by kernel_rfl)) ?_
    refine XL_split b5 (fun hc6 => ?_) (fun hc6 => ?_)
    ·have hb8 := of_true hb8 hc6
     obtain ⟨y7, hy7, hb8⟩ := of_bind hb8
     have hb8 := some_inj hb8
     refine XL_takeC _ rfl rfl (by kernel_rfl) hc6 (X_of_Y0 rfl (E_move (I d1) rfl (by kernel_rfl))) ?_
     refine XL_takeC _ rfl rfl (by kernel_rfl) hc6 (X_of_Y1 rfl (Y1_call (s_spec_nuSquare hy7) cf_spec_nuSquare rfl (by kernel_rfl))) ?_
     refine XL_takeC _ rfl rfl (by kernel_rfl) hc6 (X_of_Y0 rfl (Y0_not (b := y7) rfl (by kernel_rfl))) ?_
     refine XL_cons rfl (X_of_Y0 rfl (Y0_pickTe (b := b5) (p := !y7) rfl (by kernel_rfl) hc6 (by kernel_rfl) hb8)) ?_
     refine L0 rfl rfl (E_assign (Bo b8) rfl (by kernel_rfl)) ?_
     refine XL_nil ?_
     kernel_rfl
    ·have hb8 := some_inj (of_false hb8 hc6)
     refine XL_skipT _ rfl rfl (by kernel_rfl) hc6 rfl ?_
     refine XL_skipT _ rfl rfl (by kernel_rfl) hc6 rfl ?_
     refine XL_skipT _ rfl rfl (by kernel_rfl) hc6 rfl ?_
     refine XL_cons rfl (X_of_Y0 rfl (Y0_pickFe (b := b5) (p := false) rfl (by kernel_rfl) hc6 (by kernel_rfl) hb8)) ?_
     refine L0 rfl rfl (E_assign (Bo b8) rfl (by kernel_rfl)) ?_
     refine XL_nil ?_
     kernel_rfl
   ·have hb5 := some_inj (of_false hb5 hc3)
    refine XL_skipT _ rfl rfl (by kernel_rfl) hc3 rfl ?_
    refine XL_skipT _ rfl rfl (by kernel_rfl) hc3 rfl ?_
    refine XL_skipT _ rfl rfl (by kernel_rfl) hc3 rfl ?_
    refine XL_cons rfl (X_of_Y0 rfl (Y0_pickFe (b := y2) (p := false) rfl (by kernel_rfl) hc3 (by kernel_rfl) hb5)) ?_
    refine L0 rfl rfl (E_move (Bo b5) rfl (by kernel_rfl)) ?_
    refine XL_split b5 (fun hc6 => ?_) (fun hc6 => ?_)
    ·have hb8 := of_true hb8 hc6
     obtain ⟨y7, hy7, hb8⟩ := of_bind hb8
     have hb8 := some_inj hb8
     refine XL_takeC _ rfl rfl (by kernel_rfl) hc6 (X_of_Y0 rfl (E_move (I d1) rfl (by kernel_rfl))) ?_
     refine XL_takeC _ rfl rfl (by kernel_rfl) hc6 (X_of_Y1 rfl (Y1_call (s_spec_nuSquare hy7) cf_spec_nuSquare rfl (by kernel_rfl))) ?_
     refine XL_takeC _ rfl rfl (by kernel_rfl) hc6 (X_of_Y0 rfl (Y0_not (b := y7) rfl (by kernel_rfl))) ?_
     refine XL_cons rfl (X_of_Y0 rfl (Y0_pickTe (b := b5) (p := !y7) rfl (by kernel_rfl) hc6 (by kernel_rfl) hb8)) ?_
     refine L0 rfl rfl (E_assign (Bo b8) rfl (by kernel_rfl)) ?_
     refine XL_nil ?_
     kernel_rfl
    ·have hb8 := some_inj (of_false hb8 hc6)
     refine XL_skipT _ rfl rfl (by kernel_rfl) hc6 rfl ?_
     refine XL_skipT _ rfl rfl (by kernel_rfl) hc6 rfl ?_
     refine XL_skipT _ rfl rfl (by kernel_rfl) hc6 rfl ?_
     refine XL_cons rfl (X_of_Y0 rfl (Y0_pickFe (b := b5) (p := false) rfl (by kernel_rfl) hc6 (by kernel_rfl) hb8)) ?_
     refine L0 rfl rfl (E_assign (Bo b8) rfl (by kernel_rfl)) ?_
     refine XL_nil ?_
     kernel_rfl
  refine V_ret ?_
  obtain rfl := some_inj h
  show Post _ _ _ _ _
  exact ⟨.inr rfl, rfl, rfl, rfl⟩
theorem cf_spec_l1Abs : ∀ args w, (callFunc 128 args).run Try.prog w = .ok (.enter 128 args) w := run_callFunc Try.func128 (by kernel_rfl) (by kernel_rfl)
set_option maxRecDepth 100000 in
set_option maxHeartbeats 400000 in
theorem s_spec_l1Abs {vn1 : Int} {r : Int} (h : r_spec_l1Abs vn1 = some r) : CallS Try.prog 128 [I vn1] (I r) [] := by
  refine CallS_of_text (rs := [.t 2]) (vs := [.tmp 2]) Try.func128 rfl rfl (.cons rfl FitsL.nil) (by decide) 7 rfl ?_
  unfold r_spec_l1Abs at h
  show V _ _ ⟨I vn1 :: bt 6 [], []⟩ _
  refine V_sreg (mb 7 1) [] (s1 := ⟨I vn1 :: bt 6 [], []⟩) ?_ ?_
  ·refine L0 rfl rfl (E_assign (I 0) rfl (by kernel_rfl)) ?_
   refine XL_nil ?_
   kernel_rfl
  obtain ⟨y2, hy2, h⟩ := of_bind h
  refine V_sreg (mb 7 4) [] (s1 := ⟨.bot :: .bot :: I y2 :: bt 4 [], []⟩) ?_ ?_
  ·refine L0 rfl rfl (E_move (I vn1) rfl (by kernel_rfl)) ?_
   refine L0 rfl rfl (E_move (I vn1) rfl (by kernel_rfl)) ?_
   refine L0 rfl rfl (Y0_neg64 (a := vn1) rfl (by kernel_rfl)) ?_
   refine L1 rfl rfl (Y1_call (s_spec_l1Most hy2) cf_spec_l1Most rfl (by kernel_rfl)) ?_
   refine L0 rfl rfl (E_assign (I y2) rfl (by kernel_rfl)) ?_
   refine XL_nil ?_
   kernel_rfl
  refine V_ret ?_
  obtain rfl := some_inj h
  show Post _ _ _ _ _
  exact ⟨.inr rfl, rfl, rfl, rfl⟩
theorem cf_spec_nuFree : ∀ args w, (callFunc 141 args).run Try.prog w = .ok (.enter 141 args) w := run_callFunc Try.func141 (by kernel_rfl) (by kernel_rfl)
set_option maxRecDepth 100000 in
set_option maxHeartbeats 400000 in
theorem s_spec_nuFree {vn1 : Int} {r : (Int × Int)} (h : r_spec_nuFree vn1 = some r) : CallS Try.prog 141 [I vn1] (.tc (I r.1) (.tc (I r.2) .tn)) [] := by
  refine CallS_of_text (rs := [.t 2, .t 3]) (vs := [.tmp 2, .tmp 3]) Try.func141 rfl rfl (.cons rfl (.cons rfl FitsL.nil)) (by decide) 30 rfl ?_
  unfold r_spec_nuFree at h
  show V _ _ ⟨I vn1 :: bt 29 [], []⟩ _
  refine V_sreg (mb 30 1) [] (s1 := ⟨I vn1 :: bt 29 [], []⟩) ?_ ?_
  ·refine L0 rfl rfl (E_assign (I 0) rfl (by kernel_rfl)) ?_
   refine L0 rfl rfl (E_assign (I 0) rfl (by kernel_rfl)) ?_
   refine XL_nil ?_
   kernel_rfl
  refine V_sreg (mb 30 17) [] (s1 := ⟨I vn1 :: bt 3 (I 1 :: bt 25 []), []⟩) ?_ ?_
  ·refine L0 rfl rfl (E_assign (I 1) rfl (by kernel_rfl)) ?_
   refine XL_nil ?_
   kernel_rfl
  refine V_seq ?_
  refine V_sreg (mb 30 49) [] (s1 := ⟨I vn1 :: bt 3 (I 1 :: I 2 :: bt 24 []), []⟩) ?_ ?_
  ·refine L0 rfl rfl (E_assign (I 2) rfl (by kernel_rfl)) ?_
   refine XL_nil ?_
   kernel_rfl
  obtain ⟨o6, hLo6, h⟩ := of_bind h
  refine V_toK (mb 30 17) [] (s1 := ⟨I o6.1 :: bt 3 (I o6.2 :: bt 25 []), []⟩) ?_ ?_
  ·clear h
   refine V_block (V_loop (fun n s => ∃ (vn2 : Int) (k3 : Int) (d4 : Int), s.keep (mb 30 49) [] = (⟨I vn2 :: bt 3 (I k3 :: I d4 :: bt 24 []), []⟩ : St) ∧ r_spec_nuFree_L5 n vn2 k3 d4 = some o6) FU ⟨_, _, _,  by rfl, hLo6⟩ ?_)
   clear hLo6
   rintro n s ⟨vn2, k3, d4, hs, h⟩
   refine V_keep _ _ hs ?_
   clear hs
   cases n with
   | zero => cases h
   | succ n =>
    rw [r_spec_nuFree_L5] at h
    refine V_seq ?_
    obtain ⟨y7, hy7, h⟩ := of_bind h
    refine V_sreg (mb 30 2097) [] (s1 := ⟨I vn2 :: bt 3 (I k3 :: I d4 :: bt 5 (Bo (leI (w64 (d4 * d4)) y7) :: bt 18 [])), []⟩) ?_ ?_
    ·refine L0 rfl rfl (E_move (I d4) rfl (by kernel_rfl)) ?_
     refine L0 rfl rfl (E_move (I d4) rfl (by kernel_rfl)) ?_
     refine L0 rfl rfl (Y0_mul64 (a := d4) (b := d4) rfl (by kernel_rfl) (by kernel_rfl)) ?_
     refine L0 rfl rfl (E_move (I vn2) rfl (by kernel_rfl)) ?_
     refine L1 rfl rfl (Y1_call (s_spec_l1Abs hy7) cf_spec_l1Abs rfl (by kernel_rfl)) ?_
     refine L0 rfl rfl (Y0_lew (k := .i64) (a := w64 (d4 * d4)) (b := y7) rfl (by kernel_rfl) (by kernel_rfl)) ?_
     refine XL_nil ?_
     kernel_rfl
    refine V_cond rfl (fun hc8 => ?_) (fun hc8 => ?_)
    ·have h := of_true h hc8
     refine V_skip ?_
     show V _ _ _ _
     refine V_seq ?_
     refine V_block ?_
     obtain ⟨o12, hLo12, h⟩ := of_bind h
     refine V_toK (mb 30 49) [] (s1 := ⟨I o12.1 :: bt 3 (I o12.2 :: I d4 :: bt 24 []), []⟩) ?_ ?_
     ·clear h
      refine V_block (V_loop (fun n s => ∃ (vn9 : Int) (k10 : Int), s.keep (mb 30 49) [] = (⟨I vn9 :: bt 3 (I k10 :: I d4 :: bt 24 []), []⟩ : St) ∧ r_spec_nuFree_L11 d4 n vn9 k10 = some o12) FU ⟨_, _,  by rfl, hLo12⟩ ?_)
      clear hLo12
      rintro n s ⟨vn9, k10, hs, h⟩
      refine V_keep _ _ hs ?_
      clear hs
      cases n with
      | zero => cases h
      | succ n =>
       rw [r_spec_nuFree_L11] at h
       refine V_seq ?_
       obtain ⟨z13, hz13, h⟩ := of_bind h
       refine V_sreg (mb 30 524337) [] (s1 := ⟨I vn9 :: bt 3 (I k10 :: I d4 :: bt 13 (Bo (eqI (Int.tmod vn9 (w64 (d4 * d4))) 0) :: bt 10 [])), []⟩) ?_ ?_
       ·refine L0 rfl rfl (E_move (I vn9) rfl (by kernel_rfl)) ?_
        refine L0 rfl rfl (E_move (I d4) rfl (by kernel_rfl)) ?_
        refine L0 rfl rfl (E_move (I d4) rfl (by kernel_rfl)) ?_
        refine L0 rfl rfl (Y0_mul64 (a := d4) (b := d4) rfl (by kernel_rfl) (by kernel_rfl)) ?_
        refine L0 rfl rfl (Y0_rem (k := .i64) (a := vn9) (b := w64 (d4 * d4)) rfl (by kernel_rfl) (by kernel_rfl) (nz_some hz13)) ?_
        refine L0 rfl rfl (Y0_eqw (k := .i64) (a := Int.tmod vn9 (w64 (d4 * d4))) (b := 0) rfl (by kernel_rfl) (by kernel_rfl)) ?_
        refine XL_nil ?_
        kernel_rfl
       refine V_cond rfl (fun hc14 => ?_) (fun hc14 => ?_)
       ·have h := of_true h hc14
        refine V_skip ?_
        show V _ _ _ _
        refine V_block ?_
        obtain ⟨z15, hz15, h⟩ := of_bind h
        obtain ⟨vn16, hvn16, h⟩ := of_sI h
        refine V_sreg (mb 30 49) [] (s1 := ⟨I vn16 :: bt 3 (I k10 :: I d4 :: bt 24 []), []⟩) ?_ ?_
        ·refine L0 rfl rfl (E_move (I vn9) rfl (by kernel_rfl)) ?_
         refine L0 rfl rfl (E_move (I d4) rfl (by kernel_rfl)) ?_
         refine L0 rfl rfl (E_move (I d4) rfl (by kernel_rfl)) ?_
         refine L0 rfl rfl (Y0_mul64 (a := d4) (b := d4) rfl (by kernel_rfl) (by kernel_rfl)) ?_
         refine L0 rfl rfl (Y0_quo64 (a := vn9) (b := w64 (d4 * d4)) rfl (by kernel_rfl) (by kernel_rfl) (nz_some hz15)) ?_
         refine L0 rfl rfl (E_assign (I (w64 (Int.tdiv vn9 (w64 (d4 * d4))))) rfl (by kernel_rfl)) ?_
         refine XL_nil ?_
         subst hvn16
         kernel_rfl
        obtain ⟨k17, hk17, h⟩ := of_sI h
        refine V_reg (mb 30 49) [] (s1 := ⟨I vn16 :: bt 3 (I k17 :: I d4 :: bt 24 []), []⟩) ?_ ?_
        ·refine L0 rfl rfl (E_move (I k10) rfl (by kernel_rfl)) ?_
         refine L0 rfl rfl (E_move (I d4) rfl (by kernel_rfl)) ?_
         refine L0 rfl rfl (Y0_mul64 (a := k10) (b := d4) rfl (by kernel_rfl) (by kernel_rfl)) ?_
         refine L0 rfl rfl (E_assign (I (w64 (k10 * d4))) rfl (by kernel_rfl)) ?_
         refine XL_nil ?_
         subst hk17
         kernel_rfl
        exact ⟨n, Nat.lt_succ_self n, _, _,  by rfl, h⟩
       ·have h := of_false h hc14
        refine V_exit ?_
        obtain rfl := some_inj h
        show St.keep _ _ _ = _
        rfl
     show V _ _ _ _
     obtain ⟨d18, hd18, h⟩ := of_sI h
     refine V_reg (mb 30 49) [] (s1 := ⟨I o12.1 :: bt 3 (I o12.2 :: I d18 :: bt 24 []), []⟩) ?_ ?_
     ·refine L0 rfl rfl (E_move (I d4) rfl (by kernel_rfl)) ?_
      refine L0 rfl rfl (Y0_add64 (a := d4) (b := 1) rfl (by kernel_rfl) (by kernel_rfl)) ?_
      refine L0 rfl rfl (E_assign (I (w64 (d4 + 1))) rfl (by kernel_rfl)) ?_
      refine XL_nil ?_
      subst hd18
      kernel_rfl
     exact ⟨n, Nat.lt_succ_self n, _, _, _,  by rfl, h⟩
    ·have h := of_false h hc8
     refine V_exit ?_
     obtain rfl := some_inj h
     show St.keep _ _ _ = _
     rfl
  show V _ _ _ _
  refine V_sreg (mb 30 12) [] (s1 := ⟨.bot :: .bot :: I o6.1 :: I o6.2 :: bt 26 [], []⟩) ?_ ?_
  ·refine L0 rfl rfl (E_move (I o6.1) rfl (by kernel_rfl)) ?_
   refine L0 rfl rfl (E_move (I o6.2) rfl (by kernel_rfl)) ?_
   refine L0 rfl rfl (E_assign (I o6.1) rfl (by kernel_rfl)) ?_
   refine L0 rfl rfl (E_assign (I o6.2) rfl (by kernel_rfl)) ?_
   refine XL_nil ?_
   kernel_rfl
  refine V_ret ?_
  obtain rfl := some_inj h
  show Post _ _ _ _ _
  exact ⟨.inr rfl, rfl, rfl, rfl⟩
theorem cf_spec_diSplit : ∀ args w, (callFunc 74 args).run Try.prog w = .ok (.enter 74 args) w := run_callFunc Try.func74 (by kernel_rfl) (by kernel_rfl)
set_option maxRecDepth 100000 in
set_option maxHeartbeats 400000 in
theorem s_spec_diSplit {d1 : Int} {r : (Int × Int)} (h : r_spec_diSplit d1 = some r) : CallS Try.prog 74 [I d1] (.tc (I r.1) (.tc (I r.2) .tn)) [] := by
  refine CallS_of_text (rs := [.t 2, .t 3]) (vs := [.tmp 2, .tmp 3]) Try.func74 rfl rfl (.cons rfl (.cons rfl FitsL.nil)) (by decide) 20 rfl ?_
  unfold r_spec_diSplit at h
  show V _ _ ⟨I d1 :: bt 19 [], []⟩ _
  refine V_sreg (mb 20 1) [] (s1 := ⟨I d1 :: bt 19 [], []⟩) ?_ ?_
  ·refine L0 rfl rfl (E_assign (I 0) rfl (by kernel_rfl)) ?_
   refine L0 rfl rfl (E_assign (I 0) rfl (by kernel_rfl)) ?_
   refine XL_nil ?_
   kernel_rfl
  obtain ⟨y2, hy2, h⟩ := of_bind h
  refine V_sreg (mb 20 48) [] (s1 := ⟨bt 4 (I y2.1 :: I y2.2 :: bt 14 []), []⟩) ?_ ?_
  ·refine L0 rfl rfl (E_move (I d1) rfl (by kernel_rfl)) ?_
   refine L1 rfl rfl (Y1_call (s_spec_nuFree hy2) cf_spec_nuFree rfl (by kernel_rfl)) ?_
   refine L0 rfl rfl (E_move (.tc (I y2.1) (.tc (I y2.2) .tn)) rfl (by kernel_rfl)) ?_
   refine L0 rfl rfl (E_ext (n := 0) (I y2.1) (.tc (I y2.2) .tn) (I y2.1) rfl (by kernel_rfl) (by kernel_rfl) (by intro hh; cases hh)) ?_
   refine L0 rfl rfl (E_ext (n := 1) (I y2.1) (.tc (I y2.2) .tn) (I y2.2) rfl (by kernel_rfl) (by kernel_rfl) (by intro hh; cases hh)) ?_
   refine L0 rfl rfl (E_assign (I y2.1) rfl (by kernel_rfl)) ?_
   refine L0 rfl rfl (E_assign (I y2.2) rfl (by kernel_rfl)) ?_
   refine XL_nil ?_
   kernel_rfl
  refine V_seq ?_
  obtain ⟨y3, hy3, h⟩ := of_bind h
  refine V_sreg (mb 20 8240) [] (s1 := ⟨bt 4 (I y2.1 :: I y2.2 :: bt 7 (Bo (eqI y3 1) :: bt 6 [])), []⟩) ?_ ?_
  ·refine L0 rfl rfl (E_move (I y2.1) rfl (by kernel_rfl)) ?_
   refine L1 rfl rfl (Y1_call (s_spec_nuMod hy3) cf_spec_nuMod rfl (by kernel_rfl)) ?_
   refine L0 rfl rfl (Y0_eqw (k := .i64) (a := y3) (b := 1) rfl (by kernel_rfl) (by kernel_rfl)) ?_
   refine XL_nil ?_
   kernel_rfl
  refine V_cond rfl (fun hc4 => ?_) (fun hc4 => ?_)
  ·have h := of_true h hc4
   refine V_sreg (mb 20 12) [] (s1 := ⟨.bot :: .bot :: I y2.1 :: I y2.2 :: bt 16 [], []⟩) ?_ ?_
   ·refine L0 rfl rfl (E_move (I y2.1) rfl (by kernel_rfl)) ?_
    refine L0 rfl rfl (E_move (I y2.2) rfl (by kernel_rfl)) ?_
    refine L0 rfl rfl (E_assign (I y2.1) rfl (by kernel_rfl)) ?_
    refine L0 rfl rfl (E_assign (I y2.2) rfl (by kernel_rfl)) ?_
    refine XL_nil ?_
    kernel_rfl
   refine V_ret ?_
   obtain rfl := some_inj h
   show Post _ _ _ _ _
   exact ⟨.inr rfl, rfl, rfl, rfl⟩
  ·have h := of_false h hc4
   refine V_skip ?_
   show V _ _ _ _
   obtain ⟨t5, ht5, h⟩ := of_sI h
   obtain ⟨t6, ht6, h⟩ := of_sI h
   refine V_sreg (mb 20 12) [] (s1 := ⟨.bot :: .bot :: I t5 :: I t6 :: bt 16 [], []⟩) ?_ ?_
   ·refine L0 rfl rfl (E_move (I y2.1) rfl (by kernel_rfl)) ?_
    refine L0 rfl rfl (Y0_mul64 (a := 4) (b := y2.1) rfl (by kernel_rfl) (by kernel_rfl)) ?_
    refine L0 rfl rfl (E_move (I y2.2) rfl (by kernel_rfl)) ?_
    refine L0 rfl rfl (Y0_quo64 (a := y2.2) (b := 2) rfl (by kernel_rfl) (by kernel_rfl) (by decide)) ?_
    refine L0 rfl rfl (E_assign (I (w64 (4 * y2.1))) rfl (by kernel_rfl)) ?_
    refine L0 rfl rfl (E_assign (I (w64 (Int.tdiv y2.2 2))) rfl (by kernel_rfl)) ?_
    refine XL_nil ?_
    subst ht5 ht6
    kernel_rfl
   refine V_ret ?_
   obtain rfl := some_inj h
   show Post _ _ _ _ _
   exact ⟨.inr rfl, rfl, rfl, rfl⟩
theorem cf_spec_FundamentalPart : ∀ args w, (callFunc 20 args).run Try.prog w = .ok (.enter 20 args) w := run_callFunc Try.func20 (by kernel_rfl) (by kernel_rfl)
set_option maxRecDepth 100000 in
set_option maxHeartbeats 400000 in
theorem s_spec_FundamentalPart {d1 : Int} {r : (Int × Int × Bool)} (h : r_spec_FundamentalPart d1 = some r) : CallS Try.prog 20 [I d1] (.tc (I r.1) (.tc (I r.2.1) (.tc (Bo r.2.2) .tn))) [] := by
  refine CallS_of_text (rs := [.t 2, .t 3, .t 4]) (vs := [.tmp 2, .tmp 3, .tmp 4]) Try.func20 rfl rfl (.cons rfl (.cons rfl (.cons rfl FitsL.nil))) (by decide) 17 rfl ?_
  unfold r_spec_FundamentalPart at h
  show V _ _ ⟨I d1 :: bt 16 [], []⟩ _
  refine V_sreg (mb 17 1) [] (s1 := ⟨I d1 :: bt 16 [], []⟩) ?_ ?_
  ·refine L0 rfl rfl (E_assign (I 0) rfl (by kernel_rfl)) ?_
   refine L0 rfl rfl (E_assign (I 0) rfl (by kernel_rfl)) ?_
   refine L0 rfl rfl (E_assign (Bo false) rfl (by kernel_rfl)) ?_
   refine XL_nil ?_
   kernel_rfl
  refine V_seq ?_
  obtain ⟨y2, hy2, h⟩ := of_bind h
  refine V_sreg (mb 17 513) [] (s1 := ⟨I d1 :: bt 8 (Bo (!y2) :: bt 7 []), []⟩) ?_ ?_
  ·refine L0 rfl rfl (E_move (I d1) rfl (by kernel_rfl)) ?_
   refine L1 rfl rfl (Y1_call (s_spec_diIs hy2) cf_spec_diIs rfl (by kernel_rfl)) ?_
   refine L0 rfl rfl (Y0_not (b := y2) rfl (by kernel_rfl)) ?_
   refine XL_nil ?_
   kernel_rfl
  refine V_cond rfl (fun hc3 => ?_) (fun hc3 => ?_)
  ·have h := of_true h hc3
   refine V_sreg (mb 17 28) [] (s1 := ⟨.bot :: .bot :: I 0 :: I 0 :: Bo false :: bt 12 [], []⟩) ?_ ?_
   ·refine L0 rfl rfl (E_assign (I 0) rfl (by kernel_rfl)) ?_
    refine L0 rfl rfl (E_assign (I 0) rfl (by kernel_rfl)) ?_
    refine L0 rfl rfl (E_assign (Bo false) rfl (by kernel_rfl)) ?_
    refine XL_nil ?_
    kernel_rfl
   refine V_ret ?_
   obtain rfl := some_inj h
   show Post _ _ _ _ _
   exact ⟨.inr rfl, rfl, rfl, rfl⟩
  ·have h := of_false h hc3
   refine V_skip ?_
   show V _ _ _ _
   obtain ⟨y4, hy4, h⟩ := of_bind h
   refine V_sreg (mb 17 96) [] (s1 := ⟨bt 5 (I y4.1 :: I y4.2 :: bt 10 []), []⟩) ?_ ?_
   ·refine L0 rfl rfl (E_move (I d1) rfl (by kernel_rfl)) ?_
    refine L1 rfl rfl (Y1_call (s_spec_diSplit hy4) cf_spec_diSplit rfl (by kernel_rfl)) ?_
    refine L0 rfl rfl (E_move (.tc (I y4.1) (.tc (I y4.2) .tn)) rfl (by kernel_rfl)) ?_
    refine L0 rfl rfl (E_ext (n := 0) (I y4.1) (.tc (I y4.2) .tn) (I y4.1) rfl (by kernel_rfl) (by kernel_rfl) (by intro hh; cases hh)) ?_
    refine L0 rfl rfl (E_ext (n := 1) (I y4.1) (.tc (I y4.2) .tn) (I y4.2) rfl (by kernel_rfl) (by kernel_rfl) (by intro hh; cases hh)) ?_
    refine L0 rfl rfl (E_assign (I y4.1) rfl (by kernel_rfl)) ?_
    refine L0 rfl rfl (E_assign (I y4.2) rfl (by kernel_rfl)) ?_
    refine XL_nil ?_
    kernel_rfl
   refine V_sreg (mb 17 28) [] (s1 := ⟨.bot :: .bot :: I y4.1 :: I y4.2 :: Bo true :: bt 12 [], []⟩) ?_ ?_
   ·refine L0 rfl rfl (E_move (I y4.1) rfl (by kernel_rfl)) ?_
    refine L0 rfl rfl (E_move (I y4.2) rfl (by kernel_rfl)) ?_
    refine L0 rfl rfl (E_assign (I y4.1) rfl (by kernel_rfl)) ?_
    refine L0 rfl rfl (E_assign (I y4.2) rfl (by kernel_rfl)) ?_
    refine L0 rfl rfl (E_assign (Bo true) rfl (by kernel_rfl)) ?_
    refine XL_nil ?_
    kernel_rfl
   refine V_ret ?_
   obtain rfl := some_inj h
   show Post _ _ _ _ _
   exact ⟨.inr rfl, rfl, rfl, rfl⟩
theorem cf_impl_IsFundamental : ∀ args w, (callFunc 21 args).run Try.prog w = .ok (.enter 21 args) w := run_callFunc Try.func21 (by kernel_rfl) (by kernel_rfl)
set_option maxRecDepth 100000 in
set_option maxHeartbeats 400000 in
theorem s_impl_IsFundamental {d1 : Int} {r : (Bool × Bool)} (h : r_impl_IsFundamental d1 = some r) : CallS Try.prog 21 [I d1] (.tc (Bo r.1) (.tc (Bo r.2) .tn)) [] := by
  refine CallS_of_text (rs := [.t 2, .t 3]) (vs := [.tmp 2, .tmp 3]) Try.func21 rfl rfl (.cons rfl (.cons rfl FitsL.nil)) (by decide) 16 rfl ?_
  unfold r_impl_IsFundamental at h
  show V _ _ ⟨I d1 :: bt 15 [], []⟩ _
  refine V_sreg (mb 16 1) [] (s1 := ⟨I d1 :: bt 15 [], []⟩) ?_ ?_
  ·refine L0 rfl rfl (E_assign (Bo false) rfl (by kernel_rfl)) ?_
   refine L0 rfl rfl (E_assign (Bo false) rfl (by kernel_rfl)) ?_
   refine XL_nil ?_
   kernel_rfl
  refine V_seq ?_
  obtain ⟨y2, hy2, h⟩ := of_bind h
  refine V_sreg (mb 16 257) [] (s1 := ⟨I d1 :: bt 7 (Bo (!y2) :: bt 7 []), []⟩) ?_ ?_
  ·refine L0 rfl rfl (E_move (I d1) rfl (by kernel_rfl)) ?_
   refine L1 rfl rfl (Y1_call (s_impl_isDiscriminant hy2) cf_impl_isDiscriminant rfl (by kernel_rfl)) ?_
   refine L0 rfl rfl (Y0_not (b := y2) rfl (by kernel_rfl)) ?_
   refine XL_nil ?_
   kernel_rfl
  refine V_cond rfl (fun hc3 => ?_) (fun hc3 => ?_)
  ·have h := of_true h hc3
   refine V_sreg (mb 16 12) [] (s1 := ⟨.bot :: .bot :: Bo false :: Bo false :: bt 12 [], []⟩) ?_ ?_
   ·refine L0 rfl rfl (E_assign (Bo false) rfl (by kernel_rfl)) ?_
    refine L0 rfl rfl (E_assign (Bo false) rfl (by kernel_rfl)) ?_
    refine XL_nil ?_
    kernel_rfl
   refine V_ret ?_
   obtain rfl := some_inj h
   show Post _ _ _ _ _
   exact ⟨.inr rfl, rfl, rfl, rfl⟩
  ·have h := of_false h hc3
   refine V_skip ?_
   show V _ _ _ _
   obtain ⟨y4, hy4, h⟩ := of_bind h
   refine V_sreg (mb 16 32) [] (s1 := ⟨bt 5 (I y4.2 :: bt 10 []), []⟩) ?_ ?_
   ·refine L0 rfl rfl (E_move (I d1) rfl (by kernel_rfl)) ?_
    refine L1 rfl rfl (Y1_call (s_impl_fundamental hy4) cf_impl_fundamental rfl (by kernel_rfl)) ?_
    refine L0 rfl rfl (E_move (.tc (I y4.1) (.tc (I y4.2) .tn)) rfl (by kernel_rfl)) ?_
    refine L0 rfl rfl (E_ext (n := 0) (I y4.1) (.tc (I y4.2) .tn) (I y4.1) rfl (by kernel_rfl) (by kernel_rfl) (by intro hh; cases hh)) ?_
    refine L0 rfl rfl (E_ext (n := 1) (I y4.1) (.tc (I y4.2) .tn) (I y4.2) rfl (by kernel_rfl) (by kernel_rfl) (by intro hh; cases hh)) ?_
    refine L0 rfl rfl (E_assign (I y4.1) rfl (by kernel_rfl)) ?_
    refine L0 rfl rfl (E_assign (I y4.2) rfl (by kernel_rfl)) ?_
    refine XL_nil ?_
    kernel_rfl
   refine V_sreg (mb 16 12) [] (s1 := ⟨.bot :: .bot :: Bo (eqI y4.2 1) :: Bo true :: bt 12 [], []⟩) ?_ ?_
   ·refine L0 rfl rfl (E_move (I y4.2) rfl (by kernel_rfl)) ?_
    refine L0 rfl rfl (Y0_eqw (k := .i64) (a := y4.2) (b := 1) rfl (by kernel_rfl) (by kernel_rfl)) ?_
    refine L0 rfl rfl (E_assign (Bo (eqI y4.2 1)) rfl (by kernel_rfl)) ?_
    refine L0 rfl rfl (E_assign (Bo true) rfl (by kernel_rfl)) ?_
    refine XL_nil ?_
    kernel_rfl
   refine V_ret ?_
   obtain rfl := some_inj h
   show Post _ _ _ _ _
   exact ⟨.inr rfl, rfl, rfl, rfl⟩
theorem cf_impl_factors : ∀ args w, (callFunc 197 args).run Try.prog w = .ok (.enter 197 args) w := run_callFunc Try.func197 (by kernel_rfl) (by kernel_rfl)
set_option maxRecDepth 100000 in
set_option maxHeartbeats 400000 in
theorem s_impl_factors {vn1 : Int} {r : List Int} (h : r_impl_factors vn1 = some r) : CallS Try.prog 197 [I vn1] (.ow 0) [(0, .arr 3 1 (r.map c3))] := by
  refine CallS_of_text (rs := [.t 2]) (vs := [.tmp 2]) Try.func197 rfl rfl (.cons rfl FitsL.nil) (by decide) 31 rfl ?_
  unfold r_impl_factors at h
  show V _ _ ⟨I vn1 :: bt 30 [], []⟩ _
  refine V_sreg (mb 31 1) [] (s1 := ⟨I vn1 :: bt 30 [], []⟩) ?_ ?_
  ·refine L1 rfl rfl (Y1_nil (e := 3) 1 (by decide) (.inl rfl)) ?_
   refine XL_nil ?_
   kernel_rfl
  refine V_sreg (mb 31 9) [40] (s1 := ⟨I vn1 :: .bot :: .bot :: .ow 40 :: bt 27 [], [(40, .arr 3 1 ((([] : List Int)).map c3))]⟩) ?_ ?_
  ·refine L1 rfl rfl (Y1_bslice0 Try.underlying41 sz3 (by decide) rfl rfl) ?_
   refine L0 rfl rfl (E_assign (.ow 40) rfl (by kernel_rfl)) ?_
   refine XL_nil ?_
   kernel_rfl
  refine V_seq ?_
  refine V_sreg (mb 31 25) [40] (s1 := ⟨I vn1 :: .bot :: .bot :: .ow 40 :: I 2 :: bt 26 [], [(40, .arr 3 1 ((([] : List Int)).map c3))]⟩) ?_ ?_
  ·refine L0 rfl rfl (E_assign (I 2) rfl (by kernel_rfl)) ?_
   refine XL_nil ?_
   kernel_rfl
  obtain ⟨o6, hLo6, h⟩ := of_bind h
  refine V_toK (mb 31 9) [40] (s1 := ⟨I o6.1 :: .bot :: .bot :: .ow 40 :: bt 27 [], [(40, .arr 3 1 (o6.2.map c3))]⟩) ?_ ?_
  ·clear h
   refine V_block (V_loop (fun n s => ∃ (vn2 : Int) (p3 : Int) (l4 : List Int), s.keep (mb 31 25) [40] = (⟨I vn2 :: .bot :: .bot :: .ow 40 :: I p3 :: bt 26 [], [(40, .arr 3 1 (l4.map c3))]⟩ : St) ∧ r_impl_factors_L5 n vn2 p3 l4 = some o6) FU ⟨_, _, _,  by rfl, hLo6⟩ ?_)
   clear hLo6
   rintro n s ⟨vn2, p3, l4, hs, h⟩
   refine V_keep _ _ hs ?_
   clear hs
   cases n with
   | zero => cases h
   | succ n =>
    rw [r_impl_factors_L5] at h
    refine V_seq ?_
    refine V_sreg (mb 31 1049) [40] (s1 := ⟨I vn2 :: .bot :: .bot :: .ow 40 :: I p3 :: bt 5 (Bo (leI (w64 (p3 * p3)) vn2) :: bt 20 []), [(40, .arr 3 1 (l4.map c3))]⟩) ?_ ?_
    ·refine L0 rfl rfl (E_move (I p3) rfl (by kernel_rfl)) ?_
     refine L0 rfl rfl (E_move (I p3) rfl (by kernel_rfl)) ?_
     refine L0 rfl rfl (Y0_mul64 (a := p3) (b := p3) rfl (by kernel_rfl) (by kernel_rfl)) ?_
     refine L0 rfl rfl (E_move (I vn2) rfl (by kernel_rfl)) ?_
     refine L0 rfl rfl (Y0_lew (k := .i64) (a := w64 (p3 * p3)) (b := vn2) rfl (by kernel_rfl) (by kernel_rfl)) ?_
     refine XL_nil ?_
     kernel_rfl
    refine V_cond rfl (fun hc7 => ?_) (fun hc7 => ?_)
    ·have h := of_true h hc7
     refine V_skip ?_
     show V _ _ _ _
     refine V_seq ?_
     refine V_block ?_
     obtain ⟨o11, hLo11, h⟩ := of_bind h
     refine V_toK (mb 31 25) [40] (s1 := ⟨I o11.1 :: .bot :: .bot :: .ow 40 :: I p3 :: bt 26 [], [(40, .arr 3 1 (o11.2.map c3))]⟩) ?_ ?_
     ·clear h
      refine V_block (V_loop (fun n s => ∃ (vn8 : Int) (l9 : List Int), s.keep (mb 31 25) [40] = (⟨I vn8 :: .bot :: .bot :: .ow 40 :: I p3 :: bt 26 [], [(40, .arr 3 1 (l9.map c3))]⟩ : St) ∧ r_impl_factors_L10 p3 n vn8 l9 = some o11) FU ⟨_, _,  by rfl, hLo11⟩ ?_)
      clear hLo11
      rintro n s ⟨vn8, l9, hs, h⟩
      refine V_keep _ _ hs ?_
      clear hs
      cases n with
      | zero => cases h
      | succ n =>
       rw [r_impl_factors_L10] at h
       refine V_seq ?_
       obtain ⟨z12, hz12, h⟩ := of_bind h
       refine V_sreg (mb 31 65561) [40] (s1 := ⟨I vn8 :: .bot :: .bot :: .ow 40 :: I p3 :: bt 11 (Bo (eqI (Int.tmod vn8 p3) 0) :: bt 14 []), [(40, .arr 3 1 (l9.map c3))]⟩) ?_ ?_
       ·refine L0 rfl rfl (E_move (I vn8) rfl (by kernel_rfl)) ?_
        refine L0 rfl rfl (E_move (I p3) rfl (by kernel_rfl)) ?_
        refine L0 rfl rfl (Y0_rem (k := .i64) (a := vn8) (b := p3) rfl (by kernel_rfl) (by kernel_rfl) (nz_some hz12)) ?_
        refine L0 rfl rfl (Y0_eqw (k := .i64) (a := Int.tmod vn8 p3) (b := 0) rfl (by kernel_rfl) (by kernel_rfl)) ?_
        refine XL_nil ?_
        kernel_rfl
       refine V_cond rfl (fun hc13 => ?_) (fun hc13 => ?_)
       ·have h := of_true h hc13
        refine V_skip ?_
        show V _ _ _ _
        refine V_block ?_
        obtain ⟨u14, hu14, h⟩ := of_bind h
        refine V_sreg (mb 31 25) [40] (s1 := ⟨I vn8 :: .bot :: .bot :: .ow 40 :: I p3 :: bt 26 [], [(40, .arr 3 1 ((l9 ++ ([p3])).map c3))]⟩) ?_ ?_
        ·refine L0 rfl rfl (E_move (.ow 40) rfl (by kernel_rfl)) ?_
         refine L0 rfl rfl (E_move (I p3) rfl (by kernel_rfl)) ?_
         refine L1 rfl rfl (Y1_bslice (z := zv3) (els := [p3].map c3) Try.underlying41 iz3 rfl (by decide) rfl (by kernel_rfl) rfl (by simp [c3]) (by decide) (by decide)) ?_
         refine XL_cons rfl (X_appendM (c := c3) (xs := l9) (ys := [p3]) (id := 40) (z := zv3) rfl rfl Try.underlying41 izb3 rfl (by kernel_rfl) (by kernel_rfl) (by kernel_rfl) (fun _ => rfl) (by simp) (room_some hu14) (by decide)) ?_
         refine L0 rfl rfl (E_assign (.ow 40) rfl (by kernel_rfl)) ?_
         refine XL_nil ?_
         kernel_rfl
        obtain ⟨z15, hz15, h⟩ := of_bind h
        obtain ⟨vn16, hvn16, h⟩ := of_sI h
        refine V_reg (mb 31 25) [40] (s1 := ⟨I vn16 :: .bot :: .bot :: .ow 40 :: I p3 :: bt 26 [], [(40, .arr 3 1 ((l9 ++ ([p3])).map c3))]⟩) ?_ ?_
        ·refine L0 rfl rfl (E_move (I vn8) rfl (by kernel_rfl)) ?_
         refine L0 rfl rfl (E_move (I p3) rfl (by kernel_rfl)) ?_
         refine L0 rfl rfl (Y0_quo64 (a := vn8) (b := p3) rfl (by kernel_rfl) (by kernel_rfl) (nz_some hz15)) ?_
         refine L0 rfl rfl (E_assign (I (w64 (Int.tdiv vn8 p3))) rfl (by kernel_rfl)) ?_
         refine XL_nil ?_
         subst hvn16
         kernel_rfl
        exact ⟨n, Nat.lt_succ_self n, _, _,  by rfl, h⟩
       ·have h := of_false h hc13
        refine V_exit ?_
        obtain rfl := some_inj h
        show St.keep _ _ _ = _
        rfl
     show V _ _ _ _
     obtain ⟨p17, hp17, h⟩ := of_sI h
     refine V_reg (mb 31 25) [40] (s1 := ⟨I o11.1 :: .bot :: .bot :: .ow 40 :: I p17 :: bt 26 [], [(40, .arr 3 1 (o11.2.map c3))]⟩) ?_ ?_
     ·refine L0 rfl rfl (E_move (I p3) rfl (by kernel_rfl)) ?_
      refine L0 rfl rfl (Y0_add64 (a := p3) (b := 1) rfl (by kernel_rfl) (by kernel_rfl)) ?_
      refine L0 rfl rfl (E_assign (I (w64 (p3 + 1))) rfl (by kernel_rfl)) ?_
      refine XL_nil ?_
      subst hp17
      kernel_rfl
     exact ⟨n, Nat.lt_succ_self n, _, _, _,  by rfl, h⟩
    ·have h := of_false h hc7
     refine V_exit ?_
     obtain rfl := some_inj h
     show St.keep _ _ _ = _
     rfl
  show V _ _ _ _
  refine V_seq ?_
  refine V_sreg (mb 31 33554441) [40] (s1 := ⟨I o6.1 :: .bot :: .bot :: .ow 40 :: bt 21 (Bo (ltI 1 o6.1) :: bt 5 []), [(40, .arr 3 1 (o6.2.map c3))]⟩) ?_ ?_
  ·refine L0 rfl rfl (E_move (I o6.1) rfl (by kernel_rfl)) ?_
   refine L0 rfl rfl (Y0_gtw (k := .i64) (a := o6.1) (b := 1) rfl (by kernel_rfl) (by kernel_rfl)) ?_
   refine XL_nil ?_
   kernel_rfl
  refine V_cond rfl (fun hc18 => ?_) (fun hc18 => ?_)
  ·have h := of_true h hc18
   obtain ⟨u19, hu19, h⟩ := of_bind h
   refine V_reg (mb 31 8) [40] (s1 := ⟨bt 3 (.ow 40 :: bt 27 []), [(40, .arr 3 1 ((o6.2 ++ ([o6.1])).map c3))]⟩) ?_ ?_
   ·refine L0 rfl rfl (E_move (.ow 40) rfl (by kernel_rfl)) ?_
    refine L0 rfl rfl (E_move (I o6.1) rfl (by kernel_rfl)) ?_
    refine L1 rfl rfl (Y1_bslice (z := zv3) (els := [o6.1].map c3) Try.underlying41 iz3 rfl (by decide) rfl (by kernel_rfl) rfl (by simp [c3]) (by decide) (by decide)) ?_
    refine XL_cons rfl (X_appendM (c := c3) (xs := o6.2) (ys := [o6.1]) (id := 40) (z := zv3) rfl rfl Try.underlying41 izb3 rfl (by kernel_rfl) (by kernel_rfl) (by kernel_rfl) (fun _ => rfl) (by simp) (room_some hu19) (by decide)) ?_
    refine L0 rfl rfl (E_assign (.ow 40) rfl (by kernel_rfl)) ?_
    refine XL_nil ?_
    kernel_rfl
   show V _ _ _ _
   refine V_sreg (mb 31 4) [40] (s1 := ⟨.bot :: .bot :: .ow 40 :: bt 28 [], [(40, .arr 3 1 ((o6.2 ++ ([o6.1])).map c3))]⟩) ?_ ?_
   ·refine L0 rfl rfl (E_move (.ow 40) rfl (by kernel_rfl)) ?_
    refine L0 rfl rfl (E_assign (.ow 40) rfl (by kernel_rfl)) ?_
    refine XL_nil ?_
    kernel_rfl
   refine V_ret ?_
   obtain rfl := some_inj h
   show Post _ _ _ _ _
   exact ⟨.inr rfl, rfl, rfl, rfl⟩
  ·have h := of_false h hc18
   refine V_skip ?_
   show V _ _ _ _
   refine V_sreg (mb 31 4) [40] (s1 := ⟨.bot :: .bot :: .ow 40 :: bt 28 [], [(40, .arr 3 1 (o6.2.map c3))]⟩) ?_ ?_
   ·refine L0 rfl rfl (E_move (.ow 40) rfl (by kernel_rfl)) ?_
    refine L0 rfl rfl (E_assign (.ow 40) rfl (by kernel_rfl)) ?_
    refine XL_nil ?_
    kernel_rfl
   refine V_ret ?_
   obtain rfl := some_inj h
   show Post _ _ _ _ _
   exact ⟨.inr rfl, rfl, rfl, rfl⟩
theorem cf_impl_primesOf : ∀ args w, (callFunc 142 args).run Try.prog w = .ok (.enter 142 args) w := run_callFunc Try.func142 (by kernel_rfl) (by kernel_rfl)
set_option maxRecDepth 100000 in
set_option maxHeartbeats 400000 in
theorem s_impl_primesOf {vn1 : Int} {r : List Int} (h : r_impl_primesOf vn1 = some r) : CallS Try.prog 142 [I vn1] (.ow 0) [(0, .arr 3 1 (r.map c3))] := by
  refine CallS_of_text (rs := [.t 2]) (vs := [.tmp 2]) Try.func142 rfl rfl (.cons rfl FitsL.nil) (by decide) 33 rfl ?_
  unfold r_impl_primesOf at h
  show V _ _ ⟨I vn1 :: bt 32 [], []⟩ _
  refine V_sreg (mb 33 1) [] (s1 := ⟨I vn1 :: bt 32 [], []⟩) ?_ ?_
  ·refine L1 rfl rfl (Y1_nil (e := 3) 1 (by decide) (.inl rfl)) ?_
   refine XL_nil ?_
   kernel_rfl
  refine V_sreg (mb 33 9) [48] (s1 := ⟨I vn1 :: .bot :: .bot :: .ow 48 :: bt 29 [], [(48, .arr 3 1 ((([] : List Int)).map c3))]⟩) ?_ ?_
  ·refine L1 rfl rfl (Y1_bslice0 Try.underlying41 sz3 (by decide) rfl rfl) ?_
   refine L0 rfl rfl (E_assign (.ow 48) rfl (by kernel_rfl)) ?_
   refine XL_nil ?_
   kernel_rfl
  refine V_seq ?_
  obtain ⟨y2, hy2, h⟩ := of_bind h
  refine V_sreg (mb 33 1800) [64, 48] (s1 := ⟨bt 3 (.ow 48 :: bt 4 (.ow 64 :: I ((y2.length : Int)) :: I 0 :: bt 22 [])), [(64, .arr 3 1 (y2.map c3)), (48, .arr 3 1 ((([] : List Int)).map c3))]⟩) ?_ ?_
  ·refine L0 rfl rfl (E_move (I vn1) rfl (by kernel_rfl)) ?_
   refine L1 rfl rfl (Y1_call (s_impl_factors hy2) cf_impl_factors rfl (by kernel_rfl)) ?_
   refine L0 rfl rfl (Y0_lenM (c := c3) (xs := y2) Try.underlying41 rfl (by kernel_rfl)) ?_
   refine L0 rfl rfl (E_move (I 0) rfl (by kernel_rfl)) ?_
   refine XL_nil ?_
   kernel_rfl
  obtain ⟨o6, hLo6, h⟩ := of_bind h
  refine V_toK (mb 33 8) [48] (s1 := ⟨bt 3 (.ow 48 :: bt 29 []), [(48, .arr 3 1 (o6.map c3))]⟩) ?_ ?_
  ·clear h
   refine V_block (V_loop (fun n s => ∃ (t3 : Int) (l4 : List Int), s.keep (mb 33 1800) [64, 48] = (⟨bt 3 (.ow 48 :: bt 4 (.ow 64 :: I ((y2.length : Int)) :: I t3 :: bt 22 [])), [(64, .arr 3 1 (y2.map c3)), (48, .arr 3 1 (l4.map c3))]⟩ : St) ∧ r_impl_primesOf_L5 y2 n t3 l4 = some o6) FU ⟨_, _,  by rfl, hLo6⟩ ?_)
   clear hLo6
   rintro n s ⟨t3, l4, hs, h⟩
   refine V_keep _ _ hs ?_
   clear hs
   cases n with
   | zero => cases h
   | succ n =>
    rw [r_impl_primesOf_L5] at h
    refine V_sreg (mb 33 3848) [64, 48] (s1 := ⟨bt 3 (.ow 48 :: bt 4 (.ow 64 :: I ((y2.length : Int)) :: I t3 :: Bo (ltI t3 ((y2.length : Int))) :: bt 21 [])), [(64, .arr 3 1 (y2.map c3)), (48, .arr 3 1 (l4.map c3))]⟩) ?_ ?_
    ·refine L0 rfl rfl (Y0_ltw (k := .i64) (a := t3) (b := (y2.length : Int)) rfl (by kernel_rfl) (by kernel_rfl)) ?_
     refine XL_nil ?_
     kernel_rfl
    refine V_seq ?_
    refine V_cond rfl (fun hc7 => ?_) (fun hc7 => ?_)
    ·have h := of_true h hc7
     refine V_skip ?_
     show V _ _ _ _
     refine V_seq ?_
     refine V_block ?_
     obtain ⟨e8, he8, h⟩ := of_bind h
     obtain ⟨e9, he9, h⟩ := of_bind h
     refine V_sreg (mb 33 1832) [64, 48] (s1 := ⟨bt 3 (.ow 48 :: .bot :: I e9 :: .bot :: .bot :: .ow 64 :: I ((y2.length : Int)) :: I t3 :: bt 22 []), [(64, .arr 3 1 (y2.map c3)), (48, .arr 3 1 (l4.map c3))]⟩) ?_ ?_
     ·refine L0 rfl rfl (Y0_idxoM (c := c3) (xs := y2) (v := e8) (id := 64) (T := 3) (sz := 1) (n := t3) Try.underlying41 sz3 rfl (by kernel_rfl) (by kernel_rfl) (by kernel_rfl) he8) ?_
      refine L0 rfl rfl (Y0_loado1 (c := c3) (xs := y2) (v := e9) (id := 64) (sz := 1) (T := 3) (off := 0) (n := t3) (d := Ti e9) (ds := []) sc3 rfl (by kernel_rfl) (by kernel_rfl) he9 (by kernel_rfl)) ?_
      refine L0 rfl rfl (E_assign (I e9) rfl (by kernel_rfl)) ?_
      refine XL_nil ?_
      kernel_rfl
     obtain ⟨b13, hb13, h⟩ := of_bind h
     refine V_sreg (mb 33 67110696) [64, 48] (s1 := ⟨bt 3 (.ow 48 :: .bot :: I e9 :: .bot :: .bot :: .ow 64 :: I ((y2.length : Int)) :: I t3 :: bt 15 (Bo b13 :: bt 6 [])), [(64, .arr 3 1 (y2.map c3)), (48, .arr 3 1 (l4.map c3))]⟩) ?_ ?_
     ·refine L0 rfl rfl (E_move (.ow 48) rfl (by kernel_rfl)) ?_
      refine L0 rfl rfl (Y0_lenM (c := c3) (xs := l4) Try.underlying41 rfl (by kernel_rfl)) ?_
      refine L0 rfl rfl (Y0_eqw (k := .i64) (a := (l4.length : Int)) (b := 0) rfl (by kernel_rfl) (by kernel_rfl)) ?_
      refine L0 rfl rfl (E_move (Bo (eqI ((l4.length : Int)) 0)) rfl (by kernel_rfl)) ?_
      refine XL_split (eqI ((l4.length : Int)) 0) (fun hc10 => ?_) (fun hc10 => ?_)
      ·have hb13 := some_inj (of_true hb13 hc10)
       refine XL_skipF _ rfl rfl (by kernel_rfl) hc10 rfl ?_
       refine XL_skipF _ rfl rfl (by kernel_rfl) hc10 rfl ?_
       refine XL_skipF _ rfl rfl (by kernel_rfl) hc10 rfl ?_
       refine XL_skipF _ rfl rfl (by kernel_rfl) hc10 rfl ?_
       refine XL_skipF _ rfl rfl (by kernel_rfl) hc10 rfl ?_
       refine XL_skipF _ rfl rfl (by kernel_rfl) hc10 rfl ?_
       refine XL_skipF _ rfl rfl (by kernel_rfl) hc10 rfl ?_
       refine XL_skipF _ rfl rfl (by kernel_rfl) hc10 rfl ?_
       refine XL_cons rfl (X_of_Y0 rfl (Y0_pickTe (b := eqI ((l4.length : Int)) 0) (p := true) rfl (by kernel_rfl) hc10 (by kernel_rfl) hb13)) ?_
       refine XL_nil ?_
       kernel_rfl
      ·have hb13 := of_false hb13 hc10
       obtain ⟨e11, he11, hb13⟩ := of_bind hb13
       obtain ⟨e12, he12, hb13⟩ := of_bind hb13
       have hb13 := some_inj hb13
       refine XL_takeC _ rfl rfl (by kernel_rfl) hc10 (X_of_Y0 rfl (E_move (.ow 48) rfl (by kernel_rfl))) ?_
       refine XL_takeC _ rfl rfl (by kernel_rfl) hc10 (X_of_Y0 rfl (E_move (.ow 48) rfl (by kernel_rfl))) ?_
       refine XL_takeC _ rfl rfl (by kernel_rfl) hc10 (X_of_Y0 rfl (Y0_lenM (c := c3) (xs := l4) Try.underlying41 rfl (by kernel_rfl))) ?_
       refine XL_takeC _ rfl rfl (by kernel_rfl) hc10 (X_of_Y0 rfl (Y0_sub64 (a := (l4.length : Int)) (b := 1) rfl (by kernel_rfl) (by kernel_rfl))) ?_
       refine XL_takeC _ rfl rfl (by kernel_rfl) hc10 (X_of_Y0 rfl (Y0_idxoM (c := c3) (xs := l4) (v := e11) (id := 48) (T := 3) (sz := 1) (n := w64 (((l4.length : Int)) - 1)) Try.underlying41 sz3 rfl (by kernel_rfl) (by kernel_rfl) (by kernel_rfl) he11)) ?_
       refine XL_takeC _ rfl rfl (by kernel_rfl) hc10 (X_of_Y0 rfl (Y0_loado1 (c := c3) (xs := l4) (v := e12) (id := 48) (sz := 1) (T := 3) (off := 0) (n := w64 (((l4.length : Int)) - 1)) (d := Ti e12) (ds := []) sc3 rfl (by kernel_rfl) (by kernel_rfl) he12 (by kernel_rfl))) ?_
       refine XL_takeC _ rfl rfl (by kernel_rfl) hc10 (X_of_Y0 rfl (E_move (I e9) rfl (by kernel_rfl))) ?_
       refine XL_takeC _ rfl rfl (by kernel_rfl) hc10 (X_of_Y0 rfl (Y0_new (k := .i64) (a := e12) (b := e9) rfl (by kernel_rfl) (by kernel_rfl))) ?_
       refine XL_cons rfl (X_of_Y0 rfl (Y0_pickFe (b := eqI ((l4.length : Int)) 0) (p := !eqI e12 e9) rfl (by kernel_rfl) hc10 (by kernel_rfl) hb13)) ?_
       refine XL_nil ?_
       kernel_rfl
     refine V_cond rfl (fun hc14 => ?_) (fun hc14 => ?_)
     ·have h := of_true h hc14
      obtain ⟨u15, hu15, h⟩ := of_bind h
      refine V_reg (mb 33 1800) [64, 48] (s1 := ⟨bt 3 (.ow 48 :: bt 4 (.ow 64 :: I ((y2.length : Int)) :: I t3 :: bt 22 [])), [(64, .arr 3 1 (y2.map c3)), (48, .arr 3 1 ((l4 ++ ([e9])).map c3))]⟩) ?_ ?_
      ·refine L0 rfl rfl (E_move (.ow 48) rfl (by kernel_rfl)) ?_
       refine L0 rfl rfl (E_move (I e9) rfl (by kernel_rfl)) ?_
       refine L1 rfl rfl (Y1_bslice (z := zv3) (els := [e9].map c3) Try.underlying41 iz3 rfl (by decide) rfl (by kernel_rfl) rfl (by simp [c3]) (by decide) (by decide)) ?_
       refine XL_cons rfl (X_appendM (c := c3) (xs := l4) (ys := [e9]) (id := 48) (z := zv3) rfl rfl Try.underlying41 izb3 rfl (by kernel_rfl) (by kernel_rfl) (by kernel_rfl) (fun _ => rfl) (by simp) (room_some hu15) (by decide)) ?_
       refine L0 rfl rfl (E_assign (.ow 48) rfl (by kernel_rfl)) ?_
       refine XL_nil ?_
       kernel_rfl
      show V _ _ _ _
      obtain ⟨t16, ht16, h⟩ := of_sI h
      refine V_reg (mb 33 1800) [64, 48] (s1 := ⟨bt 3 (.ow 48 :: bt 4 (.ow 64 :: I ((y2.length : Int)) :: I t16 :: bt 22 [])), [(64, .arr 3 1 (y2.map c3)), (48, .arr 3 1 ((l4 ++ ([e9])).map c3))]⟩) ?_ ?_
      ·refine L0 rfl rfl (Y0_add64 (a := t3) (b := 1) rfl (by kernel_rfl) (by kernel_rfl)) ?_
       refine L0 rfl rfl (E_move (I (w64 (t3 + 1))) rfl (by kernel_rfl)) ?_
       refine XL_nil ?_
       subst ht16
       kernel_rfl
      exact ⟨n, Nat.lt_succ_self n, _, _,  by rfl, h⟩
     ·have h := of_false h hc14
      refine V_skip ?_
      show V _ _ _ _
      obtain ⟨t17, ht17, h⟩ := of_sI h
      refine V_reg (mb 33 1800) [64, 48] (s1 := ⟨bt 3 (.ow 48 :: bt 4 (.ow 64 :: I ((y2.length : Int)) :: I t17 :: bt 22 [])), [(64, .arr 3 1 (y2.map c3)), (48, .arr 3 1 (l4.map c3))]⟩) ?_ ?_
      ·refine L0 rfl rfl (Y0_add64 (a := t3) (b := 1) rfl (by kernel_rfl) (by kernel_rfl)) ?_
       refine L0 rfl rfl (E_move (I (w64 (t3 + 1))) rfl (by kernel_rfl)) ?_
       refine XL_nil ?_
       subst ht17
       kernel_rfl
      exact ⟨n, Nat.lt_succ_self n, _, _,  by rfl, h⟩
    ·have h := of_false h hc7
     refine V_exit ?_
     obtain rfl := some_inj h
     show St.keep _ _ _ = _
     rfl
  show V _ _ _ _
  refine V_sreg (mb 33 4) [48] (s1 := ⟨.bot :: .bot :: .ow 48 :: bt 30 [], [(48, .arr 3 1 (o6.map c3))]⟩) ?_ ?_
  ·refine L0 rfl rfl (E_move (.ow 48) rfl (by kernel_rfl)) ?_
   refine L0 rfl rfl (E_assign (.ow 48) rfl (by kernel_rfl)) ?_
   refine XL_nil ?_
   kernel_rfl
  refine V_ret ?_
  obtain rfl := some_inj h
  show Post _ _ _ _ _
  exact ⟨.inr rfl, rfl, rfl, rfl⟩
theorem cf_impl_primeDiscriminants : ∀ args w, (callFunc 75 args).run Try.prog w = .ok (.enter 75 args) w := run_callFunc Try.func75 (by kernel_rfl) (by kernel_rfl)
set_option maxRecDepth 100000 in
set_option maxHeartbeats 400000 in
theorem s_impl_primeDiscriminants {d1 : Int} {r : List Int} (h : r_impl_primeDiscriminants d1 = some r) : CallS Try.prog 75 [I d1] (.ow 0) [(0, .arr 3 1 (r.map c3))] := by
  refine CallS_of_text (rs := [.t 2]) (vs := [.tmp 2]) Try.func75 rfl rfl (.cons rfl FitsL.nil) (by decide) 39 rfl ?_
  unfold r_impl_primeDiscriminants at h
  show V _ _ ⟨I d1 :: bt 38 [], []⟩ _
  refine V_sreg (mb 39 1) [] (s1 := ⟨I d1 :: bt 38 [], []⟩) ?_ ?_
  ·refine L1 rfl rfl (Y1_nil (e := 3) 1 (by decide) (.inl rfl)) ?_
   refine XL_nil ?_
   kernel_rfl
  refine V_sreg (mb 39 9) [56] (s1 := ⟨I d1 :: .bot :: .bot :: .ow 56 :: bt 35 [], [(56, .arr 3 1 ((([] : List Int)).map c3))]⟩) ?_ ?_
  ·refine L1 rfl rfl (Y1_bslice0 Try.underlying41 sz3 (by decide) rfl rfl) ?_
   refine L0 rfl rfl (E_assign (.ow 56) rfl (by kernel_rfl)) ?_
   refine XL_nil ?_
   kernel_rfl
  refine V_sreg (mb 39 25) [56] (s1 := ⟨I d1 :: .bot :: .bot :: .ow 56 :: I d1 :: bt 34 [], [(56, .arr 3 1 ((([] : List Int)).map c3))]⟩) ?_ ?_
  ·refine L0 rfl rfl (E_move (I d1) rfl (by kernel_rfl)) ?_
   refine L0 rfl rfl (E_assign (I d1) rfl (by kernel_rfl)) ?_
   refine XL_nil ?_
   kernel_rfl
  refine V_seq ?_
  obtain ⟨y2, hy2, h⟩ := of_bind h
  obtain ⟨y3, hy3, h⟩ := of_bind h
  refine V_sreg (mb 39 14360) [88, 56] (s1 := ⟨bt 3 (.ow 56 :: I d1 :: bt 6 (.ow 88 :: I ((y3.length : Int)) :: I 0 :: bt 25 [])), [(88, .arr 3 1 (y3.map c3)), (56, .arr 3 1 ((([] : List Int)).map c3))]⟩) ?_ ?_
  ·refine L0 rfl rfl (E_move (I d1) rfl (by kernel_rfl)) ?_
   refine L1 rfl rfl (Y1_call (s_impl_abs hy2) cf_impl_abs rfl (by kernel_rfl)) ?_
   refine L1 rfl rfl (Y1_call (s_impl_primesOf hy3) cf_impl_primesOf rfl (by kernel_rfl)) ?_
   refine L0 rfl rfl (Y0_lenM (c := c3) (xs := y3) Try.underlying41 rfl (by kernel_rfl)) ?_
   refine L0 rfl rfl (E_move (I 0) rfl (by kernel_rfl)) ?_
   refine XL_nil ?_
   kernel_rfl
  obtain ⟨o8, hLo8, h⟩ := of_bind h
  refine V_toK (mb 39 24) [56] (s1 := ⟨bt 3 (.ow 56 :: I o8.1 :: bt 34 []), [(56, .arr 3 1 (o8.2.map c3))]⟩) ?_ ?_
  ·clear h
   refine V_block (V_loop (fun n s => ∃ (t4 : Int) (rest5 : Int) (l6 : List Int), s.keep (mb 39 14360) [88, 56] = (⟨bt 3 (.ow 56 :: I rest5 :: bt 6 (.ow 88 :: I ((y3.length : Int)) :: I t4 :: bt 25 [])), [(88, .arr 3 1 (y3.map c3)), (56, .arr 3 1 (l6.map c3))]⟩ : St) ∧ r_impl_primeDiscriminants_L7 y3 n t4 rest5 l6 = some o8) FU ⟨_, _, _,  by rfl, hLo8⟩ ?_)
   clear hLo8
   rintro n s ⟨t4, rest5, l6, hs, h⟩
   refine V_keep _ _ hs ?_
   clear hs
   cases n with
   | zero => cases h
   | succ n =>
    rw [r_impl_primeDiscriminants_L7] at h
    refine V_sreg (mb 39 30744) [88, 56] (s1 := ⟨bt 3 (.ow 56 :: I rest5 :: bt 6 (.ow 88 :: I ((y3.length : Int)) :: I t4 :: Bo (ltI t4 ((y3.length : Int))) :: bt 24 [])), [(88, .arr 3 1 (y3.map c3)), (56, .arr 3 1 (l6.map c3))]⟩) ?_ ?_
    ·refine L0 rfl rfl (Y0_ltw (k := .i64) (a := t4) (b := (y3.length : Int)) rfl (by kernel_rfl) (by kernel_rfl)) ?_
     refine XL_nil ?_
     kernel_rfl
    refine V_seq ?_
    refine V_cond rfl (fun hc9 => ?_) (fun hc9 => ?_)
    ·have h := of_true h hc9
     refine V_skip ?_
     show V _ _ _ _
     refine V_seq ?_
     refine V_block ?_
     obtain ⟨e10, he10, h⟩ := of_bind h
     obtain ⟨e11, he11, h⟩ := of_bind h
     refine V_sreg (mb 39 14424) [88, 56] (s1 := ⟨bt 3 (.ow 56 :: I rest5 :: .bot :: I e11 :: bt 4 (.ow 88 :: I ((y3.length : Int)) :: I t4 :: bt 25 [])), [(88, .arr 3 1 (y3.map c3)), (56, .arr 3 1 (l6.map c3))]⟩) ?_ ?_
     ·refine L0 rfl rfl (Y0_idxoM (c := c3) (xs := y3) (v := e10) (id := 88) (T := 3) (sz := 1) (n := t4) Try.underlying41 sz3 rfl (by kernel_rfl) (by kernel_rfl) (by kernel_rfl) he10) ?_
      refine L0 rfl rfl (Y0_loado1 (c := c3) (xs := y3) (v := e11) (id := 88) (sz := 1) (T := 3) (off := 0) (n := t4) (d := Ti e11) (ds := []) sc3 rfl (by kernel_rfl) (by kernel_rfl) he11 (by kernel_rfl)) ?_
      refine L0 rfl rfl (E_assign (I e11) rfl (by kernel_rfl)) ?_
      refine XL_nil ?_
      kernel_rfl
     refine V_seq ?_
     refine V_sreg (mb 39 276568) [88, 56] (s1 := ⟨bt 3 (.ow 56 :: I rest5 :: .bot :: I e11 :: bt 4 (.ow 88 :: I ((y3.length : Int)) :: I t4 :: bt 4 (Bo (eqI e11 2) :: bt 20 []))), [(88, .arr 3 1 (y3.map c3)), (56, .arr 3 1 (l6.map c3))]⟩) ?_ ?_
     ·refine L0 rfl rfl (E_move (I e11) rfl (by kernel_rfl)) ?_
      refine L0 rfl rfl (Y0_eqw (k := .i64) (a := e11) (b := 2) rfl (by kernel_rfl) (by kernel_rfl)) ?_
      refine XL_nil ?_
      kernel_rfl
     refine V_cond rfl (fun hc12 => ?_) (fun hc12 => ?_)
     ·have h := of_true h hc12
      refine V_exit ?_
      show V _ _ _ _
      obtain ⟨t13, ht13, h⟩ := of_sI h
      refine V_reg (mb 39 14360) [88, 56] (s1 := ⟨bt 3 (.ow 56 :: I rest5 :: bt 6 (.ow 88 :: I ((y3.length : Int)) :: I t13 :: bt 25 [])), [(88, .arr 3 1 (y3.map c3)), (56, .arr 3 1 (l6.map c3))]⟩) ?_ ?_
      ·refine L0 rfl rfl (Y0_add64 (a := t4) (b := 1) rfl (by kernel_rfl) (by kernel_rfl)) ?_
       refine L0 rfl rfl (E_move (I (w64 (t4 + 1))) rfl (by kernel_rfl)) ?_
       refine XL_nil ?_
       subst ht13
       kernel_rfl
      exact ⟨n, Nat.lt_succ_self n, _, _, _,  by rfl, h⟩
     ·have h := of_false h hc12
      refine V_skip ?_
      show V _ _ _ _
      obtain ⟨j14, hj14, h⟩ := of_bind h
      refine V_cutK (mb 39 14424) [88, 56] (s1 := ⟨bt 3 (.ow 56 :: I rest5 :: .bot :: I j14 :: bt 4 (.ow 88 :: I ((y3.length : Int)) :: I t4 :: bt 25 [])), [(88, .arr 3 1 (y3.map c3)), (56, .arr 3 1 (l6.map c3))]⟩) ?_ ?_
      ·clear h
       have h := hj14
       clear hj14
       refine V_sreg (mb 39 2111576) [88, 56] (s1 := ⟨bt 3 (.ow 56 :: I rest5 :: .bot :: I e11 :: bt 4 (.ow 88 :: I ((y3.length : Int)) :: I t4 :: bt 7 (Bo (eqI (Int.tmod e11 4) 3) :: bt 17 []))), [(88, .arr 3 1 (y3.map c3)), (56, .arr 3 1 (l6.map c3))]⟩) ?_ ?_
       ·refine L0 rfl rfl (E_move (I e11) rfl (by kernel_rfl)) ?_
        refine L0 rfl rfl (Y0_rem (k := .i64) (a := e11) (b := 4) rfl (by kernel_rfl) (by kernel_rfl) (by decide)) ?_
        refine L0 rfl rfl (Y0_eqw (k := .i64) (a := Int.tmod e11 4) (b := 3) rfl (by kernel_rfl) (by kernel_rfl)) ?_
        refine XL_nil ?_
        kernel_rfl
       refine V_cond rfl (fun hc15 => ?_) (fun hc15 => ?_)
       ·have h := of_true h hc15
        obtain ⟨p16, hp16, h⟩ := of_sI h
        refine V_reg (mb 39 14424) [88, 56] (s1 := ⟨bt 3 (.ow 56 :: I rest5 :: .bot :: I p16 :: bt 4 (.ow 88 :: I ((y3.length : Int)) :: I t4 :: bt 25 [])), [(88, .arr 3 1 (y3.map c3)), (56, .arr 3 1 (l6.map c3))]⟩) ?_ ?_
        ·refine L0 rfl rfl (E_move (I e11) rfl (by kernel_rfl)) ?_
         refine L0 rfl rfl (Y0_neg64 (a := e11) rfl (by kernel_rfl)) ?_
         refine L0 rfl rfl (E_assign (I (w64 (0 - e11))) rfl (by kernel_rfl)) ?_
         refine XL_nil ?_
         subst hp16
         kernel_rfl
        obtain rfl := some_inj h
        show St.keep _ _ _ = _
        rfl
       ·have h := of_false h hc15
        refine V_skip ?_
        obtain rfl := some_inj h
        show St.keep _ _ _ = _
        rfl
      obtain ⟨u17, hu17, h⟩ := of_bind h
      refine V_sreg (mb 39 14424) [88, 56] (s1 := ⟨bt 3 (.ow 56 :: I rest5 :: .bot :: I j14 :: bt 4 (.ow 88 :: I ((y3.length : Int)) :: I t4 :: bt 25 [])), [(88, .arr 3 1 (y3.map c3)), (56, .arr 3 1 ((l6 ++ ([j14])).map c3))]⟩) ?_ ?_
      ·refine L0 rfl rfl (E_move (.ow 56) rfl (by kernel_rfl)) ?_
       refine L0 rfl rfl (E_move (I j14) rfl (by kernel_rfl)) ?_
       refine L1 rfl rfl (Y1_bslice (z := zv3) (els := [j14].map c3) Try.underlying41 iz3 rfl (by decide) rfl (by kernel_rfl) rfl (by simp [c3]) (by decide) (by decide)) ?_
       refine XL_cons rfl (X_appendM (c := c3) (xs := l6) (ys := [j14]) (id := 56) (z := zv3) rfl rfl Try.underlying41 izb3 rfl (by kernel_rfl) (by kernel_rfl) (by kernel_rfl) (fun _ => rfl) (by simp) (room_some hu17) (by decide)) ?_
       refine L0 rfl rfl (E_assign (.ow 56) rfl (by kernel_rfl)) ?_
       refine XL_nil ?_
       kernel_rfl
      obtain ⟨z18, hz18, h⟩ := of_bind h
      obtain ⟨rest19, hrest19, h⟩ := of_sI h
      refine V_reg (mb 39 14360) [88, 56] (s1 := ⟨bt 3 (.ow 56 :: I rest19 :: bt 6 (.ow 88 :: I ((y3.length : Int)) :: I t4 :: bt 25 [])), [(88, .arr 3 1 (y3.map c3)), (56, .arr 3 1 ((l6 ++ ([j14])).map c3))]⟩) ?_ ?_
      ·refine L0 rfl rfl (E_move (I rest5) rfl (by kernel_rfl)) ?_
       refine L0 rfl rfl (E_move (I j14) rfl (by kernel_rfl)) ?_
       refine L0 rfl rfl (Y0_quo64 (a := rest5) (b := j14) rfl (by kernel_rfl) (by kernel_rfl) (nz_some hz18)) ?_
       refine L0 rfl rfl (E_assign (I (w64 (Int.tdiv rest5 j14))) rfl (by kernel_rfl)) ?_
       refine XL_nil ?_
       subst hrest19
       kernel_rfl
      show V _ _ _ _
      obtain ⟨t20, ht20, h⟩ := of_sI h
      refine V_reg (mb 39 14360) [88, 56] (s1 := ⟨bt 3 (.ow 56 :: I rest19 :: bt 6 (.ow 88 :: I ((y3.length : Int)) :: I t20 :: bt 25 [])), [(88, .arr 3 1 (y3.map c3)), (56, .arr 3 1 ((l6 ++ ([j14])).map c3))]⟩) ?_ ?_
      ·refine L0 rfl rfl (Y0_add64 (a := t4) (b := 1) rfl (by kernel_rfl) (by kernel_rfl)) ?_
       refine L0 rfl rfl (E_move (I (w64 (t4 + 1))) rfl (by kernel_rfl)) ?_
       refine XL_nil ?_
       subst ht20
       kernel_rfl
      exact ⟨n, Nat.lt_succ_self n, _, _, _,  by rfl, h⟩
    ·have h := of_false h hc9
     refine V_exit ?_
     obtain rfl := some_inj h
     show St.keep _ _ _ = _
     rfl
  show V _ _ _ _
  refine V_seq ?_
  refine V_sreg (mb 39 8589934616) [56] (s1 := ⟨bt 3 (.ow 56 :: I o8.1 :: bt 28 (Bo (eqI o8.1 1) :: bt 5 [])), [(56, .arr 3 1 (o8.2.map c3))]⟩) ?_ ?_
  ·refine L0 rfl rfl (E_move (I o8.1) rfl (by kernel_rfl)) ?_
   refine L0 rfl rfl (Y0_eqw (k := .i64) (a := o8.1) (b := 1) rfl (by kernel_rfl) (by kernel_rfl)) ?_
   refine XL_nil ?_
   kernel_rfl
  refine V_cond rfl (fun hc21 => ?_) (fun hc21 => ?_)
  ·have h := of_true h hc21
   refine V_sreg (mb 39 4) [56] (s1 := ⟨.bot :: .bot :: .ow 56 :: bt 36 [], [(56, .arr 3 1 (o8.2.map c3))]⟩) ?_ ?_
   ·refine L0 rfl rfl (E_move (.ow 56) rfl (by kernel_rfl)) ?_
    refine L0 rfl rfl (E_assign (.ow 56) rfl (by kernel_rfl)) ?_
    refine XL_nil ?_
    kernel_rfl
   refine V_ret ?_
   obtain rfl := some_inj h
   show Post _ _ _ _ _
   exact ⟨.inr rfl, rfl, rfl, rfl⟩
  ·have h := of_false h hc21
   refine V_skip ?_
   show V _ _ _ _
   obtain ⟨u22, hu22, h⟩ := of_bind h
   refine V_sreg (mb 39 4) [288] (s1 := ⟨.bot :: .bot :: .ow 288 :: bt 36 [], [(288, .arr 3 1 ((([o8.1]) ++ o8.2).map c3))]⟩) ?_ ?_
   ·refine L0 rfl rfl (E_move (I o8.1) rfl (by kernel_rfl)) ?_
    refine L1 rfl rfl (Y1_bslice (z := zv3) (els := [o8.1].map c3) Try.underlying41 iz3 rfl (by decide) rfl (by kernel_rfl) rfl (by simp [c3]) (by decide) (by decide)) ?_
    refine L0 rfl rfl (E_move (.ow 56) rfl (by kernel_rfl)) ?_
    refine XL_cons rfl (X_appendA (c := c3) (xs := [o8.1]) (ys := o8.2) (id := 288) (z := zv3) rfl rfl Try.underlying41 izb3 rfl (by kernel_rfl) (by kernel_rfl) (by kernel_rfl) (fun _ => rfl) (room_some hu22) (by decide)) ?_
    refine L0 rfl rfl (E_assign (.ow 288) rfl (by kernel_rfl)) ?_
    refine XL_nil ?_
    kernel_rfl
   refine V_ret ?_
   obtain rfl := some_inj h
   show Post _ _ _ _ _
   exact ⟨.inr rfl, rfl, rfl, rfl⟩
theorem cf_impl_PrimeDiscriminants : ∀ args w, (callFunc 22 args).run Try.prog w = .ok (.enter 22 args) w := run_callFunc Try.func22 (by kernel_rfl) (by kernel_rfl)
set_option maxRecDepth 100000 in
set_option maxHeartbeats 400000 in
theorem s_impl_PrimeDiscriminants {d1 : Int} {r : ((List Int) × Bool)} (h : r_impl_PrimeDiscriminants d1 = some r) : CallS Try.prog 22 [I d1] (.tc (.ow 0) (.tc (Bo r.2) .tn)) [(0, .arr 3 1 (r.1.map c3))] := by
  refine CallS_of_text (rs := [.t 2, .t 3]) (vs := [.tmp 2, .tmp 3]) Try.func22 rfl rfl (.cons rfl (.cons rfl FitsL.nil)) (by decide) 16 rfl ?_
  unfold r_impl_PrimeDiscriminants at h
  show V _ _ ⟨I d1 :: bt 15 [], []⟩ _
  refine V_sreg (mb 16 1) [] (s1 := ⟨I d1 :: bt 15 [], []⟩) ?_ ?_
  ·refine L1 rfl rfl (Y1_nil (e := 3) 1 (by decide) (.inl rfl)) ?_
   refine L0 rfl rfl (E_assign (Bo false) rfl (by kernel_rfl)) ?_
   refine XL_nil ?_
   kernel_rfl
  refine V_seq ?_
  obtain ⟨y2, hy2, h⟩ := of_bind h
  refine V_sreg (mb 16 17) [] (s1 := ⟨I d1 :: bt 3 (Bo y2.1 :: bt 11 []), []⟩) ?_ ?_
  ·refine L0 rfl rfl (E_move (I d1) rfl (by kernel_rfl)) ?_
   refine L1 rfl rfl (Y1_call (s_impl_IsFundamental hy2) cf_impl_IsFundamental rfl (by kernel_rfl)) ?_
   refine L0 rfl rfl (E_move (.tc (Bo y2.1) (.tc (Bo y2.2) .tn)) rfl (by kernel_rfl)) ?_
   refine L0 rfl rfl (E_ext (n := 0) (Bo y2.1) (.tc (Bo y2.2) .tn) (Bo y2.1) rfl (by kernel_rfl) (by kernel_rfl) (by intro hh; cases hh)) ?_
   refine L0 rfl rfl (E_ext (n := 1) (Bo y2.1) (.tc (Bo y2.2) .tn) (Bo y2.2) rfl (by kernel_rfl) (by kernel_rfl) (by intro hh; cases hh)) ?_
   refine L0 rfl rfl (E_assign (Bo y2.1) rfl (by kernel_rfl)) ?_
   refine L0 rfl rfl (E_assign (Bo y2.2) rfl (by kernel_rfl)) ?_
   refine XL_nil ?_
   kernel_rfl
  refine V_sreg (mb 16 4097) [] (s1 := ⟨I d1 :: bt 11 (Bo (!y2.1) :: bt 3 []), []⟩) ?_ ?_
  ·refine L0 rfl rfl (E_move (Bo y2.1) rfl (by kernel_rfl)) ?_
   refine L0 rfl rfl (Y0_not (b := y2.1) rfl (by kernel_rfl)) ?_
   refine XL_nil ?_
   kernel_rfl
  refine V_cond rfl (fun hc3 => ?_) (fun hc3 => ?_)
  ·have h := of_true h hc3
   refine V_sreg (mb 16 12) [104] (s1 := ⟨.bot :: .bot :: .ow 104 :: Bo false :: bt 12 [], [(104, .arr 3 1 ((([] : List Int)).map c3))]⟩) ?_ ?_
   ·refine L1 rfl rfl (Y1_bslice0 Try.underlying41 sz3 (by decide) rfl rfl) ?_
    refine L0 rfl rfl (E_assign (.ow 104) rfl (by kernel_rfl)) ?_
    refine L0 rfl rfl (E_assign (Bo false) rfl (by kernel_rfl)) ?_
    refine XL_nil ?_
    kernel_rfl
   refine V_ret ?_
   obtain rfl := some_inj h
   show Post _ _ _ _ _
   exact ⟨.inr rfl, rfl, rfl, rfl⟩
  ·have h := of_false h hc3
   refine V_skip ?_
   show V _ _ _ _
   obtain ⟨y4, hy4, h⟩ := of_bind h
   refine V_sreg (mb 16 12) [120] (s1 := ⟨.bot :: .bot :: .ow 120 :: Bo true :: bt 12 [], [(120, .arr 3 1 (y4.map c3))]⟩) ?_ ?_
   ·refine L0 rfl rfl (E_move (I d1) rfl (by kernel_rfl)) ?_
    refine L1 rfl rfl (Y1_call (s_impl_primeDiscriminants hy4) cf_impl_primeDiscriminants rfl (by kernel_rfl)) ?_
    refine L0 rfl rfl (E_assign (.ow 120) rfl (by kernel_rfl)) ?_
    refine L0 rfl rfl (E_assign (Bo true) rfl (by kernel_rfl)) ?_
    refine XL_nil ?_
    kernel_rfl
   refine V_ret ?_
   obtain rfl := some_inj h
   show Post _ _ _ _ _
   exact ⟨.inr rfl, rfl, rfl, rfl⟩
theorem cf_impl_principalForm : ∀ args w, (callFunc 76 args).run Try.prog w = .ok (.enter 76 args) w := run_callFunc Try.func76 (by kernel_rfl) (by kernel_rfl)
set_option maxRecDepth 100000 in
set_option maxHeartbeats 400000 in
theorem s_impl_principalForm {d1 : Int} {r : (Int × Int × Int)} (h : r_impl_principalForm d1 = some r) : CallS Try.prog 76 [I d1] (.ag [Ti r.1, Ti r.2.1, Ti r.2.2]) [] := by
  refine CallS_of_text (rs := [.w 2 3]) (vs := [.cell 2 45]) Try.func76 rfl rfl (.cons ⟨rfl, wd45⟩ FitsL.nil) (by decide) 12 rfl ?_
  unfold r_impl_principalForm at h
  show V _ _ ⟨I d1 :: bt 11 [], []⟩ _
  refine V_sreg (mb 12 5) [16] (s1 := ⟨I d1 :: .bot :: .pt 16 0 :: bt 9 [], [(16, .box [Ti 0, Ti 0, Ti 0])]⟩) ?_ ?_
  ·refine L1 rfl rfl (Y1_alloc (z := zv45) rfl zf45 rfl) ?_
   refine XL_nil ?_
   kernel_rfl
  obtain ⟨y2, hy2, h⟩ := of_bind h
  refine V_sreg (mb 12 13) [16] (s1 := ⟨I d1 :: .bot :: .pt 16 0 :: I y2 :: bt 8 [], [(16, .box [Ti 0, Ti 0, Ti 0])]⟩) ?_ ?_
  ·refine L0 rfl rfl (E_move (I d1) rfl (by kernel_rfl)) ?_
   refine L1 rfl rfl (Y1_call (s_impl_mod hy2) cf_impl_mod rfl (by kernel_rfl)) ?_
   refine L0 rfl rfl (E_assign (I y2) rfl (by kernel_rfl)) ?_
   refine XL_nil ?_
   kernel_rfl
  obtain ⟨f3, hf3, h⟩ := of_sI h
  refine V_sreg (mb 12 4) [16] (s1 := ⟨.bot :: .bot :: .pt 16 0 :: bt 9 [], [(16, .box [Ti 1, Ti y2, Ti f3])]⟩) ?_ ?_
  ·refine L0 rfl rfl (E_move (I y2) rfl (by kernel_rfl)) ?_
   refine L0 rfl rfl (E_move (I y2) rfl (by kernel_rfl)) ?_
   refine L0 rfl rfl (E_move (I d1) rfl (by kernel_rfl)) ?_
   refine L0 rfl rfl (Y0_sub64 (a := y2) (b := d1) rfl (by kernel_rfl) (by kernel_rfl)) ?_
   refine L0 rfl rfl (Y0_quo64 (a := w64 (y2 - d1)) (b := 4) rfl (by kernel_rfl) (by kernel_rfl) (by decide)) ?_
   refine L0 rfl rfl (Y0_build (cs := [Ti 1, Ti y2, Ti (w64 (Int.tdiv (w64 (y2 - d1)) 4))]) pl45 bt45 rfl rfl (by kernel_rfl)) ?_
   refine XL_cons rfl (E_store (id := 16) (off := 0) (cs := [Ti 0, Ti 0, Ti 0]) (vc := [Ti 1, Ti y2, Ti (w64 (Int.tdiv (w64 (y2 - d1)) 4))]) [Ti 1, Ti y2, Ti (w64 (Int.tdiv (w64 (y2 - d1)) 4))] rfl rfl (by kernel_rfl) (by kernel_rfl) (by kernel_rfl) sz45 (Nat.le_of_ble_eq_true rfl) (by kernel_rfl)) ?_
   refine XL_nil ?_
   subst hf3
   kernel_rfl
  refine V_ret ?_
  obtain rfl := some_inj h
  show Post _ _ _ _ _
  exact ⟨.inr rfl, rfl, rfl, rfl⟩
theorem cf_impl_PrincipalForm : ∀ args w, (callFunc 23 args).run Try.prog w = .ok (.enter 23 args) w := run_callFunc Try.func23 (by kernel_rfl) (by kernel_rfl)
set_option maxRecDepth 100000 in
set_option maxHeartbeats 400000 in
theorem s_impl_PrincipalForm {d1 : Int} {r : (((Int × Int × Int)) × Bool)} (h : r_impl_PrincipalForm d1 = some r) : CallS Try.prog 23 [I d1] (.tc (.ag [Ti r.1.1, Ti r.1.2.1, Ti r.1.2.2]) (.tc (Bo r.2) .tn)) [] := by
  refine CallS_of_text (rs := [.w 2 3, .t 3]) (vs := [.cell 2 45, .tmp 3]) Try.func23 rfl rfl (.cons ⟨rfl, wd45⟩ (.cons rfl FitsL.nil)) (by decide) 10 rfl ?_
  unfold r_impl_PrincipalForm at h
  show V _ _ ⟨I d1 :: bt 9 [], []⟩ _
  refine V_sreg (mb 10 5) [16] (s1 := ⟨I d1 :: .bot :: .pt 16 0 :: bt 7 [], [(16, .box [Ti 0, Ti 0, Ti 0])]⟩) ?_ ?_
  ·refine L1 rfl rfl (Y1_alloc (z := zv45) rfl zf45 rfl) ?_
   refine L0 rfl rfl (E_assign (Bo false) rfl (by kernel_rfl)) ?_
   refine XL_nil ?_
   kernel_rfl
  refine V_seq ?_
  obtain ⟨y2, hy2, h⟩ := of_bind h
  refine V_sreg (mb 10 69) [16] (s1 := ⟨I d1 :: .bot :: .pt 16 0 :: bt 3 (Bo (!y2) :: bt 3 []), [(16, .box [Ti 0, Ti 0, Ti 0])]⟩) ?_ ?_
  ·refine L0 rfl rfl (E_move (I d1) rfl (by kernel_rfl)) ?_
   refine L1 rfl rfl (Y1_call (s_impl_isDiscriminant hy2) cf_impl_isDiscriminant rfl (by kernel_rfl)) ?_
   refine L0 rfl rfl (Y0_not (b := y2) rfl (by kernel_rfl)) ?_
   refine XL_nil ?_
   kernel_rfl
  refine V_cond rfl (fun hc3 => ?_) (fun hc3 => ?_)
  ·have h := of_true h hc3
   refine V_sreg (mb 10 12) [16] (s1 := ⟨.bot :: .bot :: .pt 16 0 :: Bo false :: bt 6 [], [(16, .box [Ti 0, Ti 0, Ti 0])]⟩) ?_ ?_
   ·refine L0 rfl rfl (Y0_build (cs := [Ti 0, Ti 0, Ti 0]) pl45 bt45 rfl rfl (by kernel_rfl)) ?_
    refine XL_cons rfl (E_store (id := 16) (off := 0) (cs := [Ti 0, Ti 0, Ti 0]) (vc := [Ti 0, Ti 0, Ti 0]) [Ti 0, Ti 0, Ti 0] rfl rfl (by kernel_rfl) (by kernel_rfl) (by kernel_rfl) sz45 (Nat.le_of_ble_eq_true rfl) (by kernel_rfl)) ?_
    refine L0 rfl rfl (E_assign (Bo false) rfl (by kernel_rfl)) ?_
    refine XL_nil ?_
    kernel_rfl
   refine V_ret ?_
   obtain rfl := some_inj h
   show Post _ _ _ _ _
   exact ⟨.inr rfl, rfl, rfl, rfl⟩
  ·have h := of_false h hc3
   refine V_skip ?_
   show V _ _ _ _
   obtain ⟨y4, hy4, h⟩ := of_bind h
   refine V_sreg (mb 10 12) [16] (s1 := ⟨.bot :: .bot :: .pt 16 0 :: Bo true :: bt 6 [], [(16, .box [Ti y4.1, Ti y4.2.1, Ti y4.2.2])]⟩) ?_ ?_
   ·refine L0 rfl rfl (E_move (I d1) rfl (by kernel_rfl)) ?_
    refine L1 rfl rfl (Y1_call (s_impl_principalForm hy4) cf_impl_principalForm rfl (by kernel_rfl)) ?_
    refine XL_cons rfl (E_store (id := 16) (off := 0) (cs := [Ti 0, Ti 0, Ti 0]) (vc := [Ti y4.1, Ti y4.2.1, Ti y4.2.2]) [Ti y4.1, Ti y4.2.1, Ti y4.2.2] rfl rfl (by kernel_rfl) (by kernel_rfl) (by kernel_rfl) sz45 (Nat.le_of_ble_eq_true rfl) (by kernel_rfl)) ?_
    refine L0 rfl rfl (E_assign (Bo true) rfl (by kernel_rfl)) ?_
    refine XL_nil ?_
    kernel_rfl
   refine V_ret ?_
   obtain rfl := some_inj h
   show Post _ _ _ _ _
   exact ⟨.inr rfl, rfl, rfl, rfl⟩
theorem cf_impl_IsForm : ∀ args w, (callFunc 77 args).run Try.prog w = .ok (.enter 77 args) w := run_callFunc Try.func77 (by kernel_rfl) (by kernel_rfl)
set_option maxRecDepth 100000 in
set_option maxHeartbeats 400000 in
theorem s_impl_IsForm {f1 : (Int × Int × Int)} {r : Bool} (h : r_impl_IsForm f1 = some r) : CallS Try.prog 77 [.ag [Ti f1.1, Ti f1.2.1, Ti f1.2.2]] (Bo r) [] := by
  refine CallS_of_text (rs := [.t 2]) (vs := [.tmp 2]) Try.func77 rfl rfl (.cons rfl FitsL.nil) (by decide) 11 rfl ?_
  unfold r_impl_IsForm at h
  show V _ _ ⟨.ag [Ti f1.1, Ti f1.2.1, Ti f1.2.2] :: bt 10 [], []⟩ _
  refine V_sreg (mb 11 2) [8] (s1 := ⟨.bot :: .pt 8 0 :: bt 9 [], [(8, .box [Ti f1.1, Ti f1.2.1, Ti f1.2.2])]⟩) ?_ ?_
  ·refine L1 rfl rfl (Y1_box (cs := [Ti f1.1, Ti f1.2.1, Ti f1.2.2]) rfl (by kernel_rfl)) ?_
   refine L0 rfl rfl (E_assign (Bo false) rfl (by kernel_rfl)) ?_
   refine XL_nil ?_
   kernel_rfl
  obtain ⟨y2, hy2, h⟩ := of_bind h
  refine V_sreg (mb 11 4) [] (s1 := ⟨.bot :: .bot :: Bo y2 :: bt 8 [], []⟩) ?_ ?_
  ·refine L0 rfl rfl (E_field (.pt 8 0) Try.underlying45 rfl sz3 rfl (by kernel_rfl) (by intro hh; cases hh)) ?_
   refine L0 rfl rfl (Y0_load1 (c := Ti f1.1) (cs := [Ti f1.2.1, Ti f1.2.2]) sc3 rfl (by kernel_rfl)) ?_
   refine L0 rfl rfl (E_field (.pt 8 1) Try.underlying45 rfl sz3 rfl (by kernel_rfl) (by intro hh; cases hh)) ?_
   refine L0 rfl rfl (Y0_load1 (c := Ti f1.2.1) (cs := [Ti f1.2.2]) sc3 rfl (by kernel_rfl)) ?_
   refine L0 rfl rfl (E_field (.pt 8 2) Try.underlying45 rfl sz3 rfl (by kernel_rfl) (by intro hh; cases hh)) ?_
   refine L0 rfl rfl (Y0_load1 (c := Ti f1.2.2) (cs := []) sc3 rfl (by kernel_rfl)) ?_
   refine L1 rfl rfl (Y1_bslice (z := zv3) (els := [f1.1, f1.2.1, f1.2.2].map c3) Try.underlying41 iz3 rfl (by decide) rfl (by kernel_rfl) rfl (by simp [c3]) (by decide) (by decide)) ?_
   refine L1 rfl rfl (Y1_callS (s_impl_areNumbers hy2) cf_impl_areNumbers rfl (by kernel_rfl) rfl rfl) ?_
   refine L0 rfl rfl (E_assign (Bo y2) rfl (by kernel_rfl)) ?_
   refine XL_nil ?_
   kernel_rfl
  refine V_ret ?_
  obtain rfl := some_inj h
  show Post _ _ _ _ _
  exact ⟨.inr rfl, rfl, rfl, rfl⟩
theorem cf_impl_Form_disc : ∀ args w, (callFunc 78 args).run Try.prog w = .ok (.enter 78 args) w := run_callFunc Try.func78 (by kernel_rfl) (by kernel_rfl)
set_option maxRecDepth 100000 in
set_option maxHeartbeats 400000 in
theorem s_impl_Form_disc {f1 : (Int × Int × Int)} {r : Int} (h : r_impl_Form_disc f1 = some r) : CallS Try.prog 78 [.ag [Ti f1.1, Ti f1.2.1, Ti f1.2.2]] (I r) [] := by
  refine CallS_of_text (rs := [.t 2]) (vs := [.tmp 2]) Try.func78 rfl rfl (.cons rfl FitsL.nil) (by decide) 15 rfl ?_
  unfold r_impl_Form_disc at h
  show V _ _ ⟨.ag [Ti f1.1, Ti f1.2.1, Ti f1.2.2] :: bt 14 [], []⟩ _
  refine V_sreg (mb 15 2) [8] (s1 := ⟨.bot :: .pt 8 0 :: bt 13 [], [(8, .box [Ti f1.1, Ti f1.2.1, Ti f1.2.2])]⟩) ?_ ?_
  ·refine L1 rfl rfl (Y1_box (cs := [Ti f1.1, Ti f1.2.1, Ti f1.2.2]) rfl (by kernel_rfl)) ?_
   refine L0 rfl rfl (E_assign (I 0) rfl (by kernel_rfl)) ?_
   refine XL_nil ?_
   kernel_rfl
  obtain ⟨t2, ht2, h⟩ := of_sI h
  refine V_sreg (mb 15 4) [] (s1 := ⟨.bot :: .bot :: I t2 :: bt 12 [], []⟩) ?_ ?_
  ·refine L0 rfl rfl (E_field (.pt 8 1) Try.underlying45 rfl sz3 rfl (by kernel_rfl) (by intro hh; cases hh)) ?_
   refine L0 rfl rfl (Y0_load1 (c := Ti f1.2.1) (cs := [Ti f1.2.2]) sc3 rfl (by kernel_rfl)) ?_
   refine L0 rfl rfl (E_field (.pt 8 1) Try.underlying45 rfl sz3 rfl (by kernel_rfl) (by intro hh; cases hh)) ?_
   refine L0 rfl rfl (Y0_load1 (c := Ti f1.2.1) (cs := [Ti f1.2.2]) sc3 rfl (by kernel_rfl)) ?_
   refine L0 rfl rfl (Y0_mul64 (a := f1.2.1) (b := f1.2.1) rfl (by kernel_rfl) (by kernel_rfl)) ?_
   refine L0 rfl rfl (E_field (.pt 8 0) Try.underlying45 rfl sz3 rfl (by kernel_rfl) (by intro hh; cases hh)) ?_
   refine L0 rfl rfl (Y0_load1 (c := Ti f1.1) (cs := [Ti f1.2.1, Ti f1.2.2]) sc3 rfl (by kernel_rfl)) ?_
   refine L0 rfl rfl (Y0_mul64 (a := 4) (b := f1.1) rfl (by kernel_rfl) (by kernel_rfl)) ?_
   refine L0 rfl rfl (E_field (.pt 8 2) Try.underlying45 rfl sz3 rfl (by kernel_rfl) (by intro hh; cases hh)) ?_
   refine L0 rfl rfl (Y0_load1 (c := Ti f1.2.2) (cs := []) sc3 rfl (by kernel_rfl)) ?_
   refine L0 rfl rfl (Y0_mul64 (a := w64 (4 * f1.1)) (b := f1.2.2) rfl (by kernel_rfl) (by kernel_rfl)) ?_
   refine L0 rfl rfl (Y0_sub64 (a := w64 (f1.2.1 * f1.2.1)) (b := w64 ((w64 (4 * f1.1)) * f1.2.2)) rfl (by kernel_rfl) (by kernel_rfl)) ?_
   refine L0 rfl rfl (E_assign (I (w64 ((w64 (f1.2.1 * f1.2.1)) - (w64 ((w64 (4 * f1.1)) * f1.2.2))))) rfl (by kernel_rfl)) ?_
   refine XL_nil ?_
   subst ht2
   kernel_rfl
  refine V_ret ?_
  obtain rfl := some_inj h
  show Post _ _ _ _ _
  exact ⟨.inr rfl, rfl, rfl, rfl⟩
theorem cf_impl_Discriminant : ∀ args w, (callFunc 24 args).run Try.prog w = .ok (.enter 24 args) w := run_callFunc Try.func24 (by kernel_rfl) (by kernel_rfl)
set_option maxRecDepth 100000 in
set_option maxHeartbeats 400000 in
theorem s_impl_Discriminant {f1 : (Int × Int × Int)} {r : (Int × Bool)} (h : r_impl_Discriminant f1 = some r) : CallS Try.prog 24 [.ag [Ti f1.1, Ti f1.2.1, Ti f1.2.2]] (.tc (I r.1) (.tc (Bo r.2) .tn)) [] := by
  refine CallS_of_text (rs := [.t 2, .t 3]) (vs := [.tmp 2, .tmp 3]) Try.func24 rfl rfl (.cons rfl (.cons rfl FitsL.nil)) (by decide) 9 rfl ?_
  unfold r_impl_Discriminant at h
  show V _ _ ⟨.ag [Ti f1.1, Ti f1.2.1, Ti f1.2.2] :: bt 8 [], []⟩ _
  refine V_sreg (mb 9 2) [8] (s1 := ⟨.bot :: .pt 8 0 :: bt 7 [], [(8, .box [Ti f1.1, Ti f1.2.1, Ti f1.2.2])]⟩) ?_ ?_
  ·refine L1 rfl rfl (Y1_box (cs := [Ti f1.1, Ti f1.2.1, Ti f1.2.2]) rfl (by kernel_rfl)) ?_
   refine L0 rfl rfl (E_assign (I 0) rfl (by kernel_rfl)) ?_
   refine L0 rfl rfl (E_assign (Bo false) rfl (by kernel_rfl)) ?_
   refine XL_nil ?_
   kernel_rfl
  refine V_seq ?_
  obtain ⟨y2, hy2, h⟩ := of_bind h
  refine V_sreg (mb 9 66) [8] (s1 := ⟨.bot :: .pt 8 0 :: bt 4 (Bo (!y2) :: .bot :: .bot :: []), [(8, .box [Ti f1.1, Ti f1.2.1, Ti f1.2.2])]⟩) ?_ ?_
  ·refine L0 rfl rfl (E_loadn (cs := [Ti f1.1, Ti f1.2.1, Ti f1.2.2]) [Ti f1.1, Ti f1.2.1, Ti f1.2.2] wd45 rfl (by kernel_rfl) (Nat.le_of_ble_eq_true rfl) (by kernel_rfl)) ?_
   refine L1 rfl rfl (Y1_call (s_impl_IsForm hy2) cf_impl_IsForm rfl (by kernel_rfl)) ?_
   refine L0 rfl rfl (Y0_not (b := y2) rfl (by kernel_rfl)) ?_
   refine XL_nil ?_
   kernel_rfl
  refine V_cond rfl (fun hc3 => ?_) (fun hc3 => ?_)
  ·have h := of_true h hc3
   refine V_sreg (mb 9 12) [] (s1 := ⟨.bot :: .bot :: I 0 :: Bo false :: bt 5 [], []⟩) ?_ ?_
   ·refine L0 rfl rfl (E_assign (I 0) rfl (by kernel_rfl)) ?_
    refine L0 rfl rfl (E_assign (Bo false) rfl (by kernel_rfl)) ?_
    refine XL_nil ?_
    kernel_rfl
   refine V_ret ?_
   obtain rfl := some_inj h
   show Post _ _ _ _ _
   exact ⟨.inr rfl, rfl, rfl, rfl⟩
  ·have h := of_false h hc3
   refine V_skip ?_
   show V _ _ _ _
   obtain ⟨y4, hy4, h⟩ := of_bind h
   refine V_sreg (mb 9 12) [] (s1 := ⟨.bot :: .bot :: I y4 :: Bo true :: bt 5 [], []⟩) ?_ ?_
   ·refine L0 rfl rfl (E_loadn (cs := [Ti f1.1, Ti f1.2.1, Ti f1.2.2]) [Ti f1.1, Ti f1.2.1, Ti f1.2.2] wd45 rfl (by kernel_rfl) (Nat.le_of_ble_eq_true rfl) (by kernel_rfl)) ?_
    refine L1 rfl rfl (Y1_call (s_impl_Form_disc hy4) cf_impl_Form_disc rfl (by kernel_rfl)) ?_
    refine L0 rfl rfl (E_assign (I y4) rfl (by kernel_rfl)) ?_
    refine L0 rfl rfl (E_assign (Bo true) rfl (by kernel_rfl)) ?_
    refine XL_nil ?_
    kernel_rfl
   refine V_ret ?_
   obtain rfl := some_inj h
   show Post _ _ _ _ _
   exact ⟨.inr rfl, rfl, rfl, rfl⟩
theorem cf_laws_numberOf : ∀ args w, (callFunc 15 args).run Try.prog w = .ok (.enter 15 args) w := run_callFunc Try.func15 (by kernel_rfl) (by kernel_rfl)
set_option maxRecDepth 100000 in
set_option maxHeartbeats 400000 in
theorem s_laws_numberOf {b1 : List Int} {r : Int} (h : r_laws_numberOf b1 = some r) : CallS Try.prog 15 [.c (.sl (b1.map c5))] (I r) [] := by
  refine CallS_of_text (rs := [.t 2]) (vs := [.tmp 2]) Try.func15 rfl rfl (.cons rfl FitsL.nil) (by decide) 20 rfl ?_
  unfold r_laws_numberOf at h
  show V _ _ ⟨.c (.sl (b1.map c5)) :: bt 19 [], []⟩ _
  refine V_sreg (mb 20 1) [] (s1 := ⟨.c (.sl (b1.map c5)) :: bt 19 [], []⟩) ?_ ?_
  ·refine L0 rfl rfl (E_assign (I 0) rfl (by kernel_rfl)) ?_
   refine XL_nil ?_
   kernel_rfl
  refine V_sreg (mb 20 9) [] (s1 := ⟨.c (.sl (b1.map c5)) :: .bot :: .bot :: I 0 :: bt 16 [], []⟩) ?_ ?_
  ·refine L0 rfl rfl (E_assign (I 0) rfl (by kernel_rfl)) ?_
   refine XL_nil ?_
   kernel_rfl
  refine V_seq ?_
  refine V_sreg (mb 20 456) [] (s1 := ⟨bt 3 (I 0 :: .bot :: .bot :: .c (.sl (b1.map c5)) :: I ((b1.length : Int)) :: I 0 :: bt 11 []), []⟩) ?_ ?_
  ·refine L0 rfl rfl (E_move (.c (.sl (b1.map c5))) rfl (by kernel_rfl)) ?_
   refine L0 rfl rfl (Y0_lenM (c := c5) (xs := b1) Try.underlying22 rfl (by kernel_rfl)) ?_
   refine L0 rfl rfl (E_move (I 0) rfl (by kernel_rfl)) ?_
   refine XL_nil ?_
   kernel_rfl
  obtain ⟨o5, hLo5, h⟩ := of_bind h
  refine V_toK (mb 20 8) [] (s1 := ⟨bt 3 (I o5 :: bt 16 []), []⟩) ?_ ?_
  ·clear h
   refine V_block (V_loop (fun n s => ∃ (vn2 : Int) (t3 : Int), s.keep (mb 20 456) [] = (⟨bt 3 (I vn2 :: .bot :: .bot :: .c (.sl (b1.map c5)) :: I ((b1.length : Int)) :: I t3 :: bt 11 []), []⟩ : St) ∧ r_laws_numberOf_L4 b1 n vn2 t3 = some o5) FU ⟨_, _,  by rfl, hLo5⟩ ?_)
   clear hLo5
   rintro n s ⟨vn2, t3, hs, h⟩
   refine V_keep _ _ hs ?_
   clear hs
   cases n with
   | zero => cases h
   | succ n =>
    rw [r_laws_numberOf_L4] at h
    refine V_sreg (mb 20 968) [] (s1 := ⟨bt 3 (I vn2 :: .bot :: .bot :: .c (.sl (b1.map c5)) :: I ((b1.length : Int)) :: I t3 :: Bo (ltI t3 ((b1.length : Int))) :: bt 10 []), []⟩) ?_ ?_
    ·refine L0 rfl rfl (Y0_ltw (k := .i64) (a := t3) (b := (b1.length : Int)) rfl (by kernel_rfl) (by kernel_rfl)) ?_
     refine XL_nil ?_
     kernel_rfl
    refine V_seq ?_
    refine V_cond rfl (fun hc6 => ?_) (fun hc6 => ?_)
    ·have h := of_true h hc6
     refine V_skip ?_
     show V _ _ _ _
     refine V_seq ?_
     refine V_block ?_
     obtain ⟨e7, he7, h⟩ := of_bind h
     refine V_sreg (mb 20 488) [] (s1 := ⟨bt 3 (I vn2 :: .bot :: .c (.v (.int .u8 e7)) :: .c (.sl (b1.map c5)) :: I ((b1.length : Int)) :: I t3 :: bt 11 []), []⟩) ?_ ?_
     ·refine L0 rfl rfl (Y0_idxM (c := c5) (xs := b1) (v := e7) (n := t3) Try.underlying22 sz5 rfl (by kernel_rfl) (by kernel_rfl) he7) ?_
      refine L0 rfl rfl (Y0_load1 (c := .v (.int .u8 e7)) (cs := []) sc5 rfl (by kernel_rfl)) ?_
      refine L0 rfl rfl (E_assign (.c (.v (.int .u8 e7))) rfl (by kernel_rfl)) ?_
      refine XL_nil ?_
      kernel_rfl
     obtain ⟨vn8, hvn8, h⟩ := of_sI h
     refine V_reg (mb 20 456) [] (s1 := ⟨bt 3 (I vn8 :: .bot :: .bot :: .c (.sl (b1.map c5)) :: I ((b1.length : Int)) :: I t3 :: bt 11 []), []⟩) ?_ ?_
     ·refine L0 rfl rfl (E_move (I vn2) rfl (by kernel_rfl)) ?_
      refine L0 rfl rfl (Y0_mul64 (a := 31) (b := vn2) rfl (by kernel_rfl) (by kernel_rfl)) ?_
      refine L0 rfl rfl (E_move (.c (.v (.int .u8 e7))) rfl (by kernel_rfl)) ?_
      refine L0 rfl rfl (Y0_conv (k2 := .u8) (a := e7) Try.underlying5 Try.underlying3 rfl (by kernel_rfl)) ?_
      refine L0 rfl rfl (Y0_add64 (a := w64 (31 * vn2)) (b := IntKind.i64.wrap e7) rfl (by kernel_rfl) (by kernel_rfl)) ?_
      refine L0 rfl rfl (Y0_rem (k := .i64) (a := w64 ((w64 (31 * vn2)) + (IntKind.i64.wrap e7))) (b := 1000003) rfl (by kernel_rfl) (by kernel_rfl) (by decide)) ?_
      refine L0 rfl rfl (E_assign (I (Int.tmod (w64 ((w64 (31 * vn2)) + (IntKind.i64.wrap e7))) 1000003)) rfl (by kernel_rfl)) ?_
      refine XL_nil ?_
      subst hvn8
      kernel_rfl
     show V _ _ _ _
     obtain ⟨t9, ht9, h⟩ := of_sI h
     refine V_reg (mb 20 456) [] (s1 := ⟨bt 3 (I vn8 :: .bot :: .bot :: .c (.sl (b1.map c5)) :: I ((b1.length : Int)) :: I t9 :: bt 11 []), []⟩) ?_ ?_
     ·refine L0 rfl rfl (Y0_add64 (a := t3) (b := 1) rfl (by kernel_rfl) (by kernel_rfl)) ?_
      refine L0 rfl rfl (E_move (I (w64 (t3 + 1))) rfl (by kernel_rfl)) ?_
      refine XL_nil ?_
      subst ht9
      kernel_rfl
     exact ⟨n, Nat.lt_succ_self n, _, _,  by rfl, h⟩
    ·have h := of_false h hc6
     refine V_exit ?_
     obtain rfl := some_inj h
     show St.keep _ _ _ = _
     rfl
  show V _ _ _ _
  refine V_sreg (mb 20 4) [] (s1 := ⟨.bot :: .bot :: I o5 :: bt 17 [], []⟩) ?_ ?_
  ·refine L0 rfl rfl (E_move (I o5) rfl (by kernel_rfl)) ?_
   refine L0 rfl rfl (E_assign (I o5) rfl (by kernel_rfl)) ?_
   refine XL_nil ?_
   kernel_rfl
  refine V_ret ?_
  obtain rfl := some_inj h
  show Post _ _ _ _ _
  exact ⟨.inr rfl, rfl, rfl, rfl⟩
theorem cf_impl_symbolOfTwo : ∀ args w, (callFunc 143 args).run Try.prog w = .ok (.enter 143 args) w := run_callFunc Try.func143 (by kernel_rfl) (by kernel_rfl)
set_option maxRecDepth 100000 in
set_option maxHeartbeats 400000 in
theorem s_impl_symbolOfTwo {vn1 : Int} {r : Int} (h : r_impl_symbolOfTwo vn1 = some r) : CallS Try.prog 143 [I vn1] (I r) [] := by
  refine CallS_of_text (rs := [.t 2]) (vs := [.tmp 2]) Try.func143 rfl rfl (.cons rfl FitsL.nil) (by decide) 12 rfl ?_
  unfold r_impl_symbolOfTwo at h
  show V _ _ ⟨I vn1 :: bt 11 [], []⟩ _
  refine V_sreg (mb 12 1) [] (s1 := ⟨I vn1 :: bt 11 [], []⟩) ?_ ?_
  ·refine L0 rfl rfl (E_assign (I 0) rfl (by kernel_rfl)) ?_
   refine XL_nil ?_
   kernel_rfl
  refine V_seq ?_
  obtain ⟨y2, hy2, h⟩ := of_bind h
  refine V_sreg (mb 12 8) [] (s1 := ⟨bt 3 (I y2 :: bt 8 []), []⟩) ?_ ?_
  ·refine L0 rfl rfl (E_move (I vn1) rfl (by kernel_rfl)) ?_
   refine L1 rfl rfl (Y1_call (s_impl_mod hy2) cf_impl_mod rfl (by kernel_rfl)) ?_
   refine L0 rfl rfl (E_assign (I y2) rfl (by kernel_rfl)) ?_
   refine XL_nil ?_
   kernel_rfl
  refine V_sreg (mb 12 2048) [] (s1 := ⟨bt 11 (Bo (bif (eqI y2 1) then true else (eqI y2 7)) :: []), []⟩) ?_ ?_
  ·refine L0 rfl rfl (E_move (I y2) rfl (by kernel_rfl)) ?_
   refine L0 rfl rfl (Y0_eqw (k := .i64) (a := y2) (b := 1) rfl (by kernel_rfl) (by kernel_rfl)) ?_
   refine L0 rfl rfl (E_move (Bo (eqI y2 1)) rfl (by kernel_rfl)) ?_
   refine XL_split (eqI y2 1) (fun hc3 => ?_) (fun hc3 => ?_)
   ·refine XL_skipF _ rfl rfl (by kernel_rfl) hc3 rfl ?_
    refine XL_skipF _ rfl rfl (by kernel_rfl) hc3 rfl ?_
    refine XL_cons rfl (X_of_Y0 rfl (Y0_pick1 (b := eqI y2 1) (p := true) (q := eqI y2 7) rfl (by kernel_rfl) hc3 (by kernel_rfl))) ?_
    refine XL_nil ?_
    kernel_rfl
   ·refine XL_takeC _ rfl rfl (by kernel_rfl) hc3 (X_of_Y0 rfl (E_move (I y2) rfl (by kernel_rfl))) ?_
    refine XL_takeC _ rfl rfl (by kernel_rfl) hc3 (X_of_Y0 rfl (Y0_eqw (k := .i64) (a := y2) (b := 7) rfl (by kernel_rfl) (by kernel_rfl))) ?_
    refine XL_cons rfl (X_of_Y0 rfl (Y0_pick0 (b := eqI y2 1) (p := true) (q := eqI y2 7) rfl (by kernel_rfl) hc3 (by kernel_rfl))) ?_
    refine XL_nil ?_
    kernel_rfl
  refine V_cond rfl (fun hc4 => ?_) (fun hc4 => ?_)
  ·have h := of_true h hc4
   refine V_sreg (mb 12 4) [] (s1 := ⟨.bot :: .bot :: I 1 :: bt 9 [], []⟩) ?_ ?_
   ·refine L0 rfl rfl (E_assign (I 1) rfl (by kernel_rfl)) ?_
    refine XL_nil ?_
    kernel_rfl
   refine V_ret ?_
   obtain rfl := some_inj h
   show Post _ _ _ _ _
   exact ⟨.inr rfl, rfl, rfl, rfl⟩
  ·have h := of_false h hc4
   refine V_skip ?_
   show V _ _ _ _
   refine V_sreg (mb 12 4) [] (s1 := ⟨.bot :: .bot :: I (-1) :: bt 9 [], []⟩) ?_ ?_
   ·refine L0 rfl rfl (E_assign (I (-1)) rfl (by kernel_rfl)) ?_
    refine XL_nil ?_
    kernel_rfl
   refine V_ret ?_
   obtain rfl := some_inj h
   show Post _ _ _ _ _
   exact ⟨.inr rfl, rfl, rfl, rfl⟩
theorem cf_impl_jacobi : ∀ args w, (callFunc 144 args).run Try.prog w = .ok (.enter 144 args) w := run_callFunc Try.func144 (by kernel_rfl) (by kernel_rfl)
set_option maxRecDepth 100000 in
set_option maxHeartbeats 400000 in
theorem s_impl_jacobi {a1 : Int} {vn2 : Int} {r : Int} (h : r_impl_jacobi a1 vn2 = some r) : CallS Try.prog 144 [I a1, I vn2] (I r) [] := by
  refine CallS_of_text (rs := [.t 4]) (vs := [.tmp 4]) Try.func144 rfl rfl (.cons rfl FitsL.nil) (by decide) 38 rfl ?_
  unfold r_impl_jacobi at h
  show V _ _ ⟨I a1 :: I vn2 :: bt 36 [], []⟩ _
  refine V_sreg (mb 38 3) [] (s1 := ⟨I a1 :: I vn2 :: bt 36 [], []⟩) ?_ ?_
  ·refine L0 rfl rfl (E_assign (I 0) rfl (by kernel_rfl)) ?_
   refine XL_nil ?_
   kernel_rfl
  refine V_sreg (mb 38 35) [] (s1 := ⟨I a1 :: I vn2 :: bt 3 (I 1 :: bt 32 []), []⟩) ?_ ?_
  ·refine L0 rfl rfl (E_assign (I 1) rfl (by kernel_rfl)) ?_
   refine XL_nil ?_
   kernel_rfl
  refine V_seq ?_
  obtain ⟨y3, hy3, h⟩ := of_bind h
  refine V_sreg (mb 38 35) [] (s1 := ⟨I y3 :: I vn2 :: bt 3 (I 1 :: bt 32 []), []⟩) ?_ ?_
  ·refine L0 rfl rfl (E_move (I a1) rfl (by kernel_rfl)) ?_
   refine L0 rfl rfl (E_move (I vn2) rfl (by kernel_rfl)) ?_
   refine L1 rfl rfl (Y1_call (s_impl_mod hy3) cf_impl_mod rfl (by kernel_rfl)) ?_
   refine L0 rfl rfl (E_assign (I y3) rfl (by kernel_rfl)) ?_
   refine XL_nil ?_
   kernel_rfl
  obtain ⟨o8, hLo8, h⟩ := of_bind h
  refine V_toK (mb 38 34) [] (s1 := ⟨.bot :: I o8.1 :: bt 3 (I o8.2 :: bt 32 []), []⟩) ?_ ?_
  ·clear h
   refine V_block (V_loop (fun n s => ∃ (a4 : Int) (vn5 : Int) (vs6 : Int), s.keep (mb 38 35) [] = (⟨I a4 :: I vn5 :: bt 3 (I vs6 :: bt 32 []), []⟩ : St) ∧ r_impl_jacobi_L7 n a4 vn5 vs6 = some o8) FU ⟨_, _, _,  by rfl, hLo8⟩ ?_)
   clear hLo8
   rintro n s ⟨a4, vn5, vs6, hs, h⟩
   refine V_keep _ _ hs ?_
   clear hs
   cases n with
   | zero => cases h
   | succ n =>
    rw [r_impl_jacobi_L7] at h
    refine V_seq ?_
    refine V_sreg (mb 38 1059) [] (s1 := ⟨I a4 :: I vn5 :: bt 3 (I vs6 :: bt 4 (Bo (!eqI a4 0) :: bt 27 [])), []⟩) ?_ ?_
    ·refine L0 rfl rfl (E_move (I a4) rfl (by kernel_rfl)) ?_
     refine L0 rfl rfl (Y0_new (k := .i64) (a := a4) (b := 0) rfl (by kernel_rfl) (by kernel_rfl)) ?_
     refine XL_nil ?_
     kernel_rfl
    refine V_cond rfl (fun hc9 => ?_) (fun hc9 => ?_)
    ·have h := of_true h hc9
     refine V_skip ?_
     show V _ _ _ _
     refine V_seq ?_
     refine V_block ?_
     refine V_seq ?_
     obtain ⟨o13, hLo13, h⟩ := of_bind h
     refine V_toK (mb 38 35) [] (s1 := ⟨I o13.1 :: I vn5 :: bt 3 (I o13.2 :: bt 32 []), []⟩) ?_ ?_
     ·clear h
      refine V_block (V_loop (fun n s => ∃ (a10 : Int) (vs11 : Int), s.keep (mb 38 35) [] = (⟨I a10 :: I vn5 :: bt 3 (I vs11 :: bt 32 []), []⟩ : St) ∧ r_impl_jacobi_L12 vn5 n a10 vs11 = some o13) FU ⟨_, _,  by rfl, hLo13⟩ ?_)
      clear hLo13
      rintro n s ⟨a10, vs11, hs, h⟩
      refine V_keep _ _ hs ?_
      clear hs
      cases n with
      | zero => cases h
      | succ n =>
       rw [r_impl_jacobi_L12] at h
       refine V_seq ?_
       refine V_sreg (mb 38 65571) [] (s1 := ⟨I a10 :: I vn5 :: bt 3 (I vs11 :: bt 10 (Bo (eqI (Int.tmod a10 2) 0) :: bt 21 [])), []⟩) ?_ ?_
       ·refine L0 rfl rfl (E_move (I a10) rfl (by kernel_rfl)) ?_
        refine L0 rfl rfl (Y0_rem (k := .i64) (a := a10) (b := 2) rfl (by kernel_rfl) (by kernel_rfl) (by decide)) ?_
        refine L0 rfl rfl (Y0_eqw (k := .i64) (a := Int.tmod a10 2) (b := 0) rfl (by kernel_rfl) (by kernel_rfl)) ?_
        refine XL_nil ?_
        kernel_rfl
       refine V_cond rfl (fun hc14 => ?_) (fun hc14 => ?_)
       ·have h := of_true h hc14
        refine V_skip ?_
        show V _ _ _ _
        refine V_block ?_
        obtain ⟨a15, ha15, h⟩ := of_sI h
        refine V_sreg (mb 38 35) [] (s1 := ⟨I a15 :: I vn5 :: bt 3 (I vs11 :: bt 32 []), []⟩) ?_ ?_
        ·refine L0 rfl rfl (E_move (I a10) rfl (by kernel_rfl)) ?_
         refine L0 rfl rfl (Y0_quo64 (a := a10) (b := 2) rfl (by kernel_rfl) (by kernel_rfl) (by decide)) ?_
         refine L0 rfl rfl (E_assign (I (w64 (Int.tdiv a10 2))) rfl (by kernel_rfl)) ?_
         refine XL_nil ?_
         subst ha15
         kernel_rfl
        obtain ⟨y16, hy16, h⟩ := of_bind h
        obtain ⟨vs17, hvs17, h⟩ := of_sI h
        refine V_reg (mb 38 35) [] (s1 := ⟨I a15 :: I vn5 :: bt 3 (I vs17 :: bt 32 []), []⟩) ?_ ?_
        ·refine L0 rfl rfl (E_move (I vs11) rfl (by kernel_rfl)) ?_
         refine L0 rfl rfl (E_move (I vn5) rfl (by kernel_rfl)) ?_
         refine L1 rfl rfl (Y1_call (s_impl_symbolOfTwo hy16) cf_impl_symbolOfTwo rfl (by kernel_rfl)) ?_
         refine L0 rfl rfl (Y0_mul64 (a := vs11) (b := y16) rfl (by kernel_rfl) (by kernel_rfl)) ?_
         refine L0 rfl rfl (E_assign (I (w64 (vs11 * y16))) rfl (by kernel_rfl)) ?_
         refine XL_nil ?_
         subst hvs17
         kernel_rfl
        exact ⟨n, Nat.lt_succ_self n, _, _,  by rfl, h⟩
       ·have h := of_false h hc14
        refine V_exit ?_
        obtain rfl := some_inj h
        show St.keep _ _ _ = _
        rfl
     show V _ _ _ _
     refine V_seq ?_
     obtain ⟨t19, ht19, h⟩ := of_bind h
     have ht19 := some_inj ht19
     refine V_sreg (mb 38 1073741859) [] (s1 := ⟨I o13.1 :: I vn5 :: bt 3 (I o13.2 :: bt 24 (Bo t19 :: bt 7 [])), []⟩) ?_ ?_
     ·refine L0 rfl rfl (E_move (I o13.1) rfl (by kernel_rfl)) ?_
      refine L0 rfl rfl (Y0_rem (k := .i64) (a := o13.1) (b := 4) rfl (by kernel_rfl) (by kernel_rfl) (by decide)) ?_
      refine L0 rfl rfl (Y0_eqw (k := .i64) (a := Int.tmod o13.1 4) (b := 3) rfl (by kernel_rfl) (by kernel_rfl)) ?_
      refine L0 rfl rfl (E_move (Bo (eqI (Int.tmod o13.1 4) 3)) rfl (by kernel_rfl)) ?_
      refine XL_split (eqI (Int.tmod o13.1 4) 3) (fun hc18 => ?_) (fun hc18 => ?_)
      ·refine XL_takeC _ rfl rfl (by kernel_rfl) hc18 (X_of_Y0 rfl (E_move (I vn5) rfl (by kernel_rfl))) ?_
       refine XL_takeC _ rfl rfl (by kernel_rfl) hc18 (X_of_Y0 rfl (Y0_rem (k := .i64) (a := vn5) (b := 4) rfl (by kernel_rfl) (by kernel_rfl) (by decide))) ?_
       refine XL_takeC _ rfl rfl (by kernel_rfl) hc18 (X_of_Y0 rfl (Y0_eqw (k := .i64) (a := Int.tmod vn5 4) (b := 3) rfl (by kernel_rfl) (by kernel_rfl))) ?_
       refine XL_cons rfl (X_of_Y0 rfl (Y0_pick1 (b := eqI (Int.tmod o13.1 4) 3) (p := eqI (Int.tmod vn5 4) 3) (q := false) rfl (by kernel_rfl) hc18 (by kernel_rfl))) ?_
       refine XL_nil ?_
       subst ht19
       kernel_rfl
      ·refine XL_skipT _ rfl rfl (by kernel_rfl) hc18 rfl ?_
       refine XL_skipT _ rfl rfl (by kernel_rfl) hc18 rfl ?_
       refine XL_skipT _ rfl rfl (by kernel_rfl) hc18 rfl ?_
       refine XL_cons rfl (X_of_Y0 rfl (Y0_pick0 (b := eqI (Int.tmod o13.1 4) 3) (p := eqI (Int.tmod vn5 4) 3) (q := false) rfl (by kernel_rfl) hc18 (by kernel_rfl))) ?_
       refine XL_nil ?_
       subst ht19
       kernel_rfl
     refine V_cond rfl (fun hc20 => ?_) (fun hc20 => ?_)
     ·have h := of_true h hc20
      obtain ⟨vs21, hvs21, h⟩ := of_sI h
      refine V_reg (mb 38 35) [] (s1 := ⟨I o13.1 :: I vn5 :: bt 3 (I vs21 :: bt 32 []), []⟩) ?_ ?_
      ·refine L0 rfl rfl (E_move (I o13.2) rfl (by kernel_rfl)) ?_
       refine L0 rfl rfl (Y0_neg64 (a := o13.2) rfl (by kernel_rfl)) ?_
       refine L0 rfl rfl (E_assign (I (w64 (0 - o13.2))) rfl (by kernel_rfl)) ?_
       refine XL_nil ?_
       subst hvs21
       kernel_rfl
      show V _ _ _ _
      refine V_reg (mb 38 35) [] (s1 := ⟨I vn5 :: I o13.1 :: bt 3 (I vs21 :: bt 32 []), []⟩) ?_ ?_
      ·refine L0 rfl rfl (E_move (I vn5) rfl (by kernel_rfl)) ?_
       refine L0 rfl rfl (E_move (I o13.1) rfl (by kernel_rfl)) ?_
       refine L0 rfl rfl (E_assign (I vn5) rfl (by kernel_rfl)) ?_
       refine L0 rfl rfl (E_assign (I o13.1) rfl (by kernel_rfl)) ?_
       refine XL_nil ?_
       kernel_rfl
      show V _ _ _ _
      obtain ⟨z22, hz22, h⟩ := of_bind h
      obtain ⟨a23, ha23, h⟩ := of_sI h
      refine V_reg (mb 38 35) [] (s1 := ⟨I a23 :: I o13.1 :: bt 3 (I vs21 :: bt 32 []), []⟩) ?_ ?_
      ·refine L0 rfl rfl (E_move (I vn5) rfl (by kernel_rfl)) ?_
       refine L0 rfl rfl (E_move (I o13.1) rfl (by kernel_rfl)) ?_
       refine L0 rfl rfl (Y0_rem (k := .i64) (a := vn5) (b := o13.1) rfl (by kernel_rfl) (by kernel_rfl) (nz_some hz22)) ?_
       refine L0 rfl rfl (E_assign (I (Int.tmod vn5 o13.1)) rfl (by kernel_rfl)) ?_
       refine XL_nil ?_
       subst ha23
       kernel_rfl
      exact ⟨n, Nat.lt_succ_self n, _, _, _,  by rfl, h⟩
     ·have h := of_false h hc20
      refine V_skip ?_
      show V _ _ _ _
      refine V_reg (mb 38 35) [] (s1 := ⟨I vn5 :: I o13.1 :: bt 3 (I o13.2 :: bt 32 []), []⟩) ?_ ?_
      ·refine L0 rfl rfl (E_move (I vn5) rfl (by kernel_rfl)) ?_
       refine L0 rfl rfl (E_move (I o13.1) rfl (by kernel_rfl)) ?_
       refine L0 rfl rfl (E_assign (I vn5) rfl (by kernel_rfl)) ?_
       refine L0 rfl rfl (E_assign (I o13.1) rfl (by kernel_rfl)) ?_
       refine XL_nil ?_
       kernel_rfl
      show V _ _ _ _
      obtain ⟨z24, hz24, h⟩ := of_bind h
      obtain ⟨a25, ha25, h⟩ := of_sI h
      refine V_reg (mb 38 35) [] (s1 := ⟨I a25 :: I o13.1 :: bt 3 (I o13.2 :: bt 32 []), []⟩) ?_ ?_
      ·refine L0 rfl rfl (E_move (I vn5) rfl (by kernel_rfl)) ?_
       refine L0 rfl rfl (E_move (I o13.1) rfl (by kernel_rfl)) ?_
       refine L0 rfl rfl (Y0_rem (k := .i64) (a := vn5) (b := o13.1) rfl (by kernel_rfl) (by kernel_rfl) (nz_some hz24)) ?_
       refine L0 rfl rfl (E_assign (I (Int.tmod vn5 o13.1)) rfl (by kernel_rfl)) ?_
       refine XL_nil ?_
       subst ha25
       kernel_rfl
      exact ⟨n, Nat.lt_succ_self n, _, _, _,  by rfl, h⟩
    ·have h := of_false h hc9
     refine V_exit ?_
     obtain rfl := some_inj h
     show St.keep _ _ _ = _
     rfl
  show V _ _ _ _
  refine V_seq ?_
  refine V_sreg (mb 38 68719476768) [] (s1 := ⟨bt 5 (I o8.2 :: bt 30 (Bo (!eqI o8.1 1) :: .bot :: [])), []⟩) ?_ ?_
  ·refine L0 rfl rfl (E_move (I o8.1) rfl (by kernel_rfl)) ?_
   refine L0 rfl rfl (Y0_new (k := .i64) (a := o8.1) (b := 1) rfl (by kernel_rfl) (by kernel_rfl)) ?_
   refine XL_nil ?_
   kernel_rfl
  refine V_cond rfl (fun hc26 => ?_) (fun hc26 => ?_)
  ·have h := of_true h hc26
   refine V_sreg (mb 38 16) [] (s1 := ⟨bt 4 (I 0 :: bt 33 []), []⟩) ?_ ?_
   ·refine L0 rfl rfl (E_assign (I 0) rfl (by kernel_rfl)) ?_
    refine XL_nil ?_
    kernel_rfl
   refine V_ret ?_
   obtain rfl := some_inj h
   show Post _ _ _ _ _
   exact ⟨.inr rfl, rfl, rfl, rfl⟩
  ·have h := of_false h hc26
   refine V_skip ?_
   show V _ _ _ _
   refine V_sreg (mb 38 16) [] (s1 := ⟨bt 4 (I o8.2 :: bt 33 []), []⟩) ?_ ?_
   ·refine L0 rfl rfl (E_move (I o8.2) rfl (by kernel_rfl)) ?_
    refine L0 rfl rfl (E_assign (I o8.2) rfl (by kernel_rfl)) ?_
    refine XL_nil ?_
    kernel_rfl
   refine V_ret ?_
   obtain rfl := some_inj h
   show Post _ _ _ _ _
   exact ⟨.inr rfl, rfl, rfl, rfl⟩
theorem cf_impl_kronecker : ∀ args w, (callFunc 80 args).run Try.prog w = .ok (.enter 80 args) w := run_callFunc Try.func80 (by kernel_rfl) (by kernel_rfl)
set_option maxRecDepth 100000 in
set_option maxHeartbeats 400000 in
theorem s_impl_kronecker {a1 : Int} {vn2 : Int} {r : Int} (h : r_impl_kronecker a1 vn2 = some r) : CallS Try.prog 80 [I a1, I vn2] (I r) [] := by
  refine CallS_of_text (rs := [.t 4]) (vs := [.tmp 4]) Try.func80 rfl rfl (.cons rfl FitsL.nil) (by decide) 36 rfl ?_
  unfold r_impl_kronecker at h
  show V _ _ ⟨I a1 :: I vn2 :: bt 34 [], []⟩ _
  refine V_sreg (mb 36 3) [] (s1 := ⟨I a1 :: I vn2 :: bt 34 [], []⟩) ?_ ?_
  ·refine L0 rfl rfl (E_assign (I 0) rfl (by kernel_rfl)) ?_
   refine XL_nil ?_
   kernel_rfl
  refine V_seq ?_
  refine V_sreg (mb 36 131) [] (s1 := ⟨I a1 :: I vn2 :: bt 5 (Bo (eqI vn2 0) :: bt 28 []), []⟩) ?_ ?_
  ·refine L0 rfl rfl (E_move (I vn2) rfl (by kernel_rfl)) ?_
   refine L0 rfl rfl (Y0_eqw (k := .i64) (a := vn2) (b := 0) rfl (by kernel_rfl) (by kernel_rfl)) ?_
   refine XL_nil ?_
   kernel_rfl
  refine V_cond rfl (fun hc3 => ?_) (fun hc3 => ?_)
  ·have h := of_true h hc3
   refine V_seq ?_
   obtain ⟨y4, hy4, h⟩ := of_bind h
   refine V_sreg (mb 36 1024) [] (s1 := ⟨bt 10 (Bo (eqI y4 1) :: bt 25 []), []⟩) ?_ ?_
   ·refine L0 rfl rfl (E_move (I a1) rfl (by kernel_rfl)) ?_
    refine L1 rfl rfl (Y1_call (s_impl_abs hy4) cf_impl_abs rfl (by kernel_rfl)) ?_
    refine L0 rfl rfl (Y0_eqw (k := .i64) (a := y4) (b := 1) rfl (by kernel_rfl) (by kernel_rfl)) ?_
    refine XL_nil ?_
    kernel_rfl
   refine V_cond rfl (fun hc5 => ?_) (fun hc5 => ?_)
   ·have h := of_true h hc5
    refine V_sreg (mb 36 16) [] (s1 := ⟨bt 4 (I 1 :: bt 31 []), []⟩) ?_ ?_
    ·refine L0 rfl rfl (E_assign (I 1) rfl (by kernel_rfl)) ?_
     refine XL_nil ?_
     kernel_rfl
    refine V_ret ?_
    obtain rfl := some_inj h
    show Post _ _ _ _ _
    exact ⟨.inr rfl, rfl, rfl, rfl⟩
   ·have h := of_false h hc5
    refine V_skip ?_
    show V _ _ _ _
    refine V_sreg (mb 36 16) [] (s1 := ⟨bt 4 (I 0 :: bt 31 []), []⟩) ?_ ?_
    ·refine L0 rfl rfl (E_assign (I 0) rfl (by kernel_rfl)) ?_
     refine XL_nil ?_
     kernel_rfl
    refine V_ret ?_
    obtain rfl := some_inj h
    show Post _ _ _ _ _
    exact ⟨.inr rfl, rfl, rfl, rfl⟩
  ·have h := of_false h hc3
   refine V_skip ?_
   show V _ _ _ _
   refine V_sreg (mb 36 35) [] (s1 := ⟨I a1 :: I vn2 :: bt 3 (I 1 :: bt 30 []), []⟩) ?_ ?_
   ·refine L0 rfl rfl (E_assign (I 1) rfl (by kernel_rfl)) ?_
    refine XL_nil ?_
    kernel_rfl
   obtain ⟨j6, hj6, h⟩ := of_bind h
   refine V_cutK (mb 36 35) [] (s1 := ⟨I a1 :: I vn2 :: bt 3 (I j6 :: bt 30 []), []⟩) ?_ ?_
   ·clear h
    have h := hj6
    clear hj6
    refine V_sreg (mb 36 65571) [] (s1 := ⟨I a1 :: I vn2 :: bt 3 (I 1 :: bt 10 (Bo (bif (ltI vn2 0) then (ltI a1 0) else false) :: bt 19 [])), []⟩) ?_ ?_
    ·refine L0 rfl rfl (E_move (I vn2) rfl (by kernel_rfl)) ?_
     refine L0 rfl rfl (Y0_ltw (k := .i64) (a := vn2) (b := 0) rfl (by kernel_rfl) (by kernel_rfl)) ?_
     refine L0 rfl rfl (E_move (Bo (ltI vn2 0)) rfl (by kernel_rfl)) ?_
     refine XL_split (ltI vn2 0) (fun hc7 => ?_) (fun hc7 => ?_)
     ·refine XL_takeC _ rfl rfl (by kernel_rfl) hc7 (X_of_Y0 rfl (E_move (I a1) rfl (by kernel_rfl))) ?_
      refine XL_takeC _ rfl rfl (by kernel_rfl) hc7 (X_of_Y0 rfl (Y0_ltw (k := .i64) (a := a1) (b := 0) rfl (by kernel_rfl) (by kernel_rfl))) ?_
      refine XL_cons rfl (X_of_Y0 rfl (Y0_pick1 (b := ltI vn2 0) (p := ltI a1 0) (q := false) rfl (by kernel_rfl) hc7 (by kernel_rfl))) ?_
      refine XL_nil ?_
      kernel_rfl
     ·refine XL_skipT _ rfl rfl (by kernel_rfl) hc7 rfl ?_
      refine XL_skipT _ rfl rfl (by kernel_rfl) hc7 rfl ?_
      refine XL_cons rfl (X_of_Y0 rfl (Y0_pick0 (b := ltI vn2 0) (p := ltI a1 0) (q := false) rfl (by kernel_rfl) hc7 (by kernel_rfl))) ?_
      refine XL_nil ?_
      kernel_rfl
    refine V_cond rfl (fun hc8 => ?_) (fun hc8 => ?_)
    ·have h := of_true h hc8
     refine V_reg (mb 36 35) [] (s1 := ⟨I a1 :: I vn2 :: bt 3 (I (-1) :: bt 30 []), []⟩) ?_ ?_
     ·refine L0 rfl rfl (E_assign (I (-1)) rfl (by kernel_rfl)) ?_
      refine XL_nil ?_
      kernel_rfl
     obtain rfl := some_inj h
     show St.keep _ _ _ = _
     rfl
    ·have h := of_false h hc8
     refine V_skip ?_
     obtain rfl := some_inj h
     show St.keep _ _ _ = _
     rfl
   obtain ⟨y9, hy9, h⟩ := of_bind h
   refine V_sreg (mb 36 35) [] (s1 := ⟨I a1 :: I y9 :: bt 3 (I j6 :: bt 30 []), []⟩) ?_ ?_
   ·refine L0 rfl rfl (E_move (I vn2) rfl (by kernel_rfl)) ?_
    refine L1 rfl rfl (Y1_call (s_impl_abs hy9) cf_impl_abs rfl (by kernel_rfl)) ?_
    refine L0 rfl rfl (E_assign (I y9) rfl (by kernel_rfl)) ?_
    refine XL_nil ?_
    kernel_rfl
   refine V_seq ?_
   obtain ⟨qo13, hLo13, hko13⟩ := of_bind h
   refine V_toS (q := qo13) (S := fun o13 => ⟨I a1 :: I o13.1 :: bt 3 (I o13.2 :: bt 30 []), []⟩) (mb 36 35) [] ?_ ?_
   ·refine V_block (V_loop (fun n s => ∃ (vn10 : Int) (vs11 : Int), s.keep (mb 36 35) [] = (⟨I a1 :: I vn10 :: bt 3 (I vs11 :: bt 30 []), []⟩ : St) ∧ r_impl_kronecker_L12 a1 n vn10 vs11 = some qo13) FU ⟨_, _,  by rfl, hLo13⟩ ?_)
    clear hLo13
    rintro n s ⟨vn10, vs11, hs, h⟩
    refine V_keep _ _ hs ?_
    clear hs
    cases n with
    | zero => cases h
    | succ n =>
     rw [r_impl_kronecker_L12] at h
     refine V_seq ?_
     refine V_sreg (mb 36 2097187) [] (s1 := ⟨I a1 :: I vn10 :: bt 3 (I vs11 :: bt 15 (Bo (eqI (Int.tmod vn10 2) 0) :: bt 14 [])), []⟩) ?_ ?_
     ·refine L0 rfl rfl (E_move (I vn10) rfl (by kernel_rfl)) ?_
      refine L0 rfl rfl (Y0_rem (k := .i64) (a := vn10) (b := 2) rfl (by kernel_rfl) (by kernel_rfl) (by decide)) ?_
      refine L0 rfl rfl (Y0_eqw (k := .i64) (a := Int.tmod vn10 2) (b := 0) rfl (by kernel_rfl) (by kernel_rfl)) ?_
      refine XL_nil ?_
      kernel_rfl
     refine V_cond rfl (fun hc14 => ?_) (fun hc14 => ?_)
     ·have h := of_true h hc14
      refine V_skip ?_
      show V _ _ _ _
      refine V_block ?_
      refine V_seq ?_
      refine V_sreg (mb 36 16777251) [] (s1 := ⟨I a1 :: I vn10 :: bt 3 (I vs11 :: bt 18 (Bo (eqI (Int.tmod a1 2) 0) :: bt 11 [])), []⟩) ?_ ?_
      ·refine L0 rfl rfl (E_move (I a1) rfl (by kernel_rfl)) ?_
       refine L0 rfl rfl (Y0_rem (k := .i64) (a := a1) (b := 2) rfl (by kernel_rfl) (by kernel_rfl) (by decide)) ?_
       refine L0 rfl rfl (Y0_eqw (k := .i64) (a := Int.tmod a1 2) (b := 0) rfl (by kernel_rfl) (by kernel_rfl)) ?_
       refine XL_nil ?_
       kernel_rfl
      refine V_cond rfl (fun hc15 => ?_) (fun hc15 => ?_)
      ·have h := of_true h hc15
       refine V_sreg (mb 36 16) [] (s1 := ⟨bt 4 (I 0 :: bt 31 []), []⟩) ?_ ?_
       ·refine L0 rfl rfl (E_assign (I 0) rfl (by kernel_rfl)) ?_
        refine XL_nil ?_
        kernel_rfl
       refine V_ret ?_
       obtain rfl := some_inj h
       have h := hko13
       obtain rfl := some_inj h
       show Post _ _ _ _ _
       exact ⟨.inr rfl, rfl, rfl, rfl⟩
      ·have h := of_false h hc15
       refine V_skip ?_
       show V _ _ _ _
       obtain ⟨vn16, hvn16, h⟩ := of_sI h
       refine V_sreg (mb 36 35) [] (s1 := ⟨I a1 :: I vn16 :: bt 3 (I vs11 :: bt 30 []), []⟩) ?_ ?_
       ·refine L0 rfl rfl (E_move (I vn10) rfl (by kernel_rfl)) ?_
        refine L0 rfl rfl (Y0_quo64 (a := vn10) (b := 2) rfl (by kernel_rfl) (by kernel_rfl) (by decide)) ?_
        refine L0 rfl rfl (E_assign (I (w64 (Int.tdiv vn10 2))) rfl (by kernel_rfl)) ?_
        refine XL_nil ?_
        subst hvn16
        kernel_rfl
       obtain ⟨y17, hy17, h⟩ := of_bind h
       obtain ⟨vs18, hvs18, h⟩ := of_sI h
       refine V_reg (mb 36 35) [] (s1 := ⟨I a1 :: I vn16 :: bt 3 (I vs18 :: bt 30 []), []⟩) ?_ ?_
       ·refine L0 rfl rfl (E_move (I vs11) rfl (by kernel_rfl)) ?_
        refine L0 rfl rfl (E_move (I a1) rfl (by kernel_rfl)) ?_
        refine L1 rfl rfl (Y1_call (s_impl_symbolOfTwo hy17) cf_impl_symbolOfTwo rfl (by kernel_rfl)) ?_
        refine L0 rfl rfl (Y0_mul64 (a := vs11) (b := y17) rfl (by kernel_rfl) (by kernel_rfl)) ?_
        refine L0 rfl rfl (E_assign (I (w64 (vs11 * y17))) rfl (by kernel_rfl)) ?_
        refine XL_nil ?_
        subst hvs18
        kernel_rfl
       exact ⟨n, Nat.lt_succ_self n, _, _,  by rfl, h⟩
     ·have h := of_false h hc14
      refine V_exit ?_
      obtain rfl := some_inj h
      exact ⟨_, rfl, by rfl⟩
   rintro o13 rfl
   have h := hko13
   clear hko13
   show V _ _ _ _
   obtain ⟨y19, hy19, h⟩ := of_bind h
   obtain ⟨t20, ht20, h⟩ := of_sI h
   refine V_sreg (mb 36 16) [] (s1 := ⟨bt 4 (I t20 :: bt 31 []), []⟩) ?_ ?_
   ·refine L0 rfl rfl (E_move (I o13.2) rfl (by kernel_rfl)) ?_
    refine L0 rfl rfl (E_move (I a1) rfl (by kernel_rfl)) ?_
    refine L0 rfl rfl (E_move (I o13.1) rfl (by kernel_rfl)) ?_
    refine L1 rfl rfl (Y1_call (s_impl_jacobi hy19) cf_impl_jacobi rfl (by kernel_rfl)) ?_
    refine L0 rfl rfl (Y0_mul64 (a := o13.2) (b := y19) rfl (by kernel_rfl) (by kernel_rfl)) ?_
    refine L0 rfl rfl (E_assign (I (w64 (o13.2 * y19))) rfl (by kernel_rfl)) ?_
    refine XL_nil ?_
    subst ht20
    kernel_rfl
   refine V_ret ?_
   obtain rfl := some_inj h
   show Post _ _ _ _ _
   exact ⟨.inr rfl, rfl, rfl, rfl⟩
theorem cf_impl_CharacterOf : ∀ args w, (callFunc 25 args).run Try.prog w = .ok (.enter 25 args) w := run_callFunc Try.func25 (by kernel_rfl) (by kernel_rfl)
set_option maxRecDepth 100000 in
set_option maxHeartbeats 400000 in
theorem s_impl_CharacterOf {d1 : Int} {vn2 : Int} {r : (Int × Bool)} (h : r_impl_CharacterOf d1 vn2 = some r) : CallS Try.prog 25 [I d1, I vn2] (.tc (I r.1) (.tc (Bo r.2) .tn)) [] := by
  refine CallS_of_text (rs := [.t 4, .t 5]) (vs := [.tmp 4, .tmp 5]) Try.func25 rfl rfl (.cons rfl (.cons rfl FitsL.nil)) (by decide) 18 rfl ?_
  unfold r_impl_CharacterOf at h
  show V _ _ ⟨I d1 :: I vn2 :: bt 16 [], []⟩ _
  refine V_sreg (mb 18 3) [] (s1 := ⟨I d1 :: I vn2 :: bt 16 [], []⟩) ?_ ?_
  ·refine L0 rfl rfl (E_assign (I 0) rfl (by kernel_rfl)) ?_
   refine L0 rfl rfl (E_assign (Bo false) rfl (by kernel_rfl)) ?_
   refine XL_nil ?_
   kernel_rfl
  refine V_seq ?_
  obtain ⟨y3, hy3, h⟩ := of_bind h
  obtain ⟨b6, hb6, h⟩ := of_bind h
  refine V_sreg (mb 18 16387) [] (s1 := ⟨I d1 :: I vn2 :: bt 12 (Bo b6 :: bt 3 []), []⟩) ?_ ?_
  ·refine L0 rfl rfl (E_move (I d1) rfl (by kernel_rfl)) ?_
   refine L1 rfl rfl (Y1_call (s_impl_isDiscriminant hy3) cf_impl_isDiscriminant rfl (by kernel_rfl)) ?_
   refine L0 rfl rfl (Y0_not (b := y3) rfl (by kernel_rfl)) ?_
   refine L0 rfl rfl (E_move (Bo (!y3)) rfl (by kernel_rfl)) ?_
   refine XL_split (!y3) (fun hc4 => ?_) (fun hc4 => ?_)
   ·have hb6 := some_inj (of_true hb6 hc4)
    refine XL_skipF _ rfl rfl (by kernel_rfl) hc4 rfl ?_
    refine XL_skipF _ rfl rfl (by kernel_rfl) hc4 rfl ?_
    refine XL_skipF _ rfl rfl (by kernel_rfl) hc4 rfl ?_
    refine XL_skipF _ rfl rfl (by kernel_rfl) hc4 rfl ?_
    refine XL_cons rfl (X_of_Y0 rfl (Y0_pickTe (b := !y3) (p := true) rfl (by kernel_rfl) hc4 (by kernel_rfl) hb6)) ?_
    refine XL_nil ?_
    kernel_rfl
   ·have hb6 := of_false hb6 hc4
    obtain ⟨y5, hy5, hb6⟩ := of_bind hb6
    have hb6 := some_inj hb6
    refine XL_takeC _ rfl rfl (by kernel_rfl) hc4 (X_of_Y0 rfl (E_move (I vn2) rfl (by kernel_rfl))) ?_
    refine XL_takeC _ rfl rfl (by kernel_rfl) hc4 (X_of_Y1 rfl (Y1_bslice (z := zv3) (els := [vn2].map c3) Try.underlying41 iz3 rfl (by decide) rfl (by kernel_rfl) rfl (by simp [c3]) (by decide) (by decide))) ?_
    refine XL_takeC _ rfl rfl (by kernel_rfl) hc4 (X_of_Y1 rfl (Y1_callS (s_impl_areNumbers hy5) cf_impl_areNumbers rfl (by kernel_rfl) rfl rfl)) ?_
    refine XL_takeC _ rfl rfl (by kernel_rfl) hc4 (X_of_Y0 rfl (Y0_not (b := y5) rfl (by kernel_rfl))) ?_
    refine XL_cons rfl (X_of_Y0 rfl (Y0_pickFe (b := !y3) (p := !y5) rfl (by kernel_rfl) hc4 (by kernel_rfl) hb6)) ?_
    refine XL_nil ?_
    kernel_rfl
  refine V_cond rfl (fun hc7 => ?_) (fun hc7 => ?_)
  ·have h := of_true h hc7
   refine V_sreg (mb 18 48) [] (s1 := ⟨bt 4 (I 0 :: Bo false :: bt 12 []), []⟩) ?_ ?_
   ·refine L0 rfl rfl (E_assign (I 0) rfl (by kernel_rfl)) ?_
    refine L0 rfl rfl (E_assign (Bo false) rfl (by kernel_rfl)) ?_
    refine XL_nil ?_
    kernel_rfl
   refine V_ret ?_
   obtain rfl := some_inj h
   show Post _ _ _ _ _
   exact ⟨.inr rfl, rfl, rfl, rfl⟩
  ·have h := of_false h hc7
   refine V_skip ?_
   show V _ _ _ _
   obtain ⟨y8, hy8, h⟩ := of_bind h
   refine V_sreg (mb 18 48) [] (s1 := ⟨bt 4 (I y8 :: Bo true :: bt 12 []), []⟩) ?_ ?_
   ·refine L0 rfl rfl (E_move (I d1) rfl (by kernel_rfl)) ?_
    refine L0 rfl rfl (E_move (I vn2) rfl (by kernel_rfl)) ?_
    refine L1 rfl rfl (Y1_call (s_impl_kronecker hy8) cf_impl_kronecker rfl (by kernel_rfl)) ?_
    refine L0 rfl rfl (E_assign (I y8) rfl (by kernel_rfl)) ?_
    refine L0 rfl rfl (E_assign (Bo true) rfl (by kernel_rfl)) ?_
    refine XL_nil ?_
    kernel_rfl
   refine V_ret ?_
   obtain rfl := some_inj h
   show Post _ _ _ _ _
   exact ⟨.inr rfl, rfl, rfl, rfl⟩
theorem cf_laws_qAbs : ∀ args w, (callFunc 54 args).run Try.prog w = .ok (.enter 54 args) w := run_callFunc Try.func54 (by kernel_rfl) (by kernel_rfl)
set_option maxRecDepth 100000 in
set_option maxHeartbeats 400000 in
theorem s_laws_qAbs {vn1 : Int} {r : Int} (h : r_laws_qAbs vn1 = some r) : CallS Try.prog 54 [I vn1] (I r) [] := by
  refine CallS_of_text (rs := [.t 2]) (vs := [.tmp 2]) Try.func54 rfl rfl (.cons rfl FitsL.nil) (by decide) 8 rfl ?_
  unfold r_laws_qAbs at h
  show V _ _ ⟨I vn1 :: bt 7 [], []⟩ _
  refine V_sreg (mb 8 1) [] (s1 := ⟨I vn1 :: bt 7 [], []⟩) ?_ ?_
  ·refine L0 rfl rfl (E_assign (I 0) rfl (by kernel_rfl)) ?_
   refine XL_nil ?_
   kernel_rfl
  refine V_seq ?_
  refine V_sreg (mb 8 17) [] (s1 := ⟨I vn1 :: bt 3 (Bo (ltI vn1 0) :: bt 3 []), []⟩) ?_ ?_
  ·refine L0 rfl rfl (E_move (I vn1) rfl (by kernel_rfl)) ?_
   refine L0 rfl rfl (Y0_ltw (k := .i64) (a := vn1) (b := 0) rfl (by kernel_rfl) (by kernel_rfl)) ?_
   refine XL_nil ?_
   kernel_rfl
  refine V_cond rfl (fun hc2 => ?_) (fun hc2 => ?_)
  ·have h := of_true h hc2
   obtain ⟨t3, ht3, h⟩ := of_sI h
   refine V_sreg (mb 8 4) [] (s1 := ⟨.bot :: .bot :: I t3 :: bt 5 [], []⟩) ?_ ?_
   ·refine L0 rfl rfl (E_move (I vn1) rfl (by kernel_rfl)) ?_
    refine L0 rfl rfl (Y0_neg64 (a := vn1) rfl (by kernel_rfl)) ?_
    refine L0 rfl rfl (E_assign (I (w64 (0 - vn1))) rfl (by kernel_rfl)) ?_
    refine XL_nil ?_
    subst ht3
    kernel_rfl
   refine V_ret ?_
   obtain rfl := some_inj h
   show Post _ _ _ _ _
   exact ⟨.inr rfl, rfl, rfl, rfl⟩
  ·have h := of_false h hc2
   refine V_skip ?_
   show V _ _ _ _
   refine V_sreg (mb 8 4) [] (s1 := ⟨.bot :: .bot :: I vn1 :: bt 5 [], []⟩) ?_ ?_
   ·refine L0 rfl rfl (E_move (I vn1) rfl (by kernel_rfl)) ?_
    refine L0 rfl rfl (E_assign (I vn1) rfl (by kernel_rfl)) ?_
    refine XL_nil ?_
    kernel_rfl
   refine V_ret ?_
   obtain rfl := some_inj h
   show Post _ _ _ _ _
   exact ⟨.inr rfl, rfl, rfl, rfl⟩
theorem cf_laws_qGcd : ∀ args w, (callFunc 26 args).run Try.prog w = .ok (.enter 26 args) w := run_callFunc Try.func26 (by kernel_rfl) (by kernel_rfl)
set_option maxRecDepth 100000 in
set_option maxHeartbeats 400000 in
theorem s_laws_qGcd {a1 : Int} {b2 : Int} {r : Int} (h : r_laws_qGcd a1 b2 = some r) : CallS Try.prog 26 [I a1, I b2] (I r) [] := by
  refine CallS_of_text (rs := [.t 4]) (vs := [.tmp 4]) Try.func26 rfl rfl (.cons rfl FitsL.nil) (by decide) 13 rfl ?_
  unfold r_laws_qGcd at h
  show V _ _ ⟨I a1 :: I b2 :: bt 11 [], []⟩ _
  refine V_sreg (mb 13 3) [] (s1 := ⟨I a1 :: I b2 :: bt 11 [], []⟩) ?_ ?_
  ·refine L0 rfl rfl (E_assign (I 0) rfl (by kernel_rfl)) ?_
   refine XL_nil ?_
   kernel_rfl
  refine V_seq ?_
  obtain ⟨o6, hLo6, h⟩ := of_bind h
  refine V_toK (mb 13 1) [] (s1 := ⟨I o6 :: bt 12 [], []⟩) ?_ ?_
  ·clear h
   refine V_block (V_loop (fun n s => ∃ (a3 : Int) (b4 : Int), s.keep (mb 13 3) [] = (⟨I a3 :: I b4 :: bt 11 [], []⟩ : St) ∧ r_laws_qGcd_L5 n a3 b4 = some o6) FU ⟨_, _,  by rfl, hLo6⟩ ?_)
   clear hLo6
   rintro n s ⟨a3, b4, hs, h⟩
   refine V_keep _ _ hs ?_
   clear hs
   cases n with
   | zero => cases h
   | succ n =>
    rw [r_laws_qGcd_L5] at h
    refine V_seq ?_
    refine V_sreg (mb 13 67) [] (s1 := ⟨I a3 :: I b4 :: bt 4 (Bo (!eqI b4 0) :: bt 6 []), []⟩) ?_ ?_
    ·refine L0 rfl rfl (E_move (I b4) rfl (by kernel_rfl)) ?_
     refine L0 rfl rfl (Y0_new (k := .i64) (a := b4) (b := 0) rfl (by kernel_rfl) (by kernel_rfl)) ?_
     refine XL_nil ?_
     kernel_rfl
    refine V_cond rfl (fun hc7 => ?_) (fun hc7 => ?_)
    ·have h := of_true h hc7
     refine V_skip ?_
     show V _ _ _ _
     refine V_block ?_
     obtain ⟨z8, hz8, h⟩ := of_bind h
     obtain ⟨b9, hb9, h⟩ := of_sI h
     refine V_dreg [0, 0, 0, 6, 3, 31] 6 [[.z, .b, .b, .b, .z, .z], [.b, .z, .b, .z, .z, .z], [.b, .b, .z, .z, .b, .z], [.b, .a, .a, .z, .b, .z], [.a, .a, .b, .b, .z, .z], [.a, .a, .a, .a, .a, .z]] (mb 13 3) [] (s1 := ⟨I b4 :: I b9 :: bt 11 [], []⟩) (by kernel_rfl) (by kernel_rfl) ?_ ?_
     ·refine DE_0 0 (I b4) (by kernel_rfl) rfl rfl rfl (gsat_none rfl) (by kernel_rfl) (E_move (I b4) rfl (by kernel_rfl)) 7 rfl ?_
      refine DE_0 1 (I a3) (by kernel_rfl) rfl rfl rfl (gsat_none rfl) (by kernel_rfl) (E_move (I a3) rfl (by kernel_rfl)) 8 rfl ?_
      refine DE_0 2 (I b4) (by kernel_rfl) rfl rfl rfl (gsat_none rfl) (by kernel_rfl) (E_move (I b4) rfl (by kernel_rfl)) 9 rfl ?_
      refine DE_0 3 (I (Int.tmod a3 b4)) (by kernel_rfl) rfl rfl rfl (gsat_none rfl) (by kernel_rfl) (Y0_rem (k := .i64) (a := a3) (b := b4) rfl (by kernel_rfl) (by kernel_rfl) (nz_some hz8)) 10 rfl ?_
      refine DE_0 4 (I b4) (by kernel_rfl) rfl rfl rfl (gsat_none rfl) (by kernel_rfl) (E_assign (I b4) rfl (by kernel_rfl)) 0 rfl ?_
      refine DE_0 5 (I (Int.tmod a3 b4)) (by kernel_rfl) rfl rfl rfl (gsat_none rfl) (by kernel_rfl) (E_assign (I (Int.tmod a3 b4)) rfl (by kernel_rfl)) 1 rfl ?_
      refine DL_nil (by kernel_rfl) ?_
      refine XL_nil ?_
      subst hb9
      kernel_rfl
     exact ⟨n, Nat.lt_succ_self n, _, _,  by rfl, h⟩
    ·have h := of_false h hc7
     refine V_exit ?_
     obtain rfl := some_inj h
     show St.keep _ _ _ = _
     rfl
  show V _ _ _ _
  obtain ⟨y10, hy10, h⟩ := of_bind h
  refine V_sreg (mb 13 16) [] (s1 := ⟨bt 4 (I y10 :: bt 8 []), []⟩) ?_ ?_
  ·refine L0 rfl rfl (E_move (I o6) rfl (by kernel_rfl)) ?_
   refine L1 rfl rfl (Y1_call (s_laws_qAbs hy10) cf_laws_qAbs rfl (by kernel_rfl)) ?_
   refine L0 rfl rfl (E_assign (I y10) rfl (by kernel_rfl)) ?_
   refine XL_nil ?_
   kernel_rfl
  refine V_ret ?_
  obtain rfl := some_inj h
  show Post _ _ _ _ _
  exact ⟨.inr rfl, rfl, rfl, rfl⟩
theorem cf_impl_isPrime : ∀ args w, (callFunc 145 args).run Try.prog w = .ok (.enter 145 args) w := run_callFunc Try.func145 (by kernel_rfl) (by kernel_rfl)
set_option maxRecDepth 100000 in
set_option maxHeartbeats 400000 in
theorem s_impl_isPrime {vn1 : Int} {r : Bool} (h : r_impl_isPrime vn1 = some r) : CallS Try.prog 145 [I vn1] (Bo r) [] := by
  refine CallS_of_text (rs := [.t 2]) (vs := [.tmp 2]) Try.func145 rfl rfl (.cons rfl FitsL.nil) (by decide) 17 rfl ?_
  unfold r_impl_isPrime at h
  show V _ _ ⟨I vn1 :: bt 16 [], []⟩ _
  refine V_sreg (mb 17 1) [] (s1 := ⟨I vn1 :: bt 16 [], []⟩) ?_ ?_
  ·refine L0 rfl rfl (E_assign (Bo false) rfl (by kernel_rfl)) ?_
   refine XL_nil ?_
   kernel_rfl
  refine V_seq ?_
  refine V_sreg (mb 17 33) [] (s1 := ⟨I vn1 :: bt 4 (Bo (ltI vn1 2) :: bt 11 []), []⟩) ?_ ?_
  ·refine L0 rfl rfl (E_move (I vn1) rfl (by kernel_rfl)) ?_
   refine L0 rfl rfl (Y0_ltw (k := .i64) (a := vn1) (b := 2) rfl (by kernel_rfl) (by kernel_rfl)) ?_
   refine XL_nil ?_
   kernel_rfl
  refine V_cond rfl (fun hc2 => ?_) (fun hc2 => ?_)
  ·have h := of_true h hc2
   refine V_sreg (mb 17 4) [] (s1 := ⟨.bot :: .bot :: Bo false :: bt 14 [], []⟩) ?_ ?_
   ·refine L0 rfl rfl (E_assign (Bo false) rfl (by kernel_rfl)) ?_
    refine XL_nil ?_
    kernel_rfl
   refine V_ret ?_
   obtain rfl := some_inj h
   show Post _ _ _ _ _
   exact ⟨.inr rfl, rfl, rfl, rfl⟩
  ·have h := of_false h hc2
   refine V_skip ?_
   show V _ _ _ _
   refine V_seq ?_
   refine V_sreg (mb 17 9) [] (s1 := ⟨I vn1 :: .bot :: .bot :: I 2 :: bt 13 [], []⟩) ?_ ?_
   ·refine L0 rfl rfl (E_assign (I 2) rfl (by kernel_rfl)) ?_
    refine XL_nil ?_
    kernel_rfl
   obtain ⟨qo5, hLo5, hko5⟩ := of_bind h
   refine V_toS (q := qo5) (S := fun o5 => ⟨bt 17 [], []⟩) (mb 17 0) [] ?_ ?_
   ·refine V_block (V_loop (fun n s => ∃ (p3 : Int), s.keep (mb 17 9) [] = (⟨I vn1 :: .bot :: .bot :: I p3 :: bt 13 [], []⟩ : St) ∧ r_impl_isPrime_L4 vn1 n p3 = some qo5) FU ⟨_,  by rfl, hLo5⟩ ?_)
    clear hLo5
    rintro n s ⟨p3, hs, h⟩
    refine V_keep _ _ hs ?_
    clear hs
    cases n with
    | zero => cases h
    | succ n =>
     rw [r_impl_isPrime_L4] at h
     refine V_seq ?_
     refine V_sreg (mb 17 1033) [] (s1 := ⟨I vn1 :: .bot :: .bot :: I p3 :: bt 6 (Bo (leI (w64 (p3 * p3)) vn1) :: bt 6 []), []⟩) ?_ ?_
     ·refine L0 rfl rfl (E_move (I p3) rfl (by kernel_rfl)) ?_
      refine L0 rfl rfl (E_move (I p3) rfl (by kernel_rfl)) ?_
      refine L0 rfl rfl (Y0_mul64 (a := p3) (b := p3) rfl (by kernel_rfl) (by kernel_rfl)) ?_
      refine L0 rfl rfl (E_move (I vn1) rfl (by kernel_rfl)) ?_
      refine L0 rfl rfl (Y0_lew (k := .i64) (a := w64 (p3 * p3)) (b := vn1) rfl (by kernel_rfl) (by kernel_rfl)) ?_
      refine XL_nil ?_
      kernel_rfl
     refine V_cond rfl (fun hc6 => ?_) (fun hc6 => ?_)
     ·have h := of_true h hc6
      refine V_skip ?_
      show V _ _ _ _
      refine V_seq ?_
      refine V_block ?_
      obtain ⟨z7, hz7, h⟩ := of_bind h
      refine V_sreg (mb 17 65545) [] (s1 := ⟨I vn1 :: .bot :: .bot :: I p3 :: bt 12 (Bo (eqI (Int.tmod vn1 p3) 0) :: []), []⟩) ?_ ?_
      ·refine L0 rfl rfl (E_move (I vn1) rfl (by kernel_rfl)) ?_
       refine L0 rfl rfl (E_move (I p3) rfl (by kernel_rfl)) ?_
       refine L0 rfl rfl (Y0_rem (k := .i64) (a := vn1) (b := p3) rfl (by kernel_rfl) (by kernel_rfl) (nz_some hz7)) ?_
       refine L0 rfl rfl (Y0_eqw (k := .i64) (a := Int.tmod vn1 p3) (b := 0) rfl (by kernel_rfl) (by kernel_rfl)) ?_
       refine XL_nil ?_
       kernel_rfl
      refine V_cond rfl (fun hc8 => ?_) (fun hc8 => ?_)
      ·have h := of_true h hc8
       refine V_sreg (mb 17 4) [] (s1 := ⟨.bot :: .bot :: Bo false :: bt 14 [], []⟩) ?_ ?_
       ·refine L0 rfl rfl (E_assign (Bo false) rfl (by kernel_rfl)) ?_
        refine XL_nil ?_
        kernel_rfl
       refine V_ret ?_
       obtain rfl := some_inj h
       have h := hko5
       obtain rfl := some_inj h
       show Post _ _ _ _ _
       exact ⟨.inr rfl, rfl, rfl, rfl⟩
      ·have h := of_false h hc8
       refine V_skip ?_
       show V _ _ _ _
       obtain ⟨p9, hp9, h⟩ := of_sI h
       refine V_reg (mb 17 9) [] (s1 := ⟨I vn1 :: .bot :: .bot :: I p9 :: bt 13 [], []⟩) ?_ ?_
       ·refine L0 rfl rfl (E_move (I p3) rfl (by kernel_rfl)) ?_
        refine L0 rfl rfl (Y0_add64 (a := p3) (b := 1) rfl (by kernel_rfl) (by kernel_rfl)) ?_
        refine L0 rfl rfl (E_assign (I (w64 (p3 + 1))) rfl (by kernel_rfl)) ?_
        refine XL_nil ?_
        subst hp9
        kernel_rfl
       exact ⟨n, Nat.lt_succ_self n, _,  by rfl, h⟩
     ·have h := of_false h hc6
      refine V_exit ?_
      obtain rfl := some_inj h
      exact ⟨_, rfl, by rfl⟩
   rintro o5 rfl
   have h := hko5
   clear hko5
   show V _ _ _ _
   refine V_sreg (mb 17 4) [] (s1 := ⟨.bot :: .bot :: Bo true :: bt 14 [], []⟩) ?_ ?_
   ·refine L0 rfl rfl (E_assign (Bo true) rfl (by kernel_rfl)) ?_
    refine XL_nil ?_
    kernel_rfl
   refine V_ret ?_
   obtain rfl := some_inj h
   show Post _ _ _ _ _
   exact ⟨.inr rfl, rfl, rfl, rfl⟩
theorem cf_impl_IsPrime : ∀ args w, (callFunc 81 args).run Try.prog w = .ok (.enter 81 args) w := run_callFunc Try.func81 (by kernel_rfl) (by kernel_rfl)
set_option maxRecDepth 100000 in
set_option maxHeartbeats 400000 in
theorem s_impl_IsPrime {vn1 : Int} {r : Bool} (h : r_impl_IsPrime vn1 = some r) : CallS Try.prog 81 [I vn1] (Bo r) [] := by
  refine CallS_of_text (rs := [.t 2]) (vs := [.tmp 2]) Try.func81 rfl rfl (.cons rfl FitsL.nil) (by decide) 10 rfl ?_
  unfold r_impl_IsPrime at h
  show V _ _ ⟨I vn1 :: bt 9 [], []⟩ _
  refine V_sreg (mb 10 1) [] (s1 := ⟨I vn1 :: bt 9 [], []⟩) ?_ ?_
  ·refine L0 rfl rfl (E_assign (Bo false) rfl (by kernel_rfl)) ?_
   refine XL_nil ?_
   kernel_rfl
  obtain ⟨y2, hy2, h⟩ := of_bind h
  obtain ⟨b5, hb5, h⟩ := of_bind h
  refine V_sreg (mb 10 4) [] (s1 := ⟨.bot :: .bot :: Bo b5 :: bt 7 [], []⟩) ?_ ?_
  ·refine L0 rfl rfl (E_move (I vn1) rfl (by kernel_rfl)) ?_
   refine L1 rfl rfl (Y1_bslice (z := zv3) (els := [vn1].map c3) Try.underlying41 iz3 rfl (by decide) rfl (by kernel_rfl) rfl (by simp [c3]) (by decide) (by decide)) ?_
   refine L1 rfl rfl (Y1_callS (s_impl_areNumbers hy2) cf_impl_areNumbers rfl (by kernel_rfl) rfl rfl) ?_
   refine L0 rfl rfl (E_move (Bo y2) rfl (by kernel_rfl)) ?_
   refine XL_split y2 (fun hc3 => ?_) (fun hc3 => ?_)
   ·have hb5 := of_true hb5 hc3
    obtain ⟨y4, hy4, hb5⟩ := of_bind hb5
    have hb5 := some_inj hb5
    refine XL_takeC _ rfl rfl (by kernel_rfl) hc3 (X_of_Y0 rfl (E_move (I vn1) rfl (by kernel_rfl))) ?_
    refine XL_takeC _ rfl rfl (by kernel_rfl) hc3 (X_of_Y1 rfl (Y1_call (s_impl_isPrime hy4) cf_impl_isPrime rfl (by kernel_rfl))) ?_
    refine XL_cons rfl (X_of_Y0 rfl (Y0_pickTe (b := y2) (p := y4) rfl (by kernel_rfl) hc3 (by kernel_rfl) hb5)) ?_
    refine L0 rfl rfl (E_assign (Bo b5) rfl (by kernel_rfl)) ?_
    refine XL_nil ?_
    kernel_rfl
   ·have hb5 := some_inj (of_false hb5 hc3)
    refine XL_skipT _ rfl rfl (by kernel_rfl) hc3 rfl ?_
    refine XL_skipT _ rfl rfl (by kernel_rfl) hc3 rfl ?_
    refine XL_cons rfl (X_of_Y0 rfl (Y0_pickFe (b := y2) (p := false) rfl (by kernel_rfl) hc3 (by kernel_rfl) hb5)) ?_
    refine L0 rfl rfl (E_assign (Bo b5) rfl (by kernel_rfl)) ?_
    refine XL_nil ?_
    kernel_rfl
  refine V_ret ?_
  obtain rfl := some_inj h
  show Post _ _ _ _ _
  exact ⟨.inr rfl, rfl, rfl, rfl⟩
theorem cf_impl_kindOfPrime : ∀ args w, (callFunc 82 args).run Try.prog w = .ok (.enter 82 args) w := run_callFunc Try.func82 (by kernel_rfl) (by kernel_rfl)
set_option maxRecDepth 100000 in
set_option maxHeartbeats 400000 in
theorem s_impl_kindOfPrime {d1 : Int} {p2 : Int} {r : Int} (h : r_impl_kindOfPrime d1 p2 = some r) : CallS Try.prog 82 [I d1, I p2] (I r) [] := by
  refine CallS_of_text (rs := [.t 4]) (vs := [.tmp 4]) Try.func82 rfl rfl (.cons rfl FitsL.nil) (by decide) 22 rfl ?_
  unfold r_impl_kindOfPrime at h
  show V _ _ ⟨I d1 :: I p2 :: bt 20 [], []⟩ _
  refine V_sreg (mb 22 3) [] (s1 := ⟨I d1 :: I p2 :: bt 20 [], []⟩) ?_ ?_
  ·refine L0 rfl rfl (E_assign (I 0) rfl (by kernel_rfl)) ?_
   refine XL_nil ?_
   kernel_rfl
  refine V_seq ?_
  obtain ⟨y3, hy3, h⟩ := of_bind h
  refine V_sreg (mb 22 67) [] (s1 := ⟨I d1 :: I p2 :: bt 4 (I y3.2 :: bt 15 []), []⟩) ?_ ?_
  ·refine L0 rfl rfl (E_move (I d1) rfl (by kernel_rfl)) ?_
   refine L1 rfl rfl (Y1_call (s_impl_fundamental hy3) cf_impl_fundamental rfl (by kernel_rfl)) ?_
   refine L0 rfl rfl (E_move (.tc (I y3.1) (.tc (I y3.2) .tn)) rfl (by kernel_rfl)) ?_
   refine L0 rfl rfl (E_ext (n := 0) (I y3.1) (.tc (I y3.2) .tn) (I y3.1) rfl (by kernel_rfl) (by kernel_rfl) (by intro hh; cases hh)) ?_
   refine L0 rfl rfl (E_ext (n := 1) (I y3.1) (.tc (I y3.2) .tn) (I y3.2) rfl (by kernel_rfl) (by kernel_rfl) (by intro hh; cases hh)) ?_
   refine L0 rfl rfl (E_assign (I y3.1) rfl (by kernel_rfl)) ?_
   refine L0 rfl rfl (E_assign (I y3.2) rfl (by kernel_rfl)) ?_
   refine XL_nil ?_
   kernel_rfl
  obtain ⟨z4, hz4, h⟩ := of_bind h
  refine V_sreg (mb 22 32771) [] (s1 := ⟨I d1 :: I p2 :: bt 13 (Bo (eqI (Int.tmod y3.2 p2) 0) :: bt 6 []), []⟩) ?_ ?_
  ·refine L0 rfl rfl (E_move (I y3.2) rfl (by kernel_rfl)) ?_
   refine L0 rfl rfl (E_move (I p2) rfl (by kernel_rfl)) ?_
   refine L0 rfl rfl (Y0_rem (k := .i64) (a := y3.2) (b := p2) rfl (by kernel_rfl) (by kernel_rfl) (nz_some hz4)) ?_
   refine L0 rfl rfl (Y0_eqw (k := .i64) (a := Int.tmod y3.2 p2) (b := 0) rfl (by kernel_rfl) (by kernel_rfl)) ?_
   refine XL_nil ?_
   kernel_rfl
  refine V_cond rfl (fun hc5 => ?_) (fun hc5 => ?_)
  ·have h := of_true h hc5
   refine V_sreg (mb 22 16) [] (s1 := ⟨bt 4 (I 4 :: bt 17 []), []⟩) ?_ ?_
   ·refine L0 rfl rfl (E_assign (I 4) rfl (by kernel_rfl)) ?_
    refine XL_nil ?_
    kernel_rfl
   refine V_ret ?_
   obtain rfl := some_inj h
   show Post _ _ _ _ _
   exact ⟨.inr rfl, rfl, rfl, rfl⟩
  ·have h := of_false h hc5
   refine V_skip ?_
   show V _ _ _ _
   obtain ⟨y6, hy6, h⟩ := of_bind h
   obtain ⟨e7, he7, h⟩ := of_bind h
   refine V_sreg (mb 22 16) [] (s1 := ⟨bt 4 (I e7 :: bt 17 []), []⟩) ?_ ?_
   ·refine L0 rfl rfl (Y0_build (cs := [Ti 1, Ti 3, Ti 2]) pl124 bt124 rfl rfl (by kernel_rfl)) ?_
    refine L0 rfl rfl (E_move (I d1) rfl (by kernel_rfl)) ?_
    refine L0 rfl rfl (E_move (I p2) rfl (by kernel_rfl)) ?_
    refine L1 rfl rfl (Y1_call (s_impl_kronecker hy6) cf_impl_kronecker rfl (by kernel_rfl)) ?_
    refine L0 rfl rfl (Y0_add64 (a := y6) (b := 1) rfl (by kernel_rfl) (by kernel_rfl)) ?_
    refine L0 rfl rfl (Y0_indexA (c := fun v => [Ti v]) (xs := [1, 3, 2]) (v := e7) (k := .i64) (n := w64 (y6 + 1)) Try.underlying124 sc3 sz3 rfl (by kernel_rfl) (by kernel_rfl) rfl (fun _ => rfl) he7 rfl) ?_
    refine L0 rfl rfl (E_assign (I e7) rfl (by kernel_rfl)) ?_
    refine XL_nil ?_
    kernel_rfl
   refine V_ret ?_
   obtain rfl := some_inj h
   show Post _ _ _ _ _
   exact ⟨.inr rfl, rfl, rfl, rfl⟩
theorem cf_impl_KindOfPrime : ∀ args w, (callFunc 27 args).run Try.prog w = .ok (.enter 27 args) w := run_callFunc Try.func27 (by kernel_rfl) (by kernel_rfl)
set_option maxRecDepth 100000 in
set_option maxHeartbeats 400000 in
theorem s_impl_KindOfPrime {d1 : Int} {p2 : Int} {r : (Int × Bool)} (h : r_impl_KindOfPrime d1 p2 = some r) : CallS Try.prog 27 [I d1, I p2] (.tc (I r.1) (.tc (Bo r.2) .tn)) [] := by
  refine CallS_of_text (rs := [.t 4, .t 5]) (vs := [.tmp 4, .tmp 5]) Try.func27 rfl rfl (.cons rfl (.cons rfl FitsL.nil)) (by decide) 17 rfl ?_
  unfold r_impl_KindOfPrime at h
  show V _ _ ⟨I d1 :: I p2 :: bt 15 [], []⟩ _
  refine V_sreg (mb 17 3) [] (s1 := ⟨I d1 :: I p2 :: bt 15 [], []⟩) ?_ ?_
  ·refine L0 rfl rfl (E_assign (I 0) rfl (by kernel_rfl)) ?_
   refine L0 rfl rfl (E_assign (Bo false) rfl (by kernel_rfl)) ?_
   refine XL_nil ?_
   kernel_rfl
  refine V_seq ?_
  obtain ⟨y3, hy3, h⟩ := of_bind h
  obtain ⟨b6, hb6, h⟩ := of_bind h
  refine V_sreg (mb 17 8195) [] (s1 := ⟨I d1 :: I p2 :: bt 11 (Bo b6 :: bt 3 []), []⟩) ?_ ?_
  ·refine L0 rfl rfl (E_move (I d1) rfl (by kernel_rfl)) ?_
   refine L1 rfl rfl (Y1_call (s_impl_isDiscriminant hy3) cf_impl_isDiscriminant rfl (by kernel_rfl)) ?_
   refine L0 rfl rfl (Y0_not (b := y3) rfl (by kernel_rfl)) ?_
   refine L0 rfl rfl (E_move (Bo (!y3)) rfl (by kernel_rfl)) ?_
   refine XL_split (!y3) (fun hc4 => ?_) (fun hc4 => ?_)
   ·have hb6 := some_inj (of_true hb6 hc4)
    refine XL_skipF _ rfl rfl (by kernel_rfl) hc4 rfl ?_
    refine XL_skipF _ rfl rfl (by kernel_rfl) hc4 rfl ?_
    refine XL_skipF _ rfl rfl (by kernel_rfl) hc4 rfl ?_
    refine XL_cons rfl (X_of_Y0 rfl (Y0_pickTe (b := !y3) (p := true) rfl (by kernel_rfl) hc4 (by kernel_rfl) hb6)) ?_
    refine XL_nil ?_
    kernel_rfl
   ·have hb6 := of_false hb6 hc4
    obtain ⟨y5, hy5, hb6⟩ := of_bind hb6
    have hb6 := some_inj hb6
    refine XL_takeC _ rfl rfl (by kernel_rfl) hc4 (X_of_Y0 rfl (E_move (I p2) rfl (by kernel_rfl))) ?_
    refine XL_takeC _ rfl rfl (by kernel_rfl) hc4 (X_of_Y1 rfl (Y1_call (s_impl_IsPrime hy5) cf_impl_IsPrime rfl (by kernel_rfl))) ?_
    refine XL_takeC _ rfl rfl (by kernel_rfl) hc4 (X_of_Y0 rfl (Y0_not (b := y5) rfl (by kernel_rfl))) ?_
    refine XL_cons rfl (X_of_Y0 rfl (Y0_pickFe (b := !y3) (p := !y5) rfl (by kernel_rfl) hc4 (by kernel_rfl) hb6)) ?_
    refine XL_nil ?_
    kernel_rfl
  refine V_cond rfl (fun hc7 => ?_) (fun hc7 => ?_)
  ·have h := of_true h hc7
   refine V_sreg (mb 17 48) [] (s1 := ⟨bt 4 (I 0 :: Bo false :: bt 11 []), []⟩) ?_ ?_
   ·refine L0 rfl rfl (E_assign (I 0) rfl (by kernel_rfl)) ?_
    refine L0 rfl rfl (E_assign (Bo false) rfl (by kernel_rfl)) ?_
    refine XL_nil ?_
    kernel_rfl
   refine V_ret ?_
   obtain rfl := some_inj h
   show Post _ _ _ _ _
   exact ⟨.inr rfl, rfl, rfl, rfl⟩
  ·have h := of_false h hc7
   refine V_skip ?_
   show V _ _ _ _
   obtain ⟨y8, hy8, h⟩ := of_bind h
   refine V_sreg (mb 17 48) [] (s1 := ⟨bt 4 (I y8 :: Bo true :: bt 11 []), []⟩) ?_ ?_
   ·refine L0 rfl rfl (E_move (I d1) rfl (by kernel_rfl)) ?_
    refine L0 rfl rfl (E_move (I p2) rfl (by kernel_rfl)) ?_
    refine L1 rfl rfl (Y1_call (s_impl_kindOfPrime hy8) cf_impl_kindOfPrime rfl (by kernel_rfl)) ?_
    refine L0 rfl rfl (E_assign (I y8) rfl (by kernel_rfl)) ?_
    refine L0 rfl rfl (E_assign (Bo true) rfl (by kernel_rfl)) ?_
    refine XL_nil ?_
    kernel_rfl
   refine V_ret ?_
   obtain rfl := some_inj h
   show Post _ _ _ _ _
   exact ⟨.inr rfl, rfl, rfl, rfl⟩
theorem cf_impl_rootsOfDiscriminant : ∀ args w, (callFunc 83 args).run Try.prog w = .ok (.enter 83 args) w := run_callFunc Try.func83 (by kernel_rfl) (by kernel_rfl)
set_option maxRecDepth 100000 in
set_option maxHeartbeats 400000 in
theorem s_impl_rootsOfDiscriminant {d1 : Int} {vn2 : Int} {r : List Int} (h : r_impl_rootsOfDiscriminant d1 vn2 = some r) : CallS Try.prog 83 [I d1, I vn2] (.ow 0) [(0, .arr 3 1 (r.map c3))] := by
  refine CallS_of_text (rs := [.t 4]) (vs := [.tmp 4]) Try.func83 rfl rfl (.cons rfl FitsL.nil) (by decide) 28 rfl ?_
  unfold r_impl_rootsOfDiscriminant at h
  show V _ _ ⟨I d1 :: I vn2 :: bt 26 [], []⟩ _
  refine V_sreg (mb 28 3) [] (s1 := ⟨I d1 :: I vn2 :: bt 26 [], []⟩) ?_ ?_
  ·refine L1 rfl rfl (Y1_nil (e := 3) 1 (by decide) (.inl rfl)) ?_
   refine XL_nil ?_
   kernel_rfl
  refine V_sreg (mb 28 35) [56] (s1 := ⟨I d1 :: I vn2 :: bt 3 (.ow 56 :: bt 22 []), [(56, .arr 3 1 ((([] : List Int)).map c3))]⟩) ?_ ?_
  ·refine L1 rfl rfl (Y1_bslice0 Try.underlying41 sz3 (by decide) rfl rfl) ?_
   refine L0 rfl rfl (E_assign (.ow 56) rfl (by kernel_rfl)) ?_
   refine XL_nil ?_
   kernel_rfl
  refine V_seq ?_
  refine V_sreg (mb 28 99) [56] (s1 := ⟨I d1 :: I vn2 :: bt 3 (.ow 56 :: I 0 :: bt 21 []), [(56, .arr 3 1 ((([] : List Int)).map c3))]⟩) ?_ ?_
  ·refine L0 rfl rfl (E_assign (I 0) rfl (by kernel_rfl)) ?_
   refine XL_nil ?_
   kernel_rfl
  obtain ⟨o6, hLo6, h⟩ := of_bind h
  refine V_toK (mb 28 32) [56] (s1 := ⟨bt 5 (.ow 56 :: bt 22 []), [(56, .arr 3 1 (o6.map c3))]⟩) ?_ ?_
  ·clear h
   refine V_block (V_loop (fun n s => ∃ (b3 : Int) (l4 : List Int), s.keep (mb 28 99) [56] = (⟨I d1 :: I vn2 :: bt 3 (.ow 56 :: I b3 :: bt 21 []), [(56, .arr 3 1 (l4.map c3))]⟩ : St) ∧ r_impl_rootsOfDiscriminant_L5 d1 vn2 n b3 l4 = some o6) FU ⟨_, _,  by rfl, hLo6⟩ ?_)
   clear hLo6
   rintro n s ⟨b3, l4, hs, h⟩
   refine V_keep _ _ hs ?_
   clear hs
   cases n with
   | zero => cases h
   | succ n =>
    rw [r_impl_rootsOfDiscriminant_L5] at h
    refine V_seq ?_
    refine V_sreg (mb 28 2147) [56] (s1 := ⟨I d1 :: I vn2 :: bt 3 (.ow 56 :: I b3 :: bt 4 (Bo (ltI b3 (w64 (2 * vn2))) :: bt 16 [])), [(56, .arr 3 1 (l4.map c3))]⟩) ?_ ?_
    ·refine L0 rfl rfl (E_move (I b3) rfl (by kernel_rfl)) ?_
     refine L0 rfl rfl (E_move (I vn2) rfl (by kernel_rfl)) ?_
     refine L0 rfl rfl (Y0_mul64 (a := 2) (b := vn2) rfl (by kernel_rfl) (by kernel_rfl)) ?_
     refine L0 rfl rfl (Y0_ltw (k := .i64) (a := b3) (b := w64 (2 * vn2)) rfl (by kernel_rfl) (by kernel_rfl)) ?_
     refine XL_nil ?_
     kernel_rfl
    refine V_cond rfl (fun hc7 => ?_) (fun hc7 => ?_)
    ·have h := of_true h hc7
     refine V_skip ?_
     show V _ _ _ _
     refine V_seq ?_
     refine V_block ?_
     obtain ⟨z8, hz8, h⟩ := of_bind h
     obtain ⟨t9, ht9, h⟩ := of_bind h
     have ht9 := some_inj ht9
     refine V_sreg (mb 28 4194403) [56] (s1 := ⟨I d1 :: I vn2 :: bt 3 (.ow 56 :: I b3 :: bt 15 (Bo t9 :: bt 5 [])), [(56, .arr 3 1 (l4.map c3))]⟩) ?_ ?_
     ·refine L0 rfl rfl (E_move (I b3) rfl (by kernel_rfl)) ?_
      refine L0 rfl rfl (E_move (I b3) rfl (by kernel_rfl)) ?_
      refine L0 rfl rfl (Y0_mul64 (a := b3) (b := b3) rfl (by kernel_rfl) (by kernel_rfl)) ?_
      refine L0 rfl rfl (E_move (I d1) rfl (by kernel_rfl)) ?_
      refine L0 rfl rfl (Y0_sub64 (a := w64 (b3 * b3)) (b := d1) rfl (by kernel_rfl) (by kernel_rfl)) ?_
      refine L0 rfl rfl (E_move (I vn2) rfl (by kernel_rfl)) ?_
      refine L0 rfl rfl (Y0_mul64 (a := 4) (b := vn2) rfl (by kernel_rfl) (by kernel_rfl)) ?_
      refine L0 rfl rfl (Y0_rem (k := .i64) (a := w64 ((w64 (b3 * b3)) - d1)) (b := w64 (4 * vn2)) rfl (by kernel_rfl) (by kernel_rfl) (nz_some hz8)) ?_
      refine L0 rfl rfl (Y0_eqw (k := .i64) (a := Int.tmod (w64 ((w64 (b3 * b3)) - d1)) (w64 (4 * vn2))) (b := 0) rfl (by kernel_rfl) (by kernel_rfl)) ?_
      refine XL_nil ?_
      subst ht9
      kernel_rfl
     refine V_cond rfl (fun hc10 => ?_) (fun hc10 => ?_)
     ·have h := of_true h hc10
      obtain ⟨u11, hu11, h⟩ := of_bind h
      refine V_reg (mb 28 99) [56] (s1 := ⟨I d1 :: I vn2 :: bt 3 (.ow 56 :: I b3 :: bt 21 []), [(56, .arr 3 1 ((l4 ++ ([b3])).map c3))]⟩) ?_ ?_
      ·refine L0 rfl rfl (E_move (.ow 56) rfl (by kernel_rfl)) ?_
       refine L0 rfl rfl (E_move (I b3) rfl (by kernel_rfl)) ?_
       refine L1 rfl rfl (Y1_bslice (z := zv3) (els := [b3].map c3) Try.underlying41 iz3 rfl (by decide) rfl (by kernel_rfl) rfl (by simp [c3]) (by decide) (by decide)) ?_
       refine XL_cons rfl (X_appendM (c := c3) (xs := l4) (ys := [b3]) (id := 56) (z := zv3) rfl rfl Try.underlying41 izb3 rfl (by kernel_rfl) (by kernel_rfl) (by kernel_rfl) (fun _ => rfl) (by simp) (room_some hu11) (by decide)) ?_
       refine L0 rfl rfl (E_assign (.ow 56) rfl (by kernel_rfl)) ?_
       refine XL_nil ?_
       kernel_rfl
      show V _ _ _ _
      obtain ⟨b12, hb12, h⟩ := of_sI h
      refine V_reg (mb 28 99) [56] (s1 := ⟨I d1 :: I vn2 :: bt 3 (.ow 56 :: I b12 :: bt 21 []), [(56, .arr 3 1 ((l4 ++ ([b3])).map c3))]⟩) ?_ ?_
      ·refine L0 rfl rfl (E_move (I b3) rfl (by kernel_rfl)) ?_
       refine L0 rfl rfl (Y0_add64 (a := b3) (b := 1) rfl (by kernel_rfl) (by kernel_rfl)) ?_
       refine L0 rfl rfl (E_assign (I (w64 (b3 + 1))) rfl (by kernel_rfl)) ?_
       refine XL_nil ?_
       subst hb12
       kernel_rfl
      exact ⟨n, Nat.lt_succ_self n, _, _,  by rfl, h⟩
     ·have h := of_false h hc10
      refine V_skip ?_
      show V _ _ _ _
      obtain ⟨b13, hb13, h⟩ := of_sI h
      refine V_reg (mb 28 99) [56] (s1 := ⟨I d1 :: I vn2 :: bt 3 (.ow 56 :: I b13 :: bt 21 []), [(56, .arr 3 1 (l4.map c3))]⟩) ?_ ?_
      ·refine L0 rfl rfl (E_move (I b3) rfl (by kernel_rfl)) ?_
       refine L0 rfl rfl (Y0_add64 (a := b3) (b := 1) rfl (by kernel_rfl) (by kernel_rfl)) ?_
       refine L0 rfl rfl (E_assign (I (w64 (b3 + 1))) rfl (by kernel_rfl)) ?_
       refine XL_nil ?_
       subst hb13
       kernel_rfl
      exact ⟨n, Nat.lt_succ_self n, _, _,  by rfl, h⟩
    ·have h := of_false h hc7
     refine V_exit ?_
     obtain rfl := some_inj h
     show St.keep _ _ _ = _
     rfl
  show V _ _ _ _
  refine V_sreg (mb 28 16) [56] (s1 := ⟨bt 4 (.ow 56 :: bt 23 []), [(56, .arr 3 1 (o6.map c3))]⟩) ?_ ?_
  ·refine L0 rfl rfl (E_move (.ow 56) rfl (by kernel_rfl)) ?_
   refine L0 rfl rfl (E_assign (.ow 56) rfl (by kernel_rfl)) ?_
   refine XL_nil ?_
   kernel_rfl
  refine V_ret ?_
  obtain rfl := some_inj h
  show Post _ _ _ _ _
  exact ⟨.inr rfl, rfl, rfl, rfl⟩
theorem cf_impl_RootsOfDiscriminant : ∀ args w, (callFunc 28 args).run Try.prog w = .ok (.enter 28 args) w := run_callFunc Try.func28 (by kernel_rfl) (by kernel_rfl)
set_option maxRecDepth 100000 in
set_option maxHeartbeats 400000 in
theorem s_impl_RootsOfDiscriminant {d1 : Int} {vn2 : Int} {r : ((List Int) × Bool)} (h : r_impl_RootsOfDiscriminant d1 vn2 = some r) : CallS Try.prog 28 [I d1, I vn2] (.tc (.ow 0) (.tc (Bo r.2) .tn)) [(0, .arr 3 1 (r.1.map c3))] := by
  refine CallS_of_text (rs := [.t 4, .t 5]) (vs := [.tmp 4, .tmp 5]) Try.func28 rfl rfl (.cons rfl (.cons rfl FitsL.nil)) (by decide) 22 rfl ?_
  unfold r_impl_RootsOfDiscriminant at h
  show V _ _ ⟨I d1 :: I vn2 :: bt 20 [], []⟩ _
  refine V_sreg (mb 22 3) [] (s1 := ⟨I d1 :: I vn2 :: bt 20 [], []⟩) ?_ ?_
  ·refine L1 rfl rfl (Y1_nil (e := 3) 1 (by decide) (.inl rfl)) ?_
   refine L0 rfl rfl (E_assign (Bo false) rfl (by kernel_rfl)) ?_
   refine XL_nil ?_
   kernel_rfl
  refine V_seq ?_
  obtain ⟨y3, hy3, h⟩ := of_bind h
  obtain ⟨t6, ht6, h⟩ := of_bind h
  have ht6 := some_inj ht6
  refine V_sreg (mb 22 131075) [] (s1 := ⟨I d1 :: I vn2 :: bt 15 (Bo t6 :: bt 4 []), []⟩) ?_ ?_
  ·refine L0 rfl rfl (E_move (I d1) rfl (by kernel_rfl)) ?_
   refine L1 rfl rfl (Y1_bslice (z := zv3) (els := [d1].map c3) Try.underlying41 iz3 rfl (by decide) rfl (by kernel_rfl) rfl (by simp [c3]) (by decide) (by decide)) ?_
   refine L1 rfl rfl (Y1_callS (s_impl_areNumbers hy3) cf_impl_areNumbers rfl (by kernel_rfl) rfl rfl) ?_
   refine L0 rfl rfl (Y0_not (b := y3) rfl (by kernel_rfl)) ?_
   refine L0 rfl rfl (E_move (Bo (!y3)) rfl (by kernel_rfl)) ?_
   refine XL_split (!y3) (fun hc4 => ?_) (fun hc4 => ?_)
   ·refine XL_skipF _ rfl rfl (by kernel_rfl) hc4 rfl ?_
    refine XL_skipF _ rfl rfl (by kernel_rfl) hc4 rfl ?_
    refine XL_cons rfl (X_of_Y0 rfl (Y0_pick1 (b := !y3) (p := true) (q := ltI vn2 1) rfl (by kernel_rfl) hc4 (by kernel_rfl))) ?_
    refine L0 rfl rfl (E_move (Bo (bif (!y3) then true else (ltI vn2 1))) rfl (by kernel_rfl)) ?_
    refine XL_split (bif (!y3) then true else (ltI vn2 1)) (fun hc5 => ?_) (fun hc5 => ?_)
    ·refine XL_skipF _ rfl rfl (by kernel_rfl) hc5 rfl ?_
     refine XL_skipF _ rfl rfl (by kernel_rfl) hc5 rfl ?_
     refine XL_cons rfl (X_of_Y0 rfl (Y0_pick1 (b := bif (!y3) then true else (ltI vn2 1)) (p := true) (q := ltI 2500 vn2) rfl (by kernel_rfl) hc5 (by kernel_rfl))) ?_
     refine XL_nil ?_
     subst ht6
     kernel_rfl
    ·refine XL_takeC _ rfl rfl (by kernel_rfl) hc5 (X_of_Y0 rfl (E_move (I vn2) rfl (by kernel_rfl))) ?_
     refine XL_takeC _ rfl rfl (by kernel_rfl) hc5 (X_of_Y0 rfl (Y0_gtw (k := .i64) (a := vn2) (b := 2500) rfl (by kernel_rfl) (by kernel_rfl))) ?_
     refine XL_cons rfl (X_of_Y0 rfl (Y0_pick0 (b := bif (!y3) then true else (ltI vn2 1)) (p := true) (q := ltI 2500 vn2) rfl (by kernel_rfl) hc5 (by kernel_rfl))) ?_
     refine XL_nil ?_
     subst ht6
     kernel_rfl
   ·refine XL_takeC _ rfl rfl (by kernel_rfl) hc4 (X_of_Y0 rfl (E_move (I vn2) rfl (by kernel_rfl))) ?_
    refine XL_takeC _ rfl rfl (by kernel_rfl) hc4 (X_of_Y0 rfl (Y0_ltw (k := .i64) (a := vn2) (b := 1) rfl (by kernel_rfl) (by kernel_rfl))) ?_
    refine XL_cons rfl (X_of_Y0 rfl (Y0_pick0 (b := !y3) (p := true) (q := ltI vn2 1) rfl (by kernel_rfl) hc4 (by kernel_rfl))) ?_
    refine L0 rfl rfl (E_move (Bo (bif (!y3) then true else (ltI vn2 1))) rfl (by kernel_rfl)) ?_
    refine XL_split (bif (!y3) then true else (ltI vn2 1)) (fun hc5 => ?_) (fun hc5 => ?_)
    ·refine XL_skipF _ rfl rfl (by kernel_rfl) hc5 rfl ?_
     refine XL_skipF _ rfl rfl (by kernel_rfl) hc5 rfl ?_
     refine XL_cons rfl (X_of_Y0 rfl (Y0_pick1 (b := bif (!y3) then true else (ltI vn2 1)) (p := true) (q := ltI 2500 vn2) rfl (by kernel_rfl) hc5 (by kernel_rfl))) ?_
     refine XL_nil ?_
     subst ht6
     kernel_rfl
    ·refine XL_takeC _ rfl rfl (by kernel_rfl) hc5 (X_of_Y0 rfl (E_move (I vn2) rfl (by kernel_rfl))) ?_
     refine XL_takeC _ rfl rfl (by kernel_rfl) hc5 (X_of_Y0 rfl (Y0_gtw (k := .i64) (a := vn2) (b := 2500) rfl (by kernel_rfl) (by kernel_rfl))) ?_
     refine XL_cons rfl (X_of_Y0 rfl (Y0_pick0 (b := bif (!y3) then true else (ltI vn2 1)) (p := true) (q := ltI 2500 vn2) rfl (by kernel_rfl) hc5 (by kernel_rfl))) ?_
     refine XL_nil ?_
     subst ht6
     kernel_rfl
  refine V_cond rfl (fun hc7 => ?_) (fun hc7 => ?_)
  ·have h := of_true h hc7
   refine V_sreg (mb 22 48) [144] (s1 := ⟨bt 4 (.ow 144 :: Bo false :: bt 16 []), [(144, .arr 3 1 ((([] : List Int)).map c3))]⟩) ?_ ?_
   ·refine L1 rfl rfl (Y1_bslice0 Try.underlying41 sz3 (by decide) rfl rfl) ?_
    refine L0 rfl rfl (E_assign (.ow 144) rfl (by kernel_rfl)) ?_
    refine L0 rfl rfl (E_assign (Bo false) rfl (by kernel_rfl)) ?_
    refine XL_nil ?_
    kernel_rfl
   refine V_ret ?_
   obtain rfl := some_inj h
   show Post _ _ _ _ _
   exact ⟨.inr rfl, rfl, rfl, rfl⟩
  ·have h := of_false h hc7
   refine V_skip ?_
   show V _ _ _ _
   obtain ⟨y8, hy8, h⟩ := of_bind h
   refine V_sreg (mb 22 48) [168] (s1 := ⟨bt 4 (.ow 168 :: Bo true :: bt 16 []), [(168, .arr 3 1 (y8.map c3))]⟩) ?_ ?_
   ·refine L0 rfl rfl (E_move (I d1) rfl (by kernel_rfl)) ?_
    refine L0 rfl rfl (E_move (I vn2) rfl (by kernel_rfl)) ?_
    refine L1 rfl rfl (Y1_call (s_impl_rootsOfDiscriminant hy8) cf_impl_rootsOfDiscriminant rfl (by kernel_rfl)) ?_
    refine L0 rfl rfl (E_assign (.ow 168) rfl (by kernel_rfl)) ?_
    refine L0 rfl rfl (E_assign (Bo true) rfl (by kernel_rfl)) ?_
    refine XL_nil ?_
    kernel_rfl
   refine V_ret ?_
   obtain rfl := some_inj h
   show Post _ _ _ _ _
   exact ⟨.inr rfl, rfl, rfl, rfl⟩
end Go.Proofs.Ytgeajejmikaniaa
