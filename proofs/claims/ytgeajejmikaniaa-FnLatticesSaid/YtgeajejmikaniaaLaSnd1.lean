/-
  The functions of the program compute what the plain functions say.
  Conditions: none.
-/
import Derived.Test.YtgeajejmikaniaaShZ
import Derived.Test.YtgeajejmikaniaaLaRaw
import Derived.Test.YtgeajejmikaniaaRows
namespace Go.Proofs.Ytgeajejmikaniaa
open Go.RowKit
set_option linter.unusedVariables false
set_option linter.unusedSimpArgs false
def c5 (x : Int) : List Tr := [.v (.int .u8 x)]
def c3 (x : Int) : List Tr := [Ti x]
def c123 (x : (Int × Int)) : List Tr := [Ti x.1, Ti x.2]
def c34 (x : (Int × Int)) : List Tr := [Ti x.1, Ti x.2]
def zv3 : Value := .int .i64 0
theorem zf3 : (Try.prog.info? 3).bind (·.zero) = some zv3 := by kernel_rfl
def zv25 : Value := .agg #[.int .i64 0, .int .i64 0, .int .i64 0]
theorem zf25 : (Try.prog.info? 25).bind (·.zero) = some zv25 := by kernel_rfl
def zv34 : Value := .agg #[.int .i64 0, .int .i64 0]
theorem zf34 : (Try.prog.info? 34).bind (·.zero) = some zv34 := by kernel_rfl
def zv123 : Value := .agg #[.int .i64 0, .int .i64 0]
theorem zf123 : (Try.prog.info? 123).bind (·.zero) = some zv123 := by kernel_rfl
theorem iz3 : (Try.prog.info? 3).map (fun i => (i.zero, i.size)) = some (some zv3, 1) := by kernel_rfl
theorem iz34 : (Try.prog.info? 34).map (fun i => (i.zero, i.size)) = some (some zv34, 2) := by kernel_rfl
theorem iz123 : (Try.prog.info? 123).map (fun i => (i.zero, i.size)) = some (some zv123, 2) := by kernel_rfl
theorem izb34 : (Try.prog.info? 34).map (fun i => (i.zero, i.size, i.bytes)) = some (some zv34, 2, 16) := by kernel_rfl
theorem izb123 : (Try.prog.info? 123).map (fun i => (i.zero, i.size, i.bytes)) = some (some zv123, 2, 16) := by kernel_rfl
theorem sc3 : scalar Try.prog 3 := ⟨_, Try.underlying3, rfl⟩
theorem sc5 : scalar Try.prog 5 := ⟨_, Try.underlying5, rfl⟩
theorem sc22 : scalar Try.prog 22 := ⟨_, Try.underlying22, rfl⟩
theorem sc96 : scalar Try.prog 96 := ⟨_, Try.underlying96, rfl⟩
theorem sz3 : (Try.prog.info? 3).map (·.size) = some 1 := by kernel_rfl
theorem sz5 : (Try.prog.info? 5).map (·.size) = some 1 := by kernel_rfl
theorem sz22 : (Try.prog.info? 22).map (·.size) = some 1 := by kernel_rfl
theorem sz25 : (Try.prog.info? 25).map (·.size) = some 3 := by kernel_rfl
theorem sz34 : (Try.prog.info? 34).map (·.size) = some 2 := by kernel_rfl
theorem sz96 : (Try.prog.info? 96).map (·.size) = some 1 := by kernel_rfl
theorem sz123 : (Try.prog.info? 123).map (·.size) = some 2 := by kernel_rfl
theorem wd25 : wide Try.prog 25 3 := ⟨⟨_, Try.underlying25, rfl⟩, by kernel_rfl⟩
theorem wd34 : wide Try.prog 34 2 := ⟨⟨_, Try.underlying34, rfl⟩, by kernel_rfl⟩
theorem wd123 : wide Try.prog 123 2 := ⟨⟨_, Try.underlying123, rfl⟩, by kernel_rfl⟩
def pl25 : Nat → Option (Nat × Nat) := fun i => (#[(0, 1), (1, 1), (2, 1)] : Array (Nat × Nat))[i]?
theorem bt25 : ∀ ps, Try.prog.built 25 ps = Instr.fill pl25 #[.int .i64 0, .int .i64 0, .int .i64 0] ps := fun ps => by kernel_rfl
def pl34 : Nat → Option (Nat × Nat) := fun i => (#[(0, 1), (1, 1)] : Array (Nat × Nat))[i]?
theorem bt34 : ∀ ps, Try.prog.built 34 ps = Instr.fill pl34 #[.int .i64 0, .int .i64 0] ps := fun ps => by kernel_rfl
def pl98 : Nat → Option (Nat × Nat) := fun i => (#[(0, 1), (1, 1), (2, 1)] : Array (Nat × Nat))[i]?
theorem bt98 : ∀ ps, Try.prog.built 98 ps = Instr.fill pl98 #[.slice none 0 0, .int .i64 0, .int .u64 0] ps := fun ps => by kernel_rfl
def pl123 : Nat → Option (Nat × Nat) := fun i => some (i * 1, 1)
theorem bt123 : ∀ ps, Try.prog.built 123 ps = Instr.fill pl123 #[.int .i64 0, .int .i64 0] ps := fun ps => by kernel_rfl
theorem eqg25 : EqAg3 Try.prog .eql 25 := by
  intro a0 a1 a2 b0 b1 b2 x y w
  have hg : (eqGuard .eql 25 x y (.agg #[.int .i64 a0, .int .i64 a1, .int .i64 a2]) (.agg #[.int .i64 b0, .int .i64 b1, .int .i64 b2])).run Try.prog w = .ok () w := by simp [eqGuard, (by kernel_rfl : Try.prog.eqGuardType Try.prog.depth 25 = false)]
  have hf : (Try.prog.fieldsOf 25).toList = (match Try.prog.underlying 25 with | some (.struct fs) => fs.toList | _ => []) := by kernel_rfl
  refine ⟨hg, ?_⟩
  rw [run_eql_struct, run_equalIn_agg (d := 9999) (ht := by kernel_rfl) (hp := by kernel_rfl), hf, Try.underlying25]
  by_cases h0 : a0 = b0 <;> by_cases h1 : a1 = b1 <;> by_cases h2 : a2 = b2 <;> simp [Op.eqFields, part, go_sem, h0, h1, h2]
theorem neg25 : EqAg3 Try.prog .neq 25 := by
  intro a0 a1 a2 b0 b1 b2 x y w
  have hg : (eqGuard .neq 25 x y (.agg #[.int .i64 a0, .int .i64 a1, .int .i64 a2]) (.agg #[.int .i64 b0, .int .i64 b1, .int .i64 b2])).run Try.prog w = .ok () w := by simp [eqGuard, (by kernel_rfl : Try.prog.eqGuardType Try.prog.depth 25 = false)]
  have hf : (Try.prog.fieldsOf 25).toList = (match Try.prog.underlying 25 with | some (.struct fs) => fs.toList | _ => []) := by kernel_rfl
  refine ⟨hg, ?_⟩
  rw [run_neq_struct, run_equalIn_agg (d := 9999) (ht := by kernel_rfl) (hp := by kernel_rfl), hf, Try.underlying25]
  by_cases h0 : a0 = b0 <;> by_cases h1 : a1 = b1 <;> by_cases h2 : a2 = b2 <;> simp [Op.eqFields, part, go_sem, h0, h1, h2]
theorem cf_laws_big : ∀ args w, (callFunc 8 args).run Try.prog w = .ok (.enter 8 args) w := run_callFunc Try.func8 (by kernel_rfl) (by kernel_rfl)
set_option maxRecDepth 100000 in
set_option maxHeartbeats 400000 in
theorem s_laws_big {code1 : List Int} {more2 : List Int} {r : Bool} (h : r_laws_big code1 more2 = some r) : CallS Try.prog 8 [.c (.sl (code1.map c5)), .c (.sl (more2.map c5))] (Bo r) [] := by
  refine CallS_of_text (rs := [.t 4]) (vs := [.tmp 4]) Try.func8 rfl rfl (.cons rfl FitsL.nil) (by decide) 16 rfl ?_
  unfold r_laws_big at h
  show V _ _ ⟨.c (.sl (code1.map c5)) :: .c (.sl (more2.map c5)) :: bt 14 [], []⟩ _
  refine V_sreg (mb 16 3) [] (s1 := ⟨.c (.sl (code1.map c5)) :: .c (.sl (more2.map c5)) :: bt 14 [], []⟩) ?_ ?_
  ·refine L0 rfl rfl (E_assign (Bo false) rfl (by kernel_rfl)) ?_
   refine XL_nil ?_
   kernel_rfl
  obtain ⟨t4, ht4, h⟩ := of_bind h
  have ht4 := some_inj ht4
  refine V_sreg (mb 16 16) [] (s1 := ⟨bt 4 (Bo t4 :: bt 11 []), []⟩) ?_ ?_
  ·refine L0 rfl rfl (E_move (.c (.sl (code1.map c5))) rfl (by kernel_rfl)) ?_
   refine L0 rfl rfl (Y0_lenM (c := c5) (xs := code1) Try.underlying22 rfl (by kernel_rfl)) ?_
   refine L0 rfl rfl (Y0_gtw (k := .i64) (a := (code1.length : Int)) (b := 1048576) rfl (by kernel_rfl) (by kernel_rfl)) ?_
   refine L0 rfl rfl (E_move (Bo (ltI 1048576 ((code1.length : Int)))) rfl (by kernel_rfl)) ?_
   refine XL_split (ltI 1048576 ((code1.length : Int))) (fun hc3 => ?_) (fun hc3 => ?_)
   ·refine XL_skipF _ rfl rfl (by kernel_rfl) hc3 rfl ?_
    refine XL_skipF _ rfl rfl (by kernel_rfl) hc3 rfl ?_
    refine XL_skipF _ rfl rfl (by kernel_rfl) hc3 rfl ?_
    refine XL_skipF _ rfl rfl (by kernel_rfl) hc3 rfl ?_
    refine XL_skipF _ rfl rfl (by kernel_rfl) hc3 rfl ?_
    refine XL_skipF _ rfl rfl (by kernel_rfl) hc3 rfl ?_
    refine XL_cons rfl (X_of_Y0 rfl (Y0_pick1 (b := ltI 1048576 ((code1.length : Int))) (p := true) (q := ltI (w64 (1048576 - ((code1.length : Int)))) ((more2.length : Int))) rfl (by kernel_rfl) hc3 (by kernel_rfl))) ?_
    refine L0 rfl rfl (E_assign (Bo (bif (ltI 1048576 ((code1.length : Int))) then true else (ltI (w64 (1048576 - ((code1.length : Int)))) ((more2.length : Int))))) rfl (by kernel_rfl)) ?_
    refine XL_nil ?_
    subst ht4
    kernel_rfl
   ·refine XL_takeC _ rfl rfl (by kernel_rfl) hc3 (X_of_Y0 rfl (E_move (.c (.sl (more2.map c5))) rfl (by kernel_rfl))) ?_
    refine XL_takeC _ rfl rfl (by kernel_rfl) hc3 (X_of_Y0 rfl (Y0_lenM (c := c5) (xs := more2) Try.underlying22 rfl (by kernel_rfl))) ?_
    refine XL_takeC _ rfl rfl (by kernel_rfl) hc3 (X_of_Y0 rfl (E_move (.c (.sl (code1.map c5))) rfl (by kernel_rfl))) ?_
    refine XL_takeC _ rfl rfl (by kernel_rfl) hc3 (X_of_Y0 rfl (Y0_lenM (c := c5) (xs := code1) Try.underlying22 rfl (by kernel_rfl))) ?_
    refine XL_takeC _ rfl rfl (by kernel_rfl) hc3 (X_of_Y0 rfl (Y0_sub64 (a := 1048576) (b := (code1.length : Int)) rfl (by kernel_rfl) (by kernel_rfl))) ?_
    refine XL_takeC _ rfl rfl (by kernel_rfl) hc3 (X_of_Y0 rfl (Y0_gtw (k := .i64) (a := (more2.length : Int)) (b := w64 (1048576 - ((code1.length : Int)))) rfl (by kernel_rfl) (by kernel_rfl))) ?_
    refine XL_cons rfl (X_of_Y0 rfl (Y0_pick0 (b := ltI 1048576 ((code1.length : Int))) (p := true) (q := ltI (w64 (1048576 - ((code1.length : Int)))) ((more2.length : Int))) rfl (by kernel_rfl) hc3 (by kernel_rfl))) ?_
    refine L0 rfl rfl (E_assign (Bo (bif (ltI 1048576 ((code1.length : Int))) then true else (ltI (w64 (1048576 - ((code1.length : Int)))) ((more2.length : Int))))) rfl (by kernel_rfl)) ?_
    refine XL_nil ?_
    subst ht4
    kernel_rfl
  refine V_ret ?_
  obtain rfl := some_inj h
  show Post _ _ _ _ _
  exact ⟨.inr rfl, rfl, rfl, rfl⟩
theorem cf_spec_l1Cur_next : ∀ args w, (callFunc 175 args).run Try.prog w = .ok (.enter 175 args) w := run_callFunc Try.func175 (by kernel_rfl) (by kernel_rfl)
set_option maxRecDepth 100000 in
set_option maxHeartbeats 400000 in
theorem s_spec_l1Cur_next {c1 : ((List Int) × Int × Int)} {r : (Int × (((List Int) × Int × Int)))} (h : r_spec_l1Cur_next c1 = some r) : CallR Try.prog 175 [.pt 80000 0] [(80000, .box [.sl (c1.1.map c5), Ti c1.2.1, .v (.int .u64 c1.2.2)])] (I r.1) [] [(80000, .box [.sl (r.2.1.map c5), Ti r.2.2.1, .v (.int .u64 r.2.2.2)])] := by
  refine CallR_of_text (rs := [.t 2]) (vs := [.tmp 2]) Try.func175 rfl rfl (.cons rfl FitsL.nil) (by decide) 62 rfl rfl fun σ => ?_
  unfold r_spec_l1Cur_next at h
  show V _ _ ⟨.pt 80000 0 :: bt 61 [], [(80000, .pbox (σ 80000) [.sl (c1.1.map c5), Ti c1.2.1, .v (.int .u64 c1.2.2)])]⟩ _
  refine V_sreg (mb 62 1) [80000] (s1 := ⟨.pt 80000 0 :: bt 61 [], [(80000, .pbox (σ 80000) [.sl (c1.1.map c5), Ti c1.2.1, .v (.int .u64 c1.2.2)])]⟩) ?_ ?_
  ·refine L0 rfl rfl (E_assign (I 0) rfl (by kernel_rfl)) ?_
   refine XL_nil ?_
   kernel_rfl
  refine V_sreg (mb 62 9) [80000] (s1 := ⟨.pt 80000 0 :: .bot :: .bot :: I 0 :: bt 58 [], [(80000, .pbox (σ 80000) [.sl (c1.1.map c5), Ti c1.2.1, .v (.int .u64 c1.2.2)])]⟩) ?_ ?_
  ·refine L0 rfl rfl (E_assign (I 0) rfl (by kernel_rfl)) ?_
   refine XL_nil ?_
   kernel_rfl
  obtain ⟨j2, hj2, h⟩ := of_bind h
  refine V_cutK (mb 62 9) [80000] (s1 := ⟨.pt 80000 0 :: .bot :: .bot :: I j2 :: bt 58 [], [(80000, .pbox (σ 80000) [.sl (c1.1.map c5), Ti c1.2.1, .v (.int .u64 c1.2.2)])]⟩) ?_ ?_
  ·clear h
   have h := hj2
   clear hj2
   refine V_sdreg [0, 1, 3, 7, 0, 16, 48, 112, 240, 511] 10 [[.z, .z, .z, .z, .b, .b, .b, .b, .b, .z], [.a, .z, .z, .z, .b, .b, .b, .b, .b, .z], [.a, .a, .z, .z, .b, .b, .b, .b, .b, .z], [.a, .a, .a, .z, .b, .b, .b, .b, .b, .z], [.b, .b, .b, .b, .z, .z, .z, .z, .z, .z], [.b, .b, .b, .b, .a, .z, .z, .z, .z, .z], [.b, .b, .b, .b, .a, .a, .z, .z, .z, .z], [.b, .b, .b, .b, .a, .a, .a, .z, .z, .z], [.b, .b, .b, .b, .a, .a, .a, .a, .z, .z], [.a, .a, .a, .a, .a, .a, .a, .a, .a, .z]] (mb 62 8201) [80000] (s1 := ⟨.pt 80000 0 :: .bot :: .bot :: I 0 :: bt 9 (Bo (ltI c1.2.1 ((c1.1.length : Int))) :: bt 48 []), [(80000, .pbox (σ 80000) [.sl (c1.1.map c5), Ti c1.2.1, .v (.int .u64 c1.2.2)])]⟩) (by kernel_rfl) (by kernel_rfl) ?_ ?_
   ·refine DE_0 0 (.pt 80000 0) (by kernel_rfl) rfl rfl rfl (gsat_none rfl) (by kernel_rfl) (E_move (.pt 80000 0) rfl (by kernel_rfl)) 4 rfl ?_
    refine DE_0 1 (.pt 80000 0) (by kernel_rfl) rfl rfl rfl (gsat_none rfl) (by kernel_rfl) (E_nil (.pt 80000 0) rfl (by kernel_rfl) (by intro hh; cases hh)) 5 rfl ?_
    refine DE_0 2 (.pt 80000 1) (by kernel_rfl) rfl rfl rfl (gsat_none rfl) (by kernel_rfl) (E_field (.pt 80000 1) Try.underlying98 rfl sz3 rfl (by kernel_rfl) (by intro hh; cases hh)) 6 rfl ?_
    refine DE_0 3 (I c1.2.1) (by kernel_rfl) rfl rfl rfl (gsat_none rfl) (by kernel_rfl) (Y0_load1 (c := Ti c1.2.1) (cs := [.v (.int .u64 c1.2.2)]) sc3 rfl (by kernel_rfl)) 7 rfl ?_
    refine DE_0 4 (.pt 80000 0) (by kernel_rfl) rfl rfl rfl (gsat_none rfl) (by kernel_rfl) (E_move (.pt 80000 0) rfl (by kernel_rfl)) 8 rfl ?_
    refine DE_0 5 (.pt 80000 0) (by kernel_rfl) rfl rfl rfl (gsat_none rfl) (by kernel_rfl) (E_nil (.pt 80000 0) rfl (by kernel_rfl) (by intro hh; cases hh)) 9 rfl ?_
    refine DE_0 6 (.pt 80000 0) (by kernel_rfl) rfl rfl rfl (gsat_none rfl) (by kernel_rfl) (E_field (.pt 80000 0) Try.underlying98 rfl sz22 rfl (by kernel_rfl) (by intro hh; cases hh)) 10 rfl ?_
    refine DE_0 7 (.c (.sl (c1.1.map c5))) (by kernel_rfl) rfl rfl rfl (gsat_none rfl) (by kernel_rfl) (Y0_load1 (c := .sl (c1.1.map c5)) (cs := [Ti c1.2.1, .v (.int .u64 c1.2.2)]) sc22 rfl (by kernel_rfl)) 11 rfl ?_
    refine DE_0 8 (I ((c1.1.length : Int))) (by kernel_rfl) rfl rfl rfl (gsat_none rfl) (by kernel_rfl) (Y0_lenM (c := c5) (xs := c1.1) Try.underlying22 rfl (by kernel_rfl)) 12 rfl ?_
    refine DE_0 9 (Bo (ltI c1.2.1 ((c1.1.length : Int)))) (by kernel_rfl) rfl rfl rfl (gsat_none rfl) (by kernel_rfl) (Y0_ltw (k := .i64) (a := c1.2.1) (b := (c1.1.length : Int)) rfl (by kernel_rfl) (by kernel_rfl)) 13 rfl ?_
    refine DL_nil (by kernel_rfl) ?_
    refine XL_nil ?_
    kernel_rfl
   refine V_cond rfl (fun hc3 => ?_) (fun hc3 => ?_)
   ·have h := of_true h hc3
    obtain ⟨e4, he4, h⟩ := of_bind h
    obtain ⟨b5, hb5, h⟩ := of_sI h
    refine V_dreg [0, 1, 3, 7, 0, 16, 48, 112, 255, 511, 1023, 2047] 12 [[.z, .z, .z, .z, .b, .b, .b, .b, .z, .z, .z, .z], [.a, .z, .z, .z, .b, .b, .b, .b, .z, .z, .z, .z], [.a, .a, .z, .z, .b, .b, .b, .b, .z, .z, .z, .z], [.a, .a, .a, .z, .b, .b, .b, .b, .z, .z, .z, .z], [.b, .b, .b, .b, .z, .z, .z, .z, .z, .z, .z, .z], [.b, .b, .b, .b, .a, .z, .z, .z, .z, .z, .z, .z], [.b, .b, .b, .b, .a, .a, .z, .z, .z, .z, .z, .z], [.b, .b, .b, .b, .a, .a, .a, .z, .z, .z, .z, .z], [.a, .a, .a, .a, .a, .a, .a, .a, .z, .z, .z, .z], [.a, .a, .a, .a, .a, .a, .a, .a, .a, .z, .z, .z], [.a, .a, .a, .a, .a, .a, .a, .a, .a, .a, .z, .z], [.a, .a, .a, .a, .a, .a, .a, .a, .a, .a, .a, .z]] (mb 62 9) [80000] (s1 := ⟨.pt 80000 0 :: .bot :: .bot :: I b5 :: bt 58 [], [(80000, .pbox (σ 80000) [.sl (c1.1.map c5), Ti c1.2.1, .v (.int .u64 c1.2.2)])]⟩) (by kernel_rfl) (by kernel_rfl) ?_ ?_
    ·refine DE_0 0 (.pt 80000 0) (by kernel_rfl) rfl rfl rfl (gsat_none rfl) (by kernel_rfl) (E_move (.pt 80000 0) rfl (by kernel_rfl)) 14 rfl ?_
     refine DE_0 1 (.pt 80000 0) (by kernel_rfl) rfl rfl rfl (gsat_none rfl) (by kernel_rfl) (E_nil (.pt 80000 0) rfl (by kernel_rfl) (by intro hh; cases hh)) 15 rfl ?_
     refine DE_0 2 (.pt 80000 0) (by kernel_rfl) rfl rfl rfl (gsat_none rfl) (by kernel_rfl) (E_field (.pt 80000 0) Try.underlying98 rfl sz22 rfl (by kernel_rfl) (by intro hh; cases hh)) 16 rfl ?_
     refine DE_0 3 (.c (.sl (c1.1.map c5))) (by kernel_rfl) rfl rfl rfl (gsat_none rfl) (by kernel_rfl) (Y0_load1 (c := .sl (c1.1.map c5)) (cs := [Ti c1.2.1, .v (.int .u64 c1.2.2)]) sc22 rfl (by kernel_rfl)) 17 rfl ?_
     refine DE_0 4 (.pt 80000 0) (by kernel_rfl) rfl rfl rfl (gsat_none rfl) (by kernel_rfl) (E_move (.pt 80000 0) rfl (by kernel_rfl)) 18 rfl ?_
     refine DE_0 5 (.pt 80000 0) (by kernel_rfl) rfl rfl rfl (gsat_none rfl) (by kernel_rfl) (E_nil (.pt 80000 0) rfl (by kernel_rfl) (by intro hh; cases hh)) 19 rfl ?_
     refine DE_0 6 (.pt 80000 1) (by kernel_rfl) rfl rfl rfl (gsat_none rfl) (by kernel_rfl) (E_field (.pt 80000 1) Try.underlying98 rfl sz3 rfl (by kernel_rfl) (by intro hh; cases hh)) 20 rfl ?_
     refine DE_0 7 (I c1.2.1) (by kernel_rfl) rfl rfl rfl (gsat_none rfl) (by kernel_rfl) (Y0_load1 (c := Ti c1.2.1) (cs := [.v (.int .u64 c1.2.2)]) sc3 rfl (by kernel_rfl)) 21 rfl ?_
     refine DE_0 8 (.pe [.v (.int .u8 e4)]) (by kernel_rfl) rfl rfl rfl (gsat_none rfl) (by kernel_rfl) (Y0_idxM (c := c5) (xs := c1.1) (v := e4) (n := c1.2.1) Try.underlying22 sz5 rfl (by kernel_rfl) (by kernel_rfl) he4) 22 rfl ?_
     refine DE_0 9 (.c (.v (.int .u8 e4))) (by kernel_rfl) rfl rfl rfl (gsat_none rfl) (by kernel_rfl) (Y0_load1 (c := .v (.int .u8 e4)) (cs := []) sc5 rfl (by kernel_rfl)) 23 rfl ?_
     refine DE_0 10 (I (IntKind.i64.wrap e4)) (by kernel_rfl) rfl rfl rfl (gsat_none rfl) (by kernel_rfl) (Y0_conv (k2 := .u8) (a := e4) Try.underlying5 Try.underlying3 rfl (by kernel_rfl)) 24 rfl ?_
     refine DE_0 11 (I (IntKind.i64.wrap e4)) (by kernel_rfl) rfl rfl rfl (gsat_none rfl) (by kernel_rfl) (E_assign (I (IntKind.i64.wrap e4)) rfl (by kernel_rfl)) 3 rfl ?_
     refine DL_nil (by kernel_rfl) ?_
     refine XL_nil ?_
     subst hb5
     kernel_rfl
    obtain rfl := some_inj h
    show St.keep _ _ _ = _
    rfl
   ·have h := of_false h hc3
    refine V_skip ?_
    obtain rfl := some_inj h
    show St.keep _ _ _ = _
    rfl
  obtain ⟨f6, hf6, h⟩ := of_sI h
  refine V_sreg (mb 62 9) [80000] (s1 := ⟨.pt 80000 0 :: .bot :: .bot :: I j2 :: bt 58 [], [(80000, .pbox (σ 80000) [.sl (c1.1.map c5), Ti f6, .v (.int .u64 c1.2.2)])]⟩) ?_ ?_
  ·refine L0 rfl rfl (E_move (.pt 80000 0) rfl (by kernel_rfl)) ?_
   refine L0 rfl rfl (E_nil (.pt 80000 0) rfl (by kernel_rfl) (by intro hh; cases hh)) ?_
   refine L0 rfl rfl (E_field (.pt 80000 1) Try.underlying98 rfl sz3 rfl (by kernel_rfl) (by intro hh; cases hh)) ?_
   refine L0 rfl rfl (Y0_load1 (c := Ti c1.2.1) (cs := [.v (.int .u64 c1.2.2)]) sc3 rfl (by kernel_rfl)) ?_
   refine L0 rfl rfl (Y0_add64 (a := c1.2.1) (b := 1) rfl (by kernel_rfl) (by kernel_rfl)) ?_
   refine L0 rfl rfl (E_nil (.pt 80000 0) rfl (by kernel_rfl) (by intro hh; cases hh)) ?_
   refine L0 rfl rfl (E_field (.pt 80000 1) Try.underlying98 rfl sz3 rfl (by kernel_rfl) (by intro hh; cases hh)) ?_
   refine XL_cons rfl (E_storep (l := σ 80000) (id := 80000) (off := 1) (cs := [.sl (c1.1.map c5), Ti c1.2.1, .v (.int .u64 c1.2.2)]) (vc := [Ti (w64 (c1.2.1 + 1))]) [.sl (c1.1.map c5), Ti (w64 (c1.2.1 + 1)), .v (.int .u64 c1.2.2)] rfl rfl (by kernel_rfl) (by kernel_rfl) (by kernel_rfl) sz3 (Nat.le_of_ble_eq_true rfl) (by kernel_rfl)) ?_
   refine XL_nil ?_
   subst hf6
   kernel_rfl
  obtain ⟨f7, hf7, h⟩ := of_sI h
  refine V_sreg (mb 62 9) [80000] (s1 := ⟨.pt 80000 0 :: .bot :: .bot :: I j2 :: bt 58 [], [(80000, .pbox (σ 80000) [.sl (c1.1.map c5), Ti f6, .v (.int .u64 f7)])]⟩) ?_ ?_
  ·refine L0 rfl rfl (E_move (.pt 80000 0) rfl (by kernel_rfl)) ?_
   refine L0 rfl rfl (E_move (.pt 80000 0) rfl (by kernel_rfl)) ?_
   refine L0 rfl rfl (E_nil (.pt 80000 0) rfl (by kernel_rfl) (by intro hh; cases hh)) ?_
   refine L0 rfl rfl (E_field (.pt 80000 2) Try.underlying98 rfl sz96 rfl (by kernel_rfl) (by intro hh; cases hh)) ?_
   refine L0 rfl rfl (Y0_load1 (c := .v (.int .u64 c1.2.2)) (cs := []) sc96 rfl (by kernel_rfl)) ?_
   refine L0 rfl rfl (Y0_mul (k := .u64) (a := c1.2.2) (b := 6364136223846793005) rfl (by kernel_rfl) (by kernel_rfl)) ?_
   refine L0 rfl rfl (E_move (I j2) rfl (by kernel_rfl)) ?_
   refine L0 rfl rfl (Y0_conv (k2 := .i64) (a := j2) Try.underlying3 Try.underlying96 rfl (by kernel_rfl)) ?_
   refine L0 rfl rfl (Y0_add (k := .u64) (a := IntKind.u64.wrap (c1.2.2 * 6364136223846793005)) (b := IntKind.u64.wrap j2) rfl (by kernel_rfl) (by kernel_rfl)) ?_
   refine L0 rfl rfl (Y0_add (k := .u64) (a := IntKind.u64.wrap ((IntKind.u64.wrap (c1.2.2 * 6364136223846793005)) + (IntKind.u64.wrap j2))) (b := 1442695040888963407) rfl (by kernel_rfl) (by kernel_rfl)) ?_
   refine L0 rfl rfl (E_nil (.pt 80000 0) rfl (by kernel_rfl) (by intro hh; cases hh)) ?_
   refine L0 rfl rfl (E_field (.pt 80000 2) Try.underlying98 rfl sz96 rfl (by kernel_rfl) (by intro hh; cases hh)) ?_
   refine XL_cons rfl (E_storep (l := σ 80000) (id := 80000) (off := 2) (cs := [.sl (c1.1.map c5), Ti f6, .v (.int .u64 c1.2.2)]) (vc := [.v (.int .u64 (IntKind.u64.wrap ((IntKind.u64.wrap ((IntKind.u64.wrap (c1.2.2 * 6364136223846793005)) + (IntKind.u64.wrap j2))) + 1442695040888963407)))]) [.sl (c1.1.map c5), Ti f6, .v (.int .u64 (IntKind.u64.wrap ((IntKind.u64.wrap ((IntKind.u64.wrap (c1.2.2 * 6364136223846793005)) + (IntKind.u64.wrap j2))) + 1442695040888963407)))] rfl rfl (by kernel_rfl) (by kernel_rfl) (by kernel_rfl) sz96 (Nat.le_of_ble_eq_true rfl) (by kernel_rfl)) ?_
   refine XL_nil ?_
   subst hf7
   kernel_rfl
  refine V_seq ?_
  refine V_sdreg [0, 1, 3, 7, 0, 16, 48, 112, 240, 511] 10 [[.z, .z, .z, .z, .b, .b, .b, .b, .b, .z], [.a, .z, .z, .z, .b, .b, .b, .b, .b, .z], [.a, .a, .z, .z, .b, .b, .b, .b, .b, .z], [.a, .a, .a, .z, .b, .b, .b, .b, .b, .z], [.b, .b, .b, .b, .z, .z, .z, .z, .z, .z], [.b, .b, .b, .b, .a, .z, .z, .z, .z, .z], [.b, .b, .b, .b, .a, .a, .z, .z, .z, .z], [.b, .b, .b, .b, .a, .a, .a, .z, .z, .z], [.b, .b, .b, .b, .a, .a, .a, .a, .z, .z], [.a, .a, .a, .a, .a, .a, .a, .a, .a, .z]] (mb 62 9007199254741001) [80000] (s1 := ⟨.pt 80000 0 :: .bot :: .bot :: I j2 :: bt 49 (Bo (leI f6 ((c1.1.length : Int))) :: bt 8 []), [(80000, .pbox (σ 80000) [.sl (c1.1.map c5), Ti f6, .v (.int .u64 f7)])]⟩) (by kernel_rfl) (by kernel_rfl) ?_ ?_
  ·refine DE_0 0 (.pt 80000 0) (by kernel_rfl) rfl rfl rfl (gsat_none rfl) (by kernel_rfl) (E_move (.pt 80000 0) rfl (by kernel_rfl)) 44 rfl ?_
   refine DE_0 1 (.pt 80000 0) (by kernel_rfl) rfl rfl rfl (gsat_none rfl) (by kernel_rfl) (E_nil (.pt 80000 0) rfl (by kernel_rfl) (by intro hh; cases hh)) 45 rfl ?_
   refine DE_0 2 (.pt 80000 1) (by kernel_rfl) rfl rfl rfl (gsat_none rfl) (by kernel_rfl) (E_field (.pt 80000 1) Try.underlying98 rfl sz3 rfl (by kernel_rfl) (by intro hh; cases hh)) 46 rfl ?_
   refine DE_0 3 (I f6) (by kernel_rfl) rfl rfl rfl (gsat_none rfl) (by kernel_rfl) (Y0_load1 (c := Ti f6) (cs := [.v (.int .u64 f7)]) sc3 rfl (by kernel_rfl)) 47 rfl ?_
   refine DE_0 4 (.pt 80000 0) (by kernel_rfl) rfl rfl rfl (gsat_none rfl) (by kernel_rfl) (E_move (.pt 80000 0) rfl (by kernel_rfl)) 48 rfl ?_
   refine DE_0 5 (.pt 80000 0) (by kernel_rfl) rfl rfl rfl (gsat_none rfl) (by kernel_rfl) (E_nil (.pt 80000 0) rfl (by kernel_rfl) (by intro hh; cases hh)) 49 rfl ?_
   refine DE_0 6 (.pt 80000 0) (by kernel_rfl) rfl rfl rfl (gsat_none rfl) (by kernel_rfl) (E_field (.pt 80000 0) Try.underlying98 rfl sz22 rfl (by kernel_rfl) (by intro hh; cases hh)) 50 rfl ?_
   refine DE_0 7 (.c (.sl (c1.1.map c5))) (by kernel_rfl) rfl rfl rfl (gsat_none rfl) (by kernel_rfl) (Y0_load1 (c := .sl (c1.1.map c5)) (cs := [Ti f6, .v (.int .u64 f7)]) sc22 rfl (by kernel_rfl)) 51 rfl ?_
   refine DE_0 8 (I ((c1.1.length : Int))) (by kernel_rfl) rfl rfl rfl (gsat_none rfl) (by kernel_rfl) (Y0_lenM (c := c5) (xs := c1.1) Try.underlying22 rfl (by kernel_rfl)) 52 rfl ?_
   refine DE_0 9 (Bo (leI f6 ((c1.1.length : Int)))) (by kernel_rfl) rfl rfl rfl (gsat_none rfl) (by kernel_rfl) (Y0_lew (k := .i64) (a := f6) (b := (c1.1.length : Int)) rfl (by kernel_rfl) (by kernel_rfl)) 53 rfl ?_
   refine DL_nil (by kernel_rfl) ?_
   refine XL_nil ?_
   kernel_rfl
  refine V_cond rfl (fun hc8 => ?_) (fun hc8 => ?_)
  ·have h := of_true h hc8
   refine V_sreg (mb 62 4) [80000] (s1 := ⟨.bot :: .bot :: I j2 :: bt 59 [], [(80000, .pbox (σ 80000) [.sl (c1.1.map c5), Ti f6, .v (.int .u64 f7)])]⟩) ?_ ?_
   ·refine L0 rfl rfl (E_move (I j2) rfl (by kernel_rfl)) ?_
    refine L0 rfl rfl (E_assign (I j2) rfl (by kernel_rfl)) ?_
    refine XL_nil ?_
    kernel_rfl
   refine V_ret ?_
   obtain rfl := some_inj h
   show PostR _ _ _ _ _ _
   exact ⟨⟨.inr rfl, rfl, rfl, rfl⟩, ⟨rfl, trivial⟩⟩
  ·have h := of_false h hc8
   refine V_skip ?_
   show V _ _ _ _
   obtain ⟨t9, ht9, h⟩ := of_sI h
   refine V_sreg (mb 62 4) [80000] (s1 := ⟨.bot :: .bot :: I t9 :: bt 59 [], [(80000, .pbox (σ 80000) [.sl (c1.1.map c5), Ti f6, .v (.int .u64 f7)])]⟩) ?_ ?_
   ·refine L0 rfl rfl (E_move (.pt 80000 0) rfl (by kernel_rfl)) ?_
    refine L0 rfl rfl (E_nil (.pt 80000 0) rfl (by kernel_rfl) (by intro hh; cases hh)) ?_
    refine L0 rfl rfl (E_field (.pt 80000 2) Try.underlying98 rfl sz96 rfl (by kernel_rfl) (by intro hh; cases hh)) ?_
    refine L0 rfl rfl (Y0_load1 (c := .v (.int .u64 f7)) (cs := []) sc96 rfl (by kernel_rfl)) ?_
    refine L0 rfl rfl (Y0_shr (k := .u64) (k2 := .u64) (a := f7) (b := 40) rfl (by kernel_rfl) (by kernel_rfl) (by decide)) ?_
    refine L0 rfl rfl (Y0_and (k := .u64) (a := shrI .u64 f7 40) (b := 255) rfl (by kernel_rfl) (by kernel_rfl)) ?_
    refine L0 rfl rfl (Y0_conv (k2 := .u64) (a := andI .u64 (shrI .u64 f7 40) 255) Try.underlying96 Try.underlying3 rfl (by kernel_rfl)) ?_
    refine L0 rfl rfl (E_assign (I (IntKind.i64.wrap (andI .u64 (shrI .u64 f7 40) 255))) rfl (by kernel_rfl)) ?_
    refine XL_nil ?_
    subst ht9
    kernel_rfl
   refine V_ret ?_
   obtain rfl := some_inj h
   show PostR _ _ _ _ _ _
   exact ⟨⟨.inr rfl, rfl, rfl, rfl⟩, ⟨rfl, trivial⟩⟩
theorem cf_spec_l1Cur_pick : ∀ args w, (callFunc 116 args).run Try.prog w = .ok (.enter 116 args) w := run_callFunc Try.func116 (by kernel_rfl) (by kernel_rfl)
set_option maxRecDepth 100000 in
set_option maxHeartbeats 400000 in
theorem s_spec_l1Cur_pick {c1 : ((List Int) × Int × Int)} {vn2 : Int} {r : (Int × (((List Int) × Int × Int)))} (h : r_spec_l1Cur_pick c1 vn2 = some r) : CallR Try.prog 116 [.pt 80000 0, I vn2] [(80000, .box [.sl (c1.1.map c5), Ti c1.2.1, .v (.int .u64 c1.2.2)])] (I r.1) [] [(80000, .box [.sl (r.2.1.map c5), Ti r.2.2.1, .v (.int .u64 r.2.2.2)])] := by
  refine CallR_of_text (rs := [.t 4]) (vs := [.tmp 4]) Try.func116 rfl rfl (.cons rfl FitsL.nil) (by decide) 20 rfl rfl fun σ => ?_
  unfold r_spec_l1Cur_pick at h
  show V _ _ ⟨.pt 80000 0 :: I vn2 :: bt 18 [], [(80000, .pbox (σ 80000) [.sl (c1.1.map c5), Ti c1.2.1, .v (.int .u64 c1.2.2)])]⟩ _
  refine V_sreg (mb 20 3) [80000] (s1 := ⟨.pt 80000 0 :: I vn2 :: bt 18 [], [(80000, .pbox (σ 80000) [.sl (c1.1.map c5), Ti c1.2.1, .v (.int .u64 c1.2.2)])]⟩) ?_ ?_
  ·refine L0 rfl rfl (E_assign (I 0) rfl (by kernel_rfl)) ?_
   refine XL_nil ?_
   kernel_rfl
  refine V_seq ?_
  refine V_sreg (mb 20 131) [80000] (s1 := ⟨.pt 80000 0 :: I vn2 :: bt 5 (Bo (leI vn2 1) :: bt 12 []), [(80000, .pbox (σ 80000) [.sl (c1.1.map c5), Ti c1.2.1, .v (.int .u64 c1.2.2)])]⟩) ?_ ?_
  ·refine L0 rfl rfl (E_move (I vn2) rfl (by kernel_rfl)) ?_
   refine L0 rfl rfl (Y0_lew (k := .i64) (a := vn2) (b := 1) rfl (by kernel_rfl) (by kernel_rfl)) ?_
   refine XL_nil ?_
   kernel_rfl
  refine V_cond rfl (fun hc3 => ?_) (fun hc3 => ?_)
  ·have h := of_true h hc3
   refine V_sreg (mb 20 16) [80000] (s1 := ⟨bt 4 (I 0 :: bt 15 []), [(80000, .pbox (σ 80000) [.sl (c1.1.map c5), Ti c1.2.1, .v (.int .u64 c1.2.2)])]⟩) ?_ ?_
   ·refine L0 rfl rfl (E_assign (I 0) rfl (by kernel_rfl)) ?_
    refine XL_nil ?_
    kernel_rfl
   refine V_ret ?_
   obtain rfl := some_inj h
   show PostR _ _ _ _ _ _
   exact ⟨⟨.inr rfl, rfl, rfl, rfl⟩, ⟨rfl, trivial⟩⟩
  ·have h := of_false h hc3
   refine V_skip ?_
   show V _ _ _ _
   obtain ⟨y4, hy4, h⟩ := of_bind h
   refine V_sreg (mb 20 35) [80000] (s1 := ⟨.pt 80000 0 :: I vn2 :: bt 3 (I y4.1 :: bt 14 []), [(80000, .pbox (σ 80000) [.sl (y4.2.1.map c5), Ti y4.2.2.1, .v (.int .u64 y4.2.2.2)])]⟩) ?_ ?_
   ·refine L0 rfl rfl (E_move (.pt 80000 0) rfl (by kernel_rfl)) ?_
    refine XL_cons rfl (X_callR (E' := [(80000, .pbox (σ 80000) [.sl (y4.2.1.map c5), Ti y4.2.2.1, .v (.int .u64 y4.2.2.2)])]) [(80000, 80000)] 9 (s_spec_l1Cur_next hy4) cf_spec_l1Cur_next rfl rfl (by kernel_rfl) rfl (mE_cons (by kernel_rfl) mE_nil) rfl (by kernel_rfl) rfl rfl (by kernel_rfl)) ?_
    refine L0 rfl rfl (E_assign (I y4.1) rfl (by kernel_rfl)) ?_
    refine XL_nil ?_
    kernel_rfl
   refine V_seq ?_
   refine V_sreg (mb 20 2083) [80000] (s1 := ⟨.pt 80000 0 :: I vn2 :: bt 3 (I y4.1 :: bt 5 (Bo (ltI 200 vn2) :: bt 8 [])), [(80000, .pbox (σ 80000) [.sl (y4.2.1.map c5), Ti y4.2.2.1, .v (.int .u64 y4.2.2.2)])]⟩) ?_ ?_
   ·refine L0 rfl rfl (E_move (I vn2) rfl (by kernel_rfl)) ?_
    refine L0 rfl rfl (Y0_gtw (k := .i64) (a := vn2) (b := 200) rfl (by kernel_rfl) (by kernel_rfl)) ?_
    refine XL_nil ?_
    kernel_rfl
   refine V_cond rfl (fun hc5 => ?_) (fun hc5 => ?_)
   ·have h := of_true h hc5
    obtain ⟨y6, hy6, h⟩ := of_bind h
    obtain ⟨x7, hx7, h⟩ := of_sI h
    refine V_reg (mb 20 34) [80000] (s1 := ⟨.bot :: I vn2 :: bt 3 (I x7 :: bt 14 []), [(80000, .pbox (σ 80000) [.sl (y6.2.1.map c5), Ti y6.2.2.1, .v (.int .u64 y6.2.2.2)])]⟩) ?_ ?_
    ·refine L0 rfl rfl (E_move (I y4.1) rfl (by kernel_rfl)) ?_
     refine L0 rfl rfl (Y0_mul64 (a := y4.1) (b := 256) rfl (by kernel_rfl) (by kernel_rfl)) ?_
     refine L0 rfl rfl (E_move (.pt 80000 0) rfl (by kernel_rfl)) ?_
     refine XL_cons rfl (X_callR (E' := [(80000, .pbox (σ 80000) [.sl (y6.2.1.map c5), Ti y6.2.2.1, .v (.int .u64 y6.2.2.2)])]) [(80000, 80000)] 15 (s_spec_l1Cur_next hy6) cf_spec_l1Cur_next rfl rfl (by kernel_rfl) rfl (mE_cons (by kernel_rfl) mE_nil) rfl (by kernel_rfl) rfl rfl (by kernel_rfl)) ?_
     refine L0 rfl rfl (Y0_add64 (a := w64 (y4.1 * 256)) (b := y6.1) rfl (by kernel_rfl) (by kernel_rfl)) ?_
     refine L0 rfl rfl (E_assign (I (w64 ((w64 (y4.1 * 256)) + y6.1))) rfl (by kernel_rfl)) ?_
     refine XL_nil ?_
     subst hx7
     kernel_rfl
    show V _ _ _ _
    obtain ⟨z8, hz8, h⟩ := of_bind h
    obtain ⟨t9, ht9, h⟩ := of_sI h
    refine V_sreg (mb 20 16) [80000] (s1 := ⟨bt 4 (I t9 :: bt 15 []), [(80000, .pbox (σ 80000) [.sl (y6.2.1.map c5), Ti y6.2.2.1, .v (.int .u64 y6.2.2.2)])]⟩) ?_ ?_
    ·refine L0 rfl rfl (E_move (I x7) rfl (by kernel_rfl)) ?_
     refine L0 rfl rfl (E_move (I vn2) rfl (by kernel_rfl)) ?_
     refine L0 rfl rfl (Y0_rem (k := .i64) (a := x7) (b := vn2) rfl (by kernel_rfl) (by kernel_rfl) (nz_some hz8)) ?_
     refine L0 rfl rfl (E_assign (I (Int.tmod x7 vn2)) rfl (by kernel_rfl)) ?_
     refine XL_nil ?_
     subst ht9
     kernel_rfl
    refine V_ret ?_
    obtain rfl := some_inj h
    show PostR _ _ _ _ _ _
    exact ⟨⟨.inr rfl, rfl, rfl, rfl⟩, ⟨rfl, trivial⟩⟩
   ·have h := of_false h hc5
    refine V_skip ?_
    show V _ _ _ _
    obtain ⟨z10, hz10, h⟩ := of_bind h
    obtain ⟨t11, ht11, h⟩ := of_sI h
    refine V_sreg (mb 20 16) [80000] (s1 := ⟨bt 4 (I t11 :: bt 15 []), [(80000, .pbox (σ 80000) [.sl (y4.2.1.map c5), Ti y4.2.2.1, .v (.int .u64 y4.2.2.2)])]⟩) ?_ ?_
    ·refine L0 rfl rfl (E_move (I y4.1) rfl (by kernel_rfl)) ?_
     refine L0 rfl rfl (E_move (I vn2) rfl (by kernel_rfl)) ?_
     refine L0 rfl rfl (Y0_rem (k := .i64) (a := y4.1) (b := vn2) rfl (by kernel_rfl) (by kernel_rfl) (nz_some hz10)) ?_
     refine L0 rfl rfl (E_assign (I (Int.tmod y4.1 vn2)) rfl (by kernel_rfl)) ?_
     refine XL_nil ?_
     subst ht11
     kernel_rfl
    refine V_ret ?_
    obtain rfl := some_inj h
    show PostR _ _ _ _ _ _
    exact ⟨⟨.inr rfl, rfl, rfl, rfl⟩, ⟨rfl, trivial⟩⟩
theorem cf_spec_l1Cur_among : ∀ args w, (callFunc 115 args).run Try.prog w = .ok (.enter 115 args) w := run_callFunc Try.func115 (by kernel_rfl) (by kernel_rfl)
set_option maxRecDepth 100000 in
set_option maxHeartbeats 400000 in
theorem s_spec_l1Cur_among {c1 : ((List Int) × Int × Int)} {list2 : List Int} {r : (Int × (((List Int) × Int × Int)))} (h : r_spec_l1Cur_among c1 list2 = some r) : CallR Try.prog 115 [.pt 80000 0, .c (.sl (list2.map c3))] [(80000, .box [.sl (c1.1.map c5), Ti c1.2.1, .v (.int .u64 c1.2.2)])] (I r.1) [] [(80000, .box [.sl (r.2.1.map c5), Ti r.2.2.1, .v (.int .u64 r.2.2.2)])] := by
  refine CallR_of_text (rs := [.t 4]) (vs := [.tmp 4]) Try.func115 rfl rfl (.cons rfl FitsL.nil) (by decide) 12 rfl rfl fun σ => ?_
  unfold r_spec_l1Cur_among at h
  show V _ _ ⟨.pt 80000 0 :: .c (.sl (list2.map c3)) :: bt 10 [], [(80000, .pbox (σ 80000) [.sl (c1.1.map c5), Ti c1.2.1, .v (.int .u64 c1.2.2)])]⟩ _
  refine V_sreg (mb 12 3) [80000] (s1 := ⟨.pt 80000 0 :: .c (.sl (list2.map c3)) :: bt 10 [], [(80000, .pbox (σ 80000) [.sl (c1.1.map c5), Ti c1.2.1, .v (.int .u64 c1.2.2)])]⟩) ?_ ?_
  ·refine L0 rfl rfl (E_assign (I 0) rfl (by kernel_rfl)) ?_
   refine XL_nil ?_
   kernel_rfl
  obtain ⟨y3, hy3, h⟩ := of_bind h
  obtain ⟨e4, he4, h⟩ := of_bind h
  refine V_sreg (mb 12 16) [80000] (s1 := ⟨bt 4 (I e4 :: bt 7 []), [(80000, .pbox (σ 80000) [.sl (y3.2.1.map c5), Ti y3.2.2.1, .v (.int .u64 y3.2.2.2)])]⟩) ?_ ?_
  ·refine L0 rfl rfl (E_move (.c (.sl (list2.map c3))) rfl (by kernel_rfl)) ?_
   refine L0 rfl rfl (E_move (.pt 80000 0) rfl (by kernel_rfl)) ?_
   refine L0 rfl rfl (E_move (.c (.sl (list2.map c3))) rfl (by kernel_rfl)) ?_
   refine L0 rfl rfl (Y0_lenM (c := c3) (xs := list2) Try.underlying41 rfl (by kernel_rfl)) ?_
   refine XL_cons rfl (X_callR (E' := [(80000, .pbox (σ 80000) [.sl (y3.2.1.map c5), Ti y3.2.2.1, .v (.int .u64 y3.2.2.2)])]) [(80000, 80000)] 9 (s_spec_l1Cur_pick hy3) cf_spec_l1Cur_pick rfl rfl (by kernel_rfl) rfl (mE_cons (by kernel_rfl) mE_nil) rfl (by kernel_rfl) rfl rfl (by kernel_rfl)) ?_
   refine L0 rfl rfl (Y0_idxM (c := c3) (xs := list2) (v := e4) (n := y3.1) Try.underlying41 sz3 rfl (by kernel_rfl) (by kernel_rfl) he4) ?_
   refine L0 rfl rfl (Y0_load1 (c := Ti e4) (cs := []) sc3 rfl (by kernel_rfl)) ?_
   refine L0 rfl rfl (E_assign (I e4) rfl (by kernel_rfl)) ?_
   refine XL_nil ?_
   kernel_rfl
  refine V_ret ?_
  obtain rfl := some_inj h
  show PostR _ _ _ _ _ _
  exact ⟨⟨.inr rfl, rfl, rfl, rfl⟩, ⟨rfl, trivial⟩⟩
theorem cf_spec_l1Cur_number : ∀ args w, (callFunc 136 args).run Try.prog w = .ok (.enter 136 args) w := run_callFunc Try.func136 (by kernel_rfl) (by kernel_rfl)
set_option maxRecDepth 100000 in
set_option maxHeartbeats 400000 in
theorem s_spec_l1Cur_number {c1 : ((List Int) × Int × Int)} {r : (Int × (((List Int) × Int × Int)))} (h : r_spec_l1Cur_number c1 = some r) : CallR Try.prog 136 [.pt 80000 0] [(80000, .box [.sl (c1.1.map c5), Ti c1.2.1, .v (.int .u64 c1.2.2)])] (I r.1) [] [(80000, .box [.sl (r.2.1.map c5), Ti r.2.2.1, .v (.int .u64 r.2.2.2)])] := by
  refine CallR_of_text (rs := [.t 2]) (vs := [.tmp 2]) Try.func136 rfl rfl (.cons rfl FitsL.nil) (by decide) 32 rfl rfl fun σ => ?_
  unfold r_spec_l1Cur_number at h
  show V _ _ ⟨.pt 80000 0 :: bt 31 [], [(80000, .pbox (σ 80000) [.sl (c1.1.map c5), Ti c1.2.1, .v (.int .u64 c1.2.2)])]⟩ _
  refine V_sreg (mb 32 1) [80000] (s1 := ⟨.pt 80000 0 :: bt 31 [], [(80000, .pbox (σ 80000) [.sl (c1.1.map c5), Ti c1.2.1, .v (.int .u64 c1.2.2)])]⟩) ?_ ?_
  ·refine L0 rfl rfl (E_assign (I 0) rfl (by kernel_rfl)) ?_
   refine XL_nil ?_
   kernel_rfl
  refine V_seq ?_
  obtain ⟨y2, hy2, h⟩ := of_bind h
  refine V_sreg (mb 32 17) [80000] (s1 := ⟨.pt 80000 0 :: bt 3 (I y2.1 :: bt 27 []), [(80000, .pbox (σ 80000) [.sl (y2.2.1.map c5), Ti y2.2.2.1, .v (.int .u64 y2.2.2.2)])]⟩) ?_ ?_
  ·refine L0 rfl rfl (E_move (.pt 80000 0) rfl (by kernel_rfl)) ?_
   refine XL_cons rfl (X_callR (E' := [(80000, .pbox (σ 80000) [.sl (y2.2.1.map c5), Ti y2.2.2.1, .v (.int .u64 y2.2.2.2)])]) [(80000, 80000)] 4 (s_spec_l1Cur_pick hy2) cf_spec_l1Cur_pick rfl rfl (by kernel_rfl) rfl (mE_cons (by kernel_rfl) mE_nil) rfl (by kernel_rfl) rfl rfl (by kernel_rfl)) ?_
   refine XL_nil ?_
   kernel_rfl
  refine V_block ?_
  refine V_sreg (mb 32 49) [80000] (s1 := ⟨.pt 80000 0 :: bt 3 (I y2.1 :: Bo (eqI y2.1 0) :: bt 26 []), [(80000, .pbox (σ 80000) [.sl (y2.2.1.map c5), Ti y2.2.2.1, .v (.int .u64 y2.2.2.2)])]⟩) ?_ ?_
  ·refine L0 rfl rfl (Y0_eqw (k := .i64) (a := y2.1) (b := 0) rfl (by kernel_rfl) (by kernel_rfl)) ?_
   refine L0 rfl rfl (E_assign (Bo (eqI y2.1 0)) rfl (by kernel_rfl)) ?_
   refine XL_nil ?_
   kernel_rfl
  refine V_cond rfl (fun hc3 => ?_) (fun hc3 => ?_)
  ·have h := of_true h hc3
   obtain ⟨y4, hy4, h⟩ := of_bind h
   refine V_sreg (mb 32 4) [80000] (s1 := ⟨.bot :: .bot :: I y4.1 :: bt 29 [], [(80000, .pbox (σ 80000) [.sl (y4.2.1.map c5), Ti y4.2.2.1, .v (.int .u64 y4.2.2.2)])]⟩) ?_ ?_
   ·refine L0 rfl rfl (E_move (.pt 80000 0) rfl (by kernel_rfl)) ?_
    refine L1 rfl rfl (Y1_bslice (z := zv3) (els := [0, 1, -1, 1000000, -1000000, 1000001, -1000001, -9223372036854775808, 9223372036854775807, 999983, 999999, 1000].map c3) Try.underlying41 iz3 rfl (by decide) rfl (by kernel_rfl) rfl (by simp [c3]) (by decide) (by decide)) ?_
    refine XL_freeze 64 (T := 3) (sz := 1) (els := ([0, 1, -1, 1000000, -1000000, 1000001, -1000001, -9223372036854775808, 9223372036854775807, 999983, 999999, 1000]).map c3) (s1 := ⟨.pt 80000 0 :: bt 3 (I y2.1 :: Bo (eqI y2.1 0) :: .bot :: .pt 80000 0 :: .c (.sl (([0, 1, -1, 1000000, -1000000, 1000001, -1000001, -9223372036854775808, 9223372036854775807, 999983, 999999, 1000]).map c3)) :: bt 23 []), [(80000, .pbox (σ 80000) [.sl (y2.2.1.map c5), Ti y2.2.2.1, .v (.int .u64 y2.2.2.2)])]⟩) (by kernel_rfl) (by kernel_rfl) ?_
    refine XL_cons rfl (X_callR (E' := [(80000, .pbox (σ 80000) [.sl (y4.2.1.map c5), Ti y4.2.2.1, .v (.int .u64 y4.2.2.2)])]) [(80000, 80000)] 9 (s_spec_l1Cur_among hy4) cf_spec_l1Cur_among rfl rfl (by kernel_rfl) rfl (mE_cons (by kernel_rfl) mE_nil) rfl (by kernel_rfl) rfl rfl (by kernel_rfl)) ?_
    refine L0 rfl rfl (E_assign (I y4.1) rfl (by kernel_rfl)) ?_
    refine XL_nil ?_
    kernel_rfl
   refine V_ret ?_
   obtain rfl := some_inj h
   show PostR _ _ _ _ _ _
   exact ⟨⟨.inr rfl, rfl, rfl, rfl⟩, ⟨rfl, trivial⟩⟩
  ·have h := of_false h hc3
   obtain ⟨j5, hj5, h⟩ := of_bind h
   refine V_cutK (mb 32 1041) [80000] (s1 := ⟨.pt 80000 0 :: bt 3 (I y2.1 :: bt 5 (Bo j5 :: bt 21 [])), [(80000, .pbox (σ 80000) [.sl (y2.2.1.map c5), Ti y2.2.2.1, .v (.int .u64 y2.2.2.2)])]⟩) ?_ ?_
   ·clear h
    have h := hj5
    clear hj5
    refine V_sreg (mb 32 1041) [80000] (s1 := ⟨.pt 80000 0 :: bt 3 (I y2.1 :: bt 5 (Bo (eqI y2.1 1) :: bt 21 [])), [(80000, .pbox (σ 80000) [.sl (y2.2.1.map c5), Ti y2.2.2.1, .v (.int .u64 y2.2.2.2)])]⟩) ?_ ?_
    ·refine L0 rfl rfl (Y0_eqw (k := .i64) (a := y2.1) (b := 1) rfl (by kernel_rfl) (by kernel_rfl)) ?_
     refine L0 rfl rfl (E_assign (Bo (eqI y2.1 1)) rfl (by kernel_rfl)) ?_
     refine XL_nil ?_
     kernel_rfl
    refine V_cond rfl (fun hc6 => ?_) (fun hc6 => ?_)
    ·have h := of_true h hc6
     refine V_skip ?_
     obtain rfl := some_inj h
     show St.keep _ _ _ = _
     rfl
    ·have h := of_false h hc6
     refine V_reg (mb 32 1041) [80000] (s1 := ⟨.pt 80000 0 :: bt 3 (I y2.1 :: bt 5 (Bo (eqI y2.1 2) :: bt 21 [])), [(80000, .pbox (σ 80000) [.sl (y2.2.1.map c5), Ti y2.2.2.1, .v (.int .u64 y2.2.2.2)])]⟩) ?_ ?_
     ·refine L0 rfl rfl (Y0_eqw (k := .i64) (a := y2.1) (b := 2) rfl (by kernel_rfl) (by kernel_rfl)) ?_
      refine L0 rfl rfl (E_assign (Bo (eqI y2.1 2)) rfl (by kernel_rfl)) ?_
      refine XL_nil ?_
      kernel_rfl
     obtain rfl := some_inj h
     show St.keep _ _ _ = _
     rfl
   refine V_cond rfl (fun hc7 => ?_) (fun hc7 => ?_)
   ·have h := of_true h hc7
    obtain ⟨y8, hy8, h⟩ := of_bind h
    obtain ⟨y9, hy9, h⟩ := of_bind h
    obtain ⟨y10, hy10, h⟩ := of_bind h
    obtain ⟨t11, ht11, h⟩ := of_sI h
    refine V_sreg (mb 32 4) [80000] (s1 := ⟨.bot :: .bot :: I t11 :: bt 29 [], [(80000, .pbox (σ 80000) [.sl (y10.2.1.map c5), Ti y10.2.2.1, .v (.int .u64 y10.2.2.2)])]⟩) ?_ ?_
    ·refine L0 rfl rfl (E_move (.pt 80000 0) rfl (by kernel_rfl)) ?_
     refine XL_cons rfl (X_callR (E' := [(80000, .pbox (σ 80000) [.sl (y8.2.1.map c5), Ti y8.2.2.1, .v (.int .u64 y8.2.2.2)])]) [(80000, 80000)] 14 (s_spec_l1Cur_pick hy8) cf_spec_l1Cur_pick rfl rfl (by kernel_rfl) rfl (mE_cons (by kernel_rfl) mE_nil) rfl (by kernel_rfl) rfl rfl (by kernel_rfl)) ?_
     refine L0 rfl rfl (E_move (.pt 80000 0) rfl (by kernel_rfl)) ?_
     refine XL_cons rfl (X_callR (E' := [(80000, .pbox (σ 80000) [.sl (y9.2.1.map c5), Ti y9.2.2.1, .v (.int .u64 y9.2.2.2)])]) [(80000, 80000)] 16 (s_spec_l1Cur_pick hy9) cf_spec_l1Cur_pick rfl rfl (by kernel_rfl) rfl (mE_cons (by kernel_rfl) mE_nil) rfl (by kernel_rfl) rfl rfl (by kernel_rfl)) ?_
     refine L0 rfl rfl (Y0_add64 (a := 1) (b := y9.1) rfl (by kernel_rfl) (by kernel_rfl)) ?_
     refine L0 rfl rfl (Y0_mul64 (a := y8.1) (b := w64 (1 + y9.1)) rfl (by kernel_rfl) (by kernel_rfl)) ?_
     refine L0 rfl rfl (E_move (.pt 80000 0) rfl (by kernel_rfl)) ?_
     refine XL_cons rfl (X_callR (E' := [(80000, .pbox (σ 80000) [.sl (y10.2.1.map c5), Ti y10.2.2.1, .v (.int .u64 y10.2.2.2)])]) [(80000, 80000)] 20 (s_spec_l1Cur_pick hy10) cf_spec_l1Cur_pick rfl rfl (by kernel_rfl) rfl (mE_cons (by kernel_rfl) mE_nil) rfl (by kernel_rfl) rfl rfl (by kernel_rfl)) ?_
     refine L0 rfl rfl (Y0_mul64 (a := 2) (b := y10.1) rfl (by kernel_rfl) (by kernel_rfl)) ?_
     refine L0 rfl rfl (Y0_sub64 (a := 1) (b := w64 (2 * y10.1)) rfl (by kernel_rfl) (by kernel_rfl)) ?_
     refine L0 rfl rfl (Y0_mul64 (a := w64 (y8.1 * (w64 (1 + y9.1)))) (b := w64 (1 - (w64 (2 * y10.1)))) rfl (by kernel_rfl) (by kernel_rfl)) ?_
     refine L0 rfl rfl (E_assign (I (w64 ((w64 (y8.1 * (w64 (1 + y9.1)))) * (w64 (1 - (w64 (2 * y10.1))))))) rfl (by kernel_rfl)) ?_
     refine XL_nil ?_
     subst ht11
     kernel_rfl
    refine V_ret ?_
    obtain rfl := some_inj h
    show PostR _ _ _ _ _ _
    exact ⟨⟨.inr rfl, rfl, rfl, rfl⟩, ⟨rfl, trivial⟩⟩
   ·have h := of_false h hc7
    obtain ⟨j12, hj12, h⟩ := of_bind h
    refine V_cutK (mb 32 16777217) [80000] (s1 := ⟨.pt 80000 0 :: bt 23 (Bo j12 :: bt 7 []), [(80000, .pbox (σ 80000) [.sl (y2.2.1.map c5), Ti y2.2.2.1, .v (.int .u64 y2.2.2.2)])]⟩) ?_ ?_
    ·clear h
     have h := hj12
     clear hj12
     refine V_sreg (mb 32 16777233) [80000] (s1 := ⟨.pt 80000 0 :: bt 3 (I y2.1 :: bt 19 (Bo (eqI y2.1 3) :: bt 7 [])), [(80000, .pbox (σ 80000) [.sl (y2.2.1.map c5), Ti y2.2.2.1, .v (.int .u64 y2.2.2.2)])]⟩) ?_ ?_
     ·refine L0 rfl rfl (Y0_eqw (k := .i64) (a := y2.1) (b := 3) rfl (by kernel_rfl) (by kernel_rfl)) ?_
      refine L0 rfl rfl (E_assign (Bo (eqI y2.1 3)) rfl (by kernel_rfl)) ?_
      refine XL_nil ?_
      kernel_rfl
     refine V_cond rfl (fun hc13 => ?_) (fun hc13 => ?_)
     ·have h := of_true h hc13
      refine V_skip ?_
      obtain rfl := some_inj h
      show St.keep _ _ _ = _
      rfl
     ·have h := of_false h hc13
      refine V_reg (mb 32 16777217) [80000] (s1 := ⟨.pt 80000 0 :: bt 23 (Bo (eqI y2.1 4) :: bt 7 []), [(80000, .pbox (σ 80000) [.sl (y2.2.1.map c5), Ti y2.2.2.1, .v (.int .u64 y2.2.2.2)])]⟩) ?_ ?_
      ·refine L0 rfl rfl (Y0_eqw (k := .i64) (a := y2.1) (b := 4) rfl (by kernel_rfl) (by kernel_rfl)) ?_
       refine L0 rfl rfl (E_assign (Bo (eqI y2.1 4)) rfl (by kernel_rfl)) ?_
       refine XL_nil ?_
       kernel_rfl
      obtain rfl := some_inj h
      show St.keep _ _ _ = _
      rfl
    refine V_cond rfl (fun hc14 => ?_) (fun hc14 => ?_)
    ·have h := of_true h hc14
     obtain ⟨y15, hy15, h⟩ := of_bind h
     refine V_sreg (mb 32 4) [80000] (s1 := ⟨.bot :: .bot :: I y15.1 :: bt 29 [], [(80000, .pbox (σ 80000) [.sl (y15.2.1.map c5), Ti y15.2.2.1, .v (.int .u64 y15.2.2.2)])]⟩) ?_ ?_
     ·refine L0 rfl rfl (E_move (.pt 80000 0) rfl (by kernel_rfl)) ?_
      refine XL_cons rfl (X_callR (E' := [(80000, .pbox (σ 80000) [.sl (y15.2.1.map c5), Ti y15.2.2.1, .v (.int .u64 y15.2.2.2)])]) [(80000, 80000)] 28 (s_spec_l1Cur_pick hy15) cf_spec_l1Cur_pick rfl rfl (by kernel_rfl) rfl (mE_cons (by kernel_rfl) mE_nil) rfl (by kernel_rfl) rfl rfl (by kernel_rfl)) ?_
      refine L0 rfl rfl (E_assign (I y15.1) rfl (by kernel_rfl)) ?_
      refine XL_nil ?_
      kernel_rfl
     refine V_ret ?_
     obtain rfl := some_inj h
     show PostR _ _ _ _ _ _
     exact ⟨⟨.inr rfl, rfl, rfl, rfl⟩, ⟨rfl, trivial⟩⟩
    ·have h := of_false h hc14
     refine V_skip ?_
     show V _ _ _ _
     obtain ⟨y16, hy16, h⟩ := of_bind h
     obtain ⟨t17, ht17, h⟩ := of_sI h
     refine V_sreg (mb 32 4) [80000] (s1 := ⟨.bot :: .bot :: I t17 :: bt 29 [], [(80000, .pbox (σ 80000) [.sl (y16.2.1.map c5), Ti y16.2.2.1, .v (.int .u64 y16.2.2.2)])]⟩) ?_ ?_
     ·refine L0 rfl rfl (E_move (.pt 80000 0) rfl (by kernel_rfl)) ?_
      refine XL_cons rfl (X_callR (E' := [(80000, .pbox (σ 80000) [.sl (y16.2.1.map c5), Ti y16.2.2.1, .v (.int .u64 y16.2.2.2)])]) [(80000, 80000)] 30 (s_spec_l1Cur_pick hy16) cf_spec_l1Cur_pick rfl rfl (by kernel_rfl) rfl (mE_cons (by kernel_rfl) mE_nil) rfl (by kernel_rfl) rfl rfl (by kernel_rfl)) ?_
      refine L0 rfl rfl (Y0_sub64 (a := y16.1) (b := 40) rfl (by kernel_rfl) (by kernel_rfl)) ?_
      refine L0 rfl rfl (E_assign (I (w64 (y16.1 - 40))) rfl (by kernel_rfl)) ?_
      refine XL_nil ?_
      subst ht17
      kernel_rfl
     refine V_ret ?_
     obtain rfl := some_inj h
     show PostR _ _ _ _ _ _
     exact ⟨⟨.inr rfl, rfl, rfl, rfl⟩, ⟨rfl, trivial⟩⟩
theorem cf_spec_l1Cur_lattice : ∀ args w, (callFunc 133 args).run Try.prog w = .ok (.enter 133 args) w := run_callFunc Try.func133 (by kernel_rfl) (by kernel_rfl)
set_option maxRecDepth 100000 in
set_option maxHeartbeats 400000 in
theorem s_spec_l1Cur_lattice {c1 : ((List Int) × Int × Int)} {r : (((Int × Int × Int)) × (((List Int) × Int × Int)))} (h : r_spec_l1Cur_lattice c1 = some r) : CallR Try.prog 133 [.pt 80000 0] [(80000, .box [.sl (c1.1.map c5), Ti c1.2.1, .v (.int .u64 c1.2.2)])] (.ag [Ti r.1.1, Ti r.1.2.1, Ti r.1.2.2]) [] [(80000, .box [.sl (r.2.1.map c5), Ti r.2.2.1, .v (.int .u64 r.2.2.2)])] := by
  refine CallR_of_text (rs := [.w 2 3]) (vs := [.cell 2 25]) Try.func133 rfl rfl (.cons ⟨rfl, wd25⟩ FitsL.nil) (by decide) 63 rfl rfl fun σ => ?_
  unfold r_spec_l1Cur_lattice at h
  show V _ _ ⟨.pt 80000 0 :: bt 62 [], [(80000, .pbox (σ 80000) [.sl (c1.1.map c5), Ti c1.2.1, .v (.int .u64 c1.2.2)])]⟩ _
  refine V_sreg (mb 63 5) [16, 80000] (s1 := ⟨.pt 80000 0 :: .bot :: .pt 16 0 :: bt 60 [], [(16, .box [Ti 0, Ti 0, Ti 0]), (80000, .pbox (σ 80000) [.sl (c1.1.map c5), Ti c1.2.1, .v (.int .u64 c1.2.2)])]⟩) ?_ ?_
  ·refine L1 rfl rfl (Y1_alloc (z := zv25) rfl zf25 rfl) ?_
   refine XL_nil ?_
   kernel_rfl
  obtain ⟨y2, hy2, h⟩ := of_bind h
  obtain ⟨y3, hy3, h⟩ := of_bind h
  obtain ⟨a4, ha4, h⟩ := of_sI h
  obtain ⟨d5, hd5, h⟩ := of_sI h
  refine V_sreg (mb 63 29) [16, 80000] (s1 := ⟨.pt 80000 0 :: .bot :: .pt 16 0 :: I a4 :: I d5 :: bt 58 [], [(16, .box [Ti 0, Ti 0, Ti 0]), (80000, .pbox (σ 80000) [.sl (y3.2.1.map c5), Ti y3.2.2.1, .v (.int .u64 y3.2.2.2)])]⟩) ?_ ?_
  ·refine L0 rfl rfl (E_move (.pt 80000 0) rfl (by kernel_rfl)) ?_
   refine XL_cons rfl (X_callR (E' := [(16, .box [Ti 0, Ti 0, Ti 0]), (80000, .pbox (σ 80000) [.sl (y2.2.1.map c5), Ti y2.2.2.1, .v (.int .u64 y2.2.2.2)])]) [(80000, 80000)] 7 (s_spec_l1Cur_pick hy2) cf_spec_l1Cur_pick rfl rfl (by kernel_rfl) rfl (mE_cons (by kernel_rfl) mE_nil) rfl (by kernel_rfl) rfl rfl (by kernel_rfl)) ?_
   refine L0 rfl rfl (Y0_add64 (a := 1) (b := y2.1) rfl (by kernel_rfl) (by kernel_rfl)) ?_
   refine L0 rfl rfl (E_move (.pt 80000 0) rfl (by kernel_rfl)) ?_
   refine XL_cons rfl (X_callR (E' := [(16, .box [Ti 0, Ti 0, Ti 0]), (80000, .pbox (σ 80000) [.sl (y3.2.1.map c5), Ti y3.2.2.1, .v (.int .u64 y3.2.2.2)])]) [(80000, 80000)] 10 (s_spec_l1Cur_pick hy3) cf_spec_l1Cur_pick rfl rfl (by kernel_rfl) rfl (mE_cons (by kernel_rfl) mE_nil) rfl (by kernel_rfl) rfl rfl (by kernel_rfl)) ?_
   refine L0 rfl rfl (Y0_add64 (a := 1) (b := y3.1) rfl (by kernel_rfl) (by kernel_rfl)) ?_
   refine L0 rfl rfl (E_assign (I (w64 (1 + y2.1))) rfl (by kernel_rfl)) ?_
   refine L0 rfl rfl (E_assign (I (w64 (1 + y3.1))) rfl (by kernel_rfl)) ?_
   refine XL_nil ?_
   subst ha4 hd5
   kernel_rfl
  obtain ⟨qo6, hLo6, hko6⟩ := of_bind h
  clear h
  refine V_cutS (q := qo6) (S := fun o6 => ⟨.pt 80000 0 :: .bot :: .pt 16 0 :: I o6.1 :: I o6.2.1 :: bt 58 [], [(16, .box [Ti 0, Ti 0, Ti 0]), (80000, .pbox (σ 80000) [.sl (o6.2.2.1.map c5), Ti o6.2.2.2.1, .v (.int .u64 o6.2.2.2.2)])]⟩) (mb 63 29) [16, 80000] ?_ ?_
  ·have h := hLo6
   clear hLo6
   obtain ⟨y7, hy7, h⟩ := of_bind h
   refine V_sreg (mb 63 8221) [16, 80000] (s1 := ⟨.pt 80000 0 :: .bot :: .pt 16 0 :: I a4 :: I d5 :: bt 8 (I y7.1 :: bt 49 []), [(16, .box [Ti 0, Ti 0, Ti 0]), (80000, .pbox (σ 80000) [.sl (y7.2.1.map c5), Ti y7.2.2.1, .v (.int .u64 y7.2.2.2)])]⟩) ?_ ?_
   ·refine L0 rfl rfl (E_move (.pt 80000 0) rfl (by kernel_rfl)) ?_
    refine XL_cons rfl (X_callR (E' := [(16, .box [Ti 0, Ti 0, Ti 0]), (80000, .pbox (σ 80000) [.sl (y7.2.1.map c5), Ti y7.2.2.1, .v (.int .u64 y7.2.2.2)])]) [(80000, 80000)] 13 (s_spec_l1Cur_pick hy7) cf_spec_l1Cur_pick rfl rfl (by kernel_rfl) rfl (mE_cons (by kernel_rfl) mE_nil) rfl (by kernel_rfl) rfl rfl (by kernel_rfl)) ?_
    refine XL_nil ?_
    kernel_rfl
   refine V_block ?_
   refine V_sreg (mb 63 24605) [16, 80000] (s1 := ⟨.pt 80000 0 :: .bot :: .pt 16 0 :: I a4 :: I d5 :: bt 8 (I y7.1 :: Bo (eqI y7.1 0) :: bt 48 []), [(16, .box [Ti 0, Ti 0, Ti 0]), (80000, .pbox (σ 80000) [.sl (y7.2.1.map c5), Ti y7.2.2.1, .v (.int .u64 y7.2.2.2)])]⟩) ?_ ?_
   ·refine L0 rfl rfl (Y0_eqw (k := .i64) (a := y7.1) (b := 0) rfl (by kernel_rfl) (by kernel_rfl)) ?_
    refine L0 rfl rfl (E_assign (Bo (eqI y7.1 0)) rfl (by kernel_rfl)) ?_
    refine XL_nil ?_
    kernel_rfl
   refine V_cond rfl (fun hc8 => ?_) (fun hc8 => ?_)
   ·have h := of_true h hc8
    obtain ⟨y9, hy9, h⟩ := of_bind h
    obtain ⟨y10, hy10, h⟩ := of_bind h
    obtain ⟨y11, hy11, h⟩ := of_bind h
    refine V_sreg (mb 63 4) [16, 80000] (s1 := ⟨.bot :: .bot :: .pt 16 0 :: bt 60 [], [(16, .box [Ti y9.1, Ti y10.1, Ti y11.1]), (80000, .pbox (σ 80000) [.sl (y11.2.1.map c5), Ti y11.2.2.1, .v (.int .u64 y11.2.2.2)])]⟩) ?_ ?_
    ·refine L0 rfl rfl (E_move (.pt 80000 0) rfl (by kernel_rfl)) ?_
     refine XL_cons rfl (X_callR (E' := [(16, .box [Ti 0, Ti 0, Ti 0]), (80000, .pbox (σ 80000) [.sl (y9.2.1.map c5), Ti y9.2.2.1, .v (.int .u64 y9.2.2.2)])]) [(80000, 80000)] 17 (s_spec_l1Cur_number hy9) cf_spec_l1Cur_number rfl rfl (by kernel_rfl) rfl (mE_cons (by kernel_rfl) mE_nil) rfl (by kernel_rfl) rfl rfl (by kernel_rfl)) ?_
     refine L0 rfl rfl (E_move (.pt 80000 0) rfl (by kernel_rfl)) ?_
     refine XL_cons rfl (X_callR (E' := [(16, .box [Ti 0, Ti 0, Ti 0]), (80000, .pbox (σ 80000) [.sl (y10.2.1.map c5), Ti y10.2.2.1, .v (.int .u64 y10.2.2.2)])]) [(80000, 80000)] 19 (s_spec_l1Cur_number hy10) cf_spec_l1Cur_number rfl rfl (by kernel_rfl) rfl (mE_cons (by kernel_rfl) mE_nil) rfl (by kernel_rfl) rfl rfl (by kernel_rfl)) ?_
     refine L0 rfl rfl (E_move (.pt 80000 0) rfl (by kernel_rfl)) ?_
     refine XL_cons rfl (X_callR (E' := [(16, .box [Ti 0, Ti 0, Ti 0]), (80000, .pbox (σ 80000) [.sl (y11.2.1.map c5), Ti y11.2.2.1, .v (.int .u64 y11.2.2.2)])]) [(80000, 80000)] 21 (s_spec_l1Cur_number hy11) cf_spec_l1Cur_number rfl rfl (by kernel_rfl) rfl (mE_cons (by kernel_rfl) mE_nil) rfl (by kernel_rfl) rfl rfl (by kernel_rfl)) ?_
     refine L0 rfl rfl (Y0_build (cs := [Ti y9.1, Ti y10.1, Ti y11.1]) pl25 bt25 rfl rfl (by kernel_rfl)) ?_
     refine XL_cons rfl (E_store (id := 16) (off := 0) (cs := [Ti 0, Ti 0, Ti 0]) (vc := [Ti y9.1, Ti y10.1, Ti y11.1]) [Ti y9.1, Ti y10.1, Ti y11.1] rfl rfl (by kernel_rfl) (by kernel_rfl) (by kernel_rfl) sz25 (Nat.le_of_ble_eq_true rfl) (by kernel_rfl)) ?_
     refine XL_nil ?_
     kernel_rfl
    refine V_ret ?_
    obtain rfl := some_inj h
    have h := hko6
    obtain rfl := some_inj h
    show PostR _ _ _ _ _ _
    exact ⟨⟨.inr rfl, rfl, rfl, rfl⟩, ⟨rfl, trivial⟩⟩
   ·have h := of_false h hc8
    refine V_sreg (mb 63 8396829) [16, 80000] (s1 := ⟨.pt 80000 0 :: .bot :: .pt 16 0 :: I a4 :: I d5 :: bt 8 (I y7.1 :: bt 9 (Bo (eqI y7.1 1) :: bt 39 [])), [(16, .box [Ti 0, Ti 0, Ti 0]), (80000, .pbox (σ 80000) [.sl (y7.2.1.map c5), Ti y7.2.2.1, .v (.int .u64 y7.2.2.2)])]⟩) ?_ ?_
    ·refine L0 rfl rfl (Y0_eqw (k := .i64) (a := y7.1) (b := 1) rfl (by kernel_rfl) (by kernel_rfl)) ?_
     refine L0 rfl rfl (E_assign (Bo (eqI y7.1 1)) rfl (by kernel_rfl)) ?_
     refine XL_nil ?_
     kernel_rfl
    refine V_cond rfl (fun hc12 => ?_) (fun hc12 => ?_)
    ·have h := of_true h hc12
     obtain ⟨y13, hy13, h⟩ := of_bind h
     refine V_reg (mb 63 29) [16, 80000] (s1 := ⟨.pt 80000 0 :: .bot :: .pt 16 0 :: I y13.1 :: I d5 :: bt 58 [], [(16, .box [Ti 0, Ti 0, Ti 0]), (80000, .pbox (σ 80000) [.sl (y13.2.1.map c5), Ti y13.2.2.1, .v (.int .u64 y13.2.2.2)])]⟩) ?_ ?_
     ·refine L0 rfl rfl (E_move (.pt 80000 0) rfl (by kernel_rfl)) ?_
      refine L1 rfl rfl (Y1_bslice (z := zv3) (els := [1000, 1001, 1, 999].map c3) Try.underlying41 iz3 rfl (by decide) rfl (by kernel_rfl) rfl (by simp [c3]) (by decide) (by decide)) ?_
      refine XL_freeze 208 (T := 3) (sz := 1) (els := ([1000, 1001, 1, 999]).map c3) (s1 := ⟨.pt 80000 0 :: .bot :: .pt 16 0 :: I a4 :: I d5 :: bt 8 (I y7.1 :: bt 9 (Bo (eqI y7.1 1) :: .bot :: .pt 80000 0 :: .c (.sl (([1000, 1001, 1, 999]).map c3)) :: bt 36 [])), [(16, .box [Ti 0, Ti 0, Ti 0]), (80000, .pbox (σ 80000) [.sl (y7.2.1.map c5), Ti y7.2.2.1, .v (.int .u64 y7.2.2.2)])]⟩) (by kernel_rfl) (by kernel_rfl) ?_
      refine XL_cons rfl (X_callR (E' := [(16, .box [Ti 0, Ti 0, Ti 0]), (80000, .pbox (σ 80000) [.sl (y13.2.1.map c5), Ti y13.2.2.1, .v (.int .u64 y13.2.2.2)])]) [(80000, 80000)] 27 (s_spec_l1Cur_among hy13) cf_spec_l1Cur_among rfl rfl (by kernel_rfl) rfl (mE_cons (by kernel_rfl) mE_nil) rfl (by kernel_rfl) rfl rfl (by kernel_rfl)) ?_
      refine L0 rfl rfl (E_assign (I y13.1) rfl (by kernel_rfl)) ?_
      refine XL_nil ?_
      kernel_rfl
     obtain rfl := some_inj h
     exact ⟨_, rfl, by rfl⟩
    ·have h := of_false h hc12
     refine V_sreg (mb 63 268443677) [16, 80000] (s1 := ⟨.pt 80000 0 :: .bot :: .pt 16 0 :: I a4 :: I d5 :: bt 8 (I y7.1 :: bt 14 (Bo (eqI y7.1 2) :: bt 34 [])), [(16, .box [Ti 0, Ti 0, Ti 0]), (80000, .pbox (σ 80000) [.sl (y7.2.1.map c5), Ti y7.2.2.1, .v (.int .u64 y7.2.2.2)])]⟩) ?_ ?_
     ·refine L0 rfl rfl (Y0_eqw (k := .i64) (a := y7.1) (b := 2) rfl (by kernel_rfl) (by kernel_rfl)) ?_
      refine L0 rfl rfl (E_assign (Bo (eqI y7.1 2)) rfl (by kernel_rfl)) ?_
      refine XL_nil ?_
      kernel_rfl
     refine V_cond rfl (fun hc14 => ?_) (fun hc14 => ?_)
     ·have h := of_true h hc14
      obtain ⟨y15, hy15, h⟩ := of_bind h
      refine V_reg (mb 63 29) [16, 80000] (s1 := ⟨.pt 80000 0 :: .bot :: .pt 16 0 :: I a4 :: I y15.1 :: bt 58 [], [(16, .box [Ti 0, Ti 0, Ti 0]), (80000, .pbox (σ 80000) [.sl (y15.2.1.map c5), Ti y15.2.2.1, .v (.int .u64 y15.2.2.2)])]⟩) ?_ ?_
      ·refine L0 rfl rfl (E_move (.pt 80000 0) rfl (by kernel_rfl)) ?_
       refine L1 rfl rfl (Y1_bslice (z := zv3) (els := [1000, 1001, 0, 999].map c3) Try.underlying41 iz3 rfl (by decide) rfl (by kernel_rfl) rfl (by simp [c3]) (by decide) (by decide)) ?_
       refine XL_freeze 248 (T := 3) (sz := 1) (els := ([1000, 1001, 0, 999]).map c3) (s1 := ⟨.pt 80000 0 :: .bot :: .pt 16 0 :: I a4 :: I d5 :: bt 8 (I y7.1 :: bt 14 (Bo (eqI y7.1 2) :: .bot :: .pt 80000 0 :: .c (.sl (([1000, 1001, 0, 999]).map c3)) :: bt 31 [])), [(16, .box [Ti 0, Ti 0, Ti 0]), (80000, .pbox (σ 80000) [.sl (y7.2.1.map c5), Ti y7.2.2.1, .v (.int .u64 y7.2.2.2)])]⟩) (by kernel_rfl) (by kernel_rfl) ?_
       refine XL_cons rfl (X_callR (E' := [(16, .box [Ti 0, Ti 0, Ti 0]), (80000, .pbox (σ 80000) [.sl (y15.2.1.map c5), Ti y15.2.2.1, .v (.int .u64 y15.2.2.2)])]) [(80000, 80000)] 32 (s_spec_l1Cur_among hy15) cf_spec_l1Cur_among rfl rfl (by kernel_rfl) rfl (mE_cons (by kernel_rfl) mE_nil) rfl (by kernel_rfl) rfl rfl (by kernel_rfl)) ?_
       refine L0 rfl rfl (E_assign (I y15.1) rfl (by kernel_rfl)) ?_
       refine XL_nil ?_
       kernel_rfl
      obtain rfl := some_inj h
      exact ⟨_, rfl, by rfl⟩
     ·have h := of_false h hc14
      refine V_sreg (mb 63 8589942813) [16, 80000] (s1 := ⟨.pt 80000 0 :: .bot :: .pt 16 0 :: I a4 :: I d5 :: bt 8 (I y7.1 :: bt 19 (Bo (eqI y7.1 3) :: bt 29 [])), [(16, .box [Ti 0, Ti 0, Ti 0]), (80000, .pbox (σ 80000) [.sl (y7.2.1.map c5), Ti y7.2.2.1, .v (.int .u64 y7.2.2.2)])]⟩) ?_ ?_
      ·refine L0 rfl rfl (Y0_eqw (k := .i64) (a := y7.1) (b := 3) rfl (by kernel_rfl) (by kernel_rfl)) ?_
       refine L0 rfl rfl (E_assign (Bo (eqI y7.1 3)) rfl (by kernel_rfl)) ?_
       refine XL_nil ?_
       kernel_rfl
      refine V_cond rfl (fun hc16 => ?_) (fun hc16 => ?_)
      ·have h := of_true h hc16
       refine V_sreg (mb 63 4) [16, 80000] (s1 := ⟨.bot :: .bot :: .pt 16 0 :: bt 60 [], [(16, .box [Ti a4, Ti a4, Ti d5]), (80000, .pbox (σ 80000) [.sl (y7.2.1.map c5), Ti y7.2.2.1, .v (.int .u64 y7.2.2.2)])]⟩) ?_ ?_
       ·refine L0 rfl rfl (E_move (I a4) rfl (by kernel_rfl)) ?_
        refine L0 rfl rfl (E_move (I a4) rfl (by kernel_rfl)) ?_
        refine L0 rfl rfl (E_move (I d5) rfl (by kernel_rfl)) ?_
        refine L0 rfl rfl (Y0_build (cs := [Ti a4, Ti a4, Ti d5]) pl25 bt25 rfl rfl (by kernel_rfl)) ?_
        refine XL_cons rfl (E_store (id := 16) (off := 0) (cs := [Ti 0, Ti 0, Ti 0]) (vc := [Ti a4, Ti a4, Ti d5]) [Ti a4, Ti a4, Ti d5] rfl rfl (by kernel_rfl) (by kernel_rfl) (by kernel_rfl) sz25 (Nat.le_of_ble_eq_true rfl) (by kernel_rfl)) ?_
        refine XL_nil ?_
        kernel_rfl
       refine V_ret ?_
       obtain rfl := some_inj h
       have h := hko6
       obtain rfl := some_inj h
       show PostR _ _ _ _ _ _
       exact ⟨⟨.inr rfl, rfl, rfl, rfl⟩, ⟨rfl, trivial⟩⟩
      ·have h := of_false h hc16
       obtain ⟨j17, hj17, h⟩ := of_bind h
       refine V_cutK (mb 63 549755813917) [16, 80000] (s1 := ⟨.pt 80000 0 :: .bot :: .pt 16 0 :: I a4 :: I d5 :: bt 34 (Bo j17 :: bt 23 []), [(16, .box [Ti 0, Ti 0, Ti 0]), (80000, .pbox (σ 80000) [.sl (y7.2.1.map c5), Ti y7.2.2.1, .v (.int .u64 y7.2.2.2)])]⟩) ?_ ?_
       ·clear h
        have h := hj17
        clear hj17
        refine V_sreg (mb 63 549755822109) [16, 80000] (s1 := ⟨.pt 80000 0 :: .bot :: .pt 16 0 :: I a4 :: I d5 :: bt 8 (I y7.1 :: bt 25 (Bo (eqI y7.1 4) :: bt 23 [])), [(16, .box [Ti 0, Ti 0, Ti 0]), (80000, .pbox (σ 80000) [.sl (y7.2.1.map c5), Ti y7.2.2.1, .v (.int .u64 y7.2.2.2)])]⟩) ?_ ?_
        ·refine L0 rfl rfl (Y0_eqw (k := .i64) (a := y7.1) (b := 4) rfl (by kernel_rfl) (by kernel_rfl)) ?_
         refine L0 rfl rfl (E_assign (Bo (eqI y7.1 4)) rfl (by kernel_rfl)) ?_
         refine XL_nil ?_
         kernel_rfl
        refine V_cond rfl (fun hc18 => ?_) (fun hc18 => ?_)
        ·have h := of_true h hc18
         refine V_skip ?_
         obtain rfl := some_inj h
         show St.keep _ _ _ = _
         rfl
        ·have h := of_false h hc18
         refine V_reg (mb 63 549755813917) [16, 80000] (s1 := ⟨.pt 80000 0 :: .bot :: .pt 16 0 :: I a4 :: I d5 :: bt 34 (Bo (eqI y7.1 5) :: bt 23 []), [(16, .box [Ti 0, Ti 0, Ti 0]), (80000, .pbox (σ 80000) [.sl (y7.2.1.map c5), Ti y7.2.2.1, .v (.int .u64 y7.2.2.2)])]⟩) ?_ ?_
         ·refine L0 rfl rfl (Y0_eqw (k := .i64) (a := y7.1) (b := 5) rfl (by kernel_rfl) (by kernel_rfl)) ?_
          refine L0 rfl rfl (E_assign (Bo (eqI y7.1 5)) rfl (by kernel_rfl)) ?_
          refine XL_nil ?_
          kernel_rfl
         obtain rfl := some_inj h
         show St.keep _ _ _ = _
         rfl
       refine V_cond rfl (fun hc19 => ?_) (fun hc19 => ?_)
       ·have h := of_true h hc19
        obtain ⟨y20, hy20, h⟩ := of_bind h
        obtain ⟨k21, hk21, h⟩ := of_sI h
        refine V_sreg (mb 63 61) [16, 80000] (s1 := ⟨.pt 80000 0 :: .bot :: .pt 16 0 :: I a4 :: I d5 :: I k21 :: bt 57 [], [(16, .box [Ti 0, Ti 0, Ti 0]), (80000, .pbox (σ 80000) [.sl (y20.2.1.map c5), Ti y20.2.2.1, .v (.int .u64 y20.2.2.2)])]⟩) ?_ ?_
        ·refine L0 rfl rfl (E_move (.pt 80000 0) rfl (by kernel_rfl)) ?_
         refine XL_cons rfl (X_callR (E' := [(16, .box [Ti 0, Ti 0, Ti 0]), (80000, .pbox (σ 80000) [.sl (y20.2.1.map c5), Ti y20.2.2.1, .v (.int .u64 y20.2.2.2)])]) [(80000, 80000)] 43 (s_spec_l1Cur_pick hy20) cf_spec_l1Cur_pick rfl rfl (by kernel_rfl) rfl (mE_cons (by kernel_rfl) mE_nil) rfl (by kernel_rfl) rfl rfl (by kernel_rfl)) ?_
         refine L0 rfl rfl (Y0_add64 (a := 1) (b := y20.1) rfl (by kernel_rfl) (by kernel_rfl)) ?_
         refine L0 rfl rfl (E_assign (I (w64 (1 + y20.1))) rfl (by kernel_rfl)) ?_
         refine XL_nil ?_
         subst hk21
         kernel_rfl
        obtain ⟨y22, hy22, h⟩ := of_bind h
        obtain ⟨f23, hf23, h⟩ := of_sI h
        obtain ⟨f24, hf24, h⟩ := of_sI h
        obtain ⟨f25, hf25, h⟩ := of_sI h
        refine V_sreg (mb 63 4) [16, 80000] (s1 := ⟨.bot :: .bot :: .pt 16 0 :: bt 60 [], [(16, .box [Ti f23, Ti f24, Ti f25]), (80000, .pbox (σ 80000) [.sl (y22.2.1.map c5), Ti y22.2.2.1, .v (.int .u64 y22.2.2.2)])]⟩) ?_ ?_
        ·refine L0 rfl rfl (E_move (I k21) rfl (by kernel_rfl)) ?_
         refine L0 rfl rfl (E_move (I a4) rfl (by kernel_rfl)) ?_
         refine L0 rfl rfl (Y0_mul64 (a := k21) (b := a4) rfl (by kernel_rfl) (by kernel_rfl)) ?_
         refine L0 rfl rfl (E_move (I k21) rfl (by kernel_rfl)) ?_
         refine L0 rfl rfl (E_move (.pt 80000 0) rfl (by kernel_rfl)) ?_
         refine L0 rfl rfl (E_move (I a4) rfl (by kernel_rfl)) ?_
         refine XL_cons rfl (X_callR (E' := [(16, .box [Ti 0, Ti 0, Ti 0]), (80000, .pbox (σ 80000) [.sl (y22.2.1.map c5), Ti y22.2.2.1, .v (.int .u64 y22.2.2.2)])]) [(80000, 80000)] 51 (s_spec_l1Cur_pick hy22) cf_spec_l1Cur_pick rfl rfl (by kernel_rfl) rfl (mE_cons (by kernel_rfl) mE_nil) rfl (by kernel_rfl) rfl rfl (by kernel_rfl)) ?_
         refine L0 rfl rfl (Y0_mul64 (a := k21) (b := y22.1) rfl (by kernel_rfl) (by kernel_rfl)) ?_
         refine L0 rfl rfl (E_move (I k21) rfl (by kernel_rfl)) ?_
         refine L0 rfl rfl (E_move (I d5) rfl (by kernel_rfl)) ?_
         refine L0 rfl rfl (Y0_mul64 (a := k21) (b := d5) rfl (by kernel_rfl) (by kernel_rfl)) ?_
         refine L0 rfl rfl (Y0_build (cs := [Ti (w64 (k21 * a4)), Ti (w64 (k21 * y22.1)), Ti (w64 (k21 * d5))]) pl25 bt25 rfl rfl (by kernel_rfl)) ?_
         refine XL_cons rfl (E_store (id := 16) (off := 0) (cs := [Ti 0, Ti 0, Ti 0]) (vc := [Ti (w64 (k21 * a4)), Ti (w64 (k21 * y22.1)), Ti (w64 (k21 * d5))]) [Ti (w64 (k21 * a4)), Ti (w64 (k21 * y22.1)), Ti (w64 (k21 * d5))] rfl rfl (by kernel_rfl) (by kernel_rfl) (by kernel_rfl) sz25 (Nat.le_of_ble_eq_true rfl) (by kernel_rfl)) ?_
         refine XL_nil ?_
         subst hf23 hf24 hf25
         kernel_rfl
        refine V_ret ?_
        obtain rfl := some_inj h
        have h := hko6
        obtain rfl := some_inj h
        show PostR _ _ _ _ _ _
        exact ⟨⟨.inr rfl, rfl, rfl, rfl⟩, ⟨rfl, trivial⟩⟩
       ·have h := of_false h hc19
        refine V_skip ?_
        obtain rfl := some_inj h
        exact ⟨_, rfl, by rfl⟩
  rintro o6 rfl
  have h := hko6
  clear hko6
  obtain ⟨y26, hy26, h⟩ := of_bind h
  refine V_sreg (mb 63 4) [16, 80000] (s1 := ⟨.bot :: .bot :: .pt 16 0 :: bt 60 [], [(16, .box [Ti o6.1, Ti y26.1, Ti o6.2.1]), (80000, .pbox (σ 80000) [.sl (y26.2.1.map c5), Ti y26.2.2.1, .v (.int .u64 y26.2.2.2)])]⟩) ?_ ?_
  ·refine L0 rfl rfl (E_move (I o6.1) rfl (by kernel_rfl)) ?_
   refine L0 rfl rfl (E_move (.pt 80000 0) rfl (by kernel_rfl)) ?_
   refine L0 rfl rfl (E_move (I o6.1) rfl (by kernel_rfl)) ?_
   refine XL_cons rfl (X_callR (E' := [(16, .box [Ti 0, Ti 0, Ti 0]), (80000, .pbox (σ 80000) [.sl (y26.2.1.map c5), Ti y26.2.2.1, .v (.int .u64 y26.2.2.2)])]) [(80000, 80000)] 60 (s_spec_l1Cur_pick hy26) cf_spec_l1Cur_pick rfl rfl (by kernel_rfl) rfl (mE_cons (by kernel_rfl) mE_nil) rfl (by kernel_rfl) rfl rfl (by kernel_rfl)) ?_
   refine L0 rfl rfl (E_move (I o6.2.1) rfl (by kernel_rfl)) ?_
   refine L0 rfl rfl (Y0_build (cs := [Ti o6.1, Ti y26.1, Ti o6.2.1]) pl25 bt25 rfl rfl (by kernel_rfl)) ?_
   refine XL_cons rfl (E_store (id := 16) (off := 0) (cs := [Ti 0, Ti 0, Ti 0]) (vc := [Ti o6.1, Ti y26.1, Ti o6.2.1]) [Ti o6.1, Ti y26.1, Ti o6.2.1] rfl rfl (by kernel_rfl) (by kernel_rfl) (by kernel_rfl) sz25 (Nat.le_of_ble_eq_true rfl) (by kernel_rfl)) ?_
   refine XL_nil ?_
   kernel_rfl
  refine V_ret ?_
  obtain rfl := some_inj h
  show PostR _ _ _ _ _ _
  exact ⟨⟨.inr rfl, rfl, rfl, rfl⟩, ⟨rfl, trivial⟩⟩
theorem cf_spec_DrawSumOfLattices : ∀ args w, (callFunc 55 args).run Try.prog w = .ok (.enter 55 args) w := run_callFunc Try.func55 (by kernel_rfl) (by kernel_rfl)
set_option maxRecDepth 100000 in
set_option maxHeartbeats 400000 in
theorem s_spec_DrawSumOfLattices {code1 : List Int} {r : (((Int × Int × Int)) × ((Int × Int × Int)))} (h : r_spec_DrawSumOfLattices code1 = some r) : CallS Try.prog 55 [.c (.sl (code1.map c5))] (.tc (.ag [Ti r.1.1, Ti r.1.2.1, Ti r.1.2.2]) (.tc (.ag [Ti r.2.1, Ti r.2.2.1, Ti r.2.2.2]) .tn)) [] := by
  refine CallS_of_text (rs := [.w 2 3, .w 3 3]) (vs := [.cell 2 25, .cell 3 25]) Try.func55 rfl rfl (.cons ⟨rfl, wd25⟩ (.cons ⟨rfl, wd25⟩ FitsL.nil)) (by decide) 14 rfl ?_
  unfold r_spec_DrawSumOfLattices at h
  show V _ _ ⟨.c (.sl (code1.map c5)) :: bt 13 [], []⟩ _
  refine V_sreg (mb 14 13) [24, 16] (s1 := ⟨.c (.sl (code1.map c5)) :: .bot :: .pt 16 0 :: .pt 24 0 :: bt 10 [], [(24, .box [Ti 0, Ti 0, Ti 0]), (16, .box [Ti 0, Ti 0, Ti 0])]⟩) ?_ ?_
  ·refine L1 rfl rfl (Y1_alloc (z := zv25) rfl zf25 rfl) ?_
   refine L1 rfl rfl (Y1_alloc (z := zv25) rfl zf25 rfl) ?_
   refine XL_nil ?_
   kernel_rfl
  refine V_sreg (mb 14 28) [64, 24, 16] (s1 := ⟨.bot :: .bot :: .pt 16 0 :: .pt 24 0 :: .pt 64 0 :: bt 9 [], [(64, .box [.sl (code1.map c5), Ti 0, .v (.int .u64 0)]), (24, .box [Ti 0, Ti 0, Ti 0]), (16, .box [Ti 0, Ti 0, Ti 0])]⟩) ?_ ?_
  ·refine L0 rfl rfl (E_move (.c (.sl (code1.map c5))) rfl (by kernel_rfl)) ?_
   refine L0 rfl rfl (Y0_build (cs := [.sl (code1.map c5), Ti 0, .v (.int .u64 0)]) pl98 bt98 rfl rfl (by kernel_rfl)) ?_
   refine L1 rfl rfl (Y1_box (cs := [.sl (code1.map c5), Ti 0, .v (.int .u64 0)]) rfl (by kernel_rfl)) ?_
   refine L0 rfl rfl (E_assign (.pt 64 0) rfl (by kernel_rfl)) ?_
   refine XL_nil ?_
   kernel_rfl
  obtain ⟨y2, hy2, h⟩ := of_bind h
  refine V_sreg (mb 14 60) [40, 64, 24, 16] (s1 := ⟨.bot :: .bot :: .pt 16 0 :: .pt 24 0 :: .pt 64 0 :: .pt 40 0 :: bt 8 [], [(40, .box [Ti y2.1.1, Ti y2.1.2.1, Ti y2.1.2.2]), (64, .box [.sl (y2.2.1.map c5), Ti y2.2.2.1, .v (.int .u64 y2.2.2.2)]), (24, .box [Ti 0, Ti 0, Ti 0]), (16, .box [Ti 0, Ti 0, Ti 0])]⟩) ?_ ?_
  ·refine L0 rfl rfl (E_move (.pt 64 0) rfl (by kernel_rfl)) ?_
   refine XL_cons rfl (X_callR (E' := [(64, .box [.sl (y2.2.1.map c5), Ti y2.2.2.1, .v (.int .u64 y2.2.2.2)]), (24, .box [Ti 0, Ti 0, Ti 0]), (16, .box [Ti 0, Ti 0, Ti 0])]) [(80000, 64)] 10 (s_spec_l1Cur_lattice hy2) cf_spec_l1Cur_lattice rfl rfl (by kernel_rfl) rfl (mE_cons (by kernel_rfl) mE_nil) rfl (by kernel_rfl) rfl rfl (by kernel_rfl)) ?_
   refine L1 rfl rfl (Y1_alloc (z := zv25) rfl zf25 rfl) ?_
   refine XL_cons rfl (E_store (id := 40) (off := 0) (cs := [Ti 0, Ti 0, Ti 0]) (vc := [Ti y2.1.1, Ti y2.1.2.1, Ti y2.1.2.2]) [Ti y2.1.1, Ti y2.1.2.1, Ti y2.1.2.2] rfl rfl (by kernel_rfl) (by kernel_rfl) (by kernel_rfl) sz25 (Nat.le_of_ble_eq_true rfl) (by kernel_rfl)) ?_
   refine XL_nil ?_
   kernel_rfl
  obtain ⟨y3, hy3, h⟩ := of_bind h
  refine V_sdagK (mb 14 12) [24, 16] [0, 0, 2, 7, 15] [(0, ⟨.bot :: .bot :: .pt 16 0 :: .pt 24 0 :: .pt 64 0 :: .pt 40 0 :: bt 8 [], [(40, .box [Ti y2.1.1, Ti y2.1.2.1, Ti y2.1.2.2]), (64, .box [.sl (y2.2.1.map c5), Ti y2.2.2.1, .v (.int .u64 y2.2.2.2)]), (24, .box [Ti 0, Ti 0, Ti 0]), (16, .box [Ti 0, Ti 0, Ti 0])]⟩), (1, ⟨.bot :: .bot :: .pt 16 0 :: .pt 24 0 :: .pt 64 0 :: .pt 40 0 :: bt 5 (.ag [Ti y2.1.1, Ti y2.1.2.1, Ti y2.1.2.2] :: .bot :: .bot :: []), [(40, .box [Ti y2.1.1, Ti y2.1.2.1, Ti y2.1.2.2]), (64, .box [.sl (y2.2.1.map c5), Ti y2.2.2.1, .v (.int .u64 y2.2.2.2)]), (24, .box [Ti 0, Ti 0, Ti 0]), (16, .box [Ti 0, Ti 0, Ti 0])]⟩), (2, ⟨.bot :: .bot :: .pt 16 0 :: .pt 24 0 :: .pt 64 0 :: .pt 40 0 :: bt 6 (.pt 64 0 :: .bot :: []), [(40, .box [Ti y2.1.1, Ti y2.1.2.1, Ti y2.1.2.2]), (64, .box [.sl (y2.2.1.map c5), Ti y2.2.2.1, .v (.int .u64 y2.2.2.2)]), (24, .box [Ti 0, Ti 0, Ti 0]), (16, .box [Ti 0, Ti 0, Ti 0])]⟩), (3, ⟨.bot :: .bot :: .pt 16 0 :: .pt 24 0 :: .pt 64 0 :: .pt 40 0 :: bt 5 (.ag [Ti y2.1.1, Ti y2.1.2.1, Ti y2.1.2.2] :: .pt 64 0 :: .bot :: []), [(40, .box [Ti y2.1.1, Ti y2.1.2.1, Ti y2.1.2.2]), (64, .box [.sl (y2.2.1.map c5), Ti y2.2.2.1, .v (.int .u64 y2.2.2.2)]), (24, .box [Ti 0, Ti 0, Ti 0]), (16, .box [Ti 0, Ti 0, Ti 0])]⟩), (6, ⟨.bot :: .bot :: .pt 16 0 :: .pt 24 0 :: .pt 64 0 :: .pt 40 0 :: bt 6 (.pt 64 0 :: .ag [Ti y3.1.1, Ti y3.1.2.1, Ti y3.1.2.2] :: []), [(40, .box [Ti y2.1.1, Ti y2.1.2.1, Ti y2.1.2.2]), (64, .box [.sl (y3.2.1.map c5), Ti y3.2.2.1, .v (.int .u64 y3.2.2.2)]), (24, .box [Ti 0, Ti 0, Ti 0]), (16, .box [Ti 0, Ti 0, Ti 0])]⟩), (7, ⟨.bot :: .bot :: .pt 16 0 :: .pt 24 0 :: .pt 64 0 :: .pt 40 0 :: bt 5 (.ag [Ti y2.1.1, Ti y2.1.2.1, Ti y2.1.2.2] :: .pt 64 0 :: .ag [Ti y3.1.1, Ti y3.1.2.1, Ti y3.1.2.2] :: []), [(40, .box [Ti y2.1.1, Ti y2.1.2.1, Ti y2.1.2.2]), (64, .box [.sl (y3.2.1.map c5), Ti y3.2.2.1, .v (.int .u64 y3.2.2.2)]), (24, .box [Ti 0, Ti 0, Ti 0]), (16, .box [Ti 0, Ti 0, Ti 0])]⟩), (15, ⟨.bot :: .bot :: .pt 16 0 :: .pt 24 0 :: .pt 64 0 :: .pt 40 0 :: bt 5 (.ag [Ti y2.1.1, Ti y2.1.2.1, Ti y2.1.2.2] :: .pt 64 0 :: .ag [Ti y3.1.1, Ti y3.1.2.1, Ti y3.1.2.2] :: []), [(40, .box [Ti y2.1.1, Ti y2.1.2.1, Ti y2.1.2.2]), (64, .box [.sl (y3.2.1.map c5), Ti y3.2.2.1, .v (.int .u64 y3.2.2.2)]), (24, .box [Ti 0, Ti 0, Ti 0]), (16, .box [Ti y2.1.1, Ti y2.1.2.1, Ti y2.1.2.2])]⟩), (31, ⟨.bot :: .bot :: .pt 16 0 :: .pt 24 0 :: .pt 64 0 :: .pt 40 0 :: bt 5 (.ag [Ti y2.1.1, Ti y2.1.2.1, Ti y2.1.2.2] :: .pt 64 0 :: .ag [Ti y3.1.1, Ti y3.1.2.1, Ti y3.1.2.2] :: []), [(40, .box [Ti y2.1.1, Ti y2.1.2.1, Ti y2.1.2.2]), (64, .box [.sl (y3.2.1.map c5), Ti y3.2.2.1, .v (.int .u64 y3.2.2.2)]), (24, .box [Ti y3.1.1, Ti y3.1.2.1, Ti y3.1.2.2]), (16, .box [Ti y2.1.1, Ti y2.1.2.1, Ti y2.1.2.2])]⟩)] (s1 := ⟨.bot :: .bot :: .pt 16 0 :: .pt 24 0 :: bt 10 [], [(24, .box [Ti y3.1.1, Ti y3.1.2.1, Ti y3.1.2.2]), (16, .box [Ti y2.1.1, Ti y2.1.2.1, Ti y2.1.2.2])]⟩) (by kernel_rfl) (by kernel_rfl) (by kernel_rfl) ?_ ?_
  ·refine tab_row [1, 0] (by kernel_rfl) (by kernel_rfl) ?_ ?_
   ·refine step_cons (s2 := ⟨.bot :: .bot :: .pt 16 0 :: .pt 24 0 :: .pt 64 0 :: .pt 40 0 :: bt 6 (.pt 64 0 :: .bot :: []), [(40, .box [Ti y2.1.1, Ti y2.1.2.1, Ti y2.1.2.2]), (64, .box [.sl (y2.2.1.map c5), Ti y2.2.2.1, .v (.int .u64 y2.2.2.2)]), (24, .box [Ti 0, Ti 0, Ti 0]), (16, .box [Ti 0, Ti 0, Ti 0])]⟩) rfl rfl (X_of_Y0 rfl (E_move (.pt 64 0) rfl (by kernel_rfl))) (by kernel_rfl) rfl (hE_cons (by kernel_rfl) (hE_cons (by kernel_rfl) (hE_cons (by kernel_rfl) (hE_cons (by kernel_rfl) hE_nil)))) ?_
    refine step_cons (s2 := ⟨.bot :: .bot :: .pt 16 0 :: .pt 24 0 :: .pt 64 0 :: .pt 40 0 :: bt 5 (.ag [Ti y2.1.1, Ti y2.1.2.1, Ti y2.1.2.2] :: .bot :: .bot :: []), [(40, .box [Ti y2.1.1, Ti y2.1.2.1, Ti y2.1.2.2]), (64, .box [.sl (y2.2.1.map c5), Ti y2.2.2.1, .v (.int .u64 y2.2.2.2)]), (24, .box [Ti 0, Ti 0, Ti 0]), (16, .box [Ti 0, Ti 0, Ti 0])]⟩) rfl rfl (X_of_Y0 rfl (E_loadn (cs := [Ti y2.1.1, Ti y2.1.2.1, Ti y2.1.2.2]) [Ti y2.1.1, Ti y2.1.2.1, Ti y2.1.2.2] wd25 rfl (by kernel_rfl) (Nat.le_of_ble_eq_true rfl) (by kernel_rfl))) (by kernel_rfl) rfl (hE_cons (by kernel_rfl) (hE_cons (by kernel_rfl) (hE_cons (by kernel_rfl) (hE_cons (by kernel_rfl) hE_nil)))) ?_
    exact step_nil
   refine tab_row [1] (by kernel_rfl) (by kernel_rfl) ?_ ?_
   ·refine step_cons (s2 := ⟨.bot :: .bot :: .pt 16 0 :: .pt 24 0 :: .pt 64 0 :: .pt 40 0 :: bt 5 (.ag [Ti y2.1.1, Ti y2.1.2.1, Ti y2.1.2.2] :: .pt 64 0 :: .bot :: []), [(40, .box [Ti y2.1.1, Ti y2.1.2.1, Ti y2.1.2.2]), (64, .box [.sl (y2.2.1.map c5), Ti y2.2.2.1, .v (.int .u64 y2.2.2.2)]), (24, .box [Ti 0, Ti 0, Ti 0]), (16, .box [Ti 0, Ti 0, Ti 0])]⟩) rfl rfl (X_of_Y0 rfl (E_move (.pt 64 0) rfl (by kernel_rfl))) (by kernel_rfl) rfl (hE_cons (by kernel_rfl) (hE_cons (by kernel_rfl) (hE_cons (by kernel_rfl) (hE_cons (by kernel_rfl) hE_nil)))) ?_
    exact step_nil
   refine tab_row [2, 0] (by kernel_rfl) (by kernel_rfl) ?_ ?_
   ·refine step_cons (s2 := ⟨.bot :: .bot :: .pt 16 0 :: .pt 24 0 :: .pt 64 0 :: .pt 40 0 :: bt 6 (.pt 64 0 :: .ag [Ti y3.1.1, Ti y3.1.2.1, Ti y3.1.2.2] :: []), [(40, .box [Ti y2.1.1, Ti y2.1.2.1, Ti y2.1.2.2]), (64, .box [.sl (y3.2.1.map c5), Ti y3.2.2.1, .v (.int .u64 y3.2.2.2)]), (24, .box [Ti 0, Ti 0, Ti 0]), (16, .box [Ti 0, Ti 0, Ti 0])]⟩) rfl rfl (X_callR (E' := [(40, .box [Ti y2.1.1, Ti y2.1.2.1, Ti y2.1.2.2]), (64, .box [.sl (y3.2.1.map c5), Ti y3.2.2.1, .v (.int .u64 y3.2.2.2)]), (24, .box [Ti 0, Ti 0, Ti 0]), (16, .box [Ti 0, Ti 0, Ti 0])]) [(80000, 64)] 13 (s_spec_l1Cur_lattice hy3) cf_spec_l1Cur_lattice rfl rfl (by kernel_rfl) rfl (mE_cons (by kernel_rfl) mE_nil) rfl (by kernel_rfl) rfl rfl (by kernel_rfl)) (by kernel_rfl) rfl (hE_cons (by kernel_rfl) (hE_cons (by kernel_rfl) (hE_cons (by kernel_rfl) (hE_cons (by kernel_rfl) hE_nil)))) ?_
    refine step_cons (s2 := ⟨.bot :: .bot :: .pt 16 0 :: .pt 24 0 :: .pt 64 0 :: .pt 40 0 :: bt 5 (.ag [Ti y2.1.1, Ti y2.1.2.1, Ti y2.1.2.2] :: .pt 64 0 :: .bot :: []), [(40, .box [Ti y2.1.1, Ti y2.1.2.1, Ti y2.1.2.2]), (64, .box [.sl (y2.2.1.map c5), Ti y2.2.2.1, .v (.int .u64 y2.2.2.2)]), (24, .box [Ti 0, Ti 0, Ti 0]), (16, .box [Ti 0, Ti 0, Ti 0])]⟩) rfl rfl (X_of_Y0 rfl (E_loadn (cs := [Ti y2.1.1, Ti y2.1.2.1, Ti y2.1.2.2]) [Ti y2.1.1, Ti y2.1.2.1, Ti y2.1.2.2] wd25 rfl (by kernel_rfl) (Nat.le_of_ble_eq_true rfl) (by kernel_rfl))) (by kernel_rfl) rfl (hE_cons (by kernel_rfl) (hE_cons (by kernel_rfl) (hE_cons (by kernel_rfl) (hE_cons (by kernel_rfl) hE_nil)))) ?_
    exact step_nil
   refine tab_row [2] (by kernel_rfl) (by kernel_rfl) ?_ ?_
   ·refine step_cons (s2 := ⟨.bot :: .bot :: .pt 16 0 :: .pt 24 0 :: .pt 64 0 :: .pt 40 0 :: bt 5 (.ag [Ti y2.1.1, Ti y2.1.2.1, Ti y2.1.2.2] :: .pt 64 0 :: .ag [Ti y3.1.1, Ti y3.1.2.1, Ti y3.1.2.2] :: []), [(40, .box [Ti y2.1.1, Ti y2.1.2.1, Ti y2.1.2.2]), (64, .box [.sl (y3.2.1.map c5), Ti y3.2.2.1, .v (.int .u64 y3.2.2.2)]), (24, .box [Ti 0, Ti 0, Ti 0]), (16, .box [Ti 0, Ti 0, Ti 0])]⟩) rfl rfl (X_callR (E' := [(40, .box [Ti y2.1.1, Ti y2.1.2.1, Ti y2.1.2.2]), (64, .box [.sl (y3.2.1.map c5), Ti y3.2.2.1, .v (.int .u64 y3.2.2.2)]), (24, .box [Ti 0, Ti 0, Ti 0]), (16, .box [Ti 0, Ti 0, Ti 0])]) [(80000, 64)] 13 (s_spec_l1Cur_lattice hy3) cf_spec_l1Cur_lattice rfl rfl (by kernel_rfl) rfl (mE_cons (by kernel_rfl) mE_nil) rfl (by kernel_rfl) rfl rfl (by kernel_rfl)) (by kernel_rfl) rfl (hE_cons (by kernel_rfl) (hE_cons (by kernel_rfl) (hE_cons (by kernel_rfl) (hE_cons (by kernel_rfl) hE_nil)))) ?_
    exact step_nil
   refine tab_row [0] (by kernel_rfl) (by kernel_rfl) ?_ ?_
   ·refine step_cons (s2 := ⟨.bot :: .bot :: .pt 16 0 :: .pt 24 0 :: .pt 64 0 :: .pt 40 0 :: bt 5 (.ag [Ti y2.1.1, Ti y2.1.2.1, Ti y2.1.2.2] :: .pt 64 0 :: .ag [Ti y3.1.1, Ti y3.1.2.1, Ti y3.1.2.2] :: []), [(40, .box [Ti y2.1.1, Ti y2.1.2.1, Ti y2.1.2.2]), (64, .box [.sl (y3.2.1.map c5), Ti y3.2.2.1, .v (.int .u64 y3.2.2.2)]), (24, .box [Ti 0, Ti 0, Ti 0]), (16, .box [Ti 0, Ti 0, Ti 0])]⟩) rfl rfl (X_of_Y0 rfl (E_loadn (cs := [Ti y2.1.1, Ti y2.1.2.1, Ti y2.1.2.2]) [Ti y2.1.1, Ti y2.1.2.1, Ti y2.1.2.2] wd25 rfl (by kernel_rfl) (Nat.le_of_ble_eq_true rfl) (by kernel_rfl))) (by kernel_rfl) rfl (hE_cons (by kernel_rfl) (hE_cons (by kernel_rfl) (hE_cons (by kernel_rfl) (hE_cons (by kernel_rfl) hE_nil)))) ?_
    exact step_nil
   refine tab_row [3] (by kernel_rfl) (by kernel_rfl) ?_ ?_
   ·refine step_cons (s2 := ⟨.bot :: .bot :: .pt 16 0 :: .pt 24 0 :: .pt 64 0 :: .pt 40 0 :: bt 5 (.ag [Ti y2.1.1, Ti y2.1.2.1, Ti y2.1.2.2] :: .pt 64 0 :: .ag [Ti y3.1.1, Ti y3.1.2.1, Ti y3.1.2.2] :: []), [(40, .box [Ti y2.1.1, Ti y2.1.2.1, Ti y2.1.2.2]), (64, .box [.sl (y3.2.1.map c5), Ti y3.2.2.1, .v (.int .u64 y3.2.2.2)]), (24, .box [Ti 0, Ti 0, Ti 0]), (16, .box [Ti y2.1.1, Ti y2.1.2.1, Ti y2.1.2.2])]⟩) rfl rfl (E_store (id := 16) (off := 0) (cs := [Ti 0, Ti 0, Ti 0]) (vc := [Ti y2.1.1, Ti y2.1.2.1, Ti y2.1.2.2]) [Ti y2.1.1, Ti y2.1.2.1, Ti y2.1.2.2] rfl rfl (by kernel_rfl) (by kernel_rfl) (by kernel_rfl) sz25 (Nat.le_of_ble_eq_true rfl) (by kernel_rfl)) (by kernel_rfl) rfl (hE_cons (by kernel_rfl) (hE_cons (by kernel_rfl) (hE_cons (by kernel_rfl) (hE_cons (by kernel_rfl) hE_nil)))) ?_
    exact step_nil
   refine tab_row [4] (by kernel_rfl) (by kernel_rfl) ?_ ?_
   ·refine step_cons (s2 := ⟨.bot :: .bot :: .pt 16 0 :: .pt 24 0 :: .pt 64 0 :: .pt 40 0 :: bt 5 (.ag [Ti y2.1.1, Ti y2.1.2.1, Ti y2.1.2.2] :: .pt 64 0 :: .ag [Ti y3.1.1, Ti y3.1.2.1, Ti y3.1.2.2] :: []), [(40, .box [Ti y2.1.1, Ti y2.1.2.1, Ti y2.1.2.2]), (64, .box [.sl (y3.2.1.map c5), Ti y3.2.2.1, .v (.int .u64 y3.2.2.2)]), (24, .box [Ti y3.1.1, Ti y3.1.2.1, Ti y3.1.2.2]), (16, .box [Ti y2.1.1, Ti y2.1.2.1, Ti y2.1.2.2])]⟩) rfl rfl (E_store (id := 24) (off := 0) (cs := [Ti 0, Ti 0, Ti 0]) (vc := [Ti y3.1.1, Ti y3.1.2.1, Ti y3.1.2.2]) [Ti y3.1.1, Ti y3.1.2.1, Ti y3.1.2.2] rfl rfl (by kernel_rfl) (by kernel_rfl) (by kernel_rfl) sz25 (Nat.le_of_ble_eq_true rfl) (by kernel_rfl)) (by kernel_rfl) rfl (hE_cons (by kernel_rfl) (hE_cons (by kernel_rfl) (hE_cons (by kernel_rfl) (hE_cons (by kernel_rfl) hE_nil)))) ?_
    exact step_nil
   refine tab_last (by kernel_rfl) ?_ tab_nil
   kernel_rfl
  refine V_ret ?_
  obtain rfl := some_inj h
  show Post _ _ _ _ _
  exact ⟨.inr rfl, rfl, rfl, rfl⟩
theorem cf_spec_DrawMeetOfLattices : ∀ args w, (callFunc 9 args).run Try.prog w = .ok (.enter 9 args) w := run_callFunc Try.func9 (by kernel_rfl) (by kernel_rfl)
set_option maxRecDepth 100000 in
set_option maxHeartbeats 400000 in
theorem s_spec_DrawMeetOfLattices {code1 : List Int} {r : (((Int × Int × Int)) × ((Int × Int × Int)))} (h : r_spec_DrawMeetOfLattices code1 = some r) : CallS Try.prog 9 [.c (.sl (code1.map c5))] (.tc (.ag [Ti r.1.1, Ti r.1.2.1, Ti r.1.2.2]) (.tc (.ag [Ti r.2.1, Ti r.2.2.1, Ti r.2.2.2]) .tn)) [] := by
  refine CallS_of_text (rs := [.w 2 3, .w 3 3]) (vs := [.cell 2 25, .cell 3 25]) Try.func9 rfl rfl (.cons ⟨rfl, wd25⟩ (.cons ⟨rfl, wd25⟩ FitsL.nil)) (by decide) 8 rfl ?_
  unfold r_spec_DrawMeetOfLattices at h
  show V _ _ ⟨.c (.sl (code1.map c5)) :: bt 7 [], []⟩ _
  refine V_sreg (mb 8 13) [24, 16] (s1 := ⟨.c (.sl (code1.map c5)) :: .bot :: .pt 16 0 :: .pt 24 0 :: bt 4 [], [(24, .box [Ti 0, Ti 0, Ti 0]), (16, .box [Ti 0, Ti 0, Ti 0])]⟩) ?_ ?_
  ·refine L1 rfl rfl (Y1_alloc (z := zv25) rfl zf25 rfl) ?_
   refine L1 rfl rfl (Y1_alloc (z := zv25) rfl zf25 rfl) ?_
   refine XL_nil ?_
   kernel_rfl
  obtain ⟨y2, hy2, h⟩ := of_bind h
  refine V_sreg (mb 8 12) [24, 16] (s1 := ⟨.bot :: .bot :: .pt 16 0 :: .pt 24 0 :: bt 4 [], [(24, .box [Ti y2.2.1, Ti y2.2.2.1, Ti y2.2.2.2]), (16, .box [Ti y2.1.1, Ti y2.1.2.1, Ti y2.1.2.2])]⟩) ?_ ?_
  ·refine L0 rfl rfl (E_move (.c (.sl (code1.map c5))) rfl (by kernel_rfl)) ?_
   refine L1 rfl rfl (Y1_call (s_spec_DrawSumOfLattices hy2) cf_spec_DrawSumOfLattices rfl (by kernel_rfl)) ?_
   refine L0 rfl rfl (E_ext (n := 0) (.ag [Ti y2.1.1, Ti y2.1.2.1, Ti y2.1.2.2]) (.tc (.ag [Ti y2.2.1, Ti y2.2.2.1, Ti y2.2.2.2]) .tn) (.ag [Ti y2.1.1, Ti y2.1.2.1, Ti y2.1.2.2]) rfl (by kernel_rfl) (by kernel_rfl) (by intro hh; cases hh)) ?_
   refine L0 rfl rfl (E_ext (n := 1) (.ag [Ti y2.1.1, Ti y2.1.2.1, Ti y2.1.2.2]) (.tc (.ag [Ti y2.2.1, Ti y2.2.2.1, Ti y2.2.2.2]) .tn) (.ag [Ti y2.2.1, Ti y2.2.2.1, Ti y2.2.2.2]) rfl (by kernel_rfl) (by kernel_rfl) (by intro hh; cases hh)) ?_
   refine XL_cons rfl (E_store (id := 16) (off := 0) (cs := [Ti 0, Ti 0, Ti 0]) (vc := [Ti y2.1.1, Ti y2.1.2.1, Ti y2.1.2.2]) [Ti y2.1.1, Ti y2.1.2.1, Ti y2.1.2.2] rfl rfl (by kernel_rfl) (by kernel_rfl) (by kernel_rfl) sz25 (Nat.le_of_ble_eq_true rfl) (by kernel_rfl)) ?_
   refine XL_cons rfl (E_store (id := 24) (off := 0) (cs := [Ti 0, Ti 0, Ti 0]) (vc := [Ti y2.2.1, Ti y2.2.2.1, Ti y2.2.2.2]) [Ti y2.2.1, Ti y2.2.2.1, Ti y2.2.2.2] rfl rfl (by kernel_rfl) (by kernel_rfl) (by kernel_rfl) sz25 (Nat.le_of_ble_eq_true rfl) (by kernel_rfl)) ?_
   refine XL_nil ?_
   kernel_rfl
  refine V_ret ?_
  obtain rfl := some_inj h
  show Post _ _ _ _ _
  exact ⟨.inr rfl, rfl, rfl, rfl⟩
theorem cf_impl_isLattice : ∀ args w, (callFunc 56 args).run Try.prog w = .ok (.enter 56 args) w := run_callFunc Try.func56 (by kernel_rfl) (by kernel_rfl)
set_option maxRecDepth 100000 in
set_option maxHeartbeats 400000 in
theorem s_impl_isLattice {l1 : (Int × Int × Int)} {r : Bool} (h : r_impl_isLattice l1 = some r) : CallS Try.prog 56 [.ag [Ti l1.1, Ti l1.2.1, Ti l1.2.2]] (Bo r) [] := by
  refine CallS_of_text (rs := [.t 2]) (vs := [.tmp 2]) Try.func56 rfl rfl (.cons rfl FitsL.nil) (by decide) 33 rfl ?_
  unfold r_impl_isLattice at h
  show V _ _ ⟨.ag [Ti l1.1, Ti l1.2.1, Ti l1.2.2] :: bt 32 [], []⟩ _
  refine V_sreg (mb 33 2) [8] (s1 := ⟨.bot :: .pt 8 0 :: bt 31 [], [(8, .box [Ti l1.1, Ti l1.2.1, Ti l1.2.2])]⟩) ?_ ?_
  ·refine L1 rfl rfl (Y1_box (cs := [Ti l1.1, Ti l1.2.1, Ti l1.2.2]) rfl (by kernel_rfl)) ?_
   refine L0 rfl rfl (E_assign (Bo false) rfl (by kernel_rfl)) ?_
   refine XL_nil ?_
   kernel_rfl
  obtain ⟨t7, ht7, h⟩ := of_bind h
  have ht7 := some_inj ht7
  refine V_sreg (mb 33 4) [] (s1 := ⟨.bot :: .bot :: Bo t7 :: bt 30 [], []⟩) ?_ ?_
  ·refine L0 rfl rfl (E_field (.pt 8 0) Try.underlying25 rfl sz3 rfl (by kernel_rfl) (by intro hh; cases hh)) ?_
   refine L0 rfl rfl (Y0_load1 (c := Ti l1.1) (cs := [Ti l1.2.1, Ti l1.2.2]) sc3 rfl (by kernel_rfl)) ?_
   refine L0 rfl rfl (Y0_gew (k := .i64) (a := l1.1) (b := 1) rfl (by kernel_rfl) (by kernel_rfl)) ?_
   refine L0 rfl rfl (E_move (Bo (leI 1 l1.1)) rfl (by kernel_rfl)) ?_
   refine XL_split (leI 1 l1.1) (fun hc2 => ?_) (fun hc2 => ?_)
   ·refine XL_takeC _ rfl rfl (by kernel_rfl) hc2 (X_of_Y0 rfl (E_field (.pt 8 0) Try.underlying25 rfl sz3 rfl (by kernel_rfl) (by intro hh; cases hh))) ?_
    refine XL_takeC _ rfl rfl (by kernel_rfl) hc2 (X_of_Y0 rfl (Y0_load1 (c := Ti l1.1) (cs := [Ti l1.2.1, Ti l1.2.2]) sc3 rfl (by kernel_rfl))) ?_
    refine XL_takeC _ rfl rfl (by kernel_rfl) hc2 (X_of_Y0 rfl (Y0_lew (k := .i64) (a := l1.1) (b := 1000) rfl (by kernel_rfl) (by kernel_rfl))) ?_
    refine XL_cons rfl (X_of_Y0 rfl (Y0_pick1 (b := leI 1 l1.1) (p := leI l1.1 1000) (q := false) rfl (by kernel_rfl) hc2 (by kernel_rfl))) ?_
    refine L0 rfl rfl (E_move (Bo (bif (leI 1 l1.1) then (leI l1.1 1000) else false)) rfl (by kernel_rfl)) ?_
    refine XL_split (bif (leI 1 l1.1) then (leI l1.1 1000) else false) (fun hc3 => ?_) (fun hc3 => ?_)
    ·refine XL_takeC _ rfl rfl (by kernel_rfl) hc3 (X_of_Y0 rfl (E_field (.pt 8 2) Try.underlying25 rfl sz3 rfl (by kernel_rfl) (by intro hh; cases hh))) ?_
     refine XL_takeC _ rfl rfl (by kernel_rfl) hc3 (X_of_Y0 rfl (Y0_load1 (c := Ti l1.2.2) (cs := []) sc3 rfl (by kernel_rfl))) ?_
     refine XL_takeC _ rfl rfl (by kernel_rfl) hc3 (X_of_Y0 rfl (Y0_gew (k := .i64) (a := l1.2.2) (b := 1) rfl (by kernel_rfl) (by kernel_rfl))) ?_
     refine XL_cons rfl (X_of_Y0 rfl (Y0_pick1 (b := bif (leI 1 l1.1) then (leI l1.1 1000) else false) (p := leI 1 l1.2.2) (q := false) rfl (by kernel_rfl) hc3 (by kernel_rfl))) ?_
     refine L0 rfl rfl (E_move (Bo (bif (bif (leI 1 l1.1) then (leI l1.1 1000) else false) then (leI 1 l1.2.2) else false)) rfl (by kernel_rfl)) ?_
     refine XL_split (bif (bif (leI 1 l1.1) then (leI l1.1 1000) else false) then (leI 1 l1.2.2) else false) (fun hc4 => ?_) (fun hc4 => ?_)
     ·refine XL_takeC _ rfl rfl (by kernel_rfl) hc4 (X_of_Y0 rfl (E_field (.pt 8 2) Try.underlying25 rfl sz3 rfl (by kernel_rfl) (by intro hh; cases hh))) ?_
      refine XL_takeC _ rfl rfl (by kernel_rfl) hc4 (X_of_Y0 rfl (Y0_load1 (c := Ti l1.2.2) (cs := []) sc3 rfl (by kernel_rfl))) ?_
      refine XL_takeC _ rfl rfl (by kernel_rfl) hc4 (X_of_Y0 rfl (Y0_lew (k := .i64) (a := l1.2.2) (b := 1000) rfl (by kernel_rfl) (by kernel_rfl))) ?_
      refine XL_cons rfl (X_of_Y0 rfl (Y0_pick1 (b := bif (bif (leI 1 l1.1) then (leI l1.1 1000) else false) then (leI 1 l1.2.2) else false) (p := leI l1.2.2 1000) (q := false) rfl (by kernel_rfl) hc4 (by kernel_rfl))) ?_
      refine L0 rfl rfl (E_move (Bo (bif (bif (bif (leI 1 l1.1) then (leI l1.1 1000) else false) then (leI 1 l1.2.2) else false) then (leI l1.2.2 1000) else false)) rfl (by kernel_rfl)) ?_
      refine XL_split (bif (bif (bif (leI 1 l1.1) then (leI l1.1 1000) else false) then (leI 1 l1.2.2) else false) then (leI l1.2.2 1000) else false) (fun hc5 => ?_) (fun hc5 => ?_)
      ·refine XL_takeC _ rfl rfl (by kernel_rfl) hc5 (X_of_Y0 rfl (E_field (.pt 8 1) Try.underlying25 rfl sz3 rfl (by kernel_rfl) (by intro hh; cases hh))) ?_
       refine XL_takeC _ rfl rfl (by kernel_rfl) hc5 (X_of_Y0 rfl (Y0_load1 (c := Ti l1.2.1) (cs := [Ti l1.2.2]) sc3 rfl (by kernel_rfl))) ?_
       refine XL_takeC _ rfl rfl (by kernel_rfl) hc5 (X_of_Y0 rfl (Y0_gew (k := .i64) (a := l1.2.1) (b := 0) rfl (by kernel_rfl) (by kernel_rfl))) ?_
       refine XL_cons rfl (X_of_Y0 rfl (Y0_pick1 (b := bif (bif (bif (leI 1 l1.1) then (leI l1.1 1000) else false) then (leI 1 l1.2.2) else false) then (leI l1.2.2 1000) else false) (p := leI 0 l1.2.1) (q := false) rfl (by kernel_rfl) hc5 (by kernel_rfl))) ?_
       refine L0 rfl rfl (E_move (Bo (bif (bif (bif (bif (leI 1 l1.1) then (leI l1.1 1000) else false) then (leI 1 l1.2.2) else false) then (leI l1.2.2 1000) else false) then (leI 0 l1.2.1) else false)) rfl (by kernel_rfl)) ?_
       refine XL_split (bif (bif (bif (bif (leI 1 l1.1) then (leI l1.1 1000) else false) then (leI 1 l1.2.2) else false) then (leI l1.2.2 1000) else false) then (leI 0 l1.2.1) else false) (fun hc6 => ?_) (fun hc6 => ?_)
       ·refine XL_takeC _ rfl rfl (by kernel_rfl) hc6 (X_of_Y0 rfl (E_field (.pt 8 1) Try.underlying25 rfl sz3 rfl (by kernel_rfl) (by intro hh; cases hh))) ?_
        refine XL_takeC _ rfl rfl (by kernel_rfl) hc6 (X_of_Y0 rfl (Y0_load1 (c := Ti l1.2.1) (cs := [Ti l1.2.2]) sc3 rfl (by kernel_rfl))) ?_
        refine XL_takeC _ rfl rfl (by kernel_rfl) hc6 (X_of_Y0 rfl (E_field (.pt 8 0) Try.underlying25 rfl sz3 rfl (by kernel_rfl) (by intro hh; cases hh))) ?_
        refine XL_takeC _ rfl rfl (by kernel_rfl) hc6 (X_of_Y0 rfl (Y0_load1 (c := Ti l1.1) (cs := [Ti l1.2.1, Ti l1.2.2]) sc3 rfl (by kernel_rfl))) ?_
        refine XL_takeC _ rfl rfl (by kernel_rfl) hc6 (X_of_Y0 rfl (Y0_ltw (k := .i64) (a := l1.2.1) (b := l1.1) rfl (by kernel_rfl) (by kernel_rfl))) ?_
        refine XL_cons rfl (X_of_Y0 rfl (Y0_pick1 (b := bif (bif (bif (bif (leI 1 l1.1) then (leI l1.1 1000) else false) then (leI 1 l1.2.2) else false) then (leI l1.2.2 1000) else false) then (leI 0 l1.2.1) else false) (p := ltI l1.2.1 l1.1) (q := false) rfl (by kernel_rfl) hc6 (by kernel_rfl))) ?_
        refine L0 rfl rfl (E_assign (Bo (bif (bif (bif (bif (bif (leI 1 l1.1) then (leI l1.1 1000) else false) then (leI 1 l1.2.2) else false) then (leI l1.2.2 1000) else false) then (leI 0 l1.2.1) else false) then (ltI l1.2.1 l1.1) else false)) rfl (by kernel_rfl)) ?_
        refine XL_nil ?_
        subst ht7
        kernel_rfl
       ·refine XL_skipT _ rfl rfl (by kernel_rfl) hc6 rfl ?_
        refine XL_skipT _ rfl rfl (by kernel_rfl) hc6 rfl ?_
        refine XL_skipT _ rfl rfl (by kernel_rfl) hc6 rfl ?_
        refine XL_skipT _ rfl rfl (by kernel_rfl) hc6 rfl ?_
        refine XL_skipT _ rfl rfl (by kernel_rfl) hc6 rfl ?_
        refine XL_cons rfl (X_of_Y0 rfl (Y0_pick0 (b := bif (bif (bif (bif (leI 1 l1.1) then (leI l1.1 1000) else false) then (leI 1 l1.2.2) else false) then (leI l1.2.2 1000) else false) then (leI 0 l1.2.1) else false) (p := ltI l1.2.1 l1.1) (q := false) rfl (by kernel_rfl) hc6 (by kernel_rfl))) ?_
        refine L0 rfl rfl (E_assign (Bo (bif (bif (bif (bif (bif (leI 1 l1.1) then (leI l1.1 1000) else false) then (leI 1 l1.2.2) else false) then (leI l1.2.2 1000) else false) then (leI 0 l1.2.1) else false) then (ltI l1.2.1 l1.1) else false)) rfl (by kernel_rfl)) ?_
        refine XL_nil ?_
        subst ht7
        kernel_rfl
      ·refine XL_skipT _ rfl rfl (by kernel_rfl) hc5 rfl ?_
       refine XL_skipT _ rfl rfl (by kernel_rfl) hc5 rfl ?_
       refine XL_skipT _ rfl rfl (by kernel_rfl) hc5 rfl ?_
       refine XL_cons rfl (X_of_Y0 rfl (Y0_pick0 (b := bif (bif (bif (leI 1 l1.1) then (leI l1.1 1000) else false) then (leI 1 l1.2.2) else false) then (leI l1.2.2 1000) else false) (p := leI 0 l1.2.1) (q := false) rfl (by kernel_rfl) hc5 (by kernel_rfl))) ?_
       refine L0 rfl rfl (E_move (Bo (bif (bif (bif (bif (leI 1 l1.1) then (leI l1.1 1000) else false) then (leI 1 l1.2.2) else false) then (leI l1.2.2 1000) else false) then (leI 0 l1.2.1) else false)) rfl (by kernel_rfl)) ?_
       refine XL_split (bif (bif (bif (bif (leI 1 l1.1) then (leI l1.1 1000) else false) then (leI 1 l1.2.2) else false) then (leI l1.2.2 1000) else false) then (leI 0 l1.2.1) else false) (fun hc6 => ?_) (fun hc6 => ?_)
       ·refine XL_takeC _ rfl rfl (by kernel_rfl) hc6 (X_of_Y0 rfl (E_field (.pt 8 1) Try.underlying25 rfl sz3 rfl (by kernel_rfl) (by intro hh; cases hh))) ?_
        refine XL_takeC _ rfl rfl (by kernel_rfl) hc6 (X_of_Y0 rfl (Y0_load1 (c := Ti l1.2.1) (cs := [Ti l1.2.2]) sc3 rfl (by kernel_rfl))) ?_
        refine XL_takeC _ rfl rfl (by kernel_rfl) hc6 (X_of_Y0 rfl (E_field (.pt 8 0) Try.underlying25 rfl sz3 rfl (by kernel_rfl) (by intro hh; cases hh))) ?_
        refine XL_takeC _ rfl rfl (by kernel_rfl) hc6 (X_of_Y0 rfl (Y0_load1 (c := Ti l1.1) (cs := [Ti l1.2.1, Ti l1.2.2]) sc3 rfl (by kernel_rfl))) ?_
        refine XL_takeC _ rfl rfl (by kernel_rfl) hc6 (X_of_Y0 rfl (Y0_ltw (k := .i64) (a := l1.2.1) (b := l1.1) rfl (by kernel_rfl) (by kernel_rfl))) ?_
        refine XL_cons rfl (X_of_Y0 rfl (Y0_pick1 (b := bif (bif (bif (bif (leI 1 l1.1) then (leI l1.1 1000) else false) then (leI 1 l1.2.2) else false) then (leI l1.2.2 1000) else false) then (leI 0 l1.2.1) else false) (p := ltI l1.2.1 l1.1) (q := false) rfl (by kernel_rfl) hc6 (by kernel_rfl))) ?_
        refine L0 rfl rfl (E_assign (Bo (bif (bif (bif (bif (bif (leI 1 l1.1) then (leI l1.1 1000) else false) then (leI 1 l1.2.2) else false) then (leI l1.2.2 1000) else false) then (leI 0 l1.2.1) else false) then (ltI l1.2.1 l1.1) else false)) rfl (by kernel_rfl)) ?_
        refine XL_nil ?_
        subst ht7
        kernel_rfl
       ·refine XL_skipT _ rfl rfl (by kernel_rfl) hc6 rfl ?_
        refine XL_skipT _ rfl rfl (by kernel_rfl) hc6 rfl ?_
        refine XL_skipT _ rfl rfl (by kernel_rfl) hc6 rfl ?_
        refine XL_skipT _ rfl rfl (by kernel_rfl) hc6 rfl ?_
        refine XL_skipT _ rfl rfl (by kernel_rfl) hc6 rfl ?_
        refine XL_cons rfl (X_of_Y0 rfl (Y0_pick0 (b := bif (bif (bif (bif (leI 1 l1.1) then (leI l1.1 1000) else false) then (leI 1 l1.2.2) else false) then (leI l1.2.2 1000) else false) then (leI 0 l1.2.1) else false) (p := ltI l1.2.1 l1.1) (q := false) rfl (by kernel_rfl) hc6 (by kernel_rfl))) ?_
        refine L0 rfl rfl (E_assign (Bo (bif (bif (bif (bif (bif (leI 1 l1.1) then (leI l1.1 1000) else false) then (leI 1 l1.2.2) else false) then (leI l1.2.2 1000) else false) then (leI 0 l1.2.1) else false) then (ltI l1.2.1 l1.1) else false)) rfl (by kernel_rfl)) ?_
        refine XL_nil ?_
        subst ht7
        kernel_rfl
     ·refine XL_skipT _ rfl rfl (by kernel_rfl) hc4 rfl ?_
      refine XL_skipT _ rfl rfl (by kernel_rfl) hc4 rfl ?_
      refine XL_skipT _ rfl rfl (by kernel_rfl) hc4 rfl ?_
      refine XL_cons rfl (X_of_Y0 rfl (Y0_pick0 (b := bif (bif (leI 1 l1.1) then (leI l1.1 1000) else false) then (leI 1 l1.2.2) else false) (p := leI l1.2.2 1000) (q := false) rfl (by kernel_rfl) hc4 (by kernel_rfl))) ?_
      refine L0 rfl rfl (E_move (Bo (bif (bif (bif (leI 1 l1.1) then (leI l1.1 1000) else false) then (leI 1 l1.2.2) else false) then (leI l1.2.2 1000) else false)) rfl (by kernel_rfl)) ?_
      refine XL_split (bif (bif (bif (leI 1 l1.1) then (leI l1.1 1000) else false) then (leI 1 l1.2.2) else false) then (leI l1.2.2 1000) else false) (fun hc5 => ?_) (fun hc5 => ?_)
      ·refine XL_takeC _ rfl rfl (by kernel_rfl) hc5 (X_of_Y0 rfl (E_field (.pt 8 1) Try.underlying25 rfl sz3 rfl (by kernel_rfl) (by intro hh; cases hh))) ?_
       refine XL_takeC _ rfl rfl (by kernel_rfl) hc5 (X_of_Y0 rfl (Y0_load1 (c := Ti l1.2.1) (cs := [Ti l1.2.2]) sc3 rfl (by kernel_rfl))) ?_
       refine XL_takeC _ rfl rfl (by kernel_rfl) hc5 (X_of_Y0 rfl (Y0_gew (k := .i64) (a := l1.2.1) (b := 0) rfl (by kernel_rfl) (by kernel_rfl))) ?_
       refine XL_cons rfl (X_of_Y0 rfl (Y0_pick1 (b := bif (bif (bif (leI 1 l1.1) then (leI l1.1 1000) else false) then (leI 1 l1.2.2) else false) then (leI l1.2.2 1000) else false) (p := leI 0 l1.2.1) (q := false) rfl (by kernel_rfl) hc5 (by kernel_rfl))) ?_
       refine L0 rfl rfl (E_move (Bo (bif (bif (bif (bif (leI 1 l1.1) then (leI l1.1 1000) else false) then (leI 1 l1.2.2) else false) then (leI l1.2.2 1000) else false) then (leI 0 l1.2.1) else false)) rfl (by kernel_rfl)) ?_
       refine XL_split (bif (bif (bif (bif (leI 1 l1.1) then (leI l1.1 1000) else false) then (leI 1 l1.2.2) else false) then (leI l1.2.2 1000) else false) then (leI 0 l1.2.1) else false) (fun hc6 => ?_) (fun hc6 => ?_)
       ·refine XL_takeC _ rfl rfl (by kernel_rfl) hc6 (X_of_Y0 rfl (E_field (.pt 8 1) Try.underlying25 rfl sz3 rfl (by kernel_rfl) (by intro hh; cases hh))) ?_
        refine XL_takeC _ rfl rfl (by kernel_rfl) hc6 (X_of_Y0 rfl (Y0_load1 (c := Ti l1.2.1) (cs := [Ti l1.2.2]) sc3 rfl (by kernel_rfl))) ?_
        refine XL_takeC _ rfl rfl (by kernel_rfl) hc6 (X_of_Y0 rfl (E_field (.pt 8 0) Try.underlying25 rfl sz3 rfl (by kernel_rfl) (by intro hh; cases hh))) ?_
        refine XL_takeC _ rfl rfl (by kernel_rfl) hc6 (X_of_Y0 rfl (Y0_load1 (c := Ti l1.1) (cs := [Ti l1.2.1, Ti l1.2.2]) sc3 rfl (by kernel_rfl))) ?_
        refine XL_takeC _ rfl rfl (by kernel_rfl) hc6 (X_of_Y0 rfl (Y0_ltw (k := .i64) (a := l1.2.1) (b := l1.1) rfl (by kernel_rfl) (by kernel_rfl))) ?_
        refine XL_cons rfl (X_of_Y0 rfl (Y0_pick1 (b := bif (bif (bif (bif (leI 1 l1.1) then (leI l1.1 1000) else false) then (leI 1 l1.2.2) else false) then (leI l1.2.2 1000) else false) then (leI 0 l1.2.1) else false) (p := ltI l1.2.1 l1.1) (q := false) rfl (by kernel_rfl) hc6 (by kernel_rfl))) ?_
        refine L0 rfl rfl (E_assign (Bo (bif (bif (bif (bif (bif (leI 1 l1.1) then (leI l1.1 1000) else false) then (leI 1 l1.2.2) else false) then (leI l1.2.2 1000) else false) then (leI 0 l1.2.1) else false) then (ltI l1.2.1 l1.1) else false)) rfl (by kernel_rfl)) ?_
        refine XL_nil ?_
        subst ht7
        kernel_rfl
       ·refine XL_skipT _ rfl rfl (by kernel_rfl) hc6 rfl ?_
        refine XL_skipT _ rfl rfl (by kernel_rfl) hc6 rfl ?_
        refine XL_skipT _ rfl rfl (by kernel_rfl) hc6 rfl ?_
        refine XL_skipT _ rfl rfl (by kernel_rfl) hc6 rfl ?_
        refine XL_skipT _ rfl rfl (by kernel_rfl) hc6 rfl ?_
        refine XL_cons rfl (X_of_Y0 rfl (Y0_pick0 (b := bif (bif (bif (bif (leI 1 l1.1) then (leI l1.1 1000) else false) then (leI 1 l1.2.2) else false) then (leI l1.2.2 1000) else false) then (leI 0 l1.2.1) else false) (p := ltI l1.2.1 l1.1) (q := false) rfl (by kernel_rfl) hc6 (by kernel_rfl))) ?_
        refine L0 rfl rfl (E_assign (Bo (bif (bif (bif (bif (bif (leI 1 l1.1) then (leI l1.1 1000) else false) then (leI 1 l1.2.2) else false) then (leI l1.2.2 1000) else false) then (leI 0 l1.2.1) else false) then (ltI l1.2.1 l1.1) else false)) rfl (by kernel_rfl)) ?_
        refine XL_nil ?_
        subst ht7
        kernel_rfl
      ·refine XL_skipT _ rfl rfl (by kernel_rfl) hc5 rfl ?_
       refine XL_skipT _ rfl rfl (by kernel_rfl) hc5 rfl ?_
       refine XL_skipT _ rfl rfl (by kernel_rfl) hc5 rfl ?_
       refine XL_cons rfl (X_of_Y0 rfl (Y0_pick0 (b := bif (bif (bif (leI 1 l1.1) then (leI l1.1 1000) else false) then (leI 1 l1.2.2) else false) then (leI l1.2.2 1000) else false) (p := leI 0 l1.2.1) (q := false) rfl (by kernel_rfl) hc5 (by kernel_rfl))) ?_
       refine L0 rfl rfl (E_move (Bo (bif (bif (bif (bif (leI 1 l1.1) then (leI l1.1 1000) else false) then (leI 1 l1.2.2) else false) then (leI l1.2.2 1000) else false) then (leI 0 l1.2.1) else false)) rfl (by kernel_rfl)) ?_
       refine XL_split (bif (bif (bif (bif (leI 1 l1.1) then (leI l1.1 1000) else false) then (leI 1 l1.2.2) else false) then (leI l1.2.2 1000) else false) then (leI 0 l1.2.1) else false) (fun hc6 => ?_) (fun hc6 => ?_)
       ·refine XL_takeC _ rfl rfl (by kernel_rfl) hc6 (X_of_Y0 rfl (E_field (.pt 8 1) Try.underlying25 rfl sz3 rfl (by kernel_rfl) (by intro hh; cases hh))) ?_
        refine XL_takeC _ rfl rfl (by kernel_rfl) hc6 (X_of_Y0 rfl (Y0_load1 (c := Ti l1.2.1) (cs := [Ti l1.2.2]) sc3 rfl (by kernel_rfl))) ?_
        refine XL_takeC _ rfl rfl (by kernel_rfl) hc6 (X_of_Y0 rfl (E_field (.pt 8 0) Try.underlying25 rfl sz3 rfl (by kernel_rfl) (by intro hh; cases hh))) ?_
        refine XL_takeC _ rfl rfl (by kernel_rfl) hc6 (X_of_Y0 rfl (Y0_load1 (c := Ti l1.1) (cs := [Ti l1.2.1, Ti l1.2.2]) sc3 rfl (by kernel_rfl))) ?_
        refine XL_takeC _ rfl rfl (by kernel_rfl) hc6 (X_of_Y0 rfl (Y0_ltw (k := .i64) (a := l1.2.1) (b := l1.1) rfl (by kernel_rfl) (by kernel_rfl))) ?_
        refine XL_cons rfl (X_of_Y0 rfl (Y0_pick1 (b := bif (bif (bif (bif (leI 1 l1.1) then (leI l1.1 1000) else false) then (leI 1 l1.2.2) else false) then (leI l1.2.2 1000) else false) then (leI 0 l1.2.1) else false) (p := ltI l1.2.1 l1.1) (q := false) rfl (by kernel_rfl) hc6 (by kernel_rfl))) ?_
        refine L0 rfl rfl (E_assign (Bo (bif (bif (bif (bif (bif (leI 1 l1.1) then (leI l1.1 1000) else false) then (leI 1 l1.2.2) else false) then (leI l1.2.2 1000) else false) then (leI 0 l1.2.1) else false) then (ltI l1.2.1 l1.1) else false)) rfl (by kernel_rfl)) ?_
        refine XL_nil ?_
        subst ht7
        kernel_rfl
       ·refine XL_skipT _ rfl rfl (by kernel_rfl) hc6 rfl ?_
        refine XL_skipT _ rfl rfl (by kernel_rfl) hc6 rfl ?_
        refine XL_skipT _ rfl rfl (by kernel_rfl) hc6 rfl ?_
        refine XL_skipT _ rfl rfl (by kernel_rfl) hc6 rfl ?_
        refine XL_skipT _ rfl rfl (by kernel_rfl) hc6 rfl ?_
        refine XL_cons rfl (X_of_Y0 rfl (Y0_pick0 (b := bif (bif (bif (bif (leI 1 l1.1) then (leI l1.1 1000) else false) then (leI 1 l1.2.2) else false) then (leI l1.2.2 1000) else false) then (leI 0 l1.2.1) else false) (p := ltI l1.2.1 l1.1) (q := false) rfl (by kernel_rfl) hc6 (by kernel_rfl))) ?_
        refine L0 rfl rfl (E_assign (Bo (bif (bif (bif (bif (bif (leI 1 l1.1) then (leI l1.1 1000) else false) then (leI 1 l1.2.2) else false) then (leI l1.2.2 1000) else false) then (leI 0 l1.2.1) else false) then (ltI l1.2.1 l1.1) else false)) rfl (by kernel_rfl)) ?_
        refine XL_nil ?_
        subst ht7
        kernel_rfl
    ·refine XL_skipT _ rfl rfl (by kernel_rfl) hc3 rfl ?_
     refine XL_skipT _ rfl rfl (by kernel_rfl) hc3 rfl ?_
     refine XL_skipT _ rfl rfl (by kernel_rfl) hc3 rfl ?_
     refine XL_cons rfl (X_of_Y0 rfl (Y0_pick0 (b := bif (leI 1 l1.1) then (leI l1.1 1000) else false) (p := leI 1 l1.2.2) (q := false) rfl (by kernel_rfl) hc3 (by kernel_rfl))) ?_
     refine L0 rfl rfl (E_move (Bo (bif (bif (leI 1 l1.1) then (leI l1.1 1000) else false) then (leI 1 l1.2.2) else false)) rfl (by kernel_rfl)) ?_
     refine XL_split (bif (bif (leI 1 l1.1) then (leI l1.1 1000) else false) then (leI 1 l1.2.2) else false) (fun hc4 => ?_) (fun hc4 => ?_)
     ·refine XL_takeC _ rfl rfl (by kernel_rfl) hc4 (X_of_Y0 rfl (E_field (.pt 8 2) Try.underlying25 rfl sz3 rfl (by kernel_rfl) (by intro hh; cases hh))) ?_
      refine XL_takeC _ rfl rfl (by kernel_rfl) hc4 (X_of_Y0 rfl (Y0_load1 (c := Ti l1.2.2) (cs := []) sc3 rfl (by kernel_rfl))) ?_
      refine XL_takeC _ rfl rfl (by kernel_rfl) hc4 (X_of_Y0 rfl (Y0_lew (k := .i64) (a := l1.2.2) (b := 1000) rfl (by kernel_rfl) (by kernel_rfl))) ?_
      refine XL_cons rfl (X_of_Y0 rfl (Y0_pick1 (b := bif (bif (leI 1 l1.1) then (leI l1.1 1000) else false) then (leI 1 l1.2.2) else false) (p := leI l1.2.2 1000) (q := false) rfl (by kernel_rfl) hc4 (by kernel_rfl))) ?_
      refine L0 rfl rfl (E_move (Bo (bif (bif (bif (leI 1 l1.1) then (leI l1.1 1000) else false) then (leI 1 l1.2.2) else false) then (leI l1.2.2 1000) else false)) rfl (by kernel_rfl)) ?_
      refine XL_split (bif (bif (bif (leI 1 l1.1) then (leI l1.1 1000) else false) then (leI 1 l1.2.2) else false) then (leI l1.2.2 1000) else false) (fun hc5 => ?_) (fun hc5 => ?_)
      ·refine XL_takeC _ rfl rfl (by kernel_rfl) hc5 (X_of_Y0 rfl (E_field (.pt 8 1) Try.underlying25 rfl sz3 rfl (by kernel_rfl) (by intro hh; cases hh))) ?_
       refine XL_takeC _ rfl rfl (by kernel_rfl) hc5 (X_of_Y0 rfl (Y0_load1 (c := Ti l1.2.1) (cs := [Ti l1.2.2]) sc3 rfl (by kernel_rfl))) ?_
       refine XL_takeC _ rfl rfl (by kernel_rfl) hc5 (X_of_Y0 rfl (Y0_gew (k := .i64) (a := l1.2.1) (b := 0) rfl (by kernel_rfl) (by kernel_rfl))) ?_
       refine XL_cons rfl (X_of_Y0 rfl (Y0_pick1 (b := bif (bif (bif (leI 1 l1.1) then (leI l1.1 1000) else false) then (leI 1 l1.2.2) else false) then (leI l1.2.2 1000) else false) (p := leI 0 l1.2.1) (q := false) rfl (by kernel_rfl) hc5 (by kernel_rfl))) ?_
       refine L0 rfl rfl (E_move (Bo (bif (bif (bif (bif (leI 1 l1.1) then (leI l1.1 1000) else false) then (leI 1 l1.2.2) else false) then (leI l1.2.2 1000) else false) then (leI 0 l1.2.1) else false)) rfl (by kernel_rfl)) ?_
       refine XL_split (bif (bif (bif (bif (leI 1 l1.1) then (leI l1.1 1000) else false) then (leI 1 l1.2.2) else false) then (leI l1.2.2 1000) else false) then (leI 0 l1.2.1) else false) (fun hc6 => ?_) (fun hc6 => ?_)
       ·refine XL_takeC _ rfl rfl (by kernel_rfl) hc6 (X_of_Y0 rfl (E_field (.pt 8 1) Try.underlying25 rfl sz3 rfl (by kernel_rfl) (by intro hh; cases hh))) ?_
        refine XL_takeC _ rfl rfl (by kernel_rfl) hc6 (X_of_Y0 rfl (Y0_load1 (c := Ti l1.2.1) (cs := [Ti l1.2.2]) sc3 rfl (by kernel_rfl))) ?_
        refine XL_takeC _ rfl rfl (by kernel_rfl) hc6 (X_of_Y0 rfl (E_field (.pt 8 0) Try.underlying25 rfl sz3 rfl (by kernel_rfl) (by intro hh; cases hh))) ?_
        refine XL_takeC _ rfl rfl (by kernel_rfl) hc6 (X_of_Y0 rfl (Y0_load1 (c := Ti l1.1) (cs := [Ti l1.2.1, Ti l1.2.2]) sc3 rfl (by kernel_rfl))) ?_
        refine XL_takeC _ rfl rfl (by kernel_rfl) hc6 (X_of_Y0 rfl (Y0_ltw (k := .i64) (a := l1.2.1) (b := l1.1) rfl (by kernel_rfl) (by kernel_rfl))) ?_
        refine XL_cons rfl (X_of_Y0 rfl (Y0_pick1 (b := bif (bif (bif (bif (leI 1 l1.1) then (leI l1.1 1000) else false) then (leI 1 l1.2.2) else false) then (leI l1.2.2 1000) else false) then (leI 0 l1.2.1) else false) (p := ltI l1.2.1 l1.1) (q := false) rfl (by kernel_rfl) hc6 (by kernel_rfl))) ?_
        refine L0 rfl rfl (E_assign (Bo (bif (bif (bif (bif (bif (leI 1 l1.1) then (leI l1.1 1000) else false) then (leI 1 l1.2.2) else false) then (leI l1.2.2 1000) else false) then (leI 0 l1.2.1) else false) then (ltI l1.2.1 l1.1) else false)) rfl (by kernel_rfl)) ?_
        refine XL_nil ?_
        subst ht7
        kernel_rfl
       ·refine XL_skipT _ rfl rfl (by kernel_rfl) hc6 rfl ?_
        refine XL_skipT _ rfl rfl (by kernel_rfl) hc6 rfl ?_
        refine XL_skipT _ rfl rfl (by kernel_rfl) hc6 rfl ?_
        refine XL_skipT _ rfl rfl (by kernel_rfl) hc6 rfl ?_
        refine XL_skipT _ rfl rfl (by kernel_rfl) hc6 rfl ?_
        refine XL_cons rfl (X_of_Y0 rfl (Y0_pick0 (b := bif (bif (bif (bif (leI 1 l1.1) then (leI l1.1 1000) else false) then (leI 1 l1.2.2) else false) then (leI l1.2.2 1000) else false) then (leI 0 l1.2.1) else false) (p := ltI l1.2.1 l1.1) (q := false) rfl (by kernel_rfl) hc6 (by kernel_rfl))) ?_
        refine L0 rfl rfl (E_assign (Bo (bif (bif (bif (bif (bif (leI 1 l1.1) then (leI l1.1 1000) else false) then (leI 1 l1.2.2) else false) then (leI l1.2.2 1000) else false) then (leI 0 l1.2.1) else false) then (ltI l1.2.1 l1.1) else false)) rfl (by kernel_rfl)) ?_
        refine XL_nil ?_
        subst ht7
        kernel_rfl
      ·refine XL_skipT _ rfl rfl (by kernel_rfl) hc5 rfl ?_
       refine XL_skipT _ rfl rfl (by kernel_rfl) hc5 rfl ?_
       refine XL_skipT _ rfl rfl (by kernel_rfl) hc5 rfl ?_
       refine XL_cons rfl (X_of_Y0 rfl (Y0_pick0 (b := bif (bif (bif (leI 1 l1.1) then (leI l1.1 1000) else false) then (leI 1 l1.2.2) else false) then (leI l1.2.2 1000) else false) (p := leI 0 l1.2.1) (q := false) rfl (by kernel_rfl) hc5 (by kernel_rfl))) ?_
       refine L0 rfl rfl (E_move (Bo (bif (bif (bif (bif (leI 1 l1.1) then (leI l1.1 1000) else false) then (leI 1 l1.2.2) else false) then (leI l1.2.2 1000) else false) then (leI 0 l1.2.1) else false)) rfl (by kernel_rfl)) ?_
       refine XL_split (bif (bif (bif (bif (leI 1 l1.1) then (leI l1.1 1000) else false) then (leI 1 l1.2.2) else false) then (leI l1.2.2 1000) else false) then (leI 0 l1.2.1) else false) (fun hc6 => ?_) (fun hc6 => ?_)
       ·refine XL_takeC _ rfl rfl (by kernel_rfl) hc6 (X_of_Y0 rfl (E_field (.pt 8 1) Try.underlying25 rfl sz3 rfl (by kernel_rfl) (by intro hh; cases hh))) ?_
        refine XL_takeC _ rfl rfl (by kernel_rfl) hc6 (X_of_Y0 rfl (Y0_load1 (c := Ti l1.2.1) (cs := [Ti l1.2.2]) sc3 rfl (by kernel_rfl))) ?_
        refine XL_takeC _ rfl rfl (by kernel_rfl) hc6 (X_of_Y0 rfl (E_field (.pt 8 0) Try.underlying25 rfl sz3 rfl (by kernel_rfl) (by intro hh; cases hh))) ?_
        refine XL_takeC _ rfl rfl (by kernel_rfl) hc6 (X_of_Y0 rfl (Y0_load1 (c := Ti l1.1) (cs := [Ti l1.2.1, Ti l1.2.2]) sc3 rfl (by kernel_rfl))) ?_
        refine XL_takeC _ rfl rfl (by kernel_rfl) hc6 (X_of_Y0 rfl (Y0_ltw (k := .i64) (a := l1.2.1) (b := l1.1) rfl (by kernel_rfl) (by kernel_rfl))) ?_
        refine XL_cons rfl (X_of_Y0 rfl (Y0_pick1 (b := bif (bif (bif (bif (leI 1 l1.1) then (leI l1.1 1000) else false) then (leI 1 l1.2.2) else false) then (leI l1.2.2 1000) else false) then (leI 0 l1.2.1) else false) (p := ltI l1.2.1 l1.1) (q := false) rfl (by kernel_rfl) hc6 (by kernel_rfl))) ?_
        refine L0 rfl rfl (E_assign (Bo (bif (bif (bif (bif (bif (leI 1 l1.1) then (leI l1.1 1000) else false) then (leI 1 l1.2.2) else false) then (leI l1.2.2 1000) else false) then (leI 0 l1.2.1) else false) then (ltI l1.2.1 l1.1) else false)) rfl (by kernel_rfl)) ?_
        refine XL_nil ?_
        subst ht7
        kernel_rfl
       ·refine XL_skipT _ rfl rfl (by kernel_rfl) hc6 rfl ?_
        refine XL_skipT _ rfl rfl (by kernel_rfl) hc6 rfl ?_
        refine XL_skipT _ rfl rfl (by kernel_rfl) hc6 rfl ?_
        refine XL_skipT _ rfl rfl (by kernel_rfl) hc6 rfl ?_
        refine XL_skipT _ rfl rfl (by kernel_rfl) hc6 rfl ?_
        refine XL_cons rfl (X_of_Y0 rfl (Y0_pick0 (b := bif (bif (bif (bif (leI 1 l1.1) then (leI l1.1 1000) else false) then (leI 1 l1.2.2) else false) then (leI l1.2.2 1000) else false) then (leI 0 l1.2.1) else false) (p := ltI l1.2.1 l1.1) (q := false) rfl (by kernel_rfl) hc6 (by kernel_rfl))) ?_
        refine L0 rfl rfl (E_assign (Bo (bif (bif (bif (bif (bif (leI 1 l1.1) then (leI l1.1 1000) else false) then (leI 1 l1.2.2) else false) then (leI l1.2.2 1000) else false) then (leI 0 l1.2.1) else false) then (ltI l1.2.1 l1.1) else false)) rfl (by kernel_rfl)) ?_
        refine XL_nil ?_
        subst ht7
        kernel_rfl
     ·refine XL_skipT _ rfl rfl (by kernel_rfl) hc4 rfl ?_
      refine XL_skipT _ rfl rfl (by kernel_rfl) hc4 rfl ?_
      refine XL_skipT _ rfl rfl (by kernel_rfl) hc4 rfl ?_
      refine XL_cons rfl (X_of_Y0 rfl (Y0_pick0 (b := bif (bif (leI 1 l1.1) then (leI l1.1 1000) else false) then (leI 1 l1.2.2) else false) (p := leI l1.2.2 1000) (q := false) rfl (by kernel_rfl) hc4 (by kernel_rfl))) ?_
      refine L0 rfl rfl (E_move (Bo (bif (bif (bif (leI 1 l1.1) then (leI l1.1 1000) else false) then (leI 1 l1.2.2) else false) then (leI l1.2.2 1000) else false)) rfl (by kernel_rfl)) ?_
      refine XL_split (bif (bif (bif (leI 1 l1.1) then (leI l1.1 1000) else false) then (leI 1 l1.2.2) else false) then (leI l1.2.2 1000) else false) (fun hc5 => ?_) (fun hc5 => ?_)
      ·refine XL_takeC _ rfl rfl (by kernel_rfl) hc5 (X_of_Y0 rfl (E_field (.pt 8 1) Try.underlying25 rfl sz3 rfl (by kernel_rfl) (by intro hh; cases hh))) ?_
       refine XL_takeC _ rfl rfl (by kernel_rfl) hc5 (X_of_Y0 rfl (Y0_load1 (c := Ti l1.2.1) (cs := [Ti l1.2.2]) sc3 rfl (by kernel_rfl))) ?_
       refine XL_takeC _ rfl rfl (by kernel_rfl) hc5 (X_of_Y0 rfl (Y0_gew (k := .i64) (a := l1.2.1) (b := 0) rfl (by kernel_rfl) (by kernel_rfl))) ?_
       refine XL_cons rfl (X_of_Y0 rfl (Y0_pick1 (b := bif (bif (bif (leI 1 l1.1) then (leI l1.1 1000) else false) then (leI 1 l1.2.2) else false) then (leI l1.2.2 1000) else false) (p := leI 0 l1.2.1) (q := false) rfl (by kernel_rfl) hc5 (by kernel_rfl))) ?_
       refine L0 rfl rfl (E_move (Bo (bif (bif (bif (bif (leI 1 l1.1) then (leI l1.1 1000) else false) then (leI 1 l1.2.2) else false) then (leI l1.2.2 1000) else false) then (leI 0 l1.2.1) else false)) rfl (by kernel_rfl)) ?_
       refine XL_split (bif (bif (bif (bif (leI 1 l1.1) then (leI l1.1 1000) else false) then (leI 1 l1.2.2) else false) then (leI l1.2.2 1000) else false) then (leI 0 l1.2.1) else false) (fun hc6 => ?_) (fun hc6 => ?_)
       ·refine XL_takeC _ rfl rfl (by kernel_rfl) hc6 (X_of_Y0 rfl (E_field (.pt 8 1) Try.underlying25 rfl sz3 rfl (by kernel_rfl) (by intro hh; cases hh))) ?_
        refine XL_takeC _ rfl rfl (by kernel_rfl) hc6 (X_of_Y0 rfl (Y0_load1 (c := Ti l1.2.1) (cs := [Ti l1.2.2]) sc3 rfl (by kernel_rfl))) ?_
        refine XL_takeC _ rfl rfl (by kernel_rfl) hc6 (X_of_Y0 rfl (E_field (.pt 8 0) Try.underlying25 rfl sz3 rfl (by kernel_rfl) (by intro hh; cases hh))) ?_
        refine XL_takeC _ rfl rfl (by kernel_rfl) hc6 (X_of_Y0 rfl (Y0_load1 (c := Ti l1.1) (cs := [Ti l1.2.1, Ti l1.2.2]) sc3 rfl (by kernel_rfl))) ?_
        refine XL_takeC _ rfl rfl (by kernel_rfl) hc6 (X_of_Y0 rfl (Y0_ltw (k := .i64) (a := l1.2.1) (b := l1.1) rfl (by kernel_rfl) (by kernel_rfl))) ?_
        refine XL_cons rfl (X_of_Y0 rfl (Y0_pick1 (b := bif (bif (bif (bif (leI 1 l1.1) then (leI l1.1 1000) else false) then (leI 1 l1.2.2) else false) then (leI l1.2.2 1000) else false) then (leI 0 l1.2.1) else false) (p := ltI l1.2.1 l1.1) (q := false) rfl (by kernel_rfl) hc6 (by kernel_rfl))) ?_
        refine L0 rfl rfl (E_assign (Bo (bif (bif (bif (bif (bif (leI 1 l1.1) then (leI l1.1 1000) else false) then (leI 1 l1.2.2) else false) then (leI l1.2.2 1000) else false) then (leI 0 l1.2.1) else false) then (ltI l1.2.1 l1.1) else false)) rfl (by kernel_rfl)) ?_
        refine XL_nil ?_
        subst ht7
        kernel_rfl
       ·refine XL_skipT _ rfl rfl (by kernel_rfl) hc6 rfl ?_
        refine XL_skipT _ rfl rfl (by kernel_rfl) hc6 rfl ?_
        refine XL_skipT _ rfl rfl (by kernel_rfl) hc6 rfl ?_
        refine XL_skipT _ rfl rfl (by kernel_rfl) hc6 rfl ?_
        refine XL_skipT _ rfl rfl (by kernel_rfl) hc6 rfl ?_
        refine XL_cons rfl (X_of_Y0 rfl (Y0_pick0 (b := bif (bif (bif (bif (leI 1 l1.1) then (leI l1.1 1000) else false) then (leI 1 l1.2.2) else false) then (leI l1.2.2 1000) else false) then (leI 0 l1.2.1) else false) (p := ltI l1.2.1 l1.1) (q := false) rfl (by kernel_rfl) hc6 (by kernel_rfl))) ?_
        refine L0 rfl rfl (E_assign (Bo (bif (bif (bif (bif (bif (leI 1 l1.1) then (leI l1.1 1000) else false) then (leI 1 l1.2.2) else false) then (leI l1.2.2 1000) else false) then (leI 0 l1.2.1) else false) then (ltI l1.2.1 l1.1) else false)) rfl (by kernel_rfl)) ?_
        refine XL_nil ?_
        subst ht7
        kernel_rfl
      ·refine XL_skipT _ rfl rfl (by kernel_rfl) hc5 rfl ?_
       refine XL_skipT _ rfl rfl (by kernel_rfl) hc5 rfl ?_
       refine XL_skipT _ rfl rfl (by kernel_rfl) hc5 rfl ?_
       refine XL_cons rfl (X_of_Y0 rfl (Y0_pick0 (b := bif (bif (bif (leI 1 l1.1) then (leI l1.1 1000) else false) then (leI 1 l1.2.2) else false) then (leI l1.2.2 1000) else false) (p := leI 0 l1.2.1) (q := false) rfl (by kernel_rfl) hc5 (by kernel_rfl))) ?_
       refine L0 rfl rfl (E_move (Bo (bif (bif (bif (bif (leI 1 l1.1) then (leI l1.1 1000) else false) then (leI 1 l1.2.2) else false) then (leI l1.2.2 1000) else false) then (leI 0 l1.2.1) else false)) rfl (by kernel_rfl)) ?_
       refine XL_split (bif (bif (bif (bif (leI 1 l1.1) then (leI l1.1 1000) else false) then (leI 1 l1.2.2) else false) then (leI l1.2.2 1000) else false) then (leI 0 l1.2.1) else false) (fun hc6 => ?_) (fun hc6 => ?_)
       ·refine XL_takeC _ rfl rfl (by kernel_rfl) hc6 (X_of_Y0 rfl (E_field (.pt 8 1) Try.underlying25 rfl sz3 rfl (by kernel_rfl) (by intro hh; cases hh))) ?_
        refine XL_takeC _ rfl rfl (by kernel_rfl) hc6 (X_of_Y0 rfl (Y0_load1 (c := Ti l1.2.1) (cs := [Ti l1.2.2]) sc3 rfl (by kernel_rfl))) ?_
        refine XL_takeC _ rfl rfl (by kernel_rfl) hc6 (X_of_Y0 rfl (E_field (.pt 8 0) Try.underlying25 rfl sz3 rfl (by kernel_rfl) (by intro hh; cases hh))) ?_
        refine XL_takeC _ rfl rfl (by kernel_rfl) hc6 (X_of_Y0 rfl (Y0_load1 (c := Ti l1.1) (cs := [Ti l1.2.1, Ti l1.2.2]) sc3 rfl (by kernel_rfl))) ?_
        refine XL_takeC _ rfl rfl (by kernel_rfl) hc6 (X_of_Y0 rfl (Y0_ltw (k := .i64) (a := l1.2.1) (b := l1.1) rfl (by kernel_rfl) (by kernel_rfl))) ?_
        refine XL_cons rfl (X_of_Y0 rfl (Y0_pick1 (b := bif (bif (bif (bif (leI 1 l1.1) then (leI l1.1 1000) else false) then (leI 1 l1.2.2) else false) then (leI l1.2.2 1000) else false) then (leI 0 l1.2.1) else false) (p := ltI l1.2.1 l1.1) (q := false) rfl (by kernel_rfl) hc6 (by kernel_rfl))) ?_
        refine L0 rfl rfl (E_assign (Bo (bif (bif (bif (bif (bif (leI 1 l1.1) then (leI l1.1 1000) else false) then (leI 1 l1.2.2) else false) then (leI l1.2.2 1000) else false) then (leI 0 l1.2.1) else false) then (ltI l1.2.1 l1.1) else false)) rfl (by kernel_rfl)) ?_
        refine XL_nil ?_
        subst ht7
        kernel_rfl
       ·refine XL_skipT _ rfl rfl (by kernel_rfl) hc6 rfl ?_
        refine XL_skipT _ rfl rfl (by kernel_rfl) hc6 rfl ?_
        refine XL_skipT _ rfl rfl (by kernel_rfl) hc6 rfl ?_
        refine XL_skipT _ rfl rfl (by kernel_rfl) hc6 rfl ?_
        refine XL_skipT _ rfl rfl (by kernel_rfl) hc6 rfl ?_
        refine XL_cons rfl (X_of_Y0 rfl (Y0_pick0 (b := bif (bif (bif (bif (leI 1 l1.1) then (leI l1.1 1000) else false) then (leI 1 l1.2.2) else false) then (leI l1.2.2 1000) else false) then (leI 0 l1.2.1) else false) (p := ltI l1.2.1 l1.1) (q := false) rfl (by kernel_rfl) hc6 (by kernel_rfl))) ?_
        refine L0 rfl rfl (E_assign (Bo (bif (bif (bif (bif (bif (leI 1 l1.1) then (leI l1.1 1000) else false) then (leI 1 l1.2.2) else false) then (leI l1.2.2 1000) else false) then (leI 0 l1.2.1) else false) then (ltI l1.2.1 l1.1) else false)) rfl (by kernel_rfl)) ?_
        refine XL_nil ?_
        subst ht7
        kernel_rfl
   ·refine XL_skipT _ rfl rfl (by kernel_rfl) hc2 rfl ?_
    refine XL_skipT _ rfl rfl (by kernel_rfl) hc2 rfl ?_
    refine XL_skipT _ rfl rfl (by kernel_rfl) hc2 rfl ?_
    refine XL_cons rfl (X_of_Y0 rfl (Y0_pick0 (b := leI 1 l1.1) (p := leI l1.1 1000) (q := false) rfl (by kernel_rfl) hc2 (by kernel_rfl))) ?_
    refine L0 rfl rfl (E_move (Bo (bif (leI 1 l1.1) then (leI l1.1 1000) else false)) rfl (by kernel_rfl)) ?_
    refine XL_split (bif (leI 1 l1.1) then (leI l1.1 1000) else false) (fun hc3 => ?_) (fun hc3 => ?_)
    ·refine XL_takeC _ rfl rfl (by kernel_rfl) hc3 (X_of_Y0 rfl (E_field (.pt 8 2) Try.underlying25 rfl sz3 rfl (by kernel_rfl) (by intro hh; cases hh))) ?_
     refine XL_takeC _ rfl rfl (by kernel_rfl) hc3 (X_of_Y0 rfl (Y0_load1 (c := Ti l1.2.2) (cs := []) sc3 rfl (by kernel_rfl))) ?_
     refine XL_takeC _ rfl rfl (by kernel_rfl) hc3 (X_of_Y0 rfl (Y0_gew (k := .i64) (a := l1.2.2) (b := 1) rfl (by kernel_rfl) (by kernel_rfl))) ?_
     refine XL_cons rfl (X_of_Y0 rfl (Y0_pick1 (b := bif (leI 1 l1.1) then (leI l1.1 1000) else false) (p := leI 1 l1.2.2) (q := false) rfl (by kernel_rfl) hc3 (by kernel_rfl))) ?_
     refine L0 rfl rfl (E_move (Bo (bif (bif (leI 1 l1.1) then (leI l1.1 1000) else false) then (leI 1 l1.2.2) else false)) rfl (by kernel_rfl)) ?_
     refine XL_split (bif (bif (leI 1 l1.1) then (leI l1.1 1000) else false) then (leI 1 l1.2.2) else false) (fun hc4 => ?_) (fun hc4 => ?_)
     ·refine XL_takeC _ rfl rfl (by kernel_rfl) hc4 (X_of_Y0 rfl (E_field (.pt 8 2) Try.underlying25 rfl sz3 rfl (by kernel_rfl) (by intro hh; cases hh))) ?_
      refine XL_takeC _ rfl rfl (by kernel_rfl) hc4 (X_of_Y0 rfl (Y0_load1 (c := Ti l1.2.2) (cs := []) sc3 rfl (by kernel_rfl))) ?_
      refine XL_takeC _ rfl rfl (by kernel_rfl) hc4 (X_of_Y0 rfl (Y0_lew (k := .i64) (a := l1.2.2) (b := 1000) rfl (by kernel_rfl) (by kernel_rfl))) ?_
      refine XL_cons rfl (X_of_Y0 rfl (Y0_pick1 (b := bif (bif (leI 1 l1.1) then (leI l1.1 1000) else false) then (leI 1 l1.2.2) else false) (p := leI l1.2.2 1000) (q := false) rfl (by kernel_rfl) hc4 (by kernel_rfl))) ?_
      refine L0 rfl rfl (E_move (Bo (bif (bif (bif (leI 1 l1.1) then (leI l1.1 1000) else false) then (leI 1 l1.2.2) else false) then (leI l1.2.2 1000) else false)) rfl (by kernel_rfl)) ?_
      refine XL_split (bif (bif (bif (leI 1 l1.1) then (leI l1.1 1000) else false) then (leI 1 l1.2.2) else false) then (leI l1.2.2 1000) else false) (fun hc5 => ?_) (fun hc5 => ?_)
      ·refine XL_takeC _ rfl rfl (by kernel_rfl) hc5 (X_of_Y0 rfl (E_field (.pt 8 1) Try.underlying25 rfl sz3 rfl (by kernel_rfl) (by intro hh; cases hh))) ?_
       refine XL_takeC _ rfl rfl (by kernel_rfl) hc5 (X_of_Y0 rfl (Y0_load1 (c := Ti l1.2.1) (cs := [Ti l1.2.2]) sc3 rfl (by kernel_rfl))) ?_
       refine XL_takeC _ rfl rfl (by kernel_rfl) hc5 (X_of_Y0 rfl (Y0_gew (k := .i64) (a := l1.2.1) (b := 0) rfl (by kernel_rfl) (by kernel_rfl))) ?_
       refine XL_cons rfl (X_of_Y0 rfl (Y0_pick1 (b := bif (bif (bif (leI 1 l1.1) then (leI l1.1 1000) else false) then (leI 1 l1.2.2) else false) then (leI l1.2.2 1000) else false) (p := leI 0 l1.2.1) (q := false) rfl (by kernel_rfl) hc5 (by kernel_rfl))) ?_
       refine L0 rfl rfl (E_move (Bo (bif (bif (bif (bif (leI 1 l1.1) then (leI l1.1 1000) else false) then (leI 1 l1.2.2) else false) then (leI l1.2.2 1000) else false) then (leI 0 l1.2.1) else false)) rfl (by kernel_rfl)) ?_
       refine XL_split (bif (bif (bif (bif (leI 1 l1.1) then (leI l1.1 1000) else false) then (leI 1 l1.2.2) else false) then (leI l1.2.2 1000) else false) then (leI 0 l1.2.1) else false) (fun hc6 => ?_) (fun hc6 => ?_)
       ·refine XL_takeC _ rfl rfl (by kernel_rfl) hc6 (X_of_Y0 rfl (E_field (.pt 8 1) Try.underlying25 rfl sz3 rfl (by kernel_rfl) (by intro hh; cases hh))) ?_
        refine XL_takeC _ rfl rfl (by kernel_rfl) hc6 (X_of_Y0 rfl (Y0_load1 (c := Ti l1.2.1) (cs := [Ti l1.2.2]) sc3 rfl (by kernel_rfl))) ?_
        refine XL_takeC _ rfl rfl (by kernel_rfl) hc6 (X_of_Y0 rfl (E_field (.pt 8 0) Try.underlying25 rfl sz3 rfl (by kernel_rfl) (by intro hh; cases hh))) ?_
        refine XL_takeC _ rfl rfl (by kernel_rfl) hc6 (X_of_Y0 rfl (Y0_load1 (c := Ti l1.1) (cs := [Ti l1.2.1, Ti l1.2.2]) sc3 rfl (by kernel_rfl))) ?_
        refine XL_takeC _ rfl rfl (by kernel_rfl) hc6 (X_of_Y0 rfl (Y0_ltw (k := .i64) (a := l1.2.1) (b := l1.1) rfl (by kernel_rfl) (by kernel_rfl))) ?_
        refine XL_cons rfl (X_of_Y0 rfl (Y0_pick1 (b := bif (bif (bif (bif (leI 1 l1.1) then (leI l1.1 1000) else false) then (leI 1 l1.2.2) else false) then (leI l1.2.2 1000) else false) then (leI 0 l1.2.1) else false) (p := ltI l1.2.1 l1.1) (q := false) rfl (by kernel_rfl) hc6 (by kernel_rfl))) ?_
        refine L0 rfl rfl (E_assign (Bo (bif (bif (bif (bif (bif (leI 1 l1.1) then (leI l1.1 1000) else false) then (leI 1 l1.2.2) else false) then (leI l1.2.2 1000) else false) then (leI 0 l1.2.1) else false) then (ltI l1.2.1 l1.1) else false)) rfl (by kernel_rfl)) ?_
        refine XL_nil ?_
        subst ht7
        kernel_rfl
       ·refine XL_skipT _ rfl rfl (by kernel_rfl) hc6 rfl ?_
        refine XL_skipT _ rfl rfl (by kernel_rfl) hc6 rfl ?_
        refine XL_skipT _ rfl rfl (by kernel_rfl) hc6 rfl ?_
        refine XL_skipT _ rfl rfl (by kernel_rfl) hc6 rfl ?_
        refine XL_skipT _ rfl rfl (by kernel_rfl) hc6 rfl ?_
        refine XL_cons rfl (X_of_Y0 rfl (Y0_pick0 (b := bif (bif (bif (bif (leI 1 l1.1) then (leI l1.1 1000) else false) then (leI 1 l1.2.2) else false) then (leI l1.2.2 1000) else false) then (leI 0 l1.2.1) else false) (p := ltI l1.2.1 l1.1) (q := false) rfl (by kernel_rfl) hc6 (by kernel_rfl))) ?_
        refine L0 rfl rfl (E_assign (Bo (bif (bif (bif (bif (bif (leI 1 l1.1) then (leI l1.1 1000) else false) then (leI 1 l1.2.2) else false) then (leI l1.2.2 1000) else false) then (leI 0 l1.2.1) else false) then (ltI l1.2.1 l1.1) else false)) rfl (by kernel_rfl)) ?_
        refine XL_nil ?_
        subst ht7
        kernel_rfl
      ·refine XL_skipT _ rfl rfl (by kernel_rfl) hc5 rfl ?_
       refine XL_skipT _ rfl rfl (by kernel_rfl) hc5 rfl ?_
       refine XL_skipT _ rfl rfl (by kernel_rfl) hc5 rfl ?_
       refine XL_cons rfl (X_of_Y0 rfl (Y0_pick0 (b := bif (bif (bif (leI 1 l1.1) then (leI l1.1 1000) else false) then (leI 1 l1.2.2) else false) then (leI l1.2.2 1000) else false) (p := leI 0 l1.2.1) (q := false) rfl (by kernel_rfl) hc5 (by kernel_rfl))) ?_
       refine L0 rfl rfl (E_move (Bo (bif (bif (bif (bif (leI 1 l1.1) then (leI l1.1 1000) else false) then (leI 1 l1.2.2) else false) then (leI l1.2.2 1000) else false) then (leI 0 l1.2.1) else false)) rfl (by kernel_rfl)) ?_
       refine XL_split (bif (bif (bif (bif (leI 1 l1.1) then (leI l1.1 1000) else false) then (leI 1 l1.2.2) else false) then (leI l1.2.2 1000) else false) then (leI 0 l1.2.1) else false) (fun hc6 => ?_) (fun hc6 => ?_)
       ·refine XL_takeC _ rfl rfl (by kernel_rfl) hc6 (X_of_Y0 rfl (E_field (.pt 8 1) Try.underlying25 rfl sz3 rfl (by kernel_rfl) (by intro hh; cases hh))) ?_
        refine XL_takeC _ rfl rfl (by kernel_rfl) hc6 (X_of_Y0 rfl (Y0_load1 (c := Ti l1.2.1) (cs := [Ti l1.2.2]) sc3 rfl (by kernel_rfl))) ?_
        refine XL_takeC _ rfl rfl (by kernel_rfl) hc6 (X_of_Y0 rfl (E_field (.pt 8 0) Try.underlying25 rfl sz3 rfl (by kernel_rfl) (by intro hh; cases hh))) ?_
        refine XL_takeC _ rfl rfl (by kernel_rfl) hc6 (X_of_Y0 rfl (Y0_load1 (c := Ti l1.1) (cs := [Ti l1.2.1, Ti l1.2.2]) sc3 rfl (by kernel_rfl))) ?_
        refine XL_takeC _ rfl rfl (by kernel_rfl) hc6 (X_of_Y0 rfl (Y0_ltw (k := .i64) (a := l1.2.1) (b := l1.1) rfl (by kernel_rfl) (by kernel_rfl))) ?_
        refine XL_cons rfl (X_of_Y0 rfl (Y0_pick1 (b := bif (bif (bif (bif (leI 1 l1.1) then (leI l1.1 1000) else false) then (leI 1 l1.2.2) else false) then (leI l1.2.2 1000) else false) then (leI 0 l1.2.1) else false) (p := ltI l1.2.1 l1.1) (q := false) rfl (by kernel_rfl) hc6 (by kernel_rfl))) ?_
        refine L0 rfl rfl (E_assign (Bo (bif (bif (bif (bif (bif (leI 1 l1.1) then (leI l1.1 1000) else false) then (leI 1 l1.2.2) else false) then (leI l1.2.2 1000) else false) then (leI 0 l1.2.1) else false) then (ltI l1.2.1 l1.1) else false)) rfl (by kernel_rfl)) ?_
        refine XL_nil ?_
        subst ht7
        kernel_rfl
       ·refine XL_skipT _ rfl rfl (by kernel_rfl) hc6 rfl ?_
        refine XL_skipT _ rfl rfl (by kernel_rfl) hc6 rfl ?_
        refine XL_skipT _ rfl rfl (by kernel_rfl) hc6 rfl ?_
        refine XL_skipT _ rfl rfl (by kernel_rfl) hc6 rfl ?_
        refine XL_skipT _ rfl rfl (by kernel_rfl) hc6 rfl ?_
        refine XL_cons rfl (X_of_Y0 rfl (Y0_pick0 (b := bif (bif (bif (bif (leI 1 l1.1) then (leI l1.1 1000) else false) then (leI 1 l1.2.2) else false) then (leI l1.2.2 1000) else false) then (leI 0 l1.2.1) else false) (p := ltI l1.2.1 l1.1) (q := false) rfl (by kernel_rfl) hc6 (by kernel_rfl))) ?_
        refine L0 rfl rfl (E_assign (Bo (bif (bif (bif (bif (bif (leI 1 l1.1) then (leI l1.1 1000) else false) then (leI 1 l1.2.2) else false) then (leI l1.2.2 1000) else false) then (leI 0 l1.2.1) else false) then (ltI l1.2.1 l1.1) else false)) rfl (by kernel_rfl)) ?_
        refine XL_nil ?_
        subst ht7
        kernel_rfl
     ·refine XL_skipT _ rfl rfl (by kernel_rfl) hc4 rfl ?_
      refine XL_skipT _ rfl rfl (by kernel_rfl) hc4 rfl ?_
      refine XL_skipT _ rfl rfl (by kernel_rfl) hc4 rfl ?_
      refine XL_cons rfl (X_of_Y0 rfl (Y0_pick0 (b := bif (bif (leI 1 l1.1) then (leI l1.1 1000) else false) then (leI 1 l1.2.2) else false) (p := leI l1.2.2 1000) (q := false) rfl (by kernel_rfl) hc4 (by kernel_rfl))) ?_
      refine L0 rfl rfl (E_move (Bo (bif (bif (bif (leI 1 l1.1) then (leI l1.1 1000) else false) then (leI 1 l1.2.2) else false) then (leI l1.2.2 1000) else false)) rfl (by kernel_rfl)) ?_
      refine XL_split (bif (bif (bif (leI 1 l1.1) then (leI l1.1 1000) else false) then (leI 1 l1.2.2) else false) then (leI l1.2.2 1000) else false) (fun hc5 => ?_) (fun hc5 => ?_)
      ·refine XL_takeC _ rfl rfl (by kernel_rfl) hc5 (X_of_Y0 rfl (E_field (.pt 8 1) Try.underlying25 rfl sz3 rfl (by kernel_rfl) (by intro hh; cases hh))) ?_
       refine XL_takeC _ rfl rfl (by kernel_rfl) hc5 (X_of_Y0 rfl (Y0_load1 (c := Ti l1.2.1) (cs := [Ti l1.2.2]) sc3 rfl (by kernel_rfl))) ?_
       refine XL_takeC _ rfl rfl (by kernel_rfl) hc5 (X_of_Y0 rfl (Y0_gew (k := .i64) (a := l1.2.1) (b := 0) rfl (by kernel_rfl) (by kernel_rfl))) ?_
       refine XL_cons rfl (X_of_Y0 rfl (Y0_pick1 (b := bif (bif (bif (leI 1 l1.1) then (leI l1.1 1000) else false) then (leI 1 l1.2.2) else false) then (leI l1.2.2 1000) else false) (p := leI 0 l1.2.1) (q := false) rfl (by kernel_rfl) hc5 (by kernel_rfl))) ?_
       refine L0 rfl rfl (E_move (Bo (bif (bif (bif (bif (leI 1 l1.1) then (leI l1.1 1000) else false) then (leI 1 l1.2.2) else false) then (leI l1.2.2 1000) else false) then (leI 0 l1.2.1) else false)) rfl (by kernel_rfl)) ?_
       refine XL_split (bif (bif (bif (bif (leI 1 l1.1) then (leI l1.1 1000) else false) then (leI 1 l1.2.2) else false) then (leI l1.2.2 1000) else false) then (leI 0 l1.2.1) else false) (fun hc6 => ?_) (fun hc6 => ?_)
       ·refine XL_takeC _ rfl rfl (by kernel_rfl) hc6 (X_of_Y0 rfl (E_field (.pt 8 1) Try.underlying25 rfl sz3 rfl (by kernel_rfl) (by intro hh; cases hh))) ?_
        refine XL_takeC _ rfl rfl (by kernel_rfl) hc6 (X_of_Y0 rfl (Y0_load1 (c := Ti l1.2.1) (cs := [Ti l1.2.2]) sc3 rfl (by kernel_rfl))) ?_
        refine XL_takeC _ rfl rfl (by kernel_rfl) hc6 (X_of_Y0 rfl (E_field (.pt 8 0) Try.underlying25 rfl sz3 rfl (by kernel_rfl) (by intro hh; cases hh))) ?_
        refine XL_takeC _ rfl rfl (by kernel_rfl) hc6 (X_of_Y0 rfl (Y0_load1 (c := Ti l1.1) (cs := [Ti l1.2.1, Ti l1.2.2]) sc3 rfl (by kernel_rfl))) ?_
        refine XL_takeC _ rfl rfl (by kernel_rfl) hc6 (X_of_Y0 rfl (Y0_ltw (k := .i64) (a := l1.2.1) (b := l1.1) rfl (by kernel_rfl) (by kernel_rfl))) ?_
        refine XL_cons rfl (X_of_Y0 rfl (Y0_pick1 (b := bif (bif (bif (bif (leI 1 l1.1) then (leI l1.1 1000) else false) then (leI 1 l1.2.2) else false) then (leI l1.2.2 1000) else false) then (leI 0 l1.2.1) else false) (p := ltI l1.2.1 l1.1) (q := false) rfl (by kernel_rfl) hc6 (by kernel_rfl))) ?_
        refine L0 rfl rfl (E_assign (Bo (bif (bif (bif (bif (bif (leI 1 l1.1) then (leI l1.1 1000) else false) then (leI 1 l1.2.2) else false) then (leI l1.2.2 1000) else false) then (leI 0 l1.2.1) else false) then (ltI l1.2.1 l1.1) else false)) rfl (by kernel_rfl)) ?_
        refine XL_nil ?_
        subst ht7
        kernel_rfl
       ·refine XL_skipT _ rfl rfl (by kernel_rfl) hc6 rfl ?_
        refine XL_skipT _ rfl rfl (by kernel_rfl) hc6 rfl ?_
        refine XL_skipT _ rfl rfl (by kernel_rfl) hc6 rfl ?_
        refine XL_skipT _ rfl rfl (by kernel_rfl) hc6 rfl ?_
        refine XL_skipT _ rfl rfl (by kernel_rfl) hc6 rfl ?_
        refine XL_cons rfl (X_of_Y0 rfl (Y0_pick0 (b := bif (bif (bif (bif (leI 1 l1.1) then (leI l1.1 1000) else false) then (leI 1 l1.2.2) else false) then (leI l1.2.2 1000) else false) then (leI 0 l1.2.1) else false) (p := ltI l1.2.1 l1.1) (q := false) rfl (by kernel_rfl) hc6 (by kernel_rfl))) ?_
        refine L0 rfl rfl (E_assign (Bo (bif (bif (bif (bif (bif (leI 1 l1.1) then (leI l1.1 1000) else false) then (leI 1 l1.2.2) else false) then (leI l1.2.2 1000) else false) then (leI 0 l1.2.1) else false) then (ltI l1.2.1 l1.1) else false)) rfl (by kernel_rfl)) ?_
        refine XL_nil ?_
        subst ht7
        kernel_rfl
      ·refine XL_skipT _ rfl rfl (by kernel_rfl) hc5 rfl ?_
       refine XL_skipT _ rfl rfl (by kernel_rfl) hc5 rfl ?_
       refine XL_skipT _ rfl rfl (by kernel_rfl) hc5 rfl ?_
       refine XL_cons rfl (X_of_Y0 rfl (Y0_pick0 (b := bif (bif (bif (leI 1 l1.1) then (leI l1.1 1000) else false) then (leI 1 l1.2.2) else false) then (leI l1.2.2 1000) else false) (p := leI 0 l1.2.1) (q := false) rfl (by kernel_rfl) hc5 (by kernel_rfl))) ?_
       refine L0 rfl rfl (E_move (Bo (bif (bif (bif (bif (leI 1 l1.1) then (leI l1.1 1000) else false) then (leI 1 l1.2.2) else false) then (leI l1.2.2 1000) else false) then (leI 0 l1.2.1) else false)) rfl (by kernel_rfl)) ?_
       refine XL_split (bif (bif (bif (bif (leI 1 l1.1) then (leI l1.1 1000) else false) then (leI 1 l1.2.2) else false) then (leI l1.2.2 1000) else false) then (leI 0 l1.2.1) else false) (fun hc6 => ?_) (fun hc6 => ?_)
       ·refine XL_takeC _ rfl rfl (by kernel_rfl) hc6 (X_of_Y0 rfl (E_field (.pt 8 1) Try.underlying25 rfl sz3 rfl (by kernel_rfl) (by intro hh; cases hh))) ?_
        refine XL_takeC _ rfl rfl (by kernel_rfl) hc6 (X_of_Y0 rfl (Y0_load1 (c := Ti l1.2.1) (cs := [Ti l1.2.2]) sc3 rfl (by kernel_rfl))) ?_
        refine XL_takeC _ rfl rfl (by kernel_rfl) hc6 (X_of_Y0 rfl (E_field (.pt 8 0) Try.underlying25 rfl sz3 rfl (by kernel_rfl) (by intro hh; cases hh))) ?_
        refine XL_takeC _ rfl rfl (by kernel_rfl) hc6 (X_of_Y0 rfl (Y0_load1 (c := Ti l1.1) (cs := [Ti l1.2.1, Ti l1.2.2]) sc3 rfl (by kernel_rfl))) ?_
        refine XL_takeC _ rfl rfl (by kernel_rfl) hc6 (X_of_Y0 rfl (Y0_ltw (k := .i64) (a := l1.2.1) (b := l1.1) rfl (by kernel_rfl) (by kernel_rfl))) ?_
        refine XL_cons rfl (X_of_Y0 rfl (Y0_pick1 (b := bif (bif (bif (bif (leI 1 l1.1) then (leI l1.1 1000) else false) then (leI 1 l1.2.2) else false) then (leI l1.2.2 1000) else false) then (leI 0 l1.2.1) else false) (p := ltI l1.2.1 l1.1) (q := false) rfl (by kernel_rfl) hc6 (by kernel_rfl))) ?_
        refine L0 rfl rfl (E_assign (Bo (bif (bif (bif (bif (bif (leI 1 l1.1) then (leI l1.1 1000) else false) then (leI 1 l1.2.2) else false) then (leI l1.2.2 1000) else false) then (leI 0 l1.2.1) else false) then (ltI l1.2.1 l1.1) else false)) rfl (by kernel_rfl)) ?_
        refine XL_nil ?_
        subst ht7
        kernel_rfl
       ·refine XL_skipT _ rfl rfl (by kernel_rfl) hc6 rfl ?_
        refine XL_skipT _ rfl rfl (by kernel_rfl) hc6 rfl ?_
        refine XL_skipT _ rfl rfl (by kernel_rfl) hc6 rfl ?_
        refine XL_skipT _ rfl rfl (by kernel_rfl) hc6 rfl ?_
        refine XL_skipT _ rfl rfl (by kernel_rfl) hc6 rfl ?_
        refine XL_cons rfl (X_of_Y0 rfl (Y0_pick0 (b := bif (bif (bif (bif (leI 1 l1.1) then (leI l1.1 1000) else false) then (leI 1 l1.2.2) else false) then (leI l1.2.2 1000) else false) then (leI 0 l1.2.1) else false) (p := ltI l1.2.1 l1.1) (q := false) rfl (by kernel_rfl) hc6 (by kernel_rfl))) ?_
        refine L0 rfl rfl (E_assign (Bo (bif (bif (bif (bif (bif (leI 1 l1.1) then (leI l1.1 1000) else false) then (leI 1 l1.2.2) else false) then (leI l1.2.2 1000) else false) then (leI 0 l1.2.1) else false) then (ltI l1.2.1 l1.1) else false)) rfl (by kernel_rfl)) ?_
        refine XL_nil ?_
        subst ht7
        kernel_rfl
    ·refine XL_skipT _ rfl rfl (by kernel_rfl) hc3 rfl ?_
     refine XL_skipT _ rfl rfl (by kernel_rfl) hc3 rfl ?_
     refine XL_skipT _ rfl rfl (by kernel_rfl) hc3 rfl ?_
     refine XL_cons rfl (X_of_Y0 rfl (Y0_pick0 (b := bif (leI 1 l1.1) then (leI l1.1 1000) else false) (p := leI 1 l1.2.2) (q := false) rfl (by kernel_rfl) hc3 (by kernel_rfl))) ?_
     refine L0 rfl rfl (E_move (Bo (bif (bif (leI 1 l1.1) then (leI l1.1 1000) else false) then (leI 1 l1.2.2) else false)) rfl (by kernel_rfl)) ?_
     refine XL_split (bif (bif (leI 1 l1.1) then (leI l1.1 1000) else false) then (leI 1 l1.2.2) else false) (fun hc4 => ?_) (fun hc4 => ?_)
     ·refine XL_takeC _ rfl rfl (by kernel_rfl) hc4 (X_of_Y0 rfl (E_field (.pt 8 2) Try.underlying25 rfl sz3 rfl (by kernel_rfl) (by intro hh; cases hh))) ?_
      refine XL_takeC _ rfl rfl (by kernel_rfl) hc4 (X_of_Y0 rfl (Y0_load1 (c := Ti l1.2.2) (cs := []) sc3 rfl (by kernel_rfl))) ?_
      refine XL_takeC _ rfl rfl (by kernel_rfl) hc4 (X_of_Y0 rfl (Y0_lew (k := .i64) (a := l1.2.2) (b := 1000) rfl (by kernel_rfl) (by kernel_rfl))) ?_
      refine XL_cons rfl (X_of_Y0 rfl (Y0_pick1 (b := bif (bif (leI 1 l1.1) then (leI l1.1 1000) else false) then (leI 1 l1.2.2) else false) (p := leI l1.2.2 1000) (q := false) rfl (by kernel_rfl) hc4 (by kernel_rfl))) ?_
      refine L0 rfl rfl (E_move (Bo (bif (bif (bif (leI 1 l1.1) then (leI l1.1 1000) else false) then (leI 1 l1.2.2) else false) then (leI l1.2.2 1000) else false)) rfl (by kernel_rfl)) ?_
      refine XL_split (bif (bif (bif (leI 1 l1.1) then (leI l1.1 1000) else false) then (leI 1 l1.2.2) else false) then (leI l1.2.2 1000) else false) (fun hc5 => ?_) (fun hc5 => ?_)
      ·refine XL_takeC _ rfl rfl (by kernel_rfl) hc5 (X_of_Y0 rfl (E_field (.pt 8 1) Try.underlying25 rfl sz3 rfl (by kernel_rfl) (by intro hh; cases hh))) ?_
       refine XL_takeC _ rfl rfl (by kernel_rfl) hc5 (X_of_Y0 rfl (Y0_load1 (c := Ti l1.2.1) (cs := [Ti l1.2.2]) sc3 rfl (by kernel_rfl))) ?_
       refine XL_takeC _ rfl rfl (by kernel_rfl) hc5 (X_of_Y0 rfl (Y0_gew (k := .i64) (a := l1.2.1) (b := 0) rfl (by kernel_rfl) (by kernel_rfl))) ?_
       refine XL_cons rfl (X_of_Y0 rfl (Y0_pick1 (b := bif (bif (bif (leI 1 l1.1) then (leI l1.1 1000) else false) then (leI 1 l1.2.2) else false) then (leI l1.2.2 1000) else false) (p := leI 0 l1.2.1) (q := false) rfl (by kernel_rfl) hc5 (by kernel_rfl))) ?_
       refine L0 rfl rfl (E_move (Bo (bif (bif (bif (bif (leI 1 l1.1) then (leI l1.1 1000) else false) then (leI 1 l1.2.2) else false) then (leI l1.2.2 1000) else false) then (leI 0 l1.2.1) else false)) rfl (by kernel_rfl)) ?_
       refine XL_split (bif (bif (bif (bif (leI 1 l1.1) then (leI l1.1 1000) else false) then (leI 1 l1.2.2) else false) then (leI l1.2.2 1000) else false) then (leI 0 l1.2.1) else false) (fun hc6 => ?_) (fun hc6 => ?_)
       ·refine XL_takeC _ rfl rfl (by kernel_rfl) hc6 (X_of_Y0 rfl (E_field (.pt 8 1) Try.underlying25 rfl sz3 rfl (by kernel_rfl) (by intro hh; cases hh))) ?_
        refine XL_takeC _ rfl rfl (by kernel_rfl) hc6 (X_of_Y0 rfl (Y0_load1 (c := Ti l1.2.1) (cs := [Ti l1.2.2]) sc3 rfl (by kernel_rfl))) ?_
        refine XL_takeC _ rfl rfl (by kernel_rfl) hc6 (X_of_Y0 rfl (E_field (.pt 8 0) Try.underlying25 rfl sz3 rfl (by kernel_rfl) (by intro hh; cases hh))) ?_
        refine XL_takeC _ rfl rfl (by kernel_rfl) hc6 (X_of_Y0 rfl (Y0_load1 (c := Ti l1.1) (cs := [Ti l1.2.1, Ti l1.2.2]) sc3 rfl (by kernel_rfl))) ?_
        refine XL_takeC _ rfl rfl (by kernel_rfl) hc6 (X_of_Y0 rfl (Y0_ltw (k := .i64) (a := l1.2.1) (b := l1.1) rfl (by kernel_rfl) (by kernel_rfl))) ?_
        refine XL_cons rfl (X_of_Y0 rfl (Y0_pick1 (b := bif (bif (bif (bif (leI 1 l1.1) then (leI l1.1 1000) else false) then (leI 1 l1.2.2) else false) then (leI l1.2.2 1000) else false) then (leI 0 l1.2.1) else false) (p := ltI l1.2.1 l1.1) (q := false) rfl (by kernel_rfl) hc6 (by kernel_rfl))) ?_
        refine L0 rfl rfl (E_assign (Bo (bif (bif (bif (bif (bif (leI 1 l1.1) then (leI l1.1 1000) else false) then (leI 1 l1.2.2) else false) then (leI l1.2.2 1000) else false) then (leI 0 l1.2.1) else false) then (ltI l1.2.1 l1.1) else false)) rfl (by kernel_rfl)) ?_
        refine XL_nil ?_
        subst ht7
        kernel_rfl
       ·refine XL_skipT _ rfl rfl (by kernel_rfl) hc6 rfl ?_
        refine XL_skipT _ rfl rfl (by kernel_rfl) hc6 rfl ?_
        refine XL_skipT _ rfl rfl (by kernel_rfl) hc6 rfl ?_
        refine XL_skipT _ rfl rfl (by kernel_rfl) hc6 rfl ?_
        refine XL_skipT _ rfl rfl (by kernel_rfl) hc6 rfl ?_
        refine XL_cons rfl (X_of_Y0 rfl (Y0_pick0 (b := bif (bif (bif (bif (leI 1 l1.1) then (leI l1.1 1000) else false) then (leI 1 l1.2.2) else false) then (leI l1.2.2 1000) else false) then (leI 0 l1.2.1) else false) (p := ltI l1.2.1 l1.1) (q := false) rfl (by kernel_rfl) hc6 (by kernel_rfl))) ?_
        refine L0 rfl rfl (E_assign (Bo (bif (bif (bif (bif (bif (leI 1 l1.1) then (leI l1.1 1000) else false) then (leI 1 l1.2.2) else false) then (leI l1.2.2 1000) else false) then (leI 0 l1.2.1) else false) then (ltI l1.2.1 l1.1) else false)) rfl (by kernel_rfl)) ?_
        refine XL_nil ?_
        subst ht7
        kernel_rfl
      ·refine XL_skipT _ rfl rfl (by kernel_rfl) hc5 rfl ?_
       refine XL_skipT _ rfl rfl (by kernel_rfl) hc5 rfl ?_
       refine XL_skipT _ rfl rfl (by kernel_rfl) hc5 rfl ?_
       refine XL_cons rfl (X_of_Y0 rfl (Y0_pick0 (b := bif (bif (bif (leI 1 l1.1) then (leI l1.1 1000) else false) then (leI 1 l1.2.2) else false) then (leI l1.2.2 1000) else false) (p := leI 0 l1.2.1) (q := false) rfl (by kernel_rfl) hc5 (by kernel_rfl))) ?_
       refine L0 rfl rfl (E_move (Bo (bif (bif (bif (bif (leI 1 l1.1) then (leI l1.1 1000) else false) then (leI 1 l1.2.2) else false) then (leI l1.2.2 1000) else false) then (leI 0 l1.2.1) else false)) rfl (by kernel_rfl)) ?_
       refine XL_split (bif (bif (bif (bif (leI 1 l1.1) then (leI l1.1 1000) else false) then (leI 1 l1.2.2) else false) then (leI l1.2.2 1000) else false) then (leI 0 l1.2.1) else false) (fun hc6 => ?_) (fun hc6 => ?_)
       ·refine XL_takeC _ rfl rfl (by kernel_rfl) hc6 (X_of_Y0 rfl (E_field (.pt 8 1) Try.underlying25 rfl sz3 rfl (by kernel_rfl) (by intro hh; cases hh))) ?_
        refine XL_takeC _ rfl rfl (by kernel_rfl) hc6 (X_of_Y0 rfl (Y0_load1 (c := Ti l1.2.1) (cs := [Ti l1.2.2]) sc3 rfl (by kernel_rfl))) ?_
        refine XL_takeC _ rfl rfl (by kernel_rfl) hc6 (X_of_Y0 rfl (E_field (.pt 8 0) Try.underlying25 rfl sz3 rfl (by kernel_rfl) (by intro hh; cases hh))) ?_
        refine XL_takeC _ rfl rfl (by kernel_rfl) hc6 (X_of_Y0 rfl (Y0_load1 (c := Ti l1.1) (cs := [Ti l1.2.1, Ti l1.2.2]) sc3 rfl (by kernel_rfl))) ?_
        refine XL_takeC _ rfl rfl (by kernel_rfl) hc6 (X_of_Y0 rfl (Y0_ltw (k := .i64) (a := l1.2.1) (b := l1.1) rfl (by kernel_rfl) (by kernel_rfl))) ?_
        refine XL_cons rfl (X_of_Y0 rfl (Y0_pick1 (b := bif (bif (bif (bif (leI 1 l1.1) then (leI l1.1 1000) else false) then (leI 1 l1.2.2) else false) then (leI l1.2.2 1000) else false) then (leI 0 l1.2.1) else false) (p := ltI l1.2.1 l1.1) (q := false) rfl (by kernel_rfl) hc6 (by kernel_rfl))) ?_
        refine L0 rfl rfl (E_assign (Bo (bif (bif (bif (bif (bif (leI 1 l1.1) then (leI l1.1 1000) else false) then (leI 1 l1.2.2) else false) then (leI l1.2.2 1000) else false) then (leI 0 l1.2.1) else false) then (ltI l1.2.1 l1.1) else false)) rfl (by kernel_rfl)) ?_
        refine XL_nil ?_
        subst ht7
        kernel_rfl
       ·refine XL_skipT _ rfl rfl (by kernel_rfl) hc6 rfl ?_
        refine XL_skipT _ rfl rfl (by kernel_rfl) hc6 rfl ?_
        refine XL_skipT _ rfl rfl (by kernel_rfl) hc6 rfl ?_
        refine XL_skipT _ rfl rfl (by kernel_rfl) hc6 rfl ?_
        refine XL_skipT _ rfl rfl (by kernel_rfl) hc6 rfl ?_
        refine XL_cons rfl (X_of_Y0 rfl (Y0_pick0 (b := bif (bif (bif (bif (leI 1 l1.1) then (leI l1.1 1000) else false) then (leI 1 l1.2.2) else false) then (leI l1.2.2 1000) else false) then (leI 0 l1.2.1) else false) (p := ltI l1.2.1 l1.1) (q := false) rfl (by kernel_rfl) hc6 (by kernel_rfl))) ?_
        refine L0 rfl rfl (E_assign (Bo (bif (bif (bif (bif (bif (leI 1 l1.1) then (leI l1.1 1000) else false) then (leI 1 l1.2.2) else false) then (leI l1.2.2 1000) else false) then (leI 0 l1.2.1) else false) then (ltI l1.2.1 l1.1) else false)) rfl (by kernel_rfl)) ?_
        refine XL_nil ?_
        subst ht7
        kernel_rfl
     ·refine XL_skipT _ rfl rfl (by kernel_rfl) hc4 rfl ?_
      refine XL_skipT _ rfl rfl (by kernel_rfl) hc4 rfl ?_
      refine XL_skipT _ rfl rfl (by kernel_rfl) hc4 rfl ?_
      refine XL_cons rfl (X_of_Y0 rfl (Y0_pick0 (b := bif (bif (leI 1 l1.1) then (leI l1.1 1000) else false) then (leI 1 l1.2.2) else false) (p := leI l1.2.2 1000) (q := false) rfl (by kernel_rfl) hc4 (by kernel_rfl))) ?_
      refine L0 rfl rfl (E_move (Bo (bif (bif (bif (leI 1 l1.1) then (leI l1.1 1000) else false) then (leI 1 l1.2.2) else false) then (leI l1.2.2 1000) else false)) rfl (by kernel_rfl)) ?_
      refine XL_split (bif (bif (bif (leI 1 l1.1) then (leI l1.1 1000) else false) then (leI 1 l1.2.2) else false) then (leI l1.2.2 1000) else false) (fun hc5 => ?_) (fun hc5 => ?_)
      ·refine XL_takeC _ rfl rfl (by kernel_rfl) hc5 (X_of_Y0 rfl (E_field (.pt 8 1) Try.underlying25 rfl sz3 rfl (by kernel_rfl) (by intro hh; cases hh))) ?_
       refine XL_takeC _ rfl rfl (by kernel_rfl) hc5 (X_of_Y0 rfl (Y0_load1 (c := Ti l1.2.1) (cs := [Ti l1.2.2]) sc3 rfl (by kernel_rfl))) ?_
       refine XL_takeC _ rfl rfl (by kernel_rfl) hc5 (X_of_Y0 rfl (Y0_gew (k := .i64) (a := l1.2.1) (b := 0) rfl (by kernel_rfl) (by kernel_rfl))) ?_
       refine XL_cons rfl (X_of_Y0 rfl (Y0_pick1 (b := bif (bif (bif (leI 1 l1.1) then (leI l1.1 1000) else false) then (leI 1 l1.2.2) else false) then (leI l1.2.2 1000) else false) (p := leI 0 l1.2.1) (q := false) rfl (by kernel_rfl) hc5 (by kernel_rfl))) ?_
       refine L0 rfl rfl (E_move (Bo (bif (bif (bif (bif (leI 1 l1.1) then (leI l1.1 1000) else false) then (leI 1 l1.2.2) else false) then (leI l1.2.2 1000) else false) then (leI 0 l1.2.1) else false)) rfl (by kernel_rfl)) ?_
       refine XL_split (bif (bif (bif (bif (leI 1 l1.1) then (leI l1.1 1000) else false) then (leI 1 l1.2.2) else false) then (leI l1.2.2 1000) else false) then (leI 0 l1.2.1) else false) (fun hc6 => ?_) (fun hc6 => ?_)
       ·refine XL_takeC _ rfl rfl (by kernel_rfl) hc6 (X_of_Y0 rfl (E_field (.pt 8 1) Try.underlying25 rfl sz3 rfl (by kernel_rfl) (by intro hh; cases hh))) ?_
        refine XL_takeC _ rfl rfl (by kernel_rfl) hc6 (X_of_Y0 rfl (Y0_load1 (c := Ti l1.2.1) (cs := [Ti l1.2.2]) sc3 rfl (by kernel_rfl))) ?_
        refine XL_takeC _ rfl rfl (by kernel_rfl) hc6 (X_of_Y0 rfl (E_field (.pt 8 0) Try.underlying25 rfl sz3 rfl (by kernel_rfl) (by intro hh; cases hh))) ?_
        refine XL_takeC _ rfl rfl (by kernel_rfl) hc6 (X_of_Y0 rfl (Y0_load1 (c := Ti l1.1) (cs := [Ti l1.2.1, Ti l1.2.2]) sc3 rfl (by kernel_rfl))) ?_
        refine XL_takeC _ rfl rfl (by kernel_rfl) hc6 (X_of_Y0 rfl (Y0_ltw (k := .i64) (a := l1.2.1) (b := l1.1) rfl (by kernel_rfl) (by kernel_rfl))) ?_
        refine XL_cons rfl (X_of_Y0 rfl (Y0_pick1 (b := bif (bif (bif (bif (leI 1 l1.1) then (leI l1.1 1000) else false) then (leI 1 l1.2.2) else false) then (leI l1.2.2 1000) else false) then (leI 0 l1.2.1) else false) (p := ltI l1.2.1 l1.1) (q := false) rfl (by kernel_rfl) hc6 (by kernel_rfl))) ?_
        refine L0 rfl rfl (E_assign (Bo (bif (bif (bif (bif (bif (leI 1 l1.1) then (leI l1.1 1000) else false) then (leI 1 l1.2.2) else false) then (leI l1.2.2 1000) else false) then (leI 0 l1.2.1) else false) then (ltI l1.2.1 l1.1) else false)) rfl (by kernel_rfl)) ?_
        refine XL_nil ?_
        subst ht7
        kernel_rfl
       ·refine XL_skipT _ rfl rfl (by kernel_rfl) hc6 rfl ?_
        refine XL_skipT _ rfl rfl (by kernel_rfl) hc6 rfl ?_
        refine XL_skipT _ rfl rfl (by kernel_rfl) hc6 rfl ?_
        refine XL_skipT _ rfl rfl (by kernel_rfl) hc6 rfl ?_
        refine XL_skipT _ rfl rfl (by kernel_rfl) hc6 rfl ?_
        refine XL_cons rfl (X_of_Y0 rfl (Y0_pick0 (b := bif (bif (bif (bif (leI 1 l1.1) then (leI l1.1 1000) else false) then (leI 1 l1.2.2) else false) then (leI l1.2.2 1000) else false) then (leI 0 l1.2.1) else false) (p := ltI l1.2.1 l1.1) (q := false) rfl (by kernel_rfl) hc6 (by kernel_rfl))) ?_
        refine L0 rfl rfl (E_assign (Bo (bif (bif (bif (bif (bif (leI 1 l1.1) then (leI l1.1 1000) else false) then (leI 1 l1.2.2) else false) then (leI l1.2.2 1000) else false) then (leI 0 l1.2.1) else false) then (ltI l1.2.1 l1.1) else false)) rfl (by kernel_rfl)) ?_
        refine XL_nil ?_
        subst ht7
        kernel_rfl
      ·refine XL_skipT _ rfl rfl (by kernel_rfl) hc5 rfl ?_
       refine XL_skipT _ rfl rfl (by kernel_rfl) hc5 rfl ?_
       refine XL_skipT _ rfl rfl (by kernel_rfl) hc5 rfl ?_
       refine XL_cons rfl (X_of_Y0 rfl (Y0_pick0 (b := bif (bif (bif (leI 1 l1.1) then (leI l1.1 1000) else false) then (leI 1 l1.2.2) else false) then (leI l1.2.2 1000) else false) (p := leI 0 l1.2.1) (q := false) rfl (by kernel_rfl) hc5 (by kernel_rfl))) ?_
       refine L0 rfl rfl (E_move (Bo (bif (bif (bif (bif (leI 1 l1.1) then (leI l1.1 1000) else false) then (leI 1 l1.2.2) else false) then (leI l1.2.2 1000) else false) then (leI 0 l1.2.1) else false)) rfl (by kernel_rfl)) ?_
       refine XL_split (bif (bif (bif (bif (leI 1 l1.1) then (leI l1.1 1000) else false) then (leI 1 l1.2.2) else false) then (leI l1.2.2 1000) else false) then (leI 0 l1.2.1) else false) (fun hc6 => ?_) (fun hc6 => ?_)
       ·refine XL_takeC _ rfl rfl (by kernel_rfl) hc6 (X_of_Y0 rfl (E_field (.pt 8 1) Try.underlying25 rfl sz3 rfl (by kernel_rfl) (by intro hh; cases hh))) ?_
        refine XL_takeC _ rfl rfl (by kernel_rfl) hc6 (X_of_Y0 rfl (Y0_load1 (c := Ti l1.2.1) (cs := [Ti l1.2.2]) sc3 rfl (by kernel_rfl))) ?_
        refine XL_takeC _ rfl rfl (by kernel_rfl) hc6 (X_of_Y0 rfl (E_field (.pt 8 0) Try.underlying25 rfl sz3 rfl (by kernel_rfl) (by intro hh; cases hh))) ?_
        refine XL_takeC _ rfl rfl (by kernel_rfl) hc6 (X_of_Y0 rfl (Y0_load1 (c := Ti l1.1) (cs := [Ti l1.2.1, Ti l1.2.2]) sc3 rfl (by kernel_rfl))) ?_
        refine XL_takeC _ rfl rfl (by kernel_rfl) hc6 (X_of_Y0 rfl (Y0_ltw (k := .i64) (a := l1.2.1) (b := l1.1) rfl (by kernel_rfl) (by kernel_rfl))) ?_
        refine XL_cons rfl (X_of_Y0 rfl (Y0_pick1 (b := bif (bif (bif (bif (leI 1 l1.1) then (leI l1.1 1000) else false) then (leI 1 l1.2.2) else false) then (leI l1.2.2 1000) else false) then (leI 0 l1.2.1) else false) (p := ltI l1.2.1 l1.1) (q := false) rfl (by kernel_rfl) hc6 (by kernel_rfl))) ?_
        refine L0 rfl rfl (E_assign (Bo (bif (bif (bif (bif (bif (leI 1 l1.1) then (leI l1.1 1000) else false) then (leI 1 l1.2.2) else false) then (leI l1.2.2 1000) else false) then (leI 0 l1.2.1) else false) then (ltI l1.2.1 l1.1) else false)) rfl (by kernel_rfl)) ?_
        refine XL_nil ?_
        subst ht7
        kernel_rfl
       ·refine XL_skipT _ rfl rfl (by kernel_rfl) hc6 rfl ?_
        refine XL_skipT _ rfl rfl (by kernel_rfl) hc6 rfl ?_
        refine XL_skipT _ rfl rfl (by kernel_rfl) hc6 rfl ?_
        refine XL_skipT _ rfl rfl (by kernel_rfl) hc6 rfl ?_
        refine XL_skipT _ rfl rfl (by kernel_rfl) hc6 rfl ?_
        refine XL_cons rfl (X_of_Y0 rfl (Y0_pick0 (b := bif (bif (bif (bif (leI 1 l1.1) then (leI l1.1 1000) else false) then (leI 1 l1.2.2) else false) then (leI l1.2.2 1000) else false) then (leI 0 l1.2.1) else false) (p := ltI l1.2.1 l1.1) (q := false) rfl (by kernel_rfl) hc6 (by kernel_rfl))) ?_
        refine L0 rfl rfl (E_assign (Bo (bif (bif (bif (bif (bif (leI 1 l1.1) then (leI l1.1 1000) else false) then (leI 1 l1.2.2) else false) then (leI l1.2.2 1000) else false) then (leI 0 l1.2.1) else false) then (ltI l1.2.1 l1.1) else false)) rfl (by kernel_rfl)) ?_
        refine XL_nil ?_
        subst ht7
        kernel_rfl
  refine V_ret ?_
  obtain rfl := some_inj h
  show Post _ _ _ _ _
  exact ⟨.inr rfl, rfl, rfl, rfl⟩
theorem cf_impl_abs : ∀ args w, (callFunc 121 args).run Try.prog w = .ok (.enter 121 args) w := run_callFunc Try.func121 (by kernel_rfl) (by kernel_rfl)
set_option maxRecDepth 100000 in
set_option maxHeartbeats 400000 in
theorem s_impl_abs {vn1 : Int} {r : Int} (h : r_impl_abs vn1 = some r) : CallS Try.prog 121 [I vn1] (I r) [] := by
  refine CallS_of_text (rs := [.t 2]) (vs := [.tmp 2]) Try.func121 rfl rfl (.cons rfl FitsL.nil) (by decide) 8 rfl ?_
  unfold r_impl_abs at h
  show V _ _ ⟨I vn1 :: bt 7 [], []⟩ _
  refine V_sreg (mb 8 1) [] (s1 := ⟨I vn1 :: bt 7 [], []⟩) ?_ ?_
  ·refine L0 rfl rfl (E_assign (I 0) rfl (by kernel_rfl)) ?_
   refine XL_nil ?_
   kernel_rfl
  obtain ⟨t2, ht2, h⟩ := of_sI h
  refine V_sreg (mb 8 4) [] (s1 := ⟨.bot :: .bot :: I t2 :: bt 5 [], []⟩) ?_ ?_
  ·refine L0 rfl rfl (E_move (I vn1) rfl (by kernel_rfl)) ?_
   refine L0 rfl rfl (E_move (I vn1) rfl (by kernel_rfl)) ?_
   refine L0 rfl rfl (Y0_max (a := vn1) (b := -9223372036854775807) rfl (by kernel_rfl) (by kernel_rfl)) ?_
   refine L0 rfl rfl (Y0_neg64 (a := mxI vn1 (-9223372036854775807)) rfl (by kernel_rfl)) ?_
   refine L0 rfl rfl (Y0_max (a := vn1) (b := w64 (0 - (mxI vn1 (-9223372036854775807)))) rfl (by kernel_rfl) (by kernel_rfl)) ?_
   refine L0 rfl rfl (E_assign (I (mxI vn1 (w64 (0 - (mxI vn1 (-9223372036854775807)))))) rfl (by kernel_rfl)) ?_
   refine XL_nil ?_
   subst ht2
   kernel_rfl
  refine V_ret ?_
  obtain rfl := some_inj h
  show Post _ _ _ _ _
  exact ⟨.inr rfl, rfl, rfl, rfl⟩
theorem cf_impl_gcd : ∀ args w, (callFunc 57 args).run Try.prog w = .ok (.enter 57 args) w := run_callFunc Try.func57 (by kernel_rfl) (by kernel_rfl)
set_option maxRecDepth 100000 in
set_option maxHeartbeats 400000 in
theorem s_impl_gcd {a1 : Int} {b2 : Int} {r : Int} (h : r_impl_gcd a1 b2 = some r) : CallS Try.prog 57 [I a1, I b2] (I r) [] := by
  refine CallS_of_text (rs := [.t 4]) (vs := [.tmp 4]) Try.func57 rfl rfl (.cons rfl FitsL.nil) (by decide) 13 rfl ?_
  unfold r_impl_gcd at h
  show V _ _ ⟨I a1 :: I b2 :: bt 11 [], []⟩ _
  refine V_sreg (mb 13 3) [] (s1 := ⟨I a1 :: I b2 :: bt 11 [], []⟩) ?_ ?_
  ·refine L0 rfl rfl (E_assign (I 0) rfl (by kernel_rfl)) ?_
   refine XL_nil ?_
   kernel_rfl
  refine V_seq ?_
  obtain ⟨o6, hLo6, h⟩ := of_bind h
  refine V_toK (mb 13 1) [] (s1 := ⟨I o6 :: bt 12 [], []⟩) ?_ ?_
  ·clear h
   refine V_block (V_loop (fun n s => ∃ (a3 : Int) (b4 : Int), s.keep (mb 13 3) [] = (⟨I a3 :: I b4 :: bt 11 [], []⟩ : St) ∧ r_impl_gcd_L5 n a3 b4 = some o6) FU ⟨_, _,  by rfl, hLo6⟩ ?_)
   clear hLo6
   rintro n s ⟨a3, b4, hs, h⟩
   refine V_keep _ _ hs ?_
   clear hs
   cases n with
   | zero => cases h
   | succ n =>
    rw [r_impl_gcd_L5] at h
    refine V_seq ?_
    refine V_sreg (mb 13 67) [] (s1 := ⟨I a3 :: I b4 :: bt 4 (Bo (!eqI b4 0) :: bt 6 []), []⟩) ?_ ?_
    ·refine L0 rfl rfl (E_move (I b4) rfl (by kernel_rfl)) ?_
     refine L0 rfl rfl (Y0_new (k := .i64) (a := b4) (b := 0) rfl (by kernel_rfl) (by kernel_rfl)) ?_
     refine XL_nil ?_
     kernel_rfl
    refine V_cond rfl (fun hc7 => ?_) (fun hc7 => ?_)
    ·have h := of_true h hc7
     refine V_skip ?_
     show V _ _ _ _
     refine V_block ?_
     obtain ⟨z8, hz8, h⟩ := of_bind h
     obtain ⟨b9, hb9, h⟩ := of_sI h
     refine V_dreg [0, 0, 0, 6, 3, 31] 6 [[.z, .b, .b, .b, .z, .z], [.b, .z, .b, .z, .z, .z], [.b, .b, .z, .z, .b, .z], [.b, .a, .a, .z, .b, .z], [.a, .a, .b, .b, .z, .z], [.a, .a, .a, .a, .a, .z]] (mb 13 3) [] (s1 := ⟨I b4 :: I b9 :: bt 11 [], []⟩) (by kernel_rfl) (by kernel_rfl) ?_ ?_
     ·refine DE_0 0 (I b4) (by kernel_rfl) rfl rfl rfl (gsat_none rfl) (by kernel_rfl) (E_move (I b4) rfl (by kernel_rfl)) 7 rfl ?_
      refine DE_0 1 (I a3) (by kernel_rfl) rfl rfl rfl (gsat_none rfl) (by kernel_rfl) (E_move (I a3) rfl (by kernel_rfl)) 8 rfl ?_
      refine DE_0 2 (I b4) (by kernel_rfl) rfl rfl rfl (gsat_none rfl) (by kernel_rfl) (E_move (I b4) rfl (by kernel_rfl)) 9 rfl ?_
      refine DE_0 3 (I (Int.tmod a3 b4)) (by kernel_rfl) rfl rfl rfl (gsat_none rfl) (by kernel_rfl) (Y0_rem (k := .i64) (a := a3) (b := b4) rfl (by kernel_rfl) (by kernel_rfl) (nz_some hz8)) 10 rfl ?_
      refine DE_0 4 (I b4) (by kernel_rfl) rfl rfl rfl (gsat_none rfl) (by kernel_rfl) (E_assign (I b4) rfl (by kernel_rfl)) 0 rfl ?_
      refine DE_0 5 (I (Int.tmod a3 b4)) (by kernel_rfl) rfl rfl rfl (gsat_none rfl) (by kernel_rfl) (E_assign (I (Int.tmod a3 b4)) rfl (by kernel_rfl)) 1 rfl ?_
      refine DL_nil (by kernel_rfl) ?_
      refine XL_nil ?_
      subst hb9
      kernel_rfl
     exact ⟨n, Nat.lt_succ_self n, _, _,  by rfl, h⟩
    ·have h := of_false h hc7
     refine V_exit ?_
     obtain rfl := some_inj h
     show St.keep _ _ _ = _
     rfl
  show V _ _ _ _
  obtain ⟨y10, hy10, h⟩ := of_bind h
  refine V_sreg (mb 13 16) [] (s1 := ⟨bt 4 (I y10 :: bt 8 []), []⟩) ?_ ?_
  ·refine L0 rfl rfl (E_move (I o6) rfl (by kernel_rfl)) ?_
   refine L1 rfl rfl (Y1_call (s_impl_abs hy10) cf_impl_abs rfl (by kernel_rfl)) ?_
   refine L0 rfl rfl (E_assign (I y10) rfl (by kernel_rfl)) ?_
   refine XL_nil ?_
   kernel_rfl
  refine V_ret ?_
  obtain rfl := some_inj h
  show Post _ _ _ _ _
  exact ⟨.inr rfl, rfl, rfl, rfl⟩
theorem cf_impl_mod : ∀ args w, (callFunc 58 args).run Try.prog w = .ok (.enter 58 args) w := run_callFunc Try.func58 (by kernel_rfl) (by kernel_rfl)
set_option maxRecDepth 100000 in
set_option maxHeartbeats 400000 in
theorem s_impl_mod {a1 : Int} {vm2 : Int} {r : Int} (h : r_impl_mod a1 vm2 = some r) : CallS Try.prog 58 [I a1, I vm2] (I r) [] := by
  refine CallS_of_text (rs := [.t 4]) (vs := [.tmp 4]) Try.func58 rfl rfl (.cons rfl FitsL.nil) (by decide) 15 rfl ?_
  unfold r_impl_mod at h
  show V _ _ ⟨I a1 :: I vm2 :: bt 13 [], []⟩ _
  refine V_sreg (mb 15 3) [] (s1 := ⟨I a1 :: I vm2 :: bt 13 [], []⟩) ?_ ?_
  ·refine L0 rfl rfl (E_assign (I 0) rfl (by kernel_rfl)) ?_
   refine XL_nil ?_
   kernel_rfl
  obtain ⟨z3, hz3, h⟩ := of_bind h
  obtain ⟨vr4, hvr4, h⟩ := of_sI h
  refine V_sreg (mb 15 34) [] (s1 := ⟨.bot :: I vm2 :: bt 3 (I vr4 :: bt 9 []), []⟩) ?_ ?_
  ·refine L0 rfl rfl (E_move (I a1) rfl (by kernel_rfl)) ?_
   refine L0 rfl rfl (E_move (I vm2) rfl (by kernel_rfl)) ?_
   refine L0 rfl rfl (Y0_rem (k := .i64) (a := a1) (b := vm2) rfl (by kernel_rfl) (by kernel_rfl) (nz_some hz3)) ?_
   refine L0 rfl rfl (E_assign (I (Int.tmod a1 vm2)) rfl (by kernel_rfl)) ?_
   refine XL_nil ?_
   subst hvr4
   kernel_rfl
  refine V_seq ?_
  refine V_sreg (mb 15 1058) [] (s1 := ⟨.bot :: I vm2 :: bt 3 (I vr4 :: bt 4 (Bo (ltI vr4 0) :: bt 4 [])), []⟩) ?_ ?_
  ·refine L0 rfl rfl (E_move (I vr4) rfl (by kernel_rfl)) ?_
   refine L0 rfl rfl (Y0_ltw (k := .i64) (a := vr4) (b := 0) rfl (by kernel_rfl) (by kernel_rfl)) ?_
   refine XL_nil ?_
   kernel_rfl
  refine V_cond rfl (fun hc5 => ?_) (fun hc5 => ?_)
  ·have h := of_true h hc5
   obtain ⟨vr6, hvr6, h⟩ := of_sI h
   refine V_reg (mb 15 32) [] (s1 := ⟨bt 5 (I vr6 :: bt 9 []), []⟩) ?_ ?_
   ·refine L0 rfl rfl (E_move (I vr4) rfl (by kernel_rfl)) ?_
    refine L0 rfl rfl (E_move (I vm2) rfl (by kernel_rfl)) ?_
    refine L0 rfl rfl (Y0_add64 (a := vr4) (b := vm2) rfl (by kernel_rfl) (by kernel_rfl)) ?_
    refine L0 rfl rfl (E_assign (I (w64 (vr4 + vm2))) rfl (by kernel_rfl)) ?_
    refine XL_nil ?_
    subst hvr6
    kernel_rfl
   show V _ _ _ _
   refine V_sreg (mb 15 16) [] (s1 := ⟨bt 4 (I vr6 :: bt 10 []), []⟩) ?_ ?_
   ·refine L0 rfl rfl (E_move (I vr6) rfl (by kernel_rfl)) ?_
    refine L0 rfl rfl (E_assign (I vr6) rfl (by kernel_rfl)) ?_
    refine XL_nil ?_
    kernel_rfl
   refine V_ret ?_
   obtain rfl := some_inj h
   show Post _ _ _ _ _
   exact ⟨.inr rfl, rfl, rfl, rfl⟩
  ·have h := of_false h hc5
   refine V_skip ?_
   show V _ _ _ _
   refine V_sreg (mb 15 16) [] (s1 := ⟨bt 4 (I vr4 :: bt 10 []), []⟩) ?_ ?_
   ·refine L0 rfl rfl (E_move (I vr4) rfl (by kernel_rfl)) ?_
    refine L0 rfl rfl (E_assign (I vr4) rfl (by kernel_rfl)) ?_
    refine XL_nil ?_
    kernel_rfl
   refine V_ret ?_
   obtain rfl := some_inj h
   show Post _ _ _ _ _
   exact ⟨.inr rfl, rfl, rfl, rfl⟩
theorem cf_impl_validLattice : ∀ args w, (callFunc 59 args).run Try.prog w = .ok (.enter 59 args) w := run_callFunc Try.func59 (by kernel_rfl) (by kernel_rfl)
set_option maxRecDepth 100000 in
set_option maxHeartbeats 400000 in
theorem s_impl_validLattice {l1 : (Int × Int × Int)} {r : (((Int × Int × Int)) × Bool)} (h : r_impl_validLattice l1 = some r) : CallS Try.prog 59 [.ag [Ti l1.1, Ti l1.2.1, Ti l1.2.2]] (.tc (.ag [Ti r.1.1, Ti r.1.2.1, Ti r.1.2.2]) (.tc (Bo r.2) .tn)) [] := by
  refine CallS_of_text (rs := [.w 2 3, .t 3]) (vs := [.cell 2 25, .tmp 3]) Try.func59 rfl rfl (.cons ⟨rfl, wd25⟩ (.cons rfl FitsL.nil)) (by decide) 9 rfl ?_
  unfold r_impl_validLattice at h
  show V _ _ ⟨.ag [Ti l1.1, Ti l1.2.1, Ti l1.2.2] :: bt 8 [], []⟩ _
  refine V_sreg (mb 9 6) [16, 8] (s1 := ⟨.bot :: .pt 8 0 :: .pt 16 0 :: bt 6 [], [(16, .box [Ti 0, Ti 0, Ti 0]), (8, .box [Ti l1.1, Ti l1.2.1, Ti l1.2.2])]⟩) ?_ ?_
  ·refine L1 rfl rfl (Y1_box (cs := [Ti l1.1, Ti l1.2.1, Ti l1.2.2]) rfl (by kernel_rfl)) ?_
   refine L1 rfl rfl (Y1_alloc (z := zv25) rfl zf25 rfl) ?_
   refine L0 rfl rfl (E_assign (Bo false) rfl (by kernel_rfl)) ?_
   refine XL_nil ?_
   kernel_rfl
  refine V_seq ?_
  obtain ⟨y2, hy2, h⟩ := of_bind h
  refine V_sreg (mb 9 70) [16, 8] (s1 := ⟨.bot :: .pt 8 0 :: .pt 16 0 :: bt 3 (Bo (!y2) :: .bot :: .bot :: []), [(16, .box [Ti 0, Ti 0, Ti 0]), (8, .box [Ti l1.1, Ti l1.2.1, Ti l1.2.2])]⟩) ?_ ?_
  ·refine L0 rfl rfl (E_loadn (cs := [Ti l1.1, Ti l1.2.1, Ti l1.2.2]) [Ti l1.1, Ti l1.2.1, Ti l1.2.2] wd25 rfl (by kernel_rfl) (Nat.le_of_ble_eq_true rfl) (by kernel_rfl)) ?_
   refine L1 rfl rfl (Y1_call (s_impl_isLattice hy2) cf_impl_isLattice rfl (by kernel_rfl)) ?_
   refine L0 rfl rfl (Y0_not (b := y2) rfl (by kernel_rfl)) ?_
   refine XL_nil ?_
   kernel_rfl
  refine V_cond rfl (fun hc3 => ?_) (fun hc3 => ?_)
  ·have h := of_true h hc3
   refine V_sreg (mb 9 12) [16] (s1 := ⟨.bot :: .bot :: .pt 16 0 :: Bo false :: bt 5 [], [(16, .box [Ti 0, Ti 0, Ti 0])]⟩) ?_ ?_
   ·refine L0 rfl rfl (Y0_build (cs := [Ti 0, Ti 0, Ti 0]) pl25 bt25 rfl rfl (by kernel_rfl)) ?_
    refine XL_cons rfl (E_store (id := 16) (off := 0) (cs := [Ti 0, Ti 0, Ti 0]) (vc := [Ti 0, Ti 0, Ti 0]) [Ti 0, Ti 0, Ti 0] rfl rfl (by kernel_rfl) (by kernel_rfl) (by kernel_rfl) sz25 (Nat.le_of_ble_eq_true rfl) (by kernel_rfl)) ?_
    refine L0 rfl rfl (E_assign (Bo false) rfl (by kernel_rfl)) ?_
    refine XL_nil ?_
    kernel_rfl
   refine V_ret ?_
   obtain rfl := some_inj h
   show Post _ _ _ _ _
   exact ⟨.inr rfl, rfl, rfl, rfl⟩
  ·have h := of_false h hc3
   refine V_skip ?_
   show V _ _ _ _
   refine V_sreg (mb 9 12) [16] (s1 := ⟨.bot :: .bot :: .pt 16 0 :: Bo true :: bt 5 [], [(16, .box [Ti l1.1, Ti l1.2.1, Ti l1.2.2])]⟩) ?_ ?_
   ·refine L0 rfl rfl (E_loadn (cs := [Ti l1.1, Ti l1.2.1, Ti l1.2.2]) [Ti l1.1, Ti l1.2.1, Ti l1.2.2] wd25 rfl (by kernel_rfl) (Nat.le_of_ble_eq_true rfl) (by kernel_rfl)) ?_
    refine XL_cons rfl (E_store (id := 16) (off := 0) (cs := [Ti 0, Ti 0, Ti 0]) (vc := [Ti l1.1, Ti l1.2.1, Ti l1.2.2]) [Ti l1.1, Ti l1.2.1, Ti l1.2.2] rfl rfl (by kernel_rfl) (by kernel_rfl) (by kernel_rfl) sz25 (Nat.le_of_ble_eq_true rfl) (by kernel_rfl)) ?_
    refine L0 rfl rfl (E_assign (Bo true) rfl (by kernel_rfl)) ?_
    refine XL_nil ?_
    kernel_rfl
   refine V_ret ?_
   obtain rfl := some_inj h
   show Post _ _ _ _ _
   exact ⟨.inr rfl, rfl, rfl, rfl⟩
theorem cf_impl_MeetOfLattices : ∀ args w, (callFunc 10 args).run Try.prog w = .ok (.enter 10 args) w := run_callFunc Try.func10 (by kernel_rfl) (by kernel_rfl)
set_option maxRecDepth 100000 in
set_option maxHeartbeats 400000 in
theorem s_impl_MeetOfLattices {a1 : (Int × Int × Int)} {b2 : (Int × Int × Int)} {r : (((Int × Int × Int)) × Bool)} (h : r_impl_MeetOfLattices a1 b2 = some r) : CallS Try.prog 10 [.ag [Ti a1.1, Ti a1.2.1, Ti a1.2.2], .ag [Ti b2.1, Ti b2.2.1, Ti b2.2.2]] (.tc (.ag [Ti r.1.1, Ti r.1.2.1, Ti r.1.2.2]) (.tc (Bo r.2) .tn)) [] := by
  refine CallS_of_text (rs := [.w 4 3, .t 5]) (vs := [.cell 4 25, .tmp 5]) Try.func10 rfl rfl (.cons ⟨rfl, wd25⟩ (.cons rfl FitsL.nil)) (by decide) 108 rfl ?_
  unfold r_impl_MeetOfLattices at h
  show V _ _ ⟨.ag [Ti a1.1, Ti a1.2.1, Ti a1.2.2] :: .ag [Ti b2.1, Ti b2.2.1, Ti b2.2.2] :: bt 106 [], []⟩ _
  refine V_sreg (mb 108 28) [32, 24, 16] (s1 := ⟨.bot :: .bot :: .pt 16 0 :: .pt 24 0 :: .pt 32 0 :: bt 103 [], [(32, .box [Ti 0, Ti 0, Ti 0]), (24, .box [Ti b2.1, Ti b2.2.1, Ti b2.2.2]), (16, .box [Ti a1.1, Ti a1.2.1, Ti a1.2.2])]⟩) ?_ ?_
  ·refine L1 rfl rfl (Y1_box (cs := [Ti a1.1, Ti a1.2.1, Ti a1.2.2]) rfl (by kernel_rfl)) ?_
   refine L1 rfl rfl (Y1_box (cs := [Ti b2.1, Ti b2.2.1, Ti b2.2.2]) rfl (by kernel_rfl)) ?_
   refine L1 rfl rfl (Y1_alloc (z := zv25) rfl zf25 rfl) ?_
   refine L0 rfl rfl (E_assign (Bo false) rfl (by kernel_rfl)) ?_
   refine XL_nil ?_
   kernel_rfl
  refine V_seq ?_
  obtain ⟨y3, hy3, h⟩ := of_bind h
  obtain ⟨b6, hb6, h⟩ := of_bind h
  refine V_sreg (mb 108 262172) [32, 24, 16] (s1 := ⟨.bot :: .bot :: .pt 16 0 :: .pt 24 0 :: .pt 32 0 :: bt 13 (Bo b6 :: bt 89 []), [(32, .box [Ti 0, Ti 0, Ti 0]), (24, .box [Ti b2.1, Ti b2.2.1, Ti b2.2.2]), (16, .box [Ti a1.1, Ti a1.2.1, Ti a1.2.2])]⟩) ?_ ?_
  ·refine L0 rfl rfl (E_loadn (cs := [Ti a1.1, Ti a1.2.1, Ti a1.2.2]) [Ti a1.1, Ti a1.2.1, Ti a1.2.2] wd25 rfl (by kernel_rfl) (Nat.le_of_ble_eq_true rfl) (by kernel_rfl)) ?_
   refine L1 rfl rfl (Y1_call (s_impl_isLattice hy3) cf_impl_isLattice rfl (by kernel_rfl)) ?_
   refine L0 rfl rfl (Y0_not (b := y3) rfl (by kernel_rfl)) ?_
   refine L0 rfl rfl (E_move (Bo (!y3)) rfl (by kernel_rfl)) ?_
   refine XL_split (!y3) (fun hc4 => ?_) (fun hc4 => ?_)
   ·have hb6 := some_inj (of_true hb6 hc4)
    refine XL_skipF _ rfl rfl (by kernel_rfl) hc4 rfl ?_
    refine XL_skipF _ rfl rfl (by kernel_rfl) hc4 rfl ?_
    refine XL_skipF _ rfl rfl (by kernel_rfl) hc4 rfl ?_
    refine XL_cons rfl (X_of_Y0 rfl (Y0_pickTe (b := !y3) (p := true) rfl (by kernel_rfl) hc4 (by kernel_rfl) hb6)) ?_
    refine XL_nil ?_
    kernel_rfl
   ·have hb6 := of_false hb6 hc4
    obtain ⟨y5, hy5, hb6⟩ := of_bind hb6
    have hb6 := some_inj hb6
    refine XL_takeC _ rfl rfl (by kernel_rfl) hc4 (X_of_Y0 rfl (E_loadn (cs := [Ti b2.1, Ti b2.2.1, Ti b2.2.2]) [Ti b2.1, Ti b2.2.1, Ti b2.2.2] wd25 rfl (by kernel_rfl) (Nat.le_of_ble_eq_true rfl) (by kernel_rfl))) ?_
    refine XL_takeC _ rfl rfl (by kernel_rfl) hc4 (X_of_Y1 rfl (Y1_call (s_impl_isLattice hy5) cf_impl_isLattice rfl (by kernel_rfl))) ?_
    refine XL_takeC _ rfl rfl (by kernel_rfl) hc4 (X_of_Y0 rfl (Y0_not (b := y5) rfl (by kernel_rfl))) ?_
    refine XL_cons rfl (X_of_Y0 rfl (Y0_pickFe (b := !y3) (p := !y5) rfl (by kernel_rfl) hc4 (by kernel_rfl) hb6)) ?_
    refine XL_nil ?_
    kernel_rfl
  refine V_cond rfl (fun hc7 => ?_) (fun hc7 => ?_)
  ·have h := of_true h hc7
   refine V_sreg (mb 108 48) [32] (s1 := ⟨bt 4 (.pt 32 0 :: Bo false :: bt 102 []), [(32, .box [Ti 0, Ti 0, Ti 0])]⟩) ?_ ?_
   ·refine L0 rfl rfl (Y0_build (cs := [Ti 0, Ti 0, Ti 0]) pl25 bt25 rfl rfl (by kernel_rfl)) ?_
    refine XL_cons rfl (E_store (id := 32) (off := 0) (cs := [Ti 0, Ti 0, Ti 0]) (vc := [Ti 0, Ti 0, Ti 0]) [Ti 0, Ti 0, Ti 0] rfl rfl (by kernel_rfl) (by kernel_rfl) (by kernel_rfl) sz25 (Nat.le_of_ble_eq_true rfl) (by kernel_rfl)) ?_
    refine L0 rfl rfl (E_assign (Bo false) rfl (by kernel_rfl)) ?_
    refine XL_nil ?_
    kernel_rfl
   refine V_ret ?_
   obtain rfl := some_inj h
   show Post _ _ _ _ _
   exact ⟨.inr rfl, rfl, rfl, rfl⟩
  ·have h := of_false h hc7
   refine V_skip ?_
   show V _ _ _ _
   obtain ⟨y8, hy8, h⟩ := of_bind h
   refine V_sreg (mb 108 92) [32, 24, 16] (s1 := ⟨.bot :: .bot :: .pt 16 0 :: .pt 24 0 :: .pt 32 0 :: .bot :: I y8 :: bt 101 [], [(32, .box [Ti 0, Ti 0, Ti 0]), (24, .box [Ti b2.1, Ti b2.2.1, Ti b2.2.2]), (16, .box [Ti a1.1, Ti a1.2.1, Ti a1.2.2])]⟩) ?_ ?_
   ·refine L0 rfl rfl (E_field (.pt 16 0) Try.underlying25 rfl sz3 rfl (by kernel_rfl) (by intro hh; cases hh)) ?_
    refine L0 rfl rfl (Y0_load1 (c := Ti a1.1) (cs := [Ti a1.2.1, Ti a1.2.2]) sc3 rfl (by kernel_rfl)) ?_
    refine L0 rfl rfl (E_field (.pt 24 0) Try.underlying25 rfl sz3 rfl (by kernel_rfl) (by intro hh; cases hh)) ?_
    refine L0 rfl rfl (Y0_load1 (c := Ti b2.1) (cs := [Ti b2.2.1, Ti b2.2.2]) sc3 rfl (by kernel_rfl)) ?_
    refine L1 rfl rfl (Y1_call (s_impl_gcd hy8) cf_impl_gcd rfl (by kernel_rfl)) ?_
    refine L0 rfl rfl (E_assign (I y8) rfl (by kernel_rfl)) ?_
    refine XL_nil ?_
    kernel_rfl
   obtain ⟨y9, hy9, h⟩ := of_bind h
   obtain ⟨z10, hz10, h⟩ := of_bind h
   obtain ⟨step11, hstep11, h⟩ := of_sI h
   refine V_sdreg [0, 1, 0, 4, 0, 16, 60, 127, 0, 256, 1023, 2047] 12 [[.z, .z, .b, .b, .b, .b, .b, .z, .b, .b, .z, .z], [.a, .z, .b, .b, .b, .b, .b, .z, .b, .b, .z, .z], [.b, .b, .z, .z, .b, .b, .z, .z, .b, .b, .z, .z], [.b, .b, .a, .z, .b, .b, .z, .z, .b, .b, .z, .z], [.b, .b, .b, .b, .z, .z, .z, .z, .b, .b, .z, .z], [.b, .b, .b, .b, .a, .z, .z, .z, .b, .b, .z, .z], [.b, .b, .a, .a, .a, .a, .z, .z, .b, .b, .z, .z], [.a, .a, .a, .a, .a, .a, .a, .z, .b, .b, .z, .z], [.b, .b, .b, .b, .b, .b, .b, .b, .z, .z, .z, .z], [.b, .b, .b, .b, .b, .b, .b, .b, .a, .z, .z, .z], [.a, .a, .a, .a, .a, .a, .a, .a, .a, .a, .z, .z], [.a, .a, .a, .a, .a, .a, .a, .a, .a, .a, .a, .z]] (mb 108 220) [32, 24, 16] (s1 := ⟨.bot :: .bot :: .pt 16 0 :: .pt 24 0 :: .pt 32 0 :: .bot :: I y8 :: I step11 :: bt 100 [], [(32, .box [Ti 0, Ti 0, Ti 0]), (24, .box [Ti b2.1, Ti b2.2.1, Ti b2.2.2]), (16, .box [Ti a1.1, Ti a1.2.1, Ti a1.2.2])]⟩) (by kernel_rfl) (by kernel_rfl) ?_ ?_
   ·refine DE_0 0 (.pt 16 2) (by kernel_rfl) rfl rfl rfl (gsat_none rfl) (by kernel_rfl) (E_field (.pt 16 2) Try.underlying25 rfl sz3 rfl (by kernel_rfl) (by intro hh; cases hh)) 25 rfl ?_
    refine DE_0 1 (I a1.2.2) (by kernel_rfl) rfl rfl rfl (gsat_none rfl) (by kernel_rfl) (Y0_load1 (c := Ti a1.2.2) (cs := []) sc3 rfl (by kernel_rfl)) 26 rfl ?_
    refine DE_0 2 (.pt 16 2) (by kernel_rfl) rfl rfl rfl (gsat_none rfl) (by kernel_rfl) (E_field (.pt 16 2) Try.underlying25 rfl sz3 rfl (by kernel_rfl) (by intro hh; cases hh)) 27 rfl ?_
    refine DE_0 3 (I a1.2.2) (by kernel_rfl) rfl rfl rfl (gsat_none rfl) (by kernel_rfl) (Y0_load1 (c := Ti a1.2.2) (cs := []) sc3 rfl (by kernel_rfl)) 28 rfl ?_
    refine DE_0 4 (.pt 24 2) (by kernel_rfl) rfl rfl rfl (gsat_none rfl) (by kernel_rfl) (E_field (.pt 24 2) Try.underlying25 rfl sz3 rfl (by kernel_rfl) (by intro hh; cases hh)) 29 rfl ?_
    refine DE_0 5 (I b2.2.2) (by kernel_rfl) rfl rfl rfl (gsat_none rfl) (by kernel_rfl) (Y0_load1 (c := Ti b2.2.2) (cs := []) sc3 rfl (by kernel_rfl)) 30 rfl ?_
    refine DE_1 6 (by kernel_rfl) rfl rfl rfl (gsat_none rfl) (Y1_call (s_impl_gcd hy9) cf_impl_gcd rfl (by kernel_rfl)) rfl rfl rfl 31 rfl ?_
    refine DE_0 7 (I (w64 (Int.tdiv a1.2.2 y9))) (by kernel_rfl) rfl rfl rfl (gsat_none rfl) (by kernel_rfl) (Y0_quo64 (a := a1.2.2) (b := y9) rfl (by kernel_rfl) (by kernel_rfl) (nz_some hz10)) 32 rfl ?_
    refine DE_0 8 (.pt 24 2) (by kernel_rfl) rfl rfl rfl (gsat_none rfl) (by kernel_rfl) (E_field (.pt 24 2) Try.underlying25 rfl sz3 rfl (by kernel_rfl) (by intro hh; cases hh)) 33 rfl ?_
    refine DE_0 9 (I b2.2.2) (by kernel_rfl) rfl rfl rfl (gsat_none rfl) (by kernel_rfl) (Y0_load1 (c := Ti b2.2.2) (cs := []) sc3 rfl (by kernel_rfl)) 34 rfl ?_
    refine DE_0 10 (I (w64 ((w64 (Int.tdiv a1.2.2 y9)) * b2.2.2))) (by kernel_rfl) rfl rfl rfl (gsat_none rfl) (by kernel_rfl) (Y0_mul64 (a := w64 (Int.tdiv a1.2.2 y9)) (b := b2.2.2) rfl (by kernel_rfl) (by kernel_rfl)) 35 rfl ?_
    refine DE_0 11 (I (w64 ((w64 (Int.tdiv a1.2.2 y9)) * b2.2.2))) (by kernel_rfl) rfl rfl rfl (gsat_none rfl) (by kernel_rfl) (E_assign (I (w64 ((w64 (Int.tdiv a1.2.2 y9)) * b2.2.2))) rfl (by kernel_rfl)) 7 rfl ?_
    refine DL_nil (by kernel_rfl) ?_
    refine XL_nil ?_
    subst hstep11
    kernel_rfl
   refine V_sreg (mb 108 476) [32, 24, 16] (s1 := ⟨.bot :: .bot :: .pt 16 0 :: .pt 24 0 :: .pt 32 0 :: .bot :: I y8 :: I step11 :: I step11 :: bt 99 [], [(32, .box [Ti 0, Ti 0, Ti 0]), (24, .box [Ti b2.1, Ti b2.2.1, Ti b2.2.2]), (16, .box [Ti a1.1, Ti a1.2.1, Ti a1.2.2])]⟩) ?_ ?_
   ·refine L0 rfl rfl (E_move (I step11) rfl (by kernel_rfl)) ?_
    refine L0 rfl rfl (E_assign (I step11) rfl (by kernel_rfl)) ?_
    refine XL_nil ?_
    kernel_rfl
   refine V_seq ?_
   obtain ⟨o14, hLo14, h⟩ := of_bind h
   refine V_toK (mb 108 348) [32, 24, 16] (s1 := ⟨.bot :: .bot :: .pt 16 0 :: .pt 24 0 :: .pt 32 0 :: .bot :: I y8 :: .bot :: I o14 :: bt 99 [], [(32, .box [Ti 0, Ti 0, Ti 0]), (24, .box [Ti b2.1, Ti b2.2.1, Ti b2.2.2]), (16, .box [Ti a1.1, Ti a1.2.1, Ti a1.2.2])]⟩) ?_ ?_
   ·clear h
    refine V_block (V_loop (fun n s => ∃ (y12 : Int), s.keep (mb 108 476) [32, 24, 16] = (⟨.bot :: .bot :: .pt 16 0 :: .pt 24 0 :: .pt 32 0 :: .bot :: I y8 :: I step11 :: I y12 :: bt 99 [], [(32, .box [Ti 0, Ti 0, Ti 0]), (24, .box [Ti b2.1, Ti b2.2.1, Ti b2.2.2]), (16, .box [Ti a1.1, Ti a1.2.1, Ti a1.2.2])]⟩ : St) ∧ r_impl_MeetOfLattices_L13 a1 b2 step11 y8 n y12 = some o14) FU ⟨_,  by rfl, hLo14⟩ ?_)
    clear hLo14
    rintro n s ⟨y12, hs, h⟩
    refine V_keep _ _ hs ?_
    clear hs
    cases n with
    | zero => cases h
    | succ n =>
     rw [r_impl_MeetOfLattices_L13] at h
     refine V_seq ?_
     obtain ⟨z15, hz15, h⟩ := of_bind h
     obtain ⟨z16, hz16, h⟩ := of_bind h
     obtain ⟨z17, hz17, h⟩ := of_bind h
     obtain ⟨t18, ht18, h⟩ := of_bind h
     have ht18 := some_inj ht18
     refine V_sdreg [0, 0, 2, 7, 0, 16, 63, 0, 0, 256, 896, 0, 2048, 8064, 16383, 0, 65535, 131071] 18 [[.z, .b, .b, .z, .b, .b, .z, .b, .b, .b, .b, .b, .b, .b, .z, .b, .z, .z], [.b, .z, .z, .z, .b, .b, .z, .b, .b, .b, .b, .b, .b, .b, .z, .b, .z, .z], [.b, .a, .z, .z, .b, .b, .z, .b, .b, .b, .b, .b, .b, .b, .z, .b, .z, .z], [.a, .a, .a, .z, .b, .b, .z, .b, .b, .b, .b, .b, .b, .b, .z, .b, .z, .z], [.b, .b, .b, .b, .z, .z, .z, .b, .b, .b, .b, .b, .b, .b, .z, .b, .z, .z], [.b, .b, .b, .b, .a, .z, .z, .b, .b, .b, .b, .b, .b, .b, .z, .b, .z, .z], [.a, .a, .a, .a, .a, .a, .z, .b, .b, .b, .b, .b, .b, .b, .z, .b, .z, .z], [.b, .b, .b, .b, .b, .b, .b, .z, .b, .b, .z, .b, .b, .z, .z, .b, .z, .z], [.b, .b, .b, .b, .b, .b, .b, .b, .z, .z, .z, .b, .b, .z, .z, .b, .z, .z], [.b, .b, .b, .b, .b, .b, .b, .b, .a, .z, .z, .b, .b, .z, .z, .b, .z, .z], [.b, .b, .b, .b, .b, .b, .b, .a, .a, .a, .z, .b, .b, .z, .z, .b, .z, .z], [.b, .b, .b, .b, .b, .b, .b, .b, .b, .b, .b, .z, .z, .z, .z, .b, .z, .z], [.b, .b, .b, .b, .b, .b, .b, .b, .b, .b, .b, .a, .z, .z, .z, .b, .z, .z], [.b, .b, .b, .b, .b, .b, .b, .a, .a, .a, .a, .a, .a, .z, .z, .b, .z, .z], [.a, .a, .a, .a, .a, .a, .a, .a, .a, .a, .a, .a, .a, .a, .z, .b, .z, .z], [.b, .b, .b, .b, .b, .b, .b, .b, .b, .b, .b, .b, .b, .b, .b, .z, .z, .z], [.a, .a, .a, .a, .a, .a, .a, .a, .a, .a, .a, .a, .a, .a, .a, .a, .z, .z], [.a, .a, .a, .a, .a, .a, .a, .a, .a, .a, .a, .a, .a, .a, .a, .a, .a, .z]] (mb 108 18014398509482460) [32, 24, 16] (s1 := ⟨.bot :: .bot :: .pt 16 0 :: .pt 24 0 :: .pt 32 0 :: .bot :: I y8 :: I step11 :: I y12 :: bt 45 (Bo t18 :: bt 53 []), [(32, .box [Ti 0, Ti 0, Ti 0]), (24, .box [Ti b2.1, Ti b2.2.1, Ti b2.2.2]), (16, .box [Ti a1.1, Ti a1.2.1, Ti a1.2.2])]⟩) (by kernel_rfl) (by kernel_rfl) ?_ ?_
     ·refine DE_0 0 (I y12) (by kernel_rfl) rfl rfl rfl (gsat_none rfl) (by kernel_rfl) (E_move (I y12) rfl (by kernel_rfl)) 37 rfl ?_
      refine DE_0 1 (.pt 16 2) (by kernel_rfl) rfl rfl rfl (gsat_none rfl) (by kernel_rfl) (E_field (.pt 16 2) Try.underlying25 rfl sz3 rfl (by kernel_rfl) (by intro hh; cases hh)) 38 rfl ?_
      refine DE_0 2 (I a1.2.2) (by kernel_rfl) rfl rfl rfl (gsat_none rfl) (by kernel_rfl) (Y0_load1 (c := Ti a1.2.2) (cs := []) sc3 rfl (by kernel_rfl)) 39 rfl ?_
      refine DE_0 3 (I (w64 (Int.tdiv y12 a1.2.2))) (by kernel_rfl) rfl rfl rfl (gsat_none rfl) (by kernel_rfl) (Y0_quo64 (a := y12) (b := a1.2.2) rfl (by kernel_rfl) (by kernel_rfl) (nz_some hz15)) 40 rfl ?_
      refine DE_0 4 (.pt 16 1) (by kernel_rfl) rfl rfl rfl (gsat_none rfl) (by kernel_rfl) (E_field (.pt 16 1) Try.underlying25 rfl sz3 rfl (by kernel_rfl) (by intro hh; cases hh)) 41 rfl ?_
      refine DE_0 5 (I a1.2.1) (by kernel_rfl) rfl rfl rfl (gsat_none rfl) (by kernel_rfl) (Y0_load1 (c := Ti a1.2.1) (cs := [Ti a1.2.2]) sc3 rfl (by kernel_rfl)) 42 rfl ?_
      refine DE_0 6 (I (w64 ((w64 (Int.tdiv y12 a1.2.2)) * a1.2.1))) (by kernel_rfl) rfl rfl rfl (gsat_none rfl) (by kernel_rfl) (Y0_mul64 (a := w64 (Int.tdiv y12 a1.2.2)) (b := a1.2.1) rfl (by kernel_rfl) (by kernel_rfl)) 43 rfl ?_
      refine DE_0 7 (I y12) (by kernel_rfl) rfl rfl rfl (gsat_none rfl) (by kernel_rfl) (E_move (I y12) rfl (by kernel_rfl)) 44 rfl ?_
      refine DE_0 8 (.pt 24 2) (by kernel_rfl) rfl rfl rfl (gsat_none rfl) (by kernel_rfl) (E_field (.pt 24 2) Try.underlying25 rfl sz3 rfl (by kernel_rfl) (by intro hh; cases hh)) 45 rfl ?_
      refine DE_0 9 (I b2.2.2) (by kernel_rfl) rfl rfl rfl (gsat_none rfl) (by kernel_rfl) (Y0_load1 (c := Ti b2.2.2) (cs := []) sc3 rfl (by kernel_rfl)) 46 rfl ?_
      refine DE_0 10 (I (w64 (Int.tdiv y12 b2.2.2))) (by kernel_rfl) rfl rfl rfl (gsat_none rfl) (by kernel_rfl) (Y0_quo64 (a := y12) (b := b2.2.2) rfl (by kernel_rfl) (by kernel_rfl) (nz_some hz16)) 47 rfl ?_
      refine DE_0 11 (.pt 24 1) (by kernel_rfl) rfl rfl rfl (gsat_none rfl) (by kernel_rfl) (E_field (.pt 24 1) Try.underlying25 rfl sz3 rfl (by kernel_rfl) (by intro hh; cases hh)) 48 rfl ?_
      refine DE_0 12 (I b2.2.1) (by kernel_rfl) rfl rfl rfl (gsat_none rfl) (by kernel_rfl) (Y0_load1 (c := Ti b2.2.1) (cs := [Ti b2.2.2]) sc3 rfl (by kernel_rfl)) 49 rfl ?_
      refine DE_0 13 (I (w64 ((w64 (Int.tdiv y12 b2.2.2)) * b2.2.1))) (by kernel_rfl) rfl rfl rfl (gsat_none rfl) (by kernel_rfl) (Y0_mul64 (a := w64 (Int.tdiv y12 b2.2.2)) (b := b2.2.1) rfl (by kernel_rfl) (by kernel_rfl)) 50 rfl ?_
      refine DE_0 14 (I (w64 ((w64 ((w64 (Int.tdiv y12 a1.2.2)) * a1.2.1)) - (w64 ((w64 (Int.tdiv y12 b2.2.2)) * b2.2.1))))) (by kernel_rfl) rfl rfl rfl (gsat_none rfl) (by kernel_rfl) (Y0_sub64 (a := w64 ((w64 (Int.tdiv y12 a1.2.2)) * a1.2.1)) (b := w64 ((w64 (Int.tdiv y12 b2.2.2)) * b2.2.1)) rfl (by kernel_rfl) (by kernel_rfl)) 51 rfl ?_
      refine DE_0 15 (I y8) (by kernel_rfl) rfl rfl rfl (gsat_none rfl) (by kernel_rfl) (E_move (I y8) rfl (by kernel_rfl)) 52 rfl ?_
      refine DE_0 16 (I (Int.tmod (w64 ((w64 ((w64 (Int.tdiv y12 a1.2.2)) * a1.2.1)) - (w64 ((w64 (Int.tdiv y12 b2.2.2)) * b2.2.1)))) y8)) (by kernel_rfl) rfl rfl rfl (gsat_none rfl) (by kernel_rfl) (Y0_rem (k := .i64) (a := w64 ((w64 ((w64 (Int.tdiv y12 a1.2.2)) * a1.2.1)) - (w64 ((w64 (Int.tdiv y12 b2.2.2)) * b2.2.1)))) (b := y8) rfl (by kernel_rfl) (by kernel_rfl) (nz_some hz17)) 53 rfl ?_
      refine DE_0 17 (Bo (!eqI (Int.tmod (w64 ((w64 ((w64 (Int.tdiv y12 a1.2.2)) * a1.2.1)) - (w64 ((w64 (Int.tdiv y12 b2.2.2)) * b2.2.1)))) y8) 0)) (by kernel_rfl) rfl rfl rfl (gsat_none rfl) (by kernel_rfl) (Y0_new (k := .i64) (a := Int.tmod (w64 ((w64 ((w64 (Int.tdiv y12 a1.2.2)) * a1.2.1)) - (w64 ((w64 (Int.tdiv y12 b2.2.2)) * b2.2.1)))) y8) (b := 0) rfl (by kernel_rfl) (by kernel_rfl)) 54 rfl ?_
      refine DL_nil (by kernel_rfl) ?_
      refine XL_nil ?_
      subst ht18
      kernel_rfl
     refine V_cond rfl (fun hc19 => ?_) (fun hc19 => ?_)
     ·have h := of_true h hc19
      refine V_skip ?_
      show V _ _ _ _
      refine V_block ?_
      obtain ⟨y20, hy20, h⟩ := of_sI h
      refine V_reg (mb 108 476) [32, 24, 16] (s1 := ⟨.bot :: .bot :: .pt 16 0 :: .pt 24 0 :: .pt 32 0 :: .bot :: I y8 :: I step11 :: I y20 :: bt 99 [], [(32, .box [Ti 0, Ti 0, Ti 0]), (24, .box [Ti b2.1, Ti b2.2.1, Ti b2.2.2]), (16, .box [Ti a1.1, Ti a1.2.1, Ti a1.2.2])]⟩) ?_ ?_
      ·refine L0 rfl rfl (E_move (I y12) rfl (by kernel_rfl)) ?_
       refine L0 rfl rfl (E_move (I step11) rfl (by kernel_rfl)) ?_
       refine L0 rfl rfl (Y0_add64 (a := y12) (b := step11) rfl (by kernel_rfl) (by kernel_rfl)) ?_
       refine L0 rfl rfl (E_assign (I (w64 (y12 + step11))) rfl (by kernel_rfl)) ?_
       refine XL_nil ?_
       subst hy20
       kernel_rfl
      exact ⟨n, Nat.lt_succ_self n, _,  by rfl, h⟩
     ·have h := of_false h hc19
      refine V_exit ?_
      obtain rfl := some_inj h
      show St.keep _ _ _ = _
      rfl
   show V _ _ _ _
   obtain ⟨z21, hz21, h⟩ := of_bind h
   obtain ⟨side22, hside22, h⟩ := of_sI h
   refine V_sdreg [0, 1, 0, 7, 0, 16, 63, 127] 8 [[.z, .z, .b, .z, .b, .b, .z, .z], [.a, .z, .b, .z, .b, .b, .z, .z], [.b, .b, .z, .z, .b, .b, .z, .z], [.a, .a, .a, .z, .b, .b, .z, .z], [.b, .b, .b, .b, .z, .z, .z, .z], [.b, .b, .b, .b, .a, .z, .z, .z], [.a, .a, .a, .a, .a, .a, .z, .z], [.a, .a, .a, .a, .a, .a, .a, .z]] (mb 108 796) [32, 24, 16] (s1 := ⟨.bot :: .bot :: .pt 16 0 :: .pt 24 0 :: .pt 32 0 :: bt 3 (I o14 :: I side22 :: bt 98 []), [(32, .box [Ti 0, Ti 0, Ti 0]), (24, .box [Ti b2.1, Ti b2.2.1, Ti b2.2.2]), (16, .box [Ti a1.1, Ti a1.2.1, Ti a1.2.2])]⟩) (by kernel_rfl) (by kernel_rfl) ?_ ?_
   ·refine DE_0 0 (.pt 16 0) (by kernel_rfl) rfl rfl rfl (gsat_none rfl) (by kernel_rfl) (E_field (.pt 16 0) Try.underlying25 rfl sz3 rfl (by kernel_rfl) (by intro hh; cases hh)) 58 rfl ?_
    refine DE_0 1 (I a1.1) (by kernel_rfl) rfl rfl rfl (gsat_none rfl) (by kernel_rfl) (Y0_load1 (c := Ti a1.1) (cs := [Ti a1.2.1, Ti a1.2.2]) sc3 rfl (by kernel_rfl)) 59 rfl ?_
    refine DE_0 2 (I y8) (by kernel_rfl) rfl rfl rfl (gsat_none rfl) (by kernel_rfl) (E_move (I y8) rfl (by kernel_rfl)) 60 rfl ?_
    refine DE_0 3 (I (w64 (Int.tdiv a1.1 y8))) (by kernel_rfl) rfl rfl rfl (gsat_none rfl) (by kernel_rfl) (Y0_quo64 (a := a1.1) (b := y8) rfl (by kernel_rfl) (by kernel_rfl) (nz_some hz21)) 61 rfl ?_
    refine DE_0 4 (.pt 24 0) (by kernel_rfl) rfl rfl rfl (gsat_none rfl) (by kernel_rfl) (E_field (.pt 24 0) Try.underlying25 rfl sz3 rfl (by kernel_rfl) (by intro hh; cases hh)) 62 rfl ?_
    refine DE_0 5 (I b2.1) (by kernel_rfl) rfl rfl rfl (gsat_none rfl) (by kernel_rfl) (Y0_load1 (c := Ti b2.1) (cs := [Ti b2.2.1, Ti b2.2.2]) sc3 rfl (by kernel_rfl)) 63 rfl ?_
    refine DE_0 6 (I (w64 ((w64 (Int.tdiv a1.1 y8)) * b2.1))) (by kernel_rfl) rfl rfl rfl (gsat_none rfl) (by kernel_rfl) (Y0_mul64 (a := w64 (Int.tdiv a1.1 y8)) (b := b2.1) rfl (by kernel_rfl) (by kernel_rfl)) 64 rfl ?_
    refine DE_0 7 (I (w64 ((w64 (Int.tdiv a1.1 y8)) * b2.1))) (by kernel_rfl) rfl rfl rfl (gsat_none rfl) (by kernel_rfl) (E_assign (I (w64 ((w64 (Int.tdiv a1.1 y8)) * b2.1))) rfl (by kernel_rfl)) 9 rfl ?_
    refine DL_nil (by kernel_rfl) ?_
    refine XL_nil ?_
    subst hside22
    kernel_rfl
   refine V_seq ?_
   refine V_sreg (mb 108 1180591620717411304220) [32, 24, 16] (s1 := ⟨.bot :: .bot :: .pt 16 0 :: .pt 24 0 :: .pt 32 0 :: bt 3 (I o14 :: I side22 :: bt 60 (Bo (bif (ltI 1000 side22) then true else (ltI 1000 o14)) :: bt 37 [])), [(32, .box [Ti 0, Ti 0, Ti 0]), (24, .box [Ti b2.1, Ti b2.2.1, Ti b2.2.2]), (16, .box [Ti a1.1, Ti a1.2.1, Ti a1.2.2])]⟩) ?_ ?_
   ·refine L0 rfl rfl (E_move (I side22) rfl (by kernel_rfl)) ?_
    refine L0 rfl rfl (Y0_gtw (k := .i64) (a := side22) (b := 1000) rfl (by kernel_rfl) (by kernel_rfl)) ?_
    refine L0 rfl rfl (E_move (Bo (ltI 1000 side22)) rfl (by kernel_rfl)) ?_
    refine XL_split (ltI 1000 side22) (fun hc23 => ?_) (fun hc23 => ?_)
    ·refine XL_skipF _ rfl rfl (by kernel_rfl) hc23 rfl ?_
     refine XL_skipF _ rfl rfl (by kernel_rfl) hc23 rfl ?_
     refine XL_cons rfl (X_of_Y0 rfl (Y0_pick1 (b := ltI 1000 side22) (p := true) (q := ltI 1000 o14) rfl (by kernel_rfl) hc23 (by kernel_rfl))) ?_
     refine XL_nil ?_
     kernel_rfl
    ·refine XL_takeC _ rfl rfl (by kernel_rfl) hc23 (X_of_Y0 rfl (E_move (I o14) rfl (by kernel_rfl))) ?_
     refine XL_takeC _ rfl rfl (by kernel_rfl) hc23 (X_of_Y0 rfl (Y0_gtw (k := .i64) (a := o14) (b := 1000) rfl (by kernel_rfl) (by kernel_rfl))) ?_
     refine XL_cons rfl (X_of_Y0 rfl (Y0_pick0 (b := ltI 1000 side22) (p := true) (q := ltI 1000 o14) rfl (by kernel_rfl) hc23 (by kernel_rfl))) ?_
     refine XL_nil ?_
     kernel_rfl
   refine V_cond rfl (fun hc24 => ?_) (fun hc24 => ?_)
   ·have h := of_true h hc24
    refine V_sreg (mb 108 48) [32] (s1 := ⟨bt 4 (.pt 32 0 :: Bo false :: bt 102 []), [(32, .box [Ti 0, Ti 0, Ti 0])]⟩) ?_ ?_
    ·refine L0 rfl rfl (Y0_build (cs := [Ti 0, Ti 0, Ti 0]) pl25 bt25 rfl rfl (by kernel_rfl)) ?_
     refine XL_cons rfl (E_store (id := 32) (off := 0) (cs := [Ti 0, Ti 0, Ti 0]) (vc := [Ti 0, Ti 0, Ti 0]) [Ti 0, Ti 0, Ti 0] rfl rfl (by kernel_rfl) (by kernel_rfl) (by kernel_rfl) sz25 (Nat.le_of_ble_eq_true rfl) (by kernel_rfl)) ?_
     refine L0 rfl rfl (E_assign (Bo false) rfl (by kernel_rfl)) ?_
     refine XL_nil ?_
     kernel_rfl
    refine V_ret ?_
    obtain rfl := some_inj h
    show Post _ _ _ _ _
    exact ⟨.inr rfl, rfl, rfl, rfl⟩
   ·have h := of_false h hc24
    refine V_skip ?_
    show V _ _ _ _
    obtain ⟨z25, hz25, h⟩ := of_bind h
    obtain ⟨y26, hy26, h⟩ := of_bind h
    refine V_sdreg [0, 0, 2, 7, 0, 16, 63, 0, 128, 511, 1023] 11 [[.z, .b, .b, .z, .b, .b, .z, .b, .b, .z, .z], [.b, .z, .z, .z, .b, .b, .z, .b, .b, .z, .z], [.b, .a, .z, .z, .b, .b, .z, .b, .b, .z, .z], [.a, .a, .a, .z, .b, .b, .z, .b, .b, .z, .z], [.b, .b, .b, .b, .z, .z, .z, .b, .b, .z, .z], [.b, .b, .b, .b, .a, .z, .z, .b, .b, .z, .z], [.a, .a, .a, .a, .a, .a, .z, .b, .b, .z, .z], [.b, .b, .b, .b, .b, .b, .b, .z, .z, .z, .z], [.b, .b, .b, .b, .b, .b, .b, .a, .z, .z, .z], [.a, .a, .a, .a, .a, .a, .a, .a, .a, .z, .z], [.a, .a, .a, .a, .a, .a, .a, .a, .a, .a, .z]] (mb 108 1820) [32, 24, 16] (s1 := ⟨.bot :: .bot :: .pt 16 0 :: .pt 24 0 :: .pt 32 0 :: bt 3 (I o14 :: I side22 :: I y26 :: bt 97 []), [(32, .box [Ti 0, Ti 0, Ti 0]), (24, .box [Ti b2.1, Ti b2.2.1, Ti b2.2.2]), (16, .box [Ti a1.1, Ti a1.2.1, Ti a1.2.2])]⟩) (by kernel_rfl) (by kernel_rfl) ?_ ?_
    ·refine DE_0 0 (I o14) (by kernel_rfl) rfl rfl rfl (gsat_none rfl) (by kernel_rfl) (E_move (I o14) rfl (by kernel_rfl)) 72 rfl ?_
     refine DE_0 1 (.pt 16 2) (by kernel_rfl) rfl rfl rfl (gsat_none rfl) (by kernel_rfl) (E_field (.pt 16 2) Try.underlying25 rfl sz3 rfl (by kernel_rfl) (by intro hh; cases hh)) 73 rfl ?_
     refine DE_0 2 (I a1.2.2) (by kernel_rfl) rfl rfl rfl (gsat_none rfl) (by kernel_rfl) (Y0_load1 (c := Ti a1.2.2) (cs := []) sc3 rfl (by kernel_rfl)) 74 rfl ?_
     refine DE_0 3 (I (w64 (Int.tdiv o14 a1.2.2))) (by kernel_rfl) rfl rfl rfl (gsat_none rfl) (by kernel_rfl) (Y0_quo64 (a := o14) (b := a1.2.2) rfl (by kernel_rfl) (by kernel_rfl) (nz_some hz25)) 75 rfl ?_
     refine DE_0 4 (.pt 16 1) (by kernel_rfl) rfl rfl rfl (gsat_none rfl) (by kernel_rfl) (E_field (.pt 16 1) Try.underlying25 rfl sz3 rfl (by kernel_rfl) (by intro hh; cases hh)) 76 rfl ?_
     refine DE_0 5 (I a1.2.1) (by kernel_rfl) rfl rfl rfl (gsat_none rfl) (by kernel_rfl) (Y0_load1 (c := Ti a1.2.1) (cs := [Ti a1.2.2]) sc3 rfl (by kernel_rfl)) 77 rfl ?_
     refine DE_0 6 (I (w64 ((w64 (Int.tdiv o14 a1.2.2)) * a1.2.1))) (by kernel_rfl) rfl rfl rfl (gsat_none rfl) (by kernel_rfl) (Y0_mul64 (a := w64 (Int.tdiv o14 a1.2.2)) (b := a1.2.1) rfl (by kernel_rfl) (by kernel_rfl)) 78 rfl ?_
     refine DE_0 7 (.pt 16 0) (by kernel_rfl) rfl rfl rfl (gsat_none rfl) (by kernel_rfl) (E_field (.pt 16 0) Try.underlying25 rfl sz3 rfl (by kernel_rfl) (by intro hh; cases hh)) 79 rfl ?_
     refine DE_0 8 (I a1.1) (by kernel_rfl) rfl rfl rfl (gsat_none rfl) (by kernel_rfl) (Y0_load1 (c := Ti a1.1) (cs := [Ti a1.2.1, Ti a1.2.2]) sc3 rfl (by kernel_rfl)) 80 rfl ?_
     refine DE_1 9 (by kernel_rfl) rfl rfl rfl (gsat_none rfl) (Y1_call (s_impl_mod hy26) cf_impl_mod rfl (by kernel_rfl)) rfl rfl rfl 81 rfl ?_
     refine DE_0 10 (I y26) (by kernel_rfl) rfl rfl rfl (gsat_none rfl) (by kernel_rfl) (E_assign (I y26) rfl (by kernel_rfl)) 10 rfl ?_
     refine DL_nil (by kernel_rfl) ?_
     refine XL_nil ?_
     kernel_rfl
    refine V_seq ?_
    obtain ⟨o29, hLo29, h⟩ := of_bind h
    refine V_toK (mb 108 1808) [32] (s1 := ⟨bt 4 (.pt 32 0 :: bt 3 (I o14 :: I side22 :: I o29 :: bt 97 [])), [(32, .box [Ti 0, Ti 0, Ti 0])]⟩) ?_ ?_
    ·clear h
     refine V_block (V_loop (fun n s => ∃ (x27 : Int), s.keep (mb 108 1820) [32, 24, 16] = (⟨.bot :: .bot :: .pt 16 0 :: .pt 24 0 :: .pt 32 0 :: bt 3 (I o14 :: I side22 :: I x27 :: bt 97 []), [(32, .box [Ti 0, Ti 0, Ti 0]), (24, .box [Ti b2.1, Ti b2.2.1, Ti b2.2.2]), (16, .box [Ti a1.1, Ti a1.2.1, Ti a1.2.2])]⟩ : St) ∧ r_impl_MeetOfLattices_L28 a1 b2 o14 side22 n x27 = some o29) FU ⟨_,  by rfl, hLo29⟩ ?_)
     clear hLo29
     rintro n s ⟨x27, hs, h⟩
     refine V_keep _ _ hs ?_
     clear hs
     cases n with
     | zero => cases h
     | succ n =>
      rw [r_impl_MeetOfLattices_L28] at h
      refine V_seq ?_
      obtain ⟨z30, hz30, h⟩ := of_bind h
      obtain ⟨y31, hy31, h⟩ := of_bind h
      refine V_sdreg [0, 0, 0, 4, 14, 0, 32, 126, 255, 0, 512, 2047, 4095] 13 [[.z, .b, .b, .b, .b, .b, .b, .b, .z, .b, .b, .z, .z], [.b, .z, .b, .b, .z, .b, .b, .z, .z, .b, .b, .z, .z], [.b, .b, .z, .z, .z, .b, .b, .z, .z, .b, .b, .z, .z], [.b, .b, .a, .z, .z, .b, .b, .z, .z, .b, .b, .z, .z], [.b, .a, .a, .a, .z, .b, .b, .z, .z, .b, .b, .z, .z], [.b, .b, .b, .b, .b, .z, .z, .z, .z, .b, .b, .z, .z], [.b, .b, .b, .b, .b, .a, .z, .z, .z, .b, .b, .z, .z], [.b, .a, .a, .a, .a, .a, .a, .z, .z, .b, .b, .z, .z], [.a, .a, .a, .a, .a, .a, .a, .a, .z, .b, .b, .z, .z], [.b, .b, .b, .b, .b, .b, .b, .b, .b, .z, .z, .z, .z], [.b, .b, .b, .b, .b, .b, .b, .b, .b, .a, .z, .z, .z], [.a, .a, .a, .a, .a, .a, .a, .a, .a, .a, .a, .z, .z], [.a, .a, .a, .a, .a, .a, .a, .a, .a, .a, .a, .a, .z]] (mb 108 19807040628566084398385989404) [32, 24, 16] (s1 := ⟨.bot :: .bot :: .pt 16 0 :: .pt 24 0 :: .pt 32 0 :: bt 3 (I o14 :: I side22 :: I x27 :: bt 83 (Bo (!eqI y31 0) :: bt 13 [])), [(32, .box [Ti 0, Ti 0, Ti 0]), (24, .box [Ti b2.1, Ti b2.2.1, Ti b2.2.2]), (16, .box [Ti a1.1, Ti a1.2.1, Ti a1.2.2])]⟩) (by kernel_rfl) (by kernel_rfl) ?_ ?_
      ·refine DE_0 0 (I x27) (by kernel_rfl) rfl rfl rfl (gsat_none rfl) (by kernel_rfl) (E_move (I x27) rfl (by kernel_rfl)) 82 rfl ?_
       refine DE_0 1 (I o14) (by kernel_rfl) rfl rfl rfl (gsat_none rfl) (by kernel_rfl) (E_move (I o14) rfl (by kernel_rfl)) 83 rfl ?_
       refine DE_0 2 (.pt 24 2) (by kernel_rfl) rfl rfl rfl (gsat_none rfl) (by kernel_rfl) (E_field (.pt 24 2) Try.underlying25 rfl sz3 rfl (by kernel_rfl) (by intro hh; cases hh)) 84 rfl ?_
       refine DE_0 3 (I b2.2.2) (by kernel_rfl) rfl rfl rfl (gsat_none rfl) (by kernel_rfl) (Y0_load1 (c := Ti b2.2.2) (cs := []) sc3 rfl (by kernel_rfl)) 85 rfl ?_
       refine DE_0 4 (I (w64 (Int.tdiv o14 b2.2.2))) (by kernel_rfl) rfl rfl rfl (gsat_none rfl) (by kernel_rfl) (Y0_quo64 (a := o14) (b := b2.2.2) rfl (by kernel_rfl) (by kernel_rfl) (nz_some hz30)) 86 rfl ?_
       refine DE_0 5 (.pt 24 1) (by kernel_rfl) rfl rfl rfl (gsat_none rfl) (by kernel_rfl) (E_field (.pt 24 1) Try.underlying25 rfl sz3 rfl (by kernel_rfl) (by intro hh; cases hh)) 87 rfl ?_
       refine DE_0 6 (I b2.2.1) (by kernel_rfl) rfl rfl rfl (gsat_none rfl) (by kernel_rfl) (Y0_load1 (c := Ti b2.2.1) (cs := [Ti b2.2.2]) sc3 rfl (by kernel_rfl)) 88 rfl ?_
       refine DE_0 7 (I (w64 ((w64 (Int.tdiv o14 b2.2.2)) * b2.2.1))) (by kernel_rfl) rfl rfl rfl (gsat_none rfl) (by kernel_rfl) (Y0_mul64 (a := w64 (Int.tdiv o14 b2.2.2)) (b := b2.2.1) rfl (by kernel_rfl) (by kernel_rfl)) 89 rfl ?_
       refine DE_0 8 (I (w64 (x27 - (w64 ((w64 (Int.tdiv o14 b2.2.2)) * b2.2.1))))) (by kernel_rfl) rfl rfl rfl (gsat_none rfl) (by kernel_rfl) (Y0_sub64 (a := x27) (b := w64 ((w64 (Int.tdiv o14 b2.2.2)) * b2.2.1)) rfl (by kernel_rfl) (by kernel_rfl)) 90 rfl ?_
       refine DE_0 9 (.pt 24 0) (by kernel_rfl) rfl rfl rfl (gsat_none rfl) (by kernel_rfl) (E_field (.pt 24 0) Try.underlying25 rfl sz3 rfl (by kernel_rfl) (by intro hh; cases hh)) 91 rfl ?_
       refine DE_0 10 (I b2.1) (by kernel_rfl) rfl rfl rfl (gsat_none rfl) (by kernel_rfl) (Y0_load1 (c := Ti b2.1) (cs := [Ti b2.2.1, Ti b2.2.2]) sc3 rfl (by kernel_rfl)) 92 rfl ?_
       refine DE_1 11 (by kernel_rfl) rfl rfl rfl (gsat_none rfl) (Y1_call (s_impl_mod hy31) cf_impl_mod rfl (by kernel_rfl)) rfl rfl rfl 93 rfl ?_
       refine DE_0 12 (Bo (!eqI y31 0)) (by kernel_rfl) rfl rfl rfl (gsat_none rfl) (by kernel_rfl) (Y0_new (k := .i64) (a := y31) (b := 0) rfl (by kernel_rfl) (by kernel_rfl)) 94 rfl ?_
       refine DL_nil (by kernel_rfl) ?_
       refine XL_nil ?_
       kernel_rfl
      refine V_cond rfl (fun hc32 => ?_) (fun hc32 => ?_)
      ·have h := of_true h hc32
       refine V_skip ?_
       show V _ _ _ _
       refine V_block ?_
       obtain ⟨x33, hx33, h⟩ := of_sI h
       refine V_reg (mb 108 1820) [32, 24, 16] (s1 := ⟨.bot :: .bot :: .pt 16 0 :: .pt 24 0 :: .pt 32 0 :: bt 3 (I o14 :: I side22 :: I x33 :: bt 97 []), [(32, .box [Ti 0, Ti 0, Ti 0]), (24, .box [Ti b2.1, Ti b2.2.1, Ti b2.2.2]), (16, .box [Ti a1.1, Ti a1.2.1, Ti a1.2.2])]⟩) ?_ ?_
       ·refine L0 rfl rfl (E_move (I x27) rfl (by kernel_rfl)) ?_
        refine L0 rfl rfl (E_field (.pt 16 0) Try.underlying25 rfl sz3 rfl (by kernel_rfl) (by intro hh; cases hh)) ?_
        refine L0 rfl rfl (Y0_load1 (c := Ti a1.1) (cs := [Ti a1.2.1, Ti a1.2.2]) sc3 rfl (by kernel_rfl)) ?_
        refine L0 rfl rfl (Y0_add64 (a := x27) (b := a1.1) rfl (by kernel_rfl) (by kernel_rfl)) ?_
        refine L0 rfl rfl (E_assign (I (w64 (x27 + a1.1))) rfl (by kernel_rfl)) ?_
        refine XL_nil ?_
        subst hx33
        kernel_rfl
       exact ⟨n, Nat.lt_succ_self n, _,  by rfl, h⟩
      ·have h := of_false h hc32
       refine V_exit ?_
       obtain rfl := some_inj h
       show St.keep _ _ _ = _
       rfl
    show V _ _ _ _
    obtain ⟨y34, hy34, h⟩ := of_bind h
    obtain ⟨y35, hy35, h⟩ := of_bind h
    refine V_sreg (mb 108 48) [32] (s1 := ⟨bt 4 (.pt 32 0 :: Bo y35.2 :: bt 102 []), [(32, .box [Ti y35.1.1, Ti y35.1.2.1, Ti y35.1.2.2])]⟩) ?_ ?_
    ·refine L0 rfl rfl (E_move (I side22) rfl (by kernel_rfl)) ?_
     refine L0 rfl rfl (E_move (I o29) rfl (by kernel_rfl)) ?_
     refine L0 rfl rfl (E_move (I side22) rfl (by kernel_rfl)) ?_
     refine L1 rfl rfl (Y1_call (s_impl_mod hy34) cf_impl_mod rfl (by kernel_rfl)) ?_
     refine L0 rfl rfl (E_move (I o14) rfl (by kernel_rfl)) ?_
     refine L0 rfl rfl (Y0_build (cs := [Ti side22, Ti y34, Ti o14]) pl25 bt25 rfl rfl (by kernel_rfl)) ?_
     refine L1 rfl rfl (Y1_call (s_impl_validLattice hy35) cf_impl_validLattice rfl (by kernel_rfl)) ?_
     refine L0 rfl rfl (E_ext (n := 0) (.ag [Ti y35.1.1, Ti y35.1.2.1, Ti y35.1.2.2]) (.tc (Bo y35.2) .tn) (.ag [Ti y35.1.1, Ti y35.1.2.1, Ti y35.1.2.2]) rfl (by kernel_rfl) (by kernel_rfl) (by intro hh; cases hh)) ?_
     refine L0 rfl rfl (E_ext (n := 1) (.ag [Ti y35.1.1, Ti y35.1.2.1, Ti y35.1.2.2]) (.tc (Bo y35.2) .tn) (Bo y35.2) rfl (by kernel_rfl) (by kernel_rfl) (by intro hh; cases hh)) ?_
     refine XL_cons rfl (E_store (id := 32) (off := 0) (cs := [Ti 0, Ti 0, Ti 0]) (vc := [Ti y35.1.1, Ti y35.1.2.1, Ti y35.1.2.2]) [Ti y35.1.1, Ti y35.1.2.1, Ti y35.1.2.2] rfl rfl (by kernel_rfl) (by kernel_rfl) (by kernel_rfl) sz25 (Nat.le_of_ble_eq_true rfl) (by kernel_rfl)) ?_
     refine L0 rfl rfl (E_assign (Bo y35.2) rfl (by kernel_rfl)) ?_
     refine XL_nil ?_
     kernel_rfl
    refine V_ret ?_
    obtain rfl := some_inj h
    show Post _ _ _ _ _
    exact ⟨.inr rfl, rfl, rfl, rfl⟩
theorem cf_spec_l1In : ∀ args w, (callFunc 125 args).run Try.prog w = .ok (.enter 125 args) w := run_callFunc Try.func125 (by kernel_rfl) (by kernel_rfl)
set_option maxRecDepth 100000 in
set_option maxHeartbeats 400000 in
theorem s_spec_l1In {vn1 : Int} {lo2 : Int} {hi3 : Int} {r : Bool} (h : r_spec_l1In vn1 lo2 hi3 = some r) : CallS Try.prog 125 [I vn1, I lo2, I hi3] (Bo r) [] := by
  refine CallS_of_text (rs := [.t 6]) (vs := [.tmp 6]) Try.func125 rfl rfl (.cons rfl FitsL.nil) (by decide) 15 rfl ?_
  unfold r_spec_l1In at h
  show V _ _ ⟨I vn1 :: I lo2 :: I hi3 :: bt 12 [], []⟩ _
  refine V_sreg (mb 15 7) [] (s1 := ⟨I vn1 :: I lo2 :: I hi3 :: bt 12 [], []⟩) ?_ ?_
  ·refine L0 rfl rfl (E_assign (Bo false) rfl (by kernel_rfl)) ?_
   refine XL_nil ?_
   kernel_rfl
  refine V_sreg (mb 15 64) [] (s1 := ⟨bt 6 (Bo (bif (leI lo2 vn1) then (leI vn1 hi3) else false) :: bt 8 []), []⟩) ?_ ?_
  ·refine L0 rfl rfl (E_move (I vn1) rfl (by kernel_rfl)) ?_
   refine L0 rfl rfl (E_move (I lo2) rfl (by kernel_rfl)) ?_
   refine L0 rfl rfl (Y0_gew (k := .i64) (a := vn1) (b := lo2) rfl (by kernel_rfl) (by kernel_rfl)) ?_
   refine L0 rfl rfl (E_move (Bo (leI lo2 vn1)) rfl (by kernel_rfl)) ?_
   refine XL_split (leI lo2 vn1) (fun hc4 => ?_) (fun hc4 => ?_)
   ·refine XL_takeC _ rfl rfl (by kernel_rfl) hc4 (X_of_Y0 rfl (E_move (I vn1) rfl (by kernel_rfl))) ?_
    refine XL_takeC _ rfl rfl (by kernel_rfl) hc4 (X_of_Y0 rfl (E_move (I hi3) rfl (by kernel_rfl))) ?_
    refine XL_takeC _ rfl rfl (by kernel_rfl) hc4 (X_of_Y0 rfl (Y0_lew (k := .i64) (a := vn1) (b := hi3) rfl (by kernel_rfl) (by kernel_rfl))) ?_
    refine XL_cons rfl (X_of_Y0 rfl (Y0_pick1 (b := leI lo2 vn1) (p := leI vn1 hi3) (q := false) rfl (by kernel_rfl) hc4 (by kernel_rfl))) ?_
    refine L0 rfl rfl (E_assign (Bo (bif (leI lo2 vn1) then (leI vn1 hi3) else false)) rfl (by kernel_rfl)) ?_
    refine XL_nil ?_
    kernel_rfl
   ·refine XL_skipT _ rfl rfl (by kernel_rfl) hc4 rfl ?_
    refine XL_skipT _ rfl rfl (by kernel_rfl) hc4 rfl ?_
    refine XL_skipT _ rfl rfl (by kernel_rfl) hc4 rfl ?_
    refine XL_cons rfl (X_of_Y0 rfl (Y0_pick0 (b := leI lo2 vn1) (p := leI vn1 hi3) (q := false) rfl (by kernel_rfl) hc4 (by kernel_rfl))) ?_
    refine L0 rfl rfl (E_assign (Bo (bif (leI lo2 vn1) then (leI vn1 hi3) else false)) rfl (by kernel_rfl)) ?_
    refine XL_nil ?_
    kernel_rfl
  refine V_ret ?_
  obtain rfl := some_inj h
  show Post _ _ _ _ _
  exact ⟨.inr rfl, rfl, rfl, rfl⟩
theorem cf_spec_laGood : ∀ args w, (callFunc 60 args).run Try.prog w = .ok (.enter 60 args) w := run_callFunc Try.func60 (by kernel_rfl) (by kernel_rfl)
set_option maxRecDepth 100000 in
set_option maxHeartbeats 400000 in
theorem s_spec_laGood {l1 : (Int × Int × Int)} {r : Bool} (h : r_spec_laGood l1 = some r) : CallS Try.prog 60 [.ag [Ti l1.1, Ti l1.2.1, Ti l1.2.2]] (Bo r) [] := by
  refine CallS_of_text (rs := [.t 2]) (vs := [.tmp 2]) Try.func60 rfl rfl (.cons rfl FitsL.nil) (by decide) 19 rfl ?_
  unfold r_spec_laGood at h
  show V _ _ ⟨.ag [Ti l1.1, Ti l1.2.1, Ti l1.2.2] :: bt 18 [], []⟩ _
  refine V_sreg (mb 19 2) [8] (s1 := ⟨.bot :: .pt 8 0 :: bt 17 [], [(8, .box [Ti l1.1, Ti l1.2.1, Ti l1.2.2])]⟩) ?_ ?_
  ·refine L1 rfl rfl (Y1_box (cs := [Ti l1.1, Ti l1.2.1, Ti l1.2.2]) rfl (by kernel_rfl)) ?_
   refine L0 rfl rfl (E_assign (Bo false) rfl (by kernel_rfl)) ?_
   refine XL_nil ?_
   kernel_rfl
  obtain ⟨y2, hy2, h⟩ := of_bind h
  obtain ⟨b5, hb5, h⟩ := of_bind h
  obtain ⟨b8, hb8, h⟩ := of_bind h
  refine V_sreg (mb 19 4) [] (s1 := ⟨.bot :: .bot :: Bo b8 :: bt 16 [], []⟩) ?_ ?_
  ·refine L0 rfl rfl (E_field (.pt 8 0) Try.underlying25 rfl sz3 rfl (by kernel_rfl) (by intro hh; cases hh)) ?_
   refine L0 rfl rfl (Y0_load1 (c := Ti l1.1) (cs := [Ti l1.2.1, Ti l1.2.2]) sc3 rfl (by kernel_rfl)) ?_
   refine L1 rfl rfl (Y1_call (s_spec_l1In hy2) cf_spec_l1In rfl (by kernel_rfl)) ?_
   refine L0 rfl rfl (E_move (Bo y2) rfl (by kernel_rfl)) ?_
   refine XL_split y2 (fun hc3 => ?_) (fun hc3 => ?_)
   ·have hb5 := of_true hb5 hc3
    obtain ⟨y4, hy4, hb5⟩ := of_bind hb5
    have hb5 := some_inj hb5
    refine XL_takeC _ rfl rfl (by kernel_rfl) hc3 (X_of_Y0 rfl (E_field (.pt 8 2) Try.underlying25 rfl sz3 rfl (by kernel_rfl) (by intro hh; cases hh))) ?_
    refine XL_takeC _ rfl rfl (by kernel_rfl) hc3 (X_of_Y0 rfl (Y0_load1 (c := Ti l1.2.2) (cs := []) sc3 rfl (by kernel_rfl))) ?_
    refine XL_takeC _ rfl rfl (by kernel_rfl) hc3 (X_of_Y1 rfl (Y1_call (s_spec_l1In hy4) cf_spec_l1In rfl (by kernel_rfl))) ?_
    refine XL_cons rfl (X_of_Y0 rfl (Y0_pickTe (b := y2) (p := y4) rfl (by kernel_rfl) hc3 (by kernel_rfl) hb5)) ?_
    refine L0 rfl rfl (E_move (Bo b5) rfl (by kernel_rfl)) ?_
    refine XL_split b5 (fun hc6 => ?_) (fun hc6 => ?_)
    ·have hb8 := of_true hb8 hc6
     obtain ⟨y7, hy7, hb8⟩ := of_bind hb8
     have hb8 := some_inj hb8
     refine XL_takeC _ rfl rfl (by kernel_rfl) hc6 (X_of_Y0 rfl (E_field (.pt 8 1) Try.underlying25 rfl sz3 rfl (by kernel_rfl) (by intro hh; cases hh))) ?_
     refine XL_takeC _ rfl rfl (by kernel_rfl) hc6 (X_of_Y0 rfl (Y0_load1 (c := Ti l1.2.1) (cs := [Ti l1.2.2]) sc3 rfl (by kernel_rfl))) ?_
     refine XL_takeC _ rfl rfl (by kernel_rfl) hc6 (X_of_Y0 rfl (E_field (.pt 8 0) Try.underlying25 rfl sz3 rfl (by kernel_rfl) (by intro hh; cases hh))) ?_
     refine XL_takeC _ rfl rfl (by kernel_rfl) hc6 (X_of_Y0 rfl (Y0_load1 (c := Ti l1.1) (cs := [Ti l1.2.1, Ti l1.2.2]) sc3 rfl (by kernel_rfl))) ?_
     refine XL_takeC _ rfl rfl (by kernel_rfl) hc6 (X_of_Y0 rfl (Y0_sub64 (a := l1.1) (b := 1) rfl (by kernel_rfl) (by kernel_rfl))) ?_
     refine XL_takeC _ rfl rfl (by kernel_rfl) hc6 (X_of_Y1 rfl (Y1_call (s_spec_l1In hy7) cf_spec_l1In rfl (by kernel_rfl))) ?_
     refine XL_cons rfl (X_of_Y0 rfl (Y0_pickTe (b := b5) (p := y7) rfl (by kernel_rfl) hc6 (by kernel_rfl) hb8)) ?_
     refine L0 rfl rfl (E_assign (Bo b8) rfl (by kernel_rfl)) ?_
     refine XL_nil ?_
     kernel_rfl
    ·have hb8 := some_inj (of_false hb8 hc6)
     refine XL_skipT _ rfl rfl (by kernel_rfl) hc6 rfl ?_
     refine XL_skipT _ rfl rfl (by kernel_rfl) hc6 rfl ?_
     refine XL_skipT _ rfl rfl (by kernel_rfl) hc6 rfl ?_
     refine XL_skipT _ rfl rfl (by kernel_rfl) hc6 rfl ?_
     refine XL_skipT _ rfl rfl (by kernel_rfl) hc6 rfl ?_
     refine XL_skipT _ rfl rfl (by kernel_rfl) hc6 rfl ?_
     refine XL_cons rfl (X_of_Y0 rfl (Y0_pickFe (b := b5) (p := false) rfl (by kernel_rfl) hc6 (by kernel_rfl) hb8)) ?_
     refine L0 rfl rfl (E_assign (Bo b8) rfl (by kernel_rfl)) ?_
     refine XL_nil ?_
     kernel_rfl
   ·have hb5 := some_inj (of_false hb5 hc3)
    refine XL_skipT _ rfl rfl (by kernel_rfl) hc3 rfl ?_
    refine XL_skipT _ rfl rfl (by kernel_rfl) hc3 rfl ?_
    refine XL_skipT _ rfl rfl (by kernel_rfl) hc3 rfl ?_
    refine XL_cons rfl (X_of_Y0 rfl (Y0_pickFe (b := y2) (p := false) rfl (by kernel_rfl) hc3 (by kernel_rfl) hb5)) ?_
    refine L0 rfl rfl (E_move (Bo b5) rfl (by kernel_rfl)) ?_
    refine XL_split b5 (fun hc6 => ?_) (fun hc6 => ?_)
    ·have hb8 := of_true hb8 hc6
     obtain ⟨y7, hy7, hb8⟩ := of_bind hb8
     have hb8 := some_inj hb8
     refine XL_takeC _ rfl rfl (by kernel_rfl) hc6 (X_of_Y0 rfl (E_field (.pt 8 1) Try.underlying25 rfl sz3 rfl (by kernel_rfl) (by intro hh; cases hh))) ?_
     refine XL_takeC _ rfl rfl (by kernel_rfl) hc6 (X_of_Y0 rfl (Y0_load1 (c := Ti l1.2.1) (cs := [Ti l1.2.2]) sc3 rfl (by kernel_rfl))) ?_
     refine XL_takeC _ rfl rfl (by kernel_rfl) hc6 (X_of_Y0 rfl (E_field (.pt 8 0) Try.underlying25 rfl sz3 rfl (by kernel_rfl) (by intro hh; cases hh))) ?_
     refine XL_takeC _ rfl rfl (by kernel_rfl) hc6 (X_of_Y0 rfl (Y0_load1 (c := Ti l1.1) (cs := [Ti l1.2.1, Ti l1.2.2]) sc3 rfl (by kernel_rfl))) ?_
     refine XL_takeC _ rfl rfl (by kernel_rfl) hc6 (X_of_Y0 rfl (Y0_sub64 (a := l1.1) (b := 1) rfl (by kernel_rfl) (by kernel_rfl))) ?_
     refine XL_takeC _ rfl rfl (by kernel_rfl) hc6 (X_of_Y1 rfl (Y1_call (s_spec_l1In hy7) cf_spec_l1In rfl (by kernel_rfl))) ?_
     refine XL_cons rfl (X_of_Y0 rfl (Y0_pickTe (b := b5) (p := y7) rfl (by kernel_rfl) hc6 (by kernel_rfl) hb8)) ?_
     refine L0 rfl rfl (E_assign (Bo b8) rfl (by kernel_rfl)) ?_
     refine XL_nil ?_
     kernel_rfl
    ·have hb8 := some_inj (of_false hb8 hc6)
     refine XL_skipT _ rfl rfl (by kernel_rfl) hc6 rfl ?_
     refine XL_skipT _ rfl rfl (by kernel_rfl) hc6 rfl ?_
     refine XL_skipT _ rfl rfl (by kernel_rfl) hc6 rfl ?_
     refine XL_skipT _ rfl rfl (by kernel_rfl) hc6 rfl ?_
     refine XL_skipT _ rfl rfl (by kernel_rfl) hc6 rfl ?_
     refine XL_skipT _ rfl rfl (by kernel_rfl) hc6 rfl ?_
     refine XL_cons rfl (X_of_Y0 rfl (Y0_pickFe (b := b5) (p := false) rfl (by kernel_rfl) hc6 (by kernel_rfl) hb8)) ?_
     refine L0 rfl rfl (E_assign (Bo b8) rfl (by kernel_rfl)) ?_
     refine XL_nil ?_
     kernel_rfl
  refine V_ret ?_
  obtain rfl := some_inj h
  show Post _ _ _ _ _
  exact ⟨.inr rfl, rfl, rfl, rfl⟩
theorem cf_spec_l1Most : ∀ args w, (callFunc 185 args).run Try.prog w = .ok (.enter 185 args) w := run_callFunc Try.func185 (by kernel_rfl) (by kernel_rfl)
set_option maxRecDepth 100000 in
set_option maxHeartbeats 400000 in
theorem s_spec_l1Most {a1 : Int} {b2 : Int} {r : Int} (h : r_spec_l1Most a1 b2 = some r) : CallS Try.prog 185 [I a1, I b2] (I r) [] := by
  refine CallS_of_text (rs := [.t 4]) (vs := [.tmp 4]) Try.func185 rfl rfl (.cons rfl FitsL.nil) (by decide) 10 rfl ?_
  unfold r_spec_l1Most at h
  show V _ _ ⟨I a1 :: I b2 :: bt 8 [], []⟩ _
  refine V_sreg (mb 10 3) [] (s1 := ⟨I a1 :: I b2 :: bt 8 [], []⟩) ?_ ?_
  ·refine L0 rfl rfl (E_assign (I 0) rfl (by kernel_rfl)) ?_
   refine XL_nil ?_
   kernel_rfl
  refine V_seq ?_
  refine V_sreg (mb 10 131) [] (s1 := ⟨I a1 :: I b2 :: bt 5 (Bo (ltI b2 a1) :: .bot :: .bot :: []), []⟩) ?_ ?_
  ·refine L0 rfl rfl (E_move (I a1) rfl (by kernel_rfl)) ?_
   refine L0 rfl rfl (E_move (I b2) rfl (by kernel_rfl)) ?_
   refine L0 rfl rfl (Y0_gtw (k := .i64) (a := a1) (b := b2) rfl (by kernel_rfl) (by kernel_rfl)) ?_
   refine XL_nil ?_
   kernel_rfl
  refine V_cond rfl (fun hc3 => ?_) (fun hc3 => ?_)
  ·have h := of_true h hc3
   refine V_sreg (mb 10 16) [] (s1 := ⟨bt 4 (I a1 :: bt 5 []), []⟩) ?_ ?_
   ·refine L0 rfl rfl (E_move (I a1) rfl (by kernel_rfl)) ?_
    refine L0 rfl rfl (E_assign (I a1) rfl (by kernel_rfl)) ?_
    refine XL_nil ?_
    kernel_rfl
   refine V_ret ?_
   obtain rfl := some_inj h
   show Post _ _ _ _ _
   exact ⟨.inr rfl, rfl, rfl, rfl⟩
  ·have h := of_false h hc3
   refine V_skip ?_
   show V _ _ _ _
   refine V_sreg (mb 10 16) [] (s1 := ⟨bt 4 (I b2 :: bt 5 []), []⟩) ?_ ?_
   ·refine L0 rfl rfl (E_move (I b2) rfl (by kernel_rfl)) ?_
    refine L0 rfl rfl (E_assign (I b2) rfl (by kernel_rfl)) ?_
    refine XL_nil ?_
    kernel_rfl
   refine V_ret ?_
   obtain rfl := some_inj h
   show Post _ _ _ _ _
   exact ⟨.inr rfl, rfl, rfl, rfl⟩
theorem cf_spec_l1Abs : ∀ args w, (callFunc 128 args).run Try.prog w = .ok (.enter 128 args) w := run_callFunc Try.func128 (by kernel_rfl) (by kernel_rfl)
set_option maxRecDepth 100000 in
set_option maxHeartbeats 400000 in
theorem s_spec_l1Abs {vn1 : Int} {r : Int} (h : r_spec_l1Abs vn1 = some r) : CallS Try.prog 128 [I vn1] (I r) [] := by
  refine CallS_of_text (rs := [.t 2]) (vs := [.tmp 2]) Try.func128 rfl rfl (.cons rfl FitsL.nil) (by decide) 7 rfl ?_
  unfold r_spec_l1Abs at h
  show V _ _ ⟨I vn1 :: bt 6 [], []⟩ _
  refine V_sreg (mb 7 1) [] (s1 := ⟨I vn1 :: bt 6 [], []⟩) ?_ ?_
  ·refine L0 rfl rfl (E_assign (I 0) rfl (by kernel_rfl)) ?_
   refine XL_nil ?_
   kernel_rfl
  obtain ⟨y2, hy2, h⟩ := of_bind h
  refine V_sreg (mb 7 4) [] (s1 := ⟨.bot :: .bot :: I y2 :: bt 4 [], []⟩) ?_ ?_
  ·refine L0 rfl rfl (E_move (I vn1) rfl (by kernel_rfl)) ?_
   refine L0 rfl rfl (E_move (I vn1) rfl (by kernel_rfl)) ?_
   refine L0 rfl rfl (Y0_neg64 (a := vn1) rfl (by kernel_rfl)) ?_
   refine L1 rfl rfl (Y1_call (s_spec_l1Most hy2) cf_spec_l1Most rfl (by kernel_rfl)) ?_
   refine L0 rfl rfl (E_assign (I y2) rfl (by kernel_rfl)) ?_
   refine XL_nil ?_
   kernel_rfl
  refine V_ret ?_
  obtain rfl := some_inj h
  show Post _ _ _ _ _
  exact ⟨.inr rfl, rfl, rfl, rfl⟩
theorem cf_spec_nuGcd : ∀ args w, (callFunc 61 args).run Try.prog w = .ok (.enter 61 args) w := run_callFunc Try.func61 (by kernel_rfl) (by kernel_rfl)
set_option maxRecDepth 100000 in
set_option maxHeartbeats 400000 in
theorem s_spec_nuGcd {a1 : Int} {b2 : Int} {r : Int} (h : r_spec_nuGcd a1 b2 = some r) : CallS Try.prog 61 [I a1, I b2] (I r) [] := by
  refine CallS_of_text (rs := [.t 4]) (vs := [.tmp 4]) Try.func61 rfl rfl (.cons rfl FitsL.nil) (by decide) 16 rfl ?_
  unfold r_spec_nuGcd at h
  show V _ _ ⟨I a1 :: I b2 :: bt 14 [], []⟩ _
  refine V_sreg (mb 16 3) [] (s1 := ⟨I a1 :: I b2 :: bt 14 [], []⟩) ?_ ?_
  ·refine L0 rfl rfl (E_assign (I 0) rfl (by kernel_rfl)) ?_
   refine XL_nil ?_
   kernel_rfl
  obtain ⟨y3, hy3, h⟩ := of_bind h
  obtain ⟨y4, hy4, h⟩ := of_bind h
  refine V_sreg (mb 16 3) [] (s1 := ⟨I y3 :: I y4 :: bt 14 [], []⟩) ?_ ?_
  ·refine L0 rfl rfl (E_move (I a1) rfl (by kernel_rfl)) ?_
   refine L1 rfl rfl (Y1_call (s_spec_l1Abs hy3) cf_spec_l1Abs rfl (by kernel_rfl)) ?_
   refine L0 rfl rfl (E_move (I b2) rfl (by kernel_rfl)) ?_
   refine L1 rfl rfl (Y1_call (s_spec_l1Abs hy4) cf_spec_l1Abs rfl (by kernel_rfl)) ?_
   refine L0 rfl rfl (E_assign (I y3) rfl (by kernel_rfl)) ?_
   refine L0 rfl rfl (E_assign (I y4) rfl (by kernel_rfl)) ?_
   refine XL_nil ?_
   kernel_rfl
  refine V_seq ?_
  obtain ⟨o8, hLo8, h⟩ := of_bind h
  refine V_toK (mb 16 1) [] (s1 := ⟨I o8 :: bt 15 [], []⟩) ?_ ?_
  ·clear h
   refine V_block (V_loop (fun n s => ∃ (a5 : Int) (b6 : Int), s.keep (mb 16 3) [] = (⟨I a5 :: I b6 :: bt 14 [], []⟩ : St) ∧ r_spec_nuGcd_L7 n a5 b6 = some o8) FU ⟨_, _,  by rfl, hLo8⟩ ?_)
   clear hLo8
   rintro n s ⟨a5, b6, hs, h⟩
   refine V_keep _ _ hs ?_
   clear hs
   cases n with
   | zero => cases h
   | succ n =>
    rw [r_spec_nuGcd_L7] at h
    refine V_seq ?_
    refine V_sreg (mb 16 1027) [] (s1 := ⟨I a5 :: I b6 :: bt 8 (Bo (!eqI b6 0) :: bt 5 []), []⟩) ?_ ?_
    ·refine L0 rfl rfl (E_move (I b6) rfl (by kernel_rfl)) ?_
     refine L0 rfl rfl (Y0_new (k := .i64) (a := b6) (b := 0) rfl (by kernel_rfl) (by kernel_rfl)) ?_
     refine XL_nil ?_
     kernel_rfl
    refine V_cond rfl (fun hc9 => ?_) (fun hc9 => ?_)
    ·have h := of_true h hc9
     refine V_skip ?_
     show V _ _ _ _
     refine V_block ?_
     obtain ⟨z10, hz10, h⟩ := of_bind h
     obtain ⟨b11, hb11, h⟩ := of_sI h
     refine V_dreg [0, 0, 0, 6, 3, 31] 6 [[.z, .b, .b, .b, .z, .z], [.b, .z, .b, .z, .z, .z], [.b, .b, .z, .z, .b, .z], [.b, .a, .a, .z, .b, .z], [.a, .a, .b, .b, .z, .z], [.a, .a, .a, .a, .a, .z]] (mb 16 3) [] (s1 := ⟨I b6 :: I b11 :: bt 14 [], []⟩) (by kernel_rfl) (by kernel_rfl) ?_ ?_
     ·refine DE_0 0 (I b6) (by kernel_rfl) rfl rfl rfl (gsat_none rfl) (by kernel_rfl) (E_move (I b6) rfl (by kernel_rfl)) 11 rfl ?_
      refine DE_0 1 (I a5) (by kernel_rfl) rfl rfl rfl (gsat_none rfl) (by kernel_rfl) (E_move (I a5) rfl (by kernel_rfl)) 12 rfl ?_
      refine DE_0 2 (I b6) (by kernel_rfl) rfl rfl rfl (gsat_none rfl) (by kernel_rfl) (E_move (I b6) rfl (by kernel_rfl)) 13 rfl ?_
      refine DE_0 3 (I (Int.tmod a5 b6)) (by kernel_rfl) rfl rfl rfl (gsat_none rfl) (by kernel_rfl) (Y0_rem (k := .i64) (a := a5) (b := b6) rfl (by kernel_rfl) (by kernel_rfl) (nz_some hz10)) 14 rfl ?_
      refine DE_0 4 (I b6) (by kernel_rfl) rfl rfl rfl (gsat_none rfl) (by kernel_rfl) (E_assign (I b6) rfl (by kernel_rfl)) 0 rfl ?_
      refine DE_0 5 (I (Int.tmod a5 b6)) (by kernel_rfl) rfl rfl rfl (gsat_none rfl) (by kernel_rfl) (E_assign (I (Int.tmod a5 b6)) rfl (by kernel_rfl)) 1 rfl ?_
      refine DL_nil (by kernel_rfl) ?_
      refine XL_nil ?_
      subst hb11
      kernel_rfl
     exact ⟨n, Nat.lt_succ_self n, _, _,  by rfl, h⟩
    ·have h := of_false h hc9
     refine V_exit ?_
     obtain rfl := some_inj h
     show St.keep _ _ _ = _
     rfl
  show V _ _ _ _
  refine V_sreg (mb 16 16) [] (s1 := ⟨bt 4 (I o8 :: bt 11 []), []⟩) ?_ ?_
  ·refine L0 rfl rfl (E_move (I o8) rfl (by kernel_rfl)) ?_
   refine L0 rfl rfl (E_assign (I o8) rfl (by kernel_rfl)) ?_
   refine XL_nil ?_
   kernel_rfl
  refine V_ret ?_
  obtain rfl := some_inj h
  show Post _ _ _ _ _
  exact ⟨.inr rfl, rfl, rfl, rfl⟩
theorem cf_spec_nuMod : ∀ args w, (callFunc 63 args).run Try.prog w = .ok (.enter 63 args) w := run_callFunc Try.func63 (by kernel_rfl) (by kernel_rfl)
set_option maxRecDepth 100000 in
set_option maxHeartbeats 400000 in
theorem s_spec_nuMod {a1 : Int} {vm2 : Int} {r : Int} (h : r_spec_nuMod a1 vm2 = some r) : CallS Try.prog 63 [I a1, I vm2] (I r) [] := by
  refine CallS_of_text (rs := [.t 4]) (vs := [.tmp 4]) Try.func63 rfl rfl (.cons rfl FitsL.nil) (by decide) 15 rfl ?_
  unfold r_spec_nuMod at h
  show V _ _ ⟨I a1 :: I vm2 :: bt 13 [], []⟩ _
  refine V_sreg (mb 15 3) [] (s1 := ⟨I a1 :: I vm2 :: bt 13 [], []⟩) ?_ ?_
  ·refine L0 rfl rfl (E_assign (I 0) rfl (by kernel_rfl)) ?_
   refine XL_nil ?_
   kernel_rfl
  obtain ⟨z3, hz3, h⟩ := of_bind h
  obtain ⟨vr4, hvr4, h⟩ := of_sI h
  refine V_sreg (mb 15 34) [] (s1 := ⟨.bot :: I vm2 :: bt 3 (I vr4 :: bt 9 []), []⟩) ?_ ?_
  ·refine L0 rfl rfl (E_move (I a1) rfl (by kernel_rfl)) ?_
   refine L0 rfl rfl (E_move (I vm2) rfl (by kernel_rfl)) ?_
   refine L0 rfl rfl (Y0_rem (k := .i64) (a := a1) (b := vm2) rfl (by kernel_rfl) (by kernel_rfl) (nz_some hz3)) ?_
   refine L0 rfl rfl (E_assign (I (Int.tmod a1 vm2)) rfl (by kernel_rfl)) ?_
   refine XL_nil ?_
   subst hvr4
   kernel_rfl
  refine V_seq ?_
  refine V_sreg (mb 15 1058) [] (s1 := ⟨.bot :: I vm2 :: bt 3 (I vr4 :: bt 4 (Bo (ltI vr4 0) :: bt 4 [])), []⟩) ?_ ?_
  ·refine L0 rfl rfl (E_move (I vr4) rfl (by kernel_rfl)) ?_
   refine L0 rfl rfl (Y0_ltw (k := .i64) (a := vr4) (b := 0) rfl (by kernel_rfl) (by kernel_rfl)) ?_
   refine XL_nil ?_
   kernel_rfl
  refine V_cond rfl (fun hc5 => ?_) (fun hc5 => ?_)
  ·have h := of_true h hc5
   obtain ⟨vr6, hvr6, h⟩ := of_sI h
   refine V_reg (mb 15 32) [] (s1 := ⟨bt 5 (I vr6 :: bt 9 []), []⟩) ?_ ?_
   ·refine L0 rfl rfl (E_move (I vr4) rfl (by kernel_rfl)) ?_
    refine L0 rfl rfl (E_move (I vm2) rfl (by kernel_rfl)) ?_
    refine L0 rfl rfl (Y0_add64 (a := vr4) (b := vm2) rfl (by kernel_rfl) (by kernel_rfl)) ?_
    refine L0 rfl rfl (E_assign (I (w64 (vr4 + vm2))) rfl (by kernel_rfl)) ?_
    refine XL_nil ?_
    subst hvr6
    kernel_rfl
   show V _ _ _ _
   refine V_sreg (mb 15 16) [] (s1 := ⟨bt 4 (I vr6 :: bt 10 []), []⟩) ?_ ?_
   ·refine L0 rfl rfl (E_move (I vr6) rfl (by kernel_rfl)) ?_
    refine L0 rfl rfl (E_assign (I vr6) rfl (by kernel_rfl)) ?_
    refine XL_nil ?_
    kernel_rfl
   refine V_ret ?_
   obtain rfl := some_inj h
   show Post _ _ _ _ _
   exact ⟨.inr rfl, rfl, rfl, rfl⟩
  ·have h := of_false h hc5
   refine V_skip ?_
   show V _ _ _ _
   refine V_sreg (mb 15 16) [] (s1 := ⟨bt 4 (I vr4 :: bt 10 []), []⟩) ?_ ?_
   ·refine L0 rfl rfl (E_move (I vr4) rfl (by kernel_rfl)) ?_
    refine L0 rfl rfl (E_assign (I vr4) rfl (by kernel_rfl)) ?_
    refine XL_nil ?_
    kernel_rfl
   refine V_ret ?_
   obtain rfl := some_inj h
   show Post _ _ _ _ _
   exact ⟨.inr rfl, rfl, rfl, rfl⟩
theorem cf_spec_nuInverse : ∀ args w, (callFunc 134 args).run Try.prog w = .ok (.enter 134 args) w := run_callFunc Try.func134 (by kernel_rfl) (by kernel_rfl)
set_option maxRecDepth 100000 in
set_option maxHeartbeats 400000 in
theorem s_spec_nuInverse {a1 : Int} {vm2 : Int} {r : Int} (h : r_spec_nuInverse a1 vm2 = some r) : CallS Try.prog 134 [I a1, I vm2] (I r) [] := by
  refine CallS_of_text (rs := [.t 4]) (vs := [.tmp 4]) Try.func134 rfl rfl (.cons rfl FitsL.nil) (by decide) 36 rfl ?_
  unfold r_spec_nuInverse at h
  show V _ _ ⟨I a1 :: I vm2 :: bt 34 [], []⟩ _
  refine V_sreg (mb 36 3) [] (s1 := ⟨I a1 :: I vm2 :: bt 34 [], []⟩) ?_ ?_
  ·refine L0 rfl rfl (E_assign (I 0) rfl (by kernel_rfl)) ?_
   refine XL_nil ?_
   kernel_rfl
  obtain ⟨y3, hy3, h⟩ := of_bind h
  refine V_sreg (mb 36 482) [] (s1 := ⟨.bot :: I vm2 :: bt 3 (I vm2 :: I y3 :: I 0 :: I 1 :: bt 27 []), []⟩) ?_ ?_
  ·refine L0 rfl rfl (E_move (I vm2) rfl (by kernel_rfl)) ?_
   refine L0 rfl rfl (E_move (I a1) rfl (by kernel_rfl)) ?_
   refine L0 rfl rfl (E_move (I vm2) rfl (by kernel_rfl)) ?_
   refine L1 rfl rfl (Y1_call (s_spec_nuMod hy3) cf_spec_nuMod rfl (by kernel_rfl)) ?_
   refine L0 rfl rfl (E_assign (I vm2) rfl (by kernel_rfl)) ?_
   refine L0 rfl rfl (E_assign (I y3) rfl (by kernel_rfl)) ?_
   refine L0 rfl rfl (E_assign (I 0) rfl (by kernel_rfl)) ?_
   refine L0 rfl rfl (E_assign (I 1) rfl (by kernel_rfl)) ?_
   refine XL_nil ?_
   kernel_rfl
  refine V_seq ?_
  obtain ⟨o9, hLo9, h⟩ := of_bind h
  refine V_toK (mb 36 162) [] (s1 := ⟨.bot :: I vm2 :: bt 3 (I o9.1 :: .bot :: I o9.2 :: bt 28 []), []⟩) ?_ ?_
  ·clear h
   refine V_block (V_loop (fun n s => ∃ (vr4 : Int) (next5 : Int) (x6 : Int) (y7 : Int), s.keep (mb 36 482) [] = (⟨.bot :: I vm2 :: bt 3 (I vr4 :: I next5 :: I x6 :: I y7 :: bt 27 []), []⟩ : St) ∧ r_spec_nuInverse_L8 vm2 n vr4 next5 x6 y7 = some o9) FU ⟨_, _, _, _,  by rfl, hLo9⟩ ?_)
   clear hLo9
   rintro n s ⟨vr4, next5, x6, y7, hs, h⟩
   refine V_keep _ _ hs ?_
   clear hs
   cases n with
   | zero => cases h
   | succ n =>
    rw [r_spec_nuInverse_L8] at h
    refine V_seq ?_
    refine V_sreg (mb 36 33250) [] (s1 := ⟨.bot :: I vm2 :: bt 3 (I vr4 :: I next5 :: I x6 :: I y7 :: bt 6 (Bo (!eqI next5 0) :: bt 20 [])), []⟩) ?_ ?_
    ·refine L0 rfl rfl (E_move (I next5) rfl (by kernel_rfl)) ?_
     refine L0 rfl rfl (Y0_new (k := .i64) (a := next5) (b := 0) rfl (by kernel_rfl) (by kernel_rfl)) ?_
     refine XL_nil ?_
     kernel_rfl
    refine V_cond rfl (fun hc10 => ?_) (fun hc10 => ?_)
    ·have h := of_true h hc10
     refine V_skip ?_
     show V _ _ _ _
     refine V_block ?_
     obtain ⟨z11, hz11, h⟩ := of_bind h
     obtain ⟨q12, hq12, h⟩ := of_sI h
     refine V_sreg (mb 36 994) [] (s1 := ⟨.bot :: I vm2 :: bt 3 (I vr4 :: I next5 :: I x6 :: I y7 :: I q12 :: bt 26 []), []⟩) ?_ ?_
     ·refine L0 rfl rfl (E_move (I vr4) rfl (by kernel_rfl)) ?_
      refine L0 rfl rfl (E_move (I next5) rfl (by kernel_rfl)) ?_
      refine L0 rfl rfl (Y0_quo64 (a := vr4) (b := next5) rfl (by kernel_rfl) (by kernel_rfl) (nz_some hz11)) ?_
      refine L0 rfl rfl (E_assign (I (w64 (Int.tdiv vr4 next5))) rfl (by kernel_rfl)) ?_
      refine XL_nil ?_
      subst hq12
      kernel_rfl
     obtain ⟨next13, hnext13, h⟩ := of_sI h
     refine V_sreg (mb 36 994) [] (s1 := ⟨.bot :: I vm2 :: bt 3 (I next5 :: I next13 :: I x6 :: I y7 :: I q12 :: bt 26 []), []⟩) ?_ ?_
     ·refine L0 rfl rfl (E_move (I next5) rfl (by kernel_rfl)) ?_
      refine L0 rfl rfl (E_move (I vr4) rfl (by kernel_rfl)) ?_
      refine L0 rfl rfl (E_move (I q12) rfl (by kernel_rfl)) ?_
      refine L0 rfl rfl (E_move (I next5) rfl (by kernel_rfl)) ?_
      refine L0 rfl rfl (Y0_mul64 (a := q12) (b := next5) rfl (by kernel_rfl) (by kernel_rfl)) ?_
      refine L0 rfl rfl (Y0_sub64 (a := vr4) (b := w64 (q12 * next5)) rfl (by kernel_rfl) (by kernel_rfl)) ?_
      refine L0 rfl rfl (E_assign (I next5) rfl (by kernel_rfl)) ?_
      refine L0 rfl rfl (E_assign (I (w64 (vr4 - (w64 (q12 * next5))))) rfl (by kernel_rfl)) ?_
      refine XL_nil ?_
      subst hnext13
      kernel_rfl
     obtain ⟨y14, hy14, h⟩ := of_sI h
     refine V_reg (mb 36 482) [] (s1 := ⟨.bot :: I vm2 :: bt 3 (I next5 :: I next13 :: I y7 :: I y14 :: bt 27 []), []⟩) ?_ ?_
     ·refine L0 rfl rfl (E_move (I y7) rfl (by kernel_rfl)) ?_
      refine L0 rfl rfl (E_move (I x6) rfl (by kernel_rfl)) ?_
      refine L0 rfl rfl (E_move (I q12) rfl (by kernel_rfl)) ?_
      refine L0 rfl rfl (E_move (I y7) rfl (by kernel_rfl)) ?_
      refine L0 rfl rfl (Y0_mul64 (a := q12) (b := y7) rfl (by kernel_rfl) (by kernel_rfl)) ?_
      refine L0 rfl rfl (Y0_sub64 (a := x6) (b := w64 (q12 * y7)) rfl (by kernel_rfl) (by kernel_rfl)) ?_
      refine L0 rfl rfl (E_assign (I y7) rfl (by kernel_rfl)) ?_
      refine L0 rfl rfl (E_assign (I (w64 (x6 - (w64 (q12 * y7))))) rfl (by kernel_rfl)) ?_
      refine XL_nil ?_
      subst hy14
      kernel_rfl
     exact ⟨n, Nat.lt_succ_self n, _, _, _, _,  by rfl, h⟩
    ·have h := of_false h hc10
     refine V_exit ?_
     obtain rfl := some_inj h
     show St.keep _ _ _ = _
     rfl
  show V _ _ _ _
  refine V_seq ?_
  refine V_sreg (mb 36 4294967426) [] (s1 := ⟨.bot :: I vm2 :: bt 5 (I o9.2 :: bt 24 (Bo (!eqI o9.1 1) :: bt 3 [])), []⟩) ?_ ?_
  ·refine L0 rfl rfl (E_move (I o9.1) rfl (by kernel_rfl)) ?_
   refine L0 rfl rfl (Y0_new (k := .i64) (a := o9.1) (b := 1) rfl (by kernel_rfl) (by kernel_rfl)) ?_
   refine XL_nil ?_
   kernel_rfl
  refine V_cond rfl (fun hc15 => ?_) (fun hc15 => ?_)
  ·have h := of_true h hc15
   refine V_sreg (mb 36 16) [] (s1 := ⟨bt 4 (I (-1) :: bt 31 []), []⟩) ?_ ?_
   ·refine L0 rfl rfl (E_assign (I (-1)) rfl (by kernel_rfl)) ?_
    refine XL_nil ?_
    kernel_rfl
   refine V_ret ?_
   obtain rfl := some_inj h
   show Post _ _ _ _ _
   exact ⟨.inr rfl, rfl, rfl, rfl⟩
  ·have h := of_false h hc15
   refine V_skip ?_
   show V _ _ _ _
   obtain ⟨y16, hy16, h⟩ := of_bind h
   refine V_sreg (mb 36 16) [] (s1 := ⟨bt 4 (I y16 :: bt 31 []), []⟩) ?_ ?_
   ·refine L0 rfl rfl (E_move (I o9.2) rfl (by kernel_rfl)) ?_
    refine L0 rfl rfl (E_move (I vm2) rfl (by kernel_rfl)) ?_
    refine L1 rfl rfl (Y1_call (s_spec_nuMod hy16) cf_spec_nuMod rfl (by kernel_rfl)) ?_
    refine L0 rfl rfl (E_assign (I y16) rfl (by kernel_rfl)) ?_
    refine XL_nil ?_
    kernel_rfl
   refine V_ret ?_
   obtain rfl := some_inj h
   show Post _ _ _ _ _
   exact ⟨.inr rfl, rfl, rfl, rfl⟩
theorem cf_spec_nuCommon : ∀ args w, (callFunc 62 args).run Try.prog w = .ok (.enter 62 args) w := run_callFunc Try.func62 (by kernel_rfl) (by kernel_rfl)
set_option maxRecDepth 100000 in
set_option maxHeartbeats 400000 in
theorem s_spec_nuCommon {a1 : Int} {vm2 : Int} {b3 : Int} {vn4 : Int} {r : (Int × Int × Bool)} (h : r_spec_nuCommon a1 vm2 b3 vn4 = some r) : CallS Try.prog 62 [I a1, I vm2, I b3, I vn4] (.tc (I r.1) (.tc (I r.2.1) (.tc (Bo r.2.2) .tn))) [] := by
  refine CallS_of_text (rs := [.t 8, .t 9, .t 10]) (vs := [.tmp 8, .tmp 9, .tmp 10]) Try.func62 rfl rfl (.cons rfl (.cons rfl (.cons rfl FitsL.nil))) (by decide) 53 rfl ?_
  unfold r_spec_nuCommon at h
  show V _ _ ⟨I a1 :: I vm2 :: I b3 :: I vn4 :: bt 49 [], []⟩ _
  refine V_sreg (mb 53 15) [] (s1 := ⟨I a1 :: I vm2 :: I b3 :: I vn4 :: bt 49 [], []⟩) ?_ ?_
  ·refine L0 rfl rfl (E_assign (I 0) rfl (by kernel_rfl)) ?_
   refine L0 rfl rfl (E_assign (I 0) rfl (by kernel_rfl)) ?_
   refine L0 rfl rfl (E_assign (Bo false) rfl (by kernel_rfl)) ?_
   refine XL_nil ?_
   kernel_rfl
  obtain ⟨y5, hy5, h⟩ := of_bind h
  refine V_sreg (mb 53 2063) [] (s1 := ⟨I a1 :: I vm2 :: I b3 :: I vn4 :: bt 7 (I y5 :: bt 41 []), []⟩) ?_ ?_
  ·refine L0 rfl rfl (E_move (I vm2) rfl (by kernel_rfl)) ?_
   refine L0 rfl rfl (E_move (I vn4) rfl (by kernel_rfl)) ?_
   refine L1 rfl rfl (Y1_call (s_spec_nuGcd hy5) cf_spec_nuGcd rfl (by kernel_rfl)) ?_
   refine L0 rfl rfl (E_assign (I y5) rfl (by kernel_rfl)) ?_
   refine XL_nil ?_
   kernel_rfl
  refine V_seq ?_
  obtain ⟨z6, hz6, h⟩ := of_bind h
  refine V_sreg (mb 53 4196367) [] (s1 := ⟨I a1 :: I vm2 :: I b3 :: I vn4 :: bt 7 (I y5 :: bt 10 (Bo (!eqI (Int.tmod (w64 (b3 - a1)) y5) 0) :: bt 30 [])), []⟩) ?_ ?_
  ·refine L0 rfl rfl (E_move (I b3) rfl (by kernel_rfl)) ?_
   refine L0 rfl rfl (E_move (I a1) rfl (by kernel_rfl)) ?_
   refine L0 rfl rfl (Y0_sub64 (a := b3) (b := a1) rfl (by kernel_rfl) (by kernel_rfl)) ?_
   refine L0 rfl rfl (E_move (I y5) rfl (by kernel_rfl)) ?_
   refine L0 rfl rfl (Y0_rem (k := .i64) (a := w64 (b3 - a1)) (b := y5) rfl (by kernel_rfl) (by kernel_rfl) (nz_some hz6)) ?_
   refine L0 rfl rfl (Y0_new (k := .i64) (a := Int.tmod (w64 (b3 - a1)) y5) (b := 0) rfl (by kernel_rfl) (by kernel_rfl)) ?_
   refine XL_nil ?_
   kernel_rfl
  refine V_cond rfl (fun hc7 => ?_) (fun hc7 => ?_)
  ·have h := of_true h hc7
   refine V_sreg (mb 53 1792) [] (s1 := ⟨bt 8 (I 0 :: I 0 :: Bo false :: bt 42 []), []⟩) ?_ ?_
   ·refine L0 rfl rfl (E_assign (I 0) rfl (by kernel_rfl)) ?_
    refine L0 rfl rfl (E_assign (I 0) rfl (by kernel_rfl)) ?_
    refine L0 rfl rfl (E_assign (Bo false) rfl (by kernel_rfl)) ?_
    refine XL_nil ?_
    kernel_rfl
   refine V_ret ?_
   obtain rfl := some_inj h
   show Post _ _ _ _ _
   exact ⟨.inr rfl, rfl, rfl, rfl⟩
  ·have h := of_false h hc7
   refine V_skip ?_
   show V _ _ _ _
   obtain ⟨z8, hz8, h⟩ := of_bind h
   obtain ⟨z9, hz9, h⟩ := of_bind h
   obtain ⟨z10, hz10, h⟩ := of_bind h
   obtain ⟨y11, hy11, h⟩ := of_bind h
   obtain ⟨z12, hz12, h⟩ := of_bind h
   obtain ⟨y13, hy13, h⟩ := of_bind h
   refine V_sdreg [0, 0, 3, 0, 15, 0, 0, 96, 0, 0, 768, 2016, 4095, 0, 0, 24576, 65535, 131071] 18 [[.z, .b, .z, .b, .z, .b, .b, .b, .b, .b, .b, .b, .z, .b, .b, .b, .z, .z], [.b, .z, .z, .b, .z, .b, .b, .b, .b, .b, .b, .b, .z, .b, .b, .b, .z, .z], [.a, .a, .z, .b, .z, .b, .b, .b, .b, .b, .b, .b, .z, .b, .b, .b, .z, .z], [.b, .b, .b, .z, .z, .b, .b, .b, .b, .b, .b, .b, .z, .b, .b, .b, .z, .z], [.a, .a, .a, .a, .z, .b, .b, .b, .b, .b, .b, .b, .z, .b, .b, .b, .z, .z], [.b, .b, .b, .b, .b, .z, .b, .z, .b, .b, .b, .z, .z, .b, .b, .b, .z, .z], [.b, .b, .b, .b, .b, .b, .z, .z, .b, .b, .b, .z, .z, .b, .b, .b, .z, .z], [.b, .b, .b, .b, .b, .a, .a, .z, .b, .b, .b, .z, .z, .b, .b, .b, .z, .z], [.b, .b, .b, .b, .b, .b, .b, .b, .z, .b, .z, .z, .z, .b, .b, .b, .z, .z], [.b, .b, .b, .b, .b, .b, .b, .b, .b, .z, .z, .z, .z, .b, .b, .b, .z, .z], [.b, .b, .b, .b, .b, .b, .b, .b, .a, .a, .z, .z, .z, .b, .b, .b, .z, .z], [.b, .b, .b, .b, .b, .a, .a, .a, .a, .a, .a, .z, .z, .b, .b, .b, .z, .z], [.a, .a, .a, .a, .a, .a, .a, .a, .a, .a, .a, .a, .z, .b, .b, .b, .z, .z], [.b, .b, .b, .b, .b, .b, .b, .b, .b, .b, .b, .b, .b, .z, .b, .z, .z, .z], [.b, .b, .b, .b, .b, .b, .b, .b, .b, .b, .b, .b, .b, .b, .z, .z, .z, .z], [.b, .b, .b, .b, .b, .b, .b, .b, .b, .b, .b, .b, .b, .a, .a, .z, .z, .z], [.a, .a, .a, .a, .a, .a, .a, .a, .a, .a, .a, .a, .a, .a, .a, .a, .z, .z], [.a, .a, .a, .a, .a, .a, .a, .a, .a, .a, .a, .a, .a, .a, .a, .a, .a, .z]] (mb 53 6155) [] (s1 := ⟨I a1 :: I vm2 :: .bot :: I vn4 :: bt 7 (I y5 :: I y13 :: bt 40 []), []⟩) (by kernel_rfl) (by kernel_rfl) ?_ ?_
   ·refine DE_0 0 (I b3) (by kernel_rfl) rfl rfl rfl (gsat_none rfl) (by kernel_rfl) (E_move (I b3) rfl (by kernel_rfl)) 23 rfl ?_
    refine DE_0 1 (I a1) (by kernel_rfl) rfl rfl rfl (gsat_none rfl) (by kernel_rfl) (E_move (I a1) rfl (by kernel_rfl)) 24 rfl ?_
    refine DE_0 2 (I (w64 (b3 - a1))) (by kernel_rfl) rfl rfl rfl (gsat_none rfl) (by kernel_rfl) (Y0_sub64 (a := b3) (b := a1) rfl (by kernel_rfl) (by kernel_rfl)) 25 rfl ?_
    refine DE_0 3 (I y5) (by kernel_rfl) rfl rfl rfl (gsat_none rfl) (by kernel_rfl) (E_move (I y5) rfl (by kernel_rfl)) 26 rfl ?_
    refine DE_0 4 (I (w64 (Int.tdiv (w64 (b3 - a1)) y5))) (by kernel_rfl) rfl rfl rfl (gsat_none rfl) (by kernel_rfl) (Y0_quo64 (a := w64 (b3 - a1)) (b := y5) rfl (by kernel_rfl) (by kernel_rfl) (nz_some hz8)) 27 rfl ?_
    refine DE_0 5 (I vm2) (by kernel_rfl) rfl rfl rfl (gsat_none rfl) (by kernel_rfl) (E_move (I vm2) rfl (by kernel_rfl)) 28 rfl ?_
    refine DE_0 6 (I y5) (by kernel_rfl) rfl rfl rfl (gsat_none rfl) (by kernel_rfl) (E_move (I y5) rfl (by kernel_rfl)) 29 rfl ?_
    refine DE_0 7 (I (w64 (Int.tdiv vm2 y5))) (by kernel_rfl) rfl rfl rfl (gsat_none rfl) (by kernel_rfl) (Y0_quo64 (a := vm2) (b := y5) rfl (by kernel_rfl) (by kernel_rfl) (nz_some hz9)) 30 rfl ?_
    refine DE_0 8 (I vn4) (by kernel_rfl) rfl rfl rfl (gsat_none rfl) (by kernel_rfl) (E_move (I vn4) rfl (by kernel_rfl)) 31 rfl ?_
    refine DE_0 9 (I y5) (by kernel_rfl) rfl rfl rfl (gsat_none rfl) (by kernel_rfl) (E_move (I y5) rfl (by kernel_rfl)) 32 rfl ?_
    refine DE_0 10 (I (w64 (Int.tdiv vn4 y5))) (by kernel_rfl) rfl rfl rfl (gsat_none rfl) (by kernel_rfl) (Y0_quo64 (a := vn4) (b := y5) rfl (by kernel_rfl) (by kernel_rfl) (nz_some hz10)) 33 rfl ?_
    refine DE_1 11 (by kernel_rfl) rfl rfl rfl (gsat_none rfl) (Y1_call (s_spec_nuInverse hy11) cf_spec_nuInverse rfl (by kernel_rfl)) rfl rfl rfl 34 rfl ?_
    refine DE_0 12 (I (w64 ((w64 (Int.tdiv (w64 (b3 - a1)) y5)) * y11))) (by kernel_rfl) rfl rfl rfl (gsat_none rfl) (by kernel_rfl) (Y0_mul64 (a := w64 (Int.tdiv (w64 (b3 - a1)) y5)) (b := y11) rfl (by kernel_rfl) (by kernel_rfl)) 35 rfl ?_
    refine DE_0 13 (I vn4) (by kernel_rfl) rfl rfl rfl (gsat_none rfl) (by kernel_rfl) (E_move (I vn4) rfl (by kernel_rfl)) 36 rfl ?_
    refine DE_0 14 (I y5) (by kernel_rfl) rfl rfl rfl (gsat_none rfl) (by kernel_rfl) (E_move (I y5) rfl (by kernel_rfl)) 37 rfl ?_
    refine DE_0 15 (I (w64 (Int.tdiv vn4 y5))) (by kernel_rfl) rfl rfl rfl (gsat_none rfl) (by kernel_rfl) (Y0_quo64 (a := vn4) (b := y5) rfl (by kernel_rfl) (by kernel_rfl) (nz_some hz12)) 38 rfl ?_
    refine DE_1 16 (by kernel_rfl) rfl rfl rfl (gsat_none rfl) (Y1_call (s_spec_nuMod hy13) cf_spec_nuMod rfl (by kernel_rfl)) rfl rfl rfl 39 rfl ?_
    refine DE_0 17 (I y13) (by kernel_rfl) rfl rfl rfl (gsat_none rfl) (by kernel_rfl) (E_assign (I y13) rfl (by kernel_rfl)) 12 rfl ?_
    refine DL_nil (by kernel_rfl) ?_
    refine XL_nil ?_
    kernel_rfl
   obtain ⟨z14, hz14, h⟩ := of_bind h
   obtain ⟨all15, hall15, h⟩ := of_sI h
   refine V_sreg (mb 53 12291) [] (s1 := ⟨I a1 :: I vm2 :: bt 10 (I y13 :: I all15 :: bt 39 []), []⟩) ?_ ?_
   ·refine L0 rfl rfl (E_move (I vm2) rfl (by kernel_rfl)) ?_
    refine L0 rfl rfl (E_move (I y5) rfl (by kernel_rfl)) ?_
    refine L0 rfl rfl (Y0_quo64 (a := vm2) (b := y5) rfl (by kernel_rfl) (by kernel_rfl) (nz_some hz14)) ?_
    refine L0 rfl rfl (E_move (I vn4) rfl (by kernel_rfl)) ?_
    refine L0 rfl rfl (Y0_mul64 (a := w64 (Int.tdiv vm2 y5)) (b := vn4) rfl (by kernel_rfl) (by kernel_rfl)) ?_
    refine L0 rfl rfl (E_assign (I (w64 ((w64 (Int.tdiv vm2 y5)) * vn4))) rfl (by kernel_rfl)) ?_
    refine XL_nil ?_
    subst hall15
    kernel_rfl
   obtain ⟨y16, hy16, h⟩ := of_bind h
   refine V_sreg (mb 53 1792) [] (s1 := ⟨bt 8 (I y16 :: I all15 :: Bo true :: bt 42 []), []⟩) ?_ ?_
   ·refine L0 rfl rfl (E_move (I a1) rfl (by kernel_rfl)) ?_
    refine L0 rfl rfl (E_move (I vm2) rfl (by kernel_rfl)) ?_
    refine L0 rfl rfl (E_move (I y13) rfl (by kernel_rfl)) ?_
    refine L0 rfl rfl (Y0_mul64 (a := vm2) (b := y13) rfl (by kernel_rfl) (by kernel_rfl)) ?_
    refine L0 rfl rfl (Y0_add64 (a := a1) (b := w64 (vm2 * y13)) rfl (by kernel_rfl) (by kernel_rfl)) ?_
    refine L0 rfl rfl (E_move (I all15) rfl (by kernel_rfl)) ?_
    refine L1 rfl rfl (Y1_call (s_spec_nuMod hy16) cf_spec_nuMod rfl (by kernel_rfl)) ?_
    refine L0 rfl rfl (E_move (I all15) rfl (by kernel_rfl)) ?_
    refine L0 rfl rfl (E_assign (I y16) rfl (by kernel_rfl)) ?_
    refine L0 rfl rfl (E_assign (I all15) rfl (by kernel_rfl)) ?_
    refine L0 rfl rfl (E_assign (Bo true) rfl (by kernel_rfl)) ?_
    refine XL_nil ?_
    kernel_rfl
   refine V_ret ?_
   obtain rfl := some_inj h
   show Post _ _ _ _ _
   exact ⟨.inr rfl, rfl, rfl, rfl⟩
theorem cf_spec_MeetOfLattices : ∀ args w, (callFunc 11 args).run Try.prog w = .ok (.enter 11 args) w := run_callFunc Try.func11 (by kernel_rfl) (by kernel_rfl)
set_option maxRecDepth 100000 in
set_option maxHeartbeats 400000 in
theorem s_spec_MeetOfLattices {a1 : (Int × Int × Int)} {b2 : (Int × Int × Int)} {r : (((Int × Int × Int)) × Bool)} (h : r_spec_MeetOfLattices a1 b2 = some r) : CallS Try.prog 11 [.ag [Ti a1.1, Ti a1.2.1, Ti a1.2.2], .ag [Ti b2.1, Ti b2.2.1, Ti b2.2.2]] (.tc (.ag [Ti r.1.1, Ti r.1.2.1, Ti r.1.2.2]) (.tc (Bo r.2) .tn)) [] := by
  refine CallS_of_text (rs := [.w 4 3, .t 5]) (vs := [.cell 4 25, .tmp 5]) Try.func11 rfl rfl (.cons ⟨rfl, wd25⟩ (.cons rfl FitsL.nil)) (by decide) 86 rfl ?_
  unfold r_spec_MeetOfLattices at h
  show V _ _ ⟨.ag [Ti a1.1, Ti a1.2.1, Ti a1.2.2] :: .ag [Ti b2.1, Ti b2.2.1, Ti b2.2.2] :: bt 84 [], []⟩ _
  refine V_sreg (mb 86 28) [32, 24, 16] (s1 := ⟨.bot :: .bot :: .pt 16 0 :: .pt 24 0 :: .pt 32 0 :: bt 81 [], [(32, .box [Ti 0, Ti 0, Ti 0]), (24, .box [Ti b2.1, Ti b2.2.1, Ti b2.2.2]), (16, .box [Ti a1.1, Ti a1.2.1, Ti a1.2.2])]⟩) ?_ ?_
  ·refine L1 rfl rfl (Y1_box (cs := [Ti a1.1, Ti a1.2.1, Ti a1.2.2]) rfl (by kernel_rfl)) ?_
   refine L1 rfl rfl (Y1_box (cs := [Ti b2.1, Ti b2.2.1, Ti b2.2.2]) rfl (by kernel_rfl)) ?_
   refine L1 rfl rfl (Y1_alloc (z := zv25) rfl zf25 rfl) ?_
   refine L0 rfl rfl (E_assign (Bo false) rfl (by kernel_rfl)) ?_
   refine XL_nil ?_
   kernel_rfl
  refine V_seq ?_
  obtain ⟨y3, hy3, h⟩ := of_bind h
  obtain ⟨b6, hb6, h⟩ := of_bind h
  refine V_sreg (mb 86 1048604) [32, 24, 16] (s1 := ⟨.bot :: .bot :: .pt 16 0 :: .pt 24 0 :: .pt 32 0 :: bt 15 (Bo b6 :: bt 65 []), [(32, .box [Ti 0, Ti 0, Ti 0]), (24, .box [Ti b2.1, Ti b2.2.1, Ti b2.2.2]), (16, .box [Ti a1.1, Ti a1.2.1, Ti a1.2.2])]⟩) ?_ ?_
  ·refine L0 rfl rfl (E_loadn (cs := [Ti a1.1, Ti a1.2.1, Ti a1.2.2]) [Ti a1.1, Ti a1.2.1, Ti a1.2.2] wd25 rfl (by kernel_rfl) (Nat.le_of_ble_eq_true rfl) (by kernel_rfl)) ?_
   refine L1 rfl rfl (Y1_call (s_spec_laGood hy3) cf_spec_laGood rfl (by kernel_rfl)) ?_
   refine L0 rfl rfl (Y0_not (b := y3) rfl (by kernel_rfl)) ?_
   refine L0 rfl rfl (E_move (Bo (!y3)) rfl (by kernel_rfl)) ?_
   refine XL_split (!y3) (fun hc4 => ?_) (fun hc4 => ?_)
   ·have hb6 := some_inj (of_true hb6 hc4)
    refine XL_skipF _ rfl rfl (by kernel_rfl) hc4 rfl ?_
    refine XL_skipF _ rfl rfl (by kernel_rfl) hc4 rfl ?_
    refine XL_skipF _ rfl rfl (by kernel_rfl) hc4 rfl ?_
    refine XL_cons rfl (X_of_Y0 rfl (Y0_pickTe (b := !y3) (p := true) rfl (by kernel_rfl) hc4 (by kernel_rfl) hb6)) ?_
    refine XL_nil ?_
    kernel_rfl
   ·have hb6 := of_false hb6 hc4
    obtain ⟨y5, hy5, hb6⟩ := of_bind hb6
    have hb6 := some_inj hb6
    refine XL_takeC _ rfl rfl (by kernel_rfl) hc4 (X_of_Y0 rfl (E_loadn (cs := [Ti b2.1, Ti b2.2.1, Ti b2.2.2]) [Ti b2.1, Ti b2.2.1, Ti b2.2.2] wd25 rfl (by kernel_rfl) (Nat.le_of_ble_eq_true rfl) (by kernel_rfl))) ?_
    refine XL_takeC _ rfl rfl (by kernel_rfl) hc4 (X_of_Y1 rfl (Y1_call (s_spec_laGood hy5) cf_spec_laGood rfl (by kernel_rfl))) ?_
    refine XL_takeC _ rfl rfl (by kernel_rfl) hc4 (X_of_Y0 rfl (Y0_not (b := y5) rfl (by kernel_rfl))) ?_
    refine XL_cons rfl (X_of_Y0 rfl (Y0_pickFe (b := !y3) (p := !y5) rfl (by kernel_rfl) hc4 (by kernel_rfl) hb6)) ?_
    refine XL_nil ?_
    kernel_rfl
  refine V_cond rfl (fun hc7 => ?_) (fun hc7 => ?_)
  ·have h := of_true h hc7
   refine V_sreg (mb 86 48) [32] (s1 := ⟨bt 4 (.pt 32 0 :: Bo false :: bt 80 []), [(32, .box [Ti 0, Ti 0, Ti 0])]⟩) ?_ ?_
   ·refine L0 rfl rfl (Y0_build (cs := [Ti 0, Ti 0, Ti 0]) pl25 bt25 rfl rfl (by kernel_rfl)) ?_
    refine XL_cons rfl (E_store (id := 32) (off := 0) (cs := [Ti 0, Ti 0, Ti 0]) (vc := [Ti 0, Ti 0, Ti 0]) [Ti 0, Ti 0, Ti 0] rfl rfl (by kernel_rfl) (by kernel_rfl) (by kernel_rfl) sz25 (Nat.le_of_ble_eq_true rfl) (by kernel_rfl)) ?_
    refine L0 rfl rfl (E_assign (Bo false) rfl (by kernel_rfl)) ?_
    refine XL_nil ?_
    kernel_rfl
   refine V_ret ?_
   obtain rfl := some_inj h
   show Post _ _ _ _ _
   exact ⟨.inr rfl, rfl, rfl, rfl⟩
  ·have h := of_false h hc7
   refine V_skip ?_
   show V _ _ _ _
   obtain ⟨y8, hy8, h⟩ := of_bind h
   obtain ⟨z9, hz9, h⟩ := of_bind h
   obtain ⟨step10, hstep10, h⟩ := of_sI h
   refine V_sdreg [0, 1, 0, 4, 0, 16, 60, 127, 0, 256, 1023, 2047] 12 [[.z, .z, .b, .b, .b, .b, .b, .z, .b, .b, .z, .z], [.a, .z, .b, .b, .b, .b, .b, .z, .b, .b, .z, .z], [.b, .b, .z, .z, .b, .b, .z, .z, .b, .b, .z, .z], [.b, .b, .a, .z, .b, .b, .z, .z, .b, .b, .z, .z], [.b, .b, .b, .b, .z, .z, .z, .z, .b, .b, .z, .z], [.b, .b, .b, .b, .a, .z, .z, .z, .b, .b, .z, .z], [.b, .b, .a, .a, .a, .a, .z, .z, .b, .b, .z, .z], [.a, .a, .a, .a, .a, .a, .a, .z, .b, .b, .z, .z], [.b, .b, .b, .b, .b, .b, .b, .b, .z, .z, .z, .z], [.b, .b, .b, .b, .b, .b, .b, .b, .a, .z, .z, .z], [.a, .a, .a, .a, .a, .a, .a, .a, .a, .a, .z, .z], [.a, .a, .a, .a, .a, .a, .a, .a, .a, .a, .a, .z]] (mb 86 92) [32, 24, 16] (s1 := ⟨.bot :: .bot :: .pt 16 0 :: .pt 24 0 :: .pt 32 0 :: .bot :: I step10 :: bt 79 [], [(32, .box [Ti 0, Ti 0, Ti 0]), (24, .box [Ti b2.1, Ti b2.2.1, Ti b2.2.2]), (16, .box [Ti a1.1, Ti a1.2.1, Ti a1.2.2])]⟩) (by kernel_rfl) (by kernel_rfl) ?_ ?_
   ·refine DE_0 0 (.pt 16 2) (by kernel_rfl) rfl rfl rfl (gsat_none rfl) (by kernel_rfl) (E_field (.pt 16 2) Try.underlying25 rfl sz3 rfl (by kernel_rfl) (by intro hh; cases hh)) 22 rfl ?_
    refine DE_0 1 (I a1.2.2) (by kernel_rfl) rfl rfl rfl (gsat_none rfl) (by kernel_rfl) (Y0_load1 (c := Ti a1.2.2) (cs := []) sc3 rfl (by kernel_rfl)) 23 rfl ?_
    refine DE_0 2 (.pt 16 2) (by kernel_rfl) rfl rfl rfl (gsat_none rfl) (by kernel_rfl) (E_field (.pt 16 2) Try.underlying25 rfl sz3 rfl (by kernel_rfl) (by intro hh; cases hh)) 24 rfl ?_
    refine DE_0 3 (I a1.2.2) (by kernel_rfl) rfl rfl rfl (gsat_none rfl) (by kernel_rfl) (Y0_load1 (c := Ti a1.2.2) (cs := []) sc3 rfl (by kernel_rfl)) 25 rfl ?_
    refine DE_0 4 (.pt 24 2) (by kernel_rfl) rfl rfl rfl (gsat_none rfl) (by kernel_rfl) (E_field (.pt 24 2) Try.underlying25 rfl sz3 rfl (by kernel_rfl) (by intro hh; cases hh)) 26 rfl ?_
    refine DE_0 5 (I b2.2.2) (by kernel_rfl) rfl rfl rfl (gsat_none rfl) (by kernel_rfl) (Y0_load1 (c := Ti b2.2.2) (cs := []) sc3 rfl (by kernel_rfl)) 27 rfl ?_
    refine DE_1 6 (by kernel_rfl) rfl rfl rfl (gsat_none rfl) (Y1_call (s_spec_nuGcd hy8) cf_spec_nuGcd rfl (by kernel_rfl)) rfl rfl rfl 28 rfl ?_
    refine DE_0 7 (I (w64 (Int.tdiv a1.2.2 y8))) (by kernel_rfl) rfl rfl rfl (gsat_none rfl) (by kernel_rfl) (Y0_quo64 (a := a1.2.2) (b := y8) rfl (by kernel_rfl) (by kernel_rfl) (nz_some hz9)) 29 rfl ?_
    refine DE_0 8 (.pt 24 2) (by kernel_rfl) rfl rfl rfl (gsat_none rfl) (by kernel_rfl) (E_field (.pt 24 2) Try.underlying25 rfl sz3 rfl (by kernel_rfl) (by intro hh; cases hh)) 30 rfl ?_
    refine DE_0 9 (I b2.2.2) (by kernel_rfl) rfl rfl rfl (gsat_none rfl) (by kernel_rfl) (Y0_load1 (c := Ti b2.2.2) (cs := []) sc3 rfl (by kernel_rfl)) 31 rfl ?_
    refine DE_0 10 (I (w64 ((w64 (Int.tdiv a1.2.2 y8)) * b2.2.2))) (by kernel_rfl) rfl rfl rfl (gsat_none rfl) (by kernel_rfl) (Y0_mul64 (a := w64 (Int.tdiv a1.2.2 y8)) (b := b2.2.2) rfl (by kernel_rfl) (by kernel_rfl)) 32 rfl ?_
    refine DE_0 11 (I (w64 ((w64 (Int.tdiv a1.2.2 y8)) * b2.2.2))) (by kernel_rfl) rfl rfl rfl (gsat_none rfl) (by kernel_rfl) (E_assign (I (w64 ((w64 (Int.tdiv a1.2.2 y8)) * b2.2.2))) rfl (by kernel_rfl)) 6 rfl ?_
    refine DL_nil (by kernel_rfl) ?_
    refine XL_nil ?_
    subst hstep10
    kernel_rfl
   refine V_seq ?_
   refine V_sreg (mb 86 220) [32, 24, 16] (s1 := ⟨.bot :: .bot :: .pt 16 0 :: .pt 24 0 :: .pt 32 0 :: .bot :: I step10 :: I 1 :: bt 78 [], [(32, .box [Ti 0, Ti 0, Ti 0]), (24, .box [Ti b2.1, Ti b2.2.1, Ti b2.2.2]), (16, .box [Ti a1.1, Ti a1.2.1, Ti a1.2.2])]⟩) ?_ ?_
   ·refine L0 rfl rfl (E_assign (I 1) rfl (by kernel_rfl)) ?_
    refine XL_nil ?_
    kernel_rfl
   obtain ⟨qo13, hLo13, hko13⟩ := of_bind h
   refine V_toS (q := qo13) (S := fun o13 => ⟨bt 4 (.pt 32 0 :: bt 81 []), [(32, .box [Ti 0, Ti 0, Ti 0])]⟩) (mb 86 16) [32] ?_ ?_
   ·refine V_block (V_loop (fun n s => ∃ (k11 : Int), s.keep (mb 86 220) [32, 24, 16] = (⟨.bot :: .bot :: .pt 16 0 :: .pt 24 0 :: .pt 32 0 :: .bot :: I step10 :: I k11 :: bt 78 [], [(32, .box [Ti 0, Ti 0, Ti 0]), (24, .box [Ti b2.1, Ti b2.2.1, Ti b2.2.2]), (16, .box [Ti a1.1, Ti a1.2.1, Ti a1.2.2])]⟩ : St) ∧ r_spec_MeetOfLattices_L12 a1 b2 step10 n k11 = some qo13) FU ⟨_,  by rfl, hLo13⟩ ?_)
    clear hLo13
    rintro n s ⟨k11, hs, h⟩
    refine V_keep _ _ hs ?_
    clear hs
    cases n with
    | zero => cases h
    | succ n =>
     rw [r_spec_MeetOfLattices_L12] at h
     refine V_seq ?_
     obtain ⟨y14, hy14, h⟩ := of_bind h
     refine V_sreg (mb 86 549755814108) [32, 24, 16] (s1 := ⟨.bot :: .bot :: .pt 16 0 :: .pt 24 0 :: .pt 32 0 :: .bot :: I step10 :: I k11 :: bt 31 (Bo (leI k11 y14) :: bt 46 []), [(32, .box [Ti 0, Ti 0, Ti 0]), (24, .box [Ti b2.1, Ti b2.2.1, Ti b2.2.2]), (16, .box [Ti a1.1, Ti a1.2.1, Ti a1.2.2])]⟩) ?_ ?_
     ·refine L0 rfl rfl (E_move (I k11) rfl (by kernel_rfl)) ?_
      refine L0 rfl rfl (E_field (.pt 16 0) Try.underlying25 rfl sz3 rfl (by kernel_rfl) (by intro hh; cases hh)) ?_
      refine L0 rfl rfl (Y0_load1 (c := Ti a1.1) (cs := [Ti a1.2.1, Ti a1.2.2]) sc3 rfl (by kernel_rfl)) ?_
      refine L0 rfl rfl (E_field (.pt 24 0) Try.underlying25 rfl sz3 rfl (by kernel_rfl) (by intro hh; cases hh)) ?_
      refine L0 rfl rfl (Y0_load1 (c := Ti b2.1) (cs := [Ti b2.2.1, Ti b2.2.2]) sc3 rfl (by kernel_rfl)) ?_
      refine L1 rfl rfl (Y1_call (s_spec_nuGcd hy14) cf_spec_nuGcd rfl (by kernel_rfl)) ?_
      refine L0 rfl rfl (Y0_lew (k := .i64) (a := k11) (b := y14) rfl (by kernel_rfl) (by kernel_rfl)) ?_
      refine XL_nil ?_
      kernel_rfl
     refine V_cond rfl (fun hc15 => ?_) (fun hc15 => ?_)
     ·have h := of_true h hc15
      refine V_skip ?_
      show V _ _ _ _
      refine V_seq ?_
      refine V_block ?_
      obtain ⟨y16, hy16, h⟩ := of_sI h
      refine V_sreg (mb 86 476) [32, 24, 16] (s1 := ⟨.bot :: .bot :: .pt 16 0 :: .pt 24 0 :: .pt 32 0 :: .bot :: I step10 :: I k11 :: I y16 :: bt 77 [], [(32, .box [Ti 0, Ti 0, Ti 0]), (24, .box [Ti b2.1, Ti b2.2.1, Ti b2.2.2]), (16, .box [Ti a1.1, Ti a1.2.1, Ti a1.2.2])]⟩) ?_ ?_
      ·refine L0 rfl rfl (E_move (I k11) rfl (by kernel_rfl)) ?_
       refine L0 rfl rfl (E_move (I step10) rfl (by kernel_rfl)) ?_
       refine L0 rfl rfl (Y0_mul64 (a := k11) (b := step10) rfl (by kernel_rfl) (by kernel_rfl)) ?_
       refine L0 rfl rfl (E_assign (I (w64 (k11 * step10))) rfl (by kernel_rfl)) ?_
       refine XL_nil ?_
       subst hy16
       kernel_rfl
      obtain ⟨z17, hz17, h⟩ := of_bind h
      obtain ⟨y18, hy18, h⟩ := of_bind h
      obtain ⟨z19, hz19, h⟩ := of_bind h
      obtain ⟨y20, hy20, h⟩ := of_bind h
      obtain ⟨y21, hy21, h⟩ := of_bind h
      refine V_sdreg [0, 0, 2, 7, 0, 16, 63, 0, 128, 511, 0, 1024, 0, 0, 8192, 28672, 0, 65536, 258048, 0, 524288, 2094079, 0, 4194304, 16777215, 33554431, 67108863, 67108863, 67108863, 134217727, 805306367, 2147483647] 32 [[.z, .b, .b, .z, .b, .b, .z, .b, .b, .z, .b, .b, .b, .b, .b, .b, .b, .b, .b, .b, .b, .z, .b, .b, .z, .z, .z, .z, .z, .z, .z, .z], [.b, .z, .z, .z, .b, .b, .z, .b, .b, .z, .b, .b, .b, .b, .b, .b, .b, .b, .b, .b, .b, .z, .b, .b, .z, .z, .z, .z, .z, .z, .z, .z], [.b, .a, .z, .z, .b, .b, .z, .b, .b, .z, .b, .b, .b, .b, .b, .b, .b, .b, .b, .b, .b, .z, .b, .b, .z, .z, .z, .z, .z, .z, .z, .z], [.a, .a, .a, .z, .b, .b, .z, .b, .b, .z, .b, .b, .b, .b, .b, .b, .b, .b, .b, .b, .b, .z, .b, .b, .z, .z, .z, .z, .z, .z, .z, .z], [.b, .b, .b, .b, .z, .z, .z, .b, .b, .z, .b, .b, .b, .b, .b, .b, .b, .b, .b, .b, .b, .z, .b, .b, .z, .z, .z, .z, .z, .z, .z, .z], [.b, .b, .b, .b, .a, .z, .z, .b, .b, .z, .b, .b, .b, .b, .b, .b, .b, .b, .b, .b, .b, .z, .b, .b, .z, .z, .z, .z, .z, .z, .z, .z], [.a, .a, .a, .a, .a, .a, .z, .b, .b, .z, .b, .b, .b, .b, .b, .b, .b, .b, .b, .b, .b, .z, .b, .b, .z, .z, .z, .z, .z, .z, .z, .z], [.b, .b, .b, .b, .b, .b, .b, .z, .z, .z, .b, .b, .b, .b, .b, .b, .b, .b, .b, .b, .b, .z, .b, .b, .z, .z, .z, .z, .z, .z, .z, .z], [.b, .b, .b, .b, .b, .b, .b, .a, .z, .z, .b, .b, .b, .b, .b, .b, .b, .b, .b, .b, .b, .z, .b, .b, .z, .z, .z, .z, .z, .z, .z, .z], [.a, .a, .a, .a, .a, .a, .a, .a, .a, .z, .b, .b, .b, .b, .b, .b, .b, .b, .b, .b, .b, .z, .b, .b, .z, .z, .z, .z, .z, .z, .z, .z], [.b, .b, .b, .b, .b, .b, .b, .b, .b, .b, .z, .z, .b, .b, .b, .b, .b, .b, .b, .b, .b, .b, .b, .b, .z, .z, .z, .z, .z, .z, .z, .z], [.b, .b, .b, .b, .b, .b, .b, .b, .b, .b, .a, .z, .b, .b, .b, .b, .b, .b, .b, .b, .b, .b, .b, .b, .z, .z, .z, .z, .z, .z, .z, .z], [.b, .b, .b, .b, .b, .b, .b, .b, .b, .b, .b, .b, .z, .b, .b, .z, .b, .b, .z, .b, .b, .z, .b, .b, .z, .z, .z, .z, .z, .z, .z, .z], [.b, .b, .b, .b, .b, .b, .b, .b, .b, .b, .b, .b, .b, .z, .z, .z, .b, .b, .z, .b, .b, .z, .b, .b, .z, .z, .z, .z, .z, .z, .z, .z], [.b, .b, .b, .b, .b, .b, .b, .b, .b, .b, .b, .b, .b, .a, .z, .z, .b, .b, .z, .b, .b, .z, .b, .b, .z, .z, .z, .z, .z, .z, .z, .z], [.b, .b, .b, .b, .b, .b, .b, .b, .b, .b, .b, .b, .a, .a, .a, .z, .b, .b, .z, .b, .b, .z, .b, .b, .z, .z, .z, .z, .z, .z, .z, .z], [.b, .b, .b, .b, .b, .b, .b, .b, .b, .b, .b, .b, .b, .b, .b, .b, .z, .z, .z, .b, .b, .z, .b, .b, .z, .z, .z, .z, .z, .z, .z, .z], [.b, .b, .b, .b, .b, .b, .b, .b, .b, .b, .b, .b, .b, .b, .b, .b, .a, .z, .z, .b, .b, .z, .b, .b, .z, .z, .z, .z, .z, .z, .z, .z], [.b, .b, .b, .b, .b, .b, .b, .b, .b, .b, .b, .b, .a, .a, .a, .a, .a, .a, .z, .b, .b, .z, .b, .b, .z, .z, .z, .z, .z, .z, .z, .z], [.b, .b, .b, .b, .b, .b, .b, .b, .b, .b, .b, .b, .b, .b, .b, .b, .b, .b, .b, .z, .z, .z, .b, .b, .z, .z, .z, .z, .z, .z, .z, .z], [.b, .b, .b, .b, .b, .b, .b, .b, .b, .b, .b, .b, .b, .b, .b, .b, .b, .b, .b, .a, .z, .z, .b, .b, .z, .z, .z, .z, .z, .z, .z, .z], [.a, .a, .a, .a, .a, .a, .a, .a, .a, .a, .b, .b, .a, .a, .a, .a, .a, .a, .a, .a, .a, .z, .b, .b, .z, .z, .z, .z, .z, .z, .z, .z], [.b, .b, .b, .b, .b, .b, .b, .b, .b, .b, .b, .b, .b, .b, .b, .b, .b, .b, .b, .b, .b, .b, .z, .z, .z, .z, .z, .z, .z, .z, .z, .z], [.b, .b, .b, .b, .b, .b, .b, .b, .b, .b, .b, .b, .b, .b, .b, .b, .b, .b, .b, .b, .b, .b, .a, .z, .z, .z, .z, .z, .z, .z, .z, .z], [.a, .a, .a, .a, .a, .a, .a, .a, .a, .a, .a, .a, .a, .a, .a, .a, .a, .a, .a, .a, .a, .a, .a, .a, .z, .z, .z, .z, .z, .z, .z, .z], [.a, .a, .a, .a, .a, .a, .a, .a, .a, .a, .a, .a, .a, .a, .a, .a, .a, .a, .a, .a, .a, .a, .a, .a, .a, .z, .z, .z, .z, .z, .z, .z], [.a, .a, .a, .a, .a, .a, .a, .a, .a, .a, .a, .a, .a, .a, .a, .a, .a, .a, .a, .a, .a, .a, .a, .a, .a, .a, .z, .b, .b, .z, .z, .z], [.a, .a, .a, .a, .a, .a, .a, .a, .a, .a, .a, .a, .a, .a, .a, .a, .a, .a, .a, .a, .a, .a, .a, .a, .a, .a, .b, .z, .b, .b, .z, .z], [.a, .a, .a, .a, .a, .a, .a, .a, .a, .a, .a, .a, .a, .a, .a, .a, .a, .a, .a, .a, .a, .a, .a, .a, .a, .a, .b, .b, .z, .b, .b, .z], [.a, .a, .a, .a, .a, .a, .a, .a, .a, .a, .a, .a, .a, .a, .a, .a, .a, .a, .a, .a, .a, .a, .a, .a, .a, .a, .a, .b, .b, .z, .z, .z], [.a, .a, .a, .a, .a, .a, .a, .a, .a, .a, .a, .a, .a, .a, .a, .a, .a, .a, .a, .a, .a, .a, .a, .a, .a, .a, .a, .a, .b, .a, .z, .z], [.a, .a, .a, .a, .a, .a, .a, .a, .a, .a, .a, .a, .a, .a, .a, .a, .a, .a, .a, .a, .a, .a, .a, .a, .a, .a, .a, .a, .a, .a, .a, .z]] (mb 86 4060) [32, 24, 16] (s1 := ⟨.bot :: .bot :: .pt 16 0 :: .pt 24 0 :: .pt 32 0 :: .bot :: I step10 :: I k11 :: I y16 :: I y21.1 :: I y21.2.1 :: Bo y21.2.2 :: bt 74 [], [(32, .box [Ti 0, Ti 0, Ti 0]), (24, .box [Ti b2.1, Ti b2.2.1, Ti b2.2.2]), (16, .box [Ti a1.1, Ti a1.2.1, Ti a1.2.2])]⟩) (by kernel_rfl) (by kernel_rfl) ?_ ?_
      ·refine DE_0 0 (I y16) (by kernel_rfl) rfl rfl rfl (gsat_none rfl) (by kernel_rfl) (E_move (I y16) rfl (by kernel_rfl)) 46 rfl ?_
       refine DE_0 1 (.pt 16 2) (by kernel_rfl) rfl rfl rfl (gsat_none rfl) (by kernel_rfl) (E_field (.pt 16 2) Try.underlying25 rfl sz3 rfl (by kernel_rfl) (by intro hh; cases hh)) 47 rfl ?_
       refine DE_0 2 (I a1.2.2) (by kernel_rfl) rfl rfl rfl (gsat_none rfl) (by kernel_rfl) (Y0_load1 (c := Ti a1.2.2) (cs := []) sc3 rfl (by kernel_rfl)) 48 rfl ?_
       refine DE_0 3 (I (w64 (Int.tdiv y16 a1.2.2))) (by kernel_rfl) rfl rfl rfl (gsat_none rfl) (by kernel_rfl) (Y0_quo64 (a := y16) (b := a1.2.2) rfl (by kernel_rfl) (by kernel_rfl) (nz_some hz17)) 49 rfl ?_
       refine DE_0 4 (.pt 16 1) (by kernel_rfl) rfl rfl rfl (gsat_none rfl) (by kernel_rfl) (E_field (.pt 16 1) Try.underlying25 rfl sz3 rfl (by kernel_rfl) (by intro hh; cases hh)) 50 rfl ?_
       refine DE_0 5 (I a1.2.1) (by kernel_rfl) rfl rfl rfl (gsat_none rfl) (by kernel_rfl) (Y0_load1 (c := Ti a1.2.1) (cs := [Ti a1.2.2]) sc3 rfl (by kernel_rfl)) 51 rfl ?_
       refine DE_0 6 (I (w64 ((w64 (Int.tdiv y16 a1.2.2)) * a1.2.1))) (by kernel_rfl) rfl rfl rfl (gsat_none rfl) (by kernel_rfl) (Y0_mul64 (a := w64 (Int.tdiv y16 a1.2.2)) (b := a1.2.1) rfl (by kernel_rfl) (by kernel_rfl)) 52 rfl ?_
       refine DE_0 7 (.pt 16 0) (by kernel_rfl) rfl rfl rfl (gsat_none rfl) (by kernel_rfl) (E_field (.pt 16 0) Try.underlying25 rfl sz3 rfl (by kernel_rfl) (by intro hh; cases hh)) 53 rfl ?_
       refine DE_0 8 (I a1.1) (by kernel_rfl) rfl rfl rfl (gsat_none rfl) (by kernel_rfl) (Y0_load1 (c := Ti a1.1) (cs := [Ti a1.2.1, Ti a1.2.2]) sc3 rfl (by kernel_rfl)) 54 rfl ?_
       refine DE_1 9 (by kernel_rfl) rfl rfl rfl (gsat_none rfl) (Y1_call (s_spec_nuMod hy18) cf_spec_nuMod rfl (by kernel_rfl)) rfl rfl rfl 55 rfl ?_
       refine DE_0 10 (.pt 16 0) (by kernel_rfl) rfl rfl rfl (gsat_none rfl) (by kernel_rfl) (E_field (.pt 16 0) Try.underlying25 rfl sz3 rfl (by kernel_rfl) (by intro hh; cases hh)) 56 rfl ?_
       refine DE_0 11 (I a1.1) (by kernel_rfl) rfl rfl rfl (gsat_none rfl) (by kernel_rfl) (Y0_load1 (c := Ti a1.1) (cs := [Ti a1.2.1, Ti a1.2.2]) sc3 rfl (by kernel_rfl)) 57 rfl ?_
       refine DE_0 12 (I y16) (by kernel_rfl) rfl rfl rfl (gsat_none rfl) (by kernel_rfl) (E_move (I y16) rfl (by kernel_rfl)) 58 rfl ?_
       refine DE_0 13 (.pt 24 2) (by kernel_rfl) rfl rfl rfl (gsat_none rfl) (by kernel_rfl) (E_field (.pt 24 2) Try.underlying25 rfl sz3 rfl (by kernel_rfl) (by intro hh; cases hh)) 59 rfl ?_
       refine DE_0 14 (I b2.2.2) (by kernel_rfl) rfl rfl rfl (gsat_none rfl) (by kernel_rfl) (Y0_load1 (c := Ti b2.2.2) (cs := []) sc3 rfl (by kernel_rfl)) 60 rfl ?_
       refine DE_0 15 (I (w64 (Int.tdiv y16 b2.2.2))) (by kernel_rfl) rfl rfl rfl (gsat_none rfl) (by kernel_rfl) (Y0_quo64 (a := y16) (b := b2.2.2) rfl (by kernel_rfl) (by kernel_rfl) (nz_some hz19)) 61 rfl ?_
       refine DE_0 16 (.pt 24 1) (by kernel_rfl) rfl rfl rfl (gsat_none rfl) (by kernel_rfl) (E_field (.pt 24 1) Try.underlying25 rfl sz3 rfl (by kernel_rfl) (by intro hh; cases hh)) 62 rfl ?_
       refine DE_0 17 (I b2.2.1) (by kernel_rfl) rfl rfl rfl (gsat_none rfl) (by kernel_rfl) (Y0_load1 (c := Ti b2.2.1) (cs := [Ti b2.2.2]) sc3 rfl (by kernel_rfl)) 63 rfl ?_
       refine DE_0 18 (I (w64 ((w64 (Int.tdiv y16 b2.2.2)) * b2.2.1))) (by kernel_rfl) rfl rfl rfl (gsat_none rfl) (by kernel_rfl) (Y0_mul64 (a := w64 (Int.tdiv y16 b2.2.2)) (b := b2.2.1) rfl (by kernel_rfl) (by kernel_rfl)) 64 rfl ?_
       refine DE_0 19 (.pt 24 0) (by kernel_rfl) rfl rfl rfl (gsat_none rfl) (by kernel_rfl) (E_field (.pt 24 0) Try.underlying25 rfl sz3 rfl (by kernel_rfl) (by intro hh; cases hh)) 65 rfl ?_
       refine DE_0 20 (I b2.1) (by kernel_rfl) rfl rfl rfl (gsat_none rfl) (by kernel_rfl) (Y0_load1 (c := Ti b2.1) (cs := [Ti b2.2.1, Ti b2.2.2]) sc3 rfl (by kernel_rfl)) 66 rfl ?_
       refine DE_1 21 (by kernel_rfl) rfl rfl rfl (gsat_none rfl) (Y1_call (s_spec_nuMod hy20) cf_spec_nuMod rfl (by kernel_rfl)) rfl rfl rfl 67 rfl ?_
       refine DE_0 22 (.pt 24 0) (by kernel_rfl) rfl rfl rfl (gsat_none rfl) (by kernel_rfl) (E_field (.pt 24 0) Try.underlying25 rfl sz3 rfl (by kernel_rfl) (by intro hh; cases hh)) 68 rfl ?_
       refine DE_0 23 (I b2.1) (by kernel_rfl) rfl rfl rfl (gsat_none rfl) (by kernel_rfl) (Y0_load1 (c := Ti b2.1) (cs := [Ti b2.2.1, Ti b2.2.2]) sc3 rfl (by kernel_rfl)) 69 rfl ?_
       refine DE_1 24 (by kernel_rfl) rfl rfl rfl (gsat_none rfl) (Y1_call (s_spec_nuCommon hy21) cf_spec_nuCommon rfl (by kernel_rfl)) rfl rfl rfl 70 rfl ?_
       refine DE_0 25 (.tc (I y21.1) (.tc (I y21.2.1) (.tc (Bo y21.2.2) .tn))) (by kernel_rfl) rfl rfl rfl (gsat_none rfl) (by kernel_rfl) (E_move (.tc (I y21.1) (.tc (I y21.2.1) (.tc (Bo y21.2.2) .tn))) rfl (by kernel_rfl)) 45 rfl ?_
       refine DE_0 26 (I y21.1) (by kernel_rfl) rfl rfl rfl (gsat_none rfl) (by kernel_rfl) (E_ext (n := 0) (I y21.1) (.tc (I y21.2.1) (.tc (Bo y21.2.2) .tn)) (I y21.1) rfl (by kernel_rfl) (by kernel_rfl) (by intro hh; cases hh)) 71 rfl ?_
       refine DE_0 27 (I y21.2.1) (by kernel_rfl) rfl rfl rfl (gsat_none rfl) (by kernel_rfl) (E_ext (n := 1) (I y21.1) (.tc (I y21.2.1) (.tc (Bo y21.2.2) .tn)) (I y21.2.1) rfl (by kernel_rfl) (by kernel_rfl) (by intro hh; cases hh)) 72 rfl ?_
       refine DE_0 28 (Bo y21.2.2) (by kernel_rfl) rfl rfl rfl (gsat_none rfl) (by kernel_rfl) (E_ext (n := 2) (I y21.1) (.tc (I y21.2.1) (.tc (Bo y21.2.2) .tn)) (Bo y21.2.2) rfl (by kernel_rfl) (by kernel_rfl) (by intro hh; cases hh)) 73 rfl ?_
       refine DE_0 29 (I y21.1) (by kernel_rfl) rfl rfl rfl (gsat_none rfl) (by kernel_rfl) (E_assign (I y21.1) rfl (by kernel_rfl)) 9 rfl ?_
       refine DE_0 30 (I y21.2.1) (by kernel_rfl) rfl rfl rfl (gsat_none rfl) (by kernel_rfl) (E_assign (I y21.2.1) rfl (by kernel_rfl)) 10 rfl ?_
       refine DE_0 31 (Bo y21.2.2) (by kernel_rfl) rfl rfl rfl (gsat_none rfl) (by kernel_rfl) (E_assign (Bo y21.2.2) rfl (by kernel_rfl)) 11 rfl ?_
       refine DL_nil (by kernel_rfl) ?_
       refine XL_nil ?_
       kernel_rfl
      refine V_seq ?_
      refine V_sreg (mb 86 37778931862957161711580) [32, 24, 16] (s1 := ⟨.bot :: .bot :: .pt 16 0 :: .pt 24 0 :: .pt 32 0 :: .bot :: I step10 :: I k11 :: I y16 :: I y21.1 :: I y21.2.1 :: bt 64 (Bo (!y21.2.2) :: bt 10 []), [(32, .box [Ti 0, Ti 0, Ti 0]), (24, .box [Ti b2.1, Ti b2.2.1, Ti b2.2.2]), (16, .box [Ti a1.1, Ti a1.2.1, Ti a1.2.2])]⟩) ?_ ?_
      ·refine L0 rfl rfl (E_move (Bo y21.2.2) rfl (by kernel_rfl)) ?_
       refine L0 rfl rfl (Y0_not (b := y21.2.2) rfl (by kernel_rfl)) ?_
       refine XL_nil ?_
       kernel_rfl
      refine V_cond rfl (fun hc22 => ?_) (fun hc22 => ?_)
      ·have h := of_true h hc22
       refine V_exit ?_
       show V _ _ _ _
       obtain ⟨k23, hk23, h⟩ := of_sI h
       refine V_reg (mb 86 220) [32, 24, 16] (s1 := ⟨.bot :: .bot :: .pt 16 0 :: .pt 24 0 :: .pt 32 0 :: .bot :: I step10 :: I k23 :: bt 78 [], [(32, .box [Ti 0, Ti 0, Ti 0]), (24, .box [Ti b2.1, Ti b2.2.1, Ti b2.2.2]), (16, .box [Ti a1.1, Ti a1.2.1, Ti a1.2.2])]⟩) ?_ ?_
       ·refine L0 rfl rfl (E_move (I k11) rfl (by kernel_rfl)) ?_
        refine L0 rfl rfl (Y0_add64 (a := k11) (b := 1) rfl (by kernel_rfl) (by kernel_rfl)) ?_
        refine L0 rfl rfl (E_assign (I (w64 (k11 + 1))) rfl (by kernel_rfl)) ?_
        refine XL_nil ?_
        subst hk23
        kernel_rfl
       exact ⟨n, Nat.lt_succ_self n, _,  by rfl, h⟩
      ·have h := of_false h hc22
       refine V_skip ?_
       show V _ _ _ _
       refine V_sreg (mb 86 4112) [96, 32] (s1 := ⟨bt 4 (.pt 32 0 :: bt 7 (.pt 96 0 :: bt 73 [])), [(96, .box [Ti y21.2.1, Ti y21.1, Ti y16]), (32, .box [Ti 0, Ti 0, Ti 0])]⟩) ?_ ?_
       ·refine L0 rfl rfl (E_move (I y21.2.1) rfl (by kernel_rfl)) ?_
        refine L0 rfl rfl (E_move (I y21.1) rfl (by kernel_rfl)) ?_
        refine L0 rfl rfl (E_move (I y16) rfl (by kernel_rfl)) ?_
        refine L0 rfl rfl (Y0_build (cs := [Ti y21.2.1, Ti y21.1, Ti y16]) pl25 bt25 rfl rfl (by kernel_rfl)) ?_
        refine L1 rfl rfl (Y1_alloc (z := zv25) rfl zf25 rfl) ?_
        refine XL_cons rfl (E_store (id := 96) (off := 0) (cs := [Ti 0, Ti 0, Ti 0]) (vc := [Ti y21.2.1, Ti y21.1, Ti y16]) [Ti y21.2.1, Ti y21.1, Ti y16] rfl rfl (by kernel_rfl) (by kernel_rfl) (by kernel_rfl) sz25 (Nat.le_of_ble_eq_true rfl) (by kernel_rfl)) ?_
        refine XL_nil ?_
        kernel_rfl
       refine V_seq ?_
       obtain ⟨y24, hy24, h⟩ := of_bind h
       refine V_sreg (mb 86 4835703278458516698828816) [96, 32] (s1 := ⟨bt 4 (.pt 32 0 :: bt 7 (.pt 96 0 :: bt 69 (Bo (!y24) :: bt 3 []))), [(96, .box [Ti y21.2.1, Ti y21.1, Ti y16]), (32, .box [Ti 0, Ti 0, Ti 0])]⟩) ?_ ?_
       ·refine L0 rfl rfl (E_loadn (cs := [Ti y21.2.1, Ti y21.1, Ti y16]) [Ti y21.2.1, Ti y21.1, Ti y16] wd25 rfl (by kernel_rfl) (Nat.le_of_ble_eq_true rfl) (by kernel_rfl)) ?_
        refine L1 rfl rfl (Y1_call (s_spec_laGood hy24) cf_spec_laGood rfl (by kernel_rfl)) ?_
        refine L0 rfl rfl (Y0_not (b := y24) rfl (by kernel_rfl)) ?_
        refine XL_nil ?_
        kernel_rfl
       refine V_cond rfl (fun hc25 => ?_) (fun hc25 => ?_)
       ·have h := of_true h hc25
        refine V_sreg (mb 86 48) [32] (s1 := ⟨bt 4 (.pt 32 0 :: Bo false :: bt 80 []), [(32, .box [Ti 0, Ti 0, Ti 0])]⟩) ?_ ?_
        ·refine L0 rfl rfl (Y0_build (cs := [Ti 0, Ti 0, Ti 0]) pl25 bt25 rfl rfl (by kernel_rfl)) ?_
         refine XL_cons rfl (E_store (id := 32) (off := 0) (cs := [Ti 0, Ti 0, Ti 0]) (vc := [Ti 0, Ti 0, Ti 0]) [Ti 0, Ti 0, Ti 0] rfl rfl (by kernel_rfl) (by kernel_rfl) (by kernel_rfl) sz25 (Nat.le_of_ble_eq_true rfl) (by kernel_rfl)) ?_
         refine L0 rfl rfl (E_assign (Bo false) rfl (by kernel_rfl)) ?_
         refine XL_nil ?_
         kernel_rfl
        refine V_ret ?_
        obtain rfl := some_inj h
        have h := hko13
        obtain rfl := some_inj h
        show Post _ _ _ _ _
        exact ⟨.inr rfl, rfl, rfl, rfl⟩
       ·have h := of_false h hc25
        refine V_skip ?_
        show V _ _ _ _
        refine V_sreg (mb 86 48) [32] (s1 := ⟨bt 4 (.pt 32 0 :: Bo true :: bt 80 []), [(32, .box [Ti y21.2.1, Ti y21.1, Ti y16])]⟩) ?_ ?_
        ·refine L0 rfl rfl (E_loadn (cs := [Ti y21.2.1, Ti y21.1, Ti y16]) [Ti y21.2.1, Ti y21.1, Ti y16] wd25 rfl (by kernel_rfl) (Nat.le_of_ble_eq_true rfl) (by kernel_rfl)) ?_
         refine XL_cons rfl (E_store (id := 32) (off := 0) (cs := [Ti 0, Ti 0, Ti 0]) (vc := [Ti y21.2.1, Ti y21.1, Ti y16]) [Ti y21.2.1, Ti y21.1, Ti y16] rfl rfl (by kernel_rfl) (by kernel_rfl) (by kernel_rfl) sz25 (Nat.le_of_ble_eq_true rfl) (by kernel_rfl)) ?_
         refine L0 rfl rfl (E_assign (Bo true) rfl (by kernel_rfl)) ?_
         refine XL_nil ?_
         kernel_rfl
        refine V_ret ?_
        obtain rfl := some_inj h
        have h := hko13
        obtain rfl := some_inj h
        show Post _ _ _ _ _
        exact ⟨.inr rfl, rfl, rfl, rfl⟩
     ·have h := of_false h hc15
      refine V_exit ?_
      obtain rfl := some_inj h
      exact ⟨_, rfl, by rfl⟩
   rintro o13 rfl
   have h := hko13
   clear hko13
   show V _ _ _ _
   refine V_sreg (mb 86 48) [32] (s1 := ⟨bt 4 (.pt 32 0 :: Bo false :: bt 80 []), [(32, .box [Ti 0, Ti 0, Ti 0])]⟩) ?_ ?_
   ·refine L0 rfl rfl (Y0_build (cs := [Ti 0, Ti 0, Ti 0]) pl25 bt25 rfl rfl (by kernel_rfl)) ?_
    refine XL_cons rfl (E_store (id := 32) (off := 0) (cs := [Ti 0, Ti 0, Ti 0]) (vc := [Ti 0, Ti 0, Ti 0]) [Ti 0, Ti 0, Ti 0] rfl rfl (by kernel_rfl) (by kernel_rfl) (by kernel_rfl) sz25 (Nat.le_of_ble_eq_true rfl) (by kernel_rfl)) ?_
    refine L0 rfl rfl (E_assign (Bo false) rfl (by kernel_rfl)) ?_
    refine XL_nil ?_
    kernel_rfl
   refine V_ret ?_
   obtain rfl := some_inj h
   show Post _ _ _ _ _
   exact ⟨.inr rfl, rfl, rfl, rfl⟩
theorem cf_impl_Lattice_basis : ∀ args w, (callFunc 65 args).run Try.prog w = .ok (.enter 65 args) w := run_callFunc Try.func65 (by kernel_rfl) (by kernel_rfl)
set_option maxRecDepth 100000 in
set_option maxHeartbeats 400000 in
theorem s_impl_Lattice_basis {l1 : (Int × Int × Int)} {r : List ((Int × Int))} (h : r_impl_Lattice_basis l1 = some r) : CallS Try.prog 65 [.ag [Ti l1.1, Ti l1.2.1, Ti l1.2.2]] (.ow 0) [(0, .arr 123 2 (r.map c123))] := by
  refine CallS_of_text (rs := [.t 2]) (vs := [.tmp 2]) Try.func65 rfl rfl (.cons rfl FitsL.nil) (by decide) 12 rfl ?_
  unfold r_impl_Lattice_basis at h
  show V _ _ ⟨.ag [Ti l1.1, Ti l1.2.1, Ti l1.2.2] :: bt 11 [], []⟩ _
  refine V_sreg (mb 12 2) [8] (s1 := ⟨.bot :: .pt 8 0 :: bt 10 [], [(8, .box [Ti l1.1, Ti l1.2.1, Ti l1.2.2])]⟩) ?_ ?_
  ·refine L1 rfl rfl (Y1_box (cs := [Ti l1.1, Ti l1.2.1, Ti l1.2.2]) rfl (by kernel_rfl)) ?_
   refine L1 rfl rfl (Y1_nil (e := 123) 2 (by decide) (.inl rfl)) ?_
   refine XL_nil ?_
   kernel_rfl
  refine V_sreg (mb 12 4) [88] (s1 := ⟨.bot :: .bot :: .ow 88 :: bt 9 [], [(88, .arr 123 2 (([(l1.1, 0), l1.2]).map c123))]⟩) ?_ ?_
  ·refine L0 rfl rfl (E_field (.pt 8 0) Try.underlying25 rfl sz3 rfl (by kernel_rfl) (by intro hh; cases hh)) ?_
   refine L0 rfl rfl (Y0_load1 (c := Ti l1.1) (cs := [Ti l1.2.1, Ti l1.2.2]) sc3 rfl (by kernel_rfl)) ?_
   refine L0 rfl rfl (Y0_build (cs := [Ti l1.1, Ti 0]) pl123 bt123 rfl rfl (by kernel_rfl)) ?_
   refine L0 rfl rfl (E_field (.pt 8 1) Try.underlying25 rfl sz3 rfl (by kernel_rfl) (by intro hh; cases hh)) ?_
   refine L0 rfl rfl (Y0_load1 (c := Ti l1.2.1) (cs := [Ti l1.2.2]) sc3 rfl (by kernel_rfl)) ?_
   refine L0 rfl rfl (E_field (.pt 8 2) Try.underlying25 rfl sz3 rfl (by kernel_rfl) (by intro hh; cases hh)) ?_
   refine L0 rfl rfl (Y0_load1 (c := Ti l1.2.2) (cs := []) sc3 rfl (by kernel_rfl)) ?_
   refine L0 rfl rfl (Y0_build (cs := [Ti l1.2.1, Ti l1.2.2]) pl123 bt123 rfl rfl (by kernel_rfl)) ?_
   refine L1 rfl rfl (Y1_bslice (z := zv123) (els := [(l1.1, 0), l1.2].map c123) Try.underlying81 iz123 rfl (by decide) rfl (by kernel_rfl) rfl (by simp [c123]) (by decide) (by decide)) ?_
   refine L0 rfl rfl (E_assign (.ow 88) rfl (by kernel_rfl)) ?_
   refine XL_nil ?_
   kernel_rfl
  refine V_ret ?_
  obtain rfl := some_inj h
  show Post _ _ _ _ _
  exact ⟨.inr rfl, rfl, rfl, rfl⟩
theorem cf_impl_hermite : ∀ args w, (callFunc 135 args).run Try.prog w = .ok (.enter 135 args) w := run_callFunc Try.func135 (by kernel_rfl) (by kernel_rfl)
set_option maxRecDepth 100000 in
set_option maxHeartbeats 400000 in
theorem s_impl_hermite {list1 : List ((Int × Int))} {r : (Int × Int × Int × Bool)} (h : r_impl_hermite list1 = some r) : CallS Try.prog 135 [.c (.sl (list1.map c123))] (.tc (I r.1) (.tc (I r.2.1) (.tc (I r.2.2.1) (.tc (Bo r.2.2.2) .tn)))) [] := by
  refine CallS_of_text (rs := [.t 2, .t 3, .t 4, .t 5]) (vs := [.tmp 2, .tmp 3, .tmp 4, .tmp 5]) Try.func135 rfl rfl (.cons rfl (.cons rfl (.cons rfl (.cons rfl FitsL.nil)))) (by decide) 72 rfl ?_
  unfold r_impl_hermite at h
  show V _ _ ⟨.c (.sl (list1.map c123)) :: bt 71 [], []⟩ _
  refine V_sreg (mb 72 1) [] (s1 := ⟨.c (.sl (list1.map c123)) :: bt 71 [], []⟩) ?_ ?_
  ·refine L0 rfl rfl (E_assign (I 0) rfl (by kernel_rfl)) ?_
   refine L0 rfl rfl (E_assign (I 0) rfl (by kernel_rfl)) ?_
   refine L0 rfl rfl (E_assign (I 0) rfl (by kernel_rfl)) ?_
   refine L0 rfl rfl (E_assign (Bo false) rfl (by kernel_rfl)) ?_
   refine XL_nil ?_
   kernel_rfl
  refine V_sreg (mb 72 449) [] (s1 := ⟨.c (.sl (list1.map c123)) :: bt 5 (I 0 :: I 0 :: I 0 :: bt 63 []), []⟩) ?_ ?_
  ·refine L0 rfl rfl (E_assign (I 0) rfl (by kernel_rfl)) ?_
   refine L0 rfl rfl (E_assign (I 0) rfl (by kernel_rfl)) ?_
   refine L0 rfl rfl (E_assign (I 0) rfl (by kernel_rfl)) ?_
   refine XL_nil ?_
   kernel_rfl
  refine V_seq ?_
  refine V_sreg (mb 72 115136) [] (s1 := ⟨bt 6 (I 0 :: I 0 :: I 0 :: bt 5 (.c (.sl (list1.map c123)) :: I ((list1.length : Int)) :: I 0 :: bt 55 [])), []⟩) ?_ ?_
  ·refine L0 rfl rfl (E_move (.c (.sl (list1.map c123))) rfl (by kernel_rfl)) ?_
   refine L0 rfl rfl (Y0_lenM (c := c123) (xs := list1) Try.underlying81 rfl (by kernel_rfl)) ?_
   refine L0 rfl rfl (E_move (I 0) rfl (by kernel_rfl)) ?_
   refine XL_nil ?_
   kernel_rfl
  obtain ⟨o7, hLo7, h⟩ := of_bind h
  refine V_toK (mb 72 448) [] (s1 := ⟨bt 6 (I o7.1 :: I o7.2.1 :: I o7.2.2 :: bt 63 []), []⟩) ?_ ?_
  ·clear h
   refine V_block (V_loop (fun n s => ∃ (a2 : Int) (b3 : Int) (d4 : Int) (t5 : Int), s.keep (mb 72 115136) [] = (⟨bt 6 (I a2 :: I b3 :: I d4 :: bt 5 (.c (.sl (list1.map c123)) :: I ((list1.length : Int)) :: I t5 :: bt 55 [])), []⟩ : St) ∧ r_impl_hermite_L6 list1 n a2 b3 d4 t5 = some o7) FU ⟨_, _, _, _,  by rfl, hLo7⟩ ?_)
   clear hLo7
   rintro n s ⟨a2, b3, d4, t5, hs, h⟩
   refine V_keep _ _ hs ?_
   clear hs
   cases n with
   | zero => cases h
   | succ n =>
    rw [r_impl_hermite_L6] at h
    refine V_sreg (mb 72 246208) [] (s1 := ⟨bt 6 (I a2 :: I b3 :: I d4 :: bt 5 (.c (.sl (list1.map c123)) :: I ((list1.length : Int)) :: I t5 :: Bo (ltI t5 ((list1.length : Int))) :: bt 54 [])), []⟩) ?_ ?_
    ·refine L0 rfl rfl (Y0_ltw (k := .i64) (a := t5) (b := (list1.length : Int)) rfl (by kernel_rfl) (by kernel_rfl)) ?_
     refine XL_nil ?_
     kernel_rfl
    refine V_seq ?_
    refine V_cond rfl (fun hc8 => ?_) (fun hc8 => ?_)
    ·have h := of_true h hc8
     refine V_skip ?_
     show V _ _ _ _
     refine V_seq ?_
     refine V_block ?_
     obtain ⟨e9, he9, h⟩ := of_bind h
     refine V_sreg (mb 72 116160) [80] (s1 := ⟨bt 6 (I a2 :: I b3 :: I d4 :: .bot :: .pt 80 0 :: bt 3 (.c (.sl (list1.map c123)) :: I ((list1.length : Int)) :: I t5 :: bt 55 [])), [(80, .box [Ti e9.1, Ti e9.2])]⟩) ?_ ?_
     ·refine L0 rfl rfl (Y0_idxM (c := c123) (xs := list1) (v := e9) (n := t5) Try.underlying81 sz123 rfl (by kernel_rfl) (by kernel_rfl) he9) ?_
      refine L0 rfl rfl (E_loadn (cs := [Ti e9.1, Ti e9.2]) [Ti e9.1, Ti e9.2] wd123 rfl (by kernel_rfl) (Nat.le_of_ble_eq_true rfl) (by kernel_rfl)) ?_
      refine L1 rfl rfl (Y1_alloc (z := zv123) rfl zf123 rfl) ?_
      refine XL_cons rfl (E_store (id := 80) (off := 0) (cs := [Ti 0, Ti 0]) (vc := [Ti e9.1, Ti e9.2]) [Ti e9.1, Ti e9.2] rfl rfl (by kernel_rfl) (by kernel_rfl) (by kernel_rfl) sz123 (Nat.le_of_ble_eq_true rfl) (by kernel_rfl)) ?_
      refine XL_nil ?_
      kernel_rfl
     refine V_sdreg [0, 1, 0, 4, 3, 31] 6 [[.z, .z, .b, .b, .z, .z], [.a, .z, .b, .b, .z, .z], [.b, .b, .z, .z, .b, .z], [.b, .b, .a, .z, .b, .z], [.a, .a, .b, .b, .z, .z], [.a, .a, .a, .a, .a, .z]] (mb 72 121280) [] (s1 := ⟨bt 6 (I a2 :: I b3 :: I d4 :: .bot :: .bot :: I e9.1 :: I e9.2 :: .bot :: .c (.sl (list1.map c123)) :: I ((list1.length : Int)) :: I t5 :: bt 55 []), []⟩) (by kernel_rfl) (by kernel_rfl) ?_ ?_
     ·refine DE_0 0 (.pt 80 0) (by kernel_rfl) rfl rfl rfl (gsat_none rfl) (by kernel_rfl) (E_idxA (k := .i64) (n := 0) (.pt 80 0) Try.underlying123 sz3 rfl (by kernel_rfl) (by decide) (by kernel_rfl) (by intro hh; cases hh)) 20 rfl ?_
      refine DE_0 1 (I e9.1) (by kernel_rfl) rfl rfl rfl (gsat_none rfl) (by kernel_rfl) (Y0_load1 (c := Ti e9.1) (cs := [Ti e9.2]) sc3 rfl (by kernel_rfl)) 21 rfl ?_
      refine DE_0 2 (.pt 80 1) (by kernel_rfl) rfl rfl rfl (gsat_none rfl) (by kernel_rfl) (E_idxA (k := .i64) (n := 1) (.pt 80 1) Try.underlying123 sz3 rfl (by kernel_rfl) (by decide) (by kernel_rfl) (by intro hh; cases hh)) 22 rfl ?_
      refine DE_0 3 (I e9.2) (by kernel_rfl) rfl rfl rfl (gsat_none rfl) (by kernel_rfl) (Y0_load1 (c := Ti e9.2) (cs := []) sc3 rfl (by kernel_rfl)) 23 rfl ?_
      refine DE_0 4 (I e9.1) (by kernel_rfl) rfl rfl rfl (gsat_none rfl) (by kernel_rfl) (E_assign (I e9.1) rfl (by kernel_rfl)) 11 rfl ?_
      refine DE_0 5 (I e9.2) (by kernel_rfl) rfl rfl rfl (gsat_none rfl) (by kernel_rfl) (E_assign (I e9.2) rfl (by kernel_rfl)) 12 rfl ?_
      refine DL_nil (by kernel_rfl) ?_
      refine XL_nil ?_
      kernel_rfl
     refine V_seq ?_
     obtain ⟨o15, hLo15, h⟩ := of_bind h
     refine V_toK (mb 72 117184) [] (s1 := ⟨bt 6 (I a2 :: I o15.1 :: I o15.2.1 :: .bot :: .bot :: I o15.2.2 :: .bot :: .bot :: .c (.sl (list1.map c123)) :: I ((list1.length : Int)) :: I t5 :: bt 55 []), []⟩) ?_ ?_
     ·clear h
      refine V_block (V_loop (fun n s => ∃ (b10 : Int) (d11 : Int) (x12 : Int) (y13 : Int), s.keep (mb 72 121280) [] = (⟨bt 6 (I a2 :: I b10 :: I d11 :: .bot :: .bot :: I x12 :: I y13 :: .bot :: .c (.sl (list1.map c123)) :: I ((list1.length : Int)) :: I t5 :: bt 55 []), []⟩ : St) ∧ r_impl_hermite_L14 a2 list1 t5 n b10 d11 x12 y13 = some o15) FU ⟨_, _, _, _,  by rfl, hLo15⟩ ?_)
      clear hLo15
      rintro n s ⟨b10, d11, x12, y13, hs, h⟩
      refine V_keep _ _ hs ?_
      clear hs
      cases n with
      | zero => cases h
      | succ n =>
       rw [r_impl_hermite_L14] at h
       refine V_seq ?_
       refine V_sreg (mb 72 33675712) [] (s1 := ⟨bt 6 (I a2 :: I b10 :: I d11 :: .bot :: .bot :: I x12 :: I y13 :: .bot :: .c (.sl (list1.map c123)) :: I ((list1.length : Int)) :: I t5 :: bt 8 (Bo (!eqI y13 0) :: bt 46 [])), []⟩) ?_ ?_
       ·refine L0 rfl rfl (E_move (I y13) rfl (by kernel_rfl)) ?_
        refine L0 rfl rfl (Y0_new (k := .i64) (a := y13) (b := 0) rfl (by kernel_rfl) (by kernel_rfl)) ?_
        refine XL_nil ?_
        kernel_rfl
       refine V_cond rfl (fun hc16 => ?_) (fun hc16 => ?_)
       ·have h := of_true h hc16
        refine V_skip ?_
        show V _ _ _ _
        refine V_block ?_
        obtain ⟨z17, hz17, h⟩ := of_bind h
        obtain ⟨q18, hq18, h⟩ := of_sI h
        refine V_sreg (mb 72 129472) [] (s1 := ⟨bt 6 (I a2 :: I b10 :: I d11 :: .bot :: .bot :: I x12 :: I y13 :: I q18 :: .c (.sl (list1.map c123)) :: I ((list1.length : Int)) :: I t5 :: bt 55 []), []⟩) ?_ ?_
        ·refine L0 rfl rfl (E_move (I d11) rfl (by kernel_rfl)) ?_
         refine L0 rfl rfl (E_move (I y13) rfl (by kernel_rfl)) ?_
         refine L0 rfl rfl (Y0_quo64 (a := d11) (b := y13) rfl (by kernel_rfl) (by kernel_rfl) (nz_some hz17)) ?_
         refine L0 rfl rfl (E_assign (I (w64 (Int.tdiv d11 y13))) rfl (by kernel_rfl)) ?_
         refine XL_nil ?_
         subst hq18
         kernel_rfl
        obtain ⟨x19, hx19, h⟩ := of_sI h
        obtain ⟨y20, hy20, h⟩ := of_sI h
        refine V_sreg (mb 72 121280) [] (s1 := ⟨bt 6 (I a2 :: I x12 :: I y13 :: .bot :: .bot :: I x19 :: I y20 :: .bot :: .c (.sl (list1.map c123)) :: I ((list1.length : Int)) :: I t5 :: bt 55 []), []⟩) ?_ ?_
        ·refine L0 rfl rfl (E_move (I x12) rfl (by kernel_rfl)) ?_
         refine L0 rfl rfl (E_move (I y13) rfl (by kernel_rfl)) ?_
         refine L0 rfl rfl (E_move (I b10) rfl (by kernel_rfl)) ?_
         refine L0 rfl rfl (E_move (I q18) rfl (by kernel_rfl)) ?_
         refine L0 rfl rfl (E_move (I x12) rfl (by kernel_rfl)) ?_
         refine L0 rfl rfl (Y0_mul64 (a := q18) (b := x12) rfl (by kernel_rfl) (by kernel_rfl)) ?_
         refine L0 rfl rfl (Y0_sub64 (a := b10) (b := w64 (q18 * x12)) rfl (by kernel_rfl) (by kernel_rfl)) ?_
         refine L0 rfl rfl (E_move (I d11) rfl (by kernel_rfl)) ?_
         refine L0 rfl rfl (E_move (I q18) rfl (by kernel_rfl)) ?_
         refine L0 rfl rfl (E_move (I y13) rfl (by kernel_rfl)) ?_
         refine L0 rfl rfl (Y0_mul64 (a := q18) (b := y13) rfl (by kernel_rfl) (by kernel_rfl)) ?_
         refine L0 rfl rfl (Y0_sub64 (a := d11) (b := w64 (q18 * y13)) rfl (by kernel_rfl) (by kernel_rfl)) ?_
         refine L0 rfl rfl (E_assign (I x12) rfl (by kernel_rfl)) ?_
         refine L0 rfl rfl (E_assign (I y13) rfl (by kernel_rfl)) ?_
         refine L0 rfl rfl (E_assign (I (w64 (b10 - (w64 (q18 * x12))))) rfl (by kernel_rfl)) ?_
         refine L0 rfl rfl (E_assign (I (w64 (d11 - (w64 (q18 * y13))))) rfl (by kernel_rfl)) ?_
         refine XL_nil ?_
         subst hx19 hy20
         kernel_rfl
        refine V_sreg (mb 72 4398046632384) [] (s1 := ⟨bt 6 (I a2 :: I x12 :: I y13 :: .bot :: .bot :: I x19 :: I y20 :: .bot :: .c (.sl (list1.map c123)) :: I ((list1.length : Int)) :: I t5 :: bt 25 (Bo (!eqI a2 0) :: bt 29 [])), []⟩) ?_ ?_
        ·refine L0 rfl rfl (E_move (I a2) rfl (by kernel_rfl)) ?_
         refine L0 rfl rfl (Y0_new (k := .i64) (a := a2) (b := 0) rfl (by kernel_rfl) (by kernel_rfl)) ?_
         refine XL_nil ?_
         kernel_rfl
        refine V_cond rfl (fun hc21 => ?_) (fun hc21 => ?_)
        ·have h := of_true h hc21
         obtain ⟨y22, hy22, h⟩ := of_bind h
         refine V_reg (mb 72 121280) [] (s1 := ⟨bt 6 (I a2 :: I x12 :: I y13 :: .bot :: .bot :: I y22 :: I y20 :: .bot :: .c (.sl (list1.map c123)) :: I ((list1.length : Int)) :: I t5 :: bt 55 []), []⟩) ?_ ?_
         ·refine L0 rfl rfl (E_move (I x19) rfl (by kernel_rfl)) ?_
          refine L0 rfl rfl (E_move (I a2) rfl (by kernel_rfl)) ?_
          refine L1 rfl rfl (Y1_call (s_impl_mod hy22) cf_impl_mod rfl (by kernel_rfl)) ?_
          refine L0 rfl rfl (E_assign (I y22) rfl (by kernel_rfl)) ?_
          refine XL_nil ?_
          kernel_rfl
         exact ⟨n, Nat.lt_succ_self n, _, _, _, _,  by rfl, h⟩
        ·have h := of_false h hc21
         refine V_skip ?_
         exact ⟨n, Nat.lt_succ_self n, _, _, _, _,  by rfl, h⟩
       ·have h := of_false h hc16
        refine V_exit ?_
        obtain rfl := some_inj h
        show St.keep _ _ _ = _
        rfl
     show V _ _ _ _
     obtain ⟨y23, hy23, h⟩ := of_bind h
     refine V_sreg (mb 72 115136) [] (s1 := ⟨bt 6 (I y23 :: I o15.1 :: I o15.2.1 :: bt 5 (.c (.sl (list1.map c123)) :: I ((list1.length : Int)) :: I t5 :: bt 55 [])), []⟩) ?_ ?_
     ·refine L0 rfl rfl (E_move (I a2) rfl (by kernel_rfl)) ?_
      refine L0 rfl rfl (E_move (I o15.2.2) rfl (by kernel_rfl)) ?_
      refine L1 rfl rfl (Y1_call (s_impl_gcd hy23) cf_impl_gcd rfl (by kernel_rfl)) ?_
      refine L0 rfl rfl (E_assign (I y23) rfl (by kernel_rfl)) ?_
      refine XL_nil ?_
      kernel_rfl
     refine V_sreg (mb 72 1125899906957760) [] (s1 := ⟨bt 6 (I y23 :: I o15.1 :: I o15.2.1 :: bt 5 (.c (.sl (list1.map c123)) :: I ((list1.length : Int)) :: I t5 :: bt 33 (Bo (!eqI y23 0) :: bt 21 []))), []⟩) ?_ ?_
     ·refine L0 rfl rfl (E_move (I y23) rfl (by kernel_rfl)) ?_
      refine L0 rfl rfl (Y0_new (k := .i64) (a := y23) (b := 0) rfl (by kernel_rfl) (by kernel_rfl)) ?_
      refine XL_nil ?_
      kernel_rfl
     refine V_cond rfl (fun hc24 => ?_) (fun hc24 => ?_)
     ·have h := of_true h hc24
      obtain ⟨y25, hy25, h⟩ := of_bind h
      refine V_reg (mb 72 115136) [] (s1 := ⟨bt 6 (I y23 :: I y25 :: I o15.2.1 :: bt 5 (.c (.sl (list1.map c123)) :: I ((list1.length : Int)) :: I t5 :: bt 55 [])), []⟩) ?_ ?_
      ·refine L0 rfl rfl (E_move (I o15.1) rfl (by kernel_rfl)) ?_
       refine L0 rfl rfl (E_move (I y23) rfl (by kernel_rfl)) ?_
       refine L1 rfl rfl (Y1_call (s_impl_mod hy25) cf_impl_mod rfl (by kernel_rfl)) ?_
       refine L0 rfl rfl (E_assign (I y25) rfl (by kernel_rfl)) ?_
       refine XL_nil ?_
       kernel_rfl
      show V _ _ _ _
      obtain ⟨t26, ht26, h⟩ := of_sI h
      refine V_reg (mb 72 115136) [] (s1 := ⟨bt 6 (I y23 :: I y25 :: I o15.2.1 :: bt 5 (.c (.sl (list1.map c123)) :: I ((list1.length : Int)) :: I t26 :: bt 55 [])), []⟩) ?_ ?_
      ·refine L0 rfl rfl (Y0_add64 (a := t5) (b := 1) rfl (by kernel_rfl) (by kernel_rfl)) ?_
       refine L0 rfl rfl (E_move (I (w64 (t5 + 1))) rfl (by kernel_rfl)) ?_
       refine XL_nil ?_
       subst ht26
       kernel_rfl
      exact ⟨n, Nat.lt_succ_self n, _, _, _, _,  by rfl, h⟩
     ·have h := of_false h hc24
      refine V_skip ?_
      show V _ _ _ _
      obtain ⟨t27, ht27, h⟩ := of_sI h
      refine V_reg (mb 72 115136) [] (s1 := ⟨bt 6 (I y23 :: I o15.1 :: I o15.2.1 :: bt 5 (.c (.sl (list1.map c123)) :: I ((list1.length : Int)) :: I t27 :: bt 55 [])), []⟩) ?_ ?_
      ·refine L0 rfl rfl (Y0_add64 (a := t5) (b := 1) rfl (by kernel_rfl) (by kernel_rfl)) ?_
       refine L0 rfl rfl (E_move (I (w64 (t5 + 1))) rfl (by kernel_rfl)) ?_
       refine XL_nil ?_
       subst ht27
       kernel_rfl
      exact ⟨n, Nat.lt_succ_self n, _, _, _, _,  by rfl, h⟩
    ·have h := of_false h hc8
     refine V_exit ?_
     obtain rfl := some_inj h
     show St.keep _ _ _ = _
     rfl
  show V _ _ _ _
  refine V_seq ?_
  refine V_sreg (mb 72 1152921504606847424) [] (s1 := ⟨bt 6 (I o7.1 :: I o7.2.1 :: I o7.2.2 :: bt 51 (Bo (bif (eqI o7.1 0) then true else (eqI o7.2.2 0)) :: bt 11 [])), []⟩) ?_ ?_
  ·refine L0 rfl rfl (E_move (I o7.1) rfl (by kernel_rfl)) ?_
   refine L0 rfl rfl (Y0_eqw (k := .i64) (a := o7.1) (b := 0) rfl (by kernel_rfl) (by kernel_rfl)) ?_
   refine L0 rfl rfl (E_move (Bo (eqI o7.1 0)) rfl (by kernel_rfl)) ?_
   refine XL_split (eqI o7.1 0) (fun hc28 => ?_) (fun hc28 => ?_)
   ·refine XL_skipF _ rfl rfl (by kernel_rfl) hc28 rfl ?_
    refine XL_skipF _ rfl rfl (by kernel_rfl) hc28 rfl ?_
    refine XL_cons rfl (X_of_Y0 rfl (Y0_pick1 (b := eqI o7.1 0) (p := true) (q := eqI o7.2.2 0) rfl (by kernel_rfl) hc28 (by kernel_rfl))) ?_
    refine XL_nil ?_
    kernel_rfl
   ·refine XL_takeC _ rfl rfl (by kernel_rfl) hc28 (X_of_Y0 rfl (E_move (I o7.2.2) rfl (by kernel_rfl))) ?_
    refine XL_takeC _ rfl rfl (by kernel_rfl) hc28 (X_of_Y0 rfl (Y0_eqw (k := .i64) (a := o7.2.2) (b := 0) rfl (by kernel_rfl) (by kernel_rfl))) ?_
    refine XL_cons rfl (X_of_Y0 rfl (Y0_pick0 (b := eqI o7.1 0) (p := true) (q := eqI o7.2.2 0) rfl (by kernel_rfl) hc28 (by kernel_rfl))) ?_
    refine XL_nil ?_
    kernel_rfl
  refine V_cond rfl (fun hc29 => ?_) (fun hc29 => ?_)
  ·have h := of_true h hc29
   refine V_sreg (mb 72 60) [] (s1 := ⟨.bot :: .bot :: I 0 :: I 0 :: I 0 :: Bo false :: bt 66 [], []⟩) ?_ ?_
   ·refine L0 rfl rfl (E_assign (I 0) rfl (by kernel_rfl)) ?_
    refine L0 rfl rfl (E_assign (I 0) rfl (by kernel_rfl)) ?_
    refine L0 rfl rfl (E_assign (I 0) rfl (by kernel_rfl)) ?_
    refine L0 rfl rfl (E_assign (Bo false) rfl (by kernel_rfl)) ?_
    refine XL_nil ?_
    kernel_rfl
   refine V_ret ?_
   obtain rfl := some_inj h
   show Post _ _ _ _ _
   exact ⟨.inr rfl, rfl, rfl, rfl⟩
  ·have h := of_false h hc29
   refine V_skip ?_
   show V _ _ _ _
   obtain ⟨j30, hj30, h⟩ := of_bind h
   refine V_cutK (mb 72 448) [] (s1 := ⟨bt 6 (I o7.1 :: I j30.1 :: I j30.2 :: bt 63 []), []⟩) ?_ ?_
   ·clear h
    have h := hj30
    clear hj30
    refine V_sreg (mb 72 4611686018427388352) [] (s1 := ⟨bt 6 (I o7.1 :: I o7.2.1 :: I o7.2.2 :: bt 53 (Bo (ltI o7.2.2 0) :: bt 9 [])), []⟩) ?_ ?_
    ·refine L0 rfl rfl (E_move (I o7.2.2) rfl (by kernel_rfl)) ?_
     refine L0 rfl rfl (Y0_ltw (k := .i64) (a := o7.2.2) (b := 0) rfl (by kernel_rfl) (by kernel_rfl)) ?_
     refine XL_nil ?_
     kernel_rfl
    refine V_cond rfl (fun hc31 => ?_) (fun hc31 => ?_)
    ·have h := of_true h hc31
     obtain ⟨y32, hy32, h⟩ := of_bind h
     obtain ⟨d33, hd33, h⟩ := of_sI h
     refine V_reg (mb 72 448) [] (s1 := ⟨bt 6 (I o7.1 :: I y32 :: I d33 :: bt 63 []), []⟩) ?_ ?_
     ·refine L0 rfl rfl (E_move (I o7.2.1) rfl (by kernel_rfl)) ?_
      refine L0 rfl rfl (Y0_neg64 (a := o7.2.1) rfl (by kernel_rfl)) ?_
      refine L0 rfl rfl (E_move (I o7.1) rfl (by kernel_rfl)) ?_
      refine L1 rfl rfl (Y1_call (s_impl_mod hy32) cf_impl_mod rfl (by kernel_rfl)) ?_
      refine L0 rfl rfl (E_move (I o7.2.2) rfl (by kernel_rfl)) ?_
      refine L0 rfl rfl (Y0_neg64 (a := o7.2.2) rfl (by kernel_rfl)) ?_
      refine L0 rfl rfl (E_assign (I y32) rfl (by kernel_rfl)) ?_
      refine L0 rfl rfl (E_assign (I (w64 (0 - o7.2.2))) rfl (by kernel_rfl)) ?_
      refine XL_nil ?_
      subst hd33
      kernel_rfl
     obtain rfl := some_inj h
     show St.keep _ _ _ = _
     rfl
    ·have h := of_false h hc31
     refine V_skip ?_
     obtain rfl := some_inj h
     show St.keep _ _ _ = _
     rfl
   refine V_sreg (mb 72 60) [] (s1 := ⟨.bot :: .bot :: I o7.1 :: I j30.1 :: I j30.2 :: Bo true :: bt 66 [], []⟩) ?_ ?_
   ·refine L0 rfl rfl (E_move (I o7.1) rfl (by kernel_rfl)) ?_
    refine L0 rfl rfl (E_move (I j30.1) rfl (by kernel_rfl)) ?_
    refine L0 rfl rfl (E_move (I j30.2) rfl (by kernel_rfl)) ?_
    refine L0 rfl rfl (E_assign (I o7.1) rfl (by kernel_rfl)) ?_
    refine L0 rfl rfl (E_assign (I j30.1) rfl (by kernel_rfl)) ?_
    refine L0 rfl rfl (E_assign (I j30.2) rfl (by kernel_rfl)) ?_
    refine L0 rfl rfl (E_assign (Bo true) rfl (by kernel_rfl)) ?_
    refine XL_nil ?_
    kernel_rfl
   refine V_ret ?_
   obtain rfl := some_inj h
   show Post _ _ _ _ _
   exact ⟨.inr rfl, rfl, rfl, rfl⟩
theorem cf_impl_latticeOf : ∀ args w, (callFunc 64 args).run Try.prog w = .ok (.enter 64 args) w := run_callFunc Try.func64 (by kernel_rfl) (by kernel_rfl)
set_option maxRecDepth 100000 in
set_option maxHeartbeats 400000 in
theorem s_impl_latticeOf {list1 : List ((Int × Int))} {r : (((Int × Int × Int)) × Bool)} (h : r_impl_latticeOf list1 = some r) : CallS Try.prog 64 [.c (.sl (list1.map c123))] (.tc (.ag [Ti r.1.1, Ti r.1.2.1, Ti r.1.2.2]) (.tc (Bo r.2) .tn)) [] := by
  refine CallS_of_text (rs := [.w 2 3, .t 3]) (vs := [.cell 2 25, .tmp 3]) Try.func64 rfl rfl (.cons ⟨rfl, wd25⟩ (.cons rfl FitsL.nil)) (by decide) 25 rfl ?_
  unfold r_impl_latticeOf at h
  show V _ _ ⟨.c (.sl (list1.map c123)) :: bt 24 [], []⟩ _
  refine V_sreg (mb 25 5) [16] (s1 := ⟨.c (.sl (list1.map c123)) :: .bot :: .pt 16 0 :: bt 22 [], [(16, .box [Ti 0, Ti 0, Ti 0])]⟩) ?_ ?_
  ·refine L1 rfl rfl (Y1_alloc (z := zv25) rfl zf25 rfl) ?_
   refine L0 rfl rfl (E_assign (Bo false) rfl (by kernel_rfl)) ?_
   refine XL_nil ?_
   kernel_rfl
  obtain ⟨y2, hy2, h⟩ := of_bind h
  refine V_sreg (mb 25 244) [16] (s1 := ⟨.bot :: .bot :: .pt 16 0 :: .bot :: I y2.1 :: I y2.2.1 :: I y2.2.2.1 :: Bo y2.2.2.2 :: bt 17 [], [(16, .box [Ti 0, Ti 0, Ti 0])]⟩) ?_ ?_
  ·refine L0 rfl rfl (E_move (.c (.sl (list1.map c123))) rfl (by kernel_rfl)) ?_
   refine L1 rfl rfl (Y1_call (s_impl_hermite hy2) cf_impl_hermite rfl (by kernel_rfl)) ?_
   refine L0 rfl rfl (E_move (.tc (I y2.1) (.tc (I y2.2.1) (.tc (I y2.2.2.1) (.tc (Bo y2.2.2.2) .tn)))) rfl (by kernel_rfl)) ?_
   refine L0 rfl rfl (E_ext (n := 0) (I y2.1) (.tc (I y2.2.1) (.tc (I y2.2.2.1) (.tc (Bo y2.2.2.2) .tn))) (I y2.1) rfl (by kernel_rfl) (by kernel_rfl) (by intro hh; cases hh)) ?_
   refine L0 rfl rfl (E_ext (n := 1) (I y2.1) (.tc (I y2.2.1) (.tc (I y2.2.2.1) (.tc (Bo y2.2.2.2) .tn))) (I y2.2.1) rfl (by kernel_rfl) (by kernel_rfl) (by intro hh; cases hh)) ?_
   refine L0 rfl rfl (E_ext (n := 2) (I y2.1) (.tc (I y2.2.1) (.tc (I y2.2.2.1) (.tc (Bo y2.2.2.2) .tn))) (I y2.2.2.1) rfl (by kernel_rfl) (by kernel_rfl) (by intro hh; cases hh)) ?_
   refine L0 rfl rfl (E_ext (n := 3) (I y2.1) (.tc (I y2.2.1) (.tc (I y2.2.2.1) (.tc (Bo y2.2.2.2) .tn))) (Bo y2.2.2.2) rfl (by kernel_rfl) (by kernel_rfl) (by intro hh; cases hh)) ?_
   refine L0 rfl rfl (E_assign (I y2.1) rfl (by kernel_rfl)) ?_
   refine L0 rfl rfl (E_assign (I y2.2.1) rfl (by kernel_rfl)) ?_
   refine L0 rfl rfl (E_assign (I y2.2.2.1) rfl (by kernel_rfl)) ?_
   refine L0 rfl rfl (E_assign (Bo y2.2.2.2) rfl (by kernel_rfl)) ?_
   refine XL_nil ?_
   kernel_rfl
  refine V_seq ?_
  refine V_sreg (mb 25 65652) [16] (s1 := ⟨.bot :: .bot :: .pt 16 0 :: .bot :: I y2.1 :: I y2.2.1 :: I y2.2.2.1 :: bt 9 (Bo (!y2.2.2.2) :: bt 8 []), [(16, .box [Ti 0, Ti 0, Ti 0])]⟩) ?_ ?_
  ·refine L0 rfl rfl (E_move (Bo y2.2.2.2) rfl (by kernel_rfl)) ?_
   refine L0 rfl rfl (Y0_not (b := y2.2.2.2) rfl (by kernel_rfl)) ?_
   refine XL_nil ?_
   kernel_rfl
  refine V_cond rfl (fun hc3 => ?_) (fun hc3 => ?_)
  ·have h := of_true h hc3
   refine V_sreg (mb 25 12) [16] (s1 := ⟨.bot :: .bot :: .pt 16 0 :: Bo false :: bt 21 [], [(16, .box [Ti 0, Ti 0, Ti 0])]⟩) ?_ ?_
   ·refine L0 rfl rfl (Y0_build (cs := [Ti 0, Ti 0, Ti 0]) pl25 bt25 rfl rfl (by kernel_rfl)) ?_
    refine XL_cons rfl (E_store (id := 16) (off := 0) (cs := [Ti 0, Ti 0, Ti 0]) (vc := [Ti 0, Ti 0, Ti 0]) [Ti 0, Ti 0, Ti 0] rfl rfl (by kernel_rfl) (by kernel_rfl) (by kernel_rfl) sz25 (Nat.le_of_ble_eq_true rfl) (by kernel_rfl)) ?_
    refine L0 rfl rfl (E_assign (Bo false) rfl (by kernel_rfl)) ?_
    refine XL_nil ?_
    kernel_rfl
   refine V_ret ?_
   obtain rfl := some_inj h
   show Post _ _ _ _ _
   exact ⟨.inr rfl, rfl, rfl, rfl⟩
  ·have h := of_false h hc3
   refine V_skip ?_
   show V _ _ _ _
   obtain ⟨y4, hy4, h⟩ := of_bind h
   refine V_sreg (mb 25 12) [16] (s1 := ⟨.bot :: .bot :: .pt 16 0 :: Bo y4.2 :: bt 21 [], [(16, .box [Ti y4.1.1, Ti y4.1.2.1, Ti y4.1.2.2])]⟩) ?_ ?_
   ·refine L0 rfl rfl (E_move (I y2.1) rfl (by kernel_rfl)) ?_
    refine L0 rfl rfl (E_move (I y2.2.1) rfl (by kernel_rfl)) ?_
    refine L0 rfl rfl (E_move (I y2.2.2.1) rfl (by kernel_rfl)) ?_
    refine L0 rfl rfl (Y0_build (cs := [Ti y2.1, Ti y2.2.1, Ti y2.2.2.1]) pl25 bt25 rfl rfl (by kernel_rfl)) ?_
    refine L1 rfl rfl (Y1_call (s_impl_validLattice hy4) cf_impl_validLattice rfl (by kernel_rfl)) ?_
    refine L0 rfl rfl (E_ext (n := 0) (.ag [Ti y4.1.1, Ti y4.1.2.1, Ti y4.1.2.2]) (.tc (Bo y4.2) .tn) (.ag [Ti y4.1.1, Ti y4.1.2.1, Ti y4.1.2.2]) rfl (by kernel_rfl) (by kernel_rfl) (by intro hh; cases hh)) ?_
    refine L0 rfl rfl (E_ext (n := 1) (.ag [Ti y4.1.1, Ti y4.1.2.1, Ti y4.1.2.2]) (.tc (Bo y4.2) .tn) (Bo y4.2) rfl (by kernel_rfl) (by kernel_rfl) (by intro hh; cases hh)) ?_
    refine XL_cons rfl (E_store (id := 16) (off := 0) (cs := [Ti 0, Ti 0, Ti 0]) (vc := [Ti y4.1.1, Ti y4.1.2.1, Ti y4.1.2.2]) [Ti y4.1.1, Ti y4.1.2.1, Ti y4.1.2.2] rfl rfl (by kernel_rfl) (by kernel_rfl) (by kernel_rfl) sz25 (Nat.le_of_ble_eq_true rfl) (by kernel_rfl)) ?_
    refine L0 rfl rfl (E_assign (Bo y4.2) rfl (by kernel_rfl)) ?_
    refine XL_nil ?_
    kernel_rfl
   refine V_ret ?_
   obtain rfl := some_inj h
   show Post _ _ _ _ _
   exact ⟨.inr rfl, rfl, rfl, rfl⟩
end Go.Proofs.Ytgeajejmikaniaa
